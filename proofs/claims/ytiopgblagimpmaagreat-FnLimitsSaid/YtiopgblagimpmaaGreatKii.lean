/- An object allocated: the program's. No condition. -/
import Derived.Test.YtiopgblagimpmaaGreatKic
import Derived.Test.YtiopgblagimpmaaGreatKih
import Derived.Test.YtiopgblagimpmaaGreatKie
import Derived.Test.YtiopgblagimpmaaGreatKig
import Derived.Test.YtiopgblagimpmaaGreatKif
import Derived.ProofKit
import Derived.OpenShut
import Derived.Deep.Slices
import Derived.Deep.Fields
import Derived.ChangeSame
import Derived.WideShapes
set_option linter.unusedVariables false
set_option linter.defProp false
set_option linter.unusedSimpArgs false
set_option linter.constructorNameAsVariable false
namespace Go.Proofs.YtiopgblagimpmaaGreat.Ab
open Go.RowKit
set_option maxRecDepth 20000
set_option maxHeartbeats 4000000
def KQ(k:am)(p:Int):newsK k p 1=((newK k p).1,if(newK k p).2=true then 1 else 0):=by
 show(if(0:Nat)=0 then((newK k (p+((0:Nat):Int))).1,if(newK k (p+((0:Nat):Int))).2=true then 0+1 else 0) else(k,0))=_;rw[CC rfl,show p+((0:Nat):Int)=p by omega]
def KS(h:ac):wX h 1=if(ax h.j 1).2.2=false then(h,-1,false)
  else if(newK h.G (ax h.j 1).2.1).2=false then({h with G:=(newK h.G (ax h.j 1).2.1).1},-1,false)
  else({h with G:=(newK h.G (ax h.j 1).2.1).1,j:=(ax h.j 1).1},(ax h.j 1).2.1,true):=by
 unfold wX;rw[show((1:Nat):Int)=1 from rfl,KQ];cases e:(newK h.G (ax h.j 1).2.1).2
 ·simp[unmN]
 simp
def Ru(h:ac)(a:C):List C:=(gR h).set 9 a
def rm(h:ac)(a:C):Prop:=fz a=.s .V (h.S.map (aE.enc .V))
def rm.own(h:ac):rm h (.s .own (h.S.map (aE.enc .own))):=by
 have a:=X0 (λl:List C=>l[9]?) (iM h);have b:(dJ (gR h))[9]? = some (fz (.s .own (h.S.map (aE.enc .own)))):=rfl;have c:(ac.enc .V h)[9]? = some (.s .V (h.S.map (aE.enc .V))):=rfl;simp only[b,c,Z0]at a;exact a
def TN(h:ac)(t c:Nat):C:=.s .own ((h.S.map (aE.enc .own)).set t [.s .own (((nth h.S t).a.map (aH .own)).set c (aH .V ((nth (nth h.S t).a c).take ((nth (nth h.S t).a c).length - 1))))])
def Rz(h:ac)(t c:Nat):rm {h with S:=h.S.set t (qm (nth h.S t) c)} (TN h t c):=by
 have b:fz (.s .own (h.S.map (aE.enc .own)))=.s .V (h.S.map (aE.enc .V)):=rm.own h;have e:∀a:List (List C),fz (.s .own a)=.s .V (a.map dJ):=λa=>by rw[Rv];congr 1;apply List.map_congr_left;intro r _;rw[bX]
 unfold rm TN;rw[e]at b |-;simp only[C.s.injEq,true_and]at b |-;rw[I6,b,I6]
 congr 1
 have d:=Ce (qm (nth h.S t) c);rw[Em]at d;rw[<-d];simp only[dJ,e,I6]
 congr 3
def Lz(h:ac){t:Nat}(a:t<h.S.length)(r:List C):gR h=((gR h).set 9 (.s .own ((h.S.map (aE.enc .own)).set t r))).set 9 (.s .own (((h.S.map (aE.enc .own)).set t r).set t (aE.enc .own (nth h.S t)))):=by
 have e:(h.S.map (aE.enc .own)).set t (aE.enc .own (nth h.S t))=h.S.map (aE.enc .own):=by
  rw[<-I6,HW a]
 rw[List.set_set,List.set_set,e];rfl
def xq(h:ac)(t c:Nat)(o:bc h [])(E:t<h.S.length)(T:c<=3)(r:h.G.Calls<=90000):∃W,rm (smallA h t c).1 W/\zzB 65 false [.ptr (gR h),.val none [I (t:Nat)],.val none [I (c:Nat)]] [.ptr (Ru (smallA h t c).1 W),.val none [I (t:Nat)],.val none [I (c:Nat)]] (.tup [none,none]) [I (smallA h t c).2,B (decide (0<=(smallA h t c).2))]:=by
 have w:=o.cach _ (ar E);have hl4:=lX w;have d:=au E;have F:=xv (nth h.S t) c w T;have hls:=o.lens.spans;have C:=o;have G:=Lz h E;unfold TU at F;by_cases N:0<(nth (nth h.S t).a c).length
 ·obtain⟨O,H⟩:=o.pop E ω N (JU w c)
  have k:=je.nn o H;unfold smallA;rw[CC N]at F |-;refine⟨TN h t c,Rz h t c,?_⟩;simp only;rw[O0 k];refine fM 86 [(186,[1,0]),(188,[2,0]),(189,[2,0]),(190,[2,0]),(4000062,[]),(5000077,[])] [(3,6,[31,32,33,34,35,36]),(8,10,[49,50,51,52,53,54,55,56,57,58])] [(0,0),(0,0),(0,0)] Tryz.func65 rfl (λu q=>?_) (.inr ⟨trivial,trivial,trivial⟩)
  repeat'(first|refine gP ?_|(conv=>whnf);first|with_reducible refine CD (aa d) ?_|refine CB ?_|refine CD (eN d) ?_|refine CH rfl (aa d) rfl ?_|refine CH rfl (eN d) rfl ?_|refine Lq.one rfl rfl (aa d) rfl (I1 rfl) rfl rfl ?_|refine CK (F) (.inl rfl) ?_|refine CB ?_|refine CP rfl rfl (eN d) rfl (I1 rfl) (G _) ?_|refine CP rfl rfl (aa d) rfl (I1 rfl) rfl ?_)
  refine CG rfl rfl ?_;exact wC
 rw[C9 N]at F;refine⟨_,rm.own _,?_⟩;change aK _ _ _ _ [.ptr (gR (smallA h t c).1),_,_] _ _;have e:smallA h t c=match od h c with
  | some i=>(slotT h i,pE h i)
  | none=>if(ax h.j 1).2.2=false then(h,-1)
   else if(newK h.G (ax h.j 1).2.1).2=false then({h with G:=(newK h.G (ax h.j 1).2.1).1},-1)
   else iY (lM h c) (lK h):=by unfold smallA;exact C9 N
 refine fM 86 [(186,[1,0]),(188,[2,0]),(189,[2,0]),(190,[2,0]),(4000062,[]),(5000077,[])] [(3,6,[31,32,33,34,35,36]),(8,10,[49,50,51,52,53,54,55,56,57,58])] [(0,0),(0,0),(0,0)] Tryz.func65 rfl (λu q=>?_) (.inr ⟨trivial,trivial,trivial⟩)
 repeat'(first|refine gP ?_|(conv=>whnf);first|with_reducible refine CD (aa d) ?_|refine CB ?_|refine CD (eN d) ?_|refine CH rfl (aa d) rfl ?_|refine CH rfl (eN d) rfl ?_|refine Lq.one rfl rfl (aa d) rfl (I1 rfl) rfl rfl ?_|refine CK (F) (.inl rfl) ?_|refine CB ?_|refine CP rfl rfl (eN d) rfl (I1 rfl) (G _) ?_)
 (conv=>whnf)
 refine CJ (ι:=Nat) (λi=>[(0,.H .box (gR h)),(2,.H .one [I ((c:Nat):Int)]),(42,.c2 0 6 [] none),(43,.H .one [I (h.J.length)]),(44,.H .one [I ((i:Nat):Int)])]) (λi=>i<=h.J.length/\∀j,j<i->nq h c j=false) (λi=>h.J.length - i) (0) ?_ (⟨W0 _,λj hj=>ω⟩) λi o=>?_
 ·exact wC
 obtain⟨hi1,J⟩:=o;by_cases K:i<h.J.length
 ·have n:=au K
  by_cases X:(nth h.J i).d=c
  ·have L:=K4 h (nth h.J i).Q
   cases P:f6 h (nth h.J i).Q with
   | true=>
    rw[P]at L
    repeat'(first|refine gB ?_|(conv=>whnf);first|with_reducible refine CD (aa n) ?_|refine CB ?_|refine CH rfl (aa n) rfl ?_|refine CF (L) ⟨⟨rfl,iM h⟩,⟨rfl,rfl⟩,trivial⟩ ?_|refine CB ?_)
    ((conv=>whnf);refine CE (i+1) ⟨ω,kS (by unfold nq;rw[P];simp) J⟩ ω ?_;(exact wC))
   | false=>
    rw[P]at L;by_cases M:(gC h i).length=0
    ·have y:=yM h [] i C K M
     repeat'(first|refine gB ?_|(conv=>whnf);first|with_reducible refine CD (aa n) ?_|refine CB ?_|refine CH rfl (aa n) rfl ?_|refine CF (L) ⟨⟨rfl,iM h⟩,⟨rfl,rfl⟩,trivial⟩ ?_|refine Ch.pl ?_|refine CF (y) ⟨iM h,⟨rfl,rfl⟩,trivial⟩ ?_|refine CB ?_)
     ((conv=>whnf);refine CE (i+1) ⟨ω,kS (by unfold nq;rw[U0 (by omega:¬0<(gC h i).length)];simp) J⟩ ω ?_;(exact wC))
    have y:=oy h [] i C K;unfold iY at y;rw[C9 M,O0 (by omega:0<(gC h i).length)]at y;have U:od h c=some i:=uP K (by unfold nq;rw[O0 X,P,O0 ω];rfl) J;rw[U]at e;simp only at e;obtain⟨O,H⟩:=C.slotT K (by omega:0<(gC h i).length);have k:=je.nn O H;rw[e];generalize slotT h i=g at y |-;generalize pE h i=a at y k |-;rw[O0 k]
    repeat'(first|refine gB ?_|(conv=>whnf);first|with_reducible refine CD (aa n) ?_|refine CB ?_|refine CH rfl (aa n) rfl ?_|refine CF (L) ⟨⟨rfl,iM h⟩,⟨rfl,rfl⟩,trivial⟩ ?_|refine Ch.lt ?_|refine CK (y) (.inl rfl) ?_|refine CB ?_)
    refine CG rfl rfl ?_;exact wC
  repeat'(first|refine gB ?_|(conv=>whnf);first|with_reducible refine CD (aa n) ?_|refine CB ?_|refine CH rfl (aa n) rfl ?_|refine CB ?_)
  ((conv=>whnf);refine CE (i+1) ⟨ω,kS (by unfold nq;rw[U0 X];rfl) J⟩ ω ?_;(exact wC))
 obtain rfl:i=h.J.length:=ω
 have U:od h c=none:=uQ J;rw[U]at e;simp only at e;have l:=oQ h 1 C r ⟨ω,ω⟩;rw[KS]at l;rw[e];by_cases Q:(ax h.j 1).2.2=false
 ·rw[CC Q]at l |-
  repeat'(first|refine gE ?_|(conv=>whnf);first|refine CB ?_|refine CK (l) (.inl rfl) ?_)
  refine CG rfl rfl ?_;exact wC
 rw[C9 Q]at l |-;by_cases R:(newK h.G (ax h.j 1).2.1).2=false
 ·rw[CC R]at l |-
  repeat'(first|refine gE ?_|(conv=>whnf);first|refine CB ?_|refine CK (l) (.inl rfl) ?_)
  refine CG rfl rfl ?_;exact wC
 rw[C9 R]at l |-;obtain⟨Y,Z⟩:=F9 C T r Q R;have D:=vD {h with G:=(newK h.G (ax h.j 1).2.1).1,j:=(ax h.j 1).1} (ax h.j 1).2.1 (c:Nat) (by show h.J.length<=4096;omega);have S:=oy (lM h c) [] (lK h) Y Z;have V:=mE C E T r;rw[e,C9 Q,C9 R]at V;have k:decide (0<(gC (lM h c) (lK h)).length)=decide (0<=(iY (lM h c) (lK h)).2):=by
  unfold iY;by_cases M:(gC (lM h c) (lK h)).length=0
  ·rw[CC M,U0 ω];rfl
  rw[C9 M,O0 ω];obtain⟨O,H⟩:=Y.slotT Z ω;exact(O0 (je.nn O H)).symm
 rw[k]at S;change aK _ _ _ _ [.ptr (gR (lM h c)),_] _ [I ((lK h:Nat):Int)]at D;generalize (ax h.j 1).2.1=p at l D;generalize lM h c=g at D S |-;generalize lK h=b at D S |-;generalize ({h with G:=(newK h.G p).1,j:=(ax h.j 1).1} : ac)=h1 at l D
 repeat'(first|refine gE ?_|(conv=>whnf);first|refine CB ?_|refine CK (l) (.inl rfl) ?_|refine CK (D) (.inl rfl) ?_|refine CK (S) (.inl rfl) ?_)
 refine CG rfl rfl ?_;exact wC
def wv(h:ac)(size:Int)(e:bc h [])(l:9<=size/\size<=1000)(n:h.G.Calls<=90000):zzB 66 false [.ptr (gR h),.val none [I size]] [.ptr (gR (zq h size).1),.val none [I size]] (.tup [none,none]) [I (zq h size).2,B (decide (0<=(zq h size).2))]:=by
 have E:=e.lens.larges;have R:=e;have o:eR size=((fW size:Nat):Int):=by unfold eR fW;split<;>omega
 have F:1<=fW size/\fW size<=63:=by unfold fW;omega
 have g:=qN size;rw[o]at g;have a:=oQ h (fW size) e n F;have c:=ip e (show(1:Int)<=(fW size:Nat) by omega);unfold wX at a;unfold zq dB;generalize fW size=N at *;generalize ax h.j (N:Nat)=r at a c |-;obtain⟨G,p,ok⟩:=r;simp only at a c |-;refine fM 56 [(189,[2,0]),(192,[1,0,1])] [(7,268,[39,40,41,42,43,44,45,46,47,48,49,50,0,1,2,3,4,5,6,7,8,9,10,11,12,1000,13,14,15])] [(0,0),(0,0)] Tryz.func66 rfl (λu q=>?_) (.inr ⟨trivial,trivial,trivial⟩);cases ok with
 | false=>
  rw[CC rfl]at a |-
  repeat'(first|refine gP ?_|(conv=>whnf);first|refine CB ?_|refine C8 (g) ?_|refine CK (a) (.inl rfl) ?_)
  refine CG rfl rfl ?_;exact wC
 | true=>
  rw[C9 (by simp)]at a |-;obtain⟨S,H,-,-⟩:=c rfl;have J:h.G.F.R.K.length<=32:=e.lens.ents;have t:p+(N:Nat)<=(h.G.F.R.K.length:Nat):=H;by_cases w:(newsK h.G p N).2=N
  ·rw[CC w]at a |-
   rw[O0 (show(0:Int)<=16*p by omega)];generalize (newsK h.G p N).1=k at a |-
   repeat'(first|refine gP ?_|(conv=>whnf);first|refine CB ?_|refine C8 (g) ?_|refine CK (a) (.inl rfl) ?_)
   (conv=>whnf)
   refine CJ (ι:=Nat) (λm=>[(0,.H .box (gR {h with G:=k,j:=G})),(1,.H .one [I (size)]),(6,.H .one [I (p)]),(8,.H .one [I ((m:Nat):Int)])]) (λm=>m<=h.M.length/\∀(j:Nat)(z:aD),j<m->h.M[j]? = some z->P2 p z=false) (λm=>h.M.length - m) (0) ?_ (⟨W0 _,λj z T=>ω⟩) λm K=>?_
   ·exact wC
   obtain⟨L,C⟩:=K;by_cases M:m<h.M.length/\(nth h.M m).Q<p
   ·have d:=au M.1
    repeat'(first|refine gP ?_|(conv=>whnf);first|refine CB ?_|refine Bf.D (λb=>?_) (λb=>absurd b (by first|omega|(simp only at *;omega)))|refine CD (aa d) ?_|refine CH rfl (aa d) rfl ?_)
    ((conv=>whnf);refine CE (m+1) ⟨ω,dX d (U0 ω) C⟩ ω ?_;(exact wC))
   have i:iQ (P2 p) h.M=m:=lT ω C λz l=>by
    have O:=(U2.1 l).1;have:z=nth h.M m:=(bn l).symm;subst this;exact O0 ω
   have d:m<h.M.length->h.M[m]? = some (nth h.M m):=λP=>au P
   have Q:=BE h.M m ⟨p,(N:Nat),size⟩ ω ω;rw[mg i]
   repeat'(first|refine gP ?_|(conv=>whnf);first|refine CB ?_|refine Bf.D (λb=>?_) (λb=>absurd b (by first|omega|(simp only at *;omega)))|refine Bf.D (λb=>absurd b (by first|omega|(simp only at *;omega))) (λb=>?_)|refine Bf.D (λb=>?_) (λb=>?_)|refine CD (aa (d (by first|omega|(simp only at *;omega)))) ?_|refine CH rfl (aa (d (by first|omega|(simp only at *;omega)))) rfl ?_|refine C8 (g) ?_|refine CK (Q) (.inl rfl) ?_|refine CB ?_)
   all_goals
    refine CG rfl ?_ ?_
    ·exact X0 (λy=>[I y,B true]) (show p*16=16*p by omega)
    exact wC
  rw[C9 w]at a |-
  repeat'(first|refine gP ?_|(conv=>whnf);first|refine CB ?_|refine C8 (g) ?_|refine CK (a) (.inl rfl) ?_)
  refine CG rfl rfl ?_;exact wC
def xB(h:ac)(t size:Int)(hs:ac.sml h)(l:bc h [])(W:jS h=true):∃H,rm (allocH h t size).1 H/\zzB 17 false [.mut (some 24) (ac.enc .own h),.val none [I t],.val none [I size]] [.mut (some 24) (ac.enc .own h),.val none [I t],.val none [I size]] (.tup [some 24,none,none]) (Ru (allocH h t size).1 H++[I (allocH h t size).2.1,I (allocH h t size).2.2]):=by
 have hl:=l.lens;have hlc:=hl.caches;have X:=hl.objs;have B:=l.nums;unfold cu at B;rw[C0]at B;have Y:=kO l.objSz h.O.length (I3 _);change 0<=gH h/\gH h<=_ at Y;have r:=GH h hs;have p:=FY h hs;rw[W]at p;have y:=aO t 0 ((h.S.length:Int) - 1);have C:=aO size 1 1000;have J:=pi h l.objSz ω;have L:=tp size;have n:∀(w:World)(S:ah)(V:Nat->ah)(U:List Value),JM w S V [.mut (some 24) (ac.enc .own h),.val none [I t],.val none [I size]] U->JM w NO V [.mut (some 24) (ac.enc .own h),.val none [I t],.val none [I size]] U:=λw S V U n=>by
  match U,n with
  | [v,v2,v3],⟨⟨e1,u,e2,e3⟩,⟨e4,u2,e5,e6⟩,⟨e7,u3,e8,e9⟩,_⟩=>
   exact⟨⟨e1,u,e2,e3.fresh (ac.enc_fr h)⟩,⟨e4,u2,e5,e6.fresh ⟨trivial,trivial⟩⟩,⟨e7,u3,e8,e9.fresh ⟨trivial,trivial⟩⟩,trivial⟩
 unfold allocH;by_cases h1:1000000<=h.b
 ·rw[CC (.inl h1)]
  refine⟨_,rm.own _,aK.noS ?_ n⟩;change aK _ _ _ _ _ _ (gR _++_);refine fM 108 [(65,[2,0,0]),(66,[2,0]),(67,[1,0,1])] [(8,6,[47,48,49,50,51,52])] [(3,0),(0,0),(0,0)] Tryz.func17 rfl (λu q=>?_) (.inl rfl)
  repeat'(first|refine gB ?_|(conv=>whnf);first|refine CB ?_|refine CF (r) ⟨⟨rfl,CV h⟩,trivial⟩ ?_|refine CF (p) ⟨⟨rfl,CV h⟩,trivial⟩ ?_)
  refine CG rfl rfl ?_;exact wC
 by_cases h2:90000<h.G.Calls
 ·rw[CC (.inr h2)]
  refine⟨_,rm.own _,aK.noS ?_ n⟩;change aK _ _ _ _ _ _ (gR _++_);refine fM 108 [(65,[2,0,0]),(66,[2,0]),(67,[1,0,1])] [(8,6,[47,48,49,50,51,52])] [(3,0),(0,0),(0,0)] Tryz.func17 rfl (λu q=>?_) (.inl rfl)
  repeat'(first|refine gB ?_|(conv=>whnf);first|with_reducible refine Bf.D (λb=>?_) (λb=>?_)|refine CB ?_|refine CF (r) ⟨⟨rfl,CV h⟩,trivial⟩ ?_|refine CF (p) ⟨⟨rfl,CV h⟩,trivial⟩ ?_)
  refine CG rfl rfl ?_;exact wC
 rw[C9 ω];by_cases F:¬(0<=t/\t<=h.S.length - 1)
 ·rw[CC F]
  rw[U0 F]at y;refine⟨_,rm.own _,aK.noS ?_ n⟩;change aK _ _ _ _ _ _ (gR _++_);refine fM 108 [(65,[2,0,0]),(66,[2,0]),(67,[1,0,1])] [(8,6,[47,48,49,50,51,52])] [(3,0),(0,0),(0,0)] Tryz.func17 rfl (λu q=>?_) (.inl rfl)
  repeat'(first|refine gB ?_|(conv=>whnf);first|with_reducible refine Bf.D (λb=>?_) (λb=>?_)|refine CB ?_|refine CF (r) ⟨⟨rfl,CV h⟩,trivial⟩ ?_|refine CF (p) ⟨⟨rfl,CV h⟩,trivial⟩ ?_|refine C8 (y) ?_)
  refine CG rfl rfl ?_;exact wC
 rw[C9 F];replace F:=Decidable.not_not.1 F;rw[O0 F]at y;by_cases E:¬(1<=size/\size<=1000)
 ·rw[CC E]
  rw[U0 E]at C;refine⟨_,rm.own _,aK.noS ?_ n⟩;change aK _ _ _ _ _ _ (gR _++_);refine fM 108 [(65,[2,0,0]),(66,[2,0]),(67,[1,0,1])] [(8,6,[47,48,49,50,51,52])] [(3,0),(0,0),(0,0)] Tryz.func17 rfl (λu q=>?_) (.inl rfl)
  repeat'(first|refine gB ?_|(conv=>whnf);first|with_reducible refine Bf.D (λb=>?_) (λb=>?_)|refine CB ?_|refine CF (r) ⟨⟨rfl,CV h⟩,trivial⟩ ?_|refine CF (p) ⟨⟨rfl,CV h⟩,trivial⟩ ?_|refine C8 (y) ?_|refine C8 (C) ?_)
  refine CG rfl rfl ?_;exact wC
 rw[C9 E];replace E:=Decidable.not_not.1 E;rw[O0 E]at C;by_cases h5:h.c0<gH h+size
 ·rw[CC h5]
  refine⟨_,rm.own _,aK.noS ?_ n⟩;change aK _ _ _ _ _ _ (gR _++_);refine fM 108 [(65,[2,0,0]),(66,[2,0]),(67,[1,0,1])] [(8,6,[47,48,49,50,51,52])] [(3,0),(0,0),(0,0)] Tryz.func17 rfl (λu q=>?_) (.inl rfl)
  repeat'(first|refine gB ?_|(conv=>whnf);first|with_reducible refine Bf.D (λb=>?_) (λb=>?_)|refine CB ?_|refine CF (r) ⟨⟨rfl,CV h⟩,trivial⟩ ?_|refine CF (p) ⟨⟨rfl,CV h⟩,trivial⟩ ?_|refine C8 (y) ?_|refine C8 (C) ?_|refine CF (J) ⟨⟨rfl,CV h⟩,trivial⟩ ?_|refine CB ?_)
  refine CG rfl rfl ?_;exact wC
 rw[C9 h5];by_cases M:0<=aL size
 ·rw[CC M]
  have hc3:aL size<=3:=by unfold aL;repeat' split<;>omega
  obtain⟨T,rfl⟩:=z3 F.1;obtain⟨K,hK⟩:=z3 M;obtain⟨H,G,d⟩:=xq h T K l ω ω ω;have s:=mE (t:=T) (c:=K) l ω ω ω;rw[hK]at L |-;simp only[Z2];generalize smallA h T K=w at d s G |-;obtain⟨g,a⟩:=w;have e:g.b=h.b:=s.nx;simp only at d |-;by_cases N:a<0
  ·rw[CC N]
   rw[U0 ω]at d;refine⟨H,G,aK.noS ?_ n⟩;refine fM 108 [(65,[2,0,0]),(66,[2,0]),(67,[1,0,1])] [(8,6,[47,48,49,50,51,52])] [(3,0),(0,0),(0,0)] Tryz.func17 rfl (λu q=>?_) (.inl rfl)
   repeat'(first|refine gB ?_|(conv=>whnf);first|with_reducible refine Bf.D (λb=>?_) (λb=>?_)|refine CB ?_|refine CF (r) ⟨⟨rfl,CV h⟩,trivial⟩ ?_|refine CF (p) ⟨⟨rfl,CV h⟩,trivial⟩ ?_|refine C8 (y) ?_|refine C8 (C) ?_|refine CF (J) ⟨⟨rfl,CV h⟩,trivial⟩ ?_|refine CB ?_|refine C8 (L) ?_|refine CK (d) (.inl rfl) ?_)
   refine CG rfl rfl ?_;exact wC
  rw[C9 N];rw[O0 ω]at d;obtain⟨k1,k2⟩:=s.yes (show(0:Int)<=a by omega);have Z:g.O.length<=512:=k1.lens.objs;have hgx:1<=g.b/\g.b<=1000000:=ω
  refine⟨H,G,aK.noS ?_ n⟩;refine fM 108 [(65,[2,0,0]),(66,[2,0]),(67,[1,0,1])] [(8,6,[47,48,49,50,51,52])] [(3,0),(0,0),(0,0)] Tryz.func17 rfl (λu q=>?_) (.inl rfl)
  repeat'(first|refine gB ?_|(conv=>whnf);first|with_reducible refine Bf.D (λb=>?_) (λb=>?_)|refine CB ?_|refine CF (r) ⟨⟨rfl,CV h⟩,trivial⟩ ?_|refine CF (p) ⟨⟨rfl,CV h⟩,trivial⟩ ?_|refine C8 (y) ?_|refine C8 (C) ?_|refine CF (J) ⟨⟨rfl,CV h⟩,trivial⟩ ?_|refine CB ?_|refine C8 (L) ?_|refine CK (d) (.inl rfl) ?_)
  (conv=>whnf)
  refine CJ (ι:=Nat) (λi=>[(1,.H .one [I ((T:Nat):Int)]),(2,.H .one [I (size)]),(3,.H .box (vK (u 0) 0 (ac.enc .own h))),(6,.H .box (J7)),(9,.H .box (Ru g H)),(10,.H .one [I (a)]),(13,.H .one [I ((i:Nat):Int)])]) (λi=>i<=g.O.length/\∀(j:Nat)(z:bt),j<i->g.O[j]? = some z->Jw a z=false) (λi=>g.O.length - i) (0) ?_ (⟨W0 _,λj z hj=>ω⟩) λi l=>?_
  ·exact wC
  obtain⟨hi',O⟩:=l;by_cases go:i<g.O.length/\(nth g.O i).Addr<a
  ·have k:=au go.1
   repeat'(first|refine gE ?_|(conv=>whnf);first|with_reducible refine CD (aa k) ?_|refine CB ?_|refine CH rfl (aa k) rfl ?_)
   ((conv=>whnf);refine CE (i+1) ⟨ω,dX k (U0 ω) O⟩ ω ?_;(exact wC))
  have o:iQ (Jw a) g.O=i:=lT ω O λz P=>by
   have hlt:=(U2.1 P).1;have:z=nth g.O i:=(bn P).symm;subst this;exact O0 ω
  have k:i<g.O.length->g.O[i]? = some (nth g.O i):=λhh=>au hh
  have c8:=yE g.O i ⟨h.b,a,size,(T:Nat)⟩ ω ω;rw[show addO g a size (T:Nat) = {g with O:=g.O.take i++⟨g.b,a,size,(T:Nat)⟩::g.O.drop i,b:=g.b+1} by unfold addO;rw[mg o],e]
  repeat'(first|refine gE ?_|(conv=>whnf);first|with_reducible (first|refine CD (aa (k ω)) ?_|refine Bf.D (λb=>?_) (λb=>?_))|refine CB ?_|refine CH rfl (aa (k ω)) rfl ?_|refine CK (c8) (.inl rfl) ?_|refine CB ?_)
  all_goals
   refine CG rfl (by rw[e];rfl) ?_;exact wC
 rw[C9 M];have Q:9<=size:=by unfold aL at M;repeat' split at M<;>omega
 have d:=wv h size l ⟨Q,E.2⟩ ω;rw[zS t l ⟨Q,E.2⟩];have hg:(zq h size).1.b=h.b/\(zq h size).1.O=h.O:=by
  unfold zq;split
  ·exact⟨rfl,rfl⟩
  split<;>exact⟨rfl,rfl⟩
 generalize zq h size=w at d hg |-;obtain⟨g,a⟩:=w;obtain⟨e,R⟩:=hg;simp only at d e R |-;have Z:g.O.length<=512:=by rw[R];exact X
 have hgx:1<=g.b/\g.b<=1000000:=ω
 by_cases N:a<0
 ·rw[CC N]
  rw[U0 ω]at d;refine⟨_,rm.own _,aK.noS ?_ n⟩;change aK _ _ _ _ _ _ (gR _++_);refine fM 108 [(65,[2,0,0]),(66,[2,0]),(67,[1,0,1])] [(8,6,[47,48,49,50,51,52])] [(3,0),(0,0),(0,0)] Tryz.func17 rfl (λu q=>?_) (.inl rfl)
  repeat'(first|refine gB ?_|(conv=>whnf);first|with_reducible refine Bf.D (λb=>?_) (λb=>?_)|refine CB ?_|refine CF (r) ⟨⟨rfl,CV h⟩,trivial⟩ ?_|refine CF (p) ⟨⟨rfl,CV h⟩,trivial⟩ ?_|refine C8 (y) ?_|refine C8 (C) ?_|refine CF (J) ⟨⟨rfl,CV h⟩,trivial⟩ ?_|refine CB ?_|refine C8 (L) ?_|refine CK (d) (.inl rfl) ?_)
  refine CG rfl rfl ?_;exact wC
 rw[C9 N];rw[O0 ω]at d;refine⟨_,rm.own _,aK.noS ?_ n⟩;change aK _ _ _ _ _ _ (gR _++_);refine fM 108 [(65,[2,0,0]),(66,[2,0]),(67,[1,0,1])] [(8,6,[47,48,49,50,51,52])] [(3,0),(0,0),(0,0)] Tryz.func17 rfl (λu q=>?_) (.inl rfl)
 repeat'(first|refine gB ?_|(conv=>whnf);first|with_reducible refine Bf.D (λb=>?_) (λb=>?_)|refine CB ?_|refine CF (r) ⟨⟨rfl,CV h⟩,trivial⟩ ?_|refine CF (p) ⟨⟨rfl,CV h⟩,trivial⟩ ?_|refine C8 (y) ?_|refine C8 (C) ?_|refine CF (J) ⟨⟨rfl,CV h⟩,trivial⟩ ?_|refine CB ?_|refine C8 (L) ?_|refine CK (d) (.inl rfl) ?_)
 (conv=>whnf)
 refine CJ (ι:=Nat) (λi=>[(1,.H .one [I (t)]),(2,.H .one [I (size)]),(3,.H .box (vK (u 0) 0 (ac.enc .own h))),(6,.H .box (J7)),(9,.H .box (gR g)),(10,.H .one [I (a)]),(13,.H .one [I ((i:Nat):Int)])]) (λi=>i<=g.O.length/\∀(j:Nat)(z:bt),j<i->g.O[j]? = some z->Jw a z=false) (λi=>g.O.length - i) (0) ?_ (⟨W0 _,λj z hj=>ω⟩) λi l=>?_
 ·exact wC
 obtain⟨hi',O⟩:=l;by_cases go:i<g.O.length/\(nth g.O i).Addr<a
 ·have k:=au go.1
  repeat'(first|refine gE ?_|(conv=>whnf);first|with_reducible refine CD (aa k) ?_|refine CB ?_|refine CH rfl (aa k) rfl ?_)
  ((conv=>whnf);refine CE (i+1) ⟨ω,dX k (U0 ω) O⟩ ω ?_;(exact wC))
 have o:iQ (Jw a) g.O=i:=lT ω O λz P=>by
  have hlt:=(U2.1 P).1;have:z=nth g.O i:=(bn P).symm;subst this;exact O0 ω
 have k:i<g.O.length->g.O[i]? = some (nth g.O i):=λhh=>au hh
 have c8:=yE g.O i ⟨h.b,a,size,t⟩ ω ω;rw[show addO g a size t = {g with O:=g.O.take i++⟨g.b,a,size,t⟩::g.O.drop i,b:=g.b+1} by unfold addO;rw[mg o],e]
 repeat'(first|refine gE ?_|(conv=>whnf);first|with_reducible (first|refine CD (aa (k ω)) ?_|refine Bf.D (λb=>?_) (λb=>?_))|refine CB ?_|refine CH rfl (aa (k ω)) rfl ?_|refine CK (c8) (.inl rfl) ?_|refine CB ?_)
 all_goals
  refine CG rfl (by rw[e];rfl) ?_;exact wC
def cl(k:am)(f c:Nat):Int:=nth (nth k.F.W.T f) c
structure At(k:am)(a:Int)(f c:Nat):Prop where
 m:(af k.F.R (a / 16)).e≠0
 f:(af k.F.R (a / 16)).o=f
 c:a % 16=c
variable{f c:Nat}{a:Int}{k:am}
def At.cell(h:At k a f c):fJ k a=cl k f c:=by
 unfold fJ cl;rw[h.f,h.c,Z2,Z2]
def At.mk'(c:aF k=true)(b:(af k.F.R (a / 16)).e≠0):At k a (cU k a) (a % 16).toNat:=by
 obtain⟨-,-,-,d,-⟩:=bW c b;exact⟨b,by unfold cU;omega,ω⟩
def At.uniq{b d:Nat}(h:At k a f c)(h':At k a b d):f=b/\c=d:=by
 have e:=h.f;have g:=h'.f;have i:=h.c;have j:=h'.c;omega
def Pa(h:ac)(a:Int)(f c:Nat):Prop:=
 (∃s∈h.J,eE s a/\(af (tbl h) s.Q).o=f/\(c:Int) / csz s.d=dz s a/\c<16)\/
 ∃l∈h.M,a=16*l.Q/\∃b:Int,16*l.Q<=b/\b<16*(l.Q+l.a2)/\At h.G b f c
variable{s:aA}{E:List Int}{h:ac}
def bc.pe(a:bc h E)(b:s∈h.J):af (tbl h) s.Q=nth (tbl h).K s.Q.toNat:=by
 obtain⟨c,d,-⟩:=a.mapped b;unfold af;rw[CC ⟨c,d⟩]
variable{b:Int}
def td{l:aD}(a:bN l=true)(h1:16*l.Q<=b)(c:b<16*(l.Q+l.a2)):∃k:Nat,k<l.a2.toNat/\b / 16=l.Q+(k:Nat):=by
 have:=aS a;exact⟨(b / 16 - l.Q).toNat,ω,ω⟩
def lU(e:bc h E){l:aD}(i:l∈h.M)(h1:16*l.Q<=b)(o:b<16*(l.Q+l.a2))(j:At h.G b f c){q:Int}(n:(af (tbl h) q).e≠0)(g:(af (tbl h) q).o=f):q=b / 16:=by
 obtain⟨k,p,u⟩:=td (e.L.lok l i) h1 o;obtain⟨w,y,r,-⟩:=bW e.ker j.m;obtain⟨A,B,t,-⟩:=bW e.ker n;have d:=j.f;rw[r]at d;have a:=n;change (af h.G.F.R q).e≠0 at a;change (af h.G.F.R q).o=f at g;rw[t]at a g;have:=e.pg.one l i (b / 16).toNat (dx.2 ⟨k,p,ω⟩) q.toNat (by show q.toNat<h.G.F.R.K.length;omega) a (by show _=(nth h.G.F.R.K _).o;rw[d];exact g);omega
def wb(d:bc h E)(T:Pa h a f c)(U:Pa h b f c):a=b:=by
 have G:∀s∈h.J,(af (tbl h) s.Q).o=f->∀l∈h.M,∀x:Int,16*l.Q<=x->x<16*(l.Q+l.a2)->At h.G x f c->False:=λs g V l o x H J W=>by
  obtain⟨K,t,q⟩:=d.mapped g;obtain⟨k,w,X⟩:=td (d.L.lok l o) H J;have:=lU d o H J W (by rw[d.pe g];exact q) V;exact d.L.dis s g l o k w ω
 rcases T with⟨s,g,M,N,O,s4⟩|⟨l,o,Y,x,A,B,P⟩<;>rcases U with⟨u,r,Q,R,S,u4⟩|⟨m,p,K,y,t,q,C⟩
 ·by_cases e:s.Q=u.Q
  ·obtain⟨i,D,rfl⟩:=aP g
   obtain⟨j,F,rfl⟩:=aP r;have:=cM (f:=(·.Q)) d.L.nd D F e;subst this;exact yC (d.L.sok _ g) M.2.2.1 Q.2.2.1 (O.symm.trans S)
  exfalso;have p:=d.pg.mesh s g u r e (by rw[<-d.pe g,<-d.pe r,N,R]);unfold meshable at p;simp only[I0,C0]at p;obtain⟨⟨o1,o2⟩,Z,-,e3⟩:=p;have b1:=(eL _ _).1 M.2.2.2;have b2:=(eL _ _).1 Q.2.2.2;have hn:(a - 16*s.Q) / csz s.d=(b - 16*u.Q) / csz u.d:=by
   have z1:dz s a=dz u b:=by rw[<-O,<-S,Z]
   exact z1
  have:=X0 (λn=>Nat.testBit n ((a - 16*s.Q) / csz s.d).toNat) e3;simp only[Nat.testBit_and,Nat.zero_testBit]at this;rw[b1.2.2.2,hn,b2.2.2.2]at this;cases this
 ·exact(G s g N m p y t q C).elim
 ·exact(G u r R l o x A B P).elim
 have hq:=lU d o A B P C.m C.f;obtain⟨i,D,rfl⟩:=aP o;obtain⟨j,F,rfl⟩:=aP p;obtain⟨k,w,X⟩:=td (d.L.lok _ o) A B;obtain⟨k',k3,k4⟩:=td (d.L.lok _ p) t q;have:=d.L.one i j D F k k' w k3 ω;subst this;rw[Y,K]
def qu(h:ac)(o:bt)(f c:Nat):Prop:=∃j:Int,0<=j/\j<o.q/\At h.G (o.Addr+j) f c
variable{o:bt}
def jE(i:bc h E)(B:o∈h.O)(C:qu h o f c):Pa h o.Addr f c:=by
 obtain⟨k,J,K,a⟩:=C;rcases i.oow o B with⟨s,r,t,D⟩|⟨l,u,F,M⟩
 ·have b:=i.L.sok s r
  have j:=aI b;have d:=bZ j.2.2;have p:=t;obtain⟨N,O,w,-⟩:=t;have g:o.q<=csz s.d:=by
   have P:=jr (n:=o.q) ω;rw[D];have:o.q=1\/o.q=2\/o.q=3\/o.q=4\/o.q=5\/o.q=6\/o.q=7\/o.q=8:=ω
   rcases this with e|e|e|e|e|e|e|e<;>rw[e]<;>decide
  have G:(o.Addr+k) / 16=s.Q:=by rcases d with e|e|e|e<;>rw[e]at w g<;>omega
  have y:=a.f;have H:=a.c;rw[G]at y;refine .inl ⟨s,r,p,y,?_,ω⟩;unfold dz;rcases d with e|e|e|e<;>rw[e]at w g |-<;>omega
 have q:=i.L.lok l u;have A:=q;unfold bN at A;rw[C0]at A;exact .inr ⟨l,u,F,o.Addr+k,ω,ω,a⟩
def JD(a:bc h E){u:bt}(b:o∈h.O)(d:u∈h.O)(h1:qu h o f c)(g:qu h u f c):o=u:=by
 have e:=wb a (jE a b h1) (jE a d g);obtain⟨i,k,rfl⟩:=aP b;obtain⟨j,l,rfl⟩:=aP d;rw[cM (f:=(·.Addr)) (de a.osr) k l e]
def JX(h:ac)(f c:Nat):Prop:=h.u=true/\(af (tbl h) h.Y.X.a3).o=f/\(c:Int)∈h.Y.X.T.take h.Y.b.toNat
structure CI(h:ac):Prop where
 z:∀f c:Nat,c<16->cl h.G f c≠0->(∃o∈h.O,qu h o f c)\/JX h f c
 jv:h.u=true->∀c:Nat,(c:Int)∈h.Y.X.T.take h.Y.b.toNat->cl h.G (bL h.G h.Y.X.a3) c=cl h.G (bL h.G h.Y.X.a1) c
 jd:h.u=true->∀s∈h.J,s.Q=h.Y.X.a3->∀c:Nat,c<16->(c:Int)∈h.Y.X.T->aZ s.a9 ((c:Int) / csz s.d)=false
 jc:h.u=true->∀s∈h.J,s.Q=h.Y.X.a1->∀c:Nat,c<16->aZ s.a9 ((c:Int) / csz s.d)=true->(c:Int)∈h.Y.X.T
 jn:h.u=true->(h.Y.b0=0->h.Y.b=0)/\(h.Y.b0=2->h.Y.b=h.Y.X.T.length)
 m1:∀q:Nat,(nth (tbl h).K q).e=1->h.u=true/\(q:Int)=h.Y.X.a1/\h.Y.b0≠0
 m2:h.u=true->h.Y.b0≠0->(af (tbl h) h.Y.X.a1).e=1
variable{h':ac}
theorem CI.keep(j:CI h)(g:h'.Y=h.Y)(k:h'.u=h.u)(r:∀q:Nat,(nth (tbl h').K q).e=1->(nth (tbl h).K q).e=1)(l:h.u=true->af (tbl h') h.Y.X.a3=af (tbl h) h.Y.X.a3/\af (tbl h') h.Y.X.a1=af (tbl h) h.Y.X.a1)(t:∀f c:Nat,c<16->cl h'.G f c≠0->cl h.G f c=cl h'.G f c\/∃o∈h'.O,qu h' o f c)(n:∀o∈h.O,∀f c:Nat,c<16->qu h o f c->cl h'.G f c≠0->∃F∈h'.O,qu h' F f c)(u:h.u=true->∀c:Nat,(c:Int)∈h.Y.X.T.take h.Y.b.toNat->cl h'.G (bL h.G h.Y.X.a3) c=cl h.G (bL h.G h.Y.X.a3) c/\cl h'.G (bL h.G h.Y.X.a1) c=cl h.G (bL h.G h.Y.X.a1) c)(p:h.u=true->∀d∈h'.J,d.Q=h.Y.X.a3\/d.Q=h.Y.X.a1->∃s∈h.J,s.Q=d.Q/\s.d=d.d/\∀i,aZ d.a9 i=true->aZ s.a9 i=true):CI h' where
 z f c b w:=by
  rcases t f c b w with e|e
  ·rcases j.z f c b (by rw[e];exact w) with⟨o,G,y⟩|⟨E,H,J⟩
   ·exact .inl (n o G f c b y w)
   exact .inr ⟨by rw[k];exact E,by rw[g,(l E).1];exact H,by rw[g];exact J⟩
  exact .inl e
 jv a c h2:=by
  rw[k]at a;rw[g]at h2 |-;obtain⟨K,L⟩:=u a c h2;obtain⟨M,N⟩:=l a;have O:bL h'.G h.Y.X.a3=bL h.G h.Y.X.a3:=X0 (λe:bk=>e.o.toNat) M;have P:bL h'.G h.Y.X.a1=bL h.G h.Y.X.a1:=X0 (λe:bk=>e.o.toNat) N;rw[O,P,K,L];exact j.jv a c h2
 jd a d hs' hp c b hcm:=by
  rw[k]at a;rw[g]at hp hcm;obtain⟨s,A,B,C,D⟩:=p a d hs' (.inl hp);have:=j.jd a s A (B.trans hp) c b hcm;rw[<-C];rw[<-U5]at this |-;exact λe=>this (D _ e)
 jc a d hs' hp c b hb:=by
  rw[k]at a;rw[g]at hp |-;obtain⟨s,A,B,C,D⟩:=p a d hs' (.inr hp);exact j.jc a s A (B.trans hp) c b (by rw[C];exact D _ hb)
 jn a:=by rw[k]at a;rw[g];exact j.jn a
 m1 q Q:=by rw[k,g];exact j.m1 q (r q Q)
 m2 a h2:=by
  rw[k]at a;rw[g]at h2 |-;rw[(l a).2];exact j.m2 a h2
def Kp(h h':ac):Prop:=∀o∈h'.O,o∈h.O/\∀j:Int,0<=j->j<o.q->fJ h'.G (o.Addr+j)=fJ h.G (o.Addr+j)
def Kp.refl(h:ac):Kp h h:=λ_ a=>⟨a,λ_ _ _=>rfl⟩
def CZ:type_of% @Kp.refl:=@Kp.refl
def Kp.trans{h1 c:ac}(a:Kp h h1)(b:Kp h1 c):Kp h c:=λo f=>by
 obtain⟨g,i⟩:=b o f;obtain⟨k,l⟩:=a o g;exact⟨k,λj d e=>(i j d e).trans (l j d e)⟩
def bc.jobM(c:bc h E)(f:h.u=true):(af (tbl h) h.Y.X.a3).e≠0/\(af (tbl h) h.Y.X.a1).e≠0:=by
 obtain⟨-,⟨a,d,g⟩,b,e,i⟩:=c.job f;rw[<-g,<-i,c.pe d,c.pe e];exact⟨(c.mapped d).2.2,(c.mapped e).2.2⟩
variable{p:Int}
def kZ(a:aF k=true)(b:(af k.F.R p).e≠0):(af k.F.R p).o=(bL k p:Nat):=by
 obtain⟨-,-,-,c,-⟩:=bW a b;unfold bL;omega
def CI.kern(A:bc h E)(M:CI h)(n:∀o∈h'.O,o∈h.O)(N:h'.Y=h.Y)(B:h'.u=h.u)(b:∀o∈h.O,o∉h'.O->∀f c:Nat,c<16->qu h o f c->cl h'.G f c=0)(F:∀q:Nat,(nth (tbl h').K q).e=1->(nth (tbl h).K q).e=1)(d:h.u=true->af (tbl h') h.Y.X.a3=af (tbl h) h.Y.X.a3/\af (tbl h') h.Y.X.a1=af (tbl h) h.Y.X.a1)(r:∀o∈h'.O,∀j:Int,0<=j->j<o.q->af (tbl h') ((o.Addr+j) / 16)=af (tbl h) ((o.Addr+j) / 16))(t:∀f c:Nat,cl h'.G f c=cl h.G f c\/(cl h'.G f c=0/\∀p:Int,(af (tbl h') p).e≠0->(af (tbl h') p).o≠f))(G:h.u=true->∀u∈h'.J,u.Q=h.Y.X.a3\/u.Q=h.Y.X.a1->∃s∈h.J,s.Q=u.Q/\s.d=u.d/\∀i,aZ u.a9 i=true->aZ s.a9 i=true):CI h'/\Kp h h':=by
 have cov:∀o∈h'.O,∀f c:Nat,qu h o f c->qu h' o f c:=λo O f c ⟨j,w,C,l⟩=>by
  have e:=r o O j w C;unfold tbl at e;exact⟨j,w,C,by rw[e];exact l.m,by rw[e];exact l.f,l.c⟩
 have H:∀{p:Int},af (tbl h') p=af (tbl h) p->(af (tbl h) p).e≠0->∀c,cl h'.G (bL h.G p) c=cl h.G (bL h.G p) c:=fun {p} e B c=>by
  rcases t (bL h.G p) c with g|⟨-,g⟩
  ·exact g
  refine absurd ?_ (g p (by rw[e];exact B));rw[e];exact kZ A.ker B
 refine⟨M.keep N B F d (λf c _ J=>.inl ?_) (λo a f c K y J=>?_) (λD c _=>⟨H (d D).1 (A.jobM D).1 c,H (d D).2 (A.jobM D).2 c⟩) G,λo a=>⟨n o a,λj w C=>?_⟩⟩
 ·rcases t f c with g|g
  ·exact g.symm
  exact absurd g.1 J
 ·by_cases e:o∈h'.O
  ·exact⟨o,e,cov o e f c y⟩
  exact absurd (b o a e f c K y) J
 have e:=r o a j w C;have L:=(cN A (n o a) (k:=j) ⟨w,ω⟩).1;have:=H e L ((o.Addr+j) % 16).toNat;unfold fJ;unfold tbl at e;rw[e];exact this
def xd(d:bc h E)(y:Pa h a f c)(n:s∈h.J)(g:oB (tbl h) s.Q)(r:(af (tbl h) s.Q).o=f):eE s a/\(c:Int) / csz s.d=dz s a/\a / 16=s.Q:=by
 obtain⟨K,M,A⟩:=d.mapped n;rcases y with⟨u,o,p,B,C,N⟩|⟨l,q,-,b,t,w,D⟩
 ·obtain⟨O,P,F⟩:=d.mapped o
  have:=g u.Q.toNat F (by rw[<-d.pe o,<-d.pe n,B,r]);obtain⟨i,G,rfl⟩:=aP n;obtain⟨j,H,rfl⟩:=aP o;have e:=cM (f:=(·.Q)) d.L.nd G H ω;subst e;exact⟨p,C,by have:=p.1;have:=p.2.1;omega⟩
 exfalso;obtain⟨k,J,Q⟩:=td (d.L.lok l q) t w;have:=lU d q t w D (by rw[d.pe n];exact A) r;exact d.L.dis s n l q k J ω
def sY(n:bc h E)(d:JI h)(o:CI h)(e:h.u=true)(p:Pa h a f c)(g:c<16)(i:(c:Int)∈h.Y.X.T):(af (tbl h) h.Y.X.a3).o≠f:=λq=>by
 obtain⟨s,k,b,-,j,-,-⟩:=d.sp e;obtain⟨r,t,-⟩:=xd n p k (by rw[j];exact d.sk e) (by rw[j];exact q);have:=o.jd e s k j c g i;rw[t]at this;have l:=r.2.2.2;unfold dz at this;rw[this]at l;cases l
def EH(n:bc h E)(d:JI h)(j:CI h)(g:h.u=true)(o:Pa h a f c)(k:(af (tbl h) (a / 16)).e≠1)(e:(c:Int)∈h.Y.X.T.take h.Y.b.toNat):(af (tbl h) h.Y.X.a1).o≠f:=λp=>by
 obtain⟨-,-,b,q,-,i,-⟩:=d.sp g;obtain⟨-,-,r⟩:=xd n o q (by rw[i];exact d.sm g) (by rw[i];exact p);by_cases l:h.Y.b0=0
 ·rw[(j.jn g).1 l]at e;cases e
 have:=j.m2 g l;rw[r,i]at k;exact k this
def Ba(n c:Nat):nth (List.replicate n (0:Int)) c=0:=by
 unfold nth;rw[X2,List.getElem?_replicate];split<;>rfl
structure KL(k k':am)(lo n:Int):Prop where
 out:∀q:Int,¬(lo<=q/\q<lo+n)->af k'.F.R q=af k.F.R q
 ins:∀q:Int,lo<=q->q<lo+n->(af k'.F.R q).e=0
 cel:∀f c:Nat,cl k' f c=cl k f c\/(cl k' f c=0/\∀p:Int,(af k'.F.R p).e≠0->(af k'.F.R p).o≠f)
def JH(k:am)(F:Int)(f c:Nat):cl (fX k F) f c=cl k f c\/(cl (fX k F) f c=0/\F.toNat=f/\(pagesOn k.F.R F).length=0):=by
 unfold fX;split
 ·rename_i e
  unfold cl;simp only[bF];split
  ·rename_i a;exact .inr ⟨Ba _ _,a.1,e⟩
  exact .inl rfl
 exact .inl rfl
def mL{t:aM}(h:(af t p).e≠0):0<=p/\p<t.K.length/\af t p=nth t.K p.toNat:=by
 unfold af at h |-;split
 ·rename_i e;exact⟨e.1,e.2,rfl⟩
 rename_i e;rw[C9 e]at h;exact absurd rfl h
def Nd{t:aM}{F:Int}(h:(pagesOn t F).length=0)(a:(af t p).e≠0):(af t p).o≠F:=λe=>by
 obtain⟨c,d,b⟩:=mL a;rw[b]at a e;have:0<(pagesOn t F).length:=dU.2 ⟨p.toNat,ω,a,e⟩;omega
def KL.refl(k:am)(lo:Int):KL k k lo 0:=⟨λ_ _=>rfl,λq a b=>ω,λ_ _=>.inl rfl⟩
def KL.unmap(h:aF k=true)(j:0<=p/\p<k.F.R.K.length):KL k (cJ k p) p 1:=by
 have b:=rg h j;have d:=(lg k p).1;have i:∀q:Int,af (cJ k p).F.R q=if q=p then⟨0,0⟩ else af k.F.R q:=λq=>by
  unfold af;rw[d];by_cases e:0<=q/\q<k.F.R.K.length
  ·rw[CC e,CC e,b q.toNat]
   by_cases a:q=p
   ·rw[CC a,CC ω]
   rw[C9 a,C9 ω]
  rw[C9 e,C9 e];by_cases a:q=p
  ·rw[CC a]
  rw[C9 a]
 refine⟨λq g=>by rw[i,C9 ω],λq t u=>by rw[i,CC ω],λf c=>?_⟩;unfold cJ;split
 ·exact .inl rfl
 rename_i l;rcases JH (lv k p) (af k.F.R p).o f c with e|⟨n,a,o⟩
 ·exact .inl e
 refine .inr ⟨n,λq g=>?_⟩;rw[(na _ _).1]at g |-;have:=Nd o g;have r:=kZ h l;unfold bL at r;rw[<-a];omega
variable{lo n:Int}
def KL.trans{i j:am}{m:Int}(t:0<=n/\0<=m)(a:KL k i lo n)(b:KL i j (lo+n) m):KL k j lo (n+m):=by
 refine⟨λq u=>(b.out q ω).trans (a.out q ω),λq l w=>?_,λf c=>?_⟩
 ·by_cases e:lo+n<=q
  ·exact b.ins q e ω
  rw[b.out q ω];exact a.ins q l ω
 rcases b.cel f c with e|e
 ·rcases a.cel f c with g|⟨o,r⟩
  ·exact .inl (e.trans g)
  refine .inr ⟨e.trans o,λp d=>?_⟩;by_cases h:lo+n<=p/\p<lo+n+m
  ·exact absurd (b.ins p h.1 h.2) d
  rw[b.out p h]at d |-;exact r p d
 exact .inr e
def KL.unmN{k:am}(a:aF k=true){p:Int}(b:0<=p):∀n:Nat,p+n<=k.F.R.K.length->KL k (unmN k p n) p n
 | 0,_=>KL.refl k p
 | n+1,h=>by
  have c:=KL.unmN a b n ω;have d:=KL.unmap (gM a p n) (p:=p+n) ⟨ω,by rw[(eO k p n).1];omega⟩;have:=KL.trans ⟨ω,ω⟩ c d;rw[show((n:Nat):Int)+1=((n+1:Nat):Int) by omega]at this;exact this
def KL.md{b:am}(a:KL k b lo n)(f:b.F.R.K.length=k.F.R.K.length)(q:Nat)(h:(nth b.F.R.K q).e≠0):nth b.F.R.K q=nth k.F.R.K q:=by
 have g:=tw h;have c:af b.F.R (q:Nat)=nth b.F.R.K q:=by unfold af;rw[CC ⟨ω,ω⟩];rfl
 have d:af k.F.R (q:Nat)=nth k.F.R.K q:=by unfold af;rw[CC ⟨ω,ω⟩];rfl
 by_cases e:lo<=q/\(q:Int)<lo+n
 ·rw[<-c,a.ins q e.1 e.2]at h;exact absurd rfl h
 rw[<-c,<-d,a.out q e]
def DT(h:0<=aL n):n<=csz (aL n):=by
 have a:=jr h;have:n=1\/n=2\/n=3\/n=4\/n=5\/n=6\/n=7\/n=8:=ω
 rcases this with e|e|e|e|e|e|e|e<;>rw[e]<;>decide
def MV(k:bc h E)(p:o∈h.O)(g:¬aL o.q<0)(i:qu h o f c):f=cU h.G o.Addr/\(o.Addr % 16).toNat<=c/\c<(o.Addr % 16).toNat+(csz (aL o.q)).toNat:=by
 obtain⟨⟨s,q,r,t⟩,-⟩:=(dP k p).2 g;obtain⟨A,B,l,-⟩:=r;have a:=DT (n:=o.q) ω;have b:=bZ (aI (k.L.sok s q)).2.2;rw[<-t]at a |-;obtain⟨j,C,D,d⟩:=i;have u:=d.c;have w:=d.f;have y:(o.Addr+j) / 16=o.Addr / 16:=by rcases b with e|e|e|e<;>rw[e]at l a<;>omega
 rw[y]at w;refine⟨by unfold cU;omega,?_⟩;rcases b with e|e|e|e<;>rw[e]at l a |-<;>omega
def CI.clrS{h:ac}{E:List Int}(n:bc h E)(p:CI h){i:Nat}{a:Int}(g:i<h.J.length)(l:eE (nth h.J i) a):CI (clrS h i a):=by
 have b:=n.L.sok _ (ar g);refine p.keep rfl rfl (λq h=>h) (λ_=>⟨rfl,rfl⟩) (λf c _ _=>.inl rfl) (λo r f c _ d _=>⟨o,r,d⟩) (λ_ c _=>⟨rfl,rfl⟩) λ_ w e _=>?_
 rcases dZ e with rfl|⟨j,t,-,rfl⟩
 ·refine⟨_,ar g,rfl,rfl,λk u=>((EO (dK b) (pN b ⟨l.1,l.2.1⟩) k).1 u).1⟩
 exact⟨_,ar t,rfl,rfl,λ_ h=>h⟩
variable{j:Int}
def Nu(a:bc h E)(p:o∈h.O)(h1:0<=j)(J:j<o.q)(r:s∈h.J)(T:(o.Addr+j) / 16=s.Q):eE s o.Addr:=by
 obtain⟨U,V,W⟩:=a.mapped r;have t:=(cN a p (k:=j) ⟨h1,ω⟩).1;have w:=At.mk' a.ker t;rcases jE a p ⟨j,h1,J,w⟩ with⟨u,K,G,-,-,-⟩|⟨l,b,X,-⟩
 ·rcases a.oow o p with⟨v,q,c,M⟩|⟨l,b,N,O⟩
  ·have y:=a.L.sok v q
   have A:=aI y;have B:=bZ A.2.2;have C:=c;obtain⟨Y,Z,P,-⟩:=c;have D:o.q<=csz v.d:=by
    have hb:=jr (n:=o.q) ω;rw[M];have:o.q=1\/o.q=2\/o.q=3\/o.q=4\/o.q=5\/o.q=6\/o.q=7\/o.q=8:=ω
    rcases this with e|e|e|e|e|e|e|e<;>rw[e]<;>decide
   have Q:(o.Addr+j) / 16=v.Q:=by rcases B with e|e|e|e<;>rw[e]at P D<;>omega
   obtain⟨i,R,rfl⟩:=aP r;obtain⟨k,S,rfl⟩:=aP q;have:=cM (f:=(·.Q)) a.L.nd R S (by show(nth h.J i).Q=(nth h.J k).Q;omega);subst this;exact C
  exfalso;have:=aS (a.L.lok l b);exact a.L.dis u K l b 0 ω (by have:=G.1;have:=G.2.1;omega)
 exfalso;have H:=a.L.lok l b;unfold bN at H;rw[C0]at H;rcases a.oow o p with⟨v,q,c,-⟩|⟨F,d,N,O⟩
 ·exact a.L.dis v q l b 0 ω (by have:=c.1;have:=c.2.1;omega)
 have g:=a.L.lok F d;unfold bN at g;rw[C0]at g;exact a.L.dis s r F d ((o.Addr+j) / 16 - F.Q).toNat ω ω
def CI.giveP{h:ac}{E:List Int}(b:bc h E)(f:CI h){i:Nat}(e:i<h.J.length)(g:(nth h.J i).a9=0)(c:f6 h (nth h.J i).Q=false):CI (giveP h i)/\Kp h (giveP h i):=by
 obtain⟨k,l,A⟩:=b.mapped (ar e);have kl:=KL.unmap b.ker (p:=(nth h.J i).Q) ⟨k,l⟩;refine CI.kern b f (λo a=>a) rfl rfl (λo a n=>absurd a n) (λq r=>?_) (λt=>?_) (λo a j u w=>?_) kl.cel (λ_ B d _=>?_)
 ·have:=kl.md (lg _ _).1 q (by show(nth (tbl (Ab.giveP h i)).K q).e≠0;omega)
  show(nth h.G.F.R.K q).e=1;rw[<-this];exact r
 ·obtain⟨C,D⟩:=wV c t
  exact⟨kl.out _ ω,kl.out _ ω⟩
 ·refine kl.out _ λF=>?_
  exact vY g _ (Nu b a u w (ar e) ω)
 obtain⟨j,y,-,rfl⟩:=df.1 d;exact⟨_,ar y,rfl,rfl,λ_ h=>h⟩
def CI.freeS{h:ac}{E:List Int}{a:Int}{i:Nat}(c:bc h (a::E))(j:CI h)(b:i<h.J.length)(d:eE (nth h.J i) a):CI (freeS h i a)/\Kp h (freeS h i a):=by
 have k:=c.give b d;have f:=CI.clrS c j b d;unfold Ab.freeS;split
 ·rename_i e
  have g:nth (Ab.clrS h i a).J i=mY (nth h.J i) (dz (nth h.J i) a):=by unfold Ab.clrS;simp only[bF,true_and];rw[CC b]
  obtain⟨l,n⟩:=CI.giveP (h:=Ab.clrS h i a) k f (i:=i) (by unfold Ab.clrS;simp only[U1];exact b) (by rw[g];exact e.1) (by rw[g];exact e.2);exact⟨l,n⟩
 exact⟨f,CZ h⟩
def CI.freeA{h:ac}{E:List Int}{a:Int}(b:bc h (a::E))(c:CI h):CI (freeA h a)/\Kp h (freeA h a):=by
 obtain⟨d,e,-⟩:=b.at (b.hin a (Z1 ..));exact CI.freeS b c d e
def CI.recyc{h:ac}{E:List Int}{a:Int}{t:Nat}(c:bc h (a::E))(b:CI h):CI (recyc t h a)/\Kp h (recyc t h a):=by
 unfold Ab.recyc;split
 ·exact⟨⟨b.z,b.jv,b.jd,b.jc,b.jn,b.m1,b.m2⟩,CZ h⟩
 exact CI.freeA c b
def CI.recycs{t:Nat}{E:List Int} : ∀{az:List Int}{h:ac},bc h (az++E)->t<h.S.length->CI h->CI (recycs t h az)/\Kp h (recycs t h az)
 | [],h,_,_,b=>⟨b,CZ h⟩
 | a::az,h,c,d,b=>by
  obtain⟨e,f⟩:=CI.recyc (t:=t) c b;obtain⟨g,i⟩:=CI.recycs (az:=az) (h:=Ab.recyc t h a) (c.recyc d) (by rw[(nB t h a).1];exact d) e;exact⟨g,f.trans i⟩
def CI.freeAs{E:List Int} : ∀{az:List Int}{h:ac},bc h (az++E)->CI h->CI (freeAs h az)/\Kp h (freeAs h az)
 | [],h,_,b=>⟨b,CZ h⟩
 | a::az,h,c,b=>by
  obtain⟨d,e⟩:=CI.freeA c b;obtain⟨f,g⟩:=CI.freeAs (az:=az) (h:=Ab.freeA h a) c.freeA d;exact⟨f,e.trans g⟩
def CI.flushN{t:Nat}{h:ac}(c:bc h [])(d:t<h.S.length)(e:CI h):∀{k:Nat},k<=4->CI (flushN t h k).1/\Kp h (flushN t h k).1
 | 0,_=>⟨e,CZ h⟩
 | k+1,p=>by
  obtain⟨a,g⟩:=CI.flushN c d e (k:=k) ω;obtain⟨f,q,-⟩:=jy c d (k:=k) ω;have b:t<(Ab.flushN t h k).1.S.length:=ω
  have i:=lX (f.cach _ (ar b));have j:=f.spilt b (k:=k) ω;have l:CI (spilt (Ab.flushN t h k).1 t k):=⟨a.z,a.jv,a.jd,a.jc,a.jn,a.m1,a.m2⟩
  obtain⟨n,o⟩:=CI.freeAs j l;exact⟨n,g.trans o⟩
def CI.tick{h:ac}{n:Int}(c:bc h [])(a:CI h)(d:0<=n)(b:h.b1+n<=1000000):CI (tick h n)/\Kp h (tick h n):=by
 have e:=c.aged d b;have f:CI (aged h n):=⟨a.z,a.jv,a.jd,a.jc,a.jn,a.m1,a.m2⟩
 exact CI.freeAs e f
def CI.collect{h:ac}{t:Nat}(b:bc h [])(a:CI h)(c:t<h.S.length):CI (collect h t)/\Kp h (collect h t):=by
 have g:=(d7.1 b.mail).1;have d:=b.nc;have e:=b.coll (t:=t) ω;have f:CI {h with w:=lh h.w t}:=⟨a.z,a.jv,a.jd,a.jc,a.jn,a.m1,a.m2⟩
 exact CI.recycs e c f
def tY(r:List Int)(o:Nat):∀(n c:Nat),nth (lr r o n) c=if o<=c/\c<o+n then 0 else nth r c
 | 0,c=>by rw[C9 ω];rfl
 | n+1,c=>by
  unfold lr;rw[bF,tY r o n c,mU];by_cases e:o+n=c
  ·rw[CC (show o<=c/\c<o+(n+1) by omega)]
   by_cases a:c<r.length
   ·rw[CC ⟨e,a⟩]
   rw[C9 ω,C9 ω];unfold nth;rw[X2,W2 ω];rfl
  rw[C9 ω];by_cases a:o<=c/\c<o+n
  ·rw[CC a,CC ω]
  rw[C9 a,C9 ω]
def yr(k:am)(a:Int)(n f c:Nat):cl (fk k a n) f c=cl k f c\/(cl (fk k a n) f c=0/\f=cU k a/\(a % 16).toNat<=c/\c<(a % 16).toNat+n):=by
 unfold cl fk;simp only[bF];split
 ·rename_i e
  rw[tY];split
  ·rename_i b;exact .inr ⟨rfl,e.1.symm,b.1,b.2⟩
  rw[e.1];exact .inl rfl
 exact .inl rfl
def Gp{n:Nat}(h1:(a % 16).toNat<=c)(b:c<(a % 16).toNat+n):cl (fk k a n) (cU k a) c=0:=by
 unfold cl fk;simp only[bF];by_cases e:cU k a<k.F.W.T.length
 ·rw[CC ⟨trivial,e⟩,tY,CC ⟨h1,b⟩]
 rw[C9 (λx=>e x.2)];have:nth k.F.W.T (cU k a)=[]:=by
  unfold nth;rw[X2,W2 ω];rfl
 rw[this];rfl
variable{i:Nat}
def CI.clearO(b:bc h E)(u:JI h)(O:CI h)(P:i<h.O.length)(w:¬aL (nth h.O i).q<0)(hw:(af (tbl h) ((nth h.O i).Addr / 16)).e≠1)(y:h'.G=fk h.G (nth h.O i).Addr (csz (aL (nth h.O i).q)).toNat)(e2:h'.O=dele h.O i)(e3:h'.J=h.J)(e4:h'.Y=h.Y)(e5:h'.u=h.u):CI h'/\Kp h h':=by
 obtain⟨⟨s,H,s1,s2⟩,hc3⟩:=(dP b (ar P)).2 w;have Q:=s1;obtain⟨g1,g2,g3,-⟩:=s1;have A:=b.L.sok s H;have B:=bZ (aI A).2.2;obtain⟨m1,m2,m3⟩:=b.mapped H;have R:(nth h.O i).Addr / 16=s.Q:=ω
 have J:tbl h'=tbl h:=by unfold tbl;rw[y];rfl
 have S:(af (tbl h) s.Q).o=(cU h.G (nth h.O i).Addr:Nat):=by
  unfold cU;rw[R];exact kZ b.ker (by show(af (tbl h) s.Q).e≠0;rw[b.pe H];exact m3)
 have ex:∀c:Nat,((nth h.O i).Addr % 16).toNat<=c->c<((nth h.O i).Addr % 16).toNat+(csz (aL (nth h.O i).q)).toNat->Pa h (nth h.O i).Addr (cU h.G (nth h.O i).Addr) c/\c<16:=λc h1 T=>by
  rw[<-s2]at T;have r:c<16:=by rcases B with e|e|e|e<;>rw[e]at g3 T<;>omega
  refine⟨.inl ⟨s,H,Q,S,?_,r⟩,r⟩;unfold dz;rcases B with e|e|e|e<;>rw[e]at g3 T |-<;>omega
 have cv:∀o∈h.O,∀f c:Nat,qu h o f c->qu h' o f c:=λo d f c ⟨j,K,U,a⟩=>by
  have e:h'.G.F.R=h.G.F.R:=J;exact⟨j,K,U,by rw[e];exact a.m,by rw[e];exact a.f,a.c⟩
 have same:∀o∈h.O,o≠nth h.O i->∀f c:Nat,qu h o f c->cl h'.G f c=cl h.G f c:=λo d V f c l=>by
  rw[y];rcases yr h.G (nth h.O i).Addr (csz (aL (nth h.O i).q)).toNat f c with g|⟨-,W,X,Y⟩
  ·exact g
  exfalso;have hx:=(ex c X Y).1;rw[<-W]at hx;have ea:=wb b (jE b d l) hx;obtain⟨k,n,rfl⟩:=aP d;have:=cM (f:=(·.Addr)) (de b.osr) n P ea;subst this;exact V rfl
 have notO:∀o∈h'.O,o≠nth h.O i/\o∈h.O:=λo d=>by
  rw[e2]at d;obtain⟨k,n,Z,rfl⟩:=df.1 d;refine⟨λe=>Z ?_,ar n⟩;exact cM (f:=(·.Addr)) (de b.osr) n P (by rw[e])
 refine⟨O.keep e4 e5 (by rw[J];exact λq h=>h) (λ_=>by rw[J];exact⟨rfl,rfl⟩) (λf c _ M=>.inl ?_) (λo d f c r l M=>?_) (λN c C=>?_) (λ_ s' hs' _=>⟨s',by rw[<-e3];exact hs',rfl,rfl,λ_ h=>h⟩),λo d=>⟨(notO o d).2,λj K U=>?_⟩⟩
 ·rw[y]at M |-
  rcases yr h.G (nth h.O i).Addr (csz (aL (nth h.O i).q)).toNat f c with g|g
  ·exact g.symm
  exact absurd g.1 M
 ·by_cases e:o=nth h.O i
  ·exfalso
   subst e;obtain⟨t,D,F⟩:=MV b d w l;exact M (by rw[y,t];exact Gp D F)
  refine⟨o,?_,cv o d f c l⟩;rw[e2];obtain⟨k,n,rfl⟩:=aP d;exact df.2 ⟨k,n,λx=>e (by rw[x]),rfl⟩
 ·have hc16:c<16:=by
   have hm2:=List.mem_of_mem_take C;obtain⟨k,n,e⟩:=aP hm2;have:=ge (dv.1 (b.job N).1).1 n;omega
  have key:∀p:Int,(af (tbl h) p).e≠0->(∀c:Nat,Pa h (nth h.O i).Addr (cU h.G (nth h.O i).Addr) c->c<16->(c:Int)∈h.Y.X.T.take h.Y.b.toNat->(af (tbl h) p).o≠(cU h.G (nth h.O i).Addr:Nat))->cl h'.G (bL h.G p) c=cl h.G (bL h.G p) c:=λp hp Z=>by
   rw[y];rcases yr h.G (nth h.O i).Addr (csz (aL (nth h.O i).q)).toNat (bL h.G p) c with g|⟨-,W,X,Y⟩
   ·exact g
   exfalso;obtain⟨t,D⟩:=ex c X Y;refine Z c t D C ?_;rw[<-W];exact kZ b.ker hp
  obtain⟨jm1,jm2⟩:=b.jobM N;exact⟨key _ jm1 λc t D F=>sY b u O N t D (List.mem_of_mem_take F),key _ jm2 λc t _ F=>EH b u O N t hw F⟩
 obtain⟨o1,o2⟩:=notO o d;have a:=At.mk' b.ker (cN b o2 (k:=j) ⟨K,ω⟩).1;have G:At h'.G (o.Addr+j) (cU h.G (o.Addr+j)) ((o.Addr+j) % 16).toNat:=by
  have e:h'.G.F.R=h.G.F.R:=J;exact⟨by rw[e];exact a.m,by rw[e];exact a.f,a.c⟩
 rw[G.cell,a.cell];exact same o o2 o1 _ _ ⟨j,K,U,a⟩
def pf(h:aF k=true)(d:∀p:Int,(af k.F.R p).e≠0->(af k.F.R p).o≠f)(c:Nat):cl k f c=0:=by
 obtain⟨-,i,-,j,-⟩:=aG.1 h;obtain⟨-,-,w,n⟩:=bf.1 i;unfold cl;by_cases o:f<k.F.W.T.length
 ·have r:nth k.F.W.a5 f=false:=by
   rw[j f ω,X4];intro a;obtain⟨q,y,t,u⟩:=dU.1 a;have e:af k.F.R (q:Nat)=nth k.F.R.K q:=by unfold af;rw[CC ⟨ω,ω⟩];rfl
   exact d (q:Nat) (by rw[e];exact t) (by rw[e];exact u)
  have b:=n f o;unfold ic at b;rw[r]at b;simp only[I0,C0,v4]at b;by_cases g:c<(nth k.F.W.T f).length
  ·have:=b.2 _ (ar g)
   unfold iG at this;rw[I0,Bool.false_or,C0,C0]at this;exact this.2
  unfold nth;rw[X2 (l:=List.getD _ _ _),W2 (by unfold nth at g;omega)];rfl
 have:nth k.F.W.T f=[]:=by
  unfold nth;rw[X2,W2 ω];rfl
 rw[this];rfl
def CI.freeL{h:ac}{E:List Int}(d:bc h E)(T:CI h){i k:Nat}(O:i<h.O.length)(r:k<h.M.length)(U:(nth h.O i).Addr=16*(nth h.M k).Q):CI (freeL h i k)/\Kp h (freeL h i k):=by
 obtain⟨V,W⟩:=tZ d r;have t:=d.L.lok _ (ar r);have X:=aS t;have kl:=KL.unmN d.ker V _ W;have ker:=gM d.ker (nth h.M k).Q (nth h.M k).a2.toNat;have u:=(eO h.G (nth h.M k).Q (nth h.M k).a2.toNat).1;have notO:∀o∈dele h.O i,o≠nth h.O i/\o∈h.O:=λo n=>by
  obtain⟨j,y,Y,rfl⟩:=df.1 n;exact⟨λe=>Y (cM (f:=(·.Addr)) (de d.osr) y O (by rw[e])),ar y⟩
 have onL:∀b:Int,(nth h.M k).Q<=b / 16->b / 16<(nth h.M k).Q+((nth h.M k).a2.toNat:Nat)->∀f c:Nat,At h.G b f c->Pa h (nth h.O i).Addr f c:=λb h1 h2 f c g=>.inr ⟨_,ar r,U,b,ω,ω,g⟩
 refine CI.kern d T (λo n=>(notO o n).2) rfl rfl (λo n Z f c h16 C=>?_) (λq hq=>?_) (λhm=>?_) (λo n j D P=>?_) kl.cel (λ_ s' F _=>⟨s',F,rfl,rfl,λ_ h=>h⟩)
 ·-- the object itself
  have G:o=nth h.O i:=by
   refine Classical.byContradiction λe=>Z ?_
   obtain⟨j,y,rfl⟩:=aP n;exact df.2 ⟨j,y,λx=>e (by rw[x]),rfl⟩
  subst G;rcases kl.cel f c with e|e
  ·refine pf ker (λp A H=>?_) c
   obtain⟨j,D,P,g⟩:=C;have hsz:(nth h.O i).q<=16*(nth h.M k).a2:=by
    rcases d.oow _ n with⟨s,J,Q,-⟩|⟨l,R,e1,e2⟩
    ·exact absurd (show s.Q=(nth h.M k).Q+((0:Nat):Int) by have:=Q.1;have:=Q.2.1;omega) (d.L.dis s J _ (ar r) 0 ω)
    obtain⟨m,K,rfl⟩:=aP R;have:=d.L.one m k K r 0 0 (by have:=aS (d.L.lok _ R);omega) ω ω;subst this;unfold bN at t;rw[C0]at t;omega
   by_cases B:(nth h.M k).Q<=p/\p<(nth h.M k).Q+((nth h.M k).a2.toNat:Nat)
   ·exact A (kl.ins p B.1 B.2)
   have w:=kl.out p B;change af (unmN h.G (nth h.M k).Q (nth h.M k).a2.toNat).F.R p=_ at w;change (af (unmN h.G (nth h.M k).Q (nth h.M k).a2.toNat).F.R p).e≠0 at A;change (af (unmN h.G (nth h.M k).Q (nth h.M k).a2.toNat).F.R p).o=_ at H;rw[w]at A H;have:=lU d (ar r) (b:=(nth h.O i).Addr+j) ω ω g A H;omega
  exact e.1
 ·have:=kl.md u q (by show(nth (tbl (Ab.freeL h i k)).K q).e≠0;omega)
  show(nth h.G.F.R.K q).e=1;rw[<-this];exact hq
 ·obtain⟨-,⟨a,ha,M⟩,b,hb,eb⟩:=d.job hm
  have no:∀s∈h.J,¬((nth h.M k).Q<=s.Q/\s.Q<(nth h.M k).Q+((nth h.M k).a2.toNat:Nat)):=λs J B=>d.L.dis s J _ (ar r) (s.Q - (nth h.M k).Q).toNat ω ω
  exact⟨by rw[<-M];exact kl.out _ (no a ha),by rw[<-eb];exact kl.out _ (no b hb)⟩
 obtain⟨o1,N⟩:=notO o n;refine kl.out _ λS=>o1 ?_
 have g:=At.mk' d.ker (cN d N (k:=j) ⟨D,ω⟩).1;have e:=wb d (jE d N ⟨j,D,P,g⟩) (onL _ S.1 S.2 _ _ g);obtain⟨m,K,rfl⟩:=aP N;rw[cM (f:=(·.Addr)) (de d.osr) K O e]
def CI.freeT{h:ac}{t i:Nat}(b:bc h [])(c:JI h)(d:CI h)(e:i<h.O.length)(n:t<h.S.length):CI (freeT h t i).1/\Kp h (freeT h t i).1:=by
 unfold Ab.freeT;split
 ·rename_i a
  obtain⟨l,o,f,-⟩:=(dP b (ar e)).1 a;obtain⟨g,j,-⟩:=vZ o f;exact CI.freeL b d e g j
 rename_i a;split
 ·exact⟨d,CZ h⟩
 rename_i k;split
 ·obtain⟨p,g⟩:=CI.clearO (h':=inQuar h i) b c d e a k rfl rfl rfl rfl rfl
  have f:=b.inQuar e a;obtain⟨q,j⟩:=CI.recycs (t:=t) (E:=[]) (az:=(zb h.a7 (ly h (nth h.O i))).map (·.Addr)) (h:=inQuar h i) (by rw[List.append_nil];exact f) n p;exact⟨q,g.trans j⟩
 split
 ·exact CI.clearO (h':=MN h t i) b c d e a k rfl rfl rfl rfl rfl
 exact⟨d,CZ h⟩
structure KA(k k':am)(lo n:Int):Prop where
 out:∀q:Int,¬(lo<=q/\q<lo+n)->af k'.F.R q=af k.F.R q
 md:∀q:Nat,(nth k'.F.R.K q).e=1->(nth k.F.R.K q).e=1
 cel:∀f c:Nat,cl k' f c=cl k f c
def NM{a:am}(b:a.F.R.K.length=k.F.R.K.length)(h:∀q:Nat,¬(lo<=q/\(q:Int)<lo+n)->nth a.F.R.K q=nth k.F.R.K q)(q:Int)(c:¬(lo<=q/\q<lo+n)):af a.F.R q=af k.F.R q:=by
 unfold af;rw[b];by_cases e:0<=q/\q<k.F.R.K.length
 ·rw[CC e,CC e];exact h q.toNat ω
 rw[C9 e,C9 e]
def KA.newK{r:am × Bool}(s:vM k p r):KA k r.1 p 1:=by
 cases e:r.2 with
 | false=>rw[s.no e];exact⟨λ_ _=>rfl,λ_ h=>h,λ_ _=>rfl⟩
 | true=>
  obtain⟨f,-,-,b,-⟩:=s.yes e;refine⟨NM s.len λq a=>by rw[b,C9 ω],λq a=>?_,λf c=>by unfold cl;rw[s.cells]⟩;rw[b]at a;split at a
  ·exact absurd a (by show ¬(2:Int)=1;decide)
  exact a
def KA.newsK{n:Nat}{r:am × Nat}(s:jh k p n r):KA k r.1 p r.2:=by
 refine⟨NM s.len s.out,λq a=>?_,λf c=>by unfold cl;rw[s.cells]⟩;by_cases e:p<=q/\(q:Int)<p+r.2
 ·rw[(s.new q e.1 e.2).1]at a;exact absurd a (by decide)
 rw[s.out q e]at a;exact a
def np(d:bc h E)(b:∀q:Nat,lo<=q->(q:Int)<lo+n->(nth (tbl h).K q).e=0)(a:(af (tbl h) p).e≠0):¬(lo<=p/\p<lo+n):=λe=>by
 obtain⟨f,-,c⟩:=mL a;rw[c]at a;exact a (b p.toNat ω ω)
def CI.mapped(b:bc h E)(t:CI h)(e:KA h.G h'.G lo n)(g:∀q:Nat,lo<=q->(q:Int)<lo+n->(nth (tbl h).K q).e=0)(i:h'.O=h.O)(u:h'.Y=h.Y)(l:h'.u=h.u)(p:h.u=true->∀d∈h'.J,d.Q=h.Y.X.a3\/d.Q=h.Y.X.a1->d∈h.J):CI h'/\Kp h h':=by
 refine CI.kern b t (λo a=>by rw[<-i];exact a) u l (λo a r=>absurd (by rw[i];exact a) r) e.md (λa=>?_) (λo a j w C=>?_) (λf c=>.inl (e.cel f c)) (λa d r y=>⟨d,p a d r y,rfl,rfl,λ_ h=>h⟩)
 ·obtain⟨A,B⟩:=b.jobM a
  exact⟨e.out _ (np b g A),e.out _ (np b g B)⟩
 rw[i]at a;exact e.out _ (np b g (cN b a (k:=j) ⟨w,ω⟩).1)
structure CA(h:ac)(r:ac):Prop where
 ci:CI r
 kp:Kp h r
 ob:r.O=h.O
def CI.slotT{h:ac}(e:CI h){i:Nat}(t:i<h.J.length)(a:f6 h (nth h.J i).Q=false):CI (slotT h i):=by
 refine e.keep rfl rfl (λq h=>h) (λ_=>⟨rfl,rfl⟩) (λf c _ _=>.inl rfl) (λo g f c _ b _=>⟨o,g,b⟩) (λ_ c _=>⟨rfl,rfl⟩) λk u d l=>?_
 rcases dZ d with rfl|⟨j,n,-,rfl⟩
 ·obtain⟨p,r⟩:=wV a k
  exact(l.elim p r).elim
 exact⟨_,ar n,rfl,rfl,λ_ h=>h⟩
def CI.smallA{h:ac}{t c:Nat}(d:bc h [])(a:CI h)(V:t<h.S.length)(G:c<=3)(H:h.G.Calls<=90000):CA h (smallA h t c).1:=by
 unfold Ab.smallA;split
 ·exact⟨⟨a.z,a.jv,a.jd,a.jc,a.jn,a.m1,a.m2⟩,CZ h,rfl⟩
 split
 ·rename_i i D
  have o:=List.find?_some D;have b:=List.mem_range.1 (List.mem_of_find?_eq_some D);unfold nq at o;simp only[I0,C0,Bool.not_eq_true']at o;exact⟨CI.slotT a b o.2.1,CZ h,rfl⟩
 split
 ·exact⟨a,CZ h,rfl⟩
 rename_i J;have f:(ax h.j 1).2.2=true:=by simpa using J
 obtain⟨K,L,r,E⟩:=ip d (v5 1) f;have s:=vM.of (p:=(ax h.j 1).2.1) d.ker ω ⟨K,by have:(ax h.j 1).2.1+1<=(h.G.F.R.K.length:Nat):=L;omega⟩ (r _ ω ω);have F:=KA.newK s;split
 ·obtain⟨g,j⟩:=CI.mapped (h':={h with G:=(newK h.G (ax h.j 1).2.1).1}) d a F (λq u w=>r q u w) rfl rfl rfl (λ_ k b _=>b)
  exact⟨g,j,rfl⟩
 rename_i M;have A:(newK h.G (ax h.j 1).2.1).2=true:=by simpa using M
 have k:vM h.G (ax h.j 1).2.1 ((newK h.G (ax h.j 1).2.1).1,true):=by rw[<-A];exact s
 have W:=d.addS (c:=c) ⟨ω,ω⟩ f k;have N:JK h (lM h c):=JK.addS k;have jno:∀l:h.u=true,(ax h.j 1).2.1≠h.Y.X.a3/\(ax h.j 1).2.1≠h.Y.X.a1:=λl=>by
  obtain⟨-,⟨y,O,P⟩,⟨z,Q,R⟩⟩:=d.job l;exact⟨λe=>E _ (v5 _) ω (by rw[e,<-P];exact d6 O),λe=>E _ (v5 _) ω (by rw[e,<-R];exact d6 Q)⟩
 obtain⟨g,j⟩:=CI.mapped (h':=lM h c) d a F (λq u w=>r q u w) rfl rfl rfl (λl k b S=>by
   rcases cH.1 b with rfl|b
   · obtain⟨B,C⟩:=jno l
     exact(S.elim B C).elim
   exact b)
 obtain⟨T,U⟩:=D2 (Br (ax h.j 1).2.1) h.J ⟨(ax h.j 1).2.1,c,0⟩;unfold iY;split
 ·exact⟨g,j,rfl⟩
 refine⟨CI.slotT (h:=lM h c) g (i:=lK h) T ?_,j,rfl⟩;show f6 (lM h c) (nth (ja (Br (ax h.j 1).2.1) h.J ⟨(ax h.j 1).2.1,c,0⟩) (lK h)).Q=false;unfold lK;rw[U,N.pg,<-U5];intro n;unfold f6 at n;simp only[I0,O6,C0]at n;obtain⟨B,C⟩:=jno n.1;exact n.2.elim B C
structure RK(h h':ac)(x:bt):Prop where
 mem:∀o,o∈h'.O↔o=x\/o∈h.O
 ze:∀j:Int,0<=j->j<x.q->fJ h'.G (x.Addr+j)=0
 ke:∀o∈h.O,∀j:Int,0<=j->j<o.q->fJ h'.G (o.Addr+j)=fJ h.G (o.Addr+j)
def RK.of{g:ac}{L:List Int}{x:bt}(A:bc g E)(M:CI g)(b:bc h' L)(r:JI h')(B:CI h')(C:∀p:Int,(af (tbl g) p).e≠0->af (tbl h') p=af (tbl g) p)(d:∀f c,cl h'.G f c=cl g.G f c)(l:∀o,o∈h'.O↔o=x\/o∈g.O)(N:x∉g.O)(G:h'.Y=g.Y)(O:h'.u=g.u)(D:g.O=h.O)(P:Kp h g):RK h h' x:=by
 have Q:∀o∈g.O,∀f c:Nat,qu g o f c->qu h' o f c:=λo D f c ⟨j,n,t,a⟩=>by
  have e:=C _ a.m;unfold tbl at e;exact⟨j,n,t,by rw[e];exact a.m,by rw[e];exact a.f,a.c⟩
 refine⟨λo=>by rw[l,D],λj n t=>?_,λo u j n t=>?_⟩
 ·have q:=(l x).2 (.inl rfl)
  have a:=At.mk' b.ker (cN b q (k:=j) ⟨n,ω⟩).1;rw[a.cell];refine Classical.byContradiction λH=>?_
  have w:((x.Addr+j) % 16).toNat<16:=ω
  rw[d]at H;have i:qu h' x _ _:=⟨j,n,t,a⟩
  rcases M.z _ _ w H with⟨o,u,F⟩|⟨J,R,S⟩
  ·have:=JD b ((l o).2 (.inr u)) q (Q o u _ _ F) i
   subst this;exact N u
  refine sY b r B (by rw[O];exact J) (jE b q i) w (by rw[G];exact List.mem_of_mem_take S) ?_;rw[G,C _ (A.jobM J).1];exact R
 have K:o∈g.O:=by rw[D];exact u
 refine Eq.trans ?_ ((P o K).2 j n t);have a:=At.mk' A.ker (cN A K (k:=j) ⟨n,ω⟩).1;have e:=C _ a.m;have y:At h'.G (o.Addr+j) (cU g.G (o.Addr+j)) ((o.Addr+j) % 16).toNat:=by
  unfold tbl at e;exact⟨by rw[e];exact a.m,by rw[e];exact a.f,a.c⟩
 rw[y.cell,a.cell,d]
def CI.addO{h:ac}(e:CI h)(a size t:Int):CI (addO h a size t):=
 e.keep rfl rfl (λq h=>h) (λ_=>⟨rfl,rfl⟩) (λf c _ _=>.inl rfl) (λo g f c _ b _=>⟨o,cH.2 (.inr g),b⟩) (λ_ c _=>⟨rfl,rfl⟩) λ_ i d _=>⟨i,d,rfl,rfl,λ_ h=>h⟩
structure AL(h:ac)(t size:Int)(r:ac × Int × Int):Prop where
 ci:CI r.1
 no:r.2.2≠0->r.1.O=h.O/\Kp h r.1/\r.1.b=h.b/\r.2.1 = -1
 yes:r.2.2=0->RK h r.1 ⟨h.b,r.2.1,size,t⟩/\r.1.b=h.b+1/\1<=size/\size<=1000/\0<=r.2.1
variable{size:Int}
def M0(b:bc h E){t:Int} : (⟨h.b,a,size,t⟩ : bt)∉h.O:=λc=>by
 have:=(b.onu _ c).2.1;simp only at this;omega
def CI.largeA{h:ac}{t size:Int}(b:bc h [])(C:JI h)(y:CI h)(L:9<=size/\size<=1000)(D:h.b<1000000)(E:h.G.Calls<=90000)(U:0<=t/\t<=h.S.length - 1):AL h t size (largeA h t size):=by
 have hl:(fW size:Int)=(size+15) / 16:=by unfold fW;omega
 have a:=AN b L D E U;unfold Ab.largeA at a |-;by_cases F:(ax h.j (fW size:Nat)).2.2=false
 ·rw[CC F]
  exact⟨y,λ_=>⟨rfl,CZ h,rfl,rfl⟩,λe=>by cases e⟩
 rw[C9 F]at a |-;have G:(ax h.j (fW size:Nat)).2.2=true:=by simpa using F
 obtain⟨M,N,O,u4⟩:=ip b (show(1:Int)<=(fW size:Nat) by omega) G;have s:jh h.G (ax h.j (fW size:Nat)).2.1 (fW size) (dB h size):=jh.of (p:=(ax h.j (fW size:Nat)).2.1) (n:=fW size) b.ker ω ⟨M,N⟩ O (fW size) (I3 _);have d:=KA.newsK s;have V:=s.le;have i:∀q:Nat,(ax h.j (fW size:Nat)).2.1<=q->(q:Int)<(ax h.j (fW size:Nat)).2.1+(dB h size).2->(nth (tbl h).K q).e=0:=λq W q2=>O q W ω
 by_cases P:(dB h size).2=fW size
 ·rw[CC P]at a |-
  obtain⟨Q,H⟩:=a;have ji1:=C.keep Q H;have w:∀o,o∈(addL h (dB h size).1 (ax h.j (fW size:Nat)).1 (ax h.j (fW size:Nat)).2.1 (fW size:Nat) size t).O↔o = ⟨h.b,16*(ax h.j (fW size:Nat)).2.1,size,t⟩\/o∈h.O:=λo=>cH
  have X:=CI.mapped (h':={h with G:=(dB h size).1}) b y d i rfl rfl rfl (λ_ A Y _=>Y);have B:CI (addL h (dB h size).1 (ax h.j (fW size:Nat)).1 (ax h.j (fW size:Nat)).2.1 (fW size:Nat) size t):=
   X.1.keep rfl rfl (λq h=>h) (λ_=>⟨rfl,rfl⟩) (λf c _ _=>.inl rfl) (λo l f c _ J _=>⟨o,cH.2 (.inr l),J⟩) (λ_ c _=>⟨rfl,rfl⟩) λ_ A r _=>⟨A,r,rfl,rfl,λ_ h=>h⟩
  refine⟨B,λe=>absurd rfl e,λ_=>⟨?_,rfl,ω,L.2,by show 0<=16*_;omega⟩⟩;exact RK.of (g:=h) b y Q ji1 B (λp Z=>d.out p (np b i Z)) d.cel w (M0 b) rfl rfl rfl (CZ h)
 rw[C9 P]at a |-;have K:=s.len;have kl:=KL.unmN s.ker M (dB h size).2 (by rw[K];have:(ax h.j (fW size:Nat)).2.1+((fW size:Nat):Int)<=(h.G.F.R.K.length:Nat):=N;omega);have u:=((eO (dB h size).1 (ax h.j (fW size:Nat)).2.1 (dB h size).2).1)
 obtain⟨B,k1⟩:=CI.kern (h':={h with G:=unmN (dB h size).1 (ax h.j (fW size:Nat)).2.1 (dB h size).2}) b y (λo l=>l) rfl rfl (λo l D=>absurd l D) (λq R=>d.md q (by rw[<-kl.md u q (by show(nth (unmN (dB h size).1 _ _).F.R.K q).e≠0;have:(nth (unmN (dB h size).1 (ax h.j (fW size:Nat)).2.1 (dB h size).2).F.R.K q).e=1:=R;omega)];exact R)) (λhm=>by
     obtain⟨S,T⟩:=b.jobM hm;exact⟨(kl.out _ (np b i S)).trans (d.out _ (np b i S)),(kl.out _ (np b i T)).trans (d.out _ (np b i T))⟩) (λo l j H j2=>by
     have:=np b i (cN b l (k:=j) ⟨H,ω⟩).1;exact(kl.out _ this).trans (d.out _ this)) (λf c=>by
     rcases kl.cel f c with e|e
     · exact .inl (e.trans (d.cel f c))
     exact .inr e) (λ_ A r _=>⟨A,r,rfl,rfl,λ_ h=>h⟩)
 exact⟨B,λ_=>⟨rfl,k1,rfl,rfl⟩,λe=>by cases e⟩
def CI.allocH{h:ac}{t size:Int}(i:bc h [])(f:JI h)(j:CI h):AL h t size (allocH h t size):=by
 have a:=AJ (t:=t) (size:=size) i;have no:∀n:Int,n≠0->AL h t size (h,-1,n):=λn B=>⟨j,λ_=>⟨rfl,CZ h,rfl,rfl⟩,λe=>absurd e B⟩
 unfold Ab.allocH at a |-;by_cases k:1000000<=h.b\/90000<h.G.Calls
 ·rw[CC k];exact no 5 (by decide)
 rw[C9 k]at a |-;by_cases l:¬(0<=t/\t<=h.S.length - 1)
 ·rw[CC l];exact no 1 (by decide)
 rw[C9 l]at a |-;by_cases q:¬(1<=size/\size<=1000)
 ·rw[CC q];exact no 2 (by decide)
 rw[C9 q]at a |-;by_cases u:h.c0<gH h+size
 ·rw[CC u];exact no 3 (by decide)
 rw[C9 u]at a |-;by_cases b:0<=aL size
 ·rw[CC b]at a |-
  have C:aL size<=3:=by unfold aL;repeat' split<;>omega
  have s:=mE (t:=t.toNat) (c:=(aL size).toNat) i ω ω ω;have d:=CI.smallA (t:=t.toNat) (c:=(aL size).toNat) i j ω ω ω;generalize Ab.smallA h t.toNat (aL size).toNat=r at s d a |-;by_cases e:r.2<0
  ·rw[CC e]at a |-
   exact⟨d.ci,λ_=>⟨d.ob,d.kp,s.nx,rfl⟩,λe=>by cases e⟩
  rw[C9 e]at a |-;obtain⟨w,D⟩:=a;obtain⟨y,-⟩:=s.yes ω;have A:=CI.addO d.ci r.2 size t;refine⟨A,λe=>absurd rfl e,λ_=>⟨?_,by show r.1.b+1=h.b+1;rw[s.nx],ω,ω,by show 0<=r.2;omega⟩⟩;have:=RK.of (h:=h) (g:=r.1) (x:=⟨r.1.b,r.2,size,t⟩) y d.ci w (f.keep w D) A (λp _=>rfl) (λ_ _=>rfl) (λo=>cH) (M0 y) rfl rfl d.ob d.kp;rw[s.nx]at this;exact this
 rw[C9 b];have E:9<=size:=by
  unfold aL at b
  repeat' split at b<;>omega
 exact CI.largeA i f j ⟨E,ω⟩ ω ω ω
def rc(k:am)(a v:Int)(f c:Nat):cl (dC k a v) f c=cl k f c\/(cl (dC k a v) f c=v/\f=cU k a/\c=(a % 16).toNat):=by
 unfold cl dC setCell;simp only[bF];by_cases e:cU k a=f/\f<k.F.W.T.length
 ·rw[CC e,bF]
  by_cases b:(a % 16).toNat=c/\c<(nth k.F.W.T (cU k a)).length
  ·rw[CC b];exact .inr ⟨rfl,e.1.symm,b.1.symm⟩
  rw[C9 b,e.1];exact .inl rfl
 rw[C9 e];exact .inl rfl
variable{v:Int}
def zV(c:aF k=true)(e:(af k.F.R (a / 16)).e≠0):cl (dC k a v) (cU k a) (a % 16).toNat=v:=by
 have d:=(g9 c e).1;have b:=(tW c (f:=cU k a) d).1;unfold cl dC setCell;show nth (nth (List.set _ _ _) _) _=v;rw[bF,CC ⟨rfl,d⟩,bF,CC ⟨rfl,by rw[b];omega⟩]
def J1(d:qu h o f c):qu {h with G:=dC h.G a v} o f c:=by
 obtain⟨j,e,g,b⟩:=d;exact⟨j,e,g,⟨b.m,b.f,b.c⟩⟩
def Qt(d:bc h E)(q:o∈h.O){x:Int}(y:0<=x/\x<o.q)(A:0<=j/\j<o.q)(h1:At h.G (o.Addr+x) f c)(g:At h.G (o.Addr+j) f c):x=j:=by
 have B:=h1.c;have C:=g.c;rcases d.oow o q with⟨s,r,t,u⟩|⟨l,k,D,F⟩
 ·have i:=aI (d.L.sok s r)
  have a:=DT (n:=o.q) ω;rw[<-u]at a;obtain⟨G,H,w,-⟩:=t;rcases bZ i.2.2 with e|e|e|e<;>rw[e]at w a<;>omega
 have p:=d.L.lok l k;unfold bN at p;rw[C0]at p;have:=lU d k (b:=o.Addr+x) ω ω h1 g.m g.f;omega
def CI.store(b:bc h E)(A:JI h)(N:CI h)(O:i<h.O.length)(P:0<=j/\j<=(nth h.O i).q - 1)(Y:(af (tbl h) (((nth h.O i).Addr+j) / 16)).e≠1):CI {h with G:=dC h.G ((nth h.O i).Addr+j) v}/\
  ∀o∈h.O,∀x:Int,0<=x->x<o.q->fJ (dC h.G ((nth h.O i).Addr+j) v) (o.Addr+x)=if o=nth h.O i/\x=j then v else fJ h.G (o.Addr+x):=by
 have g:=ar O;have F:=(cN b g P).1;have G:=At.mk' b.ker F;have d:qu h (nth h.O i) _ _:=⟨j,P.1,ω,G⟩
 have r:=jE b g d;have Z:(((nth h.O i).Addr+j) % 16).toNat<16:=ω
 have key:∀p:Int,(af (tbl h) p).e≠0->(af (tbl h) p).o≠(cU h.G ((nth h.O i).Addr+j):Nat)->∀c,cl (dC h.G ((nth h.O i).Addr+j) v) (bL h.G p) c=cl h.G (bL h.G p) c:=λp Q B c=>by
  rcases rc h.G ((nth h.O i).Addr+j) v (bL h.G p) c with e|⟨-,e,-⟩
  ·exact e
  refine absurd ?_ B;rw[<-e];exact kZ b.ker Q
 refine⟨N.keep rfl rfl (λq h=>h) (λ_=>⟨rfl,rfl⟩) (λf c _ _=>?_) (λo g f c _ d _=>⟨o,g,J1 d⟩) (λH c C=>?_) (λ_ s' R _=>⟨s',R,rfl,rfl,λ_ h=>h⟩),λo g x S W=>?_⟩
 ·rcases rc h.G ((nth h.O i).Addr+j) v f c with e|⟨-,u,w⟩
  ·exact .inl e.symm
  refine .inr ⟨_,g,?_⟩;rw[u,w];exact J1 d
 ·obtain⟨jm1,jm2⟩:=b.jobM H
  have J:c<16:=by
   obtain⟨k,lk,e⟩:=aP (List.mem_of_mem_take C);have:=ge (dv.1 (b.job H).1).1 lk;omega
  constructor
  ·rcases rc h.G ((nth h.O i).Addr+j) v (bL h.G h.Y.X.a3) c with e|⟨-,u,w⟩
   ·exact e
   exfalso;rw[<-u,<-w]at r;exact sY b A N H r J (List.mem_of_mem_take C) (kZ b.ker jm1)
  rcases rc h.G ((nth h.O i).Addr+j) v (bL h.G h.Y.X.a1) c with e|⟨-,u,w⟩
  ·exact e
  exfalso;rw[<-u,<-w]at r;refine EH b A N H r ?_ C (kZ b.ker jm2);rcases b.oow _ g with⟨s,hs,s1,s2⟩|⟨l,X,l1,-⟩
  ·have T:=aI (b.L.sok s hs)
   have K:=DT (n:=(nth h.O i).q) ω;rw[<-s2]at K;obtain⟨g1,g2,g3,-⟩:=s1;have Q:((nth h.O i).Addr+j) / 16=(nth h.O i).Addr / 16:=by rcases bZ T.2.2 with e|e|e|e<;>rw[e]at g3 K<;>omega
   rw[<-Q];exact Y
  intro M;obtain⟨a1,a2,a3⟩:=mL (t:=tbl h) (p:=(nth h.O i).Addr / 16) ω;rw[a3]at M;have h3:=(N.m1 _ M).2.1;obtain⟨-,-,y,hy,-,ey,-⟩:=A.sp H;have hpl:=aS (b.L.lok l X);exact b.L.dis y hy l X 0 ω ω
 have U:=(cN b g (k:=x) ⟨S,ω⟩).1;have a:=At.mk' b.ker U;have D:At (dC h.G ((nth h.O i).Addr+j) v) (o.Addr+x) (cU h.G (o.Addr+x)) ((o.Addr+x) % 16).toNat:=⟨a.m,a.f,a.c⟩
 rw[D.cell,a.cell];split
 ·rename_i e
  obtain⟨u,w⟩:=e;subst u w;exact zV b.ker F
 rename_i B;rcases rc h.G ((nth h.O i).Addr+j) v (cU h.G (o.Addr+x)) ((o.Addr+x) % 16).toNat with e|⟨-,u,w⟩
 ·exact e
 exfalso;rw[u,w]at a;have V:qu h o _ _:=⟨x,S,W,a⟩
 have eo:=JD b g (ar O) V d;subst eo;refine B ⟨rfl,?_⟩;exact Qt b (ar O) ⟨S,W⟩ ⟨P.1,ω⟩ a G
structure JP(h:ac):Prop where
 km:(af (tbl h) h.Y.X.a3).e≠0
 mm:(af (tbl h) h.Y.X.a1).e≠0
 kf:(af (tbl h) h.Y.X.a3).o=(bL h.G h.Y.X.a3:Nat)
 mf:(af (tbl h) h.Y.X.a1).o=(bL h.G h.Y.X.a1:Nat)
 ne:bL h.G h.Y.X.a3≠bL h.G h.Y.X.a1
 pe:h.Y.X.a3≠h.Y.X.a1
 k2:CI h->(af (tbl h) h.Y.X.a3).e≠1
def JP.of(g:bc h E)(i:JI h)(j:h.u=true):JP h:=by
 obtain⟨k,b⟩:=g.jobM j;have a:=(dv.1 (g.job j).1).1;unfold eM at a;simp only[I0,C0]at a;have c:=a.2.2.2.2.2;have l:=kZ g.ker k;have n:=kZ g.ker b;obtain⟨t,u,o⟩:=mL k;obtain⟨w,y,q⟩:=mL b;refine⟨k,b,l,n,λe=>c ?_,c,λr p=>?_⟩
 ·have d:(af (tbl h) h.Y.X.a3).o=(bL h.G h.Y.X.a3:Nat):=l
  have f:(af (tbl h) h.Y.X.a1).o=(bL h.G h.Y.X.a1:Nat):=n;rw[o]at d;rw[q]at f b;have:=i.sk j h.Y.X.a1.toNat b (by rw[d,f,e]);omega
 rw[o]at p;have:=(r.m1 _ p).2.1;omega
def hJ(h:ac)(k:am)(j:cE):ac:={h with G:=k,u:=true,Y:=j}
def hE(h:ac)(k:am):ac:={h with G:=k,u:=false,Y:=⟨⟨0,0,[]⟩,0,0⟩}
def Mp(a:h.u=true):mStep h=if over (gT h.G h.Y).2=true then hE h (gT h.G h.Y).1 else hJ h (gT h.G h.Y).1 (gT h.G h.Y).2:=by
 unfold mStep hE hJ;split
 ·rfl
 rw[a]
def wl(g:bc h E)(l:h'.O=h.O)(n:∀p,(af (tbl h) p).e≠0->(af (tbl h') p).e≠0/\(af (tbl h') p).o=(af (tbl h) p).o)(q:∀o∈h.O,∀f c,qu h o f c->cl h'.G f c=cl h.G f c):Kp h h':=λo e=>by
 rw[l]at e;refine⟨e,λj i r=>?_⟩;have b:=(cN g e (k:=j) ⟨i,ω⟩).1;have a:=At.mk' g.ker b;obtain⟨t,u⟩:=n _ b;have d:At h'.G (o.Addr+j) (cU h.G (o.Addr+j)) ((o.Addr+j) % 16).toNat:=⟨t,u.trans a.f,a.c⟩
 rw[d.cell,a.cell];exact q o e _ _ ⟨j,i,r,a⟩
def xS(b:∀p,(af (tbl h) p).e≠0->(af (tbl h') p).e≠0/\(af (tbl h') p).o=(af (tbl h) p).o)(d:qu h o f c):qu h' o f c:=by
 obtain⟨j,e,g,a⟩:=d;obtain⟨i,k⟩:=b _ a.m;exact⟨j,e,g,i,k.trans a.f,a.c⟩
def sN{m:Int}(b:(af k.F.R p).e≠0)(q:Int):af (jf k p m).F.R q=if q=p then {af k.F.R p with e:=m} else af k.F.R q:=by
 obtain⟨c,d,g⟩:=mL b;have f:(jf k p m).F.R.K.length=k.F.R.K.length:=by unfold jf;simp
 unfold af;rw[f];by_cases e:0<=q/\q<k.F.R.K.length
 ·rw[CC e,CC e]
  unfold jf;simp only[bF];by_cases a:q=p
  ·rw[CC a,CC ⟨ω,ω⟩,CC ⟨c,d⟩]
  rw[C9 a,C9 ω]
 rw[C9 e,C9 e,C9 ω]
def GM{t:aM}{q:Nat}(h:(nth t.K q).e≠0):af t (q:Int)=nth t.K q:=by
 have:=tw h;unfold af;rw[CC ⟨ω,ω⟩];rfl
def CI.ended(l:bc h E)(n:CI h)(u:h.u=true)(r:h.Y.b=0)(g:∀f c,cl k f c=cl h.G f c)(i:∀p,(af (tbl h) p).e≠0->(af k.F.R p).e≠0/\(af k.F.R p).o=(af (tbl h) p).o)(h1:∀q:Nat,(nth k.F.R.K q).e≠1):CI (hE h k)/\Kp h (hE h k):=by
 refine⟨⟨λf c a b=>?_,λe=>(by cases e),λe=>(by cases e),λe=>(by cases e),λe=>(by cases e),λq t=>absurd t (h1 q),λe=>(by cases e)⟩,wl l rfl i λo j f c _=>g f c⟩;change cl k f c≠0 at b;rw[g]at b;rcases n.z f c a b with⟨o,j,d⟩|⟨-,-,e⟩
 ·exact .inl ⟨o,j,xS i d⟩
 rw[r]at e;cases e
def JE{p:cx}(h:eM p=true){i:Nat} : ∀{j:Nat},i<j->j<p.T.length->nth p.T i<nth p.T j
 | 0,a,_=>absurd a (Nat.not_lt_zero i)
 | j+1,a,d=>by
  have b:=h;unfold eM at b;simp only[I0]at b;have c:=fj b.1 d;unfold m6 at c;rw[C0]at c;have f:nth p.T j<nth p.T (j+1):=c.2.2.resolve_left ω;by_cases e:i=j
  ·rw[e];exact f
  have:=JE h (i:=i) (j:=j) ω ω;omega
def rk(k:am)(a:Nat)(b v:Int)(f c:Nat):cl (setCell k a b v) f c=cl k f c\/(cl (setCell k a b v) f c=v/\f=a/\c=b.toNat):=by
 unfold cl setCell;simp only[bF];by_cases e:a=f/\f<k.F.W.T.length
 ·rw[CC e,bF]
  by_cases d:b.toNat=c/\c<(nth k.F.W.T a).length
  ·rw[CC d];exact .inr ⟨rfl,e.1.symm,d.1.symm⟩
  rw[C9 d,e.1];exact .inl rfl
 rw[C9 e];exact .inl rfl
def qB(c:aF k=true)(e:(af k.F.R p).e≠0)(g:0<=a/\a<=15):cl (setCell k (bL k p) a v) (bL k p) a.toNat=v:=by
 have d:=(g9 c e).1;have b:=(tW c (f:=bL k p) d).1;unfold cl setCell;show nth (nth (List.set _ _ _) _) _=v;rw[bF];rw[CC ⟨rfl,d⟩,bF,CC ⟨rfl,by rw[b];omega⟩]
def FE{j:cE}(d:qu h o f c):qu (hJ h (setCell h.G (bL h.G p) b v) j) o f c:=by
 obtain⟨x,e,g,a⟩:=d;exact⟨x,e,g,⟨a.m,a.f,a.c⟩⟩
def Kf{j:cE}(a:bc h [])(b:JI h)(q:CI h)(l:h.u=true)(r:JP h){d:Int}(n:d∈h.Y.X.T)(v:Int):Kp h (hJ h (setCell h.G (bL h.G h.Y.X.a3) d v) j):=by
 obtain⟨k,t,e⟩:=aP n;have u:=ge (dv.1 (a.job l).1).1 t;refine wl a rfl (λp w=>⟨w,rfl⟩) λo y f c i=>?_
 rcases rk h.G (bL h.G h.Y.X.a3) d v f c with g|⟨-,A,B⟩
 ·exact g
 exfalso;refine sY a b q l (jE a y i) ω ?_ (by rw[A];exact r.kf);rw[B,Int.toNat_of_nonneg ω];exact n
def CI.copied(r:bc h [])(t:JI h)(b:CI h)(k:h.u=true)(n:JP h)(N:h.Y.b0=1)(O:0<=h.Y.b/\h.Y.b<h.Y.X.T.length):CI (hJ h (sZ h.G h.Y.X.a1 h.Y.X.a3 (nth h.Y.X.T h.Y.b.toNat)) {h.Y with b:=h.Y.b+1})/\Kp h (hJ h (sZ h.G h.Y.X.a1 h.Y.X.a3 (nth h.Y.X.T h.Y.b.toNat)) {h.Y with b:=h.Y.b+1}):=by
 have d:h.Y.b.toNat<h.Y.X.T.length:=ω
 have l:=ar d;have u:=ge (dv.1 (r.job k).1).1 d;have i:h.Y.X.T.take (h.Y.b+1).toNat=h.Y.X.T.take h.Y.b.toNat++[nth h.Y.X.T h.Y.b.toNat]:=by
  rw[show(h.Y.b+1).toNat=h.Y.b.toNat+1 by omega,V5,au d];rfl
 unfold sZ;have w:=qB r.ker (p:=h.Y.X.a3) (v:=nth (nth h.G.F.W.T (bL h.G h.Y.X.a1)) (nth h.Y.X.T h.Y.b.toNat).toNat) n.km u;have j:=rk h.G (bL h.G h.Y.X.a3) (nth h.Y.X.T h.Y.b.toNat) (nth (nth h.G.F.W.T (bL h.G h.Y.X.a1)) (nth h.Y.X.T h.Y.b.toNat).toNat);refine⟨⟨λf c y H=>?_,λ_ c a=>?_,λ_=>b.jd k,λ_=>b.jc k,λ_=>⟨λe=>absurd e (by show ¬h.Y.b0=0;omega),λe=>absurd e (by show ¬h.Y.b0=2;omega)⟩,λq J=>?_,λ_ _=>b.m2 k ω⟩,Kf r t b k n l _⟩
 ·rcases j f c with g|⟨-,A,B⟩
  ·have C:cl h.G f c≠0:=by rw[<-g];exact H
   rcases b.z f c y C with⟨o,K,L⟩|⟨M,D,E⟩
   ·exact .inl ⟨o,K,FE L⟩
   refine .inr ⟨rfl,D,?_⟩;show(c:Int)∈h.Y.X.T.take (h.Y.b+1).toNat;rw[i];exact C3.2 (.inl E)
  refine .inr ⟨rfl,?_,?_⟩
  ·show(af (tbl h) h.Y.X.a3).o=f;rw[A];exact n.kf
  show(c:Int)∈h.Y.X.T.take (h.Y.b+1).toNat;rw[i,B,Int.toNat_of_nonneg ω];exact C3.2 (.inr (O1.2 rfl))
 ·change (c:Int)∈h.Y.X.T.take (h.Y.b+1).toNat at a
  show cl (setCell h.G (bL h.G h.Y.X.a3) _ _) (bL h.G h.Y.X.a3) c=cl (setCell h.G (bL h.G h.Y.X.a3) _ _) (bL h.G h.Y.X.a1) c;have F:cl (setCell h.G (bL h.G h.Y.X.a3) (nth h.Y.X.T h.Y.b.toNat) (nth (nth h.G.F.W.T (bL h.G h.Y.X.a1)) (nth h.Y.X.T h.Y.b.toNat).toNat)) (bL h.G h.Y.X.a1) c=cl h.G (bL h.G h.Y.X.a1) c:=by
   rcases j (bL h.G h.Y.X.a1) c with g|⟨-,A,-⟩
   ·exact g
   exact absurd A.symm n.ne
  rw[F];by_cases G:(c:Int)=nth h.Y.X.T h.Y.b.toNat
  ·have:c=(nth h.Y.X.T h.Y.b.toNat).toNat:=ω
   rw[this,w];rfl
  rw[i]at a;rcases C3.1 a with a|a
  ·rcases j (bL h.G h.Y.X.a3) c with g|⟨-,-,B⟩
   ·rw[g];exact b.jv k c a
   exact absurd (by rw[B,Int.toNat_of_nonneg ω]) G
  exact absurd (O1.1 a) G
 obtain⟨M,D,E⟩:=b.m1 q J;exact⟨rfl,D,E⟩
def CI.undone(y:bc h [])(A:JI h)(b:CI h)(r:h.u=true)(l:JP h)(p3:h.Y.b0=3)(hp:0<h.Y.b):CI (hJ h {h.G with F:=(iW h.G.F (h.Y.X.a3*16+nth h.Y.X.T (h.Y.b - 1).toNat) 0).1} {h.Y with b:=h.Y.b - 1})/\Kp h (hJ h {h.G with F:=(iW h.G.F (h.Y.X.a3*16+nth h.Y.X.T (h.Y.b - 1).toNat) 0).1} {h.Y with b:=h.Y.b - 1}):=by
 obtain⟨t,-,-,n0,n1⟩:=dv.1 (y.job r).1;have a:(h.Y.b - 1).toNat<h.Y.X.T.length:=ω
 have u:=ar a;have B:=ge t a;have O:=(mL l.km).1;have P:(h.Y.X.a3*16+nth h.Y.X.T (h.Y.b - 1).toNat) / 16=h.Y.X.a3:=ω
 have Q:(h.Y.X.a3*16+nth h.Y.X.T (h.Y.b - 1).toNat) % 16=nth h.Y.X.T (h.Y.b - 1).toNat:=ω
 have C:(af h.G.F.R h.Y.X.a3).e≠0:=l.km;have D:(af h.G.F.R h.Y.X.a3).e≠1:=l.k2 b;have R:({h.G with F:=(iW h.G.F (h.Y.X.a3*16+nth h.Y.X.T (h.Y.b - 1).toNat) 0).1} : am)=setCell h.G (bL h.G h.Y.X.a3) (nth h.Y.X.T (h.Y.b - 1).toNat) 0:=by
  unfold iW;rw[P,Q,C9 C,C9 D]
  rfl
 rw[R];have n:=rk h.G (bL h.G h.Y.X.a3) (nth h.Y.X.T (h.Y.b - 1).toNat) 0;have w:h.Y.X.T.take h.Y.b.toNat=h.Y.X.T.take (h.Y.b - 1).toNat++[nth h.Y.X.T (h.Y.b - 1).toNat]:=by
  rw[show h.Y.b.toNat=(h.Y.b - 1).toNat+1 by omega,V5,au a];rfl
 have E:nth h.Y.X.T (h.Y.b - 1).toNat∉h.Y.X.T.take (h.Y.b - 1).toNat:=λF=>by
  obtain⟨k,S,T⟩:=aP F;rw[V1]at S;have G:nth (h.Y.X.T.take (h.Y.b - 1).toNat) k=nth h.Y.X.T k:=by
   refine bn ?_;rw[List.getElem?_take,CC ω];exact au ω
  rw[G]at T;have:=JE t (i:=k) (j:=(h.Y.b - 1).toNat) ω a;omega
 refine⟨⟨λf c H J=>?_,λ_ c p=>?_,λ_=>b.jd r,λ_=>b.jc r,λ_=>⟨λe=>absurd e (by show ¬h.Y.b0=0;omega),λe=>absurd e (by show ¬h.Y.b0=2;omega)⟩,λq U=>?_,λ_ _=>b.m2 r ω⟩,Kf y A b r l u _⟩
 ·rcases n f c with g|⟨V,-,-⟩
  ·have K:cl h.G f c≠0:=by rw[<-g];exact J
   rcases b.z f c H K with⟨o,W,X⟩|⟨Y,L,d⟩
   ·exact .inl ⟨o,W,FE X⟩
   rw[w]at d;rcases C3.1 d with d|d
   ·exact .inr ⟨rfl,L,d⟩
   exfalso;have ec:=O1.1 d;have M:f=bL h.G h.Y.X.a3:=by have:=l.kf;omega
   refine J ?_;show cl (setCell h.G (bL h.G h.Y.X.a3) _ 0) f c=0;rw[M,show c=(nth h.Y.X.T (h.Y.b - 1).toNat).toNat by omega];exact qB y.ker l.km B
  exact absurd V J
 ·change (c:Int)∈h.Y.X.T.take (h.Y.b - 1).toNat at p
  show cl (setCell h.G (bL h.G h.Y.X.a3) _ 0) (bL h.G h.Y.X.a3) c=cl (setCell h.G (bL h.G h.Y.X.a3) _ 0) (bL h.G h.Y.X.a1) c;have N:cl (setCell h.G (bL h.G h.Y.X.a3) (nth h.Y.X.T (h.Y.b - 1).toNat) 0) (bL h.G h.Y.X.a1) c=cl h.G (bL h.G h.Y.X.a1) c:=by
   rcases n (bL h.G h.Y.X.a1) c with g|⟨-,Z,-⟩
   ·exact g
   exact absurd Z.symm l.ne
  rw[N];rcases n (bL h.G h.Y.X.a3) c with g|⟨-,-,g2⟩
  ·rw[g]
   exact b.jv r c (by rw[w];exact C3.2 (.inl p))
  exact absurd (by rw[show nth h.Y.X.T (h.Y.b - 1).toNat=(c:Int) by omega];exact p) E
 obtain⟨Y,L,d⟩:=b.m1 q U;exact⟨rfl,L,d⟩
def CI.meshed(F:bc h [])(D:JI h)(G:CI h)(H:h.u=true)(d:JP h)(hn:h.Y.b=h.Y.X.T.length)(L:h.G.Calls≠100000)(R:(vU h.G h.Y.X.a1 h.Y.X.a3).2=true):CI (hE h (vU h.G h.Y.X.a1 h.Y.X.a3).1)/\Kp h (hE h (vU h.G h.Y.X.a1 h.Y.X.a3).1):=by
 have A:=Ji F.ker (p:=h.Y.X.a1) (o:=h.Y.X.a3) d.mm R;obtain⟨m1,m2,m3⟩:=mL d.mm;obtain⟨k1,k2,k3⟩:=mL d.km;have M:=(A 0).1;generalize N:(vU h.G h.Y.X.a1 h.Y.X.a3).1=K at *;have J:∀q:Int,af K.F.R q=if q=h.Y.X.a1 then⟨2,(af (tbl h) h.Y.X.a3).o⟩ else af (tbl h) q:=λq=>by
  unfold af;rw[M];by_cases e:0<=q/\q<h.G.F.R.K.length
  ·rw[CC e,(A q.toNat).2]
   by_cases B:q=h.Y.X.a1
   ·rw[CC B,CC ω,CC ⟨k1,k2⟩];rfl
   rw[C9 B,C9 ω,CC (show 0<=q/\q<(tbl h).K.length from e)];rfl
  rw[C9 e,C9 (show ¬q=h.Y.X.a1 by unfold tbl at m2;omega),C9 (show ¬(0<=q/\q<(tbl h).K.length) from e)]
 have l:∀f c,cl K f c=cl h.G f c\/(cl K f c=0/\f=bL h.G h.Y.X.a1):=λf c=>by
  unfold vU at N R;by_cases e:refd h.G=true
  ·rw[CC e]at R;cases R
  rw[C9 e]at N;simp only at N;rw[<-N];rcases JH (vL (cg h.G) h.Y.X.a1.toNat ⟨2,(nth (cg h.G).F.R.K h.Y.X.a3.toNat).o⟩) (nth (cg h.G).F.R.K h.Y.X.a1.toNat).o f c with g|⟨S,T,-⟩
  ·exact .inl g
  refine .inr ⟨S,?_⟩;rw[<-T];have h3:nth (cg h.G).F.R.K h.Y.X.a1.toNat=af h.G.F.R h.Y.X.a1:=m3.symm;rw[h3];rfl
 have n:h.Y.X.T.take h.Y.b.toNat=h.Y.X.T:=I7 ω;have O:∀p:Int,(af (tbl h) p).e≠0->(af (tbl h) p).o=(bL h.G h.Y.X.a1:Nat)->p=h.Y.X.a1:=λp j C=>by
  obtain⟨p1,p2,p3⟩:=mL j;have P:=d.mf;rw[p3]at j C;rw[m3]at P;have:=D.sm H p.toNat j (by rw[C,P]);omega
 have U:∀c,cl K (bL h.G h.Y.X.a3) c=cl h.G (bL h.G h.Y.X.a3) c:=λc=>by
  rcases l (bL h.G h.Y.X.a3) c with g|⟨-,g⟩
  ·exact g
  exact absurd g d.ne
 have place:∀o∈h.O,∀x:Int,0<=x->x<o.q->∀f c:Nat,At h.G (o.Addr+x) f c->(f≠bL h.G h.Y.X.a1->At K (o.Addr+x) f c)/\(f=bL h.G h.Y.X.a1->At K (o.Addr+x) (bL h.G h.Y.X.a3) c/\(c:Int)∈h.Y.X.T):=λo r x u w f c a=>by
  constructor
  ·intro hne
   have j:(o.Addr+x) / 16≠h.Y.X.a1:=λe=>by
    have:=a.f;rw[e]at this;have h3:(af h.G.F.R h.Y.X.a1).o=_:=d.mf;omega
   exact⟨by rw[J,C9 j];exact a.m,by rw[J,C9 j];exact a.f,a.c⟩
  intro he;have j:=O _ a.m (by rw[<-he];exact a.f);refine⟨⟨by rw[J,CC j];show(2:Int)≠0;decide,by rw[J,CC j];exact d.kf,a.c⟩,?_⟩;obtain⟨-,-,b,hb,-,V,-⟩:=D.sp H;have y:c<16:=by have:=a.c;omega
  obtain⟨e1,B,-⟩:=xd F (jE F r ⟨x,u,w,a⟩) hb (by rw[V];exact D.sm H) (by rw[V,he];exact d.mf);refine G.jc H b hb V c y ?_;rw[B];exact e1.2.2.2
 refine⟨⟨λf c y E=>?_,λe=>(by cases e),λe=>(by cases e),λe=>(by cases e),λe=>(by cases e),λq hq=>?_,λe=>(by cases e)⟩,λo r=>⟨r,λx u w=>?_⟩⟩
 ·change cl K f c≠0 at E
  rcases l f c with g|⟨g,-⟩
  rotate_left
  ·exact absurd g E
  rw[g]at E;have W:f≠bL h.G h.Y.X.a1:=λe=>by
   refine E ?_;rw[<-g,e];have X:aF K=true:=by
    rw[<-N];exact Mb F.ker L d.mm d.km (Ne.symm d.pe)
   refine pf X (λp j C=>?_) c;rw[J]at j C;by_cases B:p=h.Y.X.a1
   ·rw[CC B]at C
    have h1:(af (tbl h) h.Y.X.a3).o=(bL h.G h.Y.X.a1:Nat):=C;have h2:=d.kf;exact d.ne ω
   rw[C9 B]at j C;exact B (O p j C)
  rcases G.z f c y E with⟨o,r,x,u,w,a⟩|⟨-,q2,q3⟩
  ·exact .inl ⟨o,r,x,u,w,(place o r x u w f c a).1 W⟩
  rw[n]at q3;have Q:f=bL h.G h.Y.X.a3:=by have:=d.kf;omega
  rw[Q,G.jv H c (by rw[n];exact q3)]at E;rcases G.z _ c y E with⟨o,r,x,u,w,a⟩|⟨-,r2,-⟩
  ·exact .inl ⟨o,r,x,u,w,by rw[Q];exact((place o r x u w _ c a).2 rfl).1⟩
  exact absurd (by have:=d.kf;omega) d.ne
 ·have i:(nth K.F.R.K q).e=1:=hq
  have:=GM (t:=K.F.R) (q:=q) (by rw[i];decide);rw[J]at this;by_cases e:(q:Int)=h.Y.X.a1
  ·rw[CC e]at this
   rw[<-this]at i;exact absurd i (by show ¬(2:Int)=1;decide)
  rw[C9 e]at this;rw[<-this]at i;obtain⟨a1,a2,a3⟩:=mL (t:=tbl h) (p:=(q:Int)) (by rw[i];decide);rw[a3]at i;exact absurd (by have:=(G.m1 _ i).2.1;omega) e
 have Y:=(cN F r (k:=x) ⟨u,ω⟩).1;have a:=At.mk' F.ker Y;obtain⟨S,T⟩:=place o r x u w _ _ a;show fJ K (o.Addr+x)=fJ h.G (o.Addr+x);by_cases e:cU h.G (o.Addr+x)=bL h.G h.Y.X.a1
 ·obtain⟨Z,g4⟩:=T e
  rw[Z.cell,a.cell,U,e];exact G.jv H _ (by rw[n];exact g4)
 have Z:=S e;rw[Z.cell,a.cell];rcases l (cU h.G (o.Addr+x)) ((o.Addr+x) % 16).toNat with g|⟨-,g⟩
 ·exact g
 exact absurd g e
def CI.mStep{h:ac}(w:bc h [])(l:JI h)(a:CI h)(d:h.u=true):CI (mStep h)/\Kp h (mStep h):=by
 have C:=JP.of w l d;have Z:=l.ph d;obtain⟨jn0,jn2⟩:=a.jn d;obtain⟨-,-,-,n0,n1⟩:=dv.1 (w.job d).1;rw[Mp d];have stay:∀(k:am)(j:cE),k.F=h.G.F->j.X=h.Y.X->j.b=h.Y.b->(j.b0=0↔h.Y.b0=0)->(j.b0=2->j.b=j.X.T.length)->CI (hJ h k j)/\Kp h (hJ h k j):=λk j M u N O e5=>by
  have J:tbl (hJ h k j)=tbl h:=by unfold tbl hJ;rw[M]
  have L:∀f c,cl k f c=cl h.G f c:=λf c=>by unfold cl;rw[M]
  have D:∀o f c,qu h o f c->qu (hJ h k j) o f c:=λo f c=>xS (λp E=>by rw[J];exact⟨E,rfl⟩)
  refine⟨⟨λf c F K=>?_,λ_ c g=>?_,λ_=>?_,λ_=>?_,λ_=>⟨λe=>?_,e5⟩,λq i=>?_,λ_ e=>?_⟩,wl w rfl (λp E=>by rw[J];exact⟨E,rfl⟩) λo _ f c _=>L f c⟩
  ·change cl k f c≠0 at K
   rw[L]at K;rcases a.z f c F K with⟨o,P,Q⟩|⟨q1,R,G⟩
   ·exact .inl ⟨o,P,D o f c Q⟩
   refine .inr ⟨rfl,?_,?_⟩
   ·rw[J];show(af (tbl h) j.X.a3).o=f;rw[u];exact R
   show(c:Int)∈j.X.T.take j.b.toNat;rw[u,N];exact G
  ·change (c:Int)∈j.X.T.take j.b.toNat at g
   show cl k (bL k j.X.a3) c=cl k (bL k j.X.a1) c;rw[u,N]at g;rw[u,L,L];unfold bL;rw[M];exact a.jv d c g
  ·show ∀s∈h.J,s.Q=j.X.a3->_
   rw[show(hJ h k j).Y.X=h.Y.X from u,u];exact a.jd d
  ·show ∀s∈h.J,s.Q=j.X.a1->_
   rw[show(hJ h k j).Y.X=h.Y.X from u,u];exact a.jc d
  ·exact(show j.b=h.Y.b from N).trans (jn0 (O.1 e))
  ·rw[J]at i
   obtain⟨q1,R,G⟩:=a.m1 q i;exact⟨rfl,by show(q:Int)=j.X.a1;rw[u];exact R,λe=>G (O.1 e)⟩
  rw[J];show(af (tbl h) j.X.a1).e=1;rw[u];exact a.m2 d λx=>e (O.2 x)
 have prot:∀H:Int,H=1\/H=2->∀p,(af (tbl h) p).e≠0->(af (jf (cg h.G) h.Y.X.a1 H).F.R p).e≠0/\(af (jf (cg h.G) h.Y.X.a1 H).F.R p).o=(af (tbl h) p).o:=λH hmo p E=>by
  rw[sN (k:=cg h.G) C.mm];by_cases e:p=h.Y.X.a1
  ·rw[CC e,e]
   exact⟨by show H≠0;omega,rfl⟩
  rw[C9 e];exact⟨E,rfl⟩
 unfold gT;by_cases b:jmay h.G h.Y=true;rotate_left
 ·rw[C9 b]
  rw[C9 (by rw[show over (h.G,h.Y).2=over h.Y from rfl,show over h.Y=false from U0 ω];decide)];exact stay h.G h.Y rfl rfl rfl Iff.rfl jn2
 rw[CC b];unfold jstep;by_cases A:h.Y.b0=0
 ·rw[CC A]
  have n:=jn0 A;simp only;unfold jI;by_cases B:refd h.G=true
  ·rw[CC B]
   simp only[Bool.false_eq_true,if_false];rw[CC (show over {h.Y with b0:=5} = true from O0 (.inr rfl))];refine CI.ended w a d n (λ_ _=>rfl) (λp E=>⟨E,rfl⟩) λq i=>(a.m1 q i).2.2 A
  rw[C9 B];simp only[if_true];rw[C9 (by rw[show over {h.Y with b0:=1} = false from U0 (by show ¬((1:Int)=4\/(1:Int)=5);decide)];decide)];have D:∀o f c,qu h o f c->qu (hJ h (jf (cg h.G) h.Y.X.a1 1) {h.Y with b0:=1}) o f c:=λo f c=>xS (prot 1 (.inl rfl))
  refine⟨⟨λf c F K=>?_,λ_ c g=>?_,λ_=>a.jd d,λ_=>a.jc d,λ_=>⟨λe=>absurd e (by show ¬(1:Int)=0;decide),λe=>absurd e (by show ¬(1:Int)=2;decide)⟩,λq i=>?_,λ_ _=>?_⟩,wl w rfl (prot 1 (.inl rfl)) λ_ _ _ _ _=>rfl⟩
  ·rcases a.z f c F K with⟨o,P,Q⟩|⟨-,-,G⟩
   ·exact .inl ⟨o,P,D o f c Q⟩
   rw[n]at G;cases G
  ·change (c:Int)∈h.Y.X.T.take h.Y.b.toNat at g
   rw[n]at g;cases g
  ·refine⟨rfl,?_,by show ¬(1:Int)=0;decide⟩
   show(q:Int)=h.Y.X.a1;refine Classical.byContradiction λS=>?_
   have y:(nth (jf (cg h.G) h.Y.X.a1 1).F.R.K q).e=1:=i;have:=GM (t:=(jf (cg h.G) h.Y.X.a1 1).F.R) (q:=q) (by rw[y];decide);rw[sN (k:=cg h.G) C.mm,C9 S]at this;rw[<-this]at y;obtain⟨a1,a2,T⟩:=mL (t:=tbl h) (p:=(q:Int)) (by show(af h.G.F.R q).e≠0;have:(af h.G.F.R q).e=1:=y;rw[this];decide);have r:(af (tbl h) q).e=1:=y;rw[T]at r;exact(a.m1 _ r).2.2 A
  show(af (jf (cg h.G) h.Y.X.a1 1).F.R h.Y.X.a1).e=1;rw[sN (k:=cg h.G) C.mm,CC rfl]
 rw[C9 A];by_cases U:h.Y.b0=1
 ·rw[CC U]
  by_cases V:h.Y.b=h.Y.X.T.length
  ·rw[CC V]
   simp only;rw[C9 (by rw[show over {h.Y with b0:=2} = false from U0 (by show ¬((2:Int)=4\/(2:Int)=5);decide)];decide)];exact stay h.G {h.Y with b0:=2} rfl rfl rfl ⟨λe=>absurd e (by show ¬(2:Int)=0;decide),λe=>absurd e A⟩ λ_=>V
  rw[C9 V];simp only;rw[C9 (by rw[show over {h.Y with b:=h.Y.b+1} = false from U0 (by show ¬(h.Y.b0=4\/h.Y.b0=5);omega)];decide)];exact CI.copied w l a d C U ω
 rw[C9 U];by_cases W:h.Y.b0=2
 ·rw[CC W]
  simp only;cases B:(vU h.G h.Y.X.a1 h.Y.X.a3).2 with
  | false=>
   simp only[Bool.false_eq_true,if_false];rw[C9 (by rw[show over {h.Y with b0:=3} = false from U0 (by show ¬((3:Int)=4\/(3:Int)=5);decide)];decide)];rw[MH B];exact stay (cg h.G) {h.Y with b0:=3} rfl rfl rfl ⟨λe=>absurd e (by show ¬(3:Int)=0;decide),λe=>absurd e A⟩ λe=>absurd e (by show ¬(3:Int)=2;decide)
  | true=>
   rw[CC rfl];rw[CC (show over {h.Y with b0:=4} = true from O0 (.inl rfl))];exact CI.meshed w l a d C (jn2 W) (by unfold jmay at b;simp only[I0,C0]at b;exact b.1.2) B
 rw[C9 W];have Y:h.Y.b0=3:=ω
 rw[CC Y];by_cases X:0<h.Y.b
 ·rw[CC X]
  simp only;rw[C9 (by rw[show over {h.Y with b:=h.Y.b - 1} = false from U0 (by show ¬(h.Y.b0=4\/h.Y.b0=5);omega)];decide)];exact CI.undone w l a d C Y X
 rw[C9 X];have n:h.Y.b=0:=ω
 simp only;unfold jI;by_cases B:refd h.G=true
 ·rw[CC B]
  simp only[Bool.false_eq_true,if_false];rw[C9 (by rw[show over {h.Y with b0:=3} = false from U0 (by show ¬((3:Int)=4\/(3:Int)=5);decide)];decide)];exact stay (cg h.G) {h.Y with b0:=3} rfl rfl rfl ⟨λe=>absurd e (by show ¬(3:Int)=0;decide),λe=>absurd e A⟩ λe=>absurd e (by show ¬(3:Int)=2;decide)
 rw[C9 B];simp only[if_true];rw[CC (show over {h.Y with b0:=5} = true from O0 (.inr rfl))];refine CI.ended w a d n (λ_ _=>rfl) (prot 2 (.inr rfl)) λq i=>?_
 have:=GM (t:=(jf (cg h.G) h.Y.X.a1 2).F.R) (q:=q) (by rw[i];decide);rw[sN (k:=cg h.G) C.mm]at this;by_cases e:(q:Int)=h.Y.X.a1
 ·rw[CC e]at this
  rw[<-this]at i;exact absurd i (by show ¬(2:Int)=1;decide)
 rw[C9 e]at this;rw[<-this]at i;obtain⟨a1,a2,T⟩:=mL (t:=tbl h) (p:=(q:Int)) (by have:(af (tbl h) q).e=1:=i;rw[this];decide);have r:(af (tbl h) q).e=1:=i;rw[T]at r;exact e (by have:=(a.m1 _ r).2.1;omega)
def AK{n:Nat} : (c:Int)∈tK s n↔c<n/\u6 s c=true:=by
 unfold tK;simp only[O4,U4,List.mem_range];constructor
 ·rintro⟨a,⟨b,d⟩,e⟩
  have:a=c:=ω
  subst this;exact⟨b,d⟩
 rintro⟨b,d⟩;exact⟨c,⟨b,d⟩,rfl⟩
def PF{a b:aA}(c:meshable a b=true){i:Int}(h:aZ a.a9 i=true):aZ b.a9 i=false:=by
 unfold meshable at c;simp only[I0,C0]at c;obtain⟨-,-,-,d⟩:=c;rw[<-U5];intro e;have f:=(eL _ _).1 h;have g:=(eL _ _).1 e;have:=X0 (λn=>Nat.testBit n i.toNat) d;simp only[Nat.testBit_and,Nat.zero_testBit]at this;rw[f.2.2.2,g.2.2.2]at this;cases this
def HO(a:bc h E){u:aA}(b:s∈h.J)(c:u∈h.J)(e:s.Q=u.Q):s=u:=by
 obtain⟨i,d,rfl⟩:=aP b;obtain⟨j,g,rfl⟩:=aP c;rw[cM (f:=(·.Q)) a.L.nd d g e]
def CI.begun(B:bc h E)(C:CI h)(D:h.u=false){a b:aA}(F:a∈h.J)(G:b∈h.J)(l:meshable a b=true)(sd:Int):CI {h with b3:=sd,u:=true,Y:=uH (dl a b)}:=by
 have n:∃x∈h.J,∃y∈h.J,(dl a b).a3=x.Q/\(dl a b).a1=y.Q/\(dl a b).T=tK y 16/\meshable x y=true:=by
  unfold dl;split
  ·exact⟨b,G,a,F,rfl,rfl,rfl,by rw[gL];exact l⟩
  exact⟨a,F,b,G,rfl,rfl,rfl,l⟩
 obtain⟨x,M,y,N,H,J,r,d⟩:=n;generalize dl a b=p at H J r;have ecl:x.d=y.d:=by
  unfold meshable at d;simp only[I0,C0]at d;exact d.2.1
 refine⟨λf c g O=>?_,λ_ c j=>absurd j (by show ¬(c:Int)∈p.T.take (0:Int).toNat;simp),λ_ s t n c g j=>?_,λ_ s t n c g u=>?_,λ_=>⟨λ_=>rfl,λe=>absurd e (by show ¬(0:Int)=2;decide)⟩,λq P=>?_,λ_ e=>absurd rfl e⟩
 ·rcases C.z f c g O with⟨o,Q,w⟩|⟨K,-⟩
  ·exact .inl ⟨o,Q,w⟩
  rw[D]at K;cases K
 ·have k:=HO B t M (n.trans H)
  subst k;have i:(c:Int)∈p.T:=j;rw[r]at i;have A:=(AK.1 i).2;unfold u6 at A;rw[<-ecl]at A;rw[gL]at d;exact PF d A
 ·have k:=HO B t N (n.trans J)
  subst k;show(c:Int)∈p.T;rw[r];exact AK.2 ⟨g,u⟩
 have L:=(C.m1 q P).1;rw[D]at L;cases L
def CI.started{h:ac}(f:bc h [])(a:CI h)(j:h.u=false):CI (started h).1/\Kp h (started h).1:=by
 have g:=f.nums;unfold cu at g;rw[C0]at g;have d:=oh (bG h) (show 0<=h.b3/\h.b3<=1073741823 by omega);cases e:mc (bG h) h.b3 with
 | nil=>
  have c:Ab.started h=({h with b3:=(shuf (bG h).length h.b3).2},false):=by unfold Ab.started;rw[e]
  rw[c];exact⟨⟨a.z,a.jv,a.jd,a.jc,a.jn,a.m1,a.m2⟩,CZ h⟩
 | cons q n=>
  obtain⟨o,p,k⟩:=d q (by rw[e];exact Z1 ..);have c:Ab.started h=({h with b3:=(shuf (bG h).length h.b3).2,u:=true,Y:=uH (dl (nth (bG h) q.A.toNat) (nth (bG h) q.B.toNat))},true):=by unfold Ab.started;rw[e]
  rw[c];have b:∀s∈bG h,s∈h.J:=λs l=>mR h (I3 _) s (List.mem_of_mem_take l)
  exact⟨CI.begun f a j (b _ (ar (xs:=bG h) (i:=q.A.toNat) ω)) (b _ (ar (xs:=bG h) (i:=q.B.toNat) ω)) k _,CZ h⟩
def QX(k:am)(a:Int)(f c:Nat):∀m,cl (zK k a m) f c=cl k f c\/(cl (zK k a m) f c=0/\∃j:Nat,j<m/\f=cU k (a+j)/\c=((a+j) % 16).toNat)
 | 0=>.inl rfl
 | m+1=>by
  have e:cU (zK k a m) (a+m)=cU k (a+m):=by unfold cU;rw[(nz k a m).1]
  rcases rc (zK k a m) (a+m) 0 f c with g|⟨b,h,d⟩
  ·rcases QX k a f c m with i|⟨b,j,h,d⟩
   ·exact .inl (g.trans i)
   exact .inr ⟨g.trans b,j,ω,d⟩
  exact .inr ⟨b,m,ω,by rw[<-e];exact h,d⟩
def Ek{k:am}(h:aF k=true){a:Int} : ∀{m:Nat},(∀j:Nat,j<m->(af k.F.R ((a+j) / 16)).e≠0)->∀j:Nat,j<m->cl (zK k a m) (cU k (a+j)) ((a+j) % 16).toNat=0
 | 0,_,_,c=>absurd c (Nat.not_lt_zero _)
 | m+1,d,j,c=>by
  have f:=Nv h (a:=a) (m:=m) λj c=>d j ω
  have i:=(nz k a m).1;have e:∀b,cU (zK k a m) b=cU k b:=λb=>by unfold cU;rw[i]
  rcases rc (zK k a m) (a+m) 0 (cU k (a+j)) ((a+j) % 16).toNat with g|⟨l,-⟩
  ·by_cases n:j=m
   ·subst n
    have:=zV f (a:=a+j) (v:=0) (by rw[i];exact d j ω);rw[e]at this;exact this
   exact g.trans (Ek h (λj c=>d j ω) j ω)
  exact l
def Ay(a:bc h E)(e:o∈h.O){k:Nat}(b:k<h.M.length)(n:o.Addr=16*(nth h.M k).Q):o.q=(nth h.M k).q:=by
 have f:=aS (a.L.lok _ (ar b));rcases a.oow _ e with⟨s,g,c,-⟩|⟨l,d,p,i⟩
 ·exact absurd (show s.Q=(nth h.M k).Q+((0:Nat):Int) by have:=c.1;have:=c.2.1;omega) (a.L.dis s g _ (ar b) 0 ω)
 obtain⟨m,j,rfl⟩:=aP d;have:=a.L.one m k j b 0 0 (by have:=aS (a.L.lok _ d);omega) ω ω;subst this;exact i.symm
variable{α:Type}
def sH[Inhabited α]{xs:List α}{y z:α}(c:i<xs.length):z∈xs.set i y↔z=y\/∃j,j<xs.length/\j≠i/\nth xs j=z:=by
 refine⟨dZ,?_⟩
 rintro(rfl|⟨j,d,b,rfl⟩)
 ·have a:=ar (xs:=xs.set i z) (i:=i) (by rw[U1];exact c)
  rw[bF,CC ⟨rfl,c⟩]at a;exact a
 have a:=ar (xs:=xs.set i y) (i:=j) (by rw[U1];exact d);rw[bF,C9 (λx=>b x.1.symm)]at a;exact a
def CI.trimH{h:ac}{i k:Nat}{size:Int}(l:bc h [])(hc:CI h)(V:i<h.O.length)(r:k<h.M.length)(W:(nth h.O i).Addr=16*(nth h.M k).Q)(hz:9<=size/\size<=(nth h.M k).q):CI (trimH h i k size)/\∀o∈h.O,∀j:Int,0<=j->j<o.q->(o=nth h.O i->j<size)->fJ (trimH h i k size).G (o.Addr+j)=fJ h.G (o.Addr+j):=by
 obtain⟨b1,b2⟩:=tZ l r;have M:=l.L.lok _ (ar r);have hlp:=aS M;have hsz:=Ay l (ar V) r W;have h8:=M;unfold bN at h8;rw[C0]at h8;have N:aF (kx h k size)=true:=wq l r hz (I3 _);have D:(kx h k size).F.R=h.G.F.R:=(nz h.G _ _).1;have hN:((d4 (nth h.M k) size:Nat):Int)=(nth h.M k).a2 - (size+15) / 16:=by unfold d4;omega
 have hte:((tbl h).K.length:Int)=(h.G.F.R.K.length:Int):=rfl;have kl:=KL.unmN N (p:=(nth h.M k).Q+(size+15) / 16) ω (d4 (nth h.M k) size) (by rw[D];omega);have ker:=gM N ((nth h.M k).Q+(size+15) / 16) (d4 (nth h.M k) size);have A:=(eO (kx h k size) ((nth h.M k).Q+(size+15) / 16) (d4 (nth h.M k) size)).1;have hcz:=QX h.G (16*(nth h.M k).Q+size);have hca:=Ek l.ker (a:=16*(nth h.M k).Q+size) (m:=(16*((size+15) / 16) - size).toNat) λj O=>jO l r ⟨ω,ω⟩
 have E:(Ab.trimH h i k size).G=unmN (kx h k size) ((nth h.M k).Q+(size+15) / 16) (d4 (nth h.M k) size):=rfl;have F:(Ab.trimH h i k size).O=h.O.set i {nth h.O i with q:=size}:=rfl;have P:(Ab.trimH h i k size).J=h.J:=rfl;have Q:(Ab.trimH h i k size).Y=h.Y:=rfl;have R:(Ab.trimH h i k size).u=h.u:=rfl;generalize Ab.trimH h i k size=h' at E F P Q R |-;have G:∀f c,cl (kx h k size) f c=cl h.G f c\/(cl (kx h k size) f c=0/\∃b:Int,16*(nth h.M k).Q+size<=b/\b<16*((nth h.M k).Q+(size+15) / 16)/\At h.G b f c):=λf c=>by
  rcases hcz f c (16*((size+15) / 16) - size).toNat with g|⟨g,j,w,B,j3⟩
  ·exact .inl g
  refine .inr ⟨g,16*(nth h.M k).Q+size+j,ω,ω,?_⟩;have:=At.mk' l.ker (jO l r (a:=16*(nth h.M k).Q+size+j) ⟨ω,ω⟩);rw[B,j3];exact this
 have hzv:∀(f c:Nat)(b:Int),16*(nth h.M k).Q+size<=b->b<16*((nth h.M k).Q+(size+15) / 16)->At h.G b f c->cl (kx h k size) f c=0:=λf c b H X d=>by
  have:=hca (b - (16*(nth h.M k).Q+size)).toNat ω;rw[show 16*(nth h.M k).Q+size+((b - (16*(nth h.M k).Q+size)).toNat:Nat)=b by omega]at this;have e:=At.mk' l.ker d.m;obtain⟨u1,u2⟩:=e.uniq d;rw[u1,u2]at this;exact this
 have pout:∀q:Int,¬((nth h.M k).Q+(size+15) / 16<=q/\q<(nth h.M k).Q+(nth h.M k).a2)->af h'.G.F.R q=af h.G.F.R q:=λq Y=>by
  rw[E,kl.out q ω,D]
 rw[<-E]at kl ker A;generalize kx h k size=kz at *;have onL:∀b:Int,16*(nth h.M k).Q<=b->b<16*((nth h.M k).Q+(nth h.M k).a2)->∀f c:Nat,At h.G b f c->Pa h (nth h.O i).Addr f c:=λb H X f c d=>.inr ⟨_,ar r,W,b,H,X,d⟩
 have only:∀o∈h.O,∀f c:Nat,qu h o f c->Pa h (nth h.O i).Addr f c->o=nth h.O i:=λo t f c H X=>by
  have e:=wb l (jE l t H) X;obtain⟨m,lm,rfl⟩:=aP t;rw[cM (f:=(·.Addr)) (de l.osr) lm V e]
 have noS:∀s∈h.J,¬((nth h.M k).Q<=s.Q/\s.Q<(nth h.M k).Q+(nth h.M k).a2):=λs J hr=>l.L.dis s J _ (ar r) (s.Q - (nth h.M k).Q).toNat ω ω
 have same:∀f c:Nat,cl h'.G f c≠0->cl h.G f c=cl h'.G f c:=λf c C=>by
  rcases kl.cel f c with e|e
  ·rcases G f c with g|⟨g,-⟩
   ·rw[e,g]
   exact absurd (e.trans g) C
  exact absurd e.1 C
 have stay:∀o∈h.O,∀j:Int,0<=j->j<o.q->(o=nth h.O i->j<size)->∀f c:Nat,At h.G (o.Addr+j) f c->At h'.G (o.Addr+j) f c/\cl h'.G f c=cl h.G f c:=λo t j w B O f c d=>by
  have y:qu h o f c:=⟨j,w,B,d⟩
  have n:af h'.G.F.R ((o.Addr+j) / 16)=af h.G.F.R ((o.Addr+j) / 16):=by
   refine pout _ λZ=>?_
   have e:=only o t f c y (onL _ ω ω f c d);have:=O e;rw[e,W]at Z;omega
  have u:At h'.G (o.Addr+j) f c:=⟨by rw[n];exact d.m,by rw[n];exact d.f,d.c⟩
  refine⟨u,?_⟩;rcases kl.cel f c with e|⟨-,e⟩
  ·rcases G f c with g|⟨-,b,g1,g2,S⟩
   ·rw[e,g]
   exfalso;have eo:=only o t f c y (onL b ω ω f c S);have hjs:=O eo;have Y:=lU l (ar r) (b:=b) ω ω S d.m d.f;have c1:=d.c;have c2:=S.c;rw[eo,W]at Y c1;omega
  exact absurd u.f (e _ u.m)
 refine⟨hc.keep Q R (λq Y=>?_) (λhm=>?_) (λf c _ C=>.inl (same f c C)) (λo t f c h16 y C=>?_) (λhm c _=>?_) (λ_ s' hs' _=>⟨s',by rw[<-P];exact hs',rfl,rfl,λ_ h=>h⟩),λo t j w B O=>?_⟩
 ·have hq':(nth h'.G.F.R.K q).e=1:=Y
  have:=kl.md A q ω;rw[D]at this;show(nth h.G.F.R.K q).e=1;rw[<-this];exact hq'
 ·obtain⟨-,⟨a,ha,T⟩,b,hb,eb⟩:=l.job hm
  exact⟨pout _ λZ=>noS a ha ω,pout _ λZ=>noS b hb ω⟩
 ·obtain⟨j,w,B,d⟩:=y
  by_cases e:o=nth h.O i/\size<=j
  ·exfalso
   obtain⟨e,ej⟩:=e;subst e;by_cases ej2:j<16*((size+15) / 16)
   ·have:=hzv f c ((nth h.O i).Addr+j) ω ω d
    rcases kl.cel f c with g|g
    ·exact C (g.trans this)
    exact C g.1
   refine C (pf ker (λp K hf=>?_) c);by_cases er:(nth h.M k).Q+(size+15) / 16<=p/\p<(nth h.M k).Q+(nth h.M k).a2
   ·exact K (kl.ins p er.1 ω)
   rw[pout p er]at K hf;have:=lU l (ar r) (b:=(nth h.O i).Addr+j) ω ω d K hf;omega
  have st:=stay o t j w B (λU=>by have:¬size<=j:=λx=>e ⟨U,x⟩;omega) f c d;by_cases U:o=nth h.O i
  ·refine⟨{nth h.O i with q:=size},by rw[F];exact(sH V).2 (.inl rfl),j,w,?_,?_⟩
   ·have:¬size<=j:=λx=>e ⟨U,x⟩
    show j<size;omega
   have H:=st.1;rw[U]at H;exact H
  refine⟨o,?_,j,w,B,st.1⟩;rw[F];obtain⟨m,lm,rfl⟩:=aP t;exact(sH V).2 (.inr ⟨m,lm,λx=>U (by rw[x]),rfl⟩)
 ·have key:∀s∈h.J,cl h'.G (bL h.G s.Q) c=cl h.G (bL h.G s.Q) c:=λs J=>by
   have n:(af (tbl h) s.Q).e≠0:=by rw[l.pe J];exact(l.mapped J).2.2
   rcases kl.cel (bL h.G s.Q) c with e|⟨-,e⟩
   ·rcases G (bL h.G s.Q) c with g|⟨-,b,g1,g2,S⟩
    ·rw[e,g]
    have:=lU l (ar r) (b:=b) ω ω S (q:=s.Q) n (kZ l.ker n);exact absurd (show(nth h.M k).Q<=s.Q/\s.Q<(nth h.M k).Q+(nth h.M k).a2 by omega) (noS s J)
   have K:=pout s.Q λZ=>noS s J ω
   refine absurd ?_ (e s.Q (by rw[K];exact n));rw[K];exact kZ l.ker n
  obtain⟨-,⟨a,ha,T⟩,b,hb,eb⟩:=l.job hm;rw[<-T,<-eb];exact⟨key a ha,key b hb⟩
 have d:=At.mk' l.ker (cN l t (k:=j) ⟨w,ω⟩).1;obtain⟨s1,s2⟩:=stay o t j w B O _ _ d;rw[s1.cell,d.cell,s2]
def F4[Inhabited α](n j:Nat)(y:α):nth (List.replicate n y) j=y\/nth (List.replicate n y) j=default:=by
 by_cases h:j<n
 ·exact .inl (d3 h)
 right
 unfold nth;rw[X2,W2 (by rw[Y3];omega)];rfl
def CI.newHeap(p f t:Nat)(lim:Int)(a:List Int):CI (newHeap p f t lim a):=by
 refine⟨λg c b d=>absurd ?_ d,λe=>(by cases e),λe=>(by cases e),λe=>(by cases e),λe=>(by cases e),λq h=>absurd h ?_,λe=>(by cases e)⟩
 ·show nth (nth (List.replicate f (List.replicate 16 (0:Int))) g) c=0
  rcases F4 f g (List.replicate 16 (0:Int)) with e|e<;>rw[e]
  ·exact Ba _ _
  rfl
 show ¬(nth (List.replicate p (⟨0,0⟩ : bk)) q).e=1;rcases F4 p q (⟨0,0⟩ : bk) with e|e<;>rw[e]
 ·decide
 decide
def ib(k:am)(o:bt):bD:=⟨o.Id,cellsOf k o.Addr o.q.toNat⟩
structure RS(w:bp):Prop where
 nx:w.b2.b=w.Z.b
 asc:w.b2.O.Pairwise λa b=>a.Id<b.Id
 mem:∀y,y∈w.b2.O↔∃o∈w.Z.O,y=ib w.Z.G o
def qv{b:am}{n:Nat}(h:∀j:Int,0<=j->j<n->fJ b (a+j)=fJ k (a+j)):cellsOf b a n=cellsOf k a n:=by
 unfold cellsOf;refine List.map_congr_left λj c=>?_
 have:=List.mem_range.1 c;exact h j ω ω
def fL{a:am}(h:∀j:Int,0<=j->j<o.q->fJ a (o.Addr+j)=fJ k (o.Addr+j)):ib a o=ib k o:=by
 unfold ib;rw[qv λj b c=>h j b ω]
def Rk[Inhabited α]{R:α->α->Prop}{xs:List α}(h:xs.Pairwise R){j:Nat}(a:i<j)(b:j<xs.length):R (nth xs i) (nth xs j):=by
 have:=List.pairwise_iff_getElem.1 h i j ω b a;rw[show nth xs i=xs[i] from bn (O2 ω),show nth xs j=xs[j] from bn (O2 b)];exact this
def RS.at{w:bp}(b:RS w){o:bt}(c:o∈w.Z.O):∃j:Nat,j<w.b2.O.length/\oI w.b2 o.Id=(j:Nat)/\nth w.b2.O j=ib w.Z.G o:=by
 obtain⟨j,a,e⟩:=aP ((b.mem _).2 ⟨o,c,rfl⟩);refine⟨j,a,dN (au a) (O0 (by rw[e];rfl)) λm z d f=>U0 ?_,e⟩;have g:=Rk b.asc d a;rw[bn f,e]at g;have h:(ib w.Z.G o).Id=o.Id:=rfl;omega
variable{w:bp}
def RS.lt(a:RS w)(b:bc w.Z []):∀y∈w.b2.O,1<=y.Id/\y.Id<w.b2.b:=λy c=>by
 obtain⟨o,d,rfl⟩:=(a.mem y).1 c;have:=b.onu o d;rw[a.nx];show 1<=o.Id/\o.Id<w.Z.b;omega
def RS.keep(b:RS w)(d:h'.O=w.Z.O)(c:Kp w.Z h')(e:h'.b=w.Z.b):RS ⟨h',w.b2⟩:=by
 refine⟨b.nx.trans e.symm,b.asc,λy=>(b.mem y).trans ?_⟩;show _↔∃o∈h'.O,y=ib h'.G o
 constructor
 ·rintro⟨o,f,rfl⟩
  have a:o∈h'.O:=by rw[d];exact f
  exact⟨o,a,(fL (c o a).2).symm⟩
 rintro⟨o,a,rfl⟩
 exact⟨o,(c o a).1,fL (c o a).2⟩
def RS.alloc(e:RS w)(i:bc w.Z []){x:bt}(d:RK w.Z h' x)(k:x.Id=w.Z.b)(g:h'.b=w.Z.b+1)(l:1<=x.q/\x.q<=1000):RS ⟨h',iE w.b2 x.q⟩:=by
 unfold iE;rw[CC l];have h:ib h'.G x = ⟨w.b2.b,List.replicate x.q.toNat 0⟩:=by
  unfold ib;rw[k,e.nx]
  congr 1
  refine List.eq_replicate_iff.2 ⟨lP ..,λb f=>?_⟩;unfold cellsOf at f;obtain⟨j,n,rfl⟩:=O4.1 f;have:=List.mem_range.1 n;exact d.ze j ω ω
 refine⟨by show w.b2.b+1=h'.b;rw[g,e.nx],?_,λy=>?_⟩
 ·refine List.pairwise_append.2 ⟨e.asc,List.pairwise_singleton _ _,λa p b f=>?_⟩
  rw[O1.1 f];exact(e.lt i a p).2
 show y∈w.b2.O++[_]↔∃o∈h'.O,y=ib h'.G o
 rw[C3,O1,e.mem];constructor
 ·rintro(⟨o,c,rfl⟩|rfl)
  ·exact⟨o,(d.mem o).2 (.inr c),(fL (d.ke o c)).symm⟩
  exact⟨x,(d.mem x).2 (.inl rfl),h.symm⟩
 rintro⟨o,c,rfl⟩
 rcases(d.mem o).1 c with rfl|c
 ·exact .inr h
 exact .inl ⟨o,c,fL (d.ke o c)⟩
def RS.free(a:RS w)(p:bc w.Z [])(h:i<w.Z.O.length)(k:h'.O=dele w.Z.O i)(l:Kp w.Z h')(r:h'.b=w.Z.b):RS ⟨h',jD w.b2 (nth w.Z.O i).Id⟩:=by
 obtain⟨j,t,u,n⟩:=a.at (ar h);unfold jD;rw[u,C9 ω];simp only[Z2];refine⟨a.nx.trans r.symm,a.asc.sublist (eP _ _),λy=>?_⟩;show y∈dele w.b2.O j↔∃o∈h'.O,y=ib h'.G o
 rw[df];constructor
 ·rintro⟨m,c,A,rfl⟩
  obtain⟨o,d,e⟩:=(a.mem _).1 (ar c);have b:o∈h'.O:=by
   rw[k];obtain⟨q,g,rfl⟩:=aP d;refine df.2 ⟨q,g,λx=>A ?_,rfl⟩;subst x;exact cM (f:=(·.Id)) (de a.asc) c t (by rw[e,n])
  exact⟨o,b,e.trans (fL (l o b).2).symm⟩
 rintro⟨o,b,rfl⟩
 obtain⟨d,B⟩:=l o b;rw[fL B];obtain⟨m,c,e⟩:=aP ((a.mem _).2 ⟨o,d,rfl⟩);refine⟨m,c,λx=>?_,e⟩;subst x;rw[k]at b;obtain⟨q,g,C,rfl⟩:=df.1 b;exact C (cM (f:=(·.Id)) p.oid g h (X0 bD.Id (e.symm.trans n)))
def RS.upd(d:RS w)(A:bc w.Z [])(B:i<w.Z.O.length){x':bt}(C:x'.Id=(nth w.Z.O i).Id)(k:∀o,o∈h'.O↔o=x'\/∃m,m<w.Z.O.length/\m≠i/\nth w.Z.O m=o)(t:∀m,m<w.Z.O.length->m≠i->ib h'.G (nth w.Z.O m)=ib w.Z.G (nth w.Z.O m))(D:h'.b=w.Z.b){j:Nat}(l:j<w.b2.O.length)(n:nth w.b2.O j=ib w.Z.G (nth w.Z.O i)):RS ⟨h',{w.b2 with O:=w.b2.O.set j (ib h'.G x')}⟩:=by
 refine⟨d.nx.trans D.symm,?_,λy=>?_⟩
 ·have u:(w.b2.O.map (·.Id)).Pairwise (λa b=>a<b):=List.pairwise_map.2 d.asc
  rw[<-kL (f:=(·.Id)) (y:=ib h'.G x') l (by rw[n];exact C)]at u;exact List.pairwise_map.1 u
 show y∈w.b2.O.set j _↔∃o∈h'.O,y=ib h'.G o
 rw[sH l];constructor
 ·rintro(rfl|⟨m,h,p,rfl⟩)
  ·exact⟨x',(k x').2 (.inl rfl),rfl⟩
  obtain⟨o,r,e⟩:=(d.mem _).1 (ar h);obtain⟨q,c,rfl⟩:=aP r;have g:q≠i:=λx=>p (by subst x;exact cM (f:=(·.Id)) (de d.asc) h l (by rw[e,n]))
  exact⟨_,(k _).2 (.inr ⟨q,c,g,rfl⟩),e.trans (t q c g).symm⟩
 rintro⟨o,r,rfl⟩
 rcases(k o).1 r with rfl|⟨q,c,g,rfl⟩
 ·exact .inl rfl
 rw[t q c g];obtain⟨m,h,e⟩:=aP ((d.mem _).2 ⟨_,ar c,rfl⟩);refine .inr ⟨m,h,λx=>g ?_,e⟩;subst x;exact cM (f:=(·.Id)) A.oid c B (X0 bD.Id (e.symm.trans n))
def RS.store(l:RS w)(g:bc w.Z [])(h:JI w.Z)(n:CI w.Z)(a:i<w.Z.O.length)(p:0<=j/\j<=(nth w.Z.O i).q - 1)(r:0<=v/\v<=999)(t:(af (tbl w.Z) (((nth w.Z.O i).Addr+j) / 16)).e≠1):RS ⟨{w.Z with G:=dC w.Z.G ((nth w.Z.O i).Addr+j) v},eC w.b2 (nth w.Z.O i).Id j v⟩:=by
 obtain⟨-,d⟩:=CI.store (v:=v) g h n a p t;obtain⟨b,u,A,k⟩:=l.at (ar a);have B:(nth w.b2.O b).T.length=(nth w.Z.O i).q.toNat:=by rw[k];exact lP ..
 have C:eC w.b2 (nth w.Z.O i).Id j v = {w.b2 with O:=w.b2.O.set b ⟨(nth w.b2.O b).Id,(nth w.b2.O b).T.set j.toNat v⟩}:=by
  unfold eC;rw[A];simp only[Z2];rw[CC ⟨ω,ω,r⟩]
 have D:(⟨(nth w.b2.O b).Id,(nth w.b2.O b).T.set j.toNat v⟩ : bD)=ib (dC w.Z.G ((nth w.Z.O i).Addr+j) v) (nth w.Z.O i):=by
  rw[k];unfold ib;simp only
  congr 1
  refine List.ext_getElem (by simp[cellsOf]) λq K E=>?_
  rw[lP]at E;rw[List.getElem_set];simp only[cellsOf,List.getElem_map,List.getElem_range];have:=d _ (ar a) q ω ω;rw[this];by_cases e:j.toNat=q
  ·rw[CC e,CC ⟨rfl,ω⟩]
  rw[C9 e,C9 (λx=>e ω)]
 rw[C,D];refine RS.upd l g a (h':={w.Z with G:=dC w.Z.G ((nth w.Z.O i).Addr+j) v}) rfl (λo=>?_) (λm c F=>?_) rfl u k
 ·show o∈w.Z.O↔_
  constructor
  ·intro G
   obtain⟨m,c,rfl⟩:=aP G;by_cases e:m=i
   ·subst e;exact .inl rfl
   exact .inr ⟨m,c,e,rfl⟩
  rintro(rfl|⟨m,c,-,rfl⟩)
  ·exact ar a
  exact ar c
 refine fL λx H J=>?_
 show fJ (dC w.Z.G _ v) _=_;rw[d _ (ar c) x H J,C9 (λy=>F (cM (f:=(·.Addr)) (de g.osr) c a (by rw[y.1])))]
variable{m:Nat}
def Bm(k:am)(a:Int){n:Nat}(h:m<=n):(cellsOf k a n).take m=cellsOf k a m:=by
 unfold cellsOf;rw[<-C4,List.take_range,Nat.min_eq_left h]
def RS.trim(g:RS w)(d:bc w.Z [])(p:CI w.Z){k:Nat}(a:i<w.Z.O.length)(h:k<w.Z.M.length)(l:(nth w.Z.O i).Addr=16*(nth w.Z.M k).Q)(q:9<=size/\size<=(nth w.Z.M k).q):RS ⟨trimH w.Z i k size,f8 w.b2 (nth w.Z.O i).Id size⟩:=by
 obtain⟨-,c⟩:=CI.trimH d p a h l q;have r:=Ay d (ar a) h l;obtain⟨b,t,u,e⟩:=g.at (ar a);have A:(nth w.b2.O b).T.length=(nth w.Z.O i).q.toNat:=by rw[e];exact lP ..
 have B:f8 w.b2 (nth w.Z.O i).Id size = {w.b2 with O:=w.b2.O.set b ⟨(nth w.b2.O b).Id,(nth w.b2.O b).T.take size.toNat⟩}:=by
  unfold f8;rw[u];simp only[Z2];rw[CC ⟨ω,ω,ω⟩]
 have C:(⟨(nth w.b2.O b).Id,(nth w.b2.O b).T.take size.toNat⟩ : bD)=ib (trimH w.Z i k size).G {nth w.Z.O i with q:=size}:=by
  rw[e];unfold ib;simp only;rw[Bm _ _ ω]
  congr 1
  refine(qv λj D H=>?_).symm;exact c _ (ar a) j D ω λ_=>ω
 rw[B,C];refine RS.upd g d a (h':=trimH w.Z i k size) (x':={nth w.Z.O i with q:=size}) rfl (λo=>sH a) (λm n E=>?_) rfl t e;refine fL λx F G=>c _ (ar n) x F G λy=>absurd (cM (f:=(·.Addr)) (de d.osr) n a (by rw[y])) E
def EP(h:ac)(i:Nat)(a:Int):(freeS h i a).b=h.b:=by unfold freeS;split<;>rfl
def Pm(t:Nat)(h:ac)(a:Int):(recyc t h a).b=h.b:=by
 unfold recyc;split
 ·rfl
 exact EP h (vO h a) a
def uC(t:Nat):∀(az:List Int)(h:ac),(recycs t h az).b=h.b
 | [],_=>rfl
 | a::az,h=>(uC t az (recyc t h a)).trans (Pm t h a)
def uF:∀(az:List Int)(h:ac),(freeAs h az).b=h.b
 | [],_=>rfl
 | a::az,h=>(uF az (freeA h a)).trans (EP h (vO h a) a)
def Bk(t:Nat)(h:ac):∀k,(flushN t h k).1.b=h.b/\(flushN t h k).1.O=h.O
 | 0=>⟨rfl,rfl⟩
 | k+1=>by
  obtain⟨a,b⟩:=Bk t h k;exact⟨(uF _ _).trans a,(fK _ _).2.1.trans b⟩
def FF(h:ac)(t i:Nat):(Eh h t i).b=h.b/\(Eh h t i).O=dele h.O i:=⟨uC _ _ _,(fe _ _ _).2.1⟩
def GG(h:ac)(t i:Nat):(freeT h t i).1.b=h.b/\(((freeT h t i).2=0/\(freeT h t i).1.O=dele h.O i)\/((freeT h t i).2=5/\(freeT h t i).1=h)):=by
 unfold freeT
 repeat' split
 ·exact⟨rfl,.inl ⟨rfl,rfl⟩⟩
 ·exact⟨rfl,.inr ⟨rfl,rfl⟩⟩
 ·exact⟨(FF h t i).1,.inl ⟨rfl,(FF h t i).2⟩⟩
 ·exact⟨rfl,.inl ⟨rfl,rfl⟩⟩
 exact⟨rfl,.inr ⟨rfl,rfl⟩⟩
def Ha(h:ac):∀n,(stN h n).1.b=h.b/\(stN h n).1.O=h.O
 | 0=>⟨rfl,rfl⟩
 | n+1=>by
  obtain⟨a,b⟩:=Ha h n;unfold stN;split
  ·exact⟨a,b⟩
  exact⟨a,b⟩
def CI.stN{h:ac}(a:bc h [])(b:JI h)(c:CI h):∀n,CI (stN h n).1/\Kp h (stN h n).1
 | 0=>⟨c,CZ h⟩
 | n+1=>by
  obtain⟨g,i⟩:=tD a b n;obtain⟨d,f⟩:=CI.stN a b c n;unfold Ab.stN;split
  ·rename_i e
   unfold te at e;rw[I0]at e;obtain⟨j,k⟩:=CI.mStep g i d e.1;exact⟨j,f.trans k⟩
  exact⟨d,f⟩
def xG(h:ac):(started h).1.b=h.b/\(started h).1.O=h.O:=by
 unfold started;split<;>exact⟨rfl,rfl⟩
structure CW(w:bp):Prop where
 ci:CI w.Z
 rs:RS w
def CW.keep(h:CW w){g:ac}(a:CI g/\Kp w.Z g)(b:g.O=w.Z.O)(c:g.b=w.Z.b):CW ⟨g,w.b2⟩:=⟨a.1,h.rs.keep b a.2 c⟩
def CW.obj(h:rP w m)(c:CW w)(a:eG)(b:i<w.Z.O.length):CW (ml w a i).1:=by
 unfold ml;split
 ·unfold qh
  split
  ·exact c
  split
  ·rename_i q
   unfold nP at q;have l:=CI.freeT (t:=a.a4.toNat) h.inv h.ji c.ci b ω;obtain⟨r,u⟩:=GG w.Z a.a4.toNat i;refine⟨l.1,?_⟩;show RS ⟨(freeT w.Z a.a4.toNat i).1,if _ then _ else _⟩;rcases u with⟨f,d⟩|⟨f,d⟩
   ·rw[CC f];exact c.rs.free h.inv b d l.2 r
   rw[C9 (by rw[f];decide),d];exact c.rs
  exact c
 split
 ·unfold mT
  split
  ·exact c
  rename_i g;split
  ·exact c
  rename_i n;split
  ·exact c
  rename_i j;have g:=Classical.not_not.1 g;have j:=Classical.not_not.1 j;exact⟨(CI.store h.inv h.ji c.ci b g n).1,RS.store c.rs h.inv h.ji c.ci b g j n⟩
 unfold qg;split
 ·rename_i e
  obtain⟨-,f,d⟩:=e;obtain⟨o,y,A⟩:=fC _ _ f;have k:=of_decide_eq_true y;have p:=k.symm.trans (Int.mul_comm _ _);exact⟨(CI.trimH h.inv c.ci b o p d).1,RS.trim c.rs h.inv c.ci b o p d⟩
 exact c
def CW.thread(h:rP w m)(c:CW w)(a:eG):CW ⟨(fH w.Z a).1,w.b2⟩:=by
 have b:=c.ci;unfold fH;split
 ·split
  ·exact CW.keep (g:={w.Z with w:=fS w.Z.w a.a4.toNat}) c ⟨⟨b.z,b.jv,b.jd,b.jc,b.jn,b.m1,b.m2⟩,CZ w.Z⟩ rfl rfl
  exact c
 split
 ·exact c
 rename_i e;have e:=Classical.not_not.1 e;obtain⟨-,i⟩:=e;unfold nP at i;split
 ·exact c.keep (CI.collect (t:=a.a4.toNat) h.inv b ω) (fe _ _ _).2.1 (uC _ _ _)
 have j:a.a4.toNat<w.Z.S.length:=ω
 have f:=CI.flushN h.inv j b (I3 4);have d:=Bk a.a4.toNat w.Z 4;generalize flushN a.a4.toNat w.Z 4=r at f d |-;exact CW.keep (g:=r.1) c f d.2 d.1
def CW.act(h:rP w m)(c:CW w)(a:eG):CW (lR w a).1:=by
 unfold lR;split
 ·have b:=CI.allocH (t:=a.a4) (size:=a.N) h.inv h.ji c.ci
  refine⟨b.ci,?_⟩;show RS ⟨(allocH w.Z a.a4 a.N).1,if _ then _ else _⟩;split
  ·rename_i e
   obtain⟨d,f,g,i,-⟩:=b.yes e;exact RS.alloc (x:=⟨w.Z.b,(allocH w.Z a.a4 a.N).2.1,a.N,a.a4⟩) c.rs h.inv d rfl f ⟨g,i⟩
  rename_i e;obtain⟨j,k,l,-⟩:=b.no e;exact c.rs.keep j k l
 split
 ·split
  ·exact c
  rename_i e;exact c.obj h a (fC _ _ (by unfold q9 at e;omega)).1
 split
 ·exact c.thread h a
 split
 ·unfold nI
  split
  ·rename_i e
   exact c.keep (CI.tick h.inv c.ci e.2.1.1 e.2.2) (fK _ _).2.1 (uF _ _)
  exact c
 split
 ·unfold nl
  split
  ·exact c
  rename_i e;exact c.keep (CI.started h.inv c.ci (by simpa using e)) (xG _).2 (xG _).1
 split
 ·exact c.keep (CI.stN h.inv h.ji c.ci _) (Ha _ _).2 (Ha _ _).1
 exact c
def KE(c:cG):CW (world0 c):=⟨CI.newHeap ..,rfl,List.Pairwise.nil,λy=>⟨λh=>(by cases h),λ⟨_,h,_⟩=>(by cases h)⟩⟩
def LR{c:cG}(h:FU c)(acts:List eG):∀n,CW (yL c acts n).1
 | 0=>KE c
 | n+1=>(LR h acts n).act (ui h acts n) _
def E9(zs:List Int):CW (drawn zs):=LR (p6 (W0 _)).1 _ _
def cells1(xs:List Int)(i:Nat)(h:i<xs.length):[rI .V (nth xs i)]=((xs.map (rI .V)).take (i+1)).drop i:=by
 rw[List.drop_take,<-I4,iS h,show i+1 - i=1 by omega]
 rfl
def G1(h:ac)(t n:Int):cls (allocH h t n).1<=cls h+63:=by
 have a:cls h<=cls h+63:=ω
 unfold allocH;split
 ·exact a
 split
 ·exact a
 split
 ·exact a
 rename_i c;split
 ·exact a
 split
 ·have:=L0 h t.toNat (aL n).toNat
  split
  ·show cls (smallA h t.toNat (aL n).toNat).1<=_;omega
  show cls (smallA h t.toNat (aL n).toNat).1<=_;omega
 have d:(fW n:Int)<=63:=by unfold fW;omega
 unfold largeA;split
 ·exact a
 have b:=FO h.G (ax h.j (fW n:Nat)).2.1 (fW n);unfold cls;split
 ·exact t5 b ω
 exact t5 (z5 (kT _ _ _).1) (t5 b ω)
def Ju{h:ac}(a:bc h [])(b:JI h):∀n:Nat,cls (stN h n).1<=cls h+n
 | 0=>by show cls h<=cls h+((0:Nat):Int);omega
 | n+1=>by
  obtain⟨c,f⟩:=tD a b n;have d:=Ju a b n;unfold stN;split
  ·rename_i e
   unfold te at e;rw[I0,C0]at e;have:=(xz c e.1).2.1;unfold cls at d |-;simp only;omega
  omega
def KO(h:rP w m)(a:eG):cls (lR w a).1.Z<=cls w.Z+63:=by
 have b:cls w.Z<=cls w.Z+63:=ω
 unfold lR;split
 ·exact G1 _ _ _
 split
 ·split
  ·exact b
  unfold ml;split
  ·unfold qh
   split
   ·exact b
   split
   ·exact t5 (z5 (Pp _ _ _)) b
   exact b
  split
  ·unfold mT
   split
   ·exact b
   split
   ·exact b
   split<;>exact b
  unfold qg;split
  ·exact t5 (z5 (((kT _ _ _).1).trans (nz _ _ _).2.1)) b
  exact b
 split
 ·unfold fH
  split
  ·split<;>exact b
  split
  ·exact b
  split
  ·exact t5 (z5 (fe _ _ _).2.2.1) b
  exact t5 (z5 (Aa _ _ _)) b
 split
 ·unfold nI
  split
  ·exact t5 (z5 (fK _ _).2.2.1) b
  exact b
 split
 ·unfold nl
  split
  ·exact b
  show cls (started w.Z).1<=_;unfold cls;rw[(vp h.inv).2.1];exact b
 split
 ·rename_i e
  have:=Ju h.inv h.ji a.N.toNat;show cls (stN w.Z a.N.toNat).1<=_;omega
 exact b
def Jg{c:cG}(h:FU c)(acts:List eG):∀n:Nat,cls (yL c acts n).1.Z<=63*n
 | 0=>by show(0:Int)<=63*((0:Nat):Int);decide
 | n+1=>by
  have a:=Jg h acts n;have b:=KO (ui h acts n) (nth acts n);show cls (lR (yL c acts n).1 (nth acts n)).1.Z<=_;omega
def Kw(zs:List Int):(drawn zs).Z.G.Calls<=2520/\(drawn zs).Z.b<=41:=by
 have a:(su zs).i<=zs.length:=W0 _;obtain⟨b,d⟩:=p6 a;have g:=bJ zs (dS zs) (n:=41) (by decide);obtain⟨e,-,-⟩:=pc (zs:=zs) (c:=dS zs) d (n:=(bw zs (dS zs) 41).1.toNat) ω;have f:=Jg b (l8 zs (dS zs)).1 (l8 zs (dS zs)).1.length;have h:(l8 zs (dS zs)).1.length<=40:=by
  show(lf zs (dS zs) _).1.length<=40;rw[e];omega
 have j:=(y8 zs).ref.nx.2;have k:=(E9 zs).rs.nx;refine⟨?_,ω⟩;show cls (yL _ _ _).1.Z<=_;exact t5 f ω
def Eg{t:Int}(d:h.b<1000000)(e:h.G.Calls<=90000)(b:0<=t/\t<=h.S.length - 1)(c:1<=size/\size<=1000):(h.c0<gH h+size/\allocH h t size=(h,-1,3))\/(¬h.c0<gH h+size/\((allocH h t size).2.2=0\/(allocH h t size).2.2=4)):=by
 unfold allocH;rw[C9 ω,C9 (z4 b),C9 (z4 c)];by_cases a:h.c0<gH h+size
 ·rw[CC a];exact .inl ⟨a,rfl⟩
 rw[C9 a];refine .inr ⟨a,?_⟩;split
 ·split
  ·exact .inr rfl
  exact .inl rfl
 unfold largeA;split
 ·exact .inr rfl
 split
 ·exact .inl rfl
 exact .inr rfl
def Gz{t:Int}(c:bc h [])(a:JI h)(d:CI h):(allocH h t size).2.2=0↔0<=(allocH h t size).2.1:=by
 have b:=CI.allocH (t:=t) (size:=size) c a d;constructor
 ·intro e;exact(b.yes e).2.2.2.2
 intro e;refine Classical.byContradiction λf=>?_
 have:=(b.no f).2.2.2;omega
def sr(zs:List Int):Nat->List Int × iC
 | 0=>([],su zs)
 | n+1=>((sr zs n).1++[(bw zs (sr zs n).2 10000).1],(bw zs (sr zs n).2 10000).2)
def Bp(zs:List Int):∀n,(sr zs n).2.i<=zs.length/\(sr zs n).1.length=n/\∀x∈(sr zs n).1,0<=x/\x<10000
 | 0=>⟨W0 _,rfl,λx a=>by cases a⟩
 | n+1=>by
  obtain⟨b,c,d⟩:=Bp zs n;refine⟨bT b _,by show((sr zs n).1++[_]).length=_;rw[U3,c];rfl,λx a=>?_⟩;rcases C3.1 a with a|a
  ·exact d x a
  rw[O1.1 a];exact bJ zs (sr zs n).2 (n:=10000) (by decide)
def vB(zs:List Int)(a:jj zs):zzA 16 false [.val none (Rn zs)] .one (aH .own (sr zs 12).1):=by
 have b:=uV zs a;refine fP 19 [(61,[2,0]),(3000003,[])] [] Tryz.func16 rfl ?_ (.inr (bP _))
 repeat'(first|refine gP ?_|(conv=>whnf);first|refine Cl.g b (.inr rfl) ?_)
 (conv=>whnf)
 refine CJ (ι:=Nat) (λi=>[(0,.H .one (Rn zs)),(3,.H .box (iv zs (sr zs i).2)),(4,.H .one (aH .own (sr zs i).1)),(5,.H .one [I ((i:Nat):Int)])]) (λi=>i<=12) (λi=>12 - i) (0) ?_ (W0 _) λi j=>?_
 ·repeat'(first|exact trivial|rfl |exact nY c|exact dI _|refine CL ?_ ?_|(exact AS (by first|omega|(simp only;omega)|(simp;omega))))
 obtain⟨d,k,-⟩:=Bp zs i;by_cases l:i<12
 ·have e:=bS zs (sr zs i).2 10000 a d (by decide)
  repeat'(first|refine gE ?_|(conv=>whnf);first|refine CK (e) (.inl rfl) ?_|refine CU cI (λr h=>by rw[O1.1 h];rfl) (by simp[bi,eg]) (by simp;omega) (by simp only[C1];exact yJ (by simp;omega) (by decide)) rfl ?_)
  ((conv=>whnf);refine CE (i+1) ω ω ?_)
  repeat'(first|exact trivial|rfl| exact dI _ |exact nY (X0 (C.s dQ.own) (by simp[sr,rI]))|refine CL ?_ ?_|(exact AS (by first|omega|(simp only;omega)|(simp;omega))))
 obtain rfl:i=12:=ω
 repeat'(first|refine gE ?_|fail)
 rfl
def Limits_law(zs:List Int)(J:zs.length<=9223372036854775807/\∀y∈zs,0<=y/\y<=255):zzA 3 false [.val none (Rn zs)] .one [B true]:=by
 have g:=RE zs J.1;by_cases K:(zs.length:Int) > 1048576
 ·rw[O0 K]at g
  refine fP 56 [(17,[1,0,0])] [(8,6,[31,32,33,34,35,36]),(9,15,[38,39,40,41,42,43,44,45,46,47,48,49,50,51,52])] Tryz.func3 rfl ?_
  repeat'(first|refine gP ?_|(conv=>whnf);first|refine C8 (g) ?_)
  rfl
 rw[U0 K]at g;have M:jj zs:=⟨ω,J.2⟩
 have cD:=xL zs M;have cP:=vB zs M;obtain⟨-,pl,N⟩:=Bp zs 12;have k:=y8 zs;have q:=E9 zs;obtain⟨O,P⟩:=Kw zs;obtain⟨Q,R⟩:=KC zs;generalize drawn zs=w at *;generalize (sr zs 12).1=u at *;have b:=au (xs:=u) (i:=0) ω;have C:=N _ (ar (xs:=u) (i:=0) ω);generalize nth u 0=p at *;have d:=k.inv;have S:=d.to;have T:=d.lens.objs;have U:0<w.Z.S.length:=by
  obtain⟨⟨m1,-,-⟩,-⟩:=d7.1 d.mail;have:=d.nc;omega
 have D:=fh (y:=150) C.1;have V:=Int.emod_nonneg p (show(150:Int)≠0 by decide);have W:=Int.emod_lt_of_pos p (show(0:Int)<150 by decide);generalize p % 150=m at *;have E:=kO d.objSz w.Z.O.length (I3 _);change 0<=gH w.Z/\gH w.Z<=_ at E;obtain⟨cc,Y,j⟩:=xB w.Z 0 (1+m) Q d (by rw[K3];exact S);have F:=pi w.Z d.objSz ω;have G:=pp w.Z d.objSz ω;have H:=Eg (t:=0) (size:=1+m) (h:=w.Z) ω ω ω ω;have e:=Gz (t:=0) (size:=1+m) d k.ji q.ci;rcases H with⟨Z,o⟩|⟨Z,o⟩
 ·rw[o]at j
  simp only at j;generalize gH w.Z=L at *;have l:(decide (L+(1+m) > w.Z.c0) == ((3:Int) == 3))=true:=by rw[O0 (show L+(1+m) > w.Z.c0 by omega)];rfl
  have n:(((3:Int) == 0) == decide ((-1:Int)≥0))=true:=rfl;refine fP 56 [(17,[1,0,0])] [(8,6,[31,32,33,34,35,36]),(9,15,[38,39,40,41,42,43,44,45,46,47,48,49,50,51,52])] Tryz.func3 rfl ?_
  repeat'(first|refine gB ?_|(conv=>whnf);first|refine Bf.t l ?_|refine Bf.t n ?_|refine CD (aa b) ?_|refine CH rfl (aa b) rfl ?_|refine CO ω ?_|refine CS D ?_|refine C8 (g) ?_|refine C8 (cD) ?_|refine C8 (cP) ?_|refine CK (j) (.inl rfl) ?_|refine CF (F) ⟨⟨rfl,CV _⟩,trivial⟩ ?_|refine CF (G) ⟨⟨rfl,CV _⟩,trivial⟩ ?_|refine CB ?_)
  all_goals first|rfl|exact X0 (λy=>[B y]) (beq_self_eq_true L)
 generalize allocH w.Z 0 (1+m)=r at *;obtain⟨X,a,c⟩:=r;simp only at j o e;generalize gH w.Z=L at *;rcases o with rfl|rfl
 ·have ha:=e.1 rfl
  have l:(decide (L+(1+m) > w.Z.c0) == ((0:Int) == 3))=true:=by rw[U0 (show ¬L+(1+m) > w.Z.c0 by omega)];rfl
  have n:(((0:Int) == 0) == decide (a≥0))=true:=by rw[O0 (show a≥0 by omega)];rfl
  refine fP 56 [(17,[1,0,0])] [(8,6,[31,32,33,34,35,36]),(9,15,[38,39,40,41,42,43,44,45,46,47,48,49,50,51,52])] Tryz.func3 rfl ?_
  repeat'(first|refine gB ?_|(conv=>whnf);first|refine Bf.t l ?_|refine Bf.t n ?_|refine CD (aa b) ?_|refine CH rfl (aa b) rfl ?_|refine CO ω ?_|refine CS D ?_|refine C8 (g) ?_|refine C8 (cD) ?_|refine C8 (cP) ?_|refine CK (j) (.inl rfl) ?_|refine CF (F) ⟨⟨rfl,CV _⟩,trivial⟩ ?_|refine CF (G) ⟨⟨rfl,CV _⟩,trivial⟩ ?_|refine CB ?_)
  all_goals first|rfl|exact X0 (λy=>[B y]) (beq_self_eq_true L)
 have ha:¬0<=a:=λh=>absurd (e.2 h) (by decide)
 have l:(decide (L+(1+m) > w.Z.c0) == ((4:Int) == 3))=true:=by rw[U0 (show ¬L+(1+m) > w.Z.c0 by omega)];rfl
 have n:(((4:Int) == 0) == decide (a≥0))=true:=by rw[U0 (show ¬a≥0 by omega)];rfl
 refine fP 56 [(17,[1,0,0])] [(8,6,[31,32,33,34,35,36]),(9,15,[38,39,40,41,42,43,44,45,46,47,48,49,50,51,52])] Tryz.func3 rfl ?_
 repeat'(first|refine gB ?_|(conv=>whnf);first|refine Bf.t l ?_|refine Bf.t n ?_|refine CD (aa b) ?_|refine CH rfl (aa b) rfl ?_|refine CO ω ?_|refine CS D ?_|refine C8 (g) ?_|refine C8 (cD) ?_|refine C8 (cP) ?_|refine CK (j) (.inl rfl) ?_|refine CF (F) ⟨⟨rfl,CV _⟩,trivial⟩ ?_|refine CF (G) ⟨⟨rfl,CV _⟩,trivial⟩ ?_|refine CB ?_)
 all_goals first|rfl|exact X0 (λy=>[B y]) (beq_self_eq_true L)
open Go.RowKit Go.ChangeShapes Go.WideShapes Go.Deep
def ALL(w:World):ah:=λb _=>b<w.heap.size
def T9{H:Type}(e:TypeId × Value->H)(P:Program)(w:World)(t n:Nat)(enc:α->List C)(c:α->Prop):Prop:=
 ∀(fuel:Nat)(b:List Value)(x:DataW H × List MemPlace),DataW.trod e P w 0 (λ_=>true) true fuel t b=some x->b.length=n/\∃a,c a/\(enc a).length=n/\cL w (ALL w) NO (enc a) (λj=>b.getD j undef)
section
variable{H:Type}{e:TypeId × Value->H}{P:Program}{w:World}
variable{u:Nat->Value}
def Bq{S F:ah}{c:C}(h:dG w S F c (u 0)):cL w S F [c] u:=
 ⟨λ_=>F,λj e a=>by cases j with
   | zero=>simp at a;subst a;exact h
   | succ j=>simp at a,λ_ _ _ _ h=>h,λj f a b d=>by simp at a b;omega⟩
def pick{α β:Type}(n:Nat){Q:Nat->β->Prop}(h:∀i,i<n->∃b,Q i b):∃l:List β,l.length=n/\∀i b,l[i]? = some b->Q i b:=by
 induction n with
 | zero=>exact⟨[],rfl,λi b h=>by simp at h⟩
 | succ n c=>
  obtain⟨l,d,e⟩:=c λi a=>h i ω
  obtain⟨b,f⟩:=h n ω;refine⟨l++[b],by simp[d],λi g a=>?_⟩;by_cases j:i<n
  ·rw[V4 ω]at a;exact e i g a
  rw[W4 ω]at a;have:i - l.length=0:=by
   have:=(U2.1 a).1;simp at this;omega
  rw[this]at a;simp at a;subst a;rw[show i=n by omega];exact f
theorem Pe{t T n:Nat}{α:Type}{enc:α->List C}{U:α->Prop}(V:T9 e P w T n enc U)(ht:P.underlying t=some (.slice T))(hn:P.cellsOf T=n)(p:0<n) :
  T9 e P w t 1 (λxs:List α=>[.s .V (xs.map enc)]) (λxs=>xs.length<=9223372036854775807/\∀y∈xs,U y):=by
 intro fuel cs x h;rcases open_slice ht h with⟨rfl,-⟩|⟨k,len,cap,m,n',D,Pl,rfl,-,hl,hm,K,-,u⟩
 ·exact⟨rfl,[],⟨by simp,by simp⟩,rfl,Bq (.nil _ _ _ trivial)⟩
 simp only[if_true]at K;subst K;have L:0<m->k.spot=none:=λW=>by
  obtain⟨E,M,N⟩:=u 0 W;rw[hn]at M;obtain⟨_,X,F⟩:=World.cells?_some M;have:=F 0 p;rw[O2 ω]at this;have:=World.cell?_spot this;simpa[Addr.add] using this
 have key:∀i,i<len->∃a,U a/\(enc a).length=n/\(∀d,d<n->∃z,cel w k.block (k.off+(i*n+d))=some z)/\k.spot=none/\cL w (ALL w) NO (enc a) (λd=>(cel w k.block (k.off+(i*n+d))).getD undef):=λi hil=>by
  have g:=L ω;obtain⟨E,M,N⟩:=u i ω;rw[hn]at M;obtain⟨h1,a,h3,h4,h5⟩:=V _ _ _ N;obtain⟨_,X,F⟩:=World.cells?_some M;have O:∀d,k.add d = ⟨k.block,k.off+d,none⟩:=λd=>by
   obtain⟨b,o,sp⟩:=k;simp only at g;subst g;unfold Addr.add;split<;>simp_all
  have A:∀d,d<n->cel w k.block (k.off+(i*n+d))=E[d]?:=λd J=>by
   have:=F d J;rw[Go.Deep.add_add,O]at this;exact this
  refine⟨a,h3,h4,λd J=>⟨_,by rw[A d J,O2 ω]⟩,g,h5.congr λd J=>?_⟩;show(cel w k.block (k.off+(i*n+d))).getD undef=E.getD d undef;rw[A d ω,List.getD]
 obtain⟨l,Q,B⟩:=pick (α:=α) len key;refine⟨rfl,l,⟨by simp only[maxLen]at hm;omega,λy R=>?_⟩,rfl,Bq ?_⟩
 ·obtain⟨i,G⟩:=List.mem_iff_getElem?.1 R
  exact(B i y G).1
 show dG w (ALL w) NO (.s .V (l.map enc)) (.slice (some k) len m);by_cases h0:len=0
 ·subst h0
  have:l=[]:=S7 Q;subst this;by_cases Y:m=0
  ·subst Y;exact .nil _ _ _ trivial
  have g:=L ω;obtain⟨b,o,sp⟩:=k;simp only at g;subst g;exact .V _ b o n 0 m [] (λ_=>undef) rfl (λr Z=>by simp at Z) hl (λq hq=>by simp at hq) (λi j r c u=>by simp at u)
 obtain⟨y0,hy0⟩ : ∃y,l[0]? = some y:=⟨_,O2 ω⟩
 have g:=(B 0 y0 hy0).2.2.2.1;obtain⟨b,o,sp⟩:=k;simp only at g;subst g;refine .V _ b o n len m (l.map enc) (λq=>(cel w b (o+q)).getD undef) (by simpa using Q) (λr Z=>?_) hl (λq hq=>?_) (λi j r c u hj=>?_)
 ·obtain⟨y,R,rfl⟩:=O4.1 Z
  obtain⟨i,G⟩:=List.mem_iff_getElem?.1 R;exact(B i y G).2.1
 ·have hqd:q / n<len:=(Nat.div_lt_iff_lt_mul p).2 hq
  obtain⟨y,R⟩ : ∃y,l[q / n]? = some y:=⟨_,O2 ω⟩
  obtain⟨z,S⟩:=(B _ y R).2.2.1 (q % n) (Nat.mod_lt _ p);have J:q / n*n+q % n=q:=by rw[Nat.mul_comm];exact Nat.div_add_mod q n
  rw[J]at S;exact⟨RN S,by simp only at S |-;rw[S];rfl⟩
 rw[O3]at u;cases H:l[i]? with
 | none=>rw[H]at u;cases u
 | some y=>
  rw[H]at u;simp only[I5,Z0]at u;subst u;obtain⟨f,h1,h2,-⟩:=(B i y H).2.2.2.2;have hjl:=(U2.1 hj).1;exact(h1 j c hj).mono (λ_ _ h=>h) (h2 j hjl)
def row_val{S F:ah}{x:Value}(h:cL w S F [.v x] u):u 0=x:=by
 obtain⟨f,a,-⟩:=h;have:=a 0 _ rfl;cases this
 rfl
end
open Go.RowKit Go.ChangeShapes Go.WideShapes
section
variable{H:Type}{e:TypeId × Value->H}{P:Program}{w:World}
def Q1{t:Nat}(b:P.underlying t=some (.int .u8)):T9 e P w t 1 rU (λz=>0<=z/\z<=255):=by
 intro fuel c x h;obtain⟨n,rfl,-,a⟩:=DataW.trod_int b h;refine⟨rfl,n,?_,rfl,Bq (.v _ _ rfl)⟩;simp only[Lit.wf,I0,C0]at a;exact a
def op_ByteS:T9 e Tryz.prog w 22 1 (λzs:List Int=>[.s .V (zs.map rU)]) (λzs=>zs.length<=9223372036854775807/\∀y∈zs,0<=y/\y<=255):=Pe (Q1 Tryz.underlying5) Tryz.underlying22 (by kernel_rfl) (by decide)
end
end Go.Proofs.YtiopgblagimpmaaGreat.Ab
