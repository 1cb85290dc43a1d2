/- RK frames, tables, kernels, heaps, worlds: the reference's. No condition. -/
import Derived.Test.YtiopgblagimpmaaGreatKic
import Derived.Test.YtiopgblagimpmaaGreatKig
import Derived.Test.YtiopgblagimpmaaGreatKif
import Derived.Test.YtiopgblagimpmaaGreatKie
import Derived.Lib.Overlaps
import Derived.Lib.AppendZerosOnto
import Derived.Laws.NewBlocks
import Derived.Laws.Externs
set_option linter.unusedVariables false
set_option linter.defProp false
set_option linter.unusedSimpArgs false
set_option linter.constructorNameAsVariable false
namespace Go.Proofs.YtiopgblagimpmaaGreat.Ab
open Go.RowKit
set_option maxRecDepth 20000
set_option maxHeartbeats 4000000
def wN(n:Nat)(e:1<=n/\n<=32):zzA 569 false [.val none [I (n:Nat)]] (.tup [some 2,none]) (aX.enc .own (gf n)++[B true]):=by
 have c:=aJ ((n:Nat):Int) 1 32;rw[O0 ω]at c;have a:=aW (b:=[B true]) (aX.enc_fr (gf n)) ⟨trivial,trivial⟩;rw[show aX.enc .own (gf n)=_ from GQ n n]at a |-;refine fO 28 [(7,4,[16,17,18,19])] Tryz.func569 rfl ?_ (.inr a)
 repeat'(first|refine gP ?_|(conv=>whnf);first|refine CB ?_|refine C8 (c) ?_)
 (conv=>whnf)
 refine CJ (ι:=Nat) (λk=>[(0,.H .one [I ((n:Nat))]),(2,.H .box [.z,.z]),(4,.H .box [.s .own (List.replicate k [.s .own (List.replicate 16 [I 0])]),.s .own (List.replicate k [B false])]),(5,.H .one [I ((k:Nat):Int)])]) (λk=>k<=n) (λk=>n - k) (0) ?_ (W0 _) λk g=>?_
 ·exact wB
 by_cases h:k<n
 ·repeat'(first|refine gE ?_|(conv=>whnf);first|refine CB ?_|refine Mk.mk 16 rfl rfl (by decide) (by decide) rfl ?_|refine Ap.sn (λr d=>by rw[(List.mem_replicate.1 d).2];rfl) rfl (by simp;omega) (by decide) (EN _ k) ?_)
  ((conv=>whnf);refine CE (k+1) ω ω ?_;(exact wB))
 obtain rfl:k=n:=ω
 repeat'(first|refine gE ?_|(conv=>whnf);first|refine CB ?_)
 rfl
def zE(n:Nat)(e:1<=n/\n<=32):zzA 570 false [.val none [I (n:Nat)]] (.tup [some 1,none]) (aM.enc .own (fG n)++[B true]):=by
 have c:=aJ ((n:Nat):Int) 1 32;rw[O0 ω]at c;have a:=aW (b:=[B true]) (aM.enc_fr (fG n)) ⟨trivial,trivial⟩;have d:aM.enc .own (fG n)=[.s .own (List.replicate n [I 0,I 0])]:=by simp[aM.enc,fG,bk.enc,List.map_replicate]
 rw[d]at a |-;refine fO 11 [] Tryz.func570 rfl ?_ (.inr a)
 repeat'(first|refine gP ?_|(conv=>whnf);first|refine CB ?_|refine C8 (c) ?_|refine Mk.mk n rfl rfl ω (yJ ω (by decide)) rfl ?_)
 rfl
def vS(p f:Nat)(a:1<=p/\p<=32)(b:1<=f/\f<=32):zzA 508 false [.val none [I (p:Nat)],.val none [I (f:Nat)]] (.tup [some 3,none]) (aY.enc .own ⟨gf f,fG p⟩++[B true]):=by
 refine fO 30 [] Tryz.func508 rfl ?_ (.inr (aW (aY.enc_fr _) ⟨trivial,trivial⟩))
 repeat'(first|refine gP ?_|(conv=>whnf);first|refine CB ?_|refine C8 (wN f b) ?_|refine C8 (zE p a) ?_)
 rfl
def xX(p f:Nat)(a:List Int)(b:1<=p/\p<=32)(c:1<=f/\f<=32)(d:a.length<=40/\∀x∈a,0<=x):zzA 412 false [.val none [I (p:Nat)],.val none [I (f:Nat)],.val none (aH .V a)] (.tup [some 5,none]) (am.enc .own (bY p f a)++[B true]):=by
 have e:=qw b c d;have h:=d.1;have g:=mz (bY p f a) (bE e);rw[e]at g;refine fO 31 [(2,260,[17,18,19,10,0,1,2,5,3,1000,1005,4,1005,6])] Tryz.func412 rfl ?_ (.inr (aW (Cf _) ⟨trivial,trivial⟩))
 repeat'(first|refine gP ?_|(conv=>whnf);first|refine CB ?_|refine C8 (vS p f b c) ?_|refine CF (g) ⟨⟨rfl,CQ (bY p f a)⟩,trivial⟩ ?_|refine CR (λ_=>rfl) (λ_=>rfl) ω (by decide) ?_|refine CX (λ_=>rfl) (λ_=>rfl) ω (by decide) ?_|refine CB ?_)
 rfl
def Tb(p f t:Nat)(lim:Int)(a:List Int)(k:Nat):ac:={caps (newHeap p f t lim a) k with a7:=⟨0,[]⟩}
def Dg(p f t:Nat)(lim:Int)(a:List Int)(c:1<=p/\p<=32)(d:1<=f/\f<=32)(e:1<=t/\t<=4)(g:0<=lim/\lim<=1000)(h:a.length<=40/\∀x∈a,0<=x):zzA 271 false [.val none [I (p:Nat)],.val none [I (f:Nat)],.val none [I (t:Nat)],.val none [I lim],.val none (aH .V a)] (.tup [some 24,none]) (ac.enc .own (newHeap p f t lim a)++[B true]):=by
 have b:=aJ lim 0 1000;rw[O0 g]at b;refine fO 66 [(9,4,[54,55,56,57])] Tryz.func271 rfl ?_ (.inr (aW (ac.enc_fr _) ⟨trivial,trivial⟩))
 repeat'(first|refine gP ?_|(conv=>whnf);first|refine CB ?_|refine C8 (xX p f a c d h) ?_|refine C8 (DM t e) ?_|refine C8 (b) ?_|refine C8 (sg) ?_)
 (conv=>whnf)
 refine CJ (ι:=Nat) (λk=>[(2,.H .one [I ((t:Nat))]),(10,.H .box [.z,.z,.z,I 0,.z,.z,.z,.z,.z,.z,.z,.z,I 0,.z,I 0,I 0,I 0,I 0,B false,I 0,I 0,.z,I 0,I 0]),(16,.H .box (ac.enc .own (Tb p f t lim a k))),(17,.H .one [I ((k:Nat):Int)])]) (λk=>k<=t) (λk=>t - k) (0) ?_ (W0 _) λk i=>?_
 ·exact wB
 by_cases j:k<t
 ·repeat'(first|refine gE ?_|(conv=>whnf);first|refine CB ?_|refine C8 (zP) ?_|refine Ap.sn LO rfl (by rw[C1];show(List.replicate _ fB).length+1<=_;rw[Y3];omega) (by decide) (Ls k) ?_)
  ((conv=>whnf);refine CE (k+1) ω ω ?_;(exact wB))
 obtain rfl:k=t:=ω
 repeat'(first|refine gE ?_|(conv=>whnf);first|refine CB ?_|refine C8 (sg) ?_)
 rfl
def Ec:zzA 272 false [] .agg (aC.enc .own ⟨1,[]⟩):=by
 refine fO 2 [] Tryz.func272 rfl ?_ (.inr (aC.enc_fr _))
 repeat'((conv=>whnf);first|with_reducible (first|refine Lm ?_|refine Wm ω ?_|refine Bn ?_|refine jX.wk rfl ?_)|refine Bt ?_|refine Bu ?_|refine CB ?_)
 exact⟨rfl,rfl,trivial⟩
def zy(c:cG)(h:FU c):zzA 120 false [.val (some 5) (cG.enc .V c)] (.tup [some 26,none]) (bp.enc .own (world0 c)++[B true]):=by
 have a:=Dg c.a2 c.W c.c6 c.c0 c.a0 h.p h.f h.t h.l h.r;refine fO 26 [(4,2,[23,24])] Tryz.func120 rfl ?_ (.inr (aW (bp.enc_fr _) ⟨trivial,trivial⟩))
 repeat'(first|refine gP ?_|(conv=>whnf);first|refine CB ?_|refine C8 (a) ?_|refine C8 (Ec) ?_)
 rfl
def oY(o:dQ)(l:List eG):List C:=[.s o (l.map (eG.enc o))]
def eG.enc_fr(x:eG):hC (eG.enc .own x):=⟨trivial,trivial,trivial,trivial,trivial,trivial⟩
def Lj(l:List eG):hC (oY .own l):=⟨⟨.inl λh=>(by cases h),bj _ _ λy _=>eG.enc_fr y⟩,trivial⟩
def Ks(l:List eG):dJ (oY .own l)=oY .V l:=by simp[dJ,oY,eG.enc,<-bX,Y5]
def Gj(zs:List Int)(c:iC)(ids:Int)(b:jj zs)(p:c.i<=zs.length)(r:1<=ids/\ids<=1000):zzB 259 false [.ptr (iv zs c),.val none [I ids]] [.ptr (iv zs (tc zs c ids).2),.val none [I ids]] .agg (eG.enc .own (tc zs c ids).1):=by
 have w:=bT p 3;have y:=bT w ids;have d:(lG zs c ids).2.i<=zs.length:=bT y 20;have B:=bS zs c 3 b p (by decide);have C:=bS zs (Ad zs c).2 ids b w r.1;have j:=bS zs (Gt zs c ids).2 20 b y (by decide);have H:=bJ zs c (n:=3) (by decide);have J:=bJ zs (Ad zs c).2 (n:=ids) r.1;have D:=bJ zs (Gt zs c ids).2 (n:=20) (by decide);have e:=iU zs (lG zs c ids).2 szs b d (by decide);have E:=iU zs (lG zs c ids).2 [5,6] b d (by decide);have F:=iU zs (lG zs c ids).2 [1,30,60,120] b d (by decide);have l:=iU zs (lG zs c ids).2 [1,2,3,10,30] b d (by decide);have g:=bS zs (lG zs c ids).2 4 b d (by decide);have h:=bS zs (bw zs (lG zs c ids).2 4).2 999 b (bT d _) (by decide);have G:=bS zs (lG zs c ids).2 10 b d (by decide);have K:=bJ zs (bw zs (lG zs c ids).2 4).2 (n:=999) (by decide);have L:=bJ zs (lG zs c ids).2 (n:=10) (by decide);change aK _ _ _ _ [.ptr (iv zs (Ad zs c).2),_] _ [I (Ad zs c).1]at B;change aK _ _ _ _ [.ptr (iv zs (Gt zs c ids).2),_] _ [I (Gt zs c ids).1]at C;change aK _ _ _ _ [.ptr (iv zs (lG zs c ids).2),_] _ [I (lG zs c ids).1]at j;change 0<=(Ad zs c).1/\(Ad zs c).1<3 at H;change 0<=(Gt zs c ids).1/\(Gt zs c ids).1<ids at J;change 0<=(lG zs c ids).1/\(lG zs c ids).1<20 at D;have o:=eG.enc_fr (tc zs c ids).1;unfold tc at o |-;generalize lG zs c ids=k at *;generalize Gt zs c ids=n at *;generalize Ad zs c=t at *;obtain⟨a,M⟩:=k;dsimp only at d e E F l g h G K L D j o |-;refine fM 77 [(61,[2,0]),(402,[2,1])] [] [(0,0),(0,0)] Tryz.func259 rfl (λu q=>?_) (.inr o)
 repeat'(first|refine gP ?_|(conv=>whnf);first|refine CK (B) (.inl rfl) ?_|refine CK (C) (.inl rfl) ?_|refine CK (j) (.inl rfl) ?_)
 obtain rfl|rfl|rfl|rfl|rfl|rfl|rfl|rfl|rfl|rfl|rfl|rfl|rfl|rfl|rfl|rfl|rfl|rfl|rfl|rfl:=(show a=0\/a=1\/a=2\/a=3\/a=4\/a=5\/a=6\/a=7\/a=8\/a=9\/a=10\/a=11\/a=12\/a=13\/a=14\/a=15\/a=16\/a=17\/a=18\/a=19 by omega)
 ·rw[CC (show((0:Int))<=6 by decide)]
  repeat'(first|refine gP ?_|(conv=>whnf);first|refine CK (e) (.inl rfl) ?_)
  refine CG rfl rfl ?_;exact wC
 ·rw[CC (show((1:Int))<=6 by decide)]
  repeat'(first|refine gP ?_|(conv=>whnf);first|refine CK (e) (.inl rfl) ?_)
  refine CG rfl rfl ?_;exact wC
 ·rw[CC (show((2:Int))<=6 by decide)]
  repeat'(first|refine gP ?_|(conv=>whnf);first|refine CK (e) (.inl rfl) ?_)
  refine CG rfl rfl ?_;exact wC
 ·rw[CC (show((3:Int))<=6 by decide)]
  repeat'(first|refine gP ?_|(conv=>whnf);first|refine CK (e) (.inl rfl) ?_)
  refine CG rfl rfl ?_;exact wC
 ·rw[CC (show((4:Int))<=6 by decide)]
  repeat'(first|refine gP ?_|(conv=>whnf);first|refine CK (e) (.inl rfl) ?_)
  refine CG rfl rfl ?_;exact wC
 ·rw[CC (show((5:Int))<=6 by decide)]
  repeat'(first|refine gP ?_|(conv=>whnf);first|refine CK (e) (.inl rfl) ?_)
  refine CG rfl rfl ?_;exact wC
 ·rw[CC (show((6:Int))<=6 by decide)]
  repeat'(first|refine gP ?_|(conv=>whnf);first|refine CK (e) (.inl rfl) ?_)
  refine CG rfl rfl ?_;exact wC
 ·rw[C9 (show ¬((7:Int)<=6) by decide),CC (show((7:Int))<=9 by decide)]
  repeat'(first|refine gP ?_|fail)
  refine CG rfl rfl ?_;exact wC
 ·rw[C9 (show ¬((8:Int)<=6) by decide),CC (show((8:Int))<=9 by decide)]
  repeat'(first|refine gP ?_|fail)
  refine CG rfl rfl ?_;exact wC
 ·rw[C9 (show ¬((9:Int)<=6) by decide),CC (show((9:Int))<=9 by decide)]
  repeat'(first|refine gP ?_|fail)
  refine CG rfl rfl ?_;exact wC
 ·rw[C9 (show ¬((10:Int)<=6) by decide),C9 (show ¬((10:Int)<=9) by decide),CC (show((10:Int))<=12 by decide)]
  repeat'(first|refine gP ?_|(conv=>whnf);first|refine CK (g) (.inl rfl) ?_|refine CK (h) (.inl rfl) ?_)
  refine CG rfl rfl ?_;exact wC
 ·rw[C9 (show ¬((11:Int)<=6) by decide),C9 (show ¬((11:Int)<=9) by decide),CC (show((11:Int))<=12 by decide)]
  repeat'(first|refine gP ?_|(conv=>whnf);first|refine CK (g) (.inl rfl) ?_|refine CK (h) (.inl rfl) ?_)
  refine CG rfl rfl ?_;exact wC
 ·rw[C9 (show ¬((12:Int)<=6) by decide),C9 (show ¬((12:Int)<=9) by decide),CC (show((12:Int))<=12 by decide)]
  repeat'(first|refine gP ?_|(conv=>whnf);first|refine CK (g) (.inl rfl) ?_|refine CK (h) (.inl rfl) ?_)
  refine CG rfl rfl ?_;exact wC
 ·rw[C9 (show ¬((13:Int)<=6) by decide),C9 (show ¬((13:Int)<=9) by decide),C9 (show ¬((13:Int)<=12) by decide),CC (show((13:Int))=13 by decide)]
  repeat'(first|refine gP ?_|(conv=>whnf);first|refine CK (G) (.inl rfl) ?_)
  refine CG rfl rfl ?_;exact wC
 ·rw[C9 (show ¬((14:Int)<=6) by decide),C9 (show ¬((14:Int)<=9) by decide),C9 (show ¬((14:Int)<=12) by decide),C9 (show ¬((14:Int)=13) by decide),CC (show((14:Int))=14 by decide)]
  repeat'(first|refine gP ?_|(conv=>whnf);first|refine CK (E) (.inl rfl) ?_)
  refine CG rfl rfl ?_;exact wC
 ·rw[C9 (show ¬((15:Int)<=6) by decide),C9 (show ¬((15:Int)<=9) by decide),C9 (show ¬((15:Int)<=12) by decide),C9 (show ¬((15:Int)=13) by decide),C9 (show ¬((15:Int)=14) by decide),CC (show((15:Int))=15 by decide)]
  repeat'(first|refine gP ?_|fail)
  refine CG rfl rfl ?_;exact wC
 ·rw[C9 (show ¬((16:Int)<=6) by decide),C9 (show ¬((16:Int)<=9) by decide),C9 (show ¬((16:Int)<=12) by decide),C9 (show ¬((16:Int)=13) by decide),C9 (show ¬((16:Int)=14) by decide),C9 (show ¬((16:Int)=15) by decide),CC (show((16:Int))=16 by decide)]
  repeat'(first|refine gP ?_|(conv=>whnf);first|refine CK (F) (.inl rfl) ?_)
  refine CG rfl rfl ?_;exact wC
 ·rw[C9 (show ¬((17:Int)<=6) by decide),C9 (show ¬((17:Int)<=9) by decide),C9 (show ¬((17:Int)<=12) by decide),C9 (show ¬((17:Int)=13) by decide),C9 (show ¬((17:Int)=14) by decide),C9 (show ¬((17:Int)=15) by decide),C9 (show ¬((17:Int)=16) by decide),CC (show((17:Int))=17 by decide)]
  repeat'(first|refine gP ?_|fail)
  refine CG rfl rfl ?_;exact wC
 ·rw[C9 (show ¬((18:Int)<=6) by decide),C9 (show ¬((18:Int)<=9) by decide),C9 (show ¬((18:Int)<=12) by decide),C9 (show ¬((18:Int)=13) by decide),C9 (show ¬((18:Int)=14) by decide),C9 (show ¬((18:Int)=15) by decide),C9 (show ¬((18:Int)=16) by decide),C9 (show ¬((18:Int)=17) by decide)]
  repeat'(first|refine gP ?_|(conv=>whnf);first|refine CK (l) (.inl rfl) ?_)
  refine CG rfl rfl ?_;exact wC
 rw[C9 (show ¬((19:Int)<=6) by decide),C9 (show ¬((19:Int)<=9) by decide),C9 (show ¬((19:Int)<=12) by decide),C9 (show ¬((19:Int)=13) by decide),C9 (show ¬((19:Int)=14) by decide),C9 (show ¬((19:Int)=15) by decide),C9 (show ¬((19:Int)=16) by decide),C9 (show ¬((19:Int)=17) by decide)]
 repeat'(first|refine gP ?_|(conv=>whnf);first|refine CK (l) (.inl rfl) ?_)
 refine CG rfl rfl ?_;exact wC
def Dn(zs:List Int)(c:iC)(b:jj zs)(d:c.i<=zs.length):zzB 114 false [.ptr (iv zs c),.val none [I 40]] [.ptr (iv zs (l8 zs c).2),.val none [I 40]] .one (oY .own (l8 zs c).1):=by
 have e:=bS zs c 41 b d (by decide);have g:=bJ zs c (n:=41) (by decide);obtain⟨n,h⟩:=z3 g.1;have a:(bw zs c 41).1.toNat=n:=by rw[h];rfl
 unfold l8;rw[a];rw[h]at e g;refine fM 27 [(61,[2,0]),(259,[2,0])] [] [(0,0),(0,0)] Tryz.func114 rfl (λu q=>?_) (.inr (Lj _))
 repeat'(first|refine gP ?_|(conv=>whnf);first|refine CK (e) (.inl rfl) ?_)
 (conv=>whnf)
 refine CJ (ι:=Nat) (λi=>[(0,.H .box (iv zs (lf zs c i).2)),(5,.H .one (oY .own (lf zs c i).1)),(6,.H .one [I ((n:Nat):Int)]),(7,.H .one [I ((i:Nat):Int)])]) (λi=>i<=n) (λi=>n - i) (0) ?_ (W0 _) λi p=>?_
 ·exact wC
 obtain⟨t,-,j⟩:=pc (zs:=zs) (c:=c) d (n:=i) ω;by_cases w:i<n
 ·have k:=Gj zs (lf zs c i).2 (1+(i:Int) / 2) b j ω
  have l:((i:Nat):Int).tdiv 2=(i:Int) / 2:=Int.tdiv_eq_ediv_of_nonneg ω
  repeat'(first|refine gE ?_|(conv=>whnf);first|with_reducible (first|refine CS l ?_|refine CO ω ?_)|refine CK (k) (.inl rfl) ?_|refine CU (aV λ_=>rfl) (λr o=>by rw[O1.1 o];rfl) (by simp[bi,eg,eG.enc]) (by simp;omega) (by simp only[C1];exact yJ (by simp;omega) (by decide)) rfl ?_)
  ((conv=>whnf);refine CE (i+1) ω ω ?_)
  repeat'(first|exact trivial|rfl| exact dI _ |exact CL rfl (CL (X0 (C.s dQ.own) (by simp[lf];rfl)) trivial)|refine CL ?_ ?_|(exact AS (by first|omega|(simp only;omega)|(simp;omega))))
 obtain rfl:i=n:=ω
 repeat'(first|refine gE ?_|fail)
 refine CG rfl rfl ?_;exact wC
def rfs(h:ac):List Int:=h.G.a0
def B1(k:am)(p:Int):(newK k p).1.a0=k.a0:=by unfold newK;split<;>rfl
def sK(k:am)(p:Int):∀n,(newsK k p n).1.a0=k.a0
 | 0=>rfl
 | n+1=>by
  unfold newsK;split
  ·exact(B1 _ _).trans (sK k p n)
  exact sK k p n
def NJ(h:ac)(i:Nat):rfs (iY h i).1=rfs h:=by unfold iY;split<;>rfl
def zY(h:ac)(t c:Nat):rfs (smallA h t c).1=rfs h:=by
 unfold smallA;split
 ·rfl
 split
 ·rfl
 split
 ·rfl
 split
 ·exact B1 _ _
 exact(NJ _ _).trans (B1 _ _)
def Kq(h:ac)(t n:Int):rfs (allocH h t n).1=rfs h:=by
 unfold allocH;split
 ·rfl
 split
 ·rfl
 split
 ·rfl
 split
 ·rfl
 split
 ·split
  ·exact zY _ _ _
  exact zY _ _ _
 unfold largeA;split
 ·rfl
 split
 ·exact sK _ _ _
 exact((kT _ _ _).2).trans (sK _ _ _)
def NG(h:ac)(t i:Nat):rfs (freeT h t i).1=rfs h:=by
 unfold freeT;split
 ·exact(kT _ _ _).2
 split
 ·rfl
 split
 ·exact(fe t _ _).2.2.2.2.2.2.2
 split<;>rfl
def Ar(t:Nat)(h:ac):∀k,rfs (flushN t h k).1=rfs h
 | 0=>rfl
 | k+1=>((fK _ (spilt (flushN t h k).1 t k)).2.2.2.2.2.2.2).trans (Ar t h k)
def HA{h:ac}(a:bc h [])(b:JI h):∀n,rfs (stN h n).1=rfs h
 | 0=>rfl
 | n+1=>by
  obtain⟨c,d⟩:=tD a b n;unfold stN;split
  ·rename_i e
   unfold te at e;rw[I0]at e;exact((xz c e.1).2.2.1).trans (HA a b n)
  exact HA a b n
def N5{w:bp}{m:Nat}(h:rP w m)(a:eG):rfs (lR w a).1.Z=rfs w.Z:=by
 unfold lR;split
 ·exact Kq _ _ _
 split
 ·split
  ·rfl
  unfold ml;split
  ·unfold qh
   split
   ·rfl
   split
   ·exact NG _ _ _
   rfl
  split
  ·unfold mT
   split
   ·rfl
   split
   ·rfl
   split<;>rfl
  unfold qg;split
  ·exact((kT _ _ _).2).trans (nz _ _ _).2.2
  rfl
 split
 ·unfold fH
  split
  ·split<;>rfl
  split
  ·rfl
  split
  ·exact(fe _ _ _).2.2.2.2.2.2.2
  exact Ar _ _ _
 split
 ·unfold nI
  split
  ·exact(fK _ _).2.2.2.2.2.2.2
  rfl
 split
 ·unfold nl
  split
  ·rfl
  show rfs (started w.Z).1=_;unfold rfs;rw[(vp h.inv).2.1]
 split
 ·exact HA h.inv h.ji _
 rfl
def HH{c:cG}(h:FU c)(acts:List eG):∀n,rfs (yL c acts n).1.Z=c.a0
 | 0=>rfl
 | n+1=>(N5 (ui h acts n) _).trans (HH h acts n)
def rx(w:bp):List C:=bB w.Z++aC.enc .V w.b2
def Q5(w:bp):dJ (rx w)=bp.enc .V w:=by
 unfold rx;rw[fo,bI,<-Cg,sD,Cg]
 rfl
def Fk(w:bp)(id:Int)(g:w.Z.O.length<=1048576):zzB 274 false [.ptr (rx w),.val none [I id]] [.ptr (rx w),.val none [I id]] .one [I (q9 w.Z id)]:=by
 refine fM 28 [] [] [(0,0),(0,0)] Tryz.func274 rfl (λu q=>?_)
 repeat'(first|refine gP ?_|(conv=>whnf);first|refine CB ?_)
 (conv=>whnf)
 refine CJ (ι:=Nat) (λi=>[(0,.H .box (rx w)),(1,.H .one [I (id)]),(5,.H .one [I ((i:Nat):Int)])]) (λi=>i<=w.Z.O.length/\∀(j:Nat)(z:bt),j<i->w.Z.O[j]? = some z->MY id z=false) (λi=>w.Z.O.length - i) (0) ?_ (⟨W0 _,λj z h=>ω⟩) λi c=>?_
 ·exact wC
 obtain⟨c,b⟩:=c;by_cases d:i<w.Z.O.length
 ·have a:=au d
  by_cases e:(nth w.Z.O i).Id=id
  ·repeat'(first|refine gB ?_|(conv=>whnf);first|with_reducible refine CD (aa a) ?_|refine CB ?_|refine CH rfl (aa a) rfl ?_)
   refine CG rfl (X0 (λz=>[I z]) (dN a (O0 e) b).symm) ?_;exact wC
  repeat'(first|refine gB ?_|(conv=>whnf);first|with_reducible refine CD (aa a) ?_|refine CB ?_|refine CH rfl (aa a) rfl ?_)
  ((conv=>whnf);refine CE (i+1) ⟨ω,dX a (U0 e) b⟩ ω ?_;(exact wC))
 repeat'(first|refine gE ?_|(conv=>whnf);first|refine CB ?_)
 refine CG rfl (X0 (λz=>[I z]) (gc ω b).symm) ?_;exact wC
def cY(y:ac):(bB y).length=24:=rfl
def zr(w:bp)(m n:Nat)(h:rP w m)(B:n<=50):zzB 280 false [.ptr (rx w),.val none [I (n:Nat)]] [.ptr (rx ⟨(stN w.Z n).1,w.b2⟩),.val none [I (n:Nat)]] .one [I ((stN w.Z n).2:Nat)]:=by
 refine fM 35 [(431,[2])] [] [(0,0),(0,0)] Tryz.func280 rfl (λu q=>?_)
 repeat'(first|refine gP ?_|(conv=>whnf);first|refine CB ?_)
 (conv=>whnf)
 refine CJ (ι:=Nat) (λi=>[(0,.H .box (rx ⟨(stN w.Z i).1,w.b2⟩)),(1,.H .one [I ((n:Nat):Int)]),(5,.H .one [I (((stN w.Z i).2:Nat):Int)]),(6,.H .one [I ((i:Nat):Int)])]) (λi=>i<=n/\(stN w.Z i).2=i) (λi=>n - i) (0) ?_ (⟨W0 _,rfl⟩) λi l=>?_
 ·exact wC
 obtain⟨l,C⟩:=l;obtain⟨o,D⟩:=tD h.inv h.ji i;have b:stN w.Z (i+1)=if te (stN w.Z i).1=true then(mStep (stN w.Z i).1,(stN w.Z i).2+1) else stN w.Z i:=rfl
 have p:=(aG.1 o.ker).2.2.2.2;by_cases E:i<n
 ·cases c:(stN w.Z i).1.u with
  | true=>
   have y:=(BW _ o c).frame (r:=aC.enc .V w.b2) ((cY _).trans (cY _).symm);by_cases g:(stN w.Z i).1.G.Calls<=99000
   ·have d:te (stN w.Z i).1=true:=by unfold te;rw[c,O0 g];rfl
    rw[CC d]at b;generalize stN w.Z i=s at *
    repeat'(first|refine gE ?_|(conv=>whnf);first|refine CB ?_|refine Bf.t (O0 g) ?_|refine Bf.t c ?_|refine CK (y) (.inl rfl) ?_)
    ((conv=>whnf);refine CE (i+1) ⟨ω,by rw[b];simp only;omega⟩ ω ?_)
    rw[b];exact wC
   have d:te (stN w.Z i).1=false:=by unfold te;rw[c,U0 g];rfl
   have a:∀k,stN w.Z (i+k)=stN w.Z i:=λk=>by
    induction k with
    | zero=>rfl
    | succ k j=>show(if te (stN w.Z (i+k)).1=true then _ else stN w.Z (i+k))=_;rw[j,d,C9 (by simp)]
   have e:=a (n - i);rw[show i+(n - i)=n by omega]at e;rw[e];generalize stN w.Z i=s at *
   repeat'(first|refine gE ?_|(conv=>whnf);first|refine CB ?_|refine Bf.f (U0 g) ?_|refine Bf.t c ?_)
   refine CG rfl rfl ?_;exact wC
  | false=>
   have d:te (stN w.Z i).1=false:=by unfold te;rw[c];rfl
   have a:∀k,stN w.Z (i+k)=stN w.Z i:=λk=>by
    induction k with
    | zero=>rfl
    | succ k j=>show(if te (stN w.Z (i+k)).1=true then _ else stN w.Z (i+k))=_;rw[j,d,C9 (by simp)]
   have e:=a (n - i);rw[show i+(n - i)=n by omega]at e;rw[e];generalize stN w.Z i=s at *
   repeat'(first|refine gE ?_|(conv=>whnf);first|refine CB ?_|refine Bf.f c ?_)
   refine CG rfl rfl ?_;exact wC
 obtain rfl:i=n:=ω
 repeat'(first|refine gE ?_|(conv=>whnf);first|refine CB ?_)
 refine CG rfl rfl ?_;exact wC
def GF{k:am}(a:aF k=true):(aF k&&decide (k.Calls<100000))=decide (k.Calls≠100000):=by
 have:=(aG.1 a).2.2.2.2;rw[a,Bool.true_and,Y4,C0,C0];omega
def yD(w:bp)(a:eG)(m:Nat)(h:rP w m)(B:a.b5=5\/a.b5=6\/a.b5=7):zzB 276 false [.ptr (rx w),.val (some 5) (eG.enc .V a)] [.ptr (rx ⟨(fH w.Z a).1,w.b2⟩),.val (some 5) (eG.enc .V a)] .one [I (fH w.Z a).2]:=by
 have d:=h.inv;have o:=d.nc;have p:w.Z.S.length<=4:=by have:=(d7.1 d.mail).1.2.1;omega
 have C:=lN.of d.mail;have i:=lQ w.Z.G (bE d.ker);rw[GF d.ker]at i;have j:=aJ a.a4 0 (w.Z.S.length - 1:Int);unfold fH;refine fM 59 [(423,[2,0]),(424,[2,0])] [(3,267,[15,16,17,18,19,20,21,14,22,23,6,0,1,2,3,4,5,6,7,8,9,10,11,1009,12]),(8,15,[30,31,32,33,34,35,36,37,38,39,40,41,42,43,44])] [(0,0),(0,0)] Tryz.func276 rfl (λu q=>?_);by_cases l:a.b5=5
 ·rw[CC l]
  by_cases e:0<=a.a4/\a.a4<=w.Z.S.length - 1
  ·have y:nP w.Z a:=e
   obtain⟨t,g⟩:=z3 e.1;have b:=Gd w.Z.w t d.mail ω;rw[<-g]at b;rw[g]at e |-;simp only[Z2];rw[g]at b;by_cases c:0<(nth w.Z.w.U t).length
   ·rw[CC (show nP w.Z a/\0<(nth w.Z.w.U t).length from⟨y,c⟩)]
    rw[CC c,O0 c]at b;rw[<-g]at b
    repeat'(first|refine gB ?_|(conv=>whnf);first|with_reducible refine Bf.E (λk=>?_) (λk=>?_)|refine CB ?_|refine CF (b) ⟨⟨rfl,aN.enc_fz w.Z.w⟩,⟨rfl,rfl⟩,trivial⟩ ?_|refine CB ?_)
    refine CG rfl rfl ?_;exact wC
   rw[C9 (show ¬(nP w.Z a/\0<(nth w.Z.w.U t).length) from λx=>c x.2)];rw[C9 c,U0 c]at b;rw[<-g]at b
   repeat'(first|refine gB ?_|(conv=>whnf);first|with_reducible refine Bf.E (λk=>?_) (λk=>?_)|refine CB ?_|refine CF (b) ⟨⟨rfl,aN.enc_fz w.Z.w⟩,⟨rfl,rfl⟩,trivial⟩ ?_|refine CB ?_)
   refine CG rfl rfl ?_;exact wC
  rw[C9 (show ¬(nP w.Z a/\0<(nth w.Z.w.U a.a4.toNat).length) from λx=>e x.1)];have b:=Hg w.Z.w a.a4 d.mail ω
  repeat'(first|refine gB ?_|(conv=>whnf);first|with_reducible refine Bf.E (λk=>?_) (λk=>?_)|refine CB ?_|refine CF (b) ⟨⟨rfl,aN.enc_fz w.Z.w⟩,⟨rfl,rfl⟩,trivial⟩ ?_|refine CB ?_)
  refine CG rfl rfl ?_;exact wC
 rw[C9 l];by_cases e:w.Z.G.Calls≠100000;rotate_left
 ·rw[CC (show ¬(w.Z.G.Calls≠100000/\nP w.Z a) from λx=>e x.1)]
  rw[U0 e]at i
  repeat'(first|refine gB ?_|(conv=>whnf);first|refine CB ?_|refine CF (i) ⟨⟨rfl,CQ _⟩,trivial⟩ ?_|refine CB ?_)
  refine CG rfl rfl ?_;exact wC
 rw[O0 e]at i;by_cases c:0<=a.a4/\a.a4<=w.Z.S.length - 1;rotate_left
 ·rw[CC (show ¬(w.Z.G.Calls≠100000/\nP w.Z a) from λx=>c x.2)]
  rw[U0 c]at j
  repeat'(first|refine gB ?_|(conv=>whnf);first|refine CB ?_|refine CF (i) ⟨⟨rfl,CQ _⟩,trivial⟩ ?_|refine C8 (j) ?_|refine CB ?_)
  refine CG rfl rfl ?_;exact wC
 rw[C9 (show ¬¬(w.Z.G.Calls≠100000/\nP w.Z a) from z4 ⟨e,c⟩)];rw[O0 c]at j;obtain⟨t,g⟩:=z3 c.1;by_cases n:a.b5=6
 ·rw[CC n]
  have b:=(vQ w.Z t d ω).frame (r:=aC.enc .V w.b2) ((cY _).trans (cY _).symm);rw[show a.a4.toNat=t by omega];rw[<-g]at b
  repeat'(first|refine gB ?_|(conv=>whnf);first|refine CB ?_|refine CF (i) ⟨⟨rfl,CQ _⟩,trivial⟩ ?_|refine C8 (j) ?_|refine CK (b) (.inl rfl) ?_|refine CB ?_)
  refine CG rfl rfl ?_;exact wC
 rw[C9 n];have b:=(zp w.Z t d ω).frame (r:=aC.enc .V w.b2) ((cY _).trans (cY _).symm);rw[show a.a4.toNat=t by omega];rw[<-g]at b
 repeat'(first|refine gB ?_|(conv=>whnf);first|refine CB ?_|refine CF (i) ⟨⟨rfl,CQ _⟩,trivial⟩ ?_|refine C8 (j) ?_|refine CK (b) (.inl rfl) ?_|refine CB ?_)
 refine CG rfl rfl ?_;exact wC
def yn(w:bp)(a:eG)(i m:Nat)(h:rP w m)(X:m<=900)(G:Mr a)(t:i<w.Z.O.length):zzB 275 false [.ptr (rx w),.val (some 5) (eG.enc .V a),.val none [I (i:Nat)]] [.ptr (rx (ml w a i).1),.val (some 5) (eG.enc .V a),.val none [I (i:Nat)]] .one [I (ml w a i).2]:=by
 have e:=h.inv;have b:=au t;have M:=tQ e (ar t);have N:=cN e (ar t) (k:=0);have O:1<=(nth w.Z.O i).q/\(nth w.Z.O i).q<=1000:=by
  rcases e.oow _ (ar t) with⟨s,P,Y,Z⟩|⟨l,H,d,c⟩
  ·have hc:=aI (e.L.sok s P)
   have:=jr (n:=(nth w.Z.O i).q) ω;omega
  have h8:=cT (e.L.lok l H);omega
 have g:=lQ w.Z.G (bE e.ker);rw[GF e.ker]at g;have Q:=G.k;have R:=G.p;have S:=G.v;unfold ml;refine fM 126 [(416,[2,0,0]),(418,[2,0,0]),(420,[2,0,0])] [(6,7,[29,30,31,32,33,34,35]),(8,269,[40,41,42,43,44,45,46,47,39,48,49,50,51,0,1,2,3,4,5,6,7,8,9,10,11,12,13,1010]),(13,10,[62,63,64,65,66,67,68,69,70,71]),(15,273,[76,77,78,79,80,81,82,83,84,85,86,87,75,88,89,90,91,0,1,2,3,4,5,6,7,8,9,10,11,12,13,14,15,16,17,1014]),(17,15,[93,94,95,96,97,98,99,100,101,102,103,104,105,106,107]),(19,271,[112,113,114,115,116,117,118,119,120,121,111,122,123,124,125,0,1,2,3,4,5,6,7,8,9,10,11,12,13,14,15,1012])] [(0,0),(0,0),(0,0)] Tryz.func275 rfl (λu q=>?_);by_cases J:a.b5=2
 ·rw[CC J]
  unfold qh;by_cases d:w.Z.G.Calls=100000
  ·rw[CC d]
   rw[U0 (z4 d)]at g
   repeat'(first|refine gB ?_|(conv=>whnf);first|with_reducible refine CD (aa b) ?_|refine CB ?_|refine CF (g) ⟨⟨rfl,CQ _⟩,trivial⟩ ?_|refine CH rfl (aa b) rfl ?_|refine CB ?_)
   refine CG rfl rfl ?_;exact wC
  rw[C9 d];rw[O0 d]at g;have C:=(Qk w.Z i a.a4 e t).frame (r:=aC.enc .V w.b2) ((cY _).trans (cY _).symm);by_cases c:0<=a.a4/\a.a4<=w.Z.S.length - 1
  ·rw[CC (show nP w.Z a from c)]
   rw[CC c,CC c]at C;have T:=DV w.b2 (nth w.Z.O i).Id m h.ref ω;generalize freeT w.Z a.a4.toNat i=f at C |-;by_cases o:f.2=0
   ·rw[CC o]
    repeat'(first|refine gB ?_|(conv=>whnf);first|with_reducible (first|refine CD (aa b) ?_|refine Bf.E (λj=>?_) (λj=>?_))|refine CB ?_|refine CF (g) ⟨⟨rfl,CQ _⟩,trivial⟩ ?_|refine CH rfl (aa b) rfl ?_|refine CK (C) (.inl rfl) ?_|refine Cl.sh T rfl ?_|refine CB ?_)
    refine CG rfl rfl ?_;exact wC
   rw[C9 o]
   repeat'(first|refine gB ?_|(conv=>whnf);first|with_reducible (first|refine CD (aa b) ?_|refine Bf.E (λj=>?_) (λj=>?_))|refine CB ?_|refine CF (g) ⟨⟨rfl,CQ _⟩,trivial⟩ ?_|refine CH rfl (aa b) rfl ?_|refine CK (C) (.inl rfl) ?_|refine CB ?_)
   refine CG rfl rfl ?_;exact wC
  rw[C9 (show ¬nP w.Z a from c)];rw[C9 c,C9 c]at C
  repeat'(first|refine gB ?_|(conv=>whnf);first|with_reducible (first|refine CD (aa b) ?_|refine Bf.E (λj=>?_) (λj=>?_))|refine CB ?_|refine CF (g) ⟨⟨rfl,CQ _⟩,trivial⟩ ?_|refine CH rfl (aa b) rfl ?_|refine CK (C) (.inl rfl) ?_|refine CB ?_)
  refine CG rfl rfl ?_;exact wC
 rw[C9 J];by_cases K:a.b5=3
 ·rw[CC K]
  unfold mT;have D:=aJ a.At 0 ((nth w.Z.O i).q - 1);by_cases d:0<=a.At/\a.At<=(nth w.Z.O i).q - 1;rotate_left
  ·rw[CC d]
   rw[U0 d]at D
   repeat'(first|refine gB ?_|(conv=>whnf);first|with_reducible (first|refine CD (aa b) ?_|refine Bf.E (λj=>?_) (λj=>?_))|refine CB ?_|refine CH rfl (aa b) rfl ?_|refine C8 (D) ?_|refine CB ?_)
   refine CG rfl rfl ?_;exact wC
  rw[C9 (z4 d)];rw[O0 d]at D;have F:=(yS w.Z i a.At a.Value e t d).frame (r:=aC.enc .V w.b2) (by split<;>rfl);have U:=cN e (ar t) d;by_cases c:(af w.Z.G.F.R (((nth w.Z.O i).Addr+a.At) / 16)).e=1
  ·rw[CC c]
   rw[CC (.inl c),CC c]at F
   repeat'(first|refine gB ?_|(conv=>whnf);first|with_reducible (first|refine CD (aa b) ?_|refine Bf.E (λj=>?_) (λj=>?_))|refine CB ?_|refine CH rfl (aa b) rfl ?_|refine C8 (D) ?_|refine CK (F) (.inl rfl) ?_|refine CB ?_)
   refine CG rfl rfl ?_;exact wC
  rw[C9 c];by_cases o:0<=a.Value/\a.Value<=999;rotate_left
  ·rw[CC o]
   rw[CC (.inr o),C9 c,CC o]at F
   repeat'(first|refine gB ?_|(conv=>whnf);first|with_reducible (first|refine CD (aa b) ?_|refine Bf.E (λj=>?_) (λj=>?_))|refine CB ?_|refine CH rfl (aa b) rfl ?_|refine C8 (D) ?_|refine CK (F) (.inl rfl) ?_|refine CB ?_)
   refine CG rfl rfl ?_;exact wC
  rw[C9 (z4 o)];rw[C9 (λx=>x.elim c λy=>y o),C9 c,C9 (z4 o)]at F;obtain⟨b5,V⟩:=D5 w.b2 (nth w.Z.O i).Id a.At a.Value m h.ref ω o
  repeat'(first|refine gB ?_|(conv=>whnf);first|with_reducible (first|refine CD (aa b) ?_|refine Bf.E (λj=>?_) (λj=>?_))|refine CB ?_|refine CH rfl (aa b) rfl ?_|refine C8 (D) ?_|refine CK (F) (.inl rfl) ?_|refine C8 (V) ?_|refine CB ?_)
  refine CG rfl rfl ?_;exact wC
 rw[C9 K];unfold qg;by_cases d:w.Z.G.Calls=100000
 ·rw[C9 (λx=>x.1 d)]
  rw[U0 (z4 d)]at g
  repeat'(first|refine gB ?_|(conv=>whnf);first|with_reducible refine CD (aa b) ?_|refine CB ?_|refine CF (g) ⟨⟨rfl,CQ _⟩,trivial⟩ ?_|refine CH rfl (aa b) rfl ?_|refine CB ?_)
  refine CG rfl rfl ?_;exact wC
 rw[O0 d]at g;by_cases c:ma w.Z i a.Value
 ·rw[CC ⟨d,c⟩]
  have B:=(se w.Z i a.Value e t c.1).frame (r:=aC.enc .V w.b2) (by split<;>rfl);rw[CC c,O0 c]at B;obtain⟨b7,W⟩:=Eu w.b2 (nth w.Z.O i).Id a.Value m h.ref ω
  repeat'(first|refine gB ?_|(conv=>whnf);first|with_reducible refine CD (aa b) ?_|refine CB ?_|refine CF (g) ⟨⟨rfl,CQ _⟩,trivial⟩ ?_|refine CH rfl (aa b) rfl ?_|refine CK (B) (.inl rfl) ?_|refine C8 (W) ?_|refine CB ?_)
  refine CG rfl rfl ?_;exact wC
 rw[C9 (λx=>c x.2)];by_cases o:z8 w.Z (nth w.Z.O i).Addr<0
 ·have B:=(GD w.Z (nth w.Z.O i).Addr a.Value (by have:=e.lens.larges;omega) e.L.lok o).frame (r:=aC.enc .V w.b2) ((cY _).trans (cY _).symm)
  repeat'(first|refine gB ?_|(conv=>whnf);first|with_reducible refine CD (aa b) ?_|refine CB ?_|refine CF (g) ⟨⟨rfl,CQ _⟩,trivial⟩ ?_|refine CH rfl (aa b) rfl ?_|refine CK (B) (.inl rfl) ?_|refine CB ?_)
  refine CG rfl rfl ?_;exact wC
 have B:=(se w.Z i a.Value e t ω).frame (r:=aC.enc .V w.b2) (by split<;>rfl);rw[C9 c,U0 c]at B
 repeat'(first|refine gB ?_|(conv=>whnf);first|with_reducible refine CD (aa b) ?_|refine CB ?_|refine CF (g) ⟨⟨rfl,CQ _⟩,trivial⟩ ?_|refine CH rfl (aa b) rfl ?_|refine CK (B) (.inl rfl) ?_|refine CB ?_)
 refine CG rfl rfl ?_;exact wC
def rP.fit{w:bp}{m:Nat}(h:rP w m)(a:jo w.Z.G.a0):ac.sml w.Z/\ac.wf w.Z:=
 ⟨(h.inv.fit a (lN.of h.inv.mail).sml).sml,h.inv.wf a⟩
def Hb(w:bp)(a:eG)(m:Nat)(h:rP w m)(K:m<=900)(L:jo w.Z.G.a0)(p:Mr a):zzB 121 false [.ptr (rx w),.val (some 5) (eG.enc .V a)] [.ptr (rx (lR w a).1),.val (some 5) (eG.enc .V a)] .one [I (lR w a).2]:=by
 have i:=h.inv;have M:=p.k;have O:=p.n;have j:=i.nums;unfold cu at j;rw[C0]at j;unfold lR;refine fM 123 [(74,[2,0,0]),(274,[2,0]),(275,[2,0,0]),(276,[2,0]),(278,[2,0]),(279,[2]),(280,[2,0])] [(3,265,[13,14,15,16,17,18,19,21,22,0,1,2,3,4,5,6,7,8,9,10,11,1010,12]),(5,269,[26,27,28,29,30,31,32,33,25,34,35,36,37,0,1,2,3,4,5,6,7,8,9,10,11,12,13,1010]),(19,21,[62,63,64,65,66,67,68,69,70,71,72,73,74,75,76,77,78,79,80,81,82]),(21,5,[86,87,88,89,90])] [(0,0),(0,0)] Tryz.func121 rfl (λu q=>?_);by_cases F:a.b5=1
 ·rw[CC F]
  have c:=(zx w.Z a.a4 a.N i).frame (r:=aC.enc .V w.b2) ((cY _).trans (cY _).symm);by_cases e:(allocH w.Z a.a4 a.N).2.2=0
  ·rw[CC e]
   have y:1<=a.N/\a.N<=1000:=by
    refine Classical.byContradiction λB=>?_
    unfold allocH at e;rw[CC B]at e;split at e
    ·exact absurd (show(5:Int)=0 from e) (by decide)
    split at e
    ·exact absurd (show(1:Int)=0 from e) (by decide)
    exact absurd (show(2:Int)=0 from e) (by decide)
   have o:=zd w.b2 a.N m h.ref ω y;generalize allocH w.Z a.a4 a.N=f at c e |-
   repeat'(first|refine gB ?_|(conv=>whnf);first|with_reducible refine Bf.E (λb=>?_) (λb=>?_)|refine CB ?_|refine CK (c) (.inl rfl) ?_|refine C8 (o) ?_|refine CB ?_)
   refine CG rfl rfl ?_;exact wC
  rw[C9 e];generalize allocH w.Z a.a4 a.N=f at c e |-
  repeat'(first|refine gB ?_|(conv=>whnf);first|with_reducible refine Bf.E (λb=>?_) (λb=>?_)|refine CB ?_|refine CK (c) (.inl rfl) ?_|refine CB ?_)
  refine CG rfl rfl ?_;exact wC
 rw[C9 F];by_cases G:a.b5=2\/a.b5=3\/a.b5=4
 ·rw[CC G]
  have c:=Fk w a.N (by have:=i.lens.objs;omega);by_cases e:q9 w.Z a.N<0
  ·rw[CC e]
   repeat'(first|refine gB ?_|(conv=>whnf);first|with_reducible refine Bf.E (λb=>?_) (λb=>?_)|refine CB ?_|refine CK (c) (.inl rfl) ?_)
   all_goals first|omega|skip
   all_goals
    refine CG rfl rfl ?_;exact wC
  rw[C9 e];obtain⟨P,S,T⟩:=fC (MY a.N) w.Z.O (by unfold q9 at e;omega);have o:=yn w a (q9 w.Z a.N).toNat m h K p P;rw[show(((q9 w.Z a.N).toNat:Nat):Int)=q9 w.Z a.N by omega]at o
  repeat'(first|refine gB ?_|(conv=>whnf);first|with_reducible refine Bf.E (λb=>?_) (λb=>?_)|refine CB ?_|refine CK (c) (.inl rfl) ?_|refine CK (o) (.inl rfl) ?_)
  all_goals first|omega|skip
  all_goals
   refine CG rfl rfl ?_;exact wC
 rw[C9 G];by_cases C:a.b5=5\/a.b5=6\/a.b5=7
 ·rw[CC C]
  have c:=yD w a m h C
  repeat'(first|refine gB ?_|(conv=>whnf);first|with_reducible refine Bf.E (λb=>?_) (λb=>?_)|refine CB ?_|refine CK (c) (.inl rfl) ?_)
  all_goals first|omega|skip
  all_goals
   refine CG rfl rfl ?_;exact wC
 rw[C9 C];by_cases H:a.b5=8
 ·rw[CC H]
  unfold nI;have d:=lQ w.Z.G (bE i.ker);rw[GF i.ker]at d;have c:=aJ a.N 0 1000;by_cases g:w.Z.G.Calls≠100000;rotate_left
  ·rw[C9 (λx=>g x.1)]
   rw[U0 g]at d
   repeat'(first|refine gB ?_|(conv=>whnf);first|with_reducible refine Bf.E (λb=>?_) (λb=>?_)|refine CB ?_|refine CF (d) ⟨⟨rfl,CQ _⟩,trivial⟩ ?_|refine CB ?_)
   refine CG rfl rfl ?_;exact wC
  rw[O0 g]at d;by_cases l:0<=a.N/\a.N<=1000;rotate_left
  ·rw[C9 (λx=>l x.2.1)]
   rw[U0 l]at c
   repeat'(first|refine gB ?_|(conv=>whnf);first|with_reducible refine Bf.E (λb=>?_) (λb=>?_)|refine CB ?_|refine CF (d) ⟨⟨rfl,CQ _⟩,trivial⟩ ?_|refine C8 (c) ?_|refine CB ?_)
   refine CG rfl rfl ?_;exact wC
  rw[O0 l]at c;by_cases D:w.Z.b1+a.N<=1000000
  ·rw[CC ⟨g,l,D⟩]
   have o:=(DO w.Z a.N i l D).frame (r:=aC.enc .V w.b2) ((cY _).trans (cY _).symm)
   repeat'(first|refine gB ?_|(conv=>whnf);first|with_reducible refine Bf.E (λb=>?_) (λb=>?_)|refine CB ?_|refine CF (d) ⟨⟨rfl,CQ _⟩,trivial⟩ ?_|refine C8 (c) ?_|refine CK (o) (.inl rfl) ?_|refine CB ?_)
   refine CG rfl rfl ?_;exact wC
  rw[C9 (λx=>D x.2.2)]
  repeat'(first|refine gB ?_|(conv=>whnf);first|with_reducible refine Bf.E (λb=>?_) (λb=>?_)|refine CB ?_|refine CF (d) ⟨⟨rfl,CQ _⟩,trivial⟩ ?_|refine C8 (c) ?_|refine CB ?_)
  refine CG rfl rfl ?_;exact wC
 rw[C9 H];by_cases J:a.b5=9
 ·rw[CC J]
  unfold nl;obtain⟨Q,R⟩:=h.fit L;have d:=DZ w.Z Q R;rw[show gY w.Z=true from i.to]at d;cases g:w.Z.u with
  | true=>
   rw[CC rfl]
   repeat'(first|refine gB ?_|(conv=>whnf);first|with_reducible refine Bf.E (λb=>?_) (λb=>?_)|refine CB ?_|refine Bf.t g ?_|refine CB ?_)
   refine CG rfl rfl ?_;exact wC
  | false=>
   rw[C9 (by simp)];have c:=(zG w.Z i).frame (r:=aC.enc .V w.b2) ((cY _).trans (cY _).symm);cases l:(started w.Z).2<;>rw[l]at c
   ·rw[C9 (by simp)]
    repeat'(first|refine gB ?_|(conv=>whnf);first|with_reducible refine Bf.E (λb=>?_) (λb=>?_)|refine CB ?_|refine Bf.f g ?_|refine CF (d) ⟨⟨rfl,bI w.Z⟩,trivial⟩ ?_|refine CK (c) (.inl rfl) ?_|refine CB ?_)
    refine CG rfl rfl ?_;exact wC
   rw[CC rfl]
   repeat'(first|refine gB ?_|(conv=>whnf);first|with_reducible refine Bf.E (λb=>?_) (λb=>?_)|refine CB ?_|refine Bf.f g ?_|refine CF (d) ⟨⟨rfl,bI w.Z⟩,trivial⟩ ?_|refine CK (c) (.inl rfl) ?_|refine CB ?_)
   refine CG rfl rfl ?_;exact wC
 rw[C9 J];have k10:a.b5=10:=ω
 have d:=aJ a.N 0 50;by_cases g:0<=a.N/\a.N<=50
 ·rw[CC ⟨k10,g⟩]
  rw[O0 g]at d;obtain⟨n,B⟩:=z3 g.1;have c:=zr w m n h ω;rw[show a.N.toNat=n by omega];rw[<-B]at c
  repeat'(first|refine gB ?_|(conv=>whnf);first|with_reducible refine Bf.E (λb=>?_) (λb=>?_)|refine CB ?_|refine C8 (d) ?_|refine CK (c) (.inl rfl) ?_|refine CB ?_)
  refine CG rfl rfl ?_;exact wC
 rw[C9 (λx=>g x.2)];rw[U0 g]at d
 repeat'(first|refine gB ?_|(conv=>whnf);first|with_reducible refine Bf.E (λb=>?_) (λb=>?_)|refine CB ?_|refine C8 (d) ?_|refine CB ?_)
 refine CG rfl rfl ?_;exact wC
def Do(w:bp)(h1:ac.sml w.Z)(a:aC.sml w.b2):zzA 122 false [.val (some 26) (bp.enc .V w)] .agg (bp.enc .own w):=by
 have b:=BM w.Z h1;have c:=eI w.b2 a;refine fO 10 [(1,5,[3,4,5,6,7])] Tryz.func122 rfl ?_ (.inr (bp.enc_fr _))
 repeat'(first|refine gP ?_|(conv=>whnf);first|refine C8 (b) ?_|refine C8 (c) ?_|refine CB ?_)
 rfl
def BX(c:cG)(acts:List eG)(h:FU c)(d:jo c.a0)(n:∀a∈acts,Mr a)(D:acts.length<=80):zzA 44 false [.val (some 5) (cG.enc .V c),.val none (oY .V acts)] (.tup [some 26,none]) (bp.enc .own (yL c acts acts.length).1++aH .own (yL c acts acts.length).2):=by
 have o:=zy c h;refine fP 42 [(121,[2,0]),(2000005,[6,21,25])] [] Tryz.func44 rfl ?_ (.inr (aW (bp.enc_fr _) (bP _)))
 repeat'(first|refine gE ?_|(conv=>whnf);first|refine C8 (o) ?_|refine Hy.mk rfl rfl rfl ?_)
 (conv=>whnf)
 refine CJ (ι:=Nat) (λi=>[(1,.H .one (oY .V acts)),(4,.H .box [.z,.z,.z,I 0,.z,.z,.z,.z,.z,.z,.z,.z,I 0,.z,I 0,I 0,I 0,I 0,B false,I 0,I 0,.z,I 0,I 0,I 0,.z]),(6,.H .box (rx (yL c acts i).1)),(8,.H .one (aH .own (yL c acts i).2)),(9,.H .one [I ((i:Nat):Int)])]) (λi=>i<=acts.length) (λi=>acts.length - i) (0) ?_ (W0 _) λi p=>?_
 ·repeat'(first|exact trivial|rfl |exact nY q|exact dI _|refine CL ?_ ?_|(exact AS (by first|omega|(simp only;omega)|(simp;omega))))
 have e:=ui h acts i;have b:=HH h acts i;have g:(yL c acts i).2.length=i:=by
  clear e b p
  induction i with
  | zero=>rfl
  | succ k t=>show((yL c acts k).2++[_]).length=_;rw[U3,t];rfl
 by_cases j:i<acts.length
 ·have l:=au j
  have u:=Hb (yL c acts i).1 (nth acts i) i e ω (by unfold rfs at b;rw[b];exact d) (n _ (ar j))
  repeat'(first|refine gE ?_|(conv=>whnf);first|with_reducible refine CD (aa l) ?_|refine CH rfl (aa l) rfl ?_|refine CK (u) (.inl rfl) ?_|refine CU cI (λr d=>by rw[O1.1 d];rfl) (by simp[bi,eg]) (by simp;omega) (by simp only[C1];exact yJ (by simp;omega) (by decide)) rfl ?_)
  ((conv=>whnf);refine CE (i+1) ω ω ?_)
  repeat'(first|exact trivial|rfl| exact dI _ |exact CL rfl (CL (X0 (C.s dQ.own) (by simp[yL,rI])) trivial)|refine CL ?_ ?_|(exact AS (by first|omega|(simp only;omega)|(simp;omega))))
 obtain rfl:i=acts.length:=ω
 have w:=e.fit (by unfold rfs at b;rw[b];exact d);have y:=Do (yL c acts acts.length).1 w.1 (e.ref.sml ω)
 repeat'(first|refine gE ?_|(conv=>whnf);first|refine CF (y) ⟨⟨rfl,Q5 _⟩,trivial⟩ ?_)
 rfl
def Gb(zs:List Int)(c:iC):jo (qR zs c).a0:=by
 show jo (po zs 4 0 [] (DP zs c).2).1;have key:∀(f i:Nat)(out:List Int)(c:iC),(∀x∈out,ng x)->∀x∈(po zs f i out c).1,ng x:=by
  intro f
  induction f with
  | zero=>intro i out c h;exact h
  | succ f b=>
   intro i out c h;unfold po;split
   ·refine b _ _ _ λx a=>?_
    rcases C3.1 a with a|a
    ·exact h x a
    rw[O1.1 a];have:=bJ zs (bw zs c 4).2 (n:=12) (by decide);exact⟨ω,ω⟩
   exact h
 exact⟨by
   have d:∀(f i:Nat)(out:List Int)(c:iC),out.length+f<=4->(po zs f i out c).1.length<=4:=by
     intro f
     induction f with
     | zero=>intro i out c h;exact h
     | succ f b=>
       intro i out c h;unfold po;split
       · exact b _ _ _ (by simp only[U3,List.length_singleton];omega)
       show out.length<=4;omega
   have:=d 4 0 [] (DP zs c).2 (I3 _);omega,key 4 0 [] _ (λx a=>by cases a)⟩
def zk(zs:List Int)(a:jj zs):zzB 59 false [.ptr (iv zs (su zs))] [.ptr (iv zs (l8 zs (dS zs)).2)] .agg (bp.enc .own (drawn zs)):=by
 have b:(su zs).i<=zs.length:=W0 _;obtain⟨g,d⟩:=p6 b;have o:=bJ zs (dS zs) (n:=41) (by decide);obtain⟨p,h,-⟩:=pc (zs:=zs) (c:=dS zs) d (n:=(bw zs (dS zs) 41).1.toNat) ω;have e:=xR zs (su zs) a b;have j:=Dn zs (dS zs) a d;have k:=BX (qR zs (su zs)) (l8 zs (dS zs)).1 g (Gb zs _) h (by show(lf zs (dS zs) _).1.length<=80;omega);have l:drawn zs=(yL (qR zs (su zs)) (l8 zs (dS zs)).1 (l8 zs (dS zs)).1.length).1:=rfl;rw[l];change aK _ _ _ _ [.ptr (iv zs (dS zs))] _ _ at e;generalize qR zs (su zs)=cf at *;generalize r:l8 zs (dS zs)=A at *;generalize t:yL cf A.1 A.1.length=R at *;refine fM 14 [(113,[2]),(114,[2,0])] [] [(0,0)] Tryz.func59 rfl (λu q=>?_) (.inr (bp.enc_fr _))
 repeat'(first|refine gP ?_|(conv=>whnf);first|refine CK (e) (.inl rfl) ?_|refine CK (j) (.inl rfl) ?_|refine CF (k) ⟨⟨rfl,cG.enc_fz _⟩,⟨rfl,Ks _⟩,trivial⟩ ?_)
 refine CG rfl rfl ?_;exact wC
def Rn(z:List Int):List C:=[.s .V (z.map rU)]
def uV(zs:List Int)(b:jj zs):re Tryz.prog 60 true [.val none (Rn zs)] .box (iv zs (su zs)):=by
 have r:=b.1;have e:IntKind.i64.wrap (98801+(zs.length:Nat))=w64 (98801+(zs.length:Nat)):=rfl;have g:ql zs 0=98801+(zs.length:Nat):=by show w64 _=_;rw[<-e];exact fQ ω ω
 have a:=X0 I g;refine Tg (n:=32) (t:=2) (mo:=[]) (tb:=[]) Tryz.func60 (by kernel_rfl) rfl (by kernel_rfl) (by rfl) rfl ?_
 repeat'(first|refine gP ?_|fail)
 (conv=>whnf)
 refine CJ (ι:=Nat) (λi=>[(0,.H .one (Rn zs)),(3,.H .one [I (ql zs i)]),(4,.H .one [I ((i:Nat):Int)])]) (λi=>i<=min zs.length 4000) (λi=>min zs.length 4000 - i) (0) ?_ (W0 _) λi u=>?_
 ·repeat'(first|exact trivial|rfl |exact nY a|exact dI _|refine CL ?_ ?_|(exact AS (by first|omega|(simp only;omega)|(simp;omega))))
 have h:IntKind.i64.wrap (ql zs i*131)=w64 (ql zs i*131):=rfl;have j:IntKind.i64.wrap (w64 (ql zs i*131)+nth zs i)=w64 (w64 (ql zs i*131)+nth zs i):=rfl;have k:IntKind.i64.wrap (w64 (w64 (ql zs i*131)+nth zs i)+7)=w64 (w64 (w64 (ql zs i*131)+nth zs i)+7):=rfl;have l:IntKind.i64.wrap (BitVec.ofInt IntKind.i64.bits (w64 (w64 (w64 (ql zs i*131)+nth zs i)+7)) &&& BitVec.ofInt IntKind.i64.bits 1073741823).toNat=ql zs (i+1):=rfl;by_cases c:i<zs.length/\i<4000
 ·have d:=au c.1
  have w:=b.2 _ (ar c.1);generalize ql zs i=H at *;generalize o:ql zs (i+1)=H2 at *
  repeat'(first|refine gE ?_|(conv=>whnf);first|with_reducible (first|refine CD (aa d) ?_|refine CM h ?_|refine CM j ?_|refine CM k ?_|refine CM l ?_)|refine CH rfl (aa d) rfl ?_)
  ((conv=>whnf);refine CE (i+1) ω ω ?_)
  rw[o];exact wC
 obtain rfl:i=min zs.length 4000:=ω
 have p:su zs = ⟨0,ql zs (min zs.length 4000)⟩:=rfl;rw[p];generalize ql zs (min zs.length 4000)=H at *
 repeat'(first|refine gE ?_|(conv=>whnf);first|with_reducible refine Bf.D (λq=>?_) (λq=>?_))
 all_goals rfl
def xL(zs:List Int)(a:jj zs):zzA 15 false [.val none (Rn zs)] .agg (bp.enc .own (drawn zs)):=by
 have b:=uV zs a;have c:=zk zs a;refine fP 6 [(59,[2])] [] Tryz.func15 rfl ?_ (.inr (bp.enc_fr _))
 repeat'(first|refine gP ?_|(conv=>whnf);first|refine Cl.g b (.inr rfl) ?_|refine CK (c) (.inl rfl) ?_)
 rfl
def cls(h:ac):Int:=h.G.Calls
def Dq(k:am)(p:Int):(newK k p).1.Calls=k.Calls+1:=by unfold newK;split<;>rfl
def FO(k:am)(p:Int):∀n:Nat,(newsK k p n).1.Calls<=k.Calls+n
 | 0=>by show k.Calls<=k.Calls+0;omega
 | n+1=>by
  have a:=FO k p n;unfold newsK;split
  ·refine t5 (z5 (Dq (newsK k p n).1 (p+(n:Nat)))) ?_
   omega
  omega
def MR(h:ac)(i:Nat):cls (iY h i).1=cls h:=by unfold iY;split<;>rfl
def L0(h:ac)(t c:Nat):cls (smallA h t c).1<=cls h+1:=by
 unfold smallA;split
 ·show cls h<=_;omega
 split
 ·show cls h<=_;omega
 split
 ·show cls h<=_;omega
 split
 ·exact z5 (Dq _ _)
 exact z5 ((MR _ _).trans (Dq _ _))
def Pp(h:ac)(t i:Nat):cls (freeT h t i).1=cls h:=by
 unfold freeT;split
 ·exact(kT _ _ _).1
 split
 ·rfl
 split
 ·exact(fe t _ _).2.2.1
 split<;>rfl
def Aa(t:Nat)(h:ac):∀k,cls (flushN t h k).1=cls h
 | 0=>rfl
 | k+1=>((fK _ (spilt (flushN t h k).1 t k)).2.2.1).trans (Aa t h k)
set_option maxHeartbeats 2000000
set_option maxHeartbeats 2000000
set_option maxHeartbeats 2000000
set_option maxHeartbeats 2000000
set_option maxHeartbeats 2000000
set_option maxHeartbeats 2000000
def My(zs:List Int):jo (drawn zs).Z.G.a0:=by
 have a:(su zs).i<=zs.length:=W0 _;have:=HH (p6 a).1 (l8 zs (dS zs)).1 (l8 zs (dS zs)).1.length;unfold rfs at this;show jo (yL _ _ _).1.Z.G.a0;rw[this];exact Gb zs _
def KC(zs:List Int):ac.sml (drawn zs).Z/\ac.wf (drawn zs).Z:=(y8 zs).fit (My zs)
def RE(zs:List Int)(a:zs.length<=9223372036854775807):zzA 14 false [.val none (Rn zs)] .one [B (decide ((zs.length:Int) > 1048576))]:=by
 refine fO 6 [] Tryz.func14 rfl ?_
 repeat'(first|refine gP ?_|fail)
 rfl
def jb(sp:List aA)(ps:List Int)(b:Int):Nat->Int
 | 0=>b
 | j+1=>if(nth sp j).Q∈ps then bor (jb sp ps b j) (nth sp j).a9 else jb sp ps b j
def x8{sp:List aA}(h:∀s∈sp,bh s=true){ps:List Int}{b:Int}(a:0<=b/\b<=65535):∀j,j<=sp.length->0<=jb sp ps b j/\jb sp ps b j<=65535
 | 0,_=>a
 | j+1,d=>by
  have c:=x8 h (ps:=ps) a j ω;simp only[jb];split
  ·exact Gw c (lW h ω)
  exact c
def qx(h:ac)(i:Nat)(n:d9 h.J)(c:xF h)(a:∀s∈h.J,bh s=true)(t:i<h.J.length):zzA 336 false [.val (some 24) (ac.enc .V h),.val none [I (i:Nat)]] .one [I (jb h.J (aU h (nth h.J i).Q) (nth h.J i).a9 h.J.length)]:=by
 have C:=n.1;have u:=au t;have d:=lW a t;have w:=aO ((i:Nat):Int) 0 ((h.J.length:Int) - 1);rw[O0 (show(0:Int)<=(i:Nat)/\((i:Nat):Int)<=(h.J.length:Int) - 1 by omega)]at w;have y:=ot h (nth h.J i).Q c;have o:=gg h (nth h.J i).Q;have D:eX h<=1048576:=c.1;obtain⟨ps,p⟩ : ∃ps,aU h (nth h.J i).Q=ps:=⟨_,rfl⟩
 obtain⟨b,q⟩ : ∃b,(nth h.J i).a9=b:=⟨_,rfl⟩
 rw[p]at y o |-;rw[q]at d |-;have E:jb h.J ps b 0=b:=rfl;refine fO 47 [(4,7,[22,23,24,25,26,27,28])] Tryz.func336 rfl ?_
 repeat'(first|refine gP ?_|(conv=>whnf);first|with_reducible refine CD (aa u) ?_|refine C8 (w) ?_|refine C8 (y) ?_|refine CH rfl (aa u) rfl ?_)
 (conv=>whnf)
 refine CJ (ι:=Nat) (λj=>[(5,.H .one [I (jb h.J ps b j)]),(6,.H .one (aH .own ps)),(31,.H .one (cA .V h.J)),(32,.H .one [I ((h.J.length:Nat))]),(33,.H .one [I ((j:Nat):Int)])]) (λj=>j<=h.J.length) (λj=>h.J.length - j) (0) ?_ (W0 _) λj F=>?_
 ·exact wC
 by_cases B:j<h.J.length
 ·have k:=au B
  have r:=x8 a (ps:=ps) d j F;have l:=qT ps (nth h.J j).Q ω;by_cases e:(nth h.J j).Q∈ps
  ·have g:jb h.J ps b (j+1)=bor (jb h.J ps b j) (nth h.J j).a9:=CC e
   rw[O0 e]at l
   repeat'(first|refine gE ?_|(conv=>whnf);first|with_reducible refine CD (aa k) ?_|refine CH rfl (aa k) rfl ?_|refine CM (or64 r (lW a B)) ?_|refine CF (l) ⟨⟨rfl,dR _⟩,⟨rfl,rfl⟩,trivial⟩ ?_)
   ((conv=>whnf);refine CE (j+1) ω ω ?_;(exact wC))
  have g:jb h.J ps b (j+1)=jb h.J ps b j:=C9 e;rw[U0 e]at l
  repeat'(first|refine gE ?_|(conv=>whnf);first|with_reducible refine CD (aa k) ?_|refine CH rfl (aa k) rfl ?_|refine CF (l) ⟨⟨rfl,dR _⟩,⟨rfl,rfl⟩,trivial⟩ ?_)
  ((conv=>whnf);refine CE (j+1) ω ω ?_;(exact wC))
 obtain rfl:j=h.J.length:=ω
 repeat'(first|refine gE ?_|fail)
 rfl
def Pt(a b:Int)(k:Nat):(bor a b).toNat.testBit k=true↔a.toNat.testBit k=true\/b.toNat.testBit k=true:=by
 unfold bor;rw[Z2,Nat.testBit_or,O6]
def J0(sp:List aA)(p b:Int)(k:Nat):∀j,(oM sp p b j).toNat.testBit k=true↔b.toNat.testBit k=true\/∃i,i<j/\(nth sp i).Q=p/\(nth sp i).a9.toNat.testBit k=true
 | 0=>by simp[oM]
 | j+1=>by
  have g:=J0 sp p b k j;simp only[oM];split
  ·rename_i e
   rw[Pt,g];constructor
   ·rintro((h|⟨i,d,a,c⟩)|h)
    ·exact .inl h
    ·exact .inr ⟨i,ω,a,c⟩
    exact .inr ⟨j,ω,e,h⟩
   rintro(h|⟨i,d,a,c⟩)
   ·exact .inl (.inl h)
   by_cases f:i=j
   ·subst f;exact .inr c
   exact .inl (.inr ⟨i,ω,a,c⟩)
  rename_i e;rw[g];constructor
  ·rintro(h|⟨i,d,a,c⟩)
   ·exact .inl h
   exact .inr ⟨i,ω,a,c⟩
  rintro(h|⟨i,d,a,c⟩)
  ·exact .inl h
  by_cases f:i=j
  ·subst f;exact absurd a e
  exact .inr ⟨i,ω,a,c⟩
def Fs(sp:List aA)(ps:List Int)(b:Int)(k:Nat):∀m,(ig sp ps b m).toNat.testBit k=true↔b.toNat.testBit k=true\/∃u,u<m/\∃i,i<sp.length/\(nth sp i).Q=nth ps u/\(nth sp i).a9.toNat.testBit k=true
 | 0=>by simp[ig]
 | m+1=>by
  have c:=Fs sp ps b k m;simp only[ig];rw[J0,c];constructor
  ·rintro((h|⟨u,d,a⟩)|h)
   ·exact .inl h
   ·exact .inr ⟨u,ω,a⟩
   exact .inr ⟨m,ω,h⟩
  rintro(h|⟨u,d,a⟩)
  ·exact .inl (.inl h)
  by_cases e:u=m
  ·subst e;exact .inr a
  exact .inl (.inr ⟨u,ω,a⟩)
def Eb(sp:List aA)(ps:List Int)(b:Int)(k:Nat):∀j,(jb sp ps b j).toNat.testBit k=true↔b.toNat.testBit k=true\/∃i,i<j/\(nth sp i).Q∈ps/\(nth sp i).a9.toNat.testBit k=true
 | 0=>by simp[jb]
 | j+1=>by
  have g:=Eb sp ps b k j;simp only[jb];split
  ·rename_i e
   rw[Pt,g];constructor
   ·rintro((h|⟨i,d,a,c⟩)|h)
    ·exact .inl h
    ·exact .inr ⟨i,ω,a,c⟩
    exact .inr ⟨j,ω,e,h⟩
   rintro(h|⟨i,d,a,c⟩)
   ·exact .inl (.inl h)
   by_cases f:i=j
   ·subst f;exact .inr c
   exact .inl (.inr ⟨i,ω,a,c⟩)
  rename_i e;rw[g];constructor
  ·rintro(h|⟨i,d,a,c⟩)
   ·exact .inl h
   exact .inr ⟨i,ω,a,c⟩
  rintro(h|⟨i,d,a,c⟩)
  ·exact .inl h
  by_cases f:i=j
  ·subst f;exact absurd a e
  exact .inr ⟨i,ω,a,c⟩
def N7{sp:List aA}(h:∀s∈sp,bh s=true){ps:List Int}{b:Int}(f:0<=b/\b<=65535):jb sp ps b sp.length=ig sp ps b ps.length:=by
 have a:=x8 h (ps:=ps) f sp.length (I3 _);have c:=ll h (ps:=ps) f ps.length;have e:(jb sp ps b sp.length).toNat=(ig sp ps b ps.length).toNat:=by
  apply Nat.eq_of_testBit_eq;intro k;rw[Y4,Eb,Fs];constructor
  ·rintro(h|⟨i,a,c,d⟩)
   ·exact .inl h
   obtain⟨u,g⟩:=List.getElem?_of_mem c;exact .inr ⟨u,(U2.1 g).1,i,a,(bn g).symm,d⟩
  rintro(h|⟨u,a,i,c,d,j⟩)
  ·exact .inl h
  exact .inr ⟨i,c,by rw[d];exact ar a,j⟩
 omega
variable{i:Nat}
def v7{h:ac}(a:∀s∈h.J,bh s=true)(b:i<h.J.length):jb h.J (aU h (nth h.J i).Q) (nth h.J i).a9 h.J.length=dE h i:=N7 a (lW a b)
def pi(h:ac)(a:∀o∈h.O,0<=o.q/\o.q<=1000)(e:h.O.length<=1048576):zzA 18 false [.val (some 24) (ac.enc .V h)] .one [I (gH h)]:=by
 refine fO 19 [] Tryz.func18 rfl ?_
 repeat'(first|refine gP ?_|fail)
 (conv=>whnf)
 refine CJ (ι:=Nat) (λk=>[(3,.H .one [I (rF h.O k)]),(7,.H .one (nA .V h.O)),(8,.H .one [I (h.O.length)]),(9,.H .one [I ((k:Nat):Int)])]) (λk=>k<=h.O.length) (λk=>h.O.length - k) (0) ?_ (W0 _) λk d=>?_
 ·exact wC
 have g:=kO a k d;by_cases b:k<h.O.length
 ·have c:=au b
  have i:=a _ (ar b)
  repeat'(first|refine gE ?_|(conv=>whnf);first|refine CD (aa c) ?_|refine CH rfl (aa c) rfl ?_)
  ((conv=>whnf);refine CE (k+1) ω ω ?_;(exact wC))
 obtain rfl:k=h.O.length:=ω
 repeat'(first|refine gE ?_|fail)
 rfl
def pk(k b:Int)(e:b<=9223372036854775807):zzA 334 false [.val none [I (slots k)],.val none [I b]] .one (aH .own (n7 k b)):=by
 have c:=qL k b;have n:0<=slots k/\slots k<=16:=by unfold slots;repeat' split<;>omega
 unfold n7;cases g:KH k b<;>rw[g]at c
 ·rw[C9 (by simp)]
  refine fO 26 [] Tryz.func334 rfl ?_ (.inr (bP _))
  repeat'((conv=>whnf);first|with_reducible (first|refine Lm ?_|refine Wm ω ?_|refine Bn ?_|refine jX.wk rfl ?_)|refine Bt ?_|refine Bu ?_|refine C8 (c) ?_)
  all_goals exact⟨rfl,trivial⟩
 rw[CC rfl];refine fO 26 [] Tryz.func334 rfl ?_ (.inr (bP _))
 repeat'(first|refine gP ?_|(conv=>whnf);first|refine C8 (c) ?_)
 (conv=>whnf)
 refine CJ (ι:=Nat) (λj=>[(0,.H .one [I (slots k)]),(1,.H .one [I (b)]),(5,.H .one (aH .own (lD b j))),(6,.H .one [I ((j:Nat):Int)])]) (λj=>j<=(slots k).toNat) (λj=>(slots k).toNat - j) (0) ?_ (W0 _) λj o=>?_
 ·exact wC
 have h:=pU b j;by_cases p:j<(slots k).toNat
 ·have d:=nC b (j:Nat) e
  have a:lD b (j+1)=if aZ b (j:Nat)=true then lD b j else lD b j++[((j:Nat):Int)]:=rfl
  cases i:aZ b (j:Nat)<;>rw[i]at d a
  ·rw[C9 (by simp)]at a
   repeat'(first|refine gE ?_|(conv=>whnf);first|refine C8 (d) ?_|refine CU cI (λr l=>by rw[O1.1 l];rfl) (by simp[bi,eg]) (by simp;omega) (by simp only[C1];exact yJ (by simp;omega) (by decide)) rfl ?_)
   ((conv=>whnf);refine CE (j+1) ω ω ?_)
   rw[a]
   repeat'(first|exact trivial|rfl| exact dI _ |exact CL rfl (CL (X0 (C.s dQ.own) (by simp[rI])) trivial)|refine CL ?_ ?_|(exact AS (by first|omega|(simp only;omega)|(simp;omega))))
  rw[CC rfl]at a
  repeat'(first|refine gE ?_|(conv=>whnf);first|refine C8 (d) ?_)
  ((conv=>whnf);refine CE (j+1) ω ω ?_)
  rw[a];exact wC
 obtain rfl:j=(slots k).toNat:=ω
 repeat'(first|refine gE ?_|fail)
 rfl
def zI(b i:Int)(d:0<=b/\b<=65535)(a:0<=i/\i<=15):zzA 338 false [.val none [I b],.val none [I i]] .one [I (gl b i)]:=by
 have c:=tG b i;rw[O0 ω]at c;have e:=(or64 (z1:=b) (z2:=2 ^ i.toNat) d (by have:=shl64 a;omega)).trans (zU b i);refine fO 14 [] Tryz.func338 rfl ?_
 repeat'(first|refine gP ?_|(conv=>whnf);first|refine C8 (c) ?_|refine CO ω ?_|refine CM (shl64 a).1 ?_|refine CM e ?_)
 rfl
def Bc(f:aX)(i:Nat):aX.enc .own ⟨f.T,f.a5.set i true⟩ = [.s .own (f.T.map (aH .own)),.s .own ((f.a5.map (rB .own)).set i (rB .own true))]:=by
 simp[aX.enc,I6]
def vw(f:aX):aX × Int × Bool:=
 if cW (λu=>!u) f.a5<0 then(f,-1,false) else(⟨f.T,f.a5.set (cW (λu=>!u) f.a5).toNat true⟩,cW (λu=>!u) f.a5,true)
def wE(f:aX)(l:dt f=true)(b:aX.sml f):zzA 460 false [.val (some 2) (aX.enc .V f)] (.tup [some 2,none,none]) (aX.enc .own (vw f).1++[I (vw f).2.1,B (vw f).2.2]):=by
 have n:=oA f b;have h:=qC f b;rw[l]at h;have p:f.a5.length<=1048576:=b.2;refine fO 30 [] Tryz.func460 rfl ?_ (.inr (aW (aX.enc_fr _) ⟨trivial,trivial,trivial⟩))
 repeat'(first|refine gP ?_|(conv=>whnf);first|refine C8 (n) ?_|refine C8 (h) ?_)
 (conv=>whnf)
 refine CJ (ι:=Nat) (λi=>[(2,.H .box [.z,.z]),(5,.H .box (aX.enc .own f)),(13,.H .one (wS .V f.a5)),(14,.H .one [I (f.a5.length)]),(15,.H .one [I ((i:Nat):Int)])]) (λi=>i<=f.a5.length/\∀(j:Nat)(z:Bool),j<i->f.a5[j]? = some z->(!z)=false) (λi=>f.a5.length - i) (0) ?_ (⟨W0 _,λj z q=>ω⟩) λi k=>?_
 ·exact wC
 obtain⟨k,c⟩:=k;by_cases o:i<f.a5.length
 ·have a:=au o
  cases e:nth f.a5 i<;>rw[e]at a
  ·have d:cW (λu=>!u) f.a5=(i:Nat):=dN a rfl c
   have g:vw f=((⟨f.T,f.a5.set i true⟩ : aX),((i:Nat):Int),true):=by unfold vw;rw[d,C9 ω];rfl
   rw[g];simp only;rw[Bc]
   repeat'(first|refine gE ?_|(conv=>whnf);first|with_reducible refine CD (aa a) ?_|refine CP rfl rfl (aa a) rfl (I1 rfl) rfl ?_)
   rfl
  repeat'(first|refine gE ?_|(conv=>whnf);first|with_reducible refine CD (aa a) ?_)
  ((conv=>whnf);refine CE (i+1) ⟨ω,dX a rfl c⟩ ω ?_;(exact wC))
 have d:cW (λu=>!u) f.a5 = -1:=gc ω c;have g:vw f=(f,-1,false):=by unfold vw;rw[d];rfl
 rw[g]
 repeat'(first|refine gE ?_|fail)
 rfl
variable{r:List C}{k:Nat}{rows:List (List C)}{w:World}
def dG.fzAt{S F:ah}{o:dQ}{v:Value}(h:dG w S F (.s o rows) v)(ho:o≠.V)(D:rows[k]? = some r) :
  ∃V:ah,(∀b q,V b q->F b q)/\dG w (λb q=>S b q\/V b q) (λb q=>F b q/\¬V b q) (.s o (rows.set k (dJ r))) v:=by
 cases h with
 | nil=>simp at D
 | V=>exact absurd rfl ho
 | own _ _ g K n O _ u f P Q M E G X hu N Y Z=>
  have A:k<n:=by have:=(U2.1 D).1;omega
  have hq:∀j,j<K->(k*K+j) / K=k:=λj a=>by
   rw[Nat.mul_comm,Nat.mul_add_div ω,Nat.div_eq_of_lt a,Nat.add_zero]
  refine⟨λb q=>∃j,j<K/\f (k*K+j) b q,λb q ⟨j,a,l⟩=>(N _ (dD A a) b q l).1,?_⟩;refine .own _ o g K n O _ u (λq=>if q / K=k then NO else f q) P (by simpa using Q) (λr' R=>?_) E G (λq d=>⟨⟨(X q d).1,λ⟨j,a,l⟩=>(N _ (dD A a) _ _ l).2 ⟨rfl,d⟩⟩,(X q d).2⟩) hu (λq d b y l=>?_) (λq T h1 h2 h3 b y H J=>?_) (λi j r' c L a=>?_)
  ·rcases V6 R with h|rfl
   ·exact M _ h
   rw[bX,C1];exact M _ (C2 D)
  ·replace l:(if q / K=k then NO else f q) b y:=l
   split at l
   ·exact l.elim
   rename_i B;refine⟨⟨(N q d b y l).1,λ⟨j,a,U⟩=>Y q (k*K+j) d (dD A a) (λe=>B (by rw[e];exact hq j a)) b y l U⟩,(N q d b y l).2⟩
  ·replace H:(if q / K=k then NO else f q) b y:=H
   replace J:(if T / K=k then NO else f T) b y:=J;split at H
   ·exact H.elim
   split at J
   ·exact J.elim
   exact Y q T h1 h2 h3 b y H J
  by_cases e:i=k
  ·subst e
   have W:(rows.set i (dJ r))[i]? = some (dJ r):=by
    rw[X3 ω]
   rw[W]at L;obtain rfl:=Option.some.inj L;rw[bX,O3]at a;cases p:r[j]? with
   | none=>rw[p]at a;cases a
   | some c'=>
    rw[p]at a;simp only[I5,Z0]at a;subst a;have t:=(rh Q M D p).2;show dG w _ (if(i*K+j) / K=i then NO else f (i*K+j)) _ _;rw[CC (hq j t)];exact(Z i j r c' D p).freeze.mono (λb o h=>h.elim .inl λh=>.inr ⟨j,t,h⟩) (λ_ _ h=>h)
  rw[List.getElem?_set_ne ω]at L;have t:=(rh Q M L a).2;have B:¬(i*K+j) / K=k:=by
   rw[Nat.mul_comm,Nat.mul_add_div ω,Nat.div_eq_of_lt t,Nat.add_zero];exact e
  show dG w _ (if(i*K+j) / K=k then NO else f (i*K+j)) _ _;rw[C9 B];exact(Z i j r' c L a).mono (λ_ _ h=>.inl h) (λ_ _ h=>h)
variable{u:Nat->Value}
def cL.fzAt{S F:ah}{cs:List C}(h:cL w S F cs u){off:Nat}{o:dQ}(B:cs[off]? = some (.s o rows))(G:o≠.V)(H:rows[k]? = some r) :
  ∃V:ah,(∀b q,V b q->F b q)/\cL w (λb q=>S b q\/V b q) (λb q=>F b q/\¬V b q) (cs.set off (.s o (rows.set k (dJ r)))) u:=by
 obtain⟨f,D,y,t⟩:=h;have i:=(U2.1 B).1;obtain⟨V,E,J⟩:=(D off _ B).fzAt G H;refine⟨V,λb q A=>y off i b q (E b q A),λj=>if j=off then(λb q=>f off b q/\¬V b q) else f j,λj c g=>?_,λj g b q d=>?_,λj p g l n b q d a=>?_⟩
 ·by_cases e:j=off
  ·subst e
   rw[X3 i]at g;obtain rfl:=Option.some.inj g;simpa using J
  rw[List.getElem?_set_ne ω]at g;show dG w _ (if j=off then _ else f j) _ _;rw[C9 e];exact(D j c g).mono (λ_ _ h=>.inl h) (λ_ _ h=>h)
 ·rw[U1]at g
  replace d:(if j=off then(λb q=>f off b q/\¬V b q) else f j) b q:=d;split at d
  ·exact⟨y off i b q d.1,d.2⟩
  rename_i e;exact⟨y j g b q d,λA=>t j off g i e b q d (E b q A)⟩
 rw[U1]at g l;replace d:(if j=off then(λb q=>f off b q/\¬V b q) else f j) b q:=d;replace a:(if p=off then(λb q=>f off b q/\¬V b q) else f p) b q:=a;split at d
 ·rename_i e
  rw[C9 ω]at a;exact t j p g l n b q (e ▸ d.1) a
 split at a
 ·rename_i e
  exact t j p g l n b q d (e ▸ a.1)
 exact t j p g l n b q d a
variable{rcs:List C}{f:Nat}{P:Program}
def ay.fzAt{sh:Bool}{A:List RA}{k:Kd}(h:ay P f sh A k rcs){off:Nat}{o:dQ}(g:rcs[off]? = some (.s o rows))(i:o≠.V){j:Nat}(l:rows[j]? = some r) :
  ay P f sh A k (rcs.set off (.s o (rows.set j (dJ r)))):=by
 obtain⟨n,p⟩:=h;refine⟨n,λw S t u y=>(p w S t u y).mono λe w1 B=>?_⟩;obtain⟨v,D,E,X,M,d,F,G,H,J⟩:=B;obtain⟨V,K,L⟩:=J.fzAt g i l;refine⟨v,D,E,_,_,λb q c=>d b q c.1,λb q c=>?_,λb q c a=>?_,by rw[U1];exact H,L⟩
 ·rcases c with c|c
  ·exact F b q c
  exact .inr (d b q (K b q c))
 rcases a with a|a
 ·exact G b q c.1 a
 exact c.2 a
def aK.noS{A B:List MA}{k:Kd}(h:aK P f true A B k rcs)(d:∀(w:World)(S:ah)(V:Nat->ah)(vs:List Value),JM w S V A vs->JM w NO V A vs):aK P f false A B k rcs:=by
 obtain⟨g,j⟩:=h;refine⟨g,λw S V vs M l c n=>(j w NO V vs (λ_ _ h=>h.elim) (λi b o a=>⟨(l i b o a).1,λh=>h.elim⟩) c (d w S V vs n)).mono λe w1 p=>?_⟩;obtain⟨v,q,r,X,t,u,y,D,E,F,G,H,J,K,L,a10⟩:=p;exact⟨v,q,r,X,t,u,y,D,λb o a=>(E b o a).elim (λh=>h.2.elim) .inr,F,G,H,J,K,L,a10.mono λb o a=>a.elim (λh=>h.elim) .inr⟩
def TU(c:aE)(k:Nat):List C:=if 0<(nth c.a k).length then [.s .own ((c.a.map (aH .own)).set k (aH .V ((nth c.a k).take ((nth c.a k).length - 1)))),I (nth (nth c.a k) ((nth c.a k).length - 1)),B true] else aE.enc .own c++[I (-1),B false]
def xv(c:aE)(k:Nat)(r:b6 c=true)(P:k<=3):zzB 186 false [.mut (some 1) (aE.enc .own c),.val none [I (k:Nat)]] [.mut (some 1) (aE.enc .own c),.val none [I (k:Nat)]] (.tup [some 1,none,none]) (TU c k):=by
 obtain⟨Q,t⟩:=eH r;have d:aE.sml c:=⟨ω,λl C=>by have:=t l C;show l.length<=1048576;omega⟩
 have e:=HF c k d;rw[r,O0 ω]at e;have a:=qj (c:=c) (k:=k) ω;have D:=t _ (ar (xs:=c.a) (i:=k) ω);refine aK.noS ?_ λw S V E F=>?_
 case refine_2=>
  match E,F with
  | [v,R],⟨⟨G,u,H,J⟩,⟨K,L,M,N⟩,_⟩=>
   exact⟨⟨G,u,H,J.fresh (aE.enc_fr c)⟩,⟨K,L,M,N.fresh ⟨trivial,trivial⟩⟩,trivial⟩
 unfold TU;by_cases y:0<(nth c.a k).length
 ·rw[CC y]
  have g:zzA 182 false [.val (some 1) (aE.enc .V c)] .agg [.s .own ((c.a.map (aH .own)).set k (aH .V (nth c.a k)))]:=by
   have h:=(kX c d).fzAt (off:=0) (o:=.own) (rows:=c.a.map (aH .own)) rfl (by simp) (j:=k) (aa a);rw[dR]at h;exact h
  have n:((c.a.map (aH .own)).set k (aH .V (nth c.a k)))[k]? = some (aH .V (nth c.a k)):=X3 (by rw[C1];omega);have B:=au (xs:=nth c.a k) (i:=(nth c.a k).length - 1) ω;have b:(nth c.a k)[(((nth c.a k).length:Int) - 1).toNat]? = some (nth (nth c.a k) ((nth c.a k).length - 1)):=by rw[show(((nth c.a k).length:Int) - 1).toNat=(nth c.a k).length - 1 by omega];exact B
  have p:((((nth c.a k).length:Nat):Int) - 1)=(((nth c.a k).length - 1:Nat):Int):=ω
  have O:((c.a.map (aH .own)).set k (aH .V (nth c.a k))).set k (aH .V ((nth c.a k).take ((nth c.a k).length - 1)))=(c.a.map (aH .own)).set k (aH .V ((nth c.a k).take ((nth c.a k).length - 1))):=List.set_set ..;rw[<-O];refine fM 54 [] [(6,10,[41,42,43,44,45,46,47,48,49,50])] [(2,0),(0,0)] Tryz.func186 rfl (λu q=>?_) (.inl rfl)
  repeat'(first|refine gB ?_|(conv=>whnf);first|with_reducible refine CD (aa a) ?_|refine CH rfl (aa a) rfl ?_|refine CH rfl n rfl ?_|refine CF (e) ⟨⟨rfl,Ce c⟩,⟨rfl,rfl⟩,trivial⟩ ?_|refine CF (g) ⟨⟨rfl,Ce c⟩,trivial⟩ ?_|refine CN ω (aa b) ?_|refine CD (aa B) ?_|refine CD n ?_|refine Rw.two rfl (aa a) rfl rfl (aa b) rfl ?_|refine CY ((nth c.a k).length - 1) p (by rw[C1];omega) (aV λ_=>rfl) (MX _ _) ?_|refine CB ?_|refine CP rfl rfl n rfl (I1 rfl) rfl ?_)
  refine CG rfl rfl ?_;exact wC
 rw[C9 y];have g:=kX c d;refine fM 54 [] [(6,10,[41,42,43,44,45,46,47,48,49,50])] [(2,0),(0,0)] Tryz.func186 rfl (λu q=>?_) (.inl rfl)
 repeat'(first|refine gB ?_|(conv=>whnf);first|with_reducible refine CD (aa a) ?_|refine CH rfl (aa a) rfl ?_|refine CF (e) ⟨⟨rfl,Ce c⟩,⟨rfl,rfl⟩,trivial⟩ ?_|refine CF (g) ⟨⟨rfl,Ce c⟩,trivial⟩ ?_)
 refine CG rfl rfl ?_;exact wC
set_option maxRecDepth 100000
def Hf:∀w,(zeroValue 180).run Tryz.prog w=.ok (.agg #[.int .i64 0,.int .i64 0]) w:=λ_=>by kernel_rfl
def DW:Nm Tryz.prog 458 2:=by
 refine⟨⟨_,Tryz.func458,by kernel_rfl,by kernel_rfl⟩,λw g n c i news r y o B C b=>?_⟩;obtain⟨A,X,a⟩:=PO o y r B;have a:Hid (∀t u,news[t]? = some u->w.drew.cell? (A.add t)=some u):=a;have T:Hid (news.length=(n - (i+1))*2):=o;have Y:Hid (∀u∈news,u.oneCell'=true):=C;have Z:Hid (∀t,t<news.length->(w.drew.cell? ⟨g,0+i*2+t,none⟩).isSome=true/\w.drew.frozen? ⟨g,0+i*2+t,none⟩ = false):=λt ht=>by
  rw[Z6];exact b (i*2+t) ω
 obtain⟨p,d⟩ : ∃p,p=w.drew.setCells g (0+i*2) news:=⟨_,rfl⟩
 have K:∀q,q<n*2->(p.cell? ⟨g,q,none⟩).isSome=true/\p.frozen? ⟨g,q,none⟩ = false:=λq U=>by
  have D:∀j,j<news.length->∃z,cel w.drew g (0+i*2+j)=some z:=λj L=>by
   have:=(b (0+i*2+j) ω).1;exact Option.isSome_iff_exists.1 this
  refine⟨?_,by rw[d];exact(X0 Prod.fst (co g _ news w.drew g q)).trans (b q U).2⟩;rw[d];by_cases h:0+i*2<=q/\q<0+i*2+news.length
  ·have:=bK D (O2 (show q - (0+i*2)<news.length by omega))
   rw[show 0+i*2+(q - (0+i*2))=q by omega]at this;show(cel _ g q).isSome=true;rw[this];rfl
  show(cel _ g q).isSome=true;rw[bm (λx=>h x.2)];exact(b q U).1
 obtain⟨M,E,F,G⟩:=Q6 (P:=Tryz.prog) p 36 180 2 (.agg #[.int .i64 0,.int .i64 0]) Tryz.underlying36 Hf rfl (by intro v V;simp[Value.cells]at V;subst V;rfl) g ((i+(n - (i+1)))*2) (n - (i+(n - (i+1)))) ω (by decide) (λj L=>(K _ ω).1) (λj L=>(K _ ω).2);have k:Hid (M.length=(n - (i+(n - (i+1))))*2):=E;have H:Hid (∀v∈M,v.oneCell'=true):=F;have W:Hid (p=w.drew.setCells g (0+i*2) news):=d;have hic:i<=c:=ω
 have N:i+1<=c:=ω
 have O:¬i=i+1:=ω
 have Q:i+1<=n:=r;have l:n - 1=i+(n - (i+1)):=ω
 clear d K b B C o E F;rw[l];generalize L:i+1=j at X a T G k N O Q l |-;obtain⟨J,R,S⟩ : ∃J,Tryz.prog.info? 180=some J/\J.size=2:=by
  have h:=(qK 180 _ rfl).1;cases e : Tryz.prog.info? 180 with
  | none=>rw[e]at h;cases h
  | some x=>rw[e]at h;simp only[I5,Z0,Prod.mk.injEq]at h;exact⟨x,rfl,h.2.1⟩
 have mixed : Tryz.prog.follows .mixedOrders=true:=by kernel_rfl
 go_enter Tryz.func458,Tryz.ntmps458
 go_wp2_with fail
 go_region_law_o (refine step_append_room rfl (.tmp 22) (.tmp 25) 36 rfl 180 J 2 Tryz.underlying36 R S g 0 i c (by simp[Act.eval,Act.put]) A (n - j) (c - j) news (by simp[Act.eval,Act.put]) T.out a.out Y.out ω Z.out ?_;rw[<-W.out])
 go_wp2
 go_ret
 refine⟨rfl,M,by have:=k.out;omega,H.out,?_⟩;rw[W.out,Z6]
def BG(xs:List aB)(i:Nat)(a:i<xs.length):zzB 458 false [.mut none [.s .own (xs.map (aB.enc .own))],.val none [I (i:Nat)],.val none [I ((i+1:Nat):Int)]] [.mut none [.x],.val none [I (i:Nat)],.val none [I ((i+1:Nat):Int)]] .one [oE ((dele xs i).map (aB.enc .own))]:=by
 have h:=R7 DW (rows:=xs.map (aB.enc .own)) (i:=i) (by rw[C1];exact a) (aV λ_=>rfl) (bj _ _ λx _=>aB.enc_fr x)
 rwa [show dele (xs.map (aB.enc .own)) i=(dele xs i).map (aB.enc .own) by simp[dele,C4,I4]]at h
variable{α:Type}
def NP(xs:List α)(b:Nat)(y:α):dele (xs.set b y) b=dele xs b:=by
 unfold dele;rw[List.take_set_of_le (I3 b),List.drop_set_of_lt (Nat.lt_succ_self b)]
def sX(k:am)(p:Int)(c:aF k=true)(w:k.Calls≠100000)(n:0<=p/\p<k.F.R.K.length)(y:(nth k.F.R.K p.toNat).e=0):zzA 341 false [.val (some 5) (am.enc .V k),.val none [I p]] (.tup [some 5,none]) (am.enc .own (newK k p).1++[B (newK k p).2]):=by
 have h:=bE c;have C:=(aG.1 c).2.2.2;have D:=(bu.1 (aG.1 c).2.2.1).2.2;have d:=sj k h;rw[c,O0 w]at d;have g:=BN k h ⟨ω,ω⟩;have a:=wE k.F.W (aG.1 c).2.1 h.1.1;have j:af k.F.R p=nth k.F.R.K p.toNat:=by unfold af;exact CC n
 have o:=aO p 0 ((k.F.R.K.length:Int) - 1);rw[O0 ω]at o;have q:=pm k p h.1.2;rw[j,y,U0 (by decide)]at q;have r:=au (xs:=k.F.R.K) (i:=p.toNat) ω;unfold vw at a;unfold newK;cases e:refd k<;>rw[e]at g
 ·by_cases b:o7 k<0
  ·rw[CC (.inr b)]
   rw[CC (show cW (λu=>!u) k.F.W.a5<0 from b)]at a;simp only at a;refine fO 64 [] Tryz.func341 rfl ?_ (.inr (aW (Cf _) ⟨trivial,trivial⟩))
   repeat'(first|refine gP ?_|(conv=>whnf);first|refine C8 (d) ?_|refine C8 (g) ?_|refine C8 (a) ?_)
   rfl
  rw[C9 (by simp[b])];rw[C9 (show ¬cW (λu=>!u) k.F.W.a5<0 from b)]at a;simp only at a;obtain⟨f,t⟩:=z3 (show 0<=o7 k by omega);have l:cW (λu=>!u) k.F.W.a5=(f:Nat):=t;rw[l]at a;rw[t];simp only[Z2]at a |-;rw[Bc]at a;rw[xY];refine fO 64 [] Tryz.func341 rfl ?_ (.inr (aW (by rw[<-xY];exact Cf _) ⟨trivial,trivial⟩))
  repeat'(first|refine gP ?_|(conv=>whnf);first|refine C8 (d) ?_|refine C8 (g) ?_|refine C8 (a) ?_|refine C8 (o) ?_|refine C8 (q) ?_|refine CN n.1 (aa r) ?_|refine CP rfl rfl (aa r) rfl (I1 rfl) rfl ?_)
  rfl
 rw[CC (.inl rfl)];by_cases b:o7 k<0
 ·rw[CC (show cW (λu=>!u) k.F.W.a5<0 from b)]at a
  simp only at a;refine fO 64 [] Tryz.func341 rfl ?_ (.inr (aW (Cf _) ⟨trivial,trivial⟩))
  repeat'(first|refine gP ?_|(conv=>whnf);first|refine C8 (d) ?_|refine C8 (g) ?_|refine C8 (a) ?_)
  rfl
 rw[C9 (show ¬cW (λu=>!u) k.F.W.a5<0 from b)]at a;simp only at a;refine fO 64 [] Tryz.func341 rfl ?_ (.inr (aW (Cf _) ⟨trivial,trivial⟩))
 repeat'(first|refine gP ?_|(conv=>whnf);first|refine C8 (d) ?_|refine C8 (g) ?_|refine C8 (a) ?_)
 rfl
def Tl(xs:List aB)(n:Int):List C:=(if(ax xs n).2.2=true then [oE ((ax xs n).1.map (aB.enc .own))] else bv .own xs)++[I (ax xs n).2.1,B (ax xs n).2.2]
def Rf(xs:List aB)(n:Int):hC (Tl xs n):=by
 unfold Tl;split
 ·exact aW ⟨R4 (i6 _).1.2,trivial⟩ ⟨trivial,trivial,trivial⟩
 exact aW (i6 _) ⟨trivial,trivial,trivial⟩
def AW(xs:List aB)(b:Nat)(y:aB):(xs.set b y).map (aB.enc .own)=(xs.map (aB.enc .own)).set b [I y.At,I y.a8]:=by rw[I6];rfl
def xm(pages:Int)(xs:List aB)(n:Int)(K:0<=pages/\pages<=1048576)(u:bC pages xs=true)(R:1<=n/\n<=1000)(S:xs.length<=4096):zzA 340 false [.val none [I pages],.val none (bv .V xs),.val none [I n]] (.tup [none,none,none]) (Tl xs n):=by
 have p:gw xs:=⟨ω,λ_ _=>trivial⟩
 have w:=qD pages xs K p;rw[u]at w;have L:=ou xs p;have B:=(wg u).2;refine fP 91 [(458,[1,0,0])] [(8,15,[32,33,34,35,36,37,38,39,40,41,42,43,44,45,46])] Tryz.func340 rfl ?_ (.inr (Rf xs n))
 repeat'(first|refine gE ?_|(conv=>whnf);first|refine C8 (w) ?_|refine C8 (L) ?_)
 (conv=>whnf)
 refine CJ (ι:=Nat) (λi=>[(1,.H .one (bv .V xs)),(2,.H .one [I (n)]),(9,.H .one (bv .own xs)),(10,.H .one [I (fI xs n i)]),(25,.H .one (bv .V xs)),(26,.H .one [I (xs.length)]),(27,.H .one [I ((i:Nat):Int)])]) (λi=>i<=xs.length) (λi=>xs.length - i) (0) ?_ (W0 _) λi M=>?_
 ·exact wC
 have l:=rW xs n i M;by_cases E:i<xs.length
 ·have k:=au E
  have N:=B _ (ar E);have d:fI xs n (i+1)=if n<=(nth xs i).a8/\(fI xs n i<0\/(nth xs i).a8<(nth xs (fI xs n i).toNat).a8) then((i:Nat):Int) else fI xs n i:=rfl
  by_cases F:n<=(nth xs i).a8
  ·by_cases O:fI xs n i<0
   ·rw[CC ⟨F,.inl O⟩]at d
    repeat'(first|refine gE ?_|(conv=>whnf);first|with_reducible (first|refine CD (aa k) ?_|refine Bf.D (λh=>?_) (λh=>?_))|refine CH rfl (aa k) rfl ?_)
    ((conv=>whnf);refine CE (i+1) ω ω ?_)
    rw[d];exact wC
   have a:=au (xs:=xs) (i:=(fI xs n i).toNat) ω;by_cases P:(nth xs i).a8<(nth xs (fI xs n i).toNat).a8
   ·rw[CC ⟨F,.inr P⟩]at d
    repeat'(first|refine gE ?_|(conv=>whnf);first|with_reducible (first|refine CD (aa k) ?_|refine CN ω (aa a) ?_|refine Bf.D (λh=>?_) (λh=>?_))|refine CH rfl (aa k) rfl ?_)
    ((conv=>whnf);refine CE (i+1) ω ω ?_)
    rw[d];exact wC
   rw[C9 ω]at d
   repeat'(first|refine gE ?_|(conv=>whnf);first|with_reducible (first|refine CD (aa k) ?_|refine CN ω (aa a) ?_|refine Bf.D (λh=>?_) (λh=>?_))|refine CH rfl (aa k) rfl ?_)
   ((conv=>whnf);refine CE (i+1) ω ω ?_)
   rw[d];exact wC
  rw[C9 ω]at d
  repeat'(first|refine gE ?_|(conv=>whnf);first|with_reducible (first|refine CD (aa k) ?_|refine Bf.D (λh=>?_) (λh=>?_))|refine CH rfl (aa k) rfl ?_)
  ((conv=>whnf);refine CE (i+1) ω ω ?_)
  rw[d];exact wC
 obtain rfl:i=xs.length:=ω
 change fg xs n = -1\/_ at l;unfold Tl ax;rw[show fI xs n xs.length=fg xs n from rfl];by_cases e:fg xs n<0
 ·rw[CC e]
  rw[show fg xs n = -1 from l.resolve_right λg=>by have T:0<=fg xs n:=g.1;omega]
  repeat'(first|refine gE ?_|(conv=>whnf);first|with_reducible refine Bf.D (λh=>?_) (λh=>?_))
  rfl
 rw[C9 e];obtain⟨Q,G,U⟩:=l.resolve_left ω;change 0<=fg xs n at Q;change fg xs n<xs.length at G;obtain⟨b,r⟩:=z3 (show 0<=fg xs n by omega);rw[r]at G |-;simp only[Z2];have a:=au (xs:=xs) (i:=b) ω;have N:=B _ (ar (xs:=xs) (i:=b) ω);have c:((xs.map (aB.enc .own)).set b [I ((nth xs b).At+n),I (nth xs b).a8])[b]? = some [I ((nth xs b).At+n),I (nth xs b).a8]:=kI ω;have j:((xs.set b ⟨(nth xs b).At+n,(nth xs b).a8 - n⟩).map (aB.enc .own))[b]? = some [I ((nth xs b).At+n),I ((nth xs b).a8 - n)]:=by rw[AW];exact kI ω
 have o:∀t:List C,t.set 0 (.s .own (((xs.map (aB.enc .own)).set b [I ((nth xs b).At+n),I (nth xs b).a8]).set b [I ((nth xs b).At+n),I ((nth xs b).a8 - n)]))=t.set 0 (.s .own ((xs.set b ⟨(nth xs b).At+n,(nth xs b).a8 - n⟩).map (aB.enc .own))):=λt=>by rw[AW,List.set_set]
 have q:=BG (xs.set b ⟨(nth xs b).At+n,(nth xs b).a8 - n⟩) b (by rw[U1];omega);rw[NP]at q;by_cases H:(nth xs b).a8=n
 ·rw[CC H]
  generalize dele xs b=J at q |-;cases J with
  | nil=>
   repeat'(first|refine gB ?_|(conv=>whnf);first|with_reducible (first|refine CD (aa a) ?_|refine Bf.D (λh=>?_) (λh=>?_))|refine CD c ?_|refine CD j ?_|refine CH rfl (aa a) rfl ?_|refine CH rfl c rfl ?_|refine CH rfl j rfl ?_|refine CP rfl rfl (aa a) rfl (I1 rfl) rfl ?_|refine CP rfl rfl c rfl (I1 rfl) (o _).symm ?_|refine CK (q) (.inl rfl) ?_)
   rfl
  | cons y J=>
   repeat'(first|refine gB ?_|(conv=>whnf);first|with_reducible (first|refine CD (aa a) ?_|refine Bf.D (λh=>?_) (λh=>?_))|refine CD c ?_|refine CD j ?_|refine CH rfl (aa a) rfl ?_|refine CH rfl c rfl ?_|refine CH rfl j rfl ?_|refine CP rfl rfl (aa a) rfl (I1 rfl) rfl ?_|refine CP rfl rfl c rfl (I1 rfl) (o _).symm ?_|refine CK (q) (.inl rfl) ?_)
   rfl
 rw[C9 H]
 repeat'(first|refine gB ?_|(conv=>whnf);first|with_reducible (first|refine CD (aa a) ?_|refine Bf.D (λh=>?_) (λh=>?_))|refine CD c ?_|refine CD j ?_|refine CH rfl (aa a) rfl ?_|refine CH rfl c rfl ?_|refine CH rfl j rfl ?_|refine CP rfl rfl (aa a) rfl (I1 rfl) rfl ?_|refine CP rfl rfl c rfl (I1 rfl) (o _).symm ?_)
 rw[CC rfl,Rb (by rw[Ne,List.map_eq_nil_iff,<-List.length_eq_zero_iff,U1];omega)]
 rfl
def eA(w:World)(dT sT ty elem:TypeId)(k b o dLen dCap:Nat)(a:Addr)(sLen sCap n:Nat)(cs:List Value)(h:P.underlying dT=some (.slice elem))(g:(P.info? elem).map (·.size)=some k)(l:Nat.min sLen dLen=n)(p:cs.length=n*k)(c:∀j v,cs[j]? = some v->w.cell? (a.add j)=some v)(q:∀j,j<cs.length->(w.cell? ⟨b,o+j,none⟩).isSome=true)(r:∀j,j<cs.length->w.frozen? ⟨b,o+j,none⟩ = false)(h1:∀v∈cs,v.oneCell'=true) :
  (Builtin.copy_ #[dT,sT] ty #[.slice (some ⟨b,o,none⟩) dLen dCap,.slice (some a) sLen sCap]).run P w=.ok (goInt n) (w.setCells b o cs):=by
 have d:=run_loadCells_list (P:=P) w a cs c;have e:=run_storeCells_cells (P:=P) b o cs 0 w (by simpa using q) (by simpa using r) h1;rw[p]at d;cases f:P.info? elem with
 | none=>simp[f]at g
 | some i=>
  have t:i.size=k:=by simpa[f] using g
  simp[Builtin.copy_,run_underlying h,Builtin.lenOf,Builtin.firstCells,sizeOf,typeInfo,f,t,l,d,e]
variable{Q:Exit->Act->World->Prop}{ops:Array Oper}
def dO(w:World){rest:List Oper}{o:Oper}{a:Act}(b:o.guard=none)(d s:Operand)(t c:TypeId)(g:o.op=.call {callee:=.builtin .copy,args:=#[d,s],argTypes:=#[t,c]})(v u:Value)(i:a.eval d=v)(j:a.eval s=u){e:Value}{f:World}(k:(Builtin.copy_ #[t,c] o.type #[v,u]).run P w=.ok e f)(h:wpList P ops Q rest (a.put o.dst e) f):wpList P ops Q (o::rest) a w:=by
 refine wpList_plain b λ_ l=>?_
 unfold Oper.wp execOp;simp only[g,resolve,invoke,builtin,Sem.run_bind,Sem.run_pure,Result.andThen_ok,List.map_toArray,Z5,List.map_nil,i,j,k];exact l _ _ h
def i9{o:Oper}{a:Act}{K:Act->World->Prop}{E:Prop}(f:o.guard=none)(d x:Operand)(dT sT:TypeId)(b:o.op=Op.call {callee:=Callee.builtin Builtin.copy,args:=#[d,x],argTypes:=#[dT,sT]})(v u:Value)(g:a.eval d=v)(h:a.eval x=u){c:Value}{e:World}(i:(Builtin.copy_ #[dT,sT] o.type #[v,u]).run P w=.ok c e)(j:K (a.put o.dst c) e) :
  if Region.wanted o (yielded ops a.tmps)=true then Oper.wp P o a w K Q else E:=by
 have k:Region.wanted o (yielded ops a.tmps)=true:=by simp[Region.wanted,f]
 rw[CC k];unfold Oper.wp;simp[execOp,b,resolve,invoke,builtin,g,h,i,Result.andThen];exact j
def we(b:Nat):∀(vs:List Value)(o:Nat)(w:World),(w.setCells b o vs).drew=w.drew.setCells b o vs
 | [],_,_=>rfl
 | v::r,o,w=>by rw[World.setCells,World.setCells,we b r];rfl
def kV(b:Nat)(vs:List Value)(o:Nat)(w:World)(h:∀j,j<vs.length->(w.cell? ⟨b,o+j,none⟩).isSome=true)(q:Nat)(a:(w.cell? ⟨b,q,none⟩).isSome=true):((w.setCells b o vs).cell? ⟨b,q,none⟩).isSome=true:=by
 by_cases c:o<=q/\q<o+vs.length
 ·have:=World.cell?_setCells_in b vs o w h (q - o) ω
  rw[show o+(q - o)=q by omega]at this;rw[this];rfl
 rw[World.cell?_setCells_out b vs o w ⟨b,q,none⟩ (λ_ _=>by show q<o\/o+vs.length<=q;omega)];exact a
variable{g:Nat}
def EC{z:Value}(a:cel w g 0=some z)(d:fro w g 0=NF):∃t k,w.shape? g=some (t,k)/\k≠0/\w.frozen? ⟨g,0,none⟩ = false/\w.frozen? ⟨g,k,none⟩ = false:=by
 have f:=X0 Prod.fst d;have b:=X0 Prod.snd d;simp only[fro]at f b;unfold mp at b;unfold cel World.cell? at a;unfold World.shape?;simp only at a;cases e:w.heap[g]? with
 | none=>rw[e]at a;cases a
 | some x=>
  rw[e]at a b;cases x with
  | cells c t i=>
   obtain⟨j,l⟩:=i;simp only[Option.isSome_none,Bool.false_eq_true,if_false]at a;have o:0<c.size:=by
    rcases Nat.eq_zero_or_pos c.size with h|h
    ·rw[Array.getElem?_eq_none ω]at a;cases a
    exact h
   refine⟨t,c.size,rfl,ω,f,?_⟩;unfold World.frozen?;simp only[e];simp only at b;split at b
   ·cases b
   rename_i n;have:¬(j<=c.size/\c.size<l):=n;simp only[Bool.and_eq_false_imp,C0,X4];omega
  | _=>cases a
variable{e:Nat}
def oJ{tS tR a b:Nat}{z h:Value}(i:P.underlying tS=some (.slice e))(j:∀w,(Go.sizeOf e).run P w=.ok k w)(c:a≠b)(h1:cel w a 0=some z)(l:fro w a 0=NF)(n:cel w b 0=some h)(o:fro w b 0=NF)(x la d f g:Nat) :
  (Extern.SlicesOverlaps.overlaps #[tS,tS] #[tR] #[.slice (some ⟨a,0,none⟩) la d,.slice (some ⟨b,x,none⟩) f g]).run P w=.ok (.bool false) w:=by
 obtain⟨tA,kA,p,y,q,r⟩:=EC h1 l;obtain⟨tB,kB,t,u,-,-⟩:=EC n o;exact Lib.run_overlaps_apart w tS tR e i k j ⟨a,0,none⟩ ⟨b,x,none⟩ la d f g c tA tB kA kB p t u q r
structure xj(w w':World)(g G k n c c' i:Nat)(olds vs:List Value):Prop where
 keep:bx (λb o=>b=g/\o<c*k) w w'
 cel:∀q u,(olds.take (i*k)++vs++olds.drop (i*k))[q]? = some u->cel w' G q=some u
 all:∀q,q<c'*k->(∃z,Ab.cel w' G q=some z/\z.oneCell'=true)/\fro w' G q=NF
 at_:(G=g/\c'=c)\/(w.heap.size<=G/\G<w'.heap.size)
variable{n:Nat}{olds vs:List Value}
def Ga{q:Nat}{u:Value}(j:i<n)(d:olds.length=n*k)(b:vs.length=k)(h:(olds.take (i*k)++vs++olds.drop (i*k))[q]? = some u) :
  q<(n+1)*k/\((q<i*k/\olds[q]? = some u)\/(i*k<=q/\q<i*k+k/\vs[q - i*k]? = some u)\/(i*k+k<=q/\(olds.drop (i*k))[q - (i*k+k)]? = some u)):=by
 have e:i*k<=n*k:=O7 k ω;have l:(n+1)*k=n*k+k:=by rw[Nat.add_mul,Nat.one_mul]
 have a:(olds.take (i*k)).length=i*k:=by rw[V1];omega
 have f:=(U2.1 h).1;simp only[U3,a,b,V3,d]at f;refine⟨ω,?_⟩;by_cases c:q<i*k
 ·rw[W5,V4 ω,List.getElem?_take,CC c]at h
  exact .inl ⟨c,h⟩
 by_cases g:q<i*k+k
 ·rw[V4 (by rw[U3];omega),W4 ω,a]at h
  exact .inr (.inl ⟨ω,g,h⟩)
 rw[W4 (by rw[U3];omega),U3,a,b]at h;exact .inr (.inr ⟨ω,h⟩)
def pG{c:Nat}(B:i<n)(C:n+1<=c)(y:olds.length=n*k)(D:vs.length=k)(E:∀t u,olds[t]? = some u->cel w g t=some u)(h1:∀u∈olds,u.oneCell'=true)(F:∀u∈vs,u.oneCell'=true)(a:∀q,q<c*k->(∃z,cel w g q=some z/\z.oneCell'=true)/\fro w g q=NF) :
  xj w ((w.drew.setCells g ((i+1)*k) (olds.drop (i*k))).setCells g (i*k) vs) g g k n c c i olds vs:=by
 have G:i*k<=n*k:=O7 k ω;have H:(n+1)*k<=c*k:=O7 k C;have N:(n+1)*k=n*k+k:=by rw[Nat.add_mul,Nat.one_mul]
 have O:(i+1)*k=i*k+k:=by rw[Nat.add_mul,Nat.one_mul]
 have J:(olds.drop (i*k)).length=n*k - i*k:=by rw[V3,y]
 have P:∀b q,cel w.drew b q=cel w b q:=λ_ _=>rfl
 have in1:∀j,j<(olds.drop (i*k)).length->∃z,cel w.drew g ((i+1)*k+j)=some z:=λj p=>by
  obtain⟨⟨z,r,-⟩,-⟩:=a ((i+1)*k+j) ω;exact⟨z,r⟩
 have all1:∀q,q<c*k->∃z,cel (w.drew.setCells g ((i+1)*k) (olds.drop (i*k))) g q=some z/\z.oneCell'=true:=λq e=>by
  by_cases h:(i+1)*k<=q/\q<(i+1)*k+(olds.drop (i*k)).length
  ·obtain⟨u,f⟩ : ∃u,(olds.drop (i*k))[q - (i+1)*k]? = some u:=⟨_,O2 ω⟩
   have d:=bK in1 f;rw[show(i+1)*k+(q - (i+1)*k)=q by omega]at d;exact⟨u,d,h1 u (List.mem_of_mem_drop (C2 f))⟩
  rw[bm (λx=>h x.2)];exact(a q e).1
 have in2:∀j,j<vs.length->∃z,cel (w.drew.setCells g ((i+1)*k) (olds.drop (i*k))) g (i*k+j)=some z:=λj p=>by
  obtain⟨z,r,-⟩:=all1 (i*k+j) ω;exact⟨z,r⟩
 refine⟨?_,λq u e=>?_,λq e=>⟨?_,by rw[co,co];exact(a q e).2⟩,.inl ⟨rfl,rfl⟩⟩
 ·have K:=dY (g:=g) (X:=λb o=>b=g/\o<c*k) (olds.drop (i*k)) ((i+1)*k) w.drew λj p=>⟨rfl,ω⟩
  have L:=dY (g:=g) (X:=λb o=>b=g/\o<c*k) vs (i*k) (w.drew.setCells g ((i+1)*k) (olds.drop (i*k))) λj p=>⟨rfl,ω⟩
  exact((xN w).up λ_ _ h=>h.elim).trans (K.trans L λ_ _ h=>.inr h) λ_ _ h=>.inr h
 ·obtain⟨-,⟨A,l⟩|⟨A,l,M⟩|⟨A,l⟩⟩:=Ga B y D e
  ·rw[bm ω,bm ω];exact E q u l
  ·have d:=bK in2 M
   rwa [show i*k+(q - i*k)=q by omega]at d
  rw[bm ω];have d:=bK in1 l;rw[show(i+1)*k+(q - (i*k+k))=q by omega]at d;exact d
 by_cases h:i*k<=q/\q<i*k+vs.length
 ·obtain⟨u,f⟩ : ∃u,vs[q - i*k]? = some u:=⟨_,O2 ω⟩
  have d:=bK in2 f;rw[show i*k+(q - i*k)=q by omega]at d;exact⟨u,d,F u (C2 f)⟩
 rw[bm (λx=>h x.2)];exact all1 q e
def rd{a:World}{c G:Nat}{Z:Array Value}(y:a.heap=(w.alloc (.cells ((olds.take (i*k)).toArray++Builtin.zeroCells Z (n+1 - i)++Builtin.zeroCells Z (G - (n+1))) e)).heap)(Q:a.os=w.os)(R:a.tape=w.tape)(S:a.output=w.output)(hi:i<n)(hG:n+1<=G)(hZ:Z.size=k)(T:∀v∈Z.toList,v.oneCell'=true)(U:olds.length=n*k)(d:vs.length=k)(h1:∀u∈olds,u.oneCell'=true)(h2:∀u∈vs,u.oneCell'=true) :
  xj w ((a.setCells w.heap.size (i*k) vs).setCells w.heap.size ((i+1)*k) (olds.drop (i*k))) g w.heap.size k n c G i olds vs:=by
 have V:i*k<=n*k:=O7 k ω;have hGk:(n+1)*k<=G*k:=O7 k hG;have e1:(n+1)*k=n*k+k:=by rw[Nat.add_mul,Nat.one_mul]
 have e2:(i+1)*k=i*k+k:=by rw[Nat.add_mul,Nat.one_mul]
 have hdl:(olds.drop (i*k)).length=n*k - i*k:=by rw[V3,U]
 generalize hcells:(olds.take (i*k)).toArray++Builtin.zeroCells Z (n+1 - i)++Builtin.zeroCells Z (G - (n+1))=cells at y;have C:∀b q,cel a b q=cel (w.alloc (.cells cells e)) b q:=λb q=>by unfold cel World.cell?;rw[y]
 have D:∀b q,fro a b q=fro (w.alloc (.cells cells e)) b q:=λb q=>by unfold fro World.frozen? mp;rw[y]
 have hsz:cells.size=G*k:=by
  rw[<-hcells];simp only[Array.size_append,List.size_toArray,V1,size_zeroCells,hZ,U,Nat.min_eq_left V];rw[<-Nat.add_mul,<-Nat.add_mul]
  congr 1;omega
 have E:∀v∈cells.toList,v.oneCell'=true:=by
  have F:∀m,∀v∈(Builtin.zeroCells Z m).toList,v.oneCell'=true:=λm v d=>by
   rw[Array.mem_toList_iff]at d;simp only[Builtin.zeroCells,Array.mem_map,Array.mem_range]at d;obtain⟨j,A,rfl⟩:=d;have B:0<Z.size:=by rcases Nat.eq_zero_or_pos Z.size with h|h;rw[h]at A;simp at A;exact h
   have H:j % Z.size<Z.size:=Nat.mod_lt _ B;rw[getElem!_pos Z (j % Z.size) H];exact T _ (Array.mem_toList_iff.2 (Array.getElem_mem H))
  intro v d;rw[<-hcells]at d;simp only[Array.toList_append,C3]at d;rcases d with(d|d)|d
  ·exact h1 v (List.mem_of_mem_take d)
  ·exact F _ v d
  exact F _ v d
 have l:∀q,cel a w.heap.size q=cells[q]?:=λq=>(C _ _).trans (gX w cells e q)
 have J:∀q,q<G*k->∃z,cel a w.heap.size q=some z/\z.oneCell'=true:=λq p=>by
  have K:q<cells.size:=ω
  exact⟨cells[q],by rw[l,U6 K],E _ (Array.mem_toList_iff.2 (Array.getElem_mem K))⟩
 have r:∀q u,q<i*k->olds[q]? = some u->cells[q]? = some u:=λq u p t=>by
  rw[<-hcells,Array.append_assoc,Array.getElem?_append_left (by simp;omega)];simp[p,t]
 have L:∀q,fro a w.heap.size q=NF:=λq=>(D _ _).trans (gW w cells e q)
 have hK:bx NO w a:=by
  have B:bx NO w (w.alloc (.cells cells e)):=cS w _;exact⟨Q,R,S,by rw[y];exact B.size,λb M N=>by rw[y];exact B.blk b M N,λb o M N=>(C b o).trans (B.cel b o M N),λb o M N=>(D b o).trans (B.fro b o M N)⟩
 have hS:a.heap.size=w.heap.size+1:=by rw[y];exact jm w _
 have k1:=dY (g:=w.heap.size) (X:=λb o=>b=w.heap.size) vs (i*k) a λj A=>rfl
 have k2:=dY (g:=w.heap.size) (X:=λb o=>b=w.heap.size) (olds.drop (i*k)) ((i+1)*k) (a.setCells w.heap.size (i*k) vs) λj A=>rfl
 have in1:∀j,j<vs.length->∃z,cel a w.heap.size (i*k+j)=some z:=λj A=>by
  obtain⟨z,W,-⟩:=J (i*k+j) ω;exact⟨z,W⟩
 have all1:∀q,q<G*k->∃z,cel (a.setCells w.heap.size (i*k) vs) w.heap.size q=some z/\z.oneCell'=true:=λq p=>by
  by_cases h:i*k<=q/\q<i*k+vs.length
  ·obtain⟨u,t⟩ : ∃u,vs[q - i*k]? = some u:=⟨_,O2 ω⟩
   have f:=bK in1 t;rw[show i*k+(q - i*k)=q by omega]at f;exact⟨u,f,h2 u (C2 t)⟩
  rw[bm (λx=>h x.2)];exact J q p
 have in2:∀j,j<(olds.drop (i*k)).length->∃z,cel (a.setCells w.heap.size (i*k) vs) w.heap.size ((i+1)*k+j)=some z:=λj A=>by
  obtain⟨z,W,-⟩:=all1 ((i+1)*k+j) ω;exact⟨z,W⟩
 have O:w.heap.size<((a.setCells w.heap.size (i*k) vs).setCells w.heap.size ((i+1)*k) (olds.drop (i*k))).heap.size:=by
  have:=k1.size;have:=k2.size;omega
 refine⟨?_,λq u p=>?_,λq p=>⟨?_,by rw[co,co];exact L q⟩,.inr ⟨I3 _,O⟩⟩
 ·exact(hK.up λ_ _ h=>h.elim).trans (k1.trans k2 λ_ _ h=>.inr h) λ_ _ h=>.inl (by rw[h];exact I3 _)
 ·obtain⟨-,⟨Y,P⟩|⟨Y,P,a3⟩|⟨Y,P⟩⟩:=Ga hi U d p
  ·rw[bm ω,bm ω,l];exact r q u Y P
  ·rw[bm ω]
   have f:=bK in1 a3
   rwa [show i*k+(q - i*k)=q by omega]at f
  have f:=bK in2 P;rw[show(i+1)*k+(q - (i*k+k))=q by omega]at f;exact f
 by_cases h:(i+1)*k<=q/\q<(i+1)*k+(olds.drop (i*k)).length
 ·obtain⟨u,t⟩ : ∃u,(olds.drop (i*k))[q - (i+1)*k]? = some u:=⟨_,O2 ω⟩
  have f:=bK in2 t;rw[show(i+1)*k+(q - (i+1)*k)=q by omega]at f;exact⟨u,f,h1 u (List.mem_of_mem_drop (C2 t))⟩
 rw[bm (λx=>h x.2)];exact all1 q p
structure Bo(P:Program)(f k T b:Nat):Prop where
 has:Jn P f
 end_:∀(w w1:World)(base:Option Addr)(n c vb m vc:Nat)(r:Value),m=1->n<=c->n<=1073741824->(base=none->n=0/\c=0)->(Builtin.append_ #[T,T] T #[.slice base n c,.slice (some ⟨vb,0,none⟩) m vc]).run P w=.ok r w1->
  Calls P f #[.slice base n c,.int .i64 n,.slice (some ⟨vb,0,none⟩) m vc] w λe w'=>e=.returned r/\w'=w1
 mid:∀(w:World)(g n c i vb m vc:Nat)(olds vs:List Value),m=1->i<n->n<=c->n<=1073741824->b<=1000->olds.length=n*k->vs.length=k->(∀t u,olds[t]? = some u->cel w g t=some u)->(∀t u,vs[t]? = some u->cel w vb t=some u)->
  (∀u∈olds,u.oneCell'=true)->(∀u∈vs,u.oneCell'=true)->(∀q,q<c*k->(∃z,cel w g q=some z/\z.oneCell'=true)/\fro w g q=NF)->fro w vb 0=NF->vb≠g->
  Calls P f #[.slice (some ⟨g,0,none⟩) n c,.int .i64 i,.slice (some ⟨vb,0,none⟩) m vc] w λe w'=>∃G c',e=.returned (.slice (some ⟨G,0,none⟩) (n+1) c')/\n+1<=c'/\xj w w' g G k n c c' i olds vs
def inse(xs:List α)(i:Nat)(y:α):List α:=xs.take i++y::xs.drop i
def DY(xs:List α)(i:Nat)(y:α):(inse xs i y).length=xs.length+1:=by
 unfold inse;rw[U3,List.length_cons,V1,V3];omega
def yH{xs:List α}{y z:α}(h:z∈inse xs i y):z=y\/z∈xs:=by
 unfold inse at h;rcases C3.1 h with h|h
 ·exact .inr (List.mem_of_mem_take h)
 rcases List.mem_cons.1 h with h|h
 ·exact .inl h
 exact .inr (List.mem_of_mem_drop h)
def wL{β:Type}(e:α->β)(xs:List α)(i:Nat)(y:α):inse (xs.map e) i (e y)=(inse xs i y).map e:=by
 unfold inse;simp only[X5,Z5,C4,I4]
variable{row:List C}
def Ns{a b:Nat}{c:C}(g:i<=rows.length)(A:olds.length=rows.length*k)(n:vs.length=k)(o:b<k)(j:∀(a b:Nat)(r:List C)(c:C),rows[a]? = some r->r[b]? = some c->∃z,c=C.v z/\olds[a*k+b]? = some z)(p:∀(b:Nat)(c:C),row[b]? = some c->∃z,c=C.v z/\vs[b]? = some z)(h1:(inse rows i row)[a]? = some r)(e:r[b]? = some c):∃z,c=.v z/\(olds.take (i*k)++vs++olds.drop (i*k))[a*k+b]? = some z:=by
 have q:i*k<=rows.length*k:=O7 k g;have l:(olds.take (i*k)).length=i*k:=by rw[V1];omega
 unfold inse at h1;by_cases h:a<i
 ·rw[V4 (by rw[V1];omega),List.getElem?_take,CC h]at h1
  obtain⟨z,rfl,d⟩:=j a b r c h1 e;have f:a*k+b<i*k:=dD h o;exact⟨z,rfl,by rw[W5,V4 ω,List.getElem?_take,CC f];exact d⟩
 rw[W4 (by rw[V1];omega),V1,Nat.min_eq_left g]at h1;have t:i*k<=a*k:=O7 k ω;by_cases u:a=i
 ·subst u
  simp only[Nat.sub_self,List.getElem?_cons_zero,Z0]at h1;subst h1;obtain⟨z,rfl,d⟩:=p b c e;exact⟨z,rfl,by rw[V4 (by rw[U3];omega),W4 ω,l,show a*k+b - a*k=b by omega];exact d⟩
 obtain⟨m,rfl⟩ : ∃m,a=i+(m+1):=⟨a - i - 1,ω⟩
 rw[show i+(m+1) - i=m+1 by omega,List.getElem?_cons_succ,List.getElem?_drop]at h1;obtain⟨z,rfl,d⟩:=j (i+m) b r c h1 e;have w:(i+(m+1))*k=i*k+k+m*k:=by rw[<-Nat.add_assoc,Nat.add_mul,Nat.add_mul,Nat.one_mul];omega
 have y:(i+m)*k=i*k+m*k:=Nat.add_mul ..;refine⟨z,rfl,?_⟩;rw[W4 (by rw[U3];omega),U3,l,n,List.getElem?_drop,w,show i*k+(i*k+k+m*k+b - (i*k+k))=i*k+m*k+b by omega,<-y];exact d
def Tk(h:RD rows):P4 rows:=by
 have b:∀r:List C,(∀c∈r,∃z,c=C.v z)->hC r:=by
  intro r
  induction r with
  | nil=>exact λ_=>trivial
  | cons c r a=>intro h;obtain⟨z,rfl⟩:=h c (by simp);exact⟨trivial,a λc d=>h c (by simp[d])⟩
 induction rows with
 | nil=>exact trivial
 | cons r f a=>exact⟨b r (h r (by simp)),a λr e=>h r (by simp[e])⟩
def H8{T:Nat}{d:TypeInfo}{z0:Value}(ht:P.underlying T=some (.slice e))(hi0:P.info? e=some d)(hk0:d.size=k)(hz:d.zero=some z0)(hzs:z0.cells.size=d.size)(hz1:∀x∈z0.cells.toList,x.oneCell'=true)(hby:d.bytes<=1000)(hf:Bo P f k T d.bytes)(hi:i<=rows.length)(hk:∀r∈rows,r.length=k)(hr:row.length=k)(hpk:0<k)(hsc:RD rows)(hsr:RD [row])(hlen:rows.length+1<=1073741824) :
  aK P f false [.mut none [.s .own rows],.val none [I (i:Nat)],.mut none [.s .own [row]]] [.mut none [.x],.val none [I (i:Nat)],.mut none [.x]] .one [.s .own (inse rows i row)]:=by
 subst hk0;refine⟨hf.has,λw S V vs hS hV hVV R=>?_⟩
 match vs,R with
 | [v,v1,v2],⟨R,hA1,hA2,_⟩=>
  have E:=b9.rep1 (show b9 w S (V 0) none [C.s .own rows] v from R);have e1:v1=.int .i64 (i:Nat):=by
   have:=b9.rep1 (show b9 w S NO none [C.v (.int .i64 (i:Nat))] v1 from hA1);cases this;rfl
  have N:=b9.rep1 (show b9 w S (V 2) none [C.s .own [row]] v2 from hA2);subst e1;have hk2:∀r∈[row],r.length=d.size:=λr H=>by simp only[O1]at H;subst H;exact hr
  have hsc':RD (inse rows i row):=λr H=>(yH H).elim (λh=>hsr r (by simp[h])) (hsc r)
  have O:∀(w1:World)(vv:Value)(X:ah),bx (λb o=>∃i,V i b o) w w1->(∀b o,X b o->V 0 b o\/V 2 b o\/(w.heap.size<=b/\b<w1.heap.size))->dG w1 S X (.s .own (inse rows i row)) vv->
    ∃v',Ending.returned vv=Ending.returned v'/\bx (λb o=>∃i,V i b o) w w1/\∃(X:ah)(V':Nat->ah)(S1:ah),
   (∀b o,X b o->(∃i,V i b o)\/(b<w1.heap.size/\w.heap.size<=b))/\(∀i b o,V' i b o->(∃i,V i b o)\/(b<w1.heap.size/\w.heap.size<=b))/\
   (∀b o,S1 b o->(false=true/\S b o)\/(∃i,V i b o)\/(b<w1.heap.size/\w.heap.size<=b))/\
   (∀i i',i≠i'->∀b o,V' i b o->¬V' i' b o)/\(∀i b o,X b o->¬V' i b o)/\(∀b o,X b o->¬S1 b o)/\(∀i b o,V' i b o->¬S1 b o)/\
   fD w1 NO .one 1 v'/\cL w1 S1 X [.s .own (inse rows i row)] (cj w1 .one v')/\BC w1 (λb o=>S b o\/S1 b o) V' [.mut none [.x],.val none [I (i:Nat)],.mut none [.x]] [v,.int .i64 (i:Nat),v2]:=by
   intro w1 vv X D hX hR;have hfr:PH (.s .own (inse rows i row)):=by simp only[PH];exact⟨.inl (by simp),Tk hsc'⟩
   exact⟨_,rfl,D,X,λ_=>NO,NO,λb o h=>by
       rcases hX b o h with h|h|h
       · exact .inl ⟨0,h⟩
       · exact .inl ⟨2,h⟩
       · exact .inr ⟨h.2,h.1⟩,λ_ _ _ h=>h.elim,λ_ _ h=>h.elim,λ_ _ _ _ _ h=>h.elim,λ_ _ _ _ h=>h.elim,λ_ _ _ h=>h.elim,λ_ _ _ h=>h.elim,rfl,row1 (hR.fresh hfr),
       ⟨⟨rfl,λ_=>v,rfl,row1 (.x _ _ E.one)⟩,trivial,⟨rfl,λ_=>v2,rfl,row1 (.x _ _ N.one)⟩,trivial⟩⟩
  rcases N.els (by simp) hk2 with⟨h,-⟩|⟨vb,vc,u2,f2,rfl,-,hvc,hcell2,hu2,J⟩
  ·cases h
  simp only[List.length_singleton,Nat.one_mul]at hvc hu2;by_cases Y:i=rows.length
  ·have hreads:ox w (some ⟨vb,0,none⟩) ([row].length*d.size) ((List.range ([row].length*d.size)).map u2):=by
    refine⟨by simp,λh=>(by cases h),λad j u had l=>?_⟩;cases had;rw[Addr.add_lit,Z6];rw[O3]at l;cases L:(List.range ([row].length*d.size))[j]? with
    | none=>rw[L]at l;cases l
    | some j'=>
     obtain⟨U,a2⟩:=U2.1 L;simp only[List.length_singleton,Nat.one_mul,List.length_range,List.getElem_range]at U a2;subst a2;rw[L]at l;simp only[I5,Z0]at l;subst l;exact hu2 j U
   obtain⟨v',w1,hrun,hk1,hR⟩:=rr (P:=P) (ty:=T) ht hi0 hz hzs hz1 E hk (V:=V 2) (xr:=[row]) (u2:=u2) (f2:=f2) ⟨J.hk,λq L b o h=>(J.hf q L b o h).1,J.hd,J.hc⟩ (b:=some ⟨vb,0,none⟩) (c:=vc)
    hreads
    (λb o h h'=>hVV 0 2 (by decide) b o h h') (λb o h=>(hV 0 b o h).2) (λb o h=>(hV 0 b o h).1) (λb o h=>(hV 2 b o h).1) hS (by simp;omega) (by
      have:(rows.length+[row].length)*d.bytes<=1073741824*1000:=Nat.mul_le_mul (by simpa using hlen) hby;omega)
   have hins:inse rows i row=rows++[row]:=by unfold inse;rw[Y,C5,List.drop_length]
   rw[<-hins]at hR;have hfin:∀(base:Option Addr)(c:Nat),v=.slice base rows.length c->rows.length<=c->(base=none->rows.length=0/\c=0)->Calls P f #[v,.int .i64 (i:Nat),.slice (some ⟨vb,0,none⟩) 1 vc] w λe W=>e=.returned v'/\W=w1:=λbase c hv hc hb=>by
    subst hv;rw[Y];exact hf.end_ w w1 base rows.length c vb 1 vc v' rfl hc ω hb hrun
   have hgo:Calls P f #[v,.int .i64 (i:Nat),.slice (some ⟨vb,0,none⟩) 1 vc] w λe W=>e=.returned v'/\W=w1:=by
    rcases E.els (by simp) hk with⟨h0,a0,hv⟩|⟨g,Z,u,f',hv,hpos,F,-⟩
    ·exact hfin a0 0 (by rw[hv,h0];rfl) (by rw[h0];exact I3 0) λ_=>⟨by rw[h0];rfl,rfl⟩
    exact hfin _ Z hv F λh=>by cases h
   refine hgo.mono λe W ⟨he,hw⟩=>?_
   subst he hw;exact O W v' _ (hk1.up λb o h=>⟨0,h⟩) (λb o h=>h) hR
  rcases E.els (by simp) hk with⟨h0,a0,hv⟩|⟨g,Z,u,f',rfl,hpos,F,p,hu,hE⟩
  ·rw[h0]at hi Y;simp at hi Y;omega
  have hlt:i<rows.length:=ω
  have A:∀(n j:Nat)(y:Value)(uu:Nat->Value),((List.range n).map uu)[j]? = some y->j<n/\y=uu j:=λn j y uu l=>by
   rw[O3]at l;cases hr:(List.range n)[j]? with
   | none=>rw[hr]at l;cases l
   | some j'=>
    obtain⟨h1,M⟩:=U2.1 hr;simp at h1 M;subst M;rw[hr]at l;simp only[I5,Z0]at l;exact⟨h1,l.symm⟩
  have Q:∀(n j:Nat)(uu:Nat->Value),j<n->((List.range n).map uu)[j]? = some (uu j):=λn j uu l=>by
   rw[O3,Y6 l];rfl
  obtain⟨olds,B⟩ : ∃olds,olds=(List.range (rows.length*d.size)).map u:=⟨_,rfl⟩
  obtain⟨vs,hvs⟩ : ∃vs,vs=(List.range d.size).map u2:=⟨_,rfl⟩
  have hol:olds.length=rows.length*d.size:=by rw[B];simp
  have hvl:vs.length=d.size:=by rw[hvs];simp
  have hck:rows.length*d.size<=Z*d.size:=O7 _ F;have hv0:=hcell2 0 (Nat.mul_pos ω hpk);have hg0:=p 0 (Nat.mul_pos ω hpk);have hne:vb≠g:=λh=>by
   subst h;exact hVV 0 2 (by decide) vb 0 hg0.1 hv0.1
  refine(hf.mid w g rows.length Z i vb 1 vc olds vs rfl hlt F ω hby hol hvl (λt y K=>by
      rw[B]at K;obtain⟨U,rfl⟩:=A _ _ _ _ K;exact hu t U) (λt y K=>by
      rw[hvs]at K;obtain⟨U,rfl⟩:=A _ _ _ _ K;exact hu2 t U) (λy K=>by
      rw[B]at K;obtain⟨j,l⟩:=List.getElem?_of_mem K;obtain⟨U,rfl⟩:=A _ _ _ _ l;exact hE.one U) (λy K=>by
      rw[hvs]at K;obtain⟨j,l⟩:=List.getElem?_of_mem K;obtain⟨U,rfl⟩:=A _ _ _ _ l;exact J.one (by simpa using U)) (λq L=>(p q L).2) hv0.2.2 hne).mono λe W ⟨G,c',he,hc',R⟩=>?_
  subst he;have D:bx (λb o=>∃i,V i b o) w W:=R.keep.up λb o ⟨h1,M⟩=>⟨0,by rw[h1];exact(p o M).1⟩
  refine O W _ (λb o=>V 0 b o\/(w.heap.size<=b/\b<W.heap.size)) D (λb o h=>h.elim .inl (λh=>.inr (.inr h))) ?_;refine .own _ .own G d.size (rows.length+1) c' _ (λq=>(cel W G q).getD undef) (λ_=>NO) trivial (DY ..) (λr H=>(yH H).elim (λh=>by rw[h];exact hr) (hk r)) hc' ω (λq L=>⟨?_,R.all q L⟩) (λq L=>?_) (λ_ _ _ _ h=>h.elim) (λ_ _ _ _ _ _ _ h=>h.elim) (λa b r c ha hb=>?_)
  ·rcases R.at_ with⟨rfl,rfl⟩|h
   ·exact .inl (p q L).1
   exact .inr h
  ·obtain⟨z,hz',-⟩:=(R.all q (Z3 L (O7 _ hc'))).1
   rw[hz'];rfl
  have hbk:b<d.size:=by
   have:r.length=d.size:=(yH (C2 ha)).elim (λh=>by rw[h];exact hr) (hk r);rw[<-this];exact(U2.1 hb).1
  have hal:=(U2.1 ha).1;rw[DY]at hal;obtain⟨y,rfl,K⟩:=Ns (olds:=olds) (vs:=vs) hi hol hvl hbk (λa b r c h1 M=>by
      obtain⟨y,rfl⟩:=hsc r (C2 h1) c (C2 M);have h3:=hE.hc a b r _ h1 M;have h4:=rh rfl hk h1 M;generalize hyy:u (a*d.size+b)=yy at h3;cases h3;exact⟨_,rfl,by rw[B,Q _ _ _ (dD h4.1 h4.2),hyy]⟩) (λb c M=>by
      obtain⟨y,rfl⟩:=hsr row (by simp) c (C2 M);have h3:=J.hc 0 b row _ rfl M;simp only[Nat.zero_mul,Z6]at h3;have h4:=(U2.1 M).1;generalize hyy:u2 b=yy at h3;cases h3;exact⟨_,rfl,by rw[hvs,Q _ _ _ ω,hyy]⟩) ha hb
  have hz':=R.cel _ y K;simp only[hz',Option.getD_some];obtain⟨z,h5,h6⟩:=(R.all (a*d.size+b) (Z3 (dD hal hbk) (O7 _ hc'))).1;rw[hz']at h5;cases h5;exact .v _ _ h6
set_option maxRecDepth 100000
def wG:∃(b:TypeInfo)(c:Value),Tryz.prog.info? 74=some b/\b.size=4/\b.zero=some c/\c.cells.size=4/\(∀v∈c.cells.toList,v.oneCell'=true)/\b.bytes=32:=by
 have h:=(qK 74 _ rfl).1;cases e : Tryz.prog.info? 74 with
 | none=>rw[e]at h;cases h
 | some x=>
  rw[e]at h;simp only[I5,Z0,Prod.mk.injEq]at h;obtain⟨a,g,i⟩:=h;cases d:x.zero with
  | none=>rw[d]at a;cases a
  | some z=>
   rw[d]at a;simp only[I5,Z0]at a;refine⟨x,z,rfl,g,d,?_,λv f=>?_,i⟩
   ·rw[<-Array.length_toList,a];rfl
   rw[a]at f;have j:(List.map cval [I 0,I 0,I 0,I 0]).all (λv=>v.oneCell')=true:=rfl;exact v4.1 j v f
def GS:∀w,(Go.sizeOf 74).run Tryz.prog w=.ok 4 w:=λ_=>by kernel_rfl
def Hx(w w1:World)(base:Option Addr)(n c d m g:Nat)(r:Value)(i:m=1)(j:n<=c)(h:n<=1073741824)(k:base=none->n=0/\c=0)(b:(Builtin.append_ #[39,39] 39 #[.slice base n c,.slice (some ⟨d,0,none⟩) m g]).run Tryz.prog w=.ok r w1) :
  Calls Tryz.prog 67 #[.slice base n c,.int .i64 n,.slice (some ⟨d,0,none⟩) m g] w λe l=>e=.returned r/\l=w1:=by
 have mixed : Tryz.prog.follows .mixedOrders=true:=by kernel_rfl
 have o:0<m:=ω
 have p:m<=1:=ω
 clear i;have q:¬((m:Int)=0):=ω
 go_enter Tryz.func67,Tryz.ntmps67
 cases base with
 | none=>
  obtain⟨rfl,rfl⟩:=k rfl
  go_wp2_with (at_builtin;refine Lib.wpList_append_run _ rfl _ _ _ _ rfl _ _ rfl rfl _ _ b ?_)
  go_ret
  exact⟨rfl,rfl⟩
 | some a=>
  obtain⟨u,y,asp⟩:=a
  go_wp2_with (at_builtin;refine Lib.wpList_append_run _ rfl _ _ _ _ rfl _ _ rfl rfl _ _ b ?_)
  all_goals(go_ret;exact⟨rfl,rfl⟩)
def BZ(w:World)(g n c i p m C:Nat)(olds vs:List Value)(Z:m=1)(hi:i<n)(X:n<=1073741824)(M:n+m<=c)(N:olds.length=n*4)(D:vs.length=4)(ho:∀t u,olds[t]? = some u->cel w g t=some u)(L:∀t u,vs[t]? = some u->cel w p t=some u)(h1:∀u∈olds,u.oneCell'=true)(h2:∀u∈vs,u.oneCell'=true)(b:∀q,q<c*4->(∃z,cel w g q=some z/\z.oneCell'=true)/\fro w g q=NF)(O:fro w p 0=NF)(E:p≠g) :
  Calls Tryz.prog 67 #[.slice (some ⟨g,0,none⟩) n c,.int .i64 i,.slice (some ⟨p,0,none⟩) m C] w λe w'=>e=.returned (.slice (some ⟨g,0,none⟩) (n+m) c)/\w'=(w.drew.setCells g ((i+m)*4) (olds.drop (i*4))).setCells g (i*4) vs:=by
 have mixed : Tryz.prog.follows .mixedOrders=true:=by kernel_rfl
 have hm1:0<m:=ω
 have hm2:m<=1:=ω
 clear Z;have hz1:¬((m:Int)=0):=ω
 have hz2:¬((i:Int)=(n:Int)):=ω
 have hz3:¬((c:Int)<(n:Int)+(m:Int)):=ω
 have F:(Tryz.prog.info? 74).map (·.size)=some 4:=by obtain⟨i0,z0,e1,e2,-⟩:=wG;rw[e1];simp[e2]
 have cell:∀q,q<(n+m)*4->(w.cell? ⟨g,q,none⟩).isSome=true/\w.frozen? ⟨g,q,none⟩ = false:=λq Y=>by
  obtain⟨⟨z,hz,-⟩,hf⟩:=b q ω;exact⟨by show(cel w g q).isSome=true;rw[hz];rfl,X0 Prod.fst hf⟩
 have P:∀Q R,(callFunc 193 #[.slice (some ⟨p,0,none⟩) m C,.slice (some ⟨g,(i+m)*4,none⟩) Q R]).run Tryz.prog w=.ok (.value (.bool false)) w:=λQ R=>by
  obtain⟨y,hy⟩ : ∃y,vs[0]? = some y:=⟨_,O2 ω⟩
  obtain⟨⟨y',S,-⟩,T⟩:=b 0 ω;rw[run_callFunc_extern Tryz.func193 (by kernel_rfl) (by kernel_rfl) (by kernel_rfl) (e:=Extern.SlicesOverlaps.overlaps #[39,39] #[4]) (by kernel_rfl),
    oJ (e:=74) (k:=4) Tryz.underlying39 GS E (L 0 y hy) O S T _ m C Q R]
  rfl
 have l:(olds.drop (i*4)).length=(n - i)*4:=by rw[V3,N];omega
 have hw1:IntKind.i64.wrap ((i:Int)+(m:Int))=(i:Int)+(m:Int):=by rw[IntKind.wrap_i64];omega
 have hw2:IntKind.i64.wrap ((n:Int)+(m:Int))=(n:Int)+(m:Int):=by rw[IntKind.wrap_i64];omega
 have hb1:(0:Int)<=(i:Int)+(m:Int):=ω
 have hin:i<=n:=ω
 have htn:((i:Int)+(m:Int)).toNat=i+m:=ω
 have hb2:¬(c=i+m):=ω
 have hb3:(i:Int)<=(n:Int)+(m:Int):=ω
 have hb4:¬(c=i):=ω
 have o:∀r B U,(Builtin.copy_ #[39,39] r #[.slice (some ⟨g,(i+m)*4,none⟩) (n+m - (i+m)) B,.slice (some ⟨g,i*4,none⟩) (n+m - i) U]).run Tryz.prog w.drew=.ok (goInt ((n - i:Nat):Int)) (w.drew.setCells g ((i+m)*4) (olds.drop (i*4))):=λr B U=>
  eA w.drew _ _ r 74 4 g ((i+m)*4) (n+m - (i+m)) B ⟨g,i*4,none⟩ (n+m - i) U (n - i) (olds.drop (i*4)) Tryz.underlying39 F (by simp only[Nat.min_def];split<;>omega) l
   (λj v a=>by rw[Addr.add_lit];exact ho (i*4+j) v (by rwa [List.getElem?_drop]at a))
   (λj a=>by rw[l]at a;exact(cell _ ω).1) (λj a=>by rw[l]at a;exact(cell _ ω).2) (λv L=>h1 v (List.mem_of_mem_drop L))
 obtain⟨G,d⟩ : ∃G,G=w.drew.setCells g ((i+m)*4) (olds.drop (i*4)):=⟨_,rfl⟩
 have H:∀q,q<(n+m)*4->(G.cell? ⟨g,q,none⟩).isSome=true:=λq Y=>by
  rw[d];exact kV g _ _ _ (λj a=>by rw[l]at a;exact(cell _ ω).1) _ (cell q Y).1
 have J:∀(W:World),(∀x,W.cell? x=G.cell? x)->(∀x,W.frozen? x=G.frozen? x)->∀r B,(Builtin.copy_ #[39,39] r #[.slice (some ⟨g,i*4,none⟩) (n+m - i) B,.slice (some ⟨p,0,none⟩) m C]).run Tryz.prog W=.ok (goInt ((1:Nat):Int)) (W.setCells g (i*4) vs):=λW K V r B=>
  eA W _ _ r 74 4 g (i*4) (n+m - i) B ⟨p,0,none⟩ m C 1 vs Tryz.underlying39 F (by simp only[Nat.min_def];split<;>omega) ω
   (λj v a=>by
     rw[Addr.add_lit,Z6,K,d,World.cell?_setCells_out g _ _ _ _ (λh _=>absurd h E)];exact L j v a)
   (λj a=>by rw[K];rw[D]at a;exact H _ ω) (λj a=>by rw[V,d,World.frozen?_setCells];rw[D]at a;exact(cell _ ω).2) h2
 rw[<-d]at o;clear cell b
 go_enter Tryz.func67,Tryz.ntmps67
 go_wp2_with (simp only[P])
 go_region_law_o (refine i9 rfl _ _ 39 39 rfl _ _ (by simp[Act.eval,Act.put]) (by simp[Act.eval,Act.put]) (o _ _ _) ?_)
 go_wp2_with (at_builtin;refine dO _ rfl _ _ 39 39 rfl _ _ rfl rfl (J _ (λ_=>rfl) (λ_=>rfl) _ _) ?_)
 go_ret
 first|exact⟨rfl,rfl⟩|exact⟨rfl,by rw[d]⟩
variable{q:Value}{H:TypeInfo}
def Fw(J : Tryz.prog.info? 74=some H)(K:H.size=4)(V:H.zero=some q)(X:q.cells.size=4)(L:H.bytes=32)(w:World)(g n c i r m Y:Nat)(olds vs:List Value)(hm:m=1)(hi:i<n)(hn63:n<=1073741824)(hnc:n<=c)(C:c<n+m)(M:olds.length=n*4)(N:vs.length=4)(Z:∀t u,olds[t]? = some u->cel w g t=some u)(T:∀t u,vs[t]? = some u->cel w r t=some u)(h1:∀u∈olds,u.oneCell'=true)(h2:∀u∈vs,u.oneCell'=true) :
  Calls Tryz.prog 67 #[.slice (some ⟨g,0,none⟩) n c,.int .i64 i,.slice (some ⟨r,0,none⟩) m Y] w λe w'=>e=.returned (.slice (some ⟨w.heap.size,0,none⟩) (n+m) (grownCap w (n+m) c 74))/\
   w'=(((w.alloc (.cells ((olds.take (i*4)).toArray++Builtin.zeroCells q.cells (n+m - i)++Builtin.zeroCells q.cells (grownCap w (n+m) c 74 - (n+m))) 74)).drew.setCells w.heap.size (i*4) vs).drew).setCells w.heap.size ((i+m)*4) (olds.drop (i*4)):=by
 have mixed : Tryz.prog.follows .mixedOrders=true:=by kernel_rfl
 have hm1:0<m:=ω
 have hm2:m<=1:=ω
 clear hm;have hz1:¬((m:Int)=0):=ω
 have hz2:¬((i:Int)=(n:Int)):=ω
 have hz3:(c:Int)<(n:Int)+(m:Int):=ω
 have O:(Tryz.prog.info? 74).map (·.size)=some 4:=by rw[J];simp[K]
 have hbw:g<w.heap.size:=block_lt_of_cell (Z 0 _ (O2 ω));have hvw:r<w.heap.size:=block_lt_of_cell (T 0 _ (O2 ω));have P:(n:Int)+(m:Int) - (i:Int)=((n+m - i:Nat):Int):=ω
 have D:i+(n+m - i)=n+m:=ω
 have y:(Builtin.firstCells H.size i (.slice (some ⟨g,0,none⟩) i c)).run Tryz.prog w.drew=.ok (olds.take (i*4)).toArray w.drew:=by
  rw[K];exact run_firstCells_some w.drew 4 i ⟨g,0,none⟩ i c (olds.take (i*4)) (by rw[V1];omega) (λj v a=>by
    rw[Addr.add_lit,Z6];rw[List.getElem?_take]at a;split at a
    · exact Z j v a
    cases a)
 have p:∀d,(Builtin.append_ #[39,3] d #[.slice (some ⟨g,0,none⟩) i c,.int .i64 ((n:Int)+(m:Int) - (i:Int))]).run Tryz.prog w =
   .ok (.slice (some ⟨w.heap.size,0,none⟩) (n+m) (grownCap w (n+m) c 74)) (w.drew.alloc (.cells ((olds.take (i*4)).toArray++Builtin.zeroCells q.cells (n+m - i)++Builtin.zeroCells q.cells (grownCap w (n+m) c 74 - (n+m))) 74)):=λd=>by
  have h:=Lib.run_append_grow_zeros w 39 3 d 74 H _ .i64 .i64 Tryz.underlying39 Tryz.underlying3 J V (some ⟨g,0,none⟩) i c (olds.take (i*4)) y (n+m - i) ω ω ω ω (by rw[L];omega) (by rw[L,D];exact growslice_fits C ω);rw[D]at h;rw[P];exact h
 obtain⟨G,U⟩ : ∃G,G=grownCap w (n+m) c 74:=⟨_,rfl⟩
 obtain⟨ROW,k⟩ : ∃ROW:Array Value,ROW=(olds.take (i*4)).toArray++Builtin.zeroCells q.cells (n+m - i)++Builtin.zeroCells q.cells (G - (n+m)):=⟨_,rfl⟩
 rw[<-U]at p |-;rw[<-k]at p |-;have hRl:(n+m)*4<=ROW.size:=by
  rw[k];simp only[Array.size_append,List.size_toArray,V1,size_zeroCells,X,M];omega
 obtain⟨o,b⟩ : ∃o,o=w.drew.alloc (.cells ROW 74):=⟨_,rfl⟩
 rw[<-b]at p;have hN:∀j,j<(n+m)*4->(o.cell? ⟨w.heap.size,j,none⟩).isSome=true:=λj a=>by
  rw[b,World.cell?_alloc_at (w:=w.drew) ROW _ w.heap.size j rfl,U6 ω];rfl
 have Q:∀j,o.frozen? ⟨w.heap.size,j,none⟩ = false:=λj=>by rw[b];exact World.frozen?_alloc_at (w:=w.drew) ROW _ w.heap.size j rfl
 have hOb:∀j v,w.cell? ⟨g,j,none⟩ = some v->o.cell? ⟨g,j,none⟩ = some v:=λj v h=>by rw[b,World.cell?_alloc_past (w:=w.drew) _ g j hbw];exact h
 have hOv:∀j v,w.cell? ⟨r,j,none⟩ = some v->o.cell? ⟨r,j,none⟩ = some v:=λj v h=>by rw[b,World.cell?_alloc_past (w:=w.drew) _ r j hvw];exact h
 have R:∀(W:World),(∀x,W.cell? x=o.cell? x)->(∀x,W.frozen? x=o.frozen? x)->∀d E,(Builtin.copy_ #[39,39] d #[.slice (some ⟨w.heap.size,i*4,none⟩) (n+m - i) E,.slice (some ⟨r,0,none⟩) m Y]).run Tryz.prog W=.ok (goInt ((1:Nat):Int)) (W.setCells w.heap.size (i*4) vs):=λW l F d E=>
  eA W _ _ d 74 4 w.heap.size (i*4) (n+m - i) E ⟨r,0,none⟩ m Y 1 vs Tryz.underlying39 O (by simp only[Nat.min_def];split<;>omega) ω
   (λj v a=>by rw[Addr.add_lit,Z6,l];exact hOv _ v (T j v a))
   (λj a=>by rw[l];rw[N]at a;exact hN _ ω) (λj a=>by rw[F];exact Q _) h2
 have hGn:n+m<=G:=by rw[U];exact grownCap_ge w _ _ _
 have hG63:G<=9223372036854775807:=by
  have:=grownCap_le_maxLen w (n+m) c 74 (by unfold maxLen;omega);rw[<-U]at this;unfold maxLen at this;omega
 have hGi:¬(G=i):=ω
 have hGim:¬(G=i+m):=ω
 have hci:¬(c=i):=ω
 have hbN:g≠w.heap.size:=ω
 have S:(olds.drop (i*4)).length=(n - i)*4:=by rw[V3,M];omega
 have B:∀(W:World),(∀x,W.cell? x=(o.setCells w.heap.size (i*4) vs).cell? x)->(∀x,W.frozen? x=(o.setCells w.heap.size (i*4) vs).frozen? x)->∀d E sc,(Builtin.copy_ #[39,39] d #[.slice (some ⟨w.heap.size,(i+m)*4,none⟩) (n+m - (i+m)) E,.slice (some ⟨g,i*4,none⟩) (n - i) sc]).run Tryz.prog W=.ok (goInt ((n - i:Nat):Int)) (W.setCells w.heap.size ((i+m)*4) (olds.drop (i*4))):=λW l F d E sc=>
  eA W _ _ d 74 4 w.heap.size ((i+m)*4) (n+m - (i+m)) E ⟨g,i*4,none⟩ (n - i) sc (n - i) (olds.drop (i*4)) Tryz.underlying39 O (by simp only[Nat.min_def];split<;>omega) S
   (λj v a=>by
     rw[Addr.add_lit,l,World.cell?_setCells_out _ _ _ _ _ (λh _=>absurd h hbN)];exact hOb _ v (Z (i*4+j) v (by rwa [List.getElem?_drop]at a)))
   (λj a=>by rw[l];rw[S]at a;exact kV _ _ _ _ (λt ht=>by rw[N]at ht;exact hN _ ω) _ (hN _ ω))
   (λj a=>by rw[F,World.frozen?_setCells];exact Q _) (λv T=>h1 v (List.mem_of_mem_drop T))
 subst b;have hE1:∀x,((w.alloc (.cells ROW 74)).drew).cell? x=(w.drew.alloc (.cells ROW 74)).cell? x:=λx=>rfl
 have hE2:∀x,((w.alloc (.cells ROW 74)).drew).frozen? x=(w.drew.alloc (.cells ROW 74)).frozen? x:=λx=>rfl
 have hF1:∀x,(((w.alloc (.cells ROW 74)).drew.setCells w.heap.size (i*4) vs).drew).cell? x=((w.drew.alloc (.cells ROW 74)).setCells w.heap.size (i*4) vs).cell? x:=λx=>rfl
 have hF2:∀x,(((w.alloc (.cells ROW 74)).drew.setCells w.heap.size (i*4) vs).drew).frozen? x=((w.drew.alloc (.cells ROW 74)).setCells w.heap.size (i*4) vs).frozen? x:=λx=>rfl
 have hw1:IntKind.i64.wrap ((i:Int)+(m:Int))=(i:Int)+(m:Int):=by rw[IntKind.wrap_i64];omega
 have hw2:IntKind.i64.wrap ((n:Int)+(m:Int))=(n:Int)+(m:Int):=by rw[IntKind.wrap_i64];omega
 have hw3:IntKind.i64.wrap ((n:Int)+(m:Int) - (i:Int))=(n:Int)+(m:Int) - (i:Int):=by rw[IntKind.wrap_i64];omega
 have hb1:(0:Int)<=(i:Int)+(m:Int):=ω
 have hin:i<=n:=ω
 have htn:((i:Int)+(m:Int)).toNat=i+m:=ω
 have hb3:(i:Int)<=(n:Int):=ω
 clear P D y k U hRl
 go_enter Tryz.func67,Tryz.ntmps67
 go_wp2_with (first
   | (at_builtin;refine Lib.wpList_append_run _ rfl _ _ _ _ rfl _ _ rfl rfl _ _ (p _) ?_)
   | (at_builtin;refine dO _ rfl _ _ 39 39 rfl _ _ rfl rfl (R _ hE1 hE2 _ _) ?_)
   | (at_builtin;refine dO _ rfl _ _ 39 39 rfl _ _ rfl rfl (B _ (λ_=>rfl) (λ_=>rfl) _ _ _) ?_))
 go_region_law_o (refine i9 rfl _ _ 39 39 rfl (.slice (some ⟨w.heap.size,(i+m)*4,none⟩) (n+m - (i+m)) (G - (i+m))) (.slice (some ⟨g,i*4,none⟩) (n - i) (c - i)) (by simp[Act.eval,Act.put]) (by simp[Act.eval,Act.put]) (B _ hF1 hF2 3 (G - (i+m)) (c - i)) ?_)
 go_wp2
 go_ret
 exact⟨rfl,rfl⟩
def Hj:Bo Tryz.prog 67 4 39 32:=by
 refine⟨⟨_,Tryz.func67,by kernel_rfl,by kernel_rfl⟩,Hx,λw g n c i K m L olds M l o r h P b d u N p q j y B=>?_⟩;obtain⟨Q,R,C,D,E,k,F,G⟩:=wG;by_cases a:n+m<=c
 ·refine(BZ w g n c i K m L olds M l o h a b d u N p q j y B).mono λe O ⟨H,J⟩=>?_
  subst l;rw[J];exact⟨g,c,H,a,pG o a b d u p q j⟩
 refine(Fw C D E k G w g n c i K m L olds M l o h r ω b d u N p q).mono λe O ⟨H,J⟩=>?_
 subst l;rw[J,we];exact⟨_,_,H,grownCap_ge w _ _ _,rd (e:=74) rfl rfl rfl rfl o (grownCap_ge w _ _ _) k F b d p q⟩
def uU(xs:List bt):RD (xs.map (bt.enc .own)):=λr b c a=>by
 obtain⟨s,-,rfl⟩:=O4.1 b;simp[bt.enc]at a;rcases a with rfl|rfl|rfl|rfl<;>exact⟨_,rfl⟩
def yE(xs:List bt)(i:Nat)(x:bt)(j:i<=xs.length)(k:xs.length+1<=1073741824):zzB 67 false [.mut none [.s .own (xs.map (bt.enc .own))],.val none [I (i:Nat)],.mut none [.s .own [bt.enc .own x]]] [.mut none [.x],.val none [I (i:Nat)],.mut none [.x]] .one [.s .own ((inse xs i x).map (bt.enc .own))]:=by
 obtain⟨l,n,c,a,d,e,g,b⟩:=wG;have h:=H8 (row:=bt.enc .own x) Tryz.underlying39 c a d (by rw[a,e]) g (by rw[b];decide) (by rw[b];exact Hj) (rows:=xs.map (bt.enc .own)) (i:=i) (by rw[C1];exact j) (aV λ_=>rfl) rfl (by decide) (uU xs) (uU [x]) (by rw[C1];exact k)
 rwa [wL]at h
def qW:∃(b:TypeInfo)(c:Value),Tryz.prog.info? 175=some b/\b.size=3/\b.zero=some c/\c.cells.size=3/\(∀v∈c.cells.toList,v.oneCell'=true)/\b.bytes=24:=by
 have h:=(qK 175 _ rfl).1;cases e : Tryz.prog.info? 175 with
 | none=>rw[e]at h;cases h
 | some x=>
  rw[e]at h;simp only[I5,Z0,Prod.mk.injEq]at h;obtain⟨a,g,i⟩:=h;cases d:x.zero with
  | none=>rw[d]at a;cases a
  | some z=>
   rw[d]at a;simp only[I5,Z0]at a;refine⟨x,z,rfl,g,d,?_,λv f=>?_,i⟩
   ·rw[<-Array.length_toList,a];rfl
   rw[a]at f;have j:(List.map cval [I 0,I 0,I 0]).all (λv=>v.oneCell')=true:=rfl;exact v4.1 j v f
def DB:∀w,(Go.sizeOf 175).run Tryz.prog w=.ok 3 w:=λ_=>by kernel_rfl
def DG(w w1:World)(base:Option Addr)(n c d m g:Nat)(r:Value)(i:m=1)(j:n<=c)(h:n<=1073741824)(k:base=none->n=0/\c=0)(b:(Builtin.append_ #[38,38] 38 #[.slice base n c,.slice (some ⟨d,0,none⟩) m g]).run Tryz.prog w=.ok r w1) :
  Calls Tryz.prog 192 #[.slice base n c,.int .i64 n,.slice (some ⟨d,0,none⟩) m g] w λe l=>e=.returned r/\l=w1:=by
 have mixed : Tryz.prog.follows .mixedOrders=true:=by kernel_rfl
 have o:0<m:=ω
 have p:m<=1:=ω
 clear i;have q:¬((m:Int)=0):=ω
 go_enter Tryz.func192,Tryz.ntmps192
 cases base with
 | none=>
  obtain⟨rfl,rfl⟩:=k rfl
  go_wp2_with (at_builtin;refine Lib.wpList_append_run _ rfl _ _ _ _ rfl _ _ rfl rfl _ _ b ?_)
  go_ret
  exact⟨rfl,rfl⟩
 | some a=>
  obtain⟨u,y,asp⟩:=a
  go_wp2_with (at_builtin;refine Lib.wpList_append_run _ rfl _ _ _ _ rfl _ _ rfl rfl _ _ b ?_)
  all_goals(go_ret;exact⟨rfl,rfl⟩)
def wY(w:World)(g n c i p m C:Nat)(olds vs:List Value)(Z:m=1)(hi:i<n)(X:n<=1073741824)(M:n+m<=c)(N:olds.length=n*3)(D:vs.length=3)(ho:∀t u,olds[t]? = some u->cel w g t=some u)(L:∀t u,vs[t]? = some u->cel w p t=some u)(h1:∀u∈olds,u.oneCell'=true)(h2:∀u∈vs,u.oneCell'=true)(b:∀q,q<c*3->(∃z,cel w g q=some z/\z.oneCell'=true)/\fro w g q=NF)(O:fro w p 0=NF)(E:p≠g) :
  Calls Tryz.prog 192 #[.slice (some ⟨g,0,none⟩) n c,.int .i64 i,.slice (some ⟨p,0,none⟩) m C] w λe w'=>e=.returned (.slice (some ⟨g,0,none⟩) (n+m) c)/\w'=(w.drew.setCells g ((i+m)*3) (olds.drop (i*3))).setCells g (i*3) vs:=by
 have mixed : Tryz.prog.follows .mixedOrders=true:=by kernel_rfl
 have hm1:0<m:=ω
 have hm2:m<=1:=ω
 clear Z;have hz1:¬((m:Int)=0):=ω
 have hz2:¬((i:Int)=(n:Int)):=ω
 have hz3:¬((c:Int)<(n:Int)+(m:Int)):=ω
 have F:(Tryz.prog.info? 175).map (·.size)=some 3:=by obtain⟨i0,z0,e1,e2,-⟩:=qW;rw[e1];simp[e2]
 have cell:∀q,q<(n+m)*3->(w.cell? ⟨g,q,none⟩).isSome=true/\w.frozen? ⟨g,q,none⟩ = false:=λq Y=>by
  obtain⟨⟨z,hz,-⟩,hf⟩:=b q ω;exact⟨by show(cel w g q).isSome=true;rw[hz];rfl,X0 Prod.fst hf⟩
 have P:∀Q R,(callFunc 343 #[.slice (some ⟨p,0,none⟩) m C,.slice (some ⟨g,(i+m)*3,none⟩) Q R]).run Tryz.prog w=.ok (.value (.bool false)) w:=λQ R=>by
  obtain⟨y,hy⟩ : ∃y,vs[0]? = some y:=⟨_,O2 ω⟩
  obtain⟨⟨y',S,-⟩,T⟩:=b 0 ω;rw[run_callFunc_extern Tryz.func343 (by kernel_rfl) (by kernel_rfl) (by kernel_rfl) (e:=Extern.SlicesOverlaps.overlaps #[38,38] #[4]) (by kernel_rfl),
    oJ (e:=175) (k:=3) Tryz.underlying38 DB E (L 0 y hy) O S T _ m C Q R]
  rfl
 have l:(olds.drop (i*3)).length=(n - i)*3:=by rw[V3,N];omega
 have hw1:IntKind.i64.wrap ((i:Int)+(m:Int))=(i:Int)+(m:Int):=by rw[IntKind.wrap_i64];omega
 have hw2:IntKind.i64.wrap ((n:Int)+(m:Int))=(n:Int)+(m:Int):=by rw[IntKind.wrap_i64];omega
 have hb1:(0:Int)<=(i:Int)+(m:Int):=ω
 have hin:i<=n:=ω
 have htn:((i:Int)+(m:Int)).toNat=i+m:=ω
 have hb2:¬(c=i+m):=ω
 have hb3:(i:Int)<=(n:Int)+(m:Int):=ω
 have hb4:¬(c=i):=ω
 have o:∀r B U,(Builtin.copy_ #[38,38] r #[.slice (some ⟨g,(i+m)*3,none⟩) (n+m - (i+m)) B,.slice (some ⟨g,i*3,none⟩) (n+m - i) U]).run Tryz.prog w.drew=.ok (goInt ((n - i:Nat):Int)) (w.drew.setCells g ((i+m)*3) (olds.drop (i*3))):=λr B U=>
  eA w.drew _ _ r 175 3 g ((i+m)*3) (n+m - (i+m)) B ⟨g,i*3,none⟩ (n+m - i) U (n - i) (olds.drop (i*3)) Tryz.underlying38 F (by simp only[Nat.min_def];split<;>omega) l
   (λj v a=>by rw[Addr.add_lit];exact ho (i*3+j) v (by rwa [List.getElem?_drop]at a))
   (λj a=>by rw[l]at a;exact(cell _ ω).1) (λj a=>by rw[l]at a;exact(cell _ ω).2) (λv L=>h1 v (List.mem_of_mem_drop L))
 obtain⟨G,d⟩ : ∃G,G=w.drew.setCells g ((i+m)*3) (olds.drop (i*3)):=⟨_,rfl⟩
 have H:∀q,q<(n+m)*3->(G.cell? ⟨g,q,none⟩).isSome=true:=λq Y=>by
  rw[d];exact kV g _ _ _ (λj a=>by rw[l]at a;exact(cell _ ω).1) _ (cell q Y).1
 have J:∀(W:World),(∀x,W.cell? x=G.cell? x)->(∀x,W.frozen? x=G.frozen? x)->∀r B,(Builtin.copy_ #[38,38] r #[.slice (some ⟨g,i*3,none⟩) (n+m - i) B,.slice (some ⟨p,0,none⟩) m C]).run Tryz.prog W=.ok (goInt ((1:Nat):Int)) (W.setCells g (i*3) vs):=λW K V r B=>
  eA W _ _ r 175 3 g (i*3) (n+m - i) B ⟨p,0,none⟩ m C 1 vs Tryz.underlying38 F (by simp only[Nat.min_def];split<;>omega) ω
   (λj v a=>by
     rw[Addr.add_lit,Z6,K,d,World.cell?_setCells_out g _ _ _ _ (λh _=>absurd h E)];exact L j v a)
   (λj a=>by rw[K];rw[D]at a;exact H _ ω) (λj a=>by rw[V,d,World.frozen?_setCells];rw[D]at a;exact(cell _ ω).2) h2
 rw[<-d]at o;clear cell b
 go_enter Tryz.func192,Tryz.ntmps192
 go_wp2_with (simp only[P])
 go_region_law_o (refine i9 rfl _ _ 38 38 rfl _ _ (by simp[Act.eval,Act.put]) (by simp[Act.eval,Act.put]) (o _ _ _) ?_)
 go_wp2_with (at_builtin;refine dO _ rfl _ _ 38 38 rfl _ _ rfl rfl (J _ (λ_=>rfl) (λ_=>rfl) _ _) ?_)
 go_ret
 first|exact⟨rfl,rfl⟩|exact⟨rfl,by rw[d]⟩
def zL(J : Tryz.prog.info? 175=some H)(K:H.size=3)(V:H.zero=some q)(X:q.cells.size=3)(L:H.bytes=24)(w:World)(g n c i r m Y:Nat)(olds vs:List Value)(hm:m=1)(hi:i<n)(hn63:n<=1073741824)(hnc:n<=c)(C:c<n+m)(M:olds.length=n*3)(N:vs.length=3)(Z:∀t u,olds[t]? = some u->cel w g t=some u)(T:∀t u,vs[t]? = some u->cel w r t=some u)(h1:∀u∈olds,u.oneCell'=true)(h2:∀u∈vs,u.oneCell'=true) :
  Calls Tryz.prog 192 #[.slice (some ⟨g,0,none⟩) n c,.int .i64 i,.slice (some ⟨r,0,none⟩) m Y] w λe w'=>e=.returned (.slice (some ⟨w.heap.size,0,none⟩) (n+m) (grownCap w (n+m) c 175))/\
   w'=(((w.alloc (.cells ((olds.take (i*3)).toArray++Builtin.zeroCells q.cells (n+m - i)++Builtin.zeroCells q.cells (grownCap w (n+m) c 175 - (n+m))) 175)).drew.setCells w.heap.size (i*3) vs).drew).setCells w.heap.size ((i+m)*3) (olds.drop (i*3)):=by
 have mixed : Tryz.prog.follows .mixedOrders=true:=by kernel_rfl
 have hm1:0<m:=ω
 have hm2:m<=1:=ω
 clear hm;have hz1:¬((m:Int)=0):=ω
 have hz2:¬((i:Int)=(n:Int)):=ω
 have hz3:(c:Int)<(n:Int)+(m:Int):=ω
 have O:(Tryz.prog.info? 175).map (·.size)=some 3:=by rw[J];simp[K]
 have hbw:g<w.heap.size:=block_lt_of_cell (Z 0 _ (O2 ω));have hvw:r<w.heap.size:=block_lt_of_cell (T 0 _ (O2 ω));have P:(n:Int)+(m:Int) - (i:Int)=((n+m - i:Nat):Int):=ω
 have D:i+(n+m - i)=n+m:=ω
 have y:(Builtin.firstCells H.size i (.slice (some ⟨g,0,none⟩) i c)).run Tryz.prog w.drew=.ok (olds.take (i*3)).toArray w.drew:=by
  rw[K];exact run_firstCells_some w.drew 3 i ⟨g,0,none⟩ i c (olds.take (i*3)) (by rw[V1];omega) (λj v a=>by
    rw[Addr.add_lit,Z6];rw[List.getElem?_take]at a;split at a
    · exact Z j v a
    cases a)
 have p:∀d,(Builtin.append_ #[38,3] d #[.slice (some ⟨g,0,none⟩) i c,.int .i64 ((n:Int)+(m:Int) - (i:Int))]).run Tryz.prog w =
   .ok (.slice (some ⟨w.heap.size,0,none⟩) (n+m) (grownCap w (n+m) c 175)) (w.drew.alloc (.cells ((olds.take (i*3)).toArray++Builtin.zeroCells q.cells (n+m - i)++Builtin.zeroCells q.cells (grownCap w (n+m) c 175 - (n+m))) 175)):=λd=>by
  have h:=Lib.run_append_grow_zeros w 38 3 d 175 H _ .i64 .i64 Tryz.underlying38 Tryz.underlying3 J V (some ⟨g,0,none⟩) i c (olds.take (i*3)) y (n+m - i) ω ω ω ω (by rw[L];omega) (by rw[L,D];exact growslice_fits C ω);rw[D]at h;rw[P];exact h
 obtain⟨G,U⟩ : ∃G,G=grownCap w (n+m) c 175:=⟨_,rfl⟩
 obtain⟨ROW,k⟩ : ∃ROW:Array Value,ROW=(olds.take (i*3)).toArray++Builtin.zeroCells q.cells (n+m - i)++Builtin.zeroCells q.cells (G - (n+m)):=⟨_,rfl⟩
 rw[<-U]at p |-;rw[<-k]at p |-;have hRl:(n+m)*3<=ROW.size:=by
  rw[k];simp only[Array.size_append,List.size_toArray,V1,size_zeroCells,X,M];omega
 obtain⟨o,b⟩ : ∃o,o=w.drew.alloc (.cells ROW 175):=⟨_,rfl⟩
 rw[<-b]at p;have hN:∀j,j<(n+m)*3->(o.cell? ⟨w.heap.size,j,none⟩).isSome=true:=λj a=>by
  rw[b,World.cell?_alloc_at (w:=w.drew) ROW _ w.heap.size j rfl,U6 ω];rfl
 have Q:∀j,o.frozen? ⟨w.heap.size,j,none⟩ = false:=λj=>by rw[b];exact World.frozen?_alloc_at (w:=w.drew) ROW _ w.heap.size j rfl
 have hOb:∀j v,w.cell? ⟨g,j,none⟩ = some v->o.cell? ⟨g,j,none⟩ = some v:=λj v h=>by rw[b,World.cell?_alloc_past (w:=w.drew) _ g j hbw];exact h
 have hOv:∀j v,w.cell? ⟨r,j,none⟩ = some v->o.cell? ⟨r,j,none⟩ = some v:=λj v h=>by rw[b,World.cell?_alloc_past (w:=w.drew) _ r j hvw];exact h
 have R:∀(W:World),(∀x,W.cell? x=o.cell? x)->(∀x,W.frozen? x=o.frozen? x)->∀d E,(Builtin.copy_ #[38,38] d #[.slice (some ⟨w.heap.size,i*3,none⟩) (n+m - i) E,.slice (some ⟨r,0,none⟩) m Y]).run Tryz.prog W=.ok (goInt ((1:Nat):Int)) (W.setCells w.heap.size (i*3) vs):=λW l F d E=>
  eA W _ _ d 175 3 w.heap.size (i*3) (n+m - i) E ⟨r,0,none⟩ m Y 1 vs Tryz.underlying38 O (by simp only[Nat.min_def];split<;>omega) ω
   (λj v a=>by rw[Addr.add_lit,Z6,l];exact hOv _ v (T j v a))
   (λj a=>by rw[l];rw[N]at a;exact hN _ ω) (λj a=>by rw[F];exact Q _) h2
 have hGn:n+m<=G:=by rw[U];exact grownCap_ge w _ _ _
 have hG63:G<=9223372036854775807:=by
  have:=grownCap_le_maxLen w (n+m) c 175 (by unfold maxLen;omega);rw[<-U]at this;unfold maxLen at this;omega
 have hGi:¬(G=i):=ω
 have hGim:¬(G=i+m):=ω
 have hci:¬(c=i):=ω
 have hbN:g≠w.heap.size:=ω
 have S:(olds.drop (i*3)).length=(n - i)*3:=by rw[V3,M];omega
 have B:∀(W:World),(∀x,W.cell? x=(o.setCells w.heap.size (i*3) vs).cell? x)->(∀x,W.frozen? x=(o.setCells w.heap.size (i*3) vs).frozen? x)->∀d E sc,(Builtin.copy_ #[38,38] d #[.slice (some ⟨w.heap.size,(i+m)*3,none⟩) (n+m - (i+m)) E,.slice (some ⟨g,i*3,none⟩) (n - i) sc]).run Tryz.prog W=.ok (goInt ((n - i:Nat):Int)) (W.setCells w.heap.size ((i+m)*3) (olds.drop (i*3))):=λW l F d E sc=>
  eA W _ _ d 175 3 w.heap.size ((i+m)*3) (n+m - (i+m)) E ⟨g,i*3,none⟩ (n - i) sc (n - i) (olds.drop (i*3)) Tryz.underlying38 O (by simp only[Nat.min_def];split<;>omega) S
   (λj v a=>by
     rw[Addr.add_lit,l,World.cell?_setCells_out _ _ _ _ _ (λh _=>absurd h hbN)];exact hOb _ v (Z (i*3+j) v (by rwa [List.getElem?_drop]at a)))
   (λj a=>by rw[l];rw[S]at a;exact kV _ _ _ _ (λt ht=>by rw[N]at ht;exact hN _ ω) _ (hN _ ω))
   (λj a=>by rw[F,World.frozen?_setCells];exact Q _) (λv T=>h1 v (List.mem_of_mem_drop T))
 subst b;have hE1:∀x,((w.alloc (.cells ROW 175)).drew).cell? x=(w.drew.alloc (.cells ROW 175)).cell? x:=λx=>rfl
 have hE2:∀x,((w.alloc (.cells ROW 175)).drew).frozen? x=(w.drew.alloc (.cells ROW 175)).frozen? x:=λx=>rfl
 have hF1:∀x,(((w.alloc (.cells ROW 175)).drew.setCells w.heap.size (i*3) vs).drew).cell? x=((w.drew.alloc (.cells ROW 175)).setCells w.heap.size (i*3) vs).cell? x:=λx=>rfl
 have hF2:∀x,(((w.alloc (.cells ROW 175)).drew.setCells w.heap.size (i*3) vs).drew).frozen? x=((w.drew.alloc (.cells ROW 175)).setCells w.heap.size (i*3) vs).frozen? x:=λx=>rfl
 have hw1:IntKind.i64.wrap ((i:Int)+(m:Int))=(i:Int)+(m:Int):=by rw[IntKind.wrap_i64];omega
 have hw2:IntKind.i64.wrap ((n:Int)+(m:Int))=(n:Int)+(m:Int):=by rw[IntKind.wrap_i64];omega
 have hw3:IntKind.i64.wrap ((n:Int)+(m:Int) - (i:Int))=(n:Int)+(m:Int) - (i:Int):=by rw[IntKind.wrap_i64];omega
 have hb1:(0:Int)<=(i:Int)+(m:Int):=ω
 have hin:i<=n:=ω
 have htn:((i:Int)+(m:Int)).toNat=i+m:=ω
 have hb3:(i:Int)<=(n:Int):=ω
 clear P D y k U hRl
 go_enter Tryz.func192,Tryz.ntmps192
 go_wp2_with (first
   | (at_builtin;refine Lib.wpList_append_run _ rfl _ _ _ _ rfl _ _ rfl rfl _ _ (p _) ?_)
   | (at_builtin;refine dO _ rfl _ _ 38 38 rfl _ _ rfl rfl (R _ hE1 hE2 _ _) ?_)
   | (at_builtin;refine dO _ rfl _ _ 38 38 rfl _ _ rfl rfl (B _ (λ_=>rfl) (λ_=>rfl) _ _ _) ?_))
 go_region_law_o (refine i9 rfl _ _ 38 38 rfl (.slice (some ⟨w.heap.size,(i+m)*3,none⟩) (n+m - (i+m)) (G - (i+m))) (.slice (some ⟨g,i*3,none⟩) (n - i) (c - i)) (by simp[Act.eval,Act.put]) (by simp[Act.eval,Act.put]) (B _ hF1 hF2 3 (G - (i+m)) (c - i)) ?_)
 go_wp2
 go_ret
 exact⟨rfl,rfl⟩
def D4:Bo Tryz.prog 192 3 38 24:=by
 refine⟨⟨_,Tryz.func192,by kernel_rfl,by kernel_rfl⟩,DG,λw g n c i K m L olds M l o r h P b d u N p q j y B=>?_⟩;obtain⟨Q,R,C,D,E,k,F,G⟩:=qW;by_cases a:n+m<=c
 ·refine(wY w g n c i K m L olds M l o h a b d u N p q j y B).mono λe O ⟨H,J⟩=>?_
  subst l;rw[J];exact⟨g,c,H,a,pG o a b d u p q j⟩
 refine(zL C D E k G w g n c i K m L olds M l o h r ω b d u N p q).mono λe O ⟨H,J⟩=>?_
 subst l;rw[J,we];exact⟨_,_,H,grownCap_ge w _ _ _,rd (e:=175) rfl rfl rfl rfl o (grownCap_ge w _ _ _) k F b d p q⟩
def qt(xs:List aD):RD (xs.map (aD.enc .own)):=λr b c a=>by
 obtain⟨s,-,rfl⟩:=O4.1 b;simp[aD.enc]at a;rcases a with rfl|rfl|rfl<;>exact⟨_,rfl⟩
def BE(xs:List aD)(i:Nat)(x:aD)(j:i<=xs.length)(k:xs.length+1<=1073741824):zzB 192 false [.mut none [.s .own (xs.map (aD.enc .own))],.val none [I (i:Nat)],.mut none [.s .own [aD.enc .own x]]] [.mut none [.x],.val none [I (i:Nat)],.mut none [.x]] .one [.s .own ((inse xs i x).map (aD.enc .own))]:=by
 obtain⟨l,n,c,a,d,e,g,b⟩:=qW;have h:=H8 (row:=aD.enc .own x) Tryz.underlying38 c a d (by rw[a,e]) g (by rw[b];decide) (by rw[b];exact D4) (rows:=xs.map (aD.enc .own)) (i:=i) (by rw[C1];exact j) (aV λ_=>rfl) rfl (by decide) (qt xs) (qt [x]) (by rw[C1];exact k)
 rwa [wL]at h
def uj:∃(b:TypeInfo)(c:Value),Tryz.prog.info? 267=some b/\b.size=3/\b.zero=some c/\c.cells.size=3/\(∀v∈c.cells.toList,v.oneCell'=true)/\b.bytes=24:=by
 have h:=(qK 267 _ rfl).1;cases e : Tryz.prog.info? 267 with
 | none=>rw[e]at h;cases h
 | some x=>
  rw[e]at h;simp only[I5,Z0,Prod.mk.injEq]at h;obtain⟨a,g,i⟩:=h;cases d:x.zero with
  | none=>rw[d]at a;cases a
  | some z=>
   rw[d]at a;simp only[I5,Z0]at a;refine⟨x,z,rfl,g,d,?_,λv f=>?_,i⟩
   ·rw[<-Array.length_toList,a];rfl
   rw[a]at f;have j:(List.map cval [I 0,I 0,I 0]).all (λv=>v.oneCell')=true:=rfl;exact v4.1 j v f
def Gg:∀w,(Go.sizeOf 267).run Tryz.prog w=.ok 3 w:=λ_=>by kernel_rfl
def E2(w w1:World)(base:Option Addr)(n c d m g:Nat)(r:Value)(i:m=1)(j:n<=c)(h:n<=1073741824)(k:base=none->n=0/\c=0)(b:(Builtin.append_ #[37,37] 37 #[.slice base n c,.slice (some ⟨d,0,none⟩) m g]).run Tryz.prog w=.ok r w1) :
  Calls Tryz.prog 342 #[.slice base n c,.int .i64 n,.slice (some ⟨d,0,none⟩) m g] w λe l=>e=.returned r/\l=w1:=by
 have mixed : Tryz.prog.follows .mixedOrders=true:=by kernel_rfl
 have o:0<m:=ω
 have p:m<=1:=ω
 clear i;have q:¬((m:Int)=0):=ω
 go_enter Tryz.func342,Tryz.ntmps342
 cases base with
 | none=>
  obtain⟨rfl,rfl⟩:=k rfl
  go_wp2_with (at_builtin;refine Lib.wpList_append_run _ rfl _ _ _ _ rfl _ _ rfl rfl _ _ b ?_)
  go_ret
  exact⟨rfl,rfl⟩
 | some a=>
  obtain⟨u,y,asp⟩:=a
  go_wp2_with (at_builtin;refine Lib.wpList_append_run _ rfl _ _ _ _ rfl _ _ rfl rfl _ _ b ?_)
  all_goals(go_ret;exact⟨rfl,rfl⟩)
def zJ(w:World)(g n c i p m C:Nat)(olds vs:List Value)(Z:m=1)(hi:i<n)(X:n<=1073741824)(M:n+m<=c)(N:olds.length=n*3)(D:vs.length=3)(ho:∀t u,olds[t]? = some u->cel w g t=some u)(L:∀t u,vs[t]? = some u->cel w p t=some u)(h1:∀u∈olds,u.oneCell'=true)(h2:∀u∈vs,u.oneCell'=true)(b:∀q,q<c*3->(∃z,cel w g q=some z/\z.oneCell'=true)/\fro w g q=NF)(O:fro w p 0=NF)(E:p≠g) :
  Calls Tryz.prog 342 #[.slice (some ⟨g,0,none⟩) n c,.int .i64 i,.slice (some ⟨p,0,none⟩) m C] w λe w'=>e=.returned (.slice (some ⟨g,0,none⟩) (n+m) c)/\w'=(w.drew.setCells g ((i+m)*3) (olds.drop (i*3))).setCells g (i*3) vs:=by
 have mixed : Tryz.prog.follows .mixedOrders=true:=by kernel_rfl
 have hm1:0<m:=ω
 have hm2:m<=1:=ω
 clear Z;have hz1:¬((m:Int)=0):=ω
 have hz2:¬((i:Int)=(n:Int)):=ω
 have hz3:¬((c:Int)<(n:Int)+(m:Int)):=ω
 have F:(Tryz.prog.info? 267).map (·.size)=some 3:=by obtain⟨i0,z0,e1,e2,-⟩:=uj;rw[e1];simp[e2]
 have cell:∀q,q<(n+m)*3->(w.cell? ⟨g,q,none⟩).isSome=true/\w.frozen? ⟨g,q,none⟩ = false:=λq Y=>by
  obtain⟨⟨z,hz,-⟩,hf⟩:=b q ω;exact⟨by show(cel w g q).isSome=true;rw[hz];rfl,X0 Prod.fst hf⟩
 have P:∀Q R,(callFunc 461 #[.slice (some ⟨p,0,none⟩) m C,.slice (some ⟨g,(i+m)*3,none⟩) Q R]).run Tryz.prog w=.ok (.value (.bool false)) w:=λQ R=>by
  obtain⟨y,hy⟩ : ∃y,vs[0]? = some y:=⟨_,O2 ω⟩
  obtain⟨⟨y',S,-⟩,T⟩:=b 0 ω;rw[run_callFunc_extern Tryz.func461 (by kernel_rfl) (by kernel_rfl) (by kernel_rfl) (e:=Extern.SlicesOverlaps.overlaps #[37,37] #[4]) (by kernel_rfl),
    oJ (e:=267) (k:=3) Tryz.underlying37 Gg E (L 0 y hy) O S T _ m C Q R]
  rfl
 have l:(olds.drop (i*3)).length=(n - i)*3:=by rw[V3,N];omega
 have hw1:IntKind.i64.wrap ((i:Int)+(m:Int))=(i:Int)+(m:Int):=by rw[IntKind.wrap_i64];omega
 have hw2:IntKind.i64.wrap ((n:Int)+(m:Int))=(n:Int)+(m:Int):=by rw[IntKind.wrap_i64];omega
 have hb1:(0:Int)<=(i:Int)+(m:Int):=ω
 have hin:i<=n:=ω
 have htn:((i:Int)+(m:Int)).toNat=i+m:=ω
 have hb2:¬(c=i+m):=ω
 have hb3:(i:Int)<=(n:Int)+(m:Int):=ω
 have hb4:¬(c=i):=ω
 have o:∀r B U,(Builtin.copy_ #[37,37] r #[.slice (some ⟨g,(i+m)*3,none⟩) (n+m - (i+m)) B,.slice (some ⟨g,i*3,none⟩) (n+m - i) U]).run Tryz.prog w.drew=.ok (goInt ((n - i:Nat):Int)) (w.drew.setCells g ((i+m)*3) (olds.drop (i*3))):=λr B U=>
  eA w.drew _ _ r 267 3 g ((i+m)*3) (n+m - (i+m)) B ⟨g,i*3,none⟩ (n+m - i) U (n - i) (olds.drop (i*3)) Tryz.underlying37 F (by simp only[Nat.min_def];split<;>omega) l
   (λj v a=>by rw[Addr.add_lit];exact ho (i*3+j) v (by rwa [List.getElem?_drop]at a))
   (λj a=>by rw[l]at a;exact(cell _ ω).1) (λj a=>by rw[l]at a;exact(cell _ ω).2) (λv L=>h1 v (List.mem_of_mem_drop L))
 obtain⟨G,d⟩ : ∃G,G=w.drew.setCells g ((i+m)*3) (olds.drop (i*3)):=⟨_,rfl⟩
 have H:∀q,q<(n+m)*3->(G.cell? ⟨g,q,none⟩).isSome=true:=λq Y=>by
  rw[d];exact kV g _ _ _ (λj a=>by rw[l]at a;exact(cell _ ω).1) _ (cell q Y).1
 have J:∀(W:World),(∀x,W.cell? x=G.cell? x)->(∀x,W.frozen? x=G.frozen? x)->∀r B,(Builtin.copy_ #[37,37] r #[.slice (some ⟨g,i*3,none⟩) (n+m - i) B,.slice (some ⟨p,0,none⟩) m C]).run Tryz.prog W=.ok (goInt ((1:Nat):Int)) (W.setCells g (i*3) vs):=λW K V r B=>
  eA W _ _ r 267 3 g (i*3) (n+m - i) B ⟨p,0,none⟩ m C 1 vs Tryz.underlying37 F (by simp only[Nat.min_def];split<;>omega) ω
   (λj v a=>by
     rw[Addr.add_lit,Z6,K,d,World.cell?_setCells_out g _ _ _ _ (λh _=>absurd h E)];exact L j v a)
   (λj a=>by rw[K];rw[D]at a;exact H _ ω) (λj a=>by rw[V,d,World.frozen?_setCells];rw[D]at a;exact(cell _ ω).2) h2
 rw[<-d]at o;clear cell b
 go_enter Tryz.func342,Tryz.ntmps342
 go_wp2_with (simp only[P])
 go_region_law_o (refine i9 rfl _ _ 37 37 rfl _ _ (by simp[Act.eval,Act.put]) (by simp[Act.eval,Act.put]) (o _ _ _) ?_)
 go_wp2_with (at_builtin;refine dO _ rfl _ _ 37 37 rfl _ _ rfl rfl (J _ (λ_=>rfl) (λ_=>rfl) _ _) ?_)
 go_ret
 first|exact⟨rfl,rfl⟩|exact⟨rfl,by rw[d]⟩
def D7(J : Tryz.prog.info? 267=some H)(K:H.size=3)(V:H.zero=some q)(X:q.cells.size=3)(L:H.bytes=24)(w:World)(g n c i r m Y:Nat)(olds vs:List Value)(hm:m=1)(hi:i<n)(hn63:n<=1073741824)(hnc:n<=c)(C:c<n+m)(M:olds.length=n*3)(N:vs.length=3)(Z:∀t u,olds[t]? = some u->cel w g t=some u)(T:∀t u,vs[t]? = some u->cel w r t=some u)(h1:∀u∈olds,u.oneCell'=true)(h2:∀u∈vs,u.oneCell'=true) :
  Calls Tryz.prog 342 #[.slice (some ⟨g,0,none⟩) n c,.int .i64 i,.slice (some ⟨r,0,none⟩) m Y] w λe w'=>e=.returned (.slice (some ⟨w.heap.size,0,none⟩) (n+m) (grownCap w (n+m) c 267))/\
   w'=(((w.alloc (.cells ((olds.take (i*3)).toArray++Builtin.zeroCells q.cells (n+m - i)++Builtin.zeroCells q.cells (grownCap w (n+m) c 267 - (n+m))) 267)).drew.setCells w.heap.size (i*3) vs).drew).setCells w.heap.size ((i+m)*3) (olds.drop (i*3)):=by
 have mixed : Tryz.prog.follows .mixedOrders=true:=by kernel_rfl
 have hm1:0<m:=ω
 have hm2:m<=1:=ω
 clear hm;have hz1:¬((m:Int)=0):=ω
 have hz2:¬((i:Int)=(n:Int)):=ω
 have hz3:(c:Int)<(n:Int)+(m:Int):=ω
 have O:(Tryz.prog.info? 267).map (·.size)=some 3:=by rw[J];simp[K]
 have hbw:g<w.heap.size:=block_lt_of_cell (Z 0 _ (O2 ω));have hvw:r<w.heap.size:=block_lt_of_cell (T 0 _ (O2 ω));have P:(n:Int)+(m:Int) - (i:Int)=((n+m - i:Nat):Int):=ω
 have D:i+(n+m - i)=n+m:=ω
 have y:(Builtin.firstCells H.size i (.slice (some ⟨g,0,none⟩) i c)).run Tryz.prog w.drew=.ok (olds.take (i*3)).toArray w.drew:=by
  rw[K];exact run_firstCells_some w.drew 3 i ⟨g,0,none⟩ i c (olds.take (i*3)) (by rw[V1];omega) (λj v a=>by
    rw[Addr.add_lit,Z6];rw[List.getElem?_take]at a;split at a
    · exact Z j v a
    cases a)
 have p:∀d,(Builtin.append_ #[37,3] d #[.slice (some ⟨g,0,none⟩) i c,.int .i64 ((n:Int)+(m:Int) - (i:Int))]).run Tryz.prog w =
   .ok (.slice (some ⟨w.heap.size,0,none⟩) (n+m) (grownCap w (n+m) c 267)) (w.drew.alloc (.cells ((olds.take (i*3)).toArray++Builtin.zeroCells q.cells (n+m - i)++Builtin.zeroCells q.cells (grownCap w (n+m) c 267 - (n+m))) 267)):=λd=>by
  have h:=Lib.run_append_grow_zeros w 37 3 d 267 H _ .i64 .i64 Tryz.underlying37 Tryz.underlying3 J V (some ⟨g,0,none⟩) i c (olds.take (i*3)) y (n+m - i) ω ω ω ω (by rw[L];omega) (by rw[L,D];exact growslice_fits C ω);rw[D]at h;rw[P];exact h
 obtain⟨G,U⟩ : ∃G,G=grownCap w (n+m) c 267:=⟨_,rfl⟩
 obtain⟨ROW,k⟩ : ∃ROW:Array Value,ROW=(olds.take (i*3)).toArray++Builtin.zeroCells q.cells (n+m - i)++Builtin.zeroCells q.cells (G - (n+m)):=⟨_,rfl⟩
 rw[<-U]at p |-;rw[<-k]at p |-;have hRl:(n+m)*3<=ROW.size:=by
  rw[k];simp only[Array.size_append,List.size_toArray,V1,size_zeroCells,X,M];omega
 obtain⟨o,b⟩ : ∃o,o=w.drew.alloc (.cells ROW 267):=⟨_,rfl⟩
 rw[<-b]at p;have hN:∀j,j<(n+m)*3->(o.cell? ⟨w.heap.size,j,none⟩).isSome=true:=λj a=>by
  rw[b,World.cell?_alloc_at (w:=w.drew) ROW _ w.heap.size j rfl,U6 ω];rfl
 have Q:∀j,o.frozen? ⟨w.heap.size,j,none⟩ = false:=λj=>by rw[b];exact World.frozen?_alloc_at (w:=w.drew) ROW _ w.heap.size j rfl
 have hOb:∀j v,w.cell? ⟨g,j,none⟩ = some v->o.cell? ⟨g,j,none⟩ = some v:=λj v h=>by rw[b,World.cell?_alloc_past (w:=w.drew) _ g j hbw];exact h
 have hOv:∀j v,w.cell? ⟨r,j,none⟩ = some v->o.cell? ⟨r,j,none⟩ = some v:=λj v h=>by rw[b,World.cell?_alloc_past (w:=w.drew) _ r j hvw];exact h
 have R:∀(W:World),(∀x,W.cell? x=o.cell? x)->(∀x,W.frozen? x=o.frozen? x)->∀d E,(Builtin.copy_ #[37,37] d #[.slice (some ⟨w.heap.size,i*3,none⟩) (n+m - i) E,.slice (some ⟨r,0,none⟩) m Y]).run Tryz.prog W=.ok (goInt ((1:Nat):Int)) (W.setCells w.heap.size (i*3) vs):=λW l F d E=>
  eA W _ _ d 267 3 w.heap.size (i*3) (n+m - i) E ⟨r,0,none⟩ m Y 1 vs Tryz.underlying37 O (by simp only[Nat.min_def];split<;>omega) ω
   (λj v a=>by rw[Addr.add_lit,Z6,l];exact hOv _ v (T j v a))
   (λj a=>by rw[l];rw[N]at a;exact hN _ ω) (λj a=>by rw[F];exact Q _) h2
 have hGn:n+m<=G:=by rw[U];exact grownCap_ge w _ _ _
 have hG63:G<=9223372036854775807:=by
  have:=grownCap_le_maxLen w (n+m) c 267 (by unfold maxLen;omega);rw[<-U]at this;unfold maxLen at this;omega
 have hGi:¬(G=i):=ω
 have hGim:¬(G=i+m):=ω
 have hci:¬(c=i):=ω
 have hbN:g≠w.heap.size:=ω
 have S:(olds.drop (i*3)).length=(n - i)*3:=by rw[V3,M];omega
 have B:∀(W:World),(∀x,W.cell? x=(o.setCells w.heap.size (i*3) vs).cell? x)->(∀x,W.frozen? x=(o.setCells w.heap.size (i*3) vs).frozen? x)->∀d E sc,(Builtin.copy_ #[37,37] d #[.slice (some ⟨w.heap.size,(i+m)*3,none⟩) (n+m - (i+m)) E,.slice (some ⟨g,i*3,none⟩) (n - i) sc]).run Tryz.prog W=.ok (goInt ((n - i:Nat):Int)) (W.setCells w.heap.size ((i+m)*3) (olds.drop (i*3))):=λW l F d E sc=>
  eA W _ _ d 267 3 w.heap.size ((i+m)*3) (n+m - (i+m)) E ⟨g,i*3,none⟩ (n - i) sc (n - i) (olds.drop (i*3)) Tryz.underlying37 O (by simp only[Nat.min_def];split<;>omega) S
   (λj v a=>by
     rw[Addr.add_lit,l,World.cell?_setCells_out _ _ _ _ _ (λh _=>absurd h hbN)];exact hOb _ v (Z (i*3+j) v (by rwa [List.getElem?_drop]at a)))
   (λj a=>by rw[l];rw[S]at a;exact kV _ _ _ _ (λt ht=>by rw[N]at ht;exact hN _ ω) _ (hN _ ω))
   (λj a=>by rw[F,World.frozen?_setCells];exact Q _) (λv T=>h1 v (List.mem_of_mem_drop T))
 subst b;have hE1:∀x,((w.alloc (.cells ROW 267)).drew).cell? x=(w.drew.alloc (.cells ROW 267)).cell? x:=λx=>rfl
 have hE2:∀x,((w.alloc (.cells ROW 267)).drew).frozen? x=(w.drew.alloc (.cells ROW 267)).frozen? x:=λx=>rfl
 have hF1:∀x,(((w.alloc (.cells ROW 267)).drew.setCells w.heap.size (i*3) vs).drew).cell? x=((w.drew.alloc (.cells ROW 267)).setCells w.heap.size (i*3) vs).cell? x:=λx=>rfl
 have hF2:∀x,(((w.alloc (.cells ROW 267)).drew.setCells w.heap.size (i*3) vs).drew).frozen? x=((w.drew.alloc (.cells ROW 267)).setCells w.heap.size (i*3) vs).frozen? x:=λx=>rfl
 have hw1:IntKind.i64.wrap ((i:Int)+(m:Int))=(i:Int)+(m:Int):=by rw[IntKind.wrap_i64];omega
 have hw2:IntKind.i64.wrap ((n:Int)+(m:Int))=(n:Int)+(m:Int):=by rw[IntKind.wrap_i64];omega
 have hw3:IntKind.i64.wrap ((n:Int)+(m:Int) - (i:Int))=(n:Int)+(m:Int) - (i:Int):=by rw[IntKind.wrap_i64];omega
 have hb1:(0:Int)<=(i:Int)+(m:Int):=ω
 have hin:i<=n:=ω
 have htn:((i:Int)+(m:Int)).toNat=i+m:=ω
 have hb3:(i:Int)<=(n:Int):=ω
 clear P D y k U hRl
 go_enter Tryz.func342,Tryz.ntmps342
 go_wp2_with (first
   | (at_builtin;refine Lib.wpList_append_run _ rfl _ _ _ _ rfl _ _ rfl rfl _ _ (p _) ?_)
   | (at_builtin;refine dO _ rfl _ _ 37 37 rfl _ _ rfl rfl (R _ hE1 hE2 _ _) ?_)
   | (at_builtin;refine dO _ rfl _ _ 37 37 rfl _ _ rfl rfl (B _ (λ_=>rfl) (λ_=>rfl) _ _ _) ?_))
 go_region_law_o (refine i9 rfl _ _ 37 37 rfl (.slice (some ⟨w.heap.size,(i+m)*3,none⟩) (n+m - (i+m)) (G - (i+m))) (.slice (some ⟨g,i*3,none⟩) (n - i) (c - i)) (by simp[Act.eval,Act.put]) (by simp[Act.eval,Act.put]) (B _ hF1 hF2 3 (G - (i+m)) (c - i)) ?_)
 go_wp2
 go_ret
 exact⟨rfl,rfl⟩
def EU:Bo Tryz.prog 342 3 37 24:=by
 refine⟨⟨_,Tryz.func342,by kernel_rfl,by kernel_rfl⟩,E2,λw g n c i K m L olds M l o r h P b d u N p q j y B=>?_⟩;obtain⟨Q,R,C,D,E,k,F,G⟩:=uj;by_cases a:n+m<=c
 ·refine(zJ w g n c i K m L olds M l o h a b d u N p q j y B).mono λe O ⟨H,J⟩=>?_
  subst l;rw[J];exact⟨g,c,H,a,pG o a b d u p q j⟩
 refine(D7 C D E k G w g n c i K m L olds M l o h r ω b d u N p q).mono λe O ⟨H,J⟩=>?_
 subst l;rw[J,we];exact⟨_,_,H,grownCap_ge w _ _ _,rd (e:=267) rfl rfl rfl rfl o (grownCap_ge w _ _ _) k F b d p q⟩
def sE(xs:List aA):RD (xs.map (aA.enc .own)):=λr b c a=>by
 obtain⟨s,-,rfl⟩:=O4.1 b;simp[aA.enc]at a;rcases a with rfl|rfl|rfl<;>exact⟨_,rfl⟩
def FM(xs:List aA)(i:Nat)(x:aA)(j:i<=xs.length)(k:xs.length+1<=1073741824):zzB 342 false [.mut none [.s .own (xs.map (aA.enc .own))],.val none [I (i:Nat)],.mut none [.s .own [aA.enc .own x]]] [.mut none [.x],.val none [I (i:Nat)],.mut none [.x]] .one [.s .own ((inse xs i x).map (aA.enc .own))]:=by
 obtain⟨l,n,c,a,d,e,g,b⟩:=uj;have h:=H8 (row:=aA.enc .own x) Tryz.underlying37 c a d (by rw[a,e]) g (by rw[b];decide) (by rw[b];exact EU) (rows:=xs.map (aA.enc .own)) (i:=i) (by rw[C1];exact j) (aV λ_=>rfl) rfl (by decide) (sE xs) (sE [x]) (by rw[C1];exact k)
 rwa [wL]at h
def oF(h:ac):C:=oE (h.j.map (aB.enc .own))
def gR(h:ac):List C:=[.s .own (h.G.F.W.T.map (aH .own)),.s .own (h.G.F.W.a5.map (rB .own)),.s .own (h.G.F.R.K.map (bk.enc .own)),I h.G.Calls,.s .own (h.G.a0.map (rI .own)),oF h,.s .own (h.J.map (aA.enc .own)),.s .own (h.M.map (aD.enc .own)),.s .own (h.O.map (bt.enc .own)),.s .own (h.S.map (aE.enc .own)),.s .own (h.w.U.map (cF .own)),.s .own (h.w.y.map (aH .own)),I h.a7.c1,.s .own (h.a7.a6.map (aT.enc .own)),I h.b3,I h.b1,I h.c0,I h.b,B h.u,I h.Y.X.a3,I h.Y.X.a1,.s .own (h.Y.X.T.map (rI .own)),I h.Y.b0,I h.Y.b]
def Jb(h:ac):List C:=[.x,.x,.x,.x,.x,oF h,.s .own (h.J.map (aA.enc .own)),.s .own (h.M.map (aD.enc .own)),.s .own (h.O.map (bt.enc .own)),.s .own (h.S.map (aE.enc .own)),.s .own (h.w.U.map (cF .own)),.s .own (h.w.y.map (aH .own)),I h.a7.c1,.s .own (h.a7.a6.map (aT.enc .own)),I h.b3,I h.b1,I h.c0,I h.b,B h.u,I h.Y.X.a3,I h.Y.X.a1,.s .own (h.Y.X.T.map (rI .own)),I h.Y.b0,I h.Y.b]
def QR(h:ac):fz (oF h)=.s .V (h.j.map (aB.enc .V)):=(T3 _).trans (List.cons.inj (ed h.j)).1
def iM(h:ac):dJ (gR h)=ac.enc .V h:=by
 have a:=CV h;have b:dJ (gR h)=(dJ (ac.enc .own h)).set 5 (fz (oF h)):=rfl;rw[b,a,QR];rfl
def Nr{S Y:ah}{h:ac}(d:cL w S Y (ac.enc .own h) u):cL w S Y (gR h) u:=by
 obtain⟨f,b,e,g⟩:=d;refine⟨f,λj c a=>?_,e,g⟩;have i:gR h=(ac.enc .own h).set 5 (oF h):=rfl;rw[i]at a;by_cases k:j=5
 ·subst k
  have:c=oF h:=by simpa[ac.enc] using a.symm
  rw[this];exact R0 (b 5 _ rfl)
 rw[List.getElem?_set_ne ω]at a;exact b j c a
def GH(h:ac)(a:ac.sml h):zzA 62 false [.val (some 24) (ac.enc .V h)] .agg (gR h):=by
 obtain⟨b,c⟩:=yP h a;refine⟨b,λw S d g i=>(c w S d g i).mono λe w1 j=>?_⟩;obtain⟨v,k,l,X,n,o,p,q,r,t⟩:=j;exact⟨v,k,l,X,n,o,p,q,r,Nr t⟩
def RC{b:Bool}{X Y:Prop}(h:b=true)(a:X):cond b X Y:=by subst h;exact a
def H4{b:Bool}{X Y:Prop}(h:b=false)(a:Y):cond b X Y:=by subst h;exact a
def Ty(h:ac):bi [oF h]=false\/(bi [oF h]=true/\h.j=[]):=by
 unfold oF;cases a:h.j with
 | nil=>exact .inr ⟨rfl,rfl⟩
 | cons y b=>exact .inl rfl
def Tn{h:ac}(a:bi [oF h]=true):[oF h]=bv .V h.j:=by
 unfold oF at a |-;cases b:h.j with
 | nil=>rfl
 | cons y c=>rw[b]at a;simp[oE,bi,eg]at a
def wX(h:ac)(n:Nat):ac × Int × Bool:=
 if(ax h.j (n:Nat)).2.2=false then(h,-1,false)
 else if(newsK h.G (ax h.j (n:Nat)).2.1 n).2=n then({h with G:=(newsK h.G (ax h.j (n:Nat)).2.1 n).1,j:=(ax h.j (n:Nat)).1},(ax h.j (n:Nat)).2.1,true)
 else({h with G:=unmN (newsK h.G (ax h.j (n:Nat)).2.1 n).1 (ax h.j (n:Nat)).2.1 (newsK h.G (ax h.j (n:Nat)).2.1 n).2},-1,false)
def oQ(h:ac)(n:Nat)(w:bc h [])(U:h.G.Calls<=90000)(hn:1<=n/\n<=63):zzB 189 false [.ptr (gR h),.val none [I (n:Nat)]] [.ptr (gR (wX h n).1),.val none [I (n:Nat)]] (.tup [none,none]) [I (wX h n).2.1,B (wX h n).2.2]:=by
 have P:eX h<=32:=w.lens.ents;have M:=w;have C:dJ [oF h]=bv .V h.j:=X0 (λy=>[y]) (QR h);have N:=BV h;have t:=xm (eX h:Nat) h.j (n:Nat) ⟨ω,ω⟩ w.rng ⟨ω,ω⟩ (by have:=w.lens.free;omega);unfold Tl at t;have D:=ip w (show(1:Int)<=(n:Nat) by omega);unfold wX;have c:bi [oF h]=false\/(bi [oF h]=true/\(ax h.j (n:Nat)).2.2=false):=(Ty h).imp id λg=>⟨g.1,by rw[g.2];rfl⟩
 generalize ax h.j (n:Nat)=r at t D c |-;obtain⟨V,p,ok⟩:=r;simp only at t D c |-;refine fM 76 [] [(1,270,[15,16,17,18,19,20,21,22,23,24,14,25,26,27,0,1,2,3,4,5,6,7,8,9,10,11,12,13,14,1012,1013,15,1013,16])] [(0,0),(0,0)] Tryz.func189 rfl (λu q=>?_) (.inr ⟨trivial,trivial,trivial⟩);rcases c with c|⟨c,Q⟩
 ·cases ok with
   | false=>
    rw[CC rfl];rw[C9 (by simp)]at t
    repeat'(first|refine gP ?_|(conv=>whnf);first|refine CB ?_|refine CF (N) ⟨⟨rfl,iM h⟩,trivial⟩ ?_|refine CF (t) ⟨⟨rfl,rfl⟩,⟨rfl,C⟩,⟨rfl,rfl⟩,trivial⟩ ?_|refine CB ?_|refine H4 c ?_)
    refine CG rfl rfl ?_;exact wC
   | true=>
    rw[C9 (by simp)];rw[CC rfl]at t;obtain⟨O,L,E,u4⟩:=D rfl;change p+(n:Nat)<=(h.G.F.R.K.length:Nat) at L;change ∀q:Nat,p<=q->(q:Int)<p+(n:Nat)->(nth h.G.F.R.K q).e=0 at E
    have W:h.G.F.R.K.length<=32:=P;cases V with
    | nil=>
      repeat'(first|refine gP ?_|(conv=>whnf);first|refine CB ?_|refine CF (N) ⟨⟨rfl,iM h⟩,trivial⟩ ?_|refine CF (t) ⟨⟨rfl,rfl⟩,⟨rfl,C⟩,⟨rfl,rfl⟩,trivial⟩ ?_|refine CB ?_|refine H4 c ?_)
      (conv=>whnf)
      refine CJ (ι:=Nat) (λi=>[(0,.H .box (Jb h)),(1,.H .one [I ((n:Nat):Int)]),(6,.H .one ([oE (([]:List aB).map (aB.enc .own))])),(7,.H .one [I (p)]),(9,.H .box (am.enc .own (newsK h.G p i).1)),(10,.H .one [I ((i:Nat):Int)])]) (λi=>i<=n/\(newsK h.G p i).2=i) (λi=>n - i) (0) ?_ (⟨W0 _,rfl⟩) λi w=>?_
      ·exact wC
      obtain⟨F,G⟩:=w;have s:=jh.of (p:=p) (n:=n) M.ker ω ⟨O,L⟩ E i F;have R:=s.calls;have S:=s.len;by_cases X:i<n
      ·have H:(nth (newsK h.G p i).1.F.R.K (p+(i:Nat)).toNat).e=0:=by
        rw[s.out _ (by rw[G];omega)];exact E _ ω ω
       have l:=sX (newsK h.G p i).1 (p+(i:Nat)) s.ker ω ⟨ω,ω⟩ H;have a:newsK h.G p (i+1)=((newK (newsK h.G p i).1 (p+(i:Nat))).1,if(newK (newsK h.G p i).1 (p+(i:Nat))).2=true then i+1 else i):=by
        show(if(newsK h.G p i).2=i then _ else _)=_;rw[CC G]
       cases e:(newK (newsK h.G p i).1 (p+(i:Nat))).2 with
       | true=>
        rw[e]at l a;rw[CC rfl]at a;have J:(newK (newsK h.G p i).1 (p+(i:Nat))).1=(newsK h.G p (i+1)).1:=by rw[a]
        rw[J]at l
        repeat'(first|refine gE ?_|(conv=>whnf);first|refine CB ?_|refine CF (l) ⟨⟨rfl,CQ _⟩,⟨rfl,rfl⟩,trivial⟩ ?_)
        ((conv=>whnf);refine CE (i+1) ⟨ω,by rw[a]⟩ ω ?_;(exact wC))
       | false=>
        rw[e]at l a;rw[C9 (by simp)]at a;have o:=jl (k:=h.G) (p:=p) (i:=i+1) (by rw[a];simp only;omega) (n - (i+1));rw[show i+1+(n - (i+1))=n by omega]at o;have K:=jh.of (p:=p) (n:=n) M.ker ω ⟨O,L⟩ E (i+1) ω;rw[C9 ω,o.1];have b:=K.calls;rw[a]at K b |-;have d:=K.ker;simp only at d b |-;generalize (newK (newsK h.G p i).1 (p+(i:Nat))).1=k at l d b |-
        repeat'(first|refine gE ?_|(conv=>whnf);first|refine CB ?_|refine CF (l) ⟨⟨rfl,CQ _⟩,⟨rfl,rfl⟩,trivial⟩ ?_)
        (conv=>whnf)
        refine CJ (ι:=Nat) (λj=>[(0,.H .box (Jb h)),(7,.H .one [I (p)]),(9,.H .box (am.enc .own (unmN k p j))),(10,.H .one [I ((i:Nat):Int)]),(13,.H .one [I (p+(j:Nat))])]) (λj=>j<=i) (λj=>i - j) (0) ?_ (W0 _) λj Y=>?_
        ·exact wC
        have T:=uK (unmN k p j) (p+(j:Nat)) (gM d p j) (by rw[(eO k p j).2.1];omega);by_cases Z:j<i
        ·repeat'(first|refine gE ?_|(conv=>whnf);first|refine CB ?_|refine CF (T) ⟨⟨rfl,CQ _⟩,⟨rfl,rfl⟩,trivial⟩ ?_)
         ((conv=>whnf);refine CE (j+1) ω ω ?_;(exact wC))
        obtain rfl:j=i:=ω
        repeat'(first|refine gE ?_|(conv=>whnf);first|refine CB ?_)
        refine CG rfl rfl ?_;exact wC
      obtain rfl:i=n:=ω
      rw[CC G];generalize (newsK h.G p i).1=k
      repeat'(first|refine gE ?_|(conv=>whnf);first|refine CB ?_)
      refine CG rfl rfl ?_;exact wC
    | cons y ys=>
      repeat'(first|refine gP ?_|(conv=>whnf);first|refine CB ?_|refine CF (N) ⟨⟨rfl,iM h⟩,trivial⟩ ?_|refine CF (t) ⟨⟨rfl,rfl⟩,⟨rfl,C⟩,⟨rfl,rfl⟩,trivial⟩ ?_|refine CB ?_|refine H4 c ?_)
      (conv=>whnf)
      refine CJ (ι:=Nat) (λi=>[(0,.H .box (Jb h)),(1,.H .one [I ((n:Nat):Int)]),(6,.H .one ([oE ((y::ys).map (aB.enc .own))])),(7,.H .one [I (p)]),(9,.H .box (am.enc .own (newsK h.G p i).1)),(10,.H .one [I ((i:Nat):Int)])]) (λi=>i<=n/\(newsK h.G p i).2=i) (λi=>n - i) (0) ?_ (⟨W0 _,rfl⟩) λi w=>?_
      ·exact wC
      obtain⟨F,G⟩:=w;have s:=jh.of (p:=p) (n:=n) M.ker ω ⟨O,L⟩ E i F;have R:=s.calls;have S:=s.len;by_cases X:i<n
      ·have H:(nth (newsK h.G p i).1.F.R.K (p+(i:Nat)).toNat).e=0:=by
        rw[s.out _ (by rw[G];omega)];exact E _ ω ω
       have l:=sX (newsK h.G p i).1 (p+(i:Nat)) s.ker ω ⟨ω,ω⟩ H;have a:newsK h.G p (i+1)=((newK (newsK h.G p i).1 (p+(i:Nat))).1,if(newK (newsK h.G p i).1 (p+(i:Nat))).2=true then i+1 else i):=by
        show(if(newsK h.G p i).2=i then _ else _)=_;rw[CC G]
       cases e:(newK (newsK h.G p i).1 (p+(i:Nat))).2 with
       | true=>
        rw[e]at l a;rw[CC rfl]at a;have J:(newK (newsK h.G p i).1 (p+(i:Nat))).1=(newsK h.G p (i+1)).1:=by rw[a]
        rw[J]at l
        repeat'(first|refine gE ?_|(conv=>whnf);first|refine CB ?_|refine CF (l) ⟨⟨rfl,CQ _⟩,⟨rfl,rfl⟩,trivial⟩ ?_)
        ((conv=>whnf);refine CE (i+1) ⟨ω,by rw[a]⟩ ω ?_;(exact wC))
       | false=>
        rw[e]at l a;rw[C9 (by simp)]at a;have o:=jl (k:=h.G) (p:=p) (i:=i+1) (by rw[a];simp only;omega) (n - (i+1));rw[show i+1+(n - (i+1))=n by omega]at o;have K:=jh.of (p:=p) (n:=n) M.ker ω ⟨O,L⟩ E (i+1) ω;rw[C9 ω,o.1];have b:=K.calls;rw[a]at K b |-;have d:=K.ker;simp only at d b |-;generalize (newK (newsK h.G p i).1 (p+(i:Nat))).1=k at l d b |-
        repeat'(first|refine gE ?_|(conv=>whnf);first|refine CB ?_|refine CF (l) ⟨⟨rfl,CQ _⟩,⟨rfl,rfl⟩,trivial⟩ ?_)
        (conv=>whnf)
        refine CJ (ι:=Nat) (λj=>[(0,.H .box (Jb h)),(7,.H .one [I (p)]),(9,.H .box (am.enc .own (unmN k p j))),(10,.H .one [I ((i:Nat):Int)]),(13,.H .one [I (p+(j:Nat))])]) (λj=>j<=i) (λj=>i - j) (0) ?_ (W0 _) λj Y=>?_
        ·exact wC
        have T:=uK (unmN k p j) (p+(j:Nat)) (gM d p j) (by rw[(eO k p j).2.1];omega);by_cases Z:j<i
        ·repeat'(first|refine gE ?_|(conv=>whnf);first|refine CB ?_|refine CF (T) ⟨⟨rfl,CQ _⟩,⟨rfl,rfl⟩,trivial⟩ ?_)
         ((conv=>whnf);refine CE (j+1) ω ω ?_;(exact wC))
        obtain rfl:j=i:=ω
        repeat'(first|refine gE ?_|(conv=>whnf);first|refine CB ?_)
        refine CG rfl rfl ?_;exact wC
      obtain rfl:i=n:=ω
      rw[CC G];generalize (newsK h.G p i).1=k
      repeat'(first|refine gE ?_|(conv=>whnf);first|refine CB ?_)
      refine CG rfl rfl ?_;exact wC
 subst Q;rw[CC rfl];rw[C9 (by simp)]at t
 repeat'(first|refine gP ?_|(conv=>whnf);first|refine CB ?_|refine CF (N) ⟨⟨rfl,iM h⟩,trivial⟩ ?_|refine CF (t) ⟨⟨rfl,rfl⟩,⟨rfl,Tn c⟩,⟨rfl,rfl⟩,trivial⟩ ?_|refine CB ?_|refine RC c ?_)
 refine CG rfl rfl ?_;exact wC
def vD(h:ac)(p c:Int)(w:h.J.length<=4096):zzB 190 false [.ptr (gR h),.val (some 3) [I p,I c,I 0]] [.ptr (gR {h with J:=ja (Br p) h.J ⟨p,c,0⟩}),.val (some 3) [I p,I c,I 0]] .one [I (iQ (Br p) h.J:Nat)]:=by
 refine fM 40 [(342,[1,0,1])] [(2,18,[6,7,8,9,10,11,12,13,14,15,16,17,18,19,20,21,22,23]),(4,264,[28,29,30,31,32,33,34,35,0,1,2,3,4,5,6,7,8,1000,9,10,11])] [(0,0),(0,0)] Tryz.func190 rfl (λu q=>?_)
 repeat'(first|refine gP ?_|(conv=>whnf);first|refine CB ?_)
 (conv=>whnf)
 refine CJ (ι:=Nat) (λi=>[(0,.H .box (gR h)),(3,.H .box ([I p,I c,I 0])),(5,.H .one [I ((i:Nat):Int)])]) (λi=>i<=h.J.length/\∀(j:Nat)(z:aA),j<i->h.J[j]? = some z->Br p z=false) (λi=>h.J.length - i) (0) ?_ (⟨W0 _,λj z y=>ω⟩) λi g=>?_
 ·exact wC
 obtain⟨k,d⟩:=g;by_cases l:i<h.J.length/\(nth h.J i).Q<p
 ·have b:=au l.1
  repeat'(first|refine gE ?_|(conv=>whnf);first|with_reducible refine CD (aa b) ?_|refine CB ?_|refine CH rfl (aa b) rfl ?_)
  ((conv=>whnf);refine CE (i+1) ⟨ω,dX b (U0 ω) d⟩ ω ?_;(exact wC))
 have a:iQ (Br p) h.J=i:=lT ω d λz e=>by
  have n:=(U2.1 e).1;have:z=nth h.J i:=(bn e).symm;subst this;exact O0 ω
 have b:i<h.J.length->h.J[i]? = some (nth h.J i):=λo=>au o
 have r:=FM h.J i ⟨p,c,0⟩ ω ω;rw[mg a,a]
 repeat'(first|refine gE ?_|(conv=>whnf);first|with_reducible (first|refine CD (aa (b ω)) ?_|refine Bf.D (λt=>?_) (λt=>?_))|refine CB ?_|refine CH rfl (aa (b ω)) rfl ?_|refine CK (r) (.inl rfl) ?_)
 all_goals
  refine CG rfl rfl ?_;exact wC
def G6(h:ac)(i:Nat):gR (slotT h i)=((gR h).set 14 (I (yW h.b3))).set 6 (.s .own ((h.J.map (aA.enc .own)).set i [I (nth h.J i).Q,I (nth h.J i).d,I (gl (nth h.J i).a9 (mD h i))])):=by
 simp[gR,slotT,qo,I6,aA.enc,oF]
def yM(h:ac)(E:List Int)(i:Nat)(a:bc h E)(b:i<h.J.length)(p:(gC h i).length=0):zzA 188 false [.ptr (ac.enc .V h),.val none [I (i:Nat)]] (.tup [none,none]) [I (-1),B false]:=by
 have g:=au b;have c:=a.L.sok _ (ar b);have d:=dK c;have j:=(bu.1 (aG.1 a.ker).2.2.1).2.2;have n:=a.lens.spans;have e:=ll a.L.sok (ps:=aU h (nth h.J i).Q) d (aU h (nth h.J i).Q).length;change 0<=dE h i/\dE h i<=65535 at e;have o:=fV (nth h.J i).d;have k:=qx h i ⟨ω,λ_ _=>trivial⟩ ⟨by show h.G.F.R.K.length<=_;omega,λ_ _=>trivial⟩ a.L.sok b;rw[v7 a.L.sok b]at k;have l:=pk (nth h.J i).d (dE h i) ω;change ay _ _ _ _ _ (aH .own (gC h i)) at l;refine fO 63 [(2,7,[17,18,19,20,21,22,23]),(7,12,[43,44,45,46,47,48,49,50,51,52,53,54]),(8,5,[57,58,59,60,61])] Tryz.func188 rfl ?_ (.inr ⟨trivial,trivial,trivial⟩)
 repeat'(first|refine gB ?_|(conv=>whnf);first|refine CB ?_|refine CD (aa g) ?_|refine CH rfl (aa g) rfl ?_|refine C8 (o) ?_|refine C8 (k) ?_|refine C8 (l) ?_|refine CB ?_)
 rfl
def oy(h:ac)(E:List Int)(i:Nat)(b:bc h E)(j:i<h.J.length):zzB 188 false [.ptr (gR h),.val none [I (i:Nat)]] [.ptr (gR (iY h i).1),.val none [I (i:Nat)]] (.tup [none,none]) [I (iY h i).2,B (decide (0<(gC h i).length))]:=by
 have F:=b.lens.spans;have d:=au j;have c:=b.L.sok _ (ar j);have e:=dK c;have a:=b.nums;unfold cu at a;rw[C0]at a;have y:=(bu.1 (aG.1 b.ker).2.2.1).2.2;have k:=ll b.L.sok (ps:=aU h (nth h.J i).Q) e (aU h (nth h.J i).Q).length;change 0<=dE h i/\dE h i<=65535 at k;have C:=fV (nth h.J i).d;have l:=qx h i ⟨ω,λ_ _=>trivial⟩ ⟨by show h.G.F.R.K.length<=_;omega,λ_ _=>trivial⟩ b.L.sok j;rw[v7 b.L.sok j]at l;have o:=pk (nth h.J i).d (dE h i) ω;change ay _ _ _ _ _ (aH .own (gC h i)) at o;have p:=xZ (nth h.J i).d (dE h i);change (gC h i).length<=16 at p;unfold iY;by_cases D:(gC h i).length=0
 ·rw[CC D,U0 ω]
  refine fM 63 [] [(2,7,[17,18,19,20,21,22,23]),(7,12,[43,44,45,46,47,48,49,50,51,52,53,54]),(8,5,[57,58,59,60,61])] [(0,0),(0,0)] Tryz.func188 rfl (λu q=>?_) (.inr ⟨trivial,trivial,trivial⟩)
  repeat'(first|refine gB ?_|(conv=>whnf);first|refine CB ?_|refine CD (aa d) ?_|refine CH rfl (aa d) rfl ?_|refine C8 (C) ?_|refine CF (l) ⟨⟨rfl,iM h⟩,⟨rfl,rfl⟩,trivial⟩ ?_|refine C8 (o) ?_|refine CB ?_)
  refine CG rfl rfl ?_;exact wC
 rw[C9 D,O0 ω];have G:=u7 (h:=h) (i:=i) ω;obtain⟨H,O,P⟩:=rA G;have J:=(gi (aI c).2.2).2.2.1;have r:=qZ h.b3 (n:=((gC h i).length:Nat)) ω;have K:=EA h.b3 ((gC h i).length:Nat) ω ω;have M:=zI (nth h.J i).a9 (mD h i) e ω;obtain⟨N,t⟩:=z3 H;have w:=qJ (nth h.J i) N c ω;unfold jH at w;rw[<-t]at w;have g:(gC h i)[(JC h.b3 ((gC h i).length:Nat)).toNat]? = some (mD h i):=au ω;unfold pE;rw[G6];refine fM 63 [] [(2,7,[17,18,19,20,21,22,23]),(7,12,[43,44,45,46,47,48,49,50,51,52,53,54]),(8,5,[57,58,59,60,61])] [(0,0),(0,0)] Tryz.func188 rfl (λu q=>?_) (.inr ⟨trivial,trivial,trivial⟩)
 repeat'(first|refine gB ?_|(conv=>whnf);first|refine CB ?_|refine CD (aa d) ?_|refine CH rfl (aa g) rfl ?_|refine CH rfl (aa d) rfl ?_|refine C8 (C) ?_|refine CF (l) ⟨⟨rfl,iM h⟩,⟨rfl,rfl⟩,trivial⟩ ?_|refine C8 (o) ?_|refine C8 (K) ?_|refine C8 (M) ?_|refine C8 (w) ?_|refine CN r.1 (aa g) ?_|refine CB ?_|refine CP rfl rfl (aa d) rfl (I1 rfl) rfl ?_)
 refine CG rfl ?_ ?_
 ·rfl
 exact wC
end Go.Proofs.YtiopgblagimpmaaGreat.Ab
