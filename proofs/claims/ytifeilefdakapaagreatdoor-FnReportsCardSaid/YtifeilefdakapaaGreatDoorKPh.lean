/- What is drawn out of bytes: choices, calls refused, a configuration, the cursor. No condition. -/
import Derived.Test.YtifeilefdakapaaGreatDoorKPd
import Derived.Test.YtifeilefdakapaaGreatDoorKPg
import Derived.Test.YtifeilefdakapaaGreatDoorKPf
import Derived.Test.YtifeilefdakapaaGreatDoorKPe
import Derived.Test.YtifeilefdakapaaGreatDoorKPAcc
import Derived.Test.YtifeilefdakapaaGreatDoorKPShelf
import Derived.Test.YtifeilefdakapaaGreatDoorKPc
import Derived.ProofKit
import Derived.OpenShut
import Derived.Deep.Slices
import Derived.Deep.Fields
import Derived.ChangeSame
import Derived.WideShapes
set_option linter.unusedVariables false
set_option linter.defProp false
set_option linter.unusedSimpArgs false
set_option linter.constructorNameAsVariable false
namespace Go.Proofs.YtifeilefdakapaaGreatDoor.Ab
open Go.RowKit
set_option maxRecDepth 20000
set_option maxHeartbeats 4000000
def Jo(zs:List Int)(c:ib)(l:List Int)(b:j7 zs)(d:c.i<=zs.length)(g:1<=l.length/\l.length<=1000):aP Tryz.prog 100 false [.ptr (ic zs c),.val none (aF .U l)] [.ptr (ic zs (km zs c l).2),.val none (aF .U l)] .one [I (km zs c l).1]:=by
 have e:=bQ zs c (l.length:Nat) b d ω;have h:=bC zs c (n:=(l.length:Nat)) ω;have a:=ah (xs:=l) (i:=(bq zs c (l.length:Nat)).1.toNat) ω;unfold km;refine fM 12 [(62,[2,0])] [] [(0,0),(0,0)] Tryz.func100 rfl (λu q=>?_)
 repeat'(first|refine gP ?_|(conv=>whnf);first|with_reducible refine CL ω (aa a) ?_|refine CJ (e) (.inl rfl) ?_|refine CG rfl (aa a) rfl ?_)
 refine CF rfl rfl ?_;exact wC
def ik(zs:List Int)(c:ib)(l:List Int)(b:j7 zs)(d:c.i<=zs.length)(g:1<=l.length/\l.length<=1000):aP Tryz.prog 100 false [.ptr (ic zs c),.mut none (aF .own l)] [.ptr (ic zs (km zs c l).2),.mut none (aF .own l)] .one [I (km zs c l).1]:=by
 have e:=bQ zs c (l.length:Nat) b d ω;have h:=bC zs c (n:=(l.length:Nat)) ω;have a:=ah (xs:=l) (i:=(bq zs c (l.length:Nat)).1.toNat) ω;unfold km;refine fM 12 [(62,[2,0])] [] [(0,0),(1,0)] Tryz.func100 rfl (λu q=>?_)
 repeat'(first|refine gP ?_|(conv=>whnf);first|with_reducible refine CL ω (aa a) ?_|refine CJ (e) (.inl rfl) ?_|refine CG rfl (aa a) rfl ?_)
 refine CF rfl rfl ?_;exact wC
def Ht(zs:List Int):∀(f i:Nat)(out:List Int)(c:ib),(bq zs c 4).1<=i->oh zs f i out c=(out,(bq zs c 4).2)
 | 0,_,_,_,_=>rfl
 | f+1,i,out,c,h=>by unfold oh;rw[C9 ω]
def Nc(zs:List Int)(f i:Nat)(out:List Int)(c:ib)(h:(i:Int)<(bq zs c 4).1):oh zs (f+1) i out c=oh zs f (i+1) (out++[(bq zs (bq zs c 4).2 12).1]) (bq zs (bq zs c 4).2 12).2:=by
 show(if _ then _ else _)=_;rw[CB h]
structure Rq where
 i:Nat
 out:List Int
 c:ib
def wR(zs:List Int)(c:ib)(e:j7 zs)(j:c.i<=zs.length):aP Tryz.prog 63 false [.ptr (ic zs c)] [.ptr (ic zs (Mg zs c).2)] .one (aF .own (Mg zs c).1):=by
 refine fM 18 [(62,[2,0])] [] [(0,0)] Tryz.func63 rfl (λu q=>?_) (.inr (bN _))
 repeat'(first|refine gP ?_|fail)
 (conv=>whnf)
 refine CE (ι:=Rq) (λx=>[(0,.F .box (ic zs x.c)),(3,.F .one (aF .own x.out)),(4,.F .one [I ((x.i:Nat):Int)])]) (λx=>(x.i<=4/\x.out.length<=x.i/\x.c.i<=zs.length)/\oh zs (4 - x.i) x.i x.out x.c=Mg zs c) (λx=>4 - x.i) (⟨0,[],c⟩) ?_ (⟨⟨T0 _,T0 _,j⟩,rfl⟩) λx k=>?_
 ·exact wC
 obtain⟨i,out,d⟩:=x;obtain⟨⟨l,o,b⟩,a⟩:=k;simp only at l o b a |-;have B:=bC zs d (n:=4) (by decide);have g:=bQ zs d 4 e b (by decide);have h:=bO b 4;have p:=bQ zs (bq zs d 4).2 12 e h (by decide);have t:=bO h 12;by_cases w:(i:Int)<(bq zs d 4).1
 ·rw[show 4 - i=(4 - (i+1))+1 by omega,Nc zs _ _ _ _ w]at a
  repeat'(first|refine gE ?_|(conv=>whnf);first|refine CJ (g) (.inl rfl) ?_|refine CJ (p) (.inl rfl) ?_|refine CN cv (λr y=>by rw[C1.1 y];rfl) (by simp[aW,dn]) (by simp;omega) (by simp only[X0];exact yb (by simp;omega) (by decide)) rfl ?_)
  ((conv=>whnf);refine CD ⟨i+1,out++[(bq zs (bq zs d 4).2 12).1],(bq zs (bq zs d 4).2 12).2⟩ ⟨⟨by simp only;omega,by simp only[X2,List.length_singleton];omega,t⟩,a⟩ (by simp only;omega) ?_)
  repeat'(first|exact trivial|rfl| exact cJ _ |exact CI rfl (CI (U0 (C.s du.own) (by simp[rI])) trivial)|refine CI ?_ ?_|(exact u7 (by first|omega|(simp only;omega)|(simp;omega))))
 rw[Ht zs _ _ _ _ ω]at a;rw[<-a]
 repeat'(first|refine gE ?_|(conv=>whnf);first|refine CJ (g) (.inl rfl) ?_)
 refine CF rfl rfl ?_;exact wC
def cQ.enc(o:du)(c:cQ):List C:=[I (c.a3:Nat),I (c.V:Nat),I (c.e0:Nat),I c.c5,.s o (c.e.map (rI o))]
def cQ.enc_fz(c:cQ):d8 (cQ.enc .own c)=cQ.enc .U c:=by simp[d8,cQ.enc,rI,<-ch,I5]
def cQ.enc_fr(c:cQ):gn (cQ.enc .own c):=⟨trivial,trivial,trivial,trivial,⟨.inl λh=>(by cases h),aX _ _ λy _=>pn y⟩,trivial⟩
def w7(zs:List Int)(c:ib)(a:j7 zs)(h:c.i<=zs.length):aP Tryz.prog 30 false [.ptr (ic zs c)] [.ptr (ic zs (NN zs c).2)] .agg (cQ.enc .own (pE zs c)):=by
 have j:=bO h 7;have k:=bO j 3;have l:=bO k 100;have y:=bO l 4;have b:=bQ zs c 7 a h (by decide);have d:=bQ zs (xY zs c).2 3 a j (by decide);have e:=bQ zs (DU zs c).2 100 a k (by decide);have g:=bQ zs (FG zs c).2 4 a l (by decide);have o:=wR zs (AG zs c).2 a y;have p:=bC zs c (n:=7) (by decide);have r:=bC zs (xY zs c).2 (n:=3) (by decide);have B:=bC zs (DU zs c).2 (n:=100) (by decide);have t:=bC zs (FG zs c).2 (n:=4) (by decide);have w:=cQ.enc_fr (pE zs c);have C:cQ.enc .own (pE zs c)=[I (6+(xY zs c).1),I (6+(xY zs c).1 - (AG zs c).1),I (1+(DU zs c).1),I (40+(FG zs c).1),.s .own ((NN zs c).1.map (rI .own))]:=by
  have D:0<=(xY zs c).1/\(xY zs c).1<7:=p;have E:0<=(DU zs c).1/\(DU zs c).1<3:=r;have F:0<=(AG zs c).1/\(AG zs c).1<4:=t;unfold cQ.enc pE;simp only;rw[Int.toNat_of_nonneg ω,Int.toNat_of_nonneg ω,Int.toNat_of_nonneg ω]
 rw[C]at w |-;change aP _ _ _ _ [.ptr (ic zs (xY zs c).2),_] _ _ at b;change aP _ _ _ _ [.ptr (ic zs (DU zs c).2),_] _ _ at d;change aP _ _ _ _ [.ptr (ic zs (FG zs c).2),_] _ _ at e;change aP _ _ _ _ [.ptr (ic zs (AG zs c).2),_] _ _ at g;change aP _ _ _ _ [.ptr (ic zs (NN zs c).2)] _ (aF .own (NN zs c).1) at o;change aP _ _ _ _ _ _ [I (xY zs c).1]at b;change aP _ _ _ _ _ _ [I (DU zs c).1]at d;change aP _ _ _ _ _ _ [I (FG zs c).1]at e;change aP _ _ _ _ _ _ [I (AG zs c).1]at g;change 0<=(xY zs c).1/\(xY zs c).1<7 at p;change 0<=(DU zs c).1/\(DU zs c).1<3 at r;change 0<=(FG zs c).1/\(FG zs c).1<100 at B;change 0<=(AG zs c).1/\(AG zs c).1<4 at t;generalize NN zs c=r5 at *;generalize AG zs c=r4 at *;generalize FG zs c=r3 at *;generalize DU zs c=r2 at *;generalize xY zs c=r1 at *;refine fM 24 [(62,[2,0]),(63,[2])] [(2,65536,[])] [(0,0)] Tryz.func30 rfl (λu q=>?_) (.inr w)
 repeat'(first|refine gP ?_|(conv=>whnf);first|refine CJ (b) (.inl rfl) ?_|refine CJ (d) (.inl rfl) ?_|refine CJ (e) (.inl rfl) ?_|refine CJ (g) (.inl rfl) ?_|refine CJ (o) (.inl rfl) ?_|refine CI ?_ ?_)
 all_goals
  refine CF rfl rfl ?_;exact wC
def vN(n:Nat)(e:1<=n/\n<=32):ao Tryz.prog 232 false [.val none [I (n:Nat)]] (.tup [some 2,none]) (aU.enc .own (fy n)++[B true]):=by
 have c:=aE ((n:Nat):Int) 1 32;rw[O0 ω]at c;have a:=bc (b:=[B true]) (aU.enc_fr (fy n)) ⟨trivial,trivial⟩;rw[show aU.enc .own (fy n)=_ from Fu n n]at a |-;refine fO 28 [(7,4,[16,17,18,19])] Tryz.func232 rfl ?_ (.inr a)
 repeat'(first|refine gP ?_|(conv=>whnf);first|refine C8 ?_|refine C7 (c) ?_)
 (conv=>whnf)
 refine CE (ι:=Nat) (λk=>[(0,.F .one [I ((n:Nat))]),(2,.F .box [.z,.z]),(4,.F .box [.s .own (List.replicate k [.s .own (List.replicate 16 [I 0])]),.s .own (List.replicate k [B false])]),(5,.F .one [I ((k:Nat):Int)])]) (λk=>k<=n) (λk=>n - k) (0) ?_ (T0 _) λk g=>?_
 ·exact wB
 by_cases h:k<n
 ·repeat'(first|refine gE ?_|(conv=>whnf);first|refine C8 ?_|refine Mk.mk 16 rfl rfl (by decide) (by decide) rfl ?_|refine Ap.sn (λr d=>by rw[(List.mem_replicate.1 d).2];rfl) rfl (by simp;omega) (by decide) (D3 _ k) ?_)
  ((conv=>whnf);refine CD (k+1) ω ω ?_;(exact wB))
 obtain rfl:k=n:=ω
 repeat'(first|refine gE ?_|(conv=>whnf);first|refine C8 ?_)
 rfl
def xT(n:Nat)(e:1<=n/\n<=32):ao Tryz.prog 233 false [.val none [I (n:Nat)]] (.tup [some 1,none]) (aG.enc .own (eM n)++[B true]):=by
 have c:=aE ((n:Nat):Int) 1 32;rw[O0 ω]at c;have a:=bc (b:=[B true]) (aG.enc_fr (eM n)) ⟨trivial,trivial⟩;have d:aG.enc .own (eM n)=[.s .own (List.replicate n [I 0,I 0])]:=by simp[aG.enc,eM,bi.enc,List.map_replicate]
 rw[d]at a |-;refine fO 11 [] Tryz.func233 rfl ?_ (.inr a)
 repeat'(first|refine gP ?_|(conv=>whnf);first|refine C8 ?_|refine C7 (c) ?_|refine Mk.mk n rfl rfl ω (yb ω (by decide)) rfl ?_)
 rfl
def uq(p f:Nat)(a:1<=p/\p<=32)(b:1<=f/\f<=32):ao Tryz.prog 164 false [.val none [I (p:Nat)],.val none [I (f:Nat)]] (.tup [some 3,none]) (aS.enc .own ⟨fy f,eM p⟩++[B true]):=by
 refine fO 30 [] Tryz.func164 rfl ?_ (.inr (bc (aS.enc_fr _) ⟨trivial,trivial⟩))
 repeat'(first|refine gP ?_|(conv=>whnf);first|refine C8 ?_|refine C7 (vN f b) ?_|refine C7 (xT p a) ?_)
 rfl
def xl(p f:Nat)(a:List Int)(b:1<=p/\p<=32)(c:1<=f/\f<=32)(d:a.length<=40/\∀x∈a,0<=x):ao Tryz.prog 113 false [.val none [I (p:Nat)],.val none [I (f:Nat)],.val none (aF .U a)] (.tup [some 5,none]) (af.enc .own (bU p f a)++[B true]):=by
 have e:=p9 b c d;have h:=d.1;have g:=ll (bU p f a) (bE e);rw[e]at g;refine fO 31 [(2,260,[17,18,19,10,0,1,2,5,3,1000,1005,4,1005,6])] Tryz.func113 rfl ?_ (.inr (bc (af.enc_fr _) ⟨trivial,trivial⟩))
 repeat'(first|refine gP ?_|(conv=>whnf);first|refine C8 ?_|refine C7 (uq p f b c) ?_|refine CH (g) ⟨⟨rfl,CQ (bU p f a)⟩,trivial⟩ ?_|refine CR (λ_=>rfl) (λ_=>rfl) ω (by decide) ?_|refine CT (λ_=>rfl) (λ_=>rfl) ω (by decide) ?_|refine C8 ?_)
 rfl
def Qh(p f t:Nat)(lim:Int)(a:List Int)(k:Nat):ac:={caps (u6 p f t lim a) k with a0:=⟨0,[]⟩}
def Aa(p f t:Nat)(lim:Int)(a:List Int)(c:1<=p/\p<=32)(d:1<=f/\f<=32)(e:1<=t/\t<=4)(g:0<=lim/\lim<=1000)(h:a.length<=40/\∀x∈a,0<=x):ao Tryz.prog 84 false [.val none [I (p:Nat)],.val none [I (f:Nat)],.val none [I (t:Nat)],.val none [I lim],.val none (aF .U a)] (.tup [some 24,none]) (ac.enc .own (u6 p f t lim a)++[B true]):=by
 have b:=aE lim 0 1000;rw[O0 g]at b;refine fO 66 [(9,4,[54,55,56,57])] Tryz.func84 rfl ?_ (.inr (bc (ac.enc_fr _) ⟨trivial,trivial⟩))
 repeat'(first|refine gP ?_|(conv=>whnf);first|refine C8 ?_|refine C7 (xl p f a c d h) ?_|refine C7 (zB t e) ?_|refine C7 (b) ?_|refine C7 (r7) ?_)
 (conv=>whnf)
 refine CE (ι:=Nat) (λk=>[(2,.F .one [I ((t:Nat))]),(10,.F .box [.z,.z,.z,I 0,.z,.z,.z,.z,.z,.z,.z,.z,I 0,.z,I 0,I 0,I 0,I 0,B false,I 0,I 0,.z,I 0,I 0]),(16,.F .box (ac.enc .own (Qh p f t lim a k))),(17,.F .one [I ((k:Nat):Int)])]) (λk=>k<=t) (λk=>t - k) (0) ?_ (T0 _) λk i=>?_
 ·exact wB
 by_cases j:k<t
 ·repeat'(first|refine gE ?_|(conv=>whnf);first|refine C8 ?_|refine C7 (xX) ?_|refine Ap.sn LS rfl (by rw[X0];show(List.replicate _ eL).length+1<=_;rw[List.length_replicate];omega) (by decide) (GV k) ?_)
  ((conv=>whnf);refine CD (k+1) ω ω ?_;(exact wB))
 obtain rfl:k=t:=ω
 repeat'(first|refine gE ?_|(conv=>whnf);first|refine C8 ?_|refine C7 (r7) ?_)
 rfl
def BE:ao Tryz.prog 85 false [] .agg (ax.enc .own ⟨1,[]⟩):=by
 refine fO 2 [] Tryz.func85 rfl ?_ (.inr (ax.enc_fr _))
 repeat'((conv=>whnf);first|with_reducible (first|refine Lm ?_|refine Wm ω ?_|refine Bn ?_|refine jK.wk rfl ?_)|refine Bt ?_|refine Bu ?_|refine C8 ?_)
 exact⟨rfl,rfl,trivial⟩
def yg(c:cQ)(h:Jj c):ao Tryz.prog 59 false [.val (some 5) (cQ.enc .U c)] (.tup [some 26,none]) (bG.enc .own (world0 c)++[B true]):=by
 have a:=Aa c.a3 c.V c.e0 c.c5 c.e h.p h.f h.t h.l h.r;refine fO 26 [(4,2,[23,24])] Tryz.func59 rfl ?_ (.inr (bc (bG.enc_fr _) ⟨trivial,trivial⟩))
 repeat'(first|refine gP ?_|(conv=>whnf);first|refine C8 ?_|refine C7 (a) ?_|refine C7 (BE) ?_)
 rfl
def od(o:du)(l:List eD):List C:=[.s o (l.map (eD.enc o))]
def eD.enc_fr(x:eD):gn (eD.enc .own x):=⟨trivial,trivial,trivial,trivial,trivial,trivial⟩
def GU(l:List eD):gn (od .own l):=⟨⟨.inl λh=>(by cases h),aX _ _ λy _=>eD.enc_fr y⟩,trivial⟩
def Jf(l:List eD):d8 (od .own l)=od .U l:=by simp[d8,od,eD.enc,<-ch,I5]
def Eh(zs:List Int)(c:ib)(ids:Int)(b:j7 zs)(p:c.i<=zs.length)(r:1<=ids/\ids<=1000):aP Tryz.prog 64 false [.ptr (ic zs c),.val none [I ids]] [.ptr (ic zs (qM zs c ids).2),.val none [I ids]] .agg (eD.enc .own (qM zs c ids).1):=by
 have w:=bO p 3;have y:=bO w ids;have d:(kx zs c ids).2.i<=zs.length:=bO y 20;have B:=bQ zs c 3 b p (by decide);have C:=bQ zs (yi zs c).2 ids b w r.1;have j:=bQ zs (Em zs c ids).2 20 b y (by decide);have H:=bC zs c (n:=3) (by decide);have J:=bC zs (yi zs c).2 (n:=ids) r.1;have D:=bC zs (Em zs c ids).2 (n:=20) (by decide);have e:=ik zs (kx zs c ids).2 szs b d (by decide);have E:=ik zs (kx zs c ids).2 [5,6] b d (by decide);have F:=ik zs (kx zs c ids).2 [1,30,60,120] b d (by decide);have l:=ik zs (kx zs c ids).2 [1,2,3,10,30] b d (by decide);have g:=bQ zs (kx zs c ids).2 4 b d (by decide);have h:=bQ zs (bq zs (kx zs c ids).2 4).2 999 b (bO d _) (by decide);have G:=bQ zs (kx zs c ids).2 10 b d (by decide);have K:=bC zs (bq zs (kx zs c ids).2 4).2 (n:=999) (by decide);have L:=bC zs (kx zs c ids).2 (n:=10) (by decide);change aP _ _ _ _ [.ptr (ic zs (yi zs c).2),_] _ [I (yi zs c).1]at B;change aP _ _ _ _ [.ptr (ic zs (Em zs c ids).2),_] _ [I (Em zs c ids).1]at C;change aP _ _ _ _ [.ptr (ic zs (kx zs c ids).2),_] _ [I (kx zs c ids).1]at j;change 0<=(yi zs c).1/\(yi zs c).1<3 at H;change 0<=(Em zs c ids).1/\(Em zs c ids).1<ids at J;change 0<=(kx zs c ids).1/\(kx zs c ids).1<20 at D;have o:=eD.enc_fr (qM zs c ids).1;unfold qM at o |-;generalize kx zs c ids=k at *;generalize Em zs c ids=n at *;generalize yi zs c=t at *;obtain⟨a,M⟩:=k;dsimp only at d e E F l g h G K L D j o |-;refine fM 77 [(62,[2,0]),(100,[2,1])] [] [(0,0),(0,0)] Tryz.func64 rfl (λu q=>?_) (.inr o)
 repeat'(first|refine gP ?_|(conv=>whnf);first|refine CJ (B) (.inl rfl) ?_|refine CJ (C) (.inl rfl) ?_|refine CJ (j) (.inl rfl) ?_)
 obtain rfl|rfl|rfl|rfl|rfl|rfl|rfl|rfl|rfl|rfl|rfl|rfl|rfl|rfl|rfl|rfl|rfl|rfl|rfl|rfl:=(show a=0\/a=1\/a=2\/a=3\/a=4\/a=5\/a=6\/a=7\/a=8\/a=9\/a=10\/a=11\/a=12\/a=13\/a=14\/a=15\/a=16\/a=17\/a=18\/a=19 by omega)
 ·rw[CB (show((0:Int))<=6 by decide)]
  repeat'(first|refine gP ?_|(conv=>whnf);first|refine CJ (e) (.inl rfl) ?_)
  refine CF rfl rfl ?_;exact wC
 ·rw[CB (show((1:Int))<=6 by decide)]
  repeat'(first|refine gP ?_|(conv=>whnf);first|refine CJ (e) (.inl rfl) ?_)
  refine CF rfl rfl ?_;exact wC
 ·rw[CB (show((2:Int))<=6 by decide)]
  repeat'(first|refine gP ?_|(conv=>whnf);first|refine CJ (e) (.inl rfl) ?_)
  refine CF rfl rfl ?_;exact wC
 ·rw[CB (show((3:Int))<=6 by decide)]
  repeat'(first|refine gP ?_|(conv=>whnf);first|refine CJ (e) (.inl rfl) ?_)
  refine CF rfl rfl ?_;exact wC
 ·rw[CB (show((4:Int))<=6 by decide)]
  repeat'(first|refine gP ?_|(conv=>whnf);first|refine CJ (e) (.inl rfl) ?_)
  refine CF rfl rfl ?_;exact wC
 ·rw[CB (show((5:Int))<=6 by decide)]
  repeat'(first|refine gP ?_|(conv=>whnf);first|refine CJ (e) (.inl rfl) ?_)
  refine CF rfl rfl ?_;exact wC
 ·rw[CB (show((6:Int))<=6 by decide)]
  repeat'(first|refine gP ?_|(conv=>whnf);first|refine CJ (e) (.inl rfl) ?_)
  refine CF rfl rfl ?_;exact wC
 ·rw[C9 (show ¬((7:Int)<=6) by decide),CB (show((7:Int))<=9 by decide)]
  repeat'(first|refine gP ?_|fail)
  refine CF rfl rfl ?_;exact wC
 ·rw[C9 (show ¬((8:Int)<=6) by decide),CB (show((8:Int))<=9 by decide)]
  repeat'(first|refine gP ?_|fail)
  refine CF rfl rfl ?_;exact wC
 ·rw[C9 (show ¬((9:Int)<=6) by decide),CB (show((9:Int))<=9 by decide)]
  repeat'(first|refine gP ?_|fail)
  refine CF rfl rfl ?_;exact wC
 ·rw[C9 (show ¬((10:Int)<=6) by decide),C9 (show ¬((10:Int)<=9) by decide),CB (show((10:Int))<=12 by decide)]
  repeat'(first|refine gP ?_|(conv=>whnf);first|refine CJ (g) (.inl rfl) ?_|refine CJ (h) (.inl rfl) ?_)
  refine CF rfl rfl ?_;exact wC
 ·rw[C9 (show ¬((11:Int)<=6) by decide),C9 (show ¬((11:Int)<=9) by decide),CB (show((11:Int))<=12 by decide)]
  repeat'(first|refine gP ?_|(conv=>whnf);first|refine CJ (g) (.inl rfl) ?_|refine CJ (h) (.inl rfl) ?_)
  refine CF rfl rfl ?_;exact wC
 ·rw[C9 (show ¬((12:Int)<=6) by decide),C9 (show ¬((12:Int)<=9) by decide),CB (show((12:Int))<=12 by decide)]
  repeat'(first|refine gP ?_|(conv=>whnf);first|refine CJ (g) (.inl rfl) ?_|refine CJ (h) (.inl rfl) ?_)
  refine CF rfl rfl ?_;exact wC
 ·rw[C9 (show ¬((13:Int)<=6) by decide),C9 (show ¬((13:Int)<=9) by decide),C9 (show ¬((13:Int)<=12) by decide),CB (show((13:Int))=13 by decide)]
  repeat'(first|refine gP ?_|(conv=>whnf);first|refine CJ (G) (.inl rfl) ?_)
  refine CF rfl rfl ?_;exact wC
 ·rw[C9 (show ¬((14:Int)<=6) by decide),C9 (show ¬((14:Int)<=9) by decide),C9 (show ¬((14:Int)<=12) by decide),C9 (show ¬((14:Int)=13) by decide),CB (show((14:Int))=14 by decide)]
  repeat'(first|refine gP ?_|(conv=>whnf);first|refine CJ (E) (.inl rfl) ?_)
  refine CF rfl rfl ?_;exact wC
 ·rw[C9 (show ¬((15:Int)<=6) by decide),C9 (show ¬((15:Int)<=9) by decide),C9 (show ¬((15:Int)<=12) by decide),C9 (show ¬((15:Int)=13) by decide),C9 (show ¬((15:Int)=14) by decide),CB (show((15:Int))=15 by decide)]
  repeat'(first|refine gP ?_|fail)
  refine CF rfl rfl ?_;exact wC
 ·rw[C9 (show ¬((16:Int)<=6) by decide),C9 (show ¬((16:Int)<=9) by decide),C9 (show ¬((16:Int)<=12) by decide),C9 (show ¬((16:Int)=13) by decide),C9 (show ¬((16:Int)=14) by decide),C9 (show ¬((16:Int)=15) by decide),CB (show((16:Int))=16 by decide)]
  repeat'(first|refine gP ?_|(conv=>whnf);first|refine CJ (F) (.inl rfl) ?_)
  refine CF rfl rfl ?_;exact wC
 ·rw[C9 (show ¬((17:Int)<=6) by decide),C9 (show ¬((17:Int)<=9) by decide),C9 (show ¬((17:Int)<=12) by decide),C9 (show ¬((17:Int)=13) by decide),C9 (show ¬((17:Int)=14) by decide),C9 (show ¬((17:Int)=15) by decide),C9 (show ¬((17:Int)=16) by decide),CB (show((17:Int))=17 by decide)]
  repeat'(first|refine gP ?_|fail)
  refine CF rfl rfl ?_;exact wC
 ·rw[C9 (show ¬((18:Int)<=6) by decide),C9 (show ¬((18:Int)<=9) by decide),C9 (show ¬((18:Int)<=12) by decide),C9 (show ¬((18:Int)=13) by decide),C9 (show ¬((18:Int)=14) by decide),C9 (show ¬((18:Int)=15) by decide),C9 (show ¬((18:Int)=16) by decide),C9 (show ¬((18:Int)=17) by decide)]
  repeat'(first|refine gP ?_|(conv=>whnf);first|refine CJ (l) (.inl rfl) ?_)
  refine CF rfl rfl ?_;exact wC
 rw[C9 (show ¬((19:Int)<=6) by decide),C9 (show ¬((19:Int)<=9) by decide),C9 (show ¬((19:Int)<=12) by decide),C9 (show ¬((19:Int)=13) by decide),C9 (show ¬((19:Int)=14) by decide),C9 (show ¬((19:Int)=15) by decide),C9 (show ¬((19:Int)=16) by decide),C9 (show ¬((19:Int)=17) by decide)]
 repeat'(first|refine gP ?_|(conv=>whnf);first|refine CJ (l) (.inl rfl) ?_)
 refine CF rfl rfl ?_;exact wC
def AC(zs:List Int)(c:ib)(b:j7 zs)(d:c.i<=zs.length):aP Tryz.prog 31 false [.ptr (ic zs c),.val none [I 40]] [.ptr (ic zs (nh zs c).2),.val none [I 40]] .one (od .own (nh zs c).1):=by
 have e:=bQ zs c 41 b d (by decide);have g:=bC zs c (n:=41) (by decide);obtain⟨n,h⟩:=O2 g.1;have a:(bq zs c 41).1.toNat=n:=by rw[h];rfl
 unfold nh;rw[a];rw[h]at e g;refine fM 27 [(62,[2,0]),(64,[2,0])] [] [(0,0),(0,0)] Tryz.func31 rfl (λu q=>?_) (.inr (GU _))
 repeat'(first|refine gP ?_|(conv=>whnf);first|refine CJ (e) (.inl rfl) ?_)
 (conv=>whnf)
 refine CE (ι:=Nat) (λi=>[(0,.F .box (ic zs (kK zs c i).2)),(5,.F .one (od .own (kK zs c i).1)),(6,.F .one [I ((n:Nat):Int)]),(7,.F .one [I ((i:Nat):Int)])]) (λi=>i<=n) (λi=>n - i) (0) ?_ (T0 _) λi p=>?_
 ·exact wC
 obtain⟨t,-,j⟩:=qT (zs:=zs) (c:=c) d (n:=i) ω;by_cases w:i<n
 ·have k:=Eh zs (kK zs c i).2 (1+(i:Int) / 2) b j ω
  have l:((i:Nat):Int).tdiv 2=(i:Int) / 2:=Int.tdiv_eq_ediv_of_nonneg ω
  repeat'(first|refine gE ?_|(conv=>whnf);first|with_reducible (first|refine CS l ?_|refine CM ω ?_)|refine CJ (k) (.inl rfl) ?_|refine CN (aM λ_=>rfl) (λr o=>by rw[C1.1 o];rfl) (by simp[aW,dn,eD.enc]) (by simp;omega) (by simp only[X0];exact yb (by simp;omega) (by decide)) rfl ?_)
  ((conv=>whnf);refine CD (i+1) ω ω ?_)
  repeat'(first|exact trivial|rfl| exact cJ _ |exact CI rfl (CI (U0 (C.s du.own) (by simp[kK];rfl)) trivial)|refine CI ?_ ?_|(exact u7 (by first|omega|(simp only;omega)|(simp;omega))))
 obtain rfl:i=n:=ω
 repeat'(first|refine gE ?_|fail)
 refine CF rfl rfl ?_;exact wC
def rfs(h:ac):List Int:=h.M.e
def AS(k:af)(p:Int):(gc k p).1.e=k.e:=by unfold gc;split<;>rfl
def rn(k:af)(p:Int):∀n,(cR k p n).1.e=k.e
 | 0=>rfl
 | n+1=>by
  unfold cR;split
  ·exact(AS _ _).trans (rn k p n)
  exact rn k p n
def Kb(h:ac)(i:Nat):rfs (rr h i).1=rfs h:=by unfold rr;split<;>rfl
def yn(h:ac)(t c:Nat):rfs (gl h t c).1=rfs h:=by
 unfold gl;split
 ·rfl
 split
 ·rfl
 split
 ·rfl
 split
 ·exact AS _ _
 exact(Kb _ _).trans (AS _ _)
def HQ(h:ac)(t n:Int):rfs (gm h t n).1=rfs h:=by
 unfold gm;split
 ·rfl
 split
 ·rfl
 split
 ·rfl
 split
 ·rfl
 split
 ·split
  ·exact yn _ _ _
  exact yn _ _ _
 unfold pJ;split
 ·rfl
 split
 ·exact rn _ _ _
 exact((rS _ _ _).2).trans (rn _ _ _)
def L9(h:ac)(t i:Nat):rfs (freeT h t i).1=rfs h:=by
 unfold freeT;split
 ·exact(rS _ _ _).2
 split
 ·rfl
 split
 ·exact(jl t _ _).2.2.2.2.2.2.2
 split<;>rfl
def zj(t:Nat)(h:ac):∀k,rfs (flushN t h k).1=rfs h
 | 0=>rfl
 | k+1=>((kJ _ (spilt (flushN t h k).1 t k)).2.2.2.2.2.2.2).trans (zj t h k)
def EV{h:ac}(a:aR h [])(b:JI h):∀n,rfs (ns h n).1=rfs h
 | 0=>rfl
 | n+1=>by
  obtain⟨c,d⟩:=zN a b n;unfold ns;split
  ·rename_i e
   unfold ui at e;rw[I0]at e;exact((Fg c e.1).2.2.1).trans (EV a b n)
  exact EV a b n
def Kp{w:bG}{m:Nat}(h:nt w m)(a:eD):rfs (rE w a).1.a=rfs w.a:=by
 unfold rE;split
 ·exact HQ _ _ _
 split
 ·split
  ·rfl
  unfold qd;split
  ·unfold uI
   split
   ·rfl
   split
   ·exact L9 _ _ _
   rfl
  split
  ·unfold qK
   split
   ·rfl
   split
   ·rfl
   split<;>rfl
  unfold uB;split
  ·exact((rS _ _ _).2).trans (wK _ _ _).2.2
  rfl
 split
 ·unfold gS
  split
  ·split<;>rfl
  split
  ·rfl
  split
  ·exact(jl _ _ _).2.2.2.2.2.2.2
  exact zj _ _ _
 split
 ·unfold qx
  split
  ·exact(kJ _ _).2.2.2.2.2.2.2
  rfl
 split
 ·unfold rx
  split
  ·rfl
  show rfs (started w.a).1=_;unfold rfs;rw[(Be h.inv).2.1]
 split
 ·exact EV h.inv h.ji _
 rfl
def ER{c:cQ}(h:Jj c)(acts:List eD):∀n,rfs (Bd c acts n).1.a=c.e
 | 0=>rfl
 | n+1=>(Kp (zD h acts n) _).trans (ER h acts n)
def pU(w:bG):List C:=br w.a++ax.enc .U w.c4
def MJ(w:bG):d8 (pU w)=bG.enc .U w:=by
 unfold pU;rw[er,bz,<-CY,qW,CY]
 rfl
def DV(w:bG)(id:Int)(g:w.a.O.length<=1048576):aP Tryz.prog 88 false [.ptr (pU w),.val none [I id]] [.ptr (pU w),.val none [I id]] .one [I (qv w.a id)]:=by
 refine fM 28 [] [] [(0,0),(0,0)] Tryz.func88 rfl (λu q=>?_)
 repeat'(first|refine gP ?_|(conv=>whnf);first|refine C8 ?_)
 (conv=>whnf)
 refine CE (ι:=Nat) (λi=>[(0,.F .box (pU w)),(1,.F .one [I (id)]),(5,.F .one [I ((i:Nat):Int)])]) (λi=>i<=w.a.O.length/\∀(j:Nat)(z:bF),j<i->w.a.O[j]? = some z->JA id z=false) (λi=>w.a.O.length - i) (0) ?_ (⟨T0 _,λj z h=>ω⟩) λi c=>?_
 ·exact wC
 obtain⟨c,b⟩:=c;by_cases d:i<w.a.O.length
 ·have a:=ah d
  by_cases e:(nth w.a.O i).Id=id
  ·repeat'(first|refine gB ?_|(conv=>whnf);first|with_reducible refine CA (aa a) ?_|refine C8 ?_|refine CG rfl (aa a) rfl ?_)
   refine CF rfl (U0 (λz=>[I z]) (dX a (O0 e) b).symm) ?_;exact wC
  repeat'(first|refine gB ?_|(conv=>whnf);first|with_reducible refine CA (aa a) ?_|refine C8 ?_|refine CG rfl (aa a) rfl ?_)
  ((conv=>whnf);refine CD (i+1) ⟨ω,fL a (R0 e) b⟩ ω ?_;(exact wC))
 repeat'(first|refine gE ?_|(conv=>whnf);first|refine C8 ?_)
 refine CF rfl (U0 (λz=>[I z]) (fS ω b).symm) ?_;exact wC
def cK(y:ac):(br y).length=24:=rfl
def xt(w:bG)(m n:Nat)(h:nt w m)(B:n<=50):aP Tryz.prog 96 false [.ptr (pU w),.val none [I (n:Nat)]] [.ptr (pU ⟨(ns w.a n).1,w.c4⟩),.val none [I (n:Nat)]] .one [I ((ns w.a n).2:Nat)]:=by
 refine fM 35 [(149,[2])] [] [(0,0),(0,0)] Tryz.func96 rfl (λu q=>?_)
 repeat'(first|refine gP ?_|(conv=>whnf);first|refine C8 ?_)
 (conv=>whnf)
 refine CE (ι:=Nat) (λi=>[(0,.F .box (pU ⟨(ns w.a i).1,w.c4⟩)),(1,.F .one [I ((n:Nat):Int)]),(5,.F .one [I (((ns w.a i).2:Nat):Int)]),(6,.F .one [I ((i:Nat):Int)])]) (λi=>i<=n/\(ns w.a i).2=i) (λi=>n - i) (0) ?_ (⟨T0 _,rfl⟩) λi l=>?_
 ·exact wC
 obtain⟨l,C⟩:=l;obtain⟨o,D⟩:=zN h.inv h.ji i;have b:ns w.a (i+1)=if ui (ns w.a i).1=true then(mStep (ns w.a i).1,(ns w.a i).2+1) else ns w.a i:=rfl
 have p:=(aD.1 o.ker).2.2.2.2;by_cases E:i<n
 ·cases c:(ns w.a i).1.b0 with
  | true=>
   have y:=(zO _ o c).frame (r:=ax.enc .U w.c4) ((cK _).trans (cK _).symm);by_cases g:(ns w.a i).1.M.q<=99000
   ·have d:ui (ns w.a i).1=true:=by unfold ui;rw[c,O0 g];rfl
    rw[CB d]at b;generalize ns w.a i=s at *
    repeat'(first|refine gE ?_|(conv=>whnf);first|refine C8 ?_|refine Bf.t (O0 g) ?_|refine Bf.t c ?_|refine CJ (y) (.inl rfl) ?_)
    ((conv=>whnf);refine CD (i+1) ⟨ω,by rw[b];simp only;omega⟩ ω ?_)
    rw[b];exact wC
   have d:ui (ns w.a i).1=false:=by unfold ui;rw[c,R0 g];rfl
   have a:∀k,ns w.a (i+k)=ns w.a i:=λk=>by
    induction k with
    | zero=>rfl
    | succ k j=>show(if ui (ns w.a (i+k)).1=true then _ else ns w.a (i+k))=_;rw[j,d,C9 (by simp)]
   have e:=a (n - i);rw[show i+(n - i)=n by omega]at e;rw[e];generalize ns w.a i=s at *
   repeat'(first|refine gE ?_|(conv=>whnf);first|refine C8 ?_|refine Bf.f (R0 g) ?_|refine Bf.t c ?_)
   refine CF rfl rfl ?_;exact wC
  | false=>
   have d:ui (ns w.a i).1=false:=by unfold ui;rw[c];rfl
   have a:∀k,ns w.a (i+k)=ns w.a i:=λk=>by
    induction k with
    | zero=>rfl
    | succ k j=>show(if ui (ns w.a (i+k)).1=true then _ else ns w.a (i+k))=_;rw[j,d,C9 (by simp)]
   have e:=a (n - i);rw[show i+(n - i)=n by omega]at e;rw[e];generalize ns w.a i=s at *
   repeat'(first|refine gE ?_|(conv=>whnf);first|refine C8 ?_|refine Bf.f c ?_)
   refine CF rfl rfl ?_;exact wC
 obtain rfl:i=n:=ω
 repeat'(first|refine gE ?_|(conv=>whnf);first|refine C8 ?_)
 refine CF rfl rfl ?_;exact wC
def EO{k:af}(a:aC k=true):(aC k&&decide (k.q<100000))=decide (k.q≠100000):=by
 have:=(aD.1 a).2.2.2.2;rw[a,Bool.true_and,O4,C0,C0];omega
def uV(w:bG)(a:eD)(m:Nat)(h:nt w m)(B:a.b6=5\/a.b6=6\/a.b6=7):aP Tryz.prog 90 false [.ptr (pU w),.val (some 5) (eD.enc .U a)] [.ptr (pU ⟨(gS w.a a).1,w.c4⟩),.val (some 5) (eD.enc .U a)] .one [I (gS w.a a).2]:=by
 have d:=h.inv;have o:=d.nc;have p:w.a.R.length<=4:=by have:=(dB.1 d.mail).1.2.1;omega
 have C:=kE.of d.mail;have i:=kW w.a.M (bE d.ker);rw[EO d.ker]at i;have j:=aE a.a4 0 (w.a.R.length - 1:Int);unfold gS;refine fM 59 [(128,[2,0]),(129,[2,0])] [(3,267,[15,16,17,18,19,20,21,14,22,23,6,0,1,2,3,4,5,6,7,8,9,10,11,1009,12]),(8,15,[30,31,32,33,34,35,36,37,38,39,40,41,42,43,44])] [(0,0),(0,0)] Tryz.func90 rfl (λu q=>?_);by_cases l:a.b6=5
 ·rw[CB l]
  by_cases e:0<=a.a4/\a.a4<=w.a.R.length - 1
  ·have y:nG w.a a:=e
   obtain⟨t,g⟩:=O2 e.1;have b:=Bk w.a.b t d.mail ω;rw[<-g]at b;rw[g]at e |-;simp only[I2];rw[g]at b;by_cases c:0<(nth w.a.b.T t).length
   ·rw[CB (show nG w.a a/\0<(nth w.a.b.T t).length from⟨y,c⟩)]
    rw[CB c,O0 c]at b;rw[<-g]at b
    repeat'(first|refine gB ?_|(conv=>whnf);first|with_reducible refine Bf.E (λk=>?_) (λk=>?_)|refine C8 ?_|refine CH (b) ⟨⟨rfl,aI.enc_fz w.a.b⟩,⟨rfl,rfl⟩,trivial⟩ ?_|refine C8 ?_)
    refine CF rfl rfl ?_;exact wC
   rw[C9 (show ¬(nG w.a a/\0<(nth w.a.b.T t).length) from λx=>c x.2)];rw[C9 c,R0 c]at b;rw[<-g]at b
   repeat'(first|refine gB ?_|(conv=>whnf);first|with_reducible refine Bf.E (λk=>?_) (λk=>?_)|refine C8 ?_|refine CH (b) ⟨⟨rfl,aI.enc_fz w.a.b⟩,⟨rfl,rfl⟩,trivial⟩ ?_|refine C8 ?_)
   refine CF rfl rfl ?_;exact wC
  rw[C9 (show ¬(nG w.a a/\0<(nth w.a.b.T a.a4.toNat).length) from λx=>e x.1)];have b:=FB w.a.b a.a4 d.mail ω
  repeat'(first|refine gB ?_|(conv=>whnf);first|with_reducible refine Bf.E (λk=>?_) (λk=>?_)|refine C8 ?_|refine CH (b) ⟨⟨rfl,aI.enc_fz w.a.b⟩,⟨rfl,rfl⟩,trivial⟩ ?_|refine C8 ?_)
  refine CF rfl rfl ?_;exact wC
 rw[C9 l];by_cases e:w.a.M.q≠100000;rotate_left
 ·rw[CB (show ¬(w.a.M.q≠100000/\nG w.a a) from λx=>e x.1)]
  rw[R0 e]at i
  repeat'(first|refine gB ?_|(conv=>whnf);first|refine C8 ?_|refine CH (i) ⟨⟨rfl,CQ _⟩,trivial⟩ ?_|refine C8 ?_)
  refine CF rfl rfl ?_;exact wC
 rw[O0 e]at i;by_cases c:0<=a.a4/\a.a4<=w.a.R.length - 1;rotate_left
 ·rw[CB (show ¬(w.a.M.q≠100000/\nG w.a a) from λx=>c x.2)]
  rw[R0 c]at j
  repeat'(first|refine gB ?_|(conv=>whnf);first|refine C8 ?_|refine CH (i) ⟨⟨rfl,CQ _⟩,trivial⟩ ?_|refine C7 (j) ?_|refine C8 ?_)
  refine CF rfl rfl ?_;exact wC
 rw[C9 (show ¬¬(w.a.M.q≠100000/\nG w.a a) from U3 ⟨e,c⟩)];rw[O0 c]at j;obtain⟨t,g⟩:=O2 c.1;by_cases n:a.b6=6
 ·rw[CB n]
  have b:=(tV w.a t d ω).frame (r:=ax.enc .U w.c4) ((cK _).trans (cK _).symm);rw[show a.a4.toNat=t by omega];rw[<-g]at b
  repeat'(first|refine gB ?_|(conv=>whnf);first|refine C8 ?_|refine CH (i) ⟨⟨rfl,CQ _⟩,trivial⟩ ?_|refine C7 (j) ?_|refine CJ (b) (.inl rfl) ?_|refine C8 ?_)
  refine CF rfl rfl ?_;exact wC
 rw[C9 n];have b:=(xU w.a t d ω).frame (r:=ax.enc .U w.c4) ((cK _).trans (cK _).symm);rw[show a.a4.toNat=t by omega];rw[<-g]at b
 repeat'(first|refine gB ?_|(conv=>whnf);first|refine C8 ?_|refine CH (i) ⟨⟨rfl,CQ _⟩,trivial⟩ ?_|refine C7 (j) ?_|refine CJ (b) (.inl rfl) ?_|refine C8 ?_)
 refine CF rfl rfl ?_;exact wC
def wY(w:bG)(a:eD)(i m:Nat)(h:nt w m)(S:m<=900)(p:i<w.a.O.length):aP Tryz.prog 89 false [.ptr (pU w),.val (some 5) (eD.enc .U a),.val none [I (i:Nat)]] [.ptr (pU (qd w a i).1),.val (some 5) (eD.enc .U a),.val none [I (i:Nat)]] .one [I (qd w a i).2]:=by
 have e:=h.inv;have b:=ah p;have J:=sP e (am p);have K:=me e (am p) (k:=0);have M:1<=(nth w.a.O i).d/\(nth w.a.O i).d<=1000:=by
  rcases e.oow _ (am p) with⟨s,N,T,U⟩|⟨l,F,d,c⟩
  ·have V:=aB (e.L.sok s N)
   have:=mQ (n:=(nth w.a.O i).d) ω;omega
  have W:=bR (e.L.lok l F);omega
 have g:=kW w.a.M (bE e.ker);rw[EO e.ker]at g;unfold qd;refine fM 126 [(121,[2,0,0]),(123,[2,0,0]),(125,[2,0,0])] [(6,7,[29,30,31,32,33,34,35]),(8,269,[40,41,42,43,44,45,46,47,39,48,49,50,51,0,1,2,3,4,5,6,7,8,9,10,11,12,13,1010]),(13,10,[62,63,64,65,66,67,68,69,70,71]),(15,273,[76,77,78,79,80,81,82,83,84,85,86,87,75,88,89,90,91,0,1,2,3,4,5,6,7,8,9,10,11,12,13,14,15,16,17,1014]),(17,15,[93,94,95,96,97,98,99,100,101,102,103,104,105,106,107]),(19,271,[112,113,114,115,116,117,118,119,120,121,111,122,123,124,125,0,1,2,3,4,5,6,7,8,9,10,11,12,13,14,15,1012])] [(0,0),(0,0),(0,0)] Tryz.func89 rfl (λu q=>?_);by_cases G:a.b6=2
 ·rw[CB G]
  unfold uI;by_cases d:w.a.M.q=100000
  ·rw[CB d]
   rw[R0 (U3 d)]at g
   repeat'(first|refine gB ?_|(conv=>whnf);first|with_reducible refine CA (aa b) ?_|refine C8 ?_|refine CH (g) ⟨⟨rfl,CQ _⟩,trivial⟩ ?_|refine CG rfl (aa b) rfl ?_|refine C8 ?_)
   refine CF rfl rfl ?_;exact wC
  rw[C9 d];rw[O0 d]at g;have B:=(MI w.a i a.a4 e p).frame (r:=ax.enc .U w.c4) ((cK _).trans (cK _).symm);by_cases c:0<=a.a4/\a.a4<=w.a.R.length - 1
  ·rw[CB (show nG w.a a from c)]
   rw[CB c,CB c]at B;have O:=AJ w.c4 (nth w.a.O i).Id m h.ref ω;generalize freeT w.a a.a4.toNat i=f at B |-;by_cases o:f.2=0
   ·rw[CB o]
    repeat'(first|refine gB ?_|(conv=>whnf);first|with_reducible (first|refine CA (aa b) ?_|refine Bf.E (λj=>?_) (λj=>?_))|refine C8 ?_|refine CH (g) ⟨⟨rfl,CQ _⟩,trivial⟩ ?_|refine CG rfl (aa b) rfl ?_|refine CJ (B) (.inl rfl) ?_|refine Cl.sh O rfl ?_|refine C8 ?_)
    refine CF rfl rfl ?_;exact wC
   rw[C9 o]
   repeat'(first|refine gB ?_|(conv=>whnf);first|with_reducible (first|refine CA (aa b) ?_|refine Bf.E (λj=>?_) (λj=>?_))|refine C8 ?_|refine CH (g) ⟨⟨rfl,CQ _⟩,trivial⟩ ?_|refine CG rfl (aa b) rfl ?_|refine CJ (B) (.inl rfl) ?_|refine C8 ?_)
   refine CF rfl rfl ?_;exact wC
  rw[C9 (show ¬nG w.a a from c)];rw[C9 c,C9 c]at B
  repeat'(first|refine gB ?_|(conv=>whnf);first|with_reducible (first|refine CA (aa b) ?_|refine Bf.E (λj=>?_) (λj=>?_))|refine C8 ?_|refine CH (g) ⟨⟨rfl,CQ _⟩,trivial⟩ ?_|refine CG rfl (aa b) rfl ?_|refine CJ (B) (.inl rfl) ?_|refine C8 ?_)
  refine CF rfl rfl ?_;exact wC
 rw[C9 G];by_cases H:a.b6=3
 ·rw[CB H]
  unfold qK;have C:=aE a.At 0 ((nth w.a.O i).d - 1);by_cases d:0<=a.At/\a.At<=(nth w.a.O i).d - 1;rotate_left
  ·rw[CB d]
   rw[R0 d]at C
   repeat'(first|refine gB ?_|(conv=>whnf);first|with_reducible (first|refine CA (aa b) ?_|refine Bf.E (λj=>?_) (λj=>?_))|refine C8 ?_|refine CG rfl (aa b) rfl ?_|refine C7 (C) ?_|refine C8 ?_)
   refine CF rfl rfl ?_;exact wC
  rw[C9 (U3 d)];rw[O0 d]at C;have D:=(x8 w.a i a.At a.Value e p d).frame (r:=ax.enc .U w.c4) (by split<;>rfl);have P:=me e (am p) d;by_cases c:(au w.a.M.G.S (((nth w.a.O i).X+a.At) / 16)).w=1
  ·rw[CB c]
   rw[CB (.inl c),CB c]at D
   repeat'(first|refine gB ?_|(conv=>whnf);first|with_reducible (first|refine CA (aa b) ?_|refine Bf.E (λj=>?_) (λj=>?_))|refine C8 ?_|refine CG rfl (aa b) rfl ?_|refine C7 (C) ?_|refine CJ (D) (.inl rfl) ?_|refine C8 ?_)
   refine CF rfl rfl ?_;exact wC
  rw[C9 c];by_cases o:0<=a.Value/\a.Value<=999;rotate_left
  ·rw[CB o]
   rw[CB (.inr o),C9 c,CB o]at D
   repeat'(first|refine gB ?_|(conv=>whnf);first|with_reducible (first|refine CA (aa b) ?_|refine Bf.E (λj=>?_) (λj=>?_))|refine C8 ?_|refine CG rfl (aa b) rfl ?_|refine C7 (C) ?_|refine CJ (D) (.inl rfl) ?_|refine C8 ?_)
   refine CF rfl rfl ?_;exact wC
  rw[C9 (U3 o)];rw[C9 (λx=>x.elim c λy=>y o),C9 c,C9 (U3 o)]at D;obtain⟨X,Q⟩:=zG w.c4 (nth w.a.O i).Id a.At a.Value m h.ref ω o
  repeat'(first|refine gB ?_|(conv=>whnf);first|with_reducible (first|refine CA (aa b) ?_|refine Bf.E (λj=>?_) (λj=>?_))|refine C8 ?_|refine CG rfl (aa b) rfl ?_|refine C7 (C) ?_|refine CJ (D) (.inl rfl) ?_|refine C7 (Q) ?_|refine C8 ?_)
  refine CF rfl rfl ?_;exact wC
 rw[C9 H];unfold uB;by_cases d:w.a.M.q=100000
 ·rw[C9 (λx=>x.1 d)]
  rw[R0 (U3 d)]at g
  repeat'(first|refine gB ?_|(conv=>whnf);first|with_reducible refine CA (aa b) ?_|refine C8 ?_|refine CH (g) ⟨⟨rfl,CQ _⟩,trivial⟩ ?_|refine CG rfl (aa b) rfl ?_|refine C8 ?_)
  refine CF rfl rfl ?_;exact wC
 rw[O0 d]at g;by_cases c:kQ w.a i a.Value
 ·rw[CB ⟨d,c⟩]
  have t:=(qU w.a i a.Value e p c.1).frame (r:=ax.enc .U w.c4) (by split<;>rfl);rw[CB c,O0 c]at t;obtain⟨Y,R⟩:=DT w.c4 (nth w.a.O i).Id a.Value m h.ref ω
  repeat'(first|refine gB ?_|(conv=>whnf);first|with_reducible refine CA (aa b) ?_|refine C8 ?_|refine CH (g) ⟨⟨rfl,CQ _⟩,trivial⟩ ?_|refine CG rfl (aa b) rfl ?_|refine CJ (t) (.inl rfl) ?_|refine C7 (R) ?_|refine C8 ?_)
  refine CF rfl rfl ?_;exact wC
 rw[C9 (λx=>c x.2)];by_cases o:x9 w.a (nth w.a.O i).X<0
 ·have t:=(EC w.a (nth w.a.O i).X a.Value (by have:=e.lens.larges;omega) e.L.lok o).frame (r:=ax.enc .U w.c4) ((cK _).trans (cK _).symm)
  repeat'(first|refine gB ?_|(conv=>whnf);first|with_reducible refine CA (aa b) ?_|refine C8 ?_|refine CH (g) ⟨⟨rfl,CQ _⟩,trivial⟩ ?_|refine CG rfl (aa b) rfl ?_|refine CJ (t) (.inl rfl) ?_|refine C8 ?_)
  refine CF rfl rfl ?_;exact wC
 have t:=(qU w.a i a.Value e p ω).frame (r:=ax.enc .U w.c4) (by split<;>rfl);rw[C9 c,R0 c]at t
 repeat'(first|refine gB ?_|(conv=>whnf);first|with_reducible refine CA (aa b) ?_|refine C8 ?_|refine CH (g) ⟨⟨rfl,CQ _⟩,trivial⟩ ?_|refine CG rfl (aa b) rfl ?_|refine CJ (t) (.inl rfl) ?_|refine C8 ?_)
 refine CF rfl rfl ?_;exact wC
def nt.fit{w:bG}{m:Nat}(h:nt w m)(a:iO w.a.M.e):ac.sml w.a/\ac.wf w.a:=
 ⟨(h.inv.fit a (kE.of h.inv.mail).sml).sml,h.inv.wf a⟩
def Fj(w:bG)(a:eD)(m:Nat)(h:nt w m)(H:m<=900)(J:iO w.a.M.e):aP Tryz.prog 60 false [.ptr (pU w),.val (some 5) (eD.enc .U a)] [.ptr (pU (rE w a).1),.val (some 5) (eD.enc .U a)] .one [I (rE w a).2]:=by
 have i:=h.inv;have j:=i.nums;unfold cr at j;rw[C0]at j;unfold rE;refine fM 123 [(86,[2,0,0]),(88,[2,0]),(89,[2,0,0]),(90,[2,0]),(93,[2,0]),(95,[2]),(96,[2,0])] [(3,265,[13,14,15,16,17,18,19,21,22,0,1,2,3,4,5,6,7,8,9,10,11,1010,12]),(5,269,[26,27,28,29,30,31,32,33,25,34,35,36,37,0,1,2,3,4,5,6,7,8,9,10,11,12,13,1010]),(19,21,[62,63,64,65,66,67,68,69,70,71,72,73,74,75,76,77,78,79,80,81,82]),(21,5,[86,87,88,89,90])] [(0,0),(0,0)] Tryz.func60 rfl (λu q=>?_);by_cases C:a.b6=1
 ·rw[CB C]
  have c:=(yf w.a a.a4 a.N i).frame (r:=ax.enc .U w.c4) ((cK _).trans (cK _).symm);by_cases e:(gm w.a a.a4 a.N).2.2=0
  ·rw[CB e]
   have o:1<=a.N/\a.N<=1000:=by
    refine Classical.byContradiction λp=>?_
    unfold gm at e;rw[CB p]at e;split at e
    ·exact absurd (show(5:Int)=0 from e) (by decide)
    split at e
    ·exact absurd (show(1:Int)=0 from e) (by decide)
    exact absurd (show(2:Int)=0 from e) (by decide)
   have l:=x4 w.c4 a.N m h.ref ω o;generalize gm w.a a.a4 a.N=f at c e |-
   repeat'(first|refine gB ?_|(conv=>whnf);first|with_reducible refine Bf.E (λb=>?_) (λb=>?_)|refine C8 ?_|refine CJ (c) (.inl rfl) ?_|refine C7 (l) ?_|refine C8 ?_)
   refine CF rfl rfl ?_;exact wC
  rw[C9 e];generalize gm w.a a.a4 a.N=f at c e |-
  repeat'(first|refine gB ?_|(conv=>whnf);first|with_reducible refine Bf.E (λb=>?_) (λb=>?_)|refine C8 ?_|refine CJ (c) (.inl rfl) ?_|refine C8 ?_)
  refine CF rfl rfl ?_;exact wC
 rw[C9 C];by_cases D:a.b6=2\/a.b6=3\/a.b6=4
 ·rw[CB D]
  have c:=DV w a.N (by have:=i.lens.objs;omega);by_cases e:qv w.a a.N<0
  ·rw[CB e]
   repeat'(first|refine gB ?_|(conv=>whnf);first|with_reducible refine Bf.E (λb=>?_) (λb=>?_)|refine C8 ?_|refine CJ (c) (.inl rfl) ?_)
   all_goals first|omega|skip
   all_goals
    refine CF rfl rfl ?_;exact wC
  rw[C9 e];obtain⟨K,O,P⟩:=fR (JA a.N) w.a.O (by unfold qv at e;omega);have l:=wY w a (qv w.a a.N).toNat m h H K;rw[show(((qv w.a a.N).toNat:Nat):Int)=qv w.a a.N by omega]at l
  repeat'(first|refine gB ?_|(conv=>whnf);first|with_reducible refine Bf.E (λb=>?_) (λb=>?_)|refine C8 ?_|refine CJ (c) (.inl rfl) ?_|refine CJ (l) (.inl rfl) ?_)
  all_goals first|omega|skip
  all_goals
   refine CF rfl rfl ?_;exact wC
 rw[C9 D];by_cases y:a.b6=5\/a.b6=6\/a.b6=7
 ·rw[CB y]
  have c:=uV w a m h y
  repeat'(first|refine gB ?_|(conv=>whnf);first|with_reducible refine Bf.E (λb=>?_) (λb=>?_)|refine C8 ?_|refine CJ (c) (.inl rfl) ?_)
  all_goals first|omega|skip
  all_goals
   refine CF rfl rfl ?_;exact wC
 rw[C9 y];by_cases F:a.b6=8
 ·rw[CB F]
  unfold qx;have d:=kW w.a.M (bE i.ker);rw[EO i.ker]at d;have c:=aE a.N 0 1000;by_cases g:w.a.M.q≠100000;rotate_left
  ·rw[C9 (λx=>g x.1)]
   rw[R0 g]at d
   repeat'(first|refine gB ?_|(conv=>whnf);first|with_reducible refine Bf.E (λb=>?_) (λb=>?_)|refine C8 ?_|refine CH (d) ⟨⟨rfl,CQ _⟩,trivial⟩ ?_|refine C8 ?_)
   refine CF rfl rfl ?_;exact wC
  rw[O0 g]at d;by_cases k:0<=a.N/\a.N<=1000;rotate_left
  ·rw[C9 (λx=>k x.2.1)]
   rw[R0 k]at c
   repeat'(first|refine gB ?_|(conv=>whnf);first|with_reducible refine Bf.E (λb=>?_) (λb=>?_)|refine C8 ?_|refine CH (d) ⟨⟨rfl,CQ _⟩,trivial⟩ ?_|refine C7 (c) ?_|refine C8 ?_)
   refine CF rfl rfl ?_;exact wC
  rw[O0 k]at c;by_cases B:w.a.b5+a.N<=1000000
  ·rw[CB ⟨g,k,B⟩]
   have l:=(z8 w.a a.N i k B).frame (r:=ax.enc .U w.c4) ((cK _).trans (cK _).symm)
   repeat'(first|refine gB ?_|(conv=>whnf);first|with_reducible refine Bf.E (λb=>?_) (λb=>?_)|refine C8 ?_|refine CH (d) ⟨⟨rfl,CQ _⟩,trivial⟩ ?_|refine C7 (c) ?_|refine CJ (l) (.inl rfl) ?_|refine C8 ?_)
   refine CF rfl rfl ?_;exact wC
  rw[C9 (λx=>B x.2.2)]
  repeat'(first|refine gB ?_|(conv=>whnf);first|with_reducible refine Bf.E (λb=>?_) (λb=>?_)|refine C8 ?_|refine CH (d) ⟨⟨rfl,CQ _⟩,trivial⟩ ?_|refine C7 (c) ?_|refine C8 ?_)
  refine CF rfl rfl ?_;exact wC
 rw[C9 F];by_cases G:a.b6=9
 ·rw[CB G]
  unfold rx;obtain⟨L,M⟩:=h.fit J;have d:=nX w.a L M;rw[show dw w.a=true from i.to]at d;cases g:w.a.b0 with
  | true=>
   rw[CB rfl]
   repeat'(first|refine gB ?_|(conv=>whnf);first|with_reducible refine Bf.E (λb=>?_) (λb=>?_)|refine C8 ?_|refine Bf.t g ?_|refine C8 ?_)
   refine CF rfl rfl ?_;exact wC
  | false=>
   rw[C9 (by simp)];have c:=(x7 w.a i).frame (r:=ax.enc .U w.c4) ((cK _).trans (cK _).symm);cases k:(started w.a).2<;>rw[k]at c
   ·rw[C9 (by simp)]
    repeat'(first|refine gB ?_|(conv=>whnf);first|with_reducible refine Bf.E (λb=>?_) (λb=>?_)|refine C8 ?_|refine Bf.f g ?_|refine CH (d) ⟨⟨rfl,bz w.a⟩,trivial⟩ ?_|refine CJ (c) (.inl rfl) ?_|refine C8 ?_)
    refine CF rfl rfl ?_;exact wC
   rw[CB rfl]
   repeat'(first|refine gB ?_|(conv=>whnf);first|with_reducible refine Bf.E (λb=>?_) (λb=>?_)|refine C8 ?_|refine Bf.f g ?_|refine CH (d) ⟨⟨rfl,bz w.a⟩,trivial⟩ ?_|refine CJ (c) (.inl rfl) ?_|refine C8 ?_)
   refine CF rfl rfl ?_;exact wC
 rw[C9 G];by_cases k10:a.b6=10;rotate_left
 ·rw[C9 (λx=>k10 x.1)]
  repeat'(first|refine gB ?_|(conv=>whnf);first|with_reducible refine Bf.E (λb=>?_) (λb=>?_)|refine C8 ?_)
  refine CF rfl rfl ?_;exact wC
 have d:=aE a.N 0 50;by_cases g:0<=a.N/\a.N<=50
 ·rw[CB ⟨k10,g⟩]
  rw[O0 g]at d;obtain⟨n,p⟩:=O2 g.1;have c:=xt w m n h ω;rw[show a.N.toNat=n by omega];rw[<-p]at c
  repeat'(first|refine gB ?_|(conv=>whnf);first|with_reducible refine Bf.E (λb=>?_) (λb=>?_)|refine C8 ?_|refine C7 (d) ?_|refine CJ (c) (.inl rfl) ?_|refine C8 ?_)
  refine CF rfl rfl ?_;exact wC
 rw[C9 (λx=>g x.2)];rw[R0 g]at d
 repeat'(first|refine gB ?_|(conv=>whnf);first|with_reducible refine Bf.E (λb=>?_) (λb=>?_)|refine C8 ?_|refine C7 (d) ?_|refine C8 ?_)
 refine CF rfl rfl ?_;exact wC
def AY(w:bG)(h1:ac.sml w.a)(a:ax.sml w.c4):ao Tryz.prog 61 false [.val (some 26) (bG.enc .U w)] .agg (bG.enc .own w):=by
 have b:=A9 w.a h1;have c:=dH w.c4 a;refine fO 10 [(1,5,[3,4,5,6,7])] Tryz.func61 rfl ?_ (.inr (bG.enc_fr _))
 repeat'(first|refine gP ?_|(conv=>whnf);first|refine C7 (b) ?_|refine C7 (c) ?_|refine C8 ?_)
 rfl
def zU(c:cQ)(acts:List eD)(h:Jj c)(b:iO c.e)(w:acts.length<=80):ao Tryz.prog 29 false [.val (some 5) (cQ.enc .U c),.val none (od .U acts)] (.tup [some 26,none]) (bG.enc .own (Bd c acts acts.length).1++aF .own (Bd c acts acts.length).2):=by
 have j:=yg c h;refine fP 42 [(60,[2,0]),(2000005,[6,21,25])] [] Tryz.func29 rfl ?_ (.inr (bc (bG.enc_fr _) (bN _)))
 repeat'(first|refine gE ?_|(conv=>whnf);first|refine C7 (j) ?_|refine F6.mk rfl rfl rfl ?_)
 (conv=>whnf)
 refine CE (ι:=Nat) (λi=>[(1,.F .one (od .U acts)),(4,.F .box [.z,.z,.z,I 0,.z,.z,.z,.z,.z,.z,.z,.z,I 0,.z,I 0,I 0,I 0,I 0,B false,I 0,I 0,.z,I 0,I 0,I 0,.z]),(6,.F .box (pU (Bd c acts i).1)),(8,.F .one (aF .own (Bd c acts i).2)),(9,.F .one [I ((i:Nat):Int)])]) (λi=>i<=acts.length) (λi=>acts.length - i) (0) ?_ (T0 _) λi l=>?_
 ·repeat'(first|exact trivial|rfl |exact nM n|exact cJ _|refine CI ?_ ?_|(exact u7 (by first|omega|(simp only;omega)|(simp;omega))))
 have d:=zD h acts i;have a:=ER h acts i;have e:(Bd c acts i).2.length=i:=by
  clear d a l
  induction i with
  | zero=>rfl
  | succ k o=>show((Bd c acts k).2++[_]).length=_;rw[X2,o];rfl
 by_cases p:i<acts.length
 ·have g:=ah p
  have q:=Fj (Bd c acts i).1 (nth acts i) i d ω (by unfold rfs at a;rw[a];exact b)
  repeat'(first|refine gE ?_|(conv=>whnf);first|with_reducible refine CA (aa g) ?_|refine CG rfl (aa g) rfl ?_|refine CJ (q) (.inl rfl) ?_|refine CN cv (λr b=>by rw[C1.1 b];rfl) (by simp[aW,dn]) (by simp;omega) (by simp only[X0];exact yb (by simp;omega) (by decide)) rfl ?_)
  ((conv=>whnf);refine CD (i+1) ω ω ?_)
  repeat'(first|exact trivial|rfl| exact cJ _ |exact CI rfl (CI (U0 (C.s du.own) (by simp[Bd,rI])) trivial)|refine CI ?_ ?_|(exact u7 (by first|omega|(simp only;omega)|(simp;omega))))
 obtain rfl:i=acts.length:=ω
 have t:=d.fit (by unfold rfs at a;rw[a];exact b);have u:=AY (Bd c acts acts.length).1 t.1 (d.ref.sml ω)
 repeat'(first|refine gE ?_|(conv=>whnf);first|refine CH (u) ⟨⟨rfl,MJ _⟩,trivial⟩ ?_)
 rfl
def BH(zs:List Int)(c:ib):iO (pE zs c).e:=by
 show iO (oh zs 4 0 [] (AG zs c).2).1;have key:∀(f i:Nat)(out:List Int)(c:ib),(∀x∈out,jF x)->∀x∈(oh zs f i out c).1,jF x:=by
  intro f
  induction f with
  | zero=>intro i out c h;exact h
  | succ f b=>
   intro i out c h;unfold oh;split
   ·refine b _ _ _ λx a=>?_
    rcases R2.1 a with a|a
    ·exact h x a
    rw[C1.1 a];have:=bC zs (bq zs c 4).2 (n:=12) (by decide);exact⟨ω,ω⟩
   exact h
 exact⟨by
   have d:∀(f i:Nat)(out:List Int)(c:ib),out.length+f<=4->(oh zs f i out c).1.length<=4:=by
     intro f
     induction f with
     | zero=>intro i out c h;exact h
     | succ f b=>
       intro i out c h;unfold oh;split
       · exact b _ _ _ (by simp only[X2,List.length_singleton];omega)
       show out.length<=4;omega
   have:=d 4 0 [] (AG zs c).2 (U2 _);omega,key 4 0 [] _ (λx a=>by cases a)⟩
def xN(zs:List Int)(a:j7 zs):aP Tryz.prog 10 false [.ptr (ic zs (uv zs))] [.ptr (ic zs (nh zs (fg zs)).2)] .agg (bG.enc .own (drawn zs)):=by
 have b:(uv zs).i<=zs.length:=T0 _;obtain⟨g,d⟩:=vP b;have l:=bC zs (fg zs) (n:=41) (by decide);obtain⟨o,p,-⟩:=qT (zs:=zs) (c:=fg zs) d (n:=(bq zs (fg zs) 41).1.toNat) ω;have e:=w7 zs (uv zs) a b;have h:=AC zs (fg zs) a d;have j:=zU (pE zs (uv zs)) (nh zs (fg zs)).1 g (BH zs _) (by show(kK zs (fg zs) _).1.length<=80;omega);have k:drawn zs=(Bd (pE zs (uv zs)) (nh zs (fg zs)).1 (nh zs (fg zs)).1.length).1:=rfl;rw[k];change aP _ _ _ _ [.ptr (ic zs (fg zs))] _ _ at e;generalize pE zs (uv zs)=cf at *;generalize r:nh zs (fg zs)=A at *;generalize t:Bd cf A.1 A.1.length=R at *;refine fM 14 [(30,[2]),(31,[2,0])] [] [(0,0)] Tryz.func10 rfl (λu q=>?_) (.inr (bG.enc_fr _))
 repeat'(first|refine gP ?_|(conv=>whnf);first|refine CJ (e) (.inl rfl) ?_|refine CJ (h) (.inl rfl) ?_|refine CH (j) ⟨⟨rfl,cQ.enc_fz _⟩,⟨rfl,Jf _⟩,trivial⟩ ?_)
 refine CF rfl rfl ?_;exact wC
def Qc(z:List Int):List C:=[.s .U (z.map rU)]
def B5(zs:List Int)(b:j7 zs):qp Tryz.prog 11 true [.val none (Qc zs)] .box (ic zs (uv zs)):=by
 have r:=b.1;have e:IntKind.i64.wrap (98801+(zs.length:Nat))=w64 (98801+(zs.length:Nat)):=rfl;have g:pb zs 0=98801+(zs.length:Nat):=by show w64 _=_;rw[<-e];exact ed ω ω
 have a:=U0 I g;refine Qd (n:=32) (t:=2) (mo:=[]) (tb:=[]) Tryz.func11 (by kernel_rfl) rfl (by kernel_rfl) (by rfl) rfl ?_
 repeat'(first|refine gP ?_|fail)
 (conv=>whnf)
 refine CE (ι:=Nat) (λi=>[(0,.F .one (Qc zs)),(3,.F .one [I (pb zs i)]),(4,.F .one [I ((i:Nat):Int)])]) (λi=>i<=min zs.length 4000) (λi=>min zs.length 4000 - i) (0) ?_ (T0 _) λi u=>?_
 ·repeat'(first|exact trivial|rfl |exact nM a|exact cJ _|refine CI ?_ ?_|(exact u7 (by first|omega|(simp only;omega)|(simp;omega))))
 have h:IntKind.i64.wrap (pb zs i*131)=w64 (pb zs i*131):=rfl;have j:IntKind.i64.wrap (w64 (pb zs i*131)+nth zs i)=w64 (w64 (pb zs i*131)+nth zs i):=rfl;have k:IntKind.i64.wrap (w64 (w64 (pb zs i*131)+nth zs i)+7)=w64 (w64 (w64 (pb zs i*131)+nth zs i)+7):=rfl;have l:IntKind.i64.wrap (BitVec.ofInt IntKind.i64.bits (w64 (w64 (w64 (pb zs i*131)+nth zs i)+7)) &&& BitVec.ofInt IntKind.i64.bits 1073741823).toNat=pb zs (i+1):=rfl;by_cases c:i<zs.length/\i<4000
 ·have d:=ah c.1
  have w:=b.2 _ (am c.1);generalize pb zs i=H at *;generalize o:pb zs (i+1)=H2 at *
  repeat'(first|refine gE ?_|(conv=>whnf);first|with_reducible (first|refine CA (aa d) ?_|refine CK h ?_|refine CK j ?_|refine CK k ?_|refine CK l ?_)|refine CG rfl (aa d) rfl ?_)
  ((conv=>whnf);refine CD (i+1) ω ω ?_)
  rw[o];exact wC
 obtain rfl:i=min zs.length 4000:=ω
 have p:uv zs = ⟨0,pb zs (min zs.length 4000)⟩:=rfl;rw[p];generalize pb zs (min zs.length 4000)=H at *
 repeat'(first|refine gE ?_|(conv=>whnf);first|with_reducible refine Bf.D (λq=>?_) (λq=>?_))
 all_goals rfl
def vw(zs:List Int)(a:j7 zs):ao Tryz.prog 5 false [.val none (Qc zs)] .agg (bG.enc .own (drawn zs)):=by
 have b:=B5 zs a;have c:=xN zs a;refine fP 6 [(10,[2])] [] Tryz.func5 rfl ?_ (.inr (bG.enc_fr _))
 repeat'(first|refine gP ?_|(conv=>whnf);first|refine Cl.g b (.inr rfl) ?_|refine CJ (c) (.inl rfl) ?_)
 rfl
set_option maxHeartbeats 2000000
set_option maxHeartbeats 2000000
set_option maxHeartbeats 2000000
set_option maxHeartbeats 2000000
set_option maxHeartbeats 2000000
set_option maxHeartbeats 2000000
def J4(zs:List Int):iO (drawn zs).a.M.e:=by
 have a:(uv zs).i<=zs.length:=T0 _;have:=ER (vP a).1 (nh zs (fg zs)).1 (nh zs (fg zs)).1.length;unfold rfs at this;show iO (Bd _ _ _).1.a.M.e;rw[this];exact BH zs _
def HZ(zs:List Int):ac.sml (drawn zs).a/\ac.wf (drawn zs).a:=(Ej zs).fit (J4 zs)
def Pd(zs:List Int)(a:zs.length<=9223372036854775807):ao Tryz.prog 4 false [.val none (Qc zs)] .one [B (decide ((zs.length:Int) > 1048576))]:=by
 refine fO 6 [] Tryz.func4 rfl ?_
 repeat'(first|refine gP ?_|fail)
 rfl
def tC(s:ByteArray):C:=.v (.string s)
def Hr(_:du)(s:ByteArray):List C:=[tC s]
def mG(o:du)(x:List ByteArray):List C:=[.s o (x.map (Hr o))]
def ao.plain{P:Program}{f:Nat}{A:List RA}{x:Value}(k:x.oneCell'=true)(l:Hw P f)(h:∀(w:World)(S:ab)(d:List Value),(∀b o,S b o->b<w.heap.size)->Tb w S->vk w S A d->Calls P f d.toArray w λe w1=>e=.returned x/\Below w.heap.size w w1):ao P f false A .one [.v x]:=
 ⟨l,λw S d i n=>(h w S d i.1 i.2 n).mono λe w1 ⟨p,q⟩=>⟨x,p,b8.of_below q NO,NO,NO,λ_ _ h=>h.elim,λ_ _ h=>h.elim,λ_ _ h=>h.elim,rfl,
   λ_=>NO,λj c a=>by
     cases j with
     | zero=>simp at a;subst a;exact .v _ _ k
     | succ j=>simp at a,
   λ_ _ _ _ h=>h,λj t a g r=>by simp at a g;omega⟩⟩
def val_v{w:World}{S Y:ab}{x v:Value}(h:bu w S Y none [.v x] v):v=x:=by
 have a:=h.rep1;cases a
 rfl
def sW(n:Int)(h:jF n):ao Tryz.prog 14 false [.val none [I n]] .one [tC (Bt.It n)]:=
 .plain rfl ⟨_,Tryz.func14,by kernel_rfl,by kernel_rfl⟩ λw S b d c a=>by
  match b,a with
  | [v],⟨a,_⟩=>
   obtain rfl:=val_v (show bu w S NO none [.v (.int .i64 n)] v from a);exact Bt.it_impl n w h.1 h.2 c.tab
def qi(s:ar):ao Tryz.prog 9 false [.val (some 3) (ar.enc .U s)] .one [tC (Bt.spText s.Q s.Y s.a6)]:=
 .plain rfl ⟨_,Tryz.func9,by kernel_rfl,by kernel_rfl⟩ λw S b d c a=>by
  match b,a with
  | [v],⟨a,_⟩=>
   obtain rfl:=rX (l:=[.int .i64 s.Q,.int .i64 s.Y,.int .i64 s.a6]) (show bu w S NO (some 3) (List.map C.v _) v from a);exact Bt.fs_impl s.Q s.Y s.a6 w c.tab
def Qf(a:bZ):List Value:=[.int .i64 a.a3,.int .i64 a.c9,.int .i64 a.V,.int .i64 a.e1,.int .i64 a.e2,.int .i64 a.c8,.int .i64 a.c6,.int .i64 a.d0]
def M7(a:bZ):ByteArray:=Fa.acS (Ez a) 8
def zq(a:bZ)(h:∀j,jF (Mm.gI (Ez a) j)):ao Tryz.prog 7 false [.val (some 8) (bZ.enc .U a)] .one [tC (M7 a)]:=
 .plain rfl ⟨_,Tryz.func7,by kernel_rfl,by kernel_rfl⟩ λw S c e d b=>by
  match c,b with
  | [v],⟨b,_⟩=>
   obtain rfl:=rX (l:=Qf a) (show bu w S NO (some 8) (List.map C.v _) v from b);exact Fa.accImpl_any (Ez a) w h d.tab
def Jn(xs:List ByteArray)(sep:ByteArray):ByteArray:=⟨(Lib.join (xs.map (·.data.toList)) sep.data.toList).toArray⟩
def Mi(xs:List ByteArray)(sep:ByteArray)(X:xs.length<=1048576)(N:(Jn xs sep).size<=140737488355328):ao Tryz.prog 15 false [.val none (mG .U xs),.val none [tC sep]] .one [tC (Jn xs sep)]:=
 .plain rfl ⟨_,Tryz.func15,by kernel_rfl,by kernel_rfl⟩ λw S O P Y D=>by
  match O,D with
  | [v,Q],⟨D,R,_⟩=>
   obtain rfl:=val_v (show bu w S NO none [.v (.string sep)] Q from R);have d:=bu.rep1 (show bu w S NO none [C.s .U (xs.map (Hr .U))] v from D);generalize b:C.s .U (xs.map (Hr .U))=cc at d;have none_:∀(a:Option Addr)(c:Nat),xs=[]->Calls Tryz.prog 15 #[.slice a 0 c,.string sep] w λe w1=>e=.returned (.string (Jn xs sep))/\Below w.heap.size w w1:=λa c e=>by
    subst e;exact(Tryz.strings_Join_none a c sep w).mono λe w1 ⟨T,U⟩=>by subst U;exact⟨T,Below.refl _ _⟩
   cases d with
   | v=>cases b
   | x=>cases b
   | z=>cases b
   | nil _ o a t=>
    simp only[C.s.injEq,List.map_eq_nil_iff]at b;exact none_ a 0 b.2
   | suf _ o g l k n p h u f t=>cases b;exact t.elim
   | own _ o g k n p h u f t E J i Z hF hu hf hd K=>cases b;exact absurd t (by simp[du.ok])
   | U _ g l k n p h u E J i q K=>
    simp only[C.s.injEq,true_and]at b;subst b;cases xs with
    | nil=>subst E;exact none_ _ _ rfl
    | cons r B=>
     have F:k=1:=by
      have:=J (Hr .U r) (List.mem_map_of_mem (R1 ..));rw[<-this];rfl
     subst F;have G:(r::B).length=n:=by rw[<-E,X0]
     subst G;have V:=q 0 (by simp);refine Tryz.strings_Join g l p (r::B) sep w (λj x L=>?_) (P g (l+0) V.1) ω (by simpa using i) (by
       have:(Jn (r::B) sep).size=(Lib.join ((r::B).map (·.data.toList)) sep.data.toList).length:=by show(List.toArray _).size=_;simp
       omega)
     have N:=(Z1.1 L).1;have H:=K j 0 (Hr .U x) (tC x) (by rw[W2,L];rfl) rfl;have M:=(q j ω).2;rw[show j*1+0=j by omega]at H;have W:u j=.string x:=by
      generalize u j=y at H;cases H
      rfl
     rw[W]at M;exact M
   | _=>cases b
def sm{α:Type}(f:α->Int):List α->Int
 | []=>0
 | a::l=>f a+sm f l
def n7{α:Type}(f:α->Int):∀l m:List α,sm f (l++m)=sm f l+sm f m
 | [],m=>by simp[sm]
 | a::l,m=>by simp only[List.cons_append,sm,n7 f l m];omega
theorem NE{α:Type}(f:α->Int){l m:List α}(h:l.Perm m):sm f l=sm f m:=by
 induction h with
 | nil=>rfl
 | cons x _ a=>simp only[sm,a]
 | swap x y l=>grind [sm]
 | trans _ _ b c=>exact b.trans c
theorem D6{α β:Type}{f:α->Int}{g:β->Int}(k:α->β):∀l:List α,(∀a∈l,g (k a)=f a)->sm g (l.map k)=sm f l
 | [],_=>rfl
 | a::l,h=>by
  simp only[O5,sm];rw[h a (R1 ..),D6 k l λb c=>h b (W4 _ c)]
def Ae{α β:Type}{f:α->Int}{g:β->Int}(k:α->List β):∀l:List α,(∀a∈l,sm g (k a)=f a)->sm g (l.flatMap k)=sm f l
 | [],_=>rfl
 | a::l,h=>by
  rw[Y5,n7];simp only[sm];rw[h a (R1 ..),Ae k l λb c=>h b (W4 _ c)]
def vb{α:Type}{f:α->Int}{c:Int} : ∀l:List α,(∀a∈l,f a=c)->sm f l=l.length*c
 | [],_=>by simp[sm]
 | a::l,h=>by
  simp only[sm];rw[h a (R1 ..),vb l λb d=>h b (W4 _ d),List.length_cons,Int.natCast_succ,Int.add_mul];omega
theorem jN{α:Type}[Inhabited α](f:α->Int)(xs:List α):co f xs xs.length=sm f xs:=by
 have h:∀n,n<=xs.length->co f xs n=sm f (xs.take n):=λn=>by
  induction n with
  | zero=>intro _;rfl
  | succ n b=>
   intro c;have a:=ah (xs:=xs) (i:=n) ω;rw[Y4,a,n7];show co f xs n+f (nth xs n)=_
   grind [sm]
 grind
def cst(h:ac)(a:Int):Int:=if 0<=dN h (a / 16) then cw h a else(nth h.J (uf h a)).d
theorem Dc{h:ac}{p:Int}(a:∀s∈h.H,s.Q≠p):dN h p = -1:=by
 unfold dN;refine fS (i:=h.H.length) (U2 _) λj z b c=>?_
 grind [kn]
theorem rz{h:ac}{E:List Int}(e:aR h E){a c:Int}(f:0<=c)(b:iB h.H a c):cst h a=csz c:=by
 obtain⟨s,b,d,g⟩:=b;obtain⟨i,j,rfl⟩:=aY b;have k:(nth h.H i).Q=a / 16:=by have l:=d.1;have n:=d.2.1;omega
 grind [jT,aR.L,cst,cw]
theorem M3{h:ac}{E:List Int}(d:aR h E){a:Int}(b:iB h.H a (-1)):cst h a=cw h a:=by
 obtain⟨s,b,c,-⟩:=b;obtain⟨i,e,rfl⟩:=aY b;have f:(nth h.H i).Q=a / 16:=by have g:=c.1;have j:=c.2.1;omega
 grind [jT,aR.L,cst]
theorem yw{h:ac}{E:List Int}(a:aR h E){l:ay}(b:l∈h.J):cst h (16*l.Q)=l.d:=by
 have o:=bR (a.L.lok l b);have g:=aN (a.L.lok l b);have i:16*l.Q / 16=l.Q:=ω
 have c:dN h l.Q = -1:=Dc λs k e=>a.L.dis s k l b 0 ω ω
 unfold cst;rw[i,c,C9 (by decide)];obtain⟨f,p,-⟩:=uH b rfl;obtain⟨j,n,d⟩:=aY b;have q:=aN (a.L.lok _ (am f));have:=a.L.one (uf h (16*l.Q)) j f n 0 0 ω (by rw[d];omega) (by rw[d];omega);rw[this,d]
def NC(s:ar):List Int:=((List.range 16).filter λi=>decide (((i:Nat):Int) % csz s.Y=0)&&aQ s.a6 (((i:Nat):Int) / csz s.Y)).map λi=>16*s.Q+(i:Nat)
theorem oU{s:ar}{a:Int} : a∈NC s↔ew s a:=by
 unfold NC ew;rw[X3];constructor
 ·grind
 rintro⟨b,c,d,e⟩
 refine⟨(a - 16*s.Q).toNat,?_,ω⟩
 grind
theorem P3(s:ar):(NC s).Nodup:=by grind [List.nodup_range,NC]
def fil(f:Nat->Bool)(n:Nat):Nat:=((List.range n).filter f).length
theorem vp(f:Nat->Bool)(n:Nat):fil f (n+1)=fil f n+if f n=true then 1 else 0:=by grind [List.range_succ,fil]
theorem Mx(f g p:Nat->Bool)(k:Nat)(a:0<k)(b:∀m j,j<k->f (k*m+j)=p m)(c:∀m j,j<k->g (k*m+j)=(decide (j=0)&&p m))(n:Nat):fil f (k*n)=k*fil g (k*n):=by
 induction n with
 | zero=>rfl
 | succ n d=>
  have h:∀j,j<=k->fil f (k*n+j)=fil f (k*n)+(if p n=true then j else 0)/\fil g (k*n+j)=fil g (k*n)+(if p n=true/\0<j then 1 else 0):=λj=>by
   induction j with
   | zero=>grind
   | succ j ih2=>
    grind [vp]
  grind
theorem PA{s:ar}(f:aT s=true):Bc s=(NC s).length*csz s.Y:=by
 have c:=aB f;obtain⟨k,d⟩:=O2 (show 0<=csz s.Y by rcases bW c.2.2 with e|e|e|e<;>rw[e]<;>decide);have g:∃n,16=k*n/\0<k:=by
  rcases bW c.2.2 with e|e|e|e<;>rw[e]at d
  ·exact⟨16,ω,ω⟩
  ·exact⟨8,ω,ω⟩
  ·exact⟨4,ω,ω⟩
  exact⟨2,ω,ω⟩
 obtain⟨n,l,a⟩:=g;have h:=Mx (mC s) (λi=>decide (((i:Nat):Int) % csz s.Y=0)&&aQ s.a6 (((i:Nat):Int) / csz s.Y)) (λm=>aQ s.a6 ((m:Nat):Int)) k a (λm j b=>by grind [Nat.mul_add_div,Nat.div_eq_of_lt,mC]) (λm j b=>by
   rw[d,<-Int.natCast_ediv,<-Int.natCast_emod,Nat.mul_add_div a,Nat.div_eq_of_lt b,Nat.add_zero,Nat.mul_add_mod,Nat.mod_eq_of_lt b]
   grind) n
 rw[<-l]at h;unfold Bc pf NC
 grind [fil]
def Gi(h:ac):List Int:=h.H.flatMap NC++h.J.map λl=>16*l.Q
theorem EY{h:ac}(f:aR h []):(holders h).Perm (Gi h):=by
 have d:=f.nd;rw[List.nil_append]at d;have n:=f.L;refine(List.perm_ext_iff_of_nodup d ?_).2 λa=>?_
 ·unfold Gi
  rw[List.nodup_append];refine⟨?_,?_,?_⟩
  ·unfold List.Nodup
   rw[List.pairwise_flatMap];refine⟨λs _=>P3 s,?_⟩;refine f.srs.imp fun {s u} hlt a j b k=>?_
   have c:=oU.1 j;have o:=oU.1 k;have:=c.2.1;have:=o.1;omega
  ·grind [aR.srl]
  intro a j b k e;obtain⟨s,g,c⟩:=List.mem_flatMap.1 j;obtain⟨l,i,rfl⟩:=X3.1 k;have c:=oU.1 c;have p:=aN (n.lok l i);have q:=c.1;have r:=c.2.1;exact n.dis s g l i 0 ω ω
 have:=f.mem a;rw[List.nil_append]at this;rw[this];unfold Live Gi;rw[R2,List.mem_flatMap,X3];constructor
 ·rintro(⟨s,g,c,-⟩|⟨l,i,e⟩)
  all_goals grind [oU]
 rintro(⟨s,g,c⟩|⟨l,i,e⟩)
 ·exact .inl ⟨s,g,oU.1 c,.inl (by decide)⟩
 grind
theorem KU{h:ac}(b:aR h []):sm (cst h) (holders h)=gT h.H h.J:=by
 have e:=b.L;rw[NE _ (EY b)];unfold Gi gT;rw[n7,jN,jN]
 congr 1
 ·refine Ae NC h.H λs d=>?_
  have f:=aB (e.sok s d);rw[vb (c:=csz s.Y) (NC s) λa g=>rz b f.2.2.1 ⟨s,d,oU.1 g,.inr rfl⟩,PA (e.sok s d)]
 grind [D6,yw]
def yl{h:ac}(f:Int->Int):∀(b:List (List Int))(k:Nat),(∀j:Nat,j<b.length->∀a∈nth b j,f a=csz ((k+j:Nat):Int))->sm f b.flatten=bT k b
 | [],_,_=>rfl
 | l::b,k,e=>by
  rw[List.flatten_cons,n7,bT];rw[vb (c:=csz (k:Nat)) l λa d=>e 0 (by simp) a d,yl (h:=h) f b (k+1) λj g a d=>by
    rw[show k+1+j=k+(j+1) by omega];exact e (j+1) (by simp;omega) a d]
theorem rj(xs:List aK):quarCells xs xs.length=sm (λx=>csz x.Y) xs:=by
 have h:∀n,quarCells xs n=co (λx:aK=>csz x.Y) xs n:=λn=>by
  induction n with
  | zero=>rfl
  | succ n a=>grind [quarCells,co]
 rw[h,jN]
theorem EJ{h:ac}(a:aR h []){o:bF}(d:o∈h.O):cst h o.X=cz o:=by
 unfold cz;rcases a.oow o d with⟨s,b,e,f⟩|⟨l,c,g,i⟩
 ·have j:=aB (a.L.sok s b)
  rw[CB ω,<-f];exact rz a j.2.2.1 ⟨s,b,e,.inr rfl⟩
 have k:=bR (a.L.lok l c);rw[C9 (by grind [aJ]),g,yw a c,i]
theorem balance{h:ac}(b:aR h []):(bS h).e1=(bS h).e2+(bS h).c8+(bS h).c6+(bS h).d0:=by
 show gT h.H h.J=co cz h.O h.O.length+co bk h.R h.R.length+quarCells h.a0.y h.a0.y.length+co (cw h) (a9 h.b) (a9 h.b).length;rw[<-KU b];unfold holders;rw[n7,n7,n7,jN,jN,jN,rj];have k:sm (cst h) (h.O.map (·.X))=sm cz h.O:=D6 _ _ λo l=>EJ b l
 have n:sm (cst h) (ci h)=sm bk h.R:=Ae _ _ λc e=>by
  unfold bk;rw[CB (b.cach c e)];exact yl (h:=h) (cst h) c.Z 0 λj u a i=>by grind [rz,aR.hca]
 have p:sm (cst h) (h.a0.y.map (·.X))=sm (λx:aK=>csz x.Y) h.a0.y:=D6 _ _ λx q=>by
  have r:=b.hqu x q;obtain⟨s,d,-,w⟩:=id r;have e:=aB (b.L.sok s d)
  grind [aR.quar,aY,dP,rz,eP,iX]
 have t:sm (cst h) (a9 h.b)=sm (cw h) (a9 h.b):=by
  have:=D6 (f:=cw h) (g:=cst h) (λa:Int=>a) (a9 h.b) λa i=>M3 b (b.hfl a i)
  simp_all
 rw[k,n,p,t]
theorem vE(t:aG):ek t=((fil (λp=>decide ((nth t.K p).w≠0)) t.K.length:Nat):Int):=by
 have h:∀n,co ca t.K n=((fil (λp=>decide ((nth t.K p).w≠0)) n:Nat):Int):=λn=>by
  induction n with
  | zero=>rfl
  | succ n a=>
   rw[vp];show co ca t.K n+ca (nth t.K n)=_
   grind [ca]
 exact h _
theorem KZ:∀{l m:List Nat},l.Nodup->(∀a∈l,a∈m)->l.length<=m.length
 | [],_,_,_=>T0 _
 | a::l,m,b,c=>by
  obtain⟨e,d⟩:=List.nodup_cons.1 b;have f:=c a ψ;have:=KZ (l:=l) (m:=m.erase a) d ψ
  grind
theorem Jx(a:List Bool):gr a a.length=((fil (nth a) a.length:Nat):Int):=by
 have h:∀n,gr a n=((fil (nth a) n:Nat):Int):=λn=>by
  induction n with
  | zero=>rfl
  | succ n b=>
   rw[vp];show gr a n+(if nth a n then 1 else 0)=_
   grind
 exact h _
theorem My{h:ac}(d:aR h []):0<=d3 h.M.G.V/\d3 h.M.G.V<=ek (tbl h):=by
 obtain⟨-,e,-,f,-⟩:=aD.1 d.ker;unfold d3;rw[CB e,Jx,vE];refine⟨ω,Int.ofNat_le.2 ?_⟩;have:=KZ (l:=(List.range h.M.G.V.a1.length).filter (nth h.M.G.V.a1)) (m:=((List.range (tbl h).K.length).filter λp=>decide ((nth (tbl h).K p).w≠0)).map λp=>(nth (tbl h).K p).j.toNat) (List.nodup_range.sublist List.filter_sublist) λj b=>by
  rw[Y3,List.mem_range]at b;have c:=f j b.1;rw[b.2]at c;have g:0<(pagesOn (tbl h) (j:Int)).length:=of_decide_eq_true c.symm;obtain⟨y,i⟩:=List.exists_mem_of_length_pos g;have a:=i;unfold pagesOn at a;obtain⟨p,-,rfl⟩:=X3.1 a
  grind [dx]
 rw[X0]at this;exact this
theorem Dp{α:Type}{f:α->Int} : ∀l:List α,(∀a∈l,0<=f a)->0<=sm f l
 | [],_=>T4 _
 | a::l,h=>by
  have d:=h a ψ;have e:=Dp l λb c=>h b (W4 _ c)
  grind [sm]
def tg:∀(a:List (List Int))(k:Nat),0<=bT k a
 | [],_=>T4 _
 | l::a,k=>by
  have b:=tg a (k+1);have c:=Int.mul_nonneg (show(0:Int)<=l.length by omega) (csz8 (k:Nat)).1;simp only[bT];omega
theorem Mr{h:ac}(a:aR h []):z6 (bS h)=true:=by
 have n:=balance a;have e:=a.lens;have g:=a.to;have q:=My a;have r:(bS h).c9=ek (tbl h):=rfl;have t:(bS h).V=d3 h.M.G.V:=rfl;have u:(bS h).a3=(dC h:Nat):=rfl;have i:ek (tbl h)<=(dC h:Nat):=by
  rw[vE];have:fil (λp=>decide ((nth (tbl h).K p).w≠0)) (tbl h).K.length<=(tbl h).K.length:=by grind [fil]
  exact Int.ofNat_le.2 this
 have j:dC h<=32:=e.ents;have w:0<=(bS h).e2:=by
  show 0<=co cz h.O h.O.length;rw[jN];refine Dp _ λo k=>?_
  have:=qV g o k;unfold cz;split
  ·exact(csz8 _).1
  omega
 have y:0<=(bS h).c8:=by
  show 0<=co bk h.R h.R.length;rw[jN];refine Dp _ λc A=>?_
  unfold bk;split
  ·exact tg _ _
  omega
 have B:0<=(bS h).c6:=by
  show 0<=quarCells h.a0.y h.a0.y.length;rw[rj];exact Dp _ λx _=>(csz8 _).1
 have C:0<=(bS h).d0:=by
  show 0<=co (cw h) (a9 h.b) (a9 h.b).length;rw[jN];exact Dp _ λx _=>(csz8 _).1
 have D:(bS h).e1<=16*32+1000*32:=by
  show co Bc h.H h.H.length+co (·.d) h.J h.J.length<=_;have E:=(eZ (f:=Bc) (xs:=h.H) (b:=16) (λs _=>ET s) h.H.length (U2 _)).2;have F:=(eZ (f:=λl:ay=>l.d) (xs:=h.J) (b:=1000) (λl d=>by
    have:=bR (a.L.lok l d);omega) h.J.length (U2 _)).2
  grind [oy.spans,oy.larges]
 grind [z6]
def kI(s:ByteArray)(l:List Int):Nat->ByteArray
 | 0=>s
 | k+1=>(if(k:Int) > 0 then kI s l k++⟨#[43]⟩ else kI s l k)++Bt.It (nth l k)
def Jp(s:ar):ByteArray:=Bt.spText s.Q s.Y s.a6++⟨#[32]⟩
def Ki(h:ac)(s:ar):ByteArray:=kI (Jp s) (aH h s.Q) (aH h s.Q).length
def Q3(l:ay):ByteArray:=((⟨#[108,97,114,103,101,32]⟩++Bt.It l.Q)++⟨#[58]⟩)++Bt.It l.d
def Eo(h:ac)(i:Nat):List ByteArray:=M7 (bS h)::(h.H.take i).map (Ki h)
def yo(h:ac)(i:Nat):List ByteArray:=Eo h h.H.length++(h.J.take i).map Q3
def Qw(h:ac):List ByteArray:=if dw h then yo h h.J.length else []
def zu(h:ac)(i:Nat):(Eo h i).length<=h.H.length+1:=by
 unfold Eo;rw[List.length_cons,X0,O1];omega
def GA(h:ac)(i:Nat):(yo h i).length<=h.H.length+h.J.length+1:=by
 unfold yo;rw[X2,X0,O1];have:=zu h h.H.length;omega
def Dq{h:ac}{i:Nat}(a:i<h.H.length):Eo h (i+1)=Eo h i++[Ki h (nth h.H i)]:=by
 unfold Eo;rw[Y4,ah a];simp
def BV{h:ac}{i:Nat}(a:i<h.J.length):yo h (i+1)=yo h i++[Q3 (nth h.J i)]:=by
 unfold yo;rw[Y4,ah a];simp
def mq(s:ByteArray)(l:List Int):∀k,k<=l.length->kI s l k=s++Jn ((l.take k).map Bt.It) ⟨#[43]⟩
 | 0,_=>by
  simp only[kI,List.take_zero,List.map_nil];rw[show Jn [] ⟨#[43]⟩ = ⟨#[]⟩ from rfl];exact(ByteArray.append_empty).symm
 | k+1,g=>by
  have c:=mq s l k ω;have b:k<l.length:=ω
  have d:=ah b;simp only[kI];rw[c,Y4,d];simp only[Option.toList_some,C5,O5,List.map_nil];cases k with
  | zero=>
   rw[C9 (by simp)];simp only[List.take_zero,List.map_nil,List.nil_append];unfold Jn;simp only[List.map_nil,O5,Lib.join_nil,Lib.join_one];rw[show(⟨([]:List UInt8).toArray⟩ : ByteArray)=ByteArray.empty from rfl,ByteArray.append_empty]
  | succ k=>
   rw[CB ω,ByteArray.append_assoc,ByteArray.append_assoc]
   congr 1
   obtain⟨y,a,f⟩ : ∃y a,(l.take (k+1)).map Bt.It=y::a:=by
    cases e:(l.take (k+1)).map Bt.It with
    | nil=>have:=U0 List.length e;rw[X0,O1,List.length_nil]at this;omega
    | cons y a=>exact⟨y,a,rfl⟩
   rw[f];unfold Jn;simp only[List.cons_append,O5,C5,List.map_nil,Lib.join_cons,Lib.joinTail,List.flatten_append,List.flatten_cons,List.flatten_nil,List.append_nil]
   ext1
   simp
def tB{n:Int}(h:jF n):(Bt.It n).size<=21:=Bt.It_size h.1 h.2
def xc(s:ByteArray)(l:List Int)(b:∀x∈l,jF x):∀k,k<=l.length->(kI s l k).size<=s.size+k*22
 | 0,_=>by simp[kI]
 | k+1,d=>by
  have e:=xc s l b k ω;have a:k<l.length:=ω
  have f:=tB (b _ (am a));have c:(⟨#[43]⟩ : ByteArray).size=1:=rfl;simp only[kI];split<;>(simp only[ByteArray.size_append,c];omega)
def E8{s:ar}(h:ar.wf s):(Jp s).size<=110:=by
 have f:=tB h.1;have g:=tB h.2.1;have i:=Bt.bmT_size (c:=s.Y) (b:=s.a6);have a:(⟨#[58]⟩ : ByteArray).size=1:=rfl;have d:(⟨#[32]⟩ : ByteArray).size=1:=rfl;have e:(⟨#[]⟩ : ByteArray).size=0:=rfl;unfold Jp Bt.spText;split<;>(simp only[ByteArray.size_append,a,d,e];omega)
def Av{h:ac}(b:dC h<=1048576)(p:Int):∀x∈aH h p,jF x:=λx a=>by
 unfold aH at a;split at a
 ·cases a
 obtain⟨q,rfl⟩:=nA a;have:=(dx.1 a).1;change q<dC h at this;constructor<;>omega
def E1{h:ac}(b:dw h=true)(j:Nat):jF (Mm.gI (Ez (bS h)) j):=by
 have a:=Mr (aR.of b);unfold z6 at a;rw[C0]at a;unfold Mm.gI Ez jF
 match j with
 | 0|1|2|3|4|5|6|7=>simp only[List.getD_cons_zero,List.getD_cons_succ];omega
 | j+8=>simp
inductive LN:C->C->Prop
 |rfl_ (c:C):LN c c
 |z_:LN .z (.s .suf [])
 |i_:LN (.s .U []) (.s .suf [])
 |s_ (o:du) (rows rows':List (List C)) (ho:o=.own\/o=.suf) (hl:rows.length=rows'.length) (hk:∀(i:Nat)(r r':List C),rows[i]? = some r->rows'[i]? = some r'->r.length=r'.length)
   (hr:∀(i j:Nat)(r r':List C)(c c':C),rows[i]? = some r->rows'[i]? = some r'->r[j]? = some c->r'[j]? = some c'->LN c c'):LN (.s o rows) (.s .suf rows')
def KK(cs a:List C):Prop:=cs.length=a.length/\∀(j:Nat)(c b:C),cs[j]? = some c->a[j]? = some b->LN c b
def KK.nil:KK [] []:=⟨rfl,λj c a h=>by simp at h⟩
def KK.cons{c e:C}{cs a:List C}(h:LN c e)(f:KK cs a):KK (c::cs) (e::a):=by
 refine⟨by simp[f.1],λj y g b d=>?_⟩;cases j with
 | zero=>simp at b d;subst b d;exact h
 | succ j=>exact f.2 j y g (by simpa using b) (by simpa using d)
def KK.refl(cs:List C):KK cs cs:=⟨rfl,λj c d b a=>by rw[b]at a;cases a;exact .rfl_ _⟩
def LN.map{α:Type}{f g:α->List C}(xs:List α)(h:∀x∈xs,KK (f x) (g x)):LN (.s .own (xs.map f)) (.s .suf (xs.map g)):=by
 refine .s_ .own _ _ (.inl rfl) (by simp) (λi r e a b=>?_) (λi j r e c k a b l n=>?_)
 all_goals
  rw[W2]at a b;cases d:xs[i]? with
  | none=>rw[d]at a;cases a
  | some x=>
   rw[d]at a b;simp only[V4,W0]at a b;subst a b
   first|exact(h x (U1 d)).1|exact(h x (U1 d)).2 j c k l n
theorem M0{w:World}{S Y:ab}{c:C}{v:Value}(h:df w S Y c v):∀B,LN c B->df w S Y B v:=by
 induction h with
 | z F a=>intro B t;cases t with|rfl_=>exact .z _ _|z_=>exact .nil _ _ _ trivial
 | nil F o a H=>
  intro B t;cases t with
  | rfl_=>exact .nil _ _ _ H
  | i_=>exact .nil _ _ _ trivial
  | s_ _ _ d _ M=>obtain rfl:d=[]:=T6 (by simpa using M.symm);exact .nil _ _ _ trivial
 | U F g D k n y p u J R l hS N ih=>
  intro B t;cases t with
  | rfl_=>exact .U _ g D k n y p u J R l hS N
  | i_=>
   have hn0:n=0:=by simpa using J.symm
   subst hn0;exact .suf _ .suf g D k 0 y [] u (λ_=>NO) trivial rfl (λr T=>by cases T) (T0 _) (λq K=>ω) (λq K=>ω) (λq K=>ω) (λq q' K=>ω) (λi j r c hi hj=>by simp at hi)
  | s_ _ _ _ H=>rcases H with e|e<;>cases e
 | suf F o g D k n y p u f H J R l G U V t N ih=>
  intro B O;cases O with
  | rfl_=>exact .suf _ o g D k n y p u f H J R l G U V t N
  | i_=>exact H.elim
  | s_ _ _ d _ M W T=>
   have L:∀(i:Nat)(P:List C),d[i]? = some P->∃r,p[i]? = some r:=ψ
   refine .suf _ .suf g D k n y d u f trivial (M.symm.trans J) (λP X=>?_) l G U V t ψ
   all_goals grind [List.mem_iff_getElem?]
 | own F o g k n y p u f H J R l Z G U V t N ih=>
  intro B O;cases O with
  | rfl_=>exact .own _ o g k n y p u f H J R l Z G U V t N
  | i_=>exact H.elim
  | s_ _ _ d _ M W T=>
   have hnk:n*k<=y*k:=R6 k l;have L:∀(i:Nat)(P:List C),d[i]? = some P->∃r,p[i]? = some r:=ψ
   refine .suf _ .suf g 0 k n y d u f trivial (M.symm.trans J) (λP X=>?_) l (λq K=>?_) (λq K=>?_) (λq K b o hb=>?_) t ψ
   ·obtain⟨i,hi⟩:=List.mem_iff_getElem?.1 X
    obtain⟨r,hr0⟩:=L i P hi;rw[<-W i r P hr0 hi];exact R r (U1 hr0)
   ·rw[C6];have:=G q ω;exact⟨this.1,this.2.2⟩
   ·rw[C6]
    obtain⟨-,⟨z,h2,h3⟩,-⟩:=G q ω;have h4:=U q K;rw[h4]at h2;simp only[W0]at h2;exact⟨h4,by rw[h2];exact h3⟩
   obtain⟨h1,h2⟩:=V q K b o hb;exact⟨h1,λh=>h2 ⟨h.1,ω⟩⟩
 | v F x h1=>intro B t;cases t;exact .v _ _ h1
 | x F u h1=>intro B t;cases t;exact .x _ u h1
 | m F b A es E G hb he hv Q=>intro B t;cases t;exact .m _ b A es E G hb he hv Q
 | it F r b since c0 A seen E cur left G T hb Q N hv M hcur=>intro B t;cases t;exact .it _ r b since c0 A seen E cur left G T hb Q N hv M hcur
def Ny{w:World}{S Y:ab}{cs b:List C}{u:Nat->Value}(h:cx w S Y cs u)(c:KK cs b):cx w S Y b u:=by
 obtain⟨f,i,k,l⟩:=h;refine⟨f,λj g a=>?_,λj a=>k j (by rw[c.1];exact a),λj n a e=>l j n (by rw[c.1];exact a) (by rw[c.1];exact e)⟩;have d:j<cs.length:=by rw[c.1];exact(Z1.1 a).1
 exact M0 (i j _ (W1 d)) g (c.2 j _ g (W1 d) a)
def ao.sf{P:Program}{f:Nat}{sh:Bool}{A:List RA}{k:Kd}{rcs rcs':List C}(h:ao P f sh A k rcs)(a:KK rcs rcs'):ao P f sh A k rcs':=
 ⟨h.has,λw S b c d=>(h.run w S b c d).mono λ_ _ ⟨v,e,g,X,i,j,l,n,o,p⟩=>⟨v,e,g,X,i,j,l,n,by rw[<-a.1];exact o,Ny p a⟩⟩
def Hy{n b:Nat}(h:n<=4194304)(a:b<=1000):n*b<=140737488355328:=R4 (Nat.mul_le_mul h a) (by decide)
def Js{a b:ByteArray}(c:a.size<=1099511627776)(d:b.size<=1099511627776):((a.size+b.size:Nat):Int)<=9223372036854775807:=ω
def one43:(⟨#[43]⟩ : ByteArray).size<=1099511627776:=by decide
def one32:(⟨#[32]⟩ : ByteArray).size<=1099511627776:=by decide
def one58:(⟨#[58]⟩ : ByteArray).size<=1099511627776:=by decide
def larg:(⟨#[108,97,114,103,101,32]⟩ : ByteArray).size<=1099511627776:=by decide
def LI{a b:ByteArray}{n:Nat}(c:a.size<=n)(d:b.size<=1000)(e:n<=1099511620000):(a++b).size<=1099511627776:=by rw[ByteArray.size_append];omega
def Gn(x:List ByteArray):gn (mG .own x):=⟨⟨.inl λh=>(by cases h),aX _ _ λy _=>⟨trivial,trivial⟩⟩,trivial⟩
def NM(xs:List ByteArray):KK (mG .own xs) (mG .suf xs):=.cons (LN.map _ λ_ _=>.refl _) .nil
def GH{s:ar}(h:ar.wf s):(Bt.spText s.Q s.Y s.a6).size<=1099511627776:=by
 have a:=E8 h;unfold Jp at a;rw[ByteArray.size_append]at a;omega
def Nd(x:List ByteArray):d8 (mG .own x)=mG .U x:=by simp[d8,mG,Hr,tC]
def Pr(l:List Int)(a:∀x∈l,jF x):(Jn (l.map Bt.It) ⟨#[43]⟩).size<=l.length*22:=by
 have b:=xc ⟨#[]⟩ l a l.length (U2 _);rw[mq _ _ _ (U2 _),U4,ByteArray.size_append]at b;have c:(⟨#[]⟩ : ByteArray).size=0:=rfl;omega
def up(h:ac)(q:ac.sml h)(H:ac.wf h):ao Tryz.prog 6 false [.val (some 24) (ac.enc .U h)] .one (mG .suf (Qw h)):=by
 have b:=tw h q;rw[yx]at b;obtain⟨t,L,u,w,M,N,O,P,Q⟩:=id q;have c:uo h:=t.1.2;have y:dC h<=1048576:=c.1;have R:h.H.length<=1048576:=u.1;have S:h.J.length<=1048576:=w.1;unfold Qw;cases e:dw h with
 | false=>
  rw[e]at b;rw[C9 (by simp)];refine ao.sf (rcs:=[.z]) ?_ (.cons .z_ .nil);refine fO 72 [(18,11,[58,59,60,61,62,63,64,65,66,67,68])] Tryz.func6 rfl ?_
  repeat'(first|refine gP ?_|(conv=>whnf);first|refine C7 (b) ?_)
  rfl
 | true=>
  rw[e]at b;rw[CB rfl];have T:=oz h q e;have U:=zq (bS h) (E1 e);refine ao.sf (rcs:=mG .own (yo h h.J.length)) ?_ (NM _);refine fO 72 [(18,11,[58,59,60,61,62,63,64,65,66,67,68])] Tryz.func6 rfl ?_ (.inr (Gn _))
  repeat'(first|refine gP ?_|(conv=>whnf);first|refine C7 (b) ?_|refine C7 (T) ?_|refine CH (U) ⟨⟨rfl,bZ.enc_fz _⟩,trivial⟩ ?_)
  (conv=>whnf)
  refine CE (ι:=Nat) (λi=>[(1,.F .box (ac.enc .U h)),(3,.F .one (mG .own (Eo h i))),(19,.F .one (bM .U h.H)),(20,.F .one [I (h.H.length)]),(21,.F .one [I ((i:Nat):Int)])]) (λi=>i<=h.H.length) (λi=>h.H.length - i) (0) ?_ (T0 _) λi hi=>?_
  ·exact wC
  have V:=zu h i;by_cases B:i<h.H.length
  ·have d:=ah B
   have g:ar.wf (nth h.H i):=H.2.2.1.2 _ (am B);have W:=qi (nth h.H i);have X:=nq h (nth h.H i).Q c;have Y:=GH g;have Z:=eC h (nth h.H i).Q;have o:=Av y (nth h.H i).Q;have D:Ki h (nth h.H i)=Jp (nth h.H i)++Jn ((aH h (nth h.H i).Q).map Bt.It) ⟨#[43]⟩:=by
    unfold Ki;rw[mq _ _ _ (U2 _),U4]
   generalize aH h (nth h.H i).Q=l at *
   repeat'(first|refine gE ?_|(conv=>whnf);first|with_reducible refine CA (aa d) ?_|refine CG rfl (aa d) rfl ?_|refine C7 (X) ?_)
   (conv=>whnf)
   refine CE (ι:=Nat) (λk=>[(1,.F .box (ac.enc .U h)),(3,.F .one (mG .own (Eo h i))),(5,.F .box (ar.enc .U (nth h.H i))),(6,.F .one (mG .own ((l.take k).map Bt.It))),(19,.F .one (bM .U h.H)),(20,.F .one [I (h.H.length)]),(21,.F .one [I ((i:Nat):Int)]),(29,.F .one (aF .own l)),(30,.F .one [I (l.length)]),(31,.F .one [I ((k:Nat):Int)])]) (λk=>k<=l.length) (λk=>l.length - k) (0) ?_ (T0 _) λk hk=>?_
   ·exact wC
   by_cases J:k<l.length
   ·have E:=ah J
    have c5:=sW _ (o _ (am J))
    repeat'(first|refine gE ?_|(conv=>whnf);first|with_reducible refine CA (aa E) ?_|refine C7 (c5) ?_|refine CG rfl (aa E) rfl ?_|refine CN (aM λ_=>rfl) (λr p=>by rw[C1.1 p];rfl) (by simp[aW,dn,tC]) (by simp;omega) (Hy (by simp;omega) (by decide)) rfl ?_)
    ((conv=>whnf);refine CD (k+1) ω ω ?_)
    repeat'(first|exact trivial|rfl| exact cJ _ |exact CI rfl (CI (U0 (C.s du.own) (by rw[Y4,E];simp[Hr,tC])) trivial)|refine CI ?_ ?_|(exact u7 (by first|omega|(simp only;omega)|(simp;omega))))
   obtain rfl:k=l.length:=ω
   rw[U4];have q2:=E8 g;have q3:=Pr l o;have q4:(Jp (nth h.H i)).size<=1099511627776:=ω
   have q5:(Jn (l.map Bt.It) ⟨#[43]⟩).size<=1099511627776:=ω
   have F:=Mi (l.map Bt.It) ⟨#[43]⟩ (by rw[X0];omega) ω
   repeat'(first|refine gE ?_|(conv=>whnf);first|refine C7 (W) ?_|refine CM (Js Y one32) ?_|refine CM (Js q4 q5) ?_|refine Es.mk rfl ?_|refine CH (F) ⟨⟨rfl,Nd _⟩,⟨rfl,rfl⟩,trivial⟩ ?_|refine CN (aM λ_=>rfl) (λr p=>by rw[C1.1 p];rfl) (by simp[aW,dn,tC]) (by simp;omega) (Hy (by simp;omega) (by decide)) rfl ?_)
   ((conv=>whnf);refine CD (i+1) ω ω ?_)
   repeat'(first|exact trivial|rfl| exact cJ _ |exact CI rfl (CI (U0 (C.s du.own) (by rw[Dq B,D];simp[Hr,tC,Jp])) trivial)|refine CI ?_ ?_|(exact u7 (by first|omega|(simp only;omega)|(simp;omega))))
  obtain rfl:i=h.H.length:=ω
  repeat'(first|refine gE ?_|fail)
  rw[show Eo h h.H.length=yo h 0 from by unfold yo;simp]
  (conv=>whnf)
  refine CE (ι:=Nat) (λj=>[(3,.F .one (mG .own (yo h j))),(52,.F .one (bB .U h.J)),(53,.F .one [I (h.J.length)]),(54,.F .one [I ((j:Nat):Int)])]) (λj=>j<=h.J.length) (λj=>h.J.length - j) (0) ?_ (T0 _) λj hj=>?_
  ·exact wC
  have K:=GA h j;by_cases G:j<h.J.length
  ·have d:=ah G
   have a:ay.wf (nth h.J j):=H.2.2.2.1.2 _ (am G);have F:=sW _ a.1;have c7:=sW _ a.2.2;have q7:=tB a.1;have q8:=tB a.2.2;have q9:(Bt.It (nth h.J j).Q).size<=1099511627776:=ω
   have qa:(Bt.It (nth h.J j).d).size<=1099511627776:=ω
   have qb:((⟨#[108,97,114,103,101,32]⟩ : ByteArray)++Bt.It (nth h.J j).Q).size<=1099511627776:=LI (n:=6) (by decide) ω (by decide);have qc:(((⟨#[108,97,114,103,101,32]⟩ : ByteArray)++Bt.It (nth h.J j).Q)++⟨#[58]⟩).size<=1099511627776:=LI (n:=1000) (by rw[ByteArray.size_append];have:(⟨#[108,97,114,103,101,32]⟩ : ByteArray).size=6:=rfl;omega) (by decide) (by decide)
   repeat'(first|refine gE ?_|(conv=>whnf);first|with_reducible refine CA (aa d) ?_|refine CG rfl (aa d) rfl ?_|refine C7 (F) ?_|refine C7 (c7) ?_|refine CM (Js larg q9) ?_|refine CM (Js qb one58) ?_|refine CM (Js qc qa) ?_|refine Es.mk rfl ?_|refine CN (aM λ_=>rfl) (λr p=>by rw[C1.1 p];rfl) (by simp[aW,dn,tC]) (by simp;omega) (Hy (by simp;omega) (by decide)) rfl ?_)
   ((conv=>whnf);refine CD (j+1) ω ω ?_)
   repeat'(first|exact trivial|rfl| exact cJ _ |exact CI rfl (CI (U0 (C.s du.own) (by rw[BV G];simp[Hr,tC,Q3])) trivial)|refine CI ?_ ?_|(exact u7 (by first|omega|(simp only;omega)|(simp;omega))))
  obtain rfl:j=h.J.length:=ω
  repeat'(first|refine gE ?_|fail)
  rfl
def KT(n:Int):1<=(Bt.It n).size:=by
 show 1<=(Lib.itoa n).length;by_cases h:n=0
 ·subst h;rw[Tx.itoa_zero];decide
 rw[Tx.itoa_dz n h];have a:=Tx.dz_step n.natAbs ω;split<;>simp[a]
def P6{s:ar}(h:aT s=true):Bt.spanB s.Q s.Y s.a6=true:=by
 unfold aT lim at h;rw[C0]at h;obtain⟨b,c,d,f,g,a⟩:=h;refine Bt.spanB_iff.2 ⟨b,c,d,f,g,?_⟩;obtain e|e|e|e:s.Y=0\/s.Y=1\/s.Y=2\/s.Y=3:=ω
 all_goals
  rw[e]at a |-
  first|(simp[Bt.slots];simp at a;omega)|(simp[Bt.slots]at *;omega)
def F5{s:ar}(h:aT s=true):5<=(Bt.spText s.Q s.Y s.a6).size:=by
 have a:=P6 h;have c:=aB h;unfold Bt.spText;rw[CB a];have d:=KT s.Q;have f:=KT s.Y;have g:(Bt.bmT s.Y s.a6).size=(Bt.slots s.Y).toNat:=Bt.bmText_len _ _;have b:(⟨#[58]⟩ : ByteArray).size=1:=rfl;have i:1<=(Bt.slots s.Y).toNat:=by
  obtain e|e|e|e:s.Y=0\/s.Y=1\/s.Y=2\/s.Y=3:=ω
  all_goals rw[e];decide
 simp only[ByteArray.size_append,b];omega
def Pv(h:ac)(s:ar):Ki h s=Bt.spText s.Q s.Y s.a6++(⟨#[32]⟩++Jn ((aH h s.Q).map Bt.It) ⟨#[43]⟩):=by
 unfold Ki;rw[mq _ _ _ (U2 _),U4];unfold Jp;exact ByteArray.append_assoc
def Nq(a b:ByteArray):(a++b).extract 0 a.size=a:=by
 ext1
 simp[ByteArray.data_extract,ByteArray.data_append]
def Reports_law(zs:List Int)(q:zs.length<=9223372036854775807/\∀y∈zs,0<=y/\y<=255):ao Tryz.prog 3 false [.val none (Qc zs)] .one [B true]:=by
 have d:=Pd zs q.1;by_cases r:(zs.length:Int) > 1048576
 ·rw[O0 r]at d
  refine fO 78 [(6,18,[16,17,18,19,20,21,22,23,24,25,26,27,28,29,30,31,32,33])] Tryz.func3 rfl ?_
  repeat'(first|refine gP ?_|(conv=>whnf);first|refine C7 (d) ?_)
  rfl
 rw[R0 r]at d;have D:j7 zs:=⟨ω,q.2⟩
 have cD:=vw zs D;have a:=(Ej zs).inv;obtain⟨e,h⟩:=HZ zs;generalize drawn zs=w at *;have j:=a.to;have k:=up w.a e h;unfold Qw at k;rw[CB j]at k;have E:=oz w.a e j;have F:=zq (bS w.a) (E1 j);have G:w.a.H.length<=1048576:=e.2.2.1.1;have H:w.a.J.length<=1048576:=e.2.2.2.1.1;have J:(yo w.a w.a.J.length).length=1+w.a.H.length+w.a.J.length:=by
  unfold yo Eo;simp;omega
 have l:(yo w.a w.a.J.length)[0]? = some (M7 (bS w.a)):=rfl;have n:∀i,i<w.a.H.length->(yo w.a w.a.J.length)[1+i]? = some (Ki w.a (nth w.a.H i)):=λi a=>by
  unfold yo;have K:1+i<(Eo w.a w.a.H.length).length:=by unfold Eo;simp;omega
  rw[Z3 K];unfold Eo;rw[U4,show 1+i=i+1 by omega,List.getElem?_cons_succ,W2,ah a]
  rfl
 have b:∀s∈w.a.H,aT s=true:=a.L.sok
 have o:=qi ⟨3,2,9⟩;have M:Bt.spText 3 2 9 = ⟨#[51,58,50,58,120,46,46,120]⟩:=by decide +kernel
 change ao _ _ _ _ _ [tC (Bt.spText 3 2 9)]at o;rw[M]at o;have p:∀i,i<w.a.H.length->(Bt.spText (nth w.a.H i).Q (nth w.a.H i).Y (nth w.a.H i).a6).size<(Ki w.a (nth w.a.H i)).size/\(Ki w.a (nth w.a.H i)).extract 0 (Bt.spText (nth w.a.H i).Q (nth w.a.H i).Y (nth w.a.H i).a6).size=Bt.spText (nth w.a.H i).Q (nth w.a.H i).Y (nth w.a.H i).a6:=λi _=>by
  rw[Pv];refine⟨?_,Nq _ _⟩;have N:(⟨#[32]⟩ : ByteArray).size=1:=rfl;simp only[ByteArray.size_append,N];omega
 generalize yo w.a w.a.J.length=L at *;refine fO 78 [(6,18,[16,17,18,19,20,21,22,23,24,25,26,27,28,29,30,31,32,33])] Tryz.func3 rfl ?_
 repeat'(first|refine gB ?_|(conv=>whnf);first|with_reducible refine CA (aa l) ?_|refine C7 (d) ?_|refine C7 (cD) ?_|refine CH (k) ⟨⟨rfl,ac.enc_fz _⟩,trivial⟩ ?_|refine CH (E) ⟨⟨rfl,ac.enc_fz _⟩,trivial⟩ ?_|refine CH (F) ⟨⟨rfl,bZ.enc_fz _⟩,trivial⟩ ?_|refine CL (by decide) (aa l) ?_|refine CG rfl (aa l) rfl ?_|refine Bf.t (beq_self_eq_true _) ?_)
 (conv=>whnf)
 refine CE (ι:=Nat) (λi=>[(4,.F .box (ac.enc .own w.a)),(5,.F .one (mG .suf L)),(6,.F .one [I ((i:Nat):Int)])]) (λi=>i<=w.a.H.length) (λi=>w.a.H.length - i) (0) ?_ (T0 _) λi a=>?_
 ·exact wC
 by_cases g:i<w.a.H.length
 ·have u:=ah g
  have C:=n i g;have Q:=F5 (b _ (am g));obtain⟨R,O⟩:=p i g;have P:=qi (nth w.a.H i);generalize Ki w.a (nth w.a.H i)=ln at *;generalize Bt.spText (nth w.a.H i).Q (nth w.a.H i).Y (nth w.a.H i).a6=sp at *;have c:(L.map (Hr .suf))[((1:Int)+((i:Nat):Int)).toNat]? = some (Hr .suf ln):=by rw[show((1:Int)+((i:Nat):Int)).toNat=1+i by omega];exact aa C
  repeat'(first|refine gE ?_|(conv=>whnf);first|with_reducible refine CA (aa u) ?_|refine C7 (P) ?_|refine CG rfl (aa u) rfl ?_|refine CL ω c ?_|refine CG rfl c rfl ?_|refine CG rfl (aa C) rfl ?_|refine Ln.mk rfl ?_|refine Sx.mk sp.size rfl ω O ?_|refine Bf.t (beq_self_eq_true _) ?_)
  ((conv=>whnf);refine CD (i+1) ω ω ?_;(exact wC))
 obtain rfl:i=w.a.H.length:=ω
 repeat'(first|refine gE ?_|(conv=>whnf);first|refine C7 (o) ?_)
 exact U0 (λz=>[B z]) (beq_self_eq_true _)
open Go.RowKit Go.ChangeShapes Go.WideShapes Go.Deep
def ALL(w:World):ab:=λb _=>b<w.heap.size
def Qz{H:Type}(e:TypeId × Value->H)(P:Program)(w:World)(t n:Nat){α:Type}(enc:α->List C)(c:α->Prop):Prop:=
 ∀(fuel:Nat)(b:List Value)(x:DataW H × List MemPlace),DataW.trod e P w 0 (λ_=>true) true fuel t b=some x->b.length=n/\∃a,c a/\(enc a).length=n/\cx w (ALL w) NO (enc a) (λj=>b.getD j undef)
section
variable{H:Type}{e:TypeId × Value->H}{P:Program}{w:World}
def zw{S F:ab}{c:C}{u:Nat->Value}(h:df w S F c (u 0)):cx w S F [c] u:=
 ⟨λ_=>F,λj e a=>by cases j with
   | zero=>simp at a;subst a;exact h
   | succ j=>simp at a,λ_ _ _ _ h=>h,λj f a b d=>by simp at a b;omega⟩
def pick{α β:Type}(n:Nat){Q:Nat->β->Prop}(h:∀i,i<n->∃b,Q i b):∃l:List β,l.length=n/\∀i b,l[i]? = some b->Q i b:=by
 induction n with
 | zero=>exact⟨[],rfl,λi b h=>by simp at h⟩
 | succ n c=>
  obtain⟨l,d,e⟩:=c λi a=>h i ω
  obtain⟨b,f⟩:=h n ω;refine⟨l++[b],by simp[d],λi g a=>?_⟩;by_cases j:i<n
  ·rw[Z3 ω]at a;exact e i g a
  rw[C4 ω]at a;have:i - l.length=0:=by
   have:=(Z1.1 a).1;simp at this;omega
  rw[this]at a;simp at a;subst a;rw[show i=n by omega];exact f
theorem K5{t T n:Nat}{α:Type}{enc:α->List C}{U:α->Prop}(V:Qz e P w T n enc U)(ht:P.underlying t=some (.slice T))(hn:P.cellsOf T=n)(p:0<n) :
  Qz e P w t 1 (λxs:List α=>[.s .U (xs.map enc)]) (λxs=>xs.length<=9223372036854775807/\∀y∈xs,U y):=by
 intro fuel cs x h;rcases open_slice ht h with⟨rfl,-⟩|⟨k,len,cap,m,n',D,Pl,rfl,-,hl,hm,K,-,u⟩
 ·exact⟨rfl,[],⟨by simp,by simp⟩,rfl,zw (.nil _ _ _ trivial)⟩
 simp only[if_true]at K;subst K;have L:0<m->k.spot=none:=λW=>by
  obtain⟨E,M,N⟩:=u 0 W;rw[hn]at M;obtain⟨_,X,F⟩:=World.cells?_some M;have:=F 0 p;rw[W1 ω]at this;have:=World.cell?_spot this;simpa[Addr.add] using this
 have key:∀i,i<len->∃a,U a/\(enc a).length=n/\(∀d,d<n->∃z,cel w k.block (k.off+(i*n+d))=some z)/\k.spot=none/\cx w (ALL w) NO (enc a) (λd=>(cel w k.block (k.off+(i*n+d))).getD undef):=λi hil=>by
  have g:=L ω;obtain⟨E,M,N⟩:=u i ω;rw[hn]at M;obtain⟨h1,a,h3,h4,h5⟩:=V _ _ _ N;obtain⟨_,X,F⟩:=World.cells?_some M;have O:∀d,k.add d = ⟨k.block,k.off+d,none⟩:=λd=>by
   obtain⟨b,o,sp⟩:=k;simp only at g;subst g;unfold Addr.add;split<;>simp_all
  have A:∀d,d<n->cel w k.block (k.off+(i*n+d))=E[d]?:=λd J=>by
   have:=F d J;rw[Go.Deep.add_add,O]at this;exact this
  refine⟨a,h3,h4,λd J=>⟨_,by rw[A d J,W1 ω]⟩,g,h5.congr λd J=>?_⟩;show(cel w k.block (k.off+(i*n+d))).getD undef=E.getD d undef;rw[A d ω,List.getD]
 obtain⟨l,Q,B⟩:=pick (α:=α) len key;refine⟨rfl,l,⟨by simp only[maxLen]at hm;omega,λy R=>?_⟩,rfl,zw ?_⟩
 ·obtain⟨i,G⟩:=List.mem_iff_getElem?.1 R
  exact(B i y G).1
 show df w (ALL w) NO (.s .U (l.map enc)) (.slice (some k) len m);by_cases h0:len=0
 ·subst h0
  have:l=[]:=T6 Q;subst this;by_cases Y:m=0
  ·subst Y;exact .nil _ _ _ trivial
  have g:=L ω;obtain⟨b,o,sp⟩:=k;simp only at g;subst g;exact .U _ b o n 0 m [] (λ_=>undef) rfl (λr Z=>by simp at Z) hl (λq hq=>by simp at hq) (λi j r c u=>by simp at u)
 obtain⟨y0,hy0⟩ : ∃y,l[0]? = some y:=⟨_,W1 ω⟩
 have g:=(B 0 y0 hy0).2.2.2.1;obtain⟨b,o,sp⟩:=k;simp only at g;subst g;refine .U _ b o n len m (l.map enc) (λq=>(cel w b (o+q)).getD undef) (by simpa using Q) (λr Z=>?_) hl (λq hq=>?_) (λi j r c u hj=>?_)
 ·obtain⟨y,R,rfl⟩:=X3.1 Z
  obtain⟨i,G⟩:=List.mem_iff_getElem?.1 R;exact(B i y G).2.1
 ·have hqd:q / n<len:=(Nat.div_lt_iff_lt_mul p).2 hq
  obtain⟨y,R⟩ : ∃y,l[q / n]? = some y:=⟨_,W1 ω⟩
  obtain⟨z,S⟩:=(B _ y R).2.2.1 (q % n) (Nat.mod_lt _ p);have J:q / n*n+q % n=q:=by rw[Nat.mul_comm];exact Nat.div_add_mod q n
  rw[J]at S;exact⟨P9 S,by simp only at S |-;rw[S];rfl⟩
 rw[W2]at u;cases H:l[i]? with
 | none=>rw[H]at u;cases u
 | some y=>
  rw[H]at u;simp only[V4,W0]at u;subst u;obtain⟨f,h1,h2,-⟩:=(B i y H).2.2.2.2;have hjl:=(Z1.1 hj).1;exact(h1 j c hj).mono (λ_ _ h=>h) (h2 j hjl)
def PQ{S:ab}{cs:Array Value}{n:Nat}{xs:List C}(h1:cs.toList.length=n)(a:xs.length=n)(b:cx w S NO xs (λj=>cs.toList.getD j undef)):bu w S NO (some n) xs (.agg cs):=by
 refine⟨a,_,?_,b⟩;have:=mB cs;rw[show cs.size=n by simpa using h1]at this;exact this
def row_val{S F:ab}{x:Value}{u:Nat->Value}(h:cx w S F [.v x] u):u 0=x:=by
 obtain⟨f,a,-⟩:=h;have:=a 0 _ rfl;cases this
 rfl
end
open Go.RowKit Go.ChangeShapes Go.WideShapes
section
variable{H:Type}{e:TypeId × Value->H}{P:Program}{w:World}
def MZ{t:Nat}(b:P.underlying t=some (.int .u8)):Qz e P w t 1 rU (λz=>0<=z/\z<=255):=by
 intro fuel c x h;obtain⟨n,rfl,-,a⟩:=DataW.trod_int b h;refine⟨rfl,n,?_,rfl,zw (.v _ _ rfl)⟩;simp only[Lit.wf,I0,C0]at a;exact a
def op_ByteS:Qz e Tryz.prog w 22 1 (λzs:List Int=>[.s .U (zs.map rU)]) (λzs=>zs.length<=9223372036854775807/\∀y∈zs,0<=y/\y<=255):=K5 (MZ Tryz.underlying5) Tryz.underlying22 (by kernel_rfl) (by decide)
end
end Go.Proofs.YtifeilefdakapaaGreatDoor.Ab
