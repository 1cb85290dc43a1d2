/- Spans, objects and pages given back: the reference's contracts, over a whole heap that is lent. No condition. -/
import Derived.Test.YtiopgblagimpmaaGreatKvd
import Derived.Test.YtiopgblagimpmaaGreatKve
import Derived.Deep.LoopGhost
import Derived.Deep.RegionLaw
import Derived.Lib.Walk
import Derived.Sort.WalkB12
import Derived.Lib.SliceRun
import Derived.Shelf.RegionOpenPlain
set_option linter.unusedVariables false
set_option linter.defProp false
set_option linter.unusedSimpArgs false
set_option linter.constructorNameAsVariable false
namespace Go.Proofs.YtiopgblagimpmaaGreat.Ab
open Go.RowKit
set_option maxRecDepth 20000
set_option maxHeartbeats 4000000
variable{rows:List (List C)}{i j g:Nat}
theorem Pu.two{f a:List C}{off k h b:Nat}{cs:List C}{K:List C->Prop}{o c:dJ}{rows2:List (List C)}{r d:List C}(h1:f[off]? = some (.s o rows))(n:o.mine=true)(u:rows[i]? = some r)(w:r.length=k)(y:r[j]? = some (.s c rows2))(p:c.mine=true)(A:rows2[g]? = some d)(B:d.length=h)(D:b+cs.length<=h)(E:a=f.set off (.s o (rows.set i (r.set j (.s c (rows2.set g (splice d b cs)))))))(q:K a):Pu f off [(i,k,j),(g,h,b)] cs K:=by
 have t:o≠.V:=λe=>by subst e;cases n
 have l:c≠.V:=λe=>by subst e;cases p
 refine Pu.mk (r:=d) (j:=b) (by grind [cj]) (by grind [kC]) ω (by grind [fW]) q
def xG(x:List ax):fz (.s .own (x.map (ax.enc .own)))=.s .V (x.map (ax.enc .V)):=(List.cons.inj (eE x)).1
def uB(x:List ay):fz (.s .own (x.map (ay.enc .own)))=.s .V (x.map (ay.enc .V)):=(List.cons.inj (iE x)).1
def vU(x:List aY):fz (.s .own (x.map (aY.enc .own)))=.s .V (x.map (aY.enc .V)):=(List.cons.inj (La x)).1
variable{α:Type}
theorem Ap.dele{e:α->List C}{xs:List α}{sz by_:Nat}{K:List (List C)->Prop}(a:∀y,(e y).length=sz)(b:∀y,bm (e y)=true)(h:xs.length<=1048576)(c:by_<=1000)(d:K ((Ab.dele xs i).map e)):Ap true ((xs.take i).map e) ((xs.drop (i+1)).map e) sz by_ K:=by
 have f:(xs.take i).length+(xs.drop (i+1)).length<=2097152:=ψ
 refine CU (aL a) (aL a) (λ_ r g=>by obtain⟨y,-,rfl⟩:=O4.1 g;exact b y) (by rw[C1,C1];omega) (by rw[C1,C1];exact Z4 (Nat.mul_le_mul f c) (by decide)) ?_ d;unfold Ab.dele;rw[X5]
def KH(h:ab)(p:Int)(a:aI.sml h.G.F.R):zzA 485 false [.ptr (ab.enc .V h),.val none [I p]] .one [I (ac h.G.F.R p).j]:=by
 refine fO 13 [] Tryz.func485 rfl ?_
 repeat'(first|refine gP ?_|(conv=>whnf);first|refine CB ?_|refine C8 (cz h.G.F.R p a) ?_)
 rfl
def QM(h:ab):List C:=(bA h).drop 5
def Ti(h:ab)(k:ah):bA {h with G:=k} = ah.enc .own k++QM h:=rfl
def Gk(h:ab):QM h=[.s .own (h.q.map (a7.enc .own)),.s .own (h.K.map (ax.enc .own)),.s .own (h.J.map (ay.enc .own)),.s .own (h.M.map (aY.enc .own)),.s .own (h.S.map (aB.enc .own)),.s .own (h.w.T.map (cb .own)),.s .own (h.w.y.map (aF .own)),I h.a6.c0,.s .own (h.a6.a1.map (aO.enc .own)),I h.c1,I h.b3,I h.c4,I h.b,B h.u,I h.Z.Y.a5,I h.Z.Y.a4,.s .V (h.Z.Y.U.map (rI .V)),I h.Z.b2,I h.Z.b]:=rfl
def K7(h:ab)(f:Int)(a:aI.sml h.G.F.R)(b:0<=f/\f<h.G.F.W.U.length/\f<h.G.F.W.a9.length) :
  zzB 486 false [.ptr (bA h),.val none [I f]] [.ptr (bA {h with G:=fX h.G f}),.val none [I f]] (.tup []) []:=by
 have c:=ao (xs:=h.G.F.W.U) (i:=f.toNat) ω;have d:=ao (xs:=h.G.F.W.a9) (i:=f.toNat) ω;rw[Ti h (fX h.G f)];by_cases e:(pagesOn h.G.F.R f).length=0
 ·rw[tW e,Gk]
  refine fM 30 [] [(2,8,[21,22,23,24,25,26,27,28])] [(0,0),(0,0)] Tryz.func486 rfl (λu q=>?_) (.inr trivial)
  repeat'(first|refine gB ?_|(conv=>whnf);first|with_reducible (first|refine CN b.1 (aa d) ?_|refine CN b.1 (aa c) ?_)|refine CB ?_|refine CF (gN h.G.F.R f a) ⟨⟨rfl,CZ h.G.F.R⟩,⟨rfl,rfl⟩,trivial⟩ ?_|refine CP rfl rfl (aa c) rfl (I1 rfl) rfl ?_|refine CP rfl rfl (aa d) rfl (I1 rfl) rfl ?_|refine Mk.mk 16 rfl rfl (by decide) (by decide) rfl ?_)
  refine CJ rfl rfl ?_;exact wB
 rw[yt e];show aR _ _ _ [.ptr (bA h),_] [.ptr (bA h),_] _ _;refine fM 30 [] [(2,8,[21,22,23,24,25,26,27,28])] [(0,0),(0,0)] Tryz.func486 rfl (λu q=>?_) (.inr trivial)
 repeat'(first|refine gB ?_|(conv=>whnf);first|refine CB ?_|refine CF (gN h.G.F.R f a) ⟨⟨rfl,CZ h.G.F.R⟩,⟨rfl,rfl⟩,trivial⟩ ?_)
 refine CJ rfl rfl ?_;exact wB
theorem nH(h:ab)(p:Int)(b:aA h.G=true) :
  zzB 374 false [.ptr (bA h),.val none [I p]] [.ptr (bA {h with G:=cy h.G p}),.val none [I p]] .one [B (decide ((ac h.G.F.R p).j≠0))]:=by
 have k:=bj b;have c:=KH h p k.1.2;by_cases a:(ac h.G.F.R p).j=0
 ·rw[show cy h.G p=h.G by unfold cy;rw[CC a]]
  refine fM 32 [(486,[2,0])] [] [(0,0),(0,0)] Tryz.func374 rfl (λu q=>?_)
  repeat'(first|refine gB ?_|(conv=>whnf);first|refine CB ?_|refine CF (c) ⟨bJ h,⟨rfl,rfl⟩,trivial⟩ ?_)
  refine CJ rfl ?_ ?_
  ·exact X0 (λz=>[B z]) ((by simp[a]))
  exact wB
 obtain⟨l,r,n,d,o⟩:=bS b a;have j:=(aX.1 (aD.1 b).2.1).2.2.1;rw[show cy h.G p=fX (lC h.G p) (ac h.G.F.R p).e by unfold cy;rw[C9 a]];have e:=K7 {h with G:=lC h.G p} (ac h.G.F.R p).e (xp b) ⟨d,by grind [lC],by grind [lC]⟩;rw[Ti h (lC h.G p),xW,Gk]at e;have g:=ao (xs:=h.G.F.R.O) (i:=p.toNat) ω;rw[n]at c e a |-;refine fM 32 [(486,[2,0])] [] [(0,0),(0,0)] Tryz.func374 rfl (λu q=>?_)
 repeat'(first|refine gB ?_|(conv=>whnf);first|with_reducible refine CN l (aa g) ?_|refine CB ?_|refine CF (c) ⟨bJ h,⟨rfl,rfl⟩,trivial⟩ ?_|refine CP rfl rfl (aa g) rfl (I1 rfl) rfl ?_|refine CH rfl (aa g) rfl ?_|refine CK (e) (.inl rfl) ?_)
 refine CJ rfl ?_ ?_
 ·exact X0 (λz=>[B z]) ((by simp[a]))
 exact wB
def uM(h:ab)(p:Int):zzA 367 false [.ptr (ab.enc .V h),.val none [I p]] .one [B (fg h p)]:=by
 cases e:h.u
 all_goals
  have b:ab.enc .V h=(ab.enc .V h).set 18 (B h.u):=rfl;rw[e]at b;rw[b];refine fO 29 [] Tryz.func367 rfl ?_
  repeat'(first|refine gP ?_|(conv=>whnf);first|with_reducible (first|refine Bf.D (λa=>?_) (λa=>?_)|refine Bf.E (λa=>?_) (λa=>?_)|refine Bf.N (λa=>?_) (λa=>?_))|refine CB ?_)
  all_goals exact X0 (λz=>[B z]) ((by unfold fg;rw[e];first|(simp[*];done)|(simp[*];rw[Y4];simp)))
def gY(h:ab):zzA 372 false [.ptr (ab.enc .V h)] .one [I (fe h:Nat)]:=by
 refine fO 11 [] Tryz.func372 rfl ?_
 repeat'(first|refine gP ?_|(conv=>whnf);first|refine CB ?_)
 rfl
theorem qW(h:ab)(a:Int)(k:h.M.length<=1048576):zzA 509 false [.val (some 24) (ab.enc .V h),.val none [I a]] .one [I (dd (gf a) h.M)]:=by
 refine fO 22 [] Tryz.func509 rfl ?_
 repeat'(first|refine gP ?_|(conv=>whnf);first|refine CB ?_)
 (conv=>whnf)
 refine CG (ι:=Nat) (λi=>[(1,.H .one [I (a)]),(2,.H .box (ab.enc .V h)),(5,.H .one [I ((i:Nat):Int)])]) (λi=>i<=h.M.length/\∀(j:Nat)(z:aY),j<i->h.M[j]? = some z->gf a z=false) (λi=>h.M.length - i) (0) ?_ ψ λi c=>?_
 ·exact wB
 obtain⟨c,d⟩:=c;by_cases g:i<h.M.length
 ·have b:=ao g
  by_cases e:(nth h.M i).Addr=a
  ·repeat'(first|refine gB ?_|(conv=>whnf);first|with_reducible refine CD (aa b) ?_|refine CB ?_)
   grind [dP,gf]
  repeat'(first|refine gB ?_|(conv=>whnf);first|with_reducible refine CD (aa b) ?_|refine CB ?_)
  ((conv=>whnf);refine CE (i+1) ⟨ω,gw b (by grind [gf]) d⟩ ω ?_;(exact wB))
 repeat'(first|refine gE ?_|(conv=>whnf);first|refine CB ?_)
 exact X0 (λz=>[I z]) (g9 ω d).symm
def nj(h:ab)(i:Nat)(b:i<h.M.length)(a:h.M.length<=1048576):zzB 513 false [.ptr (bA h),.val none [I (i:Nat)]] [.ptr (bA {h with M:=dele h.M i}),.val none [I (i:Nat)]] (.tup []) []:=by
 refine fM 23 [] [(0,273,[4,5,6,7,8,9,10,11,13,14,15,16,17,18,19,21,22,0,1,2,3,4,5,6,7,9,10,11,12,13,14,15,8,1000,1009,1010,1011,1012,1013,1014,1015,16,1000,17,18,19]),(1048576,0,[8])] [(0,0),(0,0)] Tryz.func513 rfl (λu q=>?_) (.inr trivial)
 repeat'(first|refine gP ?_|(conv=>whnf);first|refine CB ?_|refine GD.mk rfl (vU h.M) rfl ?_|refine CX i rfl (by rw[C1];omega) (aL λ_=>rfl) C4 ?_|refine Ca (i+1) rfl (by rw[C1];omega) (aL λ_=>rfl) I4 ?_|refine CV (λ_=>rfl) (λ_=>rfl) (by rw[V1];omega) (by decide) ?_|refine Ap.dele (λ_=>rfl) (λ_=>rfl) a (by decide) ?_|refine CQ (λ_=>rfl) (λ_=>rfl) (by rw[V1];omega) (by decide) ?_|refine CB ?_)
 refine CJ rfl rfl ?_;exact wB
theorem DS(h:ab)(E:List Int)(i:Nat)(a:aT h E)(e:i<h.K.length):zzB 524 false [.ptr (bA h),.val none [I (i:Nat)]] [.ptr (bA (giveP h i)),.val none [I (i:Nat)]] (.tup []) []:=by
 have b:=a.lens;have g:=b.spans;have c:=ao e;have j:=nH {h with K:=dele h.K i} (nth h.K i).Q a.ker;have d:=gY {h with G:=cy h.G (nth h.K i).Q,K:=dele h.K i};rw[show fe {h with G:=cy h.G (nth h.K i).Q,K:=dele h.K i} = fe h from(jm _ _).1]at d;have k:fe h<=32:=b.ents;have l:=mA (fe h:Nat) h.q ⟨(nth h.K i).Q,1⟩ ω ⟨by grind [tZ.free],λ_ _=>trivial⟩;refine fM 52 [(374,[2,0])] [(1,273,[13,14,15,16,17,18,19,20,22,23,24,25,26,27,28,30,31,0,1,2,3,4,5,6,7,9,10,11,12,13,14,15,8,1000,1009,1010,1011,1012,1013,1014,1015,16,1000,17,18,19]),(1048577,0,[6]),(3,270,[38,39,40,41,42,43,44,45,47,37,48,49,50,51,0,1,2,3,4,5,6,7,8,1000,1001,1002,1003,1004,1005,1006,9,10,11,12,13,14,15,1012])] [(0,0),(0,0)] Tryz.func524 rfl (λu q=>?_) (.inr trivial)
 repeat'(first|refine gP ?_|(conv=>whnf);first|with_reducible refine CD (aa c) ?_|refine CB ?_|refine GD.mk rfl (xG h.K) rfl ?_|refine CX i rfl (by rw[C1];omega) (aL λ_=>rfl) C4 ?_|refine Ca (i+1) rfl (by rw[C1];omega) (aL λ_=>rfl) I4 ?_|refine CV (λ_=>rfl) (λ_=>rfl) (by rw[V1];omega) (by decide) ?_|refine Ap.dele (λ_=>rfl) (λ_=>rfl) ω (by decide) ?_|refine CQ (λ_=>rfl) (λ_=>rfl) (by rw[V1];omega) (by decide) ?_|refine CH rfl (aa c) rfl ?_|refine CB ?_|refine CK (j) (.inl rfl) ?_|refine CF (d) ⟨bJ _,trivial⟩ ?_|refine CF (l) ⟨⟨rfl,rfl⟩,⟨rfl,dR h.q⟩,⟨rfl,rfl⟩,trivial⟩ ?_)
 refine CJ rfl rfl ?_;exact wB
def wI(h:ab)(i:Nat)(a:Int):bA (clrS h i a)=(bA h).set 6 (.s .own ((h.K.map (ax.enc .own)).set i (ax.enc .own (kq (nth h.K i) (cN (nth h.K i) a))))):=by
 simp[bA,clrS,I6]
theorem og{β:Type}{f:α->β}{xs:List α}{y:β}(a:i<xs.length):((xs.map f).set i y)[i]? = some y:=ψ
variable{a:Int}{s:ax}
def Kf(c:bi s=true)(b:eC s a):iV s a=(cN s a,0):=by
 unfold iV;rw[CC ((fy c).2 ⟨b.1,b.2.1⟩),b.2.2.1];rfl
theorem nY(h:ab)(E:List Int)(a:Int)(c:aT h (a::E)):zzB 426 false [.ptr (bA h),.val none [I a]] [.ptr (bA (freeA h a)),.val none [I a]] (.tup []) []:=by
 obtain⟨j,n,t⟩:=c.at (c.hin a ψ);have d:=(c.hin a ψ).bd c;have B:=c.lens;have C:=B.spans;have e:=c.L.sok _ (am j);have k:=jQ h (a / 16) ω;rw[t]at k;unfold freeA;generalize se h a=i at j n k e;have b:=ao j;have o:=uR (nth h.K i) a ⟨ω,ω⟩;rw[Kf e n]at o;have w:=zF (nth h.K i) (cN (nth h.K i) a) e n.2.2.2;have D:=c.give j n;have l:=uM (clrS h i a) (nth h.K i).Q;rw[show fg (clrS h i a) (nth h.K i).Q=fg h (nth h.K i).Q from rfl]at l;have p:=DS (clrS h i a) E i D (by grind [clrS]);have r:=bJ (clrS h i a);rw[wI]at p r;have g:((h.K.map (ax.enc .own)).set i (ax.enc .own (kq (nth h.K i) (cN (nth h.K i) a))))[i]? = some (ax.enc .own (kq (nth h.K i) (cN (nth h.K i) a))):=og j;unfold freeS;by_cases y:(kq (nth h.K i) (cN (nth h.K i) a)).b1=0
 ·cases F:fg h (nth h.K i).Q<;>rw[F]at l
  ·rw[CC ⟨y,rfl⟩]
   refine fM 68 [(524,[2,0])] [(2,274,[26,27,28,29,30,31,32,33,34,35,36,37,38,39,25,40,41,42,0,1,2,3,4,5,6,7,8,9,10,11,12,13,14,15,16,17,18,1016])] [(0,0),(0,0)] Tryz.func426 rfl (λu q=>?_) (.inr trivial)
   repeat'(first|refine gB ?_|(conv=>whnf);first|with_reducible refine CM ((X0 _ (tdiv16 d.1)).trans (fo ω ω)) ?_|refine CB ?_|refine CO (by decide) ?_|refine CF (k) ⟨⟨rfl,bJ h⟩,⟨rfl,rfl⟩,trivial⟩ ?_|refine CD (aa b) ?_|refine CD g ?_|refine CH rfl (aa b) rfl ?_|refine CH rfl g rfl ?_|refine C8 (o) ?_|refine C8 (w) ?_|refine CB ?_|refine CP rfl rfl (aa b) rfl (I1 rfl) rfl ?_|refine CF (l) ⟨r,⟨rfl,rfl⟩,trivial⟩ ?_|refine CK (p) (.inl rfl) ?_)
   refine CJ rfl rfl ?_;exact wB
  rw[C9 ψ];rw[wI];refine fM 68 [(524,[2,0])] [(2,274,[26,27,28,29,30,31,32,33,34,35,36,37,38,39,25,40,41,42,0,1,2,3,4,5,6,7,8,9,10,11,12,13,14,15,16,17,18,1016])] [(0,0),(0,0)] Tryz.func426 rfl (λu q=>?_) (.inr trivial)
  repeat'(first|refine gB ?_|(conv=>whnf);first|with_reducible refine CM ((X0 _ (tdiv16 d.1)).trans (fo ω ω)) ?_|refine CB ?_|refine CO (by decide) ?_|refine CF (k) ⟨⟨rfl,bJ h⟩,⟨rfl,rfl⟩,trivial⟩ ?_|refine CD (aa b) ?_|refine CD g ?_|refine CH rfl (aa b) rfl ?_|refine CH rfl g rfl ?_|refine C8 (o) ?_|refine C8 (w) ?_|refine CB ?_|refine CP rfl rfl (aa b) rfl (I1 rfl) rfl ?_|refine CF (l) ⟨r,⟨rfl,rfl⟩,trivial⟩ ?_|refine CK (p) (.inl rfl) ?_)
  refine CJ rfl rfl ?_;exact wB
 rw[C9 λx=>y x.1];rw[wI];refine fM 68 [(524,[2,0])] [(2,274,[26,27,28,29,30,31,32,33,34,35,36,37,38,39,25,40,41,42,0,1,2,3,4,5,6,7,8,9,10,11,12,13,14,15,16,17,18,1016])] [(0,0),(0,0)] Tryz.func426 rfl (λu q=>?_) (.inr trivial)
 repeat'(first|refine gB ?_|(conv=>whnf);first|with_reducible refine CM ((X0 _ (tdiv16 d.1)).trans (fo ω ω)) ?_|refine CB ?_|refine CO (by decide) ?_|refine CF (k) ⟨⟨rfl,bJ h⟩,⟨rfl,rfl⟩,trivial⟩ ?_|refine CD (aa b) ?_|refine CD g ?_|refine CH rfl (aa b) rfl ?_|refine CH rfl g rfl ?_|refine C8 (o) ?_|refine C8 (w) ?_|refine CB ?_|refine CP rfl rfl (aa b) rfl (I1 rfl) rfl ?_|refine CF (l) ⟨r,⟨rfl,rfl⟩,trivial⟩ ?_|refine CK (p) (.inl rfl) ?_)
 refine CJ rfl rfl ?_;exact wB
def M6(h:ab)(t:Nat)(c:aB):bA {h with S:=h.S.set t c} = (bA h).set 9 (.s .own ((h.S.map (aB.enc .own)).set t (aB.enc .own c))):=by
 simp[bA,I6]
theorem ov(h:ab)(E:List Int)(t:Nat)(a:Int)(b:aT h (a::E))(w:t<h.S.length):zzB 515 false [.ptr (bA h),.val none [I (t:Nat)],.val none [I a]] [.ptr (bA (recyc t h a)),.val none [I (t:Nat)],.val none [I a]] (.tup []) []:=by
 obtain⟨o,y,p⟩:=b.at (b.hin a ψ);have g:=(b.hin a ψ).bd b;have B:=b.lens;have C:=B.spans;have j:=aE (b.L.sok _ (am o));have r:=b.cach _ (am w);have l:=jQ h (a / 16) ω;rw[p]at l;have D:=nY h E a b;unfold recyc;generalize se h a=i at o y l j;have n:=ao o;have k:=ao w;have d:=z7 (nth h.S t) (nth h.K i).d.toNat a r ω;rw[Int.toNat_of_nonneg j.2.2.1]at d;unfold yh at d;cases e:cput (nth h.S t) (nth h.K i).d a with
 | none=>
  rw[e]at d;refine fM 46 [(426,[2,0])] [(1,277,[16,17,18,19,20,21,22,23,24,25,26,27,28,29,30,31,32,15,33,34,7,0,1,2,3,4,5,6,7,8,9,10,11,12,13,14,15,16,17,18,19,20,21,1019,22]),(3,6,[36,37,38,39,40,41])] [(0,0),(0,0),(0,0)] Tryz.func515 rfl (λu q=>?_) (.inr trivial)
  repeat'(first|refine gP ?_|(conv=>whnf);first|with_reducible refine CM ((X0 _ (tdiv16 g.1)).trans (fo ω ω)) ?_|refine CB ?_|refine CO (by decide) ?_|refine CF (l) ⟨⟨rfl,bJ h⟩,⟨rfl,rfl⟩,trivial⟩ ?_|refine CD (aa n) ?_|refine CD (aa k) ?_|refine CH rfl (aa n) rfl ?_|refine CH rfl (aa k) rfl ?_|refine CF (d) ⟨⟨rfl,Cg _⟩,⟨rfl,rfl⟩,⟨rfl,rfl⟩,trivial⟩ ?_|refine CB ?_|refine CK (D) (.inl rfl) ?_)
  refine CJ rfl rfl ?_;exact wB
 | some c=>
  rw[e]at d;simp only;rw[M6];refine fM 46 [(426,[2,0])] [(1,277,[16,17,18,19,20,21,22,23,24,25,26,27,28,29,30,31,32,15,33,34,7,0,1,2,3,4,5,6,7,8,9,10,11,12,13,14,15,16,17,18,19,20,21,1019,22]),(3,6,[36,37,38,39,40,41])] [(0,0),(0,0),(0,0)] Tryz.func515 rfl (λu q=>?_) (.inr trivial)
  repeat'(first|refine gP ?_|(conv=>whnf);first|with_reducible refine CM ((X0 _ (tdiv16 g.1)).trans (fo ω ω)) ?_|refine CB ?_|refine CO (by decide) ?_|refine CF (l) ⟨⟨rfl,bJ h⟩,⟨rfl,rfl⟩,trivial⟩ ?_|refine CD (aa n) ?_|refine CD (aa k) ?_|refine CH rfl (aa n) rfl ?_|refine CH rfl (aa k) rfl ?_|refine CF (d) ⟨⟨rfl,Cg _⟩,⟨rfl,rfl⟩,⟨rfl,rfl⟩,trivial⟩ ?_|refine CB ?_|refine CP rfl rfl (aa k) rfl (I1 rfl) rfl ?_)
  refine CJ rfl rfl ?_;exact wB
theorem qF(h:ab)(i:Nat)(d:aT h [])(o:i<h.M.length)(t:aG (nth h.M i).o<0):zzB 511 false [.ptr (bA h),.val none [I (i:Nat)]] [.ptr (bA (freeL h i (sI h (nth h.M i).Addr))),.val none [I (i:Nat)]] (.tup []) []:=by
 obtain⟨l,w,y,-⟩:=(dc d (am o)).1 t;obtain⟨p,B,c,-⟩:=pU w y;generalize sI h (nth h.M i).Addr=g at p B c;have a:=d.lens;have C:=a.larges;have D:=a.objs;have b:=ao o;have N:=aK (d.L.lok _ (am p));have E:fe h<=32:=a.ents;refine fM 89 [(374,[2,0]),(513,[2,0])] [(4,11,[23,24,25,26,27,28,29,30,31,32,33]),(8,7,[41,42,43,44,45,46,47]),(9,273,[50,51,52,53,54,55,56,57,58,59,60,62,49,63,64,65,66,0,1,2,3,4,5,6,7,8,9,10,11,1000,1001,1002,1003,1004,1005,1006,12,13,14,15,16,17,18,1015]),(10,273,[67,68,69,70,71,72,73,74,76,77,78,79,80,81,82,84,85,0,1,2,3,4,5,6,7,9,10,11,12,13,14,15,8,1000,1009,1010,1011,1012,1013,1014,1015,16,1000,17,18,19]),(1048586,0,[7])] [(0,0),(0,0)] Tryz.func511 rfl (λu q=>?_) (.inr trivial)
 repeat'(first|refine gP ?_|(conv=>whnf);first|refine CB ?_)
 (conv=>whnf)
 refine CG (ι:=Nat) (λk=>[(0,.H .box (bA h)),(1,.H .one [I ((i:Nat):Int)]),(4,.H .one [I ((k:Nat):Int)])]) (λk=>k<=g) (λk=>g - k) (0) ?_ (W0 _) λk O=>?_
 ·exact wB
 have j:=ao (xs:=h.J) (i:=k) ω;have F:=aK (d.L.lok _ (am (xs:=h.J) (i:=k) ω));have G:0<=(nth h.M i).Addr/\(nth h.M i).Addr<=512:=ω
 by_cases e:k=g
 ·subst e
  repeat'(first|refine gB ?_|(conv=>whnf);first|with_reducible refine CD (aa j) ?_|refine CB ?_|refine CH rfl (aa j) rfl ?_|refine CH rfl (aa b) rfl ?_|refine CD (aa b) ?_)
  (conv=>whnf)
  refine CG (ι:=Nat) (λn=>[(0,.H .box (bA {h with G:=unmN h.G (nth h.J k).Q n})),(1,.H .one [I ((i:Nat):Int)]),(4,.H .one [I ((k:Nat):Int)]),(5,.H .box (ay.enc .own (nth h.J k))),(6,.H .one [I ((n:Nat):Int)])]) (λn=>n<=(nth h.J k).a2.toNat) (λn=>(nth h.J k).a2.toNat - n) (0) ?_ (W0 _) λn P=>?_
  ·exact wB
  by_cases Q:n<(nth h.J k).a2.toNat
  ·have H:=nH {h with G:=unmN h.G (nth h.J k).Q n} ((nth h.J k).Q+n) (ik d.ker _ _)
   repeat'(first|refine gE ?_|(conv=>whnf);first|refine CB ?_|refine CK (H) (.inl rfl) ?_|refine CB ?_)
   ((conv=>whnf);refine CE (n+1) ω ω ?_;(exact wB))
  obtain rfl:n=(nth h.J k).a2.toNat:=ω
  have r:=gY {h with G:=unmN h.G (nth h.J k).Q (nth h.J k).a2.toNat};rw[show fe {h with G:=unmN h.G (nth h.J k).Q (nth h.J k).a2.toNat} = fe h from(dS _ _ _).1]at r;have J:=mA (fe h:Nat) h.q ⟨(nth h.J k).Q,(nth h.J k).a2⟩ ω ⟨by grind [tZ.free],λ_ _=>trivial⟩;have K:=nj {h with G:=unmN h.G (nth h.J k).Q (nth h.J k).a2.toNat,J:=dele h.J k,q:=(cn (fe h) h.q ⟨(nth h.J k).Q,(nth h.J k).a2⟩).getD h.q} i o ψ
  repeat'(first|refine gE ?_|(conv=>whnf);first|refine CB ?_|refine GD.mk rfl (uB h.J) rfl ?_|refine CX k rfl (by rw[C1];omega) (aL λ_=>rfl) C4 ?_|refine Ca (k+1) rfl (by rw[C1];omega) (aL λ_=>rfl) I4 ?_|refine CV (λ_=>rfl) (λ_=>rfl) (by rw[V1];omega) (by decide) ?_|refine Ap.dele (λ_=>rfl) (λ_=>rfl) ω (by decide) ?_|refine CQ (λ_=>rfl) (λ_=>rfl) (by rw[V1];omega) (by decide) ?_|refine CB ?_|refine CF (r) ⟨bJ _,trivial⟩ ?_|refine CF (J) ⟨⟨rfl,rfl⟩,⟨rfl,dR h.q⟩,⟨rfl,rfl⟩,trivial⟩ ?_|refine CK (K) (.inl rfl) ?_)
  refine CJ rfl rfl ?_;exact wB
 have M:=c k ω
 repeat'(first|refine gB ?_|(conv=>whnf);first|with_reducible refine CD (aa j) ?_|refine CB ?_|refine CH rfl (aa j) rfl ?_|refine CH rfl (aa b) rfl ?_|refine CD (aa b) ?_)
 ((conv=>whnf);refine CE (k+1) ω ω ?_;(exact wB))
def N5(q:b8)(x:aO):List C:=b8.enc .own (KR q x)++cB .own (rn q x)
def Ja(q:b8)(x:aO):gW (N5 q x):=aQ (b8.enc_fr _) (oT _)
def DG(q:b8)(a:aO)(K:q.a1.length<=4096)(e:fR q=true)(r:0<=a.d/\a.d<=3/\0<=a.Addr/\0<=a.b6)(t:∀y∈q.a1,y.b6<=a.b6)(u:∀y∈q.a1,y.Addr≠a.Addr) :
  zzA 514 false [.val (some 2) (b8.enc .V q),.val (some 3) (aO.enc .V a)] (.tup [some 2,none]) (N5 q a):=by
 have b:b8.sml q:=⟨ω,λ_ _=>trivial⟩
 have w:=rV q b;have l:=pi q b;rw[e]at l;have n:=Aa a;rw[O0 r]at n;have o:=sD q a.Addr b;rw[show q.a1.any (dZ a.Addr)=false by rw[List.any_eq_false];intro y B;unfold dZ;simpa using u y B]at o;have C:=(iW.1 e).2.2.2;have g:=Ja q a;have L:(aO.mk a.Addr a.d a.b6)=a:=rfl;have c:=xy q.c0 (q.a1++[a]);simp only[U3,List.length_singleton]at c;by_cases E:q.a1.length=0
 all_goals
  try have h:(nth q.a1 (q.a1.length - 1)).b6<=a.b6:=t _ (am ω)
  try have j:=ao (xs:=q.a1) (i:=q.a1.length - 1) ω
  try have d:q.a1[((q.a1.length:Int) - 1).toNat]? = some (nth q.a1 (q.a1.length - 1)):=by rw[show((q.a1.length:Int) - 1).toNat=q.a1.length - 1 by omega];exact j
  refine fO 74 [(3,27,[15,16,17,18,19,20,21,22,23,24,25,26,27,28,29,30,31,32,33,34,35,36,37,38,39,40,41]),(7,6,[52,53,54,55,56,57]),(9,268,[61,62,63,64,65,66,67,69,70,71,72,73,0,1,2,3,4,5,6,8,9,10,11,12,7,1008,1009,1010,1011,1012,13,14])] Tryz.func514 rfl ?_ (.inr g)
  repeat'(first|refine gE ?_|(conv=>whnf);first|with_reducible refine Bf.D (λe=>?_) (λe=>?_)|refine CB ?_|refine C8 (w) ?_|refine C8 (l) ?_|refine C8 (n) ?_|refine C8 (o) ?_|refine CN ω (aa d) ?_|refine CY (aL λ_=>rfl) rfl (by simp;omega) (by decide) (fp (aO.enc .own) q.a1 a) ?_)
  (conv=>whnf)
  refine Lp.fz 8 (ι:=Nat) (λk=>[(2,.H .box (b8.enc .V q)),(4,.H .box [I 0,.z]),(8,.H .one (cB .V (q.a1++[a]))),(9,.H .one [I (k:Nat)])]) (λk=>k<=iH q.c0 (q.a1++[a])) (λk=>iH q.c0 (q.a1++[a]) - k) 0 ?_ (W0 _) λk M=>?_
  ·(repeat'(first|exact trivial|rfl|exact CL rfl (show L9 (ef (cB .own (q.a1++[a]))) (cB .V (q.a1++[a])) by rw[F5];exact ly _)|refine CL ?_ ?_))
  have N:(q.a1++[a]).length=q.a1.length+1:=by simp
  have F:((q.a1++[a]).drop k).length<=5000:=by rw[V3];omega
  have G:((q.a1++[a]).take k).length<=5000:=by rw[V1];omega
  have p:=vm ((q.a1++[a]).drop k) ⟨ω,λ_ _=>trivial⟩;by_cases H:k<iH q.c0 (q.a1++[a])
  ·have J:q.c0<quarCells ((q.a1++[a]).drop k) ((q.a1++[a]).drop k).length:=ur H
   repeat'(first|refine gE ?_|(conv=>whnf);first|refine CB ?_|refine Ca k rfl (by rw[C1];omega) (aL λ_=>rfl) I4 ?_|refine C8 (p) ?_|refine CB ?_)
   ((conv=>whnf);refine CE (k+1) ω ω ?_;(exact wB))
  obtain rfl:k=iH q.c0 (q.a1++[a]):=ω
  have J:quarCells ((q.a1++[a]).drop (iH q.c0 (q.a1++[a]))) ((q.a1++[a]).drop (iH q.c0 (q.a1++[a]))).length<=q.c0:=vZ C.1 _
  repeat'(first|refine gE ?_|(conv=>whnf);first|refine CB ?_|refine Ca (iH q.c0 (q.a1++[a])) rfl (by rw[C1];omega) (aL λ_=>rfl) I4 ?_|refine CX (iH q.c0 (q.a1++[a])) rfl (by rw[C1];omega) (aL λ_=>rfl) C4 ?_|refine C8 (p) ?_|refine CB ?_|refine CV (λ_=>rfl) (λ_=>rfl) ω (by decide) ?_|refine CQ (λ_=>rfl) (λ_=>rfl) ω (by decide) ?_)
  rfl
def kD{z:Int}(h:0<=z/\z<512):IntKind.i64.wrap (z.tdiv 16)=z / 16:=(X0 _ (tdiv16 h.1)).trans (fo ω ω)
variable{E:List Int}{h:ab}
def mG(a:aT h E){o:aY}(b:o∈h.M):0<=o.Addr/\o.Addr<512:=by
 rcases a.oow o b with⟨s,c,⟨f,g,-⟩,-⟩|⟨l,d,e,-⟩
 ·have:=aE (a.L.sok s c);omega
 have:=aK (a.L.lok l d);omega
def BL{k:Int}(h:0<=k/\k<=3):1<=csz k/\csz k<=8:=by
 rcases bW h with e|e|e|e<;>rw[e]<;>decide
structure RQ(h:ab)(o:aY):Prop where
 cl:0<=aG o.o/\aG o.o<=3
 fr:0<=(ac h.G.F.R (o.Addr / 16)).e/\(ac h.G.F.R (o.Addr / 16)).e<h.G.F.W.U.length
 fit:o.Addr % 16+csz (aG o.o)<=16
 row:(nth h.G.F.W.U (co h.G o.Addr)).length=16
def RQ.of(b:aT h E){o:aY}(l:o∈h.M)(q:¬aG o.o<0):RQ h o:=by
 obtain⟨⟨s,d,f,r⟩,B⟩:=(dc b l).2 q;have t:=aE (b.L.sok s d);have u:=mG b l;have n:s.Q=o.Addr / 16:=by have C:=f.1;have D:=f.2.1;omega
 have c:(o.Addr / 16).toNat<(tbl h).O.length:=by have:=b.pg.bnd _ (d7 (la:=h.J) d);omega
 have a:(((o.Addr / 16).toNat:Nat):Int)=o.Addr / 16:=ω
 have p:=(b.pg.own _ c).2 (by rw[a,<-n];exact d7 d);have g:(ac h.G.F.R (o.Addr / 16)).j≠0:=by rw[<-a];unfold tbl at p c;rw[mB c];exact p
 obtain⟨-,-,-,i,w⟩:=bS b.ker g;have y:=(aX.1 (aD.1 b.ker).2.1).2.2.1;have j:co h.G o.Addr<h.G.F.W.U.length:=by unfold co;omega
 refine⟨ω,⟨i,ω⟩,?_,b.lens.row _ (am j)⟩;have A:=f.2.2.1;rw[n,<-r]at *;rcases bW (k:=s.d) ⟨ω,ω⟩ with e|e|e|e<;>rw[e]at A |-<;>omega
def D2(h:ab)(a:Int)(b:co h.G a<h.G.F.W.U.length):({h with G:=dN h.G a 0} : ab)=h:=by
 have e:h.G.F.W.U.set (co h.G a) (nth h.G.F.W.U (co h.G a))=h.G.F.W.U:=by
  refine List.ext_getElem? λi=>?_
  rw[List.getElem?_set];split
  ·rename_i e
   subst e;exact(ao b).symm
  rfl
 unfold dN iz;rw[e]
def FQ(h:ab)(a:Int)(k:Nat)(v:Int)(_:0<=a):bA {h with G:=dN h.G a (k+1)} = (bA {h with G:=dN h.G a k}).set 0 (.s .own (((dN h.G a k).F.W.U.map (aF .own)).set (ac h.G.F.R (a / 16)).e.toNat ((aF .own (iz (nth h.G.F.W.U (co h.G a)) (a % 16).toNat k)).set 0 (.s .own (((iz (nth h.G.F.W.U (co h.G a)) (a % 16).toNat k).map (rI .own)).set (a % 16+k).toNat (splice (rI .own v) 0 [I 0])))))):=by
 have e:(a % 16+k).toNat=(a % 16).toNat+k:=ω
 rw[e];simp[bA,dN,I6,iz,aF,splice,co]
 rfl
def uI(t:Nat)(h:ab)(xs:List aO)(k:Nat)(a:k<xs.length):recycs t h ((xs.take (k+1)).map (·.Addr))=recyc t (recycs t h ((xs.take k).map (·.Addr))) (nth xs k).Addr:=by
 unfold recycs;rw[V5,ao a];simp
def Hx(h:ab)(o:aY)(t:Nat)(a:aT h [])(P:o∈h.M)(ht:o.a3=t)(hlc:h.S.length<=4):zzB 416 false [.ptr (bA h),.val none [I (t:Nat)],.val none [I o.Addr]] [.ptr (bA (freeOb h t (jS h o.Addr)).1),.val none [I (t:Nat)],.val none [I o.Addr]] .one [I (freeOb h t (jS h o.Addr)).2]:=by
 obtain⟨l,B,C⟩:=a.objAt P;have b:=mG a P;have hon:=a.onu o P;have d:=a.lens;have hno:=d.objs;have E:t<h.S.length:=ω
 have M:=aH (t:Nat) 0 (h.S.length - 1:Int);rw[O0 ω]at M;have F:=qW h o.Addr ω;rw[C]at F;generalize jS h o.Addr=i at l B F;subst B;have r:=ao l;have Q:=kL (nth h.M i).o;unfold freeOb;have R:=bj a.ker;have Z:=cz h.G.F.R ((nth h.M i).Addr / 16) R.1.2;by_cases w:aG (nth h.M i).o<0
 ·rw[CC w]
  have c3:=qF h i a l w;refine fM 148 [(511,[2,0]),(513,[2,0]),(515,[2,0,0]),(510,[2,0])] [(15,269,[68,69,70,71,72,73,74,75,77,67,78,79,11,0,1,2,3,4,5,6,7,13,8,1000,1001,1002,1003,1004,1013,9,10,11,12,14,1012,15]),(22,15,[92,93,94,95,96,97,98,99,100,101,102,103,104,105,106]),(25,271,[116,117,118,119,120,121,122,123,124,125,127,115,128,129,14,0,1,2,3,4,5,6,7,8,9,15,10,1000,1001,1002,1003,1015,11,12,13,14,16,1014,17])] [(0,0),(0,0),(0,0)] Tryz.func416 rfl (λu q=>?_)
  repeat'(first|refine gE ?_|(conv=>whnf);first|with_reducible refine Bf.D (λn=>?_) (λn=>?_)|refine CB ?_|refine C8 (M) ?_|refine CF (F) ⟨⟨rfl,bJ h⟩,⟨rfl,rfl⟩,trivial⟩ ?_|refine CD (aa r) ?_|refine CH rfl (aa r) rfl ?_|refine C8 (Q) ?_|refine CK (c3) (.inl rfl) ?_)
  refine CJ rfl rfl ?_;exact wB
 rw[C9 w];obtain⟨S,s2,s3,s4⟩:=RQ.of a (am l) w;by_cases N:(ac (tbl h) ((nth h.M i).Addr / 16)).j=1
 ·rw[CC N]
  unfold tbl at N;refine fM 148 [(511,[2,0]),(513,[2,0]),(515,[2,0,0]),(510,[2,0])] [(15,269,[68,69,70,71,72,73,74,75,77,67,78,79,11,0,1,2,3,4,5,6,7,13,8,1000,1001,1002,1003,1004,1013,9,10,11,12,14,1012,15]),(22,15,[92,93,94,95,96,97,98,99,100,101,102,103,104,105,106]),(25,271,[116,117,118,119,120,121,122,123,124,125,127,115,128,129,14,0,1,2,3,4,5,6,7,8,9,15,10,1000,1001,1002,1003,1015,11,12,13,14,16,1014,17])] [(0,0),(0,0),(0,0)] Tryz.func416 rfl (λu q=>?_)
  repeat'(first|refine gB ?_|(conv=>whnf);first|with_reducible refine Bf.D (λn=>?_) (λn=>?_)|refine CB ?_|refine CO (by decide) ?_|refine CM (kD b) ?_|refine C8 (M) ?_|refine CF (F) ⟨⟨rfl,bJ h⟩,⟨rfl,rfl⟩,trivial⟩ ?_|refine CD (aa r) ?_|refine CH rfl (aa r) rfl ?_|refine C8 (Q) ?_|refine CF (Z) ⟨⟨rfl,CZ _⟩,⟨rfl,rfl⟩,trivial⟩ ?_)
  refine CJ rfl rfl ?_;exact wB
 rw[C9 N];unfold tbl at N;have G:co h.G (nth h.M i).Addr<h.G.F.W.U.length:=by unfold co;omega
 have hcz:=BL S;have g:=a.inQuar l w;have H:=ed (aG (nth h.M i).o);refine fM 148 [(511,[2,0]),(513,[2,0]),(515,[2,0,0]),(510,[2,0])] [(15,269,[68,69,70,71,72,73,74,75,77,67,78,79,11,0,1,2,3,4,5,6,7,13,8,1000,1001,1002,1003,1004,1013,9,10,11,12,14,1012,15]),(22,15,[92,93,94,95,96,97,98,99,100,101,102,103,104,105,106]),(25,271,[116,117,118,119,120,121,122,123,124,125,127,115,128,129,14,0,1,2,3,4,5,6,7,8,9,15,10,1000,1001,1002,1003,1015,11,12,13,14,16,1014,17])] [(0,0),(0,0),(0,0)] Tryz.func416 rfl (λu q=>?_)
 repeat'(first|refine gB ?_|(conv=>whnf);first|with_reducible refine Bf.D (λn=>?_) (λn=>?_)|refine CB ?_|refine CO (by decide) ?_|refine CM (kD b) ?_|refine C8 (M) ?_|refine CF (F) ⟨⟨rfl,bJ h⟩,⟨rfl,rfl⟩,trivial⟩ ?_|refine CD (aa r) ?_|refine CH rfl (aa r) rfl ?_|refine C8 (Q) ?_|refine CF (Z) ⟨⟨rfl,CZ _⟩,⟨rfl,rfl⟩,trivial⟩ ?_)
 rw[show bA h=bA {h with G:=dN h.G (nth h.M i).Addr 0} by rw[D2 h _ G]]
 (conv=>whnf)
 refine CG (ι:=Nat) (λk=>[(0,.H .box (bA {h with G:=dN h.G (nth h.M i).Addr k})),(1,.H .one [I ((t:Nat):Int)]),(2,.H .one [I ((nth h.M i).Addr)]),(7,.H .one [I ((i:Nat):Int)]),(8,.H .box (aY.enc .own (nth h.M i))),(9,.H .one [I (aG (nth h.M i).o)]),(10,.H .box (bh.enc .own (ac h.G.F.R ((nth h.M i).Addr / 16)))),(13,.H .one [I ((k:Nat):Int)])]) (λk=>k<=(csz (aG (nth h.M i).o)).toNat) (λk=>(csz (aG (nth h.M i).o)).toNat - k) (0) ?_ (W0 _) λk hk=>?_
 ·exact wB
 have hmod:IntKind.i64.wrap 0=0:=rfl;have T:(nth h.M i).Addr.tmod 16=(nth h.M i).Addr % 16:=eG b.1;have p:(dN h.G (nth h.M i).Addr k).F.W.U[(ac h.G.F.R ((nth h.M i).Addr / 16)).e.toNat]? = some (iz (nth h.G.F.W.U (co h.G (nth h.M i).Addr)) ((nth h.M i).Addr % 16).toNat k):=X3 G;by_cases O:k<(csz (aG (nth h.M i).o)).toNat
 ·have J:=ao (xs:=iz (nth h.G.F.W.U (co h.G (nth h.M i).Addr)) ((nth h.M i).Addr % 16).toNat k) (i:=((nth h.M i).Addr % 16+k).toNat) (by rw[kW,s4];omega)
  repeat'(first|refine gE ?_|(conv=>whnf);first|refine CB ?_|refine CO (by decide) ?_|refine CR T ?_|refine C8 (H) ?_|refine CN s2.1 (aa p) ?_|refine CH rfl (aa p) rfl ?_|refine CN ω (aa J) ?_|refine Pu.two rfl rfl (aa p) rfl rfl rfl (aa J) rfl (I3 _) (FQ h _ k _ b.1) ?_)
  ((conv=>whnf);refine CE (k+1) ω ω ?_;(exact wB))
 obtain rfl:k=(csz (aG (nth h.M i).o)).toNat:=ω
 have c5:=nj {h with G:=dN h.G (nth h.M i).Addr (csz (aG (nth h.M i).o)).toNat} i l (by show h.M.length<=_;omega);have j:=a.nums;unfold cr at j;rw[C0]at j;have K:=(a.dropO l (jF.any (c:=aG (nth h.M i).o) (by obtain⟨⟨s,hs,k1,k2⟩,-⟩:=(dc a (am l)).2 w;exact⟨s,hs,k1,.inr k2⟩))).nd;rw[List.cons_append,List.nil_append]at K;have c6:=DG h.a6 (gT h (nth h.M i)) (by have:=d.quar;omega) a.quar ⟨S.1,S.2,b.1,j.2.2.1⟩ (λy U=>a.snc y U) (λy U e=>(List.nodup_cons.1 K).1 (by rw[show(nth h.M i).Addr=y.Addr from e.symm];unfold holders;simp only[C3];exact .inl (.inr (O4.2 ⟨y,U,rfl⟩))));unfold N5 at c6;have V:(rn h.a6 (gT h (nth h.M i))).length<=513:=by have:=d.quar;unfold rn;rw[V1,U3];simp only[List.length_singleton];omega
 repeat'(first|refine gB ?_|(conv=>whnf);first|with_reducible refine Bf.D (λn=>?_) (λn=>?_)|refine CB ?_|refine C8 (H) ?_|refine CK (c5) (.inl rfl) ?_|refine CF (c6) ⟨⟨rfl,b8.enc_fz h.a6⟩,⟨rfl,rfl⟩,trivial⟩ ?_|refine CB ?_)
 have W:vt h t i=recycs t (inQuar h i) ((rn h.a6 (gT h (nth h.M i))).map (·.Addr)):=rfl;simp only;rw[W];have hqn:(inQuar h i).S.length=h.S.length:=rfl;generalize rn h.a6 (gT h (nth h.M i))=out at g V
 (conv=>whnf)
 refine CG (ι:=Nat) (λk=>[(0,.H .box (bA (recycs t (inQuar h i) ((out.take k).map (·.Addr))))),(1,.H .one [I ((t:Nat):Int)]),(15,.H .one (cB .own out)),(16,.H .one [I ((k:Nat):Int)])]) (λk=>k<=out.length) (λk=>out.length - k) (0) ?_ (W0 _) λk hk=>?_
 ·exact wB
 by_cases O:k<out.length
 ·have L:=ao O
  have X:out.map (·.Addr)=(out.take k).map (·.Addr)++(nth out k).Addr::(out.drop (k+1)).map (·.Addr):=by
   conv=>lhs;rw[<-List.take_append_drop k out,gt O]
   simp
  have Y:aT (recycs t (inQuar h i) ((out.take k).map (·.Addr))) ((nth out k).Addr::(out.drop (k+1)).map (·.Addr)):=aT.recycs (by rw[<-X];exact g) E;have c7:=ov _ _ t _ Y (by rw[(dE t _ _).1];exact E)
  repeat'(first|refine gE ?_|(conv=>whnf);first|refine CB ?_|refine CD (aa L) ?_|refine CH rfl (aa L) rfl ?_|refine CK (c7) (.inl rfl) ?_)
  ((conv=>whnf);refine CE (k+1) ω ω ?_)
  rw[uI t _ out k O];exact wB
 obtain rfl:k=out.length:=ω
 rw[C5]
 repeat'(first|refine gE ?_|(conv=>whnf);first|refine CB ?_)
 refine CJ rfl rfl ?_;exact wB
def oE(rows:List (List C)):C:=match rows with|[]=>.s .V []|_=>.s .own rows
def yJ(h:rows≠[]):oE rows=.s .own rows:=by cases rows with|nil=>exact absurd rfl h|cons=>rfl
variable{P:Program}
def BP(w:World)(t e k:Nat)(z:Value)(p:P.underlying t=some (.slice e))(d:∀w,(zeroValue e).run P w=.ok z w)(q:z.cells.size=k)(h1:∀v∈z.cells.toList,v.oneCell'=true)(b o n:Nat)(u:0<n)(i:0<k)(r:∀j,j<n*k->(w.cell? ⟨b,o+j,none⟩).isSome=true)(y:∀j,j<n*k->w.frozen? ⟨b,o+j,none⟩ = false) :
  ∃zs:List Value,zs.length=n*k/\(∀v∈zs,v.oneCell'=true)/\∀(ty:TypeId)(c:Nat),(Builtin.clear_ #[t] ty #[.slice (some ⟨b,o,none⟩) n c]).run P w=.ok (.tuple #[]) (w.setCells b o zs):=by
 subst q;have f:(Builtin.zeroCells z.cells n).toList.length=n*z.cells.size:=by simp[Builtin.zeroCells]
 have a:∀v∈(Builtin.zeroCells z.cells n).toList,v.oneCell'=true:=by
  intro v d;rw[Array.mem_toList_iff]at d;simp only[Builtin.zeroCells,Array.mem_map,Array.mem_range]at d;obtain⟨j,l,rfl⟩:=d;have g:j % z.cells.size<z.cells.size:=Nat.mod_lt _ i;rw[getElem!_pos z.cells (j % z.cells.size) g];exact h1 _ (Array.mem_toList_iff.2 (Array.getElem_mem g))
 refine⟨_,f,a,λty c=>?_⟩;have h:=run_storeCells_cells (P:=P) b o (Builtin.zeroCells z.cells n).toList 0 w (λj l=>by simpa using r j ω) (λj l=>by simp) a;simp only[Nat.add_zero]at h;obtain⟨m,rfl⟩ : ∃m,n=m+1:=⟨n - 1,ω⟩
 simp[Builtin.clear_,run_underlying p,d,h]
structure LW(w w':World)(g k n i:Nat):Prop where
 keep:bK (λb o=>b=g/\o<n*k) w w'
 lo:∀q,q<i*k->cel w' g q=cel w g q
 mid:∀q,i*k<=q->q<(n - 1)*k->cel w' g q=cel w g (q+k)
 hi:∀q,(n - 1)*k<=q->q<n*k->∃z,cel w' g q=some z/\z.oneCell'=true
 fro:∀b q,fro w' b q=fro w b q
variable{w:World}
def bK.up{M a:af}{c:World}(h:bK M w c)(d:∀b o,M b o->a b o):bK a w c:=(Cc a w).trans h λb o e=>.inr (d b o e)
def HG(w:World):bK NO w w.drew:=⟨rfl,rfl,rfl,I3 _,λ_ _ _=>rfl,λ_ _ _ _=>rfl,λ_ _ _ _=>rfl⟩
variable{news:List Value}{n:Nat}
def L0{k:Nat}{zs:List Value}(B:i<n)(a:∀q,q<n*k->∃z,cel w g q=some z)(H:news.length=(n - (i+1))*k)(d:∀t u,news[t]? = some u->cel w g ((i+1)*k+t)=some u)(J:zs.length=k)(l:∀v∈zs,v.oneCell'=true) :
  LW w ((w.drew.setCells g (i*k) news).setCells g ((n - 1)*k) zs) g k n i:=by
 have K:i*k+(n - (i+1))*k=(n - 1)*k:=by rw[<-Nat.add_mul];congr 1;omega
 have L:(n - 1)*k+k=n*k:=by rw[show(n - 1)*k+k=(n - 1+1)*k by rw[Nat.add_mul,Nat.one_mul]];congr 1;omega
 have M:(i+1)*k=i*k+k:=by rw[Nat.add_mul,Nat.one_mul]
 have r:∀b q,cel w.drew b q=cel w b q:=λ_ _=>rfl
 have c:∀j,j<news.length->∃z,cel w.drew g (i*k+j)=some z:=λj p=>by rw[r];exact a _ ω
 have C:∀q,q<n*k->∃z,cel (w.drew.setCells g (i*k) news) g q=some z:=λq y=>by
  by_cases h:i*k<=q/\q<i*k+news.length
  ·have:=du c (O2 (show q - i*k<news.length by omega))
   rw[show i*k+(q - i*k)=q by omega]at this;exact⟨_,this⟩
  rw[bZ (λx=>h x.2),r];exact a q y
 refine⟨?_,λq y=>?_,λq D E=>?_,λq D E=>?_,λb q=>?_⟩
 ·have F:=iK (g:=g) (X:=λb o=>b=g/\o<n*k) news (i*k) w.drew λj p=>⟨rfl,ω⟩
  have G:=iK (g:=g) (X:=λb o=>b=g/\o<n*k) zs ((n - 1)*k) (w.drew.setCells g (i*k) news) λj p=>⟨rfl,ω⟩
  exact((HG w).up λ_ _ h=>h.elim).trans (F.trans G λ_ _ h=>.inr h) λ_ _ h=>.inr h
 ·rw[bZ ω,bZ ω];rfl
 ·rw[bZ ω]
  obtain⟨u,e⟩ : ∃u,news[q - i*k]? = some u:=⟨_,O2 ω⟩
  have f:=du c e;have A:=d _ u e;rw[show i*k+(q - i*k)=q by omega]at f;rw[show(i+1)*k+(q - i*k)=q+k by omega]at A;rw[f,A]
 ·obtain⟨u,e⟩ : ∃u,zs[q - (n - 1)*k]? = some u:=⟨_,O2 ω⟩
  have f:=du (w:=w.drew.setCells g (i*k) news) (o:=(n - 1)*k) (vs:=zs) (λj p=>C _ ω) e;rw[show(n - 1)*k+(q - (n - 1)*k)=q by omega]at f;exact⟨u,f,l u (C2 e)⟩
 rw[cZ,cZ];rfl
def D6(P:Program)(f k:Nat):Prop:=KX P f/\∀(w:World)(g n a i:Nat)(news:List Value),i<n->n<=a->news.length=(n - (i+1))*k->(∀t u,news[t]? = some u->cel w g ((i+1)*k+t)=some u)->(∀u∈news,u.oneCell'=true)->
 (∀q,q<n*k->(w.cell? ⟨g,q,none⟩).isSome=true/\w.frozen? ⟨g,q,none⟩ = false)->
 Calls P f #[.slice (some ⟨g,0,none⟩) n a,.int .i64 i,.int .i64 ((i+1:Nat):Int)] w λe c=>e=.returned (.slice (some ⟨g,0,none⟩) (n - 1) a)/\∃b:List Value,b.length=k/\(∀v∈b,v.oneCell'=true)/\c=(w.drew.setCells g (i*k) news).setCells g ((n - 1)*k) b
variable{f:Nat}
def HI{k:Nat}(hf:D6 P f k)(hi:i<rows.length)(hk:∀r∈rows,r.length=k)(hfr:QE rows) :
  aR P f false [.mut none [.s .own rows],.val none [I (i:Nat)],.val none [I ((i+1:Nat):Int)]] [.mut none [.x],.val none [I (i:Nat)],.val none [I ((i+1:Nat):Int)]] .one [oE (dele rows i)]:=by
 refine⟨hf.1,λw S V vs hS hV hVV hA=>?_⟩
 match vs,hA with
 | [v,v1,v2],⟨hA,hA1,hA2,_⟩=>
  have K:=(bI.rep1 (show bI w S (V 0) none [C.s .own rows] v from hA)).fresh ⟨.inl (λe=>by cases e),hfr⟩;have e1:v1=.int .i64 (i:Nat):=by
   have:=bI.rep1 (show bI w S NO none [C.v (.int .i64 (i:Nat))] v1 from hA1);cases this;rfl
  have e2:v2=.int .i64 ((i+1:Nat):Int):=by
   have:=bI.rep1 (show bI w S NO none [C.v (.int .i64 ((i+1:Nat):Int))] v2 from hA2);cases this;rfl
  subst e1 e2;have G:(dele rows i).length=rows.length - 1:=by unfold dele;simp;omega
  generalize O:C.s .own rows=cc at K;cases K with
  | nil _ o a ho=>cases O;simp at hi
  | own _ o g d n p rows' u f' ho hn H L hpos hF hu Y hd hc=>
   cases O;have hkk:d=k:=by rw[<-H _ (List.getElem_mem hi),<-hk _ (List.getElem_mem hi)]
   subst hkk;have hnk:n*d<=p*d:=O7 _ L;have j:∀q,q<p*d->∃z,cel w g q=some z/\z.oneCell'=true:=λq l=>(hF q l).2.1
   have e3:(i+1)*d+(n - (i+1))*d=n*d:=by rw[<-Nat.add_mul];congr 1;omega
   obtain⟨news,Z,hnw,hn1⟩ : ∃news:List Value,news.length=(n - (i+1))*d/\(∀t u,news[t]? = some u->cel w g ((i+1)*d+t)=some u)/\∀u∈news,u.oneCell'=true:=by
    refine⟨(List.range ((n - (i+1))*d)).map λt=>(cel w g ((i+1)*d+t)).getD undef,by simp,λt y W=>?_,λy hy=>?_⟩
    ·have hl:=(U2.1 W).1
     simp only[C1,List.length_range]at hl;rw[O3,Y6 hl]at W;obtain⟨z,A,-⟩:=j ((i+1)*d+t) ω;rw[I5,A]at W;rw[A];simpa using W
    obtain⟨t,W,rfl⟩:=O4.1 hy;have hl:=List.mem_range.1 W;obtain⟨z,A,hz1⟩:=j ((i+1)*d+t) ω;rw[A];exact hz1
   refine(hf.2 w g n p i news ω L Z hnw hn1 (λq l=>?_)).mono λe M ⟨he,zs,z1,z2,hw'⟩=>?_
   ·obtain⟨a1,⟨z,a2,a3⟩,a4⟩:=hF q ω
    exact⟨by show(cel w g q).isSome=true;rw[a2];rfl,X0 Prod.fst a4⟩
   have B:=L0 (w:=w) (by omega:i<n) (λq l=>by obtain⟨z,A,-⟩:=j q ω;exact⟨z,A⟩) Z hnw z1 z2;rw[<-hw']at B;have Q:∀q,q<p*d->V 0 g q:=λq l=>(hF q l).1
   have R:bK (λb o=>∃i,V i b o) w M:=B.keep.up λb o ⟨N,h2⟩=>⟨0,by rw[N];exact Q o ω⟩
   have e4:(n - 1)*d+d=n*d:=by rw[show(n - 1)*d+d=(n - 1+1)*d by rw[Nat.add_mul,Nat.one_mul]];congr 1;omega
   have D:∀q,q<p*d->∃z,cel M g q=some z/\z.oneCell'=true:=λq l=>by
    by_cases N:q<i*d
    ·rw[B.lo q N];exact j q l
    by_cases h2:q<(n - 1)*d
    ·rw[B.mid q ω h2];exact j _ ω
    by_cases h3:q<n*d
    ·exact B.hi q ω h3
    have J:=(hV 0 g q (Q q l)).1;rw[B.keep.cel g q J (λx=>h3 x.2)];exact j q l
   have hrow:cY M NO (V 0) [oE (dele rows i)] (λ_=>.slice (some ⟨g,0,none⟩) (n - 1) p):=by
    refine row1 ?_;by_cases A:dele rows i=[]
    ·rw[A]
     have hn0:n - 1=0:=by rw[A]at G;simp at G;omega
     rw[hn0];exact .V _ g 0 d 0 p [] (λ_=>undef) rfl (λr hr=>by cases hr) (W0 _) (λq l=>ω) (λa b r c F=>by simp at F)
    rw[yJ A];have T:0<n - 1:=by
     have:=List.length_pos_iff.2 A;omega
    obtain⟨σ,E⟩ : ∃σ:Nat->Nat,∀q,σ q=if q<i*d then q else q+d:=⟨_,λ_=>rfl⟩
    have s1:∀q,q<(n - 1)*d->σ q<n*d:=λq l=>by rw[E];split<;>omega
    have s2:∀q X,q≠X->σ q≠σ X:=λq X h=>by rw[E,E];split<;>split<;>omega
    have s3:∀q,q<(n - 1)*d->cel M g q=cel w g (σ q):=λq l=>by
     rw[E];split
     ·exact B.lo q ω
     exact B.mid q ω l
    refine .own _ .own g d (n - 1) p _ (λq=>(cel M g q).getD undef) (λq=>f' (σ q)) trivial (by rw[G];omega) (λr hr=>H r ((eI ..).subset hr)) ω T (λq l=>⟨Q q l,D q l,(B.fro g q).trans (hF q l).2.2⟩) (λq l=>?_) (λq l b o hb=>Y _ (s1 q l) b o hb) (λq X N h2 h3 b o h4 h5=>hd _ _ (s1 q N) (s1 X h2) (s2 q X h3) b o h4 h5) (λa b r c F hb=>?_)
    ·obtain⟨z,A,-⟩:=D q ω
     rw[A];rfl
    have hbk:b<d:=by
     have:=H r ((eI ..).subset (C2 F));rw[<-this];exact(U2.1 hb).1
    have hal:=(U2.1 F).1;rw[G]at hal;have U:a*d+b<(n - 1)*d:=fB ω hbk;obtain⟨a',h5,h6⟩ : ∃a',rows[a']? = some r/\σ (a*d+b)=a'*d+b:=by
     rw[E];unfold dele at F;by_cases N:a<i
     ·rw[V4 (by rw[V1];omega),List.getElem?_take,CC N]at F
      exact⟨a,F,CC (fB N hbk)⟩
     rw[W4 (by rw[V1];omega),V1,List.getElem?_drop]at F;rw[show i+1+(a - min i rows.length)=a+1 by omega]at F;have:i*d<=a*d:=O7 _ ω;refine⟨a+1,F,?_⟩;rw[C9 ω,Nat.add_mul,Nat.one_mul];omega
    have h7:=hc a' b r c h5 hb;have J:=Dz hn H h5 hb;have hfl:=fB J.1 J.2;have h8:(cel M g (a*d+b)).getD undef=u (a'*d+b):=by rw[s3 _ U,h6,hu _ hfl];rfl
    show eg M NO (f' (σ (a*d+b))) c ((cel M g (a*d+b)).getD undef);rw[h8,h6];refine h7.keep (λ_ _ h=>h.elim) λb' o' hb'=>?_
    obtain⟨v1,v2⟩:=Y _ hfl b' o' hb';exact⟨B.keep.cel b' o' (hV 0 b' o' v1).1 (λx=>v2 ⟨x.1,ω⟩),B.fro b' o'⟩
   exact⟨_,he,R,V 0,λ_=>NO,NO,λb o h=>.inl ⟨0,h⟩,λ_ _ _ h=>h.elim,λ_ _ h=>h.elim,λ_ _ _ _ _ h=>h.elim,λ_ _ _ _ h=>h.elim,λ_ _ _ h=>h.elim,λ_ _ _ h=>h.elim,rfl,hrow,⟨⟨rfl,λ_=>.slice (some ⟨g,0,none⟩) n p,rfl,row1 (.x _ _ rfl)⟩,trivial,trivial,trivial⟩⟩
  | _=>cases O
set_option maxRecDepth 100000
def Dq{cap k:Nat}(c:news.length=(n - (i+1))*k)(b:n<=cap)(d:i<n)(h:∀t u,news[t]? = some u->cel w g ((i+1)*k+t)=some u):∃A:Addr,(if cap=i+1 then some (⟨g,0,none⟩ : Addr) else some ⟨g,(i+1)*k,none⟩)=some A/\∀t u,news[t]? = some u->w.drew.cell? (A.add t)=some u:=by
 by_cases e:cap=i+1
 ·refine⟨⟨g,0,none⟩,by simp[e],λt u a=>?_⟩
  have f:news.length=0:=by rw[c,show n - (i+1)=0 by omega,Nat.zero_mul]
  rw[List.length_eq_zero_iff.1 f]at a;simp at a
 refine⟨⟨g,(i+1)*k,none⟩,by simp[e],λt u a=>?_⟩;rw[Addr.add_lit];exact h t u a
def N2:∀w,(zeroValue 74).run Tryz.prog w=.ok (.agg #[.int .i64 0,.int .i64 0,.int .i64 0,.int .i64 0]) w:=λ_=>by kernel_rfl
def GY:D6 Tryz.prog 99 4:=by
 refine⟨⟨_,Tryz.func99,by kernel_rfl,by kernel_rfl⟩,λw g n c i news r y o B C b=>?_⟩;obtain⟨A,X,a⟩:=Dq o y r B;have a:Hid (∀t u,news[t]? = some u->w.drew.cell? (A.add t)=some u):=a;have T:Hid (news.length=(n - (i+1))*4):=o;have Y:Hid (∀u∈news,u.oneCell'=true):=C;have Z:Hid (∀t,t<news.length->(w.drew.cell? ⟨g,0+i*4+t,none⟩).isSome=true/\w.drew.frozen? ⟨g,0+i*4+t,none⟩ = false):=λt ht=>by
  rw[Z6];exact b (i*4+t) ω
 obtain⟨p,d⟩ : ∃p,p=w.drew.setCells g (0+i*4) news:=⟨_,rfl⟩
 have K:∀q,q<n*4->(p.cell? ⟨g,q,none⟩).isSome=true/\p.frozen? ⟨g,q,none⟩ = false:=λq U=>by
  have D:∀j,j<news.length->∃z,cel w.drew g (0+i*4+j)=some z:=λj L=>by
   have:=(b (0+i*4+j) ω).1;exact Option.isSome_iff_exists.1 this
  refine⟨?_,by rw[d];exact(X0 Prod.fst (cZ g _ news w.drew g q)).trans (b q U).2⟩;rw[d];by_cases h:0+i*4<=q/\q<0+i*4+news.length
  ·have:=du D (O2 (show q - (0+i*4)<news.length by omega))
   rw[show 0+i*4+(q - (0+i*4))=q by omega]at this;show(cel _ g q).isSome=true;rw[this];rfl
  show(cel _ g q).isSome=true;rw[bZ (λx=>h x.2)];exact(b q U).1
 obtain⟨M,E,F,G⟩:=BP (P:=Tryz.prog) p 39 74 4 (.agg #[.int .i64 0,.int .i64 0,.int .i64 0,.int .i64 0]) Tryz.underlying39 N2 rfl (by intro v V;simp[Value.cells]at V;subst V;rfl) g ((i+(n - (i+1)))*4) (n - (i+(n - (i+1)))) ω (by decide) (λj L=>(K _ ω).1) (λj L=>(K _ ω).2);have k:Hid (M.length=(n - (i+(n - (i+1))))*4):=E;have H:Hid (∀v∈M,v.oneCell'=true):=F;have W:Hid (p=w.drew.setCells g (0+i*4) news):=d;have hic:i<=c:=ω
 have N:i+1<=c:=ω
 have O:¬i=i+1:=ω
 have Q:i+1<=n:=r;have l:n - 1=i+(n - (i+1)):=ω
 clear d K b B C o E F;rw[l];generalize L:i+1=j at X a T G k N O Q l |-;obtain⟨J,R,S⟩ : ∃J,Tryz.prog.info? 74=some J/\J.size=4:=by
  have h:=(su 74 _ rfl).1;cases e : Tryz.prog.info? 74 with
  | none=>rw[e]at h;cases h
  | some x=>rw[e]at h;simp only[I5,Z0,Prod.mk.injEq]at h;exact⟨x,rfl,h.2.1⟩
 have mixed : Tryz.prog.follows .mixedOrders=true:=by kernel_rfl
 go_enter Tryz.func99,Tryz.ntmps99
 go_wp2_with fail
 go_region_law_o (refine step_append_room rfl (.tmp 22) (.tmp 25) 39 rfl 74 J 4 Tryz.underlying39 R S g 0 i c (by simp[Act.eval,Act.put]) A (n - j) (c - j) news (by simp[Act.eval,Act.put]) T.out a.out Y.out ω Z.out ?_;rw[<-W.out])
 go_wp2
 go_ret
 refine⟨rfl,M,by have:=k.out;omega,H.out,?_⟩;rw[W.out,Z6]
def wP(xs:List aY)(i:Nat)(a:i<xs.length):zzB 99 false [.mut none [.s .own (xs.map (aY.enc .own))],.val none [I (i:Nat)],.val none [I ((i+1:Nat):Int)]] [.mut none [.x],.val none [I (i:Nat)],.val none [I ((i+1:Nat):Int)]] .one [oE ((dele xs i).map (aY.enc .own))]:=by
 have h:=HI GY (rows:=xs.map (aY.enc .own)) (i:=i) (by rw[C1];exact a) (aL λ_=>rfl) (aZ _ _ λx _=>aY.enc_fr x)
 rwa [show dele (xs.map (aY.enc .own)) i=(dele xs i).map (aY.enc .own) by simp[dele,C4,I4]]at h
def Gv:∀w,(zeroValue 175).run Tryz.prog w=.ok (.agg #[.int .i64 0,.int .i64 0,.int .i64 0]) w:=λ_=>by kernel_rfl
def DY:D6 Tryz.prog 102 3:=by
 refine⟨⟨_,Tryz.func102,by kernel_rfl,by kernel_rfl⟩,λw g n c i news r y o B C b=>?_⟩;obtain⟨A,X,a⟩:=Dq o y r B;have a:Hid (∀t u,news[t]? = some u->w.drew.cell? (A.add t)=some u):=a;have T:Hid (news.length=(n - (i+1))*3):=o;have Y:Hid (∀u∈news,u.oneCell'=true):=C;have Z:Hid (∀t,t<news.length->(w.drew.cell? ⟨g,0+i*3+t,none⟩).isSome=true/\w.drew.frozen? ⟨g,0+i*3+t,none⟩ = false):=λt ht=>by
  rw[Z6];exact b (i*3+t) ω
 obtain⟨p,d⟩ : ∃p,p=w.drew.setCells g (0+i*3) news:=⟨_,rfl⟩
 have K:∀q,q<n*3->(p.cell? ⟨g,q,none⟩).isSome=true/\p.frozen? ⟨g,q,none⟩ = false:=λq U=>by
  have D:∀j,j<news.length->∃z,cel w.drew g (0+i*3+j)=some z:=λj L=>by
   have:=(b (0+i*3+j) ω).1;exact Option.isSome_iff_exists.1 this
  refine⟨?_,by rw[d];exact(X0 Prod.fst (cZ g _ news w.drew g q)).trans (b q U).2⟩;rw[d];by_cases h:0+i*3<=q/\q<0+i*3+news.length
  ·have:=du D (O2 (show q - (0+i*3)<news.length by omega))
   rw[show 0+i*3+(q - (0+i*3))=q by omega]at this;show(cel _ g q).isSome=true;rw[this];rfl
  show(cel _ g q).isSome=true;rw[bZ (λx=>h x.2)];exact(b q U).1
 obtain⟨M,E,F,G⟩:=BP (P:=Tryz.prog) p 38 175 3 (.agg #[.int .i64 0,.int .i64 0,.int .i64 0]) Tryz.underlying38 Gv rfl (by intro v V;simp[Value.cells]at V;subst V;rfl) g ((i+(n - (i+1)))*3) (n - (i+(n - (i+1)))) ω (by decide) (λj L=>(K _ ω).1) (λj L=>(K _ ω).2);have k:Hid (M.length=(n - (i+(n - (i+1))))*3):=E;have H:Hid (∀v∈M,v.oneCell'=true):=F;have W:Hid (p=w.drew.setCells g (0+i*3) news):=d;have hic:i<=c:=ω
 have N:i+1<=c:=ω
 have O:¬i=i+1:=ω
 have Q:i+1<=n:=r;have l:n - 1=i+(n - (i+1)):=ω
 clear d K b B C o E F;rw[l];generalize L:i+1=j at X a T G k N O Q l |-;obtain⟨J,R,S⟩ : ∃J,Tryz.prog.info? 175=some J/\J.size=3:=by
  have h:=(su 175 _ rfl).1;cases e : Tryz.prog.info? 175 with
  | none=>rw[e]at h;cases h
  | some x=>rw[e]at h;simp only[I5,Z0,Prod.mk.injEq]at h;exact⟨x,rfl,h.2.1⟩
 have mixed : Tryz.prog.follows .mixedOrders=true:=by kernel_rfl
 go_enter Tryz.func102,Tryz.ntmps102
 go_wp2_with fail
 go_region_law_o (refine step_append_room rfl (.tmp 22) (.tmp 25) 38 rfl 175 J 3 Tryz.underlying38 R S g 0 i c (by simp[Act.eval,Act.put]) A (n - j) (c - j) news (by simp[Act.eval,Act.put]) T.out a.out Y.out ω Z.out ?_;rw[<-W.out])
 go_wp2
 go_ret
 refine⟨rfl,M,by have:=k.out;omega,H.out,?_⟩;rw[W.out,Z6]
def sO(xs:List ay)(i:Nat)(a:i<xs.length):zzB 102 false [.mut none [.s .own (xs.map (ay.enc .own))],.val none [I (i:Nat)],.val none [I ((i+1:Nat):Int)]] [.mut none [.x],.val none [I (i:Nat)],.val none [I ((i+1:Nat):Int)]] .one [oE ((dele xs i).map (ay.enc .own))]:=by
 have h:=HI DY (rows:=xs.map (ay.enc .own)) (i:=i) (by rw[C1];exact a) (aL λ_=>rfl) (aZ _ _ λx _=>ay.enc_fr x)
 rwa [show dele (xs.map (ay.enc .own)) i=(dele xs i).map (ay.enc .own) by simp[dele,C4,I4]]at h
def KU:∀w,(zeroValue 267).run Tryz.prog w=.ok (.agg #[.int .i64 0,.int .i64 0,.int .i64 0]) w:=λ_=>by kernel_rfl
def FV:D6 Tryz.prog 492 3:=by
 refine⟨⟨_,Tryz.func492,by kernel_rfl,by kernel_rfl⟩,λw g n c i news r y o B C b=>?_⟩;obtain⟨A,X,a⟩:=Dq o y r B;have a:Hid (∀t u,news[t]? = some u->w.drew.cell? (A.add t)=some u):=a;have T:Hid (news.length=(n - (i+1))*3):=o;have Y:Hid (∀u∈news,u.oneCell'=true):=C;have Z:Hid (∀t,t<news.length->(w.drew.cell? ⟨g,0+i*3+t,none⟩).isSome=true/\w.drew.frozen? ⟨g,0+i*3+t,none⟩ = false):=λt ht=>by
  rw[Z6];exact b (i*3+t) ω
 obtain⟨p,d⟩ : ∃p,p=w.drew.setCells g (0+i*3) news:=⟨_,rfl⟩
 have K:∀q,q<n*3->(p.cell? ⟨g,q,none⟩).isSome=true/\p.frozen? ⟨g,q,none⟩ = false:=λq U=>by
  have D:∀j,j<news.length->∃z,cel w.drew g (0+i*3+j)=some z:=λj L=>by
   have:=(b (0+i*3+j) ω).1;exact Option.isSome_iff_exists.1 this
  refine⟨?_,by rw[d];exact(X0 Prod.fst (cZ g _ news w.drew g q)).trans (b q U).2⟩;rw[d];by_cases h:0+i*3<=q/\q<0+i*3+news.length
  ·have:=du D (O2 (show q - (0+i*3)<news.length by omega))
   rw[show 0+i*3+(q - (0+i*3))=q by omega]at this;show(cel _ g q).isSome=true;rw[this];rfl
  show(cel _ g q).isSome=true;rw[bZ (λx=>h x.2)];exact(b q U).1
 obtain⟨M,E,F,G⟩:=BP (P:=Tryz.prog) p 37 267 3 (.agg #[.int .i64 0,.int .i64 0,.int .i64 0]) Tryz.underlying37 KU rfl (by intro v V;simp[Value.cells]at V;subst V;rfl) g ((i+(n - (i+1)))*3) (n - (i+(n - (i+1)))) ω (by decide) (λj L=>(K _ ω).1) (λj L=>(K _ ω).2);have k:Hid (M.length=(n - (i+(n - (i+1))))*3):=E;have H:Hid (∀v∈M,v.oneCell'=true):=F;have W:Hid (p=w.drew.setCells g (0+i*3) news):=d;have hic:i<=c:=ω
 have N:i+1<=c:=ω
 have O:¬i=i+1:=ω
 have Q:i+1<=n:=r;have l:n - 1=i+(n - (i+1)):=ω
 clear d K b B C o E F;rw[l];generalize L:i+1=j at X a T G k N O Q l |-;obtain⟨J,R,S⟩ : ∃J,Tryz.prog.info? 267=some J/\J.size=3:=by
  have h:=(su 267 _ rfl).1;cases e : Tryz.prog.info? 267 with
  | none=>rw[e]at h;cases h
  | some x=>rw[e]at h;simp only[I5,Z0,Prod.mk.injEq]at h;exact⟨x,rfl,h.2.1⟩
 have mixed : Tryz.prog.follows .mixedOrders=true:=by kernel_rfl
 go_enter Tryz.func492,Tryz.ntmps492
 go_wp2_with fail
 go_region_law_o (refine step_append_room rfl (.tmp 22) (.tmp 25) 37 rfl 267 J 3 Tryz.underlying37 R S g 0 i c (by simp[Act.eval,Act.put]) A (n - j) (c - j) news (by simp[Act.eval,Act.put]) T.out a.out Y.out ω Z.out ?_;rw[<-W.out])
 go_wp2
 go_ret
 refine⟨rfl,M,by have:=k.out;omega,H.out,?_⟩;rw[W.out,Z6]
def Ga(xs:List ax)(i:Nat)(a:i<xs.length):zzB 492 false [.mut none [.s .own (xs.map (ax.enc .own))],.val none [I (i:Nat)],.val none [I ((i+1:Nat):Int)]] [.mut none [.x],.val none [I (i:Nat)],.val none [I ((i+1:Nat):Int)]] .one [oE ((dele xs i).map (ax.enc .own))]:=by
 have h:=HI FV (rows:=xs.map (ax.enc .own)) (i:=i) (by rw[C1];exact a) (aL λ_=>rfl) (aZ _ _ λx _=>ax.enc_fr x)
 rwa [show dele (xs.map (ax.enc .own)) i=(dele xs i).map (ax.enc .own) by simp[dele,C4,I4]]at h
def yY(c:aB)(k:Nat)(a:Int)(g:bv c=true)(y:k<=3):zzA 257 false [.val (some 1) (aB.enc .V c),.val none [I (k:Nat)],.val none [I a]] (.tup [some 1,none]) (yh c k a):=by
 obtain⟨B,q⟩:=eL g;have r:aB.sml c:=⟨ω,λl u=>by have:=q l u;show l.length<=1048576;omega⟩
 have h:=H3 c k r;rw[g,O0 ω]at h;have t:=oX c r;have j:=Fp g k a;have n:=n8 (lz c k a) j;have b:=pJ (c:=c) (k:=k) ω;have w:=q _ (am (xs:=c.a) (i:=k) ω);have o:=Cg (lz c k a);rw[w7]at o;have d:=Er c k a;unfold yh at d |-;cases e:bv (lz c k a)<;>rw[e]at n
 ·have p:cput c k a=none:=by unfold cput;rw[C9 λx=>by have:=x.2.2.2;rw[Z2,e]at this;cases this]
  rw[p]at d |-;refine fO 35 [(4,267,[17,18,19,20,21,22,23,24,25,26,28,0,1,2,3,4,5,6,7,8,9,10,1000,1001,1002,11,12])] Tryz.func257 rfl ?_ (.inr d)
  repeat'(first|refine gP ?_|(conv=>whnf);first|with_reducible refine CD (aa b) ?_|refine CB ?_|refine CD (dC b) ?_|refine CH rfl (dC b) rfl ?_|refine C8 (h) ?_|refine C8 (t) ?_|refine Lq.one rfl rfl (aa b) rfl (I1 rfl) rfl rfl ?_|refine CH rfl (aa b) rfl ?_|refine CP rfl rfl (dC b) rfl (I1 rfl) (show [C.s dJ.own ((c.a.map (aF .own)).set k (aF .own (nth c.a k++[a])))]=_ from by simp only[List.set_cons_zero,List.set_set,Z2];rfl) ?_|refine CY (aL λ_=>rfl) rfl (by simp;omega) (by decide) (fp _ _ _) ?_|refine CF (n) ⟨⟨rfl,o⟩,trivial⟩ ?_)
  rfl
 have p:cput c k a=some (lz c k a):=by unfold cput;rw[CC ⟨g,ω,ω,by rw[Z2];exact e⟩,Z2]
 rw[p]at d |-;rw[show(some (lz c k a)).getD c=lz c k a from rfl,w7]at d |-;refine fO 35 [(4,267,[17,18,19,20,21,22,23,24,25,26,28,0,1,2,3,4,5,6,7,8,9,10,1000,1001,1002,11,12])] Tryz.func257 rfl ?_ (.inr d)
 repeat'(first|refine gP ?_|(conv=>whnf);first|with_reducible refine CD (aa b) ?_|refine CB ?_|refine CD (dC b) ?_|refine CH rfl (dC b) rfl ?_|refine C8 (h) ?_|refine C8 (t) ?_|refine Lq.one rfl rfl (aa b) rfl (I1 rfl) rfl rfl ?_|refine CH rfl (aa b) rfl ?_|refine CP rfl rfl (dC b) rfl (I1 rfl) (show [C.s dJ.own ((c.a.map (aF .own)).set k (aF .own (nth c.a k++[a])))]=_ from by simp only[List.set_cons_zero,List.set_set,Z2];rfl) ?_|refine CY (aL λ_=>rfl) rfl (by simp;omega) (by decide) (fp _ _ _) ?_|refine CF (n) ⟨⟨rfl,o⟩,trivial⟩ ?_)
 rfl
def GA(c:Nat)(W:World):Calls Tryz.prog 256 #[.slice none 0 c] W λe g=>∃B q h,e=.returned (.slice B 0 0)/\g=Sort.grow (W.drewN q) h:=by
 have q22:∀(w:World)(a:Option Addr)(n c b d:Nat),(binOp .eql 44 (.slice a n c) (.slice none b d)).run Tryz.prog w=.ok (.bool a.isNone) w:=λw a n c b d=>Lib.run_eql_slice_nil w _ _ a n c b d Tryz.underlying44
 go_enter Tryz.func256,Tryz.ntmps256
 go_wp2
 go_ret
 exact⟨none,0,#[],rfl,by simp[Sort.grow,World.drewN]⟩
def FJ(a:Addr)(c:Nat)(W:World):Calls Tryz.prog 256 #[.slice (some a) 0 c] W λe g=>∃B q h,e=.returned (.slice B 0 0)/\g=Sort.grow (W.drewN q) h:=by
 have q22:∀(w:World)(a:Option Addr)(n c b d:Nat),(binOp .eql 44 (.slice a n c) (.slice none b d)).run Tryz.prog w=.ok (.bool a.isNone) w:=λw a n c b d=>Lib.run_eql_slice_nil w _ _ a n c b d Tryz.underlying44
 go_enter Tryz.func256,Tryz.ntmps256
 go_wp2
 go_ret
 exact⟨some ⟨W.heap.size,0,none⟩,0,#[.cells #[] 190],rfl,by rw[Sort.alloc_eq_grow];rfl⟩
def tc(xs:List aO)(o:xs.length<=1048576):zzA 256 false [.val none (cB .V xs)] .one (cB .own xs):=by
 by_cases d:xs=[]
 ·subst d
  refine⟨⟨_,Tryz.func256,by kernel_rfl,by kernel_rfl⟩,λw S p t g=>?_⟩
  match p,g with
  | [v],⟨g,_⟩=>
   have c:=bI.rep1 (show bI w S NO none [C.s .V []] v from g);obtain⟨l,b,rfl⟩:=c.slice;have r:Calls Tryz.prog 256 #[.slice l 0 b] w λe n=>∃B q i,e=.returned (.slice B 0 0)/\n=Sort.grow (w.drewN q) i:=by
    cases l with
    | none=>exact GA b w
    | some a=>exact FJ a b w
   refine r.mono λe n ⟨B,q,i,d,j⟩=>?_
   subst j;exact⟨.slice B 0 0,d,xX w q i,NO,NO,λ_ _ h=>h.elim,λ_ _ h=>h.elim,λ_ _ h=>h.elim,rfl,row1 (.nil _ .own B trivial)⟩
 have k:xs.map (aO.enc .V)≠[]:=λe=>d (List.map_eq_nil_iff.1 e)
 refine fO 8 [] Tryz.func256 rfl ?_ (.inr (oT _))
 repeat'(first|refine gP ?_|(conv=>whnf);first|refine CB ?_|refine Nn.mk k ?_|refine CQ (λ_=>rfl) (λ_=>rfl) o (by decide) ?_)
 rfl
def DJ(q:b8)(a:aO)(F:q.a1.length<=4096)(i:fR q=true)(d:0<=a.d/\a.d<=3/\0<=a.Addr/\0<=a.b6)(o:∀y∈q.a1,y.b6<=a.b6)(p:∀y∈q.a1,y.Addr≠a.Addr) :
  zzA 108 false [.val (some 2) (b8.enc .V q),.val (some 3) (aO.enc .V a)] (.tup [some 2,none]) (N5 q a):=by
 have b:b8.sml q:=⟨ω,λ_ _=>trivial⟩
 have r:=qo q b;have j:=vw q b;rw[i]at j;have l:=sR q.a1 a ω;have t:q.a1.length=0\/(nth q.a1 (q.a1.length - 1)).b6<=a.b6:=by
  by_cases e:q.a1.length=0
  ·exact .inl e
  exact .inr (o _ (am ω))
 have g:me q.a1 a=true:=by
  unfold me;rw[O0 ⟨d.1,d.2.1,d.2.2.1,d.2.2.2,t⟩,show q.a1.any (dZ a.Addr)=false by rw[List.any_eq_false];intro y u;unfold dZ;simpa using p y u];rfl
 rw[g]at l;have w:=(iW.1 i).2.2.2;have h:=Ja q a;have c:=xy q.c0 (q.a1++[a]);simp only[U3,List.length_singleton]at c;have G:(q.a1++[a]).length=q.a1.length+1:=by simp
 refine fO 51 [(6,7,[28,29,30,31,32,33,34])] Tryz.func108 rfl ?_ (.inr h)
 repeat'(first|refine gP ?_|(conv=>whnf);first|refine CB ?_|refine C8 (r) ?_|refine C8 (j) ?_|refine C8 (l) ?_|refine CY (aL λ_=>rfl) rfl (by simp;omega) (by decide) (fp (aO.enc .own) q.a1 a) ?_)
 (conv=>whnf)
 refine Lp.fz 6 (ι:=Nat) (λk=>[(2,.H .box (b8.enc .V q)),(4,.H .box [I 0,.z]),(6,.H .box (b8.enc .V ⟨q.c0,q.a1++[a]⟩)),(7,.H .one [I (k:Nat)])]) (λk=>k<=iH q.c0 (q.a1++[a])) (λk=>iH q.c0 (q.a1++[a]) - k) 0 ?_ (W0 _) λk H=>?_
 ·(repeat'(first|exact trivial|rfl|exact CL rfl (show L9 (ef (b8.enc .own ⟨q.c0,q.a1++[a]⟩)) (b8.enc .V ⟨q.c0,q.a1++[a]⟩) by rw[b8.enc_fz];exact ly _)|refine CL ?_ ?_))
 have B:((q.a1++[a]).drop k).length<=5000:=by rw[V3];omega
 have C:((q.a1++[a]).take k).length<=5000:=by rw[V1];omega
 have n:=pC ((q.a1++[a]).drop k) ⟨ω,λ_ _=>trivial⟩;by_cases D:k<iH q.c0 (q.a1++[a])
 ·have E:q.c0<quarCells ((q.a1++[a]).drop k) ((q.a1++[a]).drop k).length:=ur D
  repeat'(first|refine gE ?_|(conv=>whnf);first|refine CB ?_|refine Ca k rfl (by rw[C1];show k<=(q.a1++[a]).length;omega) (aL λ_=>rfl) I4 ?_|refine C8 (n) ?_|refine CB ?_)
  ((conv=>whnf);refine CE (k+1) ω ω ?_;(exact wB))
 obtain rfl:k=iH q.c0 (q.a1++[a]):=ω
 have E:quarCells ((q.a1++[a]).drop (iH q.c0 (q.a1++[a]))) ((q.a1++[a]).drop (iH q.c0 (q.a1++[a]))).length<=q.c0:=vZ w.1 _
 repeat'(first|refine gE ?_|(conv=>whnf);first|refine CB ?_|refine Ca (iH q.c0 (q.a1++[a])) rfl (by rw[C1];show iH q.c0 (q.a1++[a])<=(q.a1++[a]).length;omega) (aL λ_=>rfl) I4 ?_|refine CX (iH q.c0 (q.a1++[a])) rfl (by rw[C1];show iH q.c0 (q.a1++[a])<=(q.a1++[a]).length;omega) (aL λ_=>rfl) C4 ?_|refine C8 (n) ?_|refine C8 (tc ((q.a1++[a]).take (iH q.c0 (q.a1++[a]))) ω) ?_|refine C8 (tc ((q.a1++[a]).drop (iH q.c0 (q.a1++[a]))) ω) ?_)
 rfl
def Lz(h:ab)(p:Int):zzA 187 false [.val (some 24) (ab.enc .V h),.val none [I p]] .one [B (fg h p)]:=by
 cases e:h.u
 all_goals
  have b:ab.enc .V h=(ab.enc .V h).set 18 (B h.u):=rfl;rw[e]at b;rw[b];refine fO 23 [] Tryz.func187 rfl ?_
  repeat'(first|refine gP ?_|(conv=>whnf);first|with_reducible (first|refine Bf.D (λa=>?_) (λa=>?_)|refine Bf.E (λa=>?_) (λa=>?_)|refine Bf.N (λa=>?_) (λa=>?_))|refine CB ?_)
  all_goals exact X0 (λz=>[B z]) ((by unfold fg;rw[e];first|(simp[*];done)|(simp[*];rw[Y4];simp;try omega)|(rw[Y4];simp[*];try omega)))
def BI(h:ab):zzA 71 false [.val (some 24) (ab.enc .V h)] .one [I (fe h:Nat)]:=by
 refine fO 9 [] Tryz.func71 rfl ?_
 repeat'(first|refine gP ?_|(conv=>whnf);first|refine CB ?_)
 rfl
def dL(c:C):P4 c c:=(ly [c]).1
def cE(h:ab)(s l o:C):List C:=[.s .own (h.G.F.W.U.map (aF .own)),.s .own (h.G.F.W.a9.map (rB .own)),.s .own (h.G.F.R.O.map (bh.enc .own)),I h.G.Calls,.s .own (h.G.a0.map (rI .own)),.s .own (h.q.map (a7.enc .own)),s,l,o,.s .own (h.S.map (aB.enc .own)),.s .own (h.w.T.map (cb .own)),.s .own (h.w.y.map (aF .own)),I h.a6.c0,.s .own (h.a6.a1.map (aO.enc .own)),I h.c1,I h.b3,I h.c4,I h.b,B h.u,I h.Z.Y.a5,I h.Z.Y.a4,.s .own (h.Z.Y.U.map (rI .own)),I h.Z.b2,I h.Z.b]
def oS(h:ab):C:=oE (h.K.map (ax.enc .own))
def oL(h:ab):C:=oE (h.J.map (ay.enc .own))
def oO(h:ab):C:=oE (h.M.map (aY.enc .own))
def gJ(h:ab):List C:=cE h (oS h) (oL h) (oO h)
def N0(rows:List (List C)):fz (oE rows)=fz (.s .own rows):=by cases rows<;>rfl
def qq : oE rows=.s .own rows\/(rows=[]/\oE rows=.s .V []):=by cases rows with|nil=>exact .inr ⟨rfl,rfl⟩|cons=>exact .inl rfl
def Tg(h:ab){s l o:C}(a:fz s=.s .V (h.K.map (ax.enc .V)))(b:fz l=.s .V (h.J.map (ay.enc .V)))(c:fz o=.s .V (h.M.map (aY.enc .V))):ef (cE h s l o)=ab.enc .V h:=by
 have d:=ab.enc_fz h;have e:ef (cE h s l o)=(((ef (ab.enc .own h)).set 6 (fz s)).set 7 (fz l)).set 8 (fz o):=rfl;rw[e,d,a,b,c];rfl
def Tj(h:ab):fz (oS h)=.s .V (h.K.map (ax.enc .V)):=(N0 _).trans (xG _)
def QK(h:ab):fz (oL h)=.s .V (h.J.map (ay.enc .V)):=(N0 _).trans (uB _)
def Ta(h:ab):fz (oO h)=.s .V (h.M.map (aY.enc .V)):=(N0 _).trans (vU _)
def vV(h:ab):ef (gJ h)=ab.enc .V h:=Tg h (Tj h) (QK h) (Ta h)
def H9(h:QE rows):Rn (oE rows):=by cases rows with|nil=>exact⟨.inr rfl,trivial⟩|cons r a=>exact⟨.inl λe=>(by cases e),h⟩
def jE(h:ab):gW (gJ h):=by
 have a:=ab.enc_fr h;simp only[ab.enc,gW]at a;unfold gJ cE;simp only[gW];refine⟨a.1,a.2.1,a.2.2.1,a.2.2.2.1,a.2.2.2.2.1,a.2.2.2.2.2.1,H9 ?_,H9 ?_,H9 ?_,a.2.2.2.2.2.2.2.2.2⟩
 ·exact a.2.2.2.2.2.2.1.2
 ·exact a.2.2.2.2.2.2.2.1.2
 exact a.2.2.2.2.2.2.2.2.1.2
def Hk{S Y:af}{v:Value}(h:eg w S Y (.s .own rows) v):eg w S Y (oE rows) v:=by
 cases rows with
 | cons=>exact h
 | nil=>
  cases h with
  | nil _ o a d=>exact .nil _ .V a trivial
  | own _ o g k n e rows u f d i j b c l p q r t=>simp at i;omega
def M4{S Y:af}{u:Nat->Value}(d:cY w S Y (ab.enc .own h) u):cY w S Y (gJ h) u:=by
 obtain⟨f,b,e,g⟩:=d;refine⟨f,λj c a=>?_,e,g⟩;have i:gJ h=(((ab.enc .own h).set 6 (oS h)).set 7 (oL h)).set 8 (oO h):=rfl;rw[i]at a;by_cases k:j=8
 ·subst k
  have:c=oO h:=by simpa[ab.enc] using a.symm
  rw[this];exact Hk (b 8 _ rfl)
 by_cases l:j=7
 ·subst l
  have:c=oL h:=by simpa[ab.enc] using a.symm
  rw[this];exact Hk (b 7 _ rfl)
 by_cases n:j=6
 ·subst n
  have:c=oS h:=by simpa[ab.enc] using a.symm
  rw[this];exact Hk (b 6 _ rfl)
 rw[List.getElem?_set_ne ω,List.getElem?_set_ne ω,List.getElem?_set_ne ω]at a;exact b j c a
def yo(h:ab)(a:ab.sml h):zzA 62 false [.val (some 24) (ab.enc .V h)] .agg (gJ h):=by
 obtain⟨b,c⟩:=zl h a;refine⟨b,λw S d g i=>(c w S d g i).mono λe w1 j=>?_⟩;obtain⟨v,k,l,X,n,o,p,q,r,t⟩:=j;exact⟨v,k,l,X,n,o,p,q,r,M4 t⟩
def Kh(h:ab)(s l o:C)(a:Int)(k:Nat)(v:Int)(b:0<=a):cE {h with G:=dN h.G a (k+1)} s l o=(cE {h with G:=dN h.G a k} s l o).set 0 (.s .own (((dN h.G a k).F.W.U.map (aF .own)).set (ac h.G.F.R (a / 16)).e.toNat ((aF .own (iz (nth h.G.F.W.U (co h.G a)) (a % 16).toNat k)).set 0 (.s .own (((iz (nth h.G.F.W.U (co h.G a)) (a % 16).toNat k).map (rI .own)).set (a % 16+k).toNat (splice (rI .own v) 0 [I 0])))))):=by
 have e:(a % 16+k).toNat=(a % 16).toNat+k:=ω
 rw[e];simp[cE,dN,I6,iz,aF,splice,co]
 rfl
def o6(h:ab)(s l o:C)(a:Int)(n:Nat)(p:aA h.G=true)(e:0<=a/\a<512)(r:0<=(ac h.G.F.R (a / 16)).e/\(ac h.G.F.R (a / 16)).e<h.G.F.W.U.length)(y:a % 16+n<=16)(t:(nth h.G.F.W.U (co h.G a)).length=16) :
  zzB 105 false [.ptr (cE h s l o),.val none [I a],.val none [I (n:Nat)]] [.ptr (cE {h with G:=dN h.G a n} s l o),.val none [I a],.val none [I (n:Nat)]] (.tup []) []:=by
 have g:=bj p;have w:=eX h.G.F.R (a / 16) g.1.2;have c:co h.G a<h.G.F.W.U.length:=by unfold co;omega
 refine fM 36 [] [] [(0,0),(0,0),(0,0)] Tryz.func105 rfl (λu q=>?_) (.inr trivial)
 repeat'(first|refine gP ?_|(conv=>whnf);first|refine CB ?_|refine CO (by decide) ?_|refine CM (kD e) ?_|refine CF (w) ⟨⟨rfl,CZ _⟩,⟨rfl,rfl⟩,trivial⟩ ?_)
 rw[show cE h s l o=cE {h with G:=dN h.G a 0} s l o by rw[D2 h a c]]
 (conv=>whnf)
 refine CG (ι:=Nat) (λk=>[(0,.H .box (cE {h with G:=dN h.G a k} s l o)),(1,.H .one [I (a)]),(2,.H .one [I ((n:Nat):Int)]),(6,.H .one [I ((ac h.G.F.R (a / 16)).e)]),(7,.H .one [I ((k:Nat):Int)])]) (λk=>k<=n) (λk=>n - k) (0) ?_ (W0 _) λk p=>?_
 ·exact wC
 have j:a.tmod 16=a % 16:=eG e.1;have b:(dN h.G a k).F.W.U[(ac h.G.F.R (a / 16)).e.toNat]? = some (iz (nth h.G.F.W.U (co h.G a)) (a % 16).toNat k):=X3 c;by_cases B:k<n
 ·have d:=ao (xs:=iz (nth h.G.F.W.U (co h.G a)) (a % 16).toNat k) (i:=(a % 16+k).toNat) (by rw[kW,t];omega)
  repeat'(first|refine gE ?_|(conv=>whnf);first|refine CB ?_|refine CO (by decide) ?_|refine CR j ?_|refine CN r.1 (aa b) ?_|refine CH rfl (aa b) rfl ?_|refine CN ω (aa d) ?_|refine Pu.two rfl rfl (aa b) rfl rfl rfl (aa d) rfl (I3 _) (Kh h s l o a k _ e.1) ?_)
  ((conv=>whnf);refine CE (k+1) ω ω ?_;(exact wC))
 obtain rfl:k=n:=ω
 repeat'(first|refine gE ?_|(conv=>whnf);first|refine CB ?_)
 refine CJ rfl rfl ?_;exact wC
def lr(h:ab)(r:a7)(n:Nat)(a:aA h.G=true)(e:h.G.Calls≠100000)(b:h.q.length<=1048576)(l:r.b0=n/\0<=r.At/\r.At<=1000/\n<=1000) :
  zzB 103 false [.ptr (gJ h),.val (some 2) (a7.enc .V r)] [.ptr (gJ {h with G:=unmN h.G r.At n,q:=(cn (fe h) h.q r).getD h.q}),.val (some 2) (a7.enc .V r)] (.tup []) []:=by
 have c:=a;have g:fe h<=32:=(bx.1 (aD.1 a).2.2.1).2.2;have d:=BI {h with G:=unmN h.G r.At n};rw[show fe {h with G:=unmN h.G r.At n} = fe h from(dS _ _ _).1]at d;have i:=zn (fe h:Nat) h.q r ⟨ω,ω⟩ ⟨b,λ_ _=>trivial⟩;refine fM 44 [] [(5,272,[29,30,31,32,33,34,35,36,37,38,39,28,40,41,42,43,0,1,2,3,4,5,6,7,8,9,10,11,12,13,14,15,16,1013])] [(0,0),(0,0)] Tryz.func103 rfl (λu q=>?_) (.inr trivial)
 repeat'(first|refine gP ?_|(conv=>whnf);first|refine CB ?_)
 (conv=>whnf)
 refine CG (ι:=Nat) (λk=>[(0,.H .box (gJ {h with G:=unmN h.G r.At k})),(3,.H .box (a7.enc .V r)),(4,.H .one [I ((r.At+k))])]) (λk=>k<=n) (λk=>n - k) (0) ?_ (W0 _) λk a=>?_
 ·exact wC
 by_cases o:k<n
 ·have j:=EC (unmN h.G r.At k) (r.At+k) (ik c _ _) (by rw[(jr _ _ _).1];exact e)
  repeat'(first|refine gE ?_|(conv=>whnf);first|refine CB ?_|refine CF (j) ⟨⟨rfl,CS _⟩,⟨rfl,rfl⟩,trivial⟩ ?_)
  ((conv=>whnf);refine CE (k+1) ω ω ?_;(exact wC))
 obtain rfl:k=n:=ω
 repeat'(first|refine gE ?_|(conv=>whnf);first|refine CB ?_|refine CF (d) ⟨⟨rfl,vV _⟩,trivial⟩ ?_|refine CF (i) ⟨⟨rfl,rfl⟩,⟨rfl,dR h.q⟩,⟨rfl,rfl⟩,trivial⟩ ?_|refine CB ?_)
 refine CJ rfl rfl ?_;exact wC
def mL{c a:C}(h:a=c):P4 c a:=by subst h;exact dL _
def Nm(k:ah)(p:Int):unmN k p 1=cy k p:=by show cy k (p+((0:Nat):Int))=_;rw[show p+((0:Nat):Int)=p by omega]
def sE(a:h.K≠[]):gJ h=cE h (.s .own (h.K.map (ax.enc .own))) (oL h) (oO h):=by
 unfold gJ oS;rw[yJ λe=>a (List.map_eq_nil_iff.1 e)]
def QY(h:ab):oL h=.s .own (h.J.map (ay.enc .own))\/(h.J=[]/\oL h=.s .V []):=by
 rcases qq (rows:=h.J.map (ay.enc .own)) with e|⟨a,b⟩
 ·exact .inl e
 exact .inr ⟨List.map_eq_nil_iff.1 a,b⟩
def gl{xs:List α}(h:i<xs.length):xs≠[]:=λe=>by subst e;cases h
def zQ(h:ab)(i:Nat)(j:aA h.G=true)(k:h.G.Calls≠100000)(b:h.q.length<=1048576)(c:i<h.K.length)(l:h.K.length<=1048576)(n:0<=(nth h.K i).Q/\(nth h.K i).Q<=31) :
  zzB 386 false [.ptr (gJ h),.val none [I (i:Nat)]] [.ptr (gJ (giveP h i)),.val none [I (i:Nat)]] (.tup []) []:=by
 have d:=ao c;have g:=Ga h.K i c;have a:=lr {h with K:=dele h.K i} ⟨(nth h.K i).Q,1⟩ 1 j k b ⟨rfl,n.1,by show(nth h.K i).Q<=1000;omega,ω⟩;rw[show unmN ({h with K:=dele h.K i} : ab).G (a7.mk (nth h.K i).Q 1).At 1=cy h.G (nth h.K i).Q from Nm _ _]at a;have o:gJ {h with K:=dele h.K i} = cE h (oE ((dele h.K i).map (ax.enc .own))) (oL h) (oO h):=rfl;rw[sE (gl c)];rcases qq (rows:=(dele h.K i).map (ax.enc .own)) with e|⟨-,e⟩
 all_goals
  rw[o]at a;rw[e]at g a;refine fM 28 [(492,[1,0,0]),(103,[2,0])] [] [(0,0),(0,0)] Tryz.func386 rfl (λu q=>?_) (.inr trivial)
  repeat'(first|refine gP ?_|(conv=>whnf);first|with_reducible refine CD (aa d) ?_|refine CB ?_|refine CH rfl (aa d) rfl ?_|refine CK (g) (.inl rfl) ?_|refine CK (a) (.inl rfl) ?_)
  refine CJ rfl rfl ?_;exact wB
def LC(c:aT h E)(d:i<h.K.length)(b:eC (nth h.K i) a):denotes h.K h.J a = ⟨1,i,cN (nth h.K i) a,0⟩:=by
 rw[ib c.L d ⟨b.1,b.2.1⟩];unfold nX;rw[b.2.2.2,b.2.2.1];rfl
def v7(h:ab)(E:List Int)(a:Int)(b:aT h (a::E))(G:h.G.Calls≠100000):zzB 247 false [.ptr (gJ h),.val none [I a]] [.ptr (gJ (freeA h a)),.val none [I a]] (.tup []) []:=by
 obtain⟨c,t,H⟩:=b.at (b.hin a (Z1 ..));have J:=(b.hin a (Z1 ..)).bd b;have w:=b.lens;have K:=w.spans;have M:=w.larges;unfold freeA;generalize se h a=i at c t;have l:=b.L.sok _ (am c);have N:=aE l;have d:=ao c;have j:=iJ h.K h.J a ⟨ω,λ_ _=>trivial⟩ ⟨ω,λ_ _=>trivial⟩;rw[LC b c t]at j;have y:=yZ (nth h.K i) (cN (nth h.K i) a) l t.2.2.2;have P:=b.give c t;have n:=Lz (clrS h i a) (nth h.K i).Q;rw[show fg (clrS h i a) (nth h.K i).Q=fg h (nth h.K i).Q from rfl]at n;have o:i<(clrS h i a).K.length:=by unfold clrS;simp only[U1];exact c
 have B:(nth (clrS h i a).K i).Q=(nth h.K i).Q:=by unfold clrS;simp only[bw,true_and];rw[CC c];rfl
 have p:=zQ (clrS h i a) i b.ker G (by show h.q.length<=_;have:=w.free;omega) o (by unfold clrS;simp only[U1];omega) (by rw[B];omega);have g:gJ (clrS h i a)=cE h (.s .own ((h.K.map (ax.enc .own)).set i (ax.enc .own (kq (nth h.K i) (cN (nth h.K i) a))))) (oL h) (oO h):=by
  rw[sE (gl o)];show cE h (.s .own ((h.K.set i _).map _)) (oL h) (oO h)=_;rw[I6]
 have r:=vV (clrS h i a);rw[g]at r p;have k:((h.K.map (ax.enc .own)).set i (ax.enc .own (kq (nth h.K i) (cN (nth h.K i) a))))[i]? = some (ax.enc .own (kq (nth h.K i) (cN (nth h.K i) a))):=og c;rw[sE (gl c)];have C:=QK h;unfold freeS;rcases QY h with e|⟨D,e⟩
 all_goals
  try rw[D]at j
  rw[e]at p r C g |-;by_cases F:(kq (nth h.K i) (cN (nth h.K i) a)).b1=0
  ·cases O:fg h (nth h.K i).Q<;>rw[O]at n
   ·rw[CC ⟨F,rfl⟩]
    refine fM 64 [(386,[2,0])] [(0,11,[6,7,8,9,10,11,12,13,14,15,4]),(2,277,[20,21,22,23,24,25,26,27,28,29,30,31,32,33,34,35,36,19,37,38,39,0,1,2,3,4,5,6,7,8,9,10,11,12,13,14,15,16,17,18,19,20,21,1019]),(3,9,[40,41,42,43,44,45,46,47,5]),(4,9,[48,49,50,51,52,53,54,55,56])] [(0,0),(0,0)] Tryz.func247 rfl (λu q=>?_) (.inr trivial)
    repeat'(first|refine gB ?_|(conv=>whnf);first|refine CB ?_|refine CF (j) ⟨⟨rfl,eE _⟩,⟨rfl,iE _⟩,⟨rfl,rfl⟩,trivial⟩ ?_|refine CF (j) ⟨⟨rfl,eE _⟩,⟨rfl,rfl⟩,⟨rfl,rfl⟩,trivial⟩ ?_|refine CD (aa d) ?_|refine CD k ?_|refine CH rfl (aa d) rfl ?_|refine CH rfl k rfl ?_|refine C8 (y) ?_|refine CB ?_|refine CP rfl rfl (aa d) rfl (I1 rfl) rfl ?_|refine CF (n) ⟨⟨rfl,r⟩,⟨rfl,rfl⟩,trivial⟩ ?_|refine CK (p) (.inl rfl) ?_)
    refine CJ rfl rfl ?_;exact wB
   rw[C9 (λx=>by cases x.2),g];refine fM 64 [(386,[2,0])] [(0,11,[6,7,8,9,10,11,12,13,14,15,4]),(2,277,[20,21,22,23,24,25,26,27,28,29,30,31,32,33,34,35,36,19,37,38,39,0,1,2,3,4,5,6,7,8,9,10,11,12,13,14,15,16,17,18,19,20,21,1019]),(3,9,[40,41,42,43,44,45,46,47,5]),(4,9,[48,49,50,51,52,53,54,55,56])] [(0,0),(0,0)] Tryz.func247 rfl (λu q=>?_) (.inr trivial)
   repeat'(first|refine gB ?_|(conv=>whnf);first|refine CB ?_|refine CF (j) ⟨⟨rfl,eE _⟩,⟨rfl,iE _⟩,⟨rfl,rfl⟩,trivial⟩ ?_|refine CF (j) ⟨⟨rfl,eE _⟩,⟨rfl,rfl⟩,⟨rfl,rfl⟩,trivial⟩ ?_|refine CD (aa d) ?_|refine CD k ?_|refine CH rfl (aa d) rfl ?_|refine CH rfl k rfl ?_|refine C8 (y) ?_|refine CB ?_|refine CP rfl rfl (aa d) rfl (I1 rfl) rfl ?_|refine CF (n) ⟨⟨rfl,r⟩,⟨rfl,rfl⟩,trivial⟩ ?_|refine CK (p) (.inl rfl) ?_)
   refine CJ rfl rfl ?_;exact wB
  rw[C9 (λx=>F x.1),g];refine fM 64 [(386,[2,0])] [(0,11,[6,7,8,9,10,11,12,13,14,15,4]),(2,277,[20,21,22,23,24,25,26,27,28,29,30,31,32,33,34,35,36,19,37,38,39,0,1,2,3,4,5,6,7,8,9,10,11,12,13,14,15,16,17,18,19,20,21,1019]),(3,9,[40,41,42,43,44,45,46,47,5]),(4,9,[48,49,50,51,52,53,54,55,56])] [(0,0),(0,0)] Tryz.func247 rfl (λu q=>?_) (.inr trivial)
  repeat'(first|refine gB ?_|(conv=>whnf);first|refine CB ?_|refine CF (j) ⟨⟨rfl,eE _⟩,⟨rfl,iE _⟩,⟨rfl,rfl⟩,trivial⟩ ?_|refine CF (j) ⟨⟨rfl,eE _⟩,⟨rfl,rfl⟩,⟨rfl,rfl⟩,trivial⟩ ?_|refine CD (aa d) ?_|refine CD k ?_|refine CH rfl (aa d) rfl ?_|refine CH rfl k rfl ?_|refine C8 (y) ?_|refine CB ?_|refine CP rfl rfl (aa d) rfl (I1 rfl) rfl ?_|refine CF (n) ⟨⟨rfl,r⟩,⟨rfl,rfl⟩,trivial⟩ ?_|refine CK (p) (.inl rfl) ?_)
  refine CJ rfl rfl ?_;exact wB
def DH(h:ab)(E:List Int)(t:Nat)(a:Int)(b:aT h (a::E))(y:t<h.S.length)(F:h.G.Calls≠100000):zzB 109 false [.ptr (gJ h),.val none [I (t:Nat)],.val none [I a]] [.ptr (gJ (recyc t h a)),.val none [I (t:Nat)],.val none [I a]] (.tup []) []:=by
 obtain⟨d,B,G⟩:=b.at (b.hin a (Z1 ..));have H:=(b.hin a (Z1 ..)).bd b;have C:=b.lens;have J:=C.spans;have K:=C.larges;have o:=b.cach _ (am y);have p:=v7 h E a b F;unfold recyc;generalize se h a=i at d B;have r:=aE (b.L.sok _ (am d));have n:=ao d;have k:=ao y;have g:=iJ h.K h.J a ⟨ω,λ_ _=>trivial⟩ ⟨ω,λ_ _=>trivial⟩;rw[LC b d B]at g;have j:=yY (nth h.S t) (nth h.K i).d.toNat a o ω;rw[Int.toNat_of_nonneg r.2.2.1]at j;unfold yh at j;have l:∀c,gJ {h with S:=h.S.set t c} = (cE h (.s .own (h.K.map (ax.enc .own))) (oL h) (oO h)).set 9 (.s .own ((h.S.map (aB.enc .own)).set t (aB.enc .own c))):=λc=>by
  rw[sE (h:={h with S:=h.S.set t c}) (gl d)];show cE {h with S:=h.S.set t c} _ (oL h) (oO h)=_;simp[cE,I6]
 rw[sE (gl d)]at p |-;rcases QY h with e|⟨w,e⟩
 all_goals
  try rw[w]at g
  rw[e]at p l |-;cases D:cput (nth h.S t) (nth h.K i).d a with
  | none=>
   rw[D]at j;refine fM 54 [(247,[2,0])] [(0,11,[9,10,11,12,13,14,15,16,17,18,6]),(2,278,[23,24,25,26,27,28,29,30,31,32,33,34,35,36,37,38,39,40,22,41,42,7,0,1,2,3,4,5,6,7,8,9,10,11,12,13,14,15,16,17,18,19,20,21,22,1020,23]),(4,6,[44,45,46,47,48,49])] [(0,0),(0,0),(0,0)] Tryz.func109 rfl (λu q=>?_) (.inr trivial)
   repeat'(first|refine gB ?_|(conv=>whnf);first|refine CB ?_|refine CF (g) ⟨⟨rfl,eE _⟩,⟨rfl,iE _⟩,⟨rfl,rfl⟩,trivial⟩ ?_|refine CF (g) ⟨⟨rfl,eE _⟩,⟨rfl,rfl⟩,⟨rfl,rfl⟩,trivial⟩ ?_|refine CD (aa n) ?_|refine CD (aa k) ?_|refine CH rfl (aa n) rfl ?_|refine CH rfl (aa k) rfl ?_|refine CF (j) ⟨⟨rfl,Cg _⟩,⟨rfl,rfl⟩,⟨rfl,rfl⟩,trivial⟩ ?_|refine CB ?_|refine CK (p) (.inl rfl) ?_)
   refine CJ rfl rfl ?_;exact wB
  | some c=>
   rw[D]at j;simp only;rw[l];refine fM 54 [(247,[2,0])] [(0,11,[9,10,11,12,13,14,15,16,17,18,6]),(2,278,[23,24,25,26,27,28,29,30,31,32,33,34,35,36,37,38,39,40,22,41,42,7,0,1,2,3,4,5,6,7,8,9,10,11,12,13,14,15,16,17,18,19,20,21,22,1020,23]),(4,6,[44,45,46,47,48,49])] [(0,0),(0,0),(0,0)] Tryz.func109 rfl (λu q=>?_) (.inr trivial)
   repeat'(first|refine gB ?_|(conv=>whnf);first|refine CB ?_|refine CF (g) ⟨⟨rfl,eE _⟩,⟨rfl,iE _⟩,⟨rfl,rfl⟩,trivial⟩ ?_|refine CF (g) ⟨⟨rfl,eE _⟩,⟨rfl,rfl⟩,⟨rfl,rfl⟩,trivial⟩ ?_|refine CD (aa n) ?_|refine CD (aa k) ?_|refine CH rfl (aa n) rfl ?_|refine CH rfl (aa k) rfl ?_|refine CF (j) ⟨⟨rfl,Cg _⟩,⟨rfl,rfl⟩,⟨rfl,rfl⟩,trivial⟩ ?_|refine CB ?_|refine CP rfl rfl (aa k) rfl (I1 rfl) rfl ?_)
   refine CJ rfl rfl ?_;exact wB
def Kv(c:aB)(k:Nat):aB:=⟨c.a.set k []⟩
def P7(c:aB)(k:Nat):aB.enc .own (Kv c k)=[.s .own ((c.a.map (aF .own)).set k (aF .own []))]:=by simp[aB.enc,Kv,I6]
def LO(xs:List Int):([]:List Int).map (rI .V)=(xs.map (rI .V)).drop xs.length:=by rw[List.drop_eq_nil_of_le (by rw[C1];omega)];rfl
def N6(xs:List Int):xs.map (rI .V)=(xs.map (rI .V)).take xs.length:=by rw[I7 (by rw[C1];omega)]
def TC(c:aB)(k:Nat):List C:=aB.enc .own (Kv c k)++aF .own (nth c.a k)
def Rh(c:aB)(k:Nat):gW (TC c k):=aQ (aB.enc_fr _) (bM _)
def vL(c:aB)(k:Nat)(d:bv c=true)(p:k<=3):zzA 522 false [.val (some 1) (aB.enc .V c),.val none [I (k:Nat)],.val none [I 8]] (.tup [some 1,none]) (TC c k):=by
 obtain⟨q,e⟩:=eL d;have g:aB.sml c:=⟨ω,λl j=>by have:=e l j;show l.length<=1048576;omega⟩
 have h:=x5 c k g;rw[d,O0 ω]at h;have n:=iM c g;have a:=pJ (c:=c) (k:=k) ω;have o:=e _ (am (xs:=c.a) (i:=k) ω);have b:=Rh c k;unfold TC at b |-;rw[P7]at b |-;refine fO 52 [(5,268,[29,30,31,32,33,34,35,36,37,38,39,41,0,1,2,3,4,5,6,7,8,9,10,11,1000,1001,1002,12,13]),(6,265,[42,43,44,45,46,47,48,49,50,0,1,2,3,4,5,6,7,8,9,1000,10,11])] Tryz.func522 rfl ?_ (.inr b)
 repeat'(first|refine gP ?_|(conv=>whnf);first|with_reducible refine CD (aa a) ?_|refine CB ?_|refine CH rfl (aa a) rfl ?_|refine C8 (h) ?_|refine C8 (n) ?_|refine CR (z:=((nth c.a k).length:Int)) (by simp;omega) ?_|refine Ca (nth c.a k).length rfl (by rw[C1];omega) (aL λ_=>rfl) (LO _) ?_|refine CX (nth c.a k).length rfl (by rw[C1];omega) (aL λ_=>rfl) (N6 _) ?_|refine CB ?_|refine CV (λ_=>rfl) (λ_=>rfl) (by simp) (by decide) ?_|refine CQ (λ_=>rfl) (λ_=>rfl) (by simp) (by decide) ?_|refine CV (λ_=>rfl) (λ_=>rfl) ω (by decide) ?_|refine CQ (λ_=>rfl) (λ_=>rfl) ω (by decide) ?_|refine CP rfl rfl (aa a) rfl (I1 rfl) rfl ?_)
 rfl
def p9{k:Int} : ∀{l s s2 c:List Int},(∀x∈s2,x∈s)->rA k s l=some c->(∀x∈s,x∈c)/\∃d,rA k s2 l=some d/\∀x∈d,x∈c
 | [],s,s2,c,h,e=>by
  simp only[rA,Z0]at e |-;subst e;exact⟨λ_ h=>h,s2,rfl,h⟩
 | a::l,s,s2,c,h,e=>by
  simp only[rA]at e |-;split at e
  ·rename_i g
   rw[CC (show good k s2 a from⟨g.1,g.2.1,g.2.2.1,λx=>g.2.2.2 (h a x)⟩)];obtain⟨f,i⟩:=p9 (l:=l) (s:=s++[a]) (s2:=s2++[a]) (λx b=>by
     rcases C3.1 b with b|b
     · exact C3.2 (.inl (h x b))
     exact C3.2 (.inr b)) e
   exact⟨λx b=>f x (C3.2 (.inl b)),i⟩
  cases e
def uo:∀{a:List (List Int)}{k:Nat}{s s2:List Int},(∀x∈s2,x∈s)->(gy k s a).isSome=true->(gy k s2 a).isSome=true
 | [],_,_,_,_,_=>rfl
 | l::a,k,s,s2,h,e=>by
  simp only[gy,f6]at e |-;split at e
  ·rename_i g
   rw[CC g];cases b:rA k s l with
   | none=>rw[b]at e;cases e
   | some i=>
    rw[b]at e;obtain⟨-,c,d,f⟩:=p9 h b;rw[d];exact uo f e
  cases e
def Et:∀{a:List (List Int)}{k:Nat}{s s2:List Int}(i:Nat),(∀x∈s2,x∈s)->(gy k s a).isSome=true->(gy k s2 (a.set i [])).isSome=true
 | [],_,_,_,_,_,_=>rfl
 | l::a,k,s,s2,i,h,e=>by
  simp only[gy,f6]at e;split at e
  ·rename_i g
   cases b:rA k s l with
   | none=>rw[b]at e;cases e
   | some o=>
    rw[b]at e;obtain⟨c,d,f,j⟩:=p9 h b;cases i with
    | zero=>
     simp only[List.set_cons_zero,gy,f6];rw[CC ⟨by simp,g.2⟩];exact uo (λx n=>c x (h x n)) e
    | succ i=>
     simp only[List.set_cons_succ,gy,f6];rw[CC g,f];exact Et i j e
  cases e
def Rf{c:aB}(h:bv c=true)(k:Nat):bv (Kv c k)=true:=by
 unfold bv at h |-;simp only[I0,C0]at h |-;exact⟨by simp only[Kv,U1];exact h.1,Et k (λ_ h=>h) h.2⟩
def spilt(h:ab)(t k:Nat):ab:={h with S:=h.S.set t (Kv (nth h.S t) k)}
def aT.spilt{h:ab}{E:List Int}{t k:Nat}(f:aT h E)(i:t<h.S.length)(n:k<(nth h.S t).a.length):aT (spilt h t k) (nth (nth h.S t).a k++E):=by
 have p:(E++holders h).Perm (nth (nth h.S t).a k++E++holders (Ab.spilt h t k)):=by
  refine List.perm_iff_count.2 λb=>?_
  have r:=iO (λc:aB=>c.a.flatten) b h.S t (Kv (nth h.S t) k) i;have q:=iO (λx:List Int=>x) b (nth h.S t).a k [] n;rw[<-lK,<-lK]at q;simp only[List.count_nil]at q;simp only[Kv]at r;simp only[holders,cK,Ab.spilt,Kv,C6];omega
 have g:∀c∈(Ab.spilt h t k).S,c∈h.S\/c=Kv (nth h.S t) k:=λc u=>V6 u
 exact {f with
   nc:=by show(h.S.set ..).length=_;rw[U1];exact f.nc
   cach:=λc a=>by
     rcases g c a with a|rfl
     · exact f.cach c a
     exact Rf (f.cach _ (am i)) k
   onu:=by show ∀o∈h.M,1<=o.Id/\o.Id<=h.b - 1/\0<=o.a3/\o.a3<=(h.S.set t _).length - 1;rw[U1];exact f.onu
   hca:=λc a j l b d=>by
     rcases g c a with a|rfl
     · exact f.hca c a j l b d
     simp only[Kv,U1]at l;simp only[Kv,bw]at d;by_cases e:k=j
     · subst e
       rw[CC ⟨rfl,l⟩]at d;cases d
     rw[C9 λx=>e x.1]at d;exact f.hca _ (am i) _ l b d
   hin:=λb d=>by
     rcases C3.1 d with d|d
     · exact(f.hca _ (am i) k n b d).any
     exact f.hin b d
   nd:=p.nodup_iff.1 f.nd
   mem:=λb=>by rw[<-p.mem_iff];exact f.mem b}
def freeAs(h:ab)(az:List Int):ab:=az.foldl freeA h
def fK:∀(az:List Int)(h:ab),(freeAs h az).S=h.S/\(freeAs h az).M=h.M/\(freeAs h az).G.Calls=h.G.Calls/\(freeAs h az).w=h.w/\(freeAs h az).Z=h.Z/\(freeAs h az).b3=h.b3/\(freeAs h az).a6=h.a6/\(freeAs h az).G.a0=h.G.a0
 | [],h=>⟨rfl,rfl,rfl,rfl,rfl,rfl,rfl,rfl⟩
 | a::az,h=>by
  obtain⟨b,c,d,e,f,g,i,j⟩:=fK az (freeA h a);obtain⟨k,l,n,o,p,q,r,t⟩:=yg h (se h a) a;exact⟨b.trans k,c.trans l,d.trans n,e.trans o,f.trans p,g.trans q,i.trans r,j.trans t⟩
def aT.freeAs{E:List Int} : ∀{az:List Int}{h:ab},aT h (az++E)->aT (freeAs h az) E
 | [],_,b=>b
 | a::az,h,b=>aT.freeAs (az:=az) (h:=Ab.freeA h a) b.freeA
def uJ(h:ab)(az:List Int)(k:Nat)(a:k<az.length):freeAs h (az.take (k+1))=freeA (freeAs h (az.take k)) (nth az k):=by
 rw[V5,ao a];simp[freeAs]
def flushN(t:Nat)(h:ab):Nat->ab × Nat
 | 0=>(h,0)
 | k+1=>(freeAs (spilt (flushN t h k).1 t k) (nth (nth (flushN t h k).1.S t).a k),(flushN t h k).2+(nth (nth (flushN t h k).1.S t).a k).length)
def jq{t:Nat}{h:ab}(c:aT h [])(e:t<h.S.length):∀{k:Nat},k<=4->aT (flushN t h k).1 []/\(flushN t h k).1.S.length=h.S.length/\(flushN t h k).1.G.Calls=h.G.Calls/\(flushN t h k).1.M=h.M/\(flushN t h k).1.w=h.w/\(flushN t h k).1.Z=h.Z/\(flushN t h k).2<=8*k
 | 0,_=>⟨c,rfl,rfl,rfl,rfl,rfl,W0 _⟩
 | k+1,y=>by
  obtain⟨d,f,g,i,j,l,A⟩:=jq c e (k:=k) ω;have a:t<(flushN t h k).1.S.length:=ω
  obtain⟨B,n⟩:=eL (d.cach _ (am a));have b:k<(nth (flushN t h k).1.S t).a.length:=ω
  have o:=d.spilt a b;have C:=n _ (am b);obtain⟨p,q,r,u,w,-⟩:=fK (nth (nth (flushN t h k).1.S t).a k) (Ab.spilt (flushN t h k).1 t k);refine⟨aT.freeAs o,?_,r.trans g,q.trans i,u.trans j,w.trans l,?_⟩
  ·show(Ab.freeAs _ _).S.length=_
   rw[p];simp only[Ab.spilt,U1];exact f
  simp only[flushN];omega
variable{t:Nat}
def Ee{k:Nat}(d:aT h [])(e:t<h.S.length)(j:k<4):t<(flushN t h k).1.S.length/\bv (nth (flushN t h k).1.S t)=true/\k<(nth (flushN t h k).1.S t).a.length/\(nth (nth (flushN t h k).1.S t).a k).length<=8/\(flushN t h k).2<=8*k:=by
 obtain⟨f,l,-,-,-,-,g⟩:=jq d e (k:=k) ω;have a:t<(flushN t h k).1.S.length:=ω
 have c:=f.cach _ (am a);obtain⟨n,i⟩:=eL c;have b:k<(nth (flushN t h k).1.S t).a.length:=ω
 exact⟨a,c,b,i _ (am b),g⟩
def Mx{k:Nat}(a:aT h [])(b:t<h.S.length)(d:k<4)(e:j<(nth (nth (flushN t h k).1.S t).a k).length):aT (freeAs (spilt (flushN t h k).1 t k) ((nth (nth (flushN t h k).1.S t).a k).take j)) (nth (nth (nth (flushN t h k).1.S t).a k) j::(nth (nth (flushN t h k).1.S t).a k).drop (j+1)):=by
 obtain⟨f,g⟩:=Ee a b d;have c:=((jq a b (k:=k) ω).1).spilt f g.2.1;rw[List.append_nil]at c;refine aT.freeAs ?_;rw[<-gt e,List.take_append_drop];exact c
def zI(h:ab)(t:Nat)(i:aT h [])(l:t<h.S.length):zzB 424 false [.ptr (bA h),.val none [I (t:Nat)]] [.ptr (bA (flushN t h 4).1),.val none [I (t:Nat)]] .one [I ((flushN t h 4).2:Nat)]:=by
 refine fM 48 [(426,[2,0])] [(6,6,[26,27,28,29,30,31])] [(0,0),(0,0)] Tryz.func424 rfl (λu q=>?_)
 repeat'(first|refine gP ?_|fail)
 (conv=>whnf)
 refine CG (ι:=Nat) (λk=>[(0,.H .box (bA (flushN t h k).1)),(1,.H .one [I ((t:Nat):Int)]),(5,.H .one [I (((flushN t h k).2:Nat):Int)]),(6,.H .one [I ((k:Nat):Int)])]) (λk=>k<=4) (λk=>4 - k) (0) ?_ (W0 _) λk D=>?_
 ·repeat'(first|exact trivial|rfl |exact mL a|exact dL _|refine CL ?_ ?_|(exact A7 (by first|omega|(simp only;omega)|(simp;omega))))
 by_cases n:k<4
 ·obtain⟨o,p,E,F,G⟩:=Ee i l n
  have r:=vL (nth (flushN t h k).1.S t) k p ω;have c:=λj=>Mx i l n (j:=j)
  have e:=ao o;have w:(flushN t h (k+1)).1=freeAs (spilt (flushN t h k).1 t k) (nth (nth (flushN t h k).1.S t).a k):=rfl;have y:(flushN t h (k+1)).2=(flushN t h k).2+(nth (nth (flushN t h k).1.S t).a k).length:=rfl;have a:C.s dJ.own ((spilt (flushN t h k).1 t k).S.map (aB.enc .own))=C.s dJ.own (((flushN t h k).1.S.map (aB.enc .own)).set t (aB.enc .own (Kv (nth (flushN t h k).1.S t) k))):=by simp[spilt,I6]
  repeat'(first|refine gE ?_|(conv=>whnf);first|refine CD (aa e) ?_|refine CH rfl (aa e) rfl ?_|refine CF (r) ⟨⟨rfl,Cg _⟩,⟨rfl,rfl⟩,⟨rfl,rfl⟩,trivial⟩ ?_|refine CB ?_|refine CP rfl rfl (aa e) rfl (I1 rfl) rfl ?_)
  generalize (flushN t h k).1=d at *;generalize (flushN t h k).2=m at *
  (conv=>whnf)
  refine CG (ι:=Nat) (λj=>[(0,.H .box (bA (freeAs (spilt d t k) ((nth (nth d.S t).a k).take j)))),(1,.H .one [I ((t:Nat):Int)]),(5,.H .one [I (((m+j):Nat):Int)]),(6,.H .one [I ((k:Nat):Int)]),(8,.H .one (aF .own (nth (nth d.S t).a k))),(9,.H .one [I ((j:Nat):Int)])]) (λj=>j<=(nth (nth d.S t).a k).length) (λj=>(nth (nth d.S t).a k).length - j) (0) ?_ (W0 _) λj H=>?_
  ·repeat'(first|exact trivial|rfl |exact mL a|exact dL _|refine CL ?_ ?_|(exact A7 (by first|omega|(simp only;omega)|(simp;omega))))
  by_cases g:j<(nth (nth d.S t).a k).length
  ·have b:=ao g
   have B:=nY _ _ _ (c j g)
   repeat'(first|refine gE ?_|(conv=>whnf);first|refine CD (aa b) ?_|refine CH rfl (aa b) rfl ?_|refine CK (B) (.inl rfl) ?_)
   ((conv=>whnf);refine CE (j+1) ω ω ?_)
   rw[uJ _ _ _ g];exact wC
  obtain rfl:j=(nth (nth d.S t).a k).length:=ω
  rw[C5]
  repeat'(first|refine gE ?_|fail)
  ((conv=>whnf);refine CE (k+1) ω ω ?_)
  rw[w,y];exact wC
 obtain rfl:k=4:=ω
 repeat'(first|refine gE ?_|fail)
 refine CJ rfl rfl ?_;exact wC
def JH(s:Int):Int:=(1103515245*s+12345) % 1073741824
def HC(s:Int):0<=JH s/\JH s<=1073741823:=by unfold JH;omega
def zE(s:Int)(b:0<=s/\s<=1073741823):zzA 548 false [.val none [I s]] .one [I (JH s)]:=by
 have a:=aH s 0 1073741823;rw[O0 b]at a;refine fO 10 [] Tryz.func548 rfl ?_
 repeat'(first|refine gP ?_|(conv=>whnf);first|refine CB ?_|refine CR (z:=JH s) (eG ω) ?_|refine C8 (a) ?_|refine CO (by decide) ?_)
 rfl
def Ph(s n:Int):Int:=JH s / 1024 % n
def wx(s:Int){n:Int}(h:1<=n):0<=Ph s n/\Ph s n<n:=⟨Int.emod_nonneg _ ω,Int.emod_lt_of_pos _ ω⟩
def uL(s n:Int)(b:0<=s/\s<=1073741823)(c:1<=n/\n<=1000):zzA 480 false [.val none [I s],.val none [I n]] (.tup [none,none]) [I (Ph s n),I (JH s)]:=by
 have d:=aH s 0 1073741823;have e:=aH n 1 1000;rw[O0 b]at d;rw[O0 c]at e;have g:=HC s;have i:=wx s c.1;have a:(JH s).tdiv 1024=JH s / 1024:=Int.tdiv_eq_ediv_of_nonneg g.1;have h:((JH s).tdiv 1024).tmod n=Ph s n:=by rw[a];exact eG ω
 refine fO 23 [] Tryz.func480 rfl ?_ (.inr ⟨trivial,trivial,trivial⟩)
 repeat'(first|refine gP ?_|(conv=>whnf);first|refine CB ?_|refine C8 (d) ?_|refine C8 (e) ?_|refine C8 (zE s b) ?_|refine CO (by decide) ?_|refine CO ω ?_|refine CR h ?_|refine CM (fo (by rw[a];omega) (by rw[a];omega)) ?_)
 rfl
def rT(n:Nat):List Int:=(List.range n).map λ(i:Nat)=>(i:Int)
def Ho(n:Nat):rT (n+1)=rT n++[(n:Int)]:=by unfold rT;rw[List.range_succ,X5];rfl
def Ag(n:Nat):(rT n).length=n:=by simp[rT]
def yG(xs:List Int)(i k:Nat):List Int:=(xs.set i (nth xs k)).set k (nth xs i)
def Lj(xs:List Int)(i k:Nat):(yG xs i k).length=xs.length:=by simp[yG]
def ic(n:Nat)(s:Int):Nat->List Int × Int
 | 0=>(rT n,s)
 | j+1=>(yG (ic n s j).1 (n - 1 - j) (Ph (ic n s j).2 ((n - 1 - j:Nat)+1:Int)).toNat,JH (ic n s j).2)
def mT(n:Nat){s:Int}(a:0<=s/\s<=1073741823):∀j,(ic n s j).1.length=n/\0<=(ic n s j).2/\(ic n s j).2<=1073741823
 | 0=>⟨Ag n,a⟩
 | j+1=>⟨by simp only[ic,Lj];exact(mT n a j).1,HC _⟩
def shuf(n:Nat)(s:Int):List Int × Int:=ic n s (n - 1)
def NG(xs:List Int)(i k:Nat):(yG xs i k).map (rI .own)=((xs.map (rI .own)).set i (rI .own (nth xs k))).set k (rI .own (nth xs i)):=by simp[yG,I6]
def K6{xs:List Int}{k:Nat}(v:Int)(a:k<xs.length):((xs.map (rI .own)).set i (rI .own v))[k]? = some (rI .own (nth (xs.set i v) k)):=by
 rw[<-I6];exact aa (ao (by rw[U1];exact a))
def za(n:Nat)(s:Int)(d:0<=s/\s<=1073741823)(w:n<=64):zzA 526 false [.val none [I s],.val none [I (n:Nat)]] (.tup [none,none]) (aF .own (shuf n s).1++[I (shuf n s).2]):=by
 have e:=aH s 0 1073741823;have g:=aH (n:Nat) 0 64;rw[O0 d]at e;rw[O0 ω]at g;refine fO 63 [] Tryz.func526 rfl ?_ (.inr (aQ (bM _) ⟨trivial,trivial⟩))
 repeat'(first|refine gP ?_|(conv=>whnf);first|refine CB ?_|refine C8 (e) ?_|refine C8 (g) ?_)
 (conv=>whnf)
 refine CG (ι:=Nat) (λk=>[(0,.H .one [I (s)]),(1,.H .one [I ((n:Nat):Int)]),(6,.H .one (aF .own (rT k))),(7,.H .one [I ((k:Nat):Int)])]) (λk=>k<=n) (λk=>n - k) (0) ?_ (W0 _) λk y=>?_
 ·exact wB
 have h:=Ag k;by_cases B:k<n
 ·repeat'(first|refine gE ?_|(conv=>whnf);first|refine CB ?_|refine CY (aL λ_=>rfl) rfl (by simp;omega) (by decide) (fp (rI .own) (rT k) (k:Int)) ?_)
  ((conv=>whnf);refine CE (k+1) ω ω ?_)
  rw[Ho];exact wB
 obtain rfl:k=n:=ω
 repeat'(first|refine gE ?_|(conv=>whnf);first|refine CB ?_)
 (conv=>whnf)
 refine CG (ι:=Nat) (λj=>[(0,.H .one [I ((ic k s j).2)]),(6,.H .one (aF .own (ic k s j).1)),(8,.H .one [I (((k:Int) - 1 - j))])]) (λj=>(j<=k - 1/\j<=k)) (λj=>k - j) (0) ?_ (⟨W0 _,W0 _⟩) λj C=>?_
 ·exact wB
 obtain⟨D,l,o⟩:=mT k d j;by_cases E:j<k - 1
 ·have q:(k:Int) - 1 - j=((k - 1 - j:Nat):Int):=ω
  have r:=wx (ic k s j).2 (n:=((k - 1 - j:Nat)+1:Int)) ω;have t:=uL (ic k s j).2 ((k - 1 - j:Nat)+1:Int) ⟨l,o⟩ ω;have u:ic k s (j+1)=(yG (ic k s j).1 (k - 1 - j) (Ph (ic k s j).2 ((k - 1 - j:Nat)+1:Int)).toNat,JH (ic k s j).2):=rfl;rw[q];generalize ic k s j=p at *;obtain⟨xs,z⟩:=p;simp only at *;generalize k - 1 - j=i at *;have a:=ao (xs:=xs) (i:=i) ω;have b:=ao (xs:=xs) (i:=(Ph z (i+1)).toNat) ω;have c:=K6 (xs:=xs) (i:=i) (k:=(Ph z (i+1)).toNat) (nth xs (Ph z (i+1)).toNat) ω
  repeat'(first|refine gE ?_|(conv=>whnf);first|refine CB ?_|refine C8 (t) ?_|refine CN ω (aa b) ?_|refine CD (aa a) ?_|refine CH rfl (aa a) rfl ?_|refine CH rfl (aa b) rfl ?_|refine CP rfl rfl (aa a) rfl (I1 rfl) rfl ?_|refine CN ω c ?_|refine CP rfl rfl c rfl (I1 rfl) rfl ?_)
  ((conv=>whnf);refine CE (j+1) ω ω ?_)
  rw[u];simp only[aF,NG];exact wB
 obtain rfl:j=k - 1:=ω
 repeat'(first|refine gE ?_|(conv=>whnf);first|refine CB ?_)
 rfl
def DX(b:Int):Nat->Nat
 | 0=>0
 | n+1=>DX b n+(if aW b (n:Nat)=true then 1 else 0)
def Ds(b:Int):∀n,DX b n<=n
 | 0=>I3 _
 | n+1=>by have:=Ds b n;simp only[DX];split<;>omega
def vE(b:Int)(d:b<=9223372036854775807):zzA 525 false [.val none [I b]] .one [I (DX b 16:Nat)]:=by
 refine fO 15 [] Tryz.func525 rfl ?_
 repeat'(first|refine gP ?_|fail)
 (conv=>whnf)
 refine CG (ι:=Nat) (λk=>[(0,.H .one [I (b)]),(3,.H .one [I ((DX b k:Nat):Int)]),(4,.H .one [I ((k:Nat):Int)])]) (λk=>k<=16) (λk=>16 - k) (0) ?_ (W0 _) λk g=>?_
 ·exact wB
 have h:=Ds b k;by_cases i:k<16
 ·have a:=iN b (k:Nat) d
  have c:DX b (k+1)=DX b k+(if aW b (k:Nat)=true then 1 else 0):=rfl;cases e:aW b (k:Nat)<;>rw[e]at a c
  all_goals
   repeat'(first|refine gE ?_|(conv=>whnf);first|refine C8 (a) ?_)
   ((conv=>whnf);refine CE (k+1) ω ω ?_)
   rw[c];exact wB
 obtain rfl:k=16:=ω
 repeat'(first|refine gE ?_|fail)
 rfl
def Af(h:ab)(s:ax):Bool:=decide (0<DX s.b1 16)&&decide ((aV h s.Q).length=1)
def mg(h:ab):Nat->List ax
 | 0=>[]
 | n+1=>if Af h (nth h.K n)=true then mg h n++[nth h.K n] else mg h n
def nG(h:ab):List ax:=mg h h.K.length
def x7(h:ab):∀n,(mg h n).length<=n
 | 0=>I3 _
 | n+1=>by have:=x7 h n;simp only[mg];split<;>simp<;>omega
def mV(h:ab):∀{n:Nat},n<=h.K.length->∀s∈mg h n,s∈h.K
 | 0,_,s,a=>by cases a
 | n+1,b,s,a=>by
  simp only[mg]at a;split at a
  ·rcases C3.1 a with a|a
   ·exact mV h ω s a
   rw[O1.1 a];exact am ω
  exact mV h ω s a
def xE(h:ab)(j:zR h)(q:h.K.length<=1000)(r:fe h<=1000)(l:∀s∈h.K,s.b1<=9223372036854775807):zzA 427 false [.val (some 24) (ab.enc .V h)] .one (cq .own (nG h)):=by
 refine fO 42 [(5,16,[13,14,15,16,17,18,19,20,21,22,23,24,25,26,27,28])] Tryz.func427 rfl ?_ (.inr (GT _))
 repeat'(first|refine gP ?_|fail)
 (conv=>whnf)
 refine CG (ι:=Nat) (λk=>[(1,.H .box (ab.enc .V h)),(3,.H .one (cq .own (mg h k))),(4,.H .one [I ((k:Nat):Int)])]) (λk=>k<=h.K.length) (λk=>h.K.length - k) (0) ?_ (W0 _) λk t=>?_
 ·exact wB
 have n:=x7 h k;by_cases e:k<h.K.length
 ·have c:=ao e
  have d:=vE (nth h.K k).b1 (l _ (am e));have b:=ij h (nth h.K k).Q j;have o:=gX h (nth h.K k).Q;have p:=Ds (nth h.K k).b1 16;have a:mg h (k+1)=if Af h (nth h.K k)=true then mg h k++[nth h.K k] else mg h k:=rfl
  by_cases g:0<DX (nth h.K k).b1 16
  ·by_cases i:(aV h (nth h.K k).Q).length=1
   ·rw[CC (by unfold Af;simp[g,i])]at a
    repeat'(first|refine gB ?_|(conv=>whnf);first|refine CD (aa c) ?_|refine C8 (d) ?_|refine CF (b) ⟨⟨rfl,rfl⟩,⟨rfl,rfl⟩,trivial⟩ ?_|refine C8 (b) ?_|refine CB ?_|refine CY (aL λ_=>rfl) rfl (by simp;omega) (by decide) (fp (ax.enc .own) (mg h k) (nth h.K k)) ?_)
    ((conv=>whnf);refine CE (k+1) ω ω ?_)
    rw[a];exact wB
   rw[C9 (by unfold Af;simp[i])]at a
   repeat'(first|refine gB ?_|(conv=>whnf);first|refine CD (aa c) ?_|refine C8 (d) ?_|refine C8 (b) ?_|refine CB ?_)
   ((conv=>whnf);refine CE (k+1) ω ω ?_)
   rw[a];exact wB
  rw[C9 (by unfold Af;simp[g])]at a
  repeat'(first|refine gE ?_|(conv=>whnf);first|refine CD (aa c) ?_|refine C8 (d) ?_|refine C8 (b) ?_|refine CB ?_)
  ((conv=>whnf);refine CE (k+1) ω ω ?_)
  rw[a];exact wB
 obtain rfl:k=h.K.length:=ω
 repeat'(first|refine gE ?_|fail)
 rfl
def tq(s:ax)(c:Nat):Bool:=aW s.b1 (((c:Nat):Int) / csz s.d)
def ul(s:ax)(n:Nat):List Int:=((List.range n).filter (tq s)).map λ(i:Nat)=>(i:Int)
def P2(h:tq s n=true):ul s (n+1)=ul s n++[(n:Int)]:=by
 unfold ul;rw[List.range_succ,List.filter_append,X5];simp[h]
def Rm(h:tq s n=false):ul s (n+1)=ul s n:=by
 unfold ul;rw[List.range_succ,List.filter_append,X5];simp[h]
def rP(s:ax)(n:Nat):(ul s n).length<=n:=by
 unfold ul;rw[C1];exact Z4 (List.length_filter_le _ _) (by simp)
def PG(a:bi s=true){c:Nat}(d:c<16):0<=((c:Nat):Int) / csz s.d/\((c:Nat):Int) / csz s.d<=15:=by
 have f:=aE a;have b:csz s.d=1\/csz s.d=2\/csz s.d=4\/csz s.d=8:=bW ω;rcases b with e|e|e|e<;>rw[e]<;>omega
def pq(s:ax)(a:bi s=true):zzA 527 false [.val (some 3) (ax.enc .V s)] .one (aF .own (ul s 16)):=by
 have b:=gv s;rw[a]at b;have g:=aE a;have n:=bW g.2.2;refine fO 27 [(5,7,[14,15,16,17,18,19,20])] Tryz.func527 rfl ?_ (.inr (bM _))
 repeat'(first|refine gP ?_|fail)
 (conv=>whnf)
 refine CG (ι:=Nat) (λi=>[(1,.H .box (ax.enc .V s)),(3,.H .one (aF .own (ul s i))),(4,.H .one [I ((i:Nat):Int)])]) (λi=>i<=16) (λi=>16 - i) (0) ?_ (W0 _) λi o=>?_
 ·exact wB
 have h:=rP s i;by_cases j:i<16
 ·have k:=PG a j
  have d:IntKind.i64.wrap (((i:Nat):Int).tdiv (csz s.d))=((i:Nat):Int) / csz s.d:=by rw[jX ω];exact fo ω ω
  have c:=iN s.b1 (((i:Nat):Int) / csz s.d) (fN a).2;cases e:tq s i
  ·rw[show aW s.b1 (((i:Nat):Int) / csz s.d)=false from e]at c
   repeat'(first|refine gE ?_|(conv=>whnf);first|refine C8 (b) ?_|refine C8 (ed _) ?_|refine CO ω ?_|refine CM d ?_|refine C8 (c) ?_)
   ((conv=>whnf);refine CE (i+1) ω ω ?_)
   rw[Rm e];exact wB
  rw[show aW s.b1 (((i:Nat):Int) / csz s.d)=true from e]at c
  repeat'(first|refine gE ?_|(conv=>whnf);first|refine C8 (b) ?_|refine C8 (ed _) ?_|refine CO ω ?_|refine CM d ?_|refine C8 (c) ?_|refine CU cA (λr l=>by rw[O1.1 l];rfl) (by simp[bm,eH]) (by simp;omega) (by simp only[C1];exact yV (by simp;omega) (by decide)) rfl ?_)
  ((conv=>whnf);refine CE (i+1) ω ω ?_)
  rw[P2 e]
  (repeat'(first|exact trivial|rfl|exact CL rfl (CL (X0 (C.s dJ.own) (by simp[rI])) trivial)|refine CL ?_ ?_))
 obtain rfl:i=16:=ω
 repeat'(first|refine gE ?_|(conv=>whnf);first|refine C8 (b) ?_)
 rfl
structure gk where
 A:Int
 B:Int
deriving DecidableEq,Inhabited
def gk.enc(_:dJ)(x:gk):List C:=[I x.A,I x.B]
def jK(o:dJ)(x:List gk):List C:=[.s o (x.map (gk.enc o))]
def GC(x:List gk):gW (jK .own x):=⟨⟨.inl λh=>(by cases h),aZ _ _ λ_ _=>⟨trivial,trivial,trivial⟩⟩,trivial⟩
def PX(i:Int)(p:gk):Bool:=decide (p.A=i) || decide (p.B=i)
def dr(a b:ax):cC:=if(ul a 16).length<(ul b 16).length then⟨b.Q,a.Q,ul a 16⟩ else⟨a.Q,b.Q,ul b 16⟩
def zz(a b:ax)(g:meshable a b=true)(h:bi a=true)(i:bi b=true):zzA 429 false [.val (some 3) (ax.enc .V a),.val (some 3) (ax.enc .V b)] (.tup [some 3,none]) (cC.enc .own (dr a b)++[B true]):=by
 have c:=m7 a b;rw[g]at c;have d:=pq a h;have e:=pq b i;have j:=rP a 16;have k:=rP b 16;unfold dr;split
 ·refine fO 27 [(3,6,[11,12,13,14,15,16]),(5,6,[20,21,22,23,24,25])] Tryz.func429 rfl ?_ (.inr (aQ (cC.enc_fr _) ⟨trivial,trivial⟩))
  repeat'(first|refine gE ?_|(conv=>whnf);first|refine C8 (c) ?_|refine C8 (d) ?_|refine C8 (e) ?_|refine CB ?_)
  rfl
 refine fO 27 [(3,6,[11,12,13,14,15,16]),(5,6,[20,21,22,23,24,25])] Tryz.func429 rfl ?_ (.inr (aQ (cC.enc_fr _) ⟨trivial,trivial⟩))
 repeat'(first|refine gE ?_|(conv=>whnf);first|refine C8 (c) ?_|refine C8 (d) ?_|refine C8 (e) ?_|refine CB ?_)
 rfl
def tH(p:cC):cL:=⟨p,0,0⟩
def FB(p:cC)(c:eR p=true)(a:cC.sml p):zzA 430 false [.val (some 3) (cC.enc .V p)] (.tup [some 5,none]) (cL.enc .own (tH p)++[B true]):=by
 have b:=vr p a;rw[c]at b;have d:=sC (tH p) a;refine fO 11 [] Tryz.func430 rfl ?_ (.inr (aQ (cL.enc_fr _) ⟨trivial,trivial⟩))
 repeat'(first|refine gP ?_|(conv=>whnf);first|refine C8 (b) ?_|refine C8 (d) ?_)
 rfl
def tz(n:Nat){s:Int}(c:0<=s/\s<=1073741823):∀{j:Nat},j<=n - 1->∀x∈(ic n s j).1,0<=x/\x<n
 | 0,_,x,a=>by
  simp only[ic,rT,O4,List.mem_range]at a;obtain⟨i,d,rfl⟩:=a;omega
 | j+1,e,x,a=>by
  have f:=(mT n c j).1;have b:=tz n c (j:=j) ω;have g:=wx (ic n s j).2 (n:=((n - 1 - j:Nat)+1:Int)) ω;simp only[ic,yG]at a;rcases V6 a with a|rfl
  ·rcases V6 a with a|rfl
   ·exact b x a
   exact b _ (am ω)
  exact b _ (am ω)
def tkn(out:List gk)(a:Int):Bool:=out.any (PX a)
def stp(a:List ax)(p:List Int)(t i:Nat)(out:List gk):List gk:=
 if tkn out (nth p i)=false/\tkn out (nth p (p.length / 2+(i+t) % (p.length - p.length / 2)))=false/\meshable (nth a (nth p i).toNat) (nth a (nth p (p.length / 2+(i+t) % (p.length - p.length / 2))).toNat)=true then out++[⟨nth p i,nth p (p.length / 2+(i+t) % (p.length - p.length / 2))⟩] else out
def vz(a:List ax)(p:List Int)(t:Nat)(out:List gk):Nat->List gk
 | 0=>out
 | i+1=>stp a p t i (vz a p t out i)
def qH(a:List ax)(p:List Int):Nat->List gk
 | 0=>[]
 | t+1=>vz a p t (qH a p t) (p.length / 2)
def Q5(a:List ax)(p:List Int)(t i:Nat)(out:List gk):(stp a p t i out).length<=out.length+1:=by unfold stp;split<;>simp
def wH(a:List ax)(p:List Int)(t:Nat)(out:List gk):∀i,(vz a p t out i).length<=out.length+i
 | 0=>I3 _
 | i+1=>by have b:=wH a p t out i;have c:=Q5 a p t i (vz a p t out i);simp only[vz];omega
def Ej(a:List ax)(p:List Int):∀t,(qH a p t).length<=t*(p.length / 2)
 | 0=>W0 _
 | t+1=>by have b:=Ej a p t;have c:=wH a p t (qH a p t) (p.length / 2);simp only[qH];rw[Nat.add_mul];omega
def lX(a:List ax)(s:Int):List gk:=qH a (shuf a.length s).1 3
def ow(n:Nat)(out:List gk):List Bool:=(List.range n).map λ(i:Nat)=>tkn out (i:Nat)
variable{out:List gk}
def HT(h:0<=a/\a<n):(ow n out)[a.toNat]? = some (tkn out a):=by
 unfold ow;rw[O3,Y6 ω];show some (tkn out ((a.toNat:Nat):Int))=_;rw[Int.toNat_of_nonneg h.1]
variable{b:Int}
def MX(f:0<=a/\a<n)(g:0<=b/\b<n):ow n (out++[⟨a,b⟩])=((ow n out).set a.toNat true).set b.toNat true:=by
 unfold ow;apply List.ext_getElem?;intro i;by_cases c:i<n
 ·rw[O3,Y6 c]
  by_cases d:b.toNat=i
  ·subst d
   rw[X3 (by simp;omega)];simp only[I5,tkn,List.any_append,List.any_cons,List.any_nil,PX];rw[Int.toNat_of_nonneg g.1];simp
  rw[List.getElem?_set_ne d];by_cases e:a.toNat=i
  ·subst e
   rw[X3 (by simp;omega)];simp only[I5,tkn,List.any_append,List.any_cons,List.any_nil,PX];rw[Int.toNat_of_nonneg f.1];simp
  rw[List.getElem?_set_ne e,O3,Y6 c];simp only[I5,tkn,List.any_append,List.any_cons,List.any_nil,PX];rw[U0 ω,U0 ω];simp
 rw[W2 (by simp;omega),W2 (by simp;omega)]
def PN(n:Nat):(ow n []).map (rB .own)=List.replicate n [B false]:=by
 unfold ow;rw[List.map_map];apply List.ext_getElem?;intro i;rw[O3];by_cases a:i<n
 ·rw[Y6 a,List.getElem?_replicate];simp[a];rfl
 rw[W2 (by simp;omega),List.getElem?_replicate];simp[a]
def Km{xs:List Bool}{k:Nat}(v:Bool)(a:k<xs.length):((xs.map (rB .own)).set i (rB .own v))[k]? = some (rB .own (nth (xs.set i v) k)):=by
 rw[<-I6];exact aa (ao (by rw[U1];exact a))
def vB(c:List ax)(s:Int)(u:0<=s/\s<=1073741823)(V:c.length<=16):zzA 428 false [.val none (cq .V c),.val none [I s],.val none [I 3]] (.tup [none,none]) (jK .own (lX c s)++[I (shuf c.length s).2]):=by
 have J:=aH s 0 1073741823;rw[O0 u]at J;have K:=aH 3 0 16;rw[O0 ω]at K;have Q:=za c.length s u ω;have D:=(mT c.length u (c.length - 1)).1;have e:=tz c.length u (I3 _);unfold lX;change (shuf c.length s).1.length=_ at D;change ∀x∈(shuf c.length s).1,_ at e
 have E:gW (jK .own (qH c (shuf c.length s).1 3)++[I (shuf c.length s).2]):=aQ (GC _) ⟨trivial,trivial⟩;generalize shuf c.length s=q at *;obtain⟨p,z⟩:=q;simp only at *;have F:((p.length:Nat):Int).tdiv 2=((p.length / 2:Nat):Int):=by rw[Int.tdiv_eq_ediv_of_nonneg ω];omega
 have g:C.s dJ.own ((ow c.length []).map (rB .own))=C.s dJ.own (List.replicate c.length [B false]):=by rw[PN]
 have h:∀i:Nat,i<p.length->0<=nth p i/\nth p i<c.length:=λi R=>e _ (am R)
 refine fO 110 [(15,21,[73,74,75,76,77,78,79,80,81,82,83,84,85,86,87,88,89,90,91,92,93])] Tryz.func428 rfl ?_ (.inr E)
 repeat'(first|refine gE ?_|(conv=>whnf);first|with_reducible refine CM ((X0 _ F).trans (fo ω ω)) ?_|refine C8 (J) ?_|refine C8 (K) ?_|refine C8 (Q) ?_|refine CO (by decide) ?_|refine Mk.mk c.length rfl rfl ω (yV ω (by decide)) rfl ?_)
 (conv=>whnf)
 refine CG (ι:=Nat) (λt=>[(0,.H .one (cq .V c)),(2,.H .one [I (3)]),(8,.H .one (jK .own (qH c p t))),(9,.H .one (aF .own p)),(10,.H .one [I (z)]),(11,.H .one [I (((p.length / 2):Nat):Int)]),(12,.H .one (BO .own (ow c.length (qH c p t)))),(13,.H .one [I ((t:Nat):Int)])]) (λt=>t<=3) (λt=>3 - t) (0) ?_ (W0 _) λt S=>?_
 ·repeat'(first|exact trivial|rfl |exact mL g|refine CL ?_ ?_|(exact A7 (by first|omega|(simp only;omega)|(simp;omega))))
 have W:=Ej c p t;have ol2:t*(p.length / 2)<=3*8:=Nat.mul_le_mul S ω;by_cases X:t<3
 ·repeat'(first|refine gE ?_|fail)
  (conv=>whnf)
  refine CG (ι:=Nat) (λj=>[(0,.H .one (cq .V c)),(2,.H .one [I (3)]),(8,.H .one (jK .own (vz c p t (qH c p t) j))),(9,.H .one (aF .own p)),(10,.H .one [I (z)]),(11,.H .one [I (((p.length / 2):Nat):Int)]),(12,.H .one (BO .own (ow c.length (vz c p t (qH c p t) j)))),(13,.H .one [I ((t:Nat):Int)]),(14,.H .one [I ((j:Nat):Int)])]) (λj=>j<=p.length / 2) (λj=>p.length / 2 - j) (0) ?_ (W0 _) λj Y=>?_
  ·repeat'(first|exact trivial|rfl |exact mL g|refine CL ?_ ?_|(exact A7 (by first|omega|(simp only;omega)|(simp;omega))))
  have Z:=wH c p t (qH c p t) j;by_cases lj:j<p.length / 2
  ·have L:(j+t) % (p.length - p.length / 2)<p.length - p.length / 2:=Nat.mod_lt _ ω
   have G:((j:Int)+t).tmod ((p.length:Int) - (p.length / 2:Nat))=(((j+t) % (p.length - p.length / 2):Nat):Int):=by
    rw[eG ω,Int.natCast_emod];congr 1;omega
   have d:vz c p t (qH c p t) (j+1)=stp c p t j (vz c p t (qH c p t) j):=rfl;unfold stp at d;generalize vz c p t (qH c p t) j=out at *;have l:p.length / 2+(j+t) % (p.length - p.length / 2)<p.length:=ω
   generalize hk:(j+t) % (p.length - p.length / 2)=k at *;have n:=ao (xs:=p) (i:=j) ω;have o:=ao (xs:=p) (i:=p.length / 2+k) l;have w:=h j ω;have r:=h _ l;generalize nth p j=a at *;generalize nth p (p.length / 2+k)=b at *;have y:=HT (out:=out) w;have H:=HT (out:=out) r;have T:=ao (xs:=c) (i:=a.toNat) ω;have U:=ao (xs:=c) (i:=b.toNat) ω;have M:=m7 (nth c a.toNat) (nth c b.toNat);have ub2:=Km (xs:=ow c.length out) (i:=a.toNat) (k:=b.toNat) true (by simp[ow];omega);cases N:tkn out a<;>cases O:tkn out b<;>cases P:meshable (nth c a.toNat) (nth c b.toNat)
   all_goals
    rw[N]at y;rw[O]at H;rw[P]at M;rw[N,O,P]at d;simp only[and_true,true_and,if_true,Bool.false_eq_true,Bool.true_eq_false,and_false,false_and,if_false]at d
    repeat'(first|refine gE ?_|(conv=>whnf);first|refine CR G ?_|refine CO ω ?_|refine CD (aa n) ?_|refine CN ω (aa o) ?_|refine CN w.1 (aa y) ?_|refine CN r.1 (aa H) ?_|refine CN w.1 (aa T) ?_|refine CN r.1 (aa U) ?_|refine CH rfl (aa n) rfl ?_|refine CH rfl (aa o) rfl ?_|refine CH rfl (aa y) rfl ?_|refine CH rfl (aa H) rfl ?_|refine C8 (M) ?_|refine CB ?_|refine CP rfl rfl (aa y) rfl (I1 rfl) rfl ?_|refine CN r.1 ub2 ?_|refine CP rfl rfl ub2 rfl (I1 rfl) rfl ?_|refine CY (aL λ_=>rfl) rfl (by simp;omega) (by decide) (fp (gk.enc .own) out ⟨a,b⟩) ?_)
    ((conv=>whnf);refine CE (j+1) ω ω ?_)
    rw[d]
    first|(rw[MX w r];simp only[BO,I6])|skip
    exact wB
  obtain rfl:j=p.length / 2:=ω
  repeat'(first|refine gE ?_|fail)
  ((conv=>whnf);refine CE (t+1) ω ω ?_;(exact wB))
 obtain rfl:t=3:=ω
 repeat'(first|refine gE ?_|fail)
 rfl
def G9(x:List gk):ef (jK .own x)=jK .V x:=by simp[ef,jK,gk.enc,<-cw,Y5]
def ar.fzR{sh:Bool}{A:List RA}{k:Kd}{rcs:List C}(h:ar P f sh A k rcs):ar P f sh A k (ef rcs):=by
 obtain⟨c,d⟩:=h;refine⟨c,λw S g i j=>(d w S g i j).mono λe w1 l=>?_⟩;obtain⟨v,n,p,X,q,r,t,B,u,y⟩:=l;refine⟨v,n,p,NO,λb o=>q b o\/X b o,λ_ _ h=>h.elim,λb o a=>?_,λ_ _ h=>h.elim,by rw[cw,C1];exact u,y.freeze⟩;rcases a with a|a
 ·exact t b o a
 exact .inr (r b o a)
structure PY(ls:List ax)(q:gk):Prop where
 a:0<=q.A/\q.A<ls.length
 b:0<=q.B/\q.B<ls.length
 m:meshable (nth ls q.A.toNat) (nth ls q.B.toNat)=true
def Jh{b:List ax}{p:List Int}(c:∀x∈p,0<=x/\x<b.length)(t:Nat){out:List gk}(d:∀q∈out,PY b q):∀{i:Nat},i<=p.length / 2->∀q∈vz b p t out i,PY b q
 | 0,_=>d
 | i+1,h=>λq a=>by
  have e:=Jh c t d (i:=i) ω;simp only[vz,stp]at a;split at a
  ·rename_i g
   rcases C3.1 a with a|a
   ·exact e q a
   obtain rfl:=O1.1 a;have f:(i+t) % (p.length - p.length / 2)<p.length - p.length / 2:=Nat.mod_lt _ ω;exact⟨c _ (am ω),c _ (am ω),g.2.2⟩
  exact e q a
def Jo{a:List ax}{p:List Int}(b:∀x∈p,0<=x/\x<a.length):∀t,∀q∈qH a p t,PY a q
 | 0=>λq c=>by cases c
 | t+1=>Jh b t (Jo b t) (I3 _)
def nr(a:List ax){s:Int}(b:0<=s/\s<=1073741823):∀q∈lX a s,PY a q:=Jo (tz a.length b (I3 _)) 3
def Qb(s:ax)(n:Nat):(ul s n).Pairwise (· < ·):=by
 unfold ul;rw[List.pairwise_map];exact(List.pairwise_lt_range.sublist List.filter_sublist).imp λh=>ω
def R6 : ∀z∈ul s n,0<=z/\z<n:=λz a=>by
 unfold ul at a;simp only[O4,U4,List.mem_range]at a;obtain⟨c,⟨b,-⟩,rfl⟩:=a;omega
def wF(s:ax):dn (ul s 16).length (mw (ul s 16))=true:=by
 refine cF.2 λj a=>?_
 have c:=R6 _ (am a);unfold mw;refine O0 ⟨ω,ω,?_⟩;by_cases e:j=0
 ·exact .inl e
 refine .inr ?_;have b:=List.pairwise_iff_getElem.1 (Qb s 16) (j - 1) j ω a ω;rw[show nth (ul s 16) (j - 1)=(ul s 16)[j - 1] from bg (O2 ω),show nth (ul s 16) j=(ul s 16)[j] from bg (O2 a)];exact b
def tl{a b:ax}(c:meshable a b=true):eR (dr a b)=true/\bi a=true/\bi b=true:=by
 unfold meshable at c;simp only[I0,C0]at c;have d:=aE c.1.1;have e:=aE c.1.2;refine⟨?_,c.1⟩;unfold dr eR;split
 ·simp only[I0,C0];exact⟨wF a,ω⟩
 simp only[I0,C0];exact⟨wF b,ω⟩
def Gy(a b:ax):cC.sml (dr a b):=by
 have c:=rP a 16;have d:=rP b 16;unfold dr cC.sml sW;split<;>simp only<;>omega
def bE(h:ab):List ax:=(nG h).take 16
def started(h:ab):ab × Bool:=match lX (bE h) h.c1 with
 | []=>({h with c1:=(shuf (bE h).length h.c1).2},false)
 | q::_=>({h with c1:=(shuf (bE h).length h.c1).2,u:=true,Z:=tH (dr (nth (bE h) q.A.toNat) (nth (bE h) q.B.toNat))},true)
def LY(a:aT h E):h.K.length<=32/\fe h<=32/\zR h/\∀s∈h.K,s.b1<=9223372036854775807:=by
 have b:=a.lens;refine⟨b.spans,b.ents,?_,λs c=>by have:=eB (a.L.sok s c);omega⟩;have:=(bj a.ker).1.2;exact this
def GM(h:ab):(bE h).length<=16:=by unfold bE;rw[V1];omega
def RE(x:List gk)(z:Int):ef (jK .own x++[I z])=jK .V x++[I z]:=by
 have h:=G9 x;rw[cw]at h |-;rw[X5,h];simp[fz]
def R1(h:ab):(bE h).map (ax.enc .V)=((nG h).map (ax.enc .V)).take 16:=C4
def GO(p:cC)(b:eR p=true)(c:cC.sml p):zzA 430 false [.val (some 3) (cC.enc .V p)] (.tup [some 5,none]) (yF (tH p)++[B true]):=by
 have h:=(FB p b c).fzR;have e:ef (cL.enc .own (tH p)++[B true])=yF (tH p)++[B true]:=by
  have a:=cL.enc_fz (tH p);rw[cw]at a |-;rw[X5,a];simp[fz,cL.enc,yF]
 rwa [e]at h
def yO(h:ab)(w:aT h []):zzB 279 false [.ptr (bA h)] [.ptr (bA (started h).1)] .one [B (started h).2]:=by
 obtain⟨w1,Q,H,J⟩:=LY w;have a:=w.nums;unfold cr at a;rw[C0]at a;have e:=(xE h H ω ω J).fzR;rw[eE]at e;have o:=GM h;have b:=(vB (bE h) h.c1 ⟨a.1,a.2.1⟩ o).fzR;rw[RE]at b;have g:=nr (bE h) ⟨a.1,a.2.1⟩;have K:=x7 h h.K.length;have y:(nG h).length<=32:=by unfold nG;omega
 have j:=R1 h;unfold started;cases C:lX (bE h) h.c1 with
 | nil=>
  rw[C]at b;by_cases L:16<(nG h).length
  ·refine fM 62 [] [(8,275,[34,35,36,37,38,39,40,41,42,43,44,45,46,47,48,33,49,50,6,0,1,2,3,4,5,6,7,8,9,10,11,12,13,14,15,16,17,18,19,1017,20])] [(0,0)] Tryz.func279 rfl (λu q=>?_)
   repeat'(first|refine gE ?_|(conv=>whnf);first|refine CB ?_|refine CF (e) ⟨⟨rfl,bJ h⟩,trivial⟩ ?_|refine C8 (b) ?_|refine CX 16 rfl (by rw[C1];omega) (aL λ_=>rfl) j ?_)
   refine CJ rfl rfl ?_;exact wC
  have k:bE h=nG h:=by unfold bE;exact I7 ω
  rw[k]at b;refine fM 62 [] [(8,275,[34,35,36,37,38,39,40,41,42,43,44,45,46,47,48,33,49,50,6,0,1,2,3,4,5,6,7,8,9,10,11,12,13,14,15,16,17,18,19,1017,20])] [(0,0)] Tryz.func279 rfl (λu q=>?_);rw[k]
  repeat'(first|refine gE ?_|(conv=>whnf);first|refine CB ?_|refine CF (e) ⟨⟨rfl,bJ h⟩,trivial⟩ ?_|refine C8 (b) ?_)
  refine CJ rfl rfl ?_;exact wC
 | cons q M=>
  rw[C]at b g;obtain⟨E,F,G⟩:=g q (Z1 ..);obtain⟨N,O,P⟩:=tl G;have p:=zz _ _ G O P;have t:=GO _ N (Gy _ _);have c:=ao (xs:=bE h) (i:=q.A.toNat) ω;have d:=ao (xs:=bE h) (i:=q.B.toNat) ω;have l:(q::M)[0]? = some q:=rfl;by_cases L:16<(nG h).length
  ·refine fM 62 [] [(8,275,[34,35,36,37,38,39,40,41,42,43,44,45,46,47,48,33,49,50,6,0,1,2,3,4,5,6,7,8,9,10,11,12,13,14,15,16,17,18,19,1017,20])] [(0,0)] Tryz.func279 rfl (λu r=>?_)
   repeat'(first|refine gE ?_|(conv=>whnf);first|with_reducible refine Bf.D (λn=>absurd n (by simp)) (λn=>?_)|refine CB ?_|refine CF (e) ⟨⟨rfl,bJ h⟩,trivial⟩ ?_|refine C8 (b) ?_|refine CX 16 rfl (by rw[C1];omega) (aL λ_=>rfl) j ?_|refine CN (by decide) (aa l) ?_|refine CN E.1 (aa c) ?_|refine CN F.1 (aa d) ?_|refine C8 (p) ?_|refine CF (t) ⟨⟨rfl,cC.enc_fz _⟩,trivial⟩ ?_|refine CB ?_)
   refine CJ rfl rfl ?_;exact wC
  have k:bE h=nG h:=by unfold bE;exact I7 ω
  rw[k]at b p t c d;refine fM 62 [] [(8,275,[34,35,36,37,38,39,40,41,42,43,44,45,46,47,48,33,49,50,6,0,1,2,3,4,5,6,7,8,9,10,11,12,13,14,15,16,17,18,19,1017,20])] [(0,0)] Tryz.func279 rfl (λu r=>?_);rw[k]
  repeat'(first|refine gE ?_|(conv=>whnf);first|with_reducible refine Bf.D (λn=>absurd n (by simp)) (λn=>?_)|refine CB ?_|refine CF (e) ⟨⟨rfl,bJ h⟩,trivial⟩ ?_|refine C8 (b) ?_|refine CN (by decide) (aa l) ?_|refine CN E.1 (aa c) ?_|refine CN F.1 (aa d) ?_|refine C8 (p) ?_|refine CF (t) ⟨⟨rfl,cC.enc_fz _⟩,trivial⟩ ?_|refine CB ?_)
  refine CJ rfl rfl ?_;exact wC
def bY(k:ah):ah:={k with Calls:=k.Calls+1}
def refd(k:ah):Bool:=decide (k.Calls∈k.a0)
def jj(k:ah)(p:Int)(m:Int):ah:={k with F:=⟨k.F.W,⟨k.F.R.O.set p.toNat {nth k.F.R.O p.toNat with j:=m}⟩⟩}
def jR(k:ah)(p m:Int):ah × Bool:=if refd k=true then(bY k,false) else(jj (bY k) p m,true)
def Ll(k:ah)(p m:Int):ah.enc .own (jj k p m)=(ah.enc .own k).set 2 (.s .own ((k.F.R.O.map (bh.enc .own)).set p.toNat (bh.enc .own {nth k.F.R.O p.toNat with j:=m}))):=by
 simp[ah.enc,jj,I6]
variable{k:ah}
def row16(a:aA k=true)(b:f<k.F.W.U.length):(nth k.F.W.U f).length=16:=by
 have:=(aX.1 (aD.1 a).2.1).2.2.2 f b;unfold gQ at this;simp only[I0,C0]at this;omega
def setCell(k:ah)(f:Nat)(c v:Int):ah:={k with F:=⟨⟨k.F.W.U.set f ((nth k.F.W.U f).set c.toNat v),k.F.W.a9⟩,k.F.R⟩}
def Fa(k:ah)(f:Nat)(c v:Int):ah.enc .own (setCell k f c v)=(ah.enc .own k).set 0 (.s .own ((k.F.W.U.map (aF .own)).set f [.s .own (((nth k.F.W.U f).map (rI .own)).set c.toNat [I v])])):=by
 simp[ah.enc,setCell,I6,aF,rI]
def bL(k:ah)(p:Int):Nat:=(ac k.F.R p).e.toNat
def ss(k:ah)(a b c:Int):ah:=setCell k (bL k b) c (nth (nth k.F.W.U (bL k a)) c.toNat)
def QR(k:ah)(a b c:Int):Nat->ah
 | 0=>k
 | _+1=>ss k a b c
def vI(k:ah)(p:Nat)(e:bh):ah:={k with F:=⟨k.F.W,⟨k.F.R.O.set p e⟩⟩}
def NX(k:ah)(p:Nat)(e:bh):ah.enc .own (vI k p e)=(ah.enc .own k).set 2 (.s .own ((k.F.R.O.map (bh.enc .own)).set p (bh.enc .own e))):=by
 simp[ah.enc,vI,I6]
def Nf(p:Nat)(e:bh)(h:aI.sml k.F.R):aI.sml (vI k p e).F.R:=by
 refine⟨?_,λx _=>trivial⟩;show(k.F.R.O.set p e).length<=_;rw[U1];exact h.1
def vJ(k:ah)(p o:Int):ah × Bool:=if refd k=true then(bY k,false) else(fX (vI (bY k) p.toNat ⟨2,(nth k.F.R.O o.toNat).e⟩) (nth k.F.R.O p.toNat).e,true)
def iL(m:aU)(a v:Int):aU × Int:=
 if(ac m.R (a / 16)).j=0 then(m,1) else if(ac m.R (a / 16)).j=1 then(m,2) else
 (⟨⟨m.W.U.set (ac m.R (a / 16)).e.toNat ((nth m.W.U (ac m.R (a / 16)).e.toNat).set (a % 16).toNat v),m.W.a9⟩,m.R⟩,0)
def HD(m:aU)(f:Nat)(c v:Int):aU.enc .own ⟨⟨m.W.U.set f ((nth m.W.U f).set c.toNat v),m.W.a9⟩,m.R⟩ = (aU.enc .own m).set 0 (.s .own ((m.W.U.map (aF .own)).set f [.s .own (((nth m.W.U f).map (rI .own)).set c.toNat [I v])])):=by
 simp[aU.enc,I6,aF,rI]
def jmay(k:ah)(j:cL):Bool:=(aA k&&decide (k.Calls≠100000))&&(jN j&&decide ((ac k.F.R j.Y.a5).j≠0/\(ac k.F.R j.Y.a4).j≠0/\(ac k.F.R j.Y.a5).e≠(ac k.F.R j.Y.a4).e))
def jstep(k:ah)(j:cL):ah × cL:=
 if j.b2=0 then((jR k j.Y.a4 1).1,{j with b2:=if(jR k j.Y.a4 1).2=true then 1 else 5})
 else if j.b2=1 then(if j.b=j.Y.U.length then(k,{j with b2:=2}) else(ss k j.Y.a4 j.Y.a5 (nth j.Y.U j.b.toNat),{j with b:=j.b+1}))
 else if j.b2=2 then((vJ k j.Y.a4 j.Y.a5).1,{j with b2:=if(vJ k j.Y.a4 j.Y.a5).2=true then 4 else 3})
 else if j.b2=3 then(if 0<j.b then({k with F:=(iL k.F (j.Y.a5*16+nth j.Y.U (j.b - 1).toNat) 0).1},{j with b:=j.b - 1}) else((jR k j.Y.a4 2).1,{j with b2:=if(jR k j.Y.a4 2).2=true then 5 else 3}))
 else(k,j)
def MP{f:Int}(h1:∀j,j<k.a0.length->0<=nth k.a0 j)(d:d9 k.F.W=true)(g:gg k.F.R k.F.W.a9.length=true)(h:∀j:Nat,j<k.F.W.a9.length->(j:Int)≠f->nth k.F.W.a9 j=decide (0<(pagesOn k.F.R (j:Int)).length))(t:0<=f/\f<k.F.W.a9.length)(l:nth k.F.W.a9 f.toNat=true)(i:0<=k.Calls/\k.Calls<=100000/\k.a0.length<=40):aA (fX k f)=true:=by
 obtain⟨n,o,p,q⟩:=aX.1 d;unfold fX;split
 ·rename_i c
  rw[aD];simp only[U1];refine⟨h1,?_,g,λj b=>?_,i⟩
  ·rw[aX]
   simp only[U1,bw];refine⟨n,o,p,λj b=>?_⟩;by_cases a:f.toNat=j
   ·rw[CC ⟨a,b⟩,CC ⟨a,ω⟩];decide
   rw[C9 (λe=>a e.1),C9 (λe=>a e.1)];exact q j b
  rw[bw];by_cases a:f.toNat=j
  ·rw[CC ⟨a,b⟩]
   have:(j:Int)=f:=ω
   rw[this];exact(U0 λr=>absurd c (Nat.ne_of_gt r)).symm
  rw[C9 (λe=>a e.1)];exact h j b ω
 rename_i c;rw[aD];refine⟨h1,d,g,λj b=>?_,i⟩;by_cases a:(j:Int)=f
 ·rw[a,show j=f.toNat by omega,l]
  exact(O0 (Nat.pos_of_ne_zero c)).symm
 exact h j b a
def tEq(t a:aI):Prop:=a.O.length=t.O.length/\∀q:Nat,((nth a.O q).j≠0↔(nth t.O q).j≠0)/\(nth a.O q).e=(nth t.O q).e
def tEq.refl(t:aI):tEq t t:=⟨rfl,λ_=>⟨Iff.rfl,rfl⟩⟩
def tEq.of{t a:aI}(h:a=t):tEq t a:=by rw[h];exact tEq.refl t
def tEq.pagesOn{t a:aI}(h:tEq t a)(f:Int):Ab.pagesOn a f=Ab.pagesOn t f:=by
 unfold Ab.pagesOn jP;rw[h.1]
 congr 1
 refine List.filter_congr λq _=>?_
 obtain⟨b,c⟩:=h.2 q;unfold LT;rw[c];exact decide_eq_decide.2 (and_congr b Iff.rfl)
def B9(h:aA k=true){a:aI}(c:tEq k.F.R a)(i:∀q,q<a.O.length->0<=(nth a.O q).j/\(nth a.O q).j<=2):aA {k with F:=⟨k.F.W,a⟩} = true:=by
 obtain⟨l,n,o,p,r⟩:=aD.1 h;obtain⟨t,u,w⟩:=bx.1 o;rw[aD];refine⟨l,n,bx.2 ⟨λj b=>?_,?_,?_⟩,λj b=>?_,r⟩
 ·replace b:j<a.O.length:=b
  have e:=t j (by rw[<-c.1];exact b);have d:=i j b;obtain⟨g,y⟩:=c.2 j;show kF _ (nth a.O j)=true;unfold kF at e |-;rw[C0]at e |-;rw[y];refine⟨d.1,d.2,λf=>e.2.2.1 (Classical.byContradiction λA=>(g.2 A) f),λf=>e.2.2.2 (g.1 f)⟩
 ·show 1<=a.O.length;rw[c.1];exact u
 ·show a.O.length<=32;rw[c.1];exact w
 show nth k.F.W.a9 j=decide (0<(Ab.pagesOn a (j:Int)).length);rw[c.pagesOn];exact p j b
def mK(h:aA k=true)(f:k.Calls≠100000):aA (bY k)=true:=by
 obtain⟨a,b,c,d,g,i,e⟩:=aD.1 h;rw[aD];exact⟨a,b,c,d,by show 0<=k.Calls+1;omega,by show k.Calls+1<=100000;omega,e⟩
variable{p m:Int}
def uD(a:(nth k.F.R.O p.toNat).j≠0)(b:m=1\/m=2):tEq k.F.R (jj k p m).F.R:=by
 refine⟨by simp[jj],λq=>?_⟩;simp only[jj,bw];split
 ·rename_i e
  rw[<-e.1];exact⟨⟨λ_=>a,λ_=>by show m≠0;omega⟩,rfl⟩
 exact⟨Iff.rfl,rfl⟩
def Mc(h:aA k=true)(d:(nth k.F.R.O p.toNat).j≠0)(a:m=1\/m=2):aA (jj k p m)=true:=by
 refine B9 h (uD d a) λq e=>?_
 obtain⟨i,j,f,l,n⟩:=aD.1 h;obtain⟨g,o,r⟩:=bx.1 f;have c:q<k.F.R.O.length:=by rw[<-(uD d a).1];exact e
 have b:=g q c;unfold kF at b;rw[C0]at b;simp only[bw];split
 ·show 0<=m/\m<=2;omega
 exact⟨b.1,b.2.1⟩
def EN(h:aA k=true)(c:k.Calls≠100000)(b:(ac k.F.R p).j≠0)(a:m=1\/m=2):aA (jR k p m).1=true/\tEq k.F.R (jR k p m).1.F.R:=by
 obtain⟨e,f,d,-⟩:=bS h b;rw[d]at b;unfold jR;split
 ·exact⟨mK h c,tEq.refl _⟩
 exact⟨Mc (mK h c) b a,uD (k:=bY k) b a⟩
def gC(h:aA k=true)(b:(ac k.F.R p).j≠0):bL k p<k.F.W.U.length/\nth k.F.W.a9 (bL k p)=true/\((bL k p:Nat):Int)=(nth k.F.R.O p.toNat).e:=by
 obtain⟨f,g,a,i,j⟩:=bS h b;obtain⟨l,d,n,e,o⟩:=aD.1 h;obtain⟨q,r,t,u⟩:=aX.1 d;have c:((bL k p:Nat):Int)=(ac k.F.R p).e:=by unfold bL;omega
 refine⟨ω,?_,by rw[c,a]⟩;rw[e _ ω,c];refine O0 (dX.2 ⟨p.toNat,ω,?_,?_⟩)
 ·rw[<-a];exact b
 rw[<-a]
def Md(h:aA k=true){a:List Int}(c:a.length=16)(d:∀v∈a,0<=v/\v<=999)(g:nth k.F.W.a9 f=true):aA {k with F:=⟨⟨k.F.W.U.set f a,k.F.W.a9⟩,k.F.R⟩} = true:=by
 obtain⟨i,l,n,o,p⟩:=aD.1 h;obtain⟨q,r,t,u⟩:=aX.1 l;refine aD.2 ⟨i,aX.2 ⟨?_,?_,?_,λj b=>?_⟩,n,o,p⟩
 ·simp only[U1];exact q
 ·simp only[U1];exact r
 ·simp only[U1];exact t
 simp only[U1]at b |-;simp only[bw];split
 ·rename_i e
  obtain⟨rfl,-⟩:=e;unfold gQ;simp only[I0,C0,v4];refine⟨c,λv w=>?_⟩;have:=d v w;unfold iB;simp[g,this]
 exact u j b
def tV(h:aA k=true)(b:f<k.F.W.U.length):(nth k.F.W.U f).length=16/\∀v∈nth k.F.W.U f,0<=v/\v<=999:=by
 obtain⟨g,c,i,j,l⟩:=aD.1 h;obtain⟨n,o,p,d⟩:=aX.1 c;have a:=d f b;unfold gQ at a;simp only[I0,C0,v4]at a;refine⟨a.1,λv e=>?_⟩;have:=a.2 v e;unfold iB at this;simp only[I0,C0]at this;exact this.1
def qG(h:aA k=true)(b:f<k.F.W.U.length)(d:nth k.F.W.a9 f=true){c v:Int}(e:0<=v/\v<=999):aA (setCell k f c v)=true:=by
 obtain⟨g,i⟩:=tV h b;refine Md h (by rw[U1];exact g) (λz a=>?_) d;rcases V6 a with a|rfl
 ·exact i z a
 exact e
def M9(h:aA k=true){c:Int}(d:(ac k.F.R a).j≠0)(e:(ac k.F.R b).j≠0)(l:0<=c/\c<=15):aA (ss k a b c)=true:=by
 obtain⟨f,n,-⟩:=gC h d;obtain⟨g,i,-⟩:=gC h e;obtain⟨o,j⟩:=tV h f;exact qG h g i (j _ (am ω))
def Me{o:Int}(h:aA k=true)(u:k.Calls≠100000)(i:(ac k.F.R p).j≠0)(d:(ac k.F.R o).j≠0)(w:p≠o):aA (vJ k p o).1=true:=by
 unfold vJ;split
 ·exact mK h u
 obtain⟨O,y,A⟩:=gC h i;obtain⟨P,Q,R⟩:=gC h d;obtain⟨S,T,B,r,t⟩:=bS h i;obtain⟨U,V,C,D,E⟩:=bS h d;obtain⟨F,G,H,J,W,X,K⟩:=aD.1 h;obtain⟨L,M,N⟩:=bx.1 H;rw[C]at D E d;rw[B]at r t i;have a:∀q,nth (k.F.R.O.set p.toNat ⟨2,(nth k.F.R.O o.toNat).e⟩) q=if p.toNat=q then⟨2,(nth k.F.R.O o.toNat).e⟩ else nth k.F.R.O q:=λq=>by
  rw[bw];by_cases f:p.toNat=q
  ·rw[CC ⟨f,ω⟩,CC f]
  rw[C9 (λe=>f e.1),C9 f]
 refine MP F G (bx.2 ⟨λj c=>?_,?_,?_⟩) (λj c l=>?_) ⟨r,t⟩ (by rw[<-A];exact y) ⟨by show 0<=k.Calls+1;omega,by show k.Calls+1<=100000;omega,K⟩
 ·simp only[vI,bY,U1]at c |-
  rw[a];split
  ·unfold kF;rw[C0];simp only;omega
  exact L j c
 ·simp only[vI,bY,U1];exact M
 ·simp only[vI,bY,U1];exact N
 replace c:j<k.F.W.a9.length:=c;show nth k.F.W.a9 j=_;rw[J j c];refine decide_eq_decide.2 ?_;rw[dX,dX];simp only[vI,bY,U1,a];constructor
 ·rintro⟨q,n,g,b⟩
  refine⟨q,n,?_⟩;rw[C9 (λe=>l (by rw[<-b,<-e]))];exact⟨g,b⟩
 rintro⟨q,n,g,b⟩
 by_cases e:p.toNat=q
 ·rw[CC e]at b
  exact⟨o.toNat,ω,d,b⟩
 rw[C9 e]at g b;exact⟨q,n,g,b⟩
def Jd{o:Int}(h:aA k=true)(b:(ac k.F.R p).j≠0)(a:(vJ k p o).2=true)(q:Nat):(vJ k p o).1.F.R.O.length=k.F.R.O.length/\nth (vJ k p o).1.F.R.O q=if(q:Int)=p then⟨2,(nth k.F.R.O o.toNat).e⟩ else nth k.F.R.O q:=by
 obtain⟨d,f,-⟩:=bS h b;unfold vJ at a |-;split at a
 ·cases a
 rename_i c;rw[C9 c];simp only[(mP _ _).1];simp only[vI,bY,U1,bw];refine⟨trivial,?_⟩;by_cases e:(q:Int)=p
 ·rw[CC ⟨ω,ω⟩,CC e]
 rw[C9 λz=>e ω,C9 e]
def Ms{o:Int}(a:(vJ k p o).2=false):(vJ k p o).1=bY k:=by
 unfold vJ at a |-;split
 ·rfl
 rename_i b;rw[C9 b]at a;cases a
def KZ{v:Int}(h:aA k=true)(g:0<=a)(b:0<=v/\v<=999):aA {k with F:=(iL k.F a v).1} = true/\(iL k.F a v).1.R=k.F.R:=by
 unfold iL;split
 ·exact⟨h,rfl⟩
 rename_i d;split
 ·exact⟨h,rfl⟩
 obtain⟨e,f,-⟩:=gC h d;exact⟨qG h e f (c:=a % 16) b,rfl⟩
def oG(t:aI)(p:Int):Prop:=∀q:Nat,(nth t.O q).j≠0->(nth t.O q).e=(nth t.O p.toNat).e->(q:Int)=p
structure JI(h:ab):Prop where
 ph:h.u=true->0<=h.Z.b2/\h.Z.b2<=3
 sp:h.u=true->∃a∈h.K,∃b∈h.K,a.Q=h.Z.Y.a5/\b.Q=h.Z.Y.a4/\meshable a b=true
 sk:h.u=true->oG (tbl h) h.Z.Y.a5
 sm:h.u=true->oG (tbl h) h.Z.Y.a4
def oG.tEq{t a:aI}{p:Int}(h:oG t p)(b:tEq t a):oG a p:=λq c d=>by
 obtain⟨e,f⟩:=b.2 q;exact h q (e.1 c) (by rw[<-f,<-(b.2 p.toNat).2];exact d)
theorem Pg.tEq{t b:aI}{c:List a7}{sp:List ax}{la:List ay}(h:Pg t c sp la)(a:tEq t b):Pg b c sp la where
 one l hl p hp q hq h1 h2:=h.one l hl p hp q (by rw[<-a.1];exact hq) ((a.2 q).1.1 h1) (by rw[<-(a.2 q).2,<-(a.2 p).2];exact h2)
 bnd p hp:=by rw[a.1];exact h.bnd p hp
 own p hp:=(a.2 p).1.trans (h.own p (by rw[<-a.1];exact hp))
 fre p hp:=(a.2 p).1.trans (h.fre p (by rw[<-a.1];exact hp))
 mesh s hs u hu hne hf:=h.mesh s hs u hu hne (by rw[<-(a.2 _).2,<-(a.2 u.Q.toNat).2];exact hf)
def aT.step(a:aT h E)(b:aA k=true)(c:k.F.R.O.length=(tbl h).O.length)(d:Pg k.F.R h.q h.K h.J){j:cL}{m:Bool}(h1:m=true->jN j=true/\(∃s∈h.K,s.Q=j.Y.a5)/\∃s∈h.K,s.Q=j.Y.a4)(e:m=false->sL j=true):aT {h with G:=k,u:=m,Z:=j} E:=
 {a with
   ker:=b
   rng:=by show bC ((k.F.R.O.length:Nat):Int) h.q=true;rw[c];exact a.rng
   pg:=d
   job:=h1
   noj:=e}
variable{la:List ay}{sp:List ax}
def oD.apart(b:oD sp la)(c:s∈sp){l:ay}(d:l∈la)(a:p∈lpgs l l.a2.toNat):s.Q≠p:=by
 unfold lpgs at a;simp only[O4,List.mem_range]at a;obtain⟨k,e,rfl⟩:=a;exact b.dis s c l d k e
def Pg.on{t H:aI}{Q:List a7}(h:Pg t Q sp la)(r:oD sp la){a b:ax}(w:a∈sp)(L:b∈sp)(R:meshable a b=true)(A:oG t a.Q)(M:(nth t.O a.Q.toNat).j≠0)(N:(nth t.O b.Q.toNat).j≠0)(U:0<=b.Q)(J:H.O.length=t.O.length)(B:∀q:Nat,nth H.O q=if(q:Int)=b.Q then⟨2,(nth t.O a.Q.toNat).e⟩ else nth t.O q):Pg H Q sp la:=by
 have c:∀q:Nat,(nth H.O q).j≠0↔(nth t.O q).j≠0:=λq=>by
  rw[B];split
  ·rename_i e
   rw[show q=b.Q.toNat by omega];exact⟨λ_=>N,λ_=>by show(2:Int)≠0;omega⟩
  rfl
 have V:0<=a.Q:=by have:=r.sok a w;unfold bi at this;rw[C0]at this;omega
 refine⟨λl k p g q W S C=>?_,λp g=>by rw[J];exact h.bnd p g,λp g=>(c p).trans (h.own p (by rw[<-J];exact g)),λp g=>(c p).trans (h.fre p (by rw[<-J];exact g)),λs D u E F n=>?_⟩
 ·have O:¬(p:Int)=b.Q:=λe=>r.apart L k g e.symm
  rw[B p,C9 O,B q]at C;rw[c]at S;by_cases e:(q:Int)=b.Q
  ·rw[CC e]at C
   have T:=h.one l k p g a.Q.toNat (by have:=h.bnd _ (d7 (la:=la) w);omega) M C;exact absurd (show a.Q=(p:Int) by omega) (r.apart w k g)
  rw[C9 e]at C;exact h.one l k p g q (by rw[<-J];exact W) S C
 have X:0<=s.Q:=by have:=r.sok s D;unfold bi at this;rw[C0]at this;omega
 have Y:0<=u.Q:=by have:=r.sok u E;unfold bi at this;rw[C0]at this;omega
 have d:∀x∈sp,∀y∈sp,x.Q=y.Q->x=y:=λx G y Z e=>by
  obtain⟨i,hi,rfl⟩:=aM G;obtain⟨j,hj,rfl⟩:=aM Z;rw[ce (f:=(·.Q)) r.nd hi hj e]
 have o:∀x∈sp,(nth t.O x.Q.toNat).j≠0:=λx G=>by
  have hx0:0<=x.Q:=by have:=r.sok x G;unfold bi at this;rw[C0]at this;omega
  refine(h.own x.Q.toNat (by have:=h.bnd _ (d7 (la:=la) G);omega)).2 ?_;rw[show((x.Q.toNat:Nat):Int)=x.Q by omega];exact d7 G
 rw[B,B]at n;simp only[show((s.Q.toNat:Nat):Int)=s.Q by omega,show((u.Q.toNat:Nat):Int)=u.Q by omega]at n;by_cases K:s.Q=b.Q
 ·rw[CC K,C9 (λe=>F (K.trans e.symm))]at n
  have T:=A u.Q.toNat (o u E) n.symm;rw[d s D b L K,d u E a w ω,gK];exact R
 rw[C9 K]at n;by_cases P:u.Q=b.Q
 ·rw[CC P]at n
  have T:=A s.Q.toNat (o s D) n;rw[d u E b L P,d s D a w ω];exact R
 rw[C9 P]at n;exact h.mesh s D u E F n
def over(j:cL):Bool:=decide (j.b2=4\/j.b2=5)
def gR(k:ah)(j:cL):ah × cL:=if jmay k j=true then jstep k j else(k,j)
def mStep(h:ab):ab:={h with G:=(gR h.G h.Z).1,u:=if over (gR h.G h.Z).2=true then false else h.u,Z:=if over (gR h.G h.Z).2=true then⟨⟨0,0,[]⟩,0,0⟩ else(gR h.G h.Z).2}
def Eo(h:ab):Bool:=decide ((gR h.G h.Z).2.b2=4)
def d4{j:cL} : jN j=true↔eR j.Y=true/\0<=j.b2/\j.b2<=5/\0<=j.b/\j.b<=j.Y.U.length:=by
 unfold jN;simp only[I0,C0]
def fZ{p:cC}(h:eR p=true)(a:i<p.U.length):0<=nth p.U i/\nth p.U i<=15:=by
 unfold eR at h;simp only[I0]at h;have:=eZ h.1 a;unfold mw at this;rw[C0]at this;exact⟨this.1,this.2.1⟩
structure JS(h:ab)(k:ah)(j:cL):Prop where
 ker:aA k=true
 len:k.F.R.O.length=(tbl h).O.length
 pg:j.b2≠4\/JI h->Pg k.F.R h.q h.K h.J
 ph:0<=j.b2/\j.b2<=5
 plan:j.Y=h.Z.Y
 nxt:0<=j.b/\j.b<=j.Y.U.length
 eq:j.b2≠4->tEq (tbl h) k.F.R
 calls:h.G.Calls<=k.Calls/\k.Calls<=h.G.Calls+1/\k.a0=h.G.a0
def y8(k:ah)(p m:Int):(jR k p m).1.Calls=k.Calls+1/\(jR k p m).1.a0=k.a0:=by
 unfold jR;split<;>exact⟨rfl,rfl⟩
def M3(k:ah)(p o:Int):(vJ k p o).1.Calls=k.Calls+1/\(vJ k p o).1.a0=k.a0:=by
 unfold vJ;split
 ·exact⟨rfl,rfl⟩
 obtain⟨-,a,b,-⟩:=mP (vI (bY k) p.toNat ⟨2,(nth k.F.R.O o.toNat).e⟩) (nth k.F.R.O p.toNat).e;simp only[a,b];exact⟨rfl,rfl⟩
def JS.of(c:aT h E)(B:h.u=true):JS h (gR h.G h.Z).1 (gR h.G h.Z).2:=by
 obtain⟨R,-,-⟩:=c.job B;obtain⟨O,y,A,o,p⟩:=d4.1 R;unfold gR;split
 case isFalse=>exact⟨c.ker,rfl,λ_=>c.pg,⟨y,A⟩,rfl,⟨o,p⟩,λ_=>tEq.refl _,v5 _,by show h.G.Calls<=h.G.Calls+1;omega,rfl⟩
 rename_i d;unfold jmay at d;simp only[I0,C0]at d;obtain⟨⟨-,C⟩,-,u,r,D⟩:=d;have fin:∀(k:ah)(j:cL),aA k=true->tEq (tbl h) k.F.R->0<=j.b2/\j.b2<=5->j.Y=h.Z.Y->0<=j.b/\j.b<=j.Y.U.length->h.G.Calls<=k.Calls/\k.Calls<=h.G.Calls+1/\k.a0=h.G.a0->JS h k j:=
  λk j S F T U V W=>⟨S,F.1,λ_=>c.pg.tEq F,T,U,V,λ_=>F,W⟩
 have P:=(aD.1 c.ker).2.2.2.2;unfold jstep;split
 ·obtain⟨l,w⟩:=EN c.ker C r (m:=1) (.inl rfl)
  obtain⟨g,t⟩:=y8 h.G h.Z.Y.a4 1;refine fin _ _ l w ?_ rfl ⟨o,p⟩ ⟨by rw[g];omega,by rw[g];omega,t⟩;show 0<=(if _ then _ else _:Int)/\(if _ then _ else _:Int)<=5;split<;>omega
 split
 ·split
  ·exact fin _ _ c.ker (tEq.refl _) ⟨by show(0:Int)<=2;omega,by show(2:Int)<=5;omega⟩ rfl ⟨o,p⟩ ⟨v5 _,by show h.G.Calls<=h.G.Calls+1;omega,rfl⟩
  have n:=fZ O (i:=h.Z.b.toNat) ω;refine fin _ _ (M9 c.ker r u n) (tEq.refl _) ⟨y,A⟩ rfl ⟨by show 0<=h.Z.b+1;omega,by show h.Z.b+1<=h.Z.Y.U.length;omega⟩ ⟨v5 _,by show h.G.Calls<=h.G.Calls+1;omega,rfl⟩
 split
 ·have G:h.Z.Y.a4≠h.Z.Y.a5:=λe=>D (by rw[e])
  have l:=Me c.ker C r u G;obtain⟨g,t⟩:=M3 h.G h.Z.Y.a4 h.Z.Y.a5;cases e:(vJ h.G h.Z.Y.a4 h.Z.Y.a5).2 with
  | false=>
   rw[C9 (by simp)];refine fin _ _ l (tEq.of ?_) ⟨by show(0:Int)<=3;omega,by show(3:Int)<=5;omega⟩ rfl ⟨o,p⟩ ⟨by rw[g];omega,by rw[g];omega,t⟩;rw[Ms e];rfl
  | true=>
   rw[CC rfl];obtain⟨X,m2,Y,-⟩:=bS c.ker r;obtain⟨n1,n2,Z,-⟩:=bS c.ker u;have f:=Jd c.ker r e;refine⟨l,(f 0).1,λH=>?_,⟨by show(0:Int)<=4;omega,by show(4:Int)<=5;omega⟩,rfl,⟨o,p⟩,λJ=>absurd rfl J,by rw[g];omega,by rw[g];omega,t⟩;have Q:JI h:=H.elim (λJ=>absurd rfl J) id;obtain⟨a,ha,b,hb,K,M,N⟩:=Q.sp B;refine c.pg.on c.L ha hb N (by rw[K];exact Q.sk B) (by rw[K];show(nth h.G.F.R.O _).j≠0;rw[<-Z];exact u) (by rw[M];show(nth h.G.F.R.O _).j≠0;rw[<-Y];exact r) (by rw[M];exact X) (f 0).1 λq=>?_
   rw[(f q).2,M,K];rfl
 split
 ·split
  ·rename_i hn0
   have n:=fZ O (i:=(h.Z.b - 1).toNat) ω;have hk0:=(bS c.ker u).1;obtain⟨l,w⟩:=KZ c.ker (a:=h.Z.Y.a5*16+nth h.Z.Y.U (h.Z.b - 1).toNat) (v:=0) ω ⟨ω,ω⟩;exact fin _ _ l (tEq.of w) ⟨y,A⟩ rfl ⟨by show 0<=h.Z.b - 1;omega,by show h.Z.b - 1<=h.Z.Y.U.length;omega⟩ ⟨v5 _,by show h.G.Calls<=h.G.Calls+1;omega,rfl⟩
  obtain⟨l,w⟩:=EN c.ker C r (m:=2) (.inr rfl);obtain⟨g,t⟩:=y8 h.G h.Z.Y.a4 2;refine fin _ _ l w ?_ rfl ⟨o,p⟩ ⟨by rw[g];omega,by rw[g];omega,t⟩;show 0<=(if _ then _ else _:Int)/\(if _ then _ else _:Int)<=5;split<;>omega
 exact fin _ _ c.ker (tEq.refl _) ⟨y,A⟩ rfl ⟨o,p⟩ ⟨v5 _,by show h.G.Calls<=h.G.Calls+1;omega,rfl⟩
def aT.mStep{h:ab}{E:List Int}(d:aT h E)(f:JI h)(c:h.u=true):aT (mStep h) E/\JI (mStep h):=by
 have s:=JS.of d c;unfold Ab.mStep;generalize (gR h.G h.Z).1=k at s |-;generalize (gR h.G h.Z).2=j at s |-;cases e:over j with
 | true=>
  refine⟨d.step s.ker s.len (s.pg (.inr f)) (λh=>by simp at h) (λ_=>by simp[sL]),?_⟩;exact⟨λh=>by simp at h,λh=>by simp at h,λh=>by simp at h,λh=>by simp at h⟩
 | false=>
  simp only[Bool.false_eq_true,if_false];unfold over at e;simp only[X4,not_or]at e;have g:=s.eq e.1;have i:=s.ph;refine⟨d.step s.ker s.len (s.pg (.inr f)) (λ_=>⟨d4.2 ⟨by rw[s.plan];exact(d4.1 (d.job c).1).1,s.ph.1,s.ph.2,s.nxt⟩,by rw[s.plan];exact(d.job c).2⟩) (λh=>by rw[c]at h;cases h),?_⟩;refine⟨λ_=>⟨s.ph.1,by show j.b2<=3;omega⟩,λ_=>?_,λ_=>?_,λ_=>?_⟩
  ·show ∃a∈h.K,∃b∈h.K,a.Q=j.Y.a5/\b.Q=j.Y.a4/\meshable a b=true
   rw[s.plan];exact f.sp c
  ·show oG k.F.R j.Y.a5
   rw[s.plan];exact(f.sk c).tEq g
  show oG k.F.R j.Y.a4;rw[s.plan];exact(f.sm c).tEq g
def eU(k:ah)(a:Int):Int:=nth (nth k.F.W.U (ac k.F.R (a / 16)).e.toNat) (a % 16).toNat
def cellsOf(k:ah)(a:Int)(n:Nat):List Int:=(List.range n).map λ(i:Nat)=>eU k (a+i)
def gx(k:ah)(a:Int)(n:Nat):(cellsOf k a n).length=n:=by simp[cellsOf]
def sK(k:ah)(a:Int)(n:Nat):cellsOf k a (n+1)=cellsOf k a n++[eU k (a+n)]:=by
 unfold cellsOf;rw[List.range_succ,X5];rfl
def Gj(b:aA k=true)(p:Int):0<=(ac k.F.R p).e/\(ac k.F.R p).e<k.F.W.U.length:=by
 obtain⟨-,c,d,-⟩:=aD.1 b;obtain⟨e,f,g,h⟩:=aX.1 c;unfold ac;split
 ·rename_i i
  have:=(bx.1 d).1 p.toNat ω;unfold kF at this;rw[C0]at this;by_cases a:(nth k.F.R.O p.toNat).j=0
  ·have:=this.2.2.1 a;omega
  have:=this.2.2.2 a;omega
 simp only;omega
def MS(a:aA k=true)(b:j<k.F.W.U.length):(nth k.F.W.U j).length=16/\∀i,i<16->0<=nth (nth k.F.W.U j) i/\nth (nth k.F.W.U j) i<=999:=by
 obtain⟨-,c,-⟩:=aD.1 a;obtain⟨e,f,g,d⟩:=aX.1 c;have:=d j b;unfold gQ at this;rw[I0,C0,v4]at this;refine⟨this.1,λi l=>?_⟩;have h:=this.2 _ (am (xs:=nth k.F.W.U j) (i:=i) ω);unfold iB at h;rw[I0,C0]at h;exact h.1
def zk(h:ab)(o:aY)(a:aA h.G=true)(p:0<=o.Addr/\o.Addr<=1000000)(q:o.o<=1000000) :
  zzA 112 false [.ptr (ab.enc .V h),.val (some 4) (aY.enc .V o)] .one (aF .own (cellsOf h.G o.Addr o.o.toNat)):=by
 have b:=bj a;refine fO 48 [] Tryz.func112 rfl ?_ (.inr (bM _))
 repeat'(first|refine gP ?_|fail)
 (conv=>whnf)
 refine CG (ι:=Nat) (λi=>[(0,.iref (ab.enc .V h) 0),(3,.H .box (aY.enc .V o)),(5,.H .one (aF .own (cellsOf h.G o.Addr i))),(6,.H .one [I ((i:Nat):Int)])]) (λi=>i<=o.o.toNat) (λi=>o.o.toNat - i) (0) ?_ (W0 _) λi r=>?_
 ·exact wB
 have c:=gx h.G o.Addr i;by_cases t:i<o.o.toNat
 ·obtain⟨d,u⟩:=Gj a ((o.Addr+i) / 16)
  have e:=ao (xs:=h.G.F.W.U) (i:=(ac h.G.F.R ((o.Addr+i) / 16)).e.toNat) ω;have g:=(MS a (j:=(ac h.G.F.R ((o.Addr+i) / 16)).e.toNat) ω).1;have k:=ao (xs:=nth h.G.F.W.U (ac h.G.F.R ((o.Addr+i) / 16)).e.toNat) (i:=((o.Addr+i) % 16).toNat) ω;have l:IntKind.i64.wrap ((o.Addr+(i:Int)).tdiv 16)=(o.Addr+i) / 16:=by rw[jX ω];exact fo ω ω
  have n:(o.Addr+(i:Int)).tmod 16=(o.Addr+i) % 16:=eG ω
  repeat'(first|refine gE ?_|(conv=>whnf);first|refine CO (by decide) ?_|refine CM l ?_|refine CR n ?_|refine C8 (cz h.G.F.R _ b.1.2) ?_|refine CN d (aa e) ?_|refine CN ω (aa k) ?_|refine Ap.sn cA rfl (by simp;omega) (by decide) rfl ?_)
  (conv=>whnf)
  refine CE (i+1) ω ω ?_;rw[sK]
  (repeat'(first|exact trivial|rfl|exact CL rfl (CL (X0 (C.s dJ.own) (by simp[rI,eU])) trivial)|refine CL ?_ ?_))
 repeat'(first|refine gE ?_|fail)
 obtain rfl:i=o.o.toNat:=ω
 rfl
def DN(h:ab)(a n:Int)(b:aA h.G=true)(q:0<=a/\a<=1000000)(r:n<=1000000) :
  zzA 90 false [.val (some 24) (ab.enc .V h),.val none [I a],.val none [I n]] .one (aF .own (cellsOf h.G a n.toNat)):=by
 have c:=bj b;refine fO 44 [] Tryz.func90 rfl ?_ (.inr (bM _))
 repeat'(first|refine gP ?_|fail)
 (conv=>whnf)
 refine CG (ι:=Nat) (λi=>[(1,.H .one [I (a)]),(2,.H .one [I (n)]),(3,.H .box (ab.enc .V h)),(7,.H .one (aF .own (cellsOf h.G a i))),(8,.H .one [I ((i:Nat):Int)])]) (λi=>i<=n.toNat) (λi=>n.toNat - i) (0) ?_ (W0 _) λi t=>?_
 ·exact wB
 have d:=gx h.G a i;by_cases u:i<n.toNat
 ·obtain⟨e,w⟩:=Gj b ((a+i) / 16)
  have g:=ao (xs:=h.G.F.W.U) (i:=(ac h.G.F.R ((a+i) / 16)).e.toNat) ω;have k:=(MS b (j:=(ac h.G.F.R ((a+i) / 16)).e.toNat) ω).1;have l:=ao (xs:=nth h.G.F.W.U (ac h.G.F.R ((a+i) / 16)).e.toNat) (i:=((a+i) % 16).toNat) ω;have o:IntKind.i64.wrap ((a+(i:Int)).tdiv 16)=(a+i) / 16:=by rw[jX ω];exact fo ω ω
  have p:(a+(i:Int)).tmod 16=(a+i) % 16:=eG ω
  repeat'(first|refine gE ?_|(conv=>whnf);first|refine CO (by decide) ?_|refine CM o ?_|refine CR p ?_|refine C8 (eX h.G.F.R _ c.1.2) ?_|refine CN e (aa g) ?_|refine CN ω (aa l) ?_|refine Ap.sn cA rfl (by simp;omega) (by decide) rfl ?_)
  (conv=>whnf)
  refine CE (i+1) ω ω ?_;rw[sK]
  (repeat'(first|exact trivial|rfl|exact CL rfl (CL (X0 (C.s dJ.own) (by simp[rI,eU])) trivial)|refine CL ?_ ?_))
 repeat'(first|refine gE ?_|fail)
 obtain rfl:i=n.toNat:=ω
 rfl
def DR(h:(denotes sp la a).b5=1):∃i:Nat,i<sp.length/\(denotes sp la a).c6=i/\cW (nth sp i) a=true/\denotes sp la a=nX i (nth sp i) a:=by
 unfold denotes at h |-;cases e:sp.findIdx? (cW · a) with
 | some i=>
  obtain⟨b,d,-⟩:=C7.1 e;refine⟨i,b,rfl,?_,rfl⟩;rw[bg (O2 b)];exact d
 | none=>
  rw[e]at h;simp only at h;cases c:la.findIdx? (bp · a) with
  | some i=>rw[c]at h;simp at h
  | none=>rw[c]at h;simp at h
def E1(h:(denotes sp la a).b5=3):∃i:Nat,i<la.length/\(denotes sp la a).c6=i/\bp (nth la i) a=true/\denotes sp la a = ⟨3,i,0,a - 16*(nth la i).Q⟩:=by
 unfold denotes at h |-;cases e:sp.findIdx? (cW · a) with
 | some i=>
  rw[e]at h;simp only[nX]at h;split at h<;>simp at h
 | none=>
  rw[e]at h;simp only at h |-;cases b:la.findIdx? (bp · a) with
  | some i=>
   obtain⟨c,d,-⟩:=C7.1 b;refine⟨i,c,rfl,?_,rfl⟩;rw[bg (O2 c)];exact d
  | none=>rw[b]at h;simp at h
def iq{n:Int}(h:0<=aG n):1<=n/\n<=8:=by
 unfold aG at h;split at h
 ·omega
 split at h
 ·omega
 split at h
 ·omega
 split at h
 ·omega
 split at h<;>omega
def Qr{o:aY}(c:iI h o=true):0<=o.Addr/\o.Addr<=2000/\1<=o.o/\o.o<=1000:=by
 unfold iI at c;simp only[I0,O6,C0]at c;obtain⟨-,⟨d,e⟩|⟨d,e⟩⟩:=c
 ·obtain⟨i,f,a,b,-⟩:=DR d
  rw[a,Z2]at e;unfold cW bi at b;simp only[I0,C0]at b;have:=iq (n:=o.o) ω;omega
 obtain⟨i,f,a,b,-⟩:=E1 d;rw[a,Z2]at e;unfold bp bH at b;simp only[I0,C0]at b;omega
def xj(a:dM h=true):cr h=true/\fU h=true:=by
 unfold dM at a;simp only[I0]at a;exact⟨a.1.1.2,a.1.2.1⟩
def QH(a:dM h=true):1<=h.b/\h.b<=1000000:=by
 have:=(xj a).1;unfold cr at this;rw[C0]at this;omega
def B4(c:dM h=true)(f:i<h.M.length):1<=(nth h.M i).Id/\(nth h.M i).Id<h.b/\0<=(nth h.M i).Addr/\(nth h.M i).Addr<=2000/\1<=(nth h.M i).o/\(nth h.M i).o<=1000/\∀j,j<i->(nth h.M j).Id≠(nth h.M i).Id:=by
 obtain⟨-,g⟩:=xj c;obtain⟨o,p⟩:=QH c;have a:=eZ g f;rw[fo ω ω]at a;unfold objAt gH at a;simp only[I0,C0,Bool.not_eq_true']at a;obtain⟨⟨k,d⟩,l⟩:=a;have b:=Qr l;refine⟨k.2.1,ω,b.1,b.2.1,b.2.2.1,b.2.2.2,λj n e=>?_⟩;rw[List.any_eq_false]at d;refine d (nth h.M j) ?_ (by unfold ee;exact O0 e);have:(h.M.take i)[j]? = some (nth h.M j):=by rw[List.getElem?_take,CC n,ao ω]
 exact C2 this
def M5(a:dM h=true)(c:i<h.M.length)(d:j<h.M.length)(f:i≠j):(nth h.M i).Id≠(nth h.M j).Id:=by
 rcases Nat.lt_or_ge i j with b|b
 ·exact(B4 a d).2.2.2.2.2.2 i b
 exact λe=>(B4 a c).2.2.2.2.2.2 j ω e.symm
def T6{α:Type}[Inhabited α](f:α->Int)(xs:List α):Nat->Int
 | 0=>0
 | i+1=>T6 f xs i+f (nth xs i)
def bor(n m:Int):Int:=((n.toNat ||| m.toNat:Nat):Int)
def ta(sp:List ax)(p:Int)(b:Int):Nat->Int
 | 0=>b
 | j+1=>if(nth sp j).Q=p then bor (ta sp p b j) (nth sp j).b1 else ta sp p b j
def kE(sp:List ax)(ps:List Int)(b:Int):Nat->Int
 | 0=>b
 | k+1=>ta sp (nth ps k) (kE sp ps b k) sp.length
def ig(h:ab)(i:Nat):Int:=kE h.K (aV h (nth h.K i).Q) (nth h.K i).b1 (aV h (nth h.K i).Q).length
def NH{n:Int}(h1:0<=n/\n<=65535)(a:0<=m/\m<=65535):0<=bor n m/\bor n m<=65535:=by
 have b:n.toNat ||| m.toNat<2 ^ 16:=Nat.or_lt_two_pow ω ω
 unfold bor;omega
def we(h:∀s∈sp,bi s=true)(b:j<sp.length):0<=(nth sp j).b1/\(nth sp j).b1<=65535:=by
 have a:=h _ (am b);have c:=HA (nth sp j).d;unfold bi at a;rw[C0]at a;omega
def wg{sp:List ax}(h:∀s∈sp,bi s=true){p b:Int}(a:0<=b/\b<=65535):∀j,j<=sp.length->0<=ta sp p b j/\ta sp p b j<=65535
 | 0,_=>a
 | j+1,d=>by
  have c:=wg h (p:=p) a j ω;simp only[ta];split
  ·exact NH c (we h ω)
  exact c
def rY{sp:List ax}(h:∀s∈sp,bi s=true){ps:List Int}{b:Int}(a:0<=b/\b<=65535):∀k,0<=kE sp ps b k/\kE sp ps b k<=65535
 | 0=>a
 | k+1=>by simp only[kE];exact wg h (rY h a k) _ (I3 _)
def nu{i:Int}(a:0<=b)(c:0<=i/\i<=15):aW b i=b.toNat.testBit i.toNat:=by
 unfold aW;rw[Nat.testBit_eq_decide_div_mod_eq];refine decide_eq_decide.2 ?_;obtain⟨n,rfl⟩ : ∃n:Nat,b=n:=⟨b.toNat,ω⟩
 rw[Z2];have d:((n / 2 ^ i.toNat:Nat):Int)=(n:Int) / 2 ^ i.toNat:=by simp
 omega
def Hw{n i:Int}(b:0<=n)(c:0<=m)(a:0<=i/\i<=15):aW (bor n m) i=(aW n i || aW m i):=by
 rw[nu (by unfold bor;omega) a,nu b a,nu c a];unfold bor;rw[Z2,Nat.testBit_or]
def Fn{sp:List ax}(h:∀s∈sp,bi s=true){p b i:Int}(k:0<=b/\b<=65535)(l:0<=i/\i<=15):∀j,j<=sp.length->(aW (ta sp p b j) i=true↔aW b i=true\/∃q,q<j/\(nth sp q).Q=p/\aW (nth sp q).b1 i=true)
 | 0,_=>by simp[ta]
 | j+1,t=>by
  have n:=Fn h (p:=p) k l j ω;have o:=wg h (p:=p) k j ω;have r:=we h (j:=j) ω;simp only[ta];split
  ·rename_i d
   rw[Hw o.1 r.1 l,O6,n];constructor
   ·rintro((e|⟨q,f,a⟩)|e)
    ·exact .inl e
    ·exact .inr ⟨q,ω,a⟩
    exact .inr ⟨j,ω,d,e⟩
   rintro(e|⟨q,f,a,c⟩)
   ·exact .inl (.inl e)
   by_cases g:q=j
   ·subst g;exact .inr c
   exact .inl (.inr ⟨q,ω,a,c⟩)
  rename_i d;rw[n];constructor
  ·rintro(e|⟨q,f,a⟩)
   ·exact .inl e
   exact .inr ⟨q,ω,a⟩
  rintro(e|⟨q,f,a,c⟩)
  ·exact .inl e
  by_cases g:q=j
  ·subst g;exact absurd a d
  exact .inr ⟨q,ω,a,c⟩
def zT{sp:List ax}(h:∀s∈sp,bi s=true){ps:List Int}{b i:Int}(d:0<=b/\b<=65535)(f:0<=i/\i<=15):∀k,(aW (kE sp ps b k) i=true↔aW b i=true\/∃u,u<k/\∃q,q<sp.length/\(nth sp q).Q=nth ps u/\aW (nth sp q).b1 i=true)
 | 0=>by simp[kE]
 | k+1=>by
  have g:=zT h (ps:=ps) d f k;have j:=rY h (ps:=ps) d k;simp only[kE];rw[Fn h j f _ (I3 _),g];constructor
  ·rintro((e|⟨u,c,a⟩)|⟨q,c,a⟩)
   ·exact .inl e
   ·exact .inr ⟨u,ω,a⟩
   exact .inr ⟨k,ω,q,c,a⟩
  rintro(e|⟨u,c,a⟩)
  ·exact .inl (.inl e)
  by_cases l:u=k
  ·subst l;exact .inr a
  exact .inl (.inr ⟨u,ω,a⟩)
def kM(p:α->Bool)(xs:List α):Nat:=(xs.findIdx? p).getD xs.length
def jt(p:α->Bool)(xs:List α)(y:α):List α:=xs.take (kM p xs)++y::xs.drop (kM p xs)
def PH(p:α->Bool)(xs:List α):kM p xs<=xs.length:=by
 unfold kM;cases e:xs.findIdx? p with
 | none=>exact I3 _
 | some i=>exact Nat.le_of_lt (C7.1 e).1
def kT(p:α->Bool)(xs:List α)(y:α):(jt p xs y).Perm (y::xs):=by
 unfold jt;refine List.perm_middle.trans ?_;rw[List.take_append_drop]
def cM{p:α->Bool}{xs:List α}{y z:α} : z∈jt p xs y↔z=y\/z∈xs:=by
 rw[(kT p xs y).mem_iff,List.mem_cons]
def vS{p:α->Bool}{xs:List α}(c:i<=xs.length)(a:∀(j:Nat)(z:α),j<i->xs[j]? = some z->p z=false)(b:∀z,xs[i]? = some z->p z=true):kM p xs=i:=by
 unfold kM;by_cases e:i<xs.length
 ·rw[wb (O2 e) (b _ (O2 e)) a];rfl
 rw[Di ω a];show xs.length=i;omega
def mb{f:α->Int}{xs:List α}{y:α}(h:xs.Pairwise λa b=>f a<f b)(p:∀z∈xs,f z≠f y):(jt (λz=>decide (f y<=f z)) xs y).Pairwise λa b=>f a<f b:=by
 have q:∀z∈xs.drop (kM (λz=>decide (f y<=f z)) xs),f y<f z:=λz g=>by
  obtain⟨j,k,rfl⟩:=List.mem_drop_iff_getElem.1 g;have C:=p _ (List.getElem_mem k);cases e:xs.findIdx? (λz=>decide (f y<=f z)) with
  | none=>
   have l:kM (λz=>decide (f y<=f z)) xs=xs.length:=by unfold kM;rw[e];rfl
   rw[l]at k;omega
  | some i=>
   have l:kM (λz=>decide (f y<=f z)) xs=i:=by unfold kM;rw[e];rfl
   obtain⟨r,t,-⟩:=C7.1 e;rw[C0]at t;have c:i+j<xs.length:=by rw[<-l];omega
   have n:f xs[i+j]≠f y:=p _ (List.getElem_mem c);have d:f y<f xs[i+j]:=by
    cases j with
    | zero=>simp only[Nat.add_zero]at n |-;omega
    | succ j=>
     have:=List.pairwise_iff_getElem.1 h i (i+(j+1)) r c ω;omega
   have w:xs[kM (λz=>decide (f y<=f z)) xs+j]? = xs[i+j]?:=by rw[l]
   rw[O2 ω,O2 c]at w;rw[Option.some.inj w];exact d
 have A:∀z∈xs.take (kM (λz=>decide (f y<=f z)) xs),f z<f y:=λz g=>by
  obtain⟨j,k,rfl⟩:=List.mem_take_iff_getElem.1 g;unfold kM at k;cases e:xs.findIdx? (λz=>decide (f y<=f z)) with
  | none=>
   have:=List.findIdx?_eq_none_iff.1 e _ (List.getElem_mem (show j<xs.length by omega));simp only[X4]at this;omega
  | some i=>
   obtain⟨r,t,B⟩:=C7.1 e;simp only[e,Option.getD_some]at k;have:=B j ω;simp only[C0]at this;omega
 unfold jt;refine List.pairwise_append.2 ⟨h.sublist (List.take_sublist ..),List.pairwise_cons.2 ⟨q,h.sublist (List.drop_sublist ..)⟩,λz g u o=>?_⟩;rcases List.mem_cons.1 o with rfl|o
 ·exact A z g
 exact Int.lt_trans (A z g) (q u o)
def gV(b i:Int):Int:=((b.toNat ||| 2 ^ i.toNat:Nat):Int)
def r6(s:ax)(i:Int):ax:={s with b1:=gV s.b1 i}
def ya(b i:Int)(j:Nat):(gV b i).toNat.testBit j=(b.toNat.testBit j || decide (i.toNat=j)):=by
 unfold gV;rw[Z2,Nat.testBit_or,Nat.testBit_two_pow]
def GK{i:Int}(g:0<=b)(e:0<=i/\i<=15)(j:Int):aW (gV b i) j=true↔aW b j=true\/j=i:=by
 rw[eO,eO,ya,O6,C0];have f:0<=gV b i:=by unfold gV;omega
 constructor
 ·rintro⟨h,c,d,a|a⟩
  ·exact .inl ⟨g,c,d,a⟩
  exact .inr ω
 rintro(⟨h,c,d,a⟩|rfl)
 ·exact⟨f,c,d,.inl a⟩
 exact⟨f,e.1,e.2,.inr rfl⟩
def gI{k:Int}(h:0<=k/\k<=3):lim k=2 ^ (slots k).toNat - 1/\0<=slots k/\slots k<=16/\slots k*csz k=16:=by
 obtain rfl|rfl|rfl|rfl:k=0\/k=1\/k=2\/k=3:=ω
 all_goals decide
def DP(h:bi s=true){i:Int}(k:0<=i/\i<slots s.d):bi (r6 s i)=true:=by
 have b:=aE h;obtain⟨c,l,o,-⟩:=gI b.2.2;unfold bi at h;rw[C0]at h;obtain⟨d,e,f,g,p,a⟩:=h;refine O0 ⟨d,e,f,g,by show 0<=gV s.b1 i;unfold gV;omega,?_⟩;show gV s.b1 i<=lim s.d;rw[c]at a |-;have j:((2 ^ (slots s.d).toNat:Nat):Int)=(2:Int) ^ (slots s.d).toNat:=by norm_cast
 rw[<-j]at a |-;have:=Nat.or_lt_two_pow (x:=s.b1.toNat) (y:=2 ^ i.toNat) (n:=(slots s.d).toNat) ω (Nat.pow_lt_pow_right ω ω);unfold gV;omega
def Bk{u:ax}{i:Int}(b:0<=i/\i<slots s.d)(c:aW u.b1 i=false)(h:meshable s u=true):meshable (r6 s i) u=true:=by
 unfold meshable at h |-;simp only[I0,C0]at h |-;obtain⟨⟨d,f⟩,k,l,o⟩:=h;have p:=aE d;obtain⟨r,t,w,-⟩:=gI p.2.2;have a:=eB f;refine⟨⟨DP d b,f⟩,k,l,?_⟩;refine Nat.eq_of_testBit_eq λj=>?_
 have g:=X0 (λn=>Nat.testBit n j) o;simp only[Nat.testBit_and,Nat.zero_testBit,r6,ya]at g |-;by_cases e:i.toNat=j
 ·have:u.b1.toNat.testBit j=false:=by
   rw[<-U5];intro q;have:=(eO u.b1 i).2 ⟨a.1,b.1,ω,by rw[e];exact q⟩;rw[this]at c;cases c
  rw[this];simp
 rw[U0 e,Bool.or_false];exact g
def uj(h:bi s=true){i:Int}(n:0<=i/\i<slots s.d)(b:Int):eC (r6 s i) b↔eC s b\/b=16*s.Q+i*csz s.d:=by
 have g:=aE h;obtain⟨o,p,k,l⟩:=gI g.2.2;have j:=bW g.2.2;unfold eC;simp only[r6];rw[GK (eB h).1 ω];constructor
 ·rintro⟨d,f,c,a|a⟩
  ·exact .inl ⟨d,f,c,a⟩
  right
  rcases j with e|e|e|e<;>rw[e]at c a |-<;>omega
 rintro(⟨d,f,c,a⟩|rfl)
 ·exact⟨d,f,c,.inl a⟩
 have q:slots s.d<=16:=k;rcases j with e|e|e|e<;>rw[e]at l |-<;>refine⟨?_,?_,?_,.inr ?_⟩<;>omega
def JZ(k:Int)(a:i<sp.length):(sp.set i (r6 (nth sp i) k)).map (·.Q)=sp.map (·.Q):=by
 rw[I6];refine List.ext_getElem (by simp) λj b c=>?_
 rw[List.getElem_set];split
 ·rename_i e;subst e
  rw[List.getElem_map];show(nth sp i).Q=_;rw[bg (O2 a)]
 rfl
def jF.setS(p:oD sp la)(g:i<sp.length){k:Int}(h:0<=k/\k<slots (nth sp i).d)(b c:Int):jF (sp.set i (r6 (nth sp i) k)) b c↔jF sp b c\/(b=16*(nth sp i).Q+k*csz (nth sp i).d/\(c<0\/(nth sp i).d=c)):=by
 have d:=p.sok _ (am g);constructor
 ·rintro⟨s,l,f,a⟩
  rcases dH l with rfl|⟨j,n,q,rfl⟩
  ·rcases(uj d h b).1 f with o|o
   ·exact .inl ⟨_,am g,o,a⟩
   exact .inr ⟨o,a⟩
  exact .inl ⟨_,am n,f,a⟩
 rintro(⟨s,l,f,a⟩|⟨f,a⟩)
 ·obtain⟨j,n,rfl⟩:=aM l
  by_cases e:j=i
  ·subst e
   exact⟨_,iP _ g,(uj d h b).2 (.inl f),a⟩
  exact⟨_,jT _ n e,f,a⟩
 exact⟨_,iP _ g,(uj d h b).2 (.inr f),a⟩
def PL(d:aT h E)(l:i<h.K.length){k:Int}(p:0<=k/\k<=15)(b:aW (ig h i) k=false):aW (nth h.K i).b1 k=false/\∀u∈h.K,(nth (tbl h).O u.Q.toNat).e=(nth (tbl h).O (nth h.K i).Q.toNat).e->aW u.b1 k=false:=by
 have e:=d.L;have q:=eB (e.sok _ (am l));unfold ig at b;rw[<-U5,zT e.sok q p]at b;rw[not_or]at b;have r:aW (nth h.K i).b1 k=false:=by simpa using b.1
 have a:∀s∈h.K,s.Q.toNat<fe h/\(nth (tbl h).O s.Q.toNat).j≠0/\((s.Q.toNat:Nat):Int)=s.Q:=λs f=>by
  have K:=aE (e.sok s f);have M:=d.pg.bnd s.Q (d7 f);have n:s.Q.toNat<(tbl h).O.length:=ω
  have o:((s.Q.toNat:Nat):Int)=s.Q:=ω
  exact⟨n,(d.pg.own _ n).2 (by rw[o];exact d7 f),o⟩
 refine⟨r,λu c t=>?_⟩;rw[<-U5];intro w;obtain⟨y,A,B⟩:=a _ (am l);obtain⟨C,D,F⟩:=a u c;have G:u.Q∈aV h (nth h.K i).Q:=by
  rw[<-B,f8 y A,<-F];exact eP.2 ⟨C,D,t⟩
 obtain⟨v,H,g⟩:=aM G;obtain⟨j,J,rfl⟩:=aM c;exact b.2 ⟨v,H,j,J,g.symm,w⟩
def aT.take{k sd:Int}(g:aT h E)(C:i<h.K.length)(D:0<=k/\k<slots (nth h.K i).d)(r:aW (ig h i) k=false)(M:0<=sd/\sd<=1073741823) :
  aT {h with c1:=sd,K:=h.K.set i (r6 (nth h.K i) k)} ((16*(nth h.K i).Q+k*csz (nth h.K i).d)::E):=by
 have F:=g.L;have T:=F.sok _ (am C);have Q:=aE T;obtain⟨l1,l2,l3,l4⟩:=gI Q.2.2;have hz:=bW Q.2.2;obtain⟨u1,u2⟩:=PL g C ⟨D.1,ω⟩ r;have n:=λb c=>jF.setS F C D b c
 have w:=JZ k C;generalize ha:16*(nth h.K i).Q+k*csz (nth h.K i).d=a at n |-;have G:¬eC (nth h.K i) a:=by
  rintro⟨-,-,-,h4⟩
  have:(a - 16*(nth h.K i).Q) / csz (nth h.K i).d=k:=by
   rw[<-ha];rcases hz with e|e|e|e<;>rw[e]<;>omega
  rw[this,u1]at h4;cases h4
 have hrange:16*(nth h.K i).Q<=a/\a<=16*(nth h.K i).Q+15:=by
  rcases hz with e|e|e|e<;>rw[e]at ha l4<;>omega
 have U:¬mU h.K h.J a:=by
  rintro(⟨s,p,d,-⟩|⟨l,hl,e⟩)
  ·obtain⟨j,V,rfl⟩:=aM p
   have:=ce (f:=(·.Q)) F.nd V C (by have a1:=d.1;have a2:=d.2.1;omega);subst this;exact G d
  exact(xN F hl).1 _ (am C) ω
 have W:a∉E++holders h:=λX=>U ((g.mem a).1 X)
 have q:∀s∈h.K.set i (r6 (nth h.K i) k),∃u∈h.K,u.Q=s.Q/\(s=u\/(u=nth h.K i/\s=r6 u k)):=λs p=>by
  rcases dH p with rfl|⟨j,V,hji,rfl⟩
  ·exact⟨_,am C,rfl,.inr ⟨rfl,rfl⟩⟩
  exact⟨_,am V,rfl,.inl rfl⟩
 generalize hsp:h.K.set i (r6 (nth h.K i) k)=sp at n w q |-;have t:pgs sp h.J=pgs h.K h.J:=by unfold pgs;rw[w]
 have N:∀u∈h.K,∃s∈sp,s.Q=u.Q:=λu r=>by
  have:u.Q∈sp.map (·.Q):=by rw[w];exact O4.2 ⟨u,r,rfl⟩
  obtain⟨s,p,e⟩:=O4.1 this;exact⟨s,p,e⟩
 exact {g with
   lay:=by
     obtain⟨l1,l2,l3⟩:=dY g.lay;unfold bk;simp only[I0,C0];refine⟨⟨v4.2 λs p=>?_,l2⟩,by rw[t];exact l3⟩;obtain⟨u,r,-,rfl|⟨rfl,rfl⟩⟩:=q s p
     · exact F.sok _ r
     exact DP (F.sok _ r) D
   srs:=by
     have d:(h.K.map (·.Q)).Pairwise (λa b=>a<b):=List.pairwise_map.2 g.srs;rw[<-w]at d;exact List.pairwise_map.1 d
   pg:=⟨g.pg.one,by rw[t];exact g.pg.bnd,by rw[t];exact g.pg.own,g.pg.fre,λs p u r O hf=>by
     obtain⟨R,A,Y,Z⟩:=q s p;obtain⟨S,B,eu,P⟩:=q u r;have H:(nth (tbl h).O R.Q.toNat).e=(nth (tbl h).O S.Q.toNat).e:=by rw[Y,eu];exact hf
     have d:=g.pg.mesh R A S B (by rw[Y,eu];exact O) H;rcases Z with rfl|⟨rfl,rfl⟩
     · rcases P with rfl|⟨rfl,rfl⟩
       · exact d
       rw[gK]at d |-;exact Bk D (u2 _ A H) d
     rcases P with rfl|⟨rfl,rfl⟩
     · exact Bk D (u2 _ B H.symm) d
     exact absurd (Y.symm.trans eu) O⟩
   nums:=by
     have:=g.nums;unfold cr at this |-;rw[C0]at this |-;exact⟨M.1,M.2,this.2.2⟩
   oow:=λo ho=>by
     rcases g.oow o ho with⟨s,p,d,h2⟩|d
     · obtain⟨u,r,g1,K⟩:=(n o.Addr (aG o.o)).2 (.inl ⟨s,p,d,.inr h2⟩)
       refine .inl ⟨u,r,g1,?_⟩;rcases K with K|K
       · have:=aE (F.sok _ p);omega
       exact K
     exact .inr d
   hca:=λc Q k D b J=>(n b k).2 (.inl (g.hca c Q k D b J))
   hqu:=λy hy=>(n _ _).2 (.inl (g.hqu y hy))
   hfl:=λb J=>(n _ _).2 (.inl (g.hfl b J))
   hin:=λb J=>by
     rcases List.mem_cons.1 J with rfl|J
     · exact(n _ _).2 (.inr ⟨rfl,.inl (by decide)⟩)
     exact(n _ _).2 (.inl (g.hin b J))
   nd:=by
     rw[List.cons_append];exact List.nodup_cons.2 ⟨W,g.nd⟩
   mem:=λb=>by
     show b∈a::E++holders h↔mU sp h.J b;rw[List.cons_append,List.mem_cons,g.mem b];unfold mU;rw[n];constructor
     · rintro(rfl|d|d)
       · exact .inl (.inr ⟨rfl,.inl (by decide)⟩)
       · exact .inl (.inl d)
       exact .inr d
     rintro((d|⟨d,-⟩)|d)
     · exact .inr (.inl d)
     · exact .inl d
     exact .inr (.inr d)
   job:=λX=>by
     obtain⟨j1,⟨s,p,e1⟩,⟨u,r,e2⟩⟩:=g.job X;obtain⟨R,A,g1⟩:=N s p;obtain⟨S,B,K⟩:=N u r;exact⟨j1,⟨R,A,g1.trans e1⟩,⟨S,B,K.trans e2⟩⟩}
def sN(c:aB)(k:Nat):aB:=⟨c.a.set k ((nth c.a k).take ((nth c.a k).length - 1))⟩
def NY{l:List Int}(h:0<l.length):l=l.take (l.length - 1)++[nth l (l.length - 1)]:=by
 have a:l.drop (l.length - 1)=[nth l (l.length - 1)]:=by
  rw[gt ω,show l.length - 1+1=l.length by omega,List.drop_length]
 rw[<-a,List.take_append_drop]
def aT.pop{k:Nat}(f:aT h E)(l:t<h.S.length)(p:k<(nth h.S t).a.length)(u:0<(nth (nth h.S t).a k).length)(w:bv (sN (nth h.S t) k)=true) :
  aT {h with S:=h.S.set t (sN (nth h.S t) k)} (nth (nth (nth h.S t).a k) ((nth (nth h.S t).a k).length - 1)::E)/\jF h.K (nth (nth (nth h.S t).a k) ((nth (nth h.S t).a k).length - 1)) k:=by
 have q:=NY u;have n:=f.hca _ (am l) k p (nth (nth (nth h.S t).a k) ((nth (nth h.S t).a k).length - 1)) (am ω);refine⟨?_,n⟩;generalize D:nth (nth (nth h.S t).a k) ((nth (nth h.S t).a k).length - 1)=a at q n |-;have r:(E++holders h).Perm (a::E++holders {h with S:=h.S.set t (sN (nth h.S t) k)}):=by
  refine List.perm_iff_count.2 λb=>?_
  have A:=iO (λc:aB=>c.a.flatten) b h.S t (sN (nth h.S t) k) l;have B:=iO (λy:List Int=>y) b (nth h.S t).a k ((nth (nth h.S t).a k).take ((nth (nth h.S t).a k).length - 1)) p;rw[<-lK,<-lK]at B;have C:=X0 (List.count b) q;simp only[C6,List.count_singleton]at C;simp only[sN]at A;simp only[holders,cK,sN,C6,List.cons_append,List.count_cons];omega
 exact {f with
   nc:=by show(h.S.set ..).length=_;rw[U1];exact f.nc
   cach:=λc d=>by
     rcases V6 d with d|rfl
     · exact f.cach c d
     exact w
   onu:=by show ∀o∈h.M,1<=o.Id/\o.Id<=h.b - 1/\0<=o.a3/\o.a3<=(h.S.set t _).length - 1;rw[U1];exact f.onu
   hca:=λc d j i b g=>by
     rcases V6 d with d|rfl
     · exact f.hca c d j i b g
     simp only[sN,U1]at i;simp only[sN,bw]at g;by_cases e:k=j
     · subst e
       rw[CC ⟨rfl,i⟩]at g;exact f.hca _ (am l) _ i b (List.mem_of_mem_take g)
     rw[C9 λy=>e y.1]at g;exact f.hca _ (am l) _ i b g
   hin:=λb g=>by
     rcases List.mem_cons.1 g with rfl|g
     · exact n.any
     exact f.hin b g
   nd:=r.nodup_iff.1 f.nd
   mem:=λb=>by rw[<-r.mem_iff];exact f.mem b}
def Pv(a:Int)(o:aY):Bool:=decide (a<=o.Addr)
def addO(h:ab)(a size t:Int):ab:={h with M:=jt (Pv a) h.M ⟨h.b,a,size,t⟩,b:=h.b+1}
def A4(a:cr h=true)(b:h.b<1000000):decide (0<=h.c1/\h.c1<=1073741823/\0<=h.b3/\h.b3<=1000000/\0<=h.c4/\h.c4<=1000/\1<=h.b+1/\h.b+1<=1000000)=true:=by
 unfold cr at a;rw[C0]at a |-;omega
def aT.addO{h:ab}{E:List Int}{a size t:Int}(c:aT h (a::E))(d:Pn h.K h.J ⟨h.b,a,size,t⟩)(p:h.b<1000000)(q:0<=t/\t<=h.S.length - 1):aT (addO h a size t) E:=by
 have i:=kT (Pv a) h.M ⟨h.b,a,size,t⟩;have n:(a::E++holders h).Perm (E++holders (Ab.addO h a size t)):=by
  have r:=i.map (·.Addr);refine List.perm_iff_count.2 λb=>?_
  have u:=r.count_eq b;simp only[Z5,List.count_cons]at u;simp only[holders,cK,Ab.addO,C6,List.cons_append,List.count_cons];omega
 have j:=c.nd;rw[List.cons_append]at j;obtain⟨k,-⟩:=List.nodup_cons.1 j;have l:∀o∈h.M,o.Addr≠a:=λo d e=>k (C3.2 (.inr (by unfold holders;simp only[C3];exact .inl (.inl (.inl (O4.2 ⟨o,d,e⟩))))))
 exact {c with
   nums:=A4 c.nums p
   osr:=mb (f:=λo:aY=>o.Addr) (y:=⟨h.b,a,size,t⟩) c.osr l
   onu:=λo d=>by
     rcases cM.1 d with rfl|d
     · have:=c.nums
       unfold cr at this;rw[C0]at this;exact⟨by show 1<=h.b;omega,by show h.b<=h.b+1 - 1;omega,q⟩
     have:=c.onu o d;exact⟨this.1,by show o.Id<=h.b+1 - 1;omega,this.2.2⟩
   oid:=by
     show((jt (Pv a) h.M ⟨h.b,a,size,t⟩).map (·.Id)).Nodup;rw[(i.map _).nodup_iff,Z5];refine List.nodup_cons.2 ⟨λw=>?_,c.oid⟩;obtain⟨o,d,e⟩:=O4.1 w;have:=(c.onu o d).2.1;simp only at e;omega
   oow:=λo g=>by
     rcases cM.1 g with rfl|g
     · exact d
     exact c.oow o g
   hin:=λb A=>c.hin b (O5 _ A)
   nd:=n.nodup_iff.1 c.nd
   mem:=λb=>by rw[<-n.mem_iff];exact c.mem b}
end Go.Proofs.YtiopgblagimpmaaGreat.Ab
