/- Spans, objects and pages given back: the reference's contracts, over a whole heap that is lent. No condition. -/
import Derived.Test.YtiopgblagimpmaaGreatKrd
import Derived.Test.YtiopgblagimpmaaGreatKre
import Derived.Deep.LoopGhost
import Derived.Deep.RegionLaw
import Derived.Lib.Walk
import Derived.Sort.WalkB12
import Derived.Lib.SliceRun
import Derived.Shelf.RegionOpenPlain
set_option linter.unusedVariables false
set_option linter.defProp false
set_option linter.unusedSimpArgs false
set_option linter.constructorNameAsVariable false
namespace Go.Proofs.YtiopgblagimpmaaGreat.Ab
open Go.RowKit
set_option maxRecDepth 20000
set_option maxHeartbeats 4000000
variable{rows:List (List C)}{i j g:Nat}
theorem Pu.two{f a:List C}{off k h b:Nat}{cs:List C}{K:List C->Prop}{o c:dM}{rows2:List (List C)}{r d:List C}(h1:f[off]? = some (.s o rows))(n:o.mine=true)(u:rows[i]? = some r)(w:r.length=k)(y:r[j]? = some (.s c rows2))(p:c.mine=true)(A:rows2[g]? = some d)(B:d.length=h)(D:b+cs.length<=h)(E:a=f.set off (.s o (rows.set i (r.set j (.s c (rows2.set g (splice d b cs)))))))(q:K a):Pu f off [(i,k,j),(g,h,b)] cs K:=by
 have t:o≠.W:=λe=>by subst e;cases n
 have l:c≠.W:=λe=>by subst e;cases p
 refine Pu.mk (r:=d) (j:=b) (by grind [cq]) (by grind [kW]) ω (by grind [g9]) q
def xi(x:List au):fz (.s .own (x.map (au.enc .own)))=.s .W (x.map (au.enc .W)):=(List.cons.inj (gq x)).1
def uS(x:List aB):fz (.s .own (x.map (aB.enc .own)))=.s .W (x.map (aB.enc .W)):=(List.cons.inj (mg x)).1
def wU(x:List bu):fz (.s .own (x.map (bu.enc .own)))=.s .W (x.map (bu.enc .W)):=(List.cons.inj (LM x)).1
variable{α:Type}
theorem Ap.dele{e:α->List C}{xs:List α}{sz by_:Nat}{K:List (List C)->Prop}(a:∀y,(e y).length=sz)(b:∀y,bk (e y)=true)(h:xs.length<=1048576)(c:by_<=1000)(d:K ((Ab.dele xs i).map e)):Ap true ((xs.take i).map e) ((xs.drop (i+1)).map e) sz by_ K:=by
 have f:(xs.take i).length+(xs.drop (i+1)).length<=2097152:=ψ
 refine CU (aM a) (aM a) (λ_ r g=>by obtain⟨y,-,rfl⟩:=O5.1 g;exact b y) (by rw[I1,I1];omega) (by rw[I1,I1];exact C6 (Nat.mul_le_mul f c) (by decide)) ?_ d;unfold Ab.dele;rw[C7]
def Ll(h:ab)(p:Int)(a:aI.sml h.G.F.Q):zzA 485 false [.ptr (ab.enc .W h),.val none [I p]] .one [I (ac h.G.F.Q p).j]:=by
 refine fO 13 [] Tryz.func485 rfl ?_
 repeat'(first|refine gP ?_|(conv=>whnf);first|refine CC ?_|refine C9 (du h.G.F.Q p a) ?_)
 rfl
def RZ(h:ab):List C:=(bE h).drop 5
def Uq(h:ab)(k:af):bE {h with G:=k} = af.enc .own k++RZ h:=rfl
def Ge(h:ab):RZ h=[.s .own (h.w.map (a8.enc .own)),.s .own (h.J.map (au.enc .own)),.s .own (h.M.map (aB.enc .own)),.s .own (h.O.map (bu.enc .own)),.s .own (h.S.map (aC.enc .own)),.s .own (h.y.V.map (cS .own)),.s .own (h.y.a1.map (aF .own)),I h.a9.c0,.s .own (h.a9.a6.map (aR.enc .own)),I h.b8,I h.b3,I h.c2,I h.b,B h.o,I h.Y.X.a2,I h.Y.X.a0,.s .W (h.Y.X.T.map (rI .W)),I h.Y.b1,I h.Y.b]:=rfl
def Lx(h:ab)(f:Int)(a:aI.sml h.G.F.Q)(b:0<=f/\f<h.G.F.U.T.length/\f<h.G.F.U.a3.length) :
  zzB 486 false [.ptr (bE h),.val none [I f]] [.ptr (bE {h with G:=fE h.G f}),.val none [I f]] (.tup []) []:=by
 have c:=ao (xs:=h.G.F.U.T) (i:=f.toNat) ω;have d:=ao (xs:=h.G.F.U.a3) (i:=f.toNat) ω;rw[Uq h (fE h.G f)];by_cases e:(pagesOn h.G.F.Q f).length=0
 ·rw[uD e,Ge]
  refine fM 30 [] [(2,8,[21,22,23,24,25,26,27,28])] [(0,0),(0,0)] Tryz.func486 rfl (λu q=>?_) (.inr trivial)
  repeat'(first|refine gB ?_|(conv=>whnf);first|with_reducible (first|refine CN b.1 (aa d) ?_|refine CN b.1 (aa c) ?_)|refine CC ?_|refine CH (iv h.G.F.Q f a) ⟨⟨rfl,Cc h.G.F.Q⟩,⟨rfl,rfl⟩,trivial⟩ ?_|refine CQ rfl rfl (aa c) rfl (O1 rfl) rfl ?_|refine CQ rfl rfl (aa d) rfl (O1 rfl) rfl ?_|refine Mk.mk 16 rfl rfl (by decide) (by decide) rfl ?_)
  refine CJ rfl rfl ?_;exact wB
 rw[xy e];show aT _ _ _ [.ptr (bE h),_] [.ptr (bE h),_] _ _;refine fM 30 [] [(2,8,[21,22,23,24,25,26,27,28])] [(0,0),(0,0)] Tryz.func486 rfl (λu q=>?_) (.inr trivial)
 repeat'(first|refine gB ?_|(conv=>whnf);first|refine CC ?_|refine CH (iv h.G.F.Q f a) ⟨⟨rfl,Cc h.G.F.Q⟩,⟨rfl,rfl⟩,trivial⟩ ?_)
 refine CJ rfl rfl ?_;exact wB
theorem nB(h:ab)(p:Int)(b:ay h.G=true) :
  zzB 374 false [.ptr (bE h),.val none [I p]] [.ptr (bE {h with G:=cg h.G p}),.val none [I p]] .one [B (decide ((ac h.G.F.Q p).j≠0))]:=by
 have k:=bj b;have c:=Ll h p k.1.2;by_cases a:(ac h.G.F.Q p).j=0
 ·rw[show cg h.G p=h.G by unfold cg;rw[CD a]]
  refine fM 32 [(486,[2,0])] [] [(0,0),(0,0)] Tryz.func374 rfl (λu q=>?_)
  repeat'(first|refine gB ?_|(conv=>whnf);first|refine CC ?_|refine CH (c) ⟨bK h,⟨rfl,rfl⟩,trivial⟩ ?_)
  refine CJ rfl ?_ ?_
  ·exact Z0 (λz=>[B z]) ((by simp[a]))
  exact wB
 obtain⟨l,r,n,d,o⟩:=bD b a;have j:=(aO.1 (a7.1 b).2.1).2.2.1;rw[show cg h.G p=fE (lh h.G p) (ac h.G.F.Q p).d by unfold cg;rw[CB a]];have e:=Lx {h with G:=lh h.G p} (ac h.G.F.Q p).d (x4 b) ⟨d,by grind [lh],by grind [lh]⟩;rw[Uq h (lh h.G p),xd,Ge]at e;have g:=ao (xs:=h.G.F.Q.K) (i:=p.toNat) ω;rw[n]at c e a |-;refine fM 32 [(486,[2,0])] [] [(0,0),(0,0)] Tryz.func374 rfl (λu q=>?_)
 repeat'(first|refine gB ?_|(conv=>whnf);first|with_reducible refine CN l (aa g) ?_|refine CC ?_|refine CH (c) ⟨bK h,⟨rfl,rfl⟩,trivial⟩ ?_|refine CQ rfl rfl (aa g) rfl (O1 rfl) rfl ?_|refine CK rfl (aa g) rfl ?_|refine CL (e) (.inl rfl) ?_)
 refine CJ rfl ?_ ?_
 ·exact Z0 (λz=>[B z]) ((by simp[a]))
 exact wB
def wh(h:ab)(p:Int):zzA 367 false [.ptr (ab.enc .W h),.val none [I p]] .one [B (fx h p)]:=by
 cases e:h.o
 all_goals
  have b:ab.enc .W h=(ab.enc .W h).set 18 (B h.o):=rfl;rw[e]at b;rw[b];refine fO 29 [] Tryz.func367 rfl ?_
  repeat'(first|refine gP ?_|(conv=>whnf);first|with_reducible (first|refine Bf.D (λa=>?_) (λa=>?_)|refine Bf.E (λa=>?_) (λa=>?_)|refine Bf.N (λa=>?_) (λa=>?_))|refine CC ?_)
  all_goals exact Z0 (λz=>[B z]) ((by unfold fx;rw[e];first|(simp[*];done)|(simp[*];rw[Z5];simp)))
def iJ(h:ab):zzA 372 false [.ptr (ab.enc .W h)] .one [I (eZ h:Nat)]:=by
 refine fO 11 [] Tryz.func372 rfl ?_
 repeat'(first|refine gP ?_|(conv=>whnf);first|refine CC ?_)
 rfl
theorem r7(h:ab)(a:Int)(k:h.O.length<=1048576):zzA 509 false [.val (some 24) (ab.enc .W h),.val none [I a]] .one [I (ee (mN a) h.O)]:=by
 refine fO 22 [] Tryz.func509 rfl ?_
 repeat'(first|refine gP ?_|(conv=>whnf);first|refine CC ?_)
 (conv=>whnf)
 refine CG (ι:=Nat) (λi=>[(1,.H .one [I (a)]),(2,.H .box (ab.enc .W h)),(5,.H .one [I ((i:Nat):Int)])]) (λi=>i<=h.O.length/\∀(j:Nat)(z:bu),j<i->h.O[j]? = some z->mN a z=false) (λi=>h.O.length - i) (0) ?_ ψ λi c=>?_
 ·exact wB
 obtain⟨c,d⟩:=c;by_cases g:i<h.O.length
 ·have b:=ao g
  by_cases e:(nth h.O i).Addr=a
  ·repeat'(first|refine gB ?_|(conv=>whnf);first|with_reducible refine CE (aa b) ?_|refine CC ?_)
   grind [dS,mN]
  repeat'(first|refine gB ?_|(conv=>whnf);first|with_reducible refine CE (aa b) ?_|refine CC ?_)
  ((conv=>whnf);refine CF (i+1) ⟨ω,fY b (by grind [mN]) d⟩ ω ?_;(exact wB))
 repeat'(first|refine gE ?_|(conv=>whnf);first|refine CC ?_)
 exact Z0 (λz=>[I z]) (gx ω d).symm
def o7(h:ab)(i:Nat)(b:i<h.O.length)(a:h.O.length<=1048576):zzB 513 false [.ptr (bE h),.val none [I (i:Nat)]] [.ptr (bE {h with O:=dele h.O i}),.val none [I (i:Nat)]] (.tup []) []:=by
 refine fM 23 [] [(0,273,[4,5,6,7,8,9,10,11,13,14,15,16,17,18,19,21,22,0,1,2,3,4,5,6,7,9,10,11,12,13,14,15,8,1000,1009,1010,1011,1012,1013,1014,1015,16,1000,17,18,19]),(1048576,0,[8])] [(0,0),(0,0)] Tryz.func513 rfl (λu q=>?_) (.inr trivial)
 repeat'(first|refine gP ?_|(conv=>whnf);first|refine CC ?_|refine Hq.mk rfl (wU h.O) rfl ?_|refine CX i rfl (by rw[I1];omega) (aM λ_=>rfl) C5 ?_|refine Cb (i+1) rfl (by rw[I1];omega) (aM λ_=>rfl) I5 ?_|refine CY (λ_=>rfl) (λ_=>rfl) (by rw[C2];omega) (by decide) ?_|refine Ap.dele (λ_=>rfl) (λ_=>rfl) a (by decide) ?_|refine CR (λ_=>rfl) (λ_=>rfl) (by rw[C2];omega) (by decide) ?_|refine CC ?_)
 refine CJ rfl rfl ?_;exact wB
theorem Ee(h:ab)(E:List Int)(i:Nat)(a:aU h E)(e:i<h.J.length):zzB 524 false [.ptr (bE h),.val none [I (i:Nat)]] [.ptr (bE (giveP h i)),.val none [I (i:Nat)]] (.tup []) []:=by
 have b:=a.lens;have g:=b.spans;have c:=ao e;have j:=nB {h with J:=dele h.J i} (nth h.J i).R a.ker;have d:=iJ {h with G:=cg h.G (nth h.J i).R,J:=dele h.J i};rw[show eZ {h with G:=cg h.G (nth h.J i).R,J:=dele h.J i} = eZ h from(jT _ _).1]at d;have k:eZ h<=32:=b.ents;have l:=mT (eZ h:Nat) h.w ⟨(nth h.J i).R,1⟩ ω ⟨by grind [oX.free],λ_ _=>trivial⟩;refine fM 52 [(374,[2,0])] [(1,273,[13,14,15,16,17,18,19,20,22,23,24,25,26,27,28,30,31,0,1,2,3,4,5,6,7,9,10,11,12,13,14,15,8,1000,1009,1010,1011,1012,1013,1014,1015,16,1000,17,18,19]),(1048577,0,[6]),(3,270,[38,39,40,41,42,43,44,45,47,37,48,49,50,51,0,1,2,3,4,5,6,7,8,1000,1001,1002,1003,1004,1005,1006,9,10,11,12,13,14,15,1012])] [(0,0),(0,0)] Tryz.func524 rfl (λu q=>?_) (.inr trivial)
 repeat'(first|refine gP ?_|(conv=>whnf);first|with_reducible refine CE (aa c) ?_|refine CC ?_|refine Hq.mk rfl (xi h.J) rfl ?_|refine CX i rfl (by rw[I1];omega) (aM λ_=>rfl) C5 ?_|refine Cb (i+1) rfl (by rw[I1];omega) (aM λ_=>rfl) I5 ?_|refine CY (λ_=>rfl) (λ_=>rfl) (by rw[C2];omega) (by decide) ?_|refine Ap.dele (λ_=>rfl) (λ_=>rfl) ω (by decide) ?_|refine CR (λ_=>rfl) (λ_=>rfl) (by rw[C2];omega) (by decide) ?_|refine CK rfl (aa c) rfl ?_|refine CC ?_|refine CL (j) (.inl rfl) ?_|refine CH (d) ⟨bK _,trivial⟩ ?_|refine CH (l) ⟨⟨rfl,rfl⟩,⟨rfl,eD h.w⟩,⟨rfl,rfl⟩,trivial⟩ ?_)
 refine CJ rfl rfl ?_;exact wB
def yK(h:ab)(i:Nat)(a:Int):bE (clrS h i a)=(bE h).set 6 (.s .own ((h.J.map (au.enc .own)).set i (au.enc .own (kL (nth h.J i) (cM (nth h.J i) a))))):=by
 simp[bE,clrS,V7]
theorem nZ{β:Type}{f:α->β}{xs:List α}{y:β}(a:i<xs.length):((xs.map f).set i y)[i]? = some y:=ψ
variable{a:Int}{s:au}
def LS(c:bf s=true)(b:eJ s a):jo s a=(cM s a,0):=by
 unfold jo;rw[CD ((gZ c).2 ⟨b.1,b.2.1⟩),b.2.2.1];rfl
theorem o6(h:ab)(E:List Int)(a:Int)(c:aU h (a::E)):zzB 426 false [.ptr (bE h),.val none [I a]] [.ptr (bE (freeA h a)),.val none [I a]] (.tup []) []:=by
 obtain⟨j,n,t⟩:=c.at (c.hin a ψ);have d:=(c.hin a ψ).bd c;have B:=c.lens;have C:=B.spans;have e:=c.L.sok _ (am j);have k:=kH h (a / 16) ω;rw[t]at k;unfold freeA;generalize uI h a=i at j n k e;have b:=ao j;have o:=vQ (nth h.J i) a ⟨ω,ω⟩;rw[LS e n]at o;have w:=A9 (nth h.J i) (cM (nth h.J i) a) e n.2.2.2;have D:=c.give j n;have l:=wh (clrS h i a) (nth h.J i).R;rw[show fx (clrS h i a) (nth h.J i).R=fx h (nth h.J i).R from rfl]at l;have p:=Ee (clrS h i a) E i D (by grind [clrS]);have r:=bK (clrS h i a);rw[yK]at p r;have g:((h.J.map (au.enc .own)).set i (au.enc .own (kL (nth h.J i) (cM (nth h.J i) a))))[i]? = some (au.enc .own (kL (nth h.J i) (cM (nth h.J i) a))):=nZ j;unfold freeS;by_cases y:(kL (nth h.J i) (cM (nth h.J i) a)).b2=0
 ·cases F:fx h (nth h.J i).R<;>rw[F]at l
  ·rw[CD ⟨y,rfl⟩]
   refine fM 68 [(524,[2,0])] [(2,274,[26,27,28,29,30,31,32,33,34,35,36,37,38,39,25,40,41,42,0,1,2,3,4,5,6,7,8,9,10,11,12,13,14,15,16,17,18,1016])] [(0,0),(0,0)] Tryz.func426 rfl (λu q=>?_) (.inr trivial)
   repeat'(first|refine gB ?_|(conv=>whnf);first|with_reducible refine CO ((Z0 _ (tdiv16 d.1)).trans (eX ω ω)) ?_|refine CC ?_|refine CP (by decide) ?_|refine CH (k) ⟨⟨rfl,bK h⟩,⟨rfl,rfl⟩,trivial⟩ ?_|refine CE (aa b) ?_|refine CE g ?_|refine CK rfl (aa b) rfl ?_|refine CK rfl g rfl ?_|refine C9 (o) ?_|refine C9 (w) ?_|refine CC ?_|refine CQ rfl rfl (aa b) rfl (O1 rfl) rfl ?_|refine CH (l) ⟨r,⟨rfl,rfl⟩,trivial⟩ ?_|refine CL (p) (.inl rfl) ?_)
   refine CJ rfl rfl ?_;exact wB
  rw[CB ψ];rw[yK];refine fM 68 [(524,[2,0])] [(2,274,[26,27,28,29,30,31,32,33,34,35,36,37,38,39,25,40,41,42,0,1,2,3,4,5,6,7,8,9,10,11,12,13,14,15,16,17,18,1016])] [(0,0),(0,0)] Tryz.func426 rfl (λu q=>?_) (.inr trivial)
  repeat'(first|refine gB ?_|(conv=>whnf);first|with_reducible refine CO ((Z0 _ (tdiv16 d.1)).trans (eX ω ω)) ?_|refine CC ?_|refine CP (by decide) ?_|refine CH (k) ⟨⟨rfl,bK h⟩,⟨rfl,rfl⟩,trivial⟩ ?_|refine CE (aa b) ?_|refine CE g ?_|refine CK rfl (aa b) rfl ?_|refine CK rfl g rfl ?_|refine C9 (o) ?_|refine C9 (w) ?_|refine CC ?_|refine CQ rfl rfl (aa b) rfl (O1 rfl) rfl ?_|refine CH (l) ⟨r,⟨rfl,rfl⟩,trivial⟩ ?_|refine CL (p) (.inl rfl) ?_)
  refine CJ rfl rfl ?_;exact wB
 rw[CB λx=>y x.1];rw[yK];refine fM 68 [(524,[2,0])] [(2,274,[26,27,28,29,30,31,32,33,34,35,36,37,38,39,25,40,41,42,0,1,2,3,4,5,6,7,8,9,10,11,12,13,14,15,16,17,18,1016])] [(0,0),(0,0)] Tryz.func426 rfl (λu q=>?_) (.inr trivial)
 repeat'(first|refine gB ?_|(conv=>whnf);first|with_reducible refine CO ((Z0 _ (tdiv16 d.1)).trans (eX ω ω)) ?_|refine CC ?_|refine CP (by decide) ?_|refine CH (k) ⟨⟨rfl,bK h⟩,⟨rfl,rfl⟩,trivial⟩ ?_|refine CE (aa b) ?_|refine CE g ?_|refine CK rfl (aa b) rfl ?_|refine CK rfl g rfl ?_|refine C9 (o) ?_|refine C9 (w) ?_|refine CC ?_|refine CQ rfl rfl (aa b) rfl (O1 rfl) rfl ?_|refine CH (l) ⟨r,⟨rfl,rfl⟩,trivial⟩ ?_|refine CL (p) (.inl rfl) ?_)
 refine CJ rfl rfl ?_;exact wB
def N0(h:ab)(t:Nat)(c:aC):bE {h with S:=h.S.set t c} = (bE h).set 9 (.s .own ((h.S.map (aC.enc .own)).set t (aC.enc .own c))):=by
 simp[bE,V7]
theorem oD(h:ab)(E:List Int)(t:Nat)(a:Int)(b:aU h (a::E))(w:t<h.S.length):zzB 515 false [.ptr (bE h),.val none [I (t:Nat)],.val none [I a]] [.ptr (bE (recyc t h a)),.val none [I (t:Nat)],.val none [I a]] (.tup []) []:=by
 obtain⟨o,y,p⟩:=b.at (b.hin a ψ);have g:=(b.hin a ψ).bd b;have B:=b.lens;have C:=B.spans;have j:=aE (b.L.sok _ (am o));have r:=b.cach _ (am w);have l:=kH h (a / 16) ω;rw[p]at l;have D:=o6 h E a b;unfold recyc;generalize uI h a=i at o y l j;have n:=ao o;have k:=ao w;have d:=AM (nth h.S t) (nth h.J i).e.toNat a r ω;rw[Int.toNat_of_nonneg j.2.2.1]at d;unfold K7 at d;cases e:cput (nth h.S t) (nth h.J i).e a with
 | none=>
  rw[e]at d;refine fM 46 [(426,[2,0])] [(1,277,[16,17,18,19,20,21,22,23,24,25,26,27,28,29,30,31,32,15,33,34,7,0,1,2,3,4,5,6,7,8,9,10,11,12,13,14,15,16,17,18,19,20,21,1019,22]),(3,6,[36,37,38,39,40,41])] [(0,0),(0,0),(0,0)] Tryz.func515 rfl (λu q=>?_) (.inr trivial)
  repeat'(first|refine gP ?_|(conv=>whnf);first|with_reducible refine CO ((Z0 _ (tdiv16 g.1)).trans (eX ω ω)) ?_|refine CC ?_|refine CP (by decide) ?_|refine CH (l) ⟨⟨rfl,bK h⟩,⟨rfl,rfl⟩,trivial⟩ ?_|refine CE (aa n) ?_|refine CE (aa k) ?_|refine CK rfl (aa n) rfl ?_|refine CK rfl (aa k) rfl ?_|refine CH (d) ⟨⟨rfl,aC.enc_fz _⟩,⟨rfl,rfl⟩,⟨rfl,rfl⟩,trivial⟩ ?_|refine CC ?_|refine CL (D) (.inl rfl) ?_)
  refine CJ rfl rfl ?_;exact wB
 | some c=>
  rw[e]at d;simp only;rw[N0];refine fM 46 [(426,[2,0])] [(1,277,[16,17,18,19,20,21,22,23,24,25,26,27,28,29,30,31,32,15,33,34,7,0,1,2,3,4,5,6,7,8,9,10,11,12,13,14,15,16,17,18,19,20,21,1019,22]),(3,6,[36,37,38,39,40,41])] [(0,0),(0,0),(0,0)] Tryz.func515 rfl (λu q=>?_) (.inr trivial)
  repeat'(first|refine gP ?_|(conv=>whnf);first|with_reducible refine CO ((Z0 _ (tdiv16 g.1)).trans (eX ω ω)) ?_|refine CC ?_|refine CP (by decide) ?_|refine CH (l) ⟨⟨rfl,bK h⟩,⟨rfl,rfl⟩,trivial⟩ ?_|refine CE (aa n) ?_|refine CE (aa k) ?_|refine CK rfl (aa n) rfl ?_|refine CK rfl (aa k) rfl ?_|refine CH (d) ⟨⟨rfl,aC.enc_fz _⟩,⟨rfl,rfl⟩,⟨rfl,rfl⟩,trivial⟩ ?_|refine CC ?_|refine CQ rfl rfl (aa k) rfl (O1 rfl) rfl ?_)
  refine CJ rfl rfl ?_;exact wB
theorem qV(h:ab)(i:Nat)(d:aU h [])(o:i<h.O.length)(t:aL (nth h.O i).q<0):zzB 511 false [.ptr (bE h),.val none [I (i:Nat)]] [.ptr (bE (freeL h i (Au h (nth h.O i).Addr))),.val none [I (i:Nat)]] (.tup []) []:=by
 obtain⟨l,w,y,-⟩:=(ef d (am o)).1 t;obtain⟨p,B,c,-⟩:=wK w y;generalize Au h (nth h.O i).Addr=g at p B c;have a:=d.lens;have C:=a.larges;have D:=a.objs;have b:=ao o;have N:=aQ (d.L.lok _ (am p));have E:eZ h<=32:=a.ents;refine fM 89 [(374,[2,0]),(513,[2,0])] [(4,11,[23,24,25,26,27,28,29,30,31,32,33]),(8,7,[41,42,43,44,45,46,47]),(9,273,[50,51,52,53,54,55,56,57,58,59,60,62,49,63,64,65,66,0,1,2,3,4,5,6,7,8,9,10,11,1000,1001,1002,1003,1004,1005,1006,12,13,14,15,16,17,18,1015]),(10,273,[67,68,69,70,71,72,73,74,76,77,78,79,80,81,82,84,85,0,1,2,3,4,5,6,7,9,10,11,12,13,14,15,8,1000,1009,1010,1011,1012,1013,1014,1015,16,1000,17,18,19]),(1048586,0,[7])] [(0,0),(0,0)] Tryz.func511 rfl (λu q=>?_) (.inr trivial)
 repeat'(first|refine gP ?_|(conv=>whnf);first|refine CC ?_)
 (conv=>whnf)
 refine CG (ι:=Nat) (λk=>[(0,.H .box (bE h)),(1,.H .one [I ((i:Nat):Int)]),(4,.H .one [I ((k:Nat):Int)])]) (λk=>k<=g) (λk=>g - k) (0) ?_ (X0 _) λk O=>?_
 ·exact wB
 have j:=ao (xs:=h.M) (i:=k) ω;have F:=aQ (d.L.lok _ (am (xs:=h.M) (i:=k) ω));have G:0<=(nth h.O i).Addr/\(nth h.O i).Addr<=512:=ω
 by_cases e:k=g
 ·subst e
  repeat'(first|refine gB ?_|(conv=>whnf);first|with_reducible refine CE (aa j) ?_|refine CC ?_|refine CK rfl (aa j) rfl ?_|refine CK rfl (aa b) rfl ?_|refine CE (aa b) ?_)
  (conv=>whnf)
  refine CG (ι:=Nat) (λn=>[(0,.H .box (bE {h with G:=unmN h.G (nth h.M k).R n})),(1,.H .one [I ((i:Nat):Int)]),(4,.H .one [I ((k:Nat):Int)]),(5,.H .box (aB.enc .own (nth h.M k))),(6,.H .one [I ((n:Nat):Int)])]) (λn=>n<=(nth h.M k).a4.toNat) (λn=>(nth h.M k).a4.toNat - n) (0) ?_ (X0 _) λn P=>?_
  ·exact wB
  by_cases Q:n<(nth h.M k).a4.toNat
  ·have H:=nB {h with G:=unmN h.G (nth h.M k).R n} ((nth h.M k).R+n) (iM d.ker _ _)
   repeat'(first|refine gE ?_|(conv=>whnf);first|refine CC ?_|refine CL (H) (.inl rfl) ?_|refine CC ?_)
   ((conv=>whnf);refine CF (n+1) ω ω ?_;(exact wB))
  obtain rfl:n=(nth h.M k).a4.toNat:=ω
  have r:=iJ {h with G:=unmN h.G (nth h.M k).R (nth h.M k).a4.toNat};rw[show eZ {h with G:=unmN h.G (nth h.M k).R (nth h.M k).a4.toNat} = eZ h from(fF _ _ _).1]at r;have J:=mT (eZ h:Nat) h.w ⟨(nth h.M k).R,(nth h.M k).a4⟩ ω ⟨by grind [oX.free],λ_ _=>trivial⟩;have K:=o7 {h with G:=unmN h.G (nth h.M k).R (nth h.M k).a4.toNat,M:=dele h.M k,w:=(cr (eZ h) h.w ⟨(nth h.M k).R,(nth h.M k).a4⟩).getD h.w} i o ψ
  repeat'(first|refine gE ?_|(conv=>whnf);first|refine CC ?_|refine Hq.mk rfl (uS h.M) rfl ?_|refine CX k rfl (by rw[I1];omega) (aM λ_=>rfl) C5 ?_|refine Cb (k+1) rfl (by rw[I1];omega) (aM λ_=>rfl) I5 ?_|refine CY (λ_=>rfl) (λ_=>rfl) (by rw[C2];omega) (by decide) ?_|refine Ap.dele (λ_=>rfl) (λ_=>rfl) ω (by decide) ?_|refine CR (λ_=>rfl) (λ_=>rfl) (by rw[C2];omega) (by decide) ?_|refine CC ?_|refine CH (r) ⟨bK _,trivial⟩ ?_|refine CH (J) ⟨⟨rfl,rfl⟩,⟨rfl,eD h.w⟩,⟨rfl,rfl⟩,trivial⟩ ?_|refine CL (K) (.inl rfl) ?_)
  refine CJ rfl rfl ?_;exact wB
 have M:=c k ω
 repeat'(first|refine gB ?_|(conv=>whnf);first|with_reducible refine CE (aa j) ?_|refine CC ?_|refine CK rfl (aa j) rfl ?_|refine CK rfl (aa b) rfl ?_|refine CE (aa b) ?_)
 ((conv=>whnf);refine CF (k+1) ω ω ?_;(exact wB))
def Tx(q:bO)(x:aR):List C:=bO.enc .own (LJ q x)++de .own (Aj q x)
def Q8(q:bO)(x:aR):hO (Tx q x):=aG (bO.enc_fr _) (wc _)
def EM(q:bO)(a:aR)(K:q.a6.length<=4096)(e:gK q=true)(r:0<=a.e/\a.e<=3/\0<=a.Addr/\0<=a.b7)(t:∀y∈q.a6,y.b7<=a.b7)(u:∀y∈q.a6,y.Addr≠a.Addr) :
  zzA 514 false [.val (some 2) (bO.enc .W q),.val (some 3) (aR.enc .W a)] (.tup [some 2,none]) (Tx q a):=by
 have b:bO.sml q:=⟨ω,λ_ _=>trivial⟩
 have w:=sC q b;have l:=pq q b;rw[e]at l;have n:=BU a;rw[O0 r]at n;have o:=tO q a.Addr b;rw[show q.a6.any (fj a.Addr)=false by rw[List.any_eq_false];intro y B;unfold fj;simpa using u y B]at o;have C:=(k6.1 e).2.2.2;have g:=Q8 q a;have L:(aR.mk a.Addr a.e a.b7)=a:=rfl;have c:=Hc q.c0 (q.a6++[a]);simp only[Z3,List.length_singleton]at c;by_cases E:q.a6.length=0
 all_goals
  try have h:(nth q.a6 (q.a6.length - 1)).b7<=a.b7:=t _ (am ω)
  try have j:=ao (xs:=q.a6) (i:=q.a6.length - 1) ω
  try have d:q.a6[((q.a6.length:Int) - 1).toNat]? = some (nth q.a6 (q.a6.length - 1)):=by rw[show((q.a6.length:Int) - 1).toNat=q.a6.length - 1 by omega];exact j
  refine fO 74 [(3,27,[15,16,17,18,19,20,21,22,23,24,25,26,27,28,29,30,31,32,33,34,35,36,37,38,39,40,41]),(7,6,[52,53,54,55,56,57]),(9,268,[61,62,63,64,65,66,67,69,70,71,72,73,0,1,2,3,4,5,6,8,9,10,11,12,7,1008,1009,1010,1011,1012,13,14])] Tryz.func514 rfl ?_ (.inr g)
  repeat'(first|refine gE ?_|(conv=>whnf);first|with_reducible refine Bf.D (λe=>?_) (λe=>?_)|refine CC ?_|refine C9 (w) ?_|refine C9 (l) ?_|refine C9 (n) ?_|refine C9 (o) ?_|refine CN ω (aa d) ?_|refine Ap.sm (aM λ_=>rfl) rfl (by simp;omega) (by decide) (gy (aR.enc .own) q.a6 a) ?_)
  (conv=>whnf)
  refine Lp.fz 8 (ι:=Nat) (λk=>[(2,.H .box (bO.enc .W q)),(4,.H .box [I 0,.z]),(8,.H .one (de .W (q.a6++[a]))),(9,.H .one [I (k:Nat)])]) (λk=>k<=oW q.c0 (q.a6++[a])) (λk=>oW q.c0 (q.a6++[a]) - k) 0 ?_ (X0 _) λk M=>?_
  ·(repeat'(first|exact trivial|rfl|exact CM rfl (show NH (eg (de .own (q.a6++[a]))) (de .W (q.a6++[a])) by rw[FJ];exact nh _)|refine CM ?_ ?_))
  have N:(q.a6++[a]).length=q.a6.length+1:=by simp
  have F:((q.a6++[a]).drop k).length<=5000:=by rw[C4];omega
  have G:((q.a6++[a]).take k).length<=5000:=by rw[C2];omega
  have p:=vO ((q.a6++[a]).drop k) ⟨ω,λ_ _=>trivial⟩;by_cases H:k<oW q.c0 (q.a6++[a])
  ·have J:q.c0<quarCells ((q.a6++[a]).drop k) ((q.a6++[a]).drop k).length:=BJ H
   repeat'(first|refine gE ?_|(conv=>whnf);first|refine CC ?_|refine Cb k rfl (by rw[I1];omega) (aM λ_=>rfl) I5 ?_|refine C9 (p) ?_|refine CC ?_)
   ((conv=>whnf);refine CF (k+1) ω ω ?_;(exact wB))
  obtain rfl:k=oW q.c0 (q.a6++[a]):=ω
  have J:quarCells ((q.a6++[a]).drop (oW q.c0 (q.a6++[a]))) ((q.a6++[a]).drop (oW q.c0 (q.a6++[a]))).length<=q.c0:=Ey C.1 _
  repeat'(first|refine gE ?_|(conv=>whnf);first|refine CC ?_|refine Cb (oW q.c0 (q.a6++[a])) rfl (by rw[I1];omega) (aM λ_=>rfl) I5 ?_|refine CX (oW q.c0 (q.a6++[a])) rfl (by rw[I1];omega) (aM λ_=>rfl) C5 ?_|refine C9 (p) ?_|refine CC ?_|refine CY (λ_=>rfl) (λ_=>rfl) ω (by decide) ?_|refine CR (λ_=>rfl) (λ_=>rfl) ω (by decide) ?_)
  rfl
def pp{z:Int}(h:0<=z/\z<512):IntKind.i64.wrap (z.tdiv 16)=z / 16:=(Z0 _ (tdiv16 h.1)).trans (eX ω ω)
variable{E:List Int}{h:ab}
def uR(a:aU h E){o:bu}(b:o∈h.O):0<=o.Addr/\o.Addr<512:=by
 rcases a.oow o b with⟨s,c,⟨f,g,-⟩,-⟩|⟨l,d,e,-⟩
 ·have:=aE (a.L.sok s c);omega
 have:=aQ (a.L.lok l d);omega
theorem PZ{k:Int}(h:0<=k/\k<=3):1<=csz k/\csz k<=8:=by grind [bV]
structure UC(h:ab)(o:bu):Prop where
 cl:0<=aL o.q/\aL o.q<=3
 fr:0<=(ac h.G.F.Q (o.Addr / 16)).d/\(ac h.G.F.Q (o.Addr / 16)).d<h.G.F.U.T.length
 fit:o.Addr % 16+csz (aL o.q)<=16
 row:(nth h.G.F.U.T (cY h.G o.Addr)).length=16
theorem UC.of(a:aU h E){o:bu}(i:o∈h.O)(k:¬aL o.q<0):UC h o:=by
 obtain⟨⟨s,j,b,r⟩,t⟩:=(ef a i).2 k;have l:=aE (a.L.sok s j);have n:=uR a i;have u:s.R=o.Addr / 16:=by have w:=b.1;have y:=b.2.1;omega
 have c:(o.Addr / 16).toNat<(tbl h).K.length:=by have:=a.pg.bnd _ (dH (la:=h.M) j);omega
 have d:(((o.Addr / 16).toNat:Nat):Int)=o.Addr / 16:=ω
 have A:=(a.pg.own _ c).2 (by grind [dH]);have e:(ac h.G.F.Q (o.Addr / 16)).j≠0:=by grind [mS,tbl]
 obtain⟨-,-,-,f,p⟩:=bD a.ker e;have q:=(aO.1 (a7.1 a.ker).2.1).2.2.1;have g:cY h.G o.Addr<h.G.F.U.T.length:=by unfold cY;omega
 refine⟨ω,⟨f,ω⟩,?_,a.lens.row _ (am g)⟩;have B:=b.2.2.1
 grind [bV]
theorem Kw(h:ab)(a:Int)(b:cY h.G a<h.G.F.U.T.length):({h with G:=fH h.G a 0} : ab)=h:=by
 have e:h.G.F.U.T.set (cY h.G a) (nth h.G.F.U.T (cY h.G a))=h.G.F.U.T:=by
  refine List.ext_getElem? λi=>?_
  grind [ao]
 unfold fH lF;rw[e]
def FV(h:ab)(a:Int)(k:Nat)(v:Int)(_:0<=a):bE {h with G:=fH h.G a (k+1)} = (bE {h with G:=fH h.G a k}).set 0 (.s .own (((fH h.G a k).F.U.T.map (aF .own)).set (ac h.G.F.Q (a / 16)).d.toNat ((aF .own (lF (nth h.G.F.U.T (cY h.G a)) (a % 16).toNat k)).set 0 (.s .own (((lF (nth h.G.F.U.T (cY h.G a)) (a % 16).toNat k).map (rI .own)).set (a % 16+k).toNat (splice (rI .own v) 0 [I 0])))))):=by
 have e:(a % 16+k).toNat=(a % 16).toNat+k:=ω
 rw[e];simp[bE,fH,V7,lF,aF,splice,cY]
 rfl
theorem GS(t:Nat)(h:ab)(xs:List aR)(k:Nat)(a:k<xs.length):recycs t h ((xs.take (k+1)).map (·.Addr))=recyc t (recycs t h ((xs.take k).map (·.Addr))) (nth xs k).Addr:=by grind [Y6,ao,recycs]
theorem Js(h:ab)(o:bu)(t:Nat)(a:aU h [])(N:o∈h.O)(ht:o.a5=t)(hlc:h.S.length<=4):zzB 416 false [.ptr (bE h),.val none [I (t:Nat)],.val none [I o.Addr]] [.ptr (bE (freeOb h t (qL h o.Addr)).1),.val none [I (t:Nat)],.val none [I o.Addr]] .one [I (freeOb h t (qL h o.Addr)).2]:=by
 obtain⟨g,w,B⟩:=a.objAt N;have b:=uR a N;have hon:=a.onu o N;have C:=a.lens;have hno:=C.objs;have O:t<h.S.length:=ω
 have L:=aH (t:Nat) 0 (h.S.length - 1:Int);rw[O0 ω]at L;have E:=r7 h o.Addr ω;rw[B]at E;generalize qL h o.Addr=i at g w E;subst w;have p:=ao g;have P:=kZ (nth h.O i).q;unfold freeOb;have Q:=bj a.ker;have X:=du h.G.F.Q ((nth h.O i).Addr / 16) Q.1.2;by_cases r:aL (nth h.O i).q<0
 ·rw[CD r]
  have c3:=qV h i a g r;refine fM 148 [(511,[2,0]),(513,[2,0]),(515,[2,0,0]),(510,[2,0])] [(15,269,[68,69,70,71,72,73,74,75,77,67,78,79,11,0,1,2,3,4,5,6,7,13,8,1000,1001,1002,1003,1004,1013,9,10,11,12,14,1012,15]),(22,15,[92,93,94,95,96,97,98,99,100,101,102,103,104,105,106]),(25,271,[116,117,118,119,120,121,122,123,124,125,127,115,128,129,14,0,1,2,3,4,5,6,7,8,9,15,10,1000,1001,1002,1003,1015,11,12,13,14,16,1014,17])] [(0,0),(0,0),(0,0)] Tryz.func416 rfl (λu q=>?_)
  repeat'(first|refine gE ?_|(conv=>whnf);first|with_reducible refine Bf.D (λj=>?_) (λj=>?_)|refine CC ?_|refine C9 (L) ?_|refine CH (E) ⟨⟨rfl,bK h⟩,⟨rfl,rfl⟩,trivial⟩ ?_|refine CE (aa p) ?_|refine CK rfl (aa p) rfl ?_|refine C9 (P) ?_|refine CL (c3) (.inl rfl) ?_)
  refine CJ rfl rfl ?_;exact wB
 rw[CB r];obtain⟨R,s2,s3,s4⟩:=UC.of a (am g) r;by_cases M:(ac (tbl h) ((nth h.O i).Addr / 16)).j=1
 ·rw[CD M]
  unfold tbl at M;refine fM 148 [(511,[2,0]),(513,[2,0]),(515,[2,0,0]),(510,[2,0])] [(15,269,[68,69,70,71,72,73,74,75,77,67,78,79,11,0,1,2,3,4,5,6,7,13,8,1000,1001,1002,1003,1004,1013,9,10,11,12,14,1012,15]),(22,15,[92,93,94,95,96,97,98,99,100,101,102,103,104,105,106]),(25,271,[116,117,118,119,120,121,122,123,124,125,127,115,128,129,14,0,1,2,3,4,5,6,7,8,9,15,10,1000,1001,1002,1003,1015,11,12,13,14,16,1014,17])] [(0,0),(0,0),(0,0)] Tryz.func416 rfl (λu q=>?_)
  repeat'(first|refine gB ?_|(conv=>whnf);first|with_reducible refine Bf.D (λj=>?_) (λj=>?_)|refine CC ?_|refine CP (by decide) ?_|refine CO (pp b) ?_|refine C9 (L) ?_|refine CH (E) ⟨⟨rfl,bK h⟩,⟨rfl,rfl⟩,trivial⟩ ?_|refine CE (aa p) ?_|refine CK rfl (aa p) rfl ?_|refine C9 (P) ?_|refine CH (X) ⟨⟨rfl,Cc _⟩,⟨rfl,rfl⟩,trivial⟩ ?_)
  refine CJ rfl rfl ?_;exact wB
 rw[CB M];unfold tbl at M;have F:cY h.G (nth h.O i).Addr<h.G.F.U.T.length:=by unfold cY;omega
 have hcz:=PZ R;have l:=a.inQuar g r;have G:=eB (aL (nth h.O i).q);refine fM 148 [(511,[2,0]),(513,[2,0]),(515,[2,0,0]),(510,[2,0])] [(15,269,[68,69,70,71,72,73,74,75,77,67,78,79,11,0,1,2,3,4,5,6,7,13,8,1000,1001,1002,1003,1004,1013,9,10,11,12,14,1012,15]),(22,15,[92,93,94,95,96,97,98,99,100,101,102,103,104,105,106]),(25,271,[116,117,118,119,120,121,122,123,124,125,127,115,128,129,14,0,1,2,3,4,5,6,7,8,9,15,10,1000,1001,1002,1003,1015,11,12,13,14,16,1014,17])] [(0,0),(0,0),(0,0)] Tryz.func416 rfl (λu q=>?_)
 repeat'(first|refine gB ?_|(conv=>whnf);first|with_reducible refine Bf.D (λj=>?_) (λj=>?_)|refine CC ?_|refine CP (by decide) ?_|refine CO (pp b) ?_|refine C9 (L) ?_|refine CH (E) ⟨⟨rfl,bK h⟩,⟨rfl,rfl⟩,trivial⟩ ?_|refine CE (aa p) ?_|refine CK rfl (aa p) rfl ?_|refine C9 (P) ?_|refine CH (X) ⟨⟨rfl,Cc _⟩,⟨rfl,rfl⟩,trivial⟩ ?_)
 rw[show bE h=bE {h with G:=fH h.G (nth h.O i).Addr 0} by rw[Kw h _ F]]
 (conv=>whnf)
 refine CG (ι:=Nat) (λk=>[(0,.H .box (bE {h with G:=fH h.G (nth h.O i).Addr k})),(1,.H .one [I ((t:Nat):Int)]),(2,.H .one [I ((nth h.O i).Addr)]),(7,.H .one [I ((i:Nat):Int)]),(8,.H .box (bu.enc .own (nth h.O i))),(9,.H .one [I (aL (nth h.O i).q)]),(10,.H .box (bi.enc .own (ac h.G.F.Q ((nth h.O i).Addr / 16)))),(13,.H .one [I ((k:Nat):Int)])]) (λk=>k<=(csz (aL (nth h.O i).q)).toNat) (λk=>(csz (aL (nth h.O i).q)).toNat - k) (0) ?_ (X0 _) λk hk=>?_
 ·exact wB
 have Y:IntKind.i64.wrap 0=0:=rfl;have S:(nth h.O i).Addr.tmod 16=(nth h.O i).Addr % 16:=dP b.1;have n:(fH h.G (nth h.O i).Addr k).F.U.T[(ac h.G.F.Q ((nth h.O i).Addr / 16)).d.toNat]? = some (lF (nth h.G.F.U.T (cY h.G (nth h.O i).Addr)) ((nth h.O i).Addr % 16).toNat k):=O4 F;by_cases T:k<(csz (aL (nth h.O i).q)).toNat
 ·have H:=ao (xs:=lF (nth h.G.F.U.T (cY h.G (nth h.O i).Addr)) ((nth h.O i).Addr % 16).toNat k) (i:=((nth h.O i).Addr % 16+k).toNat) (by grind [nu])
  repeat'(first|refine gE ?_|(conv=>whnf);first|refine CC ?_|refine CP (by decide) ?_|refine CS S ?_|refine C9 (G) ?_|refine CN s2.1 (aa n) ?_|refine CK rfl (aa n) rfl ?_|refine CN ω (aa H) ?_|refine Pu.two rfl rfl (aa n) rfl rfl rfl (aa H) rfl (X3 _) (FV h _ k _ b.1) ?_)
  ((conv=>whnf);refine CF (k+1) ω ω ?_;(exact wB))
 obtain rfl:k=(csz (aL (nth h.O i).q)).toNat:=ω
 have c5:=o7 {h with G:=fH h.G (nth h.O i).Addr (csz (aL (nth h.O i).q)).toNat} i g ψ;have d:=a.nums;unfold cu at d;rw[C0]at d;have J:=(a.dropO g (ku.any (c:=aL (nth h.O i).q) (by obtain⟨⟨s,hs,k1,k2⟩,-⟩:=(ef a (am g)).2 r;exact⟨s,hs,k1,.inr k2⟩))).nd;rw[List.cons_append,List.nil_append]at J;have Z:=EM h.a9 (lU h (nth h.O i)) (by grind [oX.quar]) a.quar ⟨R.1,R.2,b.1,d.2.2.1⟩ (λy hy=>a.snc y hy) (λy hy e=>(List.nodup_cons.1 J).1 (by rw[show(nth h.O i).Addr=y.Addr from e.symm];grind [holders]));unfold Tx at Z;have U:(Aj h.a9 (lU h (nth h.O i))).length<=513:=by grind [oX.quar,Aj]
 repeat'(first|refine gB ?_|(conv=>whnf);first|with_reducible refine Bf.D (λj=>?_) (λj=>?_)|refine CC ?_|refine C9 (G) ?_|refine CL (c5) (.inl rfl) ?_|refine CH (Z) ⟨⟨rfl,bO.enc_fz h.a9⟩,⟨rfl,rfl⟩,trivial⟩ ?_|refine CC ?_)
 have V:Gm h t i=recycs t (inQuar h i) ((Aj h.a9 (lU h (nth h.O i))).map (·.Addr)):=rfl;simp only;rw[V];have hqn:(inQuar h i).S.length=h.S.length:=rfl;generalize Aj h.a9 (lU h (nth h.O i))=out at l U
 (conv=>whnf)
 refine CG (ι:=Nat) (λk=>[(0,.H .box (bE (recycs t (inQuar h i) ((out.take k).map (·.Addr))))),(1,.H .one [I ((t:Nat):Int)]),(15,.H .one (de .own out)),(16,.H .one [I ((k:Nat):Int)])]) (λk=>k<=out.length) (λk=>out.length - k) (0) ?_ (X0 _) λk hk=>?_
 ·exact wB
 by_cases T:k<out.length
 ·have K:=ao T
  have hsp:out.map (·.Addr)=(out.take k).map (·.Addr)++(nth out k).Addr::(out.drop (k+1)).map (·.Addr):=by grind [List.take_append_drop,iD]
  have W:aU (recycs t (inQuar h i) ((out.take k).map (·.Addr))) ((nth out k).Addr::(out.drop (k+1)).map (·.Addr)):=aU.recycs ψ O;have c7:=oD _ _ t _ W (by grind [ia])
  repeat'(first|refine gE ?_|(conv=>whnf);first|refine CC ?_|refine CE (aa K) ?_|refine CK rfl (aa K) rfl ?_|refine CL (c7) (.inl rfl) ?_)
  ((conv=>whnf);refine CF (k+1) ω ω ?_)
  rw[GS t _ out k T];exact wB
 obtain rfl:k=out.length:=ω
 rw[O6]
 repeat'(first|refine gE ?_|(conv=>whnf);first|refine CC ?_)
 refine CJ rfl rfl ?_;exact wB
def oE(rows:List (List C)):C:=match rows with|[]=>.s .W []|_=>.s .own rows
theorem Ta(h:rows≠[]):oE rows=.s .own rows:=by cases rows with|nil=>exact absurd rfl h|cons=>rfl
variable{P:Program}
theorem DT(w:World)(t e k:Nat)(z:Value)(g:P.underlying t=some (.slice e))(h:∀w,(zeroValue e).run P w=.ok z w)(i:z.cells.size=k)(h1:∀v∈z.cells.toList,v.oneCell'=true)(b o n:Nat)(p:0<n)(l:0<k)(q:∀j,j<n*k->(w.cell? ⟨b,o+j,none⟩).isSome=true)(r:∀j,j<n*k->w.frozen? ⟨b,o+j,none⟩ = false) :
  ∃zs:List Value,zs.length=n*k/\(∀v∈zs,v.oneCell'=true)/\∀(ty:TypeId)(c:Nat),(Builtin.clear_ #[t] ty #[.slice (some ⟨b,o,none⟩) n c]).run P w=.ok (.tuple #[]) (w.setCells b o zs):=by
 subst i;have d:(Builtin.zeroCells z.cells n).toList.length=n*z.cells.size:=by grind [Go.Builtin.zeroCells]
 have a:∀v∈(Builtin.zeroCells z.cells n).toList,v.oneCell'=true:=by grind [Nat.mod_lt,Go.Builtin.zeroCells]
 refine⟨_,d,a,λty c=>?_⟩;have f:=run_storeCells_cells (P:=P) b o (Builtin.zeroCells z.cells n).toList 0 w ψ ψ a;simp only[Nat.add_zero]at f;obtain⟨m,rfl⟩ : ∃m,n=m+1:=⟨n - 1,ω⟩
 simp[Builtin.clear_,run_underlying g,h,f]
structure kF(w w':World)(g k n i:Nat):Prop where
 keep:bA (λb o=>b=g/\o<n*k) w w'
 lo:∀q,q<i*k->cel w' g q=cel w g q
 mid:∀q,i*k<=q->q<(n - 1)*k->cel w' g q=cel w g (q+k)
 hi:∀q,(n - 1)*k<=q->q<n*k->∃z,cel w' g q=some z/\z.oneCell'=true
 fro:∀b q,fro w' b q=fro w b q
variable{w:World}
theorem bA.up{M a:ah}{c:World}(h:bA M w c)(d:∀b o,M b o->a b o):bA a w c:=(Ca a w).trans h ψ
def Jr(w:World):bA NO w w.drew:=⟨rfl,rfl,rfl,X3 _,λ_ _ _=>rfl,λ_ _ _ _=>rfl,λ_ _ _ _=>rfl⟩
variable{news:List Value}{n:Nat}
theorem LI{k:Nat}{zs:List Value}(f:i<n)(d:∀q,q<n*k->∃z,cel w g q=some z)(G:news.length=(n - (i+1))*k)(c:∀t u,news[t]? = some u->cel w g ((i+1)*k+t)=some u)(H:zs.length=k)(l:∀v∈zs,v.oneCell'=true) :
  kF w ((w.drew.setCells g (i*k) news).setCells g ((n - 1)*k) zs) g k n i:=by
 have J:i*k+(n - (i+1))*k=(n - 1)*k:=by rw[<-Nat.add_mul];congr 1;omega
 have K:(n - 1)*k+k=n*k:=by rw[show(n - 1)*k+k=(n - 1+1)*k by rw[Nat.add_mul,Nat.one_mul]];congr 1;omega
 have L:(i+1)*k=i*k+k:=ψ
 have p:∀b q,cel w.drew b q=cel w b q:=λ_ _=>rfl
 have a:∀j,j<news.length->∃z,cel w.drew g (i*k+j)=some z:=λj r=>by rw[p];exact d _ ω
 have y:∀q,q<n*k->∃z,cel (w.drew.setCells g (i*k) news) g q=some z:=λq A=>by
  by_cases h:i*k<=q/\q<i*k+news.length
  ·have:=dx a (X2 (show q - i*k<news.length by omega))
   grind
  grind [cG]
 refine⟨?_,λq A=>?_,λq B C=>?_,λq B C=>?_,λb q=>?_⟩
 ·have D:=jB (g:=g) (X:=λb o=>b=g/\o<n*k) news (i*k) w.drew ω
  have E:=jB (g:=g) (X:=λb o=>b=g/\o<n*k) zs ((n - 1)*k) (w.drew.setCells g (i*k) news) ω;exact((Jr w).up λ_ _ h=>h.elim).trans (D.trans E λ_ _ h=>.inr h) λ_ _ h=>.inr h
 ·grind [cG]
 ·rw[cG ω]
  obtain⟨u,e⟩ : ∃u,news[q - i*k]? = some u:=⟨_,X2 ω⟩
  have F:=dx a e;have M:=c _ u e
  grind
 ·obtain⟨u,e⟩ : ∃u,zs[q - (n - 1)*k]? = some u:=(ψ)
  have F:=dx (w:=w.drew.setCells g (i*k) news) (o:=(n - 1)*k) (vs:=zs) (λj r=>y _ ω) e
  grind
 rw[dc,dc];rfl
def Dj(P:Program)(f k:Nat):Prop:=M4 P f/\∀(w:World)(g n a i:Nat)(news:List Value),i<n->n<=a->news.length=(n - (i+1))*k->(∀t u,news[t]? = some u->cel w g ((i+1)*k+t)=some u)->(∀u∈news,u.oneCell'=true)->
 (∀q,q<n*k->(w.cell? ⟨g,q,none⟩).isSome=true/\w.frozen? ⟨g,q,none⟩ = false)->
 Calls P f #[.slice (some ⟨g,0,none⟩) n a,.int .i64 i,.int .i64 ((i+1:Nat):Int)] w λe c=>e=.returned (.slice (some ⟨g,0,none⟩) (n - 1) a)/\∃b:List Value,b.length=k/\(∀v∈b,v.oneCell'=true)/\c=(w.drew.setCells g (i*k) news).setCells g ((n - 1)*k) b
variable{f:Nat}
theorem Tn{k:Nat}(hf:Dj P f k)(hi:i<rows.length)(hk:∀r∈rows,r.length=k)(T:Q9 rows) :
  aT P f false [.mut none [.s .own rows],.val none [I (i:Nat)],.val none [I ((i+1:Nat):Int)]] [.mut none [.x],.val none [I (i:Nat)],.val none [I ((i+1:Nat):Int)]] .one [oE (dele rows i)]:=by
 refine⟨hf.1,λw S V vs hS hV hVV U=>?_⟩
 match vs,U with
 | [v,v1,v2],⟨U,W,X,_⟩=>
  have l:=(bv.rep1 (show bv w S (V 0) none [C.s .own rows] v from U)).fresh ⟨.inl (λe=>by cases e),T⟩;have e1:v1=.int .i64 (i:Nat):=by
   have:=bv.rep1 (show bv w S NO none [C.v (.int .i64 (i:Nat))] v1 from W);cases this;rfl
  have e2:v2=.int .i64 ((i+1:Nat):Int):=by
   have:=bv.rep1 (show bv w S NO none [C.v (.int .i64 ((i+1:Nat):Int))] v2 from X);cases this;rfl
  subst e1 e2;have H:(dele rows i).length=rows.length - 1:=by grind [dele]
  generalize J:C.s .own rows=cc at l;cases l with
  | nil _ o a ho=>grind
  | own _ o g d n j Y u f' ho hn B p hpos hF hu hff hd hc=>
   cases J;have Z:d=k:=by rw[<-B _ (List.getElem_mem hi),<-hk _ (List.getElem_mem hi)]
   subst Z;have hnk:n*d<=j*d:=W8 _ p;have hone:∀q,q<j*d->∃z,cel w g q=some z/\z.oneCell'=true:=ψ
   have e3:(i+1)*d+(n - (i+1))*d=n*d:=by rw[<-Nat.add_mul];congr 1;omega
   obtain⟨news,K,L,hn1⟩ : ∃news:List Value,news.length=(n - (i+1))*d/\(∀t u,news[t]? = some u->cel w g ((i+1)*d+t)=some u)/\∀u∈news,u.oneCell'=true:=by
    refine⟨(List.range ((n - (i+1))*d)).map λt=>(cel w g ((i+1)*d+t)).getD undef,by simp,λt y ht=>?_,λy hy=>?_⟩
    all_goals grind
   refine(hf.2 w g n j i news ω p K L hn1 (λq D=>?_)).mono λe A ⟨he,zs,z1,z2,hw'⟩=>?_
   ·grind
   have R:=LI (w:=w) (by omega:i<n) ψ K L z1 z2;rw[<-hw']at R;have hgV:∀q,q<j*d->V 0 g q:=ψ
   have E:bA (λb o=>∃i,V i b o) w A:=R.keep.up ψ;have e4:(n - 1)*d+d=n*d:=by rw[show(n - 1)*d+d=(n - 1+1)*d by rw[Nat.add_mul,Nat.one_mul]];congr 1;omega
   have F:∀q,q<j*d->∃z,cel A g q=some z/\z.oneCell'=true:=λq D=>by
    by_cases h1:q<i*d
    ·grind [kF.lo]
    by_cases h2:q<(n - 1)*d
    ·rw[R.mid q ω h2];grind
    grind [kF.hi,bA.cel,kF.keep]
   have M:cL A NO (V 0) [oE (dele rows i)] (λ_=>.slice (some ⟨g,0,none⟩) (n - 1) j):=by
    refine row1 ?_;by_cases hz:dele rows i=[]
    ·rw[hz]
     have hn0:n - 1=0:=ψ
     rw[hn0];exact .W _ g 0 d 0 j [] (λ_=>undef) rfl ψ (X0 _) ω ψ
    rw[Ta hz];have G:0<n - 1:=ψ
    obtain⟨σ,hσ⟩ : ∃σ:Nat->Nat,∀q,σ q=if q<i*d then q else q+d:=⟨_,λ_=>rfl⟩
    have s1:∀q,q<(n - 1)*d->σ q<n*d:=ψ
    have s2:∀q q',q≠q'->σ q≠σ q':=ψ
    have s3:∀q,q<(n - 1)*d->cel A g q=cel w g (σ q):=λq D=>by grind [kF.lo,kF.mid]
    refine .own _ .own g d (n - 1) j _ (λq=>(cel A g q).getD undef) (λq=>f' (σ q)) trivial (by rw[H];omega) (λr hr=>B r ((fh ..).subset hr)) ω G (λq D=>⟨hgV q D,F q D,(R.fro g q).trans (hF q D).2.2⟩) (λq D=>?_) ψ ψ (λa b r c N hb=>?_)
    ·grind
    have hbk:b<d:=by grind [fh]
    have hal:=(Z2.1 N).1;rw[H]at hal;have hflat:a*d+b<(n - 1)*d:=fW ω hbk;obtain⟨O,h5,h6⟩ : ∃O,rows[O]? = some r/\σ (a*d+b)=O*d+b:=by
     rw[hσ];unfold dele at N;by_cases h1:a<i
     ·grind [C2,fW]
     rw[X5 ψ,C2,List.getElem?_drop]at N;rw[show i+1+(a - min i rows.length)=a+1 by omega]at N;have:i*d<=a*d:=W8 _ ω;refine⟨a+1,N,?_⟩;rw[CB ω,Nat.add_mul,Nat.one_mul];omega
    have h7:=hc O b r c h5 hb;have Q:=EH hn B h5 hb;have hfl:=fW Q.1 Q.2;have h8:(cel A g (a*d+b)).getD undef=u (O*d+b):=ψ
    show dY A NO (f' (σ (a*d+b))) c ((cel A g (a*d+b)).getD undef);rw[h8,h6];refine h7.keep (λ_ _ h=>h.elim) λb' o' hb'=>?_
    grind [bA.cel,kF.keep,kF.fro]
   exact⟨_,he,E,V 0,λ_=>NO,NO,ψ,λ_ _ _ h=>h.elim,λ_ _ h=>h.elim,λ_ _ _ _ _ h=>h.elim,λ_ _ _ _ h=>h.elim,λ_ _ _ h=>h.elim,λ_ _ _ h=>h.elim,rfl,M,⟨⟨rfl,λ_=>.slice (some ⟨g,0,none⟩) n j,rfl,row1 (.x _ _ rfl)⟩,trivial,trivial,trivial⟩⟩
  | _=>cases J
set_option maxRecDepth 100000
theorem Dh{cap k:Nat}(d:news.length=(n - (i+1))*k)(a:n<=cap)(b:i<n)(h:∀t u,news[t]? = some u->cel w g ((i+1)*k+t)=some u):∃A:Addr,(if cap=i+1 then some (⟨g,0,none⟩ : Addr) else some ⟨g,(i+1)*k,none⟩)=some A/\∀t u,news[t]? = some u->w.drew.cell? (A.add t)=some u:=by
 by_cases e:cap=i+1
 ·simp_all
 refine⟨⟨g,(i+1)*k,none⟩,by simp[e],λt u c=>?_⟩;rw[Addr.add_lit];exact h t u c
def Pt:∀w,(zeroValue 74).run Tryz.prog w=.ok (.agg #[.int .i64 0,.int .i64 0,.int .i64 0,.int .i64 0]) w:=λ_=>by kernel_rfl
theorem TQ:Dj Tryz.prog 99 4:=by
 refine⟨⟨_,Tryz.func99,by kernel_rfl,by kernel_rfl⟩,λw g n c i news p r l y B b=>?_⟩;obtain⟨A,U,a⟩:=Dh l r p y;have a:Hid (∀t u,news[t]? = some u->w.drew.cell? (A.add t)=some u):=a;have R:Hid (news.length=(n - (i+1))*4):=l;have V:Hid (∀u∈news,u.oneCell'=true):=B;have W:Hid (∀t,t<news.length->(w.drew.cell? ⟨g,0+i*4+t,none⟩).isSome=true/\w.drew.frozen? ⟨g,0+i*4+t,none⟩ = false):=λt ht=>by
  rw[O8];exact b (i*4+t) ω
 obtain⟨o,d⟩ : ∃o,o=w.drew.setCells g (0+i*4) news:=⟨_,rfl⟩
 have X:∀q,q<n*4->(o.cell? ⟨g,q,none⟩).isSome=true/\o.frozen? ⟨g,q,none⟩ = false:=λq S=>by
  have C:∀j,j<news.length->∃z,cel w.drew g (0+i*4+j)=some z:=λj Y=>by
   have:=(b (0+i*4+j) ω).1;exact Option.isSome_iff_exists.1 this
  refine⟨?_,by rw[d];exact(Z0 Prod.fst (dc g _ news w.drew g q)).trans (b q S).2⟩;rw[d];by_cases h:0+i*4<=q/\q<0+i*4+news.length
  ·have:=dx C (X2 (show q - (0+i*4)<news.length by omega))
   grind
  show(cel _ g q).isSome=true;rw[cG (λx=>h x.2)];exact(b q S).1
 obtain⟨K,D,E,F⟩:=DT (P:=Tryz.prog) o 39 74 4 (.agg #[.int .i64 0,.int .i64 0,.int .i64 0,.int .i64 0]) Tryz.underlying39 Pt rfl (by intro v T;simp[Value.cells]at T;subst T;rfl) g ((i+(n - (i+1)))*4) (n - (i+(n - (i+1)))) ω (by decide) ψ ψ;have G:Hid (K.length=(n - (i+(n - (i+1))))*4):=D;have H:Hid (∀v∈K,v.oneCell'=true):=E;have Z:Hid (o=w.drew.setCells g (0+i*4) news):=d;have hic:i<=c:=ω
 have L:i+1<=c:=ω
 have M:¬i=i+1:=ω
 have N:i+1<=n:=p;have k:n - 1=i+(n - (i+1)):=ω
 clear d X b y B l D E;rw[k];generalize Y:i+1=j at U a R F G L M N k |-;obtain⟨J,O,Q⟩ : ∃J,Tryz.prog.info? 74=some J/\J.size=4:=by
  have h:=(pK 74 _ rfl).1;cases e : Tryz.prog.info? 74 with
  | none=>grind
  | some x=>rw[e]at h;simp only[V6,C1,Prod.mk.injEq]at h;exact⟨x,rfl,h.2.1⟩
 have mixed : Tryz.prog.follows .mixedOrders=true:=by kernel_rfl
 go_enter Tryz.func99,Tryz.ntmps99
 go_wp2_with fail
 go_region_law_o (refine step_append_room rfl (.tmp 22) (.tmp 25) 39 rfl 74 J 4 Tryz.underlying39 O Q g 0 i c (by simp[Act.eval,Act.put]) A (n - j) (c - j) news (by simp[Act.eval,Act.put]) R.out a.out V.out ω W.out ?_;rw[<-Z.out])
 go_wp2
 go_ret
 refine⟨rfl,K,by grind [Go.RowKit.Hid.out],H.out,?_⟩
 grind [Go.RowKit.Hid.out]
def HD:∀w,(zeroValue 175).run Tryz.prog w=.ok (.agg #[.int .i64 0,.int .i64 0,.int .i64 0]) w:=λ_=>by kernel_rfl
theorem Q3:Dj Tryz.prog 102 3:=by
 refine⟨⟨_,Tryz.func102,by kernel_rfl,by kernel_rfl⟩,λw g n c i news p r l y B b=>?_⟩;obtain⟨A,U,a⟩:=Dh l r p y;have a:Hid (∀t u,news[t]? = some u->w.drew.cell? (A.add t)=some u):=a;have R:Hid (news.length=(n - (i+1))*3):=l;have V:Hid (∀u∈news,u.oneCell'=true):=B;have W:Hid (∀t,t<news.length->(w.drew.cell? ⟨g,0+i*3+t,none⟩).isSome=true/\w.drew.frozen? ⟨g,0+i*3+t,none⟩ = false):=λt ht=>by
  rw[O8];exact b (i*3+t) ω
 obtain⟨o,d⟩ : ∃o,o=w.drew.setCells g (0+i*3) news:=⟨_,rfl⟩
 have X:∀q,q<n*3->(o.cell? ⟨g,q,none⟩).isSome=true/\o.frozen? ⟨g,q,none⟩ = false:=λq S=>by
  have C:∀j,j<news.length->∃z,cel w.drew g (0+i*3+j)=some z:=λj Y=>by
   have:=(b (0+i*3+j) ω).1;exact Option.isSome_iff_exists.1 this
  refine⟨?_,by rw[d];exact(Z0 Prod.fst (dc g _ news w.drew g q)).trans (b q S).2⟩;rw[d];by_cases h:0+i*3<=q/\q<0+i*3+news.length
  ·have:=dx C (X2 (show q - (0+i*3)<news.length by omega))
   grind
  show(cel _ g q).isSome=true;rw[cG (λx=>h x.2)];exact(b q S).1
 obtain⟨K,D,E,F⟩:=DT (P:=Tryz.prog) o 38 175 3 (.agg #[.int .i64 0,.int .i64 0,.int .i64 0]) Tryz.underlying38 HD rfl (by intro v T;simp[Value.cells]at T;subst T;rfl) g ((i+(n - (i+1)))*3) (n - (i+(n - (i+1)))) ω (by decide) ψ ψ;have G:Hid (K.length=(n - (i+(n - (i+1))))*3):=D;have H:Hid (∀v∈K,v.oneCell'=true):=E;have Z:Hid (o=w.drew.setCells g (0+i*3) news):=d;have hic:i<=c:=ω
 have L:i+1<=c:=ω
 have M:¬i=i+1:=ω
 have N:i+1<=n:=p;have k:n - 1=i+(n - (i+1)):=ω
 clear d X b y B l D E;rw[k];generalize Y:i+1=j at U a R F G L M N k |-;obtain⟨J,O,Q⟩ : ∃J,Tryz.prog.info? 175=some J/\J.size=3:=by
  have h:=(pK 175 _ rfl).1;cases e : Tryz.prog.info? 175 with
  | none=>grind
  | some x=>rw[e]at h;simp only[V6,C1,Prod.mk.injEq]at h;exact⟨x,rfl,h.2.1⟩
 have mixed : Tryz.prog.follows .mixedOrders=true:=by kernel_rfl
 go_enter Tryz.func102,Tryz.ntmps102
 go_wp2_with fail
 go_region_law_o (refine step_append_room rfl (.tmp 22) (.tmp 25) 38 rfl 175 J 3 Tryz.underlying38 O Q g 0 i c (by simp[Act.eval,Act.put]) A (n - j) (c - j) news (by simp[Act.eval,Act.put]) R.out a.out V.out ω W.out ?_;rw[<-Z.out])
 go_wp2
 go_ret
 refine⟨rfl,K,by grind [Go.RowKit.Hid.out],H.out,?_⟩
 grind [Go.RowKit.Hid.out]
def LU:∀w,(zeroValue 267).run Tryz.prog w=.ok (.agg #[.int .i64 0,.int .i64 0,.int .i64 0]) w:=λ_=>by kernel_rfl
theorem Gz:Dj Tryz.prog 492 3:=by
 refine⟨⟨_,Tryz.func492,by kernel_rfl,by kernel_rfl⟩,λw g n c i news p r l y B b=>?_⟩;obtain⟨A,U,a⟩:=Dh l r p y;have a:Hid (∀t u,news[t]? = some u->w.drew.cell? (A.add t)=some u):=a;have R:Hid (news.length=(n - (i+1))*3):=l;have V:Hid (∀u∈news,u.oneCell'=true):=B;have W:Hid (∀t,t<news.length->(w.drew.cell? ⟨g,0+i*3+t,none⟩).isSome=true/\w.drew.frozen? ⟨g,0+i*3+t,none⟩ = false):=λt ht=>by
  rw[O8];exact b (i*3+t) ω
 obtain⟨o,d⟩ : ∃o,o=w.drew.setCells g (0+i*3) news:=⟨_,rfl⟩
 have X:∀q,q<n*3->(o.cell? ⟨g,q,none⟩).isSome=true/\o.frozen? ⟨g,q,none⟩ = false:=λq S=>by
  have C:∀j,j<news.length->∃z,cel w.drew g (0+i*3+j)=some z:=λj Y=>by
   have:=(b (0+i*3+j) ω).1;exact Option.isSome_iff_exists.1 this
  refine⟨?_,by rw[d];exact(Z0 Prod.fst (dc g _ news w.drew g q)).trans (b q S).2⟩;rw[d];by_cases h:0+i*3<=q/\q<0+i*3+news.length
  ·have:=dx C (X2 (show q - (0+i*3)<news.length by omega))
   grind
  show(cel _ g q).isSome=true;rw[cG (λx=>h x.2)];exact(b q S).1
 obtain⟨K,D,E,F⟩:=DT (P:=Tryz.prog) o 37 267 3 (.agg #[.int .i64 0,.int .i64 0,.int .i64 0]) Tryz.underlying37 LU rfl (by intro v T;simp[Value.cells]at T;subst T;rfl) g ((i+(n - (i+1)))*3) (n - (i+(n - (i+1)))) ω (by decide) ψ ψ;have G:Hid (K.length=(n - (i+(n - (i+1))))*3):=D;have H:Hid (∀v∈K,v.oneCell'=true):=E;have Z:Hid (o=w.drew.setCells g (0+i*3) news):=d;have hic:i<=c:=ω
 have L:i+1<=c:=ω
 have M:¬i=i+1:=ω
 have N:i+1<=n:=p;have k:n - 1=i+(n - (i+1)):=ω
 clear d X b y B l D E;rw[k];generalize Y:i+1=j at U a R F G L M N k |-;obtain⟨J,O,Q⟩ : ∃J,Tryz.prog.info? 267=some J/\J.size=3:=by
  have h:=(pK 267 _ rfl).1;cases e : Tryz.prog.info? 267 with
  | none=>grind
  | some x=>rw[e]at h;simp only[V6,C1,Prod.mk.injEq]at h;exact⟨x,rfl,h.2.1⟩
 have mixed : Tryz.prog.follows .mixedOrders=true:=by kernel_rfl
 go_enter Tryz.func492,Tryz.ntmps492
 go_wp2_with fail
 go_region_law_o (refine step_append_room rfl (.tmp 22) (.tmp 25) 37 rfl 267 J 3 Tryz.underlying37 O Q g 0 i c (by simp[Act.eval,Act.put]) A (n - j) (c - j) news (by simp[Act.eval,Act.put]) R.out a.out V.out ω W.out ?_;rw[<-Z.out])
 go_wp2
 go_ret
 refine⟨rfl,K,by grind [Go.RowKit.Hid.out],H.out,?_⟩
 grind [Go.RowKit.Hid.out]
theorem Gl(xs:List au)(i:Nat)(a:i<xs.length):zzB 492 false [.mut none [.s .own (xs.map (au.enc .own))],.val none [I (i:Nat)],.val none [I ((i+1:Nat):Int)]] [.mut none [.x],.val none [I (i:Nat)],.val none [I ((i+1:Nat):Int)]] .one [oE ((dele xs i).map (au.enc .own))]:=by
 have h:=Tn Gz (rows:=xs.map (au.enc .own)) (i:=i) ψ (aM λ_=>rfl) (bc _ _ λx _=>au.enc_fr x)
 grind [C5,I5,dele]
def Lv(h:ab)(p:Int):zzA 187 false [.val (some 24) (ab.enc .W h),.val none [I p]] .one [B (fx h p)]:=by
 cases e:h.o
 all_goals
  have b:ab.enc .W h=(ab.enc .W h).set 18 (B h.o):=rfl;rw[e]at b;rw[b];refine fO 23 [] Tryz.func187 rfl ?_
  repeat'(first|refine gP ?_|(conv=>whnf);first|with_reducible (first|refine Bf.D (λa=>?_) (λa=>?_)|refine Bf.E (λa=>?_) (λa=>?_)|refine Bf.N (λa=>?_) (λa=>?_))|refine CC ?_)
  all_goals exact Z0 (λz=>[B z]) ((by unfold fx;rw[e];first|(simp[*];done)|(simp[*];rw[Z5];simp;try omega)|(rw[Z5];simp[*];try omega)))
def DV(h:ab):zzA 71 false [.val (some 24) (ab.enc .W h)] .one [I (eZ h:Nat)]:=by
 refine fO 9 [] Tryz.func71 rfl ?_
 repeat'(first|refine gP ?_|(conv=>whnf);first|refine CC ?_)
 rfl
theorem dK(c:C):QK c c:=(nh [c]).1
def cE(h:ab)(s l o:C):List C:=[.s .own (h.G.F.U.T.map (aF .own)),.s .own (h.G.F.U.a3.map (rB .own)),.s .own (h.G.F.Q.K.map (bi.enc .own)),I h.G.Calls,.s .own (h.G.u.map (rI .own)),.s .own (h.w.map (a8.enc .own)),s,l,o,.s .own (h.S.map (aC.enc .own)),.s .own (h.y.V.map (cS .own)),.s .own (h.y.a1.map (aF .own)),I h.a9.c0,.s .own (h.a9.a6.map (aR.enc .own)),I h.b8,I h.b3,I h.c2,I h.b,B h.o,I h.Y.X.a2,I h.Y.X.a0,.s .own (h.Y.X.T.map (rI .own)),I h.Y.b1,I h.Y.b]
def oS(h:ab):C:=oE (h.J.map (au.enc .own))
def oL(h:ab):C:=oE (h.M.map (aB.enc .own))
def oO(h:ab):C:=oE (h.O.map (bu.enc .own))
def gh(h:ab):List C:=cE h (oS h) (oL h) (oO h)
def Px(rows:List (List C)):fz (oE rows)=fz (.s .own rows):=by cases rows<;>rfl
def RO : oE rows=.s .own rows\/(rows=[]/\oE rows=.s .W []):=by cases rows with|nil=>exact .inr ⟨rfl,rfl⟩|cons=>exact .inl rfl
def Ug(h:ab){s l o:C}(a:fz s=.s .W (h.J.map (au.enc .W)))(b:fz l=.s .W (h.M.map (aB.enc .W)))(c:fz o=.s .W (h.O.map (bu.enc .W))):eg (cE h s l o)=ab.enc .W h:=by
 have d:=ab.enc_fz h;have e:eg (cE h s l o)=(((eg (ab.enc .own h)).set 6 (fz s)).set 7 (fz l)).set 8 (fz o):=rfl;rw[e,d,a,b,c];rfl
def Uy(h:ab):fz (oS h)=.s .W (h.J.map (au.enc .W)):=(Px _).trans (xi _)
def RY(h:ab):fz (oL h)=.s .W (h.M.map (aB.enc .W)):=(Px _).trans (uS _)
def Uf(h:ab):fz (oO h)=.s .W (h.O.map (bu.enc .W)):=(Px _).trans (wU _)
def m7(h:ab):eg (gh h)=ab.enc .W h:=Ug h (Uy h) (RY h) (Uf h)
def Hu(h:Q9 rows):T3 (oE rows):=by cases rows with|nil=>exact⟨.inr rfl,trivial⟩|cons r a=>exact⟨.inl λe=>(by cases e),h⟩
def mq(h:ab):hO (gh h):=by
 have a:=ab.enc_fr h;simp only[ab.enc,hO]at a;unfold gh cE;simp only[hO];refine⟨a.1,a.2.1,a.2.2.1,a.2.2.2.1,a.2.2.2.2.1,a.2.2.2.2.2.1,Hu ?_,Hu ?_,Hu ?_,a.2.2.2.2.2.2.2.2.2⟩
 ·exact a.2.2.2.2.2.2.1.2
 ·exact a.2.2.2.2.2.2.2.1.2
 exact a.2.2.2.2.2.2.2.2.1.2
def uw{S Y:ah}{v:Value}(h:dY w S Y (.s .own rows) v):dY w S Y (oE rows) v:=by
 cases rows with
 | cons=>exact h
 | nil=>
  cases h with
  | nil _ o a d=>exact .nil _ .W a trivial
  | own _ o g k n e rows u f d i j b c l p q r t=>simp at i;omega
theorem P5{S Y:ah}{u:Nat->Value}(b:cL w S Y (ab.enc .own h) u):cL w S Y (gh h) u:=by
 obtain⟨f,a,d,e⟩:=b;refine⟨f,λj c g=>?_,d,e⟩;have i:gh h=(((ab.enc .own h).set 6 (oS h)).set 7 (oL h)).set 8 (oO h):=rfl;rw[i]at g;by_cases k:j=8
 ·subst k
  have:c=oO h:=ψ
  rw[this];exact uw (a 8 _ rfl)
 by_cases l:j=7
 ·subst l
  have:c=oL h:=ψ
  rw[this];exact uw (a 7 _ rfl)
 by_cases n:j=6
 ·subst n
  have:c=oS h:=ψ
  rw[this];exact uw (a 6 _ rfl)
 grind
def lK(h:ab)(a:ab.sml h):zzA 62 false [.val (some 24) (ab.enc .W h)] .agg (gh h):=by
 obtain⟨b,c⟩:=rq h a;refine⟨b,λw S d g i=>(c w S d g i).mono λe w1 j=>?_⟩;obtain⟨v,k,l,X,n,o,p,q,r,t⟩:=j;exact⟨v,k,l,X,n,o,p,q,r,P5 t⟩
theorem yn(h:ab)(r:a8)(n:Nat)(a:ay h.G=true)(j:h.G.Calls≠100000)(b:h.w.length<=1048576)(l:r.b0=n/\0<=r.At/\r.At<=1000/\n<=1000) :
  zzB 103 false [.ptr (gh h),.val (some 2) (a8.enc .W r)] [.ptr (gh {h with G:=unmN h.G r.At n,w:=(cr (eZ h) h.w r).getD h.w}),.val (some 2) (a8.enc .W r)] (.tup []) []:=by
 have c:=a;have e:eZ h<=32:=(bo.1 (a7.1 a).2.2.1).2.2;have d:=DV {h with G:=unmN h.G r.At n};rw[show eZ {h with G:=unmN h.G r.At n} = eZ h from(fF _ _ _).1]at d;have g:=Ar (eZ h:Nat) h.w r ω ⟨b,λ_ _=>trivial⟩;refine fM 44 [] [(5,272,[29,30,31,32,33,34,35,36,37,38,39,28,40,41,42,43,0,1,2,3,4,5,6,7,8,9,10,11,12,13,14,15,16,1013])] [(0,0),(0,0)] Tryz.func103 rfl (λu q=>?_) (.inr trivial)
 repeat'(first|refine gP ?_|(conv=>whnf);first|refine CC ?_)
 (conv=>whnf)
 refine CG (ι:=Nat) (λk=>[(0,.H .box (gh {h with G:=unmN h.G r.At k})),(3,.H .box (a8.enc .W r)),(4,.H .one [I ((r.At+k))])]) (λk=>k<=n) (λk=>n - k) (0) ?_ (X0 _) λk a=>?_
 ·exact wC
 by_cases o:k<n
 ·have i:=GU (unmN h.G r.At k) (r.At+k) (iM c _ _) (by grind [qq])
  repeat'(first|refine gE ?_|(conv=>whnf);first|refine CC ?_|refine CH (i) ⟨⟨rfl,CT _⟩,⟨rfl,rfl⟩,trivial⟩ ?_)
  ((conv=>whnf);refine CF (k+1) ω ω ?_;(exact wC))
 obtain rfl:k=n:=ω
 repeat'(first|refine gE ?_|(conv=>whnf);first|refine CC ?_|refine CH (d) ⟨⟨rfl,m7 _⟩,trivial⟩ ?_|refine CH (g) ⟨⟨rfl,rfl⟩,⟨rfl,eD h.w⟩,⟨rfl,rfl⟩,trivial⟩ ?_|refine CC ?_)
 refine CJ rfl rfl ?_;exact wC
theorem mE{c a:C}(h:a=c):QK c a:=by grind [dK]
theorem Pa(k:af)(p:Int):unmN k p 1=cg k p:=by show cg k (p+((0:Nat):Int))=_;grind
theorem Eu(a:h.J≠[]):gh h=cE h (.s .own (h.J.map (au.enc .own))) (oL h) (oO h):=by grind [Ta,List.map_eq_nil_iff,gh,oS]
def Us(h:ab):oL h=.s .own (h.M.map (aB.enc .own))\/(h.M=[]/\oL h=.s .W []):=by
 rcases RO (rows:=h.M.map (aB.enc .own)) with e|⟨a,b⟩
 ·exact .inl e
 exact .inr ⟨List.map_eq_nil_iff.1 a,b⟩
theorem zB{xs:List α}(h:i<xs.length):xs≠[]:=(ψ)
theorem zW(h:ab)(i:Nat)(j:ay h.G=true)(k:h.G.Calls≠100000)(b:h.w.length<=1048576)(c:i<h.J.length)(l:h.J.length<=1048576)(o:0<=(nth h.J i).R/\(nth h.J i).R<=31) :
  zzB 386 false [.ptr (gh h),.val none [I (i:Nat)]] [.ptr (gh (giveP h i)),.val none [I (i:Nat)]] (.tup []) []:=by
 have d:=ao c;have g:=Gl h.J i c;have a:=yn {h with J:=dele h.J i} ⟨(nth h.J i).R,1⟩ 1 j k b ψ;rw[show unmN ({h with J:=dele h.J i} : ab).G (a8.mk (nth h.J i).R 1).At 1=cg h.G (nth h.J i).R from Pa _ _]at a;have n:gh {h with J:=dele h.J i} = cE h (oE ((dele h.J i).map (au.enc .own))) (oL h) (oO h):=rfl;rw[Eu (zB c)];rcases RO (rows:=(dele h.J i).map (au.enc .own)) with e|⟨-,e⟩
 all_goals
  rw[n]at a;rw[e]at g a;refine fM 28 [(492,[1,0,0]),(103,[2,0])] [] [(0,0),(0,0)] Tryz.func386 rfl (λu q=>?_) (.inr trivial)
  repeat'(first|refine gP ?_|(conv=>whnf);first|with_reducible refine CE (aa d) ?_|refine CC ?_|refine CK rfl (aa d) rfl ?_|refine CL (g) (.inl rfl) ?_|refine CL (a) (.inl rfl) ?_)
  refine CJ rfl rfl ?_;exact wB
def TL(c:aU h E)(d:i<h.J.length)(b:eJ (nth h.J i) a):denotes h.J h.M a = ⟨1,i,cM (nth h.J i) a,0⟩:=by
 rw[iK c.L d ⟨b.1,b.2.1⟩];unfold nI;rw[b.2.2.2,b.2.2.1];rfl
theorem wE(h:ab)(E:List Int)(a:Int)(b:aU h (a::E))(G:h.G.Calls≠100000):zzB 247 false [.ptr (gh h),.val none [I a]] [.ptr (gh (freeA h a)),.val none [I a]] (.tup []) []:=by
 obtain⟨g,t,H⟩:=b.at (b.hin a ψ);have J:=(b.hin a ψ).bd b;have D:=b.lens;have K:=D.spans;have M:=D.larges;unfold freeA;generalize uI h a=i at g t;have l:=b.L.sok _ (am g);have N:=aE l;have c:=ao g;have j:=nU h.J h.M a ⟨ω,λ_ _=>trivial⟩ ⟨ω,λ_ _=>trivial⟩;rw[TL b g t]at j;have w:=AG (nth h.J i) (cM (nth h.J i) a) l t.2.2.2;have P:=b.give g t;have n:=Lv (clrS h i a) (nth h.J i).R;rw[show fx (clrS h i a) (nth h.J i).R=fx h (nth h.J i).R from rfl]at n;have o:i<(clrS h i a).J.length:=by grind [clrS]
 have y:(nth (clrS h i a).J i).R=(nth h.J i).R:=by unfold clrS;simp only[bt,true_and];rw[CD g];rfl
 have p:=zW (clrS h i a) i b.ker G (by show h.w.length<=_;grind [oX.free]) o (by grind [clrS]) (by rw[y];omega);have d:gh (clrS h i a)=cE h (.s .own ((h.J.map (au.enc .own)).set i (au.enc .own (kL (nth h.J i) (cM (nth h.J i) a))))) (oL h) (oO h):=by
  rw[Eu (zB o)];show cE h (.s .own ((h.J.set i _).map _)) (oL h) (oO h)=_;rw[V7]
 have r:=m7 (clrS h i a);rw[d]at r p;have k:((h.J.map (au.enc .own)).set i (au.enc .own (kL (nth h.J i) (cM (nth h.J i) a))))[i]? = some (au.enc .own (kL (nth h.J i) (cM (nth h.J i) a))):=nZ g;rw[Eu (zB g)];have B:=RY h;unfold freeS;rcases Us h with e|⟨C,e⟩
 all_goals
  try rw[C]at j
  rw[e]at p r B d |-;by_cases F:(kL (nth h.J i) (cM (nth h.J i) a)).b2=0
  ·cases O:fx h (nth h.J i).R<;>rw[O]at n
   ·rw[CD ⟨F,rfl⟩]
    refine fM 64 [(386,[2,0])] [(0,11,[6,7,8,9,10,11,12,13,14,15,4]),(2,277,[20,21,22,23,24,25,26,27,28,29,30,31,32,33,34,35,36,19,37,38,39,0,1,2,3,4,5,6,7,8,9,10,11,12,13,14,15,16,17,18,19,20,21,1019]),(3,9,[40,41,42,43,44,45,46,47,5]),(4,9,[48,49,50,51,52,53,54,55,56])] [(0,0),(0,0)] Tryz.func247 rfl (λu q=>?_) (.inr trivial)
    repeat'(first|refine gB ?_|(conv=>whnf);first|refine CC ?_|refine CH (j) ⟨⟨rfl,gq _⟩,⟨rfl,mg _⟩,⟨rfl,rfl⟩,trivial⟩ ?_|refine CH (j) ⟨⟨rfl,gq _⟩,⟨rfl,rfl⟩,⟨rfl,rfl⟩,trivial⟩ ?_|refine CE (aa c) ?_|refine CE k ?_|refine CK rfl (aa c) rfl ?_|refine CK rfl k rfl ?_|refine C9 (w) ?_|refine CC ?_|refine CQ rfl rfl (aa c) rfl (O1 rfl) rfl ?_|refine CH (n) ⟨⟨rfl,r⟩,⟨rfl,rfl⟩,trivial⟩ ?_|refine CL (p) (.inl rfl) ?_)
    refine CJ rfl rfl ?_;exact wB
   rw[CB (λx=>by cases x.2),d];refine fM 64 [(386,[2,0])] [(0,11,[6,7,8,9,10,11,12,13,14,15,4]),(2,277,[20,21,22,23,24,25,26,27,28,29,30,31,32,33,34,35,36,19,37,38,39,0,1,2,3,4,5,6,7,8,9,10,11,12,13,14,15,16,17,18,19,20,21,1019]),(3,9,[40,41,42,43,44,45,46,47,5]),(4,9,[48,49,50,51,52,53,54,55,56])] [(0,0),(0,0)] Tryz.func247 rfl (λu q=>?_) (.inr trivial)
   repeat'(first|refine gB ?_|(conv=>whnf);first|refine CC ?_|refine CH (j) ⟨⟨rfl,gq _⟩,⟨rfl,mg _⟩,⟨rfl,rfl⟩,trivial⟩ ?_|refine CH (j) ⟨⟨rfl,gq _⟩,⟨rfl,rfl⟩,⟨rfl,rfl⟩,trivial⟩ ?_|refine CE (aa c) ?_|refine CE k ?_|refine CK rfl (aa c) rfl ?_|refine CK rfl k rfl ?_|refine C9 (w) ?_|refine CC ?_|refine CQ rfl rfl (aa c) rfl (O1 rfl) rfl ?_|refine CH (n) ⟨⟨rfl,r⟩,⟨rfl,rfl⟩,trivial⟩ ?_|refine CL (p) (.inl rfl) ?_)
   refine CJ rfl rfl ?_;exact wB
  rw[CB (λx=>F x.1),d];refine fM 64 [(386,[2,0])] [(0,11,[6,7,8,9,10,11,12,13,14,15,4]),(2,277,[20,21,22,23,24,25,26,27,28,29,30,31,32,33,34,35,36,19,37,38,39,0,1,2,3,4,5,6,7,8,9,10,11,12,13,14,15,16,17,18,19,20,21,1019]),(3,9,[40,41,42,43,44,45,46,47,5]),(4,9,[48,49,50,51,52,53,54,55,56])] [(0,0),(0,0)] Tryz.func247 rfl (λu q=>?_) (.inr trivial)
  repeat'(first|refine gB ?_|(conv=>whnf);first|refine CC ?_|refine CH (j) ⟨⟨rfl,gq _⟩,⟨rfl,mg _⟩,⟨rfl,rfl⟩,trivial⟩ ?_|refine CH (j) ⟨⟨rfl,gq _⟩,⟨rfl,rfl⟩,⟨rfl,rfl⟩,trivial⟩ ?_|refine CE (aa c) ?_|refine CE k ?_|refine CK rfl (aa c) rfl ?_|refine CK rfl k rfl ?_|refine C9 (w) ?_|refine CC ?_|refine CQ rfl rfl (aa c) rfl (O1 rfl) rfl ?_|refine CH (n) ⟨⟨rfl,r⟩,⟨rfl,rfl⟩,trivial⟩ ?_|refine CL (p) (.inl rfl) ?_)
  refine CJ rfl rfl ?_;exact wB
theorem dY.frz_at{S F:ah}{v:Value}{c:C}(h:dY w S F (.s .own rows) v)(D:rows[i]? = some [c]):∃V:ah,(∀b o,V b o->F b o)/\dY w (λb o=>S b o\/V b o) (λb o=>F b o/\¬V b o) (.s .own (rows.set i [fz c])) v:=by
 cases h with
 | nil _ o a E=>simp at D
 | own _ o g k n B rows u f E K L d l M N O P G=>
  have Q:i<rows.length:=ψ
  obtain rfl:k=1:=by rw[<-L [c] ψ];rfl
  simp only[Nat.mul_one]at M N O P G;refine⟨f i,ψ,?_⟩;refine .own _ .own g 1 n B _ u (λq=>if q=i then NO else f q) E (by simpa using K) (λr h=>?_) d l (λq H=>?_) ψ (λq H b o p=>?_) (λq X H R T b o p t=>?_) (λJ U r W y A=>?_)
  ·grind
  ·grind
  ·split at p
   ·exact p.elim
   grind
  ·split at p
   ·exact p.elim
   split at t
   ·exact t.elim
   grind
  by_cases e:J=i
  ·subst e
   rw[O4 Q]at y;obtain rfl:=Option.some.inj y;cases U with
   | succ j=>simp at A
   | zero=>
    obtain rfl:fz c=W:=by simpa using A
    have:=(G J 0 [c] c D rfl).freeze
    grind
  grind [dY.mono]
theorem ar.frz{sh:Bool}{A:List RA}{k:Kd}{c:C}(h:ar P f sh A k [.s .own rows])(d:rows[i]? = some [c]):ar P f sh A k [.s .own (rows.set i [fz c])]:=by
 obtain⟨l,n⟩:=h;refine⟨l,λw S p q r=>(n w S p q r).mono λe w1 t=>?_⟩;obtain⟨v,u,y,X,B,H,J,K,D,g,E,L,M⟩:=t;obtain⟨V,N,O⟩:=(E 0 _ rfl).frz_at d;have F:∀b o,V b o->X b o:=ψ
 refine⟨v,u,y,λb o=>X b o/\¬V b o,λb o=>B b o\/V b o,ψ,λb o a=>?_,λb o a h=>?_,D,λj=>if j=0 then(λb o=>g 0 b o/\¬V b o) else NO,λj Q G=>?_,λj G b o a=>?_,ψ⟩
 ·grind
 ·grind
 ·grind
 all_goals simp_all
def JM(c:aC)(k:Nat):aC:=⟨c.a.set k []⟩
theorem Kb(c:aC)(k:Nat):aC.enc .own (JM c k)=[.s .own ((c.a.map (aF .own)).set k (aF .own []))]:=by grind [V7,aC.enc,JM]
theorem FW(xs:List Int):([]:List Int).map (rI .W)=(xs.map (rI .W)).drop xs.length:=by simp_all
theorem GH(xs:List Int):xs.map (rI .W)=(xs.map (rI .W)).take xs.length:=by grind [I1]
def u7{k:Nat}{r:List C}(h:k<rows.length):(rows.set k r)[k]? = some r:=O4 h
def TZ(c:aC)(k:Nat):List C:=aC.enc .own (JM c k)++aF .own (nth c.a k)
def Qk(c:aC)(k:Nat):hO (TZ c k):=aG (aC.enc_fr _) (bM _)
def w6(c:aC)(k:Nat)(d:bz c=true)(p:k<=3):zzA 522 false [.val (some 1) (aC.enc .W c),.val none [I (k:Nat)],.val none [I 8]] (.tup [some 1,none]) (TZ c k):=by
 obtain⟨q,e⟩:=eQ d;have g:aC.sml c:=⟨ω,λl j=>by have:=e l j;show l.length<=1048576;omega⟩
 have h:=yL c k g;rw[d,O0 ω]at h;have n:=js c g;have a:=qf (c:=c) (k:=k) ω;have o:=e _ (am (xs:=c.a) (i:=k) ω);have b:=Qk c k;unfold TZ at b |-;rw[Kb]at b |-;refine fO 52 [(5,268,[29,30,31,32,33,34,35,36,37,38,39,41,0,1,2,3,4,5,6,7,8,9,10,11,1000,1001,1002,12,13]),(6,265,[42,43,44,45,46,47,48,49,50,0,1,2,3,4,5,6,7,8,9,1000,10,11])] Tryz.func522 rfl ?_ (.inr b)
 repeat'(first|refine gP ?_|(conv=>whnf);first|with_reducible refine CE (aa a) ?_|refine CC ?_|refine CK rfl (aa a) rfl ?_|refine C9 (h) ?_|refine C9 (n) ?_|refine CS (z:=((nth c.a k).length:Int)) (by simp;omega) ?_|refine Cb (nth c.a k).length rfl (by rw[I1];omega) (aM λ_=>rfl) (FW _) ?_|refine CX (nth c.a k).length rfl (by rw[I1];omega) (aM λ_=>rfl) (GH _) ?_|refine CC ?_|refine CY (λ_=>rfl) (λ_=>rfl) (by simp) (by decide) ?_|refine CR (λ_=>rfl) (λ_=>rfl) (by simp) (by decide) ?_|refine CY (λ_=>rfl) (λ_=>rfl) ω (by decide) ?_|refine CR (λ_=>rfl) (λ_=>rfl) ω (by decide) ?_|refine CQ rfl rfl (aa a) rfl (O1 rfl) rfl ?_)
 rfl
theorem wz(c:aC)(k:Nat)(e:bz c=true)(q:k<=3):zzA 246 false [.val (some 1) (aC.enc .W c),.val none [I (k:Nat)],.val none [I 8]] (.tup [some 1,none]) (TZ c k):=by
 obtain⟨r,g⟩:=eQ e;have h:aC.sml c:=⟨ω,λl o=>by have:=g l o;show l.length<=1048576;omega⟩
 have j:=HY c k h;rw[e,O0 ω]at j;have b:=qf (c:=c) (k:=k) ω;have p:=g _ (am (xs:=c.a) (i:=k) ω);have n:=ar.frz (pP c h) (i:=k) (c:=.s .own ((nth c.a k).map (rI .own))) (aa b);rw[show fz (.s .own ((nth c.a k).map (rI .own)))=.s .W ((nth c.a k).map (rI .W)) from(List.cons.inj (eM (nth c.a k))).1]at n;have a:k<(c.a.map (aF .own)).length:=ψ
 have d:=Qk c k;unfold TZ at d |-;rw[Kb]at d |-;refine fO 43 [(6,7,[30,31,32,33,34,35,36]),(7,5,[38,39,40,41,42])] Tryz.func246 rfl ?_ (.inr d)
 repeat'(first|refine gP ?_|(conv=>whnf);first|with_reducible refine CE (aa b) ?_|refine CC ?_|refine CK rfl (aa b) rfl ?_|refine C9 (j) ?_|refine C9 (n) ?_|refine CS (z:=((nth c.a k).length:Int)) (by simp;omega) ?_|refine Cb (nth c.a k).length rfl (by rw[I1];omega) (aM λ_=>rfl) (FW _) ?_|refine CX (nth c.a k).length rfl (by rw[I1];omega) (aM λ_=>rfl) (GH _) ?_|refine CC ?_|refine C9 (gH [] (by simp)) ?_|refine C9 (gH (nth c.a k) ω) ?_|refine CK rfl (u7 a) rfl ?_|refine CQ rfl rfl (u7 a) rfl (O1 rfl) (by simp only[List.set_cons_zero,List.set_set];rfl) ?_|refine CE (u7 a) ?_)
 simp only[List.set_set,O3];rfl
theorem qa{k:Int} : ∀{l s s2 b:List Int},(∀x∈s2,x∈s)->su k s l=some b->(∀x∈s,x∈b)/\∃c,su k s2 l=some c/\∀x∈c,x∈b
 | [],s,s2,b,h,e=>by grind [su]
 | a::l,s,s2,b,h,e=>by
  simp only[su]at e |-;split at e
  ·rename_i g
   rw[CD (show good k s2 a from⟨g.1,g.2.1,g.2.2.1,λx=>g.2.2.2 (h a x)⟩)];obtain⟨d,f⟩:=qa (l:=l) (s:=s++[a]) (s2:=s2++[a]) ψ e
   grind
  cases e
theorem ux:∀{a:List (List Int)}{k:Nat}{s s2:List Int},(∀x∈s2,x∈s)->(im k s a).isSome=true->(im k s2 a).isSome=true
 | [],_,_,_,_,_=>rfl
 | l::a,k,s,s2,h,e=>by
  simp only[im,fL]at e |-;split at e
  ·rename_i g
   rw[CD g];cases b:su k s l with
   | none=>grind
   | some i=>
    rw[b]at e;obtain⟨-,c,d,f⟩:=qa h b;rw[d];exact ux f e
  cases e
theorem G4:∀{a:List (List Int)}{k:Nat}{s s2:List Int}(i:Nat),(∀x∈s2,x∈s)->(im k s a).isSome=true->(im k s2 (a.set i [])).isSome=true
 | [],_,_,_,_,_,_=>rfl
 | l::a,k,s,s2,i,h,e=>by
  simp only[im,fL]at e;split at e
  ·rename_i g
   cases b:su k s l with
   | none=>grind
   | some j=>
    rw[b]at e;obtain⟨n,c,d,f⟩:=qa h b;cases i with
    | zero=>
     simp only[List.set_cons_zero,im,fL];rw[CD ⟨by simp,g.2⟩];exact ux ψ e
    | succ i=>
     simp only[List.set_cons_succ,im,fL];rw[CD g,d];exact G4 i f e
  cases e
theorem Tz{c:aC}(h:bz c=true)(k:Nat):bz (JM c k)=true:=by grind [G4,bz,JM]
def spilt(h:ab)(t k:Nat):ab:={h with S:=h.S.set t (JM (nth h.S t) k)}
theorem aU.spilt{h:ab}{E:List Int}{t k:Nat}(d:aU h E)(i:t<h.S.length)(n:k<(nth h.S t).a.length):aU (spilt h t k) (nth (nth h.S t).a k++E):=by
 have p:(E++holders h).Perm (nth (nth h.S t).a k++E++holders (Ab.spilt h t k)):=by
  refine List.perm_iff_count.2 λb=>?_
  have r:=jh (λc:aC=>c.a.flatten) b h.S t (JM (nth h.S t) k) i;have q:=jh (λx:List Int=>x) b (nth h.S t).a k [] n;rw[<-lJ,<-lJ]at q;simp only[List.count_nil]at q;simp only[JM]at r;simp only[holders,cI,Ab.spilt,JM,S7];omega
 have g:∀c∈(Ab.spilt h t k).S,c∈h.S\/c=JM (nth h.S t) k:=λc u=>Y7 u
 exact {d with
   nc:=by show(h.S.set ..).length=_;rw[Z1];exact d.nc
   cach:=λc f=>by grind [aU.cach,Tz,am]
   onu:=by show ∀o∈h.O,1<=o.Id/\o.Id<=h.b - 1/\0<=o.a5/\o.a5<=(h.S.set t _).length - 1;rw[Z1];exact d.onu
   hca:=λc f j l b a=>by
     rcases g c f with f|rfl
     · exact d.hca c f j l b a
     simp only[JM,Z1]at l;simp only[JM,bt]at a;by_cases e:k=j
     · grind
     rw[CB λx=>e x.1]at a;exact d.hca _ (am i) _ l b a
   hin:=λb a=>by
     rcases W3.1 a with a|a
     · exact(d.hca _ (am i) k n b a).any
     exact d.hin b a
   nd:=p.nodup_iff.1 d.nd
   mem:=λb=>by rw[<-p.mem_iff];exact d.mem b}
def freeAs(h:ab)(az:List Int):ab:=az.foldl freeA h
theorem gk:∀(az:List Int)(h:ab),(freeAs h az).S=h.S/\(freeAs h az).O=h.O/\(freeAs h az).G.Calls=h.G.Calls/\(freeAs h az).y=h.y/\(freeAs h az).Y=h.Y/\(freeAs h az).b3=h.b3/\(freeAs h az).a9=h.a9/\(freeAs h az).G.u=h.G.u
 | [],h=>⟨rfl,rfl,rfl,rfl,rfl,rfl,rfl,rfl⟩
 | a::az,h=>by
  obtain⟨b,c,d,e,f,g,i,j⟩:=gk az (freeA h a);obtain⟨k,l,n,o,p,q,r,t⟩:=yu h (uI h a) a;exact⟨b.trans k,c.trans l,d.trans n,e.trans o,f.trans p,g.trans q,i.trans r,j.trans t⟩
theorem aU.freeAs{E:List Int} : ∀{az:List Int}{h:ab},aU h (az++E)->aU (freeAs h az) E
 | [],_,b=>b
 | a::az,h,b=>aU.freeAs (az:=az) (h:=Ab.freeA h a) b.freeA
theorem pT(h:ab)(az:List Int)(k:Nat)(a:k<az.length):freeAs h (az.take (k+1))=freeA (freeAs h (az.take k)) (nth az k):=by grind [Y6,ao,freeAs]
def flushN(t:Nat)(h:ab):Nat->ab × Nat
 | 0=>(h,0)
 | k+1=>(freeAs (spilt (flushN t h k).1 t k) (nth (nth (flushN t h k).1.S t).a k),(flushN t h k).2+(nth (nth (flushN t h k).1.S t).a k).length)
theorem fS{t:Nat}{h:ab}(b:aU h [])(c:t<h.S.length):∀{k:Nat},k<=4->aU (flushN t h k).1 []/\(flushN t h k).1.S.length=h.S.length/\(flushN t h k).1.G.Calls=h.G.Calls/\(flushN t h k).1.O=h.O/\(flushN t h k).1.y=h.y/\(flushN t h k).1.Y=h.Y/\(flushN t h k).2<=8*k
 | 0,_=>⟨b,rfl,rfl,rfl,rfl,rfl,X0 _⟩
 | k+1,e=>by
  obtain⟨d,f,g,i,j,l,n⟩:=fS b c (k:=k) ω;have a:t<(flushN t h k).1.S.length:=ω
  obtain⟨o,p⟩:=eQ (d.cach _ (am a))
  grind [aU.spilt,am,gk,aU.freeAs,spilt,flushN]
theorem zj{t k:Nat}(a:aU h [])(b:t<h.S.length)(c:k<4):t<(flushN t h k).1.S.length/\bz (nth (flushN t h k).1.S t)=true/\k<(nth (flushN t h k).1.S t).a.length/\(nth (nth (flushN t h k).1.S t).a k).length<=8/\(flushN t h k).2<=8*k:=by grind [fS,aU.cach,am,eQ]
theorem Gi{t k:Nat}(a:aU h [])(b:t<h.S.length)(c:k<4)(f:j<(nth (nth (flushN t h k).1.S t).a k).length):aU (freeAs (spilt (flushN t h k).1 t k) ((nth (nth (flushN t h k).1.S t).a k).take j)) (nth (nth (nth (flushN t h k).1.S t).a k) j::(nth (nth (flushN t h k).1.S t).a k).drop (j+1)):=by
 obtain⟨d,e⟩:=zj a b c;have g:=((fS a b (k:=k) ω).1).spilt d e.2.1
 grind [aU.freeAs,iD,List.take_append_drop]
theorem Af(h:ab)(t:Nat)(i:aU h [])(l:t<h.S.length):zzB 424 false [.ptr (bE h),.val none [I (t:Nat)]] [.ptr (bE (flushN t h 4).1),.val none [I (t:Nat)]] .one [I ((flushN t h 4).2:Nat)]:=by
 refine fM 48 [(426,[2,0])] [(6,6,[26,27,28,29,30,31])] [(0,0),(0,0)] Tryz.func424 rfl (λu q=>?_)
 repeat'(first|refine gP ?_|fail)
 (conv=>whnf)
 refine CG (ι:=Nat) (λk=>[(0,.H .box (bE (flushN t h k).1)),(1,.H .one [I ((t:Nat):Int)]),(5,.H .one [I (((flushN t h k).2:Nat):Int)]),(6,.H .one [I ((k:Nat):Int)])]) (λk=>k<=4) (λk=>4 - k) (0) ?_ (X0 _) λk D=>?_
 ·repeat'(first|exact trivial|rfl |exact mE a|exact dK _|refine CM ?_ ?_|(exact Ac (by first|omega|(simp only;omega)|(simp;omega))))
 by_cases n:k<4
 ·obtain⟨o,p,E,F,G⟩:=zj i l n
  have r:=w6 (nth (flushN t h k).1.S t) k p ω;have c:=λj=>Gi i l n (j:=j)
  have e:=ao o;have w:(flushN t h (k+1)).1=freeAs (spilt (flushN t h k).1 t k) (nth (nth (flushN t h k).1.S t).a k):=rfl;have y:(flushN t h (k+1)).2=(flushN t h k).2+(nth (nth (flushN t h k).1.S t).a k).length:=rfl;have a:C.s dM.own ((spilt (flushN t h k).1 t k).S.map (aC.enc .own))=C.s dM.own (((flushN t h k).1.S.map (aC.enc .own)).set t (aC.enc .own (JM (nth (flushN t h k).1.S t) k))):=by grind [V7,spilt]
  repeat'(first|refine gE ?_|(conv=>whnf);first|refine CE (aa e) ?_|refine CK rfl (aa e) rfl ?_|refine CH (r) ⟨⟨rfl,aC.enc_fz _⟩,⟨rfl,rfl⟩,⟨rfl,rfl⟩,trivial⟩ ?_|refine CC ?_|refine CQ rfl rfl (aa e) rfl (O1 rfl) rfl ?_)
  generalize (flushN t h k).1=d at *;generalize (flushN t h k).2=m at *
  (conv=>whnf)
  refine CG (ι:=Nat) (λj=>[(0,.H .box (bE (freeAs (spilt d t k) ((nth (nth d.S t).a k).take j)))),(1,.H .one [I ((t:Nat):Int)]),(5,.H .one [I (((m+j):Nat):Int)]),(6,.H .one [I ((k:Nat):Int)]),(8,.H .one (aF .own (nth (nth d.S t).a k))),(9,.H .one [I ((j:Nat):Int)])]) (λj=>j<=(nth (nth d.S t).a k).length) (λj=>(nth (nth d.S t).a k).length - j) (0) ?_ (X0 _) λj H=>?_
  ·repeat'(first|exact trivial|rfl |exact mE a|exact dK _|refine CM ?_ ?_|(exact Ac (by first|omega|(simp only;omega)|(simp;omega))))
  by_cases g:j<(nth (nth d.S t).a k).length
  ·have b:=ao g
   have B:=o6 _ _ _ (c j g)
   repeat'(first|refine gE ?_|(conv=>whnf);first|refine CE (aa b) ?_|refine CK rfl (aa b) rfl ?_|refine CL (B) (.inl rfl) ?_)
   ((conv=>whnf);refine CF (j+1) ω ω ?_)
   rw[pT _ _ _ g];exact wC
  obtain rfl:j=(nth (nth d.S t).a k).length:=ω
  rw[O6]
  repeat'(first|refine gE ?_|fail)
  ((conv=>whnf);refine CF (k+1) ω ω ?_)
  rw[w,y];exact wC
 obtain rfl:k=4:=ω
 repeat'(first|refine gE ?_|fail)
 refine CJ rfl rfl ?_;exact wC
def DR(h:ab)(t:Int)(a:ab.sml h):zzA 245 false [.val (some 24) (ab.enc .W h),.val none [I t]] .one [B (decide (0<=t/\t<=h.S.length - 1)&&decide (h.G.Calls≠100000)&&cJ h)]:=by
 have b:=fI h a;rw[iw]at b;have d:h.S.length<=1048576:=a.2.2.2.2.2.1.1;have c:=aK t 0 (h.S.length - 1:Int);cases e:decide (0<=t/\t<=(h.S.length:Int) - 1)<;>rw[e]at c
 all_goals
  cases g:decide (h.G.Calls≠100000)
  all_goals
   simp only[C0,Y5]at g;refine fO 21 [] Tryz.func245 rfl ?_
   repeat'(first|refine gP ?_|(conv=>whnf);first|with_reducible refine Bf.N (λi=>?_) (λi=>?_)|refine C9 (b) ?_|refine C9 (c) ?_)
   all_goals first|rfl|(exfalso;omega)
theorem zo(h:ab)(t:Nat)(p:ab.sml h)(q:cJ h=true)(r:h.G.Calls≠100000)(c:t<h.S.length):zzA 91 false [.val (some 24) (ab.enc .W h),.val none [I (t:Nat)]] (.tup [some 24,none]) (gh (flushN t h 4).1++[I ((flushN t h 4).2:Nat)]):=by
 have e:=aU.of q;have u:=DR h t p;rw[q,O0 ω,O0 r]at u;have y:=lK h p;refine fP 52 [(247,[2,0])] [] Tryz.func91 rfl ?_ (.inr (aG (mq _) ⟨trivial,trivial⟩))
 repeat'(first|refine gP ?_|(conv=>whnf);first|refine C9 (u) ?_|refine C9 (y) ?_)
 (conv=>whnf)
 refine CG (ι:=Nat) (λk=>[(1,.H .one [I ((t:Nat):Int)]),(4,.H .box xC),(6,.H .box (gh (flushN t h k).1)),(7,.H .one [I (((flushN t h k).2:Nat):Int)]),(8,.H .one [I ((k:Nat):Int)])]) (λk=>k<=4) (λk=>4 - k) (0) ?_ (X0 _) λk J=>?_
 ·repeat'(first|exact trivial|rfl |exact mE a|exact dK _|refine CM ?_ ?_|(exact Ac (by first|omega|(simp only;omega)|(simp;omega))))
 by_cases w:k<4
 ·obtain⟨B,D,K,L,M⟩:=zj e c w
  have E:=wz (nth (flushN t h k).1.S t) k D ω;have g:=λj=>Gi e c w (j:=j)
  have i:=λj=>(gk ((nth (nth (flushN t h k).1.S t).a k).take j) (spilt (flushN t h k).1 t k)).2.2.1
  have l:(spilt (flushN t h k).1 t k).G.Calls≠100000:=by have:=(fS e c (k:=k) ω).2.2.1;show(flushN t h k).1.G.Calls≠100000;rw[this];exact r
  have n:=ao B;have F:(flushN t h (k+1)).1=freeAs (spilt (flushN t h k).1 t k) (nth (nth (flushN t h k).1.S t).a k):=rfl;have G:(flushN t h (k+1)).2=(flushN t h k).2+(nth (nth (flushN t h k).1.S t).a k).length:=rfl;have a:C.s dM.own ((spilt (flushN t h k).1 t k).S.map (aC.enc .own))=C.s dM.own (((flushN t h k).1.S.map (aC.enc .own)).set t (aC.enc .own (JM (nth (flushN t h k).1.S t) k))):=by grind [V7,spilt]
  repeat'(first|refine gE ?_|(conv=>whnf);first|refine CE (aa n) ?_|refine CK rfl (aa n) rfl ?_|refine CH (E) ⟨⟨rfl,aC.enc_fz _⟩,⟨rfl,rfl⟩,⟨rfl,rfl⟩,trivial⟩ ?_|refine CC ?_|refine CQ rfl rfl (aa n) rfl (O1 rfl) rfl ?_)
  generalize (flushN t h k).1=d at *;generalize (flushN t h k).2=m at *
  (conv=>whnf)
  refine CG (ι:=Nat) (λj=>[(1,.H .one [I ((t:Nat):Int)]),(4,.H .box xC),(6,.H .box (gh (freeAs (spilt d t k) ((nth (nth d.S t).a k).take j)))),(7,.H .one [I (((m+j):Nat):Int)]),(8,.H .one [I ((k:Nat):Int)]),(10,.H .one (aF .own (nth (nth d.S t).a k))),(39,.c1 10 0 [] none),(40,.H .one [I ((nth (nth d.S t).a k).length)]),(41,.H .one [I ((j:Nat):Int)])]) (λj=>j<=(nth (nth d.S t).a k).length) (λj=>(nth (nth d.S t).a k).length - j) (0) ?_ (X0 _) λj N=>?_
  ·repeat'(first|exact trivial|rfl |exact mE a|exact dK _|refine CM ?_ ?_|(exact Ac (by first|omega|(simp only;omega)|(simp;omega))))
  by_cases o:j<(nth (nth d.S t).a k).length
  ·have b:=ao o
   have H:=wE _ _ _ (g j o) (by rw[i];exact l)
   repeat'(first|refine gE ?_|(conv=>whnf);first|refine CE (aa b) ?_|refine CK rfl (aa b) rfl ?_|refine CL (H) (.inl rfl) ?_)
   ((conv=>whnf);refine CF (j+1) ω ω ?_)
   rw[pT _ _ _ o];exact wC
  obtain rfl:j=(nth (nth d.S t).a k).length:=ω
  rw[O6]
  repeat'(first|refine gE ?_|fail)
  ((conv=>whnf);refine CF (k+1) ω ω ?_)
  rw[F,G];exact wC
 obtain rfl:k=4:=ω
 repeat'(first|refine gE ?_|fail)
 rfl
def zY(s:Int):Int:=(1103515245*s+12345) % 1073741824
def Ei(s:Int):0<=zY s/\zY s<=1073741823:=by unfold zY;omega
def AJ(s:Int)(b:0<=s/\s<=1073741823):zzA 548 false [.val none [I s]] .one [I (zY s)]:=by
 have a:=aH s 0 1073741823;rw[O0 b]at a;refine fO 10 [] Tryz.func548 rfl ?_
 repeat'(first|refine gP ?_|(conv=>whnf);first|refine CC ?_|refine CS (z:=zY s) (dP ω) ?_|refine C9 (a) ?_|refine CP (by decide) ?_)
 rfl
def sL(s:Int)(b:0<=s/\s<=1073741823):zzA 83 false [.val none [I s]] .one [B true]:=by
 have a:=aK s 0 1073741823;rw[O0 b]at a;refine fO 5 [] Tryz.func83 rfl ?_
 repeat'(first|refine gP ?_|(conv=>whnf);first|refine CC ?_|refine C9 (a) ?_)
 rfl
def Aq(s:Int)(a:0<=s/\s<=1073741823):zzA 456 false [.val none [I s]] .one [I (zY s)]:=by
 refine fO 10 [] Tryz.func456 rfl ?_
 repeat'(first|refine gP ?_|(conv=>whnf);first|refine CC ?_|refine CS (z:=zY s) (dP ω) ?_|refine C9 (sL s a) ?_|refine CP (by decide) ?_)
 rfl
def GC(s n:Int):Int:=zY s / 1024 % n
def si(s:Int){n:Int}(h:1<=n):0<=GC s n/\GC s n<n:=⟨Int.emod_nonneg _ ω,Int.emod_lt_of_pos _ ω⟩
theorem we(s n:Int)(b:0<=s/\s<=1073741823)(c:1<=n/\n<=1000):zzA 480 false [.val none [I s],.val none [I n]] (.tup [none,none]) [I (GC s n),I (zY s)]:=by
 have d:=aH s 0 1073741823;have e:=aH n 1 1000;rw[O0 b]at d;rw[O0 c]at e;have h:=Ei s;have i:=si s c.1;have a:(zY s).tdiv 1024=zY s / 1024:=ψ
 have g:((zY s).tdiv 1024).tmod n=GC s n:=by rw[a];exact dP ω
 refine fO 23 [] Tryz.func480 rfl ?_ (.inr ⟨trivial,trivial,trivial⟩)
 repeat'(first|refine gP ?_|(conv=>whnf);first|refine CC ?_|refine C9 (d) ?_|refine C9 (e) ?_|refine C9 (AJ s b) ?_|refine CP (by decide) ?_|refine CP ω ?_|refine CS g ?_|refine CO (eX (by rw[a];omega) (by rw[a];omega)) ?_)
 rfl
theorem Fb(s n:Int)(b:0<=s/\s<=1073741823)(c:1<=n/\n<=1000):zzA 337 false [.val none [I s],.val none [I n]] (.tup [none,none]) [I (GC s n),I (zY s)]:=by
 have d:=aK n 1 1000;rw[O0 c]at d;have g:=Ei s;have h:=si s c.1;have a:(zY s).tdiv 1024=zY s / 1024:=ψ
 have e:((zY s).tdiv 1024).tmod n=GC s n:=by rw[a];exact dP ω
 refine fO 23 [] Tryz.func337 rfl ?_ (.inr ⟨trivial,trivial,trivial⟩)
 repeat'(first|refine gP ?_|(conv=>whnf);first|refine CC ?_|refine C9 (sL s b) ?_|refine C9 (d) ?_|refine C9 (Aq s b) ?_|refine CP (by decide) ?_|refine CP ω ?_|refine CS e ?_|refine CO (eX (by rw[a];omega) (by rw[a];omega)) ?_)
 rfl
def pB(n:Nat):List Int:=(List.range n).map λ(i:Nat)=>(i:Int)
theorem xt(n:Nat):pB (n+1)=pB n++[(n:Int)]:=by grind [List.range_succ,pB]
def uq(n:Nat):(pB n).length=n:=by simp[pB]
def vE(xs:List Int)(i k:Nat):List Int:=(xs.set i (nth xs k)).set k (nth xs i)
def M2(xs:List Int)(i k:Nat):(vE xs i k).length=xs.length:=by simp[vE]
def fp(n:Nat)(s:Int):Nat->List Int × Int
 | 0=>(pB n,s)
 | j+1=>(vE (fp n s j).1 (n - 1 - j) (GC (fp n s j).2 ((n - 1 - j:Nat)+1:Int)).toNat,zY (fp n s j).2)
def ko(n:Nat){s:Int}(a:0<=s/\s<=1073741823):∀j,(fp n s j).1.length=n/\0<=(fp n s j).2/\(fp n s j).2<=1073741823
 | 0=>⟨uq n,a⟩
 | j+1=>⟨by simp only[fp,M2];exact(ko n a j).1,Ei _⟩
def shuf(n:Nat)(s:Int):List Int × Int:=fp n s (n - 1)
theorem GP(xs:List Int)(i k:Nat):(vE xs i k).map (rI .own)=((xs.map (rI .own)).set i (rI .own (nth xs k))).set k (rI .own (nth xs i)):=by grind [V7,vE]
theorem Ba{xs:List Int}{k:Nat}(v:Int)(a:k<xs.length):((xs.map (rI .own)).set i (rI .own v))[k]? = some (rI .own (nth (xs.set i v) k)):=by
 rw[<-V7];grind [ao]
def AD(n:Nat)(s:Int)(d:0<=s/\s<=1073741823)(w:n<=64):zzA 526 false [.val none [I s],.val none [I (n:Nat)]] (.tup [none,none]) (aF .own (shuf n s).1++[I (shuf n s).2]):=by
 have e:=aH s 0 1073741823;have g:=aH (n:Nat) 0 64;rw[O0 d]at e;rw[O0 ω]at g;refine fO 63 [] Tryz.func526 rfl ?_ (.inr (aG (bM _) ⟨trivial,trivial⟩))
 repeat'(first|refine gP ?_|(conv=>whnf);first|refine CC ?_|refine C9 (e) ?_|refine C9 (g) ?_)
 (conv=>whnf)
 refine CG (ι:=Nat) (λk=>[(0,.H .one [I (s)]),(1,.H .one [I ((n:Nat):Int)]),(6,.H .one (aF .own (pB k))),(7,.H .one [I ((k:Nat):Int)])]) (λk=>k<=n) (λk=>n - k) (0) ?_ (X0 _) λk y=>?_
 ·exact wB
 have h:=uq k;by_cases B:k<n
 ·repeat'(first|refine gE ?_|(conv=>whnf);first|refine CC ?_|refine Ap.sm (aM λ_=>rfl) rfl (by simp;omega) (by decide) (gy (rI .own) (pB k) (k:Int)) ?_)
  ((conv=>whnf);refine CF (k+1) ω ω ?_)
  rw[xt];exact wB
 obtain rfl:k=n:=ω
 repeat'(first|refine gE ?_|(conv=>whnf);first|refine CC ?_)
 (conv=>whnf)
 refine CG (ι:=Nat) (λj=>[(0,.H .one [I ((fp k s j).2)]),(6,.H .one (aF .own (fp k s j).1)),(8,.H .one [I (((k:Int) - 1 - j))])]) (λj=>(j<=k - 1/\j<=k)) (λj=>k - j) (0) ?_ ω λj C=>?_
 ·exact wB
 obtain⟨D,l,o⟩:=ko k d j;by_cases E:j<k - 1
 ·have q:(k:Int) - 1 - j=((k - 1 - j:Nat):Int):=ω
  have r:=si (fp k s j).2 (n:=((k - 1 - j:Nat)+1:Int)) ω;have t:=we (fp k s j).2 ((k - 1 - j:Nat)+1:Int) ⟨l,o⟩ ω;have u:fp k s (j+1)=(vE (fp k s j).1 (k - 1 - j) (GC (fp k s j).2 ((k - 1 - j:Nat)+1:Int)).toNat,zY (fp k s j).2):=rfl;rw[q];generalize fp k s j=p at *;obtain⟨xs,z⟩:=p;simp only at *;generalize k - 1 - j=i at *;have a:=ao (xs:=xs) (i:=i) ω;have b:=ao (xs:=xs) (i:=(GC z (i+1)).toNat) ω;have c:=Ba (xs:=xs) (i:=i) (k:=(GC z (i+1)).toNat) (nth xs (GC z (i+1)).toNat) ω
  repeat'(first|refine gE ?_|(conv=>whnf);first|refine CC ?_|refine C9 (t) ?_|refine CN ω (aa b) ?_|refine CE (aa a) ?_|refine CK rfl (aa a) rfl ?_|refine CK rfl (aa b) rfl ?_|refine CQ rfl rfl (aa a) rfl (O1 rfl) rfl ?_|refine CN ω c ?_|refine CQ rfl rfl c rfl (O1 rfl) rfl ?_)
  ((conv=>whnf);refine CF (j+1) ω ω ?_)
  rw[u];simp only[aF,GP];exact wB
 obtain rfl:j=k - 1:=ω
 repeat'(first|refine gE ?_|(conv=>whnf);first|refine CC ?_)
 rfl
def Ax(n:Nat)(s:Int)(d:0<=s/\s<=1073741823)(w:n<=64):zzA 495 false [.val none [I s],.val none [I (n:Nat)]] (.tup [none,none]) (aF .own (shuf n s).1++[I (shuf n s).2]):=by
 have g:=sL s d;have e:=aK (n:Nat) 0 64;rw[O0 ω]at e;refine fO 60 [(12,270,[43,44,45,46,47,48,49,50,51,52,53,54,55,56,0,1,2,3,4,5,6,7,8,9,10,11,12,13,1002,1003,14,15])] Tryz.func495 rfl ?_ (.inr (aG (bM _) ⟨trivial,trivial⟩))
 repeat'(first|refine gP ?_|(conv=>whnf);first|refine CC ?_|refine C9 (g) ?_|refine C9 (e) ?_)
 (conv=>whnf)
 refine CG (ι:=Nat) (λk=>[(0,.H .one [I (s)]),(1,.H .one [I ((n:Nat):Int)]),(6,.H .one (aF .own (pB k))),(7,.H .one [I ((k:Nat):Int)])]) (λk=>k<=n) (λk=>n - k) (0) ?_ (X0 _) λk y=>?_
 ·exact wB
 have h:=uq k;by_cases B:k<n
 ·repeat'(first|refine gE ?_|(conv=>whnf);first|refine CC ?_|refine Ap.sm (aM λ_=>rfl) rfl (by simp;omega) (by decide) (gy (rI .own) (pB k) (k:Int)) ?_)
  ((conv=>whnf);refine CF (k+1) ω ω ?_)
  rw[xt];exact wB
 obtain rfl:k=n:=ω
 repeat'(first|refine gE ?_|(conv=>whnf);first|refine CC ?_)
 (conv=>whnf)
 refine CG (ι:=Nat) (λj=>[(0,.H .one [I ((fp k s j).2)]),(6,.H .one (aF .own (fp k s j).1)),(8,.H .one [I (((k:Int) - 1 - j))])]) (λj=>(j<=k - 1/\j<=k)) (λj=>k - j) (0) ?_ ω λj C=>?_
 ·exact wB
 obtain⟨D,l,o⟩:=ko k d j;by_cases E:j<k - 1
 ·have q:(k:Int) - 1 - j=((k - 1 - j:Nat):Int):=ω
  have r:=si (fp k s j).2 (n:=((k - 1 - j:Nat)+1:Int)) ω;have t:=Fb (fp k s j).2 ((k - 1 - j:Nat)+1:Int) ⟨l,o⟩ ω;have u:fp k s (j+1)=(vE (fp k s j).1 (k - 1 - j) (GC (fp k s j).2 ((k - 1 - j:Nat)+1:Int)).toNat,zY (fp k s j).2):=rfl;rw[q];generalize fp k s j=p at *;obtain⟨xs,z⟩:=p;simp only at *;generalize k - 1 - j=i at *;have a:=ao (xs:=xs) (i:=i) ω;have b:=ao (xs:=xs) (i:=(GC z (i+1)).toNat) ω;have c:=Ba (xs:=xs) (i:=i) (k:=(GC z (i+1)).toNat) (nth xs (GC z (i+1)).toNat) ω
  repeat'(first|refine gE ?_|(conv=>whnf);first|refine CC ?_|refine C9 (t) ?_|refine CN ω (aa b) ?_|refine CE (aa a) ?_|refine CK rfl (aa a) rfl ?_|refine CK rfl (aa b) rfl ?_|refine CQ rfl rfl (aa a) rfl (O1 rfl) rfl ?_|refine CN ω c ?_|refine CQ rfl rfl c rfl (O1 rfl) rfl ?_)
  ((conv=>whnf);refine CF (j+1) ω ω ?_)
  rw[u];simp only[aF,GP];exact wB
 obtain rfl:j=k - 1:=ω
 repeat'(first|refine gE ?_|(conv=>whnf);first|refine CC ?_)
 rfl
def tW(b:Int):Nat->Nat
 | 0=>0
 | n+1=>tW b n+(if aX b (n:Nat)=true then 1 else 0)
theorem sB(b:Int):∀n,tW b n<=n
 | 0=>X3 _
 | n+1=>by have:=sB b n;grind [tW]
def wx(b:Int)(d:b<=9223372036854775807):zzA 525 false [.val none [I b]] .one [I (tW b 16:Nat)]:=by
 refine fO 15 [] Tryz.func525 rfl ?_
 repeat'(first|refine gP ?_|fail)
 (conv=>whnf)
 refine CG (ι:=Nat) (λk=>[(0,.H .one [I (b)]),(3,.H .one [I ((tW b k:Nat):Int)]),(4,.H .one [I ((k:Nat):Int)])]) (λk=>k<=16) (λk=>16 - k) (0) ?_ (X0 _) λk g=>?_
 ·exact wB
 have h:=sB b k;by_cases i:k<16
 ·have a:=j9 b (k:Nat) d
  have c:tW b (k+1)=tW b k+(if aX b (k:Nat)=true then 1 else 0):=rfl;cases e:aX b (k:Nat)<;>rw[e]at a c
  all_goals
   repeat'(first|refine gE ?_|(conv=>whnf);first|refine C9 (a) ?_)
   ((conv=>whnf);refine CF (k+1) ω ω ?_)
   rw[c];exact wB
 obtain rfl:k=16:=ω
 repeat'(first|refine gE ?_|fail)
 rfl
def w8(b:Int)(d:b<=9223372036854775807):zzA 494 false [.val none [I b]] .one [I (tW b 16:Nat)]:=by
 refine fO 15 [] Tryz.func494 rfl ?_
 repeat'(first|refine gP ?_|fail)
 (conv=>whnf)
 refine CG (ι:=Nat) (λk=>[(0,.H .one [I (b)]),(3,.H .one [I ((tW b k:Nat):Int)]),(4,.H .one [I ((k:Nat):Int)])]) (λk=>k<=16) (λk=>16 - k) (0) ?_ (X0 _) λk g=>?_
 ·exact wB
 have h:=sB b k;by_cases i:k<16
 ·have a:=jE b (k:Nat) d
  have c:tW b (k+1)=tW b k+(if aX b (k:Nat)=true then 1 else 0):=rfl;cases e:aX b (k:Nat)<;>rw[e]at a c
  all_goals
   repeat'(first|refine gE ?_|(conv=>whnf);first|refine C9 (a) ?_)
   ((conv=>whnf);refine CF (k+1) ω ω ?_)
   rw[c];exact wB
 obtain rfl:k=16:=ω
 repeat'(first|refine gE ?_|fail)
 rfl
def qM(h:ab)(s:au):Bool:=decide (0<tW s.b2 16)&&decide ((aY h s.R).length=1)
def jq(h:ab):Nat->List au
 | 0=>[]
 | n+1=>if qM h (nth h.J n)=true then jq h n++[nth h.J n] else jq h n
def i7(h:ab):List au:=jq h h.J.length
theorem pW(h:ab):∀n,(jq h n).length<=n
 | 0=>X3 _
 | n+1=>by have:=pW h n;grind [jq]
theorem ng(h:ab):∀{n:Nat},n<=h.J.length->∀s∈jq h n,s∈h.J
 | 0,_,s,a=>by cases a
 | n+1,b,s,a=>by
  simp only[jq]at a;split at a
  ·rcases W3.1 a with a|a
   ·exact ng h ω s a
   grind [am]
  exact ng h ω s a
theorem zt(h:ab)(g:zf h)(o:h.J.length<=1000)(p:eZ h<=1000)(i:∀s∈h.J,s.b2<=9223372036854775807):zzA 427 false [.val (some 24) (ab.enc .W h)] .one (bX .own (i7 h)):=by
 refine fO 42 [(5,16,[13,14,15,16,17,18,19,20,21,22,23,24,25,26,27,28])] Tryz.func427 rfl ?_ (.inr (yM _))
 repeat'(first|refine gP ?_|fail)
 (conv=>whnf)
 refine CG (ι:=Nat) (λk=>[(1,.H .box (ab.enc .W h)),(3,.H .one (bX .own (jq h k))),(4,.H .one [I ((k:Nat):Int)])]) (λk=>k<=h.J.length) (λk=>h.J.length - k) (0) ?_ (X0 _) λk q=>?_
 ·exact wB
 have j:=pW h k;by_cases e:k<h.J.length
 ·have c:=ao e
  have d:=wx (nth h.J k).b2 (i _ (am e));have b:=iL h (nth h.J k).R g;have l:=gI h (nth h.J k).R;have n:=sB (nth h.J k).b2 16;have a:jq h (k+1)=if qM h (nth h.J k)=true then jq h k++[nth h.J k] else jq h k:=rfl
  by_cases r:0<tW (nth h.J k).b2 16
  ·by_cases t:(aY h (nth h.J k).R).length=1
   ·rw[CD (by grind [qM])]at a
    repeat'(first|refine gB ?_|(conv=>whnf);first|refine CE (aa c) ?_|refine C9 (d) ?_|refine CH (b) ⟨⟨rfl,rfl⟩,⟨rfl,rfl⟩,trivial⟩ ?_|refine C9 (b) ?_|refine CC ?_|refine Ap.sm (aM λ_=>rfl) rfl (by simp;omega) (by decide) (gy (au.enc .own) (jq h k) (nth h.J k)) ?_)
    ((conv=>whnf);refine CF (k+1) ω ω ?_)
    rw[a];exact wB
   rw[CB (by grind [qM])]at a
   repeat'(first|refine gB ?_|(conv=>whnf);first|refine CE (aa c) ?_|refine C9 (d) ?_|refine C9 (b) ?_|refine CC ?_)
   ((conv=>whnf);refine CF (k+1) ω ω ?_)
   rw[a];exact wB
  rw[CB (by grind [qM])]at a
  repeat'(first|refine gE ?_|(conv=>whnf);first|refine CE (aa c) ?_|refine C9 (d) ?_|refine C9 (b) ?_|refine CC ?_)
  ((conv=>whnf);refine CF (k+1) ω ω ?_)
  rw[a];exact wB
 obtain rfl:k=h.J.length:=ω
 repeat'(first|refine gE ?_|fail)
 rfl
theorem yD(h:ab)(g:zf h)(o:h.J.length<=1000)(p:eZ h<=1000)(i:∀s∈h.J,s.b2<=9223372036854775807):zzA 388 false [.val (some 24) (ab.enc .W h)] .one (bX .own (i7 h)):=by
 refine fO 32 [] Tryz.func388 rfl ?_ (.inr (yM _))
 repeat'(first|refine gP ?_|fail)
 (conv=>whnf)
 refine CG (ι:=Nat) (λk=>[(1,.H .box (ab.enc .W h)),(3,.H .one (bX .own (jq h k))),(8,.H .one (bX .W h.J)),(9,.H .one [I (h.J.length)]),(10,.H .one [I ((k:Nat):Int)])]) (λk=>k<=h.J.length) (λk=>h.J.length - k) (0) ?_ (X0 _) λk q=>?_
 ·exact wB
 have j:=pW h k;by_cases e:k<h.J.length
 ·have b:=ao e
  have c:=w8 (nth h.J k).b2 (i _ (am e));have d:=oH h (nth h.J k).R g;have l:=gI h (nth h.J k).R;have n:=sB (nth h.J k).b2 16;have a:jq h (k+1)=if qM h (nth h.J k)=true then jq h k++[nth h.J k] else jq h k:=rfl
  by_cases r:0<tW (nth h.J k).b2 16
  ·by_cases t:(aY h (nth h.J k).R).length=1
   ·rw[CD (by grind [qM])]at a
    repeat'(first|refine gB ?_|(conv=>whnf);first|refine CE (aa b) ?_|refine C9 (c) ?_|refine C9 (d) ?_|refine CC ?_|refine Ap.sm (aM λ_=>rfl) rfl (by simp;omega) (by decide) (gy (au.enc .own) (jq h k) (nth h.J k)) ?_)
    ((conv=>whnf);refine CF (k+1) ω ω ?_)
    rw[a];exact wB
   rw[CB (by grind [qM])]at a
   repeat'(first|refine gB ?_|(conv=>whnf);first|refine CE (aa b) ?_|refine C9 (c) ?_|refine C9 (d) ?_|refine CC ?_)
   ((conv=>whnf);refine CF (k+1) ω ω ?_)
   rw[a];exact wB
  rw[CB (by grind [qM])]at a
  repeat'(first|refine gE ?_|(conv=>whnf);first|refine CE (aa b) ?_|refine C9 (c) ?_|refine C9 (d) ?_|refine CC ?_)
  ((conv=>whnf);refine CF (k+1) ω ω ?_)
  rw[a];exact wB
 obtain rfl:k=h.J.length:=ω
 repeat'(first|refine gE ?_|fail)
 rfl
def rR(s:au)(c:Nat):Bool:=aX s.b2 (((c:Nat):Int) / csz s.e)
def sJ(s:au)(n:Nat):List Int:=((List.range n).filter (rR s)).map λ(i:Nat)=>(i:Int)
def La(h:rR s n=true):sJ s (n+1)=sJ s n++[(n:Int)]:=by
 unfold sJ;rw[List.range_succ,List.filter_append,C7];simp[h]
def Nb(h:rR s n=false):sJ s (n+1)=sJ s n:=by
 unfold sJ;rw[List.range_succ,List.filter_append,C7];simp[h]
def mu(s:au)(n:Nat):(sJ s n).length<=n:=by
 unfold sJ;rw[I1];exact C6 (List.length_filter_le _ _) (by simp)
def KR(a:bf s=true){c:Nat}(d:c<16):0<=((c:Nat):Int) / csz s.e/\((c:Nat):Int) / csz s.e<=15:=by
 have f:=aE a;have b:csz s.e=1\/csz s.e=2\/csz s.e=4\/csz s.e=8:=bV ω;rcases b with e|e|e|e<;>rw[e]<;>omega
def pD(s:au)(a:bf s=true):zzA 527 false [.val (some 3) (au.enc .W s)] .one (aF .own (sJ s 16)):=by
 have b:=ic s;rw[a]at b;have g:=aE a;have n:=bV g.2.2;refine fO 27 [(5,7,[14,15,16,17,18,19,20])] Tryz.func527 rfl ?_ (.inr (bM _))
 repeat'(first|refine gP ?_|fail)
 (conv=>whnf)
 refine CG (ι:=Nat) (λi=>[(1,.H .box (au.enc .W s)),(3,.H .one (aF .own (sJ s i))),(4,.H .one [I ((i:Nat):Int)])]) (λi=>i<=16) (λi=>16 - i) (0) ?_ (X0 _) λi o=>?_
 ·exact wB
 have h:=mu s i;by_cases j:i<16
 ·have k:=KR a j
  have d:IntKind.i64.wrap (((i:Nat):Int).tdiv (csz s.e))=((i:Nat):Int) / csz s.e:=by rw[kx ω];exact eX ω ω
  have c:=j9 s.b2 (((i:Nat):Int) / csz s.e) (fG a).2;cases e:rR s i
  ·rw[show aX s.b2 (((i:Nat):Int) / csz s.e)=false from e]at c
   repeat'(first|refine gE ?_|(conv=>whnf);first|refine C9 (b) ?_|refine C9 (eB _) ?_|refine CP ω ?_|refine CO d ?_|refine C9 (c) ?_)
   ((conv=>whnf);refine CF (i+1) ω ω ?_)
   rw[Nb e];exact wB
  rw[show aX s.b2 (((i:Nat):Int) / csz s.e)=true from e]at c
  repeat'(first|refine gE ?_|(conv=>whnf);first|refine C9 (b) ?_|refine C9 (eB _) ?_|refine CP ω ?_|refine CO d ?_|refine C9 (c) ?_|refine CU cz (λr l=>by rw[V1.1 l];rfl) (by simp[bk,eG]) (by simp;omega) (by simp only[I1];exact zE (by simp;omega) (by decide)) rfl ?_)
  ((conv=>whnf);refine CF (i+1) ω ω ?_)
  rw[La e]
  (repeat'(first|exact trivial|rfl|exact CM rfl (CM (Z0 (C.s dM.own) (by simp[rI])) trivial)|refine CM ?_ ?_))
 obtain rfl:i=16:=ω
 repeat'(first|refine gE ?_|(conv=>whnf);first|refine C9 (b) ?_)
 rfl
def pz(s:au)(a:bf s=true):zzA 436 false [.val (some 3) (au.enc .W s)] .one (aF .own (sJ s 16)):=by
 have c:=gV s;rw[a]at c;have g:=aE a;have n:=bV g.2.2;refine fO 26 [(7,7,[13,14,15,16,17,18,19])] Tryz.func436 rfl ?_ (.inr (bM _))
 repeat'(first|refine gP ?_|(conv=>whnf);first|refine C9 (c) ?_)
 (conv=>whnf)
 refine CG (ι:=Nat) (λi=>[(1,.H .box (au.enc .W s)),(3,.H .one (aF .own (sJ s i))),(4,.H .one [I ((i:Nat):Int)])]) (λi=>i<=16) (λi=>16 - i) (0) ?_ (X0 _) λi o=>?_
 ·exact wB
 have h:=mu s i;by_cases j:i<16
 ·have k:=KR a j
  have d:IntKind.i64.wrap (((i:Nat):Int).tdiv (csz s.e))=((i:Nat):Int) / csz s.e:=by rw[kx ω];exact eX ω ω
  have b:=jE s.b2 (((i:Nat):Int) / csz s.e) (fG a).2;cases e:rR s i
  ·rw[show aX s.b2 (((i:Nat):Int) / csz s.e)=false from e]at b
   repeat'(first|refine gE ?_|(conv=>whnf);first|refine C9 (ew _) ?_|refine CP ω ?_|refine CO d ?_|refine C9 (b) ?_)
   ((conv=>whnf);refine CF (i+1) ω ω ?_)
   rw[Nb e];exact wB
  rw[show aX s.b2 (((i:Nat):Int) / csz s.e)=true from e]at b
  repeat'(first|refine gE ?_|(conv=>whnf);first|refine C9 (ew _) ?_|refine CP ω ?_|refine CO d ?_|refine C9 (b) ?_|refine CU cz (λr l=>by rw[V1.1 l];rfl) (by simp[bk,eG]) (by simp;omega) (by simp only[I1];exact zE (by simp;omega) (by decide)) rfl ?_)
  ((conv=>whnf);refine CF (i+1) ω ω ?_)
  rw[La e]
  (repeat'(first|exact trivial|rfl|exact CM rfl (CM (Z0 (C.s dM.own) (by simp[rI])) trivial)|refine CM ?_ ?_))
 obtain rfl:i=16:=ω
 repeat'(first|refine gE ?_|fail)
 rfl
structure dQ where
 A:Int
 B:Int
deriving DecidableEq,Inhabited
def dQ.enc(_:dM)(x:dQ):List C:=[I x.A,I x.B]
def fm(o:dM)(x:List dQ):List C:=[.s o (x.map (dQ.enc o))]
def yj(x:List dQ):hO (fm .own x):=⟨⟨.inl λh=>(by cases h),bc _ _ λ_ _=>⟨trivial,trivial,trivial⟩⟩,trivial⟩
def yX(xs:List dQ)(pr:dQ->Bool)(g:xs.length<=9223372036854775807):zzA 586 false [.val none (fm .W xs),.fn (oR Tryz.prog (BK (some 2) (dQ.enc .W) pr xs))] .one [I (ee pr xs)]:=by
 refine fO 19 [] Tryz.func586 rfl ?_
 repeat'(first|refine gP ?_|fail)
 (conv=>whnf)
 refine CG (ι:=Nat) (λi=>[(0,.H .one (fm .W xs)),(1,.fv (oR Tryz.prog (BK (some 2) (dQ.enc .W) pr xs))),(7,.H .one [I xs.length]),(8,.H .one [I (i:Nat)])]) (λi=>i<=xs.length/\∀(j:Nat)(z:dQ),j<i->xs[j]? = some z->pr z=false) (λi=>xs.length - i) 0 ?_ ⟨X0 _,λj z h=>ω⟩ λi d=>?_
 ·exact wB
 obtain⟨d,b⟩:=d;by_cases c:i<xs.length
 ·obtain⟨y,a⟩ : ∃y,xs[i]? = some y:=⟨_,X2 c⟩
  repeat'(first|refine gE ?_|(conv=>whnf);first|with_reducible refine CE (aa a) ?_|refine Fv.mk (k:=.one) (rcs:=[B (pr y)]) ⟨y,O2 a,rfl,rfl,rfl⟩ ?_|refine Bf.P (λe=>?_) (λe=>?_))
  ·exact Z0 (λz=>[I z]) (dS a ‹_› b).symm
  (conv=>whnf)
  refine CF (i+1) ⟨ω,fY a (by assumption) b⟩ ω ?_;exact wB
 repeat'(first|refine gE ?_|fail)
 exact Z0 (λz=>[I z]) (gx ω b).symm
def sU(xs:List dQ)(pr:dQ->Bool)(a:xs.length<=9223372036854775807):zzA 562 false [.val none (fm .W xs),.fn (oR Tryz.prog (BK (some 2) (dQ.enc .W) pr xs))] .one [B (xs.any pr)]:=by
 refine fO 9 [] Tryz.func562 rfl ?_
 repeat'(first|refine gP ?_|(conv=>whnf);first|refine C9 (yX xs pr a) ?_)
 exact Z0 (λz=>[B z]) (lB pr xs)
def D2(i:Int)(p:dQ):Bool:=decide (p.A=i) || decide (p.B=i)
def FZ(p:dQ)(i:Int):zzA 563 false [.val (some 2) (dQ.enc .W p),.ptr [I i]] .one [B (D2 i p)]:=by
 refine fO 14 [] Tryz.func563 rfl ?_
 repeat'(first|refine gP ?_|(conv=>whnf);first|with_reducible refine Bf.E (λa=>?_) (λa=>?_))
 all_goals exact Z0 (λz=>[B z]) ((by unfold D2;first|(simp[*];done)|(simp[*];rw[Z5];simp)))
def xn(xs:List dQ)(i:Int)(b:xs.length<=1048576):zzA 496 false [.val none (fm .W xs),.val none [I i]] .one [B (xs.any (D2 i))]:=by
 refine fO 8 [] Tryz.func496 rfl ?_
 repeat'(first|refine gP ?_|(conv=>whnf);first|refine Cq.mk (BK (some 2) (dQ.enc .W) (D2 i) xs) (FZ default i).has (λL k rcs a=>?_) ?_|refine C9 (sU xs (D2 i) ω) ?_)
 ·obtain⟨y,-,rfl,rfl,rfl⟩:=a
  exact FZ y i
 rfl
def db(a b:au):bY:=if(sJ a 16).length<(sJ b 16).length then⟨b.R,a.R,sJ a 16⟩ else⟨a.R,b.R,sJ b 16⟩
def AC(a b:au)(g:meshable a b=true)(h:bf a=true)(i:bf b=true):zzA 429 false [.val (some 3) (au.enc .W a),.val (some 3) (au.enc .W b)] (.tup [some 3,none]) (bY.enc .own (db a b)++[B true]):=by
 have c:=mX a b;rw[g]at c;have d:=pD a h;have e:=pD b i;have j:=mu a 16;have k:=mu b 16;unfold db;split
 ·refine fO 27 [(3,6,[11,12,13,14,15,16]),(5,6,[20,21,22,23,24,25])] Tryz.func429 rfl ?_ (.inr (aG (bY.enc_fr _) ⟨trivial,trivial⟩))
  repeat'(first|refine gE ?_|(conv=>whnf);first|refine C9 (c) ?_|refine C9 (d) ?_|refine C9 (e) ?_|refine CC ?_)
  rfl
 refine fO 27 [(3,6,[11,12,13,14,15,16]),(5,6,[20,21,22,23,24,25])] Tryz.func429 rfl ?_ (.inr (aG (bY.enc_fr _) ⟨trivial,trivial⟩))
 repeat'(first|refine gE ?_|(conv=>whnf);first|refine C9 (c) ?_|refine C9 (d) ?_|refine C9 (e) ?_|refine CC ?_)
 rfl
def zI(a b:au)(g:meshable a b=true)(h:bf a=true)(i:bf b=true):zzA 390 false [.val (some 3) (au.enc .W a),.val (some 3) (au.enc .W b)] (.tup [some 3,none]) (bY.enc .own (db a b)++[B true]):=by
 have c:=mW a b;rw[g]at c;have d:=pz a h;have e:=pz b i;have j:=mu a 16;have k:=mu b 16;unfold db;split
 ·refine fO 34 [(3,3,[13,14,15])] Tryz.func390 rfl ?_ (.inr (aG (bY.enc_fr _) ⟨trivial,trivial⟩))
  repeat'(first|refine gE ?_|(conv=>whnf);first|refine C9 (c) ?_|refine C9 (d) ?_|refine C9 (e) ?_|refine CC ?_)
  rfl
 refine fO 34 [(3,3,[13,14,15])] Tryz.func390 rfl ?_ (.inr (aG (bY.enc_fr _) ⟨trivial,trivial⟩))
 repeat'(first|refine gE ?_|(conv=>whnf);first|refine C9 (c) ?_|refine C9 (d) ?_|refine C9 (e) ?_|refine CC ?_)
 rfl
def tt(p:bY):co:=⟨p,0,0⟩
def Gj(p:bY)(c:eO p=true)(a:bY.sml p):zzA 430 false [.val (some 3) (bY.enc .W p)] (.tup [some 5,none]) (co.enc .own (tt p)++[B true]):=by
 have b:=vU p a;rw[c]at b;have d:=sE (tt p) a;refine fO 11 [] Tryz.func430 rfl ?_ (.inr (aG (co.enc_fr _) ⟨trivial,trivial⟩))
 repeat'(first|refine gP ?_|(conv=>whnf);first|refine C9 (b) ?_|refine C9 (d) ?_)
 rfl
def Fj(p:bY)(c:eO p=true)(a:bY.sml p):zzA 391 false [.val (some 3) (bY.enc .W p)] (.tup [some 5,none]) (co.enc .own (tt p)++[B true]):=by
 have b:=vD p a;rw[c]at b;have d:=rg p a;refine fO 11 [] Tryz.func391 rfl ?_ (.inr (aG (co.enc_fr _) ⟨trivial,trivial⟩))
 repeat'(first|refine gP ?_|(conv=>whnf);first|refine C9 (b) ?_|refine C9 (d) ?_)
 rfl
def qC(n:Nat){s:Int}(c:0<=s/\s<=1073741823):∀{j:Nat},j<=n - 1->∀x∈(fp n s j).1,0<=x/\x<n
 | 0,_,x,a=>by
  simp only[fp,pB,O5,List.mem_range]at a;obtain⟨i,d,rfl⟩:=a;omega
 | j+1,e,x,a=>by
  have f:=(ko n c j).1;have b:=qC n c (j:=j) ω;have g:=si (fp n s j).2 (n:=((n - 1 - j:Nat)+1:Int)) ω;simp only[fp,vE]at a;rcases Y7 a with a|rfl
  ·rcases Y7 a with a|rfl
   ·exact b x a
   exact b _ (am ω)
  exact b _ (am ω)
def tkn(out:List dQ)(a:Int):Bool:=out.any (D2 a)
def stp(a:List au)(p:List Int)(t i:Nat)(out:List dQ):List dQ:=
 if tkn out (nth p i)=false/\tkn out (nth p (p.length / 2+(i+t) % (p.length - p.length / 2)))=false/\meshable (nth a (nth p i).toNat) (nth a (nth p (p.length / 2+(i+t) % (p.length - p.length / 2))).toNat)=true then out++[⟨nth p i,nth p (p.length / 2+(i+t) % (p.length - p.length / 2))⟩] else out
def qI(a:List au)(p:List Int)(t:Nat)(out:List dQ):Nat->List dQ
 | 0=>out
 | i+1=>stp a p t i (qI a p t out i)
def mc(a:List au)(p:List Int):Nat->List dQ
 | 0=>[]
 | t+1=>qI a p t (mc a p t) (p.length / 2)
def Rh(a:List au)(p:List Int)(t i:Nat)(out:List dQ):(stp a p t i out).length<=out.length+1:=by unfold stp;split<;>simp
def tS(a:List au)(p:List Int)(t:Nat)(out:List dQ):∀i,(qI a p t out i).length<=out.length+i
 | 0=>X3 _
 | i+1=>by have b:=tS a p t out i;have c:=Rh a p t i (qI a p t out i);simp only[qI];omega
def y6(a:List au)(p:List Int):∀t,(mc a p t).length<=t*(p.length / 2)
 | 0=>X0 _
 | t+1=>by have b:=y6 a p t;have c:=tS a p t (mc a p t) (p.length / 2);simp only[mc];rw[Nat.add_mul];omega
def jr(a:List au)(s:Int):List dQ:=mc a (shuf a.length s).1 3
def oB(n:Nat)(out:List dQ):List Bool:=(List.range n).map λ(i:Nat)=>tkn out (i:Nat)
variable{out:List dQ}
def JF(h:0<=a/\a<n):(oB n out)[a.toNat]? = some (tkn out a):=by
 unfold oB;rw[Y3,I8 ω];show some (tkn out ((a.toNat:Nat):Int))=_;rw[Int.toNat_of_nonneg h.1]
variable{b:Int}
def Ng(f:0<=a/\a<n)(g:0<=b/\b<n):oB n (out++[⟨a,b⟩])=((oB n out).set a.toNat true).set b.toNat true:=by
 unfold oB;apply List.ext_getElem?;intro i;by_cases c:i<n
 ·rw[Y3,I8 c]
  by_cases d:b.toNat=i
  ·subst d
   rw[O4 (by simp;omega)];simp only[V6,tkn,List.any_append,List.any_cons,List.any_nil,D2];rw[Int.toNat_of_nonneg g.1];simp
  rw[List.getElem?_set_ne d];by_cases e:a.toNat=i
  ·subst e
   rw[O4 (by simp;omega)];simp only[V6,tkn,List.any_append,List.any_cons,List.any_nil,D2];rw[Int.toNat_of_nonneg f.1];simp
  rw[List.getElem?_set_ne e,Y3,I8 c];simp only[V6,tkn,List.any_append,List.any_cons,List.any_nil,D2];rw[W0 ω,W0 ω];simp
 rw[C3 (by simp;omega),C3 (by simp;omega)]
def Q0(n:Nat):(oB n []).map (rB .own)=List.replicate n [B false]:=by
 unfold oB;rw[List.map_map];apply List.ext_getElem?;intro i;rw[Y3];by_cases a:i<n
 ·rw[I8 a,List.getElem?_replicate];simp[a];rfl
 rw[C3 (by simp;omega),List.getElem?_replicate];simp[a]
def Mp{xs:List Bool}{k:Nat}(v:Bool)(a:k<xs.length):((xs.map (rB .own)).set i (rB .own v))[k]? = some (rB .own (nth (xs.set i v) k)):=by
 rw[<-V7];exact aa (ao (by rw[Z1];exact a))
def wG(c:List au)(s:Int)(u:0<=s/\s<=1073741823)(V:c.length<=16):zzA 428 false [.val none (bX .W c),.val none [I s],.val none [I 3]] (.tup [none,none]) (fm .own (jr c s)++[I (shuf c.length s).2]):=by
 have J:=aH s 0 1073741823;rw[O0 u]at J;have K:=aH 3 0 16;rw[O0 ω]at K;have Q:=AD c.length s u ω;have D:=(ko c.length u (c.length - 1)).1;have e:=qC c.length u (X3 _);unfold jr;change (shuf c.length s).1.length=_ at D;change ∀x∈(shuf c.length s).1,_ at e
 have E:hO (fm .own (mc c (shuf c.length s).1 3)++[I (shuf c.length s).2]):=aG (yj _) ⟨trivial,trivial⟩;generalize shuf c.length s=q at *;obtain⟨p,z⟩:=q;simp only at *;have F:((p.length:Nat):Int).tdiv 2=((p.length / 2:Nat):Int):=by rw[Int.tdiv_eq_ediv_of_nonneg ω];omega
 have g:C.s dM.own ((oB c.length []).map (rB .own))=C.s dM.own (List.replicate c.length [B false]):=by rw[Q0]
 have h:∀i:Nat,i<p.length->0<=nth p i/\nth p i<c.length:=λi R=>e _ (am R)
 refine fO 110 [(15,21,[73,74,75,76,77,78,79,80,81,82,83,84,85,86,87,88,89,90,91,92,93])] Tryz.func428 rfl ?_ (.inr E)
 repeat'(first|refine gE ?_|(conv=>whnf);first|with_reducible refine CO ((Z0 _ F).trans (eX ω ω)) ?_|refine C9 (J) ?_|refine C9 (K) ?_|refine C9 (Q) ?_|refine CP (by decide) ?_|refine Mk.mk c.length rfl rfl ω (zE ω (by decide)) rfl ?_)
 (conv=>whnf)
 refine CG (ι:=Nat) (λt=>[(0,.H .one (bX .W c)),(2,.H .one [I (3)]),(8,.H .one (fm .own (mc c p t))),(9,.H .one (aF .own p)),(10,.H .one [I (z)]),(11,.H .one [I (((p.length / 2):Nat):Int)]),(12,.H .one (xB .own (oB c.length (mc c p t)))),(13,.H .one [I ((t:Nat):Int)])]) (λt=>t<=3) (λt=>3 - t) (0) ?_ (X0 _) λt S=>?_
 ·repeat'(first|exact trivial|rfl |exact mE g|refine CM ?_ ?_|(exact Ac (by first|omega|(simp only;omega)|(simp;omega))))
 have W:=y6 c p t;have ol2:t*(p.length / 2)<=3*8:=Nat.mul_le_mul S ω;by_cases X:t<3
 ·repeat'(first|refine gE ?_|fail)
  (conv=>whnf)
  refine CG (ι:=Nat) (λj=>[(0,.H .one (bX .W c)),(2,.H .one [I (3)]),(8,.H .one (fm .own (qI c p t (mc c p t) j))),(9,.H .one (aF .own p)),(10,.H .one [I (z)]),(11,.H .one [I (((p.length / 2):Nat):Int)]),(12,.H .one (xB .own (oB c.length (qI c p t (mc c p t) j)))),(13,.H .one [I ((t:Nat):Int)]),(14,.H .one [I ((j:Nat):Int)])]) (λj=>j<=p.length / 2) (λj=>p.length / 2 - j) (0) ?_ (X0 _) λj Y=>?_
  ·repeat'(first|exact trivial|rfl |exact mE g|refine CM ?_ ?_|(exact Ac (by first|omega|(simp only;omega)|(simp;omega))))
  have Z:=tS c p t (mc c p t) j;by_cases lj:j<p.length / 2
  ·have L:(j+t) % (p.length - p.length / 2)<p.length - p.length / 2:=Nat.mod_lt _ ω
   have G:((j:Int)+t).tmod ((p.length:Int) - (p.length / 2:Nat))=(((j+t) % (p.length - p.length / 2):Nat):Int):=by
    rw[dP ω,Int.natCast_emod];congr 1;omega
   have d:qI c p t (mc c p t) (j+1)=stp c p t j (qI c p t (mc c p t) j):=rfl;unfold stp at d;generalize qI c p t (mc c p t) j=out at *;have l:p.length / 2+(j+t) % (p.length - p.length / 2)<p.length:=ω
   generalize hk:(j+t) % (p.length - p.length / 2)=k at *;have n:=ao (xs:=p) (i:=j) ω;have o:=ao (xs:=p) (i:=p.length / 2+k) l;have w:=h j ω;have r:=h _ l;generalize nth p j=a at *;generalize nth p (p.length / 2+k)=b at *;have y:=JF (out:=out) w;have H:=JF (out:=out) r;have T:=ao (xs:=c) (i:=a.toNat) ω;have U:=ao (xs:=c) (i:=b.toNat) ω;have M:=mX (nth c a.toNat) (nth c b.toNat);have ub2:=Mp (xs:=oB c.length out) (i:=a.toNat) (k:=b.toNat) true (by simp[oB];omega);cases N:tkn out a<;>cases O:tkn out b<;>cases P:meshable (nth c a.toNat) (nth c b.toNat)
   all_goals
    rw[N]at y;rw[O]at H;rw[P]at M;rw[N,O,P]at d;simp only[and_true,true_and,if_true,Bool.false_eq_true,Bool.true_eq_false,and_false,false_and,if_false]at d
    repeat'(first|refine gE ?_|(conv=>whnf);first|refine CS G ?_|refine CP ω ?_|refine CE (aa n) ?_|refine CN ω (aa o) ?_|refine CN w.1 (aa y) ?_|refine CN r.1 (aa H) ?_|refine CN w.1 (aa T) ?_|refine CN r.1 (aa U) ?_|refine CK rfl (aa n) rfl ?_|refine CK rfl (aa o) rfl ?_|refine CK rfl (aa y) rfl ?_|refine CK rfl (aa H) rfl ?_|refine C9 (M) ?_|refine CC ?_|refine CQ rfl rfl (aa y) rfl (O1 rfl) rfl ?_|refine CN r.1 ub2 ?_|refine CQ rfl rfl ub2 rfl (O1 rfl) rfl ?_|refine Ap.sm (aM λ_=>rfl) rfl (by simp;omega) (by decide) (gy (dQ.enc .own) out ⟨a,b⟩) ?_)
    ((conv=>whnf);refine CF (j+1) ω ω ?_)
    rw[d]
    first|(rw[Ng w r];simp only[xB,V7])|skip
    exact wB
  obtain rfl:j=p.length / 2:=ω
  repeat'(first|refine gE ?_|fail)
  ((conv=>whnf);refine CF (t+1) ω ω ?_;(exact wB))
 obtain rfl:t=3:=ω
 repeat'(first|refine gE ?_|fail)
 rfl
def rS(x:List dQ):eg (fm .own x)=fm .W x:=by simp[eg,fm,dQ.enc,<-cn,I7]
def wD(c:List au)(s:Int)(r:0<=s/\s<=1073741823)(Y:c.length<=16):zzA 389 false [.val none (bX .W c),.val none [I s],.val none [I 3]] (.tup [none,none]) (fm .own (jr c s)++[I (shuf c.length s).2]):=by
 have O:=sL s r;have H:=aK 3 0 16;rw[O0 ω]at H;have P:=Ax c.length s r ω;have g:=(ko c.length r (c.length - 1)).1;have h:=qC c.length r (X3 _);unfold jr;change (shuf c.length s).1.length=_ at g;change ∀x∈(shuf c.length s).1,_ at h
 have y:hO (fm .own (mc c (shuf c.length s).1 3)++[I (shuf c.length s).2]):=aG (yj _) ⟨trivial,trivial⟩;generalize shuf c.length s=q at *;obtain⟨p,z⟩:=q;simp only at *;have B:((p.length:Nat):Int).tdiv 2=((p.length / 2:Nat):Int):=by rw[Int.tdiv_eq_ediv_of_nonneg ω];omega
 have D:fz (C.s dM.own (p.map (rI .own)))=C.s dM.W (p.map (rI .W)):=(List.cons.inj (eM p)).1;have l:(p.drop (p.length / 2)).length=p.length - p.length / 2:=C4 ..;have Q:(p.take (p.length / 2)).length=p.length / 2:=by rw[C2];omega
 have n:∀i:Nat,i<p.length->0<=nth p i/\nth p i<c.length:=λi R=>h _ (am R)
 have d:((c.length:Nat):Int).tdiv 2=((p.length / 2:Nat):Int):=by rw[<-g];exact B
 refine fO 99 [(5,264,[39,40,41,42,43,44,45,46,0,1,2,3,4,5,6,7,8,1004,1005,1006,1007,9]),(14,19,[69,70,71,72,73,74,75,76,77,78,79,80,81,82,83,84,85,86,87]),(1048581,9,[0])] Tryz.func389 rfl ?_ (.inr y)
 repeat'(first|refine gE ?_|(conv=>whnf);first|with_reducible refine CO ((Z0 _ d).trans (eX ω ω)) ?_|refine CC ?_|refine C9 (O) ?_|refine C9 (H) ?_|refine C9 (P) ?_|refine CP (by decide) ?_|refine Hq.mk rfl D rfl ?_|refine CX (p.length / 2) d (by rw[I1];omega) (aM λ_=>rfl) C5 ?_|refine Cb (p.length / 2) d (by rw[I1];omega) (aM λ_=>rfl) I5 ?_|refine CC ?_)
 (conv=>whnf)
 refine CG (ι:=Nat) (λt=>[(0,.H .one (bX .W c)),(2,.H .one [I (3)]),(10,.H .one [I (z)]),(11,.H .one (aF .W (p.take (p.length / 2)))),(12,.H .one (aF .W (p.drop (p.length / 2)))),(13,.H .one (fm .own (mc c p t))),(14,.H .one [I ((t:Nat):Int)])]) (λt=>t<=3) (λt=>3 - t) (0) ?_ (X0 _) λt S=>?_
 ·exact wB
 have Z:=y6 c p t;have ol2:t*(p.length / 2)<=3*8:=Nat.mul_le_mul S ω;by_cases lt:t<3
 ·repeat'(first|refine gE ?_|(conv=>whnf);first|refine CC ?_)
  (conv=>whnf)
  refine CG (ι:=Nat) (λj=>[(0,.H .one (bX .W c)),(2,.H .one [I (3)]),(10,.H .one [I (z)]),(11,.H .one (aF .W (p.take (p.length / 2)))),(12,.H .one (aF .W (p.drop (p.length / 2)))),(13,.H .one (fm .own (qI c p t (mc c p t) j))),(14,.H .one [I ((t:Nat):Int)]),(53,.H .one (aF .W (p.take (p.length / 2)))),(54,.H .one [I (((p.length / 2):Nat):Int)]),(55,.H .one [I ((j:Nat):Int)])]) (λj=>j<=p.length / 2) (λj=>p.length / 2 - j) (0) ?_ (X0 _) λj hj=>?_
  ·exact wB
  have rl:=tS c p t (mc c p t) j;by_cases T:j<p.length / 2
  ·have J:(j+t) % (p.length - p.length / 2)<p.length - p.length / 2:=Nat.mod_lt _ ω
   have E:((j:Int)+t).tmod ((p.length - p.length / 2:Nat):Int)=(((j+t) % (p.length - p.length / 2):Nat):Int):=by
    rw[dP ω,Int.natCast_emod];congr 1
   have e:qI c p t (mc c p t) (j+1)=stp c p t j (qI c p t (mc c p t) j):=rfl;unfold stp at e;generalize qI c p t (mc c p t) j=out at *;have o:p.length / 2+(j+t) % (p.length - p.length / 2)<p.length:=ω
   generalize hk:(j+t) % (p.length - p.length / 2)=k at *;have F:(p.take (p.length / 2))[j]? = some (nth p j):=by rw[List.getElem?_take,CD T];exact ao ω
   have G:(p.drop (p.length / 2))[k]? = some (nth p (p.length / 2+k)):=by rw[List.getElem?_drop];exact ao o
   have U:=n j ω;have V:=n _ o;generalize nth p j=a at *;generalize nth p (p.length / 2+k)=b at *;have K:=xn out a ω;have L:=xn out b ω;have W:=ao (xs:=c) (i:=a.toNat) ω;have X:=ao (xs:=c) (i:=b.toNat) ω;have M:=mW (nth c a.toNat) (nth c b.toNat);cases u:tkn out a<;>cases w:tkn out b<;>cases N:meshable (nth c a.toNat) (nth c b.toNat)
   all_goals
    unfold tkn at u w;rw[u]at K;rw[w]at L;change (tkn out a)=_ at u;change (tkn out b)=_ at w;rw[N]at M;rw[u,w,N]at e;simp only[and_true,true_and,if_true,Bool.false_eq_true,Bool.true_eq_false,and_false,false_and,if_false]at e
    repeat'(first|refine gE ?_|(conv=>whnf);first|refine CC ?_|refine CS (z:=(k:Int)) (by rw[l];exact E) ?_|refine Ln.mk (show List.length (List.map _ (p.drop (p.length / 2)))=p.length - p.length / 2 by rw[I1];exact l) ?_|refine CP ω ?_|refine CE (aa F) ?_|refine CN ω (aa G) ?_|refine CN U.1 (aa W) ?_|refine CN V.1 (aa X) ?_|refine CH (K) ⟨⟨rfl,rS _⟩,⟨rfl,rfl⟩,trivial⟩ ?_|refine CH (L) ⟨⟨rfl,rS _⟩,⟨rfl,rfl⟩,trivial⟩ ?_|refine C9 (M) ?_|refine CC ?_|refine Ap.sm (aM λ_=>rfl) rfl (by simp;omega) (by decide) (gy (dQ.enc .own) out ⟨a,b⟩) ?_)
    ((conv=>whnf);refine CF (j+1) ω ω ?_)
    rw[e];exact wB
  obtain rfl:j=p.length / 2:=ω
  repeat'(first|refine gE ?_|(conv=>whnf);first|refine CC ?_)
  ((conv=>whnf);refine CF (t+1) ω ω ?_;(exact wB))
 obtain rfl:t=3:=ω
 repeat'(first|refine gE ?_|(conv=>whnf);first|refine CC ?_)
 rfl
def ar.fzR{sh:Bool}{A:List RA}{k:Kd}{rcs:List C}(h:ar P f sh A k rcs):ar P f sh A k (eg rcs):=by
 obtain⟨c,d⟩:=h;refine⟨c,λw S g i j=>(d w S g i j).mono λe w1 l=>?_⟩;obtain⟨v,n,p,X,q,r,t,B,u,y⟩:=l;refine⟨v,n,p,NO,λb o=>q b o\/X b o,λ_ _ h=>h.elim,λb o a=>?_,λ_ _ h=>h.elim,by rw[cn,I1];exact u,y.freeze⟩;rcases a with a|a
 ·exact t b o a
 exact .inr (r b o a)
structure QR(ls:List au)(q:dQ):Prop where
 a:0<=q.A/\q.A<ls.length
 b:0<=q.B/\q.B<ls.length
 m:meshable (nth ls q.A.toNat) (nth ls q.B.toNat)=true
def JJ{b:List au}{p:List Int}(c:∀x∈p,0<=x/\x<b.length)(t:Nat){out:List dQ}(d:∀q∈out,QR b q):∀{i:Nat},i<=p.length / 2->∀q∈qI b p t out i,QR b q
 | 0,_=>d
 | i+1,h=>λq a=>by
  have e:=JJ c t d (i:=i) ω;simp only[qI,stp]at a;split at a
  ·rename_i g
   rcases W3.1 a with a|a
   ·exact e q a
   obtain rfl:=V1.1 a;have f:(i+t) % (p.length - p.length / 2)<p.length - p.length / 2:=Nat.mod_lt _ ω;exact⟨c _ (am ω),c _ (am ω),g.2.2⟩
  exact e q a
def KS{a:List au}{p:List Int}(b:∀x∈p,0<=x/\x<a.length):∀t,∀q∈mc a p t,QR a q
 | 0=>λq c=>by cases c
 | t+1=>JJ b t (KS b t) (X3 _)
def lS(a:List au){s:Int}(b:0<=s/\s<=1073741823):∀q∈jr a s,QR a q:=KS (qC a.length b (X3 _)) 3
def RI(s:au)(n:Nat):(sJ s n).Pairwise (· < ·):=by
 unfold sJ;rw[List.pairwise_map];exact(List.pairwise_lt_range.sublist List.filter_sublist).imp λh=>ω
def Tk : ∀z∈sJ s n,0<=z/\z<n:=λz a=>by
 unfold sJ at a;simp only[O5,V5,List.mem_range]at a;obtain⟨c,⟨b,-⟩,rfl⟩:=a;omega
def xx(s:au):dr (sJ s 16).length (mU (sJ s 16))=true:=by
 refine cA.2 λj a=>?_
 have c:=Tk _ (am a);unfold mU;refine O0 ⟨ω,ω,?_⟩;by_cases e:j=0
 ·exact .inl e
 refine .inr ?_;have b:=List.pairwise_iff_getElem.1 (RI s 16) (j - 1) j ω a ω;rw[show nth (sJ s 16) (j - 1)=(sJ s 16)[j - 1] from bh (X2 ω),show nth (sJ s 16) j=(sJ s 16)[j] from bh (X2 a)];exact b
def qt{a b:au}(c:meshable a b=true):eO (db a b)=true/\bf a=true/\bf b=true:=by
 unfold meshable at c;simp only[I0,C0]at c;have d:=aE c.1.1;have e:=aE c.1.2;refine⟨?_,c.1⟩;unfold db eO;split
 ·simp only[I0,C0];exact⟨xx a,ω⟩
 simp only[I0,C0];exact⟨xx b,ω⟩
def ya(a b:au):bY.sml (db a b):=by
 have c:=mu a 16;have d:=mu b 16;unfold db bY.sml tN;split<;>simp only<;>omega
def bg(h:ab):List au:=(i7 h).take 16
def started(h:ab):ab × Bool:=match jr (bg h) h.b8 with
 | []=>({h with b8:=(shuf (bg h).length h.b8).2},false)
 | q::_=>({h with b8:=(shuf (bg h).length h.b8).2,o:=true,Y:=tt (db (nth (bg h) q.A.toNat) (nth (bg h) q.B.toNat))},true)
def GT(a:aU h E):h.J.length<=32/\eZ h<=32/\zf h/\∀s∈h.J,s.b2<=9223372036854775807:=by
 have b:=a.lens;refine⟨b.spans,b.ents,?_,λs c=>by have:=eK (a.L.sok s c);omega⟩;have:=(bj a.ker).1.2;exact this
def zu(h:ab):(bg h).length<=16:=by unfold bg;rw[C2];omega
def MP(x:List dQ)(z:Int):eg (fm .own x++[I z])=fm .W x++[I z]:=by
 have h:=rS x;rw[cn]at h |-;rw[C7,h];simp[fz]
def TD(h:ab):(bg h).map (au.enc .W)=((i7 h).map (au.enc .W)).take 16:=C5
def H9(p:bY)(b:eO p=true)(c:bY.sml p):zzA 430 false [.val (some 3) (bY.enc .W p)] (.tup [some 5,none]) (zA (tt p)++[B true]):=by
 have h:=(Gj p b c).fzR;have e:eg (co.enc .own (tt p)++[B true])=zA (tt p)++[B true]:=by
  have a:=co.enc_fz (tt p);rw[cn]at a |-;rw[C7,a];simp[fz,co.enc,zA]
 rwa [e]at h
def A7(h:ab)(w:aU h []):zzB 279 false [.ptr (bE h)] [.ptr (bE (started h).1)] .one [B (started h).2]:=by
 obtain⟨w1,Q,H,J⟩:=GT w;have a:=w.nums;unfold cu at a;rw[C0]at a;have e:=(zt h H ω ω J).fzR;rw[gq]at e;have o:=zu h;have b:=(wG (bg h) h.b8 ⟨a.1,a.2.1⟩ o).fzR;rw[MP]at b;have g:=lS (bg h) ⟨a.1,a.2.1⟩;have K:=pW h h.J.length;have y:(i7 h).length<=32:=by unfold i7;omega
 have j:=TD h;unfold started;cases C:jr (bg h) h.b8 with
 | nil=>
  rw[C]at b;by_cases L:16<(i7 h).length
  ·refine fM 62 [] [(8,275,[34,35,36,37,38,39,40,41,42,43,44,45,46,47,48,33,49,50,6,0,1,2,3,4,5,6,7,8,9,10,11,12,13,14,15,16,17,18,19,1017,20])] [(0,0)] Tryz.func279 rfl (λu q=>?_)
   repeat'(first|refine gE ?_|(conv=>whnf);first|refine CC ?_|refine CH (e) ⟨⟨rfl,bK h⟩,trivial⟩ ?_|refine C9 (b) ?_|refine CX 16 rfl (by rw[I1];omega) (aM λ_=>rfl) j ?_)
   refine CJ rfl rfl ?_;exact wC
  have k:bg h=i7 h:=by unfold bg;exact V8 ω
  rw[k]at b;refine fM 62 [] [(8,275,[34,35,36,37,38,39,40,41,42,43,44,45,46,47,48,33,49,50,6,0,1,2,3,4,5,6,7,8,9,10,11,12,13,14,15,16,17,18,19,1017,20])] [(0,0)] Tryz.func279 rfl (λu q=>?_);rw[k]
  repeat'(first|refine gE ?_|(conv=>whnf);first|refine CC ?_|refine CH (e) ⟨⟨rfl,bK h⟩,trivial⟩ ?_|refine C9 (b) ?_)
  refine CJ rfl rfl ?_;exact wC
 | cons q M=>
  rw[C]at b g;obtain⟨E,F,G⟩:=g q (I2 ..);obtain⟨N,O,P⟩:=qt G;have p:=AC _ _ G O P;have t:=H9 _ N (ya _ _);have c:=ao (xs:=bg h) (i:=q.A.toNat) ω;have d:=ao (xs:=bg h) (i:=q.B.toNat) ω;have l:(q::M)[0]? = some q:=rfl;by_cases L:16<(i7 h).length
  ·refine fM 62 [] [(8,275,[34,35,36,37,38,39,40,41,42,43,44,45,46,47,48,33,49,50,6,0,1,2,3,4,5,6,7,8,9,10,11,12,13,14,15,16,17,18,19,1017,20])] [(0,0)] Tryz.func279 rfl (λu r=>?_)
   repeat'(first|refine gE ?_|(conv=>whnf);first|with_reducible refine Bf.D (λn=>absurd n (by simp)) (λn=>?_)|refine CC ?_|refine CH (e) ⟨⟨rfl,bK h⟩,trivial⟩ ?_|refine C9 (b) ?_|refine CX 16 rfl (by rw[I1];omega) (aM λ_=>rfl) j ?_|refine CN (by decide) (aa l) ?_|refine CN E.1 (aa c) ?_|refine CN F.1 (aa d) ?_|refine C9 (p) ?_|refine CH (t) ⟨⟨rfl,bY.enc_fz _⟩,trivial⟩ ?_|refine CC ?_)
   refine CJ rfl rfl ?_;exact wC
  have k:bg h=i7 h:=by unfold bg;exact V8 ω
  rw[k]at b p t c d;refine fM 62 [] [(8,275,[34,35,36,37,38,39,40,41,42,43,44,45,46,47,48,33,49,50,6,0,1,2,3,4,5,6,7,8,9,10,11,12,13,14,15,16,17,18,19,1017,20])] [(0,0)] Tryz.func279 rfl (λu r=>?_);rw[k]
  repeat'(first|refine gE ?_|(conv=>whnf);first|with_reducible refine Bf.D (λn=>absurd n (by simp)) (λn=>?_)|refine CC ?_|refine CH (e) ⟨⟨rfl,bK h⟩,trivial⟩ ?_|refine C9 (b) ?_|refine CN (by decide) (aa l) ?_|refine CN E.1 (aa c) ?_|refine CN F.1 (aa d) ?_|refine C9 (p) ?_|refine CH (t) ⟨⟨rfl,bY.enc_fz _⟩,trivial⟩ ?_|refine CC ?_)
  refine CJ rfl rfl ?_;exact wC
def meshSt(h:ab):ab × Bool:=if h.o=false/\cJ h=true then started h else(h,false)
def Ek(h:ab)(g:ab.sml h)(i:¬(h.o=false/\cJ h=true)):zzA 249 false [.val (some 24) (ab.enc .W h)] (.tup [some 24,none]) (gh h++[B false]):=by
 have a:=fI h g;rw[iw]at a;have b:=lK h g;have c:ab.enc .W h=(ab.enc .W h).set 18 (B h.o):=rfl;cases d:h.o
 ·have j:cJ h=false:=by
   rcases Bool.eq_false_or_eq_true (cJ h) with e|e
   ·exact absurd ⟨d,e⟩ i
   exact e
  rw[j]at a;rw[d]at c;rw[c]at a b |-;refine fO 66 [(10,275,[41,42,43,44,45,46,47,48,49,50,51,52,53,54,55,40,56,57,8,0,1,2,3,4,5,6,7,8,9,10,11,12,13,14,15,16,17,18,19,1017,20])] Tryz.func249 rfl ?_ (.inr (aG (mq _) ⟨trivial,trivial⟩))
  repeat'(first|refine gP ?_|(conv=>whnf);first|refine CC ?_|refine C9 (a) ?_|refine C9 (b) ?_)
  rfl
 rw[d]at c;rw[c]at a b |-;refine fO 66 [(10,275,[41,42,43,44,45,46,47,48,49,50,51,52,53,54,55,40,56,57,8,0,1,2,3,4,5,6,7,8,9,10,11,12,13,14,15,16,17,18,19,1017,20])] Tryz.func249 rfl ?_ (.inr (aG (mq _) ⟨trivial,trivial⟩))
 repeat'(first|refine gP ?_|(conv=>whnf);first|refine CC ?_|refine C9 (a) ?_|refine C9 (b) ?_)
 rfl
def zN(h:ab)(t:ab.sml h)(H:h.o=false)(u:cJ h=true):zzA 249 false [.val (some 24) (ab.enc .W h)] (.tup [some 24,none]) (gh (started h).1++[B (started h).2]):=by
 have w:=aU.of u;obtain⟨w1,U,J,K⟩:=GT w;have a:=w.nums;unfold cu at a;rw[C0]at a;have j:=fI h t;rw[iw,u]at j;have l:=lK h t;have k:=(yD h J ω ω K).fzR;rw[gq]at k;have n:=zu h;have c:=(wD (bg h) h.b8 ⟨a.1,a.2.1⟩ n).fzR;rw[MP]at c;have d:=lS (bg h) ⟨a.1,a.2.1⟩;have L:=pW h h.J.length;have y:(i7 h).length<=32:=by unfold i7;omega
 have g:(bg h).map (au.enc .W)=((i7 h).map (au.enc .W)).take (bg h).length:=by
  unfold bg;rw[C5,C2];by_cases e:16<=(i7 h).length
  ·rw[Nat.min_eq_left e]
  rw[Nat.min_eq_right ω,V8 (by rw[I1];omega),V8 (by rw[I1];omega)]
 have b:(bg h).length=if(i7 h).length<=16 then(i7 h).length else 16:=by unfold bg;rw[C2];split<;>omega
 have C:ab.enc .W h=(ab.enc .W h).set 18 (B h.o):=rfl;rw[H]at C;rw[C]at j l k |-;unfold started;cases E:jr (bg h) h.b8 with
 | nil=>
  rw[E]at c;refine fO 66 [(10,275,[41,42,43,44,45,46,47,48,49,50,51,52,53,54,55,40,56,57,8,0,1,2,3,4,5,6,7,8,9,10,11,12,13,14,15,16,17,18,19,1017,20])] Tryz.func249 rfl ?_ (.inr (aG (mq _) ⟨trivial,trivial⟩))
  repeat'(first|refine gP ?_|(conv=>whnf);first|refine CC ?_|refine C9 (j) ?_|refine C9 (l) ?_|refine C9 (k) ?_|refine C9 (c) ?_|refine CS (z:=((bg h).length:Int)) (by rw[b];simp;split<;>split<;>omega) ?_|refine CX (bg h).length rfl (by rw[I1,b];split<;>omega) (aM λ_=>rfl) g ?_)
  rfl
 | cons q M=>
  rw[E]at c d;obtain⟨N,O,F⟩:=d q (I2 ..);obtain⟨P,Q,R⟩:=qt F;have S:=zI _ _ F Q R;have T:=Fj _ P (ya _ _);have o:=ao (xs:=bg h) (i:=q.A.toNat) ω;have p:=ao (xs:=bg h) (i:=q.B.toNat) ω;have r:(q::M)[0]? = some q:=rfl;refine fO 66 [(10,275,[41,42,43,44,45,46,47,48,49,50,51,52,53,54,55,40,56,57,8,0,1,2,3,4,5,6,7,8,9,10,11,12,13,14,15,16,17,18,19,1017,20])] Tryz.func249 rfl ?_ (.inr (aG (mq _) ⟨trivial,trivial⟩))
  repeat'(first|refine gP ?_|(conv=>whnf);first|with_reducible refine Bf.D (λG=>absurd G (by simp)) (λG=>?_)|refine CC ?_|refine C9 (j) ?_|refine C9 (l) ?_|refine C9 (k) ?_|refine C9 (c) ?_|refine CS (z:=((bg h).length:Int)) (by rw[b];simp;split<;>split<;>omega) ?_|refine CX (bg h).length rfl (by rw[I1,b];split<;>omega) (aM λ_=>rfl) g ?_|refine CN (by decide) (aa r) ?_|refine CN N.1 (aa o) ?_|refine CN O.1 (aa p) ?_|refine C9 (S) ?_|refine CH (T) ⟨⟨rfl,bY.enc_fz _⟩,trivial⟩ ?_|refine CC ?_)
  rfl
def xL(h:ab)(a:ab.sml h):zzA 249 false [.val (some 24) (ab.enc .W h)] (.tup [some 24,none]) (gh (meshSt h).1++[B (meshSt h).2]):=by
 unfold meshSt;split
 ·rename_i e;exact zN h a e.1 e.2
 rename_i e;exact Ek h a e
def H3(xs:List Int)(x:Int)(h:xs.length<=4611686018427387904):zzA 435 false [.val none (aF .W xs),.val none [I x]] .one [I (ee (λy=>decide (y=x)) xs)]:=by
 refine fO 19 [] Tryz.func435 rfl ?_
 repeat'(first|refine gP ?_|(conv=>whnf);first|refine CC ?_)
 (conv=>whnf)
 refine CG (ι:=Nat) (λi=>[(0,.H .one (aF .W xs)),(1,.H .one [I (x)]),(7,.H .one [I (xs.length)]),(8,.H .one [I ((i:Nat):Int)])]) (λi=>i<=xs.length/\∀(j:Nat)(z:Int),j<i->xs[j]? = some z->decide (z=x)=false) (λi=>xs.length - i) (0) ?_ (⟨X0 _,λj z d _=>absurd d (Nat.not_lt_zero _)⟩) λi c=>?_
 ·exact wB
 obtain⟨c,b⟩:=c;by_cases g:i<xs.length
 ·have a:=ao g
  by_cases e:nth xs i=x
  ·repeat'(first|refine gE ?_|(conv=>whnf);first|with_reducible refine CE (aa a) ?_|refine CC ?_|refine Bf.t (by simp[e]) ?_)
   exact Z0 (λz=>[I z]) (dS a (O0 e) b).symm
  repeat'(first|refine gE ?_|(conv=>whnf);first|with_reducible refine CE (aa a) ?_|refine CC ?_|refine Bf.f (by simp[Ne.symm e]) ?_)
  ((conv=>whnf);refine CF (i+1) ⟨ω,fY a (W0 e) b⟩ ω ?_;(exact wB))
 repeat'(first|refine gE ?_|(conv=>whnf);first|refine CC ?_)
 exact Z0 (λz=>[I z]) (gx ω b).symm
def zP(xs:List Int)(x:Int)(a:xs.length<=4611686018427387904):zzA 287 false [.val none (aF .W xs),.val none [I x]] .one [B (decide (x∈xs))]:=by
 refine fO 9 [] Tryz.func287 rfl ?_
 repeat'(first|refine gP ?_|(conv=>whnf);first|refine CC ?_|refine C9 (H3 xs x a) ?_)
 exact Z0 (λz=>[B z]) ((by rw[lB];rw[Z5];simp))
def ce(k:af):af:={k with Calls:=k.Calls+1}
def refd(k:af):Bool:=decide (k.Calls∈k.u)
def sV(k:af)(a:af.sml k)(d:0<=k.Calls/\k.Calls<=100000):zzA 459 false [.val (some 5) (af.enc .W k)] (.tup [some 5,none]) (af.enc .own (ce k)++[B (!refd k)]):=by
 have c:=gC k a;have g:k.u.length<=1048576:=a.2;have b:=zP k.u k.Calls ω;unfold refd;cases e:decide (k.Calls∈k.u)<;>rw[e]at b
 all_goals
  refine fO 18 [(3,263,[11,12,13,14,15,16,17,0,1,2,3,4,5,6,7,1006,8])] Tryz.func459 rfl ?_ (.inr (aG (Cf _) ⟨trivial,trivial⟩))
  repeat'(first|refine gP ?_|(conv=>whnf);first|refine CC ?_|refine C9 (c) ?_|refine C9 (b) ?_|refine CC ?_)
  rfl
def jI(k:af)(p:Int)(m:Int):af:={k with F:=⟨k.F.U,⟨k.F.Q.K.set p.toNat {nth k.F.Q.K p.toNat with j:=m}⟩⟩}
def fw(k:af)(p m:Int):af × Bool:=if refd k=true then(ce k,false) else(jI (ce k) p m,true)
def uX(k:af)(p m:Int):af.enc .own (jI k p m)=(af.enc .own k).set 2 (.s .own ((k.F.Q.K.map (bi.enc .own)).set p.toNat (bi.enc .own {nth k.F.Q.K p.toNat with j:=m}))):=by
 simp[af.enc,jI,V7]
def qK(k:af)(p m:Int)(b:ay k=true)(n:k.Calls≠100000)(j:(ac k.F.Q p).j≠0)(a:m=1\/m=2):zzA 559 false [.val (some 5) (af.enc .W k),.val none [I p],.val none [I m]] (.tup [some 5,none]) (af.enc .own (fw k p m).1++[B (fw k p m).2]):=by
 have c:=bj b;have o:=(a7.1 b).2.2.2;have d:=j8 k c;rw[b,O0 n]at d;have g:=sV k c ⟨ω,ω⟩;have h:=fD k p c.1.2;rw[O0 j]at h;obtain⟨q,r,t⟩:=bD b j;have l:=ao (xs:=k.F.Q.K) (i:=p.toNat) ω;unfold fw;cases e:refd k<;>rw[e]at g
 ·rw[CB (by simp),uX]
  rcases a with rfl|rfl
  all_goals
   refine fO 46 [] Tryz.func559 rfl ?_ (.inr (aG (by rw[<-uX];exact Cf _) ⟨trivial,trivial⟩))
   repeat'(first|refine gP ?_|(conv=>whnf);first|refine CC ?_|refine C9 (d) ?_|refine C9 (g) ?_|refine C9 (h) ?_|refine CN q (aa l) ?_|refine CQ rfl rfl (aa l) rfl (O1 rfl) rfl ?_)
   rfl
 rw[CD rfl];rcases a with rfl|rfl
 all_goals
  refine fO 46 [] Tryz.func559 rfl ?_ (.inr (aG (Cf _) ⟨trivial,trivial⟩))
  repeat'(first|refine gP ?_|(conv=>whnf);first|refine CC ?_|refine C9 (d) ?_|refine C9 (g) ?_|refine C9 (h) ?_)
  rfl
variable{k:af}
def row16(a:ay k=true)(b:f<k.F.U.T.length):(nth k.F.U.T f).length=16:=by
 have:=(aO.1 (a7.1 a).2.1).2.2.2 f b;unfold gT at this;simp only[I0,C0]at this;omega
def setCell(k:af)(f:Nat)(c v:Int):af:={k with F:=⟨⟨k.F.U.T.set f ((nth k.F.U.T f).set c.toNat v),k.F.U.a3⟩,k.F.Q⟩}
def vX(k:af)(f:Nat)(c v:Int):af.enc .own (setCell k f c v)=(af.enc .own k).set 0 (.s .own ((k.F.U.T.map (aF .own)).set f [.s .own (((nth k.F.U.T f).map (rI .own)).set c.toNat [I v])])):=by
 simp[af.enc,setCell,V7,aF,rI]
def b9(k:af)(p:Int):Nat:=(ac k.F.Q p).d.toNat
def oK(k:af)(a b c:Int):af:=setCell k (b9 k b) c (nth (nth k.F.U.T (b9 k a)) c.toNat)
def KG(k:af)(a b c:Int):Nat->af
 | 0=>k
 | _+1=>oK k a b c
def HK(k:af)(a b c:Int)(d:ay k=true)(C:k.Calls≠100000)(q:(ac k.F.Q a).j≠0)(r:(ac k.F.Q b).j≠0)(e:0<=c/\c<=15):zzA 560 false [.val (some 5) (af.enc .W k),.val none [I a],.val none [I b],.val none (aF .W [c])] (.tup [some 5,none]) (af.enc .own (oK k a b c)++[B true]):=by
 have h:=bj d;have t:=j8 k h;rw[d,O0 C]at t;have D:=gC k h;have u:=fD k a h.1.2;have w:=fD k b h.1.2;rw[O0 q]at u;rw[O0 r]at w;have E:=dL k.F.Q a h.1.2;have F:=dL k.F.Q b h.1.2;have y:=B8 c;rw[O0 e]at y;obtain⟨-,-,-,G,K⟩:=bD d q;obtain⟨-,-,-,H,L⟩:=bD d r;have J:=(aO.1 (a7.1 d).2.1).2.2.1;have M:=row16 d (f:=b9 k a) (by unfold b9;omega);have N:=row16 d (f:=b9 k b) (by unfold b9;omega);have l:k.F.U.T[(ac k.F.Q a).d.toNat]? = some (nth k.F.U.T (b9 k a)):=ao ω;have g:k.F.U.T[(ac k.F.Q b).d.toNat]? = some (nth k.F.U.T (b9 k b)):=ao ω;have o:=ao (xs:=nth k.F.U.T (b9 k a)) (i:=c.toNat) ω;have n:=ao (xs:=nth k.F.U.T (b9 k b)) (i:=c.toNat) ω;have p:[c][0]? = some c:=rfl;refine fO 77 [(4,268,[33,34,35,36,37,38,39,40,41,42,43,44,0,1,2,3,4,5,6,7,8,9,10,11,12,1011,13]),(10,18,[56,57,58,59,60,61,62,63,64,65,66,67,68,69,70,71,72,73])] Tryz.func560 rfl ?_ (.inr (aG (Cf _) ⟨trivial,trivial⟩))
 repeat'(first|refine gP ?_|(conv=>whnf);first|refine CC ?_|refine C9 (t) ?_|refine C9 (D) ?_|refine C9 (u) ?_|refine C9 (w) ?_|refine C9 (E) ?_|refine C9 (F) ?_|refine CC ?_)
 (conv=>whnf)
 refine CG (ι:=Nat) (λj=>[(4,.H .box (af.enc .W k)),(8,.H .box (af.enc .own ⟨⟨⟨[],[]⟩,⟨[]⟩⟩,0,[]⟩)),(10,.H .box (af.enc .own (KG k a b c j))),(11,.H .one [I ((ac k.F.Q a).d)]),(12,.H .one [I ((ac k.F.Q b).d)]),(45,.H .one (aF .W [c])),(46,.H .one [I (1)]),(47,.H .one [I ((j:Nat):Int)])]) (λj=>j<=1) (λj=>1 - j) (0) ?_ (X0 _) λj O=>?_
 ·exact wB
 by_cases P:j<1
 ·obtain rfl:j=0:=ω
  repeat'(first|refine gE ?_|(conv=>whnf);first|refine CC ?_|refine CN (by decide) (aa p) ?_|refine C9 (y) ?_|refine CN G (aa l) ?_|refine CN H (aa g) ?_|refine CN e.1 (aa o) ?_|refine CN e.1 (aa n) ?_|refine CK rfl (aa g) rfl ?_|refine CK rfl (aa l) rfl ?_|refine CC ?_|refine Pu.two rfl rfl (aa g) rfl rfl rfl (aa n) rfl (X3 _) rfl ?_)
  ((conv=>whnf);refine CF 1 ω ω ?_)
  rw[show KG k a b c 1=oK k a b c from rfl];unfold oK;rw[vX];exact wB
 obtain rfl:j=1:=ω
 repeat'(first|refine gE ?_|(conv=>whnf);first|refine CC ?_)
 rfl
def uW(k:af)(p:Nat)(e:bi):af:={k with F:=⟨k.F.U,⟨k.F.Q.K.set p e⟩⟩}
def GB(k:af)(p:Nat)(e:bi):af.enc .own (uW k p e)=(af.enc .own k).set 2 (.s .own ((k.F.Q.K.map (bi.enc .own)).set p (bi.enc .own e))):=by
 simp[af.enc,uW,V7]
def Hd(p:Nat)(e:bi)(h:aI.sml k.F.Q):aI.sml (uW k p e).F.Q:=by
 refine⟨?_,λx _=>trivial⟩;show(k.F.Q.K.set p e).length<=_;rw[Z1];exact h.1
def qT(k:af)(p o:Int):af × Bool:=if refd k=true then(ce k,false) else(fE (uW (ce k) p.toNat ⟨2,(nth k.F.Q.K o.toNat).d⟩) (nth k.F.Q.K p.toNat).d,true)
def fQ(m:aS)(a v:Int):aS × Int:=
 if(ac m.Q (a / 16)).j=0 then(m,1) else if(ac m.Q (a / 16)).j=1 then(m,2) else
 (⟨⟨m.U.T.set (ac m.Q (a / 16)).d.toNat ((nth m.U.T (ac m.Q (a / 16)).d.toNat).set (a % 16).toNat v),m.U.a3⟩,m.Q⟩,0)
def E3(m:aS)(a:Int)(d:cZ m=true)(b:aS.sml m)(e:0<=a/\a<512):zzA 568 false [.val (some 3) (aS.enc .W m),.val none [I a]] .agg (bi.enc .own (ac m.Q (a / 16))):=by
 have c:=oZ m b;rw[d]at c;have g:=dL m.Q (a / 16) b.2;refine fO 18 [] Tryz.func568 rfl ?_ (.inr ⟨trivial,trivial,trivial⟩)
 repeat'(first|refine gE ?_|(conv=>whnf);first|refine C9 (c) ?_|refine C9 (g) ?_|refine CO (pp e) ?_|refine CP (by decide) ?_)
 rfl
def xu(m:aS)(f:Nat)(c v:Int):aS.enc .own ⟨⟨m.U.T.set f ((nth m.U.T f).set c.toNat v),m.U.a3⟩,m.Q⟩ = (aS.enc .own m).set 0 (.s .own ((m.U.T.map (aF .own)).set f [.s .own (((nth m.U.T f).map (rI .own)).set c.toNat [I v])])):=by
 simp[aS.enc,V7,aF,rI]
def Jp(m:aS)(a v:Int)(p:cZ m=true)(k:aS.sml m)(l:0<=a/\a<512)(q:0<=v/\v<=999)(r:(ac m.Q (a / 16)).j≠0->0<=(ac m.Q (a / 16)).d/\(ac m.Q (a / 16)).d<m.U.T.length/\(nth m.U.T (ac m.Q (a / 16)).d.toNat).length=16):zzA 505 false [.val (some 3) (aS.enc .W m),.val none [I a],.val none [I v]] (.tup [some 3,none]) (aS.enc .own (fQ m a v).1++[I (fQ m a v).2]):=by
 have d:=na m k;have e:=E3 m a p k l;have c:=aK v 0 999;rw[O0 q]at c;have b:=aS.enc_fr (fQ m a v).1;unfold fQ at b |-;by_cases g:(ac m.Q (a / 16)).j=0
 ·rw[CD g]at b |-
  refine fO 42 [] Tryz.func505 rfl ?_ (.inr (aG b ⟨trivial,trivial⟩))
  repeat'(first|refine gB ?_|(conv=>whnf);first|refine C9 (d) ?_|refine C9 (e) ?_|refine C9 (c) ?_)
  rfl
 rw[CB g]at b |-;by_cases n:(ac m.Q (a / 16)).j=1
 ·rw[CD n]at b |-
  refine fO 42 [] Tryz.func505 rfl ?_ (.inr (aG b ⟨trivial,trivial⟩))
  repeat'(first|refine gB ?_|(conv=>whnf);first|refine C9 (d) ?_|refine C9 (e) ?_|refine C9 (c) ?_)
  rfl
 rw[CB n]at b |-;obtain⟨t,u,w⟩:=r g;have h:=ao (xs:=m.U.T) (i:=(ac m.Q (a / 16)).d.toNat) ω;have o:=ao (xs:=nth m.U.T (ac m.Q (a / 16)).d.toNat) (i:=(a % 16).toNat) ω;simp only at b |-;rw[xu]at b |-;have j:a.tmod 16=a % 16:=dP l.1;refine fO 42 [] Tryz.func505 rfl ?_ (.inr (aG b ⟨trivial,trivial⟩))
 repeat'(first|refine gB ?_|(conv=>whnf);first|refine C9 (d) ?_|refine C9 (e) ?_|refine C9 (c) ?_|refine CS j ?_|refine CP (by decide) ?_|refine CN t (aa h) ?_|refine CN ω (aa o) ?_|refine CK rfl (aa h) rfl ?_|refine Pu.two rfl rfl (aa h) rfl rfl rfl (aa o) rfl (X3 _) rfl ?_)
 rfl
def Fk(k:af)(p o:Int)(a:ay k=true)(w:k.Calls≠100000)(l:(ac k.F.Q p).j≠0)(n:(ac k.F.Q o).j≠0)(y:p≠o):zzA 561 false [.val (some 5) (af.enc .W k),.val none [I p],.val none [I o]] (.tup [some 5,none]) (af.enc .own (qT k p o).1++[B (qT k p o).2]):=by
 have b:=bj a;have C:=(a7.1 a).2.2.2;have c:=j8 k b;rw[a,O0 w]at c;have d:=sV k b ⟨ω,ω⟩;have g:=fD k p b.1.2;have h:=fD k o b.1.2;rw[O0 l]at g;rw[O0 n]at h;obtain⟨D,H,E,q,r⟩:=bD a l;obtain⟨F,J,K,L,M⟩:=bD a n;have G:=(aO.1 (a7.1 a).2.1).2.2.1;have j:=ao (xs:=k.F.Q.K) (i:=p.toNat) ω;have t:=ao (xs:=k.F.Q.K) (i:=o.toNat) ω;rw[E]at q r;have u:=t8 (uW (ce k) p.toNat ⟨2,(nth k.F.Q.K o.toNat).d⟩) (nth k.F.Q.K p.toNat).d (Hd _ _ b.1.2) ⟨q,by show _<((k.F.U.T.length:Nat):Int);omega,r⟩;rw[GB]at u;unfold qT;cases e:refd k<;>rw[e]at d
 ·rw[CB (by simp)]
  refine fP 63 [(198,[2,0]),(1000010,[])] [] Tryz.func561 rfl ?_ (.inr (aG (Cf _) ⟨trivial,trivial⟩))
  repeat'(first|refine gB ?_|(conv=>whnf);first|refine C9 (c) ?_|refine C9 (d) ?_|refine C9 (g) ?_|refine C9 (h) ?_|refine CN D (aa j) ?_|refine CN F (aa t) ?_|refine CK rfl (aa j) rfl ?_|refine CK rfl (aa t) rfl ?_|refine CQ rfl rfl (aa j) rfl (O1 rfl) rfl ?_|refine CL (u) (.inl rfl) ?_)
  rfl
 rw[CD rfl];refine fP 63 [(198,[2,0]),(1000010,[])] [] Tryz.func561 rfl ?_ (.inr (aG (Cf _) ⟨trivial,trivial⟩))
 repeat'(first|refine gP ?_|(conv=>whnf);first|refine C9 (c) ?_|refine C9 (d) ?_|refine C9 (g) ?_|refine C9 (h) ?_)
 rfl
def jmay(k:af)(j:co):Bool:=(ay k&&decide (k.Calls≠100000))&&(jH j&&decide ((ac k.F.Q j.X.a2).j≠0/\(ac k.F.Q j.X.a0).j≠0/\(ac k.F.Q j.X.a2).d≠(ac k.F.Q j.X.a0).d))
def jstep(k:af)(j:co):af × co:=
 if j.b1=0 then((fw k j.X.a0 1).1,{j with b1:=if(fw k j.X.a0 1).2=true then 1 else 5})
 else if j.b1=1 then(if j.b=j.X.T.length then(k,{j with b1:=2}) else(oK k j.X.a0 j.X.a2 (nth j.X.T j.b.toNat),{j with b:=j.b+1}))
 else if j.b1=2 then((qT k j.X.a0 j.X.a2).1,{j with b1:=if(qT k j.X.a0 j.X.a2).2=true then 4 else 3})
 else if j.b1=3 then(if 0<j.b then({k with F:=(fQ k.F (j.X.a2*16+nth j.X.T (j.b - 1).toNat) 0).1},{j with b:=j.b - 1}) else((fw k j.X.a0 2).1,{j with b1:=if(fw k j.X.a0 2).2=true then 5 else 3}))
 else(k,j)
def Ql{f:Int}(h1:∀j,j<k.u.length->0<=nth k.u j)(d:cW k.F.U=true)(g:gR k.F.Q k.F.U.a3.length=true)(h:∀j:Nat,j<k.F.U.a3.length->(j:Int)≠f->nth k.F.U.a3 j=decide (0<(pagesOn k.F.Q (j:Int)).length))(t:0<=f/\f<k.F.U.a3.length)(l:nth k.F.U.a3 f.toNat=true)(i:0<=k.Calls/\k.Calls<=100000/\k.u.length<=40):ay (fE k f)=true:=by
 obtain⟨n,o,p,q⟩:=aO.1 d;unfold fE;split
 ·rename_i c
  rw[a7];simp only[Z1];refine⟨h1,?_,g,λj b=>?_,i⟩
  ·rw[aO]
   simp only[Z1,bt];refine⟨n,o,p,λj b=>?_⟩;by_cases a:f.toNat=j
   ·rw[CD ⟨a,b⟩,CD ⟨a,ω⟩];decide
   rw[CB (λe=>a e.1),CB (λe=>a e.1)];exact q j b
  rw[bt];by_cases a:f.toNat=j
  ·rw[CD ⟨a,b⟩]
   have:(j:Int)=f:=ω
   rw[this];exact(W0 λr=>absurd c (Nat.ne_of_gt r)).symm
  rw[CB (λe=>a e.1)];exact h j b ω
 rename_i c;rw[a7];refine⟨h1,d,g,λj b=>?_,i⟩;by_cases a:(j:Int)=f
 ·rw[a,show j=f.toNat by omega,l]
  exact(O0 (Nat.pos_of_ne_zero c)).symm
 exact h j b a
def tEq(t a:aI):Prop:=a.K.length=t.K.length/\∀q:Nat,((nth a.K q).j≠0↔(nth t.K q).j≠0)/\(nth a.K q).d=(nth t.K q).d
def tEq.refl(t:aI):tEq t t:=⟨rfl,λ_=>⟨Iff.rfl,rfl⟩⟩
def tEq.of{t a:aI}(h:a=t):tEq t a:=by rw[h];exact tEq.refl t
def tEq.pagesOn{t a:aI}(h:tEq t a)(f:Int):Ab.pagesOn a f=Ab.pagesOn t f:=by
 unfold Ab.pagesOn kv;rw[h.1]
 congr 1
 refine List.filter_congr λq _=>?_
 obtain⟨b,c⟩:=h.2 q;unfold N5;rw[c];exact decide_eq_decide.2 (and_congr b Iff.rfl)
def DW(h:ay k=true){a:aI}(c:tEq k.F.Q a)(i:∀q,q<a.K.length->0<=(nth a.K q).j/\(nth a.K q).j<=2):ay {k with F:=⟨k.F.U,a⟩} = true:=by
 obtain⟨l,n,o,p,r⟩:=a7.1 h;obtain⟨t,u,w⟩:=bo.1 o;rw[a7];refine⟨l,n,bo.2 ⟨λj b=>?_,?_,?_⟩,λj b=>?_,r⟩
 ·replace b:j<a.K.length:=b
  have e:=t j (by rw[<-c.1];exact b);have d:=i j b;obtain⟨g,y⟩:=c.2 j;show kV _ (nth a.K j)=true;unfold kV at e |-;rw[C0]at e |-;rw[y];refine⟨d.1,d.2,λf=>e.2.2.1 (Classical.byContradiction λA=>(g.2 A) f),λf=>e.2.2.2 (g.1 f)⟩
 ·show 1<=a.K.length;rw[c.1];exact u
 ·show a.K.length<=32;rw[c.1];exact w
 show nth k.F.U.a3 j=decide (0<(Ab.pagesOn a (j:Int)).length);rw[c.pagesOn];exact p j b
def nw(h:ay k=true)(f:k.Calls≠100000):ay (ce k)=true:=by
 obtain⟨a,b,c,d,g,i,e⟩:=a7.1 h;rw[a7];exact⟨a,b,c,d,by show 0<=k.Calls+1;omega,by show k.Calls+1<=100000;omega,e⟩
variable{p m:Int}
def vf(a:(nth k.F.Q.K p.toNat).j≠0)(b:m=1\/m=2):tEq k.F.Q (jI k p m).F.Q:=by
 refine⟨by simp[jI],λq=>?_⟩;simp only[jI,bt];split
 ·rename_i e
  rw[<-e.1];exact⟨⟨λ_=>a,λ_=>by show m≠0;omega⟩,rfl⟩
 exact⟨Iff.rfl,rfl⟩
def Qn(h:ay k=true)(d:(nth k.F.Q.K p.toNat).j≠0)(a:m=1\/m=2):ay (jI k p m)=true:=by
 refine DW h (vf d a) λq e=>?_
 obtain⟨i,j,f,l,n⟩:=a7.1 h;obtain⟨g,o,r⟩:=bo.1 f;have c:q<k.F.Q.K.length:=by rw[<-(vf d a).1];exact e
 have b:=g q c;unfold kV at b;rw[C0]at b;simp only[bt];split
 ·show 0<=m/\m<=2;omega
 exact⟨b.1,b.2.1⟩
def FB(h:ay k=true)(c:k.Calls≠100000)(b:(ac k.F.Q p).j≠0)(a:m=1\/m=2):ay (fw k p m).1=true/\tEq k.F.Q (fw k p m).1.F.Q:=by
 obtain⟨e,f,d,-⟩:=bD h b;rw[d]at b;unfold fw;split
 ·exact⟨nw h c,tEq.refl _⟩
 exact⟨Qn (nw h c) b a,vf (k:=ce k) b a⟩
def gn(h:ay k=true)(b:(ac k.F.Q p).j≠0):b9 k p<k.F.U.T.length/\nth k.F.U.a3 (b9 k p)=true/\((b9 k p:Nat):Int)=(nth k.F.Q.K p.toNat).d:=by
 obtain⟨f,g,a,i,j⟩:=bD h b;obtain⟨l,d,n,e,o⟩:=a7.1 h;obtain⟨q,r,t,u⟩:=aO.1 d;have c:((b9 k p:Nat):Int)=(ac k.F.Q p).d:=by unfold b9;omega
 refine⟨ω,?_,by rw[c,a]⟩;rw[e _ ω,c];refine O0 (dn.2 ⟨p.toNat,ω,?_,?_⟩)
 ·rw[<-a];exact b
 rw[<-a]
def MM(h:ay k=true){a:List Int}(c:a.length=16)(d:∀v∈a,0<=v/\v<=999)(g:nth k.F.U.a3 f=true):ay {k with F:=⟨⟨k.F.U.T.set f a,k.F.U.a3⟩,k.F.Q⟩} = true:=by
 obtain⟨i,l,n,o,p⟩:=a7.1 h;obtain⟨q,r,t,u⟩:=aO.1 l;refine a7.2 ⟨i,aO.2 ⟨?_,?_,?_,λj b=>?_⟩,n,o,p⟩
 ·simp only[Z1];exact q
 ·simp only[Z1];exact r
 ·simp only[Z1];exact t
 simp only[Z1]at b |-;simp only[bt];split
 ·rename_i e
  obtain⟨rfl,-⟩:=e;unfold gT;simp only[I0,C0,Y4];refine⟨c,λv w=>?_⟩;have:=d v w;unfold iZ;simp[g,this]
 exact u j b
def uv(h:ay k=true)(b:f<k.F.U.T.length):(nth k.F.U.T f).length=16/\∀v∈nth k.F.U.T f,0<=v/\v<=999:=by
 obtain⟨g,c,i,j,l⟩:=a7.1 h;obtain⟨n,o,p,d⟩:=aO.1 c;have a:=d f b;unfold gT at a;simp only[I0,C0,Y4]at a;refine⟨a.1,λv e=>?_⟩;have:=a.2 v e;unfold iZ at this;simp only[I0,C0]at this;exact this.1
def rL(h:ay k=true)(b:f<k.F.U.T.length)(d:nth k.F.U.a3 f=true){c v:Int}(e:0<=v/\v<=999):ay (setCell k f c v)=true:=by
 obtain⟨g,i⟩:=uv h b;refine MM h (by rw[Z1];exact g) (λz a=>?_) d;rcases Y7 a with a|rfl
 ·exact i z a
 exact e
def Ph(h:ay k=true){c:Int}(d:(ac k.F.Q a).j≠0)(e:(ac k.F.Q b).j≠0)(l:0<=c/\c<=15):ay (oK k a b c)=true:=by
 obtain⟨f,n,-⟩:=gn h d;obtain⟨g,i,-⟩:=gn h e;obtain⟨o,j⟩:=uv h f;exact rL h g i (j _ (am ω))
def Qp{o:Int}(h:ay k=true)(u:k.Calls≠100000)(i:(ac k.F.Q p).j≠0)(d:(ac k.F.Q o).j≠0)(w:p≠o):ay (qT k p o).1=true:=by
 unfold qT;split
 ·exact nw h u
 obtain⟨O,y,A⟩:=gn h i;obtain⟨P,Q,R⟩:=gn h d;obtain⟨S,T,B,r,t⟩:=bD h i;obtain⟨U,V,C,D,E⟩:=bD h d;obtain⟨F,G,H,J,W,X,K⟩:=a7.1 h;obtain⟨L,M,N⟩:=bo.1 H;rw[C]at D E d;rw[B]at r t i;have a:∀q,nth (k.F.Q.K.set p.toNat ⟨2,(nth k.F.Q.K o.toNat).d⟩) q=if p.toNat=q then⟨2,(nth k.F.Q.K o.toNat).d⟩ else nth k.F.Q.K q:=λq=>by
  rw[bt];by_cases f:p.toNat=q
  ·rw[CD ⟨f,ω⟩,CD f]
  rw[CB (λe=>f e.1),CB f]
 refine Ql F G (bo.2 ⟨λj c=>?_,?_,?_⟩) (λj c l=>?_) ⟨r,t⟩ (by rw[<-A];exact y) ⟨by show 0<=k.Calls+1;omega,by show k.Calls+1<=100000;omega,K⟩
 ·simp only[uW,ce,Z1]at c |-
  rw[a];split
  ·unfold kV;rw[C0];simp only;omega
  exact L j c
 ·simp only[uW,ce,Z1];exact M
 ·simp only[uW,ce,Z1];exact N
 replace c:j<k.F.U.a3.length:=c;show nth k.F.U.a3 j=_;rw[J j c];refine decide_eq_decide.2 ?_;rw[dn,dn];simp only[uW,ce,Z1,a];constructor
 ·rintro⟨q,n,g,b⟩
  refine⟨q,n,?_⟩;rw[CB (λe=>l (by rw[<-b,<-e]))];exact⟨g,b⟩
 rintro⟨q,n,g,b⟩
 by_cases e:p.toNat=q
 ·rw[CD e]at b
  exact⟨o.toNat,ω,d,b⟩
 rw[CB e]at g b;exact⟨q,n,g,b⟩
def E4{o:Int}(h:ay k=true)(b:(ac k.F.Q p).j≠0)(a:(qT k p o).2=true)(q:Nat):(qT k p o).1.F.Q.K.length=k.F.Q.K.length/\nth (qT k p o).1.F.Q.K q=if(q:Int)=p then⟨2,(nth k.F.Q.K o.toNat).d⟩ else nth k.F.Q.K q:=by
 obtain⟨d,f,-⟩:=bD h b;unfold qT at a |-;split at a
 ·cases a
 rename_i c;rw[CB c];simp only[(mZ _ _).1];simp only[uW,ce,Z1,bt];refine⟨trivial,?_⟩;by_cases e:(q:Int)=p
 ·rw[CD ⟨ω,ω⟩,CD e]
 rw[CB λz=>e ω,CB e]
def H4{o:Int}(a:(qT k p o).2=false):(qT k p o).1=ce k:=by
 unfold qT at a |-;split
 ·rfl
 rename_i b;rw[CB b]at a;cases a
def Mj{v:Int}(h:ay k=true)(g:0<=a)(b:0<=v/\v<=999):ay {k with F:=(fQ k.F a v).1} = true/\(fQ k.F a v).1.Q=k.F.Q:=by
 unfold fQ;split
 ·exact⟨h,rfl⟩
 rename_i d;split
 ·exact⟨h,rfl⟩
 obtain⟨e,f,-⟩:=gn h d;exact⟨rL h e f (c:=a % 16) b,rfl⟩
def oU(t:aI)(p:Int):Prop:=∀q:Nat,(nth t.K q).j≠0->(nth t.K q).d=(nth t.K p.toNat).d->(q:Int)=p
structure JI(h:ab):Prop where
 ph:h.o=true->0<=h.Y.b1/\h.Y.b1<=3
 sp:h.o=true->∃a∈h.J,∃b∈h.J,a.R=h.Y.X.a2/\b.R=h.Y.X.a0/\meshable a b=true
 sk:h.o=true->oU (tbl h) h.Y.X.a2
 sm:h.o=true->oU (tbl h) h.Y.X.a0
def oU.tEq{t a:aI}{p:Int}(h:oU t p)(b:tEq t a):oU a p:=λq c d=>by
 obtain⟨e,f⟩:=b.2 q;exact h q (e.1 c) (by rw[<-f,<-(b.2 p.toNat).2];exact d)
theorem Pg.tEq{t b:aI}{c:List a8}{sp:List au}{la:List aB}(h:Pg t c sp la)(a:tEq t b):Pg b c sp la where
 one l hl p hp q hq h1 h2:=h.one l hl p hp q (by rw[<-a.1];exact hq) ((a.2 q).1.1 h1) (by rw[<-(a.2 q).2,<-(a.2 p).2];exact h2)
 bnd p hp:=by rw[a.1];exact h.bnd p hp
 own p hp:=(a.2 p).1.trans (h.own p (by rw[<-a.1];exact hp))
 fre p hp:=(a.2 p).1.trans (h.fre p (by rw[<-a.1];exact hp))
 mesh s hs u hu hne hf:=h.mesh s hs u hu hne (by rw[<-(a.2 _).2,<-(a.2 u.R.toNat).2];exact hf)
def aU.step(a:aU h E)(b:ay k=true)(c:k.F.Q.K.length=(tbl h).K.length)(d:Pg k.F.Q h.w h.J h.M){j:co}{m:Bool}(h1:m=true->jH j=true/\(∃s∈h.J,s.R=j.X.a2)/\∃s∈h.J,s.R=j.X.a0)(e:m=false->re j=true):aU {h with G:=k,o:=m,Y:=j} E:=
 {a with
   ker:=b
   rng:=by show bG ((k.F.Q.K.length:Nat):Int) h.w=true;rw[c];exact a.rng
   pg:=d
   job:=h1
   noj:=e}
variable{la:List aB}{sp:List au}
def oT.apart(b:oT sp la)(c:s∈sp){l:aB}(d:l∈la)(a:p∈lpgs l l.a4.toNat):s.R≠p:=by
 unfold lpgs at a;simp only[O5,List.mem_range]at a;obtain⟨k,e,rfl⟩:=a;exact b.dis s c l d k e
def Pg.on{t H:aI}{Q:List a8}(h:Pg t Q sp la)(r:oT sp la){a b:au}(w:a∈sp)(L:b∈sp)(R:meshable a b=true)(A:oU t a.R)(M:(nth t.K a.R.toNat).j≠0)(N:(nth t.K b.R.toNat).j≠0)(U:0<=b.R)(J:H.K.length=t.K.length)(B:∀q:Nat,nth H.K q=if(q:Int)=b.R then⟨2,(nth t.K a.R.toNat).d⟩ else nth t.K q):Pg H Q sp la:=by
 have c:∀q:Nat,(nth H.K q).j≠0↔(nth t.K q).j≠0:=λq=>by
  rw[B];split
  ·rename_i e
   rw[show q=b.R.toNat by omega];exact⟨λ_=>N,λ_=>by show(2:Int)≠0;omega⟩
  rfl
 have V:0<=a.R:=by have:=r.sok a w;unfold bf at this;rw[C0]at this;omega
 refine⟨λl k p g q W S C=>?_,λp g=>by rw[J];exact h.bnd p g,λp g=>(c p).trans (h.own p (by rw[<-J];exact g)),λp g=>(c p).trans (h.fre p (by rw[<-J];exact g)),λs D u E F n=>?_⟩
 ·have O:¬(p:Int)=b.R:=λe=>r.apart L k g e.symm
  rw[B p,CB O,B q]at C;rw[c]at S;by_cases e:(q:Int)=b.R
  ·rw[CD e]at C
   have T:=h.one l k p g a.R.toNat (by have:=h.bnd _ (dH (la:=la) w);omega) M C;exact absurd (show a.R=(p:Int) by omega) (r.apart w k g)
  rw[CB e]at C;exact h.one l k p g q (by rw[<-J];exact W) S C
 have X:0<=s.R:=by have:=r.sok s D;unfold bf at this;rw[C0]at this;omega
 have Y:0<=u.R:=by have:=r.sok u E;unfold bf at this;rw[C0]at this;omega
 have d:∀x∈sp,∀y∈sp,x.R=y.R->x=y:=λx G y Z e=>by
  obtain⟨i,hi,rfl⟩:=aN G;obtain⟨j,hj,rfl⟩:=aN Z;rw[cR (f:=(·.R)) r.nd hi hj e]
 have o:∀x∈sp,(nth t.K x.R.toNat).j≠0:=λx G=>by
  have hx0:0<=x.R:=by have:=r.sok x G;unfold bf at this;rw[C0]at this;omega
  refine(h.own x.R.toNat (by have:=h.bnd _ (dH (la:=la) G);omega)).2 ?_;rw[show((x.R.toNat:Nat):Int)=x.R by omega];exact dH G
 rw[B,B]at n;simp only[show((s.R.toNat:Nat):Int)=s.R by omega,show((u.R.toNat:Nat):Int)=u.R by omega]at n;by_cases K:s.R=b.R
 ·rw[CD K,CB (λe=>F (K.trans e.symm))]at n
  have T:=A u.R.toNat (o u E) n.symm;rw[d s D b L K,d u E a w ω,iy];exact R
 rw[CB K]at n;by_cases P:u.R=b.R
 ·rw[CD P]at n
  have T:=A s.R.toNat (o s D) n;rw[d u E b L P,d s D a w ω];exact R
 rw[CB P]at n;exact h.mesh s D u E F n
def over(j:co):Bool:=decide (j.b1=4\/j.b1=5)
def ed(k:af)(j:co):af × co:=if jmay k j=true then jstep k j else(k,j)
def mStep(h:ab):ab:={h with G:=(ed h.G h.Y).1,o:=if over (ed h.G h.Y).2=true then false else h.o,Y:=if over (ed h.G h.Y).2=true then⟨⟨0,0,[]⟩,0,0⟩ else(ed h.G h.Y).2}
def lH(h:ab):Bool:=decide ((ed h.G h.Y).2.b1=4)
def cN{j:co} : jH j=true↔eO j.X=true/\0<=j.b1/\j.b1<=5/\0<=j.b/\j.b<=j.X.T.length:=by
 unfold jH;simp only[I0,C0]
def f8{p:bY}(h:eO p=true)(a:i<p.T.length):0<=nth p.T i/\nth p.T i<=15:=by
 unfold eO at h;simp only[I0]at h;have:=fk h.1 a;unfold mU at this;rw[C0]at this;exact⟨this.1,this.2.1⟩
structure JS(h:ab)(k:af)(j:co):Prop where
 ker:ay k=true
 len:k.F.Q.K.length=(tbl h).K.length
 pg:j.b1≠4\/JI h->Pg k.F.Q h.w h.J h.M
 ph:0<=j.b1/\j.b1<=5
 plan:j.X=h.Y.X
 nxt:0<=j.b/\j.b<=j.X.T.length
 eq:j.b1≠4->tEq (tbl h) k.F.Q
 calls:h.G.Calls<=k.Calls/\k.Calls<=h.G.Calls+1/\k.u=h.G.u
def xE(k:af)(p m:Int):(fw k p m).1.Calls=k.Calls+1/\(fw k p m).1.u=k.u:=by
 unfold fw;split<;>exact⟨rfl,rfl⟩
def NK(k:af)(p o:Int):(qT k p o).1.Calls=k.Calls+1/\(qT k p o).1.u=k.u:=by
 unfold qT;split
 ·exact⟨rfl,rfl⟩
 obtain⟨-,a,b,-⟩:=mZ (uW (ce k) p.toNat ⟨2,(nth k.F.Q.K o.toNat).d⟩) (nth k.F.Q.K p.toNat).d;simp only[a,b];exact⟨rfl,rfl⟩
def JS.of(c:aU h E)(B:h.o=true):JS h (ed h.G h.Y).1 (ed h.G h.Y).2:=by
 obtain⟨R,-,-⟩:=c.job B;obtain⟨O,y,A,o,p⟩:=cN.1 R;unfold ed;split
 case isFalse=>exact⟨c.ker,rfl,λ_=>c.pg,⟨y,A⟩,rfl,⟨o,p⟩,λ_=>tEq.refl _,I6 _,by show h.G.Calls<=h.G.Calls+1;omega,rfl⟩
 rename_i d;unfold jmay at d;simp only[I0,C0]at d;obtain⟨⟨-,C⟩,-,u,r,D⟩:=d;have fin:∀(k:af)(j:co),ay k=true->tEq (tbl h) k.F.Q->0<=j.b1/\j.b1<=5->j.X=h.Y.X->0<=j.b/\j.b<=j.X.T.length->h.G.Calls<=k.Calls/\k.Calls<=h.G.Calls+1/\k.u=h.G.u->JS h k j:=
  λk j S F T U V W=>⟨S,F.1,λ_=>c.pg.tEq F,T,U,V,λ_=>F,W⟩
 have P:=(a7.1 c.ker).2.2.2.2;unfold jstep;split
 ·obtain⟨l,w⟩:=FB c.ker C r (m:=1) (.inl rfl)
  obtain⟨g,t⟩:=xE h.G h.Y.X.a0 1;refine fin _ _ l w ?_ rfl ⟨o,p⟩ ⟨by rw[g];omega,by rw[g];omega,t⟩;show 0<=(if _ then _ else _:Int)/\(if _ then _ else _:Int)<=5;split<;>omega
 split
 ·split
  ·exact fin _ _ c.ker (tEq.refl _) ⟨by show(0:Int)<=2;omega,by show(2:Int)<=5;omega⟩ rfl ⟨o,p⟩ ⟨I6 _,by show h.G.Calls<=h.G.Calls+1;omega,rfl⟩
  have n:=f8 O (i:=h.Y.b.toNat) ω;refine fin _ _ (Ph c.ker r u n) (tEq.refl _) ⟨y,A⟩ rfl ⟨by show 0<=h.Y.b+1;omega,by show h.Y.b+1<=h.Y.X.T.length;omega⟩ ⟨I6 _,by show h.G.Calls<=h.G.Calls+1;omega,rfl⟩
 split
 ·have G:h.Y.X.a0≠h.Y.X.a2:=λe=>D (by rw[e])
  have l:=Qp c.ker C r u G;obtain⟨g,t⟩:=NK h.G h.Y.X.a0 h.Y.X.a2;cases e:(qT h.G h.Y.X.a0 h.Y.X.a2).2 with
  | false=>
   rw[CB (by simp)];refine fin _ _ l (tEq.of ?_) ⟨by show(0:Int)<=3;omega,by show(3:Int)<=5;omega⟩ rfl ⟨o,p⟩ ⟨by rw[g];omega,by rw[g];omega,t⟩;rw[H4 e];rfl
  | true=>
   rw[CD rfl];obtain⟨X,m2,Y,-⟩:=bD c.ker r;obtain⟨n1,n2,Z,-⟩:=bD c.ker u;have f:=E4 c.ker r e;refine⟨l,(f 0).1,λH=>?_,⟨by show(0:Int)<=4;omega,by show(4:Int)<=5;omega⟩,rfl,⟨o,p⟩,λJ=>absurd rfl J,by rw[g];omega,by rw[g];omega,t⟩;have Q:JI h:=H.elim (λJ=>absurd rfl J) id;obtain⟨a,ha,b,hb,K,M,N⟩:=Q.sp B;refine c.pg.on c.L ha hb N (by rw[K];exact Q.sk B) (by rw[K];show(nth h.G.F.Q.K _).j≠0;rw[<-Z];exact u) (by rw[M];show(nth h.G.F.Q.K _).j≠0;rw[<-Y];exact r) (by rw[M];exact X) (f 0).1 λq=>?_
   rw[(f q).2,M,K];rfl
 split
 ·split
  ·rename_i hn0
   have n:=f8 O (i:=(h.Y.b - 1).toNat) ω;have hk0:=(bD c.ker u).1;obtain⟨l,w⟩:=Mj c.ker (a:=h.Y.X.a2*16+nth h.Y.X.T (h.Y.b - 1).toNat) (v:=0) ω ⟨ω,ω⟩;exact fin _ _ l (tEq.of w) ⟨y,A⟩ rfl ⟨by show 0<=h.Y.b - 1;omega,by show h.Y.b - 1<=h.Y.X.T.length;omega⟩ ⟨I6 _,by show h.G.Calls<=h.G.Calls+1;omega,rfl⟩
  obtain⟨l,w⟩:=FB c.ker C r (m:=2) (.inr rfl);obtain⟨g,t⟩:=xE h.G h.Y.X.a0 2;refine fin _ _ l w ?_ rfl ⟨o,p⟩ ⟨by rw[g];omega,by rw[g];omega,t⟩;show 0<=(if _ then _ else _:Int)/\(if _ then _ else _:Int)<=5;split<;>omega
 exact fin _ _ c.ker (tEq.refl _) ⟨y,A⟩ rfl ⟨o,p⟩ ⟨I6 _,by show h.G.Calls<=h.G.Calls+1;omega,rfl⟩
def aU.mStep{h:ab}{E:List Int}(d:aU h E)(f:JI h)(c:h.o=true):aU (mStep h) E/\JI (mStep h):=by
 have s:=JS.of d c;unfold Ab.mStep;generalize (ed h.G h.Y).1=k at s |-;generalize (ed h.G h.Y).2=j at s |-;cases e:over j with
 | true=>
  refine⟨d.step s.ker s.len (s.pg (.inr f)) (λh=>by simp at h) (λ_=>by simp[re]),?_⟩;exact⟨λh=>by simp at h,λh=>by simp at h,λh=>by simp at h,λh=>by simp at h⟩
 | false=>
  simp only[Bool.false_eq_true,if_false];unfold over at e;simp only[Y5,not_or]at e;have g:=s.eq e.1;have i:=s.ph;refine⟨d.step s.ker s.len (s.pg (.inr f)) (λ_=>⟨cN.2 ⟨by rw[s.plan];exact(cN.1 (d.job c).1).1,s.ph.1,s.ph.2,s.nxt⟩,by rw[s.plan];exact(d.job c).2⟩) (λh=>by rw[c]at h;cases h),?_⟩;refine⟨λ_=>⟨s.ph.1,by show j.b1<=3;omega⟩,λ_=>?_,λ_=>?_,λ_=>?_⟩
  ·show ∃a∈h.J,∃b∈h.J,a.R=j.X.a2/\b.R=j.X.a0/\meshable a b=true
   rw[s.plan];exact f.sp c
  ·show oU k.F.Q j.X.a2
   rw[s.plan];exact(f.sk c).tEq g
  show oU k.F.Q j.X.a0;rw[s.plan];exact(f.sm c).tEq g
def eC(k:af)(a:Int):Int:=nth (nth k.F.U.T (ac k.F.Q (a / 16)).d.toNat) (a % 16).toNat
def cellsOf(k:af)(a:Int)(n:Nat):List Int:=(List.range n).map λ(i:Nat)=>eC k (a+i)
def iY(k:af)(a:Int)(n:Nat):(cellsOf k a n).length=n:=by simp[cellsOf]
def DS(k:af)(a:Int)(n:Nat):cellsOf k a (n+1)=cellsOf k a n++[eC k (a+n)]:=by
 unfold cellsOf;rw[List.range_succ,C7];rfl
def Fg(k:af)(a:Int)(b:i<n):(cellsOf k a n)[i]? = some (eC k (a+i)):=by
 unfold cellsOf;rw[Y3,I8 b];rfl
def Fu(b:ay k=true)(p:Int):0<=(ac k.F.Q p).d/\(ac k.F.Q p).d<k.F.U.T.length:=by
 obtain⟨-,c,d,-⟩:=a7.1 b;obtain⟨e,f,g,h⟩:=aO.1 c;unfold ac;split
 ·rename_i i
  have:=(bo.1 d).1 p.toNat ω;unfold kV at this;rw[C0]at this;by_cases a:(nth k.F.Q.K p.toNat).j=0
  ·have:=this.2.2.1 a;omega
  have:=this.2.2.2 a;omega
 simp only;omega
def PJ(a:ay k=true)(b:j<k.F.U.T.length):(nth k.F.U.T j).length=16/\∀i,i<16->0<=nth (nth k.F.U.T j) i/\nth (nth k.F.U.T j) i<=999:=by
 obtain⟨-,c,-⟩:=a7.1 a;obtain⟨e,f,g,d⟩:=aO.1 c;have:=d j b;unfold gT at this;rw[I0,C0,Y4]at this;refine⟨this.1,λi l=>?_⟩;have h:=this.2 _ (am (xs:=nth k.F.U.T j) (i:=i) ω);unfold iZ at h;rw[I0,C0]at h;exact h.1
def Lf(b:ay k=true)(a:Int):0<=eC k a/\eC k a<=999:=by
 obtain⟨c,d⟩:=Fu b (a / 16);exact(PJ b (j:=(ac k.F.Q (a / 16)).d.toNat) ω).2 (a % 16).toNat ω
def Dl(h:ab)(a n:Int)(b:ay h.G=true)(q:0<=a/\a<=1000000)(r:n<=1000000) :
  zzA 90 false [.val (some 24) (ab.enc .W h),.val none [I a],.val none [I n]] .one (aF .own (cellsOf h.G a n.toNat)):=by
 have c:=bj b;refine fO 44 [] Tryz.func90 rfl ?_ (.inr (bM _))
 repeat'(first|refine gP ?_|fail)
 (conv=>whnf)
 refine CG (ι:=Nat) (λi=>[(1,.H .one [I (a)]),(2,.H .one [I (n)]),(3,.H .box (ab.enc .W h)),(7,.H .one (aF .own (cellsOf h.G a i))),(8,.H .one [I ((i:Nat):Int)])]) (λi=>i<=n.toNat) (λi=>n.toNat - i) (0) ?_ (X0 _) λi t=>?_
 ·exact wB
 have d:=iY h.G a i;by_cases u:i<n.toNat
 ·obtain⟨e,w⟩:=Fu b ((a+i) / 16)
  have g:=ao (xs:=h.G.F.U.T) (i:=(ac h.G.F.Q ((a+i) / 16)).d.toNat) ω;have k:=(PJ b (j:=(ac h.G.F.Q ((a+i) / 16)).d.toNat) ω).1;have l:=ao (xs:=nth h.G.F.U.T (ac h.G.F.Q ((a+i) / 16)).d.toNat) (i:=((a+i) % 16).toNat) ω;have o:IntKind.i64.wrap ((a+(i:Int)).tdiv 16)=(a+i) / 16:=by rw[kx ω];exact eX ω ω
  have p:(a+(i:Int)).tmod 16=(a+i) % 16:=dP ω
  repeat'(first|refine gE ?_|(conv=>whnf);first|refine CP (by decide) ?_|refine CO o ?_|refine CS p ?_|refine C9 (dL h.G.F.Q _ c.1.2) ?_|refine CN e (aa g) ?_|refine CN ω (aa l) ?_|refine Ap.sn cz rfl (by simp;omega) (by decide) rfl ?_)
  (conv=>whnf)
  refine CF (i+1) ω ω ?_;rw[DS]
  (repeat'(first|exact trivial|rfl|exact CM rfl (CM (Z0 (C.s dM.own) (by simp[rI,eC])) trivial)|refine CM ?_ ?_))
 repeat'(first|refine gE ?_|fail)
 obtain rfl:i=n.toNat:=ω
 rfl
def DB(h:(denotes sp la a).b6=1):∃i:Nat,i<sp.length/\(denotes sp la a).c3=i/\di (nth sp i) a=true/\denotes sp la a=nI i (nth sp i) a:=by
 unfold denotes at h |-;cases e:sp.findIdx? (di · a) with
 | some i=>
  obtain⟨b,d,-⟩:=S8.1 e;refine⟨i,b,rfl,?_,rfl⟩;rw[bh (X2 b)];exact d
 | none=>
  rw[e]at h;simp only at h;cases c:la.findIdx? (bH · a) with
  | some i=>rw[c]at h;simp at h
  | none=>rw[c]at h;simp at h
def FS(h:(denotes sp la a).b6=3):∃i:Nat,i<la.length/\(denotes sp la a).c3=i/\bH (nth la i) a=true/\denotes sp la a = ⟨3,i,0,a - 16*(nth la i).R⟩:=by
 unfold denotes at h |-;cases e:sp.findIdx? (di · a) with
 | some i=>
  rw[e]at h;simp only[nI]at h;split at h<;>simp at h
 | none=>
  rw[e]at h;simp only at h |-;cases b:la.findIdx? (bH · a) with
  | some i=>
   obtain⟨c,d,-⟩:=S8.1 b;refine⟨i,c,rfl,?_,rfl⟩;rw[bh (X2 c)];exact d
  | none=>rw[b]at h;simp at h
def iO{n:Int}(h:0<=aL n):1<=n/\n<=8:=by
 unfold aL at h;split at h
 ·omega
 split at h
 ·omega
 split at h
 ·omega
 split at h
 ·omega
 split at h<;>omega
def RE{o:bu}(c:ju h o=true):0<=o.Addr/\o.Addr<=2000/\1<=o.q/\o.q<=1000:=by
 unfold ju at c;simp only[I0,W7,C0]at c;obtain⟨-,⟨d,e⟩|⟨d,e⟩⟩:=c
 ·obtain⟨i,f,a,b,-⟩:=DB d
  rw[a,O3]at e;unfold di bf at b;simp only[I0,C0]at b;have:=iO (n:=o.q) ω;omega
 obtain⟨i,f,a,b,-⟩:=FS d;rw[a,O3]at e;unfold bH bL at b;simp only[I0,C0]at b;omega
def xq(a:cJ h=true):cu h=true/\gt h=true:=by
 unfold cJ at a;simp only[I0]at a;exact⟨a.1.1.2,a.1.2.1⟩
def Kq(a:cJ h=true):1<=h.b/\h.b<=1000000:=by
 have:=(xq a).1;unfold cu at this;rw[C0]at this;omega
def wV(c:cJ h=true)(f:i<h.O.length):1<=(nth h.O i).Id/\(nth h.O i).Id<h.b/\0<=(nth h.O i).Addr/\(nth h.O i).Addr<=2000/\1<=(nth h.O i).q/\(nth h.O i).q<=1000/\∀j,j<i->(nth h.O j).Id≠(nth h.O i).Id:=by
 obtain⟨-,g⟩:=xq c;obtain⟨o,p⟩:=Kq c;have a:=fk g f;rw[eX ω ω]at a;unfold objAt io at a;simp only[I0,C0,Bool.not_eq_true']at a;obtain⟨⟨k,d⟩,l⟩:=a;have b:=RE l;refine⟨k.2.1,ω,b.1,b.2.1,b.2.2.1,b.2.2.2,λj n e=>?_⟩;rw[List.any_eq_false]at d;refine d (nth h.O j) ?_ (by unfold gd;exact O0 e);have:(h.O.take i)[j]? = some (nth h.O j):=by rw[List.getElem?_take,CD n,ao ω]
 exact O2 this
def Tv(a:cJ h=true)(c:i<h.O.length)(d:j<h.O.length)(f:i≠j):(nth h.O i).Id≠(nth h.O j).Id:=by
 rcases Nat.lt_or_ge i j with b|b
 ·exact(wV a d).2.2.2.2.2.2 i b
 exact λe=>(wV a c).2.2.2.2.2.2 j ω e.symm
def AF(cs:List Int):Nat->Int
 | 0=>0
 | n+1=>(AF cs n+(n+1)*nth cs n) % 9973
def Rr(cs:List Int):∀n,0<=AF cs n/\AF cs n<=9972
 | 0=>by simp[AF]
 | n+1=>by simp only[AF];omega
def pX(k:af)(o:bu):dm:=⟨o.Id,o.q,AF (cellsOf k o.Addr o.q.toNat) o.q.toNat⟩
def ix(h:ab):Nat->List dm
 | 0=>[]
 | n+1=>ix h n++(h.O.filter (gd n)).map (pX h.G)
def pC{h:ab}{x:dm} : ∀{n:Nat},x∈ix h n↔∃o∈h.O,(∃m:Nat,m<n/\o.Id=m)/\pX h.G o=x
 | 0=>by simp[ix]
 | n+1=>by
  rw[ix,W3,pC,O5];simp only[V5,gd,C0];constructor
  ·rintro(⟨o,a,⟨m,d,b⟩,c⟩|⟨o,⟨a,d⟩,b⟩)
   ·exact⟨o,a,⟨m,ω,b⟩,c⟩
   exact⟨o,a,⟨n,ω,d⟩,b⟩
  rintro⟨o,a,⟨m,d,b⟩,c⟩
  rcases Nat.lt_or_ge m n with e|e
  ·exact .inl ⟨o,a,⟨m,e,b⟩,c⟩
  obtain rfl:m=n:=ω
  exact .inr ⟨o,⟨a,b⟩,c⟩
def KO(b:cJ h=true):∀o∈h.O,1<=o.Id/\o.Id<h.b:=λo c=>by
 obtain⟨j,a⟩:=List.mem_iff_getElem?.1 c;have:=wV b (Z2.1 a).1;rw[bh a]at this;exact⟨this.1,this.2.1⟩
def tg(n:Nat):∀(l:List bu),(l.filter λo:bu=>decide (o.Id<((n+1:Nat):Int))).length=(l.filter λo:bu=>decide (o.Id<(n:Int))).length+(l.filter (gd n)).length
 | []=>rfl
 | o::l=>by
  have a:=tg n l;simp only[List.filter_cons];rcases Int.lt_trichotomy o.Id n with h|h|h
  ·rw[CD (by simp;omega),CD (by simp;omega),CB (by simp[gd];omega)]
   simp only[List.length_cons];omega
  ·rw[CD (by simp;omega),CB (by simp;omega),CD (by simp[gd];omega)]
   simp only[List.length_cons];omega
  rw[CB (by simp;omega),CB (by simp;omega),CB (by simp[gd];omega)];exact a
def vP{h:ab}(a:∀o∈h.O,0<=o.Id):∀n:Nat,(ix h n).length=(h.O.filter λo:bu=>decide (o.Id<(n:Int))).length
 | 0=>by
  rw[List.filter_eq_nil_iff.2 (λo b=>by have:=a o b;simp;omega)];rfl
 | n+1=>by
  rw[ix,Z3,I1,vP a n,tg]
def gN(h:ab):List dm:=if cJ h then ix h h.b.toNat else []
def US{α:Type}[Inhabited α](f:α->Int)(xs:List α):Nat->Int
 | 0=>0
 | i+1=>US f xs i+f (nth xs i)
def bor(n m:Int):Int:=((n.toNat ||| m.toNat:Nat):Int)
def sR(sp:List au)(p:Int)(b:Int):Nat->Int
 | 0=>b
 | j+1=>if(nth sp j).R=p then bor (sR sp p b j) (nth sp j).b2 else sR sp p b j
def kR(sp:List au)(ps:List Int)(b:Int):Nat->Int
 | 0=>b
 | k+1=>sR sp (nth ps k) (kR sp ps b k) sp.length
def iI(h:ab)(i:Nat):Int:=kR h.J (aY h (nth h.J i).R) (nth h.J i).b2 (aY h (nth h.J i).R).length
def Nu{n:Int}(h1:0<=n/\n<=65535)(a:0<=m/\m<=65535):0<=bor n m/\bor n m<=65535:=by
 have b:n.toNat ||| m.toNat<2 ^ 16:=Nat.or_lt_two_pow ω ω
 unfold bor;omega
def wJ(h:∀s∈sp,bf s=true)(b:j<sp.length):0<=(nth sp j).b2/\(nth sp j).b2<=65535:=by
 have a:=h _ (am b);have c:=Jb (nth sp j).e;unfold bf at a;rw[C0]at a;omega
def wZ{sp:List au}(h:∀s∈sp,bf s=true){p b:Int}(a:0<=b/\b<=65535):∀j,j<=sp.length->0<=sR sp p b j/\sR sp p b j<=65535
 | 0,_=>a
 | j+1,d=>by
  have c:=wZ h (p:=p) a j ω;simp only[sR];split
  ·exact Nu c (wJ h ω)
  exact c
def sP{sp:List au}(h:∀s∈sp,bf s=true){ps:List Int}{b:Int}(a:0<=b/\b<=65535):∀k,0<=kR sp ps b k/\kR sp ps b k<=65535
 | 0=>a
 | k+1=>by simp only[kR];exact wZ h (sP h a k) _ (X3 _)
def ow{i:Int}(a:0<=b)(c:0<=i/\i<=15):aX b i=b.toNat.testBit i.toNat:=by
 unfold aX;rw[Nat.testBit_eq_decide_div_mod_eq];refine decide_eq_decide.2 ?_;obtain⟨n,rfl⟩ : ∃n:Nat,b=n:=⟨b.toNat,ω⟩
 rw[O3];have d:((n / 2 ^ i.toNat:Nat):Int)=(n:Int) / 2 ^ i.toNat:=by simp
 omega
def Jj{n i:Int}(b:0<=n)(c:0<=m)(a:0<=i/\i<=15):aX (bor n m) i=(aX n i || aX m i):=by
 rw[ow (by unfold bor;omega) a,ow b a,ow c a];unfold bor;rw[O3,Nat.testBit_or]
def FI{sp:List au}(h:∀s∈sp,bf s=true){p b i:Int}(k:0<=b/\b<=65535)(l:0<=i/\i<=15):∀j,j<=sp.length->(aX (sR sp p b j) i=true↔aX b i=true\/∃q,q<j/\(nth sp q).R=p/\aX (nth sp q).b2 i=true)
 | 0,_=>by simp[sR]
 | j+1,t=>by
  have n:=FI h (p:=p) k l j ω;have o:=wZ h (p:=p) k j ω;have r:=wJ h (j:=j) ω;simp only[sR];split
  ·rename_i d
   rw[Jj o.1 r.1 l,W7,n];constructor
   ·rintro((e|⟨q,f,a⟩)|e)
    ·exact .inl e
    ·exact .inr ⟨q,ω,a⟩
    exact .inr ⟨j,ω,d,e⟩
   rintro(e|⟨q,f,a,c⟩)
   ·exact .inl (.inl e)
   by_cases g:q=j
   ·subst g;exact .inr c
   exact .inl (.inr ⟨q,ω,a,c⟩)
  rename_i d;rw[n];constructor
  ·rintro(e|⟨q,f,a⟩)
   ·exact .inl e
   exact .inr ⟨q,ω,a⟩
  rintro(e|⟨q,f,a,c⟩)
  ·exact .inl e
  by_cases g:q=j
  ·subst g;exact absurd a d
  exact .inr ⟨q,ω,a,c⟩
def AO{sp:List au}(h:∀s∈sp,bf s=true){ps:List Int}{b i:Int}(d:0<=b/\b<=65535)(f:0<=i/\i<=15):∀k,(aX (kR sp ps b k) i=true↔aX b i=true\/∃u,u<k/\∃q,q<sp.length/\(nth sp q).R=nth ps u/\aX (nth sp q).b2 i=true)
 | 0=>by simp[kR]
 | k+1=>by
  have g:=AO h (ps:=ps) d f k;have j:=sP h (ps:=ps) d k;simp only[kR];rw[FI h j f _ (X3 _),g];constructor
  ·rintro((e|⟨u,c,a⟩)|⟨q,c,a⟩)
   ·exact .inl e
   ·exact .inr ⟨u,ω,a⟩
   exact .inr ⟨k,ω,q,c,a⟩
  rintro(e|⟨u,c,a⟩)
  ·exact .inl (.inl e)
  by_cases l:u=k
  ·subst l;exact .inr a
  exact .inl (.inr ⟨u,ω,a⟩)
end Go.Proofs.YtiopgblagimpmaaGreat.Ab
