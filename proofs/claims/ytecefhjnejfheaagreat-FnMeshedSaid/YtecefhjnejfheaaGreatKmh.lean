/- Whether a heap holds the objects of the reference's list: contracts, the reference's and the program's. No condition. -/
import Derived.Test.YtecefhjnejfheaaGreatKmd
import Derived.Test.YtecefhjnejfheaaGreatKmg
import Derived.Test.YtecefhjnejfheaaGreatKme
import Derived.Test.YtecefhjnejfheaaGreatKmf
set_option linter.unusedVariables false
set_option linter.defProp false
set_option linter.unusedSimpArgs false
set_option linter.constructorNameAsVariable false
namespace Go.Proofs.YtecefhjnejfheaaGreat.Ab
open Go.RowKit
set_option maxRecDepth 20000
set_option maxHeartbeats 4000000
def RB{h:ab}(f:dA h=true){z:Int}{k:Nat}(b:k<h.O.length):(nth h.O k).Id=z↔dH (fp z) h.O=(k:Nat):=by
 constructor
 ·rintro rfl
  refine dI (ao b) (by unfold fp;simp) λj y i c=>?_
  have a:=(O2.1 c).1;have:=Pi f a b ω;rw[bm c]at this;unfold fp;exact U0 this
 intro e;rcases mu (fp z) h.O with g|⟨n,l,g,d⟩
 ·omega
 obtain rfl:n=k:=ω
 unfold fp at d;simpa using d
def uW{h:ab}(a:dA h=true){i:Nat}(b:i<h.O.length):0<=(nth h.O i).Addr/\(nth h.O i).Addr<=2000/\1<=(nth h.O i).u/\(nth h.O i).u<=1000:=by
 obtain⟨g,j,c,d,e,f,-⟩:=BZ a b;exact⟨c,d,e,f⟩
def fT(h:ab)(k:Nat):List Int:=cellsOf h.G (nth h.O k).Addr (nth h.O k).u.toNat
def sg{h:ab}(a:dA h=true){k:Nat}(b:k<h.O.length):(fT h k).length<=1000:=by
 have:=uW a b;unfold fT;rw[gR];omega
def xH(o:bt)(z:Int):ar Tryz.prog 86 false [.val (some 4) (bt.enc .X o),.ptr [I z]] .one [B (fp z o)]:=by
 refine fO 8 [] Tryz.func86 rfl ?_
 repeat'(first|refine gP ?_|fail)
 exact X0 (λz=>[B z]) ((by unfold fp;rw[Y4];simp))
def EB(h:ab)(z:Int)(n:Nat)(b:ab.sml h)(a:dA h=true)(c:n<h.O.length)(g:dH (fp z) h.O=(n:Nat)):ar Tryz.prog 29 false [.val (some 24) (ab.enc .X h),.val none [I z]] (.tup [none,none]) [.s .own ((fT h n).map (rI .own)),B true]:=by
 have d:=gX h b;rw[jM,a]at d;have i:h.O.length<=1048576:=b.2.2.2.2.1.1;have p:=uW a c;have j:=Dw h (nth h.O n).Addr (nth h.O n).u (sw a) ω ω;have l:=ao c;have e:=qF h.O (fp z) ω;rw[g]at e;refine fO 32 [(4,13,[18,19,20,21,22,23,24,25,26,27,28,29,30])] Tryz.func29 rfl ?_ (.inr ⟨⟨.inl λh=>(by cases h),bf _ _ λy _=>oy y⟩,trivial,trivial⟩)
 repeat'(first|refine gE ?_|(conv=>whnf);refine Cq.mk (Al (some 4) (bt.enc .X) (fp z) h.O) (xH default z).has (λL k rcs o=>?_) ?_)
 ·obtain⟨y,-,rfl,rfl,rfl⟩:=o
  exact xH y z
 rfl
def or64{z1 z2:Int}(h1:0<=z1/\z1<=65535)(a:0<=z2/\z2<=65535):IntKind.i64.wrap ((BitVec.ofInt IntKind.i64.bits z1 ||| BitVec.ofInt IntKind.i64.bits z2).toNat:Nat)=bor z1 z2:=by
 rw[BitVec.toNat_or,nr ω,nr ω];have b:=MF h1 a;unfold bor at b |-;exact eP ω ω
def zS(h:ab)(i:Nat)(n:dS h.K)(d:yN h)(a:∀s∈h.K,bg s=true)(y:i<h.K.length):ar Tryz.prog 482 false [.val (some 24) (ab.enc .X h),.val none [I (i:Nat)]] .one [I (i9 h i)]:=by
 have F:=n.1;have G:=ao y;have g:=wN a y;have B:=aH ((i:Nat):Int) 0 ((h.K.length:Int) - 1);rw[O0 (show(0:Int)<=(i:Nat)/\((i:Nat):Int)<=(h.K.length:Int) - 1 by omega)]at B;have C:=iF h (nth h.K i).R d;have o:=gw h (nth h.K i).R;have H:eQ h<=1048576:=d.1;have c:i9 h i=kJ h.K (aX h (nth h.K i).R) (nth h.K i).b2 (aX h (nth h.K i).R).length:=rfl;obtain⟨ps,q⟩ : ∃ps,aX h (nth h.K i).R=ps:=⟨_,rfl⟩
 obtain⟨b,r⟩ : ∃b,(nth h.K i).b2=b:=⟨_,rfl⟩
 rw[q]at C o c;rw[r]at c g;rw[c];have J:kJ h.K ps b 0=b:=rfl;refine fO 63 [(4,7,[22,23,24,25,26,27,28]),(11,10,[43,44,45,46,47,48,49,50,51,52])] Tryz.func482 rfl ?_
 repeat'(first|refine gP ?_|(conv=>whnf);first|with_reducible refine CD (aa G) ?_|refine C8 (B) ?_|refine C8 (C) ?_)
 (conv=>whnf)
 refine CF (ι:=Nat) (λu=>[(2,.H .box (ab.enc .X h)),(5,.H .one [I (kJ h.K ps b u)]),(6,.H .one (aD .own ps)),(7,.H .one [I ((u:Nat):Int)])]) (λu=>u<=ps.length) (λu=>ps.length - u) (0) ?_ (W0 _) λu M=>?_
 ·exact wB
 by_cases K:u<ps.length
 ·have l:=ao K
  have t:=tA a (ps:=ps) g u
  repeat'(first|refine gE ?_|fail)
  (conv=>whnf)
  refine CF (ι:=Nat) (λj=>[(2,.H .box (ab.enc .X h)),(5,.H .one [I (sS h.K (nth ps u) (kJ h.K ps b u) j)]),(6,.H .one (aD .own ps)),(7,.H .one [I ((u:Nat):Int)]),(8,.H .one [I ((j:Nat):Int)])]) (λj=>j<=h.K.length) (λj=>h.K.length - j) (0) ?_ (W0 _) λj L=>?_
  ·exact wB
  by_cases D:j<h.K.length
  ·have E:=ao D
   have w:=wJ a (p:=nth ps u) t j L;by_cases e:(nth h.K j).R=nth ps u
   ·have k:sS h.K (nth ps u) (kJ h.K ps b u) (j+1)=bor (sS h.K (nth ps u) (kJ h.K ps b u) j) (nth h.K j).b2:=CB e
    repeat'(first|refine gB ?_|(conv=>whnf);refine CN (or64 w (wN a D)) ?_)
    ((conv=>whnf);refine CE (j+1) ω ω ?_;(exact wB))
   have k:sS h.K (nth ps u) (kJ h.K ps b u) (j+1)=sS h.K (nth ps u) (kJ h.K ps b u) j:=C9 e
   repeat'(first|refine gB ?_|(conv=>whnf);first|with_reducible (first|refine CD (aa l) ?_|refine CD (aa E) ?_)|refine CJ rfl (aa l) rfl ?_)
   ((conv=>whnf);refine CE (j+1) ω ω ?_;(exact wB))
  obtain rfl:j=h.K.length:=ω
  repeat'(first|refine gE ?_|fail)
  ((conv=>whnf);refine CE (u+1) ω ω ?_;(exact wB))
 obtain rfl:u=ps.length:=ω
 repeat'(first|refine gE ?_|fail)
 rfl
def uE{xs:List bt}(h:∀o∈xs,0<=o.u/\o.u<=1000):∀k:Nat,k<=xs.length->0<=u5 xs k/\u5 xs k<=1000*k
 | 0,_=>⟨v5 _,v5 _⟩
 | k+1,a=>by
  have b:=uE h k ω;have c:=h _ (am (xs:=xs) (i:=k) ω);simp only[u5];omega
def yh(h:ab)(a:∀o∈h.O,0<=o.u/\o.u<=1000)(e:h.O.length<=1048576):ar Tryz.prog 20 false [.val (some 24) (ab.enc .X h)] .one [I (ui h)]:=by
 refine fO 21 [] Tryz.func20 rfl ?_
 repeat'(first|refine gP ?_|fail)
 (conv=>whnf)
 refine CF (ι:=Nat) (λk=>[(1,.H .box (ab.enc .X h)),(3,.H .one [I (u5 h.O k)]),(4,.H .one [I ((k:Nat):Int)])]) (λk=>k<=h.O.length) (λk=>h.O.length - k) (0) ?_ (W0 _) λk c=>?_
 ·exact wB
 have g:=uE a k c;by_cases b:k<h.O.length
 ·have d:=ao b
  have i:=a _ (am b)
  repeat'(first|refine gE ?_|(conv=>whnf);refine CD (aa d) ?_)
  ((conv=>whnf);refine CE (k+1) ω ω ?_;(exact wB))
 obtain rfl:k=h.O.length:=ω
 repeat'(first|refine gE ?_|fail)
 rfl
def yg(k b:Int)(h:b<=9223372036854775807):ar Tryz.prog 481 false [.val none [I (slots k)],.val none [I b]] .one (aD .own (rp k b)):=by
 have c:=qW k b;have p:0<=slots k/\slots k<=16:=by unfold slots;repeat' split<;>omega
 unfold rp;cases e:Nr k b<;>rw[e]at c
 ·rw[C9 (by simp)]
  refine fO 27 [] Tryz.func481 rfl ?_ (.inr (bH _))
  repeat'(first|refine gP ?_|fail)
  (conv=>whnf)
  refine CF (ι:=Nat) (λj=>[(0,.H .one [I (slots k)]),(1,.H .one [I (b)]),(5,.H .one (aD .own [])),(6,.H .one [I ((j:Nat):Int)])]) (λj=>j=0) (λj=>1 - j) (0) ?_ (rfl) λj g=>?_
  ·exact wB
  subst g
  repeat'(first|refine gE ?_|(conv=>whnf);with_reducible refine Bf.D (λi=>?_) (λi=>?_))
  all_goals rfl
 rw[CB rfl];refine fO 27 [] Tryz.func481 rfl ?_ (.inr (bH _))
 repeat'(first|refine gP ?_|fail)
 (conv=>whnf)
 refine CF (ι:=Nat) (λj=>[(0,.H .one [I (slots k)]),(1,.H .one [I (b)]),(5,.H .one (aD .own (oY b j))),(6,.H .one [I ((j:Nat):Int)])]) (λj=>j<=(slots k).toNat) (λj=>(slots k).toNat - j) (0) ?_ (W0 _) λj g=>?_
 ·exact wB
 have l:=ur b j;by_cases q:j<(slots k).toNat
 ·have d:=iY b (j:Nat) h
  have a:oY b (j+1)=if aU b (j:Nat)=true then oY b j else oY b j++[((j:Nat):Int)]:=rfl
  cases n:aU b (j:Nat)<;>rw[n]at d a
  ·rw[C9 (by simp)]at a
   repeat'(first|refine gE ?_|(conv=>whnf);refine CU co (λr o=>by rw[O1.1 o];rfl) (by simp[aZ,eD]) (by simp;omega) (by simp only[C1];exact zh (by simp;omega) (by decide)) rfl ?_)
   ((conv=>whnf);refine CE (j+1) ω ω ?_)
   rw[a]
   repeat'(first|exact trivial|rfl|exact CL rfl (CL (X0 (C.s dY.own) (by simp[rI])) trivial)|refine CL ?_ ?_)
  rw[CB rfl]at a
  repeat'(first|refine gE ?_|(conv=>whnf);first|refine C8 (c) ?_|refine C8 (d) ?_)
  ((conv=>whnf);refine CE (j+1) ω ω ?_)
  rw[a];exact wB
 obtain rfl:j=(slots k).toNat:=ω
 repeat'(first|refine gE ?_|fail)
 rfl
def Lo(b i:Int):bor b (2 ^ i.toNat)=iu b i:=by
 unfold bor iu;have:((2 ^ i.toNat:Nat):Int)=(2:Int) ^ i.toNat:=Int.natCast_pow 2 i.toNat;rw[<-this,X2]
def zr(b i:Int)(d:0<=b/\b<=65535)(a:0<=i/\i<=15):ar Tryz.prog 484 false [.val none [I b],.val none [I i]] .one [I (iu b i)]:=by
 have c:=qd b i;rw[O0 ω]at c;have e:IntKind.u64.wrap i=i:=by unfold IntKind.wrap;simp[IntKind.signed,IntKind.bits];omega
 have h:=(shl64 a).2;have g:=(or64 (z1:=b) (z2:=2 ^ i.toNat) d ω).trans (Lo b i);refine fO 15 [] Tryz.func484 rfl ?_
 repeat'(first|refine gP ?_|(conv=>whnf);first|refine CO ω ?_|refine CN e ?_|refine CN (shl64 a).1 ?_|refine CN g ?_)
 rfl
def M7{s:ax}(b:bg s=true){k:Int}(d:0<=k/\k<slots s.d):0<=k*csz s.d/\k*csz s.d<=15:=by
 have a:=aF b;have c:=ij a.2.2;rcases bP a.2.2 with e|e|e|e<;>rw[e]at c |-<;>omega
def Ac(s:ax)(k:Int)(a:bg s=true)(d:0<=k/\k<slots s.d):ar Tryz.prog 485 false [.val (some 3) (ax.enc .X s),.val none [I k]] .one [I (16*s.R+k*csz s.d)]:=by
 have e:=aF a;have i:=M7 a d;have j:=ij e.2.2;have b:=gM s;rw[a]at b;have g:=nN s.d;have c:=aH k 0 (slots s.d - 1);rw[O0 ω]at c;have h:=ef s.d;refine fO 26 [(3,8,[17,18,19,20,21,22,23,24])] Tryz.func485 rfl ?_
 repeat'(first|refine gP ?_|(conv=>whnf);first|refine C8 (b) ?_|refine C8 (g) ?_|refine C8 (c) ?_|refine C8 (h) ?_|refine CC ?_)
 exact X0 (λz=>[I z]) ω
def DB(f:aV)(g:f.a3.length<=1048576):ar Tryz.prog 486 false [.val (some 2) (aV.enc .X f)] .one [I (dH (λu=>!u) f.a3)]:=by
 refine fO 18 [] Tryz.func486 rfl ?_
 repeat'(first|refine gP ?_|fail)
 (conv=>whnf)
 refine CF (ι:=Nat) (λi=>[(1,.H .box (aV.enc .X f)),(3,.H .one [I ((i:Nat):Int)])]) (λi=>i<=f.a3.length/\∀(j:Nat)(z:Bool),j<i->f.a3[j]? = some z->(!z)=false) (λi=>f.a3.length - i) (0) ?_ (⟨W0 _,λj z h=>ω⟩) λi c=>?_
 ·exact wB
 obtain⟨c,b⟩:=c;by_cases d:i<f.a3.length
 ·have a:=ao d
  cases e:nth f.a3 i<;>rw[e]at a
  ·repeat'(first|refine gE ?_|(conv=>whnf);with_reducible refine CD (aa a) ?_)
   exact X0 (λz=>[I z]) (dI a rfl b).symm
  repeat'(first|refine gE ?_|(conv=>whnf);with_reducible refine CD (aa a) ?_)
  ((conv=>whnf);refine CE (i+1) ⟨ω,dz a rfl b⟩ ω ?_;(exact wB))
 repeat'(first|refine gE ?_|fail)
 exact X0 (λz=>[I z]) (gv ω b).symm
def ot(m:aK):∀(n i:Nat),i<n->((nth m.U i).length:Int)+(nth m.a1 i).length<=bx m n/\0<=bx m n
 | 0,i,h=>absurd h (Nat.not_lt_zero i)
 | n+1,i,h=>by
  have a:0<=bx m n:=by
   cases n with
   | zero=>exact v5 _
   | succ k=>exact(ot m (k+1) 0 ω).2
  simp only[bx];by_cases e:i=n
  ·subst e;omega
  have:=(ot m n i ω).1;omega
structure ku(m:aK):Prop where
 b4:1<=m.U.length/\m.U.length<=4
 i4:m.a1.length=m.U.length
 bl:∀i,i<m.U.length->(nth m.U i).length<=30
 il:∀i,i<m.U.length->(nth m.a1 i).length<=30
def ku.of{m:aK}(h:bO m=true):ku m:=by
 obtain⟨⟨b,c,d⟩,-,e⟩:=dR.1 h;exact⟨⟨b,c⟩,d,λi a=>by have:=(ot m m.U.length i a).1;omega,λi a=>by have:=(ot m m.U.length i a).1;omega⟩
def ku.sml{m:aK}(h:ku m):aK.sml m:=by
 have c:=h.b4;have d:=h.i4;refine⟨⟨ω,λl a=>?_⟩,⟨ω,λl a=>?_⟩⟩
 ·obtain⟨i,b,rfl⟩:=aL a
  have:=h.bl i b;exact⟨ω,λ_ _=>trivial⟩
 obtain⟨i,b,rfl⟩:=aL a;have:=h.il i ω;show(nth m.a1 i).length<=1048576;omega
def tt(m:aK)(k:Int)(a:aK.sml m):ar Tryz.prog 569 false [.val (some 2) (aK.enc .X m),.val none [I k]] .one [B (bO m&&decide (0<=k/\k<=m.U.length - 1))]:=by
 have b:=mj m a;have c:m.U.length<=1048576:=a.1.1;cases e:bO m<;>rw[e]at b
 all_goals
  refine fO 15 [] Tryz.func569 rfl ?_
  repeat'(first|refine gP ?_|(conv=>whnf);refine C8 (aH k 0 (m.U.length - 1:Int)) ?_)
  all_goals rfl
def Tb{m:aK}{f:Nat}(a:f<m.U.length):m.U[f]? = some (nth m.U f):=ao a
def Ld(m:aK)(f:Nat)(p:dx):aK.enc .own (iy m f p)=[.s .own ((m.U.map (cN .own)).set f (cN .own (nth m.U f++[p]))),.s .own (m.a1.map (aD .own))]:=by simp[aK.enc,iy,I6]
def K6{m:aK}(h:ku m){f:Nat}(c:f<m.U.length)(p:dx):aK.sml (iy m f p):=by
 have d:=h.b4;have b:=h.sml;refine⟨⟨by simp only[iy,U1];omega,λl a=>?_⟩,b.2⟩;rcases V6 a with a|rfl
 ·exact b.1.2 l a
 have:=h.bl f c;exact⟨by simp;omega,λ_ _=>trivial⟩
def Lt(m:aK)(f:Nat)(p:dx)(j:bO m=true)(g:f<m.U.length):ar Tryz.prog 561 false [.val (some 2) (aK.enc .X m),.val none [I (f:Nat)],.val (some 2) (dx.enc .X p)] (.tup [some 2,none]) (aK.enc .own (if bO (iy m f p)=true then iy m f p else m)++[B (bO (iy m f p))]):=by
 have c:=ku.of j;have k:=c.sml;have q:=c.b4;have h:=tt m f k;rw[j,O0 ω]at h;have l:=gl m k;have b:=K6 c g p;have i:=mj (iy m f p) b;have n:=gl (iy m f p) b;have a:=Tb g;have o:=c.bl f g;have d:=aK.enc_fz (iy m f p);rw[Ld]at d;cases e:bO (iy m f p)<;>rw[e]at i
 ·rw[C9 (by simp)]
  refine fO 35 [(4,267,[16,17,18,19,20,21,22,23,24,25,27,0,1,2,3,4,5,6,7,8,9,10,1000,1001,1002,11,12])] Tryz.func561 rfl ?_ (.inr (aI (aK.enc_fr _) ⟨trivial,trivial⟩))
  repeat'(first|refine gP ?_|(conv=>whnf);first|refine CD (gT a) ?_|refine Lq.one rfl rfl (aa a) rfl (I1 rfl) rfl rfl ?_|refine CQ rfl rfl (gT a) rfl (I1 rfl) (show [C.s dY.own ((m.U.map (cN .own)).set f (cN .own (nth m.U f++[p]))),C.s .own (m.a1.map (aD .own))]=_ from by simp only[List.set_cons_zero,List.set_set,X2];rfl) ?_|refine Ap.sm (aP λ_=>rfl) rfl (by simp;omega) (by decide) (gu _ _ _) ?_|refine CG (i) ⟨⟨rfl,d⟩,trivial⟩ ?_)
  rfl
 rw[CB rfl];refine fO 35 [(4,267,[16,17,18,19,20,21,22,23,24,25,27,0,1,2,3,4,5,6,7,8,9,10,1000,1001,1002,11,12])] Tryz.func561 rfl ?_ (.inr (aI (aK.enc_fr _) ⟨trivial,trivial⟩))
 repeat'(first|refine gP ?_|(conv=>whnf);first|refine CD (gT a) ?_|refine Lq.one rfl rfl (aa a) rfl (I1 rfl) rfl rfl ?_|refine CQ rfl rfl (gT a) rfl (I1 rfl) (show [C.s dY.own ((m.U.map (cN .own)).set f (cN .own (nth m.U f++[p]))),C.s .own (m.a1.map (aD .own))]=_ from by simp only[List.set_cons_zero,List.set_set,X2];rfl) ?_|refine Ap.sm (aP λ_=>rfl) rfl (by simp;omega) (by decide) (gu _ _ _) ?_|refine CG (i) ⟨⟨rfl,d⟩,trivial⟩ ?_|refine CG (n) ⟨⟨rfl,d⟩,trivial⟩ ?_)
 rfl
def HF(m:aK)(f:Int)(a:bO m=true)(d:¬(0<=f/\f<=m.U.length - 1)):ar Tryz.prog 533 false [.val (some 2) (aK.enc .X m),.val none [I f]] (.tup [some 2,none]) (aK.enc .own m++[B false]):=by
 have e:=ku.of a;have b:=e.sml;have c:=tt m f b;rw[a,U0 d]at c;have g:=gl m b;refine fO 60 [(5,267,[31,32,33,34,35,36,37,38,39,40,42,0,1,2,3,4,5,6,7,8,9,10,1000,1001,1002,11,12]),(6,270,[43,44,45,46,47,48,49,50,51,52,53,54,55,57,0,1,2,3,4,5,6,7,8,9,10,11,12,13,1000,1001,1002,1003,14,15])] Tryz.func533 rfl ?_ (.inr (aI (aK.enc_fr _) ⟨trivial,trivial⟩))
 repeat'(first|refine gP ?_|(conv=>whnf);first|refine CC ?_|refine C8 (c) ?_|refine C8 (g) ?_)
 rfl
def Hb(m:aK)(f t:Nat)(a:(nth (nth m.U f) 0).To=t):aK.enc .own (gj m f)=[.s .own ((m.U.map (cN .own)).set f [.s .own (((nth m.U f).drop 1).map (dx.enc .X))]),.s .own ((m.a1.map (aD .own)).set t (aD .own (nth m.a1 t++[(nth (nth m.U f) 0).Addr])))]:=by
 unfold aK.enc gj;simp only[I6,a,X2]
 rfl
def FE(m:aK)(f:Nat)(h:bO m=true)(i:f<m.U.length):ar Tryz.prog 533 false [.val (some 2) (aK.enc .X m),.val none [I (f:Nat)]] (.tup [some 2,none]) (aK.enc .own (if 0<(nth m.U f).length then gj m f else m)++[B (decide (0<(nth m.U f).length))]):=by
 have d:=ku.of h;have u:=d.sml;have K:=d.b4;have D:=d.i4;have j:=tt m f u;rw[h,O0 ω]at j;have w:=gl m u;have a:=Tb i;have F:=d.bl f i;by_cases e:0<(nth m.U f).length
 ·rw[CB e,O0 e]
  have g:=((dR.1 h).2.1 f i).1 _ (am e);obtain⟨t,k⟩:=Z2 g.1;have l:t<m.a1.length:=ω
  have y:=ao e;have c:=ao l;have G:=d.il t ω;have n:=(ku.of (FW h i e)).sml;have H:=gl (gj m f) n;have o:=aK.enc_fz (gj m f);rw[Hb m f t k]at o;have q:=aI (b:=[B true]) (aK.enc_fr (gj m f)) ⟨trivial,trivial⟩;generalize L:nth (nth m.U f) 0=p at *;obtain⟨M,J⟩:=p;simp only at k g o;subst k;refine fO 60 [(5,267,[31,32,33,34,35,36,37,38,39,40,42,0,1,2,3,4,5,6,7,8,9,10,1000,1001,1002,11,12]),(6,270,[43,44,45,46,47,48,49,50,51,52,53,54,55,57,0,1,2,3,4,5,6,7,8,9,10,11,12,13,1000,1001,1002,1003,14,15])] Tryz.func533 rfl ?_ (.inr q)
  repeat'(first|refine gB ?_|(conv=>whnf);first|refine CD (gT c) ?_|refine Lq.one rfl rfl (aa c) rfl (I1 rfl) rfl rfl ?_|refine Sl.suf 1 rfl (by rw[C1];omega) (aP λ_=>rfl) I4 ?_|refine CX (λ_=>rfl) (λ_=>rfl) (by rw[U3];omega) (by decide) ?_|refine CP (λ_=>rfl) (λ_=>rfl) (by rw[U3];omega) (by decide) ?_|refine CQ rfl rfl (aa a) rfl (I1 rfl) rfl ?_|refine CQ rfl rfl (gT c) rfl (I1 rfl) (show [C.s dY.own ((m.U.map (cN .own)).set f [.s .own (((nth m.U f).drop 1).map (dx.enc .X))]),C.s .own ((m.a1.map (aD .own)).set t (aD .own (nth m.a1 t++[J])))]=_ from by simp only[List.set_cons_zero,List.set_cons_succ,List.set_set,X2];rfl) ?_|refine Ap.sm (aP λ_=>rfl) rfl (by simp;omega) (by decide) (gu _ _ _) ?_|refine CG (H) ⟨⟨rfl,o⟩,trivial⟩ ?_)
  rfl
 rw[C9 e,U0 e];refine fO 60 [(5,267,[31,32,33,34,35,36,37,38,39,40,42,0,1,2,3,4,5,6,7,8,9,10,1000,1001,1002,11,12]),(6,270,[43,44,45,46,47,48,49,50,51,52,53,54,55,57,0,1,2,3,4,5,6,7,8,9,10,11,12,13,1000,1001,1002,1003,14,15])] Tryz.func533 rfl ?_ (.inr (aI (aK.enc_fr _) ⟨trivial,trivial⟩))
 repeat'(first|refine gB ?_|(conv=>whnf);first|with_reducible (first|refine CD (aa a) ?_|refine Bf.E (λr=>?_) (λr=>?_))|refine CC ?_|refine C8 (j) ?_|refine C8 (w) ?_|refine CJ rfl (aa a) rfl ?_)
 rfl
def LO.set(rows:List (List C))(i:Nat){r n:List C}(h:P0 r n):LO (.s .own (rows.set i r)) (.s .own (rows.set i n)):=by
 refine .own_ _ _ (by simp) (λj a b d f=>?_) (λj l a b c p d f o g=>?_)
 ·by_cases e:i=j
  ·subst e
   have k:i<rows.length:=by have:=(O2.1 d).1;simpa using this
   rw[W3 k]at d f;cases d;cases f;exact h.1
  rw[List.getElem?_set_ne e]at d f;rw[d]at f;cases f;rfl
 by_cases e:i=j
 ·subst e
  have k:i<rows.length:=by have:=(O2.1 d).1;simpa using this
  rw[W3 k]at d f;cases d;cases f;exact h.2 l c p o g
 rw[List.getElem?_set_ne e]at d f;rw[d]at f;cases f;rw[o]at g;cases g;exact .rfl_ _
def BK(m:aK)(t:Nat)(d:bO m=true)(h:t<m.U.length):ar Tryz.prog 570 false [.val (some 2) (aK.enc .X m),.val none [I (t:Nat)]] (.tup [some 2,none]) (aK.enc .own (lJ m t)++aD .own (nth m.a1 t)):=by
 have b:=ku.of d;have e:=b.sml;have o:=b.b4;have j:=b.i4;have g:=tt m t e;rw[d,O0 ω]at g;have k:=gl m e;have c:=ao (xs:=m.a1) (i:=t) ω;have l:=b.il t h;have a:=aI (aK.enc_fr (lJ m t)) (bH (nth m.a1 t));have n:aK.enc .own (lJ m t)=[.s .own (m.U.map (cN .own)),.s .own ((m.a1.map (aD .own)).set t [.s .own []])]:=by simp[aK.enc,lJ,I6];rfl
 rw[n]at a |-;refine fO 28 [(5,263,[20,21,22,23,24,25,26,0,1,2,3,4,5,6,7,1000,8,9])] Tryz.func570 rfl ?_ (.inr a)
 repeat'((conv=>whnf);first|with_reducible (first|refine CD (aa c) ?_|refine Bn ?_|refine jG.dk rfl ?_)|refine Bt ?_|refine CC ?_|refine C8 (g) ?_|refine C8 (k) ?_|refine CQ rfl rfl (aa c) rfl (I1 rfl) rfl ?_|refine CP (λ_=>rfl) (λ_=>rfl) ω (by decide) ?_)
 exact .cons (.rfl_ _) (.cons (LO.set _ _ (.cons .z_ .nil)) (.cons (.rfl_ _) .nil))
def Jl(now:Int):∀{l:List aQ}{i:Nat},i<=l.length->(∀j,j<i->(nth l j).b7<now - 100)->(i<l.length->¬(nth l i).b7<now - 100)->sF now l=i
 | [],i,h,_,_=>by simp at h;subst h;rfl
 | x::xs,0,_,_,h=>by
  unfold sF;exact C9 (h (by simp))
 | x::xs,i+1,b,a,c=>by
  unfold sF;refine(CB (a 0 ω)).trans ?_;rw[Jl now (l:=xs) (i:=i) (by simp at b;omega) (λj d=>a (j+1) ω) (λe=>c (by simp;omega))]
def Qw(q:bL)(now:Int):List C:=bL.enc .own ⟨q.c1,q.a6.drop (sF now q.a6)⟩++cY .own (q.a6.take (sF now q.a6))
def vZ(q:bL)(now:Int)(g:gC q=true)(G:q.a6.length<=4096)(u:0<=now/\now<=1000000):ar Tryz.prog 535 false [.val (some 2) (bL.enc .X q),.val none [I now],.val none [I 100]] (.tup [some 2,none]) (Qw q now):=by
 have w:bL.sml q:=⟨ω,λ_ _=>trivial⟩
 have n:=pF q w;rw[g]at n;have o:=aH now 0 1000000;rw[O0 u]at o;have p:=aH 100 0 1000000;rw[O0 (by decide)]at p;have h:=(ki.1 g).1;have a:ia (Qw q now):=aI (bL.enc_fr _) (vt _);have y:∀i,i<q.a6.length->0<=(nth q.a6 i).b7:=λi b=>(h _ (am b)).2.2.2
 unfold Qw at a |-;generalize B:sF now q.a6=k at a |-;refine fO 59 [(6,270,[44,45,46,47,48,49,50,51,53,54,55,56,57,58,0,1,2,3,4,5,6,7,9,10,11,12,13,14,8,1009,1010,1011,1012,1013,1014,15,16])] Tryz.func535 rfl ?_ (.inr a)
 repeat'(first|refine gP ?_|(conv=>whnf);first|refine CC ?_|refine C8 (n) ?_|refine C8 (o) ?_|refine C8 (p) ?_)
 (conv=>whnf)
 refine CF (ι:=Nat) (λi=>[(1,.H .one [I (now)]),(2,.H .one [I (100)]),(3,.H .box (bL.enc .X q)),(6,.H .box [I 0,.z]),(8,.H .one [I ((i:Nat):Int)])]) (λi=>i<=q.a6.length/\∀j,j<i->(nth q.a6 j).b7<now - 100) (λi=>q.a6.length - i) (0) ?_ (⟨W0 _,λj C=>ω⟩) λi b=>?_
 ·exact wC
 obtain⟨b,r⟩:=b;by_cases l:i<q.a6.length/\(nth q.a6 i).b7<now - 100
 ·have c:=ao l.1
  repeat'(first|refine gE ?_|(conv=>whnf);first|with_reducible refine CD (aa c) ?_|refine CC ?_|refine CJ rfl (aa c) rfl ?_)
  ((conv=>whnf);refine CE (i+1) ⟨ω,λj C=>by by_cases e:j=i;(subst e;exact l.2);exact r j ω⟩ ω ?_;(exact wC))
 have d:=Jl now (i:=i) b r (λE F=>l ⟨E,F⟩);rw[B]at d;subst d;by_cases t:k<q.a6.length
 ·have c:=ao t
  have:=y k t
  repeat'(first|refine gE ?_|(conv=>whnf);first|refine CV k rfl (by rw[C1];omega) (aP λ_=>rfl) C4 ?_|refine Sl.suf k rfl (by rw[C1];omega) (aP λ_=>rfl) I4 ?_|refine CX (λ_=>rfl) (λ_=>rfl) (by rw[V1];omega) (by decide) ?_|refine CX (λ_=>rfl) (λ_=>rfl) (by rw[U3];omega) (by decide) ?_|refine CP (λ_=>rfl) (λ_=>rfl) (by rw[U3];omega) (by decide) ?_)
  rfl
 repeat'(first|refine gE ?_|(conv=>whnf);first|refine CV k rfl (by rw[C1];omega) (aP λ_=>rfl) C4 ?_|refine Sl.suf k rfl (by rw[C1];omega) (aP λ_=>rfl) I4 ?_|refine CX (λ_=>rfl) (λ_=>rfl) (by rw[V1];omega) (by decide) ?_|refine CX (λ_=>rfl) (λ_=>rfl) (by rw[U3];omega) (by decide) ?_|refine CP (λ_=>rfl) (λ_=>rfl) (by rw[U3];omega) (by decide) ?_)
 rfl
def BA(h:ab)(n:Int)(g:aY h [])(r:0<=n/\n<=1000)(p:h.b3+n<=1000000):aT Tryz.prog 456 false [.ptr (bB h),.val none [I n]] [.ptr (bB (tick h n)),.val none [I n]] .one [I ((ow h n).length:Nat)]:=by
 have a:=g.nums;unfold cj at a;rw[C0]at a;have t:=g.lens.quar;have i:=vZ h.a9 (h.b3+n) g.quar ω ⟨ω,p⟩;have j:=g.aged r.1 p;unfold Qw at i;unfold tick ow aged at *;have l:(h.a9.a6.take (sF (h.b3+n) h.a9.a6)).length<=4096:=by rw[V1];omega
 rw[C1];generalize h.a9.a6.take (sF (h.b3+n) h.a9.a6)=out at i j l |-;generalize h.a9.a6.drop (sF (h.b3+n) h.a9.a6)=rest at i j |-;refine fM 48 [(511,[2,0])] [(2,269,[18,19,20,21,22,23,24,25,26,17,27,28,5,0,1,2,3,4,5,6,7,8,9,10,11,12,13,1011,14])] [(0,0),(0,0)] Tryz.func456 rfl (λu q=>?_)
 repeat'(first|refine gP ?_|(conv=>whnf);refine CG (i) ⟨⟨rfl,bL.enc_fz h.a9⟩,⟨rfl,rfl⟩,⟨rfl,rfl⟩,trivial⟩ ?_)
 (conv=>whnf)
 refine CF (ι:=Nat) (λk=>[(0,.H .box (bB (freeAs {h with b3:=h.b3+n,a9:=⟨h.a9.c1,rest⟩} ((out.map (·.Addr)).take k)))),(6,.H .one (cY .own out)),(7,.H .one [I ((k:Nat):Int)])]) (λk=>k<=out.length) (λk=>out.length - k) (0) ?_ (W0 _) λk y=>?_
 ·exact wC
 by_cases o:k<out.length
 ·have b:=ao o
  have c:k<(out.map (·.Addr)).length:=by rw[C1];exact o
  have d:nth (out.map (·.Addr)) k=(nth out k).Addr:=bm (by rw[I3,ao o];rfl);have e:aY (freeAs {h with b3:=h.b3+n,a9:=⟨h.a9.c1,rest⟩} ((out.map (·.Addr)).take k)) (nth (out.map (·.Addr)) k::(out.map (·.Addr)).drop (k+1)):=by
   refine aY.freeAs ?_;rw[<-jb c,List.take_append_drop];rw[List.append_nil]at j;exact j
  rw[d]at e;have w:=nH _ _ _ e
  repeat'(first|refine gE ?_|(conv=>whnf);refine CK (w) (.inl rfl) ?_)
  ((conv=>whnf);refine CE (k+1) ω ω ?_)
  rw[vm _ _ _ c,d];exact wC
 obtain rfl:k=out.length:=ω
 rw[I7 (by rw[C1];omega)]
 repeat'(first|refine gE ?_|(conv=>whnf);refine CC ?_)
 refine CH rfl rfl ?_;exact wC
def Gb(t:Nat)(h:ab)(az:List Int)(k:Nat)(a:k<az.length):recycs t h (az.take (k+1))=recyc t (recycs t h (az.take k)) (nth az k):=by
 unfold recycs;rw[V5,ao a,Option.toList_some,List.foldl_append];rfl
def ww(h:ab)(t:Nat)(a:aY h [])(i:t<h.T.length):aT Tryz.prog 534 false [.ptr (bB h),.val none [I (t:Nat)]] [.ptr (bB (collect h t)),.val none [I (t:Nat)]] .one [I ((nth h.y.a1 t).length:Nat)]:=by
 have l:=a.nc;have n:=(dR.1 a.mail).1.2.2;have j:=BK h.y t a.mail ω;have c:=(ku.of a.mail).il t ω;have d:=a.coll (t:=t) ω;rw[List.append_nil]at d;unfold collect;generalize nth h.y.a1 t=out at j d c |-;refine fM 36 [(564,[2,0,0])] [] [(0,0),(0,0)] Tryz.func534 rfl (λu q=>?_)
 repeat'(first|(conv=>whnf);refine CG (j) ⟨⟨rfl,aK.enc_fz h.y⟩,⟨rfl,rfl⟩,trivial⟩ ?_)
 (conv=>whnf)
 refine CF (ι:=Nat) (λk=>[(0,.H .box (bB (recycs t {h with y:=lJ h.y t} (out.take k)))),(1,.H .one [I ((t:Nat):Int)]),(6,.H .one (aD .own out)),(7,.H .one [I ((k:Nat):Int)])]) (λk=>k<=out.length) (λk=>out.length - k) (0) ?_ (W0 _) λk p=>?_
 ·exact wC
 by_cases e:k<out.length
 ·have b:=ao e
  have g:aY (recycs t {h with y:=lJ h.y t} (out.take k)) (nth out k::out.drop (k+1)):=by
   refine aY.recycs ?_ i;rw[<-jb e,List.take_append_drop];exact d
  have o:=o8 _ _ t _ g (by rw[(f8 t _ _).1];exact i)
  repeat'(first|refine gE ?_|(conv=>whnf);refine CK (o) (.inl rfl) ?_)
  ((conv=>whnf);refine CE (k+1) ω ω ?_)
  rw[Gb _ _ _ _ e];exact wC
 obtain rfl:k=out.length:=ω
 rw[C5]
 repeat'(first|refine gE ?_|(conv=>whnf);refine CC ?_)
 refine CH rfl rfl ?_;exact wC
def ND(a:Int)(o:bt):Bool:=decide (o.Addr<=a/\a<o.Addr+o.u)
def Hp(h:ab)(E:List Int)(a:Int)(d:aY h E):aT Tryz.prog 566 false [.ptr (bB h),.val none [I a]] [.ptr (bB h),.val none [I a]] .one [I (dH (ND a) h.O)]:=by
 have r:=d.lens.objs;refine fM 47 [] [(4,29,[15,16,17,18,19,20,21,22,23,24,25,26,27,28,29,30,31,32,33,34,35,36,37,38,39,40,41,42,43])] [(0,0),(0,0)] Tryz.func566 rfl (λu q=>?_)
 repeat'(first|(conv=>whnf);refine CC ?_)
 (conv=>whnf)
 refine CF (ι:=Nat) (λi=>[(0,.H .box (bB h)),(1,.H .one [I (a)]),(5,.H .one [I ((i:Nat):Int)])]) (λi=>i<=h.O.length/\∀(j:Nat)(z:bt),j<i->h.O[j]? = some z->ND a z=false) (λi=>h.O.length - i) (0) ?_ (⟨W0 _,λj z C=>ω⟩) λi d=>?_
 ·exact wC
 obtain⟨t,c⟩:=d;by_cases e:i<h.O.length
 ·have b:=ao e
  have w:=tY ‹aY h E› (am e);have y:0<=(nth h.O i).u/\(nth h.O i).u<=1000:=by
   rcases aY.oow ‹aY h E› _ (am e) with⟨s,B,F,G⟩|⟨l,g,k,o⟩
   ·have H:=aF ((aY.L ‹aY h E›).sok s B)
    have:=iL (n:=(nth h.O i).u) ω;omega
   have J:=cS ((aY.L ‹aY h E›).lok l g);omega
  by_cases k:(nth h.O i).Addr<=a
  ·by_cases o:a<(nth h.O i).Addr+(nth h.O i).u
   ·repeat'(first|refine gE ?_|(conv=>whnf);first|with_reducible refine CD (aa b) ?_|refine CC ?_|refine CJ rfl (aa b) rfl ?_|refine CC ?_)
    refine CH rfl (X0 (λz=>[I z]) (dI b (O0 ⟨k,o⟩) c).symm) ?_;exact wC
   repeat'(first|refine gE ?_|(conv=>whnf);first|with_reducible (first|refine CD (aa b) ?_|refine Bf.D (λp=>?_) (λp=>?_))|refine CC ?_|refine CJ rfl (aa b) rfl ?_|refine CC ?_)
   ((conv=>whnf);refine CE (i+1) ⟨ω,dz b (U0 λx=>o x.2) c⟩ ω ?_;(exact wC))
  repeat'(first|refine gE ?_|(conv=>whnf);first|with_reducible (first|refine CD (aa b) ?_|refine Bf.D (λp=>?_) (λp=>?_))|refine CC ?_|refine CJ rfl (aa b) rfl ?_|refine CC ?_)
  ((conv=>whnf);refine CE (i+1) ⟨ω,dz b (U0 λx=>k x.1) c⟩ ω ?_;(exact wC))
 repeat'(first|refine gE ?_|(conv=>whnf);refine CC ?_)
 refine CH rfl (X0 (λz=>[I z]) (gv ω c).symm) ?_;exact wC
def Ki(h:ab)(a v:Int):bB {h with G:=dL h.G a v} = (bB h).set 0 (.s .own ((h.G.F.V.S.map (aD .own)).set (ac h.G.F.Q (a / 16)).e.toNat ((aD .own (nth h.G.F.V.S (cU h.G a))).set 0 (.s .own (((nth h.G.F.V.S (cU h.G a)).map (rI .own)).set (a % 16).toNat (splice (rI .own (nth (nth h.G.F.V.S (cU h.G a)) (a % 16).toNat)) 0 [I v])))))):=by
 simp[bB,dL,setCell,I6,aD,splice,cU,rI]
def E5{α:Type}{p:α->Bool}{xs:List α}{x:α}(a:x∈xs)(b:p x=true):0<=dH p xs:=by
 have:=jC p xs;rw[show xs.any p=true from t4.2 ⟨x,a,b⟩,C0]at this;exact this
def zy(h:ab)(i:Nat)(j v:Int)(e:aY h [])(C:i<h.O.length)(D:0<=j/\j<=(nth h.O i).u - 1):aT Tryz.prog 529 false [.ptr (bB h),.val none [I ((nth h.O i).Addr+j)],.val none [I v]]
  [.ptr (bB (if(ac h.G.F.Q (((nth h.O i).Addr+j) / 16)).j=1\/¬(0<=v/\v<=999) then h else {h with G:=dL h.G ((nth h.O i).Addr+j) v})),.val none [I ((nth h.O i).Addr+j)],.val none [I v]] .one [I (if(ac h.G.F.Q (((nth h.O i).Addr+j) / 16)).j=1 then 2 else if ¬(0<=v/\v<=999) then 3 else 0)]:=by
 obtain⟨E,J,K⟩:=cQ e (am C) D;have F:0<=dH (ND ((nth h.O i).Addr+j)) h.O:=E5 (am C) (O0 ω);have p:=Hp h [] ((nth h.O i).Addr+j) e;have r:=bk e.ker;have t:=cR h.G.F.Q (((nth h.O i).Addr+j) / 16) r.1.2;have n:=aH v 0 999;generalize L:(nth h.O i).Addr+j=a at *;have b:0<=a/\a<512:=ω
 obtain⟨-,-,-,G,M⟩:=bI e.ker E;have H:=(aS.1 (a8.1 e.ker).2.1).2.2.1;have k:cU h.G a<h.G.F.V.S.length:=by unfold cU;omega
 have d:h.G.F.V.S[(ac h.G.F.Q (a / 16)).e.toNat]? = some (nth h.G.F.V.S (cU h.G a)):=ao k;have w:=e.lens.row _ (am k);have l:=ao (xs:=nth h.G.F.V.S (cU h.G a)) (i:=(a % 16).toNat) (by rw[w];omega);have B:a.tmod 16=a % 16:=dM b.1;refine fM 42 [(566,[2,0])] [(8,14,[27,28,29,30,31,32,33,34,35,36,37,38,39,40])] [(0,0),(0,0),(0,0)] Tryz.func529 rfl (λu q=>?_);by_cases o:(ac h.G.F.Q (a / 16)).j=1
 ·rw[CB (Or.inl o),CB o]
  repeat'(first|refine gB ?_|(conv=>whnf);first|refine CK (p) (.inl rfl) ?_|refine CG (t) ⟨⟨rfl,Ca _⟩,⟨rfl,rfl⟩,trivial⟩ ?_|refine CO (by decide) ?_|refine CN (pW b) ?_)
  refine CH rfl rfl ?_;exact wC
 rw[C9 (c:=_=(1:Int)) o];by_cases g:0<=v/\v<=999
 ·rw[O0 g]at n
  rw[C9 (c:=¬(0<=v/\v<=999)) (z4 g),C9 (c:=_\/¬(0<=v/\v<=999)) (λy=>y.elim o λy=>y g)]
  repeat'(first|refine gB ?_|(conv=>whnf);first|refine CK (p) (.inl rfl) ?_|refine CG (t) ⟨⟨rfl,Ca _⟩,⟨rfl,rfl⟩,trivial⟩ ?_|refine CO (by decide) ?_|refine CN (pW b) ?_|refine CR B ?_|refine CM G (aa d) ?_|refine CM ω (aa l) ?_|refine Pu.two rfl rfl (aa d) rfl rfl rfl (aa l) rfl (C3 _) (Ki h a v) ?_)
  refine CH rfl rfl ?_;exact wC
 rw[U0 g]at n;rw[CB (Or.inr g),CB g]
 repeat'(first|refine gB ?_|(conv=>whnf);first|refine CK (p) (.inl rfl) ?_|refine CG (t) ⟨⟨rfl,Ca _⟩,⟨rfl,rfl⟩,trivial⟩ ?_|refine CO (by decide) ?_|refine CN (pW b) ?_)
 refine CH rfl rfl ?_;exact wC
def xx(l:aB)(n:Int):aA:=if(n+15) / 16<l.a4 then⟨l.R+(n+15) / 16,l.a4 - (n+15) / 16⟩ else⟨0,0⟩
def xE(l:aB)(n:Int)(d:bJ l=true):ar Tryz.prog 567 false [.val (some 3) (aB.enc .X l),.val none [I n]] (.tup [some 3,some 2,none]) (if 9<=n/\n<=l.u then aB.enc .own (trimL l n)++aA.enc .own (xx l n)++[B true] else aB.enc .own l++[I 0,I 0]++[B false]):=by
 have b:=nD l;rw[d]at b;have a:=aH n 9 l.u;have g:=d;unfold bJ at g;rw[C0]at g;by_cases e:9<=n/\n<=l.u
 ·rw[O0 e]at a
  rw[CB e];have c:=mD n;rw[show fN n=(n+15) / 16 by unfold fN;rw[CB ω]]at c;unfold xx;by_cases h:(n+15) / 16<l.a4
  ·rw[CB h]
   refine fO 43 [(7,261,[37,38,39,40,42,0,1,2,3,5,4,1005,6,1005,7,8])] Tryz.func567 rfl ?_ (.inr ⟨trivial,trivial,trivial,trivial,trivial,trivial,trivial⟩)
   repeat'(first|refine gE ?_|(conv=>whnf);first|refine CC ?_|refine C8 (b) ?_|refine C8 (a) ?_|refine C8 (c) ?_|refine CC ?_)
   rfl
  rw[C9 h];refine fO 43 [(7,261,[37,38,39,40,42,0,1,2,3,5,4,1005,6,1005,7,8])] Tryz.func567 rfl ?_ (.inr ⟨trivial,trivial,trivial,trivial,trivial,trivial,trivial⟩)
  repeat'(first|refine gE ?_|(conv=>whnf);first|refine CC ?_|refine C8 (b) ?_|refine C8 (a) ?_|refine C8 (c) ?_|refine CC ?_)
  rfl
 rw[U0 e]at a;rw[C9 e];refine fO 43 [(7,261,[37,38,39,40,42,0,1,2,3,5,4,1005,6,1005,7,8])] Tryz.func567 rfl ?_ (.inr ⟨trivial,trivial,trivial,trivial,trivial,trivial,trivial⟩)
 repeat'(first|refine gP ?_|(conv=>whnf);first|refine CC ?_|refine C8 (b) ?_|refine C8 (a) ?_|refine CC ?_)
 rfl
def BG(h:ab)(t a:Int)(c:h.T.length<=4)(d:¬(0<=t/\t<=h.T.length - 1)):aT Tryz.prog 527 false [.ptr (bB h),.val none [I t],.val none [I a]] [.ptr (bB h),.val none [I t],.val none [I a]] .one [I 1]:=by
 have b:=aH t 0 (h.T.length - 1:Int);rw[U0 d]at b;refine fM 148 [(560,[2,0]),(562,[2,0]),(564,[2,0,0]),(559,[2,0])] [(15,269,[68,69,70,71,72,73,74,75,77,67,78,79,11,0,1,2,3,4,5,6,7,13,8,1000,1001,1002,1003,1004,1013,9,10,11,12,14,1012,15]),(22,15,[92,93,94,95,96,97,98,99,100,101,102,103,104,105,106]),(25,271,[116,117,118,119,120,121,122,123,124,125,127,115,128,129,14,0,1,2,3,4,5,6,7,8,9,15,10,1000,1001,1002,1003,1015,11,12,13,14,16,1014,17])] [(0,0),(0,0),(0,0)] Tryz.func527 rfl (λu q=>?_)
 repeat'(first|refine gP ?_|(conv=>whnf);first|refine CC ?_|refine C8 (b) ?_)
 refine CH rfl rfl ?_;exact wC
def Gv(h:ab)(i t:Nat)(a:aY h [])(j:i<h.O.length)(U:t<h.T.length)(K:(nth h.O i).a5≠t):aT Tryz.prog 527 false [.ptr (bB h),.val none [I (t:Nat)],.val none [I (nth h.O i).Addr]] [.ptr (bB (freeT h t i).1),.val none [I (t:Nat)],.val none [I (nth h.O i).Addr]] .one [I (freeT h t i).2]:=by
 have F:=am j;obtain⟨-,L,d⟩:=a.objAt F;have N:pA h (nth h.O i).Addr=i:=by
  have V:=(a.objAt F).1;exact cM (f:=(·.Addr)) (dq a.osr) V j (by rw[L])
 rw[N]at d;have b:=tY a F;have W:=a.onu _ F;have n:=a.lens;have X:=n.objs;have Y:=a.nc;have Z:=ku.of a.mail;have hb4:=Z.b4;have o:=aH (t:Nat) 0 (h.T.length - 1:Int);rw[O0 ω]at o;have p:=rC h (nth h.O i).Addr ω;rw[d]at p;have e:=ao j;have G:=kK (nth h.O i).u;have O:=bk a.ker;have P:=cR h.G.F.Q ((nth h.O i).Addr / 16) O.1.2;unfold freeT;by_cases H:aJ (nth h.O i).u<0
 ·rw[CB H]
  have c3:=qJ h i a j H;refine fM 148 [(560,[2,0]),(562,[2,0]),(564,[2,0,0]),(559,[2,0])] [(15,269,[68,69,70,71,72,73,74,75,77,67,78,79,11,0,1,2,3,4,5,6,7,13,8,1000,1001,1002,1003,1004,1013,9,10,11,12,14,1012,15]),(22,15,[92,93,94,95,96,97,98,99,100,101,102,103,104,105,106]),(25,271,[116,117,118,119,120,121,122,123,124,125,127,115,128,129,14,0,1,2,3,4,5,6,7,8,9,15,10,1000,1001,1002,1003,1015,11,12,13,14,16,1014,17])] [(0,0),(0,0),(0,0)] Tryz.func527 rfl (λu q=>?_)
  repeat'(first|refine gE ?_|(conv=>whnf);first|refine CG (p) ⟨⟨rfl,bF h⟩,⟨rfl,rfl⟩,trivial⟩ ?_|refine CK (c3) (.inl rfl) ?_)
  refine CH rfl rfl ?_;exact wC
 rw[C9 H];obtain⟨s1,s2,s3,s4⟩:=TB.of a (am j) H;by_cases J:(ac (tbl h) ((nth h.O i).Addr / 16)).j=1
 ·rw[CB J]
  unfold tbl at J;refine fM 148 [(560,[2,0]),(562,[2,0]),(564,[2,0,0]),(559,[2,0])] [(15,269,[68,69,70,71,72,73,74,75,77,67,78,79,11,0,1,2,3,4,5,6,7,13,8,1000,1001,1002,1003,1004,1013,9,10,11,12,14,1012,15]),(22,15,[92,93,94,95,96,97,98,99,100,101,102,103,104,105,106]),(25,271,[116,117,118,119,120,121,122,123,124,125,127,115,128,129,14,0,1,2,3,4,5,6,7,8,9,15,10,1000,1001,1002,1003,1015,11,12,13,14,16,1014,17])] [(0,0),(0,0),(0,0)] Tryz.func527 rfl (λu q=>?_)
  repeat'(first|refine gB ?_|(conv=>whnf);first|refine CO (by decide) ?_|refine CN (pW b) ?_|refine CG (p) ⟨⟨rfl,bF h⟩,⟨rfl,rfl⟩,trivial⟩ ?_|refine CG (P) ⟨⟨rfl,Ca _⟩,⟨rfl,rfl⟩,trivial⟩ ?_)
  refine CH rfl rfl ?_;exact wC
 rw[C9 J,C9 K];unfold tbl at J;have r:=Lt h.y t ⟨(nth h.O i).a5,(nth h.O i).Addr⟩ a.mail ω;by_cases l:bO (iy h.y t ⟨(nth h.O i).a5,(nth h.O i).Addr⟩)=true;rotate_left
 ·rw[C9 l]
  rw[C9 l,show bO (iy h.y t ⟨(nth h.O i).a5,(nth h.O i).Addr⟩)=false by simpa using l]at r;refine fM 148 [(560,[2,0]),(562,[2,0]),(564,[2,0,0]),(559,[2,0])] [(15,269,[68,69,70,71,72,73,74,75,77,67,78,79,11,0,1,2,3,4,5,6,7,13,8,1000,1001,1002,1003,1004,1013,9,10,11,12,14,1012,15]),(22,15,[92,93,94,95,96,97,98,99,100,101,102,103,104,105,106]),(25,271,[116,117,118,119,120,121,122,123,124,125,127,115,128,129,14,0,1,2,3,4,5,6,7,8,9,15,10,1000,1001,1002,1003,1015,11,12,13,14,16,1014,17])] [(0,0),(0,0),(0,0)] Tryz.func527 rfl (λu q=>?_)
  repeat'(first|refine gB ?_|(conv=>whnf);first|refine CO (by decide) ?_|refine CN (pW b) ?_|refine CG (p) ⟨⟨rfl,bF h⟩,⟨rfl,rfl⟩,trivial⟩ ?_|refine CG (P) ⟨⟨rfl,Ca _⟩,⟨rfl,rfl⟩,trivial⟩ ?_|refine CG (r) ⟨⟨rfl,aK.enc_fz h.y⟩,⟨rfl,rfl⟩,⟨rfl,rfl⟩,trivial⟩ ?_)
  refine CH rfl rfl ?_;exact wC
 rw[CB l];rw[CB l,l]at r;have w:cU h.G (nth h.O i).Addr<h.G.F.V.S.length:=by unfold cU;omega
 have hcz:=Pq s1;have B:=ef (aJ (nth h.O i).u);unfold P4;generalize iy h.y t ⟨(nth h.O i).a5,(nth h.O i).Addr⟩ = M at r;refine fM 148 [(560,[2,0]),(562,[2,0]),(564,[2,0,0]),(559,[2,0])] [(15,269,[68,69,70,71,72,73,74,75,77,67,78,79,11,0,1,2,3,4,5,6,7,13,8,1000,1001,1002,1003,1004,1013,9,10,11,12,14,1012,15]),(22,15,[92,93,94,95,96,97,98,99,100,101,102,103,104,105,106]),(25,271,[116,117,118,119,120,121,122,123,124,125,127,115,128,129,14,0,1,2,3,4,5,6,7,8,9,15,10,1000,1001,1002,1003,1015,11,12,13,14,16,1014,17])] [(0,0),(0,0),(0,0)] Tryz.func527 rfl (λu q=>?_)
 repeat'(first|refine gB ?_|(conv=>whnf);first|refine CO (by decide) ?_|refine CN (pW b) ?_|refine CG (p) ⟨⟨rfl,bF h⟩,⟨rfl,rfl⟩,trivial⟩ ?_|refine CG (P) ⟨⟨rfl,Ca _⟩,⟨rfl,rfl⟩,trivial⟩ ?_|refine CG (r) ⟨⟨rfl,aK.enc_fz h.y⟩,⟨rfl,rfl⟩,⟨rfl,rfl⟩,trivial⟩ ?_)
 have Q:({{h with y:=M} with G:=f6 h.G (nth h.O i).Addr 0} : ab) = {h with y:=M}:=J9 {h with y:=M} _ w;have R:=X0 (λy:ab=>C.s .own (y.G.F.V.S.map (aD .own))) Q
 (conv=>whnf)
 refine CF (ι:=Nat) (λk=>[(0,.H .box (bB {{h with y:=M} with G:=f6 h.G (nth h.O i).Addr k})),(1,.H .one [I ((t:Nat):Int)]),(2,.H .one [I ((nth h.O i).Addr)]),(7,.H .one [I ((i:Nat):Int)]),(8,.H .box (bt.enc .own (nth h.O i))),(9,.H .one [I (aJ (nth h.O i).u)]),(10,.H .box (bh.enc .own (ac h.G.F.Q ((nth h.O i).Addr / 16)))),(13,.H .one [I ((k:Nat):Int)])]) (λk=>k<=(csz (aJ (nth h.O i).u)).toNat) (λk=>(csz (aJ (nth h.O i).u)).toNat - k) (0) ?_ (W0 _) λk hk=>?_
 ·repeat'(first|exact trivial|rfl |exact n6 R|refine CL ?_ ?_)
 have T:IntKind.i64.wrap 0=0:=rfl;have S:(nth h.O i).Addr.tmod 16=(nth h.O i).Addr % 16:=dM b.1;have g:(f6 h.G (nth h.O i).Addr k).F.V.S[(ac h.G.F.Q ((nth h.O i).Addr / 16)).e.toNat]? = some (lP (nth h.G.F.V.S (cU h.G (nth h.O i).Addr)) ((nth h.O i).Addr % 16).toNat k):=W3 w;by_cases lk:k<(csz (aJ (nth h.O i).u)).toNat
 ·have E:=ao (xs:=lP (nth h.G.F.V.S (cU h.G (nth h.O i).Addr)) ((nth h.O i).Addr % 16).toNat k) (i:=((nth h.O i).Addr % 16+k).toNat) (by rw[na,s4];omega)
  repeat'(first|refine gE ?_|(conv=>whnf);first|refine CO (by decide) ?_|refine CR S ?_|refine CM s2.1 (aa g) ?_|refine CM ω (aa E) ?_|refine Pu.two rfl rfl (aa g) rfl rfl rfl (aa E) rfl (C3 _) (FQ {h with y:=M} _ k _ b.1) ?_)
  ((conv=>whnf);refine CE (k+1) ω ω ?_;(exact wC))
 obtain rfl:k=(csz (aJ (nth h.O i).u)).toNat:=ω
 have c6:=nM {{h with y:=M} with G:=f6 h.G (nth h.O i).Addr (csz (aJ (nth h.O i).u)).toNat} i j (by show h.O.length<=_;omega)
 repeat'(first|refine gB ?_|(conv=>whnf);refine CK (c6) (.inl rfl) ?_)
 refine CH rfl rfl ?_;exact wC
def PU(h:ab)(i:Nat)(t:Int)(a:aY h [])(d:i<h.O.length):aT Tryz.prog 527 false [.ptr (bB h),.val none [I t],.val none [I (nth h.O i).Addr]] [.ptr (bB (if 0<=t/\t<=h.T.length - 1 then(freeT h t.toNat i).1 else h)),.val none [I t],.val none [I (nth h.O i).Addr]] .one [I (if 0<=t/\t<=h.T.length - 1 then(freeT h t.toNat i).2 else 1)]:=by
 have c:h.T.length<=4:=by have:=(dR.1 a.mail).1.2.1;have:=a.nc;omega
 by_cases b:0<=t/\t<=h.T.length - 1
 ·rw[CB b,CB b]
  obtain⟨n,rfl⟩:=Z2 b.1;simp only[X2];by_cases e:(nth h.O i).a5=n
  ·have:=GA h (nth h.O i) n a (am d) e c
   have g:pA h (nth h.O i).Addr=i:=by
    obtain⟨k,j,-⟩:=a.objAt (am d);exact cM (f:=(·.Addr)) (dq a.osr) k d (by rw[j])
   rw[g,<-AF e]at this;exact this
  exact Gv h i n a d ω e
 rw[C9 b,C9 b];exact BG h t _ c b
def Pj(c:aE)(k:Nat):aE.enc .own (rZ c k)=[.s .own ((c.b.map (aD .own)).set k (aD .own ((nth c.b k).take ((nth c.b k).length - 1))))]:=by simp[aE.enc,rZ,I6]
def Rl(xs:List Int)(n:Nat):(xs.take n).map (rI .X)=(xs.map (rI .X)).take n:=C4
def Tr(c:aE)(k:Nat):List C:=if 0<(nth c.b k).length then aE.enc .own (rZ c k)++[I (nth (nth c.b k) ((nth c.b k).length - 1)),B true] else aE.enc .own c++[I (-1),B false]
def Rp(c:aE)(k:Nat):ia (Tr c k):=by
 unfold Tr;split
 ·exact aI (aE.enc_fr _) ⟨trivial,trivial,trivial⟩
 exact aI (aE.enc_fr _) ⟨trivial,trivial,trivial⟩
def wS(c:aE)(k:Nat)(h:bA c=true)(u:k<=3):ar Tryz.prog 380 false [.val (some 1) (aE.enc .X c),.val none [I (k:Nat)]] (.tup [some 1,none,none]) (Tr c k):=by
 obtain⟨w,j⟩:=fB h;have n:aE.sml c:=⟨ω,λl r=>by have:=j l r;show l.length<=1048576;omega⟩
 have d:=y9 c k n;rw[h,O0 ω]at d;have o:=jq c n;have b:=uI (c:=c) (k:=k) ω;have t:=j _ (am (xs:=c.b) (i:=k) ω);have a:=Rp c k;unfold Tr at a |-;by_cases p:0<(nth c.b k).length
 ·rw[CB p]at a |-
  have q:=ao (xs:=nth c.b k) (i:=(nth c.b k).length - 1) ω;have e:(nth c.b k)[(((nth c.b k).length:Int) - 1).toNat]? = some (nth (nth c.b k) ((nth c.b k).length - 1)):=by rw[show(((nth c.b k).length:Int) - 1).toNat=(nth c.b k).length - 1 by omega];exact q
  have g:((((nth c.b k).length:Nat):Int) - 1)=(((nth c.b k).length - 1:Nat):Int):=ω
  rw[Pj]at a |-;refine fO 54 [(5,268,[32,33,34,35,36,37,38,39,40,41,42,44,0,1,2,3,4,5,6,7,8,9,10,11,1000,1001,1002,12,13]),(6,265,[45,46,47,48,49,50,51,52,53,0,1,2,3,4,5,6,7,8,9,1001,1002,1003,1004,1005,1006,1007,1008,10,11])] Tryz.func380 rfl ?_ (.inr a)
  repeat'(first|refine gB ?_|(conv=>whnf);first|refine CM ω (aa e) ?_|refine CV ((nth c.b k).length - 1) g (by rw[C1];omega) (aP λ_=>rfl) (Rl _ _) ?_|refine CX (λ_=>rfl) (λ_=>rfl) (by rw[V1];omega) (by decide) ?_|refine CP (λ_=>rfl) (λ_=>rfl) (by rw[V1];omega) (by decide) ?_|refine CQ rfl rfl (aa b) rfl (I1 rfl) rfl ?_)
  rfl
 rw[C9 p]at a |-;refine fO 54 [(5,268,[32,33,34,35,36,37,38,39,40,41,42,44,0,1,2,3,4,5,6,7,8,9,10,11,1000,1001,1002,12,13]),(6,265,[45,46,47,48,49,50,51,52,53,0,1,2,3,4,5,6,7,8,9,1001,1002,1003,1004,1005,1006,1007,1008,10,11])] Tryz.func380 rfl ?_ (.inr a)
 repeat'(first|refine gB ?_|(conv=>whnf);first|with_reducible refine CD (aa b) ?_|refine CC ?_|refine CJ rfl (aa b) rfl ?_|refine C8 (d) ?_|refine C8 (o) ?_)
 rfl
def Tn(xs:List aA)(n:Int):List C:=bN .own (au xs n).1++[I (au xs n).2.1,B (au xs n).2.2]
def R7(xs:List aA)(n:Int):ia (Tn xs n):=aI (mt _) ⟨trivial,trivial,trivial⟩
def pT(pages:Int)(xs:List aA)(n:Int)(w:0<=pages/\pages<=1048576)(l:bC pages xs=true)(J:1<=n/\n<=1000)(K:xs.length<=4096):ar Tryz.prog 385 false [.val none [I pages],.val none (bN .X xs),.val none [I n]] (.tup [none,none,none]) (Tn xs n):=by
 have o:=mE pages xs w ⟨ω,λ_ _=>trivial⟩;rw[l]at o;have p:=(Ea l).2;refine fO 98 [(8,21,[31,32,33,34,35,36,37,38,39,40,41,42,43,44,45,46,47,48,49,50,51]),(14,265,[71,72,73,74,76,77,78,79,81,0,1,2,3,5,6,7,8,10,4,1005,1006,1007,1008,1010,9,1010,11,1010,12,13])] Tryz.func385 rfl ?_ (.inr (R7 xs n))
 repeat'(first|refine gE ?_|(conv=>whnf);refine CP (λ_=>rfl) (λ_=>rfl) ω (by decide) ?_)
 (conv=>whnf)
 refine CF (ι:=Nat) (λi=>[(1,.H .one (bN .X xs)),(2,.H .one [I (n)]),(9,.H .one (bN .own xs)),(10,.H .one [I (j8 xs n i)]),(11,.H .one [I ((i:Nat):Int)])]) (λi=>i<=xs.length) (λi=>xs.length - i) (0) ?_ (W0 _) λi y=>?_
 ·exact wC
 have h:=xo xs n i y;by_cases q:i<xs.length
 ·have j:=ao q
  have E:=p _ (am q);have a:j8 xs n (i+1)=if n<=(nth xs i).b0/\(j8 xs n i<0\/(nth xs i).b0<(nth xs (j8 xs n i).toNat).b0) then((i:Nat):Int) else j8 xs n i:=rfl
  by_cases r:n<=(nth xs i).b0
  ·by_cases F:j8 xs n i<0
   ·rw[CB ⟨r,.inl F⟩]at a
    repeat'(first|refine gE ?_|(conv=>whnf);first|with_reducible (first|refine CD (aa j) ?_|refine Bf.D (λc=>?_) (λc=>?_))|refine CC ?_)
    ((conv=>whnf);refine CE (i+1) ω ω ?_)
    rw[a];exact wC
   have d:=ao (xs:=xs) (i:=(j8 xs n i).toNat) ω;by_cases G:(nth xs i).b0<(nth xs (j8 xs n i).toNat).b0
   ·rw[CB ⟨r,.inr G⟩]at a
    repeat'(first|refine gE ?_|(conv=>whnf);with_reducible refine CM ω (aa d) ?_)
    ((conv=>whnf);refine CE (i+1) ω ω ?_)
    rw[a];exact wC
   rw[C9 ω]at a
   repeat'(first|refine gE ?_|(conv=>whnf);with_reducible refine CM ω (aa d) ?_)
   ((conv=>whnf);refine CE (i+1) ω ω ?_)
   rw[a];exact wC
  rw[C9 ω]at a
  repeat'(first|refine gE ?_|(conv=>whnf);first|with_reducible (first|refine CD (aa j) ?_|refine Bf.D (λc=>?_) (λc=>?_))|refine CC ?_)
  ((conv=>whnf);refine CE (i+1) ω ω ?_)
  rw[a];exact wC
 obtain rfl:i=xs.length:=ω
 change iz xs n = -1\/_ at h;unfold Tn au;rw[show j8 xs n xs.length=iz xs n from rfl];by_cases e:iz xs n<0
 ·rw[CB e]
  rw[show iz xs n = -1 from h.resolve_right λg=>by have L:0<=iz xs n:=g.1;omega]
  repeat'(first|refine gE ?_|(conv=>whnf);first|with_reducible refine Bf.D (λc=>?_) (λc=>?_)|refine CC ?_)
  rfl
 rw[C9 e];obtain⟨H,t,M⟩:=h.resolve_left ω;change 0<=iz xs n at H;change iz xs n<xs.length at t;obtain⟨b,k⟩:=Z2 (show 0<=iz xs n by omega);rw[k]at t |-;simp only[X2];have d:=ao (xs:=xs) (i:=b) ω;have E:=p _ (am (xs:=xs) (i:=b) ω);by_cases u:(nth xs b).b0=n
 ·rw[CB u]
  repeat'(first|refine gB ?_|(conv=>whnf);first|refine CV b rfl (by rw[C1];omega) (aP λ_=>rfl) C4 ?_|refine Sl.suf (b+1) rfl (by rw[C1];omega) (aP λ_=>rfl) I4 ?_|refine CX (λ_=>rfl) (λ_=>rfl) (by rw[V1];omega) (by decide) ?_|refine Ap.dele (λ_=>rfl) (λ_=>rfl) ω (by decide) ?_|refine CP (λ_=>rfl) (λ_=>rfl) (by rw[V1];omega) (by decide) ?_)
  rfl
 rw[C9 u]
 repeat'(first|refine gB ?_|(conv=>whnf);refine CQ rfl rfl (aa d) rfl (I1 rfl) rfl ?_)
 exact X0 (λz=>z++[I (nth xs b).At,B true]) (show [C.s dY.own _]=_ from by simp[bN,I6];rfl)
def Me(k:af)(p:Int)(f:Nat):af.enc .own (rj k p f)=((af.enc .own k).set 1 (.s .own ((k.F.V.a3.map (rB .own)).set f (rB .own true)))).set 2 (.s .own ((k.F.Q.J.map (bh.enc .own)).set p.toNat (bh.enc .own ⟨2,(f:Nat)⟩))):=by
 simp[af.enc,rj,I6]
def EI(k:af)(p:Int)(c:ay k=true)(y:k.Calls≠100000)(o:0<=p/\p<k.F.Q.J.length)(C:(nth k.F.Q.J p.toNat).j=0):aT Tryz.prog 387 false [.ptr (af.enc .own k),.val none [I p]] [.ptr (af.enc .own (newK k p).1),.val none [I p]] .one [B (newK k p).2]:=by
 have E:=bk c;have F:=aS.1 (a8.1 c).2.1;have G:=(br.1 (a8.1 c).2.2.1).2.2;have H:(bZ k).F.Q.J.length<=32:=G;have a:=DB k.F.V ω;have d:=nv k c y;have g:=fA (bZ k) p E.1.2;have l:ac (bZ k).F.Q p=nth k.F.Q.J p.toNat:=by unfold ac;exact CB o
 rw[l,C]at g;have h:=aH p 0 ((k.F.Q.J.length:Int) - 1);rw[O0 ω]at h;have r:=ao (xs:=k.F.Q.J) (i:=p.toNat) ω;change ar _ _ _ _ _ [I (sf k)]at a;unfold newK;cases e:refd k<;>rw[e]at d
 ·by_cases j:sf k<0
  ·rw[CB (.inr j)]
   refine fM 56 [(487,[2])] [] [(0,0),(0,0)] Tryz.func387 rfl (λu q=>?_)
   repeat'(first|refine gB ?_|(conv=>whnf);first|refine CG (a) ⟨⟨rfl,aV.enc_fz _⟩,trivial⟩ ?_|refine CK (d) (.inl rfl) ?_|refine CG (g) ⟨CT (bZ k),⟨rfl,rfl⟩,trivial⟩ ?_)
   refine CH rfl ?_ ?_
   ·rfl
   exact wC
  rw[C9 (by simp[j])];obtain⟨n,t⟩:=EF j;obtain⟨f,J⟩:=Z2 (show 0<=sf k by omega);rw[J]at a n t j |-;simp only[X2]at n t |-;have w:=ao (xs:=k.F.V.a3) (i:=f) n;rw[Me];refine fM 56 [(487,[2])] [] [(0,0),(0,0)] Tryz.func387 rfl (λu q=>?_)
  repeat'(first|refine gB ?_|(conv=>whnf);first|refine CG (a) ⟨⟨rfl,aV.enc_fz _⟩,trivial⟩ ?_|refine CK (d) (.inl rfl) ?_|refine CG (g) ⟨CT (bZ k),⟨rfl,rfl⟩,trivial⟩ ?_|refine CM o.1 (aa r) ?_|refine CQ rfl rfl (aa w) rfl (I1 rfl) rfl ?_|refine CQ rfl rfl (aa r) rfl (I1 rfl) rfl ?_)
  refine CH rfl ?_ ?_
  ·rfl
  exact wC
 rw[CB (.inl rfl)];refine fM 56 [(487,[2])] [] [(0,0),(0,0)] Tryz.func387 rfl (λu q=>?_)
 repeat'(first|refine gB ?_|(conv=>whnf);first|refine CG (a) ⟨⟨rfl,aV.enc_fz _⟩,trivial⟩ ?_|refine CK (d) (.inl rfl) ?_)
 refine CH rfl ?_ ?_
 ·rfl
 exact wC
def Ty(h:ab):List C:=(bB h).drop 5
def E4(h:ab)(p:Int)(a:ay h.G=true)(b:h.G.Calls≠100000)(c:0<=p/\p<h.G.F.Q.J.length)(d:(nth h.G.F.Q.J p.toNat).j=0):aT Tryz.prog 387 false [.ptr (bB h),.val none [I p]] [.ptr (bB {h with G:=(newK h.G p).1}),.val none [I p]] .one [B (newK h.G p).2]:=
 (EI h.G p a b c d).frame (r:=Ty h) rfl
def K4(h:ab)(i:Nat):bB (slotT h i)=((bB h).set 14 (I (zw h.c0))).set 6 (.s .own ((h.K.map (ax.enc .own)).set i [I (nth h.K i).R,I (nth h.K i).d,I (iu (nth h.K i).b2 (qP h i))])):=by
 simp[bB,slotT,rh,I6,ax.enc]
def tC(h:ab)(E:List Int)(i:Nat)(c:aY h E)(k:i<h.K.length):aT Tryz.prog 382 false [.ptr (bB h),.val none [I (i:Nat)]] [.ptr (bB (oD h i).1),.val none [I (i:Nat)]] .one [I (oD h i).2]:=by
 have F:=c.lens;have G:=F.spans;have d:=ao k;have b:=c.L.sok _ (am k);have e:=eX b;have a:=c.nums;unfold cj at a;rw[C0]at a;have t:=(br.1 (a8.1 c.ker).2.2.1).2.2;have l:=tA c.L.sok (ps:=aX h (nth h.K i).R) e (aX h (nth h.K i).R).length;change 0<=i9 h i/\i9 h i<=65535 at l;have w:=nN (nth h.K i).d;have y:=zS h i ⟨ω,λ_ _=>trivial⟩ ⟨by show h.G.F.Q.J.length<=_;omega,λ_ _=>trivial⟩ c.L.sok k;have o:=yg (nth h.K i).d (i9 h i) ω;change ar _ _ _ _ _ (aD .own (nw h i)) at o;have p:=H5 (nth h.K i).d (i9 h i);change (nw h i).length<=16 at p;unfold oD;by_cases B:(nw h i).length=0
 ·rw[CB B]
  refine fM 68 [] [(2,7,[16,17,18,19,20,21,22]),(7,12,[42,43,44,45,46,47,48,49,50,51,52,53]),(8,11,[56,57,58,59,60,61,62,63,64,65,66])] [(0,0),(0,0)] Tryz.func382 rfl (λu q=>?_)
  repeat'(first|refine gB ?_|(conv=>whnf);refine CG (y) ⟨⟨rfl,bF h⟩,⟨rfl,rfl⟩,trivial⟩ ?_)
  refine CH rfl rfl ?_;exact wC
 rw[C9 B];have H:=AS (h:=h) (i:=i) ω;obtain⟨C,D,O⟩:=yf H;have J:=(ij (aF b).2.2).2.2.1;have r:=r7 h.c0 (n:=((nw h i).length:Nat)) ω;have K:=v6 h.c0 ((nw h i).length:Nat) ω ω;have M:=zr (nth h.K i).b2 (qP h i) e ω;have N:=Ac (rh (nth h.K i) (qP h i)) (qP h i) (D0 b ⟨C,D⟩) ⟨C,D⟩;have g:(nw h i)[(FZ h.c0 ((nw h i).length:Nat)).toNat]? = some (qP h i):=ao ω;have j:((h.K.map (ax.enc .own)).set i [I (nth h.K i).R,I (nth h.K i).d,I (iu (nth h.K i).b2 (qP h i))])[i]? = some [I (nth h.K i).R,I (nth h.K i).d,I (iu (nth h.K i).b2 (qP h i))]:=td k;unfold vp;rw[K4];refine fM 68 [] [(2,7,[16,17,18,19,20,21,22]),(7,12,[42,43,44,45,46,47,48,49,50,51,52,53]),(8,11,[56,57,58,59,60,61,62,63,64,65,66])] [(0,0),(0,0)] Tryz.func382 rfl (λu q=>?_)
 repeat'(first|refine gB ?_|(conv=>whnf);first|refine CD j ?_|refine CJ rfl j rfl ?_|refine CG (y) ⟨⟨rfl,bF h⟩,⟨rfl,rfl⟩,trivial⟩ ?_|refine CM r.1 (aa g) ?_|refine CQ rfl rfl (aa d) rfl (I1 rfl) rfl ?_)
 refine CH rfl ?_ ?_
 ·rfl
 exact wC
def Ap.ins{α:Type}{e:α->List C}{xs:List α}{y:α}{r:List C}{i sz by_:Nat}{K:List (List C)->Prop}(a:r=e y)(b:∀y,(e y).length=sz)(c:∀y,aZ (e y)=true)(h:xs.length<=1048576)(d:by_<=1000)(f:K ((xs.take i++y::xs.drop i).map e)):Ap true ((xs.take i).map e++[r]) ((xs.drop i).map e) sz by_ K:=by
 subst a;have g:(xs.take i).length+1+(xs.drop i).length<=3145728:=by rw[V1,U3];omega
 refine CU (λr a=>?_) (aP b) (λ_ r a=>by obtain⟨y,-,rfl⟩:=O4.1 a;exact c y) (by simp only[O3,C1,List.length_singleton];omega) (by simp only[O3,C1,List.length_singleton];exact Z4 (Nat.mul_le_mul g d) (by decide)) ?_ f
 ·rcases z3.1 a with a|a
  ·exact aP b r a
  rw[O1.1 a];exact b y
 rw[X5,Z5,W5];rfl
def w7{α:Type}{p:α->Bool}{xs:List α}{y:α}{i:Nat}(h:kN p xs=i):jL p xs y=xs.take i++y::xs.drop i:=by unfold jL;rw[h]
def Jj(h:ab)(c:Int):ab × Int:=
 if(au h.q 1).2.2=false then(h,-1)
 else if(newK h.G (au h.q 1).2.1).2=false then({h with G:=(newK h.G (au h.q 1).2.1).1},-1)
 else(rL h c,(ru h:Nat))
def DO(h:ab)(E:List Int)(c:Nat)(g:aY h E)(J:h.G.Calls<=90000):aT Tryz.prog 383 false [.ptr (bB h),.val none [I (c:Nat)]] [.ptr (bB (Jj h c).1),.val none [I (c:Nat)]] .one [I (Jj h c).2]:=by
 have B:=g.lens;have K:=B.spans;have L:eQ h<=32:=B.ents;have C:=i7 h;have l:=pT (eQ h:Nat) h.q 1 ⟨ω,ω⟩ g.rng (by decide) (by have:=B.free;omega);unfold Tn at l;have d:=jR g (v5 1);unfold Jj rL ru;generalize au h.q 1=r at l d |-;obtain⟨o,p,ok⟩:=r;simp only at l d |-;cases ok with
 | false=>
  rw[CB rfl];refine fM 79 [(387,[2,0]),(2000010,[0,6])] [(1,267,[11,12,13,14,15,16,17,10,18,19,20,0,1,2,3,4,5,6,7,8,9,10,11,1009,1010,12,1010,13])] [(0,0),(0,0)] Tryz.func383 rfl (λu q=>?_)
  repeat'(first|refine gP ?_|(conv=>whnf);first|refine CG (C) ⟨bF h,trivial⟩ ?_|refine CG (l) ⟨⟨rfl,rfl⟩,⟨rfl,eR h.q⟩,⟨rfl,rfl⟩,trivial⟩ ?_)
  refine CH rfl rfl ?_;exact wC
 | true=>
  rw[C9 (by simp)];obtain⟨M,N,O,V⟩:=d rfl;have F:0<=p/\p<h.G.F.Q.J.length:=⟨M,by have:p+1<=((tbl h).J.length:Nat):=N;unfold tbl at this;omega⟩
  have t:=E4 h p g.ker ω F (O p.toNat ω ω);generalize newK h.G p=w at t |-;obtain⟨k,b⟩:=w;simp only at t |-;cases b with
  | false=>
   rw[CB rfl];refine fM 79 [(387,[2,0]),(2000010,[0,6])] [(1,267,[11,12,13,14,15,16,17,10,18,19,20,0,1,2,3,4,5,6,7,8,9,10,11,1009,1010,12,1010,13])] [(0,0),(0,0)] Tryz.func383 rfl (λu q=>?_)
   repeat'(first|refine gP ?_|(conv=>whnf);first|refine CG (C) ⟨bF h,trivial⟩ ?_|refine CG (l) ⟨⟨rfl,rfl⟩,⟨rfl,eR h.q⟩,⟨rfl,rfl⟩,trivial⟩ ?_|refine CK (t) (.inl rfl) ?_)
   refine CH rfl rfl ?_;exact wC
  | true=>
   rw[C9 (by simp)];refine fM 79 [(387,[2,0]),(2000010,[0,6])] [(1,267,[11,12,13,14,15,16,17,10,18,19,20,0,1,2,3,4,5,6,7,8,9,10,11,1009,1010,12,1010,13])] [(0,0),(0,0)] Tryz.func383 rfl (λu q=>?_)
   repeat'(first|refine gP ?_|(conv=>whnf);first|refine CG (C) ⟨bF h,trivial⟩ ?_|refine CG (l) ⟨⟨rfl,rfl⟩,⟨rfl,eR h.q⟩,⟨rfl,rfl⟩,trivial⟩ ?_|refine CK (t) (.inl rfl) ?_)
   (conv=>whnf)
   refine CF (ι:=Nat) (λi=>[(0,.H .box (bB {h with G:=k,q:=o})),(1,.H .one [I ((c:Nat):Int)]),(6,.H .one [I (p)]),(8,.H .one [I ((i:Nat):Int)])]) (λi=>i<=h.K.length/\∀(j:Nat)(z:ax),j<i->h.K[j]? = some z->H3 p z=false) (λi=>h.K.length - i) (0) ?_ (⟨W0 _,λj z W=>ω⟩) λi g=>?_
   ·exact wC
   obtain⟨P,G⟩:=g;have Q:({h with G:=k,q:=o} : ab).K.length=h.K.length:=rfl;by_cases R:i<h.K.length/\(nth h.K i).R<p
   ·have n:=ao R.1
    repeat'(first|refine gE ?_|(conv=>whnf);first|with_reducible refine CD (aa n) ?_|refine CC ?_|refine CJ rfl (aa n) rfl ?_)
    ((conv=>whnf);refine CE (i+1) ⟨ω,dz n (U0 ω) G⟩ ω ?_;(exact wC))
   have a:kN (H3 p) h.K=i:=wO ω G λz H=>by
    have S:=(O2.1 H).1;have:z=nth h.K i:=(bm H).symm;subst this;exact O0 ω
   have n:i<h.K.length->h.K[i]? = some (nth h.K i):=λT=>ao T
   rw[show addS h k o p (c:Nat) = {h with G:=k,q:=o,K:=h.K.take i++⟨p,(c:Nat),0⟩::h.K.drop i} by unfold addS;rw[w7 a],a]
   repeat'(first|refine gE ?_|(conv=>whnf);first|with_reducible (first|refine CD (aa (n ω)) ?_|refine Bf.D (λU=>?_) (λU=>?_))|refine CJ rfl (aa (n ω)) rfl ?_|refine G7.mk rfl (xA h.K) rfl ?_|refine CV i rfl (by rw[C1];omega) (aP λ_=>rfl) C4 ?_|refine Sl.suf i rfl (by rw[C1];omega) (aP λ_=>rfl) I4 ?_|refine CP (λ_=>rfl) (λ_=>rfl) (by rw[V1];omega) (by decide) ?_|refine Ap.sn (aP λ_=>rfl) rfl (by rw[C1,V1];omega) (by decide) rfl ?_|refine Ap.ins (e:=ax.enc .X) (y:=⟨p,(c:Nat),0⟩) rfl (λ_=>rfl) (λ_=>rfl) ω (by decide) ?_)
   all_goals
    refine CH rfl rfl ?_;exact wC
def EX{h:ab}{c:Int}{i:Nat}(a:i<h.K.length)(b:tw h c i=true)(d:∀j,j<i->tw h c j=false):uw h c=some i:=
 List.find?_range_eq_some.2 ⟨b,List.mem_range.2 a,λj e=>by rw[d j e];rfl⟩
def EM{h:ab}{c:Int}(a:∀j,j<h.K.length->tw h c j=false):uw h c=none:=
 List.find?_range_eq_none.2 λj b=>by rw[a j b];rfl
def uG{h:ab}{c:Int}{i:Nat}(a:tw h c i=false)(b:∀j,j<i->tw h c j=false):∀j,j<i+1->tw h c j=false:=λj d=>by
 by_cases e:j=i
 ·rw[e];exact a
 exact b j ω
def Lh(h:ab)(t:Nat)(c:aE):bB {h with T:=h.T.set t c} = (bB h).set 9 (.s .own ((h.T.map (aE.enc .own)).set t (aE.enc .own c))):=by
 simp[bB,I6]
def Nl{h:ab}{c:Nat}(b:aY h [])(l:c<=3)(e:h.G.Calls<=90000)(h1:¬(au h.q 1).2.2=false)(f:¬(newK h.G (au h.q 1).2.1).2=false):aY (rL h c) []/\ru h<(rL h c).K.length:=by
 have a:(au h.q 1).2.2=true:=by simpa using h1
 obtain⟨g,i,j,n⟩:=jR b (v5 1) a;have s:=we.of (p:=(au h.q 1).2.1) b.ker ω ⟨g,by have:(au h.q 1).2.1+1<=(h.G.F.Q.J.length:Nat):=i;omega⟩ (j _ ω ω);have d:(newK h.G (au h.q 1).2.1).2=true:=by simpa using f
 have k:we h.G (au h.q 1).2.1 ((newK h.G (au h.q 1).2.1).1,true):=by rw[<-d];exact s
 exact⟨b.addS (c:=c) ⟨ω,ω⟩ a k,(Dt (H3 (au h.q 1).2.1) h.K ⟨(au h.q 1).2.1,c,0⟩).1⟩
def z8(h:ab)(t c:Nat)(o:aY h [])(M:t<h.T.length)(N:c<=3)(p:h.G.Calls<=90000):aT Tryz.prog 236 false [.ptr (bB h),.val none [I (t:Nat)],.val none [I (c:Nat)]] [.ptr (bB (smallA h t c).1),.val none [I (t:Nat)],.val none [I (c:Nat)]] .one [I (smallA h t c).2]:=by
 have E:=o.cach _ (am M);have e:=ao M;have r:=wS (nth h.T t) c E N;have Q:=o.lens.spans;have B:=o;unfold Tr at r;by_cases F:0<(nth (nth h.T t).b c).length
 ·unfold smallA
  rw[CB F]at r |-;simp only;rw[Lh];refine fM 80 [(382,[2,0]),(383,[2,0])] [(3,6,[27,28,29,30,31,32])] [(0,0),(0,0),(0,0)] Tryz.func236 rfl (λu q=>?_)
  repeat'(first|refine gP ?_|(conv=>whnf);first|refine CG (r) ⟨⟨rfl,aE.enc_fz _⟩,⟨rfl,rfl⟩,trivial⟩ ?_|refine CQ rfl rfl (aa e) rfl (I1 rfl) rfl ?_)
  refine CH rfl rfl ?_;exact wC
 rw[C9 F]at r;have d:smallA h t c=match uw h c with
  | some i=>(slotT h i,vp h i)
  | none=>if(au h.q 1).2.2=false then(h,-1)
   else if(newK h.G (au h.q 1).2.1).2=false then({h with G:=(newK h.G (au h.q 1).2.1).1},-1)
   else oD (rL h c) (ru h):=by unfold smallA;exact C9 F
 refine fM 80 [(382,[2,0]),(383,[2,0])] [(3,6,[27,28,29,30,31,32])] [(0,0),(0,0),(0,0)] Tryz.func236 rfl (λu q=>?_)
 repeat'(first|refine gP ?_|(conv=>whnf);refine CG (r) ⟨⟨rfl,aE.enc_fz _⟩,⟨rfl,rfl⟩,trivial⟩ ?_)
 (conv=>whnf)
 refine CF (ι:=Nat) (λi=>[(0,.H .box (bB h)),(1,.H .one [I ((t:Nat):Int)]),(2,.H .one [I ((c:Nat):Int)]),(10,.H .one [I ((i:Nat):Int)])]) (λi=>i<=h.K.length/\∀j,j<i->tw h c j=false) (λi=>h.K.length - i) (0) ?_ (⟨W0 _,λj W=>ω⟩) λi o=>?_
 ·exact wC
 obtain⟨R,w⟩:=o;by_cases C:i<h.K.length
 ·have l:=ao C
  by_cases O:(nth h.K i).d=c
  ·have y:=vG h (nth h.K i).R
   cases D:gq h (nth h.K i).R with
   | true=>
    rw[D]at y
    repeat'(first|refine gB ?_|(conv=>whnf);refine CG (y) ⟨bF h,⟨rfl,rfl⟩,trivial⟩ ?_)
    ((conv=>whnf);refine CE (i+1) ⟨ω,uG (by unfold tw;rw[D];simp) w⟩ ω ?_;(exact wC))
   | false=>
    rw[D]at y;have n:=tC h [] i B C;unfold oD at n;by_cases P:(nw h i).length=0
    ·rw[CB P]at n
     repeat'(first|refine gB ?_|(conv=>whnf);first|refine CG (y) ⟨bF h,⟨rfl,rfl⟩,trivial⟩ ?_|refine CK (n) (.inl rfl) ?_)
     ((conv=>whnf);refine CE (i+1) ⟨ω,uG (by unfold tw;rw[U0 (by omega:¬0<(nw h i).length)];simp) w⟩ ω ?_;(exact wC))
    rw[C9 P]at n;have G:uw h c=some i:=EX C (by unfold tw;rw[O0 O,D,O0 ω];rfl) w;rw[G]at d;simp only at d;obtain⟨S,T⟩:=B.slotT C (by omega:0<(nw h i).length);have H:=k6.nn S T;rw[d];generalize slotT h i=g at n |-;generalize vp h i=a at n H |-
    repeat'(first|refine gB ?_|(conv=>whnf);first|refine CG (y) ⟨bF h,⟨rfl,rfl⟩,trivial⟩ ?_|refine CK (n) (.inl rfl) ?_)
    refine CH rfl rfl ?_;exact wC
  repeat'(first|refine gB ?_|(conv=>whnf);first|with_reducible refine CD (aa l) ?_|refine CJ rfl (aa l) rfl ?_)
  ((conv=>whnf);refine CE (i+1) ⟨ω,uG (by unfold tw;rw[U0 O];rfl) w⟩ ω ?_;(exact wC))
 obtain rfl:i=h.K.length:=ω
 have G:uw h c=none:=EM w;rw[G]at d;simp only at d;have k:=DO h [] c B p;rw[d];unfold Jj at k;by_cases J:(au h.q 1).2.2=false
 ·rw[CB J]at k |-
  repeat'(first|refine gE ?_|(conv=>whnf);refine CK (k) (.inl rfl) ?_)
  refine CH rfl rfl ?_;exact wC
 rw[C9 J]at k |-;by_cases K:(newK h.G (au h.q 1).2.1).2=false
 ·rw[CB K]at k |-
  repeat'(first|refine gE ?_|(conv=>whnf);refine CK (k) (.inl rfl) ?_)
  refine CH rfl rfl ?_;exact wC
 rw[C9 K]at k |-;obtain⟨U,V⟩:=Nl B N p J K;have L:=tC (rL h c) [] (ru h) U V;generalize rL h c=g at k L |-;generalize ru h=b at k L |-
 repeat'(first|refine gE ?_|(conv=>whnf);first|refine CK (k) (.inl rfl) ?_|refine CK (L) (.inl rfl) ?_)
 refine CH rfl rfl ?_;exact wC
def LH(h:ab)(size:Int):ab × Int:=
 if(au h.q (gZ size:Nat)).2.2=false then(h,-1)
 else if(dP h size).2=gZ size then({h with G:=(dP h size).1,q:=(au h.q (gZ size:Nat)).1,M:=jL (QT (au h.q (gZ size:Nat)).2.1) h.M ⟨(au h.q (gZ size:Nat)).2.1,(gZ size:Nat),size⟩},16*(au h.q (gZ size:Nat)).2.1)
 else({h with G:=unmN (dP h size).1 (au h.q (gZ size:Nat)).2.1 (dP h size).2},-1)
def xW(k:af)(p:Int)(i:Nat):newsK k p (i+1)=if(newsK k p i).2=i then((newK (newsK k p i).1 (p+(i:Nat))).1,if(newK (newsK k p i).1 (p+(i:Nat))).2=true then i+1 else i) else newsK k p i:=rfl
def F7(k:af)(p:Int):∀i,(newsK k p i).2<=i
 | 0=>C3 _
 | i+1=>by
  have b:=F7 k p i;rw[xW];by_cases e:(newsK k p i).2=i
  ·rw[CB e]
   show(if _ then i+1 else i)<=i+1;by_cases a:(newK (newsK k p i).1 (p+(i:Nat))).2=true
   ·rw[CB a];exact C3 _
   rw[C9 a];exact Nat.le_succ _
  rw[C9 e];omega
def oq{k:af}{p:Int}{i:Nat}(h:(newsK k p i).2≠i):∀j,newsK k p (i+j)=newsK k p i/\(newsK k p (i+j)).2<i+j
 | 0=>⟨rfl,by show(newsK k p i).2<i;have:=F7 k p i;omega⟩
 | j+1=>by
  have a:=oq h j;have e:newsK k p (i+(j+1))=newsK k p (i+j):=by
   show newsK k p (i+j+1)=_;rw[xW,C9 ω]
  exact⟨e.trans a.1,by rw[e];omega⟩
def zn(h:ab)(size:Int)(l:aY h [])(C:9<=size/\size<=1000)(V:h.G.Calls<=90000):aT Tryz.prog 237 false [.ptr (bB h),.val none [I size]] [.ptr (bB (LH h size).1),.val none [I size]] .one [I (LH h size).2]:=by
 have E:=l.lens;have W:=E.larges;have Q:=l;have F:eQ h<=32:=E.ents;have G:fN size=((gZ size:Nat):Int):=by unfold fN gZ;split<;>omega
 have hN:1<=gZ size/\gZ size<=63:=by unfold gZ;omega
 have H:=mD size;rw[G]at H;have R:=i7 h;have t:=pT (eQ h:Nat) h.q (gZ size:Nat) ⟨ω,ω⟩ l.rng ⟨ω,ω⟩ (by have:=E.free;omega);unfold Tn at t;have b:=jR l (show(1:Int)<=(gZ size:Nat) by omega);unfold LH dP;generalize gZ size=N at *;generalize au h.q (N:Nat)=r at t b |-;obtain⟨J,p,ok⟩:=r;simp only at t b |-;refine fM 105 [(387,[2,0]),(388,[2,0]),(2000018,[0,7])] [(2,268,[16,17,18,19,20,21,22,23,15,24,25,26,0,1,2,3,4,5,6,7,8,9,10,11,12,1010,1011,13,1011,14])] [(0,0),(0,0)] Tryz.func237 rfl (λu q=>?_);cases ok with
 | false=>
  rw[CB rfl]
  repeat'(first|refine gP ?_|(conv=>whnf);first|refine CG (R) ⟨bF h,trivial⟩ ?_|refine CG (t) ⟨⟨rfl,rfl⟩,⟨rfl,eR h.q⟩,⟨rfl,rfl⟩,trivial⟩ ?_)
  refine CH rfl rfl ?_;exact wC
 | true=>
  rw[C9 (by simp)];obtain⟨S,K,B,u4⟩:=b rfl;change p+(N:Nat)<=(h.G.F.Q.J.length:Nat) at K;change ∀q:Nat,p<=q->(q:Int)<p+(N:Nat)->(nth h.G.F.Q.J q).j=0 at B
  have X:h.G.F.Q.J.length<=32:=F
  repeat'(first|refine gP ?_|(conv=>whnf);first|refine CG (R) ⟨bF h,trivial⟩ ?_|refine CG (t) ⟨⟨rfl,rfl⟩,⟨rfl,eR h.q⟩,⟨rfl,rfl⟩,trivial⟩ ?_)
  (conv=>whnf)
  refine CF (ι:=Nat) (λi=>[(0,.H .box (bB {h with G:=(newsK h.G p i).1})),(1,.H .one [I (size)]),(5,.H .one [I ((N:Nat):Int)]),(6,.H .one (bN .own J)),(7,.H .one [I (p)]),(9,.H .one [I ((i:Nat):Int)])]) (λi=>i<=N/\(newsK h.G p i).2=i) (λi=>N - i) (0) ?_ (⟨W0 _,rfl⟩) λi l=>?_
  ·exact wC
  obtain⟨L,M⟩:=l;have s:=lX.of (p:=p) (n:=N) Q.ker ω ⟨S,K⟩ B i L;have Y:=s.calls;have Z:=s.len;by_cases li:i<N
  ·have O:(nth (newsK h.G p i).1.F.Q.J (p+(i:Nat)).toNat).j=0:=by
    rw[s.out _ (by rw[M];omega)];exact B _ ω ω
   have c:=E4 {h with G:=(newsK h.G p i).1} (p+(i:Nat)) s.ker (by show(newsK h.G p i).1.Calls≠100000;omega) ⟨ω,by show p+(i:Nat)<((newsK h.G p i).1.F.Q.J.length:Nat);omega⟩ O;have a:newsK h.G p (i+1)=((newK (newsK h.G p i).1 (p+(i:Nat))).1,if(newK (newsK h.G p i).1 (p+(i:Nat))).2=true then i+1 else i):=by
    show(if(newsK h.G p i).2=i then _ else _)=_;rw[CB M]
   simp only at c;cases e:(newK (newsK h.G p i).1 (p+(i:Nat))).2 with
   | true=>
    rw[e]at c a;rw[CB rfl]at a;have P:(newK (newsK h.G p i).1 (p+(i:Nat))).1=(newsK h.G p (i+1)).1:=by rw[a]
    rw[P]at c
    repeat'(first|refine gE ?_|(conv=>whnf);refine CK (c) (.inl rfl) ?_)
    ((conv=>whnf);refine CE (i+1) ⟨ω,by rw[a]⟩ ω ?_;(exact wC))
   | false=>
    rw[e]at c a;rw[C9 (by simp)]at a;have d:=oq (k:=h.G) (p:=p) (i:=i+1) (by rw[a];simp only;omega) (N - (i+1));rw[show i+1+(N - (i+1))=N by omega]at d;rw[d.1]at d;have T:=lX.of (p:=p) (n:=N) Q.ker ω ⟨S,K⟩ B (i+1) ω;rw[C9 (by have:=oq (k:=h.G) (p:=p) (i:=i+1) (by rw[a];simp only;omega) (N - (i+1));rw[show i+1+(N - (i+1))=N by omega]at this;omega)];rw[show newsK h.G p N=newsK h.G p (i+1) by have:=oq (k:=h.G) (p:=p) (i:=i+1) (by rw[a];simp only;omega) (N - (i+1));rw[show i+1+(N - (i+1))=N by omega]at this;exact this.1];rw[a]at T |-;have g:=T.ker;simp only at g |-;generalize (newK (newsK h.G p i).1 (p+(i:Nat))).1=k at c g |-
    repeat'(first|refine gE ?_|(conv=>whnf);refine CK (c) (.inl rfl) ?_)
    (conv=>whnf)
    refine CF (ι:=Nat) (λj=>[(0,.H .box (bB {h with G:=unmN k p j})),(1,.H .one [I (size)]),(5,.H .one [I ((N:Nat):Int)]),(7,.H .one [I (p)]),(9,.H .one [I ((i:Nat):Int)]),(10,.H .one [I ((j:Nat):Int)])]) (λj=>j<=i) (λj=>i - j) (0) ?_ (W0 _) λj hj=>?_
    ·exact wC
    have c4:=oh {h with G:=unmN k p j} (p+(j:Nat)) (jh g p j);by_cases lj:j<i
    ·repeat'(first|refine gE ?_|(conv=>whnf);refine CK (c4) (.inl rfl) ?_)
     ((conv=>whnf);refine CE (j+1) ω ω ?_;(exact wC))
    obtain rfl:j=i:=ω
    repeat'(first|refine gE ?_|(conv=>whnf);refine CC ?_)
    refine CH rfl rfl ?_;exact wC
  obtain rfl:i=N:=ω
  rw[CB M];generalize (newsK h.G p i).1=k
  repeat'(first|refine gE ?_|(conv=>whnf);refine CC ?_)
  (conv=>whnf)
  refine CF (ι:=Nat) (λm=>[(0,.H .box (bB {h with G:=k,q:=J})),(1,.H .one [I (size)]),(5,.H .one [I ((i:Nat):Int)]),(7,.H .one [I (p)]),(11,.H .one [I ((m:Nat):Int)])]) (λm=>m<=h.M.length/\∀(j:Nat)(z:aB),j<m->h.M[j]? = some z->QT p z=false) (λm=>h.M.length - m) (0) ?_ (⟨W0 _,λj z hj=>ω⟩) λm hm=>?_
  ·exact wC
  obtain⟨hm',U⟩:=hm;have hl2:({h with G:=k,q:=J} : ab).M.length=h.M.length:=rfl;by_cases go:m<h.M.length/\(nth h.M m).R<p
  ·have o:=ao go.1
   repeat'(first|refine gE ?_|(conv=>whnf);first|with_reducible refine CD (aa o) ?_|refine CC ?_|refine CJ rfl (aa o) rfl ?_)
   ((conv=>whnf);refine CE (m+1) ⟨ω,dz o (U0 ω) U⟩ ω ?_;(exact wC))
  have w:kN (QT p) h.M=m:=wO ω U λz C=>by
   have hlt:=(O2.1 C).1;have:z=nth h.M m:=(bm C).symm;subst this;exact O0 ω
  have o:m<h.M.length->h.M[m]? = some (nth h.M m):=λhh=>ao hh
  rw[w7 w]
  repeat'(first|refine gE ?_|(conv=>whnf);first|with_reducible (first|refine CD (aa (o ω)) ?_|refine Bf.D (λhq=>?_) (λhq=>?_))|refine CJ rfl (aa (o ω)) rfl ?_|refine G7.mk rfl (uY h.M) rfl ?_|refine CV m rfl (by rw[C1];omega) (aP λ_=>rfl) C4 ?_|refine Sl.suf m rfl (by rw[C1];omega) (aP λ_=>rfl) I4 ?_|refine CP (λ_=>rfl) (λ_=>rfl) (by rw[V1];omega) (by decide) ?_|refine Ap.sn (aP λ_=>rfl) rfl (by rw[C1,V1];omega) (by decide) rfl ?_|refine Ap.ins (e:=aB.enc .X) (y:=⟨p,(i:Nat),size⟩) rfl (λ_=>rfl) (λ_=>rfl) ω (by decide) ?_)
  all_goals
   refine CH rfl ?_ ?_
   ·exact X0 (λz=>[I z]) ω
   exact wC
def vC{k:af}(h:ay k=true)(b:fJ k.w):af.wf k:=by
 obtain⟨p,f,g,q,t⟩:=a8.1 h;obtain⟨u,w,y,A⟩:=aS.1 f;obtain⟨i,B,C⟩:=br.1 g;refine⟨⟨⟨⟨ω,λr b=>?_⟩,⟨ω,λ_ _=>trivial⟩⟩,⟨ω,λe l=>?_⟩⟩,⟨ω,ω⟩,b⟩
 ·obtain⟨j,c,rfl⟩:=aL b
  obtain⟨D,n⟩:=uL h c;exact⟨ω,λv o=>by have:=n v o;exact⟨ω,ω⟩⟩
 obtain⟨j,c,rfl⟩:=aL l;have a:=i j c;unfold kH at a;rw[C0]at a;by_cases d:(nth k.F.Q.J j).j=0
 ·have:=a.2.2.1 d;exact⟨⟨ω,ω⟩,⟨ω,ω⟩⟩
 have:=a.2.2.2 d;exact⟨⟨ω,ω⟩,⟨ω,ω⟩⟩
def JU{p:bY}(h:eO p=true):bY.wf p:=by
 have a:=λi b=>fx h (i:=i) b
 have e:p.S.length<=16:=lD h;unfold eO at h;simp only[I0,C0]at h;exact⟨⟨ω,ω⟩,⟨ω,ω⟩,⟨ω,λv c=>by
   obtain⟨j,d,rfl⟩:=aL c;have:=a j d;exact⟨ω,ω⟩⟩⟩
def aY.jobWf{h:ab}{E:List Int}(a:aY h E):cn.wf h.Y/\cn.sml h.Y:=by
 cases b:h.o with
 | true=>
  obtain⟨c,f,g,i,j⟩:=cK.1 (a.job b).1;have k:=lD c;exact⟨⟨JU c,⟨ω,ω⟩,⟨ω,ω⟩⟩,by show h.Y.W.S.length<=1048576;omega⟩
 | false=>
  have:=a.noj b;unfold qI at this;rw[C0]at this;obtain⟨l,n,e,o,p⟩:=this;refine⟨⟨⟨⟨ω,ω⟩,⟨ω,ω⟩,⟨ω,λv d=>?_⟩⟩,⟨ω,ω⟩,⟨ω,ω⟩⟩,by show h.Y.W.S.length<=1048576;omega⟩;rw[S7 e]at d;cases d
def x5{n:Int}(h:0<=aJ n):1<=n/\n<=8:=by
 unfold aJ at h
 repeat' split at h
 all_goals omega
def k6.wf{h:ab}{E:List Int}(b:aY h E){a c:Int}(d:k6 h.K a c):nq a:=by
 have:=d.bd b;exact⟨ω,ω⟩
def aY.wf{h:ab}{E:List Int}(d:aY h E)(M:fJ h.G.w):ab.wf h:=by
 have q:=d.lens;have r:=d.L;have D:=d.nums;unfold cj at D;rw[C0]at D;obtain⟨X,N,Y⟩:=fG.1 d.rng;obtain⟨O,-,-,Z,q5,-⟩:=ki.1 d.quar;have w:=d.mail;have k:=d.hfl;unfold aN at k;rw[CB w]at k;unfold bO at w;simp only[I0,C0,cA,hC,v4,nR,PR]at w;obtain⟨⟨⟨m1,m2,m3⟩,P⟩,m5⟩:=w;have A:=q.free;have Q:=q.spans;have h3:=q.larges;have h4:=q.objs;have h5:=q.caches;have h6:=q.quar;have t:∀n:Nat,bx h.y n<=bx h.y (n+1):=λn=>by simp only[bx];omega
 have g:∀a b:Nat,a<=b->bx h.y a<=bx h.y b:=λa b u=>by
  induction u with
  | refl=>exact v5 _
  | step _ R=>exact t5 R (t _)
 have B:∀n:Nat,0<=bx h.y n:=λn=>g 0 n (W0 _)
 have o:∀i,i<h.y.U.length->(nth h.y.U i).length<=30/\(nth h.y.a1 i).length<=30:=λi f=>by
  have F:=g (i+1) h.y.U.length ω;have S:=B i;simp only[bx]at F;omega
 refine⟨vC d.ker M,⟨ω,λx e=>?_⟩,⟨ω,λx e=>?_⟩,⟨ω,λx e=>?_⟩,⟨ω,λx e=>?_⟩,⟨ω,λx e=>?_⟩,⟨⟨ω,λl c=>?_⟩,⟨ω,λl c=>?_⟩⟩,⟨⟨ω,ω⟩,⟨ω,λx e=>?_⟩⟩,⟨ω,ω⟩,⟨ω,ω⟩,⟨ω,ω⟩,⟨ω,ω⟩,trivial,d.jobWf.1⟩
 ·have:=N x e;exact⟨⟨ω,ω⟩,⟨ω,ω⟩⟩
 ·have y:=r.sok x e
  have G:=eX y;have T:=aF y;exact⟨⟨ω,ω⟩,⟨ω,ω⟩,⟨ω,ω⟩⟩
 ·have H:=aO (r.lok x e)
  have J:=cS (r.lok x e);exact⟨⟨ω,ω⟩,⟨ω,ω⟩,⟨ω,ω⟩⟩
 ·obtain⟨o1,o2,o3,o4⟩:=d.onu x e
  have u:0<=x.Addr/\x.Addr<512/\-1000<=x.u/\x.u<=1000:=by
   rcases d.oow x e with⟨s,y,A,Q⟩|⟨l,c,F,S⟩
   ·have T:=aF (r.sok s y)
    have:=x5 (n:=x.u) ω;exact⟨by have:=A.1;omega,by have:=A.2.1;omega,ω,ω⟩
   have H:=aO (r.lok l c);have J:=cS (r.lok l c);omega
  exact⟨⟨ω,ω⟩,⟨ω,ω⟩,⟨ω,ω⟩,⟨ω,ω⟩⟩
 ·obtain⟨c1,U⟩:=q.lists x e
  refine⟨ω,λl c=>⟨by have:=U l c;omega,λa C=>?_⟩⟩;obtain⟨j,V,rfl⟩:=aL c;exact k6.wf d (d.hca x e j V a C)
 ·obtain⟨i,f,rfl⟩:=aL c
  have G:=o i f;refine⟨ω,λp K=>?_⟩;have W:=(P i f).1 p K;exact⟨⟨ω,ω⟩,k6.wf d (k p.Addr (z3.2 (.inl (List.mem_flatMap.2 ⟨_,am f,O4.2 ⟨p,K,rfl⟩⟩))))⟩
 ·obtain⟨i,f,rfl⟩:=aL c
  have G:=o i ω;exact⟨ω,λa C=>k6.wf d (k a (z3.2 (.inr (List.mem_flatten.2 ⟨_,am f,C⟩))))⟩
 have H:=O x e;have J:=d.snc x e;exact⟨k6.wf d (d.hqu x e),⟨ω,ω⟩,⟨ω,ω⟩⟩
structure Tj(h:ab):Prop where
 ker:ay h.G=true
 wf:ab.wf h
 sml:ab.sml h
 lens:KN h
def aY.fit{h:ab}{E:List Int}(a:aY h E)(b:fJ h.G.w)(c:aK.sml h.y):Tj h:=⟨a.ker,a.wf b,a.lens.sml a.ker c a.jobWf.2,a.lens⟩
def aY.mStep0{h:ab}(b:aY h [])(c:h.o=true)(a:lC h=false):aY (Ab.mStep h) []:=by
 have s:=JS.of b c;unfold lC at a;rw[X4]at a;unfold Ab.mStep;generalize (dU h.G h.Y).1=k at s a |-;generalize (dU h.G h.Y).2=j at s a |-;cases e:over j with
 | true=>exact b.step s.ker s.len (s.pg (.inl a)) (λh=>by simp at h) (λ_=>by simp[qI])
 | false=>
  simp only[Bool.false_eq_true,if_false];exact b.step s.ker s.len (s.pg (.inl a)) (λ_=>⟨cK.2 ⟨by rw[s.plan];exact(cK.1 (b.job c).1).1,s.ph.1,s.ph.2,s.nxt⟩,by rw[s.plan];exact(b.job c).2⟩) (λh=>by rw[c]at h;cases h)
def og{h:ab}(b:aY h [])(c:h.o=true):ay (mStep h).G=true/\(mStep h).G.Calls<=h.G.Calls+1/\(mStep h).G.w=h.G.w/\(mStep h).y=h.y/\(lC h=true->(mStep h).o=false)/\cn.wf (mStep h).Y/\cn.sml (mStep h).Y:=by
 have s:=JS.of b c;refine⟨s.ker,s.calls.2.1,s.calls.2.2,rfl,λa=>?_,?_⟩
 ·unfold lC at a
  rw[C0]at a;show(if over _=true then false else h.o)=false;rw[CB (show over (dU h.G h.Y).2=true from O0 (.inl a))]
 show cn.wf (if over _=true then _ else _)/\cn.sml (if over _=true then _ else _);split
 ·exact⟨⟨⟨⟨by decide,by decide⟩,⟨by decide,by decide⟩,⟨by decide,λv f=>by cases f⟩⟩,⟨by decide,by decide⟩,⟨by decide,by decide⟩⟩,by show(0:Nat)<=1048576;omega⟩
 have d:=(cK.1 (b.job c).1).1;have g:=lD d;obtain⟨j,k⟩:=s.ph;obtain⟨l,i⟩:=s.nxt;have e:=s.plan;refine⟨⟨by rw[e];exact JU d,⟨ω,ω⟩,⟨ω,by rw[e]at i;omega⟩⟩,by show((dU h.G h.Y).2.W.S).length<=1048576;rw[e];omega⟩
def HN{h:ab}(a:KN h)(b:ay (mStep h).G=true):KN (mStep h):=by
 obtain⟨n,c,d,o,p,q,e⟩:=a8.1 b;obtain⟨t,f,u,g⟩:=aS.1 c;obtain⟨w,y,i⟩:=br.1 d;refine⟨f,λr k=>?_,ω,i,e,a.free,a.spans,a.larges,a.objs,a.caches,a.lists,a.quar⟩;obtain⟨j,l,rfl⟩:=aL k;have:=g j l;unfold gY at this;simp only[I0,C0]at this;exact this.1
def eS(h:ab):Nat->ab × Bool
 | 0=>(h,false)
 | i+1=>if(eS h i).1.o=true then(mStep (eS h i).1,lC (eS h i).1) else eS h i
def fin(h:ab):ab × Bool:=eS h 100
structure QW(h:ab)(c:Int)(g:ab × Bool):Prop where
 inv:g.2=false->aY g.1 []
 done:g.2=true->g.1.o=false
 fit:Tj g.1
 calls:g.1.G.Calls<=h.G.Calls+c
 ref:g.1.G.w=h.G.w
 mail:g.1.y=h.y
def wM{h:ab}(f:aY h [])(g:fJ h.G.w)(j:aK.sml h.y):∀i:Nat,QW h i (eS h i)
 | 0=>⟨λ_=>f,λe=>(by cases e),f.fit g j,by show h.G.Calls<=h.G.Calls+((0:Nat):Int);omega,rfl,rfl⟩
 | i+1=>by
  have b:=wM f g j i;unfold eS;split
  ·rename_i e
   have n:(eS h i).2=false:=by
    cases o:(eS h i).2 with
    | false=>rfl
    | true=>rw[b.done o]at e;cases e
   have k:=b.inv n;obtain⟨d,w,l,p,q,r,t⟩:=og k e;have y:=b.calls;have a:=b.fit.wf;have c:=b.fit.sml;refine⟨λu=>k.mStep0 e u,q,⟨d,?_,?_,HN b.fit.lens d⟩,by simp only;omega,l.trans b.ref,p.trans b.mail⟩
   ·exact⟨vC d (by rw[l,b.ref];exact g),a.2.1,a.2.2.1,a.2.2.2.1,a.2.2.2.2.1,a.2.2.2.2.2.1,a.2.2.2.2.2.2.1,a.2.2.2.2.2.2.2.1,a.2.2.2.2.2.2.2.2.1,a.2.2.2.2.2.2.2.2.2.1,a.2.2.2.2.2.2.2.2.2.2.1,a.2.2.2.2.2.2.2.2.2.2.2.1,trivial,r⟩
   exact⟨bk d,c.2.1,c.2.2.1,c.2.2.2.1,c.2.2.2.2.1,c.2.2.2.2.2.1,c.2.2.2.2.2.2.1,c.2.2.2.2.2.2.2.1,t⟩
  exact⟨b.inv,b.done,b.fit,by have:=b.calls;omega,b.ref,b.mail⟩
def N2{h:ab}(a:aY h [])(b:fJ h.G.w)(c:aK.sml h.y):QW h (100:Nat) (fin h):=wM a b c 100
def Be{h:ab}{i:Nat}(a:(eS h i).1.o=false):∀k,eS h (i+k)=eS h i
 | 0=>rfl
 | k+1=>by
  have b:=Be a k;have c:eS h (i+(k+1))=if(eS h (i+k)).1.o=true then(mStep (eS h (i+k)).1,lC (eS h (i+k)).1) else eS h (i+k):=rfl
  rw[c,b,C9 (by rw[a];simp)]
def MU{h:ab}{i:Nat}(a:(eS h i).1.o=false)(b:i<=100):fin h=eS h i:=by
 have:=Be a (100 - i)
 rwa [show i+(100 - i)=100 by omega]at this
def pm{h:ab}(g:aY h []):aY (started h).1 []/\(started h).1.G=h.G/\(started h).1.y=h.y:=by
 have t:=g.nums;unfold cj at t;rw[C0]at t;have u:=(kb (bi h).length (show 0<=h.c0/\h.c0<=1073741823 by omega) ((bi h).length - 1)).2;have j:=lF (bi h) (show 0<=h.c0/\h.c0<=1073741823 by omega);have c:cj {h with c0:=(shuf (bi h).length h.c0).2} = true:=by
  unfold cj;rw[C0];unfold shuf;simp only;omega
 cases k:iX (bi h) h.c0 with
 | nil=>
  have f:Ab.started h=({h with c0:=(shuf (bi h).length h.c0).2},false):=by unfold Ab.started;rw[k]
  rw[f];exact⟨{g with nums:=c},rfl,rfl⟩
 | cons q C=>
  obtain⟨D,E,l⟩:=j q (by rw[k];exact W1 ..);have f:Ab.started h=({h with c0:=(shuf (bi h).length h.c0).2,o:=true,Y:=sY (cX (nth (bi h) q.A.toNat) (nth (bi h) q.B.toNat))},true):=by unfold Ab.started;rw[k]
  rw[f];have d:∀s∈bi h,s∈h.K:=λs w=>ni h (C3 _) s (List.mem_of_mem_take w)
  have n:=d _ (am (xs:=bi h) (i:=q.A.toNat) ω);have o:=d _ (am (xs:=bi h) (i:=q.B.toNat) ω);generalize nth (bi h) q.A.toNat=a at l n |-;generalize nth (bi h) q.B.toNat=b at l o |-;obtain⟨y,F,G⟩:=qt l;have p:j9 (sY (cX a b))=true:=cK.2 ⟨y,by show(0:Int)<=0;omega,by show(0:Int)<=5;omega,by show(0:Int)<=0;omega,by show(0:Int)<=(((cX a b).S.length:Nat):Int);omega⟩;have r:(∃s∈h.K,s.R=(cX a b).a2)/\∃s∈h.K,s.R=(cX a b).a0:=by
   unfold cX;split
   ·exact⟨⟨b,o,rfl⟩,⟨a,n,rfl⟩⟩
   exact⟨⟨a,n,rfl⟩,⟨b,o,rfl⟩⟩
  exact⟨{g with nums:=c,job:=λ_=>⟨p,r⟩,noj:=λe=>by cases e},rfl,rfl⟩
def iW(h:ab):Nat->ab × Nat
 | 0=>((fin h).1,(fin h).2.toNat)
 | i+1=>if(meshSt (iW h i).1).2=true then((fin (meshSt (iW h i).1).1).1,(iW h i).2+(fin (meshSt (iW h i).1).1).2.toNat) else((meshSt (iW h i).1).1,(iW h i).2)
structure QV(h:ab)(i:Nat)(g:ab × Nat):Prop where
 fit:Tj g.1
 calls:g.1.G.Calls<=h.G.Calls+100*(i+1)
 ref:g.1.G.w=h.G.w
 mail:g.1.y=h.y
 cnt:g.2<=i+1
def Aq{h:ab}(d:Tj h)(f:fJ h.G.w)(g:aK.sml h.y):Tj (meshSt h).1/\(meshSt h).1.G=h.G/\(meshSt h).1.y=h.y/\((meshSt h).2=true->aY (meshSt h).1 []):=by
 unfold meshSt;split
 ·rename_i e
  obtain⟨a,b,c⟩:=pm (aY.of e.2);exact⟨a.fit (by rw[b];exact f) (by rw[c];exact g),b,c,λ_=>a⟩
 exact⟨d,rfl,rfl,λe=>by cases e⟩
def De{h:ab}(k:aY h [])(c:fJ h.G.w)(d:aK.sml h.y):∀i:Nat,QV h i (iW h i)
 | 0=>by
  have s:=N2 k c d;show QV h 0 ((fin h).1,(fin h).2.toNat);generalize fin h=f at s |-;have l:f.2.toNat<=1:=by cases f.2<;>decide
  exact⟨s.fit,by have:=s.calls;show f.1.G.Calls<=_;omega,s.ref,s.mail,l⟩
 | i+1=>by
  have a:=De k c d i;obtain⟨n,b,g,o⟩:=Aq a.fit (by rw[a.ref];exact c) (by rw[a.mail];exact d);have p:=a.calls;have q:=a.cnt;unfold iW;split
  ·rename_i e
   have s:=N2 (o e) (by rw[b,a.ref];exact c) (by rw[g,a.mail];exact d);generalize fin (meshSt (iW h i).1).1=f at s |-;have l:f.2.toNat<=1:=by cases f.2<;>decide
   have j:=s.calls;rw[b]at j;exact⟨s.fit,by show f.1.G.Calls<=_;omega,s.ref.trans (by rw[b];exact a.ref),s.mail.trans (g.trans a.mail),by simp only;omega⟩
  exact⟨n,by simp only[b];omega,by simp only[b];exact a.ref,g.trans a.mail,by simp only;omega⟩
def aY.objSz{h:ab}{E:List Int}(a:aY h E):∀o∈h.O,0<=o.u/\o.u<=1000:=λx c=>by
 rcases a.oow x c with⟨s,d,e,f⟩|⟨l,b,g,i⟩
 ·have j:=aF (a.L.sok s d)
  have:=x5 (n:=x.u) ω;omega
 have k:=cS (a.L.lok l b);omega
def KF{h:ab}(t:Int){size:Int}(c:aY h [])(d:9<=size/\size<=1000):largeA h t size=if(LH h size).2<0 then((LH h size).1,-1,4) else(addO (LH h size).1 (LH h size).2 size t,(LH h size).2,0):=by
 unfold largeA LH;by_cases a:(au h.q (gZ size:Nat)).2.2=false
 ·rw[CB a,CB a]
  exact(CB (show(-1:Int)<0 by decide)).symm
 rw[C9 a,C9 a];obtain⟨e,-⟩:=jR c (show(1:Int)<=(gZ size:Nat) by unfold gZ;omega) (by simpa using a);by_cases b:(dP h size).2=gZ size
 ·rw[CB b,CB b]
  exact(C9 (show ¬16*(au h.q (gZ size:Nat)).2.1<0 by omega)).symm
 rw[C9 b,C9 b];exact(CB (show(-1:Int)<0 by decide)).symm
def zo(h:ab)(t size:Int)(k:aY h []):aT Tryz.prog 71 false [.ptr (bB h),.val none [I t],.val none [I size]] [.ptr (bB (allocH h t size).1),.val none [I t],.val none [I size]] (.tup [none,none]) [I (allocH h t size).2.1,I (allocH h t size).2.2]:=by
 have X:=k.lens;have hlc:=X.caches;have P:=X.objs;have p:=k.nums;unfold cj at p;rw[C0]at p;have Q:=uE k.objSz h.O.length (C3 _);change 0<=ui h/\ui h<=_ at Q;have n:=aH t 0 ((h.T.length:Int) - 1);have r:=aH size 1 1000;have E:=yh h k.objSz ω;have F:=kK size;refine fM 119 [(236,[2,0,0]),(237,[2,0])] [(7,10,[36,37,38,39,40,41,42,43,44,45]),(18,272,[81,82,83,84,85,86,87,89,90,91,92,93,94,95,96,97,0,1,2,3,4,5,6,8,9,10,11,12,13,14,15,16,1016,7,1008,1009,1010,1011,1012,1013,1014,1015,1016,17,18]),(1048594,0,[8])] [(0,0),(0,0),(0,0)] Tryz.func71 rfl (λu q=>?_) (.inr ⟨trivial,trivial,trivial⟩);unfold allocH;by_cases h1:1000000<=h.a
 ·rw[CB (.inl h1)]
  repeat'(first|refine gE ?_|(conv=>whnf);refine CC ?_)
  refine CH rfl rfl ?_;exact wC
 by_cases h2:90000<h.G.Calls
 ·rw[CB (.inr h2)]
  repeat'(first|refine gE ?_|(conv=>whnf);first|with_reducible refine Bf.D (λb=>?_) (λb=>?_)|refine CC ?_)
  refine CH rfl rfl ?_;exact wC
 rw[C9 ω];by_cases C:¬(0<=t/\t<=h.T.length - 1)
 ·rw[CB C]
  rw[U0 C]at n
  repeat'(first|refine gE ?_|(conv=>whnf);first|with_reducible refine Bf.D (λb=>?_) (λb=>?_)|refine CC ?_|refine C8 (n) ?_)
  refine CH rfl rfl ?_;exact wC
 rw[C9 C];replace C:=Decidable.not_not.1 C;rw[O0 C]at n;by_cases B:¬(1<=size/\size<=1000)
 ·rw[CB B]
  rw[U0 B]at r
  repeat'(first|refine gE ?_|(conv=>whnf);first|with_reducible refine Bf.D (λb=>?_) (λb=>?_)|refine CC ?_|refine C8 (n) ?_|refine C8 (r) ?_)
  refine CH rfl rfl ?_;exact wC
 rw[C9 B];replace B:=Decidable.not_not.1 B;rw[O0 B]at r;by_cases Y:h.c3<ui h+size
 ·rw[CB Y]
  repeat'(first|refine gE ?_|(conv=>whnf);refine CG (E) ⟨⟨rfl,bF h⟩,trivial⟩ ?_)
  refine CH rfl rfl ?_;exact wC
 rw[C9 Y];by_cases G:0<=aJ size
 ·rw[CB G]
  have hc3:aJ size<=3:=by unfold aJ;repeat' split<;>omega
  obtain⟨T,rfl⟩:=Z2 C.1;obtain⟨K,hK⟩:=Z2 G;have o:=z8 h T K k ω ω ω;have s:=ve (t:=T) (c:=K) k ω ω ω;rw[hK]at F |-;simp only[X2];generalize smallA h T K=w at o s |-;obtain⟨g,a⟩:=w;have H:g.a=h.a:=s.nx;simp only at o |-;by_cases J:a<0
  ·rw[CB J]
   repeat'(first|refine gE ?_|(conv=>whnf);first|refine CG (E) ⟨⟨rfl,bF h⟩,trivial⟩ ?_|refine CK (o) (.inl rfl) ?_)
   refine CH rfl rfl ?_;exact wC
  rw[C9 J];obtain⟨k1,k2⟩:=s.yes (show(0:Int)<=a by omega);have R:g.O.length<=512:=k1.lens.objs
  repeat'(first|refine gE ?_|(conv=>whnf);first|refine CG (E) ⟨⟨rfl,bF h⟩,trivial⟩ ?_|refine CK (o) (.inl rfl) ?_)
  (conv=>whnf)
  refine CF (ι:=Nat) (λi=>[(0,.H .box (bB g)),(1,.H .one [I ((T:Nat):Int)]),(2,.H .one [I (size)]),(8,.H .one [I (a)]),(9,.H .one [I ((i:Nat):Int)])]) (λi=>i<=g.O.length/\∀(j:Nat)(z:bt),j<i->g.O[j]? = some z->P5 a z=false) (λi=>g.O.length - i) (0) ?_ (⟨W0 _,λj z hj=>ω⟩) λi k=>?_
  ·exact wC
  obtain⟨S,L⟩:=k;by_cases U:i<g.O.length/\(nth g.O i).Addr<a
  ·have d:=ao U.1
   repeat'(first|refine gE ?_|(conv=>whnf);first|with_reducible refine CD (aa d) ?_|refine CC ?_|refine CJ rfl (aa d) rfl ?_)
   ((conv=>whnf);refine CE (i+1) ⟨ω,dz d (U0 ω) L⟩ ω ?_;(exact wC))
  have l:kN (P5 a) g.O=i:=wO ω L λz M=>by
   have V:=(O2.1 M).1;have:z=nth g.O i:=(bm M).symm;subst this;exact O0 ω
  have d:i<g.O.length->g.O[i]? = some (nth g.O i):=λW=>ao W
  rw[show addO g a size (T:Nat) = {g with O:=g.O.take i++⟨g.a,a,size,(T:Nat)⟩::g.O.drop i,a:=g.a+1} by unfold addO;rw[w7 l]]
  repeat'(first|refine gE ?_|(conv=>whnf);first|with_reducible (first|refine CD (aa (d ω)) ?_|refine Bf.D (λb=>?_) (λb=>?_))|refine CJ rfl (aa (d ω)) rfl ?_|refine G7.mk rfl (w6 g.O) rfl ?_|refine CV i rfl (by rw[C1];omega) (aP λ_=>rfl) C4 ?_|refine Sl.suf i rfl (by rw[C1];omega) (aP λ_=>rfl) I4 ?_|refine CP (λ_=>rfl) (λ_=>rfl) (by rw[V1];omega) (by decide) ?_|refine Ap.sn (aP λ_=>rfl) rfl (by rw[C1,V1];omega) (by decide) rfl ?_|refine Ap.ins (e:=bt.enc .X) (y:=⟨g.a,a,size,(T:Nat)⟩) rfl (λ_=>rfl) (λ_=>rfl) ω (by decide) ?_)
  all_goals
   refine CH rfl rfl ?_;exact wC
 rw[C9 G];have N:9<=size:=by unfold aJ at G;repeat' split at G<;>omega
 have o:=zn h size k ⟨N,B.2⟩ ω;rw[KF t k ⟨N,B.2⟩];have Z:(LH h size).1.a=h.a/\(LH h size).1.O=h.O:=by
  unfold LH;split
  ·exact⟨rfl,rfl⟩
  split<;>exact⟨rfl,rfl⟩
 generalize LH h size=w at o Z |-;obtain⟨g,a⟩:=w;obtain⟨H,O⟩:=Z;simp only at o H O |-;have R:g.O.length<=512:=by rw[O];exact P
 by_cases J:a<0
 ·rw[CB J]
  repeat'(first|refine gE ?_|(conv=>whnf);first|refine CG (E) ⟨⟨rfl,bF h⟩,trivial⟩ ?_|refine CK (o) (.inl rfl) ?_)
  refine CH rfl rfl ?_;exact wC
 rw[C9 J]
 repeat'(first|refine gE ?_|(conv=>whnf);first|refine CG (E) ⟨⟨rfl,bF h⟩,trivial⟩ ?_|refine CK (o) (.inl rfl) ?_)
 (conv=>whnf)
 refine CF (ι:=Nat) (λi=>[(0,.H .box (bB g)),(1,.H .one [I (t)]),(2,.H .one [I (size)]),(8,.H .one [I (a)]),(9,.H .one [I ((i:Nat):Int)])]) (λi=>i<=g.O.length/\∀(j:Nat)(z:bt),j<i->g.O[j]? = some z->P5 a z=false) (λi=>g.O.length - i) (0) ?_ (⟨W0 _,λj z hj=>ω⟩) λi k=>?_
 ·exact wC
 obtain⟨S,L⟩:=k;by_cases U:i<g.O.length/\(nth g.O i).Addr<a
 ·have d:=ao U.1
  repeat'(first|refine gE ?_|(conv=>whnf);first|with_reducible refine CD (aa d) ?_|refine CC ?_|refine CJ rfl (aa d) rfl ?_)
  ((conv=>whnf);refine CE (i+1) ⟨ω,dz d (U0 ω) L⟩ ω ?_;(exact wC))
 have l:kN (P5 a) g.O=i:=wO ω L λz M=>by
  have V:=(O2.1 M).1;have:z=nth g.O i:=(bm M).symm;subst this;exact O0 ω
 have d:i<g.O.length->g.O[i]? = some (nth g.O i):=λW=>ao W
 rw[show addO g a size t = {g with O:=g.O.take i++⟨g.a,a,size,t⟩::g.O.drop i,a:=g.a+1} by unfold addO;rw[w7 l]]
 repeat'(first|refine gE ?_|(conv=>whnf);first|with_reducible (first|refine CD (aa (d ω)) ?_|refine Bf.D (λb=>?_) (λb=>?_))|refine CJ rfl (aa (d ω)) rfl ?_|refine G7.mk rfl (w6 g.O) rfl ?_|refine CV i rfl (by rw[C1];omega) (aP λ_=>rfl) C4 ?_|refine Sl.suf i rfl (by rw[C1];omega) (aP λ_=>rfl) I4 ?_|refine CP (λ_=>rfl) (λ_=>rfl) (by rw[V1];omega) (by decide) ?_|refine Ap.sn (aP λ_=>rfl) rfl (by rw[C1,V1];omega) (by decide) rfl ?_|refine Ap.ins (e:=bt.enc .X) (y:=⟨g.a,a,size,t⟩) rfl (λ_=>rfl) (λ_=>rfl) ω (by decide) ?_)
 all_goals
  refine CH rfl rfl ?_;exact wC
def HO(h:ab)(a n:Int)(t:h.M.length<=4096)(j:∀l∈h.M,bJ l=true)(o:Ak h a<0):aT Tryz.prog 531 false [.ptr (bB h),.val none [I a],.val none [I n]] [.ptr (bB h),.val none [I a],.val none [I n]] .one [B false]:=by
 have b:∀l∈h.M,l.R*16≠a:=λl c e=>by
  have:=E5 (p:=HY a) c (O0 e);unfold Ak at o;omega
 refine fM 136 [(388,[2,0])] [(8,6,[49,50,51,52,53,54]),(9,10,[56,57,58,59,60,61,62,63,64,65]),(20,270,[123,124,125,126,127,128,129,130,131,122,132,133,134,135,0,1,2,3,4,5,6,7,8,9,10,11,12,13,14,1011])] [(0,0),(0,0),(0,0)] Tryz.func531 rfl (λu q=>?_)
 repeat'(first|(conv=>whnf);refine CC ?_)
 (conv=>whnf)
 refine CF (ι:=Nat) (λk=>[(0,.H .box (bB h)),(1,.H .one [I (a)]),(2,.H .one [I (n)]),(7,.H .one [I ((k:Nat):Int)])]) (λk=>k<=h.M.length) (λk=>h.M.length - k) (0) ?_ (W0 _) λk w=>?_
 ·repeat'(first|exact trivial|rfl |refine CL ?_ ?_)
 by_cases d:k<h.M.length
 ·have i:=ao d
  have y:=b _ (am d);have C:=aO (j _ (am d))
  repeat'(first|refine gB ?_|(conv=>whnf);first|with_reducible refine CD (aa i) ?_|refine CC ?_|refine CJ rfl (aa i) rfl ?_)
  ((conv=>whnf);refine CE (k+1) ω ω ?_;(exact wC))
 repeat'(first|refine gE ?_|(conv=>whnf);refine CC ?_)
 refine CH rfl rfl ?_;exact wC
def R1(h:ab)(a:Int)(m:Nat):bB {h with G:=zK h.G a (m+1)} = (bB {h with G:=zK h.G a m}).set 0 (.s .own (((zK h.G a m).F.V.S.map (aD .own)).set (ac (zK h.G a m).F.Q ((a+m) / 16)).e.toNat ((aD .own (nth (zK h.G a m).F.V.S (cU (zK h.G a m) (a+m)))).set 0 (.s .own (((nth (zK h.G a m).F.V.S (cU (zK h.G a m) (a+m))).map (rI .own)).set ((a+m) % 16).toNat (splice (rI .own (nth (nth (zK h.G a m).F.V.S (cU (zK h.G a m) (a+m))) ((a+m) % 16).toNat)) 0 [I 0])))))):=
 Ki {h with G:=zK h.G a m} (a+m) 0
def mq(h:ab)(i k:Nat)(n:Int)(K:af):ab:={h with G:=K,M:=h.M.set k (trimL (nth h.M k) n),O:=h.O.set i {nth h.O i with u:=n}}
def KG(h:ab)(i k:Nat)(n:Int)(K:af):(mq h i k n K).O.map (bt.enc .own)=(h.O.map (bt.enc .own)).set i (splice (bt.enc .own (nth h.O i)) 2 [I n]):=by
 simp[mq,I6,bt.enc,splice]
def tl(h:ab)(i:Nat)(n:Int)(j:aY h [])(H:i<h.O.length)(hg:0<=Ak h (nth h.O i).Addr):aT Tryz.prog 531 false [.ptr (bB h),.val none [I (nth h.O i).Addr],.val none [I n]] [.ptr (bB (if me h i n then trimH h i (Ak h (nth h.O i).Addr).toNat n else h)),.val none [I (nth h.O i).Addr],.val none [I n]] .one [B (decide (me h i n))]:=by
 have c:=j.lens;have hnl:=c.larges;have hno:=c.objs;have hpg:eQ h<=32:=c.ents;obtain⟨f1,f2,f3⟩:=fY (HY (nth h.O i).Addr) h.M hg;obtain⟨g,o⟩:=Z2 hg;have b:g<h.M.length:=by unfold Ak at o;omega
 have Y:(nth h.M g).R*16=(nth h.O i).Addr:=by
  have:=of_decide_eq_true f2;rw[show(dH (HY (nth h.O i).Addr) h.M).toNat=g by unfold Ak at o;omega]at this;exact this
 have J:∀k,k<g->(nth h.M k).R*16≠(nth h.O i).Addr:=λk hk e=>by
  have N:k<h.M.length:=ω
  have hok1:=aO (j.L.lok _ (am N));have hok2:=aO (j.L.lok _ (am b));have:=j.L.one k g N b 0 0 ω ω ω;omega
 have p:me h i n↔9<=n/\n<=(nth h.M g).u:=by
  unfold me;rw[o,X2];exact⟨λx=>x.2,λx=>⟨ω,x⟩⟩
 rw[o,X2];have hbd:=tY j (am H);obtain⟨-,Z,w⟩:=j.objAt (am H);have hii:pA h (nth h.O i).Addr=i:=by
  have h2:=(j.objAt (am H)).1;exact cM (f:=(·.Addr)) (dq j.osr) h2 H (by rw[Z])
 rw[hii]at w;have E:=ao H;have hxg:=ao b;have V:=xE (nth h.M g) n (j.L.lok _ (am b));have h8:=j.L.lok _ (am b);unfold bJ at h8;rw[C0]at h8;refine fM 136 [(388,[2,0])] [(8,6,[49,50,51,52,53,54]),(9,10,[56,57,58,59,60,61,62,63,64,65]),(20,270,[123,124,125,126,127,128,129,130,131,122,132,133,134,135,0,1,2,3,4,5,6,7,8,9,10,11,12,13,14,1011])] [(0,0),(0,0),(0,0)] Tryz.func531 rfl (λu q=>?_)
 repeat'(first|(conv=>whnf);refine CC ?_)
 (conv=>whnf)
 refine CF (ι:=Nat) (λk=>[(0,.H .box (bB h)),(1,.H .one [I ((nth h.O i).Addr)]),(2,.H .one [I (n)]),(7,.H .one [I ((k:Nat):Int)])]) (λk=>k<=g) (λk=>g - k) (0) ?_ (W0 _) λk hk=>?_
 ·repeat'(first|exact trivial|rfl |refine CL ?_ ?_)
 have l:=ao (xs:=h.M) (i:=k) ω;have hfk:=aO (j.L.lok _ (am (xs:=h.M) (i:=k) ω));by_cases e:k=g;rotate_left
 ·have hne:=J k ω
  repeat'(first|refine gB ?_|(conv=>whnf);first|with_reducible refine CD (aa l) ?_|refine CC ?_|refine CJ rfl (aa l) rfl ?_)
  ((conv=>whnf);refine CE (k+1) ω ω ?_;(exact wC))
 subst e;by_cases F:9<=n/\n<=(nth h.M k).u;rotate_left
 ·rw[C9 (by rw[p];exact F),U0 (by rw[p];exact F)]
  rw[C9 F]at V
  repeat'(first|refine gB ?_|(conv=>whnf);first|with_reducible refine CD (aa l) ?_|refine CC ?_|refine CJ rfl (aa l) rfl ?_|refine C8 (V) ?_)
  refine CH rfl rfl ?_;exact wC
 rw[CB (by rw[p];exact F),O0 (by rw[p];exact F)];rw[CB F]at V;have y:=λm hm=>yu j b F (m:=m) hm
 have D:=λm=>(ov h.G (16*(nth h.M k).R+n) m).1
 have O:=λa W=>jX j b (a:=a) W
 have hsz:n<=16*(nth h.M k).a4:=ω
 generalize hM:(16*((n+15) / 16) - n).toNat=M at *;have hfl:∀m,(zK h.G (16*(nth h.M k).R+n) m).F.V.S.length=h.G.F.V.S.length:=λm=>by
  induction m with
  | zero=>rfl
  | succ m ih=>show(List.set _ _ _).length=_;rw[U1];exact ih
 have cO:=rC {h with M:=h.M.set k (trimL (nth h.M k) n)} (nth h.O i).Addr (by show h.O.length<=_;omega);change ar _ _ _ [.val (some 24) (ab.enc .X {h with M:=h.M.set k (trimL (nth h.M k) n)}),_] _ [I (dH (m7 (nth h.O i).Addr) h.O)]at cO;rw[w]at cO;have Q:=bF {h with M:=h.M.set k (trimL (nth h.M k) n)};have heL:bB {h with M:=h.M.set k (trimL (nth h.M k) n)} = (bB h).set 7 (.s .own ((h.M.map (aB.enc .own)).set k (aB.enc .own (trimL (nth h.M k) n)))):=by simp[bB,I6]
 rw[heL]at Q
 repeat'(first|refine gB ?_|(conv=>whnf);first|refine CQ rfl rfl (aa l) rfl (I1 rfl) rfl ?_|refine CG (cO) ⟨⟨rfl,Q⟩,⟨rfl,rfl⟩,trivial⟩ ?_|refine CQ rfl rfl (aa E) rfl (I1 rfl) rfl ?_)
 rw[<-Y];have e0:mq h i k n h.G=mq h i k n (zK h.G (16*(nth h.M k).R+n) 0):=rfl;have r:C.s .own ((mq h i k n (zK h.G (16*(nth h.M k).R+n) 0)).M.map (aB.enc .own))=C.s .own ((h.M.map (aB.enc .own)).set k (aB.enc .own (trimL (nth h.M k) n))):=by simp[mq,I6]
 have d:C.s .own ((mq h i k n (zK h.G (16*(nth h.M k).R+n) 0)).O.map (bt.enc .own))=C.s .own ((h.O.map (bt.enc .own)).set i (splice (bt.enc .own (nth h.O i)) 2 [I n])):=X0 _ (KG h i k n _)
 (conv=>whnf)
 refine CF (ι:=Nat) (λm=>[(0,.H .box (bB (mq h i k n (zK h.G (16*(nth h.M k).R+n) m)))),(1,.H .one [I (((nth h.M k).R*16))]),(8,.H .box (aB.enc .own (trimL (nth h.M k) n))),(9,.H .box (aA.enc .own (xx (nth h.M k) n))),(11,.H .one [I (((16*(nth h.M k).R+n)+(m:Nat)))])]) (λm=>m<=M) (λm=>M - m) (0) ?_ (W0 _) λm hm=>?_
 ·repeat'(first|exact trivial|rfl |exact n6 r|exact n6 d|refine CL ?_ ?_|(exact BF (by first|omega)))
 have hmod:IntKind.i64.wrap 0=0:=rfl;by_cases lm:m<M
 ·have W:0<=(16*(nth h.M k).R+n)+(m:Nat)/\(16*(nth h.M k).R+n)+(m:Nat)<512:=ω
  have R:=O ((16*(nth h.M k).R+n)+(m:Nat)) ω;have t:=y m hm;rw[<-D m]at R;have hks:=bk t;have c2:=cR (zK h.G (16*(nth h.M k).R+n) m).F.Q (((16*(nth h.M k).R+n)+(m:Nat)) / 16) hks.1.2;obtain⟨-,-,-,q0,q1⟩:=bI t R;have hul:=(aS.1 (a8.1 t).2.1).2.2.1;have S:cU (zK h.G (16*(nth h.M k).R+n) m) ((16*(nth h.M k).R+n)+(m:Nat))<(zK h.G (16*(nth h.M k).R+n) m).F.V.S.length:=by unfold cU;omega
  have G:(zK h.G (16*(nth h.M k).R+n) m).F.V.S[(ac (zK h.G (16*(nth h.M k).R+n) m).F.Q (((16*(nth h.M k).R+n)+(m:Nat)) / 16)).e.toNat]? = some _:=ao S;have h16:=(uL t S).1;have T:=ao (xs:=nth (zK h.G (16*(nth h.M k).R+n) m).F.V.S (cU (zK h.G (16*(nth h.M k).R+n) m) ((16*(nth h.M k).R+n)+(m:Nat)))) (i:=(((16*(nth h.M k).R+n)+(m:Nat)) % 16).toNat) (by rw[h16];omega);have htm:((16*(nth h.M k).R+n)+(m:Nat)).tmod 16=((16*(nth h.M k).R+n)+(m:Nat)) % 16:=dM W.1;have hpu:=R1 (mq h i k n h.G) (16*(nth h.M k).R+n) m;have hwr:=pW W;have hst:(trimL (nth h.M k) n).a4=(n+15) / 16:=rfl
  repeat'(first|refine gE ?_|(conv=>whnf);first|refine CO (by decide) ?_|refine CN hwr ?_|refine CR htm ?_|refine CG (c2) ⟨⟨rfl,Ca _⟩,⟨rfl,rfl⟩,trivial⟩ ?_|refine CM q0 (aa G) ?_|refine CM ω (aa T) ?_|refine Pu.two rfl rfl (aa G) rfl rfl rfl (aa T) rfl (C3 _) hpu ?_)
  ((conv=>whnf);refine CE (m+1) ω ω ?_;(exact wC))
 obtain rfl:m=M:=ω
 have hst:(trimL (nth h.M k) n).a4=(n+15) / 16:=rfl;have hkM:=y m (C3 _);have U:(zK h.G (16*(nth h.M k).R+n) m).F.Q.J.length=eQ h:=by rw[D];rfl
 have hTK:kF h k n=zK h.G (16*(nth h.M k).R+n) m:=by unfold kF;rw[hM]
 unfold trimH JR;rw[hTK];generalize zK h.G (16*(nth h.M k).R+n) m=K at *;have hN:((dE (nth h.M k) n:Nat):Int)=(nth h.M k).a4 - (n+15) / 16:=by unfold dE;omega
 have hrA:0<dE (nth h.M k) n->xx (nth h.M k) n = ⟨(nth h.M k).R+(n+15) / 16,(dE (nth h.M k) n:Nat)⟩:=λhp=>by unfold xx;rw[CB ω,hN]
 have hrB:¬0<dE (nth h.M k) n->xx (nth h.M k) n = ⟨0,0⟩:=λhp=>by unfold xx;rw[C9 ω]
 generalize dE (nth h.M k) n=P at *;by_cases X:0<P
 ·rw[CB X]
  have hr:=hrA X;rw[hr]
  repeat'(first|refine gE ?_|(conv=>whnf);refine CC ?_)
  (conv=>whnf)
  refine CF (ι:=Nat) (λx=>[(0,.H .box (bB (mq h i k n (unmN K ((nth h.M k).R+(n+15) / 16) x)))),(9,.H .box ([I ((nth h.M k).R+(n+15) / 16),I (P:Nat)])),(13,.H .one [I (((nth h.M k).R+(n+15) / 16+(x:Nat)))])]) (λx=>x<=P) (λx=>P - x) (0) ?_ (W0 _) λx l=>?_
  ·repeat'(first|exact trivial|rfl |refine CL ?_ ?_|(exact BF (by first|omega|(simp only;omega))))
  by_cases lx:x<P
  ·have c3:=oh (mq h i k n (unmN K ((nth h.M k).R+(n+15) / 16) x)) ((nth h.M k).R+(n+15) / 16+(x:Nat)) (jh hkM _ _)
   repeat'(first|refine gE ?_|(conv=>whnf);refine CK (c3) (.inl rfl) ?_)
   ((conv=>whnf);refine CE (x+1) ω ω ?_;(exact wC))
  obtain rfl:x=P:=ω
  have c4:=i7 (mq h i k n (unmN K ((nth h.M k).R+(n+15) / 16) x));rw[show eQ (mq h i k n (unmN K ((nth h.M k).R+(n+15) / 16) x))=eQ h from(fV _ _ _).1.trans U]at c4;have c5:=mK (eQ h:Nat) h.q ⟨(nth h.M k).R+(n+15) / 16,(x:Nat)⟩ ⟨ω,ω⟩ ⟨by have:=c.free;omega,λ_ _=>trivial⟩
  repeat'(first|refine gE ?_|(conv=>whnf);first|refine CG (c4) ⟨bF _,trivial⟩ ?_|refine CG (c5) ⟨⟨rfl,rfl⟩,⟨rfl,eR h.q⟩,⟨rfl,rfl⟩,trivial⟩ ?_)
  refine CH rfl rfl ?_;exact wC
 rw[C9 X];obtain rfl:P=0:=ω
 have hr:=hrB X;rw[hr]
 repeat'(first|refine gE ?_|(conv=>whnf);refine CC ?_)
 (conv=>whnf)
 refine CF (ι:=Nat) (λx=>[(0,.H .box (bB (mq h i k n K))),(9,.H .box ([I 0,I 0])),(13,.H .one [I (0)])]) (λx=>x=0) (λx=>0) (0) ?_ (rfl) λx l=>?_
 ·repeat'(first|exact trivial|rfl |refine CL ?_ ?_)
 subst l
 repeat'(first|refine gE ?_|(conv=>whnf);refine CC ?_)
 refine CH rfl rfl ?_;exact wC
def Fg{α:Type}(a:α)(k:Nat):List.replicate (k+1) a=List.replicate k a++[a]:=List.replicate_succ' ..
def Hr(n k:Nat):aV.enc .own ⟨List.replicate k (List.replicate 16 0),List.replicate n false⟩ = [.s .own (List.replicate k [.s .own (List.replicate 16 [I 0])]),.s .own (List.replicate n [B false])]:=by
 simp[aV.enc,aD,rI,rB,List.map_replicate]
def Jb(n:Nat):P0 [.s .own (List.replicate n [.z]),.s .own (List.replicate n [.z]),B true] (aK.enc .own (eH n)++[B true]):=by
 have e:aK.enc .own (eH n)++[B true]=[.s .own (List.replicate n [.s .own []]),.s .own (List.replicate n [.s .own []]),B true]:=by simp[aK.enc,eH,cN,aD,List.map_replicate]
 rw[e];exact .cons (.rep (.cons .z_ .nil)) (.cons (.rep (.cons .z_ .nil)) (.cons (.rfl_ _) .nil))
def PQ(n:Nat)(b:1<=n/\n<=4):ar Tryz.prog 215 false [.val none [I (n:Nat)]] (.tup [some 2,none]) (aK.enc .own (eH n)++[B true]):=by
 have a:=aM ((n:Nat):Int) 1 4;rw[O0 ω]at a;refine fO 13 [(3,4,[8,9,10,11])] Tryz.func215 rfl ?_ (.inr (aI (aK.enc_fr _) ⟨trivial,trivial⟩))
 repeat'((conv=>whnf);first|with_reducible (first|refine Bn ?_|refine jG.dk rfl ?_)|refine Bt ?_|refine C8 (a) ?_|refine Mk.mk n rfl rfl ω (zh ω (by decide)) rfl ?_)
 exact Jb n
def B8(n:Nat)(b:1<=n/\n<=4):ar Tryz.prog 524 false [.val none [I (n:Nat)]] (.tup [some 2,none]) (aK.enc .own (eH n)++[B true]):=by
 have a:=aH ((n:Nat):Int) 1 4;rw[O0 ω]at a;refine fO 13 [(3,4,[8,9,10,11])] Tryz.func524 rfl ?_ (.inr (aI (aK.enc_fr _) ⟨trivial,trivial⟩))
 repeat'((conv=>whnf);first|with_reducible (first|refine Bn ?_|refine jG.dk rfl ?_)|refine Bt ?_|refine C8 (a) ?_|refine Mk.mk n rfl rfl ω (zh ω (by decide)) rfl ?_)
 exact Jb n
def M4:P0 [.s .own (List.replicate 4 [.z])] (aE.enc .own fR):=.cons (.rep (.cons .z_ .nil)) .nil
def z7:ar Tryz.prog 525 false [] .agg (aE.enc .own fR):=by
 refine fO 3 [] Tryz.func525 rfl ?_ (.inr (aE.enc_fr _))
 repeat'((conv=>whnf);first|with_reducible refine jG.dk rfl ?_|refine Mk.mk 4 rfl rfl (by decide) (by decide) rfl ?_)
 exact M4
def sV:ar Tryz.prog 526 false [.val none [I 16]] (.tup [some 2,none]) (bL.enc .own ⟨16,[]⟩++[B true]):=by
 refine fO 10 [] Tryz.func526 rfl ?_ (.inr (aI (bL.enc_fr _) ⟨trivial,trivial⟩))
 repeat'((conv=>whnf);first|with_reducible (first|refine Bn ?_|refine jG.wk rfl ?_)|refine Bt ?_|refine C8 (aH 16 0 500) ?_)
 exact⟨rfl,rfl,rfl,trivial⟩
def caps(h:ab)(k:Nat):ab:={h with T:=List.replicate k fR}
def L0(k:Nat):(List.replicate (k+1) fR).map (aE.enc .own)=(List.replicate k fR).map (aE.enc .own)++[aE.enc .own fR]:=by rw[Fg,X5];rfl
def MP{k:Nat} : ∀r∈(List.replicate k fR).map (aE.enc .own),r.length=1:=aP λ_=>rfl
def QB(x:List bD):fz (.s .own (x.map (bD.enc .own)))=.s .X (x.map (bD.enc .X)):=(List.cons.inj (List.cons.inj (Cc ⟨0,x⟩)).2).1
def fF:∀a b:List C,eG (a++b)=eG a++eG b
 | [],_=>rfl
 | x::xs,b=>by show fz x::eG (xs++b)=fz x::(eG xs++eG b);rw[fF xs b]
def eN(r:a7)(c:a7.sml r):ar Tryz.prog 458 false [.val (some 2) (a7.enc .X r)] .agg (a7.enc .own r):=by
 have e:r.O.length<=1048576:=c.1;refine fO 36 [(5,272,[15,16,17,18,19,20,21,22,23,24,25,26,27,28,29,34,0,1,2,3,4,5,6,7,8,9,10,11,12,13,14,15,1000,1001,1002,1003,1004,1005,1006,1007,16,1000,1001,17,1000,1001,18,19,20])] Tryz.func458 rfl ?_ (.inr (a7.enc_fr _))
 repeat'(first|(conv=>whnf);refine CC ?_)
 (conv=>whnf)
 refine CF (ι:=Nat) (λi=>[(1,.H .box (a7.enc .X r)),(2,.H .box [I 0,.z]),(3,.H .box [I r.a,.s .own ((r.O.take i).map (bD.enc .own))]),(4,.H .one [I ((i:Nat):Int)])]) (λi=>i<=r.O.length) (λi=>r.O.length - i) (0) ?_ (W0 _) λi g=>?_
 ·exact wC
 by_cases b:i<r.O.length
 ·have d:=ao b
  have a:(nth r.O i).S.length<=1048576:=c.2 _ (am b)
  repeat'(first|refine gE ?_|(conv=>whnf);first|refine CP (λ_=>rfl) (λ_=>rfl) a (by decide) ?_|refine Ap.sn (aP λ_=>rfl) rfl (by simp;omega) (by decide) (gc b) ?_)
  ((conv=>whnf);refine CE (i+1) ω ω ?_;(exact wC))
 repeat'(first|refine gE ?_|(conv=>whnf);refine CC ?_)
 obtain rfl:i=r.O.length:=ω
 rw[C5]
 rfl
def iM(r:a7)(id:Int)(g:r.O.length<=1048576):ar Tryz.prog 565 false [.val (some 2) (a7.enc .X r),.val none [I id]] .one [I (oN r id)]:=by
 refine fO 22 [] Tryz.func565 rfl ?_
 repeat'(first|(conv=>whnf);refine CC ?_)
 (conv=>whnf)
 refine CF (ι:=Nat) (λi=>[(1,.H .one [I (id)]),(2,.H .box (a7.enc .X r)),(5,.H .one [I ((i:Nat):Int)])]) (λi=>i<=r.O.length/\∀(j:Nat)(z:bD),j<i->r.O[j]? = some z->nK id z=false) (λi=>r.O.length - i) (0) ?_ (⟨W0 _,λj z h=>ω⟩) λi c=>?_
 ·exact wC
 obtain⟨c,b⟩:=c;by_cases d:i<r.O.length
 ·have a:=ao d
  by_cases e:(nth r.O i).Id=id
  ·repeat'(first|refine gB ?_|(conv=>whnf);first|with_reducible refine CD (aa a) ?_|refine CC ?_|refine CJ rfl (aa a) rfl ?_)
   exact X0 (λz=>[I z]) (dI a (O0 e) b).symm
  repeat'(first|refine gB ?_|(conv=>whnf);first|with_reducible refine CD (aa a) ?_|refine CC ?_|refine CJ rfl (aa a) rfl ?_)
  ((conv=>whnf);refine CE (i+1) ⟨ω,dz a (U0 e) b⟩ ω ?_;(exact wC))
 repeat'(first|refine gE ?_|(conv=>whnf);refine CC ?_)
 exact X0 (λz=>[I z]) (gv ω b).symm
def nz(r:a7)(c:C)(h:R5 c):ia (a7.enc .own r++[c]):=aI (a7.enc_fr _) ⟨h,trivial⟩
def zt(r:a7)(n:Int)(m:Nat)(b:t7 r m)(h:m<=1000)(c:1<=n/\n<=1000):ar Tryz.prog 451 false [.val (some 2) (a7.enc .X r),.val none [I n]] (.tup [some 2,none]) (a7.enc .X (je r n)++[I r.a]):=by
 have i:=b.sml h;have d:=b.len;have j:=b.nx;have k:=eN r i;have e:=aH n 1 1000;rw[O0 c]at e;have key:ar Tryz.prog 451 false [.val (some 2) (a7.enc .X r),.val none [I n]] (.tup [some 2,none]) (a7.enc .own (je r n)++[I r.a]):=by
  have a:=nz (je r n) (I r.a) trivial;unfold je at a |-;rw[CB c]at a |-;have l:a7.enc .own {r with a:=r.a+1,O:=r.O++[⟨r.a,List.replicate n.toNat 0⟩]} = [I (r.a+1),.s .own (r.O.map (bD.enc .own)++[[I r.a,.s .own (List.replicate n.toNat [I 0])]])]:=by
   simp[a7.enc,bD.enc,rI]
  rw[l]at a |-;refine fO 30 [(4,263,[13,14,15,16,17,18,22,0,1,2,3,4,5,6,1000,1001,7,1000,1001,8,9,10]),(6,259,[27,28,29,0,1,2,3,1001,1002,4])] Tryz.func451 rfl ?_ (.inr a)
  repeat'(first|refine gP ?_|(conv=>whnf);first|refine Mk.mk n.toNat ω ω ω (zh ω (by decide)) rfl ?_|refine Ap.sn (aP λ_=>rfl) rfl (by simp;omega) (by decide) rfl ?_)
  (conv=>whnf)
  rfl
 have g:=key.fzR;rw[fF,Cc]at g;exact g
def D5(r:a7)(id:Int)(m:Nat)(d:t7 r m)(k:m<=1000):ar Tryz.prog 528 true [.val (some 2) (a7.enc .X r),.val none [I id]] (.tup [some 2,none]) (a7.enc .X (jV r id)++[B (!decide (oN r id<0))]):=by
 have g:=d.sml k;have h:=d.len;have i:=eN r g;have b:=iM r id g.1;by_cases e:oN r id<0
 ·have key:ar Tryz.prog 528 true [.val (some 2) (a7.enc .X r),.val none [I id]] (.tup [some 2,none]) (a7.enc .own r++[B false]):=by
   refine fO 30 [(5,267,[16,17,18,19,20,22,23,24,25,26,28,0,1,2,3,4,6,7,8,9,10,5,1006,1007,1008,1009,1010,11,12,13]),(1048581,6,[1])] Tryz.func528 rfl ?_ (.inl rfl)
   repeat'(first|refine gE ?_|(conv=>whnf);first|refine CC ?_|refine C8 (i) ?_|refine C8 (b) ?_)
   rfl
  have a:=key.fzR;rw[fF,Cc]at a;unfold jV;rw[CB e,O0 e];exact a
 have n:jV r id = {r with O:=dele r.O (oN r id).toNat}:=by unfold jV;rw[C9 e]
 obtain⟨t,u,w⟩:=fY (nK id) r.O (by unfold oN at e;omega);obtain⟨j,c⟩:=Z2 (show 0<=oN r id by omega);have o:j<r.O.length:=by unfold oN at c;omega
 have key:ar Tryz.prog 528 true [.val (some 2) (a7.enc .X r),.val none [I id]] (.tup [some 2,none]) ([I r.a,.s .own ((dele r.O j).map (bD.enc .X))]++[B true]):=by
  rw[c]at b;refine fO 30 [(5,267,[16,17,18,19,20,22,23,24,25,26,28,0,1,2,3,4,6,7,8,9,10,5,1006,1007,1008,1009,1010,11,12,13]),(1048581,6,[1])] Tryz.func528 rfl ?_ (.inl rfl)
  repeat'(first|refine gE ?_|(conv=>whnf);first|refine G7.mk rfl (QB r.O) rfl ?_|refine CV j rfl (by rw[C1];omega) (aP λ_=>rfl) C4 ?_|refine Sl.suf (j+1) ω (by rw[C1];omega) (aP λ_=>rfl) I4 ?_|refine CP (λ_=>rfl) (λ_=>rfl) (by rw[V1];omega) (by decide) ?_|refine CX (λ_=>rfl) (λ_=>rfl) (by rw[V1];omega) (by decide) ?_|refine Ap.dele (λ_=>rfl) (λ_=>rfl) ω (by decide) ?_)
  rfl
 have a:=key.fzR;have p:eG ([I r.a,.s .own ((dele r.O j).map (bD.enc .X))]++[B true])=a7.enc .X (jV r id)++[B (!decide (oN r id<0))]:=by
  have:∀l:List bD,fzR (l.map (bD.enc .X))=l.map (bD.enc .X):=λl=>by
   induction l with
   | nil=>rfl
   | cons x xs q=>rw[Z5,fzR,q,<-bD.enc_fz,qf]
  rw[n,c,U0 ω];simp[eG,fz,a7.enc,this]
 rw[p]at a;exact a
def zZ(r:a7)(id a v:Int)(m:Nat)(o:t7 r m)(D:m<=1000)(h:0<=oN r id)(c:0<=a/\a<=(nth r.O (oN r id).toNat).S.length - 1)(p:0<=v/\v<=999):ar Tryz.prog 530 false [.val (some 2) (a7.enc .X r),.val none [I id],.val none [I a],.val none [I v]] (.tup [some 2,none]) (a7.enc .X (eK r id a v)++[B true]):=by
 have k:=o.sml D;have q:=o.len;have E:=eN r k;have t:=iM r id k.1;obtain⟨J,K,L⟩:=fY (nK id) r.O h;obtain⟨j,l⟩:=Z2 h;have d:j<r.O.length:=by unfold oN at l;omega
 have e:=ao d;have F:(nth r.O j).S.length<=1048576:=k.2 _ (am d);obtain⟨b,g⟩:=Z2 c.1;have G:eK r id a v = {r with O:=r.O.set j ⟨(nth r.O j).Id,(nth r.O j).S.set b v⟩}:=by
  unfold eK;rw[CB ⟨h,c,p⟩,l,g];rfl
 rw[l]at t c;rw[g]at c |-;simp only[X2]at c;have u:=ao (xs:=(nth r.O j).S) (i:=b) ω;have w:=aH (b:Nat) 0 (((nth r.O j).S.length:Nat) - 1:Int);rw[O0 ω]at w;have y:=aH v 0 999;rw[O0 p]at y;have key:ar Tryz.prog 530 false [.val (some 2) (a7.enc .X r),.val none [I id],.val none [I (b:Nat)],.val none [I v]] (.tup [some 2,none]) (a7.enc .own (eK r id (b:Nat) v)++[B true]):=by
  have n:=nz (eK r id (b:Nat) v) (B true) trivial;rw[<-g,G]at n |-;have H:a7.enc .own {r with O:=r.O.set j ⟨(nth r.O j).Id,(nth r.O j).S.set b v⟩} = [I r.a,.s .own ((r.O.map (bD.enc .own)).set j [I (nth r.O j).Id,.s .own (((nth r.O j).S.map (rI .own)).set b [I v])])]:=by
   simp[a7.enc,bD.enc,rI,I6]
  rw[H]at n |-;rw[g];refine fO 48 [] Tryz.func530 rfl ?_ (.inr n)
  repeat'(first|refine gE ?_|(conv=>whnf);refine Pu.two rfl rfl (aa e) rfl rfl rfl (aa u) rfl (C3 _) rfl ?_)
  rfl
 have C:=key.fzR;rw[fF,Cc]at C;exact C
def Ep(r:a7)(id n:Int)(m:Nat)(l:t7 r m)(u:m<=1000)(g:0<=oN r id)(c:1<=n/\n<=(nth r.O (oN r id).toNat).S.length):ar Tryz.prog 532 false [.val (some 2) (a7.enc .X r),.val none [I id],.val none [I n]] (.tup [some 2,none]) (a7.enc .X (fK r id n)++[B true]):=by
 have h:=l.sml u;have o:=l.len;have w:=eN r h;have p:=iM r id h.1;obtain⟨E,F,G⟩:=fY (nK id) r.O g;obtain⟨j,i⟩:=Z2 g;have a:j<r.O.length:=by unfold oN at i;omega
 have d:=ao a;have y:(nth r.O j).S.length<=1048576:=h.2 _ (am a);obtain⟨b,e⟩:=Z2 (show 0<=n by omega);have C:fK r id n = {r with O:=r.O.set j ⟨(nth r.O j).Id,(nth r.O j).S.take b⟩}:=by
  unfold fK;rw[CB ⟨g,c⟩,i,e];rfl
 rw[i]at p c;rw[e]at c |-;simp only[X2]at c;have q:=aH (b:Nat) 1 (((nth r.O j).S.length:Nat):Int);rw[O0 ω]at q;have key:ar Tryz.prog 532 false [.val (some 2) (a7.enc .X r),.val none [I id],.val none [I (b:Nat)]] (.tup [some 2,none]) (a7.enc .own (fK r id (b:Nat))++[B true]):=by
  have k:=nz (fK r id (b:Nat)) (B true) trivial;rw[<-e,C]at k |-;have D:a7.enc .own {r with O:=r.O.set j ⟨(nth r.O j).Id,(nth r.O j).S.take b⟩} = [I r.a,.s .own ((r.O.map (bD.enc .own)).set j [I (nth r.O j).Id,.s .own (((nth r.O j).S.take b).map (rI .X))])]:=by
   simp only[a7.enc,I6]
   rfl
  rw[D]at k |-;rw[e];refine fO 46 [(5,270,[30,31,32,33,34,35,36,37,38,39,40,41,43,44,0,1,2,3,4,5,6,7,8,9,10,11,12,1000,1001,1002,13,14,15])] Tryz.func532 rfl ?_ (.inr k)
  repeat'(first|refine gE ?_|(conv=>whnf);first|refine CV b rfl (by rw[C1];omega) (aP λ_=>rfl) C4 ?_|refine CX (λ_=>rfl) (λ_=>rfl) (by rw[V1];omega) (by decide) ?_|refine CP (λ_=>rfl) (λ_=>rfl) (by rw[V1];omega) (by decide) ?_|refine CQ rfl rfl (aa d) rfl (I1 rfl) rfl ?_)
  rfl
 have t:=key.fzR;rw[fF,Cc]at t;exact t
def DX(r:a7)(id a v:Int)(m:Nat)(h:t7 r m)(l:m<=1000)(u:0<=v/\v<=999):∃b:Bool,ar Tryz.prog 530 false [.val (some 2) (a7.enc .X r),.val none [I id],.val none [I a],.val none [I v]] (.tup [some 2,none]) (a7.enc .X (eK r id a v)++[B b]):=by
 by_cases i:0<=oN r id
 ·by_cases d:0<=a/\a<=(nth r.O (oN r id).toNat).S.length - 1
  ·exact⟨true,zZ r id a v m h l i d u⟩
  refine⟨false,?_⟩;have c:=h.sml l;have o:=h.len;have n:=eN r c;have k:=iM r id c.1;obtain⟨C,D,E⟩:=fY (nK id) r.O i;obtain⟨j,p⟩:=Z2 i;have e:j<r.O.length:=by unfold oN at p;omega
  have q:=ao e;have w:(nth r.O j).S.length<=1048576:=c.2 _ (am e);have y:eK r id a v=r:=by unfold eK;rw[C9 (λx=>d x.2.1)]
  rw[p]at k d;simp only[X2]at d;have t:=aH a 0 (((nth r.O j).S.length:Nat) - 1:Int);rw[U0 d]at t;rw[y];have key:ar Tryz.prog 530 false [.val (some 2) (a7.enc .X r),.val none [I id],.val none [I a],.val none [I v]] (.tup [some 2,none]) (a7.enc .own r++[B false]):=by
   refine fO 48 [] Tryz.func530 rfl ?_ (.inr (nz r (B false) trivial))
   repeat'(first|refine gE ?_|(conv=>whnf);first|with_reducible refine CD (aa q) ?_|refine CC ?_|refine C8 (n) ?_|refine C8 (k) ?_|refine C8 (t) ?_|refine CJ rfl (aa q) rfl ?_)
   rfl
  have g:=key.fzR;rw[fF,Cc]at g;exact g
 refine⟨false,?_⟩;have c:=h.sml l;have n:=eN r c;have k:=iM r id c.1;rw[show eK r id a v=r by unfold eK;rw[C9 (λx=>i x.1)]];have key:ar Tryz.prog 530 false [.val (some 2) (a7.enc .X r),.val none [I id],.val none [I a],.val none [I v]] (.tup [some 2,none]) (a7.enc .own r++[B false]):=by
  refine fO 48 [] Tryz.func530 rfl ?_ (.inr (nz r (B false) trivial))
  repeat'(first|refine gE ?_|(conv=>whnf);first|refine CC ?_|refine C8 (n) ?_|refine C8 (k) ?_)
  rfl
 have g:=key.fzR;rw[fF,Cc]at g;exact g
def Ex(r:a7)(id n:Int)(m:Nat)(g:t7 r m)(k:m<=1000):∃b:Bool,ar Tryz.prog 532 false [.val (some 2) (a7.enc .X r),.val none [I id],.val none [I n]] (.tup [some 2,none]) (a7.enc .X (fK r id n)++[B b]):=by
 by_cases h:0<=oN r id
 ·by_cases c:1<=n/\n<=(nth r.O (oN r id).toNat).S.length
  ·exact⟨true,Ep r id n m g k h c⟩
  refine⟨false,?_⟩;have a:=g.sml k;have o:=g.len;have l:=eN r a;have i:=iM r id a.1;obtain⟨y,C,D⟩:=fY (nK id) r.O h;obtain⟨j,p⟩:=Z2 h;have d:j<r.O.length:=by unfold oN at p;omega
  have q:=ao d;have u:(nth r.O j).S.length<=1048576:=a.2 _ (am d);have w:fK r id n=r:=by unfold fK;rw[C9 (λx=>c x.2)]
  rw[p]at i c;simp only[X2]at c;have t:=aH n 1 (((nth r.O j).S.length:Nat):Int);rw[U0 c]at t;rw[w];have key:ar Tryz.prog 532 false [.val (some 2) (a7.enc .X r),.val none [I id],.val none [I n]] (.tup [some 2,none]) (a7.enc .own r++[B false]):=by
   refine fO 46 [(5,270,[30,31,32,33,34,35,36,37,38,39,40,41,43,44,0,1,2,3,4,5,6,7,8,9,10,11,12,1000,1001,1002,13,14,15])] Tryz.func532 rfl ?_ (.inr (nz r (B false) trivial))
   repeat'(first|refine gE ?_|(conv=>whnf);first|with_reducible refine CD (aa q) ?_|refine CC ?_|refine C8 (l) ?_|refine C8 (i) ?_|refine C8 (t) ?_|refine CJ rfl (aa q) rfl ?_)
   rfl
  have e:=key.fzR;rw[fF,Cc]at e;exact e
 refine⟨false,?_⟩;have a:=g.sml k;have l:=eN r a;have i:=iM r id a.1;rw[show fK r id n=r by unfold fK;rw[C9 (λx=>h x.1)]];have key:ar Tryz.prog 532 false [.val (some 2) (a7.enc .X r),.val none [I id],.val none [I n]] (.tup [some 2,none]) (a7.enc .own r++[B false]):=by
  refine fO 46 [(5,270,[30,31,32,33,34,35,36,37,38,39,40,41,43,44,0,1,2,3,4,5,6,7,8,9,10,11,12,1000,1001,1002,13,14,15])] Tryz.func532 rfl ?_ (.inr (nz r (B false) trivial))
  repeat'(first|refine gE ?_|(conv=>whnf);first|refine CC ?_|refine C8 (l) ?_|refine C8 (i) ?_)
  rfl
 have e:=key.fzR;rw[fF,Cc]at e;exact e
structure iV where
 i:Nat
 h:Int
deriving Inhabited
def w64(x:Int):Int:=IntKind.i64.wrap x
def RP(h:Int):Int:=w64 (w64 (h*6364136223846793005)+1442695040888963407)
def R9(a b:Int):Int:=w64 ((BitVec.ofInt IntKind.i64.bits a ^^^ BitVec.ofInt IntKind.i64.bits b).toNat:Nat)
def and255(a:Int):Int:=w64 ((BitVec.ofInt IntKind.i64.bits a &&& BitVec.ofInt IntKind.i64.bits 255).toNat:Nat)
def P8(h:Int)(n:Nat):Int:=h.fdiv (2 ^ (min n IntKind.i64.bits))
def Bq(h:Int):Int:=and255 (R9 (P8 h 33) (P8 h 45))
def AU(a:Int):0<=and255 a/\and255 a<=255:=by
 have b:(BitVec.ofInt IntKind.i64.bits a &&& BitVec.ofInt IntKind.i64.bits 255).toNat<=255:=by
  rw[BitVec.toNat_and];exact Z4 Nat.and_le_right (by decide)
 unfold and255 w64;rw[eP ω ω];omega
def dJ(zs:List Int)(c:iV):Int × iV:=if c.i<zs.length then(and255 (Bq (RP c.h)+nth zs c.i),⟨c.i+1,RP c.h⟩) else(Bq (RP c.h),⟨c.i,RP c.h⟩)
def sK(zs:List Int)(c:iV):0<=(dJ zs c).1/\(dJ zs c).1<=255:=by
 unfold dJ;split<;>exact AU _
def jy{zs:List Int}{c:iV}(h:c.i<=zs.length):(dJ zs c).2.i<=zs.length:=by
 unfold dJ;split
 ·simp only;omega
 exact h
def AJ(zs:List Int)(c:iV):Int × iV:=
 ((dJ zs c).1*16777216+(dJ zs (dJ zs c).2).1*65536+(dJ zs (dJ zs (dJ zs c).2).2).1*256+(dJ zs (dJ zs (dJ zs (dJ zs c).2).2).2).1,(dJ zs (dJ zs (dJ zs (dJ zs c).2).2).2).2)
def bv(zs:List Int)(c:iV)(n:Int):Int × iV:=if n<=256 then((dJ zs c).1 % n,(dJ zs c).2) else((AJ zs c).1 % n,(AJ zs c).2)
def bG(zs:List Int)(c:iV){n:Int}(h:1<=n):0<=(bv zs c n).1/\(bv zs c n).1<n:=by
 unfold bv;split<;>exact⟨Int.emod_nonneg _ ω,Int.emod_lt_of_pos _ ω⟩
def bV{zs:List Int}{c:iV}(h:c.i<=zs.length)(n:Int):(bv zs c n).2.i<=zs.length:=by
 unfold bv;split
 ·exact jy h
 exact jy (jy (jy (jy h)))
def lU(zs:List Int)(c:iV)(l:List Int):Int × iV:=(nth l (bv zs c (l.length:Nat)).1.toNat,(bv zs c (l.length:Nat)).2)
def qy(zs:List Int)(c:iV){l:List Int}(h:1<=l.length):(lU zs c l).1∈l:=by
 have:=bG zs c (n:=(l.length:Nat)) ω;exact am ω
def pP(zs:List Int):Nat->Nat->List Int->iV->List Int × iV
 | 0,_,out,c=>(out,(bv zs c 4).2)
 | f+1,i,out,c=>if(i:Int)<(bv zs c 4).1 then pP zs f (i+1) (out++[(bv zs (bv zs c 4).2 12).1]) (bv zs (bv zs c 4).2 12).2 else(out,(bv zs c 4).2)
def PA(zs:List Int)(c:iV):List Int × iV:=pP zs 4 0 [] c
def Kf(zs:List Int):∀(f i:Nat)(out:List Int)(c:iV),(∀x∈out,0<=x)->out.length+f<=4->c.i<=zs.length->(∀x∈(pP zs f i out c).1,0<=x)/\(pP zs f i out c).1.length<=4/\(pP zs f i out c).2.i<=zs.length
 | 0,_,out,c,b,e,d=>⟨b,by show out.length<=4;omega,bV d _⟩
 | f+1,i,out,c,b,e,d=>by
  unfold pP;split
  ·refine Kf zs f (i+1) _ _ (λx a=>?_) (by simp only[O3,List.length_singleton];omega) (bV (bV d _) _)
   rcases z3.1 a with a|a
   ·exact b x a
   rw[O1.1 a];exact(bG zs _ (by decide)).1
  exact⟨b,by show out.length<=4;omega,bV d _⟩
def Am(zs:List Int)(c:iV):Int × iV:=bv zs c 7
def EN(zs:List Int)(c:iV):Int × iV:=bv zs (Am zs c).2 3
def GR(zs:List Int)(c:iV):Int × iV:=bv zs (EN zs c).2 100
def DH(zs:List Int)(c:iV):Int × iV:=bv zs (GR zs c).2 4
def Rb(zs:List Int)(c:iV):List Int × iV:=PA zs (DH zs c).2
def qY(zs:List Int)(c:iV):cH:=⟨(6+(Am zs c).1).toNat,(6+(Am zs c).1 - (DH zs c).1).toNat,(1+(EN zs c).1).toNat,40+(GR zs c).1,(Rb zs c).1⟩
def p6{zs:List Int}{c:iV}(h:c.i<=zs.length):Fa (qY zs c)/\(Rb zs c).2.i<=zs.length:=by
 have a:=bG zs c (n:=7) (by decide);have b:=bG zs (Am zs c).2 (n:=3) (by decide);have d:=bG zs (EN zs c).2 (n:=100) (by decide);have e:=bG zs (GR zs c).2 (n:=4) (by decide);change 0<=(Am zs c).1/\(Am zs c).1<7 at a;change 0<=(EN zs c).1/\(EN zs c).1<3 at b;change 0<=(GR zs c).1/\(GR zs c).1<100 at d;change 0<=(DH zs c).1/\(DH zs c).1<4 at e;obtain⟨f,k,g⟩:=Kf zs 4 0 [] (DH zs c).2 (λx j=>by cases j) (by simp) (bV (bV (bV (bV h _) _) _) _);refine⟨⟨?_,?_,?_,?_,?_⟩,g⟩
 ·show 1<=(6+(Am zs c).1).toNat/\(6+(Am zs c).1).toNat<=32;omega
 ·show 1<=(6+(Am zs c).1 - (DH zs c).1).toNat/\(6+(Am zs c).1 - (DH zs c).1).toNat<=32;omega
 ·show 1<=(1+(EN zs c).1).toNat/\(1+(EN zs c).1).toNat<=4;omega
 ·show 0<=40+(GR zs c).1/\40+(GR zs c).1<=1000;omega
 exact⟨by show(pP zs 4 0 [] (DH zs c).2).1.length<=40;omega,f⟩
def Ar(zs:List Int)(c:iV):Int × iV:=bv zs c 3
def G8(zs:List Int)(c:iV)(ids:Int):Int × iV:=bv zs (Ar zs c).2 ids
def lL(zs:List Int)(c:iV)(ids:Int):Int × iV:=bv zs (G8 zs c ids).2 20
def szs:List Int:=[1,1,2,2,3,4,4,5,8,9,20]
def tc(zs:List Int)(c:iV)(ids:Int):eL × iV:=
 if(lL zs c ids).1<=6 then(⟨1,(Ar zs c).1,(lU zs (lL zs c ids).2 szs).1,0,0⟩,(lU zs (lL zs c ids).2 szs).2)
 else if(lL zs c ids).1<=9 then(⟨2,(Ar zs c).1,1+(G8 zs c ids).1,0,0⟩,(lL zs c ids).2)
 else if(lL zs c ids).1<=12 then(⟨3,(Ar zs c).1,1+(G8 zs c ids).1,(bv zs (lL zs c ids).2 4).1,1+(bv zs (bv zs (lL zs c ids).2 4).2 999).1⟩,(bv zs (bv zs (lL zs c ids).2 4).2 999).2)
 else if(lL zs c ids).1=13 then(⟨4,(Ar zs c).1,1+(G8 zs c ids).1,0,9+(bv zs (lL zs c ids).2 10).1⟩,(bv zs (lL zs c ids).2 10).2)
 else if(lL zs c ids).1=14 then(⟨(lU zs (lL zs c ids).2 [5,6]).1,(Ar zs c).1,1+(G8 zs c ids).1,0,0⟩,(lU zs (lL zs c ids).2 [5,6]).2)
 else if(lL zs c ids).1=15 then(⟨7,(Ar zs c).1,1+(G8 zs c ids).1,0,0⟩,(lL zs c ids).2)
 else if(lL zs c ids).1=16 then(⟨8,(Ar zs c).1,(lU zs (lL zs c ids).2 [1,30,60,120]).1,0,0⟩,(lU zs (lL zs c ids).2 [1,30,60,120]).2)
 else if(lL zs c ids).1=17 then(⟨9,(Ar zs c).1,1+(G8 zs c ids).1,0,0⟩,(lL zs c ids).2)
 else(⟨10,(Ar zs c).1,(lU zs (lL zs c ids).2 [1,2,3,10,30]).1,0,0⟩,(lU zs (lL zs c ids).2 [1,2,3,10,30]).2)
structure NZ(a:eL):Prop where
 k:1<=a.b6/\a.b6<=10
 t:0<=a.a5/\a.a5<=1000000
 n:0<=a.N/\a.N<=1000000
 p:0<=a.At/\a.At<=1000000
 v:0<=a.Value/\a.Value<=1000000
def Ph{zs:List Int}{c:iV}{ids:Int}(h:c.i<=zs.length)(b:1<=ids/\ids<=1000):NZ (tc zs c ids).1/\(tc zs c ids).2.i<=zs.length:=by
 have d:=bG zs c (n:=3) (by decide);have e:=bG zs (Ar zs c).2 (n:=ids) b.1;change 0<=(Ar zs c).1/\(Ar zs c).1<3 at d;change 0<=(G8 zs c ids).1/\(G8 zs c ids).1<ids at e;have a:(lL zs c ids).2.i<=zs.length:=bV (bV (bV h _) _) _;have f:=qy zs (lL zs c ids).2 (l:=szs) (by decide);have g:=qy zs (lL zs c ids).2 (l:=[5,6]) (by decide);have j:=qy zs (lL zs c ids).2 (l:=[1,30,60,120]) (by decide);have k:=qy zs (lL zs c ids).2 (l:=[1,2,3,10,30]) (by decide);have o:=bG zs (lL zs c ids).2 (n:=4) (by decide);have p:=bG zs (bv zs (lL zs c ids).2 4).2 (n:=999) (by decide);have q:=bG zs (lL zs c ids).2 (n:=10) (by decide);simp only[szs,List.mem_cons,List.not_mem_nil,or_false]at f g j k;unfold tc
 repeat' split
 ·exact⟨⟨by simp only;omega,by simp only;omega,by simp only[szs];omega,by simp only;omega,by simp only;omega⟩,bV a _⟩
 ·exact⟨⟨by simp only;omega,by simp only;omega,by simp only;omega,by simp only;omega,by simp only;omega⟩,a⟩
 ·exact⟨⟨by simp only;omega,by simp only;omega,by simp only;omega,by simp only;omega,by simp only;omega⟩,bV (bV a _) _⟩
 ·exact⟨⟨by simp only;omega,by simp only;omega,by simp only;omega,by simp only;omega,by simp only;omega⟩,bV a _⟩
 ·exact⟨⟨by simp only;omega,by simp only;omega,by simp only;omega,by simp only;omega,by simp only;omega⟩,bV a _⟩
 ·exact⟨⟨by simp only;omega,by simp only;omega,by simp only;omega,by simp only;omega,by simp only;omega⟩,a⟩
 ·exact⟨⟨by simp only;omega,by simp only;omega,by simp only;omega,by simp only;omega,by simp only;omega⟩,bV a _⟩
 ·exact⟨⟨by simp only;omega,by simp only;omega,by simp only;omega,by simp only;omega,by simp only;omega⟩,a⟩
 exact⟨⟨by simp only;omega,by simp only;omega,by simp only;omega,by simp only;omega,by simp only;omega⟩,bV a _⟩
def lK(zs:List Int)(c:iV):Nat->List eL × iV
 | 0=>([],(bv zs c 41).2)
 | i+1=>((lK zs c i).1++[(tc zs (lK zs c i).2 (1+(i:Int) / 2)).1],(tc zs (lK zs c i).2 (1+(i:Int) / 2)).2)
def l7(zs:List Int)(c:iV):List eL × iV:=lK zs c (bv zs c 41).1.toNat
def pH{zs:List Int}{c:iV}(h:c.i<=zs.length):∀{n:Nat},n<=100->(lK zs c n).1.length=n/\(∀a∈(lK zs c n).1,NZ a)/\(lK zs c n).2.i<=zs.length
 | 0,_=>⟨rfl,λa b=>(by cases b),bV h _⟩
 | n+1,k=>by
  obtain⟨d,e,f⟩:=pH h (n:=n) ω;obtain⟨g,j⟩:=Ph (ids:=1+(n:Int) / 2) f ω;refine⟨by simp only[lK,O3,List.length_singleton,d],λa b=>?_,j⟩;rcases z3.1 b with b|b
  ·exact e a b
  rw[O1.1 b];exact g
def q9(zs:List Int):Nat->Int
 | 0=>w64 (98801+(zs.length:Nat))
 | i+1=>w64 ((BitVec.ofInt IntKind.i64.bits (w64 (w64 (w64 (q9 zs i*131)+nth zs i)+7)) &&& BitVec.ofInt IntKind.i64.bits 1073741823).toNat:Nat)
def sZ(zs:List Int):iV:=⟨0,q9 zs (min zs.length 4000)⟩
def eC(zs:List Int):iV:=(Rb zs (sZ zs)).2
def drawn(zs:List Int):bp:=(zj (qY zs (sZ zs)) (l7 zs (eC zs)).1 (l7 zs (eC zs)).1.length).1
def yI(zs:List Int):rX (drawn zs) 40:=by
 have a:(sZ zs).i<=zs.length:=W0 _;obtain⟨b,d⟩:=p6 a;have f:=bG zs (eC zs) (n:=41) (by decide);obtain⟨e,-,-⟩:=pH (zs:=zs) (c:=eC zs) d (n:=(bv zs (eC zs) 41).1.toNat) ω;refine(u6 b _ _).more ?_;show(lK zs (eC zs) _).1.length<=40;rw[e];omega
def rU(z:Int):List C:=[.v (.int .u8 z)]
def iI(zs:List Int)(c:iV):List C:=[.s .X (zs.map rU),I (c.i:Nat),I c.h]
def jK(zs:List Int):Prop:=zs.length<=1048576/\∀z∈zs,0<=z/\z<=255
def kV(zs:List Int)(c:iV)(e:jK zs)(w:c.i<=zs.length):aT Tryz.prog 195 false [.ptr (iI zs c)] [.ptr (iI zs (dJ zs c).2)] .one [I (dJ zs c).1]:=by
 have g:IntKind.i64.wrap (c.h*6364136223846793005)=w64 (c.h*6364136223846793005):=rfl;have b:IntKind.i64.wrap (w64 (c.h*6364136223846793005)+1442695040888963407)=RP c.h:=rfl;have o:=e.1;generalize p:RP c.h=H at b;have j:H.fdiv (2 ^ (min (33:Int).toNat IntKind.i64.bits))=P8 H 33:=rfl;have k:H.fdiv (2 ^ (min (45:Int).toNat IntKind.i64.bits))=P8 H 45:=rfl;have l:IntKind.i64.wrap (BitVec.ofInt IntKind.i64.bits (P8 H 33) ^^^ BitVec.ofInt IntKind.i64.bits (P8 H 45)).toNat=R9 (P8 H 33) (P8 H 45):=rfl;have d:IntKind.i64.wrap (BitVec.ofInt IntKind.i64.bits (R9 (P8 H 33) (P8 H 45)) &&& BitVec.ofInt IntKind.i64.bits 255).toNat=Bq H:=rfl;have r:0<=Bq H/\Bq H<=255:=AU _;unfold dJ;rw[p];generalize Bq H=y at d r |-;refine fM 58 [] [(2,10,[13,14,15,16,17,18,19,20,21,22]),(3,9,[25,26,27,28,29,30,31,32,33]),(4,12,[35,36,37,38,39,40,41,42,43,44,45,46])] [(0,0)] Tryz.func195 rfl (λu q=>?_);by_cases a:c.i<zs.length
 ·rw[CB a]
  have n:=ao a;have B:=e.2 _ (am a);have t:IntKind.i64.wrap (BitVec.ofInt IntKind.i64.bits (y+nth zs c.i) &&& BitVec.ofInt IntKind.i64.bits 255).toNat=and255 (y+nth zs c.i):=rfl
  repeat'(first|refine gE ?_|(conv=>whnf);first|with_reducible (first|refine CN g ?_|refine CN b ?_|refine CN l ?_|refine CN d ?_|refine CN t ?_|refine CO (by decide) ?_|refine CR j ?_|refine CR k ?_))
  refine CH rfl rfl ?_;exact wB
 rw[C9 a]
 repeat'(first|refine gE ?_|(conv=>whnf);first|with_reducible (first|refine CN g ?_|refine CN b ?_|refine CN l ?_|refine CN d ?_|refine CO (by decide) ?_|refine CR j ?_|refine CR k ?_))
 refine CH rfl rfl ?_;exact wB
def bT(zs:List Int)(c:iV)(n:Int)(b:jK zs)(d:c.i<=zs.length)(p:1<=n):aT Tryz.prog 58 false [.ptr (iI zs c),.val none [I n]] [.ptr (iI zs (bv zs c n).2),.val none [I n]] .one [I (bv zs c n).1]:=by
 have j:=sK zs c;have g:=kV zs c b d;unfold bv;refine fM 37 [(195,[2])] [] [(0,0),(0,0)] Tryz.func58 rfl (λu q=>?_);by_cases h:n<=256
 ·rw[CB h]
  have a:(dJ zs c).1.tmod n=(dJ zs c).1 % n:=Int.tmod_eq_emod_of_nonneg j.1
  repeat'(first|refine gE ?_|(conv=>whnf);first|with_reducible refine CR a ?_|refine CK (g) (.inl rfl) ?_|refine CO ω ?_)
  refine CH rfl rfl ?_;exact wB
 rw[C9 h];have r:=sK zs (dJ zs c).2;have t:=sK zs (dJ zs (dJ zs c).2).2;have w:=sK zs (dJ zs (dJ zs (dJ zs c).2).2).2;have k:=kV zs (dJ zs c).2 b (jy d);have l:=kV zs (dJ zs (dJ zs c).2).2 b (jy (jy d));have o:=kV zs (dJ zs (dJ zs (dJ zs c).2).2).2 b (jy (jy (jy d)));have a:(AJ zs c).1.tmod n=(AJ zs c).1 % n:=Int.tmod_eq_emod_of_nonneg (by unfold AJ;simp only;omega);unfold AJ at a |-;simp only at a
 repeat'(first|refine gE ?_|(conv=>whnf);first|with_reducible refine CR a ?_|refine CK (g) (.inl rfl) ?_|refine CK (k) (.inl rfl) ?_|refine CK (l) (.inl rfl) ?_|refine CK (o) (.inl rfl) ?_|refine CO ω ?_)
 refine CH rfl rfl ?_;exact wB
def LP(zs:List Int)(c:iV)(l:List Int)(b:jK zs)(d:c.i<=zs.length)(g:1<=l.length/\l.length<=1000):aT Tryz.prog 459 false [.ptr (iI zs c),.val none (aD .X l)] [.ptr (iI zs (lU zs c l).2),.val none (aD .X l)] .one [I (lU zs c l).1]:=by
 have e:=bT zs c (l.length:Nat) b d ω;have h:=bG zs c (n:=(l.length:Nat)) ω;have a:=ao (xs:=l) (i:=(bv zs c (l.length:Nat)).1.toNat) ω;unfold lU;refine fM 12 [(58,[2,0])] [] [(0,0),(0,0)] Tryz.func459 rfl (λu q=>?_)
 repeat'(first|refine gP ?_|(conv=>whnf);first|with_reducible refine CM ω (aa a) ?_|refine CK (e) (.inl rfl) ?_)
 refine CH rfl rfl ?_;exact wC
def iZ(zs:List Int)(c:iV)(l:List Int)(b:jK zs)(d:c.i<=zs.length)(g:1<=l.length/\l.length<=1000):aT Tryz.prog 459 false [.ptr (iI zs c),.mut none (aD .own l)] [.ptr (iI zs (lU zs c l).2),.mut none (aD .own l)] .one [I (lU zs c l).1]:=by
 have e:=bT zs c (l.length:Nat) b d ω;have h:=bG zs c (n:=(l.length:Nat)) ω;have a:=ao (xs:=l) (i:=(bv zs c (l.length:Nat)).1.toNat) ω;unfold lU;refine fM 12 [(58,[2,0])] [] [(0,0),(1,0)] Tryz.func459 rfl (λu q=>?_)
 repeat'(first|refine gP ?_|(conv=>whnf);first|with_reducible refine CM ω (aa a) ?_|refine CK (e) (.inl rfl) ?_)
 refine CH rfl rfl ?_;exact wC
def LI(zs:List Int):∀(f i:Nat)(out:List Int)(c:iV),(bv zs c 4).1<=i->pP zs f i out c=(out,(bv zs c 4).2)
 | 0,_,_,_,_=>rfl
 | f+1,i,out,c,h=>by unfold pP;rw[C9 ω]
def Q0(zs:List Int)(f i:Nat)(out:List Int)(c:iV)(h:(i:Int)<(bv zs c 4).1):pP zs (f+1) i out c=pP zs f (i+1) (out++[(bv zs (bv zs c 4).2 12).1]) (bv zs (bv zs c 4).2 12).2:=by
 show(if _ then _ else _)=_;rw[CB h]
structure Rq where
 i:Nat
 out:List Int
 c:iV
def yM(zs:List Int)(c:iV)(e:jK zs)(j:c.i<=zs.length):aT Tryz.prog 345 false [.ptr (iI zs c)] [.ptr (iI zs (PA zs c).2)] .one (aD .own (PA zs c).1):=by
 refine fM 18 [(58,[2,0])] [] [(0,0)] Tryz.func345 rfl (λu q=>?_) (.inr (bH _))
 repeat'(first|refine gP ?_|fail)
 (conv=>whnf)
 refine CF (ι:=Rq) (λx=>[(0,.H .box (iI zs x.c)),(3,.H .one (aD .own x.out)),(4,.H .one [I ((x.i:Nat):Int)])]) (λx=>(x.i<=4/\x.out.length<=x.i/\x.c.i<=zs.length)/\pP zs (4 - x.i) x.i x.out x.c=PA zs c) (λx=>4 - x.i) (⟨0,[],c⟩) ?_ (⟨⟨W0 _,W0 _,j⟩,rfl⟩) λx k=>?_
 ·exact wC
 obtain⟨i,out,d⟩:=x;obtain⟨⟨l,o,b⟩,a⟩:=k;simp only at l o b a |-;have B:=bG zs d (n:=4) (by decide);have g:=bT zs d 4 e b (by decide);have h:=bV b 4;have p:=bT zs (bv zs d 4).2 12 e h (by decide);have t:=bV h 12;by_cases w:(i:Int)<(bv zs d 4).1
 ·rw[show 4 - i=(4 - (i+1))+1 by omega,Q0 zs _ _ _ _ w]at a
  repeat'(first|refine gE ?_|(conv=>whnf);first|refine CK (g) (.inl rfl) ?_|refine CK (p) (.inl rfl) ?_|refine CU co (λr y=>by rw[O1.1 y];rfl) (by simp[aZ,eD]) (by simp;omega) (by simp only[C1];exact zh (by simp;omega) (by decide)) rfl ?_)
  ((conv=>whnf);refine CE ⟨i+1,out++[(bv zs (bv zs d 4).2 12).1],(bv zs (bv zs d 4).2 12).2⟩ ⟨⟨by simp only;omega,by simp only[O3,List.length_singleton];omega,t⟩,a⟩ (by simp only;omega) ?_)
  repeat'(first|exact trivial|rfl |exact CL rfl (CL (X0 (C.s dY.own) (by simp[rI])) trivial)|refine CL ?_ ?_)
 rw[LI zs _ _ _ _ ω]at a;rw[<-a]
 repeat'(first|refine gE ?_|(conv=>whnf);refine CK (g) (.inl rfl) ?_)
 refine CH rfl rfl ?_;exact wC
def cH.enc(o:dY)(c:cH):List C:=[I (c.a4:Nat),I (c.V:Nat),I (c.c7:Nat),I c.c3,.s o (c.w.map (rI o))]
def cH.enc_fz(c:cH):eG (cH.enc .own c)=cH.enc .X c:=by simp[eG,cH.enc,rI,<-cw,Y5]
def cH.enc_fr(c:cH):ia (cH.enc .own c):=⟨trivial,trivial,trivial,trivial,⟨.inl λh=>(by cases h),bf _ _ λy _=>oy y⟩,trivial⟩
def xl(zs:List Int)(c:iV)(a:jK zs)(h:c.i<=zs.length):aT Tryz.prog 193 false [.ptr (iI zs c)] [.ptr (iI zs (Rb zs c).2)] .agg (cH.enc .own (qY zs c)):=by
 have j:=bV h 7;have k:=bV j 3;have l:=bV k 100;have y:=bV l 4;have b:=bT zs c 7 a h (by decide);have d:=bT zs (Am zs c).2 3 a j (by decide);have e:=bT zs (EN zs c).2 100 a k (by decide);have g:=bT zs (GR zs c).2 4 a l (by decide);have o:=yM zs (DH zs c).2 a y;have p:=bG zs c (n:=7) (by decide);have r:=bG zs (Am zs c).2 (n:=3) (by decide);have B:=bG zs (EN zs c).2 (n:=100) (by decide);have t:=bG zs (GR zs c).2 (n:=4) (by decide);have w:=cH.enc_fr (qY zs c);have C:cH.enc .own (qY zs c)=[I (6+(Am zs c).1),I (6+(Am zs c).1 - (DH zs c).1),I (1+(EN zs c).1),I (40+(GR zs c).1),.s .own ((Rb zs c).1.map (rI .own))]:=by
  have D:0<=(Am zs c).1/\(Am zs c).1<7:=p;have E:0<=(EN zs c).1/\(EN zs c).1<3:=r;have F:0<=(DH zs c).1/\(DH zs c).1<4:=t;unfold cH.enc qY;simp only;rw[Int.toNat_of_nonneg ω,Int.toNat_of_nonneg ω,Int.toNat_of_nonneg ω]
 rw[C]at w |-;change aT _ _ _ _ [.ptr (iI zs (Am zs c).2),_] _ _ at b;change aT _ _ _ _ [.ptr (iI zs (EN zs c).2),_] _ _ at d;change aT _ _ _ _ [.ptr (iI zs (GR zs c).2),_] _ _ at e;change aT _ _ _ _ [.ptr (iI zs (DH zs c).2),_] _ _ at g;change aT _ _ _ _ [.ptr (iI zs (Rb zs c).2)] _ (aD .own (Rb zs c).1) at o;change aT _ _ _ _ _ _ [I (Am zs c).1]at b;change aT _ _ _ _ _ _ [I (EN zs c).1]at d;change aT _ _ _ _ _ _ [I (GR zs c).1]at e;change aT _ _ _ _ _ _ [I (DH zs c).1]at g;change 0<=(Am zs c).1/\(Am zs c).1<7 at p;change 0<=(EN zs c).1/\(EN zs c).1<3 at r;change 0<=(GR zs c).1/\(GR zs c).1<100 at B;change 0<=(DH zs c).1/\(DH zs c).1<4 at t;generalize Rb zs c=r5 at *;generalize DH zs c=r4 at *;generalize GR zs c=r3 at *;generalize EN zs c=r2 at *;generalize Am zs c=r1 at *;refine fM 24 [(58,[2,0]),(345,[2])] [(2,65536,[])] [(0,0)] Tryz.func193 rfl (λu q=>?_) (.inr w)
 repeat'(first|refine gP ?_|(conv=>whnf);first|refine CK (b) (.inl rfl) ?_|refine CK (d) (.inl rfl) ?_|refine CK (e) (.inl rfl) ?_|refine CK (g) (.inl rfl) ?_|refine CK (o) (.inl rfl) ?_|refine CL ?_ ?_)
 all_goals
  refine CH rfl rfl ?_;exact wC
def xa(n:Nat)(e:1<=n/\n<=32):ar Tryz.prog 580 false [.val none [I (n:Nat)]] (.tup [some 2,none]) (aV.enc .own (gz n)++[B true]):=by
 have c:=aH ((n:Nat):Int) 1 32;rw[O0 ω]at c;have a:=aI (b:=[B true]) (aV.enc_fr (gz n)) ⟨trivial,trivial⟩;rw[show aV.enc .own (gz n)=_ from Hr n n]at a |-;refine fO 28 [(7,4,[16,17,18,19])] Tryz.func580 rfl ?_ (.inr a)
 repeat'(first|refine gP ?_|(conv=>whnf);first|refine CC ?_|refine C8 (c) ?_)
 (conv=>whnf)
 refine CF (ι:=Nat) (λk=>[(0,.H .one [I ((n:Nat))]),(2,.H .box [.z,.z]),(4,.H .box [.s .own (List.replicate k [.s .own (List.replicate 16 [I 0])]),.s .own (List.replicate k [B false])]),(5,.H .one [I ((k:Nat):Int)])]) (λk=>k<=n) (λk=>n - k) (0) ?_ (W0 _) λk g=>?_
 ·exact wB
 by_cases h:k<n
 ·repeat'(first|refine gE ?_|(conv=>whnf);first|refine Mk.mk 16 rfl rfl (by decide) (by decide) rfl ?_|refine Ap.sn (λr d=>by rw[(List.mem_replicate.1 d).2];rfl) rfl (by simp;omega) (by decide) (Fg _ k) ?_)
  ((conv=>whnf);refine CE (k+1) ω ω ?_;(exact wB))
 obtain rfl:k=n:=ω
 repeat'(first|refine gE ?_|(conv=>whnf);refine CC ?_)
 rfl
def zN(n:Nat)(e:1<=n/\n<=32):ar Tryz.prog 581 false [.val none [I (n:Nat)]] (.tup [some 1,none]) (aG.enc .own (eY n)++[B true]):=by
 have c:=aH ((n:Nat):Int) 1 32;rw[O0 ω]at c;have a:=aI (b:=[B true]) (aG.enc_fr (eY n)) ⟨trivial,trivial⟩;have d:aG.enc .own (eY n)=[.s .own (List.replicate n [I 0,I 0])]:=by simp[aG.enc,eY,bh.enc,List.map_replicate]
 rw[d]at a |-;refine fO 11 [] Tryz.func581 rfl ?_ (.inr a)
 repeat'(first|refine gP ?_|(conv=>whnf);refine Mk.mk n rfl rfl ω (zh ω (by decide)) rfl ?_)
 rfl
def wl(p f:Nat)(a:1<=p/\p<=32)(b:1<=f/\f<=32):ar Tryz.prog 557 false [.val none [I (p:Nat)],.val none [I (f:Nat)]] (.tup [some 3,none]) (aR.enc .own ⟨gz f,eY p⟩++[B true]):=by
 refine fO 30 [] Tryz.func557 rfl ?_ (.inr (aI (aR.enc_fr _) ⟨trivial,trivial⟩))
 repeat'(first|refine gP ?_|(conv=>whnf);first|refine C8 (xa f b) ?_|refine C8 (zN p a) ?_)
 rfl
def wP(p f:Nat)(a:List Int)(b:1<=p/\p<=32)(c:1<=f/\f<=32)(d:a.length<=40/\∀x∈a,0<=x):ar Tryz.prog 523 false [.val none [I (p:Nat)],.val none [I (f:Nat)],.val none (aD .X a)] (.tup [some 5,none]) (af.enc .own (bK p f a)++[B true]):=by
 have e:=qN b c d;have h:=d.1;have g:=mz (bK p f a) (bk e);rw[e]at g;refine fO 31 [(2,260,[17,18,19,10,0,1,2,5,3,1000,1005,4,1005,6])] Tryz.func523 rfl ?_ (.inr (aI (Cb _) ⟨trivial,trivial⟩))
 repeat'(first|refine gP ?_|(conv=>whnf);first|refine C8 (wl p f b c) ?_|refine CG (g) ⟨⟨rfl,CT (bK p f a)⟩,trivial⟩ ?_|refine CP (λ_=>rfl) (λ_=>rfl) ω (by decide) ?_)
 rfl
def RV(p f t:Nat)(lim:Int)(a:List Int)(k:Nat):ab:={caps (newHeap p f t lim a) k with a9:=⟨0,[]⟩}
def BX(p f t:Nat)(lim:Int)(a:List Int)(c:1<=p/\p<=32)(d:1<=f/\f<=32)(e:1<=t/\t<=4)(g:0<=lim/\lim<=1000)(h:a.length<=40/\∀x∈a,0<=x):ar Tryz.prog 449 false [.val none [I (p:Nat)],.val none [I (f:Nat)],.val none [I (t:Nat)],.val none [I lim],.val none (aD .X a)] (.tup [some 24,none]) (ab.enc .own (newHeap p f t lim a)++[B true]):=by
 have b:=aH lim 0 1000;rw[O0 g]at b;refine fO 66 [(9,4,[54,55,56,57])] Tryz.func449 rfl ?_ (.inr (aI (ab.enc_fr _) ⟨trivial,trivial⟩))
 repeat'(first|refine gP ?_|(conv=>whnf);first|refine C8 (wP p f a c d h) ?_|refine C8 (B8 t e) ?_)
 (conv=>whnf)
 refine CF (ι:=Nat) (λk=>[(2,.H .one [I ((t:Nat))]),(10,.H .box [.z,.z,.z,I 0,.z,.z,.z,.z,.z,.z,.z,.z,I 0,.z,I 0,I 0,I 0,I 0,B false,I 0,I 0,.z,I 0,I 0]),(16,.H .box (ab.enc .own (RV p f t lim a k))),(17,.H .one [I ((k:Nat):Int)])]) (λk=>k<=t) (λk=>t - k) (0) ?_ (W0 _) λk i=>?_
 ·exact wB
 by_cases j:k<t
 ·repeat'(first|refine gE ?_|(conv=>whnf);first|refine C8 (z7) ?_|refine Ap.sn MP rfl (by rw[C1];show(List.replicate _ fR).length+1<=_;rw[X3];omega) (by decide) (L0 k) ?_)
  ((conv=>whnf);refine CE (k+1) ω ω ?_;(exact wB))
 obtain rfl:k=t:=ω
 repeat'(first|refine gE ?_|(conv=>whnf);refine C8 (sV) ?_)
 rfl
def EU:ar Tryz.prog 450 false [] .agg (a7.enc .own ⟨1,[]⟩):=by
 refine fO 2 [] Tryz.func450 rfl ?_ (.inr (a7.enc_fr _))
 repeat'((conv=>whnf);with_reducible refine jG.wk rfl ?_)
 exact⟨rfl,rfl,trivial⟩
def zT(c:cH)(h:Fa c):ar Tryz.prog 342 false [.val (some 5) (cH.enc .X c)] (.tup [some 26,none]) (bp.enc .own (world0 c)++[B true]):=by
 have a:=BX c.a4 c.V c.c7 c.c3 c.w h.p h.f h.t h.l h.r;refine fO 26 [(4,2,[23,24])] Tryz.func342 rfl ?_ (.inr (aI (bp.enc_fr _) ⟨trivial,trivial⟩))
 repeat'(first|refine gP ?_|(conv=>whnf);refine C8 (EU) ?_)
 rfl
def pv(o:dY)(l:List eL):List C:=[.s o (l.map (eL.enc o))]
def eL.enc_fr(x:eL):ia (eL.enc .own x):=⟨trivial,trivial,trivial,trivial,trivial,trivial⟩
def KR(l:List eL):ia (pv .own l):=⟨⟨.inl λh=>(by cases h),bf _ _ λy _=>eL.enc_fr y⟩,trivial⟩
def Le(l:List eL):eG (pv .own l)=pv .X l:=by simp[eG,pv,eL.enc,<-cw,Y5]
def FS(zs:List Int)(c:iV)(ids:Int)(b:jK zs)(p:c.i<=zs.length)(r:1<=ids/\ids<=1000):aT Tryz.prog 346 false [.ptr (iI zs c),.val none [I ids]] [.ptr (iI zs (tc zs c ids).2),.val none [I ids]] .agg (eL.enc .own (tc zs c ids).1):=by
 have w:=bV p 3;have y:=bV w ids;have d:(lL zs c ids).2.i<=zs.length:=bV y 20;have B:=bT zs c 3 b p (by decide);have C:=bT zs (Ar zs c).2 ids b w r.1;have j:=bT zs (G8 zs c ids).2 20 b y (by decide);have H:=bG zs c (n:=3) (by decide);have J:=bG zs (Ar zs c).2 (n:=ids) r.1;have D:=bG zs (G8 zs c ids).2 (n:=20) (by decide);have e:=iZ zs (lL zs c ids).2 szs b d (by decide);have E:=iZ zs (lL zs c ids).2 [5,6] b d (by decide);have F:=iZ zs (lL zs c ids).2 [1,30,60,120] b d (by decide);have l:=iZ zs (lL zs c ids).2 [1,2,3,10,30] b d (by decide);have g:=bT zs (lL zs c ids).2 4 b d (by decide);have h:=bT zs (bv zs (lL zs c ids).2 4).2 999 b (bV d _) (by decide);have G:=bT zs (lL zs c ids).2 10 b d (by decide);have K:=bG zs (bv zs (lL zs c ids).2 4).2 (n:=999) (by decide);have L:=bG zs (lL zs c ids).2 (n:=10) (by decide);change aT _ _ _ _ [.ptr (iI zs (Ar zs c).2),_] _ [I (Ar zs c).1]at B;change aT _ _ _ _ [.ptr (iI zs (G8 zs c ids).2),_] _ [I (G8 zs c ids).1]at C;change aT _ _ _ _ [.ptr (iI zs (lL zs c ids).2),_] _ [I (lL zs c ids).1]at j;change 0<=(Ar zs c).1/\(Ar zs c).1<3 at H;change 0<=(G8 zs c ids).1/\(G8 zs c ids).1<ids at J;change 0<=(lL zs c ids).1/\(lL zs c ids).1<20 at D;have o:=eL.enc_fr (tc zs c ids).1;unfold tc at o |-;generalize lL zs c ids=k at *;generalize G8 zs c ids=n at *;generalize Ar zs c=t at *;obtain⟨a,M⟩:=k;dsimp only at d e E F l g h G K L D j o |-;refine fM 77 [(58,[2,0]),(459,[2,1])] [] [(0,0),(0,0)] Tryz.func346 rfl (λu q=>?_) (.inr o)
 repeat'(first|refine gP ?_|(conv=>whnf);first|refine CK (B) (.inl rfl) ?_|refine CK (C) (.inl rfl) ?_|refine CK (j) (.inl rfl) ?_)
 obtain rfl|rfl|rfl|rfl|rfl|rfl|rfl|rfl|rfl|rfl|rfl|rfl|rfl|rfl|rfl|rfl|rfl|rfl|rfl|rfl:=(show a=0\/a=1\/a=2\/a=3\/a=4\/a=5\/a=6\/a=7\/a=8\/a=9\/a=10\/a=11\/a=12\/a=13\/a=14\/a=15\/a=16\/a=17\/a=18\/a=19 by omega)
 ·rw[CB (show((0:Int))<=6 by decide)]
  repeat'(first|refine gP ?_|(conv=>whnf);refine CK (e) (.inl rfl) ?_)
  refine CH rfl rfl ?_;exact wC
 ·rw[CB (show((1:Int))<=6 by decide)]
  repeat'(first|refine gP ?_|(conv=>whnf);refine CK (e) (.inl rfl) ?_)
  refine CH rfl rfl ?_;exact wC
 ·rw[CB (show((2:Int))<=6 by decide)]
  repeat'(first|refine gP ?_|(conv=>whnf);refine CK (e) (.inl rfl) ?_)
  refine CH rfl rfl ?_;exact wC
 ·rw[CB (show((3:Int))<=6 by decide)]
  repeat'(first|refine gP ?_|(conv=>whnf);refine CK (e) (.inl rfl) ?_)
  refine CH rfl rfl ?_;exact wC
 ·rw[CB (show((4:Int))<=6 by decide)]
  repeat'(first|refine gP ?_|(conv=>whnf);refine CK (e) (.inl rfl) ?_)
  refine CH rfl rfl ?_;exact wC
 ·rw[CB (show((5:Int))<=6 by decide)]
  repeat'(first|refine gP ?_|(conv=>whnf);refine CK (e) (.inl rfl) ?_)
  refine CH rfl rfl ?_;exact wC
 ·rw[CB (show((6:Int))<=6 by decide)]
  repeat'(first|refine gP ?_|(conv=>whnf);refine CK (e) (.inl rfl) ?_)
  refine CH rfl rfl ?_;exact wC
 ·rw[C9 (show ¬((7:Int)<=6) by decide),CB (show((7:Int))<=9 by decide)]
  repeat'(first|refine gP ?_|fail)
  refine CH rfl rfl ?_;exact wC
 ·rw[C9 (show ¬((8:Int)<=6) by decide),CB (show((8:Int))<=9 by decide)]
  repeat'(first|refine gP ?_|fail)
  refine CH rfl rfl ?_;exact wC
 ·rw[C9 (show ¬((9:Int)<=6) by decide),CB (show((9:Int))<=9 by decide)]
  repeat'(first|refine gP ?_|fail)
  refine CH rfl rfl ?_;exact wC
 ·rw[C9 (show ¬((10:Int)<=6) by decide),C9 (show ¬((10:Int)<=9) by decide),CB (show((10:Int))<=12 by decide)]
  repeat'(first|refine gP ?_|(conv=>whnf);first|refine CK (g) (.inl rfl) ?_|refine CK (h) (.inl rfl) ?_)
  refine CH rfl rfl ?_;exact wC
 ·rw[C9 (show ¬((11:Int)<=6) by decide),C9 (show ¬((11:Int)<=9) by decide),CB (show((11:Int))<=12 by decide)]
  repeat'(first|refine gP ?_|(conv=>whnf);first|refine CK (g) (.inl rfl) ?_|refine CK (h) (.inl rfl) ?_)
  refine CH rfl rfl ?_;exact wC
 ·rw[C9 (show ¬((12:Int)<=6) by decide),C9 (show ¬((12:Int)<=9) by decide),CB (show((12:Int))<=12 by decide)]
  repeat'(first|refine gP ?_|(conv=>whnf);first|refine CK (g) (.inl rfl) ?_|refine CK (h) (.inl rfl) ?_)
  refine CH rfl rfl ?_;exact wC
 ·rw[C9 (show ¬((13:Int)<=6) by decide),C9 (show ¬((13:Int)<=9) by decide),C9 (show ¬((13:Int)<=12) by decide),CB (show((13:Int))=13 by decide)]
  repeat'(first|refine gP ?_|(conv=>whnf);refine CK (G) (.inl rfl) ?_)
  refine CH rfl rfl ?_;exact wC
 ·rw[C9 (show ¬((14:Int)<=6) by decide),C9 (show ¬((14:Int)<=9) by decide),C9 (show ¬((14:Int)<=12) by decide),C9 (show ¬((14:Int)=13) by decide),CB (show((14:Int))=14 by decide)]
  repeat'(first|refine gP ?_|(conv=>whnf);refine CK (E) (.inl rfl) ?_)
  refine CH rfl rfl ?_;exact wC
 ·rw[C9 (show ¬((15:Int)<=6) by decide),C9 (show ¬((15:Int)<=9) by decide),C9 (show ¬((15:Int)<=12) by decide),C9 (show ¬((15:Int)=13) by decide),C9 (show ¬((15:Int)=14) by decide),CB (show((15:Int))=15 by decide)]
  repeat'(first|refine gP ?_|fail)
  refine CH rfl rfl ?_;exact wC
 ·rw[C9 (show ¬((16:Int)<=6) by decide),C9 (show ¬((16:Int)<=9) by decide),C9 (show ¬((16:Int)<=12) by decide),C9 (show ¬((16:Int)=13) by decide),C9 (show ¬((16:Int)=14) by decide),C9 (show ¬((16:Int)=15) by decide),CB (show((16:Int))=16 by decide)]
  repeat'(first|refine gP ?_|(conv=>whnf);refine CK (F) (.inl rfl) ?_)
  refine CH rfl rfl ?_;exact wC
 ·rw[C9 (show ¬((17:Int)<=6) by decide),C9 (show ¬((17:Int)<=9) by decide),C9 (show ¬((17:Int)<=12) by decide),C9 (show ¬((17:Int)=13) by decide),C9 (show ¬((17:Int)=14) by decide),C9 (show ¬((17:Int)=15) by decide),C9 (show ¬((17:Int)=16) by decide),CB (show((17:Int))=17 by decide)]
  repeat'(first|refine gP ?_|fail)
  refine CH rfl rfl ?_;exact wC
 ·rw[C9 (show ¬((18:Int)<=6) by decide),C9 (show ¬((18:Int)<=9) by decide),C9 (show ¬((18:Int)<=12) by decide),C9 (show ¬((18:Int)=13) by decide),C9 (show ¬((18:Int)=14) by decide),C9 (show ¬((18:Int)=15) by decide),C9 (show ¬((18:Int)=16) by decide),C9 (show ¬((18:Int)=17) by decide)]
  repeat'(first|refine gP ?_|(conv=>whnf);refine CK (l) (.inl rfl) ?_)
  refine CH rfl rfl ?_;exact wC
 rw[C9 (show ¬((19:Int)<=6) by decide),C9 (show ¬((19:Int)<=9) by decide),C9 (show ¬((19:Int)<=12) by decide),C9 (show ¬((19:Int)=13) by decide),C9 (show ¬((19:Int)=14) by decide),C9 (show ¬((19:Int)=15) by decide),C9 (show ¬((19:Int)=16) by decide),C9 (show ¬((19:Int)=17) by decide)]
 repeat'(first|refine gP ?_|(conv=>whnf);refine CK (l) (.inl rfl) ?_)
 refine CH rfl rfl ?_;exact wC
def Db(zs:List Int)(c:iV)(b:jK zs)(d:c.i<=zs.length):aT Tryz.prog 194 false [.ptr (iI zs c),.val none [I 40]] [.ptr (iI zs (l7 zs c).2),.val none [I 40]] .one (pv .own (l7 zs c).1):=by
 have e:=bT zs c 41 b d (by decide);have g:=bG zs c (n:=41) (by decide);obtain⟨n,h⟩:=Z2 g.1;have a:(bv zs c 41).1.toNat=n:=by rw[h];rfl
 unfold l7;rw[a];rw[h]at e g;refine fM 27 [(58,[2,0]),(346,[2,0])] [] [(0,0),(0,0)] Tryz.func194 rfl (λu q=>?_) (.inr (KR _))
 repeat'(first|refine gP ?_|(conv=>whnf);refine CK (e) (.inl rfl) ?_)
 (conv=>whnf)
 refine CF (ι:=Nat) (λi=>[(0,.H .box (iI zs (lK zs c i).2)),(5,.H .one (pv .own (lK zs c i).1)),(6,.H .one [I ((n:Nat):Int)]),(7,.H .one [I ((i:Nat):Int)])]) (λi=>i<=n) (λi=>n - i) (0) ?_ (W0 _) λi p=>?_
 ·exact wC
 obtain⟨t,-,j⟩:=pH (zs:=zs) (c:=c) d (n:=i) ω;by_cases w:i<n
 ·have k:=FS zs (lK zs c i).2 (1+(i:Int) / 2) b j ω
  have l:((i:Nat):Int).tdiv 2=(i:Int) / 2:=Int.tdiv_eq_ediv_of_nonneg ω
  repeat'(first|refine gE ?_|(conv=>whnf);first|with_reducible refine CO ω ?_|refine CK (k) (.inl rfl) ?_|refine CU (aP λ_=>rfl) (λr o=>by rw[O1.1 o];rfl) (by simp[aZ,eD,eL.enc]) (by simp;omega) (by simp only[C1];exact zh (by simp;omega) (by decide)) rfl ?_)
  ((conv=>whnf);refine CE (i+1) ω ω ?_)
  repeat'(first|exact trivial|rfl |exact CL rfl (CL (X0 (C.s dY.own) (by simp[lK];rfl)) trivial)|refine CL ?_ ?_)
 obtain rfl:i=n:=ω
 repeat'(first|refine gE ?_|fail)
 refine CH rfl rfl ?_;exact wC
def rfs(h:ab):List Int:=h.G.w
def DV(k:af)(p:Int):(newK k p).1.w=k.w:=by unfold newK;split<;>rfl
def sE(k:af)(p:Int):∀n,(newsK k p n).1.w=k.w
 | 0=>rfl
 | n+1=>by
  unfold newsK;split
  ·exact(DV _ _).trans (sE k p n)
  exact sE k p n
def MQ(h:ab)(i:Nat):rfs (oD h i).1=rfs h:=by unfold oD;split<;>rfl
def AY(h:ab)(t c:Nat):rfs (smallA h t c).1=rfs h:=by
 unfold smallA;split
 ·rfl
 split
 ·rfl
 split
 ·rfl
 split
 ·exact DV _ _
 exact(MQ _ _).trans (DV _ _)
def KQ(h:ab)(t n:Int):rfs (allocH h t n).1=rfs h:=by
 unfold allocH;split
 ·rfl
 split
 ·rfl
 split
 ·rfl
 split
 ·rfl
 split
 ·split
  ·exact AY _ _ _
  exact AY _ _ _
 unfold largeA;split
 ·rfl
 split
 ·exact sE _ _ _
 exact((lh _ _ _).2).trans (sE _ _ _)
def NN(h:ab)(t i:Nat):rfs (freeT h t i).1=rfs h:=by
 unfold freeT;split
 ·exact(lh _ _ _).2
 split
 ·rfl
 split
 ·exact(f8 t _ _).2.2.2.2.2.2.2
 split<;>rfl
def Av(t:Nat)(h:ab):∀k,rfs (flushN t h k).1=rfs h
 | 0=>rfl
 | k+1=>((gd _ (spilt (flushN t h k).1 t k)).2.2.2.2.2.2.2).trans (Av t h k)
def GK{h:ab}(a:aY h [])(b:JI h):∀n,rfs (stN h n).1=rfs h
 | 0=>rfl
 | n+1=>by
  obtain⟨c,d⟩:=uo a b n;unfold stN;split
  ·rename_i e
   unfold tn at e;rw[I0]at e;exact((og c e.1).2.2.1).trans (GK a b n)
  exact GK a b n
def P1{w:bp}{m:Nat}(h:rX w m)(a:eL):rfs (mn w a).1.Z=rfs w.Z:=by
 unfold mn;split
 ·exact KQ _ _ _
 split
 ·split
  ·rfl
  unfold m9;split
  ·unfold qj
   split
   ·rfl
   split
   ·exact NN _ _ _
   rfl
  split
  ·unfold ng
   split
   ·rfl
   split
   ·rfl
   split<;>rfl
  unfold pY;split
  ·exact((lh _ _ _).2).trans (ov _ _ _).2.2
  rfl
 split
 ·unfold fS
  split
  ·split<;>rfl
  split
  ·rfl
  split
  ·exact(f8 _ _ _).2.2.2.2.2.2.2
  exact Av _ _ _
 split
 ·unfold nA
  split
  ·exact(gd _ _).2.2.2.2.2.2.2
  rfl
 split
 ·unfold nZ
  split
  ·rfl
  show rfs (started w.Z).1=_;unfold rfs;rw[(pm h.inv).2.1]
 split
 ·exact GK h.inv h.ji _
 rfl
def GU{c:cH}(h:Fa c)(acts:List eL):∀n,rfs (zj c acts n).1.Z=c.w
 | 0=>rfl
 | n+1=>(P1 (u6 h acts n) _).trans (GU h acts n)
def rF(w:bp):List C:=bB w.Z++a7.enc .X w.b5
def QJ(w:bp):eG (rF w)=bp.enc .X w:=by
 unfold rF;rw[fF,bF,<-Cc,qf,Cc]
 rfl
def FB(w:bp)(id:Int)(g:w.Z.O.length<=1048576):aT Tryz.prog 452 false [.ptr (rF w),.val none [I id]] [.ptr (rF w),.val none [I id]] .one [I (qR w.Z id)]:=by
 refine fM 28 [] [] [(0,0),(0,0)] Tryz.func452 rfl (λu q=>?_)
 repeat'(first|(conv=>whnf);refine CC ?_)
 (conv=>whnf)
 refine CF (ι:=Nat) (λi=>[(0,.H .box (rF w)),(1,.H .one [I (id)]),(5,.H .one [I ((i:Nat):Int)])]) (λi=>i<=w.Z.O.length/\∀(j:Nat)(z:bt),j<i->w.Z.O[j]? = some z->Ns id z=false) (λi=>w.Z.O.length - i) (0) ?_ (⟨W0 _,λj z h=>ω⟩) λi c=>?_
 ·exact wC
 obtain⟨c,b⟩:=c;by_cases d:i<w.Z.O.length
 ·have a:=ao d
  by_cases e:(nth w.Z.O i).Id=id
  ·repeat'(first|refine gB ?_|(conv=>whnf);first|with_reducible refine CD (aa a) ?_|refine CC ?_|refine CJ rfl (aa a) rfl ?_)
   refine CH rfl (X0 (λz=>[I z]) (dI a (O0 e) b).symm) ?_;exact wC
  repeat'(first|refine gB ?_|(conv=>whnf);first|with_reducible refine CD (aa a) ?_|refine CC ?_|refine CJ rfl (aa a) rfl ?_)
  ((conv=>whnf);refine CE (i+1) ⟨ω,dz a (U0 e) b⟩ ω ?_;(exact wC))
 repeat'(first|refine gE ?_|(conv=>whnf);refine CC ?_)
 refine CH rfl (X0 (λz=>[I z]) (gv ω b).symm) ?_;exact wC
def dd(y:ab):(bB y).length=24:=rfl
def zA(w:bp)(m n:Nat)(h:rX w m)(B:n<=50):aT Tryz.prog 457 false [.ptr (rF w),.val none [I (n:Nat)]] [.ptr (rF ⟨(stN w.Z n).1,w.b5⟩),.val none [I (n:Nat)]] .one [I ((stN w.Z n).2:Nat)]:=by
 refine fM 35 [(536,[2])] [] [(0,0),(0,0)] Tryz.func457 rfl (λu q=>?_)
 repeat'(first|(conv=>whnf);refine CC ?_)
 (conv=>whnf)
 refine CF (ι:=Nat) (λi=>[(0,.H .box (rF ⟨(stN w.Z i).1,w.b5⟩)),(1,.H .one [I ((n:Nat):Int)]),(5,.H .one [I (((stN w.Z i).2:Nat):Int)]),(6,.H .one [I ((i:Nat):Int)])]) (λi=>i<=n/\(stN w.Z i).2=i) (λi=>n - i) (0) ?_ (⟨W0 _,rfl⟩) λi l=>?_
 ·exact wC
 obtain⟨l,C⟩:=l;obtain⟨o,D⟩:=uo h.inv h.ji i;have b:stN w.Z (i+1)=if tn (stN w.Z i).1=true then(mStep (stN w.Z i).1,(stN w.Z i).2+1) else stN w.Z i:=rfl
 have p:=(a8.1 o.ker).2.2.2.2;by_cases E:i<n
 ·cases c:(stN w.Z i).1.o with
  | true=>
   have y:=(BU _ o c).frame (r:=a7.enc .X w.b5) ((dd _).trans (dd _).symm);by_cases g:(stN w.Z i).1.G.Calls<=99000
   ·have d:tn (stN w.Z i).1=true:=by unfold tn;rw[c,O0 g];rfl
    rw[CB d]at b;generalize stN w.Z i=s at *
    repeat'(first|refine gE ?_|(conv=>whnf);first|refine Bf.t c ?_|refine CK (y) (.inl rfl) ?_)
    ((conv=>whnf);refine CE (i+1) ⟨ω,by rw[b];simp only;omega⟩ ω ?_)
    rw[b];exact wC
   have d:tn (stN w.Z i).1=false:=by unfold tn;rw[c,U0 g];rfl
   have a:∀k,stN w.Z (i+k)=stN w.Z i:=λk=>by
    induction k with
    | zero=>rfl
    | succ k j=>show(if tn (stN w.Z (i+k)).1=true then _ else stN w.Z (i+k))=_;rw[j,d,C9 (by simp)]
   have e:=a (n - i);rw[show i+(n - i)=n by omega]at e;rw[e];generalize stN w.Z i=s at *
   repeat'(first|refine gE ?_|(conv=>whnf);refine Bf.t c ?_)
   refine CH rfl rfl ?_;exact wC
  | false=>
   have d:tn (stN w.Z i).1=false:=by unfold tn;rw[c];rfl
   have a:∀k,stN w.Z (i+k)=stN w.Z i:=λk=>by
    induction k with
    | zero=>rfl
    | succ k j=>show(if tn (stN w.Z (i+k)).1=true then _ else stN w.Z (i+k))=_;rw[j,d,C9 (by simp)]
   have e:=a (n - i);rw[show i+(n - i)=n by omega]at e;rw[e];generalize stN w.Z i=s at *
   repeat'(first|refine gE ?_|(conv=>whnf);refine Bf.f c ?_)
   refine CH rfl rfl ?_;exact wC
 obtain rfl:i=n:=ω
 repeat'(first|refine gE ?_|(conv=>whnf);refine CC ?_)
 refine CH rfl rfl ?_;exact wC
def HM{k:af}(a:ay k=true):(ay k&&decide (k.Calls<100000))=decide (k.Calls≠100000):=by
 have:=(a8.1 a).2.2.2.2;rw[a,Bool.true_and,Y4,C0,C0];omega
def xT(w:bp)(a:eL)(m:Nat)(h:rX w m)(B:a.b6=5\/a.b6=6\/a.b6=7):aT Tryz.prog 454 false [.ptr (rF w),.val (some 5) (eL.enc .X a)] [.ptr (rF ⟨(fS w.Z a).1,w.b5⟩),.val (some 5) (eL.enc .X a)] .one [I (fS w.Z a).2]:=by
 have d:=h.inv;have o:=d.nc;have p:w.Z.T.length<=4:=by have:=(dR.1 d.mail).1.2.1;omega
 have C:=ku.of d.mail;have i:=mg w.Z.G (bk d.ker);rw[HM d.ker]at i;have j:=aH a.a5 0 (w.Z.T.length - 1:Int);unfold fS;refine fM 59 [(534,[2,0]),(433,[2,0])] [(3,267,[15,16,17,18,19,20,21,14,22,23,6,0,1,2,3,4,5,6,7,8,9,10,11,1009,12]),(8,15,[30,31,32,33,34,35,36,37,38,39,40,41,42,43,44])] [(0,0),(0,0)] Tryz.func454 rfl (λu q=>?_);by_cases l:a.b6=5
 ·rw[CB l]
  by_cases e:0<=a.a5/\a.a5<=w.Z.T.length - 1
  ·have y:om w.Z a:=e
   obtain⟨t,g⟩:=Z2 e.1;have b:=FE w.Z.y t d.mail ω;rw[<-g]at b;rw[g]at e |-;simp only[X2];rw[g]at b;by_cases c:0<(nth w.Z.y.U t).length
   ·rw[CB (show om w.Z a/\0<(nth w.Z.y.U t).length from⟨y,c⟩)]
    rw[CB c,O0 c]at b;rw[<-g]at b
    repeat'(first|refine gB ?_|(conv=>whnf);refine CG (b) ⟨⟨rfl,aK.enc_fz w.Z.y⟩,⟨rfl,rfl⟩,trivial⟩ ?_)
    refine CH rfl rfl ?_;exact wC
   rw[C9 (show ¬(om w.Z a/\0<(nth w.Z.y.U t).length) from λx=>c x.2)];rw[C9 c,U0 c]at b;rw[<-g]at b
   repeat'(first|refine gB ?_|(conv=>whnf);refine CG (b) ⟨⟨rfl,aK.enc_fz w.Z.y⟩,⟨rfl,rfl⟩,trivial⟩ ?_)
   refine CH rfl rfl ?_;exact wC
  rw[C9 (show ¬(om w.Z a/\0<(nth w.Z.y.U a.a5.toNat).length) from λx=>e x.1)];have b:=HF w.Z.y a.a5 d.mail ω
  repeat'(first|refine gB ?_|(conv=>whnf);refine CG (b) ⟨⟨rfl,aK.enc_fz w.Z.y⟩,⟨rfl,rfl⟩,trivial⟩ ?_)
  refine CH rfl rfl ?_;exact wC
 rw[C9 l];by_cases e:w.Z.G.Calls≠100000;rotate_left
 ·rw[CB (show ¬(w.Z.G.Calls≠100000/\om w.Z a) from λx=>e x.1)]
  rw[U0 e]at i
  repeat'(first|refine gB ?_|(conv=>whnf);refine CG (i) ⟨⟨rfl,CT _⟩,trivial⟩ ?_)
  refine CH rfl rfl ?_;exact wC
 rw[O0 e]at i;by_cases c:0<=a.a5/\a.a5<=w.Z.T.length - 1;rotate_left
 ·rw[CB (show ¬(w.Z.G.Calls≠100000/\om w.Z a) from λx=>c x.2)]
  rw[U0 c]at j
  repeat'(first|refine gB ?_|(conv=>whnf);refine CG (i) ⟨⟨rfl,CT _⟩,trivial⟩ ?_)
  refine CH rfl rfl ?_;exact wC
 rw[C9 (show ¬¬(w.Z.G.Calls≠100000/\om w.Z a) from z4 ⟨e,c⟩)];rw[O0 c]at j;obtain⟨t,g⟩:=Z2 c.1;by_cases n:a.b6=6
 ·rw[CB n]
  have b:=(ww w.Z t d ω).frame (r:=a7.enc .X w.b5) ((dd _).trans (dd _).symm);rw[show a.a5.toNat=t by omega];rw[<-g]at b
  repeat'(first|refine gB ?_|(conv=>whnf);first|refine CG (i) ⟨⟨rfl,CT _⟩,trivial⟩ ?_|refine CK (b) (.inl rfl) ?_)
  refine CH rfl rfl ?_;exact wC
 rw[C9 n];have b:=(Ae w.Z t d ω).frame (r:=a7.enc .X w.b5) ((dd _).trans (dd _).symm);rw[show a.a5.toNat=t by omega];rw[<-g]at b
 repeat'(first|refine gB ?_|(conv=>whnf);first|refine CG (i) ⟨⟨rfl,CT _⟩,trivial⟩ ?_|refine CK (b) (.inl rfl) ?_)
 refine CH rfl rfl ?_;exact wC
end Go.Proofs.YtecefhjnejfheaaGreat.Ab
