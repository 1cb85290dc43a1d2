/- Whether a page holds nothing that nobody owns: contracts, the reference's and the program's. No condition. -/
import Derived.Test.YtecefhjnejfheaaGreatKod
import Derived.Test.YtecefhjnejfheaaGreatKog
import Derived.Test.YtecefhjnejfheaaGreatKoe
import Derived.Test.YtecefhjnejfheaaGreatKof
set_option linter.unusedVariables false
set_option linter.defProp false
set_option linter.unusedSimpArgs false
set_option linter.constructorNameAsVariable false
namespace Go.Proofs.YtecefhjnejfheaaGreat.Ab
open Go.RowKit
set_option maxRecDepth 20000
set_option maxHeartbeats 4000000
def or64{z1 z2:Int}(h1:0<=z1/\z1<=65535)(a:0<=z2/\z2<=65535):IntKind.i64.wrap ((BitVec.ofInt IntKind.i64.bits z1 ||| BitVec.ofInt IntKind.i64.bits z2).toNat:Nat)=bor z1 z2:=by
 rw[BitVec.toNat_or,oe ω,oe ω];have b:=Qj h1 a;unfold bor at b |-;exact eZ ω ω
def zD(h:ab)(i:Nat)(n:dK h.K)(d:vT h)(a:∀s∈h.K,bi s=true)(y:i<h.K.length):zzA 482 false [.val (some 24) (ab.enc .U h),.val none [I (i:Nat)]] .one [I (iC h i)]:=by
 have F:=n.1;have G:=ao y;have g:=wJ a y;have B:=aI ((i:Nat):Int) 0 ((h.K.length:Int) - 1);rw[O0 (show(0:Int)<=(i:Nat)/\((i:Nat):Int)<=(h.K.length:Int) - 1 by omega)]at B;have C:=iF h (nth h.K i).Q d;have o:=gt h (nth h.K i).Q;have H:dQ h<=1048576:=d.1;have c:iC h i=kS h.K (aP h (nth h.K i).Q) (nth h.K i).b1 (aP h (nth h.K i).Q).length:=rfl;obtain⟨ps,q⟩ : ∃ps,aP h (nth h.K i).Q=ps:=⟨_,rfl⟩
 obtain⟨b,r⟩ : ∃b,(nth h.K i).b1=b:=⟨_,rfl⟩
 rw[q]at C o c;rw[r]at c g;rw[c];have J:kS h.K ps b 0=b:=rfl;refine fO 63 [(4,7,[22,23,24,25,26,27,28]),(11,10,[43,44,45,46,47,48,49,50,51,52])] Tryz.func482 rfl ?_
 repeat'(first|refine gP ?_|(conv=>whnf);first|with_reducible refine CF (aa G) ?_|refine C9 (B) ?_|refine C9 (C) ?_)
 (conv=>whnf)
 refine CH (ι:=Nat) (λu=>[(2,.H .box (ab.enc .U h)),(5,.H .one [I (kS h.K ps b u)]),(6,.H .one (aD .own ps)),(7,.H .one [I ((u:Nat):Int)])]) (λu=>u<=ps.length) (λu=>ps.length - u) (0) ?_ (X0 _) λu M=>?_
 ·exact wB
 by_cases K:u<ps.length
 ·have l:=ao K
  have t:=sI a (ps:=ps) g u
  repeat'(first|refine gE ?_|fail)
  (conv=>whnf)
  refine CH (ι:=Nat) (λj=>[(2,.H .box (ab.enc .U h)),(5,.H .one [I (sT h.K (nth ps u) (kS h.K ps b u) j)]),(6,.H .one (aD .own ps)),(7,.H .one [I ((u:Nat):Int)]),(8,.H .one [I ((j:Nat):Int)])]) (λj=>j<=h.K.length) (λj=>h.K.length - j) (0) ?_ (X0 _) λj L=>?_
  ·exact wB
  by_cases D:j<h.K.length
  ·have E:=ao D
   have w:=w8 a (p:=nth ps u) t j L;by_cases e:(nth h.K j).Q=nth ps u
   ·have k:sT h.K (nth ps u) (kS h.K ps b u) (j+1)=bor (sT h.K (nth ps u) (kS h.K ps b u) j) (nth h.K j).b1:=CD e
    repeat'(first|refine gB ?_|(conv=>whnf);first|with_reducible refine CF (aa E) ?_|refine CO (or64 w (wJ a D)) ?_)
    ((conv=>whnf);refine CG (j+1) ω ω ?_;(exact wB))
   have k:sT h.K (nth ps u) (kS h.K ps b u) (j+1)=sT h.K (nth ps u) (kS h.K ps b u) j:=CB e
   repeat'(first|refine gB ?_|(conv=>whnf);with_reducible refine CF (aa E) ?_)
   ((conv=>whnf);refine CG (j+1) ω ω ?_;(exact wB))
  obtain rfl:j=h.K.length:=ω
  repeat'(first|refine gE ?_|fail)
  ((conv=>whnf);refine CG (u+1) ω ω ?_;(exact wB))
 obtain rfl:u=ps.length:=ω
 repeat'(first|refine gE ?_|fail)
 rfl
def um{xs:List bn}(h:∀o∈xs,0<=o.o/\o.o<=1000):∀k:Nat,k<=xs.length->0<=uE xs k/\uE xs k<=1000*k
 | 0,_=>⟨W5 _,W5 _⟩
 | k+1,a=>by
  have b:=um h k ω;have c:=h _ (am (xs:=xs) (i:=k) ω);simp only[uE];omega
def zf(h:ab)(a:∀o∈h.O,0<=o.o/\o.o<=1000)(e:h.O.length<=1048576):zzA 20 false [.val (some 24) (ab.enc .U h)] .one [I (uM h)]:=by
 refine fO 21 [] Tryz.func20 rfl ?_
 repeat'(first|refine gP ?_|fail)
 (conv=>whnf)
 refine CH (ι:=Nat) (λk=>[(1,.H .box (ab.enc .U h)),(3,.H .one [I (uE h.O k)]),(4,.H .one [I ((k:Nat):Int)])]) (λk=>k<=h.O.length) (λk=>h.O.length - k) (0) ?_ (X0 _) λk c=>?_
 ·exact wB
 have g:=um a k c;by_cases b:k<h.O.length
 ·have d:=ao b
  have i:=a _ (am b)
  repeat'(first|refine gE ?_|fail)
  ((conv=>whnf);refine CG (k+1) ω ω ?_;(exact wB))
 obtain rfl:k=h.O.length:=ω
 repeat'(first|refine gE ?_|fail)
 rfl
def xT(k b:Int)(h:b<=9223372036854775807):zzA 481 false [.val none [I (slots k)],.val none [I b]] .one (aD .own (rj k b)):=by
 have c:=re k b;have p:0<=slots k/\slots k<=16:=by unfold slots;repeat' split<;>omega
 unfold rj;cases e:Nc k b<;>rw[e]at c
 ·rw[CB (by simp)]
  refine fO 27 [] Tryz.func481 rfl ?_ (.inr (bG _))
  repeat'(first|refine gP ?_|fail)
  (conv=>whnf)
  refine CH (ι:=Nat) (λj=>[(0,.H .one [I (slots k)]),(1,.H .one [I (b)]),(5,.H .one (aD .own [])),(6,.H .one [I ((j:Nat):Int)])]) (λj=>j=0) (λj=>1 - j) (0) ?_ (rfl) λj g=>?_
  ·exact wB
  subst g
  repeat'(first|refine gE ?_|(conv=>whnf);first|with_reducible refine Bf.D (λi=>?_) (λi=>?_)|refine C9 (c) ?_)
  all_goals rfl
 rw[CD rfl];refine fO 27 [] Tryz.func481 rfl ?_ (.inr (bG _))
 repeat'(first|refine gP ?_|fail)
 (conv=>whnf)
 refine CH (ι:=Nat) (λj=>[(0,.H .one [I (slots k)]),(1,.H .one [I (b)]),(5,.H .one (aD .own (pI b j))),(6,.H .one [I ((j:Nat):Int)])]) (λj=>j<=(slots k).toNat) (λj=>(slots k).toNat - j) (0) ?_ (X0 _) λj g=>?_
 ·exact wB
 have l:=uH b j;by_cases q:j<(slots k).toNat
 ·have d:=hB b (j:Nat) h
  have a:pI b (j+1)=if aS b (j:Nat)=true then pI b j else pI b j++[((j:Nat):Int)]:=rfl
  cases n:aS b (j:Nat)<;>rw[n]at d a
  ·rw[CB (by simp)]at a
   repeat'(first|refine gE ?_|(conv=>whnf);first|refine C9 (c) ?_|refine C9 (d) ?_|refine CU cw (λr o=>by rw[V1.1 o];rfl) (by simp[aZ,dS]) (by simp;omega) (by simp only[I1];exact wZ (by simp;omega) (by decide)) rfl ?_)
   ((conv=>whnf);refine CG (j+1) ω ω ?_)
   rw[a]
   repeat'(first|exact trivial|rfl|exact CN rfl (CN (Z0 (C.s dN.own) (by simp[rI])) trivial)|refine CN ?_ ?_|(exact DS (by first|omega|(simp only;omega)|(simp;omega))))
  rw[CD rfl]at a
  repeat'(first|refine gE ?_|(conv=>whnf);first|refine C9 (c) ?_|refine C9 (d) ?_)
  ((conv=>whnf);refine CG (j+1) ω ω ?_)
  rw[a];exact wB
 obtain rfl:j=(slots k).toNat:=ω
 repeat'(first|refine gE ?_|fail)
 rfl
def M4(b i:Int):bor b (2 ^ i.toNat)=iv b i:=by
 unfold bor iv;have:((2 ^ i.toNat:Nat):Int)=(2:Int) ^ i.toNat:=Int.natCast_pow 2 i.toNat;rw[<-this,I3]
def zT(b i:Int)(d:0<=b/\b<=65535)(a:0<=i/\i<=15):zzA 484 false [.val none [I b],.val none [I i]] .one [I (iv b i)]:=by
 have c:=qx b i;rw[O0 ω]at c;have e:IntKind.u64.wrap i=i:=by unfold IntKind.wrap;simp[IntKind.signed,IntKind.bits];omega
 have h:=(shl64 a).2;have g:=(or64 (z1:=b) (z2:=2 ^ i.toNat) d ω).trans (M4 b i);refine fO 15 [] Tryz.func484 rfl ?_
 repeat'(first|refine gP ?_|(conv=>whnf);first|refine C9 (c) ?_|refine CQ ω ?_|refine CO e ?_|refine CO (shl64 a).1 ?_|refine CO g ?_)
 rfl
def MX{s:ax}(b:bi s=true){k:Int}(d:0<=k/\k<slots s.a):0<=k*csz s.a/\k*csz s.a<=15:=by
 have a:=aC b;have c:=gZ a.2.2;rcases b9 a.2.2 with e|e|e|e<;>rw[e]at c |-<;>omega
def zW(s:ax)(k:Int)(a:bi s=true)(d:0<=k/\k<slots s.a):zzA 485 false [.val (some 3) (ax.enc .U s),.val none [I k]] .one [I (16*s.Q+k*csz s.a)]:=by
 have e:=aC a;have i:=MX a d;have j:=gZ e.2.2;have b:=fW s;rw[a]at b;have g:=nB s.a;have c:=aI k 0 (slots s.a - 1);rw[O0 ω]at c;have h:=dx s.a;refine fO 26 [(3,8,[17,18,19,20,21,22,23,24])] Tryz.func485 rfl ?_
 repeat'(first|refine gP ?_|(conv=>whnf);first|refine C9 (b) ?_|refine C9 (g) ?_|refine C9 (c) ?_|refine C9 (h) ?_)
 exact Z0 (λz=>[I z]) ω
def BJ(f:aU)(g:f.a6.length<=1048576):zzA 486 false [.val (some 2) (aU.enc .U f)] .one [I (cu (λu=>!u) f.a6)]:=by
 refine fO 18 [] Tryz.func486 rfl ?_
 repeat'(first|refine gP ?_|fail)
 (conv=>whnf)
 refine CH (ι:=Nat) (λi=>[(1,.H .box (aU.enc .U f)),(3,.H .one [I ((i:Nat):Int)])]) (λi=>i<=f.a6.length/\∀(j:Nat)(z:Bool),j<i->f.a6[j]? = some z->(!z)=false) (λi=>f.a6.length - i) (0) ?_ (⟨X0 _,λj z h=>ω⟩) λi c=>?_
 ·exact wB
 obtain⟨c,b⟩:=c;by_cases d:i<f.a6.length
 ·have a:=ao d
  cases e:nth f.a6 i<;>rw[e]at a
  ·repeat'(first|refine gE ?_|fail)
   exact Z0 (λz=>[I z]) (dB a rfl b).symm
  repeat'(first|refine gE ?_|fail)
  ((conv=>whnf);refine CG (i+1) ⟨ω,dt a rfl b⟩ ω ?_;(exact wB))
 repeat'(first|refine gE ?_|fail)
 exact Z0 (λz=>[I z]) (fy ω b).symm
def og(m:aL):∀(n i:Nat),i<n->((nth m.V i).length:Int)+(nth m.y i).length<=bx m n/\0<=bx m n
 | 0,i,h=>absurd h (Nat.not_lt_zero i)
 | n+1,i,h=>by
  have a:0<=bx m n:=by
   cases n with
   | zero=>exact W5 _
   | succ k=>exact(og m (k+1) 0 ω).2
  simp only[bx];by_cases e:i=n
  ·subst e;omega
  have:=(og m n i ω).1;omega
structure mw(m:aL):Prop where
 b4:1<=m.V.length/\m.V.length<=4
 i4:m.y.length=m.V.length
 bl:∀i,i<m.V.length->(nth m.V i).length<=30
 il:∀i,i<m.V.length->(nth m.y i).length<=30
variable{m:aL}
def mw.of(h:bP m=true):mw m:=by
 obtain⟨⟨b,c,d⟩,-,e⟩:=dP.1 h;exact⟨⟨b,c⟩,d,λi a=>by have:=(og m m.V.length i a).1;omega,λi a=>by have:=(og m m.V.length i a).1;omega⟩
def mw.sml(h:mw m):aL.sml m:=by
 have c:=h.b4;have d:=h.i4;refine⟨⟨ω,λl a=>?_⟩,⟨ω,λl a=>?_⟩⟩
 ·obtain⟨i,b,rfl⟩:=aK a
  have:=h.bl i b;exact⟨ω,λ_ _=>trivial⟩
 obtain⟨i,b,rfl⟩:=aK a;have:=h.il i ω;show(nth m.y i).length<=1048576;omega
def sJ(m:aL)(k:Int)(a:aL.sml m):zzA 569 false [.val (some 2) (aL.enc .U m),.val none [I k]] .one [B (bP m&&decide (0<=k/\k<=m.V.length - 1))]:=by
 have b:=mn m a;have c:m.V.length<=1048576:=a.1.1;cases e:bP m<;>rw[e]at b
 all_goals
  refine fO 15 [] Tryz.func569 rfl ?_
  repeat'(first|refine gP ?_|(conv=>whnf);first|refine C9 (b) ?_|refine C9 (aI k 0 (m.V.length - 1:Int)) ?_)
  all_goals rfl
def U0{f:Nat}(a:f<m.V.length):m.V[f]? = some (nth m.V f):=ao a
def Mm(m:aL)(f:Nat)(p:dw):aL.enc .own (iB m f p)=[.s .own ((m.V.map (cF .own)).set f (cF .own (nth m.V f++[p]))),.s .own (m.y.map (aD .own))]:=by simp[aL.enc,iB,C7]
def LD(h:mw m){f:Nat}(c:f<m.V.length)(p:dw):aL.sml (iB m f p):=by
 have d:=h.b4;have b:=h.sml;refine⟨⟨by simp only[iB,W1];omega,λl a=>?_⟩,b.2⟩;rcases S7 a with a|rfl
 ·exact b.1.2 l a
 have:=h.bl f c;exact⟨by simp;omega,λ_ _=>trivial⟩
def Mv(m:aL)(f:Nat)(p:dw)(j:bP m=true)(g:f<m.V.length):zzA 561 false [.val (some 2) (aL.enc .U m),.val none [I (f:Nat)],.val (some 2) (dw.enc .U p)] (.tup [some 2,none]) (aL.enc .own (if bP (iB m f p)=true then iB m f p else m)++[B (bP (iB m f p))]):=by
 have c:=mw.of j;have k:=c.sml;have q:=c.b4;have h:=sJ m f k;rw[j,O0 ω]at h;have l:=ge m k;have b:=LD c g p;have i:=mn (iB m f p) b;have n:=ge (iB m f p) b;have a:=U0 g;have o:=c.bl f g;have d:=aL.enc_fz (iB m f p);rw[Mm]at d;cases e:bP (iB m f p)<;>rw[e]at i
 ·rw[CB (by simp)]
  refine fO 35 [(4,267,[16,17,18,19,20,21,22,23,24,25,27,0,1,2,3,4,5,6,7,8,9,10,1000,1001,1002,11,12])] Tryz.func561 rfl ?_ (.inr (bg (aL.enc_fr _) ⟨trivial,trivial⟩))
  repeat'(first|refine gP ?_|(conv=>whnf);first|refine CF (gG a) ?_|refine CJ rfl (gG a) rfl ?_|refine C9 (h) ?_|refine C9 (l) ?_|refine Lq.one rfl rfl (aa a) rfl (O1 rfl) rfl rfl ?_|refine CS rfl rfl (gG a) rfl (O1 rfl) (show [C.s dN.own ((m.V.map (cF .own)).set f (cF .own (nth m.V f++[p]))),C.s .own (m.y.map (aD .own))]=_ from by simp only[List.set_cons_zero,List.set_set,I3];rfl) ?_|refine Ap.sm (aT λ_=>rfl) rfl (by simp;omega) (by decide) (iY _ _ _) ?_|refine CL (i) ⟨⟨rfl,d⟩,trivial⟩ ?_)
  rfl
 rw[CD rfl];refine fO 35 [(4,267,[16,17,18,19,20,21,22,23,24,25,27,0,1,2,3,4,5,6,7,8,9,10,1000,1001,1002,11,12])] Tryz.func561 rfl ?_ (.inr (bg (aL.enc_fr _) ⟨trivial,trivial⟩))
 repeat'(first|refine gP ?_|(conv=>whnf);first|refine CF (gG a) ?_|refine CJ rfl (gG a) rfl ?_|refine C9 (h) ?_|refine C9 (l) ?_|refine Lq.one rfl rfl (aa a) rfl (O1 rfl) rfl rfl ?_|refine CS rfl rfl (gG a) rfl (O1 rfl) (show [C.s dN.own ((m.V.map (cF .own)).set f (cF .own (nth m.V f++[p]))),C.s .own (m.y.map (aD .own))]=_ from by simp only[List.set_cons_zero,List.set_set,I3];rfl) ?_|refine Ap.sm (aT λ_=>rfl) rfl (by simp;omega) (by decide) (iY _ _ _) ?_|refine CL (i) ⟨⟨rfl,d⟩,trivial⟩ ?_|refine CL (n) ⟨⟨rfl,d⟩,trivial⟩ ?_)
 rfl
def GV(m:aL)(f:Int)(a:bP m=true)(d:¬(0<=f/\f<=m.V.length - 1)):zzA 533 false [.val (some 2) (aL.enc .U m),.val none [I f]] (.tup [some 2,none]) (aL.enc .own m++[B false]):=by
 have e:=mw.of a;have b:=e.sml;have c:=sJ m f b;rw[a,W0 d]at c;have g:=ge m b;refine fO 60 [(5,267,[31,32,33,34,35,36,37,38,39,40,42,0,1,2,3,4,5,6,7,8,9,10,1000,1001,1002,11,12]),(6,270,[43,44,45,46,47,48,49,50,51,52,53,54,55,57,0,1,2,3,4,5,6,7,8,9,10,11,12,13,1000,1001,1002,1003,14,15])] Tryz.func533 rfl ?_ (.inr (bg (aL.enc_fr _) ⟨trivial,trivial⟩))
 repeat'(first|refine gP ?_|(conv=>whnf);first|refine C9 (c) ?_|refine C9 (g) ?_)
 rfl
def Jw(m:aL)(f t:Nat)(a:(nth (nth m.V f) 0).To=t):aL.enc .own (gd m f)=[.s .own ((m.V.map (cF .own)).set f [.s .own (((nth m.V f).drop 1).map (dw.enc .U))]),.s .own ((m.y.map (aD .own)).set t (aD .own (nth m.y t++[(nth (nth m.V f) 0).Addr])))]:=by
 unfold aL.enc gd;simp only[C7,a,I3]
 rfl
def EO(m:aL)(f:Nat)(h:bP m=true)(i:f<m.V.length):zzA 533 false [.val (some 2) (aL.enc .U m),.val none [I (f:Nat)]] (.tup [some 2,none]) (aL.enc .own (if 0<(nth m.V f).length then gd m f else m)++[B (decide (0<(nth m.V f).length))]):=by
 have d:=mw.of h;have u:=d.sml;have K:=d.b4;have D:=d.i4;have j:=sJ m f u;rw[h,O0 ω]at j;have w:=ge m u;have a:=U0 i;have F:=d.bl f i;by_cases e:0<(nth m.V f).length
 ·rw[CD e,O0 e]
  have g:=((dP.1 h).2.1 f i).1 _ (am e);obtain⟨t,k⟩:=O3 g.1;have l:t<m.y.length:=ω
  have y:=ao e;have c:=ao l;have G:=d.il t ω;have n:=(mw.of (Fh h i e)).sml;have H:=ge (gd m f) n;have o:=aL.enc_fz (gd m f);rw[Jw m f t k]at o;have q:=bg (b:=[B true]) (aL.enc_fr (gd m f)) ⟨trivial,trivial⟩;generalize L:nth (nth m.V f) 0=p at *;obtain⟨M,J⟩:=p;simp only at k g o;subst k;refine fO 60 [(5,267,[31,32,33,34,35,36,37,38,39,40,42,0,1,2,3,4,5,6,7,8,9,10,1000,1001,1002,11,12]),(6,270,[43,44,45,46,47,48,49,50,51,52,53,54,55,57,0,1,2,3,4,5,6,7,8,9,10,11,12,13,1000,1001,1002,1003,14,15])] Tryz.func533 rfl ?_ (.inr q)
  repeat'(first|refine gB ?_|(conv=>whnf);first|with_reducible refine Bf.E (λr=>?_) (λr=>?_)|refine CP (by decide) (aa y) ?_|refine CF (gG a) ?_|refine CF (gG c) ?_|refine CJ rfl (gG a) rfl ?_|refine CJ rfl (gG c) rfl ?_|refine C9 (j) ?_|refine C9 (w) ?_|refine Lq.one rfl rfl (aa c) rfl (O1 rfl) rfl rfl ?_|refine Sl.suf 1 rfl (by rw[I1];omega) (aT λ_=>rfl) Y4 ?_|refine CY (λ_=>rfl) (λ_=>rfl) (by rw[Z3];omega) (by decide) ?_|refine CR (λ_=>rfl) (λ_=>rfl) (by rw[Z3];omega) (by decide) ?_|refine CS rfl rfl (aa a) rfl (O1 rfl) rfl ?_|refine CS rfl rfl (gG c) rfl (O1 rfl) (show [C.s dN.own ((m.V.map (cF .own)).set f [.s .own (((nth m.V f).drop 1).map (dw.enc .U))]),C.s .own ((m.y.map (aD .own)).set t (aD .own (nth m.y t++[J])))]=_ from by simp only[List.set_cons_zero,List.set_cons_succ,List.set_set,I3];rfl) ?_|refine Ap.sm (aT λ_=>rfl) rfl (by simp;omega) (by decide) (iY _ _ _) ?_|refine CL (H) ⟨⟨rfl,o⟩,trivial⟩ ?_)
  rfl
 rw[CB e,W0 e];refine fO 60 [(5,267,[31,32,33,34,35,36,37,38,39,40,42,0,1,2,3,4,5,6,7,8,9,10,1000,1001,1002,11,12]),(6,270,[43,44,45,46,47,48,49,50,51,52,53,54,55,57,0,1,2,3,4,5,6,7,8,9,10,11,12,13,1000,1001,1002,1003,14,15])] Tryz.func533 rfl ?_ (.inr (bg (aL.enc_fr _) ⟨trivial,trivial⟩))
 repeat'(first|refine gB ?_|(conv=>whnf);first|with_reducible refine Bf.E (λr=>?_) (λr=>?_)|refine C9 (j) ?_|refine C9 (w) ?_)
 rfl
def M8.set(rows:List (List C))(i:Nat){r n:List C}(h:N0 r n):M8 (.s .own (rows.set i r)) (.s .own (rows.set i n)):=by
 refine .own_ _ _ (by simp) (λj a b d f=>?_) (λj l a b c p d f o g=>?_)
 ·by_cases e:i=j
  ·subst e
   have k:i<rows.length:=by have:=(X2.1 d).1;simpa using this
   rw[v4 k]at d f;cases d;cases f;exact h.1
  rw[List.getElem?_set_ne e]at d f;rw[d]at f;cases f;rfl
 by_cases e:i=j
 ·subst e
  have k:i<rows.length:=by have:=(X2.1 d).1;simpa using this
  rw[v4 k]at d f;cases d;cases f;exact h.2 l c p o g
 rw[List.getElem?_set_ne e]at d f;rw[d]at f;cases f;rw[o]at g;cases g;exact .rfl_ _
def BZ(m:aL)(t:Nat)(d:bP m=true)(h:t<m.V.length):zzA 570 false [.val (some 2) (aL.enc .U m),.val none [I (t:Nat)]] (.tup [some 2,none]) (aL.enc .own (lH m t)++aD .own (nth m.y t)):=by
 have b:=mw.of d;have e:=b.sml;have o:=b.b4;have j:=b.i4;have g:=sJ m t e;rw[d,O0 ω]at g;have k:=ge m e;have c:=ao (xs:=m.y) (i:=t) ω;have l:=b.il t h;have a:=bg (aL.enc_fr (lH m t)) (bG (nth m.y t));have n:aL.enc .own (lH m t)=[.s .own (m.V.map (cF .own)),.s .own ((m.y.map (aD .own)).set t [.s .own []])]:=by simp[aL.enc,lH,C7];rfl
 rw[n]at a |-;refine fO 28 [(5,263,[20,21,22,23,24,25,26,0,1,2,3,4,5,6,7,1000,8,9])] Tryz.func570 rfl ?_ (.inr a)
 repeat'((conv=>whnf);first|with_reducible (first|refine Lm ?_|refine Wm ω ?_|refine CF (aa c) ?_|refine Bn ?_|refine kC.dk rfl ?_)|refine Bt ?_|refine Bu ?_|refine CE ?_|refine C9 (g) ?_|refine C9 (k) ?_|refine CJ rfl (aa c) rfl ?_|refine CS rfl rfl (aa c) rfl (O1 rfl) rfl ?_|refine CY (λ_=>rfl) (λ_=>rfl) ω (by decide) ?_|refine CR (λ_=>rfl) (λ_=>rfl) ω (by decide) ?_|refine CE ?_)
 exact .cons (.rfl_ _) (.cons (M8.set _ _ (.cons .z_ .nil)) (.cons (.rfl_ _) .nil))
def K3(now:Int):∀{l:List aN}{i:Nat},i<=l.length->(∀j,j<i->(nth l j).b7<now - 100)->(i<l.length->¬(nth l i).b7<now - 100)->sU now l=i
 | [],i,h,_,_=>by simp at h;subst h;rfl
 | x::xs,0,_,_,h=>by
  unfold sU;exact CB (h (by simp))
 | x::xs,i+1,b,a,c=>by
  unfold sU;refine(CD (a 0 ω)).trans ?_;rw[K3 now (l:=xs) (i:=i) (by simp at b;omega) (λj d=>a (j+1) ω) (λe=>c (by simp;omega))]
def Tb(q:bM)(now:Int):List C:=bM.enc .own ⟨q.c1,q.a5.drop (sU now q.a5)⟩++cx .own (q.a5.take (sU now q.a5))
def vY(q:bM)(now:Int)(g:fI q=true)(G:q.a5.length<=4096)(u:0<=now/\now<=1000000):zzA 535 false [.val (some 2) (bM.enc .U q),.val none [I now],.val none [I 100]] (.tup [some 2,none]) (Tb q now):=by
 have w:bM.sml q:=⟨ω,λ_ _=>trivial⟩
 have n:=pv q w;rw[g]at n;have o:=aI now 0 1000000;rw[O0 u]at o;have p:=aI 100 0 1000000;rw[O0 (by decide)]at p;have h:=(ku.1 g).1;have a:iD (Tb q now):=bg (bM.enc_fr _) (vD _);have y:∀i,i<q.a5.length->0<=(nth q.a5 i).b7:=λi b=>(h _ (am b)).2.2.2
 unfold Tb at a |-;generalize B:sU now q.a5=k at a |-;refine fO 59 [(6,270,[44,45,46,47,48,49,50,51,53,54,55,56,57,58,0,1,2,3,4,5,6,7,9,10,11,12,13,14,8,1009,1010,1011,1012,1013,1014,15,16])] Tryz.func535 rfl ?_ (.inr a)
 repeat'(first|refine gP ?_|(conv=>whnf);first|refine C9 (n) ?_|refine C9 (o) ?_|refine C9 (p) ?_)
 (conv=>whnf)
 refine CH (ι:=Nat) (λi=>[(1,.H .one [I (now)]),(2,.H .one [I (100)]),(3,.H .box (bM.enc .U q)),(6,.H .box [I 0,.z]),(8,.H .one [I ((i:Nat):Int)])]) (λi=>i<=q.a5.length/\∀j,j<i->(nth q.a5 j).b7<now - 100) (λi=>q.a5.length - i) (0) ?_ (⟨X0 _,λj C=>ω⟩) λi b=>?_
 ·exact wC
 obtain⟨b,r⟩:=b;by_cases l:i<q.a5.length/\(nth q.a5 i).b7<now - 100
 ·have c:=ao l.1
  repeat'(first|refine gE ?_|fail)
  ((conv=>whnf);refine CG (i+1) ⟨ω,λj C=>by by_cases e:j=i;(subst e;exact l.2);exact r j ω⟩ ω ?_;(exact wC))
 have d:=K3 now (i:=i) b r (λE F=>l ⟨E,F⟩);rw[B]at d;subst d;by_cases t:k<q.a5.length
 ·have c:=ao t
  have:=y k t
  repeat'(first|refine gE ?_|(conv=>whnf);first|with_reducible refine Bf.D (λg=>?_) (λg=>?_)|refine CZ k rfl (by rw[I1];omega) (aT λ_=>rfl) X4 ?_|refine Sl.suf k rfl (by rw[I1];omega) (aT λ_=>rfl) Y4 ?_|refine CY (λ_=>rfl) (λ_=>rfl) (by rw[Z1];omega) (by decide) ?_|refine CY (λ_=>rfl) (λ_=>rfl) (by rw[Z3];omega) (by decide) ?_|refine CR (λ_=>rfl) (λ_=>rfl) (by rw[Z3];omega) (by decide) ?_)
  rfl
 repeat'(first|refine gE ?_|(conv=>whnf);first|refine CZ k rfl (by rw[I1];omega) (aT λ_=>rfl) X4 ?_|refine Sl.suf k rfl (by rw[I1];omega) (aT λ_=>rfl) Y4 ?_|refine CY (λ_=>rfl) (λ_=>rfl) (by rw[Z1];omega) (by decide) ?_|refine CY (λ_=>rfl) (λ_=>rfl) (by rw[Z3];omega) (by decide) ?_|refine CR (λ_=>rfl) (λ_=>rfl) (by rw[Z3];omega) (by decide) ?_)
 rfl
def Dv(h:ab)(n:Int)(g:aY h [])(r:0<=n/\n<=1000)(p:h.b5+n<=1000000):zzB 456 false [.ptr (bA h),.val none [I n]] [.ptr (bA (tick h n)),.val none [I n]] .one [I ((oA h n).length:Nat)]:=by
 have a:=g.nums;unfold cq at a;rw[C0]at a;have t:=g.lens.quar;have i:=vY h.a9 (h.b5+n) g.quar ω ⟨ω,p⟩;have j:=g.aged r.1 p;unfold Tb at i;unfold tick oA aged at *;have l:(h.a9.a5.take (sU (h.b5+n) h.a9.a5)).length<=4096:=by rw[Z1];omega
 rw[I1];generalize h.a9.a5.take (sU (h.b5+n) h.a9.a5)=out at i j l |-;generalize h.a9.a5.drop (sU (h.b5+n) h.a9.a5)=rest at i j |-;refine fM 48 [(511,[2,0])] [(2,269,[18,19,20,21,22,23,24,25,26,17,27,28,5,0,1,2,3,4,5,6,7,8,9,10,11,12,13,1011,14])] [(0,0),(0,0)] Tryz.func456 rfl (λu q=>?_)
 repeat'(first|refine gP ?_|(conv=>whnf);refine CL (i) ⟨⟨rfl,bM.enc_fz h.a9⟩,⟨rfl,rfl⟩,⟨rfl,rfl⟩,trivial⟩ ?_)
 (conv=>whnf)
 refine CH (ι:=Nat) (λk=>[(0,.H .box (bA (freeAs {h with b5:=h.b5+n,a9:=⟨h.a9.c1,rest⟩} ((out.map (·.Addr)).take k)))),(6,.H .one (cx .own out)),(7,.H .one [I ((k:Nat):Int)])]) (λk=>k<=out.length) (λk=>out.length - k) (0) ?_ (X0 _) λk y=>?_
 ·exact wC
 by_cases o:k<out.length
 ·have b:=ao o
  have c:k<(out.map (·.Addr)).length:=by rw[I1];exact o
  have d:nth (out.map (·.Addr)) k=(nth out k).Addr:=bm (by rw[X3,ao o];rfl);have e:aY (freeAs {h with b5:=h.b5+n,a9:=⟨h.a9.c1,rest⟩} ((out.map (·.Addr)).take k)) (nth (out.map (·.Addr)) k::(out.map (·.Addr)).drop (k+1)):=by
   refine aY.freeAs ?_;rw[<-jm c,List.take_append_drop];rw[List.append_nil]at j;exact j
  rw[d]at e;have w:=o8 _ _ _ e
  repeat'(first|refine gE ?_|(conv=>whnf);refine CM (w) (.inl rfl) ?_)
  ((conv=>whnf);refine CG (k+1) ω ω ?_)
  rw[vi _ _ _ c,d];exact wC
 obtain rfl:k=out.length:=ω
 rw[C8 (by rw[I1];omega)]
 repeat'(first|refine gE ?_|fail)
 refine CK rfl rfl ?_;exact wC
def EG(t:Nat)(h:ab)(az:List Int)(k:Nat)(a:k<az.length):recycs t h (az.take (k+1))=recyc t (recycs t h (az.take k)) (nth az k):=by
 unfold recycs;rw[O6,ao a,Option.toList_some,List.foldl_append];rfl
def wn(h:ab)(t:Nat)(a:aY h [])(i:t<h.S.length):zzB 534 false [.ptr (bA h),.val none [I (t:Nat)]] [.ptr (bA (collect h t)),.val none [I (t:Nat)]] .one [I ((nth h.q.y t).length:Nat)]:=by
 have l:=a.nc;have n:=(dP.1 a.mail).1.2.2;have j:=BZ h.q t a.mail ω;have c:=(mw.of a.mail).il t ω;have d:=a.coll (t:=t) ω;rw[List.append_nil]at d;unfold collect;generalize nth h.q.y t=out at j d c |-;refine fM 36 [(564,[2,0,0])] [] [(0,0),(0,0)] Tryz.func534 rfl (λu q=>?_)
 repeat'(first|refine gP ?_|(conv=>whnf);refine CL (j) ⟨⟨rfl,aL.enc_fz h.q⟩,⟨rfl,rfl⟩,trivial⟩ ?_)
 (conv=>whnf)
 refine CH (ι:=Nat) (λk=>[(0,.H .box (bA (recycs t {h with q:=lH h.q t} (out.take k)))),(1,.H .one [I ((t:Nat):Int)]),(6,.H .one (aD .own out)),(7,.H .one [I ((k:Nat):Int)])]) (λk=>k<=out.length) (λk=>out.length - k) (0) ?_ (X0 _) λk p=>?_
 ·exact wC
 by_cases e:k<out.length
 ·have b:=ao e
  have g:aY (recycs t {h with q:=lH h.q t} (out.take k)) (nth out k::out.drop (k+1)):=by
   refine aY.recycs ?_ i;rw[<-jm e,List.take_append_drop];exact d
  have o:=oR _ _ t _ g (by rw[(fp t _ _).1];exact i)
  repeat'(first|refine gE ?_|(conv=>whnf);refine CM (o) (.inl rfl) ?_)
  ((conv=>whnf);refine CG (k+1) ω ω ?_)
  rw[EG _ _ _ _ e];exact wC
 obtain rfl:k=out.length:=ω
 rw[Y5]
 repeat'(first|refine gE ?_|fail)
 refine CK rfl rfl ?_;exact wC
def PA(a:Int)(o:bn):Bool:=decide (o.Addr<=a/\a<o.Addr+o.o)
def Js(h:ab)(E:List Int)(a:Int)(d:aY h E):zzB 566 false [.ptr (bA h),.val none [I a]] [.ptr (bA h),.val none [I a]] .one [I (cu (PA a) h.O)]:=by
 have r:=d.lens.objs;refine fM 47 [] [(4,29,[15,16,17,18,19,20,21,22,23,24,25,26,27,28,29,30,31,32,33,34,35,36,37,38,39,40,41,42,43])] [(0,0),(0,0)] Tryz.func566 rfl (λu q=>?_)
 repeat'(first|refine gP ?_|fail)
 (conv=>whnf)
 refine CH (ι:=Nat) (λi=>[(0,.H .box (bA h)),(1,.H .one [I (a)]),(5,.H .one [I ((i:Nat):Int)])]) (λi=>i<=h.O.length/\∀(j:Nat)(z:bn),j<i->h.O[j]? = some z->PA a z=false) (λi=>h.O.length - i) (0) ?_ (⟨X0 _,λj z C=>ω⟩) λi d=>?_
 ·exact wC
 obtain⟨t,c⟩:=d;by_cases e:i<h.O.length
 ·have b:=ao e
  have w:=tP ‹aY h E› (am e);have y:0<=(nth h.O i).o/\(nth h.O i).o<=1000:=by
   rcases aY.oow ‹aY h E› _ (am e) with⟨s,B,F,G⟩|⟨l,g,k,o⟩
   ·have H:=aC ((aY.L ‹aY h E›).sok s B)
    have:=gH (n:=(nth h.O i).o) ω;omega
   have J:=bV ((aY.L ‹aY h E›).lok l g);omega
  by_cases k:(nth h.O i).Addr<=a
  ·by_cases o:a<(nth h.O i).Addr+(nth h.O i).o
   ·repeat'(first|refine gE ?_|fail)
    refine CK rfl (Z0 (λz=>[I z]) (dB b (O0 ⟨k,o⟩) c).symm) ?_;exact wC
   repeat'(first|refine gE ?_|(conv=>whnf);with_reducible refine Bf.D (λp=>?_) (λp=>?_))
   ((conv=>whnf);refine CG (i+1) ⟨ω,dt b (W0 λx=>o x.2) c⟩ ω ?_;(exact wC))
  repeat'(first|refine gE ?_|(conv=>whnf);with_reducible refine Bf.D (λp=>?_) (λp=>?_))
  ((conv=>whnf);refine CG (i+1) ⟨ω,dt b (W0 λx=>k x.1) c⟩ ω ?_;(exact wC))
 repeat'(first|refine gE ?_|fail)
 refine CK rfl (Z0 (λz=>[I z]) (fy ω c).symm) ?_;exact wC
def JV(h:ab)(a v:Int):bA {h with G:=dM h.G a v} = (bA h).set 0 (.s .own ((h.G.F.W.T.map (aD .own)).set (ac h.G.F.R (a / 16)).j.toNat ((aD .own (nth h.G.F.W.T (cY h.G a))).set 0 (.s .own (((nth h.G.F.W.T (cY h.G a)).map (rI .own)).set (a % 16).toNat (splice (rI .own (nth (nth h.G.F.W.T (cY h.G a)) (a % 16).toNat)) 0 [I v])))))):=by
 simp[bA,dM,setCell,C7,aD,splice,cY,rI]
variable{α:Type}
def F9{p:α->Bool}{xs:List α}{x:α}(a:x∈xs)(b:p x=true):0<=cu p xs:=by
 have:=gT p xs;rw[show xs.any p=true from O4.2 ⟨x,a,b⟩,C0]at this;exact this
def zO(h:ab)(i:Nat)(j v:Int)(e:aY h [])(C:i<h.O.length)(D:0<=j/\j<=(nth h.O i).o - 1):zzB 529 false [.ptr (bA h),.val none [I ((nth h.O i).Addr+j)],.val none [I v]]
  [.ptr (bA (if(ac h.G.F.R (((nth h.O i).Addr+j) / 16)).e=1\/¬(0<=v/\v<=999) then h else {h with G:=dM h.G ((nth h.O i).Addr+j) v})),.val none [I ((nth h.O i).Addr+j)],.val none [I v]] .one [I (if(ac h.G.F.R (((nth h.O i).Addr+j) / 16)).e=1 then 2 else if ¬(0<=v/\v<=999) then 3 else 0)]:=by
 obtain⟨E,J,K⟩:=cV e (am C) D;have F:0<=cu (PA ((nth h.O i).Addr+j)) h.O:=F9 (am C) (O0 ω);have p:=Js h [] ((nth h.O i).Addr+j) e;have r:=bO e.ker;have t:=du h.G.F.R (((nth h.O i).Addr+j) / 16) r.1.2;have n:=aI v 0 999;generalize L:(nth h.O i).Addr+j=a at *;have b:0<=a/\a<512:=ω
 obtain⟨-,-,-,G,M⟩:=cj e.ker E;have H:=(bc.1 (aG.1 e.ker).2.1).2.2.1;have k:cY h.G a<h.G.F.W.T.length:=by unfold cY;omega
 have d:h.G.F.W.T[(ac h.G.F.R (a / 16)).j.toNat]? = some (nth h.G.F.W.T (cY h.G a)):=ao k;have w:=e.lens.row _ (am k);have l:=ao (xs:=nth h.G.F.W.T (cY h.G a)) (i:=(a % 16).toNat) (by rw[w];omega);have B:a.tmod 16=a % 16:=fF b.1;refine fM 42 [(566,[2,0])] [(8,14,[27,28,29,30,31,32,33,34,35,36,37,38,39,40])] [(0,0),(0,0),(0,0)] Tryz.func529 rfl (λu q=>?_);by_cases o:(ac h.G.F.R (a / 16)).e=1
 ·rw[CD (Or.inl o),CD o]
  repeat'(first|refine gB ?_|(conv=>whnf);first|refine CM (p) (.inl rfl) ?_|refine CL (t) ⟨⟨rfl,Cc _⟩,⟨rfl,rfl⟩,trivial⟩ ?_|refine CQ (by decide) ?_|refine CO (qW b) ?_)
  refine CK rfl rfl ?_;exact wC
 rw[CB (c:=_=(1:Int)) o];by_cases g:0<=v/\v<=999
 ·rw[O0 g]at n
  rw[CB (c:=¬(0<=v/\v<=999)) (W4 g),CB (c:=_\/¬(0<=v/\v<=999)) (λy=>y.elim o λy=>y g)]
  repeat'(first|refine gB ?_|(conv=>whnf);first|refine CM (p) (.inl rfl) ?_|refine CL (t) ⟨⟨rfl,Cc _⟩,⟨rfl,rfl⟩,trivial⟩ ?_|refine C9 (n) ?_|refine CQ (by decide) ?_|refine CO (qW b) ?_|refine CX B ?_|refine CP G (aa d) ?_|refine CP ω (aa l) ?_|refine Pu.two rfl rfl (aa d) rfl rfl rfl (aa l) rfl (W3 _) (JV h a v) ?_)
  refine CK rfl rfl ?_;exact wC
 rw[W0 g]at n;rw[CD (Or.inr g),CD g]
 repeat'(first|refine gB ?_|(conv=>whnf);first|refine CM (p) (.inl rfl) ?_|refine CL (t) ⟨⟨rfl,Cc _⟩,⟨rfl,rfl⟩,trivial⟩ ?_|refine C9 (n) ?_|refine CQ (by decide) ?_|refine CO (qW b) ?_)
 refine CK rfl rfl ?_;exact wC
def yv(l:a7)(n:Int):aB:=if(n+15) / 16<l.a1 then⟨l.Q+(n+15) / 16,l.a1 - (n+15) / 16⟩ else⟨0,0⟩
def xY(l:a7)(n:Int)(d:bF l=true):zzA 567 false [.val (some 3) (a7.enc .U l),.val none [I n]] (.tup [some 3,some 2,none]) (if 9<=n/\n<=l.o then a7.enc .own (trimL l n)++aB.enc .own (yv l n)++[B true] else a7.enc .own l++[I 0,I 0]++[B false]):=by
 have b:=oH l;rw[d]at b;have a:=aI n 9 l.o;have g:=d;unfold bF at g;rw[C0]at g;by_cases e:9<=n/\n<=l.o
 ·rw[O0 e]at a
  rw[CD e];have c:=mP n;rw[show fH n=(n+15) / 16 by unfold fH;rw[CD ω]]at c;unfold yv;by_cases h:(n+15) / 16<l.a1
  ·rw[CD h]
   refine fO 43 [(7,261,[37,38,39,40,42,0,1,2,3,5,4,1005,6,1005,7,8])] Tryz.func567 rfl ?_ (.inr ⟨trivial,trivial,trivial,trivial,trivial,trivial,trivial⟩)
   repeat'(first|refine gE ?_|(conv=>whnf);first|refine C9 (b) ?_|refine C9 (a) ?_|refine C9 (c) ?_)
   rfl
  rw[CB h];refine fO 43 [(7,261,[37,38,39,40,42,0,1,2,3,5,4,1005,6,1005,7,8])] Tryz.func567 rfl ?_ (.inr ⟨trivial,trivial,trivial,trivial,trivial,trivial,trivial⟩)
  repeat'(first|refine gE ?_|(conv=>whnf);first|refine C9 (b) ?_|refine C9 (a) ?_|refine C9 (c) ?_)
  rfl
 rw[W0 e]at a;rw[CB e];refine fO 43 [(7,261,[37,38,39,40,42,0,1,2,3,5,4,1005,6,1005,7,8])] Tryz.func567 rfl ?_ (.inr ⟨trivial,trivial,trivial,trivial,trivial,trivial,trivial⟩)
 repeat'(first|refine gP ?_|(conv=>whnf);first|refine C9 (b) ?_|refine C9 (a) ?_)
 rfl
def Dk(h:ab)(t a:Int)(c:h.S.length<=4)(d:¬(0<=t/\t<=h.S.length - 1)):zzB 527 false [.ptr (bA h),.val none [I t],.val none [I a]] [.ptr (bA h),.val none [I t],.val none [I a]] .one [I 1]:=by
 have b:=aI t 0 (h.S.length - 1:Int);rw[W0 d]at b;refine fM 148 [(560,[2,0]),(562,[2,0]),(564,[2,0,0]),(559,[2,0])] [(15,269,[68,69,70,71,72,73,74,75,77,67,78,79,11,0,1,2,3,4,5,6,7,13,8,1000,1001,1002,1003,1004,1013,9,10,11,12,14,1012,15]),(22,15,[92,93,94,95,96,97,98,99,100,101,102,103,104,105,106]),(25,271,[116,117,118,119,120,121,122,123,124,125,127,115,128,129,14,0,1,2,3,4,5,6,7,8,9,15,10,1000,1001,1002,1003,1015,11,12,13,14,16,1014,17])] [(0,0),(0,0),(0,0)] Tryz.func527 rfl (λu q=>?_)
 repeat'(first|refine gP ?_|(conv=>whnf);refine C9 (b) ?_)
 refine CK rfl rfl ?_;exact wC
def G8(h:ab)(i t:Nat)(a:aY h [])(j:i<h.O.length)(U:t<h.S.length)(K:(nth h.O i).a4≠t):zzB 527 false [.ptr (bA h),.val none [I (t:Nat)],.val none [I (nth h.O i).Addr]] [.ptr (bA (freeT h t i).1),.val none [I (t:Nat)],.val none [I (nth h.O i).Addr]] .one [I (freeT h t i).2]:=by
 have F:=am j;obtain⟨-,L,d⟩:=a.objAt F;have N:pC h (nth h.O i).Addr=i:=by
  have V:=(a.objAt F).1;exact cU (f:=(·.Addr)) (db a.osr) V j (by rw[L])
 rw[N]at d;have b:=tP a F;have W:=a.onu _ F;have n:=a.lens;have X:=n.objs;have Y:=a.nc;have Z:=mw.of a.mail;have hb4:=Z.b4;have o:=aI (t:Nat) 0 (h.S.length - 1:Int);rw[O0 ω]at o;have p:=rF h (nth h.O i).Addr ω;rw[d]at p;have e:=ao j;have G:=kY (nth h.O i).o;have O:=bO a.ker;have P:=du h.G.F.R ((nth h.O i).Addr / 16) O.1.2;unfold freeT;by_cases H:aJ (nth h.O i).o<0
 ·rw[CD H]
  have c3:=qI h i a j H;refine fM 148 [(560,[2,0]),(562,[2,0]),(564,[2,0,0]),(559,[2,0])] [(15,269,[68,69,70,71,72,73,74,75,77,67,78,79,11,0,1,2,3,4,5,6,7,13,8,1000,1001,1002,1003,1004,1013,9,10,11,12,14,1012,15]),(22,15,[92,93,94,95,96,97,98,99,100,101,102,103,104,105,106]),(25,271,[116,117,118,119,120,121,122,123,124,125,127,115,128,129,14,0,1,2,3,4,5,6,7,8,9,15,10,1000,1001,1002,1003,1015,11,12,13,14,16,1014,17])] [(0,0),(0,0),(0,0)] Tryz.func527 rfl (λu q=>?_)
  repeat'(first|refine gE ?_|(conv=>whnf);first|with_reducible refine Bf.D (λc=>?_) (λc=>?_)|refine C9 (o) ?_|refine CL (p) ⟨⟨rfl,bI h⟩,⟨rfl,rfl⟩,trivial⟩ ?_|refine C9 (G) ?_|refine CM (c3) (.inl rfl) ?_)
  refine CK rfl rfl ?_;exact wC
 rw[CB H];obtain⟨s1,s2,s3,s4⟩:=UD.of a (am j) H;by_cases J:(ac (tbl h) ((nth h.O i).Addr / 16)).e=1
 ·rw[CD J]
  unfold tbl at J;refine fM 148 [(560,[2,0]),(562,[2,0]),(564,[2,0,0]),(559,[2,0])] [(15,269,[68,69,70,71,72,73,74,75,77,67,78,79,11,0,1,2,3,4,5,6,7,13,8,1000,1001,1002,1003,1004,1013,9,10,11,12,14,1012,15]),(22,15,[92,93,94,95,96,97,98,99,100,101,102,103,104,105,106]),(25,271,[116,117,118,119,120,121,122,123,124,125,127,115,128,129,14,0,1,2,3,4,5,6,7,8,9,15,10,1000,1001,1002,1003,1015,11,12,13,14,16,1014,17])] [(0,0),(0,0),(0,0)] Tryz.func527 rfl (λu q=>?_)
  repeat'(first|refine gB ?_|(conv=>whnf);first|with_reducible refine Bf.D (λc=>?_) (λc=>?_)|refine CQ (by decide) ?_|refine CO (qW b) ?_|refine C9 (o) ?_|refine CL (p) ⟨⟨rfl,bI h⟩,⟨rfl,rfl⟩,trivial⟩ ?_|refine C9 (G) ?_|refine CL (P) ⟨⟨rfl,Cc _⟩,⟨rfl,rfl⟩,trivial⟩ ?_)
  refine CK rfl rfl ?_;exact wC
 rw[CB J,CB K];unfold tbl at J;have r:=Mv h.q t ⟨(nth h.O i).a4,(nth h.O i).Addr⟩ a.mail ω;by_cases l:bP (iB h.q t ⟨(nth h.O i).a4,(nth h.O i).Addr⟩)=true;rotate_left
 ·rw[CB l]
  rw[CB l,show bP (iB h.q t ⟨(nth h.O i).a4,(nth h.O i).Addr⟩)=false by simpa using l]at r;refine fM 148 [(560,[2,0]),(562,[2,0]),(564,[2,0,0]),(559,[2,0])] [(15,269,[68,69,70,71,72,73,74,75,77,67,78,79,11,0,1,2,3,4,5,6,7,13,8,1000,1001,1002,1003,1004,1013,9,10,11,12,14,1012,15]),(22,15,[92,93,94,95,96,97,98,99,100,101,102,103,104,105,106]),(25,271,[116,117,118,119,120,121,122,123,124,125,127,115,128,129,14,0,1,2,3,4,5,6,7,8,9,15,10,1000,1001,1002,1003,1015,11,12,13,14,16,1014,17])] [(0,0),(0,0),(0,0)] Tryz.func527 rfl (λu q=>?_)
  repeat'(first|refine gB ?_|(conv=>whnf);first|with_reducible refine Bf.D (λc=>?_) (λc=>?_)|refine CQ (by decide) ?_|refine CO (qW b) ?_|refine C9 (o) ?_|refine CL (p) ⟨⟨rfl,bI h⟩,⟨rfl,rfl⟩,trivial⟩ ?_|refine C9 (G) ?_|refine CL (P) ⟨⟨rfl,Cc _⟩,⟨rfl,rfl⟩,trivial⟩ ?_|refine CL (r) ⟨⟨rfl,aL.enc_fz h.q⟩,⟨rfl,rfl⟩,⟨rfl,rfl⟩,trivial⟩ ?_)
  refine CK rfl rfl ?_;exact wC
 rw[CD l];rw[CD l,l]at r;have w:cY h.G (nth h.O i).Addr<h.G.F.W.T.length:=by unfold cY;omega
 have hcz:=PO s1;have B:=dx (aJ (nth h.O i).o);unfold NW;generalize iB h.q t ⟨(nth h.O i).a4,(nth h.O i).Addr⟩ = M at r;refine fM 148 [(560,[2,0]),(562,[2,0]),(564,[2,0,0]),(559,[2,0])] [(15,269,[68,69,70,71,72,73,74,75,77,67,78,79,11,0,1,2,3,4,5,6,7,13,8,1000,1001,1002,1003,1004,1013,9,10,11,12,14,1012,15]),(22,15,[92,93,94,95,96,97,98,99,100,101,102,103,104,105,106]),(25,271,[116,117,118,119,120,121,122,123,124,125,127,115,128,129,14,0,1,2,3,4,5,6,7,8,9,15,10,1000,1001,1002,1003,1015,11,12,13,14,16,1014,17])] [(0,0),(0,0),(0,0)] Tryz.func527 rfl (λu q=>?_)
 repeat'(first|refine gB ?_|(conv=>whnf);first|with_reducible refine Bf.D (λc=>?_) (λc=>?_)|refine CQ (by decide) ?_|refine CO (qW b) ?_|refine C9 (o) ?_|refine CL (p) ⟨⟨rfl,bI h⟩,⟨rfl,rfl⟩,trivial⟩ ?_|refine C9 (G) ?_|refine CL (P) ⟨⟨rfl,Cc _⟩,⟨rfl,rfl⟩,trivial⟩ ?_|refine CL (r) ⟨⟨rfl,aL.enc_fz h.q⟩,⟨rfl,rfl⟩,⟨rfl,rfl⟩,trivial⟩ ?_)
 have Q:({{h with q:=M} with G:=f7 h.G (nth h.O i).Addr 0} : ab) = {h with q:=M}:=JL {h with q:=M} _ w;have R:=Z0 (λy:ab=>C.s .own (y.G.F.W.T.map (aD .own))) Q
 (conv=>whnf)
 refine CH (ι:=Nat) (λk=>[(0,.H .box (bA {{h with q:=M} with G:=f7 h.G (nth h.O i).Addr k})),(1,.H .one [I ((t:Nat):Int)]),(2,.H .one [I ((nth h.O i).Addr)]),(7,.H .one [I ((i:Nat):Int)]),(8,.H .box (bn.enc .own (nth h.O i))),(9,.H .one [I (aJ (nth h.O i).o)]),(10,.H .box (bk.enc .own (ac h.G.F.R ((nth h.O i).Addr / 16)))),(13,.H .one [I ((k:Nat):Int)])]) (λk=>k<=(csz (aJ (nth h.O i).o)).toNat) (λk=>(csz (aJ (nth h.O i).o)).toNat - k) (0) ?_ (X0 _) λk hk=>?_
 ·repeat'(first|exact trivial|rfl |exact ov R|exact dZ _|refine CN ?_ ?_|(exact DS (by first|omega|(simp only;omega)|(simp;omega))))
 have T:IntKind.i64.wrap 0=0:=rfl;have S:(nth h.O i).Addr.tmod 16=(nth h.O i).Addr % 16:=fF b.1;have g:(f7 h.G (nth h.O i).Addr k).F.W.T[(ac h.G.F.R ((nth h.O i).Addr / 16)).j.toNat]? = some (lI (nth h.G.F.W.T (cY h.G (nth h.O i).Addr)) ((nth h.O i).Addr % 16).toNat k):=v4 w;by_cases lk:k<(csz (aJ (nth h.O i).o)).toNat
 ·have E:=ao (xs:=lI (nth h.G.F.W.T (cY h.G (nth h.O i).Addr)) ((nth h.O i).Addr % 16).toNat k) (i:=((nth h.O i).Addr % 16+k).toNat) (by rw[nh,s4];omega)
  repeat'(first|refine gE ?_|(conv=>whnf);first|refine CQ (by decide) ?_|refine CX S ?_|refine C9 (B) ?_|refine CP s2.1 (aa g) ?_|refine CP ω (aa E) ?_|refine Pu.two rfl rfl (aa g) rfl rfl rfl (aa E) rfl (W3 _) (Gn {h with q:=M} _ k _ b.1) ?_)
  ((conv=>whnf);refine CG (k+1) ω ω ?_;(exact wC))
 obtain rfl:k=(csz (aJ (nth h.O i).o)).toNat:=ω
 have c6:=oD {{h with q:=M} with G:=f7 h.G (nth h.O i).Addr (csz (aJ (nth h.O i).o)).toNat} i j (by show h.O.length<=_;omega)
 repeat'(first|refine gB ?_|(conv=>whnf);first|with_reducible refine Bf.D (λc=>?_) (λc=>?_)|refine C9 (B) ?_|refine CM (c6) (.inl rfl) ?_)
 refine CK rfl rfl ?_;exact wC
def R4(h:ab)(i:Nat)(t:Int)(a:aY h [])(d:i<h.O.length):zzB 527 false [.ptr (bA h),.val none [I t],.val none [I (nth h.O i).Addr]] [.ptr (bA (if 0<=t/\t<=h.S.length - 1 then(freeT h t.toNat i).1 else h)),.val none [I t],.val none [I (nth h.O i).Addr]] .one [I (if 0<=t/\t<=h.S.length - 1 then(freeT h t.toNat i).2 else 1)]:=by
 have c:h.S.length<=4:=by have:=(dP.1 a.mail).1.2.1;have:=a.nc;omega
 by_cases b:0<=t/\t<=h.S.length - 1
 ·rw[CD b,CD b]
  obtain⟨n,rfl⟩:=O3 b.1;simp only[I3];by_cases e:(nth h.O i).a4=n
  ·have:=H6 h (nth h.O i) n a (am d) e c
   have g:pC h (nth h.O i).Addr=i:=by
    obtain⟨k,j,-⟩:=a.objAt (am d);exact cU (f:=(·.Addr)) (db a.osr) k d (by rw[j])
   rw[g,<-B4 e]at this;exact this
  exact G8 h i n a d ω e
 rw[CB b,CB b];exact Dk h t _ c b
def Nr(c:a8)(k:Nat):a8.enc .own (t6 c k)=[.s .own ((c.b.map (aD .own)).set k (aD .own ((nth c.b k).take ((nth c.b k).length - 1))))]:=by simp[a8.enc,t6,C7]
def TQ(xs:List Int)(n:Nat):(xs.take n).map (rI .U)=(xs.map (rI .U)).take n:=X4
def Un(c:a8)(k:Nat):List C:=if 0<(nth c.b k).length then a8.enc .own (t6 c k)++[I (nth (nth c.b k) ((nth c.b k).length - 1)),B true] else a8.enc .own c++[I (-1),B false]
def TL(c:a8)(k:Nat):iD (Un c k):=by
 unfold Un;split
 ·exact bg (a8.enc_fr _) ⟨trivial,trivial,trivial⟩
 exact bg (a8.enc_fr _) ⟨trivial,trivial,trivial⟩
def yQ(c:a8)(k:Nat)(h:bt c=true)(u:k<=3):zzA 380 false [.val (some 1) (a8.enc .U c),.val none [I (k:Nat)]] (.tup [some 1,none,none]) (Un c k):=by
 obtain⟨w,j⟩:=fw h;have n:a8.sml c:=⟨ω,λl r=>by have:=j l r;show l.length<=1048576;omega⟩
 have d:=yi c k n;rw[h,O0 ω]at d;have o:=j9 c n;have b:=uS (c:=c) (k:=k) ω;have t:=j _ (am (xs:=c.b) (i:=k) ω);have a:=TL c k;unfold Un at a |-;by_cases p:0<(nth c.b k).length
 ·rw[CD p]at a |-
  have q:=ao (xs:=nth c.b k) (i:=(nth c.b k).length - 1) ω;have e:(nth c.b k)[(((nth c.b k).length:Int) - 1).toNat]? = some (nth (nth c.b k) ((nth c.b k).length - 1)):=by rw[show(((nth c.b k).length:Int) - 1).toNat=(nth c.b k).length - 1 by omega];exact q
  have g:((((nth c.b k).length:Nat):Int) - 1)=(((nth c.b k).length - 1:Nat):Int):=ω
  rw[Nr]at a |-;refine fO 54 [(5,268,[32,33,34,35,36,37,38,39,40,41,42,44,0,1,2,3,4,5,6,7,8,9,10,11,1000,1001,1002,12,13]),(6,265,[45,46,47,48,49,50,51,52,53,0,1,2,3,4,5,6,7,8,9,1001,1002,1003,1004,1005,1006,1007,1008,10,11])] Tryz.func380 rfl ?_ (.inr a)
  repeat'(first|refine gB ?_|(conv=>whnf);first|refine C9 (d) ?_|refine C9 (o) ?_|refine CP ω (aa e) ?_|refine CZ ((nth c.b k).length - 1) g (by rw[I1];omega) (aT λ_=>rfl) (TQ _ _) ?_|refine CY (λ_=>rfl) (λ_=>rfl) (by rw[Z1];omega) (by decide) ?_|refine CR (λ_=>rfl) (λ_=>rfl) (by rw[Z1];omega) (by decide) ?_|refine CS rfl rfl (aa b) rfl (O1 rfl) rfl ?_)
  rfl
 rw[CB p]at a |-;refine fO 54 [(5,268,[32,33,34,35,36,37,38,39,40,41,42,44,0,1,2,3,4,5,6,7,8,9,10,11,1000,1001,1002,12,13]),(6,265,[45,46,47,48,49,50,51,52,53,0,1,2,3,4,5,6,7,8,9,1001,1002,1003,1004,1005,1006,1007,1008,10,11])] Tryz.func380 rfl ?_ (.inr a)
 repeat'(first|refine gB ?_|(conv=>whnf);first|refine C9 (d) ?_|refine C9 (o) ?_)
 rfl
def Uv(xs:List aB)(n:Int):List C:=bB .own (au xs n).1++[I (au xs n).2.1,B (au xs n).2.2]
def TM(xs:List aB)(n:Int):iD (Uv xs n):=bg (mA _) ⟨trivial,trivial,trivial⟩
def qd(pages:Int)(xs:List aB)(n:Int)(w:0<=pages/\pages<=1048576)(l:bC pages xs=true)(J:1<=n/\n<=1000)(K:xs.length<=4096):zzA 385 false [.val none [I pages],.val none (bB .U xs),.val none [I n]] (.tup [none,none,none]) (Uv xs n):=by
 have o:=mS pages xs w ⟨ω,λ_ _=>trivial⟩;rw[l]at o;have p:=(BN l).2;refine fO 98 [(8,21,[31,32,33,34,35,36,37,38,39,40,41,42,43,44,45,46,47,48,49,50,51]),(14,265,[71,72,73,74,76,77,78,79,81,0,1,2,3,5,6,7,8,10,4,1005,1006,1007,1008,1010,9,1010,11,1010,12,13])] Tryz.func385 rfl ?_ (.inr (TM xs n))
 repeat'(first|refine gE ?_|(conv=>whnf);first|refine C9 (o) ?_|refine CR (λ_=>rfl) (λ_=>rfl) ω (by decide) ?_)
 (conv=>whnf)
 refine CH (ι:=Nat) (λi=>[(1,.H .one (bB .U xs)),(2,.H .one [I (n)]),(9,.H .one (bB .own xs)),(10,.H .one [I (jD xs n i)]),(11,.H .one [I ((i:Nat):Int)])]) (λi=>i<=xs.length) (λi=>xs.length - i) (0) ?_ (X0 _) λi y=>?_
 ·exact wC
 have h:=xe xs n i y;by_cases q:i<xs.length
 ·have j:=ao q
  have E:=p _ (am q);have a:jD xs n (i+1)=if n<=(nth xs i).b0/\(jD xs n i<0\/(nth xs i).b0<(nth xs (jD xs n i).toNat).b0) then((i:Nat):Int) else jD xs n i:=rfl
  by_cases r:n<=(nth xs i).b0
  ·by_cases F:jD xs n i<0
   ·rw[CD ⟨r,.inl F⟩]at a
    repeat'(first|refine gE ?_|(conv=>whnf);with_reducible refine Bf.D (λc=>?_) (λc=>?_))
    ((conv=>whnf);refine CG (i+1) ω ω ?_)
    rw[a];exact wC
   have d:=ao (xs:=xs) (i:=(jD xs n i).toNat) ω;by_cases G:(nth xs i).b0<(nth xs (jD xs n i).toNat).b0
   ·rw[CD ⟨r,.inr G⟩]at a
    repeat'(first|refine gE ?_|(conv=>whnf);with_reducible (first|refine CP ω (aa d) ?_|refine Bf.D (λc=>?_) (λc=>?_)))
    ((conv=>whnf);refine CG (i+1) ω ω ?_)
    rw[a];exact wC
   rw[CB ω]at a
   repeat'(first|refine gE ?_|(conv=>whnf);with_reducible (first|refine CP ω (aa d) ?_|refine Bf.D (λc=>?_) (λc=>?_)))
   ((conv=>whnf);refine CG (i+1) ω ω ?_)
   rw[a];exact wC
  rw[CB ω]at a
  repeat'(first|refine gE ?_|(conv=>whnf);with_reducible refine Bf.D (λc=>?_) (λc=>?_))
  ((conv=>whnf);refine CG (i+1) ω ω ?_)
  rw[a];exact wC
 obtain rfl:i=xs.length:=ω
 change iA xs n = -1\/_ at h;unfold Uv au;rw[show jD xs n xs.length=iA xs n from rfl];by_cases e:iA xs n<0
 ·rw[CD e]
  rw[show iA xs n = -1 from h.resolve_right λg=>by have L:0<=iA xs n:=g.1;omega]
  repeat'(first|refine gE ?_|(conv=>whnf);with_reducible refine Bf.D (λc=>?_) (λc=>?_))
  rfl
 rw[CB e];obtain⟨H,t,M⟩:=h.resolve_left ω;change 0<=iA xs n at H;change iA xs n<xs.length at t;obtain⟨b,k⟩:=O3 (show 0<=iA xs n by omega);rw[k]at t |-;simp only[I3];have d:=ao (xs:=xs) (i:=b) ω;have E:=p _ (am (xs:=xs) (i:=b) ω);by_cases u:(nth xs b).b0=n
 ·rw[CD u]
  repeat'(first|refine gB ?_|(conv=>whnf);first|with_reducible refine Bf.D (λc=>?_) (λc=>?_)|refine CZ b rfl (by rw[I1];omega) (aT λ_=>rfl) X4 ?_|refine Sl.suf (b+1) rfl (by rw[I1];omega) (aT λ_=>rfl) Y4 ?_|refine CY (λ_=>rfl) (λ_=>rfl) (by rw[Z1];omega) (by decide) ?_|refine Ap.dele (λ_=>rfl) (λ_=>rfl) ω (by decide) ?_|refine CR (λ_=>rfl) (λ_=>rfl) (by rw[Z1];omega) (by decide) ?_)
  rfl
 rw[CB u]
 repeat'(first|refine gB ?_|(conv=>whnf);first|with_reducible refine Bf.D (λc=>?_) (λc=>?_)|refine CS rfl rfl (aa d) rfl (O1 rfl) rfl ?_)
 exact Z0 (λz=>z++[I (nth xs b).At,B true]) (show [C.s dN.own _]=_ from by simp[bB,C7];rfl)
def PH(k:ah)(p:Int)(f:Nat):ah.enc .own (ry k p f)=((ah.enc .own k).set 1 (.s .own ((k.F.W.a6.map (rB .own)).set f (rB .own true)))).set 2 (.s .own ((k.F.R.J.map (bk.enc .own)).set p.toNat (bk.enc .own ⟨2,(f:Nat)⟩))):=by
 simp[ah.enc,ry,C7]
def ET(k:ah)(p:Int)(c:aA k=true)(y:k.Calls≠100000)(o:0<=p/\p<k.F.R.J.length)(C:(nth k.F.R.J p.toNat).e=0):zzB 387 false [.ptr (ah.enc .own k),.val none [I p]] [.ptr (ah.enc .own (newK k p).1),.val none [I p]] .one [B (newK k p).2]:=by
 have E:=bO c;have F:=bc.1 (aG.1 c).2.1;have G:=(b8.1 (aG.1 c).2.2.1).2.2;have H:(cg k).F.R.J.length<=32:=G;have a:=BJ k.F.W ω;have d:=od k c y;have g:=fx (cg k) p E.1.2;have l:ac (cg k).F.R p=nth k.F.R.J p.toNat:=by unfold ac;exact CD o
 rw[l,C]at g;have h:=aI p 0 ((k.F.R.J.length:Int) - 1);rw[O0 ω]at h;have r:=ao (xs:=k.F.R.J) (i:=p.toNat) ω;change ar _ _ _ _ _ [I (sL k)]at a;unfold newK;cases e:refd k<;>rw[e]at d
 ·by_cases j:sL k<0
  ·rw[CD (.inr j)]
   refine fM 56 [(487,[2])] [] [(0,0),(0,0)] Tryz.func387 rfl (λu q=>?_)
   repeat'(first|refine gB ?_|(conv=>whnf);first|with_reducible refine Bf.D (λb=>?_) (λb=>?_)|refine CL (a) ⟨⟨rfl,aU.enc_fz _⟩,trivial⟩ ?_|refine CM (d) (.inl rfl) ?_|refine C9 (h) ?_|refine CL (g) ⟨CV (cg k),⟨rfl,rfl⟩,trivial⟩ ?_)
   refine CK rfl ?_ ?_
   ·rfl
   exact wC
  rw[CB (by simp[j])];obtain⟨n,t⟩:=GC j;obtain⟨f,J⟩:=O3 (show 0<=sL k by omega);rw[J]at a n t j |-;simp only[I3]at n t |-;have w:=ao (xs:=k.F.W.a6) (i:=f) n;rw[PH];refine fM 56 [(487,[2])] [] [(0,0),(0,0)] Tryz.func387 rfl (λu q=>?_)
  repeat'(first|refine gB ?_|(conv=>whnf);first|with_reducible refine Bf.D (λb=>?_) (λb=>?_)|refine CL (a) ⟨⟨rfl,aU.enc_fz _⟩,trivial⟩ ?_|refine CM (d) (.inl rfl) ?_|refine C9 (h) ?_|refine CL (g) ⟨CV (cg k),⟨rfl,rfl⟩,trivial⟩ ?_|refine CP o.1 (aa r) ?_|refine CS rfl rfl (aa w) rfl (O1 rfl) rfl ?_|refine CS rfl rfl (aa r) rfl (O1 rfl) rfl ?_)
  refine CK rfl ?_ ?_
  ·rfl
  exact wC
 rw[CD (.inl rfl)];refine fM 56 [(487,[2])] [] [(0,0),(0,0)] Tryz.func387 rfl (λu q=>?_)
 repeat'(first|refine gB ?_|(conv=>whnf);first|with_reducible refine Bf.D (λb=>?_) (λb=>?_)|refine CL (a) ⟨⟨rfl,aU.enc_fz _⟩,trivial⟩ ?_|refine CM (d) (.inl rfl) ?_|refine C9 (h) ?_|refine CL (g) ⟨CV (cg k),⟨rfl,rfl⟩,trivial⟩ ?_)
 refine CK rfl ?_ ?_
 ·rfl
 exact wC
def Ux(h:ab):List C:=(bA h).drop 5
def F5(h:ab)(p:Int)(a:aA h.G=true)(b:h.G.Calls≠100000)(c:0<=p/\p<h.G.F.R.J.length)(d:(nth h.G.F.R.J p.toNat).e=0):zzB 387 false [.ptr (bA h),.val none [I p]] [.ptr (bA {h with G:=(newK h.G p).1}),.val none [I p]] .one [B (newK h.G p).2]:=
 (ET h.G p a b c d).frame (r:=Ux h) rfl
def M2(h:ab)(i:Nat):bA (slotT h i)=((bA h).set 14 (I (Ki h.c0))).set 6 (.s .own ((h.K.map (ax.enc .own)).set i [I (nth h.K i).Q,I (nth h.K i).a,I (iv (nth h.K i).b1 (qY h i))])):=by
 simp[bA,slotT,ri,C7,ax.enc]
def sS(h:ab)(E:List Int)(i:Nat)(c:aY h E)(k:i<h.K.length):zzB 382 false [.ptr (bA h),.val none [I (i:Nat)]] [.ptr (bA (oO h i).1),.val none [I (i:Nat)]] .one [I (oO h i).2]:=by
 have F:=c.lens;have G:=F.spans;have d:=ao k;have b:=c.L.sok _ (am k);have e:=eS b;have a:=c.nums;unfold cq at a;rw[C0]at a;have t:=(b8.1 (aG.1 c.ker).2.2.1).2.2;have l:=sI c.L.sok (ps:=aP h (nth h.K i).Q) e (aP h (nth h.K i).Q).length;change 0<=iC h i/\iC h i<=65535 at l;have w:=nB (nth h.K i).a;have y:=zD h i ⟨ω,λ_ _=>trivial⟩ ⟨by show h.G.F.R.J.length<=_;omega,λ_ _=>trivial⟩ c.L.sok k;have o:=xT (nth h.K i).a (iC h i) ω;change ar _ _ _ _ _ (aD .own (ot h i)) at o;have p:=Je (nth h.K i).a (iC h i);change (ot h i).length<=16 at p;unfold oO;by_cases B:(ot h i).length=0
 ·rw[CD B]
  refine fM 68 [] [(2,7,[16,17,18,19,20,21,22]),(7,12,[42,43,44,45,46,47,48,49,50,51,52,53]),(8,11,[56,57,58,59,60,61,62,63,64,65,66])] [(0,0),(0,0)] Tryz.func382 rfl (λu q=>?_)
  repeat'(first|refine gB ?_|(conv=>whnf);first|refine C9 (w) ?_|refine CL (y) ⟨⟨rfl,bI h⟩,⟨rfl,rfl⟩,trivial⟩ ?_|refine C9 (o) ?_)
  refine CK rfl rfl ?_;exact wC
 rw[CB B];have H:=AZ (h:=h) (i:=i) ω;obtain⟨C,D,O⟩:=yt H;have J:=(gZ (aC b).2.2).2.2.1;have r:=yu h.c0 (n:=((ot h i).length:Nat)) ω;have K:=vc h.c0 ((ot h i).length:Nat) ω ω;have M:=zT (nth h.K i).b1 (qY h i) e ω;have N:=zW (ri (nth h.K i) (qY h i)) (qY h i) (Ef b ⟨C,D⟩) ⟨C,D⟩;have g:(ot h i)[(Pi h.c0 ((ot h i).length:Nat)).toNat]? = some (qY h i):=ao ω;have j:((h.K.map (ax.enc .own)).set i [I (nth h.K i).Q,I (nth h.K i).a,I (iv (nth h.K i).b1 (qY h i))])[i]? = some [I (nth h.K i).Q,I (nth h.K i).a,I (iv (nth h.K i).b1 (qY h i))]:=ss k;unfold vP;rw[M2];refine fM 68 [] [(2,7,[16,17,18,19,20,21,22]),(7,12,[42,43,44,45,46,47,48,49,50,51,52,53]),(8,11,[56,57,58,59,60,61,62,63,64,65,66])] [(0,0),(0,0)] Tryz.func382 rfl (λu q=>?_)
 repeat'(first|refine gB ?_|(conv=>whnf);first|refine CF j ?_|refine CJ rfl j rfl ?_|refine C9 (w) ?_|refine CL (y) ⟨⟨rfl,bI h⟩,⟨rfl,rfl⟩,trivial⟩ ?_|refine C9 (o) ?_|refine C9 (K) ?_|refine C9 (M) ?_|refine C9 (N) ?_|refine CP r.1 (aa g) ?_|refine CS rfl rfl (aa d) rfl (O1 rfl) rfl ?_)
 refine CK rfl ?_ ?_
 ·rfl
 exact wC
variable{i:Nat}
def Ap.ins{e:α->List C}{xs:List α}{y:α}{r:List C}{sz by_:Nat}{K:List (List C)->Prop}(a:r=e y)(b:∀y,(e y).length=sz)(c:∀y,aZ (e y)=true)(h:xs.length<=1048576)(d:by_<=1000)(f:K ((xs.take i++y::xs.drop i).map e)):Ap true ((xs.take i).map e++[r]) ((xs.drop i).map e) sz by_ K:=by
 subst a;have g:(xs.take i).length+1+(xs.drop i).length<=3145728:=by rw[Z1,Z3];omega
 refine CU (λr a=>?_) (aT b) (λ_ r a=>by obtain⟨y,-,rfl⟩:=Z4.1 a;exact c y) (by simp only[Y3,I1,List.length_singleton];omega) (by simp only[Y3,I1,List.length_singleton];exact O5 (Nat.mul_le_mul g d) (by decide)) ?_ f
 ·rcases V3.1 a with a|a
  ·exact aT b r a
  rw[V1.1 a];exact b y
 rw[W6,Y6,V6];rfl
def wL{p:α->Bool}{xs:List α}{y:α}(h:ly p xs=i):jP p xs y=xs.take i++y::xs.drop i:=by unfold jP;rw[h]
def KE(h:ab)(c:Int):ab × Int:=
 if(au h.w 1).2.2=false then(h,-1)
 else if(newK h.G (au h.w 1).2.1).2=false then({h with G:=(newK h.G (au h.w 1).2.1).1},-1)
 else(rL h c,(rH h:Nat))
def Dp(h:ab)(E:List Int)(c:Nat)(g:aY h E)(J:h.G.Calls<=90000):zzB 383 false [.ptr (bA h),.val none [I (c:Nat)]] [.ptr (bA (KE h c).1),.val none [I (c:Nat)]] .one [I (KE h c).2]:=by
 have B:=g.lens;have K:=B.spans;have L:dQ h<=32:=B.ents;have C:=i6 h;have l:=qd (dQ h:Nat) h.w 1 ⟨ω,ω⟩ g.rng (by decide) (by have:=B.free;omega);unfold Uv at l;have d:=kg g (W5 1);unfold KE rL rH;generalize au h.w 1=r at l d |-;obtain⟨o,p,ok⟩:=r;simp only at l d |-;cases ok with
 | false=>
  rw[CD rfl];refine fM 79 [(387,[2,0]),(2000010,[0,6])] [(1,267,[11,12,13,14,15,16,17,10,18,19,20,0,1,2,3,4,5,6,7,8,9,10,11,1009,1010,12,1010,13])] [(0,0),(0,0)] Tryz.func383 rfl (λu q=>?_)
  repeat'(first|refine gP ?_|(conv=>whnf);first|refine CL (C) ⟨bI h,trivial⟩ ?_|refine CL (l) ⟨⟨rfl,rfl⟩,⟨rfl,eN h.w⟩,⟨rfl,rfl⟩,trivial⟩ ?_)
  refine CK rfl rfl ?_;exact wC
 | true=>
  rw[CB (by simp)];obtain⟨M,N,O,V⟩:=d rfl;have F:0<=p/\p<h.G.F.R.J.length:=⟨M,by have:p+1<=((tbl h).J.length:Nat):=N;unfold tbl at this;omega⟩
  have t:=F5 h p g.ker ω F (O p.toNat ω ω);generalize newK h.G p=w at t |-;obtain⟨k,b⟩:=w;simp only at t |-;cases b with
  | false=>
   rw[CD rfl];refine fM 79 [(387,[2,0]),(2000010,[0,6])] [(1,267,[11,12,13,14,15,16,17,10,18,19,20,0,1,2,3,4,5,6,7,8,9,10,11,1009,1010,12,1010,13])] [(0,0),(0,0)] Tryz.func383 rfl (λu q=>?_)
   repeat'(first|refine gP ?_|(conv=>whnf);first|refine CL (C) ⟨bI h,trivial⟩ ?_|refine CL (l) ⟨⟨rfl,rfl⟩,⟨rfl,eN h.w⟩,⟨rfl,rfl⟩,trivial⟩ ?_|refine CM (t) (.inl rfl) ?_)
   refine CK rfl rfl ?_;exact wC
  | true=>
   rw[CB (by simp)];refine fM 79 [(387,[2,0]),(2000010,[0,6])] [(1,267,[11,12,13,14,15,16,17,10,18,19,20,0,1,2,3,4,5,6,7,8,9,10,11,1009,1010,12,1010,13])] [(0,0),(0,0)] Tryz.func383 rfl (λu q=>?_)
   repeat'(first|refine gP ?_|(conv=>whnf);first|refine CL (C) ⟨bI h,trivial⟩ ?_|refine CL (l) ⟨⟨rfl,rfl⟩,⟨rfl,eN h.w⟩,⟨rfl,rfl⟩,trivial⟩ ?_|refine CM (t) (.inl rfl) ?_)
   (conv=>whnf)
   refine CH (ι:=Nat) (λi=>[(0,.H .box (bA {h with G:=k,w:=o})),(1,.H .one [I ((c:Nat):Int)]),(6,.H .one [I (p)]),(8,.H .one [I ((i:Nat):Int)])]) (λi=>i<=h.K.length/\∀(j:Nat)(z:ax),j<i->h.K[j]? = some z->HO p z=false) (λi=>h.K.length - i) (0) ?_ (⟨X0 _,λj z W=>ω⟩) λi g=>?_
   ·exact wC
   obtain⟨P,G⟩:=g;have Q:({h with G:=k,w:=o} : ab).K.length=h.K.length:=rfl;by_cases R:i<h.K.length/\(nth h.K i).Q<p
   ·have n:=ao R.1
    repeat'(first|refine gE ?_|fail)
    ((conv=>whnf);refine CG (i+1) ⟨ω,dt n (W0 ω) G⟩ ω ?_;(exact wC))
   have a:ly (HO p) h.K=i:=wG ω G λz H=>by
    have S:=(X2.1 H).1;have:z=nth h.K i:=(bm H).symm;subst this;exact O0 ω
   have n:i<h.K.length->h.K[i]? = some (nth h.K i):=λT=>ao T
   rw[show addS h k o p (c:Nat) = {h with G:=k,w:=o,K:=h.K.take i++⟨p,(c:Nat),0⟩::h.K.drop i} by unfold addS;rw[wL a],a]
   repeat'(first|refine gE ?_|(conv=>whnf);first|with_reducible (first|refine CF (aa (n ω)) ?_|refine Bf.D (λU=>?_) (λU=>?_))|refine CJ rfl (aa (n ω)) rfl ?_|refine HH.mk rfl (GD h.K) rfl ?_|refine CZ i rfl (by rw[I1];omega) (aT λ_=>rfl) X4 ?_|refine Sl.suf i rfl (by rw[I1];omega) (aT λ_=>rfl) Y4 ?_|refine CR (λ_=>rfl) (λ_=>rfl) (by rw[Z1];omega) (by decide) ?_|refine Ap.sn (aT λ_=>rfl) rfl (by rw[I1,Z1];omega) (by decide) rfl ?_|refine Ap.ins (e:=ax.enc .U) (y:=⟨p,(c:Nat),0⟩) rfl (λ_=>rfl) (λ_=>rfl) ω (by decide) ?_)
   all_goals
    refine CK rfl rfl ?_;exact wC
variable{c:Int}{h:ab}
def Gv(a:i<h.K.length)(b:sV h c i=true)(d:∀j,j<i->sV h c j=false):uw h c=some i:=
 List.find?_range_eq_some.2 ⟨b,List.mem_range.2 a,λj e=>by rw[d j e];rfl⟩
def Gm(a:∀j,j<h.K.length->sV h c j=false):uw h c=none:=
 List.find?_range_eq_none.2 λj b=>by rw[a j b];rfl
def tS(a:sV h c i=false)(b:∀j,j<i->sV h c j=false):∀j,j<i+1->sV h c j=false:=λj d=>by
 by_cases e:j=i
 ·rw[e];exact a
 exact b j ω
def LM(h:ab)(t:Nat)(c:a8):bA {h with S:=h.S.set t c} = (bA h).set 9 (.s .own ((h.S.map (a8.enc .own)).set t (a8.enc .own c))):=by
 simp[bA,C7]
def Pb{c:Nat}(b:aY h [])(l:c<=3)(e:h.G.Calls<=90000)(h1:¬(au h.w 1).2.2=false)(f:¬(newK h.G (au h.w 1).2.1).2=false):aY (rL h c) []/\rH h<(rL h c).K.length:=by
 have a:(au h.w 1).2.2=true:=by simpa using h1
 obtain⟨g,i,j,n⟩:=kg b (W5 1) a;have s:=wa.of (p:=(au h.w 1).2.1) b.ker ω ⟨g,by have:(au h.w 1).2.1+1<=(h.G.F.R.J.length:Nat):=i;omega⟩ (j _ ω ω);have d:(newK h.G (au h.w 1).2.1).2=true:=by simpa using f
 have k:wa h.G (au h.w 1).2.1 ((newK h.G (au h.w 1).2.1).1,true):=by rw[<-d];exact s
 exact⟨b.addS (c:=c) ⟨ω,ω⟩ a k,(BL (HO (au h.w 1).2.1) h.K ⟨(au h.w 1).2.1,c,0⟩).1⟩
def Ai(h:ab)(t c:Nat)(o:aY h [])(M:t<h.S.length)(N:c<=3)(p:h.G.Calls<=90000):zzB 236 false [.ptr (bA h),.val none [I (t:Nat)],.val none [I (c:Nat)]] [.ptr (bA (smallA h t c).1),.val none [I (t:Nat)],.val none [I (c:Nat)]] .one [I (smallA h t c).2]:=by
 have E:=o.cach _ (am M);have e:=ao M;have r:=yQ (nth h.S t) c E N;have Q:=o.lens.spans;have B:=o;unfold Un at r;by_cases F:0<(nth (nth h.S t).b c).length
 ·unfold smallA
  rw[CD F]at r |-;simp only;rw[LM];refine fM 80 [(382,[2,0]),(383,[2,0])] [(3,6,[27,28,29,30,31,32])] [(0,0),(0,0),(0,0)] Tryz.func236 rfl (λu q=>?_)
  repeat'(first|refine gP ?_|(conv=>whnf);first|refine CL (r) ⟨⟨rfl,a8.enc_fz _⟩,⟨rfl,rfl⟩,trivial⟩ ?_|refine CS rfl rfl (aa e) rfl (O1 rfl) rfl ?_)
  refine CK rfl rfl ?_;exact wC
 rw[CB F]at r;have d:smallA h t c=match uw h c with
  | some i=>(slotT h i,vP h i)
  | none=>if(au h.w 1).2.2=false then(h,-1)
   else if(newK h.G (au h.w 1).2.1).2=false then({h with G:=(newK h.G (au h.w 1).2.1).1},-1)
   else oO (rL h c) (rH h):=by unfold smallA;exact CB F
 refine fM 80 [(382,[2,0]),(383,[2,0])] [(3,6,[27,28,29,30,31,32])] [(0,0),(0,0),(0,0)] Tryz.func236 rfl (λu q=>?_)
 repeat'(first|refine gP ?_|(conv=>whnf);refine CL (r) ⟨⟨rfl,a8.enc_fz _⟩,⟨rfl,rfl⟩,trivial⟩ ?_)
 (conv=>whnf)
 refine CH (ι:=Nat) (λi=>[(0,.H .box (bA h)),(1,.H .one [I ((t:Nat):Int)]),(2,.H .one [I ((c:Nat):Int)]),(10,.H .one [I ((i:Nat):Int)])]) (λi=>i<=h.K.length/\∀j,j<i->sV h c j=false) (λi=>h.K.length - i) (0) ?_ (⟨X0 _,λj W=>ω⟩) λi o=>?_
 ·exact wC
 obtain⟨R,w⟩:=o;by_cases C:i<h.K.length
 ·have l:=ao C
  by_cases O:(nth h.K i).a=c
  ·have y:=vo h (nth h.K i).Q
   cases D:gk h (nth h.K i).Q with
   | true=>
    rw[D]at y
    repeat'(first|refine gB ?_|(conv=>whnf);refine CL (y) ⟨bI h,⟨rfl,rfl⟩,trivial⟩ ?_)
    ((conv=>whnf);refine CG (i+1) ⟨ω,tS (by unfold sV;rw[D];simp) w⟩ ω ?_;(exact wC))
   | false=>
    rw[D]at y;have n:=sS h [] i B C;unfold oO at n;by_cases P:(ot h i).length=0
    ·rw[CD P]at n
     repeat'(first|refine gB ?_|(conv=>whnf);first|refine CL (y) ⟨bI h,⟨rfl,rfl⟩,trivial⟩ ?_|refine CM (n) (.inl rfl) ?_)
     ((conv=>whnf);refine CG (i+1) ⟨ω,tS (by unfold sV;rw[W0 (by omega:¬0<(ot h i).length)];simp) w⟩ ω ?_;(exact wC))
    rw[CB P]at n;have G:uw h c=some i:=Gv C (by unfold sV;rw[O0 O,D,O0 ω];rfl) w;rw[G]at d;simp only at d;obtain⟨S,T⟩:=B.slotT C (by omega:0<(ot h i).length);have H:=kb.nn S T;rw[d];generalize slotT h i=g at n |-;generalize vP h i=a at n H |-
    repeat'(first|refine gB ?_|(conv=>whnf);first|refine CL (y) ⟨bI h,⟨rfl,rfl⟩,trivial⟩ ?_|refine CM (n) (.inl rfl) ?_)
    refine CK rfl rfl ?_;exact wC
  repeat'(first|refine gB ?_|fail)
  ((conv=>whnf);refine CG (i+1) ⟨ω,tS (by unfold sV;rw[W0 O];rfl) w⟩ ω ?_;(exact wC))
 obtain rfl:i=h.K.length:=ω
 have G:uw h c=none:=Gm w;rw[G]at d;simp only at d;have k:=Dp h [] c B p;rw[d];unfold KE at k;by_cases J:(au h.w 1).2.2=false
 ·rw[CD J]at k |-
  repeat'(first|refine gE ?_|(conv=>whnf);refine CM (k) (.inl rfl) ?_)
  refine CK rfl rfl ?_;exact wC
 rw[CB J]at k |-;by_cases K:(newK h.G (au h.w 1).2.1).2=false
 ·rw[CD K]at k |-
  repeat'(first|refine gE ?_|(conv=>whnf);refine CM (k) (.inl rfl) ?_)
  refine CK rfl rfl ?_;exact wC
 rw[CB K]at k |-;obtain⟨U,V⟩:=Pb B N p J K;have L:=sS (rL h c) [] (rH h) U V;generalize rL h c=g at k L |-;generalize rH h=b at k L |-
 repeat'(first|refine gE ?_|(conv=>whnf);first|refine CM (k) (.inl rfl) ?_|refine CM (L) (.inl rfl) ?_)
 refine CK rfl rfl ?_;exact wC
def Mn(h:ab)(size:Int):ab × Int:=
 if(au h.w (gQ size:Nat)).2.2=false then(h,-1)
 else if(dR h size).2=gQ size then({h with G:=(dR h size).1,w:=(au h.w (gQ size:Nat)).1,M:=jP (Ts (au h.w (gQ size:Nat)).2.1) h.M ⟨(au h.w (gQ size:Nat)).2.1,(gQ size:Nat),size⟩},16*(au h.w (gQ size:Nat)).2.1)
 else({h with G:=unmN (dR h size).1 (au h.w (gQ size:Nat)).2.1 (dR h size).2},-1)
def y4(k:ah)(p:Int)(i:Nat):newsK k p (i+1)=if(newsK k p i).2=i then((newK (newsK k p i).1 (p+(i:Nat))).1,if(newK (newsK k p i).1 (p+(i:Nat))).2=true then i+1 else i) else newsK k p i:=rfl
def ES(k:ah)(p:Int):∀i,(newsK k p i).2<=i
 | 0=>W3 _
 | i+1=>by
  have b:=ES k p i;rw[y4];by_cases e:(newsK k p i).2=i
  ·rw[CD e]
   show(if _ then i+1 else i)<=i+1;by_cases a:(newK (newsK k p i).1 (p+(i:Nat))).2=true
   ·rw[CD a];exact W3 _
   rw[CB a];exact Nat.le_succ _
  rw[CB e];omega
def nG{k:ah}{p:Int}{i:Nat}(h:(newsK k p i).2≠i):∀j,newsK k p (i+j)=newsK k p i/\(newsK k p (i+j)).2<i+j
 | 0=>⟨rfl,by show(newsK k p i).2<i;have:=ES k p i;omega⟩
 | j+1=>by
  have a:=nG h j;have e:newsK k p (i+(j+1))=newsK k p (i+j):=by
   show newsK k p (i+j+1)=_;rw[y4,CB ω]
  exact⟨e.trans a.1,by rw[e];omega⟩
def zl(h:ab)(size:Int)(l:aY h [])(C:9<=size/\size<=1000)(V:h.G.Calls<=90000):zzB 237 false [.ptr (bA h),.val none [I size]] [.ptr (bA (Mn h size).1),.val none [I size]] .one [I (Mn h size).2]:=by
 have E:=l.lens;have W:=E.larges;have Q:=l;have F:dQ h<=32:=E.ents;have G:fH size=((gQ size:Nat):Int):=by unfold fH gQ;split<;>omega
 have hN:1<=gQ size/\gQ size<=63:=by unfold gQ;omega
 have H:=mP size;rw[G]at H;have R:=i6 h;have t:=qd (dQ h:Nat) h.w (gQ size:Nat) ⟨ω,ω⟩ l.rng ⟨ω,ω⟩ (by have:=E.free;omega);unfold Uv at t;have b:=kg l (show(1:Int)<=(gQ size:Nat) by omega);unfold Mn dR;generalize gQ size=N at *;generalize au h.w (N:Nat)=r at t b |-;obtain⟨J,p,ok⟩:=r;simp only at t b |-;refine fM 105 [(387,[2,0]),(388,[2,0]),(2000018,[0,7])] [(2,268,[16,17,18,19,20,21,22,23,15,24,25,26,0,1,2,3,4,5,6,7,8,9,10,11,12,1010,1011,13,1011,14])] [(0,0),(0,0)] Tryz.func237 rfl (λu q=>?_);cases ok with
 | false=>
  rw[CD rfl]
  repeat'(first|refine gP ?_|(conv=>whnf);first|refine C9 (H) ?_|refine CL (R) ⟨bI h,trivial⟩ ?_|refine CL (t) ⟨⟨rfl,rfl⟩,⟨rfl,eN h.w⟩,⟨rfl,rfl⟩,trivial⟩ ?_)
  refine CK rfl rfl ?_;exact wC
 | true=>
  rw[CB (by simp)];obtain⟨S,K,B,u4⟩:=b rfl;change p+(N:Nat)<=(h.G.F.R.J.length:Nat) at K;change ∀q:Nat,p<=q->(q:Int)<p+(N:Nat)->(nth h.G.F.R.J q).e=0 at B
  have X:h.G.F.R.J.length<=32:=F
  repeat'(first|refine gP ?_|(conv=>whnf);first|refine C9 (H) ?_|refine CL (R) ⟨bI h,trivial⟩ ?_|refine CL (t) ⟨⟨rfl,rfl⟩,⟨rfl,eN h.w⟩,⟨rfl,rfl⟩,trivial⟩ ?_)
  (conv=>whnf)
  refine CH (ι:=Nat) (λi=>[(0,.H .box (bA {h with G:=(newsK h.G p i).1})),(1,.H .one [I (size)]),(5,.H .one [I ((N:Nat):Int)]),(6,.H .one (bB .own J)),(7,.H .one [I (p)]),(9,.H .one [I ((i:Nat):Int)])]) (λi=>i<=N/\(newsK h.G p i).2=i) (λi=>N - i) (0) ?_ (⟨X0 _,rfl⟩) λi l=>?_
  ·exact wC
  obtain⟨L,M⟩:=l;have s:=m7.of (p:=p) (n:=N) Q.ker ω ⟨S,K⟩ B i L;have Y:=s.calls;have Z:=s.len;by_cases li:i<N
  ·have O:(nth (newsK h.G p i).1.F.R.J (p+(i:Nat)).toNat).e=0:=by
    rw[s.out _ (by rw[M];omega)];exact B _ ω ω
   have c:=F5 {h with G:=(newsK h.G p i).1} (p+(i:Nat)) s.ker (by show(newsK h.G p i).1.Calls≠100000;omega) ⟨ω,by show p+(i:Nat)<((newsK h.G p i).1.F.R.J.length:Nat);omega⟩ O;have a:newsK h.G p (i+1)=((newK (newsK h.G p i).1 (p+(i:Nat))).1,if(newK (newsK h.G p i).1 (p+(i:Nat))).2=true then i+1 else i):=by
    show(if(newsK h.G p i).2=i then _ else _)=_;rw[CD M]
   simp only at c;cases e:(newK (newsK h.G p i).1 (p+(i:Nat))).2 with
   | true=>
    rw[e]at c a;rw[CD rfl]at a;have P:(newK (newsK h.G p i).1 (p+(i:Nat))).1=(newsK h.G p (i+1)).1:=by rw[a]
    rw[P]at c
    repeat'(first|refine gE ?_|(conv=>whnf);refine CM (c) (.inl rfl) ?_)
    ((conv=>whnf);refine CG (i+1) ⟨ω,by rw[a]⟩ ω ?_;(exact wC))
   | false=>
    rw[e]at c a;rw[CB (by simp)]at a;have d:=nG (k:=h.G) (p:=p) (i:=i+1) (by rw[a];simp only;omega) (N - (i+1));rw[show i+1+(N - (i+1))=N by omega]at d;rw[d.1]at d;have T:=m7.of (p:=p) (n:=N) Q.ker ω ⟨S,K⟩ B (i+1) ω;rw[CB (by have:=nG (k:=h.G) (p:=p) (i:=i+1) (by rw[a];simp only;omega) (N - (i+1));rw[show i+1+(N - (i+1))=N by omega]at this;omega)];rw[show newsK h.G p N=newsK h.G p (i+1) by have:=nG (k:=h.G) (p:=p) (i:=i+1) (by rw[a];simp only;omega) (N - (i+1));rw[show i+1+(N - (i+1))=N by omega]at this;exact this.1];rw[a]at T |-;have g:=T.ker;simp only at g |-;generalize (newK (newsK h.G p i).1 (p+(i:Nat))).1=k at c g |-
    repeat'(first|refine gE ?_|(conv=>whnf);refine CM (c) (.inl rfl) ?_)
    (conv=>whnf)
    refine CH (ι:=Nat) (λj=>[(0,.H .box (bA {h with G:=unmN k p j})),(1,.H .one [I (size)]),(5,.H .one [I ((N:Nat):Int)]),(7,.H .one [I (p)]),(9,.H .one [I ((i:Nat):Int)]),(10,.H .one [I ((j:Nat):Int)])]) (λj=>j<=i) (λj=>i - j) (0) ?_ (X0 _) λj hj=>?_
    ·exact wC
    have c4:=nU {h with G:=unmN k p j} (p+(j:Nat)) (jf g p j);by_cases lj:j<i
    ·repeat'(first|refine gE ?_|(conv=>whnf);refine CM (c4) (.inl rfl) ?_)
     ((conv=>whnf);refine CG (j+1) ω ω ?_;(exact wC))
    obtain rfl:j=i:=ω
    repeat'(first|refine gE ?_|fail)
    refine CK rfl rfl ?_;exact wC
  obtain rfl:i=N:=ω
  rw[CD M];generalize (newsK h.G p i).1=k
  repeat'(first|refine gE ?_|fail)
  (conv=>whnf)
  refine CH (ι:=Nat) (λm=>[(0,.H .box (bA {h with G:=k,w:=J})),(1,.H .one [I (size)]),(5,.H .one [I ((i:Nat):Int)]),(7,.H .one [I (p)]),(11,.H .one [I ((m:Nat):Int)])]) (λm=>m<=h.M.length/\∀(j:Nat)(z:a7),j<m->h.M[j]? = some z->Ts p z=false) (λm=>h.M.length - m) (0) ?_ (⟨X0 _,λj z hj=>ω⟩) λm hm=>?_
  ·exact wC
  obtain⟨hm',U⟩:=hm;have hl2:({h with G:=k,w:=J} : ab).M.length=h.M.length:=rfl;by_cases go:m<h.M.length/\(nth h.M m).Q<p
  ·have o:=ao go.1
   repeat'(first|refine gE ?_|fail)
   ((conv=>whnf);refine CG (m+1) ⟨ω,dt o (W0 ω) U⟩ ω ?_;(exact wC))
  have w:ly (Ts p) h.M=m:=wG ω U λz C=>by
   have hlt:=(X2.1 C).1;have:z=nth h.M m:=(bm C).symm;subst this;exact O0 ω
  have o:m<h.M.length->h.M[m]? = some (nth h.M m):=λhh=>ao hh
  rw[wL w]
  repeat'(first|refine gE ?_|(conv=>whnf);first|with_reducible (first|refine CF (aa (o ω)) ?_|refine Bf.D (λhq=>?_) (λhq=>?_))|refine CJ rfl (aa (o ω)) rfl ?_|refine HH.mk rfl (BB h.M) rfl ?_|refine CZ m rfl (by rw[I1];omega) (aT λ_=>rfl) X4 ?_|refine Sl.suf m rfl (by rw[I1];omega) (aT λ_=>rfl) Y4 ?_|refine CR (λ_=>rfl) (λ_=>rfl) (by rw[Z1];omega) (by decide) ?_|refine Ap.sn (aT λ_=>rfl) rfl (by rw[I1,Z1];omega) (by decide) rfl ?_|refine Ap.ins (e:=a7.enc .U) (y:=⟨p,(i:Nat),size⟩) rfl (λ_=>rfl) (λ_=>rfl) ω (by decide) ?_)
  all_goals
   refine CK rfl ?_ ?_
   ·exact Z0 (λz=>[I z]) ω
   exact wC
def G5{k:ah}(h:aA k=true)(b:jN k.a0):ah.wf k:=by
 obtain⟨p,f,g,q,t⟩:=aG.1 h;obtain⟨u,w,y,A⟩:=bc.1 f;obtain⟨i,B,C⟩:=b8.1 g;refine⟨⟨⟨⟨ω,λr b=>?_⟩,⟨ω,λ_ _=>trivial⟩⟩,⟨ω,λe l=>?_⟩⟩,⟨ω,ω⟩,b⟩
 ·obtain⟨j,c,rfl⟩:=aK b
  obtain⟨D,n⟩:=uU h c;exact⟨ω,λv o=>by have:=n v o;exact⟨ω,ω⟩⟩
 obtain⟨j,c,rfl⟩:=aK l;have a:=i j c;unfold kQ at a;rw[C0]at a;by_cases d:(nth k.F.R.J j).e=0
 ·have:=a.2.2.1 d;exact⟨⟨ω,ω⟩,⟨ω,ω⟩⟩
 have:=a.2.2.2 d;exact⟨⟨ω,ω⟩,⟨ω,ω⟩⟩
def Ku{p:cJ}(h:eU p=true):cJ.wf p:=by
 have a:=λi b=>gm h (i:=i) b
 have e:p.T.length<=16:=nj h;unfold eU at h;simp only[I0,C0]at h;exact⟨⟨ω,ω⟩,⟨ω,ω⟩,⟨ω,λv c=>by
   obtain⟨j,d,rfl⟩:=aK c;have:=a j d;exact⟨ω,ω⟩⟩⟩
variable{E:List Int}
def aY.jobWf(a:aY h E):cA.wf h.Z/\cA.sml h.Z:=by
 cases b:h.u with
 | true=>
  obtain⟨c,f,g,i,j⟩:=dA.1 (a.job b).1;have k:=nj c;exact⟨⟨Ku c,⟨ω,ω⟩,⟨ω,ω⟩⟩,by show h.Z.X.T.length<=1048576;omega⟩
 | false=>
  have:=a.noj b;unfold ta at this;rw[C0]at this;obtain⟨l,n,e,o,p⟩:=this;refine⟨⟨⟨⟨ω,ω⟩,⟨ω,ω⟩,⟨ω,λv d=>?_⟩⟩,⟨ω,ω⟩,⟨ω,ω⟩⟩,by show h.Z.X.T.length<=1048576;omega⟩;rw[O8 e]at d;cases d
def wQ{n:Int}(h:0<=aJ n):1<=n/\n<=8:=by
 unfold aJ at h
 repeat' split at h
 all_goals omega
def kb.wf(b:aY h E){a:Int}(d:kb h.K a c):n9 a:=by
 have:=d.bd b;exact⟨ω,ω⟩
def aY.wf(d:aY h E)(M:jN h.G.a0):ab.wf h:=by
 have q:=d.lens;have r:=d.L;have D:=d.nums;unfold cq at D;rw[C0]at D;obtain⟨X,N,Y⟩:=gf.1 d.rng;obtain⟨O,-,-,Z,q5,-⟩:=ku.1 d.quar;have w:=d.mail;have k:=d.hfl;unfold aF at k;rw[CD w]at k;unfold bP at w;simp only[I0,C0,ch,gY,V4,nE,Rt]at w;obtain⟨⟨⟨m1,m2,m3⟩,P⟩,m5⟩:=w;have A:=q.free;have Q:=q.spans;have h3:=q.larges;have h4:=q.objs;have h5:=q.caches;have h6:=q.quar;have t:∀n:Nat,bx h.q n<=bx h.q (n+1):=λn=>by simp only[bx];omega
 have g:∀a b:Nat,a<=b->bx h.q a<=bx h.q b:=λa b u=>by
  induction u with
  | refl=>exact W5 _
  | step _ R=>exact V5 R (t _)
 have B:∀n:Nat,0<=bx h.q n:=λn=>g 0 n (X0 _)
 have o:∀i,i<h.q.V.length->(nth h.q.V i).length<=30/\(nth h.q.y i).length<=30:=λi f=>by
  have F:=g (i+1) h.q.V.length ω;have S:=B i;simp only[bx]at F;omega
 refine⟨G5 d.ker M,⟨ω,λx e=>?_⟩,⟨ω,λx e=>?_⟩,⟨ω,λx e=>?_⟩,⟨ω,λx e=>?_⟩,⟨ω,λx e=>?_⟩,⟨⟨ω,λl c=>?_⟩,⟨ω,λl c=>?_⟩⟩,⟨⟨ω,ω⟩,⟨ω,λx e=>?_⟩⟩,⟨ω,ω⟩,⟨ω,ω⟩,⟨ω,ω⟩,⟨ω,ω⟩,trivial,d.jobWf.1⟩
 ·have:=N x e;exact⟨⟨ω,ω⟩,⟨ω,ω⟩⟩
 ·have y:=r.sok x e
  have G:=eS y;have T:=aC y;exact⟨⟨ω,ω⟩,⟨ω,ω⟩,⟨ω,ω⟩⟩
 ·have H:=aM (r.lok x e)
  have J:=bV (r.lok x e);exact⟨⟨ω,ω⟩,⟨ω,ω⟩,⟨ω,ω⟩⟩
 ·obtain⟨o1,o2,o3,o4⟩:=d.onu x e
  have u:0<=x.Addr/\x.Addr<512/\-1000<=x.o/\x.o<=1000:=by
   rcases d.oow x e with⟨s,y,A,Q⟩|⟨l,c,F,S⟩
   ·have T:=aC (r.sok s y)
    have:=wQ (n:=x.o) ω;exact⟨by have:=A.1;omega,by have:=A.2.1;omega,ω,ω⟩
   have H:=aM (r.lok l c);have J:=bV (r.lok l c);omega
  exact⟨⟨ω,ω⟩,⟨ω,ω⟩,⟨ω,ω⟩,⟨ω,ω⟩⟩
 ·obtain⟨c1,U⟩:=q.lists x e
  refine⟨ω,λl c=>⟨by have:=U l c;omega,λa C=>?_⟩⟩;obtain⟨j,V,rfl⟩:=aK c;exact kb.wf d (d.hca x e j V a C)
 ·obtain⟨i,f,rfl⟩:=aK c
  have G:=o i f;refine⟨ω,λp K=>?_⟩;have W:=(P i f).1 p K;exact⟨⟨ω,ω⟩,kb.wf d (k p.Addr (V3.2 (.inl (List.mem_flatMap.2 ⟨_,am f,Z4.2 ⟨p,K,rfl⟩⟩))))⟩
 ·obtain⟨i,f,rfl⟩:=aK c
  have G:=o i ω;exact⟨ω,λa C=>kb.wf d (k a (V3.2 (.inr (List.mem_flatten.2 ⟨_,am f,C⟩))))⟩
 have H:=O x e;have J:=d.snc x e;exact⟨kb.wf d (d.hqu x e),⟨ω,ω⟩,⟨ω,ω⟩⟩
structure Vb(h:ab):Prop where
 ker:aA h.G=true
 wf:ab.wf h
 sml:ab.sml h
 lens:RX h
def aY.fit(a:aY h E)(b:jN h.G.a0)(c:aL.sml h.q):Vb h:=⟨a.ker,a.wf b,a.lens.sml a.ker c a.jobWf.2,a.lens⟩
def xx(b:aY h [])(c:h.u=true):aA (mStep h).G=true/\(mStep h).G.Calls<=h.G.Calls+1/\(mStep h).G.a0=h.G.a0/\(mStep h).q=h.q/\(Fu h=true->(mStep h).u=false)/\cA.wf (mStep h).Z/\cA.sml (mStep h).Z:=by
 have s:=JS.of b c;refine⟨s.ker,s.calls.2.1,s.calls.2.2,rfl,λa=>?_,?_⟩
 ·unfold Fu at a
  rw[C0]at a;show(if over _=true then false else h.u)=false;rw[CD (show over (ip h.G h.Z).2=true from O0 (.inl a))]
 show cA.wf (if over _=true then _ else _)/\cA.sml (if over _=true then _ else _);split
 ·exact⟨⟨⟨⟨by decide,by decide⟩,⟨by decide,by decide⟩,⟨by decide,λv f=>by cases f⟩⟩,⟨by decide,by decide⟩,⟨by decide,by decide⟩⟩,by show(0:Nat)<=1048576;omega⟩
 have d:=(dA.1 (b.job c).1).1;have g:=nj d;obtain⟨j,k⟩:=s.ph;obtain⟨l,i⟩:=s.nxt;have e:=s.plan;refine⟨⟨by rw[e];exact Ku d,⟨ω,ω⟩,⟨ω,by rw[e]at i;omega⟩⟩,by show((ip h.G h.Z).2.X.T).length<=1048576;rw[e];omega⟩
def vZ(h:ab):Nat->ab × Bool
 | 0=>(h,false)
 | i+1=>if(vZ h i).1.u=true then(mStep (vZ h i).1,Fu (vZ h i).1) else vZ h i
def fin(h:ab):ab × Bool:=vZ h 100
def vz(g:aY h []):aY (started h).1 []/\(started h).1.G=h.G/\(started h).1.q=h.q:=by
 have t:=g.nums;unfold cq at t;rw[C0]at t;have u:=(mY (bD h).length (show 0<=h.c0/\h.c0<=1073741823 by omega) ((bD h).length - 1)).2;have j:=nC (bD h) (show 0<=h.c0/\h.c0<=1073741823 by omega);have c:cq {h with c0:=(shuf (bD h).length h.c0).2} = true:=by
  unfold cq;rw[C0];unfold shuf;simp only;omega
 cases k:m6 (bD h) h.c0 with
 | nil=>
  have f:Ab.started h=({h with c0:=(shuf (bD h).length h.c0).2},false):=by unfold Ab.started;rw[k]
  rw[f];exact⟨{g with nums:=c},rfl,rfl⟩
 | cons q C=>
  obtain⟨D,E,l⟩:=j q (by rw[k];exact C2 ..);have f:Ab.started h=({h with c0:=(shuf (bD h).length h.c0).2,u:=true,Z:=tT (dq (nth (bD h) q.A.toNat) (nth (bD h) q.B.toNat))},true):=by unfold Ab.started;rw[k]
  rw[f];have d:∀s∈bD h,s∈h.K:=λs w=>nw h (W3 _) s (List.mem_of_mem_take w)
  have n:=d _ (am (xs:=bD h) (i:=q.A.toNat) ω);have o:=d _ (am (xs:=bD h) (i:=q.B.toNat) ω);generalize nth (bD h) q.A.toNat=a at l n |-;generalize nth (bD h) q.B.toNat=b at l o |-;obtain⟨y,F,G⟩:=uB l;have p:kx (tT (dq a b))=true:=dA.2 ⟨y,by show(0:Int)<=0;omega,by show(0:Int)<=5;omega,by show(0:Int)<=0;omega,by show(0:Int)<=(((dq a b).T.length:Nat):Int);omega⟩;have r:(∃s∈h.K,s.Q=(dq a b).a3)/\∃s∈h.K,s.Q=(dq a b).a2:=by
   unfold dq;split
   ·exact⟨⟨b,o,rfl⟩,⟨a,n,rfl⟩⟩
   exact⟨⟨a,n,rfl⟩,⟨b,o,rfl⟩⟩
  exact⟨{g with nums:=c,job:=λ_=>⟨p,r⟩,noj:=λe=>by cases e},rfl,rfl⟩
def aY.objSz(a:aY h E):∀o∈h.O,0<=o.o/\o.o<=1000:=λx c=>by
 rcases a.oow x c with⟨s,d,e,f⟩|⟨l,b,g,i⟩
 ·have j:=aC (a.L.sok s d)
  have:=wQ (n:=x.o) ω;omega
 have k:=bV (a.L.lok l b);omega
def LX(t:Int){size:Int}(c:aY h [])(d:9<=size/\size<=1000):largeA h t size=if(Mn h size).2<0 then((Mn h size).1,-1,4) else(addO (Mn h size).1 (Mn h size).2 size t,(Mn h size).2,0):=by
 unfold largeA Mn;by_cases a:(au h.w (gQ size:Nat)).2.2=false
 ·rw[CD a,CD a]
  exact(CD (show(-1:Int)<0 by decide)).symm
 rw[CB a,CB a];obtain⟨e,-⟩:=kg c (show(1:Int)<=(gQ size:Nat) by unfold gQ;omega) (by simpa using a);by_cases b:(dR h size).2=gQ size
 ·rw[CD b,CD b]
  exact(CB (show ¬16*(au h.w (gQ size:Nat)).2.1<0 by omega)).symm
 rw[CB b,CB b];exact(CD (show(-1:Int)<0 by decide)).symm
def Aa(h:ab)(t size:Int)(k:aY h []):zzB 71 false [.ptr (bA h),.val none [I t],.val none [I size]] [.ptr (bA (allocH h t size).1),.val none [I t],.val none [I size]] (.tup [none,none]) [I (allocH h t size).2.1,I (allocH h t size).2.2]:=by
 have X:=k.lens;have hlc:=X.caches;have P:=X.objs;have p:=k.nums;unfold cq at p;rw[C0]at p;have Q:=um k.objSz h.O.length (W3 _);change 0<=uM h/\uM h<=_ at Q;have n:=aI t 0 ((h.S.length:Int) - 1);have r:=aI size 1 1000;have E:=zf h k.objSz ω;have F:=kY size;refine fM 119 [(236,[2,0,0]),(237,[2,0])] [(7,10,[36,37,38,39,40,41,42,43,44,45]),(18,272,[81,82,83,84,85,86,87,89,90,91,92,93,94,95,96,97,0,1,2,3,4,5,6,8,9,10,11,12,13,14,15,16,1016,7,1008,1009,1010,1011,1012,1013,1014,1015,1016,17,18]),(1048594,0,[8])] [(0,0),(0,0),(0,0)] Tryz.func71 rfl (λu q=>?_) (.inr ⟨trivial,trivial,trivial⟩);unfold allocH;by_cases h1:1000000<=h.d
 ·rw[CD (.inl h1)]
  repeat'(first|refine gE ?_|fail)
  refine CK rfl rfl ?_;exact wC
 by_cases h2:90000<h.G.Calls
 ·rw[CD (.inr h2)]
  repeat'(first|refine gE ?_|(conv=>whnf);with_reducible refine Bf.D (λb=>?_) (λb=>?_))
  refine CK rfl rfl ?_;exact wC
 rw[CB ω];by_cases C:¬(0<=t/\t<=h.S.length - 1)
 ·rw[CD C]
  rw[W0 C]at n
  repeat'(first|refine gE ?_|(conv=>whnf);first|with_reducible refine Bf.D (λb=>?_) (λb=>?_)|refine C9 (n) ?_)
  refine CK rfl rfl ?_;exact wC
 rw[CB C];replace C:=Decidable.not_not.1 C;rw[O0 C]at n;by_cases B:¬(1<=size/\size<=1000)
 ·rw[CD B]
  rw[W0 B]at r
  repeat'(first|refine gE ?_|(conv=>whnf);first|with_reducible refine Bf.D (λb=>?_) (λb=>?_)|refine C9 (n) ?_|refine C9 (r) ?_)
  refine CK rfl rfl ?_;exact wC
 rw[CB B];replace B:=Decidable.not_not.1 B;rw[O0 B]at r;by_cases Y:h.c4<uM h+size
 ·rw[CD Y]
  repeat'(first|refine gE ?_|(conv=>whnf);first|with_reducible refine Bf.D (λb=>?_) (λb=>?_)|refine C9 (n) ?_|refine C9 (r) ?_|refine CL (E) ⟨⟨rfl,bI h⟩,trivial⟩ ?_)
  refine CK rfl rfl ?_;exact wC
 rw[CB Y];by_cases G:0<=aJ size
 ·rw[CD G]
  have hc3:aJ size<=3:=by unfold aJ;repeat' split<;>omega
  obtain⟨T,rfl⟩:=O3 C.1;obtain⟨K,hK⟩:=O3 G;have o:=Ai h T K k ω ω ω;have s:=vb (t:=T) (c:=K) k ω ω ω;rw[hK]at F |-;simp only[I3];generalize smallA h T K=w at o s |-;obtain⟨g,a⟩:=w;have H:g.d=h.d:=s.nx;simp only at o |-;by_cases J:a<0
  ·rw[CD J]
   repeat'(first|refine gE ?_|(conv=>whnf);first|with_reducible refine Bf.D (λb=>?_) (λb=>?_)|refine C9 (n) ?_|refine C9 (r) ?_|refine CL (E) ⟨⟨rfl,bI h⟩,trivial⟩ ?_|refine C9 (F) ?_|refine CM (o) (.inl rfl) ?_)
   refine CK rfl rfl ?_;exact wC
  rw[CB J];obtain⟨k1,k2⟩:=s.yes (show(0:Int)<=a by omega);have R:g.O.length<=512:=k1.lens.objs
  repeat'(first|refine gE ?_|(conv=>whnf);first|with_reducible refine Bf.D (λb=>?_) (λb=>?_)|refine C9 (n) ?_|refine C9 (r) ?_|refine CL (E) ⟨⟨rfl,bI h⟩,trivial⟩ ?_|refine C9 (F) ?_|refine CM (o) (.inl rfl) ?_)
  (conv=>whnf)
  refine CH (ι:=Nat) (λi=>[(0,.H .box (bA g)),(1,.H .one [I ((T:Nat):Int)]),(2,.H .one [I (size)]),(8,.H .one [I (a)]),(9,.H .one [I ((i:Nat):Int)])]) (λi=>i<=g.O.length/\∀(j:Nat)(z:bn),j<i->g.O[j]? = some z->Qy a z=false) (λi=>g.O.length - i) (0) ?_ (⟨X0 _,λj z hj=>ω⟩) λi k=>?_
  ·exact wC
  obtain⟨S,L⟩:=k;by_cases U:i<g.O.length/\(nth g.O i).Addr<a
  ·have d:=ao U.1
   repeat'(first|refine gE ?_|fail)
   ((conv=>whnf);refine CG (i+1) ⟨ω,dt d (W0 ω) L⟩ ω ?_;(exact wC))
  have l:ly (Qy a) g.O=i:=wG ω L λz M=>by
   have V:=(X2.1 M).1;have:z=nth g.O i:=(bm M).symm;subst this;exact O0 ω
  have d:i<g.O.length->g.O[i]? = some (nth g.O i):=λW=>ao W
  rw[show addO g a size (T:Nat) = {g with O:=g.O.take i++⟨g.d,a,size,(T:Nat)⟩::g.O.drop i,d:=g.d+1} by unfold addO;rw[wL l]]
  repeat'(first|refine gE ?_|(conv=>whnf);first|with_reducible (first|refine CF (aa (d ω)) ?_|refine Bf.D (λb=>?_) (λb=>?_))|refine CJ rfl (aa (d ω)) rfl ?_|refine HH.mk rfl (Db g.O) rfl ?_|refine CZ i rfl (by rw[I1];omega) (aT λ_=>rfl) X4 ?_|refine Sl.suf i rfl (by rw[I1];omega) (aT λ_=>rfl) Y4 ?_|refine CR (λ_=>rfl) (λ_=>rfl) (by rw[Z1];omega) (by decide) ?_|refine Ap.sn (aT λ_=>rfl) rfl (by rw[I1,Z1];omega) (by decide) rfl ?_|refine Ap.ins (e:=bn.enc .U) (y:=⟨g.d,a,size,(T:Nat)⟩) rfl (λ_=>rfl) (λ_=>rfl) ω (by decide) ?_)
  all_goals
   refine CK rfl rfl ?_;exact wC
 rw[CB G];have N:9<=size:=by unfold aJ at G;repeat' split at G<;>omega
 have o:=zl h size k ⟨N,B.2⟩ ω;rw[LX t k ⟨N,B.2⟩];have Z:(Mn h size).1.d=h.d/\(Mn h size).1.O=h.O:=by
  unfold Mn;split
  ·exact⟨rfl,rfl⟩
  split<;>exact⟨rfl,rfl⟩
 generalize Mn h size=w at o Z |-;obtain⟨g,a⟩:=w;obtain⟨H,O⟩:=Z;simp only at o H O |-;have R:g.O.length<=512:=by rw[O];exact P
 by_cases J:a<0
 ·rw[CD J]
  repeat'(first|refine gE ?_|(conv=>whnf);first|with_reducible refine Bf.D (λb=>?_) (λb=>?_)|refine C9 (n) ?_|refine C9 (r) ?_|refine CL (E) ⟨⟨rfl,bI h⟩,trivial⟩ ?_|refine C9 (F) ?_|refine CM (o) (.inl rfl) ?_)
  refine CK rfl rfl ?_;exact wC
 rw[CB J]
 repeat'(first|refine gE ?_|(conv=>whnf);first|with_reducible refine Bf.D (λb=>?_) (λb=>?_)|refine C9 (n) ?_|refine C9 (r) ?_|refine CL (E) ⟨⟨rfl,bI h⟩,trivial⟩ ?_|refine C9 (F) ?_|refine CM (o) (.inl rfl) ?_)
 (conv=>whnf)
 refine CH (ι:=Nat) (λi=>[(0,.H .box (bA g)),(1,.H .one [I (t)]),(2,.H .one [I (size)]),(8,.H .one [I (a)]),(9,.H .one [I ((i:Nat):Int)])]) (λi=>i<=g.O.length/\∀(j:Nat)(z:bn),j<i->g.O[j]? = some z->Qy a z=false) (λi=>g.O.length - i) (0) ?_ (⟨X0 _,λj z hj=>ω⟩) λi k=>?_
 ·exact wC
 obtain⟨S,L⟩:=k;by_cases U:i<g.O.length/\(nth g.O i).Addr<a
 ·have d:=ao U.1
  repeat'(first|refine gE ?_|fail)
  ((conv=>whnf);refine CG (i+1) ⟨ω,dt d (W0 ω) L⟩ ω ?_;(exact wC))
 have l:ly (Qy a) g.O=i:=wG ω L λz M=>by
  have V:=(X2.1 M).1;have:z=nth g.O i:=(bm M).symm;subst this;exact O0 ω
 have d:i<g.O.length->g.O[i]? = some (nth g.O i):=λW=>ao W
 rw[show addO g a size t = {g with O:=g.O.take i++⟨g.d,a,size,t⟩::g.O.drop i,d:=g.d+1} by unfold addO;rw[wL l]]
 repeat'(first|refine gE ?_|(conv=>whnf);first|with_reducible (first|refine CF (aa (d ω)) ?_|refine Bf.D (λb=>?_) (λb=>?_))|refine CJ rfl (aa (d ω)) rfl ?_|refine HH.mk rfl (Db g.O) rfl ?_|refine CZ i rfl (by rw[I1];omega) (aT λ_=>rfl) X4 ?_|refine Sl.suf i rfl (by rw[I1];omega) (aT λ_=>rfl) Y4 ?_|refine CR (λ_=>rfl) (λ_=>rfl) (by rw[Z1];omega) (by decide) ?_|refine Ap.sn (aT λ_=>rfl) rfl (by rw[I1,Z1];omega) (by decide) rfl ?_|refine Ap.ins (e:=bn.enc .U) (y:=⟨g.d,a,size,t⟩) rfl (λ_=>rfl) (λ_=>rfl) ω (by decide) ?_)
 all_goals
  refine CK rfl rfl ?_;exact wC
def Jk(h:ab)(a n:Int)(t:h.M.length<=4096)(j:∀l∈h.M,bF l=true)(o:zU h a<0):zzB 531 false [.ptr (bA h),.val none [I a],.val none [I n]] [.ptr (bA h),.val none [I a],.val none [I n]] .one [B false]:=by
 have b:∀l∈h.M,l.Q*16≠a:=λl c e=>by
  have:=F9 (p:=KN a) c (O0 e);unfold zU at o;omega
 refine fM 136 [(388,[2,0])] [(8,6,[49,50,51,52,53,54]),(9,10,[56,57,58,59,60,61,62,63,64,65]),(20,270,[123,124,125,126,127,128,129,130,131,122,132,133,134,135,0,1,2,3,4,5,6,7,8,9,10,11,12,13,14,1011])] [(0,0),(0,0),(0,0)] Tryz.func531 rfl (λu q=>?_)
 repeat'(first|refine gP ?_|fail)
 (conv=>whnf)
 refine CH (ι:=Nat) (λk=>[(0,.H .box (bA h)),(1,.H .one [I (a)]),(2,.H .one [I (n)]),(7,.H .one [I ((k:Nat):Int)])]) (λk=>k<=h.M.length) (λk=>h.M.length - k) (0) ?_ (X0 _) λk w=>?_
 ·repeat'(first|exact trivial|rfl |exact ov r|exact ov g|exact dZ _|refine CN ?_ ?_|(exact DS (by first|omega|(simp only;omega)|(simp;omega))))
 by_cases d:k<h.M.length
 ·have i:=ao d
  have y:=b _ (am d);have C:=aM (j _ (am d))
  repeat'(first|refine gB ?_|fail)
  ((conv=>whnf);refine CG (k+1) ω ω ?_;(exact wC))
 repeat'(first|refine gE ?_|fail)
 refine CK rfl rfl ?_;exact wC
def TD(h:ab)(a:Int)(m:Nat):bA {h with G:=zK h.G a (m+1)} = (bA {h with G:=zK h.G a m}).set 0 (.s .own (((zK h.G a m).F.W.T.map (aD .own)).set (ac (zK h.G a m).F.R ((a+m) / 16)).j.toNat ((aD .own (nth (zK h.G a m).F.W.T (cY (zK h.G a m) (a+m)))).set 0 (.s .own (((nth (zK h.G a m).F.W.T (cY (zK h.G a m) (a+m))).map (rI .own)).set ((a+m) % 16).toNat (splice (rI .own (nth (nth (zK h.G a m).F.W.T (cY (zK h.G a m) (a+m))) ((a+m) % 16).toNat)) 0 [I 0])))))):=
 JV {h with G:=zK h.G a m} (a+m) 0
def mB(h:ab)(i k:Nat)(n:Int)(K:ah):ab:={h with G:=K,M:=h.M.set k (trimL (nth h.M k) n),O:=h.O.set i {nth h.O i with o:=n}}
def Lh(h:ab)(i k:Nat)(n:Int)(K:ah):(mB h i k n K).O.map (bn.enc .own)=(h.O.map (bn.enc .own)).set i (splice (bn.enc .own (nth h.O i)) 2 [I n]):=by
 simp[mB,C7,bn.enc,splice]
def tH(h:ab)(i:Nat)(n:Int)(j:aY h [])(H:i<h.O.length)(hg:0<=zU h (nth h.O i).Addr):zzB 531 false [.ptr (bA h),.val none [I (nth h.O i).Addr],.val none [I n]] [.ptr (bA (if m8 h i n then trimH h i (zU h (nth h.O i).Addr).toNat n else h)),.val none [I (nth h.O i).Addr],.val none [I n]] .one [B (decide (m8 h i n))]:=by
 have c:=j.lens;have hnl:=c.larges;have hno:=c.objs;have hpg:dQ h<=32:=c.ents;obtain⟨f1,f2,f3⟩:=fR (KN (nth h.O i).Addr) h.M hg;obtain⟨g,o⟩:=O3 hg;have b:g<h.M.length:=by unfold zU at o;omega
 have Y:(nth h.M g).Q*16=(nth h.O i).Addr:=by
  have:=of_decide_eq_true f2;rw[show(cu (KN (nth h.O i).Addr) h.M).toNat=g by unfold zU at o;omega]at this;exact this
 have J:∀k,k<g->(nth h.M k).Q*16≠(nth h.O i).Addr:=λk hk e=>by
  have N:k<h.M.length:=ω
  have hok1:=aM (j.L.lok _ (am N));have hok2:=aM (j.L.lok _ (am b));have:=j.L.one k g N b 0 0 ω ω ω;omega
 have p:m8 h i n↔9<=n/\n<=(nth h.M g).o:=by
  unfold m8;rw[o,I3];exact⟨λx=>x.2,λx=>⟨ω,x⟩⟩
 rw[o,I3];have hbd:=tP j (am H);obtain⟨-,Z,w⟩:=j.objAt (am H);have hii:pC h (nth h.O i).Addr=i:=by
  have h2:=(j.objAt (am H)).1;exact cU (f:=(·.Addr)) (db j.osr) h2 H (by rw[Z])
 rw[hii]at w;have E:=ao H;have hxg:=ao b;have V:=xY (nth h.M g) n (j.L.lok _ (am b));have h8:=j.L.lok _ (am b);unfold bF at h8;rw[C0]at h8;refine fM 136 [(388,[2,0])] [(8,6,[49,50,51,52,53,54]),(9,10,[56,57,58,59,60,61,62,63,64,65]),(20,270,[123,124,125,126,127,128,129,130,131,122,132,133,134,135,0,1,2,3,4,5,6,7,8,9,10,11,12,13,14,1011])] [(0,0),(0,0),(0,0)] Tryz.func531 rfl (λu q=>?_)
 repeat'(first|refine gP ?_|fail)
 (conv=>whnf)
 refine CH (ι:=Nat) (λk=>[(0,.H .box (bA h)),(1,.H .one [I ((nth h.O i).Addr)]),(2,.H .one [I (n)]),(7,.H .one [I ((k:Nat):Int)])]) (λk=>k<=g) (λk=>g - k) (0) ?_ (X0 _) λk hk=>?_
 ·repeat'(first|exact trivial|rfl |exact ov r|exact ov d|exact dZ _|refine CN ?_ ?_|(exact DS (by first|omega|(simp only;omega)|(simp;omega))))
 have l:=ao (xs:=h.M) (i:=k) ω;have hfk:=aM (j.L.lok _ (am (xs:=h.M) (i:=k) ω));by_cases e:k=g;rotate_left
 ·have hne:=J k ω
  repeat'(first|refine gB ?_|fail)
  ((conv=>whnf);refine CG (k+1) ω ω ?_;(exact wC))
 subst e;by_cases F:9<=n/\n<=(nth h.M k).o;rotate_left
 ·rw[CB (by rw[p];exact F),W0 (by rw[p];exact F)]
  rw[CB F]at V
  repeat'(first|refine gB ?_|(conv=>whnf);refine C9 (V) ?_)
  refine CK rfl rfl ?_;exact wC
 rw[CD (by rw[p];exact F),O0 (by rw[p];exact F)];rw[CD F]at V;have y:=λm hm=>yD j b F (m:=m) hm
 have D:=λm=>(oc h.G (16*(nth h.M k).Q+n) m).1
 have O:=λa W=>kB j b (a:=a) W
 have hsz:n<=16*(nth h.M k).a1:=ω
 generalize hM:(16*((n+15) / 16) - n).toNat=M at *;have hfl:∀m,(zK h.G (16*(nth h.M k).Q+n) m).F.W.T.length=h.G.F.W.T.length:=λm=>by
  induction m with
  | zero=>rfl
  | succ m ih=>show(List.set _ _ _).length=_;rw[W1];exact ih
 have cO:=rF {h with M:=h.M.set k (trimL (nth h.M k) n)} (nth h.O i).Addr (by show h.O.length<=_;omega);change ar _ _ _ [.val (some 24) (ab.enc .U {h with M:=h.M.set k (trimL (nth h.M k) n)}),_] _ [I (cu (mF (nth h.O i).Addr) h.O)]at cO;rw[w]at cO;have Q:=bI {h with M:=h.M.set k (trimL (nth h.M k) n)};have heL:bA {h with M:=h.M.set k (trimL (nth h.M k) n)} = (bA h).set 7 (.s .own ((h.M.map (a7.enc .own)).set k (a7.enc .own (trimL (nth h.M k) n)))):=by simp[bA,C7]
 rw[heL]at Q
 repeat'(first|refine gB ?_|(conv=>whnf);first|with_reducible refine CF (aa E) ?_|refine C9 (V) ?_|refine CS rfl rfl (aa l) rfl (O1 rfl) rfl ?_|refine CL (cO) ⟨⟨rfl,Q⟩,⟨rfl,rfl⟩,trivial⟩ ?_|refine CS rfl rfl (aa E) rfl (O1 rfl) rfl ?_|refine CJ rfl (aa E) rfl ?_)
 rw[<-Y];have e0:mB h i k n h.G=mB h i k n (zK h.G (16*(nth h.M k).Q+n) 0):=rfl;have r:C.s .own ((mB h i k n (zK h.G (16*(nth h.M k).Q+n) 0)).M.map (a7.enc .own))=C.s .own ((h.M.map (a7.enc .own)).set k (a7.enc .own (trimL (nth h.M k) n))):=by simp[mB,C7]
 have d:C.s .own ((mB h i k n (zK h.G (16*(nth h.M k).Q+n) 0)).O.map (bn.enc .own))=C.s .own ((h.O.map (bn.enc .own)).set i (splice (bn.enc .own (nth h.O i)) 2 [I n])):=Z0 _ (Lh h i k n _)
 (conv=>whnf)
 refine CH (ι:=Nat) (λm=>[(0,.H .box (bA (mB h i k n (zK h.G (16*(nth h.M k).Q+n) m)))),(1,.H .one [I (((nth h.M k).Q*16))]),(8,.H .box (a7.enc .own (trimL (nth h.M k) n))),(9,.H .box (aB.enc .own (yv (nth h.M k) n))),(11,.H .one [I (((16*(nth h.M k).Q+n)+(m:Nat)))])]) (λm=>m<=M) (λm=>M - m) (0) ?_ (X0 _) λm hm=>?_
 ·repeat'(first|exact trivial|rfl |exact ov r|exact ov d|exact dZ _|refine CN ?_ ?_|(exact DS (by first|omega|(simp only;omega)|(simp;omega))))
 have hmod:IntKind.i64.wrap 0=0:=rfl;by_cases lm:m<M
 ·have W:0<=(16*(nth h.M k).Q+n)+(m:Nat)/\(16*(nth h.M k).Q+n)+(m:Nat)<512:=ω
  have R:=O ((16*(nth h.M k).Q+n)+(m:Nat)) ω;have t:=y m hm;rw[<-D m]at R;have hks:=bO t;have c2:=du (zK h.G (16*(nth h.M k).Q+n) m).F.R (((16*(nth h.M k).Q+n)+(m:Nat)) / 16) hks.1.2;obtain⟨-,-,-,q0,q1⟩:=cj t R;have hul:=(bc.1 (aG.1 t).2.1).2.2.1;have S:cY (zK h.G (16*(nth h.M k).Q+n) m) ((16*(nth h.M k).Q+n)+(m:Nat))<(zK h.G (16*(nth h.M k).Q+n) m).F.W.T.length:=by unfold cY;omega
  have G:(zK h.G (16*(nth h.M k).Q+n) m).F.W.T[(ac (zK h.G (16*(nth h.M k).Q+n) m).F.R (((16*(nth h.M k).Q+n)+(m:Nat)) / 16)).j.toNat]? = some _:=ao S;have h16:=(uU t S).1;have T:=ao (xs:=nth (zK h.G (16*(nth h.M k).Q+n) m).F.W.T (cY (zK h.G (16*(nth h.M k).Q+n) m) ((16*(nth h.M k).Q+n)+(m:Nat)))) (i:=(((16*(nth h.M k).Q+n)+(m:Nat)) % 16).toNat) (by rw[h16];omega);have htm:((16*(nth h.M k).Q+n)+(m:Nat)).tmod 16=((16*(nth h.M k).Q+n)+(m:Nat)) % 16:=fF W.1;have hpu:=TD (mB h i k n h.G) (16*(nth h.M k).Q+n) m;have hwr:=qW W;have hst:(trimL (nth h.M k) n).a1=(n+15) / 16:=rfl
  repeat'(first|refine gE ?_|(conv=>whnf);first|refine CQ (by decide) ?_|refine CO hwr ?_|refine CX htm ?_|refine CL (c2) ⟨⟨rfl,Cc _⟩,⟨rfl,rfl⟩,trivial⟩ ?_|refine CP q0 (aa G) ?_|refine CJ rfl (aa G) rfl ?_|refine CP ω (aa T) ?_|refine Pu.two rfl rfl (aa G) rfl rfl rfl (aa T) rfl (W3 _) hpu ?_)
  ((conv=>whnf);refine CG (m+1) ω ω ?_;(exact wC))
 obtain rfl:m=M:=ω
 have hst:(trimL (nth h.M k) n).a1=(n+15) / 16:=rfl;have hkM:=y m (W3 _);have U:(zK h.G (16*(nth h.M k).Q+n) m).F.R.J.length=dQ h:=by rw[D];rfl
 have hTK:kR h k n=zK h.G (16*(nth h.M k).Q+n) m:=by unfold kR;rw[hM]
 unfold trimH Kg;rw[hTK];generalize zK h.G (16*(nth h.M k).Q+n) m=K at *;have hN:((dE (nth h.M k) n:Nat):Int)=(nth h.M k).a1 - (n+15) / 16:=by unfold dE;omega
 have hrA:0<dE (nth h.M k) n->yv (nth h.M k) n = ⟨(nth h.M k).Q+(n+15) / 16,(dE (nth h.M k) n:Nat)⟩:=λhp=>by unfold yv;rw[CD ω,hN]
 have hrB:¬0<dE (nth h.M k) n->yv (nth h.M k) n = ⟨0,0⟩:=λhp=>by unfold yv;rw[CB ω]
 generalize dE (nth h.M k) n=P at *;by_cases X:0<P
 ·rw[CD X]
  have hr:=hrA X;rw[hr]
  repeat'(first|refine gE ?_|fail)
  (conv=>whnf)
  refine CH (ι:=Nat) (λx=>[(0,.H .box (bA (mB h i k n (unmN K ((nth h.M k).Q+(n+15) / 16) x)))),(9,.H .box ([I ((nth h.M k).Q+(n+15) / 16),I (P:Nat)])),(13,.H .one [I (((nth h.M k).Q+(n+15) / 16+(x:Nat)))])]) (λx=>x<=P) (λx=>P - x) (0) ?_ (X0 _) λx l=>?_
  ·repeat'(first|exact trivial|rfl |exact ov r|exact ov d|exact dZ _|refine CN ?_ ?_|(exact DS (by first|omega|(simp only;omega)|(simp;omega))))
  by_cases lx:x<P
  ·have c3:=nU (mB h i k n (unmN K ((nth h.M k).Q+(n+15) / 16) x)) ((nth h.M k).Q+(n+15) / 16+(x:Nat)) (jf hkM _ _)
   repeat'(first|refine gE ?_|(conv=>whnf);refine CM (c3) (.inl rfl) ?_)
   ((conv=>whnf);refine CG (x+1) ω ω ?_;(exact wC))
  obtain rfl:x=P:=ω
  have c4:=i6 (mB h i k n (unmN K ((nth h.M k).Q+(n+15) / 16) x));rw[show dQ (mB h i k n (unmN K ((nth h.M k).Q+(n+15) / 16) x))=dQ h from(fN _ _ _).1.trans U]at c4;have c5:=mW (dQ h:Nat) h.w ⟨(nth h.M k).Q+(n+15) / 16,(x:Nat)⟩ ⟨ω,ω⟩ ⟨by have:=c.free;omega,λ_ _=>trivial⟩
  repeat'(first|refine gE ?_|(conv=>whnf);first|refine CL (c4) ⟨bI _,trivial⟩ ?_|refine CL (c5) ⟨⟨rfl,rfl⟩,⟨rfl,eN h.w⟩,⟨rfl,rfl⟩,trivial⟩ ?_)
  refine CK rfl rfl ?_;exact wC
 rw[CB X];obtain rfl:P=0:=ω
 have hr:=hrB X;rw[hr]
 repeat'(first|refine gE ?_|fail)
 (conv=>whnf)
 refine CH (ι:=Nat) (λx=>[(0,.H .box (bA (mB h i k n K))),(9,.H .box ([I 0,I 0])),(13,.H .one [I (0)])]) (λx=>x=0) (λx=>0) (0) ?_ (rfl) λx l=>?_
 ·repeat'(first|exact trivial|rfl |exact ov r|exact ov d|exact dZ _|refine CN ?_ ?_|(exact DS (by first|omega|(simp only;omega)|(simp;omega))))
 subst l
 repeat'(first|refine gE ?_|fail)
 refine CK rfl rfl ?_;exact wC
def E7(a:α)(k:Nat):List.replicate (k+1) a=List.replicate k a++[a]:=List.replicate_succ' ..
def Hh(n k:Nat):aU.enc .own ⟨List.replicate k (List.replicate 16 0),List.replicate n false⟩ = [.s .own (List.replicate k [.s .own (List.replicate 16 [I 0])]),.s .own (List.replicate n [B false])]:=by
 simp[aU.enc,aD,rI,rB,List.map_replicate]
def JA(n:Nat):N0 [.s .own (List.replicate n [.z]),.s .own (List.replicate n [.z]),B true] (aL.enc .own (eD n)++[B true]):=by
 have e:aL.enc .own (eD n)++[B true]=[.s .own (List.replicate n [.s .own []]),.s .own (List.replicate n [.s .own []]),B true]:=by simp[aL.enc,eD,cF,aD,List.map_replicate]
 rw[e];exact .cons (.rep (.cons .z_ .nil)) (.cons (.rep (.cons .z_ .nil)) (.cons (.rfl_ _) .nil))
def Q7(n:Nat)(b:1<=n/\n<=4):zzA 215 false [.val none [I (n:Nat)]] (.tup [some 2,none]) (aL.enc .own (eD n)++[B true]):=by
 have a:=aO ((n:Nat):Int) 1 4;rw[O0 ω]at a;refine fO 13 [(3,4,[8,9,10,11])] Tryz.func215 rfl ?_ (.inr (bg (aL.enc_fr _) ⟨trivial,trivial⟩))
 repeat'((conv=>whnf);first|with_reducible (first|refine Lm ?_|refine Wm ω ?_|refine Bn ?_|refine kC.dk rfl ?_)|refine Bt ?_|refine Bu ?_|refine CE ?_|refine C9 (a) ?_|refine Mk.mk n rfl rfl ω (wZ ω (by decide)) rfl ?_)
 exact JA n
def Dz(n:Nat)(b:1<=n/\n<=4):zzA 524 false [.val none [I (n:Nat)]] (.tup [some 2,none]) (aL.enc .own (eD n)++[B true]):=by
 have a:=aI ((n:Nat):Int) 1 4;rw[O0 ω]at a;refine fO 13 [(3,4,[8,9,10,11])] Tryz.func524 rfl ?_ (.inr (bg (aL.enc_fr _) ⟨trivial,trivial⟩))
 repeat'((conv=>whnf);first|with_reducible (first|refine Lm ?_|refine Wm ω ?_|refine Bn ?_|refine kC.dk rfl ?_)|refine Bt ?_|refine Bu ?_|refine CE ?_|refine C9 (a) ?_|refine Mk.mk n rfl rfl ω (wZ ω (by decide)) rfl ?_)
 exact JA n
def Ng:N0 [.s .own (List.replicate 4 [.z])] (a8.enc .own fQ):=.cons (.rep (.cons .z_ .nil)) .nil
def zZ:zzA 525 false [] .agg (a8.enc .own fQ):=by
 refine fO 3 [] Tryz.func525 rfl ?_ (.inr (a8.enc_fr _))
 repeat'((conv=>whnf);first|with_reducible (first|refine Lm ?_|refine Wm ω ?_|refine Bn ?_|refine kC.dk rfl ?_)|refine Bt ?_|refine Bu ?_|refine CE ?_|refine Mk.mk 4 rfl rfl (by decide) (by decide) rfl ?_)
 exact Ng
def tJ:zzA 526 false [.val none [I 16]] (.tup [some 2,none]) (bM.enc .own ⟨16,[]⟩++[B true]):=by
 refine fO 10 [] Tryz.func526 rfl ?_ (.inr (bg (bM.enc_fr _) ⟨trivial,trivial⟩))
 repeat'((conv=>whnf);first|with_reducible (first|refine Lm ?_|refine Wm ω ?_|refine Bn ?_|refine kC.wk rfl ?_)|refine Bt ?_|refine Bu ?_|refine CE ?_|refine C9 (aI 16 0 500) ?_)
 exact⟨rfl,rfl,rfl,trivial⟩
def caps(h:ab)(k:Nat):ab:={h with S:=List.replicate k fQ}
def Lb(k:Nat):(List.replicate (k+1) fQ).map (a8.enc .own)=(List.replicate k fQ).map (a8.enc .own)++[a8.enc .own fQ]:=by rw[E7,W6];rfl
def N5{k:Nat} : ∀r∈(List.replicate k fQ).map (a8.enc .own),r.length=1:=aT λ_=>rfl
def RG(x:List aX):fz (.s .own (x.map (aX.enc .own)))=.s .U (x.map (aX.enc .U)):=(List.cons.inj (List.cons.inj (Ce ⟨0,x⟩)).2).1
def fA:∀a b:List C,eH (a++b)=eH a++eH b
 | [],_=>rfl
 | x::xs,b=>by show fz x::eH (xs++b)=fz x::(eH xs++eH b);rw[fA xs b]
def eM(r:ay)(c:ay.sml r):zzA 458 false [.val (some 2) (ay.enc .U r)] .agg (ay.enc .own r):=by
 have e:r.O.length<=1048576:=c.1;refine fO 36 [(5,272,[15,16,17,18,19,20,21,22,23,24,25,26,27,28,29,34,0,1,2,3,4,5,6,7,8,9,10,11,12,13,14,15,1000,1001,1002,1003,1004,1005,1006,1007,16,1000,1001,17,1000,1001,18,19,20])] Tryz.func458 rfl ?_ (.inr (ay.enc_fr _))
 repeat'(first|refine gP ?_|fail)
 (conv=>whnf)
 refine CH (ι:=Nat) (λi=>[(1,.H .box (ay.enc .U r)),(2,.H .box [I 0,.z]),(3,.H .box [I r.d,.s .own ((r.O.take i).map (aX.enc .own))]),(4,.H .one [I ((i:Nat):Int)])]) (λi=>i<=r.O.length) (λi=>r.O.length - i) (0) ?_ (X0 _) λi g=>?_
 ·exact wC
 by_cases b:i<r.O.length
 ·have d:=ao b
  have a:(nth r.O i).T.length<=1048576:=c.2 _ (am b)
  repeat'(first|refine gE ?_|(conv=>whnf);first|refine CY (λ_=>rfl) (λ_=>rfl) a (by decide) ?_|refine CR (λ_=>rfl) (λ_=>rfl) a (by decide) ?_|refine Ap.sn (aT λ_=>rfl) rfl (by simp;omega) (by decide) (fj b) ?_)
  ((conv=>whnf);refine CG (i+1) ω ω ?_;(exact wC))
 repeat'(first|refine gE ?_|fail)
 obtain rfl:i=r.O.length:=ω
 rw[Y5]
 rfl
def iJ(r:ay)(id:Int)(g:r.O.length<=1048576):zzA 565 false [.val (some 2) (ay.enc .U r),.val none [I id]] .one [I (pf r id)]:=by
 refine fO 22 [] Tryz.func565 rfl ?_
 repeat'(first|refine gP ?_|fail)
 (conv=>whnf)
 refine CH (ι:=Nat) (λi=>[(1,.H .one [I (id)]),(2,.H .box (ay.enc .U r)),(5,.H .one [I ((i:Nat):Int)])]) (λi=>i<=r.O.length/\∀(j:Nat)(z:aX),j<i->r.O[j]? = some z->oF id z=false) (λi=>r.O.length - i) (0) ?_ (⟨X0 _,λj z h=>ω⟩) λi c=>?_
 ·exact wC
 obtain⟨c,b⟩:=c;by_cases d:i<r.O.length
 ·have a:=ao d
  by_cases e:(nth r.O i).Id=id
  ·repeat'(first|refine gB ?_|fail)
   exact Z0 (λz=>[I z]) (dB a (O0 e) b).symm
  repeat'(first|refine gB ?_|fail)
  ((conv=>whnf);refine CG (i+1) ⟨ω,dt a (W0 e) b⟩ ω ?_;(exact wC))
 repeat'(first|refine gE ?_|fail)
 exact Z0 (λz=>[I z]) (fy ω b).symm
def nA(r:ay)(c:C)(h:Uh c):iD (ay.enc .own r++[c]):=bg (ay.enc_fr _) ⟨h,trivial⟩
def zm(r:ay)(n:Int)(m:Nat)(b:sZ r m)(h:m<=1000)(c:1<=n/\n<=1000):zzA 451 false [.val (some 2) (ay.enc .U r),.val none [I n]] (.tup [some 2,none]) (ay.enc .U (jh r n)++[I r.d]):=by
 have i:=b.sml h;have d:=b.len;have j:=b.nx;have k:=eM r i;have e:=aI n 1 1000;rw[O0 c]at e;have key:zzA 451 false [.val (some 2) (ay.enc .U r),.val none [I n]] (.tup [some 2,none]) (ay.enc .own (jh r n)++[I r.d]):=by
  have a:=nA (jh r n) (I r.d) trivial;unfold jh at a |-;rw[CD c]at a |-;have l:ay.enc .own {r with d:=r.d+1,O:=r.O++[⟨r.d,List.replicate n.toNat 0⟩]} = [I (r.d+1),.s .own (r.O.map (aX.enc .own)++[[I r.d,.s .own (List.replicate n.toNat [I 0])]])]:=by
   simp[ay.enc,aX.enc,rI]
  rw[l]at a |-;refine fO 30 [(4,263,[13,14,15,16,17,18,22,0,1,2,3,4,5,6,1000,1001,7,1000,1001,8,9,10]),(6,259,[27,28,29,0,1,2,3,1001,1002,4])] Tryz.func451 rfl ?_ (.inr a)
  repeat'(first|refine gP ?_|(conv=>whnf);first|refine C9 (k) ?_|refine C9 (e) ?_|refine Mk.mk n.toNat ω ω ω (wZ ω (by decide)) rfl ?_|refine Ap.sn (aT λ_=>rfl) rfl (by simp;omega) (by decide) rfl ?_)
  (conv=>whnf)
  rfl
 have g:=key.fzR;rw[fA,Ce]at g;exact g
def DI(r:ay)(id:Int)(m:Nat)(d:sZ r m)(k:m<=1000):zzA 528 true [.val (some 2) (ay.enc .U r),.val none [I id]] (.tup [some 2,none]) (ay.enc .U (jT r id)++[B (!decide (pf r id<0))]):=by
 have g:=d.sml k;have h:=d.len;have i:=eM r g;have b:=iJ r id g.1;by_cases e:pf r id<0
 ·have key:zzA 528 true [.val (some 2) (ay.enc .U r),.val none [I id]] (.tup [some 2,none]) (ay.enc .own r++[B false]):=by
   refine fO 30 [(5,267,[16,17,18,19,20,22,23,24,25,26,28,0,1,2,3,4,6,7,8,9,10,5,1006,1007,1008,1009,1010,11,12,13]),(1048581,6,[1])] Tryz.func528 rfl ?_ (.inl rfl)
   repeat'(first|refine gE ?_|(conv=>whnf);first|refine C9 (i) ?_|refine C9 (b) ?_)
   rfl
  have a:=key.fzR;rw[fA,Ce]at a;unfold jT;rw[CD e,O0 e];exact a
 have n:jT r id = {r with O:=dele r.O (pf r id).toNat}:=by unfold jT;rw[CB e]
 obtain⟨t,u,w⟩:=fR (oF id) r.O (by unfold pf at e;omega);obtain⟨j,c⟩:=O3 (show 0<=pf r id by omega);have o:j<r.O.length:=by unfold pf at c;omega
 have key:zzA 528 true [.val (some 2) (ay.enc .U r),.val none [I id]] (.tup [some 2,none]) ([I r.d,.s .own ((dele r.O j).map (aX.enc .U))]++[B true]):=by
  rw[c]at b;refine fO 30 [(5,267,[16,17,18,19,20,22,23,24,25,26,28,0,1,2,3,4,6,7,8,9,10,5,1006,1007,1008,1009,1010,11,12,13]),(1048581,6,[1])] Tryz.func528 rfl ?_ (.inl rfl)
  repeat'(first|refine gE ?_|(conv=>whnf);first|refine C9 (i) ?_|refine C9 (b) ?_|refine HH.mk rfl (RG r.O) rfl ?_|refine CZ j rfl (by rw[I1];omega) (aT λ_=>rfl) X4 ?_|refine Sl.suf (j+1) ω (by rw[I1];omega) (aT λ_=>rfl) Y4 ?_|refine CR (λ_=>rfl) (λ_=>rfl) (by rw[Z1];omega) (by decide) ?_|refine CY (λ_=>rfl) (λ_=>rfl) (by rw[Z1];omega) (by decide) ?_|refine Ap.dele (λ_=>rfl) (λ_=>rfl) ω (by decide) ?_)
  rfl
 have a:=key.fzR;have p:eH ([I r.d,.s .own ((dele r.O j).map (aX.enc .U))]++[B true])=ay.enc .U (jT r id)++[B (!decide (pf r id<0))]:=by
  have:∀l:List aX,fzR (l.map (aX.enc .U))=l.map (aX.enc .U):=λl=>by
   induction l with
   | nil=>rfl
   | cons x xs q=>rw[Y6,fzR,q,<-aX.enc_fz,tC]
  rw[n,c,W0 ω];simp[eH,fz,ay.enc,this]
 rw[p]at a;exact a
def zx(r:ay)(id a v:Int)(m:Nat)(o:sZ r m)(D:m<=1000)(h:0<=pf r id)(c:0<=a/\a<=(nth r.O (pf r id).toNat).T.length - 1)(p:0<=v/\v<=999):zzA 530 false [.val (some 2) (ay.enc .U r),.val none [I id],.val none [I a],.val none [I v]] (.tup [some 2,none]) (ay.enc .U (eI r id a v)++[B true]):=by
 have k:=o.sml D;have q:=o.len;have E:=eM r k;have t:=iJ r id k.1;obtain⟨J,K,L⟩:=fR (oF id) r.O h;obtain⟨j,l⟩:=O3 h;have d:j<r.O.length:=by unfold pf at l;omega
 have e:=ao d;have F:(nth r.O j).T.length<=1048576:=k.2 _ (am d);obtain⟨b,g⟩:=O3 c.1;have G:eI r id a v = {r with O:=r.O.set j ⟨(nth r.O j).Id,(nth r.O j).T.set b v⟩}:=by
  unfold eI;rw[CD ⟨h,c,p⟩,l,g];rfl
 rw[l]at t c;rw[g]at c |-;simp only[I3]at c;have u:=ao (xs:=(nth r.O j).T) (i:=b) ω;have w:=aI (b:Nat) 0 (((nth r.O j).T.length:Nat) - 1:Int);rw[O0 ω]at w;have y:=aI v 0 999;rw[O0 p]at y;have key:zzA 530 false [.val (some 2) (ay.enc .U r),.val none [I id],.val none [I (b:Nat)],.val none [I v]] (.tup [some 2,none]) (ay.enc .own (eI r id (b:Nat) v)++[B true]):=by
  have n:=nA (eI r id (b:Nat) v) (B true) trivial;rw[<-g,G]at n |-;have H:ay.enc .own {r with O:=r.O.set j ⟨(nth r.O j).Id,(nth r.O j).T.set b v⟩} = [I r.d,.s .own ((r.O.map (aX.enc .own)).set j [I (nth r.O j).Id,.s .own (((nth r.O j).T.map (rI .own)).set b [I v])])]:=by
   simp[ay.enc,aX.enc,rI,C7]
  rw[H]at n |-;rw[g];refine fO 48 [] Tryz.func530 rfl ?_ (.inr n)
  repeat'(first|refine gE ?_|(conv=>whnf);first|with_reducible refine CP ω (aa e) ?_|refine C9 (E) ?_|refine C9 (t) ?_|refine C9 (w) ?_|refine C9 (y) ?_|refine Pu.two rfl rfl (aa e) rfl rfl rfl (aa u) rfl (W3 _) rfl ?_)
  rfl
 have C:=key.fzR;rw[fA,Ce]at C;exact C
def Dr(r:ay)(id n:Int)(m:Nat)(l:sZ r m)(u:m<=1000)(g:0<=pf r id)(c:1<=n/\n<=(nth r.O (pf r id).toNat).T.length):zzA 532 false [.val (some 2) (ay.enc .U r),.val none [I id],.val none [I n]] (.tup [some 2,none]) (ay.enc .U (fE r id n)++[B true]):=by
 have h:=l.sml u;have o:=l.len;have w:=eM r h;have p:=iJ r id h.1;obtain⟨E,F,G⟩:=fR (oF id) r.O g;obtain⟨j,i⟩:=O3 g;have a:j<r.O.length:=by unfold pf at i;omega
 have d:=ao a;have y:(nth r.O j).T.length<=1048576:=h.2 _ (am a);obtain⟨b,e⟩:=O3 (show 0<=n by omega);have C:fE r id n = {r with O:=r.O.set j ⟨(nth r.O j).Id,(nth r.O j).T.take b⟩}:=by
  unfold fE;rw[CD ⟨g,c⟩,i,e];rfl
 rw[i]at p c;rw[e]at c |-;simp only[I3]at c;have q:=aI (b:Nat) 1 (((nth r.O j).T.length:Nat):Int);rw[O0 ω]at q;have key:zzA 532 false [.val (some 2) (ay.enc .U r),.val none [I id],.val none [I (b:Nat)]] (.tup [some 2,none]) (ay.enc .own (fE r id (b:Nat))++[B true]):=by
  have k:=nA (fE r id (b:Nat)) (B true) trivial;rw[<-e,C]at k |-;have D:ay.enc .own {r with O:=r.O.set j ⟨(nth r.O j).Id,(nth r.O j).T.take b⟩} = [I r.d,.s .own ((r.O.map (aX.enc .own)).set j [I (nth r.O j).Id,.s .own (((nth r.O j).T.take b).map (rI .U))])]:=by
   simp only[ay.enc,C7]
   rfl
  rw[D]at k |-;rw[e];refine fO 46 [(5,270,[30,31,32,33,34,35,36,37,38,39,40,41,43,44,0,1,2,3,4,5,6,7,8,9,10,11,12,1000,1001,1002,13,14,15])] Tryz.func532 rfl ?_ (.inr k)
  repeat'(first|refine gE ?_|(conv=>whnf);first|with_reducible refine CP ω (aa d) ?_|refine C9 (w) ?_|refine C9 (p) ?_|refine C9 (q) ?_|refine CZ b rfl (by rw[I1];omega) (aT λ_=>rfl) X4 ?_|refine CY (λ_=>rfl) (λ_=>rfl) (by rw[Z1];omega) (by decide) ?_|refine CR (λ_=>rfl) (λ_=>rfl) (by rw[Z1];omega) (by decide) ?_|refine CS rfl rfl (aa d) rfl (O1 rfl) rfl ?_)
  rfl
 have t:=key.fzR;rw[fA,Ce]at t;exact t
def DO(r:ay)(id a v:Int)(m:Nat)(h:sZ r m)(l:m<=1000)(u:0<=v/\v<=999):∃b:Bool,zzA 530 false [.val (some 2) (ay.enc .U r),.val none [I id],.val none [I a],.val none [I v]] (.tup [some 2,none]) (ay.enc .U (eI r id a v)++[B b]):=by
 by_cases i:0<=pf r id
 ·by_cases d:0<=a/\a<=(nth r.O (pf r id).toNat).T.length - 1
  ·exact⟨true,zx r id a v m h l i d u⟩
  refine⟨false,?_⟩;have c:=h.sml l;have o:=h.len;have n:=eM r c;have k:=iJ r id c.1;obtain⟨C,D,E⟩:=fR (oF id) r.O i;obtain⟨j,p⟩:=O3 i;have e:j<r.O.length:=by unfold pf at p;omega
  have q:=ao e;have w:(nth r.O j).T.length<=1048576:=c.2 _ (am e);have y:eI r id a v=r:=by unfold eI;rw[CB (λx=>d x.2.1)]
  rw[p]at k d;simp only[I3]at d;have t:=aI a 0 (((nth r.O j).T.length:Nat) - 1:Int);rw[W0 d]at t;rw[y];have key:zzA 530 false [.val (some 2) (ay.enc .U r),.val none [I id],.val none [I a],.val none [I v]] (.tup [some 2,none]) (ay.enc .own r++[B false]):=by
   refine fO 48 [] Tryz.func530 rfl ?_ (.inr (nA r (B false) trivial))
   repeat'(first|refine gE ?_|(conv=>whnf);first|refine C9 (n) ?_|refine C9 (k) ?_|refine C9 (t) ?_)
   rfl
  have g:=key.fzR;rw[fA,Ce]at g;exact g
 refine⟨false,?_⟩;have c:=h.sml l;have n:=eM r c;have k:=iJ r id c.1;rw[show eI r id a v=r by unfold eI;rw[CB (λx=>i x.1)]];have key:zzA 530 false [.val (some 2) (ay.enc .U r),.val none [I id],.val none [I a],.val none [I v]] (.tup [some 2,none]) (ay.enc .own r++[B false]):=by
  refine fO 48 [] Tryz.func530 rfl ?_ (.inr (nA r (B false) trivial))
  repeat'(first|refine gE ?_|(conv=>whnf);first|refine C9 (n) ?_|refine C9 (k) ?_)
  rfl
 have g:=key.fzR;rw[fA,Ce]at g;exact g
def FI(r:ay)(id n:Int)(m:Nat)(g:sZ r m)(k:m<=1000):∃b:Bool,zzA 532 false [.val (some 2) (ay.enc .U r),.val none [I id],.val none [I n]] (.tup [some 2,none]) (ay.enc .U (fE r id n)++[B b]):=by
 by_cases h:0<=pf r id
 ·by_cases c:1<=n/\n<=(nth r.O (pf r id).toNat).T.length
  ·exact⟨true,Dr r id n m g k h c⟩
  refine⟨false,?_⟩;have a:=g.sml k;have o:=g.len;have l:=eM r a;have i:=iJ r id a.1;obtain⟨y,C,D⟩:=fR (oF id) r.O h;obtain⟨j,p⟩:=O3 h;have d:j<r.O.length:=by unfold pf at p;omega
  have q:=ao d;have u:(nth r.O j).T.length<=1048576:=a.2 _ (am d);have w:fE r id n=r:=by unfold fE;rw[CB (λx=>c x.2)]
  rw[p]at i c;simp only[I3]at c;have t:=aI n 1 (((nth r.O j).T.length:Nat):Int);rw[W0 c]at t;rw[w];have key:zzA 532 false [.val (some 2) (ay.enc .U r),.val none [I id],.val none [I n]] (.tup [some 2,none]) (ay.enc .own r++[B false]):=by
   refine fO 46 [(5,270,[30,31,32,33,34,35,36,37,38,39,40,41,43,44,0,1,2,3,4,5,6,7,8,9,10,11,12,1000,1001,1002,13,14,15])] Tryz.func532 rfl ?_ (.inr (nA r (B false) trivial))
   repeat'(first|refine gE ?_|(conv=>whnf);first|refine C9 (l) ?_|refine C9 (i) ?_|refine C9 (t) ?_)
   rfl
  have e:=key.fzR;rw[fA,Ce]at e;exact e
 refine⟨false,?_⟩;have a:=g.sml k;have l:=eM r a;have i:=iJ r id a.1;rw[show fE r id n=r by unfold fE;rw[CB (λx=>h x.1)]];have key:zzA 532 false [.val (some 2) (ay.enc .U r),.val none [I id],.val none [I n]] (.tup [some 2,none]) (ay.enc .own r++[B false]):=by
  refine fO 46 [(5,270,[30,31,32,33,34,35,36,37,38,39,40,41,43,44,0,1,2,3,4,5,6,7,8,9,10,11,12,1000,1001,1002,13,14,15])] Tryz.func532 rfl ?_ (.inr (nA r (B false) trivial))
  repeat'(first|refine gE ?_|(conv=>whnf);first|refine C9 (l) ?_|refine C9 (i) ?_)
  rfl
 have e:=key.fzR;rw[fA,Ce]at e;exact e
structure iV where
 i:Nat
 h:Int
deriving Inhabited
def w64(x:Int):Int:=IntKind.i64.wrap x
def Um(h:Int):Int:=w64 (w64 (h*6364136223846793005)+1442695040888963407)
def TU(a b:Int):Int:=w64 ((BitVec.ofInt IntKind.i64.bits a ^^^ BitVec.ofInt IntKind.i64.bits b).toNat:Nat)
def and255(a:Int):Int:=w64 ((BitVec.ofInt IntKind.i64.bits a &&& BitVec.ofInt IntKind.i64.bits 255).toNat:Nat)
def Q0(h:Int)(n:Nat):Int:=h.fdiv (2 ^ (min n IntKind.i64.bits))
def A6(h:Int):Int:=and255 (TU (Q0 h 33) (Q0 h 45))
def AB(a:Int):0<=and255 a/\and255 a<=255:=by
 have b:(BitVec.ofInt IntKind.i64.bits a &&& BitVec.ofInt IntKind.i64.bits 255).toNat<=255:=by
  rw[BitVec.toNat_and];exact O5 Nat.and_le_right (by decide)
 unfold and255 w64;rw[eZ ω ω];omega
def dL(zs:List Int)(c:iV):Int × iV:=if c.i<zs.length then(and255 (A6 (Um c.h)+nth zs c.i),⟨c.i+1,Um c.h⟩) else(A6 (Um c.h),⟨c.i,Um c.h⟩)
def sR(zs:List Int)(c:iV):0<=(dL zs c).1/\(dL zs c).1<=255:=by
 unfold dL;split<;>exact AB _
variable{zs:List Int}
def js{c:iV}(h:c.i<=zs.length):(dL zs c).2.i<=zs.length:=by
 unfold dL;split
 ·simp only;omega
 exact h
def Bo(zs:List Int)(c:iV):Int × iV:=
 ((dL zs c).1*16777216+(dL zs (dL zs c).2).1*65536+(dL zs (dL zs (dL zs c).2).2).1*256+(dL zs (dL zs (dL zs (dL zs c).2).2).2).1,(dL zs (dL zs (dL zs (dL zs c).2).2).2).2)
def bv(zs:List Int)(c:iV)(n:Int):Int × iV:=if n<=256 then((dL zs c).1 % n,(dL zs c).2) else((Bo zs c).1 % n,(Bo zs c).2)
def bL(zs:List Int)(c:iV){n:Int}(h:1<=n):0<=(bv zs c n).1/\(bv zs c n).1<n:=by
 unfold bv;split<;>exact⟨Int.emod_nonneg _ ω,Int.emod_lt_of_pos _ ω⟩
def bW{c:iV}(h:c.i<=zs.length)(n:Int):(bv zs c n).2.i<=zs.length:=by
 unfold bv;split
 ·exact js h
 exact js (js (js (js h)))
def lT(zs:List Int)(c:iV)(l:List Int):Int × iV:=(nth l (bv zs c (l.length:Nat)).1.toNat,(bv zs c (l.length:Nat)).2)
def qn(zs:List Int)(c:iV){l:List Int}(h:1<=l.length):(lT zs c l).1∈l:=by
 have:=bL zs c (n:=(l.length:Nat)) ω;exact am ω
def pH(zs:List Int):Nat->Nat->List Int->iV->List Int × iV
 | 0,_,out,c=>(out,(bv zs c 4).2)
 | f+1,i,out,c=>if(i:Int)<(bv zs c 4).1 then pH zs f (i+1) (out++[(bv zs (bv zs c 4).2 12).1]) (bv zs (bv zs c 4).2 12).2 else(out,(bv zs c 4).2)
def Rl(zs:List Int)(c:iV):List Int × iV:=pH zs 4 0 [] c
def J5(zs:List Int):∀(f i:Nat)(out:List Int)(c:iV),(∀x∈out,0<=x)->out.length+f<=4->c.i<=zs.length->(∀x∈(pH zs f i out c).1,0<=x)/\(pH zs f i out c).1.length<=4/\(pH zs f i out c).2.i<=zs.length
 | 0,_,out,c,b,e,d=>⟨b,by show out.length<=4;omega,bW d _⟩
 | f+1,i,out,c,b,e,d=>by
  unfold pH;split
  ·refine J5 zs f (i+1) _ _ (λx a=>?_) (by simp only[Y3,List.length_singleton];omega) (bW (bW d _) _)
   rcases V3.1 a with a|a
   ·exact b x a
   rw[V1.1 a];exact(bL zs _ (by decide)).1
  exact⟨b,by show out.length<=4;omega,bW d _⟩
def Ao(zs:List Int)(c:iV):Int × iV:=bv zs c 7
def E5(zs:List Int)(c:iV):Int × iV:=bv zs (Ao zs c).2 3
def GZ(zs:List Int)(c:iV):Int × iV:=bv zs (E5 zs c).2 100
def DE(zs:List Int)(c:iV):Int × iV:=bv zs (GZ zs c).2 4
def Tg(zs:List Int)(c:iV):List Int × iV:=Rl zs (DE zs c).2
def qU(zs:List Int)(c:iV):cR:=⟨(6+(Ao zs c).1).toNat,(6+(Ao zs c).1 - (DE zs c).1).toNat,(1+(E5 zs c).1).toNat,40+(GZ zs c).1,(Tg zs c).1⟩
def p7{c:iV}(h:c.i<=zs.length):E4 (qU zs c)/\(Tg zs c).2.i<=zs.length:=by
 have a:=bL zs c (n:=7) (by decide);have b:=bL zs (Ao zs c).2 (n:=3) (by decide);have d:=bL zs (E5 zs c).2 (n:=100) (by decide);have e:=bL zs (GZ zs c).2 (n:=4) (by decide);change 0<=(Ao zs c).1/\(Ao zs c).1<7 at a;change 0<=(E5 zs c).1/\(E5 zs c).1<3 at b;change 0<=(GZ zs c).1/\(GZ zs c).1<100 at d;change 0<=(DE zs c).1/\(DE zs c).1<4 at e;obtain⟨f,k,g⟩:=J5 zs 4 0 [] (DE zs c).2 (λx j=>by cases j) (by simp) (bW (bW (bW (bW h _) _) _) _);refine⟨⟨?_,?_,?_,?_,?_⟩,g⟩
 ·show 1<=(6+(Ao zs c).1).toNat/\(6+(Ao zs c).1).toNat<=32;omega
 ·show 1<=(6+(Ao zs c).1 - (DE zs c).1).toNat/\(6+(Ao zs c).1 - (DE zs c).1).toNat<=32;omega
 ·show 1<=(1+(E5 zs c).1).toNat/\(1+(E5 zs c).1).toNat<=4;omega
 ·show 0<=40+(GZ zs c).1/\40+(GZ zs c).1<=1000;omega
 exact⟨by show(pH zs 4 0 [] (DE zs c).2).1.length<=40;omega,f⟩
def AJ(zs:List Int)(c:iV):Int × iV:=bv zs c 3
def GM(zs:List Int)(c:iV)(ids:Int):Int × iV:=bv zs (AJ zs c).2 ids
def mb(zs:List Int)(c:iV)(ids:Int):Int × iV:=bv zs (GM zs c ids).2 20
def szs:List Int:=[1,1,2,2,3,4,4,5,8,9,20]
def tG(zs:List Int)(c:iV)(ids:Int):ew × iV:=
 if(mb zs c ids).1<=6 then(⟨1,(AJ zs c).1,(lT zs (mb zs c ids).2 szs).1,0,0⟩,(lT zs (mb zs c ids).2 szs).2)
 else if(mb zs c ids).1<=9 then(⟨2,(AJ zs c).1,1+(GM zs c ids).1,0,0⟩,(mb zs c ids).2)
 else if(mb zs c ids).1<=12 then(⟨3,(AJ zs c).1,1+(GM zs c ids).1,(bv zs (mb zs c ids).2 4).1,1+(bv zs (bv zs (mb zs c ids).2 4).2 999).1⟩,(bv zs (bv zs (mb zs c ids).2 4).2 999).2)
 else if(mb zs c ids).1=13 then(⟨4,(AJ zs c).1,1+(GM zs c ids).1,0,9+(bv zs (mb zs c ids).2 10).1⟩,(bv zs (mb zs c ids).2 10).2)
 else if(mb zs c ids).1=14 then(⟨(lT zs (mb zs c ids).2 [5,6]).1,(AJ zs c).1,1+(GM zs c ids).1,0,0⟩,(lT zs (mb zs c ids).2 [5,6]).2)
 else if(mb zs c ids).1=15 then(⟨7,(AJ zs c).1,1+(GM zs c ids).1,0,0⟩,(mb zs c ids).2)
 else if(mb zs c ids).1=16 then(⟨8,(AJ zs c).1,(lT zs (mb zs c ids).2 [1,30,60,120]).1,0,0⟩,(lT zs (mb zs c ids).2 [1,30,60,120]).2)
 else if(mb zs c ids).1=17 then(⟨9,(AJ zs c).1,1+(GM zs c ids).1,0,0⟩,(mb zs c ids).2)
 else(⟨10,(AJ zs c).1,(lT zs (mb zs c ids).2 [1,2,3,10,30]).1,0,0⟩,(lT zs (mb zs c ids).2 [1,2,3,10,30]).2)
structure MS(a:ew):Prop where
 k:1<=a.b6/\a.b6<=10
 t:0<=a.a4/\a.a4<=1000000
 n:0<=a.N/\a.N<=1000000
 p:0<=a.At/\a.At<=1000000
 v:0<=a.Value/\a.Value<=1000000
def Pv{c:iV}{ids:Int}(h:c.i<=zs.length)(b:1<=ids/\ids<=1000):MS (tG zs c ids).1/\(tG zs c ids).2.i<=zs.length:=by
 have d:=bL zs c (n:=3) (by decide);have e:=bL zs (AJ zs c).2 (n:=ids) b.1;change 0<=(AJ zs c).1/\(AJ zs c).1<3 at d;change 0<=(GM zs c ids).1/\(GM zs c ids).1<ids at e;have a:(mb zs c ids).2.i<=zs.length:=bW (bW (bW h _) _) _;have f:=qn zs (mb zs c ids).2 (l:=szs) (by decide);have g:=qn zs (mb zs c ids).2 (l:=[5,6]) (by decide);have j:=qn zs (mb zs c ids).2 (l:=[1,30,60,120]) (by decide);have k:=qn zs (mb zs c ids).2 (l:=[1,2,3,10,30]) (by decide);have o:=bL zs (mb zs c ids).2 (n:=4) (by decide);have p:=bL zs (bv zs (mb zs c ids).2 4).2 (n:=999) (by decide);have q:=bL zs (mb zs c ids).2 (n:=10) (by decide);simp only[szs,List.mem_cons,List.not_mem_nil,or_false]at f g j k;unfold tG
 repeat' split
 ·exact⟨⟨by simp only;omega,by simp only;omega,by simp only[szs];omega,by simp only;omega,by simp only;omega⟩,bW a _⟩
 ·exact⟨⟨by simp only;omega,by simp only;omega,by simp only;omega,by simp only;omega,by simp only;omega⟩,a⟩
 ·exact⟨⟨by simp only;omega,by simp only;omega,by simp only;omega,by simp only;omega,by simp only;omega⟩,bW (bW a _) _⟩
 ·exact⟨⟨by simp only;omega,by simp only;omega,by simp only;omega,by simp only;omega,by simp only;omega⟩,bW a _⟩
 ·exact⟨⟨by simp only;omega,by simp only;omega,by simp only;omega,by simp only;omega,by simp only;omega⟩,bW a _⟩
 ·exact⟨⟨by simp only;omega,by simp only;omega,by simp only;omega,by simp only;omega,by simp only;omega⟩,a⟩
 ·exact⟨⟨by simp only;omega,by simp only;omega,by simp only;omega,by simp only;omega,by simp only;omega⟩,bW a _⟩
 ·exact⟨⟨by simp only;omega,by simp only;omega,by simp only;omega,by simp only;omega,by simp only;omega⟩,a⟩
 exact⟨⟨by simp only;omega,by simp only;omega,by simp only;omega,by simp only;omega,by simp only;omega⟩,bW a _⟩
def lM(zs:List Int)(c:iV):Nat->List ew × iV
 | 0=>([],(bv zs c 41).2)
 | i+1=>((lM zs c i).1++[(tG zs (lM zs c i).2 (1+(i:Int) / 2)).1],(tG zs (lM zs c i).2 (1+(i:Int) / 2)).2)
def lQ(zs:List Int)(c:iV):List ew × iV:=lM zs c (bv zs c 41).1.toNat
def pQ{zs:List Int}{c:iV}(h:c.i<=zs.length):∀{n:Nat},n<=100->(lM zs c n).1.length=n/\(∀a∈(lM zs c n).1,MS a)/\(lM zs c n).2.i<=zs.length
 | 0,_=>⟨rfl,λa b=>(by cases b),bW h _⟩
 | n+1,k=>by
  obtain⟨d,e,f⟩:=pQ h (n:=n) ω;obtain⟨g,j⟩:=Pv (ids:=1+(n:Int) / 2) f ω;refine⟨by simp only[lM,Y3,List.length_singleton,d],λa b=>?_,j⟩;rcases V3.1 b with b|b
  ·exact e a b
  rw[V1.1 b];exact g
def qG(zs:List Int):Nat->Int
 | 0=>w64 (98801+(zs.length:Nat))
 | i+1=>w64 ((BitVec.ofInt IntKind.i64.bits (w64 (w64 (w64 (qG zs i*131)+nth zs i)+7)) &&& BitVec.ofInt IntKind.i64.bits 1073741823).toNat:Nat)
def sr(zs:List Int):iV:=⟨0,qG zs (min zs.length 4000)⟩
def eC(zs:List Int):iV:=(Tg zs (sr zs)).2
def drawn(zs:List Int):aQ:=(zj (qU zs (sr zs)) (lQ zs (eC zs)).1 (lQ zs (eC zs)).1.length).1
def yL(zs:List Int):rQ (drawn zs) 40:=by
 have a:(sr zs).i<=zs.length:=X0 _;obtain⟨b,d⟩:=p7 a;have f:=bL zs (eC zs) (n:=41) (by decide);obtain⟨e,-,-⟩:=pQ (zs:=zs) (c:=eC zs) d (n:=(bv zs (eC zs) 41).1.toNat) ω;refine(uW b _ _).more ?_;show(lM zs (eC zs) _).1.length<=40;rw[e];omega
def rU(z:Int):List C:=[.v (.int .u8 z)]
def iN(zs:List Int)(c:iV):List C:=[.s .U (zs.map rU),I (c.i:Nat),I c.h]
def jE(zs:List Int):Prop:=zs.length<=1048576/\∀z∈zs,0<=z/\z<=255
def lw(zs:List Int)(c:iV)(e:jE zs)(w:c.i<=zs.length):zzB 195 false [.ptr (iN zs c)] [.ptr (iN zs (dL zs c).2)] .one [I (dL zs c).1]:=by
 have g:IntKind.i64.wrap (c.h*6364136223846793005)=w64 (c.h*6364136223846793005):=rfl;have b:IntKind.i64.wrap (w64 (c.h*6364136223846793005)+1442695040888963407)=Um c.h:=rfl;have o:=e.1;generalize p:Um c.h=H at b;have j:H.fdiv (2 ^ (min (33:Int).toNat IntKind.i64.bits))=Q0 H 33:=rfl;have k:H.fdiv (2 ^ (min (45:Int).toNat IntKind.i64.bits))=Q0 H 45:=rfl;have l:IntKind.i64.wrap (BitVec.ofInt IntKind.i64.bits (Q0 H 33) ^^^ BitVec.ofInt IntKind.i64.bits (Q0 H 45)).toNat=TU (Q0 H 33) (Q0 H 45):=rfl;have d:IntKind.i64.wrap (BitVec.ofInt IntKind.i64.bits (TU (Q0 H 33) (Q0 H 45)) &&& BitVec.ofInt IntKind.i64.bits 255).toNat=A6 H:=rfl;have r:0<=A6 H/\A6 H<=255:=AB _;unfold dL;rw[p];generalize A6 H=y at d r |-;refine fM 58 [] [(2,10,[13,14,15,16,17,18,19,20,21,22]),(3,9,[25,26,27,28,29,30,31,32,33]),(4,12,[35,36,37,38,39,40,41,42,43,44,45,46])] [(0,0)] Tryz.func195 rfl (λu q=>?_);by_cases a:c.i<zs.length
 ·rw[CD a]
  have n:=ao a;have B:=e.2 _ (am a);have t:IntKind.i64.wrap (BitVec.ofInt IntKind.i64.bits (y+nth zs c.i) &&& BitVec.ofInt IntKind.i64.bits 255).toNat=and255 (y+nth zs c.i):=rfl
  repeat'(first|refine gE ?_|(conv=>whnf);with_reducible (first|refine CO g ?_|refine CO b ?_|refine CO l ?_|refine CO d ?_|refine CO t ?_|refine CQ (by decide) ?_|refine CX j ?_|refine CX k ?_))
  refine CK rfl rfl ?_;exact wB
 rw[CB a]
 repeat'(first|refine gE ?_|(conv=>whnf);with_reducible (first|refine CO g ?_|refine CO b ?_|refine CO l ?_|refine CO d ?_|refine CQ (by decide) ?_|refine CX j ?_|refine CX k ?_))
 refine CK rfl rfl ?_;exact wB
def bU(zs:List Int)(c:iV)(n:Int)(b:jE zs)(d:c.i<=zs.length)(p:1<=n):zzB 58 false [.ptr (iN zs c),.val none [I n]] [.ptr (iN zs (bv zs c n).2),.val none [I n]] .one [I (bv zs c n).1]:=by
 have j:=sR zs c;have g:=lw zs c b d;unfold bv;refine fM 37 [(195,[2])] [] [(0,0),(0,0)] Tryz.func58 rfl (λu q=>?_);by_cases h:n<=256
 ·rw[CD h]
  have a:(dL zs c).1.tmod n=(dL zs c).1 % n:=Int.tmod_eq_emod_of_nonneg j.1
  repeat'(first|refine gE ?_|(conv=>whnf);first|with_reducible (first|refine CX a ?_|refine Bf.D (λe=>?_) (λe=>?_))|refine CM (g) (.inl rfl) ?_|refine CQ ω ?_)
  refine CK rfl rfl ?_;exact wB
 rw[CB h];have r:=sR zs (dL zs c).2;have t:=sR zs (dL zs (dL zs c).2).2;have w:=sR zs (dL zs (dL zs (dL zs c).2).2).2;have k:=lw zs (dL zs c).2 b (js d);have l:=lw zs (dL zs (dL zs c).2).2 b (js (js d));have o:=lw zs (dL zs (dL zs (dL zs c).2).2).2 b (js (js (js d)));have a:(Bo zs c).1.tmod n=(Bo zs c).1 % n:=Int.tmod_eq_emod_of_nonneg (by unfold Bo;simp only;omega);unfold Bo at a |-;simp only at a
 repeat'(first|refine gE ?_|(conv=>whnf);first|with_reducible (first|refine CX a ?_|refine Bf.D (λe=>?_) (λe=>?_))|refine CM (g) (.inl rfl) ?_|refine CM (k) (.inl rfl) ?_|refine CM (l) (.inl rfl) ?_|refine CM (o) (.inl rfl) ?_|refine CQ ω ?_)
 refine CK rfl rfl ?_;exact wB
def MC(zs:List Int)(c:iV)(l:List Int)(b:jE zs)(d:c.i<=zs.length)(g:1<=l.length/\l.length<=1000):zzB 459 false [.ptr (iN zs c),.val none (aD .U l)] [.ptr (iN zs (lT zs c l).2),.val none (aD .U l)] .one [I (lT zs c l).1]:=by
 have e:=bU zs c (l.length:Nat) b d ω;have h:=bL zs c (n:=(l.length:Nat)) ω;have a:=ao (xs:=l) (i:=(bv zs c (l.length:Nat)).1.toNat) ω;unfold lT;refine fM 12 [(58,[2,0])] [] [(0,0),(0,0)] Tryz.func459 rfl (λu q=>?_)
 repeat'(first|refine gP ?_|(conv=>whnf);first|with_reducible refine CP ω (aa a) ?_|refine CM (e) (.inl rfl) ?_)
 refine CK rfl rfl ?_;exact wC
def jw(zs:List Int)(c:iV)(l:List Int)(b:jE zs)(d:c.i<=zs.length)(g:1<=l.length/\l.length<=1000):zzB 459 false [.ptr (iN zs c),.mut none (aD .own l)] [.ptr (iN zs (lT zs c l).2),.mut none (aD .own l)] .one [I (lT zs c l).1]:=by
 have e:=bU zs c (l.length:Nat) b d ω;have h:=bL zs c (n:=(l.length:Nat)) ω;have a:=ao (xs:=l) (i:=(bv zs c (l.length:Nat)).1.toNat) ω;unfold lT;refine fM 12 [(58,[2,0])] [] [(0,0),(1,0)] Tryz.func459 rfl (λu q=>?_)
 repeat'(first|refine gP ?_|(conv=>whnf);first|with_reducible refine CP ω (aa a) ?_|refine CM (e) (.inl rfl) ?_)
 refine CK rfl rfl ?_;exact wC
def KU(zs:List Int):∀(f i:Nat)(out:List Int)(c:iV),(bv zs c 4).1<=i->pH zs f i out c=(out,(bv zs c 4).2)
 | 0,_,_,_,_=>rfl
 | f+1,i,out,c,h=>by unfold pH;rw[CB ω]
def QP(zs:List Int)(f i:Nat)(out:List Int)(c:iV)(h:(i:Int)<(bv zs c 4).1):pH zs (f+1) i out c=pH zs f (i+1) (out++[(bv zs (bv zs c 4).2 12).1]) (bv zs (bv zs c 4).2 12).2:=by
 show(if _ then _ else _)=_;rw[CD h]
structure Rq where
 i:Nat
 out:List Int
 c:iV
def xV(zs:List Int)(c:iV)(e:jE zs)(j:c.i<=zs.length):zzB 345 false [.ptr (iN zs c)] [.ptr (iN zs (Rl zs c).2)] .one (aD .own (Rl zs c).1):=by
 refine fM 18 [(58,[2,0])] [] [(0,0)] Tryz.func345 rfl (λu q=>?_) (.inr (bG _))
 repeat'(first|refine gP ?_|fail)
 (conv=>whnf)
 refine CH (ι:=Rq) (λx=>[(0,.H .box (iN zs x.c)),(3,.H .one (aD .own x.out)),(4,.H .one [I ((x.i:Nat):Int)])]) (λx=>(x.i<=4/\x.out.length<=x.i/\x.c.i<=zs.length)/\pH zs (4 - x.i) x.i x.out x.c=Rl zs c) (λx=>4 - x.i) (⟨0,[],c⟩) ?_ (⟨⟨X0 _,X0 _,j⟩,rfl⟩) λx k=>?_
 ·exact wC
 obtain⟨i,out,d⟩:=x;obtain⟨⟨l,o,b⟩,a⟩:=k;simp only at l o b a |-;have B:=bL zs d (n:=4) (by decide);have g:=bU zs d 4 e b (by decide);have h:=bW b 4;have p:=bU zs (bv zs d 4).2 12 e h (by decide);have t:=bW h 12;by_cases w:(i:Int)<(bv zs d 4).1
 ·rw[show 4 - i=(4 - (i+1))+1 by omega,QP zs _ _ _ _ w]at a
  repeat'(first|refine gE ?_|(conv=>whnf);first|refine CM (g) (.inl rfl) ?_|refine CM (p) (.inl rfl) ?_|refine CU cw (λr y=>by rw[V1.1 y];rfl) (by simp[aZ,dS]) (by simp;omega) (by simp only[I1];exact wZ (by simp;omega) (by decide)) rfl ?_)
  ((conv=>whnf);refine CG ⟨i+1,out++[(bv zs (bv zs d 4).2 12).1],(bv zs (bv zs d 4).2 12).2⟩ ⟨⟨by simp only;omega,by simp only[Y3,List.length_singleton];omega,t⟩,a⟩ (by simp only;omega) ?_)
  repeat'(first|exact trivial|rfl| exact dZ _ |exact CN rfl (CN (Z0 (C.s dN.own) (by simp[rI])) trivial)|refine CN ?_ ?_|(exact DS (by first|omega|(simp only;omega)|(simp;omega))))
 rw[KU zs _ _ _ _ ω]at a;rw[<-a]
 repeat'(first|refine gE ?_|(conv=>whnf);refine CM (g) (.inl rfl) ?_)
 refine CK rfl rfl ?_;exact wC
def cR.enc(o:dN)(c:cR):List C:=[I (c.a1:Nat),I (c.W:Nat),I (c.d0:Nat),I c.c4,.s o (c.a0.map (rI o))]
def cR.enc_fz(c:cR):eH (cR.enc .own c)=cR.enc .U c:=by simp[eH,cR.enc,rI,<-co,X6]
def cR.enc_fr(c:cR):iD (cR.enc .own c):=⟨trivial,trivial,trivial,trivial,⟨.inl λh=>(by cases h),bj _ _ λy _=>pX y⟩,trivial⟩
def xj(zs:List Int)(c:iV)(a:jE zs)(h:c.i<=zs.length):zzB 193 false [.ptr (iN zs c)] [.ptr (iN zs (Tg zs c).2)] .agg (cR.enc .own (qU zs c)):=by
 have j:=bW h 7;have k:=bW j 3;have l:=bW k 100;have y:=bW l 4;have b:=bU zs c 7 a h (by decide);have d:=bU zs (Ao zs c).2 3 a j (by decide);have e:=bU zs (E5 zs c).2 100 a k (by decide);have g:=bU zs (GZ zs c).2 4 a l (by decide);have o:=xV zs (DE zs c).2 a y;have p:=bL zs c (n:=7) (by decide);have r:=bL zs (Ao zs c).2 (n:=3) (by decide);have B:=bL zs (E5 zs c).2 (n:=100) (by decide);have t:=bL zs (GZ zs c).2 (n:=4) (by decide);have w:=cR.enc_fr (qU zs c);have C:cR.enc .own (qU zs c)=[I (6+(Ao zs c).1),I (6+(Ao zs c).1 - (DE zs c).1),I (1+(E5 zs c).1),I (40+(GZ zs c).1),.s .own ((Tg zs c).1.map (rI .own))]:=by
  have D:0<=(Ao zs c).1/\(Ao zs c).1<7:=p;have E:0<=(E5 zs c).1/\(E5 zs c).1<3:=r;have F:0<=(DE zs c).1/\(DE zs c).1<4:=t;unfold cR.enc qU;simp only;rw[Int.toNat_of_nonneg ω,Int.toNat_of_nonneg ω,Int.toNat_of_nonneg ω]
 rw[C]at w |-;change aW _ _ _ _ [.ptr (iN zs (Ao zs c).2),_] _ _ at b;change aW _ _ _ _ [.ptr (iN zs (E5 zs c).2),_] _ _ at d;change aW _ _ _ _ [.ptr (iN zs (GZ zs c).2),_] _ _ at e;change aW _ _ _ _ [.ptr (iN zs (DE zs c).2),_] _ _ at g;change aW _ _ _ _ [.ptr (iN zs (Tg zs c).2)] _ (aD .own (Tg zs c).1) at o;change aW _ _ _ _ _ _ [I (Ao zs c).1]at b;change aW _ _ _ _ _ _ [I (E5 zs c).1]at d;change aW _ _ _ _ _ _ [I (GZ zs c).1]at e;change aW _ _ _ _ _ _ [I (DE zs c).1]at g;change 0<=(Ao zs c).1/\(Ao zs c).1<7 at p;change 0<=(E5 zs c).1/\(E5 zs c).1<3 at r;change 0<=(GZ zs c).1/\(GZ zs c).1<100 at B;change 0<=(DE zs c).1/\(DE zs c).1<4 at t;generalize Tg zs c=r5 at *;generalize DE zs c=r4 at *;generalize GZ zs c=r3 at *;generalize E5 zs c=r2 at *;generalize Ao zs c=r1 at *;refine fM 24 [(58,[2,0]),(345,[2])] [(2,65536,[])] [(0,0)] Tryz.func193 rfl (λu q=>?_) (.inr w)
 repeat'(first|refine gP ?_|(conv=>whnf);first|refine CM (b) (.inl rfl) ?_|refine CM (d) (.inl rfl) ?_|refine CM (e) (.inl rfl) ?_|refine CM (g) (.inl rfl) ?_|refine CM (o) (.inl rfl) ?_|refine CN ?_ ?_)
 all_goals
  refine CK rfl rfl ?_;exact wC
def yd(n:Nat)(e:1<=n/\n<=32):zzA 580 false [.val none [I (n:Nat)]] (.tup [some 2,none]) (aU.enc .own (gp n)++[B true]):=by
 have c:=aI ((n:Nat):Int) 1 32;rw[O0 ω]at c;have a:=bg (b:=[B true]) (aU.enc_fr (gp n)) ⟨trivial,trivial⟩;rw[show aU.enc .own (gp n)=_ from Hh n n]at a |-;refine fO 28 [(7,4,[16,17,18,19])] Tryz.func580 rfl ?_ (.inr a)
 repeat'(first|refine gP ?_|(conv=>whnf);refine C9 (c) ?_)
 (conv=>whnf)
 refine CH (ι:=Nat) (λk=>[(0,.H .one [I ((n:Nat))]),(2,.H .box [.z,.z]),(4,.H .box [.s .own (List.replicate k [.s .own (List.replicate 16 [I 0])]),.s .own (List.replicate k [B false])]),(5,.H .one [I ((k:Nat):Int)])]) (λk=>k<=n) (λk=>n - k) (0) ?_ (X0 _) λk g=>?_
 ·exact wB
 by_cases h:k<n
 ·repeat'(first|refine gE ?_|(conv=>whnf);first|refine Mk.mk 16 rfl rfl (by decide) (by decide) rfl ?_|refine Ap.sn (λr d=>by rw[(List.mem_replicate.1 d).2];rfl) rfl (by simp;omega) (by decide) (E7 _ k) ?_)
  ((conv=>whnf);refine CG (k+1) ω ω ?_;(exact wB))
 obtain rfl:k=n:=ω
 repeat'(first|refine gE ?_|fail)
 rfl
def zu(n:Nat)(e:1<=n/\n<=32):zzA 581 false [.val none [I (n:Nat)]] (.tup [some 1,none]) (aH.enc .own (eR n)++[B true]):=by
 have c:=aI ((n:Nat):Int) 1 32;rw[O0 ω]at c;have a:=bg (b:=[B true]) (aH.enc_fr (eR n)) ⟨trivial,trivial⟩;have d:aH.enc .own (eR n)=[.s .own (List.replicate n [I 0,I 0])]:=by simp[aH.enc,eR,bk.enc,List.map_replicate]
 rw[d]at a |-;refine fO 11 [] Tryz.func581 rfl ?_ (.inr a)
 repeat'(first|refine gP ?_|(conv=>whnf);first|refine C9 (c) ?_|refine Mk.mk n rfl rfl ω (wZ ω (by decide)) rfl ?_)
 rfl
def wh(p f:Nat)(a:1<=p/\p<=32)(b:1<=f/\f<=32):zzA 557 false [.val none [I (p:Nat)],.val none [I (f:Nat)]] (.tup [some 3,none]) (aR.enc .own ⟨gp f,eR p⟩++[B true]):=by
 refine fO 30 [] Tryz.func557 rfl ?_ (.inr (bg (aR.enc_fr _) ⟨trivial,trivial⟩))
 repeat'(first|refine gP ?_|(conv=>whnf);first|refine C9 (yd f b) ?_|refine C9 (zu p a) ?_)
 rfl
def yz(p f:Nat)(a:List Int)(b:1<=p/\p<=32)(c:1<=f/\f<=32)(d:a.length<=40/\∀x∈a,0<=x):zzA 523 false [.val none [I (p:Nat)],.val none [I (f:Nat)],.val none (aD .U a)] (.tup [some 5,none]) (ah.enc .own (bN p f a)++[B true]):=by
 have e:=rd b c d;have h:=d.1;have g:=mI (bN p f a) (bO e);rw[e]at g;refine fO 31 [(2,260,[17,18,19,10,0,1,2,5,3,1000,1005,4,1005,6])] Tryz.func523 rfl ?_ (.inr (bg (ah.enc_fr _) ⟨trivial,trivial⟩))
 repeat'(first|refine gP ?_|(conv=>whnf);first|refine C9 (wh p f b c) ?_|refine CL (g) ⟨⟨rfl,CV (bN p f a)⟩,trivial⟩ ?_|refine CR (λ_=>rfl) (λ_=>rfl) ω (by decide) ?_|refine CY (λ_=>rfl) (λ_=>rfl) ω (by decide) ?_)
 rfl
def Us(p f t:Nat)(lim:Int)(a:List Int)(k:Nat):ab:={caps (newHeap p f t lim a) k with a9:=⟨0,[]⟩}
def D1(p f t:Nat)(lim:Int)(a:List Int)(c:1<=p/\p<=32)(d:1<=f/\f<=32)(e:1<=t/\t<=4)(g:0<=lim/\lim<=1000)(h:a.length<=40/\∀x∈a,0<=x):zzA 449 false [.val none [I (p:Nat)],.val none [I (f:Nat)],.val none [I (t:Nat)],.val none [I lim],.val none (aD .U a)] (.tup [some 24,none]) (ab.enc .own (newHeap p f t lim a)++[B true]):=by
 have b:=aI lim 0 1000;rw[O0 g]at b;refine fO 66 [(9,4,[54,55,56,57])] Tryz.func449 rfl ?_ (.inr (bg (ab.enc_fr _) ⟨trivial,trivial⟩))
 repeat'(first|refine gP ?_|(conv=>whnf);first|refine C9 (yz p f a c d h) ?_|refine C9 (Dz t e) ?_|refine C9 (b) ?_|refine C9 (tJ) ?_)
 (conv=>whnf)
 refine CH (ι:=Nat) (λk=>[(2,.H .one [I ((t:Nat))]),(10,.H .box [.z,.z,.z,I 0,.z,.z,.z,.z,.z,.z,.z,.z,I 0,.z,I 0,I 0,I 0,I 0,B false,I 0,I 0,.z,I 0,I 0]),(16,.H .box (ab.enc .own (Us p f t lim a k))),(17,.H .one [I ((k:Nat):Int)])]) (λk=>k<=t) (λk=>t - k) (0) ?_ (X0 _) λk i=>?_
 ·exact wB
 by_cases j:k<t
 ·repeat'(first|refine gE ?_|(conv=>whnf);first|refine C9 (zZ) ?_|refine Ap.sn N5 rfl (by rw[I1];show(List.replicate _ fQ).length+1<=_;rw[z4];omega) (by decide) (Lb k) ?_)
  ((conv=>whnf);refine CG (k+1) ω ω ?_;(exact wB))
 obtain rfl:k=t:=ω
 repeat'(first|refine gE ?_|(conv=>whnf);refine C9 (tJ) ?_)
 rfl
def EL:zzA 450 false [] .agg (ay.enc .own ⟨1,[]⟩):=by
 refine fO 2 [] Tryz.func450 rfl ?_ (.inr (ay.enc_fr _))
 repeat'((conv=>whnf);first|with_reducible (first|refine Lm ?_|refine Wm ω ?_|refine Bn ?_|refine kC.wk rfl ?_)|refine Bt ?_|refine Bu ?_|refine CE ?_)
 exact⟨rfl,rfl,trivial⟩
def Aj(c:cR)(h:E4 c):zzA 342 false [.val (some 5) (cR.enc .U c)] (.tup [some 26,none]) (aQ.enc .own (world0 c)++[B true]):=by
 have a:=D1 c.a1 c.W c.d0 c.c4 c.a0 h.p h.f h.t h.l h.r;refine fO 26 [(4,2,[23,24])] Tryz.func342 rfl ?_ (.inr (bg (aQ.enc_fr _) ⟨trivial,trivial⟩))
 repeat'(first|refine gP ?_|(conv=>whnf);first|refine C9 (a) ?_|refine C9 (EL) ?_)
 rfl
def pA(o:dN)(l:List ew):List C:=[.s o (l.map (ew.enc o))]
def ew.enc_fr(x:ew):iD (ew.enc .own x):=⟨trivial,trivial,trivial,trivial,trivial,trivial⟩
def Lt(l:List ew):iD (pA .own l):=⟨⟨.inl λh=>(by cases h),bj _ _ λy _=>ew.enc_fr y⟩,trivial⟩
def LW(l:List ew):eH (pA .own l)=pA .U l:=by simp[eH,pA,ew.enc,<-co,X6]
def Gu(zs:List Int)(c:iV)(ids:Int)(b:jE zs)(p:c.i<=zs.length)(r:1<=ids/\ids<=1000):zzB 346 false [.ptr (iN zs c),.val none [I ids]] [.ptr (iN zs (tG zs c ids).2),.val none [I ids]] .agg (ew.enc .own (tG zs c ids).1):=by
 have w:=bW p 3;have y:=bW w ids;have d:(mb zs c ids).2.i<=zs.length:=bW y 20;have B:=bU zs c 3 b p (by decide);have C:=bU zs (AJ zs c).2 ids b w r.1;have j:=bU zs (GM zs c ids).2 20 b y (by decide);have H:=bL zs c (n:=3) (by decide);have J:=bL zs (AJ zs c).2 (n:=ids) r.1;have D:=bL zs (GM zs c ids).2 (n:=20) (by decide);have e:=jw zs (mb zs c ids).2 szs b d (by decide);have E:=jw zs (mb zs c ids).2 [5,6] b d (by decide);have F:=jw zs (mb zs c ids).2 [1,30,60,120] b d (by decide);have l:=jw zs (mb zs c ids).2 [1,2,3,10,30] b d (by decide);have g:=bU zs (mb zs c ids).2 4 b d (by decide);have h:=bU zs (bv zs (mb zs c ids).2 4).2 999 b (bW d _) (by decide);have G:=bU zs (mb zs c ids).2 10 b d (by decide);have K:=bL zs (bv zs (mb zs c ids).2 4).2 (n:=999) (by decide);have L:=bL zs (mb zs c ids).2 (n:=10) (by decide);change aW _ _ _ _ [.ptr (iN zs (AJ zs c).2),_] _ [I (AJ zs c).1]at B;change aW _ _ _ _ [.ptr (iN zs (GM zs c ids).2),_] _ [I (GM zs c ids).1]at C;change aW _ _ _ _ [.ptr (iN zs (mb zs c ids).2),_] _ [I (mb zs c ids).1]at j;change 0<=(AJ zs c).1/\(AJ zs c).1<3 at H;change 0<=(GM zs c ids).1/\(GM zs c ids).1<ids at J;change 0<=(mb zs c ids).1/\(mb zs c ids).1<20 at D;have o:=ew.enc_fr (tG zs c ids).1;unfold tG at o |-;generalize mb zs c ids=k at *;generalize GM zs c ids=n at *;generalize AJ zs c=t at *;obtain⟨a,M⟩:=k;dsimp only at d e E F l g h G K L D j o |-;refine fM 77 [(58,[2,0]),(459,[2,1])] [] [(0,0),(0,0)] Tryz.func346 rfl (λu q=>?_) (.inr o)
 repeat'(first|refine gP ?_|(conv=>whnf);first|refine CM (B) (.inl rfl) ?_|refine CM (C) (.inl rfl) ?_|refine CM (j) (.inl rfl) ?_)
 obtain rfl|rfl|rfl|rfl|rfl|rfl|rfl|rfl|rfl|rfl|rfl|rfl|rfl|rfl|rfl|rfl|rfl|rfl|rfl|rfl:=(show a=0\/a=1\/a=2\/a=3\/a=4\/a=5\/a=6\/a=7\/a=8\/a=9\/a=10\/a=11\/a=12\/a=13\/a=14\/a=15\/a=16\/a=17\/a=18\/a=19 by omega)
 ·rw[CD (show((0:Int))<=6 by decide)]
  repeat'(first|refine gP ?_|(conv=>whnf);refine CM (e) (.inl rfl) ?_)
  refine CK rfl rfl ?_;exact wC
 ·rw[CD (show((1:Int))<=6 by decide)]
  repeat'(first|refine gP ?_|(conv=>whnf);refine CM (e) (.inl rfl) ?_)
  refine CK rfl rfl ?_;exact wC
 ·rw[CD (show((2:Int))<=6 by decide)]
  repeat'(first|refine gP ?_|(conv=>whnf);refine CM (e) (.inl rfl) ?_)
  refine CK rfl rfl ?_;exact wC
 ·rw[CD (show((3:Int))<=6 by decide)]
  repeat'(first|refine gP ?_|(conv=>whnf);refine CM (e) (.inl rfl) ?_)
  refine CK rfl rfl ?_;exact wC
 ·rw[CD (show((4:Int))<=6 by decide)]
  repeat'(first|refine gP ?_|(conv=>whnf);refine CM (e) (.inl rfl) ?_)
  refine CK rfl rfl ?_;exact wC
 ·rw[CD (show((5:Int))<=6 by decide)]
  repeat'(first|refine gP ?_|(conv=>whnf);refine CM (e) (.inl rfl) ?_)
  refine CK rfl rfl ?_;exact wC
 ·rw[CD (show((6:Int))<=6 by decide)]
  repeat'(first|refine gP ?_|(conv=>whnf);refine CM (e) (.inl rfl) ?_)
  refine CK rfl rfl ?_;exact wC
 ·rw[CB (show ¬((7:Int)<=6) by decide),CD (show((7:Int))<=9 by decide)]
  repeat'(first|refine gP ?_|fail)
  refine CK rfl rfl ?_;exact wC
 ·rw[CB (show ¬((8:Int)<=6) by decide),CD (show((8:Int))<=9 by decide)]
  repeat'(first|refine gP ?_|fail)
  refine CK rfl rfl ?_;exact wC
 ·rw[CB (show ¬((9:Int)<=6) by decide),CD (show((9:Int))<=9 by decide)]
  repeat'(first|refine gP ?_|fail)
  refine CK rfl rfl ?_;exact wC
 ·rw[CB (show ¬((10:Int)<=6) by decide),CB (show ¬((10:Int)<=9) by decide),CD (show((10:Int))<=12 by decide)]
  repeat'(first|refine gP ?_|(conv=>whnf);first|refine CM (g) (.inl rfl) ?_|refine CM (h) (.inl rfl) ?_)
  refine CK rfl rfl ?_;exact wC
 ·rw[CB (show ¬((11:Int)<=6) by decide),CB (show ¬((11:Int)<=9) by decide),CD (show((11:Int))<=12 by decide)]
  repeat'(first|refine gP ?_|(conv=>whnf);first|refine CM (g) (.inl rfl) ?_|refine CM (h) (.inl rfl) ?_)
  refine CK rfl rfl ?_;exact wC
 ·rw[CB (show ¬((12:Int)<=6) by decide),CB (show ¬((12:Int)<=9) by decide),CD (show((12:Int))<=12 by decide)]
  repeat'(first|refine gP ?_|(conv=>whnf);first|refine CM (g) (.inl rfl) ?_|refine CM (h) (.inl rfl) ?_)
  refine CK rfl rfl ?_;exact wC
 ·rw[CB (show ¬((13:Int)<=6) by decide),CB (show ¬((13:Int)<=9) by decide),CB (show ¬((13:Int)<=12) by decide),CD (show((13:Int))=13 by decide)]
  repeat'(first|refine gP ?_|(conv=>whnf);refine CM (G) (.inl rfl) ?_)
  refine CK rfl rfl ?_;exact wC
 ·rw[CB (show ¬((14:Int)<=6) by decide),CB (show ¬((14:Int)<=9) by decide),CB (show ¬((14:Int)<=12) by decide),CB (show ¬((14:Int)=13) by decide),CD (show((14:Int))=14 by decide)]
  repeat'(first|refine gP ?_|(conv=>whnf);refine CM (E) (.inl rfl) ?_)
  refine CK rfl rfl ?_;exact wC
 ·rw[CB (show ¬((15:Int)<=6) by decide),CB (show ¬((15:Int)<=9) by decide),CB (show ¬((15:Int)<=12) by decide),CB (show ¬((15:Int)=13) by decide),CB (show ¬((15:Int)=14) by decide),CD (show((15:Int))=15 by decide)]
  repeat'(first|refine gP ?_|fail)
  refine CK rfl rfl ?_;exact wC
 ·rw[CB (show ¬((16:Int)<=6) by decide),CB (show ¬((16:Int)<=9) by decide),CB (show ¬((16:Int)<=12) by decide),CB (show ¬((16:Int)=13) by decide),CB (show ¬((16:Int)=14) by decide),CB (show ¬((16:Int)=15) by decide),CD (show((16:Int))=16 by decide)]
  repeat'(first|refine gP ?_|(conv=>whnf);refine CM (F) (.inl rfl) ?_)
  refine CK rfl rfl ?_;exact wC
 ·rw[CB (show ¬((17:Int)<=6) by decide),CB (show ¬((17:Int)<=9) by decide),CB (show ¬((17:Int)<=12) by decide),CB (show ¬((17:Int)=13) by decide),CB (show ¬((17:Int)=14) by decide),CB (show ¬((17:Int)=15) by decide),CB (show ¬((17:Int)=16) by decide),CD (show((17:Int))=17 by decide)]
  repeat'(first|refine gP ?_|fail)
  refine CK rfl rfl ?_;exact wC
 ·rw[CB (show ¬((18:Int)<=6) by decide),CB (show ¬((18:Int)<=9) by decide),CB (show ¬((18:Int)<=12) by decide),CB (show ¬((18:Int)=13) by decide),CB (show ¬((18:Int)=14) by decide),CB (show ¬((18:Int)=15) by decide),CB (show ¬((18:Int)=16) by decide),CB (show ¬((18:Int)=17) by decide)]
  repeat'(first|refine gP ?_|(conv=>whnf);refine CM (l) (.inl rfl) ?_)
  refine CK rfl rfl ?_;exact wC
 rw[CB (show ¬((19:Int)<=6) by decide),CB (show ¬((19:Int)<=9) by decide),CB (show ¬((19:Int)<=12) by decide),CB (show ¬((19:Int)=13) by decide),CB (show ¬((19:Int)=14) by decide),CB (show ¬((19:Int)=15) by decide),CB (show ¬((19:Int)=16) by decide),CB (show ¬((19:Int)=17) by decide)]
 repeat'(first|refine gP ?_|(conv=>whnf);refine CM (l) (.inl rfl) ?_)
 refine CK rfl rfl ?_;exact wC
def Ek(zs:List Int)(c:iV)(b:jE zs)(d:c.i<=zs.length):zzB 194 false [.ptr (iN zs c),.val none [I 40]] [.ptr (iN zs (lQ zs c).2),.val none [I 40]] .one (pA .own (lQ zs c).1):=by
 have e:=bU zs c 41 b d (by decide);have g:=bL zs c (n:=41) (by decide);obtain⟨n,h⟩:=O3 g.1;have a:(bv zs c 41).1.toNat=n:=by rw[h];rfl
 unfold lQ;rw[a];rw[h]at e g;refine fM 27 [(58,[2,0]),(346,[2,0])] [] [(0,0),(0,0)] Tryz.func194 rfl (λu q=>?_) (.inr (Lt _))
 repeat'(first|refine gP ?_|(conv=>whnf);refine CM (e) (.inl rfl) ?_)
 (conv=>whnf)
 refine CH (ι:=Nat) (λi=>[(0,.H .box (iN zs (lM zs c i).2)),(5,.H .one (pA .own (lM zs c i).1)),(6,.H .one [I ((n:Nat):Int)]),(7,.H .one [I ((i:Nat):Int)])]) (λi=>i<=n) (λi=>n - i) (0) ?_ (X0 _) λi p=>?_
 ·exact wC
 obtain⟨t,-,j⟩:=pQ (zs:=zs) (c:=c) d (n:=i) ω;by_cases w:i<n
 ·have k:=Gu zs (lM zs c i).2 (1+(i:Int) / 2) b j ω
  have l:((i:Nat):Int).tdiv 2=(i:Int) / 2:=Int.tdiv_eq_ediv_of_nonneg ω
  repeat'(first|refine gE ?_|(conv=>whnf);first|with_reducible (first|refine CX l ?_|refine CQ ω ?_)|refine CM (k) (.inl rfl) ?_|refine CU (aT λ_=>rfl) (λr o=>by rw[V1.1 o];rfl) (by simp[aZ,dS,ew.enc]) (by simp;omega) (by simp only[I1];exact wZ (by simp;omega) (by decide)) rfl ?_)
  ((conv=>whnf);refine CG (i+1) ω ω ?_)
  repeat'(first|exact trivial|rfl| exact dZ _ |exact CN rfl (CN (Z0 (C.s dN.own) (by simp[lM];rfl)) trivial)|refine CN ?_ ?_|(exact DS (by first|omega|(simp only;omega)|(simp;omega))))
 obtain rfl:i=n:=ω
 repeat'(first|refine gE ?_|fail)
 refine CK rfl rfl ?_;exact wC
def rfs(h:ab):List Int:=h.G.a0
def Do(k:ah)(p:Int):(newK k p).1.a0=k.a0:=by unfold newK;split<;>rfl
def rZ(k:ah)(p:Int):∀n,(newsK k p n).1.a0=k.a0
 | 0=>rfl
 | n+1=>by
  unfold newsK;split
  ·exact(Do _ _).trans (rZ k p n)
  exact rZ k p n
def Qs(h:ab)(i:Nat):rfs (oO h i).1=rfs h:=by unfold oO;split<;>rfl
def B3(h:ab)(t c:Nat):rfs (smallA h t c).1=rfs h:=by
 unfold smallA;split
 ·rfl
 split
 ·rfl
 split
 ·rfl
 split
 ·exact Do _ _
 exact(Qs _ _).trans (Do _ _)
def Ll(h:ab)(t n:Int):rfs (allocH h t n).1=rfs h:=by
 unfold allocH;split
 ·rfl
 split
 ·rfl
 split
 ·rfl
 split
 ·rfl
 split
 ·split
  ·exact B3 _ _ _
  exact B3 _ _ _
 unfold largeA;split
 ·rfl
 split
 ·exact rZ _ _ _
 exact((lB _ _ _).2).trans (rZ _ _ _)
def PD(h:ab)(t i:Nat):rfs (freeT h t i).1=rfs h:=by
 unfold freeT;split
 ·exact(lB _ _ _).2
 split
 ·rfl
 split
 ·exact(fp t _ _).2.2.2.2.2.2.2
 split<;>rfl
def AQ(t:Nat)(h:ab):∀k,rfs (flushN t h k).1=rfs h
 | 0=>rfl
 | k+1=>((fX _ (spilt (flushN t h k).1 t k)).2.2.2.2.2.2.2).trans (AQ t h k)
def Hi{h:ab}(a:aY h [])(b:JI h):∀n,rfs (stN h n).1=rfs h
 | 0=>rfl
 | n+1=>by
  obtain⟨c,d⟩:=u5 a b n;unfold stN;split
  ·rename_i e
   unfold sD at e;rw[I0]at e;exact((xx c e.1).2.2.1).trans (Hi a b n)
  exact Hi a b n
def PF{w:aQ}{m:Nat}(h:rQ w m)(a:ew):rfs (m9 w a).1.Y=rfs w.Y:=by
 unfold m9;split
 ·exact Ll _ _ _
 split
 ·split
  ·rfl
  unfold mQ;split
  ·unfold q8
   split
   ·rfl
   split
   ·exact PD _ _ _
   rfl
  split
  ·unfold ni
   split
   ·rfl
   split
   ·rfl
   split<;>rfl
  unfold q9;split
  ·exact((lB _ _ _).2).trans (oc _ _ _).2.2
  rfl
 split
 ·unfold fL
  split
  ·split<;>rfl
  split
  ·rfl
  split
  ·exact(fp _ _ _).2.2.2.2.2.2.2
  exact AQ _ _ _
 split
 ·unfold o9
  split
  ·exact(fX _ _).2.2.2.2.2.2.2
  rfl
 split
 ·unfold nI
  split
  ·rfl
  show rfs (started w.Y).1=_;unfold rfs;rw[(vz h.inv).2.1]
 split
 ·exact Hi h.inv h.ji _
 rfl
def Hm{c:cR}(h:E4 c)(acts:List ew):∀n,rfs (zj c acts n).1.Y=c.a0
 | 0=>rfl
 | n+1=>(PF (uW h acts n) _).trans (Hm h acts n)
def rD(w:aQ):List C:=bA w.Y++ay.enc .U w.b3
def Q6(w:aQ):eH (rD w)=aQ.enc .U w:=by
 unfold rD;rw[fA,bI,<-Ce,tC,Ce]
 rfl
def Fp(w:aQ)(id:Int)(g:w.Y.O.length<=1048576):zzB 452 false [.ptr (rD w),.val none [I id]] [.ptr (rD w),.val none [I id]] .one [I (qN w.Y id)]:=by
 refine fM 28 [] [] [(0,0),(0,0)] Tryz.func452 rfl (λu q=>?_)
 repeat'(first|refine gP ?_|fail)
 (conv=>whnf)
 refine CH (ι:=Nat) (λi=>[(0,.H .box (rD w)),(1,.H .one [I (id)]),(5,.H .one [I ((i:Nat):Int)])]) (λi=>i<=w.Y.O.length/\∀(j:Nat)(z:bn),j<i->w.Y.O[j]? = some z->NR id z=false) (λi=>w.Y.O.length - i) (0) ?_ (⟨X0 _,λj z h=>ω⟩) λi c=>?_
 ·exact wC
 obtain⟨c,b⟩:=c;by_cases d:i<w.Y.O.length
 ·have a:=ao d
  by_cases e:(nth w.Y.O i).Id=id
  ·repeat'(first|refine gB ?_|fail)
   refine CK rfl (Z0 (λz=>[I z]) (dB a (O0 e) b).symm) ?_;exact wC
  repeat'(first|refine gB ?_|fail)
  ((conv=>whnf);refine CG (i+1) ⟨ω,dt a (W0 e) b⟩ ω ?_;(exact wC))
 repeat'(first|refine gE ?_|fail)
 refine CK rfl (Z0 (λz=>[I z]) (fy ω b).symm) ?_;exact wC
def de(y:ab):(bA y).length=24:=rfl
def zG(w:aQ)(m n:Nat)(h:rQ w m)(B:n<=50):zzB 457 false [.ptr (rD w),.val none [I (n:Nat)]] [.ptr (rD ⟨(stN w.Y n).1,w.b3⟩),.val none [I (n:Nat)]] .one [I ((stN w.Y n).2:Nat)]:=by
 refine fM 35 [(536,[2])] [] [(0,0),(0,0)] Tryz.func457 rfl (λu q=>?_)
 repeat'(first|refine gP ?_|fail)
 (conv=>whnf)
 refine CH (ι:=Nat) (λi=>[(0,.H .box (rD ⟨(stN w.Y i).1,w.b3⟩)),(1,.H .one [I ((n:Nat):Int)]),(5,.H .one [I (((stN w.Y i).2:Nat):Int)]),(6,.H .one [I ((i:Nat):Int)])]) (λi=>i<=n/\(stN w.Y i).2=i) (λi=>n - i) (0) ?_ (⟨X0 _,rfl⟩) λi l=>?_
 ·exact wC
 obtain⟨l,C⟩:=l;obtain⟨o,D⟩:=u5 h.inv h.ji i;have b:stN w.Y (i+1)=if sD (stN w.Y i).1=true then(mStep (stN w.Y i).1,(stN w.Y i).2+1) else stN w.Y i:=rfl
 have p:=(aG.1 o.ker).2.2.2.2;by_cases E:i<n
 ·cases c:(stN w.Y i).1.u with
  | true=>
   have y:=(D6 _ o c).frame (r:=ay.enc .U w.b3) ((de _).trans (de _).symm);by_cases g:(stN w.Y i).1.G.Calls<=99000
   ·have d:sD (stN w.Y i).1=true:=by unfold sD;rw[c,O0 g];rfl
    rw[CD d]at b;generalize stN w.Y i=s at *
    repeat'(first|refine gE ?_|(conv=>whnf);first|refine Bf.t (O0 g) ?_|refine Bf.t c ?_|refine CM (y) (.inl rfl) ?_)
    ((conv=>whnf);refine CG (i+1) ⟨ω,by rw[b];simp only;omega⟩ ω ?_)
    rw[b];exact wC
   have d:sD (stN w.Y i).1=false:=by unfold sD;rw[c,W0 g];rfl
   have a:∀k,stN w.Y (i+k)=stN w.Y i:=λk=>by
    induction k with
    | zero=>rfl
    | succ k j=>show(if sD (stN w.Y (i+k)).1=true then _ else stN w.Y (i+k))=_;rw[j,d,CB (by simp)]
   have e:=a (n - i);rw[show i+(n - i)=n by omega]at e;rw[e];generalize stN w.Y i=s at *
   repeat'(first|refine gE ?_|(conv=>whnf);first|refine Bf.f (W0 g) ?_|refine Bf.t c ?_)
   refine CK rfl rfl ?_;exact wC
  | false=>
   have d:sD (stN w.Y i).1=false:=by unfold sD;rw[c];rfl
   have a:∀k,stN w.Y (i+k)=stN w.Y i:=λk=>by
    induction k with
    | zero=>rfl
    | succ k j=>show(if sD (stN w.Y (i+k)).1=true then _ else stN w.Y (i+k))=_;rw[j,d,CB (by simp)]
   have e:=a (n - i);rw[show i+(n - i)=n by omega]at e;rw[e];generalize stN w.Y i=s at *
   repeat'(first|refine gE ?_|(conv=>whnf);refine Bf.f c ?_)
   refine CK rfl rfl ?_;exact wC
 obtain rfl:i=n:=ω
 repeat'(first|refine gE ?_|fail)
 refine CK rfl rfl ?_;exact wC
def Hl{k:ah}(a:aA k=true):(aA k&&decide (k.Calls<100000))=decide (k.Calls≠100000):=by
 have:=(aG.1 a).2.2.2.2;rw[a,Bool.true_and,I5,C0,C0];omega
def yh(w:aQ)(a:ew)(m:Nat)(h:rQ w m)(B:a.b6=5\/a.b6=6\/a.b6=7):zzB 454 false [.ptr (rD w),.val (some 5) (ew.enc .U a)] [.ptr (rD ⟨(fL w.Y a).1,w.b3⟩),.val (some 5) (ew.enc .U a)] .one [I (fL w.Y a).2]:=by
 have d:=h.inv;have o:=d.nc;have p:w.Y.S.length<=4:=by have:=(dP.1 d.mail).1.2.1;omega
 have C:=mw.of d.mail;have i:=m0 w.Y.G (bO d.ker);rw[Hl d.ker]at i;have j:=aI a.a4 0 (w.Y.S.length - 1:Int);unfold fL;refine fM 59 [(534,[2,0]),(433,[2,0])] [(3,267,[15,16,17,18,19,20,21,14,22,23,6,0,1,2,3,4,5,6,7,8,9,10,11,1009,12]),(8,15,[30,31,32,33,34,35,36,37,38,39,40,41,42,43,44])] [(0,0),(0,0)] Tryz.func454 rfl (λu q=>?_);by_cases l:a.b6=5
 ·rw[CD l]
  by_cases e:0<=a.a4/\a.a4<=w.Y.S.length - 1
  ·have y:nO w.Y a:=e
   obtain⟨t,g⟩:=O3 e.1;have b:=EO w.Y.q t d.mail ω;rw[<-g]at b;rw[g]at e |-;simp only[I3];rw[g]at b;by_cases c:0<(nth w.Y.q.V t).length
   ·rw[CD (show nO w.Y a/\0<(nth w.Y.q.V t).length from⟨y,c⟩)]
    rw[CD c,O0 c]at b;rw[<-g]at b
    repeat'(first|refine gB ?_|(conv=>whnf);first|with_reducible refine Bf.E (λk=>?_) (λk=>?_)|refine CL (b) ⟨⟨rfl,aL.enc_fz w.Y.q⟩,⟨rfl,rfl⟩,trivial⟩ ?_)
    refine CK rfl rfl ?_;exact wC
   rw[CB (show ¬(nO w.Y a/\0<(nth w.Y.q.V t).length) from λx=>c x.2)];rw[CB c,W0 c]at b;rw[<-g]at b
   repeat'(first|refine gB ?_|(conv=>whnf);first|with_reducible refine Bf.E (λk=>?_) (λk=>?_)|refine CL (b) ⟨⟨rfl,aL.enc_fz w.Y.q⟩,⟨rfl,rfl⟩,trivial⟩ ?_)
   refine CK rfl rfl ?_;exact wC
  rw[CB (show ¬(nO w.Y a/\0<(nth w.Y.q.V a.a4.toNat).length) from λx=>e x.1)];have b:=GV w.Y.q a.a4 d.mail ω
  repeat'(first|refine gB ?_|(conv=>whnf);first|with_reducible refine Bf.E (λk=>?_) (λk=>?_)|refine CL (b) ⟨⟨rfl,aL.enc_fz w.Y.q⟩,⟨rfl,rfl⟩,trivial⟩ ?_)
  refine CK rfl rfl ?_;exact wC
 rw[CB l];by_cases e:w.Y.G.Calls≠100000;rotate_left
 ·rw[CD (show ¬(w.Y.G.Calls≠100000/\nO w.Y a) from λx=>e x.1)]
  rw[W0 e]at i
  repeat'(first|refine gB ?_|(conv=>whnf);refine CL (i) ⟨⟨rfl,CV _⟩,trivial⟩ ?_)
  refine CK rfl rfl ?_;exact wC
 rw[O0 e]at i;by_cases c:0<=a.a4/\a.a4<=w.Y.S.length - 1;rotate_left
 ·rw[CD (show ¬(w.Y.G.Calls≠100000/\nO w.Y a) from λx=>c x.2)]
  rw[W0 c]at j
  repeat'(first|refine gB ?_|(conv=>whnf);first|refine CL (i) ⟨⟨rfl,CV _⟩,trivial⟩ ?_|refine C9 (j) ?_)
  refine CK rfl rfl ?_;exact wC
 rw[CB (show ¬¬(w.Y.G.Calls≠100000/\nO w.Y a) from W4 ⟨e,c⟩)];rw[O0 c]at j;obtain⟨t,g⟩:=O3 c.1;by_cases n:a.b6=6
 ·rw[CD n]
  have b:=(wn w.Y t d ω).frame (r:=ay.enc .U w.b3) ((de _).trans (de _).symm);rw[show a.a4.toNat=t by omega];rw[<-g]at b
  repeat'(first|refine gB ?_|(conv=>whnf);first|refine CL (i) ⟨⟨rfl,CV _⟩,trivial⟩ ?_|refine C9 (j) ?_|refine CM (b) (.inl rfl) ?_)
  refine CK rfl rfl ?_;exact wC
 rw[CB n];have b:=(Ag w.Y t d ω).frame (r:=ay.enc .U w.b3) ((de _).trans (de _).symm);rw[show a.a4.toNat=t by omega];rw[<-g]at b
 repeat'(first|refine gB ?_|(conv=>whnf);first|refine CL (i) ⟨⟨rfl,CV _⟩,trivial⟩ ?_|refine C9 (j) ?_|refine CM (b) (.inl rfl) ?_)
 refine CK rfl rfl ?_;exact wC
def xw(w:aQ)(a:ew)(i m:Nat)(h:rQ w m)(X:m<=900)(G:MS a)(t:i<w.Y.O.length):zzB 453 false [.ptr (rD w),.val (some 5) (ew.enc .U a),.val none [I (i:Nat)]] [.ptr (rD (mQ w a i).1),.val (some 5) (ew.enc .U a),.val none [I (i:Nat)]] .one [I (mQ w a i).2]:=by
 have e:=h.inv;have b:=ao t;have M:=tP e (am t);have N:=cV e (am t) (k:=0);have O:1<=(nth w.Y.O i).o/\(nth w.Y.O i).o<=1000:=by
  rcases e.oow _ (am t) with⟨s,P,Y,Z⟩|⟨l,H,d,c⟩
  ·have hc:=aC (e.L.sok s P)
   have:=gH (n:=(nth w.Y.O i).o) ω;omega
  have h8:=bV (e.L.lok l H);omega
 have g:=m0 w.Y.G (bO e.ker);rw[Hl e.ker]at g;have Q:=G.k;have R:=G.p;have S:=G.v;unfold mQ;refine fM 126 [(527,[2,0,0]),(529,[2,0,0]),(531,[2,0,0])] [(6,7,[29,30,31,32,33,34,35]),(8,269,[40,41,42,43,44,45,46,47,39,48,49,50,51,0,1,2,3,4,5,6,7,8,9,10,11,12,13,1010]),(13,10,[62,63,64,65,66,67,68,69,70,71]),(15,273,[76,77,78,79,80,81,82,83,84,85,86,87,75,88,89,90,91,0,1,2,3,4,5,6,7,8,9,10,11,12,13,14,15,16,17,1014]),(17,15,[93,94,95,96,97,98,99,100,101,102,103,104,105,106,107]),(19,271,[112,113,114,115,116,117,118,119,120,121,111,122,123,124,125,0,1,2,3,4,5,6,7,8,9,10,11,12,13,14,15,1012])] [(0,0),(0,0),(0,0)] Tryz.func453 rfl (λu q=>?_);by_cases J:a.b6=2
 ·rw[CD J]
  unfold q8;by_cases d:w.Y.G.Calls=100000
  ·rw[CD d]
   rw[W0 (W4 d)]at g
   repeat'(first|refine gB ?_|(conv=>whnf);refine CL (g) ⟨⟨rfl,CV _⟩,trivial⟩ ?_)
   refine CK rfl rfl ?_;exact wC
  rw[CB d];rw[O0 d]at g;have C:=(R4 w.Y i a.a4 e t).frame (r:=ay.enc .U w.b3) ((de _).trans (de _).symm);by_cases c:0<=a.a4/\a.a4<=w.Y.S.length - 1
  ·rw[CD (show nO w.Y a from c)]
   rw[CD c,CD c]at C;have T:=DI w.b3 (nth w.Y.O i).Id m h.ref ω;generalize freeT w.Y a.a4.toNat i=f at C |-;by_cases o:f.2=0
   ·rw[CD o]
    repeat'(first|refine gB ?_|(conv=>whnf);first|with_reducible refine Bf.E (λj=>?_) (λj=>?_)|refine CL (g) ⟨⟨rfl,CV _⟩,trivial⟩ ?_|refine CM (C) (.inl rfl) ?_|refine Cl.sh T rfl ?_)
    refine CK rfl rfl ?_;exact wC
   rw[CB o]
   repeat'(first|refine gB ?_|(conv=>whnf);first|with_reducible refine Bf.E (λj=>?_) (λj=>?_)|refine CL (g) ⟨⟨rfl,CV _⟩,trivial⟩ ?_|refine CM (C) (.inl rfl) ?_)
   refine CK rfl rfl ?_;exact wC
  rw[CB (show ¬nO w.Y a from c)];rw[CB c,CB c]at C
  repeat'(first|refine gB ?_|(conv=>whnf);first|with_reducible refine Bf.E (λj=>?_) (λj=>?_)|refine CL (g) ⟨⟨rfl,CV _⟩,trivial⟩ ?_|refine CM (C) (.inl rfl) ?_)
  refine CK rfl rfl ?_;exact wC
 rw[CB J];by_cases K:a.b6=3
 ·rw[CD K]
  unfold ni;have D:=aI a.At 0 ((nth w.Y.O i).o - 1);by_cases d:0<=a.At/\a.At<=(nth w.Y.O i).o - 1;rotate_left
  ·rw[CD d]
   rw[W0 d]at D
   repeat'(first|refine gB ?_|(conv=>whnf);first|with_reducible refine Bf.E (λj=>?_) (λj=>?_)|refine C9 (D) ?_)
   refine CK rfl rfl ?_;exact wC
  rw[CB (W4 d)];rw[O0 d]at D;have F:=(zO w.Y i a.At a.Value e t d).frame (r:=ay.enc .U w.b3) (by split<;>rfl);have U:=cV e (am t) d;by_cases c:(ac w.Y.G.F.R (((nth w.Y.O i).Addr+a.At) / 16)).e=1
  ·rw[CD c]
   rw[CD (.inl c),CD c]at F
   repeat'(first|refine gB ?_|(conv=>whnf);first|with_reducible refine Bf.E (λj=>?_) (λj=>?_)|refine C9 (D) ?_|refine CM (F) (.inl rfl) ?_)
   refine CK rfl rfl ?_;exact wC
  rw[CB c];by_cases o:0<=a.Value/\a.Value<=999;rotate_left
  ·rw[CD o]
   rw[CD (.inr o),CB c,CD o]at F
   repeat'(first|refine gB ?_|(conv=>whnf);first|with_reducible refine Bf.E (λj=>?_) (λj=>?_)|refine C9 (D) ?_|refine CM (F) (.inl rfl) ?_)
   refine CK rfl rfl ?_;exact wC
  rw[CB (W4 o)];rw[CB (λx=>x.elim c λy=>y o),CB c,CB (W4 o)]at F;obtain⟨b5,V⟩:=DO w.b3 (nth w.Y.O i).Id a.At a.Value m h.ref ω o
  repeat'(first|refine gB ?_|(conv=>whnf);first|with_reducible refine Bf.E (λj=>?_) (λj=>?_)|refine C9 (D) ?_|refine CM (F) (.inl rfl) ?_|refine C9 (V) ?_)
  refine CK rfl rfl ?_;exact wC
 rw[CB K];unfold q9;by_cases d:w.Y.G.Calls=100000
 ·rw[CB (λx=>x.1 d)]
  rw[W0 (W4 d)]at g
  repeat'(first|refine gB ?_|(conv=>whnf);refine CL (g) ⟨⟨rfl,CV _⟩,trivial⟩ ?_)
  refine CK rfl rfl ?_;exact wC
 rw[O0 d]at g;by_cases c:m8 w.Y i a.Value
 ·rw[CD ⟨d,c⟩]
  have B:=(tH w.Y i a.Value e t c.1).frame (r:=ay.enc .U w.b3) (by split<;>rfl);rw[CD c,O0 c]at B;obtain⟨b7,W⟩:=FI w.b3 (nth w.Y.O i).Id a.Value m h.ref ω
  repeat'(first|refine gB ?_|(conv=>whnf);first|refine CL (g) ⟨⟨rfl,CV _⟩,trivial⟩ ?_|refine CM (B) (.inl rfl) ?_|refine C9 (W) ?_)
  refine CK rfl rfl ?_;exact wC
 rw[CB (λx=>c x.2)];by_cases o:zU w.Y (nth w.Y.O i).Addr<0
 ·have B:=(Jk w.Y (nth w.Y.O i).Addr a.Value (by have:=e.lens.larges;omega) e.L.lok o).frame (r:=ay.enc .U w.b3) ((de _).trans (de _).symm)
  repeat'(first|refine gB ?_|(conv=>whnf);first|refine CL (g) ⟨⟨rfl,CV _⟩,trivial⟩ ?_|refine CM (B) (.inl rfl) ?_)
  refine CK rfl rfl ?_;exact wC
 have B:=(tH w.Y i a.Value e t ω).frame (r:=ay.enc .U w.b3) (by split<;>rfl);rw[CB c,W0 c]at B
 repeat'(first|refine gB ?_|(conv=>whnf);first|refine CL (g) ⟨⟨rfl,CV _⟩,trivial⟩ ?_|refine CM (B) (.inl rfl) ?_)
 refine CK rfl rfl ?_;exact wC
def rQ.fit{w:aQ}{m:Nat}(h:rQ w m)(a:jN w.Y.G.a0):ab.sml w.Y/\ab.wf w.Y:=
 ⟨(h.inv.fit a (mw.of h.inv.mail).sml).sml,h.inv.wf a⟩
def Jh(w:aQ)(a:ew)(m:Nat)(h:rQ w m)(K:m<=900)(L:jN w.Y.G.a0)(p:MS a):zzB 343 false [.ptr (rD w),.val (some 5) (ew.enc .U a)] [.ptr (rD (m9 w a).1),.val (some 5) (ew.enc .U a)] .one [I (m9 w a).2]:=by
 have i:=h.inv;have M:=p.k;have O:=p.n;have j:=i.nums;unfold cq at j;rw[C0]at j;unfold m9;refine fM 123 [(71,[2,0,0]),(452,[2,0]),(453,[2,0,0]),(454,[2,0]),(456,[2,0]),(130,[2]),(457,[2,0])] [(3,265,[13,14,15,16,17,18,19,21,22,0,1,2,3,4,5,6,7,8,9,10,11,1010,12]),(5,269,[26,27,28,29,30,31,32,33,25,34,35,36,37,0,1,2,3,4,5,6,7,8,9,10,11,12,13,1010]),(19,21,[62,63,64,65,66,67,68,69,70,71,72,73,74,75,76,77,78,79,80,81,82]),(21,5,[86,87,88,89,90])] [(0,0),(0,0)] Tryz.func343 rfl (λu q=>?_);by_cases F:a.b6=1
 ·rw[CD F]
  have c:=(Aa w.Y a.a4 a.N i).frame (r:=ay.enc .U w.b3) ((de _).trans (de _).symm);by_cases e:(allocH w.Y a.a4 a.N).2.2=0
  ·rw[CD e]
   have y:1<=a.N/\a.N<=1000:=by
    refine Classical.byContradiction λB=>?_
    unfold allocH at e;rw[CD B]at e;split at e
    ·exact absurd (show(5:Int)=0 from e) (by decide)
    split at e
    ·exact absurd (show(1:Int)=0 from e) (by decide)
    exact absurd (show(2:Int)=0 from e) (by decide)
   have o:=zm w.b3 a.N m h.ref ω y;generalize allocH w.Y a.a4 a.N=f at c e |-
   repeat'(first|refine gB ?_|(conv=>whnf);first|with_reducible refine Bf.E (λb=>?_) (λb=>?_)|refine CM (c) (.inl rfl) ?_|refine C9 (o) ?_)
   refine CK rfl rfl ?_;exact wC
  rw[CB e];generalize allocH w.Y a.a4 a.N=f at c e |-
  repeat'(first|refine gB ?_|(conv=>whnf);first|with_reducible refine Bf.E (λb=>?_) (λb=>?_)|refine CM (c) (.inl rfl) ?_)
  refine CK rfl rfl ?_;exact wC
 rw[CB F];by_cases G:a.b6=2\/a.b6=3\/a.b6=4
 ·rw[CD G]
  have c:=Fp w a.N (by have:=i.lens.objs;omega);by_cases e:qN w.Y a.N<0
  ·rw[CD e]
   repeat'(first|refine gB ?_|(conv=>whnf);first|with_reducible refine Bf.E (λb=>?_) (λb=>?_)|refine CM (c) (.inl rfl) ?_)
   all_goals first|omega|skip
   all_goals
    refine CK rfl rfl ?_;exact wC
  rw[CB e];obtain⟨P,S,T⟩:=fR (NR a.N) w.Y.O (by unfold qN at e;omega);have o:=xw w a (qN w.Y a.N).toNat m h K p P;rw[show(((qN w.Y a.N).toNat:Nat):Int)=qN w.Y a.N by omega]at o
  repeat'(first|refine gB ?_|(conv=>whnf);first|with_reducible refine Bf.E (λb=>?_) (λb=>?_)|refine CM (c) (.inl rfl) ?_|refine CM (o) (.inl rfl) ?_)
  all_goals first|omega|skip
  all_goals
   refine CK rfl rfl ?_;exact wC
 rw[CB G];by_cases C:a.b6=5\/a.b6=6\/a.b6=7
 ·rw[CD C]
  have c:=yh w a m h C
  repeat'(first|refine gB ?_|(conv=>whnf);first|with_reducible refine Bf.E (λb=>?_) (λb=>?_)|refine CM (c) (.inl rfl) ?_)
  all_goals first|omega|skip
  all_goals
   refine CK rfl rfl ?_;exact wC
 rw[CB C];by_cases H:a.b6=8
 ·rw[CD H]
  unfold o9;have d:=m0 w.Y.G (bO i.ker);rw[Hl i.ker]at d;have c:=aI a.N 0 1000;by_cases g:w.Y.G.Calls≠100000;rotate_left
  ·rw[CB (λx=>g x.1)]
   rw[W0 g]at d
   repeat'(first|refine gB ?_|(conv=>whnf);first|with_reducible refine Bf.E (λb=>?_) (λb=>?_)|refine CL (d) ⟨⟨rfl,CV _⟩,trivial⟩ ?_)
   refine CK rfl rfl ?_;exact wC
  rw[O0 g]at d;by_cases l:0<=a.N/\a.N<=1000;rotate_left
  ·rw[CB (λx=>l x.2.1)]
   rw[W0 l]at c
   repeat'(first|refine gB ?_|(conv=>whnf);first|with_reducible refine Bf.E (λb=>?_) (λb=>?_)|refine CL (d) ⟨⟨rfl,CV _⟩,trivial⟩ ?_|refine C9 (c) ?_)
   refine CK rfl rfl ?_;exact wC
  rw[O0 l]at c;by_cases D:w.Y.b5+a.N<=1000000
  ·rw[CD ⟨g,l,D⟩]
   have o:=(Dv w.Y a.N i l D).frame (r:=ay.enc .U w.b3) ((de _).trans (de _).symm)
   repeat'(first|refine gB ?_|(conv=>whnf);first|with_reducible refine Bf.E (λb=>?_) (λb=>?_)|refine CL (d) ⟨⟨rfl,CV _⟩,trivial⟩ ?_|refine C9 (c) ?_|refine CM (o) (.inl rfl) ?_)
   refine CK rfl rfl ?_;exact wC
  rw[CB (λx=>D x.2.2)]
  repeat'(first|refine gB ?_|(conv=>whnf);first|with_reducible refine Bf.E (λb=>?_) (λb=>?_)|refine CL (d) ⟨⟨rfl,CV _⟩,trivial⟩ ?_|refine C9 (c) ?_)
  refine CK rfl rfl ?_;exact wC
 rw[CB H];by_cases J:a.b6=9
 ·rw[CD J]
  unfold nI;obtain⟨Q,R⟩:=h.fit L;have d:=EJ w.Y Q R;rw[show cN w.Y=true from i.to]at d;cases g:w.Y.u with
  | true=>
   rw[CD rfl]
   repeat'(first|refine gB ?_|(conv=>whnf);first|with_reducible refine Bf.E (λb=>?_) (λb=>?_)|refine Bf.t g ?_)
   refine CK rfl rfl ?_;exact wC
  | false=>
   rw[CB (by simp)];have c:=(zS w.Y i).frame (r:=ay.enc .U w.b3) ((de _).trans (de _).symm);cases l:(started w.Y).2<;>rw[l]at c
   ·rw[CB (by simp)]
    repeat'(first|refine gB ?_|(conv=>whnf);first|with_reducible refine Bf.E (λb=>?_) (λb=>?_)|refine Bf.f g ?_|refine CL (d) ⟨⟨rfl,bI w.Y⟩,trivial⟩ ?_|refine CM (c) (.inl rfl) ?_)
    refine CK rfl rfl ?_;exact wC
   rw[CD rfl]
   repeat'(first|refine gB ?_|(conv=>whnf);first|with_reducible refine Bf.E (λb=>?_) (λb=>?_)|refine Bf.f g ?_|refine CL (d) ⟨⟨rfl,bI w.Y⟩,trivial⟩ ?_|refine CM (c) (.inl rfl) ?_)
   refine CK rfl rfl ?_;exact wC
 rw[CB J];have k10:a.b6=10:=ω
 have d:=aI a.N 0 50;by_cases g:0<=a.N/\a.N<=50
 ·rw[CD ⟨k10,g⟩]
  rw[O0 g]at d;obtain⟨n,B⟩:=O3 g.1;have c:=zG w m n h ω;rw[show a.N.toNat=n by omega];rw[<-B]at c
  repeat'(first|refine gB ?_|(conv=>whnf);first|with_reducible refine Bf.E (λb=>?_) (λb=>?_)|refine C9 (d) ?_|refine CM (c) (.inl rfl) ?_)
  refine CK rfl rfl ?_;exact wC
 rw[CB (λx=>g x.2)];rw[W0 g]at d
 repeat'(first|refine gB ?_|(conv=>whnf);first|with_reducible refine Bf.E (λb=>?_) (λb=>?_)|refine C9 (d) ?_)
 refine CK rfl rfl ?_;exact wC
end Go.Proofs.YtecefhjnejfheaaGreat.Ab
