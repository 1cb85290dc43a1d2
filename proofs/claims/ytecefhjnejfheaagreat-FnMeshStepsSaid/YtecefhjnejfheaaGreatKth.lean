/- Whether a page holds nothing that nobody owns: contracts, the reference's and the program's. No condition. -/
import Derived.Test.YtecefhjnejfheaaGreatKtd
import Derived.Test.YtecefhjnejfheaaGreatKtg
import Derived.Test.YtecefhjnejfheaaGreatKte
import Derived.Test.YtecefhjnejfheaaGreatKtf
set_option linter.unusedVariables false
set_option linter.unusedSimpArgs false
set_option linter.constructorNameAsVariable false
namespace Go.Proofs.YtecefhjnejfheaaGreat.Ab
open Go.RowKit
set_option maxRecDepth 20000
set_option maxHeartbeats 4000000
theorem or64{z1 z2:Int}(h1:0<=z1/\z1<=65535)(a:0<=z2/\z2<=65535):IntKind.i64.wrap ((BitVec.ofInt IntKind.i64.bits z1 ||| BitVec.ofInt IntKind.i64.bits z2).toNat:Nat)=bor z1 z2:=by
 rw[BitVec.toNat_or,nh ω,nh ω];have b:=N5 h1 a;unfold bor at b |-;exact eN ω ω
theorem zu(h:ab)(i:Nat)(n:dN h.K)(d:wG h)(a:∀s∈h.K,bf s=true)(y:i<h.K.length):ar Tryz.prog 482 false [.val (some 24) (ab.enc .X h),.val none [I (i:Nat)]] .one [I (ip h i)]:=by
 have F:=n.1;have G:=ao y;have g:=vY a y;have B:=aG ((i:Nat):Int) 0 ((h.K.length:Int) - 1);rw[O0 (show(0:Int)<=(i:Nat)/\((i:Nat):Int)<=(h.K.length:Int) - 1 by omega)]at B;have C:=iy h (nth h.K i).R d;have o:=gn h (nth h.K i).R;have H:eY h<=1048576:=d.1;have c:ip h i=kw h.K (aT h (nth h.K i).R) (nth h.K i).b2 (aT h (nth h.K i).R).length:=rfl;obtain⟨ps,q⟩ : ∃ps,aT h (nth h.K i).R=ps:=⟨_,rfl⟩
 obtain⟨b,r⟩ : ∃b,(nth h.K i).b2=b:=⟨_,rfl⟩
 rw[q]at C o c;rw[r]at c g;rw[c];have J:kw h.K ps b 0=b:=rfl;refine fO 63 [(4,7,[22,23,24,25,26,27,28]),(11,10,[43,44,45,46,47,48,49,50,51,52])] Tryz.func482 rfl ?_
 repeat'(first|refine gO ?_|(conv=>whnf);first|with_reducible refine CC (aa G) ?_|refine C7 (B) ?_|refine C7 (C) ?_)
 (conv=>whnf)
 refine CE (ι:=Nat) (λu=>[(2,.H .box (ab.enc .X h)),(5,.H .one [I (kw h.K ps b u)]),(6,.H .one (aD .own ps)),(7,.H .one [I ((u:Nat):Int)])]) (λu=>u<=ps.length) (λu=>ps.length - u) (0) ?_ (U0 _) λu M=>?_
 ·exact wB
 by_cases K:u<ps.length
 ·have l:=ao K
  have t:=sD a (ps:=ps) g u
  repeat'(first|refine gD ?_|fail)
  (conv=>whnf)
  refine CE (ι:=Nat) (λj=>[(2,.H .box (ab.enc .X h)),(5,.H .one [I (sZ h.K (nth ps u) (kw h.K ps b u) j)]),(6,.H .one (aD .own ps)),(7,.H .one [I ((u:Nat):Int)]),(8,.H .one [I ((j:Nat):Int)])]) (λj=>j<=h.K.length) (λj=>h.K.length - j) (0) ?_ (U0 _) λj L=>?_
  ·exact wB
  by_cases D:j<h.K.length
  ·have E:=ao D
   have w:=wd a (p:=nth ps u) t j L;by_cases e:(nth h.K j).R=nth ps u
   ·have k:sZ h.K (nth ps u) (kw h.K ps b u) (j+1)=bor (sZ h.K (nth ps u) (kw h.K ps b u) j) (nth h.K j).b2:=C9 e
    repeat'(first|refine gA ?_|(conv=>whnf);first|with_reducible (first|refine CC (aa l) ?_|refine CC (aa E) ?_)|refine CH rfl (aa l) rfl ?_|refine CM (or64 w (vY a D)) ?_)
    ((conv=>whnf);refine CD (j+1) ω ω ?_;(exact wB))
   have k:sZ h.K (nth ps u) (kw h.K ps b u) (j+1)=sZ h.K (nth ps u) (kw h.K ps b u) j:=C8 e
   repeat'(first|refine gA ?_|(conv=>whnf);first|with_reducible (first|refine CC (aa l) ?_|refine CC (aa E) ?_)|refine CH rfl (aa l) rfl ?_)
   ((conv=>whnf);refine CD (j+1) ω ω ?_;(exact wB))
  obtain rfl:j=h.K.length:=ω
  repeat'(first|refine gD ?_|fail)
  ((conv=>whnf);refine CD (u+1) ω ω ?_;(exact wB))
 obtain rfl:u=ps.length:=ω
 repeat'(first|refine gD ?_|fail)
 rfl
theorem uk{xs:List bu}(h:∀o∈xs,0<=o.q/\o.q<=1000):∀k:Nat,k<=xs.length->0<=uj xs k/\uj xs k<=1000*k
 | 0,_=>⟨Y4 _,Y4 _⟩
 | k+1,a=>by
  have b:=uk h k ω;have c:=h _ (am (xs:=xs) (i:=k) ω);simp only[uj];omega
theorem yg(h:ab)(a:∀o∈h.O,0<=o.q/\o.q<=1000)(e:h.O.length<=1048576):ar Tryz.prog 20 false [.val (some 24) (ab.enc .X h)] .one [I (uf h)]:=by
 refine fO 21 [] Tryz.func20 rfl ?_
 repeat'(first|refine gO ?_|fail)
 (conv=>whnf)
 refine CE (ι:=Nat) (λk=>[(1,.H .box (ab.enc .X h)),(3,.H .one [I (uj h.O k)]),(4,.H .one [I ((k:Nat):Int)])]) (λk=>k<=h.O.length) (λk=>h.O.length - k) (0) ?_ (U0 _) λk c=>?_
 ·exact wB
 have g:=uk a k c;by_cases b:k<h.O.length
 ·have d:=ao b
  have i:=a _ (am b)
  repeat'(first|refine gD ?_|(conv=>whnf);refine CC (aa d) ?_)
  ((conv=>whnf);refine CD (k+1) ω ω ?_;(exact wB))
 obtain rfl:k=h.O.length:=ω
 repeat'(first|refine gD ?_|fail)
 rfl
theorem xh(k b:Int)(h:b<=9223372036854775807):ar Tryz.prog 481 false [.val none [I (slots k)],.val none [I b]] .one (aD .own (qQ k b)):=by
 have c:=qy k b;have p:0<=slots k/\slots k<=16:=by unfold slots;repeat' split<;>omega
 unfold qQ;cases e:MQ k b<;>rw[e]at c
 ·rw[C8 (by simp)]
  refine fO 27 [] Tryz.func481 rfl ?_ (.inr (bH _))
  repeat'(first|refine gO ?_|fail)
  (conv=>whnf)
  refine CE (ι:=Nat) (λj=>[(0,.H .one [I (slots k)]),(1,.H .one [I (b)]),(5,.H .one (aD .own [])),(6,.H .one [I ((j:Nat):Int)])]) (λj=>j=0) (λj=>1 - j) (0) ?_ (rfl) λj g=>?_
  ·exact wB
  subst g
  repeat'(first|refine gD ?_|(conv=>whnf);first|with_reducible refine Bf.D (λi=>?_) (λi=>?_)|refine C7 (c) ?_)
  all_goals rfl
 rw[C9 rfl];refine fO 27 [] Tryz.func481 rfl ?_ (.inr (bH _))
 repeat'(first|refine gO ?_|fail)
 (conv=>whnf)
 refine CE (ι:=Nat) (λj=>[(0,.H .one [I (slots k)]),(1,.H .one [I (b)]),(5,.H .one (aD .own (pm b j))),(6,.H .one [I ((j:Nat):Int)])]) (λj=>j<=(slots k).toNat) (λj=>(slots k).toNat - j) (0) ?_ (U0 _) λj g=>?_
 ·exact wB
 have l:=tU b j;by_cases q:j<(slots k).toNat
 ·have d:=iW b (j:Nat) h
  have a:pm b (j+1)=if aS b (j:Nat)=true then pm b j else pm b j++[((j:Nat):Int)]:=rfl
  cases n:aS b (j:Nat)<;>rw[n]at d a
  ·rw[C8 (by simp)]at a
   repeat'(first|refine gD ?_|(conv=>whnf);first|refine C7 (c) ?_|refine C7 (d) ?_|refine CT cn (λr o=>by rw[I1.1 o];rfl) (by simp[aY,eg]) (by simp;omega) (by simp only[Z0];exact yI (by simp;omega) (by decide)) rfl ?_)
   ((conv=>whnf);refine CD (j+1) ω ω ?_)
   rw[a]
   repeat'(first|exact trivial|rfl|exact CK rfl (CK (W0 (C.s dQ.own) (by simp[rI])) trivial)|refine CK ?_ ?_)
  rw[C9 rfl]at a
  repeat'(first|refine gD ?_|(conv=>whnf);first|refine C7 (c) ?_|refine C7 (d) ?_)
  ((conv=>whnf);refine CD (j+1) ω ω ?_)
  rw[a];exact wB
 obtain rfl:j=(slots k).toNat:=ω
 repeat'(first|refine gD ?_|fail)
 rfl
theorem Kj(b i:Int):bor b (2 ^ i.toNat)=ic b i:=by
 unfold bor ic;have:((2 ^ i.toNat:Nat):Int)=(2:Int) ^ i.toNat:=Int.natCast_pow 2 i.toNat;rw[<-this,W2]
theorem zJ(b i:Int)(d:0<=b/\b<=65535)(a:0<=i/\i<=15):ar Tryz.prog 484 false [.val none [I b],.val none [I i]] .one [I (ic b i)]:=by
 have c:=pL b i;rw[O0 ω]at c;have e:IntKind.u64.wrap i=i:=by unfold IntKind.wrap;simp[IntKind.signed,IntKind.bits];omega
 have h:=(shl64 a).2;have g:=(or64 (z1:=b) (z2:=2 ^ i.toNat) d ω).trans (Kj b i);refine fO 15 [] Tryz.func484 rfl ?_
 repeat'(first|refine gO ?_|(conv=>whnf);first|refine C7 (c) ?_|refine CN ω ?_|refine CM e ?_|refine CM (shl64 a).1 ?_|refine CM g ?_)
 rfl
theorem LR{s:ax}(b:bf s=true){k:Int}(d:0<=k/\k<slots s.d):0<=k*csz s.d/\k*csz s.d<=15:=by
 have a:=aF b;have c:=gU a.2.2;rcases bO a.2.2 with e|e|e|e<;>rw[e]at c |-<;>omega
theorem z7(s:ax)(k:Int)(a:bf s=true)(d:0<=k/\k<slots s.d):ar Tryz.prog 485 false [.val (some 3) (ax.enc .X s),.val none [I k]] .one [I (16*s.R+k*csz s.d)]:=by
 have e:=aF a;have i:=LR a d;have j:=gU e.2.2;have b:=gK s;rw[a]at b;have g:=nv s.d;have c:=aG k 0 (slots s.d - 1);rw[O0 ω]at c;have h:=dZ s.d;refine fO 26 [(3,8,[17,18,19,20,21,22,23,24])] Tryz.func485 rfl ?_
 repeat'(first|refine gO ?_|(conv=>whnf);first|refine C7 (b) ?_|refine C7 (g) ?_|refine C7 (c) ?_|refine C7 (h) ?_)
 exact W0 (λz=>[I z]) ω
theorem B6(f:bc)(g:f.a5.length<=1048576):ar Tryz.prog 486 false [.val (some 2) (bc.enc .X f)] .one [I (d9 (λu=>!u) f.a5)]:=by
 refine fO 18 [] Tryz.func486 rfl ?_
 repeat'(first|refine gO ?_|fail)
 (conv=>whnf)
 refine CE (ι:=Nat) (λi=>[(1,.H .box (bc.enc .X f)),(3,.H .one [I ((i:Nat):Int)])]) (λi=>i<=f.a5.length/\∀(j:Nat)(z:Bool),j<i->f.a5[j]? = some z->(!z)=false) (λi=>f.a5.length - i) (0) ?_ (⟨U0 _,λj z h=>ω⟩) λi c=>?_
 ·exact wB
 obtain⟨c,b⟩:=c;by_cases d:i<f.a5.length
 ·have a:=ao d
  cases e:nth f.a5 i<;>rw[e]at a
  ·repeat'(first|refine gD ?_|(conv=>whnf);with_reducible refine CC (aa a) ?_)
   exact W0 (λz=>[I z]) (dE a rfl b).symm
  repeat'(first|refine gD ?_|(conv=>whnf);with_reducible refine CC (aa a) ?_)
  ((conv=>whnf);refine CD (i+1) ⟨ω,dv a rfl b⟩ ω ?_;(exact wB))
 repeat'(first|refine gD ?_|fail)
 exact W0 (λz=>[I z]) (gk ω b).symm
theorem nK(m:aK):∀(n i:Nat),i<n->((nth m.U i).length:Int)+(nth m.a1 i).length<=bx m n/\0<=bx m n
 | 0,i,h=>absurd h (Nat.not_lt_zero i)
 | n+1,i,h=>by
  have a:0<=bx m n:=by
   cases n with
   | zero=>exact Y4 _
   | succ k=>exact(nK m (k+1) 0 ω).2
  simp only[bx];by_cases e:i=n
  ·subst e;omega
  have:=(nK m n i ω).1;omega
structure jQ(m:aK):Prop where
 b4:1<=m.U.length/\m.U.length<=4
 i4:m.a1.length=m.U.length
 bl:∀i,i<m.U.length->(nth m.U i).length<=30
 il:∀i,i<m.U.length->(nth m.a1 i).length<=30
theorem jQ.of{m:aK}(h:bN m=true):jQ m:=by
 obtain⟨⟨b,c,d⟩,-,e⟩:=dP.1 h;exact⟨⟨b,c⟩,d,λi a=>by have:=(nK m m.U.length i a).1;omega,λi a=>by have:=(nK m m.U.length i a).1;omega⟩
theorem jQ.sml{m:aK}(h:jQ m):aK.sml m:=by
 have c:=h.b4;have d:=h.i4;refine⟨⟨ω,λl a=>?_⟩,⟨ω,λl a=>?_⟩⟩
 ·obtain⟨i,b,rfl⟩:=aL a
  have:=h.bl i b;exact⟨ω,λ_ _=>trivial⟩
 obtain⟨i,b,rfl⟩:=aL a;have:=h.il i ω;show(nth m.a1 i).length<=1048576;omega
theorem sU(m:aK)(k:Int)(a:aK.sml m):ar Tryz.prog 569 false [.val (some 2) (aK.enc .X m),.val none [I k]] .one [B (bN m&&decide (0<=k/\k<=m.U.length - 1))]:=by
 have b:=lV m a;have c:m.U.length<=1048576:=a.1.1;cases e:bN m<;>rw[e]at b
 all_goals
  refine fO 15 [] Tryz.func569 rfl ?_
  repeat'(first|refine gO ?_|(conv=>whnf);first|refine C7 (b) ?_|refine C7 (aG k 0 (m.U.length - 1:Int)) ?_)
  all_goals rfl
theorem R2{m:aK}{f:Nat}(a:f<m.U.length):m.U[f]? = some (nth m.U f):=ao a
theorem JN(m:aK)(f:Nat)(p:dw):aK.enc .own (iu m f p)=[.s .own ((m.U.map (cK .own)).set f (cK .own (nth m.U f++[p]))),.s .own (m.a1.map (aD .own))]:=by simp[aK.enc,iu,X5]
theorem JD{m:aK}(h:jQ m){f:Nat}(c:f<m.U.length)(p:dw):aK.sml (iu m f p):=by
 have d:=h.b4;have b:=h.sml;refine⟨⟨by simp only[iu,O1];omega,λl a=>?_⟩,b.2⟩;rcases C6 a with a|rfl
 ·exact b.1.2 l a
 have:=h.bl f c;exact⟨by simp;omega,λ_ _=>trivial⟩
theorem Ky(m:aK)(f:Nat)(p:dw)(j:bN m=true)(g:f<m.U.length):ar Tryz.prog 561 false [.val (some 2) (aK.enc .X m),.val none [I (f:Nat)],.val (some 2) (dw.enc .X p)] (.tup [some 2,none]) (aK.enc .own (if bN (iu m f p)=true then iu m f p else m)++[B (bN (iu m f p))]):=by
 have c:=jQ.of j;have k:=c.sml;have q:=c.b4;have h:=sU m f k;rw[j,O0 ω]at h;have l:=fY m k;have b:=JD c g p;have i:=lV (iu m f p) b;have n:=fY (iu m f p) b;have a:=R2 g;have o:=c.bl f g;have d:=aK.enc_fz (iu m f p);rw[JN]at d;cases e:bN (iu m f p)<;>rw[e]at i
 ·rw[C8 (by simp)]
  refine fO 35 [(4,267,[16,17,18,19,20,21,22,23,24,25,27,0,1,2,3,4,5,6,7,8,9,10,1000,1001,1002,11,12])] Tryz.func561 rfl ?_ (.inr (aI (aK.enc_fr _) ⟨trivial,trivial⟩))
  repeat'(first|refine gO ?_|(conv=>whnf);first|with_reducible refine CC (aa a) ?_|refine CB ?_|refine CC (gE a) ?_|refine C7 (h) ?_|refine C7 (l) ?_|refine Lq.one rfl rfl (aa a) rfl (C1 rfl) rfl rfl ?_|refine CH rfl (aa a) rfl ?_|refine CP rfl rfl (gE a) rfl (C1 rfl) (show [C.s dQ.own ((m.U.map (cK .own)).set f (cK .own (nth m.U f++[p]))),C.s .own (m.a1.map (aD .own))]=_ from by simp only[List.set_cons_zero,List.set_set,W2];rfl) ?_|refine Ap.sm (aO λ_=>rfl) rfl (by simp;omega) (by decide) (gi _ _ _) ?_|refine CG (i) ⟨⟨rfl,d⟩,trivial⟩ ?_)
  rfl
 rw[C9 rfl];refine fO 35 [(4,267,[16,17,18,19,20,21,22,23,24,25,27,0,1,2,3,4,5,6,7,8,9,10,1000,1001,1002,11,12])] Tryz.func561 rfl ?_ (.inr (aI (aK.enc_fr _) ⟨trivial,trivial⟩))
 repeat'(first|refine gO ?_|(conv=>whnf);first|with_reducible refine CC (aa a) ?_|refine CB ?_|refine CC (gE a) ?_|refine C7 (h) ?_|refine C7 (l) ?_|refine Lq.one rfl rfl (aa a) rfl (C1 rfl) rfl rfl ?_|refine CH rfl (aa a) rfl ?_|refine CP rfl rfl (gE a) rfl (C1 rfl) (show [C.s dQ.own ((m.U.map (cK .own)).set f (cK .own (nth m.U f++[p]))),C.s .own (m.a1.map (aD .own))]=_ from by simp only[List.set_cons_zero,List.set_set,W2];rfl) ?_|refine Ap.sm (aO λ_=>rfl) rfl (by simp;omega) (by decide) (gi _ _ _) ?_|refine CG (i) ⟨⟨rfl,d⟩,trivial⟩ ?_|refine CG (n) ⟨⟨rfl,d⟩,trivial⟩ ?_)
 rfl
theorem GH(m:aK)(f:Int)(a:bN m=true)(d:¬(0<=f/\f<=m.U.length - 1)):ar Tryz.prog 533 false [.val (some 2) (aK.enc .X m),.val none [I f]] (.tup [some 2,none]) (aK.enc .own m++[B false]):=by
 have e:=jQ.of a;have b:=e.sml;have c:=sU m f b;rw[a,T0 d]at c;have g:=fY m b;refine fO 60 [(5,267,[31,32,33,34,35,36,37,38,39,40,42,0,1,2,3,4,5,6,7,8,9,10,1000,1001,1002,11,12]),(6,270,[43,44,45,46,47,48,49,50,51,52,53,54,55,57,0,1,2,3,4,5,6,7,8,9,10,11,12,13,1000,1001,1002,1003,14,15])] Tryz.func533 rfl ?_ (.inr (aI (aK.enc_fr _) ⟨trivial,trivial⟩))
 repeat'(first|refine gO ?_|(conv=>whnf);first|refine C7 (c) ?_|refine C7 (g) ?_)
 rfl
theorem Hl(m:aK)(f t:Nat)(a:(nth (nth m.U f) 0).To=t):aK.enc .own (gf m f)=[.s .own ((m.U.map (cK .own)).set f [.s .own (((nth m.U f).drop 1).map (dw.enc .X))]),.s .own ((m.a1.map (aD .own)).set t (aD .own (nth m.a1 t++[(nth (nth m.U f) 0).Addr])))]:=by
 unfold aK.enc gf;simp only[X5,a,W2]
 rfl
theorem Fd(m:aK)(f:Nat)(h:bN m=true)(i:f<m.U.length):ar Tryz.prog 533 false [.val (some 2) (aK.enc .X m),.val none [I (f:Nat)]] (.tup [some 2,none]) (aK.enc .own (if 0<(nth m.U f).length then gf m f else m)++[B (decide (0<(nth m.U f).length))]):=by
 have d:=jQ.of h;have u:=d.sml;have K:=d.b4;have D:=d.i4;have j:=sU m f u;rw[h,O0 ω]at j;have w:=fY m u;have a:=R2 i;have F:=d.bl f i;by_cases e:0<(nth m.U f).length
 ·rw[C9 e,O0 e]
  have g:=((dP.1 h).2.1 f i).1 _ (am e);obtain⟨t,k⟩:=X2 g.1;have l:t<m.a1.length:=ω
  have y:=ao e;have c:=ao l;have G:=d.il t ω;have n:=(jQ.of (Ft h i e)).sml;have H:=fY (gf m f) n;have o:=aK.enc_fz (gf m f);rw[Hl m f t k]at o;have q:=aI (b:=[B true]) (aK.enc_fr (gf m f)) ⟨trivial,trivial⟩;generalize L:nth (nth m.U f) 0=p at *;obtain⟨M,J⟩:=p;simp only at k g o;subst k;refine fO 60 [(5,267,[31,32,33,34,35,36,37,38,39,40,42,0,1,2,3,4,5,6,7,8,9,10,1000,1001,1002,11,12]),(6,270,[43,44,45,46,47,48,49,50,51,52,53,54,55,57,0,1,2,3,4,5,6,7,8,9,10,11,12,13,1000,1001,1002,1003,14,15])] Tryz.func533 rfl ?_ (.inr q)
  repeat'(first|refine gA ?_|(conv=>whnf);first|with_reducible (first|refine CC (aa a) ?_|refine CC (aa c) ?_)|refine CB ?_|refine CL (by decide) (aa y) ?_|refine CC (gE c) ?_|refine C7 (j) ?_|refine C7 (w) ?_|refine CH rfl (aa c) rfl ?_|refine Lq.one rfl rfl (aa c) rfl (C1 rfl) rfl rfl ?_|refine Sl.suf 1 rfl (by rw[Z0];omega) (aO λ_=>rfl) z4 ?_|refine CV (λ_=>rfl) (λ_=>rfl) (by rw[O3];omega) (by decide) ?_|refine CO (λ_=>rfl) (λ_=>rfl) (by rw[O3];omega) (by decide) ?_|refine CP rfl rfl (aa a) rfl (C1 rfl) rfl ?_|refine CP rfl rfl (gE c) rfl (C1 rfl) (show [C.s dQ.own ((m.U.map (cK .own)).set f [.s .own (((nth m.U f).drop 1).map (dw.enc .X))]),C.s .own ((m.a1.map (aD .own)).set t (aD .own (nth m.a1 t++[J])))]=_ from by simp only[List.set_cons_zero,List.set_cons_succ,List.set_set,W2];rfl) ?_|refine Ap.sm (aO λ_=>rfl) rfl (by simp;omega) (by decide) (gi _ _ _) ?_|refine CG (H) ⟨⟨rfl,o⟩,trivial⟩ ?_)
  rfl
 rw[C8 e,T0 e];refine fO 60 [(5,267,[31,32,33,34,35,36,37,38,39,40,42,0,1,2,3,4,5,6,7,8,9,10,1000,1001,1002,11,12]),(6,270,[43,44,45,46,47,48,49,50,51,52,53,54,55,57,0,1,2,3,4,5,6,7,8,9,10,11,12,13,1000,1001,1002,1003,14,15])] Tryz.func533 rfl ?_ (.inr (aI (aK.enc_fr _) ⟨trivial,trivial⟩))
 repeat'(first|refine gA ?_|(conv=>whnf);first|with_reducible refine CC (aa a) ?_|refine C7 (j) ?_|refine C7 (w) ?_)
 rfl
theorem KZ.set(rows:List (List C))(i:Nat){r n:List C}(h:Mn r n):KZ (.s .own (rows.set i r)) (.s .own (rows.set i n)):=by
 refine .own_ _ _ (by simp) (λj a b d f=>?_) (λj l a b c p d f o g=>?_)
 ·by_cases e:i=j
  ·subst e
   have k:i<rows.length:=by have:=(I2.1 d).1;simpa using this
   rw[U3 k]at d f;cases d;cases f;exact h.1
  rw[List.getElem?_set_ne e]at d f;rw[d]at f;cases f;rfl
 by_cases e:i=j
 ·subst e
  have k:i<rows.length:=by have:=(I2.1 d).1;simpa using this
  rw[U3 k]at d f;cases d;cases f;exact h.2 l c p o g
 rw[List.getElem?_set_ne e]at d f;rw[d]at f;cases f;rw[o]at g;cases g;exact .rfl_ _
theorem DB(m:aK)(t:Nat)(d:bN m=true)(h:t<m.U.length):ar Tryz.prog 570 false [.val (some 2) (aK.enc .X m),.val none [I (t:Nat)]] (.tup [some 2,none]) (aK.enc .own (lh m t)++aD .own (nth m.a1 t)):=by
 have b:=jQ.of d;have e:=b.sml;have o:=b.b4;have j:=b.i4;have g:=sU m t e;rw[d,O0 ω]at g;have k:=fY m e;have c:=ao (xs:=m.a1) (i:=t) ω;have l:=b.il t h;have a:=aI (aK.enc_fr (lh m t)) (bH (nth m.a1 t));have n:aK.enc .own (lh m t)=[.s .own (m.U.map (cK .own)),.s .own ((m.a1.map (aD .own)).set t [.s .own []])]:=by simp[aK.enc,lh,X5];rfl
 rw[n]at a |-;refine fO 28 [(5,263,[20,21,22,23,24,25,26,0,1,2,3,4,5,6,7,1000,8,9])] Tryz.func570 rfl ?_ (.inr a)
 repeat'((conv=>whnf);first|with_reducible (first|refine CC (aa c) ?_|refine Bn ?_|refine iX.dk rfl ?_)|refine Bt ?_|refine CB ?_|refine C7 (g) ?_|refine C7 (k) ?_|refine CP rfl rfl (aa c) rfl (C1 rfl) rfl ?_|refine CO (λ_=>rfl) (λ_=>rfl) ω (by decide) ?_)
 exact .cons (.rfl_ _) (.cons (KZ.set _ _ (.cons .z_ .nil)) (.cons (.rfl_ _) .nil))
theorem Ji(now:Int):∀{l:List aQ}{i:Nat},i<=l.length->(∀j,j<i->(nth l j).b7<now - 100)->(i<l.length->¬(nth l i).b7<now - 100)->sC now l=i
 | [],i,h,_,_=>by simp at h;subst h;rfl
 | x::xs,0,_,_,h=>by
  unfold sC;exact C8 (h (by simp))
 | x::xs,i+1,b,a,c=>by
  unfold sC;refine(C9 (a 0 ω)).trans ?_;rw[Ji now (l:=xs) (i:=i) (by simp at b;omega) (λj d=>a (j+1) ω) (λe=>c (by simp;omega))]
def Qe(q:bL)(now:Int):List C:=bL.enc .own ⟨q.c1,q.a6.drop (sC now q.a6)⟩++cW .own (q.a6.take (sC now q.a6))
theorem vN(q:bL)(now:Int)(g:gv q=true)(G:q.a6.length<=4096)(u:0<=now/\now<=1000000):ar Tryz.prog 535 false [.val (some 2) (bL.enc .X q),.val none [I now],.val none [I 100]] (.tup [some 2,none]) (Qe q now):=by
 have w:bL.sml q:=⟨ω,λ_ _=>trivial⟩
 have n:=oK q w;rw[g]at n;have o:=aG now 0 1000000;rw[O0 u]at o;have p:=aG 100 0 1000000;rw[O0 (by decide)]at p;have h:=(kg.1 g).1;have a:hC (Qe q now):=aI (bL.enc_fr _) (vc _);have y:∀i,i<q.a6.length->0<=(nth q.a6 i).b7:=λi b=>(h _ (am b)).2.2.2
 unfold Qe at a |-;generalize B:sC now q.a6=k at a |-;refine fO 59 [(6,270,[44,45,46,47,48,49,50,51,53,54,55,56,57,58,0,1,2,3,4,5,6,7,9,10,11,12,13,14,8,1009,1010,1011,1012,1013,1014,15,16])] Tryz.func535 rfl ?_ (.inr a)
 repeat'(first|refine gO ?_|(conv=>whnf);first|refine C7 (n) ?_|refine C7 (o) ?_|refine C7 (p) ?_)
 (conv=>whnf)
 refine CE (ι:=Nat) (λi=>[(1,.H .one [I (now)]),(2,.H .one [I (100)]),(3,.H .box (bL.enc .X q)),(6,.H .box [I 0,.z]),(8,.H .one [I ((i:Nat):Int)])]) (λi=>i<=q.a6.length/\∀j,j<i->(nth q.a6 j).b7<now - 100) (λi=>q.a6.length - i) (0) ?_ (⟨U0 _,λj C=>ω⟩) λi b=>?_
 ·exact wC
 obtain⟨b,r⟩:=b;by_cases l:i<q.a6.length/\(nth q.a6 i).b7<now - 100
 ·have c:=ao l.1
  repeat'(first|refine gD ?_|(conv=>whnf);with_reducible refine CC (aa c) ?_)
  ((conv=>whnf);refine CD (i+1) ⟨ω,λj C=>by by_cases e:j=i;(subst e;exact l.2);exact r j ω⟩ ω ?_;(exact wC))
 have d:=Ji now (i:=i) b r (λE F=>l ⟨E,F⟩);rw[B]at d;subst d;by_cases t:k<q.a6.length
 ·have c:=ao t
  have:=y k t
  repeat'(first|refine gD ?_|(conv=>whnf);first|with_reducible refine CC (aa c) ?_|refine CB ?_|refine CU k rfl (by rw[Z0];omega) (aO λ_=>rfl) v4 ?_|refine Sl.suf k rfl (by rw[Z0];omega) (aO λ_=>rfl) z4 ?_|refine CV (λ_=>rfl) (λ_=>rfl) (by rw[U1];omega) (by decide) ?_|refine CV (λ_=>rfl) (λ_=>rfl) (by rw[O3];omega) (by decide) ?_|refine CO (λ_=>rfl) (λ_=>rfl) (by rw[O3];omega) (by decide) ?_)
  rfl
 repeat'(first|refine gD ?_|(conv=>whnf);first|refine CB ?_|refine CU k rfl (by rw[Z0];omega) (aO λ_=>rfl) v4 ?_|refine Sl.suf k rfl (by rw[Z0];omega) (aO λ_=>rfl) z4 ?_|refine CV (λ_=>rfl) (λ_=>rfl) (by rw[U1];omega) (by decide) ?_|refine CV (λ_=>rfl) (λ_=>rfl) (by rw[O3];omega) (by decide) ?_|refine CO (λ_=>rfl) (λ_=>rfl) (by rw[O3];omega) (by decide) ?_)
 rfl
theorem BU(h:ab)(n:Int)(g:aX h [])(r:0<=n/\n<=1000)(p:h.b3+n<=1000000):aW Tryz.prog 456 false [.ptr (bB h),.val none [I n]] [.ptr (bB (tick h n)),.val none [I n]] .one [I ((nA h n).length:Nat)]:=by
 have a:=g.nums;unfold cj at a;rw[C0]at a;have t:=g.lens.quar;have i:=vN h.a9 (h.b3+n) g.quar ω ⟨ω,p⟩;have j:=g.aged r.1 p;unfold Qe at i;unfold tick nA aged at *;have l:(h.a9.a6.take (sC (h.b3+n) h.a9.a6)).length<=4096:=by rw[U1];omega
 rw[Z0];generalize h.a9.a6.take (sC (h.b3+n) h.a9.a6)=out at i j l |-;generalize h.a9.a6.drop (sC (h.b3+n) h.a9.a6)=rest at i j |-;refine fM 48 [(511,[2,0])] [(2,269,[18,19,20,21,22,23,24,25,26,17,27,28,5,0,1,2,3,4,5,6,7,8,9,10,11,12,13,1011,14])] [(0,0),(0,0)] Tryz.func456 rfl (λu q=>?_)
 repeat'(first|refine gO ?_|(conv=>whnf);first|refine CB ?_|refine CG (i) ⟨⟨rfl,bL.enc_fz h.a9⟩,⟨rfl,rfl⟩,⟨rfl,rfl⟩,trivial⟩ ?_)
 (conv=>whnf)
 refine CE (ι:=Nat) (λk=>[(0,.H .box (bB (freeAs {h with b3:=h.b3+n,a9:=⟨h.a9.c1,rest⟩} ((out.map (·.Addr)).take k)))),(6,.H .one (cW .own out)),(7,.H .one [I ((k:Nat):Int)])]) (λk=>k<=out.length) (λk=>out.length - k) (0) ?_ (U0 _) λk y=>?_
 ·exact wC
 by_cases o:k<out.length
 ·have b:=ao o
  have c:k<(out.map (·.Addr)).length:=by rw[Z0];exact o
  have d:nth (out.map (·.Addr)) k=(nth out k).Addr:=bm (by rw[C3,ao o];rfl);have e:aX (freeAs {h with b3:=h.b3+n,a9:=⟨h.a9.c1,rest⟩} ((out.map (·.Addr)).take k)) (nth (out.map (·.Addr)) k::(out.map (·.Addr)).drop (k+1)):=by
   refine aX.freeAs ?_;rw[<-iP c,List.take_append_drop];rw[List.append_nil]at j;exact j
  rw[d]at e;have w:=n8 _ _ _ e
  repeat'(first|refine gD ?_|(conv=>whnf);first|refine CC (aa b) ?_|refine CH rfl (aa b) rfl ?_|refine CJ (w) (.inl rfl) ?_)
  ((conv=>whnf);refine CD (k+1) ω ω ?_)
  rw[uZ _ _ _ c,d];exact wC
 obtain rfl:k=out.length:=ω
 rw[W6 (by rw[Z0];omega)]
 repeat'(first|refine gD ?_|(conv=>whnf);refine CB ?_)
 refine CF rfl rfl ?_;exact wC
theorem EF(t:Nat)(h:ab)(az:List Int)(k:Nat)(a:k<az.length):recycs t h (az.take (k+1))=recyc t (recycs t h (az.take k)) (nth az k):=by
 unfold recycs;rw[I5,ao a,Option.toList_some,List.foldl_append];rfl
theorem vT(h:ab)(t:Nat)(a:aX h [])(i:t<h.T.length):aW Tryz.prog 534 false [.ptr (bB h),.val none [I (t:Nat)]] [.ptr (bB (collect h t)),.val none [I (t:Nat)]] .one [I ((nth h.y.a1 t).length:Nat)]:=by
 have l:=a.nc;have n:=(dP.1 a.mail).1.2.2;have j:=DB h.y t a.mail ω;have c:=(jQ.of a.mail).il t ω;have d:=a.coll (t:=t) ω;rw[List.append_nil]at d;unfold collect;generalize nth h.y.a1 t=out at j d c |-;refine fM 36 [(564,[2,0,0])] [] [(0,0),(0,0)] Tryz.func534 rfl (λu q=>?_)
 repeat'(first|(conv=>whnf);refine CG (j) ⟨⟨rfl,aK.enc_fz h.y⟩,⟨rfl,rfl⟩,trivial⟩ ?_)
 (conv=>whnf)
 refine CE (ι:=Nat) (λk=>[(0,.H .box (bB (recycs t {h with y:=lh h.y t} (out.take k)))),(1,.H .one [I ((t:Nat):Int)]),(6,.H .one (aD .own out)),(7,.H .one [I ((k:Nat):Int)])]) (λk=>k<=out.length) (λk=>out.length - k) (0) ?_ (U0 _) λk p=>?_
 ·exact wC
 by_cases e:k<out.length
 ·have b:=ao e
  have g:aX (recycs t {h with y:=lh h.y t} (out.take k)) (nth out k::out.drop (k+1)):=by
   refine aX.recycs ?_ i;rw[<-iP e,List.take_append_drop];exact d
  have o:=oe _ _ t _ g (by rw[(fo t _ _).1];exact i)
  repeat'(first|refine gD ?_|(conv=>whnf);first|refine CC (aa b) ?_|refine CH rfl (aa b) rfl ?_|refine CJ (o) (.inl rfl) ?_)
  ((conv=>whnf);refine CD (k+1) ω ω ?_)
  rw[EF _ _ _ _ e];exact wC
 obtain rfl:k=out.length:=ω
 rw[t5]
 repeat'(first|refine gD ?_|(conv=>whnf);refine CB ?_)
 refine CF rfl rfl ?_;exact wC
def LA(a:Int)(o:bu):Bool:=decide (o.Addr<=a/\a<o.Addr+o.q)
theorem GA(h:ab)(E:List Int)(a:Int)(d:aX h E):aW Tryz.prog 566 false [.ptr (bB h),.val none [I a]] [.ptr (bB h),.val none [I a]] .one [I (d9 (LA a) h.O)]:=by
 have r:=d.lens.objs;refine fM 47 [] [(4,29,[15,16,17,18,19,20,21,22,23,24,25,26,27,28,29,30,31,32,33,34,35,36,37,38,39,40,41,42,43])] [(0,0),(0,0)] Tryz.func566 rfl (λu q=>?_)
 repeat'(first|(conv=>whnf);refine CB ?_)
 (conv=>whnf)
 refine CE (ι:=Nat) (λi=>[(0,.H .box (bB h)),(1,.H .one [I (a)]),(5,.H .one [I ((i:Nat):Int)])]) (λi=>i<=h.O.length/\∀(j:Nat)(z:bu),j<i->h.O[j]? = some z->LA a z=false) (λi=>h.O.length - i) (0) ?_ (⟨U0 _,λj z C=>ω⟩) λi d=>?_
 ·exact wC
 obtain⟨t,c⟩:=d;by_cases e:i<h.O.length
 ·have b:=ao e
  have w:=um ‹aX h E› (am e);have y:0<=(nth h.O i).q/\(nth h.O i).q<=1000:=by
   rcases aX.oow ‹aX h E› _ (am e) with⟨s,B,F,G⟩|⟨l,g,k,o⟩
   ·have H:=aF ((aX.L ‹aX h E›).sok s B)
    have:=iA (n:=(nth h.O i).q) ω;omega
   have J:=cQ ((aX.L ‹aX h E›).lok l g);omega
  by_cases k:(nth h.O i).Addr<=a
  ·by_cases o:a<(nth h.O i).Addr+(nth h.O i).q
   ·repeat'(first|refine gD ?_|(conv=>whnf);first|with_reducible refine CC (aa b) ?_|refine CH rfl (aa b) rfl ?_)
    refine CF rfl (W0 (λz=>[I z]) (dE b (O0 ⟨k,o⟩) c).symm) ?_;exact wC
   repeat'(first|refine gD ?_|(conv=>whnf);first|with_reducible refine CC (aa b) ?_|refine CH rfl (aa b) rfl ?_)
   ((conv=>whnf);refine CD (i+1) ⟨ω,dv b (T0 λx=>o x.2) c⟩ ω ?_;(exact wC))
  repeat'(first|refine gD ?_|(conv=>whnf);first|with_reducible refine CC (aa b) ?_|refine CH rfl (aa b) rfl ?_)
  ((conv=>whnf);refine CD (i+1) ⟨ω,dv b (T0 λx=>k x.1) c⟩ ω ?_;(exact wC))
 repeat'(first|refine gD ?_|(conv=>whnf);refine CB ?_)
 refine CF rfl (W0 (λz=>[I z]) (gk ω c).symm) ?_;exact wC
theorem HO(h:ab)(a v:Int):bB {h with G:=dI h.G a v} = (bB h).set 0 (.s .own ((h.G.F.W.S.map (aD .own)).set (ac h.G.F.Q (a / 16)).e.toNat ((aD .own (nth h.G.F.W.S (cR h.G a))).set 0 (.s .own (((nth h.G.F.W.S (cR h.G a)).map (rI .own)).set (a % 16).toNat (splice (rI .own (nth (nth h.G.F.W.S (cR h.G a)) (a % 16).toNat)) 0 [I v])))))):=by
 simp[bB,dI,setCell,X5,aD,splice,cR,rI]
theorem ER{α:Type}{p:α->Bool}{xs:List α}{x:α}(a:x∈xs)(b:p x=true):0<=d9 p xs:=by
 have:=jA p xs;rw[show xs.any p=true from Y3.2 ⟨x,a,b⟩,C0]at this;exact this
theorem zi(h:ab)(i:Nat)(j v:Int)(e:aX h [])(C:i<h.O.length)(D:0<=j/\j<=(nth h.O i).q - 1):aW Tryz.prog 529 false [.ptr (bB h),.val none [I ((nth h.O i).Addr+j)],.val none [I v]]
  [.ptr (bB (if(ac h.G.F.Q (((nth h.O i).Addr+j) / 16)).j=1\/¬(0<=v/\v<=999) then h else {h with G:=dI h.G ((nth h.O i).Addr+j) v})),.val none [I ((nth h.O i).Addr+j)],.val none [I v]] .one [I (if(ac h.G.F.Q (((nth h.O i).Addr+j) / 16)).j=1 then 2 else if ¬(0<=v/\v<=999) then 3 else 0)]:=by
 obtain⟨E,J,K⟩:=cL e (am C) D;have F:0<=d9 (LA ((nth h.O i).Addr+j)) h.O:=ER (am C) (O0 ω);have p:=GA h [] ((nth h.O i).Addr+j) e;have r:=bp e.ker;have t:=cM h.G.F.Q (((nth h.O i).Addr+j) / 16) r.1.2;have n:=aG v 0 999;generalize L:(nth h.O i).Addr+j=a at *;have b:0<=a/\a<512:=ω
 obtain⟨-,-,-,G,M⟩:=bI e.ker E;have H:=(aU.1 (aB.1 e.ker).2.1).2.2.1;have k:cR h.G a<h.G.F.W.S.length:=by unfold cR;omega
 have d:h.G.F.W.S[(ac h.G.F.Q (a / 16)).e.toNat]? = some (nth h.G.F.W.S (cR h.G a)):=ao k;have w:=e.lens.row _ (am k);have l:=ao (xs:=nth h.G.F.W.S (cR h.G a)) (i:=(a % 16).toNat) (by rw[w];omega);have B:a.tmod 16=a % 16:=dK b.1;refine fM 42 [(566,[2,0])] [(8,14,[27,28,29,30,31,32,33,34,35,36,37,38,39,40])] [(0,0),(0,0),(0,0)] Tryz.func529 rfl (λu q=>?_);by_cases o:(ac h.G.F.Q (a / 16)).j=1
 ·rw[C9 (Or.inl o),C9 o]
  repeat'(first|refine gA ?_|(conv=>whnf);first|refine CJ (p) (.inl rfl) ?_|refine CG (t) ⟨⟨rfl,CY _⟩,⟨rfl,rfl⟩,trivial⟩ ?_|refine CN (by decide) ?_|refine CM (oD b) ?_)
  refine CF rfl rfl ?_;exact wC
 rw[C8 (c:=_=(1:Int)) o];by_cases g:0<=v/\v<=999
 ·rw[O0 g]at n
  rw[C8 (c:=¬(0<=v/\v<=999)) (t4 g),C8 (c:=_\/¬(0<=v/\v<=999)) (λy=>y.elim o λy=>y g)]
  repeat'(first|refine gA ?_|(conv=>whnf);first|refine CJ (p) (.inl rfl) ?_|refine CG (t) ⟨⟨rfl,CY _⟩,⟨rfl,rfl⟩,trivial⟩ ?_|refine C7 (n) ?_|refine CN (by decide) ?_|refine CM (oD b) ?_|refine CQ B ?_|refine CL G (aa d) ?_|refine CH rfl (aa d) rfl ?_|refine CL ω (aa l) ?_|refine Pu.two rfl rfl (aa d) rfl rfl rfl (aa l) rfl (z3 _) (HO h a v) ?_)
  refine CF rfl rfl ?_;exact wC
 rw[T0 g]at n;rw[C9 (Or.inr g),C9 g]
 repeat'(first|refine gA ?_|(conv=>whnf);first|refine CJ (p) (.inl rfl) ?_|refine CG (t) ⟨⟨rfl,CY _⟩,⟨rfl,rfl⟩,trivial⟩ ?_|refine C7 (n) ?_|refine CN (by decide) ?_|refine CM (oD b) ?_)
 refine CF rfl rfl ?_;exact wC
def xF(l:a8)(n:Int):aA:=if(n+15) / 16<l.a3 then⟨l.R+(n+15) / 16,l.a3 - (n+15) / 16⟩ else⟨0,0⟩
theorem xg(l:a8)(n:Int)(d:bJ l=true):ar Tryz.prog 567 false [.val (some 3) (a8.enc .X l),.val none [I n]] (.tup [some 3,some 2,none]) (if 9<=n/\n<=l.q then a8.enc .own (trimL l n)++aA.enc .own (xF l n)++[B true] else a8.enc .own l++[I 0,I 0]++[B false]):=by
 have b:=nG l;rw[d]at b;have a:=aG n 9 l.q;have g:=d;unfold bJ at g;rw[C0]at g;by_cases e:9<=n/\n<=l.q
 ·rw[O0 e]at a
  rw[C9 e];have c:=mc n;rw[show fL n=(n+15) / 16 by unfold fL;rw[C9 ω]]at c;unfold xF;by_cases h:(n+15) / 16<l.a3
  ·rw[C9 h]
   refine fO 43 [(7,261,[37,38,39,40,42,0,1,2,3,5,4,1005,6,1005,7,8])] Tryz.func567 rfl ?_ (.inr ⟨trivial,trivial,trivial,trivial,trivial,trivial,trivial⟩)
   repeat'(first|refine gD ?_|(conv=>whnf);first|refine CB ?_|refine C7 (b) ?_|refine C7 (a) ?_|refine C7 (c) ?_)
   rfl
  rw[C8 h];refine fO 43 [(7,261,[37,38,39,40,42,0,1,2,3,5,4,1005,6,1005,7,8])] Tryz.func567 rfl ?_ (.inr ⟨trivial,trivial,trivial,trivial,trivial,trivial,trivial⟩)
  repeat'(first|refine gD ?_|(conv=>whnf);first|refine CB ?_|refine C7 (b) ?_|refine C7 (a) ?_|refine C7 (c) ?_)
  rfl
 rw[T0 e]at a;rw[C8 e];refine fO 43 [(7,261,[37,38,39,40,42,0,1,2,3,5,4,1005,6,1005,7,8])] Tryz.func567 rfl ?_ (.inr ⟨trivial,trivial,trivial,trivial,trivial,trivial,trivial⟩)
 repeat'(first|refine gO ?_|(conv=>whnf);first|refine C7 (b) ?_|refine C7 (a) ?_)
 rfl
theorem Dx(h:ab)(t a:Int)(c:h.T.length<=4)(d:¬(0<=t/\t<=h.T.length - 1)):aW Tryz.prog 527 false [.ptr (bB h),.val none [I t],.val none [I a]] [.ptr (bB h),.val none [I t],.val none [I a]] .one [I 1]:=by
 have b:=aG t 0 (h.T.length - 1:Int);rw[T0 d]at b;refine fM 148 [(560,[2,0]),(562,[2,0]),(564,[2,0,0]),(559,[2,0])] [(15,269,[68,69,70,71,72,73,74,75,77,67,78,79,11,0,1,2,3,4,5,6,7,13,8,1000,1001,1002,1003,1004,1013,9,10,11,12,14,1012,15]),(22,15,[92,93,94,95,96,97,98,99,100,101,102,103,104,105,106]),(25,271,[116,117,118,119,120,121,122,123,124,125,127,115,128,129,14,0,1,2,3,4,5,6,7,8,9,15,10,1000,1001,1002,1003,1015,11,12,13,14,16,1014,17])] [(0,0),(0,0),(0,0)] Tryz.func527 rfl (λu q=>?_)
 repeat'(first|refine gO ?_|(conv=>whnf);refine C7 (b) ?_)
 refine CF rfl rfl ?_;exact wC
theorem F6(h:ab)(i t:Nat)(a:aX h [])(j:i<h.O.length)(U:t<h.T.length)(K:(nth h.O i).a4≠t):aW Tryz.prog 527 false [.ptr (bB h),.val none [I (t:Nat)],.val none [I (nth h.O i).Addr]] [.ptr (bB (freeT h t i).1),.val none [I (t:Nat)],.val none [I (nth h.O i).Addr]] .one [I (freeT h t i).2]:=by
 have F:=am j;obtain⟨-,L,d⟩:=a.objAt F;have N:pc h (nth h.O i).Addr=i:=by
  have V:=(a.objAt F).1;exact cJ (f:=(·.Addr)) (df a.osr) V j (by rw[L])
 rw[N]at d;have b:=um a F;have W:=a.onu _ F;have n:=a.lens;have X:=n.objs;have Y:=a.nc;have Z:=jQ.of a.mail;have hb4:=Z.b4;have o:=aG (t:Nat) 0 (h.T.length - 1:Int);rw[O0 ω]at o;have p:=rD h (nth h.O i).Addr ω;rw[d]at p;have e:=ao j;have G:=kN (nth h.O i).q;have O:=bp a.ker;have P:=cM h.G.F.Q ((nth h.O i).Addr / 16) O.1.2;unfold freeT;by_cases H:aJ (nth h.O i).q<0
 ·rw[C9 H]
  have c3:=qw h i a j H;refine fM 148 [(560,[2,0]),(562,[2,0]),(564,[2,0,0]),(559,[2,0])] [(15,269,[68,69,70,71,72,73,74,75,77,67,78,79,11,0,1,2,3,4,5,6,7,13,8,1000,1001,1002,1003,1004,1013,9,10,11,12,14,1012,15]),(22,15,[92,93,94,95,96,97,98,99,100,101,102,103,104,105,106]),(25,271,[116,117,118,119,120,121,122,123,124,125,127,115,128,129,14,0,1,2,3,4,5,6,7,8,9,15,10,1000,1001,1002,1003,1015,11,12,13,14,16,1014,17])] [(0,0),(0,0),(0,0)] Tryz.func527 rfl (λu q=>?_)
  repeat'(first|refine gD ?_|(conv=>whnf);first|refine C7 (o) ?_|refine CG (p) ⟨⟨rfl,bG h⟩,⟨rfl,rfl⟩,trivial⟩ ?_|refine CC (aa e) ?_|refine CH rfl (aa e) rfl ?_|refine C7 (G) ?_|refine CJ (c3) (.inl rfl) ?_)
  refine CF rfl rfl ?_;exact wC
 rw[C8 H];obtain⟨s1,s2,s3,s4⟩:=RI.of a (am j) H;by_cases J:(ac (tbl h) ((nth h.O i).Addr / 16)).j=1
 ·rw[C9 J]
  unfold tbl at J;refine fM 148 [(560,[2,0]),(562,[2,0]),(564,[2,0,0]),(559,[2,0])] [(15,269,[68,69,70,71,72,73,74,75,77,67,78,79,11,0,1,2,3,4,5,6,7,13,8,1000,1001,1002,1003,1004,1013,9,10,11,12,14,1012,15]),(22,15,[92,93,94,95,96,97,98,99,100,101,102,103,104,105,106]),(25,271,[116,117,118,119,120,121,122,123,124,125,127,115,128,129,14,0,1,2,3,4,5,6,7,8,9,15,10,1000,1001,1002,1003,1015,11,12,13,14,16,1014,17])] [(0,0),(0,0),(0,0)] Tryz.func527 rfl (λu q=>?_)
  repeat'(first|refine gA ?_|(conv=>whnf);first|refine CN (by decide) ?_|refine CM (oD b) ?_|refine C7 (o) ?_|refine CG (p) ⟨⟨rfl,bG h⟩,⟨rfl,rfl⟩,trivial⟩ ?_|refine CC (aa e) ?_|refine CH rfl (aa e) rfl ?_|refine C7 (G) ?_|refine CG (P) ⟨⟨rfl,CY _⟩,⟨rfl,rfl⟩,trivial⟩ ?_)
  refine CF rfl rfl ?_;exact wC
 rw[C8 J,C8 K];unfold tbl at J;have r:=Ky h.y t ⟨(nth h.O i).a4,(nth h.O i).Addr⟩ a.mail ω;by_cases l:bN (iu h.y t ⟨(nth h.O i).a4,(nth h.O i).Addr⟩)=true;rotate_left
 ·rw[C8 l]
  rw[C8 l,show bN (iu h.y t ⟨(nth h.O i).a4,(nth h.O i).Addr⟩)=false by simpa using l]at r;refine fM 148 [(560,[2,0]),(562,[2,0]),(564,[2,0,0]),(559,[2,0])] [(15,269,[68,69,70,71,72,73,74,75,77,67,78,79,11,0,1,2,3,4,5,6,7,13,8,1000,1001,1002,1003,1004,1013,9,10,11,12,14,1012,15]),(22,15,[92,93,94,95,96,97,98,99,100,101,102,103,104,105,106]),(25,271,[116,117,118,119,120,121,122,123,124,125,127,115,128,129,14,0,1,2,3,4,5,6,7,8,9,15,10,1000,1001,1002,1003,1015,11,12,13,14,16,1014,17])] [(0,0),(0,0),(0,0)] Tryz.func527 rfl (λu q=>?_)
  repeat'(first|refine gA ?_|(conv=>whnf);first|refine CB ?_|refine CN (by decide) ?_|refine CM (oD b) ?_|refine C7 (o) ?_|refine CG (p) ⟨⟨rfl,bG h⟩,⟨rfl,rfl⟩,trivial⟩ ?_|refine CC (aa e) ?_|refine CH rfl (aa e) rfl ?_|refine C7 (G) ?_|refine CG (P) ⟨⟨rfl,CY _⟩,⟨rfl,rfl⟩,trivial⟩ ?_|refine CG (r) ⟨⟨rfl,aK.enc_fz h.y⟩,⟨rfl,rfl⟩,⟨rfl,rfl⟩,trivial⟩ ?_)
  refine CF rfl rfl ?_;exact wC
 rw[C9 l];rw[C9 l,l]at r;have w:cR h.G (nth h.O i).Addr<h.G.F.W.S.length:=by unfold cR;omega
 have hcz:=MV s1;have B:=dZ (aJ (nth h.O i).q);unfold LK;generalize iu h.y t ⟨(nth h.O i).a4,(nth h.O i).Addr⟩ = M at r;refine fM 148 [(560,[2,0]),(562,[2,0]),(564,[2,0,0]),(559,[2,0])] [(15,269,[68,69,70,71,72,73,74,75,77,67,78,79,11,0,1,2,3,4,5,6,7,13,8,1000,1001,1002,1003,1004,1013,9,10,11,12,14,1012,15]),(22,15,[92,93,94,95,96,97,98,99,100,101,102,103,104,105,106]),(25,271,[116,117,118,119,120,121,122,123,124,125,127,115,128,129,14,0,1,2,3,4,5,6,7,8,9,15,10,1000,1001,1002,1003,1015,11,12,13,14,16,1014,17])] [(0,0),(0,0),(0,0)] Tryz.func527 rfl (λu q=>?_)
 repeat'(first|refine gA ?_|(conv=>whnf);first|refine CB ?_|refine CN (by decide) ?_|refine CM (oD b) ?_|refine C7 (o) ?_|refine CG (p) ⟨⟨rfl,bG h⟩,⟨rfl,rfl⟩,trivial⟩ ?_|refine CC (aa e) ?_|refine CH rfl (aa e) rfl ?_|refine C7 (G) ?_|refine CG (P) ⟨⟨rfl,CY _⟩,⟨rfl,rfl⟩,trivial⟩ ?_|refine CG (r) ⟨⟨rfl,aK.enc_fz h.y⟩,⟨rfl,rfl⟩,⟨rfl,rfl⟩,trivial⟩ ?_)
 have Q:({{h with y:=M} with G:=f8 h.G (nth h.O i).Addr 0} : ab) = {h with y:=M}:=HS {h with y:=M} _ w;have R:=W0 (λy:ab=>C.s .own (y.G.F.W.S.map (aD .own))) Q
 (conv=>whnf)
 refine CE (ι:=Nat) (λk=>[(0,.H .box (bB {{h with y:=M} with G:=f8 h.G (nth h.O i).Addr k})),(1,.H .one [I ((t:Nat):Int)]),(2,.H .one [I ((nth h.O i).Addr)]),(7,.H .one [I ((i:Nat):Int)]),(8,.H .box (bu.enc .own (nth h.O i))),(9,.H .one [I (aJ (nth h.O i).q)]),(10,.H .box (bi.enc .own (ac h.G.F.Q ((nth h.O i).Addr / 16)))),(13,.H .one [I ((k:Nat):Int)])]) (λk=>k<=(csz (aJ (nth h.O i).q)).toNat) (λk=>(csz (aJ (nth h.O i).q)).toNat - k) (0) ?_ (U0 _) λk hk=>?_
 ·repeat'(first|exact trivial|rfl |exact nR R|refine CK ?_ ?_)
 have T:IntKind.i64.wrap 0=0:=rfl;have S:(nth h.O i).Addr.tmod 16=(nth h.O i).Addr % 16:=dK b.1;have g:(f8 h.G (nth h.O i).Addr k).F.W.S[(ac h.G.F.Q ((nth h.O i).Addr / 16)).e.toNat]? = some (kW (nth h.G.F.W.S (cR h.G (nth h.O i).Addr)) ((nth h.O i).Addr % 16).toNat k):=U3 w;by_cases lk:k<(csz (aJ (nth h.O i).q)).toNat
 ·have E:=ao (xs:=kW (nth h.G.F.W.S (cR h.G (nth h.O i).Addr)) ((nth h.O i).Addr % 16).toNat k) (i:=((nth h.O i).Addr % 16+k).toNat) (by rw[mO,s4];omega)
  repeat'(first|refine gD ?_|(conv=>whnf);first|refine CN (by decide) ?_|refine CQ S ?_|refine C7 (B) ?_|refine CL s2.1 (aa g) ?_|refine CH rfl (aa g) rfl ?_|refine CL ω (aa E) ?_|refine Pu.two rfl rfl (aa g) rfl rfl rfl (aa E) rfl (z3 _) (E7 {h with y:=M} _ k _ b.1) ?_)
  ((conv=>whnf);refine CD (k+1) ω ω ?_;(exact wC))
 obtain rfl:k=(csz (aJ (nth h.O i).q)).toNat:=ω
 have c6:=na {{h with y:=M} with G:=f8 h.G (nth h.O i).Addr (csz (aJ (nth h.O i).q)).toNat} i j (by show h.O.length<=_;omega)
 repeat'(first|refine gA ?_|(conv=>whnf);first|refine C7 (B) ?_|refine CJ (c6) (.inl rfl) ?_)
 refine CF rfl rfl ?_;exact wC
theorem NP(h:ab)(i:Nat)(t:Int)(a:aX h [])(d:i<h.O.length):aW Tryz.prog 527 false [.ptr (bB h),.val none [I t],.val none [I (nth h.O i).Addr]] [.ptr (bB (if 0<=t/\t<=h.T.length - 1 then(freeT h t.toNat i).1 else h)),.val none [I t],.val none [I (nth h.O i).Addr]] .one [I (if 0<=t/\t<=h.T.length - 1 then(freeT h t.toNat i).2 else 1)]:=by
 have c:h.T.length<=4:=by have:=(dP.1 a.mail).1.2.1;have:=a.nc;omega
 by_cases b:0<=t/\t<=h.T.length - 1
 ·rw[C9 b,C9 b]
  obtain⟨n,rfl⟩:=X2 b.1;simp only[W2];by_cases e:(nth h.O i).a4=n
  ·have:=Gv h (nth h.O i) n a (am d) e c
   have g:pc h (nth h.O i).Addr=i:=by
    obtain⟨k,j,-⟩:=a.objAt (am d);exact cJ (f:=(·.Addr)) (df a.osr) k d (by rw[j])
   rw[g,<-AQ e]at this;exact this
  exact F6 h i n a d ω e
 rw[C8 b,C8 b];exact Dx h t _ c b
theorem MT(c:aE)(k:Nat):aE.enc .own (sq c k)=[.s .own ((c.b.map (aD .own)).set k (aD .own ((nth c.b k).take ((nth c.b k).length - 1))))]:=by simp[aE.enc,sq,X5]
theorem QT(xs:List Int)(n:Nat):(xs.take n).map (rI .X)=(xs.map (rI .X)).take n:=v4
def Rg(c:aE)(k:Nat):List C:=if 0<(nth c.b k).length then aE.enc .own (sq c k)++[I (nth (nth c.b k) ((nth c.b k).length - 1)),B true] else aE.enc .own c++[I (-1),B false]
theorem Q9(c:aE)(k:Nat):hC (Rg c k):=by
 unfold Rg;split
 ·exact aI (aE.enc_fr _) ⟨trivial,trivial,trivial⟩
 exact aI (aE.enc_fr _) ⟨trivial,trivial,trivial⟩
theorem w5(c:aE)(k:Nat)(h:bA c=true)(u:k<=3):ar Tryz.prog 380 false [.val (some 1) (aE.enc .X c),.val none [I (k:Nat)]] (.tup [some 1,none,none]) (Rg c k):=by
 obtain⟨w,j⟩:=f6 h;have n:aE.sml c:=⟨ω,λl r=>by have:=j l r;show l.length<=1048576;omega⟩
 have d:=wW c k n;rw[h,O0 ω]at d;have o:=iQ c n;have b:=uN (c:=c) (k:=k) ω;have t:=j _ (am (xs:=c.b) (i:=k) ω);have a:=Q9 c k;unfold Rg at a |-;by_cases p:0<(nth c.b k).length
 ·rw[C9 p]at a |-
  have q:=ao (xs:=nth c.b k) (i:=(nth c.b k).length - 1) ω;have e:(nth c.b k)[(((nth c.b k).length:Int) - 1).toNat]? = some (nth (nth c.b k) ((nth c.b k).length - 1)):=by rw[show(((nth c.b k).length:Int) - 1).toNat=(nth c.b k).length - 1 by omega];exact q
  have g:((((nth c.b k).length:Nat):Int) - 1)=(((nth c.b k).length - 1:Nat):Int):=ω
  rw[MT]at a |-;refine fO 54 [(5,268,[32,33,34,35,36,37,38,39,40,41,42,44,0,1,2,3,4,5,6,7,8,9,10,11,1000,1001,1002,12,13]),(6,265,[45,46,47,48,49,50,51,52,53,0,1,2,3,4,5,6,7,8,9,1001,1002,1003,1004,1005,1006,1007,1008,10,11])] Tryz.func380 rfl ?_ (.inr a)
  repeat'(first|refine gA ?_|(conv=>whnf);first|with_reducible refine CC (aa b) ?_|refine CB ?_|refine C7 (d) ?_|refine C7 (o) ?_|refine CL ω (aa e) ?_|refine CU ((nth c.b k).length - 1) g (by rw[Z0];omega) (aO λ_=>rfl) (QT _ _) ?_|refine CV (λ_=>rfl) (λ_=>rfl) (by rw[U1];omega) (by decide) ?_|refine CO (λ_=>rfl) (λ_=>rfl) (by rw[U1];omega) (by decide) ?_|refine CP rfl rfl (aa b) rfl (C1 rfl) rfl ?_)
  rfl
 rw[C8 p]at a |-;refine fO 54 [(5,268,[32,33,34,35,36,37,38,39,40,41,42,44,0,1,2,3,4,5,6,7,8,9,10,11,1000,1001,1002,12,13]),(6,265,[45,46,47,48,49,50,51,52,53,0,1,2,3,4,5,6,7,8,9,1001,1002,1003,1004,1005,1006,1007,1008,10,11])] Tryz.func380 rfl ?_ (.inr a)
 repeat'(first|refine gA ?_|(conv=>whnf);first|with_reducible refine CC (aa b) ?_|refine C7 (d) ?_|refine C7 (o) ?_)
 rfl
def R7(xs:List aA)(n:Int):List C:=bM .own (au xs n).1++[I (au xs n).2.1,B (au xs n).2.2]
theorem Qy(xs:List aA)(n:Int):hC (R7 xs n):=aI (lW _) ⟨trivial,trivial,trivial⟩
theorem oW(pages:Int)(xs:List aA)(n:Int)(w:0<=pages/\pages<=1048576)(l:bC pages xs=true)(J:1<=n/\n<=1000)(K:xs.length<=4096):ar Tryz.prog 385 false [.val none [I pages],.val none (bM .X xs),.val none [I n]] (.tup [none,none,none]) (R7 xs n):=by
 have o:=mh pages xs w ⟨ω,λ_ _=>trivial⟩;rw[l]at o;have p:=(BM l).2;refine fO 98 [(8,21,[31,32,33,34,35,36,37,38,39,40,41,42,43,44,45,46,47,48,49,50,51]),(14,265,[71,72,73,74,76,77,78,79,81,0,1,2,3,5,6,7,8,10,4,1005,1006,1007,1008,1010,9,1010,11,1010,12,13])] Tryz.func385 rfl ?_ (.inr (Qy xs n))
 repeat'(first|refine gD ?_|(conv=>whnf);first|refine C7 (o) ?_|refine CO (λ_=>rfl) (λ_=>rfl) ω (by decide) ?_)
 (conv=>whnf)
 refine CE (ι:=Nat) (λi=>[(1,.H .one (bM .X xs)),(2,.H .one [I (n)]),(9,.H .one (bM .own xs)),(10,.H .one [I (jt xs n i)]),(11,.H .one [I ((i:Nat):Int)])]) (λi=>i<=xs.length) (λi=>xs.length - i) (0) ?_ (U0 _) λi y=>?_
 ·exact wC
 have h:=w8 xs n i y;by_cases q:i<xs.length
 ·have j:=ao q
  have E:=p _ (am q);have a:jt xs n (i+1)=if n<=(nth xs i).b1/\(jt xs n i<0\/(nth xs i).b1<(nth xs (jt xs n i).toNat).b1) then((i:Nat):Int) else jt xs n i:=rfl
  by_cases r:n<=(nth xs i).b1
  ·by_cases F:jt xs n i<0
   ·rw[C9 ⟨r,.inl F⟩]at a
    repeat'(first|refine gD ?_|(conv=>whnf);with_reducible refine CC (aa j) ?_)
    ((conv=>whnf);refine CD (i+1) ω ω ?_)
    rw[a];exact wC
   have d:=ao (xs:=xs) (i:=(jt xs n i).toNat) ω;by_cases G:(nth xs i).b1<(nth xs (jt xs n i).toNat).b1
   ·rw[C9 ⟨r,.inr G⟩]at a
    repeat'(first|refine gD ?_|(conv=>whnf);first|with_reducible (first|refine CC (aa j) ?_|refine CL ω (aa d) ?_))
    ((conv=>whnf);refine CD (i+1) ω ω ?_)
    rw[a];exact wC
   rw[C8 ω]at a
   repeat'(first|refine gD ?_|(conv=>whnf);first|with_reducible (first|refine CC (aa j) ?_|refine CL ω (aa d) ?_))
   ((conv=>whnf);refine CD (i+1) ω ω ?_)
   rw[a];exact wC
  rw[C8 ω]at a
  repeat'(first|refine gD ?_|(conv=>whnf);with_reducible refine CC (aa j) ?_)
  ((conv=>whnf);refine CD (i+1) ω ω ?_)
  rw[a];exact wC
 obtain rfl:i=xs.length:=ω
 change ir xs n = -1\/_ at h;unfold R7 au;rw[show jt xs n xs.length=ir xs n from rfl];by_cases e:ir xs n<0
 ·rw[C9 e]
  rw[show ir xs n = -1 from h.resolve_right λg=>by have L:0<=ir xs n:=g.1;omega]
  repeat'(first|refine gD ?_|(conv=>whnf);first|with_reducible refine Bf.D (λc=>?_) (λc=>?_)|refine CB ?_)
  rfl
 rw[C8 e];obtain⟨H,t,M⟩:=h.resolve_left ω;change 0<=ir xs n at H;change ir xs n<xs.length at t;obtain⟨b,k⟩:=X2 (show 0<=ir xs n by omega);rw[k]at t |-;simp only[W2];have d:=ao (xs:=xs) (i:=b) ω;have E:=p _ (am (xs:=xs) (i:=b) ω);by_cases u:(nth xs b).b1=n
 ·rw[C9 u]
  repeat'(first|refine gA ?_|(conv=>whnf);first|with_reducible refine CC (aa d) ?_|refine CB ?_|refine CU b rfl (by rw[Z0];omega) (aO λ_=>rfl) v4 ?_|refine Sl.suf (b+1) rfl (by rw[Z0];omega) (aO λ_=>rfl) z4 ?_|refine CV (λ_=>rfl) (λ_=>rfl) (by rw[U1];omega) (by decide) ?_|refine Ap.dele (λ_=>rfl) (λ_=>rfl) ω (by decide) ?_|refine CO (λ_=>rfl) (λ_=>rfl) (by rw[U1];omega) (by decide) ?_)
  rfl
 rw[C8 u]
 repeat'(first|refine gA ?_|(conv=>whnf);first|with_reducible refine CC (aa d) ?_|refine CP rfl rfl (aa d) rfl (C1 rfl) rfl ?_)
 exact W0 (λz=>z++[I (nth xs b).At,B true]) (show [C.s dQ.own _]=_ from by simp[bM,X5];rfl)
theorem LZ(k:af)(p:Int)(f:Nat):af.enc .own (rm k p f)=((af.enc .own k).set 1 (.s .own ((k.F.W.a5.map (rB .own)).set f (rB .own true)))).set 2 (.s .own ((k.F.Q.J.map (bi.enc .own)).set p.toNat (bi.enc .own ⟨2,(f:Nat)⟩))):=by
 simp[af.enc,rm,X5]
theorem EH(k:af)(p:Int)(c:a7 k=true)(y:k.Calls≠100000)(o:0<=p/\p<k.F.Q.J.length)(C:(nth k.F.Q.J p.toNat).j=0):aW Tryz.prog 387 false [.ptr (af.enc .own k),.val none [I p]] [.ptr (af.enc .own (newK k p).1),.val none [I p]] .one [B (newK k p).2]:=by
 have E:=bp c;have F:=aU.1 (aB.1 c).2.1;have G:=(bv.1 (aB.1 c).2.2.1).2.2;have H:(bZ k).F.Q.J.length<=32:=G;have a:=B6 k.F.W ω;have d:=nr k c y;have g:=fy (bZ k) p E.1.2;have l:ac (bZ k).F.Q p=nth k.F.Q.J p.toNat:=by unfold ac;exact C9 o
 rw[l,C]at g;have h:=aG p 0 ((k.F.Q.J.length:Int) - 1);rw[O0 ω]at h;have r:=ao (xs:=k.F.Q.J) (i:=p.toNat) ω;change ar _ _ _ _ _ [I (rR k)]at a;unfold newK;cases e:refd k<;>rw[e]at d
 ·by_cases j:rR k<0
  ·rw[C9 (.inr j)]
   refine fM 56 [(487,[2])] [] [(0,0),(0,0)] Tryz.func387 rfl (λu q=>?_)
   repeat'(first|refine gA ?_|(conv=>whnf);first|refine CG (a) ⟨⟨rfl,bc.enc_fz _⟩,trivial⟩ ?_|refine CJ (d) (.inl rfl) ?_|refine C7 (h) ?_|refine CG (g) ⟨CS (bZ k),⟨rfl,rfl⟩,trivial⟩ ?_)
   refine CF rfl ?_ ?_
   ·rfl
   exact wC
  rw[C8 (by simp[j])];obtain⟨n,t⟩:=EZ j;obtain⟨f,J⟩:=X2 (show 0<=rR k by omega);rw[J]at a n t j |-;simp only[W2]at n t |-;have w:=ao (xs:=k.F.W.a5) (i:=f) n;rw[LZ];refine fM 56 [(487,[2])] [] [(0,0),(0,0)] Tryz.func387 rfl (λu q=>?_)
  repeat'(first|refine gA ?_|(conv=>whnf);first|refine CG (a) ⟨⟨rfl,bc.enc_fz _⟩,trivial⟩ ?_|refine CJ (d) (.inl rfl) ?_|refine C7 (h) ?_|refine CG (g) ⟨CS (bZ k),⟨rfl,rfl⟩,trivial⟩ ?_|refine CC (aa w) ?_|refine CL o.1 (aa r) ?_|refine CP rfl rfl (aa w) rfl (C1 rfl) rfl ?_|refine CP rfl rfl (aa r) rfl (C1 rfl) rfl ?_)
  refine CF rfl ?_ ?_
  ·rfl
  exact wC
 rw[C9 (.inl rfl)];refine fM 56 [(487,[2])] [] [(0,0),(0,0)] Tryz.func387 rfl (λu q=>?_)
 repeat'(first|refine gA ?_|(conv=>whnf);first|refine CG (a) ⟨⟨rfl,bc.enc_fz _⟩,trivial⟩ ?_|refine CJ (d) (.inl rfl) ?_)
 refine CF rfl ?_ ?_
 ·rfl
 exact wC
def Rh(h:ab):List C:=(bB h).drop 5
theorem FU(h:ab)(p:Int)(a:a7 h.G=true)(b:h.G.Calls≠100000)(c:0<=p/\p<h.G.F.Q.J.length)(d:(nth h.G.F.Q.J p.toNat).j=0):aW Tryz.prog 387 false [.ptr (bB h),.val none [I p]] [.ptr (bB {h with G:=(newK h.G p).1}),.val none [I p]] .one [B (newK h.G p).2]:=
 (EH h.G p a b c d).frame (r:=Rh h) rfl
theorem Kb(h:ab)(i:Nat):bB (slotT h i)=((bB h).set 14 (I (zB h.c0))).set 6 (.s .own ((h.K.map (ax.enc .own)).set i [I (nth h.K i).R,I (nth h.K i).d,I (ic (nth h.K i).b2 (qx h i))])):=by
 simp[bB,slotT,ry,X5,ax.enc]
theorem sT(h:ab)(E:List Int)(i:Nat)(c:aX h E)(k:i<h.K.length):aW Tryz.prog 382 false [.ptr (bB h),.val none [I (i:Nat)]] [.ptr (bB (nU h i).1),.val none [I (i:Nat)]] .one [I (nU h i).2]:=by
 have F:=c.lens;have G:=F.spans;have d:=ao k;have b:=c.L.sok _ (am k);have e:=eQ b;have a:=c.nums;unfold cj at a;rw[C0]at a;have t:=(bv.1 (aB.1 c.ker).2.2.1).2.2;have l:=sD c.L.sok (ps:=aT h (nth h.K i).R) e (aT h (nth h.K i).R).length;change 0<=ip h i/\ip h i<=65535 at l;have w:=nv (nth h.K i).d;have y:=zu h i ⟨ω,λ_ _=>trivial⟩ ⟨by show h.G.F.Q.J.length<=_;omega,λ_ _=>trivial⟩ c.L.sok k;have o:=xh (nth h.K i).d (ip h i) ω;change ar _ _ _ _ _ (aD .own (nz h i)) at o;have p:=GF (nth h.K i).d (ip h i);change (nz h i).length<=16 at p;unfold nU;by_cases B:(nz h i).length=0
 ·rw[C9 B]
  refine fM 68 [] [(2,7,[16,17,18,19,20,21,22]),(7,12,[42,43,44,45,46,47,48,49,50,51,52,53]),(8,11,[56,57,58,59,60,61,62,63,64,65,66])] [(0,0),(0,0)] Tryz.func382 rfl (λu q=>?_)
  repeat'(first|refine gA ?_|(conv=>whnf);first|refine CC (aa d) ?_|refine CH rfl (aa d) rfl ?_|refine C7 (w) ?_|refine CG (y) ⟨⟨rfl,bG h⟩,⟨rfl,rfl⟩,trivial⟩ ?_|refine C7 (o) ?_)
  refine CF rfl rfl ?_;exact wC
 rw[C8 B];have H:=zY (h:=h) (i:=i) ω;obtain⟨C,D,O⟩:=xw H;have J:=(gU (aF b).2.2).2.2.1;have r:=r8 h.c0 (n:=((nz h i).length:Nat)) ω;have K:=vh h.c0 ((nz h i).length:Nat) ω ω;have M:=zJ (nth h.K i).b2 (qx h i) e ω;have N:=z7 (ry (nth h.K i) (qx h i)) (qx h i) (BA b ⟨C,D⟩) ⟨C,D⟩;have g:(nz h i)[(E0 h.c0 ((nz h i).length:Nat)).toNat]? = some (qx h i):=ao ω;have j:((h.K.map (ax.enc .own)).set i [I (nth h.K i).R,I (nth h.K i).d,I (ic (nth h.K i).b2 (qx h i))])[i]? = some [I (nth h.K i).R,I (nth h.K i).d,I (ic (nth h.K i).b2 (qx h i))]:=sv k;unfold vq;rw[Kb];refine fM 68 [] [(2,7,[16,17,18,19,20,21,22]),(7,12,[42,43,44,45,46,47,48,49,50,51,52,53]),(8,11,[56,57,58,59,60,61,62,63,64,65,66])] [(0,0),(0,0)] Tryz.func382 rfl (λu q=>?_)
 repeat'(first|refine gA ?_|(conv=>whnf);first|refine CC (aa d) ?_|refine CC j ?_|refine CH rfl (aa g) rfl ?_|refine CH rfl (aa d) rfl ?_|refine CH rfl j rfl ?_|refine C7 (w) ?_|refine CG (y) ⟨⟨rfl,bG h⟩,⟨rfl,rfl⟩,trivial⟩ ?_|refine C7 (o) ?_|refine C7 (K) ?_|refine C7 (M) ?_|refine C7 (N) ?_|refine CL r.1 (aa g) ?_|refine CP rfl rfl (aa d) rfl (C1 rfl) rfl ?_)
 refine CF rfl ?_ ?_
 ·rfl
 exact wC
theorem Ap.ins{α:Type}{e:α->List C}{xs:List α}{y:α}{r:List C}{i sz by_:Nat}{K:List (List C)->Prop}(a:r=e y)(b:∀y,(e y).length=sz)(c:∀y,aY (e y)=true)(h:xs.length<=1048576)(d:by_<=1000)(f:K ((xs.take i++y::xs.drop i).map e)):Ap true ((xs.take i).map e++[r]) ((xs.drop i).map e) sz by_ K:=by
 subst a;have g:(xs.take i).length+1+(xs.drop i).length<=3145728:=by rw[U1,O3];omega
 refine CT (λr a=>?_) (aO b) (λ_ r a=>by obtain⟨y,-,rfl⟩:=C4.1 a;exact c y) (by simp only[I3,Z0,List.length_singleton];omega) (by simp only[I3,Z0,List.length_singleton];exact W4 (Nat.mul_le_mul g d) (by decide)) ?_ f
 ·rcases Z2.1 a with a|a
  ·exact aO b r a
  rw[I1.1 a];exact b y
 rw[T5,V5,O5];rfl
theorem vZ{α:Type}{p:α->Bool}{xs:List α}{y:α}{i:Nat}(h:kL p xs=i):jx p xs y=xs.take i++y::xs.drop i:=by unfold jx;rw[h]
def HU(h:ab)(c:Int):ab × Int:=
 if(au h.u 1).2.2=false then(h,-1)
 else if(newK h.G (au h.u 1).2.1).2=false then({h with G:=(newK h.G (au h.u 1).2.1).1},-1)
 else(qM h c,(qR h:Nat))
theorem Bw(h:ab)(E:List Int)(c:Nat)(g:aX h E)(J:h.G.Calls<=90000):aW Tryz.prog 383 false [.ptr (bB h),.val none [I (c:Nat)]] [.ptr (bB (HU h c).1),.val none [I (c:Nat)]] .one [I (HU h c).2]:=by
 have B:=g.lens;have K:=B.spans;have L:eY h<=32:=B.ents;have C:=iq h;have l:=oW (eY h:Nat) h.u 1 ⟨ω,ω⟩ g.rng (by decide) (by have:=B.free;omega);unfold R7 at l;have d:=jE g (Y4 1);unfold HU qM qR;generalize au h.u 1=r at l d |-;obtain⟨o,p,ok⟩:=r;simp only at l d |-;cases ok with
 | false=>
  rw[C9 rfl];refine fM 79 [(387,[2,0]),(2000010,[0,6])] [(1,267,[11,12,13,14,15,16,17,10,18,19,20,0,1,2,3,4,5,6,7,8,9,10,11,1009,1010,12,1010,13])] [(0,0),(0,0)] Tryz.func383 rfl (λu q=>?_)
  repeat'(first|refine gO ?_|(conv=>whnf);first|refine CB ?_|refine CG (C) ⟨bG h,trivial⟩ ?_|refine CG (l) ⟨⟨rfl,rfl⟩,⟨rfl,eM h.u⟩,⟨rfl,rfl⟩,trivial⟩ ?_)
  refine CF rfl rfl ?_;exact wC
 | true=>
  rw[C8 (by simp)];obtain⟨M,N,O,V⟩:=d rfl;have F:0<=p/\p<h.G.F.Q.J.length:=⟨M,by have:p+1<=((tbl h).J.length:Nat):=N;unfold tbl at this;omega⟩
  have t:=FU h p g.ker ω F (O p.toNat ω ω);generalize newK h.G p=w at t |-;obtain⟨k,b⟩:=w;simp only at t |-;cases b with
  | false=>
   rw[C9 rfl];refine fM 79 [(387,[2,0]),(2000010,[0,6])] [(1,267,[11,12,13,14,15,16,17,10,18,19,20,0,1,2,3,4,5,6,7,8,9,10,11,1009,1010,12,1010,13])] [(0,0),(0,0)] Tryz.func383 rfl (λu q=>?_)
   repeat'(first|refine gO ?_|(conv=>whnf);first|refine CB ?_|refine CG (C) ⟨bG h,trivial⟩ ?_|refine CG (l) ⟨⟨rfl,rfl⟩,⟨rfl,eM h.u⟩,⟨rfl,rfl⟩,trivial⟩ ?_|refine CJ (t) (.inl rfl) ?_)
   refine CF rfl rfl ?_;exact wC
  | true=>
   rw[C8 (by simp)];refine fM 79 [(387,[2,0]),(2000010,[0,6])] [(1,267,[11,12,13,14,15,16,17,10,18,19,20,0,1,2,3,4,5,6,7,8,9,10,11,1009,1010,12,1010,13])] [(0,0),(0,0)] Tryz.func383 rfl (λu q=>?_)
   repeat'(first|refine gO ?_|(conv=>whnf);first|refine CB ?_|refine CG (C) ⟨bG h,trivial⟩ ?_|refine CG (l) ⟨⟨rfl,rfl⟩,⟨rfl,eM h.u⟩,⟨rfl,rfl⟩,trivial⟩ ?_|refine CJ (t) (.inl rfl) ?_)
   (conv=>whnf)
   refine CE (ι:=Nat) (λi=>[(0,.H .box (bB {h with G:=k,u:=o})),(1,.H .one [I ((c:Nat):Int)]),(6,.H .one [I (p)]),(8,.H .one [I ((i:Nat):Int)])]) (λi=>i<=h.K.length/\∀(j:Nat)(z:ax),j<i->h.K[j]? = some z->GY p z=false) (λi=>h.K.length - i) (0) ?_ (⟨U0 _,λj z W=>ω⟩) λi g=>?_
   ·exact wC
   obtain⟨P,G⟩:=g;have Q:({h with G:=k,u:=o} : ab).K.length=h.K.length:=rfl;by_cases R:i<h.K.length/\(nth h.K i).R<p
   ·have n:=ao R.1
    repeat'(first|refine gD ?_|(conv=>whnf);first|with_reducible refine CC (aa n) ?_|refine CH rfl (aa n) rfl ?_)
    ((conv=>whnf);refine CD (i+1) ⟨ω,dv n (T0 ω) G⟩ ω ?_;(exact wC))
   have a:kL (GY p) h.K=i:=wo ω G λz H=>by
    have S:=(I2.1 H).1;have:z=nth h.K i:=(bm H).symm;subst this;exact O0 ω
   have n:i<h.K.length->h.K[i]? = some (nth h.K i):=λT=>ao T
   rw[show addS h k o p (c:Nat) = {h with G:=k,u:=o,K:=h.K.take i++⟨p,(c:Nat),0⟩::h.K.drop i} by unfold addS;rw[vZ a],a]
   repeat'(first|refine gD ?_|(conv=>whnf);first|with_reducible (first|refine CC (aa (n ω)) ?_|refine Bf.D (λU=>?_) (λU=>?_))|refine CH rfl (aa (n ω)) rfl ?_|refine Fu.mk rfl (xq h.K) rfl ?_|refine CU i rfl (by rw[Z0];omega) (aO λ_=>rfl) v4 ?_|refine Sl.suf i rfl (by rw[Z0];omega) (aO λ_=>rfl) z4 ?_|refine CO (λ_=>rfl) (λ_=>rfl) (by rw[U1];omega) (by decide) ?_|refine Ap.sn (aO λ_=>rfl) rfl (by rw[Z0,U1];omega) (by decide) rfl ?_|refine Ap.ins (e:=ax.enc .X) (y:=⟨p,(c:Nat),0⟩) rfl (λ_=>rfl) (λ_=>rfl) ω (by decide) ?_)
   all_goals
    refine CF rfl rfl ?_;exact wC
theorem F8{h:ab}{c:Int}{i:Nat}(a:i<h.K.length)(b:sS h c i=true)(d:∀j,j<i->sS h c j=false):uC h c=some i:=
 List.find?_range_eq_some.2 ⟨b,List.mem_range.2 a,λj e=>by rw[d j e];rfl⟩
theorem Fa{h:ab}{c:Int}(a:∀j,j<h.K.length->sS h c j=false):uC h c=none:=
 List.find?_range_eq_none.2 λj b=>by rw[a j b];rfl
theorem u9{h:ab}{c:Int}{i:Nat}(a:sS h c i=false)(b:∀j,j<i->sS h c j=false):∀j,j<i+1->sS h c j=false:=λj d=>by
 by_cases e:j=i
 ·rw[e];exact a
 exact b j ω
theorem KG(h:ab)(t:Nat)(c:aE):bB {h with T:=h.T.set t c} = (bB h).set 9 (.s .own ((h.T.map (aE.enc .own)).set t (aE.enc .own c))):=by
 simp[bB,X5]
theorem LU{h:ab}{c:Nat}(b:aX h [])(l:c<=3)(e:h.G.Calls<=90000)(h1:¬(au h.u 1).2.2=false)(f:¬(newK h.G (au h.u 1).2.1).2=false):aX (qM h c) []/\qR h<(qM h c).K.length:=by
 have a:(au h.u 1).2.2=true:=by simpa using h1
 obtain⟨g,i,j,n⟩:=jE b (Y4 1) a;have s:=vP.of (p:=(au h.u 1).2.1) b.ker ω ⟨g,by have:(au h.u 1).2.1+1<=(h.G.F.Q.J.length:Nat):=i;omega⟩ (j _ ω ω);have d:(newK h.G (au h.u 1).2.1).2=true:=by simpa using f
 have k:vP h.G (au h.u 1).2.1 ((newK h.G (au h.u 1).2.1).1,true):=by rw[<-d];exact s
 exact⟨b.addS (c:=c) ⟨ω,ω⟩ a k,(D5 (GY (au h.u 1).2.1) h.K ⟨(au h.u 1).2.1,c,0⟩).1⟩
theorem yY(h:ab)(t c:Nat)(o:aX h [])(M:t<h.T.length)(N:c<=3)(p:h.G.Calls<=90000):aW Tryz.prog 236 false [.ptr (bB h),.val none [I (t:Nat)],.val none [I (c:Nat)]] [.ptr (bB (smallA h t c).1),.val none [I (t:Nat)],.val none [I (c:Nat)]] .one [I (smallA h t c).2]:=by
 have E:=o.cach _ (am M);have e:=ao M;have r:=w5 (nth h.T t) c E N;have Q:=o.lens.spans;have B:=o;unfold Rg at r;by_cases F:0<(nth (nth h.T t).b c).length
 ·unfold smallA
  rw[C9 F]at r |-;simp only;rw[KG];refine fM 80 [(382,[2,0]),(383,[2,0])] [(3,6,[27,28,29,30,31,32])] [(0,0),(0,0),(0,0)] Tryz.func236 rfl (λu q=>?_)
  repeat'(first|refine gO ?_|(conv=>whnf);first|with_reducible refine CC (aa e) ?_|refine CH rfl (aa e) rfl ?_|refine CG (r) ⟨⟨rfl,aE.enc_fz _⟩,⟨rfl,rfl⟩,trivial⟩ ?_|refine CP rfl rfl (aa e) rfl (C1 rfl) rfl ?_)
  refine CF rfl rfl ?_;exact wC
 rw[C8 F]at r;have d:smallA h t c=match uC h c with
  | some i=>(slotT h i,vq h i)
  | none=>if(au h.u 1).2.2=false then(h,-1)
   else if(newK h.G (au h.u 1).2.1).2=false then({h with G:=(newK h.G (au h.u 1).2.1).1},-1)
   else nU (qM h c) (qR h):=by unfold smallA;exact C8 F
 refine fM 80 [(382,[2,0]),(383,[2,0])] [(3,6,[27,28,29,30,31,32])] [(0,0),(0,0),(0,0)] Tryz.func236 rfl (λu q=>?_)
 repeat'(first|refine gO ?_|(conv=>whnf);first|with_reducible refine CC (aa e) ?_|refine CH rfl (aa e) rfl ?_|refine CG (r) ⟨⟨rfl,aE.enc_fz _⟩,⟨rfl,rfl⟩,trivial⟩ ?_)
 (conv=>whnf)
 refine CE (ι:=Nat) (λi=>[(0,.H .box (bB h)),(1,.H .one [I ((t:Nat):Int)]),(2,.H .one [I ((c:Nat):Int)]),(10,.H .one [I ((i:Nat):Int)])]) (λi=>i<=h.K.length/\∀j,j<i->sS h c j=false) (λi=>h.K.length - i) (0) ?_ (⟨U0 _,λj W=>ω⟩) λi o=>?_
 ·exact wC
 obtain⟨R,w⟩:=o;by_cases C:i<h.K.length
 ·have l:=ao C
  by_cases O:(nth h.K i).d=c
  ·have y:=vd h (nth h.K i).R
   cases D:gm h (nth h.K i).R with
   | true=>
    rw[D]at y
    repeat'(first|refine gA ?_|(conv=>whnf);first|with_reducible refine CC (aa l) ?_|refine CH rfl (aa l) rfl ?_|refine CG (y) ⟨bG h,⟨rfl,rfl⟩,trivial⟩ ?_)
    ((conv=>whnf);refine CD (i+1) ⟨ω,u9 (by unfold sS;rw[D];simp) w⟩ ω ?_;(exact wC))
   | false=>
    rw[D]at y;have n:=sT h [] i B C;unfold nU at n;by_cases P:(nz h i).length=0
    ·rw[C9 P]at n
     repeat'(first|refine gA ?_|(conv=>whnf);first|with_reducible refine CC (aa l) ?_|refine CH rfl (aa l) rfl ?_|refine CG (y) ⟨bG h,⟨rfl,rfl⟩,trivial⟩ ?_|refine CJ (n) (.inl rfl) ?_)
     ((conv=>whnf);refine CD (i+1) ⟨ω,u9 (by unfold sS;rw[T0 (by omega:¬0<(nz h i).length)];simp) w⟩ ω ?_;(exact wC))
    rw[C8 P]at n;have G:uC h c=some i:=F8 C (by unfold sS;rw[O0 O,D,O0 ω];rfl) w;rw[G]at d;simp only at d;obtain⟨S,T⟩:=B.slotT C (by omega:0<(nz h i).length);have H:=kh.nn S T;rw[d];generalize slotT h i=g at n |-;generalize vq h i=a at n H |-
    repeat'(first|refine gA ?_|(conv=>whnf);first|with_reducible refine CC (aa l) ?_|refine CH rfl (aa l) rfl ?_|refine CG (y) ⟨bG h,⟨rfl,rfl⟩,trivial⟩ ?_|refine CJ (n) (.inl rfl) ?_)
    refine CF rfl rfl ?_;exact wC
  repeat'(first|refine gA ?_|(conv=>whnf);first|with_reducible refine CC (aa l) ?_|refine CH rfl (aa l) rfl ?_)
  ((conv=>whnf);refine CD (i+1) ⟨ω,u9 (by unfold sS;rw[T0 O];rfl) w⟩ ω ?_;(exact wC))
 obtain rfl:i=h.K.length:=ω
 have G:uC h c=none:=Fa w;rw[G]at d;simp only at d;have k:=Bw h [] c B p;rw[d];unfold HU at k;by_cases J:(au h.u 1).2.2=false
 ·rw[C9 J]at k |-
  repeat'(first|refine gD ?_|(conv=>whnf);refine CJ (k) (.inl rfl) ?_)
  refine CF rfl rfl ?_;exact wC
 rw[C8 J]at k |-;by_cases K:(newK h.G (au h.u 1).2.1).2=false
 ·rw[C9 K]at k |-
  repeat'(first|refine gD ?_|(conv=>whnf);refine CJ (k) (.inl rfl) ?_)
  refine CF rfl rfl ?_;exact wC
 rw[C8 K]at k |-;obtain⟨U,V⟩:=LU B N p J K;have L:=sT (qM h c) [] (qR h) U V;generalize qM h c=g at k L |-;generalize qR h=b at k L |-
 repeat'(first|refine gD ?_|(conv=>whnf);first|refine CJ (k) (.inl rfl) ?_|refine CJ (L) (.inl rfl) ?_)
 refine CF rfl rfl ?_;exact wC
def JF(h:ab)(size:Int):ab × Int:=
 if(au h.u (gM size:Nat)).2.2=false then(h,-1)
 else if(dO h size).2=gM size then({h with G:=(dO h size).1,u:=(au h.u (gM size:Nat)).1,M:=jx (Ql (au h.u (gM size:Nat)).2.1) h.M ⟨(au h.u (gM size:Nat)).2.1,(gM size:Nat),size⟩},16*(au h.u (gM size:Nat)).2.1)
 else({h with G:=unmN (dO h size).1 (au h.u (gM size:Nat)).2.1 (dO h size).2},-1)
theorem xu(k:af)(p:Int)(i:Nat):newsK k p (i+1)=if(newsK k p i).2=i then((newK (newsK k p i).1 (p+(i:Nat))).1,if(newK (newsK k p i).1 (p+(i:Nat))).2=true then i+1 else i) else newsK k p i:=rfl
theorem Fg(k:af)(p:Int):∀i,(newsK k p i).2<=i
 | 0=>z3 _
 | i+1=>by
  have b:=Fg k p i;rw[xu];by_cases e:(newsK k p i).2=i
  ·rw[C9 e]
   show(if _ then i+1 else i)<=i+1;by_cases a:(newK (newsK k p i).1 (p+(i:Nat))).2=true
   ·rw[C9 a];exact z3 _
   rw[C8 a];exact Nat.le_succ _
  rw[C8 e];omega
theorem nD{k:af}{p:Int}{i:Nat}(h:(newsK k p i).2≠i):∀j,newsK k p (i+j)=newsK k p i/\(newsK k p (i+j)).2<i+j
 | 0=>⟨rfl,by show(newsK k p i).2<i;have:=Fg k p i;omega⟩
 | j+1=>by
  have a:=nD h j;have e:newsK k p (i+(j+1))=newsK k p (i+j):=by
   show newsK k p (i+j+1)=_;rw[xu,C8 ω]
  exact⟨e.trans a.1,by rw[e];omega⟩
theorem yW(h:ab)(size:Int)(l:aX h [])(C:9<=size/\size<=1000)(V:h.G.Calls<=90000):aW Tryz.prog 237 false [.ptr (bB h),.val none [I size]] [.ptr (bB (JF h size).1),.val none [I size]] .one [I (JF h size).2]:=by
 have E:=l.lens;have W:=E.larges;have Q:=l;have F:eY h<=32:=E.ents;have G:fL size=((gM size:Nat):Int):=by unfold fL gM;split<;>omega
 have hN:1<=gM size/\gM size<=63:=by unfold gM;omega
 have H:=mc size;rw[G]at H;have R:=iq h;have t:=oW (eY h:Nat) h.u (gM size:Nat) ⟨ω,ω⟩ l.rng ⟨ω,ω⟩ (by have:=E.free;omega);unfold R7 at t;have b:=jE l (show(1:Int)<=(gM size:Nat) by omega);unfold JF dO;generalize gM size=N at *;generalize au h.u (N:Nat)=r at t b |-;obtain⟨J,p,ok⟩:=r;simp only at t b |-;refine fM 105 [(387,[2,0]),(388,[2,0]),(2000018,[0,7])] [(2,268,[16,17,18,19,20,21,22,23,15,24,25,26,0,1,2,3,4,5,6,7,8,9,10,11,12,1010,1011,13,1011,14])] [(0,0),(0,0)] Tryz.func237 rfl (λu q=>?_);cases ok with
 | false=>
  rw[C9 rfl]
  repeat'(first|refine gO ?_|(conv=>whnf);first|refine CB ?_|refine C7 (H) ?_|refine CG (R) ⟨bG h,trivial⟩ ?_|refine CG (t) ⟨⟨rfl,rfl⟩,⟨rfl,eM h.u⟩,⟨rfl,rfl⟩,trivial⟩ ?_)
  refine CF rfl rfl ?_;exact wC
 | true=>
  rw[C8 (by simp)];obtain⟨S,K,B,u4⟩:=b rfl;change p+(N:Nat)<=(h.G.F.Q.J.length:Nat) at K;change ∀q:Nat,p<=q->(q:Int)<p+(N:Nat)->(nth h.G.F.Q.J q).j=0 at B
  have X:h.G.F.Q.J.length<=32:=F
  repeat'(first|refine gO ?_|(conv=>whnf);first|refine CB ?_|refine C7 (H) ?_|refine CG (R) ⟨bG h,trivial⟩ ?_|refine CG (t) ⟨⟨rfl,rfl⟩,⟨rfl,eM h.u⟩,⟨rfl,rfl⟩,trivial⟩ ?_)
  (conv=>whnf)
  refine CE (ι:=Nat) (λi=>[(0,.H .box (bB {h with G:=(newsK h.G p i).1})),(1,.H .one [I (size)]),(5,.H .one [I ((N:Nat):Int)]),(6,.H .one (bM .own J)),(7,.H .one [I (p)]),(9,.H .one [I ((i:Nat):Int)])]) (λi=>i<=N/\(newsK h.G p i).2=i) (λi=>N - i) (0) ?_ (⟨U0 _,rfl⟩) λi l=>?_
  ·exact wC
  obtain⟨L,M⟩:=l;have s:=lN.of (p:=p) (n:=N) Q.ker ω ⟨S,K⟩ B i L;have Y:=s.calls;have Z:=s.len;by_cases li:i<N
  ·have O:(nth (newsK h.G p i).1.F.Q.J (p+(i:Nat)).toNat).j=0:=by
    rw[s.out _ (by rw[M];omega)];exact B _ ω ω
   have c:=FU {h with G:=(newsK h.G p i).1} (p+(i:Nat)) s.ker (by show(newsK h.G p i).1.Calls≠100000;omega) ⟨ω,by show p+(i:Nat)<((newsK h.G p i).1.F.Q.J.length:Nat);omega⟩ O;have a:newsK h.G p (i+1)=((newK (newsK h.G p i).1 (p+(i:Nat))).1,if(newK (newsK h.G p i).1 (p+(i:Nat))).2=true then i+1 else i):=by
    show(if(newsK h.G p i).2=i then _ else _)=_;rw[C9 M]
   simp only at c;cases e:(newK (newsK h.G p i).1 (p+(i:Nat))).2 with
   | true=>
    rw[e]at c a;rw[C9 rfl]at a;have P:(newK (newsK h.G p i).1 (p+(i:Nat))).1=(newsK h.G p (i+1)).1:=by rw[a]
    rw[P]at c
    repeat'(first|refine gD ?_|(conv=>whnf);refine CJ (c) (.inl rfl) ?_)
    ((conv=>whnf);refine CD (i+1) ⟨ω,by rw[a]⟩ ω ?_;(exact wC))
   | false=>
    rw[e]at c a;rw[C8 (by simp)]at a;have d:=nD (k:=h.G) (p:=p) (i:=i+1) (by rw[a];simp only;omega) (N - (i+1));rw[show i+1+(N - (i+1))=N by omega]at d;rw[d.1]at d;have T:=lN.of (p:=p) (n:=N) Q.ker ω ⟨S,K⟩ B (i+1) ω;rw[C8 (by have:=nD (k:=h.G) (p:=p) (i:=i+1) (by rw[a];simp only;omega) (N - (i+1));rw[show i+1+(N - (i+1))=N by omega]at this;omega)];rw[show newsK h.G p N=newsK h.G p (i+1) by have:=nD (k:=h.G) (p:=p) (i:=i+1) (by rw[a];simp only;omega) (N - (i+1));rw[show i+1+(N - (i+1))=N by omega]at this;exact this.1];rw[a]at T |-;have g:=T.ker;simp only at g |-;generalize (newK (newsK h.G p i).1 (p+(i:Nat))).1=k at c g |-
    repeat'(first|refine gD ?_|(conv=>whnf);refine CJ (c) (.inl rfl) ?_)
    (conv=>whnf)
    refine CE (ι:=Nat) (λj=>[(0,.H .box (bB {h with G:=unmN k p j})),(1,.H .one [I (size)]),(5,.H .one [I ((N:Nat):Int)]),(7,.H .one [I (p)]),(9,.H .one [I ((i:Nat):Int)]),(10,.H .one [I ((j:Nat):Int)])]) (λj=>j<=i) (λj=>i - j) (0) ?_ (U0 _) λj hj=>?_
    ·exact wC
    have c4:=ng {h with G:=unmN k p j} (p+(j:Nat)) (iY g p j);by_cases lj:j<i
    ·repeat'(first|refine gD ?_|(conv=>whnf);refine CJ (c4) (.inl rfl) ?_)
     ((conv=>whnf);refine CD (j+1) ω ω ?_;(exact wC))
    obtain rfl:j=i:=ω
    repeat'(first|refine gD ?_|(conv=>whnf);refine CB ?_)
    refine CF rfl rfl ?_;exact wC
  obtain rfl:i=N:=ω
  rw[C9 M];generalize (newsK h.G p i).1=k
  repeat'(first|refine gD ?_|(conv=>whnf);refine CB ?_)
  (conv=>whnf)
  refine CE (ι:=Nat) (λm=>[(0,.H .box (bB {h with G:=k,u:=J})),(1,.H .one [I (size)]),(5,.H .one [I ((i:Nat):Int)]),(7,.H .one [I (p)]),(11,.H .one [I ((m:Nat):Int)])]) (λm=>m<=h.M.length/\∀(j:Nat)(z:a8),j<m->h.M[j]? = some z->Ql p z=false) (λm=>h.M.length - m) (0) ?_ (⟨U0 _,λj z hj=>ω⟩) λm hm=>?_
  ·exact wC
  obtain⟨hm',U⟩:=hm;have hl2:({h with G:=k,u:=J} : ab).M.length=h.M.length:=rfl;by_cases go:m<h.M.length/\(nth h.M m).R<p
  ·have o:=ao go.1
   repeat'(first|refine gD ?_|(conv=>whnf);first|with_reducible refine CC (aa o) ?_|refine CH rfl (aa o) rfl ?_)
   ((conv=>whnf);refine CD (m+1) ⟨ω,dv o (T0 ω) U⟩ ω ?_;(exact wC))
  have w:kL (Ql p) h.M=m:=wo ω U λz C=>by
   have hlt:=(I2.1 C).1;have:z=nth h.M m:=(bm C).symm;subst this;exact O0 ω
  have o:m<h.M.length->h.M[m]? = some (nth h.M m):=λhh=>ao hh
  rw[vZ w]
  repeat'(first|refine gD ?_|(conv=>whnf);first|with_reducible (first|refine CC (aa (o ω)) ?_|refine Bf.D (λhq=>?_) (λhq=>?_))|refine CH rfl (aa (o ω)) rfl ?_|refine Fu.mk rfl (tS h.M) rfl ?_|refine CU m rfl (by rw[Z0];omega) (aO λ_=>rfl) v4 ?_|refine Sl.suf m rfl (by rw[Z0];omega) (aO λ_=>rfl) z4 ?_|refine CO (λ_=>rfl) (λ_=>rfl) (by rw[U1];omega) (by decide) ?_|refine Ap.sn (aO λ_=>rfl) rfl (by rw[Z0,U1];omega) (by decide) rfl ?_|refine Ap.ins (e:=a8.enc .X) (y:=⟨p,(i:Nat),size⟩) rfl (λ_=>rfl) (λ_=>rfl) ω (by decide) ?_)
  all_goals
   refine CF rfl ?_ ?_
   ·exact W0 (λz=>[I z]) ω
   exact wC
theorem EE{k:af}(h:a7 k=true)(b:ib k.a0):af.wf k:=by
 obtain⟨p,f,g,q,t⟩:=aB.1 h;obtain⟨u,w,y,A⟩:=aU.1 f;obtain⟨i,B,C⟩:=bv.1 g;refine⟨⟨⟨⟨ω,λr b=>?_⟩,⟨ω,λ_ _=>trivial⟩⟩,⟨ω,λe l=>?_⟩⟩,⟨ω,ω⟩,b⟩
 ·obtain⟨j,c,rfl⟩:=aL b
  obtain⟨D,n⟩:=uo h c;exact⟨ω,λv o=>by have:=n v o;exact⟨ω,ω⟩⟩
 obtain⟨j,c,rfl⟩:=aL l;have a:=i j c;unfold ky at a;rw[C0]at a;by_cases d:(nth k.F.Q.J j).j=0
 ·have:=a.2.2.1 d;exact⟨⟨ω,ω⟩,⟨ω,ω⟩⟩
 have:=a.2.2.2 d;exact⟨⟨ω,ω⟩,⟨ω,ω⟩⟩
theorem J0{p:bY}(h:eK p=true):bY.wf p:=by
 have a:=λi b=>fm h (i:=i) b
 have e:p.S.length<=16:=lD h;unfold eK at h;simp only[I0,C0]at h;exact⟨⟨ω,ω⟩,⟨ω,ω⟩,⟨ω,λv c=>by
   obtain⟨j,d,rfl⟩:=aL c;have:=a j d;exact⟨ω,ω⟩⟩⟩
theorem aX.jobWf{h:ab}{E:List Int}(a:aX h E):cg.wf h.Y/\cg.sml h.Y:=by
 cases b:h.o with
 | true=>
  obtain⟨c,f,g,i,j⟩:=dh.1 (a.job b).1;have k:=lD c;exact⟨⟨J0 c,⟨ω,ω⟩,⟨ω,ω⟩⟩,by show h.Y.V.S.length<=1048576;omega⟩
 | false=>
  have:=a.noj b;unfold rJ at this;rw[C0]at this;obtain⟨l,n,e,o,p⟩:=this;refine⟨⟨⟨⟨ω,ω⟩,⟨ω,ω⟩,⟨ω,λv d=>?_⟩⟩,⟨ω,ω⟩,⟨ω,ω⟩⟩,by show h.Y.V.S.length<=1048576;omega⟩;rw[Y6 e]at d;cases d
theorem xO{n:Int}(h:0<=aJ n):1<=n/\n<=8:=by
 unfold aJ at h
 repeat' split at h
 all_goals omega
theorem kh.wf{h:ab}{E:List Int}(b:aX h E){a c:Int}(d:kh h.K a c):mS a:=by
 have:=d.bd b;exact⟨ω,ω⟩
theorem aX.wf{h:ab}{E:List Int}(d:aX h E)(M:ib h.G.a0):ab.wf h:=by
 have q:=d.lens;have r:=d.L;have D:=d.nums;unfold cj at D;rw[C0]at D;obtain⟨X,N,Y⟩:=gd.1 d.rng;obtain⟨O,-,-,Z,q5,-⟩:=kg.1 d.quar;have w:=d.mail;have k:=d.hfl;unfold aN at k;rw[C9 w]at k;unfold bN at w;simp only[I0,C0,cx,gN,Z3,nt,Po]at w;obtain⟨⟨⟨m1,m2,m3⟩,P⟩,m5⟩:=w;have A:=q.free;have Q:=q.spans;have h3:=q.larges;have h4:=q.objs;have h5:=q.caches;have h6:=q.quar;have t:∀n:Nat,bx h.y n<=bx h.y (n+1):=λn=>by simp only[bx];omega
 have g:∀a b:Nat,a<=b->bx h.y a<=bx h.y b:=λa b u=>by
  induction u with
  | refl=>exact Y4 _
  | step _ R=>exact X4 R (t _)
 have B:∀n:Nat,0<=bx h.y n:=λn=>g 0 n (U0 _)
 have o:∀i,i<h.y.U.length->(nth h.y.U i).length<=30/\(nth h.y.a1 i).length<=30:=λi f=>by
  have F:=g (i+1) h.y.U.length ω;have S:=B i;simp only[bx]at F;omega
 refine⟨EE d.ker M,⟨ω,λx e=>?_⟩,⟨ω,λx e=>?_⟩,⟨ω,λx e=>?_⟩,⟨ω,λx e=>?_⟩,⟨ω,λx e=>?_⟩,⟨⟨ω,λl c=>?_⟩,⟨ω,λl c=>?_⟩⟩,⟨⟨ω,ω⟩,⟨ω,λx e=>?_⟩⟩,⟨ω,ω⟩,⟨ω,ω⟩,⟨ω,ω⟩,⟨ω,ω⟩,trivial,d.jobWf.1⟩
 ·have:=N x e;exact⟨⟨ω,ω⟩,⟨ω,ω⟩⟩
 ·have y:=r.sok x e
  have G:=eQ y;have T:=aF y;exact⟨⟨ω,ω⟩,⟨ω,ω⟩,⟨ω,ω⟩⟩
 ·have H:=aP (r.lok x e)
  have J:=cQ (r.lok x e);exact⟨⟨ω,ω⟩,⟨ω,ω⟩,⟨ω,ω⟩⟩
 ·obtain⟨o1,o2,o3,o4⟩:=d.onu x e
  have u:0<=x.Addr/\x.Addr<512/\-1000<=x.q/\x.q<=1000:=by
   rcases d.oow x e with⟨s,y,A,Q⟩|⟨l,c,F,S⟩
   ·have T:=aF (r.sok s y)
    have:=xO (n:=x.q) ω;exact⟨by have:=A.1;omega,by have:=A.2.1;omega,ω,ω⟩
   have H:=aP (r.lok l c);have J:=cQ (r.lok l c);omega
  exact⟨⟨ω,ω⟩,⟨ω,ω⟩,⟨ω,ω⟩,⟨ω,ω⟩⟩
 ·obtain⟨c1,U⟩:=q.lists x e
  refine⟨ω,λl c=>⟨by have:=U l c;omega,λa C=>?_⟩⟩;obtain⟨j,V,rfl⟩:=aL c;exact kh.wf d (d.hca x e j V a C)
 ·obtain⟨i,f,rfl⟩:=aL c
  have G:=o i f;refine⟨ω,λp K=>?_⟩;have W:=(P i f).1 p K;exact⟨⟨ω,ω⟩,kh.wf d (k p.Addr (Z2.2 (.inl (List.mem_flatMap.2 ⟨_,am f,C4.2 ⟨p,K,rfl⟩⟩))))⟩
 ·obtain⟨i,f,rfl⟩:=aL c
  have G:=o i ω;exact⟨ω,λa C=>kh.wf d (k a (Z2.2 (.inr (List.mem_flatten.2 ⟨_,am f,C⟩))))⟩
 have H:=O x e;have J:=d.snc x e;exact⟨kh.wf d (d.hqu x e),⟨ω,ω⟩,⟨ω,ω⟩⟩
structure RT(h:ab):Prop where
 ker:a7 h.G=true
 wf:ab.wf h
 sml:ab.sml h
 lens:Py h
theorem aX.fit{h:ab}{E:List Int}(a:aX h E)(b:ib h.G.a0)(c:aK.sml h.y):RT h:=⟨a.ker,a.wf b,a.lens.sml a.ker c a.jobWf.2,a.lens⟩
theorem ru{h:ab}(b:aX h [])(c:h.o=true):a7 (mStep h).G=true/\(mStep h).G.Calls<=h.G.Calls+1/\(mStep h).G.a0=h.G.a0/\(mStep h).y=h.y/\(qn h=true->(mStep h).o=false)/\cg.wf (mStep h).Y/\cg.sml (mStep h).Y:=by
 have s:=JS.of b c;refine⟨s.ker,s.calls.2.1,s.calls.2.2,rfl,λa=>?_,?_⟩
 ·unfold qn at a
  rw[C0]at a;show(if over _=true then false else h.o)=false;rw[C9 (show over (eC h.G h.Y).2=true from O0 (.inl a))]
 show cg.wf (if over _=true then _ else _)/\cg.sml (if over _=true then _ else _);split
 ·exact⟨⟨⟨⟨by decide,by decide⟩,⟨by decide,by decide⟩,⟨by decide,λv f=>by cases f⟩⟩,⟨by decide,by decide⟩,⟨by decide,by decide⟩⟩,by show(0:Nat)<=1048576;omega⟩
 have d:=(dh.1 (b.job c).1).1;have g:=lD d;obtain⟨j,k⟩:=s.ph;obtain⟨l,i⟩:=s.nxt;have e:=s.plan;refine⟨⟨by rw[e];exact J0 d,⟨ω,ω⟩,⟨ω,by rw[e]at i;omega⟩⟩,by show((eC h.G h.Y).2.V.S).length<=1048576;rw[e];omega⟩
def vB(h:ab):Nat->ab × Bool
 | 0=>(h,false)
 | i+1=>if(vB h i).1.o=true then(mStep (vB h i).1,qn (vB h i).1) else vB h i
def fin(h:ab):ab × Bool:=vB h 100
theorem pB{h:ab}(g:aX h []):aX (started h).1 []/\(started h).1.G=h.G/\(started h).1.y=h.y:=by
 have t:=g.nums;unfold cj at t;rw[C0]at t;have u:=(jR (bh h).length (show 0<=h.c0/\h.c0<=1073741823 by omega) ((bh h).length - 1)).2;have j:=lE (bh h) (show 0<=h.c0/\h.c0<=1073741823 by omega);have c:cj {h with c0:=(shuf (bh h).length h.c0).2} = true:=by
  unfold cj;rw[C0];unfold shuf;simp only;omega
 cases k:iZ (bh h) h.c0 with
 | nil=>
  have f:Ab.started h=({h with c0:=(shuf (bh h).length h.c0).2},false):=by unfold Ab.started;rw[k]
  rw[f];exact⟨{g with nums:=c},rfl,rfl⟩
 | cons q C=>
  obtain⟨D,E,l⟩:=j q (by rw[k];exact V1 ..);have f:Ab.started h=({h with c0:=(shuf (bh h).length h.c0).2,o:=true,Y:=so (cT (nth (bh h) q.A.toNat) (nth (bh h) q.B.toNat))},true):=by unfold Ab.started;rw[k]
  rw[f];have d:∀s∈bh h,s∈h.K:=λs w=>mI h (z3 _) s (List.mem_of_mem_take w)
  have n:=d _ (am (xs:=bh h) (i:=q.A.toNat) ω);have o:=d _ (am (xs:=bh h) (i:=q.B.toNat) ω);generalize nth (bh h) q.A.toNat=a at l n |-;generalize nth (bh h) q.B.toNat=b at l o |-;obtain⟨y,F,G⟩:=qa l;have p:ju (so (cT a b))=true:=dh.2 ⟨y,by show(0:Int)<=0;omega,by show(0:Int)<=5;omega,by show(0:Int)<=0;omega,by show(0:Int)<=(((cT a b).S.length:Nat):Int);omega⟩;have r:(∃s∈h.K,s.R=(cT a b).a2)/\∃s∈h.K,s.R=(cT a b).w:=by
   unfold cT;split
   ·exact⟨⟨b,o,rfl⟩,⟨a,n,rfl⟩⟩
   exact⟨⟨a,n,rfl⟩,⟨b,o,rfl⟩⟩
  exact⟨{g with nums:=c,job:=λ_=>⟨p,r⟩,noj:=λe=>by cases e},rfl,rfl⟩
theorem KD{h:ab}(d:RT h)(f:ib h.G.a0)(g:aK.sml h.y):RT (meshSt h).1/\(meshSt h).1.G=h.G/\(meshSt h).1.y=h.y/\((meshSt h).2=true->aX (meshSt h).1 []):=by
 unfold meshSt;split
 ·rename_i e
  obtain⟨a,b,c⟩:=pB (aX.of e.2);exact⟨a.fit (by rw[b];exact f) (by rw[c];exact g),b,c,λ_=>a⟩
 exact⟨d,rfl,rfl,λe=>by cases e⟩
theorem aX.objSz{h:ab}{E:List Int}(a:aX h E):∀o∈h.O,0<=o.q/\o.q<=1000:=λx c=>by
 rcases a.oow x c with⟨s,d,e,f⟩|⟨l,b,g,i⟩
 ·have j:=aF (a.L.sok s d)
  have:=xO (n:=x.q) ω;omega
 have k:=cQ (a.L.lok l b);omega
theorem KT{h:ab}(t:Int){size:Int}(c:aX h [])(d:9<=size/\size<=1000):largeA h t size=if(JF h size).2<0 then((JF h size).1,-1,4) else(addO (JF h size).1 (JF h size).2 size t,(JF h size).2,0):=by
 unfold largeA JF;by_cases a:(au h.u (gM size:Nat)).2.2=false
 ·rw[C9 a,C9 a]
  exact(C9 (show(-1:Int)<0 by decide)).symm
 rw[C8 a,C8 a];obtain⟨e,-⟩:=jE c (show(1:Int)<=(gM size:Nat) by unfold gM;omega) (by simpa using a);by_cases b:(dO h size).2=gM size
 ·rw[C9 b,C9 b]
  exact(C8 (show ¬16*(au h.u (gM size:Nat)).2.1<0 by omega)).symm
 rw[C8 b,C8 b];exact(C9 (show(-1:Int)<0 by decide)).symm
theorem z8(h:ab)(t size:Int)(k:aX h []):aW Tryz.prog 71 false [.ptr (bB h),.val none [I t],.val none [I size]] [.ptr (bB (allocH h t size).1),.val none [I t],.val none [I size]] (.tup [none,none]) [I (allocH h t size).2.1,I (allocH h t size).2.2]:=by
 have X:=k.lens;have hlc:=X.caches;have P:=X.objs;have p:=k.nums;unfold cj at p;rw[C0]at p;have Q:=uk k.objSz h.O.length (z3 _);change 0<=uf h/\uf h<=_ at Q;have n:=aG t 0 ((h.T.length:Int) - 1);have r:=aG size 1 1000;have E:=yg h k.objSz ω;have F:=kN size;refine fM 119 [(236,[2,0,0]),(237,[2,0])] [(7,10,[36,37,38,39,40,41,42,43,44,45]),(18,272,[81,82,83,84,85,86,87,89,90,91,92,93,94,95,96,97,0,1,2,3,4,5,6,8,9,10,11,12,13,14,15,16,1016,7,1008,1009,1010,1011,1012,1013,1014,1015,1016,17,18]),(1048594,0,[8])] [(0,0),(0,0),(0,0)] Tryz.func71 rfl (λu q=>?_) (.inr ⟨trivial,trivial,trivial⟩);unfold allocH;by_cases h1:1000000<=h.a
 ·rw[C9 (.inl h1)]
  repeat'(first|refine gD ?_|(conv=>whnf);refine CB ?_)
  refine CF rfl rfl ?_;exact wC
 by_cases h2:90000<h.G.Calls
 ·rw[C9 (.inr h2)]
  repeat'(first|refine gD ?_|(conv=>whnf);first|with_reducible refine Bf.D (λb=>?_) (λb=>?_)|refine CB ?_)
  refine CF rfl rfl ?_;exact wC
 rw[C8 ω];by_cases C:¬(0<=t/\t<=h.T.length - 1)
 ·rw[C9 C]
  rw[T0 C]at n
  repeat'(first|refine gD ?_|(conv=>whnf);refine C7 (n) ?_)
  refine CF rfl rfl ?_;exact wC
 rw[C8 C];replace C:=Decidable.not_not.1 C;rw[O0 C]at n;by_cases B:¬(1<=size/\size<=1000)
 ·rw[C9 B]
  rw[T0 B]at r
  repeat'(first|refine gD ?_|(conv=>whnf);first|refine C7 (n) ?_|refine C7 (r) ?_)
  refine CF rfl rfl ?_;exact wC
 rw[C8 B];replace B:=Decidable.not_not.1 B;rw[O0 B]at r;by_cases Y:h.c3<uf h+size
 ·rw[C9 Y]
  repeat'(first|refine gD ?_|(conv=>whnf);first|refine C7 (n) ?_|refine C7 (r) ?_|refine CG (E) ⟨⟨rfl,bG h⟩,trivial⟩ ?_)
  refine CF rfl rfl ?_;exact wC
 rw[C8 Y];by_cases G:0<=aJ size
 ·rw[C9 G]
  have hc3:aJ size<=3:=by unfold aJ;repeat' split<;>omega
  obtain⟨T,rfl⟩:=X2 C.1;obtain⟨K,hK⟩:=X2 G;have o:=yY h T K k ω ω ω;have s:=ug (t:=T) (c:=K) k ω ω ω;rw[hK]at F |-;simp only[W2];generalize smallA h T K=w at o s |-;obtain⟨g,a⟩:=w;have H:g.a=h.a:=s.nx;simp only at o |-;by_cases J:a<0
  ·rw[C9 J]
   repeat'(first|refine gD ?_|(conv=>whnf);first|refine C7 (n) ?_|refine C7 (r) ?_|refine CG (E) ⟨⟨rfl,bG h⟩,trivial⟩ ?_|refine C7 (F) ?_|refine CJ (o) (.inl rfl) ?_)
   refine CF rfl rfl ?_;exact wC
  rw[C8 J];obtain⟨k1,k2⟩:=s.yes (show(0:Int)<=a by omega);have R:g.O.length<=512:=k1.lens.objs
  repeat'(first|refine gD ?_|(conv=>whnf);first|refine C7 (n) ?_|refine C7 (r) ?_|refine CG (E) ⟨⟨rfl,bG h⟩,trivial⟩ ?_|refine C7 (F) ?_|refine CJ (o) (.inl rfl) ?_)
  (conv=>whnf)
  refine CE (ι:=Nat) (λi=>[(0,.H .box (bB g)),(1,.H .one [I ((T:Nat):Int)]),(2,.H .one [I (size)]),(8,.H .one [I (a)]),(9,.H .one [I ((i:Nat):Int)])]) (λi=>i<=g.O.length/\∀(j:Nat)(z:bu),j<i->g.O[j]? = some z->NJ a z=false) (λi=>g.O.length - i) (0) ?_ (⟨U0 _,λj z hj=>ω⟩) λi k=>?_
  ·exact wC
  obtain⟨S,L⟩:=k;by_cases U:i<g.O.length/\(nth g.O i).Addr<a
  ·have d:=ao U.1
   repeat'(first|refine gD ?_|(conv=>whnf);first|with_reducible refine CC (aa d) ?_|refine CH rfl (aa d) rfl ?_)
   ((conv=>whnf);refine CD (i+1) ⟨ω,dv d (T0 ω) L⟩ ω ?_;(exact wC))
  have l:kL (NJ a) g.O=i:=wo ω L λz M=>by
   have V:=(I2.1 M).1;have:z=nth g.O i:=(bm M).symm;subst this;exact O0 ω
  have d:i<g.O.length->g.O[i]? = some (nth g.O i):=λW=>ao W
  rw[show addO g a size (T:Nat) = {g with O:=g.O.take i++⟨g.a,a,size,(T:Nat)⟩::g.O.drop i,a:=g.a+1} by unfold addO;rw[vZ l]]
  repeat'(first|refine gD ?_|(conv=>whnf);first|with_reducible (first|refine CC (aa (d ω)) ?_|refine Bf.D (λb=>?_) (λb=>?_))|refine CB ?_|refine CH rfl (aa (d ω)) rfl ?_|refine Fu.mk rfl (we g.O) rfl ?_|refine CU i rfl (by rw[Z0];omega) (aO λ_=>rfl) v4 ?_|refine Sl.suf i rfl (by rw[Z0];omega) (aO λ_=>rfl) z4 ?_|refine CO (λ_=>rfl) (λ_=>rfl) (by rw[U1];omega) (by decide) ?_|refine Ap.sn (aO λ_=>rfl) rfl (by rw[Z0,U1];omega) (by decide) rfl ?_|refine Ap.ins (e:=bu.enc .X) (y:=⟨g.a,a,size,(T:Nat)⟩) rfl (λ_=>rfl) (λ_=>rfl) ω (by decide) ?_)
  all_goals
   refine CF rfl rfl ?_;exact wC
 rw[C8 G];have N:9<=size:=by unfold aJ at G;repeat' split at G<;>omega
 have o:=yW h size k ⟨N,B.2⟩ ω;rw[KT t k ⟨N,B.2⟩];have Z:(JF h size).1.a=h.a/\(JF h size).1.O=h.O:=by
  unfold JF;split
  ·exact⟨rfl,rfl⟩
  split<;>exact⟨rfl,rfl⟩
 generalize JF h size=w at o Z |-;obtain⟨g,a⟩:=w;obtain⟨H,O⟩:=Z;simp only at o H O |-;have R:g.O.length<=512:=by rw[O];exact P
 by_cases J:a<0
 ·rw[C9 J]
  repeat'(first|refine gD ?_|(conv=>whnf);first|refine C7 (n) ?_|refine C7 (r) ?_|refine CG (E) ⟨⟨rfl,bG h⟩,trivial⟩ ?_|refine C7 (F) ?_|refine CJ (o) (.inl rfl) ?_)
  refine CF rfl rfl ?_;exact wC
 rw[C8 J]
 repeat'(first|refine gD ?_|(conv=>whnf);first|refine C7 (n) ?_|refine C7 (r) ?_|refine CG (E) ⟨⟨rfl,bG h⟩,trivial⟩ ?_|refine C7 (F) ?_|refine CJ (o) (.inl rfl) ?_)
 (conv=>whnf)
 refine CE (ι:=Nat) (λi=>[(0,.H .box (bB g)),(1,.H .one [I (t)]),(2,.H .one [I (size)]),(8,.H .one [I (a)]),(9,.H .one [I ((i:Nat):Int)])]) (λi=>i<=g.O.length/\∀(j:Nat)(z:bu),j<i->g.O[j]? = some z->NJ a z=false) (λi=>g.O.length - i) (0) ?_ (⟨U0 _,λj z hj=>ω⟩) λi k=>?_
 ·exact wC
 obtain⟨S,L⟩:=k;by_cases U:i<g.O.length/\(nth g.O i).Addr<a
 ·have d:=ao U.1
  repeat'(first|refine gD ?_|(conv=>whnf);first|with_reducible refine CC (aa d) ?_|refine CH rfl (aa d) rfl ?_)
  ((conv=>whnf);refine CD (i+1) ⟨ω,dv d (T0 ω) L⟩ ω ?_;(exact wC))
 have l:kL (NJ a) g.O=i:=wo ω L λz M=>by
  have V:=(I2.1 M).1;have:z=nth g.O i:=(bm M).symm;subst this;exact O0 ω
 have d:i<g.O.length->g.O[i]? = some (nth g.O i):=λW=>ao W
 rw[show addO g a size t = {g with O:=g.O.take i++⟨g.a,a,size,t⟩::g.O.drop i,a:=g.a+1} by unfold addO;rw[vZ l]]
 repeat'(first|refine gD ?_|(conv=>whnf);first|with_reducible (first|refine CC (aa (d ω)) ?_|refine Bf.D (λb=>?_) (λb=>?_))|refine CB ?_|refine CH rfl (aa (d ω)) rfl ?_|refine Fu.mk rfl (we g.O) rfl ?_|refine CU i rfl (by rw[Z0];omega) (aO λ_=>rfl) v4 ?_|refine Sl.suf i rfl (by rw[Z0];omega) (aO λ_=>rfl) z4 ?_|refine CO (λ_=>rfl) (λ_=>rfl) (by rw[U1];omega) (by decide) ?_|refine Ap.sn (aO λ_=>rfl) rfl (by rw[Z0,U1];omega) (by decide) rfl ?_|refine Ap.ins (e:=bu.enc .X) (y:=⟨g.a,a,size,t⟩) rfl (λ_=>rfl) (λ_=>rfl) ω (by decide) ?_)
 all_goals
  refine CF rfl rfl ?_;exact wC
theorem Gp(h:ab)(a n:Int)(t:h.M.length<=4096)(j:∀l∈h.M,bJ l=true)(o:yU h a<0):aW Tryz.prog 531 false [.ptr (bB h),.val none [I a],.val none [I n]] [.ptr (bB h),.val none [I a],.val none [I n]] .one [B false]:=by
 have b:∀l∈h.M,l.R*16≠a:=λl c e=>by
  have:=ER (p:=Ju a) c (O0 e);unfold yU at o;omega
 refine fM 136 [(388,[2,0])] [(8,6,[49,50,51,52,53,54]),(9,10,[56,57,58,59,60,61,62,63,64,65]),(20,270,[123,124,125,126,127,128,129,130,131,122,132,133,134,135,0,1,2,3,4,5,6,7,8,9,10,11,12,13,14,1011])] [(0,0),(0,0),(0,0)] Tryz.func531 rfl (λu q=>?_)
 repeat'(first|(conv=>whnf);refine CB ?_)
 (conv=>whnf)
 refine CE (ι:=Nat) (λk=>[(0,.H .box (bB h)),(1,.H .one [I (a)]),(2,.H .one [I (n)]),(7,.H .one [I ((k:Nat):Int)])]) (λk=>k<=h.M.length) (λk=>h.M.length - k) (0) ?_ (U0 _) λk w=>?_
 ·repeat'(first|exact trivial|rfl |refine CK ?_ ?_)
 by_cases d:k<h.M.length
 ·have i:=ao d
  have y:=b _ (am d);have C:=aP (j _ (am d))
  repeat'(first|refine gA ?_|(conv=>whnf);first|with_reducible refine CC (aa i) ?_|refine CH rfl (aa i) rfl ?_)
  ((conv=>whnf);refine CD (k+1) ω ω ?_;(exact wC))
 repeat'(first|refine gD ?_|(conv=>whnf);refine CB ?_)
 refine CF rfl rfl ?_;exact wC
theorem QV(h:ab)(a:Int)(m:Nat):bB {h with G:=zK h.G a (m+1)} = (bB {h with G:=zK h.G a m}).set 0 (.s .own (((zK h.G a m).F.W.S.map (aD .own)).set (ac (zK h.G a m).F.Q ((a+m) / 16)).e.toNat ((aD .own (nth (zK h.G a m).F.W.S (cR (zK h.G a m) (a+m)))).set 0 (.s .own (((nth (zK h.G a m).F.W.S (cR (zK h.G a m) (a+m))).map (rI .own)).set ((a+m) % 16).toNat (splice (rI .own (nth (nth (zK h.G a m).F.W.S (cR (zK h.G a m) (a+m))) ((a+m) % 16).toNat)) 0 [I 0])))))):=
 HO {h with G:=zK h.G a m} (a+m) 0
def lM(h:ab)(i k:Nat)(n:Int)(K:af):ab:={h with G:=K,M:=h.M.set k (trimL (nth h.M k) n),O:=h.O.set i {nth h.O i with q:=n}}
theorem Kv(h:ab)(i k:Nat)(n:Int)(K:af):(lM h i k n K).O.map (bu.enc .own)=(h.O.map (bu.enc .own)).set i (splice (bu.enc .own (nth h.O i)) 2 [I n]):=by
 simp[lM,X5,bu.enc,splice]
theorem tw(h:ab)(i:Nat)(n:Int)(j:aX h [])(H:i<h.O.length)(hg:0<=yU h (nth h.O i).Addr):aW Tryz.prog 531 false [.ptr (bB h),.val none [I (nth h.O i).Addr],.val none [I n]] [.ptr (bB (if lP h i n then trimH h i (yU h (nth h.O i).Addr).toNat n else h)),.val none [I (nth h.O i).Addr],.val none [I n]] .one [B (decide (lP h i n))]:=by
 have c:=j.lens;have hnl:=c.larges;have hno:=c.objs;have hpg:eY h<=32:=c.ents;obtain⟨f1,f2,f3⟩:=fJ (Ju (nth h.O i).Addr) h.M hg;obtain⟨g,o⟩:=X2 hg;have b:g<h.M.length:=by unfold yU at o;omega
 have Y:(nth h.M g).R*16=(nth h.O i).Addr:=by
  have:=of_decide_eq_true f2;rw[show(d9 (Ju (nth h.O i).Addr) h.M).toNat=g by unfold yU at o;omega]at this;exact this
 have J:∀k,k<g->(nth h.M k).R*16≠(nth h.O i).Addr:=λk hk e=>by
  have N:k<h.M.length:=ω
  have hok1:=aP (j.L.lok _ (am N));have hok2:=aP (j.L.lok _ (am b));have:=j.L.one k g N b 0 0 ω ω ω;omega
 have p:lP h i n↔9<=n/\n<=(nth h.M g).q:=by
  unfold lP;rw[o,W2];exact⟨λx=>x.2,λx=>⟨ω,x⟩⟩
 rw[o,W2];have hbd:=um j (am H);obtain⟨-,Z,w⟩:=j.objAt (am H);have hii:pc h (nth h.O i).Addr=i:=by
  have h2:=(j.objAt (am H)).1;exact cJ (f:=(·.Addr)) (df j.osr) h2 H (by rw[Z])
 rw[hii]at w;have E:=ao H;have hxg:=ao b;have V:=xg (nth h.M g) n (j.L.lok _ (am b));have h8:=j.L.lok _ (am b);unfold bJ at h8;rw[C0]at h8;refine fM 136 [(388,[2,0])] [(8,6,[49,50,51,52,53,54]),(9,10,[56,57,58,59,60,61,62,63,64,65]),(20,270,[123,124,125,126,127,128,129,130,131,122,132,133,134,135,0,1,2,3,4,5,6,7,8,9,10,11,12,13,14,1011])] [(0,0),(0,0),(0,0)] Tryz.func531 rfl (λu q=>?_)
 repeat'(first|(conv=>whnf);refine CB ?_)
 (conv=>whnf)
 refine CE (ι:=Nat) (λk=>[(0,.H .box (bB h)),(1,.H .one [I ((nth h.O i).Addr)]),(2,.H .one [I (n)]),(7,.H .one [I ((k:Nat):Int)])]) (λk=>k<=g) (λk=>g - k) (0) ?_ (U0 _) λk hk=>?_
 ·repeat'(first|exact trivial|rfl |refine CK ?_ ?_)
 have l:=ao (xs:=h.M) (i:=k) ω;have hfk:=aP (j.L.lok _ (am (xs:=h.M) (i:=k) ω));by_cases e:k=g;rotate_left
 ·have hne:=J k ω
  repeat'(first|refine gA ?_|(conv=>whnf);first|with_reducible refine CC (aa l) ?_|refine CH rfl (aa l) rfl ?_)
  ((conv=>whnf);refine CD (k+1) ω ω ?_;(exact wC))
 subst e;by_cases F:9<=n/\n<=(nth h.M k).q;rotate_left
 ·rw[C8 (by rw[p];exact F),T0 (by rw[p];exact F)]
  rw[C8 F]at V
  repeat'(first|refine gA ?_|(conv=>whnf);first|with_reducible refine CC (aa l) ?_|refine CH rfl (aa l) rfl ?_|refine C7 (V) ?_)
  refine CF rfl rfl ?_;exact wC
 rw[C9 (by rw[p];exact F),O0 (by rw[p];exact F)];rw[C9 F]at V;have y:=λm hm=>x7 j b F (m:=m) hm
 have D:=λm=>(nk h.G (16*(nth h.M k).R+n) m).1
 have O:=λa W=>jX j b (a:=a) W
 have hsz:n<=16*(nth h.M k).a3:=ω
 generalize hM:(16*((n+15) / 16) - n).toNat=M at *;have hfl:∀m,(zK h.G (16*(nth h.M k).R+n) m).F.W.S.length=h.G.F.W.S.length:=λm=>by
  induction m with
  | zero=>rfl
  | succ m ih=>show(List.set _ _ _).length=_;rw[O1];exact ih
 have cO:=rD {h with M:=h.M.set k (trimL (nth h.M k) n)} (nth h.O i).Addr (by show h.O.length<=_;omega);change ar _ _ _ [.val (some 24) (ab.enc .X {h with M:=h.M.set k (trimL (nth h.M k) n)}),_] _ [I (d9 (my (nth h.O i).Addr) h.O)]at cO;rw[w]at cO;have Q:=bG {h with M:=h.M.set k (trimL (nth h.M k) n)};have heL:bB {h with M:=h.M.set k (trimL (nth h.M k) n)} = (bB h).set 7 (.s .own ((h.M.map (a8.enc .own)).set k (a8.enc .own (trimL (nth h.M k) n)))):=by simp[bB,X5]
 rw[heL]at Q
 repeat'(first|refine gA ?_|(conv=>whnf);first|with_reducible (first|refine CC (aa l) ?_|refine CC (aa E) ?_)|refine CH rfl (aa l) rfl ?_|refine C7 (V) ?_|refine CP rfl rfl (aa l) rfl (C1 rfl) rfl ?_|refine CG (cO) ⟨⟨rfl,Q⟩,⟨rfl,rfl⟩,trivial⟩ ?_|refine CP rfl rfl (aa E) rfl (C1 rfl) rfl ?_)
 rw[<-Y];have e0:lM h i k n h.G=lM h i k n (zK h.G (16*(nth h.M k).R+n) 0):=rfl;have r:C.s .own ((lM h i k n (zK h.G (16*(nth h.M k).R+n) 0)).M.map (a8.enc .own))=C.s .own ((h.M.map (a8.enc .own)).set k (a8.enc .own (trimL (nth h.M k) n))):=by simp[lM,X5]
 have d:C.s .own ((lM h i k n (zK h.G (16*(nth h.M k).R+n) 0)).O.map (bu.enc .own))=C.s .own ((h.O.map (bu.enc .own)).set i (splice (bu.enc .own (nth h.O i)) 2 [I n])):=W0 _ (Kv h i k n _)
 (conv=>whnf)
 refine CE (ι:=Nat) (λm=>[(0,.H .box (bB (lM h i k n (zK h.G (16*(nth h.M k).R+n) m)))),(1,.H .one [I (((nth h.M k).R*16))]),(8,.H .box (a8.enc .own (trimL (nth h.M k) n))),(9,.H .box (aA.enc .own (xF (nth h.M k) n))),(11,.H .one [I (((16*(nth h.M k).R+n)+(m:Nat)))])]) (λm=>m<=M) (λm=>M - m) (0) ?_ (U0 _) λm hm=>?_
 ·repeat'(first|exact trivial|rfl |exact nR r|exact nR d|refine CK ?_ ?_|(exact BD (by first|omega)))
 have hmod:IntKind.i64.wrap 0=0:=rfl;by_cases lm:m<M
 ·have W:0<=(16*(nth h.M k).R+n)+(m:Nat)/\(16*(nth h.M k).R+n)+(m:Nat)<512:=ω
  have R:=O ((16*(nth h.M k).R+n)+(m:Nat)) ω;have t:=y m hm;rw[<-D m]at R;have hks:=bp t;have c2:=cM (zK h.G (16*(nth h.M k).R+n) m).F.Q (((16*(nth h.M k).R+n)+(m:Nat)) / 16) hks.1.2;obtain⟨-,-,-,q0,q1⟩:=bI t R;have hul:=(aU.1 (aB.1 t).2.1).2.2.1;have S:cR (zK h.G (16*(nth h.M k).R+n) m) ((16*(nth h.M k).R+n)+(m:Nat))<(zK h.G (16*(nth h.M k).R+n) m).F.W.S.length:=by unfold cR;omega
  have G:(zK h.G (16*(nth h.M k).R+n) m).F.W.S[(ac (zK h.G (16*(nth h.M k).R+n) m).F.Q (((16*(nth h.M k).R+n)+(m:Nat)) / 16)).e.toNat]? = some _:=ao S;have h16:=(uo t S).1;have T:=ao (xs:=nth (zK h.G (16*(nth h.M k).R+n) m).F.W.S (cR (zK h.G (16*(nth h.M k).R+n) m) ((16*(nth h.M k).R+n)+(m:Nat)))) (i:=(((16*(nth h.M k).R+n)+(m:Nat)) % 16).toNat) (by rw[h16];omega);have htm:((16*(nth h.M k).R+n)+(m:Nat)).tmod 16=((16*(nth h.M k).R+n)+(m:Nat)) % 16:=dK W.1;have hpu:=QV (lM h i k n h.G) (16*(nth h.M k).R+n) m;have hwr:=oD W;have hst:(trimL (nth h.M k) n).a3=(n+15) / 16:=rfl
  repeat'(first|refine gD ?_|(conv=>whnf);first|refine CN (by decide) ?_|refine CM hwr ?_|refine CQ htm ?_|refine CG (c2) ⟨⟨rfl,CY _⟩,⟨rfl,rfl⟩,trivial⟩ ?_|refine CL q0 (aa G) ?_|refine CH rfl (aa G) rfl ?_|refine CL ω (aa T) ?_|refine Pu.two rfl rfl (aa G) rfl rfl rfl (aa T) rfl (z3 _) hpu ?_)
  ((conv=>whnf);refine CD (m+1) ω ω ?_;(exact wC))
 obtain rfl:m=M:=ω
 have hst:(trimL (nth h.M k) n).a3=(n+15) / 16:=rfl;have hkM:=y m (z3 _);have U:(zK h.G (16*(nth h.M k).R+n) m).F.Q.J.length=eY h:=by rw[D];rfl
 have hTK:kx h k n=zK h.G (16*(nth h.M k).R+n) m:=by unfold kx;rw[hM]
 unfold trimH Jw;rw[hTK];generalize zK h.G (16*(nth h.M k).R+n) m=K at *;have hN:((dD (nth h.M k) n:Nat):Int)=(nth h.M k).a3 - (n+15) / 16:=by unfold dD;omega
 have hrA:0<dD (nth h.M k) n->xF (nth h.M k) n = ⟨(nth h.M k).R+(n+15) / 16,(dD (nth h.M k) n:Nat)⟩:=λhp=>by unfold xF;rw[C9 ω,hN]
 have hrB:¬0<dD (nth h.M k) n->xF (nth h.M k) n = ⟨0,0⟩:=λhp=>by unfold xF;rw[C8 ω]
 generalize dD (nth h.M k) n=P at *;by_cases X:0<P
 ·rw[C9 X]
  have hr:=hrA X;rw[hr]
  repeat'(first|refine gD ?_|(conv=>whnf);refine CB ?_)
  (conv=>whnf)
  refine CE (ι:=Nat) (λx=>[(0,.H .box (bB (lM h i k n (unmN K ((nth h.M k).R+(n+15) / 16) x)))),(9,.H .box ([I ((nth h.M k).R+(n+15) / 16),I (P:Nat)])),(13,.H .one [I (((nth h.M k).R+(n+15) / 16+(x:Nat)))])]) (λx=>x<=P) (λx=>P - x) (0) ?_ (U0 _) λx l=>?_
  ·repeat'(first|exact trivial|rfl |refine CK ?_ ?_|(exact BD (by first|omega|(simp only;omega))))
  by_cases lx:x<P
  ·have c3:=ng (lM h i k n (unmN K ((nth h.M k).R+(n+15) / 16) x)) ((nth h.M k).R+(n+15) / 16+(x:Nat)) (iY hkM _ _)
   repeat'(first|refine gD ?_|(conv=>whnf);refine CJ (c3) (.inl rfl) ?_)
   ((conv=>whnf);refine CD (x+1) ω ω ?_;(exact wC))
  obtain rfl:x=P:=ω
  have c4:=iq (lM h i k n (unmN K ((nth h.M k).R+(n+15) / 16) x));rw[show eY (lM h i k n (unmN K ((nth h.M k).R+(n+15) / 16) x))=eY h from(fS _ _ _).1.trans U]at c4;have c5:=mb (eY h:Nat) h.u ⟨(nth h.M k).R+(n+15) / 16,(x:Nat)⟩ ⟨ω,ω⟩ ⟨by have:=c.free;omega,λ_ _=>trivial⟩
  repeat'(first|refine gD ?_|(conv=>whnf);first|refine CB ?_|refine CG (c4) ⟨bG _,trivial⟩ ?_|refine CG (c5) ⟨⟨rfl,rfl⟩,⟨rfl,eM h.u⟩,⟨rfl,rfl⟩,trivial⟩ ?_)
  refine CF rfl rfl ?_;exact wC
 rw[C8 X];obtain rfl:P=0:=ω
 have hr:=hrB X;rw[hr]
 repeat'(first|refine gD ?_|(conv=>whnf);refine CB ?_)
 (conv=>whnf)
 refine CE (ι:=Nat) (λx=>[(0,.H .box (bB (lM h i k n K))),(9,.H .box ([I 0,I 0])),(13,.H .one [I (0)])]) (λx=>x=0) (λx=>0) (0) ?_ (rfl) λx l=>?_
 ·repeat'(first|exact trivial|rfl |refine CK ?_ ?_)
 subst l
 repeat'(first|refine gD ?_|(conv=>whnf);refine CB ?_)
 refine CF rfl rfl ?_;exact wC
theorem Fo{α:Type}(a:α)(k:Nat):List.replicate (k+1) a=List.replicate k a++[a]:=List.replicate_succ' ..
theorem Gs(n k:Nat):bc.enc .own ⟨List.replicate k (List.replicate 16 0),List.replicate n false⟩ = [.s .own (List.replicate k [.s .own (List.replicate 16 [I 0])]),.s .own (List.replicate n [B false])]:=by
 simp[bc.enc,aD,rI,rB,List.map_replicate]
theorem HN(n:Nat):Mn [.s .own (List.replicate n [.z]),.s .own (List.replicate n [.z]),B true] (aK.enc .own (eD n)++[B true]):=by
 have e:aK.enc .own (eD n)++[B true]=[.s .own (List.replicate n [.s .own []]),.s .own (List.replicate n [.s .own []]),B true]:=by simp[aK.enc,eD,cK,aD,List.map_replicate]
 rw[e];exact .cons (.rep (.cons .z_ .nil)) (.cons (.rep (.cons .z_ .nil)) (.cons (.rfl_ _) .nil))
theorem NV(n:Nat)(b:1<=n/\n<=4):ar Tryz.prog 215 false [.val none [I (n:Nat)]] (.tup [some 2,none]) (aK.enc .own (eD n)++[B true]):=by
 have a:=aM ((n:Nat):Int) 1 4;rw[O0 ω]at a;refine fO 13 [(3,4,[8,9,10,11])] Tryz.func215 rfl ?_ (.inr (aI (aK.enc_fr _) ⟨trivial,trivial⟩))
 repeat'((conv=>whnf);first|with_reducible (first|refine Bn ?_|refine iX.dk rfl ?_)|refine Bt ?_|refine C7 (a) ?_|refine Mk.mk n rfl rfl ω (yI ω (by decide)) rfl ?_)
 exact HN n
theorem D9(n:Nat)(b:1<=n/\n<=4):ar Tryz.prog 524 false [.val none [I (n:Nat)]] (.tup [some 2,none]) (aK.enc .own (eD n)++[B true]):=by
 have a:=aG ((n:Nat):Int) 1 4;rw[O0 ω]at a;refine fO 13 [(3,4,[8,9,10,11])] Tryz.func524 rfl ?_ (.inr (aI (aK.enc_fr _) ⟨trivial,trivial⟩))
 repeat'((conv=>whnf);first|with_reducible (first|refine Bn ?_|refine iX.dk rfl ?_)|refine Bt ?_|refine C7 (a) ?_|refine Mk.mk n rfl rfl ω (yI ω (by decide)) rfl ?_)
 exact HN n
theorem MG:Mn [.s .own (List.replicate 4 [.z])] (aE.enc .own fN):=.cons (.rep (.cons .z_ .nil)) .nil
theorem za:ar Tryz.prog 525 false [] .agg (aE.enc .own fN):=by
 refine fO 3 [] Tryz.func525 rfl ?_ (.inr (aE.enc_fr _))
 repeat'((conv=>whnf);first|with_reducible refine iX.dk rfl ?_|refine Mk.mk 4 rfl rfl (by decide) (by decide) rfl ?_)
 exact MG
theorem t7:ar Tryz.prog 526 false [.val none [I 16]] (.tup [some 2,none]) (bL.enc .own ⟨16,[]⟩++[B true]):=by
 refine fO 10 [] Tryz.func526 rfl ?_ (.inr (aI (bL.enc_fr _) ⟨trivial,trivial⟩))
 repeat'((conv=>whnf);first|with_reducible (first|refine Bn ?_|refine iX.wk rfl ?_)|refine Bt ?_|refine C7 (aG 16 0 500) ?_)
 exact⟨rfl,rfl,rfl,trivial⟩
def caps(h:ab)(k:Nat):ab:={h with T:=List.replicate k fN}
theorem KQ(k:Nat):(List.replicate (k+1) fN).map (aE.enc .own)=(List.replicate k fN).map (aE.enc .own)++[aE.enc .own fN]:=by rw[Fo,T5];rfl
theorem M6{k:Nat} : ∀r∈(List.replicate k fN).map (aE.enc .own),r.length=1:=aO λ_=>rfl
theorem Pe(x:List bD):fz (.s .own (x.map (bD.enc .own)))=.s .X (x.map (bD.enc .X)):=(List.cons.inj (List.cons.inj (Cb ⟨0,x⟩)).2).1
theorem f9:∀a b:List C,eB (a++b)=eB a++eB b
 | [],_=>rfl
 | x::xs,b=>by show fz x::eB (xs++b)=fz x::(eB xs++eB b);rw[f9 xs b]
theorem eJ(r:ay)(c:ay.sml r):ar Tryz.prog 458 false [.val (some 2) (ay.enc .X r)] .agg (ay.enc .own r):=by
 have e:r.O.length<=1048576:=c.1;refine fO 36 [(5,272,[15,16,17,18,19,20,21,22,23,24,25,26,27,28,29,34,0,1,2,3,4,5,6,7,8,9,10,11,12,13,14,15,1000,1001,1002,1003,1004,1005,1006,1007,16,1000,1001,17,1000,1001,18,19,20])] Tryz.func458 rfl ?_ (.inr (ay.enc_fr _))
 repeat'(first|(conv=>whnf);refine CB ?_)
 (conv=>whnf)
 refine CE (ι:=Nat) (λi=>[(1,.H .box (ay.enc .X r)),(2,.H .box [I 0,.z]),(3,.H .box [I r.a,.s .own ((r.O.take i).map (bD.enc .own))]),(4,.H .one [I ((i:Nat):Int)])]) (λi=>i<=r.O.length) (λi=>r.O.length - i) (0) ?_ (U0 _) λi g=>?_
 ·exact wC
 by_cases b:i<r.O.length
 ·have d:=ao b
  have a:(nth r.O i).S.length<=1048576:=c.2 _ (am b)
  repeat'(first|refine gD ?_|(conv=>whnf);first|with_reducible refine CC (aa d) ?_|refine CB ?_|refine CO (λ_=>rfl) (λ_=>rfl) a (by decide) ?_|refine Ap.sn (aO λ_=>rfl) rfl (by simp;omega) (by decide) (fK b) ?_)
  ((conv=>whnf);refine CD (i+1) ω ω ?_;(exact wC))
 repeat'(first|refine gD ?_|(conv=>whnf);refine CB ?_)
 obtain rfl:i=r.O.length:=ω
 rw[t5]
 rfl
theorem iz(r:ay)(id:Int)(g:r.O.length<=1048576):ar Tryz.prog 565 false [.val (some 2) (ay.enc .X r),.val none [I id]] .one [I (oz r id)]:=by
 refine fO 22 [] Tryz.func565 rfl ?_
 repeat'(first|(conv=>whnf);refine CB ?_)
 (conv=>whnf)
 refine CE (ι:=Nat) (λi=>[(1,.H .one [I (id)]),(2,.H .box (ay.enc .X r)),(5,.H .one [I ((i:Nat):Int)])]) (λi=>i<=r.O.length/\∀(j:Nat)(z:bD),j<i->r.O[j]? = some z->ns id z=false) (λi=>r.O.length - i) (0) ?_ (⟨U0 _,λj z h=>ω⟩) λi c=>?_
 ·exact wC
 obtain⟨c,b⟩:=c;by_cases d:i<r.O.length
 ·have a:=ao d
  by_cases e:(nth r.O i).Id=id
  ·repeat'(first|refine gA ?_|(conv=>whnf);with_reducible refine CC (aa a) ?_)
   exact W0 (λz=>[I z]) (dE a (O0 e) b).symm
  repeat'(first|refine gA ?_|(conv=>whnf);with_reducible refine CC (aa a) ?_)
  ((conv=>whnf);refine CD (i+1) ⟨ω,dv a (T0 e) b⟩ ω ?_;(exact wC))
 repeat'(first|refine gD ?_|(conv=>whnf);refine CB ?_)
 exact W0 (λz=>[I z]) (gk ω b).symm
theorem nS(r:ay)(c:C)(h:Qt c):hC (ay.enc .own r++[c]):=aI (ay.enc_fr _) ⟨h,trivial⟩
theorem zD(r:ay)(n:Int)(m:Nat)(b:th r m)(h:m<=1000)(c:1<=n/\n<=1000):ar Tryz.prog 451 false [.val (some 2) (ay.enc .X r),.val none [I n]] (.tup [some 2,none]) (ay.enc .X (jm r n)++[I r.a]):=by
 have i:=b.sml h;have d:=b.len;have j:=b.nx;have k:=eJ r i;have e:=aG n 1 1000;rw[O0 c]at e;have key:ar Tryz.prog 451 false [.val (some 2) (ay.enc .X r),.val none [I n]] (.tup [some 2,none]) (ay.enc .own (jm r n)++[I r.a]):=by
  have a:=nS (jm r n) (I r.a) trivial;unfold jm at a |-;rw[C9 c]at a |-;have l:ay.enc .own {r with a:=r.a+1,O:=r.O++[⟨r.a,List.replicate n.toNat 0⟩]} = [I (r.a+1),.s .own (r.O.map (bD.enc .own)++[[I r.a,.s .own (List.replicate n.toNat [I 0])]])]:=by
   simp[ay.enc,bD.enc,rI]
  rw[l]at a |-;refine fO 30 [(4,263,[13,14,15,16,17,18,22,0,1,2,3,4,5,6,1000,1001,7,1000,1001,8,9,10]),(6,259,[27,28,29,0,1,2,3,1001,1002,4])] Tryz.func451 rfl ?_ (.inr a)
  repeat'(first|refine gO ?_|(conv=>whnf);first|refine CB ?_|refine C7 (k) ?_|refine C7 (e) ?_|refine Mk.mk n.toNat ω ω ω (yI ω (by decide)) rfl ?_|refine Ap.sn (aO λ_=>rfl) rfl (by simp;omega) (by decide) rfl ?_)
  (conv=>whnf)
  rfl
 have g:=key.fzR;rw[f9,Cb]at g;exact g
theorem B8(r:ay)(id:Int)(m:Nat)(d:th r m)(k:m<=1000):ar Tryz.prog 528 true [.val (some 2) (ay.enc .X r),.val none [I id]] (.tup [some 2,none]) (ay.enc .X (jK r id)++[B (!decide (oz r id<0))]):=by
 have g:=d.sml k;have h:=d.len;have i:=eJ r g;have b:=iz r id g.1;by_cases e:oz r id<0
 ·have key:ar Tryz.prog 528 true [.val (some 2) (ay.enc .X r),.val none [I id]] (.tup [some 2,none]) (ay.enc .own r++[B false]):=by
   refine fO 30 [(5,267,[16,17,18,19,20,22,23,24,25,26,28,0,1,2,3,4,6,7,8,9,10,5,1006,1007,1008,1009,1010,11,12,13]),(1048581,6,[1])] Tryz.func528 rfl ?_ (.inl rfl)
   repeat'(first|refine gD ?_|(conv=>whnf);first|refine C7 (i) ?_|refine C7 (b) ?_)
   rfl
  have a:=key.fzR;rw[f9,Cb]at a;unfold jK;rw[C9 e,O0 e];exact a
 have n:jK r id = {r with O:=dele r.O (oz r id).toNat}:=by unfold jK;rw[C8 e]
 obtain⟨t,u,w⟩:=fJ (ns id) r.O (by unfold oz at e;omega);obtain⟨j,c⟩:=X2 (show 0<=oz r id by omega);have o:j<r.O.length:=by unfold oz at c;omega
 have key:ar Tryz.prog 528 true [.val (some 2) (ay.enc .X r),.val none [I id]] (.tup [some 2,none]) ([I r.a,.s .own ((dele r.O j).map (bD.enc .X))]++[B true]):=by
  rw[c]at b;refine fO 30 [(5,267,[16,17,18,19,20,22,23,24,25,26,28,0,1,2,3,4,6,7,8,9,10,5,1006,1007,1008,1009,1010,11,12,13]),(1048581,6,[1])] Tryz.func528 rfl ?_ (.inl rfl)
  repeat'(first|refine gD ?_|(conv=>whnf);first|refine CB ?_|refine C7 (i) ?_|refine C7 (b) ?_|refine Fu.mk rfl (Pe r.O) rfl ?_|refine CU j rfl (by rw[Z0];omega) (aO λ_=>rfl) v4 ?_|refine Sl.suf (j+1) ω (by rw[Z0];omega) (aO λ_=>rfl) z4 ?_|refine CO (λ_=>rfl) (λ_=>rfl) (by rw[U1];omega) (by decide) ?_|refine CV (λ_=>rfl) (λ_=>rfl) (by rw[U1];omega) (by decide) ?_|refine Ap.dele (λ_=>rfl) (λ_=>rfl) ω (by decide) ?_)
  rfl
 have a:=key.fzR;have p:eB ([I r.a,.s .own ((dele r.O j).map (bD.enc .X))]++[B true])=ay.enc .X (jK r id)++[B (!decide (oz r id<0))]:=by
  have:∀l:List bD,fzR (l.map (bD.enc .X))=l.map (bD.enc .X):=λl=>by
   induction l with
   | nil=>rfl
   | cons x xs q=>rw[V5,fzR,q,<-bD.enc_fz,pK]
  rw[n,c,T0 ω];simp[eB,fz,ay.enc,this]
 rw[p]at a;exact a
theorem zh(r:ay)(id a v:Int)(m:Nat)(o:th r m)(D:m<=1000)(h:0<=oz r id)(c:0<=a/\a<=(nth r.O (oz r id).toNat).S.length - 1)(p:0<=v/\v<=999):ar Tryz.prog 530 false [.val (some 2) (ay.enc .X r),.val none [I id],.val none [I a],.val none [I v]] (.tup [some 2,none]) (ay.enc .X (eH r id a v)++[B true]):=by
 have k:=o.sml D;have q:=o.len;have E:=eJ r k;have t:=iz r id k.1;obtain⟨J,K,L⟩:=fJ (ns id) r.O h;obtain⟨j,l⟩:=X2 h;have d:j<r.O.length:=by unfold oz at l;omega
 have e:=ao d;have F:(nth r.O j).S.length<=1048576:=k.2 _ (am d);obtain⟨b,g⟩:=X2 c.1;have G:eH r id a v = {r with O:=r.O.set j ⟨(nth r.O j).Id,(nth r.O j).S.set b v⟩}:=by
  unfold eH;rw[C9 ⟨h,c,p⟩,l,g];rfl
 rw[l]at t c;rw[g]at c |-;simp only[W2]at c;have u:=ao (xs:=(nth r.O j).S) (i:=b) ω;have w:=aG (b:Nat) 0 (((nth r.O j).S.length:Nat) - 1:Int);rw[O0 ω]at w;have y:=aG v 0 999;rw[O0 p]at y;have key:ar Tryz.prog 530 false [.val (some 2) (ay.enc .X r),.val none [I id],.val none [I (b:Nat)],.val none [I v]] (.tup [some 2,none]) (ay.enc .own (eH r id (b:Nat) v)++[B true]):=by
  have n:=nS (eH r id (b:Nat) v) (B true) trivial;rw[<-g,G]at n |-;have H:ay.enc .own {r with O:=r.O.set j ⟨(nth r.O j).Id,(nth r.O j).S.set b v⟩} = [I r.a,.s .own ((r.O.map (bD.enc .own)).set j [I (nth r.O j).Id,.s .own (((nth r.O j).S.map (rI .own)).set b [I v])])]:=by
   simp[ay.enc,bD.enc,rI,X5]
  rw[H]at n |-;rw[g];refine fO 48 [] Tryz.func530 rfl ?_ (.inr n)
  repeat'(first|refine gD ?_|(conv=>whnf);first|with_reducible (first|refine CC (aa e) ?_|refine CC (aa u) ?_)|refine C7 (E) ?_|refine C7 (t) ?_|refine C7 (w) ?_|refine C7 (y) ?_|refine CH rfl (aa e) rfl ?_|refine Pu.two rfl rfl (aa e) rfl rfl rfl (aa u) rfl (z3 _) rfl ?_)
  rfl
 have C:=key.fzR;rw[f9,Cb]at C;exact C
theorem Dg(r:ay)(id n:Int)(m:Nat)(l:th r m)(u:m<=1000)(g:0<=oz r id)(c:1<=n/\n<=(nth r.O (oz r id).toNat).S.length):ar Tryz.prog 532 false [.val (some 2) (ay.enc .X r),.val none [I id],.val none [I n]] (.tup [some 2,none]) (ay.enc .X (fG r id n)++[B true]):=by
 have h:=l.sml u;have o:=l.len;have w:=eJ r h;have p:=iz r id h.1;obtain⟨E,F,G⟩:=fJ (ns id) r.O g;obtain⟨j,i⟩:=X2 g;have a:j<r.O.length:=by unfold oz at i;omega
 have d:=ao a;have y:(nth r.O j).S.length<=1048576:=h.2 _ (am a);obtain⟨b,e⟩:=X2 (show 0<=n by omega);have C:fG r id n = {r with O:=r.O.set j ⟨(nth r.O j).Id,(nth r.O j).S.take b⟩}:=by
  unfold fG;rw[C9 ⟨g,c⟩,i,e];rfl
 rw[i]at p c;rw[e]at c |-;simp only[W2]at c;have q:=aG (b:Nat) 1 (((nth r.O j).S.length:Nat):Int);rw[O0 ω]at q;have key:ar Tryz.prog 532 false [.val (some 2) (ay.enc .X r),.val none [I id],.val none [I (b:Nat)]] (.tup [some 2,none]) (ay.enc .own (fG r id (b:Nat))++[B true]):=by
  have k:=nS (fG r id (b:Nat)) (B true) trivial;rw[<-e,C]at k |-;have D:ay.enc .own {r with O:=r.O.set j ⟨(nth r.O j).Id,(nth r.O j).S.take b⟩} = [I r.a,.s .own ((r.O.map (bD.enc .own)).set j [I (nth r.O j).Id,.s .own (((nth r.O j).S.take b).map (rI .X))])]:=by
   simp only[ay.enc,X5]
   rfl
  rw[D]at k |-;rw[e];refine fO 46 [(5,270,[30,31,32,33,34,35,36,37,38,39,40,41,43,44,0,1,2,3,4,5,6,7,8,9,10,11,12,1000,1001,1002,13,14,15])] Tryz.func532 rfl ?_ (.inr k)
  repeat'(first|refine gD ?_|(conv=>whnf);first|with_reducible refine CC (aa d) ?_|refine CB ?_|refine C7 (w) ?_|refine C7 (p) ?_|refine C7 (q) ?_|refine CU b rfl (by rw[Z0];omega) (aO λ_=>rfl) v4 ?_|refine CV (λ_=>rfl) (λ_=>rfl) (by rw[U1];omega) (by decide) ?_|refine CO (λ_=>rfl) (λ_=>rfl) (by rw[U1];omega) (by decide) ?_|refine CP rfl rfl (aa d) rfl (C1 rfl) rfl ?_)
  rfl
 have t:=key.fzR;rw[f9,Cb]at t;exact t
theorem Bz(r:ay)(id a v:Int)(m:Nat)(h:th r m)(l:m<=1000)(u:0<=v/\v<=999):∃b:Bool,ar Tryz.prog 530 false [.val (some 2) (ay.enc .X r),.val none [I id],.val none [I a],.val none [I v]] (.tup [some 2,none]) (ay.enc .X (eH r id a v)++[B b]):=by
 by_cases i:0<=oz r id
 ·by_cases d:0<=a/\a<=(nth r.O (oz r id).toNat).S.length - 1
  ·exact⟨true,zh r id a v m h l i d u⟩
  refine⟨false,?_⟩;have c:=h.sml l;have o:=h.len;have n:=eJ r c;have k:=iz r id c.1;obtain⟨C,D,E⟩:=fJ (ns id) r.O i;obtain⟨j,p⟩:=X2 i;have e:j<r.O.length:=by unfold oz at p;omega
  have q:=ao e;have w:(nth r.O j).S.length<=1048576:=c.2 _ (am e);have y:eH r id a v=r:=by unfold eH;rw[C8 (λx=>d x.2.1)]
  rw[p]at k d;simp only[W2]at d;have t:=aG a 0 (((nth r.O j).S.length:Nat) - 1:Int);rw[T0 d]at t;rw[y];have key:ar Tryz.prog 530 false [.val (some 2) (ay.enc .X r),.val none [I id],.val none [I a],.val none [I v]] (.tup [some 2,none]) (ay.enc .own r++[B false]):=by
   refine fO 48 [] Tryz.func530 rfl ?_ (.inr (nS r (B false) trivial))
   repeat'(first|refine gD ?_|(conv=>whnf);first|with_reducible refine CC (aa q) ?_|refine C7 (n) ?_|refine C7 (k) ?_|refine C7 (t) ?_)
   rfl
  have g:=key.fzR;rw[f9,Cb]at g;exact g
 refine⟨false,?_⟩;have c:=h.sml l;have n:=eJ r c;have k:=iz r id c.1;rw[show eH r id a v=r by unfold eH;rw[C8 (λx=>i x.1)]];have key:ar Tryz.prog 530 false [.val (some 2) (ay.enc .X r),.val none [I id],.val none [I a],.val none [I v]] (.tup [some 2,none]) (ay.enc .own r++[B false]):=by
  refine fO 48 [] Tryz.func530 rfl ?_ (.inr (nS r (B false) trivial))
  repeat'(first|refine gD ?_|(conv=>whnf);first|refine C7 (n) ?_|refine C7 (k) ?_)
  rfl
 have g:=key.fzR;rw[f9,Cb]at g;exact g
theorem Fe(r:ay)(id n:Int)(m:Nat)(g:th r m)(k:m<=1000):∃b:Bool,ar Tryz.prog 532 false [.val (some 2) (ay.enc .X r),.val none [I id],.val none [I n]] (.tup [some 2,none]) (ay.enc .X (fG r id n)++[B b]):=by
 by_cases h:0<=oz r id
 ·by_cases c:1<=n/\n<=(nth r.O (oz r id).toNat).S.length
  ·exact⟨true,Dg r id n m g k h c⟩
  refine⟨false,?_⟩;have a:=g.sml k;have o:=g.len;have l:=eJ r a;have i:=iz r id a.1;obtain⟨y,C,D⟩:=fJ (ns id) r.O h;obtain⟨j,p⟩:=X2 h;have d:j<r.O.length:=by unfold oz at p;omega
  have q:=ao d;have u:(nth r.O j).S.length<=1048576:=a.2 _ (am d);have w:fG r id n=r:=by unfold fG;rw[C8 (λx=>c x.2)]
  rw[p]at i c;simp only[W2]at c;have t:=aG n 1 (((nth r.O j).S.length:Nat):Int);rw[T0 c]at t;rw[w];have key:ar Tryz.prog 532 false [.val (some 2) (ay.enc .X r),.val none [I id],.val none [I n]] (.tup [some 2,none]) (ay.enc .own r++[B false]):=by
   refine fO 46 [(5,270,[30,31,32,33,34,35,36,37,38,39,40,41,43,44,0,1,2,3,4,5,6,7,8,9,10,11,12,1000,1001,1002,13,14,15])] Tryz.func532 rfl ?_ (.inr (nS r (B false) trivial))
   repeat'(first|refine gD ?_|(conv=>whnf);first|with_reducible refine CC (aa q) ?_|refine C7 (l) ?_|refine C7 (i) ?_|refine C7 (t) ?_)
   rfl
  have e:=key.fzR;rw[f9,Cb]at e;exact e
 refine⟨false,?_⟩;have a:=g.sml k;have l:=eJ r a;have i:=iz r id a.1;rw[show fG r id n=r by unfold fG;rw[C8 (λx=>h x.1)]];have key:ar Tryz.prog 532 false [.val (some 2) (ay.enc .X r),.val none [I id],.val none [I n]] (.tup [some 2,none]) (ay.enc .own r++[B false]):=by
  refine fO 46 [(5,270,[30,31,32,33,34,35,36,37,38,39,40,41,43,44,0,1,2,3,4,5,6,7,8,9,10,11,12,1000,1001,1002,13,14,15])] Tryz.func532 rfl ?_ (.inr (nS r (B false) trivial))
  repeat'(first|refine gD ?_|(conv=>whnf);first|refine C7 (l) ?_|refine C7 (i) ?_)
  rfl
 have e:=key.fzR;rw[f9,Cb]at e;exact e
structure iL where
 i:Nat
 h:Int
deriving Inhabited
def w64(x:Int):Int:=IntKind.i64.wrap x
def Ra(h:Int):Int:=w64 (w64 (h*6364136223846793005)+1442695040888963407)
def QL(a b:Int):Int:=w64 ((BitVec.ofInt IntKind.i64.bits a ^^^ BitVec.ofInt IntKind.i64.bits b).toNat:Nat)
def and255(a:Int):Int:=w64 ((BitVec.ofInt IntKind.i64.bits a &&& BitVec.ofInt IntKind.i64.bits 255).toNat:Nat)
def NN(h:Int)(n:Nat):Int:=h.fdiv (2 ^ (min n IntKind.i64.bits))
def Ak(h:Int):Int:=and255 (QL (NN h 33) (NN h 45))
theorem A6(a:Int):0<=and255 a/\and255 a<=255:=by
 have b:(BitVec.ofInt IntKind.i64.bits a &&& BitVec.ofInt IntKind.i64.bits 255).toNat<=255:=by
  rw[BitVec.toNat_and];exact W4 Nat.and_le_right (by decide)
 unfold and255 w64;rw[eN ω ω];omega
def dH(zs:List Int)(c:iL):Int × iL:=if c.i<zs.length then(and255 (Ak (Ra c.h)+nth zs c.i),⟨c.i+1,Ra c.h⟩) else(Ak (Ra c.h),⟨c.i,Ra c.h⟩)
theorem ss(zs:List Int)(c:iL):0<=(dH zs c).1/\(dH zs c).1<=255:=by
 unfold dH;split<;>exact A6 _
theorem iO{zs:List Int}{c:iL}(h:c.i<=zs.length):(dH zs c).2.i<=zs.length:=by
 unfold dH;split
 ·simp only;omega
 exact h
def Ba(zs:List Int)(c:iL):Int × iL:=
 ((dH zs c).1*16777216+(dH zs (dH zs c).2).1*65536+(dH zs (dH zs (dH zs c).2).2).1*256+(dH zs (dH zs (dH zs (dH zs c).2).2).2).1,(dH zs (dH zs (dH zs (dH zs c).2).2).2).2)
def bt(zs:List Int)(c:iL)(n:Int):Int × iL:=if n<=256 then((dH zs c).1 % n,(dH zs c).2) else((Ba zs c).1 % n,(Ba zs c).2)
theorem bF(zs:List Int)(c:iL){n:Int}(h:1<=n):0<=(bt zs c n).1/\(bt zs c n).1<n:=by
 unfold bt;split<;>exact⟨Int.emod_nonneg _ ω,Int.emod_lt_of_pos _ ω⟩
theorem bT{zs:List Int}{c:iL}(h:c.i<=zs.length)(n:Int):(bt zs c n).2.i<=zs.length:=by
 unfold bt;split
 ·exact iO h
 exact iO (iO (iO (iO h)))
def lG(zs:List Int)(c:iL)(l:List Int):Int × iL:=(nth l (bt zs c (l.length:Nat)).1.toNat,(bt zs c (l.length:Nat)).2)
theorem pO(zs:List Int)(c:iL){l:List Int}(h:1<=l.length):(lG zs c l).1∈l:=by
 have:=bF zs c (n:=(l.length:Nat)) ω;exact am ω
def oJ(zs:List Int):Nat->Nat->List Int->iL->List Int × iL
 | 0,_,out,c=>(out,(bt zs c 4).2)
 | f+1,i,out,c=>if(i:Int)<(bt zs c 4).1 then oJ zs f (i+1) (out++[(bt zs (bt zs c 4).2 12).1]) (bt zs (bt zs c 4).2 12).2 else(out,(bt zs c 4).2)
def Ps(zs:List Int)(c:iL):List Int × iL:=oJ zs 4 0 [] c
theorem Jg(zs:List Int):∀(f i:Nat)(out:List Int)(c:iL),(∀x∈out,0<=x)->out.length+f<=4->c.i<=zs.length->(∀x∈(oJ zs f i out c).1,0<=x)/\(oJ zs f i out c).1.length<=4/\(oJ zs f i out c).2.i<=zs.length
 | 0,_,out,c,b,e,d=>⟨b,by show out.length<=4;omega,bT d _⟩
 | f+1,i,out,c,b,e,d=>by
  unfold oJ;split
  ·refine Jg zs f (i+1) _ _ (λx a=>?_) (by simp only[I3,List.length_singleton];omega) (bT (bT d _) _)
   rcases Z2.1 a with a|a
   ·exact b x a
   rw[I1.1 a];exact(bF zs _ (by decide)).1
  exact⟨b,by show out.length<=4;omega,bT d _⟩
def zy(zs:List Int)(c:iL):Int × iL:=bt zs c 7
def FV(zs:List Int)(c:iL):Int × iL:=bt zs (zy zs c).2 3
def Gl(zs:List Int)(c:iL):Int × iL:=bt zs (FV zs c).2 100
def DI(zs:List Int)(c:iL):Int × iL:=bt zs (Gl zs c).2 4
def Qr(zs:List Int)(c:iL):List Int × iL:=Ps zs (DI zs c).2
def qI(zs:List Int)(c:iL):cF:=⟨(6+(zy zs c).1).toNat,(6+(zy zs c).1 - (DI zs c).1).toNat,(1+(FV zs c).1).toNat,40+(Gl zs c).1,(Qr zs c).1⟩
theorem oG{zs:List Int}{c:iL}(h:c.i<=zs.length):EK (qI zs c)/\(Qr zs c).2.i<=zs.length:=by
 have a:=bF zs c (n:=7) (by decide);have b:=bF zs (zy zs c).2 (n:=3) (by decide);have d:=bF zs (FV zs c).2 (n:=100) (by decide);have e:=bF zs (Gl zs c).2 (n:=4) (by decide);change 0<=(zy zs c).1/\(zy zs c).1<7 at a;change 0<=(FV zs c).1/\(FV zs c).1<3 at b;change 0<=(Gl zs c).1/\(Gl zs c).1<100 at d;change 0<=(DI zs c).1/\(DI zs c).1<4 at e;obtain⟨f,k,g⟩:=Jg zs 4 0 [] (DI zs c).2 (λx j=>by cases j) (by simp) (bT (bT (bT (bT h _) _) _) _);refine⟨⟨?_,?_,?_,?_,?_⟩,g⟩
 ·show 1<=(6+(zy zs c).1).toNat/\(6+(zy zs c).1).toNat<=32;omega
 ·show 1<=(6+(zy zs c).1 - (DI zs c).1).toNat/\(6+(zy zs c).1 - (DI zs c).1).toNat<=32;omega
 ·show 1<=(1+(FV zs c).1).toNat/\(1+(FV zs c).1).toNat<=4;omega
 ·show 0<=40+(Gl zs c).1/\40+(Gl zs c).1<=1000;omega
 exact⟨by show(oJ zs 4 0 [] (DI zs c).2).1.length<=40;omega,f⟩
def AU(zs:List Int)(c:iL):Int × iL:=bt zs c 3
def Gg(zs:List Int)(c:iL)(ids:Int):Int × iL:=bt zs (AU zs c).2 ids
def lv(zs:List Int)(c:iL)(ids:Int):Int × iL:=bt zs (Gg zs c ids).2 20
def szs:List Int:=[1,1,2,2,3,4,4,5,8,9,20]
def rN(zs:List Int)(c:iL)(ids:Int):eI × iL:=
 if(lv zs c ids).1<=6 then(⟨1,(AU zs c).1,(lG zs (lv zs c ids).2 szs).1,0,0⟩,(lG zs (lv zs c ids).2 szs).2)
 else if(lv zs c ids).1<=9 then(⟨2,(AU zs c).1,1+(Gg zs c ids).1,0,0⟩,(lv zs c ids).2)
 else if(lv zs c ids).1<=12 then(⟨3,(AU zs c).1,1+(Gg zs c ids).1,(bt zs (lv zs c ids).2 4).1,1+(bt zs (bt zs (lv zs c ids).2 4).2 999).1⟩,(bt zs (bt zs (lv zs c ids).2 4).2 999).2)
 else if(lv zs c ids).1=13 then(⟨4,(AU zs c).1,1+(Gg zs c ids).1,0,9+(bt zs (lv zs c ids).2 10).1⟩,(bt zs (lv zs c ids).2 10).2)
 else if(lv zs c ids).1=14 then(⟨(lG zs (lv zs c ids).2 [5,6]).1,(AU zs c).1,1+(Gg zs c ids).1,0,0⟩,(lG zs (lv zs c ids).2 [5,6]).2)
 else if(lv zs c ids).1=15 then(⟨7,(AU zs c).1,1+(Gg zs c ids).1,0,0⟩,(lv zs c ids).2)
 else if(lv zs c ids).1=16 then(⟨8,(AU zs c).1,(lG zs (lv zs c ids).2 [1,30,60,120]).1,0,0⟩,(lG zs (lv zs c ids).2 [1,30,60,120]).2)
 else if(lv zs c ids).1=17 then(⟨9,(AU zs c).1,1+(Gg zs c ids).1,0,0⟩,(lv zs c ids).2)
 else(⟨10,(AU zs c).1,(lG zs (lv zs c ids).2 [1,2,3,10,30]).1,0,0⟩,(lG zs (lv zs c ids).2 [1,2,3,10,30]).2)
structure LM(a:eI):Prop where
 k:1<=a.b6/\a.b6<=10
 t:0<=a.a4/\a.a4<=1000000
 n:0<=a.N/\a.N<=1000000
 p:0<=a.At/\a.At<=1000000
 v:0<=a.Value/\a.Value<=1000000
theorem Nr{zs:List Int}{c:iL}{ids:Int}(h:c.i<=zs.length)(b:1<=ids/\ids<=1000):LM (rN zs c ids).1/\(rN zs c ids).2.i<=zs.length:=by
 have d:=bF zs c (n:=3) (by decide);have e:=bF zs (AU zs c).2 (n:=ids) b.1;change 0<=(AU zs c).1/\(AU zs c).1<3 at d;change 0<=(Gg zs c ids).1/\(Gg zs c ids).1<ids at e;have a:(lv zs c ids).2.i<=zs.length:=bT (bT (bT h _) _) _;have f:=pO zs (lv zs c ids).2 (l:=szs) (by decide);have g:=pO zs (lv zs c ids).2 (l:=[5,6]) (by decide);have j:=pO zs (lv zs c ids).2 (l:=[1,30,60,120]) (by decide);have k:=pO zs (lv zs c ids).2 (l:=[1,2,3,10,30]) (by decide);have o:=bF zs (lv zs c ids).2 (n:=4) (by decide);have p:=bF zs (bt zs (lv zs c ids).2 4).2 (n:=999) (by decide);have q:=bF zs (lv zs c ids).2 (n:=10) (by decide);simp only[szs,List.mem_cons,List.not_mem_nil,or_false]at f g j k;unfold rN
 repeat' split
 ·exact⟨⟨by simp only;omega,by simp only;omega,by simp only[szs];omega,by simp only;omega,by simp only;omega⟩,bT a _⟩
 ·exact⟨⟨by simp only;omega,by simp only;omega,by simp only;omega,by simp only;omega,by simp only;omega⟩,a⟩
 ·exact⟨⟨by simp only;omega,by simp only;omega,by simp only;omega,by simp only;omega,by simp only;omega⟩,bT (bT a _) _⟩
 ·exact⟨⟨by simp only;omega,by simp only;omega,by simp only;omega,by simp only;omega,by simp only;omega⟩,bT a _⟩
 ·exact⟨⟨by simp only;omega,by simp only;omega,by simp only;omega,by simp only;omega,by simp only;omega⟩,bT a _⟩
 ·exact⟨⟨by simp only;omega,by simp only;omega,by simp only;omega,by simp only;omega,by simp only;omega⟩,a⟩
 ·exact⟨⟨by simp only;omega,by simp only;omega,by simp only;omega,by simp only;omega,by simp only;omega⟩,bT a _⟩
 ·exact⟨⟨by simp only;omega,by simp only;omega,by simp only;omega,by simp only;omega,by simp only;omega⟩,a⟩
 exact⟨⟨by simp only;omega,by simp only;omega,by simp only;omega,by simp only;omega,by simp only;omega⟩,bT a _⟩
def lA(zs:List Int)(c:iL):Nat->List eI × iL
 | 0=>([],(bt zs c 41).2)
 | i+1=>((lA zs c i).1++[(rN zs (lA zs c i).2 (1+(i:Int) / 2)).1],(rN zs (lA zs c i).2 (1+(i:Int) / 2)).2)
def ll(zs:List Int)(c:iL):List eI × iL:=lA zs c (bt zs c 41).1.toNat
theorem oP{zs:List Int}{c:iL}(h:c.i<=zs.length):∀{n:Nat},n<=100->(lA zs c n).1.length=n/\(∀a∈(lA zs c n).1,LM a)/\(lA zs c n).2.i<=zs.length
 | 0,_=>⟨rfl,λa b=>(by cases b),bT h _⟩
 | n+1,k=>by
  obtain⟨d,e,f⟩:=oP h (n:=n) ω;obtain⟨g,j⟩:=Nr (ids:=1+(n:Int) / 2) f ω;refine⟨by simp only[lA,I3,List.length_singleton,d],λa b=>?_,j⟩;rcases Z2.1 b with b|b
  ·exact e a b
  rw[I1.1 b];exact g
def qf(zs:List Int):Nat->Int
 | 0=>w64 (98801+(zs.length:Nat))
 | i+1=>w64 ((BitVec.ofInt IntKind.i64.bits (w64 (w64 (w64 (qf zs i*131)+nth zs i)+7)) &&& BitVec.ofInt IntKind.i64.bits 1073741823).toNat:Nat)
def rY(zs:List Int):iL:=⟨0,qf zs (min zs.length 4000)⟩
def ed(zs:List Int):iL:=(Qr zs (rY zs)).2
def drawn(zs:List Int):bk:=(yH (qI zs (rY zs)) (ll zs (ed zs)).1 (ll zs (ed zs)).1.length).1
theorem xP(zs:List Int):rG (drawn zs) 40:=by
 have a:(rY zs).i<=zs.length:=U0 _;obtain⟨b,d⟩:=oG a;have f:=bF zs (ed zs) (n:=41) (by decide);obtain⟨e,-,-⟩:=oP (zs:=zs) (c:=ed zs) d (n:=(bt zs (ed zs) 41).1.toNat) ω;refine(uv b _ _).more ?_;show(lA zs (ed zs) _).1.length<=40;rw[e];omega
def rU(z:Int):List C:=[.v (.int .u8 z)]
def iB(zs:List Int)(c:iL):List C:=[.s .X (zs.map rU),I (c.i:Nat),I c.h]
def jB(zs:List Int):Prop:=zs.length<=1048576/\∀z∈zs,0<=z/\z<=255
theorem kH(zs:List Int)(c:iL)(e:jB zs)(w:c.i<=zs.length):aW Tryz.prog 195 false [.ptr (iB zs c)] [.ptr (iB zs (dH zs c).2)] .one [I (dH zs c).1]:=by
 have g:IntKind.i64.wrap (c.h*6364136223846793005)=w64 (c.h*6364136223846793005):=rfl;have b:IntKind.i64.wrap (w64 (c.h*6364136223846793005)+1442695040888963407)=Ra c.h:=rfl;have o:=e.1;generalize p:Ra c.h=H at b;have j:H.fdiv (2 ^ (min (33:Int).toNat IntKind.i64.bits))=NN H 33:=rfl;have k:H.fdiv (2 ^ (min (45:Int).toNat IntKind.i64.bits))=NN H 45:=rfl;have l:IntKind.i64.wrap (BitVec.ofInt IntKind.i64.bits (NN H 33) ^^^ BitVec.ofInt IntKind.i64.bits (NN H 45)).toNat=QL (NN H 33) (NN H 45):=rfl;have d:IntKind.i64.wrap (BitVec.ofInt IntKind.i64.bits (QL (NN H 33) (NN H 45)) &&& BitVec.ofInt IntKind.i64.bits 255).toNat=Ak H:=rfl;have r:0<=Ak H/\Ak H<=255:=A6 _;unfold dH;rw[p];generalize Ak H=y at d r |-;refine fM 58 [] [(2,10,[13,14,15,16,17,18,19,20,21,22]),(3,9,[25,26,27,28,29,30,31,32,33]),(4,12,[35,36,37,38,39,40,41,42,43,44,45,46])] [(0,0)] Tryz.func195 rfl (λu q=>?_);by_cases a:c.i<zs.length
 ·rw[C9 a]
  have n:=ao a;have B:=e.2 _ (am a);have t:IntKind.i64.wrap (BitVec.ofInt IntKind.i64.bits (y+nth zs c.i) &&& BitVec.ofInt IntKind.i64.bits 255).toNat=and255 (y+nth zs c.i):=rfl
  repeat'(first|refine gD ?_|(conv=>whnf);first|with_reducible (first|refine CM g ?_|refine CM b ?_|refine CM l ?_|refine CM d ?_|refine CM t ?_|refine CC (aa n) ?_|refine CN (by decide) ?_|refine CQ j ?_|refine CQ k ?_))
  refine CF rfl rfl ?_;exact wB
 rw[C8 a]
 repeat'(first|refine gD ?_|(conv=>whnf);first|with_reducible (first|refine CM g ?_|refine CM b ?_|refine CM l ?_|refine CM d ?_|refine CN (by decide) ?_|refine CQ j ?_|refine CQ k ?_))
 refine CF rfl rfl ?_;exact wB
theorem bR(zs:List Int)(c:iL)(n:Int)(b:jB zs)(d:c.i<=zs.length)(p:1<=n):aW Tryz.prog 58 false [.ptr (iB zs c),.val none [I n]] [.ptr (iB zs (bt zs c n).2),.val none [I n]] .one [I (bt zs c n).1]:=by
 have j:=ss zs c;have g:=kH zs c b d;unfold bt;refine fM 37 [(195,[2])] [] [(0,0),(0,0)] Tryz.func58 rfl (λu q=>?_);by_cases h:n<=256
 ·rw[C9 h]
  have a:(dH zs c).1.tmod n=(dH zs c).1 % n:=Int.tmod_eq_emod_of_nonneg j.1
  repeat'(first|refine gD ?_|(conv=>whnf);first|with_reducible refine CQ a ?_|refine CJ (g) (.inl rfl) ?_|refine CN ω ?_)
  refine CF rfl rfl ?_;exact wB
 rw[C8 h];have r:=ss zs (dH zs c).2;have t:=ss zs (dH zs (dH zs c).2).2;have w:=ss zs (dH zs (dH zs (dH zs c).2).2).2;have k:=kH zs (dH zs c).2 b (iO d);have l:=kH zs (dH zs (dH zs c).2).2 b (iO (iO d));have o:=kH zs (dH zs (dH zs (dH zs c).2).2).2 b (iO (iO (iO d)));have a:(Ba zs c).1.tmod n=(Ba zs c).1 % n:=Int.tmod_eq_emod_of_nonneg (by unfold Ba;simp only;omega);unfold Ba at a |-;simp only at a
 repeat'(first|refine gD ?_|(conv=>whnf);first|with_reducible refine CQ a ?_|refine CJ (g) (.inl rfl) ?_|refine CJ (k) (.inl rfl) ?_|refine CJ (l) (.inl rfl) ?_|refine CJ (o) (.inl rfl) ?_|refine CN ω ?_)
 refine CF rfl rfl ?_;exact wB
theorem Lb(zs:List Int)(c:iL)(l:List Int)(b:jB zs)(d:c.i<=zs.length)(g:1<=l.length/\l.length<=1000):aW Tryz.prog 459 false [.ptr (iB zs c),.val none (aD .X l)] [.ptr (iB zs (lG zs c l).2),.val none (aD .X l)] .one [I (lG zs c l).1]:=by
 have e:=bR zs c (l.length:Nat) b d ω;have h:=bF zs c (n:=(l.length:Nat)) ω;have a:=ao (xs:=l) (i:=(bt zs c (l.length:Nat)).1.toNat) ω;unfold lG;refine fM 12 [(58,[2,0])] [] [(0,0),(0,0)] Tryz.func459 rfl (λu q=>?_)
 repeat'(first|refine gO ?_|(conv=>whnf);first|with_reducible refine CL ω (aa a) ?_|refine CJ (e) (.inl rfl) ?_)
 refine CF rfl rfl ?_;exact wC
theorem jo(zs:List Int)(c:iL)(l:List Int)(b:jB zs)(d:c.i<=zs.length)(g:1<=l.length/\l.length<=1000):aW Tryz.prog 459 false [.ptr (iB zs c),.mut none (aD .own l)] [.ptr (iB zs (lG zs c l).2),.mut none (aD .own l)] .one [I (lG zs c l).1]:=by
 have e:=bR zs c (l.length:Nat) b d ω;have h:=bF zs c (n:=(l.length:Nat)) ω;have a:=ao (xs:=l) (i:=(bt zs c (l.length:Nat)).1.toNat) ω;unfold lG;refine fM 12 [(58,[2,0])] [] [(0,0),(1,0)] Tryz.func459 rfl (λu q=>?_)
 repeat'(first|refine gO ?_|(conv=>whnf);first|with_reducible refine CL ω (aa a) ?_|refine CJ (e) (.inl rfl) ?_|refine CH rfl (aa a) rfl ?_)
 refine CF rfl rfl ?_;exact wC
theorem KW(zs:List Int):∀(f i:Nat)(out:List Int)(c:iL),(bt zs c 4).1<=i->oJ zs f i out c=(out,(bt zs c 4).2)
 | 0,_,_,_,_=>rfl
 | f+1,i,out,c,h=>by unfold oJ;rw[C8 ω]
theorem Pn(zs:List Int)(f i:Nat)(out:List Int)(c:iL)(h:(i:Int)<(bt zs c 4).1):oJ zs (f+1) i out c=oJ zs f (i+1) (out++[(bt zs (bt zs c 4).2 12).1]) (bt zs (bt zs c 4).2 12).2:=by
 show(if _ then _ else _)=_;rw[C9 h]
structure Rq where
 i:Nat
 out:List Int
 c:iL
theorem xp(zs:List Int)(c:iL)(e:jB zs)(j:c.i<=zs.length):aW Tryz.prog 345 false [.ptr (iB zs c)] [.ptr (iB zs (Ps zs c).2)] .one (aD .own (Ps zs c).1):=by
 refine fM 18 [(58,[2,0])] [] [(0,0)] Tryz.func345 rfl (λu q=>?_) (.inr (bH _))
 repeat'(first|refine gO ?_|fail)
 (conv=>whnf)
 refine CE (ι:=Rq) (λx=>[(0,.H .box (iB zs x.c)),(3,.H .one (aD .own x.out)),(4,.H .one [I ((x.i:Nat):Int)])]) (λx=>(x.i<=4/\x.out.length<=x.i/\x.c.i<=zs.length)/\oJ zs (4 - x.i) x.i x.out x.c=Ps zs c) (λx=>4 - x.i) (⟨0,[],c⟩) ?_ (⟨⟨U0 _,U0 _,j⟩,rfl⟩) λx k=>?_
 ·exact wC
 obtain⟨i,out,d⟩:=x;obtain⟨⟨l,o,b⟩,a⟩:=k;simp only at l o b a |-;have B:=bF zs d (n:=4) (by decide);have g:=bR zs d 4 e b (by decide);have h:=bT b 4;have p:=bR zs (bt zs d 4).2 12 e h (by decide);have t:=bT h 12;by_cases w:(i:Int)<(bt zs d 4).1
 ·rw[show 4 - i=(4 - (i+1))+1 by omega,Pn zs _ _ _ _ w]at a
  repeat'(first|refine gD ?_|(conv=>whnf);first|refine CJ (g) (.inl rfl) ?_|refine CJ (p) (.inl rfl) ?_|refine CT cn (λr y=>by rw[I1.1 y];rfl) (by simp[aY,eg]) (by simp;omega) (by simp only[Z0];exact yI (by simp;omega) (by decide)) rfl ?_)
  ((conv=>whnf);refine CD ⟨i+1,out++[(bt zs (bt zs d 4).2 12).1],(bt zs (bt zs d 4).2 12).2⟩ ⟨⟨by simp only;omega,by simp only[I3,List.length_singleton];omega,t⟩,a⟩ (by simp only;omega) ?_)
  repeat'(first|exact trivial|rfl |exact CK rfl (CK (W0 (C.s dQ.own) (by simp[rI])) trivial)|refine CK ?_ ?_)
 rw[KW zs _ _ _ _ ω]at a;rw[<-a]
 repeat'(first|refine gD ?_|(conv=>whnf);refine CJ (g) (.inl rfl) ?_)
 refine CF rfl rfl ?_;exact wC
def cF.enc(o:dQ)(c:cF):List C:=[I (c.a3:Nat),I (c.W:Nat),I (c.c7:Nat),I c.c3,.s o (c.a0.map (rI o))]
theorem cF.enc_fz(c:cF):eB (cF.enc .own c)=cF.enc .X c:=by simp[eB,cF.enc,rI,<-co,U5]
theorem cF.enc_fr(c:cF):hC (cF.enc .own c):=⟨trivial,trivial,trivial,trivial,⟨.inl λh=>(by cases h),bg _ _ λy _=>nY y⟩,trivial⟩
theorem xo(zs:List Int)(c:iL)(a:jB zs)(h:c.i<=zs.length):aW Tryz.prog 193 false [.ptr (iB zs c)] [.ptr (iB zs (Qr zs c).2)] .agg (cF.enc .own (qI zs c)):=by
 have j:=bT h 7;have k:=bT j 3;have l:=bT k 100;have y:=bT l 4;have b:=bR zs c 7 a h (by decide);have d:=bR zs (zy zs c).2 3 a j (by decide);have e:=bR zs (FV zs c).2 100 a k (by decide);have g:=bR zs (Gl zs c).2 4 a l (by decide);have o:=xp zs (DI zs c).2 a y;have p:=bF zs c (n:=7) (by decide);have r:=bF zs (zy zs c).2 (n:=3) (by decide);have B:=bF zs (FV zs c).2 (n:=100) (by decide);have t:=bF zs (Gl zs c).2 (n:=4) (by decide);have w:=cF.enc_fr (qI zs c);have C:cF.enc .own (qI zs c)=[I (6+(zy zs c).1),I (6+(zy zs c).1 - (DI zs c).1),I (1+(FV zs c).1),I (40+(Gl zs c).1),.s .own ((Qr zs c).1.map (rI .own))]:=by
  have D:0<=(zy zs c).1/\(zy zs c).1<7:=p;have E:0<=(FV zs c).1/\(FV zs c).1<3:=r;have F:0<=(DI zs c).1/\(DI zs c).1<4:=t;unfold cF.enc qI;simp only;rw[Int.toNat_of_nonneg ω,Int.toNat_of_nonneg ω,Int.toNat_of_nonneg ω]
 rw[C]at w |-;change aW _ _ _ _ [.ptr (iB zs (zy zs c).2),_] _ _ at b;change aW _ _ _ _ [.ptr (iB zs (FV zs c).2),_] _ _ at d;change aW _ _ _ _ [.ptr (iB zs (Gl zs c).2),_] _ _ at e;change aW _ _ _ _ [.ptr (iB zs (DI zs c).2),_] _ _ at g;change aW _ _ _ _ [.ptr (iB zs (Qr zs c).2)] _ (aD .own (Qr zs c).1) at o;change aW _ _ _ _ _ _ [I (zy zs c).1]at b;change aW _ _ _ _ _ _ [I (FV zs c).1]at d;change aW _ _ _ _ _ _ [I (Gl zs c).1]at e;change aW _ _ _ _ _ _ [I (DI zs c).1]at g;change 0<=(zy zs c).1/\(zy zs c).1<7 at p;change 0<=(FV zs c).1/\(FV zs c).1<3 at r;change 0<=(Gl zs c).1/\(Gl zs c).1<100 at B;change 0<=(DI zs c).1/\(DI zs c).1<4 at t;generalize Qr zs c=r5 at *;generalize DI zs c=r4 at *;generalize Gl zs c=r3 at *;generalize FV zs c=r2 at *;generalize zy zs c=r1 at *;refine fM 24 [(58,[2,0]),(345,[2])] [(2,65536,[])] [(0,0)] Tryz.func193 rfl (λu q=>?_) (.inr w)
 repeat'(first|refine gO ?_|(conv=>whnf);first|refine CJ (b) (.inl rfl) ?_|refine CJ (d) (.inl rfl) ?_|refine CJ (e) (.inl rfl) ?_|refine CJ (g) (.inl rfl) ?_|refine CJ (o) (.inl rfl) ?_|refine CK ?_ ?_)
 all_goals
  refine CF rfl rfl ?_;exact wC
theorem xl(n:Nat)(e:1<=n/\n<=32):ar Tryz.prog 580 false [.val none [I (n:Nat)]] (.tup [some 2,none]) (bc.enc .own (gp n)++[B true]):=by
 have c:=aG ((n:Nat):Int) 1 32;rw[O0 ω]at c;have a:=aI (b:=[B true]) (bc.enc_fr (gp n)) ⟨trivial,trivial⟩;rw[show bc.enc .own (gp n)=_ from Gs n n]at a |-;refine fO 28 [(7,4,[16,17,18,19])] Tryz.func580 rfl ?_ (.inr a)
 repeat'(first|refine gO ?_|(conv=>whnf);refine C7 (c) ?_)
 (conv=>whnf)
 refine CE (ι:=Nat) (λk=>[(0,.H .one [I ((n:Nat))]),(2,.H .box [.z,.z]),(4,.H .box [.s .own (List.replicate k [.s .own (List.replicate 16 [I 0])]),.s .own (List.replicate k [B false])]),(5,.H .one [I ((k:Nat):Int)])]) (λk=>k<=n) (λk=>n - k) (0) ?_ (U0 _) λk g=>?_
 ·exact wB
 by_cases h:k<n
 ·repeat'(first|refine gD ?_|(conv=>whnf);first|refine Mk.mk 16 rfl rfl (by decide) (by decide) rfl ?_|refine Ap.sn (λr d=>by rw[(List.mem_replicate.1 d).2];rfl) rfl (by simp;omega) (by decide) (Fo _ k) ?_)
  ((conv=>whnf);refine CD (k+1) ω ω ?_;(exact wB))
 obtain rfl:k=n:=ω
 repeat'(first|refine gD ?_|(conv=>whnf);refine CB ?_)
 rfl
theorem zk(n:Nat)(e:1<=n/\n<=32):ar Tryz.prog 581 false [.val none [I (n:Nat)]] (.tup [some 1,none]) (aH.enc .own (eS n)++[B true]):=by
 have c:=aG ((n:Nat):Int) 1 32;rw[O0 ω]at c;have a:=aI (b:=[B true]) (aH.enc_fr (eS n)) ⟨trivial,trivial⟩;have d:aH.enc .own (eS n)=[.s .own (List.replicate n [I 0,I 0])]:=by simp[aH.enc,eS,bi.enc,List.map_replicate]
 rw[d]at a |-;refine fO 11 [] Tryz.func581 rfl ?_ (.inr a)
 repeat'(first|refine gO ?_|(conv=>whnf);first|refine C7 (c) ?_|refine Mk.mk n rfl rfl ω (yI ω (by decide)) rfl ?_)
 rfl
theorem vS(p f:Nat)(a:1<=p/\p<=32)(b:1<=f/\f<=32):ar Tryz.prog 557 false [.val none [I (p:Nat)],.val none [I (f:Nat)]] (.tup [some 3,none]) (aR.enc .own ⟨gp f,eS p⟩++[B true]):=by
 refine fO 30 [] Tryz.func557 rfl ?_ (.inr (aI (aR.enc_fr _) ⟨trivial,trivial⟩))
 repeat'(first|refine gO ?_|(conv=>whnf);first|refine C7 (xl f b) ?_|refine C7 (zk p a) ?_)
 rfl
theorem wK(p f:Nat)(a:List Int)(b:1<=p/\p<=32)(c:1<=f/\f<=32)(d:a.length<=40/\∀x∈a,0<=x):ar Tryz.prog 523 false [.val none [I (p:Nat)],.val none [I (f:Nat)],.val none (aD .X a)] (.tup [some 5,none]) (af.enc .own (bK p f a)++[B true]):=by
 have e:=qr b c d;have h:=d.1;have g:=mn (bK p f a) (bp e);rw[e]at g;refine fO 31 [(2,260,[17,18,19,10,0,1,2,5,3,1000,1005,4,1005,6])] Tryz.func523 rfl ?_ (.inr (aI (Ca _) ⟨trivial,trivial⟩))
 repeat'(first|refine gO ?_|(conv=>whnf);first|refine CB ?_|refine C7 (vS p f b c) ?_|refine CG (g) ⟨⟨rfl,CS (bK p f a)⟩,trivial⟩ ?_|refine CO (λ_=>rfl) (λ_=>rfl) ω (by decide) ?_)
 rfl
def Rt(p f t:Nat)(lim:Int)(a:List Int)(k:Nat):ab:={caps (newHeap p f t lim a) k with a9:=⟨0,[]⟩}
theorem De(p f t:Nat)(lim:Int)(a:List Int)(c:1<=p/\p<=32)(d:1<=f/\f<=32)(e:1<=t/\t<=4)(g:0<=lim/\lim<=1000)(h:a.length<=40/\∀x∈a,0<=x):ar Tryz.prog 449 false [.val none [I (p:Nat)],.val none [I (f:Nat)],.val none [I (t:Nat)],.val none [I lim],.val none (aD .X a)] (.tup [some 24,none]) (ab.enc .own (newHeap p f t lim a)++[B true]):=by
 have b:=aG lim 0 1000;rw[O0 g]at b;refine fO 66 [(9,4,[54,55,56,57])] Tryz.func449 rfl ?_ (.inr (aI (ab.enc_fr _) ⟨trivial,trivial⟩))
 repeat'(first|refine gO ?_|(conv=>whnf);first|refine C7 (wK p f a c d h) ?_|refine C7 (D9 t e) ?_|refine C7 (b) ?_)
 (conv=>whnf)
 refine CE (ι:=Nat) (λk=>[(2,.H .one [I ((t:Nat))]),(10,.H .box [.z,.z,.z,I 0,.z,.z,.z,.z,.z,.z,.z,.z,I 0,.z,I 0,I 0,I 0,I 0,B false,I 0,I 0,.z,I 0,I 0]),(16,.H .box (ab.enc .own (Rt p f t lim a k))),(17,.H .one [I ((k:Nat):Int)])]) (λk=>k<=t) (λk=>t - k) (0) ?_ (U0 _) λk i=>?_
 ·exact wB
 by_cases j:k<t
 ·repeat'(first|refine gD ?_|(conv=>whnf);first|refine C7 (za) ?_|refine Ap.sn M6 rfl (by rw[Z0];show(List.replicate _ fN).length+1<=_;rw[V3];omega) (by decide) (KQ k) ?_)
  ((conv=>whnf);refine CD (k+1) ω ω ?_;(exact wB))
 obtain rfl:k=t:=ω
 repeat'(first|refine gD ?_|(conv=>whnf);refine C7 (t7) ?_)
 rfl
theorem FX:ar Tryz.prog 450 false [] .agg (ay.enc .own ⟨1,[]⟩):=by
 refine fO 2 [] Tryz.func450 rfl ?_ (.inr (ay.enc_fr _))
 repeat'((conv=>whnf);with_reducible refine iX.wk rfl ?_)
 exact⟨rfl,rfl,trivial⟩
theorem yZ(c:cF)(h:EK c):ar Tryz.prog 342 false [.val (some 5) (cF.enc .X c)] (.tup [some 26,none]) (bk.enc .own (world0 c)++[B true]):=by
 have a:=De c.a3 c.W c.c7 c.c3 c.a0 h.p h.f h.t h.l h.r;refine fO 26 [(4,2,[23,24])] Tryz.func342 rfl ?_ (.inr (aI (bk.enc_fr _) ⟨trivial,trivial⟩))
 repeat'(first|refine gO ?_|(conv=>whnf);first|refine C7 (a) ?_|refine C7 (FX) ?_)
 rfl
def pz(o:dQ)(l:List eI):List C:=[.s o (l.map (eI.enc o))]
theorem eI.enc_fr(x:eI):hC (eI.enc .own x):=⟨trivial,trivial,trivial,trivial,trivial,trivial⟩
theorem JQ(l:List eI):hC (pz .own l):=⟨⟨.inl λh=>(by cases h),bg _ _ λy _=>eI.enc_fr y⟩,trivial⟩
theorem JL(l:List eI):eB (pz .own l)=pz .X l:=by simp[eB,pz,eI.enc,<-co,U5]
theorem Ec(zs:List Int)(c:iL)(ids:Int)(b:jB zs)(p:c.i<=zs.length)(r:1<=ids/\ids<=1000):aW Tryz.prog 346 false [.ptr (iB zs c),.val none [I ids]] [.ptr (iB zs (rN zs c ids).2),.val none [I ids]] .agg (eI.enc .own (rN zs c ids).1):=by
 have w:=bT p 3;have y:=bT w ids;have d:(lv zs c ids).2.i<=zs.length:=bT y 20;have B:=bR zs c 3 b p (by decide);have C:=bR zs (AU zs c).2 ids b w r.1;have j:=bR zs (Gg zs c ids).2 20 b y (by decide);have H:=bF zs c (n:=3) (by decide);have J:=bF zs (AU zs c).2 (n:=ids) r.1;have D:=bF zs (Gg zs c ids).2 (n:=20) (by decide);have e:=jo zs (lv zs c ids).2 szs b d (by decide);have E:=jo zs (lv zs c ids).2 [5,6] b d (by decide);have F:=jo zs (lv zs c ids).2 [1,30,60,120] b d (by decide);have l:=jo zs (lv zs c ids).2 [1,2,3,10,30] b d (by decide);have g:=bR zs (lv zs c ids).2 4 b d (by decide);have h:=bR zs (bt zs (lv zs c ids).2 4).2 999 b (bT d _) (by decide);have G:=bR zs (lv zs c ids).2 10 b d (by decide);have K:=bF zs (bt zs (lv zs c ids).2 4).2 (n:=999) (by decide);have L:=bF zs (lv zs c ids).2 (n:=10) (by decide);change aW _ _ _ _ [.ptr (iB zs (AU zs c).2),_] _ [I (AU zs c).1]at B;change aW _ _ _ _ [.ptr (iB zs (Gg zs c ids).2),_] _ [I (Gg zs c ids).1]at C;change aW _ _ _ _ [.ptr (iB zs (lv zs c ids).2),_] _ [I (lv zs c ids).1]at j;change 0<=(AU zs c).1/\(AU zs c).1<3 at H;change 0<=(Gg zs c ids).1/\(Gg zs c ids).1<ids at J;change 0<=(lv zs c ids).1/\(lv zs c ids).1<20 at D;have o:=eI.enc_fr (rN zs c ids).1;unfold rN at o |-;generalize lv zs c ids=k at *;generalize Gg zs c ids=n at *;generalize AU zs c=t at *;obtain⟨a,M⟩:=k;dsimp only at d e E F l g h G K L D j o |-;refine fM 77 [(58,[2,0]),(459,[2,1])] [] [(0,0),(0,0)] Tryz.func346 rfl (λu q=>?_) (.inr o)
 repeat'(first|refine gO ?_|(conv=>whnf);first|refine CJ (B) (.inl rfl) ?_|refine CJ (C) (.inl rfl) ?_|refine CJ (j) (.inl rfl) ?_)
 obtain rfl|rfl|rfl|rfl|rfl|rfl|rfl|rfl|rfl|rfl|rfl|rfl|rfl|rfl|rfl|rfl|rfl|rfl|rfl|rfl:=(show a=0\/a=1\/a=2\/a=3\/a=4\/a=5\/a=6\/a=7\/a=8\/a=9\/a=10\/a=11\/a=12\/a=13\/a=14\/a=15\/a=16\/a=17\/a=18\/a=19 by omega)
 ·rw[C9 (show((0:Int))<=6 by decide)]
  repeat'(first|refine gO ?_|(conv=>whnf);refine CJ (e) (.inl rfl) ?_)
  refine CF rfl rfl ?_;exact wC
 ·rw[C9 (show((1:Int))<=6 by decide)]
  repeat'(first|refine gO ?_|(conv=>whnf);refine CJ (e) (.inl rfl) ?_)
  refine CF rfl rfl ?_;exact wC
 ·rw[C9 (show((2:Int))<=6 by decide)]
  repeat'(first|refine gO ?_|(conv=>whnf);refine CJ (e) (.inl rfl) ?_)
  refine CF rfl rfl ?_;exact wC
 ·rw[C9 (show((3:Int))<=6 by decide)]
  repeat'(first|refine gO ?_|(conv=>whnf);refine CJ (e) (.inl rfl) ?_)
  refine CF rfl rfl ?_;exact wC
 ·rw[C9 (show((4:Int))<=6 by decide)]
  repeat'(first|refine gO ?_|(conv=>whnf);refine CJ (e) (.inl rfl) ?_)
  refine CF rfl rfl ?_;exact wC
 ·rw[C9 (show((5:Int))<=6 by decide)]
  repeat'(first|refine gO ?_|(conv=>whnf);refine CJ (e) (.inl rfl) ?_)
  refine CF rfl rfl ?_;exact wC
 ·rw[C9 (show((6:Int))<=6 by decide)]
  repeat'(first|refine gO ?_|(conv=>whnf);refine CJ (e) (.inl rfl) ?_)
  refine CF rfl rfl ?_;exact wC
 ·rw[C8 (show ¬((7:Int)<=6) by decide),C9 (show((7:Int))<=9 by decide)]
  repeat'(first|refine gO ?_|fail)
  refine CF rfl rfl ?_;exact wC
 ·rw[C8 (show ¬((8:Int)<=6) by decide),C9 (show((8:Int))<=9 by decide)]
  repeat'(first|refine gO ?_|fail)
  refine CF rfl rfl ?_;exact wC
 ·rw[C8 (show ¬((9:Int)<=6) by decide),C9 (show((9:Int))<=9 by decide)]
  repeat'(first|refine gO ?_|fail)
  refine CF rfl rfl ?_;exact wC
 ·rw[C8 (show ¬((10:Int)<=6) by decide),C8 (show ¬((10:Int)<=9) by decide),C9 (show((10:Int))<=12 by decide)]
  repeat'(first|refine gO ?_|(conv=>whnf);first|refine CJ (g) (.inl rfl) ?_|refine CJ (h) (.inl rfl) ?_)
  refine CF rfl rfl ?_;exact wC
 ·rw[C8 (show ¬((11:Int)<=6) by decide),C8 (show ¬((11:Int)<=9) by decide),C9 (show((11:Int))<=12 by decide)]
  repeat'(first|refine gO ?_|(conv=>whnf);first|refine CJ (g) (.inl rfl) ?_|refine CJ (h) (.inl rfl) ?_)
  refine CF rfl rfl ?_;exact wC
 ·rw[C8 (show ¬((12:Int)<=6) by decide),C8 (show ¬((12:Int)<=9) by decide),C9 (show((12:Int))<=12 by decide)]
  repeat'(first|refine gO ?_|(conv=>whnf);first|refine CJ (g) (.inl rfl) ?_|refine CJ (h) (.inl rfl) ?_)
  refine CF rfl rfl ?_;exact wC
 ·rw[C8 (show ¬((13:Int)<=6) by decide),C8 (show ¬((13:Int)<=9) by decide),C8 (show ¬((13:Int)<=12) by decide),C9 (show((13:Int))=13 by decide)]
  repeat'(first|refine gO ?_|(conv=>whnf);refine CJ (G) (.inl rfl) ?_)
  refine CF rfl rfl ?_;exact wC
 ·rw[C8 (show ¬((14:Int)<=6) by decide),C8 (show ¬((14:Int)<=9) by decide),C8 (show ¬((14:Int)<=12) by decide),C8 (show ¬((14:Int)=13) by decide),C9 (show((14:Int))=14 by decide)]
  repeat'(first|refine gO ?_|(conv=>whnf);refine CJ (E) (.inl rfl) ?_)
  refine CF rfl rfl ?_;exact wC
 ·rw[C8 (show ¬((15:Int)<=6) by decide),C8 (show ¬((15:Int)<=9) by decide),C8 (show ¬((15:Int)<=12) by decide),C8 (show ¬((15:Int)=13) by decide),C8 (show ¬((15:Int)=14) by decide),C9 (show((15:Int))=15 by decide)]
  repeat'(first|refine gO ?_|fail)
  refine CF rfl rfl ?_;exact wC
 ·rw[C8 (show ¬((16:Int)<=6) by decide),C8 (show ¬((16:Int)<=9) by decide),C8 (show ¬((16:Int)<=12) by decide),C8 (show ¬((16:Int)=13) by decide),C8 (show ¬((16:Int)=14) by decide),C8 (show ¬((16:Int)=15) by decide),C9 (show((16:Int))=16 by decide)]
  repeat'(first|refine gO ?_|(conv=>whnf);refine CJ (F) (.inl rfl) ?_)
  refine CF rfl rfl ?_;exact wC
 ·rw[C8 (show ¬((17:Int)<=6) by decide),C8 (show ¬((17:Int)<=9) by decide),C8 (show ¬((17:Int)<=12) by decide),C8 (show ¬((17:Int)=13) by decide),C8 (show ¬((17:Int)=14) by decide),C8 (show ¬((17:Int)=15) by decide),C8 (show ¬((17:Int)=16) by decide),C9 (show((17:Int))=17 by decide)]
  repeat'(first|refine gO ?_|fail)
  refine CF rfl rfl ?_;exact wC
 ·rw[C8 (show ¬((18:Int)<=6) by decide),C8 (show ¬((18:Int)<=9) by decide),C8 (show ¬((18:Int)<=12) by decide),C8 (show ¬((18:Int)=13) by decide),C8 (show ¬((18:Int)=14) by decide),C8 (show ¬((18:Int)=15) by decide),C8 (show ¬((18:Int)=16) by decide),C8 (show ¬((18:Int)=17) by decide)]
  repeat'(first|refine gO ?_|(conv=>whnf);refine CJ (l) (.inl rfl) ?_)
  refine CF rfl rfl ?_;exact wC
 rw[C8 (show ¬((19:Int)<=6) by decide),C8 (show ¬((19:Int)<=9) by decide),C8 (show ¬((19:Int)<=12) by decide),C8 (show ¬((19:Int)=13) by decide),C8 (show ¬((19:Int)=14) by decide),C8 (show ¬((19:Int)=15) by decide),C8 (show ¬((19:Int)=16) by decide),C8 (show ¬((19:Int)=17) by decide)]
 repeat'(first|refine gO ?_|(conv=>whnf);refine CJ (l) (.inl rfl) ?_)
 refine CF rfl rfl ?_;exact wC
theorem DJ(zs:List Int)(c:iL)(b:jB zs)(d:c.i<=zs.length):aW Tryz.prog 194 false [.ptr (iB zs c),.val none [I 40]] [.ptr (iB zs (ll zs c).2),.val none [I 40]] .one (pz .own (ll zs c).1):=by
 have e:=bR zs c 41 b d (by decide);have g:=bF zs c (n:=41) (by decide);obtain⟨n,h⟩:=X2 g.1;have a:(bt zs c 41).1.toNat=n:=by rw[h];rfl
 unfold ll;rw[a];rw[h]at e g;refine fM 27 [(58,[2,0]),(346,[2,0])] [] [(0,0),(0,0)] Tryz.func194 rfl (λu q=>?_) (.inr (JQ _))
 repeat'(first|refine gO ?_|(conv=>whnf);refine CJ (e) (.inl rfl) ?_)
 (conv=>whnf)
 refine CE (ι:=Nat) (λi=>[(0,.H .box (iB zs (lA zs c i).2)),(5,.H .one (pz .own (lA zs c i).1)),(6,.H .one [I ((n:Nat):Int)]),(7,.H .one [I ((i:Nat):Int)])]) (λi=>i<=n) (λi=>n - i) (0) ?_ (U0 _) λi p=>?_
 ·exact wC
 obtain⟨t,-,j⟩:=oP (zs:=zs) (c:=c) d (n:=i) ω;by_cases w:i<n
 ·have k:=Ec zs (lA zs c i).2 (1+(i:Int) / 2) b j ω
  have l:((i:Nat):Int).tdiv 2=(i:Int) / 2:=Int.tdiv_eq_ediv_of_nonneg ω
  repeat'(first|refine gD ?_|(conv=>whnf);first|with_reducible refine CN ω ?_|refine CJ (k) (.inl rfl) ?_|refine CT (aO λ_=>rfl) (λr o=>by rw[I1.1 o];rfl) (by simp[aY,eg,eI.enc]) (by simp;omega) (by simp only[Z0];exact yI (by simp;omega) (by decide)) rfl ?_)
  ((conv=>whnf);refine CD (i+1) ω ω ?_)
  repeat'(first|exact trivial|rfl |exact CK rfl (CK (W0 (C.s dQ.own) (by simp[lA];rfl)) trivial)|refine CK ?_ ?_)
 obtain rfl:i=n:=ω
 repeat'(first|refine gD ?_|fail)
 refine CF rfl rfl ?_;exact wC
def rfs(h:ab):List Int:=h.G.a0
theorem BS(k:af)(p:Int):(newK k p).1.a0=k.a0:=by unfold newK;split<;>rfl
theorem sN(k:af)(p:Int):∀n,(newsK k p n).1.a0=k.a0
 | 0=>rfl
 | n+1=>by
  unfold newsK;split
  ·exact(BS _ _).trans (sN k p n)
  exact sN k p n
theorem Lj(h:ab)(i:Nat):rfs (nU h i).1=rfs h:=by unfold nU;split<;>rfl
theorem An(h:ab)(t c:Nat):rfs (smallA h t c).1=rfs h:=by
 unfold smallA;split
 ·rfl
 split
 ·rfl
 split
 ·rfl
 split
 ·exact BS _ _
 exact(Lj _ _).trans (BS _ _)
theorem K5(h:ab)(t n:Int):rfs (allocH h t n).1=rfs h:=by
 unfold allocH;split
 ·rfl
 split
 ·rfl
 split
 ·rfl
 split
 ·rfl
 split
 ·split
  ·exact An _ _ _
  exact An _ _ _
 unfold largeA;split
 ·rfl
 split
 ·exact sN _ _ _
 exact((kQ _ _ _).2).trans (sN _ _ _)
theorem Mm(h:ab)(t i:Nat):rfs (freeT h t i).1=rfs h:=by
 unfold freeT;split
 ·exact(kQ _ _ _).2
 split
 ·rfl
 split
 ·exact(fo t _ _).2.2.2.2.2.2.2
 split<;>rfl
theorem AI(t:Nat)(h:ab):∀k,rfs (flushN t h k).1=rfs h
 | 0=>rfl
 | k+1=>((fV _ (spilt (flushN t h k).1 t k)).2.2.2.2.2.2.2).trans (AI t h k)
theorem Hq{h:ab}(a:aX h [])(b:JI h):∀n,rfs (stN h n).1=rfs h
 | 0=>rfl
 | n+1=>by
  obtain⟨c,d⟩:=u5 a b n;unfold stN;split
  ·rename_i e
   unfold rT at e;rw[I0]at e;exact((ru c e.1).2.2.1).trans (Hq a b n)
  exact Hq a b n
theorem LV{w:bk}{m:Nat}(h:rG w m)(a:eI):rfs (lU w a).1.Z=rfs w.Z:=by
 unfold lU;split
 ·exact K5 _ _ _
 split
 ·split
  ·rfl
  unfold m6;split
  ·unfold pM
   split
   ·rfl
   split
   ·exact Mm _ _ _
   rfl
  split
  ·unfold mC
   split
   ·rfl
   split
   ·rfl
   split<;>rfl
  unfold pW;split
  ·exact((kQ _ _ _).2).trans (nk _ _ _).2.2
  rfl
 split
 ·unfold fI
  split
  ·split<;>rfl
  split
  ·rfl
  split
  ·exact(fo _ _ _).2.2.2.2.2.2.2
  exact AI _ _ _
 split
 ·unfold nw
  split
  ·exact(fV _ _).2.2.2.2.2.2.2
  rfl
 split
 ·unfold np
  split
  ·rfl
  show rfs (started w.Z).1=_;unfold rfs;rw[(pB h.inv).2.1]
 split
 ·exact Hq h.inv h.ji _
 rfl
theorem GL{c:cF}(h:EK c)(acts:List eI):∀n,rfs (yH c acts n).1.Z=c.a0
 | 0=>rfl
 | n+1=>(LV (uv h acts n) _).trans (GL h acts n)
def qP(w:bk):List C:=bB w.Z++ay.enc .X w.b5
theorem Qd(w:bk):eB (qP w)=bk.enc .X w:=by
 unfold qP;rw[f9,bG,<-Cb,pK,Cb]
 rfl
theorem Ge(w:bk)(id:Int)(g:w.Z.O.length<=1048576):aW Tryz.prog 452 false [.ptr (qP w),.val none [I id]] [.ptr (qP w),.val none [I id]] .one [I (qB w.Z id)]:=by
 refine fM 28 [] [] [(0,0),(0,0)] Tryz.func452 rfl (λu q=>?_)
 repeat'(first|(conv=>whnf);refine CB ?_)
 (conv=>whnf)
 refine CE (ι:=Nat) (λi=>[(0,.H .box (qP w)),(1,.H .one [I (id)]),(5,.H .one [I ((i:Nat):Int)])]) (λi=>i<=w.Z.O.length/\∀(j:Nat)(z:bu),j<i->w.Z.O[j]? = some z->ME id z=false) (λi=>w.Z.O.length - i) (0) ?_ (⟨U0 _,λj z h=>ω⟩) λi c=>?_
 ·exact wC
 obtain⟨c,b⟩:=c;by_cases d:i<w.Z.O.length
 ·have a:=ao d
  by_cases e:(nth w.Z.O i).Id=id
  ·repeat'(first|refine gA ?_|(conv=>whnf);first|with_reducible refine CC (aa a) ?_|refine CH rfl (aa a) rfl ?_)
   refine CF rfl (W0 (λz=>[I z]) (dE a (O0 e) b).symm) ?_;exact wC
  repeat'(first|refine gA ?_|(conv=>whnf);first|with_reducible refine CC (aa a) ?_|refine CH rfl (aa a) rfl ?_)
  ((conv=>whnf);refine CD (i+1) ⟨ω,dv a (T0 e) b⟩ ω ?_;(exact wC))
 repeat'(first|refine gD ?_|(conv=>whnf);refine CB ?_)
 refine CF rfl (W0 (λz=>[I z]) (gk ω b).symm) ?_;exact wC
theorem cZ(y:ab):(bB y).length=24:=rfl
theorem zq(w:bk)(m n:Nat)(h:rG w m)(B:n<=50):aW Tryz.prog 457 false [.ptr (qP w),.val none [I (n:Nat)]] [.ptr (qP ⟨(stN w.Z n).1,w.b5⟩),.val none [I (n:Nat)]] .one [I ((stN w.Z n).2:Nat)]:=by
 refine fM 35 [(536,[2])] [] [(0,0),(0,0)] Tryz.func457 rfl (λu q=>?_)
 repeat'(first|(conv=>whnf);refine CB ?_)
 (conv=>whnf)
 refine CE (ι:=Nat) (λi=>[(0,.H .box (qP ⟨(stN w.Z i).1,w.b5⟩)),(1,.H .one [I ((n:Nat):Int)]),(5,.H .one [I (((stN w.Z i).2:Nat):Int)]),(6,.H .one [I ((i:Nat):Int)])]) (λi=>i<=n/\(stN w.Z i).2=i) (λi=>n - i) (0) ?_ (⟨U0 _,rfl⟩) λi l=>?_
 ·exact wC
 obtain⟨l,C⟩:=l;obtain⟨o,D⟩:=u5 h.inv h.ji i;have b:stN w.Z (i+1)=if rT (stN w.Z i).1=true then(mStep (stN w.Z i).1,(stN w.Z i).2+1) else stN w.Z i:=rfl
 have p:=(aB.1 o.ker).2.2.2.2;by_cases E:i<n
 ·cases c:(stN w.Z i).1.o with
  | true=>
   have y:=(Dd _ o c).frame (r:=ay.enc .X w.b5) ((cZ _).trans (cZ _).symm);by_cases g:(stN w.Z i).1.G.Calls<=99000
   ·have d:rT (stN w.Z i).1=true:=by unfold rT;rw[c,O0 g];rfl
    rw[C9 d]at b;generalize stN w.Z i=s at *
    repeat'(first|refine gD ?_|(conv=>whnf);first|refine Bf.t c ?_|refine CJ (y) (.inl rfl) ?_)
    ((conv=>whnf);refine CD (i+1) ⟨ω,by rw[b];simp only;omega⟩ ω ?_)
    rw[b];exact wC
   have d:rT (stN w.Z i).1=false:=by unfold rT;rw[c,T0 g];rfl
   have a:∀k,stN w.Z (i+k)=stN w.Z i:=λk=>by
    induction k with
    | zero=>rfl
    | succ k j=>show(if rT (stN w.Z (i+k)).1=true then _ else stN w.Z (i+k))=_;rw[j,d,C8 (by simp)]
   have e:=a (n - i);rw[show i+(n - i)=n by omega]at e;rw[e];generalize stN w.Z i=s at *
   repeat'(first|refine gD ?_|(conv=>whnf);refine Bf.t c ?_)
   refine CF rfl rfl ?_;exact wC
  | false=>
   have d:rT (stN w.Z i).1=false:=by unfold rT;rw[c];rfl
   have a:∀k,stN w.Z (i+k)=stN w.Z i:=λk=>by
    induction k with
    | zero=>rfl
    | succ k j=>show(if rT (stN w.Z (i+k)).1=true then _ else stN w.Z (i+k))=_;rw[j,d,C8 (by simp)]
   have e:=a (n - i);rw[show i+(n - i)=n by omega]at e;rw[e];generalize stN w.Z i=s at *
   repeat'(first|refine gD ?_|(conv=>whnf);refine Bf.f c ?_)
   refine CF rfl rfl ?_;exact wC
 obtain rfl:i=n:=ω
 repeat'(first|refine gD ?_|(conv=>whnf);refine CB ?_)
 refine CF rfl rfl ?_;exact wC
theorem Hh{k:af}(a:a7 k=true):(a7 k&&decide (k.Calls<100000))=decide (k.Calls≠100000):=by
 have:=(aB.1 a).2.2.2.2;rw[a,Bool.true_and,V4,C0,C0];omega
theorem yb(w:bk)(a:eI)(m:Nat)(h:rG w m)(B:a.b6=5\/a.b6=6\/a.b6=7):aW Tryz.prog 454 false [.ptr (qP w),.val (some 5) (eI.enc .X a)] [.ptr (qP ⟨(fI w.Z a).1,w.b5⟩),.val (some 5) (eI.enc .X a)] .one [I (fI w.Z a).2]:=by
 have d:=h.inv;have o:=d.nc;have p:w.Z.T.length<=4:=by have:=(dP.1 d.mail).1.2.1;omega
 have C:=jQ.of d.mail;have i:=lY w.Z.G (bp d.ker);rw[Hh d.ker]at i;have j:=aG a.a4 0 (w.Z.T.length - 1:Int);unfold fI;refine fM 59 [(534,[2,0]),(433,[2,0])] [(3,267,[15,16,17,18,19,20,21,14,22,23,6,0,1,2,3,4,5,6,7,8,9,10,11,1009,12]),(8,15,[30,31,32,33,34,35,36,37,38,39,40,41,42,43,44])] [(0,0),(0,0)] Tryz.func454 rfl (λu q=>?_);by_cases l:a.b6=5
 ·rw[C9 l]
  by_cases e:0<=a.a4/\a.a4<=w.Z.T.length - 1
  ·have y:nl w.Z a:=e
   obtain⟨t,g⟩:=X2 e.1;have b:=Fd w.Z.y t d.mail ω;rw[<-g]at b;rw[g]at e |-;simp only[W2];rw[g]at b;by_cases c:0<(nth w.Z.y.U t).length
   ·rw[C9 (show nl w.Z a/\0<(nth w.Z.y.U t).length from⟨y,c⟩)]
    rw[C9 c,O0 c]at b;rw[<-g]at b
    repeat'(first|refine gA ?_|(conv=>whnf);first|refine CB ?_|refine CG (b) ⟨⟨rfl,aK.enc_fz w.Z.y⟩,⟨rfl,rfl⟩,trivial⟩ ?_)
    refine CF rfl rfl ?_;exact wC
   rw[C8 (show ¬(nl w.Z a/\0<(nth w.Z.y.U t).length) from λx=>c x.2)];rw[C8 c,T0 c]at b;rw[<-g]at b
   repeat'(first|refine gA ?_|(conv=>whnf);first|refine CB ?_|refine CG (b) ⟨⟨rfl,aK.enc_fz w.Z.y⟩,⟨rfl,rfl⟩,trivial⟩ ?_)
   refine CF rfl rfl ?_;exact wC
  rw[C8 (show ¬(nl w.Z a/\0<(nth w.Z.y.U a.a4.toNat).length) from λx=>e x.1)];have b:=GH w.Z.y a.a4 d.mail ω
  repeat'(first|refine gA ?_|(conv=>whnf);first|refine CB ?_|refine CG (b) ⟨⟨rfl,aK.enc_fz w.Z.y⟩,⟨rfl,rfl⟩,trivial⟩ ?_)
  refine CF rfl rfl ?_;exact wC
 rw[C8 l];by_cases e:w.Z.G.Calls≠100000;rotate_left
 ·rw[C9 (show ¬(w.Z.G.Calls≠100000/\nl w.Z a) from λx=>e x.1)]
  rw[T0 e]at i
  repeat'(first|refine gA ?_|(conv=>whnf);refine CG (i) ⟨⟨rfl,CS _⟩,trivial⟩ ?_)
  refine CF rfl rfl ?_;exact wC
 rw[O0 e]at i;by_cases c:0<=a.a4/\a.a4<=w.Z.T.length - 1;rotate_left
 ·rw[C9 (show ¬(w.Z.G.Calls≠100000/\nl w.Z a) from λx=>c x.2)]
  rw[T0 c]at j
  repeat'(first|refine gA ?_|(conv=>whnf);first|refine CG (i) ⟨⟨rfl,CS _⟩,trivial⟩ ?_|refine C7 (j) ?_)
  refine CF rfl rfl ?_;exact wC
 rw[C8 (show ¬¬(w.Z.G.Calls≠100000/\nl w.Z a) from t4 ⟨e,c⟩)];rw[O0 c]at j;obtain⟨t,g⟩:=X2 c.1;by_cases n:a.b6=6
 ·rw[C9 n]
  have b:=(vT w.Z t d ω).frame (r:=ay.enc .X w.b5) ((cZ _).trans (cZ _).symm);rw[show a.a4.toNat=t by omega];rw[<-g]at b
  repeat'(first|refine gA ?_|(conv=>whnf);first|refine CG (i) ⟨⟨rfl,CS _⟩,trivial⟩ ?_|refine C7 (j) ?_|refine CJ (b) (.inl rfl) ?_)
  refine CF rfl rfl ?_;exact wC
 rw[C8 n];have b:=(yO w.Z t d ω).frame (r:=ay.enc .X w.b5) ((cZ _).trans (cZ _).symm);rw[show a.a4.toNat=t by omega];rw[<-g]at b
 repeat'(first|refine gA ?_|(conv=>whnf);first|refine CG (i) ⟨⟨rfl,CS _⟩,trivial⟩ ?_|refine C7 (j) ?_|refine CJ (b) (.inl rfl) ?_)
 refine CF rfl rfl ?_;exact wC
theorem xU(w:bk)(a:eI)(i m:Nat)(h:rG w m)(X:m<=900)(G:LM a)(t:i<w.Z.O.length):aW Tryz.prog 453 false [.ptr (qP w),.val (some 5) (eI.enc .X a),.val none [I (i:Nat)]] [.ptr (qP (m6 w a i).1),.val (some 5) (eI.enc .X a),.val none [I (i:Nat)]] .one [I (m6 w a i).2]:=by
 have e:=h.inv;have b:=ao t;have M:=um e (am t);have N:=cL e (am t) (k:=0);have O:1<=(nth w.Z.O i).q/\(nth w.Z.O i).q<=1000:=by
  rcases e.oow _ (am t) with⟨s,P,Y,Z⟩|⟨l,H,d,c⟩
  ·have hc:=aF (e.L.sok s P)
   have:=iA (n:=(nth w.Z.O i).q) ω;omega
  have h8:=cQ (e.L.lok l H);omega
 have g:=lY w.Z.G (bp e.ker);rw[Hh e.ker]at g;have Q:=G.k;have R:=G.p;have S:=G.v;unfold m6;refine fM 126 [(527,[2,0,0]),(529,[2,0,0]),(531,[2,0,0])] [(6,7,[29,30,31,32,33,34,35]),(8,269,[40,41,42,43,44,45,46,47,39,48,49,50,51,0,1,2,3,4,5,6,7,8,9,10,11,12,13,1010]),(13,10,[62,63,64,65,66,67,68,69,70,71]),(15,273,[76,77,78,79,80,81,82,83,84,85,86,87,75,88,89,90,91,0,1,2,3,4,5,6,7,8,9,10,11,12,13,14,15,16,17,1014]),(17,15,[93,94,95,96,97,98,99,100,101,102,103,104,105,106,107]),(19,271,[112,113,114,115,116,117,118,119,120,121,111,122,123,124,125,0,1,2,3,4,5,6,7,8,9,10,11,12,13,14,15,1012])] [(0,0),(0,0),(0,0)] Tryz.func453 rfl (λu q=>?_);by_cases J:a.b6=2
 ·rw[C9 J]
  unfold pM;by_cases d:w.Z.G.Calls=100000
  ·rw[C9 d]
   rw[T0 (t4 d)]at g
   repeat'(first|refine gA ?_|(conv=>whnf);first|with_reducible refine CC (aa b) ?_|refine CG (g) ⟨⟨rfl,CS _⟩,trivial⟩ ?_|refine CH rfl (aa b) rfl ?_)
   refine CF rfl rfl ?_;exact wC
  rw[C8 d];rw[O0 d]at g;have C:=(NP w.Z i a.a4 e t).frame (r:=ay.enc .X w.b5) ((cZ _).trans (cZ _).symm);by_cases c:0<=a.a4/\a.a4<=w.Z.T.length - 1
  ·rw[C9 (show nl w.Z a from c)]
   rw[C9 c,C9 c]at C;have T:=B8 w.b5 (nth w.Z.O i).Id m h.ref ω;generalize freeT w.Z a.a4.toNat i=f at C |-;by_cases o:f.2=0
   ·rw[C9 o]
    repeat'(first|refine gA ?_|(conv=>whnf);first|with_reducible refine CC (aa b) ?_|refine CB ?_|refine CG (g) ⟨⟨rfl,CS _⟩,trivial⟩ ?_|refine CH rfl (aa b) rfl ?_|refine CJ (C) (.inl rfl) ?_|refine Cl.sh T rfl ?_)
    refine CF rfl rfl ?_;exact wC
   rw[C8 o]
   repeat'(first|refine gA ?_|(conv=>whnf);first|with_reducible refine CC (aa b) ?_|refine CG (g) ⟨⟨rfl,CS _⟩,trivial⟩ ?_|refine CH rfl (aa b) rfl ?_|refine CJ (C) (.inl rfl) ?_)
   refine CF rfl rfl ?_;exact wC
  rw[C8 (show ¬nl w.Z a from c)];rw[C8 c,C8 c]at C
  repeat'(first|refine gA ?_|(conv=>whnf);first|with_reducible refine CC (aa b) ?_|refine CG (g) ⟨⟨rfl,CS _⟩,trivial⟩ ?_|refine CH rfl (aa b) rfl ?_|refine CJ (C) (.inl rfl) ?_)
  refine CF rfl rfl ?_;exact wC
 rw[C8 J];by_cases K:a.b6=3
 ·rw[C9 K]
  unfold mC;have D:=aG a.At 0 ((nth w.Z.O i).q - 1);by_cases d:0<=a.At/\a.At<=(nth w.Z.O i).q - 1;rotate_left
  ·rw[C9 d]
   rw[T0 d]at D
   repeat'(first|refine gA ?_|(conv=>whnf);first|with_reducible refine CC (aa b) ?_|refine CH rfl (aa b) rfl ?_|refine C7 (D) ?_)
   refine CF rfl rfl ?_;exact wC
  rw[C8 (t4 d)];rw[O0 d]at D;have F:=(zi w.Z i a.At a.Value e t d).frame (r:=ay.enc .X w.b5) (by split<;>rfl);have U:=cL e (am t) d;by_cases c:(ac w.Z.G.F.Q (((nth w.Z.O i).Addr+a.At) / 16)).j=1
  ·rw[C9 c]
   rw[C9 (.inl c),C9 c]at F
   repeat'(first|refine gA ?_|(conv=>whnf);first|with_reducible refine CC (aa b) ?_|refine CH rfl (aa b) rfl ?_|refine C7 (D) ?_|refine CJ (F) (.inl rfl) ?_)
   refine CF rfl rfl ?_;exact wC
  rw[C8 c];by_cases o:0<=a.Value/\a.Value<=999;rotate_left
  ·rw[C9 o]
   rw[C9 (.inr o),C8 c,C9 o]at F
   repeat'(first|refine gA ?_|(conv=>whnf);first|with_reducible refine CC (aa b) ?_|refine CH rfl (aa b) rfl ?_|refine C7 (D) ?_|refine CJ (F) (.inl rfl) ?_)
   refine CF rfl rfl ?_;exact wC
  rw[C8 (t4 o)];rw[C8 (λx=>x.elim c λy=>y o),C8 c,C8 (t4 o)]at F;obtain⟨b5,V⟩:=Bz w.b5 (nth w.Z.O i).Id a.At a.Value m h.ref ω o
  repeat'(first|refine gA ?_|(conv=>whnf);first|with_reducible refine CC (aa b) ?_|refine CB ?_|refine CH rfl (aa b) rfl ?_|refine C7 (D) ?_|refine CJ (F) (.inl rfl) ?_|refine C7 (V) ?_)
  refine CF rfl rfl ?_;exact wC
 rw[C8 K];unfold pW;by_cases d:w.Z.G.Calls=100000
 ·rw[C8 (λx=>x.1 d)]
  rw[T0 (t4 d)]at g
  repeat'(first|refine gA ?_|(conv=>whnf);first|with_reducible refine CC (aa b) ?_|refine CG (g) ⟨⟨rfl,CS _⟩,trivial⟩ ?_|refine CH rfl (aa b) rfl ?_)
  refine CF rfl rfl ?_;exact wC
 rw[O0 d]at g;by_cases c:lP w.Z i a.Value
 ·rw[C9 ⟨d,c⟩]
  have B:=(tw w.Z i a.Value e t c.1).frame (r:=ay.enc .X w.b5) (by split<;>rfl);rw[C9 c,O0 c]at B;obtain⟨b7,W⟩:=Fe w.b5 (nth w.Z.O i).Id a.Value m h.ref ω
  repeat'(first|refine gA ?_|(conv=>whnf);first|with_reducible refine CC (aa b) ?_|refine CB ?_|refine CG (g) ⟨⟨rfl,CS _⟩,trivial⟩ ?_|refine CH rfl (aa b) rfl ?_|refine CJ (B) (.inl rfl) ?_|refine C7 (W) ?_)
  refine CF rfl rfl ?_;exact wC
 rw[C8 (λx=>c x.2)];by_cases o:yU w.Z (nth w.Z.O i).Addr<0
 ·have B:=(Gp w.Z (nth w.Z.O i).Addr a.Value (by have:=e.lens.larges;omega) e.L.lok o).frame (r:=ay.enc .X w.b5) ((cZ _).trans (cZ _).symm)
  repeat'(first|refine gA ?_|(conv=>whnf);first|with_reducible refine CC (aa b) ?_|refine CG (g) ⟨⟨rfl,CS _⟩,trivial⟩ ?_|refine CH rfl (aa b) rfl ?_|refine CJ (B) (.inl rfl) ?_)
  refine CF rfl rfl ?_;exact wC
 have B:=(tw w.Z i a.Value e t ω).frame (r:=ay.enc .X w.b5) (by split<;>rfl);rw[C8 c,T0 c]at B
 repeat'(first|refine gA ?_|(conv=>whnf);first|with_reducible refine CC (aa b) ?_|refine CG (g) ⟨⟨rfl,CS _⟩,trivial⟩ ?_|refine CH rfl (aa b) rfl ?_|refine CJ (B) (.inl rfl) ?_)
 refine CF rfl rfl ?_;exact wC
theorem rG.fit{w:bk}{m:Nat}(h:rG w m)(a:ib w.Z.G.a0):ab.sml w.Z/\ab.wf w.Z:=
 ⟨(h.inv.fit a (jQ.of h.inv.mail).sml).sml,h.inv.wf a⟩
theorem He(w:bk)(a:eI)(m:Nat)(h:rG w m)(K:m<=900)(L:ib w.Z.G.a0)(p:LM a):aW Tryz.prog 343 false [.ptr (qP w),.val (some 5) (eI.enc .X a)] [.ptr (qP (lU w a).1),.val (some 5) (eI.enc .X a)] .one [I (lU w a).2]:=by
 have i:=h.inv;have M:=p.k;have O:=p.n;have j:=i.nums;unfold cj at j;rw[C0]at j;unfold lU;refine fM 123 [(71,[2,0,0]),(452,[2,0]),(453,[2,0,0]),(454,[2,0]),(456,[2,0]),(130,[2]),(457,[2,0])] [(3,265,[13,14,15,16,17,18,19,21,22,0,1,2,3,4,5,6,7,8,9,10,11,1010,12]),(5,269,[26,27,28,29,30,31,32,33,25,34,35,36,37,0,1,2,3,4,5,6,7,8,9,10,11,12,13,1010]),(19,21,[62,63,64,65,66,67,68,69,70,71,72,73,74,75,76,77,78,79,80,81,82]),(21,5,[86,87,88,89,90])] [(0,0),(0,0)] Tryz.func343 rfl (λu q=>?_);by_cases F:a.b6=1
 ·rw[C9 F]
  have c:=(z8 w.Z a.a4 a.N i).frame (r:=ay.enc .X w.b5) ((cZ _).trans (cZ _).symm);by_cases e:(allocH w.Z a.a4 a.N).2.2=0
  ·rw[C9 e]
   have y:1<=a.N/\a.N<=1000:=by
    refine Classical.byContradiction λB=>?_
    unfold allocH at e;rw[C9 B]at e;split at e
    ·exact absurd (show(5:Int)=0 from e) (by decide)
    split at e
    ·exact absurd (show(1:Int)=0 from e) (by decide)
    exact absurd (show(2:Int)=0 from e) (by decide)
   have o:=zD w.b5 a.N m h.ref ω y;generalize allocH w.Z a.a4 a.N=f at c e |-
   repeat'(first|refine gA ?_|(conv=>whnf);first|refine CB ?_|refine CJ (c) (.inl rfl) ?_|refine C7 (o) ?_)
   refine CF rfl rfl ?_;exact wC
  rw[C8 e];generalize allocH w.Z a.a4 a.N=f at c e |-
  repeat'(first|refine gA ?_|(conv=>whnf);first|refine CB ?_|refine CJ (c) (.inl rfl) ?_)
  refine CF rfl rfl ?_;exact wC
 rw[C8 F];by_cases G:a.b6=2\/a.b6=3\/a.b6=4
 ·rw[C9 G]
  have c:=Ge w a.N (by have:=i.lens.objs;omega);by_cases e:qB w.Z a.N<0
  ·rw[C9 e]
   repeat'(first|refine gA ?_|(conv=>whnf);first|with_reducible refine Bf.E (λb=>?_) (λb=>?_)|refine CJ (c) (.inl rfl) ?_)
   all_goals first|omega|skip
   all_goals
    refine CF rfl rfl ?_;exact wC
  rw[C8 e];obtain⟨P,S,T⟩:=fJ (ME a.N) w.Z.O (by unfold qB at e;omega);have o:=xU w a (qB w.Z a.N).toNat m h K p P;rw[show(((qB w.Z a.N).toNat:Nat):Int)=qB w.Z a.N by omega]at o
  repeat'(first|refine gA ?_|(conv=>whnf);first|with_reducible refine Bf.E (λb=>?_) (λb=>?_)|refine CJ (c) (.inl rfl) ?_|refine CJ (o) (.inl rfl) ?_)
  all_goals first|omega|skip
  all_goals
   refine CF rfl rfl ?_;exact wC
 rw[C8 G];by_cases C:a.b6=5\/a.b6=6\/a.b6=7
 ·rw[C9 C]
  have c:=yb w a m h C
  repeat'(first|refine gA ?_|(conv=>whnf);first|with_reducible refine Bf.E (λb=>?_) (λb=>?_)|refine CJ (c) (.inl rfl) ?_)
  all_goals first|omega|skip
  all_goals
   refine CF rfl rfl ?_;exact wC
 rw[C8 C];by_cases H:a.b6=8
 ·rw[C9 H]
  unfold nw;have d:=lY w.Z.G (bp i.ker);rw[Hh i.ker]at d;have c:=aG a.N 0 1000;by_cases g:w.Z.G.Calls≠100000;rotate_left
  ·rw[C8 (λx=>g x.1)]
   rw[T0 g]at d
   repeat'(first|refine gA ?_|(conv=>whnf);refine CG (d) ⟨⟨rfl,CS _⟩,trivial⟩ ?_)
   refine CF rfl rfl ?_;exact wC
  rw[O0 g]at d;by_cases l:0<=a.N/\a.N<=1000;rotate_left
  ·rw[C8 (λx=>l x.2.1)]
   rw[T0 l]at c
   repeat'(first|refine gA ?_|(conv=>whnf);first|refine CG (d) ⟨⟨rfl,CS _⟩,trivial⟩ ?_|refine C7 (c) ?_)
   refine CF rfl rfl ?_;exact wC
  rw[O0 l]at c;by_cases D:w.Z.b3+a.N<=1000000
  ·rw[C9 ⟨g,l,D⟩]
   have o:=(BU w.Z a.N i l D).frame (r:=ay.enc .X w.b5) ((cZ _).trans (cZ _).symm)
   repeat'(first|refine gA ?_|(conv=>whnf);first|refine CG (d) ⟨⟨rfl,CS _⟩,trivial⟩ ?_|refine C7 (c) ?_|refine CJ (o) (.inl rfl) ?_)
   refine CF rfl rfl ?_;exact wC
  rw[C8 (λx=>D x.2.2)]
  repeat'(first|refine gA ?_|(conv=>whnf);first|refine CG (d) ⟨⟨rfl,CS _⟩,trivial⟩ ?_|refine C7 (c) ?_)
  refine CF rfl rfl ?_;exact wC
 rw[C8 H];by_cases J:a.b6=9
 ·rw[C9 J]
  unfold np;obtain⟨Q,R⟩:=h.fit L;have d:=oI w.Z Q R;rw[show dy w.Z=true from i.to]at d;cases g:w.Z.o with
  | true=>
   rw[C9 rfl]
   repeat'(first|refine gA ?_|(conv=>whnf);refine Bf.t g ?_)
   refine CF rfl rfl ?_;exact wC
  | false=>
   rw[C8 (by simp)];have c:=(qp w.Z i).frame (r:=ay.enc .X w.b5) ((cZ _).trans (cZ _).symm);cases l:(started w.Z).2<;>rw[l]at c
   ·rw[C8 (by simp)]
    repeat'(first|refine gA ?_|(conv=>whnf);first|refine Bf.f g ?_|refine CG (d) ⟨⟨rfl,bG w.Z⟩,trivial⟩ ?_|refine CJ (c) (.inl rfl) ?_)
    refine CF rfl rfl ?_;exact wC
   rw[C9 rfl]
   repeat'(first|refine gA ?_|(conv=>whnf);first|refine Bf.f g ?_|refine CG (d) ⟨⟨rfl,bG w.Z⟩,trivial⟩ ?_|refine CJ (c) (.inl rfl) ?_)
   refine CF rfl rfl ?_;exact wC
 rw[C8 J];have k10:a.b6=10:=ω
 have d:=aG a.N 0 50;by_cases g:0<=a.N/\a.N<=50
 ·rw[C9 ⟨k10,g⟩]
  rw[O0 g]at d;obtain⟨n,B⟩:=X2 g.1;have c:=zq w m n h ω;rw[show a.N.toNat=n by omega];rw[<-B]at c
  repeat'(first|refine gA ?_|(conv=>whnf);first|refine C7 (d) ?_|refine CJ (c) (.inl rfl) ?_)
  refine CF rfl rfl ?_;exact wC
 rw[C8 (λx=>g x.2)];rw[T0 g]at d
 repeat'(first|refine gA ?_|(conv=>whnf);refine C7 (d) ?_)
 refine CF rfl rfl ?_;exact wC
end Go.Proofs.YtecefhjnejfheaaGreat.Ab
