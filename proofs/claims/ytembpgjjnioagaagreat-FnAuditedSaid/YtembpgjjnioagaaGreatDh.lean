/- Objects freed by whatever thread: the reference's. No condition. -/
import Derived.Test.YtembpgjjnioagaaGreatDd
import Derived.Test.YtembpgjjnioagaaGreatDg
import Derived.Test.YtembpgjjnioagaaGreatDf
import Derived.Test.YtembpgjjnioagaaGreatDe
import Derived.ProofKit
import Derived.OpenShut
import Derived.Deep.Slices
import Derived.Deep.Fields
import Derived.ChangeSame
import Derived.WideShapes
set_option linter.unusedVariables false
set_option linter.unusedSimpArgs false
set_option linter.constructorNameAsVariable false
namespace Go.Proofs.YtembpgjjnioagaaGreat.Ab
open Go.RowKit
set_option maxRecDepth 20000
set_option maxHeartbeats 4000000
theorem yU(h:ab)(t a:Int)(c:h.Caches.length<=4)(d:¬(0<=t/\t<=h.Caches.length - 1)):aS Tryz.prog 354 false [.ptr (bu h),.val none [I t],.val none [I a]] [.ptr (bu h),.val none [I t],.val none [I a]] .one [I 1]:=by
 have b:=aG t 0 (h.Caches.length - 1:Int);rw[Q0 d]at b;refine fM 148 [(380,[2,0]),(382,[2,0]),(384,[2,0,0]),(379,[2,0])] [(15,269,[68,69,70,71,72,73,74,75,77,67,78,79,11,0,1,2,3,4,5,6,7,13,8,1000,1001,1002,1003,1004,1013,9,10,11,12,14,1012,15]),(22,15,[92,93,94,95,96,97,98,99,100,101,102,103,104,105,106]),(25,271,[116,117,118,119,120,121,122,123,124,125,127,115,128,129,14,0,1,2,3,4,5,6,7,8,9,15,10,1000,1001,1002,1003,1015,11,12,13,14,16,1014,17])] [(0,0),(0,0),(0,0)] Tryz.func354 rfl (λu q=>?_)
 repeat'(first|refine gO ?_|(conv=>whnf);first|refine C9 ?_|refine C6 (b) ?_)
 refine CE rfl rfl ?_;exact wC
theorem D7(h:ab)(i t:Nat)(a:bn h [])(j:i<h.Objs.length)(U:t<h.Caches.length)(K:(nth h.Objs i).Thread≠t):aS Tryz.prog 354 false [.ptr (bu h),.val none [I (t:Nat)],.val none [I (nth h.Objs i).Addr]] [.ptr (bu (freeT h t i).1),.val none [I (t:Nat)],.val none [I (nth h.Objs i).Addr]] .one [I (freeT h t i).2]:=by
 have F:=am j;obtain⟨-,L,d⟩:=a.objAt F;have N:nE h (nth h.Objs i).Addr=i:=by
  have V:=(a.objAt F).1;exact gH (f:=(·.Addr)) (gP a.osr) V j (by rw[L])
 rw[N]at d;have b:=rA a F;have W:=a.onu _ F;have n:=a.lens;have X:=n.objs;have Y:=a.nc;have Z:=kM.of a.mail;have hb4:=Z.b4;have o:=aG (t:Nat) 0 (h.Caches.length - 1:Int);rw[O0 ω]at o;have p:=p7 h (nth h.Objs i).Addr ω;rw[d]at p;have e:=ah j;have G:=jD (nth h.Objs i).Size;have O:=bG a.ker;have P:=cQ h.Kernel.Machine.Table ((nth h.Objs i).Addr / 16) O.1.2;unfold freeT;by_cases H:aI (nth h.Objs i).Size<0
 ·rw[C8 H]
  have c3:=oU h i a j H;refine fM 148 [(380,[2,0]),(382,[2,0]),(384,[2,0,0]),(379,[2,0])] [(15,269,[68,69,70,71,72,73,74,75,77,67,78,79,11,0,1,2,3,4,5,6,7,13,8,1000,1001,1002,1003,1004,1013,9,10,11,12,14,1012,15]),(22,15,[92,93,94,95,96,97,98,99,100,101,102,103,104,105,106]),(25,271,[116,117,118,119,120,121,122,123,124,125,127,115,128,129,14,0,1,2,3,4,5,6,7,8,9,15,10,1000,1001,1002,1003,1015,11,12,13,14,16,1014,17])] [(0,0),(0,0),(0,0)] Tryz.func354 rfl (λu q=>?_)
  repeat'(first|refine gD ?_|(conv=>whnf);first|with_reducible refine Bf.D (λc=>?_) (λc=>?_)|refine C9 ?_|refine C6 (o) ?_|refine CF (p) ⟨⟨rfl,bz h⟩,⟨rfl,rfl⟩,trivial⟩ ?_|refine CA (aa e) ?_|refine CG rfl (aa e) rfl ?_|refine C6 (G) ?_|refine CH (c3) (.inl rfl) ?_)
  refine CE rfl rfl ?_;exact wC
 rw[C7 H];obtain⟨s1,s2,s3,s4⟩:=P2.of a (am j) H;by_cases J:(ar (tbl h) ((nth h.Objs i).Addr / 16)).Mode=1
 ·rw[C8 J]
  unfold tbl at J;refine fM 148 [(380,[2,0]),(382,[2,0]),(384,[2,0,0]),(379,[2,0])] [(15,269,[68,69,70,71,72,73,74,75,77,67,78,79,11,0,1,2,3,4,5,6,7,13,8,1000,1001,1002,1003,1004,1013,9,10,11,12,14,1012,15]),(22,15,[92,93,94,95,96,97,98,99,100,101,102,103,104,105,106]),(25,271,[116,117,118,119,120,121,122,123,124,125,127,115,128,129,14,0,1,2,3,4,5,6,7,8,9,15,10,1000,1001,1002,1003,1015,11,12,13,14,16,1014,17])] [(0,0),(0,0),(0,0)] Tryz.func354 rfl (λu q=>?_)
  repeat'(first|refine gA ?_|(conv=>whnf);first|with_reducible refine Bf.D (λc=>?_) (λc=>?_)|refine C9 ?_|refine CL (by decide) ?_|refine CJ (pm b) ?_|refine C6 (o) ?_|refine CF (p) ⟨⟨rfl,bz h⟩,⟨rfl,rfl⟩,trivial⟩ ?_|refine CA (aa e) ?_|refine CG rfl (aa e) rfl ?_|refine C6 (G) ?_|refine CF (P) ⟨⟨rfl,CV _⟩,⟨rfl,rfl⟩,trivial⟩ ?_)
  refine CE rfl rfl ?_;exact wC
 rw[C7 J,C7 K];unfold tbl at J;have r:=Hl h.Mail t ⟨(nth h.Objs i).Thread,(nth h.Objs i).Addr⟩ a.mail ω;by_cases l:bA (gE h.Mail t ⟨(nth h.Objs i).Thread,(nth h.Objs i).Addr⟩)=true;rotate_left
 ·rw[C7 l]
  rw[C7 l,show bA (gE h.Mail t ⟨(nth h.Objs i).Thread,(nth h.Objs i).Addr⟩)=false by simpa using l]at r;refine fM 148 [(380,[2,0]),(382,[2,0]),(384,[2,0,0]),(379,[2,0])] [(15,269,[68,69,70,71,72,73,74,75,77,67,78,79,11,0,1,2,3,4,5,6,7,13,8,1000,1001,1002,1003,1004,1013,9,10,11,12,14,1012,15]),(22,15,[92,93,94,95,96,97,98,99,100,101,102,103,104,105,106]),(25,271,[116,117,118,119,120,121,122,123,124,125,127,115,128,129,14,0,1,2,3,4,5,6,7,8,9,15,10,1000,1001,1002,1003,1015,11,12,13,14,16,1014,17])] [(0,0),(0,0),(0,0)] Tryz.func354 rfl (λu q=>?_)
  repeat'(first|refine gA ?_|(conv=>whnf);first|with_reducible refine Bf.D (λc=>?_) (λc=>?_)|refine C9 ?_|refine CL (by decide) ?_|refine CJ (pm b) ?_|refine C6 (o) ?_|refine CF (p) ⟨⟨rfl,bz h⟩,⟨rfl,rfl⟩,trivial⟩ ?_|refine CA (aa e) ?_|refine CG rfl (aa e) rfl ?_|refine C6 (G) ?_|refine CF (P) ⟨⟨rfl,CV _⟩,⟨rfl,rfl⟩,trivial⟩ ?_|refine CF (r) ⟨⟨rfl,aK.enc_fz h.Mail⟩,⟨rfl,rfl⟩,⟨rfl,rfl⟩,trivial⟩ ?_|refine C9 ?_)
  refine CE rfl rfl ?_;exact wC
 rw[C8 l];rw[C8 l,l]at r;have w:fQ h.Kernel (nth h.Objs i).Addr<h.Kernel.Machine.Frames.Cells.length:=by unfold fQ;omega
 have hcz:=Kh s1;have B:=cR (aI (nth h.Objs i).Size);unfold MY;generalize gE h.Mail t ⟨(nth h.Objs i).Thread,(nth h.Objs i).Addr⟩ = M at r;refine fM 148 [(380,[2,0]),(382,[2,0]),(384,[2,0,0]),(379,[2,0])] [(15,269,[68,69,70,71,72,73,74,75,77,67,78,79,11,0,1,2,3,4,5,6,7,13,8,1000,1001,1002,1003,1004,1013,9,10,11,12,14,1012,15]),(22,15,[92,93,94,95,96,97,98,99,100,101,102,103,104,105,106]),(25,271,[116,117,118,119,120,121,122,123,124,125,127,115,128,129,14,0,1,2,3,4,5,6,7,8,9,15,10,1000,1001,1002,1003,1015,11,12,13,14,16,1014,17])] [(0,0),(0,0),(0,0)] Tryz.func354 rfl (λu q=>?_)
 repeat'(first|refine gA ?_|(conv=>whnf);first|with_reducible refine Bf.D (λc=>?_) (λc=>?_)|refine C9 ?_|refine CL (by decide) ?_|refine CJ (pm b) ?_|refine C6 (o) ?_|refine CF (p) ⟨⟨rfl,bz h⟩,⟨rfl,rfl⟩,trivial⟩ ?_|refine CA (aa e) ?_|refine CG rfl (aa e) rfl ?_|refine C6 (G) ?_|refine CF (P) ⟨⟨rfl,CV _⟩,⟨rfl,rfl⟩,trivial⟩ ?_|refine CF (r) ⟨⟨rfl,aK.enc_fz h.Mail⟩,⟨rfl,rfl⟩,⟨rfl,rfl⟩,trivial⟩ ?_|refine C9 ?_)
 have Q:({{h with Mail:=M} with Kernel:=fN h.Kernel (nth h.Objs i).Addr 0} : ab) = {h with Mail:=M}:=FP {h with Mail:=M} _ w;have R:=T0 (λy:ab=>C.s .own (y.Kernel.Machine.Frames.Cells.map (aF .own))) Q
 (conv=>whnf)
 refine CD (ι:=Nat) (λk=>[(0,.hold .box (bu {{h with Mail:=M} with Kernel:=fN h.Kernel (nth h.Objs i).Addr k})),(1,.hold .one [I ((t:Nat):Int)]),(2,.hold .one [I ((nth h.Objs i).Addr)]),(7,.hold .one [I ((i:Nat):Int)]),(8,.hold .box (bx.enc .own (nth h.Objs i))),(9,.hold .one [I (aI (nth h.Objs i).Size)]),(10,.hold .box (bi.enc .own (ar h.Kernel.Machine.Table ((nth h.Objs i).Addr / 16)))),(13,.hold .one [I ((k:Nat):Int)])]) (λk=>k<=(csz (aI (nth h.Objs i).Size)).toNat) (λk=>(csz (aI (nth h.Objs i).Size)).toNat - k) (0) ?_ (R0 _) λk hk=>?_
 ·repeat'(first|exact trivial|rfl |exact nS R|exact dX _|refine CI ?_ ?_|(exact Dy (by first|omega|(simp only;omega)|(simp;omega))))
 have T:IntKind.i64.wrap 0=0:=rfl;have S:(nth h.Objs i).Addr.tmod 16=(nth h.Objs i).Addr % 16:=fK b.1;have g:(fN h.Kernel (nth h.Objs i).Addr k).Machine.Frames.Cells[(ar h.Kernel.Machine.Table ((nth h.Objs i).Addr / 16)).Frame.toNat]? = some (lK (nth h.Kernel.Machine.Frames.Cells (fQ h.Kernel (nth h.Objs i).Addr)) ((nth h.Objs i).Addr % 16).toNat k):=Z2 w;by_cases lk:k<(csz (aI (nth h.Objs i).Size)).toNat
 ·have E:=ah (xs:=lK (nth h.Kernel.Machine.Frames.Cells (fQ h.Kernel (nth h.Objs i).Addr)) ((nth h.Objs i).Addr % 16).toNat k) (i:=((nth h.Objs i).Addr % 16+k).toNat) (by rw[oJ,s4];omega)
  repeat'(first|refine gD ?_|(conv=>whnf);first|refine C9 ?_|refine CL (by decide) ?_|refine CR S ?_|refine C6 (B) ?_|refine CK s2.1 (aa g) ?_|refine CG rfl (aa g) rfl ?_|refine CK ω (aa E) ?_|refine Pu.two rfl rfl (aa g) rfl rfl rfl (aa E) rfl (Q2 _) (Bw {h with Mail:=M} _ k _ b.1) ?_)
  ((conv=>whnf);refine CB (k+1) ω ω ?_;(exact wC))
 ·obtain rfl:k=(csz (aI (nth h.Objs i).Size)).toNat:=ω
  have c6:=mh {{h with Mail:=M} with Kernel:=fN h.Kernel (nth h.Objs i).Addr (csz (aI (nth h.Objs i).Size)).toNat} i j (by show h.Objs.length<=_;omega)
  repeat'(first|refine gA ?_|(conv=>whnf);first|with_reducible refine Bf.D (λc=>?_) (λc=>?_)|refine C9 ?_|refine C6 (B) ?_|refine CH (c6) (.inl rfl) ?_)
  refine CE rfl rfl ?_;exact wC
theorem M6(h:ab)(i:Nat)(t:Int)(a:bn h [])(d:i<h.Objs.length):aS Tryz.prog 354 false [.ptr (bu h),.val none [I t],.val none [I (nth h.Objs i).Addr]] [.ptr (bu (if 0<=t/\t<=h.Caches.length - 1 then(freeT h t.toNat i).1 else h)),.val none [I t],.val none [I (nth h.Objs i).Addr]] .one [I (if 0<=t/\t<=h.Caches.length - 1 then(freeT h t.toNat i).2 else 1)]:=by
 have c:h.Caches.length<=4:=by have:=(dC.1 a.mail).1.2.1;have:=a.nc;omega
 by_cases b:0<=t/\t<=h.Caches.length - 1
 ·rw[C8 b,C8 b]
  obtain⟨n,rfl⟩:=I2 b.1;simp only[C2];by_cases e:(nth h.Objs i).Thread=n
  ·have:=En h (nth h.Objs i) n a (am d) e c
   have g:nE h (nth h.Objs i).Addr=i:=by
    obtain⟨k,j,-⟩:=a.objAt (am d);exact gH (f:=(·.Addr)) (gP a.osr) k d (by rw[j])
   rw[g,<-ym e]at this;exact this
  ·exact D7 h i n a d ω e
 ·rw[C7 b,C7 b]
  exact yU h t _ c b
theorem Jb(c:aA)(k:Nat):aA.enc .own (rj c k)=[.s .own ((c.Lists.map (aF .own)).set k (aF .own ((nth c.Lists k).take ((nth c.Lists k).length - 1))))]:=by simp[aA.enc,rj,W4]
theorem Nv(xs:List Int)(n:Nat):(xs.take n).map (rI .imm)=(xs.map (rI .imm)).take n:=Q3
def Pr(c:aA)(k:Nat):List C:=if 0<(nth c.Lists k).length then aA.enc .own (rj c k)++[I (nth (nth c.Lists k) ((nth c.Lists k).length - 1)),B true] else aA.enc .own c++[I (-1),B false]
theorem Nf(c:aA)(k:Nat):gF (Pr c k):=by
 unfold Pr;split
 ·exact aZ (aA.enc_fr _) ⟨trivial,trivial,trivial⟩
 ·exact aZ (aA.enc_fr _) ⟨trivial,trivial,trivial⟩
theorem vR(c:aA)(k:Nat)(h:bm c=true)(u:k<=3):ao Tryz.prog 289 false [.val (some 1) (aA.enc .imm c),.val none [I (k:Nat)]] (.tup [some 1,none,none]) (Pr c k):=by
 obtain⟨w,j⟩:=en h;have n:aA.sml c:=⟨ω,λl r=>by have:=j l r;show l.length<=1048576;omega⟩
 have d:=uX c k n;rw[h,O0 ω]at d;have o:=ia c n;have b:=rK (c:=c) (k:=k) ω;have t:=j _ (am (xs:=c.Lists) (i:=k) ω);have a:=Nf c k;unfold Pr at a |-;by_cases p:0<(nth c.Lists k).length
 ·rw[C8 p]at a |-
  have q:=ah (xs:=nth c.Lists k) (i:=(nth c.Lists k).length - 1) ω;have e:(nth c.Lists k)[(((nth c.Lists k).length:Int) - 1).toNat]? = some (nth (nth c.Lists k) ((nth c.Lists k).length - 1)):=by rw[show(((nth c.Lists k).length:Int) - 1).toNat=(nth c.Lists k).length - 1 by omega];exact q
  have g:((((nth c.Lists k).length:Nat):Int) - 1)=(((nth c.Lists k).length - 1:Nat):Int):=ω
  rw[Jb]at a |-;refine fO 54 [(5,268,[32,33,34,35,36,37,38,39,40,41,42,44,0,1,2,3,4,5,6,7,8,9,10,11,1000,1001,1002,12,13]),(6,265,[45,46,47,48,49,50,51,52,53,0,1,2,3,4,5,6,7,8,9,1001,1002,1003,1004,1005,1006,1007,1008,10,11])] Tryz.func289 rfl ?_ (.inr a)
  repeat'(first|refine gA ?_|(conv=>whnf);first|with_reducible refine CA (aa b) ?_|refine C9 ?_|refine CG rfl (aa b) rfl ?_|refine C6 (d) ?_|refine C6 (o) ?_|refine CK ω (aa e) ?_|refine CA (aa q) ?_|refine CT ((nth c.Lists k).length - 1) g (by rw[W0];omega) (aR λ_=>rfl) (Nv _ _) ?_|refine C9 ?_|refine CS (λ_=>rfl) (λ_=>rfl) (by rw[I1];omega) (by decide) ?_|refine CQ (λ_=>rfl) (λ_=>rfl) (by rw[I1];omega) (by decide) ?_|refine CM rfl rfl (aa b) rfl (X0 rfl) rfl ?_)
  rfl
 ·rw[C7 p]at a |-
  refine fO 54 [(5,268,[32,33,34,35,36,37,38,39,40,41,42,44,0,1,2,3,4,5,6,7,8,9,10,11,1000,1001,1002,12,13]),(6,265,[45,46,47,48,49,50,51,52,53,0,1,2,3,4,5,6,7,8,9,1001,1002,1003,1004,1005,1006,1007,1008,10,11])] Tryz.func289 rfl ?_ (.inr a)
  repeat'(first|refine gA ?_|(conv=>whnf);first|with_reducible refine CA (aa b) ?_|refine C9 ?_|refine CG rfl (aa b) rfl ?_|refine C6 (d) ?_|refine C6 (o) ?_)
  rfl
def P0(xs:List a7)(n:Int):List C:=bB .own (ay xs n).1++[I (ay xs n).2.1,B (ay xs n).2.2]
theorem NA(xs:List a7)(n:Int):gF (P0 xs n):=aZ (nD _) ⟨trivial,trivial,trivial⟩
theorem nG(pages:Int)(xs:List a7)(n:Int)(w:0<=pages/\pages<=1048576)(l:bv pages xs=true)(J:1<=n/\n<=1000)(K:xs.length<=4096):ao Tryz.prog 294 false [.val none [I pages],.val none (bB .imm xs),.val none [I n]] (.tup [none,none,none]) (P0 xs n):=by
 have o:=kQ pages xs w ⟨ω,λ_ _=>trivial⟩;rw[l]at o;have p:=(zf l).2;refine fO 98 [(8,21,[31,32,33,34,35,36,37,38,39,40,41,42,43,44,45,46,47,48,49,50,51]),(14,265,[71,72,73,74,76,77,78,79,81,0,1,2,3,5,6,7,8,10,4,1005,1006,1007,1008,1010,9,1010,11,1010,12,13])] Tryz.func294 rfl ?_ (.inr (NA xs n))
 repeat'(first|refine gD ?_|(conv=>whnf);first|refine C9 ?_|refine C6 (o) ?_|refine CQ (λ_=>rfl) (λ_=>rfl) ω (by decide) ?_)
 (conv=>whnf)
 refine CD (ι:=Nat) (λi=>[(1,.hold .one (bB .imm xs)),(2,.hold .one [I (n)]),(9,.hold .one (bB .own xs)),(10,.hold .one [I (i7 xs n i)]),(11,.hold .one [I ((i:Nat):Int)])]) (λi=>i<=xs.length) (λi=>xs.length - i) (0) ?_ (R0 _) λi y=>?_
 ·exact wC
 have h:=vf xs n i y;by_cases q:i<xs.length
 ·have j:=ah q
  have E:=p _ (am q);have a:i7 xs n (i+1)=if n<=(nth xs i).Len/\(i7 xs n i<0\/(nth xs i).Len<(nth xs (i7 xs n i).toNat).Len) then((i:Nat):Int) else i7 xs n i:=rfl
  by_cases r:n<=(nth xs i).Len
  ·by_cases F:i7 xs n i<0
   ·rw[C8 ⟨r,.inl F⟩]at a
    repeat'(first|refine gD ?_|(conv=>whnf);first|with_reducible (first|refine CA (aa j) ?_|refine Bf.D (λc=>?_) (λc=>?_))|refine C9 ?_)
    ((conv=>whnf);refine CB (i+1) ω ω ?_)
    rw[a];exact wC
   ·have d:=ah (xs:=xs) (i:=(i7 xs n i).toNat) ω
    by_cases G:(nth xs i).Len<(nth xs (i7 xs n i).toNat).Len
    ·rw[C8 ⟨r,.inr G⟩]at a
     repeat'(first|refine gD ?_|(conv=>whnf);first|with_reducible (first|refine CA (aa j) ?_|refine CK ω (aa d) ?_|refine Bf.D (λc=>?_) (λc=>?_))|refine C9 ?_)
     ((conv=>whnf);refine CB (i+1) ω ω ?_)
     rw[a];exact wC
    ·rw[C7 ω]at a
     repeat'(first|refine gD ?_|(conv=>whnf);first|with_reducible (first|refine CA (aa j) ?_|refine CK ω (aa d) ?_|refine Bf.D (λc=>?_) (λc=>?_))|refine C9 ?_)
     ((conv=>whnf);refine CB (i+1) ω ω ?_)
     rw[a];exact wC
  ·rw[C7 ω]at a
   repeat'(first|refine gD ?_|(conv=>whnf);first|with_reducible (first|refine CA (aa j) ?_|refine Bf.D (λc=>?_) (λc=>?_))|refine C9 ?_)
   ((conv=>whnf);refine CB (i+1) ω ω ?_)
   rw[a];exact wC
 ·obtain rfl:i=xs.length:=ω
  change gy xs n = -1\/_ at h;unfold P0 ay;rw[show i7 xs n xs.length=gy xs n from rfl];by_cases e:gy xs n<0
  ·rw[C8 e]
   rw[show gy xs n = -1 from h.resolve_right λg=>by have L:0<=gy xs n:=g.1;omega]
   repeat'(first|refine gD ?_|(conv=>whnf);first|with_reducible refine Bf.D (λc=>?_) (λc=>?_)|refine C9 ?_)
   rfl
  ·rw[C7 e]
   obtain⟨H,t,M⟩:=h.resolve_left ω;change 0<=gy xs n at H;change gy xs n<xs.length at t;obtain⟨b,k⟩:=I2 (show 0<=gy xs n by omega);rw[k]at t |-;simp only[C2];have d:=ah (xs:=xs) (i:=b) ω;have E:=p _ (am (xs:=xs) (i:=b) ω);by_cases u:(nth xs b).Len=n
   ·rw[C8 u]
    repeat'(first|refine gA ?_|(conv=>whnf);first|with_reducible (first|refine CA (aa d) ?_|refine Bf.D (λc=>?_) (λc=>?_))|refine C9 ?_|refine CT b rfl (by rw[W0];omega) (aR λ_=>rfl) Q3 ?_|refine Sl.suf (b+1) rfl (by rw[W0];omega) (aR λ_=>rfl) R3 ?_|refine CS (λ_=>rfl) (λ_=>rfl) (by rw[I1];omega) (by decide) ?_|refine Ap.dele (λ_=>rfl) (λ_=>rfl) ω (by decide) ?_|refine CQ (λ_=>rfl) (λ_=>rfl) (by rw[I1];omega) (by decide) ?_|refine C9 ?_)
    rfl
   ·rw[C7 u]
    repeat'(first|refine gA ?_|(conv=>whnf);first|with_reducible (first|refine CA (aa d) ?_|refine Bf.D (λc=>?_) (λc=>?_))|refine C9 ?_|refine CM rfl rfl (aa d) rfl (X0 rfl) rfl ?_)
    exact T0 (λz=>z++[I (nth xs b).At,B true]) (show [C.s d9.own _]=_ from by simp[bB,W4];rfl)
theorem HX(k:af)(p:Int)(f:Nat):af.enc .own (p8 k p f)=((af.enc .own k).set 1 (.s .own ((k.Machine.Frames.Used.map (rB .own)).set f (rB .own true)))).set 2 (.s .own ((k.Machine.Table.Entries.map (bi.enc .own)).set p.toNat (bi.enc .own ⟨2,(f:Nat)⟩))):=by
 simp[af.enc,p8,W4]
theorem A9(k:af)(p:Int)(c:aB k=true)(y:k.Calls≠100000)(o:0<=p/\p<k.Machine.Table.Entries.length)(C:(nth k.Machine.Table.Entries p.toNat).Mode=0):aS Tryz.prog 296 false [.ptr (af.enc .own k),.val none [I p]] [.ptr (af.enc .own (ge k p).1),.val none [I p]] .one [B (ge k p).2]:=by
 have E:=bG c;have F:=bg.1 (aE.1 c).2.1;have G:=(bw.1 (aE.1 c).2.2.1).2.2;have H:(dw k).Machine.Table.Entries.length<=32:=G;have a:=zi k.Machine.Frames ω;have d:=m6 k c y;have g:=er (dw k) p E.1.2;have l:ar (dw k).Machine.Table p=nth k.Machine.Table.Entries p.toNat:=by unfold ar;exact C8 o
 rw[l,C]at g;have h:=aG p 0 ((k.Machine.Table.Entries.length:Int) - 1);rw[O0 ω]at h;have r:=ah (xs:=k.Machine.Table.Entries) (i:=p.toNat) ω;change ao _ _ _ _ _ [I (qS k)]at a;unfold ge;cases e:refd k<;>rw[e]at d
 ·by_cases j:qS k<0
  ·rw[C8 (.inr j)]
   refine fM 56 [(347,[2])] [] [(0,0),(0,0)] Tryz.func296 rfl (λu q=>?_)
   repeat'(first|refine gA ?_|(conv=>whnf);first|with_reducible refine Bf.D (λb=>?_) (λb=>?_)|refine CF (a) ⟨⟨rfl,aU.enc_fz _⟩,trivial⟩ ?_|refine CH (d) (.inl rfl) ?_|refine C6 (h) ?_|refine CF (g) ⟨CO (dw k),⟨rfl,rfl⟩,trivial⟩ ?_)
   refine CE rfl ?_ ?_
   ·rfl
   ·exact wC
  ·rw[C7 (by simp[j])]
   obtain⟨n,t⟩:=De j;obtain⟨f,J⟩:=I2 (show 0<=qS k by omega);rw[J]at a n t j |-;simp only[C2]at n t |-;have w:=ah (xs:=k.Machine.Frames.Used) (i:=f) n;rw[HX];refine fM 56 [(347,[2])] [] [(0,0),(0,0)] Tryz.func296 rfl (λu q=>?_)
   repeat'(first|refine gA ?_|(conv=>whnf);first|with_reducible refine Bf.D (λb=>?_) (λb=>?_)|refine CF (a) ⟨⟨rfl,aU.enc_fz _⟩,trivial⟩ ?_|refine CH (d) (.inl rfl) ?_|refine C6 (h) ?_|refine CF (g) ⟨CO (dw k),⟨rfl,rfl⟩,trivial⟩ ?_|refine CA (aa w) ?_|refine CK o.1 (aa r) ?_|refine CM rfl rfl (aa w) rfl (X0 rfl) rfl ?_|refine CM rfl rfl (aa r) rfl (X0 rfl) rfl ?_)
   refine CE rfl ?_ ?_
   ·rfl
   ·exact wC
 ·rw[C8 (.inl rfl)]
  refine fM 56 [(347,[2])] [] [(0,0),(0,0)] Tryz.func296 rfl (λu q=>?_)
  repeat'(first|refine gA ?_|(conv=>whnf);first|with_reducible refine Bf.D (λb=>?_) (λb=>?_)|refine CF (a) ⟨⟨rfl,aU.enc_fz _⟩,trivial⟩ ?_|refine CH (d) (.inl rfl) ?_|refine C6 (h) ?_|refine CF (g) ⟨CO (dw k),⟨rfl,rfl⟩,trivial⟩ ?_)
  refine CE rfl ?_ ?_
  ·rfl
  ·exact wC
def Py(h:ab):List C:=(bu h).drop 5
theorem Bi(h:ab)(p:Int)(a:aB h.Kernel=true)(b:h.Kernel.Calls≠100000)(c:0<=p/\p<h.Kernel.Machine.Table.Entries.length)(d:(nth h.Kernel.Machine.Table.Entries p.toNat).Mode=0):aS Tryz.prog 296 false [.ptr (bu h),.val none [I p]] [.ptr (bu {h with Kernel:=(ge h.Kernel p).1}),.val none [I p]] .one [B (ge h.Kernel p).2]:=
 (A9 h.Kernel p a b c d).frame (r:=Py h) rfl
theorem GR(h:ab)(i:Nat):bu (slotT h i)=((bu h).set 14 (I (FT h.Seed))).set 6 (.s .own ((h.Spans.map (au.enc .own)).set i [I (nth h.Spans i).Page,I (nth h.Spans i).Class,I (gp (nth h.Spans i).Bits (pn h i))])):=by
 simp[bu,slotT,pB,W4,au.enc]
theorem qm(h:ab)(E:List Int)(i:Nat)(c:bn h E)(k:i<h.Spans.length):aS Tryz.prog 291 false [.ptr (bu h),.val none [I (i:Nat)]] [.ptr (bu (qJ h i).1),.val none [I (i:Nat)]] .one [I (qJ h i).2]:=by
 have F:=c.lens;have G:=F.spans;have d:=ah k;have b:=c.L.sok _ (am k);have e:=eI b;have a:=c.nums;unfold cj at a;rw[C0]at a;have t:=(bw.1 (aE.1 c.ker).2.2.1).2.2;have l:=qZ c.L.sok (ps:=aO h (nth h.Spans i).Page) e (aO h (nth h.Spans i).Page).length;change 0<=gw h i/\gw h i<=65535 at l;have w:=lV (nth h.Spans i).Class;have y:=xC h i ⟨ω,λ_ _=>trivial⟩ ⟨by show h.Kernel.Machine.Table.Entries.length<=_;omega,λ_ _=>trivial⟩ c.L.sok k;have o:=vI (nth h.Spans i).Class (gw h i) ω;change ao _ _ _ _ _ (aF .own (me h i)) at o;have p:=EU (nth h.Spans i).Class (gw h i);change (me h i).length<=16 at p;unfold qJ;by_cases B:(me h i).length=0
 ·rw[C8 B]
  refine fM 68 [] [(2,7,[16,17,18,19,20,21,22]),(7,12,[42,43,44,45,46,47,48,49,50,51,52,53]),(8,11,[56,57,58,59,60,61,62,63,64,65,66])] [(0,0),(0,0)] Tryz.func291 rfl (λu q=>?_)
  repeat'(first|refine gA ?_|(conv=>whnf);first|refine CA (aa d) ?_|refine CG rfl (aa d) rfl ?_|refine C6 (w) ?_|refine CF (y) ⟨⟨rfl,bz h⟩,⟨rfl,rfl⟩,trivial⟩ ?_|refine C6 (o) ?_|refine C9 ?_)
  refine CE rfl rfl ?_;exact wC
 ·rw[C7 B]
  have H:=xR (h:=h) (i:=i) ω;obtain⟨C,D,O⟩:=wN H;have J:=(gh (aD b).2.2).2.2.1;have r:=wx h.Seed (n:=((me h i).length:Nat)) ω;have K:=tp h.Seed ((me h i).length:Nat) ω ω;have M:=xg (nth h.Spans i).Bits (pn h i) e ω;have N:=xh (pB (nth h.Spans i) (pn h i)) (pn h i) (yV b ⟨C,D⟩) ⟨C,D⟩;have g:(me h i)[(Jg h.Seed ((me h i).length:Nat)).toNat]? = some (pn h i):=ah ω;have j:((h.Spans.map (au.enc .own)).set i [I (nth h.Spans i).Page,I (nth h.Spans i).Class,I (gp (nth h.Spans i).Bits (pn h i))])[i]? = some [I (nth h.Spans i).Page,I (nth h.Spans i).Class,I (gp (nth h.Spans i).Bits (pn h i))]:=qG k;unfold sT;rw[GR];refine fM 68 [] [(2,7,[16,17,18,19,20,21,22]),(7,12,[42,43,44,45,46,47,48,49,50,51,52,53]),(8,11,[56,57,58,59,60,61,62,63,64,65,66])] [(0,0),(0,0)] Tryz.func291 rfl (λu q=>?_)
  repeat'(first|refine gA ?_|(conv=>whnf);first|refine CA (aa d) ?_|refine CA j ?_|refine CG rfl (aa g) rfl ?_|refine CG rfl (aa d) rfl ?_|refine CG rfl j rfl ?_|refine C6 (w) ?_|refine CF (y) ⟨⟨rfl,bz h⟩,⟨rfl,rfl⟩,trivial⟩ ?_|refine C6 (o) ?_|refine C6 (K) ?_|refine C6 (M) ?_|refine C6 (N) ?_|refine CK r.1 (aa g) ?_|refine C9 ?_|refine CM rfl rfl (aa d) rfl (X0 rfl) rfl ?_)
  refine CE rfl ?_ ?_
  ·rfl
  ·exact wC
theorem Ap.ins{α:Type}{e:α->List C}{xs:List α}{y:α}{r:List C}{i sz by_:Nat}{K:List (List C)->Prop}(a:r=e y)(b:∀y,(e y).length=sz)(c:∀y,aV (e y)=true)(h:xs.length<=1048576)(d:by_<=1000)(f:K ((xs.take i++y::xs.drop i).map e)):Ap true ((xs.take i).map e++[r]) ((xs.drop i).map e) sz by_ K:=by
 subst a;have g:(xs.take i).length+1+(xs.drop i).length<=3145728:=by rw[I1,W2];omega
 refine CP (λr a=>?_) (aR b) (λ_ r a=>by obtain⟨y,-,rfl⟩:=T3.1 a;exact c y) (by simp only[U2,W0,List.length_singleton];omega) (by simp only[U2,W0,List.length_singleton];exact Z3 (Nat.mul_le_mul g d) (by decide)) ?_ f
 ·rcases O2.1 a with a|a
  ·exact aR b r a
  ·rw[Z0.1 a];exact b y
 ·rw[R4,U4,Q4];rfl
theorem uh{α:Type}{p:α->Bool}{xs:List α}{y:α}{i:Nat}(h:jx p xs=i):jf p xs y=xs.take i++y::xs.drop i:=by unfold jf;rw[h]
def Ge(h:ab)(c:Int):ab × Int:=
 if(ay h.Free 1).2.2=false then(h,-1)
 else if(ge h.Kernel (ay h.Free 1).2.1).2=false then({h with Kernel:=(ge h.Kernel (ay h.Free 1).2.1).1},-1)
 else(vX h c,(ue h:Nat))
theorem zI(h:ab)(E:List Int)(c:Nat)(g:bn h E)(J:h.Kernel.Calls<=90000):aS Tryz.prog 292 false [.ptr (bu h),.val none [I (c:Nat)]] [.ptr (bu (Ge h c).1),.val none [I (c:Nat)]] .one [I (Ge h c).2]:=by
 have B:=g.lens;have K:=B.spans;have L:dK h<=32:=B.ents;have C:=g9 h;have l:=nG (dK h:Nat) h.Free 1 ⟨ω,ω⟩ g.rng (by decide) (by have:=B.free;omega);unfold P0 at l;have d:=kL g (t4 1);unfold Ge vX ue;generalize ay h.Free 1=r at l d |-;obtain⟨o,p,ok⟩:=r;simp only at l d |-;cases ok with
 | false=>
  rw[C8 rfl];refine fM 79 [(296,[2,0]),(2000010,[0,6])] [(1,267,[11,12,13,14,15,16,17,10,18,19,20,0,1,2,3,4,5,6,7,8,9,10,11,1009,1010,12,1010,13])] [(0,0),(0,0)] Tryz.func292 rfl (λu q=>?_)
  repeat'(first|refine gO ?_|(conv=>whnf);first|refine C9 ?_|refine CF (C) ⟨bz h,trivial⟩ ?_|refine CF (l) ⟨⟨rfl,rfl⟩,⟨rfl,d7 h.Free⟩,⟨rfl,rfl⟩,trivial⟩ ?_|refine C9 ?_)
  refine CE rfl rfl ?_;exact wC
 | true=>
  rw[C7 (by simp)];obtain⟨M,N,O,V⟩:=d rfl;have F:0<=p/\p<h.Kernel.Machine.Table.Entries.length:=⟨M,by have:p+1<=((tbl h).Entries.length:Nat):=N;unfold tbl at this;omega⟩
  have t:=Bi h p g.ker ω F (O p.toNat ω ω);generalize ge h.Kernel p=w at t |-;obtain⟨k,b⟩:=w;simp only at t |-;cases b with
  | false=>
   rw[C8 rfl];refine fM 79 [(296,[2,0]),(2000010,[0,6])] [(1,267,[11,12,13,14,15,16,17,10,18,19,20,0,1,2,3,4,5,6,7,8,9,10,11,1009,1010,12,1010,13])] [(0,0),(0,0)] Tryz.func292 rfl (λu q=>?_)
   repeat'(first|refine gO ?_|(conv=>whnf);first|refine C9 ?_|refine CF (C) ⟨bz h,trivial⟩ ?_|refine CF (l) ⟨⟨rfl,rfl⟩,⟨rfl,d7 h.Free⟩,⟨rfl,rfl⟩,trivial⟩ ?_|refine CH (t) (.inl rfl) ?_|refine C9 ?_)
   refine CE rfl rfl ?_;exact wC
  | true=>
   rw[C7 (by simp)];refine fM 79 [(296,[2,0]),(2000010,[0,6])] [(1,267,[11,12,13,14,15,16,17,10,18,19,20,0,1,2,3,4,5,6,7,8,9,10,11,1009,1010,12,1010,13])] [(0,0),(0,0)] Tryz.func292 rfl (λu q=>?_)
   repeat'(first|refine gO ?_|(conv=>whnf);first|refine C9 ?_|refine CF (C) ⟨bz h,trivial⟩ ?_|refine CF (l) ⟨⟨rfl,rfl⟩,⟨rfl,d7 h.Free⟩,⟨rfl,rfl⟩,trivial⟩ ?_|refine CH (t) (.inl rfl) ?_|refine C9 ?_)
   (conv=>whnf)
   refine CD (ι:=Nat) (λi=>[(0,.hold .box (bu {h with Kernel:=k,Free:=o})),(1,.hold .one [I ((c:Nat):Int)]),(6,.hold .one [I (p)]),(8,.hold .one [I ((i:Nat):Int)])]) (λi=>i<=h.Spans.length/\∀(j:Nat)(z:au),j<i->h.Spans[j]? = some z->He p z=false) (λi=>h.Spans.length - i) (0) ?_ (⟨R0 _,λj z W=>ω⟩) λi g=>?_
   ·exact wC
   obtain⟨P,G⟩:=g;have Q:({h with Kernel:=k,Free:=o} : ab).Spans.length=h.Spans.length:=rfl;by_cases R:i<h.Spans.length/\(nth h.Spans i).Page<p
   ·have n:=ah R.1
    repeat'(first|refine gD ?_|(conv=>whnf);first|with_reducible refine CA (aa n) ?_|refine C9 ?_|refine CG rfl (aa n) rfl ?_)
    ((conv=>whnf);refine CB (i+1) ⟨ω,cX n (Q0 ω) G⟩ ω ?_;(exact wC))
   ·have a:jx (He p) h.Spans=i:=uj ω G λz H=>by
     have S:=(V1.1 H).1;have:z=nth h.Spans i:=(bp H).symm;subst this;exact O0 ω
    have n:i<h.Spans.length->h.Spans[i]? = some (nth h.Spans i):=λT=>ah T
    rw[show addS h k o p (c:Nat) = {h with Kernel:=k,Free:=o,Spans:=h.Spans.take i++⟨p,(c:Nat),0⟩::h.Spans.drop i} by unfold addS;rw[uh a],a]
    repeat'(first|refine gD ?_|(conv=>whnf);first|with_reducible (first|refine CA (aa (n ω)) ?_|refine Bf.D (λU=>?_) (λU=>?_))|refine C9 ?_|refine CG rfl (aa (n ω)) rfl ?_|refine DU.mk rfl (AR h.Spans) rfl ?_|refine CT i rfl (by rw[W0];omega) (aR λ_=>rfl) Q3 ?_|refine Sl.suf i rfl (by rw[W0];omega) (aR λ_=>rfl) R3 ?_|refine CQ (λ_=>rfl) (λ_=>rfl) (by rw[I1];omega) (by decide) ?_|refine Ap.sn (aR λ_=>rfl) rfl (by rw[W0,I1];omega) (by decide) rfl ?_|refine Ap.ins (e:=au.enc .imm) (y:=⟨p,(c:Nat),0⟩) rfl (λ_=>rfl) (λ_=>rfl) ω (by decide) ?_)
    all_goals
     refine CE rfl rfl ?_;exact wC
theorem BR{h:ab}{c:Int}{i:Nat}(a:i<h.Spans.length)(b:rT h c i=true)(d:∀j,j<i->rT h c j=false):rD h c=some i:=
 List.find?_range_eq_some.2 ⟨b,List.mem_range.2 a,λj e=>by rw[d j e];rfl⟩
theorem AM{h:ab}{c:Int}(a:∀j,j<h.Spans.length->rT h c j=false):rD h c=none:=
 List.find?_range_eq_none.2 λj b=>by rw[a j b];rfl
theorem rJ{h:ab}{c:Int}{i:Nat}(a:rT h c i=false)(b:∀j,j<i->rT h c j=false):∀j,j<i+1->rT h c j=false:=λj d=>by
 by_cases e:j=i
 ·rw[e];exact a
 ·exact b j ω
theorem GL(h:ab)(t:Nat)(c:aA):bu {h with Caches:=h.Caches.set t c} = (bu h).set 9 (.s .own ((h.Caches.map (aA.enc .own)).set t (aA.enc .own c))):=by
 simp[bu,W4]
theorem Jn{h:ab}{c:Nat}(b:bn h [])(l:c<=3)(e:h.Kernel.Calls<=90000)(h1:¬(ay h.Free 1).2.2=false)(f:¬(ge h.Kernel (ay h.Free 1).2.1).2=false):bn (vX h c) []/\ue h<(vX h c).Spans.length:=by
 have a:(ay h.Free 1).2.2=true:=by simpa using h1
 obtain⟨g,i,j,n⟩:=kL b (t4 1) a;have s:=zD.of (p:=(ay h.Free 1).2.1) b.ker ω ⟨g,by have:(ay h.Free 1).2.1+1<=(h.Kernel.Machine.Table.Entries.length:Nat):=i;omega⟩ (j _ ω ω);have d:(ge h.Kernel (ay h.Free 1).2.1).2=true:=by simpa using f
 have k:zD h.Kernel (ay h.Free 1).2.1 ((ge h.Kernel (ay h.Free 1).2.1).1,true):=by rw[<-d];exact s
 exact⟨b.addS (c:=c) ⟨ω,ω⟩ a k,(FH (He (ay h.Free 1).2.1) h.Spans ⟨(ay h.Free 1).2.1,c,0⟩).1⟩
theorem xH(h:ab)(t c:Nat)(o:bn h [])(M:t<h.Caches.length)(N:c<=3)(p:h.Kernel.Calls<=90000):aS Tryz.prog 234 false [.ptr (bu h),.val none [I (t:Nat)],.val none [I (c:Nat)]] [.ptr (bu (gr h t c).1),.val none [I (t:Nat)],.val none [I (c:Nat)]] .one [I (gr h t c).2]:=by
 have E:=o.cach _ (am M);have e:=ah M;have r:=vR (nth h.Caches t) c E N;have Q:=o.lens.spans;have B:=o;unfold Pr at r;by_cases F:0<(nth (nth h.Caches t).Lists c).length
 ·unfold gr
  rw[C8 F]at r |-;simp only;rw[GL];refine fM 80 [(291,[2,0]),(292,[2,0])] [(3,6,[27,28,29,30,31,32])] [(0,0),(0,0),(0,0)] Tryz.func234 rfl (λu q=>?_)
  repeat'(first|refine gO ?_|(conv=>whnf);first|with_reducible refine CA (aa e) ?_|refine CG rfl (aa e) rfl ?_|refine CF (r) ⟨⟨rfl,aA.enc_fz _⟩,⟨rfl,rfl⟩,trivial⟩ ?_|refine C9 ?_|refine CM rfl rfl (aa e) rfl (X0 rfl) rfl ?_)
  refine CE rfl rfl ?_;exact wC
 ·rw[C7 F]at r
  have d:gr h t c=match rD h c with
   | some i=>(slotT h i,sT h i)
   | none=>if(ay h.Free 1).2.2=false then(h,-1)
    else if(ge h.Kernel (ay h.Free 1).2.1).2=false then({h with Kernel:=(ge h.Kernel (ay h.Free 1).2.1).1},-1)
    else qJ (vX h c) (ue h):=by unfold gr;exact C7 F
  refine fM 80 [(291,[2,0]),(292,[2,0])] [(3,6,[27,28,29,30,31,32])] [(0,0),(0,0),(0,0)] Tryz.func234 rfl (λu q=>?_)
  repeat'(first|refine gO ?_|(conv=>whnf);first|with_reducible refine CA (aa e) ?_|refine CG rfl (aa e) rfl ?_|refine CF (r) ⟨⟨rfl,aA.enc_fz _⟩,⟨rfl,rfl⟩,trivial⟩ ?_|refine C9 ?_)
  (conv=>whnf)
  refine CD (ι:=Nat) (λi=>[(0,.hold .box (bu h)),(1,.hold .one [I ((t:Nat):Int)]),(2,.hold .one [I ((c:Nat):Int)]),(10,.hold .one [I ((i:Nat):Int)])]) (λi=>i<=h.Spans.length/\∀j,j<i->rT h c j=false) (λi=>h.Spans.length - i) (0) ?_ (⟨R0 _,λj W=>ω⟩) λi o=>?_
  ·exact wC
  obtain⟨R,w⟩:=o;by_cases C:i<h.Spans.length
  ·have l:=ah C
   by_cases O:(nth h.Spans i).Class=c
   ·have y:=tt h (nth h.Spans i).Page
    cases D:gC h (nth h.Spans i).Page with
    | true=>
     rw[D]at y
     repeat'(first|refine gA ?_|(conv=>whnf);first|with_reducible refine CA (aa l) ?_|refine CG rfl (aa l) rfl ?_|refine CF (y) ⟨bz h,⟨rfl,rfl⟩,trivial⟩ ?_)
     ((conv=>whnf);refine CB (i+1) ⟨ω,rJ (by unfold rT;rw[D];simp) w⟩ ω ?_;(exact wC))
    | false=>
     rw[D]at y;have n:=qm h [] i B C;unfold qJ at n;by_cases P:(me h i).length=0
     ·rw[C8 P]at n
      repeat'(first|refine gA ?_|(conv=>whnf);first|with_reducible refine CA (aa l) ?_|refine CG rfl (aa l) rfl ?_|refine CF (y) ⟨bz h,⟨rfl,rfl⟩,trivial⟩ ?_|refine CH (n) (.inl rfl) ?_)
      ((conv=>whnf);refine CB (i+1) ⟨ω,rJ (by unfold rT;rw[Q0 (by omega:¬0<(me h i).length)];simp) w⟩ ω ?_;(exact wC))
     ·rw[C7 P]at n
      have G:rD h c=some i:=BR C (by unfold rT;rw[O0 O,D,O0 ω];rfl) w;rw[G]at d;simp only at d;obtain⟨S,T⟩:=B.slotT C (by omega:0<(me h i).length);have H:=iS.nn S T;rw[d];generalize slotT h i=g at n |-;generalize sT h i=a at n H |-
      repeat'(first|refine gA ?_|(conv=>whnf);first|with_reducible refine CA (aa l) ?_|refine CG rfl (aa l) rfl ?_|refine CF (y) ⟨bz h,⟨rfl,rfl⟩,trivial⟩ ?_|refine CH (n) (.inl rfl) ?_)
      refine CE rfl rfl ?_;exact wC
   ·repeat'(first|refine gA ?_|(conv=>whnf);first|with_reducible refine CA (aa l) ?_|refine CG rfl (aa l) rfl ?_)
    ((conv=>whnf);refine CB (i+1) ⟨ω,rJ (by unfold rT;rw[Q0 O];rfl) w⟩ ω ?_;(exact wC))
  ·obtain rfl:i=h.Spans.length:=ω
   have G:rD h c=none:=AM w;rw[G]at d;simp only at d;have k:=zI h [] c B p;rw[d];unfold Ge at k;by_cases J:(ay h.Free 1).2.2=false
   ·rw[C8 J]at k |-
    repeat'(first|refine gD ?_|(conv=>whnf);first|refine CH (k) (.inl rfl) ?_)
    refine CE rfl rfl ?_;exact wC
   ·rw[C7 J]at k |-
    by_cases K:(ge h.Kernel (ay h.Free 1).2.1).2=false
    ·rw[C8 K]at k |-
     repeat'(first|refine gD ?_|(conv=>whnf);first|refine CH (k) (.inl rfl) ?_)
     refine CE rfl rfl ?_;exact wC
    ·rw[C7 K]at k |-
     obtain⟨U,V⟩:=Jn B N p J K;have L:=qm (vX h c) [] (ue h) U V;generalize vX h c=g at k L |-;generalize ue h=b at k L |-
     repeat'(first|refine gD ?_|(conv=>whnf);first|refine CH (k) (.inl rfl) ?_|refine CH (L) (.inl rfl) ?_)
     refine CE rfl rfl ?_;exact wC
def HI(h:ab)(size:Int):ab × Int:=
 if(ay h.Free (l7 size:Nat)).2.2=false then(h,-1)
 else if(iH h size).2=l7 size then({h with Kernel:=(iH h size).1,Free:=(ay h.Free (l7 size:Nat)).1,Larges:=jf (MZ (ay h.Free (l7 size:Nat)).2.1) h.Larges ⟨(ay h.Free (l7 size:Nat)).2.1,(l7 size:Nat),size⟩},16*(ay h.Free (l7 size:Nat)).2.1)
 else({h with Kernel:=dZ (iH h size).1 (ay h.Free (l7 size:Nat)).2.1 (iH h size).2},-1)
theorem wy(k:af)(p:Int)(i:Nat):cL k p (i+1)=if(cL k p i).2=i then((ge (cL k p i).1 (p+(i:Nat))).1,if(ge (cL k p i).1 (p+(i:Nat))).2=true then i+1 else i) else cL k p i:=rfl
theorem AY(k:af)(p:Int):∀i,(cL k p i).2<=i
 | 0=>Q2 _
 | i+1=>by
  have b:=AY k p i;rw[wy];by_cases e:(cL k p i).2=i
  ·rw[C8 e]
   show(if _ then i+1 else i)<=i+1;by_cases a:(ge (cL k p i).1 (p+(i:Nat))).2=true
   ·rw[C8 a];exact Q2 _
   ·rw[C7 a];exact Nat.le_succ _
  ·rw[C7 e];omega
theorem mE{k:af}{p:Int}{i:Nat}(h:(cL k p i).2≠i):∀j,cL k p (i+j)=cL k p i/\(cL k p (i+j)).2<i+j
 | 0=>⟨rfl,by show(cL k p i).2<i;have:=AY k p i;omega⟩
 | j+1=>by
  have a:=mE h j;have e:cL k p (i+(j+1))=cL k p (i+j):=by
   show cL k p (i+j+1)=_;rw[wy,C7 ω]
  exact⟨e.trans a.1,by rw[e];omega⟩
theorem x3(h:ab)(size:Int)(l:bn h [])(C:9<=size/\size<=1000)(V:h.Kernel.Calls<=90000):aS Tryz.prog 235 false [.ptr (bu h),.val none [I size]] [.ptr (bu (HI h size).1),.val none [I size]] .one [I (HI h size).2]:=by
 have E:=l.lens;have W:=E.larges;have Q:=l;have F:dK h<=32:=E.ents;have G:eM size=((l7 size:Nat):Int):=by unfold eM l7;split<;>omega
 have hN:1<=l7 size/\l7 size<=63:=by unfold l7;omega
 have H:=kR size;rw[G]at H;have R:=g9 h;have t:=nG (dK h:Nat) h.Free (l7 size:Nat) ⟨ω,ω⟩ l.rng ⟨ω,ω⟩ (by have:=E.free;omega);unfold P0 at t;have b:=kL l (show(1:Int)<=(l7 size:Nat) by omega);unfold HI iH;generalize l7 size=N at *;generalize ay h.Free (N:Nat)=r at t b |-;obtain⟨J,p,ok⟩:=r;simp only at t b |-;refine fM 105 [(296,[2,0]),(297,[2,0]),(2000018,[0,7])] [(2,268,[16,17,18,19,20,21,22,23,15,24,25,26,0,1,2,3,4,5,6,7,8,9,10,11,12,1010,1011,13,1011,14])] [(0,0),(0,0)] Tryz.func235 rfl (λu q=>?_);cases ok with
 | false=>
  rw[C8 rfl]
  repeat'(first|refine gO ?_|(conv=>whnf);first|refine C9 ?_|refine C6 (H) ?_|refine CF (R) ⟨bz h,trivial⟩ ?_|refine CF (t) ⟨⟨rfl,rfl⟩,⟨rfl,d7 h.Free⟩,⟨rfl,rfl⟩,trivial⟩ ?_|refine C9 ?_)
  refine CE rfl rfl ?_;exact wC
 | true=>
  rw[C7 (by simp)];obtain⟨S,K,B,u4⟩:=b rfl;change p+(N:Nat)<=(h.Kernel.Machine.Table.Entries.length:Nat) at K;change ∀q:Nat,p<=q->(q:Int)<p+(N:Nat)->(nth h.Kernel.Machine.Table.Entries q).Mode=0 at B
  have X:h.Kernel.Machine.Table.Entries.length<=32:=F
  repeat'(first|refine gO ?_|(conv=>whnf);first|refine C9 ?_|refine C6 (H) ?_|refine CF (R) ⟨bz h,trivial⟩ ?_|refine CF (t) ⟨⟨rfl,rfl⟩,⟨rfl,d7 h.Free⟩,⟨rfl,rfl⟩,trivial⟩ ?_|refine C9 ?_)
  (conv=>whnf)
  refine CD (ι:=Nat) (λi=>[(0,.hold .box (bu {h with Kernel:=(cL h.Kernel p i).1})),(1,.hold .one [I (size)]),(5,.hold .one [I ((N:Nat):Int)]),(6,.hold .one (bB .own J)),(7,.hold .one [I (p)]),(9,.hold .one [I ((i:Nat):Int)])]) (λi=>i<=N/\(cL h.Kernel p i).2=i) (λi=>N - i) (0) ?_ (⟨R0 _,rfl⟩) λi l=>?_
  ·exact wC
  obtain⟨L,M⟩:=l;have s:=nt.of (p:=p) (n:=N) Q.ker ω ⟨S,K⟩ B i L;have Y:=s.calls;have Z:=s.len;by_cases li:i<N
  ·have O:(nth (cL h.Kernel p i).1.Machine.Table.Entries (p+(i:Nat)).toNat).Mode=0:=by
    rw[s.out _ (by rw[M];omega)];exact B _ ω ω
   have c:=Bi {h with Kernel:=(cL h.Kernel p i).1} (p+(i:Nat)) s.ker (by show(cL h.Kernel p i).1.Calls≠100000;omega) ⟨ω,by show p+(i:Nat)<((cL h.Kernel p i).1.Machine.Table.Entries.length:Nat);omega⟩ O;have a:cL h.Kernel p (i+1)=((ge (cL h.Kernel p i).1 (p+(i:Nat))).1,if(ge (cL h.Kernel p i).1 (p+(i:Nat))).2=true then i+1 else i):=by
    show(if(cL h.Kernel p i).2=i then _ else _)=_;rw[C8 M]
   simp only at c;cases e:(ge (cL h.Kernel p i).1 (p+(i:Nat))).2 with
   | true=>
    rw[e]at c a;rw[C8 rfl]at a;have P:(ge (cL h.Kernel p i).1 (p+(i:Nat))).1=(cL h.Kernel p (i+1)).1:=by rw[a]
    rw[P]at c
    repeat'(first|refine gD ?_|(conv=>whnf);first|refine C9 ?_|refine CH (c) (.inl rfl) ?_)
    ((conv=>whnf);refine CB (i+1) ⟨ω,by rw[a]⟩ ω ?_;(exact wC))
   | false=>
    rw[e]at c a;rw[C7 (by simp)]at a;have d:=mE (k:=h.Kernel) (p:=p) (i:=i+1) (by rw[a];simp only;omega) (N - (i+1));rw[show i+1+(N - (i+1))=N by omega]at d;rw[d.1]at d;have T:=nt.of (p:=p) (n:=N) Q.ker ω ⟨S,K⟩ B (i+1) ω;rw[C7 (by have:=mE (k:=h.Kernel) (p:=p) (i:=i+1) (by rw[a];simp only;omega) (N - (i+1));rw[show i+1+(N - (i+1))=N by omega]at this;omega)];rw[show cL h.Kernel p N=cL h.Kernel p (i+1) by have:=mE (k:=h.Kernel) (p:=p) (i:=i+1) (by rw[a];simp only;omega) (N - (i+1));rw[show i+1+(N - (i+1))=N by omega]at this;exact this.1];rw[a]at T |-;have g:=T.ker;simp only at g |-;generalize (ge (cL h.Kernel p i).1 (p+(i:Nat))).1=k at c g |-
    repeat'(first|refine gD ?_|(conv=>whnf);first|refine C9 ?_|refine CH (c) (.inl rfl) ?_)
    (conv=>whnf)
    refine CD (ι:=Nat) (λj=>[(0,.hold .box (bu {h with Kernel:=dZ k p j})),(1,.hold .one [I (size)]),(5,.hold .one [I ((N:Nat):Int)]),(7,.hold .one [I (p)]),(9,.hold .one [I ((i:Nat):Int)]),(10,.hold .one [I ((j:Nat):Int)])]) (λj=>j<=i) (λj=>i - j) (0) ?_ (R0 _) λj hj=>?_
    ·exact wC
    have c4:=mz {h with Kernel:=dZ k p j} (p+(j:Nat)) (kx g p j);by_cases lj:j<i
    ·repeat'(first|refine gD ?_|(conv=>whnf);first|refine C9 ?_|refine CH (c4) (.inl rfl) ?_)
     ((conv=>whnf);refine CB (j+1) ω ω ?_;(exact wC))
    ·obtain rfl:j=i:=ω
     repeat'(first|refine gD ?_|(conv=>whnf);first|refine C9 ?_)
     refine CE rfl rfl ?_;exact wC
  ·obtain rfl:i=N:=ω
   rw[C8 M];generalize (cL h.Kernel p i).1=k
   repeat'(first|refine gD ?_|(conv=>whnf);first|refine C9 ?_)
   (conv=>whnf)
   refine CD (ι:=Nat) (λm=>[(0,.hold .box (bu {h with Kernel:=k,Free:=J})),(1,.hold .one [I (size)]),(5,.hold .one [I ((i:Nat):Int)]),(7,.hold .one [I (p)]),(11,.hold .one [I ((m:Nat):Int)])]) (λm=>m<=h.Larges.length/\∀(j:Nat)(z:a8),j<m->h.Larges[j]? = some z->MZ p z=false) (λm=>h.Larges.length - m) (0) ?_ (⟨R0 _,λj z hj=>ω⟩) λm hm=>?_
   ·exact wC
   obtain⟨hm',U⟩:=hm;have hl2:({h with Kernel:=k,Free:=J} : ab).Larges.length=h.Larges.length:=rfl;by_cases go:m<h.Larges.length/\(nth h.Larges m).Page<p
   ·have o:=ah go.1
    repeat'(first|refine gD ?_|(conv=>whnf);first|with_reducible refine CA (aa o) ?_|refine C9 ?_|refine CG rfl (aa o) rfl ?_)
    ((conv=>whnf);refine CB (m+1) ⟨ω,cX o (Q0 ω) U⟩ ω ?_;(exact wC))
   ·have w:jx (MZ p) h.Larges=m:=uj ω U λz C=>by
     have hlt:=(V1.1 C).1;have:z=nth h.Larges m:=(bp C).symm;subst this;exact O0 ω
    have o:m<h.Larges.length->h.Larges[m]? = some (nth h.Larges m):=λhh=>ah hh
    rw[uh w]
    repeat'(first|refine gD ?_|(conv=>whnf);first|with_reducible (first|refine CA (aa (o ω)) ?_|refine Bf.D (λhq=>?_) (λhq=>?_))|refine C9 ?_|refine CG rfl (aa (o ω)) rfl ?_|refine DU.mk rfl (yH h.Larges) rfl ?_|refine CT m rfl (by rw[W0];omega) (aR λ_=>rfl) Q3 ?_|refine Sl.suf m rfl (by rw[W0];omega) (aR λ_=>rfl) R3 ?_|refine CQ (λ_=>rfl) (λ_=>rfl) (by rw[I1];omega) (by decide) ?_|refine Ap.sn (aR λ_=>rfl) rfl (by rw[W0,I1];omega) (by decide) rfl ?_|refine Ap.ins (e:=a8.enc .imm) (y:=⟨p,(i:Nat),size⟩) rfl (λ_=>rfl) (λ_=>rfl) ω (by decide) ?_)
    all_goals
     refine CE rfl ?_ ?_
     ·exact T0 (λz=>[I z]) ω
     ·exact wC
theorem BS{k:af}(h:aB k=true)(b:iB k.Refuse):af.wf k:=by
 obtain⟨p,f,g,q,t⟩:=aE.1 h;obtain⟨u,w,y,A⟩:=bg.1 f;obtain⟨i,B,C⟩:=bw.1 g;refine⟨⟨⟨⟨ω,λr b=>?_⟩,⟨ω,λ_ _=>trivial⟩⟩,⟨ω,λe l=>?_⟩⟩,⟨ω,ω⟩,b⟩
 ·obtain⟨j,c,rfl⟩:=aW b
  obtain⟨D,n⟩:=zl h c;exact⟨ω,λv o=>by have:=n v o;exact⟨ω,ω⟩⟩
 ·obtain⟨j,c,rfl⟩:=aW l
  have a:=i j c;unfold jW at a;rw[C0]at a;by_cases d:(nth k.Machine.Table.Entries j).Mode=0
  ·have:=a.2.2.1 d;exact⟨⟨ω,ω⟩,⟨ω,ω⟩⟩
  ·have:=a.2.2.2 d;exact⟨⟨ω,ω⟩,⟨ω,ω⟩⟩
theorem FV{p:cB}(h:eN p=true):cB.wf p:=by
 have a:=λi b=>lC h (i:=i) b
 have e:p.Cells.length<=16:=lB h;unfold eN at h;simp only[I0,C0]at h;exact⟨⟨ω,ω⟩,⟨ω,ω⟩,⟨ω,λv c=>by
   obtain⟨j,d,rfl⟩:=aW c;have:=a j d;exact⟨ω,ω⟩⟩⟩
theorem bn.jobWf{h:ab}{E:List Int}(a:bn h E):cP.wf h.Job/\cP.sml h.Job:=by
 cases b:h.Meshing with
 | true=>
  obtain⟨c,f,g,i,j⟩:=f8.1 (a.job b).1;have k:=lB c;exact⟨⟨FV c,⟨ω,ω⟩,⟨ω,ω⟩⟩,by show h.Job.Plan.Cells.length<=1048576;omega⟩
 | false=>
  have:=a.noj b;unfold qK at this;rw[C0]at this;obtain⟨l,n,e,o,p⟩:=this;refine⟨⟨⟨⟨ω,ω⟩,⟨ω,ω⟩,⟨ω,λv d=>?_⟩⟩,⟨ω,ω⟩,⟨ω,ω⟩⟩,by show h.Job.Plan.Cells.length<=1048576;omega⟩;rw[R5 e]at d;cases d
theorem vF{n:Int}(h:0<=aI n):1<=n/\n<=8:=by
 unfold aI at h
 repeat' split at h
 all_goals omega
theorem iS.wf{h:ab}{E:List Int}(b:bn h E){a c:Int}(d:iS h.Spans a c):lQ a:=by
 have:=d.bd b;exact⟨ω,ω⟩
theorem bn.wf{h:ab}{E:List Int}(d:bn h E)(M:iB h.Kernel.Refuse):ab.wf h:=by
 have q:=d.lens;have r:=d.L;have D:=d.nums;unfold cj at D;rw[C0]at D;obtain⟨X,N,Y⟩:=dY.1 d.rng;obtain⟨O,-,-,Z,q5,-⟩:=iV.1 d.quar;have w:=d.mail;have k:=d.hfl;unfold aC at k;rw[C8 w]at k;unfold bA at w;simp only[I0,C0,cn,fZ,I3,mF,MD]at w;obtain⟨⟨⟨m1,m2,m3⟩,P⟩,m5⟩:=w;have A:=q.free;have Q:=q.spans;have h3:=q.larges;have h4:=q.objs;have h5:=q.caches;have h6:=q.quar;have t:∀n:Nat,bq h.Mail n<=bq h.Mail (n+1):=λn=>by simp only[bq];omega
 have g:∀a b:Nat,a<=b->bq h.Mail a<=bq h.Mail b:=λa b u=>by
  induction u with
  | refl=>exact t4 _
  | step _ R=>exact Int.le_trans R (t _)
 have B:∀n:Nat,0<=bq h.Mail n:=λn=>g 0 n (R0 _)
 have o:∀i,i<h.Mail.Buffers.length->(nth h.Mail.Buffers i).length<=30/\(nth h.Mail.Inbox i).length<=30:=λi f=>by
  have F:=g (i+1) h.Mail.Buffers.length ω;have S:=B i;simp only[bq]at F;omega
 refine⟨BS d.ker M,⟨ω,λx e=>?_⟩,⟨ω,λx e=>?_⟩,⟨ω,λx e=>?_⟩,⟨ω,λx e=>?_⟩,⟨ω,λx e=>?_⟩,⟨⟨ω,λl c=>?_⟩,⟨ω,λl c=>?_⟩⟩,⟨⟨ω,ω⟩,⟨ω,λx e=>?_⟩⟩,⟨ω,ω⟩,⟨ω,ω⟩,⟨ω,ω⟩,⟨ω,ω⟩,trivial,d.jobWf.1⟩
 ·have:=N x e;exact⟨⟨ω,ω⟩,⟨ω,ω⟩⟩
 ·have y:=r.sok x e
  have G:=eI y;have T:=aD y;exact⟨⟨ω,ω⟩,⟨ω,ω⟩,⟨ω,ω⟩⟩
 ·have H:=aN (r.lok x e)
  have J:=bP (r.lok x e);exact⟨⟨ω,ω⟩,⟨ω,ω⟩,⟨ω,ω⟩⟩
 ·obtain⟨o1,o2,o3,o4⟩:=d.onu x e
  have u:0<=x.Addr/\x.Addr<512/\-1000<=x.Size/\x.Size<=1000:=by
   rcases d.oow x e with⟨s,y,A,Q⟩|⟨l,c,F,S⟩
   ·have T:=aD (r.sok s y)
    have:=vF (n:=x.Size) ω;exact⟨by have:=A.1;omega,by have:=A.2.1;omega,ω,ω⟩
   ·have H:=aN (r.lok l c)
    have J:=bP (r.lok l c);omega
  exact⟨⟨ω,ω⟩,⟨ω,ω⟩,⟨ω,ω⟩,⟨ω,ω⟩⟩
 ·obtain⟨c1,U⟩:=q.lists x e
  refine⟨ω,λl c=>⟨by have:=U l c;omega,λa C=>?_⟩⟩;obtain⟨j,V,rfl⟩:=aW c;exact iS.wf d (d.hca x e j V a C)
 ·obtain⟨i,f,rfl⟩:=aW c
  have G:=o i f;refine⟨ω,λp K=>?_⟩;have W:=(P i f).1 p K;exact⟨⟨ω,ω⟩,iS.wf d (k p.Addr (O2.2 (.inl (List.mem_flatMap.2 ⟨_,am f,T3.2 ⟨p,K,rfl⟩⟩))))⟩
 ·obtain⟨i,f,rfl⟩:=aW c
  have G:=o i ω;exact⟨ω,λa C=>iS.wf d (k a (O2.2 (.inr (List.mem_flatten.2 ⟨_,am f,C⟩))))⟩
 ·have H:=O x e
  have J:=d.snc x e;exact⟨iS.wf d (d.hqu x e),⟨ω,ω⟩,⟨ω,ω⟩⟩
structure PZ(h:ab):Prop where
 ker:aB h.Kernel=true
 wf:ab.wf h
 sml:ab.sml h
 lens:LH h
theorem bn.fit{h:ab}{E:List Int}(a:bn h E)(b:iB h.Kernel.Refuse)(c:aK.sml h.Mail):PZ h:=⟨a.ker,a.wf b,a.lens.sml a.ker c a.jobWf.2,a.lens⟩
theorem Eb{h:ab}(b:bn h [])(c:h.Meshing=true):aB (mStep h).Kernel=true/\(mStep h).Kernel.Calls<=h.Kernel.Calls+1/\(mStep h).Kernel.Refuse=h.Kernel.Refuse/\(mStep h).Mail=h.Mail/\(By h=true->(mStep h).Meshing=false)/\cP.wf (mStep h).Job/\cP.sml (mStep h).Job:=by
 have s:=JS.of b c;refine⟨s.ker,s.calls.2.1,s.calls.2.2,rfl,λa=>?_,?_⟩
 ·unfold By at a
  rw[C0]at a;show(if over _=true then false else h.Meshing)=false;rw[C8 (show over (jd h.Kernel h.Job).2=true from O0 (.inl a))]
 ·show cP.wf (if over _=true then _ else _)/\cP.sml (if over _=true then _ else _)
  split
  ·exact⟨⟨⟨⟨by decide,by decide⟩,⟨by decide,by decide⟩,⟨by decide,λv f=>by cases f⟩⟩,⟨by decide,by decide⟩,⟨by decide,by decide⟩⟩,by show(0:Nat)<=1048576;omega⟩
  ·have d:=(f8.1 (b.job c).1).1
   have g:=lB d;obtain⟨j,k⟩:=s.ph;obtain⟨l,i⟩:=s.nxt;have e:=s.plan;refine⟨⟨by rw[e];exact FV d,⟨ω,ω⟩,⟨ω,by rw[e]at i;omega⟩⟩,by show((jd h.Kernel h.Job).2.Plan.Cells).length<=1048576;rw[e];omega⟩
def tY(h:ab):Nat->ab × Bool
 | 0=>(h,false)
 | i+1=>if(tY h i).1.Meshing=true then(mStep (tY h i).1,By (tY h i).1) else tY h i
def fin(h:ab):ab × Bool:=tY h 100
theorem BF{h:ab}(g:bn h []):bn (started h).1 []/\(started h).1.Kernel=h.Kernel/\(started h).1.Mail=h.Mail:=by
 have t:=g.nums;unfold cj at t;rw[C0]at t;have u:=(lO (bL h).length (show 0<=h.Seed/\h.Seed<=1073741823 by omega) ((bL h).length - 1)).2;have j:=qd (bL h) (show 0<=h.Seed/\h.Seed<=1073741823 by omega);have c:cj {h with Seed:=(shuf (bL h).length h.Seed).2} = true:=by
  unfold cj;rw[C0];unfold shuf;simp only;omega
 cases k:mj (bL h) h.Seed with
 | nil=>
  have f:Ab.started h=({h with Seed:=(shuf (bL h).length h.Seed).2},false):=by unfold Ab.started;rw[k]
  rw[f];exact⟨{g with nums:=c},rfl,rfl⟩
 | cons q C=>
  obtain⟨D,E,l⟩:=j q (by rw[k];exact O1 ..);have f:Ab.started h=({h with Seed:=(shuf (bL h).length h.Seed).2,Meshing:=true,Job:=vS (dD (nth (bL h) q.A.toNat) (nth (bL h) q.B.toNat))},true):=by unfold Ab.started;rw[k]
  rw[f];have d:∀s∈bL h,s∈h.Spans:=λs w=>oG h (Q2 _) s (List.mem_of_mem_take w)
  have n:=d _ (am (xs:=bL h) (i:=q.A.toNat) ω);have o:=d _ (am (xs:=bL h) (i:=q.B.toNat) ω);generalize nth (bL h) q.A.toNat=a at l n |-;generalize nth (bL h) q.B.toNat=b at l o |-;obtain⟨y,F,G⟩:=rz l;have p:jh (vS (dD a b))=true:=f8.2 ⟨y,by show(0:Int)<=0;omega,by show(0:Int)<=5;omega,by show(0:Int)<=0;omega,by show(0:Int)<=(((dD a b).Cells.length:Nat):Int);omega⟩;have r:(∃s∈h.Spans,s.Page=(dD a b).Keep)/\∃s∈h.Spans,s.Page=(dD a b).Move:=by
   unfold dD;split
   ·exact⟨⟨b,o,rfl⟩,⟨a,n,rfl⟩⟩
   ·exact⟨⟨a,n,rfl⟩,⟨b,o,rfl⟩⟩
  exact⟨{g with nums:=c,job:=λ_=>⟨p,r⟩,noj:=λe=>by cases e},rfl,rfl⟩
theorem bn.objSz{h:ab}{E:List Int}(a:bn h E):∀o∈h.Objs,0<=o.Size/\o.Size<=1000:=λx c=>by
 rcases a.oow x c with⟨s,d,e,f⟩|⟨l,b,g,i⟩
 ·have j:=aD (a.L.sok s d)
  have:=vF (n:=x.Size) ω;omega
 ·have k:=bP (a.L.lok l b)
  omega
theorem G1{h:ab}(t:Int){size:Int}(c:bn h [])(d:9<=size/\size<=1000):pu h t size=if(HI h size).2<0 then((HI h size).1,-1,4) else(addO (HI h size).1 (HI h size).2 size t,(HI h size).2,0):=by
 unfold pu HI;by_cases a:(ay h.Free (l7 size:Nat)).2.2=false
 ·rw[C8 a,C8 a]
  exact(C8 (show(-1:Int)<0 by decide)).symm
 ·rw[C7 a,C7 a]
  obtain⟨e,-⟩:=kL c (show(1:Int)<=(l7 size:Nat) by unfold l7;omega) (by simpa using a);by_cases b:(iH h size).2=l7 size
  ·rw[C8 b,C8 b]
   exact(C7 (show ¬16*(ay h.Free (l7 size:Nat)).2.1<0 by omega)).symm
  ·rw[C7 b,C7 b]
   exact(C8 (show(-1:Int)<0 by decide)).symm
theorem xv(h:ab)(t size:Int)(k:bn h []):aS Tryz.prog 143 false [.ptr (bu h),.val none [I t],.val none [I size]] [.ptr (bu (gq h t size).1),.val none [I t],.val none [I size]] (.tup [none,none]) [I (gq h t size).2.1,I (gq h t size).2.2]:=by
 have X:=k.lens;have hlc:=X.caches;have P:=X.objs;have p:=k.nums;unfold cj at p;rw[C0]at p;have Q:=sF k.objSz h.Objs.length (Q2 _);change 0<=wQ h/\wQ h<=_ at Q;have n:=aG t 0 ((h.Caches.length:Int) - 1);have r:=aG size 1 1000;have E:=uZ h k.objSz ω;have F:=jD size;refine fM 119 [(234,[2,0,0]),(235,[2,0])] [(7,10,[36,37,38,39,40,41,42,43,44,45]),(18,272,[81,82,83,84,85,86,87,89,90,91,92,93,94,95,96,97,0,1,2,3,4,5,6,8,9,10,11,12,13,14,15,16,1016,7,1008,1009,1010,1011,1012,1013,1014,1015,1016,17,18]),(1048594,0,[8])] [(0,0),(0,0),(0,0)] Tryz.func143 rfl (λu q=>?_) (.inr ⟨trivial,trivial,trivial⟩);unfold gq;by_cases h1:1000000<=h.Next
 ·rw[C8 (.inl h1)]
  repeat'(first|refine gD ?_|(conv=>whnf);first|refine C9 ?_)
  refine CE rfl rfl ?_;exact wC
 by_cases h2:90000<h.Kernel.Calls
 ·rw[C8 (.inr h2)]
  repeat'(first|refine gD ?_|(conv=>whnf);first|with_reducible refine Bf.D (λb=>?_) (λb=>?_)|refine C9 ?_)
  refine CE rfl rfl ?_;exact wC
 rw[C7 ω];by_cases C:¬(0<=t/\t<=h.Caches.length - 1)
 ·rw[C8 C]
  rw[Q0 C]at n
  repeat'(first|refine gD ?_|(conv=>whnf);first|with_reducible refine Bf.D (λb=>?_) (λb=>?_)|refine C9 ?_|refine C6 (n) ?_)
  refine CE rfl rfl ?_;exact wC
 rw[C7 C];replace C:=Decidable.not_not.1 C;rw[O0 C]at n;by_cases B:¬(1<=size/\size<=1000)
 ·rw[C8 B]
  rw[Q0 B]at r
  repeat'(first|refine gD ?_|(conv=>whnf);first|with_reducible refine Bf.D (λb=>?_) (λb=>?_)|refine C9 ?_|refine C6 (n) ?_|refine C6 (r) ?_)
  refine CE rfl rfl ?_;exact wC
 rw[C7 B];replace B:=Decidable.not_not.1 B;rw[O0 B]at r;by_cases Y:h.Limit<wQ h+size
 ·rw[C8 Y]
  repeat'(first|refine gD ?_|(conv=>whnf);first|with_reducible refine Bf.D (λb=>?_) (λb=>?_)|refine C9 ?_|refine C6 (n) ?_|refine C6 (r) ?_|refine CF (E) ⟨⟨rfl,bz h⟩,trivial⟩ ?_|refine C9 ?_)
  refine CE rfl rfl ?_;exact wC
 rw[C7 Y];by_cases G:0<=aI size
 ·rw[C8 G]
  have hc3:aI size<=3:=by unfold aI;repeat' split<;>omega
  obtain⟨T,rfl⟩:=I2 C.1;obtain⟨K,hK⟩:=I2 G;have o:=xH h T K k ω ω ω;have s:=yA (t:=T) (c:=K) k ω ω ω;rw[hK]at F |-;simp only[C2];generalize gr h T K=w at o s |-;obtain⟨g,a⟩:=w;have H:g.Next=h.Next:=s.nx;simp only at o |-;by_cases J:a<0
  ·rw[C8 J]
   repeat'(first|refine gD ?_|(conv=>whnf);first|with_reducible refine Bf.D (λb=>?_) (λb=>?_)|refine C9 ?_|refine C6 (n) ?_|refine C6 (r) ?_|refine CF (E) ⟨⟨rfl,bz h⟩,trivial⟩ ?_|refine C9 ?_|refine C6 (F) ?_|refine CH (o) (.inl rfl) ?_)
   refine CE rfl rfl ?_;exact wC
  ·rw[C7 J]
   obtain⟨k1,k2⟩:=s.yes (show(0:Int)<=a by omega);have R:g.Objs.length<=512:=k1.lens.objs
   repeat'(first|refine gD ?_|(conv=>whnf);first|with_reducible refine Bf.D (λb=>?_) (λb=>?_)|refine C9 ?_|refine C6 (n) ?_|refine C6 (r) ?_|refine CF (E) ⟨⟨rfl,bz h⟩,trivial⟩ ?_|refine C9 ?_|refine C6 (F) ?_|refine CH (o) (.inl rfl) ?_)
   (conv=>whnf)
   refine CD (ι:=Nat) (λi=>[(0,.hold .box (bu g)),(1,.hold .one [I ((T:Nat):Int)]),(2,.hold .one [I (size)]),(8,.hold .one [I (a)]),(9,.hold .one [I ((i:Nat):Int)])]) (λi=>i<=g.Objs.length/\∀(j:Nat)(z:bx),j<i->g.Objs[j]? = some z->Lo a z=false) (λi=>g.Objs.length - i) (0) ?_ (⟨R0 _,λj z hj=>ω⟩) λi k=>?_
   ·exact wC
   obtain⟨S,L⟩:=k;by_cases U:i<g.Objs.length/\(nth g.Objs i).Addr<a
   ·have d:=ah U.1
    repeat'(first|refine gD ?_|(conv=>whnf);first|with_reducible refine CA (aa d) ?_|refine C9 ?_|refine CG rfl (aa d) rfl ?_)
    ((conv=>whnf);refine CB (i+1) ⟨ω,cX d (Q0 ω) L⟩ ω ?_;(exact wC))
   ·have l:jx (Lo a) g.Objs=i:=uj ω L λz M=>by
     have V:=(V1.1 M).1;have:z=nth g.Objs i:=(bp M).symm;subst this;exact O0 ω
    have d:i<g.Objs.length->g.Objs[i]? = some (nth g.Objs i):=λW=>ah W
    rw[show addO g a size (T:Nat) = {g with Objs:=g.Objs.take i++⟨g.Next,a,size,(T:Nat)⟩::g.Objs.drop i,Next:=g.Next+1} by unfold addO;rw[uh l]]
    repeat'(first|refine gD ?_|(conv=>whnf);first|with_reducible (first|refine CA (aa (d ω)) ?_|refine Bf.D (λb=>?_) (λb=>?_))|refine C9 ?_|refine CG rfl (aa (d ω)) rfl ?_|refine DU.mk rfl (zF g.Objs) rfl ?_|refine CT i rfl (by rw[W0];omega) (aR λ_=>rfl) Q3 ?_|refine Sl.suf i rfl (by rw[W0];omega) (aR λ_=>rfl) R3 ?_|refine CQ (λ_=>rfl) (λ_=>rfl) (by rw[I1];omega) (by decide) ?_|refine Ap.sn (aR λ_=>rfl) rfl (by rw[W0,I1];omega) (by decide) rfl ?_|refine Ap.ins (e:=bx.enc .imm) (y:=⟨g.Next,a,size,(T:Nat)⟩) rfl (λ_=>rfl) (λ_=>rfl) ω (by decide) ?_|refine C9 ?_)
    all_goals
     refine CE rfl rfl ?_;exact wC
 ·rw[C7 G]
  have N:9<=size:=by unfold aI at G;repeat' split at G<;>omega
  have o:=x3 h size k ⟨N,B.2⟩ ω;rw[G1 t k ⟨N,B.2⟩];have Z:(HI h size).1.Next=h.Next/\(HI h size).1.Objs=h.Objs:=by
   unfold HI;split
   ·exact⟨rfl,rfl⟩
   ·split<;>exact⟨rfl,rfl⟩
  generalize HI h size=w at o Z |-;obtain⟨g,a⟩:=w;obtain⟨H,O⟩:=Z;simp only at o H O |-;have R:g.Objs.length<=512:=by rw[O];exact P
  by_cases J:a<0
  ·rw[C8 J]
   repeat'(first|refine gD ?_|(conv=>whnf);first|with_reducible refine Bf.D (λb=>?_) (λb=>?_)|refine C9 ?_|refine C6 (n) ?_|refine C6 (r) ?_|refine CF (E) ⟨⟨rfl,bz h⟩,trivial⟩ ?_|refine C9 ?_|refine C6 (F) ?_|refine CH (o) (.inl rfl) ?_)
   refine CE rfl rfl ?_;exact wC
  ·rw[C7 J]
   repeat'(first|refine gD ?_|(conv=>whnf);first|with_reducible refine Bf.D (λb=>?_) (λb=>?_)|refine C9 ?_|refine C6 (n) ?_|refine C6 (r) ?_|refine CF (E) ⟨⟨rfl,bz h⟩,trivial⟩ ?_|refine C9 ?_|refine C6 (F) ?_|refine CH (o) (.inl rfl) ?_)
   (conv=>whnf)
   refine CD (ι:=Nat) (λi=>[(0,.hold .box (bu g)),(1,.hold .one [I (t)]),(2,.hold .one [I (size)]),(8,.hold .one [I (a)]),(9,.hold .one [I ((i:Nat):Int)])]) (λi=>i<=g.Objs.length/\∀(j:Nat)(z:bx),j<i->g.Objs[j]? = some z->Lo a z=false) (λi=>g.Objs.length - i) (0) ?_ (⟨R0 _,λj z hj=>ω⟩) λi k=>?_
   ·exact wC
   obtain⟨S,L⟩:=k;by_cases U:i<g.Objs.length/\(nth g.Objs i).Addr<a
   ·have d:=ah U.1
    repeat'(first|refine gD ?_|(conv=>whnf);first|with_reducible refine CA (aa d) ?_|refine C9 ?_|refine CG rfl (aa d) rfl ?_)
    ((conv=>whnf);refine CB (i+1) ⟨ω,cX d (Q0 ω) L⟩ ω ?_;(exact wC))
   ·have l:jx (Lo a) g.Objs=i:=uj ω L λz M=>by
     have V:=(V1.1 M).1;have:z=nth g.Objs i:=(bp M).symm;subst this;exact O0 ω
    have d:i<g.Objs.length->g.Objs[i]? = some (nth g.Objs i):=λW=>ah W
    rw[show addO g a size t = {g with Objs:=g.Objs.take i++⟨g.Next,a,size,t⟩::g.Objs.drop i,Next:=g.Next+1} by unfold addO;rw[uh l]]
    repeat'(first|refine gD ?_|(conv=>whnf);first|with_reducible (first|refine CA (aa (d ω)) ?_|refine Bf.D (λb=>?_) (λb=>?_))|refine C9 ?_|refine CG rfl (aa (d ω)) rfl ?_|refine DU.mk rfl (zF g.Objs) rfl ?_|refine CT i rfl (by rw[W0];omega) (aR λ_=>rfl) Q3 ?_|refine Sl.suf i rfl (by rw[W0];omega) (aR λ_=>rfl) R3 ?_|refine CQ (λ_=>rfl) (λ_=>rfl) (by rw[I1];omega) (by decide) ?_|refine Ap.sn (aR λ_=>rfl) rfl (by rw[W0,I1];omega) (by decide) rfl ?_|refine Ap.ins (e:=bx.enc .imm) (y:=⟨g.Next,a,size,t⟩) rfl (λ_=>rfl) (λ_=>rfl) ω (by decide) ?_|refine C9 ?_)
    all_goals
     refine CE rfl rfl ?_;exact wC
theorem Er(h:ab)(a n:Int)(t:h.Larges.length<=4096)(j:∀l∈h.Larges,bO l=true)(o:x5 h a<0):aS Tryz.prog 358 false [.ptr (bu h),.val none [I a],.val none [I n]] [.ptr (bu h),.val none [I a],.val none [I n]] .one [B false]:=by
 have b:∀l∈h.Larges,l.Page*16≠a:=λl c e=>by
  have:=Do (p:=Ga a) c (O0 e);unfold x5 at o;omega
 refine fM 136 [(297,[2,0])] [(8,6,[49,50,51,52,53,54]),(9,10,[56,57,58,59,60,61,62,63,64,65]),(20,270,[123,124,125,126,127,128,129,130,131,122,132,133,134,135,0,1,2,3,4,5,6,7,8,9,10,11,12,13,14,1011])] [(0,0),(0,0),(0,0)] Tryz.func358 rfl (λu q=>?_)
 repeat'(first|refine gO ?_|(conv=>whnf);first|refine C9 ?_)
 (conv=>whnf)
 refine CD (ι:=Nat) (λk=>[(0,.hold .box (bu h)),(1,.hold .one [I (a)]),(2,.hold .one [I (n)]),(7,.hold .one [I ((k:Nat):Int)])]) (λk=>k<=h.Larges.length) (λk=>h.Larges.length - k) (0) ?_ (R0 _) λk w=>?_
 ·repeat'(first|exact trivial|rfl |exact nS r|exact nS g|exact dX _|refine CI ?_ ?_|(exact Dy (by first|omega|(simp only;omega)|(simp;omega))))
 by_cases d:k<h.Larges.length
 ·have i:=ah d
  have y:=b _ (am d);have C:=aN (j _ (am d))
  repeat'(first|refine gA ?_|(conv=>whnf);first|with_reducible refine CA (aa i) ?_|refine C9 ?_|refine CG rfl (aa i) rfl ?_)
  ((conv=>whnf);refine CB (k+1) ω ω ?_;(exact wC))
 ·repeat'(first|refine gD ?_|(conv=>whnf);first|refine C9 ?_)
  refine CE rfl rfl ?_;exact wC
theorem N4(h:ab)(a:Int)(m:Nat):bu {h with Kernel:=zK h.Kernel a (m+1)} = (bu {h with Kernel:=zK h.Kernel a m}).set 0 (.s .own (((zK h.Kernel a m).Machine.Frames.Cells.map (aF .own)).set (ar (zK h.Kernel a m).Machine.Table ((a+m) / 16)).Frame.toNat ((aF .own (nth (zK h.Kernel a m).Machine.Frames.Cells (fQ (zK h.Kernel a m) (a+m)))).set 0 (.s .own (((nth (zK h.Kernel a m).Machine.Frames.Cells (fQ (zK h.Kernel a m) (a+m))).map (rI .own)).set ((a+m) % 16).toNat (splice (rI .own (nth (nth (zK h.Kernel a m).Machine.Frames.Cells (fQ (zK h.Kernel a m) (a+m))) ((a+m) % 16).toNat)) 0 [I 0])))))):=
 Gc {h with Kernel:=zK h.Kernel a m} (a+m) 0
def ku(h:ab)(i k:Nat)(n:Int)(K:af):ab:={h with Kernel:=K,Larges:=h.Larges.set k (trimL (nth h.Larges k) n),Objs:=h.Objs.set i {nth h.Objs i with Size:=n}}
theorem Hc(h:ab)(i k:Nat)(n:Int)(K:af):(ku h i k n K).Objs.map (bx.enc .own)=(h.Objs.map (bx.enc .own)).set i (splice (bx.enc .own (nth h.Objs i)) 2 [I n]):=by
 simp[ku,W4,bx.enc,splice]
theorem qz(h:ab)(i:Nat)(n:Int)(j:bn h [])(H:i<h.Objs.length)(hg:0<=x5 h (nth h.Objs i).Addr):aS Tryz.prog 358 false [.ptr (bu h),.val none [I (nth h.Objs i).Addr],.val none [I n]] [.ptr (bu (if kA h i n then trimH h i (x5 h (nth h.Objs i).Addr).toNat n else h)),.val none [I (nth h.Objs i).Addr],.val none [I n]] .one [B (decide (kA h i n))]:=by
 have c:=j.lens;have hnl:=c.larges;have hno:=c.objs;have hpg:dK h<=32:=c.ents;obtain⟨f1,f2,f3⟩:=fU (Ga (nth h.Objs i).Addr) h.Larges hg;obtain⟨g,o⟩:=I2 hg;have b:g<h.Larges.length:=by unfold x5 at o;omega
 have Y:(nth h.Larges g).Page*16=(nth h.Objs i).Addr:=by
  have:=of_decide_eq_true f2;rw[show(df (Ga (nth h.Objs i).Addr) h.Larges).toNat=g by unfold x5 at o;omega]at this;exact this
 have J:∀k,k<g->(nth h.Larges k).Page*16≠(nth h.Objs i).Addr:=λk hk e=>by
  have N:k<h.Larges.length:=ω
  have hok1:=aN (j.L.lok _ (am N));have hok2:=aN (j.L.lok _ (am b));have:=j.L.one k g N b 0 0 ω ω ω;omega
 have p:kA h i n↔9<=n/\n<=(nth h.Larges g).Size:=by
  unfold kA;rw[o,C2];exact⟨λx=>x.2,λx=>⟨ω,x⟩⟩
 rw[o,C2];have hbd:=rA j (am H);obtain⟨-,Z,w⟩:=j.objAt (am H);have hii:nE h (nth h.Objs i).Addr=i:=by
  have h2:=(j.objAt (am H)).1;exact gH (f:=(·.Addr)) (gP j.osr) h2 H (by rw[Z])
 rw[hii]at w;have E:=ah H;have hxg:=ah b;have V:=wi (nth h.Larges g) n (j.L.lok _ (am b));have h8:=j.L.lok _ (am b);unfold bO at h8;rw[C0]at h8;refine fM 136 [(297,[2,0])] [(8,6,[49,50,51,52,53,54]),(9,10,[56,57,58,59,60,61,62,63,64,65]),(20,270,[123,124,125,126,127,128,129,130,131,122,132,133,134,135,0,1,2,3,4,5,6,7,8,9,10,11,12,13,14,1011])] [(0,0),(0,0),(0,0)] Tryz.func358 rfl (λu q=>?_)
 repeat'(first|refine gO ?_|(conv=>whnf);first|refine C9 ?_)
 (conv=>whnf)
 refine CD (ι:=Nat) (λk=>[(0,.hold .box (bu h)),(1,.hold .one [I ((nth h.Objs i).Addr)]),(2,.hold .one [I (n)]),(7,.hold .one [I ((k:Nat):Int)])]) (λk=>k<=g) (λk=>g - k) (0) ?_ (R0 _) λk hk=>?_
 ·repeat'(first|exact trivial|rfl |exact nS r|exact nS d|exact dX _|refine CI ?_ ?_|(exact Dy (by first|omega|(simp only;omega)|(simp;omega))))
 have l:=ah (xs:=h.Larges) (i:=k) ω;have hfk:=aN (j.L.lok _ (am (xs:=h.Larges) (i:=k) ω));by_cases e:k=g;rotate_left
 ·have hne:=J k ω
  repeat'(first|refine gA ?_|(conv=>whnf);first|with_reducible refine CA (aa l) ?_|refine C9 ?_|refine CG rfl (aa l) rfl ?_)
  ((conv=>whnf);refine CB (k+1) ω ω ?_;(exact wC))
 subst e;by_cases F:9<=n/\n<=(nth h.Larges k).Size;rotate_left
 ·rw[C7 (by rw[p];exact F),Q0 (by rw[p];exact F)]
  rw[C7 F]at V
  repeat'(first|refine gA ?_|(conv=>whnf);first|with_reducible refine CA (aa l) ?_|refine C9 ?_|refine CG rfl (aa l) rfl ?_|refine C6 (V) ?_)
  refine CE rfl rfl ?_;exact wC
 rw[C8 (by rw[p];exact F),O0 (by rw[p];exact F)];rw[C8 F]at V;have y:=λm hm=>AU j b F (m:=m) hm
 have D:=λm=>(vY h.Kernel (16*(nth h.Larges k).Page+n) m).1
 have O:=λa W=>nk j b (a:=a) W
 have hsz:n<=16*(nth h.Larges k).Pages:=ω
 generalize hM:(16*((n+15) / 16) - n).toNat=M at *;have hfl:∀m,(zK h.Kernel (16*(nth h.Larges k).Page+n) m).Machine.Frames.Cells.length=h.Kernel.Machine.Frames.Cells.length:=λm=>by
  induction m with
  | zero=>rfl
  | succ m ih=>show(List.set _ _ _).length=_;rw[C1];exact ih
 have cO:=p7 {h with Larges:=h.Larges.set k (trimL (nth h.Larges k) n)} (nth h.Objs i).Addr (by show h.Objs.length<=_;omega);change ao _ _ _ [.val (some 24) (ab.enc .imm {h with Larges:=h.Larges.set k (trimL (nth h.Larges k) n)}),_] _ [I (df (kV (nth h.Objs i).Addr) h.Objs)]at cO;rw[w]at cO;have Q:=bz {h with Larges:=h.Larges.set k (trimL (nth h.Larges k) n)};have heL:bu {h with Larges:=h.Larges.set k (trimL (nth h.Larges k) n)} = (bu h).set 7 (.s .own ((h.Larges.map (a8.enc .own)).set k (a8.enc .own (trimL (nth h.Larges k) n)))):=by simp[bu,W4]
 rw[heL]at Q
 repeat'(first|refine gA ?_|(conv=>whnf);first|with_reducible (first|refine CA (aa l) ?_|refine CA (aa E) ?_)|refine C9 ?_|refine CG rfl (aa l) rfl ?_|refine C6 (V) ?_|refine CM rfl rfl (aa l) rfl (X0 rfl) rfl ?_|refine CF (cO) ⟨⟨rfl,Q⟩,⟨rfl,rfl⟩,trivial⟩ ?_|refine CM rfl rfl (aa E) rfl (X0 rfl) rfl ?_|refine CG rfl (aa E) rfl ?_|refine C9 ?_)
 rw[<-Y];have e0:ku h i k n h.Kernel=ku h i k n (zK h.Kernel (16*(nth h.Larges k).Page+n) 0):=rfl;have r:C.s .own ((ku h i k n (zK h.Kernel (16*(nth h.Larges k).Page+n) 0)).Larges.map (a8.enc .own))=C.s .own ((h.Larges.map (a8.enc .own)).set k (a8.enc .own (trimL (nth h.Larges k) n))):=by simp[ku,W4]
 have d:C.s .own ((ku h i k n (zK h.Kernel (16*(nth h.Larges k).Page+n) 0)).Objs.map (bx.enc .own))=C.s .own ((h.Objs.map (bx.enc .own)).set i (splice (bx.enc .own (nth h.Objs i)) 2 [I n])):=T0 _ (Hc h i k n _)
 (conv=>whnf)
 refine CD (ι:=Nat) (λm=>[(0,.hold .box (bu (ku h i k n (zK h.Kernel (16*(nth h.Larges k).Page+n) m)))),(1,.hold .one [I (((nth h.Larges k).Page*16))]),(8,.hold .box (a8.enc .own (trimL (nth h.Larges k) n))),(9,.hold .box (a7.enc .own (wh (nth h.Larges k) n))),(11,.hold .one [I (((16*(nth h.Larges k).Page+n)+(m:Nat)))])]) (λm=>m<=M) (λm=>M - m) (0) ?_ (R0 _) λm hm=>?_
 ·repeat'(first|exact trivial|rfl |exact nS r|exact nS d|exact dX _|refine CI ?_ ?_|(exact Dy (by first|omega|(simp only;omega)|(simp;omega))))
 have hmod:IntKind.i64.wrap 0=0:=rfl;by_cases lm:m<M
 ·have W:0<=(16*(nth h.Larges k).Page+n)+(m:Nat)/\(16*(nth h.Larges k).Page+n)+(m:Nat)<512:=ω
  have R:=O ((16*(nth h.Larges k).Page+n)+(m:Nat)) ω;have t:=y m hm;rw[<-D m]at R;have hks:=bG t;have c2:=cQ (zK h.Kernel (16*(nth h.Larges k).Page+n) m).Machine.Table (((16*(nth h.Larges k).Page+n)+(m:Nat)) / 16) hks.1.2;obtain⟨-,-,-,q0,q1⟩:=cA t R;have hul:=(bg.1 (aE.1 t).2.1).2.2.1;have S:fQ (zK h.Kernel (16*(nth h.Larges k).Page+n) m) ((16*(nth h.Larges k).Page+n)+(m:Nat))<(zK h.Kernel (16*(nth h.Larges k).Page+n) m).Machine.Frames.Cells.length:=by unfold fQ;omega
  have G:(zK h.Kernel (16*(nth h.Larges k).Page+n) m).Machine.Frames.Cells[(ar (zK h.Kernel (16*(nth h.Larges k).Page+n) m).Machine.Table (((16*(nth h.Larges k).Page+n)+(m:Nat)) / 16)).Frame.toNat]? = some _:=ah S;have h16:=(zl t S).1;have T:=ah (xs:=nth (zK h.Kernel (16*(nth h.Larges k).Page+n) m).Machine.Frames.Cells (fQ (zK h.Kernel (16*(nth h.Larges k).Page+n) m) ((16*(nth h.Larges k).Page+n)+(m:Nat)))) (i:=(((16*(nth h.Larges k).Page+n)+(m:Nat)) % 16).toNat) (by rw[h16];omega);have htm:((16*(nth h.Larges k).Page+n)+(m:Nat)).tmod 16=((16*(nth h.Larges k).Page+n)+(m:Nat)) % 16:=fK W.1;have hpu:=N4 (ku h i k n h.Kernel) (16*(nth h.Larges k).Page+n) m;have hwr:=pm W;have hst:(trimL (nth h.Larges k) n).Pages=(n+15) / 16:=rfl
  repeat'(first|refine gD ?_|(conv=>whnf);first|refine C9 ?_|refine CL (by decide) ?_|refine CJ hwr ?_|refine CR htm ?_|refine CF (c2) ⟨⟨rfl,CV _⟩,⟨rfl,rfl⟩,trivial⟩ ?_|refine CK q0 (aa G) ?_|refine CG rfl (aa G) rfl ?_|refine CK ω (aa T) ?_|refine Pu.two rfl rfl (aa G) rfl rfl rfl (aa T) rfl (Q2 _) hpu ?_)
  ((conv=>whnf);refine CB (m+1) ω ω ?_;(exact wC))
 obtain rfl:m=M:=ω
 have hst:(trimL (nth h.Larges k) n).Pages=(n+15) / 16:=rfl;have hkM:=y m (Q2 _);have U:(zK h.Kernel (16*(nth h.Larges k).Page+n) m).Machine.Table.Entries.length=dK h:=by rw[D];rfl
 have hTK:tl h k n=zK h.Kernel (16*(nth h.Larges k).Page+n) m:=by unfold tl;rw[hM]
 unfold trimH Fw;rw[hTK];generalize zK h.Kernel (16*(nth h.Larges k).Page+n) m=K at *;have hN:((dG (nth h.Larges k) n:Nat):Int)=(nth h.Larges k).Pages - (n+15) / 16:=by unfold dG;omega
 have hrA:0<dG (nth h.Larges k) n->wh (nth h.Larges k) n = ⟨(nth h.Larges k).Page+(n+15) / 16,(dG (nth h.Larges k) n:Nat)⟩:=λhp=>by unfold wh;rw[C8 ω,hN]
 have hrB:¬0<dG (nth h.Larges k) n->wh (nth h.Larges k) n = ⟨0,0⟩:=λhp=>by unfold wh;rw[C7 ω]
 generalize dG (nth h.Larges k) n=P at *;by_cases X:0<P
 ·rw[C8 X]
  have hr:=hrA X;rw[hr]
  repeat'(first|refine gD ?_|(conv=>whnf);first|refine C9 ?_)
  (conv=>whnf)
  refine CD (ι:=Nat) (λx=>[(0,.hold .box (bu (ku h i k n (dZ K ((nth h.Larges k).Page+(n+15) / 16) x)))),(9,.hold .box ([I ((nth h.Larges k).Page+(n+15) / 16),I (P:Nat)])),(13,.hold .one [I (((nth h.Larges k).Page+(n+15) / 16+(x:Nat)))])]) (λx=>x<=P) (λx=>P - x) (0) ?_ (R0 _) λx l=>?_
  ·repeat'(first|exact trivial|rfl |exact nS r|exact nS d|exact dX _|refine CI ?_ ?_|(exact Dy (by first|omega|(simp only;omega)|(simp;omega))))
  by_cases lx:x<P
  ·have c3:=mz (ku h i k n (dZ K ((nth h.Larges k).Page+(n+15) / 16) x)) ((nth h.Larges k).Page+(n+15) / 16+(x:Nat)) (kx hkM _ _)
   repeat'(first|refine gD ?_|(conv=>whnf);first|refine C9 ?_|refine CH (c3) (.inl rfl) ?_)
   ((conv=>whnf);refine CB (x+1) ω ω ?_;(exact wC))
  ·obtain rfl:x=P:=ω
   have c4:=g9 (ku h i k n (dZ K ((nth h.Larges k).Page+(n+15) / 16) x));rw[show dK (ku h i k n (dZ K ((nth h.Larges k).Page+(n+15) / 16) x))=dK h from(im _ _ _).1.trans U]at c4;have c5:=kX (dK h:Nat) h.Free ⟨(nth h.Larges k).Page+(n+15) / 16,(x:Nat)⟩ ⟨ω,ω⟩ ⟨by have:=c.free;omega,λ_ _=>trivial⟩
   repeat'(first|refine gD ?_|(conv=>whnf);first|refine C9 ?_|refine CF (c4) ⟨bz _,trivial⟩ ?_|refine CF (c5) ⟨⟨rfl,rfl⟩,⟨rfl,d7 h.Free⟩,⟨rfl,rfl⟩,trivial⟩ ?_|refine C9 ?_)
   refine CE rfl rfl ?_;exact wC
 ·rw[C7 X]
  obtain rfl:P=0:=ω
  have hr:=hrB X;rw[hr]
  repeat'(first|refine gD ?_|(conv=>whnf);first|refine C9 ?_)
  (conv=>whnf)
  refine CD (ι:=Nat) (λx=>[(0,.hold .box (bu (ku h i k n K))),(9,.hold .box ([I 0,I 0])),(13,.hold .one [I (0)])]) (λx=>x=0) (λx=>0) (0) ?_ (rfl) λx l=>?_
  ·repeat'(first|exact trivial|rfl |exact nS r|exact nS d|exact dX _|refine CI ?_ ?_|(exact Dy (by first|omega|(simp only;omega)|(simp;omega))))
  subst l
  repeat'(first|refine gD ?_|(conv=>whnf);first|refine C9 ?_)
  refine CE rfl rfl ?_;exact wC
theorem AF{α:Type}(a:α)(k:Nat):List.replicate (k+1) a=List.replicate k a++[a]:=List.replicate_succ' ..
theorem Ea(n k:Nat):aU.enc .own ⟨List.replicate k (List.replicate 16 0),List.replicate n false⟩ = [.s .own (List.replicate k [.s .own (List.replicate 16 [I 0])]),.s .own (List.replicate n [B false])]:=by
 simp[aU.enc,aF,rI,rB,List.map_replicate]
theorem F5(n:Nat):J9 [.s .own (List.replicate n [.z]),.s .own (List.replicate n [.z]),B true] (aK.enc .own (dA n)++[B true]):=by
 have e:aK.enc .own (dA n)++[B true]=[.s .own (List.replicate n [.s .own []]),.s .own (List.replicate n [.s .own []]),B true]:=by simp[aK.enc,dA,cZ,aF,List.map_replicate]
 rw[e];exact .cons (.rep (.cons .z_ .nil)) (.cons (.rep (.cons .z_ .nil)) (.cons (.rfl_ _) .nil))
theorem LE(n:Nat)(b:1<=n/\n<=4):ao Tryz.prog 94 false [.val none [I (n:Nat)]] (.tup [some 2,none]) (aK.enc .own (dA n)++[B true]):=by
 have a:=aM ((n:Nat):Int) 1 4;rw[O0 ω]at a;refine fO 13 [(3,4,[8,9,10,11])] Tryz.func94 rfl ?_ (.inr (aZ (aK.enc_fr _) ⟨trivial,trivial⟩))
 repeat'((conv=>whnf);first|with_reducible (first|refine Lm ?_|refine Wm ω ?_|refine Bn ?_|refine jt.dk rfl ?_)|refine Bt ?_|refine Bu ?_|refine C9 ?_|refine C6 (a) ?_|refine Mk.mk n rfl rfl ω (wT ω (by decide)) rfl ?_)
 exact F5 n
theorem zy(n:Nat)(b:1<=n/\n<=4):ao Tryz.prog 351 false [.val none [I (n:Nat)]] (.tup [some 2,none]) (aK.enc .own (dA n)++[B true]):=by
 have a:=aG ((n:Nat):Int) 1 4;rw[O0 ω]at a;refine fO 13 [(3,4,[8,9,10,11])] Tryz.func351 rfl ?_ (.inr (aZ (aK.enc_fr _) ⟨trivial,trivial⟩))
 repeat'((conv=>whnf);first|with_reducible (first|refine Lm ?_|refine Wm ω ?_|refine Bn ?_|refine jt.dk rfl ?_)|refine Bt ?_|refine Bu ?_|refine C9 ?_|refine C6 (a) ?_|refine Mk.mk n rfl rfl ω (wT ω (by decide)) rfl ?_)
 exact F5 n
theorem J8:J9 [.s .own (List.replicate 4 [.z])] (aA.enc .own eL):=.cons (.rep (.cons .z_ .nil)) .nil
theorem xB:ao Tryz.prog 352 false [] .agg (aA.enc .own eL):=by
 refine fO 3 [] Tryz.func352 rfl ?_ (.inr (aA.enc_fr _))
 repeat'((conv=>whnf);first|with_reducible (first|refine Lm ?_|refine Wm ω ?_|refine Bn ?_|refine jt.dk rfl ?_)|refine Bt ?_|refine Bu ?_|refine C9 ?_|refine Mk.mk 4 rfl rfl (by decide) (by decide) rfl ?_)
 exact J8
theorem rh:ao Tryz.prog 353 false [.val none [I 16]] (.tup [some 2,none]) (bF.enc .own ⟨16,[]⟩++[B true]):=by
 refine fO 10 [] Tryz.func353 rfl ?_ (.inr (aZ (bF.enc_fr _) ⟨trivial,trivial⟩))
 repeat'((conv=>whnf);first|with_reducible (first|refine Lm ?_|refine Wm ω ?_|refine Bn ?_|refine jt.wk rfl ?_)|refine Bt ?_|refine Bu ?_|refine C9 ?_|refine C6 (aG 16 0 500) ?_)
 exact⟨rfl,rfl,rfl,trivial⟩
def caps(h:ab)(k:Nat):ab:={h with Caches:=List.replicate k eL}
theorem HK(k:Nat):(List.replicate (k+1) eL).map (aA.enc .own)=(List.replicate k eL).map (aA.enc .own)++[aA.enc .own eL]:=by rw[AF,R4];rfl
theorem JL{k:Nat} : ∀r∈(List.replicate k eL).map (aA.enc .own),r.length=1:=aR λ_=>rfl
theorem MI(x:List bD):fz (.s .own (x.map (bD.enc .own)))=.s .imm (x.map (bD.enc .imm)):=(List.cons.inj (List.cons.inj (CW ⟨0,x⟩)).2).1
theorem eG:∀a b:List C,dE (a++b)=dE a++dE b
 | [],_=>rfl
 | x::xs,b=>by show fz x::dE (xs++b)=fz x::(dE xs++dE b);rw[eG xs b]
theorem dL(r:ax)(c:ax.sml r):ao Tryz.prog 309 false [.val (some 2) (ax.enc .imm r)] .agg (ax.enc .own r):=by
 have e:r.Objs.length<=1048576:=c.1;refine fO 36 [(5,272,[15,16,17,18,19,20,21,22,23,24,25,26,27,28,29,34,0,1,2,3,4,5,6,7,8,9,10,11,12,13,14,15,1000,1001,1002,1003,1004,1005,1006,1007,16,1000,1001,17,1000,1001,18,19,20])] Tryz.func309 rfl ?_ (.inr (ax.enc_fr _))
 repeat'(first|refine gO ?_|(conv=>whnf);first|refine C9 ?_)
 (conv=>whnf)
 refine CD (ι:=Nat) (λi=>[(1,.hold .box (ax.enc .imm r)),(2,.hold .box [I 0,.z]),(3,.hold .box [I r.Next,.s .own ((r.Objs.take i).map (bD.enc .own))]),(4,.hold .one [I ((i:Nat):Int)])]) (λi=>i<=r.Objs.length) (λi=>r.Objs.length - i) (0) ?_ (R0 _) λi g=>?_
 ·exact wC
 by_cases b:i<r.Objs.length
 ·have d:=ah b
  have a:(nth r.Objs i).Cells.length<=1048576:=c.2 _ (am b)
  repeat'(first|refine gD ?_|(conv=>whnf);first|with_reducible refine CA (aa d) ?_|refine C9 ?_|refine CG rfl (aa d) rfl ?_|refine CS (λ_=>rfl) (λ_=>rfl) a (by decide) ?_|refine CQ (λ_=>rfl) (λ_=>rfl) a (by decide) ?_|refine C9 ?_|refine Ap.sn (aR λ_=>rfl) rfl (by simp;omega) (by decide) (jN b) ?_)
  ((conv=>whnf);refine CB (i+1) ω ω ?_;(exact wC))
 ·repeat'(first|refine gD ?_|(conv=>whnf);first|refine C9 ?_)
  obtain rfl:i=r.Objs.length:=ω
  rw[v4]
  rfl
theorem gM(r:ax)(id:Int)(g:r.Objs.length<=1048576):ao Tryz.prog 385 false [.val (some 2) (ax.enc .imm r),.val none [I id]] .one [I (nh r id)]:=by
 refine fO 22 [] Tryz.func385 rfl ?_
 repeat'(first|refine gO ?_|(conv=>whnf);first|refine C9 ?_)
 (conv=>whnf)
 refine CD (ι:=Nat) (λi=>[(1,.hold .one [I (id)]),(2,.hold .box (ax.enc .imm r)),(5,.hold .one [I ((i:Nat):Int)])]) (λi=>i<=r.Objs.length/\∀(j:Nat)(z:bD),j<i->r.Objs[j]? = some z->mf id z=false) (λi=>r.Objs.length - i) (0) ?_ (⟨R0 _,λj z h=>ω⟩) λi c=>?_
 ·exact wC
 obtain⟨c,b⟩:=c;by_cases d:i<r.Objs.length
 ·have a:=ah d
  by_cases e:(nth r.Objs i).Id=id
  ·repeat'(first|refine gA ?_|(conv=>whnf);first|with_reducible refine CA (aa a) ?_|refine C9 ?_|refine CG rfl (aa a) rfl ?_)
   exact T0 (λz=>[I z]) (d2 a (O0 e) b).symm
  ·repeat'(first|refine gA ?_|(conv=>whnf);first|with_reducible refine CA (aa a) ?_|refine C9 ?_|refine CG rfl (aa a) rfl ?_)
   ((conv=>whnf);refine CB (i+1) ⟨ω,cX a (Q0 e) b⟩ ω ?_;(exact wC))
 ·repeat'(first|refine gD ?_|(conv=>whnf);first|refine C9 ?_)
  exact T0 (λz=>[I z]) (eB ω b).symm
theorem mD(r:ax)(c:C)(h:NX c):gF (ax.enc .own r++[c]):=aZ (ax.enc_fr _) ⟨h,trivial⟩
theorem xj(r:ax)(n:Int)(m:Nat)(b:qX r m)(h:m<=1000)(c:1<=n/\n<=1000):ao Tryz.prog 301 false [.val (some 2) (ax.enc .imm r),.val none [I n]] (.tup [some 2,none]) (ax.enc .imm (jZ r n)++[I r.Next]):=by
 have i:=b.sml h;have d:=b.len;have j:=b.nx;have k:=dL r i;have e:=aG n 1 1000;rw[O0 c]at e;have key:ao Tryz.prog 301 false [.val (some 2) (ax.enc .imm r),.val none [I n]] (.tup [some 2,none]) (ax.enc .own (jZ r n)++[I r.Next]):=by
  have a:=mD (jZ r n) (I r.Next) trivial;unfold jZ at a |-;rw[C8 c]at a |-;have l:ax.enc .own {r with Next:=r.Next+1,Objs:=r.Objs++[⟨r.Next,List.replicate n.toNat 0⟩]} = [I (r.Next+1),.s .own (r.Objs.map (bD.enc .own)++[[I r.Next,.s .own (List.replicate n.toNat [I 0])]])]:=by
   simp[ax.enc,bD.enc,rI]
  rw[l]at a |-;refine fO 30 [(4,263,[13,14,15,16,17,18,22,0,1,2,3,4,5,6,1000,1001,7,1000,1001,8,9,10]),(6,259,[27,28,29,0,1,2,3,1001,1002,4])] Tryz.func301 rfl ?_ (.inr a)
  repeat'(first|refine gO ?_|(conv=>whnf);first|refine C9 ?_|refine C6 (k) ?_|refine C6 (e) ?_|refine Mk.mk n.toNat ω ω ω (wT ω (by decide)) rfl ?_|refine C9 ?_|refine Ap.sn (aR λ_=>rfl) rfl (by simp;omega) (by decide) rfl ?_)
  (conv=>whnf)
  rfl
 have g:=key.fzR;rw[eG,CW]at g;exact g
theorem zw(r:ax)(id:Int)(m:Nat)(d:qX r m)(k:m<=1000):ao Tryz.prog 355 true [.val (some 2) (ax.enc .imm r),.val none [I id]] (.tup [some 2,none]) (ax.enc .imm (kH r id)++[B (!decide (nh r id<0))]):=by
 have g:=d.sml k;have h:=d.len;have i:=dL r g;have b:=gM r id g.1;by_cases e:nh r id<0
 ·have key:ao Tryz.prog 355 true [.val (some 2) (ax.enc .imm r),.val none [I id]] (.tup [some 2,none]) (ax.enc .own r++[B false]):=by
   refine fO 30 [(5,267,[16,17,18,19,20,22,23,24,25,26,28,0,1,2,3,4,6,7,8,9,10,5,1006,1007,1008,1009,1010,11,12,13]),(1048581,6,[1])] Tryz.func355 rfl ?_ (.inl rfl)
   repeat'(first|refine gD ?_|(conv=>whnf);first|refine C9 ?_|refine C6 (i) ?_|refine C6 (b) ?_)
   rfl
  have a:=key.fzR;rw[eG,CW]at a;unfold kH;rw[C8 e,O0 e];exact a
 ·have n:kH r id = {r with Objs:=dele r.Objs (nh r id).toNat}:=by unfold kH;rw[C7 e]
  obtain⟨t,u,w⟩:=fU (mf id) r.Objs (by unfold nh at e;omega);obtain⟨j,c⟩:=I2 (show 0<=nh r id by omega);have o:j<r.Objs.length:=by unfold nh at c;omega
  have key:ao Tryz.prog 355 true [.val (some 2) (ax.enc .imm r),.val none [I id]] (.tup [some 2,none]) ([I r.Next,.s .own ((dele r.Objs j).map (bD.enc .imm))]++[B true]):=by
   rw[c]at b;refine fO 30 [(5,267,[16,17,18,19,20,22,23,24,25,26,28,0,1,2,3,4,6,7,8,9,10,5,1006,1007,1008,1009,1010,11,12,13]),(1048581,6,[1])] Tryz.func355 rfl ?_ (.inl rfl)
   repeat'(first|refine gD ?_|(conv=>whnf);first|refine C9 ?_|refine C6 (i) ?_|refine C6 (b) ?_|refine DU.mk rfl (MI r.Objs) rfl ?_|refine CT j rfl (by rw[W0];omega) (aR λ_=>rfl) Q3 ?_|refine Sl.suf (j+1) ω (by rw[W0];omega) (aR λ_=>rfl) R3 ?_|refine CQ (λ_=>rfl) (λ_=>rfl) (by rw[I1];omega) (by decide) ?_|refine CS (λ_=>rfl) (λ_=>rfl) (by rw[I1];omega) (by decide) ?_|refine Ap.dele (λ_=>rfl) (λ_=>rfl) ω (by decide) ?_|refine C9 ?_)
   rfl
  have a:=key.fzR;have p:dE ([I r.Next,.s .own ((dele r.Objs j).map (bD.enc .imm))]++[B true])=ax.enc .imm (kH r id)++[B (!decide (nh r id<0))]:=by
   have:∀l:List bD,fzR (l.map (bD.enc .imm))=l.map (bD.enc .imm):=λl=>by
    induction l with
    | nil=>rfl
    | cons x xs q=>rw[U4,fzR,q,<-bD.enc_fz,qw]
   rw[n,c,Q0 ω];simp[dE,fz,ax.enc,this]
  rw[p]at a;exact a
theorem x9(r:ax)(id a v:Int)(m:Nat)(o:qX r m)(D:m<=1000)(h:0<=nh r id)(c:0<=a/\a<=(nth r.Objs (nh r id).toNat).Cells.length - 1)(p:0<=v/\v<=999):ao Tryz.prog 357 false [.val (some 2) (ax.enc .imm r),.val none [I id],.val none [I a],.val none [I v]] (.tup [some 2,none]) (ax.enc .imm (eO r id a v)++[B true]):=by
 have k:=o.sml D;have q:=o.len;have E:=dL r k;have t:=gM r id k.1;obtain⟨J,K,L⟩:=fU (mf id) r.Objs h;obtain⟨j,l⟩:=I2 h;have d:j<r.Objs.length:=by unfold nh at l;omega
 have e:=ah d;have F:(nth r.Objs j).Cells.length<=1048576:=k.2 _ (am d);obtain⟨b,g⟩:=I2 c.1;have G:eO r id a v = {r with Objs:=r.Objs.set j ⟨(nth r.Objs j).Id,(nth r.Objs j).Cells.set b v⟩}:=by
  unfold eO;rw[C8 ⟨h,c,p⟩,l,g];rfl
 rw[l]at t c;rw[g]at c |-;simp only[C2]at c;have u:=ah (xs:=(nth r.Objs j).Cells) (i:=b) ω;have w:=aG (b:Nat) 0 (((nth r.Objs j).Cells.length:Nat) - 1:Int);rw[O0 ω]at w;have y:=aG v 0 999;rw[O0 p]at y;have key:ao Tryz.prog 357 false [.val (some 2) (ax.enc .imm r),.val none [I id],.val none [I (b:Nat)],.val none [I v]] (.tup [some 2,none]) (ax.enc .own (eO r id (b:Nat) v)++[B true]):=by
  have n:=mD (eO r id (b:Nat) v) (B true) trivial;rw[<-g,G]at n |-;have H:ax.enc .own {r with Objs:=r.Objs.set j ⟨(nth r.Objs j).Id,(nth r.Objs j).Cells.set b v⟩} = [I r.Next,.s .own ((r.Objs.map (bD.enc .own)).set j [I (nth r.Objs j).Id,.s .own (((nth r.Objs j).Cells.map (rI .own)).set b [I v])])]:=by
   simp[ax.enc,bD.enc,rI,W4]
  rw[H]at n |-;rw[g];refine fO 48 [] Tryz.func357 rfl ?_ (.inr n)
  repeat'(first|refine gD ?_|(conv=>whnf);first|with_reducible (first|refine CA (aa e) ?_|refine CA (aa u) ?_|refine CK ω (aa e) ?_)|refine C9 ?_|refine C6 (E) ?_|refine C6 (t) ?_|refine C6 (w) ?_|refine C6 (y) ?_|refine CG rfl (aa e) rfl ?_|refine Pu.two rfl rfl (aa e) rfl rfl rfl (aa u) rfl (Q2 _) rfl ?_)
  rfl
 have C:=key.fzR;rw[eG,CW]at C;exact C
theorem zt(r:ax)(id n:Int)(m:Nat)(l:qX r m)(u:m<=1000)(g:0<=nh r id)(c:1<=n/\n<=(nth r.Objs (nh r id).toNat).Cells.length):ao Tryz.prog 359 false [.val (some 2) (ax.enc .imm r),.val none [I id],.val none [I n]] (.tup [some 2,none]) (ax.enc .imm (fX r id n)++[B true]):=by
 have h:=l.sml u;have o:=l.len;have w:=dL r h;have p:=gM r id h.1;obtain⟨E,F,G⟩:=fU (mf id) r.Objs g;obtain⟨j,i⟩:=I2 g;have a:j<r.Objs.length:=by unfold nh at i;omega
 have d:=ah a;have y:(nth r.Objs j).Cells.length<=1048576:=h.2 _ (am a);obtain⟨b,e⟩:=I2 (show 0<=n by omega);have C:fX r id n = {r with Objs:=r.Objs.set j ⟨(nth r.Objs j).Id,(nth r.Objs j).Cells.take b⟩}:=by
  unfold fX;rw[C8 ⟨g,c⟩,i,e];rfl
 rw[i]at p c;rw[e]at c |-;simp only[C2]at c;have q:=aG (b:Nat) 1 (((nth r.Objs j).Cells.length:Nat):Int);rw[O0 ω]at q;have key:ao Tryz.prog 359 false [.val (some 2) (ax.enc .imm r),.val none [I id],.val none [I (b:Nat)]] (.tup [some 2,none]) (ax.enc .own (fX r id (b:Nat))++[B true]):=by
  have k:=mD (fX r id (b:Nat)) (B true) trivial;rw[<-e,C]at k |-;have D:ax.enc .own {r with Objs:=r.Objs.set j ⟨(nth r.Objs j).Id,(nth r.Objs j).Cells.take b⟩} = [I r.Next,.s .own ((r.Objs.map (bD.enc .own)).set j [I (nth r.Objs j).Id,.s .own (((nth r.Objs j).Cells.take b).map (rI .imm))])]:=by
   simp only[ax.enc,W4]
   rfl
  rw[D]at k |-;rw[e];refine fO 46 [(5,270,[30,31,32,33,34,35,36,37,38,39,40,41,43,44,0,1,2,3,4,5,6,7,8,9,10,11,12,1000,1001,1002,13,14,15])] Tryz.func359 rfl ?_ (.inr k)
  repeat'(first|refine gD ?_|(conv=>whnf);first|with_reducible (first|refine CA (aa d) ?_|refine CK ω (aa d) ?_)|refine C9 ?_|refine C6 (w) ?_|refine C6 (p) ?_|refine C6 (q) ?_|refine CG rfl (aa d) rfl ?_|refine CT b rfl (by rw[W0];omega) (aR λ_=>rfl) Q3 ?_|refine CS (λ_=>rfl) (λ_=>rfl) (by rw[I1];omega) (by decide) ?_|refine CQ (λ_=>rfl) (λ_=>rfl) (by rw[I1];omega) (by decide) ?_|refine C9 ?_|refine CM rfl rfl (aa d) rfl (X0 rfl) rfl ?_)
  rfl
 have t:=key.fzR;rw[eG,CW]at t;exact t
theorem z8(r:ax)(id a v:Int)(m:Nat)(h:qX r m)(l:m<=1000)(u:0<=v/\v<=999):∃b:Bool,ao Tryz.prog 357 false [.val (some 2) (ax.enc .imm r),.val none [I id],.val none [I a],.val none [I v]] (.tup [some 2,none]) (ax.enc .imm (eO r id a v)++[B b]):=by
 by_cases i:0<=nh r id
 ·by_cases d:0<=a/\a<=(nth r.Objs (nh r id).toNat).Cells.length - 1
  ·exact⟨true,x9 r id a v m h l i d u⟩
  ·refine⟨false,?_⟩
   have c:=h.sml l;have o:=h.len;have n:=dL r c;have k:=gM r id c.1;obtain⟨C,D,E⟩:=fU (mf id) r.Objs i;obtain⟨j,p⟩:=I2 i;have e:j<r.Objs.length:=by unfold nh at p;omega
   have q:=ah e;have w:(nth r.Objs j).Cells.length<=1048576:=c.2 _ (am e);have y:eO r id a v=r:=by unfold eO;rw[C7 (λx=>d x.2.1)]
   rw[p]at k d;simp only[C2]at d;have t:=aG a 0 (((nth r.Objs j).Cells.length:Nat) - 1:Int);rw[Q0 d]at t;rw[y];have key:ao Tryz.prog 357 false [.val (some 2) (ax.enc .imm r),.val none [I id],.val none [I a],.val none [I v]] (.tup [some 2,none]) (ax.enc .own r++[B false]):=by
    refine fO 48 [] Tryz.func357 rfl ?_ (.inr (mD r (B false) trivial))
    repeat'(first|refine gD ?_|(conv=>whnf);first|with_reducible refine CA (aa q) ?_|refine C9 ?_|refine C6 (n) ?_|refine C6 (k) ?_|refine C6 (t) ?_|refine CG rfl (aa q) rfl ?_)
    rfl
   have g:=key.fzR;rw[eG,CW]at g;exact g
 ·refine⟨false,?_⟩
  have c:=h.sml l;have n:=dL r c;have k:=gM r id c.1;rw[show eO r id a v=r by unfold eO;rw[C7 (λx=>i x.1)]];have key:ao Tryz.prog 357 false [.val (some 2) (ax.enc .imm r),.val none [I id],.val none [I a],.val none [I v]] (.tup [some 2,none]) (ax.enc .own r++[B false]):=by
   refine fO 48 [] Tryz.func357 rfl ?_ (.inr (mD r (B false) trivial))
   repeat'(first|refine gD ?_|(conv=>whnf);first|refine C9 ?_|refine C6 (n) ?_|refine C6 (k) ?_)
   rfl
  have g:=key.fzR;rw[eG,CW]at g;exact g
theorem Dn(r:ax)(id n:Int)(m:Nat)(g:qX r m)(k:m<=1000):∃b:Bool,ao Tryz.prog 359 false [.val (some 2) (ax.enc .imm r),.val none [I id],.val none [I n]] (.tup [some 2,none]) (ax.enc .imm (fX r id n)++[B b]):=by
 by_cases h:0<=nh r id
 ·by_cases c:1<=n/\n<=(nth r.Objs (nh r id).toNat).Cells.length
  ·exact⟨true,zt r id n m g k h c⟩
  ·refine⟨false,?_⟩
   have a:=g.sml k;have o:=g.len;have l:=dL r a;have i:=gM r id a.1;obtain⟨y,C,D⟩:=fU (mf id) r.Objs h;obtain⟨j,p⟩:=I2 h;have d:j<r.Objs.length:=by unfold nh at p;omega
   have q:=ah d;have u:(nth r.Objs j).Cells.length<=1048576:=a.2 _ (am d);have w:fX r id n=r:=by unfold fX;rw[C7 (λx=>c x.2)]
   rw[p]at i c;simp only[C2]at c;have t:=aG n 1 (((nth r.Objs j).Cells.length:Nat):Int);rw[Q0 c]at t;rw[w];have key:ao Tryz.prog 359 false [.val (some 2) (ax.enc .imm r),.val none [I id],.val none [I n]] (.tup [some 2,none]) (ax.enc .own r++[B false]):=by
    refine fO 46 [(5,270,[30,31,32,33,34,35,36,37,38,39,40,41,43,44,0,1,2,3,4,5,6,7,8,9,10,11,12,1000,1001,1002,13,14,15])] Tryz.func359 rfl ?_ (.inr (mD r (B false) trivial))
    repeat'(first|refine gD ?_|(conv=>whnf);first|with_reducible refine CA (aa q) ?_|refine C9 ?_|refine C6 (l) ?_|refine C6 (i) ?_|refine C6 (t) ?_|refine CG rfl (aa q) rfl ?_)
    rfl
   have e:=key.fzR;rw[eG,CW]at e;exact e
 ·refine⟨false,?_⟩
  have a:=g.sml k;have l:=dL r a;have i:=gM r id a.1;rw[show fX r id n=r by unfold fX;rw[C7 (λx=>h x.1)]];have key:ao Tryz.prog 359 false [.val (some 2) (ax.enc .imm r),.val none [I id],.val none [I n]] (.tup [some 2,none]) (ax.enc .own r++[B false]):=by
   refine fO 46 [(5,270,[30,31,32,33,34,35,36,37,38,39,40,41,43,44,0,1,2,3,4,5,6,7,8,9,10,11,12,1000,1001,1002,13,14,15])] Tryz.func359 rfl ?_ (.inr (mD r (B false) trivial))
   repeat'(first|refine gD ?_|(conv=>whnf);first|refine C9 ?_|refine C6 (l) ?_|refine C6 (i) ?_)
   rfl
  have e:=key.fzR;rw[eG,CW]at e;exact e
structure gZ where
 i:Nat
 h:Int
deriving Inhabited
def w64(x:Int):Int:=IntKind.i64.wrap x
def NU(h:Int):Int:=w64 (w64 (h*6364136223846793005)+1442695040888963407)
def Ny(a b:Int):Int:=w64 ((BitVec.ofInt IntKind.i64.bits a ^^^ BitVec.ofInt IntKind.i64.bits b).toNat:Nat)
def and255(a:Int):Int:=w64 ((BitVec.ofInt IntKind.i64.bits a &&& BitVec.ofInt IntKind.i64.bits 255).toNat:Nat)
def Ls(h:Int)(n:Nat):Int:=h.fdiv (2 ^ (min n IntKind.i64.bits))
def y3(h:Int):Int:=and255 (Ny (Ls h 33) (Ls h 45))
theorem yp(a:Int):0<=and255 a/\and255 a<=255:=by
 have b:(BitVec.ofInt IntKind.i64.bits a &&& BitVec.ofInt IntKind.i64.bits 255).toNat<=255:=by
  rw[BitVec.toNat_and];exact Z3 Nat.and_le_right (by decide)
 unfold and255 w64;rw[ek ω ω];omega
def dv(zs:List Int)(c:gZ):Int × gZ:=if c.i<zs.length then(and255 (y3 (NU c.h)+nth zs c.i),⟨c.i+1,NU c.h⟩) else(y3 (NU c.h),⟨c.i,NU c.h⟩)
theorem qp(zs:List Int)(c:gZ):0<=(dv zs c).1/\(dv zs c).1<=255:=by
 unfold dv;split<;>exact yp _
theorem ir{zs:List Int}{c:gZ}(h:c.i<=zs.length):(dv zs c).2.i<=zs.length:=by
 unfold dv;split
 ·simp only;omega
 ·exact h
def xP(zs:List Int)(c:gZ):Int × gZ:=
 ((dv zs c).1*16777216+(dv zs (dv zs c).2).1*65536+(dv zs (dv zs (dv zs c).2).2).1*256+(dv zs (dv zs (dv zs (dv zs c).2).2).2).1,(dv zs (dv zs (dv zs (dv zs c).2).2).2).2)
def bt(zs:List Int)(c:gZ)(n:Int):Int × gZ:=if n<=256 then((dv zs c).1 % n,(dv zs c).2) else((xP zs c).1 % n,(xP zs c).2)
theorem bC(zs:List Int)(c:gZ){n:Int}(h:1<=n):0<=(bt zs c n).1/\(bt zs c n).1<n:=by
 unfold bt;split<;>exact⟨Int.emod_nonneg _ ω,Int.emod_lt_of_pos _ ω⟩
theorem bN{zs:List Int}{c:gZ}(h:c.i<=zs.length)(n:Int):(bt zs c n).2.i<=zs.length:=by
 unfold bt;split
 ·exact ir h
 ·exact ir (ir (ir (ir h)))
def kb(zs:List Int)(c:gZ)(l:List Int):Int × gZ:=(nth l (bt zs c (l.length:Nat)).1.toNat,(bt zs c (l.length:Nat)).2)
theorem oC(zs:List Int)(c:gZ){l:List Int}(h:1<=l.length):(kb zs c l).1∈l:=by
 have:=bC zs c (n:=(l.length:Nat)) ω;exact am ω
def nj(zs:List Int):Nat->Nat->List Int->gZ->List Int × gZ
 | 0,_,out,c=>(out,(bt zs c 4).2)
 | f+1,i,out,c=>if(i:Int)<(bt zs c 4).1 then nj zs f (i+1) (out++[(bt zs (bt zs c 4).2 12).1]) (bt zs (bt zs c 4).2 12).2 else(out,(bt zs c 4).2)
def Ly(zs:List Int)(c:gZ):List Int × gZ:=nj zs 4 0 [] c
theorem Gh(zs:List Int):∀(f i:Nat)(out:List Int)(c:gZ),(∀x∈out,0<=x)->out.length+f<=4->c.i<=zs.length->(∀x∈(nj zs f i out c).1,0<=x)/\(nj zs f i out c).1.length<=4/\(nj zs f i out c).2.i<=zs.length
 | 0,_,out,c,b,e,d=>⟨b,by show out.length<=4;omega,bN d _⟩
 | f+1,i,out,c,b,e,d=>by
  unfold nj;split
  ·refine Gh zs f (i+1) _ _ (λx a=>?_) (by simp only[U2,List.length_singleton];omega) (bN (bN d _) _)
   rcases O2.1 a with a|a
   ·exact b x a
   ·rw[Z0.1 a];exact(bC zs _ (by decide)).1
  ·exact⟨b,by show out.length<=4;omega,bN d _⟩
def wV(zs:List Int)(c:gZ):Int × gZ:=bt zs c 7
def AJ(zs:List Int)(c:gZ):Int × gZ:=bt zs (wV zs c).2 3
def Em(zs:List Int)(c:gZ):Int × gZ:=bt zs (AJ zs c).2 100
def zB(zs:List Int)(c:gZ):Int × gZ:=bt zs (Em zs c).2 4
def MV(zs:List Int)(c:gZ):List Int × gZ:=Ly zs (zB zs c).2
def oZ(zs:List Int)(c:gZ):cK:=⟨(6+(wV zs c).1).toNat,(6+(wV zs c).1 - (zB zs c).1).toNat,(1+(AJ zs c).1).toNat,40+(Em zs c).1,(MV zs c).1⟩
theorem uE{zs:List Int}{c:gZ}(h:c.i<=zs.length):GJ (oZ zs c)/\(MV zs c).2.i<=zs.length:=by
 have a:=bC zs c (n:=7) (by decide);have b:=bC zs (wV zs c).2 (n:=3) (by decide);have d:=bC zs (AJ zs c).2 (n:=100) (by decide);have e:=bC zs (Em zs c).2 (n:=4) (by decide);change 0<=(wV zs c).1/\(wV zs c).1<7 at a;change 0<=(AJ zs c).1/\(AJ zs c).1<3 at b;change 0<=(Em zs c).1/\(Em zs c).1<100 at d;change 0<=(zB zs c).1/\(zB zs c).1<4 at e;obtain⟨f,k,g⟩:=Gh zs 4 0 [] (zB zs c).2 (λx j=>by cases j) (by simp) (bN (bN (bN (bN h _) _) _) _);refine⟨⟨?_,?_,?_,?_,?_⟩,g⟩
 ·show 1<=(6+(wV zs c).1).toNat/\(6+(wV zs c).1).toNat<=32;omega
 ·show 1<=(6+(wV zs c).1 - (zB zs c).1).toNat/\(6+(wV zs c).1 - (zB zs c).1).toNat<=32;omega
 ·show 1<=(1+(AJ zs c).1).toNat/\(1+(AJ zs c).1).toNat<=4;omega
 ·show 0<=40+(Em zs c).1/\40+(Em zs c).1<=1000;omega
 ·exact⟨by show(nj zs 4 0 [] (zB zs c).2).1.length<=40;omega,f⟩
def yj(zs:List Int)(c:gZ):Int × gZ:=bt zs c 3
def DO(zs:List Int)(c:gZ)(ids:Int):Int × gZ:=bt zs (yj zs c).2 ids
def jR(zs:List Int)(c:gZ)(ids:Int):Int × gZ:=bt zs (DO zs c ids).2 20
def szs:List Int:=[1,1,2,2,3,4,4,5,8,9,20]
def qo(zs:List Int)(c:gZ)(ids:Int):eD × gZ:=
 if(jR zs c ids).1<=6 then(⟨1,(yj zs c).1,(kb zs (jR zs c ids).2 szs).1,0,0⟩,(kb zs (jR zs c ids).2 szs).2)
 else if(jR zs c ids).1<=9 then(⟨2,(yj zs c).1,1+(DO zs c ids).1,0,0⟩,(jR zs c ids).2)
 else if(jR zs c ids).1<=12 then(⟨3,(yj zs c).1,1+(DO zs c ids).1,(bt zs (jR zs c ids).2 4).1,1+(bt zs (bt zs (jR zs c ids).2 4).2 999).1⟩,(bt zs (bt zs (jR zs c ids).2 4).2 999).2)
 else if(jR zs c ids).1=13 then(⟨4,(yj zs c).1,1+(DO zs c ids).1,0,9+(bt zs (jR zs c ids).2 10).1⟩,(bt zs (jR zs c ids).2 10).2)
 else if(jR zs c ids).1=14 then(⟨(kb zs (jR zs c ids).2 [5,6]).1,(yj zs c).1,1+(DO zs c ids).1,0,0⟩,(kb zs (jR zs c ids).2 [5,6]).2)
 else if(jR zs c ids).1=15 then(⟨7,(yj zs c).1,1+(DO zs c ids).1,0,0⟩,(jR zs c ids).2)
 else if(jR zs c ids).1=16 then(⟨8,(yj zs c).1,(kb zs (jR zs c ids).2 [1,30,60,120]).1,0,0⟩,(kb zs (jR zs c ids).2 [1,30,60,120]).2)
 else if(jR zs c ids).1=17 then(⟨9,(yj zs c).1,1+(DO zs c ids).1,0,0⟩,(jR zs c ids).2)
 else(⟨10,(yj zs c).1,(kb zs (jR zs c ids).2 [1,2,3,10,30]).1,0,0⟩,(kb zs (jR zs c ids).2 [1,2,3,10,30]).2)
structure JB(a:eD):Prop where
 k:1<=a.Kind/\a.Kind<=10
 t:0<=a.Thread/\a.Thread<=1000000
 n:0<=a.N/\a.N<=1000000
 p:0<=a.At/\a.At<=1000000
 v:0<=a.Value/\a.Value<=1000000
theorem JD{zs:List Int}{c:gZ}{ids:Int}(h:c.i<=zs.length)(b:1<=ids/\ids<=1000):JB (qo zs c ids).1/\(qo zs c ids).2.i<=zs.length:=by
 have d:=bC zs c (n:=3) (by decide);have e:=bC zs (yj zs c).2 (n:=ids) b.1;change 0<=(yj zs c).1/\(yj zs c).1<3 at d;change 0<=(DO zs c ids).1/\(DO zs c ids).1<ids at e;have a:(jR zs c ids).2.i<=zs.length:=bN (bN (bN h _) _) _;have f:=oC zs (jR zs c ids).2 (l:=szs) (by decide);have g:=oC zs (jR zs c ids).2 (l:=[5,6]) (by decide);have j:=oC zs (jR zs c ids).2 (l:=[1,30,60,120]) (by decide);have k:=oC zs (jR zs c ids).2 (l:=[1,2,3,10,30]) (by decide);have o:=bC zs (jR zs c ids).2 (n:=4) (by decide);have p:=bC zs (bt zs (jR zs c ids).2 4).2 (n:=999) (by decide);have q:=bC zs (jR zs c ids).2 (n:=10) (by decide);simp only[szs,List.mem_cons,List.not_mem_nil,or_false]at f g j k;unfold qo
 repeat' split
 ·exact⟨⟨by simp only;omega,by simp only;omega,by simp only[szs];omega,by simp only;omega,by simp only;omega⟩,bN a _⟩
 ·exact⟨⟨by simp only;omega,by simp only;omega,by simp only;omega,by simp only;omega,by simp only;omega⟩,a⟩
 ·exact⟨⟨by simp only;omega,by simp only;omega,by simp only;omega,by simp only;omega,by simp only;omega⟩,bN (bN a _) _⟩
 ·exact⟨⟨by simp only;omega,by simp only;omega,by simp only;omega,by simp only;omega,by simp only;omega⟩,bN a _⟩
 ·exact⟨⟨by simp only;omega,by simp only;omega,by simp only;omega,by simp only;omega,by simp only;omega⟩,bN a _⟩
 ·exact⟨⟨by simp only;omega,by simp only;omega,by simp only;omega,by simp only;omega,by simp only;omega⟩,a⟩
 ·exact⟨⟨by simp only;omega,by simp only;omega,by simp only;omega,by simp only;omega,by simp only;omega⟩,bN a _⟩
 ·exact⟨⟨by simp only;omega,by simp only;omega,by simp only;omega,by simp only;omega,by simp only;omega⟩,a⟩
 ·exact⟨⟨by simp only;omega,by simp only;omega,by simp only;omega,by simp only;omega,by simp only;omega⟩,bN a _⟩
def kK(zs:List Int)(c:gZ):Nat->List eD × gZ
 | 0=>([],(bt zs c 41).2)
 | i+1=>((kK zs c i).1++[(qo zs (kK zs c i).2 (1+(i:Int) / 2)).1],(qo zs (kK zs c i).2 (1+(i:Int) / 2)).2)
def mO(zs:List Int)(c:gZ):List eD × gZ:=kK zs c (bt zs c 41).1.toNat
theorem qv{zs:List Int}{c:gZ}(h:c.i<=zs.length):∀{n:Nat},n<=100->(kK zs c n).1.length=n/\(∀a∈(kK zs c n).1,JB a)/\(kK zs c n).2.i<=zs.length
 | 0,_=>⟨rfl,λa b=>(by cases b),bN h _⟩
 | n+1,k=>by
  obtain⟨d,e,f⟩:=qv h (n:=n) ω;obtain⟨g,j⟩:=JD (ids:=1+(n:Int) / 2) f ω;refine⟨by simp only[kK,U2,List.length_singleton,d],λa b=>?_,j⟩;rcases O2.1 b with b|b
  ·exact e a b
  ·rw[Z0.1 b];exact g
def oN(zs:List Int):Nat->Int
 | 0=>w64 (98801+(zs.length:Nat))
 | i+1=>w64 ((BitVec.ofInt IntKind.i64.bits (w64 (w64 (w64 (oN zs i*131)+nth zs i)+7)) &&& BitVec.ofInt IntKind.i64.bits 1073741823).toNat:Nat)
def tX(zs:List Int):gZ:=⟨0,oN zs (min zs.length 4000)⟩
def fj(zs:List Int):gZ:=(MV zs (tX zs)).2
def drawn(zs:List Int):bH:=(A7 (oZ zs (tX zs)) (mO zs (fj zs)).1 (mO zs (fj zs)).1.length).1
theorem D4(zs:List Int):tz (drawn zs) 40:=by
 have a:(tX zs).i<=zs.length:=R0 _;obtain⟨b,d⟩:=uE a;have f:=bC zs (fj zs) (n:=41) (by decide);obtain⟨e,-,-⟩:=qv (zs:=zs) (c:=fj zs) d (n:=(bt zs (fj zs) 41).1.toNat) ω;refine(zd b _ _).more ?_;show(kK zs (fj zs) _).1.length<=40;rw[e];omega
def rU(z:Int):List C:=[.v (.int .u8 z)]
def gY(zs:List Int)(c:gZ):List C:=[.s .imm (zs.map rU),I (c.i:Nat),I c.h]
def jn(zs:List Int):Prop:=zs.length<=1048576/\∀z∈zs,0<=z/\z<=255
theorem jC(zs:List Int)(c:gZ)(e:jn zs)(w:c.i<=zs.length):aS Tryz.prog 185 false [.ptr (gY zs c)] [.ptr (gY zs (dv zs c).2)] .one [I (dv zs c).1]:=by
 have g:IntKind.i64.wrap (c.h*6364136223846793005)=w64 (c.h*6364136223846793005):=rfl;have b:IntKind.i64.wrap (w64 (c.h*6364136223846793005)+1442695040888963407)=NU c.h:=rfl;have o:=e.1;generalize p:NU c.h=H at b;have j:H.fdiv (2 ^ (min (33:Int).toNat IntKind.i64.bits))=Ls H 33:=rfl;have k:H.fdiv (2 ^ (min (45:Int).toNat IntKind.i64.bits))=Ls H 45:=rfl;have l:IntKind.i64.wrap (BitVec.ofInt IntKind.i64.bits (Ls H 33) ^^^ BitVec.ofInt IntKind.i64.bits (Ls H 45)).toNat=Ny (Ls H 33) (Ls H 45):=rfl;have d:IntKind.i64.wrap (BitVec.ofInt IntKind.i64.bits (Ny (Ls H 33) (Ls H 45)) &&& BitVec.ofInt IntKind.i64.bits 255).toNat=y3 H:=rfl;have r:0<=y3 H/\y3 H<=255:=yp _;unfold dv;rw[p];generalize y3 H=y at d r |-;refine fM 58 [] [(2,10,[13,14,15,16,17,18,19,20,21,22]),(3,9,[25,26,27,28,29,30,31,32,33]),(4,12,[35,36,37,38,39,40,41,42,43,44,45,46])] [(0,0)] Tryz.func185 rfl (λu q=>?_);by_cases a:c.i<zs.length
 ·rw[C8 a]
  have n:=ah a;have B:=e.2 _ (am a);have t:IntKind.i64.wrap (BitVec.ofInt IntKind.i64.bits (y+nth zs c.i) &&& BitVec.ofInt IntKind.i64.bits 255).toNat=and255 (y+nth zs c.i):=rfl
  repeat'(first|refine gD ?_|(conv=>whnf);first|with_reducible (first|refine CJ g ?_|refine CJ b ?_|refine CJ l ?_|refine CJ d ?_|refine CJ t ?_|refine CA (aa n) ?_|refine CL (by decide) ?_|refine CR j ?_|refine CR k ?_)|refine CG rfl (aa n) rfl ?_|refine C9 ?_)
  refine CE rfl rfl ?_;exact wB
 ·rw[C7 a]
  repeat'(first|refine gD ?_|(conv=>whnf);first|with_reducible (first|refine CJ g ?_|refine CJ b ?_|refine CJ l ?_|refine CJ d ?_|refine CL (by decide) ?_|refine CR j ?_|refine CR k ?_)|refine C9 ?_)
  refine CE rfl rfl ?_;exact wB
theorem bQ(zs:List Int)(c:gZ)(n:Int)(b:jn zs)(d:c.i<=zs.length)(p:1<=n):aS Tryz.prog 92 false [.ptr (gY zs c),.val none [I n]] [.ptr (gY zs (bt zs c n).2),.val none [I n]] .one [I (bt zs c n).1]:=by
 have j:=qp zs c;have g:=jC zs c b d;unfold bt;refine fM 37 [(185,[2])] [] [(0,0),(0,0)] Tryz.func92 rfl (λu q=>?_);by_cases h:n<=256
 ·rw[C8 h]
  have a:(dv zs c).1.tmod n=(dv zs c).1 % n:=Int.tmod_eq_emod_of_nonneg j.1
  repeat'(first|refine gD ?_|(conv=>whnf);first|with_reducible (first|refine CR a ?_|refine Bf.D (λe=>?_) (λe=>?_))|refine CH (g) (.inl rfl) ?_|refine CL ω ?_)
  refine CE rfl rfl ?_;exact wB
 ·rw[C7 h]
  have r:=qp zs (dv zs c).2;have t:=qp zs (dv zs (dv zs c).2).2;have w:=qp zs (dv zs (dv zs (dv zs c).2).2).2;have k:=jC zs (dv zs c).2 b (ir d);have l:=jC zs (dv zs (dv zs c).2).2 b (ir (ir d));have o:=jC zs (dv zs (dv zs (dv zs c).2).2).2 b (ir (ir (ir d)));have a:(xP zs c).1.tmod n=(xP zs c).1 % n:=Int.tmod_eq_emod_of_nonneg (by unfold xP;simp only;omega);unfold xP at a |-;simp only at a
  repeat'(first|refine gD ?_|(conv=>whnf);first|with_reducible (first|refine CR a ?_|refine Bf.D (λe=>?_) (λe=>?_))|refine CH (g) (.inl rfl) ?_|refine CH (k) (.inl rfl) ?_|refine CH (l) (.inl rfl) ?_|refine CH (o) (.inl rfl) ?_|refine CL ω ?_)
  refine CE rfl rfl ?_;exact wB
theorem HQ(zs:List Int)(c:gZ)(l:List Int)(b:jn zs)(d:c.i<=zs.length)(g:1<=l.length/\l.length<=1000):aS Tryz.prog 310 false [.ptr (gY zs c),.val none (aF .imm l)] [.ptr (gY zs (kb zs c l).2),.val none (aF .imm l)] .one [I (kb zs c l).1]:=by
 have e:=bQ zs c (l.length:Nat) b d ω;have h:=bC zs c (n:=(l.length:Nat)) ω;have a:=ah (xs:=l) (i:=(bt zs c (l.length:Nat)).1.toNat) ω;unfold kb;refine fM 12 [(92,[2,0])] [] [(0,0),(0,0)] Tryz.func310 rfl (λu q=>?_)
 repeat'(first|refine gO ?_|(conv=>whnf);first|with_reducible refine CK ω (aa a) ?_|refine CH (e) (.inl rfl) ?_|refine CG rfl (aa a) rfl ?_)
 refine CE rfl rfl ?_;exact wC
theorem iw(zs:List Int)(c:gZ)(l:List Int)(b:jn zs)(d:c.i<=zs.length)(g:1<=l.length/\l.length<=1000):aS Tryz.prog 310 false [.ptr (gY zs c),.mut none (aF .own l)] [.ptr (gY zs (kb zs c l).2),.mut none (aF .own l)] .one [I (kb zs c l).1]:=by
 have e:=bQ zs c (l.length:Nat) b d ω;have h:=bC zs c (n:=(l.length:Nat)) ω;have a:=ah (xs:=l) (i:=(bt zs c (l.length:Nat)).1.toNat) ω;unfold kb;refine fM 12 [(92,[2,0])] [] [(0,0),(1,0)] Tryz.func310 rfl (λu q=>?_)
 repeat'(first|refine gO ?_|(conv=>whnf);first|with_reducible refine CK ω (aa a) ?_|refine CH (e) (.inl rfl) ?_|refine CG rfl (aa a) rfl ?_)
 refine CE rfl rfl ?_;exact wC
theorem Ht(zs:List Int):∀(f i:Nat)(out:List Int)(c:gZ),(bt zs c 4).1<=i->nj zs f i out c=(out,(bt zs c 4).2)
 | 0,_,_,_,_=>rfl
 | f+1,i,out,c,h=>by unfold nj;rw[C7 ω]
theorem M5(zs:List Int)(f i:Nat)(out:List Int)(c:gZ)(h:(i:Int)<(bt zs c 4).1):nj zs (f+1) i out c=nj zs f (i+1) (out++[(bt zs (bt zs c 4).2 12).1]) (bt zs (bt zs c 4).2 12).2:=by
 show(if _ then _ else _)=_;rw[C8 h]
structure Rq where
 i:Nat
 out:List Int
 c:gZ
theorem vc(zs:List Int)(c:gZ)(e:jn zs)(j:c.i<=zs.length):aS Tryz.prog 242 false [.ptr (gY zs c)] [.ptr (gY zs (Ly zs c).2)] .one (aF .own (Ly zs c).1):=by
 refine fM 18 [(92,[2,0])] [] [(0,0)] Tryz.func242 rfl (λu q=>?_) (.inr (bJ _))
 repeat'(first|refine gO ?_|fail)
 (conv=>whnf)
 refine CD (ι:=Rq) (λx=>[(0,.hold .box (gY zs x.c)),(3,.hold .one (aF .own x.out)),(4,.hold .one [I ((x.i:Nat):Int)])]) (λx=>(x.i<=4/\x.out.length<=x.i/\x.c.i<=zs.length)/\nj zs (4 - x.i) x.i x.out x.c=Ly zs c) (λx=>4 - x.i) (⟨0,[],c⟩) ?_ (⟨⟨R0 _,R0 _,j⟩,rfl⟩) λx k=>?_
 ·exact wC
 obtain⟨i,out,d⟩:=x;obtain⟨⟨l,o,b⟩,a⟩:=k;simp only at l o b a |-;have B:=bC zs d (n:=4) (by decide);have g:=bQ zs d 4 e b (by decide);have h:=bN b 4;have p:=bQ zs (bt zs d 4).2 12 e h (by decide);have t:=bN h 12;by_cases w:(i:Int)<(bt zs d 4).1
 ·rw[show 4 - i=(4 - (i+1))+1 by omega,M5 zs _ _ _ _ w]at a
  repeat'(first|refine gD ?_|(conv=>whnf);first|refine CH (g) (.inl rfl) ?_|refine CH (p) (.inl rfl) ?_|refine CP co (λr y=>by rw[Z0.1 y];rfl) (by simp[aV,d8]) (by simp;omega) (by simp only[W0];exact wT (by simp;omega) (by decide)) rfl ?_)
  ((conv=>whnf);refine CB ⟨i+1,out++[(bt zs (bt zs d 4).2 12).1],(bt zs (bt zs d 4).2 12).2⟩ ⟨⟨by simp only;omega,by simp only[U2,List.length_singleton];omega,t⟩,a⟩ (by simp only;omega) ?_)
  repeat'(first|exact trivial|rfl| exact dX _ |exact CI rfl (CI (T0 (C.s d9.own) (by simp[rI])) trivial)|refine CI ?_ ?_|(exact Dy (by first|omega|(simp only;omega)|(simp;omega))))
 ·rw[Ht zs _ _ _ _ ω]at a
  rw[<-a]
  repeat'(first|refine gD ?_|(conv=>whnf);first|refine CH (g) (.inl rfl) ?_)
  refine CE rfl rfl ?_;exact wC
def cK.enc(o:d9)(c:cK):List C:=[I (c.Pages:Nat),I (c.Frames:Nat),I (c.Threads:Nat),I c.Limit,.s o (c.Refuse.map (rI o))]
theorem cK.enc_fz(c:cK):dE (cK.enc .own c)=cK.enc .imm c:=by simp[dE,cK.enc,rI,<-bZ,T4]
theorem cK.enc_fr(c:cK):gF (cK.enc .own c):=⟨trivial,trivial,trivial,trivial,⟨.inl λh=>(by cases h),bc _ _ λy _=>oX y⟩,trivial⟩
theorem uS(zs:List Int)(c:gZ)(a:jn zs)(h:c.i<=zs.length):aS Tryz.prog 150 false [.ptr (gY zs c)] [.ptr (gY zs (MV zs c).2)] .agg (cK.enc .own (oZ zs c)):=by
 have j:=bN h 7;have k:=bN j 3;have l:=bN k 100;have y:=bN l 4;have b:=bQ zs c 7 a h (by decide);have d:=bQ zs (wV zs c).2 3 a j (by decide);have e:=bQ zs (AJ zs c).2 100 a k (by decide);have g:=bQ zs (Em zs c).2 4 a l (by decide);have o:=vc zs (zB zs c).2 a y;have p:=bC zs c (n:=7) (by decide);have r:=bC zs (wV zs c).2 (n:=3) (by decide);have B:=bC zs (AJ zs c).2 (n:=100) (by decide);have t:=bC zs (Em zs c).2 (n:=4) (by decide);have w:=cK.enc_fr (oZ zs c);have C:cK.enc .own (oZ zs c)=[I (6+(wV zs c).1),I (6+(wV zs c).1 - (zB zs c).1),I (1+(AJ zs c).1),I (40+(Em zs c).1),.s .own ((MV zs c).1.map (rI .own))]:=by
  have D:0<=(wV zs c).1/\(wV zs c).1<7:=p;have E:0<=(AJ zs c).1/\(AJ zs c).1<3:=r;have F:0<=(zB zs c).1/\(zB zs c).1<4:=t;unfold cK.enc oZ;simp only;rw[Int.toNat_of_nonneg ω,Int.toNat_of_nonneg ω,Int.toNat_of_nonneg ω]
 rw[C]at w |-;change aS _ _ _ _ [.ptr (gY zs (wV zs c).2),_] _ _ at b;change aS _ _ _ _ [.ptr (gY zs (AJ zs c).2),_] _ _ at d;change aS _ _ _ _ [.ptr (gY zs (Em zs c).2),_] _ _ at e;change aS _ _ _ _ [.ptr (gY zs (zB zs c).2),_] _ _ at g;change aS _ _ _ _ [.ptr (gY zs (MV zs c).2)] _ (aF .own (MV zs c).1) at o;change aS _ _ _ _ _ _ [I (wV zs c).1]at b;change aS _ _ _ _ _ _ [I (AJ zs c).1]at d;change aS _ _ _ _ _ _ [I (Em zs c).1]at e;change aS _ _ _ _ _ _ [I (zB zs c).1]at g;change 0<=(wV zs c).1/\(wV zs c).1<7 at p;change 0<=(AJ zs c).1/\(AJ zs c).1<3 at r;change 0<=(Em zs c).1/\(Em zs c).1<100 at B;change 0<=(zB zs c).1/\(zB zs c).1<4 at t;generalize MV zs c=r5 at *;generalize zB zs c=r4 at *;generalize Em zs c=r3 at *;generalize AJ zs c=r2 at *;generalize wV zs c=r1 at *;refine fM 24 [(92,[2,0]),(242,[2])] [(2,65536,[])] [(0,0)] Tryz.func150 rfl (λu q=>?_) (.inr w)
 repeat'(first|refine gO ?_|(conv=>whnf);first|refine CH (b) (.inl rfl) ?_|refine CH (d) (.inl rfl) ?_|refine CH (e) (.inl rfl) ?_|refine CH (g) (.inl rfl) ?_|refine CH (o) (.inl rfl) ?_|refine CI ?_ ?_)
 all_goals
  refine CE rfl rfl ?_;exact wC
theorem wl(n:Nat)(e:1<=n/\n<=32):ao Tryz.prog 400 false [.val none [I (n:Nat)]] (.tup [some 2,none]) (aU.enc .own (f7 n)++[B true]):=by
 have c:=aG ((n:Nat):Int) 1 32;rw[O0 ω]at c;have a:=aZ (b:=[B true]) (aU.enc_fr (f7 n)) ⟨trivial,trivial⟩;rw[show aU.enc .own (f7 n)=_ from Ea n n]at a |-;refine fO 28 [(7,4,[16,17,18,19])] Tryz.func400 rfl ?_ (.inr a)
 repeat'(first|refine gO ?_|(conv=>whnf);first|refine C9 ?_|refine C6 (c) ?_)
 (conv=>whnf)
 refine CD (ι:=Nat) (λk=>[(0,.hold .one [I ((n:Nat))]),(2,.hold .box [.z,.z]),(4,.hold .box [.s .own (List.replicate k [.s .own (List.replicate 16 [I 0])]),.s .own (List.replicate k [B false])]),(5,.hold .one [I ((k:Nat):Int)])]) (λk=>k<=n) (λk=>n - k) (0) ?_ (R0 _) λk g=>?_
 ·exact wB
 by_cases h:k<n
 ·repeat'(first|refine gD ?_|(conv=>whnf);first|refine C9 ?_|refine Mk.mk 16 rfl rfl (by decide) (by decide) rfl ?_|refine Ap.sn (λr d=>by rw[(List.mem_replicate.1 d).2];rfl) rfl (by simp;omega) (by decide) (AF _ k) ?_)
  ((conv=>whnf);refine CB (k+1) ω ω ?_;(exact wB))
 ·obtain rfl:k=n:=ω
  repeat'(first|refine gD ?_|(conv=>whnf);first|refine C9 ?_)
  rfl
theorem xp(n:Nat)(e:1<=n/\n<=32):ao Tryz.prog 401 false [.val none [I (n:Nat)]] (.tup [some 1,none]) (aH.enc .own (dO n)++[B true]):=by
 have c:=aG ((n:Nat):Int) 1 32;rw[O0 ω]at c;have a:=aZ (b:=[B true]) (aH.enc_fr (dO n)) ⟨trivial,trivial⟩;have d:aH.enc .own (dO n)=[.s .own (List.replicate n [I 0,I 0])]:=by simp[aH.enc,dO,bi.enc,List.map_replicate]
 rw[d]at a |-;refine fO 11 [] Tryz.func401 rfl ?_ (.inr a)
 repeat'(first|refine gO ?_|(conv=>whnf);first|refine C9 ?_|refine C6 (c) ?_|refine Mk.mk n rfl rfl ω (wT ω (by decide)) rfl ?_)
 rfl
theorem tK(p f:Nat)(a:1<=p/\p<=32)(b:1<=f/\f<=32):ao Tryz.prog 378 false [.val none [I (p:Nat)],.val none [I (f:Nat)]] (.tup [some 3,none]) (aT.enc .own ⟨f7 f,dO p⟩++[B true]):=by
 refine fO 30 [] Tryz.func378 rfl ?_ (.inr (aZ (aT.enc_fr _) ⟨trivial,trivial⟩))
 repeat'(first|refine gO ?_|(conv=>whnf);first|refine C9 ?_|refine C6 (wl f b) ?_|refine C6 (xp p a) ?_)
 rfl
theorem wO(p f:Nat)(a:List Int)(b:1<=p/\p<=32)(c:1<=f/\f<=32)(d:a.length<=40/\∀x∈a,0<=x):ao Tryz.prog 350 false [.val none [I (p:Nat)],.val none [I (f:Nat)],.val none (aF .imm a)] (.tup [some 5,none]) (af.enc .own (b8 p f a)++[B true]):=by
 have e:=oP b c d;have h:=d.1;have g:=kU (b8 p f a) (bG e);rw[e]at g;refine fO 31 [(2,260,[17,18,19,10,0,1,2,5,3,1000,1005,4,1005,6])] Tryz.func350 rfl ?_ (.inr (aZ (af.enc_fr _) ⟨trivial,trivial⟩))
 repeat'(first|refine gO ?_|(conv=>whnf);first|refine C9 ?_|refine C6 (tK p f b c) ?_|refine CF (g) ⟨⟨rfl,CO (b8 p f a)⟩,trivial⟩ ?_|refine CQ (λ_=>rfl) (λ_=>rfl) ω (by decide) ?_|refine CS (λ_=>rfl) (λ_=>rfl) ω (by decide) ?_|refine C9 ?_)
 rfl
def NZ(p f t:Nat)(lim:Int)(a:List Int)(k:Nat):ab:={caps (uk p f t lim a) k with Quar:=⟨0,[]⟩}
theorem A5(p f t:Nat)(lim:Int)(a:List Int)(c:1<=p/\p<=32)(d:1<=f/\f<=32)(e:1<=t/\t<=4)(g:0<=lim/\lim<=1000)(h:a.length<=40/\∀x∈a,0<=x):ao Tryz.prog 299 false [.val none [I (p:Nat)],.val none [I (f:Nat)],.val none [I (t:Nat)],.val none [I lim],.val none (aF .imm a)] (.tup [some 24,none]) (ab.enc .own (uk p f t lim a)++[B true]):=by
 have b:=aG lim 0 1000;rw[O0 g]at b;refine fO 66 [(9,4,[54,55,56,57])] Tryz.func299 rfl ?_ (.inr (aZ (ab.enc_fr _) ⟨trivial,trivial⟩))
 repeat'(first|refine gO ?_|(conv=>whnf);first|refine C9 ?_|refine C6 (wO p f a c d h) ?_|refine C6 (zy t e) ?_|refine C6 (b) ?_|refine C6 (rh) ?_)
 (conv=>whnf)
 refine CD (ι:=Nat) (λk=>[(2,.hold .one [I ((t:Nat))]),(10,.hold .box [.z,.z,.z,I 0,.z,.z,.z,.z,.z,.z,.z,.z,I 0,.z,I 0,I 0,I 0,I 0,B false,I 0,I 0,.z,I 0,I 0]),(16,.hold .box (ab.enc .own (NZ p f t lim a k))),(17,.hold .one [I ((k:Nat):Int)])]) (λk=>k<=t) (λk=>t - k) (0) ?_ (R0 _) λk i=>?_
 ·exact wB
 by_cases j:k<t
 ·repeat'(first|refine gD ?_|(conv=>whnf);first|refine C9 ?_|refine C6 (xB) ?_|refine Ap.sn JL rfl (by rw[W0];show(List.replicate _ eL).length+1<=_;rw[List.length_replicate];omega) (by decide) (HK k) ?_)
  ((conv=>whnf);refine CB (k+1) ω ω ?_;(exact wB))
 ·obtain rfl:k=t:=ω
  repeat'(first|refine gD ?_|(conv=>whnf);first|refine C9 ?_|refine C6 (rh) ?_)
  rfl
theorem B6:ao Tryz.prog 300 false [] .agg (ax.enc .own ⟨1,[]⟩):=by
 refine fO 2 [] Tryz.func300 rfl ?_ (.inr (ax.enc_fr _))
 repeat'((conv=>whnf);first|with_reducible (first|refine Lm ?_|refine Wm ω ?_|refine Bn ?_|refine jt.wk rfl ?_)|refine Bt ?_|refine Bu ?_|refine C9 ?_)
 exact⟨rfl,rfl,trivial⟩
theorem xq(c:cK)(h:GJ c):ao Tryz.prog 239 false [.val (some 5) (cK.enc .imm c)] (.tup [some 26,none]) (bH.enc .own (world0 c)++[B true]):=by
 have a:=A5 c.Pages c.Frames c.Threads c.Limit c.Refuse h.p h.f h.t h.l h.r;refine fO 26 [(4,2,[23,24])] Tryz.func239 rfl ?_ (.inr (aZ (bH.enc_fr _) ⟨trivial,trivial⟩))
 repeat'(first|refine gO ?_|(conv=>whnf);first|refine C9 ?_|refine C6 (a) ?_|refine C6 (B6) ?_)
 rfl
def nB(o:d9)(l:List eD):List C:=[.s o (l.map (eD.enc o))]
theorem eD.enc_fr(x:eD):gF (eD.enc .own x):=⟨trivial,trivial,trivial,trivial,trivial,trivial⟩
theorem Hu(l:List eD):gF (nB .own l):=⟨⟨.inl λh=>(by cases h),bc _ _ λy _=>eD.enc_fr y⟩,trivial⟩
theorem Hx(l:List eD):dE (nB .own l)=nB .imm l:=by simp[dE,nB,eD.enc,<-bZ,T4]
theorem Bp(zs:List Int)(c:gZ)(ids:Int)(b:jn zs)(p:c.i<=zs.length)(r:1<=ids/\ids<=1000):aS Tryz.prog 243 false [.ptr (gY zs c),.val none [I ids]] [.ptr (gY zs (qo zs c ids).2),.val none [I ids]] .agg (eD.enc .own (qo zs c ids).1):=by
 have w:=bN p 3;have y:=bN w ids;have d:(jR zs c ids).2.i<=zs.length:=bN y 20;have B:=bQ zs c 3 b p (by decide);have C:=bQ zs (yj zs c).2 ids b w r.1;have j:=bQ zs (DO zs c ids).2 20 b y (by decide);have H:=bC zs c (n:=3) (by decide);have J:=bC zs (yj zs c).2 (n:=ids) r.1;have D:=bC zs (DO zs c ids).2 (n:=20) (by decide);have e:=iw zs (jR zs c ids).2 szs b d (by decide);have E:=iw zs (jR zs c ids).2 [5,6] b d (by decide);have F:=iw zs (jR zs c ids).2 [1,30,60,120] b d (by decide);have l:=iw zs (jR zs c ids).2 [1,2,3,10,30] b d (by decide);have g:=bQ zs (jR zs c ids).2 4 b d (by decide);have h:=bQ zs (bt zs (jR zs c ids).2 4).2 999 b (bN d _) (by decide);have G:=bQ zs (jR zs c ids).2 10 b d (by decide);have K:=bC zs (bt zs (jR zs c ids).2 4).2 (n:=999) (by decide);have L:=bC zs (jR zs c ids).2 (n:=10) (by decide);change aS _ _ _ _ [.ptr (gY zs (yj zs c).2),_] _ [I (yj zs c).1]at B;change aS _ _ _ _ [.ptr (gY zs (DO zs c ids).2),_] _ [I (DO zs c ids).1]at C;change aS _ _ _ _ [.ptr (gY zs (jR zs c ids).2),_] _ [I (jR zs c ids).1]at j;change 0<=(yj zs c).1/\(yj zs c).1<3 at H;change 0<=(DO zs c ids).1/\(DO zs c ids).1<ids at J;change 0<=(jR zs c ids).1/\(jR zs c ids).1<20 at D;have o:=eD.enc_fr (qo zs c ids).1;unfold qo at o |-;generalize jR zs c ids=k at *;generalize DO zs c ids=n at *;generalize yj zs c=t at *;obtain⟨a,M⟩:=k;dsimp only at d e E F l g h G K L D j o |-;refine fM 77 [(92,[2,0]),(310,[2,1])] [] [(0,0),(0,0)] Tryz.func243 rfl (λu q=>?_) (.inr o)
 repeat'(first|refine gO ?_|(conv=>whnf);first|refine CH (B) (.inl rfl) ?_|refine CH (C) (.inl rfl) ?_|refine CH (j) (.inl rfl) ?_)
 obtain rfl|rfl|rfl|rfl|rfl|rfl|rfl|rfl|rfl|rfl|rfl|rfl|rfl|rfl|rfl|rfl|rfl|rfl|rfl|rfl:=(show a=0\/a=1\/a=2\/a=3\/a=4\/a=5\/a=6\/a=7\/a=8\/a=9\/a=10\/a=11\/a=12\/a=13\/a=14\/a=15\/a=16\/a=17\/a=18\/a=19 by omega)
 ·rw[C8 (show((0:Int))<=6 by decide)]
  repeat'(first|refine gO ?_|(conv=>whnf);first|refine CH (e) (.inl rfl) ?_)
  refine CE rfl rfl ?_;exact wC
 ·rw[C8 (show((1:Int))<=6 by decide)]
  repeat'(first|refine gO ?_|(conv=>whnf);first|refine CH (e) (.inl rfl) ?_)
  refine CE rfl rfl ?_;exact wC
 ·rw[C8 (show((2:Int))<=6 by decide)]
  repeat'(first|refine gO ?_|(conv=>whnf);first|refine CH (e) (.inl rfl) ?_)
  refine CE rfl rfl ?_;exact wC
 ·rw[C8 (show((3:Int))<=6 by decide)]
  repeat'(first|refine gO ?_|(conv=>whnf);first|refine CH (e) (.inl rfl) ?_)
  refine CE rfl rfl ?_;exact wC
 ·rw[C8 (show((4:Int))<=6 by decide)]
  repeat'(first|refine gO ?_|(conv=>whnf);first|refine CH (e) (.inl rfl) ?_)
  refine CE rfl rfl ?_;exact wC
 ·rw[C8 (show((5:Int))<=6 by decide)]
  repeat'(first|refine gO ?_|(conv=>whnf);first|refine CH (e) (.inl rfl) ?_)
  refine CE rfl rfl ?_;exact wC
 ·rw[C8 (show((6:Int))<=6 by decide)]
  repeat'(first|refine gO ?_|(conv=>whnf);first|refine CH (e) (.inl rfl) ?_)
  refine CE rfl rfl ?_;exact wC
 ·rw[C7 (show ¬((7:Int)<=6) by decide),C8 (show((7:Int))<=9 by decide)]
  repeat'(first|refine gO ?_|fail)
  refine CE rfl rfl ?_;exact wC
 ·rw[C7 (show ¬((8:Int)<=6) by decide),C8 (show((8:Int))<=9 by decide)]
  repeat'(first|refine gO ?_|fail)
  refine CE rfl rfl ?_;exact wC
 ·rw[C7 (show ¬((9:Int)<=6) by decide),C8 (show((9:Int))<=9 by decide)]
  repeat'(first|refine gO ?_|fail)
  refine CE rfl rfl ?_;exact wC
 ·rw[C7 (show ¬((10:Int)<=6) by decide),C7 (show ¬((10:Int)<=9) by decide),C8 (show((10:Int))<=12 by decide)]
  repeat'(first|refine gO ?_|(conv=>whnf);first|refine CH (g) (.inl rfl) ?_|refine CH (h) (.inl rfl) ?_)
  refine CE rfl rfl ?_;exact wC
 ·rw[C7 (show ¬((11:Int)<=6) by decide),C7 (show ¬((11:Int)<=9) by decide),C8 (show((11:Int))<=12 by decide)]
  repeat'(first|refine gO ?_|(conv=>whnf);first|refine CH (g) (.inl rfl) ?_|refine CH (h) (.inl rfl) ?_)
  refine CE rfl rfl ?_;exact wC
 ·rw[C7 (show ¬((12:Int)<=6) by decide),C7 (show ¬((12:Int)<=9) by decide),C8 (show((12:Int))<=12 by decide)]
  repeat'(first|refine gO ?_|(conv=>whnf);first|refine CH (g) (.inl rfl) ?_|refine CH (h) (.inl rfl) ?_)
  refine CE rfl rfl ?_;exact wC
 ·rw[C7 (show ¬((13:Int)<=6) by decide),C7 (show ¬((13:Int)<=9) by decide),C7 (show ¬((13:Int)<=12) by decide),C8 (show((13:Int))=13 by decide)]
  repeat'(first|refine gO ?_|(conv=>whnf);first|refine CH (G) (.inl rfl) ?_)
  refine CE rfl rfl ?_;exact wC
 ·rw[C7 (show ¬((14:Int)<=6) by decide),C7 (show ¬((14:Int)<=9) by decide),C7 (show ¬((14:Int)<=12) by decide),C7 (show ¬((14:Int)=13) by decide),C8 (show((14:Int))=14 by decide)]
  repeat'(first|refine gO ?_|(conv=>whnf);first|refine CH (E) (.inl rfl) ?_)
  refine CE rfl rfl ?_;exact wC
 ·rw[C7 (show ¬((15:Int)<=6) by decide),C7 (show ¬((15:Int)<=9) by decide),C7 (show ¬((15:Int)<=12) by decide),C7 (show ¬((15:Int)=13) by decide),C7 (show ¬((15:Int)=14) by decide),C8 (show((15:Int))=15 by decide)]
  repeat'(first|refine gO ?_|fail)
  refine CE rfl rfl ?_;exact wC
 ·rw[C7 (show ¬((16:Int)<=6) by decide),C7 (show ¬((16:Int)<=9) by decide),C7 (show ¬((16:Int)<=12) by decide),C7 (show ¬((16:Int)=13) by decide),C7 (show ¬((16:Int)=14) by decide),C7 (show ¬((16:Int)=15) by decide),C8 (show((16:Int))=16 by decide)]
  repeat'(first|refine gO ?_|(conv=>whnf);first|refine CH (F) (.inl rfl) ?_)
  refine CE rfl rfl ?_;exact wC
 ·rw[C7 (show ¬((17:Int)<=6) by decide),C7 (show ¬((17:Int)<=9) by decide),C7 (show ¬((17:Int)<=12) by decide),C7 (show ¬((17:Int)=13) by decide),C7 (show ¬((17:Int)=14) by decide),C7 (show ¬((17:Int)=15) by decide),C7 (show ¬((17:Int)=16) by decide),C8 (show((17:Int))=17 by decide)]
  repeat'(first|refine gO ?_|fail)
  refine CE rfl rfl ?_;exact wC
 ·rw[C7 (show ¬((18:Int)<=6) by decide),C7 (show ¬((18:Int)<=9) by decide),C7 (show ¬((18:Int)<=12) by decide),C7 (show ¬((18:Int)=13) by decide),C7 (show ¬((18:Int)=14) by decide),C7 (show ¬((18:Int)=15) by decide),C7 (show ¬((18:Int)=16) by decide),C7 (show ¬((18:Int)=17) by decide)]
  repeat'(first|refine gO ?_|(conv=>whnf);first|refine CH (l) (.inl rfl) ?_)
  refine CE rfl rfl ?_;exact wC
 ·rw[C7 (show ¬((19:Int)<=6) by decide),C7 (show ¬((19:Int)<=9) by decide),C7 (show ¬((19:Int)<=12) by decide),C7 (show ¬((19:Int)=13) by decide),C7 (show ¬((19:Int)=14) by decide),C7 (show ¬((19:Int)=15) by decide),C7 (show ¬((19:Int)=16) by decide),C7 (show ¬((19:Int)=17) by decide)]
  repeat'(first|refine gO ?_|(conv=>whnf);first|refine CH (l) (.inl rfl) ?_)
  refine CE rfl rfl ?_;exact wC
theorem zP(zs:List Int)(c:gZ)(b:jn zs)(d:c.i<=zs.length):aS Tryz.prog 151 false [.ptr (gY zs c),.val none [I 40]] [.ptr (gY zs (mO zs c).2),.val none [I 40]] .one (nB .own (mO zs c).1):=by
 have e:=bQ zs c 41 b d (by decide);have g:=bC zs c (n:=41) (by decide);obtain⟨n,h⟩:=I2 g.1;have a:(bt zs c 41).1.toNat=n:=by rw[h];rfl
 unfold mO;rw[a];rw[h]at e g;refine fM 27 [(92,[2,0]),(243,[2,0])] [] [(0,0),(0,0)] Tryz.func151 rfl (λu q=>?_) (.inr (Hu _))
 repeat'(first|refine gO ?_|(conv=>whnf);first|refine CH (e) (.inl rfl) ?_)
 (conv=>whnf)
 refine CD (ι:=Nat) (λi=>[(0,.hold .box (gY zs (kK zs c i).2)),(5,.hold .one (nB .own (kK zs c i).1)),(6,.hold .one [I ((n:Nat):Int)]),(7,.hold .one [I ((i:Nat):Int)])]) (λi=>i<=n) (λi=>n - i) (0) ?_ (R0 _) λi p=>?_
 ·exact wC
 obtain⟨t,-,j⟩:=qv (zs:=zs) (c:=c) d (n:=i) ω;by_cases w:i<n
 ·have k:=Bp zs (kK zs c i).2 (1+(i:Int) / 2) b j ω
  have l:((i:Nat):Int).tdiv 2=(i:Int) / 2:=Int.tdiv_eq_ediv_of_nonneg ω
  repeat'(first|refine gD ?_|(conv=>whnf);first|with_reducible (first|refine CR l ?_|refine CL ω ?_)|refine CH (k) (.inl rfl) ?_|refine CP (aR λ_=>rfl) (λr o=>by rw[Z0.1 o];rfl) (by simp[aV,d8,eD.enc]) (by simp;omega) (by simp only[W0];exact wT (by simp;omega) (by decide)) rfl ?_)
  ((conv=>whnf);refine CB (i+1) ω ω ?_)
  repeat'(first|exact trivial|rfl| exact dX _ |exact CI rfl (CI (T0 (C.s d9.own) (by simp[kK];rfl)) trivial)|refine CI ?_ ?_|(exact Dy (by first|omega|(simp only;omega)|(simp;omega))))
 ·obtain rfl:i=n:=ω
  repeat'(first|refine gD ?_|fail)
  refine CE rfl rfl ?_;exact wC
def rfs(h:ab):List Int:=h.Kernel.Refuse
theorem A6(k:af)(p:Int):(ge k p).1.Refuse=k.Refuse:=by unfold ge;split<;>rfl
theorem rm(k:af)(p:Int):∀n,(cL k p n).1.Refuse=k.Refuse
 | 0=>rfl
 | n+1=>by
  unfold cL;split
  ·exact(A6 _ _).trans (rm k p n)
  ·exact rm k p n
theorem Jo(h:ab)(i:Nat):rfs (qJ h i).1=rfs h:=by unfold qJ;split<;>rfl
theorem yh(h:ab)(t c:Nat):rfs (gr h t c).1=rfs h:=by
 unfold gr;split
 ·rfl
 split
 ·rfl
 split
 ·rfl
 split
 ·exact A6 _ _
 ·exact(Jo _ _).trans (A6 _ _)
theorem Hf(h:ab)(t n:Int):rfs (gq h t n).1=rfs h:=by
 unfold gq;split
 ·rfl
 split
 ·rfl
 split
 ·rfl
 split
 ·rfl
 split
 ·split
  ·exact yh _ _ _
  ·exact yh _ _ _
 ·unfold pu
  split
  ·rfl
  split
  ·exact rm _ _ _
  ·exact((su _ _ _).2).trans (rm _ _ _)
theorem KR(h:ab)(t i:Nat):rfs (freeT h t i).1=rfs h:=by
 unfold freeT;split
 ·exact(su _ _ _).2
 split
 ·rfl
 split
 ·exact(jb t _ _).2.2.2.2.2.2.2
 split<;>rfl
theorem xZ(t:Nat)(h:ab):∀k,rfs (flushN t h k).1=rfs h
 | 0=>rfl
 | k+1=>((kz _ (spilt (flushN t h k).1 t k)).2.2.2.2.2.2.2).trans (xZ t h k)
theorem Eu{h:ab}(a:bn h [])(b:JI h):∀n,rfs (mW h n).1=rfs h
 | 0=>rfl
 | n+1=>by
  obtain⟨c,d⟩:=yW a b n;unfold mW;split
  ·rename_i e
   unfold tJ at e;rw[I0]at e;exact((Eb c e.1).2.2.1).trans (Eu a b n)
  ·exact Eu a b n
theorem La{w:bH}{m:Nat}(h:tz w m)(a:eD):rfs (qW w a).1.Heap=rfs w.Heap:=by
 unfold qW;split
 ·exact Hf _ _ _
 split
 ·split
  ·rfl
  unfold pQ;split
  ·unfold ul
   split
   ·rfl
   split
   ·exact KR _ _ _
   ·rfl
  split
  ·unfold qE
   split
   ·rfl
   split
   ·rfl
   split<;>rfl
  ·unfold ui
   split
   ·exact((su _ _ _).2).trans (vY _ _ _).2.2
   ·rfl
 split
 ·unfold gU
  split
  ·split<;>rfl
  split
  ·rfl
  split
  ·exact(jb _ _ _).2.2.2.2.2.2.2
  ·exact xZ _ _ _
 split
 ·unfold rg
  split
  ·exact(kz _ _).2.2.2.2.2.2.2
  ·rfl
 split
 ·unfold qi
  split
  ·rfl
  ·show rfs (started w.Heap).1=_
   unfold rfs;rw[(BF h.inv).2.1]
 split
 ·exact Eu h.inv h.ji _
 ·rfl
theorem ES{c:cK}(h:GJ c)(acts:List eD):∀n,rfs (A7 c acts n).1.Heap=c.Refuse
 | 0=>rfl
 | n+1=>(La (zd h acts n) _).trans (ES h acts n)
def pv(w:bH):List C:=bu w.Heap++ax.enc .imm w.Ref
theorem Mm(w:bH):dE (pv w)=bH.enc .imm w:=by
 unfold pv;rw[eG,bz,<-CW,qw,CW]
 rfl
theorem Ds(w:bH)(id:Int)(g:w.Heap.Objs.length<=1048576):aS Tryz.prog 302 false [.ptr (pv w),.val none [I id]] [.ptr (pv w),.val none [I id]] .one [I (qD w.Heap id)]:=by
 refine fM 28 [] [] [(0,0),(0,0)] Tryz.func302 rfl (λu q=>?_)
 repeat'(first|refine gO ?_|(conv=>whnf);first|refine C9 ?_)
 (conv=>whnf)
 refine CD (ι:=Nat) (λi=>[(0,.hold .box (pv w)),(1,.hold .one [I (id)]),(5,.hold .one [I ((i:Nat):Int)])]) (λi=>i<=w.Heap.Objs.length/\∀(j:Nat)(z:bx),j<i->w.Heap.Objs[j]? = some z->KB id z=false) (λi=>w.Heap.Objs.length - i) (0) ?_ (⟨R0 _,λj z h=>ω⟩) λi c=>?_
 ·exact wC
 obtain⟨c,b⟩:=c;by_cases d:i<w.Heap.Objs.length
 ·have a:=ah d
  by_cases e:(nth w.Heap.Objs i).Id=id
  ·repeat'(first|refine gA ?_|(conv=>whnf);first|with_reducible refine CA (aa a) ?_|refine C9 ?_|refine CG rfl (aa a) rfl ?_)
   refine CE rfl (T0 (λz=>[I z]) (d2 a (O0 e) b).symm) ?_;exact wC
  ·repeat'(first|refine gA ?_|(conv=>whnf);first|with_reducible refine CA (aa a) ?_|refine C9 ?_|refine CG rfl (aa a) rfl ?_)
   ((conv=>whnf);refine CB (i+1) ⟨ω,cX a (Q0 e) b⟩ ω ?_;(exact wC))
 ·repeat'(first|refine gD ?_|(conv=>whnf);first|refine C9 ?_)
  refine CE rfl (T0 (λz=>[I z]) (eB ω b).symm) ?_;exact wC
theorem cF(y:ab):(bu y).length=24:=rfl
theorem xt(w:bH)(m n:Nat)(h:tz w m)(B:n<=50):aS Tryz.prog 308 false [.ptr (pv w),.val none [I (n:Nat)]] [.ptr (pv ⟨(mW w.Heap n).1,w.Ref⟩),.val none [I (n:Nat)]] .one [I ((mW w.Heap n).2:Nat)]:=by
 refine fM 35 [(368,[2])] [] [(0,0),(0,0)] Tryz.func308 rfl (λu q=>?_)
 repeat'(first|refine gO ?_|(conv=>whnf);first|refine C9 ?_)
 (conv=>whnf)
 refine CD (ι:=Nat) (λi=>[(0,.hold .box (pv ⟨(mW w.Heap i).1,w.Ref⟩)),(1,.hold .one [I ((n:Nat):Int)]),(5,.hold .one [I (((mW w.Heap i).2:Nat):Int)]),(6,.hold .one [I ((i:Nat):Int)])]) (λi=>i<=n/\(mW w.Heap i).2=i) (λi=>n - i) (0) ?_ (⟨R0 _,rfl⟩) λi l=>?_
 ·exact wC
 obtain⟨l,C⟩:=l;obtain⟨o,D⟩:=yW h.inv h.ji i;have b:mW w.Heap (i+1)=if tJ (mW w.Heap i).1=true then(mStep (mW w.Heap i).1,(mW w.Heap i).2+1) else mW w.Heap i:=rfl
 have p:=(aE.1 o.ker).2.2.2.2;by_cases E:i<n
 ·cases c:(mW w.Heap i).1.Meshing with
  | true=>
   have y:=(Ay _ o c).frame (r:=ax.enc .imm w.Ref) ((cF _).trans (cF _).symm);by_cases g:(mW w.Heap i).1.Kernel.Calls<=99000
   ·have d:tJ (mW w.Heap i).1=true:=by unfold tJ;rw[c,O0 g];rfl
    rw[C8 d]at b;generalize mW w.Heap i=s at *
    repeat'(first|refine gD ?_|(conv=>whnf);first|refine C9 ?_|refine Bf.t (O0 g) ?_|refine Bf.t c ?_|refine CH (y) (.inl rfl) ?_)
    ((conv=>whnf);refine CB (i+1) ⟨ω,by rw[b];simp only;omega⟩ ω ?_)
    rw[b];exact wC
   ·have d:tJ (mW w.Heap i).1=false:=by unfold tJ;rw[c,Q0 g];rfl
    have a:∀k,mW w.Heap (i+k)=mW w.Heap i:=λk=>by
     induction k with
     | zero=>rfl
     | succ k j=>show(if tJ (mW w.Heap (i+k)).1=true then _ else mW w.Heap (i+k))=_;rw[j,d,C7 (by simp)]
    have e:=a (n - i);rw[show i+(n - i)=n by omega]at e;rw[e];generalize mW w.Heap i=s at *
    repeat'(first|refine gD ?_|(conv=>whnf);first|refine C9 ?_|refine Bf.f (Q0 g) ?_|refine Bf.t c ?_)
    refine CE rfl rfl ?_;exact wC
  | false=>
   have d:tJ (mW w.Heap i).1=false:=by unfold tJ;rw[c];rfl
   have a:∀k,mW w.Heap (i+k)=mW w.Heap i:=λk=>by
    induction k with
    | zero=>rfl
    | succ k j=>show(if tJ (mW w.Heap (i+k)).1=true then _ else mW w.Heap (i+k))=_;rw[j,d,C7 (by simp)]
   have e:=a (n - i);rw[show i+(n - i)=n by omega]at e;rw[e];generalize mW w.Heap i=s at *
   repeat'(first|refine gD ?_|(conv=>whnf);first|refine C9 ?_|refine Bf.f c ?_)
   refine CE rfl rfl ?_;exact wC
 ·obtain rfl:i=n:=ω
  repeat'(first|refine gD ?_|(conv=>whnf);first|refine C9 ?_)
  refine CE rfl rfl ?_;exact wC
theorem ET{k:af}(a:aB k=true):(aB k&&decide (k.Calls<100000))=decide (k.Calls≠100000):=by
 have:=(aE.1 a).2.2.2.2;rw[a,Bool.true_and,Y3,C0,C0];omega
theorem vQ(w:bH)(a:eD)(m:Nat)(h:tz w m)(B:a.Kind=5\/a.Kind=6\/a.Kind=7):aS Tryz.prog 304 false [.ptr (pv w),.val (some 5) (eD.enc .imm a)] [.ptr (pv ⟨(gU w.Heap a).1,w.Ref⟩),.val (some 5) (eD.enc .imm a)] .one [I (gU w.Heap a).2]:=by
 have d:=h.inv;have o:=d.nc;have p:w.Heap.Caches.length<=4:=by have:=(dC.1 d.mail).1.2.1;omega
 have C:=kM.of d.mail;have i:=kF w.Heap.Kernel (bG d.ker);rw[ET d.ker]at i;have j:=aG a.Thread 0 (w.Heap.Caches.length - 1:Int);unfold gU;refine fM 59 [(361,[2,0]),(362,[2,0])] [(3,267,[15,16,17,18,19,20,21,14,22,23,6,0,1,2,3,4,5,6,7,8,9,10,11,1009,12]),(8,15,[30,31,32,33,34,35,36,37,38,39,40,41,42,43,44])] [(0,0),(0,0)] Tryz.func304 rfl (λu q=>?_);by_cases l:a.Kind=5
 ·rw[C8 l]
  by_cases e:0<=a.Thread/\a.Thread<=w.Heap.Caches.length - 1
  ·have y:ny w.Heap a:=e
   obtain⟨t,g⟩:=I2 e.1;have b:=AZ w.Heap.Mail t d.mail ω;rw[<-g]at b;rw[g]at e |-;simp only[C2];rw[g]at b;by_cases c:0<(nth w.Heap.Mail.Buffers t).length
   ·rw[C8 (show ny w.Heap a/\0<(nth w.Heap.Mail.Buffers t).length from⟨y,c⟩)]
    rw[C8 c,O0 c]at b;rw[<-g]at b
    repeat'(first|refine gA ?_|(conv=>whnf);first|with_reducible refine Bf.E (λk=>?_) (λk=>?_)|refine C9 ?_|refine CF (b) ⟨⟨rfl,aK.enc_fz w.Heap.Mail⟩,⟨rfl,rfl⟩,trivial⟩ ?_|refine C9 ?_)
    refine CE rfl rfl ?_;exact wC
   ·rw[C7 (show ¬(ny w.Heap a/\0<(nth w.Heap.Mail.Buffers t).length) from λx=>c x.2)]
    rw[C7 c,Q0 c]at b;rw[<-g]at b
    repeat'(first|refine gA ?_|(conv=>whnf);first|with_reducible refine Bf.E (λk=>?_) (λk=>?_)|refine C9 ?_|refine CF (b) ⟨⟨rfl,aK.enc_fz w.Heap.Mail⟩,⟨rfl,rfl⟩,trivial⟩ ?_|refine C9 ?_)
    refine CE rfl rfl ?_;exact wC
  ·rw[C7 (show ¬(ny w.Heap a/\0<(nth w.Heap.Mail.Buffers a.Thread.toNat).length) from λx=>e x.1)]
   have b:=EZ w.Heap.Mail a.Thread d.mail ω
   repeat'(first|refine gA ?_|(conv=>whnf);first|with_reducible refine Bf.E (λk=>?_) (λk=>?_)|refine C9 ?_|refine CF (b) ⟨⟨rfl,aK.enc_fz w.Heap.Mail⟩,⟨rfl,rfl⟩,trivial⟩ ?_|refine C9 ?_)
   refine CE rfl rfl ?_;exact wC
 rw[C7 l];by_cases e:w.Heap.Kernel.Calls≠100000;rotate_left
 ·rw[C8 (show ¬(w.Heap.Kernel.Calls≠100000/\ny w.Heap a) from λx=>e x.1)]
  rw[Q0 e]at i
  repeat'(first|refine gA ?_|(conv=>whnf);first|refine C9 ?_|refine CF (i) ⟨⟨rfl,CO _⟩,trivial⟩ ?_|refine C9 ?_)
  refine CE rfl rfl ?_;exact wC
 rw[O0 e]at i;by_cases c:0<=a.Thread/\a.Thread<=w.Heap.Caches.length - 1;rotate_left
 ·rw[C8 (show ¬(w.Heap.Kernel.Calls≠100000/\ny w.Heap a) from λx=>c x.2)]
  rw[Q0 c]at j
  repeat'(first|refine gA ?_|(conv=>whnf);first|refine C9 ?_|refine CF (i) ⟨⟨rfl,CO _⟩,trivial⟩ ?_|refine C6 (j) ?_|refine C9 ?_)
  refine CE rfl rfl ?_;exact wC
 rw[C7 (show ¬¬(w.Heap.Kernel.Calls≠100000/\ny w.Heap a) from O3 ⟨e,c⟩)];rw[O0 c]at j;obtain⟨t,g⟩:=I2 c.1;by_cases n:a.Kind=6
 ·rw[C8 n]
  have b:=(tD w.Heap t d ω).frame (r:=ax.enc .imm w.Ref) ((cF _).trans (cF _).symm);rw[show a.Thread.toNat=t by omega];rw[<-g]at b
  repeat'(first|refine gA ?_|(conv=>whnf);first|refine C9 ?_|refine CF (i) ⟨⟨rfl,CO _⟩,trivial⟩ ?_|refine C6 (j) ?_|refine CH (b) (.inl rfl) ?_|refine C9 ?_)
  refine CE rfl rfl ?_;exact wC
 ·rw[C7 n]
  have b:=(xz w.Heap t d ω).frame (r:=ax.enc .imm w.Ref) ((cF _).trans (cF _).symm);rw[show a.Thread.toNat=t by omega];rw[<-g]at b
  repeat'(first|refine gA ?_|(conv=>whnf);first|refine C9 ?_|refine CF (i) ⟨⟨rfl,CO _⟩,trivial⟩ ?_|refine C6 (j) ?_|refine CH (b) (.inl rfl) ?_|refine C9 ?_)
  refine CE rfl rfl ?_;exact wC
theorem uP(w:bH)(a:eD)(i m:Nat)(h:tz w m)(X:m<=900)(G:JB a)(t:i<w.Heap.Objs.length):aS Tryz.prog 303 false [.ptr (pv w),.val (some 5) (eD.enc .imm a),.val none [I (i:Nat)]] [.ptr (pv (pQ w a i).1),.val (some 5) (eD.enc .imm a),.val none [I (i:Nat)]] .one [I (pQ w a i).2]:=by
 have e:=h.inv;have b:=ah t;have M:=rA e (am t);have N:=lW e (am t) (k:=0);have O:1<=(nth w.Heap.Objs i).Size/\(nth w.Heap.Objs i).Size<=1000:=by
  rcases e.oow _ (am t) with⟨s,P,Y,Z⟩|⟨l,H,d,c⟩
  ·have hc:=aD (e.L.sok s P)
   have:=mJ (n:=(nth w.Heap.Objs i).Size) ω;omega
  ·have h8:=bP (e.L.lok l H)
   omega
 have g:=kF w.Heap.Kernel (bG e.ker);rw[ET e.ker]at g;have Q:=G.k;have R:=G.p;have S:=G.v;unfold pQ;refine fM 126 [(354,[2,0,0]),(356,[2,0,0]),(358,[2,0,0])] [(6,7,[29,30,31,32,33,34,35]),(8,269,[40,41,42,43,44,45,46,47,39,48,49,50,51,0,1,2,3,4,5,6,7,8,9,10,11,12,13,1010]),(13,10,[62,63,64,65,66,67,68,69,70,71]),(15,273,[76,77,78,79,80,81,82,83,84,85,86,87,75,88,89,90,91,0,1,2,3,4,5,6,7,8,9,10,11,12,13,14,15,16,17,1014]),(17,15,[93,94,95,96,97,98,99,100,101,102,103,104,105,106,107]),(19,271,[112,113,114,115,116,117,118,119,120,121,111,122,123,124,125,0,1,2,3,4,5,6,7,8,9,10,11,12,13,14,15,1012])] [(0,0),(0,0),(0,0)] Tryz.func303 rfl (λu q=>?_);by_cases J:a.Kind=2
 ·rw[C8 J]
  unfold ul;by_cases d:w.Heap.Kernel.Calls=100000
  ·rw[C8 d]
   rw[Q0 (O3 d)]at g
   repeat'(first|refine gA ?_|(conv=>whnf);first|with_reducible refine CA (aa b) ?_|refine C9 ?_|refine CF (g) ⟨⟨rfl,CO _⟩,trivial⟩ ?_|refine CG rfl (aa b) rfl ?_|refine C9 ?_)
   refine CE rfl rfl ?_;exact wC
  rw[C7 d];rw[O0 d]at g;have C:=(M6 w.Heap i a.Thread e t).frame (r:=ax.enc .imm w.Ref) ((cF _).trans (cF _).symm);by_cases c:0<=a.Thread/\a.Thread<=w.Heap.Caches.length - 1
  ·rw[C8 (show ny w.Heap a from c)]
   rw[C8 c,C8 c]at C;have T:=zw w.Ref (nth w.Heap.Objs i).Id m h.ref ω;generalize freeT w.Heap a.Thread.toNat i=f at C |-;by_cases o:f.2=0
   ·rw[C8 o]
    repeat'(first|refine gA ?_|(conv=>whnf);first|with_reducible (first|refine CA (aa b) ?_|refine Bf.E (λj=>?_) (λj=>?_))|refine C9 ?_|refine CF (g) ⟨⟨rfl,CO _⟩,trivial⟩ ?_|refine CG rfl (aa b) rfl ?_|refine CH (C) (.inl rfl) ?_|refine Cl.sh T rfl ?_|refine C9 ?_)
    refine CE rfl rfl ?_;exact wC
   ·rw[C7 o]
    repeat'(first|refine gA ?_|(conv=>whnf);first|with_reducible (first|refine CA (aa b) ?_|refine Bf.E (λj=>?_) (λj=>?_))|refine C9 ?_|refine CF (g) ⟨⟨rfl,CO _⟩,trivial⟩ ?_|refine CG rfl (aa b) rfl ?_|refine CH (C) (.inl rfl) ?_|refine C9 ?_)
    refine CE rfl rfl ?_;exact wC
  ·rw[C7 (show ¬ny w.Heap a from c)]
   rw[C7 c,C7 c]at C
   repeat'(first|refine gA ?_|(conv=>whnf);first|with_reducible (first|refine CA (aa b) ?_|refine Bf.E (λj=>?_) (λj=>?_))|refine C9 ?_|refine CF (g) ⟨⟨rfl,CO _⟩,trivial⟩ ?_|refine CG rfl (aa b) rfl ?_|refine CH (C) (.inl rfl) ?_|refine C9 ?_)
   refine CE rfl rfl ?_;exact wC
 rw[C7 J];by_cases K:a.Kind=3
 ·rw[C8 K]
  unfold qE;have D:=aG a.At 0 ((nth w.Heap.Objs i).Size - 1);by_cases d:0<=a.At/\a.At<=(nth w.Heap.Objs i).Size - 1;rotate_left
  ·rw[C8 d]
   rw[Q0 d]at D
   repeat'(first|refine gA ?_|(conv=>whnf);first|with_reducible (first|refine CA (aa b) ?_|refine Bf.E (λj=>?_) (λj=>?_))|refine C9 ?_|refine CG rfl (aa b) rfl ?_|refine C6 (D) ?_|refine C9 ?_)
   refine CE rfl rfl ?_;exact wC
  rw[C7 (O3 d)];rw[O0 d]at D;have F:=(xb w.Heap i a.At a.Value e t d).frame (r:=ax.enc .imm w.Ref) (by split<;>rfl);have U:=lW e (am t) d;by_cases c:(ar w.Heap.Kernel.Machine.Table (((nth w.Heap.Objs i).Addr+a.At) / 16)).Mode=1
  ·rw[C8 c]
   rw[C8 (.inl c),C8 c]at F
   repeat'(first|refine gA ?_|(conv=>whnf);first|with_reducible (first|refine CA (aa b) ?_|refine Bf.E (λj=>?_) (λj=>?_))|refine C9 ?_|refine CG rfl (aa b) rfl ?_|refine C6 (D) ?_|refine CH (F) (.inl rfl) ?_|refine C9 ?_)
   refine CE rfl rfl ?_;exact wC
  rw[C7 c];by_cases o:0<=a.Value/\a.Value<=999;rotate_left
  ·rw[C8 o]
   rw[C8 (.inr o),C7 c,C8 o]at F
   repeat'(first|refine gA ?_|(conv=>whnf);first|with_reducible (first|refine CA (aa b) ?_|refine Bf.E (λj=>?_) (λj=>?_))|refine C9 ?_|refine CG rfl (aa b) rfl ?_|refine C6 (D) ?_|refine CH (F) (.inl rfl) ?_|refine C9 ?_)
   refine CE rfl rfl ?_;exact wC
  rw[C7 (O3 o)];rw[C7 (λx=>x.elim c λy=>y o),C7 c,C7 (O3 o)]at F;obtain⟨b5,V⟩:=z8 w.Ref (nth w.Heap.Objs i).Id a.At a.Value m h.ref ω o
  repeat'(first|refine gA ?_|(conv=>whnf);first|with_reducible (first|refine CA (aa b) ?_|refine Bf.E (λj=>?_) (λj=>?_))|refine C9 ?_|refine CG rfl (aa b) rfl ?_|refine C6 (D) ?_|refine CH (F) (.inl rfl) ?_|refine C6 (V) ?_|refine C9 ?_)
  refine CE rfl rfl ?_;exact wC
 rw[C7 K];unfold ui;by_cases d:w.Heap.Kernel.Calls=100000
 ·rw[C7 (λx=>x.1 d)]
  rw[Q0 (O3 d)]at g
  repeat'(first|refine gA ?_|(conv=>whnf);first|with_reducible refine CA (aa b) ?_|refine C9 ?_|refine CF (g) ⟨⟨rfl,CO _⟩,trivial⟩ ?_|refine CG rfl (aa b) rfl ?_|refine C9 ?_)
  refine CE rfl rfl ?_;exact wC
 rw[O0 d]at g;by_cases c:kA w.Heap i a.Value
 ·rw[C8 ⟨d,c⟩]
  have B:=(qz w.Heap i a.Value e t c.1).frame (r:=ax.enc .imm w.Ref) (by split<;>rfl);rw[C8 c,O0 c]at B;obtain⟨b7,W⟩:=Dn w.Ref (nth w.Heap.Objs i).Id a.Value m h.ref ω
  repeat'(first|refine gA ?_|(conv=>whnf);first|with_reducible refine CA (aa b) ?_|refine C9 ?_|refine CF (g) ⟨⟨rfl,CO _⟩,trivial⟩ ?_|refine CG rfl (aa b) rfl ?_|refine CH (B) (.inl rfl) ?_|refine C6 (W) ?_|refine C9 ?_)
  refine CE rfl rfl ?_;exact wC
 ·rw[C7 (λx=>c x.2)]
  by_cases o:x5 w.Heap (nth w.Heap.Objs i).Addr<0
  ·have B:=(Er w.Heap (nth w.Heap.Objs i).Addr a.Value (by have:=e.lens.larges;omega) e.L.lok o).frame (r:=ax.enc .imm w.Ref) ((cF _).trans (cF _).symm)
   repeat'(first|refine gA ?_|(conv=>whnf);first|with_reducible refine CA (aa b) ?_|refine C9 ?_|refine CF (g) ⟨⟨rfl,CO _⟩,trivial⟩ ?_|refine CG rfl (aa b) rfl ?_|refine CH (B) (.inl rfl) ?_|refine C9 ?_)
   refine CE rfl rfl ?_;exact wC
  ·have B:=(qz w.Heap i a.Value e t ω).frame (r:=ax.enc .imm w.Ref) (by split<;>rfl)
   rw[C7 c,Q0 c]at B
   repeat'(first|refine gA ?_|(conv=>whnf);first|with_reducible refine CA (aa b) ?_|refine C9 ?_|refine CF (g) ⟨⟨rfl,CO _⟩,trivial⟩ ?_|refine CG rfl (aa b) rfl ?_|refine CH (B) (.inl rfl) ?_|refine C9 ?_)
   refine CE rfl rfl ?_;exact wC
theorem tz.fit{w:bH}{m:Nat}(h:tz w m)(a:iB w.Heap.Kernel.Refuse):ab.sml w.Heap/\ab.wf w.Heap:=
 ⟨(h.inv.fit a (kM.of h.inv.mail).sml).sml,h.inv.wf a⟩
theorem EE(w:bH)(a:eD)(m:Nat)(h:tz w m)(K:m<=900)(L:iB w.Heap.Kernel.Refuse)(p:JB a):aS Tryz.prog 240 false [.ptr (pv w),.val (some 5) (eD.enc .imm a)] [.ptr (pv (qW w a).1),.val (some 5) (eD.enc .imm a)] .one [I (qW w a).2]:=by
 have i:=h.inv;have M:=p.k;have O:=p.n;have j:=i.nums;unfold cj at j;rw[C0]at j;unfold qW;refine fM 123 [(143,[2,0,0]),(302,[2,0]),(303,[2,0,0]),(304,[2,0]),(306,[2,0]),(307,[2]),(308,[2,0])] [(3,265,[13,14,15,16,17,18,19,21,22,0,1,2,3,4,5,6,7,8,9,10,11,1010,12]),(5,269,[26,27,28,29,30,31,32,33,25,34,35,36,37,0,1,2,3,4,5,6,7,8,9,10,11,12,13,1010]),(19,21,[62,63,64,65,66,67,68,69,70,71,72,73,74,75,76,77,78,79,80,81,82]),(21,5,[86,87,88,89,90])] [(0,0),(0,0)] Tryz.func240 rfl (λu q=>?_);by_cases F:a.Kind=1
 ·rw[C8 F]
  have c:=(xv w.Heap a.Thread a.N i).frame (r:=ax.enc .imm w.Ref) ((cF _).trans (cF _).symm);by_cases e:(gq w.Heap a.Thread a.N).2.2=0
  ·rw[C8 e]
   have y:1<=a.N/\a.N<=1000:=by
    refine Classical.byContradiction λB=>?_
    unfold gq at e;rw[C8 B]at e;split at e
    ·exact absurd (show(5:Int)=0 from e) (by decide)
    split at e
    ·exact absurd (show(1:Int)=0 from e) (by decide)
    exact absurd (show(2:Int)=0 from e) (by decide)
   have o:=xj w.Ref a.N m h.ref ω y;generalize gq w.Heap a.Thread a.N=f at c e |-
   repeat'(first|refine gA ?_|(conv=>whnf);first|with_reducible refine Bf.E (λb=>?_) (λb=>?_)|refine C9 ?_|refine CH (c) (.inl rfl) ?_|refine C6 (o) ?_|refine C9 ?_)
   refine CE rfl rfl ?_;exact wC
  ·rw[C7 e]
   generalize gq w.Heap a.Thread a.N=f at c e |-
   repeat'(first|refine gA ?_|(conv=>whnf);first|with_reducible refine Bf.E (λb=>?_) (λb=>?_)|refine C9 ?_|refine CH (c) (.inl rfl) ?_|refine C9 ?_)
   refine CE rfl rfl ?_;exact wC
 rw[C7 F];by_cases G:a.Kind=2\/a.Kind=3\/a.Kind=4
 ·rw[C8 G]
  have c:=Ds w a.N (by have:=i.lens.objs;omega);by_cases e:qD w.Heap a.N<0
  ·rw[C8 e]
   repeat'(first|refine gA ?_|(conv=>whnf);first|with_reducible refine Bf.E (λb=>?_) (λb=>?_)|refine C9 ?_|refine CH (c) (.inl rfl) ?_)
   all_goals first|omega|skip
   all_goals
    refine CE rfl rfl ?_;exact wC
  ·rw[C7 e]
   obtain⟨P,S,T⟩:=fU (KB a.N) w.Heap.Objs (by unfold qD at e;omega);have o:=uP w a (qD w.Heap a.N).toNat m h K p P;rw[show(((qD w.Heap a.N).toNat:Nat):Int)=qD w.Heap a.N by omega]at o
   repeat'(first|refine gA ?_|(conv=>whnf);first|with_reducible refine Bf.E (λb=>?_) (λb=>?_)|refine C9 ?_|refine CH (c) (.inl rfl) ?_|refine CH (o) (.inl rfl) ?_)
   all_goals first|omega|skip
   all_goals
    refine CE rfl rfl ?_;exact wC
 rw[C7 G];by_cases C:a.Kind=5\/a.Kind=6\/a.Kind=7
 ·rw[C8 C]
  have c:=vQ w a m h C
  repeat'(first|refine gA ?_|(conv=>whnf);first|with_reducible refine Bf.E (λb=>?_) (λb=>?_)|refine C9 ?_|refine CH (c) (.inl rfl) ?_)
  all_goals first|omega|skip
  all_goals
   refine CE rfl rfl ?_;exact wC
 rw[C7 C];by_cases H:a.Kind=8
 ·rw[C8 H]
  unfold rg;have d:=kF w.Heap.Kernel (bG i.ker);rw[ET i.ker]at d;have c:=aG a.N 0 1000;by_cases g:w.Heap.Kernel.Calls≠100000;rotate_left
  ·rw[C7 (λx=>g x.1)]
   rw[Q0 g]at d
   repeat'(first|refine gA ?_|(conv=>whnf);first|with_reducible refine Bf.E (λb=>?_) (λb=>?_)|refine C9 ?_|refine CF (d) ⟨⟨rfl,CO _⟩,trivial⟩ ?_|refine C9 ?_)
   refine CE rfl rfl ?_;exact wC
  rw[O0 g]at d;by_cases l:0<=a.N/\a.N<=1000;rotate_left
  ·rw[C7 (λx=>l x.2.1)]
   rw[Q0 l]at c
   repeat'(first|refine gA ?_|(conv=>whnf);first|with_reducible refine Bf.E (λb=>?_) (λb=>?_)|refine C9 ?_|refine CF (d) ⟨⟨rfl,CO _⟩,trivial⟩ ?_|refine C6 (c) ?_|refine C9 ?_)
   refine CE rfl rfl ?_;exact wC
  rw[O0 l]at c;by_cases D:w.Heap.Clock+a.N<=1000000
  ·rw[C8 ⟨g,l,D⟩]
   have o:=(Az w.Heap a.N i l D).frame (r:=ax.enc .imm w.Ref) ((cF _).trans (cF _).symm)
   repeat'(first|refine gA ?_|(conv=>whnf);first|with_reducible refine Bf.E (λb=>?_) (λb=>?_)|refine C9 ?_|refine CF (d) ⟨⟨rfl,CO _⟩,trivial⟩ ?_|refine C6 (c) ?_|refine CH (o) (.inl rfl) ?_|refine C9 ?_)
   refine CE rfl rfl ?_;exact wC
  ·rw[C7 (λx=>D x.2.2)]
   repeat'(first|refine gA ?_|(conv=>whnf);first|with_reducible refine Bf.E (λb=>?_) (λb=>?_)|refine C9 ?_|refine CF (d) ⟨⟨rfl,CO _⟩,trivial⟩ ?_|refine C6 (c) ?_|refine C9 ?_)
   refine CE rfl rfl ?_;exact wC
 rw[C7 H];by_cases J:a.Kind=9
 ·rw[C8 J]
  unfold qi;obtain⟨Q,R⟩:=h.fit L;have d:=Dh w.Heap Q R;rw[show dB w.Heap=true from i.to]at d;cases g:w.Heap.Meshing with
  | true=>
   rw[C8 rfl]
   repeat'(first|refine gA ?_|(conv=>whnf);first|with_reducible refine Bf.E (λb=>?_) (λb=>?_)|refine C9 ?_|refine Bf.t g ?_|refine C9 ?_)
   refine CE rfl rfl ?_;exact wC
  | false=>
   rw[C7 (by simp)];have c:=(wX w.Heap i).frame (r:=ax.enc .imm w.Ref) ((cF _).trans (cF _).symm);cases l:(started w.Heap).2<;>rw[l]at c
   ·rw[C7 (by simp)]
    repeat'(first|refine gA ?_|(conv=>whnf);first|with_reducible refine Bf.E (λb=>?_) (λb=>?_)|refine C9 ?_|refine Bf.f g ?_|refine CF (d) ⟨⟨rfl,bz w.Heap⟩,trivial⟩ ?_|refine CH (c) (.inl rfl) ?_|refine C9 ?_)
    refine CE rfl rfl ?_;exact wC
   ·rw[C8 rfl]
    repeat'(first|refine gA ?_|(conv=>whnf);first|with_reducible refine Bf.E (λb=>?_) (λb=>?_)|refine C9 ?_|refine Bf.f g ?_|refine CF (d) ⟨⟨rfl,bz w.Heap⟩,trivial⟩ ?_|refine CH (c) (.inl rfl) ?_|refine C9 ?_)
    refine CE rfl rfl ?_;exact wC
 rw[C7 J];have k10:a.Kind=10:=ω
 have d:=aG a.N 0 50;by_cases g:0<=a.N/\a.N<=50
 ·rw[C8 ⟨k10,g⟩]
  rw[O0 g]at d;obtain⟨n,B⟩:=I2 g.1;have c:=xt w m n h ω;rw[show a.N.toNat=n by omega];rw[<-B]at c
  repeat'(first|refine gA ?_|(conv=>whnf);first|with_reducible refine Bf.E (λb=>?_) (λb=>?_)|refine C9 ?_|refine C6 (d) ?_|refine CH (c) (.inl rfl) ?_|refine C9 ?_)
  refine CE rfl rfl ?_;exact wC
 ·rw[C7 (λx=>g x.2)]
  rw[Q0 g]at d
  repeat'(first|refine gA ?_|(conv=>whnf);first|with_reducible refine Bf.E (λb=>?_) (λb=>?_)|refine C9 ?_|refine C6 (d) ?_|refine C9 ?_)
  refine CE rfl rfl ?_;exact wC
theorem yP(w:bH)(h1:ab.sml w.Heap)(a:ax.sml w.Ref):ao Tryz.prog 241 false [.val (some 26) (bH.enc .imm w)] .agg (bH.enc .own w):=by
 have b:=zz w.Heap h1;have c:=dL w.Ref a;refine fO 10 [(1,5,[3,4,5,6,7])] Tryz.func241 rfl ?_ (.inr (bH.enc_fr _))
 repeat'(first|refine gO ?_|(conv=>whnf);first|refine C6 (b) ?_|refine C6 (c) ?_|refine C9 ?_)
 rfl
theorem yX(c:cK)(acts:List eD)(h:GJ c)(d:iB c.Refuse)(n:∀a∈acts,JB a)(D:acts.length<=80):ao Tryz.prog 149 false [.val (some 5) (cK.enc .imm c),.val none (nB .imm acts)] (.tup [some 26,none]) (bH.enc .own (A7 c acts acts.length).1++aF .own (A7 c acts acts.length).2):=by
 have o:=xq c h;refine fP 42 [(240,[2,0]),(2000005,[6,21,25])] [] Tryz.func149 rfl ?_ (.inr (aZ (bH.enc_fr _) (bJ _)))
 repeat'(first|refine gD ?_|(conv=>whnf);first|refine C6 (o) ?_|refine DU.mk rfl rfl rfl ?_)
 (conv=>whnf)
 refine CD (ι:=Nat) (λi=>[(1,.hold .one (nB .imm acts)),(4,.hold .box [.z,.z,.z,I 0,.z,.z,.z,.z,.z,.z,.z,.z,I 0,.z,I 0,I 0,I 0,I 0,B false,I 0,I 0,.z,I 0,I 0,I 0,.z]),(6,.hold .box (pv (A7 c acts i).1)),(8,.hold .one (aF .own (A7 c acts i).2)),(9,.hold .one [I ((i:Nat):Int)])]) (λi=>i<=acts.length) (λi=>acts.length - i) (0) ?_ (R0 _) λi p=>?_
 ·repeat'(first|exact trivial|rfl |exact nS q|exact dX _|refine CI ?_ ?_|(exact Dy (by first|omega|(simp only;omega)|(simp;omega))))
 have e:=zd h acts i;have b:=ES h acts i;have g:(A7 c acts i).2.length=i:=by
  clear e b p
  induction i with
  | zero=>rfl
  | succ k t=>show((A7 c acts k).2++[_]).length=_;rw[U2,t];rfl
 by_cases j:i<acts.length
 ·have l:=ah j
  have u:=EE (A7 c acts i).1 (nth acts i) i e ω (by unfold rfs at b;rw[b];exact d) (n _ (am j))
  repeat'(first|refine gD ?_|(conv=>whnf);first|with_reducible refine CA (aa l) ?_|refine CG rfl (aa l) rfl ?_|refine CH (u) (.inl rfl) ?_|refine CP co (λr d=>by rw[Z0.1 d];rfl) (by simp[aV,d8]) (by simp;omega) (by simp only[W0];exact wT (by simp;omega) (by decide)) rfl ?_)
  ((conv=>whnf);refine CB (i+1) ω ω ?_)
  repeat'(first|exact trivial|rfl| exact dX _ |exact CI rfl (CI (T0 (C.s d9.own) (by simp[A7,rI])) trivial)|refine CI ?_ ?_|(exact Dy (by first|omega|(simp only;omega)|(simp;omega))))
 ·obtain rfl:i=acts.length:=ω
  have w:=e.fit (by unfold rfs at b;rw[b];exact d);have y:=yP (A7 c acts acts.length).1 w.1 (e.ref.sml ω)
  repeat'(first|refine gD ?_|(conv=>whnf);first|refine CF (y) ⟨⟨rfl,Mm _⟩,trivial⟩ ?_)
  rfl
theorem Bl(zs:List Int)(c:gZ):iB (oZ zs c).Refuse:=by
 show iB (nj zs 4 0 [] (zB zs c).2).1;have key:∀(f i:Nat)(out:List Int)(c:gZ),(∀x∈out,lQ x)->∀x∈(nj zs f i out c).1,lQ x:=by
  intro f
  induction f with
  | zero=>intro i out c h;exact h
  | succ f b=>
   intro i out c h;unfold nj;split
   ·refine b _ _ _ λx a=>?_
    rcases O2.1 a with a|a
    ·exact h x a
    ·rw[Z0.1 a]
     have:=bC zs (bt zs c 4).2 (n:=12) (by decide);exact⟨ω,ω⟩
   ·exact h
 exact⟨by
   have d:∀(f i:Nat)(out:List Int)(c:gZ),out.length+f<=4->(nj zs f i out c).1.length<=4:=by
     intro f
     induction f with
     | zero=>intro i out c h;exact h
     | succ f b=>
       intro i out c h;unfold nj;split
       · exact b _ _ _ (by simp only[U2,List.length_singleton];omega)
       · show out.length<=4;omega
   have:=d 4 0 [] (zB zs c).2 (Q2 _);omega,key 4 0 [] _ (λx a=>by cases a)⟩
theorem x6(zs:List Int)(a:jn zs):aS Tryz.prog 61 false [.ptr (gY zs (tX zs))] [.ptr (gY zs (mO zs (fj zs)).2)] .agg (bH.enc .own (drawn zs)):=by
 have b:(tX zs).i<=zs.length:=R0 _;obtain⟨g,d⟩:=uE b;have o:=bC zs (fj zs) (n:=41) (by decide);obtain⟨p,h,-⟩:=qv (zs:=zs) (c:=fj zs) d (n:=(bt zs (fj zs) 41).1.toNat) ω;have e:=uS zs (tX zs) a b;have j:=zP zs (fj zs) a d;have k:=yX (oZ zs (tX zs)) (mO zs (fj zs)).1 g (Bl zs _) h (by show(kK zs (fj zs) _).1.length<=80;omega);have l:drawn zs=(A7 (oZ zs (tX zs)) (mO zs (fj zs)).1 (mO zs (fj zs)).1.length).1:=rfl;rw[l];change aS _ _ _ _ [.ptr (gY zs (fj zs))] _ _ at e;generalize oZ zs (tX zs)=cf at *;generalize r:mO zs (fj zs)=A at *;generalize t:A7 cf A.1 A.1.length=R at *;refine fM 14 [(150,[2]),(151,[2,0])] [] [(0,0)] Tryz.func61 rfl (λu q=>?_) (.inr (bH.enc_fr _))
 repeat'(first|refine gO ?_|(conv=>whnf);first|refine CH (e) (.inl rfl) ?_|refine CH (j) (.inl rfl) ?_|refine CF (k) ⟨⟨rfl,cK.enc_fz _⟩,⟨rfl,Hx _⟩,trivial⟩ ?_)
 refine CE rfl rfl ?_;exact wC
def Px(z:List Int):List C:=[.s .imm (z.map rU)]
theorem Bc(zs:List Int)(b:jn zs):pX Tryz.prog 62 true [.val none (Px zs)] .box (gY zs (tX zs)):=by
 have r:=b.1;have e:IntKind.i64.wrap (98801+(zs.length:Nat))=w64 (98801+(zs.length:Nat)):=rfl;have g:oN zs 0=98801+(zs.length:Nat):=by show w64 _=_;rw[<-e];exact ek ω ω
 have a:=T0 I g;refine Ps (n:=32) (t:=2) (mo:=[]) (tb:=[]) Tryz.func62 (by kernel_rfl) rfl (by kernel_rfl) (by rfl) rfl ?_
 repeat'(first|refine gO ?_|fail)
 (conv=>whnf)
 refine CD (ι:=Nat) (λi=>[(0,.hold .one (Px zs)),(3,.hold .one [I (oN zs i)]),(4,.hold .one [I ((i:Nat):Int)])]) (λi=>i<=min zs.length 4000) (λi=>min zs.length 4000 - i) (0) ?_ (R0 _) λi u=>?_
 ·repeat'(first|exact trivial|rfl |exact nS a|exact dX _|refine CI ?_ ?_|(exact Dy (by first|omega|(simp only;omega)|(simp;omega))))
 have h:IntKind.i64.wrap (oN zs i*131)=w64 (oN zs i*131):=rfl;have j:IntKind.i64.wrap (w64 (oN zs i*131)+nth zs i)=w64 (w64 (oN zs i*131)+nth zs i):=rfl;have k:IntKind.i64.wrap (w64 (w64 (oN zs i*131)+nth zs i)+7)=w64 (w64 (w64 (oN zs i*131)+nth zs i)+7):=rfl;have l:IntKind.i64.wrap (BitVec.ofInt IntKind.i64.bits (w64 (w64 (w64 (oN zs i*131)+nth zs i)+7)) &&& BitVec.ofInt IntKind.i64.bits 1073741823).toNat=oN zs (i+1):=rfl;by_cases c:i<zs.length/\i<4000
 ·have d:=ah c.1
  have w:=b.2 _ (am c.1);generalize oN zs i=H at *;generalize o:oN zs (i+1)=H2 at *
  repeat'(first|refine gD ?_|(conv=>whnf);first|with_reducible (first|refine CA (aa d) ?_|refine CJ h ?_|refine CJ j ?_|refine CJ k ?_|refine CJ l ?_)|refine CG rfl (aa d) rfl ?_)
  ((conv=>whnf);refine CB (i+1) ω ω ?_)
  rw[o];exact wC
 ·obtain rfl:i=min zs.length 4000:=ω
  have p:tX zs = ⟨0,oN zs (min zs.length 4000)⟩:=rfl;rw[p];generalize oN zs (min zs.length 4000)=H at *
  repeat'(first|refine gD ?_|(conv=>whnf);first|with_reducible refine Bf.D (λq=>?_) (λq=>?_))
  all_goals rfl
theorem w6(zs:List Int)(a:jn zs):ao Tryz.prog 16 false [.val none (Px zs)] .agg (bH.enc .own (drawn zs)):=by
 have b:=Bc zs a;have c:=x6 zs a;refine fP 6 [(61,[2])] [] Tryz.func16 rfl ?_ (.inr (bH.enc_fr _))
 repeat'(first|refine gO ?_|(conv=>whnf);first|refine Cl.g b (.inr rfl) ?_|refine CH (c) (.inl rfl) ?_)
 rfl
set_option maxHeartbeats 2000000
set_option maxHeartbeats 2000000
set_option maxHeartbeats 2000000
set_option maxHeartbeats 2000000
set_option maxHeartbeats 2000000
set_option maxHeartbeats 2000000
theorem KF(zs:List Int):iB (drawn zs).Heap.Kernel.Refuse:=by
 have a:(tX zs).i<=zs.length:=R0 _;have:=ES (uE a).1 (mO zs (fj zs)).1 (mO zs (fj zs)).1.length;unfold rfs at this;show iB (A7 _ _ _).1.Heap.Kernel.Refuse;rw[this];exact Bl zs _
theorem Hq(zs:List Int):ab.sml (drawn zs).Heap/\ab.wf (drawn zs).Heap:=(D4 zs).fit (KF zs)
theorem Ns(zs:List Int)(a:zs.length<=9223372036854775807):ao Tryz.prog 15 false [.val none (Px zs)] .one [B (decide ((zs.length:Int) > 1048576))]:=by
 refine fO 6 [] Tryz.func15 rfl ?_
 repeat'(first|refine gO ?_|fail)
 rfl
def sm{α:Type}(f:α->Int):List α->Int
 | []=>0
 | a::l=>f a+sm f l
theorem n9{α:Type}(f:α->Int):∀l m:List α,sm f (l++m)=sm f l+sm f m
 | [],m=>by simp[sm]
 | a::l,m=>by simp only[List.cons_append,sm,n9 f l m];omega
theorem Mz{α:Type}(f:α->Int){l m:List α}(h:l.Perm m):sm f l=sm f m:=by
 induction h with
 | nil=>rfl
 | cons x _ a=>simp only[sm,a]
 | swap x y l=>simp only[sm];omega
 | trans _ _ b c=>exact b.trans c
theorem Dc{α β:Type}{f:α->Int}{g:β->Int}(k:α->β):∀l:List α,(∀a∈l,g (k a)=f a)->sm g (l.map k)=sm f l
 | [],_=>rfl
 | a::l,h=>by
  simp only[U4,sm];rw[h a (O1 ..),Dc k l λb c=>h b (C4 _ c)]
theorem zW{α β:Type}{f:α->Int}{g:β->Int}(k:α->List β):∀l:List α,(∀a∈l,sm g (k a)=f a)->sm g (l.flatMap k)=sm f l
 | [],_=>rfl
 | a::l,h=>by
  rw[v5,n9];simp only[sm];rw[h a (O1 ..),zW k l λb c=>h b (C4 _ c)]
theorem uF{α:Type}{f:α->Int}{c:Int} : ∀l:List α,(∀a∈l,f a=c)->sm f l=l.length*c
 | [],_=>by simp[sm]
 | a::l,h=>by
  simp only[sm];rw[h a (O1 ..),uF l λb d=>h b (C4 _ d),List.length_cons,Int.natCast_succ,Int.add_mul];omega
theorem iP{α:Type}[Inhabited α](f:α->Int)(xs:List α):de f xs xs.length=sm f xs:=by
 have h:∀n,n<=xs.length->de f xs n=sm f (xs.take n):=λn=>by
  induction n with
  | zero=>intro _;rfl
  | succ n a=>
   intro c;have b:=ah (xs:=xs) (i:=n) ω;rw[O4,b,n9];show de f xs n+f (nth xs n)=_;rw[a ω];simp[sm]
 rw[h _ (Q2 _),v4]
def cst(h:ab)(a:Int):Int:=if 0<=dU h (a / 16) then dJ h a else(nth h.Larges (tV h a)).Size
theorem Dv{h:ab}{p:Int}(a:∀s∈h.Spans,s.Page≠p):dU h p = -1:=by
 unfold dU;refine eB (i:=h.Spans.length) (Q2 _) λj z c b=>?_
 unfold iG;exact Q0 (a z (Q1 b))
theorem q7{h:ab}{E:List Int}(f:bn h E){a c:Int}(l:0<=c)(d:iS h.Spans a c):cst h a=csz c:=by
 obtain⟨s,d,e,g⟩:=d;obtain⟨i,j,rfl⟩:=aW d;have k:(nth h.Spans i).Page=a / 16:=by have n:=e.1;have o:=e.2.1;omega
 have b:=jM f.L j;rw[k]at b;unfold cst dJ;rw[b,C8 ω,C2,g.resolve_left ω]
theorem LL{h:ab}{E:List Int}(e:bn h E){a:Int}(c:iS h.Spans a (-1)):cst h a=dJ h a:=by
 obtain⟨s,c,d,-⟩:=c;obtain⟨i,f,rfl⟩:=aW c;have g:(nth h.Spans i).Page=a / 16:=by have j:=d.1;have k:=d.2.1;omega
 have b:=jM e.L f;rw[g]at b;unfold cst;rw[b,C8 ω]
theorem ya{h:ab}{E:List Int}(a:bn h E){l:a8}(b:l∈h.Larges):cst h (16*l.Page)=l.Size:=by
 have o:=bP (a.L.lok l b);have g:=aN (a.L.lok l b);have i:16*l.Page / 16=l.Page:=ω
 have c:dU h l.Page = -1:=Dv λs k e=>a.L.dis s k l b 0 ω ω
 unfold cst;rw[i,c,C7 (by decide)];obtain⟨f,p,-⟩:=uw b rfl;obtain⟨j,n,d⟩:=aW b;have q:=aN (a.L.lok _ (am f));have:=a.L.one (tV h (16*l.Page)) j f n 0 0 ω (by rw[d];omega) (by rw[d];omega);rw[this,d]
def Mv(s:au):List Int:=((List.range 16).filter λi=>decide (((i:Nat):Int) % csz s.Class=0)&&aQ s.Bits (((i:Nat):Int) / csz s.Class)).map λi=>16*s.Page+(i:Nat)
theorem oI{s:au}{a:Int} : a∈Mv s↔eE s a:=by
 unfold Mv eE;rw[T3];constructor
 ·rintro⟨i,b,rfl⟩
  rw[U3,I0,C0,List.mem_range]at b;rw[show 16*s.Page+((i:Nat):Int) - 16*s.Page=(i:Nat) by omega];exact⟨ω,ω,b.2.1,b.2.2⟩
 ·rintro⟨e,f,c,d⟩
  refine⟨(a - 16*s.Page).toNat,?_,ω⟩;rw[U3,I0,C0,List.mem_range];rw[show(((a - 16*s.Page).toNat:Nat):Int)=a - 16*s.Page by omega];exact⟨ω,c,d⟩
theorem Nl(s:au):(Mv s).Nodup:=by
 unfold Mv List.Nodup;rw[List.pairwise_map];exact(List.nodup_range.sublist List.filter_sublist).imp λh e=>h ω
def fil(f:Nat->Bool)(n:Nat):Nat:=((List.range n).filter f).length
theorem fp(f:Nat->Bool)(n:Nat):fil f (n+1)=fil f n+if f n=true then 1 else 0:=by
 unfold fil;rw[List.range_succ,List.filter_append,U2];cases e:f n<;>simp[e]
theorem L1(f g p:Nat->Bool)(k:Nat)(a:0<k)(b:∀m j,j<k->f (k*m+j)=p m)(c:∀m j,j<k->g (k*m+j)=(decide (j=0)&&p m))(n:Nat):fil f (k*n)=k*fil g (k*n):=by
 induction n with
 | zero=>rfl
 | succ n d=>
  have h:∀j,j<=k->fil f (k*n+j)=fil f (k*n)+(if p n=true then j else 0)/\fil g (k*n+j)=fil g (k*n)+(if p n=true/\0<j then 1 else 0):=λj=>by
   induction j with
   | zero=>intro _;cases p n<;>simp
   | succ j ih2=>
    intro r;obtain⟨i,l⟩:=ih2 ω;rw[<-Nat.add_assoc,fp,fp,i,l,b n j ω,c n j ω];cases p n with
    | false=>simp
    | true=>
     by_cases e:j=0
     ·subst e;simp
     ·simp[e,Nat.pos_of_ne_zero e,Nat.add_assoc]
  obtain⟨o,q⟩:=h k (Q2 _);rw[Nat.mul_succ,o,q,d,Nat.mul_add];cases p n<;>simp[a]
theorem ND{s:au}(f:aY s=true):GT s=(Mv s).length*csz s.Class:=by
 have d:=aD f;obtain⟨k,b⟩:=I2 (show 0<=csz s.Class by rcases bM d.2.2 with e|e|e|e<;>rw[e]<;>decide);have g:∃n,16=k*n/\0<k:=by
  rcases bM d.2.2 with e|e|e|e<;>rw[e]at b
  ·exact⟨16,ω,ω⟩
  ·exact⟨8,ω,ω⟩
  ·exact⟨4,ω,ω⟩
  ·exact⟨2,ω,ω⟩
 obtain⟨n,l,a⟩:=g;have h:=L1 (mi s) (λi=>decide (((i:Nat):Int) % csz s.Class=0)&&aQ s.Bits (((i:Nat):Int) / csz s.Class)) (λm=>aQ s.Bits ((m:Nat):Int)) k a (λm j c=>by
   unfold mi;rw[b,<-Int.natCast_ediv,Nat.mul_add_div a,Nat.div_eq_of_lt c,Nat.add_zero]) (λm j c=>by
   rw[b,<-Int.natCast_ediv,<-Int.natCast_emod,Nat.mul_add_div a,Nat.div_eq_of_lt c,Nat.add_zero,Nat.mul_add_mod,Nat.mod_eq_of_lt c]
   congr 1
   exact decide_eq_decide.2 ⟨λe=>ω,λe=>ω⟩) n
 rw[<-l]at h;unfold GT pw Mv;rw[W0,W0,b];unfold fil at h;rw[h,Int.natCast_mul,Int.mul_comm,b]
def Gw(h:ab):List Int:=h.Spans.flatMap Mv++h.Larges.map λl=>16*l.Page
theorem EO{h:ab}(f:bn h []):(holders h).Perm (Gw h):=by
 have g:=f.nd;rw[List.nil_append]at g;have o:=f.L;refine(List.perm_ext_iff_of_nodup g ?_).2 λa=>?_
 ·unfold Gw
  rw[List.nodup_append];refine⟨?_,?_,?_⟩
  ·unfold List.Nodup
   rw[List.pairwise_flatMap];refine⟨λs _=>Nl s,?_⟩;refine f.srs.imp fun {s u} j a k b n=>?_
   have c:=oI.1 k;have p:=oI.1 n;have:=c.2.1;have:=p.1;omega
  ·unfold List.Nodup
   rw[List.pairwise_map];exact f.srl.imp λj=>ω
  ·intro a k b n e
   obtain⟨s,i,c⟩:=List.mem_flatMap.1 k;obtain⟨l,d,rfl⟩:=T3.1 n;have c:=oI.1 c;have q:=aN (o.lok l d);have r:=c.1;have t:=c.2.1;exact o.dis s i l d 0 ω ω
 ·have:=f.mem a
  rw[List.nil_append]at this;rw[this];unfold Live Gw;rw[O2,List.mem_flatMap,T3];constructor
  ·rintro(⟨s,i,c,-⟩|⟨l,d,e⟩)
   ·exact .inl ⟨s,i,oI.2 c⟩
   ·exact .inr ⟨l,d,e.symm⟩
  ·rintro(⟨s,i,c⟩|⟨l,d,e⟩)
   ·exact .inl ⟨s,i,oI.1 c,.inl (by decide)⟩
   ·exact .inr ⟨l,d,e.symm⟩
theorem JU{h:ab}(b:bn h []):sm (cst h) (holders h)=jP h.Spans h.Larges:=by
 have e:=b.L;rw[Mz _ (EO b)];unfold Gw jP;rw[n9,iP,iP]
 congr 1
 ·refine zW Mv h.Spans λs d=>?_
  have f:=aD (e.sok s d);rw[uF (c:=csz s.Class) (Mv s) λa g=>q7 b f.2.2.1 ⟨s,d,oI.1 g,.inr rfl⟩,ND (e.sok s d)]
 ·exact Dc _ h.Larges λl i=>ya b i
theorem yo{h:ab}(f:Int->Int):∀(b:List (List Int))(k:Nat),(∀j:Nat,j<b.length->∀a∈nth b j,f a=csz ((k+j:Nat):Int))->sm f b.flatten=cY k b
 | [],_,_=>rfl
 | l::b,k,e=>by
  rw[List.flatten_cons,n9,cY];rw[uF (c:=csz (k:Nat)) l λa d=>e 0 (by simp) a d,yo (h:=h) f b (k+1) λj g a d=>by
    rw[show k+1+j=k+(j+1) by omega];exact e (j+1) (by simp;omega) a d]
theorem qk(xs:List aL):quarCells xs xs.length=sm (λx=>csz x.Class) xs:=by
 have h:∀n,quarCells xs n=de (λx:aL=>csz x.Class) xs n:=λn=>by
  induction n with
  | zero=>rfl
  | succ n a=>simp only[quarCells,de,a]
 rw[h,iP]
theorem EG{h:ab}(a:bn h []){o:bx}(d:o∈h.Objs):cst h o.Addr=di o:=by
 unfold di;rcases a.oow o d with⟨s,b,e,f⟩|⟨l,c,g,i⟩
 ·have j:=aD (a.L.sok s b)
  rw[C8 ω,<-f];exact q7 a j.2.2.1 ⟨s,b,e,.inr rfl⟩
 ·have k:=bP (a.L.lok l c)
  rw[C7 (by unfold aI;repeat' split<;>omega),g,ya a c,i]
theorem balance{h:ab}(b:bn h []):(bU h).Held=(bU h).Live+(bU h).Cached+(bU h).Stale+(bU h).Posted:=by
 show jP h.Spans h.Larges=de di h.Objs h.Objs.length+de ce h.Caches h.Caches.length+quarCells h.Quar.Lst h.Quar.Lst.length+de (dJ h) (aC h.Mail) (aC h.Mail).length;rw[<-JU b];unfold holders;rw[n9,n9,n9,iP,iP,iP,qk];have q:sm (cst h) (h.Objs.map (·.Addr))=sm di h.Objs:=Dc _ _ λo r=>EG b r
 have t:sm (cst h) (bT h)=sm ce h.Caches:=zW _ _ λc d=>by
  unfold ce;rw[C8 (b.cach c d)];exact yo (h:=h) (cst h) c.Lists 0 λj u a e=>by rw[C5];exact q7 b ω (b.hca c d j u a e)
 have w:sm (cst h) (h.Quar.Lst.map (·.Addr))=sm (λx:aL=>csz x.Class) h.Quar.Lst:=Dc _ _ λx n=>by
  have p:=b.hqu x n;obtain⟨s,i,-,B⟩:=id p;have d:=aD (b.L.sok s i);have k:0<=x.Class:=by
   have l:=b.quar;unfold eK at l;rw[I0]at l;obtain⟨j,y,rfl⟩:=aW n;have:=d5 l.1 y;unfold iM at this;simp only[I0,C0]at this;exact this.1.1
  exact q7 b k p
 have A:sm (cst h) (aC h.Mail)=sm (dJ h) (aC h.Mail):=by
  have:=Dc (f:=dJ h) (g:=cst h) (λa:Int=>a) (aC h.Mail) λa e=>LL b (b.hfl a e)
  rwa [List.map_id']at this
 rw[q,t,w,A]
theorem Jx{f g:Nat->Bool} : ∀n,(∀p,p<n->¬(f p=true/\g p=true))->fil (λp=>f p || g p) n=fil f n+fil g n
 | 0,_=>rfl
 | n+1,h=>by
  rw[fp,fp,fp,Jx n λp c=>h p ω];have:=h n ω;cases a:f n<;>cases b:g n<;>simp[a,b]at this |-<;>omega
theorem yO{f g:Nat->Bool} : ∀n,(∀p,p<n->f p=g p)->fil f n=fil g n
 | 0,_=>rfl
 | n+1,h=>by rw[fp,fp,yO n λp a=>h p ω,h n ω]
theorem yM(a l:Nat):∀n,fil (λp=>decide (a<=p)&&decide (p<a+l)) n=min n (a+l) - min n a
 | 0=>by simp[fil]
 | n+1=>by
  rw[fp,yM a l n];by_cases b:a<=n<;>by_cases c:n<a+l<;>simp[b,c]<;>omega
theorem Gm{f:Nat->Bool} : ∀n,fil (λp=>!f p) n+fil f n=n
 | 0=>rfl
 | n+1=>by
  have:=Gm (f:=f) n;rw[fp,fp];cases f n<;>simp<;>omega
def Jq(xs:List a7)(p:Nat):Bool:=xs.any λr=>decide (r.At<=(p:Nat))&&decide (((p:Nat):Int)<r.At+r.Len)
theorem zX{xs:List a7}{p:Nat} : Jq xs p=true↔RH xs p:=by
 unfold Jq RH;rw[C3];constructor
 ·rintro⟨r,a,h⟩
  rw[I0,C0,C0]at h;exact⟨r,a,h⟩
 ·rintro⟨r,a,h⟩
  exact⟨r,a,by rw[I0,C0,C0];exact h⟩
theorem JN:∀(xs:List a7)(n:Nat),xs.Pairwise (λr u=>r.At+r.Len<u.At)->(∀r∈xs,0<=r.At/\1<=r.Len/\r.At+r.Len<=n)->((fil (Jq xs) n:Nat):Int)=sm (·.Len) xs
 | [],n,_,_=>by
  have:fil (Jq []) n=fil (λp=>decide (0<=p)&&decide (p<0+0)) n:=yO n λp _=>by simp[Jq]
  rw[this,yM];simp[sm]
 | r::xs,n,g,c=>by
  obtain⟨h,i⟩:=List.pairwise_cons.1 g;have d:=c r (O1 ..);obtain⟨a,j⟩:=I2 d.1;obtain⟨l,f⟩:=I2 (show 0<=r.Len by omega);have e:fil (Jq (r::xs)) n=fil (λp=>(decide (a<=p)&&decide (p<a+l)) || Jq xs p) n:=yO n λp _=>by
   unfold Jq;rw[List.any_cons]
   congr 1
   rw[j,f]
   congr 1
   ·exact decide_eq_decide.2 ω
   ·exact decide_eq_decide.2 ω
  rw[e,Jx n λp k o=>?_,yM]
  ·have q:=JN xs n i λu b=>c u (C4 _ b)
   simp only[sm];rw[<-q,f];have:=d.2.2;omega
  ·obtain⟨t,w⟩:=o
   rw[I0,C0,C0]at t;obtain⟨u,b,y,A⟩:=zX.1 w;have:=h u b;omega
theorem pW(t:aH):dN t=((fil (λp=>decide ((nth t.Entries p).Mode≠0)) t.Entries.length:Nat):Int):=by
 have h:∀n,de bX t.Entries n=((fil (λp=>decide ((nth t.Entries p).Mode≠0)) n:Nat):Int):=λn=>by
  induction n with
  | zero=>rfl
  | succ n a=>
   rw[fp];show de bX t.Entries n+bX (nth t.Entries n)=_;rw[a];unfold bX;by_cases e:(nth t.Entries n).Mode=0<;>simp[e]
 exact h _
theorem B9{h:ab}(a:bn h []):dN (tbl h)=dK h - sm (·.Len) h.Free:=by
 obtain⟨b,c,i,j⟩:=dY.1 a.rng;have e:=JN h.Free (tbl h).Entries.length b.1 c;have d:fil (λp=>decide ((nth (tbl h).Entries p).Mode≠0)) (tbl h).Entries.length=fil (λp=>!Jq h.Free p) (tbl h).Entries.length:=yO _ λp g=>by
  have:=a.pg.fre p g;cases e:Jq h.Free p with
  | true=>exact Q0 λx=>this.1 x (zX.1 e)
  | false=>exact O0 (this.2 λx=>by rw[zX.2 x]at e;cases e)
 have k:=Gm (f:=Jq h.Free) (tbl h).Entries.length;rw[pW,d];show _=((tbl h).Entries.length:Int) - _;omega
theorem JQ:∀{l m:List Nat},l.Nodup->(∀a∈l,a∈m)->l.length<=m.length
 | [],_,_,_=>R0 _
 | a::l,m,g,c=>by
  obtain⟨h,i⟩:=List.nodup_cons.1 g;have d:=c a (O1 ..);have:=JQ (l:=l) (m:=m.erase a) i λb f=>(List.mem_erase_of_ne (λe=>by subst e;exact h f)).2 (c b (C4 _ f))
  rw[List.length_erase_of_mem d]at this;have:=List.length_pos_of_mem d;rw[List.length_cons];omega
theorem KC(a:List Bool):gx a a.length=((fil (nth a) a.length:Nat):Int):=by
 have h:∀n,gx a n=((fil (nth a) n:Nat):Int):=λn=>by
  induction n with
  | zero=>rfl
  | succ n b=>
   rw[fp];show gx a n+(if nth a n then 1 else 0)=_;rw[b];cases nth a n<;>simp
 exact h _
theorem LB{h:ab}(e:bn h []):0<=d3 h.Kernel.Machine.Frames/\d3 h.Kernel.Machine.Frames<=dN (tbl h):=by
 obtain⟨-,f,-,g,-⟩:=aE.1 e.ker;unfold d3;rw[C8 f,KC,pW];refine⟨ω,Int.ofNat_le.2 ?_⟩;have:=JQ (l:=(List.range h.Kernel.Machine.Frames.Used.length).filter (nth h.Kernel.Machine.Frames.Used)) (m:=((List.range (tbl h).Entries.length).filter λp=>decide ((nth (tbl h).Entries p).Mode≠0)).map λp=>(nth (tbl h).Entries p).Frame.toNat) (List.nodup_range.sublist List.filter_sublist) λj b=>by
  rw[U3,List.mem_range]at b;have c:=g j b.1;rw[b.2]at c;have i:0<(pagesOn (tbl h) (j:Int)).length:=of_decide_eq_true c.symm;obtain⟨y,d⟩:=List.exists_mem_of_length_pos i;have a:=d;unfold pagesOn at a;obtain⟨p,-,rfl⟩:=T3.1 a;obtain⟨k,n,o⟩:=dx.1 d;rw[T3];refine⟨p,?_,by rw[o];rfl⟩;rw[U3,List.mem_range,C0];exact⟨k,n⟩
 rw[W0]at this;exact this
theorem Du{α:Type}{f:α->Int} : ∀l:List α,(∀a∈l,0<=f a)->0<=sm f l
 | [],_=>t4 _
 | a::l,h=>by
  have d:=h a (O1 ..);have e:=Du l λb c=>h b (C4 _ c)
  simp only[sm];omega
theorem tq:∀(a:List (List Int))(k:Nat),0<=cY k a
 | [],_=>t4 _
 | l::a,k=>by
  have b:=tq a (k+1);have c:=Int.mul_nonneg (show(0:Int)<=l.length by omega) (csz8 (k:Nat)).1;simp only[cY];omega
theorem MC{h:ab}(a:bn h []):ov (bU h)=true:=by
 have n:=balance a;have d:=a.lens;have g:=a.to;have q:=LB a;have r:(bU h).Mapped=dN (tbl h):=rfl;have t:(bU h).Frames=d3 h.Kernel.Machine.Frames:=rfl;have u:(bU h).Pages=(dK h:Nat):=rfl;have i:dN (tbl h)<=(dK h:Nat):=by
  rw[pW];have:fil (λp=>decide ((nth (tbl h).Entries p).Mode≠0)) (tbl h).Entries.length<=(tbl h).Entries.length:=by
   unfold fil;exact Z3 (List.length_filter_le _ _) (by simp)
  exact Int.ofNat_le.2 this
 have j:dK h<=32:=d.ents;have w:0<=(bU h).Live:=by
  show 0<=de di h.Objs h.Objs.length;rw[iP];refine Du _ λo k=>?_
  have:=qx g o k;unfold di;split
  ·exact(csz8 _).1
  ·omega
 have y:0<=(bU h).Cached:=by
  show 0<=de ce h.Caches h.Caches.length;rw[iP];refine Du _ λc A=>?_
  unfold ce;split
  ·exact tq _ _
  ·exact t4 _
 have B:0<=(bU h).Stale:=by
  show 0<=quarCells h.Quar.Lst h.Quar.Lst.length;rw[qk];exact Du _ λx _=>(csz8 _).1
 have C:0<=(bU h).Posted:=by
  show 0<=de (dJ h) (aC h.Mail) (aC h.Mail).length;rw[iP];exact Du _ λx _=>(csz8 _).1
 have D:(bU h).Held<=16*32+1000*32:=by
  show de GT h.Spans h.Spans.length+de (·.Size) h.Larges h.Larges.length<=_;have E:=(eZ (f:=GT) (xs:=h.Spans) (b:=16) (λs _=>KX s) h.Spans.length (Q2 _)).2;have F:=(eZ (f:=λl:a8=>l.Size) (xs:=h.Larges) (b:=1000) (λl e=>by
    have:=bP (a.L.lok l e);omega) h.Larges.length (Q2 _)).2
  have:=d.spans;have:=d.larges;omega
 unfold ov;rw[C0];omega
def wst(n:Int):Int:=if aI n<0 then 0 else csz (aI n) - n
theorem zN(n:Int):0<=wst n/\wst n<=8:=by
 unfold wst aI
 repeat' split
 all_goals first|omega|(simp only[csz];omega)|(unfold csz;simp;omega)|(constructor<;>(unfold csz;simp;omega))
theorem Ee(n:Int):ao Tryz.prog 103 false [.val none [I n]] .one [I (wst n)]:=by
 have b:=j7 n;have d:=ci (aI n);have c:=zN n;unfold wst at c |-;by_cases e:aI n<0
 ·rw[C8 e]
  refine fO 12 [] Tryz.func103 rfl ?_
  repeat'(first|refine gD ?_|(conv=>whnf);first|with_reducible refine Bf.D (λa=>?_) (λa=>?_)|refine C6 (b) ?_)
  rfl
 ·rw[C7 e]at c |-
  have g:aI n<=3:=by unfold aI;repeat' split<;>omega
  have h:=pV (aI n);refine fO 12 [] Tryz.func103 rfl ?_
  repeat'(first|refine gD ?_|(conv=>whnf);first|with_reducible refine Bf.D (λa=>?_) (λa=>?_)|refine C6 (b) ?_|refine C6 (d) ?_|refine Wm ω ?_)
  rfl
theorem tT(h:ab)(g:h.Objs.length<=1048576):ao Tryz.prog 31 false [.val (some 24) (ab.enc .imm h)] .one [I (de (λo:bx=>wst o.Size) h.Objs h.Objs.length)]:=by
 refine fO 20 [] Tryz.func31 rfl ?_
 repeat'(first|refine gO ?_|fail)
 (conv=>whnf)
 refine CD (ι:=Nat) (λk=>[(3,.hold .one [I (de (λo:bx=>wst o.Size) h.Objs k)]),(7,.hold .one (lv .imm h.Objs)),(8,.hold .one [I ((h.Objs.length:Nat))]),(9,.hold .one [I ((k:Nat):Int)])]) (λk=>k<=h.Objs.length) (λk=>h.Objs.length - k) (0) ?_ (R0 _) λk c=>?_
 ·exact wC
 have i:=eZ (f:=λo:bx=>wst o.Size) (xs:=h.Objs) (b:=8) (λo _=>zN _) k c;by_cases d:k<h.Objs.length
 ·have a:=ah d
  have j:=zN (nth h.Objs k).Size;have e:=Ee (nth h.Objs k).Size
  repeat'(first|refine gD ?_|(conv=>whnf);first|refine CA (aa a) ?_|refine CG rfl (aa a) rfl ?_|refine C6 (e) ?_)
  ((conv=>whnf);refine CB (k+1) ω ω ?_;(exact wC))
 ·obtain rfl:k=h.Objs.length:=ω
  repeat'(first|refine gD ?_|fail)
  rfl
theorem tR(xs:List a7)(g:xs.length<=1048576)(a:∀r∈xs,0<=r.Len/\r.Len<=1000):ao Tryz.prog 32 false [.val none (bB .imm xs)] .one [I (de (·.Len) xs xs.length)]:=by
 refine fO 18 [] Tryz.func32 rfl ?_
 repeat'(first|refine gO ?_|fail)
 (conv=>whnf)
 refine CD (ι:=Nat) (λk=>[(3,.hold .one [I (de (·.Len) xs k)]),(6,.hold .one (bB .imm xs)),(7,.hold .one [I ((xs.length:Nat))]),(8,.hold .one [I ((k:Nat):Int)])]) (λk=>k<=xs.length) (λk=>xs.length - k) (0) ?_ (R0 _) λk e=>?_
 ·exact wC
 have h:=eZ (f:=λr:a7=>r.Len) (xs:=xs) (b:=1000) a k e;by_cases c:k<xs.length
 ·have d:=ah c
  have i:=a _ (am c)
  repeat'(first|refine gD ?_|(conv=>whnf);first|refine CA (aa d) ?_|refine CG rfl (aa d) rfl ?_)
  ((conv=>whnf);refine CB (k+1) ω ω ?_;(exact wC))
 ·obtain rfl:k=xs.length:=ω
  repeat'(first|refine gD ?_|fail)
  rfl
theorem Audited_law(zs:List Int)(t:zs.length<=9223372036854775807/\∀y∈zs,0<=y/\y<=255):ao Tryz.prog 6 false [.val none (Px zs)] .one [B true]:=by
 have e:=Ns zs t.1;by_cases u:(zs.length:Int) > 1048576
 ·rw[O0 u]at e
  refine fO 81 [(11,47,[32,33,34,35,36,37,38,39,40,41,42,43,44,45,46,47,48,49,50,51,52,53,54,55,56,57,58,59,60,61,62,63,64,65,66,67,68,69,70,71,72,73,74,75,76,77,78])] Tryz.func6 rfl ?_
  repeat'(first|refine gO ?_|(conv=>whnf);first|refine C6 (e) ?_)
  rfl
 rw[Q0 u]at e;have H:jn zs:=⟨ω,t.2⟩
 have cD:=w6 zs H;have c:=(D4 zs).inv;obtain⟨h,J⟩:=Hq zs;generalize drawn zs=w at *;have i:=c.to;have a:=c.lens;have K:=a.objs;have L:=a.free;have M:dK w.Heap<=32:=a.ents;have d:=qx i;have N:=wg w.Heap h i;have C:=sB (bU w.Heap);rw[MC c]at C;have O:=EW w.Heap h i;have P:=tT w.Heap ω;have Q:=tW w.Heap.Kernel.Machine.Frames h.1.1.1;obtain⟨X,D,Y,Z⟩:=dY.1 c.rng;have R:=tR w.Heap.Free ω (λr j=>by have:=D r j;omega);have l:=B9 c;rw[<-iP]at l;have S:=eZ (f:=λr:a7=>r.Len) (xs:=w.Heap.Free) (b:=1000) (λr j=>by have:=D r j;omega) w.Heap.Free.length (Q2 _);have T:=eZ (f:=λo:bx=>wst o.Size) (xs:=w.Heap.Objs) (b:=8) (λo _=>zN _) w.Heap.Objs.length (Q2 _);have p:(bU w.Heap).Live=de (λo:bx=>o.Size) w.Heap.Objs w.Heap.Objs.length+de (λo:bx=>wst o.Size) w.Heap.Objs w.Heap.Objs.length:=by
  show de di w.Heap.Objs w.Heap.Objs.length=_;generalize w.Heap.Objs.length=n
  induction n with
  | zero=>rfl
  | succ n U=>
   simp only[de];rw[U];have:di (nth w.Heap.Objs n)=(nth w.Heap.Objs n).Size+wst (nth w.Heap.Objs n).Size:=by
    unfold di wst;split<;>split<;>omega
   omega
 refine fO 81 [(11,47,[32,33,34,35,36,37,38,39,40,41,42,43,44,45,46,47,48,49,50,51,52,53,54,55,56,57,58,59,60,61,62,63,64,65,66,67,68,69,70,71,72,73,74,75,76,77,78])] Tryz.func6 rfl ?_
 repeat'(first|refine gO ?_|(conv=>whnf);first|refine C6 (e) ?_|refine C6 (cD) ?_|refine CF (N) ⟨⟨rfl,ab.enc_fz _⟩,trivial⟩ ?_)
 (conv=>whnf)
 refine CD (ι:=Nat) (λk=>[(4,.hold .box (cv.enc .own (bU w.Heap))),(5,.hold .box (ab.enc .own w.Heap)),(6,.hold .one [I (de (λo:bx=>o.Size) w.Heap.Objs k)]),(7,.hold .one [I ((k:Nat):Int)])]) (λk=>k<=w.Heap.Objs.length) (λk=>w.Heap.Objs.length - k) (0) ?_ (R0 _) λk V=>?_
 ·exact wC
 have hc:=eZ (f:=λo:bx=>o.Size) (xs:=w.Heap.Objs) (b:=1000) (λo W=>by have:=d o W;omega) k V;by_cases F:k<w.Heap.Objs.length
 ·have G:=ah F
  have h2:=d _ (am F)
  repeat'(first|refine gD ?_|(conv=>whnf);first|with_reducible refine CA (aa G) ?_|refine CG rfl (aa G) rfl ?_)
  ((conv=>whnf);refine CB (k+1) ω ω ?_;(exact wC))
 obtain rfl:k=w.Heap.Objs.length:=ω
 have a1:(bU w.Heap).Frames=d3 w.Heap.Kernel.Machine.Frames:=rfl;have a2:(bU w.Heap).Pages=(w.Heap.Kernel.Machine.Table.Entries.length:Nat):=rfl;have a3:(bU w.Heap).Mapped=dN (tbl w.Heap):=rfl;have a4:(dK w.Heap:Int)=(w.Heap.Kernel.Machine.Table.Entries.length:Nat):=rfl;have q:=cv.enc_fz (bU w.Heap)
 repeat'(first|refine gA ?_|(conv=>whnf);first|with_reducible (first|refine Bf.E (λg=>?_) (λg=>absurd rfl g)|refine Bf.E (λg=>?_) (λg=>?_))|refine CF (C) ⟨⟨rfl,q⟩,trivial⟩ ?_|refine CF (O) ⟨⟨rfl,ab.enc_fz _⟩,trivial⟩ ?_|refine CF (P) ⟨⟨rfl,ab.enc_fz _⟩,trivial⟩ ?_|refine CF (Q) ⟨⟨rfl,aU.enc_fz _⟩,trivial⟩ ?_|refine CF (R) ⟨⟨rfl,d7 _⟩,trivial⟩ ?_)
 exact T0 (λz=>[B z]) (O0 ω)
open Go.RowKit Go.ChangeShapes Go.WideShapes Go.Deep
def ALL(w:World):ac:=λb _=>b<w.heap.size
def P5{H:Type}(e:TypeId × Value->H)(P:Program)(w:World)(t n:Nat){α:Type}(enc:α->List C)(c:α->Prop):Prop:=
 ∀(fuel:Nat)(b:List Value)(x:DataW H × List MemPlace),DataW.trod e P w 0 (λ_=>true) true fuel t b=some x->b.length=n/\∃a,c a/\(enc a).length=n/\cN w (ALL w) NO (enc a) (λj=>b.getD j undef)
section
variable{H:Type}{e:TypeId × Value->H}{P:Program}{w:World}
theorem zb{S F:ac}{c:C}{u:Nat->Value}(h:ef w S F c (u 0)):cN w S F [c] u:=
 ⟨λ_=>F,λj e a=>by cases j with
   | zero=>simp at a;subst a;exact h
   | succ j=>simp at a,λ_ _ _ _ h=>h,λj f a b d=>by simp at a b;omega⟩
theorem pick{α β:Type}(n:Nat){Q:Nat->β->Prop}(h:∀i,i<n->∃b,Q i b):∃l:List β,l.length=n/\∀i b,l[i]? = some b->Q i b:=by
 induction n with
 | zero=>exact⟨[],rfl,λi b h=>by simp at h⟩
 | succ n c=>
  obtain⟨l,d,e⟩:=c λi a=>h i ω
  obtain⟨b,f⟩:=h n ω;refine⟨l++[b],by simp[d],λi g a=>?_⟩;by_cases j:i<n
  ·rw[V3 ω]at a;exact e i g a
  ·rw[W3 ω]at a
   have:i - l.length=0:=by
    have:=(V1.1 a).1;simp at this;omega
   rw[this]at a;simp at a;subst a;rw[show i=n by omega];exact f
theorem J1{t T n:Nat}{α:Type}{enc:α->List C}{U:α->Prop}(V:P5 e P w T n enc U)(ht:P.underlying t=some (.slice T))(hn:P.cellsOf T=n)(p:0<n) :
  P5 e P w t 1 (λxs:List α=>[.s .imm (xs.map enc)]) (λxs=>xs.length<=9223372036854775807/\∀y∈xs,U y):=by
 intro fuel cs x h;rcases open_slice ht h with⟨rfl,-⟩|⟨k,len,cap,m,n',D,Pl,rfl,-,hl,hm,K,-,u⟩
 ·exact⟨rfl,[],⟨by simp,by simp⟩,rfl,zb (.nil _ _ _ trivial)⟩
 ·simp only[if_true]at K
  subst K;have L:0<m->k.spot=none:=λW=>by
   obtain⟨E,M,N⟩:=u 0 W;rw[hn]at M;obtain⟨_,X,F⟩:=World.cells?_some M;have:=F 0 p;rw[U1 ω]at this;have:=World.cell?_spot this;simpa[Addr.add] using this
  have key:∀i,i<len->∃a,U a/\(enc a).length=n/\(∀d,d<n->∃z,cel w k.block (k.off+(i*n+d))=some z)/\k.spot=none/\cN w (ALL w) NO (enc a) (λd=>(cel w k.block (k.off+(i*n+d))).getD undef):=λi hil=>by
   have g:=L ω;obtain⟨E,M,N⟩:=u i ω;rw[hn]at M;obtain⟨h1,a,h3,h4,h5⟩:=V _ _ _ N;obtain⟨_,X,F⟩:=World.cells?_some M;have O:∀d,k.add d = ⟨k.block,k.off+d,none⟩:=λd=>by
    obtain⟨b,o,sp⟩:=k;simp only at g;subst g;unfold Addr.add;split<;>simp_all
   have A:∀d,d<n->cel w k.block (k.off+(i*n+d))=E[d]?:=λd J=>by
    have:=F d J;rw[Go.Deep.add_add,O]at this;exact this
   refine⟨a,h3,h4,λd J=>⟨_,by rw[A d J,U1 ω]⟩,g,h5.congr λd J=>?_⟩;show(cel w k.block (k.off+(i*n+d))).getD undef=E.getD d undef;rw[A d ω,List.getD]
  obtain⟨l,Q,B⟩:=pick (α:=α) len key;refine⟨rfl,l,⟨by simp only[maxLen]at hm;omega,λy R=>?_⟩,rfl,zb ?_⟩
  ·obtain⟨i,G⟩:=List.mem_iff_getElem?.1 R
   exact(B i y G).1
  ·show ef w (ALL w) NO (.s .imm (l.map enc)) (.slice (some k) len m)
   by_cases h0:len=0
   ·subst h0
    have:l=[]:=R5 Q;subst this;by_cases Y:m=0
    ·subst Y;exact .nil _ _ _ trivial
    ·have g:=L ω
     obtain⟨b,o,sp⟩:=k;simp only at g;subst g;exact .imm _ b o n 0 m [] (λ_=>undef) rfl (λr Z=>by simp at Z) hl (λq hq=>by simp at hq) (λi j r c u=>by simp at u)
   ·obtain⟨y0,hy0⟩ : ∃y,l[0]? = some y:=⟨_,U1 ω⟩
    have g:=(B 0 y0 hy0).2.2.2.1;obtain⟨b,o,sp⟩:=k;simp only at g;subst g;refine .imm _ b o n len m (l.map enc) (λq=>(cel w b (o+q)).getD undef) (by simpa using Q) (λr Z=>?_) hl (λq hq=>?_) (λi j r c u hj=>?_)
    ·obtain⟨y,R,rfl⟩:=T3.1 Z
     obtain⟨i,G⟩:=List.mem_iff_getElem?.1 R;exact(B i y G).2.1
    ·have hqd:q / n<len:=(Nat.div_lt_iff_lt_mul p).2 hq
     obtain⟨y,R⟩ : ∃y,l[q / n]? = some y:=⟨_,U1 ω⟩
     obtain⟨z,S⟩:=(B _ y R).2.2.1 (q % n) (Nat.mod_lt _ p);have J:q / n*n+q % n=q:=by rw[Nat.mul_comm];exact Nat.div_add_mod q n
     rw[J]at S;exact⟨N9 S,by simp only at S |-;rw[S];rfl⟩
    ·rw[R2]at u
     cases H:l[i]? with
     | none=>rw[H]at u;cases u
     | some y=>
      rw[H]at u;simp only[z4,U0]at u;subst u;obtain⟨f,h1,h2,-⟩:=(B i y H).2.2.2.2;have hjl:=(V1.1 hj).1;exact(h1 j c hj).mono (λ_ _ h=>h) (h2 j hjl)
theorem row_val{S F:ac}{x:Value}{u:Nat->Value}(h:cN w S F [.v x] u):u 0=x:=by
 obtain⟨f,a,-⟩:=h;have:=a 0 _ rfl;cases this
 rfl
end
open Go.RowKit Go.ChangeShapes Go.WideShapes
section
variable{H:Type}{e:TypeId × Value->H}{P:Program}{w:World}
theorem Me{t:Nat}(b:P.underlying t=some (.int .u8)):P5 e P w t 1 rU (λz=>0<=z/\z<=255):=by
 intro fuel c x h;obtain⟨n,rfl,-,a⟩:=DataW.trod_int b h;refine⟨rfl,n,?_,rfl,zb (.v _ _ rfl)⟩;simp only[Lit.wf,I0,C0]at a;exact a
theorem op_ByteS:P5 e Tryz.prog w 22 1 (λzs:List Int=>[.s .imm (zs.map rU)]) (λzs=>zs.length<=9223372036854775807/\∀y∈zs,0<=y/\y<=255):=J1 (Me Tryz.underlying5) Tryz.underlying22 (by kernel_rfl) (by decide)
end
end Go.Proofs.YtembpgjjnioagaaGreat.Ab
