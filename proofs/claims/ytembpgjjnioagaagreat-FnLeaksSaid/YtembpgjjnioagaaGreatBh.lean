/- Objects freed by whatever thread: the reference's. No condition. -/
import Derived.Test.YtembpgjjnioagaaGreatBd
import Derived.Test.YtembpgjjnioagaaGreatBg
import Derived.Test.YtembpgjjnioagaaGreatBf
import Derived.Test.YtembpgjjnioagaaGreatBe
import Derived.Laws.StructEq
import Derived.ProofKit
import Derived.OpenShut
import Derived.Deep.Slices
import Derived.Deep.Fields
import Derived.ChangeSame
import Derived.WideShapes
set_option linter.unusedVariables false
set_option linter.unusedSimpArgs false
set_option linter.constructorNameAsVariable false
namespace Go.Proofs.YtembpgjjnioagaaGreat.Ab
open Go.RowKit
set_option maxRecDepth 20000
set_option maxHeartbeats 4000000
theorem zI(h:ab)(t a:Int)(c:h.Caches.length<=4)(d:¬(0<=t/\t<=h.Caches.length - 1)):aQ Tryz.prog 354 false [.ptr (bu h),.val none [I t],.val none [I a]] [.ptr (bu h),.val none [I t],.val none [I a]] .one [I 1]:=by
 have b:=aG t 0 (h.Caches.length - 1:Int);rw[Q0 d]at b;refine fM 148 [(380,[2,0]),(382,[2,0]),(384,[2,0,0]),(379,[2,0])] [(15,269,[68,69,70,71,72,73,74,75,77,67,78,79,11,0,1,2,3,4,5,6,7,13,8,1000,1001,1002,1003,1004,1013,9,10,11,12,14,1012,15]),(22,15,[92,93,94,95,96,97,98,99,100,101,102,103,104,105,106]),(25,271,[116,117,118,119,120,121,122,123,124,125,127,115,128,129,14,0,1,2,3,4,5,6,7,8,9,15,10,1000,1001,1002,1003,1015,11,12,13,14,16,1014,17])] [(0,0),(0,0),(0,0)] Tryz.func354 rfl (λu q=>?_)
 repeat'(first|refine gO ?_|(conv=>whnf);first|refine C9 ?_|refine C6 (b) ?_)
 refine CE rfl rfl ?_;exact wC
theorem Du(h:ab)(i t:Nat)(a:bp h [])(j:i<h.Objs.length)(U:t<h.Caches.length)(K:(nth h.Objs i).Thread≠t):aQ Tryz.prog 354 false [.ptr (bu h),.val none [I (t:Nat)],.val none [I (nth h.Objs i).Addr]] [.ptr (bu (freeT h t i).1),.val none [I (t:Nat)],.val none [I (nth h.Objs i).Addr]] .one [I (freeT h t i).2]:=by
 have F:=am j;obtain⟨-,L,d⟩:=a.objAt F;have N:og h (nth h.Objs i).Addr=i:=by
  have V:=(a.objAt F).1;exact gF (f:=(·.Addr)) (gX a.osr) V j (by rw[L])
 rw[N]at d;have b:=se a F;have W:=a.onu _ F;have n:=a.lens;have X:=n.objs;have Y:=a.nc;have Z:=kI.of a.mail;have hb4:=Z.b4;have o:=aG (t:Nat) 0 (h.Caches.length - 1:Int);rw[O0 ω]at o;have p:=pC h (nth h.Objs i).Addr ω;rw[d]at p;have e:=ah j;have G:=j8 (nth h.Objs i).Size;have O:=bF a.ker;have P:=db h.Kernel.Machine.Table ((nth h.Objs i).Addr / 16) O.1.2;unfold freeT;by_cases H:aK (nth h.Objs i).Size<0
 ·rw[C8 H]
  have c3:=oX h i a j H;refine fM 148 [(380,[2,0]),(382,[2,0]),(384,[2,0,0]),(379,[2,0])] [(15,269,[68,69,70,71,72,73,74,75,77,67,78,79,11,0,1,2,3,4,5,6,7,13,8,1000,1001,1002,1003,1004,1013,9,10,11,12,14,1012,15]),(22,15,[92,93,94,95,96,97,98,99,100,101,102,103,104,105,106]),(25,271,[116,117,118,119,120,121,122,123,124,125,127,115,128,129,14,0,1,2,3,4,5,6,7,8,9,15,10,1000,1001,1002,1003,1015,11,12,13,14,16,1014,17])] [(0,0),(0,0),(0,0)] Tryz.func354 rfl (λu q=>?_)
  repeat'(first|refine gD ?_|(conv=>whnf);first|with_reducible refine Bf.D (λc=>?_) (λc=>?_)|refine C9 ?_|refine C6 (o) ?_|refine CF (p) ⟨⟨rfl,bx h⟩,⟨rfl,rfl⟩,trivial⟩ ?_|refine CA (aa e) ?_|refine CG rfl (aa e) rfl ?_|refine C6 (G) ?_|refine CH (c3) (.inl rfl) ?_)
  refine CE rfl rfl ?_;exact wC
 rw[C7 H];obtain⟨s1,s2,s3,s4⟩:=Pm.of a (am j) H;by_cases J:(ar (tbl h) ((nth h.Objs i).Addr / 16)).Mode=1
 ·rw[C8 J]
  unfold tbl at J;refine fM 148 [(380,[2,0]),(382,[2,0]),(384,[2,0,0]),(379,[2,0])] [(15,269,[68,69,70,71,72,73,74,75,77,67,78,79,11,0,1,2,3,4,5,6,7,13,8,1000,1001,1002,1003,1004,1013,9,10,11,12,14,1012,15]),(22,15,[92,93,94,95,96,97,98,99,100,101,102,103,104,105,106]),(25,271,[116,117,118,119,120,121,122,123,124,125,127,115,128,129,14,0,1,2,3,4,5,6,7,8,9,15,10,1000,1001,1002,1003,1015,11,12,13,14,16,1014,17])] [(0,0),(0,0),(0,0)] Tryz.func354 rfl (λu q=>?_)
  repeat'(first|refine gA ?_|(conv=>whnf);first|with_reducible refine Bf.D (λc=>?_) (λc=>?_)|refine C9 ?_|refine CL (by decide) ?_|refine CJ (pw b) ?_|refine C6 (o) ?_|refine CF (p) ⟨⟨rfl,bx h⟩,⟨rfl,rfl⟩,trivial⟩ ?_|refine CA (aa e) ?_|refine CG rfl (aa e) rfl ?_|refine C6 (G) ?_|refine CF (P) ⟨⟨rfl,CV _⟩,⟨rfl,rfl⟩,trivial⟩ ?_)
  refine CE rfl rfl ?_;exact wC
 rw[C7 J,C7 K];unfold tbl at J;have r:=Hm h.Mail t ⟨(nth h.Objs i).Thread,(nth h.Objs i).Addr⟩ a.mail ω;by_cases l:bz (gy h.Mail t ⟨(nth h.Objs i).Thread,(nth h.Objs i).Addr⟩)=true;rotate_left
 ·rw[C7 l]
  rw[C7 l,show bz (gy h.Mail t ⟨(nth h.Objs i).Thread,(nth h.Objs i).Addr⟩)=false by simpa using l]at r;refine fM 148 [(380,[2,0]),(382,[2,0]),(384,[2,0,0]),(379,[2,0])] [(15,269,[68,69,70,71,72,73,74,75,77,67,78,79,11,0,1,2,3,4,5,6,7,13,8,1000,1001,1002,1003,1004,1013,9,10,11,12,14,1012,15]),(22,15,[92,93,94,95,96,97,98,99,100,101,102,103,104,105,106]),(25,271,[116,117,118,119,120,121,122,123,124,125,127,115,128,129,14,0,1,2,3,4,5,6,7,8,9,15,10,1000,1001,1002,1003,1015,11,12,13,14,16,1014,17])] [(0,0),(0,0),(0,0)] Tryz.func354 rfl (λu q=>?_)
  repeat'(first|refine gA ?_|(conv=>whnf);first|with_reducible refine Bf.D (λc=>?_) (λc=>?_)|refine C9 ?_|refine CL (by decide) ?_|refine CJ (pw b) ?_|refine C6 (o) ?_|refine CF (p) ⟨⟨rfl,bx h⟩,⟨rfl,rfl⟩,trivial⟩ ?_|refine CA (aa e) ?_|refine CG rfl (aa e) rfl ?_|refine C6 (G) ?_|refine CF (P) ⟨⟨rfl,CV _⟩,⟨rfl,rfl⟩,trivial⟩ ?_|refine CF (r) ⟨⟨rfl,aJ.enc_fz h.Mail⟩,⟨rfl,rfl⟩,⟨rfl,rfl⟩,trivial⟩ ?_|refine C9 ?_)
  refine CE rfl rfl ?_;exact wC
 rw[C8 l];rw[C8 l,l]at r;have w:fR h.Kernel (nth h.Objs i).Addr<h.Kernel.Machine.Frames.Cells.length:=by unfold fR;omega
 have hcz:=Ko s1;have B:=cX (aK (nth h.Objs i).Size);unfold M9;generalize gy h.Mail t ⟨(nth h.Objs i).Thread,(nth h.Objs i).Addr⟩ = M at r;refine fM 148 [(380,[2,0]),(382,[2,0]),(384,[2,0,0]),(379,[2,0])] [(15,269,[68,69,70,71,72,73,74,75,77,67,78,79,11,0,1,2,3,4,5,6,7,13,8,1000,1001,1002,1003,1004,1013,9,10,11,12,14,1012,15]),(22,15,[92,93,94,95,96,97,98,99,100,101,102,103,104,105,106]),(25,271,[116,117,118,119,120,121,122,123,124,125,127,115,128,129,14,0,1,2,3,4,5,6,7,8,9,15,10,1000,1001,1002,1003,1015,11,12,13,14,16,1014,17])] [(0,0),(0,0),(0,0)] Tryz.func354 rfl (λu q=>?_)
 repeat'(first|refine gA ?_|(conv=>whnf);first|with_reducible refine Bf.D (λc=>?_) (λc=>?_)|refine C9 ?_|refine CL (by decide) ?_|refine CJ (pw b) ?_|refine C6 (o) ?_|refine CF (p) ⟨⟨rfl,bx h⟩,⟨rfl,rfl⟩,trivial⟩ ?_|refine CA (aa e) ?_|refine CG rfl (aa e) rfl ?_|refine C6 (G) ?_|refine CF (P) ⟨⟨rfl,CV _⟩,⟨rfl,rfl⟩,trivial⟩ ?_|refine CF (r) ⟨⟨rfl,aJ.enc_fz h.Mail⟩,⟨rfl,rfl⟩,⟨rfl,rfl⟩,trivial⟩ ?_|refine C9 ?_)
 have Q:({{h with Mail:=M} with Kernel:=fK h.Kernel (nth h.Objs i).Addr 0} : ab) = {h with Mail:=M}:=Fr {h with Mail:=M} _ w;have R:=T0 (λy:ab=>C.s .own (y.Kernel.Machine.Frames.Cells.map (aD .own))) Q
 (conv=>whnf)
 refine CD (ι:=Nat) (λk=>[(0,.hold .box (bu {{h with Mail:=M} with Kernel:=fK h.Kernel (nth h.Objs i).Addr k})),(1,.hold .one [I ((t:Nat):Int)]),(2,.hold .one [I ((nth h.Objs i).Addr)]),(7,.hold .one [I ((i:Nat):Int)]),(8,.hold .box (bB.enc .own (nth h.Objs i))),(9,.hold .one [I (aK (nth h.Objs i).Size)]),(10,.hold .box (bg.enc .own (ar h.Kernel.Machine.Table ((nth h.Objs i).Addr / 16)))),(13,.hold .one [I ((k:Nat):Int)])]) (λk=>k<=(csz (aK (nth h.Objs i).Size)).toNat) (λk=>(csz (aK (nth h.Objs i).Size)).toNat - k) (0) ?_ (R0 _) λk hk=>?_
 ·repeat'(first|exact trivial|rfl |exact kX R|exact dq _|refine CI ?_ ?_|(exact xL (by first|omega|(simp only;omega)|(simp;omega))))
 have T:IntKind.i64.wrap 0=0:=rfl;have S:(nth h.Objs i).Addr.tmod 16=(nth h.Objs i).Addr % 16:=fo b.1;have g:(fK h.Kernel (nth h.Objs i).Addr k).Machine.Frames.Cells[(ar h.Kernel.Machine.Table ((nth h.Objs i).Addr / 16)).Frame.toNat]? = some (lI (nth h.Kernel.Machine.Frames.Cells (fR h.Kernel (nth h.Objs i).Addr)) ((nth h.Objs i).Addr % 16).toNat k):=Z2 w;by_cases lk:k<(csz (aK (nth h.Objs i).Size)).toNat
 ·have E:=ah (xs:=lI (nth h.Kernel.Machine.Frames.Cells (fR h.Kernel (nth h.Objs i).Addr)) ((nth h.Objs i).Addr % 16).toNat k) (i:=((nth h.Objs i).Addr % 16+k).toNat) (by rw[oL,s4];omega)
  repeat'(first|refine gD ?_|(conv=>whnf);first|refine C9 ?_|refine CL (by decide) ?_|refine CR S ?_|refine C6 (B) ?_|refine CK s2.1 (aa g) ?_|refine CG rfl (aa g) rfl ?_|refine CK ω (aa E) ?_|refine Pu.two rfl rfl (aa g) rfl rfl rfl (aa E) rfl (Q2 _) (Di {h with Mail:=M} _ k _ b.1) ?_)
  ((conv=>whnf);refine CB (k+1) ω ω ?_;(exact wC))
 ·obtain rfl:k=(csz (aK (nth h.Objs i).Size)).toNat:=ω
  have c6:=mh {{h with Mail:=M} with Kernel:=fK h.Kernel (nth h.Objs i).Addr (csz (aK (nth h.Objs i).Size)).toNat} i j (by show h.Objs.length<=_;omega)
  repeat'(first|refine gA ?_|(conv=>whnf);first|with_reducible refine Bf.D (λc=>?_) (λc=>?_)|refine C9 ?_|refine C6 (B) ?_|refine CH (c6) (.inl rfl) ?_)
  refine CE rfl rfl ?_;exact wC
theorem LR(h:ab)(i:Nat)(t:Int)(a:bp h [])(d:i<h.Objs.length):aQ Tryz.prog 354 false [.ptr (bu h),.val none [I t],.val none [I (nth h.Objs i).Addr]] [.ptr (bu (if 0<=t/\t<=h.Caches.length - 1 then(freeT h t.toNat i).1 else h)),.val none [I t],.val none [I (nth h.Objs i).Addr]] .one [I (if 0<=t/\t<=h.Caches.length - 1 then(freeT h t.toNat i).2 else 1)]:=by
 have c:h.Caches.length<=4:=by have:=(dG.1 a.mail).1.2.1;have:=a.nc;omega
 by_cases b:0<=t/\t<=h.Caches.length - 1
 ·rw[C8 b,C8 b]
  obtain⟨n,rfl⟩:=I2 b.1;simp only[C2];by_cases e:(nth h.Objs i).Thread=n
  ·have:=Fa h (nth h.Objs i) n a (am d) e c
   have g:og h (nth h.Objs i).Addr=i:=by
    obtain⟨k,j,-⟩:=a.objAt (am d);exact gF (f:=(·.Addr)) (gX a.osr) k d (by rw[j])
   rw[g,<-yB e]at this;exact this
  ·exact Du h i n a d ω e
 ·rw[C7 b,C7 b]
  exact zI h t _ c b
theorem KB(c:ay)(k:Nat):ay.enc .own (qw c k)=[.s .own ((c.Lists.map (aD .own)).set k (aD .own ((nth c.Lists k).take ((nth c.Lists k).length - 1))))]:=by simp[ay.enc,qw,W4]
theorem N6(xs:List Int)(n:Nat):(xs.take n).map (rI .imm)=(xs.map (rI .imm)).take n:=Q3
def NU(c:ay)(k:Nat):List C:=if 0<(nth c.Lists k).length then ay.enc .own (qw c k)++[I (nth (nth c.Lists k) ((nth c.Lists k).length - 1)),B true] else ay.enc .own c++[I (-1),B false]
theorem MY(c:ay)(k:Nat):gE (NU c k):=by
 unfold NU;split
 ·exact aY (ay.enc_fr _) ⟨trivial,trivial,trivial⟩
 ·exact aY (ay.enc_fr _) ⟨trivial,trivial,trivial⟩
theorem vo(c:ay)(k:Nat)(h:bm c=true)(u:k<=3):ao Tryz.prog 289 false [.val (some 1) (ay.enc .imm c),.val none [I (k:Nat)]] (.tup [some 1,none,none]) (NU c k):=by
 obtain⟨w,j⟩:=ep h;have n:ay.sml c:=⟨ω,λl r=>by have:=j l r;show l.length<=1048576;omega⟩
 have d:=vE c k n;rw[h,O0 ω]at d;have o:=gZ c n;have b:=rJ (c:=c) (k:=k) ω;have t:=j _ (am (xs:=c.Lists) (i:=k) ω);have a:=MY c k;unfold NU at a |-;by_cases p:0<(nth c.Lists k).length
 ·rw[C8 p]at a |-
  have q:=ah (xs:=nth c.Lists k) (i:=(nth c.Lists k).length - 1) ω;have e:(nth c.Lists k)[(((nth c.Lists k).length:Int) - 1).toNat]? = some (nth (nth c.Lists k) ((nth c.Lists k).length - 1)):=by rw[show(((nth c.Lists k).length:Int) - 1).toNat=(nth c.Lists k).length - 1 by omega];exact q
  have g:((((nth c.Lists k).length:Nat):Int) - 1)=(((nth c.Lists k).length - 1:Nat):Int):=ω
  rw[KB]at a |-;refine fO 54 [(5,268,[32,33,34,35,36,37,38,39,40,41,42,44,0,1,2,3,4,5,6,7,8,9,10,11,1000,1001,1002,12,13]),(6,265,[45,46,47,48,49,50,51,52,53,0,1,2,3,4,5,6,7,8,9,1001,1002,1003,1004,1005,1006,1007,1008,10,11])] Tryz.func289 rfl ?_ (.inr a)
  repeat'(first|refine gA ?_|(conv=>whnf);first|with_reducible refine CA (aa b) ?_|refine C9 ?_|refine CG rfl (aa b) rfl ?_|refine C6 (d) ?_|refine C6 (o) ?_|refine CK ω (aa e) ?_|refine CA (aa q) ?_|refine CS ((nth c.Lists k).length - 1) g (by rw[W0];omega) (aN λ_=>rfl) (N6 _ _) ?_|refine C9 ?_|refine CT (λ_=>rfl) (λ_=>rfl) (by rw[I1];omega) (by decide) ?_|refine CQ (λ_=>rfl) (λ_=>rfl) (by rw[I1];omega) (by decide) ?_|refine CM rfl rfl (aa b) rfl (X0 rfl) rfl ?_)
  rfl
 ·rw[C7 p]at a |-
  refine fO 54 [(5,268,[32,33,34,35,36,37,38,39,40,41,42,44,0,1,2,3,4,5,6,7,8,9,10,11,1000,1001,1002,12,13]),(6,265,[45,46,47,48,49,50,51,52,53,0,1,2,3,4,5,6,7,8,9,1001,1002,1003,1004,1005,1006,1007,1008,10,11])] Tryz.func289 rfl ?_ (.inr a)
  repeat'(first|refine gA ?_|(conv=>whnf);first|with_reducible refine CA (aa b) ?_|refine C9 ?_|refine CG rfl (aa b) rfl ?_|refine C6 (d) ?_|refine C6 (o) ?_)
  rfl
def NK(xs:List aA)(n:Int):List C:=bI .own (a7 xs n).1++[I (a7 xs n).2.1,B (a7 xs n).2.2]
theorem N2(xs:List aA)(n:Int):gE (NK xs n):=aY (nr _) ⟨trivial,trivial,trivial⟩
theorem nM(pages:Int)(xs:List aA)(n:Int)(w:0<=pages/\pages<=1048576)(l:bv pages xs=true)(J:1<=n/\n<=1000)(K:xs.length<=4096):ao Tryz.prog 294 false [.val none [I pages],.val none (bI .imm xs),.val none [I n]] (.tup [none,none,none]) (NK xs n):=by
 have o:=kT pages xs w ⟨ω,λ_ _=>trivial⟩;rw[l]at o;have p:=(Aa l).2;refine fO 98 [(8,21,[31,32,33,34,35,36,37,38,39,40,41,42,43,44,45,46,47,48,49,50,51]),(14,265,[71,72,73,74,76,77,78,79,81,0,1,2,3,5,6,7,8,10,4,1005,1006,1007,1008,1010,9,1010,11,1010,12,13])] Tryz.func294 rfl ?_ (.inr (N2 xs n))
 repeat'(first|refine gD ?_|(conv=>whnf);first|refine C9 ?_|refine C6 (o) ?_|refine CQ (λ_=>rfl) (λ_=>rfl) ω (by decide) ?_)
 (conv=>whnf)
 refine CD (ι:=Nat) (λi=>[(1,.hold .one (bI .imm xs)),(2,.hold .one [I (n)]),(9,.hold .one (bI .own xs)),(10,.hold .one [I (i6 xs n i)]),(11,.hold .one [I ((i:Nat):Int)])]) (λi=>i<=xs.length) (λi=>xs.length - i) (0) ?_ (R0 _) λi y=>?_
 ·exact wC
 have h:=wb xs n i y;by_cases q:i<xs.length
 ·have j:=ah q
  have E:=p _ (am q);have a:i6 xs n (i+1)=if n<=(nth xs i).Len/\(i6 xs n i<0\/(nth xs i).Len<(nth xs (i6 xs n i).toNat).Len) then((i:Nat):Int) else i6 xs n i:=rfl
  by_cases r:n<=(nth xs i).Len
  ·by_cases F:i6 xs n i<0
   ·rw[C8 ⟨r,.inl F⟩]at a
    repeat'(first|refine gD ?_|(conv=>whnf);first|with_reducible (first|refine CA (aa j) ?_|refine Bf.D (λc=>?_) (λc=>?_))|refine C9 ?_)
    ((conv=>whnf);refine CB (i+1) ω ω ?_)
    rw[a];exact wC
   ·have d:=ah (xs:=xs) (i:=(i6 xs n i).toNat) ω
    by_cases G:(nth xs i).Len<(nth xs (i6 xs n i).toNat).Len
    ·rw[C8 ⟨r,.inr G⟩]at a
     repeat'(first|refine gD ?_|(conv=>whnf);first|with_reducible (first|refine CA (aa j) ?_|refine CK ω (aa d) ?_|refine Bf.D (λc=>?_) (λc=>?_))|refine C9 ?_)
     ((conv=>whnf);refine CB (i+1) ω ω ?_)
     rw[a];exact wC
    ·rw[C7 ω]at a
     repeat'(first|refine gD ?_|(conv=>whnf);first|with_reducible (first|refine CA (aa j) ?_|refine CK ω (aa d) ?_|refine Bf.D (λc=>?_) (λc=>?_))|refine C9 ?_)
     ((conv=>whnf);refine CB (i+1) ω ω ?_)
     rw[a];exact wC
  ·rw[C7 ω]at a
   repeat'(first|refine gD ?_|(conv=>whnf);first|with_reducible (first|refine CA (aa j) ?_|refine Bf.D (λc=>?_) (λc=>?_))|refine C9 ?_)
   ((conv=>whnf);refine CB (i+1) ω ω ?_)
   rw[a];exact wC
 ·obtain rfl:i=xs.length:=ω
  change gx xs n = -1\/_ at h;unfold NK a7;rw[show i6 xs n xs.length=gx xs n from rfl];by_cases e:gx xs n<0
  ·rw[C8 e]
   rw[show gx xs n = -1 from h.resolve_right λg=>by have L:0<=gx xs n:=g.1;omega]
   repeat'(first|refine gD ?_|(conv=>whnf);first|with_reducible refine Bf.D (λc=>?_) (λc=>?_)|refine C9 ?_)
   rfl
  ·rw[C7 e]
   obtain⟨H,t,M⟩:=h.resolve_left ω;change 0<=gx xs n at H;change gx xs n<xs.length at t;obtain⟨b,k⟩:=I2 (show 0<=gx xs n by omega);rw[k]at t |-;simp only[C2];have d:=ah (xs:=xs) (i:=b) ω;have E:=p _ (am (xs:=xs) (i:=b) ω);by_cases u:(nth xs b).Len=n
   ·rw[C8 u]
    repeat'(first|refine gA ?_|(conv=>whnf);first|with_reducible (first|refine CA (aa d) ?_|refine Bf.D (λc=>?_) (λc=>?_))|refine C9 ?_|refine CS b rfl (by rw[W0];omega) (aN λ_=>rfl) Q3 ?_|refine Sl.suf (b+1) rfl (by rw[W0];omega) (aN λ_=>rfl) R3 ?_|refine CT (λ_=>rfl) (λ_=>rfl) (by rw[I1];omega) (by decide) ?_|refine Ap.dele (λ_=>rfl) (λ_=>rfl) ω (by decide) ?_|refine CQ (λ_=>rfl) (λ_=>rfl) (by rw[I1];omega) (by decide) ?_|refine C9 ?_)
    rfl
   ·rw[C7 u]
    repeat'(first|refine gA ?_|(conv=>whnf);first|with_reducible (first|refine CA (aa d) ?_|refine Bf.D (λc=>?_) (λc=>?_))|refine C9 ?_|refine CM rfl rfl (aa d) rfl (X0 rfl) rfl ?_)
    exact T0 (λz=>z++[I (nth xs b).At,B true]) (show [C.s d7.own _]=_ from by simp[bI,W4];rfl)
theorem Jh(k:af)(p:Int)(f:Nat):af.enc .own (pI k p f)=((af.enc .own k).set 1 (.s .own ((k.Machine.Frames.Used.map (rB .own)).set f (rB .own true)))).set 2 (.s .own ((k.Machine.Table.Entries.map (bg.enc .own)).set p.toNat (bg.enc .own ⟨2,(f:Nat)⟩))):=by
 simp[af.enc,pI,W4]
theorem Bk(k:af)(p:Int)(c:aB k=true)(y:k.Calls≠100000)(o:0<=p/\p<k.Machine.Table.Entries.length)(C:(nth k.Machine.Table.Entries p.toNat).Mode=0):aQ Tryz.prog 296 false [.ptr (af.enc .own k),.val none [I p]] [.ptr (af.enc .own (ge k p).1),.val none [I p]] .one [B (ge k p).2]:=by
 have E:=bF c;have F:=bh.1 (aF.1 c).2.1;have G:=(bw.1 (aF.1 c).2.2.1).2.2;have H:(dv k).Machine.Table.Entries.length<=32:=G;have a:=Ae k.Machine.Frames ω;have d:=mc k c y;have g:=ed (dv k) p E.1.2;have l:ar (dv k).Machine.Table p=nth k.Machine.Table.Entries p.toNat:=by unfold ar;exact C8 o
 rw[l,C]at g;have h:=aG p 0 ((k.Machine.Table.Entries.length:Int) - 1);rw[O0 ω]at h;have r:=ah (xs:=k.Machine.Table.Entries) (i:=p.toNat) ω;change ao _ _ _ _ _ [I (rr k)]at a;unfold ge;cases e:refd k<;>rw[e]at d
 ·by_cases j:rr k<0
  ·rw[C8 (.inr j)]
   refine fM 56 [(347,[2])] [] [(0,0),(0,0)] Tryz.func296 rfl (λu q=>?_)
   repeat'(first|refine gA ?_|(conv=>whnf);first|with_reducible refine Bf.D (λb=>?_) (λb=>?_)|refine CF (a) ⟨⟨rfl,aV.enc_fz _⟩,trivial⟩ ?_|refine CH (d) (.inl rfl) ?_|refine C6 (h) ?_|refine CF (g) ⟨CP (dv k),⟨rfl,rfl⟩,trivial⟩ ?_)
   refine CE rfl ?_ ?_
   ·rfl
   ·exact wC
  ·rw[C7 (by simp[j])]
   obtain⟨n,t⟩:=AS j;obtain⟨f,J⟩:=I2 (show 0<=rr k by omega);rw[J]at a n t j |-;simp only[C2]at n t |-;have w:=ah (xs:=k.Machine.Frames.Used) (i:=f) n;rw[Jh];refine fM 56 [(347,[2])] [] [(0,0),(0,0)] Tryz.func296 rfl (λu q=>?_)
   repeat'(first|refine gA ?_|(conv=>whnf);first|with_reducible refine Bf.D (λb=>?_) (λb=>?_)|refine CF (a) ⟨⟨rfl,aV.enc_fz _⟩,trivial⟩ ?_|refine CH (d) (.inl rfl) ?_|refine C6 (h) ?_|refine CF (g) ⟨CP (dv k),⟨rfl,rfl⟩,trivial⟩ ?_|refine CA (aa w) ?_|refine CK o.1 (aa r) ?_|refine CM rfl rfl (aa w) rfl (X0 rfl) rfl ?_|refine CM rfl rfl (aa r) rfl (X0 rfl) rfl ?_)
   refine CE rfl ?_ ?_
   ·rfl
   ·exact wC
 ·rw[C8 (.inl rfl)]
  refine fM 56 [(347,[2])] [] [(0,0),(0,0)] Tryz.func296 rfl (λu q=>?_)
  repeat'(first|refine gA ?_|(conv=>whnf);first|with_reducible refine Bf.D (λb=>?_) (λb=>?_)|refine CF (a) ⟨⟨rfl,aV.enc_fz _⟩,trivial⟩ ?_|refine CH (d) (.inl rfl) ?_|refine C6 (h) ?_|refine CF (g) ⟨CP (dv k),⟨rfl,rfl⟩,trivial⟩ ?_)
  refine CE rfl ?_ ?_
  ·rfl
  ·exact wC
def NN(h:ab):List C:=(bu h).drop 5
theorem AR(h:ab)(p:Int)(a:aB h.Kernel=true)(b:h.Kernel.Calls≠100000)(c:0<=p/\p<h.Kernel.Machine.Table.Entries.length)(d:(nth h.Kernel.Machine.Table.Entries p.toNat).Mode=0):aQ Tryz.prog 296 false [.ptr (bu h),.val none [I p]] [.ptr (bu {h with Kernel:=(ge h.Kernel p).1}),.val none [I p]] .one [B (ge h.Kernel p).2]:=
 (Bk h.Kernel p a b c d).frame (r:=NN h) rfl
theorem Hw(h:ab)(i:Nat):bu (slotT h i)=((bu h).set 14 (I (Fy h.Seed))).set 6 (.s .own ((h.Spans.map (au.enc .own)).set i [I (nth h.Spans i).Page,I (nth h.Spans i).Class,I (gq (nth h.Spans i).Bits (pz h i))])):=by
 simp[bu,slotT,pQ,W4,au.enc]
theorem qY(h:ab)(E:List Int)(i:Nat)(c:bp h E)(k:i<h.Spans.length):aQ Tryz.prog 291 false [.ptr (bu h),.val none [I (i:Nat)]] [.ptr (bu (qz h i).1),.val none [I (i:Nat)]] .one [I (qz h i).2]:=by
 have F:=c.lens;have G:=F.spans;have d:=ah k;have b:=c.L.sok _ (am k);have e:=er b;have a:=c.nums;unfold cb at a;rw[C0]at a;have t:=(bw.1 (aF.1 c.ker).2.2.1).2.2;have l:=rx c.L.sok (ps:=aO h (nth h.Spans i).Page) e (aO h (nth h.Spans i).Page).length;change 0<=gz h i/\gz h i<=65535 at l;have w:=md (nth h.Spans i).Class;have y:=xB h i ⟨ω,λ_ _=>trivial⟩ ⟨by show h.Kernel.Machine.Table.Entries.length<=_;omega,λ_ _=>trivial⟩ c.L.sok k;have o:=vN (nth h.Spans i).Class (gz h i) ω;change ao _ _ _ _ _ (aD .own (mF h i)) at o;have p:=Ei (nth h.Spans i).Class (gz h i);change (mF h i).length<=16 at p;unfold qz;by_cases B:(mF h i).length=0
 ·rw[C8 B]
  refine fM 68 [] [(2,7,[16,17,18,19,20,21,22]),(7,12,[42,43,44,45,46,47,48,49,50,51,52,53]),(8,11,[56,57,58,59,60,61,62,63,64,65,66])] [(0,0),(0,0)] Tryz.func291 rfl (λu q=>?_)
  repeat'(first|refine gA ?_|(conv=>whnf);first|refine CA (aa d) ?_|refine CG rfl (aa d) rfl ?_|refine C6 (w) ?_|refine CF (y) ⟨⟨rfl,bx h⟩,⟨rfl,rfl⟩,trivial⟩ ?_|refine C6 (o) ?_|refine C9 ?_)
  refine CE rfl rfl ?_;exact wC
 ·rw[C7 B]
  have H:=ye (h:=h) (i:=i) ω;obtain⟨C,D,O⟩:=uL H;have J:=(fY (aE b).2.2).2.2.1;have r:=wz h.Seed (n:=((mF h i).length:Nat)) ω;have K:=th h.Seed ((mF h i).length:Nat) ω ω;have M:=xq (nth h.Spans i).Bits (pz h i) e ω;have N:=xk (pQ (nth h.Spans i) (pz h i)) (pz h i) (zj b ⟨C,D⟩) ⟨C,D⟩;have g:(mF h i)[(Jb h.Seed ((mF h i).length:Nat)).toNat]? = some (pz h i):=ah ω;have j:((h.Spans.map (au.enc .own)).set i [I (nth h.Spans i).Page,I (nth h.Spans i).Class,I (gq (nth h.Spans i).Bits (pz h i))])[i]? = some [I (nth h.Spans i).Page,I (nth h.Spans i).Class,I (gq (nth h.Spans i).Bits (pz h i))]:=qL k;unfold tA;rw[Hw];refine fM 68 [] [(2,7,[16,17,18,19,20,21,22]),(7,12,[42,43,44,45,46,47,48,49,50,51,52,53]),(8,11,[56,57,58,59,60,61,62,63,64,65,66])] [(0,0),(0,0)] Tryz.func291 rfl (λu q=>?_)
  repeat'(first|refine gA ?_|(conv=>whnf);first|refine CA (aa d) ?_|refine CA j ?_|refine CG rfl (aa g) rfl ?_|refine CG rfl (aa d) rfl ?_|refine CG rfl j rfl ?_|refine C6 (w) ?_|refine CF (y) ⟨⟨rfl,bx h⟩,⟨rfl,rfl⟩,trivial⟩ ?_|refine C6 (o) ?_|refine C6 (K) ?_|refine C6 (M) ?_|refine C6 (N) ?_|refine CK r.1 (aa g) ?_|refine C9 ?_|refine CM rfl rfl (aa d) rfl (X0 rfl) rfl ?_)
  refine CE rfl ?_ ?_
  ·rfl
  ·exact wC
theorem Ap.ins{α:Type}{e:α->List C}{xs:List α}{y:α}{r:List C}{i sz by_:Nat}{K:List (List C)->Prop}(a:r=e y)(b:∀y,(e y).length=sz)(c:∀y,aU (e y)=true)(h:xs.length<=1048576)(d:by_<=1000)(f:K ((xs.take i++y::xs.drop i).map e)):Ap true ((xs.take i).map e++[r]) ((xs.drop i).map e) sz by_ K:=by
 subst a;have g:(xs.take i).length+1+(xs.drop i).length<=3145728:=by rw[I1,W2];omega
 refine CN (λr a=>?_) (aN b) (λ_ r a=>by obtain⟨y,-,rfl⟩:=T3.1 a;exact c y) (by simp only[U2,W0,List.length_singleton];omega) (by simp only[U2,W0,List.length_singleton];exact Z3 (Nat.mul_le_mul g d) (by decide)) ?_ f
 ·rcases O2.1 a with a|a
  ·exact aN b r a
  ·rw[Z0.1 a];exact b y
 ·rw[R4,U4,Q4];rfl
theorem uy{α:Type}{p:α->Bool}{xs:List α}{y:α}{i:Nat}(h:jw p xs=i):jg p xs y=xs.take i++y::xs.drop i:=by unfold jg;rw[h]
def FN(h:ab)(c:Int):ab × Int:=
 if(a7 h.Free 1).2.2=false then(h,-1)
 else if(ge h.Kernel (a7 h.Free 1).2.1).2=false then({h with Kernel:=(ge h.Kernel (a7 h.Free 1).2.1).1},-1)
 else(vf h c,(uf h:Nat))
theorem zu(h:ab)(E:List Int)(c:Nat)(g:bp h E)(J:h.Kernel.Calls<=90000):aQ Tryz.prog 292 false [.ptr (bu h),.val none [I (c:Nat)]] [.ptr (bu (FN h c).1),.val none [I (c:Nat)]] .one [I (FN h c).2]:=by
 have B:=g.lens;have K:=B.spans;have L:dQ h<=32:=B.ents;have C:=gw h;have l:=nM (dQ h:Nat) h.Free 1 ⟨ω,ω⟩ g.rng (by decide) (by have:=B.free;omega);unfold NK at l;have d:=kH g (t4 1);unfold FN vf uf;generalize a7 h.Free 1=r at l d |-;obtain⟨o,p,ok⟩:=r;simp only at l d |-;cases ok with
 | false=>
  rw[C8 rfl];refine fM 79 [(296,[2,0]),(2000010,[0,6])] [(1,267,[11,12,13,14,15,16,17,10,18,19,20,0,1,2,3,4,5,6,7,8,9,10,11,1009,1010,12,1010,13])] [(0,0),(0,0)] Tryz.func292 rfl (λu q=>?_)
  repeat'(first|refine gO ?_|(conv=>whnf);first|refine C9 ?_|refine CF (C) ⟨bx h,trivial⟩ ?_|refine CF (l) ⟨⟨rfl,rfl⟩,⟨rfl,dB h.Free⟩,⟨rfl,rfl⟩,trivial⟩ ?_|refine C9 ?_)
  refine CE rfl rfl ?_;exact wC
 | true=>
  rw[C7 (by simp)];obtain⟨M,N,O,V⟩:=d rfl;have F:0<=p/\p<h.Kernel.Machine.Table.Entries.length:=⟨M,by have:p+1<=((tbl h).Entries.length:Nat):=N;unfold tbl at this;omega⟩
  have t:=AR h p g.ker ω F (O p.toNat ω ω);generalize ge h.Kernel p=w at t |-;obtain⟨k,b⟩:=w;simp only at t |-;cases b with
  | false=>
   rw[C8 rfl];refine fM 79 [(296,[2,0]),(2000010,[0,6])] [(1,267,[11,12,13,14,15,16,17,10,18,19,20,0,1,2,3,4,5,6,7,8,9,10,11,1009,1010,12,1010,13])] [(0,0),(0,0)] Tryz.func292 rfl (λu q=>?_)
   repeat'(first|refine gO ?_|(conv=>whnf);first|refine C9 ?_|refine CF (C) ⟨bx h,trivial⟩ ?_|refine CF (l) ⟨⟨rfl,rfl⟩,⟨rfl,dB h.Free⟩,⟨rfl,rfl⟩,trivial⟩ ?_|refine CH (t) (.inl rfl) ?_|refine C9 ?_)
   refine CE rfl rfl ?_;exact wC
  | true=>
   rw[C7 (by simp)];refine fM 79 [(296,[2,0]),(2000010,[0,6])] [(1,267,[11,12,13,14,15,16,17,10,18,19,20,0,1,2,3,4,5,6,7,8,9,10,11,1009,1010,12,1010,13])] [(0,0),(0,0)] Tryz.func292 rfl (λu q=>?_)
   repeat'(first|refine gO ?_|(conv=>whnf);first|refine C9 ?_|refine CF (C) ⟨bx h,trivial⟩ ?_|refine CF (l) ⟨⟨rfl,rfl⟩,⟨rfl,dB h.Free⟩,⟨rfl,rfl⟩,trivial⟩ ?_|refine CH (t) (.inl rfl) ?_|refine C9 ?_)
   (conv=>whnf)
   refine CD (ι:=Nat) (λi=>[(0,.hold .box (bu {h with Kernel:=k,Free:=o})),(1,.hold .one [I ((c:Nat):Int)]),(6,.hold .one [I (p)]),(8,.hold .one [I ((i:Nat):Int)])]) (λi=>i<=h.Spans.length/\∀(j:Nat)(z:au),j<i->h.Spans[j]? = some z->Hy p z=false) (λi=>h.Spans.length - i) (0) ?_ (⟨R0 _,λj z W=>ω⟩) λi g=>?_
   ·exact wC
   obtain⟨P,G⟩:=g;have Q:({h with Kernel:=k,Free:=o} : ab).Spans.length=h.Spans.length:=rfl;by_cases R:i<h.Spans.length/\(nth h.Spans i).Page<p
   ·have n:=ah R.1
    repeat'(first|refine gD ?_|(conv=>whnf);first|with_reducible refine CA (aa n) ?_|refine C9 ?_|refine CG rfl (aa n) rfl ?_)
    ((conv=>whnf);refine CB (i+1) ⟨ω,cV n (Q0 ω) G⟩ ω ?_;(exact wC))
   ·have a:jw (Hy p) h.Spans=i:=uq ω G λz H=>by
     have S:=(V1.1 H).1;have:z=nth h.Spans i:=(bo H).symm;subst this;exact O0 ω
    have n:i<h.Spans.length->h.Spans[i]? = some (nth h.Spans i):=λT=>ah T
    rw[show addS h k o p (c:Nat) = {h with Kernel:=k,Free:=o,Spans:=h.Spans.take i++⟨p,(c:Nat),0⟩::h.Spans.drop i} by unfold addS;rw[uy a],a]
    repeat'(first|refine gD ?_|(conv=>whnf);first|with_reducible (first|refine CA (aa (n ω)) ?_|refine Bf.D (λU=>?_) (λU=>?_))|refine C9 ?_|refine CG rfl (aa (n ω)) rfl ?_|refine r6.mk rfl (Bj h.Spans) rfl ?_|refine CS i rfl (by rw[W0];omega) (aN λ_=>rfl) Q3 ?_|refine Sl.suf i rfl (by rw[W0];omega) (aN λ_=>rfl) R3 ?_|refine CQ (λ_=>rfl) (λ_=>rfl) (by rw[I1];omega) (by decide) ?_|refine Ap.sn (aN λ_=>rfl) rfl (by rw[W0,I1];omega) (by decide) rfl ?_|refine Ap.ins (e:=au.enc .imm) (y:=⟨p,(c:Nat),0⟩) rfl (λ_=>rfl) (λ_=>rfl) ω (by decide) ?_)
    all_goals
     refine CE rfl rfl ?_;exact wC
theorem Br{h:ab}{c:Int}{i:Nat}(a:i<h.Spans.length)(b:sN h c i=true)(d:∀j,j<i->sN h c j=false):su h c=some i:=
 List.find?_range_eq_some.2 ⟨b,List.mem_range.2 a,λj e=>by rw[d j e];rfl⟩
theorem D2{h:ab}{c:Int}(a:∀j,j<h.Spans.length->sN h c j=false):su h c=none:=
 List.find?_range_eq_none.2 λj b=>by rw[a j b];rfl
theorem sC{h:ab}{c:Int}{i:Nat}(a:sN h c i=false)(b:∀j,j<i->sN h c j=false):∀j,j<i+1->sN h c j=false:=λj d=>by
 by_cases e:j=i
 ·rw[e];exact a
 ·exact b j ω
theorem Ht(h:ab)(t:Nat)(c:ay):bu {h with Caches:=h.Caches.set t c} = (bu h).set 9 (.s .own ((h.Caches.map (ay.enc .own)).set t (ay.enc .own c))):=by
 simp[bu,W4]
theorem KG{h:ab}{c:Nat}(b:bp h [])(l:c<=3)(e:h.Kernel.Calls<=90000)(h1:¬(a7 h.Free 1).2.2=false)(f:¬(ge h.Kernel (a7 h.Free 1).2.1).2=false):bp (vf h c) []/\uf h<(vf h c).Spans.length:=by
 have a:(a7 h.Free 1).2.2=true:=by simpa using h1
 obtain⟨g,i,j,n⟩:=kH b (t4 1) a;have s:=Au.of (p:=(a7 h.Free 1).2.1) b.ker ω ⟨g,by have:(a7 h.Free 1).2.1+1<=(h.Kernel.Machine.Table.Entries.length:Nat):=i;omega⟩ (j _ ω ω);have d:(ge h.Kernel (a7 h.Free 1).2.1).2=true:=by simpa using f
 have k:Au h.Kernel (a7 h.Free 1).2.1 ((ge h.Kernel (a7 h.Free 1).2.1).1,true):=by rw[<-d];exact s
 exact⟨b.addS (c:=c) ⟨ω,ω⟩ a k,(F9 (Hy (a7 h.Free 1).2.1) h.Spans ⟨(a7 h.Free 1).2.1,c,0⟩).1⟩
theorem xF(h:ab)(t c:Nat)(o:bp h [])(M:t<h.Caches.length)(N:c<=3)(p:h.Kernel.Calls<=90000):aQ Tryz.prog 234 false [.ptr (bu h),.val none [I (t:Nat)],.val none [I (c:Nat)]] [.ptr (bu (gr h t c).1),.val none [I (t:Nat)],.val none [I (c:Nat)]] .one [I (gr h t c).2]:=by
 have E:=o.cach _ (am M);have e:=ah M;have r:=vo (nth h.Caches t) c E N;have Q:=o.lens.spans;have B:=o;unfold NU at r;by_cases F:0<(nth (nth h.Caches t).Lists c).length
 ·unfold gr
  rw[C8 F]at r |-;simp only;rw[Ht];refine fM 80 [(291,[2,0]),(292,[2,0])] [(3,6,[27,28,29,30,31,32])] [(0,0),(0,0),(0,0)] Tryz.func234 rfl (λu q=>?_)
  repeat'(first|refine gO ?_|(conv=>whnf);first|with_reducible refine CA (aa e) ?_|refine CG rfl (aa e) rfl ?_|refine CF (r) ⟨⟨rfl,ay.enc_fz _⟩,⟨rfl,rfl⟩,trivial⟩ ?_|refine C9 ?_|refine CM rfl rfl (aa e) rfl (X0 rfl) rfl ?_)
  refine CE rfl rfl ?_;exact wC
 ·rw[C7 F]at r
  have d:gr h t c=match su h c with
   | some i=>(slotT h i,tA h i)
   | none=>if(a7 h.Free 1).2.2=false then(h,-1)
    else if(ge h.Kernel (a7 h.Free 1).2.1).2=false then({h with Kernel:=(ge h.Kernel (a7 h.Free 1).2.1).1},-1)
    else qz (vf h c) (uf h):=by unfold gr;exact C7 F
  refine fM 80 [(291,[2,0]),(292,[2,0])] [(3,6,[27,28,29,30,31,32])] [(0,0),(0,0),(0,0)] Tryz.func234 rfl (λu q=>?_)
  repeat'(first|refine gO ?_|(conv=>whnf);first|with_reducible refine CA (aa e) ?_|refine CG rfl (aa e) rfl ?_|refine CF (r) ⟨⟨rfl,ay.enc_fz _⟩,⟨rfl,rfl⟩,trivial⟩ ?_|refine C9 ?_)
  (conv=>whnf)
  refine CD (ι:=Nat) (λi=>[(0,.hold .box (bu h)),(1,.hold .one [I ((t:Nat):Int)]),(2,.hold .one [I ((c:Nat):Int)]),(10,.hold .one [I ((i:Nat):Int)])]) (λi=>i<=h.Spans.length/\∀j,j<i->sN h c j=false) (λi=>h.Spans.length - i) (0) ?_ (⟨R0 _,λj W=>ω⟩) λi o=>?_
  ·exact wC
  obtain⟨R,w⟩:=o;by_cases C:i<h.Spans.length
  ·have l:=ah C
   by_cases O:(nth h.Spans i).Class=c
   ·have y:=tp h (nth h.Spans i).Page
    cases D:gt h (nth h.Spans i).Page with
    | true=>
     rw[D]at y
     repeat'(first|refine gA ?_|(conv=>whnf);first|with_reducible refine CA (aa l) ?_|refine CG rfl (aa l) rfl ?_|refine CF (y) ⟨bx h,⟨rfl,rfl⟩,trivial⟩ ?_)
     ((conv=>whnf);refine CB (i+1) ⟨ω,sC (by unfold sN;rw[D];simp) w⟩ ω ?_;(exact wC))
    | false=>
     rw[D]at y;have n:=qY h [] i B C;unfold qz at n;by_cases P:(mF h i).length=0
     ·rw[C8 P]at n
      repeat'(first|refine gA ?_|(conv=>whnf);first|with_reducible refine CA (aa l) ?_|refine CG rfl (aa l) rfl ?_|refine CF (y) ⟨bx h,⟨rfl,rfl⟩,trivial⟩ ?_|refine CH (n) (.inl rfl) ?_)
      ((conv=>whnf);refine CB (i+1) ⟨ω,sC (by unfold sN;rw[Q0 (by omega:¬0<(mF h i).length)];simp) w⟩ ω ?_;(exact wC))
     ·rw[C7 P]at n
      have G:su h c=some i:=Br C (by unfold sN;rw[O0 O,D,O0 ω];rfl) w;rw[G]at d;simp only at d;obtain⟨S,T⟩:=B.slotT C (by omega:0<(mF h i).length);have H:=jl.nn S T;rw[d];generalize slotT h i=g at n |-;generalize tA h i=a at n H |-
      repeat'(first|refine gA ?_|(conv=>whnf);first|with_reducible refine CA (aa l) ?_|refine CG rfl (aa l) rfl ?_|refine CF (y) ⟨bx h,⟨rfl,rfl⟩,trivial⟩ ?_|refine CH (n) (.inl rfl) ?_)
      refine CE rfl rfl ?_;exact wC
   ·repeat'(first|refine gA ?_|(conv=>whnf);first|with_reducible refine CA (aa l) ?_|refine CG rfl (aa l) rfl ?_)
    ((conv=>whnf);refine CB (i+1) ⟨ω,sC (by unfold sN;rw[Q0 O];rfl) w⟩ ω ?_;(exact wC))
  ·obtain rfl:i=h.Spans.length:=ω
   have G:su h c=none:=D2 w;rw[G]at d;simp only at d;have k:=zu h [] c B p;rw[d];unfold FN at k;by_cases J:(a7 h.Free 1).2.2=false
   ·rw[C8 J]at k |-
    repeat'(first|refine gD ?_|(conv=>whnf);first|refine CH (k) (.inl rfl) ?_)
    refine CE rfl rfl ?_;exact wC
   ·rw[C7 J]at k |-
    by_cases K:(ge h.Kernel (a7 h.Free 1).2.1).2=false
    ·rw[C8 K]at k |-
     repeat'(first|refine gD ?_|(conv=>whnf);first|refine CH (k) (.inl rfl) ?_)
     refine CE rfl rfl ?_;exact wC
    ·rw[C7 K]at k |-
     obtain⟨U,V⟩:=KG B N p J K;have L:=qY (vf h c) [] (uf h) U V;generalize vf h c=g at k L |-;generalize uf h=b at k L |-
     repeat'(first|refine gD ?_|(conv=>whnf);first|refine CH (k) (.inl rfl) ?_|refine CH (L) (.inl rfl) ?_)
     refine CE rfl rfl ?_;exact wC
def Gs(h:ab)(size:Int):ab × Int:=
 if(a7 h.Free (lK size:Nat)).2.2=false then(h,-1)
 else if(iH h size).2=lK size then({h with Kernel:=(iH h size).1,Free:=(a7 h.Free (lK size:Nat)).1,Larges:=jg (MD (a7 h.Free (lK size:Nat)).2.1) h.Larges ⟨(a7 h.Free (lK size:Nat)).2.1,(lK size:Nat),size⟩},16*(a7 h.Free (lK size:Nat)).2.1)
 else({h with Kernel:=dR (iH h size).1 (a7 h.Free (lK size:Nat)).2.1 (iH h size).2},-1)
theorem vJ(k:af)(p:Int)(i:Nat):cK k p (i+1)=if(cK k p i).2=i then((ge (cK k p i).1 (p+(i:Nat))).1,if(ge (cK k p i).1 (p+(i:Nat))).2=true then i+1 else i) else cK k p i:=rfl
theorem Dy(k:af)(p:Int):∀i,(cK k p i).2<=i
 | 0=>Q2 _
 | i+1=>by
  have b:=Dy k p i;rw[vJ];by_cases e:(cK k p i).2=i
  ·rw[C8 e]
   show(if _ then i+1 else i)<=i+1;by_cases a:(ge (cK k p i).1 (p+(i:Nat))).2=true
   ·rw[C8 a];exact Q2 _
   ·rw[C7 a];exact Nat.le_succ _
  ·rw[C7 e];omega
theorem m8{k:af}{p:Int}{i:Nat}(h:(cK k p i).2≠i):∀j,cK k p (i+j)=cK k p i/\(cK k p (i+j)).2<i+j
 | 0=>⟨rfl,by show(cK k p i).2<i;have:=Dy k p i;omega⟩
 | j+1=>by
  have a:=m8 h j;have e:cK k p (i+(j+1))=cK k p (i+j):=by
   show cK k p (i+j+1)=_;rw[vJ,C7 ω]
  exact⟨e.trans a.1,by rw[e];omega⟩
theorem xN(h:ab)(size:Int)(l:bp h [])(C:9<=size/\size<=1000)(V:h.Kernel.Calls<=90000):aQ Tryz.prog 235 false [.ptr (bu h),.val none [I size]] [.ptr (bu (Gs h size).1),.val none [I size]] .one [I (Gs h size).2]:=by
 have E:=l.lens;have W:=E.larges;have Q:=l;have F:dQ h<=32:=E.ents;have G:eI size=((lK size:Nat):Int):=by unfold eI lK;split<;>omega
 have hN:1<=lK size/\lK size<=63:=by unfold lK;omega
 have H:=kQ size;rw[G]at H;have R:=gw h;have t:=nM (dQ h:Nat) h.Free (lK size:Nat) ⟨ω,ω⟩ l.rng ⟨ω,ω⟩ (by have:=E.free;omega);unfold NK at t;have b:=kH l (show(1:Int)<=(lK size:Nat) by omega);unfold Gs iH;generalize lK size=N at *;generalize a7 h.Free (N:Nat)=r at t b |-;obtain⟨J,p,ok⟩:=r;simp only at t b |-;refine fM 105 [(296,[2,0]),(297,[2,0]),(2000018,[0,7])] [(2,268,[16,17,18,19,20,21,22,23,15,24,25,26,0,1,2,3,4,5,6,7,8,9,10,11,12,1010,1011,13,1011,14])] [(0,0),(0,0)] Tryz.func235 rfl (λu q=>?_);cases ok with
 | false=>
  rw[C8 rfl]
  repeat'(first|refine gO ?_|(conv=>whnf);first|refine C9 ?_|refine C6 (H) ?_|refine CF (R) ⟨bx h,trivial⟩ ?_|refine CF (t) ⟨⟨rfl,rfl⟩,⟨rfl,dB h.Free⟩,⟨rfl,rfl⟩,trivial⟩ ?_|refine C9 ?_)
  refine CE rfl rfl ?_;exact wC
 | true=>
  rw[C7 (by simp)];obtain⟨S,K,B,u4⟩:=b rfl;change p+(N:Nat)<=(h.Kernel.Machine.Table.Entries.length:Nat) at K;change ∀q:Nat,p<=q->(q:Int)<p+(N:Nat)->(nth h.Kernel.Machine.Table.Entries q).Mode=0 at B
  have X:h.Kernel.Machine.Table.Entries.length<=32:=F
  repeat'(first|refine gO ?_|(conv=>whnf);first|refine C9 ?_|refine C6 (H) ?_|refine CF (R) ⟨bx h,trivial⟩ ?_|refine CF (t) ⟨⟨rfl,rfl⟩,⟨rfl,dB h.Free⟩,⟨rfl,rfl⟩,trivial⟩ ?_|refine C9 ?_)
  (conv=>whnf)
  refine CD (ι:=Nat) (λi=>[(0,.hold .box (bu {h with Kernel:=(cK h.Kernel p i).1})),(1,.hold .one [I (size)]),(5,.hold .one [I ((N:Nat):Int)]),(6,.hold .one (bI .own J)),(7,.hold .one [I (p)]),(9,.hold .one [I ((i:Nat):Int)])]) (λi=>i<=N/\(cK h.Kernel p i).2=i) (λi=>N - i) (0) ?_ (⟨R0 _,rfl⟩) λi l=>?_
  ·exact wC
  obtain⟨L,M⟩:=l;have s:=ng.of (p:=p) (n:=N) Q.ker ω ⟨S,K⟩ B i L;have Y:=s.calls;have Z:=s.len;by_cases li:i<N
  ·have O:(nth (cK h.Kernel p i).1.Machine.Table.Entries (p+(i:Nat)).toNat).Mode=0:=by
    rw[s.out _ (by rw[M];omega)];exact B _ ω ω
   have c:=AR {h with Kernel:=(cK h.Kernel p i).1} (p+(i:Nat)) s.ker (by show(cK h.Kernel p i).1.Calls≠100000;omega) ⟨ω,by show p+(i:Nat)<((cK h.Kernel p i).1.Machine.Table.Entries.length:Nat);omega⟩ O;have a:cK h.Kernel p (i+1)=((ge (cK h.Kernel p i).1 (p+(i:Nat))).1,if(ge (cK h.Kernel p i).1 (p+(i:Nat))).2=true then i+1 else i):=by
    show(if(cK h.Kernel p i).2=i then _ else _)=_;rw[C8 M]
   simp only at c;cases e:(ge (cK h.Kernel p i).1 (p+(i:Nat))).2 with
   | true=>
    rw[e]at c a;rw[C8 rfl]at a;have P:(ge (cK h.Kernel p i).1 (p+(i:Nat))).1=(cK h.Kernel p (i+1)).1:=by rw[a]
    rw[P]at c
    repeat'(first|refine gD ?_|(conv=>whnf);first|refine C9 ?_|refine CH (c) (.inl rfl) ?_)
    ((conv=>whnf);refine CB (i+1) ⟨ω,by rw[a]⟩ ω ?_;(exact wC))
   | false=>
    rw[e]at c a;rw[C7 (by simp)]at a;have d:=m8 (k:=h.Kernel) (p:=p) (i:=i+1) (by rw[a];simp only;omega) (N - (i+1));rw[show i+1+(N - (i+1))=N by omega]at d;rw[d.1]at d;have T:=ng.of (p:=p) (n:=N) Q.ker ω ⟨S,K⟩ B (i+1) ω;rw[C7 (by have:=m8 (k:=h.Kernel) (p:=p) (i:=i+1) (by rw[a];simp only;omega) (N - (i+1));rw[show i+1+(N - (i+1))=N by omega]at this;omega)];rw[show cK h.Kernel p N=cK h.Kernel p (i+1) by have:=m8 (k:=h.Kernel) (p:=p) (i:=i+1) (by rw[a];simp only;omega) (N - (i+1));rw[show i+1+(N - (i+1))=N by omega]at this;exact this.1];rw[a]at T |-;have g:=T.ker;simp only at g |-;generalize (ge (cK h.Kernel p i).1 (p+(i:Nat))).1=k at c g |-
    repeat'(first|refine gD ?_|(conv=>whnf);first|refine C9 ?_|refine CH (c) (.inl rfl) ?_)
    (conv=>whnf)
    refine CD (ι:=Nat) (λj=>[(0,.hold .box (bu {h with Kernel:=dR k p j})),(1,.hold .one [I (size)]),(5,.hold .one [I ((N:Nat):Int)]),(7,.hold .one [I (p)]),(9,.hold .one [I ((i:Nat):Int)]),(10,.hold .one [I ((j:Nat):Int)])]) (λj=>j<=i) (λj=>i - j) (0) ?_ (R0 _) λj hj=>?_
    ·exact wC
    have c4:=mL {h with Kernel:=dR k p j} (p+(j:Nat)) (kq g p j);by_cases lj:j<i
    ·repeat'(first|refine gD ?_|(conv=>whnf);first|refine C9 ?_|refine CH (c4) (.inl rfl) ?_)
     ((conv=>whnf);refine CB (j+1) ω ω ?_;(exact wC))
    ·obtain rfl:j=i:=ω
     repeat'(first|refine gD ?_|(conv=>whnf);first|refine C9 ?_)
     refine CE rfl rfl ?_;exact wC
  ·obtain rfl:i=N:=ω
   rw[C8 M];generalize (cK h.Kernel p i).1=k
   repeat'(first|refine gD ?_|(conv=>whnf);first|refine C9 ?_)
   (conv=>whnf)
   refine CD (ι:=Nat) (λm=>[(0,.hold .box (bu {h with Kernel:=k,Free:=J})),(1,.hold .one [I (size)]),(5,.hold .one [I ((i:Nat):Int)]),(7,.hold .one [I (p)]),(11,.hold .one [I ((m:Nat):Int)])]) (λm=>m<=h.Larges.length/\∀(j:Nat)(z:a8),j<m->h.Larges[j]? = some z->MD p z=false) (λm=>h.Larges.length - m) (0) ?_ (⟨R0 _,λj z hj=>ω⟩) λm hm=>?_
   ·exact wC
   obtain⟨hm',U⟩:=hm;have hl2:({h with Kernel:=k,Free:=J} : ab).Larges.length=h.Larges.length:=rfl;by_cases go:m<h.Larges.length/\(nth h.Larges m).Page<p
   ·have o:=ah go.1
    repeat'(first|refine gD ?_|(conv=>whnf);first|with_reducible refine CA (aa o) ?_|refine C9 ?_|refine CG rfl (aa o) rfl ?_)
    ((conv=>whnf);refine CB (m+1) ⟨ω,cV o (Q0 ω) U⟩ ω ?_;(exact wC))
   ·have w:jw (MD p) h.Larges=m:=uq ω U λz C=>by
     have hlt:=(V1.1 C).1;have:z=nth h.Larges m:=(bo C).symm;subst this;exact O0 ω
    have o:m<h.Larges.length->h.Larges[m]? = some (nth h.Larges m):=λhh=>ah hh
    rw[uy w]
    repeat'(first|refine gD ?_|(conv=>whnf);first|with_reducible (first|refine CA (aa (o ω)) ?_|refine Bf.D (λhq=>?_) (λhq=>?_))|refine C9 ?_|refine CG rfl (aa (o ω)) rfl ?_|refine r6.mk rfl (yd h.Larges) rfl ?_|refine CS m rfl (by rw[W0];omega) (aN λ_=>rfl) Q3 ?_|refine Sl.suf m rfl (by rw[W0];omega) (aN λ_=>rfl) R3 ?_|refine CQ (λ_=>rfl) (λ_=>rfl) (by rw[I1];omega) (by decide) ?_|refine Ap.sn (aN λ_=>rfl) rfl (by rw[W0,I1];omega) (by decide) rfl ?_|refine Ap.ins (e:=a8.enc .imm) (y:=⟨p,(i:Nat),size⟩) rfl (λ_=>rfl) (λ_=>rfl) ω (by decide) ?_)
    all_goals
     refine CE rfl ?_ ?_
     ·exact T0 (λz=>[I z]) ω
     ·exact wC
theorem BZ{k:af}(h:aB k=true)(b:iJ k.Refuse):af.wf k:=by
 obtain⟨p,f,g,q,t⟩:=aF.1 h;obtain⟨u,w,y,A⟩:=bh.1 f;obtain⟨i,B,C⟩:=bw.1 g;refine⟨⟨⟨⟨ω,λr b=>?_⟩,⟨ω,λ_ _=>trivial⟩⟩,⟨ω,λe l=>?_⟩⟩,⟨ω,ω⟩,b⟩
 ·obtain⟨j,c,rfl⟩:=aZ b
  obtain⟨D,n⟩:=zZ h c;exact⟨ω,λv o=>by have:=n v o;exact⟨ω,ω⟩⟩
 ·obtain⟨j,c,rfl⟩:=aZ l
  have a:=i j c;unfold jT at a;rw[C0]at a;by_cases d:(nth k.Machine.Table.Entries j).Mode=0
  ·have:=a.2.2.1 d;exact⟨⟨ω,ω⟩,⟨ω,ω⟩⟩
  ·have:=a.2.2.2 d;exact⟨⟨ω,ω⟩,⟨ω,ω⟩⟩
theorem Gf{p:cz}(h:eD p=true):cz.wf p:=by
 have a:=λi b=>lM h (i:=i) b
 have e:p.Cells.length<=16:=l7 h;unfold eD at h;simp only[I0,C0]at h;exact⟨⟨ω,ω⟩,⟨ω,ω⟩,⟨ω,λv c=>by
   obtain⟨j,d,rfl⟩:=aZ c;have:=a j d;exact⟨ω,ω⟩⟩⟩
theorem bp.jobWf{h:ab}{E:List Int}(a:bp h E):cN.wf h.Job/\cN.sml h.Job:=by
 cases b:h.Meshing with
 | true=>
  obtain⟨c,f,g,i,j⟩:=fx.1 (a.job b).1;have k:=l7 c;exact⟨⟨Gf c,⟨ω,ω⟩,⟨ω,ω⟩⟩,by show h.Job.Plan.Cells.length<=1048576;omega⟩
 | false=>
  have:=a.noj b;unfold qK at this;rw[C0]at this;obtain⟨l,n,e,o,p⟩:=this;refine⟨⟨⟨⟨ω,ω⟩,⟨ω,ω⟩,⟨ω,λv d=>?_⟩⟩,⟨ω,ω⟩,⟨ω,ω⟩⟩,by show h.Job.Plan.Cells.length<=1048576;omega⟩;rw[R5 e]at d;cases d
theorem uU{n:Int}(h:0<=aK n):1<=n/\n<=8:=by
 unfold aK at h
 repeat' split at h
 all_goals omega
theorem jl.wf{h:ab}{E:List Int}(b:bp h E){a c:Int}(d:jl h.Spans a c):lP a:=by
 have:=d.bd b;exact⟨ω,ω⟩
theorem bp.wf{h:ab}{E:List Int}(d:bp h E)(M:iJ h.Kernel.Refuse):ab.wf h:=by
 have q:=d.lens;have r:=d.L;have D:=d.nums;unfold cb at D;rw[C0]at D;obtain⟨X,N,Y⟩:=fj.1 d.rng;obtain⟨O,-,-,Z,q5,-⟩:=jc.1 d.quar;have w:=d.mail;have k:=d.hfl;unfold aC at k;rw[C8 w]at k;unfold bz at w;simp only[I0,C0,cn,gl,I3,mb,LT]at w;obtain⟨⟨⟨m1,m2,m3⟩,P⟩,m5⟩:=w;have A:=q.free;have Q:=q.spans;have h3:=q.larges;have h4:=q.objs;have h5:=q.caches;have h6:=q.quar;have t:∀n:Nat,br h.Mail n<=br h.Mail (n+1):=λn=>by simp only[br];omega
 have g:∀a b:Nat,a<=b->br h.Mail a<=br h.Mail b:=λa b u=>by
  induction u with
  | refl=>exact t4 _
  | step _ R=>exact Int.le_trans R (t _)
 have B:∀n:Nat,0<=br h.Mail n:=λn=>g 0 n (R0 _)
 have o:∀i,i<h.Mail.Buffers.length->(nth h.Mail.Buffers i).length<=30/\(nth h.Mail.Inbox i).length<=30:=λi f=>by
  have F:=g (i+1) h.Mail.Buffers.length ω;have S:=B i;simp only[br]at F;omega
 refine⟨BZ d.ker M,⟨ω,λx e=>?_⟩,⟨ω,λx e=>?_⟩,⟨ω,λx e=>?_⟩,⟨ω,λx e=>?_⟩,⟨ω,λx e=>?_⟩,⟨⟨ω,λl c=>?_⟩,⟨ω,λl c=>?_⟩⟩,⟨⟨ω,ω⟩,⟨ω,λx e=>?_⟩⟩,⟨ω,ω⟩,⟨ω,ω⟩,⟨ω,ω⟩,⟨ω,ω⟩,trivial,d.jobWf.1⟩
 ·have:=N x e;exact⟨⟨ω,ω⟩,⟨ω,ω⟩⟩
 ·have y:=r.sok x e
  have G:=er y;have T:=aE y;exact⟨⟨ω,ω⟩,⟨ω,ω⟩,⟨ω,ω⟩⟩
 ·have H:=aR (r.lok x e)
  have J:=co (r.lok x e);exact⟨⟨ω,ω⟩,⟨ω,ω⟩,⟨ω,ω⟩⟩
 ·obtain⟨o1,o2,o3,o4⟩:=d.onu x e
  have u:0<=x.Addr/\x.Addr<512/\-1000<=x.Size/\x.Size<=1000:=by
   rcases d.oow x e with⟨s,y,A,Q⟩|⟨l,c,F,S⟩
   ·have T:=aE (r.sok s y)
    have:=uU (n:=x.Size) ω;exact⟨by have:=A.1;omega,by have:=A.2.1;omega,ω,ω⟩
   ·have H:=aR (r.lok l c)
    have J:=co (r.lok l c);omega
  exact⟨⟨ω,ω⟩,⟨ω,ω⟩,⟨ω,ω⟩,⟨ω,ω⟩⟩
 ·obtain⟨c1,U⟩:=q.lists x e
  refine⟨ω,λl c=>⟨by have:=U l c;omega,λa C=>?_⟩⟩;obtain⟨j,V,rfl⟩:=aZ c;exact jl.wf d (d.hca x e j V a C)
 ·obtain⟨i,f,rfl⟩:=aZ c
  have G:=o i f;refine⟨ω,λp K=>?_⟩;have W:=(P i f).1 p K;exact⟨⟨ω,ω⟩,jl.wf d (k p.Addr (O2.2 (.inl (List.mem_flatMap.2 ⟨_,am f,T3.2 ⟨p,K,rfl⟩⟩))))⟩
 ·obtain⟨i,f,rfl⟩:=aZ c
  have G:=o i ω;exact⟨ω,λa C=>jl.wf d (k a (O2.2 (.inr (List.mem_flatten.2 ⟨_,am f,C⟩))))⟩
 ·have H:=O x e
  have J:=d.snc x e;exact⟨jl.wf d (d.hqu x e),⟨ω,ω⟩,⟨ω,ω⟩⟩
structure PD(h:ab):Prop where
 ker:aB h.Kernel=true
 wf:ab.wf h
 sml:ab.sml h
 lens:Mq h
theorem bp.fit{h:ab}{E:List Int}(a:bp h E)(b:iJ h.Kernel.Refuse)(c:aJ.sml h.Mail):PD h:=⟨a.ker,a.wf b,a.lens.sml a.ker c a.jobWf.2,a.lens⟩
theorem EQ{h:ab}(b:bp h [])(c:h.Meshing=true):aB (mStep h).Kernel=true/\(mStep h).Kernel.Calls<=h.Kernel.Calls+1/\(mStep h).Kernel.Refuse=h.Kernel.Refuse/\(mStep h).Mail=h.Mail/\(AB h=true->(mStep h).Meshing=false)/\cN.wf (mStep h).Job/\cN.sml (mStep h).Job:=by
 have s:=JS.of b c;refine⟨s.ker,s.calls.2.1,s.calls.2.2,rfl,λa=>?_,?_⟩
 ·unfold AB at a
  rw[C0]at a;show(if over _=true then false else h.Meshing)=false;rw[C8 (show over (jh h.Kernel h.Job).2=true from O0 (.inl a))]
 ·show cN.wf (if over _=true then _ else _)/\cN.sml (if over _=true then _ else _)
  split
  ·exact⟨⟨⟨⟨by decide,by decide⟩,⟨by decide,by decide⟩,⟨by decide,λv f=>by cases f⟩⟩,⟨by decide,by decide⟩,⟨by decide,by decide⟩⟩,by show(0:Nat)<=1048576;omega⟩
  ·have d:=(fx.1 (b.job c).1).1
   have g:=l7 d;obtain⟨j,k⟩:=s.ph;obtain⟨l,i⟩:=s.nxt;have e:=s.plan;refine⟨⟨by rw[e];exact Gf d,⟨ω,ω⟩,⟨ω,by rw[e]at i;omega⟩⟩,by show((jh h.Kernel h.Job).2.Plan.Cells).length<=1048576;rw[e];omega⟩
def tQ(h:ab):Nat->ab × Bool
 | 0=>(h,false)
 | i+1=>if(tQ h i).1.Meshing=true then(mStep (tQ h i).1,AB (tQ h i).1) else tQ h i
def fin(h:ab):ab × Bool:=tQ h 100
theorem BQ{h:ab}(g:bp h []):bp (started h).1 []/\(started h).1.Kernel=h.Kernel/\(started h).1.Mail=h.Mail:=by
 have t:=g.nums;unfold cb at t;rw[C0]at t;have u:=(ly (bM h).length (show 0<=h.Seed/\h.Seed<=1073741823 by omega) ((bM h).length - 1)).2;have j:=pZ (bM h) (show 0<=h.Seed/\h.Seed<=1073741823 by omega);have c:cb {h with Seed:=(shuf (bM h).length h.Seed).2} = true:=by
  unfold cb;rw[C0];unfold shuf;simp only;omega
 cases k:mE (bM h) h.Seed with
 | nil=>
  have f:Ab.started h=({h with Seed:=(shuf (bM h).length h.Seed).2},false):=by unfold Ab.started;rw[k]
  rw[f];exact⟨{g with nums:=c},rfl,rfl⟩
 | cons q C=>
  obtain⟨D,E,l⟩:=j q (by rw[k];exact O1 ..);have f:Ab.started h=({h with Seed:=(shuf (bM h).length h.Seed).2,Meshing:=true,Job:=vi (dH (nth (bM h) q.A.toNat) (nth (bM h) q.B.toNat))},true):=by unfold Ab.started;rw[k]
  rw[f];have d:∀s∈bM h,s∈h.Spans:=λs w=>oz h (Q2 _) s (List.mem_of_mem_take w)
  have n:=d _ (am (xs:=bM h) (i:=q.A.toNat) ω);have o:=d _ (am (xs:=bM h) (i:=q.B.toNat) ω);generalize nth (bM h) q.A.toNat=a at l n |-;generalize nth (bM h) q.B.toNat=b at l o |-;obtain⟨y,F,G⟩:=rL l;have p:jf (vi (dH a b))=true:=fx.2 ⟨y,by show(0:Int)<=0;omega,by show(0:Int)<=5;omega,by show(0:Int)<=0;omega,by show(0:Int)<=(((dH a b).Cells.length:Nat):Int);omega⟩;have r:(∃s∈h.Spans,s.Page=(dH a b).Keep)/\∃s∈h.Spans,s.Page=(dH a b).Move:=by
   unfold dH;split
   ·exact⟨⟨b,o,rfl⟩,⟨a,n,rfl⟩⟩
   ·exact⟨⟨a,n,rfl⟩,⟨b,o,rfl⟩⟩
  exact⟨{g with nums:=c,job:=λ_=>⟨p,r⟩,noj:=λe=>by cases e},rfl,rfl⟩
theorem bp.objSz{h:ab}{E:List Int}(a:bp h E):∀o∈h.Objs,0<=o.Size/\o.Size<=1000:=λx c=>by
 rcases a.oow x c with⟨s,d,e,f⟩|⟨l,b,g,i⟩
 ·have j:=aE (a.L.sok s d)
  have:=uU (n:=x.Size) ω;omega
 ·have k:=co (a.L.lok l b)
  omega
theorem GD{h:ab}(t:Int){size:Int}(c:bp h [])(d:9<=size/\size<=1000):pL h t size=if(Gs h size).2<0 then((Gs h size).1,-1,4) else(addO (Gs h size).1 (Gs h size).2 size t,(Gs h size).2,0):=by
 unfold pL Gs;by_cases a:(a7 h.Free (lK size:Nat)).2.2=false
 ·rw[C8 a,C8 a]
  exact(C8 (show(-1:Int)<0 by decide)).symm
 ·rw[C7 a,C7 a]
  obtain⟨e,-⟩:=kH c (show(1:Int)<=(lK size:Nat) by unfold lK;omega) (by simpa using a);by_cases b:(iH h size).2=lK size
  ·rw[C8 b,C8 b]
   exact(C7 (show ¬16*(a7 h.Free (lK size:Nat)).2.1<0 by omega)).symm
  ·rw[C7 b,C7 b]
   exact(C8 (show(-1:Int)<0 by decide)).symm
theorem xH(h:ab)(t size:Int)(k:bp h []):aQ Tryz.prog 143 false [.ptr (bu h),.val none [I t],.val none [I size]] [.ptr (bu (gp h t size).1),.val none [I t],.val none [I size]] (.tup [none,none]) [I (gp h t size).2.1,I (gp h t size).2.2]:=by
 have X:=k.lens;have hlc:=X.caches;have P:=X.objs;have p:=k.nums;unfold cb at p;rw[C0]at p;have Q:=sS k.objSz h.Objs.length (Q2 _);change 0<=uK h/\uK h<=_ at Q;have n:=aG t 0 ((h.Caches.length:Int) - 1);have r:=aG size 1 1000;have E:=wS h k.objSz ω;have F:=j8 size;refine fM 119 [(234,[2,0,0]),(235,[2,0])] [(7,10,[36,37,38,39,40,41,42,43,44,45]),(18,272,[81,82,83,84,85,86,87,89,90,91,92,93,94,95,96,97,0,1,2,3,4,5,6,8,9,10,11,12,13,14,15,16,1016,7,1008,1009,1010,1011,1012,1013,1014,1015,1016,17,18]),(1048594,0,[8])] [(0,0),(0,0),(0,0)] Tryz.func143 rfl (λu q=>?_) (.inr ⟨trivial,trivial,trivial⟩);unfold gp;by_cases h1:1000000<=h.Next
 ·rw[C8 (.inl h1)]
  repeat'(first|refine gD ?_|(conv=>whnf);first|refine C9 ?_)
  refine CE rfl rfl ?_;exact wC
 by_cases h2:90000<h.Kernel.Calls
 ·rw[C8 (.inr h2)]
  repeat'(first|refine gD ?_|(conv=>whnf);first|with_reducible refine Bf.D (λb=>?_) (λb=>?_)|refine C9 ?_)
  refine CE rfl rfl ?_;exact wC
 rw[C7 ω];by_cases C:¬(0<=t/\t<=h.Caches.length - 1)
 ·rw[C8 C]
  rw[Q0 C]at n
  repeat'(first|refine gD ?_|(conv=>whnf);first|with_reducible refine Bf.D (λb=>?_) (λb=>?_)|refine C9 ?_|refine C6 (n) ?_)
  refine CE rfl rfl ?_;exact wC
 rw[C7 C];replace C:=Decidable.not_not.1 C;rw[O0 C]at n;by_cases B:¬(1<=size/\size<=1000)
 ·rw[C8 B]
  rw[Q0 B]at r
  repeat'(first|refine gD ?_|(conv=>whnf);first|with_reducible refine Bf.D (λb=>?_) (λb=>?_)|refine C9 ?_|refine C6 (n) ?_|refine C6 (r) ?_)
  refine CE rfl rfl ?_;exact wC
 rw[C7 B];replace B:=Decidable.not_not.1 B;rw[O0 B]at r;by_cases Y:h.Limit<uK h+size
 ·rw[C8 Y]
  repeat'(first|refine gD ?_|(conv=>whnf);first|with_reducible refine Bf.D (λb=>?_) (λb=>?_)|refine C9 ?_|refine C6 (n) ?_|refine C6 (r) ?_|refine CF (E) ⟨⟨rfl,bx h⟩,trivial⟩ ?_|refine C9 ?_)
  refine CE rfl rfl ?_;exact wC
 rw[C7 Y];by_cases G:0<=aK size
 ·rw[C8 G]
  have hc3:aK size<=3:=by unfold aK;repeat' split<;>omega
  obtain⟨T,rfl⟩:=I2 C.1;obtain⟨K,hK⟩:=I2 G;have o:=xF h T K k ω ω ω;have s:=yy (t:=T) (c:=K) k ω ω ω;rw[hK]at F |-;simp only[C2];generalize gr h T K=w at o s |-;obtain⟨g,a⟩:=w;have H:g.Next=h.Next:=s.nx;simp only at o |-;by_cases J:a<0
  ·rw[C8 J]
   repeat'(first|refine gD ?_|(conv=>whnf);first|with_reducible refine Bf.D (λb=>?_) (λb=>?_)|refine C9 ?_|refine C6 (n) ?_|refine C6 (r) ?_|refine CF (E) ⟨⟨rfl,bx h⟩,trivial⟩ ?_|refine C9 ?_|refine C6 (F) ?_|refine CH (o) (.inl rfl) ?_)
   refine CE rfl rfl ?_;exact wC
  ·rw[C7 J]
   obtain⟨k1,k2⟩:=s.yes (show(0:Int)<=a by omega);have R:g.Objs.length<=512:=k1.lens.objs
   repeat'(first|refine gD ?_|(conv=>whnf);first|with_reducible refine Bf.D (λb=>?_) (λb=>?_)|refine C9 ?_|refine C6 (n) ?_|refine C6 (r) ?_|refine CF (E) ⟨⟨rfl,bx h⟩,trivial⟩ ?_|refine C9 ?_|refine C6 (F) ?_|refine CH (o) (.inl rfl) ?_)
   (conv=>whnf)
   refine CD (ι:=Nat) (λi=>[(0,.hold .box (bu g)),(1,.hold .one [I ((T:Nat):Int)]),(2,.hold .one [I (size)]),(8,.hold .one [I (a)]),(9,.hold .one [I ((i:Nat):Int)])]) (λi=>i<=g.Objs.length/\∀(j:Nat)(z:bB),j<i->g.Objs[j]? = some z->KX a z=false) (λi=>g.Objs.length - i) (0) ?_ (⟨R0 _,λj z hj=>ω⟩) λi k=>?_
   ·exact wC
   obtain⟨S,L⟩:=k;by_cases U:i<g.Objs.length/\(nth g.Objs i).Addr<a
   ·have d:=ah U.1
    repeat'(first|refine gD ?_|(conv=>whnf);first|with_reducible refine CA (aa d) ?_|refine C9 ?_|refine CG rfl (aa d) rfl ?_)
    ((conv=>whnf);refine CB (i+1) ⟨ω,cV d (Q0 ω) L⟩ ω ?_;(exact wC))
   ·have l:jw (KX a) g.Objs=i:=uq ω L λz M=>by
     have V:=(V1.1 M).1;have:z=nth g.Objs i:=(bo M).symm;subst this;exact O0 ω
    have d:i<g.Objs.length->g.Objs[i]? = some (nth g.Objs i):=λW=>ah W
    rw[show addO g a size (T:Nat) = {g with Objs:=g.Objs.take i++⟨g.Next,a,size,(T:Nat)⟩::g.Objs.drop i,Next:=g.Next+1} by unfold addO;rw[uy l]]
    repeat'(first|refine gD ?_|(conv=>whnf);first|with_reducible (first|refine CA (aa (d ω)) ?_|refine Bf.D (λb=>?_) (λb=>?_))|refine C9 ?_|refine CG rfl (aa (d ω)) rfl ?_|refine r6.mk rfl (zP g.Objs) rfl ?_|refine CS i rfl (by rw[W0];omega) (aN λ_=>rfl) Q3 ?_|refine Sl.suf i rfl (by rw[W0];omega) (aN λ_=>rfl) R3 ?_|refine CQ (λ_=>rfl) (λ_=>rfl) (by rw[I1];omega) (by decide) ?_|refine Ap.sn (aN λ_=>rfl) rfl (by rw[W0,I1];omega) (by decide) rfl ?_|refine Ap.ins (e:=bB.enc .imm) (y:=⟨g.Next,a,size,(T:Nat)⟩) rfl (λ_=>rfl) (λ_=>rfl) ω (by decide) ?_|refine C9 ?_)
    all_goals
     refine CE rfl rfl ?_;exact wC
 ·rw[C7 G]
  have N:9<=size:=by unfold aK at G;repeat' split at G<;>omega
  have o:=xN h size k ⟨N,B.2⟩ ω;rw[GD t k ⟨N,B.2⟩];have Z:(Gs h size).1.Next=h.Next/\(Gs h size).1.Objs=h.Objs:=by
   unfold Gs;split
   ·exact⟨rfl,rfl⟩
   ·split<;>exact⟨rfl,rfl⟩
  generalize Gs h size=w at o Z |-;obtain⟨g,a⟩:=w;obtain⟨H,O⟩:=Z;simp only at o H O |-;have R:g.Objs.length<=512:=by rw[O];exact P
  by_cases J:a<0
  ·rw[C8 J]
   repeat'(first|refine gD ?_|(conv=>whnf);first|with_reducible refine Bf.D (λb=>?_) (λb=>?_)|refine C9 ?_|refine C6 (n) ?_|refine C6 (r) ?_|refine CF (E) ⟨⟨rfl,bx h⟩,trivial⟩ ?_|refine C9 ?_|refine C6 (F) ?_|refine CH (o) (.inl rfl) ?_)
   refine CE rfl rfl ?_;exact wC
  ·rw[C7 J]
   repeat'(first|refine gD ?_|(conv=>whnf);first|with_reducible refine Bf.D (λb=>?_) (λb=>?_)|refine C9 ?_|refine C6 (n) ?_|refine C6 (r) ?_|refine CF (E) ⟨⟨rfl,bx h⟩,trivial⟩ ?_|refine C9 ?_|refine C6 (F) ?_|refine CH (o) (.inl rfl) ?_)
   (conv=>whnf)
   refine CD (ι:=Nat) (λi=>[(0,.hold .box (bu g)),(1,.hold .one [I (t)]),(2,.hold .one [I (size)]),(8,.hold .one [I (a)]),(9,.hold .one [I ((i:Nat):Int)])]) (λi=>i<=g.Objs.length/\∀(j:Nat)(z:bB),j<i->g.Objs[j]? = some z->KX a z=false) (λi=>g.Objs.length - i) (0) ?_ (⟨R0 _,λj z hj=>ω⟩) λi k=>?_
   ·exact wC
   obtain⟨S,L⟩:=k;by_cases U:i<g.Objs.length/\(nth g.Objs i).Addr<a
   ·have d:=ah U.1
    repeat'(first|refine gD ?_|(conv=>whnf);first|with_reducible refine CA (aa d) ?_|refine C9 ?_|refine CG rfl (aa d) rfl ?_)
    ((conv=>whnf);refine CB (i+1) ⟨ω,cV d (Q0 ω) L⟩ ω ?_;(exact wC))
   ·have l:jw (KX a) g.Objs=i:=uq ω L λz M=>by
     have V:=(V1.1 M).1;have:z=nth g.Objs i:=(bo M).symm;subst this;exact O0 ω
    have d:i<g.Objs.length->g.Objs[i]? = some (nth g.Objs i):=λW=>ah W
    rw[show addO g a size t = {g with Objs:=g.Objs.take i++⟨g.Next,a,size,t⟩::g.Objs.drop i,Next:=g.Next+1} by unfold addO;rw[uy l]]
    repeat'(first|refine gD ?_|(conv=>whnf);first|with_reducible (first|refine CA (aa (d ω)) ?_|refine Bf.D (λb=>?_) (λb=>?_))|refine C9 ?_|refine CG rfl (aa (d ω)) rfl ?_|refine r6.mk rfl (zP g.Objs) rfl ?_|refine CS i rfl (by rw[W0];omega) (aN λ_=>rfl) Q3 ?_|refine Sl.suf i rfl (by rw[W0];omega) (aN λ_=>rfl) R3 ?_|refine CQ (λ_=>rfl) (λ_=>rfl) (by rw[I1];omega) (by decide) ?_|refine Ap.sn (aN λ_=>rfl) rfl (by rw[W0,I1];omega) (by decide) rfl ?_|refine Ap.ins (e:=bB.enc .imm) (y:=⟨g.Next,a,size,t⟩) rfl (λ_=>rfl) (λ_=>rfl) ω (by decide) ?_|refine C9 ?_)
    all_goals
     refine CE rfl rfl ?_;exact wC
theorem Eu(h:ab)(a n:Int)(t:h.Larges.length<=4096)(j:∀l∈h.Larges,bP l=true)(o:xj h a<0):aQ Tryz.prog 358 false [.ptr (bu h),.val none [I a],.val none [I n]] [.ptr (bu h),.val none [I a],.val none [I n]] .one [B false]:=by
 have b:∀l∈h.Larges,l.Page*16≠a:=λl c e=>by
  have:=Bv (p:=Gm a) c (O0 e);unfold xj at o;omega
 refine fM 136 [(297,[2,0])] [(8,6,[49,50,51,52,53,54]),(9,10,[56,57,58,59,60,61,62,63,64,65]),(20,270,[123,124,125,126,127,128,129,130,131,122,132,133,134,135,0,1,2,3,4,5,6,7,8,9,10,11,12,13,14,1011])] [(0,0),(0,0),(0,0)] Tryz.func358 rfl (λu q=>?_)
 repeat'(first|refine gO ?_|(conv=>whnf);first|refine C9 ?_)
 (conv=>whnf)
 refine CD (ι:=Nat) (λk=>[(0,.hold .box (bu h)),(1,.hold .one [I (a)]),(2,.hold .one [I (n)]),(7,.hold .one [I ((k:Nat):Int)])]) (λk=>k<=h.Larges.length) (λk=>h.Larges.length - k) (0) ?_ (R0 _) λk w=>?_
 ·repeat'(first|exact trivial|rfl |exact kX r|exact kX g|exact dq _|refine CI ?_ ?_|(exact xL (by first|omega|(simp only;omega)|(simp;omega))))
 by_cases d:k<h.Larges.length
 ·have i:=ah d
  have y:=b _ (am d);have C:=aR (j _ (am d))
  repeat'(first|refine gA ?_|(conv=>whnf);first|with_reducible refine CA (aa i) ?_|refine C9 ?_|refine CG rfl (aa i) rfl ?_)
  ((conv=>whnf);refine CB (k+1) ω ω ?_;(exact wC))
 ·repeat'(first|refine gD ?_|(conv=>whnf);first|refine C9 ?_)
  refine CE rfl rfl ?_;exact wC
theorem Nh(h:ab)(a:Int)(m:Nat):bu {h with Kernel:=zK h.Kernel a (m+1)} = (bu {h with Kernel:=zK h.Kernel a m}).set 0 (.s .own (((zK h.Kernel a m).Machine.Frames.Cells.map (aD .own)).set (ar (zK h.Kernel a m).Machine.Table ((a+m) / 16)).Frame.toNat ((aD .own (nth (zK h.Kernel a m).Machine.Frames.Cells (fR (zK h.Kernel a m) (a+m)))).set 0 (.s .own (((nth (zK h.Kernel a m).Machine.Frames.Cells (fR (zK h.Kernel a m) (a+m))).map (rI .own)).set ((a+m) % 16).toNat (splice (rI .own (nth (nth (zK h.Kernel a m).Machine.Frames.Cells (fR (zK h.Kernel a m) (a+m))) ((a+m) % 16).toNat)) 0 [I 0])))))):=
 Fk {h with Kernel:=zK h.Kernel a m} (a+m) 0
def kG(h:ab)(i k:Nat)(n:Int)(K:af):ab:={h with Kernel:=K,Larges:=h.Larges.set k (trimL (nth h.Larges k) n),Objs:=h.Objs.set i {nth h.Objs i with Size:=n}}
theorem Gy(h:ab)(i k:Nat)(n:Int)(K:af):(kG h i k n K).Objs.map (bB.enc .own)=(h.Objs.map (bB.enc .own)).set i (splice (bB.enc .own (nth h.Objs i)) 2 [I n]):=by
 simp[kG,W4,bB.enc,splice]
theorem qW(h:ab)(i:Nat)(n:Int)(j:bp h [])(H:i<h.Objs.length)(hg:0<=xj h (nth h.Objs i).Addr):aQ Tryz.prog 358 false [.ptr (bu h),.val none [I (nth h.Objs i).Addr],.val none [I n]] [.ptr (bu (if kD h i n then trimH h i (xj h (nth h.Objs i).Addr).toNat n else h)),.val none [I (nth h.Objs i).Addr],.val none [I n]] .one [B (decide (kD h i n))]:=by
 have c:=j.lens;have hnl:=c.larges;have hno:=c.objs;have hpg:dQ h<=32:=c.ents;obtain⟨f1,f2,f3⟩:=fU (Gm (nth h.Objs i).Addr) h.Larges hg;obtain⟨g,o⟩:=I2 hg;have b:g<h.Larges.length:=by unfold xj at o;omega
 have Y:(nth h.Larges g).Page*16=(nth h.Objs i).Addr:=by
  have:=of_decide_eq_true f2;rw[show(cy (Gm (nth h.Objs i).Addr) h.Larges).toNat=g by unfold xj at o;omega]at this;exact this
 have J:∀k,k<g->(nth h.Larges k).Page*16≠(nth h.Objs i).Addr:=λk hk e=>by
  have N:k<h.Larges.length:=ω
  have hok1:=aR (j.L.lok _ (am N));have hok2:=aR (j.L.lok _ (am b));have:=j.L.one k g N b 0 0 ω ω ω;omega
 have p:kD h i n↔9<=n/\n<=(nth h.Larges g).Size:=by
  unfold kD;rw[o,C2];exact⟨λx=>x.2,λx=>⟨ω,x⟩⟩
 rw[o,C2];have hbd:=se j (am H);obtain⟨-,Z,w⟩:=j.objAt (am H);have hii:og h (nth h.Objs i).Addr=i:=by
  have h2:=(j.objAt (am H)).1;exact gF (f:=(·.Addr)) (gX j.osr) h2 H (by rw[Z])
 rw[hii]at w;have E:=ah H;have hxg:=ah b;have V:=w7 (nth h.Larges g) n (j.L.lok _ (am b));have h8:=j.L.lok _ (am b);unfold bP at h8;rw[C0]at h8;refine fM 136 [(297,[2,0])] [(8,6,[49,50,51,52,53,54]),(9,10,[56,57,58,59,60,61,62,63,64,65]),(20,270,[123,124,125,126,127,128,129,130,131,122,132,133,134,135,0,1,2,3,4,5,6,7,8,9,10,11,12,13,14,1011])] [(0,0),(0,0),(0,0)] Tryz.func358 rfl (λu q=>?_)
 repeat'(first|refine gO ?_|(conv=>whnf);first|refine C9 ?_)
 (conv=>whnf)
 refine CD (ι:=Nat) (λk=>[(0,.hold .box (bu h)),(1,.hold .one [I ((nth h.Objs i).Addr)]),(2,.hold .one [I (n)]),(7,.hold .one [I ((k:Nat):Int)])]) (λk=>k<=g) (λk=>g - k) (0) ?_ (R0 _) λk hk=>?_
 ·repeat'(first|exact trivial|rfl |exact kX r|exact kX d|exact dq _|refine CI ?_ ?_|(exact xL (by first|omega|(simp only;omega)|(simp;omega))))
 have l:=ah (xs:=h.Larges) (i:=k) ω;have hfk:=aR (j.L.lok _ (am (xs:=h.Larges) (i:=k) ω));by_cases e:k=g;rotate_left
 ·have hne:=J k ω
  repeat'(first|refine gA ?_|(conv=>whnf);first|with_reducible refine CA (aa l) ?_|refine C9 ?_|refine CG rfl (aa l) rfl ?_)
  ((conv=>whnf);refine CB (k+1) ω ω ?_;(exact wC))
 subst e;by_cases F:9<=n/\n<=(nth h.Larges k).Size;rotate_left
 ·rw[C7 (by rw[p];exact F),Q0 (by rw[p];exact F)]
  rw[C7 F]at V
  repeat'(first|refine gA ?_|(conv=>whnf);first|with_reducible refine CA (aa l) ?_|refine C9 ?_|refine CG rfl (aa l) rfl ?_|refine C6 (V) ?_)
  refine CE rfl rfl ?_;exact wC
 rw[C8 (by rw[p];exact F),O0 (by rw[p];exact F)];rw[C8 F]at V;have y:=λm hm=>Ba j b F (m:=m) hm
 have D:=λm=>(v6 h.Kernel (16*(nth h.Larges k).Page+n) m).1
 have O:=λa W=>np j b (a:=a) W
 have hsz:n<=16*(nth h.Larges k).Pages:=ω
 generalize hM:(16*((n+15) / 16) - n).toNat=M at *;have hfl:∀m,(zK h.Kernel (16*(nth h.Larges k).Page+n) m).Machine.Frames.Cells.length=h.Kernel.Machine.Frames.Cells.length:=λm=>by
  induction m with
  | zero=>rfl
  | succ m ih=>show(List.set _ _ _).length=_;rw[C1];exact ih
 have cO:=pC {h with Larges:=h.Larges.set k (trimL (nth h.Larges k) n)} (nth h.Objs i).Addr (by show h.Objs.length<=_;omega);change ao _ _ _ [.val (some 24) (ab.enc .imm {h with Larges:=h.Larges.set k (trimL (nth h.Larges k) n)}),_] _ [I (cy (kW (nth h.Objs i).Addr) h.Objs)]at cO;rw[w]at cO;have Q:=bx {h with Larges:=h.Larges.set k (trimL (nth h.Larges k) n)};have heL:bu {h with Larges:=h.Larges.set k (trimL (nth h.Larges k) n)} = (bu h).set 7 (.s .own ((h.Larges.map (a8.enc .own)).set k (a8.enc .own (trimL (nth h.Larges k) n)))):=by simp[bu,W4]
 rw[heL]at Q
 repeat'(first|refine gA ?_|(conv=>whnf);first|with_reducible (first|refine CA (aa l) ?_|refine CA (aa E) ?_)|refine C9 ?_|refine CG rfl (aa l) rfl ?_|refine C6 (V) ?_|refine CM rfl rfl (aa l) rfl (X0 rfl) rfl ?_|refine CF (cO) ⟨⟨rfl,Q⟩,⟨rfl,rfl⟩,trivial⟩ ?_|refine CM rfl rfl (aa E) rfl (X0 rfl) rfl ?_|refine CG rfl (aa E) rfl ?_|refine C9 ?_)
 rw[<-Y];have e0:kG h i k n h.Kernel=kG h i k n (zK h.Kernel (16*(nth h.Larges k).Page+n) 0):=rfl;have r:C.s .own ((kG h i k n (zK h.Kernel (16*(nth h.Larges k).Page+n) 0)).Larges.map (a8.enc .own))=C.s .own ((h.Larges.map (a8.enc .own)).set k (a8.enc .own (trimL (nth h.Larges k) n))):=by simp[kG,W4]
 have d:C.s .own ((kG h i k n (zK h.Kernel (16*(nth h.Larges k).Page+n) 0)).Objs.map (bB.enc .own))=C.s .own ((h.Objs.map (bB.enc .own)).set i (splice (bB.enc .own (nth h.Objs i)) 2 [I n])):=T0 _ (Gy h i k n _)
 (conv=>whnf)
 refine CD (ι:=Nat) (λm=>[(0,.hold .box (bu (kG h i k n (zK h.Kernel (16*(nth h.Larges k).Page+n) m)))),(1,.hold .one [I (((nth h.Larges k).Page*16))]),(8,.hold .box (a8.enc .own (trimL (nth h.Larges k) n))),(9,.hold .box (aA.enc .own (wQ (nth h.Larges k) n))),(11,.hold .one [I (((16*(nth h.Larges k).Page+n)+(m:Nat)))])]) (λm=>m<=M) (λm=>M - m) (0) ?_ (R0 _) λm hm=>?_
 ·repeat'(first|exact trivial|rfl |exact kX r|exact kX d|exact dq _|refine CI ?_ ?_|(exact xL (by first|omega|(simp only;omega)|(simp;omega))))
 have hmod:IntKind.i64.wrap 0=0:=rfl;by_cases lm:m<M
 ·have W:0<=(16*(nth h.Larges k).Page+n)+(m:Nat)/\(16*(nth h.Larges k).Page+n)+(m:Nat)<512:=ω
  have R:=O ((16*(nth h.Larges k).Page+n)+(m:Nat)) ω;have t:=y m hm;rw[<-D m]at R;have hks:=bF t;have c2:=db (zK h.Kernel (16*(nth h.Larges k).Page+n) m).Machine.Table (((16*(nth h.Larges k).Page+n)+(m:Nat)) / 16) hks.1.2;obtain⟨-,-,-,q0,q1⟩:=cr t R;have hul:=(bh.1 (aF.1 t).2.1).2.2.1;have S:fR (zK h.Kernel (16*(nth h.Larges k).Page+n) m) ((16*(nth h.Larges k).Page+n)+(m:Nat))<(zK h.Kernel (16*(nth h.Larges k).Page+n) m).Machine.Frames.Cells.length:=by unfold fR;omega
  have G:(zK h.Kernel (16*(nth h.Larges k).Page+n) m).Machine.Frames.Cells[(ar (zK h.Kernel (16*(nth h.Larges k).Page+n) m).Machine.Table (((16*(nth h.Larges k).Page+n)+(m:Nat)) / 16)).Frame.toNat]? = some _:=ah S;have h16:=(zZ t S).1;have T:=ah (xs:=nth (zK h.Kernel (16*(nth h.Larges k).Page+n) m).Machine.Frames.Cells (fR (zK h.Kernel (16*(nth h.Larges k).Page+n) m) ((16*(nth h.Larges k).Page+n)+(m:Nat)))) (i:=(((16*(nth h.Larges k).Page+n)+(m:Nat)) % 16).toNat) (by rw[h16];omega);have htm:((16*(nth h.Larges k).Page+n)+(m:Nat)).tmod 16=((16*(nth h.Larges k).Page+n)+(m:Nat)) % 16:=fo W.1;have hpu:=Nh (kG h i k n h.Kernel) (16*(nth h.Larges k).Page+n) m;have hwr:=pw W;have hst:(trimL (nth h.Larges k) n).Pages=(n+15) / 16:=rfl
  repeat'(first|refine gD ?_|(conv=>whnf);first|refine C9 ?_|refine CL (by decide) ?_|refine CJ hwr ?_|refine CR htm ?_|refine CF (c2) ⟨⟨rfl,CV _⟩,⟨rfl,rfl⟩,trivial⟩ ?_|refine CK q0 (aa G) ?_|refine CG rfl (aa G) rfl ?_|refine CK ω (aa T) ?_|refine Pu.two rfl rfl (aa G) rfl rfl rfl (aa T) rfl (Q2 _) hpu ?_)
  ((conv=>whnf);refine CB (m+1) ω ω ?_;(exact wC))
 obtain rfl:m=M:=ω
 have hst:(trimL (nth h.Larges k) n).Pages=(n+15) / 16:=rfl;have hkM:=y m (Q2 _);have U:(zK h.Kernel (16*(nth h.Larges k).Page+n) m).Machine.Table.Entries.length=dQ h:=by rw[D];rfl
 have hTK:tl h k n=zK h.Kernel (16*(nth h.Larges k).Page+n) m:=by unfold tl;rw[hM]
 unfold trimH FI;rw[hTK];generalize zK h.Kernel (16*(nth h.Larges k).Page+n) m=K at *;have hN:((dI (nth h.Larges k) n:Nat):Int)=(nth h.Larges k).Pages - (n+15) / 16:=by unfold dI;omega
 have hrA:0<dI (nth h.Larges k) n->wQ (nth h.Larges k) n = ⟨(nth h.Larges k).Page+(n+15) / 16,(dI (nth h.Larges k) n:Nat)⟩:=λhp=>by unfold wQ;rw[C8 ω,hN]
 have hrB:¬0<dI (nth h.Larges k) n->wQ (nth h.Larges k) n = ⟨0,0⟩:=λhp=>by unfold wQ;rw[C7 ω]
 generalize dI (nth h.Larges k) n=P at *;by_cases X:0<P
 ·rw[C8 X]
  have hr:=hrA X;rw[hr]
  repeat'(first|refine gD ?_|(conv=>whnf);first|refine C9 ?_)
  (conv=>whnf)
  refine CD (ι:=Nat) (λx=>[(0,.hold .box (bu (kG h i k n (dR K ((nth h.Larges k).Page+(n+15) / 16) x)))),(9,.hold .box ([I ((nth h.Larges k).Page+(n+15) / 16),I (P:Nat)])),(13,.hold .one [I (((nth h.Larges k).Page+(n+15) / 16+(x:Nat)))])]) (λx=>x<=P) (λx=>P - x) (0) ?_ (R0 _) λx l=>?_
  ·repeat'(first|exact trivial|rfl |exact kX r|exact kX d|exact dq _|refine CI ?_ ?_|(exact xL (by first|omega|(simp only;omega)|(simp;omega))))
  by_cases lx:x<P
  ·have c3:=mL (kG h i k n (dR K ((nth h.Larges k).Page+(n+15) / 16) x)) ((nth h.Larges k).Page+(n+15) / 16+(x:Nat)) (kq hkM _ _)
   repeat'(first|refine gD ?_|(conv=>whnf);first|refine C9 ?_|refine CH (c3) (.inl rfl) ?_)
   ((conv=>whnf);refine CB (x+1) ω ω ?_;(exact wC))
  ·obtain rfl:x=P:=ω
   have c4:=gw (kG h i k n (dR K ((nth h.Larges k).Page+(n+15) / 16) x));rw[show dQ (kG h i k n (dR K ((nth h.Larges k).Page+(n+15) / 16) x))=dQ h from(iv _ _ _).1.trans U]at c4;have c5:=kY (dQ h:Nat) h.Free ⟨(nth h.Larges k).Page+(n+15) / 16,(x:Nat)⟩ ⟨ω,ω⟩ ⟨by have:=c.free;omega,λ_ _=>trivial⟩
   repeat'(first|refine gD ?_|(conv=>whnf);first|refine C9 ?_|refine CF (c4) ⟨bx _,trivial⟩ ?_|refine CF (c5) ⟨⟨rfl,rfl⟩,⟨rfl,dB h.Free⟩,⟨rfl,rfl⟩,trivial⟩ ?_|refine C9 ?_)
   refine CE rfl rfl ?_;exact wC
 ·rw[C7 X]
  obtain rfl:P=0:=ω
  have hr:=hrB X;rw[hr]
  repeat'(first|refine gD ?_|(conv=>whnf);first|refine C9 ?_)
  (conv=>whnf)
  refine CD (ι:=Nat) (λx=>[(0,.hold .box (bu (kG h i k n K))),(9,.hold .box ([I 0,I 0])),(13,.hold .one [I (0)])]) (λx=>x=0) (λx=>0) (0) ?_ (rfl) λx l=>?_
  ·repeat'(first|exact trivial|rfl |exact kX r|exact kX d|exact dq _|refine CI ?_ ?_|(exact xL (by first|omega|(simp only;omega)|(simp;omega))))
  subst l
  repeat'(first|refine gD ?_|(conv=>whnf);first|refine C9 ?_)
  refine CE rfl rfl ?_;exact wC
theorem Dg{α:Type}(a:α)(k:Nat):List.replicate (k+1) a=List.replicate k a++[a]:=List.replicate_succ' ..
theorem DT(n k:Nat):aV.enc .own ⟨List.replicate k (List.replicate 16 0),List.replicate n false⟩ = [.s .own (List.replicate k [.s .own (List.replicate 16 [I 0])]),.s .own (List.replicate n [B false])]:=by
 simp[aV.enc,aD,rI,rB,List.map_replicate]
theorem Fh(n:Nat):Kx [.s .own (List.replicate n [.z]),.s .own (List.replicate n [.z]),B true] (aJ.enc .own (dC n)++[B true]):=by
 have e:aJ.enc .own (dC n)++[B true]=[.s .own (List.replicate n [.s .own []]),.s .own (List.replicate n [.s .own []]),B true]:=by simp[aJ.enc,dC,cM,aD,List.map_replicate]
 rw[e];exact .cons (.rep (.cons .z_ .nil)) (.cons (.rep (.cons .z_ .nil)) (.cons (.rfl_ _) .nil))
theorem LH(n:Nat)(b:1<=n/\n<=4):ao Tryz.prog 94 false [.val none [I (n:Nat)]] (.tup [some 2,none]) (aJ.enc .own (dC n)++[B true]):=by
 have a:=aM ((n:Nat):Int) 1 4;rw[O0 ω]at a;refine fO 13 [(3,4,[8,9,10,11])] Tryz.func94 rfl ?_ (.inr (aY (aJ.enc_fr _) ⟨trivial,trivial⟩))
 repeat'((conv=>whnf);first|with_reducible (first|refine Lm ?_|refine Wm ω ?_|refine Bn ?_|refine jm.dk rfl ?_)|refine Bt ?_|refine Bu ?_|refine C9 ?_|refine C6 (a) ?_|refine Mk.mk n rfl rfl ω (up ω (by decide)) rfl ?_)
 exact Fh n
theorem zH(n:Nat)(b:1<=n/\n<=4):ao Tryz.prog 351 false [.val none [I (n:Nat)]] (.tup [some 2,none]) (aJ.enc .own (dC n)++[B true]):=by
 have a:=aG ((n:Nat):Int) 1 4;rw[O0 ω]at a;refine fO 13 [(3,4,[8,9,10,11])] Tryz.func351 rfl ?_ (.inr (aY (aJ.enc_fr _) ⟨trivial,trivial⟩))
 repeat'((conv=>whnf);first|with_reducible (first|refine Lm ?_|refine Wm ω ?_|refine Bn ?_|refine jm.dk rfl ?_)|refine Bt ?_|refine Bu ?_|refine C9 ?_|refine C6 (a) ?_|refine Mk.mk n rfl rfl ω (up ω (by decide)) rfl ?_)
 exact Fh n
theorem KP:Kx [.s .own (List.replicate 4 [.z])] (ay.enc .own eE):=.cons (.rep (.cons .z_ .nil)) .nil
theorem xi:ao Tryz.prog 352 false [] .agg (ay.enc .own eE):=by
 refine fO 3 [] Tryz.func352 rfl ?_ (.inr (ay.enc_fr _))
 repeat'((conv=>whnf);first|with_reducible (first|refine Lm ?_|refine Wm ω ?_|refine Bn ?_|refine jm.dk rfl ?_)|refine Bt ?_|refine Bu ?_|refine C9 ?_|refine Mk.mk 4 rfl rfl (by decide) (by decide) rfl ?_)
 exact KP
theorem ql:ao Tryz.prog 353 false [.val none [I 16]] (.tup [some 2,none]) (bE.enc .own ⟨16,[]⟩++[B true]):=by
 refine fO 10 [] Tryz.func353 rfl ?_ (.inr (aY (bE.enc_fr _) ⟨trivial,trivial⟩))
 repeat'((conv=>whnf);first|with_reducible (first|refine Lm ?_|refine Wm ω ?_|refine Bn ?_|refine jm.wk rfl ?_)|refine Bt ?_|refine Bu ?_|refine C9 ?_|refine C6 (aG 16 0 500) ?_)
 exact⟨rfl,rfl,rfl,trivial⟩
def caps(h:ab)(k:Nat):ab:={h with Caches:=List.replicate k eE}
theorem Gq(k:Nat):(List.replicate (k+1) eE).map (ay.enc .own)=(List.replicate k eE).map (ay.enc .own)++[ay.enc .own eE]:=by rw[Dg,R4];rfl
theorem JH{k:Nat} : ∀r∈(List.replicate k eE).map (ay.enc .own),r.length=1:=aN λ_=>rfl
theorem Lv(x:List bD):fz (.s .own (x.map (bD.enc .own)))=.s .imm (x.map (bD.enc .imm)):=(List.cons.inj (List.cons.inj (CW ⟨0,x⟩)).2).1
theorem eC:∀a b:List C,dy (a++b)=dy a++dy b
 | [],_=>rfl
 | x::xs,b=>by show fz x::dy (xs++b)=fz x::(dy xs++dy b);rw[eC xs b]
theorem dK(r:ax)(c:ax.sml r):ao Tryz.prog 309 false [.val (some 2) (ax.enc .imm r)] .agg (ax.enc .own r):=by
 have e:r.Objs.length<=1048576:=c.1;refine fO 36 [(5,272,[15,16,17,18,19,20,21,22,23,24,25,26,27,28,29,34,0,1,2,3,4,5,6,7,8,9,10,11,12,13,14,15,1000,1001,1002,1003,1004,1005,1006,1007,16,1000,1001,17,1000,1001,18,19,20])] Tryz.func309 rfl ?_ (.inr (ax.enc_fr _))
 repeat'(first|refine gO ?_|(conv=>whnf);first|refine C9 ?_)
 (conv=>whnf)
 refine CD (ι:=Nat) (λi=>[(1,.hold .box (ax.enc .imm r)),(2,.hold .box [I 0,.z]),(3,.hold .box [I r.Next,.s .own ((r.Objs.take i).map (bD.enc .own))]),(4,.hold .one [I ((i:Nat):Int)])]) (λi=>i<=r.Objs.length) (λi=>r.Objs.length - i) (0) ?_ (R0 _) λi g=>?_
 ·exact wC
 by_cases b:i<r.Objs.length
 ·have d:=ah b
  have a:(nth r.Objs i).Cells.length<=1048576:=c.2 _ (am b)
  repeat'(first|refine gD ?_|(conv=>whnf);first|with_reducible refine CA (aa d) ?_|refine C9 ?_|refine CG rfl (aa d) rfl ?_|refine CT (λ_=>rfl) (λ_=>rfl) a (by decide) ?_|refine CQ (λ_=>rfl) (λ_=>rfl) a (by decide) ?_|refine C9 ?_|refine Ap.sn (aN λ_=>rfl) rfl (by simp;omega) (by decide) (jG b) ?_)
  ((conv=>whnf);refine CB (i+1) ω ω ?_;(exact wC))
 ·repeat'(first|refine gD ?_|(conv=>whnf);first|refine C9 ?_)
  obtain rfl:i=r.Objs.length:=ω
  rw[v4]
  rfl
theorem gI(r:ax)(id:Int)(g:r.Objs.length<=1048576):ao Tryz.prog 385 false [.val (some 2) (ax.enc .imm r),.val none [I id]] .one [I (nD r id)]:=by
 refine fO 22 [] Tryz.func385 rfl ?_
 repeat'(first|refine gO ?_|(conv=>whnf);first|refine C9 ?_)
 (conv=>whnf)
 refine CD (ι:=Nat) (λi=>[(1,.hold .one [I (id)]),(2,.hold .box (ax.enc .imm r)),(5,.hold .one [I ((i:Nat):Int)])]) (λi=>i<=r.Objs.length/\∀(j:Nat)(z:bD),j<i->r.Objs[j]? = some z->mw id z=false) (λi=>r.Objs.length - i) (0) ?_ (⟨R0 _,λj z h=>ω⟩) λi c=>?_
 ·exact wC
 obtain⟨c,b⟩:=c;by_cases d:i<r.Objs.length
 ·have a:=ah d
  by_cases e:(nth r.Objs i).Id=id
  ·repeat'(first|refine gA ?_|(conv=>whnf);first|with_reducible refine CA (aa a) ?_|refine C9 ?_|refine CG rfl (aa a) rfl ?_)
   exact T0 (λz=>[I z]) (d6 a (O0 e) b).symm
  ·repeat'(first|refine gA ?_|(conv=>whnf);first|with_reducible refine CA (aa a) ?_|refine C9 ?_|refine CG rfl (aa a) rfl ?_)
   ((conv=>whnf);refine CB (i+1) ⟨ω,cV a (Q0 e) b⟩ ω ?_;(exact wC))
 ·repeat'(first|refine gD ?_|(conv=>whnf);first|refine C9 ?_)
  exact T0 (λz=>[I z]) (eH ω b).symm
theorem mq(r:ax)(c:C)(h:NA c):gE (ax.enc .own r++[c]):=aY (ax.enc_fr _) ⟨h,trivial⟩
theorem xc(r:ax)(n:Int)(m:Nat)(b:rz r m)(h:m<=1000)(c:1<=n/\n<=1000):ao Tryz.prog 301 false [.val (some 2) (ax.enc .imm r),.val none [I n]] (.tup [some 2,none]) (ax.enc .imm (ki r n)++[I r.Next]):=by
 have i:=b.sml h;have d:=b.len;have j:=b.nx;have k:=dK r i;have e:=aG n 1 1000;rw[O0 c]at e;have key:ao Tryz.prog 301 false [.val (some 2) (ax.enc .imm r),.val none [I n]] (.tup [some 2,none]) (ax.enc .own (ki r n)++[I r.Next]):=by
  have a:=mq (ki r n) (I r.Next) trivial;unfold ki at a |-;rw[C8 c]at a |-;have l:ax.enc .own {r with Next:=r.Next+1,Objs:=r.Objs++[⟨r.Next,List.replicate n.toNat 0⟩]} = [I (r.Next+1),.s .own (r.Objs.map (bD.enc .own)++[[I r.Next,.s .own (List.replicate n.toNat [I 0])]])]:=by
   simp[ax.enc,bD.enc,rI]
  rw[l]at a |-;refine fO 30 [(4,263,[13,14,15,16,17,18,22,0,1,2,3,4,5,6,1000,1001,7,1000,1001,8,9,10]),(6,259,[27,28,29,0,1,2,3,1001,1002,4])] Tryz.func301 rfl ?_ (.inr a)
  repeat'(first|refine gO ?_|(conv=>whnf);first|refine C9 ?_|refine C6 (k) ?_|refine C6 (e) ?_|refine Mk.mk n.toNat ω ω ω (up ω (by decide)) rfl ?_|refine C9 ?_|refine Ap.sn (aN λ_=>rfl) rfl (by simp;omega) (by decide) rfl ?_)
  (conv=>whnf)
  rfl
 have g:=key.fzR;rw[eC,CW]at g;exact g
theorem yU(r:ax)(id:Int)(m:Nat)(d:rz r m)(k:m<=1000):ao Tryz.prog 355 true [.val (some 2) (ax.enc .imm r),.val none [I id]] (.tup [some 2,none]) (ax.enc .imm (kw r id)++[B (!decide (nD r id<0))]):=by
 have g:=d.sml k;have h:=d.len;have i:=dK r g;have b:=gI r id g.1;by_cases e:nD r id<0
 ·have key:ao Tryz.prog 355 true [.val (some 2) (ax.enc .imm r),.val none [I id]] (.tup [some 2,none]) (ax.enc .own r++[B false]):=by
   refine fO 30 [(5,267,[16,17,18,19,20,22,23,24,25,26,28,0,1,2,3,4,6,7,8,9,10,5,1006,1007,1008,1009,1010,11,12,13]),(1048581,6,[1])] Tryz.func355 rfl ?_ (.inl rfl)
   repeat'(first|refine gD ?_|(conv=>whnf);first|refine C9 ?_|refine C6 (i) ?_|refine C6 (b) ?_)
   rfl
  have a:=key.fzR;rw[eC,CW]at a;unfold kw;rw[C8 e,O0 e];exact a
 ·have n:kw r id = {r with Objs:=dele r.Objs (nD r id).toNat}:=by unfold kw;rw[C7 e]
  obtain⟨t,u,w⟩:=fU (mw id) r.Objs (by unfold nD at e;omega);obtain⟨j,c⟩:=I2 (show 0<=nD r id by omega);have o:j<r.Objs.length:=by unfold nD at c;omega
  have key:ao Tryz.prog 355 true [.val (some 2) (ax.enc .imm r),.val none [I id]] (.tup [some 2,none]) ([I r.Next,.s .own ((dele r.Objs j).map (bD.enc .imm))]++[B true]):=by
   rw[c]at b;refine fO 30 [(5,267,[16,17,18,19,20,22,23,24,25,26,28,0,1,2,3,4,6,7,8,9,10,5,1006,1007,1008,1009,1010,11,12,13]),(1048581,6,[1])] Tryz.func355 rfl ?_ (.inl rfl)
   repeat'(first|refine gD ?_|(conv=>whnf);first|refine C9 ?_|refine C6 (i) ?_|refine C6 (b) ?_|refine r6.mk rfl (Lv r.Objs) rfl ?_|refine CS j rfl (by rw[W0];omega) (aN λ_=>rfl) Q3 ?_|refine Sl.suf (j+1) ω (by rw[W0];omega) (aN λ_=>rfl) R3 ?_|refine CQ (λ_=>rfl) (λ_=>rfl) (by rw[I1];omega) (by decide) ?_|refine CT (λ_=>rfl) (λ_=>rfl) (by rw[I1];omega) (by decide) ?_|refine Ap.dele (λ_=>rfl) (λ_=>rfl) ω (by decide) ?_|refine C9 ?_)
   rfl
  have a:=key.fzR;have p:dy ([I r.Next,.s .own ((dele r.Objs j).map (bD.enc .imm))]++[B true])=ax.enc .imm (kw r id)++[B (!decide (nD r id<0))]:=by
   have:∀l:List bD,fzR (l.map (bD.enc .imm))=l.map (bD.enc .imm):=λl=>by
    induction l with
    | nil=>rfl
    | cons x xs q=>rw[U4,fzR,q,<-bD.enc_fz,oO]
   rw[n,c,Q0 ω];simp[dy,fz,ax.enc,this]
  rw[p]at a;exact a
theorem x5(r:ax)(id a v:Int)(m:Nat)(o:rz r m)(D:m<=1000)(h:0<=nD r id)(c:0<=a/\a<=(nth r.Objs (nD r id).toNat).Cells.length - 1)(p:0<=v/\v<=999):ao Tryz.prog 357 false [.val (some 2) (ax.enc .imm r),.val none [I id],.val none [I a],.val none [I v]] (.tup [some 2,none]) (ax.enc .imm (eG r id a v)++[B true]):=by
 have k:=o.sml D;have q:=o.len;have E:=dK r k;have t:=gI r id k.1;obtain⟨J,K,L⟩:=fU (mw id) r.Objs h;obtain⟨j,l⟩:=I2 h;have d:j<r.Objs.length:=by unfold nD at l;omega
 have e:=ah d;have F:(nth r.Objs j).Cells.length<=1048576:=k.2 _ (am d);obtain⟨b,g⟩:=I2 c.1;have G:eG r id a v = {r with Objs:=r.Objs.set j ⟨(nth r.Objs j).Id,(nth r.Objs j).Cells.set b v⟩}:=by
  unfold eG;rw[C8 ⟨h,c,p⟩,l,g];rfl
 rw[l]at t c;rw[g]at c |-;simp only[C2]at c;have u:=ah (xs:=(nth r.Objs j).Cells) (i:=b) ω;have w:=aG (b:Nat) 0 (((nth r.Objs j).Cells.length:Nat) - 1:Int);rw[O0 ω]at w;have y:=aG v 0 999;rw[O0 p]at y;have key:ao Tryz.prog 357 false [.val (some 2) (ax.enc .imm r),.val none [I id],.val none [I (b:Nat)],.val none [I v]] (.tup [some 2,none]) (ax.enc .own (eG r id (b:Nat) v)++[B true]):=by
  have n:=mq (eG r id (b:Nat) v) (B true) trivial;rw[<-g,G]at n |-;have H:ax.enc .own {r with Objs:=r.Objs.set j ⟨(nth r.Objs j).Id,(nth r.Objs j).Cells.set b v⟩} = [I r.Next,.s .own ((r.Objs.map (bD.enc .own)).set j [I (nth r.Objs j).Id,.s .own (((nth r.Objs j).Cells.map (rI .own)).set b [I v])])]:=by
   simp[ax.enc,bD.enc,rI,W4]
  rw[H]at n |-;rw[g];refine fO 48 [] Tryz.func357 rfl ?_ (.inr n)
  repeat'(first|refine gD ?_|(conv=>whnf);first|with_reducible (first|refine CA (aa e) ?_|refine CA (aa u) ?_|refine CK ω (aa e) ?_)|refine C9 ?_|refine C6 (E) ?_|refine C6 (t) ?_|refine C6 (w) ?_|refine C6 (y) ?_|refine CG rfl (aa e) rfl ?_|refine Pu.two rfl rfl (aa e) rfl rfl rfl (aa u) rfl (Q2 _) rfl ?_)
  rfl
 have C:=key.fzR;rw[eC,CW]at C;exact C
theorem yX(r:ax)(id n:Int)(m:Nat)(l:rz r m)(u:m<=1000)(g:0<=nD r id)(c:1<=n/\n<=(nth r.Objs (nD r id).toNat).Cells.length):ao Tryz.prog 359 false [.val (some 2) (ax.enc .imm r),.val none [I id],.val none [I n]] (.tup [some 2,none]) (ax.enc .imm (gj r id n)++[B true]):=by
 have h:=l.sml u;have o:=l.len;have w:=dK r h;have p:=gI r id h.1;obtain⟨E,F,G⟩:=fU (mw id) r.Objs g;obtain⟨j,i⟩:=I2 g;have a:j<r.Objs.length:=by unfold nD at i;omega
 have d:=ah a;have y:(nth r.Objs j).Cells.length<=1048576:=h.2 _ (am a);obtain⟨b,e⟩:=I2 (show 0<=n by omega);have C:gj r id n = {r with Objs:=r.Objs.set j ⟨(nth r.Objs j).Id,(nth r.Objs j).Cells.take b⟩}:=by
  unfold gj;rw[C8 ⟨g,c⟩,i,e];rfl
 rw[i]at p c;rw[e]at c |-;simp only[C2]at c;have q:=aG (b:Nat) 1 (((nth r.Objs j).Cells.length:Nat):Int);rw[O0 ω]at q;have key:ao Tryz.prog 359 false [.val (some 2) (ax.enc .imm r),.val none [I id],.val none [I (b:Nat)]] (.tup [some 2,none]) (ax.enc .own (gj r id (b:Nat))++[B true]):=by
  have k:=mq (gj r id (b:Nat)) (B true) trivial;rw[<-e,C]at k |-;have D:ax.enc .own {r with Objs:=r.Objs.set j ⟨(nth r.Objs j).Id,(nth r.Objs j).Cells.take b⟩} = [I r.Next,.s .own ((r.Objs.map (bD.enc .own)).set j [I (nth r.Objs j).Id,.s .own (((nth r.Objs j).Cells.take b).map (rI .imm))])]:=by
   simp only[ax.enc,W4]
   rfl
  rw[D]at k |-;rw[e];refine fO 46 [(5,270,[30,31,32,33,34,35,36,37,38,39,40,41,43,44,0,1,2,3,4,5,6,7,8,9,10,11,12,1000,1001,1002,13,14,15])] Tryz.func359 rfl ?_ (.inr k)
  repeat'(first|refine gD ?_|(conv=>whnf);first|with_reducible (first|refine CA (aa d) ?_|refine CK ω (aa d) ?_)|refine C9 ?_|refine C6 (w) ?_|refine C6 (p) ?_|refine C6 (q) ?_|refine CG rfl (aa d) rfl ?_|refine CS b rfl (by rw[W0];omega) (aN λ_=>rfl) Q3 ?_|refine CT (λ_=>rfl) (λ_=>rfl) (by rw[I1];omega) (by decide) ?_|refine CQ (λ_=>rfl) (λ_=>rfl) (by rw[I1];omega) (by decide) ?_|refine C9 ?_|refine CM rfl rfl (aa d) rfl (X0 rfl) rfl ?_)
  rfl
 have t:=key.fzR;rw[eC,CW]at t;exact t
theorem Az(r:ax)(id a v:Int)(m:Nat)(h:rz r m)(l:m<=1000)(u:0<=v/\v<=999):∃b:Bool,ao Tryz.prog 357 false [.val (some 2) (ax.enc .imm r),.val none [I id],.val none [I a],.val none [I v]] (.tup [some 2,none]) (ax.enc .imm (eG r id a v)++[B b]):=by
 by_cases i:0<=nD r id
 ·by_cases d:0<=a/\a<=(nth r.Objs (nD r id).toNat).Cells.length - 1
  ·exact⟨true,x5 r id a v m h l i d u⟩
  ·refine⟨false,?_⟩
   have c:=h.sml l;have o:=h.len;have n:=dK r c;have k:=gI r id c.1;obtain⟨C,D,E⟩:=fU (mw id) r.Objs i;obtain⟨j,p⟩:=I2 i;have e:j<r.Objs.length:=by unfold nD at p;omega
   have q:=ah e;have w:(nth r.Objs j).Cells.length<=1048576:=c.2 _ (am e);have y:eG r id a v=r:=by unfold eG;rw[C7 (λx=>d x.2.1)]
   rw[p]at k d;simp only[C2]at d;have t:=aG a 0 (((nth r.Objs j).Cells.length:Nat) - 1:Int);rw[Q0 d]at t;rw[y];have key:ao Tryz.prog 357 false [.val (some 2) (ax.enc .imm r),.val none [I id],.val none [I a],.val none [I v]] (.tup [some 2,none]) (ax.enc .own r++[B false]):=by
    refine fO 48 [] Tryz.func357 rfl ?_ (.inr (mq r (B false) trivial))
    repeat'(first|refine gD ?_|(conv=>whnf);first|with_reducible refine CA (aa q) ?_|refine C9 ?_|refine C6 (n) ?_|refine C6 (k) ?_|refine C6 (t) ?_|refine CG rfl (aa q) rfl ?_)
    rfl
   have g:=key.fzR;rw[eC,CW]at g;exact g
 ·refine⟨false,?_⟩
  have c:=h.sml l;have n:=dK r c;have k:=gI r id c.1;rw[show eG r id a v=r by unfold eG;rw[C7 (λx=>i x.1)]];have key:ao Tryz.prog 357 false [.val (some 2) (ax.enc .imm r),.val none [I id],.val none [I a],.val none [I v]] (.tup [some 2,none]) (ax.enc .own r++[B false]):=by
   refine fO 48 [] Tryz.func357 rfl ?_ (.inr (mq r (B false) trivial))
   repeat'(first|refine gD ?_|(conv=>whnf);first|refine C9 ?_|refine C6 (n) ?_|refine C6 (k) ?_)
   rfl
  have g:=key.fzR;rw[eC,CW]at g;exact g
theorem AZ(r:ax)(id n:Int)(m:Nat)(g:rz r m)(k:m<=1000):∃b:Bool,ao Tryz.prog 359 false [.val (some 2) (ax.enc .imm r),.val none [I id],.val none [I n]] (.tup [some 2,none]) (ax.enc .imm (gj r id n)++[B b]):=by
 by_cases h:0<=nD r id
 ·by_cases c:1<=n/\n<=(nth r.Objs (nD r id).toNat).Cells.length
  ·exact⟨true,yX r id n m g k h c⟩
  ·refine⟨false,?_⟩
   have a:=g.sml k;have o:=g.len;have l:=dK r a;have i:=gI r id a.1;obtain⟨y,C,D⟩:=fU (mw id) r.Objs h;obtain⟨j,p⟩:=I2 h;have d:j<r.Objs.length:=by unfold nD at p;omega
   have q:=ah d;have u:(nth r.Objs j).Cells.length<=1048576:=a.2 _ (am d);have w:gj r id n=r:=by unfold gj;rw[C7 (λx=>c x.2)]
   rw[p]at i c;simp only[C2]at c;have t:=aG n 1 (((nth r.Objs j).Cells.length:Nat):Int);rw[Q0 c]at t;rw[w];have key:ao Tryz.prog 359 false [.val (some 2) (ax.enc .imm r),.val none [I id],.val none [I n]] (.tup [some 2,none]) (ax.enc .own r++[B false]):=by
    refine fO 46 [(5,270,[30,31,32,33,34,35,36,37,38,39,40,41,43,44,0,1,2,3,4,5,6,7,8,9,10,11,12,1000,1001,1002,13,14,15])] Tryz.func359 rfl ?_ (.inr (mq r (B false) trivial))
    repeat'(first|refine gD ?_|(conv=>whnf);first|with_reducible refine CA (aa q) ?_|refine C9 ?_|refine C6 (l) ?_|refine C6 (i) ?_|refine C6 (t) ?_|refine CG rfl (aa q) rfl ?_)
    rfl
   have e:=key.fzR;rw[eC,CW]at e;exact e
 ·refine⟨false,?_⟩
  have a:=g.sml k;have l:=dK r a;have i:=gI r id a.1;rw[show gj r id n=r by unfold gj;rw[C7 (λx=>h x.1)]];have key:ao Tryz.prog 359 false [.val (some 2) (ax.enc .imm r),.val none [I id],.val none [I n]] (.tup [some 2,none]) (ax.enc .own r++[B false]):=by
   refine fO 46 [(5,270,[30,31,32,33,34,35,36,37,38,39,40,41,43,44,0,1,2,3,4,5,6,7,8,9,10,11,12,1000,1001,1002,13,14,15])] Tryz.func359 rfl ?_ (.inr (mq r (B false) trivial))
   repeat'(first|refine gD ?_|(conv=>whnf);first|refine C9 ?_|refine C6 (l) ?_|refine C6 (i) ?_)
   rfl
  have e:=key.fzR;rw[eC,CW]at e;exact e
structure gV where
 i:Nat
 h:Int
deriving Inhabited
def w64(x:Int):Int:=IntKind.i64.wrap x
def NH(h:Int):Int:=w64 (w64 (h*6364136223846793005)+1442695040888963407)
def N4(a b:Int):Int:=w64 ((BitVec.ofInt IntKind.i64.bits a ^^^ BitVec.ofInt IntKind.i64.bits b).toNat:Nat)
def and255(a:Int):Int:=w64 ((BitVec.ofInt IntKind.i64.bits a &&& BitVec.ofInt IntKind.i64.bits 255).toNat:Nat)
def La(h:Int)(n:Nat):Int:=h.fdiv (2 ^ (min n IntKind.i64.bits))
def yo(h:Int):Int:=and255 (N4 (La h 33) (La h 45))
theorem y1(a:Int):0<=and255 a/\and255 a<=255:=by
 have b:(BitVec.ofInt IntKind.i64.bits a &&& BitVec.ofInt IntKind.i64.bits 255).toNat<=255:=by
  rw[BitVec.toNat_and];exact Z3 Nat.and_le_right (by decide)
 unfold and255 w64;rw[ef ω ω];omega
def dx(zs:List Int)(c:gV):Int × gV:=if c.i<zs.length then(and255 (yo (NH c.h)+nth zs c.i),⟨c.i+1,NH c.h⟩) else(yo (NH c.h),⟨c.i,NH c.h⟩)
theorem qq(zs:List Int)(c:gV):0<=(dx zs c).1/\(dx zs c).1<=255:=by
 unfold dx;split<;>exact y1 _
theorem im{zs:List Int}{c:gV}(h:c.i<=zs.length):(dx zs c).2.i<=zs.length:=by
 unfold dx;split
 ·simp only;omega
 ·exact h
def yf(zs:List Int)(c:gV):Int × gV:=
 ((dx zs c).1*16777216+(dx zs (dx zs c).2).1*65536+(dx zs (dx zs (dx zs c).2).2).1*256+(dx zs (dx zs (dx zs (dx zs c).2).2).2).1,(dx zs (dx zs (dx zs (dx zs c).2).2).2).2)
def bq(zs:List Int)(c:gV)(n:Int):Int × gV:=if n<=256 then((dx zs c).1 % n,(dx zs c).2) else((yf zs c).1 % n,(yf zs c).2)
theorem bA(zs:List Int)(c:gV){n:Int}(h:1<=n):0<=(bq zs c n).1/\(bq zs c n).1<n:=by
 unfold bq;split<;>exact⟨Int.emod_nonneg _ ω,Int.emod_lt_of_pos _ ω⟩
theorem bK{zs:List Int}{c:gV}(h:c.i<=zs.length)(n:Int):(bq zs c n).2.i<=zs.length:=by
 unfold bq;split
 ·exact im h
 ·exact im (im (im (im h)))
def kf(zs:List Int)(c:gV)(l:List Int):Int × gV:=(nth l (bq zs c (l.length:Nat)).1.toNat,(bq zs c (l.length:Nat)).2)
theorem oG(zs:List Int)(c:gV){l:List Int}(h:1<=l.length):(kf zs c l).1∈l:=by
 have:=bA zs c (n:=(l.length:Nat)) ω;exact am ω
def nI(zs:List Int):Nat->Nat->List Int->gV->List Int × gV
 | 0,_,out,c=>(out,(bq zs c 4).2)
 | f+1,i,out,c=>if(i:Int)<(bq zs c 4).1 then nI zs f (i+1) (out++[(bq zs (bq zs c 4).2 12).1]) (bq zs (bq zs c 4).2 12).2 else(out,(bq zs c 4).2)
def Mv(zs:List Int)(c:gV):List Int × gV:=nI zs 4 0 [] c
theorem Gl(zs:List Int):∀(f i:Nat)(out:List Int)(c:gV),(∀x∈out,0<=x)->out.length+f<=4->c.i<=zs.length->(∀x∈(nI zs f i out c).1,0<=x)/\(nI zs f i out c).1.length<=4/\(nI zs f i out c).2.i<=zs.length
 | 0,_,out,c,b,e,d=>⟨b,by show out.length<=4;omega,bK d _⟩
 | f+1,i,out,c,b,e,d=>by
  unfold nI;split
  ·refine Gl zs f (i+1) _ _ (λx a=>?_) (by simp only[U2,List.length_singleton];omega) (bK (bK d _) _)
   rcases O2.1 a with a|a
   ·exact b x a
   ·rw[Z0.1 a];exact(bA zs _ (by decide)).1
  ·exact⟨b,by show out.length<=4;omega,bK d _⟩
def xv(zs:List Int)(c:gV):Int × gV:=bq zs c 7
def Dm(zs:List Int)(c:gV):Int × gV:=bq zs (xv zs c).2 3
def EU(zs:List Int)(c:gV):Int × gV:=bq zs (Dm zs c).2 100
def Ar(zs:List Int)(c:gV):Int × gV:=bq zs (EU zs c).2 4
def MH(zs:List Int)(c:gV):List Int × gV:=Mv zs (Ar zs c).2
def pv(zs:List Int)(c:gV):cI:=⟨(6+(xv zs c).1).toNat,(6+(xv zs c).1 - (Ar zs c).1).toNat,(1+(Dm zs c).1).toNat,40+(EU zs c).1,(MH zs c).1⟩
theorem wO{zs:List Int}{c:gV}(h:c.i<=zs.length):Hc (pv zs c)/\(MH zs c).2.i<=zs.length:=by
 have a:=bA zs c (n:=7) (by decide);have b:=bA zs (xv zs c).2 (n:=3) (by decide);have d:=bA zs (Dm zs c).2 (n:=100) (by decide);have e:=bA zs (EU zs c).2 (n:=4) (by decide);change 0<=(xv zs c).1/\(xv zs c).1<7 at a;change 0<=(Dm zs c).1/\(Dm zs c).1<3 at b;change 0<=(EU zs c).1/\(EU zs c).1<100 at d;change 0<=(Ar zs c).1/\(Ar zs c).1<4 at e;obtain⟨f,k,g⟩:=Gl zs 4 0 [] (Ar zs c).2 (λx j=>by cases j) (by simp) (bK (bK (bK (bK h _) _) _) _);refine⟨⟨?_,?_,?_,?_,?_⟩,g⟩
 ·show 1<=(6+(xv zs c).1).toNat/\(6+(xv zs c).1).toNat<=32;omega
 ·show 1<=(6+(xv zs c).1 - (Ar zs c).1).toNat/\(6+(xv zs c).1 - (Ar zs c).1).toNat<=32;omega
 ·show 1<=(1+(Dm zs c).1).toNat/\(1+(Dm zs c).1).toNat<=4;omega
 ·show 0<=40+(EU zs c).1/\40+(EU zs c).1<=1000;omega
 ·exact⟨by show(nI zs 4 0 [] (Ar zs c).2).1.length<=40;omega,f⟩
def y7(zs:List Int)(c:gV):Int × gV:=bq zs c 3
def DJ(zs:List Int)(c:gV)(ids:Int):Int × gV:=bq zs (y7 zs c).2 ids
def ke(zs:List Int)(c:gV)(ids:Int):Int × gV:=bq zs (DJ zs c ids).2 20
def szs:List Int:=[1,1,2,2,3,4,4,5,8,9,20]
def qU(zs:List Int)(c:gV)(ids:Int):eB × gV:=
 if(ke zs c ids).1<=6 then(⟨1,(y7 zs c).1,(kf zs (ke zs c ids).2 szs).1,0,0⟩,(kf zs (ke zs c ids).2 szs).2)
 else if(ke zs c ids).1<=9 then(⟨2,(y7 zs c).1,1+(DJ zs c ids).1,0,0⟩,(ke zs c ids).2)
 else if(ke zs c ids).1<=12 then(⟨3,(y7 zs c).1,1+(DJ zs c ids).1,(bq zs (ke zs c ids).2 4).1,1+(bq zs (bq zs (ke zs c ids).2 4).2 999).1⟩,(bq zs (bq zs (ke zs c ids).2 4).2 999).2)
 else if(ke zs c ids).1=13 then(⟨4,(y7 zs c).1,1+(DJ zs c ids).1,0,9+(bq zs (ke zs c ids).2 10).1⟩,(bq zs (ke zs c ids).2 10).2)
 else if(ke zs c ids).1=14 then(⟨(kf zs (ke zs c ids).2 [5,6]).1,(y7 zs c).1,1+(DJ zs c ids).1,0,0⟩,(kf zs (ke zs c ids).2 [5,6]).2)
 else if(ke zs c ids).1=15 then(⟨7,(y7 zs c).1,1+(DJ zs c ids).1,0,0⟩,(ke zs c ids).2)
 else if(ke zs c ids).1=16 then(⟨8,(y7 zs c).1,(kf zs (ke zs c ids).2 [1,30,60,120]).1,0,0⟩,(kf zs (ke zs c ids).2 [1,30,60,120]).2)
 else if(ke zs c ids).1=17 then(⟨9,(y7 zs c).1,1+(DJ zs c ids).1,0,0⟩,(ke zs c ids).2)
 else(⟨10,(y7 zs c).1,(kf zs (ke zs c ids).2 [1,2,3,10,30]).1,0,0⟩,(kf zs (ke zs c ids).2 [1,2,3,10,30]).2)
structure HL(a:eB):Prop where
 k:1<=a.Kind/\a.Kind<=10
 t:0<=a.Thread/\a.Thread<=1000000
 n:0<=a.N/\a.N<=1000000
 p:0<=a.At/\a.At<=1000000
 v:0<=a.Value/\a.Value<=1000000
theorem Ky{zs:List Int}{c:gV}{ids:Int}(h:c.i<=zs.length)(b:1<=ids/\ids<=1000):HL (qU zs c ids).1/\(qU zs c ids).2.i<=zs.length:=by
 have d:=bA zs c (n:=3) (by decide);have e:=bA zs (y7 zs c).2 (n:=ids) b.1;change 0<=(y7 zs c).1/\(y7 zs c).1<3 at d;change 0<=(DJ zs c ids).1/\(DJ zs c ids).1<ids at e;have a:(ke zs c ids).2.i<=zs.length:=bK (bK (bK h _) _) _;have f:=oG zs (ke zs c ids).2 (l:=szs) (by decide);have g:=oG zs (ke zs c ids).2 (l:=[5,6]) (by decide);have j:=oG zs (ke zs c ids).2 (l:=[1,30,60,120]) (by decide);have k:=oG zs (ke zs c ids).2 (l:=[1,2,3,10,30]) (by decide);have o:=bA zs (ke zs c ids).2 (n:=4) (by decide);have p:=bA zs (bq zs (ke zs c ids).2 4).2 (n:=999) (by decide);have q:=bA zs (ke zs c ids).2 (n:=10) (by decide);simp only[szs,List.mem_cons,List.not_mem_nil,or_false]at f g j k;unfold qU
 repeat' split
 ·exact⟨⟨by simp only;omega,by simp only;omega,by simp only[szs];omega,by simp only;omega,by simp only;omega⟩,bK a _⟩
 ·exact⟨⟨by simp only;omega,by simp only;omega,by simp only;omega,by simp only;omega,by simp only;omega⟩,a⟩
 ·exact⟨⟨by simp only;omega,by simp only;omega,by simp only;omega,by simp only;omega,by simp only;omega⟩,bK (bK a _) _⟩
 ·exact⟨⟨by simp only;omega,by simp only;omega,by simp only;omega,by simp only;omega,by simp only;omega⟩,bK a _⟩
 ·exact⟨⟨by simp only;omega,by simp only;omega,by simp only;omega,by simp only;omega,by simp only;omega⟩,bK a _⟩
 ·exact⟨⟨by simp only;omega,by simp only;omega,by simp only;omega,by simp only;omega,by simp only;omega⟩,a⟩
 ·exact⟨⟨by simp only;omega,by simp only;omega,by simp only;omega,by simp only;omega,by simp only;omega⟩,bK a _⟩
 ·exact⟨⟨by simp only;omega,by simp only;omega,by simp only;omega,by simp only;omega,by simp only;omega⟩,a⟩
 ·exact⟨⟨by simp only;omega,by simp only;omega,by simp only;omega,by simp only;omega,by simp only;omega⟩,bK a _⟩
def kJ(zs:List Int)(c:gV):Nat->List eB × gV
 | 0=>([],(bq zs c 41).2)
 | i+1=>((kJ zs c i).1++[(qU zs (kJ zs c i).2 (1+(i:Int) / 2)).1],(qU zs (kJ zs c i).2 (1+(i:Int) / 2)).2)
def mP(zs:List Int)(c:gV):List eB × gV:=kJ zs c (bq zs c 41).1.toNat
theorem qF{zs:List Int}{c:gV}(h:c.i<=zs.length):∀{n:Nat},n<=100->(kJ zs c n).1.length=n/\(∀a∈(kJ zs c n).1,HL a)/\(kJ zs c n).2.i<=zs.length
 | 0,_=>⟨rfl,λa b=>(by cases b),bK h _⟩
 | n+1,k=>by
  obtain⟨d,e,f⟩:=qF h (n:=n) ω;obtain⟨g,j⟩:=Ky (ids:=1+(n:Int) / 2) f ω;refine⟨by simp only[kJ,U2,List.length_singleton,d],λa b=>?_,j⟩;rcases O2.1 b with b|b
  ·exact e a b
  ·rw[Z0.1 b];exact g
def oR(zs:List Int):Nat->Int
 | 0=>w64 (98801+(zs.length:Nat))
 | i+1=>w64 ((BitVec.ofInt IntKind.i64.bits (w64 (w64 (w64 (oR zs i*131)+nth zs i)+7)) &&& BitVec.ofInt IntKind.i64.bits 1073741823).toNat:Nat)
def rY(zs:List Int):gV:=⟨0,oR zs (min zs.length 4000)⟩
def eY(zs:List Int):gV:=(MH zs (rY zs)).2
def drawn(zs:List Int):bG:=(A6 (pv zs (rY zs)) (mP zs (eY zs)).1 (mP zs (eY zs)).1.length).1
theorem Bl(zs:List Int):tw (drawn zs) 40:=by
 have a:(rY zs).i<=zs.length:=R0 _;obtain⟨b,d⟩:=wO a;have f:=bA zs (eY zs) (n:=41) (by decide);obtain⟨e,-,-⟩:=qF (zs:=zs) (c:=eY zs) d (n:=(bq zs (eY zs) 41).1.toNat) ω;refine(zA b _ _).more ?_;show(kJ zs (eY zs) _).1.length<=40;rw[e];omega
def rU(z:Int):List C:=[.v (.int .u8 z)]
def gG(zs:List Int)(c:gV):List C:=[.s .imm (zs.map rU),I (c.i:Nat),I c.h]
def iD(zs:List Int):Prop:=zs.length<=1048576/\∀z∈zs,0<=z/\z<=255
theorem jx(zs:List Int)(c:gV)(e:iD zs)(w:c.i<=zs.length):aQ Tryz.prog 185 false [.ptr (gG zs c)] [.ptr (gG zs (dx zs c).2)] .one [I (dx zs c).1]:=by
 have g:IntKind.i64.wrap (c.h*6364136223846793005)=w64 (c.h*6364136223846793005):=rfl;have b:IntKind.i64.wrap (w64 (c.h*6364136223846793005)+1442695040888963407)=NH c.h:=rfl;have o:=e.1;generalize p:NH c.h=H at b;have j:H.fdiv (2 ^ (min (33:Int).toNat IntKind.i64.bits))=La H 33:=rfl;have k:H.fdiv (2 ^ (min (45:Int).toNat IntKind.i64.bits))=La H 45:=rfl;have l:IntKind.i64.wrap (BitVec.ofInt IntKind.i64.bits (La H 33) ^^^ BitVec.ofInt IntKind.i64.bits (La H 45)).toNat=N4 (La H 33) (La H 45):=rfl;have d:IntKind.i64.wrap (BitVec.ofInt IntKind.i64.bits (N4 (La H 33) (La H 45)) &&& BitVec.ofInt IntKind.i64.bits 255).toNat=yo H:=rfl;have r:0<=yo H/\yo H<=255:=y1 _;unfold dx;rw[p];generalize yo H=y at d r |-;refine fM 58 [] [(2,10,[13,14,15,16,17,18,19,20,21,22]),(3,9,[25,26,27,28,29,30,31,32,33]),(4,12,[35,36,37,38,39,40,41,42,43,44,45,46])] [(0,0)] Tryz.func185 rfl (λu q=>?_);by_cases a:c.i<zs.length
 ·rw[C8 a]
  have n:=ah a;have B:=e.2 _ (am a);have t:IntKind.i64.wrap (BitVec.ofInt IntKind.i64.bits (y+nth zs c.i) &&& BitVec.ofInt IntKind.i64.bits 255).toNat=and255 (y+nth zs c.i):=rfl
  repeat'(first|refine gD ?_|(conv=>whnf);first|with_reducible (first|refine CJ g ?_|refine CJ b ?_|refine CJ l ?_|refine CJ d ?_|refine CJ t ?_|refine CA (aa n) ?_|refine CL (by decide) ?_|refine CR j ?_|refine CR k ?_)|refine CG rfl (aa n) rfl ?_|refine C9 ?_)
  refine CE rfl rfl ?_;exact wB
 ·rw[C7 a]
  repeat'(first|refine gD ?_|(conv=>whnf);first|with_reducible (first|refine CJ g ?_|refine CJ b ?_|refine CJ l ?_|refine CJ d ?_|refine CL (by decide) ?_|refine CR j ?_|refine CR k ?_)|refine C9 ?_)
  refine CE rfl rfl ?_;exact wB
theorem bH(zs:List Int)(c:gV)(n:Int)(b:iD zs)(d:c.i<=zs.length)(p:1<=n):aQ Tryz.prog 92 false [.ptr (gG zs c),.val none [I n]] [.ptr (gG zs (bq zs c n).2),.val none [I n]] .one [I (bq zs c n).1]:=by
 have j:=qq zs c;have g:=jx zs c b d;unfold bq;refine fM 37 [(185,[2])] [] [(0,0),(0,0)] Tryz.func92 rfl (λu q=>?_);by_cases h:n<=256
 ·rw[C8 h]
  have a:(dx zs c).1.tmod n=(dx zs c).1 % n:=Int.tmod_eq_emod_of_nonneg j.1
  repeat'(first|refine gD ?_|(conv=>whnf);first|with_reducible (first|refine CR a ?_|refine Bf.D (λe=>?_) (λe=>?_))|refine CH (g) (.inl rfl) ?_|refine CL ω ?_)
  refine CE rfl rfl ?_;exact wB
 ·rw[C7 h]
  have r:=qq zs (dx zs c).2;have t:=qq zs (dx zs (dx zs c).2).2;have w:=qq zs (dx zs (dx zs (dx zs c).2).2).2;have k:=jx zs (dx zs c).2 b (im d);have l:=jx zs (dx zs (dx zs c).2).2 b (im (im d));have o:=jx zs (dx zs (dx zs (dx zs c).2).2).2 b (im (im (im d)));have a:(yf zs c).1.tmod n=(yf zs c).1 % n:=Int.tmod_eq_emod_of_nonneg (by unfold yf;simp only;omega);unfold yf at a |-;simp only at a
  repeat'(first|refine gD ?_|(conv=>whnf);first|with_reducible (first|refine CR a ?_|refine Bf.D (λe=>?_) (λe=>?_))|refine CH (g) (.inl rfl) ?_|refine CH (k) (.inl rfl) ?_|refine CH (l) (.inl rfl) ?_|refine CH (o) (.inl rfl) ?_|refine CL ω ?_)
  refine CE rfl rfl ?_;exact wB
theorem HE(zs:List Int)(c:gV)(l:List Int)(b:iD zs)(d:c.i<=zs.length)(g:1<=l.length/\l.length<=1000):aQ Tryz.prog 310 false [.ptr (gG zs c),.val none (aD .imm l)] [.ptr (gG zs (kf zs c l).2),.val none (aD .imm l)] .one [I (kf zs c l).1]:=by
 have e:=bH zs c (l.length:Nat) b d ω;have h:=bA zs c (n:=(l.length:Nat)) ω;have a:=ah (xs:=l) (i:=(bq zs c (l.length:Nat)).1.toNat) ω;unfold kf;refine fM 12 [(92,[2,0])] [] [(0,0),(0,0)] Tryz.func310 rfl (λu q=>?_)
 repeat'(first|refine gO ?_|(conv=>whnf);first|with_reducible refine CK ω (aa a) ?_|refine CH (e) (.inl rfl) ?_|refine CG rfl (aa a) rfl ?_)
 refine CE rfl rfl ?_;exact wC
theorem ig(zs:List Int)(c:gV)(l:List Int)(b:iD zs)(d:c.i<=zs.length)(g:1<=l.length/\l.length<=1000):aQ Tryz.prog 310 false [.ptr (gG zs c),.mut none (aD .own l)] [.ptr (gG zs (kf zs c l).2),.mut none (aD .own l)] .one [I (kf zs c l).1]:=by
 have e:=bH zs c (l.length:Nat) b d ω;have h:=bA zs c (n:=(l.length:Nat)) ω;have a:=ah (xs:=l) (i:=(bq zs c (l.length:Nat)).1.toNat) ω;unfold kf;refine fM 12 [(92,[2,0])] [] [(0,0),(1,0)] Tryz.func310 rfl (λu q=>?_)
 repeat'(first|refine gO ?_|(conv=>whnf);first|with_reducible refine CK ω (aa a) ?_|refine CH (e) (.inl rfl) ?_|refine CG rfl (aa a) rfl ?_)
 refine CE rfl rfl ?_;exact wC
theorem H1(zs:List Int):∀(f i:Nat)(out:List Int)(c:gV),(bq zs c 4).1<=i->nI zs f i out c=(out,(bq zs c 4).2)
 | 0,_,_,_,_=>rfl
 | f+1,i,out,c,h=>by unfold nI;rw[C7 ω]
theorem Ma(zs:List Int)(f i:Nat)(out:List Int)(c:gV)(h:(i:Int)<(bq zs c 4).1):nI zs (f+1) i out c=nI zs f (i+1) (out++[(bq zs (bq zs c 4).2 12).1]) (bq zs (bq zs c 4).2 12).2:=by
 show(if _ then _ else _)=_;rw[C8 h]
structure Rq where
 i:Nat
 out:List Int
 c:gV
theorem wP(zs:List Int)(c:gV)(e:iD zs)(j:c.i<=zs.length):aQ Tryz.prog 242 false [.ptr (gG zs c)] [.ptr (gG zs (Mv zs c).2)] .one (aD .own (Mv zs c).1):=by
 refine fM 18 [(92,[2,0])] [] [(0,0)] Tryz.func242 rfl (λu q=>?_) (.inr (bC _))
 repeat'(first|refine gO ?_|fail)
 (conv=>whnf)
 refine CD (ι:=Rq) (λx=>[(0,.hold .box (gG zs x.c)),(3,.hold .one (aD .own x.out)),(4,.hold .one [I ((x.i:Nat):Int)])]) (λx=>(x.i<=4/\x.out.length<=x.i/\x.c.i<=zs.length)/\nI zs (4 - x.i) x.i x.out x.c=Mv zs c) (λx=>4 - x.i) (⟨0,[],c⟩) ?_ (⟨⟨R0 _,R0 _,j⟩,rfl⟩) λx k=>?_
 ·exact wC
 obtain⟨i,out,d⟩:=x;obtain⟨⟨l,o,b⟩,a⟩:=k;simp only at l o b a |-;have B:=bA zs d (n:=4) (by decide);have g:=bH zs d 4 e b (by decide);have h:=bK b 4;have p:=bH zs (bq zs d 4).2 12 e h (by decide);have t:=bK h 12;by_cases w:(i:Int)<(bq zs d 4).1
 ·rw[show 4 - i=(4 - (i+1))+1 by omega,Ma zs _ _ _ _ w]at a
  repeat'(first|refine gD ?_|(conv=>whnf);first|refine CH (g) (.inl rfl) ?_|refine CH (p) (.inl rfl) ?_|refine CN bW (λr y=>by rw[Z0.1 y];rfl) (by simp[aU,d4]) (by simp;omega) (by simp only[W0];exact up (by simp;omega) (by decide)) rfl ?_)
  ((conv=>whnf);refine CB ⟨i+1,out++[(bq zs (bq zs d 4).2 12).1],(bq zs (bq zs d 4).2 12).2⟩ ⟨⟨by simp only;omega,by simp only[U2,List.length_singleton];omega,t⟩,a⟩ (by simp only;omega) ?_)
  repeat'(first|exact trivial|rfl| exact dq _ |exact CI rfl (CI (T0 (C.s d7.own) (by simp[rI])) trivial)|refine CI ?_ ?_|(exact xL (by first|omega|(simp only;omega)|(simp;omega))))
 ·rw[H1 zs _ _ _ _ ω]at a
  rw[<-a]
  repeat'(first|refine gD ?_|(conv=>whnf);first|refine CH (g) (.inl rfl) ?_)
  refine CE rfl rfl ?_;exact wC
def cI.enc(o:d7)(c:cI):List C:=[I (c.Pages:Nat),I (c.Frames:Nat),I (c.Threads:Nat),I c.Limit,.s o (c.Refuse.map (rI o))]
theorem cI.enc_fz(c:cI):dy (cI.enc .own c)=cI.enc .imm c:=by simp[dy,cI.enc,rI,<-bR,T4]
theorem cI.enc_fr(c:cI):gE (cI.enc .own c):=⟨trivial,trivial,trivial,trivial,⟨.inl λh=>(by cases h),bf _ _ λy _=>oU y⟩,trivial⟩
theorem vM(zs:List Int)(c:gV)(a:iD zs)(h:c.i<=zs.length):aQ Tryz.prog 150 false [.ptr (gG zs c)] [.ptr (gG zs (MH zs c).2)] .agg (cI.enc .own (pv zs c)):=by
 have j:=bK h 7;have k:=bK j 3;have l:=bK k 100;have y:=bK l 4;have b:=bH zs c 7 a h (by decide);have d:=bH zs (xv zs c).2 3 a j (by decide);have e:=bH zs (Dm zs c).2 100 a k (by decide);have g:=bH zs (EU zs c).2 4 a l (by decide);have o:=wP zs (Ar zs c).2 a y;have p:=bA zs c (n:=7) (by decide);have r:=bA zs (xv zs c).2 (n:=3) (by decide);have B:=bA zs (Dm zs c).2 (n:=100) (by decide);have t:=bA zs (EU zs c).2 (n:=4) (by decide);have w:=cI.enc_fr (pv zs c);have C:cI.enc .own (pv zs c)=[I (6+(xv zs c).1),I (6+(xv zs c).1 - (Ar zs c).1),I (1+(Dm zs c).1),I (40+(EU zs c).1),.s .own ((MH zs c).1.map (rI .own))]:=by
  have D:0<=(xv zs c).1/\(xv zs c).1<7:=p;have E:0<=(Dm zs c).1/\(Dm zs c).1<3:=r;have F:0<=(Ar zs c).1/\(Ar zs c).1<4:=t;unfold cI.enc pv;simp only;rw[Int.toNat_of_nonneg ω,Int.toNat_of_nonneg ω,Int.toNat_of_nonneg ω]
 rw[C]at w |-;change aQ _ _ _ _ [.ptr (gG zs (xv zs c).2),_] _ _ at b;change aQ _ _ _ _ [.ptr (gG zs (Dm zs c).2),_] _ _ at d;change aQ _ _ _ _ [.ptr (gG zs (EU zs c).2),_] _ _ at e;change aQ _ _ _ _ [.ptr (gG zs (Ar zs c).2),_] _ _ at g;change aQ _ _ _ _ [.ptr (gG zs (MH zs c).2)] _ (aD .own (MH zs c).1) at o;change aQ _ _ _ _ _ _ [I (xv zs c).1]at b;change aQ _ _ _ _ _ _ [I (Dm zs c).1]at d;change aQ _ _ _ _ _ _ [I (EU zs c).1]at e;change aQ _ _ _ _ _ _ [I (Ar zs c).1]at g;change 0<=(xv zs c).1/\(xv zs c).1<7 at p;change 0<=(Dm zs c).1/\(Dm zs c).1<3 at r;change 0<=(EU zs c).1/\(EU zs c).1<100 at B;change 0<=(Ar zs c).1/\(Ar zs c).1<4 at t;generalize MH zs c=r5 at *;generalize Ar zs c=r4 at *;generalize EU zs c=r3 at *;generalize Dm zs c=r2 at *;generalize xv zs c=r1 at *;refine fM 24 [(92,[2,0]),(242,[2])] [(2,65536,[])] [(0,0)] Tryz.func150 rfl (λu q=>?_) (.inr w)
 repeat'(first|refine gO ?_|(conv=>whnf);first|refine CH (b) (.inl rfl) ?_|refine CH (d) (.inl rfl) ?_|refine CH (e) (.inl rfl) ?_|refine CH (g) (.inl rfl) ?_|refine CH (o) (.inl rfl) ?_|refine CI ?_ ?_)
 all_goals
  refine CE rfl rfl ?_;exact wC
theorem wJ(n:Nat)(e:1<=n/\n<=32):ao Tryz.prog 400 false [.val none [I (n:Nat)]] (.tup [some 2,none]) (aV.enc .own (f6 n)++[B true]):=by
 have c:=aG ((n:Nat):Int) 1 32;rw[O0 ω]at c;have a:=aY (b:=[B true]) (aV.enc_fr (f6 n)) ⟨trivial,trivial⟩;rw[show aV.enc .own (f6 n)=_ from DT n n]at a |-;refine fO 28 [(7,4,[16,17,18,19])] Tryz.func400 rfl ?_ (.inr a)
 repeat'(first|refine gO ?_|(conv=>whnf);first|refine C9 ?_|refine C6 (c) ?_)
 (conv=>whnf)
 refine CD (ι:=Nat) (λk=>[(0,.hold .one [I ((n:Nat))]),(2,.hold .box [.z,.z]),(4,.hold .box [.s .own (List.replicate k [.s .own (List.replicate 16 [I 0])]),.s .own (List.replicate k [B false])]),(5,.hold .one [I ((k:Nat):Int)])]) (λk=>k<=n) (λk=>n - k) (0) ?_ (R0 _) λk g=>?_
 ·exact wB
 by_cases h:k<n
 ·repeat'(first|refine gD ?_|(conv=>whnf);first|refine C9 ?_|refine Mk.mk 16 rfl rfl (by decide) (by decide) rfl ?_|refine Ap.sn (λr d=>by rw[(List.mem_replicate.1 d).2];rfl) rfl (by simp;omega) (by decide) (Dg _ k) ?_)
  ((conv=>whnf);refine CB (k+1) ω ω ?_;(exact wB))
 ·obtain rfl:k=n:=ω
  repeat'(first|refine gD ?_|(conv=>whnf);first|refine C9 ?_)
  rfl
theorem xn(n:Nat)(e:1<=n/\n<=32):ao Tryz.prog 401 false [.val none [I (n:Nat)]] (.tup [some 1,none]) (aH.enc .own (dP n)++[B true]):=by
 have c:=aG ((n:Nat):Int) 1 32;rw[O0 ω]at c;have a:=aY (b:=[B true]) (aH.enc_fr (dP n)) ⟨trivial,trivial⟩;have d:aH.enc .own (dP n)=[.s .own (List.replicate n [I 0,I 0])]:=by simp[aH.enc,dP,bg.enc,List.map_replicate]
 rw[d]at a |-;refine fO 11 [] Tryz.func401 rfl ?_ (.inr a)
 repeat'(first|refine gO ?_|(conv=>whnf);first|refine C9 ?_|refine C6 (c) ?_|refine Mk.mk n rfl rfl ω (up ω (by decide)) rfl ?_)
 rfl
theorem tO(p f:Nat)(a:1<=p/\p<=32)(b:1<=f/\f<=32):ao Tryz.prog 378 false [.val none [I (p:Nat)],.val none [I (f:Nat)]] (.tup [some 3,none]) (aT.enc .own ⟨f6 f,dP p⟩++[B true]):=by
 refine fO 30 [] Tryz.func378 rfl ?_ (.inr (aY (aT.enc_fr _) ⟨trivial,trivial⟩))
 repeat'(first|refine gO ?_|(conv=>whnf);first|refine C9 ?_|refine C6 (wJ f b) ?_|refine C6 (xn p a) ?_)
 rfl
theorem wq(p f:Nat)(a:List Int)(b:1<=p/\p<=32)(c:1<=f/\f<=32)(d:a.length<=40/\∀x∈a,0<=x):ao Tryz.prog 350 false [.val none [I (p:Nat)],.val none [I (f:Nat)],.val none (aD .imm a)] (.tup [some 5,none]) (af.enc .own (b9 p f a)++[B true]):=by
 have e:=po b c d;have h:=d.1;have g:=kU (b9 p f a) (bF e);rw[e]at g;refine fO 31 [(2,260,[17,18,19,10,0,1,2,5,3,1000,1005,4,1005,6])] Tryz.func350 rfl ?_ (.inr (aY (af.enc_fr _) ⟨trivial,trivial⟩))
 repeat'(first|refine gO ?_|(conv=>whnf);first|refine C9 ?_|refine C6 (tO p f b c) ?_|refine CF (g) ⟨⟨rfl,CP (b9 p f a)⟩,trivial⟩ ?_|refine CQ (λ_=>rfl) (λ_=>rfl) ω (by decide) ?_|refine CT (λ_=>rfl) (λ_=>rfl) ω (by decide) ?_|refine C9 ?_)
 rfl
def NY(p f t:Nat)(lim:Int)(a:List Int)(k:Nat):ab:={caps (uv p f t lim a) k with Quar:=⟨0,[]⟩}
theorem yS(p f t:Nat)(lim:Int)(a:List Int)(c:1<=p/\p<=32)(d:1<=f/\f<=32)(e:1<=t/\t<=4)(g:0<=lim/\lim<=1000)(h:a.length<=40/\∀x∈a,0<=x):ao Tryz.prog 299 false [.val none [I (p:Nat)],.val none [I (f:Nat)],.val none [I (t:Nat)],.val none [I lim],.val none (aD .imm a)] (.tup [some 24,none]) (ab.enc .own (uv p f t lim a)++[B true]):=by
 have b:=aG lim 0 1000;rw[O0 g]at b;refine fO 66 [(9,4,[54,55,56,57])] Tryz.func299 rfl ?_ (.inr (aY (ab.enc_fr _) ⟨trivial,trivial⟩))
 repeat'(first|refine gO ?_|(conv=>whnf);first|refine C9 ?_|refine C6 (wq p f a c d h) ?_|refine C6 (zH t e) ?_|refine C6 (b) ?_|refine C6 (ql) ?_)
 (conv=>whnf)
 refine CD (ι:=Nat) (λk=>[(2,.hold .one [I ((t:Nat))]),(10,.hold .box [.z,.z,.z,I 0,.z,.z,.z,.z,.z,.z,.z,.z,I 0,.z,I 0,I 0,I 0,I 0,B false,I 0,I 0,.z,I 0,I 0]),(16,.hold .box (ab.enc .own (NY p f t lim a k))),(17,.hold .one [I ((k:Nat):Int)])]) (λk=>k<=t) (λk=>t - k) (0) ?_ (R0 _) λk i=>?_
 ·exact wB
 by_cases j:k<t
 ·repeat'(first|refine gD ?_|(conv=>whnf);first|refine C9 ?_|refine C6 (xi) ?_|refine Ap.sn JH rfl (by rw[W0];show(List.replicate _ eE).length+1<=_;rw[List.length_replicate];omega) (by decide) (Gq k) ?_)
  ((conv=>whnf);refine CB (k+1) ω ω ?_;(exact wB))
 ·obtain rfl:k=t:=ω
  repeat'(first|refine gD ?_|(conv=>whnf);first|refine C9 ?_|refine C6 (ql) ?_)
  rfl
theorem A9:ao Tryz.prog 300 false [] .agg (ax.enc .own ⟨1,[]⟩):=by
 refine fO 2 [] Tryz.func300 rfl ?_ (.inr (ax.enc_fr _))
 repeat'((conv=>whnf);first|with_reducible (first|refine Lm ?_|refine Wm ω ?_|refine Bn ?_|refine jm.wk rfl ?_)|refine Bt ?_|refine Bu ?_|refine C9 ?_)
 exact⟨rfl,rfl,trivial⟩
theorem x4(c:cI)(h:Hc c):ao Tryz.prog 239 false [.val (some 5) (cI.enc .imm c)] (.tup [some 26,none]) (bG.enc .own (world0 c)++[B true]):=by
 have a:=yS c.Pages c.Frames c.Threads c.Limit c.Refuse h.p h.f h.t h.l h.r;refine fO 26 [(4,2,[23,24])] Tryz.func239 rfl ?_ (.inr (aY (bG.enc_fr _) ⟨trivial,trivial⟩))
 repeat'(first|refine gO ?_|(conv=>whnf);first|refine C9 ?_|refine C6 (a) ?_|refine C6 (A9) ?_)
 rfl
def n9(o:d7)(l:List eB):List C:=[.s o (l.map (eB.enc o))]
theorem eB.enc_fr(x:eB):gE (eB.enc .own x):=⟨trivial,trivial,trivial,trivial,trivial,trivial⟩
theorem GW(l:List eB):gE (n9 .own l):=⟨⟨.inl λh=>(by cases h),bf _ _ λy _=>eB.enc_fr y⟩,trivial⟩
theorem G8(l:List eB):dy (n9 .own l)=n9 .imm l:=by simp[dy,n9,eB.enc,<-bR,T4]
theorem B1(zs:List Int)(c:gV)(ids:Int)(b:iD zs)(p:c.i<=zs.length)(r:1<=ids/\ids<=1000):aQ Tryz.prog 243 false [.ptr (gG zs c),.val none [I ids]] [.ptr (gG zs (qU zs c ids).2),.val none [I ids]] .agg (eB.enc .own (qU zs c ids).1):=by
 have w:=bK p 3;have y:=bK w ids;have d:(ke zs c ids).2.i<=zs.length:=bK y 20;have B:=bH zs c 3 b p (by decide);have C:=bH zs (y7 zs c).2 ids b w r.1;have j:=bH zs (DJ zs c ids).2 20 b y (by decide);have H:=bA zs c (n:=3) (by decide);have J:=bA zs (y7 zs c).2 (n:=ids) r.1;have D:=bA zs (DJ zs c ids).2 (n:=20) (by decide);have e:=ig zs (ke zs c ids).2 szs b d (by decide);have E:=ig zs (ke zs c ids).2 [5,6] b d (by decide);have F:=ig zs (ke zs c ids).2 [1,30,60,120] b d (by decide);have l:=ig zs (ke zs c ids).2 [1,2,3,10,30] b d (by decide);have g:=bH zs (ke zs c ids).2 4 b d (by decide);have h:=bH zs (bq zs (ke zs c ids).2 4).2 999 b (bK d _) (by decide);have G:=bH zs (ke zs c ids).2 10 b d (by decide);have K:=bA zs (bq zs (ke zs c ids).2 4).2 (n:=999) (by decide);have L:=bA zs (ke zs c ids).2 (n:=10) (by decide);change aQ _ _ _ _ [.ptr (gG zs (y7 zs c).2),_] _ [I (y7 zs c).1]at B;change aQ _ _ _ _ [.ptr (gG zs (DJ zs c ids).2),_] _ [I (DJ zs c ids).1]at C;change aQ _ _ _ _ [.ptr (gG zs (ke zs c ids).2),_] _ [I (ke zs c ids).1]at j;change 0<=(y7 zs c).1/\(y7 zs c).1<3 at H;change 0<=(DJ zs c ids).1/\(DJ zs c ids).1<ids at J;change 0<=(ke zs c ids).1/\(ke zs c ids).1<20 at D;have o:=eB.enc_fr (qU zs c ids).1;unfold qU at o |-;generalize ke zs c ids=k at *;generalize DJ zs c ids=n at *;generalize y7 zs c=t at *;obtain⟨a,M⟩:=k;dsimp only at d e E F l g h G K L D j o |-;refine fM 77 [(92,[2,0]),(310,[2,1])] [] [(0,0),(0,0)] Tryz.func243 rfl (λu q=>?_) (.inr o)
 repeat'(first|refine gO ?_|(conv=>whnf);first|refine CH (B) (.inl rfl) ?_|refine CH (C) (.inl rfl) ?_|refine CH (j) (.inl rfl) ?_)
 obtain rfl|rfl|rfl|rfl|rfl|rfl|rfl|rfl|rfl|rfl|rfl|rfl|rfl|rfl|rfl|rfl|rfl|rfl|rfl|rfl:=(show a=0\/a=1\/a=2\/a=3\/a=4\/a=5\/a=6\/a=7\/a=8\/a=9\/a=10\/a=11\/a=12\/a=13\/a=14\/a=15\/a=16\/a=17\/a=18\/a=19 by omega)
 ·rw[C8 (show((0:Int))<=6 by decide)]
  repeat'(first|refine gO ?_|(conv=>whnf);first|refine CH (e) (.inl rfl) ?_)
  refine CE rfl rfl ?_;exact wC
 ·rw[C8 (show((1:Int))<=6 by decide)]
  repeat'(first|refine gO ?_|(conv=>whnf);first|refine CH (e) (.inl rfl) ?_)
  refine CE rfl rfl ?_;exact wC
 ·rw[C8 (show((2:Int))<=6 by decide)]
  repeat'(first|refine gO ?_|(conv=>whnf);first|refine CH (e) (.inl rfl) ?_)
  refine CE rfl rfl ?_;exact wC
 ·rw[C8 (show((3:Int))<=6 by decide)]
  repeat'(first|refine gO ?_|(conv=>whnf);first|refine CH (e) (.inl rfl) ?_)
  refine CE rfl rfl ?_;exact wC
 ·rw[C8 (show((4:Int))<=6 by decide)]
  repeat'(first|refine gO ?_|(conv=>whnf);first|refine CH (e) (.inl rfl) ?_)
  refine CE rfl rfl ?_;exact wC
 ·rw[C8 (show((5:Int))<=6 by decide)]
  repeat'(first|refine gO ?_|(conv=>whnf);first|refine CH (e) (.inl rfl) ?_)
  refine CE rfl rfl ?_;exact wC
 ·rw[C8 (show((6:Int))<=6 by decide)]
  repeat'(first|refine gO ?_|(conv=>whnf);first|refine CH (e) (.inl rfl) ?_)
  refine CE rfl rfl ?_;exact wC
 ·rw[C7 (show ¬((7:Int)<=6) by decide),C8 (show((7:Int))<=9 by decide)]
  repeat'(first|refine gO ?_|fail)
  refine CE rfl rfl ?_;exact wC
 ·rw[C7 (show ¬((8:Int)<=6) by decide),C8 (show((8:Int))<=9 by decide)]
  repeat'(first|refine gO ?_|fail)
  refine CE rfl rfl ?_;exact wC
 ·rw[C7 (show ¬((9:Int)<=6) by decide),C8 (show((9:Int))<=9 by decide)]
  repeat'(first|refine gO ?_|fail)
  refine CE rfl rfl ?_;exact wC
 ·rw[C7 (show ¬((10:Int)<=6) by decide),C7 (show ¬((10:Int)<=9) by decide),C8 (show((10:Int))<=12 by decide)]
  repeat'(first|refine gO ?_|(conv=>whnf);first|refine CH (g) (.inl rfl) ?_|refine CH (h) (.inl rfl) ?_)
  refine CE rfl rfl ?_;exact wC
 ·rw[C7 (show ¬((11:Int)<=6) by decide),C7 (show ¬((11:Int)<=9) by decide),C8 (show((11:Int))<=12 by decide)]
  repeat'(first|refine gO ?_|(conv=>whnf);first|refine CH (g) (.inl rfl) ?_|refine CH (h) (.inl rfl) ?_)
  refine CE rfl rfl ?_;exact wC
 ·rw[C7 (show ¬((12:Int)<=6) by decide),C7 (show ¬((12:Int)<=9) by decide),C8 (show((12:Int))<=12 by decide)]
  repeat'(first|refine gO ?_|(conv=>whnf);first|refine CH (g) (.inl rfl) ?_|refine CH (h) (.inl rfl) ?_)
  refine CE rfl rfl ?_;exact wC
 ·rw[C7 (show ¬((13:Int)<=6) by decide),C7 (show ¬((13:Int)<=9) by decide),C7 (show ¬((13:Int)<=12) by decide),C8 (show((13:Int))=13 by decide)]
  repeat'(first|refine gO ?_|(conv=>whnf);first|refine CH (G) (.inl rfl) ?_)
  refine CE rfl rfl ?_;exact wC
 ·rw[C7 (show ¬((14:Int)<=6) by decide),C7 (show ¬((14:Int)<=9) by decide),C7 (show ¬((14:Int)<=12) by decide),C7 (show ¬((14:Int)=13) by decide),C8 (show((14:Int))=14 by decide)]
  repeat'(first|refine gO ?_|(conv=>whnf);first|refine CH (E) (.inl rfl) ?_)
  refine CE rfl rfl ?_;exact wC
 ·rw[C7 (show ¬((15:Int)<=6) by decide),C7 (show ¬((15:Int)<=9) by decide),C7 (show ¬((15:Int)<=12) by decide),C7 (show ¬((15:Int)=13) by decide),C7 (show ¬((15:Int)=14) by decide),C8 (show((15:Int))=15 by decide)]
  repeat'(first|refine gO ?_|fail)
  refine CE rfl rfl ?_;exact wC
 ·rw[C7 (show ¬((16:Int)<=6) by decide),C7 (show ¬((16:Int)<=9) by decide),C7 (show ¬((16:Int)<=12) by decide),C7 (show ¬((16:Int)=13) by decide),C7 (show ¬((16:Int)=14) by decide),C7 (show ¬((16:Int)=15) by decide),C8 (show((16:Int))=16 by decide)]
  repeat'(first|refine gO ?_|(conv=>whnf);first|refine CH (F) (.inl rfl) ?_)
  refine CE rfl rfl ?_;exact wC
 ·rw[C7 (show ¬((17:Int)<=6) by decide),C7 (show ¬((17:Int)<=9) by decide),C7 (show ¬((17:Int)<=12) by decide),C7 (show ¬((17:Int)=13) by decide),C7 (show ¬((17:Int)=14) by decide),C7 (show ¬((17:Int)=15) by decide),C7 (show ¬((17:Int)=16) by decide),C8 (show((17:Int))=17 by decide)]
  repeat'(first|refine gO ?_|fail)
  refine CE rfl rfl ?_;exact wC
 ·rw[C7 (show ¬((18:Int)<=6) by decide),C7 (show ¬((18:Int)<=9) by decide),C7 (show ¬((18:Int)<=12) by decide),C7 (show ¬((18:Int)=13) by decide),C7 (show ¬((18:Int)=14) by decide),C7 (show ¬((18:Int)=15) by decide),C7 (show ¬((18:Int)=16) by decide),C7 (show ¬((18:Int)=17) by decide)]
  repeat'(first|refine gO ?_|(conv=>whnf);first|refine CH (l) (.inl rfl) ?_)
  refine CE rfl rfl ?_;exact wC
 ·rw[C7 (show ¬((19:Int)<=6) by decide),C7 (show ¬((19:Int)<=9) by decide),C7 (show ¬((19:Int)<=12) by decide),C7 (show ¬((19:Int)=13) by decide),C7 (show ¬((19:Int)=14) by decide),C7 (show ¬((19:Int)=15) by decide),C7 (show ¬((19:Int)=16) by decide),C7 (show ¬((19:Int)=17) by decide)]
  repeat'(first|refine gO ?_|(conv=>whnf);first|refine CH (l) (.inl rfl) ?_)
  refine CE rfl rfl ?_;exact wC
theorem yV(zs:List Int)(c:gV)(b:iD zs)(d:c.i<=zs.length):aQ Tryz.prog 151 false [.ptr (gG zs c),.val none [I 40]] [.ptr (gG zs (mP zs c).2),.val none [I 40]] .one (n9 .own (mP zs c).1):=by
 have e:=bH zs c 41 b d (by decide);have g:=bA zs c (n:=41) (by decide);obtain⟨n,h⟩:=I2 g.1;have a:(bq zs c 41).1.toNat=n:=by rw[h];rfl
 unfold mP;rw[a];rw[h]at e g;refine fM 27 [(92,[2,0]),(243,[2,0])] [] [(0,0),(0,0)] Tryz.func151 rfl (λu q=>?_) (.inr (GW _))
 repeat'(first|refine gO ?_|(conv=>whnf);first|refine CH (e) (.inl rfl) ?_)
 (conv=>whnf)
 refine CD (ι:=Nat) (λi=>[(0,.hold .box (gG zs (kJ zs c i).2)),(5,.hold .one (n9 .own (kJ zs c i).1)),(6,.hold .one [I ((n:Nat):Int)]),(7,.hold .one [I ((i:Nat):Int)])]) (λi=>i<=n) (λi=>n - i) (0) ?_ (R0 _) λi p=>?_
 ·exact wC
 obtain⟨t,-,j⟩:=qF (zs:=zs) (c:=c) d (n:=i) ω;by_cases w:i<n
 ·have k:=B1 zs (kJ zs c i).2 (1+(i:Int) / 2) b j ω
  have l:((i:Nat):Int).tdiv 2=(i:Int) / 2:=Int.tdiv_eq_ediv_of_nonneg ω
  repeat'(first|refine gD ?_|(conv=>whnf);first|with_reducible (first|refine CR l ?_|refine CL ω ?_)|refine CH (k) (.inl rfl) ?_|refine CN (aN λ_=>rfl) (λr o=>by rw[Z0.1 o];rfl) (by simp[aU,d4,eB.enc]) (by simp;omega) (by simp only[W0];exact up (by simp;omega) (by decide)) rfl ?_)
  ((conv=>whnf);refine CB (i+1) ω ω ?_)
  repeat'(first|exact trivial|rfl| exact dq _ |exact CI rfl (CI (T0 (C.s d7.own) (by simp[kJ];rfl)) trivial)|refine CI ?_ ?_|(exact xL (by first|omega|(simp only;omega)|(simp;omega))))
 ·obtain rfl:i=n:=ω
  repeat'(first|refine gD ?_|fail)
  refine CE rfl rfl ?_;exact wC
def rfs(h:ab):List Int:=h.Kernel.Refuse
theorem zc(k:af)(p:Int):(ge k p).1.Refuse=k.Refuse:=by unfold ge;split<;>rfl
theorem qH(k:af)(p:Int):∀n,(cK k p n).1.Refuse=k.Refuse
 | 0=>rfl
 | n+1=>by
  unfold cK;split
  ·exact(zc _ _).trans (qH k p n)
  ·exact qH k p n
theorem Kj(h:ab)(i:Nat):rfs (qz h i).1=rfs h:=by unfold qz;split<;>rfl
theorem yO(h:ab)(t c:Nat):rfs (gr h t c).1=rfs h:=by
 unfold gr;split
 ·rfl
 split
 ·rfl
 split
 ·rfl
 split
 ·exact zc _ _
 ·exact(Kj _ _).trans (zc _ _)
theorem Hp(h:ab)(t n:Int):rfs (gp h t n).1=rfs h:=by
 unfold gp;split
 ·rfl
 split
 ·rfl
 split
 ·rfl
 split
 ·rfl
 split
 ·split
  ·exact yO _ _ _
  ·exact yO _ _ _
 ·unfold pL
  split
  ·rfl
  split
  ·exact qH _ _ _
  ·exact((rP _ _ _).2).trans (qH _ _ _)
theorem Jg(h:ab)(t i:Nat):rfs (freeT h t i).1=rfs h:=by
 unfold freeT;split
 ·exact(rP _ _ _).2
 split
 ·rfl
 split
 ·exact(iS t _ _).2.2.2.2.2.2.2
 split<;>rfl
theorem xY(t:Nat)(h:ab):∀k,rfs (flushN t h k).1=rfs h
 | 0=>rfl
 | k+1=>((kC _ (spilt (flushN t h k).1 t k)).2.2.2.2.2.2.2).trans (xY t h k)
theorem Ee{h:ab}(a:bp h [])(b:JI h):∀n,rfs (mY h n).1=rfs h
 | 0=>rfl
 | n+1=>by
  obtain⟨c,d⟩:=Al a b n;unfold mY;split
  ·rename_i e
   unfold tW at e;rw[I0]at e;exact((EQ c e.1).2.2.1).trans (Ee a b n)
  ·exact Ee a b n
theorem HQ{w:bG}{m:Nat}(h:tw w m)(a:eB):rfs (rc w a).1.Heap=rfs w.Heap:=by
 unfold rc;split
 ·exact Hp _ _ _
 split
 ·split
  ·rfl
  unfold pU;split
  ·unfold ur
   split
   ·rfl
   split
   ·exact Jg _ _ _
   ·rfl
  split
  ·unfold qp
   split
   ·rfl
   split
   ·rfl
   split<;>rfl
  ·unfold uw
   split
   ·exact((rP _ _ _).2).trans (v6 _ _ _).2.2
   ·rfl
 split
 ·unfold gU
  split
  ·split<;>rfl
  split
  ·rfl
  split
  ·exact(iS _ _ _).2.2.2.2.2.2.2
  ·exact xY _ _ _
 split
 ·unfold qM
  split
  ·exact(kC _ _).2.2.2.2.2.2.2
  ·rfl
 split
 ·unfold ry
  split
  ·rfl
  ·show rfs (started w.Heap).1=_
   unfold rfs;rw[(BQ h.inv).2.1]
 split
 ·exact Ee h.inv h.ji _
 ·rfl
theorem En{c:cI}(h:Hc c)(acts:List eB):∀n,rfs (A6 c acts n).1.Heap=c.Refuse
 | 0=>rfl
 | n+1=>(HQ (zA h acts n) _).trans (En h acts n)
def p8(w:bG):List C:=bu w.Heap++ax.enc .imm w.Ref
theorem Mb(w:bG):dy (p8 w)=bG.enc .imm w:=by
 unfold p8;rw[eC,bx,<-CW,oO,CW]
 rfl
theorem D8(w:bG)(id:Int)(g:w.Heap.Objs.length<=1048576):aQ Tryz.prog 302 false [.ptr (p8 w),.val none [I id]] [.ptr (p8 w),.val none [I id]] .one [I (q9 w.Heap id)]:=by
 refine fM 28 [] [] [(0,0),(0,0)] Tryz.func302 rfl (λu q=>?_)
 repeat'(first|refine gO ?_|(conv=>whnf);first|refine C9 ?_)
 (conv=>whnf)
 refine CD (ι:=Nat) (λi=>[(0,.hold .box (p8 w)),(1,.hold .one [I (id)]),(5,.hold .one [I ((i:Nat):Int)])]) (λi=>i<=w.Heap.Objs.length/\∀(j:Nat)(z:bB),j<i->w.Heap.Objs[j]? = some z->HU id z=false) (λi=>w.Heap.Objs.length - i) (0) ?_ (⟨R0 _,λj z h=>ω⟩) λi c=>?_
 ·exact wC
 obtain⟨c,b⟩:=c;by_cases d:i<w.Heap.Objs.length
 ·have a:=ah d
  by_cases e:(nth w.Heap.Objs i).Id=id
  ·repeat'(first|refine gA ?_|(conv=>whnf);first|with_reducible refine CA (aa a) ?_|refine C9 ?_|refine CG rfl (aa a) rfl ?_)
   refine CE rfl (T0 (λz=>[I z]) (d6 a (O0 e) b).symm) ?_;exact wC
  ·repeat'(first|refine gA ?_|(conv=>whnf);first|with_reducible refine CA (aa a) ?_|refine C9 ?_|refine CG rfl (aa a) rfl ?_)
   ((conv=>whnf);refine CB (i+1) ⟨ω,cV a (Q0 e) b⟩ ω ?_;(exact wC))
 ·repeat'(first|refine gD ?_|(conv=>whnf);first|refine C9 ?_)
  refine CE rfl (T0 (λz=>[I z]) (eH ω b).symm) ?_;exact wC
theorem cG(y:ab):(bu y).length=24:=rfl
theorem xE(w:bG)(m n:Nat)(h:tw w m)(B:n<=50):aQ Tryz.prog 308 false [.ptr (p8 w),.val none [I (n:Nat)]] [.ptr (p8 ⟨(mY w.Heap n).1,w.Ref⟩),.val none [I (n:Nat)]] .one [I ((mY w.Heap n).2:Nat)]:=by
 refine fM 35 [(368,[2])] [] [(0,0),(0,0)] Tryz.func308 rfl (λu q=>?_)
 repeat'(first|refine gO ?_|(conv=>whnf);first|refine C9 ?_)
 (conv=>whnf)
 refine CD (ι:=Nat) (λi=>[(0,.hold .box (p8 ⟨(mY w.Heap i).1,w.Ref⟩)),(1,.hold .one [I ((n:Nat):Int)]),(5,.hold .one [I (((mY w.Heap i).2:Nat):Int)]),(6,.hold .one [I ((i:Nat):Int)])]) (λi=>i<=n/\(mY w.Heap i).2=i) (λi=>n - i) (0) ?_ (⟨R0 _,rfl⟩) λi l=>?_
 ·exact wC
 obtain⟨l,C⟩:=l;obtain⟨o,D⟩:=Al h.inv h.ji i;have b:mY w.Heap (i+1)=if tW (mY w.Heap i).1=true then(mStep (mY w.Heap i).1,(mY w.Heap i).2+1) else mY w.Heap i:=rfl
 have p:=(aF.1 o.ker).2.2.2.2;by_cases E:i<n
 ·cases c:(mY w.Heap i).1.Meshing with
  | true=>
   have y:=(Ai _ o c).frame (r:=ax.enc .imm w.Ref) ((cG _).trans (cG _).symm);by_cases g:(mY w.Heap i).1.Kernel.Calls<=99000
   ·have d:tW (mY w.Heap i).1=true:=by unfold tW;rw[c,O0 g];rfl
    rw[C8 d]at b;generalize mY w.Heap i=s at *
    repeat'(first|refine gD ?_|(conv=>whnf);first|refine C9 ?_|refine Bf.t (O0 g) ?_|refine Bf.t c ?_|refine CH (y) (.inl rfl) ?_)
    ((conv=>whnf);refine CB (i+1) ⟨ω,by rw[b];simp only;omega⟩ ω ?_)
    rw[b];exact wC
   ·have d:tW (mY w.Heap i).1=false:=by unfold tW;rw[c,Q0 g];rfl
    have a:∀k,mY w.Heap (i+k)=mY w.Heap i:=λk=>by
     induction k with
     | zero=>rfl
     | succ k j=>show(if tW (mY w.Heap (i+k)).1=true then _ else mY w.Heap (i+k))=_;rw[j,d,C7 (by simp)]
    have e:=a (n - i);rw[show i+(n - i)=n by omega]at e;rw[e];generalize mY w.Heap i=s at *
    repeat'(first|refine gD ?_|(conv=>whnf);first|refine C9 ?_|refine Bf.f (Q0 g) ?_|refine Bf.t c ?_)
    refine CE rfl rfl ?_;exact wC
  | false=>
   have d:tW (mY w.Heap i).1=false:=by unfold tW;rw[c];rfl
   have a:∀k,mY w.Heap (i+k)=mY w.Heap i:=λk=>by
    induction k with
    | zero=>rfl
    | succ k j=>show(if tW (mY w.Heap (i+k)).1=true then _ else mY w.Heap (i+k))=_;rw[j,d,C7 (by simp)]
   have e:=a (n - i);rw[show i+(n - i)=n by omega]at e;rw[e];generalize mY w.Heap i=s at *
   repeat'(first|refine gD ?_|(conv=>whnf);first|refine C9 ?_|refine Bf.f c ?_)
   refine CE rfl rfl ?_;exact wC
 ·obtain rfl:i=n:=ω
  repeat'(first|refine gD ?_|(conv=>whnf);first|refine C9 ?_)
  refine CE rfl rfl ?_;exact wC
theorem EZ{k:af}(a:aB k=true):(aB k&&decide (k.Calls<100000))=decide (k.Calls≠100000):=by
 have:=(aF.1 a).2.2.2.2;rw[a,Bool.true_and,Y3,C0,C0];omega
theorem vP(w:bG)(a:eB)(m:Nat)(h:tw w m)(B:a.Kind=5\/a.Kind=6\/a.Kind=7):aQ Tryz.prog 304 false [.ptr (p8 w),.val (some 5) (eB.enc .imm a)] [.ptr (p8 ⟨(gU w.Heap a).1,w.Ref⟩),.val (some 5) (eB.enc .imm a)] .one [I (gU w.Heap a).2]:=by
 have d:=h.inv;have o:=d.nc;have p:w.Heap.Caches.length<=4:=by have:=(dG.1 d.mail).1.2.1;omega
 have C:=kI.of d.mail;have i:=ky w.Heap.Kernel (bF d.ker);rw[EZ d.ker]at i;have j:=aG a.Thread 0 (w.Heap.Caches.length - 1:Int);unfold gU;refine fM 59 [(361,[2,0]),(362,[2,0])] [(3,267,[15,16,17,18,19,20,21,14,22,23,6,0,1,2,3,4,5,6,7,8,9,10,11,1009,12]),(8,15,[30,31,32,33,34,35,36,37,38,39,40,41,42,43,44])] [(0,0),(0,0)] Tryz.func304 rfl (λu q=>?_);by_cases l:a.Kind=5
 ·rw[C8 l]
  by_cases e:0<=a.Thread/\a.Thread<=w.Heap.Caches.length - 1
  ·have y:od w.Heap a:=e
   obtain⟨t,g⟩:=I2 e.1;have b:=B8 w.Heap.Mail t d.mail ω;rw[<-g]at b;rw[g]at e |-;simp only[C2];rw[g]at b;by_cases c:0<(nth w.Heap.Mail.Buffers t).length
   ·rw[C8 (show od w.Heap a/\0<(nth w.Heap.Mail.Buffers t).length from⟨y,c⟩)]
    rw[C8 c,O0 c]at b;rw[<-g]at b
    repeat'(first|refine gA ?_|(conv=>whnf);first|with_reducible refine Bf.E (λk=>?_) (λk=>?_)|refine C9 ?_|refine CF (b) ⟨⟨rfl,aJ.enc_fz w.Heap.Mail⟩,⟨rfl,rfl⟩,trivial⟩ ?_|refine C9 ?_)
    refine CE rfl rfl ?_;exact wC
   ·rw[C7 (show ¬(od w.Heap a/\0<(nth w.Heap.Mail.Buffers t).length) from λx=>c x.2)]
    rw[C7 c,Q0 c]at b;rw[<-g]at b
    repeat'(first|refine gA ?_|(conv=>whnf);first|with_reducible refine Bf.E (λk=>?_) (λk=>?_)|refine C9 ?_|refine CF (b) ⟨⟨rfl,aJ.enc_fz w.Heap.Mail⟩,⟨rfl,rfl⟩,trivial⟩ ?_|refine C9 ?_)
    refine CE rfl rfl ?_;exact wC
  ·rw[C7 (show ¬(od w.Heap a/\0<(nth w.Heap.Mail.Buffers a.Thread.toNat).length) from λx=>e x.1)]
   have b:=El w.Heap.Mail a.Thread d.mail ω
   repeat'(first|refine gA ?_|(conv=>whnf);first|with_reducible refine Bf.E (λk=>?_) (λk=>?_)|refine C9 ?_|refine CF (b) ⟨⟨rfl,aJ.enc_fz w.Heap.Mail⟩,⟨rfl,rfl⟩,trivial⟩ ?_|refine C9 ?_)
   refine CE rfl rfl ?_;exact wC
 rw[C7 l];by_cases e:w.Heap.Kernel.Calls≠100000;rotate_left
 ·rw[C8 (show ¬(w.Heap.Kernel.Calls≠100000/\od w.Heap a) from λx=>e x.1)]
  rw[Q0 e]at i
  repeat'(first|refine gA ?_|(conv=>whnf);first|refine C9 ?_|refine CF (i) ⟨⟨rfl,CP _⟩,trivial⟩ ?_|refine C9 ?_)
  refine CE rfl rfl ?_;exact wC
 rw[O0 e]at i;by_cases c:0<=a.Thread/\a.Thread<=w.Heap.Caches.length - 1;rotate_left
 ·rw[C8 (show ¬(w.Heap.Kernel.Calls≠100000/\od w.Heap a) from λx=>c x.2)]
  rw[Q0 c]at j
  repeat'(first|refine gA ?_|(conv=>whnf);first|refine C9 ?_|refine CF (i) ⟨⟨rfl,CP _⟩,trivial⟩ ?_|refine C6 (j) ?_|refine C9 ?_)
  refine CE rfl rfl ?_;exact wC
 rw[C7 (show ¬¬(w.Heap.Kernel.Calls≠100000/\od w.Heap a) from O3 ⟨e,c⟩)];rw[O0 c]at j;obtain⟨t,g⟩:=I2 c.1;by_cases n:a.Kind=6
 ·rw[C8 n]
  have b:=(uh w.Heap t d ω).frame (r:=ax.enc .imm w.Ref) ((cG _).trans (cG _).symm);rw[show a.Thread.toNat=t by omega];rw[<-g]at b
  repeat'(first|refine gA ?_|(conv=>whnf);first|refine C9 ?_|refine CF (i) ⟨⟨rfl,CP _⟩,trivial⟩ ?_|refine C6 (j) ?_|refine CH (b) (.inl rfl) ?_|refine C9 ?_)
  refine CE rfl rfl ?_;exact wC
 ·rw[C7 n]
  have b:=(xp w.Heap t d ω).frame (r:=ax.enc .imm w.Ref) ((cG _).trans (cG _).symm);rw[show a.Thread.toNat=t by omega];rw[<-g]at b
  repeat'(first|refine gA ?_|(conv=>whnf);first|refine C9 ?_|refine CF (i) ⟨⟨rfl,CP _⟩,trivial⟩ ?_|refine C6 (j) ?_|refine CH (b) (.inl rfl) ?_|refine C9 ?_)
  refine CE rfl rfl ?_;exact wC
theorem wx(w:bG)(a:eB)(i m:Nat)(h:tw w m)(X:m<=900)(G:HL a)(t:i<w.Heap.Objs.length):aQ Tryz.prog 303 false [.ptr (p8 w),.val (some 5) (eB.enc .imm a),.val none [I (i:Nat)]] [.ptr (p8 (pU w a i).1),.val (some 5) (eB.enc .imm a),.val none [I (i:Nat)]] .one [I (pU w a i).2]:=by
 have e:=h.inv;have b:=ah t;have M:=se e (am t);have N:=mC e (am t) (k:=0);have O:1<=(nth w.Heap.Objs i).Size/\(nth w.Heap.Objs i).Size<=1000:=by
  rcases e.oow _ (am t) with⟨s,P,Y,Z⟩|⟨l,H,d,c⟩
  ·have hc:=aE (e.L.sok s P)
   have:=mJ (n:=(nth w.Heap.Objs i).Size) ω;omega
  ·have h8:=co (e.L.lok l H)
   omega
 have g:=ky w.Heap.Kernel (bF e.ker);rw[EZ e.ker]at g;have Q:=G.k;have R:=G.p;have S:=G.v;unfold pU;refine fM 126 [(354,[2,0,0]),(356,[2,0,0]),(358,[2,0,0])] [(6,7,[29,30,31,32,33,34,35]),(8,269,[40,41,42,43,44,45,46,47,39,48,49,50,51,0,1,2,3,4,5,6,7,8,9,10,11,12,13,1010]),(13,10,[62,63,64,65,66,67,68,69,70,71]),(15,273,[76,77,78,79,80,81,82,83,84,85,86,87,75,88,89,90,91,0,1,2,3,4,5,6,7,8,9,10,11,12,13,14,15,16,17,1014]),(17,15,[93,94,95,96,97,98,99,100,101,102,103,104,105,106,107]),(19,271,[112,113,114,115,116,117,118,119,120,121,111,122,123,124,125,0,1,2,3,4,5,6,7,8,9,10,11,12,13,14,15,1012])] [(0,0),(0,0),(0,0)] Tryz.func303 rfl (λu q=>?_);by_cases J:a.Kind=2
 ·rw[C8 J]
  unfold ur;by_cases d:w.Heap.Kernel.Calls=100000
  ·rw[C8 d]
   rw[Q0 (O3 d)]at g
   repeat'(first|refine gA ?_|(conv=>whnf);first|with_reducible refine CA (aa b) ?_|refine C9 ?_|refine CF (g) ⟨⟨rfl,CP _⟩,trivial⟩ ?_|refine CG rfl (aa b) rfl ?_|refine C9 ?_)
   refine CE rfl rfl ?_;exact wC
  rw[C7 d];rw[O0 d]at g;have C:=(LR w.Heap i a.Thread e t).frame (r:=ax.enc .imm w.Ref) ((cG _).trans (cG _).symm);by_cases c:0<=a.Thread/\a.Thread<=w.Heap.Caches.length - 1
  ·rw[C8 (show od w.Heap a from c)]
   rw[C8 c,C8 c]at C;have T:=yU w.Ref (nth w.Heap.Objs i).Id m h.ref ω;generalize freeT w.Heap a.Thread.toNat i=f at C |-;by_cases o:f.2=0
   ·rw[C8 o]
    repeat'(first|refine gA ?_|(conv=>whnf);first|with_reducible (first|refine CA (aa b) ?_|refine Bf.E (λj=>?_) (λj=>?_))|refine C9 ?_|refine CF (g) ⟨⟨rfl,CP _⟩,trivial⟩ ?_|refine CG rfl (aa b) rfl ?_|refine CH (C) (.inl rfl) ?_|refine Cl.sh T rfl ?_|refine C9 ?_)
    refine CE rfl rfl ?_;exact wC
   ·rw[C7 o]
    repeat'(first|refine gA ?_|(conv=>whnf);first|with_reducible (first|refine CA (aa b) ?_|refine Bf.E (λj=>?_) (λj=>?_))|refine C9 ?_|refine CF (g) ⟨⟨rfl,CP _⟩,trivial⟩ ?_|refine CG rfl (aa b) rfl ?_|refine CH (C) (.inl rfl) ?_|refine C9 ?_)
    refine CE rfl rfl ?_;exact wC
  ·rw[C7 (show ¬od w.Heap a from c)]
   rw[C7 c,C7 c]at C
   repeat'(first|refine gA ?_|(conv=>whnf);first|with_reducible (first|refine CA (aa b) ?_|refine Bf.E (λj=>?_) (λj=>?_))|refine C9 ?_|refine CF (g) ⟨⟨rfl,CP _⟩,trivial⟩ ?_|refine CG rfl (aa b) rfl ?_|refine CH (C) (.inl rfl) ?_|refine C9 ?_)
   refine CE rfl rfl ?_;exact wC
 rw[C7 J];by_cases K:a.Kind=3
 ·rw[C8 K]
  unfold qp;have D:=aG a.At 0 ((nth w.Heap.Objs i).Size - 1);by_cases d:0<=a.At/\a.At<=(nth w.Heap.Objs i).Size - 1;rotate_left
  ·rw[C8 d]
   rw[Q0 d]at D
   repeat'(first|refine gA ?_|(conv=>whnf);first|with_reducible (first|refine CA (aa b) ?_|refine Bf.E (λj=>?_) (λj=>?_))|refine C9 ?_|refine CG rfl (aa b) rfl ?_|refine C6 (D) ?_|refine C9 ?_)
   refine CE rfl rfl ?_;exact wC
  rw[C7 (O3 d)];rw[O0 d]at D;have F:=(x3 w.Heap i a.At a.Value e t d).frame (r:=ax.enc .imm w.Ref) (by split<;>rfl);have U:=mC e (am t) d;by_cases c:(ar w.Heap.Kernel.Machine.Table (((nth w.Heap.Objs i).Addr+a.At) / 16)).Mode=1
  ·rw[C8 c]
   rw[C8 (.inl c),C8 c]at F
   repeat'(first|refine gA ?_|(conv=>whnf);first|with_reducible (first|refine CA (aa b) ?_|refine Bf.E (λj=>?_) (λj=>?_))|refine C9 ?_|refine CG rfl (aa b) rfl ?_|refine C6 (D) ?_|refine CH (F) (.inl rfl) ?_|refine C9 ?_)
   refine CE rfl rfl ?_;exact wC
  rw[C7 c];by_cases o:0<=a.Value/\a.Value<=999;rotate_left
  ·rw[C8 o]
   rw[C8 (.inr o),C7 c,C8 o]at F
   repeat'(first|refine gA ?_|(conv=>whnf);first|with_reducible (first|refine CA (aa b) ?_|refine Bf.E (λj=>?_) (λj=>?_))|refine C9 ?_|refine CG rfl (aa b) rfl ?_|refine C6 (D) ?_|refine CH (F) (.inl rfl) ?_|refine C9 ?_)
   refine CE rfl rfl ?_;exact wC
  rw[C7 (O3 o)];rw[C7 (λx=>x.elim c λy=>y o),C7 c,C7 (O3 o)]at F;obtain⟨b5,V⟩:=Az w.Ref (nth w.Heap.Objs i).Id a.At a.Value m h.ref ω o
  repeat'(first|refine gA ?_|(conv=>whnf);first|with_reducible (first|refine CA (aa b) ?_|refine Bf.E (λj=>?_) (λj=>?_))|refine C9 ?_|refine CG rfl (aa b) rfl ?_|refine C6 (D) ?_|refine CH (F) (.inl rfl) ?_|refine C6 (V) ?_|refine C9 ?_)
  refine CE rfl rfl ?_;exact wC
 rw[C7 K];unfold uw;by_cases d:w.Heap.Kernel.Calls=100000
 ·rw[C7 (λx=>x.1 d)]
  rw[Q0 (O3 d)]at g
  repeat'(first|refine gA ?_|(conv=>whnf);first|with_reducible refine CA (aa b) ?_|refine C9 ?_|refine CF (g) ⟨⟨rfl,CP _⟩,trivial⟩ ?_|refine CG rfl (aa b) rfl ?_|refine C9 ?_)
  refine CE rfl rfl ?_;exact wC
 rw[O0 d]at g;by_cases c:kD w.Heap i a.Value
 ·rw[C8 ⟨d,c⟩]
  have B:=(qW w.Heap i a.Value e t c.1).frame (r:=ax.enc .imm w.Ref) (by split<;>rfl);rw[C8 c,O0 c]at B;obtain⟨b7,W⟩:=AZ w.Ref (nth w.Heap.Objs i).Id a.Value m h.ref ω
  repeat'(first|refine gA ?_|(conv=>whnf);first|with_reducible refine CA (aa b) ?_|refine C9 ?_|refine CF (g) ⟨⟨rfl,CP _⟩,trivial⟩ ?_|refine CG rfl (aa b) rfl ?_|refine CH (B) (.inl rfl) ?_|refine C6 (W) ?_|refine C9 ?_)
  refine CE rfl rfl ?_;exact wC
 ·rw[C7 (λx=>c x.2)]
  by_cases o:xj w.Heap (nth w.Heap.Objs i).Addr<0
  ·have B:=(Eu w.Heap (nth w.Heap.Objs i).Addr a.Value (by have:=e.lens.larges;omega) e.L.lok o).frame (r:=ax.enc .imm w.Ref) ((cG _).trans (cG _).symm)
   repeat'(first|refine gA ?_|(conv=>whnf);first|with_reducible refine CA (aa b) ?_|refine C9 ?_|refine CF (g) ⟨⟨rfl,CP _⟩,trivial⟩ ?_|refine CG rfl (aa b) rfl ?_|refine CH (B) (.inl rfl) ?_|refine C9 ?_)
   refine CE rfl rfl ?_;exact wC
  ·have B:=(qW w.Heap i a.Value e t ω).frame (r:=ax.enc .imm w.Ref) (by split<;>rfl)
   rw[C7 c,Q0 c]at B
   repeat'(first|refine gA ?_|(conv=>whnf);first|with_reducible refine CA (aa b) ?_|refine C9 ?_|refine CF (g) ⟨⟨rfl,CP _⟩,trivial⟩ ?_|refine CG rfl (aa b) rfl ?_|refine CH (B) (.inl rfl) ?_|refine C9 ?_)
   refine CE rfl rfl ?_;exact wC
theorem tw.fit{w:bG}{m:Nat}(h:tw w m)(a:iJ w.Heap.Kernel.Refuse):ab.sml w.Heap/\ab.wf w.Heap:=
 ⟨(h.inv.fit a (kI.of h.inv.mail).sml).sml,h.inv.wf a⟩
theorem EY(w:bG)(a:eB)(m:Nat)(h:tw w m)(K:m<=900)(L:iJ w.Heap.Kernel.Refuse)(p:HL a):aQ Tryz.prog 240 false [.ptr (p8 w),.val (some 5) (eB.enc .imm a)] [.ptr (p8 (rc w a).1),.val (some 5) (eB.enc .imm a)] .one [I (rc w a).2]:=by
 have i:=h.inv;have M:=p.k;have O:=p.n;have j:=i.nums;unfold cb at j;rw[C0]at j;unfold rc;refine fM 123 [(143,[2,0,0]),(302,[2,0]),(303,[2,0,0]),(304,[2,0]),(306,[2,0]),(307,[2]),(308,[2,0])] [(3,265,[13,14,15,16,17,18,19,21,22,0,1,2,3,4,5,6,7,8,9,10,11,1010,12]),(5,269,[26,27,28,29,30,31,32,33,25,34,35,36,37,0,1,2,3,4,5,6,7,8,9,10,11,12,13,1010]),(19,21,[62,63,64,65,66,67,68,69,70,71,72,73,74,75,76,77,78,79,80,81,82]),(21,5,[86,87,88,89,90])] [(0,0),(0,0)] Tryz.func240 rfl (λu q=>?_);by_cases F:a.Kind=1
 ·rw[C8 F]
  have c:=(xH w.Heap a.Thread a.N i).frame (r:=ax.enc .imm w.Ref) ((cG _).trans (cG _).symm);by_cases e:(gp w.Heap a.Thread a.N).2.2=0
  ·rw[C8 e]
   have y:1<=a.N/\a.N<=1000:=by
    refine Classical.byContradiction λB=>?_
    unfold gp at e;rw[C8 B]at e;split at e
    ·exact absurd (show(5:Int)=0 from e) (by decide)
    split at e
    ·exact absurd (show(1:Int)=0 from e) (by decide)
    exact absurd (show(2:Int)=0 from e) (by decide)
   have o:=xc w.Ref a.N m h.ref ω y;generalize gp w.Heap a.Thread a.N=f at c e |-
   repeat'(first|refine gA ?_|(conv=>whnf);first|with_reducible refine Bf.E (λb=>?_) (λb=>?_)|refine C9 ?_|refine CH (c) (.inl rfl) ?_|refine C6 (o) ?_|refine C9 ?_)
   refine CE rfl rfl ?_;exact wC
  ·rw[C7 e]
   generalize gp w.Heap a.Thread a.N=f at c e |-
   repeat'(first|refine gA ?_|(conv=>whnf);first|with_reducible refine Bf.E (λb=>?_) (λb=>?_)|refine C9 ?_|refine CH (c) (.inl rfl) ?_|refine C9 ?_)
   refine CE rfl rfl ?_;exact wC
 rw[C7 F];by_cases G:a.Kind=2\/a.Kind=3\/a.Kind=4
 ·rw[C8 G]
  have c:=D8 w a.N (by have:=i.lens.objs;omega);by_cases e:q9 w.Heap a.N<0
  ·rw[C8 e]
   repeat'(first|refine gA ?_|(conv=>whnf);first|with_reducible refine Bf.E (λb=>?_) (λb=>?_)|refine C9 ?_|refine CH (c) (.inl rfl) ?_)
   all_goals first|omega|skip
   all_goals
    refine CE rfl rfl ?_;exact wC
  ·rw[C7 e]
   obtain⟨P,S,T⟩:=fU (HU a.N) w.Heap.Objs (by unfold q9 at e;omega);have o:=wx w a (q9 w.Heap a.N).toNat m h K p P;rw[show(((q9 w.Heap a.N).toNat:Nat):Int)=q9 w.Heap a.N by omega]at o
   repeat'(first|refine gA ?_|(conv=>whnf);first|with_reducible refine Bf.E (λb=>?_) (λb=>?_)|refine C9 ?_|refine CH (c) (.inl rfl) ?_|refine CH (o) (.inl rfl) ?_)
   all_goals first|omega|skip
   all_goals
    refine CE rfl rfl ?_;exact wC
 rw[C7 G];by_cases C:a.Kind=5\/a.Kind=6\/a.Kind=7
 ·rw[C8 C]
  have c:=vP w a m h C
  repeat'(first|refine gA ?_|(conv=>whnf);first|with_reducible refine Bf.E (λb=>?_) (λb=>?_)|refine C9 ?_|refine CH (c) (.inl rfl) ?_)
  all_goals first|omega|skip
  all_goals
   refine CE rfl rfl ?_;exact wC
 rw[C7 C];by_cases H:a.Kind=8
 ·rw[C8 H]
  unfold qM;have d:=ky w.Heap.Kernel (bF i.ker);rw[EZ i.ker]at d;have c:=aG a.N 0 1000;by_cases g:w.Heap.Kernel.Calls≠100000;rotate_left
  ·rw[C7 (λx=>g x.1)]
   rw[Q0 g]at d
   repeat'(first|refine gA ?_|(conv=>whnf);first|with_reducible refine Bf.E (λb=>?_) (λb=>?_)|refine C9 ?_|refine CF (d) ⟨⟨rfl,CP _⟩,trivial⟩ ?_|refine C9 ?_)
   refine CE rfl rfl ?_;exact wC
  rw[O0 g]at d;by_cases l:0<=a.N/\a.N<=1000;rotate_left
  ·rw[C7 (λx=>l x.2.1)]
   rw[Q0 l]at c
   repeat'(first|refine gA ?_|(conv=>whnf);first|with_reducible refine Bf.E (λb=>?_) (λb=>?_)|refine C9 ?_|refine CF (d) ⟨⟨rfl,CP _⟩,trivial⟩ ?_|refine C6 (c) ?_|refine C9 ?_)
   refine CE rfl rfl ?_;exact wC
  rw[O0 l]at c;by_cases D:w.Heap.Clock+a.N<=1000000
  ·rw[C8 ⟨g,l,D⟩]
   have o:=(A2 w.Heap a.N i l D).frame (r:=ax.enc .imm w.Ref) ((cG _).trans (cG _).symm)
   repeat'(first|refine gA ?_|(conv=>whnf);first|with_reducible refine Bf.E (λb=>?_) (λb=>?_)|refine C9 ?_|refine CF (d) ⟨⟨rfl,CP _⟩,trivial⟩ ?_|refine C6 (c) ?_|refine CH (o) (.inl rfl) ?_|refine C9 ?_)
   refine CE rfl rfl ?_;exact wC
  ·rw[C7 (λx=>D x.2.2)]
   repeat'(first|refine gA ?_|(conv=>whnf);first|with_reducible refine Bf.E (λb=>?_) (λb=>?_)|refine C9 ?_|refine CF (d) ⟨⟨rfl,CP _⟩,trivial⟩ ?_|refine C6 (c) ?_|refine C9 ?_)
   refine CE rfl rfl ?_;exact wC
 rw[C7 H];by_cases J:a.Kind=9
 ·rw[C8 J]
  unfold ry;obtain⟨Q,R⟩:=h.fit L;have d:=Dk w.Heap Q R;rw[show dD w.Heap=true from i.to]at d;cases g:w.Heap.Meshing with
  | true=>
   rw[C8 rfl]
   repeat'(first|refine gA ?_|(conv=>whnf);first|with_reducible refine Bf.E (λb=>?_) (λb=>?_)|refine C9 ?_|refine Bf.t g ?_|refine C9 ?_)
   refine CE rfl rfl ?_;exact wC
  | false=>
   rw[C7 (by simp)];have c:=(x9 w.Heap i).frame (r:=ax.enc .imm w.Ref) ((cG _).trans (cG _).symm);cases l:(started w.Heap).2<;>rw[l]at c
   ·rw[C7 (by simp)]
    repeat'(first|refine gA ?_|(conv=>whnf);first|with_reducible refine Bf.E (λb=>?_) (λb=>?_)|refine C9 ?_|refine Bf.f g ?_|refine CF (d) ⟨⟨rfl,bx w.Heap⟩,trivial⟩ ?_|refine CH (c) (.inl rfl) ?_|refine C9 ?_)
    refine CE rfl rfl ?_;exact wC
   ·rw[C8 rfl]
    repeat'(first|refine gA ?_|(conv=>whnf);first|with_reducible refine Bf.E (λb=>?_) (λb=>?_)|refine C9 ?_|refine Bf.f g ?_|refine CF (d) ⟨⟨rfl,bx w.Heap⟩,trivial⟩ ?_|refine CH (c) (.inl rfl) ?_|refine C9 ?_)
    refine CE rfl rfl ?_;exact wC
 rw[C7 J];have k10:a.Kind=10:=ω
 have d:=aG a.N 0 50;by_cases g:0<=a.N/\a.N<=50
 ·rw[C8 ⟨k10,g⟩]
  rw[O0 g]at d;obtain⟨n,B⟩:=I2 g.1;have c:=xE w m n h ω;rw[show a.N.toNat=n by omega];rw[<-B]at c
  repeat'(first|refine gA ?_|(conv=>whnf);first|with_reducible refine Bf.E (λb=>?_) (λb=>?_)|refine C9 ?_|refine C6 (d) ?_|refine CH (c) (.inl rfl) ?_|refine C9 ?_)
  refine CE rfl rfl ?_;exact wC
 ·rw[C7 (λx=>g x.2)]
  rw[Q0 g]at d
  repeat'(first|refine gA ?_|(conv=>whnf);first|with_reducible refine Bf.E (λb=>?_) (λb=>?_)|refine C9 ?_|refine C6 (d) ?_|refine C9 ?_)
  refine CE rfl rfl ?_;exact wC
theorem yQ(w:bG)(h1:ab.sml w.Heap)(a:ax.sml w.Ref):ao Tryz.prog 241 false [.val (some 26) (bG.enc .imm w)] .agg (bG.enc .own w):=by
 have b:=z8 w.Heap h1;have c:=dK w.Ref a;refine fO 10 [(1,5,[3,4,5,6,7])] Tryz.func241 rfl ?_ (.inr (bG.enc_fr _))
 repeat'(first|refine gO ?_|(conv=>whnf);first|refine C6 (b) ?_|refine C6 (c) ?_|refine C9 ?_)
 rfl
theorem ze(c:cI)(acts:List eB)(h:Hc c)(d:iJ c.Refuse)(n:∀a∈acts,HL a)(D:acts.length<=80):ao Tryz.prog 149 false [.val (some 5) (cI.enc .imm c),.val none (n9 .imm acts)] (.tup [some 26,none]) (bG.enc .own (A6 c acts acts.length).1++aD .own (A6 c acts acts.length).2):=by
 have o:=x4 c h;refine fP 42 [(240,[2,0]),(2000005,[6,21,25])] [] Tryz.func149 rfl ?_ (.inr (aY (bG.enc_fr _) (bC _)))
 repeat'(first|refine gD ?_|(conv=>whnf);first|refine C6 (o) ?_|refine r6.mk rfl rfl rfl ?_)
 (conv=>whnf)
 refine CD (ι:=Nat) (λi=>[(1,.hold .one (n9 .imm acts)),(4,.hold .box [.z,.z,.z,I 0,.z,.z,.z,.z,.z,.z,.z,.z,I 0,.z,I 0,I 0,I 0,I 0,B false,I 0,I 0,.z,I 0,I 0,I 0,.z]),(6,.hold .box (p8 (A6 c acts i).1)),(8,.hold .one (aD .own (A6 c acts i).2)),(9,.hold .one [I ((i:Nat):Int)])]) (λi=>i<=acts.length) (λi=>acts.length - i) (0) ?_ (R0 _) λi p=>?_
 ·repeat'(first|exact trivial|rfl |exact kX q|exact dq _|refine CI ?_ ?_|(exact xL (by first|omega|(simp only;omega)|(simp;omega))))
 have e:=zA h acts i;have b:=En h acts i;have g:(A6 c acts i).2.length=i:=by
  clear e b p
  induction i with
  | zero=>rfl
  | succ k t=>show((A6 c acts k).2++[_]).length=_;rw[U2,t];rfl
 by_cases j:i<acts.length
 ·have l:=ah j
  have u:=EY (A6 c acts i).1 (nth acts i) i e ω (by unfold rfs at b;rw[b];exact d) (n _ (am j))
  repeat'(first|refine gD ?_|(conv=>whnf);first|with_reducible refine CA (aa l) ?_|refine CG rfl (aa l) rfl ?_|refine CH (u) (.inl rfl) ?_|refine CN bW (λr d=>by rw[Z0.1 d];rfl) (by simp[aU,d4]) (by simp;omega) (by simp only[W0];exact up (by simp;omega) (by decide)) rfl ?_)
  ((conv=>whnf);refine CB (i+1) ω ω ?_)
  repeat'(first|exact trivial|rfl| exact dq _ |exact CI rfl (CI (T0 (C.s d7.own) (by simp[A6,rI])) trivial)|refine CI ?_ ?_|(exact xL (by first|omega|(simp only;omega)|(simp;omega))))
 ·obtain rfl:i=acts.length:=ω
  have w:=e.fit (by unfold rfs at b;rw[b];exact d);have y:=yQ (A6 c acts acts.length).1 w.1 (e.ref.sml ω)
  repeat'(first|refine gD ?_|(conv=>whnf);first|refine CF (y) ⟨⟨rfl,Mb _⟩,trivial⟩ ?_)
  rfl
theorem DH(zs:List Int)(c:gV):iJ (pv zs c).Refuse:=by
 show iJ (nI zs 4 0 [] (Ar zs c).2).1;have key:∀(f i:Nat)(out:List Int)(c:gV),(∀x∈out,lP x)->∀x∈(nI zs f i out c).1,lP x:=by
  intro f
  induction f with
  | zero=>intro i out c h;exact h
  | succ f b=>
   intro i out c h;unfold nI;split
   ·refine b _ _ _ λx a=>?_
    rcases O2.1 a with a|a
    ·exact h x a
    ·rw[Z0.1 a]
     have:=bA zs (bq zs c 4).2 (n:=12) (by decide);exact⟨ω,ω⟩
   ·exact h
 exact⟨by
   have d:∀(f i:Nat)(out:List Int)(c:gV),out.length+f<=4->(nI zs f i out c).1.length<=4:=by
     intro f
     induction f with
     | zero=>intro i out c h;exact h
     | succ f b=>
       intro i out c h;unfold nI;split
       · exact b _ _ _ (by simp only[U2,List.length_singleton];omega)
       · show out.length<=4;omega
   have:=d 4 0 [] (Ar zs c).2 (Q2 _);omega,key 4 0 [] _ (λx a=>by cases a)⟩
theorem xx(zs:List Int)(a:iD zs):aQ Tryz.prog 61 false [.ptr (gG zs (rY zs))] [.ptr (gG zs (mP zs (eY zs)).2)] .agg (bG.enc .own (drawn zs)):=by
 have b:(rY zs).i<=zs.length:=R0 _;obtain⟨g,d⟩:=wO b;have o:=bA zs (eY zs) (n:=41) (by decide);obtain⟨p,h,-⟩:=qF (zs:=zs) (c:=eY zs) d (n:=(bq zs (eY zs) 41).1.toNat) ω;have e:=vM zs (rY zs) a b;have j:=yV zs (eY zs) a d;have k:=ze (pv zs (rY zs)) (mP zs (eY zs)).1 g (DH zs _) h (by show(kJ zs (eY zs) _).1.length<=80;omega);have l:drawn zs=(A6 (pv zs (rY zs)) (mP zs (eY zs)).1 (mP zs (eY zs)).1.length).1:=rfl;rw[l];change aQ _ _ _ _ [.ptr (gG zs (eY zs))] _ _ at e;generalize pv zs (rY zs)=cf at *;generalize r:mP zs (eY zs)=A at *;generalize t:A6 cf A.1 A.1.length=R at *;refine fM 14 [(150,[2]),(151,[2,0])] [] [(0,0)] Tryz.func61 rfl (λu q=>?_) (.inr (bG.enc_fr _))
 repeat'(first|refine gO ?_|(conv=>whnf);first|refine CH (e) (.inl rfl) ?_|refine CH (j) (.inl rfl) ?_|refine CF (k) ⟨⟨rfl,cI.enc_fz _⟩,⟨rfl,G8 _⟩,trivial⟩ ?_)
 refine CE rfl rfl ?_;exact wC
def Ns(z:List Int):List C:=[.s .imm (z.map rU)]
theorem sW(zs:List Int)(b:iD zs):pW Tryz.prog 62 true [.val none (Ns zs)] .box (gG zs (rY zs)):=by
 have r:=b.1;have e:IntKind.i64.wrap (98801+(zs.length:Nat))=w64 (98801+(zs.length:Nat)):=rfl;have g:oR zs 0=98801+(zs.length:Nat):=by show w64 _=_;rw[<-e];exact ef ω ω
 have a:=T0 I g;refine NJ (n:=32) (t:=2) (mo:=[]) (tb:=[]) Tryz.func62 (by kernel_rfl) rfl (by kernel_rfl) (by rfl) rfl ?_
 repeat'(first|refine gO ?_|fail)
 (conv=>whnf)
 refine CD (ι:=Nat) (λi=>[(0,.hold .one (Ns zs)),(3,.hold .one [I (oR zs i)]),(4,.hold .one [I ((i:Nat):Int)])]) (λi=>i<=min zs.length 4000) (λi=>min zs.length 4000 - i) (0) ?_ (R0 _) λi u=>?_
 ·repeat'(first|exact trivial|rfl |exact kX a|exact dq _|refine CI ?_ ?_|(exact xL (by first|omega|(simp only;omega)|(simp;omega))))
 have h:IntKind.i64.wrap (oR zs i*131)=w64 (oR zs i*131):=rfl;have j:IntKind.i64.wrap (w64 (oR zs i*131)+nth zs i)=w64 (w64 (oR zs i*131)+nth zs i):=rfl;have k:IntKind.i64.wrap (w64 (w64 (oR zs i*131)+nth zs i)+7)=w64 (w64 (w64 (oR zs i*131)+nth zs i)+7):=rfl;have l:IntKind.i64.wrap (BitVec.ofInt IntKind.i64.bits (w64 (w64 (w64 (oR zs i*131)+nth zs i)+7)) &&& BitVec.ofInt IntKind.i64.bits 1073741823).toNat=oR zs (i+1):=rfl;by_cases c:i<zs.length/\i<4000
 ·have d:=ah c.1
  have w:=b.2 _ (am c.1);generalize oR zs i=H at *;generalize o:oR zs (i+1)=H2 at *
  repeat'(first|refine gD ?_|(conv=>whnf);first|with_reducible (first|refine CA (aa d) ?_|refine CJ h ?_|refine CJ j ?_|refine CJ k ?_|refine CJ l ?_)|refine CG rfl (aa d) rfl ?_)
  ((conv=>whnf);refine CB (i+1) ω ω ?_)
  rw[o];exact wC
 ·obtain rfl:i=min zs.length 4000:=ω
  have p:rY zs = ⟨0,oR zs (min zs.length 4000)⟩:=rfl;rw[p];generalize oR zs (min zs.length 4000)=H at *
  repeat'(first|refine gD ?_|(conv=>whnf);first|with_reducible refine Bf.D (λq=>?_) (λq=>?_))
  all_goals rfl
theorem uJ(zs:List Int)(a:iD zs):ao Tryz.prog 16 false [.val none (Ns zs)] .agg (bG.enc .own (drawn zs)):=by
 have b:=sW zs a;have c:=xx zs a;refine fP 6 [(61,[2])] [] Tryz.func16 rfl ?_ (.inr (bG.enc_fr _))
 repeat'(first|refine gO ?_|(conv=>whnf);first|refine Cl.g b (.inr rfl) ?_|refine CH (c) (.inl rfl) ?_)
 rfl
set_option maxHeartbeats 2000000
set_option maxHeartbeats 2000000
set_option maxHeartbeats 2000000
set_option maxHeartbeats 2000000
set_option maxHeartbeats 2000000
set_option maxHeartbeats 2000000
theorem Ks(zs:List Int):iJ (drawn zs).Heap.Kernel.Refuse:=by
 have a:(rY zs).i<=zs.length:=R0 _;have:=En (wO a).1 (mP zs (eY zs)).1 (mP zs (eY zs)).1.length;unfold rfs at this;show iJ (A6 _ _ _).1.Heap.Kernel.Refuse;rw[this];exact DH zs _
theorem Hf(zs:List Int):ab.sml (drawn zs).Heap/\ab.wf (drawn zs).Heap:=(Bl zs).fit (Ks zs)
theorem Nk(zs:List Int)(a:zs.length<=9223372036854775807):ao Tryz.prog 15 false [.val none (Ns zs)] .one [B (decide ((zs.length:Int) > 1048576))]:=by
 refine fO 6 [] Tryz.func15 rfl ?_
 repeat'(first|refine gO ?_|fail)
 rfl
def qv(zs:List Int):Nat->List Int × gV
 | 0=>([],rY zs)
 | n+1=>((qv zs n).1++[(bq zs (qv zs n).2 10000).1],(bq zs (qv zs n).2 10000).2)
theorem zt(zs:List Int):∀n,(qv zs n).2.i<=zs.length/\(qv zs n).1.length=n/\∀x∈(qv zs n).1,0<=x/\x<10000
 | 0=>⟨R0 _,rfl,λx a=>by cases a⟩
 | n+1=>by
  obtain⟨b,c,d⟩:=zt zs n;refine⟨bK b _,by show((qv zs n).1++[_]).length=_;rw[U2,c];rfl,λx a=>?_⟩;rcases O2.1 a with a|a
  ·exact d x a
  ·rw[Z0.1 a]
   exact bA zs (qv zs n).2 (n:=10000) (by decide)
theorem tR(zs:List Int)(a:iD zs):ao Tryz.prog 23 false [.val none (Ns zs)] .one (aD .own (qv zs 12).1):=by
 have b:=sW zs a;refine fP 19 [(92,[2,0]),(3000003,[])] [] Tryz.func23 rfl ?_ (.inr (bC _))
 repeat'(first|refine gO ?_|(conv=>whnf);first|refine Cl.g b (.inr rfl) ?_)
 (conv=>whnf)
 refine CD (ι:=Nat) (λi=>[(0,.hold .one (Ns zs)),(3,.hold .box (gG zs (qv zs i).2)),(4,.hold .one (aD .own (qv zs i).1)),(5,.hold .one [I ((i:Nat):Int)])]) (λi=>i<=12) (λi=>12 - i) (0) ?_ (R0 _) λi j=>?_
 ·repeat'(first|exact trivial|rfl |exact kX c|exact dq _|refine CI ?_ ?_|(exact xL (by first|omega|(simp only;omega)|(simp;omega))))
 obtain⟨d,k,-⟩:=zt zs i;by_cases l:i<12
 ·have e:=bH zs (qv zs i).2 10000 a d (by decide)
  repeat'(first|refine gD ?_|(conv=>whnf);first|refine CH (e) (.inl rfl) ?_|refine CN bW (λr h=>by rw[Z0.1 h];rfl) (by simp[aU,d4]) (by simp;omega) (by simp only[W0];exact up (by simp;omega) (by decide)) rfl ?_)
  ((conv=>whnf);refine CB (i+1) ω ω ?_)
  repeat'(first|exact trivial|rfl| exact dq _ |exact kX (T0 (C.s d7.own) (by simp[qv,rI]))|refine CI ?_ ?_|(exact xL (by first|omega|(simp only;omega)|(simp;omega))))
 ·obtain rfl:i=12:=ω
  repeat'(first|refine gD ?_|fail)
  rfl
theorem B6(a:List Int)(d:a.length<=1048576):ao Tryz.prog 24 false [.val none (aD .imm a),.val none (aD .imm a)] .one [B true]:=by
 refine fO 26 [(6,8,[17,18,19,20,21,22,23,24])] Tryz.func24 rfl ?_
 repeat'(first|refine gA ?_|fail)
 (conv=>whnf)
 refine CD (ι:=Nat) (λi=>[(0,.hold .one (aD .imm a)),(1,.hold .one (aD .imm a)),(5,.hold .one [I ((i:Nat):Int)])]) (λi=>i<=a.length) (λi=>a.length - i) (0) ?_ (R0 _) λi e=>?_
 ·exact wC
 by_cases b:i<a.length
 ·have c:=ah b
  repeat'(first|refine gA ?_|(conv=>whnf);first|with_reducible refine CA (aa c) ?_)
  ((conv=>whnf);refine CB (i+1) ω ω ?_;(exact wC))
 ·repeat'(first|refine gD ?_|fail)
  rfl
set_option maxHeartbeats 1000000
def NG(h:ab)(a:Int):Bool:=(decide (cy (eR a) h.Objs<0)&&(!h.Caches.any (dz a)&&(!h.Quar.Lst.any (cB a)&&!decide (a∈aC h.Mail))))
def Hk(h:ab)(L:List Int)(n:Nat):List Int:=(L.take n).filter (NG h)
theorem Ll{h:ab}{L:List Int}{n:Nat}{a:Int}(b:L[n]? = some a)(e:NG h a=true):Hk h L (n+1)=Hk h L n++[a]:=by
 unfold Hk;rw[O4,b,List.filter_append];simp[e]
theorem MV{h:ab}{L:List Int}{n:Nat}{a:Int}(b:L[n]? = some a)(e:NG h a=false):Hk h L (n+1)=Hk h L n:=by
 unfold Hk;rw[O4,b,List.filter_append];simp[e]
theorem Ld(h:ab)(L:List Int)(n:Nat):(Hk h L n).length<=n:=by
 unfold Hk;exact Z3 (List.length_filter_le _ _) (by rw[I1];omega)
theorem GR(h:ab)(J:ab.sml h)(K:bc h.Spans h.Larges=true)(M:bz h.Mail=true)(N:(cT h.Spans h.Larges).length<=4096):ao Tryz.prog 21 false [.val (some 24) (ab.enc .imm h)] .one (aD .own (Hk h (cT h.Spans h.Larges) (cT h.Spans h.Larges).length)):=by
 have O:=io M;obtain⟨-,-,t,u,⟨w,-⟩,⟨P,c⟩,B,E,-⟩:=J;have F:h.Quar.Lst.length<=1048576:=E.1;have Q:=ka h.Spans h.Larges t u K;refine fO 53 [] Tryz.func21 rfl ?_ (.inr (bC _))
 repeat'(first|refine gO ?_|(conv=>whnf);first|refine C9 ?_|refine C6 (Q) ?_|refine C6 (iR h.Mail B) ?_)
 (conv=>whnf)
 refine CD (ι:=Nat) (λi=>[(1,.hold .box (ab.enc .imm h)),(3,.hold .one (aD .own (Hk h (cT h.Spans h.Larges) i))),(4,.hold .one (aD .own (aC h.Mail))),(16,.hold .one (aD .own (cT h.Spans h.Larges))),(17,.hold .one [I ((cT h.Spans h.Larges).length)]),(18,.hold .one [I ((i:Nat):Int)])]) (λi=>i<=(cT h.Spans h.Larges).length) (λi=>(cT h.Spans h.Larges).length - i) (0) ?_ (R0 _) λi Z=>?_
 ·repeat'(first|exact trivial|rfl |exact kX R|exact dq _|refine CI ?_ ?_|(exact xL (by first|omega|(simp only;omega)|(simp;omega))))
 have S:=Ld h (cT h.Spans h.Larges) i;by_cases T:i<(cT h.Spans h.Larges).length
 ·have d:=ah T
  have b:=λe=>Ll (h:=h) d e
  have g:=λe=>MV (h:=h) d e
  generalize nth (cT h.Spans h.Larges) i=a at d b g;unfold NG at b g;have p:=tL h a w;have o:=kh h.Caches (dz a) ω;have q:=ro h.Quar a F;have G:=jM (aC h.Mail) a ω;by_cases H:cy (eR a) h.Objs<0
  ·rw[O0 H]at b g
   cases U:h.Caches.any (dz a)<;>rw[U]at o b g
   ·cases V:h.Quar.Lst.any (cB a)<;>rw[V]at q b g
    ·cases W:decide (a∈aC h.Mail)<;>rw[W]at G b g
     ·have j:=b rfl
      repeat'(first|refine gD ?_|(conv=>whnf);first|with_reducible refine CA (aa d) ?_|refine C9 ?_|refine CG rfl (aa d) rfl ?_|refine Cq.mk (oQ (some 1) (ay.enc .imm) (dz a) h.Caches) (d3 default a ⟨R0 _,λ_ l=>by cases l⟩).has (λL k rcs n=>?_) ?_|refine C6 (o) ?_|refine C6 (p) ?_|refine C6 (q) ?_|refine CF (G) ⟨⟨rfl,cW _⟩,⟨rfl,rfl⟩,trivial⟩ ?_|refine CN bW (λr X=>by rw[Z0.1 X];rfl) (by simp[aU,d4]) (by simp;omega) (by simp only[W0];exact up (by simp;omega) (by decide)) rfl ?_)
      ·obtain⟨y,b,rfl,rfl,rfl⟩:=n
       exact d3 y a (c y b)
      ·((conv=>whnf);refine CB (i+1) ω ω ?_)
       rw[j]
       repeat'(first|exact trivial|rfl| exact dq _ |exact CI rfl (CI (T0 (C.s d7.own) (by simp[rI])) trivial)|exact kX (T0 (C.s d7.own) (by simp[rI]))|refine CI ?_ ?_|(exact xL (by first|omega|(simp only;omega)|(simp;omega))))
     ·have j:=g rfl
      repeat'(first|refine gD ?_|(conv=>whnf);first|with_reducible refine CA (aa d) ?_|refine C9 ?_|refine CG rfl (aa d) rfl ?_|refine Cq.mk (oQ (some 1) (ay.enc .imm) (dz a) h.Caches) (d3 default a ⟨R0 _,λ_ l=>by cases l⟩).has (λL k rcs n=>?_) ?_|refine C6 (o) ?_|refine C6 (p) ?_|refine C6 (q) ?_|refine CF (G) ⟨⟨rfl,cW _⟩,⟨rfl,rfl⟩,trivial⟩ ?_)
      ·obtain⟨y,b,rfl,rfl,rfl⟩:=n
       exact d3 y a (c y b)
      ·((conv=>whnf);refine CB (i+1) ω ω ?_)
       rw[j];exact wC
    ·have j:=g rfl
     repeat'(first|refine gD ?_|(conv=>whnf);first|with_reducible refine CA (aa d) ?_|refine C9 ?_|refine CG rfl (aa d) rfl ?_|refine Cq.mk (oQ (some 1) (ay.enc .imm) (dz a) h.Caches) (d3 default a ⟨R0 _,λ_ l=>by cases l⟩).has (λL k rcs n=>?_) ?_|refine C6 (o) ?_|refine C6 (p) ?_|refine C6 (q) ?_)
     ·obtain⟨y,b,rfl,rfl,rfl⟩:=n
      exact d3 y a (c y b)
     ·((conv=>whnf);refine CB (i+1) ω ω ?_)
      rw[j];exact wC
   ·have j:=g rfl
    repeat'(first|refine gD ?_|(conv=>whnf);first|with_reducible refine CA (aa d) ?_|refine C9 ?_|refine CG rfl (aa d) rfl ?_|refine Cq.mk (oQ (some 1) (ay.enc .imm) (dz a) h.Caches) (d3 default a ⟨R0 _,λ_ l=>by cases l⟩).has (λL k rcs n=>?_) ?_|refine C6 (o) ?_|refine C6 (p) ?_)
    ·obtain⟨y,b,rfl,rfl,rfl⟩:=n
     exact d3 y a (c y b)
    ·((conv=>whnf);refine CB (i+1) ω ω ?_)
     rw[j];exact wC
  ·rw[Q0 H]at b g
   have j:=g rfl
   repeat'(first|refine gD ?_|(conv=>whnf);first|with_reducible (first|refine CA (aa d) ?_|refine Bf.D (λY=>?_) (λY=>?_))|refine C9 ?_|refine CG rfl (aa d) rfl ?_|refine Cq.mk (oQ (some 1) (ay.enc .imm) (dz a) h.Caches) (d3 default a ⟨R0 _,λ_ l=>by cases l⟩).has (λL k rcs n=>?_) ?_|refine C6 (o) ?_|refine C6 (p) ?_)
   ·obtain⟨y,b,rfl,rfl,rfl⟩:=n
    exact d3 y a (c y b)
   ·((conv=>whnf);refine CB (i+1) ω ω ?_)
    rw[j];exact wC
 ·obtain rfl:i=(cT h.Spans h.Larges).length:=ω
  repeat'(first|refine gD ?_|(conv=>whnf);first|refine C9 ?_)
  rfl
theorem LB{h:ab}{a:Int} : NG h a=true↔a∉holders h:=by
 have w:decide (cy (eR a) h.Objs<0)=true↔a∉h.Objs.map (·.Addr):=by
  have e:=f7 (eR a) h.Objs;rw[C0];constructor
  ·intro B b
   obtain⟨o,f,rfl⟩:=T3.1 b;rw[Q0 ω]at e;have:=List.any_eq_false.1 e.symm o f;unfold eR at this;simp at this
  ·intro y
   rcases Int.lt_or_le (cy (eR a) h.Objs) 0 with g|g
   ·exact g
   ·rw[O0 ω]at e
    obtain⟨o,f,i⟩:=C3.1 e.symm;exact absurd (T3.2 ⟨o,f,of_decide_eq_true i⟩) y
 have i:h.Caches.any (dz a)=true↔a∈bQ h:=by
  unfold bQ;rw[C3,List.mem_flatMap];constructor
  ·rintro⟨c,j,d⟩
   obtain⟨l,k,b⟩:=C3.1 d;exact⟨c,j,List.mem_flatten.2 ⟨l,k,of_decide_eq_true b⟩⟩
  ·rintro⟨c,j,b⟩
   obtain⟨l,k,b⟩:=List.mem_flatten.1 b;exact⟨c,j,C3.2 ⟨l,k,O0 b⟩⟩
 have A:h.Quar.Lst.any (cB a)=true↔a∈h.Quar.Lst.map (·.Addr):=by
  rw[C3,T3];constructor
  ·rintro⟨q,n,d⟩;exact⟨q,n,of_decide_eq_true d⟩
  ·rintro⟨q,n,d⟩;exact⟨q,n,O0 d⟩
 unfold NG holders;rw[I0,I0,I0,w];simp only[O2,not_or,Bool.not_eq_true',<-I4,i,A,C0];constructor
 ·rintro⟨p,r,t,u⟩;exact⟨⟨⟨p,r⟩,t⟩,u⟩
 ·rintro⟨⟨⟨p,r⟩,t⟩,u⟩;exact⟨p,r,t,u⟩
theorem vS{p:Int->Bool}{a:Int} : ∀{L:List Int},L.Nodup->a∈L->(∀b∈L,p b=true↔b=a)->L.filter p=[a]
 | [],_,h,_=>by cases h
 | b::L,i,j,d=>by
  obtain⟨k,l⟩:=List.nodup_cons.1 i;by_cases e:b=a
  ·subst e
   rw[List.filter_cons_of_pos ((d b (O1 ..)).2 rfl)];have:L.filter p=[]:=List.filter_eq_nil_iff.2 λc f g=>k (((d c (C4 _ f)).1 g) ▸ f)
   rw[this]
  ·rw[List.filter_cons_of_neg λh=>e ((d b (O1 ..)).1 h)]
   rcases List.mem_cons.1 j with h|h
   ·exact absurd h.symm e
   ·exact vS l h λc f=>d c (C4 _ f)
theorem nv{s:au}(f:aX s=true){a:Int}(c:a∈dl s (slots s.Class).toNat):16*s.Page<=a/\a<=16*s.Page+15:=by
 have d:=aE f;have b:=rC d.2.2;unfold dl at c;obtain⟨k,g,rfl⟩:=T3.1 c;have h:=List.mem_range.1 (U3.1 g).1;unfold iw;rcases bO d.2.2 with e|e|e|e<;>rw[e]at b |-<;>omega
theorem AW{h:ab}(f:bp h []):(live0 h.Spans h.Larges).Nodup:=by
 have c:=f.L;unfold live0 dY;rw[List.nodup_append];refine⟨?_,?_,?_⟩
 ·unfold List.Nodup
  rw[List.pairwise_flatMap];refine⟨λs d=>?_,f.srs.imp_of_mem fun {s u} d hu i a j b k=>?_⟩
  ·have q:=aE (c.sok s d)
   unfold dl;rw[List.pairwise_map];refine(List.nodup_range.sublist List.filter_sublist).imp λn e=>n ?_
   unfold iw at e;rcases bO q.2.2 with g|g|g|g<;>rw[g]at e<;>omega
  ·have o:=nv (c.sok s d) j
   have r:=nv (c.sok u hu) k;omega
 ·unfold List.Nodup
  rw[List.pairwise_map];exact f.srl.imp λi=>ω
 ·intro a j b k e
  obtain⟨s,d,o⟩:=List.mem_flatMap.1 j;obtain⟨l,p,rfl⟩:=T3.1 k;have o:=nv (c.sok s d) o;have t:=aR (c.lok l p);exact c.dis s d l p 0 ω ω
theorem HN{h:ab}(b:bp h []):(cT h.Spans h.Larges).length<=512:=by
 have c:(live0 h.Spans h.Larges).Perm (fI h.Spans h.Larges):=(List.perm_ext_iff_of_nodup (AW b) (kF ..)).2 λa=>qu b.L a
 unfold cT sorted;rw[(List.mergeSort_perm _ _).length_eq,c.length_eq];unfold fI kj;rw[W0];exact Z3 (List.length_filter_le _ _) (by simp)
theorem H4{h:ab}(e:bp h []){i:Nat}(l:i<h.Objs.length):Hk {h with Objs:=dele h.Objs i} (cT h.Spans h.Larges) (cT h.Spans h.Larges).length=[(nth h.Objs i).Addr]:=by
 have f:(holders h).Perm ((nth h.Objs i).Addr::holders {h with Objs:=dele h.Objs i}):=by
  have n:=(oK l).map (·.Addr);unfold holders;exact((n.append_right _).append_right _).append_right _
 have d:=e.nd;rw[List.nil_append]at d;have g:=f.nodup_iff.1 d;obtain⟨o,r⟩:=List.nodup_cons.1 g;have j:=e.L;have c:∀a,a∈cT h.Spans h.Larges↔a∈holders h:=λa=>by
  have k:=e.mem a;rw[List.nil_append]at k;rw[k];unfold cT sorted;rw[List.mem_mergeSort,qu j];exact Bq j a
 unfold Hk;rw[v4];refine vS ?_ ((c _).2 (f.mem_iff.2 (O1 ..))) λb p=>?_
 ·unfold cT sorted
  exact(List.mergeSort_perm _ _).nodup_iff.2 (AW e)
 ·rw[LB]
  have:=f.mem_iff.1 ((c b).1 p);constructor
  ·intro q
   exact(List.mem_cons.1 this).resolve_right q
  ·rintro rfl
   exact o
def sJ(a b c d e f g h i j o10 o11 o12:d7)(x:ab):List C:=[.s a (x.Kernel.Machine.Frames.Cells.map (aD a)),.s b (x.Kernel.Machine.Frames.Used.map (rB b)),.s c (x.Kernel.Machine.Table.Entries.map (bg.enc c)),I x.Kernel.Calls,.s d (x.Kernel.Refuse.map (rI d)),.s e (x.Free.map (aA.enc e)),.s f (x.Spans.map (au.enc f)),.s g (x.Larges.map (a8.enc g)),.s h (x.Objs.map (bB.enc h)),.s i (x.Caches.map (ay.enc i)),.s j (x.Mail.Buffers.map (cM j)),.s o10 (x.Mail.Inbox.map (aD o10)),I x.Quar.Room,.s o11 (x.Quar.Lst.map (aL.enc o11)),I x.Seed,I x.Clock,I x.Limit,I x.Next,B x.Meshing,I x.Job.Plan.Keep,I x.Job.Plan.Move,.s o12 (x.Job.Plan.Cells.map (rI o12)),I x.Job.Phase,I x.Job.Next]
theorem JY(h:ab):dy (ab.enc .imm h)=ab.enc .imm h:=by rw[<-ab.enc_fz h,oO]
theorem Fw:∀(l:List C)(i:Nat)(c:C),dy (l.set i c)=(dy l).set i (fz c)
 | [],_,_=>rfl
 | _::_,0,_=>rfl
 | a::l,i+1,c=>by
  show fz a::dy (l.set i c)=_;rw[Fw l i c]
  rfl
theorem Leaks_law(zs:List Int)(o:zs.length<=9223372036854775807/\∀y∈zs,0<=y/\y<=255):ao Tryz.prog 4 false [.val none (Ns zs)] .one [B true]:=by
 have c:=Nk zs o.1;by_cases q:(zs.length:Int) > 1048576
 ·rw[O0 q]at c
  refine fP 73 [(2000009,[4,0,1,2,4,5,6,7,8,9,10,11,13,21])] [(6,14,[18,19,20,21,22,23,24,25,26,27,28,29,30,31]),(8,6,[36,37,38,39,40,41]),(10,267,[44,45,46,47,48,50,51,52,53,54,56,0,1,2,3,4,6,7,8,9,10,5,1006,1007,1008,1009,1010,11,12,13]),(11,9,[57,58,59,60,61,62,63,64,65])] Tryz.func4 rfl ?_
  repeat'(first|refine gO ?_|(conv=>whnf);first|refine C9 ?_|refine C6 (c) ?_)
  rfl
 rw[Q0 q]at c;have r:iD zs:=⟨ω,o.2⟩
 have cD:=uJ zs r;have cP:=tR zs r;obtain⟨-,M,E⟩:=zt zs 12;have b:=(Bl zs).inv;obtain⟨a,F⟩:=Hf zs;generalize drawn zs=w at *;generalize (qv zs 12).1=g at *;have d:=ah (xs:=g) (i:=0) ω;have h:=E _ (am (xs:=g) (i:=0) ω);generalize nth g 0=p at *;have t:=b.to;have G:=b.lens.objs;have u:=EX w.Heap a t;have H:=vO w.Heap a t;have J:(sf w.Heap).Pages=(w.Heap.Kernel.Machine.Table.Entries.length:Nat):=rfl;by_cases e:w.Heap.Objs.length=0
 ·refine fP 73 [(2000009,[4,0,1,2,4,5,6,7,8,9,10,11,13,21])] [(6,14,[18,19,20,21,22,23,24,25,26,27,28,29,30,31]),(8,6,[36,37,38,39,40,41]),(10,267,[44,45,46,47,48,50,51,52,53,54,56,0,1,2,3,4,6,7,8,9,10,5,1006,1007,1008,1009,1010,11,12,13]),(11,9,[57,58,59,60,61,62,63,64,65])] Tryz.func4 rfl ?_
  repeat'(first|refine gA ?_|(conv=>whnf);first|refine C9 ?_|refine C6 (c) ?_|refine C6 (cD) ?_|refine CF (u) ⟨⟨rfl,ab.enc_fz _⟩,trivial⟩ ?_|refine CF (H) ⟨⟨rfl,ab.enc_fz _⟩,trivial⟩ ?_)
  exact T0 (λz=>[B z]) (by rw[J];exact beq_self_eq_true _)
 have C:=fo (y:=(w.Heap.Objs.length:Nat)) h.1;obtain⟨i,K⟩:=I2 (Int.emod_nonneg p (show((w.Heap.Objs.length:Nat):Int)≠0 by omega));have j:=Int.emod_lt_of_pos p (show(0:Int)<(w.Heap.Objs.length:Nat) by omega);rw[K]at C j;have k:i<w.Heap.Objs.length:=ω
 have D:=ah k;have l:=GR {w.Heap with Objs:=dele w.Heap.Objs i} ⟨a.1,a.2.1,a.2.2.1,a.2.2.2.1,⟨by show(dele w.Heap.Objs i).length<=_;have:=oK k;have:=this.length_eq;simp only[List.length_cons]at this;omega,λ_ _=>trivial⟩,a.2.2.2.2.2⟩ b.lay b.mail (by have:=HN b;show(cT w.Heap.Spans w.Heap.Larges).length<=4096;omega);change ao _ _ _ _ _ (aD .own (Hk {w.Heap with Objs:=dele w.Heap.Objs i} (cT w.Heap.Spans w.Heap.Larges) (cT w.Heap.Spans w.Heap.Larges).length)) at l;rw[H4 b k]at l;have L:=B6 [(nth w.Heap.Objs i).Addr] (by show 1<=1048576;decide);refine fP 73 [(2000009,[4,0,1,2,4,5,6,7,8,9,10,11,13,21])] [(6,14,[18,19,20,21,22,23,24,25,26,27,28,29,30,31]),(8,6,[36,37,38,39,40,41]),(10,267,[44,45,46,47,48,50,51,52,53,54,56,0,1,2,3,4,6,7,8,9,10,5,1006,1007,1008,1009,1010,11,12,13]),(11,9,[57,58,59,60,61,62,63,64,65])] Tryz.func4 rfl ?_;have n:dy ((ab.enc .imm w.Heap).set 8 (.s .own ((dele w.Heap.Objs i).map (bB.enc .own))))=ab.enc .imm {w.Heap with Objs:=dele w.Heap.Objs i}:=by
  rw[Fw,JY,show fz (.s .own ((dele w.Heap.Objs i).map (bB.enc .own)))=_ from(List.cons.inj (rM (dele w.Heap.Objs i))).1]
  rfl
 repeat'(first|refine gA ?_|(conv=>whnf);first|refine C9 ?_|refine C6 (c) ?_|refine C6 (cD) ?_|refine C6 (cP) ?_|refine CA (aa d) ?_|refine CA (aa D) ?_|refine CG rfl (aa d) rfl ?_|refine CG rfl (aa D) rfl ?_|refine CL ω ?_|refine CR C ?_|refine r6.mk (off:=0) (bs':=sJ .imm .own .own .own .own .own .own .own .own .own .own .own .own w.Heap) rfl (List.cons.inj (xP _)).1 rfl ?_|refine r6.mk (off:=1) (bs':=sJ .imm .imm .own .own .own .own .own .own .own .own .own .own .own w.Heap) rfl (List.cons.inj (GX _)).1 rfl ?_|refine r6.mk (off:=2) (bs':=sJ .imm .imm .imm .own .own .own .own .own .own .own .own .own .own w.Heap) rfl (List.cons.inj (BA _)).1 rfl ?_|refine r6.mk (off:=4) (bs':=sJ .imm .imm .imm .imm .own .own .own .own .own .own .own .own .own w.Heap) rfl (List.cons.inj (cW _)).1 rfl ?_|refine r6.mk (off:=5) (bs':=sJ .imm .imm .imm .imm .imm .own .own .own .own .own .own .own .own w.Heap) rfl (List.cons.inj (dB _)).1 rfl ?_|refine r6.mk (off:=6) (bs':=sJ .imm .imm .imm .imm .imm .imm .own .own .own .own .own .own .own w.Heap) rfl (List.cons.inj (qf _)).1 rfl ?_|refine r6.mk (off:=7) (bs':=sJ .imm .imm .imm .imm .imm .imm .imm .own .own .own .own .own .own w.Heap) rfl (List.cons.inj (tI _)).1 rfl ?_|refine r6.mk (off:=8) (bs':=sJ .imm .imm .imm .imm .imm .imm .imm .imm .own .own .own .own .own w.Heap) rfl (List.cons.inj (rM _)).1 rfl ?_|refine r6.mk (off:=9) (bs':=sJ .imm .imm .imm .imm .imm .imm .imm .imm .imm .own .own .own .own w.Heap) rfl (List.cons.inj (B2 _)).1 rfl ?_|refine r6.mk (off:=10) (bs':=sJ .imm .imm .imm .imm .imm .imm .imm .imm .imm .imm .own .own .own w.Heap) rfl (List.cons.inj (BD _)).1 rfl ?_|refine r6.mk (off:=11) (bs':=sJ .imm .imm .imm .imm .imm .imm .imm .imm .imm .imm .imm .own .own w.Heap) rfl (List.cons.inj (xP _)).1 rfl ?_|refine r6.mk (off:=13) (bs':=sJ .imm .imm .imm .imm .imm .imm .imm .imm .imm .imm .imm .imm .own w.Heap) rfl (List.cons.inj (tM _)).1 rfl ?_|refine r6.mk (off:=21) (bs':=sJ .imm .imm .imm .imm .imm .imm .imm .imm .imm .imm .imm .imm .imm w.Heap) rfl (List.cons.inj (cW _)).1 rfl ?_|refine CS i rfl (by rw[W0];omega) (aN λ_=>rfl) Q3 ?_|refine Sl.suf (i+1) rfl (by rw[W0];omega) (aN λ_=>rfl) R3 ?_|refine Ap.dele (λ_=>rfl) (λ_=>rfl) ω (by decide) ?_|refine CQ (λ_=>rfl) (λ_=>rfl) (by rw[I1];omega) (by decide) ?_|refine CF (l) ⟨⟨rfl,n⟩,trivial⟩ ?_|refine CF (L) ⟨⟨rfl,cW _⟩,⟨rfl,cW [(nth w.Heap.Objs i).Addr]⟩,trivial⟩ ?_|refine CF (u) ⟨⟨rfl,rfl⟩,trivial⟩ ?_|refine C9 ?_)
 rfl
open Go.RowKit Go.ChangeShapes Go.WideShapes Go.Deep
def ALL(w:World):ac:=λb _=>b<w.heap.size
def Pn{H:Type}(e:TypeId × Value->H)(P:Program)(w:World)(t n:Nat){α:Type}(enc:α->List C)(c:α->Prop):Prop:=
 ∀(fuel:Nat)(b:List Value)(x:DataW H × List MemPlace),DataW.trod e P w 0 (λ_=>true) true fuel t b=some x->b.length=n/\∃a,c a/\(enc a).length=n/\cQ w (ALL w) NO (enc a) (λj=>b.getD j undef)
section
variable{H:Type}{e:TypeId × Value->H}{P:Program}{w:World}
theorem A4{S F:ac}{c:C}{u:Nat->Value}(h:dZ w S F c (u 0)):cQ w S F [c] u:=
 ⟨λ_=>F,λj e a=>by cases j with
   | zero=>simp at a;subst a;exact h
   | succ j=>simp at a,λ_ _ _ _ h=>h,λj f a b d=>by simp at a b;omega⟩
theorem pick{α β:Type}(n:Nat){Q:Nat->β->Prop}(h:∀i,i<n->∃b,Q i b):∃l:List β,l.length=n/\∀i b,l[i]? = some b->Q i b:=by
 induction n with
 | zero=>exact⟨[],rfl,λi b h=>by simp at h⟩
 | succ n c=>
  obtain⟨l,d,e⟩:=c λi a=>h i ω
  obtain⟨b,f⟩:=h n ω;refine⟨l++[b],by simp[d],λi g a=>?_⟩;by_cases j:i<n
  ·rw[V3 ω]at a;exact e i g a
  ·rw[W3 ω]at a
   have:i - l.length=0:=by
    have:=(V1.1 a).1;simp at this;omega
   rw[this]at a;simp at a;subst a;rw[show i=n by omega];exact f
theorem KQ{t T n:Nat}{α:Type}{enc:α->List C}{U:α->Prop}(V:Pn e P w T n enc U)(ht:P.underlying t=some (.slice T))(hn:P.cellsOf T=n)(p:0<n) :
  Pn e P w t 1 (λxs:List α=>[.s .imm (xs.map enc)]) (λxs=>xs.length<=9223372036854775807/\∀y∈xs,U y):=by
 intro fuel cs x h;rcases open_slice ht h with⟨rfl,-⟩|⟨k,len,cap,m,n',D,Pl,rfl,-,hl,hm,K,-,u⟩
 ·exact⟨rfl,[],⟨by simp,by simp⟩,rfl,A4 (.nil _ _ _ trivial)⟩
 ·simp only[if_true]at K
  subst K;have L:0<m->k.spot=none:=λW=>by
   obtain⟨E,M,N⟩:=u 0 W;rw[hn]at M;obtain⟨_,X,F⟩:=World.cells?_some M;have:=F 0 p;rw[U1 ω]at this;have:=World.cell?_spot this;simpa[Addr.add] using this
  have key:∀i,i<len->∃a,U a/\(enc a).length=n/\(∀d,d<n->∃z,cel w k.block (k.off+(i*n+d))=some z)/\k.spot=none/\cQ w (ALL w) NO (enc a) (λd=>(cel w k.block (k.off+(i*n+d))).getD undef):=λi hil=>by
   have g:=L ω;obtain⟨E,M,N⟩:=u i ω;rw[hn]at M;obtain⟨h1,a,h3,h4,h5⟩:=V _ _ _ N;obtain⟨_,X,F⟩:=World.cells?_some M;have O:∀d,k.add d = ⟨k.block,k.off+d,none⟩:=λd=>by
    obtain⟨b,o,sp⟩:=k;simp only at g;subst g;unfold Addr.add;split<;>simp_all
   have A:∀d,d<n->cel w k.block (k.off+(i*n+d))=E[d]?:=λd J=>by
    have:=F d J;rw[Go.Deep.add_add,O]at this;exact this
   refine⟨a,h3,h4,λd J=>⟨_,by rw[A d J,U1 ω]⟩,g,h5.congr λd J=>?_⟩;show(cel w k.block (k.off+(i*n+d))).getD undef=E.getD d undef;rw[A d ω,List.getD]
  obtain⟨l,Q,B⟩:=pick (α:=α) len key;refine⟨rfl,l,⟨by simp only[maxLen]at hm;omega,λy R=>?_⟩,rfl,A4 ?_⟩
  ·obtain⟨i,G⟩:=List.mem_iff_getElem?.1 R
   exact(B i y G).1
  ·show dZ w (ALL w) NO (.s .imm (l.map enc)) (.slice (some k) len m)
   by_cases h0:len=0
   ·subst h0
    have:l=[]:=R5 Q;subst this;by_cases Y:m=0
    ·subst Y;exact .nil _ _ _ trivial
    ·have g:=L ω
     obtain⟨b,o,sp⟩:=k;simp only at g;subst g;exact .imm _ b o n 0 m [] (λ_=>undef) rfl (λr Z=>by simp at Z) hl (λq hq=>by simp at hq) (λi j r c u=>by simp at u)
   ·obtain⟨y0,hy0⟩ : ∃y,l[0]? = some y:=⟨_,U1 ω⟩
    have g:=(B 0 y0 hy0).2.2.2.1;obtain⟨b,o,sp⟩:=k;simp only at g;subst g;refine .imm _ b o n len m (l.map enc) (λq=>(cel w b (o+q)).getD undef) (by simpa using Q) (λr Z=>?_) hl (λq hq=>?_) (λi j r c u hj=>?_)
    ·obtain⟨y,R,rfl⟩:=T3.1 Z
     obtain⟨i,G⟩:=List.mem_iff_getElem?.1 R;exact(B i y G).2.1
    ·have hqd:q / n<len:=(Nat.div_lt_iff_lt_mul p).2 hq
     obtain⟨y,R⟩ : ∃y,l[q / n]? = some y:=⟨_,U1 ω⟩
     obtain⟨z,S⟩:=(B _ y R).2.2.1 (q % n) (Nat.mod_lt _ p);have J:q / n*n+q % n=q:=by rw[Nat.mul_comm];exact Nat.div_add_mod q n
     rw[J]at S;exact⟨MU S,by simp only at S |-;rw[S];rfl⟩
    ·rw[R2]at u
     cases H:l[i]? with
     | none=>rw[H]at u;cases u
     | some y=>
      rw[H]at u;simp only[z4,U0]at u;subst u;obtain⟨f,h1,h2,-⟩:=(B i y H).2.2.2.2;have hjl:=(V1.1 hj).1;exact(h1 j c hj).mono (λ_ _ h=>h) (h2 j hjl)
theorem row_val{S F:ac}{x:Value}{u:Nat->Value}(h:cQ w S F [.v x] u):u 0=x:=by
 obtain⟨f,a,-⟩:=h;have:=a 0 _ rfl;cases this
 rfl
end
open Go.RowKit Go.ChangeShapes Go.WideShapes
section
variable{H:Type}{e:TypeId × Value->H}{P:Program}{w:World}
theorem Mw{t:Nat}(b:P.underlying t=some (.int .u8)):Pn e P w t 1 rU (λz=>0<=z/\z<=255):=by
 intro fuel c x h;obtain⟨n,rfl,-,a⟩:=DataW.trod_int b h;refine⟨rfl,n,?_,rfl,A4 (.v _ _ rfl)⟩;simp only[Lit.wf,I0,C0]at a;exact a
theorem op_ByteS:Pn e Tryz.prog w 22 1 (λzs:List Int=>[.s .imm (zs.map rU)]) (λzs=>zs.length<=9223372036854775807/\∀y∈zs,0<=y/\y<=255):=KQ (Mw Tryz.underlying5) Tryz.underlying22 (by kernel_rfl) (by decide)
end
end Go.Proofs.YtembpgjjnioagaaGreat.Ab
