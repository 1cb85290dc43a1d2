/- Ranges and caches taken, pages mapped, slots taken: the reference's. No condition. -/
import Derived.Test.YtecefhjnejfheaaGreatKed
import Derived.Test.YtecefhjnejfheaaGreatKeg
import Derived.Test.YtecefhjnejfheaaGreatKef
import Derived.Test.YtecefhjnejfheaaGreatKee
set_option linter.unusedVariables false
set_option linter.unusedSimpArgs false
set_option linter.constructorNameAsVariable false
namespace Go.Proofs.YtecefhjnejfheaaGreat.Ab
open Go.RowKit
set_option maxRecDepth 20000
set_option maxHeartbeats 4000000
theorem LX(c:aE)(k:Nat):aE.enc .own (rp c k)=[.s .own ((c.d.map (aG .own)).set k (aG .own ((nth c.d k).take ((nth c.d k).length - 1))))]:=by simp[aE.enc,rp,W5]
theorem PF(xs:List Int)(n:Nat):(xs.take n).map (rI .X)=(xs.map (rI .X)).take n:=Y3
def Qy(c:aE)(k:Nat):List C:=if 0<(nth c.d k).length then aE.enc .own (rp c k)++[I (nth (nth c.d k) ((nth c.d k).length - 1)),B true] else aE.enc .own c++[I (-1),B false]
theorem P9(c:aE)(k:Nat):gR (Qy c k):=by
 unfold Qy;split
 ·exact aZ (aE.enc_fr _) ⟨trivial,trivial,trivial⟩
 exact aZ (aE.enc_fr _) ⟨trivial,trivial,trivial⟩
theorem wx(c:aE)(k:Nat)(h:bw c=true)(u:k<=3):ar Tryz.prog 380 false [.val (some 1) (aE.enc .X c),.val none [I (k:Nat)]] (.tup [some 1,none,none]) (Qy c k):=by
 obtain⟨w,j⟩:=eL h;have n:aE.sml c:=⟨ω,λl r=>by have:=j l r;show l.length<=1048576;omega⟩
 have d:=w7 c k n;rw[h,O0 ω]at d;have o:=iu c n;have b:=se (c:=c) (k:=k) ω;have t:=j _ (am (xs:=c.d) (i:=k) ω);have a:=P9 c k;unfold Qy at a |-;by_cases p:0<(nth c.d k).length
 ·rw[C9 p]at a |-
  have q:=ao (xs:=nth c.d k) (i:=(nth c.d k).length - 1) ω;have e:(nth c.d k)[(((nth c.d k).length:Int) - 1).toNat]? = some (nth (nth c.d k) ((nth c.d k).length - 1)):=by rw[show(((nth c.d k).length:Int) - 1).toNat=(nth c.d k).length - 1 by omega];exact q
  have g:((((nth c.d k).length:Nat):Int) - 1)=(((nth c.d k).length - 1:Nat):Int):=ω
  rw[LX]at a |-;refine fO 54 [(5,268,[32,33,34,35,36,37,38,39,40,41,42,44,0,1,2,3,4,5,6,7,8,9,10,11,1000,1001,1002,12,13]),(6,265,[45,46,47,48,49,50,51,52,53,0,1,2,3,4,5,6,7,8,9,1001,1002,1003,1004,1005,1006,1007,1008,10,11])] Tryz.func380 rfl ?_ (.inr a)
  repeat'(first|refine gA ?_|(conv=>whnf);first|with_reducible refine CC (aa b) ?_|refine CB ?_|refine CH rfl (aa b) rfl ?_|refine C7 (d) ?_|refine C7 (o) ?_|refine CM ω (aa e) ?_|refine CC (aa q) ?_|refine CV ((nth c.d k).length - 1) g (by rw[X0];omega) (aQ λ_=>rfl) (PF _ _) ?_|refine CB ?_|refine CU (λ_=>rfl) (λ_=>rfl) (by rw[O1];omega) (by decide) ?_|refine CR (λ_=>rfl) (λ_=>rfl) (by rw[O1];omega) (by decide) ?_|refine CO rfl rfl (aa b) rfl (Z0 rfl) rfl ?_)
  rfl
 rw[C8 p]at a |-;refine fO 54 [(5,268,[32,33,34,35,36,37,38,39,40,41,42,44,0,1,2,3,4,5,6,7,8,9,10,11,1000,1001,1002,12,13]),(6,265,[45,46,47,48,49,50,51,52,53,0,1,2,3,4,5,6,7,8,9,1001,1002,1003,1004,1005,1006,1007,1008,10,11])] Tryz.func380 rfl ?_ (.inr a)
 repeat'(first|refine gA ?_|(conv=>whnf);first|with_reducible refine CC (aa b) ?_|refine CB ?_|refine CH rfl (aa b) rfl ?_|refine C7 (d) ?_|refine C7 (o) ?_)
 rfl
def Qv(xs:List aA)(n:Int):List C:=bO .own (au xs n).1++[I (au xs n).2.1,B (au xs n).2.2]
theorem P8(xs:List aA)(n:Int):gR (Qv xs n):=aZ (oB _) ⟨trivial,trivial,trivial⟩
theorem nY(pages:Int)(xs:List aA)(n:Int)(w:0<=pages/\pages<=1048576)(l:b9 pages xs=true)(J:1<=n/\n<=1000)(K:xs.length<=4096):ar Tryz.prog 385 false [.val none [I pages],.val none (bO .X xs),.val none [I n]] (.tup [none,none,none]) (Qv xs n):=by
 have o:=l8 pages xs w ⟨ω,λ_ _=>trivial⟩;rw[l]at o;have p:=(Bw l).2;refine fO 98 [(8,21,[31,32,33,34,35,36,37,38,39,40,41,42,43,44,45,46,47,48,49,50,51]),(14,265,[71,72,73,74,76,77,78,79,81,0,1,2,3,5,6,7,8,10,4,1005,1006,1007,1008,1010,9,1010,11,1010,12,13])] Tryz.func385 rfl ?_ (.inr (P8 xs n))
 repeat'(first|refine gD ?_|(conv=>whnf);first|refine CB ?_|refine C7 (o) ?_|refine CR (λ_=>rfl) (λ_=>rfl) ω (by decide) ?_)
 (conv=>whnf)
 refine CE (ι:=Nat) (λi=>[(1,.H .one (bO .X xs)),(2,.H .one [I (n)]),(9,.H .one (bO .own xs)),(10,.H .one [I (iO xs n i)]),(11,.H .one [I ((i:Nat):Int)])]) (λi=>i<=xs.length) (λi=>xs.length - i) (0) ?_ (T0 _) λi y=>?_
 ·exact wC
 have h:=xv xs n i y;by_cases q:i<xs.length
 ·have j:=ao q
  have E:=p _ (am q);have a:iO xs n (i+1)=if n<=(nth xs i).b0/\(iO xs n i<0\/(nth xs i).b0<(nth xs (iO xs n i).toNat).b0) then((i:Nat):Int) else iO xs n i:=rfl
  by_cases r:n<=(nth xs i).b0
  ·by_cases F:iO xs n i<0
   ·rw[C9 ⟨r,.inl F⟩]at a
    repeat'(first|refine gD ?_|(conv=>whnf);first|with_reducible (first|refine CC (aa j) ?_|refine Bf.D (λc=>?_) (λc=>?_))|refine CB ?_)
    ((conv=>whnf);refine CD (i+1) ω ω ?_)
    rw[a];exact wC
   have d:=ao (xs:=xs) (i:=(iO xs n i).toNat) ω;by_cases G:(nth xs i).b0<(nth xs (iO xs n i).toNat).b0
   ·rw[C9 ⟨r,.inr G⟩]at a
    repeat'(first|refine gD ?_|(conv=>whnf);first|with_reducible (first|refine CC (aa j) ?_|refine CM ω (aa d) ?_|refine Bf.D (λc=>?_) (λc=>?_))|refine CB ?_)
    ((conv=>whnf);refine CD (i+1) ω ω ?_)
    rw[a];exact wC
   rw[C8 ω]at a
   repeat'(first|refine gD ?_|(conv=>whnf);first|with_reducible (first|refine CC (aa j) ?_|refine CM ω (aa d) ?_|refine Bf.D (λc=>?_) (λc=>?_))|refine CB ?_)
   ((conv=>whnf);refine CD (i+1) ω ω ?_)
   rw[a];exact wC
  rw[C8 ω]at a
  repeat'(first|refine gD ?_|(conv=>whnf);first|with_reducible (first|refine CC (aa j) ?_|refine Bf.D (λc=>?_) (λc=>?_))|refine CB ?_)
  ((conv=>whnf);refine CD (i+1) ω ω ?_)
  rw[a];exact wC
 obtain rfl:i=xs.length:=ω
 change gW xs n = -1\/_ at h;unfold Qv au;rw[show iO xs n xs.length=gW xs n from rfl];by_cases e:gW xs n<0
 ·rw[C9 e]
  rw[show gW xs n = -1 from h.resolve_right λg=>by have L:0<=gW xs n:=g.1;omega]
  repeat'(first|refine gD ?_|(conv=>whnf);first|with_reducible refine Bf.D (λc=>?_) (λc=>?_)|refine CB ?_)
  rfl
 rw[C8 e];obtain⟨H,t,M⟩:=h.resolve_left ω;change 0<=gW xs n at H;change gW xs n<xs.length at t;obtain⟨b,k⟩:=R2 (show 0<=gW xs n by omega);rw[k]at t |-;simp only[O2];have d:=ao (xs:=xs) (i:=b) ω;have E:=p _ (am (xs:=xs) (i:=b) ω);by_cases u:(nth xs b).b0=n
 ·rw[C9 u]
  repeat'(first|refine gA ?_|(conv=>whnf);first|with_reducible (first|refine CC (aa d) ?_|refine Bf.D (λc=>?_) (λc=>?_))|refine CB ?_|refine CV b rfl (by rw[X0];omega) (aQ λ_=>rfl) Y3 ?_|refine Sl.suf (b+1) rfl (by rw[X0];omega) (aQ λ_=>rfl) Z3 ?_|refine CU (λ_=>rfl) (λ_=>rfl) (by rw[O1];omega) (by decide) ?_|refine Ap.dele (λ_=>rfl) (λ_=>rfl) ω (by decide) ?_|refine CR (λ_=>rfl) (λ_=>rfl) (by rw[O1];omega) (by decide) ?_|refine CB ?_)
  rfl
 rw[C8 u]
 repeat'(first|refine gA ?_|(conv=>whnf);first|with_reducible (first|refine CC (aa d) ?_|refine Bf.D (λc=>?_) (λc=>?_))|refine CB ?_|refine CO rfl rfl (aa d) rfl (Z0 rfl) rfl ?_)
 exact U0 (λz=>z++[I (nth xs b).At,B true]) (show [C.s dK.own _]=_ from by simp[bO,W5];rfl)
theorem LV(k:ah)(p:Int)(f:Nat):ah.enc .own (qf k p f)=((ah.enc .own k).set 1 (.s .own ((k.F.V.a9.map (rB .own)).set f (rB .own true)))).set 2 (.s .own ((k.F.R.J.map (bi.enc .own)).set p.toNat (bi.enc .own ⟨2,(f:Nat)⟩))):=by
 simp[ah.enc,qf,W5]
theorem Di(k:ah)(p:Int)(c:a7 k=true)(y:k.Calls≠100000)(o:0<=p/\p<k.F.R.J.length)(C:(nth k.F.R.J p.toNat).j=0):aS Tryz.prog 387 false [.ptr (ah.enc .own k),.val none [I p]] [.ptr (ah.enc .own (newK k p).1),.val none [I p]] .one [B (newK k p).2]:=by
 have E:=bH c;have F:=aW.1 (aD.1 c).2.1;have G:=(bx.1 (aD.1 c).2.2.1).2.2;have H:(bY k).F.R.J.length<=32:=G;have a:=zC k.F.V ω;have d:=m8 k c y;have g:=eO (bY k) p E.1.2;have l:ac (bY k).F.R p=nth k.F.R.J p.toNat:=by unfold ac;exact C9 o
 rw[l,C]at g;have h:=aF p 0 ((k.F.R.J.length:Int) - 1);rw[O0 ω]at h;have r:=ao (xs:=k.F.R.J) (i:=p.toNat) ω;change ar _ _ _ _ _ [I (r8 k)]at a;unfold newK;cases e:refd k<;>rw[e]at d
 ·by_cases j:r8 k<0
  ·rw[C9 (.inr j)]
   refine fM 56 [(487,[2])] [] [(0,0),(0,0)] Tryz.func387 rfl (λu q=>?_)
   repeat'(first|refine gA ?_|(conv=>whnf);first|with_reducible refine Bf.D (λb=>?_) (λb=>?_)|refine CG (a) ⟨⟨rfl,bo.enc_fz _⟩,trivial⟩ ?_|refine CJ (d) (.inl rfl) ?_|refine C7 (h) ?_|refine CG (g) ⟨CQ (bY k),⟨rfl,rfl⟩,trivial⟩ ?_)
   refine CF rfl ?_ ?_
   ·rfl
   exact wC
  rw[C8 (by simp[j])];obtain⟨n,t⟩:=BI j;obtain⟨f,J⟩:=R2 (show 0<=r8 k by omega);rw[J]at a n t j |-;simp only[O2]at n t |-;have w:=ao (xs:=k.F.V.a9) (i:=f) n;rw[LV];refine fM 56 [(487,[2])] [] [(0,0),(0,0)] Tryz.func387 rfl (λu q=>?_)
  repeat'(first|refine gA ?_|(conv=>whnf);first|with_reducible refine Bf.D (λb=>?_) (λb=>?_)|refine CG (a) ⟨⟨rfl,bo.enc_fz _⟩,trivial⟩ ?_|refine CJ (d) (.inl rfl) ?_|refine C7 (h) ?_|refine CG (g) ⟨CQ (bY k),⟨rfl,rfl⟩,trivial⟩ ?_|refine CC (aa w) ?_|refine CM o.1 (aa r) ?_|refine CO rfl rfl (aa w) rfl (Z0 rfl) rfl ?_|refine CO rfl rfl (aa r) rfl (Z0 rfl) rfl ?_)
  refine CF rfl ?_ ?_
  ·rfl
  exact wC
 rw[C9 (.inl rfl)];refine fM 56 [(487,[2])] [] [(0,0),(0,0)] Tryz.func387 rfl (λu q=>?_)
 repeat'(first|refine gA ?_|(conv=>whnf);first|with_reducible refine Bf.D (λb=>?_) (λb=>?_)|refine CG (a) ⟨⟨rfl,bo.enc_fz _⟩,trivial⟩ ?_|refine CJ (d) (.inl rfl) ?_|refine C7 (h) ?_|refine CG (g) ⟨CQ (bY k),⟨rfl,rfl⟩,trivial⟩ ?_)
 refine CF rfl ?_ ?_
 ·rfl
 exact wC
def Qt(h:ab):List C:=(bz h).drop 5
theorem DE(h:ab)(p:Int)(a:a7 h.G=true)(b:h.G.Calls≠100000)(c:0<=p/\p<h.G.F.R.J.length)(d:(nth h.G.F.R.J p.toNat).j=0):aS Tryz.prog 387 false [.ptr (bz h),.val none [I p]] [.ptr (bz {h with G:=(newK h.G p).1}),.val none [I p]] .one [B (newK h.G p).2]:=
 (Di h.G p a b c d).frame (r:=Qt h) rfl
theorem H5(h:ab)(i:Nat):bz (slotT h i)=((bz h).set 14 (I (Hm h.c0))).set 6 (.s .own ((h.M.map (ax.enc .own)).set i [I (nth h.M i).Q,I (nth h.M i).b,I (gJ (nth h.M i).b1 (p7 h i))])):=by
 simp[bz,slotT,pL,W5,ax.enc]
theorem r9(h:ab)(E:List Int)(i:Nat)(c:aV h E)(k:i<h.M.length):aS Tryz.prog 382 false [.ptr (bz h),.val none [I (i:Nat)]] [.ptr (bz (pH h i).1),.val none [I (i:Nat)]] .one [I (pH h i).2]:=by
 have F:=c.lens;have G:=F.spans;have d:=ao k;have b:=c.L.sok _ (am k);have e:=eC b;have a:=c.nums;unfold cg at a;rw[C0]at a;have t:=(bx.1 (aD.1 c.ker).2.2.1).2.2;have l:=rC c.L.sok (ps:=aP h (nth h.M i).Q) e (aP h (nth h.M i).Q).length;change 0<=gM h i/\gM h i<=65535 at l;have w:=mX (nth h.M i).b;have y:=xO h i ⟨ω,λ_ _=>trivial⟩ ⟨by show h.G.F.R.J.length<=_;omega,λ_ _=>trivial⟩ c.L.sok k;have o:=vS (nth h.M i).b (gM h i) ω;change ar _ _ _ _ _ (aG .own (mT h i)) at o;have p:=FF (nth h.M i).b (gM h i);change (mT h i).length<=16 at p;unfold pH;by_cases B:(mT h i).length=0
 ·rw[C9 B]
  refine fM 68 [] [(2,7,[16,17,18,19,20,21,22]),(7,12,[42,43,44,45,46,47,48,49,50,51,52,53]),(8,11,[56,57,58,59,60,61,62,63,64,65,66])] [(0,0),(0,0)] Tryz.func382 rfl (λu q=>?_)
  repeat'(first|refine gA ?_|(conv=>whnf);first|refine CC (aa d) ?_|refine CH rfl (aa d) rfl ?_|refine C7 (w) ?_|refine CG (y) ⟨⟨rfl,bD h⟩,⟨rfl,rfl⟩,trivial⟩ ?_|refine C7 (o) ?_|refine CB ?_)
  refine CF rfl rfl ?_;exact wC
 rw[C8 B];have H:=zq (h:=h) (i:=i) ω;obtain⟨C,D,O⟩:=xl H;have J:=(g9 (aC b).2.2).2.2.1;have r:=v8 h.c0 (n:=((mT h i).length:Nat)) ω;have K:=tM h.c0 ((mT h i).length:Nat) ω ω;have M:=yo (nth h.M i).b1 (p7 h i) e ω;have N:=xM (pL (nth h.M i) (p7 h i)) (p7 h i) (zP b ⟨C,D⟩) ⟨C,D⟩;have g:(mT h i)[(LT h.c0 ((mT h i).length:Nat)).toNat]? = some (p7 h i):=ao ω;have j:((h.M.map (ax.enc .own)).set i [I (nth h.M i).Q,I (nth h.M i).b,I (gJ (nth h.M i).b1 (p7 h i))])[i]? = some [I (nth h.M i).Q,I (nth h.M i).b,I (gJ (nth h.M i).b1 (p7 h i))]:=rO k;unfold uf;rw[H5];refine fM 68 [] [(2,7,[16,17,18,19,20,21,22]),(7,12,[42,43,44,45,46,47,48,49,50,51,52,53]),(8,11,[56,57,58,59,60,61,62,63,64,65,66])] [(0,0),(0,0)] Tryz.func382 rfl (λu q=>?_)
 repeat'(first|refine gA ?_|(conv=>whnf);first|refine CC (aa d) ?_|refine CC j ?_|refine CH rfl (aa g) rfl ?_|refine CH rfl (aa d) rfl ?_|refine CH rfl j rfl ?_|refine C7 (w) ?_|refine CG (y) ⟨⟨rfl,bD h⟩,⟨rfl,rfl⟩,trivial⟩ ?_|refine C7 (o) ?_|refine C7 (K) ?_|refine C7 (M) ?_|refine C7 (N) ?_|refine CM r.1 (aa g) ?_|refine CB ?_|refine CO rfl rfl (aa d) rfl (Z0 rfl) rfl ?_)
 refine CF rfl ?_ ?_
 ·rfl
 exact wC
theorem Ap.ins{α:Type}{e:α->List C}{xs:List α}{y:α}{r:List C}{i sz by_:Nat}{K:List (List C)->Prop}(a:r=e y)(b:∀y,(e y).length=sz)(c:∀y,aX (e y)=true)(h:xs.length<=1048576)(d:by_<=1000)(f:K ((xs.take i++y::xs.drop i).map e)):Ap true ((xs.take i).map e++[r]) ((xs.drop i).map e) sz by_ K:=by
 subst a;have g:(xs.take i).length+1+(xs.drop i).length<=3145728:=by rw[O1,C3];omega
 refine CT (λr a=>?_) (aQ b) (λ_ r a=>by obtain⟨y,-,rfl⟩:=C4.1 a;exact c y) (by simp only[Z2,X0,List.length_singleton];omega) (by simp only[Z2,X0,List.length_singleton];exact V4 (Nat.mul_le_mul g d) (by decide)) ?_ f
 ·rcases U2.1 a with a|a
  ·exact aQ b r a
  rw[C1.1 a];exact b y
 rw[R5,U5,O5];rfl
theorem uW{α:Type}{p:α->Bool}{xs:List α}{y:α}{i:Nat}(h:ki p xs=i):iZ p xs y=xs.take i++y::xs.drop i:=by unfold iZ;rw[h]
def GO(h:ab)(c:Int):ab × Int:=
 if(au h.q 1).2.2=false then(h,-1)
 else if(newK h.G (au h.q 1).2.1).2=false then({h with G:=(newK h.G (au h.q 1).2.1).1},-1)
 else(qr h c,(pN h:Nat))
theorem AB(h:ab)(E:List Int)(c:Nat)(g:aV h E)(J:h.G.Calls<=90000):aS Tryz.prog 383 false [.ptr (bz h),.val none [I (c:Nat)]] [.ptr (bz (GO h c).1),.val none [I (c:Nat)]] .one [I (GO h c).2]:=by
 have B:=g.lens;have K:=B.spans;have L:eM h<=32:=B.ents;have C:=gV h;have l:=nY (eM h:Nat) h.q 1 ⟨ω,ω⟩ g.rng (by decide) (by have:=B.free;omega);unfold Qv at l;have d:=jm g (W4 1);unfold GO qr pN;generalize au h.q 1=r at l d |-;obtain⟨o,p,ok⟩:=r;simp only at l d |-;cases ok with
 | false=>
  rw[C9 rfl];refine fM 79 [(387,[2,0]),(2000010,[0,6])] [(1,267,[11,12,13,14,15,16,17,10,18,19,20,0,1,2,3,4,5,6,7,8,9,10,11,1009,1010,12,1010,13])] [(0,0),(0,0)] Tryz.func383 rfl (λu q=>?_)
  repeat'(first|refine gO ?_|(conv=>whnf);first|refine CB ?_|refine CG (C) ⟨bD h,trivial⟩ ?_|refine CG (l) ⟨⟨rfl,rfl⟩,⟨rfl,dZ h.q⟩,⟨rfl,rfl⟩,trivial⟩ ?_|refine CB ?_)
  refine CF rfl rfl ?_;exact wC
 | true=>
  rw[C8 (by simp)];obtain⟨M,N,O,V⟩:=d rfl;have F:0<=p/\p<h.G.F.R.J.length:=⟨M,by have:p+1<=((tbl h).J.length:Nat):=N;unfold tbl at this;omega⟩
  have t:=DE h p g.ker ω F (O p.toNat ω ω);generalize newK h.G p=w at t |-;obtain⟨k,b⟩:=w;simp only at t |-;cases b with
  | false=>
   rw[C9 rfl];refine fM 79 [(387,[2,0]),(2000010,[0,6])] [(1,267,[11,12,13,14,15,16,17,10,18,19,20,0,1,2,3,4,5,6,7,8,9,10,11,1009,1010,12,1010,13])] [(0,0),(0,0)] Tryz.func383 rfl (λu q=>?_)
   repeat'(first|refine gO ?_|(conv=>whnf);first|refine CB ?_|refine CG (C) ⟨bD h,trivial⟩ ?_|refine CG (l) ⟨⟨rfl,rfl⟩,⟨rfl,dZ h.q⟩,⟨rfl,rfl⟩,trivial⟩ ?_|refine CJ (t) (.inl rfl) ?_|refine CB ?_)
   refine CF rfl rfl ?_;exact wC
  | true=>
   rw[C8 (by simp)];refine fM 79 [(387,[2,0]),(2000010,[0,6])] [(1,267,[11,12,13,14,15,16,17,10,18,19,20,0,1,2,3,4,5,6,7,8,9,10,11,1009,1010,12,1010,13])] [(0,0),(0,0)] Tryz.func383 rfl (λu q=>?_)
   repeat'(first|refine gO ?_|(conv=>whnf);first|refine CB ?_|refine CG (C) ⟨bD h,trivial⟩ ?_|refine CG (l) ⟨⟨rfl,rfl⟩,⟨rfl,dZ h.q⟩,⟨rfl,rfl⟩,trivial⟩ ?_|refine CJ (t) (.inl rfl) ?_|refine CB ?_)
   (conv=>whnf)
   refine CE (ι:=Nat) (λi=>[(0,.H .box (bz {h with G:=k,q:=o})),(1,.H .one [I ((c:Nat):Int)]),(6,.H .one [I (p)]),(8,.H .one [I ((i:Nat):Int)])]) (λi=>i<=h.M.length/\∀(j:Nat)(z:ax),j<i->h.M[j]? = some z->Fi p z=false) (λi=>h.M.length - i) (0) ?_ (⟨T0 _,λj z W=>ω⟩) λi g=>?_
   ·exact wC
   obtain⟨P,G⟩:=g;have Q:({h with G:=k,q:=o} : ab).M.length=h.M.length:=rfl;by_cases R:i<h.M.length/\(nth h.M i).Q<p
   ·have n:=ao R.1
    repeat'(first|refine gD ?_|(conv=>whnf);first|with_reducible refine CC (aa n) ?_|refine CB ?_|refine CH rfl (aa n) rfl ?_)
    ((conv=>whnf);refine CD (i+1) ⟨ω,d4 n (R0 ω) G⟩ ω ?_;(exact wC))
   have a:ki (Fi p) h.M=i:=uH ω G λz H=>by
    have S:=(Z1.1 H).1;have:z=nth h.M i:=(bc H).symm;subst this;exact O0 ω
   have n:i<h.M.length->h.M[i]? = some (nth h.M i):=λT=>ao T
   rw[show addS h k o p (c:Nat) = {h with G:=k,q:=o,M:=h.M.take i++⟨p,(c:Nat),0⟩::h.M.drop i} by unfold addS;rw[uW a],a]
   repeat'(first|refine gD ?_|(conv=>whnf);first|with_reducible (first|refine CC (aa (n ω)) ?_|refine Bf.D (λU=>?_) (λU=>?_))|refine CB ?_|refine CH rfl (aa (n ω)) rfl ?_|refine EF.mk rfl (Ex h.M) rfl ?_|refine CV i rfl (by rw[X0];omega) (aQ λ_=>rfl) Y3 ?_|refine Sl.suf i rfl (by rw[X0];omega) (aQ λ_=>rfl) Z3 ?_|refine CR (λ_=>rfl) (λ_=>rfl) (by rw[O1];omega) (by decide) ?_|refine Ap.sn (aQ λ_=>rfl) rfl (by rw[X0,O1];omega) (by decide) rfl ?_|refine Ap.ins (e:=ax.enc .X) (y:=⟨p,(c:Nat),0⟩) rfl (λ_=>rfl) (λ_=>rfl) ω (by decide) ?_)
   all_goals
    refine CF rfl rfl ?_;exact wC
theorem Dc{h:ab}{c:Int}{i:Nat}(a:i<h.M.length)(b:rQ h c i=true)(d:∀j,j<i->rQ h c j=false):sw h c=some i:=
 List.find?_range_eq_some.2 ⟨b,List.mem_range.2 a,λj e=>by rw[d j e];rfl⟩
theorem DN{h:ab}{c:Int}(a:∀j,j<h.M.length->rQ h c j=false):sw h c=none:=
 List.find?_range_eq_none.2 λj b=>by rw[a j b];rfl
theorem rZ{h:ab}{c:Int}{i:Nat}(a:rQ h c i=false)(b:∀j,j<i->rQ h c j=false):∀j,j<i+1->rQ h c j=false:=λj d=>by
 by_cases e:j=i
 ·rw[e];exact a
 exact b j ω
theorem HO(h:ab)(t:Nat)(c:aE):bz {h with T:=h.T.set t c} = (bz h).set 9 (.s .own ((h.T.map (aE.enc .own)).set t (aE.enc .own c))):=by
 simp[bz,W5]
theorem Kf{h:ab}{c:Nat}(b:aV h [])(l:c<=3)(e:h.G.Calls<=90000)(h1:¬(au h.q 1).2.2=false)(f:¬(newK h.G (au h.q 1).2.1).2=false):aV (qr h c) []/\pN h<(qr h c).M.length:=by
 have a:(au h.q 1).2.2=true:=by simpa using h1
 obtain⟨g,i,j,n⟩:=jm b (W4 1) a;have s:=up.of (p:=(au h.q 1).2.1) b.ker ω ⟨g,by have:(au h.q 1).2.1+1<=(h.G.F.R.J.length:Nat):=i;omega⟩ (j _ ω ω);have d:(newK h.G (au h.q 1).2.1).2=true:=by simpa using f
 have k:up h.G (au h.q 1).2.1 ((newK h.G (au h.q 1).2.1).1,true):=by rw[<-d];exact s
 exact⟨b.addS (c:=c) ⟨ω,ω⟩ a k,(AW (Fi (au h.q 1).2.1) h.M ⟨(au h.q 1).2.1,c,0⟩).1⟩
theorem xZ(h:ab)(t c:Nat)(o:aV h [])(M:t<h.T.length)(N:c<=3)(p:h.G.Calls<=90000):aS Tryz.prog 236 false [.ptr (bz h),.val none [I (t:Nat)],.val none [I (c:Nat)]] [.ptr (bz (smallA h t c).1),.val none [I (t:Nat)],.val none [I (c:Nat)]] .one [I (smallA h t c).2]:=by
 have E:=o.cach _ (am M);have e:=ao M;have r:=wx (nth h.T t) c E N;have Q:=o.lens.spans;have B:=o;unfold Qy at r;by_cases F:0<(nth (nth h.T t).d c).length
 ·unfold smallA
  rw[C9 F]at r |-;simp only;rw[HO];refine fM 80 [(382,[2,0]),(383,[2,0])] [(3,6,[27,28,29,30,31,32])] [(0,0),(0,0),(0,0)] Tryz.func236 rfl (λu q=>?_)
  repeat'(first|refine gO ?_|(conv=>whnf);first|with_reducible refine CC (aa e) ?_|refine CH rfl (aa e) rfl ?_|refine CG (r) ⟨⟨rfl,aE.enc_fz _⟩,⟨rfl,rfl⟩,trivial⟩ ?_|refine CB ?_|refine CO rfl rfl (aa e) rfl (Z0 rfl) rfl ?_)
  refine CF rfl rfl ?_;exact wC
 rw[C8 F]at r;have d:smallA h t c=match sw h c with
  | some i=>(slotT h i,uf h i)
  | none=>if(au h.q 1).2.2=false then(h,-1)
   else if(newK h.G (au h.q 1).2.1).2=false then({h with G:=(newK h.G (au h.q 1).2.1).1},-1)
   else pH (qr h c) (pN h):=by unfold smallA;exact C8 F
 refine fM 80 [(382,[2,0]),(383,[2,0])] [(3,6,[27,28,29,30,31,32])] [(0,0),(0,0),(0,0)] Tryz.func236 rfl (λu q=>?_)
 repeat'(first|refine gO ?_|(conv=>whnf);first|with_reducible refine CC (aa e) ?_|refine CH rfl (aa e) rfl ?_|refine CG (r) ⟨⟨rfl,aE.enc_fz _⟩,⟨rfl,rfl⟩,trivial⟩ ?_|refine CB ?_)
 (conv=>whnf)
 refine CE (ι:=Nat) (λi=>[(0,.H .box (bz h)),(1,.H .one [I ((t:Nat):Int)]),(2,.H .one [I ((c:Nat):Int)]),(10,.H .one [I ((i:Nat):Int)])]) (λi=>i<=h.M.length/\∀j,j<i->rQ h c j=false) (λi=>h.M.length - i) (0) ?_ (⟨T0 _,λj W=>ω⟩) λi o=>?_
 ·exact wC
 obtain⟨R,w⟩:=o;by_cases C:i<h.M.length
 ·have l:=ao C
  by_cases O:(nth h.M i).b=c
  ·have y:=ui h (nth h.M i).Q
   cases D:fJ h (nth h.M i).Q with
   | true=>
    rw[D]at y
    repeat'(first|refine gA ?_|(conv=>whnf);first|with_reducible refine CC (aa l) ?_|refine CH rfl (aa l) rfl ?_|refine CG (y) ⟨bD h,⟨rfl,rfl⟩,trivial⟩ ?_)
    ((conv=>whnf);refine CD (i+1) ⟨ω,rZ (by unfold rQ;rw[D];simp) w⟩ ω ?_;(exact wC))
   | false=>
    rw[D]at y;have n:=r9 h [] i B C;unfold pH at n;by_cases P:(mT h i).length=0
    ·rw[C9 P]at n
     repeat'(first|refine gA ?_|(conv=>whnf);first|with_reducible refine CC (aa l) ?_|refine CH rfl (aa l) rfl ?_|refine CG (y) ⟨bD h,⟨rfl,rfl⟩,trivial⟩ ?_|refine CJ (n) (.inl rfl) ?_)
     ((conv=>whnf);refine CD (i+1) ⟨ω,rZ (by unfold rQ;rw[R0 (by omega:¬0<(mT h i).length)];simp) w⟩ ω ?_;(exact wC))
    rw[C8 P]at n;have G:sw h c=some i:=Dc C (by unfold rQ;rw[O0 O,D,O0 ω];rfl) w;rw[G]at d;simp only at d;obtain⟨S,T⟩:=B.slotT C (by omega:0<(mT h i).length);have H:=jH.nn S T;rw[d];generalize slotT h i=g at n |-;generalize uf h i=a at n H |-
    repeat'(first|refine gA ?_|(conv=>whnf);first|with_reducible refine CC (aa l) ?_|refine CH rfl (aa l) rfl ?_|refine CG (y) ⟨bD h,⟨rfl,rfl⟩,trivial⟩ ?_|refine CJ (n) (.inl rfl) ?_)
    refine CF rfl rfl ?_;exact wC
  repeat'(first|refine gA ?_|(conv=>whnf);first|with_reducible refine CC (aa l) ?_|refine CH rfl (aa l) rfl ?_)
  ((conv=>whnf);refine CD (i+1) ⟨ω,rZ (by unfold rQ;rw[R0 O];rfl) w⟩ ω ?_;(exact wC))
 obtain rfl:i=h.M.length:=ω
 have G:sw h c=none:=DN w;rw[G]at d;simp only at d;have k:=AB h [] c B p;rw[d];unfold GO at k;by_cases J:(au h.q 1).2.2=false
 ·rw[C9 J]at k |-
  repeat'(first|refine gD ?_|(conv=>whnf);first|refine CJ (k) (.inl rfl) ?_)
  refine CF rfl rfl ?_;exact wC
 rw[C8 J]at k |-;by_cases K:(newK h.G (au h.q 1).2.1).2=false
 ·rw[C9 K]at k |-
  repeat'(first|refine gD ?_|(conv=>whnf);first|refine CJ (k) (.inl rfl) ?_)
  refine CF rfl rfl ?_;exact wC
 rw[C8 K]at k |-;obtain⟨U,V⟩:=Kf B N p J K;have L:=r9 (qr h c) [] (pN h) U V;generalize qr h c=g at k L |-;generalize pN h=b at k L |-
 repeat'(first|refine gD ?_|(conv=>whnf);first|refine CJ (k) (.inl rfl) ?_|refine CJ (L) (.inl rfl) ?_)
 refine CF rfl rfl ?_;exact wC
def HI(h:ab)(size:Int):ab × Int:=
 if(au h.q (gL size:Nat)).2.2=false then(h,-1)
 else if(d7 h size).2=gL size then({h with G:=(d7 h size).1,q:=(au h.q (gL size:Nat)).1,K:=iZ (Ps (au h.q (gL size:Nat)).2.1) h.K ⟨(au h.q (gL size:Nat)).2.1,(gL size:Nat),size⟩},16*(au h.q (gL size:Nat)).2.1)
 else({h with G:=unmN (d7 h size).1 (au h.q (gL size:Nat)).2.1 (d7 h size).2},-1)
theorem w6(k:ah)(p:Int)(i:Nat):newsK k p (i+1)=if(newsK k p i).2=i then((newK (newsK k p i).1 (p+(i:Nat))).1,if(newK (newsK k p i).1 (p+(i:Nat))).2=true then i+1 else i) else newsK k p i:=rfl
theorem Eu(k:ah)(p:Int):∀i,(newsK k p i).2<=i
 | 0=>W2 _
 | i+1=>by
  have b:=Eu k p i;rw[w6];by_cases e:(newsK k p i).2=i
  ·rw[C9 e]
   show(if _ then i+1 else i)<=i+1;by_cases a:(newK (newsK k p i).1 (p+(i:Nat))).2=true
   ·rw[C9 a];exact W2 _
   rw[C8 a];exact Nat.le_succ _
  rw[C8 e];omega
theorem mL{k:ah}{p:Int}{i:Nat}(h:(newsK k p i).2≠i):∀j,newsK k p (i+j)=newsK k p i/\(newsK k p (i+j)).2<i+j
 | 0=>⟨rfl,by show(newsK k p i).2<i;have:=Eu k p i;omega⟩
 | j+1=>by
  have a:=mL h j;have e:newsK k p (i+(j+1))=newsK k p (i+j):=by
   show newsK k p (i+j+1)=_;rw[w6,C8 ω]
  exact⟨e.trans a.1,by rw[e];omega⟩
theorem yg(h:ab)(size:Int)(l:aV h [])(C:9<=size/\size<=1000)(V:h.G.Calls<=90000):aS Tryz.prog 237 false [.ptr (bz h),.val none [I size]] [.ptr (bz (HI h size).1),.val none [I size]] .one [I (HI h size).2]:=by
 have E:=l.lens;have W:=E.larges;have Q:=l;have F:eM h<=32:=E.ents;have G:fj size=((gL size:Nat):Int):=by unfold fj gL;split<;>omega
 have hN:1<=gL size/\gL size<=63:=by unfold gL;omega
 have H:=lF size;rw[G]at H;have R:=gV h;have t:=nY (eM h:Nat) h.q (gL size:Nat) ⟨ω,ω⟩ l.rng ⟨ω,ω⟩ (by have:=E.free;omega);unfold Qv at t;have b:=jm l (show(1:Int)<=(gL size:Nat) by omega);unfold HI d7;generalize gL size=N at *;generalize au h.q (N:Nat)=r at t b |-;obtain⟨J,p,ok⟩:=r;simp only at t b |-;refine fM 105 [(387,[2,0]),(388,[2,0]),(2000018,[0,7])] [(2,268,[16,17,18,19,20,21,22,23,15,24,25,26,0,1,2,3,4,5,6,7,8,9,10,11,12,1010,1011,13,1011,14])] [(0,0),(0,0)] Tryz.func237 rfl (λu q=>?_);cases ok with
 | false=>
  rw[C9 rfl]
  repeat'(first|refine gO ?_|(conv=>whnf);first|refine CB ?_|refine C7 (H) ?_|refine CG (R) ⟨bD h,trivial⟩ ?_|refine CG (t) ⟨⟨rfl,rfl⟩,⟨rfl,dZ h.q⟩,⟨rfl,rfl⟩,trivial⟩ ?_|refine CB ?_)
  refine CF rfl rfl ?_;exact wC
 | true=>
  rw[C8 (by simp)];obtain⟨S,K,B,u4⟩:=b rfl;change p+(N:Nat)<=(h.G.F.R.J.length:Nat) at K;change ∀q:Nat,p<=q->(q:Int)<p+(N:Nat)->(nth h.G.F.R.J q).j=0 at B
  have X:h.G.F.R.J.length<=32:=F
  repeat'(first|refine gO ?_|(conv=>whnf);first|refine CB ?_|refine C7 (H) ?_|refine CG (R) ⟨bD h,trivial⟩ ?_|refine CG (t) ⟨⟨rfl,rfl⟩,⟨rfl,dZ h.q⟩,⟨rfl,rfl⟩,trivial⟩ ?_|refine CB ?_)
  (conv=>whnf)
  refine CE (ι:=Nat) (λi=>[(0,.H .box (bz {h with G:=(newsK h.G p i).1})),(1,.H .one [I (size)]),(5,.H .one [I ((N:Nat):Int)]),(6,.H .one (bO .own J)),(7,.H .one [I (p)]),(9,.H .one [I ((i:Nat):Int)])]) (λi=>i<=N/\(newsK h.G p i).2=i) (λi=>N - i) (0) ?_ (⟨T0 _,rfl⟩) λi l=>?_
  ·exact wC
  obtain⟨L,M⟩:=l;have s:=lf.of (p:=p) (n:=N) Q.ker ω ⟨S,K⟩ B i L;have Y:=s.calls;have Z:=s.len;by_cases li:i<N
  ·have O:(nth (newsK h.G p i).1.F.R.J (p+(i:Nat)).toNat).j=0:=by
    rw[s.out _ (by rw[M];omega)];exact B _ ω ω
   have c:=DE {h with G:=(newsK h.G p i).1} (p+(i:Nat)) s.ker (by show(newsK h.G p i).1.Calls≠100000;omega) ⟨ω,by show p+(i:Nat)<((newsK h.G p i).1.F.R.J.length:Nat);omega⟩ O;have a:newsK h.G p (i+1)=((newK (newsK h.G p i).1 (p+(i:Nat))).1,if(newK (newsK h.G p i).1 (p+(i:Nat))).2=true then i+1 else i):=by
    show(if(newsK h.G p i).2=i then _ else _)=_;rw[C9 M]
   simp only at c;cases e:(newK (newsK h.G p i).1 (p+(i:Nat))).2 with
   | true=>
    rw[e]at c a;rw[C9 rfl]at a;have P:(newK (newsK h.G p i).1 (p+(i:Nat))).1=(newsK h.G p (i+1)).1:=by rw[a]
    rw[P]at c
    repeat'(first|refine gD ?_|(conv=>whnf);first|refine CB ?_|refine CJ (c) (.inl rfl) ?_)
    ((conv=>whnf);refine CD (i+1) ⟨ω,by rw[a]⟩ ω ?_;(exact wC))
   | false=>
    rw[e]at c a;rw[C8 (by simp)]at a;have d:=mL (k:=h.G) (p:=p) (i:=i+1) (by rw[a];simp only;omega) (N - (i+1));rw[show i+1+(N - (i+1))=N by omega]at d;rw[d.1]at d;have T:=lf.of (p:=p) (n:=N) Q.ker ω ⟨S,K⟩ B (i+1) ω;rw[C8 (by have:=mL (k:=h.G) (p:=p) (i:=i+1) (by rw[a];simp only;omega) (N - (i+1));rw[show i+1+(N - (i+1))=N by omega]at this;omega)];rw[show newsK h.G p N=newsK h.G p (i+1) by have:=mL (k:=h.G) (p:=p) (i:=i+1) (by rw[a];simp only;omega) (N - (i+1));rw[show i+1+(N - (i+1))=N by omega]at this;exact this.1];rw[a]at T |-;have g:=T.ker;simp only at g |-;generalize (newK (newsK h.G p i).1 (p+(i:Nat))).1=k at c g |-
    repeat'(first|refine gD ?_|(conv=>whnf);first|refine CB ?_|refine CJ (c) (.inl rfl) ?_)
    (conv=>whnf)
    refine CE (ι:=Nat) (λj=>[(0,.H .box (bz {h with G:=unmN k p j})),(1,.H .one [I (size)]),(5,.H .one [I ((N:Nat):Int)]),(7,.H .one [I (p)]),(9,.H .one [I ((i:Nat):Int)]),(10,.H .one [I ((j:Nat):Int)])]) (λj=>j<=i) (λj=>i - j) (0) ?_ (T0 _) λj hj=>?_
    ·exact wC
    have c4:=mV {h with G:=unmN k p j} (p+(j:Nat)) (iM g p j);by_cases lj:j<i
    ·repeat'(first|refine gD ?_|(conv=>whnf);first|refine CB ?_|refine CJ (c4) (.inl rfl) ?_)
     ((conv=>whnf);refine CD (j+1) ω ω ?_;(exact wC))
    obtain rfl:j=i:=ω
    repeat'(first|refine gD ?_|(conv=>whnf);first|refine CB ?_)
    refine CF rfl rfl ?_;exact wC
  obtain rfl:i=N:=ω
  rw[C9 M];generalize (newsK h.G p i).1=k
  repeat'(first|refine gD ?_|(conv=>whnf);first|refine CB ?_)
  (conv=>whnf)
  refine CE (ι:=Nat) (λm=>[(0,.H .box (bz {h with G:=k,q:=J})),(1,.H .one [I (size)]),(5,.H .one [I ((i:Nat):Int)]),(7,.H .one [I (p)]),(11,.H .one [I ((m:Nat):Int)])]) (λm=>m<=h.K.length/\∀(j:Nat)(z:a8),j<m->h.K[j]? = some z->Ps p z=false) (λm=>h.K.length - m) (0) ?_ (⟨T0 _,λj z hj=>ω⟩) λm hm=>?_
  ·exact wC
  obtain⟨hm',U⟩:=hm;have hl2:({h with G:=k,q:=J} : ab).K.length=h.K.length:=rfl;by_cases go:m<h.K.length/\(nth h.K m).Q<p
  ·have o:=ao go.1
   repeat'(first|refine gD ?_|(conv=>whnf);first|with_reducible refine CC (aa o) ?_|refine CB ?_|refine CH rfl (aa o) rfl ?_)
   ((conv=>whnf);refine CD (m+1) ⟨ω,d4 o (R0 ω) U⟩ ω ?_;(exact wC))
  have w:ki (Ps p) h.K=m:=uH ω U λz C=>by
   have hlt:=(Z1.1 C).1;have:z=nth h.K m:=(bc C).symm;subst this;exact O0 ω
  have o:m<h.K.length->h.K[m]? = some (nth h.K m):=λhh=>ao hh
  rw[uW w]
  repeat'(first|refine gD ?_|(conv=>whnf);first|with_reducible (first|refine CC (aa (o ω)) ?_|refine Bf.D (λhq=>?_) (λhq=>?_))|refine CB ?_|refine CH rfl (aa (o ω)) rfl ?_|refine EF.mk rfl (y9 h.K) rfl ?_|refine CV m rfl (by rw[X0];omega) (aQ λ_=>rfl) Y3 ?_|refine Sl.suf m rfl (by rw[X0];omega) (aQ λ_=>rfl) Z3 ?_|refine CR (λ_=>rfl) (λ_=>rfl) (by rw[O1];omega) (by decide) ?_|refine Ap.sn (aQ λ_=>rfl) rfl (by rw[X0,O1];omega) (by decide) rfl ?_|refine Ap.ins (e:=a8.enc .X) (y:=⟨p,(i:Nat),size⟩) rfl (λ_=>rfl) (λ_=>rfl) ω (by decide) ?_)
  all_goals
   refine CF rfl ?_ ?_
   ·exact U0 (λz=>[I z]) ω
   exact wC
theorem Dp{k:ah}(h:a7 k=true)(b:iX k.y):ah.wf k:=by
 obtain⟨p,f,g,q,t⟩:=aD.1 h;obtain⟨u,w,y,A⟩:=aW.1 f;obtain⟨i,B,C⟩:=bx.1 g;refine⟨⟨⟨⟨ω,λr b=>?_⟩,⟨ω,λ_ _=>trivial⟩⟩,⟨ω,λe l=>?_⟩⟩,⟨ω,ω⟩,b⟩
 ·obtain⟨j,c,rfl⟩:=aJ b
  obtain⟨D,n⟩:=sN h c;exact⟨ω,λv o=>by have:=n v o;exact⟨ω,ω⟩⟩
 obtain⟨j,c,rfl⟩:=aJ l;have a:=i j c;unfold jS at a;rw[C0]at a;by_cases d:(nth k.F.R.J j).j=0
 ·have:=a.2.2.1 d;exact⟨⟨ω,ω⟩,⟨ω,ω⟩⟩
 have:=a.2.2.2 d;exact⟨⟨ω,ω⟩,⟨ω,ω⟩⟩
theorem Gz{p:cM}(h:ew p=true):cM.wf p:=by
 have a:=λi b=>fR h (i:=i) b
 have e:p.S.length<=16:=lQ h;unfold ew at h;simp only[I0,C0]at h;exact⟨⟨ω,ω⟩,⟨ω,ω⟩,⟨ω,λv c=>by
   obtain⟨j,d,rfl⟩:=aJ c;have:=a j d;exact⟨ω,ω⟩⟩⟩
theorem aV.jobWf{h:ab}{E:List Int}(a:aV h E):cK.wf h.Y/\cK.sml h.Y:=by
 cases b:h.u with
 | true=>
  obtain⟨c,f,g,i,j⟩:=dq.1 (a.job b).1;have k:=lQ c;exact⟨⟨Gz c,⟨ω,ω⟩,⟨ω,ω⟩⟩,by show h.Y.W.S.length<=1048576;omega⟩
 | false=>
  have:=a.noj b;unfold qO at this;rw[C0]at this;obtain⟨l,n,e,o,p⟩:=this;refine⟨⟨⟨⟨ω,ω⟩,⟨ω,ω⟩,⟨ω,λv d=>?_⟩⟩,⟨ω,ω⟩,⟨ω,ω⟩⟩,by show h.Y.W.S.length<=1048576;omega⟩;rw[W6 e]at d;cases d
theorem wO{n:Int}(h:0<=aI n):1<=n/\n<=8:=by
 unfold aI at h
 repeat' split at h
 all_goals omega
theorem jH.wf{h:ab}{E:List Int}(b:aV h E){a c:Int}(d:jH h.M a c):mq a:=by
 have:=d.bd b;exact⟨ω,ω⟩
theorem aV.wf{h:ab}{E:List Int}(d:aV h E)(M:iX h.G.y):ab.wf h:=by
 have q:=d.lens;have r:=d.L;have D:=d.nums;unfold cg at D;rw[C0]at D;obtain⟨X,N,Y⟩:=fA.1 d.rng;obtain⟨O,-,-,Z,q5,-⟩:=jA.1 d.quar;have w:=d.mail;have k:=d.hfl;unfold aL at k;rw[C9 w]at k;unfold bJ at w;simp only[I0,C0,cH,gv,W3,mz,NY]at w;obtain⟨⟨⟨m1,m2,m3⟩,P⟩,m5⟩:=w;have A:=q.free;have Q:=q.spans;have h3:=q.larges;have h4:=q.objs;have h5:=q.caches;have h6:=q.quar;have t:∀n:Nat,bu h.w n<=bu h.w (n+1):=λn=>by simp only[bu];omega
 have g:∀a b:Nat,a<=b->bu h.w a<=bu h.w b:=λa b u=>by
  induction u with
  | refl=>exact W4 _
  | step _ R=>exact Int.le_trans R (t _)
 have B:∀n:Nat,0<=bu h.w n:=λn=>g 0 n (T0 _)
 have o:∀i,i<h.w.U.length->(nth h.w.U i).length<=30/\(nth h.w.a0 i).length<=30:=λi f=>by
  have F:=g (i+1) h.w.U.length ω;have S:=B i;simp only[bu]at F;omega
 refine⟨Dp d.ker M,⟨ω,λx e=>?_⟩,⟨ω,λx e=>?_⟩,⟨ω,λx e=>?_⟩,⟨ω,λx e=>?_⟩,⟨ω,λx e=>?_⟩,⟨⟨ω,λl c=>?_⟩,⟨ω,λl c=>?_⟩⟩,⟨⟨ω,ω⟩,⟨ω,λx e=>?_⟩⟩,⟨ω,ω⟩,⟨ω,ω⟩,⟨ω,ω⟩,⟨ω,ω⟩,trivial,d.jobWf.1⟩
 ·have:=N x e;exact⟨⟨ω,ω⟩,⟨ω,ω⟩⟩
 ·have y:=r.sok x e
  have G:=eC y;have T:=aC y;exact⟨⟨ω,ω⟩,⟨ω,ω⟩,⟨ω,ω⟩⟩
 ·have H:=aM (r.lok x e)
  have J:=cw (r.lok x e);exact⟨⟨ω,ω⟩,⟨ω,ω⟩,⟨ω,ω⟩⟩
 ·obtain⟨o1,o2,o3,o4⟩:=d.onu x e
  have u:0<=x.Addr/\x.Addr<512/\-1000<=x.o/\x.o<=1000:=by
   rcases d.oow x e with⟨s,y,A,Q⟩|⟨l,c,F,S⟩
   ·have T:=aC (r.sok s y)
    have:=wO (n:=x.o) ω;exact⟨by have:=A.1;omega,by have:=A.2.1;omega,ω,ω⟩
   have H:=aM (r.lok l c);have J:=cw (r.lok l c);omega
  exact⟨⟨ω,ω⟩,⟨ω,ω⟩,⟨ω,ω⟩,⟨ω,ω⟩⟩
 ·obtain⟨c1,U⟩:=q.lists x e
  refine⟨ω,λl c=>⟨by have:=U l c;omega,λa C=>?_⟩⟩;obtain⟨j,V,rfl⟩:=aJ c;exact jH.wf d (d.hca x e j V a C)
 ·obtain⟨i,f,rfl⟩:=aJ c
  have G:=o i f;refine⟨ω,λp K=>?_⟩;have W:=(P i f).1 p K;exact⟨⟨ω,ω⟩,jH.wf d (k p.Addr (U2.2 (.inl (List.mem_flatMap.2 ⟨_,am f,C4.2 ⟨p,K,rfl⟩⟩))))⟩
 ·obtain⟨i,f,rfl⟩:=aJ c
  have G:=o i ω;exact⟨ω,λa C=>jH.wf d (k a (U2.2 (.inr (List.mem_flatten.2 ⟨_,am f,C⟩))))⟩
 have H:=O x e;have J:=d.snc x e;exact⟨jH.wf d (d.hqu x e),⟨ω,ω⟩,⟨ω,ω⟩⟩
structure Ro(h:ab):Prop where
 ker:a7 h.G=true
 wf:ab.wf h
 sml:ab.sml h
 lens:ND h
theorem aV.fit{h:ab}{E:List Int}(a:aV h E)(b:iX h.G.y)(c:aK.sml h.w):Ro h:=⟨a.ker,a.wf b,a.lens.sml a.ker c a.jobWf.2,a.lens⟩
theorem F8{h:ab}(b:aV h [])(c:h.u=true):a7 (mStep h).G=true/\(mStep h).G.Calls<=h.G.Calls+1/\(mStep h).G.y=h.G.y/\(mStep h).w=h.w/\(Dv h=true->(mStep h).u=false)/\cK.wf (mStep h).Y/\cK.sml (mStep h).Y:=by
 have s:=JS.of b c;refine⟨s.ker,s.calls.2.1,s.calls.2.2,rfl,λa=>?_,?_⟩
 ·unfold Dv at a
  rw[C0]at a;show(if over _=true then false else h.u)=false;rw[C9 (show over (gE h.G h.Y).2=true from O0 (.inl a))]
 show cK.wf (if over _=true then _ else _)/\cK.sml (if over _=true then _ else _);split
 ·exact⟨⟨⟨⟨by decide,by decide⟩,⟨by decide,by decide⟩,⟨by decide,λv f=>by cases f⟩⟩,⟨by decide,by decide⟩,⟨by decide,by decide⟩⟩,by show(0:Nat)<=1048576;omega⟩
 have d:=(dq.1 (b.job c).1).1;have g:=lQ d;obtain⟨j,k⟩:=s.ph;obtain⟨l,i⟩:=s.nxt;have e:=s.plan;refine⟨⟨by rw[e];exact Gz d,⟨ω,ω⟩,⟨ω,by rw[e]at i;omega⟩⟩,by show((gE h.G h.Y).2.W.S).length<=1048576;rw[e];omega⟩
def ur(h:ab):Nat->ab × Bool
 | 0=>(h,false)
 | i+1=>if(ur h i).1.u=true then(mStep (ur h i).1,Dv (ur h i).1) else ur h i
def fin(h:ab):ab × Bool:=ur h 100
theorem BV{h:ab}(g:aV h []):aV (started h).1 []/\(started h).1.G=h.G/\(started h).1.w=h.w:=by
 have t:=g.nums;unfold cg at t;rw[C0]at t;have u:=(lX (bB h).length (show 0<=h.c0/\h.c0<=1073741823 by omega) ((bB h).length - 1)).2;have j:=nl (bB h) (show 0<=h.c0/\h.c0<=1073741823 by omega);have c:cg {h with c0:=(shuf (bB h).length h.c0).2} = true:=by
  unfold cg;rw[C0];unfold shuf;simp only;omega
 cases k:lh (bB h) h.c0 with
 | nil=>
  have f:Ab.started h=({h with c0:=(shuf (bB h).length h.c0).2},false):=by unfold Ab.started;rw[k]
  rw[f];exact⟨{g with nums:=c},rfl,rfl⟩
 | cons q C=>
  obtain⟨D,E,l⟩:=j q (by rw[k];exact R1 ..);have f:Ab.started h=({h with c0:=(shuf (bB h).length h.c0).2,u:=true,Y:=sE (dc (nth (bB h) q.A.toNat) (nth (bB h) q.B.toNat))},true):=by unfold Ab.started;rw[k]
  rw[f];have d:∀s∈bB h,s∈h.M:=λs w=>lY h (W2 _) s (List.mem_of_mem_take w)
  have n:=d _ (am (xs:=bB h) (i:=q.A.toNat) ω);have o:=d _ (am (xs:=bB h) (i:=q.B.toNat) ω);generalize nth (bB h) q.A.toNat=a at l n |-;generalize nth (bB h) q.B.toNat=b at l o |-;obtain⟨y,F,G⟩:=sR l;have p:jx (sE (dc a b))=true:=dq.2 ⟨y,by show(0:Int)<=0;omega,by show(0:Int)<=5;omega,by show(0:Int)<=0;omega,by show(0:Int)<=(((dc a b).S.length:Nat):Int);omega⟩;have r:(∃s∈h.M,s.Q=(dc a b).a4)/\∃s∈h.M,s.Q=(dc a b).a1:=by
   unfold dc;split
   ·exact⟨⟨b,o,rfl⟩,⟨a,n,rfl⟩⟩
   exact⟨⟨a,n,rfl⟩,⟨b,o,rfl⟩⟩
  exact⟨{g with nums:=c,job:=λ_=>⟨p,r⟩,noj:=λe=>by cases e},rfl,rfl⟩
theorem aV.objSz{h:ab}{E:List Int}(a:aV h E):∀o∈h.O,0<=o.o/\o.o<=1000:=λx c=>by
 rcases a.oow x c with⟨s,d,e,f⟩|⟨l,b,g,i⟩
 ·have j:=aC (a.L.sok s d)
  have:=wO (n:=x.o) ω;omega
 have k:=cw (a.L.lok l b);omega
theorem Jx{h:ab}(t:Int){size:Int}(c:aV h [])(d:9<=size/\size<=1000):largeA h t size=if(HI h size).2<0 then((HI h size).1,-1,4) else(addO (HI h size).1 (HI h size).2 size t,(HI h size).2,0):=by
 unfold largeA HI;by_cases a:(au h.q (gL size:Nat)).2.2=false
 ·rw[C9 a,C9 a]
  exact(C9 (show(-1:Int)<0 by decide)).symm
 rw[C8 a,C8 a];obtain⟨e,-⟩:=jm c (show(1:Int)<=(gL size:Nat) by unfold gL;omega) (by simpa using a);by_cases b:(d7 h size).2=gL size
 ·rw[C9 b,C9 b]
  exact(C8 (show ¬16*(au h.q (gL size:Nat)).2.1<0 by omega)).symm
 rw[C8 b,C8 b];exact(C9 (show(-1:Int)<0 by decide)).symm
theorem xQ(h:ab)(t size:Int)(k:aV h []):aS Tryz.prog 71 false [.ptr (bz h),.val none [I t],.val none [I size]] [.ptr (bz (allocH h t size).1),.val none [I t],.val none [I size]] (.tup [none,none]) [I (allocH h t size).2.1,I (allocH h t size).2.2]:=by
 have X:=k.lens;have hlc:=X.caches;have P:=X.objs;have p:=k.nums;unfold cg at p;rw[C0]at p;have Q:=sH k.objSz h.O.length (W2 _);change 0<=so h/\so h<=_ at Q;have n:=aF t 0 ((h.T.length:Int) - 1);have r:=aF size 1 1000;have E:=vr h k.objSz ω;have F:=jZ size;refine fM 119 [(236,[2,0,0]),(237,[2,0])] [(7,10,[36,37,38,39,40,41,42,43,44,45]),(18,272,[81,82,83,84,85,86,87,89,90,91,92,93,94,95,96,97,0,1,2,3,4,5,6,8,9,10,11,12,13,14,15,16,1016,7,1008,1009,1010,1011,1012,1013,1014,1015,1016,17,18]),(1048594,0,[8])] [(0,0),(0,0),(0,0)] Tryz.func71 rfl (λu q=>?_) (.inr ⟨trivial,trivial,trivial⟩);unfold allocH;by_cases h1:1000000<=h.a
 ·rw[C9 (.inl h1)]
  repeat'(first|refine gD ?_|(conv=>whnf);first|refine CB ?_)
  refine CF rfl rfl ?_;exact wC
 by_cases h2:90000<h.G.Calls
 ·rw[C9 (.inr h2)]
  repeat'(first|refine gD ?_|(conv=>whnf);first|with_reducible refine Bf.D (λb=>?_) (λb=>?_)|refine CB ?_)
  refine CF rfl rfl ?_;exact wC
 rw[C8 ω];by_cases C:¬(0<=t/\t<=h.T.length - 1)
 ·rw[C9 C]
  rw[R0 C]at n
  repeat'(first|refine gD ?_|(conv=>whnf);first|with_reducible refine Bf.D (λb=>?_) (λb=>?_)|refine CB ?_|refine C7 (n) ?_)
  refine CF rfl rfl ?_;exact wC
 rw[C8 C];replace C:=Decidable.not_not.1 C;rw[O0 C]at n;by_cases B:¬(1<=size/\size<=1000)
 ·rw[C9 B]
  rw[R0 B]at r
  repeat'(first|refine gD ?_|(conv=>whnf);first|with_reducible refine Bf.D (λb=>?_) (λb=>?_)|refine CB ?_|refine C7 (n) ?_|refine C7 (r) ?_)
  refine CF rfl rfl ?_;exact wC
 rw[C8 B];replace B:=Decidable.not_not.1 B;rw[O0 B]at r;by_cases Y:h.c3<so h+size
 ·rw[C9 Y]
  repeat'(first|refine gD ?_|(conv=>whnf);first|with_reducible refine Bf.D (λb=>?_) (λb=>?_)|refine CB ?_|refine C7 (n) ?_|refine C7 (r) ?_|refine CG (E) ⟨⟨rfl,bD h⟩,trivial⟩ ?_|refine CB ?_)
  refine CF rfl rfl ?_;exact wC
 rw[C8 Y];by_cases G:0<=aI size
 ·rw[C9 G]
  have hc3:aI size<=3:=by unfold aI;repeat' split<;>omega
  obtain⟨T,rfl⟩:=R2 C.1;obtain⟨K,hK⟩:=R2 G;have o:=xZ h T K k ω ω ω;have s:=sP (t:=T) (c:=K) k ω ω ω;rw[hK]at F |-;simp only[O2];generalize smallA h T K=w at o s |-;obtain⟨g,a⟩:=w;have H:g.a=h.a:=s.nx;simp only at o |-;by_cases J:a<0
  ·rw[C9 J]
   repeat'(first|refine gD ?_|(conv=>whnf);first|with_reducible refine Bf.D (λb=>?_) (λb=>?_)|refine CB ?_|refine C7 (n) ?_|refine C7 (r) ?_|refine CG (E) ⟨⟨rfl,bD h⟩,trivial⟩ ?_|refine CB ?_|refine C7 (F) ?_|refine CJ (o) (.inl rfl) ?_)
   refine CF rfl rfl ?_;exact wC
  rw[C8 J];obtain⟨k1,k2⟩:=s.yes (show(0:Int)<=a by omega);have R:g.O.length<=512:=k1.lens.objs
  repeat'(first|refine gD ?_|(conv=>whnf);first|with_reducible refine Bf.D (λb=>?_) (λb=>?_)|refine CB ?_|refine C7 (n) ?_|refine C7 (r) ?_|refine CG (E) ⟨⟨rfl,bD h⟩,trivial⟩ ?_|refine CB ?_|refine C7 (F) ?_|refine CJ (o) (.inl rfl) ?_)
  (conv=>whnf)
  refine CE (ι:=Nat) (λi=>[(0,.H .box (bz g)),(1,.H .one [I ((T:Nat):Int)]),(2,.H .one [I (size)]),(8,.H .one [I (a)]),(9,.H .one [I ((i:Nat):Int)])]) (λi=>i<=g.O.length/\∀(j:Nat)(z:br),j<i->g.O[j]? = some z->M9 a z=false) (λi=>g.O.length - i) (0) ?_ (⟨T0 _,λj z hj=>ω⟩) λi k=>?_
  ·exact wC
  obtain⟨S,L⟩:=k;by_cases U:i<g.O.length/\(nth g.O i).Addr<a
  ·have d:=ao U.1
   repeat'(first|refine gD ?_|(conv=>whnf);first|with_reducible refine CC (aa d) ?_|refine CB ?_|refine CH rfl (aa d) rfl ?_)
   ((conv=>whnf);refine CD (i+1) ⟨ω,d4 d (R0 ω) L⟩ ω ?_;(exact wC))
  have l:ki (M9 a) g.O=i:=uH ω L λz M=>by
   have V:=(Z1.1 M).1;have:z=nth g.O i:=(bc M).symm;subst this;exact O0 ω
  have d:i<g.O.length->g.O[i]? = some (nth g.O i):=λW=>ao W
  rw[show addO g a size (T:Nat) = {g with O:=g.O.take i++⟨g.a,a,size,(T:Nat)⟩::g.O.drop i,a:=g.a+1} by unfold addO;rw[uW l]]
  repeat'(first|refine gD ?_|(conv=>whnf);first|with_reducible (first|refine CC (aa (d ω)) ?_|refine Bf.D (λb=>?_) (λb=>?_))|refine CB ?_|refine CH rfl (aa (d ω)) rfl ?_|refine EF.mk rfl (Bh g.O) rfl ?_|refine CV i rfl (by rw[X0];omega) (aQ λ_=>rfl) Y3 ?_|refine Sl.suf i rfl (by rw[X0];omega) (aQ λ_=>rfl) Z3 ?_|refine CR (λ_=>rfl) (λ_=>rfl) (by rw[O1];omega) (by decide) ?_|refine Ap.sn (aQ λ_=>rfl) rfl (by rw[X0,O1];omega) (by decide) rfl ?_|refine Ap.ins (e:=br.enc .X) (y:=⟨g.a,a,size,(T:Nat)⟩) rfl (λ_=>rfl) (λ_=>rfl) ω (by decide) ?_|refine CB ?_)
  all_goals
   refine CF rfl rfl ?_;exact wC
 rw[C8 G];have N:9<=size:=by unfold aI at G;repeat' split at G<;>omega
 have o:=yg h size k ⟨N,B.2⟩ ω;rw[Jx t k ⟨N,B.2⟩];have Z:(HI h size).1.a=h.a/\(HI h size).1.O=h.O:=by
  unfold HI;split
  ·exact⟨rfl,rfl⟩
  split<;>exact⟨rfl,rfl⟩
 generalize HI h size=w at o Z |-;obtain⟨g,a⟩:=w;obtain⟨H,O⟩:=Z;simp only at o H O |-;have R:g.O.length<=512:=by rw[O];exact P
 by_cases J:a<0
 ·rw[C9 J]
  repeat'(first|refine gD ?_|(conv=>whnf);first|with_reducible refine Bf.D (λb=>?_) (λb=>?_)|refine CB ?_|refine C7 (n) ?_|refine C7 (r) ?_|refine CG (E) ⟨⟨rfl,bD h⟩,trivial⟩ ?_|refine CB ?_|refine C7 (F) ?_|refine CJ (o) (.inl rfl) ?_)
  refine CF rfl rfl ?_;exact wC
 rw[C8 J]
 repeat'(first|refine gD ?_|(conv=>whnf);first|with_reducible refine Bf.D (λb=>?_) (λb=>?_)|refine CB ?_|refine C7 (n) ?_|refine C7 (r) ?_|refine CG (E) ⟨⟨rfl,bD h⟩,trivial⟩ ?_|refine CB ?_|refine C7 (F) ?_|refine CJ (o) (.inl rfl) ?_)
 (conv=>whnf)
 refine CE (ι:=Nat) (λi=>[(0,.H .box (bz g)),(1,.H .one [I (t)]),(2,.H .one [I (size)]),(8,.H .one [I (a)]),(9,.H .one [I ((i:Nat):Int)])]) (λi=>i<=g.O.length/\∀(j:Nat)(z:br),j<i->g.O[j]? = some z->M9 a z=false) (λi=>g.O.length - i) (0) ?_ (⟨T0 _,λj z hj=>ω⟩) λi k=>?_
 ·exact wC
 obtain⟨S,L⟩:=k;by_cases U:i<g.O.length/\(nth g.O i).Addr<a
 ·have d:=ao U.1
  repeat'(first|refine gD ?_|(conv=>whnf);first|with_reducible refine CC (aa d) ?_|refine CB ?_|refine CH rfl (aa d) rfl ?_)
  ((conv=>whnf);refine CD (i+1) ⟨ω,d4 d (R0 ω) L⟩ ω ?_;(exact wC))
 have l:ki (M9 a) g.O=i:=uH ω L λz M=>by
  have V:=(Z1.1 M).1;have:z=nth g.O i:=(bc M).symm;subst this;exact O0 ω
 have d:i<g.O.length->g.O[i]? = some (nth g.O i):=λW=>ao W
 rw[show addO g a size t = {g with O:=g.O.take i++⟨g.a,a,size,t⟩::g.O.drop i,a:=g.a+1} by unfold addO;rw[uW l]]
 repeat'(first|refine gD ?_|(conv=>whnf);first|with_reducible (first|refine CC (aa (d ω)) ?_|refine Bf.D (λb=>?_) (λb=>?_))|refine CB ?_|refine CH rfl (aa (d ω)) rfl ?_|refine EF.mk rfl (Bh g.O) rfl ?_|refine CV i rfl (by rw[X0];omega) (aQ λ_=>rfl) Y3 ?_|refine Sl.suf i rfl (by rw[X0];omega) (aQ λ_=>rfl) Z3 ?_|refine CR (λ_=>rfl) (λ_=>rfl) (by rw[O1];omega) (by decide) ?_|refine Ap.sn (aQ λ_=>rfl) rfl (by rw[X0,O1];omega) (by decide) rfl ?_|refine Ap.ins (e:=br.enc .X) (y:=⟨g.a,a,size,t⟩) rfl (λ_=>rfl) (λ_=>rfl) ω (by decide) ?_|refine CB ?_)
 all_goals
  refine CF rfl rfl ?_;exact wC
theorem F9(h:ab)(a n:Int)(t:h.K.length<=4096)(j:∀l∈h.K,bE l=true)(o:yk h a<0):aS Tryz.prog 531 false [.ptr (bz h),.val none [I a],.val none [I n]] [.ptr (bz h),.val none [I a],.val none [I n]] .one [B false]:=by
 have b:∀l∈h.K,l.Q*16≠a:=λl c e=>by
  have:=Ey (p:=Gr a) c (O0 e);unfold yk at o;omega
 refine fM 136 [(388,[2,0])] [(8,6,[49,50,51,52,53,54]),(9,10,[56,57,58,59,60,61,62,63,64,65]),(20,270,[123,124,125,126,127,128,129,130,131,122,132,133,134,135,0,1,2,3,4,5,6,7,8,9,10,11,12,13,14,1011])] [(0,0),(0,0),(0,0)] Tryz.func531 rfl (λu q=>?_)
 repeat'(first|refine gO ?_|(conv=>whnf);first|refine CB ?_)
 (conv=>whnf)
 refine CE (ι:=Nat) (λk=>[(0,.H .box (bz h)),(1,.H .one [I (a)]),(2,.H .one [I (n)]),(7,.H .one [I ((k:Nat):Int)])]) (λk=>k<=h.K.length) (λk=>h.K.length - k) (0) ?_ (T0 _) λk w=>?_
 ·repeat'(first|exact trivial|rfl |exact o6 r|exact o6 g|exact ee _|refine CK ?_ ?_|(exact DY (by first|omega|(simp only;omega)|(simp;omega))))
 by_cases d:k<h.K.length
 ·have i:=ao d
  have y:=b _ (am d);have C:=aM (j _ (am d))
  repeat'(first|refine gA ?_|(conv=>whnf);first|with_reducible refine CC (aa i) ?_|refine CB ?_|refine CH rfl (aa i) rfl ?_)
  ((conv=>whnf);refine CD (k+1) ω ω ?_;(exact wC))
 repeat'(first|refine gD ?_|(conv=>whnf);first|refine CB ?_)
 refine CF rfl rfl ?_;exact wC
theorem Qa(h:ab)(a:Int)(m:Nat):bz {h with G:=zK h.G a (m+1)} = (bz {h with G:=zK h.G a m}).set 0 (.s .own (((zK h.G a m).F.V.S.map (aG .own)).set (ac (zK h.G a m).F.R ((a+m) / 16)).e.toNat ((aG .own (nth (zK h.G a m).F.V.S (cL (zK h.G a m) (a+m)))).set 0 (.s .own (((nth (zK h.G a m).F.V.S (cL (zK h.G a m) (a+m))).map (rI .own)).set ((a+m) % 16).toNat (splice (rI .own (nth (nth (zK h.G a m).F.V.S (cL (zK h.G a m) (a+m))) ((a+m) % 16).toNat)) 0 [I 0])))))):=
 G3 {h with G:=zK h.G a m} (a+m) 0
def kV(h:ab)(i k:Nat)(n:Int)(K:ah):ab:={h with G:=K,K:=h.K.set k (trimL (nth h.K k) n),O:=h.O.set i {nth h.O i with o:=n}}
theorem J2(h:ab)(i k:Nat)(n:Int)(K:ah):(kV h i k n K).O.map (br.enc .own)=(h.O.map (br.enc .own)).set i (splice (br.enc .own (nth h.O i)) 2 [I n]):=by
 simp[kV,W5,br.enc,splice]
theorem qW(h:ab)(i:Nat)(n:Int)(j:aV h [])(H:i<h.O.length)(hg:0<=yk h (nth h.O i).Addr):aS Tryz.prog 531 false [.ptr (bz h),.val none [I (nth h.O i).Addr],.val none [I n]] [.ptr (bz (if kR h i n then trimH h i (yk h (nth h.O i).Addr).toNat n else h)),.val none [I (nth h.O i).Addr],.val none [I n]] .one [B (decide (kR h i n))]:=by
 have c:=j.lens;have hnl:=c.larges;have hno:=c.objs;have hpg:eM h<=32:=c.ents;obtain⟨f1,f2,f3⟩:=fx (Gr (nth h.O i).Addr) h.K hg;obtain⟨g,o⟩:=R2 hg;have b:g<h.K.length:=by unfold yk at o;omega
 have Y:(nth h.K g).Q*16=(nth h.O i).Addr:=by
  have:=of_decide_eq_true f2;rw[show(dD (Gr (nth h.O i).Addr) h.K).toNat=g by unfold yk at o;omega]at this;exact this
 have J:∀k,k<g->(nth h.K k).Q*16≠(nth h.O i).Addr:=λk hk e=>by
  have N:k<h.K.length:=ω
  have hok1:=aM (j.L.lok _ (am N));have hok2:=aM (j.L.lok _ (am b));have:=j.L.one k g N b 0 0 ω ω ω;omega
 have p:kR h i n↔9<=n/\n<=(nth h.K g).o:=by
  unfold kR;rw[o,O2];exact⟨λx=>x.2,λx=>⟨ω,x⟩⟩
 rw[o,O2];have hbd:=tl j (am H);obtain⟨-,Z,w⟩:=j.objAt (am H);have hii:o7 h (nth h.O i).Addr=i:=by
  have h2:=(j.objAt (am H)).1;exact cE (f:=(·.Addr)) (cN j.osr) h2 H (by rw[Z])
 rw[hii]at w;have E:=ao H;have hxg:=ao b;have V:=vb (nth h.K g) n (j.L.lok _ (am b));have h8:=j.L.lok _ (am b);unfold bE at h8;rw[C0]at h8;refine fM 136 [(388,[2,0])] [(8,6,[49,50,51,52,53,54]),(9,10,[56,57,58,59,60,61,62,63,64,65]),(20,270,[123,124,125,126,127,128,129,130,131,122,132,133,134,135,0,1,2,3,4,5,6,7,8,9,10,11,12,13,14,1011])] [(0,0),(0,0),(0,0)] Tryz.func531 rfl (λu q=>?_)
 repeat'(first|refine gO ?_|(conv=>whnf);first|refine CB ?_)
 (conv=>whnf)
 refine CE (ι:=Nat) (λk=>[(0,.H .box (bz h)),(1,.H .one [I ((nth h.O i).Addr)]),(2,.H .one [I (n)]),(7,.H .one [I ((k:Nat):Int)])]) (λk=>k<=g) (λk=>g - k) (0) ?_ (T0 _) λk hk=>?_
 ·repeat'(first|exact trivial|rfl |exact o6 r|exact o6 d|exact ee _|refine CK ?_ ?_|(exact DY (by first|omega|(simp only;omega)|(simp;omega))))
 have l:=ao (xs:=h.K) (i:=k) ω;have hfk:=aM (j.L.lok _ (am (xs:=h.K) (i:=k) ω));by_cases e:k=g;rotate_left
 ·have hne:=J k ω
  repeat'(first|refine gA ?_|(conv=>whnf);first|with_reducible refine CC (aa l) ?_|refine CB ?_|refine CH rfl (aa l) rfl ?_)
  ((conv=>whnf);refine CD (k+1) ω ω ?_;(exact wC))
 subst e;by_cases F:9<=n/\n<=(nth h.K k).o;rotate_left
 ·rw[C8 (by rw[p];exact F),R0 (by rw[p];exact F)]
  rw[C8 F]at V
  repeat'(first|refine gA ?_|(conv=>whnf);first|with_reducible refine CC (aa l) ?_|refine CB ?_|refine CH rfl (aa l) rfl ?_|refine C7 (V) ?_)
  refine CF rfl rfl ?_;exact wC
 rw[C9 (by rw[p];exact F),O0 (by rw[p];exact F)];rw[C9 F]at V;have y:=λm hm=>vB j b F (m:=m) hm
 have D:=λm=>(nP h.G (16*(nth h.K k).Q+n) m).1
 have O:=λa W=>jF j b (a:=a) W
 have hsz:n<=16*(nth h.K k).a2:=ω
 generalize hM:(16*((n+15) / 16) - n).toNat=M at *;have hfl:∀m,(zK h.G (16*(nth h.K k).Q+n) m).F.V.S.length=h.G.F.V.S.length:=λm=>by
  induction m with
  | zero=>rfl
  | succ m ih=>show(List.set _ _ _).length=_;rw[I1];exact ih
 have cO:=qp {h with K:=h.K.set k (trimL (nth h.K k) n)} (nth h.O i).Addr (by show h.O.length<=_;omega);change ar _ _ _ [.val (some 24) (ab.enc .X {h with K:=h.K.set k (trimL (nth h.K k) n)}),_] _ [I (dD (lz (nth h.O i).Addr) h.O)]at cO;rw[w]at cO;have Q:=bD {h with K:=h.K.set k (trimL (nth h.K k) n)};have heL:bz {h with K:=h.K.set k (trimL (nth h.K k) n)} = (bz h).set 7 (.s .own ((h.K.map (a8.enc .own)).set k (a8.enc .own (trimL (nth h.K k) n)))):=by simp[bz,W5]
 rw[heL]at Q
 repeat'(first|refine gA ?_|(conv=>whnf);first|with_reducible (first|refine CC (aa l) ?_|refine CC (aa E) ?_)|refine CB ?_|refine CH rfl (aa l) rfl ?_|refine C7 (V) ?_|refine CO rfl rfl (aa l) rfl (Z0 rfl) rfl ?_|refine CG (cO) ⟨⟨rfl,Q⟩,⟨rfl,rfl⟩,trivial⟩ ?_|refine CO rfl rfl (aa E) rfl (Z0 rfl) rfl ?_|refine CH rfl (aa E) rfl ?_|refine CB ?_)
 rw[<-Y];have e0:kV h i k n h.G=kV h i k n (zK h.G (16*(nth h.K k).Q+n) 0):=rfl;have r:C.s .own ((kV h i k n (zK h.G (16*(nth h.K k).Q+n) 0)).K.map (a8.enc .own))=C.s .own ((h.K.map (a8.enc .own)).set k (a8.enc .own (trimL (nth h.K k) n))):=by simp[kV,W5]
 have d:C.s .own ((kV h i k n (zK h.G (16*(nth h.K k).Q+n) 0)).O.map (br.enc .own))=C.s .own ((h.O.map (br.enc .own)).set i (splice (br.enc .own (nth h.O i)) 2 [I n])):=U0 _ (J2 h i k n _)
 (conv=>whnf)
 refine CE (ι:=Nat) (λm=>[(0,.H .box (bz (kV h i k n (zK h.G (16*(nth h.K k).Q+n) m)))),(1,.H .one [I (((nth h.K k).Q*16))]),(8,.H .box (a8.enc .own (trimL (nth h.K k) n))),(9,.H .box (aA.enc .own (xf (nth h.K k) n))),(11,.H .one [I (((16*(nth h.K k).Q+n)+(m:Nat)))])]) (λm=>m<=M) (λm=>M - m) (0) ?_ (T0 _) λm hm=>?_
 ·repeat'(first|exact trivial|rfl |exact o6 r|exact o6 d|exact ee _|refine CK ?_ ?_|(exact DY (by first|omega|(simp only;omega)|(simp;omega))))
 have hmod:IntKind.i64.wrap 0=0:=rfl;by_cases lm:m<M
 ·have W:0<=(16*(nth h.K k).Q+n)+(m:Nat)/\(16*(nth h.K k).Q+n)+(m:Nat)<512:=ω
  have R:=O ((16*(nth h.K k).Q+n)+(m:Nat)) ω;have t:=y m hm;rw[<-D m]at R;have hks:=bH t;have c2:=db (zK h.G (16*(nth h.K k).Q+n) m).F.R (((16*(nth h.K k).Q+n)+(m:Nat)) / 16) hks.1.2;obtain⟨-,-,-,q0,q1⟩:=bX t R;have hul:=(aW.1 (aD.1 t).2.1).2.2.1;have S:cL (zK h.G (16*(nth h.K k).Q+n) m) ((16*(nth h.K k).Q+n)+(m:Nat))<(zK h.G (16*(nth h.K k).Q+n) m).F.V.S.length:=by unfold cL;omega
  have G:(zK h.G (16*(nth h.K k).Q+n) m).F.V.S[(ac (zK h.G (16*(nth h.K k).Q+n) m).F.R (((16*(nth h.K k).Q+n)+(m:Nat)) / 16)).e.toNat]? = some _:=ao S;have h16:=(sN t S).1;have T:=ao (xs:=nth (zK h.G (16*(nth h.K k).Q+n) m).F.V.S (cL (zK h.G (16*(nth h.K k).Q+n) m) ((16*(nth h.K k).Q+n)+(m:Nat)))) (i:=(((16*(nth h.K k).Q+n)+(m:Nat)) % 16).toNat) (by rw[h16];omega);have htm:((16*(nth h.K k).Q+n)+(m:Nat)).tmod 16=((16*(nth h.K k).Q+n)+(m:Nat)) % 16:=eR W.1;have hpu:=Qa (kV h i k n h.G) (16*(nth h.K k).Q+n) m;have hwr:=pB W;have hst:(trimL (nth h.K k) n).a2=(n+15) / 16:=rfl
  repeat'(first|refine gD ?_|(conv=>whnf);first|refine CB ?_|refine CN (by decide) ?_|refine CL hwr ?_|refine CS htm ?_|refine CG (c2) ⟨⟨rfl,CZ _⟩,⟨rfl,rfl⟩,trivial⟩ ?_|refine CM q0 (aa G) ?_|refine CH rfl (aa G) rfl ?_|refine CM ω (aa T) ?_|refine Pu.two rfl rfl (aa G) rfl rfl rfl (aa T) rfl (W2 _) hpu ?_)
  ((conv=>whnf);refine CD (m+1) ω ω ?_;(exact wC))
 obtain rfl:m=M:=ω
 have hst:(trimL (nth h.K k) n).a2=(n+15) / 16:=rfl;have hkM:=y m (W2 _);have U:(zK h.G (16*(nth h.K k).Q+n) m).F.R.J.length=eM h:=by rw[D];rfl
 have hTK:jR h k n=zK h.G (16*(nth h.K k).Q+n) m:=by unfold jR;rw[hM]
 unfold trimH GT;rw[hTK];generalize zK h.G (16*(nth h.K k).Q+n) m=K at *;have hN:((dt (nth h.K k) n:Nat):Int)=(nth h.K k).a2 - (n+15) / 16:=by unfold dt;omega
 have hrA:0<dt (nth h.K k) n->xf (nth h.K k) n = ⟨(nth h.K k).Q+(n+15) / 16,(dt (nth h.K k) n:Nat)⟩:=λhp=>by unfold xf;rw[C9 ω,hN]
 have hrB:¬0<dt (nth h.K k) n->xf (nth h.K k) n = ⟨0,0⟩:=λhp=>by unfold xf;rw[C8 ω]
 generalize dt (nth h.K k) n=P at *;by_cases X:0<P
 ·rw[C9 X]
  have hr:=hrA X;rw[hr]
  repeat'(first|refine gD ?_|(conv=>whnf);first|refine CB ?_)
  (conv=>whnf)
  refine CE (ι:=Nat) (λx=>[(0,.H .box (bz (kV h i k n (unmN K ((nth h.K k).Q+(n+15) / 16) x)))),(9,.H .box ([I ((nth h.K k).Q+(n+15) / 16),I (P:Nat)])),(13,.H .one [I (((nth h.K k).Q+(n+15) / 16+(x:Nat)))])]) (λx=>x<=P) (λx=>P - x) (0) ?_ (T0 _) λx l=>?_
  ·repeat'(first|exact trivial|rfl |exact o6 r|exact o6 d|exact ee _|refine CK ?_ ?_|(exact DY (by first|omega|(simp only;omega)|(simp;omega))))
  by_cases lx:x<P
  ·have c3:=mV (kV h i k n (unmN K ((nth h.K k).Q+(n+15) / 16) x)) ((nth h.K k).Q+(n+15) / 16+(x:Nat)) (iM hkM _ _)
   repeat'(first|refine gD ?_|(conv=>whnf);first|refine CB ?_|refine CJ (c3) (.inl rfl) ?_)
   ((conv=>whnf);refine CD (x+1) ω ω ?_;(exact wC))
  obtain rfl:x=P:=ω
  have c4:=gV (kV h i k n (unmN K ((nth h.K k).Q+(n+15) / 16) x));rw[show eM (kV h i k n (unmN K ((nth h.K k).Q+(n+15) / 16) x))=eM h from(fo _ _ _).1.trans U]at c4;have c5:=lJ (eM h:Nat) h.q ⟨(nth h.K k).Q+(n+15) / 16,(x:Nat)⟩ ⟨ω,ω⟩ ⟨by have:=c.free;omega,λ_ _=>trivial⟩
  repeat'(first|refine gD ?_|(conv=>whnf);first|refine CB ?_|refine CG (c4) ⟨bD _,trivial⟩ ?_|refine CG (c5) ⟨⟨rfl,rfl⟩,⟨rfl,dZ h.q⟩,⟨rfl,rfl⟩,trivial⟩ ?_|refine CB ?_)
  refine CF rfl rfl ?_;exact wC
 rw[C8 X];obtain rfl:P=0:=ω
 have hr:=hrB X;rw[hr]
 repeat'(first|refine gD ?_|(conv=>whnf);first|refine CB ?_)
 (conv=>whnf)
 refine CE (ι:=Nat) (λx=>[(0,.H .box (bz (kV h i k n K))),(9,.H .box ([I 0,I 0])),(13,.H .one [I (0)])]) (λx=>x=0) (λx=>0) (0) ?_ (rfl) λx l=>?_
 ·repeat'(first|exact trivial|rfl |exact o6 r|exact o6 d|exact ee _|refine CK ?_ ?_|(exact DY (by first|omega|(simp only;omega)|(simp;omega))))
 subst l
 repeat'(first|refine gD ?_|(conv=>whnf);first|refine CB ?_)
 refine CF rfl rfl ?_;exact wC
theorem B3{α:Type}(a:α)(k:Nat):List.replicate (k+1) a=List.replicate k a++[a]:=List.replicate_succ' ..
theorem Fj(n k:Nat):bo.enc .own ⟨List.replicate k (List.replicate 16 0),List.replicate n false⟩ = [.s .own (List.replicate k [.s .own (List.replicate 16 [I 0])]),.s .own (List.replicate n [B false])]:=by
 simp[bo.enc,aG,rI,rB,List.map_replicate]
theorem G4(n:Nat):JJ [.s .own (List.replicate n [.z]),.s .own (List.replicate n [.z]),B true] (aK.enc .own (dN n)++[B true]):=by
 have e:aK.enc .own (dN n)++[B true]=[.s .own (List.replicate n [.s .own []]),.s .own (List.replicate n [.s .own []]),B true]:=by simp[aK.enc,dN,dd,aG,List.map_replicate]
 rw[e];exact .cons (.rep (.cons .z_ .nil)) (.cons (.rep (.cons .z_ .nil)) (.cons (.rfl_ _) .nil))
theorem Nr(n:Nat)(b:1<=n/\n<=4):ar Tryz.prog 215 false [.val none [I (n:Nat)]] (.tup [some 2,none]) (aK.enc .own (dN n)++[B true]):=by
 have a:=aO ((n:Nat):Int) 1 4;rw[O0 ω]at a;refine fO 13 [(3,4,[8,9,10,11])] Tryz.func215 rfl ?_ (.inr (aZ (aK.enc_fr _) ⟨trivial,trivial⟩))
 repeat'((conv=>whnf);first|with_reducible (first|refine Lm ?_|refine Wm ω ?_|refine Bn ?_|refine iU.dk rfl ?_)|refine Bt ?_|refine Bu ?_|refine CB ?_|refine C7 (a) ?_|refine Mk.mk n rfl rfl ω (yM ω (by decide)) rfl ?_)
 exact G4 n
theorem AI(n:Nat)(b:1<=n/\n<=4):ar Tryz.prog 524 false [.val none [I (n:Nat)]] (.tup [some 2,none]) (aK.enc .own (dN n)++[B true]):=by
 have a:=aF ((n:Nat):Int) 1 4;rw[O0 ω]at a;refine fO 13 [(3,4,[8,9,10,11])] Tryz.func524 rfl ?_ (.inr (aZ (aK.enc_fr _) ⟨trivial,trivial⟩))
 repeat'((conv=>whnf);first|with_reducible (first|refine Lm ?_|refine Wm ω ?_|refine Bn ?_|refine iU.dk rfl ?_)|refine Bt ?_|refine Bu ?_|refine CB ?_|refine C7 (a) ?_|refine Mk.mk n rfl rfl ω (yM ω (by decide)) rfl ?_)
 exact G4 n
theorem Mg:JJ [.s .own (List.replicate 4 [.z])] (aE.enc .own fw):=.cons (.rep (.cons .z_ .nil)) .nil
theorem yh:ar Tryz.prog 525 false [] .agg (aE.enc .own fw):=by
 refine fO 3 [] Tryz.func525 rfl ?_ (.inr (aE.enc_fr _))
 repeat'((conv=>whnf);first|with_reducible (first|refine Lm ?_|refine Wm ω ?_|refine Bn ?_|refine iU.dk rfl ?_)|refine Bt ?_|refine Bu ?_|refine CB ?_|refine Mk.mk 4 rfl rfl (by decide) (by decide) rfl ?_)
 exact Mg
theorem rx:ar Tryz.prog 526 false [.val none [I 16]] (.tup [some 2,none]) (bQ.enc .own ⟨16,[]⟩++[B true]):=by
 refine fO 10 [] Tryz.func526 rfl ?_ (.inr (aZ (bQ.enc_fr _) ⟨trivial,trivial⟩))
 repeat'((conv=>whnf);first|with_reducible (first|refine Lm ?_|refine Wm ω ?_|refine Bn ?_|refine iU.wk rfl ?_)|refine Bt ?_|refine Bu ?_|refine CB ?_|refine C7 (aF 16 0 500) ?_)
 exact⟨rfl,rfl,rfl,trivial⟩
def caps(h:ab)(k:Nat):ab:={h with T:=List.replicate k fw}
theorem Jj(k:Nat):(List.replicate (k+1) fw).map (aE.enc .own)=(List.replicate k fw).map (aE.enc .own)++[aE.enc .own fw]:=by rw[B3,R5];rfl
theorem KI{k:Nat} : ∀r∈(List.replicate k fw).map (aE.enc .own),r.length=1:=aQ λ_=>rfl
theorem Hg(x:List bp):fz (.s .own (x.map (bp.enc .own)))=.s .X (x.map (bp.enc .X)):=(List.cons.inj (List.cons.inj (Ca ⟨0,x⟩)).2).1
theorem eX:∀a b:List C,dP (a++b)=dP a++dP b
 | [],_=>rfl
 | x::xs,b=>by show fz x::dP (xs++b)=fz x::(dP xs++dP b);rw[eX xs b]
theorem dY(r:ay)(c:ay.sml r):ar Tryz.prog 458 false [.val (some 2) (ay.enc .X r)] .agg (ay.enc .own r):=by
 have e:r.O.length<=1048576:=c.1;refine fO 36 [(5,272,[15,16,17,18,19,20,21,22,23,24,25,26,27,28,29,34,0,1,2,3,4,5,6,7,8,9,10,11,12,13,14,15,1000,1001,1002,1003,1004,1005,1006,1007,16,1000,1001,17,1000,1001,18,19,20])] Tryz.func458 rfl ?_ (.inr (ay.enc_fr _))
 repeat'(first|refine gO ?_|(conv=>whnf);first|refine CB ?_)
 (conv=>whnf)
 refine CE (ι:=Nat) (λi=>[(1,.H .box (ay.enc .X r)),(2,.H .box [I 0,.z]),(3,.H .box [I r.a,.s .own ((r.O.take i).map (bp.enc .own))]),(4,.H .one [I ((i:Nat):Int)])]) (λi=>i<=r.O.length) (λi=>r.O.length - i) (0) ?_ (T0 _) λi g=>?_
 ·exact wC
 by_cases b:i<r.O.length
 ·have d:=ao b
  have a:(nth r.O i).S.length<=1048576:=c.2 _ (am b)
  repeat'(first|refine gD ?_|(conv=>whnf);first|with_reducible refine CC (aa d) ?_|refine CB ?_|refine CH rfl (aa d) rfl ?_|refine CU (λ_=>rfl) (λ_=>rfl) a (by decide) ?_|refine CR (λ_=>rfl) (λ_=>rfl) a (by decide) ?_|refine CB ?_|refine Ap.sn (aQ λ_=>rfl) rfl (by simp;omega) (by decide) (jb b) ?_)
  ((conv=>whnf);refine CD (i+1) ω ω ?_;(exact wC))
 repeat'(first|refine gD ?_|(conv=>whnf);first|refine CB ?_)
 obtain rfl:i=r.O.length:=ω
 rw[X4]
 rfl
theorem ic(r:ay)(id:Int)(g:r.O.length<=1048576):ar Tryz.prog 565 false [.val (some 2) (ay.enc .X r),.val none [I id]] .one [I (nA r id)]:=by
 refine fO 22 [] Tryz.func565 rfl ?_
 repeat'(first|refine gO ?_|(conv=>whnf);first|refine CB ?_)
 (conv=>whnf)
 refine CE (ι:=Nat) (λi=>[(1,.H .one [I (id)]),(2,.H .box (ay.enc .X r)),(5,.H .one [I ((i:Nat):Int)])]) (λi=>i<=r.O.length/\∀(j:Nat)(z:bp),j<i->r.O[j]? = some z->mR id z=false) (λi=>r.O.length - i) (0) ?_ (⟨T0 _,λj z h=>ω⟩) λi c=>?_
 ·exact wC
 obtain⟨c,b⟩:=c;by_cases d:i<r.O.length
 ·have a:=ao d
  by_cases e:(nth r.O i).Id=id
  ·repeat'(first|refine gA ?_|(conv=>whnf);first|with_reducible refine CC (aa a) ?_|refine CB ?_|refine CH rfl (aa a) rfl ?_)
   exact U0 (λz=>[I z]) (ed a (O0 e) b).symm
  repeat'(first|refine gA ?_|(conv=>whnf);first|with_reducible refine CC (aa a) ?_|refine CB ?_|refine CH rfl (aa a) rfl ?_)
  ((conv=>whnf);refine CD (i+1) ⟨ω,d4 a (R0 e) b⟩ ω ?_;(exact wC))
 repeat'(first|refine gD ?_|(conv=>whnf);first|refine CB ?_)
 exact U0 (λz=>[I z]) (gP ω b).symm
theorem mW(r:ay)(c:C)(h:Qg c):gR (ay.enc .own r++[c]):=aZ (ay.enc_fr _) ⟨h,trivial⟩
theorem yd(r:ay)(n:Int)(m:Nat)(b:rS r m)(h:m<=1000)(c:1<=n/\n<=1000):ar Tryz.prog 451 false [.val (some 2) (ay.enc .X r),.val none [I n]] (.tup [some 2,none]) (ay.enc .X (iv r n)++[I r.a]):=by
 have i:=b.sml h;have d:=b.len;have j:=b.nx;have k:=dY r i;have e:=aF n 1 1000;rw[O0 c]at e;have key:ar Tryz.prog 451 false [.val (some 2) (ay.enc .X r),.val none [I n]] (.tup [some 2,none]) (ay.enc .own (iv r n)++[I r.a]):=by
  have a:=mW (iv r n) (I r.a) trivial;unfold iv at a |-;rw[C9 c]at a |-;have l:ay.enc .own {r with a:=r.a+1,O:=r.O++[⟨r.a,List.replicate n.toNat 0⟩]} = [I (r.a+1),.s .own (r.O.map (bp.enc .own)++[[I r.a,.s .own (List.replicate n.toNat [I 0])]])]:=by
   simp[ay.enc,bp.enc,rI]
  rw[l]at a |-;refine fO 30 [(4,263,[13,14,15,16,17,18,22,0,1,2,3,4,5,6,1000,1001,7,1000,1001,8,9,10]),(6,259,[27,28,29,0,1,2,3,1001,1002,4])] Tryz.func451 rfl ?_ (.inr a)
  repeat'(first|refine gO ?_|(conv=>whnf);first|refine CB ?_|refine C7 (k) ?_|refine C7 (e) ?_|refine Mk.mk n.toNat ω ω ω (yM ω (by decide)) rfl ?_|refine CB ?_|refine Ap.sn (aQ λ_=>rfl) rfl (by simp;omega) (by decide) rfl ?_)
  (conv=>whnf)
  rfl
 have g:=key.fzR;rw[eX,Ca]at g;exact g
theorem Bv(r:ay)(id:Int)(m:Nat)(d:rS r m)(k:m<=1000):ar Tryz.prog 528 true [.val (some 2) (ay.enc .X r),.val none [I id]] (.tup [some 2,none]) (ay.enc .X (jl r id)++[B (!decide (nA r id<0))]):=by
 have g:=d.sml k;have h:=d.len;have i:=dY r g;have b:=ic r id g.1;by_cases e:nA r id<0
 ·have key:ar Tryz.prog 528 true [.val (some 2) (ay.enc .X r),.val none [I id]] (.tup [some 2,none]) (ay.enc .own r++[B false]):=by
   refine fO 30 [(5,267,[16,17,18,19,20,22,23,24,25,26,28,0,1,2,3,4,6,7,8,9,10,5,1006,1007,1008,1009,1010,11,12,13]),(1048581,6,[1])] Tryz.func528 rfl ?_ (.inl rfl)
   repeat'(first|refine gD ?_|(conv=>whnf);first|refine CB ?_|refine C7 (i) ?_|refine C7 (b) ?_)
   rfl
  have a:=key.fzR;rw[eX,Ca]at a;unfold jl;rw[C9 e,O0 e];exact a
 have n:jl r id = {r with O:=dele r.O (nA r id).toNat}:=by unfold jl;rw[C8 e]
 obtain⟨t,u,w⟩:=fx (mR id) r.O (by unfold nA at e;omega);obtain⟨j,c⟩:=R2 (show 0<=nA r id by omega);have o:j<r.O.length:=by unfold nA at c;omega
 have key:ar Tryz.prog 528 true [.val (some 2) (ay.enc .X r),.val none [I id]] (.tup [some 2,none]) ([I r.a,.s .own ((dele r.O j).map (bp.enc .X))]++[B true]):=by
  rw[c]at b;refine fO 30 [(5,267,[16,17,18,19,20,22,23,24,25,26,28,0,1,2,3,4,6,7,8,9,10,5,1006,1007,1008,1009,1010,11,12,13]),(1048581,6,[1])] Tryz.func528 rfl ?_ (.inl rfl)
  repeat'(first|refine gD ?_|(conv=>whnf);first|refine CB ?_|refine C7 (i) ?_|refine C7 (b) ?_|refine EF.mk rfl (Hg r.O) rfl ?_|refine CV j rfl (by rw[X0];omega) (aQ λ_=>rfl) Y3 ?_|refine Sl.suf (j+1) ω (by rw[X0];omega) (aQ λ_=>rfl) Z3 ?_|refine CR (λ_=>rfl) (λ_=>rfl) (by rw[O1];omega) (by decide) ?_|refine CU (λ_=>rfl) (λ_=>rfl) (by rw[O1];omega) (by decide) ?_|refine Ap.dele (λ_=>rfl) (λ_=>rfl) ω (by decide) ?_|refine CB ?_)
  rfl
 have a:=key.fzR;have p:dP ([I r.a,.s .own ((dele r.O j).map (bp.enc .X))]++[B true])=ay.enc .X (jl r id)++[B (!decide (nA r id<0))]:=by
  have:∀l:List bp,fzR (l.map (bp.enc .X))=l.map (bp.enc .X):=λl=>by
   induction l with
   | nil=>rfl
   | cons x xs q=>rw[U5,fzR,q,<-bp.enc_fz,rH]
  rw[n,c,R0 ω];simp[dP,fz,ay.enc,this]
 rw[p]at a;exact a
theorem yn(r:ay)(id a v:Int)(m:Nat)(o:rS r m)(D:m<=1000)(h:0<=nA r id)(c:0<=a/\a<=(nth r.O (nA r id).toNat).S.length - 1)(p:0<=v/\v<=999):ar Tryz.prog 530 false [.val (some 2) (ay.enc .X r),.val none [I id],.val none [I a],.val none [I v]] (.tup [some 2,none]) (ay.enc .X (dR r id a v)++[B true]):=by
 have k:=o.sml D;have q:=o.len;have E:=dY r k;have t:=ic r id k.1;obtain⟨J,K,L⟩:=fx (mR id) r.O h;obtain⟨j,l⟩:=R2 h;have d:j<r.O.length:=by unfold nA at l;omega
 have e:=ao d;have F:(nth r.O j).S.length<=1048576:=k.2 _ (am d);obtain⟨b,g⟩:=R2 c.1;have G:dR r id a v = {r with O:=r.O.set j ⟨(nth r.O j).Id,(nth r.O j).S.set b v⟩}:=by
  unfold dR;rw[C9 ⟨h,c,p⟩,l,g];rfl
 rw[l]at t c;rw[g]at c |-;simp only[O2]at c;have u:=ao (xs:=(nth r.O j).S) (i:=b) ω;have w:=aF (b:Nat) 0 (((nth r.O j).S.length:Nat) - 1:Int);rw[O0 ω]at w;have y:=aF v 0 999;rw[O0 p]at y;have key:ar Tryz.prog 530 false [.val (some 2) (ay.enc .X r),.val none [I id],.val none [I (b:Nat)],.val none [I v]] (.tup [some 2,none]) (ay.enc .own (dR r id (b:Nat) v)++[B true]):=by
  have n:=mW (dR r id (b:Nat) v) (B true) trivial;rw[<-g,G]at n |-;have H:ay.enc .own {r with O:=r.O.set j ⟨(nth r.O j).Id,(nth r.O j).S.set b v⟩} = [I r.a,.s .own ((r.O.map (bp.enc .own)).set j [I (nth r.O j).Id,.s .own (((nth r.O j).S.map (rI .own)).set b [I v])])]:=by
   simp[ay.enc,bp.enc,rI,W5]
  rw[H]at n |-;rw[g];refine fO 48 [] Tryz.func530 rfl ?_ (.inr n)
  repeat'(first|refine gD ?_|(conv=>whnf);first|with_reducible (first|refine CC (aa e) ?_|refine CC (aa u) ?_|refine CM ω (aa e) ?_)|refine CB ?_|refine C7 (E) ?_|refine C7 (t) ?_|refine C7 (w) ?_|refine C7 (y) ?_|refine CH rfl (aa e) rfl ?_|refine Pu.two rfl rfl (aa e) rfl rfl rfl (aa u) rfl (W2 _) rfl ?_)
  rfl
 have C:=key.fzR;rw[eX,Ca]at C;exact C
theorem AH(r:ay)(id n:Int)(m:Nat)(l:rS r m)(u:m<=1000)(g:0<=nA r id)(c:1<=n/\n<=(nth r.O (nA r id).toNat).S.length):ar Tryz.prog 532 false [.val (some 2) (ay.enc .X r),.val none [I id],.val none [I n]] (.tup [some 2,none]) (ay.enc .X (fg r id n)++[B true]):=by
 have h:=l.sml u;have o:=l.len;have w:=dY r h;have p:=ic r id h.1;obtain⟨E,F,G⟩:=fx (mR id) r.O g;obtain⟨j,i⟩:=R2 g;have a:j<r.O.length:=by unfold nA at i;omega
 have d:=ao a;have y:(nth r.O j).S.length<=1048576:=h.2 _ (am a);obtain⟨b,e⟩:=R2 (show 0<=n by omega);have C:fg r id n = {r with O:=r.O.set j ⟨(nth r.O j).Id,(nth r.O j).S.take b⟩}:=by
  unfold fg;rw[C9 ⟨g,c⟩,i,e];rfl
 rw[i]at p c;rw[e]at c |-;simp only[O2]at c;have q:=aF (b:Nat) 1 (((nth r.O j).S.length:Nat):Int);rw[O0 ω]at q;have key:ar Tryz.prog 532 false [.val (some 2) (ay.enc .X r),.val none [I id],.val none [I (b:Nat)]] (.tup [some 2,none]) (ay.enc .own (fg r id (b:Nat))++[B true]):=by
  have k:=mW (fg r id (b:Nat)) (B true) trivial;rw[<-e,C]at k |-;have D:ay.enc .own {r with O:=r.O.set j ⟨(nth r.O j).Id,(nth r.O j).S.take b⟩} = [I r.a,.s .own ((r.O.map (bp.enc .own)).set j [I (nth r.O j).Id,.s .own (((nth r.O j).S.take b).map (rI .X))])]:=by
   simp only[ay.enc,W5]
   rfl
  rw[D]at k |-;rw[e];refine fO 46 [(5,270,[30,31,32,33,34,35,36,37,38,39,40,41,43,44,0,1,2,3,4,5,6,7,8,9,10,11,12,1000,1001,1002,13,14,15])] Tryz.func532 rfl ?_ (.inr k)
  repeat'(first|refine gD ?_|(conv=>whnf);first|with_reducible (first|refine CC (aa d) ?_|refine CM ω (aa d) ?_)|refine CB ?_|refine C7 (w) ?_|refine C7 (p) ?_|refine C7 (q) ?_|refine CH rfl (aa d) rfl ?_|refine CV b rfl (by rw[X0];omega) (aQ λ_=>rfl) Y3 ?_|refine CU (λ_=>rfl) (λ_=>rfl) (by rw[O1];omega) (by decide) ?_|refine CR (λ_=>rfl) (λ_=>rfl) (by rw[O1];omega) (by decide) ?_|refine CB ?_|refine CO rfl rfl (aa d) rfl (Z0 rfl) rfl ?_)
  rfl
 have t:=key.fzR;rw[eX,Ca]at t;exact t
theorem Al(r:ay)(id a v:Int)(m:Nat)(h:rS r m)(l:m<=1000)(u:0<=v/\v<=999):∃b:Bool,ar Tryz.prog 530 false [.val (some 2) (ay.enc .X r),.val none [I id],.val none [I a],.val none [I v]] (.tup [some 2,none]) (ay.enc .X (dR r id a v)++[B b]):=by
 by_cases i:0<=nA r id
 ·by_cases d:0<=a/\a<=(nth r.O (nA r id).toNat).S.length - 1
  ·exact⟨true,yn r id a v m h l i d u⟩
  refine⟨false,?_⟩;have c:=h.sml l;have o:=h.len;have n:=dY r c;have k:=ic r id c.1;obtain⟨C,D,E⟩:=fx (mR id) r.O i;obtain⟨j,p⟩:=R2 i;have e:j<r.O.length:=by unfold nA at p;omega
  have q:=ao e;have w:(nth r.O j).S.length<=1048576:=c.2 _ (am e);have y:dR r id a v=r:=by unfold dR;rw[C8 (λx=>d x.2.1)]
  rw[p]at k d;simp only[O2]at d;have t:=aF a 0 (((nth r.O j).S.length:Nat) - 1:Int);rw[R0 d]at t;rw[y];have key:ar Tryz.prog 530 false [.val (some 2) (ay.enc .X r),.val none [I id],.val none [I a],.val none [I v]] (.tup [some 2,none]) (ay.enc .own r++[B false]):=by
   refine fO 48 [] Tryz.func530 rfl ?_ (.inr (mW r (B false) trivial))
   repeat'(first|refine gD ?_|(conv=>whnf);first|with_reducible refine CC (aa q) ?_|refine CB ?_|refine C7 (n) ?_|refine C7 (k) ?_|refine C7 (t) ?_|refine CH rfl (aa q) rfl ?_)
   rfl
  have g:=key.fzR;rw[eX,Ca]at g;exact g
 refine⟨false,?_⟩;have c:=h.sml l;have n:=dY r c;have k:=ic r id c.1;rw[show dR r id a v=r by unfold dR;rw[C8 (λx=>i x.1)]];have key:ar Tryz.prog 530 false [.val (some 2) (ay.enc .X r),.val none [I id],.val none [I a],.val none [I v]] (.tup [some 2,none]) (ay.enc .own r++[B false]):=by
  refine fO 48 [] Tryz.func530 rfl ?_ (.inr (mW r (B false) trivial))
  repeat'(first|refine gD ?_|(conv=>whnf);first|refine CB ?_|refine C7 (n) ?_|refine C7 (k) ?_)
  rfl
 have g:=key.fzR;rw[eX,Ca]at g;exact g
theorem B2(r:ay)(id n:Int)(m:Nat)(g:rS r m)(k:m<=1000):∃b:Bool,ar Tryz.prog 532 false [.val (some 2) (ay.enc .X r),.val none [I id],.val none [I n]] (.tup [some 2,none]) (ay.enc .X (fg r id n)++[B b]):=by
 by_cases h:0<=nA r id
 ·by_cases c:1<=n/\n<=(nth r.O (nA r id).toNat).S.length
  ·exact⟨true,AH r id n m g k h c⟩
  refine⟨false,?_⟩;have a:=g.sml k;have o:=g.len;have l:=dY r a;have i:=ic r id a.1;obtain⟨y,C,D⟩:=fx (mR id) r.O h;obtain⟨j,p⟩:=R2 h;have d:j<r.O.length:=by unfold nA at p;omega
  have q:=ao d;have u:(nth r.O j).S.length<=1048576:=a.2 _ (am d);have w:fg r id n=r:=by unfold fg;rw[C8 (λx=>c x.2)]
  rw[p]at i c;simp only[O2]at c;have t:=aF n 1 (((nth r.O j).S.length:Nat):Int);rw[R0 c]at t;rw[w];have key:ar Tryz.prog 532 false [.val (some 2) (ay.enc .X r),.val none [I id],.val none [I n]] (.tup [some 2,none]) (ay.enc .own r++[B false]):=by
   refine fO 46 [(5,270,[30,31,32,33,34,35,36,37,38,39,40,41,43,44,0,1,2,3,4,5,6,7,8,9,10,11,12,1000,1001,1002,13,14,15])] Tryz.func532 rfl ?_ (.inr (mW r (B false) trivial))
   repeat'(first|refine gD ?_|(conv=>whnf);first|with_reducible refine CC (aa q) ?_|refine CB ?_|refine C7 (l) ?_|refine C7 (i) ?_|refine C7 (t) ?_|refine CH rfl (aa q) rfl ?_)
   rfl
  have e:=key.fzR;rw[eX,Ca]at e;exact e
 refine⟨false,?_⟩;have a:=g.sml k;have l:=dY r a;have i:=ic r id a.1;rw[show fg r id n=r by unfold fg;rw[C8 (λx=>h x.1)]];have key:ar Tryz.prog 532 false [.val (some 2) (ay.enc .X r),.val none [I id],.val none [I n]] (.tup [some 2,none]) (ay.enc .own r++[B false]):=by
  refine fO 46 [(5,270,[30,31,32,33,34,35,36,37,38,39,40,41,43,44,0,1,2,3,4,5,6,7,8,9,10,11,12,1000,1001,1002,13,14,15])] Tryz.func532 rfl ?_ (.inr (mW r (B false) trivial))
  repeat'(first|refine gD ?_|(conv=>whnf);first|refine CB ?_|refine C7 (l) ?_|refine C7 (i) ?_)
  rfl
 have e:=key.fzR;rw[eX,Ca]at e;exact e
structure ir where
 i:Nat
 h:Int
deriving Inhabited
def w64(x:Int):Int:=IntKind.i64.wrap x
def Qf(h:Int):Int:=w64 (w64 (h*6364136223846793005)+1442695040888963407)
def PE(a b:Int):Int:=w64 ((BitVec.ofInt IntKind.i64.bits a ^^^ BitVec.ofInt IntKind.i64.bits b).toNat:Nat)
def and255(a:Int):Int:=w64 ((BitVec.ofInt IntKind.i64.bits a &&& BitVec.ofInt IntKind.i64.bits 255).toNat:Nat)
def MD(h:Int)(n:Nat):Int:=h.fdiv (2 ^ (min n IntKind.i64.bits))
def yK(h:Int):Int:=and255 (PE (MD h 33) (MD h 45))
theorem yI(a:Int):0<=and255 a/\and255 a<=255:=by
 have b:(BitVec.ofInt IntKind.i64.bits a &&& BitVec.ofInt IntKind.i64.bits 255).toNat<=255:=by
  rw[BitVec.toNat_and];exact V4 Nat.and_le_right (by decide)
 unfold and255 w64;rw[eE ω ω];omega
def dz(zs:List Int)(c:ir):Int × ir:=if c.i<zs.length then(and255 (yK (Qf c.h)+nth zs c.i),⟨c.i+1,Qf c.h⟩) else(yK (Qf c.h),⟨c.i,Qf c.h⟩)
theorem qB(zs:List Int)(c:ir):0<=(dz zs c).1/\(dz zs c).1<=255:=by
 unfold dz;split<;>exact yI _
theorem iL{zs:List Int}{c:ir}(h:c.i<=zs.length):(dz zs c).2.i<=zs.length:=by
 unfold dz;split
 ·simp only;omega
 exact h
def zt(zs:List Int)(c:ir):Int × ir:=
 ((dz zs c).1*16777216+(dz zs (dz zs c).2).1*65536+(dz zs (dz zs (dz zs c).2).2).1*256+(dz zs (dz zs (dz zs (dz zs c).2).2).2).1,(dz zs (dz zs (dz zs (dz zs c).2).2).2).2)
def b8(zs:List Int)(c:ir)(n:Int):Int × ir:=if n<=256 then((dz zs c).1 % n,(dz zs c).2) else((zt zs c).1 % n,(zt zs c).2)
theorem bI(zs:List Int)(c:ir){n:Int}(h:1<=n):0<=(b8 zs c n).1/\(b8 zs c n).1<n:=by
 unfold b8;split<;>exact⟨Int.emod_nonneg _ ω,Int.emod_lt_of_pos _ ω⟩
theorem bT{zs:List Int}{c:ir}(h:c.i<=zs.length)(n:Int):(b8 zs c n).2.i<=zs.length:=by
 unfold b8;split
 ·exact iL h
 exact iL (iL (iL (iL h)))
def kA(zs:List Int)(c:ir)(l:List Int):Int × ir:=(nth l (b8 zs c (l.length:Nat)).1.toNat,(b8 zs c (l.length:Nat)).2)
theorem oO(zs:List Int)(c:ir){l:List Int}(h:1<=l.length):(kA zs c l).1∈l:=by
 have:=bI zs c (n:=(l.length:Nat)) ω;exact am ω
def og(zs:List Int):Nat->Nat->List Int->ir->List Int × ir
 | 0,_,out,c=>(out,(b8 zs c 4).2)
 | f+1,i,out,c=>if(i:Int)<(b8 zs c 4).1 then og zs f (i+1) (out++[(b8 zs (b8 zs c 4).2 12).1]) (b8 zs (b8 zs c 4).2 12).2 else(out,(b8 zs c 4).2)
def Nz(zs:List Int)(c:ir):List Int × ir:=og zs 4 0 [] c
theorem GV(zs:List Int):∀(f i:Nat)(out:List Int)(c:ir),(∀x∈out,0<=x)->out.length+f<=4->c.i<=zs.length->(∀x∈(og zs f i out c).1,0<=x)/\(og zs f i out c).1.length<=4/\(og zs f i out c).2.i<=zs.length
 | 0,_,out,c,b,e,d=>⟨b,by show out.length<=4;omega,bT d _⟩
 | f+1,i,out,c,b,e,d=>by
  unfold og;split
  ·refine GV zs f (i+1) _ _ (λx a=>?_) (by simp only[Z2,List.length_singleton];omega) (bT (bT d _) _)
   rcases U2.1 a with a|a
   ·exact b x a
   rw[C1.1 a];exact(bI zs _ (by decide)).1
  exact⟨b,by show out.length<=4;omega,bT d _⟩
def xB(zs:List Int)(c:ir):Int × ir:=b8 zs c 7
def DS(zs:List Int)(c:ir):Int × ir:=b8 zs (xB zs c).2 3
def FV(zs:List Int)(c:ir):Int × ir:=b8 zs (DS zs c).2 100
def A6(zs:List Int)(c:ir):Int × ir:=b8 zs (FV zs c).2 4
def Pj(zs:List Int)(c:ir):List Int × ir:=Nz zs (A6 zs c).2
def pA(zs:List Int)(c:ir):cF:=⟨(6+(xB zs c).1).toNat,(6+(xB zs c).1 - (A6 zs c).1).toNat,(1+(DS zs c).1).toNat,40+(FV zs c).1,(Pj zs c).1⟩
theorem qE{zs:List Int}{c:ir}(h:c.i<=zs.length):Fz (pA zs c)/\(Pj zs c).2.i<=zs.length:=by
 have a:=bI zs c (n:=7) (by decide);have b:=bI zs (xB zs c).2 (n:=3) (by decide);have d:=bI zs (DS zs c).2 (n:=100) (by decide);have e:=bI zs (FV zs c).2 (n:=4) (by decide);change 0<=(xB zs c).1/\(xB zs c).1<7 at a;change 0<=(DS zs c).1/\(DS zs c).1<3 at b;change 0<=(FV zs c).1/\(FV zs c).1<100 at d;change 0<=(A6 zs c).1/\(A6 zs c).1<4 at e;obtain⟨f,k,g⟩:=GV zs 4 0 [] (A6 zs c).2 (λx j=>by cases j) (by simp) (bT (bT (bT (bT h _) _) _) _);refine⟨⟨?_,?_,?_,?_,?_⟩,g⟩
 ·show 1<=(6+(xB zs c).1).toNat/\(6+(xB zs c).1).toNat<=32;omega
 ·show 1<=(6+(xB zs c).1 - (A6 zs c).1).toNat/\(6+(xB zs c).1 - (A6 zs c).1).toNat<=32;omega
 ·show 1<=(1+(DS zs c).1).toNat/\(1+(DS zs c).1).toNat<=4;omega
 ·show 0<=40+(FV zs c).1/\40+(FV zs c).1<=1000;omega
 exact⟨by show(og zs 4 0 [] (A6 zs c).2).1.length<=40;omega,f⟩
def zc(zs:List Int)(c:ir):Int × ir:=b8 zs c 3
def EG(zs:List Int)(c:ir)(ids:Int):Int × ir:=b8 zs (zc zs c).2 ids
def kx(zs:List Int)(c:ir)(ids:Int):Int × ir:=b8 zs (EG zs c ids).2 20
def szs:List Int:=[1,1,2,2,3,4,4,5,8,9,20]
def rE(zs:List Int)(c:ir)(ids:Int):eg × ir:=
 if(kx zs c ids).1<=6 then(⟨1,(zc zs c).1,(kA zs (kx zs c ids).2 szs).1,0,0⟩,(kA zs (kx zs c ids).2 szs).2)
 else if(kx zs c ids).1<=9 then(⟨2,(zc zs c).1,1+(EG zs c ids).1,0,0⟩,(kx zs c ids).2)
 else if(kx zs c ids).1<=12 then(⟨3,(zc zs c).1,1+(EG zs c ids).1,(b8 zs (kx zs c ids).2 4).1,1+(b8 zs (b8 zs (kx zs c ids).2 4).2 999).1⟩,(b8 zs (b8 zs (kx zs c ids).2 4).2 999).2)
 else if(kx zs c ids).1=13 then(⟨4,(zc zs c).1,1+(EG zs c ids).1,0,9+(b8 zs (kx zs c ids).2 10).1⟩,(b8 zs (kx zs c ids).2 10).2)
 else if(kx zs c ids).1=14 then(⟨(kA zs (kx zs c ids).2 [5,6]).1,(zc zs c).1,1+(EG zs c ids).1,0,0⟩,(kA zs (kx zs c ids).2 [5,6]).2)
 else if(kx zs c ids).1=15 then(⟨7,(zc zs c).1,1+(EG zs c ids).1,0,0⟩,(kx zs c ids).2)
 else if(kx zs c ids).1=16 then(⟨8,(zc zs c).1,(kA zs (kx zs c ids).2 [1,30,60,120]).1,0,0⟩,(kA zs (kx zs c ids).2 [1,30,60,120]).2)
 else if(kx zs c ids).1=17 then(⟨9,(zc zs c).1,1+(EG zs c ids).1,0,0⟩,(kx zs c ids).2)
 else(⟨10,(zc zs c).1,(kA zs (kx zs c ids).2 [1,2,3,10,30]).1,0,0⟩,(kA zs (kx zs c ids).2 [1,2,3,10,30]).2)
structure K8(a:eg):Prop where
 k:1<=a.b6/\a.b6<=10
 t:0<=a.a3/\a.a3<=1000000
 n:0<=a.N/\a.N<=1000000
 p:0<=a.At/\a.At<=1000000
 v:0<=a.Value/\a.Value<=1000000
theorem LM{zs:List Int}{c:ir}{ids:Int}(h:c.i<=zs.length)(b:1<=ids/\ids<=1000):K8 (rE zs c ids).1/\(rE zs c ids).2.i<=zs.length:=by
 have d:=bI zs c (n:=3) (by decide);have e:=bI zs (zc zs c).2 (n:=ids) b.1;change 0<=(zc zs c).1/\(zc zs c).1<3 at d;change 0<=(EG zs c ids).1/\(EG zs c ids).1<ids at e;have a:(kx zs c ids).2.i<=zs.length:=bT (bT (bT h _) _) _;have f:=oO zs (kx zs c ids).2 (l:=szs) (by decide);have g:=oO zs (kx zs c ids).2 (l:=[5,6]) (by decide);have j:=oO zs (kx zs c ids).2 (l:=[1,30,60,120]) (by decide);have k:=oO zs (kx zs c ids).2 (l:=[1,2,3,10,30]) (by decide);have o:=bI zs (kx zs c ids).2 (n:=4) (by decide);have p:=bI zs (b8 zs (kx zs c ids).2 4).2 (n:=999) (by decide);have q:=bI zs (kx zs c ids).2 (n:=10) (by decide);simp only[szs,List.mem_cons,List.not_mem_nil,or_false]at f g j k;unfold rE
 repeat' split
 ·exact⟨⟨by simp only;omega,by simp only;omega,by simp only[szs];omega,by simp only;omega,by simp only;omega⟩,bT a _⟩
 ·exact⟨⟨by simp only;omega,by simp only;omega,by simp only;omega,by simp only;omega,by simp only;omega⟩,a⟩
 ·exact⟨⟨by simp only;omega,by simp only;omega,by simp only;omega,by simp only;omega,by simp only;omega⟩,bT (bT a _) _⟩
 ·exact⟨⟨by simp only;omega,by simp only;omega,by simp only;omega,by simp only;omega,by simp only;omega⟩,bT a _⟩
 ·exact⟨⟨by simp only;omega,by simp only;omega,by simp only;omega,by simp only;omega,by simp only;omega⟩,bT a _⟩
 ·exact⟨⟨by simp only;omega,by simp only;omega,by simp only;omega,by simp only;omega,by simp only;omega⟩,a⟩
 ·exact⟨⟨by simp only;omega,by simp only;omega,by simp only;omega,by simp only;omega,by simp only;omega⟩,bT a _⟩
 ·exact⟨⟨by simp only;omega,by simp only;omega,by simp only;omega,by simp only;omega,by simp only;omega⟩,a⟩
 exact⟨⟨by simp only;omega,by simp only;omega,by simp only;omega,by simp only;omega,by simp only;omega⟩,bT a _⟩
def kT(zs:List Int)(c:ir):Nat->List eg × ir
 | 0=>([],(b8 zs c 41).2)
 | i+1=>((kT zs c i).1++[(rE zs (kT zs c i).2 (1+(i:Int) / 2)).1],(rE zs (kT zs c i).2 (1+(i:Int) / 2)).2)
def nv(zs:List Int)(c:ir):List eg × ir:=kT zs c (b8 zs c 41).1.toNat
theorem rh{zs:List Int}{c:ir}(h:c.i<=zs.length):∀{n:Nat},n<=100->(kT zs c n).1.length=n/\(∀a∈(kT zs c n).1,K8 a)/\(kT zs c n).2.i<=zs.length
 | 0,_=>⟨rfl,λa b=>(by cases b),bT h _⟩
 | n+1,k=>by
  obtain⟨d,e,f⟩:=rh h (n:=n) ω;obtain⟨g,j⟩:=LM (ids:=1+(n:Int) / 2) f ω;refine⟨by simp only[kT,Z2,List.length_singleton,d],λa b=>?_,j⟩;rcases U2.1 b with b|b
  ·exact e a b
  rw[C1.1 b];exact g
def pc(zs:List Int):Nat->Int
 | 0=>w64 (98801+(zs.length:Nat))
 | i+1=>w64 ((BitVec.ofInt IntKind.i64.bits (w64 (w64 (w64 (pc zs i*131)+nth zs i)+7)) &&& BitVec.ofInt IntKind.i64.bits 1073741823).toNat:Nat)
def um(zs:List Int):ir:=⟨0,pc zs (min zs.length 4000)⟩
def fD(zs:List Int):ir:=(Pj zs (um zs)).2
def drawn(zs:List Int):bj:=(zZ (pA zs (um zs)) (nv zs (fD zs)).1 (nv zs (fD zs)).1.length).1
theorem DX(zs:List Int):qA (drawn zs) 40:=by
 have a:(um zs).i<=zs.length:=T0 _;obtain⟨b,d⟩:=qE a;have f:=bI zs (fD zs) (n:=41) (by decide);obtain⟨e,-,-⟩:=rh (zs:=zs) (c:=fD zs) d (n:=(b8 zs (fD zs) 41).1.toNat) ω;refine(vA b _ _).more ?_;show(kT zs (fD zs) _).1.length<=40;rw[e];omega
def rU(z:Int):List C:=[.v (.int .u8 z)]
def iq(zs:List Int)(c:ir):List C:=[.s .X (zs.map rU),I (c.i:Nat),I c.h]
def jJ(zs:List Int):Prop:=zs.length<=1048576/\∀z∈zs,0<=z/\z<=255
theorem kg(zs:List Int)(c:ir)(e:jJ zs)(w:c.i<=zs.length):aS Tryz.prog 195 false [.ptr (iq zs c)] [.ptr (iq zs (dz zs c).2)] .one [I (dz zs c).1]:=by
 have g:IntKind.i64.wrap (c.h*6364136223846793005)=w64 (c.h*6364136223846793005):=rfl;have b:IntKind.i64.wrap (w64 (c.h*6364136223846793005)+1442695040888963407)=Qf c.h:=rfl;have o:=e.1;generalize p:Qf c.h=H at b;have j:H.fdiv (2 ^ (min (33:Int).toNat IntKind.i64.bits))=MD H 33:=rfl;have k:H.fdiv (2 ^ (min (45:Int).toNat IntKind.i64.bits))=MD H 45:=rfl;have l:IntKind.i64.wrap (BitVec.ofInt IntKind.i64.bits (MD H 33) ^^^ BitVec.ofInt IntKind.i64.bits (MD H 45)).toNat=PE (MD H 33) (MD H 45):=rfl;have d:IntKind.i64.wrap (BitVec.ofInt IntKind.i64.bits (PE (MD H 33) (MD H 45)) &&& BitVec.ofInt IntKind.i64.bits 255).toNat=yK H:=rfl;have r:0<=yK H/\yK H<=255:=yI _;unfold dz;rw[p];generalize yK H=y at d r |-;refine fM 58 [] [(2,10,[13,14,15,16,17,18,19,20,21,22]),(3,9,[25,26,27,28,29,30,31,32,33]),(4,12,[35,36,37,38,39,40,41,42,43,44,45,46])] [(0,0)] Tryz.func195 rfl (λu q=>?_);by_cases a:c.i<zs.length
 ·rw[C9 a]
  have n:=ao a;have B:=e.2 _ (am a);have t:IntKind.i64.wrap (BitVec.ofInt IntKind.i64.bits (y+nth zs c.i) &&& BitVec.ofInt IntKind.i64.bits 255).toNat=and255 (y+nth zs c.i):=rfl
  repeat'(first|refine gD ?_|(conv=>whnf);first|with_reducible (first|refine CL g ?_|refine CL b ?_|refine CL l ?_|refine CL d ?_|refine CL t ?_|refine CC (aa n) ?_|refine CN (by decide) ?_|refine CS j ?_|refine CS k ?_)|refine CH rfl (aa n) rfl ?_|refine CB ?_)
  refine CF rfl rfl ?_;exact wB
 rw[C8 a]
 repeat'(first|refine gD ?_|(conv=>whnf);first|with_reducible (first|refine CL g ?_|refine CL b ?_|refine CL l ?_|refine CL d ?_|refine CN (by decide) ?_|refine CS j ?_|refine CS k ?_)|refine CB ?_)
 refine CF rfl rfl ?_;exact wB
theorem bU(zs:List Int)(c:ir)(n:Int)(b:jJ zs)(d:c.i<=zs.length)(p:1<=n):aS Tryz.prog 58 false [.ptr (iq zs c),.val none [I n]] [.ptr (iq zs (b8 zs c n).2),.val none [I n]] .one [I (b8 zs c n).1]:=by
 have j:=qB zs c;have g:=kg zs c b d;unfold b8;refine fM 37 [(195,[2])] [] [(0,0),(0,0)] Tryz.func58 rfl (λu q=>?_);by_cases h:n<=256
 ·rw[C9 h]
  have a:(dz zs c).1.tmod n=(dz zs c).1 % n:=Int.tmod_eq_emod_of_nonneg j.1
  repeat'(first|refine gD ?_|(conv=>whnf);first|with_reducible (first|refine CS a ?_|refine Bf.D (λe=>?_) (λe=>?_))|refine CJ (g) (.inl rfl) ?_|refine CN ω ?_)
  refine CF rfl rfl ?_;exact wB
 rw[C8 h];have r:=qB zs (dz zs c).2;have t:=qB zs (dz zs (dz zs c).2).2;have w:=qB zs (dz zs (dz zs (dz zs c).2).2).2;have k:=kg zs (dz zs c).2 b (iL d);have l:=kg zs (dz zs (dz zs c).2).2 b (iL (iL d));have o:=kg zs (dz zs (dz zs (dz zs c).2).2).2 b (iL (iL (iL d)));have a:(zt zs c).1.tmod n=(zt zs c).1 % n:=Int.tmod_eq_emod_of_nonneg (by unfold zt;simp only;omega);unfold zt at a |-;simp only at a
 repeat'(first|refine gD ?_|(conv=>whnf);first|with_reducible (first|refine CS a ?_|refine Bf.D (λe=>?_) (λe=>?_))|refine CJ (g) (.inl rfl) ?_|refine CJ (k) (.inl rfl) ?_|refine CJ (l) (.inl rfl) ?_|refine CJ (o) (.inl rfl) ?_|refine CN ω ?_)
 refine CF rfl rfl ?_;exact wB
theorem JG(zs:List Int)(c:ir)(l:List Int)(b:jJ zs)(d:c.i<=zs.length)(g:1<=l.length/\l.length<=1000):aS Tryz.prog 459 false [.ptr (iq zs c),.val none (aG .X l)] [.ptr (iq zs (kA zs c l).2),.val none (aG .X l)] .one [I (kA zs c l).1]:=by
 have e:=bU zs c (l.length:Nat) b d ω;have h:=bI zs c (n:=(l.length:Nat)) ω;have a:=ao (xs:=l) (i:=(b8 zs c (l.length:Nat)).1.toNat) ω;unfold kA;refine fM 12 [(58,[2,0])] [] [(0,0),(0,0)] Tryz.func459 rfl (λu q=>?_)
 repeat'(first|refine gO ?_|(conv=>whnf);first|with_reducible refine CM ω (aa a) ?_|refine CJ (e) (.inl rfl) ?_|refine CH rfl (aa a) rfl ?_)
 refine CF rfl rfl ?_;exact wC
theorem iC(zs:List Int)(c:ir)(l:List Int)(b:jJ zs)(d:c.i<=zs.length)(g:1<=l.length/\l.length<=1000):aS Tryz.prog 459 false [.ptr (iq zs c),.mut none (aG .own l)] [.ptr (iq zs (kA zs c l).2),.mut none (aG .own l)] .one [I (kA zs c l).1]:=by
 have e:=bU zs c (l.length:Nat) b d ω;have h:=bI zs c (n:=(l.length:Nat)) ω;have a:=ao (xs:=l) (i:=(b8 zs c (l.length:Nat)).1.toNat) ω;unfold kA;refine fM 12 [(58,[2,0])] [] [(0,0),(1,0)] Tryz.func459 rfl (λu q=>?_)
 repeat'(first|refine gO ?_|(conv=>whnf);first|with_reducible refine CM ω (aa a) ?_|refine CJ (e) (.inl rfl) ?_|refine CH rfl (aa a) rfl ?_)
 refine CF rfl rfl ?_;exact wC
theorem Jr(zs:List Int):∀(f i:Nat)(out:List Int)(c:ir),(b8 zs c 4).1<=i->og zs f i out c=(out,(b8 zs c 4).2)
 | 0,_,_,_,_=>rfl
 | f+1,i,out,c,h=>by unfold og;rw[C8 ω]
theorem Nu(zs:List Int)(f i:Nat)(out:List Int)(c:ir)(h:(i:Int)<(b8 zs c 4).1):og zs (f+1) i out c=og zs f (i+1) (out++[(b8 zs (b8 zs c 4).2 12).1]) (b8 zs (b8 zs c 4).2 12).2:=by
 show(if _ then _ else _)=_;rw[C9 h]
structure Rq where
 i:Nat
 out:List Int
 c:ir
theorem vH(zs:List Int)(c:ir)(e:jJ zs)(j:c.i<=zs.length):aS Tryz.prog 345 false [.ptr (iq zs c)] [.ptr (iq zs (Nz zs c).2)] .one (aG .own (Nz zs c).1):=by
 refine fM 18 [(58,[2,0])] [] [(0,0)] Tryz.func345 rfl (λu q=>?_) (.inr (bV _))
 repeat'(first|refine gO ?_|fail)
 (conv=>whnf)
 refine CE (ι:=Rq) (λx=>[(0,.H .box (iq zs x.c)),(3,.H .one (aG .own x.out)),(4,.H .one [I ((x.i:Nat):Int)])]) (λx=>(x.i<=4/\x.out.length<=x.i/\x.c.i<=zs.length)/\og zs (4 - x.i) x.i x.out x.c=Nz zs c) (λx=>4 - x.i) (⟨0,[],c⟩) ?_ (⟨⟨T0 _,T0 _,j⟩,rfl⟩) λx k=>?_
 ·exact wC
 obtain⟨i,out,d⟩:=x;obtain⟨⟨l,o,b⟩,a⟩:=k;simp only at l o b a |-;have B:=bI zs d (n:=4) (by decide);have g:=bU zs d 4 e b (by decide);have h:=bT b 4;have p:=bU zs (b8 zs d 4).2 12 e h (by decide);have t:=bT h 12;by_cases w:(i:Int)<(b8 zs d 4).1
 ·rw[show 4 - i=(4 - (i+1))+1 by omega,Nu zs _ _ _ _ w]at a
  repeat'(first|refine gD ?_|(conv=>whnf);first|refine CJ (g) (.inl rfl) ?_|refine CJ (p) (.inl rfl) ?_|refine CT cI (λr y=>by rw[C1.1 y];rfl) (by simp[aX,dU]) (by simp;omega) (by simp only[X0];exact yM (by simp;omega) (by decide)) rfl ?_)
  ((conv=>whnf);refine CD ⟨i+1,out++[(b8 zs (b8 zs d 4).2 12).1],(b8 zs (b8 zs d 4).2 12).2⟩ ⟨⟨by simp only;omega,by simp only[Z2,List.length_singleton];omega,t⟩,a⟩ (by simp only;omega) ?_)
  repeat'(first|exact trivial|rfl| exact ee _ |exact CK rfl (CK (U0 (C.s dK.own) (by simp[rI])) trivial)|refine CK ?_ ?_|(exact DY (by first|omega|(simp only;omega)|(simp;omega))))
 rw[Jr zs _ _ _ _ ω]at a;rw[<-a]
 repeat'(first|refine gD ?_|(conv=>whnf);first|refine CJ (g) (.inl rfl) ?_)
 refine CF rfl rfl ?_;exact wC
def cF.enc(o:dK)(c:cF):List C:=[I (c.a2:Nat),I (c.V:Nat),I (c.c7:Nat),I c.c3,.s o (c.y.map (rI o))]
theorem cF.enc_fz(c:cF):dP (cF.enc .own c)=cF.enc .X c:=by simp[dP,cF.enc,rI,<-bZ,T5]
theorem cF.enc_fr(c:cF):gR (cF.enc .own c):=⟨trivial,trivial,trivial,trivial,⟨.inl λh=>(by cases h),bf _ _ λy _=>pn y⟩,trivial⟩
theorem wg(zs:List Int)(c:ir)(a:jJ zs)(h:c.i<=zs.length):aS Tryz.prog 193 false [.ptr (iq zs c)] [.ptr (iq zs (Pj zs c).2)] .agg (cF.enc .own (pA zs c)):=by
 have j:=bT h 7;have k:=bT j 3;have l:=bT k 100;have y:=bT l 4;have b:=bU zs c 7 a h (by decide);have d:=bU zs (xB zs c).2 3 a j (by decide);have e:=bU zs (DS zs c).2 100 a k (by decide);have g:=bU zs (FV zs c).2 4 a l (by decide);have o:=vH zs (A6 zs c).2 a y;have p:=bI zs c (n:=7) (by decide);have r:=bI zs (xB zs c).2 (n:=3) (by decide);have B:=bI zs (DS zs c).2 (n:=100) (by decide);have t:=bI zs (FV zs c).2 (n:=4) (by decide);have w:=cF.enc_fr (pA zs c);have C:cF.enc .own (pA zs c)=[I (6+(xB zs c).1),I (6+(xB zs c).1 - (A6 zs c).1),I (1+(DS zs c).1),I (40+(FV zs c).1),.s .own ((Pj zs c).1.map (rI .own))]:=by
  have D:0<=(xB zs c).1/\(xB zs c).1<7:=p;have E:0<=(DS zs c).1/\(DS zs c).1<3:=r;have F:0<=(A6 zs c).1/\(A6 zs c).1<4:=t;unfold cF.enc pA;simp only;rw[Int.toNat_of_nonneg ω,Int.toNat_of_nonneg ω,Int.toNat_of_nonneg ω]
 rw[C]at w |-;change aS _ _ _ _ [.ptr (iq zs (xB zs c).2),_] _ _ at b;change aS _ _ _ _ [.ptr (iq zs (DS zs c).2),_] _ _ at d;change aS _ _ _ _ [.ptr (iq zs (FV zs c).2),_] _ _ at e;change aS _ _ _ _ [.ptr (iq zs (A6 zs c).2),_] _ _ at g;change aS _ _ _ _ [.ptr (iq zs (Pj zs c).2)] _ (aG .own (Pj zs c).1) at o;change aS _ _ _ _ _ _ [I (xB zs c).1]at b;change aS _ _ _ _ _ _ [I (DS zs c).1]at d;change aS _ _ _ _ _ _ [I (FV zs c).1]at e;change aS _ _ _ _ _ _ [I (A6 zs c).1]at g;change 0<=(xB zs c).1/\(xB zs c).1<7 at p;change 0<=(DS zs c).1/\(DS zs c).1<3 at r;change 0<=(FV zs c).1/\(FV zs c).1<100 at B;change 0<=(A6 zs c).1/\(A6 zs c).1<4 at t;generalize Pj zs c=r5 at *;generalize A6 zs c=r4 at *;generalize FV zs c=r3 at *;generalize DS zs c=r2 at *;generalize xB zs c=r1 at *;refine fM 24 [(58,[2,0]),(345,[2])] [(2,65536,[])] [(0,0)] Tryz.func193 rfl (λu q=>?_) (.inr w)
 repeat'(first|refine gO ?_|(conv=>whnf);first|refine CJ (b) (.inl rfl) ?_|refine CJ (d) (.inl rfl) ?_|refine CJ (e) (.inl rfl) ?_|refine CJ (g) (.inl rfl) ?_|refine CJ (o) (.inl rfl) ?_|refine CK ?_ ?_)
 all_goals
  refine CF rfl rfl ?_;exact wC
theorem we(n:Nat)(e:1<=n/\n<=32):ar Tryz.prog 580 false [.val none [I (n:Nat)]] (.tup [some 2,none]) (bo.enc .own (fN n)++[B true]):=by
 have c:=aF ((n:Nat):Int) 1 32;rw[O0 ω]at c;have a:=aZ (b:=[B true]) (bo.enc_fr (fN n)) ⟨trivial,trivial⟩;rw[show bo.enc .own (fN n)=_ from Fj n n]at a |-;refine fO 28 [(7,4,[16,17,18,19])] Tryz.func580 rfl ?_ (.inr a)
 repeat'(first|refine gO ?_|(conv=>whnf);first|refine CB ?_|refine C7 (c) ?_)
 (conv=>whnf)
 refine CE (ι:=Nat) (λk=>[(0,.H .one [I ((n:Nat))]),(2,.H .box [.z,.z]),(4,.H .box [.s .own (List.replicate k [.s .own (List.replicate 16 [I 0])]),.s .own (List.replicate k [B false])]),(5,.H .one [I ((k:Nat):Int)])]) (λk=>k<=n) (λk=>n - k) (0) ?_ (T0 _) λk g=>?_
 ·exact wB
 by_cases h:k<n
 ·repeat'(first|refine gD ?_|(conv=>whnf);first|refine CB ?_|refine Mk.mk 16 rfl rfl (by decide) (by decide) rfl ?_|refine Ap.sn (λr d=>by rw[(List.mem_replicate.1 d).2];rfl) rfl (by simp;omega) (by decide) (B3 _ k) ?_)
  ((conv=>whnf);refine CD (k+1) ω ω ?_;(exact wB))
 obtain rfl:k=n:=ω
 repeat'(first|refine gD ?_|(conv=>whnf);first|refine CB ?_)
 rfl
theorem x4(n:Nat)(e:1<=n/\n<=32):ar Tryz.prog 581 false [.val none [I (n:Nat)]] (.tup [some 1,none]) (aH.enc .own (eB n)++[B true]):=by
 have c:=aF ((n:Nat):Int) 1 32;rw[O0 ω]at c;have a:=aZ (b:=[B true]) (aH.enc_fr (eB n)) ⟨trivial,trivial⟩;have d:aH.enc .own (eB n)=[.s .own (List.replicate n [I 0,I 0])]:=by simp[aH.enc,eB,bi.enc,List.map_replicate]
 rw[d]at a |-;refine fO 11 [] Tryz.func581 rfl ?_ (.inr a)
 repeat'(first|refine gO ?_|(conv=>whnf);first|refine CB ?_|refine C7 (c) ?_|refine Mk.mk n rfl rfl ω (yM ω (by decide)) rfl ?_)
 rfl
theorem uz(p f:Nat)(a:1<=p/\p<=32)(b:1<=f/\f<=32):ar Tryz.prog 557 false [.val none [I (p:Nat)],.val none [I (f:Nat)]] (.tup [some 3,none]) (aU.enc .own ⟨fN f,eB p⟩++[B true]):=by
 refine fO 30 [] Tryz.func557 rfl ?_ (.inr (aZ (aU.enc_fr _) ⟨trivial,trivial⟩))
 repeat'(first|refine gO ?_|(conv=>whnf);first|refine CB ?_|refine C7 (we f b) ?_|refine C7 (x4 p a) ?_)
 rfl
theorem vu(p f:Nat)(a:List Int)(b:1<=p/\p<=32)(c:1<=f/\f<=32)(d:a.length<=40/\∀x∈a,0<=x):ar Tryz.prog 523 false [.val none [I (p:Nat)],.val none [I (f:Nat)],.val none (aG .X a)] (.tup [some 5,none]) (ah.enc .own (bF p f a)++[B true]):=by
 have e:=p9 b c d;have h:=d.1;have g:=ly (bF p f a) (bH e);rw[e]at g;refine fO 31 [(2,260,[17,18,19,10,0,1,2,5,3,1000,1005,4,1005,6])] Tryz.func523 rfl ?_ (.inr (aZ (ah.enc_fr _) ⟨trivial,trivial⟩))
 repeat'(first|refine gO ?_|(conv=>whnf);first|refine CB ?_|refine C7 (uz p f b c) ?_|refine CG (g) ⟨⟨rfl,CQ (bF p f a)⟩,trivial⟩ ?_|refine CR (λ_=>rfl) (λ_=>rfl) ω (by decide) ?_|refine CU (λ_=>rfl) (λ_=>rfl) ω (by decide) ?_|refine CB ?_)
 rfl
def Ql(p f t:Nat)(lim:Int)(a:List Int)(k:Nat):ab:={caps (newHeap p f t lim a) k with a6:=⟨0,[]⟩}
theorem Ak(p f t:Nat)(lim:Int)(a:List Int)(c:1<=p/\p<=32)(d:1<=f/\f<=32)(e:1<=t/\t<=4)(g:0<=lim/\lim<=1000)(h:a.length<=40/\∀x∈a,0<=x):ar Tryz.prog 449 false [.val none [I (p:Nat)],.val none [I (f:Nat)],.val none [I (t:Nat)],.val none [I lim],.val none (aG .X a)] (.tup [some 24,none]) (ab.enc .own (newHeap p f t lim a)++[B true]):=by
 have b:=aF lim 0 1000;rw[O0 g]at b;refine fO 66 [(9,4,[54,55,56,57])] Tryz.func449 rfl ?_ (.inr (aZ (ab.enc_fr _) ⟨trivial,trivial⟩))
 repeat'(first|refine gO ?_|(conv=>whnf);first|refine CB ?_|refine C7 (vu p f a c d h) ?_|refine C7 (AI t e) ?_|refine C7 (b) ?_|refine C7 (rx) ?_)
 (conv=>whnf)
 refine CE (ι:=Nat) (λk=>[(2,.H .one [I ((t:Nat))]),(10,.H .box [.z,.z,.z,I 0,.z,.z,.z,.z,.z,.z,.z,.z,I 0,.z,I 0,I 0,I 0,I 0,B false,I 0,I 0,.z,I 0,I 0]),(16,.H .box (ab.enc .own (Ql p f t lim a k))),(17,.H .one [I ((k:Nat):Int)])]) (λk=>k<=t) (λk=>t - k) (0) ?_ (T0 _) λk i=>?_
 ·exact wB
 by_cases j:k<t
 ·repeat'(first|refine gD ?_|(conv=>whnf);first|refine CB ?_|refine C7 (yh) ?_|refine Ap.sn KI rfl (by rw[X0];show(List.replicate _ fw).length+1<=_;rw[R3];omega) (by decide) (Jj k) ?_)
  ((conv=>whnf);refine CD (k+1) ω ω ?_;(exact wB))
 obtain rfl:k=t:=ω
 repeat'(first|refine gD ?_|(conv=>whnf);first|refine CB ?_|refine C7 (rx) ?_)
 rfl
theorem BF:ar Tryz.prog 450 false [] .agg (ay.enc .own ⟨1,[]⟩):=by
 refine fO 2 [] Tryz.func450 rfl ?_ (.inr (ay.enc_fr _))
 repeat'((conv=>whnf);first|with_reducible (first|refine Lm ?_|refine Wm ω ?_|refine Bn ?_|refine iU.wk rfl ?_)|refine Bt ?_|refine Bu ?_|refine CB ?_)
 exact⟨rfl,rfl,trivial⟩
theorem xH(c:cF)(h:Fz c):ar Tryz.prog 342 false [.val (some 5) (cF.enc .X c)] (.tup [some 26,none]) (bj.enc .own (world0 c)++[B true]):=by
 have a:=Ak c.a2 c.V c.c7 c.c3 c.y h.p h.f h.t h.l h.r;refine fO 26 [(4,2,[23,24])] Tryz.func342 rfl ?_ (.inr (aZ (bj.enc_fr _) ⟨trivial,trivial⟩))
 repeat'(first|refine gO ?_|(conv=>whnf);first|refine CB ?_|refine C7 (a) ?_|refine C7 (BF) ?_)
 rfl
def nH(o:dK)(l:List eg):List C:=[.s o (l.map (eg.enc o))]
theorem eg.enc_fr(x:eg):gR (eg.enc .own x):=⟨trivial,trivial,trivial,trivial,trivial,trivial⟩
theorem HW(l:List eg):gR (nH .own l):=⟨⟨.inl λh=>(by cases h),bf _ _ λy _=>eg.enc_fr y⟩,trivial⟩
theorem J3(l:List eg):dP (nH .own l)=nH .X l:=by simp[dP,nH,eg.enc,<-bZ,T5]
theorem Eb(zs:List Int)(c:ir)(ids:Int)(b:jJ zs)(p:c.i<=zs.length)(r:1<=ids/\ids<=1000):aS Tryz.prog 346 false [.ptr (iq zs c),.val none [I ids]] [.ptr (iq zs (rE zs c ids).2),.val none [I ids]] .agg (eg.enc .own (rE zs c ids).1):=by
 have w:=bT p 3;have y:=bT w ids;have d:(kx zs c ids).2.i<=zs.length:=bT y 20;have B:=bU zs c 3 b p (by decide);have C:=bU zs (zc zs c).2 ids b w r.1;have j:=bU zs (EG zs c ids).2 20 b y (by decide);have H:=bI zs c (n:=3) (by decide);have J:=bI zs (zc zs c).2 (n:=ids) r.1;have D:=bI zs (EG zs c ids).2 (n:=20) (by decide);have e:=iC zs (kx zs c ids).2 szs b d (by decide);have E:=iC zs (kx zs c ids).2 [5,6] b d (by decide);have F:=iC zs (kx zs c ids).2 [1,30,60,120] b d (by decide);have l:=iC zs (kx zs c ids).2 [1,2,3,10,30] b d (by decide);have g:=bU zs (kx zs c ids).2 4 b d (by decide);have h:=bU zs (b8 zs (kx zs c ids).2 4).2 999 b (bT d _) (by decide);have G:=bU zs (kx zs c ids).2 10 b d (by decide);have K:=bI zs (b8 zs (kx zs c ids).2 4).2 (n:=999) (by decide);have L:=bI zs (kx zs c ids).2 (n:=10) (by decide);change aS _ _ _ _ [.ptr (iq zs (zc zs c).2),_] _ [I (zc zs c).1]at B;change aS _ _ _ _ [.ptr (iq zs (EG zs c ids).2),_] _ [I (EG zs c ids).1]at C;change aS _ _ _ _ [.ptr (iq zs (kx zs c ids).2),_] _ [I (kx zs c ids).1]at j;change 0<=(zc zs c).1/\(zc zs c).1<3 at H;change 0<=(EG zs c ids).1/\(EG zs c ids).1<ids at J;change 0<=(kx zs c ids).1/\(kx zs c ids).1<20 at D;have o:=eg.enc_fr (rE zs c ids).1;unfold rE at o |-;generalize kx zs c ids=k at *;generalize EG zs c ids=n at *;generalize zc zs c=t at *;obtain⟨a,M⟩:=k;dsimp only at d e E F l g h G K L D j o |-;refine fM 77 [(58,[2,0]),(459,[2,1])] [] [(0,0),(0,0)] Tryz.func346 rfl (λu q=>?_) (.inr o)
 repeat'(first|refine gO ?_|(conv=>whnf);first|refine CJ (B) (.inl rfl) ?_|refine CJ (C) (.inl rfl) ?_|refine CJ (j) (.inl rfl) ?_)
 obtain rfl|rfl|rfl|rfl|rfl|rfl|rfl|rfl|rfl|rfl|rfl|rfl|rfl|rfl|rfl|rfl|rfl|rfl|rfl|rfl:=(show a=0\/a=1\/a=2\/a=3\/a=4\/a=5\/a=6\/a=7\/a=8\/a=9\/a=10\/a=11\/a=12\/a=13\/a=14\/a=15\/a=16\/a=17\/a=18\/a=19 by omega)
 ·rw[C9 (show((0:Int))<=6 by decide)]
  repeat'(first|refine gO ?_|(conv=>whnf);first|refine CJ (e) (.inl rfl) ?_)
  refine CF rfl rfl ?_;exact wC
 ·rw[C9 (show((1:Int))<=6 by decide)]
  repeat'(first|refine gO ?_|(conv=>whnf);first|refine CJ (e) (.inl rfl) ?_)
  refine CF rfl rfl ?_;exact wC
 ·rw[C9 (show((2:Int))<=6 by decide)]
  repeat'(first|refine gO ?_|(conv=>whnf);first|refine CJ (e) (.inl rfl) ?_)
  refine CF rfl rfl ?_;exact wC
 ·rw[C9 (show((3:Int))<=6 by decide)]
  repeat'(first|refine gO ?_|(conv=>whnf);first|refine CJ (e) (.inl rfl) ?_)
  refine CF rfl rfl ?_;exact wC
 ·rw[C9 (show((4:Int))<=6 by decide)]
  repeat'(first|refine gO ?_|(conv=>whnf);first|refine CJ (e) (.inl rfl) ?_)
  refine CF rfl rfl ?_;exact wC
 ·rw[C9 (show((5:Int))<=6 by decide)]
  repeat'(first|refine gO ?_|(conv=>whnf);first|refine CJ (e) (.inl rfl) ?_)
  refine CF rfl rfl ?_;exact wC
 ·rw[C9 (show((6:Int))<=6 by decide)]
  repeat'(first|refine gO ?_|(conv=>whnf);first|refine CJ (e) (.inl rfl) ?_)
  refine CF rfl rfl ?_;exact wC
 ·rw[C8 (show ¬((7:Int)<=6) by decide),C9 (show((7:Int))<=9 by decide)]
  repeat'(first|refine gO ?_|fail)
  refine CF rfl rfl ?_;exact wC
 ·rw[C8 (show ¬((8:Int)<=6) by decide),C9 (show((8:Int))<=9 by decide)]
  repeat'(first|refine gO ?_|fail)
  refine CF rfl rfl ?_;exact wC
 ·rw[C8 (show ¬((9:Int)<=6) by decide),C9 (show((9:Int))<=9 by decide)]
  repeat'(first|refine gO ?_|fail)
  refine CF rfl rfl ?_;exact wC
 ·rw[C8 (show ¬((10:Int)<=6) by decide),C8 (show ¬((10:Int)<=9) by decide),C9 (show((10:Int))<=12 by decide)]
  repeat'(first|refine gO ?_|(conv=>whnf);first|refine CJ (g) (.inl rfl) ?_|refine CJ (h) (.inl rfl) ?_)
  refine CF rfl rfl ?_;exact wC
 ·rw[C8 (show ¬((11:Int)<=6) by decide),C8 (show ¬((11:Int)<=9) by decide),C9 (show((11:Int))<=12 by decide)]
  repeat'(first|refine gO ?_|(conv=>whnf);first|refine CJ (g) (.inl rfl) ?_|refine CJ (h) (.inl rfl) ?_)
  refine CF rfl rfl ?_;exact wC
 ·rw[C8 (show ¬((12:Int)<=6) by decide),C8 (show ¬((12:Int)<=9) by decide),C9 (show((12:Int))<=12 by decide)]
  repeat'(first|refine gO ?_|(conv=>whnf);first|refine CJ (g) (.inl rfl) ?_|refine CJ (h) (.inl rfl) ?_)
  refine CF rfl rfl ?_;exact wC
 ·rw[C8 (show ¬((13:Int)<=6) by decide),C8 (show ¬((13:Int)<=9) by decide),C8 (show ¬((13:Int)<=12) by decide),C9 (show((13:Int))=13 by decide)]
  repeat'(first|refine gO ?_|(conv=>whnf);first|refine CJ (G) (.inl rfl) ?_)
  refine CF rfl rfl ?_;exact wC
 ·rw[C8 (show ¬((14:Int)<=6) by decide),C8 (show ¬((14:Int)<=9) by decide),C8 (show ¬((14:Int)<=12) by decide),C8 (show ¬((14:Int)=13) by decide),C9 (show((14:Int))=14 by decide)]
  repeat'(first|refine gO ?_|(conv=>whnf);first|refine CJ (E) (.inl rfl) ?_)
  refine CF rfl rfl ?_;exact wC
 ·rw[C8 (show ¬((15:Int)<=6) by decide),C8 (show ¬((15:Int)<=9) by decide),C8 (show ¬((15:Int)<=12) by decide),C8 (show ¬((15:Int)=13) by decide),C8 (show ¬((15:Int)=14) by decide),C9 (show((15:Int))=15 by decide)]
  repeat'(first|refine gO ?_|fail)
  refine CF rfl rfl ?_;exact wC
 ·rw[C8 (show ¬((16:Int)<=6) by decide),C8 (show ¬((16:Int)<=9) by decide),C8 (show ¬((16:Int)<=12) by decide),C8 (show ¬((16:Int)=13) by decide),C8 (show ¬((16:Int)=14) by decide),C8 (show ¬((16:Int)=15) by decide),C9 (show((16:Int))=16 by decide)]
  repeat'(first|refine gO ?_|(conv=>whnf);first|refine CJ (F) (.inl rfl) ?_)
  refine CF rfl rfl ?_;exact wC
 ·rw[C8 (show ¬((17:Int)<=6) by decide),C8 (show ¬((17:Int)<=9) by decide),C8 (show ¬((17:Int)<=12) by decide),C8 (show ¬((17:Int)=13) by decide),C8 (show ¬((17:Int)=14) by decide),C8 (show ¬((17:Int)=15) by decide),C8 (show ¬((17:Int)=16) by decide),C9 (show((17:Int))=17 by decide)]
  repeat'(first|refine gO ?_|fail)
  refine CF rfl rfl ?_;exact wC
 ·rw[C8 (show ¬((18:Int)<=6) by decide),C8 (show ¬((18:Int)<=9) by decide),C8 (show ¬((18:Int)<=12) by decide),C8 (show ¬((18:Int)=13) by decide),C8 (show ¬((18:Int)=14) by decide),C8 (show ¬((18:Int)=15) by decide),C8 (show ¬((18:Int)=16) by decide),C8 (show ¬((18:Int)=17) by decide)]
  repeat'(first|refine gO ?_|(conv=>whnf);first|refine CJ (l) (.inl rfl) ?_)
  refine CF rfl rfl ?_;exact wC
 rw[C8 (show ¬((19:Int)<=6) by decide),C8 (show ¬((19:Int)<=9) by decide),C8 (show ¬((19:Int)<=12) by decide),C8 (show ¬((19:Int)=13) by decide),C8 (show ¬((19:Int)=14) by decide),C8 (show ¬((19:Int)=15) by decide),C8 (show ¬((19:Int)=16) by decide),C8 (show ¬((19:Int)=17) by decide)]
 repeat'(first|refine gO ?_|(conv=>whnf);first|refine CJ (l) (.inl rfl) ?_)
 refine CF rfl rfl ?_;exact wC
theorem Af(zs:List Int)(c:ir)(b:jJ zs)(d:c.i<=zs.length):aS Tryz.prog 194 false [.ptr (iq zs c),.val none [I 40]] [.ptr (iq zs (nv zs c).2),.val none [I 40]] .one (nH .own (nv zs c).1):=by
 have e:=bU zs c 41 b d (by decide);have g:=bI zs c (n:=41) (by decide);obtain⟨n,h⟩:=R2 g.1;have a:(b8 zs c 41).1.toNat=n:=by rw[h];rfl
 unfold nv;rw[a];rw[h]at e g;refine fM 27 [(58,[2,0]),(346,[2,0])] [] [(0,0),(0,0)] Tryz.func194 rfl (λu q=>?_) (.inr (HW _))
 repeat'(first|refine gO ?_|(conv=>whnf);first|refine CJ (e) (.inl rfl) ?_)
 (conv=>whnf)
 refine CE (ι:=Nat) (λi=>[(0,.H .box (iq zs (kT zs c i).2)),(5,.H .one (nH .own (kT zs c i).1)),(6,.H .one [I ((n:Nat):Int)]),(7,.H .one [I ((i:Nat):Int)])]) (λi=>i<=n) (λi=>n - i) (0) ?_ (T0 _) λi p=>?_
 ·exact wC
 obtain⟨t,-,j⟩:=rh (zs:=zs) (c:=c) d (n:=i) ω;by_cases w:i<n
 ·have k:=Eb zs (kT zs c i).2 (1+(i:Int) / 2) b j ω
  have l:((i:Nat):Int).tdiv 2=(i:Int) / 2:=Int.tdiv_eq_ediv_of_nonneg ω
  repeat'(first|refine gD ?_|(conv=>whnf);first|with_reducible (first|refine CS l ?_|refine CN ω ?_)|refine CJ (k) (.inl rfl) ?_|refine CT (aQ λ_=>rfl) (λr o=>by rw[C1.1 o];rfl) (by simp[aX,dU,eg.enc]) (by simp;omega) (by simp only[X0];exact yM (by simp;omega) (by decide)) rfl ?_)
  ((conv=>whnf);refine CD (i+1) ω ω ?_)
  repeat'(first|exact trivial|rfl| exact ee _ |exact CK rfl (CK (U0 (C.s dK.own) (by simp[kT];rfl)) trivial)|refine CK ?_ ?_|(exact DY (by first|omega|(simp only;omega)|(simp;omega))))
 obtain rfl:i=n:=ω
 repeat'(first|refine gD ?_|fail)
 refine CF rfl rfl ?_;exact wC
def rfs(h:ab):List Int:=h.G.y
theorem Ah(k:ah)(p:Int):(newK k p).1.y=k.y:=by unfold newK;split<;>rfl
theorem qI(k:ah)(p:Int):∀n,(newsK k p n).1.y=k.y
 | 0=>rfl
 | n+1=>by
  unfold newsK;split
  ·exact(Ah _ _).trans (qI k p n)
  exact qI k p n
theorem LU(h:ab)(i:Nat):rfs (pH h i).1=rfs h:=by unfold pH;split<;>rfl
theorem z8(h:ab)(t c:Nat):rfs (smallA h t c).1=rfs h:=by
 unfold smallA;split
 ·rfl
 split
 ·rfl
 split
 ·rfl
 split
 ·exact Ah _ _
 exact(LU _ _).trans (Ah _ _)
theorem J7(h:ab)(t n:Int):rfs (allocH h t n).1=rfs h:=by
 unfold allocH;split
 ·rfl
 split
 ·rfl
 split
 ·rfl
 split
 ·rfl
 split
 ·split
  ·exact z8 _ _ _
  exact z8 _ _ _
 unfold largeA;split
 ·rfl
 split
 ·exact qI _ _ _
 exact((su _ _ _).2).trans (qI _ _ _)
theorem Mh(h:ab)(t i:Nat):rfs (freeT h t i).1=rfs h:=by
 unfold freeT;split
 ·exact(su _ _ _).2
 split
 ·rfl
 split
 ·exact(gn t _ _).2.2.2.2.2.2.2
 split<;>rfl
theorem y3(t:Nat)(h:ab):∀k,rfs (flushN t h k).1=rfs h
 | 0=>rfl
 | k+1=>((ig _ (spilt (flushN t h k).1 t k)).2.2.2.2.2.2.2).trans (y3 t h k)
theorem Fr{h:ab}(a:aV h [])(b:JI h):∀n,rfs (stN h n).1=rfs h
 | 0=>rfl
 | n+1=>by
  obtain⟨c,d⟩:=vw a b n;unfold stN;split
  ·rename_i e
   unfold sQ at e;rw[I0]at e;exact((F8 c e.1).2.2.1).trans (Fr a b n)
  exact Fr a b n
theorem Ls{w:bj}{m:Nat}(h:qA w m)(a:eg):rfs (oc w a).1.Z=rfs w.Z:=by
 unfold oc;split
 ·exact J7 _ _ _
 split
 ·split
  ·rfl
  unfold mH;split
  ·unfold rA
   split
   ·rfl
   split
   ·exact Mh _ _ _
   rfl
  split
  ·unfold nU
   split
   ·rfl
   split
   ·rfl
   split<;>rfl
  unfold r7;split
  ·exact((su _ _ _).2).trans (nP _ _ _).2.2
  rfl
 split
 ·unfold fL
  split
  ·split<;>rfl
  split
  ·rfl
  split
  ·exact(gn _ _ _).2.2.2.2.2.2.2
  exact y3 _ _ _
 split
 ·unfold oW
  split
  ·exact(ig _ _).2.2.2.2.2.2.2
  rfl
 split
 ·unfold pb
  split
  ·rfl
  show rfs (started w.Z).1=_;unfold rfs;rw[(BV h.inv).2.1]
 split
 ·exact Fr h.inv h.ji _
 rfl
theorem FD{c:cF}(h:Fz c)(acts:List eg):∀n,rfs (zZ c acts n).1.Z=c.y
 | 0=>rfl
 | n+1=>(Ls (vA h acts n) _).trans (FD h acts n)
def pU(w:bj):List C:=bz w.Z++ay.enc .X w.b3
theorem NL(w:bj):dP (pU w)=bj.enc .X w:=by
 unfold pU;rw[eX,bD,<-Ca,rH,Ca]
 rfl
theorem Dt(w:bj)(id:Int)(g:w.Z.O.length<=1048576):aS Tryz.prog 452 false [.ptr (pU w),.val none [I id]] [.ptr (pU w),.val none [I id]] .one [I (pF w.Z id)]:=by
 refine fM 28 [] [] [(0,0),(0,0)] Tryz.func452 rfl (λu q=>?_)
 repeat'(first|refine gO ?_|(conv=>whnf);first|refine CB ?_)
 (conv=>whnf)
 refine CE (ι:=Nat) (λi=>[(0,.H .box (pU w)),(1,.H .one [I (id)]),(5,.H .one [I ((i:Nat):Int)])]) (λi=>i<=w.Z.O.length/\∀(j:Nat)(z:br),j<i->w.Z.O[j]? = some z->KX id z=false) (λi=>w.Z.O.length - i) (0) ?_ (⟨T0 _,λj z h=>ω⟩) λi c=>?_
 ·exact wC
 obtain⟨c,b⟩:=c;by_cases d:i<w.Z.O.length
 ·have a:=ao d
  by_cases e:(nth w.Z.O i).Id=id
  ·repeat'(first|refine gA ?_|(conv=>whnf);first|with_reducible refine CC (aa a) ?_|refine CB ?_|refine CH rfl (aa a) rfl ?_)
   refine CF rfl (U0 (λz=>[I z]) (ed a (O0 e) b).symm) ?_;exact wC
  repeat'(first|refine gA ?_|(conv=>whnf);first|with_reducible refine CC (aa a) ?_|refine CB ?_|refine CH rfl (aa a) rfl ?_)
  ((conv=>whnf);refine CD (i+1) ⟨ω,d4 a (R0 e) b⟩ ω ?_;(exact wC))
 repeat'(first|refine gD ?_|(conv=>whnf);first|refine CB ?_)
 refine CF rfl (U0 (λz=>[I z]) (gP ω b).symm) ?_;exact wC
theorem cW(y:ab):(bz y).length=24:=rfl
theorem x5(w:bj)(m n:Nat)(h:qA w m)(B:n<=50):aS Tryz.prog 457 false [.ptr (pU w),.val none [I (n:Nat)]] [.ptr (pU ⟨(stN w.Z n).1,w.b3⟩),.val none [I (n:Nat)]] .one [I ((stN w.Z n).2:Nat)]:=by
 refine fM 35 [(536,[2])] [] [(0,0),(0,0)] Tryz.func457 rfl (λu q=>?_)
 repeat'(first|refine gO ?_|(conv=>whnf);first|refine CB ?_)
 (conv=>whnf)
 refine CE (ι:=Nat) (λi=>[(0,.H .box (pU ⟨(stN w.Z i).1,w.b3⟩)),(1,.H .one [I ((n:Nat):Int)]),(5,.H .one [I (((stN w.Z i).2:Nat):Int)]),(6,.H .one [I ((i:Nat):Int)])]) (λi=>i<=n/\(stN w.Z i).2=i) (λi=>n - i) (0) ?_ (⟨T0 _,rfl⟩) λi l=>?_
 ·exact wC
 obtain⟨l,C⟩:=l;obtain⟨o,D⟩:=vw h.inv h.ji i;have b:stN w.Z (i+1)=if sQ (stN w.Z i).1=true then(mStep (stN w.Z i).1,(stN w.Z i).2+1) else stN w.Z i:=rfl
 have p:=(aD.1 o.ker).2.2.2.2;by_cases E:i<n
 ·cases c:(stN w.Z i).1.u with
  | true=>
   have y:=(AC _ o c).frame (r:=ay.enc .X w.b3) ((cW _).trans (cW _).symm);by_cases g:(stN w.Z i).1.G.Calls<=99000
   ·have d:sQ (stN w.Z i).1=true:=by unfold sQ;rw[c,O0 g];rfl
    rw[C9 d]at b;generalize stN w.Z i=s at *
    repeat'(first|refine gD ?_|(conv=>whnf);first|refine CB ?_|refine Bf.t (O0 g) ?_|refine Bf.t c ?_|refine CJ (y) (.inl rfl) ?_)
    ((conv=>whnf);refine CD (i+1) ⟨ω,by rw[b];simp only;omega⟩ ω ?_)
    rw[b];exact wC
   have d:sQ (stN w.Z i).1=false:=by unfold sQ;rw[c,R0 g];rfl
   have a:∀k,stN w.Z (i+k)=stN w.Z i:=λk=>by
    induction k with
    | zero=>rfl
    | succ k j=>show(if sQ (stN w.Z (i+k)).1=true then _ else stN w.Z (i+k))=_;rw[j,d,C8 (by simp)]
   have e:=a (n - i);rw[show i+(n - i)=n by omega]at e;rw[e];generalize stN w.Z i=s at *
   repeat'(first|refine gD ?_|(conv=>whnf);first|refine CB ?_|refine Bf.f (R0 g) ?_|refine Bf.t c ?_)
   refine CF rfl rfl ?_;exact wC
  | false=>
   have d:sQ (stN w.Z i).1=false:=by unfold sQ;rw[c];rfl
   have a:∀k,stN w.Z (i+k)=stN w.Z i:=λk=>by
    induction k with
    | zero=>rfl
    | succ k j=>show(if sQ (stN w.Z (i+k)).1=true then _ else stN w.Z (i+k))=_;rw[j,d,C8 (by simp)]
   have e:=a (n - i);rw[show i+(n - i)=n by omega]at e;rw[e];generalize stN w.Z i=s at *
   repeat'(first|refine gD ?_|(conv=>whnf);first|refine CB ?_|refine Bf.f c ?_)
   refine CF rfl rfl ?_;exact wC
 obtain rfl:i=n:=ω
 repeat'(first|refine gD ?_|(conv=>whnf);first|refine CB ?_)
 refine CF rfl rfl ?_;exact wC
theorem FT{k:ah}(a:a7 k=true):(a7 k&&decide (k.Calls<100000))=decide (k.Calls≠100000):=by
 have:=(aD.1 a).2.2.2.2;rw[a,Bool.true_and,U4,C0,C0];omega
theorem wh(w:bj)(a:eg)(m:Nat)(h:qA w m)(B:a.b6=5\/a.b6=6\/a.b6=7):aS Tryz.prog 454 false [.ptr (pU w),.val (some 5) (eg.enc .X a)] [.ptr (pU ⟨(fL w.Z a).1,w.b3⟩),.val (some 5) (eg.enc .X a)] .one [I (fL w.Z a).2]:=by
 have d:=h.inv;have o:=d.nc;have p:w.Z.T.length<=4:=by have:=(d6.1 d.mail).1.2.1;omega
 have C:=lr.of d.mail;have i:=kX w.Z.G (bH d.ker);rw[FT d.ker]at i;have j:=aF a.a3 0 (w.Z.T.length - 1:Int);unfold fL;refine fM 59 [(534,[2,0]),(433,[2,0])] [(3,267,[15,16,17,18,19,20,21,14,22,23,6,0,1,2,3,4,5,6,7,8,9,10,11,1009,12]),(8,15,[30,31,32,33,34,35,36,37,38,39,40,41,42,43,44])] [(0,0),(0,0)] Tryz.func454 rfl (λu q=>?_);by_cases l:a.b6=5
 ·rw[C9 l]
  by_cases e:0<=a.a3/\a.a3<=w.Z.T.length - 1
  ·have y:mu w.Z a:=e
   obtain⟨t,g⟩:=R2 e.1;have b:=Ec w.Z.w t d.mail ω;rw[<-g]at b;rw[g]at e |-;simp only[O2];rw[g]at b;by_cases c:0<(nth w.Z.w.U t).length
   ·rw[C9 (show mu w.Z a/\0<(nth w.Z.w.U t).length from⟨y,c⟩)]
    rw[C9 c,O0 c]at b;rw[<-g]at b
    repeat'(first|refine gA ?_|(conv=>whnf);first|with_reducible refine Bf.E (λk=>?_) (λk=>?_)|refine CB ?_|refine CG (b) ⟨⟨rfl,aK.enc_fz w.Z.w⟩,⟨rfl,rfl⟩,trivial⟩ ?_|refine CB ?_)
    refine CF rfl rfl ?_;exact wC
   rw[C8 (show ¬(mu w.Z a/\0<(nth w.Z.w.U t).length) from λx=>c x.2)];rw[C8 c,R0 c]at b;rw[<-g]at b
   repeat'(first|refine gA ?_|(conv=>whnf);first|with_reducible refine Bf.E (λk=>?_) (λk=>?_)|refine CB ?_|refine CG (b) ⟨⟨rfl,aK.enc_fz w.Z.w⟩,⟨rfl,rfl⟩,trivial⟩ ?_|refine CB ?_)
   refine CF rfl rfl ?_;exact wC
  rw[C8 (show ¬(mu w.Z a/\0<(nth w.Z.w.U a.a3.toNat).length) from λx=>e x.1)];have b:=Gf w.Z.w a.a3 d.mail ω
  repeat'(first|refine gA ?_|(conv=>whnf);first|with_reducible refine Bf.E (λk=>?_) (λk=>?_)|refine CB ?_|refine CG (b) ⟨⟨rfl,aK.enc_fz w.Z.w⟩,⟨rfl,rfl⟩,trivial⟩ ?_|refine CB ?_)
  refine CF rfl rfl ?_;exact wC
 rw[C8 l];by_cases e:w.Z.G.Calls≠100000;rotate_left
 ·rw[C9 (show ¬(w.Z.G.Calls≠100000/\mu w.Z a) from λx=>e x.1)]
  rw[R0 e]at i
  repeat'(first|refine gA ?_|(conv=>whnf);first|refine CB ?_|refine CG (i) ⟨⟨rfl,CQ _⟩,trivial⟩ ?_|refine CB ?_)
  refine CF rfl rfl ?_;exact wC
 rw[O0 e]at i;by_cases c:0<=a.a3/\a.a3<=w.Z.T.length - 1;rotate_left
 ·rw[C9 (show ¬(w.Z.G.Calls≠100000/\mu w.Z a) from λx=>c x.2)]
  rw[R0 c]at j
  repeat'(first|refine gA ?_|(conv=>whnf);first|refine CB ?_|refine CG (i) ⟨⟨rfl,CQ _⟩,trivial⟩ ?_|refine C7 (j) ?_|refine CB ?_)
  refine CF rfl rfl ?_;exact wC
 rw[C8 (show ¬¬(w.Z.G.Calls≠100000/\mu w.Z a) from X3 ⟨e,c⟩)];rw[O0 c]at j;obtain⟨t,g⟩:=R2 c.1;by_cases n:a.b6=6
 ·rw[C9 n]
  have b:=(uB w.Z t d ω).frame (r:=ay.enc .X w.b3) ((cW _).trans (cW _).symm);rw[show a.a3.toNat=t by omega];rw[<-g]at b
  repeat'(first|refine gA ?_|(conv=>whnf);first|refine CB ?_|refine CG (i) ⟨⟨rfl,CQ _⟩,trivial⟩ ?_|refine C7 (j) ?_|refine CJ (b) (.inl rfl) ?_|refine CB ?_)
  refine CF rfl rfl ?_;exact wC
 rw[C8 n];have b:=(xG w.Z t d ω).frame (r:=ay.enc .X w.b3) ((cW _).trans (cW _).symm);rw[show a.a3.toNat=t by omega];rw[<-g]at b
 repeat'(first|refine gA ?_|(conv=>whnf);first|refine CB ?_|refine CG (i) ⟨⟨rfl,CQ _⟩,trivial⟩ ?_|refine C7 (j) ?_|refine CJ (b) (.inl rfl) ?_|refine CB ?_)
 refine CF rfl rfl ?_;exact wC
theorem vn(w:bj)(a:eg)(i m:Nat)(h:qA w m)(X:m<=900)(G:K8 a)(t:i<w.Z.O.length):aS Tryz.prog 453 false [.ptr (pU w),.val (some 5) (eg.enc .X a),.val none [I (i:Nat)]] [.ptr (pU (mH w a i).1),.val (some 5) (eg.enc .X a),.val none [I (i:Nat)]] .one [I (mH w a i).2]:=by
 have e:=h.inv;have b:=ao t;have M:=tl e (am t);have N:=cG e (am t) (k:=0);have O:1<=(nth w.Z.O i).o/\(nth w.Z.O i).o<=1000:=by
  rcases e.oow _ (am t) with⟨s,P,Y,Z⟩|⟨l,H,d,c⟩
  ·have hc:=aC (e.L.sok s P)
   have:=gf (n:=(nth w.Z.O i).o) ω;omega
  have h8:=cw (e.L.lok l H);omega
 have g:=kX w.Z.G (bH e.ker);rw[FT e.ker]at g;have Q:=G.k;have R:=G.p;have S:=G.v;unfold mH;refine fM 126 [(527,[2,0,0]),(529,[2,0,0]),(531,[2,0,0])] [(6,7,[29,30,31,32,33,34,35]),(8,269,[40,41,42,43,44,45,46,47,39,48,49,50,51,0,1,2,3,4,5,6,7,8,9,10,11,12,13,1010]),(13,10,[62,63,64,65,66,67,68,69,70,71]),(15,273,[76,77,78,79,80,81,82,83,84,85,86,87,75,88,89,90,91,0,1,2,3,4,5,6,7,8,9,10,11,12,13,14,15,16,17,1014]),(17,15,[93,94,95,96,97,98,99,100,101,102,103,104,105,106,107]),(19,271,[112,113,114,115,116,117,118,119,120,121,111,122,123,124,125,0,1,2,3,4,5,6,7,8,9,10,11,12,13,14,15,1012])] [(0,0),(0,0),(0,0)] Tryz.func453 rfl (λu q=>?_);by_cases J:a.b6=2
 ·rw[C9 J]
  unfold rA;by_cases d:w.Z.G.Calls=100000
  ·rw[C9 d]
   rw[R0 (X3 d)]at g
   repeat'(first|refine gA ?_|(conv=>whnf);first|with_reducible refine CC (aa b) ?_|refine CB ?_|refine CG (g) ⟨⟨rfl,CQ _⟩,trivial⟩ ?_|refine CH rfl (aa b) rfl ?_|refine CB ?_)
   refine CF rfl rfl ?_;exact wC
  rw[C8 d];rw[O0 d]at g;have C:=(NQ w.Z i a.a3 e t).frame (r:=ay.enc .X w.b3) ((cW _).trans (cW _).symm);by_cases c:0<=a.a3/\a.a3<=w.Z.T.length - 1
  ·rw[C9 (show mu w.Z a from c)]
   rw[C9 c,C9 c]at C;have T:=Bv w.b3 (nth w.Z.O i).Id m h.ref ω;generalize freeT w.Z a.a3.toNat i=f at C |-;by_cases o:f.2=0
   ·rw[C9 o]
    repeat'(first|refine gA ?_|(conv=>whnf);first|with_reducible (first|refine CC (aa b) ?_|refine Bf.E (λj=>?_) (λj=>?_))|refine CB ?_|refine CG (g) ⟨⟨rfl,CQ _⟩,trivial⟩ ?_|refine CH rfl (aa b) rfl ?_|refine CJ (C) (.inl rfl) ?_|refine Cl.sh T rfl ?_|refine CB ?_)
    refine CF rfl rfl ?_;exact wC
   rw[C8 o]
   repeat'(first|refine gA ?_|(conv=>whnf);first|with_reducible (first|refine CC (aa b) ?_|refine Bf.E (λj=>?_) (λj=>?_))|refine CB ?_|refine CG (g) ⟨⟨rfl,CQ _⟩,trivial⟩ ?_|refine CH rfl (aa b) rfl ?_|refine CJ (C) (.inl rfl) ?_|refine CB ?_)
   refine CF rfl rfl ?_;exact wC
  rw[C8 (show ¬mu w.Z a from c)];rw[C8 c,C8 c]at C
  repeat'(first|refine gA ?_|(conv=>whnf);first|with_reducible (first|refine CC (aa b) ?_|refine Bf.E (λj=>?_) (λj=>?_))|refine CB ?_|refine CG (g) ⟨⟨rfl,CQ _⟩,trivial⟩ ?_|refine CH rfl (aa b) rfl ?_|refine CJ (C) (.inl rfl) ?_|refine CB ?_)
  refine CF rfl rfl ?_;exact wC
 rw[C8 J];by_cases K:a.b6=3
 ·rw[C9 K]
  unfold nU;have D:=aF a.At 0 ((nth w.Z.O i).o - 1);by_cases d:0<=a.At/\a.At<=(nth w.Z.O i).o - 1;rotate_left
  ·rw[C9 d]
   rw[R0 d]at D
   repeat'(first|refine gA ?_|(conv=>whnf);first|with_reducible (first|refine CC (aa b) ?_|refine Bf.E (λj=>?_) (λj=>?_))|refine CB ?_|refine CH rfl (aa b) rfl ?_|refine C7 (D) ?_|refine CB ?_)
   refine CF rfl rfl ?_;exact wC
  rw[C8 (X3 d)];rw[O0 d]at D;have F:=(xE w.Z i a.At a.Value e t d).frame (r:=ay.enc .X w.b3) (by split<;>rfl);have U:=cG e (am t) d;by_cases c:(ac w.Z.G.F.R (((nth w.Z.O i).Addr+a.At) / 16)).j=1
  ·rw[C9 c]
   rw[C9 (.inl c),C9 c]at F
   repeat'(first|refine gA ?_|(conv=>whnf);first|with_reducible (first|refine CC (aa b) ?_|refine Bf.E (λj=>?_) (λj=>?_))|refine CB ?_|refine CH rfl (aa b) rfl ?_|refine C7 (D) ?_|refine CJ (F) (.inl rfl) ?_|refine CB ?_)
   refine CF rfl rfl ?_;exact wC
  rw[C8 c];by_cases o:0<=a.Value/\a.Value<=999;rotate_left
  ·rw[C9 o]
   rw[C9 (.inr o),C8 c,C9 o]at F
   repeat'(first|refine gA ?_|(conv=>whnf);first|with_reducible (first|refine CC (aa b) ?_|refine Bf.E (λj=>?_) (λj=>?_))|refine CB ?_|refine CH rfl (aa b) rfl ?_|refine C7 (D) ?_|refine CJ (F) (.inl rfl) ?_|refine CB ?_)
   refine CF rfl rfl ?_;exact wC
  rw[C8 (X3 o)];rw[C8 (λx=>x.elim c λy=>y o),C8 c,C8 (X3 o)]at F;obtain⟨b5,V⟩:=Al w.b3 (nth w.Z.O i).Id a.At a.Value m h.ref ω o
  repeat'(first|refine gA ?_|(conv=>whnf);first|with_reducible (first|refine CC (aa b) ?_|refine Bf.E (λj=>?_) (λj=>?_))|refine CB ?_|refine CH rfl (aa b) rfl ?_|refine C7 (D) ?_|refine CJ (F) (.inl rfl) ?_|refine C7 (V) ?_|refine CB ?_)
  refine CF rfl rfl ?_;exact wC
 rw[C8 K];unfold r7;by_cases d:w.Z.G.Calls=100000
 ·rw[C8 (λx=>x.1 d)]
  rw[R0 (X3 d)]at g
  repeat'(first|refine gA ?_|(conv=>whnf);first|with_reducible refine CC (aa b) ?_|refine CB ?_|refine CG (g) ⟨⟨rfl,CQ _⟩,trivial⟩ ?_|refine CH rfl (aa b) rfl ?_|refine CB ?_)
  refine CF rfl rfl ?_;exact wC
 rw[O0 d]at g;by_cases c:kR w.Z i a.Value
 ·rw[C9 ⟨d,c⟩]
  have B:=(qW w.Z i a.Value e t c.1).frame (r:=ay.enc .X w.b3) (by split<;>rfl);rw[C9 c,O0 c]at B;obtain⟨b7,W⟩:=B2 w.b3 (nth w.Z.O i).Id a.Value m h.ref ω
  repeat'(first|refine gA ?_|(conv=>whnf);first|with_reducible refine CC (aa b) ?_|refine CB ?_|refine CG (g) ⟨⟨rfl,CQ _⟩,trivial⟩ ?_|refine CH rfl (aa b) rfl ?_|refine CJ (B) (.inl rfl) ?_|refine C7 (W) ?_|refine CB ?_)
  refine CF rfl rfl ?_;exact wC
 rw[C8 (λx=>c x.2)];by_cases o:yk w.Z (nth w.Z.O i).Addr<0
 ·have B:=(F9 w.Z (nth w.Z.O i).Addr a.Value (by have:=e.lens.larges;omega) e.L.lok o).frame (r:=ay.enc .X w.b3) ((cW _).trans (cW _).symm)
  repeat'(first|refine gA ?_|(conv=>whnf);first|with_reducible refine CC (aa b) ?_|refine CB ?_|refine CG (g) ⟨⟨rfl,CQ _⟩,trivial⟩ ?_|refine CH rfl (aa b) rfl ?_|refine CJ (B) (.inl rfl) ?_|refine CB ?_)
  refine CF rfl rfl ?_;exact wC
 have B:=(qW w.Z i a.Value e t ω).frame (r:=ay.enc .X w.b3) (by split<;>rfl);rw[C8 c,R0 c]at B
 repeat'(first|refine gA ?_|(conv=>whnf);first|with_reducible refine CC (aa b) ?_|refine CB ?_|refine CG (g) ⟨⟨rfl,CQ _⟩,trivial⟩ ?_|refine CH rfl (aa b) rfl ?_|refine CJ (B) (.inl rfl) ?_|refine CB ?_)
 refine CF rfl rfl ?_;exact wC
theorem qA.fit{w:bj}{m:Nat}(h:qA w m)(a:iX w.Z.G.y):ab.sml w.Z/\ab.wf w.Z:=
 ⟨(h.inv.fit a (lr.of h.inv.mail).sml).sml,h.inv.wf a⟩
theorem F6(w:bj)(a:eg)(m:Nat)(h:qA w m)(K:m<=900)(L:iX w.Z.G.y)(p:K8 a):aS Tryz.prog 343 false [.ptr (pU w),.val (some 5) (eg.enc .X a)] [.ptr (pU (oc w a).1),.val (some 5) (eg.enc .X a)] .one [I (oc w a).2]:=by
 have i:=h.inv;have M:=p.k;have O:=p.n;have j:=i.nums;unfold cg at j;rw[C0]at j;unfold oc;refine fM 123 [(71,[2,0,0]),(452,[2,0]),(453,[2,0,0]),(454,[2,0]),(456,[2,0]),(130,[2]),(457,[2,0])] [(3,265,[13,14,15,16,17,18,19,21,22,0,1,2,3,4,5,6,7,8,9,10,11,1010,12]),(5,269,[26,27,28,29,30,31,32,33,25,34,35,36,37,0,1,2,3,4,5,6,7,8,9,10,11,12,13,1010]),(19,21,[62,63,64,65,66,67,68,69,70,71,72,73,74,75,76,77,78,79,80,81,82]),(21,5,[86,87,88,89,90])] [(0,0),(0,0)] Tryz.func343 rfl (λu q=>?_);by_cases F:a.b6=1
 ·rw[C9 F]
  have c:=(xQ w.Z a.a3 a.N i).frame (r:=ay.enc .X w.b3) ((cW _).trans (cW _).symm);by_cases e:(allocH w.Z a.a3 a.N).2.2=0
  ·rw[C9 e]
   have y:1<=a.N/\a.N<=1000:=by
    refine Classical.byContradiction λB=>?_
    unfold allocH at e;rw[C9 B]at e;split at e
    ·exact absurd (show(5:Int)=0 from e) (by decide)
    split at e
    ·exact absurd (show(1:Int)=0 from e) (by decide)
    exact absurd (show(2:Int)=0 from e) (by decide)
   have o:=yd w.b3 a.N m h.ref ω y;generalize allocH w.Z a.a3 a.N=f at c e |-
   repeat'(first|refine gA ?_|(conv=>whnf);first|with_reducible refine Bf.E (λb=>?_) (λb=>?_)|refine CB ?_|refine CJ (c) (.inl rfl) ?_|refine C7 (o) ?_|refine CB ?_)
   refine CF rfl rfl ?_;exact wC
  rw[C8 e];generalize allocH w.Z a.a3 a.N=f at c e |-
  repeat'(first|refine gA ?_|(conv=>whnf);first|with_reducible refine Bf.E (λb=>?_) (λb=>?_)|refine CB ?_|refine CJ (c) (.inl rfl) ?_|refine CB ?_)
  refine CF rfl rfl ?_;exact wC
 rw[C8 F];by_cases G:a.b6=2\/a.b6=3\/a.b6=4
 ·rw[C9 G]
  have c:=Dt w a.N (by have:=i.lens.objs;omega);by_cases e:pF w.Z a.N<0
  ·rw[C9 e]
   repeat'(first|refine gA ?_|(conv=>whnf);first|with_reducible refine Bf.E (λb=>?_) (λb=>?_)|refine CB ?_|refine CJ (c) (.inl rfl) ?_)
   all_goals first|omega|skip
   all_goals
    refine CF rfl rfl ?_;exact wC
  rw[C8 e];obtain⟨P,S,T⟩:=fx (KX a.N) w.Z.O (by unfold pF at e;omega);have o:=vn w a (pF w.Z a.N).toNat m h K p P;rw[show(((pF w.Z a.N).toNat:Nat):Int)=pF w.Z a.N by omega]at o
  repeat'(first|refine gA ?_|(conv=>whnf);first|with_reducible refine Bf.E (λb=>?_) (λb=>?_)|refine CB ?_|refine CJ (c) (.inl rfl) ?_|refine CJ (o) (.inl rfl) ?_)
  all_goals first|omega|skip
  all_goals
   refine CF rfl rfl ?_;exact wC
 rw[C8 G];by_cases C:a.b6=5\/a.b6=6\/a.b6=7
 ·rw[C9 C]
  have c:=wh w a m h C
  repeat'(first|refine gA ?_|(conv=>whnf);first|with_reducible refine Bf.E (λb=>?_) (λb=>?_)|refine CB ?_|refine CJ (c) (.inl rfl) ?_)
  all_goals first|omega|skip
  all_goals
   refine CF rfl rfl ?_;exact wC
 rw[C8 C];by_cases H:a.b6=8
 ·rw[C9 H]
  unfold oW;have d:=kX w.Z.G (bH i.ker);rw[FT i.ker]at d;have c:=aF a.N 0 1000;by_cases g:w.Z.G.Calls≠100000;rotate_left
  ·rw[C8 (λx=>g x.1)]
   rw[R0 g]at d
   repeat'(first|refine gA ?_|(conv=>whnf);first|with_reducible refine Bf.E (λb=>?_) (λb=>?_)|refine CB ?_|refine CG (d) ⟨⟨rfl,CQ _⟩,trivial⟩ ?_|refine CB ?_)
   refine CF rfl rfl ?_;exact wC
  rw[O0 g]at d;by_cases l:0<=a.N/\a.N<=1000;rotate_left
  ·rw[C8 (λx=>l x.2.1)]
   rw[R0 l]at c
   repeat'(first|refine gA ?_|(conv=>whnf);first|with_reducible refine Bf.E (λb=>?_) (λb=>?_)|refine CB ?_|refine CG (d) ⟨⟨rfl,CQ _⟩,trivial⟩ ?_|refine C7 (c) ?_|refine CB ?_)
   refine CF rfl rfl ?_;exact wC
  rw[O0 l]at c;by_cases D:w.Z.b5+a.N<=1000000
  ·rw[C9 ⟨g,l,D⟩]
   have o:=(Ax w.Z a.N i l D).frame (r:=ay.enc .X w.b3) ((cW _).trans (cW _).symm)
   repeat'(first|refine gA ?_|(conv=>whnf);first|with_reducible refine Bf.E (λb=>?_) (λb=>?_)|refine CB ?_|refine CG (d) ⟨⟨rfl,CQ _⟩,trivial⟩ ?_|refine C7 (c) ?_|refine CJ (o) (.inl rfl) ?_|refine CB ?_)
   refine CF rfl rfl ?_;exact wC
  rw[C8 (λx=>D x.2.2)]
  repeat'(first|refine gA ?_|(conv=>whnf);first|with_reducible refine Bf.E (λb=>?_) (λb=>?_)|refine CB ?_|refine CG (d) ⟨⟨rfl,CQ _⟩,trivial⟩ ?_|refine C7 (c) ?_|refine CB ?_)
  refine CF rfl rfl ?_;exact wC
 rw[C8 H];by_cases J:a.b6=9
 ·rw[C9 J]
  unfold pb;obtain⟨Q,R⟩:=h.fit L;have d:=Et w.Z Q R;rw[show dO w.Z=true from i.to]at d;cases g:w.Z.u with
  | true=>
   rw[C9 rfl]
   repeat'(first|refine gA ?_|(conv=>whnf);first|with_reducible refine Bf.E (λb=>?_) (λb=>?_)|refine CB ?_|refine Bf.t g ?_|refine CB ?_)
   refine CF rfl rfl ?_;exact wC
  | false=>
   rw[C8 (by simp)];have c:=(yl w.Z i).frame (r:=ay.enc .X w.b3) ((cW _).trans (cW _).symm);cases l:(started w.Z).2<;>rw[l]at c
   ·rw[C8 (by simp)]
    repeat'(first|refine gA ?_|(conv=>whnf);first|with_reducible refine Bf.E (λb=>?_) (λb=>?_)|refine CB ?_|refine Bf.f g ?_|refine CG (d) ⟨⟨rfl,bD w.Z⟩,trivial⟩ ?_|refine CJ (c) (.inl rfl) ?_|refine CB ?_)
    refine CF rfl rfl ?_;exact wC
   rw[C9 rfl]
   repeat'(first|refine gA ?_|(conv=>whnf);first|with_reducible refine Bf.E (λb=>?_) (λb=>?_)|refine CB ?_|refine Bf.f g ?_|refine CG (d) ⟨⟨rfl,bD w.Z⟩,trivial⟩ ?_|refine CJ (c) (.inl rfl) ?_|refine CB ?_)
   refine CF rfl rfl ?_;exact wC
 rw[C8 J];have k10:a.b6=10:=ω
 have d:=aF a.N 0 50;by_cases g:0<=a.N/\a.N<=50
 ·rw[C9 ⟨k10,g⟩]
  rw[O0 g]at d;obtain⟨n,B⟩:=R2 g.1;have c:=x5 w m n h ω;rw[show a.N.toNat=n by omega];rw[<-B]at c
  repeat'(first|refine gA ?_|(conv=>whnf);first|with_reducible refine Bf.E (λb=>?_) (λb=>?_)|refine CB ?_|refine C7 (d) ?_|refine CJ (c) (.inl rfl) ?_|refine CB ?_)
  refine CF rfl rfl ?_;exact wC
 rw[C8 (λx=>g x.2)];rw[R0 g]at d
 repeat'(first|refine gA ?_|(conv=>whnf);first|with_reducible refine Bf.E (λb=>?_) (λb=>?_)|refine CB ?_|refine C7 (d) ?_|refine CB ?_)
 refine CF rfl rfl ?_;exact wC
theorem Aw(w:bj)(h1:ab.sml w.Z)(a:ay.sml w.b3):ar Tryz.prog 344 false [.val (some 26) (bj.enc .X w)] .agg (bj.enc .own w):=by
 have b:=Ay w.Z h1;have c:=dY w.b3 a;refine fO 10 [(1,5,[3,4,5,6,7])] Tryz.func344 rfl ?_ (.inr (bj.enc_fr _))
 repeat'(first|refine gO ?_|(conv=>whnf);first|refine C7 (b) ?_|refine C7 (c) ?_|refine CB ?_)
 rfl
theorem Am(c:cF)(acts:List eg)(h:Fz c)(d:iX c.y)(n:∀a∈acts,K8 a)(D:acts.length<=80):ar Tryz.prog 192 false [.val (some 5) (cF.enc .X c),.val none (nH .X acts)] (.tup [some 26,none]) (bj.enc .own (zZ c acts acts.length).1++aG .own (zZ c acts acts.length).2):=by
 have o:=xH c h;refine fP 42 [(343,[2,0]),(2000005,[6,21,25])] [] Tryz.func192 rfl ?_ (.inr (aZ (bj.enc_fr _) (bV _)))
 repeat'(first|refine gD ?_|(conv=>whnf);first|refine C7 (o) ?_|refine EF.mk rfl rfl rfl ?_)
 (conv=>whnf)
 refine CE (ι:=Nat) (λi=>[(1,.H .one (nH .X acts)),(4,.H .box [.z,.z,.z,I 0,.z,.z,.z,.z,.z,.z,.z,.z,I 0,.z,I 0,I 0,I 0,I 0,B false,I 0,I 0,.z,I 0,I 0,I 0,.z]),(6,.H .box (pU (zZ c acts i).1)),(8,.H .one (aG .own (zZ c acts i).2)),(9,.H .one [I ((i:Nat):Int)])]) (λi=>i<=acts.length) (λi=>acts.length - i) (0) ?_ (T0 _) λi p=>?_
 ·repeat'(first|exact trivial|rfl |exact o6 q|exact ee _|refine CK ?_ ?_|(exact DY (by first|omega|(simp only;omega)|(simp;omega))))
 have e:=vA h acts i;have b:=FD h acts i;have g:(zZ c acts i).2.length=i:=by
  clear e b p
  induction i with
  | zero=>rfl
  | succ k t=>show((zZ c acts k).2++[_]).length=_;rw[Z2,t];rfl
 by_cases j:i<acts.length
 ·have l:=ao j
  have u:=F6 (zZ c acts i).1 (nth acts i) i e ω (by unfold rfs at b;rw[b];exact d) (n _ (am j))
  repeat'(first|refine gD ?_|(conv=>whnf);first|with_reducible refine CC (aa l) ?_|refine CH rfl (aa l) rfl ?_|refine CJ (u) (.inl rfl) ?_|refine CT cI (λr d=>by rw[C1.1 d];rfl) (by simp[aX,dU]) (by simp;omega) (by simp only[X0];exact yM (by simp;omega) (by decide)) rfl ?_)
  ((conv=>whnf);refine CD (i+1) ω ω ?_)
  repeat'(first|exact trivial|rfl| exact ee _ |exact CK rfl (CK (U0 (C.s dK.own) (by simp[zZ,rI])) trivial)|refine CK ?_ ?_|(exact DY (by first|omega|(simp only;omega)|(simp;omega))))
 obtain rfl:i=acts.length:=ω
 have w:=e.fit (by unfold rfs at b;rw[b];exact d);have y:=Aw (zZ c acts acts.length).1 w.1 (e.ref.sml ω)
 repeat'(first|refine gD ?_|(conv=>whnf);first|refine CG (y) ⟨⟨rfl,NL _⟩,trivial⟩ ?_)
 rfl
theorem BM(zs:List Int)(c:ir):iX (pA zs c).y:=by
 show iX (og zs 4 0 [] (A6 zs c).2).1;have key:∀(f i:Nat)(out:List Int)(c:ir),(∀x∈out,mq x)->∀x∈(og zs f i out c).1,mq x:=by
  intro f
  induction f with
  | zero=>intro i out c h;exact h
  | succ f b=>
   intro i out c h;unfold og;split
   ·refine b _ _ _ λx a=>?_
    rcases U2.1 a with a|a
    ·exact h x a
    rw[C1.1 a];have:=bI zs (b8 zs c 4).2 (n:=12) (by decide);exact⟨ω,ω⟩
   exact h
 exact⟨by
   have d:∀(f i:Nat)(out:List Int)(c:ir),out.length+f<=4->(og zs f i out c).1.length<=4:=by
     intro f
     induction f with
     | zero=>intro i out c h;exact h
     | succ f b=>
       intro i out c h;unfold og;split
       · exact b _ _ _ (by simp only[Z2,List.length_singleton];omega)
       show out.length<=4;omega
   have:=d 4 0 [] (A6 zs c).2 (W2 _);omega,key 4 0 [] _ (λx a=>by cases a)⟩
theorem x8(zs:List Int)(a:jJ zs):aS Tryz.prog 56 false [.ptr (iq zs (um zs))] [.ptr (iq zs (nv zs (fD zs)).2)] .agg (bj.enc .own (drawn zs)):=by
 have b:(um zs).i<=zs.length:=T0 _;obtain⟨g,d⟩:=qE b;have o:=bI zs (fD zs) (n:=41) (by decide);obtain⟨p,h,-⟩:=rh (zs:=zs) (c:=fD zs) d (n:=(b8 zs (fD zs) 41).1.toNat) ω;have e:=wg zs (um zs) a b;have j:=Af zs (fD zs) a d;have k:=Am (pA zs (um zs)) (nv zs (fD zs)).1 g (BM zs _) h (by show(kT zs (fD zs) _).1.length<=80;omega);have l:drawn zs=(zZ (pA zs (um zs)) (nv zs (fD zs)).1 (nv zs (fD zs)).1.length).1:=rfl;rw[l];change aS _ _ _ _ [.ptr (iq zs (fD zs))] _ _ at e;generalize pA zs (um zs)=cf at *;generalize r:nv zs (fD zs)=A at *;generalize t:zZ cf A.1 A.1.length=R at *;refine fM 14 [(193,[2]),(194,[2,0])] [] [(0,0)] Tryz.func56 rfl (λu q=>?_) (.inr (bj.enc_fr _))
 repeat'(first|refine gO ?_|(conv=>whnf);first|refine CJ (e) (.inl rfl) ?_|refine CJ (j) (.inl rfl) ?_|refine CG (k) ⟨⟨rfl,cF.enc_fz _⟩,⟨rfl,J3 _⟩,trivial⟩ ?_)
 refine CF rfl rfl ?_;exact wC
def QC(z:List Int):List C:=[.s .X (z.map rU)]
theorem Ez(zs:List Int)(b:jJ zs):pM Tryz.prog 57 true [.val none (QC zs)] .box (iq zs (um zs)):=by
 have r:=b.1;have e:IntKind.i64.wrap (98801+(zs.length:Nat))=w64 (98801+(zs.length:Nat)):=rfl;have g:pc zs 0=98801+(zs.length:Nat):=by show w64 _=_;rw[<-e];exact eE ω ω
 have a:=U0 I g;refine Qn (n:=32) (t:=2) (mo:=[]) (tb:=[]) Tryz.func57 (by kernel_rfl) rfl (by kernel_rfl) (by rfl) rfl ?_
 repeat'(first|refine gO ?_|fail)
 (conv=>whnf)
 refine CE (ι:=Nat) (λi=>[(0,.H .one (QC zs)),(3,.H .one [I (pc zs i)]),(4,.H .one [I ((i:Nat):Int)])]) (λi=>i<=min zs.length 4000) (λi=>min zs.length 4000 - i) (0) ?_ (T0 _) λi u=>?_
 ·repeat'(first|exact trivial|rfl |exact o6 a|exact ee _|refine CK ?_ ?_|(exact DY (by first|omega|(simp only;omega)|(simp;omega))))
 have h:IntKind.i64.wrap (pc zs i*131)=w64 (pc zs i*131):=rfl;have j:IntKind.i64.wrap (w64 (pc zs i*131)+nth zs i)=w64 (w64 (pc zs i*131)+nth zs i):=rfl;have k:IntKind.i64.wrap (w64 (w64 (pc zs i*131)+nth zs i)+7)=w64 (w64 (w64 (pc zs i*131)+nth zs i)+7):=rfl;have l:IntKind.i64.wrap (BitVec.ofInt IntKind.i64.bits (w64 (w64 (w64 (pc zs i*131)+nth zs i)+7)) &&& BitVec.ofInt IntKind.i64.bits 1073741823).toNat=pc zs (i+1):=rfl;by_cases c:i<zs.length/\i<4000
 ·have d:=ao c.1
  have w:=b.2 _ (am c.1);generalize pc zs i=H at *;generalize o:pc zs (i+1)=H2 at *
  repeat'(first|refine gD ?_|(conv=>whnf);first|with_reducible (first|refine CC (aa d) ?_|refine CL h ?_|refine CL j ?_|refine CL k ?_|refine CL l ?_)|refine CH rfl (aa d) rfl ?_)
  ((conv=>whnf);refine CD (i+1) ω ω ?_)
  rw[o];exact wC
 obtain rfl:i=min zs.length 4000:=ω
 have p:um zs = ⟨0,pc zs (min zs.length 4000)⟩:=rfl;rw[p];generalize pc zs (min zs.length 4000)=H at *
 repeat'(first|refine gD ?_|(conv=>whnf);first|with_reducible refine Bf.D (λq=>?_) (λq=>?_))
 all_goals rfl
theorem uX(zs:List Int)(a:jJ zs):ar Tryz.prog 16 false [.val none (QC zs)] .agg (bj.enc .own (drawn zs)):=by
 have b:=Ez zs a;have c:=x8 zs a;refine fP 6 [(56,[2])] [] Tryz.func16 rfl ?_ (.inr (bj.enc_fr _))
 repeat'(first|refine gO ?_|(conv=>whnf);first|refine Cl.g b (.inr rfl) ?_|refine CJ (c) (.inl rfl) ?_)
 rfl
set_option maxHeartbeats 2000000
set_option maxHeartbeats 2000000
set_option maxHeartbeats 2000000
set_option maxHeartbeats 2000000
set_option maxHeartbeats 2000000
set_option maxHeartbeats 2000000
theorem LB(zs:List Int):iX (drawn zs).Z.G.y:=by
 have a:(um zs).i<=zs.length:=T0 _;have:=FD (qE a).1 (nv zs (fD zs)).1 (nv zs (fD zs)).1.length;unfold rfs at this;show iX (zZ _ _ _).1.Z.G.y;rw[this];exact BM zs _
theorem HR(zs:List Int):ab.sml (drawn zs).Z/\ab.wf (drawn zs).Z:=(DX zs).fit (LB zs)
theorem P3(zs:List Int)(a:zs.length<=9223372036854775807):ar Tryz.prog 15 false [.val none (QC zs)] .one [B (decide ((zs.length:Int) > 1048576))]:=by
 refine fO 6 [] Tryz.func15 rfl ?_
 repeat'(first|refine gO ?_|fail)
 rfl
def cl(k:ah)(f c:Nat):Int:=nth (nth k.F.V.S f) c
structure At(k:ah)(a:Int)(f c:Nat):Prop where
 m:(ac k.F.R (a / 16)).j≠0
 f:(ac k.F.R (a / 16)).e=f
 c:a % 16=c
theorem At.cell{k:ah}{a:Int}{f c:Nat}(h:At k a f c):dG k a=cl k f c:=by
 unfold dG cl;rw[h.f,h.c,O2,O2]
theorem At.mk'{k:ah}(c:a7 k=true){a:Int}(b:(ac k.F.R (a / 16)).j≠0):At k a (cL k a) (a % 16).toNat:=by
 obtain⟨-,-,-,d,-⟩:=bX c b;exact⟨b,by unfold cL;omega,ω⟩
theorem At.uniq{k:ah}{a:Int}{f c b d:Nat}(h:At k a f c)(h':At k a b d):f=b/\c=d:=by
 have e:=h.f;have g:=h'.f;have i:=h.c;have j:=h'.c;omega
def LF(h:ab)(a:Int)(f c:Nat):Prop:=
 (∃s∈h.M,dX s a/\(ac (tbl h) s.Q).e=f/\(c:Int) / csz s.b=dr s a/\c<16)\/
 ∃l∈h.K,a=16*l.Q/\∃b:Int,16*l.Q<=b/\b<16*(l.Q+l.a2)/\At h.G b f c
theorem aV.pe{h:ab}{E:List Int}(a:aV h E){s:ax}(b:s∈h.M):ac (tbl h) s.Q=nth (tbl h).J s.Q.toNat:=by
 obtain⟨c,d,-⟩:=a.mapped b;unfold ac;rw[C9 ⟨c,d⟩]
theorem rg{l:a8}(a:bE l=true){b:Int}(h1:16*l.Q<=b)(c:b<16*(l.Q+l.a2)):∃k:Nat,k<l.a2.toNat/\b / 16=l.Q+(k:Nat):=by
 have:=aM a;exact⟨(b / 16 - l.Q).toNat,ω,ω⟩
theorem kY{h:ab}{E:List Int}(e:aV h E){l:a8}(i:l∈h.K){b:Int}(h1:16*l.Q<=b)(o:b<16*(l.Q+l.a2)){f c:Nat}(j:At h.G b f c){q:Int}(n:(ac (tbl h) q).j≠0)(g:(ac (tbl h) q).e=f):q=b / 16:=by
 obtain⟨k,p,u⟩:=rg (e.L.lok l i) h1 o;obtain⟨w,y,r,-⟩:=bX e.ker j.m;obtain⟨A,B,t,-⟩:=bX e.ker n;have d:=j.f;rw[r]at d;have a:=n;change (ac h.G.F.R q).j≠0 at a;change (ac h.G.F.R q).e=f at g;rw[t]at a g;have:=e.pg.one l i (b / 16).toNat (dm.2 ⟨k,p,ω⟩) q.toNat (by show q.toNat<h.G.F.R.J.length;omega) a (by show _=(nth h.G.F.R.J _).e;rw[d];exact g);omega
theorem uR{h:ab}{E:List Int}(d:aV h E){a b:Int}{f c:Nat}(T:LF h a f c)(U:LF h b f c):a=b:=by
 have G:∀s∈h.M,(ac (tbl h) s.Q).e=f->∀l∈h.K,∀x:Int,16*l.Q<=x->x<16*(l.Q+l.a2)->At h.G x f c->False:=λs g V l o x H J W=>by
  obtain⟨K,t,q⟩:=d.mapped g;obtain⟨k,w,X⟩:=rg (d.L.lok l o) H J;have:=kY d o H J W (by rw[d.pe g];exact q) V;exact d.L.dis s g l o k w ω
 rcases T with⟨s,g,M,N,O,s4⟩|⟨l,o,Y,x,A,B,P⟩<;>rcases U with⟨u,r,Q,R,S,u4⟩|⟨m,p,K,y,t,q,C⟩
 ·by_cases e:s.Q=u.Q
  ·obtain⟨i,D,rfl⟩:=aJ g
   obtain⟨j,F,rfl⟩:=aJ r;have:=cE (f:=(·.Q)) d.L.nd D F e;subst this;exact wl (d.L.sok _ g) M.2.2.1 Q.2.2.1 (O.symm.trans S)
  exfalso;have p:=d.pg.mesh s g u r e (by rw[<-d.pe g,<-d.pe r,N,R]);unfold meshable at p;simp only[I0,C0]at p;obtain⟨⟨o1,o2⟩,Z,-,e3⟩:=p;have b1:=(dH _ _).1 M.2.2.2;have b2:=(dH _ _).1 Q.2.2.2;have hn:(a - 16*s.Q) / csz s.b=(b - 16*u.Q) / csz u.b:=by
   have z1:dr s a=dr u b:=by rw[<-O,<-S,Z]
   exact z1
  have:=U0 (λn=>Nat.testBit n ((a - 16*s.Q) / csz s.b).toNat) e3;simp only[Nat.testBit_and,Nat.zero_testBit]at this;rw[b1.2.2.2,hn,b2.2.2.2]at this;cases this
 ·exact(G s g N m p y t q C).elim
 ·exact(G u r R l o x A B P).elim
 have hq:=kY d o A B P C.m C.f;obtain⟨i,D,rfl⟩:=aJ o;obtain⟨j,F,rfl⟩:=aJ p;obtain⟨k,w,X⟩:=rg (d.L.lok _ o) A B;obtain⟨k',k3,k4⟩:=rg (d.L.lok _ p) t q;have:=d.L.one i j D F k k' w k3 ω;subst this;rw[Y,K]
def po(h:ab)(o:br)(f c:Nat):Prop:=∃j:Int,0<=j/\j<o.o/\At h.G (o.Addr+j) f c
theorem jq{h:ab}{E:List Int}(i:aV h E){o:br}(B:o∈h.O){f c:Nat}(C:po h o f c):LF h o.Addr f c:=by
 obtain⟨k,J,K,a⟩:=C;rcases i.oow o B with⟨s,r,t,D⟩|⟨l,u,F,M⟩
 ·have b:=i.L.sok s r
  have j:=aC b;have d:=bM j.2.2;have p:=t;obtain⟨N,O,w,-⟩:=t;have g:o.o<=csz s.b:=by
   have P:=gf (n:=o.o) ω;rw[D];have:o.o=1\/o.o=2\/o.o=3\/o.o=4\/o.o=5\/o.o=6\/o.o=7\/o.o=8:=ω
   rcases this with e|e|e|e|e|e|e|e<;>rw[e]<;>decide
  have G:(o.Addr+k) / 16=s.Q:=by rcases d with e|e|e|e<;>rw[e]at w g<;>omega
  have y:=a.f;have H:=a.c;rw[G]at y;refine .inl ⟨s,r,p,y,?_,ω⟩;unfold dr;rcases d with e|e|e|e<;>rw[e]at w g |-<;>omega
 have q:=i.L.lok l u;have A:=q;unfold bE at A;rw[C0]at A;exact .inr ⟨l,u,F,o.Addr+k,ω,ω,a⟩
theorem Hk{h:ab}{E:List Int}(a:aV h E){o u:br}(b:o∈h.O)(d:u∈h.O){f c:Nat}(h1:po h o f c)(g:po h u f c):o=u:=by
 have e:=uR a (jq a b h1) (jq a d g);obtain⟨i,k,rfl⟩:=aJ b;obtain⟨j,l,rfl⟩:=aJ d;rw[cE (f:=(·.Addr)) (cN a.osr) k l e]
def JX(h:ab)(f c:Nat):Prop:=h.u=true/\(ac (tbl h) h.Y.W.a4).e=f/\(c:Int)∈h.Y.W.S.take h.Y.a.toNat
structure CI(h:ab):Prop where
 z:∀f c:Nat,c<16->cl h.G f c≠0->(∃o∈h.O,po h o f c)\/JX h f c
 jv:h.u=true->∀c:Nat,(c:Int)∈h.Y.W.S.take h.Y.a.toNat->cl h.G (bG h.G h.Y.W.a4) c=cl h.G (bG h.G h.Y.W.a1) c
 jd:h.u=true->∀s∈h.M,s.Q=h.Y.W.a4->∀c:Nat,c<16->(c:Int)∈h.Y.W.S->aR s.b1 ((c:Int) / csz s.b)=false
 jc:h.u=true->∀s∈h.M,s.Q=h.Y.W.a1->∀c:Nat,c<16->aR s.b1 ((c:Int) / csz s.b)=true->(c:Int)∈h.Y.W.S
 jn:h.u=true->(h.Y.b2=0->h.Y.a=0)/\(h.Y.b2=2->h.Y.a=h.Y.W.S.length)
 m1:∀q:Nat,(nth (tbl h).J q).j=1->h.u=true/\(q:Int)=h.Y.W.a1/\h.Y.b2≠0
 m2:h.u=true->h.Y.b2≠0->(ac (tbl h) h.Y.W.a1).j=1
theorem CI.keep{h h':ab}(j:CI h)(g:h'.Y=h.Y)(k:h'.u=h.u)(r:∀q:Nat,(nth (tbl h').J q).j=1->(nth (tbl h).J q).j=1)(l:h.u=true->ac (tbl h') h.Y.W.a4=ac (tbl h) h.Y.W.a4/\ac (tbl h') h.Y.W.a1=ac (tbl h) h.Y.W.a1)(t:∀f c:Nat,c<16->cl h'.G f c≠0->cl h.G f c=cl h'.G f c\/∃o∈h'.O,po h' o f c)(n:∀o∈h.O,∀f c:Nat,c<16->po h o f c->cl h'.G f c≠0->∃F∈h'.O,po h' F f c)(u:h.u=true->∀c:Nat,(c:Int)∈h.Y.W.S.take h.Y.a.toNat->cl h'.G (bG h.G h.Y.W.a4) c=cl h.G (bG h.G h.Y.W.a4) c/\cl h'.G (bG h.G h.Y.W.a1) c=cl h.G (bG h.G h.Y.W.a1) c)(p:h.u=true->∀d∈h'.M,d.Q=h.Y.W.a4\/d.Q=h.Y.W.a1->∃s∈h.M,s.Q=d.Q/\s.b=d.b/\∀i,aR d.b1 i=true->aR s.b1 i=true):CI h' where
 z f c b w:=by
  rcases t f c b w with e|e
  ·rcases j.z f c b (by rw[e];exact w) with⟨o,G,y⟩|⟨E,H,J⟩
   ·exact .inl (n o G f c b y w)
   exact .inr ⟨by rw[k];exact E,by rw[g,(l E).1];exact H,by rw[g];exact J⟩
  exact .inl e
 jv a c h2:=by
  rw[k]at a;rw[g]at h2 |-;obtain⟨K,L⟩:=u a c h2;obtain⟨M,N⟩:=l a;have O:bG h'.G h.Y.W.a4=bG h.G h.Y.W.a4:=U0 (λe:bi=>e.e.toNat) M;have P:bG h'.G h.Y.W.a1=bG h.G h.Y.W.a1:=U0 (λe:bi=>e.e.toNat) N;rw[O,P,K,L];exact j.jv a c h2
 jd a d hs' hp c b hcm:=by
  rw[k]at a;rw[g]at hp hcm;obtain⟨s,A,B,C,D⟩:=p a d hs' (.inl hp);have:=j.jd a s A (B.trans hp) c b hcm;rw[<-C];rw[<-C5]at this |-;exact λe=>this (D _ e)
 jc a d hs' hp c b hb:=by
  rw[k]at a;rw[g]at hp |-;obtain⟨s,A,B,C,D⟩:=p a d hs' (.inr hp);exact j.jc a s A (B.trans hp) c b (by rw[C];exact D _ hb)
 jn a:=by rw[k]at a;rw[g];exact j.jn a
 m1 q Q:=by rw[k,g];exact j.m1 q (r q Q)
 m2 a h2:=by
  rw[k]at a;rw[g]at h2 |-;rw[(l a).2];exact j.m2 a h2
def Kp(h h':ab):Prop:=∀o∈h'.O,o∈h.O/\∀j:Int,0<=j->j<o.o->dG h'.G (o.Addr+j)=dG h.G (o.Addr+j)
theorem Kp.refl(h:ab):Kp h h:=λ_ a=>⟨a,λ_ _ _=>rfl⟩
theorem CX:type_of% @Kp.refl:=@Kp.refl
theorem Kp.trans{h h1 c:ab}(a:Kp h h1)(b:Kp h1 c):Kp h c:=λo f=>by
 obtain⟨g,i⟩:=b o f;obtain⟨k,l⟩:=a o g;exact⟨k,λj d e=>(i j d e).trans (l j d e)⟩
theorem aV.jobM{h:ab}{E:List Int}(c:aV h E)(f:h.u=true):(ac (tbl h) h.Y.W.a4).j≠0/\(ac (tbl h) h.Y.W.a1).j≠0:=by
 obtain⟨-,⟨a,d,g⟩,b,e,i⟩:=c.job f;rw[<-g,<-i,c.pe d,c.pe e];exact⟨(c.mapped d).2.2,(c.mapped e).2.2⟩
theorem kw{k:ah}(a:a7 k=true){p:Int}(b:(ac k.F.R p).j≠0):(ac k.F.R p).e=(bG k p:Nat):=by
 obtain⟨-,-,-,c,-⟩:=bX a b;unfold bG;omega
theorem CI.kern{h h':ab}{E:List Int}(A:aV h E)(M:CI h)(n:∀o∈h'.O,o∈h.O)(N:h'.Y=h.Y)(B:h'.u=h.u)(b:∀o∈h.O,o∉h'.O->∀f c:Nat,c<16->po h o f c->cl h'.G f c=0)(F:∀q:Nat,(nth (tbl h').J q).j=1->(nth (tbl h).J q).j=1)(d:h.u=true->ac (tbl h') h.Y.W.a4=ac (tbl h) h.Y.W.a4/\ac (tbl h') h.Y.W.a1=ac (tbl h) h.Y.W.a1)(r:∀o∈h'.O,∀j:Int,0<=j->j<o.o->ac (tbl h') ((o.Addr+j) / 16)=ac (tbl h) ((o.Addr+j) / 16))(t:∀f c:Nat,cl h'.G f c=cl h.G f c\/(cl h'.G f c=0/\∀p:Int,(ac (tbl h') p).j≠0->(ac (tbl h') p).e≠f))(G:h.u=true->∀u∈h'.M,u.Q=h.Y.W.a4\/u.Q=h.Y.W.a1->∃s∈h.M,s.Q=u.Q/\s.b=u.b/\∀i,aR u.b1 i=true->aR s.b1 i=true):CI h'/\Kp h h':=by
 have cov:∀o∈h'.O,∀f c:Nat,po h o f c->po h' o f c:=λo O f c ⟨j,w,C,l⟩=>by
  have e:=r o O j w C;unfold tbl at e;exact⟨j,w,C,by rw[e];exact l.m,by rw[e];exact l.f,l.c⟩
 have H:∀{p:Int},ac (tbl h') p=ac (tbl h) p->(ac (tbl h) p).j≠0->∀c,cl h'.G (bG h.G p) c=cl h.G (bG h.G p) c:=fun {p} e B c=>by
  rcases t (bG h.G p) c with g|⟨-,g⟩
  ·exact g
  refine absurd ?_ (g p (by rw[e];exact B));rw[e];exact kw A.ker B
 refine⟨M.keep N B F d (λf c _ J=>.inl ?_) (λo a f c K y J=>?_) (λD c _=>⟨H (d D).1 (A.jobM D).1 c,H (d D).2 (A.jobM D).2 c⟩) G,λo a=>⟨n o a,λj w C=>?_⟩⟩
 ·rcases t f c with g|g
  ·exact g.symm
  exact absurd g.1 J
 ·by_cases e:o∈h'.O
  ·exact⟨o,e,cov o e f c y⟩
  exact absurd (b o a e f c K y) J
 have e:=r o a j w C;have L:=(cG A (n o a) (k:=j) ⟨w,ω⟩).1;have:=H e L ((o.Addr+j) % 16).toNat;unfold dG;unfold tbl at e;rw[e];exact this
theorem vQ{h:ab}{E:List Int}(d:aV h E){a:Int}{f c:Nat}(y:LF h a f c){s:ax}(n:s∈h.M)(g:n7 (tbl h) s.Q)(r:(ac (tbl h) s.Q).e=f):dX s a/\(c:Int) / csz s.b=dr s a/\a / 16=s.Q:=by
 obtain⟨K,M,A⟩:=d.mapped n;rcases y with⟨u,o,p,B,C,N⟩|⟨l,q,-,b,t,w,D⟩
 ·obtain⟨O,P,F⟩:=d.mapped o
  have:=g u.Q.toNat F (by rw[<-d.pe o,<-d.pe n,B,r]);obtain⟨i,G,rfl⟩:=aJ n;obtain⟨j,H,rfl⟩:=aJ o;have e:=cE (f:=(·.Q)) d.L.nd G H ω;subst e;exact⟨p,C,by have:=p.1;have:=p.2.1;omega⟩
 exfalso;obtain⟨k,J,Q⟩:=rg (d.L.lok l q) t w;have:=kY d q t w D (by rw[d.pe n];exact A) r;exact d.L.dis s n l q k J ω
theorem rd{h:ab}{E:List Int}(n:aV h E)(d:JI h)(o:CI h)(e:h.u=true){a:Int}{f c:Nat}(p:LF h a f c)(g:c<16)(i:(c:Int)∈h.Y.W.S):(ac (tbl h) h.Y.W.a4).e≠f:=λq=>by
 obtain⟨s,k,b,-,j,-,-⟩:=d.sp e;obtain⟨r,t,-⟩:=vQ n p k (by rw[j];exact d.sk e) (by rw[j];exact q);have:=o.jd e s k j c g i;rw[t]at this;have l:=r.2.2.2;unfold dr at this;rw[this]at l;cases l
theorem E7{h:ab}{E:List Int}(n:aV h E)(d:JI h)(j:CI h)(g:h.u=true){a:Int}{f c:Nat}(o:LF h a f c)(k:(ac (tbl h) (a / 16)).j≠1)(e:(c:Int)∈h.Y.W.S.take h.Y.a.toNat):(ac (tbl h) h.Y.W.a1).e≠f:=λp=>by
 obtain⟨-,-,b,q,-,i,-⟩:=d.sp g;obtain⟨-,-,r⟩:=vQ n o q (by rw[i];exact d.sm g) (by rw[i];exact p);by_cases l:h.Y.b2=0
 ·rw[(j.jn g).1 l]at e;cases e
 have:=j.m2 g l;rw[r,i]at k;exact k this
theorem yB(n c:Nat):nth (List.replicate n (0:Int)) c=0:=by
 unfold nth;rw[I2,List.getElem?_replicate];split<;>rfl
structure KL(k k':ah)(lo n:Int):Prop where
 out:∀q:Int,¬(lo<=q/\q<lo+n)->ac k'.F.R q=ac k.F.R q
 ins:∀q:Int,lo<=q->q<lo+n->(ac k'.F.R q).j=0
 cel:∀f c:Nat,cl k' f c=cl k f c\/(cl k' f c=0/\∀p:Int,(ac k'.F.R p).j≠0->(ac k'.F.R p).e≠f)
theorem G2(k:ah)(F:Int)(f c:Nat):cl (gH k F) f c=cl k f c\/(cl (gH k F) f c=0/\F.toNat=f/\(pagesOn k.F.R F).length=0):=by
 unfold gH;split
 ·rename_i e
  unfold cl;simp only[bA];split
  ·rename_i a;exact .inr ⟨yB _ _,a.1,e⟩
  exact .inl rfl
 exact .inl rfl
theorem lU{t:aH}{p:Int}(h:(ac t p).j≠0):0<=p/\p<t.J.length/\ac t p=nth t.J p.toNat:=by
 unfold ac at h |-;split
 ·rename_i e;exact⟨e.1,e.2,rfl⟩
 rename_i e;rw[C8 e]at h;exact absurd rfl h
theorem KJ{t:aH}{F:Int}(h:(pagesOn t F).length=0){p:Int}(a:(ac t p).j≠0):(ac t p).e≠F:=λe=>by
 obtain⟨c,d,b⟩:=lU a;rw[b]at a e;have:0<(pagesOn t F).length:=dL.2 ⟨p.toNat,ω,a,e⟩;omega
theorem KL.refl(k:ah)(lo:Int):KL k k lo 0:=⟨λ_ _=>rfl,λq a b=>ω,λ_ _=>.inl rfl⟩
theorem KL.unmap{k:ah}(h:a7 k=true){p:Int}(j:0<=p/\p<k.F.R.J.length):KL k (dJ k p) p 1:=by
 have b:=qn h j;have d:=(kH k p).1;have i:∀q:Int,ac (dJ k p).F.R q=if q=p then⟨0,0⟩ else ac k.F.R q:=λq=>by
  unfold ac;rw[d];by_cases e:0<=q/\q<k.F.R.J.length
  ·rw[C9 e,C9 e,b q.toNat]
   by_cases a:q=p
   ·rw[C9 a,C9 ω]
   rw[C8 a,C8 ω]
  rw[C8 e,C8 e];by_cases a:q=p
  ·rw[C9 a]
  rw[C8 a]
 refine⟨λq g=>by rw[i,C8 ω],λq t u=>by rw[i,C9 ω],λf c=>?_⟩;unfold dJ;split
 ·exact .inl rfl
 rename_i l;rcases G2 (pk k p) (ac k.F.R p).e f c with e|⟨n,a,o⟩
 ·exact .inl e
 refine .inr ⟨n,λq g=>?_⟩;rw[(me _ _).1]at g |-;have:=KJ o g;have r:=kw h l;unfold bG at r;rw[<-a];omega
theorem KL.trans{k i j:ah}{lo n m:Int}(t:0<=n/\0<=m)(a:KL k i lo n)(b:KL i j (lo+n) m):KL k j lo (n+m):=by
 refine⟨λq u=>(b.out q ω).trans (a.out q ω),λq l w=>?_,λf c=>?_⟩
 ·by_cases e:lo+n<=q
  ·exact b.ins q e ω
  rw[b.out q ω];exact a.ins q l ω
 rcases b.cel f c with e|e
 ·rcases a.cel f c with g|⟨o,r⟩
  ·exact .inl (e.trans g)
  refine .inr ⟨e.trans o,λp d=>?_⟩;by_cases h:lo+n<=p/\p<lo+n+m
  ·exact absurd (b.ins p h.1 h.2) d
  rw[b.out p h]at d |-;exact r p d
 exact .inr e
theorem KL.unmN{k:ah}(a:a7 k=true){p:Int}(b:0<=p):∀n:Nat,p+n<=k.F.R.J.length->KL k (unmN k p n) p n
 | 0,_=>KL.refl k p
 | n+1,h=>by
  have c:=KL.unmN a b n ω;have d:=KL.unmap (iM a p n) (p:=p+n) ⟨ω,by rw[(fo k p n).1];omega⟩;have:=KL.trans ⟨ω,ω⟩ c d;rw[show((n:Nat):Int)+1=((n+1:Nat):Int) by omega]at this;exact this
theorem KL.md{k b:ah}{lo n:Int}(a:KL k b lo n)(f:b.F.R.J.length=k.F.R.J.length)(q:Nat)(h:(nth b.F.R.J q).j≠0):nth b.F.R.J q=nth k.F.R.J q:=by
 have g:=re h;have c:ac b.F.R (q:Nat)=nth b.F.R.J q:=by unfold ac;rw[C9 ⟨ω,ω⟩];rfl
 have d:ac k.F.R (q:Nat)=nth k.F.R.J q:=by unfold ac;rw[C9 ⟨ω,ω⟩];rfl
 by_cases e:lo<=q/\(q:Int)<lo+n
 ·rw[<-c,a.ins q e.1 e.2]at h;exact absurd rfl h
 rw[<-c,<-d,a.out q e]
theorem Az{n:Int}(h:0<=aI n):n<=csz (aI n):=by
 have a:=gf h;have:n=1\/n=2\/n=3\/n=4\/n=5\/n=6\/n=7\/n=8:=ω
 rcases this with e|e|e|e|e|e|e|e<;>rw[e]<;>decide
theorem Kj{h:ab}{E:List Int}(k:aV h E){o:br}(p:o∈h.O)(g:¬aI o.o<0){f c:Nat}(i:po h o f c):f=cL h.G o.Addr/\(o.Addr % 16).toNat<=c/\c<(o.Addr % 16).toNat+(csz (aI o.o)).toNat:=by
 obtain⟨⟨s,q,r,t⟩,-⟩:=(dA k p).2 g;obtain⟨A,B,l,-⟩:=r;have a:=Az (n:=o.o) ω;have b:=bM (aC (k.L.sok s q)).2.2;rw[<-t]at a |-;obtain⟨j,C,D,d⟩:=i;have u:=d.c;have w:=d.f;have y:(o.Addr+j) / 16=o.Addr / 16:=by rcases b with e|e|e|e<;>rw[e]at l a<;>omega
 rw[y]at w;refine⟨by unfold cL;omega,?_⟩;rcases b with e|e|e|e<;>rw[e]at l a |-<;>omega
theorem CI.clrS{h:ab}{E:List Int}(n:aV h E)(p:CI h){i:Nat}{a:Int}(g:i<h.M.length)(l:dX (nth h.M i) a):CI (clrS h i a):=by
 have b:=n.L.sok _ (am g);refine p.keep rfl rfl (λq h=>h) (λ_=>⟨rfl,rfl⟩) (λf c _ _=>.inl rfl) (λo r f c _ d _=>⟨o,r,d⟩) (λ_ c _=>⟨rfl,rfl⟩) λ_ w e _=>?_
 rcases dI e with rfl|⟨j,t,-,rfl⟩
 ·refine⟨_,am g,rfl,rfl,λk u=>((Ef (eC b) (oG b ⟨l.1,l.2.1⟩) k).1 u).1⟩
 exact⟨_,am t,rfl,rfl,λ_ h=>h⟩
theorem Li{h:ab}{E:List Int}(a:aV h E){o:br}(p:o∈h.O){j:Int}(h1:0<=j)(J:j<o.o){s:ax}(r:s∈h.M)(T:(o.Addr+j) / 16=s.Q):dX s o.Addr:=by
 obtain⟨U,V,W⟩:=a.mapped r;have t:=(cG a p (k:=j) ⟨h1,ω⟩).1;have w:=At.mk' a.ker t;rcases jq a p ⟨j,h1,J,w⟩ with⟨u,K,G,-,-,-⟩|⟨l,b,X,-⟩
 ·rcases a.oow o p with⟨v,q,c,M⟩|⟨l,b,N,O⟩
  ·have y:=a.L.sok v q
   have A:=aC y;have B:=bM A.2.2;have C:=c;obtain⟨Y,Z,P,-⟩:=c;have D:o.o<=csz v.b:=by
    have hb:=gf (n:=o.o) ω;rw[M];have:o.o=1\/o.o=2\/o.o=3\/o.o=4\/o.o=5\/o.o=6\/o.o=7\/o.o=8:=ω
    rcases this with e|e|e|e|e|e|e|e<;>rw[e]<;>decide
   have Q:(o.Addr+j) / 16=v.Q:=by rcases B with e|e|e|e<;>rw[e]at P D<;>omega
   obtain⟨i,R,rfl⟩:=aJ r;obtain⟨k,S,rfl⟩:=aJ q;have:=cE (f:=(·.Q)) a.L.nd R S (by show(nth h.M i).Q=(nth h.M k).Q;omega);subst this;exact C
  exfalso;have:=aM (a.L.lok l b);exact a.L.dis u K l b 0 ω (by have:=G.1;have:=G.2.1;omega)
 exfalso;have H:=a.L.lok l b;unfold bE at H;rw[C0]at H;rcases a.oow o p with⟨v,q,c,-⟩|⟨F,d,N,O⟩
 ·exact a.L.dis v q l b 0 ω (by have:=c.1;have:=c.2.1;omega)
 have g:=a.L.lok F d;unfold bE at g;rw[C0]at g;exact a.L.dis s r F d ((o.Addr+j) / 16 - F.Q).toNat ω ω
theorem CI.giveP{h:ab}{E:List Int}(b:aV h E)(f:CI h){i:Nat}(e:i<h.M.length)(g:(nth h.M i).b1=0)(c:fJ h (nth h.M i).Q=false):CI (giveP h i)/\Kp h (giveP h i):=by
 obtain⟨k,l,A⟩:=b.mapped (am e);have kl:=KL.unmap b.ker (p:=(nth h.M i).Q) ⟨k,l⟩;refine CI.kern b f (λo a=>a) rfl rfl (λo a n=>absurd a n) (λq r=>?_) (λt=>?_) (λo a j u w=>?_) kl.cel (λ_ B d _=>?_)
 ·have:=kl.md (kH _ _).1 q (by show(nth (tbl (Ab.giveP h i)).J q).j≠0;omega)
  show(nth h.G.F.R.J q).j=1;rw[<-this];exact r
 ·obtain⟨C,D⟩:=vo c t
  exact⟨kl.out _ ω,kl.out _ ω⟩
 ·refine kl.out _ λF=>?_
  exact uS g _ (Li b a u w (am e) ω)
 obtain⟨j,y,-,rfl⟩:=cQ.1 d;exact⟨_,am y,rfl,rfl,λ_ h=>h⟩
theorem CI.freeS{h:ab}{E:List Int}{a:Int}{i:Nat}(c:aV h (a::E))(j:CI h)(b:i<h.M.length)(d:dX (nth h.M i) a):CI (freeS h i a)/\Kp h (freeS h i a):=by
 have k:=c.give b d;have f:=CI.clrS c j b d;unfold Ab.freeS;split
 ·rename_i e
  have g:nth (Ab.clrS h i a).M i=mc (nth h.M i) (dr (nth h.M i) a):=by unfold Ab.clrS;simp only[bA,true_and];rw[C9 b]
  obtain⟨l,n⟩:=CI.giveP (h:=Ab.clrS h i a) k f (i:=i) (by unfold Ab.clrS;simp only[I1];exact b) (by rw[g];exact e.1) (by rw[g];exact e.2);exact⟨l,n⟩
 exact⟨f,CX h⟩
theorem CI.freeA{h:ab}{E:List Int}{a:Int}(b:aV h (a::E))(c:CI h):CI (freeA h a)/\Kp h (freeA h a):=by
 obtain⟨d,e,-⟩:=b.at (b.hin a (R1 ..));exact CI.freeS b c d e
theorem CI.recyc{h:ab}{E:List Int}{a:Int}{t:Nat}(c:aV h (a::E))(b:CI h):CI (recyc t h a)/\Kp h (recyc t h a):=by
 unfold Ab.recyc;split
 ·exact⟨⟨b.z,b.jv,b.jd,b.jc,b.jn,b.m1,b.m2⟩,CX h⟩
 exact CI.freeA c b
theorem CI.recycs{t:Nat}{E:List Int} : ∀{az:List Int}{h:ab},aV h (az++E)->t<h.T.length->CI h->CI (recycs t h az)/\Kp h (recycs t h az)
 | [],h,_,_,b=>⟨b,CX h⟩
 | a::az,h,c,d,b=>by
  obtain⟨e,f⟩:=CI.recyc (t:=t) c b;obtain⟨g,i⟩:=CI.recycs (az:=az) (h:=Ab.recyc t h a) (c.recyc d) (by rw[(mF t h a).1];exact d) e;exact⟨g,f.trans i⟩
theorem CI.freeAs{E:List Int} : ∀{az:List Int}{h:ab},aV h (az++E)->CI h->CI (freeAs h az)/\Kp h (freeAs h az)
 | [],h,_,b=>⟨b,CX h⟩
 | a::az,h,c,b=>by
  obtain⟨d,e⟩:=CI.freeA c b;obtain⟨f,g⟩:=CI.freeAs (az:=az) (h:=Ab.freeA h a) c.freeA d;exact⟨f,e.trans g⟩
theorem CI.flushN{t:Nat}{h:ab}(c:aV h [])(d:t<h.T.length)(e:CI h):∀{k:Nat},k<=4->CI (flushN t h k).1/\Kp h (flushN t h k).1
 | 0,_=>⟨e,CX h⟩
 | k+1,p=>by
  obtain⟨a,g⟩:=CI.flushN c d e (k:=k) ω;obtain⟨f,q,-⟩:=iY c d (k:=k) ω;have b:t<(Ab.flushN t h k).1.T.length:=ω
  have i:=ot (f.cach _ (am b));have j:=f.spilt b (k:=k) ω;have l:CI (spilt (Ab.flushN t h k).1 t k):=⟨a.z,a.jv,a.jd,a.jc,a.jn,a.m1,a.m2⟩
  obtain⟨n,o⟩:=CI.freeAs j l;exact⟨n,g.trans o⟩
theorem CI.tick{h:ab}{n:Int}(c:aV h [])(a:CI h)(d:0<=n)(b:h.b5+n<=1000000):CI (tick h n)/\Kp h (tick h n):=by
 have e:=c.aged d b;have f:CI (aged h n):=⟨a.z,a.jv,a.jd,a.jc,a.jn,a.m1,a.m2⟩
 exact CI.freeAs e f
theorem CI.collect{h:ab}{t:Nat}(b:aV h [])(a:CI h)(c:t<h.T.length):CI (collect h t)/\Kp h (collect h t):=by
 have g:=(d6.1 b.mail).1;have d:=b.nc;have e:=b.coll (t:=t) ω;have f:CI {h with w:=kG h.w t}:=⟨a.z,a.jv,a.jd,a.jc,a.jn,a.m1,a.m2⟩
 exact CI.recycs e c f
theorem sg(r:List Int)(o:Nat):∀(n c:Nat),nth (kI r o n) c=if o<=c/\c<o+n then 0 else nth r c
 | 0,c=>by rw[C8 ω];rfl
 | n+1,c=>by
  unfold kI;rw[bA,sg r o n c,lV];by_cases e:o+n=c
  ·rw[C9 (show o<=c/\c<o+(n+1) by omega)]
   by_cases a:c<r.length
   ·rw[C9 ⟨e,a⟩]
   rw[C8 ω,C8 ω];unfold nth;rw[I2,C2 ω];rfl
  rw[C8 ω];by_cases a:o<=c/\c<o+n
  ·rw[C9 a,C9 ω]
  rw[C8 a,C8 ω]
theorem wG(k:ah)(a:Int)(n f c:Nat):cl (eQ k a n) f c=cl k f c\/(cl (eQ k a n) f c=0/\f=cL k a/\(a % 16).toNat<=c/\c<(a % 16).toNat+n):=by
 unfold cl eQ;simp only[bA];split
 ·rename_i e
  rw[sg];split
  ·rename_i b;exact .inr ⟨rfl,e.1.symm,b.1,b.2⟩
  rw[e.1];exact .inl rfl
 exact .inl rfl
theorem Do{k:ah}{a:Int}{n c:Nat}(h1:(a % 16).toNat<=c)(b:c<(a % 16).toNat+n):cl (eQ k a n) (cL k a) c=0:=by
 unfold cl eQ;simp only[bA];by_cases e:cL k a<k.F.V.S.length
 ·rw[C9 ⟨trivial,e⟩,sg,C9 ⟨h1,b⟩]
 rw[C8 (λx=>e x.2)];have:nth k.F.V.S (cL k a)=[]:=by
  unfold nth;rw[I2,C2 ω];rfl
 rw[this];rfl
theorem CI.clearO{h h':ab}{E:List Int}(b:aV h E)(u:JI h)(O:CI h){i:Nat}(P:i<h.O.length)(w:¬aI (nth h.O i).o<0)(hw:(ac (tbl h) ((nth h.O i).Addr / 16)).j≠1)(y:h'.G=eQ h.G (nth h.O i).Addr (csz (aI (nth h.O i).o)).toNat)(e2:h'.O=dele h.O i)(e3:h'.M=h.M)(e4:h'.Y=h.Y)(e5:h'.u=h.u):CI h'/\Kp h h':=by
 obtain⟨⟨s,H,s1,s2⟩,hc3⟩:=(dA b (am P)).2 w;have Q:=s1;obtain⟨g1,g2,g3,-⟩:=s1;have A:=b.L.sok s H;have B:=bM (aC A).2.2;obtain⟨m1,m2,m3⟩:=b.mapped H;have R:(nth h.O i).Addr / 16=s.Q:=ω
 have J:tbl h'=tbl h:=by unfold tbl;rw[y];rfl
 have S:(ac (tbl h) s.Q).e=(cL h.G (nth h.O i).Addr:Nat):=by
  unfold cL;rw[R];exact kw b.ker (by show(ac (tbl h) s.Q).j≠0;rw[b.pe H];exact m3)
 have ex:∀c:Nat,((nth h.O i).Addr % 16).toNat<=c->c<((nth h.O i).Addr % 16).toNat+(csz (aI (nth h.O i).o)).toNat->LF h (nth h.O i).Addr (cL h.G (nth h.O i).Addr) c/\c<16:=λc h1 T=>by
  rw[<-s2]at T;have r:c<16:=by rcases B with e|e|e|e<;>rw[e]at g3 T<;>omega
  refine⟨.inl ⟨s,H,Q,S,?_,r⟩,r⟩;unfold dr;rcases B with e|e|e|e<;>rw[e]at g3 T |-<;>omega
 have cv:∀o∈h.O,∀f c:Nat,po h o f c->po h' o f c:=λo d f c ⟨j,K,U,a⟩=>by
  have e:h'.G.F.R=h.G.F.R:=J;exact⟨j,K,U,by rw[e];exact a.m,by rw[e];exact a.f,a.c⟩
 have same:∀o∈h.O,o≠nth h.O i->∀f c:Nat,po h o f c->cl h'.G f c=cl h.G f c:=λo d V f c l=>by
  rw[y];rcases wG h.G (nth h.O i).Addr (csz (aI (nth h.O i).o)).toNat f c with g|⟨-,W,X,Y⟩
  ·exact g
  exfalso;have hx:=(ex c X Y).1;rw[<-W]at hx;have ea:=uR b (jq b d l) hx;obtain⟨k,n,rfl⟩:=aJ d;have:=cE (f:=(·.Addr)) (cN b.osr) n P ea;subst this;exact V rfl
 have notO:∀o∈h'.O,o≠nth h.O i/\o∈h.O:=λo d=>by
  rw[e2]at d;obtain⟨k,n,Z,rfl⟩:=cQ.1 d;refine⟨λe=>Z ?_,am n⟩;exact cE (f:=(·.Addr)) (cN b.osr) n P (by rw[e])
 refine⟨O.keep e4 e5 (by rw[J];exact λq h=>h) (λ_=>by rw[J];exact⟨rfl,rfl⟩) (λf c _ M=>.inl ?_) (λo d f c r l M=>?_) (λN c C=>?_) (λ_ s' hs' _=>⟨s',by rw[<-e3];exact hs',rfl,rfl,λ_ h=>h⟩),λo d=>⟨(notO o d).2,λj K U=>?_⟩⟩
 ·rw[y]at M |-
  rcases wG h.G (nth h.O i).Addr (csz (aI (nth h.O i).o)).toNat f c with g|g
  ·exact g.symm
  exact absurd g.1 M
 ·by_cases e:o=nth h.O i
  ·exfalso
   subst e;obtain⟨t,D,F⟩:=Kj b d w l;exact M (by rw[y,t];exact Do D F)
  refine⟨o,?_,cv o d f c l⟩;rw[e2];obtain⟨k,n,rfl⟩:=aJ d;exact cQ.2 ⟨k,n,λx=>e (by rw[x]),rfl⟩
 ·have hc16:c<16:=by
   have hm2:=List.mem_of_mem_take C;obtain⟨k,n,e⟩:=aJ hm2;have:=fR (dq.1 (b.job N).1).1 n;omega
  have key:∀p:Int,(ac (tbl h) p).j≠0->(∀c:Nat,LF h (nth h.O i).Addr (cL h.G (nth h.O i).Addr) c->c<16->(c:Int)∈h.Y.W.S.take h.Y.a.toNat->(ac (tbl h) p).e≠(cL h.G (nth h.O i).Addr:Nat))->cl h'.G (bG h.G p) c=cl h.G (bG h.G p) c:=λp hp Z=>by
   rw[y];rcases wG h.G (nth h.O i).Addr (csz (aI (nth h.O i).o)).toNat (bG h.G p) c with g|⟨-,W,X,Y⟩
   ·exact g
   exfalso;obtain⟨t,D⟩:=ex c X Y;refine Z c t D C ?_;rw[<-W];exact kw b.ker hp
  obtain⟨jm1,jm2⟩:=b.jobM N;exact⟨key _ jm1 λc t D F=>rd b u O N t D (List.mem_of_mem_take F),key _ jm2 λc t _ F=>E7 b u O N t hw F⟩
 obtain⟨o1,o2⟩:=notO o d;have a:=At.mk' b.ker (cG b o2 (k:=j) ⟨K,ω⟩).1;have G:At h'.G (o.Addr+j) (cL h.G (o.Addr+j)) ((o.Addr+j) % 16).toNat:=by
  have e:h'.G.F.R=h.G.F.R:=J;exact⟨by rw[e];exact a.m,by rw[e];exact a.f,a.c⟩
 rw[G.cell,a.cell];exact same o o2 o1 _ _ ⟨j,K,U,a⟩
end Go.Proofs.YtecefhjnejfheaaGreat.Ab
