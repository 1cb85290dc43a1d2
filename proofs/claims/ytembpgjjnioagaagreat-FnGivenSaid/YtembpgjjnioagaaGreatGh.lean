/- Ranges and caches taken, pages mapped, slots taken: the reference's. No condition. -/
import Derived.Test.YtembpgjjnioagaaGreatGd
import Derived.Test.YtembpgjjnioagaaGreatGg
import Derived.Test.YtembpgjjnioagaaGreatGf
import Derived.Test.YtembpgjjnioagaaGreatGe
import Derived.ProofKit
import Derived.OpenShut
import Derived.Deep.Slices
import Derived.Deep.Fields
import Derived.ChangeSame
import Derived.WideShapes
set_option linter.unusedVariables false
set_option linter.unusedSimpArgs false
set_option linter.constructorNameAsVariable false
namespace Go.Proofs.YtembpgjjnioagaaGreat.Ab
open Go.RowKit
set_option maxRecDepth 20000
set_option maxHeartbeats 4000000
theorem Hy(c:aB)(k:Nat):aB.enc .own (qK c k)=[.s .own ((c.Lists.map (aF .own)).set k (aF .own ((nth c.Lists k).take ((nth c.Lists k).length - 1))))]:=by simp[aB.enc,qK,t5]
theorem ME(xs:List Int)(n:Nat):(xs.take n).map (rI .imm)=(xs.map (rI .imm)).take n:=T3
def N5(c:aB)(k:Nat):List C:=if 0<(nth c.Lists k).length then aB.enc .own (qK c k)++[I (nth (nth c.Lists k) ((nth c.Lists k).length - 1)),B true] else aB.enc .own c++[I (-1),B false]
theorem Na(c:aB)(k:Nat):gg (N5 c k):=by
 unfold N5;split
 ·exact aR (aB.enc_fr _) ⟨trivial,trivial,trivial⟩
 ·exact aR (aB.enc_fr _) ⟨trivial,trivial,trivial⟩
theorem uM(c:aB)(k:Nat)(h:bt c=true)(u:k<=3):ao Tryz.prog 289 false [.val (some 1) (aB.enc .imm c),.val none [I (k:Nat)]] (.tup [some 1,none,none]) (N5 c k):=by
 obtain⟨w,j⟩:=dX h;have n:aB.sml c:=⟨ω,λl r=>by have:=j l r;show l.length<=1048576;omega⟩
 have d:=wj c k n;rw[h,O0 ω]at d;have o:=gT c n;have b:=rJ (c:=c) (k:=k) ω;have t:=j _ (am (xs:=c.Lists) (i:=k) ω);have a:=Na c k;unfold N5 at a |-;by_cases p:0<(nth c.Lists k).length
 ·rw[C8 p]at a |-
  have q:=ah (xs:=nth c.Lists k) (i:=(nth c.Lists k).length - 1) ω;have e:(nth c.Lists k)[(((nth c.Lists k).length:Int) - 1).toNat]? = some (nth (nth c.Lists k) ((nth c.Lists k).length - 1)):=by rw[show(((nth c.Lists k).length:Int) - 1).toNat=(nth c.Lists k).length - 1 by omega];exact q
  have g:((((nth c.Lists k).length:Nat):Int) - 1)=(((nth c.Lists k).length - 1:Nat):Int):=ω
  rw[Hy]at a |-;refine fO 54 [(5,268,[32,33,34,35,36,37,38,39,40,41,42,44,0,1,2,3,4,5,6,7,8,9,10,11,1000,1001,1002,12,13]),(6,265,[45,46,47,48,49,50,51,52,53,0,1,2,3,4,5,6,7,8,9,1001,1002,1003,1004,1005,1006,1007,1008,10,11])] Tryz.func289 rfl ?_ (.inr a)
  repeat'(first|refine gA ?_|(conv=>whnf);first|with_reducible refine CA (aa b) ?_|refine C9 ?_|refine CF rfl (aa b) rfl ?_|refine C6 (d) ?_|refine C6 (o) ?_|refine CJ ω (aa e) ?_|refine CA (aa q) ?_|refine CS ((nth c.Lists k).length - 1) g (by rw[W0];omega) (aL λ_=>rfl) (ME _ _) ?_|refine C9 ?_|refine CR (λ_=>rfl) (λ_=>rfl) (by rw[I1];omega) (by decide) ?_|refine CL (λ_=>rfl) (λ_=>rfl) (by rw[I1];omega) (by decide) ?_|refine CM rfl rfl (aa b) rfl (X0 rfl) rfl ?_)
  rfl
 ·rw[C7 p]at a |-
  refine fO 54 [(5,268,[32,33,34,35,36,37,38,39,40,41,42,44,0,1,2,3,4,5,6,7,8,9,10,11,1000,1001,1002,12,13]),(6,265,[45,46,47,48,49,50,51,52,53,0,1,2,3,4,5,6,7,8,9,1001,1002,1003,1004,1005,1006,1007,1008,10,11])] Tryz.func289 rfl ?_ (.inr a)
  repeat'(first|refine gA ?_|(conv=>whnf);first|with_reducible refine CA (aa b) ?_|refine C9 ?_|refine CF rfl (aa b) rfl ?_|refine C6 (d) ?_|refine C6 (o) ?_)
  rfl
def NY(xs:List ax)(n:Int):List C:=bx .own (a7 xs n).1++[I (a7 xs n).2.1,B (a7 xs n).2.2]
theorem MJ(xs:List ax)(n:Int):gg (NY xs n):=aR (kf _) ⟨trivial,trivial,trivial⟩
theorem mP(pages:Int)(xs:List ax)(n:Int)(w:0<=pages/\pages<=1048576)(l:br pages xs=true)(J:1<=n/\n<=1000)(K:xs.length<=4096):ao Tryz.prog 294 false [.val none [I pages],.val none (bx .imm xs),.val none [I n]] (.tup [none,none,none]) (NY xs n):=by
 have o:=kE pages xs w ⟨ω,λ_ _=>trivial⟩;rw[l]at o;have p:=(tw l).2;refine fO 98 [(8,21,[31,32,33,34,35,36,37,38,39,40,41,42,43,44,45,46,47,48,49,50,51]),(14,265,[71,72,73,74,76,77,78,79,81,0,1,2,3,5,6,7,8,10,4,1005,1006,1007,1008,1010,9,1010,11,1010,12,13])] Tryz.func294 rfl ?_ (.inr (MJ xs n))
 repeat'(first|refine gD ?_|(conv=>whnf);first|refine C9 ?_|refine C6 (o) ?_|refine CL (λ_=>rfl) (λ_=>rfl) ω (by decide) ?_)
 (conv=>whnf)
 refine CC (ι:=Nat) (λi=>[(1,.hold .one (bx .imm xs)),(2,.hold .one [I (n)]),(9,.hold .one (bx .own xs)),(10,.hold .one [I (im xs n i)]),(11,.hold .one [I ((i:Nat):Int)])]) (λi=>i<=xs.length) (λi=>xs.length - i) (0) ?_ (R0 _) λi y=>?_
 ·exact wC
 have h:=wd xs n i y;by_cases q:i<xs.length
 ·have j:=ah q
  have E:=p _ (am q);have a:im xs n (i+1)=if n<=(nth xs i).Len/\(im xs n i<0\/(nth xs i).Len<(nth xs (im xs n i).toNat).Len) then((i:Nat):Int) else im xs n i:=rfl
  by_cases r:n<=(nth xs i).Len
  ·by_cases F:im xs n i<0
   ·rw[C8 ⟨r,.inl F⟩]at a
    repeat'(first|refine gD ?_|(conv=>whnf);first|with_reducible (first|refine CA (aa j) ?_|refine Bf.D (λc=>?_) (λc=>?_))|refine C9 ?_)
    ((conv=>whnf);refine CB (i+1) ω ω ?_)
    rw[a];exact wC
   ·have d:=ah (xs:=xs) (i:=(im xs n i).toNat) ω
    by_cases G:(nth xs i).Len<(nth xs (im xs n i).toNat).Len
    ·rw[C8 ⟨r,.inr G⟩]at a
     repeat'(first|refine gD ?_|(conv=>whnf);first|with_reducible (first|refine CA (aa j) ?_|refine CJ ω (aa d) ?_|refine Bf.D (λc=>?_) (λc=>?_))|refine C9 ?_)
     ((conv=>whnf);refine CB (i+1) ω ω ?_)
     rw[a];exact wC
    ·rw[C7 ω]at a
     repeat'(first|refine gD ?_|(conv=>whnf);first|with_reducible (first|refine CA (aa j) ?_|refine CJ ω (aa d) ?_|refine Bf.D (λc=>?_) (λc=>?_))|refine C9 ?_)
     ((conv=>whnf);refine CB (i+1) ω ω ?_)
     rw[a];exact wC
  ·rw[C7 ω]at a
   repeat'(first|refine gD ?_|(conv=>whnf);first|with_reducible (first|refine CA (aa j) ?_|refine Bf.D (λc=>?_) (λc=>?_))|refine C9 ?_)
   ((conv=>whnf);refine CB (i+1) ω ω ?_)
   rw[a];exact wC
 ·obtain rfl:i=xs.length:=ω
  change gp xs n = -1\/_ at h;unfold NY a7;rw[show im xs n xs.length=gp xs n from rfl];by_cases e:gp xs n<0
  ·rw[C8 e]
   rw[show gp xs n = -1 from h.resolve_right λg=>by have L:0<=gp xs n:=g.1;omega]
   repeat'(first|refine gD ?_|(conv=>whnf);first|with_reducible refine Bf.D (λc=>?_) (λc=>?_)|refine C9 ?_)
   rfl
  ·rw[C7 e]
   obtain⟨H,t,M⟩:=h.resolve_left ω;change 0<=gp xs n at H;change gp xs n<xs.length at t;obtain⟨b,k⟩:=O2 (show 0<=gp xs n by omega);rw[k]at t |-;simp only[I2];have d:=ah (xs:=xs) (i:=b) ω;have E:=p _ (am (xs:=xs) (i:=b) ω);by_cases u:(nth xs b).Len=n
   ·rw[C8 u]
    repeat'(first|refine gA ?_|(conv=>whnf);first|with_reducible (first|refine CA (aa d) ?_|refine Bf.D (λc=>?_) (λc=>?_))|refine C9 ?_|refine CS b rfl (by rw[W0];omega) (aL λ_=>rfl) T3 ?_|refine Sl.suf (b+1) rfl (by rw[W0];omega) (aL λ_=>rfl) U3 ?_|refine CR (λ_=>rfl) (λ_=>rfl) (by rw[I1];omega) (by decide) ?_|refine Ap.dele (λ_=>rfl) (λ_=>rfl) ω (by decide) ?_|refine CL (λ_=>rfl) (λ_=>rfl) (by rw[I1];omega) (by decide) ?_|refine C9 ?_)
    rfl
   ·rw[C7 u]
    repeat'(first|refine gA ?_|(conv=>whnf);first|with_reducible (first|refine CA (aa d) ?_|refine Bf.D (λc=>?_) (λc=>?_))|refine C9 ?_|refine CM rfl rfl (aa d) rfl (X0 rfl) rfl ?_)
    exact T0 (λz=>z++[I (nth xs b).At,B true]) (show [C.s du.own _]=_ from by simp[bx,t5];rfl)
theorem KL(k:af)(p:Int)(f:Nat):af.enc .own (oU k p f)=((af.enc .own k).set 1 (.s .own ((k.Machine.Frames.Used.map (rB .own)).set f (rB .own true)))).set 2 (.s .own ((k.Machine.Table.Entries.map (bh.enc .own)).set p.toNat (bh.enc .own ⟨2,(f:Nat)⟩))):=by
 simp[af.enc,oU,t5]
theorem BT(k:af)(p:Int)(c:aA k=true)(y:k.Calls≠100000)(o:0<=p/\p<k.Machine.Table.Entries.length)(C:(nth k.Machine.Table.Entries p.toNat).Mode=0):aO Tryz.prog 296 false [.ptr (af.enc .own k),.val none [I p]] [.ptr (af.enc .own (fe k p).1),.val none [I p]] .one [B (fe k p).2]:=by
 have E:=b6 c;have F:=aW.1 (aC.1 c).2.1;have G:=(bu.1 (aC.1 c).2.2.1).2.2;have H:(dh k).Machine.Table.Entries.length<=32:=G;have a:=zt k.Machine.Frames ω;have d:=lF k c y;have g:=dB (dh k) p E.1.2;have l:ar (dh k).Machine.Table p=nth k.Machine.Table.Entries p.toNat:=by unfold ar;exact C8 o
 rw[l,C]at g;have h:=aD p 0 ((k.Machine.Table.Entries.length:Int) - 1);rw[O0 ω]at h;have r:=ah (xs:=k.Machine.Table.Entries) (i:=p.toNat) ω;change ao _ _ _ _ _ [I (qA k)]at a;unfold fe;cases e:refd k<;>rw[e]at d
 ·by_cases j:qA k<0
  ·rw[C8 (.inr j)]
   refine fM 56 [(347,[2])] [] [(0,0),(0,0)] Tryz.func296 rfl (λu q=>?_)
   repeat'(first|refine gA ?_|(conv=>whnf);first|with_reducible refine Bf.D (λb=>?_) (λb=>?_)|refine CE (a) ⟨⟨rfl,aY.enc_fz _⟩,trivial⟩ ?_|refine CG (d) (.inl rfl) ?_|refine C6 (h) ?_|refine CE (g) ⟨CN (dh k),⟨rfl,rfl⟩,trivial⟩ ?_)
   refine CD rfl ?_ ?_
   ·rfl
   ·exact wC
  ·rw[C7 (by simp[j])]
   obtain⟨n,t⟩:=A2 j;obtain⟨f,J⟩:=O2 (show 0<=qA k by omega);rw[J]at a n t j |-;simp only[I2]at n t |-;have w:=ah (xs:=k.Machine.Frames.Used) (i:=f) n;rw[KL];refine fM 56 [(347,[2])] [] [(0,0),(0,0)] Tryz.func296 rfl (λu q=>?_)
   repeat'(first|refine gA ?_|(conv=>whnf);first|with_reducible refine Bf.D (λb=>?_) (λb=>?_)|refine CE (a) ⟨⟨rfl,aY.enc_fz _⟩,trivial⟩ ?_|refine CG (d) (.inl rfl) ?_|refine C6 (h) ?_|refine CE (g) ⟨CN (dh k),⟨rfl,rfl⟩,trivial⟩ ?_|refine CA (aa w) ?_|refine CJ o.1 (aa r) ?_|refine CM rfl rfl (aa w) rfl (X0 rfl) rfl ?_|refine CM rfl rfl (aa r) rfl (X0 rfl) rfl ?_)
   refine CD rfl ?_ ?_
   ·rfl
   ·exact wC
 ·rw[C8 (.inl rfl)]
  refine fM 56 [(347,[2])] [] [(0,0),(0,0)] Tryz.func296 rfl (λu q=>?_)
  repeat'(first|refine gA ?_|(conv=>whnf);first|with_reducible refine Bf.D (λb=>?_) (λb=>?_)|refine CE (a) ⟨⟨rfl,aY.enc_fz _⟩,trivial⟩ ?_|refine CG (d) (.inl rfl) ?_|refine C6 (h) ?_|refine CE (g) ⟨CN (dh k),⟨rfl,rfl⟩,trivial⟩ ?_)
  refine CD rfl ?_ ?_
  ·rfl
  ·exact wC
def N1(h:ab):List C:=(bv h).drop 5
theorem Bb(h:ab)(p:Int)(a:aA h.Kernel=true)(b:h.Kernel.Calls≠100000)(c:0<=p/\p<h.Kernel.Machine.Table.Entries.length)(d:(nth h.Kernel.Machine.Table.Entries p.toNat).Mode=0):aO Tryz.prog 296 false [.ptr (bv h),.val none [I p]] [.ptr (bv {h with Kernel:=(fe h.Kernel p).1}),.val none [I p]] .one [B (fe h.Kernel p).2]:=
 (BT h.Kernel p a b c d).frame (r:=N1 h) rfl
theorem Gs(h:ab)(i:Nat):bv (slotT h i)=((bv h).set 14 (I (ER h.Seed))).set 6 (.s .own ((h.Spans.map (au.enc .own)).set i [I (nth h.Spans i).Page,I (nth h.Spans i).Class,I (ge (nth h.Spans i).Bits (oH h i))])):=by
 simp[bv,slotT,pp,t5,au.enc]
theorem qq(h:ab)(E:List Int)(i:Nat)(c:bm h E)(k:i<h.Spans.length):aO Tryz.prog 291 false [.ptr (bv h),.val none [I (i:Nat)]] [.ptr (bv (kL h i).1),.val none [I (i:Nat)]] .one [I (kL h i).2]:=by
 have F:=c.lens;have G:=F.spans;have d:=ah k;have b:=c.L.sok _ (am k);have e:=ef b;have a:=c.nums;unfold cm at a;rw[C0]at a;have t:=(bu.1 (aC.1 c.ker).2.2.1).2.2;have l:=qI c.L.sok (ps:=aS h (nth h.Spans i).Page) e (aS h (nth h.Spans i).Page).length;change 0<=gr h i/\gr h i<=65535 at l;have w:=lL (nth h.Spans i).Class;have y:=wJ h i ⟨ω,λ_ _=>trivial⟩ ⟨by show h.Kernel.Machine.Table.Entries.length<=_;omega,λ_ _=>trivial⟩ c.L.sok k;have o:=uC (nth h.Spans i).Class (gr h i) ω;change ao _ _ _ _ _ (aF .own (mj h i)) at o;have p:=DS (nth h.Spans i).Class (gr h i);change (mj h i).length<=16 at p;unfold kL;by_cases B:(mj h i).length=0
 ·rw[C8 B]
  refine fM 68 [] [(2,7,[16,17,18,19,20,21,22]),(7,12,[42,43,44,45,46,47,48,49,50,51,52,53]),(8,11,[56,57,58,59,60,61,62,63,64,65,66])] [(0,0),(0,0)] Tryz.func291 rfl (λu q=>?_)
  repeat'(first|refine gA ?_|(conv=>whnf);first|refine CA (aa d) ?_|refine CF rfl (aa d) rfl ?_|refine C6 (w) ?_|refine CE (y) ⟨⟨rfl,b8 h⟩,⟨rfl,rfl⟩,trivial⟩ ?_|refine C6 (o) ?_|refine C9 ?_)
  refine CD rfl rfl ?_;exact wC
 ·rw[C7 B]
  have H:=xG (h:=h) (i:=i) ω;obtain⟨C,D,O⟩:=uY H;have J:=(fU (aE b).2.2).2.2.1;have r:=uw h.Seed (n:=((mj h i).length:Nat)) ω;have K:=sM h.Seed ((mj h i).length:Nat) ω ω;have M:=xg (nth h.Spans i).Bits (oH h i) e ω;have N:=wv (pp (nth h.Spans i) (oH h i)) (oH h i) (yy b ⟨C,D⟩) ⟨C,D⟩;have g:(mj h i)[(Jw h.Seed ((mj h i).length:Nat)).toNat]? = some (oH h i):=ah ω;have j:((h.Spans.map (au.enc .own)).set i [I (nth h.Spans i).Page,I (nth h.Spans i).Class,I (ge (nth h.Spans i).Bits (oH h i))])[i]? = some [I (nth h.Spans i).Page,I (nth h.Spans i).Class,I (ge (nth h.Spans i).Bits (oH h i))]:=pU k;unfold so;rw[Gs];refine fM 68 [] [(2,7,[16,17,18,19,20,21,22]),(7,12,[42,43,44,45,46,47,48,49,50,51,52,53]),(8,11,[56,57,58,59,60,61,62,63,64,65,66])] [(0,0),(0,0)] Tryz.func291 rfl (λu q=>?_)
  repeat'(first|refine gA ?_|(conv=>whnf);first|refine CA (aa d) ?_|refine CA j ?_|refine CF rfl (aa g) rfl ?_|refine CF rfl (aa d) rfl ?_|refine CF rfl j rfl ?_|refine C6 (w) ?_|refine CE (y) ⟨⟨rfl,b8 h⟩,⟨rfl,rfl⟩,trivial⟩ ?_|refine C6 (o) ?_|refine C6 (K) ?_|refine C6 (M) ?_|refine C6 (N) ?_|refine CJ r.1 (aa g) ?_|refine C9 ?_|refine CM rfl rfl (aa d) rfl (X0 rfl) rfl ?_)
  refine CD rfl ?_ ?_
  ·rfl
  ·exact wC
theorem Ap.ins{α:Type}{e:α->List C}{xs:List α}{y:α}{r:List C}{i sz by_:Nat}{K:List (List C)->Prop}(a:r=e y)(b:∀y,(e y).length=sz)(c:∀y,aU (e y)=true)(h:xs.length<=1048576)(d:by_<=1000)(f:K ((xs.take i++y::xs.drop i).map e)):Ap true ((xs.take i).map e++[r]) ((xs.drop i).map e) sz by_ K:=by
 subst a;have g:(xs.take i).length+1+(xs.drop i).length<=3145728:=by rw[I1,X2];omega
 refine CP (λr a=>?_) (aL b) (λ_ r a=>by obtain⟨y,-,rfl⟩:=V3.1 a;exact c y) (by simp only[W2,W0,List.length_singleton];omega) (by simp only[W2,W0,List.length_singleton];exact v4 (Nat.mul_le_mul g d) (by decide)) ?_ f
 ·rcases Q2.1 a with a|a
  ·exact aL b r a
  ·rw[Z0.1 a];exact b y
 ·rw[W4,Y4,V4];rfl
theorem tC{α:Type}{p:α->Bool}{xs:List α}{y:α}{i:Nat}(h:jh p xs=i):iH p xs y=xs.take i++y::xs.drop i:=by unfold iH;rw[h]
def F5(h:ab)(c:Int):ab × Int:=
 if(a7 h.Free 1).2.2=false then(h,-1)
 else if(fe h.Kernel (a7 h.Free 1).2.1).2=false then({h with Kernel:=(fe h.Kernel (a7 h.Free 1).2.1).1},-1)
 else(uL h c,(ta h:Nat))
theorem yX(h:ab)(E:List Int)(c:Nat)(g:bm h E)(J:h.Kernel.Calls<=90000):aO Tryz.prog 292 false [.ptr (bv h),.val none [I (c:Nat)]] [.ptr (bv (F5 h c).1),.val none [I (c:Nat)]] .one [I (F5 h c).2]:=by
 have B:=g.lens;have K:=B.spans;have L:dE h<=32:=B.ents;have C:=gj h;have l:=mP (dE h:Nat) h.Free 1 ⟨ω,ω⟩ g.rng (by decide) (by have:=B.free;omega);unfold NY at l;have d:=kv g (C4 1);unfold F5 uL ta;generalize a7 h.Free 1=r at l d |-;obtain⟨o,p,ok⟩:=r;simp only at l d |-;cases ok with
 | false=>
  rw[C8 rfl];refine fM 79 [(296,[2,0]),(2000010,[0,6])] [(1,267,[11,12,13,14,15,16,17,10,18,19,20,0,1,2,3,4,5,6,7,8,9,10,11,1009,1010,12,1010,13])] [(0,0),(0,0)] Tryz.func292 rfl (λu q=>?_)
  repeat'(first|refine gO ?_|(conv=>whnf);first|refine C9 ?_|refine CE (C) ⟨b8 h,trivial⟩ ?_|refine CE (l) ⟨⟨rfl,rfl⟩,⟨rfl,dz h.Free⟩,⟨rfl,rfl⟩,trivial⟩ ?_|refine C9 ?_)
  refine CD rfl rfl ?_;exact wC
 | true=>
  rw[C7 (by simp)];obtain⟨M,N,O,V⟩:=d rfl;have F:0<=p/\p<h.Kernel.Machine.Table.Entries.length:=⟨M,by have:p+1<=((tbl h).Entries.length:Nat):=N;unfold tbl at this;omega⟩
  have t:=Bb h p g.ker ω F (O p.toNat ω ω);generalize fe h.Kernel p=w at t |-;obtain⟨k,b⟩:=w;simp only at t |-;cases b with
  | false=>
   rw[C8 rfl];refine fM 79 [(296,[2,0]),(2000010,[0,6])] [(1,267,[11,12,13,14,15,16,17,10,18,19,20,0,1,2,3,4,5,6,7,8,9,10,11,1009,1010,12,1010,13])] [(0,0),(0,0)] Tryz.func292 rfl (λu q=>?_)
   repeat'(first|refine gO ?_|(conv=>whnf);first|refine C9 ?_|refine CE (C) ⟨b8 h,trivial⟩ ?_|refine CE (l) ⟨⟨rfl,rfl⟩,⟨rfl,dz h.Free⟩,⟨rfl,rfl⟩,trivial⟩ ?_|refine CG (t) (.inl rfl) ?_|refine C9 ?_)
   refine CD rfl rfl ?_;exact wC
  | true=>
   rw[C7 (by simp)];refine fM 79 [(296,[2,0]),(2000010,[0,6])] [(1,267,[11,12,13,14,15,16,17,10,18,19,20,0,1,2,3,4,5,6,7,8,9,10,11,1009,1010,12,1010,13])] [(0,0),(0,0)] Tryz.func292 rfl (λu q=>?_)
   repeat'(first|refine gO ?_|(conv=>whnf);first|refine C9 ?_|refine CE (C) ⟨b8 h,trivial⟩ ?_|refine CE (l) ⟨⟨rfl,rfl⟩,⟨rfl,dz h.Free⟩,⟨rfl,rfl⟩,trivial⟩ ?_|refine CG (t) (.inl rfl) ?_|refine C9 ?_)
   (conv=>whnf)
   refine CC (ι:=Nat) (λi=>[(0,.hold .box (bv {h with Kernel:=k,Free:=o})),(1,.hold .one [I ((c:Nat):Int)]),(6,.hold .one [I (p)]),(8,.hold .one [I ((i:Nat):Int)])]) (λi=>i<=h.Spans.length/\∀(j:Nat)(z:au),j<i->h.Spans[j]? = some z->G9 p z=false) (λi=>h.Spans.length - i) (0) ?_ (⟨R0 _,λj z W=>ω⟩) λi g=>?_
   ·exact wC
   obtain⟨P,G⟩:=g;have Q:({h with Kernel:=k,Free:=o} : ab).Spans.length=h.Spans.length:=rfl;by_cases R:i<h.Spans.length/\(nth h.Spans i).Page<p
   ·have n:=ah R.1
    repeat'(first|refine gD ?_|(conv=>whnf);first|with_reducible refine CA (aa n) ?_|refine C9 ?_|refine CF rfl (aa n) rfl ?_)
    ((conv=>whnf);refine CB (i+1) ⟨ω,dn n (Q0 ω) G⟩ ω ?_;(exact wC))
   ·have a:jh (G9 p) h.Spans=i:=tp ω G λz H=>by
     have S:=(V1.1 H).1;have:z=nth h.Spans i:=(bq H).symm;subst this;exact O0 ω
    have n:i<h.Spans.length->h.Spans[i]? = some (nth h.Spans i):=λT=>ah T
    rw[show addS h k o p (c:Nat) = {h with Kernel:=k,Free:=o,Spans:=h.Spans.take i++⟨p,(c:Nat),0⟩::h.Spans.drop i} by unfold addS;rw[tC a],a]
    repeat'(first|refine gD ?_|(conv=>whnf);first|with_reducible (first|refine CA (aa (n ω)) ?_|refine Bf.D (λU=>?_) (λU=>?_))|refine C9 ?_|refine CF rfl (aa (n ω)) rfl ?_|refine D0.mk rfl (uy h.Spans) rfl ?_|refine CS i rfl (by rw[W0];omega) (aL λ_=>rfl) T3 ?_|refine Sl.suf i rfl (by rw[W0];omega) (aL λ_=>rfl) U3 ?_|refine CL (λ_=>rfl) (λ_=>rfl) (by rw[I1];omega) (by decide) ?_|refine Ap.sn (aL λ_=>rfl) rfl (by rw[W0,I1];omega) (by decide) rfl ?_|refine Ap.ins (e:=au.enc .imm) (y:=⟨p,(c:Nat),0⟩) rfl (λ_=>rfl) (λ_=>rfl) ω (by decide) ?_)
    all_goals
     refine CD rfl rfl ?_;exact wC
theorem BS{h:ab}{c:Int}{i:Nat}(a:i<h.Spans.length)(b:rm h c i=true)(d:∀j,j<i->rm h c j=false):rS h c=some i:=
 List.find?_range_eq_some.2 ⟨b,List.mem_range.2 a,λj e=>by rw[d j e];rfl⟩
theorem A7{h:ab}{c:Int}(a:∀j,j<h.Spans.length->rm h c j=false):rS h c=none:=
 List.find?_range_eq_none.2 λj b=>by rw[a j b];rfl
theorem qY{h:ab}{c:Int}{i:Nat}(a:rm h c i=false)(b:∀j,j<i->rm h c j=false):∀j,j<i+1->rm h c j=false:=λj d=>by
 by_cases e:j=i
 ·rw[e];exact a
 ·exact b j ω
theorem Hc(h:ab)(t:Nat)(c:aB):bv {h with Caches:=h.Caches.set t c} = (bv h).set 9 (.s .own ((h.Caches.map (aB.enc .own)).set t (aB.enc .own c))):=by
 simp[bv,t5]
theorem HE{h:ab}{c:Nat}(b:bm h [])(l:c<=3)(e:h.Kernel.Calls<=90000)(h1:¬(a7 h.Free 1).2.2=false)(f:¬(fe h.Kernel (a7 h.Free 1).2.1).2=false):bm (uL h c) []/\ta h<(uL h c).Spans.length:=by
 have a:(a7 h.Free 1).2.2=true:=by simpa using h1
 obtain⟨g,i,j,n⟩:=kv b (C4 1) a;have s:=y3.of (p:=(a7 h.Free 1).2.1) b.ker ω ⟨g,by have:(a7 h.Free 1).2.1+1<=(h.Kernel.Machine.Table.Entries.length:Nat):=i;omega⟩ (j _ ω ω);have d:(fe h.Kernel (a7 h.Free 1).2.1).2=true:=by simpa using f
 have k:y3 h.Kernel (a7 h.Free 1).2.1 ((fe h.Kernel (a7 h.Free 1).2.1).1,true):=by rw[<-d];exact s
 exact⟨b.addS (c:=c) ⟨ω,ω⟩ a k,(EO (G9 (a7 h.Free 1).2.1) h.Spans ⟨(a7 h.Free 1).2.1,c,0⟩).1⟩
theorem xh(h:ab)(t c:Nat)(o:bm h [])(M:t<h.Caches.length)(N:c<=3)(p:h.Kernel.Calls<=90000):aO Tryz.prog 234 false [.ptr (bv h),.val none [I (t:Nat)],.val none [I (c:Nat)]] [.ptr (bv (dN h t c).1),.val none [I (t:Nat)],.val none [I (c:Nat)]] .one [I (dN h t c).2]:=by
 have E:=o.cach _ (am M);have e:=ah M;have r:=uM (nth h.Caches t) c E N;have Q:=o.lens.spans;have B:=o;unfold N5 at r;by_cases F:0<(nth (nth h.Caches t).Lists c).length
 ·unfold dN
  rw[C8 F]at r |-;simp only;rw[Hc];refine fM 80 [(291,[2,0]),(292,[2,0])] [(3,6,[27,28,29,30,31,32])] [(0,0),(0,0),(0,0)] Tryz.func234 rfl (λu q=>?_)
  repeat'(first|refine gO ?_|(conv=>whnf);first|with_reducible refine CA (aa e) ?_|refine CF rfl (aa e) rfl ?_|refine CE (r) ⟨⟨rfl,aB.enc_fz _⟩,⟨rfl,rfl⟩,trivial⟩ ?_|refine C9 ?_|refine CM rfl rfl (aa e) rfl (X0 rfl) rfl ?_)
  refine CD rfl rfl ?_;exact wC
 ·rw[C7 F]at r
  have d:dN h t c=match rS h c with
   | some i=>(slotT h i,so h i)
   | none=>if(a7 h.Free 1).2.2=false then(h,-1)
    else if(fe h.Kernel (a7 h.Free 1).2.1).2=false then({h with Kernel:=(fe h.Kernel (a7 h.Free 1).2.1).1},-1)
    else kL (uL h c) (ta h):=by unfold dN;exact C7 F
  refine fM 80 [(291,[2,0]),(292,[2,0])] [(3,6,[27,28,29,30,31,32])] [(0,0),(0,0),(0,0)] Tryz.func234 rfl (λu q=>?_)
  repeat'(first|refine gO ?_|(conv=>whnf);first|with_reducible refine CA (aa e) ?_|refine CF rfl (aa e) rfl ?_|refine CE (r) ⟨⟨rfl,aB.enc_fz _⟩,⟨rfl,rfl⟩,trivial⟩ ?_|refine C9 ?_)
  (conv=>whnf)
  refine CC (ι:=Nat) (λi=>[(0,.hold .box (bv h)),(1,.hold .one [I ((t:Nat):Int)]),(2,.hold .one [I ((c:Nat):Int)]),(10,.hold .one [I ((i:Nat):Int)])]) (λi=>i<=h.Spans.length/\∀j,j<i->rm h c j=false) (λi=>h.Spans.length - i) (0) ?_ (⟨R0 _,λj W=>ω⟩) λi o=>?_
  ·exact wC
  obtain⟨R,w⟩:=o;by_cases C:i<h.Spans.length
  ·have l:=ah C
   by_cases O:(nth h.Spans i).Class=c
   ·have y:=sO h (nth h.Spans i).Page
    cases D:dZ h (nth h.Spans i).Page with
    | true=>
     rw[D]at y
     repeat'(first|refine gA ?_|(conv=>whnf);first|with_reducible refine CA (aa l) ?_|refine CF rfl (aa l) rfl ?_|refine CE (y) ⟨b8 h,⟨rfl,rfl⟩,trivial⟩ ?_)
     ((conv=>whnf);refine CB (i+1) ⟨ω,qY (by unfold rm;rw[D];simp) w⟩ ω ?_;(exact wC))
    | false=>
     rw[D]at y;have n:=qq h [] i B C;unfold kL at n;by_cases P:(mj h i).length=0
     ·rw[C8 P]at n
      repeat'(first|refine gA ?_|(conv=>whnf);first|with_reducible refine CA (aa l) ?_|refine CF rfl (aa l) rfl ?_|refine CE (y) ⟨b8 h,⟨rfl,rfl⟩,trivial⟩ ?_|refine CG (n) (.inl rfl) ?_)
      ((conv=>whnf);refine CB (i+1) ⟨ω,qY (by unfold rm;rw[Q0 (by omega:¬0<(mj h i).length)];simp) w⟩ ω ?_;(exact wC))
     ·rw[C7 P]at n
      have G:rS h c=some i:=BS C (by unfold rm;rw[O0 O,D,O0 ω];rfl) w;rw[G]at d;simp only at d;obtain⟨S,T⟩:=B.slotT C (by omega:0<(mj h i).length);have H:=iR.nn S T;rw[d];generalize slotT h i=g at n |-;generalize so h i=a at n H |-
      repeat'(first|refine gA ?_|(conv=>whnf);first|with_reducible refine CA (aa l) ?_|refine CF rfl (aa l) rfl ?_|refine CE (y) ⟨b8 h,⟨rfl,rfl⟩,trivial⟩ ?_|refine CG (n) (.inl rfl) ?_)
      refine CD rfl rfl ?_;exact wC
   ·repeat'(first|refine gA ?_|(conv=>whnf);first|with_reducible refine CA (aa l) ?_|refine CF rfl (aa l) rfl ?_)
    ((conv=>whnf);refine CB (i+1) ⟨ω,qY (by unfold rm;rw[Q0 O];rfl) w⟩ ω ?_;(exact wC))
  ·obtain rfl:i=h.Spans.length:=ω
   have G:rS h c=none:=A7 w;rw[G]at d;simp only at d;have k:=yX h [] c B p;rw[d];unfold F5 at k;by_cases J:(a7 h.Free 1).2.2=false
   ·rw[C8 J]at k |-
    repeat'(first|refine gD ?_|(conv=>whnf);first|refine CG (k) (.inl rfl) ?_)
    refine CD rfl rfl ?_;exact wC
   ·rw[C7 J]at k |-
    by_cases K:(fe h.Kernel (a7 h.Free 1).2.1).2=false
    ·rw[C8 K]at k |-
     repeat'(first|refine gD ?_|(conv=>whnf);first|refine CG (k) (.inl rfl) ?_)
     refine CD rfl rfl ?_;exact wC
    ·rw[C7 K]at k |-
     obtain⟨U,V⟩:=HE B N p J K;have L:=qq (uL h c) [] (ta h) U V;generalize uL h c=g at k L |-;generalize ta h=b at k L |-
     repeat'(first|refine gD ?_|(conv=>whnf);first|refine CG (k) (.inl rfl) ?_|refine CG (L) (.inl rfl) ?_)
     refine CD rfl rfl ?_;exact wC
def FV(h:ab)(size:Int):ab × Int:=
 if(a7 h.Free (jR size:Nat)).2.2=false then(h,-1)
 else if(iz h size).2=jR size then({h with Kernel:=(iz h size).1,Free:=(a7 h.Free (jR size:Nat)).1,Larges:=iH (Ms (a7 h.Free (jR size:Nat)).2.1) h.Larges ⟨(a7 h.Free (jR size:Nat)).2.1,(jR size:Nat),size⟩},16*(a7 h.Free (jR size:Nat)).2.1)
 else({h with Kernel:=dy (iz h size).1 (a7 h.Free (jR size:Nat)).2.1 (iz h size).2},-1)
theorem uQ(k:af)(p:Int)(i:Nat):ci k p (i+1)=if(ci k p i).2=i then((fe (ci k p i).1 (p+(i:Nat))).1,if(fe (ci k p i).1 (p+(i:Nat))).2=true then i+1 else i) else ci k p i:=rfl
theorem B8(k:af)(p:Int):∀i,(ci k p i).2<=i
 | 0=>R2 _
 | i+1=>by
  have b:=B8 k p i;rw[uQ];by_cases e:(ci k p i).2=i
  ·rw[C8 e]
   show(if _ then i+1 else i)<=i+1;by_cases a:(fe (ci k p i).1 (p+(i:Nat))).2=true
   ·rw[C8 a];exact R2 _
   ·rw[C7 a];exact Nat.le_succ _
  ·rw[C7 e];omega
theorem lA{k:af}{p:Int}{i:Nat}(h:(ci k p i).2≠i):∀j,ci k p (i+j)=ci k p i/\(ci k p (i+j)).2<i+j
 | 0=>⟨rfl,by show(ci k p i).2<i;have:=B8 k p i;omega⟩
 | j+1=>by
  have a:=lA h j;have e:ci k p (i+(j+1))=ci k p (i+j):=by
   show ci k p (i+j+1)=_;rw[uQ,C7 ω]
  exact⟨e.trans a.1,by rw[e];omega⟩
theorem xp(h:ab)(size:Int)(l:bm h [])(C:9<=size/\size<=1000)(V:h.Kernel.Calls<=90000):aO Tryz.prog 235 false [.ptr (bv h),.val none [I size]] [.ptr (bv (FV h size).1),.val none [I size]] .one [I (FV h size).2]:=by
 have E:=l.lens;have W:=E.larges;have Q:=l;have F:dE h<=32:=E.ents;have G:eE size=((jR size:Nat):Int):=by unfold eE jR;split<;>omega
 have hN:1<=jR size/\jR size<=63:=by unfold jR;omega
 have H:=kA size;rw[G]at H;have R:=gj h;have t:=mP (dE h:Nat) h.Free (jR size:Nat) ⟨ω,ω⟩ l.rng ⟨ω,ω⟩ (by have:=E.free;omega);unfold NY at t;have b:=kv l (show(1:Int)<=(jR size:Nat) by omega);unfold FV iz;generalize jR size=N at *;generalize a7 h.Free (N:Nat)=r at t b |-;obtain⟨J,p,ok⟩:=r;simp only at t b |-;refine fM 105 [(296,[2,0]),(297,[2,0]),(2000018,[0,7])] [(2,268,[16,17,18,19,20,21,22,23,15,24,25,26,0,1,2,3,4,5,6,7,8,9,10,11,12,1010,1011,13,1011,14])] [(0,0),(0,0)] Tryz.func235 rfl (λu q=>?_);cases ok with
 | false=>
  rw[C8 rfl]
  repeat'(first|refine gO ?_|(conv=>whnf);first|refine C9 ?_|refine C6 (H) ?_|refine CE (R) ⟨b8 h,trivial⟩ ?_|refine CE (t) ⟨⟨rfl,rfl⟩,⟨rfl,dz h.Free⟩,⟨rfl,rfl⟩,trivial⟩ ?_|refine C9 ?_)
  refine CD rfl rfl ?_;exact wC
 | true=>
  rw[C7 (by simp)];obtain⟨S,K,B,u4⟩:=b rfl;change p+(N:Nat)<=(h.Kernel.Machine.Table.Entries.length:Nat) at K;change ∀q:Nat,p<=q->(q:Int)<p+(N:Nat)->(nth h.Kernel.Machine.Table.Entries q).Mode=0 at B
  have X:h.Kernel.Machine.Table.Entries.length<=32:=F
  repeat'(first|refine gO ?_|(conv=>whnf);first|refine C9 ?_|refine C6 (H) ?_|refine CE (R) ⟨b8 h,trivial⟩ ?_|refine CE (t) ⟨⟨rfl,rfl⟩,⟨rfl,dz h.Free⟩,⟨rfl,rfl⟩,trivial⟩ ?_|refine C9 ?_)
  (conv=>whnf)
  refine CC (ι:=Nat) (λi=>[(0,.hold .box (bv {h with Kernel:=(ci h.Kernel p i).1})),(1,.hold .one [I (size)]),(5,.hold .one [I ((N:Nat):Int)]),(6,.hold .one (bx .own J)),(7,.hold .one [I (p)]),(9,.hold .one [I ((i:Nat):Int)])]) (λi=>i<=N/\(ci h.Kernel p i).2=i) (λi=>N - i) (0) ?_ (⟨R0 _,rfl⟩) λi l=>?_
  ·exact wC
  obtain⟨L,M⟩:=l;have s:=n6.of (p:=p) (n:=N) Q.ker ω ⟨S,K⟩ B i L;have Y:=s.calls;have Z:=s.len;by_cases li:i<N
  ·have O:(nth (ci h.Kernel p i).1.Machine.Table.Entries (p+(i:Nat)).toNat).Mode=0:=by
    rw[s.out _ (by rw[M];omega)];exact B _ ω ω
   have c:=Bb {h with Kernel:=(ci h.Kernel p i).1} (p+(i:Nat)) s.ker (by show(ci h.Kernel p i).1.Calls≠100000;omega) ⟨ω,by show p+(i:Nat)<((ci h.Kernel p i).1.Machine.Table.Entries.length:Nat);omega⟩ O;have a:ci h.Kernel p (i+1)=((fe (ci h.Kernel p i).1 (p+(i:Nat))).1,if(fe (ci h.Kernel p i).1 (p+(i:Nat))).2=true then i+1 else i):=by
    show(if(ci h.Kernel p i).2=i then _ else _)=_;rw[C8 M]
   simp only at c;cases e:(fe (ci h.Kernel p i).1 (p+(i:Nat))).2 with
   | true=>
    rw[e]at c a;rw[C8 rfl]at a;have P:(fe (ci h.Kernel p i).1 (p+(i:Nat))).1=(ci h.Kernel p (i+1)).1:=by rw[a]
    rw[P]at c
    repeat'(first|refine gD ?_|(conv=>whnf);first|refine C9 ?_|refine CG (c) (.inl rfl) ?_)
    ((conv=>whnf);refine CB (i+1) ⟨ω,by rw[a]⟩ ω ?_;(exact wC))
   | false=>
    rw[e]at c a;rw[C7 (by simp)]at a;have d:=lA (k:=h.Kernel) (p:=p) (i:=i+1) (by rw[a];simp only;omega) (N - (i+1));rw[show i+1+(N - (i+1))=N by omega]at d;rw[d.1]at d;have T:=n6.of (p:=p) (n:=N) Q.ker ω ⟨S,K⟩ B (i+1) ω;rw[C7 (by have:=lA (k:=h.Kernel) (p:=p) (i:=i+1) (by rw[a];simp only;omega) (N - (i+1));rw[show i+1+(N - (i+1))=N by omega]at this;omega)];rw[show ci h.Kernel p N=ci h.Kernel p (i+1) by have:=lA (k:=h.Kernel) (p:=p) (i:=i+1) (by rw[a];simp only;omega) (N - (i+1));rw[show i+1+(N - (i+1))=N by omega]at this;exact this.1];rw[a]at T |-;have g:=T.ker;simp only at g |-;generalize (fe (ci h.Kernel p i).1 (p+(i:Nat))).1=k at c g |-
    repeat'(first|refine gD ?_|(conv=>whnf);first|refine C9 ?_|refine CG (c) (.inl rfl) ?_)
    (conv=>whnf)
    refine CC (ι:=Nat) (λj=>[(0,.hold .box (bv {h with Kernel:=dy k p j})),(1,.hold .one [I (size)]),(5,.hold .one [I ((N:Nat):Int)]),(7,.hold .one [I (p)]),(9,.hold .one [I ((i:Nat):Int)]),(10,.hold .one [I ((j:Nat):Int)])]) (λj=>j<=i) (λj=>i - j) (0) ?_ (R0 _) λj hj=>?_
    ·exact wC
    have c4:=l9 {h with Kernel:=dy k p j} (p+(j:Nat)) (jo g p j);by_cases lj:j<i
    ·repeat'(first|refine gD ?_|(conv=>whnf);first|refine C9 ?_|refine CG (c4) (.inl rfl) ?_)
     ((conv=>whnf);refine CB (j+1) ω ω ?_;(exact wC))
    ·obtain rfl:j=i:=ω
     repeat'(first|refine gD ?_|(conv=>whnf);first|refine C9 ?_)
     refine CD rfl rfl ?_;exact wC
  ·obtain rfl:i=N:=ω
   rw[C8 M];generalize (ci h.Kernel p i).1=k
   repeat'(first|refine gD ?_|(conv=>whnf);first|refine C9 ?_)
   (conv=>whnf)
   refine CC (ι:=Nat) (λm=>[(0,.hold .box (bv {h with Kernel:=k,Free:=J})),(1,.hold .one [I (size)]),(5,.hold .one [I ((i:Nat):Int)]),(7,.hold .one [I (p)]),(11,.hold .one [I ((m:Nat):Int)])]) (λm=>m<=h.Larges.length/\∀(j:Nat)(z:a8),j<m->h.Larges[j]? = some z->Ms p z=false) (λm=>h.Larges.length - m) (0) ?_ (⟨R0 _,λj z hj=>ω⟩) λm hm=>?_
   ·exact wC
   obtain⟨hm',U⟩:=hm;have hl2:({h with Kernel:=k,Free:=J} : ab).Larges.length=h.Larges.length:=rfl;by_cases go:m<h.Larges.length/\(nth h.Larges m).Page<p
   ·have o:=ah go.1
    repeat'(first|refine gD ?_|(conv=>whnf);first|with_reducible refine CA (aa o) ?_|refine C9 ?_|refine CF rfl (aa o) rfl ?_)
    ((conv=>whnf);refine CB (m+1) ⟨ω,dn o (Q0 ω) U⟩ ω ?_;(exact wC))
   ·have w:jh (Ms p) h.Larges=m:=tp ω U λz C=>by
     have hlt:=(V1.1 C).1;have:z=nth h.Larges m:=(bq C).symm;subst this;exact O0 ω
    have o:m<h.Larges.length->h.Larges[m]? = some (nth h.Larges m):=λhh=>ah hh
    rw[tC w]
    repeat'(first|refine gD ?_|(conv=>whnf);first|with_reducible (first|refine CA (aa (o ω)) ?_|refine Bf.D (λhq=>?_) (λhq=>?_))|refine C9 ?_|refine CF rfl (aa (o ω)) rfl ?_|refine D0.mk rfl (rF h.Larges) rfl ?_|refine CS m rfl (by rw[W0];omega) (aL λ_=>rfl) T3 ?_|refine Sl.suf m rfl (by rw[W0];omega) (aL λ_=>rfl) U3 ?_|refine CL (λ_=>rfl) (λ_=>rfl) (by rw[I1];omega) (by decide) ?_|refine Ap.sn (aL λ_=>rfl) rfl (by rw[W0,I1];omega) (by decide) rfl ?_|refine Ap.ins (e:=a8.enc .imm) (y:=⟨p,(i:Nat),size⟩) rfl (λ_=>rfl) (λ_=>rfl) ω (by decide) ?_)
    all_goals
     refine CD rfl ?_ ?_
     ·exact T0 (λz=>[I z]) ω
     ·exact wC
theorem Av{k:af}(h:aA k=true)(b:iw k.Refuse):af.wf k:=by
 obtain⟨p,f,g,q,t⟩:=aC.1 h;obtain⟨u,w,y,A⟩:=aW.1 f;obtain⟨i,B,C⟩:=bu.1 g;refine⟨⟨⟨⟨ω,λr b=>?_⟩,⟨ω,λ_ _=>trivial⟩⟩,⟨ω,λe l=>?_⟩⟩,⟨ω,ω⟩,b⟩
 ·obtain⟨j,c,rfl⟩:=bc b
  obtain⟨D,n⟩:=zf h c;exact⟨ω,λv o=>by have:=n v o;exact⟨ω,ω⟩⟩
 ·obtain⟨j,c,rfl⟩:=bc l
  have a:=i j c;unfold jF at a;rw[C0]at a;by_cases d:(nth k.Machine.Table.Entries j).Mode=0
  ·have:=a.2.2.1 d;exact⟨⟨ω,ω⟩,⟨ω,ω⟩⟩
  ·have:=a.2.2.2 d;exact⟨⟨ω,ω⟩,⟨ω,ω⟩⟩
theorem EQ{p:ca}(h:en p=true):ca.wf p:=by
 have a:=λi b=>kJ h (i:=i) b
 have e:p.Cells.length<=16:=kW h;unfold en at h;simp only[I0,C0]at h;exact⟨⟨ω,ω⟩,⟨ω,ω⟩,⟨ω,λv c=>by
   obtain⟨j,d,rfl⟩:=bc c;have:=a j d;exact⟨ω,ω⟩⟩⟩
theorem bm.jobWf{h:ab}{E:List Int}(a:bm h E):cv.wf h.Job/\cv.sml h.Job:=by
 cases b:h.Meshing with
 | true=>
  obtain⟨c,f,g,i,j⟩:=fm.1 (a.job b).1;have k:=kW c;exact⟨⟨EQ c,⟨ω,ω⟩,⟨ω,ω⟩⟩,by show h.Job.Plan.Cells.length<=1048576;omega⟩
 | false=>
  have:=a.noj b;unfold pK at this;rw[C0]at this;obtain⟨l,n,e,o,p⟩:=this;refine⟨⟨⟨⟨ω,ω⟩,⟨ω,ω⟩,⟨ω,λv d=>?_⟩⟩,⟨ω,ω⟩,⟨ω,ω⟩⟩,by show h.Job.Plan.Cells.length<=1048576;omega⟩;rw[W5 e]at d;cases d
theorem uD{n:Int}(h:0<=aN n):1<=n/\n<=8:=by
 unfold aN at h
 repeat' split at h
 all_goals omega
theorem iR.wf{h:ab}{E:List Int}(b:bm h E){a c:Int}(d:iR h.Spans a c):lw a:=by
 have:=d.bd b;exact⟨ω,ω⟩
theorem bm.wf{h:ab}{E:List Int}(d:bm h E)(M:iw h.Kernel.Refuse):ab.wf h:=by
 have q:=d.lens;have r:=d.L;have D:=d.nums;unfold cm at D;rw[C0]at D;obtain⟨X,N,Y⟩:=eR.1 d.rng;obtain⟨O,-,-,Z,q5,-⟩:=iE.1 d.quar;have w:=d.mail;have k:=d.hfl;unfold aJ at k;rw[C8 w]at k;unfold bE at w;simp only[I0,C0,cw,fV,Q3,mb,Mj]at w;obtain⟨⟨⟨m1,m2,m3⟩,P⟩,m5⟩:=w;have A:=q.free;have Q:=q.spans;have h3:=q.larges;have h4:=q.objs;have h5:=q.caches;have h6:=q.quar;have t:∀n:Nat,bn h.Mail n<=bn h.Mail (n+1):=λn=>by simp only[bn];omega
 have g:∀a b:Nat,a<=b->bn h.Mail a<=bn h.Mail b:=λa b u=>by
  induction u with
  | refl=>exact C4 _
  | step _ R=>exact z4 R (t _)
 have B:∀n:Nat,0<=bn h.Mail n:=λn=>g 0 n (R0 _)
 have o:∀i,i<h.Mail.Buffers.length->(nth h.Mail.Buffers i).length<=30/\(nth h.Mail.Inbox i).length<=30:=λi f=>by
  have F:=g (i+1) h.Mail.Buffers.length ω;have S:=B i;simp only[bn]at F;omega
 refine⟨Av d.ker M,⟨ω,λx e=>?_⟩,⟨ω,λx e=>?_⟩,⟨ω,λx e=>?_⟩,⟨ω,λx e=>?_⟩,⟨ω,λx e=>?_⟩,⟨⟨ω,λl c=>?_⟩,⟨ω,λl c=>?_⟩⟩,⟨⟨ω,ω⟩,⟨ω,λx e=>?_⟩⟩,⟨ω,ω⟩,⟨ω,ω⟩,⟨ω,ω⟩,⟨ω,ω⟩,trivial,d.jobWf.1⟩
 ·have:=N x e;exact⟨⟨ω,ω⟩,⟨ω,ω⟩⟩
 ·have y:=r.sok x e
  have G:=ef y;have T:=aE y;exact⟨⟨ω,ω⟩,⟨ω,ω⟩,⟨ω,ω⟩⟩
 ·have H:=aT (r.lok x e)
  have J:=cx (r.lok x e);exact⟨⟨ω,ω⟩,⟨ω,ω⟩,⟨ω,ω⟩⟩
 ·obtain⟨o1,o2,o3,o4⟩:=d.onu x e
  have u:0<=x.Addr/\x.Addr<512/\-1000<=x.Size/\x.Size<=1000:=by
   rcases d.oow x e with⟨s,y,A,Q⟩|⟨l,c,F,S⟩
   ·have T:=aE (r.sok s y)
    have:=uD (n:=x.Size) ω;exact⟨by have:=A.1;omega,by have:=A.2.1;omega,ω,ω⟩
   ·have H:=aT (r.lok l c)
    have J:=cx (r.lok l c);omega
  exact⟨⟨ω,ω⟩,⟨ω,ω⟩,⟨ω,ω⟩,⟨ω,ω⟩⟩
 ·obtain⟨c1,U⟩:=q.lists x e
  refine⟨ω,λl c=>⟨by have:=U l c;omega,λa C=>?_⟩⟩;obtain⟨j,V,rfl⟩:=bc c;exact iR.wf d (d.hca x e j V a C)
 ·obtain⟨i,f,rfl⟩:=bc c
  have G:=o i f;refine⟨ω,λp K=>?_⟩;have W:=(P i f).1 p K;exact⟨⟨ω,ω⟩,iR.wf d (k p.Addr (Q2.2 (.inl (List.mem_flatMap.2 ⟨_,am f,V3.2 ⟨p,K,rfl⟩⟩))))⟩
 ·obtain⟨i,f,rfl⟩:=bc c
  have G:=o i ω;exact⟨ω,λa C=>iR.wf d (k a (Q2.2 (.inr (List.mem_flatten.2 ⟨_,am f,C⟩))))⟩
 ·have H:=O x e
  have J:=d.snc x e;exact⟨iR.wf d (d.hqu x e),⟨ω,ω⟩,⟨ω,ω⟩⟩
structure P7(h:ab):Prop where
 ker:aA h.Kernel=true
 wf:ab.wf h
 sml:ab.sml h
 lens:LY h
theorem bm.fit{h:ab}{E:List Int}(a:bm h E)(b:iw h.Kernel.Refuse)(c:aH.sml h.Mail):P7 h:=⟨a.ker,a.wf b,a.lens.sml a.ker c a.jobWf.2,a.lens⟩
theorem uK{h:ab}(b:bm h [])(c:h.Meshing=true):aA (mStep h).Kernel=true/\(mStep h).Kernel.Calls<=h.Kernel.Calls+1/\(mStep h).Kernel.Refuse=h.Kernel.Refuse/\(mStep h).Mail=h.Mail/\(Ba h=true->(mStep h).Meshing=false)/\cv.wf (mStep h).Job/\cv.sml (mStep h).Job:=by
 have s:=JS.of b c;refine⟨s.ker,s.calls.2.1,s.calls.2.2,rfl,λa=>?_,?_⟩
 ·unfold Ba at a
  rw[C0]at a;show(if over _=true then false else h.Meshing)=false;rw[C8 (show over (iJ h.Kernel h.Job).2=true from O0 (.inl a))]
 ·show cv.wf (if over _=true then _ else _)/\cv.sml (if over _=true then _ else _)
  split
  ·exact⟨⟨⟨⟨by decide,by decide⟩,⟨by decide,by decide⟩,⟨by decide,λv f=>by cases f⟩⟩,⟨by decide,by decide⟩,⟨by decide,by decide⟩⟩,by show(0:Nat)<=1048576;omega⟩
  ·have d:=(fm.1 (b.job c).1).1
   have g:=kW d;obtain⟨j,k⟩:=s.ph;obtain⟨l,i⟩:=s.nxt;have e:=s.plan;refine⟨⟨by rw[e];exact EQ d,⟨ω,ω⟩,⟨ω,by rw[e]at i;omega⟩⟩,by show((iJ h.Kernel h.Job).2.Plan.Cells).length<=1048576;rw[e];omega⟩
def tj(h:ab):Nat->ab × Bool
 | 0=>(h,false)
 | i+1=>if(tj h i).1.Meshing=true then(mStep (tj h i).1,Ba (tj h i).1) else tj h i
def fin(h:ab):ab × Bool:=tj h 100
theorem nj{h:ab}(g:bm h []):bm (started h).1 []/\(started h).1.Kernel=h.Kernel/\(started h).1.Mail=h.Mail:=by
 have t:=g.nums;unfold cm at t;rw[C0]at t;have u:=(kO (bJ h).length (show 0<=h.Seed/\h.Seed<=1073741823 by omega) ((bJ h).length - 1)).2;have j:=pA (bJ h) (show 0<=h.Seed/\h.Seed<=1073741823 by omega);have c:cm {h with Seed:=(shuf (bJ h).length h.Seed).2} = true:=by
  unfold cm;rw[C0];unfold shuf;simp only;omega
 cases k:l7 (bJ h) h.Seed with
 | nil=>
  have f:Ab.started h=({h with Seed:=(shuf (bJ h).length h.Seed).2},false):=by unfold Ab.started;rw[k]
  rw[f];exact⟨{g with nums:=c},rfl,rfl⟩
 | cons q C=>
  obtain⟨D,E,l⟩:=j q (by rw[k];exact O1 ..);have f:Ab.started h=({h with Seed:=(shuf (bJ h).length h.Seed).2,Meshing:=true,Job:=uv (d4 (nth (bJ h) q.A.toNat) (nth (bJ h) q.B.toNat))},true):=by unfold Ab.started;rw[k]
  rw[f];have d:∀s∈bJ h,s∈h.Spans:=λs w=>nN h (R2 _) s (List.mem_of_mem_take w)
  have n:=d _ (am (xs:=bJ h) (i:=q.A.toNat) ω);have o:=d _ (am (xs:=bJ h) (i:=q.B.toNat) ω);generalize nth (bJ h) q.A.toNat=a at l n |-;generalize nth (bJ h) q.B.toNat=b at l o |-;obtain⟨y,F,G⟩:=qX l;have p:iG (uv (d4 a b))=true:=fm.2 ⟨y,by show(0:Int)<=0;omega,by show(0:Int)<=5;omega,by show(0:Int)<=0;omega,by show(0:Int)<=(((d4 a b).Cells.length:Nat):Int);omega⟩;have r:(∃s∈h.Spans,s.Page=(d4 a b).Keep)/\∃s∈h.Spans,s.Page=(d4 a b).Move:=by
   unfold d4;split
   ·exact⟨⟨b,o,rfl⟩,⟨a,n,rfl⟩⟩
   ·exact⟨⟨a,n,rfl⟩,⟨b,o,rfl⟩⟩
  exact⟨{g with nums:=c,job:=λ_=>⟨p,r⟩,noj:=λe=>by cases e},rfl,rfl⟩
theorem bm.objSz{h:ab}{E:List Int}(a:bm h E):∀o∈h.Objs,0<=o.Size/\o.Size<=1000:=λx c=>by
 rcases a.oow x c with⟨s,d,e,f⟩|⟨l,b,g,i⟩
 ·have j:=aE (a.L.sok s d)
  have:=uD (n:=x.Size) ω;omega
 ·have k:=cx (a.L.lok l b)
  omega
theorem G5{h:ab}(t:Int){size:Int}(c:bm h [])(d:9<=size/\size<=1000):lZ h t size=if(FV h size).2<0 then((FV h size).1,-1,4) else(addO (FV h size).1 (FV h size).2 size t,(FV h size).2,0):=by
 unfold lZ FV;by_cases a:(a7 h.Free (jR size:Nat)).2.2=false
 ·rw[C8 a,C8 a]
  exact(C8 (show(-1:Int)<0 by decide)).symm
 ·rw[C7 a,C7 a]
  obtain⟨e,-⟩:=kv c (show(1:Int)<=(jR size:Nat) by unfold jR;omega) (by simpa using a);by_cases b:(iz h size).2=jR size
  ·rw[C8 b,C8 b]
   exact(C7 (show ¬16*(a7 h.Free (jR size:Nat)).2.1<0 by omega)).symm
  ·rw[C7 b,C7 b]
   exact(C8 (show(-1:Int)<0 by decide)).symm
theorem xk(h:ab)(t size:Int)(k:bm h []):aO Tryz.prog 143 false [.ptr (bv h),.val none [I t],.val none [I size]] [.ptr (bv (ep h t size).1),.val none [I t],.val none [I size]] (.tup [none,none]) [I (ep h t size).2.1,I (ep h t size).2.2]:=by
 have X:=k.lens;have hlc:=X.caches;have P:=X.objs;have p:=k.nums;unfold cm at p;rw[C0]at p;have Q:=rR k.objSz h.Objs.length (R2 _);change 0<=ve h/\ve h<=_ at Q;have n:=aD t 0 ((h.Caches.length:Int) - 1);have r:=aD size 1 1000;have E:=tY h k.objSz ω;have F:=je size;refine fM 119 [(234,[2,0,0]),(235,[2,0])] [(7,10,[36,37,38,39,40,41,42,43,44,45]),(18,272,[81,82,83,84,85,86,87,89,90,91,92,93,94,95,96,97,0,1,2,3,4,5,6,8,9,10,11,12,13,14,15,16,1016,7,1008,1009,1010,1011,1012,1013,1014,1015,1016,17,18]),(1048594,0,[8])] [(0,0),(0,0),(0,0)] Tryz.func143 rfl (λu q=>?_) (.inr ⟨trivial,trivial,trivial⟩);unfold ep;by_cases h1:1000000<=h.Next
 ·rw[C8 (.inl h1)]
  repeat'(first|refine gD ?_|(conv=>whnf);first|refine C9 ?_)
  refine CD rfl rfl ?_;exact wC
 by_cases h2:90000<h.Kernel.Calls
 ·rw[C8 (.inr h2)]
  repeat'(first|refine gD ?_|(conv=>whnf);first|with_reducible refine Bf.D (λb=>?_) (λb=>?_)|refine C9 ?_)
  refine CD rfl rfl ?_;exact wC
 rw[C7 ω];by_cases C:¬(0<=t/\t<=h.Caches.length - 1)
 ·rw[C8 C]
  rw[Q0 C]at n
  repeat'(first|refine gD ?_|(conv=>whnf);first|with_reducible refine Bf.D (λb=>?_) (λb=>?_)|refine C9 ?_|refine C6 (n) ?_)
  refine CD rfl rfl ?_;exact wC
 rw[C7 C];replace C:=Decidable.not_not.1 C;rw[O0 C]at n;by_cases B:¬(1<=size/\size<=1000)
 ·rw[C8 B]
  rw[Q0 B]at r
  repeat'(first|refine gD ?_|(conv=>whnf);first|with_reducible refine Bf.D (λb=>?_) (λb=>?_)|refine C9 ?_|refine C6 (n) ?_|refine C6 (r) ?_)
  refine CD rfl rfl ?_;exact wC
 rw[C7 B];replace B:=Decidable.not_not.1 B;rw[O0 B]at r;by_cases Y:h.Limit<ve h+size
 ·rw[C8 Y]
  repeat'(first|refine gD ?_|(conv=>whnf);first|with_reducible refine Bf.D (λb=>?_) (λb=>?_)|refine C9 ?_|refine C6 (n) ?_|refine C6 (r) ?_|refine CE (E) ⟨⟨rfl,b8 h⟩,trivial⟩ ?_|refine C9 ?_)
  refine CD rfl rfl ?_;exact wC
 rw[C7 Y];by_cases G:0<=aN size
 ·rw[C8 G]
  have hc3:aN size<=3:=by unfold aN;repeat' split<;>omega
  obtain⟨T,rfl⟩:=O2 C.1;obtain⟨K,hK⟩:=O2 G;have o:=xh h T K k ω ω ω;have s:=yp (t:=T) (c:=K) k ω ω ω;rw[hK]at F |-;simp only[I2];generalize dN h T K=w at o s |-;obtain⟨g,a⟩:=w;have H:g.Next=h.Next:=s.nx;simp only at o |-;by_cases J:a<0
  ·rw[C8 J]
   repeat'(first|refine gD ?_|(conv=>whnf);first|with_reducible refine Bf.D (λb=>?_) (λb=>?_)|refine C9 ?_|refine C6 (n) ?_|refine C6 (r) ?_|refine CE (E) ⟨⟨rfl,b8 h⟩,trivial⟩ ?_|refine C9 ?_|refine C6 (F) ?_|refine CG (o) (.inl rfl) ?_)
   refine CD rfl rfl ?_;exact wC
  ·rw[C7 J]
   obtain⟨k1,k2⟩:=s.yes (show(0:Int)<=a by omega);have R:g.Objs.length<=512:=k1.lens.objs
   repeat'(first|refine gD ?_|(conv=>whnf);first|with_reducible refine Bf.D (λb=>?_) (λb=>?_)|refine C9 ?_|refine C6 (n) ?_|refine C6 (r) ?_|refine CE (E) ⟨⟨rfl,b8 h⟩,trivial⟩ ?_|refine C9 ?_|refine C6 (F) ?_|refine CG (o) (.inl rfl) ?_)
   (conv=>whnf)
   refine CC (ι:=Nat) (λi=>[(0,.hold .box (bv g)),(1,.hold .one [I ((T:Nat):Int)]),(2,.hold .one [I (size)]),(8,.hold .one [I (a)]),(9,.hold .one [I ((i:Nat):Int)])]) (λi=>i<=g.Objs.length/\∀(j:Nat)(z:bH),j<i->g.Objs[j]? = some z->KO a z=false) (λi=>g.Objs.length - i) (0) ?_ (⟨R0 _,λj z hj=>ω⟩) λi k=>?_
   ·exact wC
   obtain⟨S,L⟩:=k;by_cases U:i<g.Objs.length/\(nth g.Objs i).Addr<a
   ·have d:=ah U.1
    repeat'(first|refine gD ?_|(conv=>whnf);first|with_reducible refine CA (aa d) ?_|refine C9 ?_|refine CF rfl (aa d) rfl ?_)
    ((conv=>whnf);refine CB (i+1) ⟨ω,dn d (Q0 ω) L⟩ ω ?_;(exact wC))
   ·have l:jh (KO a) g.Objs=i:=tp ω L λz M=>by
     have V:=(V1.1 M).1;have:z=nth g.Objs i:=(bq M).symm;subst this;exact O0 ω
    have d:i<g.Objs.length->g.Objs[i]? = some (nth g.Objs i):=λW=>ah W
    rw[show addO g a size (T:Nat) = {g with Objs:=g.Objs.take i++⟨g.Next,a,size,(T:Nat)⟩::g.Objs.drop i,Next:=g.Next+1} by unfold addO;rw[tC l]]
    repeat'(first|refine gD ?_|(conv=>whnf);first|with_reducible (first|refine CA (aa (d ω)) ?_|refine Bf.D (λb=>?_) (λb=>?_))|refine C9 ?_|refine CF rfl (aa (d ω)) rfl ?_|refine D0.mk rfl (t6 g.Objs) rfl ?_|refine CS i rfl (by rw[W0];omega) (aL λ_=>rfl) T3 ?_|refine Sl.suf i rfl (by rw[W0];omega) (aL λ_=>rfl) U3 ?_|refine CL (λ_=>rfl) (λ_=>rfl) (by rw[I1];omega) (by decide) ?_|refine Ap.sn (aL λ_=>rfl) rfl (by rw[W0,I1];omega) (by decide) rfl ?_|refine Ap.ins (e:=bH.enc .imm) (y:=⟨g.Next,a,size,(T:Nat)⟩) rfl (λ_=>rfl) (λ_=>rfl) ω (by decide) ?_|refine C9 ?_)
    all_goals
     refine CD rfl rfl ?_;exact wC
 ·rw[C7 G]
  have N:9<=size:=by unfold aN at G;repeat' split at G<;>omega
  have o:=xp h size k ⟨N,B.2⟩ ω;rw[G5 t k ⟨N,B.2⟩];have Z:(FV h size).1.Next=h.Next/\(FV h size).1.Objs=h.Objs:=by
   unfold FV;split
   ·exact⟨rfl,rfl⟩
   ·split<;>exact⟨rfl,rfl⟩
  generalize FV h size=w at o Z |-;obtain⟨g,a⟩:=w;obtain⟨H,O⟩:=Z;simp only at o H O |-;have R:g.Objs.length<=512:=by rw[O];exact P
  by_cases J:a<0
  ·rw[C8 J]
   repeat'(first|refine gD ?_|(conv=>whnf);first|with_reducible refine Bf.D (λb=>?_) (λb=>?_)|refine C9 ?_|refine C6 (n) ?_|refine C6 (r) ?_|refine CE (E) ⟨⟨rfl,b8 h⟩,trivial⟩ ?_|refine C9 ?_|refine C6 (F) ?_|refine CG (o) (.inl rfl) ?_)
   refine CD rfl rfl ?_;exact wC
  ·rw[C7 J]
   repeat'(first|refine gD ?_|(conv=>whnf);first|with_reducible refine Bf.D (λb=>?_) (λb=>?_)|refine C9 ?_|refine C6 (n) ?_|refine C6 (r) ?_|refine CE (E) ⟨⟨rfl,b8 h⟩,trivial⟩ ?_|refine C9 ?_|refine C6 (F) ?_|refine CG (o) (.inl rfl) ?_)
   (conv=>whnf)
   refine CC (ι:=Nat) (λi=>[(0,.hold .box (bv g)),(1,.hold .one [I (t)]),(2,.hold .one [I (size)]),(8,.hold .one [I (a)]),(9,.hold .one [I ((i:Nat):Int)])]) (λi=>i<=g.Objs.length/\∀(j:Nat)(z:bH),j<i->g.Objs[j]? = some z->KO a z=false) (λi=>g.Objs.length - i) (0) ?_ (⟨R0 _,λj z hj=>ω⟩) λi k=>?_
   ·exact wC
   obtain⟨S,L⟩:=k;by_cases U:i<g.Objs.length/\(nth g.Objs i).Addr<a
   ·have d:=ah U.1
    repeat'(first|refine gD ?_|(conv=>whnf);first|with_reducible refine CA (aa d) ?_|refine C9 ?_|refine CF rfl (aa d) rfl ?_)
    ((conv=>whnf);refine CB (i+1) ⟨ω,dn d (Q0 ω) L⟩ ω ?_;(exact wC))
   ·have l:jh (KO a) g.Objs=i:=tp ω L λz M=>by
     have V:=(V1.1 M).1;have:z=nth g.Objs i:=(bq M).symm;subst this;exact O0 ω
    have d:i<g.Objs.length->g.Objs[i]? = some (nth g.Objs i):=λW=>ah W
    rw[show addO g a size t = {g with Objs:=g.Objs.take i++⟨g.Next,a,size,t⟩::g.Objs.drop i,Next:=g.Next+1} by unfold addO;rw[tC l]]
    repeat'(first|refine gD ?_|(conv=>whnf);first|with_reducible (first|refine CA (aa (d ω)) ?_|refine Bf.D (λb=>?_) (λb=>?_))|refine C9 ?_|refine CF rfl (aa (d ω)) rfl ?_|refine D0.mk rfl (t6 g.Objs) rfl ?_|refine CS i rfl (by rw[W0];omega) (aL λ_=>rfl) T3 ?_|refine Sl.suf i rfl (by rw[W0];omega) (aL λ_=>rfl) U3 ?_|refine CL (λ_=>rfl) (λ_=>rfl) (by rw[I1];omega) (by decide) ?_|refine Ap.sn (aL λ_=>rfl) rfl (by rw[W0,I1];omega) (by decide) rfl ?_|refine Ap.ins (e:=bH.enc .imm) (y:=⟨g.Next,a,size,t⟩) rfl (λ_=>rfl) (λ_=>rfl) ω (by decide) ?_|refine C9 ?_)
    all_goals
     refine CD rfl rfl ?_;exact wC
theorem Ew(h:ab)(a n:Int)(t:h.Larges.length<=4096)(j:∀l∈h.Larges,bQ l=true)(o:xn h a<0):aO Tryz.prog 358 false [.ptr (bv h),.val none [I a],.val none [I n]] [.ptr (bv h),.val none [I a],.val none [I n]] .one [B false]:=by
 have b:∀l∈h.Larges,l.Page*16≠a:=λl c e=>by
  have:=Bl (p:=Ff a) c (O0 e);unfold xn at o;omega
 refine fM 136 [(297,[2,0])] [(8,6,[49,50,51,52,53,54]),(9,10,[56,57,58,59,60,61,62,63,64,65]),(20,270,[123,124,125,126,127,128,129,130,131,122,132,133,134,135,0,1,2,3,4,5,6,7,8,9,10,11,12,13,14,1011])] [(0,0),(0,0),(0,0)] Tryz.func358 rfl (λu q=>?_)
 repeat'(first|refine gO ?_|(conv=>whnf);first|refine C9 ?_)
 (conv=>whnf)
 refine CC (ι:=Nat) (λk=>[(0,.hold .box (bv h)),(1,.hold .one [I (a)]),(2,.hold .one [I (n)]),(7,.hold .one [I ((k:Nat):Int)])]) (λk=>k<=h.Larges.length) (λk=>h.Larges.length - k) (0) ?_ (R0 _) λk w=>?_
 ·repeat'(first|exact trivial|rfl |exact mV r|exact mV g|exact dG _|refine CH ?_ ?_|(exact Dl (by first|omega|(simp only;omega)|(simp;omega))))
 by_cases d:k<h.Larges.length
 ·have i:=ah d
  have y:=b _ (am d);have C:=aT (j _ (am d))
  repeat'(first|refine gA ?_|(conv=>whnf);first|with_reducible refine CA (aa i) ?_|refine C9 ?_|refine CF rfl (aa i) rfl ?_)
  ((conv=>whnf);refine CB (k+1) ω ω ?_;(exact wC))
 ·repeat'(first|refine gD ?_|(conv=>whnf);first|refine C9 ?_)
  refine CD rfl rfl ?_;exact wC
theorem MH(h:ab)(a:Int)(m:Nat):bv {h with Kernel:=zK h.Kernel a (m+1)} = (bv {h with Kernel:=zK h.Kernel a m}).set 0 (.s .own (((zK h.Kernel a m).Machine.Frames.Cells.map (aF .own)).set (ar (zK h.Kernel a m).Machine.Table ((a+m) / 16)).Frame.toNat ((aF .own (nth (zK h.Kernel a m).Machine.Frames.Cells (fE (zK h.Kernel a m) (a+m)))).set 0 (.s .own (((nth (zK h.Kernel a m).Machine.Frames.Cells (fE (zK h.Kernel a m) (a+m))).map (rI .own)).set ((a+m) % 16).toNat (splice (rI .own (nth (nth (zK h.Kernel a m).Machine.Frames.Cells (fE (zK h.Kernel a m) (a+m))) ((a+m) % 16).toNat)) 0 [I 0])))))):=
 FD {h with Kernel:=zK h.Kernel a m} (a+m) 0
def jZ(h:ab)(i k:Nat)(n:Int)(K:af):ab:={h with Kernel:=K,Larges:=h.Larges.set k (trimL (nth h.Larges k) n),Objs:=h.Objs.set i {nth h.Objs i with Size:=n}}
theorem FZ(h:ab)(i k:Nat)(n:Int)(K:af):(jZ h i k n K).Objs.map (bH.enc .own)=(h.Objs.map (bH.enc .own)).set i (splice (bH.enc .own (nth h.Objs i)) 2 [I n]):=by
 simp[jZ,t5,bH.enc,splice]
theorem qb(h:ab)(i:Nat)(n:Int)(j:bm h [])(H:i<h.Objs.length)(hg:0<=xn h (nth h.Objs i).Addr):aO Tryz.prog 358 false [.ptr (bv h),.val none [I (nth h.Objs i).Addr],.val none [I n]] [.ptr (bv (if jV h i n then trimH h i (xn h (nth h.Objs i).Addr).toNat n else h)),.val none [I (nth h.Objs i).Addr],.val none [I n]] .one [B (decide (jV h i n))]:=by
 have c:=j.lens;have hnl:=c.larges;have hno:=c.objs;have hpg:dE h<=32:=c.ents;obtain⟨f1,f2,f3⟩:=fg (Ff (nth h.Objs i).Addr) h.Larges hg;obtain⟨g,o⟩:=O2 hg;have b:g<h.Larges.length:=by unfold xn at o;omega
 have Y:(nth h.Larges g).Page*16=(nth h.Objs i).Addr:=by
  have:=of_decide_eq_true f2;rw[show(dm (Ff (nth h.Objs i).Addr) h.Larges).toNat=g by unfold xn at o;omega]at this;exact this
 have J:∀k,k<g->(nth h.Larges k).Page*16≠(nth h.Objs i).Addr:=λk hk e=>by
  have N:k<h.Larges.length:=ω
  have hok1:=aT (j.L.lok _ (am N));have hok2:=aT (j.L.lok _ (am b));have:=j.L.one k g N b 0 0 ω ω ω;omega
 have p:jV h i n↔9<=n/\n<=(nth h.Larges g).Size:=by
  unfold jV;rw[o,I2];exact⟨λx=>x.2,λx=>⟨ω,x⟩⟩
 rw[o,I2];have hbd:=rk j (am H);obtain⟨-,Z,w⟩:=j.objAt (am H);have hii:n7 h (nth h.Objs i).Addr=i:=by
  have h2:=(j.objAt (am H)).1;exact gu (f:=(·.Addr)) (gF j.osr) h2 H (by rw[Z])
 rw[hii]at w;have E:=ah H;have hxg:=ah b;have V:=vf (nth h.Larges g) n (j.L.lok _ (am b));have h8:=j.L.lok _ (am b);unfold bQ at h8;rw[C0]at h8;refine fM 136 [(297,[2,0])] [(8,6,[49,50,51,52,53,54]),(9,10,[56,57,58,59,60,61,62,63,64,65]),(20,270,[123,124,125,126,127,128,129,130,131,122,132,133,134,135,0,1,2,3,4,5,6,7,8,9,10,11,12,13,14,1011])] [(0,0),(0,0),(0,0)] Tryz.func358 rfl (λu q=>?_)
 repeat'(first|refine gO ?_|(conv=>whnf);first|refine C9 ?_)
 (conv=>whnf)
 refine CC (ι:=Nat) (λk=>[(0,.hold .box (bv h)),(1,.hold .one [I ((nth h.Objs i).Addr)]),(2,.hold .one [I (n)]),(7,.hold .one [I ((k:Nat):Int)])]) (λk=>k<=g) (λk=>g - k) (0) ?_ (R0 _) λk hk=>?_
 ·repeat'(first|exact trivial|rfl |exact mV r|exact mV d|exact dG _|refine CH ?_ ?_|(exact Dl (by first|omega|(simp only;omega)|(simp;omega))))
 have l:=ah (xs:=h.Larges) (i:=k) ω;have hfk:=aT (j.L.lok _ (am (xs:=h.Larges) (i:=k) ω));by_cases e:k=g;rotate_left
 ·have hne:=J k ω
  repeat'(first|refine gA ?_|(conv=>whnf);first|with_reducible refine CA (aa l) ?_|refine C9 ?_|refine CF rfl (aa l) rfl ?_)
  ((conv=>whnf);refine CB (k+1) ω ω ?_;(exact wC))
 subst e;by_cases F:9<=n/\n<=(nth h.Larges k).Size;rotate_left
 ·rw[C7 (by rw[p];exact F),Q0 (by rw[p];exact F)]
  rw[C7 F]at V
  repeat'(first|refine gA ?_|(conv=>whnf);first|with_reducible refine CA (aa l) ?_|refine C9 ?_|refine CF rfl (aa l) rfl ?_|refine C6 (V) ?_)
  refine CD rfl rfl ?_;exact wC
 rw[C8 (by rw[p];exact F),O0 (by rw[p];exact F)];rw[C8 F]at V;have y:=λm hm=>BJ j b F (m:=m) hm
 have D:=λm=>(oZ h.Kernel (16*(nth h.Larges k).Page+n) m).1
 have O:=λa W=>nC j b (a:=a) W
 have hsz:n<=16*(nth h.Larges k).Pages:=ω
 generalize hM:(16*((n+15) / 16) - n).toNat=M at *;have hfl:∀m,(zK h.Kernel (16*(nth h.Larges k).Page+n) m).Machine.Frames.Cells.length=h.Kernel.Machine.Frames.Cells.length:=λm=>by
  induction m with
  | zero=>rfl
  | succ m ih=>show(List.set _ _ _).length=_;rw[C1];exact ih
 have cO:=p6 {h with Larges:=h.Larges.set k (trimL (nth h.Larges k) n)} (nth h.Objs i).Addr (by show h.Objs.length<=_;omega);change ao _ _ _ [.val (some 24) (ab.enc .imm {h with Larges:=h.Larges.set k (trimL (nth h.Larges k) n)}),_] _ [I (dm (kx (nth h.Objs i).Addr) h.Objs)]at cO;rw[w]at cO;have Q:=b8 {h with Larges:=h.Larges.set k (trimL (nth h.Larges k) n)};have heL:bv {h with Larges:=h.Larges.set k (trimL (nth h.Larges k) n)} = (bv h).set 7 (.s .own ((h.Larges.map (a8.enc .own)).set k (a8.enc .own (trimL (nth h.Larges k) n)))):=by simp[bv,t5]
 rw[heL]at Q
 repeat'(first|refine gA ?_|(conv=>whnf);first|with_reducible (first|refine CA (aa l) ?_|refine CA (aa E) ?_)|refine C9 ?_|refine CF rfl (aa l) rfl ?_|refine C6 (V) ?_|refine CM rfl rfl (aa l) rfl (X0 rfl) rfl ?_|refine CE (cO) ⟨⟨rfl,Q⟩,⟨rfl,rfl⟩,trivial⟩ ?_|refine CM rfl rfl (aa E) rfl (X0 rfl) rfl ?_|refine CF rfl (aa E) rfl ?_|refine C9 ?_)
 rw[<-Y];have e0:jZ h i k n h.Kernel=jZ h i k n (zK h.Kernel (16*(nth h.Larges k).Page+n) 0):=rfl;have r:C.s .own ((jZ h i k n (zK h.Kernel (16*(nth h.Larges k).Page+n) 0)).Larges.map (a8.enc .own))=C.s .own ((h.Larges.map (a8.enc .own)).set k (a8.enc .own (trimL (nth h.Larges k) n))):=by simp[jZ,t5]
 have d:C.s .own ((jZ h i k n (zK h.Kernel (16*(nth h.Larges k).Page+n) 0)).Objs.map (bH.enc .own))=C.s .own ((h.Objs.map (bH.enc .own)).set i (splice (bH.enc .own (nth h.Objs i)) 2 [I n])):=T0 _ (FZ h i k n _)
 (conv=>whnf)
 refine CC (ι:=Nat) (λm=>[(0,.hold .box (bv (jZ h i k n (zK h.Kernel (16*(nth h.Larges k).Page+n) m)))),(1,.hold .one [I (((nth h.Larges k).Page*16))]),(8,.hold .box (a8.enc .own (trimL (nth h.Larges k) n))),(9,.hold .box (ax.enc .own (tW (nth h.Larges k) n))),(11,.hold .one [I (((16*(nth h.Larges k).Page+n)+(m:Nat)))])]) (λm=>m<=M) (λm=>M - m) (0) ?_ (R0 _) λm hm=>?_
 ·repeat'(first|exact trivial|rfl |exact mV r|exact mV d|exact dG _|refine CH ?_ ?_|(exact Dl (by first|omega|(simp only;omega)|(simp;omega))))
 have hmod:IntKind.i64.wrap 0=0:=rfl;by_cases lm:m<M
 ·have W:0<=(16*(nth h.Larges k).Page+n)+(m:Nat)/\(16*(nth h.Larges k).Page+n)+(m:Nat)<512:=ω
  have R:=O ((16*(nth h.Larges k).Page+n)+(m:Nat)) ω;have t:=y m hm;rw[<-D m]at R;have hks:=b6 t;have c2:=cR (zK h.Kernel (16*(nth h.Larges k).Page+n) m).Machine.Table (((16*(nth h.Larges k).Page+n)+(m:Nat)) / 16) hks.1.2;obtain⟨-,-,-,q0,q1⟩:=bZ t R;have hul:=(aW.1 (aC.1 t).2.1).2.2.1;have S:fE (zK h.Kernel (16*(nth h.Larges k).Page+n) m) ((16*(nth h.Larges k).Page+n)+(m:Nat))<(zK h.Kernel (16*(nth h.Larges k).Page+n) m).Machine.Frames.Cells.length:=by unfold fE;omega
  have G:(zK h.Kernel (16*(nth h.Larges k).Page+n) m).Machine.Frames.Cells[(ar (zK h.Kernel (16*(nth h.Larges k).Page+n) m).Machine.Table (((16*(nth h.Larges k).Page+n)+(m:Nat)) / 16)).Frame.toNat]? = some _:=ah S;have h16:=(zf t S).1;have T:=ah (xs:=nth (zK h.Kernel (16*(nth h.Larges k).Page+n) m).Machine.Frames.Cells (fE (zK h.Kernel (16*(nth h.Larges k).Page+n) m) ((16*(nth h.Larges k).Page+n)+(m:Nat)))) (i:=(((16*(nth h.Larges k).Page+n)+(m:Nat)) % 16).toNat) (by rw[h16];omega);have htm:((16*(nth h.Larges k).Page+n)+(m:Nat)).tmod 16=((16*(nth h.Larges k).Page+n)+(m:Nat)) % 16:=fK W.1;have hpu:=MH (jZ h i k n h.Kernel) (16*(nth h.Larges k).Page+n) m;have hwr:=o8 W;have hst:(trimL (nth h.Larges k) n).Pages=(n+15) / 16:=rfl
  repeat'(first|refine gD ?_|(conv=>whnf);first|refine C9 ?_|refine CK (by decide) ?_|refine CI hwr ?_|refine CQ htm ?_|refine CE (c2) ⟨⟨rfl,CU _⟩,⟨rfl,rfl⟩,trivial⟩ ?_|refine CJ q0 (aa G) ?_|refine CF rfl (aa G) rfl ?_|refine CJ ω (aa T) ?_|refine Pu.two rfl rfl (aa G) rfl rfl rfl (aa T) rfl (R2 _) hpu ?_)
  ((conv=>whnf);refine CB (m+1) ω ω ?_;(exact wC))
 obtain rfl:m=M:=ω
 have hst:(trimL (nth h.Larges k) n).Pages=(n+15) / 16:=rfl;have hkM:=y m (R2 _);have U:(zK h.Kernel (16*(nth h.Larges k).Page+n) m).Machine.Table.Entries.length=dE h:=by rw[D];rfl
 have hTK:sv h k n=zK h.Kernel (16*(nth h.Larges k).Page+n) m:=by unfold sv;rw[hM]
 unfold trimH Fr;rw[hTK];generalize zK h.Kernel (16*(nth h.Larges k).Page+n) m=K at *;have hN:((d7 (nth h.Larges k) n:Nat):Int)=(nth h.Larges k).Pages - (n+15) / 16:=by unfold d7;omega
 have hrA:0<d7 (nth h.Larges k) n->tW (nth h.Larges k) n = ⟨(nth h.Larges k).Page+(n+15) / 16,(d7 (nth h.Larges k) n:Nat)⟩:=λhp=>by unfold tW;rw[C8 ω,hN]
 have hrB:¬0<d7 (nth h.Larges k) n->tW (nth h.Larges k) n = ⟨0,0⟩:=λhp=>by unfold tW;rw[C7 ω]
 generalize d7 (nth h.Larges k) n=P at *;by_cases X:0<P
 ·rw[C8 X]
  have hr:=hrA X;rw[hr]
  repeat'(first|refine gD ?_|(conv=>whnf);first|refine C9 ?_)
  (conv=>whnf)
  refine CC (ι:=Nat) (λx=>[(0,.hold .box (bv (jZ h i k n (dy K ((nth h.Larges k).Page+(n+15) / 16) x)))),(9,.hold .box ([I ((nth h.Larges k).Page+(n+15) / 16),I (P:Nat)])),(13,.hold .one [I (((nth h.Larges k).Page+(n+15) / 16+(x:Nat)))])]) (λx=>x<=P) (λx=>P - x) (0) ?_ (R0 _) λx l=>?_
  ·repeat'(first|exact trivial|rfl |exact mV r|exact mV d|exact dG _|refine CH ?_ ?_|(exact Dl (by first|omega|(simp only;omega)|(simp;omega))))
  by_cases lx:x<P
  ·have c3:=l9 (jZ h i k n (dy K ((nth h.Larges k).Page+(n+15) / 16) x)) ((nth h.Larges k).Page+(n+15) / 16+(x:Nat)) (jo hkM _ _)
   repeat'(first|refine gD ?_|(conv=>whnf);first|refine C9 ?_|refine CG (c3) (.inl rfl) ?_)
   ((conv=>whnf);refine CB (x+1) ω ω ?_;(exact wC))
  ·obtain rfl:x=P:=ω
   have c4:=gj (jZ h i k n (dy K ((nth h.Larges k).Page+(n+15) / 16) x));rw[show dE (jZ h i k n (dy K ((nth h.Larges k).Page+(n+15) / 16) x))=dE h from(ew _ _ _).1.trans U]at c4;have c5:=kw (dE h:Nat) h.Free ⟨(nth h.Larges k).Page+(n+15) / 16,(x:Nat)⟩ ⟨ω,ω⟩ ⟨by have:=c.free;omega,λ_ _=>trivial⟩
   repeat'(first|refine gD ?_|(conv=>whnf);first|refine C9 ?_|refine CE (c4) ⟨b8 _,trivial⟩ ?_|refine CE (c5) ⟨⟨rfl,rfl⟩,⟨rfl,dz h.Free⟩,⟨rfl,rfl⟩,trivial⟩ ?_|refine C9 ?_)
   refine CD rfl rfl ?_;exact wC
 ·rw[C7 X]
  obtain rfl:P=0:=ω
  have hr:=hrB X;rw[hr]
  repeat'(first|refine gD ?_|(conv=>whnf);first|refine C9 ?_)
  (conv=>whnf)
  refine CC (ι:=Nat) (λx=>[(0,.hold .box (bv (jZ h i k n K))),(9,.hold .box ([I 0,I 0])),(13,.hold .one [I (0)])]) (λx=>x=0) (λx=>0) (0) ?_ (rfl) λx l=>?_
  ·repeat'(first|exact trivial|rfl |exact mV r|exact mV d|exact dG _|refine CH ?_ ?_|(exact Dl (by first|omega|(simp only;omega)|(simp;omega))))
  subst l
  repeat'(first|refine gD ?_|(conv=>whnf);first|refine C9 ?_)
  refine CD rfl rfl ?_;exact wC
theorem BW{α:Type}(a:α)(k:Nat):List.replicate (k+1) a=List.replicate k a++[a]:=List.replicate_succ' ..
theorem Ek(n k:Nat):aY.enc .own ⟨List.replicate k (List.replicate 16 0),List.replicate n false⟩ = [.s .own (List.replicate k [.s .own (List.replicate 16 [I 0])]),.s .own (List.replicate n [B false])]:=by
 simp[aY.enc,aF,rI,rB,List.map_replicate]
theorem F4(n:Nat):Kg [.s .own (List.replicate n [.z]),.s .own (List.replicate n [.z]),B true] (aH.enc .own (d3 n)++[B true]):=by
 have e:aH.enc .own (d3 n)++[B true]=[.s .own (List.replicate n [.s .own []]),.s .own (List.replicate n [.s .own []]),B true]:=by simp[aH.enc,d3,cu,aF,List.map_replicate]
 rw[e];exact .cons (.rep (.cons .z_ .nil)) (.cons (.rep (.cons .z_ .nil)) (.cons (.rfl_ _) .nil))
theorem LM(n:Nat)(b:1<=n/\n<=4):ao Tryz.prog 94 false [.val none [I (n:Nat)]] (.tup [some 2,none]) (aH.enc .own (d3 n)++[B true]):=by
 have a:=aM ((n:Nat):Int) 1 4;rw[O0 ω]at a;refine fO 13 [(3,4,[8,9,10,11])] Tryz.func94 rfl ?_ (.inr (aR (aH.enc_fr _) ⟨trivial,trivial⟩))
 repeat'((conv=>whnf);first|with_reducible (first|refine Lm ?_|refine Wm ω ?_|refine Bn ?_|refine iS.dk rfl ?_)|refine Bt ?_|refine Bu ?_|refine C9 ?_|refine C6 (a) ?_|refine Mk.mk n rfl rfl ω (xM ω (by decide)) rfl ?_)
 exact F4 n
theorem zR(n:Nat)(b:1<=n/\n<=4):ao Tryz.prog 351 false [.val none [I (n:Nat)]] (.tup [some 2,none]) (aH.enc .own (d3 n)++[B true]):=by
 have a:=aD ((n:Nat):Int) 1 4;rw[O0 ω]at a;refine fO 13 [(3,4,[8,9,10,11])] Tryz.func351 rfl ?_ (.inr (aR (aH.enc_fr _) ⟨trivial,trivial⟩))
 repeat'((conv=>whnf);first|with_reducible (first|refine Lm ?_|refine Wm ω ?_|refine Bn ?_|refine iS.dk rfl ?_)|refine Bt ?_|refine Bu ?_|refine C9 ?_|refine C6 (a) ?_|refine Mk.mk n rfl rfl ω (xM ω (by decide)) rfl ?_)
 exact F4 n
theorem J6:Kg [.s .own (List.replicate 4 [.z])] (aB.enc .own eC):=.cons (.rep (.cons .z_ .nil)) .nil
theorem wn:ao Tryz.prog 352 false [] .agg (aB.enc .own eC):=by
 refine fO 3 [] Tryz.func352 rfl ?_ (.inr (aB.enc_fr _))
 repeat'((conv=>whnf);first|with_reducible (first|refine Lm ?_|refine Wm ω ?_|refine Bn ?_|refine iS.dk rfl ?_)|refine Bt ?_|refine Bu ?_|refine C9 ?_|refine Mk.mk 4 rfl rfl (by decide) (by decide) rfl ?_)
 exact J6
theorem pR:ao Tryz.prog 353 false [.val none [I 16]] (.tup [some 2,none]) (bC.enc .own ⟨16,[]⟩++[B true]):=by
 refine fO 10 [] Tryz.func353 rfl ?_ (.inr (aR (bC.enc_fr _) ⟨trivial,trivial⟩))
 repeat'((conv=>whnf);first|with_reducible (first|refine Lm ?_|refine Wm ω ?_|refine Bn ?_|refine iS.wk rfl ?_)|refine Bt ?_|refine Bu ?_|refine C9 ?_|refine C6 (aD 16 0 500) ?_)
 exact⟨rfl,rfl,rfl,trivial⟩
def caps(h:ab)(k:Nat):ab:={h with Caches:=List.replicate k eC}
theorem GZ(k:Nat):(List.replicate (k+1) eC).map (aB.enc .own)=(List.replicate k eC).map (aB.enc .own)++[aB.enc .own eC]:=by rw[BW,W4];rfl
theorem HP{k:Nat} : ∀r∈(List.replicate k eC).map (aB.enc .own),r.length=1:=aL λ_=>rfl
theorem Lh(x:List bG):fz (.s .own (x.map (bG.enc .own)))=.s .imm (x.map (bG.enc .imm)):=(List.cons.inj (List.cons.inj (CV ⟨0,x⟩)).2).1
theorem ec:∀a b:List C,d2 (a++b)=d2 a++d2 b
 | [],_=>rfl
 | x::xs,b=>by show fz x::d2 (xs++b)=fz x::(d2 xs++d2 b);rw[ec xs b]
theorem dA(r:ay)(c:ay.sml r):ao Tryz.prog 309 false [.val (some 2) (ay.enc .imm r)] .agg (ay.enc .own r):=by
 have e:r.Objs.length<=1048576:=c.1;refine fO 36 [(5,272,[15,16,17,18,19,20,21,22,23,24,25,26,27,28,29,34,0,1,2,3,4,5,6,7,8,9,10,11,12,13,14,15,1000,1001,1002,1003,1004,1005,1006,1007,16,1000,1001,17,1000,1001,18,19,20])] Tryz.func309 rfl ?_ (.inr (ay.enc_fr _))
 repeat'(first|refine gO ?_|(conv=>whnf);first|refine C9 ?_)
 (conv=>whnf)
 refine CC (ι:=Nat) (λi=>[(1,.hold .box (ay.enc .imm r)),(2,.hold .box [I 0,.z]),(3,.hold .box [I r.Next,.s .own ((r.Objs.take i).map (bG.enc .own))]),(4,.hold .one [I ((i:Nat):Int)])]) (λi=>i<=r.Objs.length) (λi=>r.Objs.length - i) (0) ?_ (R0 _) λi g=>?_
 ·exact wC
 by_cases b:i<r.Objs.length
 ·have d:=ah b
  have a:(nth r.Objs i).Cells.length<=1048576:=c.2 _ (am b)
  repeat'(first|refine gD ?_|(conv=>whnf);first|with_reducible refine CA (aa d) ?_|refine C9 ?_|refine CF rfl (aa d) rfl ?_|refine CR (λ_=>rfl) (λ_=>rfl) a (by decide) ?_|refine CL (λ_=>rfl) (λ_=>rfl) a (by decide) ?_|refine C9 ?_|refine Ap.sn (aL λ_=>rfl) rfl (by simp;omega) (by decide) (er b) ?_)
  ((conv=>whnf);refine CB (i+1) ω ω ?_;(exact wC))
 ·repeat'(first|refine gD ?_|(conv=>whnf);first|refine C9 ?_)
  obtain rfl:i=r.Objs.length:=ω
  rw[O4]
  rfl
theorem gB(r:ay)(id:Int)(g:r.Objs.length<=1048576):ao Tryz.prog 385 false [.val (some 2) (ay.enc .imm r),.val none [I id]] .one [I (mG r id)]:=by
 refine fO 22 [] Tryz.func385 rfl ?_
 repeat'(first|refine gO ?_|(conv=>whnf);first|refine C9 ?_)
 (conv=>whnf)
 refine CC (ι:=Nat) (λi=>[(1,.hold .one [I (id)]),(2,.hold .box (ay.enc .imm r)),(5,.hold .one [I ((i:Nat):Int)])]) (λi=>i<=r.Objs.length/\∀(j:Nat)(z:bG),j<i->r.Objs[j]? = some z->lH id z=false) (λi=>r.Objs.length - i) (0) ?_ (⟨R0 _,λj z h=>ω⟩) λi c=>?_
 ·exact wC
 obtain⟨c,b⟩:=c;by_cases d:i<r.Objs.length
 ·have a:=ah d
  by_cases e:(nth r.Objs i).Id=id
  ·repeat'(first|refine gA ?_|(conv=>whnf);first|with_reducible refine CA (aa a) ?_|refine C9 ?_|refine CF rfl (aa a) rfl ?_)
   exact T0 (λz=>[I z]) (dQ a (O0 e) b).symm
  ·repeat'(first|refine gA ?_|(conv=>whnf);first|with_reducible refine CA (aa a) ?_|refine C9 ?_|refine CF rfl (aa a) rfl ?_)
   ((conv=>whnf);refine CB (i+1) ⟨ω,dn a (Q0 e) b⟩ ω ?_;(exact wC))
 ·repeat'(first|refine gD ?_|(conv=>whnf);first|refine C9 ?_)
  exact T0 (λz=>[I z]) (gm ω b).symm
theorem lT(r:ay)(c:C)(h:Nr c):gg (ay.enc .own r++[c]):=aR (ay.enc_fr _) ⟨h,trivial⟩
theorem wS(r:ay)(n:Int)(m:Nat)(b:qv r m)(h:m<=1000)(c:1<=n/\n<=1000):ao Tryz.prog 301 false [.val (some 2) (ay.enc .imm r),.val none [I n]] (.tup [some 2,none]) (ay.enc .imm (jH r n)++[I r.Next]):=by
 have i:=b.sml h;have d:=b.len;have j:=b.nx;have k:=dA r i;have e:=aD n 1 1000;rw[O0 c]at e;have key:ao Tryz.prog 301 false [.val (some 2) (ay.enc .imm r),.val none [I n]] (.tup [some 2,none]) (ay.enc .own (jH r n)++[I r.Next]):=by
  have a:=lT (jH r n) (I r.Next) trivial;unfold jH at a |-;rw[C8 c]at a |-;have l:ay.enc .own {r with Next:=r.Next+1,Objs:=r.Objs++[⟨r.Next,List.replicate n.toNat 0⟩]} = [I (r.Next+1),.s .own (r.Objs.map (bG.enc .own)++[[I r.Next,.s .own (List.replicate n.toNat [I 0])]])]:=by
   simp[ay.enc,bG.enc,rI]
  rw[l]at a |-;refine fO 30 [(4,263,[13,14,15,16,17,18,22,0,1,2,3,4,5,6,1000,1001,7,1000,1001,8,9,10]),(6,259,[27,28,29,0,1,2,3,1001,1002,4])] Tryz.func301 rfl ?_ (.inr a)
  repeat'(first|refine gO ?_|(conv=>whnf);first|refine C9 ?_|refine C6 (k) ?_|refine C6 (e) ?_|refine Mk.mk n.toNat ω ω ω (xM ω (by decide)) rfl ?_|refine C9 ?_|refine Ap.sn (aL λ_=>rfl) rfl (by simp;omega) (by decide) rfl ?_)
  (conv=>whnf)
  rfl
 have g:=key.fzR;rw[ec,CV]at g;exact g
theorem y1(r:ay)(id:Int)(m:Nat)(d:qv r m)(k:m<=1000):ao Tryz.prog 355 true [.val (some 2) (ay.enc .imm r),.val none [I id]] (.tup [some 2,none]) (ay.enc .imm (kj r id)++[B (!decide (mG r id<0))]):=by
 have g:=d.sml k;have h:=d.len;have i:=dA r g;have b:=gB r id g.1;by_cases e:mG r id<0
 ·have key:ao Tryz.prog 355 true [.val (some 2) (ay.enc .imm r),.val none [I id]] (.tup [some 2,none]) (ay.enc .own r++[B false]):=by
   refine fO 30 [(5,267,[16,17,18,19,20,22,23,24,25,26,28,0,1,2,3,4,6,7,8,9,10,5,1006,1007,1008,1009,1010,11,12,13]),(1048581,6,[1])] Tryz.func355 rfl ?_ (.inl rfl)
   repeat'(first|refine gD ?_|(conv=>whnf);first|refine C9 ?_|refine C6 (i) ?_|refine C6 (b) ?_)
   rfl
  have a:=key.fzR;rw[ec,CV]at a;unfold kj;rw[C8 e,O0 e];exact a
 ·have n:kj r id = {r with Objs:=dele r.Objs (mG r id).toNat}:=by unfold kj;rw[C7 e]
  obtain⟨t,u,w⟩:=fg (lH id) r.Objs (by unfold mG at e;omega);obtain⟨j,c⟩:=O2 (show 0<=mG r id by omega);have o:j<r.Objs.length:=by unfold mG at c;omega
  have key:ao Tryz.prog 355 true [.val (some 2) (ay.enc .imm r),.val none [I id]] (.tup [some 2,none]) ([I r.Next,.s .own ((dele r.Objs j).map (bG.enc .imm))]++[B true]):=by
   rw[c]at b;refine fO 30 [(5,267,[16,17,18,19,20,22,23,24,25,26,28,0,1,2,3,4,6,7,8,9,10,5,1006,1007,1008,1009,1010,11,12,13]),(1048581,6,[1])] Tryz.func355 rfl ?_ (.inl rfl)
   repeat'(first|refine gD ?_|(conv=>whnf);first|refine C9 ?_|refine C6 (i) ?_|refine C6 (b) ?_|refine D0.mk rfl (Lh r.Objs) rfl ?_|refine CS j rfl (by rw[W0];omega) (aL λ_=>rfl) T3 ?_|refine Sl.suf (j+1) ω (by rw[W0];omega) (aL λ_=>rfl) U3 ?_|refine CL (λ_=>rfl) (λ_=>rfl) (by rw[I1];omega) (by decide) ?_|refine CR (λ_=>rfl) (λ_=>rfl) (by rw[I1];omega) (by decide) ?_|refine Ap.dele (λ_=>rfl) (λ_=>rfl) ω (by decide) ?_|refine C9 ?_)
   rfl
  have a:=key.fzR;have p:d2 ([I r.Next,.s .own ((dele r.Objs j).map (bG.enc .imm))]++[B true])=ay.enc .imm (kj r id)++[B (!decide (mG r id<0))]:=by
   have:∀l:List bG,fzR (l.map (bG.enc .imm))=l.map (bG.enc .imm):=λl=>by
    induction l with
    | nil=>rfl
    | cons x xs q=>rw[Y4,fzR,q,<-bG.enc_fz,q9]
   rw[n,c,Q0 ω];simp[d2,fz,ay.enc,this]
  rw[p]at a;exact a
theorem wL(r:ay)(id a v:Int)(m:Nat)(o:qv r m)(D:m<=1000)(h:0<=mG r id)(c:0<=a/\a<=(nth r.Objs (mG r id).toNat).Cells.length - 1)(p:0<=v/\v<=999):ao Tryz.prog 357 false [.val (some 2) (ay.enc .imm r),.val none [I id],.val none [I a],.val none [I v]] (.tup [some 2,none]) (ay.enc .imm (eG r id a v)++[B true]):=by
 have k:=o.sml D;have q:=o.len;have E:=dA r k;have t:=gB r id k.1;obtain⟨J,K,L⟩:=fg (lH id) r.Objs h;obtain⟨j,l⟩:=O2 h;have d:j<r.Objs.length:=by unfold mG at l;omega
 have e:=ah d;have F:(nth r.Objs j).Cells.length<=1048576:=k.2 _ (am d);obtain⟨b,g⟩:=O2 c.1;have G:eG r id a v = {r with Objs:=r.Objs.set j ⟨(nth r.Objs j).Id,(nth r.Objs j).Cells.set b v⟩}:=by
  unfold eG;rw[C8 ⟨h,c,p⟩,l,g];rfl
 rw[l]at t c;rw[g]at c |-;simp only[I2]at c;have u:=ah (xs:=(nth r.Objs j).Cells) (i:=b) ω;have w:=aD (b:Nat) 0 (((nth r.Objs j).Cells.length:Nat) - 1:Int);rw[O0 ω]at w;have y:=aD v 0 999;rw[O0 p]at y;have key:ao Tryz.prog 357 false [.val (some 2) (ay.enc .imm r),.val none [I id],.val none [I (b:Nat)],.val none [I v]] (.tup [some 2,none]) (ay.enc .own (eG r id (b:Nat) v)++[B true]):=by
  have n:=lT (eG r id (b:Nat) v) (B true) trivial;rw[<-g,G]at n |-;have H:ay.enc .own {r with Objs:=r.Objs.set j ⟨(nth r.Objs j).Id,(nth r.Objs j).Cells.set b v⟩} = [I r.Next,.s .own ((r.Objs.map (bG.enc .own)).set j [I (nth r.Objs j).Id,.s .own (((nth r.Objs j).Cells.map (rI .own)).set b [I v])])]:=by
   simp[ay.enc,bG.enc,rI,t5]
  rw[H]at n |-;rw[g];refine fO 48 [] Tryz.func357 rfl ?_ (.inr n)
  repeat'(first|refine gD ?_|(conv=>whnf);first|with_reducible (first|refine CA (aa e) ?_|refine CA (aa u) ?_|refine CJ ω (aa e) ?_)|refine C9 ?_|refine C6 (E) ?_|refine C6 (t) ?_|refine C6 (w) ?_|refine C6 (y) ?_|refine CF rfl (aa e) rfl ?_|refine Pu.two rfl rfl (aa e) rfl rfl rfl (aa u) rfl (R2 _) rfl ?_)
  rfl
 have C:=key.fzR;rw[ec,CV]at C;exact C
theorem yD(r:ay)(id n:Int)(m:Nat)(l:qv r m)(u:m<=1000)(g:0<=mG r id)(c:1<=n/\n<=(nth r.Objs (mG r id).toNat).Cells.length):ao Tryz.prog 359 false [.val (some 2) (ay.enc .imm r),.val none [I id],.val none [I n]] (.tup [some 2,none]) (ay.enc .imm (fX r id n)++[B true]):=by
 have h:=l.sml u;have o:=l.len;have w:=dA r h;have p:=gB r id h.1;obtain⟨E,F,G⟩:=fg (lH id) r.Objs g;obtain⟨j,i⟩:=O2 g;have a:j<r.Objs.length:=by unfold mG at i;omega
 have d:=ah a;have y:(nth r.Objs j).Cells.length<=1048576:=h.2 _ (am a);obtain⟨b,e⟩:=O2 (show 0<=n by omega);have C:fX r id n = {r with Objs:=r.Objs.set j ⟨(nth r.Objs j).Id,(nth r.Objs j).Cells.take b⟩}:=by
  unfold fX;rw[C8 ⟨g,c⟩,i,e];rfl
 rw[i]at p c;rw[e]at c |-;simp only[I2]at c;have q:=aD (b:Nat) 1 (((nth r.Objs j).Cells.length:Nat):Int);rw[O0 ω]at q;have key:ao Tryz.prog 359 false [.val (some 2) (ay.enc .imm r),.val none [I id],.val none [I (b:Nat)]] (.tup [some 2,none]) (ay.enc .own (fX r id (b:Nat))++[B true]):=by
  have k:=lT (fX r id (b:Nat)) (B true) trivial;rw[<-e,C]at k |-;have D:ay.enc .own {r with Objs:=r.Objs.set j ⟨(nth r.Objs j).Id,(nth r.Objs j).Cells.take b⟩} = [I r.Next,.s .own ((r.Objs.map (bG.enc .own)).set j [I (nth r.Objs j).Id,.s .own (((nth r.Objs j).Cells.take b).map (rI .imm))])]:=by
   simp only[ay.enc,t5]
   rfl
  rw[D]at k |-;rw[e];refine fO 46 [(5,270,[30,31,32,33,34,35,36,37,38,39,40,41,43,44,0,1,2,3,4,5,6,7,8,9,10,11,12,1000,1001,1002,13,14,15])] Tryz.func359 rfl ?_ (.inr k)
  repeat'(first|refine gD ?_|(conv=>whnf);first|with_reducible (first|refine CA (aa d) ?_|refine CJ ω (aa d) ?_)|refine C9 ?_|refine C6 (w) ?_|refine C6 (p) ?_|refine C6 (q) ?_|refine CF rfl (aa d) rfl ?_|refine CS b rfl (by rw[W0];omega) (aL λ_=>rfl) T3 ?_|refine CR (λ_=>rfl) (λ_=>rfl) (by rw[I1];omega) (by decide) ?_|refine CL (λ_=>rfl) (λ_=>rfl) (by rw[I1];omega) (by decide) ?_|refine C9 ?_|refine CM rfl rfl (aa d) rfl (X0 rfl) rfl ?_)
  rfl
 have t:=key.fzR;rw[ec,CV]at t;exact t
theorem zi(r:ay)(id a v:Int)(m:Nat)(h:qv r m)(l:m<=1000)(u:0<=v/\v<=999):∃b:Bool,ao Tryz.prog 357 false [.val (some 2) (ay.enc .imm r),.val none [I id],.val none [I a],.val none [I v]] (.tup [some 2,none]) (ay.enc .imm (eG r id a v)++[B b]):=by
 by_cases i:0<=mG r id
 ·by_cases d:0<=a/\a<=(nth r.Objs (mG r id).toNat).Cells.length - 1
  ·exact⟨true,wL r id a v m h l i d u⟩
  ·refine⟨false,?_⟩
   have c:=h.sml l;have o:=h.len;have n:=dA r c;have k:=gB r id c.1;obtain⟨C,D,E⟩:=fg (lH id) r.Objs i;obtain⟨j,p⟩:=O2 i;have e:j<r.Objs.length:=by unfold mG at p;omega
   have q:=ah e;have w:(nth r.Objs j).Cells.length<=1048576:=c.2 _ (am e);have y:eG r id a v=r:=by unfold eG;rw[C7 (λx=>d x.2.1)]
   rw[p]at k d;simp only[I2]at d;have t:=aD a 0 (((nth r.Objs j).Cells.length:Nat) - 1:Int);rw[Q0 d]at t;rw[y];have key:ao Tryz.prog 357 false [.val (some 2) (ay.enc .imm r),.val none [I id],.val none [I a],.val none [I v]] (.tup [some 2,none]) (ay.enc .own r++[B false]):=by
    refine fO 48 [] Tryz.func357 rfl ?_ (.inr (lT r (B false) trivial))
    repeat'(first|refine gD ?_|(conv=>whnf);first|with_reducible refine CA (aa q) ?_|refine C9 ?_|refine C6 (n) ?_|refine C6 (k) ?_|refine C6 (t) ?_|refine CF rfl (aa q) rfl ?_)
    rfl
   have g:=key.fzR;rw[ec,CV]at g;exact g
 ·refine⟨false,?_⟩
  have c:=h.sml l;have n:=dA r c;have k:=gB r id c.1;rw[show eG r id a v=r by unfold eG;rw[C7 (λx=>i x.1)]];have key:ao Tryz.prog 357 false [.val (some 2) (ay.enc .imm r),.val none [I id],.val none [I a],.val none [I v]] (.tup [some 2,none]) (ay.enc .own r++[B false]):=by
   refine fO 48 [] Tryz.func357 rfl ?_ (.inr (lT r (B false) trivial))
   repeat'(first|refine gD ?_|(conv=>whnf);first|refine C9 ?_|refine C6 (n) ?_|refine C6 (k) ?_)
   rfl
  have g:=key.fzR;rw[ec,CV]at g;exact g
theorem BN(r:ay)(id n:Int)(m:Nat)(g:qv r m)(k:m<=1000):∃b:Bool,ao Tryz.prog 359 false [.val (some 2) (ay.enc .imm r),.val none [I id],.val none [I n]] (.tup [some 2,none]) (ay.enc .imm (fX r id n)++[B b]):=by
 by_cases h:0<=mG r id
 ·by_cases c:1<=n/\n<=(nth r.Objs (mG r id).toNat).Cells.length
  ·exact⟨true,yD r id n m g k h c⟩
  ·refine⟨false,?_⟩
   have a:=g.sml k;have o:=g.len;have l:=dA r a;have i:=gB r id a.1;obtain⟨y,C,D⟩:=fg (lH id) r.Objs h;obtain⟨j,p⟩:=O2 h;have d:j<r.Objs.length:=by unfold mG at p;omega
   have q:=ah d;have u:(nth r.Objs j).Cells.length<=1048576:=a.2 _ (am d);have w:fX r id n=r:=by unfold fX;rw[C7 (λx=>c x.2)]
   rw[p]at i c;simp only[I2]at c;have t:=aD n 1 (((nth r.Objs j).Cells.length:Nat):Int);rw[Q0 c]at t;rw[w];have key:ao Tryz.prog 359 false [.val (some 2) (ay.enc .imm r),.val none [I id],.val none [I n]] (.tup [some 2,none]) (ay.enc .own r++[B false]):=by
    refine fO 46 [(5,270,[30,31,32,33,34,35,36,37,38,39,40,41,43,44,0,1,2,3,4,5,6,7,8,9,10,11,12,1000,1001,1002,13,14,15])] Tryz.func359 rfl ?_ (.inr (lT r (B false) trivial))
    repeat'(first|refine gD ?_|(conv=>whnf);first|with_reducible refine CA (aa q) ?_|refine C9 ?_|refine C6 (l) ?_|refine C6 (i) ?_|refine C6 (t) ?_|refine CF rfl (aa q) rfl ?_)
    rfl
   have e:=key.fzR;rw[ec,CV]at e;exact e
 ·refine⟨false,?_⟩
  have a:=g.sml k;have l:=dA r a;have i:=gB r id a.1;rw[show fX r id n=r by unfold fX;rw[C7 (λx=>h x.1)]];have key:ao Tryz.prog 359 false [.val (some 2) (ay.enc .imm r),.val none [I id],.val none [I n]] (.tup [some 2,none]) (ay.enc .own r++[B false]):=by
   refine fO 46 [(5,270,[30,31,32,33,34,35,36,37,38,39,40,41,43,44,0,1,2,3,4,5,6,7,8,9,10,11,12,1000,1001,1002,13,14,15])] Tryz.func359 rfl ?_ (.inr (lT r (B false) trivial))
   repeat'(first|refine gD ?_|(conv=>whnf);first|refine C9 ?_|refine C6 (l) ?_|refine C6 (i) ?_)
   rfl
  have e:=key.fzR;rw[ec,CV]at e;exact e
structure gN where
 i:Nat
 h:Int
deriving Inhabited
def w64(x:Int):Int:=IntKind.i64.wrap x
def Ny(h:Int):Int:=w64 (w64 (h*6364136223846793005)+1442695040888963407)
def Ni(a b:Int):Int:=w64 ((BitVec.ofInt IntKind.i64.bits a ^^^ BitVec.ofInt IntKind.i64.bits b).toNat:Nat)
def and255(a:Int):Int:=w64 ((BitVec.ofInt IntKind.i64.bits a &&& BitVec.ofInt IntKind.i64.bits 255).toNat:Nat)
def KR(h:Int)(n:Nat):Int:=h.fdiv (2 ^ (min n IntKind.i64.bits))
def xQ(h:Int):Int:=and255 (Ni (KR h 33) (KR h 45))
theorem yf(a:Int):0<=and255 a/\and255 a<=255:=by
 have b:(BitVec.ofInt IntKind.i64.bits a &&& BitVec.ofInt IntKind.i64.bits 255).toNat<=255:=by
  rw[BitVec.toNat_and];exact v4 Nat.and_le_right (by decide)
 unfold and255 w64;rw[eK ω ω];omega
def df(zs:List Int)(c:gN):Int × gN:=if c.i<zs.length then(and255 (xQ (Ny c.h)+nth zs c.i),⟨c.i+1,Ny c.h⟩) else(xQ (Ny c.h),⟨c.i,Ny c.h⟩)
theorem pT(zs:List Int)(c:gN):0<=(df zs c).1/\(df zs c).1<=255:=by
 unfold df;split<;>exact yf _
theorem gV{zs:List Int}{c:gN}(h:c.i<=zs.length):(df zs c).2.i<=zs.length:=by
 unfold df;split
 ·simp only;omega
 ·exact h
def yt(zs:List Int)(c:gN):Int × gN:=
 ((df zs c).1*16777216+(df zs (df zs c).2).1*65536+(df zs (df zs (df zs c).2).2).1*256+(df zs (df zs (df zs (df zs c).2).2).2).1,(df zs (df zs (df zs (df zs c).2).2).2).2)
def bp(zs:List Int)(c:gN)(n:Int):Int × gN:=if n<=256 then((df zs c).1 % n,(df zs c).2) else((yt zs c).1 % n,(yt zs c).2)
theorem b9(zs:List Int)(c:gN){n:Int}(h:1<=n):0<=(bp zs c n).1/\(bp zs c n).1<n:=by
 unfold bp;split<;>exact⟨Int.emod_nonneg _ ω,Int.emod_lt_of_pos _ ω⟩
theorem bL{zs:List Int}{c:gN}(h:c.i<=zs.length)(n:Int):(bp zs c n).2.i<=zs.length:=by
 unfold bp;split
 ·exact gV h
 ·exact gV (gV (gV (gV h)))
def jE(zs:List Int)(c:gN)(l:List Int):Int × gN:=(nth l (bp zs c (l.length:Nat)).1.toNat,(bp zs c (l.length:Nat)).2)
theorem oo(zs:List Int)(c:gN){l:List Int}(h:1<=l.length):(jE zs c l).1∈l:=by
 have:=b9 zs c (n:=(l.length:Nat)) ω;exact am ω
def mN(zs:List Int):Nat->Nat->List Int->gN->List Int × gN
 | 0,_,out,c=>(out,(bp zs c 4).2)
 | f+1,i,out,c=>if(i:Int)<(bp zs c 4).1 then mN zs f (i+1) (out++[(bp zs (bp zs c 4).2 12).1]) (bp zs (bp zs c 4).2 12).2 else(out,(bp zs c 4).2)
def LD(zs:List Int)(c:gN):List Int × gN:=mN zs 4 0 [] c
theorem Fb(zs:List Int):∀(f i:Nat)(out:List Int)(c:gN),(∀x∈out,0<=x)->out.length+f<=4->c.i<=zs.length->(∀x∈(mN zs f i out c).1,0<=x)/\(mN zs f i out c).1.length<=4/\(mN zs f i out c).2.i<=zs.length
 | 0,_,out,c,b,e,d=>⟨b,by show out.length<=4;omega,bL d _⟩
 | f+1,i,out,c,b,e,d=>by
  unfold mN;split
  ·refine Fb zs f (i+1) _ _ (λx a=>?_) (by simp only[W2,List.length_singleton];omega) (bL (bL d _) _)
   rcases Q2.1 a with a|a
   ·exact b x a
   ·rw[Z0.1 a];exact(b9 zs _ (by decide)).1
  ·exact⟨b,by show out.length<=4;omega,bL d _⟩
def wN(zs:List Int)(c:gN):Int × gN:=bp zs c 7
def Dm(zs:List Int)(c:gN):Int × gN:=bp zs (wN zs c).2 3
def Ej(zs:List Int)(c:gN):Int × gN:=bp zs (Dm zs c).2 100
def zc(zs:List Int)(c:gN):Int × gN:=bp zs (Ej zs c).2 4
def M5(zs:List Int)(c:gN):List Int × gN:=LD zs (zc zs c).2
def my(zs:List Int)(c:gN):cr:=⟨(6+(wN zs c).1).toNat,(6+(wN zs c).1 - (zc zs c).1).toNat,(1+(Dm zs c).1).toNat,40+(Ej zs c).1,(M5 zs c).1⟩
theorem nz{zs:List Int}{c:gN}(h:c.i<=zs.length):De (my zs c)/\(M5 zs c).2.i<=zs.length:=by
 have a:=b9 zs c (n:=7) (by decide);have b:=b9 zs (wN zs c).2 (n:=3) (by decide);have d:=b9 zs (Dm zs c).2 (n:=100) (by decide);have e:=b9 zs (Ej zs c).2 (n:=4) (by decide);change 0<=(wN zs c).1/\(wN zs c).1<7 at a;change 0<=(Dm zs c).1/\(Dm zs c).1<3 at b;change 0<=(Ej zs c).1/\(Ej zs c).1<100 at d;change 0<=(zc zs c).1/\(zc zs c).1<4 at e;obtain⟨f,k,g⟩:=Fb zs 4 0 [] (zc zs c).2 (λx j=>by cases j) (by simp) (bL (bL (bL (bL h _) _) _) _);refine⟨⟨?_,?_,?_,?_,?_⟩,g⟩
 ·show 1<=(6+(wN zs c).1).toNat/\(6+(wN zs c).1).toNat<=32;omega
 ·show 1<=(6+(wN zs c).1 - (zc zs c).1).toNat/\(6+(wN zs c).1 - (zc zs c).1).toNat<=32;omega
 ·show 1<=(1+(Dm zs c).1).toNat/\(1+(Dm zs c).1).toNat<=4;omega
 ·show 0<=40+(Ej zs c).1/\40+(Ej zs c).1<=1000;omega
 ·exact⟨by show(mN zs 4 0 [] (zc zs c).2).1.length<=40;omega,f⟩
def xu(zs:List Int)(c:gN):Int × gN:=bp zs c 3
def Dr(zs:List Int)(c:gN)(ids:Int):Int × gN:=bp zs (xu zs c).2 ids
def jy(zs:List Int)(c:gN)(ids:Int):Int × gN:=bp zs (Dr zs c ids).2 20
def szs:List Int:=[1,1,2,2,3,4,4,5,8,9,20]
def pW(zs:List Int)(c:gN)(ids:Int):dJ × gN:=
 if(jy zs c ids).1<=6 then(⟨1,(xu zs c).1,(jE zs (jy zs c ids).2 szs).1,0,0⟩,(jE zs (jy zs c ids).2 szs).2)
 else if(jy zs c ids).1<=9 then(⟨2,(xu zs c).1,1+(Dr zs c ids).1,0,0⟩,(jy zs c ids).2)
 else if(jy zs c ids).1<=12 then(⟨3,(xu zs c).1,1+(Dr zs c ids).1,(bp zs (jy zs c ids).2 4).1,1+(bp zs (bp zs (jy zs c ids).2 4).2 999).1⟩,(bp zs (bp zs (jy zs c ids).2 4).2 999).2)
 else if(jy zs c ids).1=13 then(⟨4,(xu zs c).1,1+(Dr zs c ids).1,0,9+(bp zs (jy zs c ids).2 10).1⟩,(bp zs (jy zs c ids).2 10).2)
 else if(jy zs c ids).1=14 then(⟨(jE zs (jy zs c ids).2 [5,6]).1,(xu zs c).1,1+(Dr zs c ids).1,0,0⟩,(jE zs (jy zs c ids).2 [5,6]).2)
 else if(jy zs c ids).1=15 then(⟨7,(xu zs c).1,1+(Dr zs c ids).1,0,0⟩,(jy zs c ids).2)
 else if(jy zs c ids).1=16 then(⟨8,(xu zs c).1,(jE zs (jy zs c ids).2 [1,30,60,120]).1,0,0⟩,(jE zs (jy zs c ids).2 [1,30,60,120]).2)
 else if(jy zs c ids).1=17 then(⟨9,(xu zs c).1,1+(Dr zs c ids).1,0,0⟩,(jy zs c ids).2)
 else(⟨10,(xu zs c).1,(jE zs (jy zs c ids).2 [1,2,3,10,30]).1,0,0⟩,(jE zs (jy zs c ids).2 [1,2,3,10,30]).2)
structure JM(a:dJ):Prop where
 k:1<=a.Kind/\a.Kind<=10
 t:0<=a.Thread/\a.Thread<=1000000
 n:0<=a.N/\a.N<=1000000
 p:0<=a.At/\a.At<=1000000
 v:0<=a.Value/\a.Value<=1000000
theorem JP{zs:List Int}{c:gN}{ids:Int}(h:c.i<=zs.length)(b:1<=ids/\ids<=1000):JM (pW zs c ids).1/\(pW zs c ids).2.i<=zs.length:=by
 have d:=b9 zs c (n:=3) (by decide);have e:=b9 zs (xu zs c).2 (n:=ids) b.1;change 0<=(xu zs c).1/\(xu zs c).1<3 at d;change 0<=(Dr zs c ids).1/\(Dr zs c ids).1<ids at e;have a:(jy zs c ids).2.i<=zs.length:=bL (bL (bL h _) _) _;have f:=oo zs (jy zs c ids).2 (l:=szs) (by decide);have g:=oo zs (jy zs c ids).2 (l:=[5,6]) (by decide);have j:=oo zs (jy zs c ids).2 (l:=[1,30,60,120]) (by decide);have k:=oo zs (jy zs c ids).2 (l:=[1,2,3,10,30]) (by decide);have o:=b9 zs (jy zs c ids).2 (n:=4) (by decide);have p:=b9 zs (bp zs (jy zs c ids).2 4).2 (n:=999) (by decide);have q:=b9 zs (jy zs c ids).2 (n:=10) (by decide);simp only[szs,List.mem_cons,List.not_mem_nil,or_false]at f g j k;unfold pW
 repeat' split
 ·exact⟨⟨by simp only;omega,by simp only;omega,by simp only[szs];omega,by simp only;omega,by simp only;omega⟩,bL a _⟩
 ·exact⟨⟨by simp only;omega,by simp only;omega,by simp only;omega,by simp only;omega,by simp only;omega⟩,a⟩
 ·exact⟨⟨by simp only;omega,by simp only;omega,by simp only;omega,by simp only;omega,by simp only;omega⟩,bL (bL a _) _⟩
 ·exact⟨⟨by simp only;omega,by simp only;omega,by simp only;omega,by simp only;omega,by simp only;omega⟩,bL a _⟩
 ·exact⟨⟨by simp only;omega,by simp only;omega,by simp only;omega,by simp only;omega,by simp only;omega⟩,bL a _⟩
 ·exact⟨⟨by simp only;omega,by simp only;omega,by simp only;omega,by simp only;omega,by simp only;omega⟩,a⟩
 ·exact⟨⟨by simp only;omega,by simp only;omega,by simp only;omega,by simp only;omega,by simp only;omega⟩,bL a _⟩
 ·exact⟨⟨by simp only;omega,by simp only;omega,by simp only;omega,by simp only;omega,by simp only;omega⟩,a⟩
 ·exact⟨⟨by simp only;omega,by simp only;omega,by simp only;omega,by simp only;omega,by simp only;omega⟩,bL a _⟩
def kh(zs:List Int)(c:gN):Nat->List dJ × gN
 | 0=>([],(bp zs c 41).2)
 | i+1=>((kh zs c i).1++[(pW zs (kh zs c i).2 (1+(i:Int) / 2)).1],(pW zs (kh zs c i).2 (1+(i:Int) / 2)).2)
def jY(zs:List Int)(c:gN):List dJ × gN:=kh zs c (bp zs c 41).1.toNat
theorem qn{zs:List Int}{c:gN}(h:c.i<=zs.length):∀{n:Nat},n<=100->(kh zs c n).1.length=n/\(∀a∈(kh zs c n).1,JM a)/\(kh zs c n).2.i<=zs.length
 | 0,_=>⟨rfl,λa b=>(by cases b),bL h _⟩
 | n+1,k=>by
  obtain⟨d,e,f⟩:=qn h (n:=n) ω;obtain⟨g,j⟩:=JP (ids:=1+(n:Int) / 2) f ω;refine⟨by simp only[kh,W2,List.length_singleton,d],λa b=>?_,j⟩;rcases Q2.1 b with b|b
  ·exact e a b
  ·rw[Z0.1 b];exact g
def ox(zs:List Int):Nat->Int
 | 0=>w64 (98801+(zs.length:Nat))
 | i+1=>w64 ((BitVec.ofInt IntKind.i64.bits (w64 (w64 (w64 (ox zs i*131)+nth zs i)+7)) &&& BitVec.ofInt IntKind.i64.bits 1073741823).toNat:Nat)
def mK(zs:List Int):gN:=⟨0,ox zs (min zs.length 4000)⟩
def ed(zs:List Int):gN:=(M5 zs (mK zs)).2
def drawn(zs:List Int):bF:=(xl (my zs (mK zs)) (jY zs (ed zs)).1 (jY zs (ed zs)).1.length).1
theorem Db(zs:List Int):qM (drawn zs) 40:=by
 have a:(mK zs).i<=zs.length:=R0 _;obtain⟨b,d⟩:=nz a;have f:=b9 zs (ed zs) (n:=41) (by decide);obtain⟨e,-,-⟩:=qn (zs:=zs) (c:=ed zs) d (n:=(bp zs (ed zs) 41).1.toNat) ω;refine(rj b _ _).more ?_;show(kh zs (ed zs) _).1.length<=40;rw[e];omega
def rU(z:Int):List C:=[.v (.int .u8 z)]
def gM(zs:List Int)(c:gN):List C:=[.s .imm (zs.map rU),I (c.i:Nat),I c.h]
def iV(zs:List Int):Prop:=zs.length<=1048576/\∀z∈zs,0<=z/\z<=255
theorem jp(zs:List Int)(c:gN)(e:iV zs)(w:c.i<=zs.length):aO Tryz.prog 185 false [.ptr (gM zs c)] [.ptr (gM zs (df zs c).2)] .one [I (df zs c).1]:=by
 have g:IntKind.i64.wrap (c.h*6364136223846793005)=w64 (c.h*6364136223846793005):=rfl;have b:IntKind.i64.wrap (w64 (c.h*6364136223846793005)+1442695040888963407)=Ny c.h:=rfl;have o:=e.1;generalize p:Ny c.h=H at b;have j:H.fdiv (2 ^ (min (33:Int).toNat IntKind.i64.bits))=KR H 33:=rfl;have k:H.fdiv (2 ^ (min (45:Int).toNat IntKind.i64.bits))=KR H 45:=rfl;have l:IntKind.i64.wrap (BitVec.ofInt IntKind.i64.bits (KR H 33) ^^^ BitVec.ofInt IntKind.i64.bits (KR H 45)).toNat=Ni (KR H 33) (KR H 45):=rfl;have d:IntKind.i64.wrap (BitVec.ofInt IntKind.i64.bits (Ni (KR H 33) (KR H 45)) &&& BitVec.ofInt IntKind.i64.bits 255).toNat=xQ H:=rfl;have r:0<=xQ H/\xQ H<=255:=yf _;unfold df;rw[p];generalize xQ H=y at d r |-;refine fM 58 [] [(2,10,[13,14,15,16,17,18,19,20,21,22]),(3,9,[25,26,27,28,29,30,31,32,33]),(4,12,[35,36,37,38,39,40,41,42,43,44,45,46])] [(0,0)] Tryz.func185 rfl (λu q=>?_);by_cases a:c.i<zs.length
 ·rw[C8 a]
  have n:=ah a;have B:=e.2 _ (am a);have t:IntKind.i64.wrap (BitVec.ofInt IntKind.i64.bits (y+nth zs c.i) &&& BitVec.ofInt IntKind.i64.bits 255).toNat=and255 (y+nth zs c.i):=rfl
  repeat'(first|refine gD ?_|(conv=>whnf);first|with_reducible (first|refine CI g ?_|refine CI b ?_|refine CI l ?_|refine CI d ?_|refine CI t ?_|refine CA (aa n) ?_|refine CK (by decide) ?_|refine CQ j ?_|refine CQ k ?_)|refine CF rfl (aa n) rfl ?_|refine C9 ?_)
  refine CD rfl rfl ?_;exact wB
 ·rw[C7 a]
  repeat'(first|refine gD ?_|(conv=>whnf);first|with_reducible (first|refine CI g ?_|refine CI b ?_|refine CI l ?_|refine CI d ?_|refine CK (by decide) ?_|refine CQ j ?_|refine CQ k ?_)|refine C9 ?_)
  refine CD rfl rfl ?_;exact wB
theorem bN(zs:List Int)(c:gN)(n:Int)(b:iV zs)(d:c.i<=zs.length)(p:1<=n):aO Tryz.prog 92 false [.ptr (gM zs c),.val none [I n]] [.ptr (gM zs (bp zs c n).2),.val none [I n]] .one [I (bp zs c n).1]:=by
 have j:=pT zs c;have g:=jp zs c b d;unfold bp;refine fM 37 [(185,[2])] [] [(0,0),(0,0)] Tryz.func92 rfl (λu q=>?_);by_cases h:n<=256
 ·rw[C8 h]
  have a:(df zs c).1.tmod n=(df zs c).1 % n:=Int.tmod_eq_emod_of_nonneg j.1
  repeat'(first|refine gD ?_|(conv=>whnf);first|with_reducible (first|refine CQ a ?_|refine Bf.D (λe=>?_) (λe=>?_))|refine CG (g) (.inl rfl) ?_|refine CK ω ?_)
  refine CD rfl rfl ?_;exact wB
 ·rw[C7 h]
  have r:=pT zs (df zs c).2;have t:=pT zs (df zs (df zs c).2).2;have w:=pT zs (df zs (df zs (df zs c).2).2).2;have k:=jp zs (df zs c).2 b (gV d);have l:=jp zs (df zs (df zs c).2).2 b (gV (gV d));have o:=jp zs (df zs (df zs (df zs c).2).2).2 b (gV (gV (gV d)));have a:(yt zs c).1.tmod n=(yt zs c).1 % n:=Int.tmod_eq_emod_of_nonneg (by unfold yt;simp only;omega);unfold yt at a |-;simp only at a
  repeat'(first|refine gD ?_|(conv=>whnf);first|with_reducible (first|refine CQ a ?_|refine Bf.D (λe=>?_) (λe=>?_))|refine CG (g) (.inl rfl) ?_|refine CG (k) (.inl rfl) ?_|refine CG (l) (.inl rfl) ?_|refine CG (o) (.inl rfl) ?_|refine CK ω ?_)
  refine CD rfl rfl ?_;exact wB
theorem Hr(zs:List Int)(c:gN)(l:List Int)(b:iV zs)(d:c.i<=zs.length)(g:1<=l.length/\l.length<=1000):aO Tryz.prog 310 false [.ptr (gM zs c),.val none (aF .imm l)] [.ptr (gM zs (jE zs c l).2),.val none (aF .imm l)] .one [I (jE zs c l).1]:=by
 have e:=bN zs c (l.length:Nat) b d ω;have h:=b9 zs c (n:=(l.length:Nat)) ω;have a:=ah (xs:=l) (i:=(bp zs c (l.length:Nat)).1.toNat) ω;unfold jE;refine fM 12 [(92,[2,0])] [] [(0,0),(0,0)] Tryz.func310 rfl (λu q=>?_)
 repeat'(first|refine gO ?_|(conv=>whnf);first|with_reducible refine CJ ω (aa a) ?_|refine CG (e) (.inl rfl) ?_|refine CF rfl (aa a) rfl ?_)
 refine CD rfl rfl ?_;exact wC
theorem ib(zs:List Int)(c:gN)(l:List Int)(b:iV zs)(d:c.i<=zs.length)(g:1<=l.length/\l.length<=1000):aO Tryz.prog 310 false [.ptr (gM zs c),.mut none (aF .own l)] [.ptr (gM zs (jE zs c l).2),.mut none (aF .own l)] .one [I (jE zs c l).1]:=by
 have e:=bN zs c (l.length:Nat) b d ω;have h:=b9 zs c (n:=(l.length:Nat)) ω;have a:=ah (xs:=l) (i:=(bp zs c (l.length:Nat)).1.toNat) ω;unfold jE;refine fM 12 [(92,[2,0])] [] [(0,0),(1,0)] Tryz.func310 rfl (λu q=>?_)
 repeat'(first|refine gO ?_|(conv=>whnf);first|with_reducible refine CJ ω (aa a) ?_|refine CG (e) (.inl rfl) ?_|refine CF rfl (aa a) rfl ?_)
 refine CD rfl rfl ?_;exact wC
theorem GF(zs:List Int):∀(f i:Nat)(out:List Int)(c:gN),(bp zs c 4).1<=i->mN zs f i out c=(out,(bp zs c 4).2)
 | 0,_,_,_,_=>rfl
 | f+1,i,out,c,h=>by unfold mN;rw[C7 ω]
theorem Lo(zs:List Int)(f i:Nat)(out:List Int)(c:gN)(h:(i:Int)<(bp zs c 4).1):mN zs (f+1) i out c=mN zs f (i+1) (out++[(bp zs (bp zs c 4).2 12).1]) (bp zs (bp zs c 4).2 12).2:=by
 show(if _ then _ else _)=_;rw[C8 h]
structure Rq where
 i:Nat
 out:List Int
 c:gN
theorem tL(zs:List Int)(c:gN)(e:iV zs)(j:c.i<=zs.length):aO Tryz.prog 242 false [.ptr (gM zs c)] [.ptr (gM zs (LD zs c).2)] .one (aF .own (LD zs c).1):=by
 refine fM 18 [(92,[2,0])] [] [(0,0)] Tryz.func242 rfl (λu q=>?_) (.inr (bM _))
 repeat'(first|refine gO ?_|fail)
 (conv=>whnf)
 refine CC (ι:=Rq) (λx=>[(0,.hold .box (gM zs x.c)),(3,.hold .one (aF .own x.out)),(4,.hold .one [I ((x.i:Nat):Int)])]) (λx=>(x.i<=4/\x.out.length<=x.i/\x.c.i<=zs.length)/\mN zs (4 - x.i) x.i x.out x.c=LD zs c) (λx=>4 - x.i) (⟨0,[],c⟩) ?_ (⟨⟨R0 _,R0 _,j⟩,rfl⟩) λx k=>?_
 ·exact wC
 obtain⟨i,out,d⟩:=x;obtain⟨⟨l,o,b⟩,a⟩:=k;simp only at l o b a |-;have B:=b9 zs d (n:=4) (by decide);have g:=bN zs d 4 e b (by decide);have h:=bL b 4;have p:=bN zs (bp zs d 4).2 12 e h (by decide);have t:=bL h 12;by_cases w:(i:Int)<(bp zs d 4).1
 ·rw[show 4 - i=(4 - (i+1))+1 by omega,Lo zs _ _ _ _ w]at a
  repeat'(first|refine gD ?_|(conv=>whnf);first|refine CG (g) (.inl rfl) ?_|refine CG (p) (.inl rfl) ?_|refine CP cF (λr y=>by rw[Z0.1 y];rfl) (by simp[aU,d6]) (by simp;omega) (by simp only[W0];exact xM (by simp;omega) (by decide)) rfl ?_)
  ((conv=>whnf);refine CB ⟨i+1,out++[(bp zs (bp zs d 4).2 12).1],(bp zs (bp zs d 4).2 12).2⟩ ⟨⟨by simp only;omega,by simp only[W2,List.length_singleton];omega,t⟩,a⟩ (by simp only;omega) ?_)
  repeat'(first|exact trivial|rfl| exact dG _ |exact CH rfl (CH (T0 (C.s du.own) (by simp[rI])) trivial)|refine CH ?_ ?_|(exact Dl (by first|omega|(simp only;omega)|(simp;omega))))
 ·rw[GF zs _ _ _ _ ω]at a
  rw[<-a]
  repeat'(first|refine gD ?_|(conv=>whnf);first|refine CG (g) (.inl rfl) ?_)
  refine CD rfl rfl ?_;exact wC
def cr.enc(o:du)(c:cr):List C:=[I (c.Pages:Nat),I (c.Frames:Nat),I (c.Threads:Nat),I c.Limit,.s o (c.Refuse.map (rI o))]
theorem cr.enc_fz(c:cr):d2 (cr.enc .own c)=cr.enc .imm c:=by simp[d2,cr.enc,rI,<-bT,X4]
theorem cr.enc_fr(c:cr):gg (cr.enc .own c):=⟨trivial,trivial,trivial,trivial,⟨.inl λh=>(by cases h),aZ _ _ λy _=>oF y⟩,trivial⟩
theorem vc(zs:List Int)(c:gN)(a:iV zs)(h:c.i<=zs.length):aO Tryz.prog 150 false [.ptr (gM zs c)] [.ptr (gM zs (M5 zs c).2)] .agg (cr.enc .own (my zs c)):=by
 have j:=bL h 7;have k:=bL j 3;have l:=bL k 100;have y:=bL l 4;have b:=bN zs c 7 a h (by decide);have d:=bN zs (wN zs c).2 3 a j (by decide);have e:=bN zs (Dm zs c).2 100 a k (by decide);have g:=bN zs (Ej zs c).2 4 a l (by decide);have o:=tL zs (zc zs c).2 a y;have p:=b9 zs c (n:=7) (by decide);have r:=b9 zs (wN zs c).2 (n:=3) (by decide);have B:=b9 zs (Dm zs c).2 (n:=100) (by decide);have t:=b9 zs (Ej zs c).2 (n:=4) (by decide);have w:=cr.enc_fr (my zs c);have C:cr.enc .own (my zs c)=[I (6+(wN zs c).1),I (6+(wN zs c).1 - (zc zs c).1),I (1+(Dm zs c).1),I (40+(Ej zs c).1),.s .own ((M5 zs c).1.map (rI .own))]:=by
  have D:0<=(wN zs c).1/\(wN zs c).1<7:=p;have E:0<=(Dm zs c).1/\(Dm zs c).1<3:=r;have F:0<=(zc zs c).1/\(zc zs c).1<4:=t;unfold cr.enc my;simp only;rw[Int.toNat_of_nonneg ω,Int.toNat_of_nonneg ω,Int.toNat_of_nonneg ω]
 rw[C]at w |-;change aO _ _ _ _ [.ptr (gM zs (wN zs c).2),_] _ _ at b;change aO _ _ _ _ [.ptr (gM zs (Dm zs c).2),_] _ _ at d;change aO _ _ _ _ [.ptr (gM zs (Ej zs c).2),_] _ _ at e;change aO _ _ _ _ [.ptr (gM zs (zc zs c).2),_] _ _ at g;change aO _ _ _ _ [.ptr (gM zs (M5 zs c).2)] _ (aF .own (M5 zs c).1) at o;change aO _ _ _ _ _ _ [I (wN zs c).1]at b;change aO _ _ _ _ _ _ [I (Dm zs c).1]at d;change aO _ _ _ _ _ _ [I (Ej zs c).1]at e;change aO _ _ _ _ _ _ [I (zc zs c).1]at g;change 0<=(wN zs c).1/\(wN zs c).1<7 at p;change 0<=(Dm zs c).1/\(Dm zs c).1<3 at r;change 0<=(Ej zs c).1/\(Ej zs c).1<100 at B;change 0<=(zc zs c).1/\(zc zs c).1<4 at t;generalize M5 zs c=r5 at *;generalize zc zs c=r4 at *;generalize Ej zs c=r3 at *;generalize Dm zs c=r2 at *;generalize wN zs c=r1 at *;refine fM 24 [(92,[2,0]),(242,[2])] [(2,65536,[])] [(0,0)] Tryz.func150 rfl (λu q=>?_) (.inr w)
 repeat'(first|refine gO ?_|(conv=>whnf);first|refine CG (b) (.inl rfl) ?_|refine CG (d) (.inl rfl) ?_|refine CG (e) (.inl rfl) ?_|refine CG (g) (.inl rfl) ?_|refine CG (o) (.inl rfl) ?_|refine CH ?_ ?_)
 all_goals
  refine CD rfl rfl ?_;exact wC
theorem tJ(n:Nat)(e:1<=n/\n<=32):ao Tryz.prog 400 false [.val none [I (n:Nat)]] (.tup [some 2,none]) (aY.enc .own (fo n)++[B true]):=by
 have c:=aD ((n:Nat):Int) 1 32;rw[O0 ω]at c;have a:=aR (b:=[B true]) (aY.enc_fr (fo n)) ⟨trivial,trivial⟩;rw[show aY.enc .own (fo n)=_ from Ek n n]at a |-;refine fO 28 [(7,4,[16,17,18,19])] Tryz.func400 rfl ?_ (.inr a)
 repeat'(first|refine gO ?_|(conv=>whnf);first|refine C9 ?_|refine C6 (c) ?_)
 (conv=>whnf)
 refine CC (ι:=Nat) (λk=>[(0,.hold .one [I ((n:Nat))]),(2,.hold .box [.z,.z]),(4,.hold .box [.s .own (List.replicate k [.s .own (List.replicate 16 [I 0])]),.s .own (List.replicate k [B false])]),(5,.hold .one [I ((k:Nat):Int)])]) (λk=>k<=n) (λk=>n - k) (0) ?_ (R0 _) λk g=>?_
 ·exact wB
 by_cases h:k<n
 ·repeat'(first|refine gD ?_|(conv=>whnf);first|refine C9 ?_|refine Mk.mk 16 rfl rfl (by decide) (by decide) rfl ?_|refine Ap.sn (λr d=>by rw[(List.mem_replicate.1 d).2];rfl) rfl (by simp;omega) (by decide) (BW _ k) ?_)
  ((conv=>whnf);refine CB (k+1) ω ω ?_;(exact wB))
 ·obtain rfl:k=n:=ω
  repeat'(first|refine gD ?_|(conv=>whnf);first|refine C9 ?_)
  rfl
theorem wq(n:Nat)(e:1<=n/\n<=32):ao Tryz.prog 401 false [.val none [I (n:Nat)]] (.tup [some 1,none]) (aG.enc .own (dx n)++[B true]):=by
 have c:=aD ((n:Nat):Int) 1 32;rw[O0 ω]at c;have a:=aR (b:=[B true]) (aG.enc_fr (dx n)) ⟨trivial,trivial⟩;have d:aG.enc .own (dx n)=[.s .own (List.replicate n [I 0,I 0])]:=by simp[aG.enc,dx,bh.enc,List.map_replicate]
 rw[d]at a |-;refine fO 11 [] Tryz.func401 rfl ?_ (.inr a)
 repeat'(first|refine gO ?_|(conv=>whnf);first|refine C9 ?_|refine C6 (c) ?_|refine Mk.mk n rfl rfl ω (xM ω (by decide)) rfl ?_)
 rfl
theorem td(p f:Nat)(a:1<=p/\p<=32)(b:1<=f/\f<=32):ao Tryz.prog 378 false [.val none [I (p:Nat)],.val none [I (f:Nat)]] (.tup [some 3,none]) (aQ.enc .own ⟨fo f,dx p⟩++[B true]):=by
 refine fO 30 [] Tryz.func378 rfl ?_ (.inr (aR (aQ.enc_fr _) ⟨trivial,trivial⟩))
 repeat'(first|refine gO ?_|(conv=>whnf);first|refine C9 ?_|refine C6 (tJ f b) ?_|refine C6 (wq p a) ?_)
 rfl
theorem uB(p f:Nat)(a:List Int)(b:1<=p/\p<=32)(c:1<=f/\f<=32)(d:a.length<=40/\∀x∈a,0<=x):ao Tryz.prog 350 false [.val none [I (p:Nat)],.val none [I (f:Nat)],.val none (aF .imm a)] (.tup [some 5,none]) (af.enc .own (bB p f a)++[B true]):=by
 have e:=oA b c d;have h:=d.1;have g:=kB (bB p f a) (b6 e);rw[e]at g;refine fO 31 [(2,260,[17,18,19,10,0,1,2,5,3,1000,1005,4,1005,6])] Tryz.func350 rfl ?_ (.inr (aR (af.enc_fr _) ⟨trivial,trivial⟩))
 repeat'(first|refine gO ?_|(conv=>whnf);first|refine C9 ?_|refine C6 (td p f b c) ?_|refine CE (g) ⟨⟨rfl,CN (bB p f a)⟩,trivial⟩ ?_|refine CL (λ_=>rfl) (λ_=>rfl) ω (by decide) ?_|refine CR (λ_=>rfl) (λ_=>rfl) ω (by decide) ?_|refine C9 ?_)
 rfl
def NR(p f t:Nat)(lim:Int)(a:List Int)(k:Nat):ab:={caps (tF p f t lim a) k with Quar:=⟨0,[]⟩}
theorem zy(p f t:Nat)(lim:Int)(a:List Int)(c:1<=p/\p<=32)(d:1<=f/\f<=32)(e:1<=t/\t<=4)(g:0<=lim/\lim<=1000)(h:a.length<=40/\∀x∈a,0<=x):ao Tryz.prog 299 false [.val none [I (p:Nat)],.val none [I (f:Nat)],.val none [I (t:Nat)],.val none [I lim],.val none (aF .imm a)] (.tup [some 24,none]) (ab.enc .own (tF p f t lim a)++[B true]):=by
 have b:=aD lim 0 1000;rw[O0 g]at b;refine fO 66 [(9,4,[54,55,56,57])] Tryz.func299 rfl ?_ (.inr (aR (ab.enc_fr _) ⟨trivial,trivial⟩))
 repeat'(first|refine gO ?_|(conv=>whnf);first|refine C9 ?_|refine C6 (uB p f a c d h) ?_|refine C6 (zR t e) ?_|refine C6 (b) ?_|refine C6 (pR) ?_)
 (conv=>whnf)
 refine CC (ι:=Nat) (λk=>[(2,.hold .one [I ((t:Nat))]),(10,.hold .box [.z,.z,.z,I 0,.z,.z,.z,.z,.z,.z,.z,.z,I 0,.z,I 0,I 0,I 0,I 0,B false,I 0,I 0,.z,I 0,I 0]),(16,.hold .box (ab.enc .own (NR p f t lim a k))),(17,.hold .one [I ((k:Nat):Int)])]) (λk=>k<=t) (λk=>t - k) (0) ?_ (R0 _) λk i=>?_
 ·exact wB
 by_cases j:k<t
 ·repeat'(first|refine gD ?_|(conv=>whnf);first|refine C9 ?_|refine C6 (wn) ?_|refine Ap.sn HP rfl (by rw[W0];show(List.replicate _ eC).length+1<=_;rw[z3];omega) (by decide) (GZ k) ?_)
  ((conv=>whnf);refine CB (k+1) ω ω ?_;(exact wB))
 ·obtain rfl:k=t:=ω
  repeat'(first|refine gD ?_|(conv=>whnf);first|refine C9 ?_|refine C6 (pR) ?_)
  rfl
theorem AG:ao Tryz.prog 300 false [] .agg (ay.enc .own ⟨1,[]⟩):=by
 refine fO 2 [] Tryz.func300 rfl ?_ (.inr (ay.enc_fr _))
 repeat'((conv=>whnf);first|with_reducible (first|refine Lm ?_|refine Wm ω ?_|refine Bn ?_|refine iS.wk rfl ?_)|refine Bt ?_|refine Bu ?_|refine C9 ?_)
 exact⟨rfl,rfl,trivial⟩
theorem wD(c:cr)(h:De c):ao Tryz.prog 239 false [.val (some 5) (cr.enc .imm c)] (.tup [some 26,none]) (bF.enc .own (world0 c)++[B true]):=by
 have a:=zy c.Pages c.Frames c.Threads c.Limit c.Refuse h.p h.f h.t h.l h.r;refine fO 26 [(4,2,[23,24])] Tryz.func239 rfl ?_ (.inr (aR (bF.enc_fr _) ⟨trivial,trivial⟩))
 repeat'(first|refine gO ?_|(conv=>whnf);first|refine C9 ?_|refine C6 (a) ?_|refine C6 (AG) ?_)
 rfl
def np(o:du)(l:List dJ):List C:=[.s o (l.map (dJ.enc o))]
theorem dJ.enc_fr(x:dJ):gg (dJ.enc .own x):=⟨trivial,trivial,trivial,trivial,trivial,trivial⟩
theorem Hn(l:List dJ):gg (np .own l):=⟨⟨.inl λh=>(by cases h),aZ _ _ λy _=>dJ.enc_fr y⟩,trivial⟩
theorem Gu(l:List dJ):d2 (np .own l)=np .imm l:=by simp[d2,np,dJ.enc,<-bT,X4]
theorem Dq(zs:List Int)(c:gN)(ids:Int)(b:iV zs)(p:c.i<=zs.length)(r:1<=ids/\ids<=1000):aO Tryz.prog 243 false [.ptr (gM zs c),.val none [I ids]] [.ptr (gM zs (pW zs c ids).2),.val none [I ids]] .agg (dJ.enc .own (pW zs c ids).1):=by
 have w:=bL p 3;have y:=bL w ids;have d:(jy zs c ids).2.i<=zs.length:=bL y 20;have B:=bN zs c 3 b p (by decide);have C:=bN zs (xu zs c).2 ids b w r.1;have j:=bN zs (Dr zs c ids).2 20 b y (by decide);have H:=b9 zs c (n:=3) (by decide);have J:=b9 zs (xu zs c).2 (n:=ids) r.1;have D:=b9 zs (Dr zs c ids).2 (n:=20) (by decide);have e:=ib zs (jy zs c ids).2 szs b d (by decide);have E:=ib zs (jy zs c ids).2 [5,6] b d (by decide);have F:=ib zs (jy zs c ids).2 [1,30,60,120] b d (by decide);have l:=ib zs (jy zs c ids).2 [1,2,3,10,30] b d (by decide);have g:=bN zs (jy zs c ids).2 4 b d (by decide);have h:=bN zs (bp zs (jy zs c ids).2 4).2 999 b (bL d _) (by decide);have G:=bN zs (jy zs c ids).2 10 b d (by decide);have K:=b9 zs (bp zs (jy zs c ids).2 4).2 (n:=999) (by decide);have L:=b9 zs (jy zs c ids).2 (n:=10) (by decide);change aO _ _ _ _ [.ptr (gM zs (xu zs c).2),_] _ [I (xu zs c).1]at B;change aO _ _ _ _ [.ptr (gM zs (Dr zs c ids).2),_] _ [I (Dr zs c ids).1]at C;change aO _ _ _ _ [.ptr (gM zs (jy zs c ids).2),_] _ [I (jy zs c ids).1]at j;change 0<=(xu zs c).1/\(xu zs c).1<3 at H;change 0<=(Dr zs c ids).1/\(Dr zs c ids).1<ids at J;change 0<=(jy zs c ids).1/\(jy zs c ids).1<20 at D;have o:=dJ.enc_fr (pW zs c ids).1;unfold pW at o |-;generalize jy zs c ids=k at *;generalize Dr zs c ids=n at *;generalize xu zs c=t at *;obtain⟨a,M⟩:=k;dsimp only at d e E F l g h G K L D j o |-;refine fM 77 [(92,[2,0]),(310,[2,1])] [] [(0,0),(0,0)] Tryz.func243 rfl (λu q=>?_) (.inr o)
 repeat'(first|refine gO ?_|(conv=>whnf);first|refine CG (B) (.inl rfl) ?_|refine CG (C) (.inl rfl) ?_|refine CG (j) (.inl rfl) ?_)
 obtain rfl|rfl|rfl|rfl|rfl|rfl|rfl|rfl|rfl|rfl|rfl|rfl|rfl|rfl|rfl|rfl|rfl|rfl|rfl|rfl:=(show a=0\/a=1\/a=2\/a=3\/a=4\/a=5\/a=6\/a=7\/a=8\/a=9\/a=10\/a=11\/a=12\/a=13\/a=14\/a=15\/a=16\/a=17\/a=18\/a=19 by omega)
 ·rw[C8 (show((0:Int))<=6 by decide)]
  repeat'(first|refine gO ?_|(conv=>whnf);first|refine CG (e) (.inl rfl) ?_)
  refine CD rfl rfl ?_;exact wC
 ·rw[C8 (show((1:Int))<=6 by decide)]
  repeat'(first|refine gO ?_|(conv=>whnf);first|refine CG (e) (.inl rfl) ?_)
  refine CD rfl rfl ?_;exact wC
 ·rw[C8 (show((2:Int))<=6 by decide)]
  repeat'(first|refine gO ?_|(conv=>whnf);first|refine CG (e) (.inl rfl) ?_)
  refine CD rfl rfl ?_;exact wC
 ·rw[C8 (show((3:Int))<=6 by decide)]
  repeat'(first|refine gO ?_|(conv=>whnf);first|refine CG (e) (.inl rfl) ?_)
  refine CD rfl rfl ?_;exact wC
 ·rw[C8 (show((4:Int))<=6 by decide)]
  repeat'(first|refine gO ?_|(conv=>whnf);first|refine CG (e) (.inl rfl) ?_)
  refine CD rfl rfl ?_;exact wC
 ·rw[C8 (show((5:Int))<=6 by decide)]
  repeat'(first|refine gO ?_|(conv=>whnf);first|refine CG (e) (.inl rfl) ?_)
  refine CD rfl rfl ?_;exact wC
 ·rw[C8 (show((6:Int))<=6 by decide)]
  repeat'(first|refine gO ?_|(conv=>whnf);first|refine CG (e) (.inl rfl) ?_)
  refine CD rfl rfl ?_;exact wC
 ·rw[C7 (show ¬((7:Int)<=6) by decide),C8 (show((7:Int))<=9 by decide)]
  repeat'(first|refine gO ?_|fail)
  refine CD rfl rfl ?_;exact wC
 ·rw[C7 (show ¬((8:Int)<=6) by decide),C8 (show((8:Int))<=9 by decide)]
  repeat'(first|refine gO ?_|fail)
  refine CD rfl rfl ?_;exact wC
 ·rw[C7 (show ¬((9:Int)<=6) by decide),C8 (show((9:Int))<=9 by decide)]
  repeat'(first|refine gO ?_|fail)
  refine CD rfl rfl ?_;exact wC
 ·rw[C7 (show ¬((10:Int)<=6) by decide),C7 (show ¬((10:Int)<=9) by decide),C8 (show((10:Int))<=12 by decide)]
  repeat'(first|refine gO ?_|(conv=>whnf);first|refine CG (g) (.inl rfl) ?_|refine CG (h) (.inl rfl) ?_)
  refine CD rfl rfl ?_;exact wC
 ·rw[C7 (show ¬((11:Int)<=6) by decide),C7 (show ¬((11:Int)<=9) by decide),C8 (show((11:Int))<=12 by decide)]
  repeat'(first|refine gO ?_|(conv=>whnf);first|refine CG (g) (.inl rfl) ?_|refine CG (h) (.inl rfl) ?_)
  refine CD rfl rfl ?_;exact wC
 ·rw[C7 (show ¬((12:Int)<=6) by decide),C7 (show ¬((12:Int)<=9) by decide),C8 (show((12:Int))<=12 by decide)]
  repeat'(first|refine gO ?_|(conv=>whnf);first|refine CG (g) (.inl rfl) ?_|refine CG (h) (.inl rfl) ?_)
  refine CD rfl rfl ?_;exact wC
 ·rw[C7 (show ¬((13:Int)<=6) by decide),C7 (show ¬((13:Int)<=9) by decide),C7 (show ¬((13:Int)<=12) by decide),C8 (show((13:Int))=13 by decide)]
  repeat'(first|refine gO ?_|(conv=>whnf);first|refine CG (G) (.inl rfl) ?_)
  refine CD rfl rfl ?_;exact wC
 ·rw[C7 (show ¬((14:Int)<=6) by decide),C7 (show ¬((14:Int)<=9) by decide),C7 (show ¬((14:Int)<=12) by decide),C7 (show ¬((14:Int)=13) by decide),C8 (show((14:Int))=14 by decide)]
  repeat'(first|refine gO ?_|(conv=>whnf);first|refine CG (E) (.inl rfl) ?_)
  refine CD rfl rfl ?_;exact wC
 ·rw[C7 (show ¬((15:Int)<=6) by decide),C7 (show ¬((15:Int)<=9) by decide),C7 (show ¬((15:Int)<=12) by decide),C7 (show ¬((15:Int)=13) by decide),C7 (show ¬((15:Int)=14) by decide),C8 (show((15:Int))=15 by decide)]
  repeat'(first|refine gO ?_|fail)
  refine CD rfl rfl ?_;exact wC
 ·rw[C7 (show ¬((16:Int)<=6) by decide),C7 (show ¬((16:Int)<=9) by decide),C7 (show ¬((16:Int)<=12) by decide),C7 (show ¬((16:Int)=13) by decide),C7 (show ¬((16:Int)=14) by decide),C7 (show ¬((16:Int)=15) by decide),C8 (show((16:Int))=16 by decide)]
  repeat'(first|refine gO ?_|(conv=>whnf);first|refine CG (F) (.inl rfl) ?_)
  refine CD rfl rfl ?_;exact wC
 ·rw[C7 (show ¬((17:Int)<=6) by decide),C7 (show ¬((17:Int)<=9) by decide),C7 (show ¬((17:Int)<=12) by decide),C7 (show ¬((17:Int)=13) by decide),C7 (show ¬((17:Int)=14) by decide),C7 (show ¬((17:Int)=15) by decide),C7 (show ¬((17:Int)=16) by decide),C8 (show((17:Int))=17 by decide)]
  repeat'(first|refine gO ?_|fail)
  refine CD rfl rfl ?_;exact wC
 ·rw[C7 (show ¬((18:Int)<=6) by decide),C7 (show ¬((18:Int)<=9) by decide),C7 (show ¬((18:Int)<=12) by decide),C7 (show ¬((18:Int)=13) by decide),C7 (show ¬((18:Int)=14) by decide),C7 (show ¬((18:Int)=15) by decide),C7 (show ¬((18:Int)=16) by decide),C7 (show ¬((18:Int)=17) by decide)]
  repeat'(first|refine gO ?_|(conv=>whnf);first|refine CG (l) (.inl rfl) ?_)
  refine CD rfl rfl ?_;exact wC
 ·rw[C7 (show ¬((19:Int)<=6) by decide),C7 (show ¬((19:Int)<=9) by decide),C7 (show ¬((19:Int)<=12) by decide),C7 (show ¬((19:Int)=13) by decide),C7 (show ¬((19:Int)=14) by decide),C7 (show ¬((19:Int)=15) by decide),C7 (show ¬((19:Int)=16) by decide),C7 (show ¬((19:Int)=17) by decide)]
  repeat'(first|refine gO ?_|(conv=>whnf);first|refine CG (l) (.inl rfl) ?_)
  refine CD rfl rfl ?_;exact wC
theorem zz(zs:List Int)(c:gN)(b:iV zs)(d:c.i<=zs.length):aO Tryz.prog 151 false [.ptr (gM zs c),.val none [I 40]] [.ptr (gM zs (jY zs c).2),.val none [I 40]] .one (np .own (jY zs c).1):=by
 have e:=bN zs c 41 b d (by decide);have g:=b9 zs c (n:=41) (by decide);obtain⟨n,h⟩:=O2 g.1;have a:(bp zs c 41).1.toNat=n:=by rw[h];rfl
 unfold jY;rw[a];rw[h]at e g;refine fM 27 [(92,[2,0]),(243,[2,0])] [] [(0,0),(0,0)] Tryz.func151 rfl (λu q=>?_) (.inr (Hn _))
 repeat'(first|refine gO ?_|(conv=>whnf);first|refine CG (e) (.inl rfl) ?_)
 (conv=>whnf)
 refine CC (ι:=Nat) (λi=>[(0,.hold .box (gM zs (kh zs c i).2)),(5,.hold .one (np .own (kh zs c i).1)),(6,.hold .one [I ((n:Nat):Int)]),(7,.hold .one [I ((i:Nat):Int)])]) (λi=>i<=n) (λi=>n - i) (0) ?_ (R0 _) λi p=>?_
 ·exact wC
 obtain⟨t,-,j⟩:=qn (zs:=zs) (c:=c) d (n:=i) ω;by_cases w:i<n
 ·have k:=Dq zs (kh zs c i).2 (1+(i:Int) / 2) b j ω
  have l:((i:Nat):Int).tdiv 2=(i:Int) / 2:=Int.tdiv_eq_ediv_of_nonneg ω
  repeat'(first|refine gD ?_|(conv=>whnf);first|with_reducible (first|refine CQ l ?_|refine CK ω ?_)|refine CG (k) (.inl rfl) ?_|refine CP (aL λ_=>rfl) (λr o=>by rw[Z0.1 o];rfl) (by simp[aU,d6,dJ.enc]) (by simp;omega) (by simp only[W0];exact xM (by simp;omega) (by decide)) rfl ?_)
  ((conv=>whnf);refine CB (i+1) ω ω ?_)
  repeat'(first|exact trivial|rfl| exact dG _ |exact CH rfl (CH (T0 (C.s du.own) (by simp[kh];rfl)) trivial)|refine CH ?_ ?_|(exact Dl (by first|omega|(simp only;omega)|(simp;omega))))
 ·obtain rfl:i=n:=ω
  repeat'(first|refine gD ?_|fail)
  refine CD rfl rfl ?_;exact wC
def rfs(h:ab):List Int:=h.Kernel.Refuse
theorem yJ(k:af)(p:Int):(fe k p).1.Refuse=k.Refuse:=by unfold fe;split<;>rfl
theorem q7(k:af)(p:Int):∀n,(ci k p n).1.Refuse=k.Refuse
 | 0=>rfl
 | n+1=>by
  unfold ci;split
  ·exact(yJ _ _).trans (q7 k p n)
  ·exact q7 k p n
theorem Jp(h:ab)(i:Nat):rfs (kL h i).1=rfs h:=by unfold kL;split<;>rfl
theorem xB(h:ab)(t c:Nat):rfs (dN h t c).1=rfs h:=by
 unfold dN;split
 ·rfl
 split
 ·rfl
 split
 ·rfl
 split
 ·exact yJ _ _
 ·exact(Jp _ _).trans (yJ _ _)
theorem Gf(h:ab)(t n:Int):rfs (ep h t n).1=rfs h:=by
 unfold ep;split
 ·rfl
 split
 ·rfl
 split
 ·rfl
 split
 ·rfl
 split
 ·split
  ·exact xB _ _ _
  ·exact xB _ _ _
 ·unfold lZ
  split
  ·rfl
  split
  ·exact q7 _ _ _
  ·exact((ix _ _ _).2).trans (q7 _ _ _)
theorem KJ(h:ab)(t i:Nat):rfs (freeT h t i).1=rfs h:=by
 unfold freeT;split
 ·exact(ix _ _ _).2
 split
 ·rfl
 split
 ·exact(fL t _ _).2.2.2.2.2.2.2
 split<;>rfl
theorem yd(t:Nat)(h:ab):∀k,rfs (flushN t h k).1=rfs h
 | 0=>rfl
 | k+1=>((gJ _ (spilt (flushN t h k).1 t k)).2.2.2.2.2.2.2).trans (yd t h k)
theorem Eu{h:ab}(a:bm h [])(b:JI h):∀n,rfs (lb h n).1=rfs h
 | 0=>rfl
 | n+1=>by
  obtain⟨c,d⟩:=ro a b n;unfold lb;split
  ·rename_i e
   unfold qg at e;rw[I0]at e;exact((uK c e.1).2.2.1).trans (Eu a b n)
  ·exact Eu a b n
theorem HA{w:bF}{m:Nat}(h:qM w m)(a:dJ):rfs (kU w a).1.Heap=rfs w.Heap:=by
 unfold kU;split
 ·exact Gf _ _ _
 split
 ·split
  ·rfl
  unfold mi;split
  ·unfold nQ
   split
   ·rfl
   split
   ·exact KJ _ _ _
   ·rfl
  split
  ·unfold lh
   split
   ·rfl
   split
   ·rfl
   split<;>rfl
  ·unfold nG
   split
   ·exact((ix _ _ _).2).trans (oZ _ _ _).2.2
   ·rfl
 split
 ·unfold fk
  split
  ·split<;>rfl
  split
  ·rfl
  split
  ·exact(fL _ _ _).2.2.2.2.2.2.2
  ·exact yd _ _ _
 split
 ·unfold lM
  split
  ·exact(gJ _ _).2.2.2.2.2.2.2
  ·rfl
 split
 ·unfold lB
  split
  ·rfl
  ·show rfs (started w.Heap).1=_
   unfold rfs;rw[(nj h.inv).2.1]
 split
 ·exact Eu h.inv h.ji _
 ·rfl
theorem DN{c:cr}(h:De c)(acts:List dJ):∀n,rfs (xl c acts n).1.Heap=c.Refuse
 | 0=>rfl
 | n+1=>(HA (rj h acts n) _).trans (DN h acts n)
def pC(w:bF):List C:=bv w.Heap++ay.enc .imm w.Ref
theorem LZ(w:bF):d2 (pC w)=bF.enc .imm w:=by
 unfold pC;rw[ec,b8,<-CV,q9,CV]
 rfl
theorem BG(w:bF)(id:Int)(g:w.Heap.Objs.length<=1048576):aO Tryz.prog 302 false [.ptr (pC w),.val none [I id]] [.ptr (pC w),.val none [I id]] .one [I (qy w.Heap id)]:=by
 refine fM 28 [] [] [(0,0),(0,0)] Tryz.func302 rfl (λu q=>?_)
 repeat'(first|refine gO ?_|(conv=>whnf);first|refine C9 ?_)
 (conv=>whnf)
 refine CC (ι:=Nat) (λi=>[(0,.hold .box (pC w)),(1,.hold .one [I (id)]),(5,.hold .one [I ((i:Nat):Int)])]) (λi=>i<=w.Heap.Objs.length/\∀(j:Nat)(z:bH),j<i->w.Heap.Objs[j]? = some z->JE id z=false) (λi=>w.Heap.Objs.length - i) (0) ?_ (⟨R0 _,λj z h=>ω⟩) λi c=>?_
 ·exact wC
 obtain⟨c,b⟩:=c;by_cases d:i<w.Heap.Objs.length
 ·have a:=ah d
  by_cases e:(nth w.Heap.Objs i).Id=id
  ·repeat'(first|refine gA ?_|(conv=>whnf);first|with_reducible refine CA (aa a) ?_|refine C9 ?_|refine CF rfl (aa a) rfl ?_)
   refine CD rfl (T0 (λz=>[I z]) (dQ a (O0 e) b).symm) ?_;exact wC
  ·repeat'(first|refine gA ?_|(conv=>whnf);first|with_reducible refine CA (aa a) ?_|refine C9 ?_|refine CF rfl (aa a) rfl ?_)
   ((conv=>whnf);refine CB (i+1) ⟨ω,dn a (Q0 e) b⟩ ω ?_;(exact wC))
 ·repeat'(first|refine gD ?_|(conv=>whnf);first|refine C9 ?_)
  refine CD rfl (T0 (λz=>[I z]) (gm ω b).symm) ?_;exact wC
theorem cI(y:ab):(bv y).length=24:=rfl
theorem wR(w:bF)(m n:Nat)(h:qM w m)(B:n<=50):aO Tryz.prog 308 false [.ptr (pC w),.val none [I (n:Nat)]] [.ptr (pC ⟨(lb w.Heap n).1,w.Ref⟩),.val none [I (n:Nat)]] .one [I ((lb w.Heap n).2:Nat)]:=by
 refine fM 35 [(368,[2])] [] [(0,0),(0,0)] Tryz.func308 rfl (λu q=>?_)
 repeat'(first|refine gO ?_|(conv=>whnf);first|refine C9 ?_)
 (conv=>whnf)
 refine CC (ι:=Nat) (λi=>[(0,.hold .box (pC ⟨(lb w.Heap i).1,w.Ref⟩)),(1,.hold .one [I ((n:Nat):Int)]),(5,.hold .one [I (((lb w.Heap i).2:Nat):Int)]),(6,.hold .one [I ((i:Nat):Int)])]) (λi=>i<=n/\(lb w.Heap i).2=i) (λi=>n - i) (0) ?_ (⟨R0 _,rfl⟩) λi l=>?_
 ·exact wC
 obtain⟨l,C⟩:=l;obtain⟨o,D⟩:=ro h.inv h.ji i;have b:lb w.Heap (i+1)=if qg (lb w.Heap i).1=true then(mStep (lb w.Heap i).1,(lb w.Heap i).2+1) else lb w.Heap i:=rfl
 have p:=(aC.1 o.ker).2.2.2.2;by_cases E:i<n
 ·cases c:(lb w.Heap i).1.Meshing with
  | true=>
   have y:=(zM _ o c).frame (r:=ay.enc .imm w.Ref) ((cI _).trans (cI _).symm);by_cases g:(lb w.Heap i).1.Kernel.Calls<=99000
   ·have d:qg (lb w.Heap i).1=true:=by unfold qg;rw[c,O0 g];rfl
    rw[C8 d]at b;generalize lb w.Heap i=s at *
    repeat'(first|refine gD ?_|(conv=>whnf);first|refine C9 ?_|refine Bf.t (O0 g) ?_|refine Bf.t c ?_|refine CG (y) (.inl rfl) ?_)
    ((conv=>whnf);refine CB (i+1) ⟨ω,by rw[b];simp only;omega⟩ ω ?_)
    rw[b];exact wC
   ·have d:qg (lb w.Heap i).1=false:=by unfold qg;rw[c,Q0 g];rfl
    have a:∀k,lb w.Heap (i+k)=lb w.Heap i:=λk=>by
     induction k with
     | zero=>rfl
     | succ k j=>show(if qg (lb w.Heap (i+k)).1=true then _ else lb w.Heap (i+k))=_;rw[j,d,C7 (by simp)]
    have e:=a (n - i);rw[show i+(n - i)=n by omega]at e;rw[e];generalize lb w.Heap i=s at *
    repeat'(first|refine gD ?_|(conv=>whnf);first|refine C9 ?_|refine Bf.f (Q0 g) ?_|refine Bf.t c ?_)
    refine CD rfl rfl ?_;exact wC
  | false=>
   have d:qg (lb w.Heap i).1=false:=by unfold qg;rw[c];rfl
   have a:∀k,lb w.Heap (i+k)=lb w.Heap i:=λk=>by
    induction k with
    | zero=>rfl
    | succ k j=>show(if qg (lb w.Heap (i+k)).1=true then _ else lb w.Heap (i+k))=_;rw[j,d,C7 (by simp)]
   have e:=a (n - i);rw[show i+(n - i)=n by omega]at e;rw[e];generalize lb w.Heap i=s at *
   repeat'(first|refine gD ?_|(conv=>whnf);first|refine C9 ?_|refine Bf.f c ?_)
   refine CD rfl rfl ?_;exact wC
 ·obtain rfl:i=n:=ω
  repeat'(first|refine gD ?_|(conv=>whnf);first|refine C9 ?_)
  refine CD rfl rfl ?_;exact wC
theorem Dw{k:af}(a:aA k=true):(aA k&&decide (k.Calls<100000))=decide (k.Calls≠100000):=by
 have:=(aC.1 a).2.2.2.2;rw[a,Bool.true_and,t4,C0,C0];omega
theorem uI(w:bF)(a:dJ)(m:Nat)(h:qM w m)(B:a.Kind=5\/a.Kind=6\/a.Kind=7):aO Tryz.prog 304 false [.ptr (pC w),.val (some 5) (dJ.enc .imm a)] [.ptr (pC ⟨(fk w.Heap a).1,w.Ref⟩),.val (some 5) (dJ.enc .imm a)] .one [I (fk w.Heap a).2]:=by
 have d:=h.inv;have o:=d.nc;have p:w.Heap.Caches.length<=4:=by have:=(d5.1 d.mail).1.2.1;omega
 have C:=ko.of d.mail;have i:=ke w.Heap.Kernel (b6 d.ker);rw[Dw d.ker]at i;have j:=aD a.Thread 0 (w.Heap.Caches.length - 1:Int);unfold fk;refine fM 59 [(361,[2,0]),(362,[2,0])] [(3,267,[15,16,17,18,19,20,21,14,22,23,6,0,1,2,3,4,5,6,7,8,9,10,11,1009,12]),(8,15,[30,31,32,33,34,35,36,37,38,39,40,41,42,43,44])] [(0,0),(0,0)] Tryz.func304 rfl (λu q=>?_);by_cases l:a.Kind=5
 ·rw[C8 l]
  by_cases e:0<=a.Thread/\a.Thread<=w.Heap.Caches.length - 1
  ·have y:nw w.Heap a:=e
   obtain⟨t,g⟩:=O2 e.1;have b:=AD w.Heap.Mail t d.mail ω;rw[<-g]at b;rw[g]at e |-;simp only[I2];rw[g]at b;by_cases c:0<(nth w.Heap.Mail.Buffers t).length
   ·rw[C8 (show nw w.Heap a/\0<(nth w.Heap.Mail.Buffers t).length from⟨y,c⟩)]
    rw[C8 c,O0 c]at b;rw[<-g]at b
    repeat'(first|refine gA ?_|(conv=>whnf);first|with_reducible refine Bf.E (λk=>?_) (λk=>?_)|refine C9 ?_|refine CE (b) ⟨⟨rfl,aH.enc_fz w.Heap.Mail⟩,⟨rfl,rfl⟩,trivial⟩ ?_|refine C9 ?_)
    refine CD rfl rfl ?_;exact wC
   ·rw[C7 (show ¬(nw w.Heap a/\0<(nth w.Heap.Mail.Buffers t).length) from λx=>c x.2)]
    rw[C7 c,Q0 c]at b;rw[<-g]at b
    repeat'(first|refine gA ?_|(conv=>whnf);first|with_reducible refine Bf.E (λk=>?_) (λk=>?_)|refine C9 ?_|refine CE (b) ⟨⟨rfl,aH.enc_fz w.Heap.Mail⟩,⟨rfl,rfl⟩,trivial⟩ ?_|refine C9 ?_)
    refine CD rfl rfl ?_;exact wC
  ·rw[C7 (show ¬(nw w.Heap a/\0<(nth w.Heap.Mail.Buffers a.Thread.toNat).length) from λx=>e x.1)]
   have b:=EB w.Heap.Mail a.Thread d.mail ω
   repeat'(first|refine gA ?_|(conv=>whnf);first|with_reducible refine Bf.E (λk=>?_) (λk=>?_)|refine C9 ?_|refine CE (b) ⟨⟨rfl,aH.enc_fz w.Heap.Mail⟩,⟨rfl,rfl⟩,trivial⟩ ?_|refine C9 ?_)
   refine CD rfl rfl ?_;exact wC
 rw[C7 l];by_cases e:w.Heap.Kernel.Calls≠100000;rotate_left
 ·rw[C8 (show ¬(w.Heap.Kernel.Calls≠100000/\nw w.Heap a) from λx=>e x.1)]
  rw[Q0 e]at i
  repeat'(first|refine gA ?_|(conv=>whnf);first|refine C9 ?_|refine CE (i) ⟨⟨rfl,CN _⟩,trivial⟩ ?_|refine C9 ?_)
  refine CD rfl rfl ?_;exact wC
 rw[O0 e]at i;by_cases c:0<=a.Thread/\a.Thread<=w.Heap.Caches.length - 1;rotate_left
 ·rw[C8 (show ¬(w.Heap.Kernel.Calls≠100000/\nw w.Heap a) from λx=>c x.2)]
  rw[Q0 c]at j
  repeat'(first|refine gA ?_|(conv=>whnf);first|refine C9 ?_|refine CE (i) ⟨⟨rfl,CN _⟩,trivial⟩ ?_|refine C6 (j) ?_|refine C9 ?_)
  refine CD rfl rfl ?_;exact wC
 rw[C7 (show ¬¬(w.Heap.Kernel.Calls≠100000/\nw w.Heap a) from R3 ⟨e,c⟩)];rw[O0 c]at j;obtain⟨t,g⟩:=O2 c.1;by_cases n:a.Kind=6
 ·rw[C8 n]
  have b:=(tg w.Heap t d ω).frame (r:=ay.enc .imm w.Ref) ((cI _).trans (cI _).symm);rw[show a.Thread.toNat=t by omega];rw[<-g]at b
  repeat'(first|refine gA ?_|(conv=>whnf);first|refine C9 ?_|refine CE (i) ⟨⟨rfl,CN _⟩,trivial⟩ ?_|refine C6 (j) ?_|refine CG (b) (.inl rfl) ?_|refine C9 ?_)
  refine CD rfl rfl ?_;exact wC
 ·rw[C7 n]
  have b:=(wV w.Heap t d ω).frame (r:=ay.enc .imm w.Ref) ((cI _).trans (cI _).symm);rw[show a.Thread.toNat=t by omega];rw[<-g]at b
  repeat'(first|refine gA ?_|(conv=>whnf);first|refine C9 ?_|refine CE (i) ⟨⟨rfl,CN _⟩,trivial⟩ ?_|refine C6 (j) ?_|refine CG (b) (.inl rfl) ?_|refine C9 ?_)
  refine CD rfl rfl ?_;exact wC
theorem uN(w:bF)(a:dJ)(i m:Nat)(h:qM w m)(X:m<=900)(G:JM a)(t:i<w.Heap.Objs.length):aO Tryz.prog 303 false [.ptr (pC w),.val (some 5) (dJ.enc .imm a),.val none [I (i:Nat)]] [.ptr (pC (mi w a i).1),.val (some 5) (dJ.enc .imm a),.val none [I (i:Nat)]] .one [I (mi w a i).2]:=by
 have e:=h.inv;have b:=ah t;have M:=rk e (am t);have N:=lN e (am t) (k:=0);have O:1<=(nth w.Heap.Objs i).Size/\(nth w.Heap.Objs i).Size<=1000:=by
  rcases e.oow _ (am t) with⟨s,P,Y,Z⟩|⟨l,H,d,c⟩
  ·have hc:=aE (e.L.sok s P)
   have:=pq (n:=(nth w.Heap.Objs i).Size) ω;omega
  ·have h8:=cx (e.L.lok l H)
   omega
 have g:=ke w.Heap.Kernel (b6 e.ker);rw[Dw e.ker]at g;have Q:=G.k;have R:=G.p;have S:=G.v;unfold mi;refine fM 126 [(354,[2,0,0]),(356,[2,0,0]),(358,[2,0,0])] [(6,7,[29,30,31,32,33,34,35]),(8,269,[40,41,42,43,44,45,46,47,39,48,49,50,51,0,1,2,3,4,5,6,7,8,9,10,11,12,13,1010]),(13,10,[62,63,64,65,66,67,68,69,70,71]),(15,273,[76,77,78,79,80,81,82,83,84,85,86,87,75,88,89,90,91,0,1,2,3,4,5,6,7,8,9,10,11,12,13,14,15,16,17,1014]),(17,15,[93,94,95,96,97,98,99,100,101,102,103,104,105,106,107]),(19,271,[112,113,114,115,116,117,118,119,120,121,111,122,123,124,125,0,1,2,3,4,5,6,7,8,9,10,11,12,13,14,15,1012])] [(0,0),(0,0),(0,0)] Tryz.func303 rfl (λu q=>?_);by_cases J:a.Kind=2
 ·rw[C8 J]
  unfold nQ;by_cases d:w.Heap.Kernel.Calls=100000
  ·rw[C8 d]
   rw[Q0 (R3 d)]at g
   repeat'(first|refine gA ?_|(conv=>whnf);first|with_reducible refine CA (aa b) ?_|refine C9 ?_|refine CE (g) ⟨⟨rfl,CN _⟩,trivial⟩ ?_|refine CF rfl (aa b) rfl ?_|refine C9 ?_)
   refine CD rfl rfl ?_;exact wC
  rw[C7 d];rw[O0 d]at g;have C:=(LS w.Heap i a.Thread e t).frame (r:=ay.enc .imm w.Ref) ((cI _).trans (cI _).symm);by_cases c:0<=a.Thread/\a.Thread<=w.Heap.Caches.length - 1
  ·rw[C8 (show nw w.Heap a from c)]
   rw[C8 c,C8 c]at C;have T:=y1 w.Ref (nth w.Heap.Objs i).Id m h.ref ω;generalize freeT w.Heap a.Thread.toNat i=f at C |-;by_cases o:f.2=0
   ·rw[C8 o]
    repeat'(first|refine gA ?_|(conv=>whnf);first|with_reducible (first|refine CA (aa b) ?_|refine Bf.E (λj=>?_) (λj=>?_))|refine C9 ?_|refine CE (g) ⟨⟨rfl,CN _⟩,trivial⟩ ?_|refine CF rfl (aa b) rfl ?_|refine CG (C) (.inl rfl) ?_|refine Cl.sh T rfl ?_|refine C9 ?_)
    refine CD rfl rfl ?_;exact wC
   ·rw[C7 o]
    repeat'(first|refine gA ?_|(conv=>whnf);first|with_reducible (first|refine CA (aa b) ?_|refine Bf.E (λj=>?_) (λj=>?_))|refine C9 ?_|refine CE (g) ⟨⟨rfl,CN _⟩,trivial⟩ ?_|refine CF rfl (aa b) rfl ?_|refine CG (C) (.inl rfl) ?_|refine C9 ?_)
    refine CD rfl rfl ?_;exact wC
  ·rw[C7 (show ¬nw w.Heap a from c)]
   rw[C7 c,C7 c]at C
   repeat'(first|refine gA ?_|(conv=>whnf);first|with_reducible (first|refine CA (aa b) ?_|refine Bf.E (λj=>?_) (λj=>?_))|refine C9 ?_|refine CE (g) ⟨⟨rfl,CN _⟩,trivial⟩ ?_|refine CF rfl (aa b) rfl ?_|refine CG (C) (.inl rfl) ?_|refine C9 ?_)
   refine CD rfl rfl ?_;exact wC
 rw[C7 J];by_cases K:a.Kind=3
 ·rw[C8 K]
  unfold lh;have D:=aD a.At 0 ((nth w.Heap.Objs i).Size - 1);by_cases d:0<=a.At/\a.At<=(nth w.Heap.Objs i).Size - 1;rotate_left
  ·rw[C8 d]
   rw[Q0 d]at D
   repeat'(first|refine gA ?_|(conv=>whnf);first|with_reducible (first|refine CA (aa b) ?_|refine Bf.E (λj=>?_) (λj=>?_))|refine C9 ?_|refine CF rfl (aa b) rfl ?_|refine C6 (D) ?_|refine C9 ?_)
   refine CD rfl rfl ?_;exact wC
  rw[C7 (R3 d)];rw[O0 d]at D;have F:=(wE w.Heap i a.At a.Value e t d).frame (r:=ay.enc .imm w.Ref) (by split<;>rfl);have U:=lN e (am t) d;by_cases c:(ar w.Heap.Kernel.Machine.Table (((nth w.Heap.Objs i).Addr+a.At) / 16)).Mode=1
  ·rw[C8 c]
   rw[C8 (.inl c),C8 c]at F
   repeat'(first|refine gA ?_|(conv=>whnf);first|with_reducible (first|refine CA (aa b) ?_|refine Bf.E (λj=>?_) (λj=>?_))|refine C9 ?_|refine CF rfl (aa b) rfl ?_|refine C6 (D) ?_|refine CG (F) (.inl rfl) ?_|refine C9 ?_)
   refine CD rfl rfl ?_;exact wC
  rw[C7 c];by_cases o:0<=a.Value/\a.Value<=999;rotate_left
  ·rw[C8 o]
   rw[C8 (.inr o),C7 c,C8 o]at F
   repeat'(first|refine gA ?_|(conv=>whnf);first|with_reducible (first|refine CA (aa b) ?_|refine Bf.E (λj=>?_) (λj=>?_))|refine C9 ?_|refine CF rfl (aa b) rfl ?_|refine C6 (D) ?_|refine CG (F) (.inl rfl) ?_|refine C9 ?_)
   refine CD rfl rfl ?_;exact wC
  rw[C7 (R3 o)];rw[C7 (λx=>x.elim c λy=>y o),C7 c,C7 (R3 o)]at F;obtain⟨b5,V⟩:=zi w.Ref (nth w.Heap.Objs i).Id a.At a.Value m h.ref ω o
  repeat'(first|refine gA ?_|(conv=>whnf);first|with_reducible (first|refine CA (aa b) ?_|refine Bf.E (λj=>?_) (λj=>?_))|refine C9 ?_|refine CF rfl (aa b) rfl ?_|refine C6 (D) ?_|refine CG (F) (.inl rfl) ?_|refine C6 (V) ?_|refine C9 ?_)
  refine CD rfl rfl ?_;exact wC
 rw[C7 K];unfold nG;by_cases d:w.Heap.Kernel.Calls=100000
 ·rw[C7 (λx=>x.1 d)]
  rw[Q0 (R3 d)]at g
  repeat'(first|refine gA ?_|(conv=>whnf);first|with_reducible refine CA (aa b) ?_|refine C9 ?_|refine CE (g) ⟨⟨rfl,CN _⟩,trivial⟩ ?_|refine CF rfl (aa b) rfl ?_|refine C9 ?_)
  refine CD rfl rfl ?_;exact wC
 rw[O0 d]at g;by_cases c:jV w.Heap i a.Value
 ·rw[C8 ⟨d,c⟩]
  have B:=(qb w.Heap i a.Value e t c.1).frame (r:=ay.enc .imm w.Ref) (by split<;>rfl);rw[C8 c,O0 c]at B;obtain⟨b7,W⟩:=BN w.Ref (nth w.Heap.Objs i).Id a.Value m h.ref ω
  repeat'(first|refine gA ?_|(conv=>whnf);first|with_reducible refine CA (aa b) ?_|refine C9 ?_|refine CE (g) ⟨⟨rfl,CN _⟩,trivial⟩ ?_|refine CF rfl (aa b) rfl ?_|refine CG (B) (.inl rfl) ?_|refine C6 (W) ?_|refine C9 ?_)
  refine CD rfl rfl ?_;exact wC
 ·rw[C7 (λx=>c x.2)]
  by_cases o:xn w.Heap (nth w.Heap.Objs i).Addr<0
  ·have B:=(Ew w.Heap (nth w.Heap.Objs i).Addr a.Value (by have:=e.lens.larges;omega) e.L.lok o).frame (r:=ay.enc .imm w.Ref) ((cI _).trans (cI _).symm)
   repeat'(first|refine gA ?_|(conv=>whnf);first|with_reducible refine CA (aa b) ?_|refine C9 ?_|refine CE (g) ⟨⟨rfl,CN _⟩,trivial⟩ ?_|refine CF rfl (aa b) rfl ?_|refine CG (B) (.inl rfl) ?_|refine C9 ?_)
   refine CD rfl rfl ?_;exact wC
  ·have B:=(qb w.Heap i a.Value e t ω).frame (r:=ay.enc .imm w.Ref) (by split<;>rfl)
   rw[C7 c,Q0 c]at B
   repeat'(first|refine gA ?_|(conv=>whnf);first|with_reducible refine CA (aa b) ?_|refine C9 ?_|refine CE (g) ⟨⟨rfl,CN _⟩,trivial⟩ ?_|refine CF rfl (aa b) rfl ?_|refine CG (B) (.inl rfl) ?_|refine C9 ?_)
   refine CD rfl rfl ?_;exact wC
theorem qM.fit{w:bF}{m:Nat}(h:qM w m)(a:iw w.Heap.Kernel.Refuse):ab.sml w.Heap/\ab.wf w.Heap:=
 ⟨(h.inv.fit a (ko.of h.inv.mail).sml).sml,h.inv.wf a⟩
theorem DU(w:bF)(a:dJ)(m:Nat)(h:qM w m)(K:m<=900)(L:iw w.Heap.Kernel.Refuse)(p:JM a):aO Tryz.prog 240 false [.ptr (pC w),.val (some 5) (dJ.enc .imm a)] [.ptr (pC (kU w a).1),.val (some 5) (dJ.enc .imm a)] .one [I (kU w a).2]:=by
 have i:=h.inv;have M:=p.k;have O:=p.n;have j:=i.nums;unfold cm at j;rw[C0]at j;unfold kU;refine fM 123 [(143,[2,0,0]),(302,[2,0]),(303,[2,0,0]),(304,[2,0]),(306,[2,0]),(307,[2]),(308,[2,0])] [(3,265,[13,14,15,16,17,18,19,21,22,0,1,2,3,4,5,6,7,8,9,10,11,1010,12]),(5,269,[26,27,28,29,30,31,32,33,25,34,35,36,37,0,1,2,3,4,5,6,7,8,9,10,11,12,13,1010]),(19,21,[62,63,64,65,66,67,68,69,70,71,72,73,74,75,76,77,78,79,80,81,82]),(21,5,[86,87,88,89,90])] [(0,0),(0,0)] Tryz.func240 rfl (λu q=>?_);by_cases F:a.Kind=1
 ·rw[C8 F]
  have c:=(xk w.Heap a.Thread a.N i).frame (r:=ay.enc .imm w.Ref) ((cI _).trans (cI _).symm);by_cases e:(ep w.Heap a.Thread a.N).2.2=0
  ·rw[C8 e]
   have y:1<=a.N/\a.N<=1000:=by
    refine Classical.byContradiction λB=>?_
    unfold ep at e;rw[C8 B]at e;split at e
    ·exact absurd (show(5:Int)=0 from e) (by decide)
    split at e
    ·exact absurd (show(1:Int)=0 from e) (by decide)
    exact absurd (show(2:Int)=0 from e) (by decide)
   have o:=wS w.Ref a.N m h.ref ω y;generalize ep w.Heap a.Thread a.N=f at c e |-
   repeat'(first|refine gA ?_|(conv=>whnf);first|with_reducible refine Bf.E (λb=>?_) (λb=>?_)|refine C9 ?_|refine CG (c) (.inl rfl) ?_|refine C6 (o) ?_|refine C9 ?_)
   refine CD rfl rfl ?_;exact wC
  ·rw[C7 e]
   generalize ep w.Heap a.Thread a.N=f at c e |-
   repeat'(first|refine gA ?_|(conv=>whnf);first|with_reducible refine Bf.E (λb=>?_) (λb=>?_)|refine C9 ?_|refine CG (c) (.inl rfl) ?_|refine C9 ?_)
   refine CD rfl rfl ?_;exact wC
 rw[C7 F];by_cases G:a.Kind=2\/a.Kind=3\/a.Kind=4
 ·rw[C8 G]
  have c:=BG w a.N (by have:=i.lens.objs;omega);by_cases e:qy w.Heap a.N<0
  ·rw[C8 e]
   repeat'(first|refine gA ?_|(conv=>whnf);first|with_reducible refine Bf.E (λb=>?_) (λb=>?_)|refine C9 ?_|refine CG (c) (.inl rfl) ?_)
   all_goals first|omega|skip
   all_goals
    refine CD rfl rfl ?_;exact wC
  ·rw[C7 e]
   obtain⟨P,S,T⟩:=fg (JE a.N) w.Heap.Objs (by unfold qy at e;omega);have o:=uN w a (qy w.Heap a.N).toNat m h K p P;rw[show(((qy w.Heap a.N).toNat:Nat):Int)=qy w.Heap a.N by omega]at o
   repeat'(first|refine gA ?_|(conv=>whnf);first|with_reducible refine Bf.E (λb=>?_) (λb=>?_)|refine C9 ?_|refine CG (c) (.inl rfl) ?_|refine CG (o) (.inl rfl) ?_)
   all_goals first|omega|skip
   all_goals
    refine CD rfl rfl ?_;exact wC
 rw[C7 G];by_cases C:a.Kind=5\/a.Kind=6\/a.Kind=7
 ·rw[C8 C]
  have c:=uI w a m h C
  repeat'(first|refine gA ?_|(conv=>whnf);first|with_reducible refine Bf.E (λb=>?_) (λb=>?_)|refine C9 ?_|refine CG (c) (.inl rfl) ?_)
  all_goals first|omega|skip
  all_goals
   refine CD rfl rfl ?_;exact wC
 rw[C7 C];by_cases H:a.Kind=8
 ·rw[C8 H]
  unfold lM;have d:=ke w.Heap.Kernel (b6 i.ker);rw[Dw i.ker]at d;have c:=aD a.N 0 1000;by_cases g:w.Heap.Kernel.Calls≠100000;rotate_left
  ·rw[C7 (λx=>g x.1)]
   rw[Q0 g]at d
   repeat'(first|refine gA ?_|(conv=>whnf);first|with_reducible refine Bf.E (λb=>?_) (λb=>?_)|refine C9 ?_|refine CE (d) ⟨⟨rfl,CN _⟩,trivial⟩ ?_|refine C9 ?_)
   refine CD rfl rfl ?_;exact wC
  rw[O0 g]at d;by_cases l:0<=a.N/\a.N<=1000;rotate_left
  ·rw[C7 (λx=>l x.2.1)]
   rw[Q0 l]at c
   repeat'(first|refine gA ?_|(conv=>whnf);first|with_reducible refine Bf.E (λb=>?_) (λb=>?_)|refine C9 ?_|refine CE (d) ⟨⟨rfl,CN _⟩,trivial⟩ ?_|refine C6 (c) ?_|refine C9 ?_)
   refine CD rfl rfl ?_;exact wC
  rw[O0 l]at c;by_cases D:w.Heap.Clock+a.N<=1000000
  ·rw[C8 ⟨g,l,D⟩]
   have o:=(y5 w.Heap a.N i l D).frame (r:=ay.enc .imm w.Ref) ((cI _).trans (cI _).symm)
   repeat'(first|refine gA ?_|(conv=>whnf);first|with_reducible refine Bf.E (λb=>?_) (λb=>?_)|refine C9 ?_|refine CE (d) ⟨⟨rfl,CN _⟩,trivial⟩ ?_|refine C6 (c) ?_|refine CG (o) (.inl rfl) ?_|refine C9 ?_)
   refine CD rfl rfl ?_;exact wC
  ·rw[C7 (λx=>D x.2.2)]
   repeat'(first|refine gA ?_|(conv=>whnf);first|with_reducible refine Bf.E (λb=>?_) (λb=>?_)|refine C9 ?_|refine CE (d) ⟨⟨rfl,CN _⟩,trivial⟩ ?_|refine C6 (c) ?_|refine C9 ?_)
   refine CD rfl rfl ?_;exact wC
 rw[C7 H];by_cases J:a.Kind=9
 ·rw[C8 J]
  unfold lB;obtain⟨Q,R⟩:=h.fit L;have d:=Am w.Heap Q R;rw[show gn w.Heap=true from i.to]at d;cases g:w.Heap.Meshing with
  | true=>
   rw[C8 rfl]
   repeat'(first|refine gA ?_|(conv=>whnf);first|with_reducible refine Bf.E (λb=>?_) (λb=>?_)|refine C9 ?_|refine Bf.t g ?_|refine C9 ?_)
   refine CD rfl rfl ?_;exact wC
  | false=>
   rw[C7 (by simp)];have c:=(wo w.Heap i).frame (r:=ay.enc .imm w.Ref) ((cI _).trans (cI _).symm);cases l:(started w.Heap).2<;>rw[l]at c
   ·rw[C7 (by simp)]
    repeat'(first|refine gA ?_|(conv=>whnf);first|with_reducible refine Bf.E (λb=>?_) (λb=>?_)|refine C9 ?_|refine Bf.f g ?_|refine CE (d) ⟨⟨rfl,b8 w.Heap⟩,trivial⟩ ?_|refine CG (c) (.inl rfl) ?_|refine C9 ?_)
    refine CD rfl rfl ?_;exact wC
   ·rw[C8 rfl]
    repeat'(first|refine gA ?_|(conv=>whnf);first|with_reducible refine Bf.E (λb=>?_) (λb=>?_)|refine C9 ?_|refine Bf.f g ?_|refine CE (d) ⟨⟨rfl,b8 w.Heap⟩,trivial⟩ ?_|refine CG (c) (.inl rfl) ?_|refine C9 ?_)
    refine CD rfl rfl ?_;exact wC
 rw[C7 J];have k10:a.Kind=10:=ω
 have d:=aD a.N 0 50;by_cases g:0<=a.N/\a.N<=50
 ·rw[C8 ⟨k10,g⟩]
  rw[O0 g]at d;obtain⟨n,B⟩:=O2 g.1;have c:=wR w m n h ω;rw[show a.N.toNat=n by omega];rw[<-B]at c
  repeat'(first|refine gA ?_|(conv=>whnf);first|with_reducible refine Bf.E (λb=>?_) (λb=>?_)|refine C9 ?_|refine C6 (d) ?_|refine CG (c) (.inl rfl) ?_|refine C9 ?_)
  refine CD rfl rfl ?_;exact wC
 ·rw[C7 (λx=>g x.2)]
  rw[Q0 g]at d
  repeat'(first|refine gA ?_|(conv=>whnf);first|with_reducible refine Bf.E (λb=>?_) (λb=>?_)|refine C9 ?_|refine C6 (d) ?_|refine C9 ?_)
  refine CD rfl rfl ?_;exact wC
theorem y9(w:bF)(h1:ab.sml w.Heap)(a:ay.sml w.Ref):ao Tryz.prog 241 false [.val (some 26) (bF.enc .imm w)] .agg (bF.enc .own w):=by
 have b:=Aa w.Heap h1;have c:=dA w.Ref a;refine fO 10 [(1,5,[3,4,5,6,7])] Tryz.func241 rfl ?_ (.inr (bF.enc_fr _))
 repeat'(first|refine gO ?_|(conv=>whnf);first|refine C6 (b) ?_|refine C6 (c) ?_|refine C9 ?_)
 rfl
theorem z7(c:cr)(acts:List dJ)(h:De c)(d:iw c.Refuse)(n:∀a∈acts,JM a)(D:acts.length<=80):ao Tryz.prog 149 false [.val (some 5) (cr.enc .imm c),.val none (np .imm acts)] (.tup [some 26,none]) (bF.enc .own (xl c acts acts.length).1++aF .own (xl c acts acts.length).2):=by
 have o:=wD c h;refine fP 42 [(240,[2,0]),(2000005,[6,21,25])] [] Tryz.func149 rfl ?_ (.inr (aR (bF.enc_fr _) (bM _)))
 repeat'(first|refine gD ?_|(conv=>whnf);first|refine C6 (o) ?_|refine D0.mk rfl rfl rfl ?_)
 (conv=>whnf)
 refine CC (ι:=Nat) (λi=>[(1,.hold .one (np .imm acts)),(4,.hold .box [.z,.z,.z,I 0,.z,.z,.z,.z,.z,.z,.z,.z,I 0,.z,I 0,I 0,I 0,I 0,B false,I 0,I 0,.z,I 0,I 0,I 0,.z]),(6,.hold .box (pC (xl c acts i).1)),(8,.hold .one (aF .own (xl c acts i).2)),(9,.hold .one [I ((i:Nat):Int)])]) (λi=>i<=acts.length) (λi=>acts.length - i) (0) ?_ (R0 _) λi p=>?_
 ·repeat'(first|exact trivial|rfl |exact mV q|exact dG _|refine CH ?_ ?_|(exact Dl (by first|omega|(simp only;omega)|(simp;omega))))
 have e:=rj h acts i;have b:=DN h acts i;have g:(xl c acts i).2.length=i:=by
  clear e b p
  induction i with
  | zero=>rfl
  | succ k t=>show((xl c acts k).2++[_]).length=_;rw[W2,t];rfl
 by_cases j:i<acts.length
 ·have l:=ah j
  have u:=DU (xl c acts i).1 (nth acts i) i e ω (by unfold rfs at b;rw[b];exact d) (n _ (am j))
  repeat'(first|refine gD ?_|(conv=>whnf);first|with_reducible refine CA (aa l) ?_|refine CF rfl (aa l) rfl ?_|refine CG (u) (.inl rfl) ?_|refine CP cF (λr d=>by rw[Z0.1 d];rfl) (by simp[aU,d6]) (by simp;omega) (by simp only[W0];exact xM (by simp;omega) (by decide)) rfl ?_)
  ((conv=>whnf);refine CB (i+1) ω ω ?_)
  repeat'(first|exact trivial|rfl| exact dG _ |exact CH rfl (CH (T0 (C.s du.own) (by simp[xl,rI])) trivial)|refine CH ?_ ?_|(exact Dl (by first|omega|(simp only;omega)|(simp;omega))))
 ·obtain rfl:i=acts.length:=ω
  have w:=e.fit (by unfold rfs at b;rw[b];exact d);have y:=y9 (xl c acts acts.length).1 w.1 (e.ref.sml ω)
  repeat'(first|refine gD ?_|(conv=>whnf);first|refine CE (y) ⟨⟨rfl,LZ _⟩,trivial⟩ ?_)
  rfl
theorem B2(zs:List Int)(c:gN):iw (my zs c).Refuse:=by
 show iw (mN zs 4 0 [] (zc zs c).2).1;have key:∀(f i:Nat)(out:List Int)(c:gN),(∀x∈out,lw x)->∀x∈(mN zs f i out c).1,lw x:=by
  intro f
  induction f with
  | zero=>intro i out c h;exact h
  | succ f b=>
   intro i out c h;unfold mN;split
   ·refine b _ _ _ λx a=>?_
    rcases Q2.1 a with a|a
    ·exact h x a
    ·rw[Z0.1 a]
     have:=b9 zs (bp zs c 4).2 (n:=12) (by decide);exact⟨ω,ω⟩
   ·exact h
 exact⟨by
   have d:∀(f i:Nat)(out:List Int)(c:gN),out.length+f<=4->(mN zs f i out c).1.length<=4:=by
     intro f
     induction f with
     | zero=>intro i out c h;exact h
     | succ f b=>
       intro i out c h;unfold mN;split
       · exact b _ _ _ (by simp only[W2,List.length_singleton];omega)
       · show out.length<=4;omega
   have:=d 4 0 [] (zc zs c).2 (R2 _);omega,key 4 0 [] _ (λx a=>by cases a)⟩
theorem wF(zs:List Int)(a:iV zs):aO Tryz.prog 61 false [.ptr (gM zs (mK zs))] [.ptr (gM zs (jY zs (ed zs)).2)] .agg (bF.enc .own (drawn zs)):=by
 have b:(mK zs).i<=zs.length:=R0 _;obtain⟨g,d⟩:=nz b;have o:=b9 zs (ed zs) (n:=41) (by decide);obtain⟨p,h,-⟩:=qn (zs:=zs) (c:=ed zs) d (n:=(bp zs (ed zs) 41).1.toNat) ω;have e:=vc zs (mK zs) a b;have j:=zz zs (ed zs) a d;have k:=z7 (my zs (mK zs)) (jY zs (ed zs)).1 g (B2 zs _) h (by show(kh zs (ed zs) _).1.length<=80;omega);have l:drawn zs=(xl (my zs (mK zs)) (jY zs (ed zs)).1 (jY zs (ed zs)).1.length).1:=rfl;rw[l];change aO _ _ _ _ [.ptr (gM zs (ed zs))] _ _ at e;generalize my zs (mK zs)=cf at *;generalize r:jY zs (ed zs)=A at *;generalize t:xl cf A.1 A.1.length=R at *;refine fM 14 [(150,[2]),(151,[2,0])] [] [(0,0)] Tryz.func61 rfl (λu q=>?_) (.inr (bF.enc_fr _))
 repeat'(first|refine gO ?_|(conv=>whnf);first|refine CG (e) (.inl rfl) ?_|refine CG (j) (.inl rfl) ?_|refine CE (k) ⟨⟨rfl,cr.enc_fz _⟩,⟨rfl,Gu _⟩,trivial⟩ ?_)
 refine CD rfl rfl ?_;exact wC
def NE(z:List Int):List C:=[.s .imm (z.map rU)]
theorem Au(zs:List Int)(b:iV zs):p9 Tryz.prog 62 true [.val none (NE zs)] .box (gM zs (mK zs)):=by
 have r:=b.1;have e:IntKind.i64.wrap (98801+(zs.length:Nat))=w64 (98801+(zs.length:Nat)):=rfl;have g:ox zs 0=98801+(zs.length:Nat):=by show w64 _=_;rw[<-e];exact eK ω ω
 have a:=T0 I g;refine NC (n:=32) (t:=2) (mo:=[]) (tb:=[]) Tryz.func62 (by kernel_rfl) rfl (by kernel_rfl) (by rfl) rfl ?_
 repeat'(first|refine gO ?_|fail)
 (conv=>whnf)
 refine CC (ι:=Nat) (λi=>[(0,.hold .one (NE zs)),(3,.hold .one [I (ox zs i)]),(4,.hold .one [I ((i:Nat):Int)])]) (λi=>i<=min zs.length 4000) (λi=>min zs.length 4000 - i) (0) ?_ (R0 _) λi u=>?_
 ·repeat'(first|exact trivial|rfl |exact mV a|exact dG _|refine CH ?_ ?_|(exact Dl (by first|omega|(simp only;omega)|(simp;omega))))
 have h:IntKind.i64.wrap (ox zs i*131)=w64 (ox zs i*131):=rfl;have j:IntKind.i64.wrap (w64 (ox zs i*131)+nth zs i)=w64 (w64 (ox zs i*131)+nth zs i):=rfl;have k:IntKind.i64.wrap (w64 (w64 (ox zs i*131)+nth zs i)+7)=w64 (w64 (w64 (ox zs i*131)+nth zs i)+7):=rfl;have l:IntKind.i64.wrap (BitVec.ofInt IntKind.i64.bits (w64 (w64 (w64 (ox zs i*131)+nth zs i)+7)) &&& BitVec.ofInt IntKind.i64.bits 1073741823).toNat=ox zs (i+1):=rfl;by_cases c:i<zs.length/\i<4000
 ·have d:=ah c.1
  have w:=b.2 _ (am c.1);generalize ox zs i=H at *;generalize o:ox zs (i+1)=H2 at *
  repeat'(first|refine gD ?_|(conv=>whnf);first|with_reducible (first|refine CA (aa d) ?_|refine CI h ?_|refine CI j ?_|refine CI k ?_|refine CI l ?_)|refine CF rfl (aa d) rfl ?_)
  ((conv=>whnf);refine CB (i+1) ω ω ?_)
  rw[o];exact wC
 ·obtain rfl:i=min zs.length 4000:=ω
  have p:mK zs = ⟨0,ox zs (min zs.length 4000)⟩:=rfl;rw[p];generalize ox zs (min zs.length 4000)=H at *
  repeat'(first|refine gD ?_|(conv=>whnf);first|with_reducible refine Bf.D (λq=>?_) (λq=>?_))
  all_goals rfl
theorem tR(zs:List Int)(a:iV zs):ao Tryz.prog 16 false [.val none (NE zs)] .agg (bF.enc .own (drawn zs)):=by
 have b:=Au zs a;have c:=wF zs a;refine fP 6 [(61,[2])] [] Tryz.func16 rfl ?_ (.inr (bF.enc_fr _))
 repeat'(first|refine gO ?_|(conv=>whnf);first|refine Cl.g b (.inr rfl) ?_|refine CG (c) (.inl rfl) ?_)
 rfl
def cls(h:ab):Int:=h.Kernel.Calls
theorem zV(k:af)(p:Int):(fe k p).1.Calls=k.Calls+1:=by unfold fe;split<;>rfl
theorem Ay(k:af)(p:Int):∀n:Nat,(ci k p n).1.Calls<=k.Calls+n
 | 0=>by show k.Calls<=k.Calls+0;omega
 | n+1=>by
  have a:=Ay k p n;unfold ci;split
  ·refine z4 (I4 (zV (ci k p n).1 (p+(n:Nat)))) ?_
   omega
  ·omega
theorem Jy(h:ab)(i:Nat):cls (kL h i).1=cls h:=by unfold kL;split<;>rfl
theorem Gc(h:ab)(t c:Nat):cls (dN h t c).1<=cls h+1:=by
 unfold dN;split
 ·show cls h<=_;omega
 split
 ·show cls h<=_;omega
 split
 ·show cls h<=_;omega
 split
 ·exact I4 (zV _ _)
 ·exact I4 ((Jy _ _).trans (zV _ _))
theorem GG(h:ab)(t n:Int)(a:cls h<=99001):cls (ep h t n).1<=99001:=by
 unfold ep;split
 ·exact a
 rename_i d;have c:cls h<=90000:=by unfold cls;omega
 split
 ·exact a
 split
 ·exact a
 rename_i e;split
 ·exact a
 split
 ·have:=Gc h t.toNat (aN n).toNat
  split
  ·show cls (dN h t.toNat (aN n).toNat).1<=_;omega
  ·show cls (dN h t.toNat (aN n).toNat).1<=_;omega
 ·have f:(jR n:Int)<=63:=by unfold jR;omega
  unfold lZ;split
  ·exact a
  have b:=Ay h.Kernel (a7 h.Free (jR n:Nat)).2.1 (jR n);unfold cls at c;split
  ·exact z4 b ω
  ·exact z4 (I4 (ix _ _ _).1) (z4 b ω)
theorem JO(h:ab)(t i:Nat):cls (freeT h t i).1=cls h:=by
 unfold freeT;split
 ·exact(ix _ _ _).1
 split
 ·rfl
 split
 ·exact(fL t _ _).2.2.1
 split<;>rfl
theorem xW(t:Nat)(h:ab):∀k,cls (flushN t h k).1=cls h
 | 0=>rfl
 | k+1=>((gJ _ (spilt (flushN t h k).1 t k)).2.2.1).trans (xW t h k)
theorem K9{h:ab}(a:bm h [])(b:JI h)(c:cls h<=99001):∀n,cls (lb h n).1<=99001
 | 0=>c
 | n+1=>by
  obtain⟨d,f⟩:=ro a b n;unfold lb;split
  ·rename_i e
   unfold qg at e;rw[I0,C0]at e;exact z4 ((uK d e.1).2.1) ω
  ·exact K9 a b c n
theorem HL{w:bF}{m:Nat}(h:qM w m)(a:dJ)(b:cls w.Heap<=99001):cls (kU w a).1.Heap<=99001:=by
 unfold kU;split
 ·exact GG _ _ _ b
 split
 ·split
  ·exact b
  unfold mi;split
  ·unfold nQ
   split
   ·exact b
   split
   ·exact z4 (I4 (JO _ _ _)) b
   ·exact b
  split
  ·unfold lh
   split
   ·exact b
   split
   ·exact b
   split<;>exact b
  ·unfold nG
   split
   ·exact z4 (I4 (((ix _ _ _).1).trans (oZ _ _ _).2.1)) b
   ·exact b
 split
 ·unfold fk
  split
  ·split<;>exact b
  split
  ·exact b
  split
  ·exact z4 (I4 (fL _ _ _).2.2.1) b
  ·exact z4 (I4 (xW _ _ _)) b
 split
 ·unfold lM
  split
  ·exact z4 (I4 (gJ _ _).2.2.1) b
  ·exact b
 split
 ·unfold lB
  split
  ·exact b
  ·show cls (started w.Heap).1<=_
   unfold cls;rw[(nj h.inv).2.1];exact b
 split
 ·exact K9 h.inv h.ji b _
 ·exact b
theorem JR{c:cr}(h:De c)(acts:List dJ):∀n,cls (xl c acts n).1.Heap<=99001
 | 0=>by show(0:Int)<=99001;decide
 | n+1=>HL (rj h acts n) _ (JR h acts n)
set_option maxHeartbeats 2000000
set_option maxHeartbeats 2000000
set_option maxHeartbeats 2000000
set_option maxHeartbeats 2000000
set_option maxHeartbeats 2000000
set_option maxHeartbeats 2000000
theorem AR(zs:List Int):iw (drawn zs).Heap.Kernel.Refuse:=by
 have a:(mK zs).i<=zs.length:=R0 _;have:=DN (nz a).1 (jY zs (ed zs)).1 (jY zs (ed zs)).1.length;unfold rfs at this;show iw (xl _ _ _).1.Heap.Kernel.Refuse;rw[this];exact B2 zs _
theorem J0(zs:List Int):(drawn zs).Heap.Kernel.Calls<=99001:=JR (nz (R0 _)).1 _ _
theorem Hg(zs:List Int):ab.sml (drawn zs).Heap/\ab.wf (drawn zs).Heap:=(Db zs).fit (AR zs)
theorem MO(zs:List Int)(a:zs.length<=9223372036854775807):ao Tryz.prog 15 false [.val none (NE zs)] .one [B (decide ((zs.length:Int) > 1048576))]:=by
 refine fO 6 [] Tryz.func15 rfl ?_
 repeat'(first|refine gO ?_|fail)
 rfl
def npg(h:ab):Nat:=h.Kernel.Machine.Table.Entries.length
theorem Ae(k:af)(p:Int):(fe k p).1.Machine.Table.Entries.length=k.Machine.Table.Entries.length:=by unfold fe;split;exact rfl;exact C1 ..
theorem qw(k:af)(p:Int):∀n,(ci k p n).1.Machine.Table.Entries.length=k.Machine.Table.Entries.length
 | 0=>rfl
 | n+1=>by
  unfold ci;split
  ·exact(Ae _ _).trans (qw k p n)
  ·exact qw k p n
theorem JG(h:ab)(i:Nat):npg (kL h i).1=npg h:=by unfold kL;split<;>rfl
theorem yw(h:ab)(t c:Nat):npg (dN h t c).1=npg h:=by
 unfold dN;split
 ·rfl
 split
 ·rfl
 split
 ·rfl
 split
 ·exact Ae _ _
 ·exact(JG _ _).trans (Ae _ _)
theorem Hf(h:ab)(t n:Int):npg (ep h t n).1=npg h:=by
 unfold ep;split
 ·rfl
 split
 ·rfl
 split
 ·rfl
 split
 ·rfl
 split
 ·split
  ·exact yw _ _ _
  ·exact yw _ _ _
 ·unfold lZ
  split
  ·rfl
  split
  ·exact qw _ _ _
  ·exact((ew _ _ _).1).trans (qw _ _ _)
theorem Bd(h:ab)(i:Nat)(a:Int):npg (freeS h i a)=npg h:=by
 unfold freeS;split
 ·exact(j9 _ _).1
 ·rfl
theorem Ka(t:Nat)(h:ab)(a:Int):npg (recyc t h a)=npg h:=by
 unfold recyc;split
 ·rfl
 ·exact Bd _ _ _
theorem rd(t:Nat):∀(az:List Int)(h:ab),npg (recycs t h az)=npg h
 | [],_=>rfl
 | a::az,h=>(rd t az (recyc t h a)).trans (Ka t h a)
theorem rV:∀(az:List Int)(h:ab),npg (freeAs h az)=npg h
 | [],_=>rfl
 | a::az,h=>(rV az (freeA h a)).trans (Bd _ _ _)
theorem H0(h:ab)(t i:Nat):npg (freeT h t i).1=npg h:=by
 unfold freeT;split
 ·exact(ew _ _ _).1
 split
 ·rfl
 split
 ·exact rd t _ _
 split<;>rfl
theorem xD(t:Nat)(h:ab):∀k,npg (flushN t h k).1=npg h
 | 0=>rfl
 | k+1=>(rV _ (spilt (flushN t h k).1 t k)).trans (xD t h k)
theorem J7{h:ab}(a:bm h [])(b:h.Meshing=true):npg (mStep h)=npg h:=(JS.of a b).len
theorem Er{h:ab}(a:bm h [])(b:JI h):∀n,npg (lb h n).1=npg h
 | 0=>rfl
 | n+1=>by
  obtain⟨c,d⟩:=ro a b n;unfold lb;split
  ·rename_i e
   unfold qg at e;rw[I0]at e;exact(J7 c e.1).trans (Er a b n)
  ·exact Er a b n
theorem HJ{w:bF}{m:Nat}(h:qM w m)(a:dJ):npg (kU w a).1.Heap=npg w.Heap:=by
 unfold kU;split
 ·exact Hf _ _ _
 split
 ·split
  ·rfl
  unfold mi;split
  ·unfold nQ
   split
   ·rfl
   split
   ·exact H0 _ _ _
   ·rfl
  split
  ·unfold lh
   split
   ·rfl
   split
   ·rfl
   split<;>rfl
  ·unfold nG
   split
   ·exact((ew _ _ _).1).trans (T0 (λt:aG=>t.Entries.length) (oZ _ _ _).1)
   ·rfl
 split
 ·unfold fk
  split
  ·split<;>rfl
  split
  ·rfl
  split
  ·exact rd _ _ _
  ·exact xD _ _ _
 split
 ·unfold lM
  split
  ·exact rV _ _
  ·rfl
 split
 ·unfold lB
  split
  ·rfl
  ·show npg (started w.Heap).1=_
   unfold npg;rw[(nj h.inv).2.1]
 split
 ·exact Er h.inv h.ji _
 ·rfl
theorem Jg{c:cr}(h:De c)(acts:List dJ):∀n,npg (xl c acts n).1.Heap=npg (xl c acts 0).1.Heap
 | 0=>rfl
 | n+1=>(HJ (rj h acts n) _).trans (Jg h acts n)
theorem Kh(zs:List Int):npg (drawn zs).Heap<=12:=by
 have a:(mK zs).i<=zs.length:=R0 _;have e:=Jg (nz a).1 (jY zs (ed zs)).1 (jY zs (ed zs)).1.length;have b:=b9 zs (mK zs) (n:=7) (by decide);change npg (drawn zs).Heap=(dx (my zs (mK zs)).Pages).Entries.length at e;have c:(dx (my zs (mK zs)).Pages).Entries.length=(6+(bp zs (mK zs) 7).1).toNat:=z3 ..;omega
def iU(h:ab)(i:Nat):ab × Bool:=if(nth h.Spans i).Bits=0/\dZ h (nth h.Spans i).Page=false then(giveP h i,true) else(h,false)
theorem Ef{h:ab}(b:bm h []){i:Nat}(c:i<h.Spans.length):bm (iU h i).1 []/\(iU h i).1.Kernel.Refuse=h.Kernel.Refuse/\(iU h i).1.Mail=h.Mail:=by
 unfold iU;split
 ·rename_i e
  obtain⟨o,d,f⟩:=b.giveSpan c e.1 (λg=>by
    have a:=e.2;unfold dZ at a;rw[g]at a;simp only[Bool.true_and,Bool.or_eq_false_iff,Z3]at a;exact a)
  have j:giveP h i = {h with Kernel:=cb h.Kernel (nth h.Spans i).Page,Spans:=dele h.Spans i,Free:=o}:=by unfold giveP;rw[d];rfl
  exact⟨j ▸ f,(j9 _ _).2.2,rfl⟩
 ·exact⟨b,rfl,rfl⟩
theorem wT(h:ab)(i:Nat)(l:ab.sml h)(c:bm h [])(o:h.Kernel.Calls≠100000)(d:i<h.Spans.length):ao Tryz.prog 33 false [.val (some 24) (ab.enc .imm h),.val none [I (nth h.Spans i).Page]] (.tup [some 24,none]) (ot (iU h i).1++[B (iU h i).2]):=by
 have a:=c.lens;have p:=a.spans;have q:=aE (c.L.sok _ (am d));have b:=ah d;have j:=v8 h l;have e:=ka h (nth h.Spans i).Page ω;rw[oh c.L d]at e;have g:=na h l;rw[rH,c.to]at g;have k:=He h (nth h.Spans i).Page;have r:=wU h i c.ker o (by have:=a.free;omega) d ω ω;unfold iU;by_cases n:(nth h.Spans i).Bits=0
 ·cases t:dZ h (nth h.Spans i).Page<;>rw[t]at k
  ·rw[C8 ⟨n,rfl⟩]
   refine fP 44 [(105,[2,0])] [] Tryz.func33 rfl ?_ (.inr (aR (tG _) ⟨trivial,trivial⟩))
   repeat'(first|refine gA ?_|(conv=>whnf);first|refine C9 ?_|refine C6 (j) ?_|refine C6 (e) ?_|refine C6 (g) ?_|refine CA (aa b) ?_|refine CF rfl (aa b) rfl ?_|refine C6 (k) ?_|refine CG (r) (.inl rfl) ?_)
   rfl
  ·rw[C7 (λx=>by cases x.2)]
   refine fP 44 [(105,[2,0])] [] Tryz.func33 rfl ?_ (.inr (aR (tG _) ⟨trivial,trivial⟩))
   repeat'(first|refine gA ?_|(conv=>whnf);first|refine C9 ?_|refine C6 (j) ?_|refine C6 (e) ?_|refine C6 (g) ?_|refine CA (aa b) ?_|refine CF rfl (aa b) rfl ?_|refine C6 (k) ?_)
   rfl
 ·rw[C7 (λx=>n x.1)]
  refine fP 44 [(105,[2,0])] [] Tryz.func33 rfl ?_ (.inr (aR (tG _) ⟨trivial,trivial⟩))
  repeat'(first|refine gA ?_|(conv=>whnf);first|refine C9 ?_|refine C6 (j) ?_|refine C6 (e) ?_|refine C6 (g) ?_|refine CA (aa b) ?_|refine CF rfl (aa b) rfl ?_)
  rfl
theorem xt(h:ab)(p:Int)(c:ab.sml h)(a:h.Spans.length<=1048576)(e:eA h p = -1):ao Tryz.prog 33 false [.val (some 24) (ab.enc .imm h),.val none [I p]] (.tup [some 24,none]) (ot h++[B false]):=by
 have d:=v8 h c;have b:=ka h p a;rw[e]at b;refine fP 44 [(105,[2,0])] [] Tryz.func33 rfl ?_ (.inr (aR (tG _) ⟨trivial,trivial⟩))
 repeat'(first|refine gD ?_|(conv=>whnf);first|refine C9 ?_|refine C6 (d) ?_|refine C6 (b) ?_)
 rfl
theorem Given_law(zs:List Int)(q:zs.length<=9223372036854775807/\∀y∈zs,0<=y/\y<=255):ao Tryz.prog 7 false [.val none (NE zs)] .one [B true]:=by
 have c:=MO zs q.1;by_cases r:(zs.length:Int) > 1048576
 ·rw[O0 r]at c
  refine fO 92 [(8,268,[25,26,27,28,29,30,31,32,24,33,34,6,0,1,2,3,4,5,6,7,8,9,10,11,12,1010,13]),(9,25,[35,36,37,38,39,40,41,42,43,44,45,46,47,48,49,50,51,52,53,54,55,56,57,58,59])] Tryz.func7 rfl ?_
  repeat'(first|refine gO ?_|(conv=>whnf);first|refine C9 ?_|refine C6 (c) ?_)
  rfl
 rw[Q0 r]at c;have H:iV zs:=⟨ω,q.2⟩
 have cD:=tR zs H;have a:=(Db zs).inv;obtain⟨d,J⟩:=Hg zs;have g:=AR zs;have K:=J0 zs;have h:=Kh zs;generalize drawn zs=w at *;have L:w.Heap.Kernel.Calls≠100000:=ω
 have b:=a.lens;have i:w.Heap.Spans.length<=1048576:=by have:=b.spans;omega
 have u:=na w.Heap d;rw[rH,a.to]at u;have M:eA w.Heap 31 = -1:=by
  have j:¬0<=dm (gf 31) w.Heap.Spans:=λN=>by
   obtain⟨O,P,-⟩:=fg (gf 31) w.Heap.Spans N;have Q:(nth w.Heap.Spans (dm (gf 31) w.Heap.Spans).toNat).Page=31:=of_decide_eq_true P;have C:=a.pg.bnd _ (dl (am O));rw[Q]at C;unfold npg at h;change (31:Int)<((w.Heap.Kernel.Machine.Table.Entries.length:Nat):Int) at C;omega
  unfold eA;rcases ki (gf 31) w.Heap.Spans with e|⟨n,-,e,-⟩
  ·exact e
  ·exact absurd (by rw[e];omega) j
 have R:=xt w.Heap 31 d i M;refine fO 92 [(8,268,[25,26,27,28,29,30,31,32,24,33,34,6,0,1,2,3,4,5,6,7,8,9,10,11,12,1010,13]),(9,25,[35,36,37,38,39,40,41,42,43,44,45,46,47,48,49,50,51,52,53,54,55,56,57,58,59])] Tryz.func7 rfl ?_
 repeat'(first|refine gO ?_|(conv=>whnf);first|refine C9 ?_|refine C6 (c) ?_|refine C6 (cD) ?_)
 (conv=>whnf)
 refine CC (ι:=Nat) (λk=>[(4,.hold .box (ab.enc .own w.Heap)),(5,.hold .one [I ((k:Nat):Int)])]) (λk=>k<=w.Heap.Spans.length) (λk=>w.Heap.Spans.length - k) (0) ?_ (R0 _) λk hk=>?_
 ·exact wC
 by_cases l:k<w.Heap.Spans.length
 ·have D:=ah l
  have S:=wT w.Heap k d a L l;obtain⟨F,T,U⟩:=Ef a l;have V:=(F.fit (by rw[T];exact g) (by rw[U];exact d.2.2.2.2.2.2.1)).sml;have G:=na (iU w.Heap k).1 V;rw[rH,F.to]at G;have o:=EY (iU w.Heap k).1;have W:dZ w.Heap (nth w.Heap.Spans k).Page=(w.Heap.Meshing&&(decide ((nth w.Heap.Spans k).Page=w.Heap.Job.Plan.Keep) || decide ((nth w.Heap.Spans k).Page=w.Heap.Job.Plan.Move))):=rfl;have Y:(iU w.Heap k).2=(decide ((nth w.Heap.Spans k).Bits=0)&&!dZ w.Heap (nth w.Heap.Spans k).Page):=by
   unfold iU;cases e:dZ w.Heap (nth w.Heap.Spans k).Page<;>by_cases Z:(nth w.Heap.Spans k).Bits=0<;>simp[Z]
  generalize iU w.Heap k=X at *;cases p:w.Heap.Meshing<;>by_cases e2:(nth w.Heap.Spans k).Page=w.Heap.Job.Plan.Keep<;>by_cases e3:(nth w.Heap.Spans k).Page=w.Heap.Job.Plan.Move<;>by_cases e5:(nth w.Heap.Spans k).Bits=0
  all_goals
   repeat'(first|refine gA ?_|(conv=>whnf);first|with_reducible refine Bf.E (λhq=>?_) (λhq=>?_)|refine C9 ?_|refine CA (aa D) ?_|refine CF rfl (aa D) rfl ?_|refine CE (S) ⟨⟨rfl,ab.enc_fz _⟩,⟨rfl,rfl⟩,trivial⟩ ?_|refine CE (G) ⟨⟨rfl,o⟩,trivial⟩ ?_|refine Bf.t p ?_|refine Bf.f p ?_|refine Bf.f (by rw[Y,W];simp[p,e2,e3,e5]) ?_)
   ((conv=>whnf);refine CB (k+1) ω ω ?_;(exact wC))
 obtain rfl:k=w.Heap.Spans.length:=ω
 repeat'(first|refine gD ?_|(conv=>whnf);first|refine C9 ?_|refine CE (R) ⟨⟨rfl,ab.enc_fz _⟩,⟨rfl,rfl⟩,trivial⟩ ?_|refine CE (u) ⟨⟨rfl,ab.enc_fz _⟩,trivial⟩ ?_)
 rfl
open Go.RowKit Go.ChangeShapes Go.WideShapes Go.Deep
def ALL(w:World):ac:=λb _=>b<w.heap.size
def Pa{H:Type}(e:TypeId × Value->H)(P:Program)(w:World)(t n:Nat){α:Type}(enc:α->List C)(c:α->Prop):Prop:=
 ∀(fuel:Nat)(b:List Value)(x:DataW H × List MemPlace),DataW.trod e P w 0 (λ_=>true) true fuel t b=some x->b.length=n/\∃a,c a/\(enc a).length=n/\cG w (ALL w) NO (enc a) (λj=>b.getD j undef)
section
variable{H:Type}{e:TypeId × Value->H}{P:Program}{w:World}
theorem yU{S F:ac}{c:C}{u:Nat->Value}(h:dK w S F c (u 0)):cG w S F [c] u:=
 ⟨λ_=>F,λj e a=>by cases j with
   | zero=>simp at a;subst a;exact h
   | succ j=>simp at a,λ_ _ _ _ h=>h,λj f a b d=>by simp at a b;omega⟩
theorem pick{α β:Type}(n:Nat){Q:Nat->β->Prop}(h:∀i,i<n->∃b,Q i b):∃l:List β,l.length=n/\∀i b,l[i]? = some b->Q i b:=by
 induction n with
 | zero=>exact⟨[],rfl,λi b h=>by simp at h⟩
 | succ n c=>
  obtain⟨l,d,e⟩:=c λi a=>h i ω
  obtain⟨b,f⟩:=h n ω;refine⟨l++[b],by simp[d],λi g a=>?_⟩;by_cases j:i<n
  ·rw[X3 ω]at a;exact e i g a
  ·rw[Y3 ω]at a
   have:i - l.length=0:=by
    have:=(V1.1 a).1;simp at this;omega
   rw[this]at a;simp at a;subst a;rw[show i=n by omega];exact f
theorem Ht{t T n:Nat}{α:Type}{enc:α->List C}{U:α->Prop}(V:Pa e P w T n enc U)(ht:P.underlying t=some (.slice T))(hn:P.cellsOf T=n)(p:0<n) :
  Pa e P w t 1 (λxs:List α=>[.s .imm (xs.map enc)]) (λxs=>xs.length<=9223372036854775807/\∀y∈xs,U y):=by
 intro fuel cs x h;rcases open_slice ht h with⟨rfl,-⟩|⟨k,len,cap,m,n',D,Pl,rfl,-,hl,hm,K,-,u⟩
 ·exact⟨rfl,[],⟨by simp,by simp⟩,rfl,yU (.nil _ _ _ trivial)⟩
 ·simp only[if_true]at K
  subst K;have L:0<m->k.spot=none:=λW=>by
   obtain⟨E,M,N⟩:=u 0 W;rw[hn]at M;obtain⟨_,X,F⟩:=World.cells?_some M;have:=F 0 p;rw[U1 ω]at this;have:=World.cell?_spot this;simpa[Addr.add] using this
  have key:∀i,i<len->∃a,U a/\(enc a).length=n/\(∀d,d<n->∃z,cel w k.block (k.off+(i*n+d))=some z)/\k.spot=none/\cG w (ALL w) NO (enc a) (λd=>(cel w k.block (k.off+(i*n+d))).getD undef):=λi hil=>by
   have g:=L ω;obtain⟨E,M,N⟩:=u i ω;rw[hn]at M;obtain⟨h1,a,h3,h4,h5⟩:=V _ _ _ N;obtain⟨_,X,F⟩:=World.cells?_some M;have O:∀d,k.add d = ⟨k.block,k.off+d,none⟩:=λd=>by
    obtain⟨b,o,sp⟩:=k;simp only at g;subst g;unfold Addr.add;split<;>simp_all
   have A:∀d,d<n->cel w k.block (k.off+(i*n+d))=E[d]?:=λd J=>by
    have:=F d J;rw[Go.Deep.add_add,O]at this;exact this
   refine⟨a,h3,h4,λd J=>⟨_,by rw[A d J,U1 ω]⟩,g,h5.congr λd J=>?_⟩;show(cel w k.block (k.off+(i*n+d))).getD undef=E.getD d undef;rw[A d ω,List.getD]
  obtain⟨l,Q,B⟩:=pick (α:=α) len key;refine⟨rfl,l,⟨by simp only[maxLen]at hm;omega,λy R=>?_⟩,rfl,yU ?_⟩
  ·obtain⟨i,G⟩:=List.mem_iff_getElem?.1 R
   exact(B i y G).1
  ·show dK w (ALL w) NO (.s .imm (l.map enc)) (.slice (some k) len m)
   by_cases h0:len=0
   ·subst h0
    have:l=[]:=W5 Q;subst this;by_cases Y:m=0
    ·subst Y;exact .nil _ _ _ trivial
    ·have g:=L ω
     obtain⟨b,o,sp⟩:=k;simp only at g;subst g;exact .imm _ b o n 0 m [] (λ_=>undef) rfl (λr Z=>by simp at Z) hl (λq hq=>by simp at hq) (λi j r c u=>by simp at u)
   ·obtain⟨y0,hy0⟩ : ∃y,l[0]? = some y:=⟨_,U1 ω⟩
    have g:=(B 0 y0 hy0).2.2.2.1;obtain⟨b,o,sp⟩:=k;simp only at g;subst g;refine .imm _ b o n len m (l.map enc) (λq=>(cel w b (o+q)).getD undef) (by simpa using Q) (λr Z=>?_) hl (λq hq=>?_) (λi j r c u hj=>?_)
    ·obtain⟨y,R,rfl⟩:=V3.1 Z
     obtain⟨i,G⟩:=List.mem_iff_getElem?.1 R;exact(B i y G).2.1
    ·have hqd:q / n<len:=(Nat.div_lt_iff_lt_mul p).2 hq
     obtain⟨y,R⟩ : ∃y,l[q / n]? = some y:=⟨_,U1 ω⟩
     obtain⟨z,S⟩:=(B _ y R).2.2.1 (q % n) (Nat.mod_lt _ p);have J:q / n*n+q % n=q:=by rw[Nat.mul_comm];exact Nat.div_add_mod q n
     rw[J]at S;exact⟨Nj S,by simp only at S |-;rw[S];rfl⟩
    ·rw[U2]at u
     cases H:l[i]? with
     | none=>rw[H]at u;cases u
     | some y=>
      rw[H]at u;simp only[Q4,U0]at u;subst u;obtain⟨f,h1,h2,-⟩:=(B i y H).2.2.2.2;have hjl:=(V1.1 hj).1;exact(h1 j c hj).mono (λ_ _ h=>h) (h2 j hjl)
theorem row_val{S F:ac}{x:Value}{u:Nat->Value}(h:cG w S F [.v x] u):u 0=x:=by
 obtain⟨f,a,-⟩:=h;have:=a 0 _ rfl;cases this
 rfl
end
open Go.RowKit Go.ChangeShapes Go.WideShapes
section
variable{H:Type}{e:TypeId × Value->H}{P:Program}{w:World}
theorem Lj{t:Nat}(b:P.underlying t=some (.int .u8)):Pa e P w t 1 rU (λz=>0<=z/\z<=255):=by
 intro fuel c x h;obtain⟨n,rfl,-,a⟩:=DataW.trod_int b h;refine⟨rfl,n,?_,rfl,yU (.v _ _ rfl)⟩;simp only[Lit.wf,I0,C0]at a;exact a
theorem op_ByteS:Pa e Tryz.prog w 22 1 (λzs:List Int=>[.s .imm (zs.map rU)]) (λzs=>zs.length<=9223372036854775807/\∀y∈zs,0<=y/\y<=255):=Ht (Lj Tryz.underlying5) Tryz.underlying22 (by kernel_rfl) (by decide)
end
end Go.Proofs.YtembpgjjnioagaaGreat.Ab
