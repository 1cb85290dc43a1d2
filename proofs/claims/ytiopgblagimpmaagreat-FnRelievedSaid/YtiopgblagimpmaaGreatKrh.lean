/- Ranges and caches taken, pages mapped, slots taken: the reference's. No condition. -/
import Derived.Test.YtiopgblagimpmaaGreatKrd
import Derived.Test.YtiopgblagimpmaaGreatKrg
import Derived.Test.YtiopgblagimpmaaGreatKrf
import Derived.Test.YtiopgblagimpmaaGreatKre
set_option linter.unusedVariables false
set_option linter.defProp false
set_option linter.unusedSimpArgs false
set_option linter.constructorNameAsVariable false
namespace Go.Proofs.YtiopgblagimpmaaGreat.Ab
open Go.RowKit
set_option maxRecDepth 20000
set_option maxHeartbeats 4000000
def MO(c:aC)(k:Nat):aC.enc .own (tF c k)=[.s .own ((c.a.map (aF .own)).set k (aF .own ((nth c.a k).take ((nth c.a k).length - 1))))]:=by simp[aC.enc,tF,V7]
def Tf(xs:List Int)(n:Nat):(xs.take n).map (rI .W)=(xs.map (rI .W)).take n:=C5
def Uu(c:aC)(k:Nat):List C:=if 0<(nth c.a k).length then aC.enc .own (tF c k)++[I (nth (nth c.a k) ((nth c.a k).length - 1)),B true] else aC.enc .own c++[I (-1),B false]
def TH(c:aC)(k:Nat):hO (Uu c k):=by
 unfold Uu;split
 ·exact aG (aC.enc_fr _) ⟨trivial,trivial,trivial⟩
 exact aG (aC.enc_fr _) ⟨trivial,trivial,trivial⟩
def x6(c:aC)(k:Nat)(h:bz c=true)(u:k<=3):zzA 366 false [.val (some 1) (aC.enc .W c),.val none [I (k:Nat)]] (.tup [some 1,none,none]) (Uu c k):=by
 obtain⟨w,j⟩:=eQ h;have n:aC.sml c:=⟨ω,λl r=>by have:=j l r;show l.length<=1048576;omega⟩
 have d:=yL c k n;rw[h,O0 ω]at d;have o:=js c n;have b:=qf (c:=c) (k:=k) ω;have t:=j _ (am (xs:=c.a) (i:=k) ω);have a:=TH c k;unfold Uu at a |-;by_cases p:0<(nth c.a k).length
 ·rw[CD p]at a |-
  have q:=ao (xs:=nth c.a k) (i:=(nth c.a k).length - 1) ω;have e:(nth c.a k)[(((nth c.a k).length:Int) - 1).toNat]? = some (nth (nth c.a k) ((nth c.a k).length - 1)):=by rw[show(((nth c.a k).length:Int) - 1).toNat=(nth c.a k).length - 1 by omega];exact q
  have g:((((nth c.a k).length:Nat):Int) - 1)=(((nth c.a k).length - 1:Nat):Int):=ω
  rw[MO]at a |-;refine fO 54 [(5,268,[32,33,34,35,36,37,38,39,40,41,42,44,0,1,2,3,4,5,6,7,8,9,10,11,1000,1001,1002,12,13]),(6,265,[45,46,47,48,49,50,51,52,53,0,1,2,3,4,5,6,7,8,9,1001,1002,1003,1004,1005,1006,1007,1008,10,11])] Tryz.func366 rfl ?_ (.inr a)
  repeat'(first|refine gB ?_|(conv=>whnf);first|with_reducible refine CE (aa b) ?_|refine CC ?_|refine CK rfl (aa b) rfl ?_|refine C9 (d) ?_|refine C9 (o) ?_|refine CN ω (aa e) ?_|refine CE (aa q) ?_|refine CX ((nth c.a k).length - 1) g (by rw[I1];omega) (aM λ_=>rfl) (Tf _ _) ?_|refine CC ?_|refine CY (λ_=>rfl) (λ_=>rfl) (by rw[C2];omega) (by decide) ?_|refine CR (λ_=>rfl) (λ_=>rfl) (by rw[C2];omega) (by decide) ?_|refine CQ rfl rfl (aa b) rfl (O1 rfl) rfl ?_)
  rfl
 rw[CB p]at a |-;refine fO 54 [(5,268,[32,33,34,35,36,37,38,39,40,41,42,44,0,1,2,3,4,5,6,7,8,9,10,11,1000,1001,1002,12,13]),(6,265,[45,46,47,48,49,50,51,52,53,0,1,2,3,4,5,6,7,8,9,1001,1002,1003,1004,1005,1006,1007,1008,10,11])] Tryz.func366 rfl ?_ (.inr a)
 repeat'(first|refine gB ?_|(conv=>whnf);first|with_reducible refine CE (aa b) ?_|refine CC ?_|refine CK rfl (aa b) rfl ?_|refine C9 (d) ?_|refine C9 (o) ?_)
 rfl
def Un(xs:List a8)(n:Int):List C:=bF .own (ax xs n).1++[I (ax xs n).2.1,B (ax xs n).2.2]
def Tr(xs:List a8)(n:Int):hO (Un xs n):=aG (my _) ⟨trivial,trivial,trivial⟩
def pu(pages:Int)(xs:List a8)(n:Int)(w:0<=pages/\pages<=1048576)(l:bG pages xs=true)(J:1<=n/\n<=1000)(K:xs.length<=4096):zzA 371 false [.val none [I pages],.val none (bF .W xs),.val none [I n]] (.tup [none,none,none]) (Un xs n):=by
 have o:=mI pages xs w ⟨ω,λ_ _=>trivial⟩;rw[l]at o;have p:=(wI l).2;refine fO 98 [(8,21,[31,32,33,34,35,36,37,38,39,40,41,42,43,44,45,46,47,48,49,50,51]),(14,265,[71,72,73,74,76,77,78,79,81,0,1,2,3,5,6,7,8,10,4,1005,1006,1007,1008,1010,9,1010,11,1010,12,13])] Tryz.func371 rfl ?_ (.inr (Tr xs n))
 repeat'(first|refine gE ?_|(conv=>whnf);first|refine CC ?_|refine C9 (o) ?_|refine CR (λ_=>rfl) (λ_=>rfl) ω (by decide) ?_)
 (conv=>whnf)
 refine CG (ι:=Nat) (λi=>[(1,.H .one (bF .W xs)),(2,.H .one [I (n)]),(9,.H .one (bF .own xs)),(10,.H .one [I (jG xs n i)]),(11,.H .one [I ((i:Nat):Int)])]) (λi=>i<=xs.length) (λi=>xs.length - i) (0) ?_ (X0 _) λi y=>?_
 ·exact wC
 have h:=yw xs n i y;by_cases q:i<xs.length
 ·have j:=ao q
  have E:=p _ (am q);have a:jG xs n (i+1)=if n<=(nth xs i).b0/\(jG xs n i<0\/(nth xs i).b0<(nth xs (jG xs n i).toNat).b0) then((i:Nat):Int) else jG xs n i:=rfl
  by_cases r:n<=(nth xs i).b0
  ·by_cases F:jG xs n i<0
   ·rw[CD ⟨r,.inl F⟩]at a
    repeat'(first|refine gE ?_|(conv=>whnf);first|with_reducible (first|refine CE (aa j) ?_|refine Bf.D (λc=>?_) (λc=>?_))|refine CC ?_)
    ((conv=>whnf);refine CF (i+1) ω ω ?_)
    rw[a];exact wC
   have d:=ao (xs:=xs) (i:=(jG xs n i).toNat) ω;by_cases G:(nth xs i).b0<(nth xs (jG xs n i).toNat).b0
   ·rw[CD ⟨r,.inr G⟩]at a
    repeat'(first|refine gE ?_|(conv=>whnf);first|with_reducible (first|refine CE (aa j) ?_|refine CN ω (aa d) ?_|refine Bf.D (λc=>?_) (λc=>?_))|refine CC ?_)
    ((conv=>whnf);refine CF (i+1) ω ω ?_)
    rw[a];exact wC
   rw[CB ω]at a
   repeat'(first|refine gE ?_|(conv=>whnf);first|with_reducible (first|refine CE (aa j) ?_|refine CN ω (aa d) ?_|refine Bf.D (λc=>?_) (λc=>?_))|refine CC ?_)
   ((conv=>whnf);refine CF (i+1) ω ω ?_)
   rw[a];exact wC
  rw[CB ω]at a
  repeat'(first|refine gE ?_|(conv=>whnf);first|with_reducible (first|refine CE (aa j) ?_|refine Bf.D (λc=>?_) (λc=>?_))|refine CC ?_)
  ((conv=>whnf);refine CF (i+1) ω ω ?_)
  rw[a];exact wC
 obtain rfl:i=xs.length:=ω
 change iB xs n = -1\/_ at h;unfold Un ax;rw[show jG xs n xs.length=iB xs n from rfl];by_cases e:iB xs n<0
 ·rw[CD e]
  rw[show iB xs n = -1 from h.resolve_right λg=>by have L:0<=iB xs n:=g.1;omega]
  repeat'(first|refine gE ?_|(conv=>whnf);first|with_reducible refine Bf.D (λc=>?_) (λc=>?_)|refine CC ?_)
  rfl
 rw[CB e];obtain⟨H,t,M⟩:=h.resolve_left ω;change 0<=iB xs n at H;change iB xs n<xs.length at t;obtain⟨b,k⟩:=V3 (show 0<=iB xs n by omega);rw[k]at t |-;simp only[O3];have d:=ao (xs:=xs) (i:=b) ω;have E:=p _ (am (xs:=xs) (i:=b) ω);by_cases u:(nth xs b).b0=n
 ·rw[CD u]
  repeat'(first|refine gB ?_|(conv=>whnf);first|with_reducible (first|refine CE (aa d) ?_|refine Bf.D (λc=>?_) (λc=>?_))|refine CC ?_|refine CX b rfl (by rw[I1];omega) (aM λ_=>rfl) C5 ?_|refine Cb (b+1) rfl (by rw[I1];omega) (aM λ_=>rfl) I5 ?_|refine CY (λ_=>rfl) (λ_=>rfl) (by rw[C2];omega) (by decide) ?_|refine Ap.dele (λ_=>rfl) (λ_=>rfl) ω (by decide) ?_|refine CR (λ_=>rfl) (λ_=>rfl) (by rw[C2];omega) (by decide) ?_|refine CC ?_)
  rfl
 rw[CB u]
 repeat'(first|refine gB ?_|(conv=>whnf);first|with_reducible (first|refine CE (aa d) ?_|refine Bf.D (λc=>?_) (λc=>?_))|refine CC ?_|refine CQ rfl rfl (aa d) rfl (O1 rfl) rfl ?_)
 exact Z0 (λz=>z++[I (nth xs b).At,B true]) (show [C.s dM.own _]=_ from by simp[bF,V7];rfl)
def Pd(k:af)(p:Int)(f:Nat):af.enc .own (sf k p f)=((af.enc .own k).set 1 (.s .own ((k.F.U.a3.map (rB .own)).set f (rB .own true)))).set 2 (.s .own ((k.F.Q.K.map (bi.enc .own)).set p.toNat (bi.enc .own ⟨2,(f:Nat)⟩))):=by
 simp[af.enc,sf,V7]
def EU(k:af)(p:Int)(c:ay k=true)(y:k.Calls≠100000)(o:0<=p/\p<k.F.Q.K.length)(C:(nth k.F.Q.K p.toNat).j=0):zzB 373 false [.ptr (af.enc .own k),.val none [I p]] [.ptr (af.enc .own (newK k p).1),.val none [I p]] .one [B (newK k p).2]:=by
 have E:=bj c;have F:=aO.1 (a7.1 c).2.1;have G:=(bo.1 (a7.1 c).2.2.1).2.2;have H:(ce k).F.Q.K.length<=32:=G;have a:=Et k.F.U ω;have d:=o9 k c y;have g:=eP (ce k) p E.1.2;have l:ac (ce k).F.Q p=nth k.F.Q.K p.toNat:=by unfold ac;exact CD o
 rw[l,C]at g;have h:=aH p 0 ((k.F.Q.K.length:Int) - 1);rw[O0 ω]at h;have r:=ao (xs:=k.F.Q.K) (i:=p.toNat) ω;change ar _ _ _ _ _ [I (sI k)]at a;unfold newK;cases e:refd k<;>rw[e]at d
 ·by_cases j:sI k<0
  ·rw[CD (.inr j)]
   refine fM 56 [(484,[2])] [] [(0,0),(0,0)] Tryz.func373 rfl (λu q=>?_)
   repeat'(first|refine gB ?_|(conv=>whnf);first|with_reducible refine Bf.D (λb=>?_) (λb=>?_)|refine CH (a) ⟨⟨rfl,aW.enc_fz _⟩,trivial⟩ ?_|refine CL (d) (.inl rfl) ?_|refine C9 (h) ?_|refine CH (g) ⟨CT (ce k),⟨rfl,rfl⟩,trivial⟩ ?_)
   refine CJ rfl ?_ ?_
   ·rfl
   exact wC
  rw[CB (by simp[j])];obtain⟨n,t⟩:=G9 j;obtain⟨f,J⟩:=V3 (show 0<=sI k by omega);rw[J]at a n t j |-;simp only[O3]at n t |-;have w:=ao (xs:=k.F.U.a3) (i:=f) n;rw[Pd];refine fM 56 [(484,[2])] [] [(0,0),(0,0)] Tryz.func373 rfl (λu q=>?_)
  repeat'(first|refine gB ?_|(conv=>whnf);first|with_reducible refine Bf.D (λb=>?_) (λb=>?_)|refine CH (a) ⟨⟨rfl,aW.enc_fz _⟩,trivial⟩ ?_|refine CL (d) (.inl rfl) ?_|refine C9 (h) ?_|refine CH (g) ⟨CT (ce k),⟨rfl,rfl⟩,trivial⟩ ?_|refine CE (aa w) ?_|refine CN o.1 (aa r) ?_|refine CQ rfl rfl (aa w) rfl (O1 rfl) rfl ?_|refine CQ rfl rfl (aa r) rfl (O1 rfl) rfl ?_)
  refine CJ rfl ?_ ?_
  ·rfl
  exact wC
 rw[CD (.inl rfl)];refine fM 56 [(484,[2])] [] [(0,0),(0,0)] Tryz.func373 rfl (λu q=>?_)
 repeat'(first|refine gB ?_|(conv=>whnf);first|with_reducible refine Bf.D (λb=>?_) (λb=>?_)|refine CH (a) ⟨⟨rfl,aW.enc_fz _⟩,trivial⟩ ?_|refine CL (d) (.inl rfl) ?_|refine C9 (h) ?_|refine CH (g) ⟨CT (ce k),⟨rfl,rfl⟩,trivial⟩ ?_)
 refine CJ rfl ?_ ?_
 ·rfl
 exact wC
def U3(h:ab):List C:=(bE h).drop 5
def FH(h:ab)(p:Int)(a:ay h.G=true)(b:h.G.Calls≠100000)(c:0<=p/\p<h.G.F.Q.K.length)(d:(nth h.G.F.Q.K p.toNat).j=0):zzB 373 false [.ptr (bE h),.val none [I p]] [.ptr (bE {h with G:=(newK h.G p).1}),.val none [I p]] .one [B (newK h.G p).2]:=
 (EU h.G p a b c d).frame (r:=U3 h) rfl
def Mr(h:ab)(i:Nat):bE (slotT h i)=((bE h).set 14 (I (zY h.b8))).set 6 (.s .own ((h.J.map (au.enc .own)).set i [I (nth h.J i).R,I (nth h.J i).e,I (i9 (nth h.J i).b2 (qU h i))])):=by
 simp[bE,slotT,ry,V7,au.enc]
def tf(h:ab)(E:List Int)(i:Nat)(c:aU h E)(k:i<h.J.length):zzB 368 false [.ptr (bE h),.val none [I (i:Nat)]] [.ptr (bE (qN h i).1),.val none [I (i:Nat)]] .one [I (qN h i).2]:=by
 have F:=c.lens;have G:=F.spans;have d:=ao k;have b:=c.L.sok _ (am k);have e:=eK b;have a:=c.nums;unfold cu at a;rw[C0]at a;have t:=(bo.1 (a7.1 c.ker).2.2.1).2.2;have l:=sP c.L.sok (ps:=aY h (nth h.J i).R) e (aY h (nth h.J i).R).length;change 0<=iI h i/\iI h i<=65535 at l;have w:=nN (nth h.J i).e;have y:=zM h i ⟨ω,λ_ _=>trivial⟩ ⟨by show h.G.F.Q.K.length<=_;omega,λ_ _=>trivial⟩ c.L.sok k;have o:=zy (nth h.J i).e (iI h i) ω;change ar _ _ _ _ _ (aF .own (nQ h i)) at o;have p:=Jy (nth h.J i).e (iI h i);change (nQ h i).length<=16 at p;unfold qN;by_cases B:(nQ h i).length=0
 ·rw[CD B]
  refine fM 68 [] [(2,7,[16,17,18,19,20,21,22]),(7,12,[42,43,44,45,46,47,48,49,50,51,52,53]),(8,11,[56,57,58,59,60,61,62,63,64,65,66])] [(0,0),(0,0)] Tryz.func368 rfl (λu q=>?_)
  repeat'(first|refine gB ?_|(conv=>whnf);first|refine CE (aa d) ?_|refine CK rfl (aa d) rfl ?_|refine C9 (w) ?_|refine CH (y) ⟨⟨rfl,bK h⟩,⟨rfl,rfl⟩,trivial⟩ ?_|refine C9 (o) ?_|refine CC ?_)
  refine CJ rfl rfl ?_;exact wC
 rw[CB B];have H:=B4 (h:=h) (i:=i) ω;obtain⟨C,D,O⟩:=yC H;have J:=(iu (aE b).2.2).2.2.1;have r:=si h.b8 (n:=((nQ h i).length:Nat)) ω;have K:=we h.b8 ((nQ h i).length:Nat) ω ω;have M:=zJ (nth h.J i).b2 (qU h i) e ω;have N:=Ai (ry (nth h.J i) (qU h i)) (qU h i) (EL b ⟨C,D⟩) ⟨C,D⟩;have g:(nQ h i)[(GC h.b8 ((nQ h i).length:Nat)).toNat]? = some (qU h i):=ao ω;have j:((h.J.map (au.enc .own)).set i [I (nth h.J i).R,I (nth h.J i).e,I (i9 (nth h.J i).b2 (qU h i))])[i]? = some [I (nth h.J i).R,I (nth h.J i).e,I (i9 (nth h.J i).b2 (qU h i))]:=nZ k;unfold vL;rw[Mr];refine fM 68 [] [(2,7,[16,17,18,19,20,21,22]),(7,12,[42,43,44,45,46,47,48,49,50,51,52,53]),(8,11,[56,57,58,59,60,61,62,63,64,65,66])] [(0,0),(0,0)] Tryz.func368 rfl (λu q=>?_)
 repeat'(first|refine gB ?_|(conv=>whnf);first|refine CE (aa d) ?_|refine CE j ?_|refine CK rfl (aa g) rfl ?_|refine CK rfl (aa d) rfl ?_|refine CK rfl j rfl ?_|refine C9 (w) ?_|refine CH (y) ⟨⟨rfl,bK h⟩,⟨rfl,rfl⟩,trivial⟩ ?_|refine C9 (o) ?_|refine C9 (K) ?_|refine C9 (M) ?_|refine C9 (N) ?_|refine CN r.1 (aa g) ?_|refine CC ?_|refine CQ rfl rfl (aa d) rfl (O1 rfl) rfl ?_)
 refine CJ rfl ?_ ?_
 ·rfl
 exact wC
variable{i:Nat}{α:Type}
def Ap.ins{e:α->List C}{xs:List α}{y:α}{r:List C}{sz by_:Nat}{K:List (List C)->Prop}(a:r=e y)(b:∀y,(e y).length=sz)(c:∀y,bk (e y)=true)(h:xs.length<=1048576)(d:by_<=1000)(f:K ((xs.take i++y::xs.drop i).map e)):Ap true ((xs.take i).map e++[r]) ((xs.drop i).map e) sz by_ K:=by
 subst a;have g:(xs.take i).length+1+(xs.drop i).length<=3145728:=by rw[C2,C4];omega
 refine CU (λr a=>?_) (aM b) (λ_ r a=>by obtain⟨y,-,rfl⟩:=O5.1 a;exact c y) (by simp only[Z3,I1,List.length_singleton];omega) (by simp only[Z3,I1,List.length_singleton];exact C6 (Nat.mul_le_mul g d) (by decide)) ?_ f
 ·rcases W3.1 a with a|a
  ·exact aM b r a
  rw[V1.1 a];exact b y
 rw[C7,O7,Z6];rfl
def wL{p:α->Bool}{xs:List α}{y:α}(h:lv p xs=i):jV p xs y=xs.take i++y::xs.drop i:=by unfold jV;rw[h]
def JU(h:ab)(c:Int):ab × Int:=
 if(ax h.w 1).2.2=false then(h,-1)
 else if(newK h.G (ax h.w 1).2.1).2=false then({h with G:=(newK h.G (ax h.w 1).2.1).1},-1)
 else(sq h c,(rv h:Nat))
def D7(h:ab)(E:List Int)(c:Nat)(g:aU h E)(J:h.G.Calls<=90000):zzB 369 false [.ptr (bE h),.val none [I (c:Nat)]] [.ptr (bE (JU h c).1),.val none [I (c:Nat)]] .one [I (JU h c).2]:=by
 have B:=g.lens;have K:=B.spans;have L:eZ h<=32:=B.ents;have C:=iJ h;have l:=pu (eZ h:Nat) h.w 1 ⟨ω,ω⟩ g.rng (by decide) (by have:=B.free;omega);unfold Un at l;have d:=jY g (I6 1);unfold JU sq rv;generalize ax h.w 1=r at l d |-;obtain⟨o,p,ok⟩:=r;simp only at l d |-;cases ok with
 | false=>
  rw[CD rfl];refine fM 79 [(373,[2,0]),(2000010,[0,6])] [(1,267,[11,12,13,14,15,16,17,10,18,19,20,0,1,2,3,4,5,6,7,8,9,10,11,1009,1010,12,1010,13])] [(0,0),(0,0)] Tryz.func369 rfl (λu q=>?_)
  repeat'(first|refine gP ?_|(conv=>whnf);first|refine CC ?_|refine CH (C) ⟨bK h,trivial⟩ ?_|refine CH (l) ⟨⟨rfl,rfl⟩,⟨rfl,eD h.w⟩,⟨rfl,rfl⟩,trivial⟩ ?_|refine CC ?_)
  refine CJ rfl rfl ?_;exact wC
 | true=>
  rw[CB (by simp)];obtain⟨M,N,O,V⟩:=d rfl;have F:0<=p/\p<h.G.F.Q.K.length:=⟨M,by have:p+1<=((tbl h).K.length:Nat):=N;unfold tbl at this;omega⟩
  have t:=FH h p g.ker ω F (O p.toNat ω ω);generalize newK h.G p=w at t |-;obtain⟨k,b⟩:=w;simp only at t |-;cases b with
  | false=>
   rw[CD rfl];refine fM 79 [(373,[2,0]),(2000010,[0,6])] [(1,267,[11,12,13,14,15,16,17,10,18,19,20,0,1,2,3,4,5,6,7,8,9,10,11,1009,1010,12,1010,13])] [(0,0),(0,0)] Tryz.func369 rfl (λu q=>?_)
   repeat'(first|refine gP ?_|(conv=>whnf);first|refine CC ?_|refine CH (C) ⟨bK h,trivial⟩ ?_|refine CH (l) ⟨⟨rfl,rfl⟩,⟨rfl,eD h.w⟩,⟨rfl,rfl⟩,trivial⟩ ?_|refine CL (t) (.inl rfl) ?_|refine CC ?_)
   refine CJ rfl rfl ?_;exact wC
  | true=>
   rw[CB (by simp)];refine fM 79 [(373,[2,0]),(2000010,[0,6])] [(1,267,[11,12,13,14,15,16,17,10,18,19,20,0,1,2,3,4,5,6,7,8,9,10,11,1009,1010,12,1010,13])] [(0,0),(0,0)] Tryz.func369 rfl (λu q=>?_)
   repeat'(first|refine gP ?_|(conv=>whnf);first|refine CC ?_|refine CH (C) ⟨bK h,trivial⟩ ?_|refine CH (l) ⟨⟨rfl,rfl⟩,⟨rfl,eD h.w⟩,⟨rfl,rfl⟩,trivial⟩ ?_|refine CL (t) (.inl rfl) ?_|refine CC ?_)
   (conv=>whnf)
   refine CG (ι:=Nat) (λi=>[(0,.H .box (bE {h with G:=k,w:=o})),(1,.H .one [I ((c:Nat):Int)]),(6,.H .one [I (p)]),(8,.H .one [I ((i:Nat):Int)])]) (λi=>i<=h.J.length/\∀(j:Nat)(z:au),j<i->h.J[j]? = some z->H1 p z=false) (λi=>h.J.length - i) (0) ?_ (⟨X0 _,λj z W=>ω⟩) λi g=>?_
   ·exact wC
   obtain⟨P,G⟩:=g;have Q:({h with G:=k,w:=o} : ab).J.length=h.J.length:=rfl;by_cases R:i<h.J.length/\(nth h.J i).R<p
   ·have n:=ao R.1
    repeat'(first|refine gE ?_|(conv=>whnf);first|with_reducible refine CE (aa n) ?_|refine CC ?_|refine CK rfl (aa n) rfl ?_)
    ((conv=>whnf);refine CF (i+1) ⟨ω,fY n (W0 ω) G⟩ ω ?_;(exact wC))
   have a:lv (H1 p) h.J=i:=wX ω G λz H=>by
    have S:=(Z2.1 H).1;have:z=nth h.J i:=(bh H).symm;subst this;exact O0 ω
   have n:i<h.J.length->h.J[i]? = some (nth h.J i):=λT=>ao T
   rw[show addS h k o p (c:Nat) = {h with G:=k,w:=o,J:=h.J.take i++⟨p,(c:Nat),0⟩::h.J.drop i} by unfold addS;rw[wL a],a]
   repeat'(first|refine gE ?_|(conv=>whnf);first|with_reducible (first|refine CE (aa (n ω)) ?_|refine Bf.D (λU=>?_) (λU=>?_))|refine CC ?_|refine CK rfl (aa (n ω)) rfl ?_|refine Hq.mk rfl (xi h.J) rfl ?_|refine CX i rfl (by rw[I1];omega) (aM λ_=>rfl) C5 ?_|refine Cb i rfl (by rw[I1];omega) (aM λ_=>rfl) I5 ?_|refine CR (λ_=>rfl) (λ_=>rfl) (by rw[C2];omega) (by decide) ?_|refine Ap.sn (aM λ_=>rfl) rfl (by rw[I1,C2];omega) (by decide) rfl ?_|refine Ap.ins (e:=au.enc .W) (y:=⟨p,(c:Nat),0⟩) rfl (λ_=>rfl) (λ_=>rfl) ω (by decide) ?_)
   all_goals
    refine CJ rfl rfl ?_;exact wC
variable{h:ab}
def F9{c:Int}(a:i<h.J.length)(b:tj h c i=true)(d:∀j,j<i->tj h c j=false):vr h c=some i:=
 List.find?_range_eq_some.2 ⟨b,List.mem_range.2 a,λj e=>by rw[d j e];rfl⟩
def Ft{c:Int}(a:∀j,j<h.J.length->tj h c j=false):vr h c=none:=
 List.find?_range_eq_none.2 λj b=>by rw[a j b];rfl
def uk{c:Int}(a:tj h c i=false)(b:∀j,j<i->tj h c j=false):∀j,j<i+1->tj h c j=false:=λj d=>by
 by_cases e:j=i
 ·rw[e];exact a
 exact b j ω
def LC(h:ab)(t:Nat)(c:aC):bE {h with S:=h.S.set t c} = (bE h).set 9 (.s .own ((h.S.map (aC.enc .own)).set t (aC.enc .own c))):=by
 simp[bE,V7]
variable{c:Nat}
def PX(b:aU h [])(l:c<=3)(e:h.G.Calls<=90000)(h1:¬(ax h.w 1).2.2=false)(f:¬(newK h.G (ax h.w 1).2.1).2=false):aU (sq h c) []/\rv h<(sq h c).J.length:=by
 have a:(ax h.w 1).2.2=true:=by simpa using h1
 obtain⟨g,i,j,n⟩:=jY b (I6 1) a;have s:=wH.of (p:=(ax h.w 1).2.1) b.ker ω ⟨g,by have:(ax h.w 1).2.1+1<=(h.G.F.Q.K.length:Nat):=i;omega⟩ (j _ ω ω);have d:(newK h.G (ax h.w 1).2.1).2=true:=by simpa using f
 have k:wH h.G (ax h.w 1).2.1 ((newK h.G (ax h.w 1).2.1).1,true):=by rw[<-d];exact s
 exact⟨b.addS (c:=c) ⟨ω,ω⟩ a k,(Dt (H1 (ax h.w 1).2.1) h.J ⟨(ax h.w 1).2.1,c,0⟩).1⟩
def AE(h:ab)(t c:Nat)(o:aU h [])(M:t<h.S.length)(N:c<=3)(p:h.G.Calls<=90000):zzB 221 false [.ptr (bE h),.val none [I (t:Nat)],.val none [I (c:Nat)]] [.ptr (bE (smallA h t c).1),.val none [I (t:Nat)],.val none [I (c:Nat)]] .one [I (smallA h t c).2]:=by
 have E:=o.cach _ (am M);have e:=ao M;have r:=x6 (nth h.S t) c E N;have Q:=o.lens.spans;have B:=o;unfold Uu at r;by_cases F:0<(nth (nth h.S t).a c).length
 ·unfold smallA
  rw[CD F]at r |-;simp only;rw[LC];refine fM 80 [(368,[2,0]),(369,[2,0])] [(3,6,[27,28,29,30,31,32])] [(0,0),(0,0),(0,0)] Tryz.func221 rfl (λu q=>?_)
  repeat'(first|refine gP ?_|(conv=>whnf);first|with_reducible refine CE (aa e) ?_|refine CK rfl (aa e) rfl ?_|refine CH (r) ⟨⟨rfl,aC.enc_fz _⟩,⟨rfl,rfl⟩,trivial⟩ ?_|refine CC ?_|refine CQ rfl rfl (aa e) rfl (O1 rfl) rfl ?_)
  refine CJ rfl rfl ?_;exact wC
 rw[CB F]at r;have d:smallA h t c=match vr h c with
  | some i=>(slotT h i,vL h i)
  | none=>if(ax h.w 1).2.2=false then(h,-1)
   else if(newK h.G (ax h.w 1).2.1).2=false then({h with G:=(newK h.G (ax h.w 1).2.1).1},-1)
   else qN (sq h c) (rv h):=by unfold smallA;exact CB F
 refine fM 80 [(368,[2,0]),(369,[2,0])] [(3,6,[27,28,29,30,31,32])] [(0,0),(0,0),(0,0)] Tryz.func221 rfl (λu q=>?_)
 repeat'(first|refine gP ?_|(conv=>whnf);first|with_reducible refine CE (aa e) ?_|refine CK rfl (aa e) rfl ?_|refine CH (r) ⟨⟨rfl,aC.enc_fz _⟩,⟨rfl,rfl⟩,trivial⟩ ?_|refine CC ?_)
 (conv=>whnf)
 refine CG (ι:=Nat) (λi=>[(0,.H .box (bE h)),(1,.H .one [I ((t:Nat):Int)]),(2,.H .one [I ((c:Nat):Int)]),(10,.H .one [I ((i:Nat):Int)])]) (λi=>i<=h.J.length/\∀j,j<i->tj h c j=false) (λi=>h.J.length - i) (0) ?_ (⟨X0 _,λj W=>ω⟩) λi o=>?_
 ·exact wC
 obtain⟨R,w⟩:=o;by_cases C:i<h.J.length
 ·have l:=ao C
  by_cases O:(nth h.J i).e=c
  ·have y:=wh h (nth h.J i).R
   cases D:fx h (nth h.J i).R with
   | true=>
    rw[D]at y
    repeat'(first|refine gB ?_|(conv=>whnf);first|with_reducible refine CE (aa l) ?_|refine CK rfl (aa l) rfl ?_|refine CH (y) ⟨bK h,⟨rfl,rfl⟩,trivial⟩ ?_)
    ((conv=>whnf);refine CF (i+1) ⟨ω,uk (by unfold tj;rw[D];simp) w⟩ ω ?_;(exact wC))
   | false=>
    rw[D]at y;have n:=tf h [] i B C;unfold qN at n;by_cases P:(nQ h i).length=0
    ·rw[CD P]at n
     repeat'(first|refine gB ?_|(conv=>whnf);first|with_reducible refine CE (aa l) ?_|refine CK rfl (aa l) rfl ?_|refine CH (y) ⟨bK h,⟨rfl,rfl⟩,trivial⟩ ?_|refine CL (n) (.inl rfl) ?_)
     ((conv=>whnf);refine CF (i+1) ⟨ω,uk (by unfold tj;rw[W0 (by omega:¬0<(nQ h i).length)];simp) w⟩ ω ?_;(exact wC))
    rw[CB P]at n;have G:vr h c=some i:=F9 C (by unfold tj;rw[O0 O,D,O0 ω];rfl) w;rw[G]at d;simp only at d;obtain⟨S,T⟩:=B.slotT C (by omega:0<(nQ h i).length);have H:=ku.nn S T;rw[d];generalize slotT h i=g at n |-;generalize vL h i=a at n H |-
    repeat'(first|refine gB ?_|(conv=>whnf);first|with_reducible refine CE (aa l) ?_|refine CK rfl (aa l) rfl ?_|refine CH (y) ⟨bK h,⟨rfl,rfl⟩,trivial⟩ ?_|refine CL (n) (.inl rfl) ?_)
    refine CJ rfl rfl ?_;exact wC
  repeat'(first|refine gB ?_|(conv=>whnf);first|with_reducible refine CE (aa l) ?_|refine CK rfl (aa l) rfl ?_)
  ((conv=>whnf);refine CF (i+1) ⟨ω,uk (by unfold tj;rw[W0 O];rfl) w⟩ ω ?_;(exact wC))
 obtain rfl:i=h.J.length:=ω
 have G:vr h c=none:=Ft w;rw[G]at d;simp only at d;have k:=D7 h [] c B p;rw[d];unfold JU at k;by_cases J:(ax h.w 1).2.2=false
 ·rw[CD J]at k |-
  repeat'(first|refine gE ?_|(conv=>whnf);first|refine CL (k) (.inl rfl) ?_)
  refine CJ rfl rfl ?_;exact wC
 rw[CB J]at k |-;by_cases K:(newK h.G (ax h.w 1).2.1).2=false
 ·rw[CD K]at k |-
  repeat'(first|refine gE ?_|(conv=>whnf);first|refine CL (k) (.inl rfl) ?_)
  refine CJ rfl rfl ?_;exact wC
 rw[CB K]at k |-;obtain⟨U,V⟩:=PX B N p J K;have L:=tf (sq h c) [] (rv h) U V;generalize sq h c=g at k L |-;generalize rv h=b at k L |-
 repeat'(first|refine gE ?_|(conv=>whnf);first|refine CL (k) (.inl rfl) ?_|refine CL (L) (.inl rfl) ?_)
 refine CJ rfl rfl ?_;exact wC
def LZ(h:ab)(size:Int):ab × Int:=
 if(ax h.w (iA size:Nat)).2.2=false then(h,-1)
 else if(dU h size).2=iA size then({h with G:=(dU h size).1,w:=(ax h.w (iA size:Nat)).1,M:=jV (RR (ax h.w (iA size:Nat)).2.1) h.M ⟨(ax h.w (iA size:Nat)).2.1,(iA size:Nat),size⟩},16*(ax h.w (iA size:Nat)).2.1)
 else({h with G:=unmN (dU h size).1 (ax h.w (iA size:Nat)).2.1 (dU h size).2},-1)
def zx(k:af)(p:Int)(i:Nat):newsK k p (i+1)=if(newsK k p i).2=i then((newK (newsK k p i).1 (p+(i:Nat))).1,if(newK (newsK k p i).1 (p+(i:Nat))).2=true then i+1 else i) else newsK k p i:=rfl
def GG(k:af)(p:Int):∀i,(newsK k p i).2<=i
 | 0=>X3 _
 | i+1=>by
  have b:=GG k p i;rw[zx];by_cases e:(newsK k p i).2=i
  ·rw[CD e]
   show(if _ then i+1 else i)<=i+1;by_cases a:(newK (newsK k p i).1 (p+(i:Nat))).2=true
   ·rw[CD a];exact X3 _
   rw[CB a];exact Nat.le_succ _
  rw[CB e];omega
def nM{k:af}{p:Int}{i:Nat}(h:(newsK k p i).2≠i):∀j,newsK k p (i+j)=newsK k p i/\(newsK k p (i+j)).2<i+j
 | 0=>⟨rfl,by show(newsK k p i).2<i;have:=GG k p i;omega⟩
 | j+1=>by
  have a:=nM h j;have e:newsK k p (i+(j+1))=newsK k p (i+j):=by
   show newsK k p (i+j+1)=_;rw[zx,CB ω]
  exact⟨e.trans a.1,by rw[e];omega⟩
def zG(h:ab)(size:Int)(l:aU h [])(C:9<=size/\size<=1000)(V:h.G.Calls<=90000):zzB 222 false [.ptr (bE h),.val none [I size]] [.ptr (bE (LZ h size).1),.val none [I size]] .one [I (LZ h size).2]:=by
 have E:=l.lens;have W:=E.larges;have Q:=l;have F:eZ h<=32:=E.ents;have G:gi size=((iA size:Nat):Int):=by unfold gi iA;split<;>omega
 have hN:1<=iA size/\iA size<=63:=by unfold iA;omega
 have H:=mV size;rw[G]at H;have R:=iJ h;have t:=pu (eZ h:Nat) h.w (iA size:Nat) ⟨ω,ω⟩ l.rng ⟨ω,ω⟩ (by have:=E.free;omega);unfold Un at t;have b:=jY l (show(1:Int)<=(iA size:Nat) by omega);unfold LZ dU;generalize iA size=N at *;generalize ax h.w (N:Nat)=r at t b |-;obtain⟨J,p,ok⟩:=r;simp only at t b |-;refine fM 105 [(373,[2,0]),(374,[2,0]),(2000018,[0,7])] [(2,268,[16,17,18,19,20,21,22,23,15,24,25,26,0,1,2,3,4,5,6,7,8,9,10,11,12,1010,1011,13,1011,14])] [(0,0),(0,0)] Tryz.func222 rfl (λu q=>?_);cases ok with
 | false=>
  rw[CD rfl]
  repeat'(first|refine gP ?_|(conv=>whnf);first|refine CC ?_|refine C9 (H) ?_|refine CH (R) ⟨bK h,trivial⟩ ?_|refine CH (t) ⟨⟨rfl,rfl⟩,⟨rfl,eD h.w⟩,⟨rfl,rfl⟩,trivial⟩ ?_|refine CC ?_)
  refine CJ rfl rfl ?_;exact wC
 | true=>
  rw[CB (by simp)];obtain⟨S,K,B,u4⟩:=b rfl;change p+(N:Nat)<=(h.G.F.Q.K.length:Nat) at K;change ∀q:Nat,p<=q->(q:Int)<p+(N:Nat)->(nth h.G.F.Q.K q).j=0 at B
  have X:h.G.F.Q.K.length<=32:=F
  repeat'(first|refine gP ?_|(conv=>whnf);first|refine CC ?_|refine C9 (H) ?_|refine CH (R) ⟨bK h,trivial⟩ ?_|refine CH (t) ⟨⟨rfl,rfl⟩,⟨rfl,eD h.w⟩,⟨rfl,rfl⟩,trivial⟩ ?_|refine CC ?_)
  (conv=>whnf)
  refine CG (ι:=Nat) (λi=>[(0,.H .box (bE {h with G:=(newsK h.G p i).1})),(1,.H .one [I (size)]),(5,.H .one [I ((N:Nat):Int)]),(6,.H .one (bF .own J)),(7,.H .one [I (p)]),(9,.H .one [I ((i:Nat):Int)])]) (λi=>i<=N/\(newsK h.G p i).2=i) (λi=>N - i) (0) ?_ (⟨X0 _,rfl⟩) λi l=>?_
  ·exact wC
  obtain⟨L,M⟩:=l;have s:=m0.of (p:=p) (n:=N) Q.ker ω ⟨S,K⟩ B i L;have Y:=s.calls;have Z:=s.len;by_cases li:i<N
  ·have O:(nth (newsK h.G p i).1.F.Q.K (p+(i:Nat)).toNat).j=0:=by
    rw[s.out _ (by rw[M];omega)];exact B _ ω ω
   have c:=FH {h with G:=(newsK h.G p i).1} (p+(i:Nat)) s.ker (by show(newsK h.G p i).1.Calls≠100000;omega) ⟨ω,by show p+(i:Nat)<((newsK h.G p i).1.F.Q.K.length:Nat);omega⟩ O;have a:newsK h.G p (i+1)=((newK (newsK h.G p i).1 (p+(i:Nat))).1,if(newK (newsK h.G p i).1 (p+(i:Nat))).2=true then i+1 else i):=by
    show(if(newsK h.G p i).2=i then _ else _)=_;rw[CD M]
   simp only at c;cases e:(newK (newsK h.G p i).1 (p+(i:Nat))).2 with
   | true=>
    rw[e]at c a;rw[CD rfl]at a;have P:(newK (newsK h.G p i).1 (p+(i:Nat))).1=(newsK h.G p (i+1)).1:=by rw[a]
    rw[P]at c
    repeat'(first|refine gE ?_|(conv=>whnf);first|refine CC ?_|refine CL (c) (.inl rfl) ?_)
    ((conv=>whnf);refine CF (i+1) ⟨ω,by rw[a]⟩ ω ?_;(exact wC))
   | false=>
    rw[e]at c a;rw[CB (by simp)]at a;have d:=nM (k:=h.G) (p:=p) (i:=i+1) (by rw[a];simp only;omega) (N - (i+1));rw[show i+1+(N - (i+1))=N by omega]at d;rw[d.1]at d;have T:=m0.of (p:=p) (n:=N) Q.ker ω ⟨S,K⟩ B (i+1) ω;rw[CB (by have:=nM (k:=h.G) (p:=p) (i:=i+1) (by rw[a];simp only;omega) (N - (i+1));rw[show i+1+(N - (i+1))=N by omega]at this;omega)];rw[show newsK h.G p N=newsK h.G p (i+1) by have:=nM (k:=h.G) (p:=p) (i:=i+1) (by rw[a];simp only;omega) (N - (i+1));rw[show i+1+(N - (i+1))=N by omega]at this;exact this.1];rw[a]at T |-;have g:=T.ker;simp only at g |-;generalize (newK (newsK h.G p i).1 (p+(i:Nat))).1=k at c g |-
    repeat'(first|refine gE ?_|(conv=>whnf);first|refine CC ?_|refine CL (c) (.inl rfl) ?_)
    (conv=>whnf)
    refine CG (ι:=Nat) (λj=>[(0,.H .box (bE {h with G:=unmN k p j})),(1,.H .one [I (size)]),(5,.H .one [I ((N:Nat):Int)]),(7,.H .one [I (p)]),(9,.H .one [I ((i:Nat):Int)]),(10,.H .one [I ((j:Nat):Int)])]) (λj=>j<=i) (λj=>i - j) (0) ?_ (X0 _) λj hj=>?_
    ·exact wC
    have c4:=nB {h with G:=unmN k p j} (p+(j:Nat)) (iM g p j);by_cases lj:j<i
    ·repeat'(first|refine gE ?_|(conv=>whnf);first|refine CC ?_|refine CL (c4) (.inl rfl) ?_)
     ((conv=>whnf);refine CF (j+1) ω ω ?_;(exact wC))
    obtain rfl:j=i:=ω
    repeat'(first|refine gE ?_|(conv=>whnf);first|refine CC ?_)
    refine CJ rfl rfl ?_;exact wC
  obtain rfl:i=N:=ω
  rw[CD M];generalize (newsK h.G p i).1=k
  repeat'(first|refine gE ?_|(conv=>whnf);first|refine CC ?_)
  (conv=>whnf)
  refine CG (ι:=Nat) (λm=>[(0,.H .box (bE {h with G:=k,w:=J})),(1,.H .one [I (size)]),(5,.H .one [I ((i:Nat):Int)]),(7,.H .one [I (p)]),(11,.H .one [I ((m:Nat):Int)])]) (λm=>m<=h.M.length/\∀(j:Nat)(z:aB),j<m->h.M[j]? = some z->RR p z=false) (λm=>h.M.length - m) (0) ?_ (⟨X0 _,λj z hj=>ω⟩) λm hm=>?_
  ·exact wC
  obtain⟨hm',U⟩:=hm;have hl2:({h with G:=k,w:=J} : ab).M.length=h.M.length:=rfl;by_cases go:m<h.M.length/\(nth h.M m).R<p
  ·have o:=ao go.1
   repeat'(first|refine gE ?_|(conv=>whnf);first|with_reducible refine CE (aa o) ?_|refine CC ?_|refine CK rfl (aa o) rfl ?_)
   ((conv=>whnf);refine CF (m+1) ⟨ω,fY o (W0 ω) U⟩ ω ?_;(exact wC))
  have w:lv (RR p) h.M=m:=wX ω U λz C=>by
   have hlt:=(Z2.1 C).1;have:z=nth h.M m:=(bh C).symm;subst this;exact O0 ω
  have o:m<h.M.length->h.M[m]? = some (nth h.M m):=λhh=>ao hh
  rw[wL w]
  repeat'(first|refine gE ?_|(conv=>whnf);first|with_reducible (first|refine CE (aa (o ω)) ?_|refine Bf.D (λhq=>?_) (λhq=>?_))|refine CC ?_|refine CK rfl (aa (o ω)) rfl ?_|refine Hq.mk rfl (uS h.M) rfl ?_|refine CX m rfl (by rw[I1];omega) (aM λ_=>rfl) C5 ?_|refine Cb m rfl (by rw[I1];omega) (aM λ_=>rfl) I5 ?_|refine CR (λ_=>rfl) (λ_=>rfl) (by rw[C2];omega) (by decide) ?_|refine Ap.sn (aM λ_=>rfl) rfl (by rw[I1,C2];omega) (by decide) rfl ?_|refine Ap.ins (e:=aB.enc .W) (y:=⟨p,(i:Nat),size⟩) rfl (λ_=>rfl) (λ_=>rfl) ω (by decide) ?_)
  all_goals
   refine CJ rfl ?_ ?_
   ·exact Z0 (λz=>[I z]) ω
   exact wC
variable{k:af}
def vG(h:ay k=true)(b:fU k.u):af.wf k:=by
 obtain⟨p,f,g,q,t⟩:=a7.1 h;obtain⟨u,w,y,A⟩:=aO.1 f;obtain⟨i,B,C⟩:=bo.1 g;refine⟨⟨⟨⟨ω,λr b=>?_⟩,⟨ω,λ_ _=>trivial⟩⟩,⟨ω,λe l=>?_⟩⟩,⟨ω,ω⟩,b⟩
 ·obtain⟨j,c,rfl⟩:=aN b
  obtain⟨D,n⟩:=uv h c;exact⟨ω,λv o=>by have:=n v o;exact⟨ω,ω⟩⟩
 obtain⟨j,c,rfl⟩:=aN l;have a:=i j c;unfold kV at a;rw[C0]at a;by_cases d:(nth k.F.Q.K j).j=0
 ·have:=a.2.2.1 d;exact⟨⟨ω,ω⟩,⟨ω,ω⟩⟩
 have:=a.2.2.2 d;exact⟨⟨ω,ω⟩,⟨ω,ω⟩⟩
def KC{p:bY}(h:eO p=true):bY.wf p:=by
 have a:=λi b=>f8 h (i:=i) b
 have e:p.T.length<=16:=lD h;unfold eO at h;simp only[I0,C0]at h;exact⟨⟨ω,ω⟩,⟨ω,ω⟩,⟨ω,λv c=>by
   obtain⟨j,d,rfl⟩:=aN c;have:=a j d;exact⟨ω,ω⟩⟩⟩
variable{E:List Int}
def aU.jobWf(a:aU h E):co.wf h.Y/\co.sml h.Y:=by
 cases b:h.o with
 | true=>
  obtain⟨c,f,g,i,j⟩:=cN.1 (a.job b).1;have k:=lD c;exact⟨⟨KC c,⟨ω,ω⟩,⟨ω,ω⟩⟩,by show h.Y.X.T.length<=1048576;omega⟩
 | false=>
  have:=a.noj b;unfold re at this;rw[C0]at this;obtain⟨l,n,e,o,p⟩:=this;refine⟨⟨⟨⟨ω,ω⟩,⟨ω,ω⟩,⟨ω,λv d=>?_⟩⟩,⟨ω,ω⟩,⟨ω,ω⟩⟩,by show h.Y.X.T.length<=1048576;omega⟩;rw[X8 e]at d;cases d
variable{n:Int}
def x5(h:0<=aL n):1<=n/\n<=8:=by
 unfold aL at h
 repeat' split at h
 all_goals omega
variable{a:Int}
def ku.wf(b:aU h E){c:Int}(d:ku h.J a c):n7 a:=by
 have:=d.bd b;exact⟨ω,ω⟩
def aU.wf(d:aU h E)(M:fU h.G.u):ab.wf h:=by
 have q:=d.lens;have r:=d.L;have D:=d.nums;unfold cu at D;rw[C0]at D;obtain⟨X,N,Y⟩:=gr.1 d.rng;obtain⟨O,-,-,Z,q5,-⟩:=k6.1 d.quar;have w:=d.mail;have k:=d.hfl;unfold aP at k;rw[CD w]at k;unfold bQ at w;simp only[I0,C0,cA,ip,Y4,nK,Rd]at w;obtain⟨⟨⟨m1,m2,m3⟩,P⟩,m5⟩:=w;have A:=q.free;have Q:=q.spans;have h3:=q.larges;have h4:=q.objs;have h5:=q.caches;have h6:=q.quar;have t:∀n:Nat,bC h.y n<=bC h.y (n+1):=λn=>by simp only[bC];omega
 have g:∀a b:Nat,a<=b->bC h.y a<=bC h.y b:=λa b u=>by
  induction u with
  | refl=>exact I6 _
  | step _ R=>exact Int.le_trans R (t _)
 have B:∀n:Nat,0<=bC h.y n:=λn=>g 0 n (X0 _)
 have o:∀i,i<h.y.V.length->(nth h.y.V i).length<=30/\(nth h.y.a1 i).length<=30:=λi f=>by
  have F:=g (i+1) h.y.V.length ω;have S:=B i;simp only[bC]at F;omega
 refine⟨vG d.ker M,⟨ω,λx e=>?_⟩,⟨ω,λx e=>?_⟩,⟨ω,λx e=>?_⟩,⟨ω,λx e=>?_⟩,⟨ω,λx e=>?_⟩,⟨⟨ω,λl c=>?_⟩,⟨ω,λl c=>?_⟩⟩,⟨⟨ω,ω⟩,⟨ω,λx e=>?_⟩⟩,⟨ω,ω⟩,⟨ω,ω⟩,⟨ω,ω⟩,⟨ω,ω⟩,trivial,d.jobWf.1⟩
 ·have:=N x e;exact⟨⟨ω,ω⟩,⟨ω,ω⟩⟩
 ·have y:=r.sok x e
  have G:=eK y;have T:=aE y;exact⟨⟨ω,ω⟩,⟨ω,ω⟩,⟨ω,ω⟩⟩
 ·have H:=aQ (r.lok x e)
  have J:=cX (r.lok x e);exact⟨⟨ω,ω⟩,⟨ω,ω⟩,⟨ω,ω⟩⟩
 ·obtain⟨o1,o2,o3,o4⟩:=d.onu x e
  have u:0<=x.Addr/\x.Addr<512/\-1000<=x.q/\x.q<=1000:=by
   rcases d.oow x e with⟨s,y,A,Q⟩|⟨l,c,F,S⟩
   ·have T:=aE (r.sok s y)
    have:=x5 (n:=x.q) ω;exact⟨by have:=A.1;omega,by have:=A.2.1;omega,ω,ω⟩
   have H:=aQ (r.lok l c);have J:=cX (r.lok l c);omega
  exact⟨⟨ω,ω⟩,⟨ω,ω⟩,⟨ω,ω⟩,⟨ω,ω⟩⟩
 ·obtain⟨c1,U⟩:=q.lists x e
  refine⟨ω,λl c=>⟨by have:=U l c;omega,λa C=>?_⟩⟩;obtain⟨j,V,rfl⟩:=aN c;exact ku.wf d (d.hca x e j V a C)
 ·obtain⟨i,f,rfl⟩:=aN c
  have G:=o i f;refine⟨ω,λp K=>?_⟩;have W:=(P i f).1 p K;exact⟨⟨ω,ω⟩,ku.wf d (k p.Addr (W3.2 (.inl (List.mem_flatMap.2 ⟨_,am f,O5.2 ⟨p,K,rfl⟩⟩))))⟩
 ·obtain⟨i,f,rfl⟩:=aN c
  have G:=o i ω;exact⟨ω,λa C=>ku.wf d (k a (W3.2 (.inr (List.mem_flatten.2 ⟨_,am f,C⟩))))⟩
 have H:=O x e;have J:=d.snc x e;exact⟨ku.wf d (d.hqu x e),⟨ω,ω⟩,⟨ω,ω⟩⟩
structure Uc(h:ab):Prop where
 ker:ay h.G=true
 wf:ab.wf h
 sml:ab.sml h
 lens:oX h
def aU.fit(a:aU h E)(b:fU h.G.u)(c:aJ.sml h.y):Uc h:=⟨a.ker,a.wf b,a.lens.sml a.ker c a.jobWf.2,a.lens⟩
def aU.mStep0(b:aU h [])(c:h.o=true)(a:lH h=false):aU (Ab.mStep h) []:=by
 have s:=JS.of b c;unfold lH at a;rw[Y5]at a;unfold Ab.mStep;generalize (ed h.G h.Y).1=k at s a |-;generalize (ed h.G h.Y).2=j at s a |-;cases e:over j with
 | true=>exact b.step s.ker s.len (s.pg (.inl a)) (λh=>by simp at h) (λ_=>by simp[re])
 | false=>
  simp only[Bool.false_eq_true,if_false];exact b.step s.ker s.len (s.pg (.inl a)) (λ_=>⟨cN.2 ⟨by rw[s.plan];exact(cN.1 (b.job c).1).1,s.ph.1,s.ph.2,s.nxt⟩,by rw[s.plan];exact(b.job c).2⟩) (λh=>by rw[c]at h;cases h)
def rJ(b:aU h [])(c:h.o=true):ay (mStep h).G=true/\(mStep h).G.Calls<=h.G.Calls+1/\(mStep h).G.u=h.G.u/\(mStep h).y=h.y/\(lH h=true->(mStep h).o=false)/\co.wf (mStep h).Y/\co.sml (mStep h).Y:=by
 have s:=JS.of b c;refine⟨s.ker,s.calls.2.1,s.calls.2.2,rfl,λa=>?_,?_⟩
 ·unfold lH at a
  rw[C0]at a;show(if over _=true then false else h.o)=false;rw[CD (show over (ed h.G h.Y).2=true from O0 (.inl a))]
 show co.wf (if over _=true then _ else _)/\co.sml (if over _=true then _ else _);split
 ·exact⟨⟨⟨⟨by decide,by decide⟩,⟨by decide,by decide⟩,⟨by decide,λv f=>by cases f⟩⟩,⟨by decide,by decide⟩,⟨by decide,by decide⟩⟩,by show(0:Nat)<=1048576;omega⟩
 have d:=(cN.1 (b.job c).1).1;have g:=lD d;obtain⟨j,k⟩:=s.ph;obtain⟨l,i⟩:=s.nxt;have e:=s.plan;refine⟨⟨by rw[e];exact KC d,⟨ω,ω⟩,⟨ω,by rw[e]at i;omega⟩⟩,by show((ed h.G h.Y).2.X.T).length<=1048576;rw[e];omega⟩
def HF(a:oX h)(b:ay (mStep h).G=true):oX (mStep h):=by
 obtain⟨n,c,d,o,p,q,e⟩:=a7.1 b;obtain⟨t,f,u,g⟩:=aO.1 c;obtain⟨w,y,i⟩:=bo.1 d;refine⟨f,λr k=>?_,ω,i,e,a.free,a.spans,a.larges,a.objs,a.caches,a.lists,a.quar⟩;obtain⟨j,l,rfl⟩:=aN k;have:=g j l;unfold gT at this;simp only[I0,C0]at this;exact this.1
def fo(h:ab):Nat->ab × Bool
 | 0=>(h,false)
 | i+1=>if(fo h i).1.o=true then(mStep (fo h i).1,lH (fo h i).1) else fo h i
def fin(h:ab):ab × Bool:=fo h 100
structure RN(h:ab)(c:Int)(g:ab × Bool):Prop where
 inv:g.2=false->aU g.1 []
 done:g.2=true->g.1.o=false
 fit:Uc g.1
 calls:g.1.G.Calls<=h.G.Calls+c
 ref:g.1.G.u=h.G.u
 mail:g.1.y=h.y
def wW{h:ab}(f:aU h [])(g:fU h.G.u)(j:aJ.sml h.y):∀i:Nat,RN h i (fo h i)
 | 0=>⟨λ_=>f,λe=>(by cases e),f.fit g j,by show h.G.Calls<=h.G.Calls+((0:Nat):Int);omega,rfl,rfl⟩
 | i+1=>by
  have b:=wW f g j i;unfold fo;split
  ·rename_i e
   have n:(fo h i).2=false:=by
    cases o:(fo h i).2 with
    | false=>rfl
    | true=>rw[b.done o]at e;cases e
   have k:=b.inv n;obtain⟨d,w,l,p,q,r,t⟩:=rJ k e;have y:=b.calls;have a:=b.fit.wf;have c:=b.fit.sml;refine⟨λu=>k.mStep0 e u,q,⟨d,?_,?_,HF b.fit.lens d⟩,by simp only;omega,l.trans b.ref,p.trans b.mail⟩
   ·exact⟨vG d (by rw[l,b.ref];exact g),a.2.1,a.2.2.1,a.2.2.2.1,a.2.2.2.2.1,a.2.2.2.2.2.1,a.2.2.2.2.2.2.1,a.2.2.2.2.2.2.2.1,a.2.2.2.2.2.2.2.2.1,a.2.2.2.2.2.2.2.2.2.1,a.2.2.2.2.2.2.2.2.2.2.1,a.2.2.2.2.2.2.2.2.2.2.2.1,trivial,r⟩
   exact⟨bj d,c.2.1,c.2.2.1,c.2.2.2.1,c.2.2.2.2.1,c.2.2.2.2.2.1,c.2.2.2.2.2.2.1,c.2.2.2.2.2.2.2.1,t⟩
  exact⟨b.inv,b.done,b.fit,by have:=b.calls;omega,b.ref,b.mail⟩
def PR(a:aU h [])(b:fU h.G.u)(c:aJ.sml h.y):RN h (100:Nat) (fin h):=wW a b c 100
def BV{h:ab}{i:Nat}(a:(fo h i).1.o=false):∀k,fo h (i+k)=fo h i
 | 0=>rfl
 | k+1=>by
  have b:=BV a k;have c:fo h (i+(k+1))=if(fo h (i+k)).1.o=true then(mStep (fo h (i+k)).1,lH (fo h (i+k)).1) else fo h (i+k):=rfl
  rw[c,b,CB (by rw[a];simp)]
def N8(a:(fo h i).1.o=false)(b:i<=100):fin h=fo h i:=by
 have:=BV a (100 - i)
 rwa [show i+(100 - i)=100 by omega]at this
def vZ(hi:aU h []):aU (started h).1 []/\(started h).1.G=h.G/\(started h).1.y=h.y:=by
 have r:=hi.nums;unfold cu at r;rw[C0]at r;have t:=(ko (bg h).length (show 0<=h.b8/\h.b8<=1073741823 by omega) ((bg h).length - 1)).2;have g:=lS (bg h) (show 0<=h.b8/\h.b8<=1073741823 by omega);have c:cu {h with b8:=(shuf (bg h).length h.b8).2} = true:=by
  unfold cu;rw[C0];unfold shuf;simp only;omega
 cases j:jr (bg h) h.b8 with
 | nil=>
  have f:Ab.started h=({h with b8:=(shuf (bg h).length h.b8).2},false):=by unfold Ab.started;rw[j]
  rw[f];exact⟨{hi with nums:=c},rfl,rfl⟩
 | cons q y=>
  obtain⟨C,D,k⟩:=g q (by rw[j];exact I2 ..);have f:Ab.started h=({h with b8:=(shuf (bg h).length h.b8).2,o:=true,Y:=tt (db (nth (bg h) q.A.toNat) (nth (bg h) q.B.toNat))},true):=by unfold Ab.started;rw[j]
  rw[f];have d:∀s∈bg h,s∈h.J:=λs u=>ng h (X3 _) s (List.mem_of_mem_take u)
  have l:=d _ (am (xs:=bg h) (i:=q.A.toNat) ω);have n:=d _ (am (xs:=bg h) (i:=q.B.toNat) ω);generalize nth (bg h) q.A.toNat=a at k l |-;generalize nth (bg h) q.B.toNat=b at k n |-;obtain⟨w,E,F⟩:=qt k;have o:jH (tt (db a b))=true:=cN.2 ⟨w,by show(0:Int)<=0;omega,by show(0:Int)<=5;omega,by show(0:Int)<=0;omega,by show(0:Int)<=(((db a b).T.length:Nat):Int);omega⟩;have p:(∃s∈h.J,s.R=(db a b).a2)/\∃s∈h.J,s.R=(db a b).a0:=by
   unfold db;split
   ·exact⟨⟨b,n,rfl⟩,⟨a,l,rfl⟩⟩
   exact⟨⟨a,l,rfl⟩,⟨b,n,rfl⟩⟩
  exact⟨{hi with nums:=c,job:=λ_=>⟨o,p⟩,noj:=λe=>by cases e},rfl,rfl⟩
def iq(h:ab):Nat->ab × Nat
 | 0=>((fin h).1,(fin h).2.toNat)
 | i+1=>if(meshSt (iq h i).1).2=true then((fin (meshSt (iq h i).1).1).1,(iq h i).2+(fin (meshSt (iq h i).1).1).2.toNat) else((meshSt (iq h i).1).1,(iq h i).2)
structure RQ(h:ab)(i:Nat)(g:ab × Nat):Prop where
 fit:Uc g.1
 calls:g.1.G.Calls<=h.G.Calls+100*(i+1)
 ref:g.1.G.u=h.G.u
 mail:g.1.y=h.y
 cnt:g.2<=i+1
def AU(d:Uc h)(f:fU h.G.u)(g:aJ.sml h.y):Uc (meshSt h).1/\(meshSt h).1.G=h.G/\(meshSt h).1.y=h.y/\((meshSt h).2=true->aU (meshSt h).1 []):=by
 unfold meshSt;split
 ·rename_i e
  obtain⟨a,b,c⟩:=vZ (aU.of e.2);exact⟨a.fit (by rw[b];exact f) (by rw[c];exact g),b,c,λ_=>a⟩
 exact⟨d,rfl,rfl,λe=>by cases e⟩
def Em{h:ab}(k:aU h [])(c:fU h.G.u)(d:aJ.sml h.y):∀i:Nat,RQ h i (iq h i)
 | 0=>by
  have s:=PR k c d;show RQ h 0 ((fin h).1,(fin h).2.toNat);generalize fin h=f at s |-;have l:f.2.toNat<=1:=by cases f.2<;>decide
  exact⟨s.fit,by have:=s.calls;show f.1.G.Calls<=_;omega,s.ref,s.mail,l⟩
 | i+1=>by
  have a:=Em k c d i;obtain⟨n,b,g,o⟩:=AU a.fit (by rw[a.ref];exact c) (by rw[a.mail];exact d);have p:=a.calls;have q:=a.cnt;unfold iq;split
  ·rename_i e
   have s:=PR (o e) (by rw[b,a.ref];exact c) (by rw[g,a.mail];exact d);generalize fin (meshSt (iq h i).1).1=f at s |-;have l:f.2.toNat<=1:=by cases f.2<;>decide
   have j:=s.calls;rw[b]at j;exact⟨s.fit,by show f.1.G.Calls<=_;omega,s.ref.trans (by rw[b];exact a.ref),s.mail.trans (g.trans a.mail),by simp only;omega⟩
  exact⟨n,by simp only[b];omega,by simp only[b];exact a.ref,g.trans a.mail,by simp only;omega⟩
def aU.objSz(a:aU h E):∀o∈h.O,0<=o.q/\o.q<=1000:=λx c=>by
 rcases a.oow x c with⟨s,d,e,f⟩|⟨l,b,g,i⟩
 ·have j:=aE (a.L.sok s d)
  have:=x5 (n:=x.q) ω;omega
 have k:=cX (a.L.lok l b);omega
def Mz(t:Int){size:Int}(c:aU h [])(d:9<=size/\size<=1000):largeA h t size=if(LZ h size).2<0 then((LZ h size).1,-1,4) else(addO (LZ h size).1 (LZ h size).2 size t,(LZ h size).2,0):=by
 unfold largeA LZ;by_cases a:(ax h.w (iA size:Nat)).2.2=false
 ·rw[CD a,CD a]
  exact(CD (show(-1:Int)<0 by decide)).symm
 rw[CB a,CB a];obtain⟨e,-⟩:=jY c (show(1:Int)<=(iA size:Nat) by unfold iA;omega) (by simpa using a);by_cases b:(dU h size).2=iA size
 ·rw[CD b,CD b]
  exact(CB (show ¬16*(ax h.w (iA size:Nat)).2.1<0 by omega)).symm
 rw[CB b,CB b];exact(CD (show(-1:Int)<0 by decide)).symm
def Ah(h:ab)(t size:Int)(k:aU h []):zzB 74 false [.ptr (bE h),.val none [I t],.val none [I size]] [.ptr (bE (allocH h t size).1),.val none [I t],.val none [I size]] (.tup [none,none]) [I (allocH h t size).2.1,I (allocH h t size).2.2]:=by
 have X:=k.lens;have hlc:=X.caches;have P:=X.objs;have p:=k.nums;unfold cu at p;rw[C0]at p;have Q:=vo k.objSz h.O.length (X3 _);change 0<=vb h/\vb h<=_ at Q;have n:=aH t 0 ((h.S.length:Int) - 1);have r:=aH size 1 1000;have E:=z8 h k.objSz ω;have F:=kZ size;refine fM 119 [(221,[2,0,0]),(222,[2,0])] [(7,10,[36,37,38,39,40,41,42,43,44,45]),(18,272,[81,82,83,84,85,86,87,89,90,91,92,93,94,95,96,97,0,1,2,3,4,5,6,8,9,10,11,12,13,14,15,16,1016,7,1008,1009,1010,1011,1012,1013,1014,1015,1016,17,18]),(1048594,0,[8])] [(0,0),(0,0),(0,0)] Tryz.func74 rfl (λu q=>?_) (.inr ⟨trivial,trivial,trivial⟩);unfold allocH;by_cases h1:1000000<=h.b
 ·rw[CD (.inl h1)]
  repeat'(first|refine gE ?_|(conv=>whnf);first|refine CC ?_)
  refine CJ rfl rfl ?_;exact wC
 by_cases h2:90000<h.G.Calls
 ·rw[CD (.inr h2)]
  repeat'(first|refine gE ?_|(conv=>whnf);first|with_reducible refine Bf.D (λb=>?_) (λb=>?_)|refine CC ?_)
  refine CJ rfl rfl ?_;exact wC
 rw[CB ω];by_cases C:¬(0<=t/\t<=h.S.length - 1)
 ·rw[CD C]
  rw[W0 C]at n
  repeat'(first|refine gE ?_|(conv=>whnf);first|with_reducible refine Bf.D (λb=>?_) (λb=>?_)|refine CC ?_|refine C9 (n) ?_)
  refine CJ rfl rfl ?_;exact wC
 rw[CB C];replace C:=Decidable.not_not.1 C;rw[O0 C]at n;by_cases B:¬(1<=size/\size<=1000)
 ·rw[CD B]
  rw[W0 B]at r
  repeat'(first|refine gE ?_|(conv=>whnf);first|with_reducible refine Bf.D (λb=>?_) (λb=>?_)|refine CC ?_|refine C9 (n) ?_|refine C9 (r) ?_)
  refine CJ rfl rfl ?_;exact wC
 rw[CB B];replace B:=Decidable.not_not.1 B;rw[O0 B]at r;by_cases Y:h.c2<vb h+size
 ·rw[CD Y]
  repeat'(first|refine gE ?_|(conv=>whnf);first|with_reducible refine Bf.D (λb=>?_) (λb=>?_)|refine CC ?_|refine C9 (n) ?_|refine C9 (r) ?_|refine CH (E) ⟨⟨rfl,bK h⟩,trivial⟩ ?_|refine CC ?_)
  refine CJ rfl rfl ?_;exact wC
 rw[CB Y];by_cases G:0<=aL size
 ·rw[CD G]
  have hc3:aL size<=3:=by unfold aL;repeat' split<;>omega
  obtain⟨T,rfl⟩:=V3 C.1;obtain⟨K,hK⟩:=V3 G;have o:=AE h T K k ω ω ω;have s:=uF (t:=T) (c:=K) k ω ω ω;rw[hK]at F |-;simp only[O3];generalize smallA h T K=w at o s |-;obtain⟨g,a⟩:=w;have H:g.b=h.b:=s.nx;simp only at o |-;by_cases J:a<0
  ·rw[CD J]
   repeat'(first|refine gE ?_|(conv=>whnf);first|with_reducible refine Bf.D (λb=>?_) (λb=>?_)|refine CC ?_|refine C9 (n) ?_|refine C9 (r) ?_|refine CH (E) ⟨⟨rfl,bK h⟩,trivial⟩ ?_|refine CC ?_|refine C9 (F) ?_|refine CL (o) (.inl rfl) ?_)
   refine CJ rfl rfl ?_;exact wC
  rw[CB J];obtain⟨k1,k2⟩:=s.yes (show(0:Int)<=a by omega);have R:g.O.length<=512:=k1.lens.objs
  repeat'(first|refine gE ?_|(conv=>whnf);first|with_reducible refine Bf.D (λb=>?_) (λb=>?_)|refine CC ?_|refine C9 (n) ?_|refine C9 (r) ?_|refine CH (E) ⟨⟨rfl,bK h⟩,trivial⟩ ?_|refine CC ?_|refine C9 (F) ?_|refine CL (o) (.inl rfl) ?_)
  (conv=>whnf)
  refine CG (ι:=Nat) (λi=>[(0,.H .box (bE g)),(1,.H .one [I ((T:Nat):Int)]),(2,.H .one [I (size)]),(8,.H .one [I (a)]),(9,.H .one [I ((i:Nat):Int)])]) (λi=>i<=g.O.length/\∀(j:Nat)(z:bu),j<i->g.O[j]? = some z->Qz a z=false) (λi=>g.O.length - i) (0) ?_ (⟨X0 _,λj z hj=>ω⟩) λi k=>?_
  ·exact wC
  obtain⟨S,L⟩:=k;by_cases U:i<g.O.length/\(nth g.O i).Addr<a
  ·have d:=ao U.1
   repeat'(first|refine gE ?_|(conv=>whnf);first|with_reducible refine CE (aa d) ?_|refine CC ?_|refine CK rfl (aa d) rfl ?_)
   ((conv=>whnf);refine CF (i+1) ⟨ω,fY d (W0 ω) L⟩ ω ?_;(exact wC))
  have l:lv (Qz a) g.O=i:=wX ω L λz M=>by
   have V:=(Z2.1 M).1;have:z=nth g.O i:=(bh M).symm;subst this;exact O0 ω
  have d:i<g.O.length->g.O[i]? = some (nth g.O i):=λW=>ao W
  rw[show addO g a size (T:Nat) = {g with O:=g.O.take i++⟨g.b,a,size,(T:Nat)⟩::g.O.drop i,b:=g.b+1} by unfold addO;rw[wL l]]
  repeat'(first|refine gE ?_|(conv=>whnf);first|with_reducible (first|refine CE (aa (d ω)) ?_|refine Bf.D (λb=>?_) (λb=>?_))|refine CC ?_|refine CK rfl (aa (d ω)) rfl ?_|refine Hq.mk rfl (wU g.O) rfl ?_|refine CX i rfl (by rw[I1];omega) (aM λ_=>rfl) C5 ?_|refine Cb i rfl (by rw[I1];omega) (aM λ_=>rfl) I5 ?_|refine CR (λ_=>rfl) (λ_=>rfl) (by rw[C2];omega) (by decide) ?_|refine Ap.sn (aM λ_=>rfl) rfl (by rw[I1,C2];omega) (by decide) rfl ?_|refine Ap.ins (e:=bu.enc .W) (y:=⟨g.b,a,size,(T:Nat)⟩) rfl (λ_=>rfl) (λ_=>rfl) ω (by decide) ?_|refine CC ?_)
  all_goals
   refine CJ rfl rfl ?_;exact wC
 rw[CB G];have N:9<=size:=by unfold aL at G;repeat' split at G<;>omega
 have o:=zG h size k ⟨N,B.2⟩ ω;rw[Mz t k ⟨N,B.2⟩];have Z:(LZ h size).1.b=h.b/\(LZ h size).1.O=h.O:=by
  unfold LZ;split
  ·exact⟨rfl,rfl⟩
  split<;>exact⟨rfl,rfl⟩
 generalize LZ h size=w at o Z |-;obtain⟨g,a⟩:=w;obtain⟨H,O⟩:=Z;simp only at o H O |-;have R:g.O.length<=512:=by rw[O];exact P
 by_cases J:a<0
 ·rw[CD J]
  repeat'(first|refine gE ?_|(conv=>whnf);first|with_reducible refine Bf.D (λb=>?_) (λb=>?_)|refine CC ?_|refine C9 (n) ?_|refine C9 (r) ?_|refine CH (E) ⟨⟨rfl,bK h⟩,trivial⟩ ?_|refine CC ?_|refine C9 (F) ?_|refine CL (o) (.inl rfl) ?_)
  refine CJ rfl rfl ?_;exact wC
 rw[CB J]
 repeat'(first|refine gE ?_|(conv=>whnf);first|with_reducible refine Bf.D (λb=>?_) (λb=>?_)|refine CC ?_|refine C9 (n) ?_|refine C9 (r) ?_|refine CH (E) ⟨⟨rfl,bK h⟩,trivial⟩ ?_|refine CC ?_|refine C9 (F) ?_|refine CL (o) (.inl rfl) ?_)
 (conv=>whnf)
 refine CG (ι:=Nat) (λi=>[(0,.H .box (bE g)),(1,.H .one [I (t)]),(2,.H .one [I (size)]),(8,.H .one [I (a)]),(9,.H .one [I ((i:Nat):Int)])]) (λi=>i<=g.O.length/\∀(j:Nat)(z:bu),j<i->g.O[j]? = some z->Qz a z=false) (λi=>g.O.length - i) (0) ?_ (⟨X0 _,λj z hj=>ω⟩) λi k=>?_
 ·exact wC
 obtain⟨S,L⟩:=k;by_cases U:i<g.O.length/\(nth g.O i).Addr<a
 ·have d:=ao U.1
  repeat'(first|refine gE ?_|(conv=>whnf);first|with_reducible refine CE (aa d) ?_|refine CC ?_|refine CK rfl (aa d) rfl ?_)
  ((conv=>whnf);refine CF (i+1) ⟨ω,fY d (W0 ω) L⟩ ω ?_;(exact wC))
 have l:lv (Qz a) g.O=i:=wX ω L λz M=>by
  have V:=(Z2.1 M).1;have:z=nth g.O i:=(bh M).symm;subst this;exact O0 ω
 have d:i<g.O.length->g.O[i]? = some (nth g.O i):=λW=>ao W
 rw[show addO g a size t = {g with O:=g.O.take i++⟨g.b,a,size,t⟩::g.O.drop i,b:=g.b+1} by unfold addO;rw[wL l]]
 repeat'(first|refine gE ?_|(conv=>whnf);first|with_reducible (first|refine CE (aa (d ω)) ?_|refine Bf.D (λb=>?_) (λb=>?_))|refine CC ?_|refine CK rfl (aa (d ω)) rfl ?_|refine Hq.mk rfl (wU g.O) rfl ?_|refine CX i rfl (by rw[I1];omega) (aM λ_=>rfl) C5 ?_|refine Cb i rfl (by rw[I1];omega) (aM λ_=>rfl) I5 ?_|refine CR (λ_=>rfl) (λ_=>rfl) (by rw[C2];omega) (by decide) ?_|refine Ap.sn (aM λ_=>rfl) rfl (by rw[I1,C2];omega) (by decide) rfl ?_|refine Ap.ins (e:=bu.enc .W) (y:=⟨g.b,a,size,t⟩) rfl (λ_=>rfl) (λ_=>rfl) ω (by decide) ?_|refine CC ?_)
 all_goals
  refine CJ rfl rfl ?_;exact wC
def HX(h:ab)(a n:Int)(t:h.M.length<=4096)(j:∀l∈h.M,bL l=true)(o:Al h a<0):zzB 420 false [.ptr (bE h),.val none [I a],.val none [I n]] [.ptr (bE h),.val none [I a],.val none [I n]] .one [B false]:=by
 have b:∀l∈h.M,l.R*16≠a:=λl c e=>by
  have:=Gx (p:=Ku a) c (O0 e);unfold Al at o;omega
 refine fM 136 [(374,[2,0])] [(8,6,[49,50,51,52,53,54]),(9,10,[56,57,58,59,60,61,62,63,64,65]),(20,270,[123,124,125,126,127,128,129,130,131,122,132,133,134,135,0,1,2,3,4,5,6,7,8,9,10,11,12,13,14,1011])] [(0,0),(0,0),(0,0)] Tryz.func420 rfl (λu q=>?_)
 repeat'(first|refine gP ?_|(conv=>whnf);first|refine CC ?_)
 (conv=>whnf)
 refine CG (ι:=Nat) (λk=>[(0,.H .box (bE h)),(1,.H .one [I (a)]),(2,.H .one [I (n)]),(7,.H .one [I ((k:Nat):Int)])]) (λk=>k<=h.M.length) (λk=>h.M.length - k) (0) ?_ (X0 _) λk w=>?_
 ·repeat'(first|exact trivial|rfl |exact mE r|exact mE g|exact dK _|refine CM ?_ ?_|(exact Ac (by first|omega|(simp only;omega)|(simp;omega))))
 by_cases d:k<h.M.length
 ·have i:=ao d
  have y:=b _ (am d);have C:=aQ (j _ (am d))
  repeat'(first|refine gB ?_|(conv=>whnf);first|with_reducible refine CE (aa i) ?_|refine CC ?_|refine CK rfl (aa i) rfl ?_)
  ((conv=>whnf);refine CF (k+1) ω ω ?_;(exact wC))
 repeat'(first|refine gE ?_|(conv=>whnf);first|refine CC ?_)
 refine CJ rfl rfl ?_;exact wC
def TC(h:ab)(a:Int)(m:Nat):bE {h with G:=zK h.G a (m+1)} = (bE {h with G:=zK h.G a m}).set 0 (.s .own (((zK h.G a m).F.U.T.map (aF .own)).set (ac (zK h.G a m).F.Q ((a+m) / 16)).d.toNat ((aF .own (nth (zK h.G a m).F.U.T (cY (zK h.G a m) (a+m)))).set 0 (.s .own (((nth (zK h.G a m).F.U.T (cY (zK h.G a m) (a+m))).map (rI .own)).set ((a+m) % 16).toNat (splice (rI .own (nth (nth (zK h.G a m).F.U.T (cY (zK h.G a m) (a+m))) ((a+m) % 16).toNat)) 0 [I 0])))))):=
 Kl {h with G:=zK h.G a m} (a+m) 0
def mn(h:ab)(i k:Nat)(n:Int)(K:af):ab:={h with G:=K,M:=h.M.set k (trimL (nth h.M k) n),O:=h.O.set i {nth h.O i with q:=n}}
def Mf(h:ab)(i k:Nat)(n:Int)(K:af):(mn h i k n K).O.map (bu.enc .own)=(h.O.map (bu.enc .own)).set i (splice (bu.enc .own (nth h.O i)) 2 [I n]):=by
 simp[mn,V7,bu.enc,splice]
def sT(h:ab)(i:Nat)(n:Int)(j:aU h [])(H:i<h.O.length)(hg:0<=Al h (nth h.O i).Addr):zzB 420 false [.ptr (bE h),.val none [I (nth h.O i).Addr],.val none [I n]] [.ptr (bE (if mj h i n then trimH h i (Al h (nth h.O i).Addr).toNat n else h)),.val none [I (nth h.O i).Addr],.val none [I n]] .one [B (decide (mj h i n))]:=by
 have c:=j.lens;have hnl:=c.larges;have hno:=c.objs;have hpg:eZ h<=32:=c.ents;obtain⟨f1,f2,f3⟩:=fX (Ku (nth h.O i).Addr) h.M hg;obtain⟨g,o⟩:=V3 hg;have b:g<h.M.length:=by unfold Al at o;omega
 have Y:(nth h.M g).R*16=(nth h.O i).Addr:=by
  have:=of_decide_eq_true f2;rw[show(ee (Ku (nth h.O i).Addr) h.M).toNat=g by unfold Al at o;omega]at this;exact this
 have J:∀k,k<g->(nth h.M k).R*16≠(nth h.O i).Addr:=λk hk e=>by
  have N:k<h.M.length:=ω
  have hok1:=aQ (j.L.lok _ (am N));have hok2:=aQ (j.L.lok _ (am b));have:=j.L.one k g N b 0 0 ω ω ω;omega
 have p:mj h i n↔9<=n/\n<=(nth h.M g).q:=by
  unfold mj;rw[o,O3];exact⟨λx=>x.2,λx=>⟨ω,x⟩⟩
 rw[o,O3];have hbd:=uR j (am H);obtain⟨-,Z,w⟩:=j.objAt (am H);have hii:qL h (nth h.O i).Addr=i:=by
  have h2:=(j.objAt (am H)).1;exact cR (f:=(·.Addr)) (dt j.osr) h2 H (by rw[Z])
 rw[hii]at w;have E:=ao H;have hxg:=ao b;have V:=zz (nth h.M g) n (j.L.lok _ (am b));have h8:=j.L.lok _ (am b);unfold bL at h8;rw[C0]at h8;refine fM 136 [(374,[2,0])] [(8,6,[49,50,51,52,53,54]),(9,10,[56,57,58,59,60,61,62,63,64,65]),(20,270,[123,124,125,126,127,128,129,130,131,122,132,133,134,135,0,1,2,3,4,5,6,7,8,9,10,11,12,13,14,1011])] [(0,0),(0,0),(0,0)] Tryz.func420 rfl (λu q=>?_)
 repeat'(first|refine gP ?_|(conv=>whnf);first|refine CC ?_)
 (conv=>whnf)
 refine CG (ι:=Nat) (λk=>[(0,.H .box (bE h)),(1,.H .one [I ((nth h.O i).Addr)]),(2,.H .one [I (n)]),(7,.H .one [I ((k:Nat):Int)])]) (λk=>k<=g) (λk=>g - k) (0) ?_ (X0 _) λk hk=>?_
 ·repeat'(first|exact trivial|rfl |exact mE r|exact mE d|exact dK _|refine CM ?_ ?_|(exact Ac (by first|omega|(simp only;omega)|(simp;omega))))
 have l:=ao (xs:=h.M) (i:=k) ω;have hfk:=aQ (j.L.lok _ (am (xs:=h.M) (i:=k) ω));by_cases e:k=g;rotate_left
 ·have hne:=J k ω
  repeat'(first|refine gB ?_|(conv=>whnf);first|with_reducible refine CE (aa l) ?_|refine CC ?_|refine CK rfl (aa l) rfl ?_)
  ((conv=>whnf);refine CF (k+1) ω ω ?_;(exact wC))
 subst e;by_cases F:9<=n/\n<=(nth h.M k).q;rotate_left
 ·rw[CB (by rw[p];exact F),W0 (by rw[p];exact F)]
  rw[CB F]at V
  repeat'(first|refine gB ?_|(conv=>whnf);first|with_reducible refine CE (aa l) ?_|refine CC ?_|refine CK rfl (aa l) rfl ?_|refine C9 (V) ?_)
  refine CJ rfl rfl ?_;exact wC
 rw[CD (by rw[p];exact F),O0 (by rw[p];exact F)];rw[CD F]at V;have y:=λm hm=>yS j b F (m:=m) hm
 have D:=λm=>(qb h.G (16*(nth h.M k).R+n) m).1
 have O:=λa W=>kC j b (a:=a) W
 have hsz:n<=16*(nth h.M k).a4:=ω
 generalize hM:(16*((n+15) / 16) - n).toNat=M at *;have hfl:∀m,(zK h.G (16*(nth h.M k).R+n) m).F.U.T.length=h.G.F.U.T.length:=λm=>by
  induction m with
  | zero=>rfl
  | succ m ih=>show(List.set _ _ _).length=_;rw[Z1];exact ih
 have cO:=r7 {h with M:=h.M.set k (trimL (nth h.M k) n)} (nth h.O i).Addr (by show h.O.length<=_;omega);change ar _ _ _ [.val (some 24) (ab.enc .W {h with M:=h.M.set k (trimL (nth h.M k) n)}),_] _ [I (ee (mN (nth h.O i).Addr) h.O)]at cO;rw[w]at cO;have Q:=bK {h with M:=h.M.set k (trimL (nth h.M k) n)};have heL:bE {h with M:=h.M.set k (trimL (nth h.M k) n)} = (bE h).set 7 (.s .own ((h.M.map (aB.enc .own)).set k (aB.enc .own (trimL (nth h.M k) n)))):=by simp[bE,V7]
 rw[heL]at Q
 repeat'(first|refine gB ?_|(conv=>whnf);first|with_reducible (first|refine CE (aa l) ?_|refine CE (aa E) ?_)|refine CC ?_|refine CK rfl (aa l) rfl ?_|refine C9 (V) ?_|refine CQ rfl rfl (aa l) rfl (O1 rfl) rfl ?_|refine CH (cO) ⟨⟨rfl,Q⟩,⟨rfl,rfl⟩,trivial⟩ ?_|refine CQ rfl rfl (aa E) rfl (O1 rfl) rfl ?_|refine CK rfl (aa E) rfl ?_|refine CC ?_)
 rw[<-Y];have e0:mn h i k n h.G=mn h i k n (zK h.G (16*(nth h.M k).R+n) 0):=rfl;have r:C.s .own ((mn h i k n (zK h.G (16*(nth h.M k).R+n) 0)).M.map (aB.enc .own))=C.s .own ((h.M.map (aB.enc .own)).set k (aB.enc .own (trimL (nth h.M k) n))):=by simp[mn,V7]
 have d:C.s .own ((mn h i k n (zK h.G (16*(nth h.M k).R+n) 0)).O.map (bu.enc .own))=C.s .own ((h.O.map (bu.enc .own)).set i (splice (bu.enc .own (nth h.O i)) 2 [I n])):=Z0 _ (Mf h i k n _)
 (conv=>whnf)
 refine CG (ι:=Nat) (λm=>[(0,.H .box (bE (mn h i k n (zK h.G (16*(nth h.M k).R+n) m)))),(1,.H .one [I (((nth h.M k).R*16))]),(8,.H .box (aB.enc .own (trimL (nth h.M k) n))),(9,.H .box (a8.enc .own (za (nth h.M k) n))),(11,.H .one [I (((16*(nth h.M k).R+n)+(m:Nat)))])]) (λm=>m<=M) (λm=>M - m) (0) ?_ (X0 _) λm hm=>?_
 ·repeat'(first|exact trivial|rfl |exact mE r|exact mE d|exact dK _|refine CM ?_ ?_|(exact Ac (by first|omega|(simp only;omega)|(simp;omega))))
 have hmod:IntKind.i64.wrap 0=0:=rfl;by_cases lm:m<M
 ·have W:0<=(16*(nth h.M k).R+n)+(m:Nat)/\(16*(nth h.M k).R+n)+(m:Nat)<512:=ω
  have R:=O ((16*(nth h.M k).R+n)+(m:Nat)) ω;have t:=y m hm;rw[<-D m]at R;have hks:=bj t;have c2:=du (zK h.G (16*(nth h.M k).R+n) m).F.Q (((16*(nth h.M k).R+n)+(m:Nat)) / 16) hks.1.2;obtain⟨-,-,-,q0,q1⟩:=bD t R;have hul:=(aO.1 (a7.1 t).2.1).2.2.1;have S:cY (zK h.G (16*(nth h.M k).R+n) m) ((16*(nth h.M k).R+n)+(m:Nat))<(zK h.G (16*(nth h.M k).R+n) m).F.U.T.length:=by unfold cY;omega
  have G:(zK h.G (16*(nth h.M k).R+n) m).F.U.T[(ac (zK h.G (16*(nth h.M k).R+n) m).F.Q (((16*(nth h.M k).R+n)+(m:Nat)) / 16)).d.toNat]? = some _:=ao S;have h16:=(uv t S).1;have T:=ao (xs:=nth (zK h.G (16*(nth h.M k).R+n) m).F.U.T (cY (zK h.G (16*(nth h.M k).R+n) m) ((16*(nth h.M k).R+n)+(m:Nat)))) (i:=(((16*(nth h.M k).R+n)+(m:Nat)) % 16).toNat) (by rw[h16];omega);have htm:((16*(nth h.M k).R+n)+(m:Nat)).tmod 16=((16*(nth h.M k).R+n)+(m:Nat)) % 16:=dP W.1;have hpu:=TC (mn h i k n h.G) (16*(nth h.M k).R+n) m;have hwr:=pp W;have hst:(trimL (nth h.M k) n).a4=(n+15) / 16:=rfl
  repeat'(first|refine gE ?_|(conv=>whnf);first|refine CC ?_|refine CP (by decide) ?_|refine CO hwr ?_|refine CS htm ?_|refine CH (c2) ⟨⟨rfl,Cc _⟩,⟨rfl,rfl⟩,trivial⟩ ?_|refine CN q0 (aa G) ?_|refine CK rfl (aa G) rfl ?_|refine CN ω (aa T) ?_|refine Pu.two rfl rfl (aa G) rfl rfl rfl (aa T) rfl (X3 _) hpu ?_)
  ((conv=>whnf);refine CF (m+1) ω ω ?_;(exact wC))
 obtain rfl:m=M:=ω
 have hst:(trimL (nth h.M k) n).a4=(n+15) / 16:=rfl;have hkM:=y m (X3 _);have U:(zK h.G (16*(nth h.M k).R+n) m).F.Q.K.length=eZ h:=by rw[D];rfl
 have hTK:kS h k n=zK h.G (16*(nth h.M k).R+n) m:=by unfold kS;rw[hM]
 unfold trimH Kx;rw[hTK];generalize zK h.G (16*(nth h.M k).R+n) m=K at *;have hN:((dI (nth h.M k) n:Nat):Int)=(nth h.M k).a4 - (n+15) / 16:=by unfold dI;omega
 have hrA:0<dI (nth h.M k) n->za (nth h.M k) n = ⟨(nth h.M k).R+(n+15) / 16,(dI (nth h.M k) n:Nat)⟩:=λhp=>by unfold za;rw[CD ω,hN]
 have hrB:¬0<dI (nth h.M k) n->za (nth h.M k) n = ⟨0,0⟩:=λhp=>by unfold za;rw[CB ω]
 generalize dI (nth h.M k) n=P at *;by_cases X:0<P
 ·rw[CD X]
  have hr:=hrA X;rw[hr]
  repeat'(first|refine gE ?_|(conv=>whnf);first|refine CC ?_)
  (conv=>whnf)
  refine CG (ι:=Nat) (λx=>[(0,.H .box (bE (mn h i k n (unmN K ((nth h.M k).R+(n+15) / 16) x)))),(9,.H .box ([I ((nth h.M k).R+(n+15) / 16),I (P:Nat)])),(13,.H .one [I (((nth h.M k).R+(n+15) / 16+(x:Nat)))])]) (λx=>x<=P) (λx=>P - x) (0) ?_ (X0 _) λx l=>?_
  ·repeat'(first|exact trivial|rfl |exact mE r|exact mE d|exact dK _|refine CM ?_ ?_|(exact Ac (by first|omega|(simp only;omega)|(simp;omega))))
  by_cases lx:x<P
  ·have c3:=nB (mn h i k n (unmN K ((nth h.M k).R+(n+15) / 16) x)) ((nth h.M k).R+(n+15) / 16+(x:Nat)) (iM hkM _ _)
   repeat'(first|refine gE ?_|(conv=>whnf);first|refine CC ?_|refine CL (c3) (.inl rfl) ?_)
   ((conv=>whnf);refine CF (x+1) ω ω ?_;(exact wC))
  obtain rfl:x=P:=ω
  have c4:=iJ (mn h i k n (unmN K ((nth h.M k).R+(n+15) / 16) x));rw[show eZ (mn h i k n (unmN K ((nth h.M k).R+(n+15) / 16) x))=eZ h from(fF _ _ _).1.trans U]at c4;have c5:=mT (eZ h:Nat) h.w ⟨(nth h.M k).R+(n+15) / 16,(x:Nat)⟩ ⟨ω,ω⟩ ⟨by have:=c.free;omega,λ_ _=>trivial⟩
  repeat'(first|refine gE ?_|(conv=>whnf);first|refine CC ?_|refine CH (c4) ⟨bK _,trivial⟩ ?_|refine CH (c5) ⟨⟨rfl,rfl⟩,⟨rfl,eD h.w⟩,⟨rfl,rfl⟩,trivial⟩ ?_|refine CC ?_)
  refine CJ rfl rfl ?_;exact wC
 rw[CB X];obtain rfl:P=0:=ω
 have hr:=hrB X;rw[hr]
 repeat'(first|refine gE ?_|(conv=>whnf);first|refine CC ?_)
 (conv=>whnf)
 refine CG (ι:=Nat) (λx=>[(0,.H .box (bE (mn h i k n K))),(9,.H .box ([I 0,I 0])),(13,.H .one [I (0)])]) (λx=>x=0) (λx=>0) (0) ?_ (rfl) λx l=>?_
 ·repeat'(first|exact trivial|rfl |exact mE r|exact mE d|exact dK _|refine CM ?_ ?_|(exact Ac (by first|omega|(simp only;omega)|(simp;omega))))
 subst l
 repeat'(first|refine gE ?_|(conv=>whnf);first|refine CC ?_)
 refine CJ rfl rfl ?_;exact wC
def F4(a:α)(k:Nat):List.replicate (k+1) a=List.replicate k a++[a]:=List.replicate_succ' ..
def HE(n k:Nat):aW.enc .own ⟨List.replicate k (List.replicate 16 0),List.replicate n false⟩ = [.s .own (List.replicate k [.s .own (List.replicate 16 [I 0])]),.s .own (List.replicate n [B false])]:=by
 simp[aW.enc,aF,rI,rB,List.map_replicate]
def KD(n:Nat):Pq [.s .own (List.replicate n [.z]),.s .own (List.replicate n [.z]),B true] (aJ.enc .own (eH n)++[B true]):=by
 have e:aJ.enc .own (eH n)++[B true]=[.s .own (List.replicate n [.s .own []]),.s .own (List.replicate n [.s .own []]),B true]:=by simp[aJ.enc,eH,cS,aF,List.map_replicate]
 rw[e];exact .cons (.rep (.cons .z_ .nil)) (.cons (.rep (.cons .z_ .nil)) (.cons (.rfl_ _) .nil))
def QS(n:Nat)(b:1<=n/\n<=4):zzA 200 false [.val none [I (n:Nat)]] (.tup [some 2,none]) (aJ.enc .own (eH n)++[B true]):=by
 have a:=aK ((n:Nat):Int) 1 4;rw[O0 ω]at a;refine fO 13 [(3,4,[8,9,10,11])] Tryz.func200 rfl ?_ (.inr (aG (aJ.enc_fr _) ⟨trivial,trivial⟩))
 repeat'((conv=>whnf);first|with_reducible (first|refine Lm ?_|refine Wm ω ?_|refine Bn ?_|refine jm.dk rfl ?_)|refine Bt ?_|refine Bu ?_|refine CC ?_|refine C9 (a) ?_|refine Mk.mk n rfl rfl ω (zE ω (by decide)) rfl ?_)
 exact KD n
def EB(n:Nat)(b:1<=n/\n<=4):zzA 413 false [.val none [I (n:Nat)]] (.tup [some 2,none]) (aJ.enc .own (eH n)++[B true]):=by
 have a:=aH ((n:Nat):Int) 1 4;rw[O0 ω]at a;refine fO 13 [(3,4,[8,9,10,11])] Tryz.func413 rfl ?_ (.inr (aG (aJ.enc_fr _) ⟨trivial,trivial⟩))
 repeat'((conv=>whnf);first|with_reducible (first|refine Lm ?_|refine Wm ω ?_|refine Bn ?_|refine jm.dk rfl ?_)|refine Bt ?_|refine Bu ?_|refine CC ?_|refine C9 (a) ?_|refine Mk.mk n rfl rfl ω (zE ω (by decide)) rfl ?_)
 exact KD n
def PF:Pq [.s .own (List.replicate 4 [.z])] (aC.enc .own fZ):=.cons (.rep (.cons .z_ .nil)) .nil
def A2:zzA 414 false [] .agg (aC.enc .own fZ):=by
 refine fO 3 [] Tryz.func414 rfl ?_ (.inr (aC.enc_fr _))
 repeat'((conv=>whnf);first|with_reducible (first|refine Lm ?_|refine Wm ω ?_|refine Bn ?_|refine jm.dk rfl ?_)|refine Bt ?_|refine Bu ?_|refine CC ?_|refine Mk.mk 4 rfl rfl (by decide) (by decide) rfl ?_)
 exact PF
def td:zzA 415 false [.val none [I 16]] (.tup [some 2,none]) (bO.enc .own ⟨16,[]⟩++[B true]):=by
 refine fO 10 [] Tryz.func415 rfl ?_ (.inr (aG (bO.enc_fr _) ⟨trivial,trivial⟩))
 repeat'((conv=>whnf);first|with_reducible (first|refine Lm ?_|refine Wm ω ?_|refine Bn ?_|refine jm.wk rfl ?_)|refine Bt ?_|refine Bu ?_|refine CC ?_|refine C9 (aH 16 0 500) ?_)
 exact⟨rfl,rfl,rfl,trivial⟩
def caps(h:ab)(k:Nat):ab:={h with S:=List.replicate k fZ}
def Mn(k:Nat):(List.replicate (k+1) fZ).map (aC.enc .own)=(List.replicate k fZ).map (aC.enc .own)++[aC.enc .own fZ]:=by rw[F4,C7];rfl
def Py{k:Nat} : ∀r∈(List.replicate k fZ).map (aC.enc .own),r.length=1:=aM λ_=>rfl
def Re(x:List bI):fz (.s .own (x.map (bI.enc .own)))=.s .W (x.map (bI.enc .W)):=(List.cons.inj (List.cons.inj (Cg ⟨0,x⟩)).2).1
def fT:∀a b:List C,eg (a++b)=eg a++eg b
 | [],_=>rfl
 | x::xs,b=>by show fz x::eg (xs++b)=fz x::(eg xs++eg b);rw[fT xs b]
def eR(r:aA)(c:aA.sml r):zzA 281 false [.val (some 2) (aA.enc .W r)] .agg (aA.enc .own r):=by
 have e:r.O.length<=1048576:=c.1;refine fO 36 [(5,272,[15,16,17,18,19,20,21,22,23,24,25,26,27,28,29,34,0,1,2,3,4,5,6,7,8,9,10,11,12,13,14,15,1000,1001,1002,1003,1004,1005,1006,1007,16,1000,1001,17,1000,1001,18,19,20])] Tryz.func281 rfl ?_ (.inr (aA.enc_fr _))
 repeat'(first|refine gP ?_|(conv=>whnf);first|refine CC ?_)
 (conv=>whnf)
 refine CG (ι:=Nat) (λi=>[(1,.H .box (aA.enc .W r)),(2,.H .box [I 0,.z]),(3,.H .box [I r.b,.s .own ((r.O.take i).map (bI.enc .own))]),(4,.H .one [I ((i:Nat):Int)])]) (λi=>i<=r.O.length) (λi=>r.O.length - i) (0) ?_ (X0 _) λi g=>?_
 ·exact wC
 by_cases b:i<r.O.length
 ·have d:=ao b
  have a:(nth r.O i).T.length<=1048576:=c.2 _ (am b)
  repeat'(first|refine gE ?_|(conv=>whnf);first|with_reducible refine CE (aa d) ?_|refine CC ?_|refine CK rfl (aa d) rfl ?_|refine CY (λ_=>rfl) (λ_=>rfl) a (by decide) ?_|refine CR (λ_=>rfl) (λ_=>rfl) a (by decide) ?_|refine CC ?_|refine Ap.sn (aM λ_=>rfl) rfl (by simp;omega) (by decide) (fB b) ?_)
  ((conv=>whnf);refine CF (i+1) ω ω ?_;(exact wC))
 repeat'(first|refine gE ?_|(conv=>whnf);first|refine CC ?_)
 obtain rfl:i=r.O.length:=ω
 rw[O6]
 rfl
def iR(r:aA)(id:Int)(g:r.O.length<=1048576):zzA 516 false [.val (some 2) (aA.enc .W r),.val none [I id]] .one [I (oY r id)]:=by
 refine fO 22 [] Tryz.func516 rfl ?_
 repeat'(first|refine gP ?_|(conv=>whnf);first|refine CC ?_)
 (conv=>whnf)
 refine CG (ι:=Nat) (λi=>[(1,.H .one [I (id)]),(2,.H .box (aA.enc .W r)),(5,.H .one [I ((i:Nat):Int)])]) (λi=>i<=r.O.length/\∀(j:Nat)(z:bI),j<i->r.O[j]? = some z->nY id z=false) (λi=>r.O.length - i) (0) ?_ (⟨X0 _,λj z h=>ω⟩) λi c=>?_
 ·exact wC
 obtain⟨c,b⟩:=c;by_cases d:i<r.O.length
 ·have a:=ao d
  by_cases e:(nth r.O i).Id=id
  ·repeat'(first|refine gB ?_|(conv=>whnf);first|with_reducible refine CE (aa a) ?_|refine CC ?_|refine CK rfl (aa a) rfl ?_)
   exact Z0 (λz=>[I z]) (dS a (O0 e) b).symm
  repeat'(first|refine gB ?_|(conv=>whnf);first|with_reducible refine CE (aa a) ?_|refine CC ?_|refine CK rfl (aa a) rfl ?_)
  ((conv=>whnf);refine CF (i+1) ⟨ω,fY a (W0 e) b⟩ ω ?_;(exact wC))
 repeat'(first|refine gE ?_|(conv=>whnf);first|refine CC ?_)
 exact Z0 (λz=>[I z]) (gx ω b).symm
def nH(r:aA)(c:C)(h:T3 c):hO (aA.enc .own r++[c]):=aG (aA.enc_fr _) ⟨h,trivial⟩
def Ao(r:aA)(n:Int)(m:Nat)(b:ue r m)(h:m<=1000)(c:1<=n/\n<=1000):zzA 273 false [.val (some 2) (aA.enc .W r),.val none [I n]] (.tup [some 2,none]) (aA.enc .W (jA r n)++[I r.b]):=by
 have i:=b.sml h;have d:=b.len;have j:=b.nx;have k:=eR r i;have e:=aH n 1 1000;rw[O0 c]at e;have key:zzA 273 false [.val (some 2) (aA.enc .W r),.val none [I n]] (.tup [some 2,none]) (aA.enc .own (jA r n)++[I r.b]):=by
  have a:=nH (jA r n) (I r.b) trivial;unfold jA at a |-;rw[CD c]at a |-;have l:aA.enc .own {r with b:=r.b+1,O:=r.O++[⟨r.b,List.replicate n.toNat 0⟩]} = [I (r.b+1),.s .own (r.O.map (bI.enc .own)++[[I r.b,.s .own (List.replicate n.toNat [I 0])]])]:=by
   simp[aA.enc,bI.enc,rI]
  rw[l]at a |-;refine fO 30 [(4,263,[13,14,15,16,17,18,22,0,1,2,3,4,5,6,1000,1001,7,1000,1001,8,9,10]),(6,259,[27,28,29,0,1,2,3,1001,1002,4])] Tryz.func273 rfl ?_ (.inr a)
  repeat'(first|refine gP ?_|(conv=>whnf);first|refine CC ?_|refine C9 (k) ?_|refine C9 (e) ?_|refine Mk.mk n.toNat ω ω ω (zE ω (by decide)) rfl ?_|refine CC ?_|refine Ap.sn (aM λ_=>rfl) rfl (by simp;omega) (by decide) rfl ?_)
  (conv=>whnf)
  rfl
 have g:=key.fzR;rw[fT,Cg]at g;exact g
def Ex(r:aA)(id:Int)(m:Nat)(d:ue r m)(k:m<=1000):zzA 417 true [.val (some 2) (aA.enc .W r),.val none [I id]] (.tup [some 2,none]) (aA.enc .W (kb r id)++[B (!decide (oY r id<0))]):=by
 have g:=d.sml k;have h:=d.len;have i:=eR r g;have b:=iR r id g.1;by_cases e:oY r id<0
 ·have key:zzA 417 true [.val (some 2) (aA.enc .W r),.val none [I id]] (.tup [some 2,none]) (aA.enc .own r++[B false]):=by
   refine fO 30 [(5,267,[16,17,18,19,20,22,23,24,25,26,28,0,1,2,3,4,6,7,8,9,10,5,1006,1007,1008,1009,1010,11,12,13]),(1048581,6,[1])] Tryz.func417 rfl ?_ (.inl rfl)
   repeat'(first|refine gE ?_|(conv=>whnf);first|refine CC ?_|refine C9 (i) ?_|refine C9 (b) ?_)
   rfl
  have a:=key.fzR;rw[fT,Cg]at a;unfold kb;rw[CD e,O0 e];exact a
 have n:kb r id = {r with O:=dele r.O (oY r id).toNat}:=by unfold kb;rw[CB e]
 obtain⟨t,u,w⟩:=fX (nY id) r.O (by unfold oY at e;omega);obtain⟨j,c⟩:=V3 (show 0<=oY r id by omega);have o:j<r.O.length:=by unfold oY at c;omega
 have key:zzA 417 true [.val (some 2) (aA.enc .W r),.val none [I id]] (.tup [some 2,none]) ([I r.b,.s .own ((dele r.O j).map (bI.enc .W))]++[B true]):=by
  rw[c]at b;refine fO 30 [(5,267,[16,17,18,19,20,22,23,24,25,26,28,0,1,2,3,4,6,7,8,9,10,5,1006,1007,1008,1009,1010,11,12,13]),(1048581,6,[1])] Tryz.func417 rfl ?_ (.inl rfl)
  repeat'(first|refine gE ?_|(conv=>whnf);first|refine CC ?_|refine C9 (i) ?_|refine C9 (b) ?_|refine Hq.mk rfl (Re r.O) rfl ?_|refine CX j rfl (by rw[I1];omega) (aM λ_=>rfl) C5 ?_|refine Cb (j+1) ω (by rw[I1];omega) (aM λ_=>rfl) I5 ?_|refine CR (λ_=>rfl) (λ_=>rfl) (by rw[C2];omega) (by decide) ?_|refine CY (λ_=>rfl) (λ_=>rfl) (by rw[C2];omega) (by decide) ?_|refine Ap.dele (λ_=>rfl) (λ_=>rfl) ω (by decide) ?_|refine CC ?_)
  rfl
 have a:=key.fzR;have p:eg ([I r.b,.s .own ((dele r.O j).map (bI.enc .W))]++[B true])=aA.enc .W (kb r id)++[B (!decide (oY r id<0))]:=by
  have:∀l:List bI,fzR (l.map (bI.enc .W))=l.map (bI.enc .W):=λl=>by
   induction l with
   | nil=>rfl
   | cons x xs q=>rw[O7,fzR,q,<-bI.enc_fz,tD]
  rw[n,c,W0 ω];simp[eg,fz,aA.enc,this]
 rw[p]at a;exact a
def A3(r:aA)(id a v:Int)(m:Nat)(o:ue r m)(D:m<=1000)(h:0<=oY r id)(c:0<=a/\a<=(nth r.O (oY r id).toNat).T.length - 1)(p:0<=v/\v<=999):zzA 419 false [.val (some 2) (aA.enc .W r),.val none [I id],.val none [I a],.val none [I v]] (.tup [some 2,none]) (aA.enc .W (eL r id a v)++[B true]):=by
 have k:=o.sml D;have q:=o.len;have E:=eR r k;have t:=iR r id k.1;obtain⟨J,K,L⟩:=fX (nY id) r.O h;obtain⟨j,l⟩:=V3 h;have d:j<r.O.length:=by unfold oY at l;omega
 have e:=ao d;have F:(nth r.O j).T.length<=1048576:=k.2 _ (am d);obtain⟨b,g⟩:=V3 c.1;have G:eL r id a v = {r with O:=r.O.set j ⟨(nth r.O j).Id,(nth r.O j).T.set b v⟩}:=by
  unfold eL;rw[CD ⟨h,c,p⟩,l,g];rfl
 rw[l]at t c;rw[g]at c |-;simp only[O3]at c;have u:=ao (xs:=(nth r.O j).T) (i:=b) ω;have w:=aH (b:Nat) 0 (((nth r.O j).T.length:Nat) - 1:Int);rw[O0 ω]at w;have y:=aH v 0 999;rw[O0 p]at y;have key:zzA 419 false [.val (some 2) (aA.enc .W r),.val none [I id],.val none [I (b:Nat)],.val none [I v]] (.tup [some 2,none]) (aA.enc .own (eL r id (b:Nat) v)++[B true]):=by
  have n:=nH (eL r id (b:Nat) v) (B true) trivial;rw[<-g,G]at n |-;have H:aA.enc .own {r with O:=r.O.set j ⟨(nth r.O j).Id,(nth r.O j).T.set b v⟩} = [I r.b,.s .own ((r.O.map (bI.enc .own)).set j [I (nth r.O j).Id,.s .own (((nth r.O j).T.map (rI .own)).set b [I v])])]:=by
   simp[aA.enc,bI.enc,rI,V7]
  rw[H]at n |-;rw[g];refine fO 48 [] Tryz.func419 rfl ?_ (.inr n)
  repeat'(first|refine gE ?_|(conv=>whnf);first|with_reducible (first|refine CE (aa e) ?_|refine CE (aa u) ?_|refine CN ω (aa e) ?_)|refine CC ?_|refine C9 (E) ?_|refine C9 (t) ?_|refine C9 (w) ?_|refine C9 (y) ?_|refine CK rfl (aa e) rfl ?_|refine Pu.two rfl rfl (aa e) rfl rfl rfl (aa u) rfl (X3 _) rfl ?_)
  rfl
 have C:=key.fzR;rw[fT,Cg]at C;exact C
def EP(r:aA)(id n:Int)(m:Nat)(l:ue r m)(u:m<=1000)(g:0<=oY r id)(c:1<=n/\n<=(nth r.O (oY r id).toNat).T.length):zzA 421 false [.val (some 2) (aA.enc .W r),.val none [I id],.val none [I n]] (.tup [some 2,none]) (aA.enc .W (fV r id n)++[B true]):=by
 have h:=l.sml u;have o:=l.len;have w:=eR r h;have p:=iR r id h.1;obtain⟨E,F,G⟩:=fX (nY id) r.O g;obtain⟨j,i⟩:=V3 g;have a:j<r.O.length:=by unfold oY at i;omega
 have d:=ao a;have y:(nth r.O j).T.length<=1048576:=h.2 _ (am a);obtain⟨b,e⟩:=V3 (show 0<=n by omega);have C:fV r id n = {r with O:=r.O.set j ⟨(nth r.O j).Id,(nth r.O j).T.take b⟩}:=by
  unfold fV;rw[CD ⟨g,c⟩,i,e];rfl
 rw[i]at p c;rw[e]at c |-;simp only[O3]at c;have q:=aH (b:Nat) 1 (((nth r.O j).T.length:Nat):Int);rw[O0 ω]at q;have key:zzA 421 false [.val (some 2) (aA.enc .W r),.val none [I id],.val none [I (b:Nat)]] (.tup [some 2,none]) (aA.enc .own (fV r id (b:Nat))++[B true]):=by
  have k:=nH (fV r id (b:Nat)) (B true) trivial;rw[<-e,C]at k |-;have D:aA.enc .own {r with O:=r.O.set j ⟨(nth r.O j).Id,(nth r.O j).T.take b⟩} = [I r.b,.s .own ((r.O.map (bI.enc .own)).set j [I (nth r.O j).Id,.s .own (((nth r.O j).T.take b).map (rI .W))])]:=by
   simp only[aA.enc,V7]
   rfl
  rw[D]at k |-;rw[e];refine fO 46 [(5,270,[30,31,32,33,34,35,36,37,38,39,40,41,43,44,0,1,2,3,4,5,6,7,8,9,10,11,12,1000,1001,1002,13,14,15])] Tryz.func421 rfl ?_ (.inr k)
  repeat'(first|refine gE ?_|(conv=>whnf);first|with_reducible (first|refine CE (aa d) ?_|refine CN ω (aa d) ?_)|refine CC ?_|refine C9 (w) ?_|refine C9 (p) ?_|refine C9 (q) ?_|refine CK rfl (aa d) rfl ?_|refine CX b rfl (by rw[I1];omega) (aM λ_=>rfl) C5 ?_|refine CY (λ_=>rfl) (λ_=>rfl) (by rw[C2];omega) (by decide) ?_|refine CR (λ_=>rfl) (λ_=>rfl) (by rw[C2];omega) (by decide) ?_|refine CC ?_|refine CQ rfl rfl (aa d) rfl (O1 rfl) rfl ?_)
  rfl
 have t:=key.fzR;rw[fT,Cg]at t;exact t
def E2(r:aA)(id a v:Int)(m:Nat)(h:ue r m)(l:m<=1000)(u:0<=v/\v<=999):∃b:Bool,zzA 419 false [.val (some 2) (aA.enc .W r),.val none [I id],.val none [I a],.val none [I v]] (.tup [some 2,none]) (aA.enc .W (eL r id a v)++[B b]):=by
 by_cases i:0<=oY r id
 ·by_cases d:0<=a/\a<=(nth r.O (oY r id).toNat).T.length - 1
  ·exact⟨true,A3 r id a v m h l i d u⟩
  refine⟨false,?_⟩;have c:=h.sml l;have o:=h.len;have n:=eR r c;have k:=iR r id c.1;obtain⟨C,D,E⟩:=fX (nY id) r.O i;obtain⟨j,p⟩:=V3 i;have e:j<r.O.length:=by unfold oY at p;omega
  have q:=ao e;have w:(nth r.O j).T.length<=1048576:=c.2 _ (am e);have y:eL r id a v=r:=by unfold eL;rw[CB (λx=>d x.2.1)]
  rw[p]at k d;simp only[O3]at d;have t:=aH a 0 (((nth r.O j).T.length:Nat) - 1:Int);rw[W0 d]at t;rw[y];have key:zzA 419 false [.val (some 2) (aA.enc .W r),.val none [I id],.val none [I a],.val none [I v]] (.tup [some 2,none]) (aA.enc .own r++[B false]):=by
   refine fO 48 [] Tryz.func419 rfl ?_ (.inr (nH r (B false) trivial))
   repeat'(first|refine gE ?_|(conv=>whnf);first|with_reducible refine CE (aa q) ?_|refine CC ?_|refine C9 (n) ?_|refine C9 (k) ?_|refine C9 (t) ?_|refine CK rfl (aa q) rfl ?_)
   rfl
  have g:=key.fzR;rw[fT,Cg]at g;exact g
 refine⟨false,?_⟩;have c:=h.sml l;have n:=eR r c;have k:=iR r id c.1;rw[show eL r id a v=r by unfold eL;rw[CB (λx=>i x.1)]];have key:zzA 419 false [.val (some 2) (aA.enc .W r),.val none [I id],.val none [I a],.val none [I v]] (.tup [some 2,none]) (aA.enc .own r++[B false]):=by
  refine fO 48 [] Tryz.func419 rfl ?_ (.inr (nH r (B false) trivial))
  repeat'(first|refine gE ?_|(conv=>whnf);first|refine CC ?_|refine C9 (n) ?_|refine C9 (k) ?_)
  rfl
 have g:=key.fzR;rw[fT,Cg]at g;exact g
def Fa(r:aA)(id n:Int)(m:Nat)(g:ue r m)(k:m<=1000):∃b:Bool,zzA 421 false [.val (some 2) (aA.enc .W r),.val none [I id],.val none [I n]] (.tup [some 2,none]) (aA.enc .W (fV r id n)++[B b]):=by
 by_cases h:0<=oY r id
 ·by_cases c:1<=n/\n<=(nth r.O (oY r id).toNat).T.length
  ·exact⟨true,EP r id n m g k h c⟩
  refine⟨false,?_⟩;have a:=g.sml k;have o:=g.len;have l:=eR r a;have i:=iR r id a.1;obtain⟨y,C,D⟩:=fX (nY id) r.O h;obtain⟨j,p⟩:=V3 h;have d:j<r.O.length:=by unfold oY at p;omega
  have q:=ao d;have u:(nth r.O j).T.length<=1048576:=a.2 _ (am d);have w:fV r id n=r:=by unfold fV;rw[CB (λx=>c x.2)]
  rw[p]at i c;simp only[O3]at c;have t:=aH n 1 (((nth r.O j).T.length:Nat):Int);rw[W0 c]at t;rw[w];have key:zzA 421 false [.val (some 2) (aA.enc .W r),.val none [I id],.val none [I n]] (.tup [some 2,none]) (aA.enc .own r++[B false]):=by
   refine fO 46 [(5,270,[30,31,32,33,34,35,36,37,38,39,40,41,43,44,0,1,2,3,4,5,6,7,8,9,10,11,12,1000,1001,1002,13,14,15])] Tryz.func421 rfl ?_ (.inr (nH r (B false) trivial))
   repeat'(first|refine gE ?_|(conv=>whnf);first|with_reducible refine CE (aa q) ?_|refine CC ?_|refine C9 (l) ?_|refine C9 (i) ?_|refine C9 (t) ?_|refine CK rfl (aa q) rfl ?_)
   rfl
  have e:=key.fzR;rw[fT,Cg]at e;exact e
 refine⟨false,?_⟩;have a:=g.sml k;have l:=eR r a;have i:=iR r id a.1;rw[show fV r id n=r by unfold fV;rw[CB (λx=>h x.1)]];have key:zzA 421 false [.val (some 2) (aA.enc .W r),.val none [I id],.val none [I n]] (.tup [some 2,none]) (aA.enc .own r++[B false]):=by
  refine fO 46 [(5,270,[30,31,32,33,34,35,36,37,38,39,40,41,43,44,0,1,2,3,4,5,6,7,8,9,10,11,12,1000,1001,1002,13,14,15])] Tryz.func421 rfl ?_ (.inr (nH r (B false) trivial))
  repeat'(first|refine gE ?_|(conv=>whnf);first|refine CC ?_|refine C9 (l) ?_|refine C9 (i) ?_)
  rfl
 have e:=key.fzR;rw[fT,Cg]at e;exact e
structure jf where
 i:Nat
 h:Int
deriving Inhabited
def w64(x:Int):Int:=IntKind.i64.wrap x
def TX(h:Int):Int:=w64 (w64 (h*6364136223846793005)+1442695040888963407)
def TB(a b:Int):Int:=w64 ((BitVec.ofInt IntKind.i64.bits a ^^^ BitVec.ofInt IntKind.i64.bits b).toNat:Nat)
def and255(a:Int):Int:=w64 ((BitVec.ofInt IntKind.i64.bits a &&& BitVec.ofInt IntKind.i64.bits 255).toNat:Nat)
def Qu(h:Int)(n:Nat):Int:=h.fdiv (2 ^ (min n IntKind.i64.bits))
def Db(h:Int):Int:=and255 (TB (Qu h 33) (Qu h 45))
def Bh(a:Int):0<=and255 a/\and255 a<=255:=by
 have b:(BitVec.ofInt IntKind.i64.bits a &&& BitVec.ofInt IntKind.i64.bits 255).toNat<=255:=by
  rw[BitVec.toNat_and];exact C6 Nat.and_le_right (by decide)
 unfold and255 w64;rw[eX ω ω];omega
def dN(zs:List Int)(c:jf):Int × jf:=if c.i<zs.length then(and255 (Db (TX c.h)+nth zs c.i),⟨c.i+1,TX c.h⟩) else(Db (TX c.h),⟨c.i,TX c.h⟩)
def tU(zs:List Int)(c:jf):0<=(dN zs c).1/\(dN zs c).1<=255:=by
 unfold dN;split<;>exact Bh _
variable{zs:List Int}
def jD{c:jf}(h:c.i<=zs.length):(dN zs c).2.i<=zs.length:=by
 unfold dN;split
 ·simp only;omega
 exact h
def BS(zs:List Int)(c:jf):Int × jf:=
 ((dN zs c).1*16777216+(dN zs (dN zs c).2).1*65536+(dN zs (dN zs (dN zs c).2).2).1*256+(dN zs (dN zs (dN zs (dN zs c).2).2).2).1,(dN zs (dN zs (dN zs (dN zs c).2).2).2).2)
def bw(zs:List Int)(c:jf)(n:Int):Int × jf:=if n<=256 then((dN zs c).1 % n,(dN zs c).2) else((BS zs c).1 % n,(BS zs c).2)
def bN(zs:List Int)(c:jf)(h:1<=n):0<=(bw zs c n).1/\(bw zs c n).1<n:=by
 unfold bw;split<;>exact⟨Int.emod_nonneg _ ω,Int.emod_lt_of_pos _ ω⟩
def bT{c:jf}(h:c.i<=zs.length)(n:Int):(bw zs c n).2.i<=zs.length:=by
 unfold bw;split
 ·exact jD h
 exact jD (jD (jD (jD h)))
def lW(zs:List Int)(c:jf)(l:List Int):Int × jf:=(nth l (bw zs c (l.length:Nat)).1.toNat,(bw zs c (l.length:Nat)).2)
def qp(zs:List Int)(c:jf){l:List Int}(h:1<=l.length):(lW zs c l).1∈l:=by
 have:=bN zs c (n:=(l.length:Nat)) ω;exact am ω
def pc(zs:List Int):Nat->Nat->List Int->jf->List Int × jf
 | 0,_,out,c=>(out,(bw zs c 4).2)
 | f+1,i,out,c=>if(i:Int)<(bw zs c 4).1 then pc zs f (i+1) (out++[(bw zs (bw zs c 4).2 12).1]) (bw zs (bw zs c 4).2 12).2 else(out,(bw zs c 4).2)
def Q4(zs:List Int)(c:jf):List Int × jf:=pc zs 4 0 [] c
def Kg(zs:List Int):∀(f i:Nat)(out:List Int)(c:jf),(∀x∈out,0<=x)->out.length+f<=4->c.i<=zs.length->(∀x∈(pc zs f i out c).1,0<=x)/\(pc zs f i out c).1.length<=4/\(pc zs f i out c).2.i<=zs.length
 | 0,_,out,c,b,e,d=>⟨b,by show out.length<=4;omega,bT d _⟩
 | f+1,i,out,c,b,e,d=>by
  unfold pc;split
  ·refine Kg zs f (i+1) _ _ (λx a=>?_) (by simp only[Z3,List.length_singleton];omega) (bT (bT d _) _)
   rcases W3.1 a with a|a
   ·exact b x a
   rw[V1.1 a];exact(bN zs _ (by decide)).1
  exact⟨b,by show out.length<=4;omega,bT d _⟩
def zQ(zs:List Int)(c:jf):Int × jf:=bw zs c 7
def G5(zs:List Int)(c:jf):Int × jf:=bw zs (zQ zs c).2 3
def JA(zs:List Int)(c:jf):Int × jf:=bw zs (G5 zs c).2 100
def Du(zs:List Int)(c:jf):Int × jf:=bw zs (JA zs c).2 4
def RW(zs:List Int)(c:jf):List Int × jf:=Q4 zs (Du zs c).2
def qW(zs:List Int)(c:jf):cT:=⟨(6+(zQ zs c).1).toNat,(6+(zQ zs c).1 - (Du zs c).1).toNat,(1+(G5 zs c).1).toNat,40+(JA zs c).1,(RW zs c).1⟩
def tH{c:jf}(h:c.i<=zs.length):HG (qW zs c)/\(RW zs c).2.i<=zs.length:=by
 have a:=bN zs c (n:=7) (by decide);have b:=bN zs (zQ zs c).2 (n:=3) (by decide);have d:=bN zs (G5 zs c).2 (n:=100) (by decide);have e:=bN zs (JA zs c).2 (n:=4) (by decide);change 0<=(zQ zs c).1/\(zQ zs c).1<7 at a;change 0<=(G5 zs c).1/\(G5 zs c).1<3 at b;change 0<=(JA zs c).1/\(JA zs c).1<100 at d;change 0<=(Du zs c).1/\(Du zs c).1<4 at e;obtain⟨f,k,g⟩:=Kg zs 4 0 [] (Du zs c).2 (λx j=>by cases j) (by simp) (bT (bT (bT (bT h _) _) _) _);refine⟨⟨?_,?_,?_,?_,?_⟩,g⟩
 ·show 1<=(6+(zQ zs c).1).toNat/\(6+(zQ zs c).1).toNat<=32;omega
 ·show 1<=(6+(zQ zs c).1 - (Du zs c).1).toNat/\(6+(zQ zs c).1 - (Du zs c).1).toNat<=32;omega
 ·show 1<=(1+(G5 zs c).1).toNat/\(1+(G5 zs c).1).toNat<=4;omega
 ·show 0<=40+(JA zs c).1/\40+(JA zs c).1<=1000;omega
 exact⟨by show(pc zs 4 0 [] (Du zs c).2).1.length<=40;omega,f⟩
def BX(zs:List Int)(c:jf):Int × jf:=bw zs c 3
def Hp(zs:List Int)(c:jf)(ids:Int):Int × jf:=bw zs (BX zs c).2 ids
def lR(zs:List Int)(c:jf)(ids:Int):Int × jf:=bw zs (Hp zs c ids).2 20
def szs:List Int:=[1,1,2,2,3,4,4,5,8,9,20]
def tc(zs:List Int)(c:jf)(ids:Int):fg × jf:=
 if(lR zs c ids).1<=6 then(⟨1,(BX zs c).1,(lW zs (lR zs c ids).2 szs).1,0,0⟩,(lW zs (lR zs c ids).2 szs).2)
 else if(lR zs c ids).1<=9 then(⟨2,(BX zs c).1,1+(Hp zs c ids).1,0,0⟩,(lR zs c ids).2)
 else if(lR zs c ids).1<=12 then(⟨3,(BX zs c).1,1+(Hp zs c ids).1,(bw zs (lR zs c ids).2 4).1,1+(bw zs (bw zs (lR zs c ids).2 4).2 999).1⟩,(bw zs (bw zs (lR zs c ids).2 4).2 999).2)
 else if(lR zs c ids).1=13 then(⟨4,(BX zs c).1,1+(Hp zs c ids).1,0,9+(bw zs (lR zs c ids).2 10).1⟩,(bw zs (lR zs c ids).2 10).2)
 else if(lR zs c ids).1=14 then(⟨(lW zs (lR zs c ids).2 [5,6]).1,(BX zs c).1,1+(Hp zs c ids).1,0,0⟩,(lW zs (lR zs c ids).2 [5,6]).2)
 else if(lR zs c ids).1=15 then(⟨7,(BX zs c).1,1+(Hp zs c ids).1,0,0⟩,(lR zs c ids).2)
 else if(lR zs c ids).1=16 then(⟨8,(BX zs c).1,(lW zs (lR zs c ids).2 [1,30,60,120]).1,0,0⟩,(lW zs (lR zs c ids).2 [1,30,60,120]).2)
 else if(lR zs c ids).1=17 then(⟨9,(BX zs c).1,1+(Hp zs c ids).1,0,0⟩,(lR zs c ids).2)
 else(⟨10,(BX zs c).1,(lW zs (lR zs c ids).2 [1,2,3,10,30]).1,0,0⟩,(lW zs (lR zs c ids).2 [1,2,3,10,30]).2)
structure Pv(a:fg):Prop where
 k:1<=a.b6/\a.b6<=10
 t:0<=a.a5/\a.a5<=1000000
 n:0<=a.N/\a.N<=1000000
 p:0<=a.At/\a.At<=1000000
 v:0<=a.Value/\a.Value<=1000000
def P0{c:jf}{ids:Int}(h:c.i<=zs.length)(b:1<=ids/\ids<=1000):Pv (tc zs c ids).1/\(tc zs c ids).2.i<=zs.length:=by
 have d:=bN zs c (n:=3) (by decide);have e:=bN zs (BX zs c).2 (n:=ids) b.1;change 0<=(BX zs c).1/\(BX zs c).1<3 at d;change 0<=(Hp zs c ids).1/\(Hp zs c ids).1<ids at e;have a:(lR zs c ids).2.i<=zs.length:=bT (bT (bT h _) _) _;have f:=qp zs (lR zs c ids).2 (l:=szs) (by decide);have g:=qp zs (lR zs c ids).2 (l:=[5,6]) (by decide);have j:=qp zs (lR zs c ids).2 (l:=[1,30,60,120]) (by decide);have k:=qp zs (lR zs c ids).2 (l:=[1,2,3,10,30]) (by decide);have o:=bN zs (lR zs c ids).2 (n:=4) (by decide);have p:=bN zs (bw zs (lR zs c ids).2 4).2 (n:=999) (by decide);have q:=bN zs (lR zs c ids).2 (n:=10) (by decide);simp only[szs,List.mem_cons,List.not_mem_nil,or_false]at f g j k;unfold tc
 repeat' split
 ·exact⟨⟨by simp only;omega,by simp only;omega,by simp only[szs];omega,by simp only;omega,by simp only;omega⟩,bT a _⟩
 ·exact⟨⟨by simp only;omega,by simp only;omega,by simp only;omega,by simp only;omega,by simp only;omega⟩,a⟩
 ·exact⟨⟨by simp only;omega,by simp only;omega,by simp only;omega,by simp only;omega,by simp only;omega⟩,bT (bT a _) _⟩
 ·exact⟨⟨by simp only;omega,by simp only;omega,by simp only;omega,by simp only;omega,by simp only;omega⟩,bT a _⟩
 ·exact⟨⟨by simp only;omega,by simp only;omega,by simp only;omega,by simp only;omega,by simp only;omega⟩,bT a _⟩
 ·exact⟨⟨by simp only;omega,by simp only;omega,by simp only;omega,by simp only;omega,by simp only;omega⟩,a⟩
 ·exact⟨⟨by simp only;omega,by simp only;omega,by simp only;omega,by simp only;omega,by simp only;omega⟩,bT a _⟩
 ·exact⟨⟨by simp only;omega,by simp only;omega,by simp only;omega,by simp only;omega,by simp only;omega⟩,a⟩
 exact⟨⟨by simp only;omega,by simp only;omega,by simp only;omega,by simp only;omega,by simp only;omega⟩,bT a _⟩
def mt(zs:List Int)(c:jf):Nat->List fg × jf
 | 0=>([],(bw zs c 41).2)
 | i+1=>((mt zs c i).1++[(tc zs (mt zs c i).2 (1+(i:Int) / 2)).1],(tc zs (mt zs c i).2 (1+(i:Int) / 2)).2)
def oC(zs:List Int)(c:jf):List fg × jf:=mt zs c (bw zs c 41).1.toNat
def sZ{zs:List Int}{c:jf}(h:c.i<=zs.length):∀{n:Nat},n<=100->(mt zs c n).1.length=n/\(∀a∈(mt zs c n).1,Pv a)/\(mt zs c n).2.i<=zs.length
 | 0,_=>⟨rfl,λa b=>(by cases b),bT h _⟩
 | n+1,k=>by
  obtain⟨d,e,f⟩:=sZ h (n:=n) ω;obtain⟨g,j⟩:=P0 (ids:=1+(n:Int) / 2) f ω;refine⟨by simp only[mt,Z3,List.length_singleton,d],λa b=>?_,j⟩;rcases W3.1 b with b|b
  ·exact e a b
  rw[V1.1 b];exact g
def qG(zs:List Int):Nat->Int
 | 0=>w64 (98801+(zs.length:Nat))
 | i+1=>w64 ((BitVec.ofInt IntKind.i64.bits (w64 (w64 (w64 (qG zs i*131)+nth zs i)+7)) &&& BitVec.ofInt IntKind.i64.bits 1073741823).toNat:Nat)
def vi(zs:List Int):jf:=⟨0,qG zs (min zs.length 4000)⟩
def gv(zs:List Int):jf:=(RW zs (vi zs)).2
def drawn(zs:List Int):br:=(DL (qW zs (vi zs)) (oC zs (gv zs)).1 (oC zs (gv zs)).1.length).1
def GV(zs:List Int):sv (drawn zs) 40:=by
 have a:(vi zs).i<=zs.length:=X0 _;obtain⟨b,d⟩:=tH a;have f:=bN zs (gv zs) (n:=41) (by decide);obtain⟨e,-,-⟩:=sZ (zs:=zs) (c:=gv zs) d (n:=(bw zs (gv zs) 41).1.toNat) ω;refine(xV b _ _).more ?_;show(mt zs (gv zs) _).1.length<=40;rw[e];omega
def rU(z:Int):List C:=[.v (.int .u8 z)]
def iT(zs:List Int)(c:jf):List C:=[.s .W (zs.map rU),I (c.i:Nat),I c.h]
def jO(zs:List Int):Prop:=zs.length<=1048576/\∀z∈zs,0<=z/\z<=255
def lg(zs:List Int)(c:jf)(e:jO zs)(w:c.i<=zs.length):zzB 180 false [.ptr (iT zs c)] [.ptr (iT zs (dN zs c).2)] .one [I (dN zs c).1]:=by
 have g:IntKind.i64.wrap (c.h*6364136223846793005)=w64 (c.h*6364136223846793005):=rfl;have b:IntKind.i64.wrap (w64 (c.h*6364136223846793005)+1442695040888963407)=TX c.h:=rfl;have o:=e.1;generalize p:TX c.h=H at b;have j:H.fdiv (2 ^ (min (33:Int).toNat IntKind.i64.bits))=Qu H 33:=rfl;have k:H.fdiv (2 ^ (min (45:Int).toNat IntKind.i64.bits))=Qu H 45:=rfl;have l:IntKind.i64.wrap (BitVec.ofInt IntKind.i64.bits (Qu H 33) ^^^ BitVec.ofInt IntKind.i64.bits (Qu H 45)).toNat=TB (Qu H 33) (Qu H 45):=rfl;have d:IntKind.i64.wrap (BitVec.ofInt IntKind.i64.bits (TB (Qu H 33) (Qu H 45)) &&& BitVec.ofInt IntKind.i64.bits 255).toNat=Db H:=rfl;have r:0<=Db H/\Db H<=255:=Bh _;unfold dN;rw[p];generalize Db H=y at d r |-;refine fM 58 [] [(2,10,[13,14,15,16,17,18,19,20,21,22]),(3,9,[25,26,27,28,29,30,31,32,33]),(4,12,[35,36,37,38,39,40,41,42,43,44,45,46])] [(0,0)] Tryz.func180 rfl (λu q=>?_);by_cases a:c.i<zs.length
 ·rw[CD a]
  have n:=ao a;have B:=e.2 _ (am a);have t:IntKind.i64.wrap (BitVec.ofInt IntKind.i64.bits (y+nth zs c.i) &&& BitVec.ofInt IntKind.i64.bits 255).toNat=and255 (y+nth zs c.i):=rfl
  repeat'(first|refine gE ?_|(conv=>whnf);first|with_reducible (first|refine CO g ?_|refine CO b ?_|refine CO l ?_|refine CO d ?_|refine CO t ?_|refine CE (aa n) ?_|refine CP (by decide) ?_|refine CS j ?_|refine CS k ?_)|refine CK rfl (aa n) rfl ?_|refine CC ?_)
  refine CJ rfl rfl ?_;exact wB
 rw[CB a]
 repeat'(first|refine gE ?_|(conv=>whnf);first|with_reducible (first|refine CO g ?_|refine CO b ?_|refine CO l ?_|refine CO d ?_|refine CP (by decide) ?_|refine CS j ?_|refine CS k ?_)|refine CC ?_)
 refine CJ rfl rfl ?_;exact wB
def bS(zs:List Int)(c:jf)(n:Int)(b:jO zs)(d:c.i<=zs.length)(p:1<=n):zzB 61 false [.ptr (iT zs c),.val none [I n]] [.ptr (iT zs (bw zs c n).2),.val none [I n]] .one [I (bw zs c n).1]:=by
 have j:=tU zs c;have g:=lg zs c b d;unfold bw;refine fM 37 [(180,[2])] [] [(0,0),(0,0)] Tryz.func61 rfl (λu q=>?_);by_cases h:n<=256
 ·rw[CD h]
  have a:(dN zs c).1.tmod n=(dN zs c).1 % n:=Int.tmod_eq_emod_of_nonneg j.1
  repeat'(first|refine gE ?_|(conv=>whnf);first|with_reducible (first|refine CS a ?_|refine Bf.D (λe=>?_) (λe=>?_))|refine CL (g) (.inl rfl) ?_|refine CP ω ?_)
  refine CJ rfl rfl ?_;exact wB
 rw[CB h];have r:=tU zs (dN zs c).2;have t:=tU zs (dN zs (dN zs c).2).2;have w:=tU zs (dN zs (dN zs (dN zs c).2).2).2;have k:=lg zs (dN zs c).2 b (jD d);have l:=lg zs (dN zs (dN zs c).2).2 b (jD (jD d));have o:=lg zs (dN zs (dN zs (dN zs c).2).2).2 b (jD (jD (jD d)));have a:(BS zs c).1.tmod n=(BS zs c).1 % n:=Int.tmod_eq_emod_of_nonneg (by unfold BS;simp only;omega);unfold BS at a |-;simp only at a
 repeat'(first|refine gE ?_|(conv=>whnf);first|with_reducible (first|refine CS a ?_|refine Bf.D (λe=>?_) (λe=>?_))|refine CL (g) (.inl rfl) ?_|refine CL (k) (.inl rfl) ?_|refine CL (l) (.inl rfl) ?_|refine CL (o) (.inl rfl) ?_|refine CP ω ?_)
 refine CJ rfl rfl ?_;exact wB
def MB(zs:List Int)(c:jf)(l:List Int)(b:jO zs)(d:c.i<=zs.length)(g:1<=l.length/\l.length<=1000):zzB 402 false [.ptr (iT zs c),.val none (aF .W l)] [.ptr (iT zs (lW zs c l).2),.val none (aF .W l)] .one [I (lW zs c l).1]:=by
 have e:=bS zs c (l.length:Nat) b d ω;have h:=bN zs c (n:=(l.length:Nat)) ω;have a:=ao (xs:=l) (i:=(bw zs c (l.length:Nat)).1.toNat) ω;unfold lW;refine fM 12 [(61,[2,0])] [] [(0,0),(0,0)] Tryz.func402 rfl (λu q=>?_)
 repeat'(first|refine gP ?_|(conv=>whnf);first|with_reducible refine CN ω (aa a) ?_|refine CL (e) (.inl rfl) ?_|refine CK rfl (aa a) rfl ?_)
 refine CJ rfl rfl ?_;exact wC
def jC(zs:List Int)(c:jf)(l:List Int)(b:jO zs)(d:c.i<=zs.length)(g:1<=l.length/\l.length<=1000):zzB 402 false [.ptr (iT zs c),.mut none (aF .own l)] [.ptr (iT zs (lW zs c l).2),.mut none (aF .own l)] .one [I (lW zs c l).1]:=by
 have e:=bS zs c (l.length:Nat) b d ω;have h:=bN zs c (n:=(l.length:Nat)) ω;have a:=ao (xs:=l) (i:=(bw zs c (l.length:Nat)).1.toNat) ω;unfold lW;refine fM 12 [(61,[2,0])] [] [(0,0),(1,0)] Tryz.func402 rfl (λu q=>?_)
 repeat'(first|refine gP ?_|(conv=>whnf);first|with_reducible refine CN ω (aa a) ?_|refine CL (e) (.inl rfl) ?_|refine CK rfl (aa a) rfl ?_)
 refine CJ rfl rfl ?_;exact wC
def Lw(zs:List Int):∀(f i:Nat)(out:List Int)(c:jf),(bw zs c 4).1<=i->pc zs f i out c=(out,(bw zs c 4).2)
 | 0,_,_,_,_=>rfl
 | f+1,i,out,c,h=>by unfold pc;rw[CB ω]
def Rj(zs:List Int)(f i:Nat)(out:List Int)(c:jf)(h:(i:Int)<(bw zs c 4).1):pc zs (f+1) i out c=pc zs f (i+1) (out++[(bw zs (bw zs c 4).2 12).1]) (bw zs (bw zs c 4).2 12).2:=by
 show(if _ then _ else _)=_;rw[CD h]
structure Rq where
 i:Nat
 out:List Int
 c:jf
def x7(zs:List Int)(c:jf)(e:jO zs)(j:c.i<=zs.length):zzB 258 false [.ptr (iT zs c)] [.ptr (iT zs (Q4 zs c).2)] .one (aF .own (Q4 zs c).1):=by
 refine fM 18 [(61,[2,0])] [] [(0,0)] Tryz.func258 rfl (λu q=>?_) (.inr (bM _))
 repeat'(first|refine gP ?_|fail)
 (conv=>whnf)
 refine CG (ι:=Rq) (λx=>[(0,.H .box (iT zs x.c)),(3,.H .one (aF .own x.out)),(4,.H .one [I ((x.i:Nat):Int)])]) (λx=>(x.i<=4/\x.out.length<=x.i/\x.c.i<=zs.length)/\pc zs (4 - x.i) x.i x.out x.c=Q4 zs c) (λx=>4 - x.i) (⟨0,[],c⟩) ?_ (⟨⟨X0 _,X0 _,j⟩,rfl⟩) λx k=>?_
 ·exact wC
 obtain⟨i,out,d⟩:=x;obtain⟨⟨l,o,b⟩,a⟩:=k;simp only at l o b a |-;have B:=bN zs d (n:=4) (by decide);have g:=bS zs d 4 e b (by decide);have h:=bT b 4;have p:=bS zs (bw zs d 4).2 12 e h (by decide);have t:=bT h 12;by_cases w:(i:Int)<(bw zs d 4).1
 ·rw[show 4 - i=(4 - (i+1))+1 by omega,Rj zs _ _ _ _ w]at a
  repeat'(first|refine gE ?_|(conv=>whnf);first|refine CL (g) (.inl rfl) ?_|refine CL (p) (.inl rfl) ?_|refine CU cz (λr y=>by rw[V1.1 y];rfl) (by simp[bk,eG]) (by simp;omega) (by simp only[I1];exact zE (by simp;omega) (by decide)) rfl ?_)
  ((conv=>whnf);refine CF ⟨i+1,out++[(bw zs (bw zs d 4).2 12).1],(bw zs (bw zs d 4).2 12).2⟩ ⟨⟨by simp only;omega,by simp only[Z3,List.length_singleton];omega,t⟩,a⟩ (by simp only;omega) ?_)
  repeat'(first|exact trivial|rfl| exact dK _ |exact CM rfl (CM (Z0 (C.s dM.own) (by simp[rI])) trivial)|refine CM ?_ ?_|(exact Ac (by first|omega|(simp only;omega)|(simp;omega))))
 rw[Lw zs _ _ _ _ ω]at a;rw[<-a]
 repeat'(first|refine gE ?_|(conv=>whnf);first|refine CL (g) (.inl rfl) ?_)
 refine CJ rfl rfl ?_;exact wC
def cT.enc(o:dM)(c:cT):List C:=[I (c.a4:Nat),I (c.U:Nat),I (c.c6:Nat),I c.c2,.s o (c.u.map (rI o))]
def cT.enc_fz(c:cT):eg (cT.enc .own c)=cT.enc .W c:=by simp[eg,cT.enc,rI,<-cn,I7]
def cT.enc_fr(c:cT):hO (cT.enc .own c):=⟨trivial,trivial,trivial,trivial,⟨.inl λh=>(by cases h),bc _ _ λy _=>rk y⟩,trivial⟩
def yt(zs:List Int)(c:jf)(a:jO zs)(h:c.i<=zs.length):zzB 113 false [.ptr (iT zs c)] [.ptr (iT zs (RW zs c).2)] .agg (cT.enc .own (qW zs c)):=by
 have j:=bT h 7;have k:=bT j 3;have l:=bT k 100;have y:=bT l 4;have b:=bS zs c 7 a h (by decide);have d:=bS zs (zQ zs c).2 3 a j (by decide);have e:=bS zs (G5 zs c).2 100 a k (by decide);have g:=bS zs (JA zs c).2 4 a l (by decide);have o:=x7 zs (Du zs c).2 a y;have p:=bN zs c (n:=7) (by decide);have r:=bN zs (zQ zs c).2 (n:=3) (by decide);have B:=bN zs (G5 zs c).2 (n:=100) (by decide);have t:=bN zs (JA zs c).2 (n:=4) (by decide);have w:=cT.enc_fr (qW zs c);have C:cT.enc .own (qW zs c)=[I (6+(zQ zs c).1),I (6+(zQ zs c).1 - (Du zs c).1),I (1+(G5 zs c).1),I (40+(JA zs c).1),.s .own ((RW zs c).1.map (rI .own))]:=by
  have D:0<=(zQ zs c).1/\(zQ zs c).1<7:=p;have E:0<=(G5 zs c).1/\(G5 zs c).1<3:=r;have F:0<=(Du zs c).1/\(Du zs c).1<4:=t;unfold cT.enc qW;simp only;rw[Int.toNat_of_nonneg ω,Int.toNat_of_nonneg ω,Int.toNat_of_nonneg ω]
 rw[C]at w |-;change aT _ _ _ _ [.ptr (iT zs (zQ zs c).2),_] _ _ at b;change aT _ _ _ _ [.ptr (iT zs (G5 zs c).2),_] _ _ at d;change aT _ _ _ _ [.ptr (iT zs (JA zs c).2),_] _ _ at e;change aT _ _ _ _ [.ptr (iT zs (Du zs c).2),_] _ _ at g;change aT _ _ _ _ [.ptr (iT zs (RW zs c).2)] _ (aF .own (RW zs c).1) at o;change aT _ _ _ _ _ _ [I (zQ zs c).1]at b;change aT _ _ _ _ _ _ [I (G5 zs c).1]at d;change aT _ _ _ _ _ _ [I (JA zs c).1]at e;change aT _ _ _ _ _ _ [I (Du zs c).1]at g;change 0<=(zQ zs c).1/\(zQ zs c).1<7 at p;change 0<=(G5 zs c).1/\(G5 zs c).1<3 at r;change 0<=(JA zs c).1/\(JA zs c).1<100 at B;change 0<=(Du zs c).1/\(Du zs c).1<4 at t;generalize RW zs c=r5 at *;generalize Du zs c=r4 at *;generalize JA zs c=r3 at *;generalize G5 zs c=r2 at *;generalize zQ zs c=r1 at *;refine fM 24 [(61,[2,0]),(258,[2])] [(2,65536,[])] [(0,0)] Tryz.func113 rfl (λu q=>?_) (.inr w)
 repeat'(first|refine gP ?_|(conv=>whnf);first|refine CL (b) (.inl rfl) ?_|refine CL (d) (.inl rfl) ?_|refine CL (e) (.inl rfl) ?_|refine CL (g) (.inl rfl) ?_|refine CL (o) (.inl rfl) ?_|refine CM ?_ ?_)
 all_goals
  refine CJ rfl rfl ?_;exact wC
def yd(n:Nat)(e:1<=n/\n<=32):zzA 569 false [.val none [I (n:Nat)]] (.tup [some 2,none]) (aW.enc .own (gJ n)++[B true]):=by
 have c:=aH ((n:Nat):Int) 1 32;rw[O0 ω]at c;have a:=aG (b:=[B true]) (aW.enc_fr (gJ n)) ⟨trivial,trivial⟩;rw[show aW.enc .own (gJ n)=_ from HE n n]at a |-;refine fO 28 [(7,4,[16,17,18,19])] Tryz.func569 rfl ?_ (.inr a)
 repeat'(first|refine gP ?_|(conv=>whnf);first|refine CC ?_|refine C9 (c) ?_)
 (conv=>whnf)
 refine CG (ι:=Nat) (λk=>[(0,.H .one [I ((n:Nat))]),(2,.H .box [.z,.z]),(4,.H .box [.s .own (List.replicate k [.s .own (List.replicate 16 [I 0])]),.s .own (List.replicate k [B false])]),(5,.H .one [I ((k:Nat):Int)])]) (λk=>k<=n) (λk=>n - k) (0) ?_ (X0 _) λk g=>?_
 ·exact wB
 by_cases h:k<n
 ·repeat'(first|refine gE ?_|(conv=>whnf);first|refine CC ?_|refine Mk.mk 16 rfl rfl (by decide) (by decide) rfl ?_|refine Ap.sn (λr d=>by rw[(List.mem_replicate.1 d).2];rfl) rfl (by simp;omega) (by decide) (F4 _ k) ?_)
  ((conv=>whnf);refine CF (k+1) ω ω ?_;(exact wB))
 obtain rfl:k=n:=ω
 repeat'(first|refine gE ?_|(conv=>whnf);first|refine CC ?_)
 rfl
def An(n:Nat)(e:1<=n/\n<=32):zzA 570 false [.val none [I (n:Nat)]] (.tup [some 1,none]) (aI.enc .own (gf n)++[B true]):=by
 have c:=aH ((n:Nat):Int) 1 32;rw[O0 ω]at c;have a:=aG (b:=[B true]) (aI.enc_fr (gf n)) ⟨trivial,trivial⟩;have d:aI.enc .own (gf n)=[.s .own (List.replicate n [I 0,I 0])]:=by simp[aI.enc,gf,bi.enc,List.map_replicate]
 rw[d]at a |-;refine fO 11 [] Tryz.func570 rfl ?_ (.inr a)
 repeat'(first|refine gP ?_|(conv=>whnf);first|refine CC ?_|refine C9 (c) ?_|refine Mk.mk n rfl rfl ω (zE ω (by decide)) rfl ?_)
 rfl
def wu(p f:Nat)(a:1<=p/\p<=32)(b:1<=f/\f<=32):zzA 508 false [.val none [I (p:Nat)],.val none [I (f:Nat)]] (.tup [some 3,none]) (aS.enc .own ⟨gJ f,gf p⟩++[B true]):=by
 refine fO 30 [] Tryz.func508 rfl ?_ (.inr (aG (aS.enc_fr _) ⟨trivial,trivial⟩))
 repeat'(first|refine gP ?_|(conv=>whnf);first|refine CC ?_|refine C9 (yd f b) ?_|refine C9 (An p a) ?_)
 rfl
def xm(p f:Nat)(a:List Int)(b:1<=p/\p<=32)(c:1<=f/\f<=32)(d:a.length<=40/\∀x∈a,0<=x):zzA 412 false [.val none [I (p:Nat)],.val none [I (f:Nat)],.val none (aF .W a)] (.tup [some 5,none]) (af.enc .own (bZ p f a)++[B true]):=by
 have e:=rp b c d;have h:=d.1;have g:=mF (bZ p f a) (bj e);rw[e]at g;refine fO 31 [(2,260,[17,18,19,10,0,1,2,5,3,1000,1005,4,1005,6])] Tryz.func412 rfl ?_ (.inr (aG (Cf _) ⟨trivial,trivial⟩))
 repeat'(first|refine gP ?_|(conv=>whnf);first|refine CC ?_|refine C9 (wu p f b c) ?_|refine CH (g) ⟨⟨rfl,CT (bZ p f a)⟩,trivial⟩ ?_|refine CR (λ_=>rfl) (λ_=>rfl) ω (by decide) ?_|refine CY (λ_=>rfl) (λ_=>rfl) ω (by decide) ?_|refine CC ?_)
 rfl
def Ur(p f t:Nat)(lim:Int)(a:List Int)(k:Nat):ab:={caps (newHeap p f t lim a) k with a9:=⟨0,[]⟩}
def ES(p f t:Nat)(lim:Int)(a:List Int)(c:1<=p/\p<=32)(d:1<=f/\f<=32)(e:1<=t/\t<=4)(g:0<=lim/\lim<=1000)(h:a.length<=40/\∀x∈a,0<=x):zzA 271 false [.val none [I (p:Nat)],.val none [I (f:Nat)],.val none [I (t:Nat)],.val none [I lim],.val none (aF .W a)] (.tup [some 24,none]) (ab.enc .own (newHeap p f t lim a)++[B true]):=by
 have b:=aH lim 0 1000;rw[O0 g]at b;refine fO 66 [(9,4,[54,55,56,57])] Tryz.func271 rfl ?_ (.inr (aG (ab.enc_fr _) ⟨trivial,trivial⟩))
 repeat'(first|refine gP ?_|(conv=>whnf);first|refine CC ?_|refine C9 (xm p f a c d h) ?_|refine C9 (EB t e) ?_|refine C9 (b) ?_|refine C9 (td) ?_)
 (conv=>whnf)
 refine CG (ι:=Nat) (λk=>[(2,.H .one [I ((t:Nat))]),(10,.H .box [.z,.z,.z,I 0,.z,.z,.z,.z,.z,.z,.z,.z,I 0,.z,I 0,I 0,I 0,I 0,B false,I 0,I 0,.z,I 0,I 0]),(16,.H .box (ab.enc .own (Ur p f t lim a k))),(17,.H .one [I ((k:Nat):Int)])]) (λk=>k<=t) (λk=>t - k) (0) ?_ (X0 _) λk i=>?_
 ·exact wB
 by_cases j:k<t
 ·repeat'(first|refine gE ?_|(conv=>whnf);first|refine CC ?_|refine C9 (A2) ?_|refine Ap.sn Py rfl (by rw[I1];show(List.replicate _ fZ).length+1<=_;rw[V4];omega) (by decide) (Mn k) ?_)
  ((conv=>whnf);refine CF (k+1) ω ω ?_;(exact wB))
 obtain rfl:k=t:=ω
 repeat'(first|refine gE ?_|(conv=>whnf);first|refine CC ?_|refine C9 (td) ?_)
 rfl
def Hi:zzA 272 false [] .agg (aA.enc .own ⟨1,[]⟩):=by
 refine fO 2 [] Tryz.func272 rfl ?_ (.inr (aA.enc_fr _))
 repeat'((conv=>whnf);first|with_reducible (first|refine Lm ?_|refine Wm ω ?_|refine Bn ?_|refine jm.wk rfl ?_)|refine Bt ?_|refine Bu ?_|refine CC ?_)
 exact⟨rfl,rfl,trivial⟩
def zR(c:cT)(h:HG c):zzA 120 false [.val (some 5) (cT.enc .W c)] (.tup [some 26,none]) (br.enc .own (world0 c)++[B true]):=by
 have a:=ES c.a4 c.U c.c6 c.c2 c.u h.p h.f h.t h.l h.r;refine fO 26 [(4,2,[23,24])] Tryz.func120 rfl ?_ (.inr (aG (br.enc_fr _) ⟨trivial,trivial⟩))
 repeat'(first|refine gP ?_|(conv=>whnf);first|refine CC ?_|refine C9 (a) ?_|refine C9 (Hi) ?_)
 rfl
def pY(o:dM)(l:List fg):List C:=[.s o (l.map (fg.enc o))]
def fg.enc_fr(x:fg):hO (fg.enc .own x):=⟨trivial,trivial,trivial,trivial,trivial,trivial⟩
def LK(l:List fg):hO (pY .own l):=⟨⟨.inl λh=>(by cases h),bc _ _ λy _=>fg.enc_fr y⟩,trivial⟩
def Lj(l:List fg):eg (pY .own l)=pY .W l:=by simp[eg,pY,fg.enc,<-cn,I7]
def Gh(zs:List Int)(c:jf)(ids:Int)(b:jO zs)(p:c.i<=zs.length)(r:1<=ids/\ids<=1000):zzB 259 false [.ptr (iT zs c),.val none [I ids]] [.ptr (iT zs (tc zs c ids).2),.val none [I ids]] .agg (fg.enc .own (tc zs c ids).1):=by
 have w:=bT p 3;have y:=bT w ids;have d:(lR zs c ids).2.i<=zs.length:=bT y 20;have B:=bS zs c 3 b p (by decide);have C:=bS zs (BX zs c).2 ids b w r.1;have j:=bS zs (Hp zs c ids).2 20 b y (by decide);have H:=bN zs c (n:=3) (by decide);have J:=bN zs (BX zs c).2 (n:=ids) r.1;have D:=bN zs (Hp zs c ids).2 (n:=20) (by decide);have e:=jC zs (lR zs c ids).2 szs b d (by decide);have E:=jC zs (lR zs c ids).2 [5,6] b d (by decide);have F:=jC zs (lR zs c ids).2 [1,30,60,120] b d (by decide);have l:=jC zs (lR zs c ids).2 [1,2,3,10,30] b d (by decide);have g:=bS zs (lR zs c ids).2 4 b d (by decide);have h:=bS zs (bw zs (lR zs c ids).2 4).2 999 b (bT d _) (by decide);have G:=bS zs (lR zs c ids).2 10 b d (by decide);have K:=bN zs (bw zs (lR zs c ids).2 4).2 (n:=999) (by decide);have L:=bN zs (lR zs c ids).2 (n:=10) (by decide);change aT _ _ _ _ [.ptr (iT zs (BX zs c).2),_] _ [I (BX zs c).1]at B;change aT _ _ _ _ [.ptr (iT zs (Hp zs c ids).2),_] _ [I (Hp zs c ids).1]at C;change aT _ _ _ _ [.ptr (iT zs (lR zs c ids).2),_] _ [I (lR zs c ids).1]at j;change 0<=(BX zs c).1/\(BX zs c).1<3 at H;change 0<=(Hp zs c ids).1/\(Hp zs c ids).1<ids at J;change 0<=(lR zs c ids).1/\(lR zs c ids).1<20 at D;have o:=fg.enc_fr (tc zs c ids).1;unfold tc at o |-;generalize lR zs c ids=k at *;generalize Hp zs c ids=n at *;generalize BX zs c=t at *;obtain⟨a,M⟩:=k;dsimp only at d e E F l g h G K L D j o |-;refine fM 77 [(61,[2,0]),(402,[2,1])] [] [(0,0),(0,0)] Tryz.func259 rfl (λu q=>?_) (.inr o)
 repeat'(first|refine gP ?_|(conv=>whnf);first|refine CL (B) (.inl rfl) ?_|refine CL (C) (.inl rfl) ?_|refine CL (j) (.inl rfl) ?_)
 obtain rfl|rfl|rfl|rfl|rfl|rfl|rfl|rfl|rfl|rfl|rfl|rfl|rfl|rfl|rfl|rfl|rfl|rfl|rfl|rfl:=(show a=0\/a=1\/a=2\/a=3\/a=4\/a=5\/a=6\/a=7\/a=8\/a=9\/a=10\/a=11\/a=12\/a=13\/a=14\/a=15\/a=16\/a=17\/a=18\/a=19 by omega)
 ·rw[CD (show((0:Int))<=6 by decide)]
  repeat'(first|refine gP ?_|(conv=>whnf);first|refine CL (e) (.inl rfl) ?_)
  refine CJ rfl rfl ?_;exact wC
 ·rw[CD (show((1:Int))<=6 by decide)]
  repeat'(first|refine gP ?_|(conv=>whnf);first|refine CL (e) (.inl rfl) ?_)
  refine CJ rfl rfl ?_;exact wC
 ·rw[CD (show((2:Int))<=6 by decide)]
  repeat'(first|refine gP ?_|(conv=>whnf);first|refine CL (e) (.inl rfl) ?_)
  refine CJ rfl rfl ?_;exact wC
 ·rw[CD (show((3:Int))<=6 by decide)]
  repeat'(first|refine gP ?_|(conv=>whnf);first|refine CL (e) (.inl rfl) ?_)
  refine CJ rfl rfl ?_;exact wC
 ·rw[CD (show((4:Int))<=6 by decide)]
  repeat'(first|refine gP ?_|(conv=>whnf);first|refine CL (e) (.inl rfl) ?_)
  refine CJ rfl rfl ?_;exact wC
 ·rw[CD (show((5:Int))<=6 by decide)]
  repeat'(first|refine gP ?_|(conv=>whnf);first|refine CL (e) (.inl rfl) ?_)
  refine CJ rfl rfl ?_;exact wC
 ·rw[CD (show((6:Int))<=6 by decide)]
  repeat'(first|refine gP ?_|(conv=>whnf);first|refine CL (e) (.inl rfl) ?_)
  refine CJ rfl rfl ?_;exact wC
 ·rw[CB (show ¬((7:Int)<=6) by decide),CD (show((7:Int))<=9 by decide)]
  repeat'(first|refine gP ?_|fail)
  refine CJ rfl rfl ?_;exact wC
 ·rw[CB (show ¬((8:Int)<=6) by decide),CD (show((8:Int))<=9 by decide)]
  repeat'(first|refine gP ?_|fail)
  refine CJ rfl rfl ?_;exact wC
 ·rw[CB (show ¬((9:Int)<=6) by decide),CD (show((9:Int))<=9 by decide)]
  repeat'(first|refine gP ?_|fail)
  refine CJ rfl rfl ?_;exact wC
 ·rw[CB (show ¬((10:Int)<=6) by decide),CB (show ¬((10:Int)<=9) by decide),CD (show((10:Int))<=12 by decide)]
  repeat'(first|refine gP ?_|(conv=>whnf);first|refine CL (g) (.inl rfl) ?_|refine CL (h) (.inl rfl) ?_)
  refine CJ rfl rfl ?_;exact wC
 ·rw[CB (show ¬((11:Int)<=6) by decide),CB (show ¬((11:Int)<=9) by decide),CD (show((11:Int))<=12 by decide)]
  repeat'(first|refine gP ?_|(conv=>whnf);first|refine CL (g) (.inl rfl) ?_|refine CL (h) (.inl rfl) ?_)
  refine CJ rfl rfl ?_;exact wC
 ·rw[CB (show ¬((12:Int)<=6) by decide),CB (show ¬((12:Int)<=9) by decide),CD (show((12:Int))<=12 by decide)]
  repeat'(first|refine gP ?_|(conv=>whnf);first|refine CL (g) (.inl rfl) ?_|refine CL (h) (.inl rfl) ?_)
  refine CJ rfl rfl ?_;exact wC
 ·rw[CB (show ¬((13:Int)<=6) by decide),CB (show ¬((13:Int)<=9) by decide),CB (show ¬((13:Int)<=12) by decide),CD (show((13:Int))=13 by decide)]
  repeat'(first|refine gP ?_|(conv=>whnf);first|refine CL (G) (.inl rfl) ?_)
  refine CJ rfl rfl ?_;exact wC
 ·rw[CB (show ¬((14:Int)<=6) by decide),CB (show ¬((14:Int)<=9) by decide),CB (show ¬((14:Int)<=12) by decide),CB (show ¬((14:Int)=13) by decide),CD (show((14:Int))=14 by decide)]
  repeat'(first|refine gP ?_|(conv=>whnf);first|refine CL (E) (.inl rfl) ?_)
  refine CJ rfl rfl ?_;exact wC
 ·rw[CB (show ¬((15:Int)<=6) by decide),CB (show ¬((15:Int)<=9) by decide),CB (show ¬((15:Int)<=12) by decide),CB (show ¬((15:Int)=13) by decide),CB (show ¬((15:Int)=14) by decide),CD (show((15:Int))=15 by decide)]
  repeat'(first|refine gP ?_|fail)
  refine CJ rfl rfl ?_;exact wC
 ·rw[CB (show ¬((16:Int)<=6) by decide),CB (show ¬((16:Int)<=9) by decide),CB (show ¬((16:Int)<=12) by decide),CB (show ¬((16:Int)=13) by decide),CB (show ¬((16:Int)=14) by decide),CB (show ¬((16:Int)=15) by decide),CD (show((16:Int))=16 by decide)]
  repeat'(first|refine gP ?_|(conv=>whnf);first|refine CL (F) (.inl rfl) ?_)
  refine CJ rfl rfl ?_;exact wC
 ·rw[CB (show ¬((17:Int)<=6) by decide),CB (show ¬((17:Int)<=9) by decide),CB (show ¬((17:Int)<=12) by decide),CB (show ¬((17:Int)=13) by decide),CB (show ¬((17:Int)=14) by decide),CB (show ¬((17:Int)=15) by decide),CB (show ¬((17:Int)=16) by decide),CD (show((17:Int))=17 by decide)]
  repeat'(first|refine gP ?_|fail)
  refine CJ rfl rfl ?_;exact wC
 ·rw[CB (show ¬((18:Int)<=6) by decide),CB (show ¬((18:Int)<=9) by decide),CB (show ¬((18:Int)<=12) by decide),CB (show ¬((18:Int)=13) by decide),CB (show ¬((18:Int)=14) by decide),CB (show ¬((18:Int)=15) by decide),CB (show ¬((18:Int)=16) by decide),CB (show ¬((18:Int)=17) by decide)]
  repeat'(first|refine gP ?_|(conv=>whnf);first|refine CL (l) (.inl rfl) ?_)
  refine CJ rfl rfl ?_;exact wC
 rw[CB (show ¬((19:Int)<=6) by decide),CB (show ¬((19:Int)<=9) by decide),CB (show ¬((19:Int)<=12) by decide),CB (show ¬((19:Int)=13) by decide),CB (show ¬((19:Int)=14) by decide),CB (show ¬((19:Int)=15) by decide),CB (show ¬((19:Int)=16) by decide),CB (show ¬((19:Int)=17) by decide)]
 repeat'(first|refine gP ?_|(conv=>whnf);first|refine CL (l) (.inl rfl) ?_)
 refine CJ rfl rfl ?_;exact wC
def EG(zs:List Int)(c:jf)(b:jO zs)(d:c.i<=zs.length):zzB 114 false [.ptr (iT zs c),.val none [I 40]] [.ptr (iT zs (oC zs c).2),.val none [I 40]] .one (pY .own (oC zs c).1):=by
 have e:=bS zs c 41 b d (by decide);have g:=bN zs c (n:=41) (by decide);obtain⟨n,h⟩:=V3 g.1;have a:(bw zs c 41).1.toNat=n:=by rw[h];rfl
 unfold oC;rw[a];rw[h]at e g;refine fM 27 [(61,[2,0]),(259,[2,0])] [] [(0,0),(0,0)] Tryz.func114 rfl (λu q=>?_) (.inr (LK _))
 repeat'(first|refine gP ?_|(conv=>whnf);first|refine CL (e) (.inl rfl) ?_)
 (conv=>whnf)
 refine CG (ι:=Nat) (λi=>[(0,.H .box (iT zs (mt zs c i).2)),(5,.H .one (pY .own (mt zs c i).1)),(6,.H .one [I ((n:Nat):Int)]),(7,.H .one [I ((i:Nat):Int)])]) (λi=>i<=n) (λi=>n - i) (0) ?_ (X0 _) λi p=>?_
 ·exact wC
 obtain⟨t,-,j⟩:=sZ (zs:=zs) (c:=c) d (n:=i) ω;by_cases w:i<n
 ·have k:=Gh zs (mt zs c i).2 (1+(i:Int) / 2) b j ω
  have l:((i:Nat):Int).tdiv 2=(i:Int) / 2:=Int.tdiv_eq_ediv_of_nonneg ω
  repeat'(first|refine gE ?_|(conv=>whnf);first|with_reducible (first|refine CS l ?_|refine CP ω ?_)|refine CL (k) (.inl rfl) ?_|refine CU (aM λ_=>rfl) (λr o=>by rw[V1.1 o];rfl) (by simp[bk,eG,fg.enc]) (by simp;omega) (by simp only[I1];exact zE (by simp;omega) (by decide)) rfl ?_)
  ((conv=>whnf);refine CF (i+1) ω ω ?_)
  repeat'(first|exact trivial|rfl| exact dK _ |exact CM rfl (CM (Z0 (C.s dM.own) (by simp[mt];rfl)) trivial)|refine CM ?_ ?_|(exact Ac (by first|omega|(simp only;omega)|(simp;omega))))
 obtain rfl:i=n:=ω
 repeat'(first|refine gE ?_|fail)
 refine CJ rfl rfl ?_;exact wC
def rfs(h:ab):List Int:=h.G.u
def D5(k:af)(p:Int):(newK k p).1.u=k.u:=by unfold newK;split<;>rfl
def sQ(k:af)(p:Int):∀n,(newsK k p n).1.u=k.u
 | 0=>rfl
 | n+1=>by
  unfold newsK;split
  ·exact(D5 _ _).trans (sQ k p n)
  exact sQ k p n
def Pe(h:ab)(i:Nat):rfs (qN h i).1=rfs h:=by unfold qN;split<;>rfl
def Bm(h:ab)(t c:Nat):rfs (smallA h t c).1=rfs h:=by
 unfold smallA;split
 ·rfl
 split
 ·rfl
 split
 ·rfl
 split
 ·exact D5 _ _
 exact(Pe _ _).trans (D5 _ _)
def LX(h:ab)(t n:Int):rfs (allocH h t n).1=rfs h:=by
 unfold allocH;split
 ·rfl
 split
 ·rfl
 split
 ·rfl
 split
 ·rfl
 split
 ·split
  ·exact Bm _ _ _
  exact Bm _ _ _
 unfold largeA;split
 ·rfl
 split
 ·exact sQ _ _ _
 exact((qq _ _ _).2).trans (sQ _ _ _)
def PE(h:ab)(t i:Nat):rfs (freeT h t i).1=rfs h:=by
 unfold freeT;split
 ·exact(qq _ _ _).2
 split
 ·rfl
 split
 ·exact(ia t _ _).2.2.2.2.2.2.2
 split<;>rfl
def BB(t:Nat)(h:ab):∀k,rfs (flushN t h k).1=rfs h
 | 0=>rfl
 | k+1=>((gk _ (spilt (flushN t h k).1 t k)).2.2.2.2.2.2.2).trans (BB t h k)
def Jm{h:ab}(a:aU h [])(b:JI h):∀n,rfs (stN h n).1=rfs h
 | 0=>rfl
 | n+1=>by
  obtain⟨c,d⟩:=yY a b n;unfold stN;split
  ·rename_i e
   unfold u9 at e;rw[I0]at e;exact((rJ c e.1).2.2.1).trans (Jm a b n)
  exact Jm a b n
def Nz{w:br}{m:Nat}(h:sv w m)(a:fg):rfs (pv w a).1.Z=rfs w.Z:=by
 unfold pv;split
 ·exact LX _ _ _
 split
 ·split
  ·rfl
  unfold nJ;split
  ·unfold tJ
   split
   ·rfl
   split
   ·exact PE _ _ _
   rfl
  split
  ·unfold p9
   split
   ·rfl
   split
   ·rfl
   split<;>rfl
  unfold sO;split
  ·exact((qq _ _ _).2).trans (qb _ _ _).2.2
  rfl
 split
 ·unfold gG
  split
  ·split<;>rfl
  split
  ·rfl
  split
  ·exact(ia _ _ _).2.2.2.2.2.2.2
  exact BB _ _ _
 split
 ·unfold qz
  split
  ·exact(gk _ _).2.2.2.2.2.2.2
  rfl
 split
 ·unfold q8
  split
  ·rfl
  show rfs (started w.Z).1=_;unfold rfs;rw[(vZ h.inv).2.1]
 split
 ·exact Jm h.inv h.ji _
 rfl
def Jk{c:cT}(h:HG c)(acts:List fg):∀n,rfs (DL c acts n).1.Z=c.u
 | 0=>rfl
 | n+1=>(Nz (xV h acts n) _).trans (Jk h acts n)
def rC(w:br):List C:=bE w.Z++aA.enc .W w.b5
def QI(w:br):eg (rC w)=br.enc .W w:=by
 unfold rC;rw[fT,bK,<-Cg,tD,Cg]
 rfl
def Gn(w:br)(id:Int)(g:w.Z.O.length<=1048576):zzB 274 false [.ptr (rC w),.val none [I id]] [.ptr (rC w),.val none [I id]] .one [I (qX w.Z id)]:=by
 refine fM 28 [] [] [(0,0),(0,0)] Tryz.func274 rfl (λu q=>?_)
 repeat'(first|refine gP ?_|(conv=>whnf);first|refine CC ?_)
 (conv=>whnf)
 refine CG (ι:=Nat) (λi=>[(0,.H .box (rC w)),(1,.H .one [I (id)]),(5,.H .one [I ((i:Nat):Int)])]) (λi=>i<=w.Z.O.length/\∀(j:Nat)(z:bu),j<i->w.Z.O[j]? = some z->MR id z=false) (λi=>w.Z.O.length - i) (0) ?_ (⟨X0 _,λj z h=>ω⟩) λi c=>?_
 ·exact wC
 obtain⟨c,b⟩:=c;by_cases d:i<w.Z.O.length
 ·have a:=ao d
  by_cases e:(nth w.Z.O i).Id=id
  ·repeat'(first|refine gB ?_|(conv=>whnf);first|with_reducible refine CE (aa a) ?_|refine CC ?_|refine CK rfl (aa a) rfl ?_)
   refine CJ rfl (Z0 (λz=>[I z]) (dS a (O0 e) b).symm) ?_;exact wC
  repeat'(first|refine gB ?_|(conv=>whnf);first|with_reducible refine CE (aa a) ?_|refine CC ?_|refine CK rfl (aa a) rfl ?_)
  ((conv=>whnf);refine CF (i+1) ⟨ω,fY a (W0 e) b⟩ ω ?_;(exact wC))
 repeat'(first|refine gE ?_|(conv=>whnf);first|refine CC ?_)
 refine CJ rfl (Z0 (λz=>[I z]) (gx ω b).symm) ?_;exact wC
def dh(y:ab):(bE y).length=24:=rfl
def zT(w:br)(m n:Nat)(h:sv w m)(B:n<=50):zzB 280 false [.ptr (rC w),.val none [I (n:Nat)]] [.ptr (rC ⟨(stN w.Z n).1,w.b5⟩),.val none [I (n:Nat)]] .one [I ((stN w.Z n).2:Nat)]:=by
 refine fM 35 [(431,[2])] [] [(0,0),(0,0)] Tryz.func280 rfl (λu q=>?_)
 repeat'(first|refine gP ?_|(conv=>whnf);first|refine CC ?_)
 (conv=>whnf)
 refine CG (ι:=Nat) (λi=>[(0,.H .box (rC ⟨(stN w.Z i).1,w.b5⟩)),(1,.H .one [I ((n:Nat):Int)]),(5,.H .one [I (((stN w.Z i).2:Nat):Int)]),(6,.H .one [I ((i:Nat):Int)])]) (λi=>i<=n/\(stN w.Z i).2=i) (λi=>n - i) (0) ?_ (⟨X0 _,rfl⟩) λi l=>?_
 ·exact wC
 obtain⟨l,C⟩:=l;obtain⟨o,D⟩:=yY h.inv h.ji i;have b:stN w.Z (i+1)=if u9 (stN w.Z i).1=true then(mStep (stN w.Z i).1,(stN w.Z i).2+1) else stN w.Z i:=rfl
 have p:=(a7.1 o.ker).2.2.2.2;by_cases E:i<n
 ·cases c:(stN w.Z i).1.o with
  | true=>
   have y:=(EJ _ o c).frame (r:=aA.enc .W w.b5) ((dh _).trans (dh _).symm);by_cases g:(stN w.Z i).1.G.Calls<=99000
   ·have d:u9 (stN w.Z i).1=true:=by unfold u9;rw[c,O0 g];rfl
    rw[CD d]at b;generalize stN w.Z i=s at *
    repeat'(first|refine gE ?_|(conv=>whnf);first|refine CC ?_|refine Bf.t (O0 g) ?_|refine Bf.t c ?_|refine CL (y) (.inl rfl) ?_)
    ((conv=>whnf);refine CF (i+1) ⟨ω,by rw[b];simp only;omega⟩ ω ?_)
    rw[b];exact wC
   have d:u9 (stN w.Z i).1=false:=by unfold u9;rw[c,W0 g];rfl
   have a:∀k,stN w.Z (i+k)=stN w.Z i:=λk=>by
    induction k with
    | zero=>rfl
    | succ k j=>show(if u9 (stN w.Z (i+k)).1=true then _ else stN w.Z (i+k))=_;rw[j,d,CB (by simp)]
   have e:=a (n - i);rw[show i+(n - i)=n by omega]at e;rw[e];generalize stN w.Z i=s at *
   repeat'(first|refine gE ?_|(conv=>whnf);first|refine CC ?_|refine Bf.f (W0 g) ?_|refine Bf.t c ?_)
   refine CJ rfl rfl ?_;exact wC
  | false=>
   have d:u9 (stN w.Z i).1=false:=by unfold u9;rw[c];rfl
   have a:∀k,stN w.Z (i+k)=stN w.Z i:=λk=>by
    induction k with
    | zero=>rfl
    | succ k j=>show(if u9 (stN w.Z (i+k)).1=true then _ else stN w.Z (i+k))=_;rw[j,d,CB (by simp)]
   have e:=a (n - i);rw[show i+(n - i)=n by omega]at e;rw[e];generalize stN w.Z i=s at *
   repeat'(first|refine gE ?_|(conv=>whnf);first|refine CC ?_|refine Bf.f c ?_)
   refine CJ rfl rfl ?_;exact wC
 obtain rfl:i=n:=ω
 repeat'(first|refine gE ?_|(conv=>whnf);first|refine CC ?_)
 refine CJ rfl rfl ?_;exact wC
def HV(a:ay k=true):(ay k&&decide (k.Calls<100000))=decide (k.Calls≠100000):=by
 have:=(a7.1 a).2.2.2.2;rw[a,Bool.true_and,Z5,C0,C0];omega
def zk(w:br)(a:fg)(m:Nat)(h:sv w m)(B:a.b6=5\/a.b6=6\/a.b6=7):zzB 276 false [.ptr (rC w),.val (some 5) (fg.enc .W a)] [.ptr (rC ⟨(gG w.Z a).1,w.b5⟩),.val (some 5) (fg.enc .W a)] .one [I (gG w.Z a).2]:=by
 have d:=h.inv;have o:=d.nc;have p:w.Z.S.length<=4:=by have:=(dZ.1 d.mail).1.2.1;omega
 have C:=lY.of d.mail;have i:=m6 w.Z.G (bj d.ker);rw[HV d.ker]at i;have j:=aH a.a5 0 (w.Z.S.length - 1:Int);unfold gG;refine fM 59 [(423,[2,0]),(424,[2,0])] [(3,267,[15,16,17,18,19,20,21,14,22,23,6,0,1,2,3,4,5,6,7,8,9,10,11,1009,12]),(8,15,[30,31,32,33,34,35,36,37,38,39,40,41,42,43,44])] [(0,0),(0,0)] Tryz.func276 rfl (λu q=>?_);by_cases l:a.b6=5
 ·rw[CD l]
  by_cases e:0<=a.a5/\a.a5<=w.Z.S.length - 1
  ·have y:oq w.Z a:=e
   obtain⟨t,g⟩:=V3 e.1;have b:=Fe w.Z.y t d.mail ω;rw[<-g]at b;rw[g]at e |-;simp only[O3];rw[g]at b;by_cases c:0<(nth w.Z.y.V t).length
   ·rw[CD (show oq w.Z a/\0<(nth w.Z.y.V t).length from⟨y,c⟩)]
    rw[CD c,O0 c]at b;rw[<-g]at b
    repeat'(first|refine gB ?_|(conv=>whnf);first|with_reducible refine Bf.E (λk=>?_) (λk=>?_)|refine CC ?_|refine CH (b) ⟨⟨rfl,aJ.enc_fz w.Z.y⟩,⟨rfl,rfl⟩,trivial⟩ ?_|refine CC ?_)
    refine CJ rfl rfl ?_;exact wC
   rw[CB (show ¬(oq w.Z a/\0<(nth w.Z.y.V t).length) from λx=>c x.2)];rw[CB c,W0 c]at b;rw[<-g]at b
   repeat'(first|refine gB ?_|(conv=>whnf);first|with_reducible refine Bf.E (λk=>?_) (λk=>?_)|refine CC ?_|refine CH (b) ⟨⟨rfl,aJ.enc_fz w.Z.y⟩,⟨rfl,rfl⟩,trivial⟩ ?_|refine CC ?_)
   refine CJ rfl rfl ?_;exact wC
  rw[CB (show ¬(oq w.Z a/\0<(nth w.Z.y.V a.a5.toNat).length) from λx=>e x.1)];have b:=HB w.Z.y a.a5 d.mail ω
  repeat'(first|refine gB ?_|(conv=>whnf);first|with_reducible refine Bf.E (λk=>?_) (λk=>?_)|refine CC ?_|refine CH (b) ⟨⟨rfl,aJ.enc_fz w.Z.y⟩,⟨rfl,rfl⟩,trivial⟩ ?_|refine CC ?_)
  refine CJ rfl rfl ?_;exact wC
 rw[CB l];by_cases e:w.Z.G.Calls≠100000;rotate_left
 ·rw[CD (show ¬(w.Z.G.Calls≠100000/\oq w.Z a) from λx=>e x.1)]
  rw[W0 e]at i
  repeat'(first|refine gB ?_|(conv=>whnf);first|refine CC ?_|refine CH (i) ⟨⟨rfl,CT _⟩,trivial⟩ ?_|refine CC ?_)
  refine CJ rfl rfl ?_;exact wC
 rw[O0 e]at i;by_cases c:0<=a.a5/\a.a5<=w.Z.S.length - 1;rotate_left
 ·rw[CD (show ¬(w.Z.G.Calls≠100000/\oq w.Z a) from λx=>c x.2)]
  rw[W0 c]at j
  repeat'(first|refine gB ?_|(conv=>whnf);first|refine CC ?_|refine CH (i) ⟨⟨rfl,CT _⟩,trivial⟩ ?_|refine C9 (j) ?_|refine CC ?_)
  refine CJ rfl rfl ?_;exact wC
 rw[CB (show ¬¬(w.Z.G.Calls≠100000/\oq w.Z a) from Z4 ⟨e,c⟩)];rw[O0 c]at j;obtain⟨t,g⟩:=V3 c.1;by_cases n:a.b6=6
 ·rw[CD n]
  have b:=(w7 w.Z t d ω).frame (r:=aA.enc .W w.b5) ((dh _).trans (dh _).symm);rw[show a.a5.toNat=t by omega];rw[<-g]at b
  repeat'(first|refine gB ?_|(conv=>whnf);first|refine CC ?_|refine CH (i) ⟨⟨rfl,CT _⟩,trivial⟩ ?_|refine C9 (j) ?_|refine CL (b) (.inl rfl) ?_|refine CC ?_)
  refine CJ rfl rfl ?_;exact wC
 rw[CB n];have b:=(Af w.Z t d ω).frame (r:=aA.enc .W w.b5) ((dh _).trans (dh _).symm);rw[show a.a5.toNat=t by omega];rw[<-g]at b
 repeat'(first|refine gB ?_|(conv=>whnf);first|refine CC ?_|refine CH (i) ⟨⟨rfl,CT _⟩,trivial⟩ ?_|refine C9 (j) ?_|refine CL (b) (.inl rfl) ?_|refine CC ?_)
 refine CJ rfl rfl ?_;exact wC
def yh(w:br)(a:fg)(i m:Nat)(h:sv w m)(X:m<=900)(G:Pv a)(t:i<w.Z.O.length):zzB 275 false [.ptr (rC w),.val (some 5) (fg.enc .W a),.val none [I (i:Nat)]] [.ptr (rC (nJ w a i).1),.val (some 5) (fg.enc .W a),.val none [I (i:Nat)]] .one [I (nJ w a i).2]:=by
 have e:=h.inv;have b:=ao t;have M:=uR e (am t);have N:=cU e (am t) (k:=0);have O:1<=(nth w.Z.O i).q/\(nth w.Z.O i).q<=1000:=by
  rcases e.oow _ (am t) with⟨s,P,Y,Z⟩|⟨l,H,d,c⟩
  ·have hc:=aE (e.L.sok s P)
   have:=iO (n:=(nth w.Z.O i).q) ω;omega
  have h8:=cX (e.L.lok l H);omega
 have g:=m6 w.Z.G (bj e.ker);rw[HV e.ker]at g;have Q:=G.k;have R:=G.p;have S:=G.v;unfold nJ;refine fM 126 [(416,[2,0,0]),(418,[2,0,0]),(420,[2,0,0])] [(6,7,[29,30,31,32,33,34,35]),(8,269,[40,41,42,43,44,45,46,47,39,48,49,50,51,0,1,2,3,4,5,6,7,8,9,10,11,12,13,1010]),(13,10,[62,63,64,65,66,67,68,69,70,71]),(15,273,[76,77,78,79,80,81,82,83,84,85,86,87,75,88,89,90,91,0,1,2,3,4,5,6,7,8,9,10,11,12,13,14,15,16,17,1014]),(17,15,[93,94,95,96,97,98,99,100,101,102,103,104,105,106,107]),(19,271,[112,113,114,115,116,117,118,119,120,121,111,122,123,124,125,0,1,2,3,4,5,6,7,8,9,10,11,12,13,14,15,1012])] [(0,0),(0,0),(0,0)] Tryz.func275 rfl (λu q=>?_);by_cases J:a.b6=2
 ·rw[CD J]
  unfold tJ;by_cases d:w.Z.G.Calls=100000
  ·rw[CD d]
   rw[W0 (Z4 d)]at g
   repeat'(first|refine gB ?_|(conv=>whnf);first|with_reducible refine CE (aa b) ?_|refine CC ?_|refine CH (g) ⟨⟨rfl,CT _⟩,trivial⟩ ?_|refine CK rfl (aa b) rfl ?_|refine CC ?_)
   refine CJ rfl rfl ?_;exact wC
  rw[CB d];rw[O0 d]at g;have C:=(Rg w.Z i a.a5 e t).frame (r:=aA.enc .W w.b5) ((dh _).trans (dh _).symm);by_cases c:0<=a.a5/\a.a5<=w.Z.S.length - 1
  ·rw[CD (show oq w.Z a from c)]
   rw[CD c,CD c]at C;have T:=Ex w.b5 (nth w.Z.O i).Id m h.ref ω;generalize freeT w.Z a.a5.toNat i=f at C |-;by_cases o:f.2=0
   ·rw[CD o]
    repeat'(first|refine gB ?_|(conv=>whnf);first|with_reducible (first|refine CE (aa b) ?_|refine Bf.E (λj=>?_) (λj=>?_))|refine CC ?_|refine CH (g) ⟨⟨rfl,CT _⟩,trivial⟩ ?_|refine CK rfl (aa b) rfl ?_|refine CL (C) (.inl rfl) ?_|refine Cl.sh T rfl ?_|refine CC ?_)
    refine CJ rfl rfl ?_;exact wC
   rw[CB o]
   repeat'(first|refine gB ?_|(conv=>whnf);first|with_reducible (first|refine CE (aa b) ?_|refine Bf.E (λj=>?_) (λj=>?_))|refine CC ?_|refine CH (g) ⟨⟨rfl,CT _⟩,trivial⟩ ?_|refine CK rfl (aa b) rfl ?_|refine CL (C) (.inl rfl) ?_|refine CC ?_)
   refine CJ rfl rfl ?_;exact wC
  rw[CB (show ¬oq w.Z a from c)];rw[CB c,CB c]at C
  repeat'(first|refine gB ?_|(conv=>whnf);first|with_reducible (first|refine CE (aa b) ?_|refine Bf.E (λj=>?_) (λj=>?_))|refine CC ?_|refine CH (g) ⟨⟨rfl,CT _⟩,trivial⟩ ?_|refine CK rfl (aa b) rfl ?_|refine CL (C) (.inl rfl) ?_|refine CC ?_)
  refine CJ rfl rfl ?_;exact wC
 rw[CB J];by_cases K:a.b6=3
 ·rw[CD K]
  unfold p9;have D:=aH a.At 0 ((nth w.Z.O i).q - 1);by_cases d:0<=a.At/\a.At<=(nth w.Z.O i).q - 1;rotate_left
  ·rw[CD d]
   rw[W0 d]at D
   repeat'(first|refine gB ?_|(conv=>whnf);first|with_reducible (first|refine CE (aa b) ?_|refine Bf.E (λj=>?_) (λj=>?_))|refine CC ?_|refine CK rfl (aa b) rfl ?_|refine C9 (D) ?_|refine CC ?_)
   refine CJ rfl rfl ?_;exact wC
  rw[CB (Z4 d)];rw[O0 d]at D;have F:=(Ae w.Z i a.At a.Value e t d).frame (r:=aA.enc .W w.b5) (by split<;>rfl);have U:=cU e (am t) d;by_cases c:(ac w.Z.G.F.Q (((nth w.Z.O i).Addr+a.At) / 16)).j=1
  ·rw[CD c]
   rw[CD (.inl c),CD c]at F
   repeat'(first|refine gB ?_|(conv=>whnf);first|with_reducible (first|refine CE (aa b) ?_|refine Bf.E (λj=>?_) (λj=>?_))|refine CC ?_|refine CK rfl (aa b) rfl ?_|refine C9 (D) ?_|refine CL (F) (.inl rfl) ?_|refine CC ?_)
   refine CJ rfl rfl ?_;exact wC
  rw[CB c];by_cases o:0<=a.Value/\a.Value<=999;rotate_left
  ·rw[CD o]
   rw[CD (.inr o),CB c,CD o]at F
   repeat'(first|refine gB ?_|(conv=>whnf);first|with_reducible (first|refine CE (aa b) ?_|refine Bf.E (λj=>?_) (λj=>?_))|refine CC ?_|refine CK rfl (aa b) rfl ?_|refine C9 (D) ?_|refine CL (F) (.inl rfl) ?_|refine CC ?_)
   refine CJ rfl rfl ?_;exact wC
  rw[CB (Z4 o)];rw[CB (λx=>x.elim c λy=>y o),CB c,CB (Z4 o)]at F;obtain⟨b5,V⟩:=E2 w.b5 (nth w.Z.O i).Id a.At a.Value m h.ref ω o
  repeat'(first|refine gB ?_|(conv=>whnf);first|with_reducible (first|refine CE (aa b) ?_|refine Bf.E (λj=>?_) (λj=>?_))|refine CC ?_|refine CK rfl (aa b) rfl ?_|refine C9 (D) ?_|refine CL (F) (.inl rfl) ?_|refine C9 (V) ?_|refine CC ?_)
  refine CJ rfl rfl ?_;exact wC
 rw[CB K];unfold sO;by_cases d:w.Z.G.Calls=100000
 ·rw[CB (λx=>x.1 d)]
  rw[W0 (Z4 d)]at g
  repeat'(first|refine gB ?_|(conv=>whnf);first|with_reducible refine CE (aa b) ?_|refine CC ?_|refine CH (g) ⟨⟨rfl,CT _⟩,trivial⟩ ?_|refine CK rfl (aa b) rfl ?_|refine CC ?_)
  refine CJ rfl rfl ?_;exact wC
 rw[O0 d]at g;by_cases c:mj w.Z i a.Value
 ·rw[CD ⟨d,c⟩]
  have B:=(sT w.Z i a.Value e t c.1).frame (r:=aA.enc .W w.b5) (by split<;>rfl);rw[CD c,O0 c]at B;obtain⟨b7,W⟩:=Fa w.b5 (nth w.Z.O i).Id a.Value m h.ref ω
  repeat'(first|refine gB ?_|(conv=>whnf);first|with_reducible refine CE (aa b) ?_|refine CC ?_|refine CH (g) ⟨⟨rfl,CT _⟩,trivial⟩ ?_|refine CK rfl (aa b) rfl ?_|refine CL (B) (.inl rfl) ?_|refine C9 (W) ?_|refine CC ?_)
  refine CJ rfl rfl ?_;exact wC
 rw[CB (λx=>c x.2)];by_cases o:Al w.Z (nth w.Z.O i).Addr<0
 ·have B:=(HX w.Z (nth w.Z.O i).Addr a.Value (by have:=e.lens.larges;omega) e.L.lok o).frame (r:=aA.enc .W w.b5) ((dh _).trans (dh _).symm)
  repeat'(first|refine gB ?_|(conv=>whnf);first|with_reducible refine CE (aa b) ?_|refine CC ?_|refine CH (g) ⟨⟨rfl,CT _⟩,trivial⟩ ?_|refine CK rfl (aa b) rfl ?_|refine CL (B) (.inl rfl) ?_|refine CC ?_)
  refine CJ rfl rfl ?_;exact wC
 have B:=(sT w.Z i a.Value e t ω).frame (r:=aA.enc .W w.b5) (by split<;>rfl);rw[CB c,W0 c]at B
 repeat'(first|refine gB ?_|(conv=>whnf);first|with_reducible refine CE (aa b) ?_|refine CC ?_|refine CH (g) ⟨⟨rfl,CT _⟩,trivial⟩ ?_|refine CK rfl (aa b) rfl ?_|refine CL (B) (.inl rfl) ?_|refine CC ?_)
 refine CJ rfl rfl ?_;exact wC
def sv.fit{w:br}{m:Nat}(h:sv w m)(a:fU w.Z.G.u):ab.sml w.Z/\ab.wf w.Z:=
 ⟨(h.inv.fit a (lY.of h.inv.mail).sml).sml,h.inv.wf a⟩
def Hz(w:br)(a:fg)(m:Nat)(h:sv w m)(K:m<=900)(L:fU w.Z.G.u)(p:Pv a):zzB 121 false [.ptr (rC w),.val (some 5) (fg.enc .W a)] [.ptr (rC (pv w a).1),.val (some 5) (fg.enc .W a)] .one [I (pv w a).2]:=by
 have i:=h.inv;have M:=p.k;have O:=p.n;have j:=i.nums;unfold cu at j;rw[C0]at j;unfold pv;refine fM 123 [(74,[2,0,0]),(274,[2,0]),(275,[2,0,0]),(276,[2,0]),(278,[2,0]),(279,[2]),(280,[2,0])] [(3,265,[13,14,15,16,17,18,19,21,22,0,1,2,3,4,5,6,7,8,9,10,11,1010,12]),(5,269,[26,27,28,29,30,31,32,33,25,34,35,36,37,0,1,2,3,4,5,6,7,8,9,10,11,12,13,1010]),(19,21,[62,63,64,65,66,67,68,69,70,71,72,73,74,75,76,77,78,79,80,81,82]),(21,5,[86,87,88,89,90])] [(0,0),(0,0)] Tryz.func121 rfl (λu q=>?_);by_cases F:a.b6=1
 ·rw[CD F]
  have c:=(Ah w.Z a.a5 a.N i).frame (r:=aA.enc .W w.b5) ((dh _).trans (dh _).symm);by_cases e:(allocH w.Z a.a5 a.N).2.2=0
  ·rw[CD e]
   have y:1<=a.N/\a.N<=1000:=by
    refine Classical.byContradiction λB=>?_
    unfold allocH at e;rw[CD B]at e;split at e
    ·exact absurd (show(5:Int)=0 from e) (by decide)
    split at e
    ·exact absurd (show(1:Int)=0 from e) (by decide)
    exact absurd (show(2:Int)=0 from e) (by decide)
   have o:=Ao w.b5 a.N m h.ref ω y;generalize allocH w.Z a.a5 a.N=f at c e |-
   repeat'(first|refine gB ?_|(conv=>whnf);first|with_reducible refine Bf.E (λb=>?_) (λb=>?_)|refine CC ?_|refine CL (c) (.inl rfl) ?_|refine C9 (o) ?_|refine CC ?_)
   refine CJ rfl rfl ?_;exact wC
  rw[CB e];generalize allocH w.Z a.a5 a.N=f at c e |-
  repeat'(first|refine gB ?_|(conv=>whnf);first|with_reducible refine Bf.E (λb=>?_) (λb=>?_)|refine CC ?_|refine CL (c) (.inl rfl) ?_|refine CC ?_)
  refine CJ rfl rfl ?_;exact wC
 rw[CB F];by_cases G:a.b6=2\/a.b6=3\/a.b6=4
 ·rw[CD G]
  have c:=Gn w a.N (by have:=i.lens.objs;omega);by_cases e:qX w.Z a.N<0
  ·rw[CD e]
   repeat'(first|refine gB ?_|(conv=>whnf);first|with_reducible refine Bf.E (λb=>?_) (λb=>?_)|refine CC ?_|refine CL (c) (.inl rfl) ?_)
   all_goals first|omega|skip
   all_goals
    refine CJ rfl rfl ?_;exact wC
  rw[CB e];obtain⟨P,S,T⟩:=fX (MR a.N) w.Z.O (by unfold qX at e;omega);have o:=yh w a (qX w.Z a.N).toNat m h K p P;rw[show(((qX w.Z a.N).toNat:Nat):Int)=qX w.Z a.N by omega]at o
  repeat'(first|refine gB ?_|(conv=>whnf);first|with_reducible refine Bf.E (λb=>?_) (λb=>?_)|refine CC ?_|refine CL (c) (.inl rfl) ?_|refine CL (o) (.inl rfl) ?_)
  all_goals first|omega|skip
  all_goals
   refine CJ rfl rfl ?_;exact wC
 rw[CB G];by_cases C:a.b6=5\/a.b6=6\/a.b6=7
 ·rw[CD C]
  have c:=zk w a m h C
  repeat'(first|refine gB ?_|(conv=>whnf);first|with_reducible refine Bf.E (λb=>?_) (λb=>?_)|refine CC ?_|refine CL (c) (.inl rfl) ?_)
  all_goals first|omega|skip
  all_goals
   refine CJ rfl rfl ?_;exact wC
 rw[CB C];by_cases H:a.b6=8
 ·rw[CD H]
  unfold qz;have d:=m6 w.Z.G (bj i.ker);rw[HV i.ker]at d;have c:=aH a.N 0 1000;by_cases g:w.Z.G.Calls≠100000;rotate_left
  ·rw[CB (λx=>g x.1)]
   rw[W0 g]at d
   repeat'(first|refine gB ?_|(conv=>whnf);first|with_reducible refine Bf.E (λb=>?_) (λb=>?_)|refine CC ?_|refine CH (d) ⟨⟨rfl,CT _⟩,trivial⟩ ?_|refine CC ?_)
   refine CJ rfl rfl ?_;exact wC
  rw[O0 g]at d;by_cases l:0<=a.N/\a.N<=1000;rotate_left
  ·rw[CB (λx=>l x.2.1)]
   rw[W0 l]at c
   repeat'(first|refine gB ?_|(conv=>whnf);first|with_reducible refine Bf.E (λb=>?_) (λb=>?_)|refine CC ?_|refine CH (d) ⟨⟨rfl,CT _⟩,trivial⟩ ?_|refine C9 (c) ?_|refine CC ?_)
   refine CJ rfl rfl ?_;exact wC
  rw[O0 l]at c;by_cases D:w.Z.b3+a.N<=1000000
  ·rw[CD ⟨g,l,D⟩]
   have o:=(DX w.Z a.N i l D).frame (r:=aA.enc .W w.b5) ((dh _).trans (dh _).symm)
   repeat'(first|refine gB ?_|(conv=>whnf);first|with_reducible refine Bf.E (λb=>?_) (λb=>?_)|refine CC ?_|refine CH (d) ⟨⟨rfl,CT _⟩,trivial⟩ ?_|refine C9 (c) ?_|refine CL (o) (.inl rfl) ?_|refine CC ?_)
   refine CJ rfl rfl ?_;exact wC
  rw[CB (λx=>D x.2.2)]
  repeat'(first|refine gB ?_|(conv=>whnf);first|with_reducible refine Bf.E (λb=>?_) (λb=>?_)|refine CC ?_|refine CH (d) ⟨⟨rfl,CT _⟩,trivial⟩ ?_|refine C9 (c) ?_|refine CC ?_)
  refine CJ rfl rfl ?_;exact wC
 rw[CB H];by_cases J:a.b6=9
 ·rw[CD J]
  unfold q8;obtain⟨Q,R⟩:=h.fit L;have d:=FM w.Z Q R;rw[show cJ w.Z=true from i.to]at d;cases g:w.Z.o with
  | true=>
   rw[CD rfl]
   repeat'(first|refine gB ?_|(conv=>whnf);first|with_reducible refine Bf.E (λb=>?_) (λb=>?_)|refine CC ?_|refine Bf.t g ?_|refine CC ?_)
   refine CJ rfl rfl ?_;exact wC
  | false=>
   rw[CB (by simp)];have c:=(A7 w.Z i).frame (r:=aA.enc .W w.b5) ((dh _).trans (dh _).symm);cases l:(started w.Z).2<;>rw[l]at c
   ·rw[CB (by simp)]
    repeat'(first|refine gB ?_|(conv=>whnf);first|with_reducible refine Bf.E (λb=>?_) (λb=>?_)|refine CC ?_|refine Bf.f g ?_|refine CH (d) ⟨⟨rfl,bK w.Z⟩,trivial⟩ ?_|refine CL (c) (.inl rfl) ?_|refine CC ?_)
    refine CJ rfl rfl ?_;exact wC
   rw[CD rfl]
   repeat'(first|refine gB ?_|(conv=>whnf);first|with_reducible refine Bf.E (λb=>?_) (λb=>?_)|refine CC ?_|refine Bf.f g ?_|refine CH (d) ⟨⟨rfl,bK w.Z⟩,trivial⟩ ?_|refine CL (c) (.inl rfl) ?_|refine CC ?_)
   refine CJ rfl rfl ?_;exact wC
 rw[CB J];have k10:a.b6=10:=ω
 have d:=aH a.N 0 50;by_cases g:0<=a.N/\a.N<=50
 ·rw[CD ⟨k10,g⟩]
  rw[O0 g]at d;obtain⟨n,B⟩:=V3 g.1;have c:=zT w m n h ω;rw[show a.N.toNat=n by omega];rw[<-B]at c
  repeat'(first|refine gB ?_|(conv=>whnf);first|with_reducible refine Bf.E (λb=>?_) (λb=>?_)|refine CC ?_|refine C9 (d) ?_|refine CL (c) (.inl rfl) ?_|refine CC ?_)
  refine CJ rfl rfl ?_;exact wC
 rw[CB (λx=>g x.2)];rw[W0 g]at d
 repeat'(first|refine gB ?_|(conv=>whnf);first|with_reducible refine Bf.E (λb=>?_) (λb=>?_)|refine CC ?_|refine C9 (d) ?_|refine CC ?_)
 refine CJ rfl rfl ?_;exact wC
def Dy(w:br)(h1:ab.sml w.Z)(a:aA.sml w.b5):zzA 122 false [.val (some 26) (br.enc .W w)] .agg (br.enc .own w):=by
 have b:=El w.Z h1;have c:=eR w.b5 a;refine fO 10 [(1,5,[3,4,5,6,7])] Tryz.func122 rfl ?_ (.inr (br.enc_fr _))
 repeat'(first|refine gP ?_|(conv=>whnf);first|refine C9 (b) ?_|refine C9 (c) ?_|refine CC ?_)
 rfl
def Dx(c:cT)(acts:List fg)(h:HG c)(d:fU c.u)(n:∀a∈acts,Pv a)(D:acts.length<=80):zzA 44 false [.val (some 5) (cT.enc .W c),.val none (pY .W acts)] (.tup [some 26,none]) (br.enc .own (DL c acts acts.length).1++aF .own (DL c acts acts.length).2):=by
 have o:=zR c h;refine fP 42 [(121,[2,0]),(2000005,[6,21,25])] [] Tryz.func44 rfl ?_ (.inr (aG (br.enc_fr _) (bM _)))
 repeat'(first|refine gE ?_|(conv=>whnf);first|refine C9 (o) ?_|refine Hq.mk rfl rfl rfl ?_)
 (conv=>whnf)
 refine CG (ι:=Nat) (λi=>[(1,.H .one (pY .W acts)),(4,.H .box [.z,.z,.z,I 0,.z,.z,.z,.z,.z,.z,.z,.z,I 0,.z,I 0,I 0,I 0,I 0,B false,I 0,I 0,.z,I 0,I 0,I 0,.z]),(6,.H .box (rC (DL c acts i).1)),(8,.H .one (aF .own (DL c acts i).2)),(9,.H .one [I ((i:Nat):Int)])]) (λi=>i<=acts.length) (λi=>acts.length - i) (0) ?_ (X0 _) λi p=>?_
 ·repeat'(first|exact trivial|rfl |exact mE q|exact dK _|refine CM ?_ ?_|(exact Ac (by first|omega|(simp only;omega)|(simp;omega))))
 have e:=xV h acts i;have b:=Jk h acts i;have g:(DL c acts i).2.length=i:=by
  clear e b p
  induction i with
  | zero=>rfl
  | succ k t=>show((DL c acts k).2++[_]).length=_;rw[Z3,t];rfl
 by_cases j:i<acts.length
 ·have l:=ao j
  have u:=Hz (DL c acts i).1 (nth acts i) i e ω (by unfold rfs at b;rw[b];exact d) (n _ (am j))
  repeat'(first|refine gE ?_|(conv=>whnf);first|with_reducible refine CE (aa l) ?_|refine CK rfl (aa l) rfl ?_|refine CL (u) (.inl rfl) ?_|refine CU cz (λr d=>by rw[V1.1 d];rfl) (by simp[bk,eG]) (by simp;omega) (by simp only[I1];exact zE (by simp;omega) (by decide)) rfl ?_)
  ((conv=>whnf);refine CF (i+1) ω ω ?_)
  repeat'(first|exact trivial|rfl| exact dK _ |exact CM rfl (CM (Z0 (C.s dM.own) (by simp[DL,rI])) trivial)|refine CM ?_ ?_|(exact Ac (by first|omega|(simp only;omega)|(simp;omega))))
 obtain rfl:i=acts.length:=ω
 have w:=e.fit (by unfold rfs at b;rw[b];exact d);have y:=Dy (DL c acts acts.length).1 w.1 (e.ref.sml ω)
 repeat'(first|refine gE ?_|(conv=>whnf);first|refine CH (y) ⟨⟨rfl,QI _⟩,trivial⟩ ?_)
 rfl
def G8(zs:List Int)(c:jf):fU (qW zs c).u:=by
 show fU (pc zs 4 0 [] (Du zs c).2).1;have key:∀(f i:Nat)(out:List Int)(c:jf),(∀x∈out,n7 x)->∀x∈(pc zs f i out c).1,n7 x:=by
  intro f
  induction f with
  | zero=>intro i out c h;exact h
  | succ f b=>
   intro i out c h;unfold pc;split
   ·refine b _ _ _ λx a=>?_
    rcases W3.1 a with a|a
    ·exact h x a
    rw[V1.1 a];have:=bN zs (bw zs c 4).2 (n:=12) (by decide);exact⟨ω,ω⟩
   exact h
 exact⟨by
   have d:∀(f i:Nat)(out:List Int)(c:jf),out.length+f<=4->(pc zs f i out c).1.length<=4:=by
     intro f
     induction f with
     | zero=>intro i out c h;exact h
     | succ f b=>
       intro i out c h;unfold pc;split
       · exact b _ _ _ (by simp only[Z3,List.length_singleton];omega)
       show out.length<=4;omega
   have:=d 4 0 [] (Du zs c).2 (X3 _);omega,key 4 0 [] _ (λx a=>by cases a)⟩
def zU(zs:List Int)(a:jO zs):zzB 59 false [.ptr (iT zs (vi zs))] [.ptr (iT zs (oC zs (gv zs)).2)] .agg (br.enc .own (drawn zs)):=by
 have b:(vi zs).i<=zs.length:=X0 _;obtain⟨g,d⟩:=tH b;have o:=bN zs (gv zs) (n:=41) (by decide);obtain⟨p,h,-⟩:=sZ (zs:=zs) (c:=gv zs) d (n:=(bw zs (gv zs) 41).1.toNat) ω;have e:=yt zs (vi zs) a b;have j:=EG zs (gv zs) a d;have k:=Dx (qW zs (vi zs)) (oC zs (gv zs)).1 g (G8 zs _) h (by show(mt zs (gv zs) _).1.length<=80;omega);have l:drawn zs=(DL (qW zs (vi zs)) (oC zs (gv zs)).1 (oC zs (gv zs)).1.length).1:=rfl;rw[l];change aT _ _ _ _ [.ptr (iT zs (gv zs))] _ _ at e;generalize qW zs (vi zs)=cf at *;generalize r:oC zs (gv zs)=A at *;generalize t:DL cf A.1 A.1.length=R at *;refine fM 14 [(113,[2]),(114,[2,0])] [] [(0,0)] Tryz.func59 rfl (λu q=>?_) (.inr (br.enc_fr _))
 repeat'(first|refine gP ?_|(conv=>whnf);first|refine CL (e) (.inl rfl) ?_|refine CL (j) (.inl rfl) ?_|refine CH (k) ⟨⟨rfl,cT.enc_fz _⟩,⟨rfl,Lj _⟩,trivial⟩ ?_)
 refine CJ rfl rfl ?_;exact wC
def TR(z:List Int):List C:=[.s .W (z.map rU)]
def vW(zs:List Int)(b:jO zs):sr Tryz.prog 60 true [.val none (TR zs)] .box (iT zs (vi zs)):=by
 have r:=b.1;have e:IntKind.i64.wrap (98801+(zs.length:Nat))=w64 (98801+(zs.length:Nat)):=rfl;have g:qG zs 0=98801+(zs.length:Nat):=by show w64 _=_;rw[<-e];exact eX ω ω
 have a:=Z0 I g;refine TY (n:=32) (t:=2) (mo:=[]) (tb:=[]) Tryz.func60 (by kernel_rfl) rfl (by kernel_rfl) (by rfl) rfl ?_
 repeat'(first|refine gP ?_|fail)
 (conv=>whnf)
 refine CG (ι:=Nat) (λi=>[(0,.H .one (TR zs)),(3,.H .one [I (qG zs i)]),(4,.H .one [I ((i:Nat):Int)])]) (λi=>i<=min zs.length 4000) (λi=>min zs.length 4000 - i) (0) ?_ (X0 _) λi u=>?_
 ·repeat'(first|exact trivial|rfl |exact mE a|exact dK _|refine CM ?_ ?_|(exact Ac (by first|omega|(simp only;omega)|(simp;omega))))
 have h:IntKind.i64.wrap (qG zs i*131)=w64 (qG zs i*131):=rfl;have j:IntKind.i64.wrap (w64 (qG zs i*131)+nth zs i)=w64 (w64 (qG zs i*131)+nth zs i):=rfl;have k:IntKind.i64.wrap (w64 (w64 (qG zs i*131)+nth zs i)+7)=w64 (w64 (w64 (qG zs i*131)+nth zs i)+7):=rfl;have l:IntKind.i64.wrap (BitVec.ofInt IntKind.i64.bits (w64 (w64 (w64 (qG zs i*131)+nth zs i)+7)) &&& BitVec.ofInt IntKind.i64.bits 1073741823).toNat=qG zs (i+1):=rfl;by_cases c:i<zs.length/\i<4000
 ·have d:=ao c.1
  have w:=b.2 _ (am c.1);generalize qG zs i=H at *;generalize o:qG zs (i+1)=H2 at *
  repeat'(first|refine gE ?_|(conv=>whnf);first|with_reducible (first|refine CE (aa d) ?_|refine CO h ?_|refine CO j ?_|refine CO k ?_|refine CO l ?_)|refine CK rfl (aa d) rfl ?_)
  ((conv=>whnf);refine CF (i+1) ω ω ?_)
  rw[o];exact wC
 obtain rfl:i=min zs.length 4000:=ω
 have p:vi zs = ⟨0,qG zs (min zs.length 4000)⟩:=rfl;rw[p];generalize qG zs (min zs.length 4000)=H at *
 repeat'(first|refine gE ?_|(conv=>whnf);first|with_reducible refine Bf.D (λq=>?_) (λq=>?_))
 all_goals rfl
def zd(zs:List Int)(a:jO zs):zzA 15 false [.val none (TR zs)] .agg (br.enc .own (drawn zs)):=by
 have b:=vW zs a;have c:=zU zs a;refine fP 6 [(59,[2])] [] Tryz.func15 rfl ?_ (.inr (br.enc_fr _))
 repeat'(first|refine gP ?_|(conv=>whnf);first|refine Cl.g b (.inr rfl) ?_|refine CL (c) (.inl rfl) ?_)
 rfl
set_option maxHeartbeats 2000000
set_option maxHeartbeats 2000000
set_option maxHeartbeats 2000000
set_option maxHeartbeats 2000000
set_option maxHeartbeats 2000000
set_option maxHeartbeats 2000000
def ij(h:ab):Int:=if cJ h then 4*bm h.G.F.U / h.G.F.U.a3.length else 0
def GY(a:List Bool):∀i,0<=eU a i/\eU a i<=i
 | 0=>⟨I6 _,I6 _⟩
 | i+1=>by
  have b:=GY a i;show 0<=eU a i+(if nth a i then 1 else 0)/\eU a i+(if nth a i then 1 else 0)<=_;split<;>omega
def DU(a:cJ h=true):cW h.G.F.U=true:=by
 unfold cJ kM ay cZ at a;simp only[I0]at a;exact a.1.1.1.1.1.1.1.1.1.1.1.2.1.1
def M0{u:Int}(a:0<=u/\u<=n)(b:1<=n/\n<=32):IntKind.i64.wrap ((4*u).tdiv n)=4*u / n:=by
 rw[kx ω];have c:0<=4*u / n:=Int.ediv_nonneg ω ω;have d:4*u / n<=4*u:=Int.ediv_le_self _ ω;exact eX ω ω
def oF(h:ab)(c:ab.sml h):zzA 32 false [.val (some 24) (ab.enc .W h)] .one [I (ij h)]:=by
 have a:=fI h c;rw[iw]at a;have e:=kP h.G.F.U c.1.1.1;cases b:cJ h<;>rw[b]at a
 ·refine fO 18 [(4,7,[11,12,13,14,15,16,17])] Tryz.func32 rfl ?_
  repeat'(first|refine gP ?_|(conv=>whnf);first|refine C9 a ?_)
  exact Z0 (λz=>[I z]) (by unfold ij;rw[b];rfl)
 have d:=DU b;obtain⟨k,l,o⟩:=tA d;have g:=GY h.G.F.U.a3 h.G.F.U.a3.length;have i:bm h.G.F.U=eU h.G.F.U.a3 h.G.F.U.a3.length:=by unfold bm;rw[d];rfl
 rw[<-i]at g;have j:=M0 (u:=bm h.G.F.U) (n:=h.G.F.U.a3.length) ω ω;refine fO 18 [(4,7,[11,12,13,14,15,16,17])] Tryz.func32 rfl ?_
 repeat'(first|refine gP ?_|(conv=>whnf);first|refine C9 a ?_|refine C9 e ?_|refine CP ω ?_|refine CO j ?_)
 exact Z0 (λz=>[I z]) (by unfold ij;rw[b];rfl)
def Hk(zs:List Int):fU (drawn zs).Z.G.u:=by
 have a:(vi zs).i<=zs.length:=X0 _;have:=Jk (tH a).1 (oC zs (gv zs)).1 (oC zs (gv zs)).1.length;unfold rfs at this;show fU (DL _ _ _).1.Z.G.u;rw[this];exact G8 zs _
def Ma(zs:List Int):ab.sml (drawn zs).Z/\ab.wf (drawn zs).Z:=(GV zs).fit (Hk zs)
def Tp(zs:List Int)(a:zs.length<=9223372036854775807):zzA 14 false [.val none (TR zs)] .one [B (decide ((zs.length:Int) > 1048576))]:=by
 refine fO 6 [] Tryz.func14 rfl ?_
 repeat'(first|refine gP ?_|fail)
 rfl
def cl(k:af)(f c:Nat):Int:=nth (nth k.F.U.T f) c
structure At(k:af)(a:Int)(f c:Nat):Prop where
 m:(ac k.F.Q (a / 16)).j≠0
 f:(ac k.F.Q (a / 16)).d=f
 c:a % 16=c
variable{f:Nat}
def At.cell(h:At k a f c):eC k a=cl k f c:=by
 unfold eC cl;rw[h.f,h.c,O3,O3]
def At.mk'(c:ay k=true)(b:(ac k.F.Q (a / 16)).j≠0):At k a (cY k a) (a % 16).toNat:=by
 obtain⟨-,-,-,d,-⟩:=bD c b;exact⟨b,by unfold cY;omega,ω⟩
def At.uniq{b d:Nat}(h:At k a f c)(h':At k a b d):f=b/\c=d:=by
 have e:=h.f;have g:=h'.f;have i:=h.c;have j:=h'.c;omega
def PS(h:ab)(a:Int)(f c:Nat):Prop:=
 (∃s∈h.J,eJ s a/\(ac (tbl h) s.R).d=f/\(c:Int) / csz s.e=cM s a/\c<16)\/
 ∃l∈h.M,a=16*l.R/\∃b:Int,16*l.R<=b/\b<16*(l.R+l.a4)/\At h.G b f c
def aU.pe(a:aU h E){s:au}(b:s∈h.J):ac (tbl h) s.R=nth (tbl h).K s.R.toNat:=by
 obtain⟨c,d,-⟩:=a.mapped b;unfold ac;rw[CD ⟨c,d⟩]
variable{b:Int}
def uf{l:aB}(a:bL l=true)(h1:16*l.R<=b)(c:b<16*(l.R+l.a4)):∃k:Nat,k<l.a4.toNat/\b / 16=l.R+(k:Nat):=by
 have:=aQ a;exact⟨(b / 16 - l.R).toNat,ω,ω⟩
def mA(e:aU h E){l:aB}(i:l∈h.M)(h1:16*l.R<=b)(o:b<16*(l.R+l.a4))(j:At h.G b f c){q:Int}(n:(ac (tbl h) q).j≠0)(g:(ac (tbl h) q).d=f):q=b / 16:=by
 obtain⟨k,p,u⟩:=uf (e.L.lok l i) h1 o;obtain⟨w,y,r,-⟩:=bD e.ker j.m;obtain⟨A,B,t,-⟩:=bD e.ker n;have d:=j.f;rw[r]at d;have a:=n;change (ac h.G.F.Q q).j≠0 at a;change (ac h.G.F.Q q).d=f at g;rw[t]at a g;have:=e.pg.one l i (b / 16).toNat (dC.2 ⟨k,p,ω⟩) q.toNat (by show q.toNat<h.G.F.Q.K.length;omega) a (by show _=(nth h.G.F.Q.K _).d;rw[d];exact g);omega
def xb(d:aU h E)(T:PS h a f c)(U:PS h b f c):a=b:=by
 have G:∀s∈h.J,(ac (tbl h) s.R).d=f->∀l∈h.M,∀x:Int,16*l.R<=x->x<16*(l.R+l.a4)->At h.G x f c->False:=λs g V l o x H J W=>by
  obtain⟨K,t,q⟩:=d.mapped g;obtain⟨k,w,X⟩:=uf (d.L.lok l o) H J;have:=mA d o H J W (by rw[d.pe g];exact q) V;exact d.L.dis s g l o k w ω
 rcases T with⟨s,g,M,N,O,s4⟩|⟨l,o,Y,x,A,B,P⟩<;>rcases U with⟨u,r,Q,R,S,u4⟩|⟨m,p,K,y,t,q,C⟩
 ·by_cases e:s.R=u.R
  ·obtain⟨i,D,rfl⟩:=aN g
   obtain⟨j,F,rfl⟩:=aN r;have:=cR (f:=(·.R)) d.L.nd D F e;subst this;exact yv (d.L.sok _ g) M.2.2.1 Q.2.2.1 (O.symm.trans S)
  exfalso;have p:=d.pg.mesh s g u r e (by rw[<-d.pe g,<-d.pe r,N,R]);unfold meshable at p;simp only[I0,C0]at p;obtain⟨⟨o1,o2⟩,Z,-,e3⟩:=p;have b1:=(eS _ _).1 M.2.2.2;have b2:=(eS _ _).1 Q.2.2.2;have hn:(a - 16*s.R) / csz s.e=(b - 16*u.R) / csz u.e:=by
   have z1:cM s a=cM u b:=by rw[<-O,<-S,Z]
   exact z1
  have:=Z0 (λn=>Nat.testBit n ((a - 16*s.R) / csz s.e).toNat) e3;simp only[Nat.testBit_and,Nat.zero_testBit]at this;rw[b1.2.2.2,hn,b2.2.2.2]at this;cases this
 ·exact(G s g N m p y t q C).elim
 ·exact(G u r R l o x A B P).elim
 have hq:=mA d o A B P C.m C.f;obtain⟨i,D,rfl⟩:=aN o;obtain⟨j,F,rfl⟩:=aN p;obtain⟨k,w,X⟩:=uf (d.L.lok _ o) A B;obtain⟨k',k3,k4⟩:=uf (d.L.lok _ p) t q;have:=d.L.one i j D F k k' w k3 ω;subst this;rw[Y,K]
def qQ(h:ab)(o:bu)(f c:Nat):Prop:=∃j:Int,0<=j/\j<o.q/\At h.G (o.Addr+j) f c
variable{o:bu}
def jX(i:aU h E)(B:o∈h.O)(C:qQ h o f c):PS h o.Addr f c:=by
 obtain⟨k,J,K,a⟩:=C;rcases i.oow o B with⟨s,r,t,D⟩|⟨l,u,F,M⟩
 ·have b:=i.L.sok s r
  have j:=aE b;have d:=bV j.2.2;have p:=t;obtain⟨N,O,w,-⟩:=t;have g:o.q<=csz s.e:=by
   have P:=iO (n:=o.q) ω;rw[D];have:o.q=1\/o.q=2\/o.q=3\/o.q=4\/o.q=5\/o.q=6\/o.q=7\/o.q=8:=ω
   rcases this with e|e|e|e|e|e|e|e<;>rw[e]<;>decide
  have G:(o.Addr+k) / 16=s.R:=by rcases d with e|e|e|e<;>rw[e]at w g<;>omega
  have y:=a.f;have H:=a.c;rw[G]at y;refine .inl ⟨s,r,p,y,?_,ω⟩;unfold cM;rcases d with e|e|e|e<;>rw[e]at w g |-<;>omega
 have q:=i.L.lok l u;have A:=q;unfold bL at A;rw[C0]at A;exact .inr ⟨l,u,F,o.Addr+k,ω,ω,a⟩
def Kz(a:aU h E){u:bu}(b:o∈h.O)(d:u∈h.O)(h1:qQ h o f c)(g:qQ h u f c):o=u:=by
 have e:=xb a (jX a b h1) (jX a d g);obtain⟨i,k,rfl⟩:=aN b;obtain⟨j,l,rfl⟩:=aN d;rw[cR (f:=(·.Addr)) (dt a.osr) k l e]
def JX(h:ab)(f c:Nat):Prop:=h.o=true/\(ac (tbl h) h.Y.X.a2).d=f/\(c:Int)∈h.Y.X.T.take h.Y.b.toNat
structure CI(h:ab):Prop where
 z:∀f c:Nat,c<16->cl h.G f c≠0->(∃o∈h.O,qQ h o f c)\/JX h f c
 jv:h.o=true->∀c:Nat,(c:Int)∈h.Y.X.T.take h.Y.b.toNat->cl h.G (b9 h.G h.Y.X.a2) c=cl h.G (b9 h.G h.Y.X.a0) c
 jd:h.o=true->∀s∈h.J,s.R=h.Y.X.a2->∀c:Nat,c<16->(c:Int)∈h.Y.X.T->aX s.b2 ((c:Int) / csz s.e)=false
 jc:h.o=true->∀s∈h.J,s.R=h.Y.X.a0->∀c:Nat,c<16->aX s.b2 ((c:Int) / csz s.e)=true->(c:Int)∈h.Y.X.T
 jn:h.o=true->(h.Y.b1=0->h.Y.b=0)/\(h.Y.b1=2->h.Y.b=h.Y.X.T.length)
 m1:∀q:Nat,(nth (tbl h).K q).j=1->h.o=true/\(q:Int)=h.Y.X.a0/\h.Y.b1≠0
 m2:h.o=true->h.Y.b1≠0->(ac (tbl h) h.Y.X.a0).j=1
variable{h':ab}
theorem CI.keep(j:CI h)(g:h'.Y=h.Y)(k:h'.o=h.o)(r:∀q:Nat,(nth (tbl h').K q).j=1->(nth (tbl h).K q).j=1)(l:h.o=true->ac (tbl h') h.Y.X.a2=ac (tbl h) h.Y.X.a2/\ac (tbl h') h.Y.X.a0=ac (tbl h) h.Y.X.a0)(t:∀f c:Nat,c<16->cl h'.G f c≠0->cl h.G f c=cl h'.G f c\/∃o∈h'.O,qQ h' o f c)(n:∀o∈h.O,∀f c:Nat,c<16->qQ h o f c->cl h'.G f c≠0->∃F∈h'.O,qQ h' F f c)(u:h.o=true->∀c:Nat,(c:Int)∈h.Y.X.T.take h.Y.b.toNat->cl h'.G (b9 h.G h.Y.X.a2) c=cl h.G (b9 h.G h.Y.X.a2) c/\cl h'.G (b9 h.G h.Y.X.a0) c=cl h.G (b9 h.G h.Y.X.a0) c)(p:h.o=true->∀d∈h'.J,d.R=h.Y.X.a2\/d.R=h.Y.X.a0->∃s∈h.J,s.R=d.R/\s.e=d.e/\∀i,aX d.b2 i=true->aX s.b2 i=true):CI h' where
 z f c b w:=by
  rcases t f c b w with e|e
  ·rcases j.z f c b (by rw[e];exact w) with⟨o,G,y⟩|⟨E,H,J⟩
   ·exact .inl (n o G f c b y w)
   exact .inr ⟨by rw[k];exact E,by rw[g,(l E).1];exact H,by rw[g];exact J⟩
  exact .inl e
 jv a c h2:=by
  rw[k]at a;rw[g]at h2 |-;obtain⟨K,L⟩:=u a c h2;obtain⟨M,N⟩:=l a;have O:b9 h'.G h.Y.X.a2=b9 h.G h.Y.X.a2:=Z0 (λe:bi=>e.d.toNat) M;have P:b9 h'.G h.Y.X.a0=b9 h.G h.Y.X.a0:=Z0 (λe:bi=>e.d.toNat) N;rw[O,P,K,L];exact j.jv a c h2
 jd a d hs' hp c b hcm:=by
  rw[k]at a;rw[g]at hp hcm;obtain⟨s,A,B,C,D⟩:=p a d hs' (.inl hp);have:=j.jd a s A (B.trans hp) c b hcm;rw[<-C];rw[<-X6]at this |-;exact λe=>this (D _ e)
 jc a d hs' hp c b hb:=by
  rw[k]at a;rw[g]at hp |-;obtain⟨s,A,B,C,D⟩:=p a d hs' (.inr hp);exact j.jc a s A (B.trans hp) c b (by rw[C];exact D _ hb)
 jn a:=by rw[k]at a;rw[g];exact j.jn a
 m1 q Q:=by rw[k,g];exact j.m1 q (r q Q)
 m2 a h2:=by
  rw[k]at a;rw[g]at h2 |-;rw[(l a).2];exact j.m2 a h2
def Kp(h h':ab):Prop:=∀o∈h'.O,o∈h.O/\∀j:Int,0<=j->j<o.q->eC h'.G (o.Addr+j)=eC h.G (o.Addr+j)
def Kp.refl(h:ab):Kp h h:=λ_ a=>⟨a,λ_ _ _=>rfl⟩
def CZ:type_of% @Kp.refl:=@Kp.refl
def Kp.trans{h1 c:ab}(a:Kp h h1)(b:Kp h1 c):Kp h c:=λo f=>by
 obtain⟨g,i⟩:=b o f;obtain⟨k,l⟩:=a o g;exact⟨k,λj d e=>(i j d e).trans (l j d e)⟩
def aU.jobM(c:aU h E)(f:h.o=true):(ac (tbl h) h.Y.X.a2).j≠0/\(ac (tbl h) h.Y.X.a0).j≠0:=by
 obtain⟨-,⟨a,d,g⟩,b,e,i⟩:=c.job f;rw[<-g,<-i,c.pe d,c.pe e];exact⟨(c.mapped d).2.2,(c.mapped e).2.2⟩
variable{p:Int}
def lX(a:ay k=true)(b:(ac k.F.Q p).j≠0):(ac k.F.Q p).d=(b9 k p:Nat):=by
 obtain⟨-,-,-,c,-⟩:=bD a b;unfold b9;omega
def CI.kern(A:aU h E)(M:CI h)(n:∀o∈h'.O,o∈h.O)(N:h'.Y=h.Y)(B:h'.o=h.o)(b:∀o∈h.O,o∉h'.O->∀f c:Nat,c<16->qQ h o f c->cl h'.G f c=0)(F:∀q:Nat,(nth (tbl h').K q).j=1->(nth (tbl h).K q).j=1)(d:h.o=true->ac (tbl h') h.Y.X.a2=ac (tbl h) h.Y.X.a2/\ac (tbl h') h.Y.X.a0=ac (tbl h) h.Y.X.a0)(r:∀o∈h'.O,∀j:Int,0<=j->j<o.q->ac (tbl h') ((o.Addr+j) / 16)=ac (tbl h) ((o.Addr+j) / 16))(t:∀f c:Nat,cl h'.G f c=cl h.G f c\/(cl h'.G f c=0/\∀p:Int,(ac (tbl h') p).j≠0->(ac (tbl h') p).d≠f))(G:h.o=true->∀u∈h'.J,u.R=h.Y.X.a2\/u.R=h.Y.X.a0->∃s∈h.J,s.R=u.R/\s.e=u.e/\∀i,aX u.b2 i=true->aX s.b2 i=true):CI h'/\Kp h h':=by
 have cov:∀o∈h'.O,∀f c:Nat,qQ h o f c->qQ h' o f c:=λo O f c ⟨j,w,C,l⟩=>by
  have e:=r o O j w C;unfold tbl at e;exact⟨j,w,C,by rw[e];exact l.m,by rw[e];exact l.f,l.c⟩
 have H:∀{p:Int},ac (tbl h') p=ac (tbl h) p->(ac (tbl h) p).j≠0->∀c,cl h'.G (b9 h.G p) c=cl h.G (b9 h.G p) c:=fun {p} e B c=>by
  rcases t (b9 h.G p) c with g|⟨-,g⟩
  ·exact g
  refine absurd ?_ (g p (by rw[e];exact B));rw[e];exact lX A.ker B
 refine⟨M.keep N B F d (λf c _ J=>.inl ?_) (λo a f c K y J=>?_) (λD c _=>⟨H (d D).1 (A.jobM D).1 c,H (d D).2 (A.jobM D).2 c⟩) G,λo a=>⟨n o a,λj w C=>?_⟩⟩
 ·rcases t f c with g|g
  ·exact g.symm
  exact absurd g.1 J
 ·by_cases e:o∈h'.O
  ·exact⟨o,e,cov o e f c y⟩
  exact absurd (b o a e f c K y) J
 have e:=r o a j w C;have L:=(cU A (n o a) (k:=j) ⟨w,ω⟩).1;have:=H e L ((o.Addr+j) % 16).toNat;unfold eC;unfold tbl at e;rw[e];exact this
def xG(d:aU h E)(y:PS h a f c){s:au}(n:s∈h.J)(g:oU (tbl h) s.R)(r:(ac (tbl h) s.R).d=f):eJ s a/\(c:Int) / csz s.e=cM s a/\a / 16=s.R:=by
 obtain⟨K,M,A⟩:=d.mapped n;rcases y with⟨u,o,p,B,C,N⟩|⟨l,q,-,b,t,w,D⟩
 ·obtain⟨O,P,F⟩:=d.mapped o
  have:=g u.R.toNat F (by rw[<-d.pe o,<-d.pe n,B,r]);obtain⟨i,G,rfl⟩:=aN n;obtain⟨j,H,rfl⟩:=aN o;have e:=cR (f:=(·.R)) d.L.nd G H ω;subst e;exact⟨p,C,by have:=p.1;have:=p.2.1;omega⟩
 exfalso;obtain⟨k,J,Q⟩:=uf (d.L.lok l q) t w;have:=mA d q t w D (by rw[d.pe n];exact A) r;exact d.L.dis s n l q k J ω
def t7(n:aU h E)(d:JI h)(o:CI h)(e:h.o=true)(p:PS h a f c)(g:c<16)(i:(c:Int)∈h.Y.X.T):(ac (tbl h) h.Y.X.a2).d≠f:=λq=>by
 obtain⟨s,k,b,-,j,-,-⟩:=d.sp e;obtain⟨r,t,-⟩:=xG n p k (by rw[j];exact d.sk e) (by rw[j];exact q);have:=o.jd e s k j c g i;rw[t]at this;have l:=r.2.2.2;unfold cM at this;rw[this]at l;cases l
def He(n:aU h E)(d:JI h)(j:CI h)(g:h.o=true)(o:PS h a f c)(k:(ac (tbl h) (a / 16)).j≠1)(e:(c:Int)∈h.Y.X.T.take h.Y.b.toNat):(ac (tbl h) h.Y.X.a0).d≠f:=λp=>by
 obtain⟨-,-,b,q,-,i,-⟩:=d.sp g;obtain⟨-,-,r⟩:=xG n o q (by rw[i];exact d.sm g) (by rw[i];exact p);by_cases l:h.Y.b1=0
 ·rw[(j.jn g).1 l]at e;cases e
 have:=j.m2 g l;rw[r,i]at k;exact k this
def Bj(n c:Nat):nth (List.replicate n (0:Int)) c=0:=by
 unfold nth;rw[I3,List.getElem?_replicate];split<;>rfl
structure KL(k k':af)(lo n:Int):Prop where
 out:∀q:Int,¬(lo<=q/\q<lo+n)->ac k'.F.Q q=ac k.F.Q q
 ins:∀q:Int,lo<=q->q<lo+n->(ac k'.F.Q q).j=0
 cel:∀f c:Nat,cl k' f c=cl k f c\/(cl k' f c=0/\∀p:Int,(ac k'.F.Q p).j≠0->(ac k'.F.Q p).d≠f)
def K4(k:af)(F:Int)(f c:Nat):cl (fE k F) f c=cl k f c\/(cl (fE k F) f c=0/\F.toNat=f/\(pagesOn k.F.Q F).length=0):=by
 unfold fE;split
 ·rename_i e
  unfold cl;simp only[bt];split
  ·rename_i a;exact .inr ⟨Bj _ _,a.1,e⟩
  exact .inl rfl
 exact .inl rfl
def lM{t:aI}(h:(ac t p).j≠0):0<=p/\p<t.K.length/\ac t p=nth t.K p.toNat:=by
 unfold ac at h |-;split
 ·rename_i e;exact⟨e.1,e.2,rfl⟩
 rename_i e;rw[CB e]at h;exact absurd rfl h
def P6{t:aI}{F:Int}(h:(pagesOn t F).length=0)(a:(ac t p).j≠0):(ac t p).d≠F:=λe=>by
 obtain⟨c,d,b⟩:=lM a;rw[b]at a e;have:0<(pagesOn t F).length:=dn.2 ⟨p.toNat,ω,a,e⟩;omega
def KL.refl(k:af)(lo:Int):KL k k lo 0:=⟨λ_ _=>rfl,λq a b=>ω,λ_ _=>.inl rfl⟩
def KL.unmap(h:ay k=true)(j:0<=p/\p<k.F.Q.K.length):KL k (cg k p) p 1:=by
 have b:=rQ h j;have d:=(jT k p).1;have i:∀q:Int,ac (cg k p).F.Q q=if q=p then⟨0,0⟩ else ac k.F.Q q:=λq=>by
  unfold ac;rw[d];by_cases e:0<=q/\q<k.F.Q.K.length
  ·rw[CD e,CD e,b q.toNat]
   by_cases a:q=p
   ·rw[CD a,CD ω]
   rw[CB a,CB ω]
  rw[CB e,CB e];by_cases a:q=p
  ·rw[CD a]
  rw[CB a]
 refine⟨λq g=>by rw[i,CB ω],λq t u=>by rw[i,CD ω],λf c=>?_⟩;unfold cg;split
 ·exact .inl rfl
 rename_i l;rcases K4 (lh k p) (ac k.F.Q p).d f c with e|⟨n,a,o⟩
 ·exact .inl e
 refine .inr ⟨n,λq g=>?_⟩;rw[(mZ _ _).1]at g |-;have:=P6 o g;have r:=lX h l;unfold b9 at r;rw[<-a];omega
def KL.trans{i j:af}{lo m:Int}(t:0<=n/\0<=m)(a:KL k i lo n)(b:KL i j (lo+n) m):KL k j lo (n+m):=by
 refine⟨λq u=>(b.out q ω).trans (a.out q ω),λq l w=>?_,λf c=>?_⟩
 ·by_cases e:lo+n<=q
  ·exact b.ins q e ω
  rw[b.out q ω];exact a.ins q l ω
 rcases b.cel f c with e|e
 ·rcases a.cel f c with g|⟨o,r⟩
  ·exact .inl (e.trans g)
  refine .inr ⟨e.trans o,λp d=>?_⟩;by_cases h:lo+n<=p/\p<lo+n+m
  ·exact absurd (b.ins p h.1 h.2) d
  rw[b.out p h]at d |-;exact r p d
 exact .inr e
def KL.unmN{k:af}(a:ay k=true){p:Int}(b:0<=p):∀n:Nat,p+n<=k.F.Q.K.length->KL k (unmN k p n) p n
 | 0,_=>KL.refl k p
 | n+1,h=>by
  have c:=KL.unmN a b n ω;have d:=KL.unmap (iM a p n) (p:=p+n) ⟨ω,by rw[(fF k p n).1];omega⟩;have:=KL.trans ⟨ω,ω⟩ c d;rw[show((n:Nat):Int)+1=((n+1:Nat):Int) by omega]at this;exact this
def KL.md{k':af}{lo:Int}(a:KL k k' lo n)(d:k'.F.Q.K.length=k.F.Q.K.length)(q:Nat)(h:(nth k'.F.Q.K q).j≠0):nth k'.F.Q.K q=nth k.F.Q.K q:=by
 have f:=q7 h;have b:ac k'.F.Q (q:Nat)=nth k'.F.Q.K q:=by unfold ac;rw[CD ⟨ω,ω⟩];rfl
 have c:ac k.F.Q (q:Nat)=nth k.F.Q.K q:=by unfold ac;rw[CD ⟨ω,ω⟩];rfl
 by_cases e:lo<=q/\(q:Int)<lo+n
 ·rw[<-b,a.ins q e.1 e.2]at h;exact absurd rfl h
 rw[<-b,<-c,a.out q e]
def D6(h:0<=aL n):n<=csz (aL n):=by
 have a:=iO h;have:n=1\/n=2\/n=3\/n=4\/n=5\/n=6\/n=7\/n=8:=ω
 rcases this with e|e|e|e|e|e|e|e<;>rw[e]<;>decide
def Ps(k:aU h E)(p:o∈h.O)(g:¬aL o.q<0)(i:qQ h o f c):f=cY h.G o.Addr/\(o.Addr % 16).toNat<=c/\c<(o.Addr % 16).toNat+(csz (aL o.q)).toNat:=by
 obtain⟨⟨s,q,r,t⟩,-⟩:=(ef k p).2 g;obtain⟨A,B,l,-⟩:=r;have a:=D6 (n:=o.q) ω;have b:=bV (aE (k.L.sok s q)).2.2;rw[<-t]at a |-;obtain⟨j,C,D,d⟩:=i;have u:=d.c;have w:=d.f;have y:(o.Addr+j) / 16=o.Addr / 16:=by rcases b with e|e|e|e<;>rw[e]at l a<;>omega
 rw[y]at w;refine⟨by unfold cY;omega,?_⟩;rcases b with e|e|e|e<;>rw[e]at l a |-<;>omega
def CI.clrS{h:ab}{E:List Int}(n:aU h E)(p:CI h){i:Nat}{a:Int}(g:i<h.J.length)(l:eJ (nth h.J i) a):CI (clrS h i a):=by
 have b:=n.L.sok _ (am g);refine p.keep rfl rfl (λq h=>h) (λ_=>⟨rfl,rfl⟩) (λf c _ _=>.inl rfl) (λo r f c _ d _=>⟨o,r,d⟩) (λ_ c _=>⟨rfl,rfl⟩) λ_ w e _=>?_
 rcases eA e with rfl|⟨j,t,-,rfl⟩
 ·refine⟨_,am g,rfl,rfl,λk u=>((Fc (eK b) (qr b ⟨l.1,l.2.1⟩) k).1 u).1⟩
 exact⟨_,am t,rfl,rfl,λ_ h=>h⟩
def PL(a:aU h E)(p:o∈h.O){j:Int}(h1:0<=j)(J:j<o.q){s:au}(r:s∈h.J)(T:(o.Addr+j) / 16=s.R):eJ s o.Addr:=by
 obtain⟨U,V,W⟩:=a.mapped r;have t:=(cU a p (k:=j) ⟨h1,ω⟩).1;have w:=At.mk' a.ker t;rcases jX a p ⟨j,h1,J,w⟩ with⟨u,K,G,-,-,-⟩|⟨l,b,X,-⟩
 ·rcases a.oow o p with⟨v,q,c,M⟩|⟨l,b,N,O⟩
  ·have y:=a.L.sok v q
   have A:=aE y;have B:=bV A.2.2;have C:=c;obtain⟨Y,Z,P,-⟩:=c;have D:o.q<=csz v.e:=by
    have hb:=iO (n:=o.q) ω;rw[M];have:o.q=1\/o.q=2\/o.q=3\/o.q=4\/o.q=5\/o.q=6\/o.q=7\/o.q=8:=ω
    rcases this with e|e|e|e|e|e|e|e<;>rw[e]<;>decide
   have Q:(o.Addr+j) / 16=v.R:=by rcases B with e|e|e|e<;>rw[e]at P D<;>omega
   obtain⟨i,R,rfl⟩:=aN r;obtain⟨k,S,rfl⟩:=aN q;have:=cR (f:=(·.R)) a.L.nd R S (by show(nth h.J i).R=(nth h.J k).R;omega);subst this;exact C
  exfalso;have:=aQ (a.L.lok l b);exact a.L.dis u K l b 0 ω (by have:=G.1;have:=G.2.1;omega)
 exfalso;have H:=a.L.lok l b;unfold bL at H;rw[C0]at H;rcases a.oow o p with⟨v,q,c,-⟩|⟨F,d,N,O⟩
 ·exact a.L.dis v q l b 0 ω (by have:=c.1;have:=c.2.1;omega)
 have g:=a.L.lok F d;unfold bL at g;rw[C0]at g;exact a.L.dis s r F d ((o.Addr+j) / 16 - F.R).toNat ω ω
def CI.giveP{h:ab}{E:List Int}(b:aU h E)(f:CI h){i:Nat}(e:i<h.J.length)(g:(nth h.J i).b2=0)(c:fx h (nth h.J i).R=false):CI (giveP h i)/\Kp h (giveP h i):=by
 obtain⟨k,l,A⟩:=b.mapped (am e);have kl:=KL.unmap b.ker (p:=(nth h.J i).R) ⟨k,l⟩;refine CI.kern b f (λo a=>a) rfl rfl (λo a n=>absurd a n) (λq r=>?_) (λt=>?_) (λo a j u w=>?_) kl.cel (λ_ B d _=>?_)
 ·have:=kl.md (jT _ _).1 q (by show(nth (tbl (Ab.giveP h i)).K q).j≠0;omega)
  show(nth h.G.F.Q.K q).j=1;rw[<-this];exact r
 ·obtain⟨C,D⟩:=yQ c t
  exact⟨kl.out _ ω,kl.out _ ω⟩
 ·refine kl.out _ λF=>?_
  exact wT g _ (PL b a u w (am e) ω)
 obtain⟨j,y,-,rfl⟩:=dv.1 d;exact⟨_,am y,rfl,rfl,λ_ h=>h⟩
def CI.freeS{h:ab}{E:List Int}{a:Int}{i:Nat}(c:aU h (a::E))(j:CI h)(b:i<h.J.length)(d:eJ (nth h.J i) a):CI (freeS h i a)/\Kp h (freeS h i a):=by
 have k:=c.give b d;have f:=CI.clrS c j b d;unfold Ab.freeS;split
 ·rename_i e
  have g:nth (Ab.clrS h i a).J i=kL (nth h.J i) (cM (nth h.J i) a):=by unfold Ab.clrS;simp only[bt,true_and];rw[CD b]
  obtain⟨l,n⟩:=CI.giveP (h:=Ab.clrS h i a) k f (i:=i) (by unfold Ab.clrS;simp only[Z1];exact b) (by rw[g];exact e.1) (by rw[g];exact e.2);exact⟨l,n⟩
 exact⟨f,CZ h⟩
def CI.freeA{h:ab}{E:List Int}{a:Int}(b:aU h (a::E))(c:CI h):CI (freeA h a)/\Kp h (freeA h a):=by
 obtain⟨d,e,-⟩:=b.at (b.hin a (I2 ..));exact CI.freeS b c d e
def CI.recyc{h:ab}{E:List Int}{a:Int}{t:Nat}(c:aU h (a::E))(b:CI h):CI (recyc t h a)/\Kp h (recyc t h a):=by
 unfold Ab.recyc;split
 ·exact⟨⟨b.z,b.jv,b.jd,b.jc,b.jn,b.m1,b.m2⟩,CZ h⟩
 exact CI.freeA c b
def CI.recycs{t:Nat}{E:List Int} : ∀{az:List Int}{h:ab},aU h (az++E)->t<h.S.length->CI h->CI (recycs t h az)/\Kp h (recycs t h az)
 | [],h,_,_,b=>⟨b,CZ h⟩
 | a::az,h,c,d,b=>by
  obtain⟨e,f⟩:=CI.recyc (t:=t) c b;obtain⟨g,i⟩:=CI.recycs (az:=az) (h:=Ab.recyc t h a) (c.recyc d) (by rw[(nG t h a).1];exact d) e;exact⟨g,f.trans i⟩
def CI.freeAs{E:List Int} : ∀{az:List Int}{h:ab},aU h (az++E)->CI h->CI (freeAs h az)/\Kp h (freeAs h az)
 | [],h,_,b=>⟨b,CZ h⟩
 | a::az,h,c,b=>by
  obtain⟨d,e⟩:=CI.freeA c b;obtain⟨f,g⟩:=CI.freeAs (az:=az) (h:=Ab.freeA h a) c.freeA d;exact⟨f,e.trans g⟩
def CI.flushN{t:Nat}{h:ab}(c:aU h [])(d:t<h.S.length)(e:CI h):∀{k:Nat},k<=4->CI (flushN t h k).1/\Kp h (flushN t h k).1
 | 0,_=>⟨e,CZ h⟩
 | k+1,p=>by
  obtain⟨a,g⟩:=CI.flushN c d e (k:=k) ω;obtain⟨f,q,-⟩:=fS c d (k:=k) ω;have b:t<(Ab.flushN t h k).1.S.length:=ω
  have i:=mw (f.cach _ (am b));have j:=f.spilt b (k:=k) ω;have l:CI (spilt (Ab.flushN t h k).1 t k):=⟨a.z,a.jv,a.jd,a.jc,a.jn,a.m1,a.m2⟩
  obtain⟨n,o⟩:=CI.freeAs j l;exact⟨n,g.trans o⟩
def CI.tick{h:ab}{n:Int}(c:aU h [])(a:CI h)(d:0<=n)(b:h.b3+n<=1000000):CI (tick h n)/\Kp h (tick h n):=by
 have e:=c.aged d b;have f:CI (aged h n):=⟨a.z,a.jv,a.jd,a.jc,a.jn,a.m1,a.m2⟩
 exact CI.freeAs e f
def CI.collect{h:ab}{t:Nat}(b:aU h [])(a:CI h)(c:t<h.S.length):CI (collect h t)/\Kp h (collect h t):=by
 have g:=(dZ.1 b.mail).1;have d:=b.nc;have e:=b.coll (t:=t) ω;have f:CI {h with y:=lP h.y t}:=⟨a.z,a.jv,a.jd,a.jc,a.jn,a.m1,a.m2⟩
 exact CI.recycs e c f
def uP(r:List Int)(o:Nat):∀(n c:Nat),nth (lF r o n) c=if o<=c/\c<o+n then 0 else nth r c
 | 0,c=>by rw[CB ω];rfl
 | n+1,c=>by
  unfold lF;rw[bt,uP r o n c,nu];by_cases e:o+n=c
  ·rw[CD (show o<=c/\c<o+(n+1) by omega)]
   by_cases a:c<r.length
   ·rw[CD ⟨e,a⟩]
   rw[CB ω,CB ω];unfold nth;rw[I3,C3 ω];rfl
  rw[CB ω];by_cases a:o<=c/\c<o+n
  ·rw[CD a,CD ω]
  rw[CB a,CB ω]
def yZ(k:af)(a:Int)(n f c:Nat):cl (fH k a n) f c=cl k f c\/(cl (fH k a n) f c=0/\f=cY k a/\(a % 16).toNat<=c/\c<(a % 16).toNat+n):=by
 unfold cl fH;simp only[bt];split
 ·rename_i e
  rw[uP];split
  ·rename_i b;exact .inr ⟨rfl,e.1.symm,b.1,b.2⟩
  rw[e.1];exact .inl rfl
 exact .inl rfl
def Hg{n:Nat}(h1:(a % 16).toNat<=c)(b:c<(a % 16).toNat+n):cl (fH k a n) (cY k a) c=0:=by
 unfold cl fH;simp only[bt];by_cases e:cY k a<k.F.U.T.length
 ·rw[CD ⟨trivial,e⟩,uP,CD ⟨h1,b⟩]
 rw[CB (λx=>e x.2)];have:nth k.F.U.T (cY k a)=[]:=by
  unfold nth;rw[I3,C3 ω];rfl
 rw[this];rfl
def CI.clearO(b:aU h E)(u:JI h)(O:CI h)(P:i<h.O.length)(w:¬aL (nth h.O i).q<0)(hw:(ac (tbl h) ((nth h.O i).Addr / 16)).j≠1)(y:h'.G=fH h.G (nth h.O i).Addr (csz (aL (nth h.O i).q)).toNat)(e2:h'.O=dele h.O i)(e3:h'.J=h.J)(e4:h'.Y=h.Y)(e5:h'.o=h.o):CI h'/\Kp h h':=by
 obtain⟨⟨s,H,s1,s2⟩,hc3⟩:=(ef b (am P)).2 w;have Q:=s1;obtain⟨g1,g2,g3,-⟩:=s1;have A:=b.L.sok s H;have B:=bV (aE A).2.2;obtain⟨m1,m2,m3⟩:=b.mapped H;have R:(nth h.O i).Addr / 16=s.R:=ω
 have J:tbl h'=tbl h:=by unfold tbl;rw[y];rfl
 have S:(ac (tbl h) s.R).d=(cY h.G (nth h.O i).Addr:Nat):=by
  unfold cY;rw[R];exact lX b.ker (by show(ac (tbl h) s.R).j≠0;rw[b.pe H];exact m3)
 have ex:∀c:Nat,((nth h.O i).Addr % 16).toNat<=c->c<((nth h.O i).Addr % 16).toNat+(csz (aL (nth h.O i).q)).toNat->PS h (nth h.O i).Addr (cY h.G (nth h.O i).Addr) c/\c<16:=λc h1 T=>by
  rw[<-s2]at T;have r:c<16:=by rcases B with e|e|e|e<;>rw[e]at g3 T<;>omega
  refine⟨.inl ⟨s,H,Q,S,?_,r⟩,r⟩;unfold cM;rcases B with e|e|e|e<;>rw[e]at g3 T |-<;>omega
 have cv:∀o∈h.O,∀f c:Nat,qQ h o f c->qQ h' o f c:=λo d f c ⟨j,K,U,a⟩=>by
  have e:h'.G.F.Q=h.G.F.Q:=J;exact⟨j,K,U,by rw[e];exact a.m,by rw[e];exact a.f,a.c⟩
 have same:∀o∈h.O,o≠nth h.O i->∀f c:Nat,qQ h o f c->cl h'.G f c=cl h.G f c:=λo d V f c l=>by
  rw[y];rcases yZ h.G (nth h.O i).Addr (csz (aL (nth h.O i).q)).toNat f c with g|⟨-,W,X,Y⟩
  ·exact g
  exfalso;have hx:=(ex c X Y).1;rw[<-W]at hx;have ea:=xb b (jX b d l) hx;obtain⟨k,n,rfl⟩:=aN d;have:=cR (f:=(·.Addr)) (dt b.osr) n P ea;subst this;exact V rfl
 have notO:∀o∈h'.O,o≠nth h.O i/\o∈h.O:=λo d=>by
  rw[e2]at d;obtain⟨k,n,Z,rfl⟩:=dv.1 d;refine⟨λe=>Z ?_,am n⟩;exact cR (f:=(·.Addr)) (dt b.osr) n P (by rw[e])
 refine⟨O.keep e4 e5 (by rw[J];exact λq h=>h) (λ_=>by rw[J];exact⟨rfl,rfl⟩) (λf c _ M=>.inl ?_) (λo d f c r l M=>?_) (λN c C=>?_) (λ_ s' hs' _=>⟨s',by rw[<-e3];exact hs',rfl,rfl,λ_ h=>h⟩),λo d=>⟨(notO o d).2,λj K U=>?_⟩⟩
 ·rw[y]at M |-
  rcases yZ h.G (nth h.O i).Addr (csz (aL (nth h.O i).q)).toNat f c with g|g
  ·exact g.symm
  exact absurd g.1 M
 ·by_cases e:o=nth h.O i
  ·exfalso
   subst e;obtain⟨t,D,F⟩:=Ps b d w l;exact M (by rw[y,t];exact Hg D F)
  refine⟨o,?_,cv o d f c l⟩;rw[e2];obtain⟨k,n,rfl⟩:=aN d;exact dv.2 ⟨k,n,λx=>e (by rw[x]),rfl⟩
 ·have hc16:c<16:=by
   have hm2:=List.mem_of_mem_take C;obtain⟨k,n,e⟩:=aN hm2;have:=f8 (cN.1 (b.job N).1).1 n;omega
  have key:∀p:Int,(ac (tbl h) p).j≠0->(∀c:Nat,PS h (nth h.O i).Addr (cY h.G (nth h.O i).Addr) c->c<16->(c:Int)∈h.Y.X.T.take h.Y.b.toNat->(ac (tbl h) p).d≠(cY h.G (nth h.O i).Addr:Nat))->cl h'.G (b9 h.G p) c=cl h.G (b9 h.G p) c:=λp hp Z=>by
   rw[y];rcases yZ h.G (nth h.O i).Addr (csz (aL (nth h.O i).q)).toNat (b9 h.G p) c with g|⟨-,W,X,Y⟩
   ·exact g
   exfalso;obtain⟨t,D⟩:=ex c X Y;refine Z c t D C ?_;rw[<-W];exact lX b.ker hp
  obtain⟨jm1,jm2⟩:=b.jobM N;exact⟨key _ jm1 λc t D F=>t7 b u O N t D (List.mem_of_mem_take F),key _ jm2 λc t _ F=>He b u O N t hw F⟩
 obtain⟨o1,o2⟩:=notO o d;have a:=At.mk' b.ker (cU b o2 (k:=j) ⟨K,ω⟩).1;have G:At h'.G (o.Addr+j) (cY h.G (o.Addr+j)) ((o.Addr+j) % 16).toNat:=by
  have e:h'.G.F.Q=h.G.F.Q:=J;exact⟨by rw[e];exact a.m,by rw[e];exact a.f,a.c⟩
 rw[G.cell,a.cell];exact same o o2 o1 _ _ ⟨j,K,U,a⟩
end Go.Proofs.YtiopgblagimpmaaGreat.Ab
