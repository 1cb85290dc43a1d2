/- Kernel calls: the program's. No condition. -/
import Derived.Test.YtecefhjnejfheaaGreatKtd
import Derived.Test.YtecefhjnejfheaaGreatKtf
import Derived.Test.YtecefhjnejfheaaGreatKte
set_option linter.unusedVariables false
set_option linter.unusedSimpArgs false
set_option linter.constructorNameAsVariable false
namespace Go.Proofs.YtecefhjnejfheaaGreat.Ab
open Go.RowKit
set_option maxRecDepth 20000
set_option maxHeartbeats 4000000
theorem Hy(xs:List Int)(x:Int)(h:xs.length<=4611686018427387904):ar Tryz.prog 395 false [.val none (aD .X xs),.val none [I x]] .one [I (d9 (λy=>decide (y=x)) xs)]:=by
 refine fO 19 [] Tryz.func395 rfl ?_
 repeat'(first|refine gO ?_|(conv=>whnf);refine CB ?_)
 (conv=>whnf)
 refine CE (ι:=Nat) (λi=>[(0,.H .one (aD .X xs)),(1,.H .one [I (x)]),(7,.H .one [I (xs.length)]),(8,.H .one [I ((i:Nat):Int)])]) (λi=>i<=xs.length/\∀(j:Nat)(z:Int),j<i->xs[j]? = some z->decide (z=x)=false) (λi=>xs.length - i) (0) ?_ (⟨U0 _,λj z d _=>absurd d (Nat.not_lt_zero _)⟩) λi c=>?_
 ·exact wB
 obtain⟨c,b⟩:=c;by_cases g:i<xs.length
 ·have a:=ao g
  by_cases e:nth xs i=x
  ·repeat'(first|refine gD ?_|(conv=>whnf);first|with_reducible refine CC (aa a) ?_|refine Bf.t (by simp[e]) ?_)
   exact W0 (λz=>[I z]) (dE a (O0 e) b).symm
  repeat'(first|refine gD ?_|(conv=>whnf);first|with_reducible refine CC (aa a) ?_|refine Bf.f (by simp[Ne.symm e]) ?_)
  ((conv=>whnf);refine CD (i+1) ⟨ω,dv a (T0 e) b⟩ ω ?_;(exact wB))
 repeat'(first|refine gD ?_|(conv=>whnf);refine CB ?_)
 exact W0 (λz=>[I z]) (gk ω b).symm
theorem zE(xs:List Int)(x:Int)(a:xs.length<=4611686018427387904):ar Tryz.prog 257 false [.val none (aD .X xs),.val none [I x]] .one [B (decide (x∈xs))]:=by
 refine fO 9 [] Tryz.func257 rfl ?_
 repeat'(first|refine gO ?_|(conv=>whnf);refine C7 (Hy xs x a) ?_)
 exact W0 (λz=>[B z]) ((by rw[jA];rw[V4];simp))
def bZ(k:af):af:={k with Calls:=k.Calls+1}
def refd(k:af):Bool:=decide (k.Calls∈k.a0)
theorem rX(k:af)(a:af.sml k)(d:0<=k.Calls/\k.Calls<=100000):ar Tryz.prog 462 false [.val (some 5) (af.enc .X k)] (.tup [some 5,none]) (af.enc .own (bZ k)++[B (!refd k)]):=by
 have c:=iw k a;have g:k.a0.length<=1048576:=a.2;have b:=zE k.a0 k.Calls ω;unfold refd;cases e:decide (k.Calls∈k.a0)<;>rw[e]at b
 all_goals
  refine fO 18 [(3,263,[11,12,13,14,15,16,17,0,1,2,3,4,5,6,7,1006,8])] Tryz.func462 rfl ?_ (.inr (aI (Ca _) ⟨trivial,trivial⟩))
  repeat'(first|refine gO ?_|(conv=>whnf);first|refine CB ?_|refine C7 (c) ?_|refine C7 (b) ?_)
  rfl
def js(k:af)(p:Int)(m:Int):af:={k with F:=⟨k.F.W,⟨k.F.Q.J.set p.toNat {nth k.F.Q.J p.toNat with j:=m}⟩⟩}
def fe(k:af)(p m:Int):af × Bool:=if refd k=true then(bZ k,false) else(js (bZ k) p m,true)
theorem uL(k:af)(p m:Int):af.enc .own (js k p m)=(af.enc .own k).set 2 (.s .own ((k.F.Q.J.map (bi.enc .own)).set p.toNat (bi.enc .own {nth k.F.Q.J p.toNat with j:=m}))):=by
 simp[af.enc,js,X5]
theorem qD(k:af)(p m:Int)(b:a7 k=true)(n:k.Calls≠100000)(j:(ac k.F.Q p).j≠0)(a:m=1\/m=2):ar Tryz.prog 427 false [.val (some 5) (af.enc .X k),.val none [I p],.val none [I m]] (.tup [some 5,none]) (af.enc .own (fe k p m).1++[B (fe k p m).2]):=by
 have c:=bp b;have o:=(aB.1 b).2.2.2;have d:=kI k c;rw[b,O0 n]at d;have g:=rX k c ⟨ω,ω⟩;have h:=fX k p c.1.2;rw[O0 j]at h;obtain⟨q,r,t⟩:=bI b j;have l:=ao (xs:=k.F.Q.J) (i:=p.toNat) ω;unfold fe;cases e:refd k<;>rw[e]at g
 ·rw[C8 (by simp),uL]
  rcases a with rfl|rfl
  all_goals
   refine fO 46 [] Tryz.func427 rfl ?_ (.inr (aI (by rw[<-uL];exact Ca _) ⟨trivial,trivial⟩))
   repeat'(first|refine gO ?_|(conv=>whnf);first|refine C7 (d) ?_|refine C7 (g) ?_|refine C7 (h) ?_|refine CL q (aa l) ?_|refine CP rfl rfl (aa l) rfl (C1 rfl) rfl ?_)
   rfl
 rw[C9 rfl];rcases a with rfl|rfl
 all_goals
  refine fO 46 [] Tryz.func427 rfl ?_ (.inr (aI (Ca _) ⟨trivial,trivial⟩))
  repeat'(first|refine gO ?_|(conv=>whnf);first|refine C7 (d) ?_|refine C7 (g) ?_)
  rfl
theorem row16{k:af}(a:a7 k=true){f:Nat}(b:f<k.F.W.S.length):(nth k.F.W.S f).length=16:=by
 have:=(aU.1 (aB.1 a).2.1).2.2.2 f b;unfold gZ at this;simp only[I0,C0]at this;omega
def setCell(k:af)(f:Nat)(c v:Int):af:={k with F:=⟨⟨k.F.W.S.set f ((nth k.F.W.S f).set c.toNat v),k.F.W.a5⟩,k.F.Q⟩}
theorem vm(k:af)(f:Nat)(c v:Int):af.enc .own (setCell k f c v)=(af.enc .own k).set 0 (.s .own ((k.F.W.S.map (aD .own)).set f [.s .own (((nth k.F.W.S f).map (rI .own)).set c.toNat [I v])])):=by
 simp[af.enc,setCell,X5,aD,rI]
def b9(k:af)(p:Int):Nat:=(ac k.F.Q p).e.toNat
def om(k:af)(a b c:Int):af:=setCell k (b9 k b) c (nth (nth k.F.W.S (b9 k a)) c.toNat)
def H3(k:af)(a b c:Int):Nat->af
 | 0=>k
 | _+1=>om k a b c
theorem GO(k:af)(a b c:Int)(d:a7 k=true)(C:k.Calls≠100000)(q:(ac k.F.Q a).j≠0)(r:(ac k.F.Q b).j≠0)(e:0<=c/\c<=15):ar Tryz.prog 428 false [.val (some 5) (af.enc .X k),.val none [I a],.val none [I b],.val none (aD .X [c])] (.tup [some 5,none]) (af.enc .own (om k a b c)++[B true]):=by
 have h:=bp d;have t:=kI k h;rw[d,O0 C]at t;have D:=iw k h;have u:=fX k a h.1.2;have w:=fX k b h.1.2;rw[O0 q]at u;rw[O0 r]at w;have E:=dB k.F.Q a h.1.2;have F:=dB k.F.Q b h.1.2;have y:=AF c;rw[O0 e]at y;obtain⟨-,-,-,G,K⟩:=bI d q;obtain⟨-,-,-,H,L⟩:=bI d r;have J:=(aU.1 (aB.1 d).2.1).2.2.1;have M:=row16 d (f:=b9 k a) (by unfold b9;omega);have N:=row16 d (f:=b9 k b) (by unfold b9;omega);have l:k.F.W.S[(ac k.F.Q a).e.toNat]? = some (nth k.F.W.S (b9 k a)):=ao ω;have g:k.F.W.S[(ac k.F.Q b).e.toNat]? = some (nth k.F.W.S (b9 k b)):=ao ω;have o:=ao (xs:=nth k.F.W.S (b9 k a)) (i:=c.toNat) ω;have n:=ao (xs:=nth k.F.W.S (b9 k b)) (i:=c.toNat) ω;have p:[c][0]? = some c:=rfl;refine fO 77 [(4,268,[33,34,35,36,37,38,39,40,41,42,43,44,0,1,2,3,4,5,6,7,8,9,10,11,12,1011,13]),(10,18,[56,57,58,59,60,61,62,63,64,65,66,67,68,69,70,71,72,73])] Tryz.func428 rfl ?_ (.inr (aI (Ca _) ⟨trivial,trivial⟩))
 repeat'(first|refine gO ?_|(conv=>whnf);first|refine CB ?_|refine C7 (t) ?_|refine C7 (D) ?_|refine C7 (u) ?_|refine C7 (w) ?_|refine C7 (E) ?_|refine C7 (F) ?_)
 (conv=>whnf)
 refine CE (ι:=Nat) (λj=>[(4,.H .box (af.enc .X k)),(8,.H .box (af.enc .own ⟨⟨⟨[],[]⟩,⟨[]⟩⟩,0,[]⟩)),(10,.H .box (af.enc .own (H3 k a b c j))),(11,.H .one [I ((ac k.F.Q a).e)]),(12,.H .one [I ((ac k.F.Q b).e)]),(45,.H .one (aD .X [c])),(46,.H .one [I (1)]),(47,.H .one [I ((j:Nat):Int)])]) (λj=>j<=1) (λj=>1 - j) (0) ?_ (U0 _) λj O=>?_
 ·exact wB
 by_cases P:j<1
 ·obtain rfl:j=0:=ω
  repeat'(first|refine gD ?_|(conv=>whnf);first|refine CL (by decide) (aa p) ?_|refine C7 (y) ?_|refine CL G (aa l) ?_|refine CL H (aa g) ?_|refine CL e.1 (aa o) ?_|refine CL e.1 (aa n) ?_|refine CH rfl (aa g) rfl ?_|refine Pu.two rfl rfl (aa g) rfl rfl rfl (aa n) rfl (z3 _) rfl ?_)
  ((conv=>whnf);refine CD 1 ω ω ?_)
  rw[show H3 k a b c 1=om k a b c from rfl];unfold om;rw[vm];exact wB
 obtain rfl:j=1:=ω
 repeat'(first|refine gD ?_|(conv=>whnf);refine CB ?_)
 rfl
def tC(k:af)(p:Nat)(e:bi):af:={k with F:=⟨k.F.W,⟨k.F.Q.J.set p e⟩⟩}
theorem Fb(k:af)(p:Nat)(e:bi):af.enc .own (tC k p e)=(af.enc .own k).set 2 (.s .own ((k.F.Q.J.map (bi.enc .own)).set p (bi.enc .own e))):=by
 simp[af.enc,tC,X5]
theorem EY{k:af}(p:Nat)(e:bi)(h:aH.sml k.F.Q):aH.sml (tC k p e).F.Q:=by
 refine⟨?_,λx _=>trivial⟩;show(k.F.Q.J.set p e).length<=_;rw[O1];exact h.1
def qH(k:af)(p o:Int):af × Bool:=if refd k=true then(bZ k,false) else(fU (tC (bZ k) p.toNat ⟨2,(nth k.F.Q.J o.toNat).e⟩) (nth k.F.Q.J p.toNat).e,true)
def fB(m:aR)(a v:Int):aR × Int:=
 if(ac m.Q (a / 16)).j=0 then(m,1) else if(ac m.Q (a / 16)).j=1 then(m,2) else
 (⟨⟨m.W.S.set (ac m.Q (a / 16)).e.toNat ((nth m.W.S (ac m.Q (a / 16)).e.toNat).set (a % 16).toNat v),m.W.a5⟩,m.Q⟩,0)
theorem DG(m:aR)(a:Int)(d:di m=true)(b:aR.sml m)(e:0<=a/\a<512):ar Tryz.prog 502 false [.val (some 3) (aR.enc .X m),.val none [I a]] .agg (bi.enc .own (ac m.Q (a / 16))):=by
 have c:=o6 m b;rw[d]at c;have g:=dB m.Q (a / 16) b.2;refine fO 18 [] Tryz.func502 rfl ?_ (.inr ⟨trivial,trivial,trivial⟩)
 repeat'(first|refine gD ?_|(conv=>whnf);first|refine C7 (c) ?_|refine C7 (g) ?_|refine CM (oD e) ?_|refine CN (by decide) ?_)
 rfl
theorem xQ(m:aR)(f:Nat)(c v:Int):aR.enc .own ⟨⟨m.W.S.set f ((nth m.W.S f).set c.toNat v),m.W.a5⟩,m.Q⟩ = (aR.enc .own m).set 0 (.s .own ((m.W.S.map (aD .own)).set f [.s .own (((nth m.W.S f).map (rI .own)).set c.toNat [I v])])):=by
 simp[aR.enc,X5,aD,rI]
theorem Gy(m:aR)(a v:Int)(p:di m=true)(k:aR.sml m)(l:0<=a/\a<512)(q:0<=v/\v<=999)(r:(ac m.Q (a / 16)).j≠0->0<=(ac m.Q (a / 16)).e/\(ac m.Q (a / 16)).e<m.W.S.length/\(nth m.W.S (ac m.Q (a / 16)).e.toNat).length=16):ar Tryz.prog 410 false [.val (some 3) (aR.enc .X m),.val none [I a],.val none [I v]] (.tup [some 3,none]) (aR.enc .own (fB m a v).1++[I (fB m a v).2]):=by
 have d:=mF m k;have e:=DG m a p k l;have c:=aM v 0 999;rw[O0 q]at c;have b:=aR.enc_fr (fB m a v).1;unfold fB at b |-;by_cases g:(ac m.Q (a / 16)).j=0
 ·rw[C9 g]at b |-
  refine fO 42 [] Tryz.func410 rfl ?_ (.inr (aI b ⟨trivial,trivial⟩))
  repeat'(first|refine gA ?_|(conv=>whnf);first|refine C7 (d) ?_|refine C7 (e) ?_)
  rfl
 rw[C8 g]at b |-;by_cases n:(ac m.Q (a / 16)).j=1
 ·rw[C9 n]at b |-
  refine fO 42 [] Tryz.func410 rfl ?_ (.inr (aI b ⟨trivial,trivial⟩))
  repeat'(first|refine gA ?_|(conv=>whnf);first|refine C7 (d) ?_|refine C7 (e) ?_)
  rfl
 rw[C8 n]at b |-;obtain⟨t,u,w⟩:=r g;have h:=ao (xs:=m.W.S) (i:=(ac m.Q (a / 16)).e.toNat) ω;have o:=ao (xs:=nth m.W.S (ac m.Q (a / 16)).e.toNat) (i:=(a % 16).toNat) ω;simp only at b |-;rw[xQ]at b |-;have j:a.tmod 16=a % 16:=dK l.1;refine fO 42 [] Tryz.func410 rfl ?_ (.inr (aI b ⟨trivial,trivial⟩))
 repeat'(first|refine gA ?_|(conv=>whnf);first|refine C7 (d) ?_|refine C7 (e) ?_|refine C7 (c) ?_|refine CQ j ?_|refine CN (by decide) ?_|refine CL t (aa h) ?_|refine CL ω (aa o) ?_|refine CH rfl (aa h) rfl ?_|refine Pu.two rfl rfl (aa h) rfl rfl rfl (aa o) rfl (z3 _) rfl ?_)
 rfl
theorem Ff(k:af)(p o:Int)(a:a7 k=true)(w:k.Calls≠100000)(l:(ac k.F.Q p).j≠0)(n:(ac k.F.Q o).j≠0)(y:p≠o):ar Tryz.prog 429 false [.val (some 5) (af.enc .X k),.val none [I p],.val none [I o]] (.tup [some 5,none]) (af.enc .own (qH k p o).1++[B (qH k p o).2]):=by
 have b:=bp a;have C:=(aB.1 a).2.2.2;have c:=kI k b;rw[a,O0 w]at c;have d:=rX k b ⟨ω,ω⟩;have g:=fX k p b.1.2;have h:=fX k o b.1.2;rw[O0 l]at g;rw[O0 n]at h;obtain⟨D,H,E,q,r⟩:=bI a l;obtain⟨F,J,K,L,M⟩:=bI a n;have G:=(aU.1 (aB.1 a).2.1).2.2.1;have j:=ao (xs:=k.F.Q.J) (i:=p.toNat) ω;have t:=ao (xs:=k.F.Q.J) (i:=o.toNat) ω;rw[E]at q r;have u:=Bm (tC (bZ k) p.toNat ⟨2,(nth k.F.Q.J o.toNat).e⟩) (nth k.F.Q.J p.toNat).e (EY _ _ b.1.2) ⟨q,by show _<((k.F.W.S.length:Nat):Int);omega,r⟩;rw[Fb]at u;unfold qH;cases e:refd k<;>rw[e]at d
 ·rw[C8 (by simp)]
  refine fP 63 [(213,[2,0]),(1000010,[])] [] Tryz.func429 rfl ?_ (.inr (aI (Ca _) ⟨trivial,trivial⟩))
  repeat'(first|refine gA ?_|(conv=>whnf);first|refine C7 (c) ?_|refine C7 (d) ?_|refine C7 (g) ?_|refine C7 (h) ?_|refine CL D (aa j) ?_|refine CL F (aa t) ?_|refine CH rfl (aa j) rfl ?_|refine CH rfl (aa t) rfl ?_|refine CP rfl rfl (aa j) rfl (C1 rfl) rfl ?_|refine CJ (u) (.inl rfl) ?_)
  rfl
 rw[C9 rfl];refine fP 63 [(213,[2,0]),(1000010,[])] [] Tryz.func429 rfl ?_ (.inr (aI (Ca _) ⟨trivial,trivial⟩))
 repeat'(first|refine gO ?_|(conv=>whnf);first|refine C7 (c) ?_|refine C7 (d) ?_)
 rfl
def jmay(k:af)(j:cg):Bool:=(a7 k&&decide (k.Calls≠100000))&&(ju j&&decide ((ac k.F.Q j.V.a2).j≠0/\(ac k.F.Q j.V.w).j≠0/\(ac k.F.Q j.V.a2).e≠(ac k.F.Q j.V.w).e))
def jstep(k:af)(j:cg):af × cg:=
 if j.b0=0 then((fe k j.V.w 1).1,{j with b0:=if(fe k j.V.w 1).2=true then 1 else 5})
 else if j.b0=1 then(if j.a=j.V.S.length then(k,{j with b0:=2}) else(om k j.V.w j.V.a2 (nth j.V.S j.a.toNat),{j with a:=j.a+1}))
 else if j.b0=2 then((qH k j.V.w j.V.a2).1,{j with b0:=if(qH k j.V.w j.V.a2).2=true then 4 else 3})
 else if j.b0=3 then(if 0<j.a then({k with F:=(fB k.F (j.V.a2*16+nth j.V.S (j.a - 1).toNat) 0).1},{j with a:=j.a - 1}) else((fe k j.V.w 2).1,{j with b0:=if(fe k j.V.w 2).2=true then 5 else 3}))
 else(k,j)
theorem NC{k:af}{f:Int}(h1:∀j,j<k.a0.length->0<=nth k.a0 j)(d:du k.F.W=true)(g:gw k.F.Q k.F.W.a5.length=true)(h:∀j:Nat,j<k.F.W.a5.length->(j:Int)≠f->nth k.F.W.a5 j=decide (0<(pagesOn k.F.Q (j:Int)).length))(t:0<=f/\f<k.F.W.a5.length)(l:nth k.F.W.a5 f.toNat=true)(i:0<=k.Calls/\k.Calls<=100000/\k.a0.length<=40):a7 (fU k f)=true:=by
 obtain⟨n,o,p,q⟩:=aU.1 d;unfold fU;split
 ·rename_i c
  rw[aB];simp only[O1];refine⟨h1,?_,g,λj b=>?_,i⟩
  ·rw[aU]
   simp only[O1,bz];refine⟨n,o,p,λj b=>?_⟩;by_cases a:f.toNat=j
   ·rw[C9 ⟨a,b⟩,C9 ⟨a,ω⟩];decide
   rw[C8 (λe=>a e.1),C8 (λe=>a e.1)];exact q j b
  rw[bz];by_cases a:f.toNat=j
  ·rw[C9 ⟨a,b⟩]
   have:(j:Int)=f:=ω
   rw[this];exact(T0 λr=>absurd c (Nat.ne_of_gt r)).symm
  rw[C8 (λe=>a e.1)];exact h j b ω
 rename_i c;rw[aB];refine⟨h1,d,g,λj b=>?_,i⟩;by_cases a:(j:Int)=f
 ·rw[a,show j=f.toNat by omega,l]
  exact(O0 (Nat.pos_of_ne_zero c)).symm
 exact h j b a
def tEq(t a:aH):Prop:=a.J.length=t.J.length/\∀q:Nat,((nth a.J q).j≠0↔(nth t.J q).j≠0)/\(nth a.J q).e=(nth t.J q).e
theorem tEq.refl(t:aH):tEq t t:=⟨rfl,λ_=>⟨Iff.rfl,rfl⟩⟩
theorem tEq.of{t a:aH}(h:a=t):tEq t a:=by rw[h];exact tEq.refl t
theorem tEq.pagesOn{t a:aH}(h:tEq t a)(f:Int):Ab.pagesOn a f=Ab.pagesOn t f:=by
 unfold Ab.pagesOn jU;rw[h.1]
 congr 1
 refine List.filter_congr λq _=>?_
 obtain⟨b,c⟩:=h.2 q;unfold Lc;rw[c];exact decide_eq_decide.2 (and_congr b Iff.rfl)
theorem Bh{k:af}(h:a7 k=true){a:aH}(c:tEq k.F.Q a)(i:∀q,q<a.J.length->0<=(nth a.J q).j/\(nth a.J q).j<=2):a7 {k with F:=⟨k.F.W,a⟩} = true:=by
 obtain⟨l,n,o,p,r⟩:=aB.1 h;obtain⟨t,u,w⟩:=bv.1 o;rw[aB];refine⟨l,n,bv.2 ⟨λj b=>?_,?_,?_⟩,λj b=>?_,r⟩
 ·replace b:j<a.J.length:=b
  have e:=t j (by rw[<-c.1];exact b);have d:=i j b;obtain⟨g,y⟩:=c.2 j;show ky _ (nth a.J j)=true;unfold ky at e |-;rw[C0]at e |-;rw[y];refine⟨d.1,d.2,λf=>e.2.2.1 (Classical.byContradiction λA=>(g.2 A) f),λf=>e.2.2.2 (g.1 f)⟩
 ·show 1<=a.J.length;rw[c.1];exact u
 ·show a.J.length<=32;rw[c.1];exact w
 show nth k.F.W.a5 j=decide (0<(Ab.pagesOn a (j:Int)).length);rw[c.pagesOn];exact p j b
theorem m8{k:af}(h:a7 k=true)(f:k.Calls≠100000):a7 (bZ k)=true:=by
 obtain⟨a,b,c,d,g,i,e⟩:=aB.1 h;rw[aB];exact⟨a,b,c,d,by show 0<=k.Calls+1;omega,by show k.Calls+1<=100000;omega,e⟩
theorem uK{k:af}{p m:Int}(a:(nth k.F.Q.J p.toNat).j≠0)(b:m=1\/m=2):tEq k.F.Q (js k p m).F.Q:=by
 refine⟨by simp[js],λq=>?_⟩;simp only[js,bz];split
 ·rename_i e
  rw[<-e.1];exact⟨⟨λ_=>a,λ_=>by show m≠0;omega⟩,rfl⟩
 exact⟨Iff.rfl,rfl⟩
theorem MS{k:af}(h:a7 k=true){p m:Int}(d:(nth k.F.Q.J p.toNat).j≠0)(a:m=1\/m=2):a7 (js k p m)=true:=by
 refine Bh h (uK d a) λq e=>?_
 obtain⟨i,j,f,l,n⟩:=aB.1 h;obtain⟨g,o,r⟩:=bv.1 f;have c:q<k.F.Q.J.length:=by rw[<-(uK d a).1];exact e
 have b:=g q c;unfold ky at b;rw[C0]at b;simp only[bz];split
 ·show 0<=m/\m<=2;omega
 exact⟨b.1,b.2.1⟩
theorem DV{k:af}{p m:Int}(h:a7 k=true)(c:k.Calls≠100000)(b:(ac k.F.Q p).j≠0)(a:m=1\/m=2):a7 (fe k p m).1=true/\tEq k.F.Q (fe k p m).1.F.Q:=by
 obtain⟨e,f,d,-⟩:=bI h b;rw[d]at b;unfold fe;split
 ·exact⟨m8 h c,tEq.refl _⟩
 exact⟨MS (m8 h c) b a,uK (k:=bZ k) b a⟩
theorem ge{k:af}(h:a7 k=true){p:Int}(b:(ac k.F.Q p).j≠0):b9 k p<k.F.W.S.length/\nth k.F.W.a5 (b9 k p)=true/\((b9 k p:Nat):Int)=(nth k.F.Q.J p.toNat).e:=by
 obtain⟨f,g,a,i,j⟩:=bI h b;obtain⟨l,d,n,e,o⟩:=aB.1 h;obtain⟨q,r,t,u⟩:=aU.1 d;have c:((b9 k p:Nat):Int)=(ac k.F.Q p).e:=by unfold b9;omega
 refine⟨ω,?_,by rw[c,a]⟩;rw[e _ ω,c];refine O0 (dG.2 ⟨p.toNat,ω,?_,?_⟩)
 ·rw[<-a];exact b
 rw[<-a]
theorem Lh{k:af}(h:a7 k=true){f:Nat}{a:List Int}(c:a.length=16)(d:∀v∈a,0<=v/\v<=999)(g:nth k.F.W.a5 f=true):a7 {k with F:=⟨⟨k.F.W.S.set f a,k.F.W.a5⟩,k.F.Q⟩} = true:=by
 obtain⟨i,l,n,o,p⟩:=aB.1 h;obtain⟨q,r,t,u⟩:=aU.1 l;refine aB.2 ⟨i,aU.2 ⟨?_,?_,?_,λj b=>?_⟩,n,o,p⟩
 ·simp only[O1];exact q
 ·simp only[O1];exact r
 ·simp only[O1];exact t
 simp only[O1]at b |-;simp only[bz];split
 ·rename_i e
  obtain⟨rfl,-⟩:=e;unfold gZ;simp only[I0,C0,Z3];refine⟨c,λv w=>?_⟩;have:=d v w;unfold iH;simp[g,this]
 exact u j b
theorem uo{k:af}(h:a7 k=true){f:Nat}(b:f<k.F.W.S.length):(nth k.F.W.S f).length=16/\∀v∈nth k.F.W.S f,0<=v/\v<=999:=by
 obtain⟨g,c,i,j,l⟩:=aB.1 h;obtain⟨n,o,p,d⟩:=aU.1 c;have a:=d f b;unfold gZ at a;simp only[I0,C0,Z3]at a;refine⟨a.1,λv e=>?_⟩;have:=a.2 v e;unfold iH at this;simp only[I0,C0]at this;exact this.1
theorem qU{k:af}(h:a7 k=true){f:Nat}(b:f<k.F.W.S.length)(d:nth k.F.W.a5 f=true){c v:Int}(e:0<=v/\v<=999):a7 (setCell k f c v)=true:=by
 obtain⟨g,i⟩:=uo h b;refine Lh h (by rw[O1];exact g) (λz a=>?_) d;rcases C6 a with a|rfl
 ·exact i z a
 exact e
theorem LY{k:af}(h:a7 k=true){a b c:Int}(d:(ac k.F.Q a).j≠0)(e:(ac k.F.Q b).j≠0)(l:0<=c/\c<=15):a7 (om k a b c)=true:=by
 obtain⟨f,n,-⟩:=ge h d;obtain⟨g,i,-⟩:=ge h e;obtain⟨o,j⟩:=uo h f;exact qU h g i (j _ (am ω))
theorem M7{k:af}{p o:Int}(h:a7 k=true)(u:k.Calls≠100000)(i:(ac k.F.Q p).j≠0)(d:(ac k.F.Q o).j≠0)(w:p≠o):a7 (qH k p o).1=true:=by
 unfold qH;split
 ·exact m8 h u
 obtain⟨O,y,A⟩:=ge h i;obtain⟨P,Q,R⟩:=ge h d;obtain⟨S,T,B,r,t⟩:=bI h i;obtain⟨U,V,C,D,E⟩:=bI h d;obtain⟨F,G,H,J,W,X,K⟩:=aB.1 h;obtain⟨L,M,N⟩:=bv.1 H;rw[C]at D E d;rw[B]at r t i;have a:∀q,nth (k.F.Q.J.set p.toNat ⟨2,(nth k.F.Q.J o.toNat).e⟩) q=if p.toNat=q then⟨2,(nth k.F.Q.J o.toNat).e⟩ else nth k.F.Q.J q:=λq=>by
  rw[bz];by_cases f:p.toNat=q
  ·rw[C9 ⟨f,ω⟩,C9 f]
  rw[C8 (λe=>f e.1),C8 f]
 refine NC F G (bv.2 ⟨λj c=>?_,?_,?_⟩) (λj c l=>?_) ⟨r,t⟩ (by rw[<-A];exact y) ⟨by show 0<=k.Calls+1;omega,by show k.Calls+1<=100000;omega,K⟩
 ·simp only[tC,bZ,O1]at c |-
  rw[a];split
  ·unfold ky;rw[C0];simp only;omega
  exact L j c
 ·simp only[tC,bZ,O1];exact M
 ·simp only[tC,bZ,O1];exact N
 replace c:j<k.F.W.a5.length:=c;show nth k.F.W.a5 j=_;rw[J j c];refine decide_eq_decide.2 ?_;rw[dG,dG];simp only[tC,bZ,O1,a];constructor
 ·rintro⟨q,n,g,b⟩
  refine⟨q,n,?_⟩;rw[C8 (λe=>l (by rw[<-b,<-e]))];exact⟨g,b⟩
 rintro⟨q,n,g,b⟩
 by_cases e:p.toNat=q
 ·rw[C9 e]at b
  exact⟨o.toNat,ω,d,b⟩
 rw[C8 e]at g b;exact⟨q,n,g,b⟩
theorem DE{k:af}{p o:Int}(h:a7 k=true)(b:(ac k.F.Q p).j≠0)(a:(qH k p o).2=true)(q:Nat):(qH k p o).1.F.Q.J.length=k.F.Q.J.length/\nth (qH k p o).1.F.Q.J q=if(q:Int)=p then⟨2,(nth k.F.Q.J o.toNat).e⟩ else nth k.F.Q.J q:=by
 obtain⟨d,f,-⟩:=bI h b;unfold qH at a |-;split at a
 ·cases a
 rename_i c;rw[C8 c];simp only[(mJ _ _).1];simp only[tC,bZ,O1,bz];refine⟨trivial,?_⟩;by_cases e:(q:Int)=p
 ·rw[C9 ⟨ω,ω⟩,C9 e]
 rw[C8 λz=>e ω,C8 e]
theorem Hv{k:af}{p o:Int}(a:(qH k p o).2=false):(qH k p o).1=bZ k:=by
 unfold qH at a |-;split
 ·rfl
 rename_i b;rw[C8 b]at a;cases a
theorem KR{k:af}{a v:Int}(h:a7 k=true)(g:0<=a)(b:0<=v/\v<=999):a7 {k with F:=(fB k.F a v).1} = true/\(fB k.F a v).1.Q=k.F.Q:=by
 unfold fB;split
 ·exact⟨h,rfl⟩
 rename_i d;split
 ·exact⟨h,rfl⟩
 obtain⟨e,f,-⟩:=ge h d;exact⟨qU h e f (c:=a % 16) b,rfl⟩
def ot(t:aH)(p:Int):Prop:=∀q:Nat,(nth t.J q).j≠0->(nth t.J q).e=(nth t.J p.toNat).e->(q:Int)=p
structure JI(h:ab):Prop where
 ph:h.o=true->0<=h.Y.b0/\h.Y.b0<=3
 sp:h.o=true->∃a∈h.K,∃b∈h.K,a.R=h.Y.V.a2/\b.R=h.Y.V.w/\meshable a b=true
 sk:h.o=true->ot (tbl h) h.Y.V.a2
 sm:h.o=true->ot (tbl h) h.Y.V.w
theorem ot.tEq{t a:aH}{p:Int}(h:ot t p)(b:tEq t a):ot a p:=λq c d=>by
 obtain⟨e,f⟩:=b.2 q;exact h q (e.1 c) (by rw[<-f,<-(b.2 p.toNat).2];exact d)
theorem Pg.tEq{t b:aH}{c:List aA}{sp:List ax}{la:List a8}(h:Pg t c sp la)(a:tEq t b):Pg b c sp la where
 one l hl p hp q hq h1 h2:=h.one l hl p hp q (by rw[<-a.1];exact hq) ((a.2 q).1.1 h1) (by rw[<-(a.2 q).2,<-(a.2 p).2];exact h2)
 bnd p hp:=by rw[a.1];exact h.bnd p hp
 own p hp:=(a.2 p).1.trans (h.own p (by rw[<-a.1];exact hp))
 fre p hp:=(a.2 p).1.trans (h.fre p (by rw[<-a.1];exact hp))
 mesh s hs u hu hne hf:=h.mesh s hs u hu hne (by rw[<-(a.2 _).2,<-(a.2 u.R.toNat).2];exact hf)
theorem aX.step{h:ab}{E:List Int}(a:aX h E){k:af}(b:a7 k=true)(c:k.F.Q.J.length=(tbl h).J.length)(d:Pg k.F.Q h.u h.K h.M){j:cg}{m:Bool}(h1:m=true->ju j=true/\(∃s∈h.K,s.R=j.V.a2)/\∃s∈h.K,s.R=j.V.w)(e:m=false->rJ j=true):aX {h with G:=k,o:=m,Y:=j} E:=
 {a with
   ker:=b
   rng:=by show bC ((k.F.Q.J.length:Nat):Int) h.u=true;rw[c];exact a.rng
   pg:=d
   job:=h1
   noj:=e}
theorem sf.apart{sp:List ax}{la:List a8}(b:sf sp la){s:ax}(c:s∈sp){l:a8}(d:l∈la){p:Int}(a:p∈lpgs l l.a3.toNat):s.R≠p:=by
 unfold lpgs at a;simp only[C4,List.mem_range]at a;obtain⟨k,e,rfl⟩:=a;exact b.dis s c l d k e
theorem Pg.on{t H:aH}{Q:List aA}{sp:List ax}{la:List a8}(h:Pg t Q sp la)(r:sf sp la){a b:ax}(w:a∈sp)(L:b∈sp)(R:meshable a b=true)(A:ot t a.R)(M:(nth t.J a.R.toNat).j≠0)(N:(nth t.J b.R.toNat).j≠0)(U:0<=b.R)(J:H.J.length=t.J.length)(B:∀q:Nat,nth H.J q=if(q:Int)=b.R then⟨2,(nth t.J a.R.toNat).e⟩ else nth t.J q):Pg H Q sp la:=by
 have c:∀q:Nat,(nth H.J q).j≠0↔(nth t.J q).j≠0:=λq=>by
  rw[B];split
  ·rename_i e
   rw[show q=b.R.toNat by omega];exact⟨λ_=>N,λ_=>by show(2:Int)≠0;omega⟩
  rfl
 have V:0<=a.R:=by have:=r.sok a w;unfold bf at this;rw[C0]at this;omega
 refine⟨λl k p g q W S C=>?_,λp g=>by rw[J];exact h.bnd p g,λp g=>(c p).trans (h.own p (by rw[<-J];exact g)),λp g=>(c p).trans (h.fre p (by rw[<-J];exact g)),λs D u E F n=>?_⟩
 ·have O:¬(p:Int)=b.R:=λe=>r.apart L k g e.symm
  rw[B p,C8 O,B q]at C;rw[c]at S;by_cases e:(q:Int)=b.R
  ·rw[C9 e]at C
   have T:=h.one l k p g a.R.toNat (by have:=h.bnd _ (dC (la:=la) w);omega) M C;exact absurd (show a.R=(p:Int) by omega) (r.apart w k g)
  rw[C8 e]at C;exact h.one l k p g q (by rw[<-J];exact W) S C
 have X:0<=s.R:=by have:=r.sok s D;unfold bf at this;rw[C0]at this;omega
 have Y:0<=u.R:=by have:=r.sok u E;unfold bf at this;rw[C0]at this;omega
 have d:∀x∈sp,∀y∈sp,x.R=y.R->x=y:=λx G y Z e=>by
  obtain⟨i,hi,rfl⟩:=aL G;obtain⟨j,hj,rfl⟩:=aL Z;rw[cJ (f:=(·.R)) r.nd hi hj e]
 have o:∀x∈sp,(nth t.J x.R.toNat).j≠0:=λx G=>by
  have hx0:0<=x.R:=by have:=r.sok x G;unfold bf at this;rw[C0]at this;omega
  refine(h.own x.R.toNat (by have:=h.bnd _ (dC (la:=la) G);omega)).2 ?_;rw[show((x.R.toNat:Nat):Int)=x.R by omega];exact dC G
 rw[B,B]at n;simp only[show((s.R.toNat:Nat):Int)=s.R by omega,show((u.R.toNat:Nat):Int)=u.R by omega]at n;by_cases K:s.R=b.R
 ·rw[C9 K,C8 (λe=>F (K.trans e.symm))]at n
  have T:=A u.R.toNat (o u E) n.symm;rw[d s D b L K,d u E a w ω,gW];exact R
 rw[C8 K]at n;by_cases P:u.R=b.R
 ·rw[C9 P]at n
  have T:=A s.R.toNat (o s D) n;rw[d u E b L P,d s D a w ω];exact R
 rw[C8 P]at n;exact h.mesh s D u E F n
def over(j:cg):Bool:=decide (j.b0=4\/j.b0=5)
def eC(k:af)(j:cg):af × cg:=if jmay k j=true then jstep k j else(k,j)
def mStep(h:ab):ab:={h with G:=(eC h.G h.Y).1,o:=if over (eC h.G h.Y).2=true then false else h.o,Y:=if over (eC h.G h.Y).2=true then⟨⟨0,0,[]⟩,0,0⟩ else(eC h.G h.Y).2}
def qn(h:ab):Bool:=decide ((eC h.G h.Y).2.b0=4)
theorem dh{j:cg} : ju j=true↔eK j.V=true/\0<=j.b0/\j.b0<=5/\0<=j.a/\j.a<=j.V.S.length:=by
 unfold ju;simp only[I0,C0]
theorem fm{p:bY}(h:eK p=true){i:Nat}(a:i<p.S.length):0<=nth p.S i/\nth p.S i<=15:=by
 unfold eK at h;simp only[I0]at h;have:=dS h.1 a;unfold mu at this;rw[C0]at this;exact⟨this.1,this.2.1⟩
structure JS(h:ab)(k:af)(j:cg):Prop where
 ker:a7 k=true
 len:k.F.Q.J.length=(tbl h).J.length
 pg:j.b0≠4\/JI h->Pg k.F.Q h.u h.K h.M
 ph:0<=j.b0/\j.b0<=5
 plan:j.V=h.Y.V
 nxt:0<=j.a/\j.a<=j.V.S.length
 eq:j.b0≠4->tEq (tbl h) k.F.Q
 calls:h.G.Calls<=k.Calls/\k.Calls<=h.G.Calls+1/\k.a0=h.G.a0
theorem w9(k:af)(p m:Int):(fe k p m).1.Calls=k.Calls+1/\(fe k p m).1.a0=k.a0:=by
 unfold fe;split<;>exact⟨rfl,rfl⟩
theorem Lw(k:af)(p o:Int):(qH k p o).1.Calls=k.Calls+1/\(qH k p o).1.a0=k.a0:=by
 unfold qH;split
 ·exact⟨rfl,rfl⟩
 obtain⟨-,a,b,-⟩:=mJ (tC (bZ k) p.toNat ⟨2,(nth k.F.Q.J o.toNat).e⟩) (nth k.F.Q.J p.toNat).e;simp only[a,b];exact⟨rfl,rfl⟩
theorem JS.of{h:ab}{E:List Int}(c:aX h E)(B:h.o=true):JS h (eC h.G h.Y).1 (eC h.G h.Y).2:=by
 obtain⟨R,-,-⟩:=c.job B;obtain⟨O,y,A,o,p⟩:=dh.1 R;unfold eC;split
 case isFalse=>exact⟨c.ker,rfl,λ_=>c.pg,⟨y,A⟩,rfl,⟨o,p⟩,λ_=>tEq.refl _,Y4 _,by show h.G.Calls<=h.G.Calls+1;omega,rfl⟩
 rename_i d;unfold jmay at d;simp only[I0,C0]at d;obtain⟨⟨-,C⟩,-,u,r,D⟩:=d;have fin:∀(k:af)(j:cg),a7 k=true->tEq (tbl h) k.F.Q->0<=j.b0/\j.b0<=5->j.V=h.Y.V->0<=j.a/\j.a<=j.V.S.length->h.G.Calls<=k.Calls/\k.Calls<=h.G.Calls+1/\k.a0=h.G.a0->JS h k j:=
  λk j S F T U V W=>⟨S,F.1,λ_=>c.pg.tEq F,T,U,V,λ_=>F,W⟩
 have P:=(aB.1 c.ker).2.2.2.2;unfold jstep;split
 ·obtain⟨l,w⟩:=DV c.ker C r (m:=1) (.inl rfl)
  obtain⟨g,t⟩:=w9 h.G h.Y.V.w 1;refine fin _ _ l w ?_ rfl ⟨o,p⟩ ⟨by rw[g];omega,by rw[g];omega,t⟩;show 0<=(if _ then _ else _:Int)/\(if _ then _ else _:Int)<=5;split<;>omega
 split
 ·split
  ·exact fin _ _ c.ker (tEq.refl _) ⟨by show(0:Int)<=2;omega,by show(2:Int)<=5;omega⟩ rfl ⟨o,p⟩ ⟨Y4 _,by show h.G.Calls<=h.G.Calls+1;omega,rfl⟩
  have n:=fm O (i:=h.Y.a.toNat) ω;refine fin _ _ (LY c.ker r u n) (tEq.refl _) ⟨y,A⟩ rfl ⟨by show 0<=h.Y.a+1;omega,by show h.Y.a+1<=h.Y.V.S.length;omega⟩ ⟨Y4 _,by show h.G.Calls<=h.G.Calls+1;omega,rfl⟩
 split
 ·have G:h.Y.V.w≠h.Y.V.a2:=λe=>D (by rw[e])
  have l:=M7 c.ker C r u G;obtain⟨g,t⟩:=Lw h.G h.Y.V.w h.Y.V.a2;cases e:(qH h.G h.Y.V.w h.Y.V.a2).2 with
  | false=>
   rw[C8 (by simp)];refine fin _ _ l (tEq.of ?_) ⟨by show(0:Int)<=3;omega,by show(3:Int)<=5;omega⟩ rfl ⟨o,p⟩ ⟨by rw[g];omega,by rw[g];omega,t⟩;rw[Hv e];rfl
  | true=>
   rw[C9 rfl];obtain⟨X,m2,Y,-⟩:=bI c.ker r;obtain⟨n1,n2,Z,-⟩:=bI c.ker u;have f:=DE c.ker r e;refine⟨l,(f 0).1,λH=>?_,⟨by show(0:Int)<=4;omega,by show(4:Int)<=5;omega⟩,rfl,⟨o,p⟩,λJ=>absurd rfl J,by rw[g];omega,by rw[g];omega,t⟩;have Q:JI h:=H.elim (λJ=>absurd rfl J) id;obtain⟨a,ha,b,hb,K,M,N⟩:=Q.sp B;refine c.pg.on c.L ha hb N (by rw[K];exact Q.sk B) (by rw[K];show(nth h.G.F.Q.J _).j≠0;rw[<-Z];exact u) (by rw[M];show(nth h.G.F.Q.J _).j≠0;rw[<-Y];exact r) (by rw[M];exact X) (f 0).1 λq=>?_
   rw[(f q).2,M,K];rfl
 split
 ·split
  ·rename_i hn0
   have n:=fm O (i:=(h.Y.a - 1).toNat) ω;have hk0:=(bI c.ker u).1;obtain⟨l,w⟩:=KR c.ker (a:=h.Y.V.a2*16+nth h.Y.V.S (h.Y.a - 1).toNat) (v:=0) ω ⟨ω,ω⟩;exact fin _ _ l (tEq.of w) ⟨y,A⟩ rfl ⟨by show 0<=h.Y.a - 1;omega,by show h.Y.a - 1<=h.Y.V.S.length;omega⟩ ⟨Y4 _,by show h.G.Calls<=h.G.Calls+1;omega,rfl⟩
  obtain⟨l,w⟩:=DV c.ker C r (m:=2) (.inr rfl);obtain⟨g,t⟩:=w9 h.G h.Y.V.w 2;refine fin _ _ l w ?_ rfl ⟨o,p⟩ ⟨by rw[g];omega,by rw[g];omega,t⟩;show 0<=(if _ then _ else _:Int)/\(if _ then _ else _:Int)<=5;split<;>omega
 exact fin _ _ c.ker (tEq.refl _) ⟨y,A⟩ rfl ⟨o,p⟩ ⟨Y4 _,by show h.G.Calls<=h.G.Calls+1;omega,rfl⟩
theorem aX.mStep{h:ab}{E:List Int}(d:aX h E)(f:JI h)(c:h.o=true):aX (mStep h) E/\JI (mStep h):=by
 have s:=JS.of d c;unfold Ab.mStep;generalize (eC h.G h.Y).1=k at s |-;generalize (eC h.G h.Y).2=j at s |-;cases e:over j with
 | true=>
  refine⟨d.step s.ker s.len (s.pg (.inr f)) (λh=>by simp at h) (λ_=>by simp[rJ]),?_⟩;exact⟨λh=>by simp at h,λh=>by simp at h,λh=>by simp at h,λh=>by simp at h⟩
 | false=>
  simp only[Bool.false_eq_true,if_false];unfold over at e;simp only[U4,not_or]at e;have g:=s.eq e.1;have i:=s.ph;refine⟨d.step s.ker s.len (s.pg (.inr f)) (λ_=>⟨dh.2 ⟨by rw[s.plan];exact(dh.1 (d.job c).1).1,s.ph.1,s.ph.2,s.nxt⟩,by rw[s.plan];exact(d.job c).2⟩) (λh=>by rw[c]at h;cases h),?_⟩;refine⟨λ_=>⟨s.ph.1,by show j.b0<=3;omega⟩,λ_=>?_,λ_=>?_,λ_=>?_⟩
  ·show ∃a∈h.K,∃b∈h.K,a.R=j.V.a2/\b.R=j.V.w/\meshable a b=true
   rw[s.plan];exact f.sp c
  ·show ot k.F.Q j.V.a2
   rw[s.plan];exact(f.sk c).tEq g
  show ot k.F.Q j.V.w;rw[s.plan];exact(f.sm c).tEq g
def eP(k:af)(a:Int):Int:=nth (nth k.F.W.S (ac k.F.Q (a / 16)).e.toNat) (a % 16).toNat
def cellsOf(k:af)(a:Int)(n:Nat):List Int:=(List.range n).map λ(i:Nat)=>eP k (a+i)
theorem gG(k:af)(a:Int)(n:Nat):(cellsOf k a n).length=n:=by simp[cellsOf]
theorem sQ(k:af)(a:Int)(n:Nat):cellsOf k a (n+1)=cellsOf k a n++[eP k (a+n)]:=by
 unfold cellsOf;rw[List.range_succ,T5];rfl
theorem FF{k:af}(b:a7 k=true)(p:Int):0<=(ac k.F.Q p).e/\(ac k.F.Q p).e<k.F.W.S.length:=by
 obtain⟨-,c,d,-⟩:=aB.1 b;obtain⟨e,f,g,h⟩:=aU.1 c;unfold ac;split
 ·rename_i i
  have:=(bv.1 d).1 p.toNat ω;unfold ky at this;rw[C0]at this;by_cases a:(nth k.F.Q.J p.toNat).j=0
  ·have:=this.2.2.1 a;omega
  have:=this.2.2.2 a;omega
 simp only;omega
theorem MC{k:af}(a:a7 k=true){j:Nat}(b:j<k.F.W.S.length):(nth k.F.W.S j).length=16/\∀i,i<16->0<=nth (nth k.F.W.S j) i/\nth (nth k.F.W.S j) i<=999:=by
 obtain⟨-,c,-⟩:=aB.1 a;obtain⟨e,f,g,d⟩:=aU.1 c;have:=d j b;unfold gZ at this;rw[I0,C0,Z3]at this;refine⟨this.1,λi l=>?_⟩;have h:=this.2 _ (am (xs:=nth k.F.W.S j) (i:=i) ω);unfold iH at h;rw[I0,C0]at h;exact h.1
theorem zp(h:ab)(o:bu)(a:a7 h.G=true)(p:0<=o.Addr/\o.Addr<=1000000)(q:o.q<=1000000) :
  ar Tryz.prog 125 false [.ptr (ab.enc .X h),.val (some 4) (bu.enc .X o)] .one (aD .own (cellsOf h.G o.Addr o.q.toNat)):=by
 have b:=bp a;refine fO 48 [] Tryz.func125 rfl ?_ (.inr (bH _))
 repeat'(first|refine gO ?_|fail)
 (conv=>whnf)
 refine CE (ι:=Nat) (λi=>[(0,.iref (ab.enc .X h) 0),(3,.H .box (bu.enc .X o)),(5,.H .one (aD .own (cellsOf h.G o.Addr i))),(6,.H .one [I ((i:Nat):Int)])]) (λi=>i<=o.q.toNat) (λi=>o.q.toNat - i) (0) ?_ (U0 _) λi r=>?_
 ·exact wB
 have c:=gG h.G o.Addr i;by_cases t:i<o.q.toNat
 ·obtain⟨d,u⟩:=FF a ((o.Addr+i) / 16)
  have e:=ao (xs:=h.G.F.W.S) (i:=(ac h.G.F.Q ((o.Addr+i) / 16)).e.toNat) ω;have g:=(MC a (j:=(ac h.G.F.Q ((o.Addr+i) / 16)).e.toNat) ω).1;have k:=ao (xs:=nth h.G.F.W.S (ac h.G.F.Q ((o.Addr+i) / 16)).e.toNat) (i:=((o.Addr+i) % 16).toNat) ω;have l:IntKind.i64.wrap ((o.Addr+(i:Int)).tdiv 16)=(o.Addr+i) / 16:=by rw[kb ω];exact eN ω ω
  have n:(o.Addr+(i:Int)).tmod 16=(o.Addr+i) % 16:=dK ω
  repeat'(first|refine gD ?_|(conv=>whnf);first|refine CN (by decide) ?_|refine CM l ?_|refine CQ n ?_|refine C7 (cM h.G.F.Q _ b.1.2) ?_|refine CL d (aa e) ?_|refine CL ω (aa k) ?_|refine Ap.sn cn rfl (by simp;omega) (by decide) rfl ?_)
  (conv=>whnf)
  refine CD (i+1) ω ω ?_;rw[sQ]
  (repeat'(first|exact trivial|rfl|exact CK rfl (CK (W0 (C.s dQ.own) (by simp[rI,eP])) trivial)|refine CK ?_ ?_))
 repeat'(first|refine gD ?_|fail)
 obtain rfl:i=o.q.toNat:=ω
 rfl
theorem BY(h:ab)(a n:Int)(b:a7 h.G=true)(q:0<=a/\a<=1000000)(r:n<=1000000) :
  ar Tryz.prog 87 false [.val (some 24) (ab.enc .X h),.val none [I a],.val none [I n]] .one (aD .own (cellsOf h.G a n.toNat)):=by
 have c:=bp b;refine fO 44 [] Tryz.func87 rfl ?_ (.inr (bH _))
 repeat'(first|refine gO ?_|fail)
 (conv=>whnf)
 refine CE (ι:=Nat) (λi=>[(1,.H .one [I (a)]),(2,.H .one [I (n)]),(3,.H .box (ab.enc .X h)),(7,.H .one (aD .own (cellsOf h.G a i))),(8,.H .one [I ((i:Nat):Int)])]) (λi=>i<=n.toNat) (λi=>n.toNat - i) (0) ?_ (U0 _) λi t=>?_
 ·exact wB
 have d:=gG h.G a i;by_cases u:i<n.toNat
 ·obtain⟨e,w⟩:=FF b ((a+i) / 16)
  have g:=ao (xs:=h.G.F.W.S) (i:=(ac h.G.F.Q ((a+i) / 16)).e.toNat) ω;have k:=(MC b (j:=(ac h.G.F.Q ((a+i) / 16)).e.toNat) ω).1;have l:=ao (xs:=nth h.G.F.W.S (ac h.G.F.Q ((a+i) / 16)).e.toNat) (i:=((a+i) % 16).toNat) ω;have o:IntKind.i64.wrap ((a+(i:Int)).tdiv 16)=(a+i) / 16:=by rw[kb ω];exact eN ω ω
  have p:(a+(i:Int)).tmod 16=(a+i) % 16:=dK ω
  repeat'(first|refine gD ?_|(conv=>whnf);first|refine CN (by decide) ?_|refine CM o ?_|refine CQ p ?_|refine C7 (dB h.G.F.Q _ c.1.2) ?_|refine CL e (aa g) ?_|refine CL ω (aa l) ?_|refine Ap.sn cn rfl (by simp;omega) (by decide) rfl ?_)
  (conv=>whnf)
  refine CD (i+1) ω ω ?_;rw[sQ]
  (repeat'(first|exact trivial|rfl|exact CK rfl (CK (W0 (C.s dQ.own) (by simp[rI,eP])) trivial)|refine CK ?_ ?_))
 repeat'(first|refine gD ?_|fail)
 obtain rfl:i=n.toNat:=ω
 rfl
theorem Di{sp:List ax}{la:List a8}{a:Int}(h:(denotes sp la a).b6=1):∃i:Nat,i<sp.length/\(denotes sp la a).c4=i/\cz (nth sp i) a=true/\denotes sp la a=ow i (nth sp i) a:=by
 unfold denotes at h |-;cases e:sp.findIdx? (cz · a) with
 | some i=>
  obtain⟨b,d,-⟩:=V6.1 e;refine⟨i,b,rfl,?_,rfl⟩;rw[bm (C2 b)];exact d
 | none=>
  rw[e]at h;simp only at h;cases c:la.findIdx? (bq · a) with
  | some i=>rw[c]at h;simp at h
  | none=>rw[c]at h;simp at h
theorem E3{sp:List ax}{la:List a8}{a:Int}(h:(denotes sp la a).b6=3):∃i:Nat,i<la.length/\(denotes sp la a).c4=i/\bq (nth la i) a=true/\denotes sp la a = ⟨3,i,0,a - 16*(nth la i).R⟩:=by
 unfold denotes at h |-;cases e:sp.findIdx? (cz · a) with
 | some i=>
  rw[e]at h;simp only[ow]at h;split at h<;>simp at h
 | none=>
  rw[e]at h;simp only at h |-;cases b:la.findIdx? (bq · a) with
  | some i=>
   obtain⟨c,d,-⟩:=V6.1 b;refine⟨i,c,rfl,?_,rfl⟩;rw[bm (C2 c)];exact d
  | none=>rw[b]at h;simp at h
theorem iA{n:Int}(h:0<=aJ n):1<=n/\n<=8:=by
 unfold aJ at h;split at h
 ·omega
 split at h
 ·omega
 split at h
 ·omega
 split at h
 ·omega
 split at h<;>omega
theorem P1{h:ab}{o:bu}(c:jg h o=true):0<=o.Addr/\o.Addr<=2000/\1<=o.q/\o.q<=1000:=by
 unfold jg at c;simp only[I0,Y5,C0]at c;obtain⟨-,⟨d,e⟩|⟨d,e⟩⟩:=c
 ·obtain⟨i,f,a,b,-⟩:=Di d
  rw[a,W2]at e;unfold cz bf at b;simp only[I0,C0]at b;have:=iA (n:=o.q) ω;omega
 obtain⟨i,f,a,b,-⟩:=E3 d;rw[a,W2]at e;unfold bq bJ at b;simp only[I0,C0]at b;omega
theorem wN{h:ab}(a:dy h=true):cj h=true/\fF h=true:=by
 unfold dy at a;simp only[I0]at a;exact⟨a.1.1.2,a.1.2.1⟩
theorem P5{h:ab}(a:dy h=true):1<=h.a/\h.a<=1000000:=by
 have:=(wN a).1;unfold cj at this;rw[C0]at this;omega
theorem B1{h:ab}(c:dy h=true){i:Nat}(f:i<h.O.length):1<=(nth h.O i).Id/\(nth h.O i).Id<h.a/\0<=(nth h.O i).Addr/\(nth h.O i).Addr<=2000/\1<=(nth h.O i).q/\(nth h.O i).q<=1000/\∀j,j<i->(nth h.O j).Id≠(nth h.O i).Id:=by
 obtain⟨-,g⟩:=wN c;obtain⟨o,p⟩:=P5 c;have a:=dS g f;rw[eN ω ω]at a;unfold objAt gS at a;simp only[I0,C0,Bool.not_eq_true']at a;obtain⟨⟨k,d⟩,l⟩:=a;have b:=P1 l;refine⟨k.2.1,ω,b.1,b.2.1,b.2.2.1,b.2.2.2,λj n e=>?_⟩;rw[List.any_eq_false]at d;refine d (nth h.O j) ?_ (by unfold fh;exact O0 e);have:(h.O.take i)[j]? = some (nth h.O j):=by rw[List.getElem?_take,C9 n,ao ω]
 exact W1 this
theorem Mb{h:ab}(a:dy h=true){i j:Nat}(c:i<h.O.length)(d:j<h.O.length)(f:i≠j):(nth h.O i).Id≠(nth h.O j).Id:=by
 rcases Nat.lt_or_ge i j with b|b
 ·exact(B1 a d).2.2.2.2.2.2 i b
 exact λe=>(B1 a c).2.2.2.2.2.2 j ω e.symm
def RP{α:Type}[Inhabited α](f:α->Int)(xs:List α):Nat->Int
 | 0=>0
 | i+1=>RP f xs i+f (nth xs i)
def bor(n m:Int):Int:=((n.toNat ||| m.toNat:Nat):Int)
def sZ(sp:List ax)(p:Int)(b:Int):Nat->Int
 | 0=>b
 | j+1=>if(nth sp j).R=p then bor (sZ sp p b j) (nth sp j).b2 else sZ sp p b j
def kw(sp:List ax)(ps:List Int)(b:Int):Nat->Int
 | 0=>b
 | k+1=>sZ sp (nth ps k) (kw sp ps b k) sp.length
def ip(h:ab)(i:Nat):Int:=kw h.K (aT h (nth h.K i).R) (nth h.K i).b2 (aT h (nth h.K i).R).length
theorem N5{n m:Int}(h1:0<=n/\n<=65535)(a:0<=m/\m<=65535):0<=bor n m/\bor n m<=65535:=by
 have b:n.toNat ||| m.toNat<2 ^ 16:=Nat.or_lt_two_pow ω ω
 unfold bor;omega
theorem vY{sp:List ax}(h:∀s∈sp,bf s=true){j:Nat}(b:j<sp.length):0<=(nth sp j).b2/\(nth sp j).b2<=65535:=by
 have a:=h _ (am b);have c:=GB (nth sp j).d;unfold bf at a;rw[C0]at a;omega
theorem wd{sp:List ax}(h:∀s∈sp,bf s=true){p b:Int}(a:0<=b/\b<=65535):∀j,j<=sp.length->0<=sZ sp p b j/\sZ sp p b j<=65535
 | 0,_=>a
 | j+1,d=>by
  have c:=wd h (p:=p) a j ω;simp only[sZ];split
  ·exact N5 c (vY h ω)
  exact c
theorem sD{sp:List ax}(h:∀s∈sp,bf s=true){ps:List Int}{b:Int}(a:0<=b/\b<=65535):∀k,0<=kw sp ps b k/\kw sp ps b k<=65535
 | 0=>a
 | k+1=>by simp only[kw];exact wd h (sD h a k) _ (z3 _)
theorem ni{b i:Int}(a:0<=b)(c:0<=i/\i<=15):aS b i=b.toNat.testBit i.toNat:=by
 unfold aS;rw[Nat.testBit_eq_decide_div_mod_eq];refine decide_eq_decide.2 ?_;obtain⟨n,rfl⟩ : ∃n:Nat,b=n:=⟨b.toNat,ω⟩
 rw[W2];have d:((n / 2 ^ i.toNat:Nat):Int)=(n:Int) / 2 ^ i.toNat:=by simp
 omega
theorem Hg{n m i:Int}(b:0<=n)(c:0<=m)(a:0<=i/\i<=15):aS (bor n m) i=(aS n i || aS m i):=by
 rw[ni (by unfold bor;omega) a,ni b a,ni c a];unfold bor;rw[W2,Nat.testBit_or]
theorem FJ{sp:List ax}(h:∀s∈sp,bf s=true){p b i:Int}(k:0<=b/\b<=65535)(l:0<=i/\i<=15):∀j,j<=sp.length->(aS (sZ sp p b j) i=true↔aS b i=true\/∃q,q<j/\(nth sp q).R=p/\aS (nth sp q).b2 i=true)
 | 0,_=>by simp[sZ]
 | j+1,t=>by
  have n:=FJ h (p:=p) k l j ω;have o:=wd h (p:=p) k j ω;have r:=vY h (j:=j) ω;simp only[sZ];split
  ·rename_i d
   rw[Hg o.1 r.1 l,Y5,n];constructor
   ·rintro((e|⟨q,f,a⟩)|e)
    ·exact .inl e
    ·exact .inr ⟨q,ω,a⟩
    exact .inr ⟨j,ω,d,e⟩
   rintro(e|⟨q,f,a,c⟩)
   ·exact .inl (.inl e)
   by_cases g:q=j
   ·subst g;exact .inr c
   exact .inl (.inr ⟨q,ω,a,c⟩)
  rename_i d;rw[n];constructor
  ·rintro(e|⟨q,f,a⟩)
   ·exact .inl e
   exact .inr ⟨q,ω,a⟩
  rintro(e|⟨q,f,a,c⟩)
  ·exact .inl e
  by_cases g:q=j
  ·subst g;exact absurd a d
  exact .inr ⟨q,ω,a,c⟩
theorem Ac{sp:List ax}(h:∀s∈sp,bf s=true){ps:List Int}{b i:Int}(d:0<=b/\b<=65535)(f:0<=i/\i<=15):∀k,(aS (kw sp ps b k) i=true↔aS b i=true\/∃u,u<k/\∃q,q<sp.length/\(nth sp q).R=nth ps u/\aS (nth sp q).b2 i=true)
 | 0=>by simp[kw]
 | k+1=>by
  have g:=Ac h (ps:=ps) d f k;have j:=sD h (ps:=ps) d k;simp only[kw];rw[FJ h j f _ (z3 _),g];constructor
  ·rintro((e|⟨u,c,a⟩)|⟨q,c,a⟩)
   ·exact .inl e
   ·exact .inr ⟨u,ω,a⟩
   exact .inr ⟨k,ω,q,c,a⟩
  rintro(e|⟨u,c,a⟩)
  ·exact .inl (.inl e)
  by_cases l:u=k
  ·subst l;exact .inr a
  exact .inl (.inr ⟨u,ω,a⟩)
def kL{α:Type}(p:α->Bool)(xs:List α):Nat:=(xs.findIdx? p).getD xs.length
def jx{α:Type}(p:α->Bool)(xs:List α)(y:α):List α:=xs.take (kL p xs)++y::xs.drop (kL p xs)
theorem PN{α:Type}(p:α->Bool)(xs:List α):kL p xs<=xs.length:=by
 unfold kL;cases e:xs.findIdx? p with
 | none=>exact z3 _
 | some i=>exact Nat.le_of_lt (V6.1 e).1
theorem kT{α:Type}(p:α->Bool)(xs:List α)(y:α):(jx p xs y).Perm (y::xs):=by
 unfold jx;refine List.perm_middle.trans ?_;rw[List.take_append_drop]
theorem cG{α:Type}{p:α->Bool}{xs:List α}{y z:α} : z∈jx p xs y↔z=y\/z∈xs:=by
 rw[(kT p xs y).mem_iff,List.mem_cons]
theorem wo{α:Type}{p:α->Bool}{xs:List α}{i:Nat}(c:i<=xs.length)(a:∀(j:Nat)(z:α),j<i->xs[j]? = some z->p z=false)(b:∀z,xs[i]? = some z->p z=true):kL p xs=i:=by
 unfold kL;by_cases e:i<xs.length
 ·rw[wb (C2 e) (b _ (C2 e)) a];rfl
 rw[wV ω a];show xs.length=i;omega
theorem lT{α:Type}{f:α->Int}{xs:List α}{y:α}(h:xs.Pairwise λa b=>f a<f b)(p:∀z∈xs,f z≠f y):(jx (λz=>decide (f y<=f z)) xs y).Pairwise λa b=>f a<f b:=by
 have q:∀z∈xs.drop (kL (λz=>decide (f y<=f z)) xs),f y<f z:=λz g=>by
  obtain⟨j,k,rfl⟩:=List.mem_drop_iff_getElem.1 g;have C:=p _ (List.getElem_mem k);cases e:xs.findIdx? (λz=>decide (f y<=f z)) with
  | none=>
   have l:kL (λz=>decide (f y<=f z)) xs=xs.length:=by unfold kL;rw[e];rfl
   rw[l]at k;omega
  | some i=>
   have l:kL (λz=>decide (f y<=f z)) xs=i:=by unfold kL;rw[e];rfl
   obtain⟨r,t,-⟩:=V6.1 e;rw[C0]at t;have c:i+j<xs.length:=by rw[<-l];omega
   have n:f xs[i+j]≠f y:=p _ (List.getElem_mem c);have d:f y<f xs[i+j]:=by
    cases j with
    | zero=>simp only[Nat.add_zero]at n |-;omega
    | succ j=>
     have:=List.pairwise_iff_getElem.1 h i (i+(j+1)) r c ω;omega
   have w:xs[kL (λz=>decide (f y<=f z)) xs+j]? = xs[i+j]?:=by rw[l]
   rw[C2 ω,C2 c]at w;rw[Option.some.inj w];exact d
 have A:∀z∈xs.take (kL (λz=>decide (f y<=f z)) xs),f z<f y:=λz g=>by
  obtain⟨j,k,rfl⟩:=List.mem_take_iff_getElem.1 g;unfold kL at k;cases e:xs.findIdx? (λz=>decide (f y<=f z)) with
  | none=>
   have:=List.findIdx?_eq_none_iff.1 e _ (List.getElem_mem (show j<xs.length by omega));simp only[U4]at this;omega
  | some i=>
   obtain⟨r,t,B⟩:=V6.1 e;simp only[e,Option.getD_some]at k;have:=B j ω;simp only[C0]at this;omega
 unfold jx;refine List.pairwise_append.2 ⟨h.sublist (List.take_sublist ..),List.pairwise_cons.2 ⟨q,h.sublist (List.drop_sublist ..)⟩,λz g u o=>?_⟩;rcases List.mem_cons.1 o with rfl|o
 ·exact A z g
 exact Int.lt_trans (A z g) (q u o)
def ic(b i:Int):Int:=((b.toNat ||| 2 ^ i.toNat:Nat):Int)
def ry(s:ax)(i:Int):ax:={s with b2:=ic s.b2 i}
theorem yj(b i:Int)(j:Nat):(ic b i).toNat.testBit j=(b.toNat.testBit j || decide (i.toNat=j)):=by
 unfold ic;rw[W2,Nat.testBit_or,Nat.testBit_two_pow]
theorem G8{b i:Int}(g:0<=b)(e:0<=i/\i<=15)(j:Int):aS (ic b i) j=true↔aS b j=true\/j=i:=by
 rw[ee,ee,yj,Y5,C0];have f:0<=ic b i:=by unfold ic;omega
 constructor
 ·rintro⟨h,c,d,a|a⟩
  ·exact .inl ⟨g,c,d,a⟩
  exact .inr ω
 rintro(⟨h,c,d,a⟩|rfl)
 ·exact⟨f,c,d,.inl a⟩
 exact⟨f,e.1,e.2,.inr rfl⟩
theorem gU{k:Int}(h:0<=k/\k<=3):lim k=2 ^ (slots k).toNat - 1/\0<=slots k/\slots k<=16/\slots k*csz k=16:=by
 obtain rfl|rfl|rfl|rfl:k=0\/k=1\/k=2\/k=3:=ω
 all_goals decide
theorem BA{s:ax}(h:bf s=true){i:Int}(k:0<=i/\i<slots s.d):bf (ry s i)=true:=by
 have b:=aF h;obtain⟨c,l,o,-⟩:=gU b.2.2;unfold bf at h;rw[C0]at h;obtain⟨d,e,f,g,p,a⟩:=h;refine O0 ⟨d,e,f,g,by show 0<=ic s.b2 i;unfold ic;omega,?_⟩;show ic s.b2 i<=lim s.d;rw[c]at a |-;have j:((2 ^ (slots s.d).toNat:Nat):Int)=(2:Int) ^ (slots s.d).toNat:=by norm_cast
 rw[<-j]at a |-;have:=Nat.or_lt_two_pow (x:=s.b2.toNat) (y:=2 ^ i.toNat) (n:=(slots s.d).toNat) ω (Nat.pow_lt_pow_right ω ω);unfold ic;omega
theorem zR{s u:ax}{i:Int}(b:0<=i/\i<slots s.d)(c:aS u.b2 i=false)(h:meshable s u=true):meshable (ry s i) u=true:=by
 unfold meshable at h |-;simp only[I0,C0]at h |-;obtain⟨⟨d,f⟩,k,l,o⟩:=h;have p:=aF d;obtain⟨r,t,w,-⟩:=gU p.2.2;have a:=eQ f;refine⟨⟨BA d b,f⟩,k,l,?_⟩;refine Nat.eq_of_testBit_eq λj=>?_
 have g:=W0 (λn=>Nat.testBit n j) o;simp only[Nat.testBit_and,Nat.zero_testBit,ry,yj]at g |-;by_cases e:i.toNat=j
 ·have:u.b2.toNat.testBit j=false:=by
   rw[<-C5];intro q;have:=(ee u.b2 i).2 ⟨a.1,b.1,ω,by rw[e];exact q⟩;rw[this]at c;cases c
  rw[this];simp
 rw[T0 e,Bool.or_false];exact g
theorem tD{s:ax}(h:bf s=true){i:Int}(n:0<=i/\i<slots s.d)(b:Int):eL (ry s i) b↔eL s b\/b=16*s.R+i*csz s.d:=by
 have g:=aF h;obtain⟨o,p,k,l⟩:=gU g.2.2;have j:=bO g.2.2;unfold eL;simp only[ry];rw[G8 (eQ h).1 ω];constructor
 ·rintro⟨d,f,c,a|a⟩
  ·exact .inl ⟨d,f,c,a⟩
  right
  rcases j with e|e|e|e<;>rw[e]at c a |-<;>omega
 rintro(⟨d,f,c,a⟩|rfl)
 ·exact⟨d,f,c,.inl a⟩
 have q:slots s.d<=16:=k;rcases j with e|e|e|e<;>rw[e]at l |-<;>refine⟨?_,?_,?_,.inr ?_⟩<;>omega
theorem KH{sp:List ax}{i:Nat}(k:Int)(a:i<sp.length):(sp.set i (ry (nth sp i) k)).map (·.R)=sp.map (·.R):=by
 rw[X5];refine List.ext_getElem (by simp) λj b c=>?_
 rw[List.getElem_set];split
 ·rename_i e;subst e
  rw[List.getElem_map];show(nth sp i).R=_;rw[bm (C2 a)]
 rfl
theorem kh.setS{sp:List ax}{la:List a8}(p:sf sp la){i:Nat}(g:i<sp.length){k:Int}(h:0<=k/\k<slots (nth sp i).d)(b c:Int):kh (sp.set i (ry (nth sp i) k)) b c↔kh sp b c\/(b=16*(nth sp i).R+k*csz (nth sp i).d/\(c<0\/(nth sp i).d=c)):=by
 have d:=p.sok _ (am g);constructor
 ·rintro⟨s,l,f,a⟩
  rcases dY l with rfl|⟨j,n,q,rfl⟩
  ·rcases(tD d h b).1 f with o|o
   ·exact .inl ⟨_,am g,o,a⟩
   exact .inr ⟨o,a⟩
  exact .inl ⟨_,am n,f,a⟩
 rintro(⟨s,l,f,a⟩|⟨f,a⟩)
 ·obtain⟨j,n,rfl⟩:=aL l
  by_cases e:j=i
  ·subst e
   exact⟨_,iV _ g,(tD d h b).2 (.inl f),a⟩
  exact⟨_,jM _ n e,f,a⟩
 exact⟨_,iV _ g,(tD d h b).2 (.inr f),a⟩
theorem PK{h:ab}{E:List Int}(d:aX h E){i:Nat}(l:i<h.K.length){k:Int}(p:0<=k/\k<=15)(b:aS (ip h i) k=false):aS (nth h.K i).b2 k=false/\∀u∈h.K,(nth (tbl h).J u.R.toNat).e=(nth (tbl h).J (nth h.K i).R.toNat).e->aS u.b2 k=false:=by
 have e:=d.L;have q:=eQ (e.sok _ (am l));unfold ip at b;rw[<-C5,Ac e.sok q p]at b;rw[not_or]at b;have r:aS (nth h.K i).b2 k=false:=by simpa using b.1
 have a:∀s∈h.K,s.R.toNat<eY h/\(nth (tbl h).J s.R.toNat).j≠0/\((s.R.toNat:Nat):Int)=s.R:=λs f=>by
  have K:=aF (e.sok s f);have M:=d.pg.bnd s.R (dC f);have n:s.R.toNat<(tbl h).J.length:=ω
  have o:((s.R.toNat:Nat):Int)=s.R:=ω
  exact⟨n,(d.pg.own _ n).2 (by rw[o];exact dC f),o⟩
 refine⟨r,λu c t=>?_⟩;rw[<-C5];intro w;obtain⟨y,A,B⟩:=a _ (am l);obtain⟨C,D,F⟩:=a u c;have G:u.R∈aT h (nth h.K i).R:=by
  rw[<-B,fD y A,<-F];exact ew.2 ⟨C,D,t⟩
 obtain⟨v,H,g⟩:=aL G;obtain⟨j,J,rfl⟩:=aL c;exact b.2 ⟨v,H,j,J,g.symm,w⟩
theorem aX.take{h:ab}{E:List Int}{i:Nat}{k sd:Int}(g:aX h E)(C:i<h.K.length)(D:0<=k/\k<slots (nth h.K i).d)(r:aS (ip h i) k=false)(M:0<=sd/\sd<=1073741823) :
  aX {h with c0:=sd,K:=h.K.set i (ry (nth h.K i) k)} ((16*(nth h.K i).R+k*csz (nth h.K i).d)::E):=by
 have F:=g.L;have T:=F.sok _ (am C);have Q:=aF T;obtain⟨l1,l2,l3,l4⟩:=gU Q.2.2;have hz:=bO Q.2.2;obtain⟨u1,u2⟩:=PK g C ⟨D.1,ω⟩ r;have n:=λb c=>kh.setS F C D b c
 have w:=KH k C;generalize ha:16*(nth h.K i).R+k*csz (nth h.K i).d=a at n |-;have G:¬eL (nth h.K i) a:=by
  rintro⟨-,-,-,h4⟩
  have:(a - 16*(nth h.K i).R) / csz (nth h.K i).d=k:=by
   rw[<-ha];rcases hz with e|e|e|e<;>rw[e]<;>omega
  rw[this,u1]at h4;cases h4
 have hrange:16*(nth h.K i).R<=a/\a<=16*(nth h.K i).R+15:=by
  rcases hz with e|e|e|e<;>rw[e]at ha l4<;>omega
 have U:¬m9 h.K h.M a:=by
  rintro(⟨s,p,d,-⟩|⟨l,hl,e⟩)
  ·obtain⟨j,V,rfl⟩:=aL p
   have:=cJ (f:=(·.R)) F.nd V C (by have a1:=d.1;have a2:=d.2.1;omega);subst this;exact G d
  exact(xW F hl).1 _ (am C) ω
 have W:a∉E++holders h:=λX=>U ((g.mem a).1 X)
 have q:∀s∈h.K.set i (ry (nth h.K i) k),∃u∈h.K,u.R=s.R/\(s=u\/(u=nth h.K i/\s=ry u k)):=λs p=>by
  rcases dY p with rfl|⟨j,V,hji,rfl⟩
  ·exact⟨_,am C,rfl,.inr ⟨rfl,rfl⟩⟩
  exact⟨_,am V,rfl,.inl rfl⟩
 generalize hsp:h.K.set i (ry (nth h.K i) k)=sp at n w q |-;have t:pgs sp h.M=pgs h.K h.M:=by unfold pgs;rw[w]
 have N:∀u∈h.K,∃s∈sp,s.R=u.R:=λu r=>by
  have:u.R∈sp.map (·.R):=by rw[w];exact C4.2 ⟨u,r,rfl⟩
  obtain⟨s,p,e⟩:=C4.1 this;exact⟨s,p,e⟩
 exact {g with
   lay:=by
     obtain⟨l1,l2,l3⟩:=dA g.lay;unfold bn;simp only[I0,C0];refine⟨⟨Z3.2 λs p=>?_,l2⟩,by rw[t];exact l3⟩;obtain⟨u,r,-,rfl|⟨rfl,rfl⟩⟩:=q s p
     · exact F.sok _ r
     exact BA (F.sok _ r) D
   srs:=by
     have d:(h.K.map (·.R)).Pairwise (λa b=>a<b):=List.pairwise_map.2 g.srs;rw[<-w]at d;exact List.pairwise_map.1 d
   pg:=⟨g.pg.one,by rw[t];exact g.pg.bnd,by rw[t];exact g.pg.own,g.pg.fre,λs p u r O hf=>by
     obtain⟨R,A,Y,Z⟩:=q s p;obtain⟨S,B,eu,P⟩:=q u r;have H:(nth (tbl h).J R.R.toNat).e=(nth (tbl h).J S.R.toNat).e:=by rw[Y,eu];exact hf
     have d:=g.pg.mesh R A S B (by rw[Y,eu];exact O) H;rcases Z with rfl|⟨rfl,rfl⟩
     · rcases P with rfl|⟨rfl,rfl⟩
       · exact d
       rw[gW]at d |-;exact zR D (u2 _ A H) d
     rcases P with rfl|⟨rfl,rfl⟩
     · exact zR D (u2 _ B H.symm) d
     exact absurd (Y.symm.trans eu) O⟩
   nums:=by
     have:=g.nums;unfold cj at this |-;rw[C0]at this |-;exact⟨M.1,M.2,this.2.2⟩
   oow:=λo ho=>by
     rcases g.oow o ho with⟨s,p,d,h2⟩|d
     · obtain⟨u,r,g1,K⟩:=(n o.Addr (aJ o.q)).2 (.inl ⟨s,p,d,.inr h2⟩)
       refine .inl ⟨u,r,g1,?_⟩;rcases K with K|K
       · have:=aF (F.sok _ p);omega
       exact K
     exact .inr d
   hca:=λc Q k D b J=>(n b k).2 (.inl (g.hca c Q k D b J))
   hqu:=λy hy=>(n _ _).2 (.inl (g.hqu y hy))
   hfl:=λb J=>(n _ _).2 (.inl (g.hfl b J))
   hin:=λb J=>by
     rcases List.mem_cons.1 J with rfl|J
     · exact(n _ _).2 (.inr ⟨rfl,.inl (by decide)⟩)
     exact(n _ _).2 (.inl (g.hin b J))
   nd:=by
     rw[List.cons_append];exact List.nodup_cons.2 ⟨W,g.nd⟩
   mem:=λb=>by
     show b∈a::E++holders h↔m9 sp h.M b;rw[List.cons_append,List.mem_cons,g.mem b];unfold m9;rw[n];constructor
     · rintro(rfl|d|d)
       · exact .inl (.inr ⟨rfl,.inl (by decide)⟩)
       · exact .inl (.inl d)
       exact .inr d
     rintro((d|⟨d,-⟩)|d)
     · exact .inr (.inl d)
     · exact .inl d
     exact .inr (.inr d)
   job:=λX=>by
     obtain⟨j1,⟨s,p,e1⟩,⟨u,r,e2⟩⟩:=g.job X;obtain⟨R,A,g1⟩:=N s p;obtain⟨S,B,K⟩:=N u r;exact⟨j1,⟨R,A,g1.trans e1⟩,⟨S,B,K.trans e2⟩⟩}
def sq(c:aE)(k:Nat):aE:=⟨c.b.set k ((nth c.b k).take ((nth c.b k).length - 1))⟩
theorem Nm{l:List Int}(h:0<l.length):l=l.take (l.length - 1)++[nth l (l.length - 1)]:=by
 have a:l.drop (l.length - 1)=[nth l (l.length - 1)]:=by
  rw[iP ω,show l.length - 1+1=l.length by omega,List.drop_length]
 rw[<-a,List.take_append_drop]
theorem aX.pop{h:ab}{E:List Int}{t k:Nat}(f:aX h E)(l:t<h.T.length)(p:k<(nth h.T t).b.length)(u:0<(nth (nth h.T t).b k).length)(w:bA (sq (nth h.T t) k)=true) :
  aX {h with T:=h.T.set t (sq (nth h.T t) k)} (nth (nth (nth h.T t).b k) ((nth (nth h.T t).b k).length - 1)::E)/\kh h.K (nth (nth (nth h.T t).b k) ((nth (nth h.T t).b k).length - 1)) k:=by
 have q:=Nm u;have n:=f.hca _ (am l) k p (nth (nth (nth h.T t).b k) ((nth (nth h.T t).b k).length - 1)) (am ω);refine⟨?_,n⟩;generalize D:nth (nth (nth h.T t).b k) ((nth (nth h.T t).b k).length - 1)=a at q n |-;have r:(E++holders h).Perm (a::E++holders {h with T:=h.T.set t (sq (nth h.T t) k)}):=by
  refine List.perm_iff_count.2 λb=>?_
  have A:=iT (λc:aE=>c.b.flatten) b h.T t (sq (nth h.T t) k) l;have B:=iT (λy:List Int=>y) b (nth h.T t).b k ((nth (nth h.T t).b k).take ((nth (nth h.T t).b k).length - 1)) p;rw[<-lw,<-lw]at B;have C:=W0 (List.count b) q;simp only[W5,List.count_singleton]at C;simp only[sq]at A;simp only[holders,cC,sq,W5,List.cons_append,List.count_cons];omega
 exact {f with
   nc:=by show(h.T.set ..).length=_;rw[O1];exact f.nc
   cach:=λc d=>by
     rcases C6 d with d|rfl
     · exact f.cach c d
     exact w
   onu:=by show ∀o∈h.O,1<=o.Id/\o.Id<=h.a - 1/\0<=o.a4/\o.a4<=(h.T.set t _).length - 1;rw[O1];exact f.onu
   hca:=λc d j i b g=>by
     rcases C6 d with d|rfl
     · exact f.hca c d j i b g
     simp only[sq,O1]at i;simp only[sq,bz]at g;by_cases e:k=j
     · subst e
       rw[C9 ⟨rfl,i⟩]at g;exact f.hca _ (am l) _ i b (List.mem_of_mem_take g)
     rw[C8 λy=>e y.1]at g;exact f.hca _ (am l) _ i b g
   hin:=λb g=>by
     rcases List.mem_cons.1 g with rfl|g
     · exact n.any
     exact f.hin b g
   nd:=r.nodup_iff.1 f.nd
   mem:=λb=>by rw[<-r.mem_iff];exact f.mem b}
def NJ(a:Int)(o:bu):Bool:=decide (a<=o.Addr)
def addO(h:ab)(a size t:Int):ab:={h with O:=jx (NJ a) h.O ⟨h.a,a,size,t⟩,a:=h.a+1}
theorem zQ{h:ab}(a:cj h=true)(b:h.a<1000000):decide (0<=h.c0/\h.c0<=1073741823/\0<=h.b3/\h.b3<=1000000/\0<=h.c3/\h.c3<=1000/\1<=h.a+1/\h.a+1<=1000000)=true:=by
 unfold cj at a;rw[C0]at a |-;omega
theorem aX.addO{h:ab}{E:List Int}{a size t:Int}(c:aX h (a::E))(d:LN h.K h.M ⟨h.a,a,size,t⟩)(p:h.a<1000000)(q:0<=t/\t<=h.T.length - 1):aX (addO h a size t) E:=by
 have i:=kT (NJ a) h.O ⟨h.a,a,size,t⟩;have n:(a::E++holders h).Perm (E++holders (Ab.addO h a size t)):=by
  have r:=i.map (·.Addr);refine List.perm_iff_count.2 λb=>?_
  have u:=r.count_eq b;simp only[V5,List.count_cons]at u;simp only[holders,cC,Ab.addO,W5,List.cons_append,List.count_cons];omega
 have j:=c.nd;rw[List.cons_append]at j;obtain⟨k,-⟩:=List.nodup_cons.1 j;have l:∀o∈h.O,o.Addr≠a:=λo d e=>k (Z2.2 (.inr (by unfold holders;simp only[Z2];exact .inl (.inl (.inl (C4.2 ⟨o,d,e⟩))))))
 exact {c with
   nums:=zQ c.nums p
   osr:=lT (f:=λo:bu=>o.Addr) (y:=⟨h.a,a,size,t⟩) c.osr l
   onu:=λo d=>by
     rcases cG.1 d with rfl|d
     · have:=c.nums
       unfold cj at this;rw[C0]at this;exact⟨by show 1<=h.a;omega,by show h.a<=h.a+1 - 1;omega,q⟩
     have:=c.onu o d;exact⟨this.1,by show o.Id<=h.a+1 - 1;omega,this.2.2⟩
   oid:=by
     show((jx (NJ a) h.O ⟨h.a,a,size,t⟩).map (·.Id)).Nodup;rw[(i.map _).nodup_iff,V5];refine List.nodup_cons.2 ⟨λw=>?_,c.oid⟩;obtain⟨o,d,e⟩:=C4.1 w;have:=(c.onu o d).2.1;simp only at e;omega
   oow:=λo g=>by
     rcases cG.1 g with rfl|g
     · exact d
     exact c.oow o g
   hin:=λb A=>c.hin b (z5 _ A)
   nd:=n.nodup_iff.1 c.nd
   mem:=λb=>by rw[<-n.mem_iff];exact c.mem b}
def jt(xs:List aA)(n:Int):Nat->Int
 | 0=>-1
 | i+1=>if n<=(nth xs i).b1/\(jt xs n i<0\/(nth xs i).b1<(nth xs (jt xs n i).toNat).b1) then(i:Nat) else jt xs n i
def ir(xs:List aA)(n:Int):Int:=jt xs n xs.length
def au(xs:List aA)(n:Int):List aA × Int × Bool:=
 if ir xs n<0 then(xs,-1,false)
 else if(nth xs (ir xs n).toNat).b1=n then(dele xs (ir xs n).toNat,(nth xs (ir xs n).toNat).At,true)
 else(xs.set (ir xs n).toNat ⟨(nth xs (ir xs n).toNat).At+n,(nth xs (ir xs n).toNat).b1 - n⟩,(nth xs (ir xs n).toNat).At,true)
theorem w8(xs:List aA)(n:Int):∀i,i<=xs.length->jt xs n i = -1\/(0<=jt xs n i/\jt xs n i<i/\n<=(nth xs (jt xs n i).toNat).b1)
 | 0,_=>.inl rfl
 | i+1,b=>by
  have a:=w8 xs n i ω;unfold jt;split
  ·rename_i h;right;rw[W2];exact⟨ω,ω,h.1⟩
  rcases a with h|h
  ·exact .inl h
  exact .inr ⟨h.1,ω,h.2.2⟩
theorem yE{xs:List aA}(h:oH xs){i j:Nat}(a:i<j)(b:j<xs.length):(nth xs i).At+(nth xs i).b1<(nth xs j).At:=by
 have:=List.pairwise_iff_getElem.1 h.1 i j ω b a
 rwa [<-bm (C2 (show i<xs.length by omega)),<-bm (C2 b)]at this
theorem yw{xs:List aA}{p:Int} : RH xs p↔∃j,j<xs.length/\(nth xs j).At<=p/\p<(nth xs j).At+(nth xs j).b1:=by
 unfold RH;constructor
 ·rintro⟨r,b,h⟩
  obtain⟨j,a,rfl⟩:=aL b;exact⟨j,a,h⟩
 rintro⟨j,a,h⟩
 exact⟨_,am a,h⟩
theorem nu{pages:Int}{xs:List aA}{n:Int}(h:bC pages xs=true)(T:1<=n)(t:(au xs n).2.2=true) :
  bC pages (au xs n).1=true/\0<=(au xs n).2.1/\(au xs n).2.1+n<=pages/\(∀p,RH (au xs n).1 p↔RH xs p/\¬((au xs n).2.1<=p/\p<(au xs n).2.1+n))/\∀p,(au xs n).2.1<=p->p<(au xs n).2.1+n->RH xs p:=by
 obtain⟨o,u,J⟩:=gd.1 h;have K:=w8 xs n xs.length (z3 _);unfold au at t |-;change ir xs n = -1\/_ at K;split at t
 ·cases t
 rename_i w;rw[C8 w];obtain⟨O,P,L⟩:=K.resolve_left ω;change 0<=ir xs n at O;change ir xs n<xs.length at P;change n<=(nth xs (ir xs n).toNat).b1 at L;generalize Q:(ir xs n).toNat=b at L |-;have g:b<xs.length:=ω
 have M:=u _ (am g);have q:∀j,j<xs.length->j≠b->(nth xs j).At+(nth xs j).b1<(nth xs b).At\/(nth xs b).At+(nth xs b).b1<(nth xs j).At:=λj a k=>by
  rcases Nat.lt_or_gt_of_ne k with A|B
  ·exact .inl (yE o A g)
  exact .inr (yE o B a)
 split
 ·rename_i R
  have C:(dele xs b).Sublist xs:=fR ..;refine⟨gd.2 ⟨⟨o.1.sublist C,λy l=>o.2 y (C.subset l)⟩,λy l=>u y (C.subset l),J⟩,M.1,by show(nth xs b).At+n<=pages;omega,λp=>?_,λp D E=>yw.2 ⟨b,g,D,by show p<_;simp only at E;omega⟩⟩;simp only;rw[yw (xs:=xs)];constructor
  ·rintro⟨r,F,f,d⟩
   obtain⟨j,a,k,rfl⟩:=cU.1 F;refine⟨⟨j,a,f,d⟩,λe=>?_⟩;have:=q j a k;omega
  rintro⟨⟨j,a,f,d⟩,G⟩
  exact⟨_,cU.2 ⟨j,a,λe=>by subst e;omega,rfl⟩,f,d⟩
 rename_i R;have c:∀j,nth (xs.set b ⟨(nth xs b).At+n,(nth xs b).b1 - n⟩) j=if j=b then⟨(nth xs b).At+n,(nth xs b).b1 - n⟩ else nth xs j:=λj=>by
  rw[bz];by_cases e:j=b
  ·rw[C9 ⟨e.symm,ω⟩,C9 e]
  rw[C8 λz=>e z.1.symm,C8 e]
 refine⟨gd.2 ⟨⟨?_,λy l=>?_⟩,λy l=>?_,J⟩,M.1,by show(nth xs b).At+n<=pages;omega,λp=>?_,λp D E=>yw.2 ⟨b,g,D,by simp only at E;omega⟩⟩
 ·rw[List.pairwise_iff_getElem]
  intro i j N a H;rw[<-bm (C2 N),<-bm (C2 a),c,c];simp only[O1]at N a;have S:=yE o H a;split
  ·rename_i e;subst e
   rw[C8 ω];simp only;omega
  split
  ·rename_i e;subst e
   simp only;omega
  exact S
 ·rcases dY l with rfl|⟨j,a,-,rfl⟩
  ·simp only;omega
  exact o.2 _ (am a)
 ·rcases dY l with rfl|⟨j,a,-,rfl⟩
  ·simp only;omega
  exact u _ (am a)
 simp only;rw[yw,yw,O1];constructor
 ·rintro⟨j,a,f,d⟩
  rw[c]at f d;split at f
  ·rename_i e;subst e
   rw[C9 rfl]at d;simp only at f d;exact⟨⟨j,a,ω,ω⟩,ω⟩
  rename_i e;rw[C8 e]at d;have:=q j a e;exact⟨⟨j,a,f,d⟩,ω⟩
 rintro⟨⟨j,a,f,d⟩,G⟩
 refine⟨j,a,?_⟩;rw[c];split
 ·rename_i e;subst e
  simp only;omega
 exact⟨f,d⟩
def rR(k:af):Int:=d9 (λu=>!u) k.F.W.a5
def rm(k:af)(p:Int)(f:Nat):af:={k with F:=⟨⟨k.F.W.S,k.F.W.a5.set f true⟩,⟨k.F.Q.J.set p.toNat ⟨2,(f:Nat)⟩⟩⟩}
def newK(k:af)(p:Int):af × Bool:=if refd k=true\/rR k<0 then(bZ k,false) else(rm (bZ k) p (rR k).toNat,true)
theorem EZ{k:af}(h:¬rR k<0):(rR k).toNat<k.F.W.a5.length/\nth k.F.W.a5 (rR k).toNat=false:=by
 unfold rR at h |-;rcases lR (λu=>!u) k.F.W.a5 with e|⟨n,a,e,b⟩
 ·omega
 rw[e,W2];exact⟨a,by simpa using b⟩
theorem Af{k:af}(h:a7 k=true){f:Nat}(b:f<k.F.W.a5.length)(c:nth k.F.W.a5 f=false)(q:Nat)(d:q<k.F.Q.J.length)(g:(nth k.F.Q.J q).j≠0):(nth k.F.Q.J q).e≠(f:Nat):=by
 obtain⟨j,l,n,i,o⟩:=aB.1 h;intro e;have a:=i f b;rw[c]at a;have:=of_decide_eq_false a.symm;exact this (dG.2 ⟨q,d,g,e⟩)
theorem PG{k:af}{p:Int}{f:Nat}(h:a7 k=true)(L:0<=p/\p<k.F.Q.J.length)(n:(nth k.F.Q.J p.toNat).j=0)(o:f<k.F.W.a5.length)(r:nth k.F.W.a5 f=false):a7 (rm k p f)=true:=by
 have t:=Af h o r;obtain⟨u,w,y,A,B⟩:=aB.1 h;obtain⟨C,D,E,F⟩:=aU.1 w;obtain⟨G,H,J⟩:=bv.1 y;have a:∀q,nth (k.F.Q.J.set p.toNat ⟨2,(f:Nat)⟩) q=if p.toNat=q then⟨2,(f:Nat)⟩ else nth k.F.Q.J q:=λq=>by
  rw[bz];by_cases i:p.toNat=q
  ·rw[C9 ⟨i,ω⟩,C9 i]
  rw[C8 (λe=>i e.1),C8 i]
 refine aB.2 ⟨u,aU.2 ⟨C,D,by simp only[rm,O1];exact E,λj b=>?_⟩,bv.2 ⟨λj b=>?_,?_,?_⟩,λj b=>?_,B⟩
 ·replace b:j<k.F.W.S.length:=b
  show gZ (nth k.F.W.S j) (nth (k.F.W.a5.set f true) j)=true;have d:=F j b;rw[bz];split
  ·unfold gZ at d |-
   simp only[I0,C0,Z3]at d |-;refine⟨d.1,λv K=>?_⟩;have:=d.2 v K;unfold iH at this |-;simp only[I0]at this;rw[this.1];rfl
  exact d
 ·simp only[rm,O1]at b |-
  rw[a];split
  ·unfold ky;rw[C0];simp only;omega
  exact G j b
 ·simp only[rm,O1];exact H
 ·simp only[rm,O1];exact J
 simp only[rm,O1]at b;show nth (k.F.W.a5.set f true) j=_;rw[bz];by_cases e:f=j
 ·subst e
  rw[C9 ⟨rfl,b⟩];refine(O0 (dG.2 ⟨p.toNat,?_,?_,?_⟩)).symm
  ·simp only[rm,O1];omega
  ·simp only[rm,a,C9];decide
  simp only[rm,a,C9]
 rw[C8 λz=>e z.1,A j b];refine decide_eq_decide.2 ?_;rw[dG,dG];simp only[rm,O1,a];constructor
 ·rintro⟨q,l,g,c⟩
  refine⟨q,l,?_⟩;rw[C8 λz=>g (by rw[<-z];exact n)];exact⟨g,c⟩
 rintro⟨q,l,g,c⟩
 by_cases z:p.toNat=q
 ·rw[C9 z]at c
  simp only at c;omega
 rw[C8 z]at g c;exact⟨q,l,g,c⟩
structure vP(k:af)(p:Int)(r:af × Bool):Prop where
 ker:a7 r.1=true
 len:r.1.F.Q.J.length=k.F.Q.J.length
 calls:r.1.Calls=k.Calls+1
 ref:r.1.a0=k.a0
 cells:r.1.F.W.S=k.F.W.S
 no:r.2=false->r.1=bZ k
 yes:r.2=true->∃f:Nat,f<k.F.W.a5.length/\nth k.F.W.a5 f=false/\(∀q:Nat,nth r.1.F.Q.J q=if(q:Int)=p then⟨2,(f:Nat)⟩ else nth k.F.Q.J q)/\∀q,q<k.F.Q.J.length->(nth k.F.Q.J q).j≠0->(nth k.F.Q.J q).e≠(f:Nat)
theorem vP.of{k:af}{p:Int}(h:a7 k=true)(c:k.Calls≠100000)(f:0<=p/\p<k.F.Q.J.length)(g:(nth k.F.Q.J p.toNat).j=0):vP k p (newK k p):=by
 unfold newK;split
 ·exact⟨m8 h c,rfl,rfl,rfl,rfl,λ_=>rfl,λe=>by cases e⟩
 rename_i d;rw[not_or]at d;obtain⟨a,b⟩:=EZ d.2;refine⟨PG (m8 h c) f g a b,by simp[rm,bZ],rfl,rfl,rfl,λe=>(by cases e),λ_=>⟨_,a,b,λq=>?_,λq=>Af h a b q⟩⟩;simp only[rm,bZ,bz];by_cases e:(q:Int)=p
 ·rw[C9 ⟨ω,ω⟩,C9 e]
 rw[C8 λz=>e ω,C8 e]
def newsK(k:af)(p:Int):Nat->af × Nat
 | 0=>(k,0)
 | i+1=>if(newsK k p i).2=i then((newK (newsK k p i).1 (p+(i:Nat))).1,if(newK (newsK k p i).1 (p+(i:Nat))).2=true then i+1 else i) else newsK k p i
structure lN(k:af)(p:Int)(i:Nat)(r:af × Nat):Prop where
 ker:a7 r.1=true
 len:r.1.F.Q.J.length=k.F.Q.J.length
 calls:k.Calls<=r.1.Calls/\r.1.Calls<=k.Calls+i
 ref:r.1.a0=k.a0
 cells:r.1.F.W.S=k.F.W.S
 le:r.2<=i
 out:∀q:Nat,¬(p<=q/\(q:Int)<p+r.2)->nth r.1.F.Q.J q=nth k.F.Q.J q
 new:∀q:Nat,p<=q->(q:Int)<p+r.2->(nth r.1.F.Q.J q).j=2/\∀u:Nat,u<k.F.Q.J.length->(nth r.1.F.Q.J u).j≠0->(nth r.1.F.Q.J u).e=(nth r.1.F.Q.J q).e->u=q
theorem lN.of{k:af}{p:Int}{n:Nat}(h:a7 k=true)(G:k.Calls+n<=100000)(H:0<=p/\p+n<=k.F.Q.J.length)(C:∀q:Nat,p<=q->(q:Int)<p+n->(nth k.F.Q.J q).j=0):∀i,i<=n->lN k p i (newsK k p i)
 | 0,_=>⟨h,rfl,⟨Y4 _,by show k.Calls<=k.Calls+((0:Nat):Int);omega⟩,rfl,rfl,z3 _,λ_ _=>rfl,λq o d=>by simp only[newsK]at d;omega⟩
 | i+1,L=>by
  have a:=lN.of h G H C i ω;unfold newsK;split
  case isFalse=>exact⟨a.ker,a.len,⟨a.calls.1,by have:=a.calls.2;omega⟩,a.ref,a.cells,by have:=a.le;omega,a.out,a.new⟩
  rename_i t;generalize newsK k p i=r at a t |-;have J:=a.calls;have y:(nth r.1.F.Q.J (p+(i:Nat)).toNat).j=0:=by
   rw[a.out _ ω];exact C _ ω ω
  have s:=vP.of (p:=p+(i:Nat)) a.ker ω ⟨ω,by rw[a.len];omega⟩ y;generalize newK r.1 (p+(i:Nat))=w at s |-;refine⟨s.ker,s.len.trans a.len,⟨by simp only[s.calls];omega,by simp only[s.calls];omega⟩,s.ref.trans a.ref,s.cells.trans a.cells,by simp only;split<;>omega,λq j=>?_,λq o d=>?_⟩
  ·simp only at j |-
   cases e:w.2 with
   | false=>
    rw[s.no e];rw[e]at j;exact a.out q (by rw[t];simpa using j)
   | true=>
    obtain⟨f,-,-,g,-⟩:=s.yes e;rw[e,C9 rfl]at j;rw[g,C8 ω];exact a.out q ω
  simp only at d |-;cases e:w.2 with
  | false=>
   rw[s.no e];rw[e]at d;exact a.new q o (by rw[t];simpa using d)
  | true=>
   obtain⟨f,-,-,g,D⟩:=s.yes e;rw[e,C9 rfl]at d;have A:q<k.F.Q.J.length:=ω
   rw[g];by_cases E:(q:Int)=p+(i:Nat)
   ·rw[C9 E]
    refine⟨rfl,λu B c b=>?_⟩;rw[g]at c b;by_cases l:(u:Int)=p+(i:Nat)
    ·omega
    rw[C8 l]at c b;exact absurd b (D u (by rw[a.len];exact B) c)
   rw[C8 E];obtain⟨F,K⟩:=a.new q o ω;refine⟨F,λu B c b=>?_⟩;rw[g]at c b;by_cases l:(u:Int)=p+(i:Nat)
   ·rw[C9 l]at b
    exact absurd b.symm (D q (by rw[a.len];exact A) (by rw[F];decide))
   rw[C8 l]at c b;exact K u B c b
theorem lN.undo{k:af}{p:Int}{i:Nat}{r:af × Nat}(s:lN k p i r)(h:a7 k=true)(d:0<=p/\p+i<=k.F.Q.J.length)(e:∀q:Nat,p<=q->(q:Int)<p+i->(nth k.F.Q.J q).j=0):a7 (unmN r.1 p r.2)=true/\tEq k.F.Q (unmN r.1 p r.2).F.Q:=by
 have f:=s.le;have g:=mR s.ker d.1 r.2 (by rw[s.len];omega);refine⟨iY s.ker p r.2,((fS r.1 p r.2).1).trans s.len,λq=>?_⟩;rw[g];split
 ·rename_i a
  have c:=e q a.1 ω;obtain⟨-,-,j,-⟩:=aB.1 h;have b:=(bv.1 j).1 q ω;unfold ky at b;rw[C0]at b;exact⟨⟨λz=>absurd rfl z,λz=>absurd c z⟩,(b.2.2.1 c).symm⟩
 rename_i a;rw[s.out q a];exact⟨Iff.rfl,rfl⟩
theorem Pg.add{t h:aH}{O r:List aA}{sp b:List ax}{la d:List a8}{p:Int}{n:Nat}(i:Pg t O sp la)(E:h.J.length=t.J.length)(S:p+n<=t.J.length)(hp:0<=p)(j:∀q:Nat,¬(p<=q/\(q:Int)<p+n)->nth h.J q=nth t.J q)(a:∀q:Nat,p<=q->(q:Int)<p+n->(nth h.J q).j=2/\∀u:Nat,u<t.J.length->(nth h.J u).j≠0->(nth h.J u).e=(nth h.J q).e->u=q)(J:∀q,RH r q↔RH O q/\¬(p<=q/\q<p+n))(F:∀q,q∈pgs b d↔q∈pgs sp la\/(p<=q/\q<p+n))(w:∀s∈b,0<=s.R/\(s∈sp\/(p<=s.R/\s.R<p+n)))(K:∀l∈d,l∈la\/∀q∈lpgs l l.a3.toNat,p<=q/\q<p+n):Pg h r b d:=by
 have f:∀q:Nat,q<t.J.length->((nth h.J q).j≠0↔(q:Int)∈pgs b d):=λq c=>by
  rw[F];by_cases e:p<=q/\(q:Int)<p+n
  ·have:=(a q e.1 e.2).1
   exact⟨λ_=>.inr e,λ_=>by rw[this];decide⟩
  rw[j q e,i.own q c];exact⟨.inl,λz=>z.resolve_right e⟩
 refine⟨λl A q c u k L G=>?_,λq c=>?_,λq c=>f q (by rw[<-E];exact c),λq c=>?_,λs P u k M H=>?_⟩
 ·rw[E]at k
  have B:=gl (sp:=b) A c;have C:q<t.J.length:=by
   rcases(F _).1 B with g|g
   ·have:=i.bnd _ g;omega
   omega
  by_cases e:p<=q/\(q:Int)<p+n
  ·exact(a q e.1 e.2).2 u k L G
  have N:=(K l A).resolve_right λg=>e (g _ c)
  by_cases o:p<=u/\(u:Int)<p+n
  ·exact((a u o.1 o.2).2 q C ((f q C).2 B) G.symm).symm
  rw[j q e,j u o]at G;rw[j u o]at L;exact i.one l N q c u k L G
 ·rw[E]
  rcases(F _).1 c with g|g
  ·exact i.bnd _ g
  omega
 ·rw[E]at c
  rw[J];by_cases e:p<=q/\(q:Int)<p+n
  ·have:=(a q e.1 e.2).1
   exact⟨λ_ z=>z.2 e,λ_=>by rw[this];decide⟩
  rw[j q e,i.fre q c];exact⟨λz y=>z y.1,λz y=>z ⟨y,e⟩⟩
 obtain⟨T,U⟩:=w s P;obtain⟨V,W⟩:=w u k;have D:∀y∈b,0<=y.R->y.R.toNat<t.J.length/\((y.R.toNat:Nat):Int)=y.R/\(nth h.J y.R.toNat).j≠0:=λy X Y=>by
  have g:=dC (la:=d) X;have Q:y.R.toNat<t.J.length:=by
   rcases(F _).1 g with R|R
   ·have:=i.bnd _ R;omega
   omega
  exact⟨Q,ω,(f _ Q).2 (by rw[show((y.R.toNat:Nat):Int)=y.R by omega];exact g)⟩
 obtain⟨Z,sc,sd⟩:=D s P T;obtain⟨ub,uc,ud⟩:=D u k V;by_cases es:p<=s.R/\s.R<p+n
 ·have:=(a s.R.toNat ω ω).2 _ ub ud H.symm
  omega
 by_cases o:p<=u.R/\u.R<p+n
 ·have:=(a u.R.toNat ω ω).2 _ Z sd H
  omega
 rw[j _ ω,j _ ω]at H;exact i.mesh s (U.resolve_right es) u (W.resolve_right o) M H
theorem ET{sp a:List ax}{la b:List a8}(c:a.Perm sp)(d:b.Perm la):(pgs a b).Perm (pgs sp la):=by
 unfold pgs;exact(c.map _).append (d.flatMap_right _)
def GY(p:Int)(s:ax):Bool:=decide (p<=s.R)
def Ql(p:Int)(l:a8):Bool:=decide (p<=l.R)
def addS(h:ab)(k:af)(a:List aA)(p c:Int):ab:={h with G:=k,u:=a,K:=jx (GY p) h.K ⟨p,c,0⟩}
theorem jE{h:ab}{E:List Int}(a:aX h E){n:Int}(j:1<=n)(k:(au h.u n).2.2=true):0<=(au h.u n).2.1/\(au h.u n).2.1+n<=(tbl h).J.length/\(∀q:Nat,(au h.u n).2.1<=q->(q:Int)<(au h.u n).2.1+n->(nth (tbl h).J q).j=0)/\∀q:Int,(au h.u n).2.1<=q->q<(au h.u n).2.1+n->q∉pgs h.K h.M:=by
 obtain⟨r,l,f,t,o⟩:=nu a.rng j k;have g:∀q:Nat,(au h.u n).2.1<=q->(q:Int)<(au h.u n).2.1+n->(nth (tbl h).J q).j=0:=λq b c=>by
  have d:q<(tbl h).J.length:=by
   have:(au h.u n).2.1+n<=((tbl h).J.length:Nat):=f;omega
  by_cases e:(nth (tbl h).J q).j=0
  ·exact e
  exact absurd (o q b c) ((a.pg.fre q d).1 e)
 refine⟨l,f,g,λq b c i=>?_⟩;have u:=a.pg.bnd q i;obtain⟨m,rfl⟩:=X2 (show 0<=q by omega);have p:=(a.pg.own m ω).2 i;exact p (g m b c)
theorem aX.addS{h:ab}{E:List Int}{c:Int}(a:aX h E)(H:0<=c/\c<=3)(F:(au h.u 1).2.2=true){k:af}(s:vP h.G (au h.u 1).2.1 (k,true)):aX (addS h k (au h.u 1).1 (au h.u 1).2.1 c) E:=by
 obtain⟨U,G,r3,J,r5⟩:=nu a.rng (Y4 _) F;obtain⟨-,V,u3,W⟩:=jE a (Y4 _) F;generalize (au h.u 1).2.1=p at G r3 J r5 V u3 W s |-;generalize (au h.u 1).1=fr at U J |-;obtain⟨f,f1,f2,K,f4⟩:=s.yes rfl;have M:=(bv.1 (aB.1 a.ker).2.2.1).2.2;change (tbl h).J.length<=32 at M;have X:=a.L;have N:=kT (GY p) h.K ⟨p,c,0⟩;have O:=ET N (List.Perm.refl h.M);have w:(pgs (jx (GY p) h.K ⟨p,c,0⟩) h.M).Perm (p::pgs h.K h.M):=O;have B:p∉pgs h.K h.M:=W p (Y4 _) ω;have P:∀z∈h.K,z.R≠p:=λz g e=>B (by rw[<-e];exact dC g)
 have i:∀b d,kh (jx (GY p) h.K ⟨p,c,0⟩) b d↔kh h.K b d:=λb d=>by
  constructor
  ·rintro⟨s,C,A,Q⟩
   rcases cG.1 C with rfl|C
   ·exact absurd A (wl rfl b)
   exact⟨s,C,A,Q⟩
  rintro⟨s,C,A⟩
  exact⟨s,cG.2 (.inr C),A⟩
 exact {a with
   ker:=s.ker
   rng:=by show bC ((k.F.Q.J.length:Nat):Int) fr=true;rw[s.len];exact U
   lay:=by
     obtain⟨l1,l2,l3⟩:=dA a.lay;unfold bn;simp only[I0,C0];refine⟨⟨Z3.2 λz g=>?_,l2⟩,w.nodup_iff.2 (List.nodup_cons.2 ⟨B,l3⟩)⟩;rcases cG.1 g with rfl|g
     · have R:0<=lim c:=by
         have:=(gU H).1;obtain rfl|rfl|rfl|rfl:c=0\/c=1\/c=2\/c=3:=ω
         all_goals decide
       exact O0 ⟨G,by show p<=31;omega,H.1,H.2,Y4 _,R⟩
     exact X.sok z g
   srs:=lT (f:=λz:ax=>z.R) (y:=⟨p,c,0⟩) a.srs P
   pg:=by
     refine a.pg.add (p:=p) (n:=1) s.len (by exact V) G (λq Y=>?_) (λq q1 q2=>?_) (λq=>J q) (λq=>?_) (λz g=>?_) (λl hl=>.inl hl)
     · exact(K q).trans (C8 ω)
     · have Y:(q:Int)=p:=ω
       have Z:nth k.F.Q.J q = ⟨2,(f:Nat)⟩:=(K q).trans (C9 Y);refine⟨W0 bi.j Z,λu S t r=>?_⟩;have fu:nth k.F.Q.J u=if(u:Int)=p then⟨2,(f:Nat)⟩ else nth h.G.F.Q.J u:=K u
       change (nth k.F.Q.J u).j≠0 at t;change (nth k.F.Q.J u).e=(nth k.F.Q.J q).e at r;rw[fu]at t r;rw[Z]at r;by_cases eu:(u:Int)=p
       · omega
       rw[C8 eu]at t r;exact absurd r (f4 u S t)
     · show q∈pgs (jx (GY p) h.K ⟨p,c,0⟩) h.M↔_
       rw[w.mem_iff,List.mem_cons];constructor
       · rintro(e|e)
         · exact .inr ⟨ω,ω⟩
         exact .inl e
       rintro(e|e)
       · exact .inr e
       exact .inl ω
     rcases cG.1 g with rfl|g
     · exact⟨G,.inr ⟨Y4 _,by show p<p+((1:Nat):Int);omega⟩⟩
     exact⟨(aF (X.sok z g)).1,.inl g⟩
   oow:=λo F=>by
     rcases a.oow o F with⟨z,g,A,Q⟩|A
     · exact .inl ⟨z,cG.2 (.inr g),A,Q⟩
     exact .inr A
   hca:=λd hd j hj b D=>(i b j).2 (a.hca d hd j hj b D)
   hqu:=λy T=>(i _ _).2 (a.hqu y T)
   hfl:=λb D=>(i _ _).2 (a.hfl b D)
   hin:=λb D=>(i _ _).2 (a.hin b D)
   mem:=λb=>(a.mem b).trans (by
     show m9 h.K h.M b↔m9 (jx (GY p) h.K ⟨p,c,0⟩) h.M b;unfold m9;rw[i])
   job:=λhm=>by
     obtain⟨j1,⟨y,T,e1⟩,⟨u,S,e2⟩⟩:=a.job hm;exact⟨j1,⟨y,cG.2 (.inr T),e1⟩,⟨u,cG.2 (.inr S),e2⟩⟩}
def addL(h:ab)(k:af)(a:List aA)(p n size t:Int):ab:={h with G:=k,u:=a,M:=jx (Ql p) h.M ⟨p,n,size⟩,O:=jx (NJ (16*p)) h.O ⟨h.a,16*p,size,t⟩,a:=h.a+1}
theorem aX.addL{h:ab}{E:List Int}{size t:Int}{n:Nat}(a:aX h E)(g:9<=size/\size<=1000)(J:(n:Int)=(size+15) / 16)(i:(au h.u n).2.2=true){k:af}(s:lN h.G (au h.u n).2.1 n (k,n))(hn:h.a<1000000)(ht:0<=t/\t<=h.T.length - 1) :
  aX (addL h k (au h.u n).1 (au h.u n).2.1 n size t) E:=by
 have B:(1:Int)<=n:=ω
 obtain⟨V,K,r3,M,r5⟩:=nu a.rng B i;obtain⟨-,W,u3,H⟩:=jE a B i;generalize (au h.u n).2.1=p at K r3 M r5 W u3 H s |-;generalize (au h.u n).1=fr at V M |-;have N:=(bv.1 (aB.1 a.ker).2.2.1).2.2;change (tbl h).J.length<=32 at N;have O:=a.L;have P:=kT (Ql p) h.M ⟨p,n,size⟩;have C:=kT (NJ (16*p)) h.O ⟨h.a,16*p,size,t⟩;have Q:lpgs ⟨p,n,size⟩ ((n:Nat):Int).toNat=lpgs ⟨p,n,size⟩ n:=by rw[W2]
 have D:(pgs h.K (jx (Ql p) h.M ⟨p,n,size⟩)).Perm (lpgs ⟨p,n,size⟩ n++pgs h.K h.M):=by
  refine(ET (List.Perm.refl h.K) P).trans ?_;unfold pgs;rw[O6];simp only[Q];rw[<-O5,<-O5];exact List.perm_append_comm.append_right _
 have u:∀q,q∈lpgs ⟨p,n,size⟩ n↔p<=q/\q<p+n:=λq=>by
  rw[dx];constructor
  ·rintro⟨j,hj,rfl⟩;exact⟨by show p<=p+(j:Int);omega,by show p+(j:Int)<_;omega⟩
  rintro⟨X,Y⟩;exact⟨(q - p).toNat,ω,by show q=p+_;omega⟩
 have R:(lpgs ⟨p,n,size⟩ n).Nodup:=by
  unfold lpgs List.Nodup;rw[List.pairwise_map];exact List.nodup_range.imp λr e=>r (by simp only at e;omega)
 have r:∀z∈h.M,z.R≠p:=λz g e=>H p (Y4 _) ω (by rw[<-e];exact gl g (dx.2 ⟨0,by have:=aP (O.lok z g);omega,ω⟩))
 have S:¬m9 h.K h.M (16*p):=by
  rintro(⟨z,g,d,-⟩|⟨l,c,e⟩)
  ·exact H p (Y4 _) ω (by rw[show p=z.R by have a1:=d.1;have a2:=d.2.1;omega];exact dC g)
  exact r l c ω
 have F:(16*p)∉E++holders h:=λT=>S ((a.mem _).1 T)
 have U:∀o∈h.O,o.Addr≠16*p:=λo i e=>F (Z2.2 (.inr (by unfold holders;simp only[Z2];exact .inl (.inl (.inl (C4.2 ⟨o,i,e⟩))))))
 have Z:(E++holders (Ab.addL h k fr p n size t)).Perm ((16*p)::(E++holders h)):=by
  have h0:=C.map (·.Addr);refine List.perm_iff_count.2 λb=>?_
  have d:=h0.count_eq b;simp only[V5,List.count_cons]at d;simp only[holders,cC,Ab.addL,W5,List.count_cons];omega
 exact {a with
   ker:=s.ker
   rng:=by show bC ((k.F.Q.J.length:Nat):Int) fr=true;rw[s.len];exact V
   lay:=by
     obtain⟨l1,l2,l3⟩:=dA a.lay;unfold bn;simp only[I0,C0];refine⟨⟨l1,Z3.2 λz w=>?_⟩,D.nodup_iff.2 (List.nodup_append.2 ⟨R,l3,λq G b hb e=>?_⟩)⟩
     · rcases cG.1 w with rfl|w
       · exact O0 ⟨g.1,g.2,J,K,by show p<=32 - (n:Int);omega⟩
       exact O.lok z w
     subst e;have:=(u q).1 G;exact H q this.1 this.2 hb
   srl:=lT (f:=λz:a8=>z.R) (y:=⟨p,n,size⟩) a.srl r
   pg:=by
     refine a.pg.add (p:=p) (n:=n) s.len (by exact W) K (λq G=>s.out q G) (λq X Y=>s.new q X Y) (λq=>M q) (λq=>?_) (λz g=>⟨(aF (O.sok z g)).1,.inl g⟩) (λl c=>?_)
     · show q∈pgs h.K (jx (Ql p) h.M ⟨p,n,size⟩)↔_
       rw[D.mem_iff,Z2,u];exact Or.comm
     rcases cG.1 c with rfl|c
     · exact .inr λq G=>(u q).1 (by simpa using G)
     exact .inl c
   nums:=zQ a.nums hn
   osr:=lT (f:=λo:bu=>o.Addr) (y:=⟨h.a,16*p,size,t⟩) a.osr U
   onu:=λo i=>by
     rcases cG.1 i with rfl|i
     · have:=a.nums
       unfold cj at this;rw[C0]at this;exact⟨by show 1<=h.a;omega,by show h.a<=h.a+1 - 1;omega,ht⟩
     have:=a.onu o i;exact⟨this.1,by show o.Id<=h.a+1 - 1;omega,this.2.2⟩
   oid:=by
     show((jx (NJ (16*p)) h.O ⟨h.a,16*p,size,t⟩).map (·.Id)).Nodup;rw[(C.map _).nodup_iff,V5];refine List.nodup_cons.2 ⟨λT=>?_,a.oid⟩;obtain⟨o,i,e⟩:=C4.1 T;have:=(a.onu o i).2.1;simp only at e;omega
   oow:=λo A=>by
     rcases cG.1 A with rfl|A
     · exact .inr ⟨_,cG.2 (.inl rfl),rfl,rfl⟩
     rcases a.oow o A with d|⟨l,c,d⟩
     · exact .inl d
     exact .inr ⟨l,cG.2 (.inr c),d⟩
   nd:=Z.nodup_iff.2 (List.nodup_cons.2 ⟨F,a.nd⟩)
   mem:=λb=>by
     rw[Z.mem_iff,List.mem_cons,a.mem b];show _↔m9 h.K (jx (Ql p) h.M ⟨p,n,size⟩) b;unfold m9;constructor
     · rintro(rfl|d|⟨l,c,e⟩)
       · exact .inr ⟨_,cG.2 (.inl rfl),rfl⟩
       · exact .inl d
       exact .inr ⟨l,cG.2 (.inr c),e⟩
     rintro(d|⟨l,c,e⟩)
     · exact .inr (.inl d)
     rcases cG.1 c with rfl|c
     · exact .inl e
     exact .inr (.inr ⟨l,c,e⟩)}
structure JK(h h':ab):Prop where
 job:h'.Y=h.Y
 msh:h'.o=h.o
 sp:∀s∈h.K,gm h s.R=true->∃s'∈h'.K,s'.R=s.R/\∀u,meshable s u=true->meshable s' u=true
 ent:∀q:Nat,(nth (tbl h').J q).j≠0->((nth (tbl h).J q).j≠0/\(nth (tbl h').J q).e=(nth (tbl h).J q).e)\/∀u:Nat,(nth (tbl h').J u).j≠0->(nth (tbl h').J u).e=(nth (tbl h').J q).e->u=q
theorem JK.refl(h:ab):JK h h:=⟨rfl,rfl,λs a _=>⟨s,a,rfl,λ_ z=>z⟩,λ_ b=>.inl ⟨b,rfl⟩⟩
theorem JK.pg{h h':ab}(k:JK h h')(p:Int):gm h' p=gm h p:=by unfold gm;rw[k.job,k.msh]
theorem JK.trans{h h1 g:ab}(a:JK h h1)(b:JK h1 g):JK h g:=by
 refine⟨b.job.trans a.job,b.msh.trans a.msh,λs o i=>?_,λq j=>?_⟩
 ·obtain⟨p,r,k,t⟩:=a.sp s o i
  obtain⟨w,y,A,B⟩:=b.sp p r (by rw[a.pg,k];exact i);exact⟨w,y,A.trans k,λu c=>B u (t u c)⟩
 rcases b.ent q j with⟨d,l⟩|d
 ·rcases a.ent q d with⟨e,C⟩|e
  ·exact .inl ⟨e,l.trans C⟩
  refine .inr λu c n=>?_
  rcases b.ent u c with⟨f,D⟩|f
  ·exact e u f (by rw[<-D,<-l];exact n)
  exact(f q j n.symm).symm
 exact .inr d
theorem ot.keep{h h':ab}{p:Int}(f:0<=p)(d:(nth (tbl h').J p.toNat).j≠0)(g:ot (tbl h) p)(k:JK h h'):ot (tbl h') p:=λq e c=>by
 rcases k.ent p.toNat d with⟨n,i⟩|a
 ·rcases k.ent q e with⟨j,l⟩|b
  ·exact g q j (by rw[<-l,c,i])
  have:=b p.toNat d c.symm;omega
 have:=a q e c;omega
theorem aX.mapped{h:ab}{E:List Int}(a:aX h E){s:ax}(b:s∈h.K):0<=s.R/\s.R<(tbl h).J.length/\(nth (tbl h).J s.R.toNat).j≠0:=by
 have c:=(aF (a.L.sok s b)).1;have d:=a.pg.bnd _ (dC (la:=h.M) b);refine⟨c,d,(a.pg.own s.R.toNat ω).2 ?_⟩;rw[show((s.R.toNat:Nat):Int)=s.R by omega];exact dC b
theorem JI.keep{h h':ab}{E:List Int}(l:JI h)(p:aX h' E)(k:JK h h'):JI h':=by
 have d:h.o=true->∃a∈h'.K,∃b∈h'.K,a.R=h.Y.V.a2/\b.R=h.Y.V.w/\meshable a b=true:=λc=>by
  obtain⟨a,n,b,o,f,g,e⟩:=l.sp c;obtain⟨q,t,u,w⟩:=k.sp a n (by unfold gm;rw[c,f];simp);obtain⟨y,A,B,C⟩:=k.sp b o (by unfold gm;rw[c,g];simp);refine⟨q,t,y,A,u.trans f,B.trans g,?_⟩;have r:=w b e;rw[gW]at r |-;exact C q r
 refine⟨λc=>?_,λc=>?_,λc=>?_,λc=>?_⟩
 ·rw[k.msh]at c;rw[k.job];exact l.ph c
 ·rw[k.msh]at c;rw[k.job];exact d c
 ·rw[k.msh]at c
  obtain⟨a,n,b,o,f,g,e⟩:=d c;obtain⟨i,D,j⟩:=p.mapped n;rw[k.job];rw[f]at i j;exact(l.sk c).keep i j k
 rw[k.msh]at c;obtain⟨a,n,b,o,f,g,e⟩:=d c;obtain⟨i,D,j⟩:=p.mapped o;rw[k.job];rw[g]at i j;exact(l.sm c).keep i j k
theorem JK.less{h h':ab}(h1:h'.Y=h.Y)(c:h'.o=h.o)(d:h'.K=h.K)(b:∀q:Nat,(nth (tbl h').J q).j≠0->nth (tbl h').J q=nth (tbl h).J q):JK h h':=
 ⟨h1,c,λs e _=>⟨s,by rw[d];exact e,rfl,λ_ z=>z⟩,λq a=>.inl ⟨by rw[<-b q a];exact a,by rw[b q a]⟩⟩
theorem JK.eq{h h':ab}(h1:h'.Y=h.Y)(a:h'.o=h.o)(b:h'.K=h.K)(c:tbl h'=tbl h):JK h h':=.less h1 a b λq _=>by rw[c]
theorem JK.clrS{h:ab}{E:List Int}{a:Int}{i:Nat}(f:aX h E)(c:i<h.K.length)(d:eL (nth h.K i) a):JK h (clrS h i a):=by
 refine⟨rfl,rfl,λs g _=>?_,λq k=>.inl ⟨k,rfl⟩⟩;obtain⟨j,l,rfl⟩:=aL g;by_cases e:j=i
 ·subst e
  have b:=f.L.sok _ (am c);exact⟨_,iV _ c,rfl,λu n=>uG b (pX b ⟨d.1,d.2.1⟩) n⟩
 exact⟨_,jM _ l e,rfl,λ_ z=>z⟩
theorem JK.giveP{h:ab}{E:List Int}{i:Nat}(d:aX h E)(f:i<h.K.length)(c:gm h (nth h.K i).R=false):JK h (giveP h i):=by
 obtain⟨g,k,-⟩:=d.mapped (am f);refine⟨rfl,rfl,λs l a=>?_,λq b=>.inl ?_⟩
 ·obtain⟨j,n,rfl⟩:=aL l
  exact⟨_,cU.2 ⟨j,n,λe=>(by subst e;rw[c]at a;cases a),rfl⟩,rfl,λ_ z=>z⟩
 have o:=r7 d.ker (p:=(nth h.K i).R) ⟨g,k⟩ q;change (nth (dU h.G (nth h.K i).R).F.Q.J q).j≠0 at b;show(nth h.G.F.Q.J q).j≠0/\(nth (dU h.G (nth h.K i).R).F.Q.J q).e=(nth h.G.F.Q.J q).e;rw[o]at b |-;split at b
 ·exact absurd rfl b
 rename_i e;rw[C8 e];exact⟨b,rfl⟩
theorem JK.freeS{h:ab}{E:List Int}{a:Int}{i:Nat}(c:aX h (a::E))(b:i<h.K.length)(d:eL (nth h.K i) a):JK h (freeS h i a):=by
 have g:=c.give b d;have f:=JK.clrS c b d;unfold Ab.freeS;split
 ·rename_i e
  have j:nth (Ab.clrS h i a).K i=mQ (nth h.K i) (dz (nth h.K i) a):=by unfold Ab.clrS;simp only[bz,true_and];rw[C9 b]
  exact f.trans (JK.giveP (h:=Ab.clrS h i a) g (by unfold Ab.clrS;simp only[O1];exact b) (by rw[j];exact e.2))
 exact f
theorem JK.freeA{h:ab}{E:List Int}{a:Int}(b:aX h (a::E)):JK h (freeA h a):=by
 obtain⟨c,d,-⟩:=b.at (b.hin a (V1 ..));exact JK.freeS b c d
theorem JK.recyc{h:ab}{E:List Int}{a:Int}{t:Nat}(b:aX h (a::E)):JK h (recyc t h a):=by
 unfold Ab.recyc;split
 ·exact JK.eq rfl rfl rfl rfl
 exact JK.freeA b
theorem JK.recycs{t:Nat}{E:List Int} : ∀{az:List Int}{h:ab},aX h (az++E)->t<h.T.length->JK h (recycs t h az)
 | [],h,_,_=>JK.refl h
 | a::az,h,b,c=>(JK.recyc (t:=t) b).trans (JK.recycs (az:=az) (h:=Ab.recyc t h a) (b.recyc c) (by rw[(nE t h a).1];exact c))
theorem JK.freeAs{E:List Int} : ∀{az:List Int}{h:ab},aX h (az++E)->JK h (freeAs h az)
 | [],h,_=>JK.refl h
 | a::az,h,b=>(JK.freeA b).trans (JK.freeAs (az:=az) (h:=Ab.freeA h a) b.freeA)
theorem JK.flushN{t:Nat}{h:ab}(c:aX h [])(d:t<h.T.length):∀{k:Nat},k<=4->JK h (flushN t h k).1
 | 0,_=>JK.refl h
 | k+1,e=>by
  obtain⟨h1,f,-⟩:=jD c d (k:=k) ω;have a:t<(Ab.flushN t h k).1.T.length:=ω
  have b:k<(nth (Ab.flushN t h k).1.T t).b.length:=by rw[(f6 (h1.cach _ (am a))).1];omega
  exact JK.trans (h1:=Ab.spilt (Ab.flushN t h k).1 t k) ((JK.flushN c d (k:=k) ω).trans (JK.eq rfl rfl rfl rfl)) (JK.freeAs (h1.spilt a b))
theorem tJ{h:ab}{E:List Int}(a:aX h E){k:Nat}(b:k<h.M.length):0<=(nth h.M k).R/\(nth h.M k).R+((nth h.M k).a3.toNat:Nat)<=(tbl h).J.length:=by
 have c:=aP (a.L.lok _ (am b));have d:=a.pg.bnd _ (gl (sp:=h.K) (am b) (dx.2 ⟨(nth h.M k).a3.toNat - 1,ω,rfl⟩));exact⟨ω,ω⟩
theorem JK.freeL{h:ab}{E:List Int}{i k:Nat}(b:aX h E)(c:k<h.M.length):JK h (freeL h i k):=by
 obtain⟨d,f⟩:=tJ b c;refine JK.less rfl rfl rfl λq a=>?_
 have g:=mR b.ker d (nth h.M k).a3.toNat f q;change (nth (unmN h.G (nth h.M k).R (nth h.M k).a3.toNat).F.Q.J q).j≠0 at a;show nth (unmN h.G (nth h.M k).R (nth h.M k).a3.toNat).F.Q.J q=nth h.G.F.Q.J q;rw[g]at a |-;split at a
 ·exact absurd rfl a
 rename_i e;rw[C8 e]
theorem JK.freeOb{h:ab}{t i:Nat}(a:aX h [])(c:i<h.O.length)(d:t<h.T.length):JK h (freeOb h t i).1:=by
 unfold Ab.freeOb;split
 ·rename_i b
  obtain⟨l,e,h1,-⟩:=(dR a (am c)).1 b;exact JK.freeL a (vW e h1).1
 rename_i b;split
 ·exact JK.refl h
 have h1:=a.inQuar c b;exact JK.trans (h1:=Ab.inQuar h i) (JK.eq rfl rfl rfl rfl) (JK.recycs (E:=[]) (by rw[List.append_nil];exact h1) d)
theorem JK.take{h:ab}{i:Nat}{k sd:Int}(b:gm h (nth h.K i).R=false):JK h {h with c0:=sd,K:=h.K.set i (ry (nth h.K i) k)}:=by
 refine⟨rfl,rfl,λs c a=>?_,λq d=>.inl ⟨d,rfl⟩⟩;obtain⟨j,f,rfl⟩:=aL c;exact⟨_,jM _ f λe=>(by subst e;rw[b]at a;cases a),rfl,λ_ z=>z⟩
theorem rZ{t:aH}{q:Nat}(h:(nth t.J q).j≠0):q<t.J.length:=by
 by_cases e:q<t.J.length
 ·exact e
 exfalso;apply h;unfold nth;rw[U2,O2 ω]
 rfl
theorem JK.addS{h:ab}{k:af}{l:List aA}{p c:Int}(s:vP h.G p (k,true)):JK h (addS h k l p c):=by
 obtain⟨f,t,w,d,n⟩:=s.yes rfl;have b:k.F.Q.J.length=h.G.F.Q.J.length:=s.len;refine⟨rfl,rfl,λz o _=>⟨z,cG.2 (.inr o),rfl,λ_ y=>y⟩,λq g=>?_⟩;change (nth k.F.Q.J q).j≠0 at g;show((nth h.G.F.Q.J q).j≠0/\(nth k.F.Q.J q).e=(nth h.G.F.Q.J q).e)\/∀u:Nat,(nth k.F.Q.J u).j≠0->(nth k.F.Q.J u).e=(nth k.F.Q.J q).e->u=q
 by_cases e:(q:Int)=p
 ·refine .inr λu i a=>?_
  have j:=rZ i;have f3u:=d u;have f3q:=d q;simp only at f3u f3q;rw[C9 e]at f3q;rw[f3q]at a;by_cases r:(u:Int)=p
  ·omega
  rw[C8 r]at f3u;rw[f3u]at i a;exact absurd a (n u (by rw[<-b];exact j) i)
 have f3q:=d q;simp only at f3q;rw[C8 e]at f3q;rw[f3q]at g |-;exact .inl ⟨g,rfl⟩
theorem JK.addL{h:ab}{k:af}{g:List aA}{p size t:Int}{n:Nat}(s:lN h.G p n (k,n)):JK h (addL h k g p n size t):=by
 have a:k.F.Q.J.length=h.G.F.Q.J.length:=s.len;refine⟨rfl,rfl,λz i _=>⟨z,i,rfl,λ_ y=>y⟩,λq b=>?_⟩;change (nth k.F.Q.J q).j≠0 at b;show((nth h.G.F.Q.J q).j≠0/\(nth k.F.Q.J q).e=(nth h.G.F.Q.J q).e)\/∀u:Nat,(nth k.F.Q.J u).j≠0->(nth k.F.Q.J u).e=(nth k.F.Q.J q).e->u=q
 by_cases e:p<=q/\(q:Int)<p+n
 ·exact .inr λu d c=>(s.new q e.1 e.2).2 u (by rw[<-a];exact rZ d) d c
 have f:=s.out q e;simp only at f;rw[f]at b |-;exact .inl ⟨b,rfl⟩
theorem u7(h:ab):∀{n:Nat},n<=h.K.length->∀s∈je h n,(aT h s.R).length=1
 | 0,_,s,a=>by cases a
 | n+1,b,s,a=>by
  unfold je at a;split at a
  ·rename_i e
   rcases Z2.1 a with a|a
   ·exact u7 h ω s a
   unfold qz at e;simp only[I0,C0]at e;rw[I1.1 a];exact e.2
  exact u7 h ω s a
theorem aX.sole{h:ab}{E:List Int}(e:aX h E){s:ax}(f:s∈h.K)(h1:(aT h s.R).length=1):ot (tbl h) s.R:=λq a g=>by
 obtain⟨k,l,b⟩:=e.mapped f;have i:s.R=((s.R.toNat:Nat):Int):=ω
 rw[i,fD (by show s.R.toNat<(tbl h).J.length;omega) b]at h1;obtain⟨z,j⟩:=List.length_eq_one_iff.1 h1;have c:(s.R.toNat:Int)∈pagesOn (tbl h) (nth (tbl h).J s.R.toNat).e:=ew.2 ⟨ω,b,rfl⟩;have d:(q:Int)∈pagesOn (tbl h) (nth (tbl h).J s.R.toNat).e:=ew.2 ⟨rZ a,a,g⟩;rw[j]at c d;simp only[I1]at c d;omega
theorem wy{h:ab}(l:aX h [])(n:h.o=false):aX (started h).1 []/\JI (started h).1:=by
 have G:=l.nums;unfold cj at G;rw[C0]at G;have M:=(jR (bh h).length (show 0<=h.c0/\h.c0<=1073741823 by omega) ((bh h).length - 1)).2;have o:=lE (bh h) (show 0<=h.c0/\h.c0<=1073741823 by omega);have c:cj {h with c0:=(shuf (bh h).length h.c0).2} = true:=by
  unfold cj;rw[C0];unfold shuf;simp only;omega
 cases p:iZ (bh h) h.c0 with
 | nil=>
  have f:Ab.started h=({h with c0:=(shuf (bh h).length h.c0).2},false):=by unfold Ab.started;rw[p]
  rw[f];exact⟨{l with nums:=c},⟨λe=>by simp[n]at e,λe=>by simp[n]at e,λe=>by simp[n]at e,λe=>by simp[n]at e⟩⟩
 | cons q R=>
  obtain⟨S,T,g⟩:=o q (by rw[p];exact V1 ..);have f:Ab.started h=({h with c0:=(shuf (bh h).length h.c0).2,o:=true,Y:=so (cT (nth (bh h) q.A.toNat) (nth (bh h) q.B.toNat))},true):=by unfold Ab.started;rw[p]
  rw[f];have d:∀s∈bh h,s∈h.K/\ot (tbl h) s.R:=λs N=>by
   have H:=List.mem_of_mem_take N;have J:=mI h (z3 _) s H;exact⟨J,l.sole J (u7 h (z3 _) s H)⟩
  have j:=d _ (am (xs:=bh h) (i:=q.A.toNat) ω);have k:=d _ (am (xs:=bh h) (i:=q.B.toNat) ω);generalize nth (bh h) q.A.toNat=a at g j |-;generalize nth (bh h) q.B.toNat=b at g k |-;obtain⟨O,U,V⟩:=qa g;have r:(cT a b).a2=a.R/\(cT a b).w=b.R\/(cT a b).a2=b.R/\(cT a b).w=a.R:=by
   unfold cT;split
   ·exact .inr ⟨rfl,rfl⟩
   exact .inl ⟨rfl,rfl⟩
  have t:ju (so (cT a b))=true:=dh.2 ⟨O,by show(0:Int)<=0;omega,by show(0:Int)<=5;omega,by show(0:Int)<=0;omega,by show(0:Int)<=(((cT a b).S.length:Nat):Int);omega⟩;have u:∃x∈h.K,∃y∈h.K,x.R=(cT a b).a2/\y.R=(cT a b).w/\meshable x y=true/\ot (tbl h) x.R/\ot (tbl h) y.R:=by
   rcases r with⟨w,C⟩|⟨w,C⟩
   ·exact⟨a,j.1,b,k.1,w.symm,C.symm,g,j.2,k.2⟩
   exact⟨b,k.1,a,j.1,w.symm,C.symm,by rw[gW];exact g,k.2,j.2⟩
  obtain⟨x,K,y,L,D,E,F,P,Q⟩:=u;exact⟨{l with nums:=c,job:=λ_=>⟨t,⟨x,K,D⟩,⟨y,L,E⟩⟩,noj:=λe=>by cases e},⟨λ_=>⟨by show(0:Int)<=0;omega,by show(0:Int)<=3;omega⟩,λ_=>⟨x,K,y,L,D,E,F⟩,λ_=>by show ot (tbl h) (cT a b).a2;rw[<-D];exact P,λ_=>by show ot (tbl h) (cT a b).w;rw[<-E];exact Q⟩⟩
def gf(m:aK)(f:Nat):aK:=⟨m.U.set f ((nth m.U f).drop 1),m.a1.set (nth (nth m.U f) 0).To.toNat (nth m.a1 (nth (nth m.U f) 0).To.toNat++[(nth (nth m.U f) 0).Addr])⟩
def lh(m:aK)(t:Nat):aK:=⟨m.U,m.a1.set t []⟩
def iu(m:aK)(f:Nat)(p:dw):aK:=⟨m.U.set f (nth m.U f++[p]),m.a1⟩
theorem dP{m:aK} : bN m=true↔(1<=m.U.length/\m.U.length<=4/\m.a1.length=m.U.length)/\(∀i,i<m.U.length->(∀p∈nth m.U i,0<=p.To/\p.To<=(m.U.length:Int) - 1/\0<=p.Addr)/\∀a∈nth m.a1 i,0<=a)/\bx m m.U.length<=30:=by
 unfold bN;simp only[I0,C0,cx,gN,Z3,nt,Po];exact and_assoc
theorem pp(m:aK)(f t:Nat)(x:List dw)(y:List Int)(g:f<m.U.length)(h:t<m.a1.length):∀n:Nat,bx ⟨m.U.set f x,m.a1.set t y⟩ n=bx m n+(if f<n then(x.length:Int) - ((nth m.U f).length:Nat) else 0)+(if t<n then(y.length:Int) - ((nth m.a1 t).length:Nat) else 0)
 | 0=>by simp[bx]
 | n+1=>by
  have i:=pp m f t x y g h n;have j:(nth (m.U.set f x) n).length=if f=n then x.length else(nth m.U n).length:=by
   rw[bz];by_cases e:f=n
   ·rw[C9 ⟨e,ω⟩,C9 e]
   rw[C8 λz=>e z.1,C8 e]
  have k:(nth (m.a1.set t y) n).length=if t=n then y.length else(nth m.a1 n).length:=by
   rw[bz];by_cases e:t=n
   ·rw[C9 ⟨e,ω⟩,C9 e]
   rw[C8 λz=>e z.1,C8 e]
  simp only[bx,i,j,k];by_cases d:f=n
  ·subst d
   by_cases b:t=f
   ·subst b
    simp only[if_true,Nat.lt_irrefl,if_false,Nat.lt_succ_self];omega
   simp only[if_true,Nat.lt_irrefl,if_false,Nat.lt_succ_self,C8 b];by_cases a:t<f
   ·rw[C9 a,C9 (show t<f+1 by omega)];omega
   rw[C8 a,C8 (show ¬t<f+1 by omega)];omega
  by_cases b:t=n
  ·subst b
   simp only[if_true,Nat.lt_irrefl,if_false,Nat.lt_succ_self,C8 d];by_cases a:f<t
   ·rw[C9 a,C9 (show f<t+1 by omega)];omega
   rw[C8 a,C8 (show ¬f<t+1 by omega)];omega
  simp only[C8 d,C8 b];by_cases a:f<n
  ·rw[C9 a,C9 (show f<n+1 by omega)]
   by_cases c:t<n
   ·rw[C9 c,C9 (show t<n+1 by omega)];omega
   rw[C8 c,C8 (show ¬t<n+1 by omega)];omega
  rw[C8 a,C8 (show ¬f<n+1 by omega)];by_cases c:t<n
  ·rw[C9 c,C9 (show t<n+1 by omega)];omega
  rw[C8 c,C8 (show ¬t<n+1 by omega)];omega
theorem NQ{α:Type}[Inhabited α]{xs:List α}{i:Nat}(h:i<xs.length):xs.set i (nth xs i)=xs:=by
 rw[<-I2.1 (ao h) |>.2];exact List.set_getElem_self h
theorem Ft{m:aK}(h:bN m=true){f:Nat}(d:f<m.U.length)(n:0<(nth m.U f).length):bN (gf m f)=true:=by
 obtain⟨⟨o,q,r⟩,g,y⟩:=dP.1 h;obtain⟨t,A⟩:=g f d;have c:=t _ (am n);have u:(nth (nth m.U f) 0).To.toNat<m.a1.length:=ω
 refine dP.2 ⟨⟨?_,?_,?_⟩,λi j=>?_,?_⟩
 ·simp only[gf,O1];exact o
 ·simp only[gf,O1];exact q
 ·simp only[gf,O1];exact r
 ·simp only[gf,O1]at j |-
  obtain⟨k,l⟩:=g i j;simp only[bz];refine⟨λp c=>?_,λa b=>?_⟩
  ·split at c
   ·rename_i e;rw[<-e.1]at k
    refine(g f d).1 p (List.mem_of_mem_drop c)
   exact k p c
  split at b
  ·rename_i e
   rcases Z2.1 b with b|b
   ·rw[e.1]at b;exact l a b
   rw[I1.1 b];exact c.2.2
  exact l a b
 have w:=pp m f (nth (nth m.U f) 0).To.toNat ((nth m.U f).drop 1) (nth m.a1 (nth (nth m.U f) 0).To.toNat++[(nth (nth m.U f) 0).Addr]) d u m.U.length;simp only[gf,O1];rw[w,C9 d,C9 ω,O3,I3,List.length_singleton];omega
theorem Pb{m:aK}(h:bN m=true){t:Nat}(d:t<m.a1.length):bN (lh m t)=true:=by
 obtain⟨⟨e,f,g⟩,j,o⟩:=dP.1 h;refine dP.2 ⟨⟨e,f,?_⟩,λi k=>?_,?_⟩
 ·simp only[lh,O1];exact g
 ·obtain⟨l,n⟩:=j i k
  simp only[lh,bz];refine⟨l,λa b=>?_⟩;split at b
  ·cases b
  exact n a b
 have c:=pp m t t (nth m.U t) [] ω d m.U.length;rw[NQ ω]at c;show bx ⟨m.U,m.a1.set t []⟩ m.U.length<=30;rw[c,C9 ω,C9 ω,List.length_nil];omega
theorem kP{m:aK}(h:bN m=true)(b:Int):(aN m).count b=(m.U.flatMap λl=>l.map (·.Addr)).count b+(m.a1.flatMap λx=>x).count b:=by
 unfold aN;rw[C9 h,W5,lw]
theorem aX.mailed{h:ab}{E c:List Int}{m:aK}(d:aX h E)(i:bN m=true)(j:m.U.length=h.y.U.length)(k:∀b,c.count b+(aN m).count b=E.count b+(aN h.y).count b)(f:∀a,a∈c\/a∈aN m->kh h.K a (-1)):aX {h with y:=m} c:=by
 have g:(E++holders h).Perm (c++holders {h with y:=m}):=by
  refine List.perm_iff_count.2 λb=>?_
  have l:=k b;simp only[holders,cC,W5];omega
 exact {d with
   mail:=i
   nc:=d.nc.trans j.symm
   hfl:=λa e=>f a (.inr e)
   hin:=λa e=>f a (.inl e)
   nd:=g.nodup_iff.1 d.nd
   mem:=λb=>by rw[<-g.mem_iff];exact d.mem b}
theorem Ht{h:ab}{E d:List Int}{m:aK}(f:aX h E)(g:∀b,d.count b+(aN m).count b=E.count b+(aN h.y).count b):∀a,a∈d\/a∈aN m->kh h.K a (-1):=λa c=>by
 have i:=g a;have j:0<d.count a+(aN m).count a:=by
  rcases c with c|c
  ·have:=List.count_pos_iff.2 c;omega
  have:=List.count_pos_iff.2 c;omega
 by_cases e:0<E.count a
 ·exact f.hin a (List.count_pos_iff.1 e)
 exact f.hfl a (List.count_pos_iff.1 ω)
theorem aX.deliv{h:ab}{E:List Int}{f:Nat}(a:aX h E)(e:f<h.y.U.length)(d:0<(nth h.y.U f).length):aX {h with y:=gf h.y f} E:=by
 have c:=Ft a.mail e d;obtain⟨⟨q,r,t⟩,j,u⟩:=dP.1 a.mail;have k:=(j f e).1 _ (am d);have g:∀b,E.count b+(aN (gf h.y f)).count b=E.count b+(aN h.y).count b:=λb=>by
  rw[kP c,kP a.mail];have i:=iT (λl:List dw=>l.map (·.Addr)) b h.y.U f ((nth h.y.U f).drop 1) e;have n:=iT (λx:List Int=>x) b h.y.a1 (nth (nth h.y.U f) 0).To.toNat (nth h.y.a1 (nth (nth h.y.U f) 0).To.toNat++[(nth (nth h.y.U f) 0).Addr]) ω;have o:(nth h.y.U f).map (·.Addr)=(nth (nth h.y.U f) 0).Addr::((nth h.y.U f).drop 1).map (·.Addr):=by
   generalize nth h.y.U f=l at d
   match l,d with
   | p::l,_=>rfl
  simp only[gf];rw[o]at i;simp only[List.count_cons]at i;simp only[W5,List.count_singleton]at n;omega
 exact a.mailed c (by simp[gf]) g (Ht a g)
theorem aX.coll{h:ab}{E:List Int}{t:Nat}(c:aX h E)(d:t<h.y.a1.length):aX {h with y:=lh h.y t} (nth h.y.a1 t++E):=by
 have a:=Pb c.mail d;have e:∀b,(nth h.y.a1 t++E).count b+(aN (lh h.y t)).count b=E.count b+(aN h.y).count b:=λb=>by
  rw[kP a,kP c.mail];have f:=iT (λx:List Int=>x) b h.y.a1 t [] d;simp only[List.count_nil]at f;simp only[lh,W5];omega
 exact c.mailed a rfl e (Ht c e)
theorem aX.send{h:ab}{E:List Int}{f:Nat}{p:dw}(c:aX h (p.Addr::E))(e:f<h.y.U.length)(a:bN (iu h.y f p)=true):aX {h with y:=iu h.y f p} E:=by
 have d:∀b,E.count b+(aN (iu h.y f p)).count b=(p.Addr::E).count b+(aN h.y).count b:=λb=>by
  rw[kP a,kP c.mail];have g:=iT (λl:List dw=>l.map (·.Addr)) b h.y.U f (nth h.y.U f++[p]) e;simp only[T5,V5,List.map_nil,W5,List.count_singleton]at g;simp only[iu,List.count_cons];omega
 exact c.mailed a (by simp[iu]) d (Ht c d)
def sC(now:Int):List aQ->Nat
 | []=>0
 | x::xs=>if x.b7<now - 100 then sC now xs+1 else 0
def aged(h:ab)(n:Int):ab:={h with b3:=h.b3+n,a9:=⟨h.a9.c1,h.a9.a6.drop (sC (h.b3+n) h.a9.a6)⟩}
def nA(h:ab)(n:Int):List Int:=(h.a9.a6.take (sC (h.b3+n) h.a9.a6)).map (·.Addr)
def tick(h:ab)(n:Int):ab:=freeAs (aged h n) (nA h n)
theorem oN(x:aQ)(xs:List aQ):∀n,quarCells (x::xs) (n+1)=csz x.d+quarCells xs n
 | 0=>by simp only[quarCells];show 0+csz x.d=csz x.d+0;omega
 | n+1=>by
  rw[iS,oN x xs n,iS];show csz x.d+quarCells xs n+csz (nth xs n).d=_;omega
theorem Q6(k:Int):0<=csz k:=by
 unfold csz;split
 ·exact Int.le_of_lt (Int.pow_pos (by decide))
 decide
theorem HX:∀(l:List aQ)(k:Nat),qc (l.drop k)<=qc l
 | [],k=>by simp
 | x::xs,0=>Y4 _
 | x::xs,k+1=>by
  have a:=HX xs k;have b:=Q6 x.d;have c:qc (x::xs)=csz x.d+qc xs:=oN x xs xs.length;show qc (xs.drop k)<=qc (x::xs);omega
theorem aX.aged{h:ab}{E:List Int}{n:Int}(a:aX h E)(t:0<=n)(u:h.b3+n<=1000000):aX (aged h n) (nA h n++E):=by
 obtain⟨i,j,k,o,p,q⟩:=kg.1 a.quar;have c:=a.nums;unfold cj at c;rw[C0]at c;have e:=List.drop_sublist (sC (h.b3+n) h.a9.a6) h.a9.a6;have g:(E++holders h).Perm ((nA h n++E)++holders (Ab.aged h n)):=by
  refine List.perm_iff_count.2 λb=>?_
  have r:=W0 (λl:List aQ=>(l.map (·.Addr)).count b) (List.take_append_drop (sC (h.b3+n) h.a9.a6) h.a9.a6);simp only[T5,W5]at r;simp only[holders,cC,Ab.aged,nA,W5];omega
 exact {a with
   nums:=by unfold cj;rw[C0];simp only[Ab.aged];omega
   quar:=kg.2 ⟨λy d=>i y (e.subset d),j.sublist e,k.sublist (e.map _),o,p,X4 (HX _ _) q⟩
   snc:=λy d=>by
     have:=a.snc y (e.subset d);show y.b7<=h.b3+n;omega
   hqu:=λy d=>a.hqu y (e.subset d)
   hin:=λb f=>by
     rcases Z2.1 f with f|f
     · obtain⟨y,d,rfl⟩:=C4.1 f
       exact(a.hqu y (List.mem_of_mem_take d)).any
     exact a.hin b f
   nd:=g.nodup_iff.1 a.nd
   mem:=λb=>by rw[<-g.mem_iff];exact a.mem b}
theorem aX.tick{h:ab}{n:Int}(a:aX h [])(b:0<=n)(c:h.b3+n<=1000000):aX (tick h n) []/\JK h (tick h n):=by
 have h1:=a.aged b c;exact⟨aX.freeAs h1,JK.trans (h1:=Ab.aged h n) (JK.eq rfl rfl rfl rfl) (JK.freeAs h1)⟩
def collect(h:ab)(t:Nat):ab:=recycs t {h with y:=lh h.y t} (nth h.y.a1 t)
theorem aX.collect{h:ab}{t:Nat}(a:aX h [])(b:t<h.T.length):aX (collect h t) []/\JK h (collect h t):=by
 have h1:=a.coll (t:=t) (by rw[(dP.1 a.mail).1.2.2,<-a.nc];exact b);exact⟨aX.recycs h1 b,JK.trans (h1:={h with y:=lh h.y t}) (JK.eq rfl rfl rfl rfl) (JK.recycs h1 b)⟩
def LK(h:ab)(t i:Nat):ab:={h with G:=f8 h.G (nth h.O i).Addr (csz (aJ (nth h.O i).q)).toNat,O:=dele h.O i,y:=iu h.y t ⟨(nth h.O i).a4,(nth h.O i).Addr⟩}
def freeT(h:ab)(t i:Nat):ab × Int:=
 if aJ (nth h.O i).q<0 then(freeL h i (yQ h (nth h.O i).Addr),0)
 else if(ac (tbl h) ((nth h.O i).Addr / 16)).j=1 then(h,5)
 else if(nth h.O i).a4=t then(FH h t i,0)
 else if bN (iu h.y t ⟨(nth h.O i).a4,(nth h.O i).Addr⟩)=true then(LK h t i,0) else(h,5)
theorem AQ{h:ab}{t i:Nat}(e:(nth h.O i).a4=t):freeT h t i=freeOb h t i:=by
 unfold freeT freeOb;rw[C9 e]
theorem aX.freeT{h:ab}{t i:Nat}(a:aX h [])(b:i<h.O.length)(c:t<h.T.length):aX (freeT h t i).1 []/\JK h (freeT h t i).1:=by
 by_cases e:(nth h.O i).a4=t
 ·rw[AQ e];exact⟨a.freeOb b c,JK.freeOb a b c⟩
 have d:=a.freeOb b c;have f:=JK.freeOb a b c;unfold Ab.freeOb at d f;unfold Ab.freeT;split
 ·rename_i g
  rw[C9 g]at d f;exact⟨d,f⟩
 rename_i g;rw[C8 g]at d f;split
 ·exact⟨a,JK.refl h⟩
 split
 ·rename_i j
  obtain⟨⟨s,l,n,o⟩,u⟩:=(dR a (am b)).2 g;have q:=a.dropO b (kh.any ⟨s,l,n,.inr o⟩);have r:=q.cells (k:=f8 h.G (nth h.O i).Addr (csz (aJ (nth h.O i).q)).toNat) (FE a.ker _ _) rfl;exact⟨aX.send (p:=⟨(nth h.O i).a4,(nth h.O i).Addr⟩) r (by show t<h.y.U.length;rw[<-a.nc];exact c) j,JK.eq rfl rfl rfl rfl⟩
 exact⟨a,JK.refl h⟩
def dI(k:af)(a v:Int):af:=setCell k (cR k a) (a % 16) v
theorem ww{k:af}(h:a7 k=true){a v:Int}(b:(ac k.F.Q (a / 16)).j≠0)(c:0<=v/\v<=999):a7 (dI k a v)=true:=by
 obtain⟨d,e,-⟩:=ge h b;exact qU h (f:=cR k a) d e c
theorem aX.store{h:ab}{a v:Int}(b:aX h [])(c:(ac h.G.F.Q (a / 16)).j≠0)(d:0<=v/\v<=999):aX {h with G:=dI h.G a v} []/\JK h {h with G:=dI h.G a v}:=
 ⟨b.cells (ww b.ker c d) rfl,JK.eq rfl rfl rfl rfl⟩
theorem Pa{xs:List Int}{x:Int}(h:cY xs.length (λj=>decide (nth xs j≠x))=true):x∉xs:=λb=>by
 obtain⟨j,a⟩:=List.mem_iff_getElem?.1 b;have:=dS h (I2.1 a).1;rw[bm a]at this;simp at this
theorem Fh(xs:List Int)(x:Int)(g:xs.length<=4611686018427387904):ar Tryz.prog 367 false [.val none (aD .X xs),.val none [I x]] .one [B (decide (x∈xs))]:=by
 refine fO 18 [] Tryz.func367 rfl ?_
 repeat'(first|refine gO ?_|fail)
 (conv=>whnf)
 refine CE (ι:=Nat) (λi=>[(0,.H .one (aD .X xs)),(1,.H .one [I (x)]),(5,.H .one [I ((i:Nat):Int)])]) (λi=>i<=xs.length/\cY i (λj=>decide (nth xs j≠x))=true) (λi=>xs.length - i) 0 ?_ ⟨U0 _,rfl⟩ λi a=>?_
 ·exact wB
 obtain⟨a,b⟩:=a;by_cases c:i<xs.length
 ·have d:=ao c
  by_cases e:nth xs i=x
  ·repeat'(first|refine gA ?_|(conv=>whnf);with_reducible refine CC (aa d) ?_)
   exact W0 (λz=>[B z]) ((by symm;exact O0 (by rw[<-e];exact am c)))
  repeat'(first|refine gA ?_|(conv=>whnf);with_reducible refine CC (aa d) ?_)
  ((conv=>whnf);refine CD (i+1) ⟨ω,bS b (O0 e)⟩ ω ?_;(exact wB))
 repeat'(first|refine gD ?_|fail)
 obtain rfl:i=xs.length:=ω
 exact W0 (λz=>[B z]) ((by symm;exact T0 (Pa b)))
theorem bV.more{M f:ah}{w g:World}(h:bV M w g)(e:∀b o,M b o->f b o):bV f w g:=
 ⟨h.os,h.tape,h.output,h.size,λb a c=>h.blk b a λo d=>c o (e b o d),λb o a c=>h.cel b o a λd=>c (e b o d),λb o a c=>h.fro b o a λd=>c (e b o d)⟩
theorem aW.wk{P:Program}{f:Nat}{sh:Bool}{c u:List C}{A B:List MA}{k:Kd}{rcs:List C}(h:aW P f sh A (.ptr c::B) k rcs)(y:Mf c u):aW P f sh A (.ptr u::B) k rcs:=by
 refine⟨h.has,λw S V i E F l G=>(h.run w S V i E F l G).mono λe w1 H=>?_⟩;obtain⟨v,J,K,X,L,M,N,n,p,a,q,r,b,O,Q,D⟩:=H;refine⟨v,J,K,X,L,M,N,n,p,a,q,r,b,O,Q,?_⟩;cases i with
 | nil=>exact D.elim
 | cons v0 i=>
  obtain⟨⟨R,Y,T,U,W,⟨g,o,Z,e2⟩,d⟩,t⟩:=D;refine⟨⟨R,Y,T,U,W,⟨g,o,Z,λj hj=>e2 j (by rw[(si y).1];exact hj)⟩,Bb y d⟩,t⟩
theorem aW.frame{P:Program}{f:Nat}{sh:Bool}{c c' r:List C}{A B:List MA}{k:Kd}{rcs:List C}(h:aW P f sh (.ptr c::A) (.ptr c'::B) k rcs)(hl:c'.length=c.length):aW P f sh (.ptr (c++r)::A) (.ptr (c'++r)::B) k rcs:=by
 refine⟨h.has,λw S V vs hS hV hVd hA=>?_⟩;cases vs with
 | nil=>exact hA.elim
 | cons v0 vs=>
 obtain⟨⟨X1,Y,hX1,hY,O,⟨g,q,rfl,u⟩,ff,hf1,J,hf3⟩,hA'⟩:=hA;have hlen:(c++r).length=c.length+r.length:=I3
 let V0:ah:=piece g q ff 0 c.length
 let W:Nat->ah:=Lr V0 (λi=>V (i+1))
 have hcX:∀o,q<=o->o<q+(c++r).length->X1 g o:=λo l a=>by
  have:=(u (o - q) ω).1
  rwa [show q+(o - q)=o by omega]at this
 have hV0:∀b o,V0 b o->V 0 b o:=λb o p=>by
  rcases p with⟨rfl,l,a⟩|⟨j,-,a,Q⟩
  ·exact hX1 _ _ (hcX o ω ω)
  exact hY _ _ (J j ω b o Q)
 have K:∀i b o,W i b o->V i b o:=λi b o p=>by
  cases i with
  | zero=>exact hV0 b o p
  | succ i=>exact p
 have hA2:NK w S W (.ptr c::A) (.pointer (some ⟨g,q,none⟩)::vs):=by
  refine⟨?_,hA'⟩;have:=uJ (lo:=0) (n:=c.length) (cs:=c++r) ω u hf1 J hf3 O;rw[show b8 (c++r) 0 c.length=c by simp[b8]]at this;simp only[U6,Nat.add_zero]at this;exact this
 refine(h.run w S W _ hS (λi b o p=>hV i b o (K i b o p)) (λi i' D b o l a=>hVd i i' D b o (K i b o l) (K i' b o a)) hA2).mono λe w1 hv=>?_
 obtain⟨v,he,hk,X,V',S1,hX,E,hS1,hVd',hXV,hXS,hVS1,hh,hr,hm⟩:=hv;have H:∀b o,(∃i,W i b o)->∃i,V i b o:=λb o ⟨i,Z⟩=>⟨i,K i b o Z⟩
 let R:ah:=λb o=>V 0 b o/\¬V0 b o
 have hRW:∀b o,R b o->¬∃i,W i b o:=λb o y ⟨i,Z⟩=>by
  cases i with
  | zero=>exact y.2 Z
  | succ i=>exact hVd 0 (i+1) ω b o y.1 Z
 have F:∀b o,R b o->b<w.heap.size:=λb o y=>(hV 0 b o y.1).1
 have t:∀b o,R b o->¬((∃i,W i b o)\/(b<w1.heap.size/\w.heap.size<=b)):=λb o y p=>by
  rcases p with p|p
  ·exact hRW b o y p
  have:=F b o y;omega
 have hRsame:bo R w w1:=λb o y=>⟨hk.cel b o (F b o y) (hRW b o y),hk.fro b o (F b o y) (hRW b o y)⟩
 have hRS1:∀b o,R b o->¬S1 b o:=λb o y hs=>by
  rcases hS1 b o hs with⟨-,l⟩|l
  ·exact(hV 0 b o y.1).2 l
  exact t b o y l
 have hSsame:bo S w w1:=λb o hb=>⟨hk.cel b o (hS b o hb) (λ⟨i,Z⟩=>(hV i b o (K i b o Z)).2 hb),hk.fro b o (hS b o hb) (λ⟨i,Z⟩=>(hV i b o (K i b o Z)).2 hb)⟩
 have hRc:∀j,c.length<=j->j<(c++r).length->R g (q+j):=λj l a=>by
  refine⟨hX1 _ _ (u j a).1,λp=>?_⟩;rcases p with⟨-,Q,h4⟩|⟨N,Q,h4,h5⟩
  ·omega
  exact O _ _ (u j a).1 (J N ω _ _ h5)
 have L:∀j,c.length<=j->j<(c++r).length->∀b o,ff j b o->R b o:=λj l a b o p=>by
  refine⟨hY _ _ (J j a b o p),λhp=>?_⟩;rcases hp with⟨rfl,Q,h4⟩|⟨N,Q,h4,h5⟩
  ·exact O _ _ (hcX o ω ω) (J j a _ _ p)
  exact hf3 j N a ω ω b o p h5
 let U:Nat->ah:=Lr (λb o=>V' 0 b o\/R b o) (λi=>V' (i+1))
 have hU:∀i b o,U i b o->V' i b o\/(i=0/\R b o):=λi b o p=>by
  cases i with
  | zero=>exact p.imp id (λh=>⟨rfl,h⟩)
  | succ i=>exact .inl p
 refine⟨v,he,hk.more H,X,U,S1,λb o p=>(hX b o p).imp (H b o) id,λi b o p=>?_,λb o p=>(hS1 b o p).imp id (Or.imp (H b o) id),λi i' D b o l a=>?_,λi b o l a=>?_,hXS,λi b o l a=>?_,hh,hr,?_,hm.2⟩
 ·rcases hU i b o p with l|⟨-,l⟩
  ·exact(E i b o l).imp (H b o) id
  exact .inl ⟨0,l.1⟩
 ·rcases hU i b o l with l|⟨e1,l⟩
  ·rcases hU i' b o a with a|⟨e2,a⟩
   ·exact hVd' i i' D b o l a
   exact t b o a (E i b o l)
  rcases hU i' b o a with a|⟨e2,a⟩
  ·exact t b o l (E i' b o a)
  exact D ω
 ·rcases hU i b o a with a|⟨-,a⟩
  ·exact hXV i b o l a
  exact t b o a (hX b o l)
 ·rcases hU i b o l with l|⟨-,l⟩
  ·exact hVS1 i b o l a
  exact hRS1 b o l a
 obtain⟨Xa,Ya,ha1,ha2,ha3,⟨ga,oa,hea,ha4⟩,fa,ha5,ha6,ha7⟩:=(show qk w1 (λb o=>S b o\/S1 b o) (V' 0) (.ptr c') (.pointer (some ⟨g,q,none⟩)) from hm.1)
 obtain⟨rfl,rfl⟩ : g=ga/\q=oa:=by simpa using hea
 have G:(c'++r).length=c.length+r.length:=by rw[I3,hl]
 show qk w1 (λb o=>S b o\/S1 b o) (λb o=>V' 0 b o\/R b o) (.ptr (c'++r)) (.pointer (some ⟨g,q,none⟩));have faV:∀j,j<c.length->∀b o,fa j b o->V' 0 b o:=λj M b o p=>ha2 _ _ (ha6 j ω b o p)
 refine⟨λb o=>Xa b o\/(R b o/\∃j,c.length<=j/\j<(c++r).length/\b=g/\o=q+j),λb o=>Ya b o\/∃j,c.length<=j/\j<(c++r).length/\ff j b o,λb o p=>?_,λb o p=>?_,λb o l a=>?_,⟨g,q,rfl,λj M=>?_⟩,λj=>if j<c.length then fa j else ff j,λj d M=>?_,λj M b o p=>?_,λj N M hj' D b o l a=>?_⟩
 ·exact p.imp (ha1 b o) (·.1)
 ·rcases p with p|⟨j,l,a,Q⟩
  ·exact .inl (ha2 b o p)
  exact .inr (L j l a b o Q)
 ·rcases l with l|⟨l,j,j1,j2,rfl,rfl⟩
  ·rcases a with a|⟨j,j1,j2,j3⟩
   ·exact ha3 b o l a
   exact t b o (L j j1 j2 b o j3) (E 0 b o (ha1 b o l))
  rcases a with a|⟨N,j3,j4,j5⟩
  ·exact t _ _ l (E 0 _ _ (ha2 _ _ a))
  exact O _ _ (u j j2).1 (J N j4 _ _ j5)
 ·rw[G]at M
  by_cases hc:j<c.length
  ·have:=ha4 j ω
   exact⟨.inl this.1,this.2⟩
  have y:=hRc j ω ω;have hs:=hRsame _ _ y;have T:=u j ω;refine⟨.inr ⟨y,j,ω,ω,rfl,rfl⟩,?_,?_⟩
  ·rw[hs.1];exact T.2.1
  rw[hs.2];exact T.2.2
 ·dsimp only
  by_cases hc:j<c.length
  ·rw[C9 hc]
   rw[O4 ω]at M;exact ha5 j d M
  rw[C8 hc];rw[T4 ω,hl]at M;have hj2:(c++r)[j]? = some d:=by rw[T4 ω];exact M
  have hjl:=(I2.1 hj2).1;have Q:=(hf1 j d hj2).keep hSsame (λb o p=>hRsame b o (L j ω hjl b o p));have T:=(hRsame _ _ (hRc j ω hjl)).1;have:ch w1 .box (.pointer (some ⟨g,q,none⟩)) j=ch w .box (.pointer (some ⟨g,q,none⟩)) j:=by
   simp only[ch];rw[T]
  rw[this];exact Q.mono (λ_ _ h=>.inl h) (λ_ _ h=>h)
 ·rw[G]at M
  split at p
  ·rename_i hc;exact .inl (ha6 j ω b o p)
  exact .inr ⟨j,ω,ω,p⟩
 rw[G]at M hj';split at l
 ·rename_i c1
  split at a
  ·exact ha7 j N ω ω D b o l a
  exact t b o (L N ω ω b o a) (E 0 b o (faV j c1 b o l))
 split at a
 ·rename_i c1;exact t b o (L j ω ω b o l) (E 0 b o (faV N c1 b o a))
 exact hf3 j N ω ω D b o l a
mutual
theorem Rf:∀c:C,fz (fz c)=fz c
 | .v x=>by simp[fz]
 | .s o rows=>by simp only[fz];rw[Jm rows]
 | .x=>by simp[fz]
 | .z=>by simp[fz]
 | .m _=>by simp[fz]
 | .it _ _=>by simp[fz]
theorem Jm:∀a:List (List C),fzR (fzR a)=fzR a
 | []=>rfl
 | r::a=>by simp only[fzR];rw[pK r,Jm a]
theorem pK:∀cs:List C,eB (eB cs)=eB cs
 | []=>rfl
 | c::cs=>by simp only[eB];rw[Rf c,pK cs]
end
theorem nr(k:af)(a:a7 k=true)(e:k.Calls≠100000):aW Tryz.prog 487 false [.ptr (af.enc .own k)] [.ptr (af.enc .own (bZ k))] .one [B (!refd k)]:=by
 have b:=bp a;have c:=(aB.1 a).2.2.2.2;have d:=Fh k.a0 k.Calls (by have:=b.2;omega);refine fM 22 [] [(2,9,[11,12,13,14,15,16,17,18,19])] [(0,0)] Tryz.func487 rfl (λu q=>?_)
 repeat'(first|refine gO ?_|(conv=>whnf);refine CG (d) ⟨⟨rfl,dX _⟩,⟨rfl,W0 (λz=>[I z]) ω⟩,trivial⟩ ?_)
 refine CF rfl ?_ ?_
 ·rfl
 exact wB
theorem oc(k:af)(p m:Int)(a:a7 k=true)(j:k.Calls≠100000)(d:(ac k.F.Q p).j≠0)(l:m=1\/m=2):aW Tryz.prog 585 false [.ptr (af.enc .own k),.val none [I p],.val none [I m]] [.ptr (af.enc .own (fe k p m).1),.val none [I p],.val none [I m]] .one [B (fe k p m).2]:=by
 have n:=bp a;have b:=nr k a j;have g:=fy (bZ k) p n.1.2;have c:=aG m 1 2;rw[O0 ω]at c;obtain⟨o,t,w,-⟩:=bI a d;have h:=ao (xs:=k.F.Q.J) (i:=p.toNat) ω;have r:¬(ac (bZ k).F.Q p).j=0:=d;unfold fe;cases e:refd k<;>rw[e]at b
 ·rw[C8 (by simp),uL]
  refine fM 31 [(487,[2])] [] [(0,0),(0,0),(0,0)] Tryz.func585 rfl (λu q=>?_)
  repeat'(first|refine gA ?_|(conv=>whnf);first|refine CJ (b) (.inl rfl) ?_|refine CG (g) ⟨CS (bZ k),⟨rfl,rfl⟩,trivial⟩ ?_|refine C7 (c) ?_|refine CL o (aa h) ?_|refine CP rfl rfl (aa h) rfl (C1 rfl) rfl ?_)
  refine CF rfl ?_ ?_
  ·rfl
  exact wB
 rw[C9 rfl];refine fM 31 [(487,[2])] [] [(0,0),(0,0),(0,0)] Tryz.func585 rfl (λu q=>?_)
 repeat'(first|refine gA ?_|(conv=>whnf);refine CJ (b) (.inl rfl) ?_)
 refine CF rfl ?_ ?_
 ·rfl
 exact wB
theorem Rw.two{c:List C}{off i k j d e b:Nat}{K:List C->Nat->Prop}{o f:dQ}{rows rows2:List (List C)}{r a:List C}(h1:c[off]? = some (.s o rows))(g:rows[i]? = some r)(h:r.length=k)(l:r[j]? = some (.s f rows2))(n:rows2[d]? = some a)(p:a.length=e)(q:K a b):Rw c off [(i,k,j),(d,e,b)] K:=
 Rw.mk (r:=a) (j:=b) (by simp[ce,h1,g,h,l,n,p]) q
theorem zt(k:af)(a b c:Int)(h:a7 k=true)(F:(ac k.F.Q a).j≠0)(G:(ac k.F.Q b).j≠0)(g:0<=c/\c<=15):aW Tryz.prog 586 false [.ptr (af.enc .own k),.val none [I a],.val none [I b],.val none (aD .X [c])] [.ptr (af.enc .own (om k a b c)),.val none [I a],.val none [I b],.val none (aD .X [c])] .one [B true]:=by
 have w:=bp h;have H:=fy k a w.1.2;have J:=fy k b w.1.2;have y:=aG c 0 15;rw[O0 g]at y;obtain⟨K,O,L,C,P⟩:=bI h F;obtain⟨M,Q,D,E,R⟩:=bI h G;have N:=(aU.1 (aB.1 h).2.1).2.2.1;have S:=row16 h (f:=b9 k a) (by unfold b9;omega);have T:=row16 h (f:=b9 k b) (by unfold b9;omega);have d:k.F.W.S[(ac k.F.Q a).e.toNat]? = some (nth k.F.W.S (b9 k a)):=ao ω;have e:k.F.W.S[(ac k.F.Q b).e.toNat]? = some (nth k.F.W.S (b9 k b)):=ao ω;have l:=ao (xs:=nth k.F.W.S (b9 k a)) (i:=c.toNat) ω;have o:=ao (xs:=nth k.F.W.S (b9 k b)) (i:=c.toNat) ω;have p:=ao (xs:=k.F.Q.J) (i:=a.toNat) ω;have r:=ao (xs:=k.F.Q.J) (i:=b.toNat) ω;rw[L]at C d;rw[D]at E e;have t:[c][0]? = some c:=rfl;refine fM 90 [] [(13,28,[61,62,63,64,65,66,67,68,69,70,71,72,73,74,75,76,77,78,79,80,81,82,83,84,85,86,87,88])] [(0,0),(0,0),(0,0),(0,0)] Tryz.func586 rfl (λu q=>?_)
 repeat'(first|refine gA ?_|(conv=>whnf);first|refine CG (H) ⟨CS k,⟨rfl,rfl⟩,trivial⟩ ?_|refine CG (J) ⟨CS k,⟨rfl,rfl⟩,trivial⟩ ?_)
 (conv=>whnf)
 refine CE (ι:=Nat) (λn=>[(0,.H .box (af.enc .own k)),(1,.H .one [I (a)]),(2,.H .one [I (b)]),(3,.H .one (aD .X [c])),(9,.H .one [I ((n:Nat):Int)])]) (λn=>n<=1) (λn=>1 - n) (0) ?_ (U0 _) λn U=>?_
 ·exact wB
 by_cases V:n<1
 ·obtain rfl:n=0:=ω
  repeat'(first|refine gD ?_|(conv=>whnf);first|refine CL (by decide) (aa t) ?_|refine C7 (y) ?_)
  ((conv=>whnf);refine CD 1 ω ω ?_;(exact wB))
 obtain rfl:n=1:=ω
 repeat'(first|refine gD ?_|(conv=>whnf);first|refine CL K (aa p) ?_|refine CL M (aa r) ?_|refine CH rfl (aa p) rfl ?_|refine CH rfl (aa r) rfl ?_)
 (conv=>whnf)
 refine CE (ι:=Nat) (λj=>[(0,.H .box (af.enc .own (H3 k a b c j))),(3,.H .one (aD .X [c])),(10,.H .one [I ((nth k.F.Q.J a.toNat).e)]),(11,.H .one [I ((nth k.F.Q.J b.toNat).e)]),(12,.H .one [I ((j:Nat):Int)])]) (λj=>j<=1) (λj=>1 - j) (0) ?_ (U0 _) λj W=>?_
 ·exact wB
 by_cases X:j<1
 ·obtain rfl:j=0:=ω
  repeat'(first|refine gD ?_|(conv=>whnf);first|refine CL (by decide) (aa t) ?_|refine CL C (aa d) ?_|refine CL E (aa e) ?_|refine CL g.1 (aa l) ?_|refine CL g.1 (aa o) ?_|refine CH rfl (aa e) rfl ?_|refine CH rfl (aa d) rfl ?_|refine Rw.two rfl (aa d) rfl rfl (aa l) rfl ?_|refine Pu.two rfl rfl (aa e) rfl rfl rfl (aa o) rfl (z3 _) rfl ?_)
  ((conv=>whnf);refine CD 1 ω ω ?_)
  rw[show H3 k a b c 1=om k a b c from rfl];unfold om;rw[vm,show b9 k b=(nth k.F.Q.J b.toNat).e.toNat by unfold b9;rw[D]];exact wB
 obtain rfl:j=1:=ω
 repeat'(first|refine gD ?_|(conv=>whnf);refine CB ?_)
 refine CF rfl ?_ ?_
 ·rfl
 exact wB
theorem GG(k:af)(p o:Int)(a:a7 k=true)(y:k.Calls≠100000)(g:(ac k.F.Q p).j≠0)(h:(ac k.F.Q o).j≠0)(C:p≠o):aW Tryz.prog 587 false [.ptr (af.enc .own k),.val none [I p],.val none [I o]] [.ptr (af.enc .own (qH k p o).1),.val none [I p],.val none [I o]] .one [B (qH k p o).2]:=by
 have b:=bp a;have c:=nr k a y;have j:=fy (bZ k) p b.1.2;have l:=fy (bZ k) o b.1.2;obtain⟨D,K,E,n,r⟩:=bI a g;obtain⟨F,L,M,N,O⟩:=bI a h;have G:=(aU.1 (aB.1 a).2.1).2.2.1;have d:=ao (xs:=k.F.Q.J) (i:=p.toNat) ω;have t:=ao (xs:=k.F.Q.J) (i:=o.toNat) ω;have H:¬(ac (bZ k).F.Q p).j=0:=g;have J:¬(ac (bZ k).F.Q o).j=0:=h;rw[E]at n r;have w:=Br (tC (bZ k) p.toNat ⟨2,(nth k.F.Q.J o.toNat).e⟩) (nth k.F.Q.J p.toNat).e (EY _ _ b.1.2) ⟨n,by show _<((k.F.W.S.length:Nat):Int);omega,r⟩;rw[Fb]at w;unfold qH;cases e:refd k<;>rw[e]at c
 ·rw[C8 (by simp)]
  refine fM 60 [(487,[2]),(489,[2,0])] [(4,274,[38,39,40,41,42,43,44,45,46,47,48,49,50,51,52,53,54,56,0,1,2,3,4,5,6,7,8,9,10,11,12,13,14,15,16,17,1000,1001,1002,1003,1004,1005,1006,18,19])] [(0,0),(0,0),(0,0)] Tryz.func587 rfl (λu q=>?_)
  repeat'(first|refine gA ?_|(conv=>whnf);first|refine CB ?_|refine CJ (c) (.inl rfl) ?_|refine CG (j) ⟨CS (bZ k),⟨rfl,rfl⟩,trivial⟩ ?_|refine CG (l) ⟨CS (bZ k),⟨rfl,rfl⟩,trivial⟩ ?_|refine CL D (aa d) ?_|refine CL F (aa t) ?_|refine CH rfl (aa d) rfl ?_|refine CH rfl (aa t) rfl ?_|refine CP rfl rfl (aa d) rfl (C1 rfl) rfl ?_|refine CJ (w) (.inl rfl) ?_)
  refine CF rfl ?_ ?_
  ·rfl
  exact wB
 rw[C9 rfl];refine fM 60 [(487,[2]),(489,[2,0])] [(4,274,[38,39,40,41,42,43,44,45,46,47,48,49,50,51,52,53,54,56,0,1,2,3,4,5,6,7,8,9,10,11,12,13,14,15,16,17,1000,1001,1002,1003,1004,1005,1006,18,19])] [(0,0),(0,0),(0,0)] Tryz.func587 rfl (λu q=>?_)
 repeat'(first|refine gA ?_|(conv=>whnf);refine CJ (c) (.inl rfl) ?_)
 refine CF rfl ?_ ?_
 ·rfl
 exact wB
theorem zn(m:aR)(a:Int)(d:aR.sml m)(c:0<=a/\a<512):ar Tryz.prog 591 false [.val (some 3) (aR.enc .X m),.val none [I a]] (.tup [some 2,none]) (bi.enc .own (ac m.Q (a / 16))++[I (a % 16)]):=by
 have e:=cM m.Q (a / 16) d.2;have b:a.tmod 16=a % 16:=dK c.1;refine fO 16 [] Tryz.func591 rfl ?_ (.inr ⟨trivial,trivial,trivial,trivial⟩)
 repeat'(first|refine gD ?_|(conv=>whnf);first|refine C7 (e) ?_|refine CM (oD c) ?_|refine CN (by decide) ?_|refine CQ b ?_)
 rfl
theorem Gu(m:aR)(a v:Int)(o:di m=true)(e:aR.sml m)(p:0<=a/\a<512)(q:0<=v/\v<=999)(r:(ac m.Q (a / 16)).j≠0->0<=(ac m.Q (a / 16)).e/\(ac m.Q (a / 16)).e<m.W.S.length/\(nth m.W.S (ac m.Q (a / 16)).e.toNat).length=16):ar Tryz.prog 590 false [.val (some 3) (aR.enc .X m),.val none [I a],.val none [I v]] (.tup [some 3,none]) (aR.enc .own (fB m a v).1++[I (fB m a v).2]):=by
 have c:=oA m e;rw[o]at c;have g:=sY m e;have h:=zn m a e p;have d:=aG v 0 999;rw[O0 q]at d;have b:=aR.enc_fr (fB m a v).1;unfold fB at b |-;by_cases j:(ac m.Q (a / 16)).j=0
 ·rw[C9 j]at b |-
  refine fO 47 [] Tryz.func590 rfl ?_ (.inr (aI b ⟨trivial,trivial⟩))
  repeat'(first|refine gA ?_|(conv=>whnf);first|refine C7 (c) ?_|refine C7 (g) ?_|refine C7 (h) ?_)
  rfl
 rw[C8 j]at b |-;by_cases l:(ac m.Q (a / 16)).j=1
 ·rw[C9 l]at b |-
  refine fO 47 [] Tryz.func590 rfl ?_ (.inr (aI b ⟨trivial,trivial⟩))
  repeat'(first|refine gA ?_|(conv=>whnf);first|refine C7 (c) ?_|refine C7 (g) ?_|refine C7 (h) ?_)
  rfl
 rw[C8 l]at b |-;obtain⟨t,u,w⟩:=r j;have k:=ao (xs:=m.W.S) (i:=(ac m.Q (a / 16)).e.toNat) ω;have n:=ao (xs:=nth m.W.S (ac m.Q (a / 16)).e.toNat) (i:=(a % 16).toNat) ω;simp only at b |-;rw[xQ]at b |-;refine fO 47 [] Tryz.func590 rfl ?_ (.inr (aI b ⟨trivial,trivial⟩))
 repeat'(first|refine gA ?_|(conv=>whnf);first|refine C7 (c) ?_|refine C7 (g) ?_|refine C7 (h) ?_|refine C7 (d) ?_|refine CL t (aa k) ?_|refine CL ω (aa n) ?_|refine CH rfl (aa k) rfl ?_|refine Pu.two rfl rfl (aa k) rfl rfl rfl (aa n) rfl (z3 _) rfl ?_)
 rfl
theorem gC{k:af}{j:cg} : jmay k j=true↔(a7 k=true/\k.Calls≠100000)/\ju j=true/\(ac k.F.Q j.V.a2).j≠0/\(ac k.F.Q j.V.w).j≠0/\(ac k.F.Q j.V.a2).e≠(ac k.F.Q j.V.w).e:=by
 unfold jmay;simp only[I0,C0]
theorem lD{p:bY}(h:eK p=true):p.S.length<=16:=by
 unfold eK at h;simp only[I0]at h;have a:∀i,i<p.S.length->(i:Int)<=nth p.S i:=λi=>by
  induction i with
  | zero=>
   intro a;have:=dS h.1 a;unfold mu at this;rw[C0]at this;exact this.1
  | succ i b=>
   intro a;have c:=b ω;have:=dS h.1 a;unfold mu at this;rw[C0]at this;have d:=this.2.2.resolve_left ω;rw[Nat.add_sub_cancel]at d;omega
 by_cases e:p.S.length<=16
 ·exact e
 exfalso;have c:=a 16 ω;have:=dS h.1 (show 16<p.S.length by omega);unfold mu at this;rw[C0]at this;omega
theorem tL{j:cg}(h:ju j=true):cg.sml j:=by
 have:=lD (dh.1 h).1;show j.V.S.length<=1048576;omega
theorem mA{k:af}(h:a7 k=true):di k.F=true:=by
 unfold a7 at h;simp only[I0]at h;exact h.1.2
theorem Ds(k:af)(j:cg)(p:jmay k j=true)(g:j.b0=3):aW Tryz.prog 588 false [.ptr (af.enc .own k),.ptr (xE j)] [.ptr (af.enc .own (jstep k j).1),.ptr (xE (jstep k j).2)] (.tup []) []:=by
 obtain⟨⟨a,r⟩,t,c,d,w⟩:=gC.1 p;obtain⟨h,H,J,K,L⟩:=dh.1 t;have y:=bp a;obtain⟨M,N,O,B,P⟩:=bI a c;have l:=(bv.1 (aB.1 a).2.2.1).2.2;have C:=lD h;have D:=(aU.1 (aB.1 a).2.1).2.2.1;unfold jstep;rw[C8 ω,C8 ω,C8 ω,C9 g];by_cases n:0<j.a
 ·rw[C9 n]
  have o:=fm h (i:=(j.a - 1).toNat) ω;have E:=ao (xs:=j.V.S) (i:=(j.a - 1).toNat) ω;have F:0<=j.V.a2*16+nth j.V.S (j.a - 1).toNat/\j.V.a2*16+nth j.V.S (j.a - 1).toNat<512:=ω
  have G:(j.V.a2*16+nth j.V.S (j.a - 1).toNat) / 16=j.V.a2:=ω
  have b:=Gu k.F (j.V.a2*16+nth j.V.S (j.a - 1).toNat) 0 (mA a) y.1 F ω (λ_=>by rw[G];exact⟨B,ω,row16 a (f:=b9 k j.V.a2) (by unfold b9;omega)⟩);generalize (fB k.F (j.V.a2*16+nth j.V.S (j.a - 1).toNat) 0).1=m at b |-;generalize (fB k.F (j.V.a2*16+nth j.V.S (j.a - 1).toNat) 0).2=e at b;refine fM 59 [(585,[2,0,0])] [(2,283,[20,21,22,23,24,25,26,27,28,29,30,31,32,33,34,35,36,37,38,39,40,41,42,19,43,44,4,0,1,2,3,4,5,6,7,8,9,10,11,12,13,14,15,16,17,18,19,20,21,22,23,24,25,26,27,1025,28])] [(0,0),(1,0)] Tryz.func588 rfl (λu q=>?_) (.inr trivial)
  repeat'(first|refine gD ?_|(conv=>whnf);first|refine CB ?_|refine CG (b) ⟨⟨rfl,aR.enc_fz k.F⟩,⟨rfl,rfl⟩,⟨rfl,rfl⟩,trivial⟩ ?_|refine CL ω (aa E) ?_)
  refine CF rfl rfl ?_;exact wC
 rw[C8 n];have b:=oc k j.V.w 2 a r d (.inr rfl);cases e:(fe k j.V.w 2).2<;>rw[e]at b
 ·refine fM 59 [(585,[2,0,0])] [(2,283,[20,21,22,23,24,25,26,27,28,29,30,31,32,33,34,35,36,37,38,39,40,41,42,19,43,44,4,0,1,2,3,4,5,6,7,8,9,10,11,12,13,14,15,16,17,18,19,20,21,22,23,24,25,26,27,1025,28])] [(0,0),(1,0)] Tryz.func588 rfl (λu q=>?_) (.inr trivial)
  repeat'(first|refine gD ?_|(conv=>whnf);refine CJ (b) (.inl rfl) ?_)
  refine CF rfl rfl ?_;rw[<-g];exact wC
 refine fM 59 [(585,[2,0,0])] [(2,283,[20,21,22,23,24,25,26,27,28,29,30,31,32,33,34,35,36,37,38,39,40,41,42,19,43,44,4,0,1,2,3,4,5,6,7,8,9,10,11,12,13,14,15,16,17,18,19,20,21,22,23,24,25,26,27,1025,28])] [(0,0),(1,0)] Tryz.func588 rfl (λu q=>?_) (.inr trivial)
 repeat'(first|refine gD ?_|(conv=>whnf);refine CJ (b) (.inl rfl) ?_)
 refine CF rfl rfl ?_;exact wC
theorem Bj(k:af)(j:cg)(g:jmay k j=true):aW Tryz.prog 572 false [.ptr (af.enc .own k),.ptr (xE j)] [.ptr (af.enc .own (jstep k j).1),.ptr (xE (jstep k j).2)] (.tup []) []:=by
 obtain⟨⟨h,p⟩,B,c,b,l⟩:=gC.1 g;obtain⟨r,F,G,H,J⟩:=dh.1 B;have n:j.V.w≠j.V.a2:=λe=>l (by rw[e])
 have C:=lD r;by_cases d:j.b0=0
 ·have a:=oc k j.V.w 1 h p b (.inl rfl)
  unfold jstep;rw[C9 d];cases e:(fe k j.V.w 1).2<;>rw[e]at a
  ·refine fM 80 [(585,[2,0,0]),(586,[2,0,0,0]),(587,[2,0,0]),(588,[2,2])] [(7,7,[27,28,29,30,31,32,33]),(9,14,[38,39,40,41,42,43,44,45,46,47,48,49,50,51])] [(0,0),(1,0)] Tryz.func572 rfl (λu q=>?_) (.inr trivial)
   repeat'(first|refine gA ?_|(conv=>whnf);refine CJ (a) (.inl rfl) ?_)
   refine CF rfl rfl ?_;exact wC
  refine fM 80 [(585,[2,0,0]),(586,[2,0,0,0]),(587,[2,0,0]),(588,[2,2])] [(7,7,[27,28,29,30,31,32,33]),(9,14,[38,39,40,41,42,43,44,45,46,47,48,49,50,51])] [(0,0),(1,0)] Tryz.func572 rfl (λu q=>?_) (.inr trivial)
  repeat'(first|refine gA ?_|(conv=>whnf);refine CJ (a) (.inl rfl) ?_)
  refine CF rfl rfl ?_;exact wC
 by_cases o:j.b0=1
 ·unfold jstep
  rw[C8 d,C9 o];by_cases t:j.a=j.V.S.length
  ·rw[C9 t]
   refine fM 80 [(585,[2,0,0]),(586,[2,0,0,0]),(587,[2,0,0]),(588,[2,2])] [(7,7,[27,28,29,30,31,32,33]),(9,14,[38,39,40,41,42,43,44,45,46,47,48,49,50,51])] [(0,0),(1,0)] Tryz.func572 rfl (λu q=>?_) (.inr trivial)
   repeat'(first|refine gA ?_|(conv=>whnf);first|refine CB ?_|refine CB ?_)
   refine CF rfl rfl ?_;exact wC
  rw[C8 t];have D:=ao (xs:=j.V.S) (i:=j.a.toNat) ω;have a:=zt k j.V.w j.V.a2 (nth j.V.S j.a.toNat) h b c (fm r ω);have E:=(gC.1 g).2.1;refine fM 80 [(585,[2,0,0]),(586,[2,0,0,0]),(587,[2,0,0]),(588,[2,2])] [(7,7,[27,28,29,30,31,32,33]),(9,14,[38,39,40,41,42,43,44,45,46,47,48,49,50,51])] [(0,0),(1,0)] Tryz.func572 rfl (λu q=>?_) (.inr trivial)
  repeat'(first|refine gA ?_|(conv=>whnf);first|refine CJ a (.inr ⟨rfl,Ca _,trivial⟩) ?_|refine CL ω (aa D) ?_)
  refine CF rfl rfl ?_;exact wC
 by_cases w:j.b0=2
 ·have a:=GG k j.V.w j.V.a2 h p b c n
  unfold jstep;rw[C8 d,C8 o,C9 w];cases e:(qH k j.V.w j.V.a2).2<;>rw[e]at a
  ·refine fM 80 [(585,[2,0,0]),(586,[2,0,0,0]),(587,[2,0,0]),(588,[2,2])] [(7,7,[27,28,29,30,31,32,33]),(9,14,[38,39,40,41,42,43,44,45,46,47,48,49,50,51])] [(0,0),(1,0)] Tryz.func572 rfl (λu q=>?_) (.inr trivial)
   repeat'(first|refine gA ?_|(conv=>whnf);refine CJ (a) (.inl rfl) ?_)
   refine CF rfl rfl ?_;exact wC
  refine fM 80 [(585,[2,0,0]),(586,[2,0,0,0]),(587,[2,0,0]),(588,[2,2])] [(7,7,[27,28,29,30,31,32,33]),(9,14,[38,39,40,41,42,43,44,45,46,47,48,49,50,51])] [(0,0),(1,0)] Tryz.func572 rfl (λu q=>?_) (.inr trivial)
  repeat'(first|refine gA ?_|(conv=>whnf);refine CJ (a) (.inl rfl) ?_)
  refine CF rfl rfl ?_;exact wC
 by_cases y:j.b0=3
 ·have a:=Ds k j g y
  refine fM 80 [(585,[2,0,0]),(586,[2,0,0,0]),(587,[2,0,0]),(588,[2,2])] [(7,7,[27,28,29,30,31,32,33]),(9,14,[38,39,40,41,42,43,44,45,46,47,48,49,50,51])] [(0,0),(1,0)] Tryz.func572 rfl (λu q=>?_) (.inr trivial)
  repeat'(first|refine gA ?_|(conv=>whnf);refine CJ (a) (.inl rfl) ?_)
  refine CF rfl rfl ?_;exact wC
 unfold jstep;rw[C8 d,C8 o,C8 w,C8 y];refine fM 80 [(585,[2,0,0]),(586,[2,0,0,0]),(587,[2,0,0]),(588,[2,2])] [(7,7,[27,28,29,30,31,32,33]),(9,14,[38,39,40,41,42,43,44,45,46,47,48,49,50,51])] [(0,0),(1,0)] Tryz.func572 rfl (λu q=>?_) (.inr trivial)
 repeat'(first|refine gA ?_|(conv=>whnf);refine CB ?_)
 refine CF rfl rfl ?_;exact wC
theorem DW(k:af)(j:cg)(e:a7 k=true)(i:ju j=true):ar Tryz.prog 571 false [.val (some 5) (af.enc .X k),.val (some 5) (cg.enc .X j)] .one [B (jmay k j)]:=by
 have c:=bp e;have b:eB (af.enc .X k)=af.enc .X k:=by rw[<-CS k,pK]
 have r:=(aB.1 e).2.2.2.2;have a:=lY k c;rw[e]at a;have d:=wH j (tL i);rw[i]at d;have l:=fy k j.V.a2 c.1.2;have n:=fy k j.V.w c.1.2;have t:=cM k.F.Q j.V.a2 c.1.2;have u:=cM k.F.Q j.V.w c.1.2;by_cases o:k.Calls=100000
 ·rw[T0 ω]at a
  rw[show jmay k j=false by rw[<-C5,gC];exact λh=>h.1.2 o];refine fO 44 [(3,16,[27,28,29,30,31,32,33,34,35,36,37,38,39,40,41,42])] Tryz.func571 rfl ?_
  repeat'(first|refine gO ?_|(conv=>whnf);refine C7 (a) ?_)
  rfl
 rw[O0 ω]at a;by_cases p:(ac k.F.Q j.V.a2).j=0
 ·rw[show jmay k j=false by rw[<-C5,gC];exact λh=>h.2.2.1 p]
  refine fO 44 [(3,16,[27,28,29,30,31,32,33,34,35,36,37,38,39,40,41,42])] Tryz.func571 rfl ?_
  repeat'(first|refine gA ?_|(conv=>whnf);first|refine C7 (a) ?_|refine C7 (d) ?_|refine CG (l) ⟨b,⟨rfl,rfl⟩,trivial⟩ ?_)
  rfl
 by_cases q:(ac k.F.Q j.V.w).j=0
 ·rw[show jmay k j=false by rw[<-C5,gC];exact λh=>h.2.2.2.1 q]
  refine fO 44 [(3,16,[27,28,29,30,31,32,33,34,35,36,37,38,39,40,41,42])] Tryz.func571 rfl ?_
  repeat'(first|refine gA ?_|(conv=>whnf);first|refine C7 (a) ?_|refine C7 (d) ?_|refine CG (l) ⟨b,⟨rfl,rfl⟩,trivial⟩ ?_|refine CG (n) ⟨b,⟨rfl,rfl⟩,trivial⟩ ?_)
  rfl
 refine fO 44 [(3,16,[27,28,29,30,31,32,33,34,35,36,37,38,39,40,41,42])] Tryz.func571 rfl ?_
 repeat'(first|refine gA ?_|(conv=>whnf);first|refine C7 (a) ?_|refine C7 (d) ?_|refine CG (l) ⟨b,⟨rfl,rfl⟩,trivial⟩ ?_|refine CG (n) ⟨b,⟨rfl,rfl⟩,trivial⟩ ?_|refine C7 (t) ?_|refine C7 (u) ?_)
 exact W0 (λz=>[B z]) (by
   unfold jmay;rw[e,i,O0 o];by_cases g:(ac k.F.Q j.V.a2).e=(ac k.F.Q j.V.w).e
   · rw[T0 (λh=>h.2.2 g)];simp[g]
   rw[O0 ⟨p,q,g⟩];simp[g])
theorem B5(j:cg):ar Tryz.prog 573 false [.val (some 5) (cg.enc .X j)] .one [B (over j)]:=by
 by_cases a:j.b0=4
 ·rw[show over j=true from O0 (.inl a)]
  refine fO 11 [] Tryz.func573 rfl ?_
  repeat'(first|refine gA ?_|(conv=>whnf);refine CB ?_)
  rfl
 rw[show over j=decide (j.b0=5) from decide_eq_decide.2 ω];refine fO 11 [] Tryz.func573 rfl ?_
 repeat'(first|refine gA ?_|(conv=>whnf);refine CB ?_)
 exact W0 (λz=>[B z]) (by rw[V4];simp)
def Je(x:ab):List C:=(bB x).set 21 .z
theorem En{x:ab}(h:x.Y.V.S=[]):Mf (Je x) (bB x):=by
 unfold Je bB;simp only[List.set,h,List.map_nil]
 repeat'(first|exact trivial|exact eA _|refine CK ?_ ?_|rfl)
theorem Dd(h:ab)(j:aX h [])(k:h.o=true):aW Tryz.prog 536 false [.ptr (bB h)] [.ptr (bB (mStep h))] .one [B (qn h)]:=by
 obtain⟨l,-,-⟩:=j.job k;have b:=DW h.G h.Y j.ker l;have a:=B5 (eC h.G h.Y).2;unfold qn mStep;cases e:jmay h.G h.Y with
 | false=>
  rw[e]at b;have d:eC h.G h.Y=(h.G,h.Y):=by unfold eC;rw[e];rfl
  rw[d]at a |-;simp only at a |-;cases g:over h.Y<;>rw[g]at a
  ·refine fM 39 [(572,[3,5,5])] [(1,8,[4,5,6,7,8,9,10,11]),(2,6,[13,14,15,16,17,18])] [(0,0)] Tryz.func536 rfl (λu q=>?_)
   repeat'(first|refine gO ?_|(conv=>whnf);first|refine CG (b) ⟨⟨rfl,CS h.G⟩,⟨rfl,rfl⟩,trivial⟩ ?_|refine C7 (a) ?_)
   refine CF rfl ?_ ?_
   ·exact W0 (λz=>[B z]) (by rw[V4];simp)
   exact wC
  refine aW.wk (c:=Je _) ?_ (En rfl);refine fM 39 [(572,[3,5,5])] [(1,8,[4,5,6,7,8,9,10,11]),(2,6,[13,14,15,16,17,18])] [(0,0)] Tryz.func536 rfl (λu q=>?_)
  repeat'(first|refine gO ?_|(conv=>whnf);first|refine CG (b) ⟨⟨rfl,CS h.G⟩,⟨rfl,rfl⟩,trivial⟩ ?_|refine C7 (a) ?_)
  refine CF rfl ?_ ?_
  ·exact W0 (λz=>[B z]) (by rw[V4];simp)
  exact wC
 | true=>
  rw[e]at b;have d:eC h.G h.Y=jstep h.G h.Y:=by unfold eC;rw[e];rfl
  have i:=Bj h.G h.Y e;rw[d]at a |-;generalize jstep h.G h.Y=r at i a |-;cases g:over r.2<;>rw[g]at a
  ·refine fM 39 [(572,[3,5,5])] [(1,8,[4,5,6,7,8,9,10,11]),(2,6,[13,14,15,16,17,18])] [(0,0)] Tryz.func536 rfl (λu q=>?_)
   repeat'(first|refine gO ?_|(conv=>whnf);first|refine CG (b) ⟨⟨rfl,CS h.G⟩,⟨rfl,rfl⟩,trivial⟩ ?_|refine C7 (a) ?_|refine CJ (i) (.inl rfl) ?_)
   refine CF rfl ?_ ?_
   ·exact W0 (λz=>[B z]) (by rw[V4];simp)
   exact wC
  refine aW.wk (c:=Je _) ?_ (En rfl);refine fM 39 [(572,[3,5,5])] [(1,8,[4,5,6,7,8,9,10,11]),(2,6,[13,14,15,16,17,18])] [(0,0)] Tryz.func536 rfl (λu q=>?_)
  repeat'(first|refine gO ?_|(conv=>whnf);first|refine CG (b) ⟨⟨rfl,CS h.G⟩,⟨rfl,rfl⟩,trivial⟩ ?_|refine C7 (a) ?_|refine CJ (i) (.inl rfl) ?_)
  refine CF rfl ?_ ?_
  ·exact W0 (λz=>[B z]) (by rw[V4];simp)
  exact wC
theorem HM{k:Int} : ∀{l s s2 c:List Int}(n:Nat),(∀x∈s2,x∈s)->rH k s l=some c->∃d,rH k s2 (l.take n)=some d/\∀x∈d,x∈c
 | [],s,s2,c,n,h,e=>by
  simp only[rH,X0,List.take_nil]at e |-;subst e;exact⟨s2,rfl,h⟩
 | a::l,s,s2,c,0,h,e=>⟨s2,rfl,λx b=>(pk (λ_ y=>y) e).1 x (h x b)⟩
 | a::l,s,s2,c,n+1,h,e=>by
  simp only[List.take_succ_cons,rH]at e |-;split at e
  ·rename_i g
   rw[C9 (show good k s2 a from⟨g.1,g.2.1,g.2.2.1,λx=>g.2.2.2 (h a x)⟩)];exact HM (l:=l) (s:=s++[a]) (s2:=s2++[a]) n (λx b=>by
     rcases Z2.1 b with b|b
     · exact Z2.2 (.inl (h x b))
     exact Z2.2 (.inr b)) e
  cases e
theorem DP:∀{a:List (List Int)}{k:Nat}{s s2:List Int}(i n:Nat),(∀x∈s2,x∈s)->(gB k s a).isSome=true->(gB k s2 (a.set i ((nth a i).take n))).isSome=true
 | [],_,_,_,_,_,_,_=>rfl
 | l::a,k,s,s2,i,n,h,e=>by
  simp only[gB,fj]at e;split at e
  ·rename_i g
   cases b:rH k s l with
   | none=>rw[b]at e;cases e
   | some j=>
    rw[b]at e;cases i with
    | zero=>
     obtain⟨c,d,f⟩:=HM n h b;simp only[List.set_cons_zero,gB,fj];rw[C9 ⟨by have:=g.1;simp only[nth,List.getD_cons_zero,U1];omega,g.2⟩];show((rH (k:Nat) s2 (l.take n)).bind λj=>gB (k+1) j a).isSome=true;rw[d];exact tT f e
    | succ i=>
     obtain⟨o,c,d,f⟩:=pk h b;simp only[List.set_cons_succ,gB,fj];rw[C9 g,d];exact DP i n f e
  cases e
theorem PP{c:aE}(h:bA c=true)(k:Nat):bA (sq c k)=true:=by
 unfold bA at h |-;simp only[I0,C0]at h |-;exact⟨by simp only[sq,O1];exact h.1,DP k _ (λ_ h=>h) h.2⟩
def pm(b:Int):Nat->List Int
 | 0=>[]
 | j+1=>if aS b (j:Nat)=true then pm b j else pm b j++[((j:Nat):Int)]
theorem t8{b:Int} : ∀{n:Nat}{z:Int},z∈pm b n->0<=z/\z<n/\aS b z=false
 | 0,_,h=>by cases h
 | n+1,z,h=>by
  unfold pm at h;split at h
  ·have:=t8 h;exact⟨this.1,ω,this.2.2⟩
  rename_i e;rcases Z2.1 h with h|h
  ·have:=t8 h;exact⟨this.1,ω,this.2.2⟩
  rw[I1.1 h];exact⟨ω,ω,by simpa using e⟩
theorem tU(b:Int):∀n,(pm b n).length<=n
 | 0=>z3 _
 | n+1=>by have:=tU b n;unfold pm;split<;>simp<;>omega
def qQ(k b:Int):List Int:=if MQ k b=true then pm b (slots k).toNat else []
def nz(h:ab)(i:Nat):List Int:=qQ (nth h.K i).d (ip h i)
theorem xw{k b z:Int}(h:z∈qQ k b):0<=z/\z<slots k/\aS b z=false:=by
 unfold qQ at h;split at h
 ·have:=t8 h;exact⟨this.1,ω,this.2.2⟩
 cases h
theorem GF(k b:Int):(qQ k b).length<=16:=by
 unfold qQ;split
 ·rename_i h
  unfold MQ at h;rw[C0]at h;have:=(gU (k:=k) ⟨h.1,h.2.1⟩).2.2.1;have:=tU b (slots k).toNat;omega
 exact U0 _
def qx(h:ab)(i:Nat):Int:=nth (nz h i) (E0 h.c0 ((nz h i).length:Nat)).toNat
def slotT(h:ab)(i:Nat):ab:={h with c0:=zB h.c0,K:=h.K.set i (ry (nth h.K i) (qx h i))}
def vq(h:ab)(i:Nat):Int:=16*(nth h.K i).R+qx h i*csz (nth h.K i).d
theorem zY{h:ab}{i:Nat}(a:0<(nz h i).length):qx h i∈nz h i:=by
 have:=r8 h.c0 (n:=((nz h i).length:Nat)) ω;exact am ω
theorem aX.slotT{h:ab}{E:List Int}{i:Nat}(a:aX h E)(b:i<h.K.length)(e:0<(nz h i).length):aX (slotT h i) (vq h i::E)/\kh (slotT h i).K (vq h i) (nth h.K i).d:=by
 obtain⟨c,d,f⟩:=xw (zY e);exact⟨a.take b ⟨c,d⟩ f (DA _),(kh.setS a.L b ⟨c,d⟩ _ _).2 (.inr ⟨rfl,.inr rfl⟩)⟩
def sS(h:ab)(c:Int)(i:Nat):Bool:=decide ((nth h.K i).d=c)&&(!gm h (nth h.K i).R&&decide (0<(nz h i).length))
def uC(h:ab)(c:Int):Option Nat:=(List.range h.K.length).find? (sS h c)
def qM(h:ab)(c:Int):ab:=addS h (newK h.G (au h.u 1).2.1).1 (au h.u 1).1 (au h.u 1).2.1 c
def qR(h:ab):Nat:=kL (GY (au h.u 1).2.1) h.K
def nU(h:ab)(i:Nat):ab × Int:=if(nz h i).length=0 then(h,-1) else(slotT h i,vq h i)
def smallA(h:ab)(t c:Nat):ab × Int:=
 if 0<(nth (nth h.T t).b c).length then({h with T:=h.T.set t (sq (nth h.T t) c)},nth (nth (nth h.T t).b c) ((nth (nth h.T t).b c).length - 1))
 else match uC h c with
 | some i=>(slotT h i,vq h i)
 | none=>if(au h.u 1).2.2=false then(h,-1)
  else if(newK h.G (au h.u 1).2.1).2=false then({h with G:=(newK h.G (au h.u 1).2.1).1},-1)
  else nU (qM h c) (qR h)
theorem D5{α:Type}[Inhabited α](p:α->Bool)(xs:List α)(y:α):kL p xs<(jx p xs y).length/\nth (jx p xs y) (kL p xs)=y:=by
 have b:=PN p xs;have a:(xs.take (kL p xs)).length=kL p xs:=by rw[U1];omega
 refine⟨by rw[(kT p xs y).length_eq,List.length_cons];omega,bm ?_⟩;unfold jx;rw[T4 ω,a,Nat.sub_self]
 rfl
theorem aX.tEq{h:ab}{E:List Int}(a:aX h E){k:af}(c:a7 k=true)(b:tEq (tbl h) k.F.Q):aX {h with G:=k} E/\JK h {h with G:=k}:=
 ⟨a.step (j:=h.Y) (m:=h.o) c b.1 (a.pg.tEq b) a.job a.noj,⟨rfl,rfl,λs d _=>⟨s,d,rfl,λ_ z=>z⟩,λq e=>.inl ⟨(b.2 q).1.1 e,(b.2 q).2⟩⟩⟩
structure Rl(h:ab)(c:Int)(r:ab × Int):Prop where
 no:r.2<0->aX r.1 []
 yes:0<=r.2->aX r.1 [r.2]/\kh r.1.K r.2 c
 jk:JK h r.1
 nx:r.1.a=h.a
 cl:r.1.T.length=h.T.length
theorem kh.nn{h:ab}{E:List Int}(b:aX h E){a c:Int}(d:kh h.K a c):0<=a:=(kh.bd b d).1
theorem Rl.slot{h h':ab}{i:Nat}{c:Int}(g:aX h' [])(j:i<h'.K.length)(k:0<(nz h' i).length)(l:(nth h'.K i).d=c)(n:JK h h')(a:gm h' (nth h'.K i).R=false)(h1:h'.a=h.a)(o:h'.T.length=h.T.length):Rl h c (slotT h' i,vq h' i):=by
 obtain⟨d,f⟩:=g.slotT j k;have b:=kh.nn d f;exact⟨λe=>absurd b (by simp only at e;omega),λ_=>⟨d,by rw[<-l];exact f⟩,n.trans (JK.take a),h1,o⟩
theorem ug{h:ab}{t c:Nat}(a:aX h [])(q:t<h.T.length)(P:c<=3)(B:h.G.Calls<=90000):Rl h c (smallA h t c):=by
 have f:=a.cach _ (am q);have C:=pv f;unfold smallA;split
 ·rename_i D
  obtain⟨d,b⟩:=a.pop q ω D (PP f c);have l:=kh.nn a b;exact⟨λe=>absurd l (by simp only at e;omega),λ_=>⟨d,b⟩,JK.eq rfl rfl rfl rfl,rfl,O1 ..⟩
 split
 ·rename_i i r
  have g:=List.find?_some r;have E:=List.mem_range.1 (List.mem_of_find?_eq_some r);unfold sS at g;simp only[I0,C0,Bool.not_eq_true']at g;exact Rl.slot a E g.2.2 g.1 (JK.refl h) g.2.1 rfl rfl
 split
 ·exact⟨λ_=>a,λe=>absurd e (by show ¬(0:Int)<=-1;decide),JK.refl h,rfl,rfl⟩
 rename_i F;have j:(au h.u 1).2.2=true:=by simpa using F
 obtain⟨G,H,J,u⟩:=jE a (Y4 1) j;have s:=vP.of (p:=(au h.u 1).2.1) a.ker ω ⟨G,by have:(au h.u 1).2.1+1<=(h.G.F.Q.J.length:Nat):=H;omega⟩ (J _ ω ω);split
 ·rename_i n
  rw[s.no n];obtain⟨d,b⟩:=a.tEq (m8 a.ker ω) (tEq.refl _);exact⟨λ_=>d,λe=>absurd e (by show ¬(0:Int)<=-1;decide),b,rfl,rfl⟩
 rename_i n;have o:(newK h.G (au h.u 1).2.1).2=true:=by simpa using n
 have w:vP h.G (au h.u 1).2.1 ((newK h.G (au h.u 1).2.1).1,true):=by rw[<-o];exact s
 have d:=a.addS (c:=c) ⟨ω,ω⟩ j w;have b:JK h (qM h c):=JK.addS w;obtain⟨K,A⟩:=D5 (GY (au h.u 1).2.1) h.K ⟨(au h.u 1).2.1,c,0⟩;unfold nU;split
 ·exact⟨λ_=>d,λe=>absurd e (by show ¬(0:Int)<=-1;decide),b,rfl,rfl⟩
 refine Rl.slot (h':=qM h c) (i:=qR h) d K ω (by show(nth (jx (GY (au h.u 1).2.1) h.K ⟨(au h.u 1).2.1,c,0⟩) (qR h)).d=_;unfold qR;rw[A]) b ?_ rfl rfl;show gm (qM h c) (nth (jx (GY (au h.u 1).2.1) h.K ⟨(au h.u 1).2.1,c,0⟩) (qR h)).R=false;unfold qR;rw[A,b.pg];rw[<-C5];intro k;unfold gm at k;simp only[I0,Y5,C0]at k;obtain⟨-,⟨y,L,M⟩,⟨z,N,O⟩⟩:=a.job k.1;rcases k.2 with e|e
 ·exact u _ (Y4 _) ω (by rw[e,<-M];exact dC L)
 exact u _ (Y4 _) ω (by rw[e,<-O];exact dC N)
def gM(size:Int):Nat:=((size+15) / 16).toNat
def dO(h:ab)(size:Int):af × Nat:=newsK h.G (au h.u (gM size:Nat)).2.1 (gM size)
def largeA(h:ab)(t size:Int):ab × Int × Int:=
 if(au h.u (gM size:Nat)).2.2=false then(h,-1,4)
 else if(dO h size).2=gM size then(addL h (dO h size).1 (au h.u (gM size:Nat)).1 (au h.u (gM size:Nat)).2.1 (gM size:Nat) size t,16*(au h.u (gM size:Nat)).2.1,0)
 else({h with G:=unmN (dO h size).1 (au h.u (gM size:Nat)).2.1 (dO h size).2},-1,4)
def uj(xs:List bu):Nat->Int
 | 0=>0
 | i+1=>uj xs i+(nth xs i).q
def uf(h:ab):Int:=uj h.O h.O.length
def allocH(h:ab)(t size:Int):ab × Int × Int:=
 if 1000000<=h.a\/90000<h.G.Calls then(h,-1,5)
 else if ¬(0<=t/\t<=h.T.length - 1) then(h,-1,1)
 else if ¬(1<=size/\size<=1000) then(h,-1,2)
 else if h.c3<uf h+size then(h,-1,3)
 else if 0<=aJ size then(if(smallA h t.toNat (aJ size).toNat).2<0 then((smallA h t.toNat (aJ size).toNat).1,-1,4) else(addO (smallA h t.toNat (aJ size).toNat).1 (smallA h t.toNat (aJ size).toNat).2 size t,(smallA h t.toNat (aJ size).toNat).2,0))
 else largeA h t size
theorem Ag{h:ab}{t size:Int}(a:aX h [])(g:9<=size/\size<=1000)(i:h.a<1000000)(j:h.G.Calls<=90000)(k:0<=t/\t<=h.T.length - 1):aX (largeA h t size).1 []/\JK h (largeA h t size).1:=by
 have l:(gM size:Int)=(size+15) / 16:=by unfold gM;omega
 unfold largeA;split
 ·exact⟨a,JK.refl h⟩
 rename_i o;have b:(au h.u (gM size:Nat)).2.2=true:=by simpa using o
 obtain⟨c,d,e,w⟩:=jE a (show(1:Int)<=(gM size:Nat) by omega) b;have s:=lN.of (p:=(au h.u (gM size:Nat)).2.1) (n:=gM size) a.ker ω ⟨c,d⟩ e (gM size) (z3 _);split
 ·rename_i q
  have f:lN h.G (au h.u (gM size:Nat)).2.1 (gM size) ((dO h size).1,gM size):=by
   have:((dO h size).1,gM size)=dO h size:=by rw[<-q]
   rw[this];exact s
  exact⟨a.addL g l b f i k,JK.addL f⟩
 obtain⟨r,u⟩:=s.undo a.ker ⟨c,d⟩ e;exact a.tEq r u
theorem Ah{h:ab}{t size:Int}(a:aX h []):aX (allocH h t size).1 []/\JK h (allocH h t size).1:=by
 unfold allocH;split
 ·exact⟨a,JK.refl h⟩
 rename_i d;rw[not_or]at d;split
 ·exact⟨a,JK.refl h⟩
 rename_i n;split
 ·exact⟨a,JK.refl h⟩
 rename_i o;split
 ·exact⟨a,JK.refl h⟩
 split
 ·rename_i b
  have f:aJ size<=3:=by unfold aJ;repeat' split<;>omega
  have s:=ug (t:=t.toNat) (c:=(aJ size).toNat) a ω ω ω;generalize smallA h t.toNat (aJ size).toNat=r at s;split
  ·rename_i e;exact⟨s.no e,s.jk⟩
  rename_i e;obtain⟨g,i⟩:=s.yes ω;refine⟨g.addO (.inl ?_) (by rw[s.nx];omega) (by rw[s.cl];omega),s.jk.trans (JK.eq rfl rfl rfl rfl)⟩;obtain⟨z,j,k,p⟩:=i;exact⟨z,j,k,by show z.d=aJ size;omega⟩
 rename_i b;have l:9<=size:=by
  unfold aJ at b
  repeat' split at b<;>omega
 exact Ag a ⟨l,ω⟩ ω ω ω
theorem k7{α β:Type}[Inhabited α]{f:α->β}{xs:List α}{i:Nat}{y:α}(a:i<xs.length)(e:f y=f (nth xs i)):(xs.set i y).map f=xs.map f:=by
 rw[X5];refine List.ext_getElem (by simp) λj b c=>?_
 rw[List.getElem_set];split
 ·rename_i g;subst g
  rw[List.getElem_map,e,bm (C2 a)]
 rfl
theorem nZ{α β:Type}[Inhabited α](f:α->List β):∀(xs:List α)(i:Nat)(y:α),i<xs.length->(f y).Sublist (f (nth xs i))->((xs.set i y).flatMap f).Sublist (xs.flatMap f)
 | [],_,_,h,_=>absurd h (Nat.not_lt_zero _)
 | x::xs,0,y,_,a=>by
  rw[List.set_cons_zero,O6,O6];exact List.Sublist.append a (List.Sublist.refl _)
 | x::xs,i+1,y,h,a=>by
  rw[List.set_cons_succ,O6,O6];exact List.Sublist.append (List.Sublist.refl _) (nZ f xs i y (by simpa using h) a)
def zK(k:af)(a:Int):Nat->af
 | 0=>k
 | m+1=>dI (zK k a m) (a+m) 0
theorem nk(k:af)(a:Int):∀m,(zK k a m).F.Q=k.F.Q/\(zK k a m).Calls=k.Calls/\(zK k a m).a0=k.a0
 | 0=>⟨rfl,rfl,rfl⟩
 | m+1=>nk k a m
theorem MD{k:af}(h:a7 k=true){a:Int} : ∀{m:Nat},(∀j:Nat,j<m->(ac k.F.Q ((a+j) / 16)).j≠0)->a7 (zK k a m)=true
 | 0,_=>h
 | m+1,b=>ww (MD h λj c=>b j ω) (by rw[(nk k a m).1];exact b m ω) ⟨ω,ω⟩
theorem GU{h:ab}{E:List Int}(j:aX h E){sp:List ax}{la:List a8}{o:List aA}{p:Int}{n:Nat}(y:p+n<=h.G.F.Q.J.length)(A:sp.Sublist h.K)(M:∀l∈la,∀q∈lpgs l l.a3.toNat,∃w∈h.M,q∈lpgs w w.a3.toNat)(N:0<=p)(B:∀q,q∈pgs sp la↔q∈pgs h.K h.M/\¬(p<=q/\q<p+n))(O:∀q,RH o q↔RH h.u q\/(p<=q/\q<p+n)) :
  Pg (unmN h.G p n).F.Q o sp la:=by
 have b:=(fS h.G p n).1;have d:=mR j.ker N n y;have f:∀q:Nat,(q:Int)∈pgs sp la->nth (unmN h.G p n).F.Q.J q=nth (tbl h).J q:=λq c=>by rw[d,C8 ((B q).1 c).2];rfl
 have a:∀q:Nat,(nth (unmN h.G p n).F.Q.J q).j≠0↔(nth (tbl h).J q).j≠0/\¬(p<=q/\(q:Int)<p+n):=λq=>by
  rw[d];by_cases e:p<=q/\(q:Int)<p+n
  ·rw[C9 e];exact⟨λx=>absurd rfl x,λx=>absurd e x.2⟩
  rw[C8 e];exact⟨λx=>⟨x,e⟩,λx=>x.1⟩
 refine⟨λl g q c r J C k=>?_,λq c=>?_,λq c=>?_,λq c=>?_,λs g u D F K=>?_⟩
 ·have t:=(a r).1 C
  rw[b]at J;rw[f q (gl g c),d,C8 t.2]at k;obtain⟨w,G,H⟩:=M l g _ c;exact j.pg.one w G q H r J t.1 k
 ·rw[b];exact j.pg.bnd q ((B q).1 c).1
 ·rw[b]at c
  rw[a,B,j.pg.own q c]
 ·rw[b]at c
  rw[a,O,j.pg.fre q c]
  grind
 have i:∀s∈sp,0<=s.R:=λs g=>(aF (j.L.sok s (A.subset g))).1
 have P:=f s.R.toNat (by rw[Int.toNat_of_nonneg (i s g)];exact dC g);have Q:=f u.R.toNat (by rw[Int.toNat_of_nonneg (i u D)];exact dC D);rw[P,Q]at K;exact j.pg.mesh s (A.subset g) u (A.subset D) F K
def trimL(l:a8)(size:Int):a8:=⟨l.R,(size+15) / 16,size⟩
def dD(l:a8)(size:Int):Nat:=(l.a3 - (size+15) / 16).toNat
theorem aX.trimL{h:ab}{E:List Int}{i k:Nat}{size:Int}(t:aX h E)(T:i<h.O.length)(H:k<h.M.length)(Y:(nth h.O i).Addr=16*(nth h.M k).R)(N:9<=size/\size<=(nth h.M k).q) :
  ∃o,(dD (nth h.M k) size=0->o=h.u)/\(0<dD (nth h.M k) size->dL (eY h) h.u ⟨(nth h.M k).R+(size+15) / 16,(dD (nth h.M k) size:Nat)⟩ = some o)/\
   aX {h with G:=unmN h.G ((nth h.M k).R+(size+15) / 16) (dD (nth h.M k) size),M:=h.M.set k (trimL (nth h.M k) size),O:=h.O.set i {nth h.O i with q:=size},u:=o} E:=by
 have U:=t.L;have C:=U.lok _ (am H);have hf:=aP C;unfold bJ at C;rw[C0]at C;obtain⟨b1,b2⟩:=tJ t H;have O:=U.dis;have G:=λj n=>U.one j k n H
 have y:=(am H:nth h.M k∈h.M)
 have d:∀z∈h.M.set k (Ab.trimL (nth h.M k) size),z=Ab.trimL (nth h.M k) size\/∃j,j<h.M.length/\j≠k/\nth h.M j=z:=λz N=>dY N
 have p:Ab.trimL (nth h.M k) size∈h.M.set k (Ab.trimL (nth h.M k) size):=iV _ H;have u:∀j,j<h.M.length->j≠k->nth h.M j∈h.M.set k (Ab.trimL (nth h.M k) size):=λj n e=>jM _ n e
 have hpageM:(h.M.set k (Ab.trimL (nth h.M k) size)).map (·.R)=h.M.map (·.R):=k7 H rfl;have w:(pgs h.K (h.M.set k (Ab.trimL (nth h.M k) size))).Sublist (pgs h.K h.M):=by
  unfold pgs;refine List.Sublist.append (List.Sublist.refl _) (nZ _ _ _ _ H ?_);unfold lpgs;exact(List.range_sublist.2 (by simp only[Ab.trimL];omega)).map _
 obtain⟨l,V⟩ : ∃l,nth h.M k=l:=⟨_,rfl⟩
 rw[V]at C hf b1 b2 G y d p u hpageM w Y N |-;generalize hla:h.M.set k (Ab.trimL l size)=la at d p u hpageM w |-;have hn1:(1:Int)<=(size+15) / 16/\(size+15) / 16+(dD l size:Nat)=l.a3:=by unfold dD;omega
 have D:∀q,q∈lpgs l l.a3.toNat↔l.R<=q/\q<l.R+l.a3:=λq=>by
  rw[dx];constructor
  ·rintro⟨j,n,rfl⟩;omega
  rintro⟨Z,q2⟩;exact⟨(q - l.R).toNat,ω,ω⟩
 have J:∀q,q∈lpgs (Ab.trimL l size) (Ab.trimL l size).a3.toNat↔l.R<=q/\q<l.R+(size+15) / 16:=λq=>by
  rw[dx];simp only[Ab.trimL];constructor
  ·rintro⟨j,n,rfl⟩;omega
  rintro⟨Z,q2⟩;exact⟨(q - l.R).toNat,ω,ω⟩
 have hpe:l.R+(size+15) / 16+(dD l size:Nat)=l.R+l.a3:=ω
 have P:∀q,q∈pgs h.K la↔q∈pgs h.K h.M/\¬(l.R+(size+15) / 16<=q/\q<l.R+(size+15) / 16+(dD l size:Nat)):=λq=>by
  rw[pT,pT,hpe];constructor
  ·rintro(⟨s,W,rfl⟩|⟨z,c,B⟩)
   ·exact⟨.inl ⟨s,W,rfl⟩,λe=>O s W l y (s.R - l.R).toNat ω ω⟩
   rcases d z c with rfl|⟨j,n,hjk,rfl⟩
   ·have:=(J q).1 B
    exact⟨.inr ⟨l,y,(D q).2 ⟨ω,ω⟩⟩,ω⟩
   refine⟨.inr ⟨_,am n,B⟩,λe=>?_⟩;obtain⟨m,hm,rfl⟩:=dx.1 B;exact hjk (G j n m ((nth h.M j).R+(m:Int) - l.R).toNat hm ω ω)
  rintro⟨⟨s,W,rfl⟩|⟨z,c,B⟩,hne⟩
  ·exact .inl ⟨s,W,rfl⟩
  obtain⟨j,n,rfl⟩:=aL c;by_cases e:j=k
  ·subst e
   rw[V]at B;have:=(D q).1 B;exact .inr ⟨_,p,(J q).2 ⟨ω,ω⟩⟩
  exact .inr ⟨_,u j n e,B⟩
 have K:∃o,(dD l size=0->o=h.u)/\(0<dD l size->dL (eY h) h.u ⟨l.R+(size+15) / 16,(dD l size:Nat)⟩ = some o)/\bC (eY h) o=true/\∀q,RH o q↔RH h.u q\/(l.R+(size+15) / 16<=q/\q<l.R+(size+15) / 16+(dD l size:Nat)):=by
  by_cases e:dD l size=0
  ·refine⟨h.u,λ_=>rfl,λg=>absurd g ω,t.rng,λq=>⟨.inl,λg=>g.resolve_right ω⟩⟩
  obtain⟨o,o1,o2,o3⟩:=uW (r:=⟨l.R+(size+15) / 16,(dD l size:Nat)⟩) t.rng ⟨by simp only;omega,by simp only;omega,by show l.R+(size+15) / 16+(dD l size:Nat)<=(eY h:Int);have:((tbl h).J.length:Int)=(eY h:Int):=rfl;omega⟩ λq Z q2=>by
   simp only at Z q2;obtain⟨m,rfl⟩:=X2 (show 0<=q by omega);have Q:m<(tbl h).J.length:=ω
   exact(t.pg.fre m Q).1 ((t.pg.own m Q).2 (gl y ((D _).2 ⟨ω,ω⟩)))
  exact⟨o,λg=>absurd g e,λ_=>o1,o2,o3⟩
 obtain⟨o,o0,o1,o2,o3⟩:=K;have R:=(fS h.G (l.R+(size+15) / 16) (dD l size)).1;have M:∀z∈h.O.set i {nth h.O i with q:=size},z = {nth h.O i with q:=size}\/∃j,j<h.O.length/\j≠i/\nth h.O j=z:=λz N=>dY N
 have F:(h.O.set i {nth h.O i with q:=size}).map (·.Addr)=h.O.map (·.Addr):=k7 T rfl;have S:(h.O.set i {nth h.O i with q:=size}).map (·.Id)=h.O.map (·.Id):=k7 T rfl;have hli:=(am T:nth h.O i∈h.O)
 generalize h.O.set i {nth h.O i with q:=size} = ob at M F S |-;refine⟨o,o0,o1,{t with
   ker:=iY t.ker _ _
   rng:=by show bC (((unmN h.G (l.R+(size+15) / 16) (dD l size)).F.Q.J.length:Nat):Int) o=true;rw[R];exact o2
   lay:=?_
   srl:=?_
   pg:=GU t (by have:((tbl h).J.length:Int)=(h.G.F.Q.J.length:Int):=rfl;omega) (List.Sublist.refl _) (λz c q B=>?_) ω P o3
   osr:=?_
   onu:=λz c=>?_
   oid:=by show(ob.map (·.Id)).Nodup;rw[S];exact t.oid
   oow:=λz c=>?_
   nd:=?_
   mem:=λb=>?_}⟩
 ·obtain⟨l1,l2,l3⟩:=dA t.lay
  unfold bn;simp only[I0,C0];refine⟨⟨l1,Z3.2 λz c=>?_⟩,l3.sublist w⟩;rcases d z c with rfl|⟨j,n,-,rfl⟩
  ·exact O0 ⟨N.1,by show size<=1000;omega,rfl,by show 0<=l.R;omega,by show l.R<=32 - (size+15) / 16;omega⟩
  exact U.lok _ (am n)
 ·have A:(h.M.map (·.R)).Pairwise (λa b=>a<b):=List.pairwise_map.2 t.srl
  rw[<-hpageM]at A;exact List.pairwise_map.1 A
 ·rcases d z c with rfl|⟨j,n,-,rfl⟩
  ·have:=(J q).1 B
   exact⟨l,y,(D q).2 ⟨ω,ω⟩⟩
  exact⟨_,am n,B⟩
 ·have A:(h.O.map (·.Addr)).Pairwise (λa b=>a<b):=List.pairwise_map.2 t.osr
  rw[<-F]at A;exact List.pairwise_map.1 A
 ·rcases M z c with rfl|⟨j,n,-,rfl⟩
  ·exact t.onu (nth h.O i) hli
  exact t.onu _ (am n)
 ·rcases M z c with rfl|⟨j,n,hji,rfl⟩
  ·exact .inr ⟨_,p,Y,rfl⟩
  rcases t.oow _ (am n) with A|⟨l',hl',e1,X⟩
  ·exact .inl A
  obtain⟨m,hm,rfl⟩:=aL hl';by_cases e:m=k
  ·subst e
   rw[V]at e1;exact absurd (cJ (f:=(·.Addr)) (df t.osr) n T (e1.trans Y.symm)) hji
  exact .inr ⟨_,u m hm e,e1,X⟩
 ·have hh:holders {h with G:=unmN h.G (l.R+(size+15) / 16) (dD l size),M:=la,O:=ob,u:=o} = holders h:=by
   show((ob.map (·.Addr)++cC h)++h.a9.a6.map (·.Addr))++aN h.y=_;rw[F];rfl
  rw[hh];exact t.nd
 have hh:holders {h with G:=unmN h.G (l.R+(size+15) / 16) (dD l size),M:=la,O:=ob,u:=o} = holders h:=by
  show((ob.map (·.Addr)++cC h)++h.a9.a6.map (·.Addr))++aN h.y=_;rw[F];rfl
 rw[hh,t.mem b];show m9 h.K h.M b↔m9 h.K la b;unfold m9;constructor
 ·rintro(A|⟨z,c,e⟩)
  ·exact .inl A
  obtain⟨j,n,rfl⟩:=aL c;by_cases X:j=k
  ·subst X
   rw[V]at e;exact .inr ⟨_,p,e⟩
  exact .inr ⟨_,u j n X,e⟩
 rintro(A|⟨z,c,e⟩)
 ·exact .inl A
 rcases d z c with rfl|⟨j,n,-,rfl⟩
 ·exact .inr ⟨l,y,e⟩
 exact .inr ⟨_,am n,e⟩
def kx(h:ab)(k:Nat)(size:Int):af:=zK h.G (16*(nth h.M k).R+size) (16*((size+15) / 16) - size).toNat
def Jw(h:ab)(k:Nat)(size:Int):List aA:=if 0<dD (nth h.M k) size then(dL (eY h) h.u ⟨(nth h.M k).R+(size+15) / 16,(dD (nth h.M k) size:Nat)⟩).getD h.u else h.u
def trimH(h:ab)(i k:Nat)(size:Int):ab:={h with G:=unmN (kx h k size) ((nth h.M k).R+(size+15) / 16) (dD (nth h.M k) size),M:=h.M.set k (trimL (nth h.M k) size),O:=h.O.set i {nth h.O i with q:=size},u:=Jw h k size}
theorem jX{h:ab}{E:List Int}(b:aX h E){k:Nat}(c:k<h.M.length){a:Int}(g:16*(nth h.M k).R<=a/\a<16*(nth h.M k).R+16*(nth h.M k).a3):(ac h.G.F.Q (a / 16)).j≠0:=by
 obtain⟨i,j⟩:=tJ b c;have l:=aP (b.L.lok _ (am c));have d:(a / 16)∈pgs h.K h.M:=gl (am c) (dx.2 ⟨(a / 16 - (nth h.M k).R).toNat,ω,ω⟩);have e:=b.pg.bnd _ d;have f:=(b.pg.own (a / 16).toNat ω).2 (by rw[show(((a / 16).toNat:Nat):Int)=a / 16 by omega];exact d);unfold ac;rw[C9 ⟨ω,e⟩];exact f
theorem x7{h:ab}{E:List Int}(b:aX h E){k:Nat}(c:k<h.M.length){size:Int}(d:9<=size/\size<=(nth h.M k).q):∀{m:Nat},m<=(16*((size+15) / 16) - size).toNat->a7 (zK h.G (16*(nth h.M k).R+size) m)=true:=fun {m} hm=>by
 have a:=b.L.lok _ (am c);unfold bJ at a;rw[C0]at a;exact MD b.ker λj e=>jX b c ⟨ω,ω⟩
theorem aX.trimH{h:ab}{i k:Nat}{size:Int}(d:aX h [])(A:i<h.O.length)(f:k<h.M.length)(B:(nth h.O i).Addr=16*(nth h.M k).R)(r:9<=size/\size<=(nth h.M k).q):aX (trimH h i k size) []/\JK h (trimH h i k size):=by
 have t:=x7 d f r (z3 _);have l:=(nk h.G (16*(nth h.M k).R+size) (16*((size+15) / 16) - size).toNat).1;have C:=d.cells t l;obtain⟨o,u,w,y⟩:=C.trimL (i:=i) (k:=k) (size:=size) A f B r;simp only at u w y;have n:eY {h with G:=zK h.G (16*(nth h.M k).R+size) (16*((size+15) / 16) - size).toNat} = eY h:=by
  unfold eY;simp only[l]
 have D:Jw h k size=o:=by
  unfold Jw;split
  ·rename_i g;have:=w g;rw[n]at this;rw[this];rfl
  exact(u ω).symm
 have E:Ab.trimH h i k size = {h with G:=unmN (kx h k size) ((nth h.M k).R+(size+15) / 16) (dD (nth h.M k) size),M:=h.M.set k (Ab.trimL (nth h.M k) size),O:=h.O.set i {nth h.O i with q:=size},u:=o}:=by unfold Ab.trimH;rw[D]
 refine⟨by rw[E];exact y,JK.less rfl rfl rfl λq j=>?_⟩;have a:=d.L.lok _ (am f);unfold bJ at a;rw[C0]at a;obtain⟨F,G⟩:=tJ d f;have b:(kx h k size).F.Q=h.G.F.Q:=l;have c:=mR (k:=kx h k size) t (p:=(nth h.M k).R+(size+15) / 16) ω (dD (nth h.M k) size) (by rw[b];have:((tbl h).J.length:Int)=(h.G.F.Q.J.length:Int):=rfl;unfold dD;omega) q;change (nth (unmN (kx h k size) ((nth h.M k).R+(size+15) / 16) (dD (nth h.M k) size)).F.Q.J q).j≠0 at j;show nth (unmN (kx h k size) ((nth h.M k).R+(size+15) / 16) (dD (nth h.M k) size)).F.Q.J q=nth h.G.F.Q.J q;rw[c]at j |-;split at j
 ·exact absurd rfl j
 rename_i e;rw[C8 e,b]
theorem Gm{t:Nat}(h:1<=t/\t<=4):bN (eD t)=true:=by
 have f:∀n,n<=t->bx (eD t) n=0:=λn=>by
  induction n with
  | zero=>intro _;rfl
  | succ n g=>
   intro j;have a:nth (eD t).U n=[]:=cN ω;have b:nth (eD t).a1 n=[]:=cN ω;simp only[bx,g ω,a,b,List.length_nil]
   decide
 have e:(eD t).U.length=t:=V3 ..;refine dP.2 ⟨⟨ω,ω,by simp[eD]⟩,λi c=>?_,by rw[e,f t (z3 _)];omega⟩;rw[e]at c;have a:nth (eD t).U i=[]:=cN c;have b:nth (eD t).a1 i=[]:=cN c;rw[a,b];exact⟨λp d=>(by cases d),λp d=>(by cases d)⟩
theorem uV(t:Nat):aN (eD t)=[]:=by
 unfold aN;split
 ·simp[eD]
 rfl
def rq(k:af)(t:Nat)(sd ck lim:Int):ab:=⟨k,[⟨0,(k.F.Q.J.length:Nat)⟩],[],[],[],List.replicate t fN,eD t,⟨16,[]⟩,sd,ck,lim,1,false,⟨⟨0,0,[]⟩,0,0⟩⟩
theorem DO:bA fN=true:=by decide
theorem aX.fresh{k:af}{t:Nat}{lim sd ck:Int}(A:a7 k=true)(B:∀q,q<k.F.Q.J.length->(nth k.F.Q.J q).j=0)(E:1<=t/\t<=4)(g:0<=lim/\lim<=1000)(h:0<=sd/\sd<=1073741823)(d:0<=ck/\ck<=1000000):aX (rq k t sd ck lim) []:=by
 obtain⟨G,H,J⟩:=bv.1 (aB.1 A).2.2.1;have hca:cC (rq k t sd ck lim)=[]:=by
  unfold cC;refine List.flatMap_eq_nil_iff.2 λc d=>?_
  rw[(List.mem_replicate.1 d).2]
  rfl
 have C:holders (rq k t sd ck lim)=[]:=by
  unfold holders;rw[hca];show(([]++[])++[])++aN (eD t)=[];rw[uV];rfl
 have i:∀a,¬m9 (rq k t sd ck lim).K (rq k t sd ck lim).M a:=λa=>by
  rintro(⟨s,h,-⟩|⟨l,g,-⟩)
  ·cases h
  cases g
 exact {
   ker:=A
   rng:=gd.2 ⟨⟨List.pairwise_singleton ..,λy n=>by rw[I1.1 n];show(1:Int)<=(k.F.Q.J.length:Nat);omega⟩,λy n=>by
       rw[I1.1 n];refine⟨Y4 _,by show(1:Int)<=(k.F.Q.J.length:Nat);omega,?_⟩;show(0:Int)+(k.F.Q.J.length:Nat)<=(k.F.Q.J.length:Nat);omega,by show(1:Int)<=(k.F.Q.J.length:Nat);omega,by show((k.F.Q.J.length:Nat):Int)<=32;omega⟩
   lay:=by show bn [] []=true;decide
   srs:=List.Pairwise.nil
   srl:=List.Pairwise.nil
   pg:=⟨λl g=>(by cases g),λp f=>(by cases f),λp f=>⟨λe=>absurd (B p f) e,λe=>by cases e⟩,λp f=>⟨λe=>absurd (B p f) e,λe=>absurd ⟨_,I1.2 rfl,by show(0:Int)<=p;omega,by
       show(p:Int)<0+(k.F.Q.J.length:Nat);have F:p<k.F.Q.J.length:=f;omega⟩ e⟩,λs h=>by cases h⟩
   mail:=Gm E
   nc:=by show(List.replicate t fN).length=(List.replicate t _).length;simp
   quar:=by show gv ⟨16,[]⟩ = true;decide
   snc:=λx r=>by cases r
   cach:=λc d=>by rw[(List.mem_replicate.1 d).2];exact DO
   nums:=by unfold cj;rw[C0];simp only[rq];omega
   osr:=List.Pairwise.nil
   onu:=λo u=>by cases u
   oid:=List.nodup_nil
   oow:=λo u=>by cases u
   hca:=λc d j D a b=>by
     rw[(List.mem_replicate.1 d).2]at D b;have w:j<4:=D;have:nth fN.b j=[]:=cN w;rw[this]at b;cases b
   hqu:=λx r=>by cases r
   hfl:=λa b=>by
     have:aN (eD t)=[]:=uV t;change a∈aN (eD t) at b;rw[this]at b;cases b
   hin:=λa b=>by cases b
   nd:=by rw[C];exact List.nodup_nil
   mem:=λa=>by rw[C];exact⟨λe=>(by cases e),λe=>absurd e (i a)⟩
   job:=λe=>by cases e
   noj:=λ_=>by show rJ ⟨⟨0,0,[]⟩,0,0⟩ = true;decide}
theorem JI.no{h:ab}(a:h.o=false):JI h:=⟨λe=>(by rw[a]at e;cases e),λe=>(by rw[a]at e;cases e),λe=>(by rw[a]at e;cases e),λe=>(by rw[a]at e;cases e)⟩
theorem qr{p f:Nat}{a:List Int}(d:1<=p/\p<=32)(e:1<=f/\f<=32)(b:a.length<=40/\∀x∈a,0<=x):a7 (bK p f a)=true:=by
 obtain⟨-,g,h,i,c⟩:=aB.1 (BH d e);exact aB.2 ⟨λj k=>b.2 _ (am k),g,h,i,c.1,c.2.1,b.1⟩
theorem Et{p f t:Nat}{lim:Int}{a:List Int}(c:1<=p/\p<=32)(d:1<=f/\f<=32)(g:1<=t/\t<=4)(i:0<=lim/\lim<=1000)(j:a.length<=40/\∀x∈a,0<=x):aX (newHeap p f t lim a) []:=by
 have h:=aX.fresh (k:=bK p f a) (t:=t) (lim:=lim) (sd:=0) (ck:=0) (qr c d j) (λq l=>by
   have b:q<p:=by simpa[bK,eS] using l
   rw[show nth (bK p f a).F.Q.J q = ⟨0,0⟩ from cN b]) g i ω ω
 have e:(bK p f a).F.Q.J.length=p:=by simp[bK,eS]
 unfold rq at h;rw[e]at h;exact h
structure eI where
 b6:Int
 a4:Int
 N:Int
 At:Int
 Value:Int
deriving DecidableEq,Inhabited
def eI.enc(_:dQ)(x:eI):List C:=[I x.b6,I x.a4,I x.N,I x.At,I x.Value]
def ns(id:Int)(o:bD):Bool:=decide (o.Id=id)
def oz(r:ay)(id:Int):Int:=d9 (ns id) r.O
def jm(r:ay)(n:Int):ay:=if 1<=n/\n<=1000 then {r with a:=r.a+1,O:=r.O++[⟨r.a,List.replicate n.toNat 0⟩]} else r
def jK(r:ay)(id:Int):ay:=if oz r id<0 then r else {r with O:=dele r.O (oz r id).toNat}
def eH(r:ay)(id at_ v:Int):ay:=if 0<=oz r id/\(0<=at_/\at_<=(nth r.O (oz r id).toNat).S.length - 1)/\0<=v/\v<=999 then {r with O:=r.O.set (oz r id).toNat ⟨(nth r.O (oz r id).toNat).Id,(nth r.O (oz r id).toNat).S.set at_.toNat v⟩} else r
def fG(r:ay)(id n:Int):ay:=if 0<=oz r id/\1<=n/\n<=(nth r.O (oz r id).toNat).S.length then {r with O:=r.O.set (oz r id).toNat ⟨(nth r.O (oz r id).toNat).Id,(nth r.O (oz r id).toNat).S.take n.toNat⟩} else r
structure th(r:ay)(m:Nat):Prop where
 len:r.O.length<=m
 cel:∀o∈r.O,o.S.length<=1000
 nx:0<=r.a/\r.a<=m+1
theorem th.more{r:ay}{m n:Nat}(h:th r m)(a:m<=n):th r n:=⟨by have:=h.len;omega,h.cel,h.nx.1,by have:=h.nx.2;omega⟩
theorem th.sml{r:ay}{m:Nat}(h:th r m)(b:m<=1000):ay.sml r:=⟨by have:=h.len;omega,λo a=>by have:=h.cel o a;show o.S.length<=1048576;omega⟩
theorem th.alloc{r:ay}{m:Nat}(h:th r m)(n:Int):th (jm r n) (m+1):=by
 unfold jm;split
 ·refine⟨by have:=h.len;simp only[I3,List.length_singleton];omega,λo a=>?_,by have:=h.nx.1;simp only;omega,by have:=h.nx.2;simp only;omega⟩
  rcases Z2.1 a with a|a
  ·exact h.cel o a
  rw[I1.1 a];simp only[V3];omega
 exact h.more ω
theorem th.free{r:ay}{m:Nat}(h:th r m)(id:Int):th (jK r id) m:=by
 unfold jK;split
 ·exact h
 have a:=fR r.O (oz r id).toNat;exact⟨W4 a.length_le h.len,λo b=>h.cel o (a.subset b),h.nx⟩
theorem th.set{r:ay}{m i:Nat}{x:bD}(h:th r m)(b:x.S.length<=1000):th {r with O:=r.O.set i x} m:=
 ⟨by simp only[O1];exact h.len,λo a=>by
   rcases C6 a with a|rfl
   · exact h.cel o a
   exact b,h.nx⟩
theorem fJ{α:Type}[Inhabited α](p:α->Bool)(xs:List α)(h:0<=d9 p xs):(d9 p xs).toNat<xs.length/\p (nth xs (d9 p xs).toNat)=true/\d9 p xs=((d9 p xs).toNat:Nat):=by
 rcases lR p xs with e|⟨n,a,e,b⟩
 ·omega
 rw[e,W2];exact⟨a,b,rfl⟩
theorem th.store{r:ay}{m:Nat}(h:th r m)(id a v:Int):th (eH r id a v) m:=by
 unfold eH;split
 ·rename_i e
  refine h.set ?_;simp only[O1];exact h.cel (nth r.O (oz r id).toNat) (am (fJ _ _ e.1).1)
 exact h
theorem th.trim{r:ay}{m:Nat}(h:th r m)(id n:Int):th (fG r id n) m:=by
 unfold fG;split
 ·rename_i e
  refine h.set ?_;have:=h.cel (nth r.O (oz r id).toNat) (am (fJ _ _ e.1).1);simp only[U1];omega
 exact h
def ME(id:Int)(o:bu):Bool:=decide (o.Id=id)
def qB(h:ab)(id:Int):Int:=d9 (ME id) h.O
def Ju(a:Int)(l:a8):Bool:=decide (l.R*16=a)
def yU(h:ab)(a:Int):Int:=d9 (Ju a) h.M
def nl(h:ab)(a:eI):Prop:=0<=a.a4/\a.a4<=h.T.length - 1
instance (h:ab) (a:eI):Decidable (nl h a):=by unfold nl;infer_instance
def pM(w:bk)(a:eI)(i:Nat):bk × Int:=
 if w.Z.G.Calls=100000 then(w,6)
 else if nl w.Z a then(⟨(freeT w.Z a.a4.toNat i).1,if(freeT w.Z a.a4.toNat i).2=0 then jK w.b5 (nth w.Z.O i).Id else w.b5⟩,(freeT w.Z a.a4.toNat i).2)
 else(w,1)
def mC(w:bk)(a:eI)(i:Nat):bk × Int:=
 if ¬(0<=a.At/\a.At<=(nth w.Z.O i).q - 1) then(w,90)
 else if(ac w.Z.G.F.Q (((nth w.Z.O i).Addr+a.At) / 16)).j=1 then(w,2)
 else if ¬(0<=a.Value/\a.Value<=999) then(w,3)
 else(⟨{w.Z with G:=dI w.Z.G ((nth w.Z.O i).Addr+a.At) a.Value},eH w.b5 (nth w.Z.O i).Id a.At a.Value⟩,0)
def lP(h:ab)(i:Nat)(n:Int):Prop:=0<=yU h (nth h.O i).Addr/\9<=n/\n<=(nth h.M (yU h (nth h.O i).Addr).toNat).q
instance (h:ab) (i:Nat) (n:Int):Decidable (lP h i n):=by unfold lP;infer_instance
def pW(w:bk)(a:eI)(i:Nat):bk × Int:=
 if w.Z.G.Calls≠100000/\lP w.Z i a.Value then(⟨trimH w.Z i (yU w.Z (nth w.Z.O i).Addr).toNat a.Value,fG w.b5 (nth w.Z.O i).Id a.Value⟩,0) else(w,90)
def m6(w:bk)(a:eI)(i:Nat):bk × Int:=if a.b6=2 then pM w a i else if a.b6=3 then mC w a i else pW w a i
def fI(h:ab)(a:eI):ab × Int:=
 if a.b6=5 then(if nl h a/\0<(nth h.y.U a.a4.toNat).length then({h with y:=gf h.y a.a4.toNat},0) else(h,90))
 else if ¬(h.G.Calls≠100000/\nl h a) then(h,0)
 else if a.b6=6 then(collect h a.a4.toNat,((nth h.y.a1 a.a4.toNat).length:Nat))
 else((flushN a.a4.toNat h 4).1,((flushN a.a4.toNat h 4).2:Nat))
def nw(h:ab)(n:Int):ab × Int:=if h.G.Calls≠100000/\(0<=n/\n<=1000)/\h.b3+n<=1000000 then(tick h n,((nA h n).length:Nat)) else(h,0)
def rT(h:ab):Bool:=h.o&&decide (h.G.Calls<=99000)
def stN(h:ab):Nat->ab × Nat
 | 0=>(h,0)
 | i+1=>if rT (stN h i).1=true then(mStep (stN h i).1,(stN h i).2+1) else stN h i
def np(h:ab):ab × Int:=if h.o=true then(h,90) else((started h).1,if(started h).2=true then 0 else 90)
def lU(w:bk)(a:eI):bk × Int:=
 if a.b6=1 then(⟨(allocH w.Z a.a4 a.N).1,if(allocH w.Z a.a4 a.N).2.2=0 then jm w.b5 a.N else w.b5⟩,(allocH w.Z a.a4 a.N).2.2)
 else if a.b6=2\/a.b6=3\/a.b6=4 then(if qB w.Z a.N<0 then(w,90) else m6 w a (qB w.Z a.N).toNat)
 else if a.b6=5\/a.b6=6\/a.b6=7 then(⟨(fI w.Z a).1,w.b5⟩,(fI w.Z a).2)
 else if a.b6=8 then(⟨(nw w.Z a.N).1,w.b5⟩,(nw w.Z a.N).2)
 else if a.b6=9 then(⟨(np w.Z).1,w.b5⟩,(np w.Z).2)
 else if a.b6=10/\0<=a.N/\a.N<=50 then(⟨(stN w.Z a.N.toNat).1,w.b5⟩,((stN w.Z a.N.toNat).2:Nat))
 else(w,90)
structure rG(w:bk)(m:Nat):Prop where
 inv:aX w.Z []
 ji:JI w.Z
 ref:th w.b5 m
theorem rG.more{w:bk}{m n:Nat}(h:rG w m)(a:m<=n):rG w n:=⟨h.inv,h.ji,h.ref.more a⟩
theorem rG.jk{w:bk}{m:Nat}(h:rG w m){g:ab}{r:ay}(a:aX g []/\JK w.Z g)(b:th r m):rG ⟨g,r⟩ m:=⟨a.1,h.ji.keep a.1 a.2,b⟩
theorem cL{h:ab}{E:List Int}(a:aX h E){o:bu}(p:o∈h.O){k:Int}(D:0<=k/\k<=o.q - 1):(ac h.G.F.Q ((o.Addr+k) / 16)).j≠0/\0<=o.Addr/\o.Addr+k<512:=by
 rcases a.oow o p with⟨s,g,q,r⟩|⟨l,i,F,G⟩
 ·have b:=a.L.sok s g
  have t:=aF b;obtain⟨u,w,y⟩:=a.mapped g;have d:=bO t.2.2;obtain⟨H,J,A,-⟩:=q;have f:o.q<=csz s.d:=by
   have K:=iA (n:=o.q) ω;rw[r];have:o.q=1\/o.q=2\/o.q=3\/o.q=4\/o.q=5\/o.q=6\/o.q=7\/o.q=8:=ω
   rcases this with e|e|e|e|e|e|e|e<;>rw[e]<;>decide
  have B:(o.Addr+k) / 16=s.R:=by
   rcases d with e|e|e|e<;>rw[e]at A f<;>omega
  rw[B];refine⟨?_,ω,ω⟩;unfold ac;rw[C9 ⟨u,w⟩];exact y
 obtain⟨j,C,rfl⟩:=aL i;have c:=a.L.lok _ i;unfold bJ at c;rw[C0]at c;exact⟨jX a C ⟨ω,ω⟩,ω,ω⟩
theorem rG.obj{w:bk}{m:Nat}(h:rG w m)(a:eI){i:Nat}(b:i<w.Z.O.length):rG (m6 w a i).1 m:=by
 unfold m6;split
 ·unfold pM
  split
  ·exact h
  split
  ·rename_i d
   unfold nl at d;refine h.jk (h.inv.freeT b ω) ?_;split
   ·exact h.ref.free _
   exact h.ref
  exact h
 split
 ·unfold mC
  split
  ·exact h
  rename_i l;split
  ·exact h
  split
  ·exact h
  rename_i n;exact h.jk (h.inv.store (cL h.inv (am b) ω).1 ω) (h.ref.store _ _ _)
 unfold pW;split
 ·rename_i e
  obtain⟨-,f,g⟩:=e;obtain⟨j,k,o⟩:=fJ _ _ f;have c:=of_decide_eq_true k;exact h.jk (h.inv.trimH b j (c.symm.trans (Int.mul_comm _ _)) g) (h.ref.trim _ _)
 exact h
theorem rG.thread{w:bk}{m:Nat}(h:rG w m)(a:eI):rG ⟨(fI w.Z a).1,w.b5⟩ m:=by
 unfold fI;split
 ·split
  ·rename_i e
   obtain⟨b,i⟩:=e;unfold nl at b;exact h.jk (g:={w.Z with y:=gf w.Z.y a.a4.toNat}) ⟨h.inv.deliv (by rw[<-h.inv.nc];omega) i,JK.eq rfl rfl rfl rfl⟩ h.ref
  exact h
 split
 ·exact h
 rename_i e;have e:=Classical.not_not.1 e;obtain⟨-,b⟩:=e;unfold nl at b;split
 ·exact h.jk (g:=collect w.Z a.a4.toNat) (h.inv.collect ω) h.ref
 have c:a.a4.toNat<w.Z.T.length:=ω
 have d:=(jD h.inv c (z3 4)).1;have f:=JK.flushN h.inv c (z3 4);generalize flushN a.a4.toNat w.Z 4=r at d f |-;exact h.jk (g:=r.1) ⟨d,f⟩ h.ref
theorem u5{h:ab}(a:aX h [])(b:JI h):∀n,aX (stN h n).1 []/\JI (stN h n).1
 | 0=>⟨a,b⟩
 | n+1=>by
  obtain⟨c,d⟩:=u5 a b n;unfold stN;split
  ·rename_i e
   unfold rT at e;rw[I0]at e;exact c.mStep d e.1
  exact⟨c,d⟩
theorem rG.act{w:bk}{m:Nat}(h:rG w m)(a:eI):rG (lU w a).1 (m+1):=by
 unfold lU;split
 ·have b:=Ah (t:=a.a4) (size:=a.N) h.inv
  refine⟨b.1,h.ji.keep b.1 b.2,?_⟩;show th (if _ then _ else _) (m+1);split
  ·exact h.ref.alloc _
  exact h.ref.more ω
 refine rG.more (m:=m) ?_ ω;split
 ·split
  ·exact h
  rename_i e;exact h.obj a (fJ _ _ (by unfold qB at e;omega)).1
 split
 ·exact h.thread a
 split
 ·unfold nw
  split
  ·rename_i e
   exact h.jk (h.inv.tick e.2.1.1 e.2.2) h.ref
  exact h
 split
 ·unfold np
  split
  ·exact h
  rename_i e;have b:=wy h.inv (by simpa using e);exact⟨b.1,b.2,h.ref⟩
 split
 ·have b:=u5 h.inv h.ji a.N.toNat
  exact⟨b.1,b.2,h.ref⟩
 exact h
structure cF where
 a3:Nat
 W:Nat
 c7:Nat
 c3:Int
 a0:List Int
deriving Inhabited
structure EK(c:cF):Prop where
 p:1<=c.a3/\c.a3<=32
 f:1<=c.W/\c.W<=32
 t:1<=c.c7/\c.c7<=4
 l:0<=c.c3/\c.c3<=1000
 r:c.a0.length<=40/\∀x∈c.a0,0<=x
def world0(c:cF):bk:=⟨newHeap c.a3 c.W c.c7 c.c3 c.a0,{a:=1,O:=[]}⟩
def yH(c:cF)(acts:List eI):Nat->bk × List Int
 | 0=>(world0 c,[])
 | i+1=>((lU (yH c acts i).1 (nth acts i)).1,(yH c acts i).2++[(lU (yH c acts i).1 (nth acts i)).2])
theorem K8{c:cF}(h:EK c):rG (world0 c) 0:=
 ⟨Et h.p h.f h.t h.l h.r,JI.no rfl,⟨z3 _,λo a=>(by cases a),by show(0:Int)<=1;omega,by show(1:Int)<=((0:Nat):Int)+1;omega⟩⟩
theorem uv{c:cF}(h:EK c)(acts:List eI):∀n,rG (yH c acts n).1 n
 | 0=>K8 h
 | n+1=>(uv h acts n).act _
theorem ab.enc_fzi(h:ab):eB (ab.enc .X h)=ab.enc .X h:=by rw[<-ab.enc_fz h,pK]
theorem Qx{h:ab}(f:dy h=true){z:Int}{k:Nat}(b:k<h.O.length):(nth h.O k).Id=z↔d9 (fh z) h.O=(k:Nat):=by
 constructor
 ·rintro rfl
  refine dE (ao b) (by unfold fh;simp) λj y i c=>?_
  have a:=(I2.1 c).1;have:=Mb f a b ω;rw[bm c]at this;unfold fh;exact T0 this
 intro e;rcases lR (fh z) h.O with g|⟨n,l,g,d⟩
 ·omega
 obtain rfl:n=k:=ω
 unfold fh at d;simpa using d
theorem tP{h:ab}(a:dy h=true){i:Nat}(b:i<h.O.length):0<=(nth h.O i).Addr/\(nth h.O i).Addr<=2000/\1<=(nth h.O i).q/\(nth h.O i).q<=1000:=by
 obtain⟨g,j,c,d,e,f,-⟩:=B1 a b;exact⟨c,d,e,f⟩
def io(h:ab)(k:Nat):List Int:=cellsOf h.G (nth h.O k).Addr (nth h.O k).q.toNat
theorem Dy{h:ab}(a:dy h=true){k:Nat}(b:k<h.O.length):(io h k).length<=1000:=by
 have:=tP a b;unfold io;rw[gG];omega
theorem y8(o:bu)(z:Int):ar Tryz.prog 86 false [.val (some 4) (bu.enc .X o),.ptr [I z]] .one [B (fh z o)]:=by
 refine fO 8 [] Tryz.func86 rfl ?_
 repeat'(first|refine gO ?_|fail)
 exact W0 (λz=>[B z]) ((by unfold fh;rw[V4];simp))
theorem DT(h:ab)(z:Int)(n:Nat)(b:ab.sml h)(a:dy h=true)(c:n<h.O.length)(g:d9 (fh z) h.O=(n:Nat)):ar Tryz.prog 29 false [.val (some 24) (ab.enc .X h),.val none [I z]] (.tup [none,none]) [.s .own ((io h n).map (rI .own)),B true]:=by
 have d:=iJ h b;rw[kS,a]at d;have i:h.O.length<=1048576:=b.2.2.2.2.1.1;have p:=tP a c;have j:=BY h (nth h.O n).Addr (nth h.O n).q (rO a) ω ω;have l:=ao c;have e:=qJ h.O (fh z) ω;rw[g]at e;refine fO 32 [(4,13,[18,19,20,21,22,23,24,25,26,27,28,29,30])] Tryz.func29 rfl ?_ (.inr ⟨⟨.inl λh=>(by cases h),bg _ _ λy _=>nY y⟩,trivial,trivial⟩)
 repeat'(first|refine gD ?_|(conv=>whnf);first|with_reducible refine CC (aa l) ?_|refine Cq.mk (zC (some 4) (bu.enc .X) (fh z) h.O) (y8 default z).has (λL k rcs o=>?_) ?_|refine C7 (e) ?_|refine C7 (d) ?_|refine C7 (j) ?_)
 ·obtain⟨y,-,rfl,rfl,rfl⟩:=o
  exact y8 y z
 rfl
end Go.Proofs.YtecefhjnejfheaaGreat.Ab
