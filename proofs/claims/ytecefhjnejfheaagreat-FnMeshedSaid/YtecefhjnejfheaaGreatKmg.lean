/- Kernel calls: the program's. No condition. -/
import Derived.Test.YtecefhjnejfheaaGreatKmd
import Derived.Test.YtecefhjnejfheaaGreatKmf
import Derived.Test.YtecefhjnejfheaaGreatKme
set_option linter.unusedVariables false
set_option linter.defProp false
set_option linter.unusedSimpArgs false
set_option linter.constructorNameAsVariable false
namespace Go.Proofs.YtecefhjnejfheaaGreat.Ab
open Go.RowKit
set_option maxRecDepth 20000
set_option maxHeartbeats 4000000
def GG(xs:List Int)(x:Int)(h:xs.length<=4611686018427387904):ar Tryz.prog 395 false [.val none (aD .X xs),.val none [I x]] .one [I (dH (λy=>decide (y=x)) xs)]:=by
 refine fO 19 [] Tryz.func395 rfl ?_
 repeat'(first|refine gP ?_|(conv=>whnf);refine CC ?_)
 (conv=>whnf)
 refine CF (ι:=Nat) (λi=>[(0,.H .one (aD .X xs)),(1,.H .one [I (x)]),(7,.H .one [I (xs.length)]),(8,.H .one [I ((i:Nat):Int)])]) (λi=>i<=xs.length/\∀(j:Nat)(z:Int),j<i->xs[j]? = some z->decide (z=x)=false) (λi=>xs.length - i) (0) ?_ (⟨W0 _,λj z d _=>absurd d (Nat.not_lt_zero _)⟩) λi c=>?_
 ·exact wB
 obtain⟨c,b⟩:=c;by_cases g:i<xs.length
 ·have a:=ao g
  by_cases e:nth xs i=x
  ·repeat'(first|refine gE ?_|(conv=>whnf);refine Bf.t (by simp[e]) ?_)
   exact X0 (λz=>[I z]) (dI a (O0 e) b).symm
  repeat'(first|refine gE ?_|(conv=>whnf);refine Bf.f (by simp[Ne.symm e]) ?_)
  ((conv=>whnf);refine CE (i+1) ⟨ω,dz a (U0 e) b⟩ ω ?_;(exact wB))
 repeat'(first|refine gE ?_|(conv=>whnf);refine CC ?_)
 exact X0 (λz=>[I z]) (gv ω b).symm
def zJ(xs:List Int)(x:Int)(a:xs.length<=4611686018427387904):ar Tryz.prog 257 false [.val none (aD .X xs),.val none [I x]] .one [B (decide (x∈xs))]:=by
 refine fO 9 [] Tryz.func257 rfl ?_
 repeat'(first|refine gP ?_|(conv=>whnf);refine C8 (GG xs x a) ?_)
 exact X0 (λz=>[B z]) ((by rw[jC];rw[Y4];simp))
def bZ(k:af):af:={k with Calls:=k.Calls+1}
def refd(k:af):Bool:=decide (k.Calls∈k.w)
def se(k:af)(a:af.sml k)(d:0<=k.Calls/\k.Calls<=100000):ar Tryz.prog 462 false [.val (some 5) (af.enc .X k)] (.tup [some 5,none]) (af.enc .own (bZ k)++[B (!refd k)]):=by
 have c:=iD k a;have g:k.w.length<=1048576:=a.2;have b:=zJ k.w k.Calls ω;unfold refd;cases e:decide (k.Calls∈k.w)<;>rw[e]at b
 all_goals
  refine fO 18 [(3,263,[11,12,13,14,15,16,17,0,1,2,3,4,5,6,7,1006,8])] Tryz.func462 rfl ?_ (.inr (aI (Cb _) ⟨trivial,trivial⟩))
  repeat'(first|refine gP ?_|(conv=>whnf);first|refine CC ?_|refine C8 (c) ?_|refine C8 (b) ?_|refine CC ?_)
  rfl
def jB(k:af)(p:Int)(m:Int):af:={k with F:=⟨k.F.V,⟨k.F.Q.J.set p.toNat {nth k.F.Q.J p.toNat with j:=m}⟩⟩}
def fk(k:af)(p m:Int):af × Bool:=if refd k=true then(bZ k,false) else(jB (bZ k) p m,true)
def uX(k:af)(p m:Int):af.enc .own (jB k p m)=(af.enc .own k).set 2 (.s .own ((k.F.Q.J.map (bh.enc .own)).set p.toNat (bh.enc .own {nth k.F.Q.J p.toNat with j:=m}))):=by
 simp[af.enc,jB,I6]
def qG(k:af)(p m:Int)(b:ay k=true)(n:k.Calls≠100000)(j:(ac k.F.Q p).j≠0)(a:m=1\/m=2):ar Tryz.prog 427 false [.val (some 5) (af.enc .X k),.val none [I p],.val none [I m]] (.tup [some 5,none]) (af.enc .own (fk k p m).1++[B (fk k p m).2]):=by
 have c:=bk b;have o:=(a8.1 b).2.2.2;have d:=kO k c;rw[b,O0 n]at d;have g:=se k c ⟨ω,ω⟩;have h:=ge k p c.1.2;rw[O0 j]at h;obtain⟨q,r,t⟩:=bI b j;have l:=ao (xs:=k.F.Q.J) (i:=p.toNat) ω;unfold fk;cases e:refd k<;>rw[e]at g
 ·rw[C9 (by simp),uX]
  rcases a with rfl|rfl
  all_goals
   refine fO 46 [] Tryz.func427 rfl ?_ (.inr (aI (by rw[<-uX];exact Cb _) ⟨trivial,trivial⟩))
   repeat'(first|refine gP ?_|(conv=>whnf);first|refine CM q (aa l) ?_|refine CQ rfl rfl (aa l) rfl (I1 rfl) rfl ?_)
   rfl
 rw[CB rfl];rcases a with rfl|rfl
 all_goals
  refine fO 46 [] Tryz.func427 rfl ?_ (.inr (aI (Cb _) ⟨trivial,trivial⟩))
  repeat'(first|refine gP ?_|(conv=>whnf);first|refine CC ?_|refine C8 (d) ?_|refine C8 (g) ?_|refine C8 (h) ?_)
  rfl
def row16{k:af}(a:ay k=true){f:Nat}(b:f<k.F.V.S.length):(nth k.F.V.S f).length=16:=by
 have:=(aS.1 (a8.1 a).2.1).2.2.2 f b;unfold gY at this;simp only[I0,C0]at this;omega
def setCell(k:af)(f:Nat)(c v:Int):af:={k with F:=⟨⟨k.F.V.S.set f ((nth k.F.V.S f).set c.toNat v),k.F.V.a3⟩,k.F.Q⟩}
def vT(k:af)(f:Nat)(c v:Int):af.enc .own (setCell k f c v)=(af.enc .own k).set 0 (.s .own ((k.F.V.S.map (aD .own)).set f [.s .own (((nth k.F.V.S f).map (rI .own)).set c.toNat [I v])])):=by
 simp[af.enc,setCell,I6,aD,rI]
def b8(k:af)(p:Int):Nat:=(ac k.F.Q p).e.toNat
def oB(k:af)(a b c:Int):af:=setCell k (b8 k b) c (nth (nth k.F.V.S (b8 k a)) c.toNat)
def JT(k:af)(a b c:Int):Nat->af
 | 0=>k
 | _+1=>oB k a b c
def GJ(k:af)(a b c:Int)(d:ay k=true)(C:k.Calls≠100000)(q:(ac k.F.Q a).j≠0)(r:(ac k.F.Q b).j≠0)(e:0<=c/\c<=15):ar Tryz.prog 428 false [.val (some 5) (af.enc .X k),.val none [I a],.val none [I b],.val none (aD .X [c])] (.tup [some 5,none]) (af.enc .own (oB k a b c)++[B true]):=by
 have h:=bk d;have t:=kO k h;rw[d,O0 C]at t;have D:=iD k h;have u:=ge k a h.1.2;have w:=ge k b h.1.2;rw[O0 q]at u;rw[O0 r]at w;have E:=dD k.F.Q a h.1.2;have F:=dD k.F.Q b h.1.2;have y:=Ba c;rw[O0 e]at y;obtain⟨-,-,-,G,K⟩:=bI d q;obtain⟨-,-,-,H,L⟩:=bI d r;have J:=(aS.1 (a8.1 d).2.1).2.2.1;have M:=row16 d (f:=b8 k a) (by unfold b8;omega);have N:=row16 d (f:=b8 k b) (by unfold b8;omega);have l:k.F.V.S[(ac k.F.Q a).e.toNat]? = some (nth k.F.V.S (b8 k a)):=ao ω;have g:k.F.V.S[(ac k.F.Q b).e.toNat]? = some (nth k.F.V.S (b8 k b)):=ao ω;have o:=ao (xs:=nth k.F.V.S (b8 k a)) (i:=c.toNat) ω;have n:=ao (xs:=nth k.F.V.S (b8 k b)) (i:=c.toNat) ω;have p:[c][0]? = some c:=rfl;refine fO 77 [(4,268,[33,34,35,36,37,38,39,40,41,42,43,44,0,1,2,3,4,5,6,7,8,9,10,11,12,1011,13]),(10,18,[56,57,58,59,60,61,62,63,64,65,66,67,68,69,70,71,72,73])] Tryz.func428 rfl ?_ (.inr (aI (Cb _) ⟨trivial,trivial⟩))
 repeat'(first|refine gP ?_|(conv=>whnf);first|refine CC ?_|refine C8 (t) ?_|refine C8 (D) ?_|refine C8 (u) ?_|refine C8 (w) ?_|refine C8 (E) ?_|refine C8 (F) ?_|refine CC ?_)
 (conv=>whnf)
 refine CF (ι:=Nat) (λj=>[(4,.H .box (af.enc .X k)),(8,.H .box (af.enc .own ⟨⟨⟨[],[]⟩,⟨[]⟩⟩,0,[]⟩)),(10,.H .box (af.enc .own (JT k a b c j))),(11,.H .one [I ((ac k.F.Q a).e)]),(12,.H .one [I ((ac k.F.Q b).e)]),(45,.H .one (aD .X [c])),(46,.H .one [I (1)]),(47,.H .one [I ((j:Nat):Int)])]) (λj=>j<=1) (λj=>1 - j) (0) ?_ (W0 _) λj O=>?_
 ·exact wB
 by_cases P:j<1
 ·obtain rfl:j=0:=ω
  repeat'(first|refine gE ?_|(conv=>whnf);first|refine CM G (aa l) ?_|refine CM H (aa g) ?_|refine CM e.1 (aa o) ?_|refine CM e.1 (aa n) ?_|refine Pu.two rfl rfl (aa g) rfl rfl rfl (aa n) rfl (C3 _) rfl ?_)
  ((conv=>whnf);refine CE 1 ω ω ?_)
  rw[show JT k a b c 1=oB k a b c from rfl];unfold oB;rw[vT];exact wB
 obtain rfl:j=1:=ω
 repeat'(first|refine gE ?_|(conv=>whnf);refine CC ?_)
 rfl
def uZ(k:af)(p:Nat)(e:bh):af:={k with F:=⟨k.F.V,⟨k.F.Q.J.set p e⟩⟩}
def FA(k:af)(p:Nat)(e:bh):af.enc .own (uZ k p e)=(af.enc .own k).set 2 (.s .own ((k.F.Q.J.map (bh.enc .own)).set p (bh.enc .own e))):=by
 simp[af.enc,uZ,I6]
def EP{k:af}(p:Nat)(e:bh)(h:aG.sml k.F.Q):aG.sml (uZ k p e).F.Q:=by
 refine⟨?_,λx _=>trivial⟩;show(k.F.Q.J.set p e).length<=_;rw[U1];exact h.1
def qV(k:af)(p o:Int):af × Bool:=if refd k=true then(bZ k,false) else(gg (uZ (bZ k) p.toNat ⟨2,(nth k.F.Q.J o.toNat).e⟩) (nth k.F.Q.J p.toNat).e,true)
def fI(m:aR)(a v:Int):aR × Int:=
 if(ac m.Q (a / 16)).j=0 then(m,1) else if(ac m.Q (a / 16)).j=1 then(m,2) else
 (⟨⟨m.V.S.set (ac m.Q (a / 16)).e.toNat ((nth m.V.S (ac m.Q (a / 16)).e.toNat).set (a % 16).toNat v),m.V.a3⟩,m.Q⟩,0)
def Dr(m:aR)(a:Int)(d:dn m=true)(b:aR.sml m)(e:0<=a/\a<512):ar Tryz.prog 502 false [.val (some 3) (aR.enc .X m),.val none [I a]] .agg (bh.enc .own (ac m.Q (a / 16))):=by
 have c:=pE m b;rw[d]at c;have g:=dD m.Q (a / 16) b.2;refine fO 18 [] Tryz.func502 rfl ?_ (.inr ⟨trivial,trivial,trivial⟩)
 repeat'(first|refine gE ?_|(conv=>whnf);first|refine CN (pW e) ?_|refine CO (by decide) ?_)
 rfl
def yP(m:aR)(f:Nat)(c v:Int):aR.enc .own ⟨⟨m.V.S.set f ((nth m.V.S f).set c.toNat v),m.V.a3⟩,m.Q⟩ = (aR.enc .own m).set 0 (.s .own ((m.V.S.map (aD .own)).set f [.s .own (((nth m.V.S f).map (rI .own)).set c.toNat [I v])])):=by
 simp[aR.enc,I6,aD,rI]
def GH(m:aR)(a v:Int)(p:dn m=true)(k:aR.sml m)(l:0<=a/\a<512)(q:0<=v/\v<=999)(r:(ac m.Q (a / 16)).j≠0->0<=(ac m.Q (a / 16)).e/\(ac m.Q (a / 16)).e<m.V.S.length/\(nth m.V.S (ac m.Q (a / 16)).e.toNat).length=16):ar Tryz.prog 410 false [.val (some 3) (aR.enc .X m),.val none [I a],.val none [I v]] (.tup [some 3,none]) (aR.enc .own (fI m a v).1++[I (fI m a v).2]):=by
 have d:=nl m k;have e:=Dr m a p k l;have c:=aM v 0 999;rw[O0 q]at c;have b:=aR.enc_fr (fI m a v).1;unfold fI at b |-;by_cases g:(ac m.Q (a / 16)).j=0
 ·rw[CB g]at b |-
  refine fO 42 [] Tryz.func410 rfl ?_ (.inr (aI b ⟨trivial,trivial⟩))
  repeat'(first|refine gB ?_|(conv=>whnf);first|refine C8 (d) ?_|refine C8 (e) ?_|refine C8 (c) ?_)
  rfl
 rw[C9 g]at b |-;by_cases n:(ac m.Q (a / 16)).j=1
 ·rw[CB n]at b |-
  refine fO 42 [] Tryz.func410 rfl ?_ (.inr (aI b ⟨trivial,trivial⟩))
  repeat'(first|refine gB ?_|(conv=>whnf);first|refine C8 (d) ?_|refine C8 (e) ?_|refine C8 (c) ?_)
  rfl
 rw[C9 n]at b |-;obtain⟨t,u,w⟩:=r g;have h:=ao (xs:=m.V.S) (i:=(ac m.Q (a / 16)).e.toNat) ω;have o:=ao (xs:=nth m.V.S (ac m.Q (a / 16)).e.toNat) (i:=(a % 16).toNat) ω;simp only at b |-;rw[yP]at b |-;have j:a.tmod 16=a % 16:=dM l.1;refine fO 42 [] Tryz.func410 rfl ?_ (.inr (aI b ⟨trivial,trivial⟩))
 repeat'(first|refine gB ?_|(conv=>whnf);first|refine CR j ?_|refine CO (by decide) ?_|refine CM t (aa h) ?_|refine CM ω (aa o) ?_|refine Pu.two rfl rfl (aa h) rfl rfl rfl (aa o) rfl (C3 _) rfl ?_)
 rfl
def Fu(k:af)(p o:Int)(a:ay k=true)(w:k.Calls≠100000)(l:(ac k.F.Q p).j≠0)(n:(ac k.F.Q o).j≠0)(y:p≠o):ar Tryz.prog 429 false [.val (some 5) (af.enc .X k),.val none [I p],.val none [I o]] (.tup [some 5,none]) (af.enc .own (qV k p o).1++[B (qV k p o).2]):=by
 have b:=bk a;have C:=(a8.1 a).2.2.2;have c:=kO k b;rw[a,O0 w]at c;have d:=se k b ⟨ω,ω⟩;have g:=ge k p b.1.2;have h:=ge k o b.1.2;rw[O0 l]at g;rw[O0 n]at h;obtain⟨D,H,E,q,r⟩:=bI a l;obtain⟨F,J,K,L,M⟩:=bI a n;have G:=(aS.1 (a8.1 a).2.1).2.2.1;have j:=ao (xs:=k.F.Q.J) (i:=p.toNat) ω;have t:=ao (xs:=k.F.Q.J) (i:=o.toNat) ω;rw[E]at q r;have u:=BL (uZ (bZ k) p.toNat ⟨2,(nth k.F.Q.J o.toNat).e⟩) (nth k.F.Q.J p.toNat).e (EP _ _ b.1.2) ⟨q,by show _<((k.F.V.S.length:Nat):Int);omega,r⟩;rw[FA]at u;unfold qV;cases e:refd k<;>rw[e]at d
 ·rw[C9 (by simp)]
  refine fP 63 [(213,[2,0]),(1000010,[])] [] Tryz.func429 rfl ?_ (.inr (aI (Cb _) ⟨trivial,trivial⟩))
  repeat'(first|refine gB ?_|(conv=>whnf);first|refine CM D (aa j) ?_|refine CM F (aa t) ?_|refine CQ rfl rfl (aa j) rfl (I1 rfl) rfl ?_|refine CK (u) (.inl rfl) ?_)
  rfl
 rw[CB rfl];refine fP 63 [(213,[2,0]),(1000010,[])] [] Tryz.func429 rfl ?_ (.inr (aI (Cb _) ⟨trivial,trivial⟩))
 repeat'(first|refine gP ?_|(conv=>whnf);first|refine C8 (c) ?_|refine C8 (d) ?_|refine C8 (g) ?_|refine C8 (h) ?_)
 rfl
def jmay(k:af)(j:cn):Bool:=(ay k&&decide (k.Calls≠100000))&&(j9 j&&decide ((ac k.F.Q j.W.a2).j≠0/\(ac k.F.Q j.W.a0).j≠0/\(ac k.F.Q j.W.a2).e≠(ac k.F.Q j.W.a0).e))
def jstep(k:af)(j:cn):af × cn:=
 if j.b1=0 then((fk k j.W.a0 1).1,{j with b1:=if(fk k j.W.a0 1).2=true then 1 else 5})
 else if j.b1=1 then(if j.a=j.W.S.length then(k,{j with b1:=2}) else(oB k j.W.a0 j.W.a2 (nth j.W.S j.a.toNat),{j with a:=j.a+1}))
 else if j.b1=2 then((qV k j.W.a0 j.W.a2).1,{j with b1:=if(qV k j.W.a0 j.W.a2).2=true then 4 else 3})
 else if j.b1=3 then(if 0<j.a then({k with F:=(fI k.F (j.W.a2*16+nth j.W.S (j.a - 1).toNat) 0).1},{j with a:=j.a - 1}) else((fk k j.W.a0 2).1,{j with b1:=if(fk k j.W.a0 2).2=true then 5 else 3}))
 else(k,j)
def Np{k:af}{f:Int}(h1:∀j,j<k.w.length->0<=nth k.w j)(d:cZ k.F.V=true)(g:gH k.F.Q k.F.V.a3.length=true)(h:∀j:Nat,j<k.F.V.a3.length->(j:Int)≠f->nth k.F.V.a3 j=decide (0<(pagesOn k.F.Q (j:Int)).length))(t:0<=f/\f<k.F.V.a3.length)(l:nth k.F.V.a3 f.toNat=true)(i:0<=k.Calls/\k.Calls<=100000/\k.w.length<=40):ay (gg k f)=true:=by
 obtain⟨n,o,p,q⟩:=aS.1 d;unfold gg;split
 ·rename_i c
  rw[a8];simp only[U1];refine⟨h1,?_,g,λj b=>?_,i⟩
  ·rw[aS]
   simp only[U1,bz];refine⟨n,o,p,λj b=>?_⟩;by_cases a:f.toNat=j
   ·rw[CB ⟨a,b⟩,CB ⟨a,ω⟩];decide
   rw[C9 (λe=>a e.1),C9 (λe=>a e.1)];exact q j b
  rw[bz];by_cases a:f.toNat=j
  ·rw[CB ⟨a,b⟩]
   have:(j:Int)=f:=ω
   rw[this];exact(U0 λr=>absurd c (Nat.ne_of_gt r)).symm
  rw[C9 (λe=>a e.1)];exact h j b ω
 rename_i c;rw[a8];refine⟨h1,d,g,λj b=>?_,i⟩;by_cases a:(j:Int)=f
 ·rw[a,show j=f.toNat by omega,l]
  exact(O0 (Nat.pos_of_ne_zero c)).symm
 exact h j b a
def tEq(t a:aG):Prop:=a.J.length=t.J.length/\∀q:Nat,((nth a.J q).j≠0↔(nth t.J q).j≠0)/\(nth a.J q).e=(nth t.J q).e
def tEq.refl(t:aG):tEq t t:=⟨rfl,λ_=>⟨Iff.rfl,rfl⟩⟩
def tEq.of{t a:aG}(h:a=t):tEq t a:=by rw[h];exact tEq.refl t
def tEq.pagesOn{t a:aG}(h:tEq t a)(f:Int):Ab.pagesOn a f=Ab.pagesOn t f:=by
 unfold Ab.pagesOn kh;rw[h.1]
 congr 1
 refine List.filter_congr λq _=>?_
 obtain⟨b,c⟩:=h.2 q;unfold LM;rw[c];exact decide_eq_decide.2 (and_congr b Iff.rfl)
def BD{k:af}(h:ay k=true){a:aG}(c:tEq k.F.Q a)(i:∀q,q<a.J.length->0<=(nth a.J q).j/\(nth a.J q).j<=2):ay {k with F:=⟨k.F.V,a⟩} = true:=by
 obtain⟨l,n,o,p,r⟩:=a8.1 h;obtain⟨t,u,w⟩:=br.1 o;rw[a8];refine⟨l,n,br.2 ⟨λj b=>?_,?_,?_⟩,λj b=>?_,r⟩
 ·replace b:j<a.J.length:=b
  have e:=t j (by rw[<-c.1];exact b);have d:=i j b;obtain⟨g,y⟩:=c.2 j;show kH _ (nth a.J j)=true;unfold kH at e |-;rw[C0]at e |-;rw[y];refine⟨d.1,d.2,λf=>e.2.2.1 (Classical.byContradiction λA=>(g.2 A) f),λf=>e.2.2.2 (g.1 f)⟩
 ·show 1<=a.J.length;rw[c.1];exact u
 ·show a.J.length<=32;rw[c.1];exact w
 show nth k.F.V.a3 j=decide (0<(Ab.pagesOn a (j:Int)).length);rw[c.pagesOn];exact p j b
def mS{k:af}(h:ay k=true)(f:k.Calls≠100000):ay (bZ k)=true:=by
 obtain⟨a,b,c,d,g,i,e⟩:=a8.1 h;rw[a8];exact⟨a,b,c,d,by show 0<=k.Calls+1;omega,by show k.Calls+1<=100000;omega,e⟩
def uj{k:af}{p m:Int}(a:(nth k.F.Q.J p.toNat).j≠0)(b:m=1\/m=2):tEq k.F.Q (jB k p m).F.Q:=by
 refine⟨by simp[jB],λq=>?_⟩;simp only[jB,bz];split
 ·rename_i e
  rw[<-e.1];exact⟨⟨λ_=>a,λ_=>by show m≠0;omega⟩,rfl⟩
 exact⟨Iff.rfl,rfl⟩
def MI{k:af}(h:ay k=true){p m:Int}(d:(nth k.F.Q.J p.toNat).j≠0)(a:m=1\/m=2):ay (jB k p m)=true:=by
 refine BD h (uj d a) λq e=>?_
 obtain⟨i,j,f,l,n⟩:=a8.1 h;obtain⟨g,o,r⟩:=br.1 f;have c:q<k.F.Q.J.length:=by rw[<-(uj d a).1];exact e
 have b:=g q c;unfold kH at b;rw[C0]at b;simp only[bz];split
 ·show 0<=m/\m<=2;omega
 exact⟨b.1,b.2.1⟩
def Fd{k:af}{p m:Int}(h:ay k=true)(c:k.Calls≠100000)(b:(ac k.F.Q p).j≠0)(a:m=1\/m=2):ay (fk k p m).1=true/\tEq k.F.Q (fk k p m).1.F.Q:=by
 obtain⟨e,f,d,-⟩:=bI h b;rw[d]at b;unfold fk;split
 ·exact⟨mS h c,tEq.refl _⟩
 exact⟨MI (mS h c) b a,uj (k:=bZ k) b a⟩
def gn{k:af}(h:ay k=true){p:Int}(b:(ac k.F.Q p).j≠0):b8 k p<k.F.V.S.length/\nth k.F.V.a3 (b8 k p)=true/\((b8 k p:Nat):Int)=(nth k.F.Q.J p.toNat).e:=by
 obtain⟨f,g,a,i,j⟩:=bI h b;obtain⟨l,d,n,e,o⟩:=a8.1 h;obtain⟨q,r,t,u⟩:=aS.1 d;have c:((b8 k p:Nat):Int)=(ac k.F.Q p).e:=by unfold b8;omega
 refine⟨ω,?_,by rw[c,a]⟩;rw[e _ ω,c];refine O0 (dK.2 ⟨p.toNat,ω,?_,?_⟩)
 ·rw[<-a];exact b
 rw[<-a]
def Pb{k:af}(h:ay k=true){f:Nat}{a:List Int}(c:a.length=16)(d:∀v∈a,0<=v/\v<=999)(g:nth k.F.V.a3 f=true):ay {k with F:=⟨⟨k.F.V.S.set f a,k.F.V.a3⟩,k.F.Q⟩} = true:=by
 obtain⟨i,l,n,o,p⟩:=a8.1 h;obtain⟨q,r,t,u⟩:=aS.1 l;refine a8.2 ⟨i,aS.2 ⟨?_,?_,?_,λj b=>?_⟩,n,o,p⟩
 ·simp only[U1];exact q
 ·simp only[U1];exact r
 ·simp only[U1];exact t
 simp only[U1]at b |-;simp only[bz];split
 ·rename_i e
  obtain⟨rfl,-⟩:=e;unfold gY;simp only[I0,C0,v4];refine⟨c,λv w=>?_⟩;have:=d v w;unfold iT;simp[g,this]
 exact u j b
def uL{k:af}(h:ay k=true){f:Nat}(b:f<k.F.V.S.length):(nth k.F.V.S f).length=16/\∀v∈nth k.F.V.S f,0<=v/\v<=999:=by
 obtain⟨g,c,i,j,l⟩:=a8.1 h;obtain⟨n,o,p,d⟩:=aS.1 c;have a:=d f b;unfold gY at a;simp only[I0,C0,v4]at a;refine⟨a.1,λv e=>?_⟩;have:=a.2 v e;unfold iT at this;simp only[I0,C0]at this;exact this.1
def rv{k:af}(h:ay k=true){f:Nat}(b:f<k.F.V.S.length)(d:nth k.F.V.a3 f=true){c v:Int}(e:0<=v/\v<=999):ay (setCell k f c v)=true:=by
 obtain⟨g,i⟩:=uL h b;refine Pb h (by rw[U1];exact g) (λz a=>?_) d;rcases V6 a with a|rfl
 ·exact i z a
 exact e
def N0{k:af}(h:ay k=true){a b c:Int}(d:(ac k.F.Q a).j≠0)(e:(ac k.F.Q b).j≠0)(l:0<=c/\c<=15):ay (oB k a b c)=true:=by
 obtain⟨f,n,-⟩:=gn h d;obtain⟨g,i,-⟩:=gn h e;obtain⟨o,j⟩:=uL h f;exact rv h g i (j _ (am ω))
def N7{k:af}{p o:Int}(h:ay k=true)(u:k.Calls≠100000)(i:(ac k.F.Q p).j≠0)(d:(ac k.F.Q o).j≠0)(w:p≠o):ay (qV k p o).1=true:=by
 unfold qV;split
 ·exact mS h u
 obtain⟨O,y,A⟩:=gn h i;obtain⟨P,Q,R⟩:=gn h d;obtain⟨S,T,B,r,t⟩:=bI h i;obtain⟨U,V,C,D,E⟩:=bI h d;obtain⟨F,G,H,J,W,X,K⟩:=a8.1 h;obtain⟨L,M,N⟩:=br.1 H;rw[C]at D E d;rw[B]at r t i;have a:∀q,nth (k.F.Q.J.set p.toNat ⟨2,(nth k.F.Q.J o.toNat).e⟩) q=if p.toNat=q then⟨2,(nth k.F.Q.J o.toNat).e⟩ else nth k.F.Q.J q:=λq=>by
  rw[bz];by_cases f:p.toNat=q
  ·rw[CB ⟨f,ω⟩,CB f]
  rw[C9 (λe=>f e.1),C9 f]
 refine Np F G (br.2 ⟨λj c=>?_,?_,?_⟩) (λj c l=>?_) ⟨r,t⟩ (by rw[<-A];exact y) ⟨by show 0<=k.Calls+1;omega,by show k.Calls+1<=100000;omega,K⟩
 ·simp only[uZ,bZ,U1]at c |-
  rw[a];split
  ·unfold kH;rw[C0];simp only;omega
  exact L j c
 ·simp only[uZ,bZ,U1];exact M
 ·simp only[uZ,bZ,U1];exact N
 replace c:j<k.F.V.a3.length:=c;show nth k.F.V.a3 j=_;rw[J j c];refine decide_eq_decide.2 ?_;rw[dK,dK];simp only[uZ,bZ,U1,a];constructor
 ·rintro⟨q,n,g,b⟩
  refine⟨q,n,?_⟩;rw[C9 (λe=>l (by rw[<-b,<-e]))];exact⟨g,b⟩
 rintro⟨q,n,g,b⟩
 by_cases e:p.toNat=q
 ·rw[CB e]at b
  exact⟨o.toNat,ω,d,b⟩
 rw[C9 e]at g b;exact⟨q,n,g,b⟩
def D4{k:af}{p o:Int}(h:ay k=true)(b:(ac k.F.Q p).j≠0)(a:(qV k p o).2=true)(q:Nat):(qV k p o).1.F.Q.J.length=k.F.Q.J.length/\nth (qV k p o).1.F.Q.J q=if(q:Int)=p then⟨2,(nth k.F.Q.J o.toNat).e⟩ else nth k.F.Q.J q:=by
 obtain⟨d,f,-⟩:=bI h b;unfold qV at a |-;split at a
 ·cases a
 rename_i c;rw[C9 c];simp only[(mU _ _).1];simp only[uZ,bZ,U1,bz];refine⟨trivial,?_⟩;by_cases e:(q:Int)=p
 ·rw[CB ⟨ω,ω⟩,CB e]
 rw[C9 λz=>e ω,C9 e]
def HR{k:af}{p o:Int}(a:(qV k p o).2=false):(qV k p o).1=bZ k:=by
 unfold qV at a |-;split
 ·rfl
 rename_i b;rw[C9 b]at a;cases a
def KI{k:af}{a v:Int}(h:ay k=true)(g:0<=a)(b:0<=v/\v<=999):ay {k with F:=(fI k.F a v).1} = true/\(fI k.F a v).1.Q=k.F.Q:=by
 unfold fI;split
 ·exact⟨h,rfl⟩
 rename_i d;split
 ·exact⟨h,rfl⟩
 obtain⟨e,f,-⟩:=gn h d;exact⟨rv h e f (c:=a % 16) b,rfl⟩
def oM(t:aG)(p:Int):Prop:=∀q:Nat,(nth t.J q).j≠0->(nth t.J q).e=(nth t.J p.toNat).e->(q:Int)=p
structure JI(h:ab):Prop where
 ph:h.o=true->0<=h.Y.b1/\h.Y.b1<=3
 sp:h.o=true->∃a∈h.K,∃b∈h.K,a.R=h.Y.W.a2/\b.R=h.Y.W.a0/\meshable a b=true
 sk:h.o=true->oM (tbl h) h.Y.W.a2
 sm:h.o=true->oM (tbl h) h.Y.W.a0
def oM.tEq{t a:aG}{p:Int}(h:oM t p)(b:tEq t a):oM a p:=λq c d=>by
 obtain⟨e,f⟩:=b.2 q;exact h q (e.1 c) (by rw[<-f,<-(b.2 p.toNat).2];exact d)
theorem Pg.tEq{t b:aG}{c:List aA}{sp:List ax}{la:List aB}(h:Pg t c sp la)(a:tEq t b):Pg b c sp la where
 one l hl p hp q hq h1 h2:=h.one l hl p hp q (by rw[<-a.1];exact hq) ((a.2 q).1.1 h1) (by rw[<-(a.2 q).2,<-(a.2 p).2];exact h2)
 bnd p hp:=by rw[a.1];exact h.bnd p hp
 own p hp:=(a.2 p).1.trans (h.own p (by rw[<-a.1];exact hp))
 fre p hp:=(a.2 p).1.trans (h.fre p (by rw[<-a.1];exact hp))
 mesh s hs u hu hne hf:=h.mesh s hs u hu hne (by rw[<-(a.2 _).2,<-(a.2 u.R.toNat).2];exact hf)
def aY.step{h:ab}{E:List Int}(a:aY h E){k:af}(b:ay k=true)(c:k.F.Q.J.length=(tbl h).J.length)(d:Pg k.F.Q h.q h.K h.M){j:cn}{m:Bool}(h1:m=true->j9 j=true/\(∃s∈h.K,s.R=j.W.a2)/\∃s∈h.K,s.R=j.W.a0)(e:m=false->qI j=true):aY {h with G:=k,o:=m,Y:=j} E:=
 {a with
   ker:=b
   rng:=by show bC ((k.F.Q.J.length:Nat):Int) h.q=true;rw[c];exact a.rng
   pg:=d
   job:=h1
   noj:=e}
def sj.apart{sp:List ax}{la:List aB}(b:sj sp la){s:ax}(c:s∈sp){l:aB}(d:l∈la){p:Int}(a:p∈lpgs l l.a4.toNat):s.R≠p:=by
 unfold lpgs at a;simp only[O4,List.mem_range]at a;obtain⟨k,e,rfl⟩:=a;exact b.dis s c l d k e
def Pg.on{t H:aG}{Q:List aA}{sp:List ax}{la:List aB}(h:Pg t Q sp la)(r:sj sp la){a b:ax}(w:a∈sp)(L:b∈sp)(R:meshable a b=true)(A:oM t a.R)(M:(nth t.J a.R.toNat).j≠0)(N:(nth t.J b.R.toNat).j≠0)(U:0<=b.R)(J:H.J.length=t.J.length)(B:∀q:Nat,nth H.J q=if(q:Int)=b.R then⟨2,(nth t.J a.R.toNat).e⟩ else nth t.J q):Pg H Q sp la:=by
 have c:∀q:Nat,(nth H.J q).j≠0↔(nth t.J q).j≠0:=λq=>by
  rw[B];split
  ·rename_i e
   rw[show q=b.R.toNat by omega];exact⟨λ_=>N,λ_=>by show(2:Int)≠0;omega⟩
  rfl
 have V:0<=a.R:=by have:=r.sok a w;unfold bg at this;rw[C0]at this;omega
 refine⟨λl k p g q W S C=>?_,λp g=>by rw[J];exact h.bnd p g,λp g=>(c p).trans (h.own p (by rw[<-J];exact g)),λp g=>(c p).trans (h.fre p (by rw[<-J];exact g)),λs D u E F n=>?_⟩
 ·have O:¬(p:Int)=b.R:=λe=>r.apart L k g e.symm
  rw[B p,C9 O,B q]at C;rw[c]at S;by_cases e:(q:Int)=b.R
  ·rw[CB e]at C
   have T:=h.one l k p g a.R.toNat (by have:=h.bnd _ (dC (la:=la) w);omega) M C;exact absurd (show a.R=(p:Int) by omega) (r.apart w k g)
  rw[C9 e]at C;exact h.one l k p g q (by rw[<-J];exact W) S C
 have X:0<=s.R:=by have:=r.sok s D;unfold bg at this;rw[C0]at this;omega
 have Y:0<=u.R:=by have:=r.sok u E;unfold bg at this;rw[C0]at this;omega
 have d:∀x∈sp,∀y∈sp,x.R=y.R->x=y:=λx G y Z e=>by
  obtain⟨i,hi,rfl⟩:=aL G;obtain⟨j,hj,rfl⟩:=aL Z;rw[cM (f:=(·.R)) r.nd hi hj e]
 have o:∀x∈sp,(nth t.J x.R.toNat).j≠0:=λx G=>by
  have hx0:0<=x.R:=by have:=r.sok x G;unfold bg at this;rw[C0]at this;omega
  refine(h.own x.R.toNat (by have:=h.bnd _ (dC (la:=la) G);omega)).2 ?_;rw[show((x.R.toNat:Nat):Int)=x.R by omega];exact dC G
 rw[B,B]at n;simp only[show((s.R.toNat:Nat):Int)=s.R by omega,show((u.R.toNat:Nat):Int)=u.R by omega]at n;by_cases K:s.R=b.R
 ·rw[CB K,C9 (λe=>F (K.trans e.symm))]at n
  have T:=A u.R.toNat (o u E) n.symm;rw[d s D b L K,d u E a w ω,io];exact R
 rw[C9 K]at n;by_cases P:u.R=b.R
 ·rw[CB P]at n
  have T:=A s.R.toNat (o s D) n;rw[d u E b L P,d s D a w ω];exact R
 rw[C9 P]at n;exact h.mesh s D u E F n
def over(j:cn):Bool:=decide (j.b1=4\/j.b1=5)
def dU(k:af)(j:cn):af × cn:=if jmay k j=true then jstep k j else(k,j)
def mStep(h:ab):ab:={h with G:=(dU h.G h.Y).1,o:=if over (dU h.G h.Y).2=true then false else h.o,Y:=if over (dU h.G h.Y).2=true then⟨⟨0,0,[]⟩,0,0⟩ else(dU h.G h.Y).2}
def lC(h:ab):Bool:=decide ((dU h.G h.Y).2.b1=4)
def cK{j:cn} : j9 j=true↔eO j.W=true/\0<=j.b1/\j.b1<=5/\0<=j.a/\j.a<=j.W.S.length:=by
 unfold j9;simp only[I0,C0]
def fx{p:bY}(h:eO p=true){i:Nat}(a:i<p.S.length):0<=nth p.S i/\nth p.S i<=15:=by
 unfold eO at h;simp only[I0]at h;have:=dZ h.1 a;unfold mF at this;rw[C0]at this;exact⟨this.1,this.2.1⟩
structure JS(h:ab)(k:af)(j:cn):Prop where
 ker:ay k=true
 len:k.F.Q.J.length=(tbl h).J.length
 pg:j.b1≠4\/JI h->Pg k.F.Q h.q h.K h.M
 ph:0<=j.b1/\j.b1<=5
 plan:j.W=h.Y.W
 nxt:0<=j.a/\j.a<=j.W.S.length
 eq:j.b1≠4->tEq (tbl h) k.F.Q
 calls:h.G.Calls<=k.Calls/\k.Calls<=h.G.Calls+1/\k.w=h.G.w
def yW(k:af)(p m:Int):(fk k p m).1.Calls=k.Calls+1/\(fk k p m).1.w=k.w:=by
 unfold fk;split<;>exact⟨rfl,rfl⟩
def Mo(k:af)(p o:Int):(qV k p o).1.Calls=k.Calls+1/\(qV k p o).1.w=k.w:=by
 unfold qV;split
 ·exact⟨rfl,rfl⟩
 obtain⟨-,a,b,-⟩:=mU (uZ (bZ k) p.toNat ⟨2,(nth k.F.Q.J o.toNat).e⟩) (nth k.F.Q.J p.toNat).e;simp only[a,b];exact⟨rfl,rfl⟩
def JS.of{h:ab}{E:List Int}(c:aY h E)(B:h.o=true):JS h (dU h.G h.Y).1 (dU h.G h.Y).2:=by
 obtain⟨R,-,-⟩:=c.job B;obtain⟨O,y,A,o,p⟩:=cK.1 R;unfold dU;split
 case isFalse=>exact⟨c.ker,rfl,λ_=>c.pg,⟨y,A⟩,rfl,⟨o,p⟩,λ_=>tEq.refl _,v5 _,by show h.G.Calls<=h.G.Calls+1;omega,rfl⟩
 rename_i d;unfold jmay at d;simp only[I0,C0]at d;obtain⟨⟨-,C⟩,-,u,r,D⟩:=d;have fin:∀(k:af)(j:cn),ay k=true->tEq (tbl h) k.F.Q->0<=j.b1/\j.b1<=5->j.W=h.Y.W->0<=j.a/\j.a<=j.W.S.length->h.G.Calls<=k.Calls/\k.Calls<=h.G.Calls+1/\k.w=h.G.w->JS h k j:=
  λk j S F T U V W=>⟨S,F.1,λ_=>c.pg.tEq F,T,U,V,λ_=>F,W⟩
 have P:=(a8.1 c.ker).2.2.2.2;unfold jstep;split
 ·obtain⟨l,w⟩:=Fd c.ker C r (m:=1) (.inl rfl)
  obtain⟨g,t⟩:=yW h.G h.Y.W.a0 1;refine fin _ _ l w ?_ rfl ⟨o,p⟩ ⟨by rw[g];omega,by rw[g];omega,t⟩;show 0<=(if _ then _ else _:Int)/\(if _ then _ else _:Int)<=5;split<;>omega
 split
 ·split
  ·exact fin _ _ c.ker (tEq.refl _) ⟨by show(0:Int)<=2;omega,by show(2:Int)<=5;omega⟩ rfl ⟨o,p⟩ ⟨v5 _,by show h.G.Calls<=h.G.Calls+1;omega,rfl⟩
  have n:=fx O (i:=h.Y.a.toNat) ω;refine fin _ _ (N0 c.ker r u n) (tEq.refl _) ⟨y,A⟩ rfl ⟨by show 0<=h.Y.a+1;omega,by show h.Y.a+1<=h.Y.W.S.length;omega⟩ ⟨v5 _,by show h.G.Calls<=h.G.Calls+1;omega,rfl⟩
 split
 ·have G:h.Y.W.a0≠h.Y.W.a2:=λe=>D (by rw[e])
  have l:=N7 c.ker C r u G;obtain⟨g,t⟩:=Mo h.G h.Y.W.a0 h.Y.W.a2;cases e:(qV h.G h.Y.W.a0 h.Y.W.a2).2 with
  | false=>
   rw[C9 (by simp)];refine fin _ _ l (tEq.of ?_) ⟨by show(0:Int)<=3;omega,by show(3:Int)<=5;omega⟩ rfl ⟨o,p⟩ ⟨by rw[g];omega,by rw[g];omega,t⟩;rw[HR e];rfl
  | true=>
   rw[CB rfl];obtain⟨X,m2,Y,-⟩:=bI c.ker r;obtain⟨n1,n2,Z,-⟩:=bI c.ker u;have f:=D4 c.ker r e;refine⟨l,(f 0).1,λH=>?_,⟨by show(0:Int)<=4;omega,by show(4:Int)<=5;omega⟩,rfl,⟨o,p⟩,λJ=>absurd rfl J,by rw[g];omega,by rw[g];omega,t⟩;have Q:JI h:=H.elim (λJ=>absurd rfl J) id;obtain⟨a,ha,b,hb,K,M,N⟩:=Q.sp B;refine c.pg.on c.L ha hb N (by rw[K];exact Q.sk B) (by rw[K];show(nth h.G.F.Q.J _).j≠0;rw[<-Z];exact u) (by rw[M];show(nth h.G.F.Q.J _).j≠0;rw[<-Y];exact r) (by rw[M];exact X) (f 0).1 λq=>?_
   rw[(f q).2,M,K];rfl
 split
 ·split
  ·rename_i hn0
   have n:=fx O (i:=(h.Y.a - 1).toNat) ω;have hk0:=(bI c.ker u).1;obtain⟨l,w⟩:=KI c.ker (a:=h.Y.W.a2*16+nth h.Y.W.S (h.Y.a - 1).toNat) (v:=0) ω ⟨ω,ω⟩;exact fin _ _ l (tEq.of w) ⟨y,A⟩ rfl ⟨by show 0<=h.Y.a - 1;omega,by show h.Y.a - 1<=h.Y.W.S.length;omega⟩ ⟨v5 _,by show h.G.Calls<=h.G.Calls+1;omega,rfl⟩
  obtain⟨l,w⟩:=Fd c.ker C r (m:=2) (.inr rfl);obtain⟨g,t⟩:=yW h.G h.Y.W.a0 2;refine fin _ _ l w ?_ rfl ⟨o,p⟩ ⟨by rw[g];omega,by rw[g];omega,t⟩;show 0<=(if _ then _ else _:Int)/\(if _ then _ else _:Int)<=5;split<;>omega
 exact fin _ _ c.ker (tEq.refl _) ⟨y,A⟩ rfl ⟨o,p⟩ ⟨v5 _,by show h.G.Calls<=h.G.Calls+1;omega,rfl⟩
def aY.mStep{h:ab}{E:List Int}(d:aY h E)(f:JI h)(c:h.o=true):aY (mStep h) E/\JI (mStep h):=by
 have s:=JS.of d c;unfold Ab.mStep;generalize (dU h.G h.Y).1=k at s |-;generalize (dU h.G h.Y).2=j at s |-;cases e:over j with
 | true=>
  refine⟨d.step s.ker s.len (s.pg (.inr f)) (λh=>by simp at h) (λ_=>by simp[qI]),?_⟩;exact⟨λh=>by simp at h,λh=>by simp at h,λh=>by simp at h,λh=>by simp at h⟩
 | false=>
  simp only[Bool.false_eq_true,if_false];unfold over at e;simp only[X4,not_or]at e;have g:=s.eq e.1;have i:=s.ph;refine⟨d.step s.ker s.len (s.pg (.inr f)) (λ_=>⟨cK.2 ⟨by rw[s.plan];exact(cK.1 (d.job c).1).1,s.ph.1,s.ph.2,s.nxt⟩,by rw[s.plan];exact(d.job c).2⟩) (λh=>by rw[c]at h;cases h),?_⟩;refine⟨λ_=>⟨s.ph.1,by show j.b1<=3;omega⟩,λ_=>?_,λ_=>?_,λ_=>?_⟩
  ·show ∃a∈h.K,∃b∈h.K,a.R=j.W.a2/\b.R=j.W.a0/\meshable a b=true
   rw[s.plan];exact f.sp c
  ·show oM k.F.Q j.W.a2
   rw[s.plan];exact(f.sk c).tEq g
  show oM k.F.Q j.W.a0;rw[s.plan];exact(f.sm c).tEq g
def fe(k:af)(a:Int):Int:=nth (nth k.F.V.S (ac k.F.Q (a / 16)).e.toNat) (a % 16).toNat
def cellsOf(k:af)(a:Int)(n:Nat):List Int:=(List.range n).map λ(i:Nat)=>fe k (a+i)
def gR(k:af)(a:Int)(n:Nat):(cellsOf k a n).length=n:=by simp[cellsOf]
def sT(k:af)(a:Int)(n:Nat):cellsOf k a (n+1)=cellsOf k a n++[fe k (a+n)]:=by
 unfold cellsOf;rw[List.range_succ,X5];rfl
def FL{k:af}(b:ay k=true)(p:Int):0<=(ac k.F.Q p).e/\(ac k.F.Q p).e<k.F.V.S.length:=by
 obtain⟨-,c,d,-⟩:=a8.1 b;obtain⟨e,f,g,h⟩:=aS.1 c;unfold ac;split
 ·rename_i i
  have:=(br.1 d).1 p.toNat ω;unfold kH at this;rw[C0]at this;by_cases a:(nth k.F.Q.J p.toNat).j=0
  ·have:=this.2.2.1 a;omega
  have:=this.2.2.2 a;omega
 simp only;omega
def Nz{k:af}(a:ay k=true){j:Nat}(b:j<k.F.V.S.length):(nth k.F.V.S j).length=16/\∀i,i<16->0<=nth (nth k.F.V.S j) i/\nth (nth k.F.V.S j) i<=999:=by
 obtain⟨-,c,-⟩:=a8.1 a;obtain⟨e,f,g,d⟩:=aS.1 c;have:=d j b;unfold gY at this;rw[I0,C0,v4]at this;refine⟨this.1,λi l=>?_⟩;have h:=this.2 _ (am (xs:=nth k.F.V.S j) (i:=i) ω);unfold iT at h;rw[I0,C0]at h;exact h.1
def zu(h:ab)(o:bt)(a:ay h.G=true)(p:0<=o.Addr/\o.Addr<=1000000)(q:o.u<=1000000) :
  ar Tryz.prog 125 false [.ptr (ab.enc .X h),.val (some 4) (bt.enc .X o)] .one (aD .own (cellsOf h.G o.Addr o.u.toNat)):=by
 have b:=bk a;refine fO 48 [] Tryz.func125 rfl ?_ (.inr (bH _))
 repeat'(first|refine gP ?_|fail)
 (conv=>whnf)
 refine CF (ι:=Nat) (λi=>[(0,.iref (ab.enc .X h) 0),(3,.H .box (bt.enc .X o)),(5,.H .one (aD .own (cellsOf h.G o.Addr i))),(6,.H .one [I ((i:Nat):Int)])]) (λi=>i<=o.u.toNat) (λi=>o.u.toNat - i) (0) ?_ (W0 _) λi r=>?_
 ·exact wB
 have c:=gR h.G o.Addr i;by_cases t:i<o.u.toNat
 ·obtain⟨d,u⟩:=FL a ((o.Addr+i) / 16)
  have e:=ao (xs:=h.G.F.V.S) (i:=(ac h.G.F.Q ((o.Addr+i) / 16)).e.toNat) ω;have g:=(Nz a (j:=(ac h.G.F.Q ((o.Addr+i) / 16)).e.toNat) ω).1;have k:=ao (xs:=nth h.G.F.V.S (ac h.G.F.Q ((o.Addr+i) / 16)).e.toNat) (i:=((o.Addr+i) % 16).toNat) ω;have l:IntKind.i64.wrap ((o.Addr+(i:Int)).tdiv 16)=(o.Addr+i) / 16:=by rw[ko ω];exact eP ω ω
  have n:(o.Addr+(i:Int)).tmod 16=(o.Addr+i) % 16:=dM ω
  repeat'(first|refine gE ?_|(conv=>whnf);first|refine CO (by decide) ?_|refine CN l ?_|refine CR n ?_|refine C8 (cR h.G.F.Q _ b.1.2) ?_|refine CM d (aa e) ?_|refine CM ω (aa k) ?_|refine Ap.sn co rfl (by simp;omega) (by decide) rfl ?_)
  (conv=>whnf)
  refine CE (i+1) ω ω ?_;rw[sT]
  (repeat'(first|exact trivial|rfl|exact CL rfl (CL (X0 (C.s dY.own) (by simp[rI,fe])) trivial)|refine CL ?_ ?_))
 repeat'(first|refine gE ?_|fail)
 obtain rfl:i=o.u.toNat:=ω
 rfl
def Dw(h:ab)(a n:Int)(b:ay h.G=true)(q:0<=a/\a<=1000000)(r:n<=1000000) :
  ar Tryz.prog 87 false [.val (some 24) (ab.enc .X h),.val none [I a],.val none [I n]] .one (aD .own (cellsOf h.G a n.toNat)):=by
 have c:=bk b;refine fO 44 [] Tryz.func87 rfl ?_ (.inr (bH _))
 repeat'(first|refine gP ?_|fail)
 (conv=>whnf)
 refine CF (ι:=Nat) (λi=>[(1,.H .one [I (a)]),(2,.H .one [I (n)]),(3,.H .box (ab.enc .X h)),(7,.H .one (aD .own (cellsOf h.G a i))),(8,.H .one [I ((i:Nat):Int)])]) (λi=>i<=n.toNat) (λi=>n.toNat - i) (0) ?_ (W0 _) λi t=>?_
 ·exact wB
 have d:=gR h.G a i;by_cases u:i<n.toNat
 ·obtain⟨e,w⟩:=FL b ((a+i) / 16)
  have g:=ao (xs:=h.G.F.V.S) (i:=(ac h.G.F.Q ((a+i) / 16)).e.toNat) ω;have k:=(Nz b (j:=(ac h.G.F.Q ((a+i) / 16)).e.toNat) ω).1;have l:=ao (xs:=nth h.G.F.V.S (ac h.G.F.Q ((a+i) / 16)).e.toNat) (i:=((a+i) % 16).toNat) ω;have o:IntKind.i64.wrap ((a+(i:Int)).tdiv 16)=(a+i) / 16:=by rw[ko ω];exact eP ω ω
  have p:(a+(i:Int)).tmod 16=(a+i) % 16:=dM ω
  repeat'(first|refine gE ?_|(conv=>whnf);first|refine CO (by decide) ?_|refine CN o ?_|refine CR p ?_|refine C8 (dD h.G.F.Q _ c.1.2) ?_|refine CM e (aa g) ?_|refine CM ω (aa l) ?_|refine Ap.sn co rfl (by simp;omega) (by decide) rfl ?_)
  (conv=>whnf)
  refine CE (i+1) ω ω ?_;rw[sT]
  (repeat'(first|exact trivial|rfl|exact CL rfl (CL (X0 (C.s dY.own) (by simp[rI,fe])) trivial)|refine CL ?_ ?_))
 repeat'(first|refine gE ?_|fail)
 obtain rfl:i=n.toNat:=ω
 rfl
def BW{sp:List ax}{la:List aB}{a:Int}(h:(denotes sp la a).b6=1):∃i:Nat,i<sp.length/\(denotes sp la a).c4=i/\cy (nth sp i) a=true/\denotes sp la a=oJ i (nth sp i) a:=by
 unfold denotes at h |-;cases e:sp.findIdx? (cy · a) with
 | some i=>
  obtain⟨b,d,-⟩:=C7.1 e;refine⟨i,b,rfl,?_,rfl⟩;rw[bm (I2 b)];exact d
 | none=>
  rw[e]at h;simp only at h;cases c:la.findIdx? (bq · a) with
  | some i=>rw[c]at h;simp at h
  | none=>rw[c]at h;simp at h
def Ff{sp:List ax}{la:List aB}{a:Int}(h:(denotes sp la a).b6=3):∃i:Nat,i<la.length/\(denotes sp la a).c4=i/\bq (nth la i) a=true/\denotes sp la a = ⟨3,i,0,a - 16*(nth la i).R⟩:=by
 unfold denotes at h |-;cases e:sp.findIdx? (cy · a) with
 | some i=>
  rw[e]at h;simp only[oJ]at h;split at h<;>simp at h
 | none=>
  rw[e]at h;simp only at h |-;cases b:la.findIdx? (bq · a) with
  | some i=>
   obtain⟨c,d,-⟩:=C7.1 b;refine⟨i,c,rfl,?_,rfl⟩;rw[bm (I2 c)];exact d
  | none=>rw[b]at h;simp at h
def iL{n:Int}(h:0<=aJ n):1<=n/\n<=8:=by
 unfold aJ at h;split at h
 ·omega
 split at h
 ·omega
 split at h
 ·omega
 split at h
 ·omega
 split at h<;>omega
def QD{h:ab}{o:bt}(c:jl h o=true):0<=o.Addr/\o.Addr<=2000/\1<=o.u/\o.u<=1000:=by
 unfold jl at c;simp only[I0,O6,C0]at c;obtain⟨-,⟨d,e⟩|⟨d,e⟩⟩:=c
 ·obtain⟨i,f,a,b,-⟩:=BW d
  rw[a,X2]at e;unfold cy bg at b;simp only[I0,C0]at b;have:=iL (n:=o.u) ω;omega
 obtain⟨i,f,a,b,-⟩:=Ff d;rw[a,X2]at e;unfold bq bJ at b;simp only[I0,C0]at b;omega
def wY{h:ab}(a:dA h=true):cj h=true/\fL h=true:=by
 unfold dA at a;simp only[I0]at a;exact⟨a.1.1.2,a.1.2.1⟩
def PK{h:ab}(a:dA h=true):1<=h.a/\h.a<=1000000:=by
 have:=(wY a).1;unfold cj at this;rw[C0]at this;omega
def BZ{h:ab}(c:dA h=true){i:Nat}(f:i<h.O.length):1<=(nth h.O i).Id/\(nth h.O i).Id<h.a/\0<=(nth h.O i).Addr/\(nth h.O i).Addr<=2000/\1<=(nth h.O i).u/\(nth h.O i).u<=1000/\∀j,j<i->(nth h.O j).Id≠(nth h.O i).Id:=by
 obtain⟨-,g⟩:=wY c;obtain⟨o,p⟩:=PK c;have a:=dZ g f;rw[eP ω ω]at a;unfold objAt ic at a;simp only[I0,C0,Bool.not_eq_true']at a;obtain⟨⟨k,d⟩,l⟩:=a;have b:=QD l;refine⟨k.2.1,ω,b.1,b.2.1,b.2.2.1,b.2.2.2,λj n e=>?_⟩;rw[List.any_eq_false]at d;refine d (nth h.O j) ?_ (by unfold fp;exact O0 e);have:(h.O.take i)[j]? = some (nth h.O j):=by rw[List.getElem?_take,CB n,ao ω]
 exact Z1 this
def Pi{h:ab}(a:dA h=true){i j:Nat}(c:i<h.O.length)(d:j<h.O.length)(f:i≠j):(nth h.O i).Id≠(nth h.O j).Id:=by
 rcases Nat.lt_or_ge i j with b|b
 ·exact(BZ a d).2.2.2.2.2.2 i b
 exact λe=>(BZ a c).2.2.2.2.2.2 j ω e.symm
def sX{α:Type}[Inhabited α](f:α->Int)(xs:List α):Nat->Int
 | 0=>0
 | i+1=>sX f xs i+f (nth xs i)
def sL{α:Type}[Inhabited α]{f:α->Int}{xs:List α}{b:Int}(h:∀y∈xs,0<=f y/\f y<=b):∀i:Nat,i<=xs.length->0<=sX f xs i/\sX f xs i<=b*i
 | 0,_=>by simp[sX]
 | i+1,a=>by
  have c:=sL h i ω;have d:=h _ (am (xs:=xs) (i:=i) ω);have e:b*((i+1:Nat):Int)=b*i+b:=by rw[Int.natCast_add,Int.mul_add];simp
  simp only[sX];omega
def ce(e:bh):Int:=if e.j≠0 then 1 else 0
def lY(e:bh):0<=ce e/\ce e<=1:=by unfold ce;split<;>omega
def dl(t:aG):Int:=sX ce t.J t.J.length
def bor(n m:Int):Int:=((n.toNat ||| m.toNat:Nat):Int)
def sS(sp:List ax)(p:Int)(b:Int):Nat->Int
 | 0=>b
 | j+1=>if(nth sp j).R=p then bor (sS sp p b j) (nth sp j).b2 else sS sp p b j
def kJ(sp:List ax)(ps:List Int)(b:Int):Nat->Int
 | 0=>b
 | k+1=>sS sp (nth ps k) (kJ sp ps b k) sp.length
def i9(h:ab)(i:Nat):Int:=kJ h.K (aX h (nth h.K i).R) (nth h.K i).b2 (aX h (nth h.K i).R).length
def MF{n m:Int}(h1:0<=n/\n<=65535)(a:0<=m/\m<=65535):0<=bor n m/\bor n m<=65535:=by
 have b:n.toNat ||| m.toNat<2 ^ 16:=Nat.or_lt_two_pow ω ω
 unfold bor;omega
def wN{sp:List ax}(h:∀s∈sp,bg s=true){j:Nat}(b:j<sp.length):0<=(nth sp j).b2/\(nth sp j).b2<=65535:=by
 have a:=h _ (am b);have c:=Hj (nth sp j).d;unfold bg at a;rw[C0]at a;omega
def wJ{sp:List ax}(h:∀s∈sp,bg s=true){p b:Int}(a:0<=b/\b<=65535):∀j,j<=sp.length->0<=sS sp p b j/\sS sp p b j<=65535
 | 0,_=>a
 | j+1,d=>by
  have c:=wJ h (p:=p) a j ω;simp only[sS];split
  ·exact MF c (wN h ω)
  exact c
def tA{sp:List ax}(h:∀s∈sp,bg s=true){ps:List Int}{b:Int}(a:0<=b/\b<=65535):∀k,0<=kJ sp ps b k/\kJ sp ps b k<=65535
 | 0=>a
 | k+1=>by simp only[kJ];exact wJ h (tA h a k) _ (C3 _)
def nI{b i:Int}(a:0<=b)(c:0<=i/\i<=15):aU b i=b.toNat.testBit i.toNat:=by
 unfold aU;rw[Nat.testBit_eq_decide_div_mod_eq];refine decide_eq_decide.2 ?_;obtain⟨n,rfl⟩ : ∃n:Nat,b=n:=⟨b.toNat,ω⟩
 rw[X2];have d:((n / 2 ^ i.toNat:Nat):Int)=(n:Int) / 2 ^ i.toNat:=by simp
 omega
def GQ{n m i:Int}(b:0<=n)(c:0<=m)(a:0<=i/\i<=15):aU (bor n m) i=(aU n i || aU m i):=by
 rw[nI (by unfold bor;omega) a,nI b a,nI c a];unfold bor;rw[X2,Nat.testBit_or]
def Fh{sp:List ax}(h:∀s∈sp,bg s=true){p b i:Int}(k:0<=b/\b<=65535)(l:0<=i/\i<=15):∀j,j<=sp.length->(aU (sS sp p b j) i=true↔aU b i=true\/∃q,q<j/\(nth sp q).R=p/\aU (nth sp q).b2 i=true)
 | 0,_=>by simp[sS]
 | j+1,t=>by
  have n:=Fh h (p:=p) k l j ω;have o:=wJ h (p:=p) k j ω;have r:=wN h (j:=j) ω;simp only[sS];split
  ·rename_i d
   rw[GQ o.1 r.1 l,O6,n];constructor
   ·rintro((e|⟨q,f,a⟩)|e)
    ·exact .inl e
    ·exact .inr ⟨q,ω,a⟩
    exact .inr ⟨j,ω,d,e⟩
   rintro(e|⟨q,f,a,c⟩)
   ·exact .inl (.inl e)
   by_cases g:q=j
   ·subst g;exact .inr c
   exact .inl (.inr ⟨q,ω,a,c⟩)
  rename_i d;rw[n];constructor
  ·rintro(e|⟨q,f,a⟩)
   ·exact .inl e
   exact .inr ⟨q,ω,a⟩
  rintro(e|⟨q,f,a,c⟩)
  ·exact .inl e
  by_cases g:q=j
  ·subst g;exact absurd a d
  exact .inr ⟨q,ω,a,c⟩
def A3{sp:List ax}(h:∀s∈sp,bg s=true){ps:List Int}{b i:Int}(d:0<=b/\b<=65535)(f:0<=i/\i<=15):∀k,(aU (kJ sp ps b k) i=true↔aU b i=true\/∃u,u<k/\∃q,q<sp.length/\(nth sp q).R=nth ps u/\aU (nth sp q).b2 i=true)
 | 0=>by simp[kJ]
 | k+1=>by
  have g:=A3 h (ps:=ps) d f k;have j:=tA h (ps:=ps) d k;simp only[kJ];rw[Fh h j f _ (C3 _),g];constructor
  ·rintro((e|⟨u,c,a⟩)|⟨q,c,a⟩)
   ·exact .inl e
   ·exact .inr ⟨u,ω,a⟩
   exact .inr ⟨k,ω,q,c,a⟩
  rintro(e|⟨u,c,a⟩)
  ·exact .inl (.inl e)
  by_cases l:u=k
  ·subst l;exact .inr a
  exact .inl (.inr ⟨u,ω,a⟩)
def kN{α:Type}(p:α->Bool)(xs:List α):Nat:=(xs.findIdx? p).getD xs.length
def jL{α:Type}(p:α->Bool)(xs:List α)(y:α):List α:=xs.take (kN p xs)++y::xs.drop (kN p xs)
def Qz{α:Type}(p:α->Bool)(xs:List α):kN p xs<=xs.length:=by
 unfold kN;cases e:xs.findIdx? p with
 | none=>exact C3 _
 | some i=>exact Nat.le_of_lt (C7.1 e).1
def lg{α:Type}(p:α->Bool)(xs:List α)(y:α):(jL p xs y).Perm (y::xs):=by
 unfold jL;refine List.perm_middle.trans ?_;rw[List.take_append_drop]
def cI{α:Type}{p:α->Bool}{xs:List α}{y z:α} : z∈jL p xs y↔z=y\/z∈xs:=by
 rw[(lg p xs y).mem_iff,List.mem_cons]
def wO{α:Type}{p:α->Bool}{xs:List α}{i:Nat}(c:i<=xs.length)(a:∀(j:Nat)(z:α),j<i->xs[j]? = some z->p z=false)(b:∀z,xs[i]? = some z->p z=true):kN p xs=i:=by
 unfold kN;by_cases e:i<xs.length
 ·rw[w5 (I2 e) (b _ (I2 e)) a];rfl
 rw[yx ω a];show xs.length=i;omega
def ma{α:Type}{f:α->Int}{xs:List α}{y:α}(h:xs.Pairwise λa b=>f a<f b)(p:∀z∈xs,f z≠f y):(jL (λz=>decide (f y<=f z)) xs y).Pairwise λa b=>f a<f b:=by
 have q:∀z∈xs.drop (kN (λz=>decide (f y<=f z)) xs),f y<f z:=λz g=>by
  obtain⟨j,k,rfl⟩:=List.mem_drop_iff_getElem.1 g;have C:=p _ (List.getElem_mem k);cases e:xs.findIdx? (λz=>decide (f y<=f z)) with
  | none=>
   have l:kN (λz=>decide (f y<=f z)) xs=xs.length:=by unfold kN;rw[e];rfl
   rw[l]at k;omega
  | some i=>
   have l:kN (λz=>decide (f y<=f z)) xs=i:=by unfold kN;rw[e];rfl
   obtain⟨r,t,-⟩:=C7.1 e;rw[C0]at t;have c:i+j<xs.length:=by rw[<-l];omega
   have n:f xs[i+j]≠f y:=p _ (List.getElem_mem c);have d:f y<f xs[i+j]:=by
    cases j with
    | zero=>simp only[Nat.add_zero]at n |-;omega
    | succ j=>
     have:=List.pairwise_iff_getElem.1 h i (i+(j+1)) r c ω;omega
   have w:xs[kN (λz=>decide (f y<=f z)) xs+j]? = xs[i+j]?:=by rw[l]
   rw[I2 ω,I2 c]at w;rw[Option.some.inj w];exact d
 have A:∀z∈xs.take (kN (λz=>decide (f y<=f z)) xs),f z<f y:=λz g=>by
  obtain⟨j,k,rfl⟩:=List.mem_take_iff_getElem.1 g;unfold kN at k;cases e:xs.findIdx? (λz=>decide (f y<=f z)) with
  | none=>
   have:=List.findIdx?_eq_none_iff.1 e _ (List.getElem_mem (show j<xs.length by omega));simp only[X4]at this;omega
  | some i=>
   obtain⟨r,t,B⟩:=C7.1 e;simp only[e,Option.getD_some]at k;have:=B j ω;simp only[C0]at this;omega
 unfold jL;refine List.pairwise_append.2 ⟨h.sublist (List.take_sublist ..),List.pairwise_cons.2 ⟨q,h.sublist (List.drop_sublist ..)⟩,λz g u o=>?_⟩;rcases List.mem_cons.1 o with rfl|o
 ·exact A z g
 exact Int.lt_trans (A z g) (q u o)
def iu(b i:Int):Int:=((b.toNat ||| 2 ^ i.toNat:Nat):Int)
def rh(s:ax)(i:Int):ax:={s with b2:=iu s.b2 i}
def yn(b i:Int)(j:Nat):(iu b i).toNat.testBit j=(b.toNat.testBit j || decide (i.toNat=j)):=by
 unfold iu;rw[X2,Nat.testBit_or,Nat.testBit_two_pow]
def Hx{b i:Int}(g:0<=b)(e:0<=i/\i<=15)(j:Int):aU (iu b i) j=true↔aU b j=true\/j=i:=by
 rw[eB,eB,yn,O6,C0];have f:0<=iu b i:=by unfold iu;omega
 constructor
 ·rintro⟨h,c,d,a|a⟩
  ·exact .inl ⟨g,c,d,a⟩
  exact .inr ω
 rintro(⟨h,c,d,a⟩|rfl)
 ·exact⟨f,c,d,.inl a⟩
 exact⟨f,e.1,e.2,.inr rfl⟩
def ij{k:Int}(h:0<=k/\k<=3):lim k=2 ^ (slots k).toNat - 1/\0<=slots k/\slots k<=16/\slots k*csz k=16:=by
 obtain rfl|rfl|rfl|rfl:k=0\/k=1\/k=2\/k=3:=ω
 all_goals decide
def D0{s:ax}(h:bg s=true){i:Int}(k:0<=i/\i<slots s.d):bg (rh s i)=true:=by
 have b:=aF h;obtain⟨c,l,o,-⟩:=ij b.2.2;unfold bg at h;rw[C0]at h;obtain⟨d,e,f,g,p,a⟩:=h;refine O0 ⟨d,e,f,g,by show 0<=iu s.b2 i;unfold iu;omega,?_⟩;show iu s.b2 i<=lim s.d;rw[c]at a |-;have j:((2 ^ (slots s.d).toNat:Nat):Int)=(2:Int) ^ (slots s.d).toNat:=by norm_cast
 rw[<-j]at a |-;have:=Nat.or_lt_two_pow (x:=s.b2.toNat) (y:=2 ^ i.toNat) (n:=(slots s.d).toNat) ω (Nat.pow_lt_pow_right ω ω);unfold iu;omega
def B4{s u:ax}{i:Int}(b:0<=i/\i<slots s.d)(c:aU u.b2 i=false)(h:meshable s u=true):meshable (rh s i) u=true:=by
 unfold meshable at h |-;simp only[I0,C0]at h |-;obtain⟨⟨d,f⟩,k,l,o⟩:=h;have p:=aF d;obtain⟨r,t,w,-⟩:=ij p.2.2;have a:=eX f;refine⟨⟨D0 d b,f⟩,k,l,?_⟩;refine Nat.eq_of_testBit_eq λj=>?_
 have g:=X0 (λn=>Nat.testBit n j) o;simp only[Nat.testBit_and,Nat.zero_testBit,rh,yn]at g |-;by_cases e:i.toNat=j
 ·have:u.b2.toNat.testBit j=false:=by
   rw[<-U5];intro q;have:=(eB u.b2 i).2 ⟨a.1,b.1,ω,by rw[e];exact q⟩;rw[this]at c;cases c
  rw[this];simp
 rw[U0 e,Bool.or_false];exact g
def uN{s:ax}(h:bg s=true){i:Int}(n:0<=i/\i<slots s.d)(b:Int):eM (rh s i) b↔eM s b\/b=16*s.R+i*csz s.d:=by
 have g:=aF h;obtain⟨o,p,k,l⟩:=ij g.2.2;have j:=bP g.2.2;unfold eM;simp only[rh];rw[Hx (eX h).1 ω];constructor
 ·rintro⟨d,f,c,a|a⟩
  ·exact .inl ⟨d,f,c,a⟩
  right
  rcases j with e|e|e|e<;>rw[e]at c a |-<;>omega
 rintro(⟨d,f,c,a⟩|rfl)
 ·exact⟨d,f,c,.inl a⟩
 have q:slots s.d<=16:=k;rcases j with e|e|e|e<;>rw[e]at l |-<;>refine⟨?_,?_,?_,.inr ?_⟩<;>omega
def KY{sp:List ax}{i:Nat}(k:Int)(a:i<sp.length):(sp.set i (rh (nth sp i) k)).map (·.R)=sp.map (·.R):=by
 rw[I6];refine List.ext_getElem (by simp) λj b c=>?_
 rw[List.getElem_set];split
 ·rename_i e;subst e
  rw[List.getElem_map];show(nth sp i).R=_;rw[bm (I2 a)]
 rfl
def k6.setS{sp:List ax}{la:List aB}(p:sj sp la){i:Nat}(g:i<sp.length){k:Int}(h:0<=k/\k<slots (nth sp i).d)(b c:Int):k6 (sp.set i (rh (nth sp i) k)) b c↔k6 sp b c\/(b=16*(nth sp i).R+k*csz (nth sp i).d/\(c<0\/(nth sp i).d=c)):=by
 have d:=p.sok _ (am g);constructor
 ·rintro⟨s,l,f,a⟩
  rcases eE l with rfl|⟨j,n,q,rfl⟩
  ·rcases(uN d h b).1 f with o|o
   ·exact .inl ⟨_,am g,o,a⟩
   exact .inr ⟨o,a⟩
  exact .inl ⟨_,am n,f,a⟩
 rintro(⟨s,l,f,a⟩|⟨f,a⟩)
 ·obtain⟨j,n,rfl⟩:=aL l
  by_cases e:j=i
  ·subst e
   exact⟨_,jz _ g,(uN d h b).2 (.inl f),a⟩
  exact⟨_,kn _ n e,f,a⟩
 exact⟨_,jz _ g,(uN d h b).2 (.inr f),a⟩
def PH{h:ab}{E:List Int}(d:aY h E){i:Nat}(l:i<h.K.length){k:Int}(p:0<=k/\k<=15)(b:aU (i9 h i) k=false):aU (nth h.K i).b2 k=false/\∀u∈h.K,(nth (tbl h).J u.R.toNat).e=(nth (tbl h).J (nth h.K i).R.toNat).e->aU u.b2 k=false:=by
 have e:=d.L;have q:=eX (e.sok _ (am l));unfold i9 at b;rw[<-U5,A3 e.sok q p]at b;rw[not_or]at b;have r:aU (nth h.K i).b2 k=false:=by simpa using b.1
 have a:∀s∈h.K,s.R.toNat<eQ h/\(nth (tbl h).J s.R.toNat).j≠0/\((s.R.toNat:Nat):Int)=s.R:=λs f=>by
  have K:=aF (e.sok s f);have M:=d.pg.bnd s.R (dC f);have n:s.R.toNat<(tbl h).J.length:=ω
  have o:((s.R.toNat:Nat):Int)=s.R:=ω
  exact⟨n,(d.pg.own _ n).2 (by rw[o];exact dC f),o⟩
 refine⟨r,λu c t=>?_⟩;rw[<-U5];intro w;obtain⟨y,A,B⟩:=a _ (am l);obtain⟨C,D,F⟩:=a u c;have G:u.R∈aX h (nth h.K i).R:=by
  rw[<-B,fD y A,<-F];exact ew.2 ⟨C,D,t⟩
 obtain⟨v,H,g⟩:=aL G;obtain⟨j,J,rfl⟩:=aL c;exact b.2 ⟨v,H,j,J,g.symm,w⟩
def aY.take{h:ab}{E:List Int}{i:Nat}{k sd:Int}(g:aY h E)(C:i<h.K.length)(D:0<=k/\k<slots (nth h.K i).d)(r:aU (i9 h i) k=false)(M:0<=sd/\sd<=1073741823) :
  aY {h with c0:=sd,K:=h.K.set i (rh (nth h.K i) k)} ((16*(nth h.K i).R+k*csz (nth h.K i).d)::E):=by
 have F:=g.L;have T:=F.sok _ (am C);have Q:=aF T;obtain⟨l1,l2,l3,l4⟩:=ij Q.2.2;have hz:=bP Q.2.2;obtain⟨u1,u2⟩:=PH g C ⟨D.1,ω⟩ r;have n:=λb c=>k6.setS F C D b c
 have w:=KY k C;generalize ha:16*(nth h.K i).R+k*csz (nth h.K i).d=a at n |-;have G:¬eM (nth h.K i) a:=by
  rintro⟨-,-,-,h4⟩
  have:(a - 16*(nth h.K i).R) / csz (nth h.K i).d=k:=by
   rw[<-ha];rcases hz with e|e|e|e<;>rw[e]<;>omega
  rw[this,u1]at h4;cases h4
 have hrange:16*(nth h.K i).R<=a/\a<=16*(nth h.K i).R+15:=by
  rcases hz with e|e|e|e<;>rw[e]at ha l4<;>omega
 have U:¬mV h.K h.M a:=by
  rintro(⟨s,p,d,-⟩|⟨l,hl,e⟩)
  ·obtain⟨j,V,rfl⟩:=aL p
   have:=cM (f:=(·.R)) F.nd V C (by have a1:=d.1;have a2:=d.2.1;omega);subst this;exact G d
  exact(wX F hl).1 _ (am C) ω
 have W:a∉E++holders h:=λX=>U ((g.mem a).1 X)
 have q:∀s∈h.K.set i (rh (nth h.K i) k),∃u∈h.K,u.R=s.R/\(s=u\/(u=nth h.K i/\s=rh u k)):=λs p=>by
  rcases eE p with rfl|⟨j,V,hji,rfl⟩
  ·exact⟨_,am C,rfl,.inr ⟨rfl,rfl⟩⟩
  exact⟨_,am V,rfl,.inl rfl⟩
 generalize hsp:h.K.set i (rh (nth h.K i) k)=sp at n w q |-;have t:pgs sp h.M=pgs h.K h.M:=by unfold pgs;rw[w]
 have N:∀u∈h.K,∃s∈sp,s.R=u.R:=λu r=>by
  have:u.R∈sp.map (·.R):=by rw[w];exact O4.2 ⟨u,r,rfl⟩
  obtain⟨s,p,e⟩:=O4.1 this;exact⟨s,p,e⟩
 exact {g with
   lay:=by
     obtain⟨l1,l2,l3⟩:=dG g.lay;unfold bo;simp only[I0,C0];refine⟨⟨v4.2 λs p=>?_,l2⟩,by rw[t];exact l3⟩;obtain⟨u,r,-,rfl|⟨rfl,rfl⟩⟩:=q s p
     · exact F.sok _ r
     exact D0 (F.sok _ r) D
   srs:=by
     have d:(h.K.map (·.R)).Pairwise (λa b=>a<b):=List.pairwise_map.2 g.srs;rw[<-w]at d;exact List.pairwise_map.1 d
   pg:=⟨g.pg.one,by rw[t];exact g.pg.bnd,by rw[t];exact g.pg.own,g.pg.fre,λs p u r O hf=>by
     obtain⟨R,A,Y,Z⟩:=q s p;obtain⟨S,B,eu,P⟩:=q u r;have H:(nth (tbl h).J R.R.toNat).e=(nth (tbl h).J S.R.toNat).e:=by rw[Y,eu];exact hf
     have d:=g.pg.mesh R A S B (by rw[Y,eu];exact O) H;rcases Z with rfl|⟨rfl,rfl⟩
     · rcases P with rfl|⟨rfl,rfl⟩
       · exact d
       rw[io]at d |-;exact B4 D (u2 _ A H) d
     rcases P with rfl|⟨rfl,rfl⟩
     · exact B4 D (u2 _ B H.symm) d
     exact absurd (Y.symm.trans eu) O⟩
   nums:=by
     have:=g.nums;unfold cj at this |-;rw[C0]at this |-;exact⟨M.1,M.2,this.2.2⟩
   oow:=λo ho=>by
     rcases g.oow o ho with⟨s,p,d,h2⟩|d
     · obtain⟨u,r,g1,K⟩:=(n o.Addr (aJ o.u)).2 (.inl ⟨s,p,d,.inr h2⟩)
       refine .inl ⟨u,r,g1,?_⟩;rcases K with K|K
       · have:=aF (F.sok _ p);omega
       exact K
     exact .inr d
   hca:=λc Q k D b J=>(n b k).2 (.inl (g.hca c Q k D b J))
   hqu:=λy hy=>(n _ _).2 (.inl (g.hqu y hy))
   hfl:=λb J=>(n _ _).2 (.inl (g.hfl b J))
   hin:=λb J=>by
     rcases List.mem_cons.1 J with rfl|J
     · exact(n _ _).2 (.inr ⟨rfl,.inl (by decide)⟩)
     exact(n _ _).2 (.inl (g.hin b J))
   nd:=by
     rw[List.cons_append];exact List.nodup_cons.2 ⟨W,g.nd⟩
   mem:=λb=>by
     show b∈a::E++holders h↔mV sp h.M b;rw[List.cons_append,List.mem_cons,g.mem b];unfold mV;rw[n];constructor
     · rintro(rfl|d|d)
       · exact .inl (.inr ⟨rfl,.inl (by decide)⟩)
       · exact .inl (.inl d)
       exact .inr d
     rintro((d|⟨d,-⟩)|d)
     · exact .inr (.inl d)
     · exact .inl d
     exact .inr (.inr d)
   job:=λX=>by
     obtain⟨j1,⟨s,p,e1⟩,⟨u,r,e2⟩⟩:=g.job X;obtain⟨R,A,g1⟩:=N s p;obtain⟨S,B,K⟩:=N u r;exact⟨j1,⟨R,A,g1.trans e1⟩,⟨S,B,K.trans e2⟩⟩}
def rZ(c:aE)(k:Nat):aE:=⟨c.b.set k ((nth c.b k).take ((nth c.b k).length - 1))⟩
def NA{l:List Int}(h:0<l.length):l=l.take (l.length - 1)++[nth l (l.length - 1)]:=by
 have a:l.drop (l.length - 1)=[nth l (l.length - 1)]:=by
  rw[jb ω,show l.length - 1+1=l.length by omega,List.drop_length]
 rw[<-a,List.take_append_drop]
def aY.pop{h:ab}{E:List Int}{t k:Nat}(f:aY h E)(l:t<h.T.length)(p:k<(nth h.T t).b.length)(u:0<(nth (nth h.T t).b k).length)(w:bA (rZ (nth h.T t) k)=true) :
  aY {h with T:=h.T.set t (rZ (nth h.T t) k)} (nth (nth (nth h.T t).b k) ((nth (nth h.T t).b k).length - 1)::E)/\k6 h.K (nth (nth (nth h.T t).b k) ((nth (nth h.T t).b k).length - 1)) k:=by
 have q:=NA u;have n:=f.hca _ (am l) k p (nth (nth (nth h.T t).b k) ((nth (nth h.T t).b k).length - 1)) (am ω);refine⟨?_,n⟩;generalize D:nth (nth (nth h.T t).b k) ((nth (nth h.T t).b k).length - 1)=a at q n |-;have r:(E++holders h).Perm (a::E++holders {h with T:=h.T.set t (rZ (nth h.T t) k)}):=by
  refine List.perm_iff_count.2 λb=>?_
  have A:=ju (λc:aE=>c.b.flatten) b h.T t (rZ (nth h.T t) k) l;have B:=ju (λy:List Int=>y) b (nth h.T t).b k ((nth (nth h.T t).b k).take ((nth (nth h.T t).b k).length - 1)) p;rw[<-l8,<-l8]at B;have C:=X0 (List.count b) q;simp only[C6,List.count_singleton]at C;simp only[rZ]at A;simp only[holders,cG,rZ,C6,List.cons_append,List.count_cons];omega
 exact {f with
   nc:=by show(h.T.set ..).length=_;rw[U1];exact f.nc
   cach:=λc d=>by
     rcases V6 d with d|rfl
     · exact f.cach c d
     exact w
   onu:=by show ∀o∈h.O,1<=o.Id/\o.Id<=h.a - 1/\0<=o.a5/\o.a5<=(h.T.set t _).length - 1;rw[U1];exact f.onu
   hca:=λc d j i b g=>by
     rcases V6 d with d|rfl
     · exact f.hca c d j i b g
     simp only[rZ,U1]at i;simp only[rZ,bz]at g;by_cases e:k=j
     · subst e
       rw[CB ⟨rfl,i⟩]at g;exact f.hca _ (am l) _ i b (List.mem_of_mem_take g)
     rw[C9 λy=>e y.1]at g;exact f.hca _ (am l) _ i b g
   hin:=λb g=>by
     rcases List.mem_cons.1 g with rfl|g
     · exact n.any
     exact f.hin b g
   nd:=r.nodup_iff.1 f.nd
   mem:=λb=>by rw[<-r.mem_iff];exact f.mem b}
def P5(a:Int)(o:bt):Bool:=decide (a<=o.Addr)
def addO(h:ab)(a size t:Int):ab:={h with O:=jL (P5 a) h.O ⟨h.a,a,size,t⟩,a:=h.a+1}
def Bj{h:ab}(a:cj h=true)(b:h.a<1000000):decide (0<=h.c0/\h.c0<=1073741823/\0<=h.b3/\h.b3<=1000000/\0<=h.c3/\h.c3<=1000/\1<=h.a+1/\h.a+1<=1000000)=true:=by
 unfold cj at a;rw[C0]at a |-;omega
def aY.addO{h:ab}{E:List Int}{a size t:Int}(c:aY h (a::E))(d:LT h.K h.M ⟨h.a,a,size,t⟩)(p:h.a<1000000)(q:0<=t/\t<=h.T.length - 1):aY (addO h a size t) E:=by
 have i:=lg (P5 a) h.O ⟨h.a,a,size,t⟩;have n:(a::E++holders h).Perm (E++holders (Ab.addO h a size t)):=by
  have r:=i.map (·.Addr);refine List.perm_iff_count.2 λb=>?_
  have u:=r.count_eq b;simp only[Z5,List.count_cons]at u;simp only[holders,cG,Ab.addO,C6,List.cons_append,List.count_cons];omega
 have j:=c.nd;rw[List.cons_append]at j;obtain⟨k,-⟩:=List.nodup_cons.1 j;have l:∀o∈h.O,o.Addr≠a:=λo d e=>k (z3.2 (.inr (by unfold holders;simp only[z3];exact .inl (.inl (.inl (O4.2 ⟨o,d,e⟩))))))
 exact {c with
   nums:=Bj c.nums p
   osr:=ma (f:=λo:bt=>o.Addr) (y:=⟨h.a,a,size,t⟩) c.osr l
   onu:=λo d=>by
     rcases cI.1 d with rfl|d
     · have:=c.nums
       unfold cj at this;rw[C0]at this;exact⟨by show 1<=h.a;omega,by show h.a<=h.a+1 - 1;omega,q⟩
     have:=c.onu o d;exact⟨this.1,by show o.Id<=h.a+1 - 1;omega,this.2.2⟩
   oid:=by
     show((jL (P5 a) h.O ⟨h.a,a,size,t⟩).map (·.Id)).Nodup;rw[(i.map _).nodup_iff,Z5];refine List.nodup_cons.2 ⟨λw=>?_,c.oid⟩;obtain⟨o,d,e⟩:=O4.1 w;have:=(c.onu o d).2.1;simp only at e;omega
   oow:=λo g=>by
     rcases cI.1 g with rfl|g
     · exact d
     exact c.oow o g
   hin:=λb A=>c.hin b (O5 _ A)
   nd:=n.nodup_iff.1 c.nd
   mem:=λb=>by rw[<-n.mem_iff];exact c.mem b}
def j8(xs:List aA)(n:Int):Nat->Int
 | 0=>-1
 | i+1=>if n<=(nth xs i).b0/\(j8 xs n i<0\/(nth xs i).b0<(nth xs (j8 xs n i).toNat).b0) then(i:Nat) else j8 xs n i
def iz(xs:List aA)(n:Int):Int:=j8 xs n xs.length
def au(xs:List aA)(n:Int):List aA × Int × Bool:=
 if iz xs n<0 then(xs,-1,false)
 else if(nth xs (iz xs n).toNat).b0=n then(dele xs (iz xs n).toNat,(nth xs (iz xs n).toNat).At,true)
 else(xs.set (iz xs n).toNat ⟨(nth xs (iz xs n).toNat).At+n,(nth xs (iz xs n).toNat).b0 - n⟩,(nth xs (iz xs n).toNat).At,true)
def xo(xs:List aA)(n:Int):∀i,i<=xs.length->j8 xs n i = -1\/(0<=j8 xs n i/\j8 xs n i<i/\n<=(nth xs (j8 xs n i).toNat).b0)
 | 0,_=>.inl rfl
 | i+1,b=>by
  have a:=xo xs n i ω;unfold j8;split
  ·rename_i h;right;rw[X2];exact⟨ω,ω,h.1⟩
  rcases a with h|h
  ·exact .inl h
  exact .inr ⟨h.1,ω,h.2.2⟩
def yH{xs:List aA}(h:pn xs){i j:Nat}(a:i<j)(b:j<xs.length):(nth xs i).At+(nth xs i).b0<(nth xs j).At:=by
 have:=List.pairwise_iff_getElem.1 h.1 i j ω b a
 rwa [<-bm (I2 (show i<xs.length by omega)),<-bm (I2 b)]at this
def zb{xs:List aA}{p:Int} : RH xs p↔∃j,j<xs.length/\(nth xs j).At<=p/\p<(nth xs j).At+(nth xs j).b0:=by
 unfold RH;constructor
 ·rintro⟨r,b,h⟩
  obtain⟨j,a,rfl⟩:=aL b;exact⟨j,a,h⟩
 rintro⟨j,a,h⟩
 exact⟨_,am a,h⟩
def nX{pages:Int}{xs:List aA}{n:Int}(h:bC pages xs=true)(T:1<=n)(t:(au xs n).2.2=true) :
  bC pages (au xs n).1=true/\0<=(au xs n).2.1/\(au xs n).2.1+n<=pages/\(∀p,RH (au xs n).1 p↔RH xs p/\¬((au xs n).2.1<=p/\p<(au xs n).2.1+n))/\∀p,(au xs n).2.1<=p->p<(au xs n).2.1+n->RH xs p:=by
 obtain⟨o,u,J⟩:=fG.1 h;have K:=xo xs n xs.length (C3 _);unfold au at t |-;change iz xs n = -1\/_ at K;split at t
 ·cases t
 rename_i w;rw[C9 w];obtain⟨O,P,L⟩:=K.resolve_left ω;change 0<=iz xs n at O;change iz xs n<xs.length at P;change n<=(nth xs (iz xs n).toNat).b0 at L;generalize Q:(iz xs n).toNat=b at L |-;have g:b<xs.length:=ω
 have M:=u _ (am g);have q:∀j,j<xs.length->j≠b->(nth xs j).At+(nth xs j).b0<(nth xs b).At\/(nth xs b).At+(nth xs b).b0<(nth xs j).At:=λj a k=>by
  rcases Nat.lt_or_gt_of_ne k with A|B
  ·exact .inl (yH o A g)
  exact .inr (yH o B a)
 split
 ·rename_i R
  have C:(dele xs b).Sublist xs:=fQ ..;refine⟨fG.2 ⟨⟨o.1.sublist C,λy l=>o.2 y (C.subset l)⟩,λy l=>u y (C.subset l),J⟩,M.1,by show(nth xs b).At+n<=pages;omega,λp=>?_,λp D E=>zb.2 ⟨b,g,D,by show p<_;simp only at E;omega⟩⟩;simp only;rw[zb (xs:=xs)];constructor
  ·rintro⟨r,F,f,d⟩
   obtain⟨j,a,k,rfl⟩:=db.1 F;refine⟨⟨j,a,f,d⟩,λe=>?_⟩;have:=q j a k;omega
  rintro⟨⟨j,a,f,d⟩,G⟩
  exact⟨_,db.2 ⟨j,a,λe=>by subst e;omega,rfl⟩,f,d⟩
 rename_i R;have c:∀j,nth (xs.set b ⟨(nth xs b).At+n,(nth xs b).b0 - n⟩) j=if j=b then⟨(nth xs b).At+n,(nth xs b).b0 - n⟩ else nth xs j:=λj=>by
  rw[bz];by_cases e:j=b
  ·rw[CB ⟨e.symm,ω⟩,CB e]
  rw[C9 λz=>e z.1.symm,C9 e]
 refine⟨fG.2 ⟨⟨?_,λy l=>?_⟩,λy l=>?_,J⟩,M.1,by show(nth xs b).At+n<=pages;omega,λp=>?_,λp D E=>zb.2 ⟨b,g,D,by simp only at E;omega⟩⟩
 ·rw[List.pairwise_iff_getElem]
  intro i j N a H;rw[<-bm (I2 N),<-bm (I2 a),c,c];simp only[U1]at N a;have S:=yH o H a;split
  ·rename_i e;subst e
   rw[C9 ω];simp only;omega
  split
  ·rename_i e;subst e
   simp only;omega
  exact S
 ·rcases eE l with rfl|⟨j,a,-,rfl⟩
  ·simp only;omega
  exact o.2 _ (am a)
 ·rcases eE l with rfl|⟨j,a,-,rfl⟩
  ·simp only;omega
  exact u _ (am a)
 simp only;rw[zb,zb,U1];constructor
 ·rintro⟨j,a,f,d⟩
  rw[c]at f d;split at f
  ·rename_i e;subst e
   rw[CB rfl]at d;simp only at f d;exact⟨⟨j,a,ω,ω⟩,ω⟩
  rename_i e;rw[C9 e]at d;have:=q j a e;exact⟨⟨j,a,f,d⟩,ω⟩
 rintro⟨⟨j,a,f,d⟩,G⟩
 refine⟨j,a,?_⟩;rw[c];split
 ·rename_i e;subst e
  simp only;omega
 exact⟨f,d⟩
def sf(k:af):Int:=dH (λu=>!u) k.F.V.a3
def rj(k:af)(p:Int)(f:Nat):af:={k with F:=⟨⟨k.F.V.S,k.F.V.a3.set f true⟩,⟨k.F.Q.J.set p.toNat ⟨2,(f:Nat)⟩⟩⟩}
def newK(k:af)(p:Int):af × Bool:=if refd k=true\/sf k<0 then(bZ k,false) else(rj (bZ k) p (sf k).toNat,true)
def EF{k:af}(h:¬sf k<0):(sf k).toNat<k.F.V.a3.length/\nth k.F.V.a3 (sf k).toNat=false:=by
 unfold sf at h |-;rcases mu (λu=>!u) k.F.V.a3 with e|⟨n,a,e,b⟩
 ·omega
 rw[e,X2];exact⟨a,by simpa using b⟩
def A9{k:af}(h:ay k=true){f:Nat}(b:f<k.F.V.a3.length)(c:nth k.F.V.a3 f=false)(q:Nat)(d:q<k.F.Q.J.length)(g:(nth k.F.Q.J q).j≠0):(nth k.F.Q.J q).e≠(f:Nat):=by
 obtain⟨j,l,n,i,o⟩:=a8.1 h;intro e;have a:=i f b;rw[c]at a;have:=of_decide_eq_false a.symm;exact this (dK.2 ⟨q,d,g,e⟩)
def Q3{k:af}{p:Int}{f:Nat}(h:ay k=true)(L:0<=p/\p<k.F.Q.J.length)(n:(nth k.F.Q.J p.toNat).j=0)(o:f<k.F.V.a3.length)(r:nth k.F.V.a3 f=false):ay (rj k p f)=true:=by
 have t:=A9 h o r;obtain⟨u,w,y,A,B⟩:=a8.1 h;obtain⟨C,D,E,F⟩:=aS.1 w;obtain⟨G,H,J⟩:=br.1 y;have a:∀q,nth (k.F.Q.J.set p.toNat ⟨2,(f:Nat)⟩) q=if p.toNat=q then⟨2,(f:Nat)⟩ else nth k.F.Q.J q:=λq=>by
  rw[bz];by_cases i:p.toNat=q
  ·rw[CB ⟨i,ω⟩,CB i]
  rw[C9 (λe=>i e.1),C9 i]
 refine a8.2 ⟨u,aS.2 ⟨C,D,by simp only[rj,U1];exact E,λj b=>?_⟩,br.2 ⟨λj b=>?_,?_,?_⟩,λj b=>?_,B⟩
 ·replace b:j<k.F.V.S.length:=b
  show gY (nth k.F.V.S j) (nth (k.F.V.a3.set f true) j)=true;have d:=F j b;rw[bz];split
  ·unfold gY at d |-
   simp only[I0,C0,v4]at d |-;refine⟨d.1,λv K=>?_⟩;have:=d.2 v K;unfold iT at this |-;simp only[I0]at this;rw[this.1];rfl
  exact d
 ·simp only[rj,U1]at b |-
  rw[a];split
  ·unfold kH;rw[C0];simp only;omega
  exact G j b
 ·simp only[rj,U1];exact H
 ·simp only[rj,U1];exact J
 simp only[rj,U1]at b;show nth (k.F.V.a3.set f true) j=_;rw[bz];by_cases e:f=j
 ·subst e
  rw[CB ⟨rfl,b⟩];refine(O0 (dK.2 ⟨p.toNat,?_,?_,?_⟩)).symm
  ·simp only[rj,U1];omega
  ·simp only[rj,a,CB];decide
  simp only[rj,a,CB]
 rw[C9 λz=>e z.1,A j b];refine decide_eq_decide.2 ?_;rw[dK,dK];simp only[rj,U1,a];constructor
 ·rintro⟨q,l,g,c⟩
  refine⟨q,l,?_⟩;rw[C9 λz=>g (by rw[<-z];exact n)];exact⟨g,c⟩
 rintro⟨q,l,g,c⟩
 by_cases z:p.toNat=q
 ·rw[CB z]at c
  simp only at c;omega
 rw[C9 z]at g c;exact⟨q,l,g,c⟩
structure we(k:af)(p:Int)(r:af × Bool):Prop where
 ker:ay r.1=true
 len:r.1.F.Q.J.length=k.F.Q.J.length
 calls:r.1.Calls=k.Calls+1
 ref:r.1.w=k.w
 cells:r.1.F.V.S=k.F.V.S
 no:r.2=false->r.1=bZ k
 yes:r.2=true->∃f:Nat,f<k.F.V.a3.length/\nth k.F.V.a3 f=false/\(∀q:Nat,nth r.1.F.Q.J q=if(q:Int)=p then⟨2,(f:Nat)⟩ else nth k.F.Q.J q)/\∀q,q<k.F.Q.J.length->(nth k.F.Q.J q).j≠0->(nth k.F.Q.J q).e≠(f:Nat)
def we.of{k:af}{p:Int}(h:ay k=true)(c:k.Calls≠100000)(f:0<=p/\p<k.F.Q.J.length)(g:(nth k.F.Q.J p.toNat).j=0):we k p (newK k p):=by
 unfold newK;split
 ·exact⟨mS h c,rfl,rfl,rfl,rfl,λ_=>rfl,λe=>by cases e⟩
 rename_i d;rw[not_or]at d;obtain⟨a,b⟩:=EF d.2;refine⟨Q3 (mS h c) f g a b,by simp[rj,bZ],rfl,rfl,rfl,λe=>(by cases e),λ_=>⟨_,a,b,λq=>?_,λq=>A9 h a b q⟩⟩;simp only[rj,bZ,bz];by_cases e:(q:Int)=p
 ·rw[CB ⟨ω,ω⟩,CB e]
 rw[C9 λz=>e ω,C9 e]
def newsK(k:af)(p:Int):Nat->af × Nat
 | 0=>(k,0)
 | i+1=>if(newsK k p i).2=i then((newK (newsK k p i).1 (p+(i:Nat))).1,if(newK (newsK k p i).1 (p+(i:Nat))).2=true then i+1 else i) else newsK k p i
structure lX(k:af)(p:Int)(i:Nat)(r:af × Nat):Prop where
 ker:ay r.1=true
 len:r.1.F.Q.J.length=k.F.Q.J.length
 calls:k.Calls<=r.1.Calls/\r.1.Calls<=k.Calls+i
 ref:r.1.w=k.w
 cells:r.1.F.V.S=k.F.V.S
 le:r.2<=i
 out:∀q:Nat,¬(p<=q/\(q:Int)<p+r.2)->nth r.1.F.Q.J q=nth k.F.Q.J q
 new:∀q:Nat,p<=q->(q:Int)<p+r.2->(nth r.1.F.Q.J q).j=2/\∀u:Nat,u<k.F.Q.J.length->(nth r.1.F.Q.J u).j≠0->(nth r.1.F.Q.J u).e=(nth r.1.F.Q.J q).e->u=q
def lX.of{k:af}{p:Int}{n:Nat}(h:ay k=true)(G:k.Calls+n<=100000)(H:0<=p/\p+n<=k.F.Q.J.length)(C:∀q:Nat,p<=q->(q:Int)<p+n->(nth k.F.Q.J q).j=0):∀i,i<=n->lX k p i (newsK k p i)
 | 0,_=>⟨h,rfl,⟨v5 _,by show k.Calls<=k.Calls+((0:Nat):Int);omega⟩,rfl,rfl,C3 _,λ_ _=>rfl,λq o d=>by simp only[newsK]at d;omega⟩
 | i+1,L=>by
  have a:=lX.of h G H C i ω;unfold newsK;split
  case isFalse=>exact⟨a.ker,a.len,⟨a.calls.1,by have:=a.calls.2;omega⟩,a.ref,a.cells,by have:=a.le;omega,a.out,a.new⟩
  rename_i t;generalize newsK k p i=r at a t |-;have J:=a.calls;have y:(nth r.1.F.Q.J (p+(i:Nat)).toNat).j=0:=by
   rw[a.out _ ω];exact C _ ω ω
  have s:=we.of (p:=p+(i:Nat)) a.ker ω ⟨ω,by rw[a.len];omega⟩ y;generalize newK r.1 (p+(i:Nat))=w at s |-;refine⟨s.ker,s.len.trans a.len,⟨by simp only[s.calls];omega,by simp only[s.calls];omega⟩,s.ref.trans a.ref,s.cells.trans a.cells,by simp only;split<;>omega,λq j=>?_,λq o d=>?_⟩
  ·simp only at j |-
   cases e:w.2 with
   | false=>
    rw[s.no e];rw[e]at j;exact a.out q (by rw[t];simpa using j)
   | true=>
    obtain⟨f,-,-,g,-⟩:=s.yes e;rw[e,CB rfl]at j;rw[g,C9 ω];exact a.out q ω
  simp only at d |-;cases e:w.2 with
  | false=>
   rw[s.no e];rw[e]at d;exact a.new q o (by rw[t];simpa using d)
  | true=>
   obtain⟨f,-,-,g,D⟩:=s.yes e;rw[e,CB rfl]at d;have A:q<k.F.Q.J.length:=ω
   rw[g];by_cases E:(q:Int)=p+(i:Nat)
   ·rw[CB E]
    refine⟨rfl,λu B c b=>?_⟩;rw[g]at c b;by_cases l:(u:Int)=p+(i:Nat)
    ·omega
    rw[C9 l]at c b;exact absurd b (D u (by rw[a.len];exact B) c)
   rw[C9 E];obtain⟨F,K⟩:=a.new q o ω;refine⟨F,λu B c b=>?_⟩;rw[g]at c b;by_cases l:(u:Int)=p+(i:Nat)
   ·rw[CB l]at b
    exact absurd b.symm (D q (by rw[a.len];exact A) (by rw[F];decide))
   rw[C9 l]at c b;exact K u B c b
def lX.undo{k:af}{p:Int}{i:Nat}{r:af × Nat}(s:lX k p i r)(h:ay k=true)(d:0<=p/\p+i<=k.F.Q.J.length)(e:∀q:Nat,p<=q->(q:Int)<p+i->(nth k.F.Q.J q).j=0):ay (unmN r.1 p r.2)=true/\tEq k.F.Q (unmN r.1 p r.2).F.Q:=by
 have f:=s.le;have g:=mN s.ker d.1 r.2 (by rw[s.len];omega);refine⟨jh s.ker p r.2,((fV r.1 p r.2).1).trans s.len,λq=>?_⟩;rw[g];split
 ·rename_i a
  have c:=e q a.1 ω;obtain⟨-,-,j,-⟩:=a8.1 h;have b:=(br.1 j).1 q ω;unfold kH at b;rw[C0]at b;exact⟨⟨λz=>absurd rfl z,λz=>absurd c z⟩,(b.2.2.1 c).symm⟩
 rename_i a;rw[s.out q a];exact⟨Iff.rfl,rfl⟩
def Pg.add{t h:aG}{O r:List aA}{sp b:List ax}{la d:List aB}{p:Int}{n:Nat}(i:Pg t O sp la)(E:h.J.length=t.J.length)(S:p+n<=t.J.length)(hp:0<=p)(j:∀q:Nat,¬(p<=q/\(q:Int)<p+n)->nth h.J q=nth t.J q)(a:∀q:Nat,p<=q->(q:Int)<p+n->(nth h.J q).j=2/\∀u:Nat,u<t.J.length->(nth h.J u).j≠0->(nth h.J u).e=(nth h.J q).e->u=q)(J:∀q,RH r q↔RH O q/\¬(p<=q/\q<p+n))(F:∀q,q∈pgs b d↔q∈pgs sp la\/(p<=q/\q<p+n))(w:∀s∈b,0<=s.R/\(s∈sp\/(p<=s.R/\s.R<p+n)))(K:∀l∈d,l∈la\/∀q∈lpgs l l.a4.toNat,p<=q/\q<p+n):Pg h r b d:=by
 have f:∀q:Nat,q<t.J.length->((nth h.J q).j≠0↔(q:Int)∈pgs b d):=λq c=>by
  rw[F];by_cases e:p<=q/\(q:Int)<p+n
  ·have:=(a q e.1 e.2).1
   exact⟨λ_=>.inr e,λ_=>by rw[this];decide⟩
  rw[j q e,i.own q c];exact⟨.inl,λz=>z.resolve_right e⟩
 refine⟨λl A q c u k L G=>?_,λq c=>?_,λq c=>f q (by rw[<-E];exact c),λq c=>?_,λs P u k M H=>?_⟩
 ·rw[E]at k
  have B:=gt (sp:=b) A c;have C:q<t.J.length:=by
   rcases(F _).1 B with g|g
   ·have:=i.bnd _ g;omega
   omega
  by_cases e:p<=q/\(q:Int)<p+n
  ·exact(a q e.1 e.2).2 u k L G
  have N:=(K l A).resolve_right λg=>e (g _ c)
  by_cases o:p<=u/\(u:Int)<p+n
  ·exact((a u o.1 o.2).2 q C ((f q C).2 B) G.symm).symm
  rw[j q e,j u o]at G;rw[j u o]at L;exact i.one l N q c u k L G
 ·rw[E]
  rcases(F _).1 c with g|g
  ·exact i.bnd _ g
  omega
 ·rw[E]at c
  rw[J];by_cases e:p<=q/\(q:Int)<p+n
  ·have:=(a q e.1 e.2).1
   exact⟨λ_ z=>z.2 e,λ_=>by rw[this];decide⟩
  rw[j q e,i.fre q c];exact⟨λz y=>z y.1,λz y=>z ⟨y,e⟩⟩
 obtain⟨T,U⟩:=w s P;obtain⟨V,W⟩:=w u k;have D:∀y∈b,0<=y.R->y.R.toNat<t.J.length/\((y.R.toNat:Nat):Int)=y.R/\(nth h.J y.R.toNat).j≠0:=λy X Y=>by
  have g:=dC (la:=d) X;have Q:y.R.toNat<t.J.length:=by
   rcases(F _).1 g with R|R
   ·have:=i.bnd _ R;omega
   omega
  exact⟨Q,ω,(f _ Q).2 (by rw[show((y.R.toNat:Nat):Int)=y.R by omega];exact g)⟩
 obtain⟨Z,sc,sd⟩:=D s P T;obtain⟨ub,uc,ud⟩:=D u k V;by_cases es:p<=s.R/\s.R<p+n
 ·have:=(a s.R.toNat ω ω).2 _ ub ud H.symm
  omega
 by_cases o:p<=u.R/\u.R<p+n
 ·have:=(a u.R.toNat ω ω).2 _ Z sd H
  omega
 rw[j _ ω,j _ ω]at H;exact i.mesh s (U.resolve_right es) u (W.resolve_right o) M H
def G0{sp a:List ax}{la b:List aB}(c:a.Perm sp)(d:b.Perm la):(pgs a b).Perm (pgs sp la):=by
 unfold pgs;exact(c.map _).append (d.flatMap_right _)
def H3(p:Int)(s:ax):Bool:=decide (p<=s.R)
def QT(p:Int)(l:aB):Bool:=decide (p<=l.R)
def addS(h:ab)(k:af)(a:List aA)(p c:Int):ab:={h with G:=k,q:=a,K:=jL (H3 p) h.K ⟨p,c,0⟩}
def jR{h:ab}{E:List Int}(a:aY h E){n:Int}(j:1<=n)(k:(au h.q n).2.2=true):0<=(au h.q n).2.1/\(au h.q n).2.1+n<=(tbl h).J.length/\(∀q:Nat,(au h.q n).2.1<=q->(q:Int)<(au h.q n).2.1+n->(nth (tbl h).J q).j=0)/\∀q:Int,(au h.q n).2.1<=q->q<(au h.q n).2.1+n->q∉pgs h.K h.M:=by
 obtain⟨r,l,f,t,o⟩:=nX a.rng j k;have g:∀q:Nat,(au h.q n).2.1<=q->(q:Int)<(au h.q n).2.1+n->(nth (tbl h).J q).j=0:=λq b c=>by
  have d:q<(tbl h).J.length:=by
   have:(au h.q n).2.1+n<=((tbl h).J.length:Nat):=f;omega
  by_cases e:(nth (tbl h).J q).j=0
  ·exact e
  exact absurd (o q b c) ((a.pg.fre q d).1 e)
 refine⟨l,f,g,λq b c i=>?_⟩;have u:=a.pg.bnd q i;obtain⟨m,rfl⟩:=Z2 (show 0<=q by omega);have p:=(a.pg.own m ω).2 i;exact p (g m b c)
def aY.addS{h:ab}{E:List Int}{c:Int}(a:aY h E)(H:0<=c/\c<=3)(F:(au h.q 1).2.2=true){k:af}(s:we h.G (au h.q 1).2.1 (k,true)):aY (addS h k (au h.q 1).1 (au h.q 1).2.1 c) E:=by
 obtain⟨U,G,r3,J,r5⟩:=nX a.rng (v5 _) F;obtain⟨-,V,u3,W⟩:=jR a (v5 _) F;generalize (au h.q 1).2.1=p at G r3 J r5 V u3 W s |-;generalize (au h.q 1).1=fr at U J |-;obtain⟨f,f1,f2,K,f4⟩:=s.yes rfl;have M:=(br.1 (a8.1 a.ker).2.2.1).2.2;change (tbl h).J.length<=32 at M;have X:=a.L;have N:=lg (H3 p) h.K ⟨p,c,0⟩;have O:=G0 N (List.Perm.refl h.M);have w:(pgs (jL (H3 p) h.K ⟨p,c,0⟩) h.M).Perm (p::pgs h.K h.M):=O;have B:p∉pgs h.K h.M:=W p (v5 _) ω;have P:∀z∈h.K,z.R≠p:=λz g e=>B (by rw[<-e];exact dC g)
 have i:∀b d,k6 (jL (H3 p) h.K ⟨p,c,0⟩) b d↔k6 h.K b d:=λb d=>by
  constructor
  ·rintro⟨s,C,A,Q⟩
   rcases cI.1 C with rfl|C
   ·exact absurd A (wL rfl b)
   exact⟨s,C,A,Q⟩
  rintro⟨s,C,A⟩
  exact⟨s,cI.2 (.inr C),A⟩
 exact {a with
   ker:=s.ker
   rng:=by show bC ((k.F.Q.J.length:Nat):Int) fr=true;rw[s.len];exact U
   lay:=by
     obtain⟨l1,l2,l3⟩:=dG a.lay;unfold bo;simp only[I0,C0];refine⟨⟨v4.2 λz g=>?_,l2⟩,w.nodup_iff.2 (List.nodup_cons.2 ⟨B,l3⟩)⟩;rcases cI.1 g with rfl|g
     · have R:0<=lim c:=by
         have:=(ij H).1;obtain rfl|rfl|rfl|rfl:c=0\/c=1\/c=2\/c=3:=ω
         all_goals decide
       exact O0 ⟨G,by show p<=31;omega,H.1,H.2,v5 _,R⟩
     exact X.sok z g
   srs:=ma (f:=λz:ax=>z.R) (y:=⟨p,c,0⟩) a.srs P
   pg:=by
     refine a.pg.add (p:=p) (n:=1) s.len (by exact V) G (λq Y=>?_) (λq q1 q2=>?_) (λq=>J q) (λq=>?_) (λz g=>?_) (λl hl=>.inl hl)
     · exact(K q).trans (C9 ω)
     · have Y:(q:Int)=p:=ω
       have Z:nth k.F.Q.J q = ⟨2,(f:Nat)⟩:=(K q).trans (CB Y);refine⟨X0 bh.j Z,λu S t r=>?_⟩;have fu:nth k.F.Q.J u=if(u:Int)=p then⟨2,(f:Nat)⟩ else nth h.G.F.Q.J u:=K u
       change (nth k.F.Q.J u).j≠0 at t;change (nth k.F.Q.J u).e=(nth k.F.Q.J q).e at r;rw[fu]at t r;rw[Z]at r;by_cases eu:(u:Int)=p
       · omega
       rw[C9 eu]at t r;exact absurd r (f4 u S t)
     · show q∈pgs (jL (H3 p) h.K ⟨p,c,0⟩) h.M↔_
       rw[w.mem_iff,List.mem_cons];constructor
       · rintro(e|e)
         · exact .inr ⟨ω,ω⟩
         exact .inl e
       rintro(e|e)
       · exact .inr e
       exact .inl ω
     rcases cI.1 g with rfl|g
     · exact⟨G,.inr ⟨v5 _,by show p<p+((1:Nat):Int);omega⟩⟩
     exact⟨(aF (X.sok z g)).1,.inl g⟩
   oow:=λo F=>by
     rcases a.oow o F with⟨z,g,A,Q⟩|A
     · exact .inl ⟨z,cI.2 (.inr g),A,Q⟩
     exact .inr A
   hca:=λd hd j hj b D=>(i b j).2 (a.hca d hd j hj b D)
   hqu:=λy T=>(i _ _).2 (a.hqu y T)
   hfl:=λb D=>(i _ _).2 (a.hfl b D)
   hin:=λb D=>(i _ _).2 (a.hin b D)
   mem:=λb=>(a.mem b).trans (by
     show mV h.K h.M b↔mV (jL (H3 p) h.K ⟨p,c,0⟩) h.M b;unfold mV;rw[i])
   job:=λhm=>by
     obtain⟨j1,⟨y,T,e1⟩,⟨u,S,e2⟩⟩:=a.job hm;exact⟨j1,⟨y,cI.2 (.inr T),e1⟩,⟨u,cI.2 (.inr S),e2⟩⟩}
def addL(h:ab)(k:af)(a:List aA)(p n size t:Int):ab:={h with G:=k,q:=a,M:=jL (QT p) h.M ⟨p,n,size⟩,O:=jL (P5 (16*p)) h.O ⟨h.a,16*p,size,t⟩,a:=h.a+1}
def aY.addL{h:ab}{E:List Int}{size t:Int}{n:Nat}(a:aY h E)(g:9<=size/\size<=1000)(J:(n:Int)=(size+15) / 16)(i:(au h.q n).2.2=true){k:af}(s:lX h.G (au h.q n).2.1 n (k,n))(hn:h.a<1000000)(ht:0<=t/\t<=h.T.length - 1) :
  aY (addL h k (au h.q n).1 (au h.q n).2.1 n size t) E:=by
 have B:(1:Int)<=n:=ω
 obtain⟨V,K,r3,M,r5⟩:=nX a.rng B i;obtain⟨-,W,u3,H⟩:=jR a B i;generalize (au h.q n).2.1=p at K r3 M r5 W u3 H s |-;generalize (au h.q n).1=fr at V M |-;have N:=(br.1 (a8.1 a.ker).2.2.1).2.2;change (tbl h).J.length<=32 at N;have O:=a.L;have P:=lg (QT p) h.M ⟨p,n,size⟩;have C:=lg (P5 (16*p)) h.O ⟨h.a,16*p,size,t⟩;have Q:lpgs ⟨p,n,size⟩ ((n:Nat):Int).toNat=lpgs ⟨p,n,size⟩ n:=by rw[X2]
 have D:(pgs h.K (jL (QT p) h.M ⟨p,n,size⟩)).Perm (lpgs ⟨p,n,size⟩ n++pgs h.K h.M):=by
  refine(G0 (List.Perm.refl h.K) P).trans ?_;unfold pgs;rw[X6];simp only[Q];rw[<-W5,<-W5];exact List.perm_append_comm.append_right _
 have u:∀q,q∈lpgs ⟨p,n,size⟩ n↔p<=q/\q<p+n:=λq=>by
  rw[dy];constructor
  ·rintro⟨j,hj,rfl⟩;exact⟨by show p<=p+(j:Int);omega,by show p+(j:Int)<_;omega⟩
  rintro⟨X,Y⟩;exact⟨(q - p).toNat,ω,by show q=p+_;omega⟩
 have R:(lpgs ⟨p,n,size⟩ n).Nodup:=by
  unfold lpgs List.Nodup;rw[List.pairwise_map];exact List.nodup_range.imp λr e=>r (by simp only at e;omega)
 have r:∀z∈h.M,z.R≠p:=λz g e=>H p (v5 _) ω (by rw[<-e];exact gt g (dy.2 ⟨0,by have:=aO (O.lok z g);omega,ω⟩))
 have S:¬mV h.K h.M (16*p):=by
  rintro(⟨z,g,d,-⟩|⟨l,c,e⟩)
  ·exact H p (v5 _) ω (by rw[show p=z.R by have a1:=d.1;have a2:=d.2.1;omega];exact dC g)
  exact r l c ω
 have F:(16*p)∉E++holders h:=λT=>S ((a.mem _).1 T)
 have U:∀o∈h.O,o.Addr≠16*p:=λo i e=>F (z3.2 (.inr (by unfold holders;simp only[z3];exact .inl (.inl (.inl (O4.2 ⟨o,i,e⟩))))))
 have Z:(E++holders (Ab.addL h k fr p n size t)).Perm ((16*p)::(E++holders h)):=by
  have h0:=C.map (·.Addr);refine List.perm_iff_count.2 λb=>?_
  have d:=h0.count_eq b;simp only[Z5,List.count_cons]at d;simp only[holders,cG,Ab.addL,C6,List.count_cons];omega
 exact {a with
   ker:=s.ker
   rng:=by show bC ((k.F.Q.J.length:Nat):Int) fr=true;rw[s.len];exact V
   lay:=by
     obtain⟨l1,l2,l3⟩:=dG a.lay;unfold bo;simp only[I0,C0];refine⟨⟨l1,v4.2 λz w=>?_⟩,D.nodup_iff.2 (List.nodup_append.2 ⟨R,l3,λq G b hb e=>?_⟩)⟩
     · rcases cI.1 w with rfl|w
       · exact O0 ⟨g.1,g.2,J,K,by show p<=32 - (n:Int);omega⟩
       exact O.lok z w
     subst e;have:=(u q).1 G;exact H q this.1 this.2 hb
   srl:=ma (f:=λz:aB=>z.R) (y:=⟨p,n,size⟩) a.srl r
   pg:=by
     refine a.pg.add (p:=p) (n:=n) s.len (by exact W) K (λq G=>s.out q G) (λq X Y=>s.new q X Y) (λq=>M q) (λq=>?_) (λz g=>⟨(aF (O.sok z g)).1,.inl g⟩) (λl c=>?_)
     · show q∈pgs h.K (jL (QT p) h.M ⟨p,n,size⟩)↔_
       rw[D.mem_iff,z3,u];exact Or.comm
     rcases cI.1 c with rfl|c
     · exact .inr λq G=>(u q).1 (by simpa using G)
     exact .inl c
   nums:=Bj a.nums hn
   osr:=ma (f:=λo:bt=>o.Addr) (y:=⟨h.a,16*p,size,t⟩) a.osr U
   onu:=λo i=>by
     rcases cI.1 i with rfl|i
     · have:=a.nums
       unfold cj at this;rw[C0]at this;exact⟨by show 1<=h.a;omega,by show h.a<=h.a+1 - 1;omega,ht⟩
     have:=a.onu o i;exact⟨this.1,by show o.Id<=h.a+1 - 1;omega,this.2.2⟩
   oid:=by
     show((jL (P5 (16*p)) h.O ⟨h.a,16*p,size,t⟩).map (·.Id)).Nodup;rw[(C.map _).nodup_iff,Z5];refine List.nodup_cons.2 ⟨λT=>?_,a.oid⟩;obtain⟨o,i,e⟩:=O4.1 T;have:=(a.onu o i).2.1;simp only at e;omega
   oow:=λo A=>by
     rcases cI.1 A with rfl|A
     · exact .inr ⟨_,cI.2 (.inl rfl),rfl,rfl⟩
     rcases a.oow o A with d|⟨l,c,d⟩
     · exact .inl d
     exact .inr ⟨l,cI.2 (.inr c),d⟩
   nd:=Z.nodup_iff.2 (List.nodup_cons.2 ⟨F,a.nd⟩)
   mem:=λb=>by
     rw[Z.mem_iff,List.mem_cons,a.mem b];show _↔mV h.K (jL (QT p) h.M ⟨p,n,size⟩) b;unfold mV;constructor
     · rintro(rfl|d|⟨l,c,e⟩)
       · exact .inr ⟨_,cI.2 (.inl rfl),rfl⟩
       · exact .inl d
       exact .inr ⟨l,cI.2 (.inr c),e⟩
     rintro(d|⟨l,c,e⟩)
     · exact .inr (.inl d)
     rcases cI.1 c with rfl|c
     · exact .inl e
     exact .inr (.inr ⟨l,c,e⟩)}
structure JK(h h':ab):Prop where
 job:h'.Y=h.Y
 msh:h'.o=h.o
 sp:∀s∈h.K,gq h s.R=true->∃s'∈h'.K,s'.R=s.R/\∀u,meshable s u=true->meshable s' u=true
 ent:∀q:Nat,(nth (tbl h').J q).j≠0->((nth (tbl h).J q).j≠0/\(nth (tbl h').J q).e=(nth (tbl h).J q).e)\/∀u:Nat,(nth (tbl h').J u).j≠0->(nth (tbl h').J u).e=(nth (tbl h').J q).e->u=q
def JK.refl(h:ab):JK h h:=⟨rfl,rfl,λs a _=>⟨s,a,rfl,λ_ z=>z⟩,λ_ b=>.inl ⟨b,rfl⟩⟩
def JK.pg{h h':ab}(k:JK h h')(p:Int):gq h' p=gq h p:=by unfold gq;rw[k.job,k.msh]
def JK.trans{h h1 g:ab}(a:JK h h1)(b:JK h1 g):JK h g:=by
 refine⟨b.job.trans a.job,b.msh.trans a.msh,λs o i=>?_,λq j=>?_⟩
 ·obtain⟨p,r,k,t⟩:=a.sp s o i
  obtain⟨w,y,A,B⟩:=b.sp p r (by rw[a.pg,k];exact i);exact⟨w,y,A.trans k,λu c=>B u (t u c)⟩
 rcases b.ent q j with⟨d,l⟩|d
 ·rcases a.ent q d with⟨e,C⟩|e
  ·exact .inl ⟨e,l.trans C⟩
  refine .inr λu c n=>?_
  rcases b.ent u c with⟨f,D⟩|f
  ·exact e u f (by rw[<-D,<-l];exact n)
  exact(f q j n.symm).symm
 exact .inr d
def oM.keep{h h':ab}{p:Int}(f:0<=p)(d:(nth (tbl h').J p.toNat).j≠0)(g:oM (tbl h) p)(k:JK h h'):oM (tbl h') p:=λq e c=>by
 rcases k.ent p.toNat d with⟨n,i⟩|a
 ·rcases k.ent q e with⟨j,l⟩|b
  ·exact g q j (by rw[<-l,c,i])
  have:=b p.toNat d c.symm;omega
 have:=a q e c;omega
def aY.mapped{h:ab}{E:List Int}(a:aY h E){s:ax}(b:s∈h.K):0<=s.R/\s.R<(tbl h).J.length/\(nth (tbl h).J s.R.toNat).j≠0:=by
 have c:=(aF (a.L.sok s b)).1;have d:=a.pg.bnd _ (dC (la:=h.M) b);refine⟨c,d,(a.pg.own s.R.toNat ω).2 ?_⟩;rw[show((s.R.toNat:Nat):Int)=s.R by omega];exact dC b
def JI.keep{h h':ab}{E:List Int}(l:JI h)(p:aY h' E)(k:JK h h'):JI h':=by
 have d:h.o=true->∃a∈h'.K,∃b∈h'.K,a.R=h.Y.W.a2/\b.R=h.Y.W.a0/\meshable a b=true:=λc=>by
  obtain⟨a,n,b,o,f,g,e⟩:=l.sp c;obtain⟨q,t,u,w⟩:=k.sp a n (by unfold gq;rw[c,f];simp);obtain⟨y,A,B,C⟩:=k.sp b o (by unfold gq;rw[c,g];simp);refine⟨q,t,y,A,u.trans f,B.trans g,?_⟩;have r:=w b e;rw[io]at r |-;exact C q r
 refine⟨λc=>?_,λc=>?_,λc=>?_,λc=>?_⟩
 ·rw[k.msh]at c;rw[k.job];exact l.ph c
 ·rw[k.msh]at c;rw[k.job];exact d c
 ·rw[k.msh]at c
  obtain⟨a,n,b,o,f,g,e⟩:=d c;obtain⟨i,D,j⟩:=p.mapped n;rw[k.job];rw[f]at i j;exact(l.sk c).keep i j k
 rw[k.msh]at c;obtain⟨a,n,b,o,f,g,e⟩:=d c;obtain⟨i,D,j⟩:=p.mapped o;rw[k.job];rw[g]at i j;exact(l.sm c).keep i j k
def JK.less{h h':ab}(h1:h'.Y=h.Y)(c:h'.o=h.o)(d:h'.K=h.K)(b:∀q:Nat,(nth (tbl h').J q).j≠0->nth (tbl h').J q=nth (tbl h).J q):JK h h':=
 ⟨h1,c,λs e _=>⟨s,by rw[d];exact e,rfl,λ_ z=>z⟩,λq a=>.inl ⟨by rw[<-b q a];exact a,by rw[b q a]⟩⟩
def JK.eq{h h':ab}(h1:h'.Y=h.Y)(a:h'.o=h.o)(b:h'.K=h.K)(c:tbl h'=tbl h):JK h h':=.less h1 a b λq _=>by rw[c]
def JK.clrS{h:ab}{E:List Int}{a:Int}{i:Nat}(f:aY h E)(c:i<h.K.length)(d:eM (nth h.K i) a):JK h (clrS h i a):=by
 refine⟨rfl,rfl,λs g _=>?_,λq k=>.inl ⟨k,rfl⟩⟩;obtain⟨j,l,rfl⟩:=aL g;by_cases e:j=i
 ·subst e
  have b:=f.L.sok _ (am c);exact⟨_,jz _ c,rfl,λu n=>tQ b (qm b ⟨d.1,d.2.1⟩) n⟩
 exact⟨_,kn _ l e,rfl,λ_ z=>z⟩
def JK.giveP{h:ab}{E:List Int}{i:Nat}(d:aY h E)(f:i<h.K.length)(c:gq h (nth h.K i).R=false):JK h (giveP h i):=by
 obtain⟨g,k,-⟩:=d.mapped (am f);refine⟨rfl,rfl,λs l a=>?_,λq b=>.inl ?_⟩
 ·obtain⟨j,n,rfl⟩:=aL l
  exact⟨_,db.2 ⟨j,n,λe=>(by subst e;rw[c]at a;cases a),rfl⟩,rfl,λ_ z=>z⟩
 have o:=rT d.ker (p:=(nth h.K i).R) ⟨g,k⟩ q;change (nth (ed h.G (nth h.K i).R).F.Q.J q).j≠0 at b;show(nth h.G.F.Q.J q).j≠0/\(nth (ed h.G (nth h.K i).R).F.Q.J q).e=(nth h.G.F.Q.J q).e;rw[o]at b |-;split at b
 ·exact absurd rfl b
 rename_i e;rw[C9 e];exact⟨b,rfl⟩
def JK.freeS{h:ab}{E:List Int}{a:Int}{i:Nat}(c:aY h (a::E))(b:i<h.K.length)(d:eM (nth h.K i) a):JK h (freeS h i a):=by
 have g:=c.give b d;have f:=JK.clrS c b d;unfold Ab.freeS;split
 ·rename_i e
  have j:nth (Ab.clrS h i a).K i=mW (nth h.K i) (dB (nth h.K i) a):=by unfold Ab.clrS;simp only[bz,true_and];rw[CB b]
  exact f.trans (JK.giveP (h:=Ab.clrS h i a) g (by unfold Ab.clrS;simp only[U1];exact b) (by rw[j];exact e.2))
 exact f
def JK.freeA{h:ab}{E:List Int}{a:Int}(b:aY h (a::E)):JK h (freeA h a):=by
 obtain⟨c,d,-⟩:=b.at (b.hin a (W1 ..));exact JK.freeS b c d
def JK.recyc{h:ab}{E:List Int}{a:Int}{t:Nat}(b:aY h (a::E)):JK h (recyc t h a):=by
 unfold Ab.recyc;split
 ·exact JK.eq rfl rfl rfl rfl
 exact JK.freeA b
def JK.recycs{t:Nat}{E:List Int} : ∀{az:List Int}{h:ab},aY h (az++E)->t<h.T.length->JK h (recycs t h az)
 | [],h,_,_=>JK.refl h
 | a::az,h,b,c=>(JK.recyc (t:=t) b).trans (JK.recycs (az:=az) (h:=Ab.recyc t h a) (b.recyc c) (by rw[(nS t h a).1];exact c))
def JK.freeAs{E:List Int} : ∀{az:List Int}{h:ab},aY h (az++E)->JK h (freeAs h az)
 | [],h,_=>JK.refl h
 | a::az,h,b=>(JK.freeA b).trans (JK.freeAs (az:=az) (h:=Ab.freeA h a) b.freeA)
def JK.flushN{t:Nat}{h:ab}(c:aY h [])(d:t<h.T.length):∀{k:Nat},k<=4->JK h (flushN t h k).1
 | 0,_=>JK.refl h
 | k+1,e=>by
  obtain⟨h1,f,-⟩:=jH c d (k:=k) ω;have a:t<(Ab.flushN t h k).1.T.length:=ω
  have b:k<(nth (Ab.flushN t h k).1.T t).b.length:=by rw[(fB (h1.cach _ (am a))).1];omega
  exact JK.trans (h1:=Ab.spilt (Ab.flushN t h k).1 t k) ((JK.flushN c d (k:=k) ω).trans (JK.eq rfl rfl rfl rfl)) (JK.freeAs (h1.spilt a b))
def uv{h:ab}{E:List Int}(a:aY h E){k:Nat}(b:k<h.M.length):0<=(nth h.M k).R/\(nth h.M k).R+((nth h.M k).a4.toNat:Nat)<=(tbl h).J.length:=by
 have c:=aO (a.L.lok _ (am b));have d:=a.pg.bnd _ (gt (sp:=h.K) (am b) (dy.2 ⟨(nth h.M k).a4.toNat - 1,ω,rfl⟩));exact⟨ω,ω⟩
def JK.freeL{h:ab}{E:List Int}{i k:Nat}(b:aY h E)(c:k<h.M.length):JK h (freeL h i k):=by
 obtain⟨d,f⟩:=uv b c;refine JK.less rfl rfl rfl λq a=>?_
 have g:=mN b.ker d (nth h.M k).a4.toNat f q;change (nth (unmN h.G (nth h.M k).R (nth h.M k).a4.toNat).F.Q.J q).j≠0 at a;show nth (unmN h.G (nth h.M k).R (nth h.M k).a4.toNat).F.Q.J q=nth h.G.F.Q.J q;rw[g]at a |-;split at a
 ·exact absurd rfl a
 rename_i e;rw[C9 e]
def JK.freeOb{h:ab}{t i:Nat}(a:aY h [])(c:i<h.O.length)(d:t<h.T.length):JK h (freeOb h t i).1:=by
 unfold Ab.freeOb;split
 ·rename_i b
  obtain⟨l,e,h1,-⟩:=(dX a (am c)).1 b;exact JK.freeL a (wz e h1).1
 rename_i b;split
 ·exact JK.refl h
 have h1:=a.inQuar c b;exact JK.trans (h1:=Ab.inQuar h i) (JK.eq rfl rfl rfl rfl) (JK.recycs (E:=[]) (by rw[List.append_nil];exact h1) d)
def JK.take{h:ab}{i:Nat}{k sd:Int}(b:gq h (nth h.K i).R=false):JK h {h with c0:=sd,K:=h.K.set i (rh (nth h.K i) k)}:=by
 refine⟨rfl,rfl,λs c a=>?_,λq d=>.inl ⟨d,rfl⟩⟩;obtain⟨j,f,rfl⟩:=aL c;exact⟨_,kn _ f λe=>(by subst e;rw[b]at a;cases a),rfl,λ_ z=>z⟩
def sq{t:aG}{q:Nat}(h:(nth t.J q).j≠0):q<t.J.length:=by
 by_cases e:q<t.J.length
 ·exact e
 exfalso;apply h;unfold nth;rw[W2,U2 ω]
 rfl
def JK.addS{h:ab}{k:af}{l:List aA}{p c:Int}(s:we h.G p (k,true)):JK h (addS h k l p c):=by
 obtain⟨f,t,w,d,n⟩:=s.yes rfl;have b:k.F.Q.J.length=h.G.F.Q.J.length:=s.len;refine⟨rfl,rfl,λz o _=>⟨z,cI.2 (.inr o),rfl,λ_ y=>y⟩,λq g=>?_⟩;change (nth k.F.Q.J q).j≠0 at g;show((nth h.G.F.Q.J q).j≠0/\(nth k.F.Q.J q).e=(nth h.G.F.Q.J q).e)\/∀u:Nat,(nth k.F.Q.J u).j≠0->(nth k.F.Q.J u).e=(nth k.F.Q.J q).e->u=q
 by_cases e:(q:Int)=p
 ·refine .inr λu i a=>?_
  have j:=sq i;have f3u:=d u;have f3q:=d q;simp only at f3u f3q;rw[CB e]at f3q;rw[f3q]at a;by_cases r:(u:Int)=p
  ·omega
  rw[C9 r]at f3u;rw[f3u]at i a;exact absurd a (n u (by rw[<-b];exact j) i)
 have f3q:=d q;simp only at f3q;rw[C9 e]at f3q;rw[f3q]at g |-;exact .inl ⟨g,rfl⟩
def JK.addL{h:ab}{k:af}{g:List aA}{p size t:Int}{n:Nat}(s:lX h.G p n (k,n)):JK h (addL h k g p n size t):=by
 have a:k.F.Q.J.length=h.G.F.Q.J.length:=s.len;refine⟨rfl,rfl,λz i _=>⟨z,i,rfl,λ_ y=>y⟩,λq b=>?_⟩;change (nth k.F.Q.J q).j≠0 at b;show((nth h.G.F.Q.J q).j≠0/\(nth k.F.Q.J q).e=(nth h.G.F.Q.J q).e)\/∀u:Nat,(nth k.F.Q.J u).j≠0->(nth k.F.Q.J u).e=(nth k.F.Q.J q).e->u=q
 by_cases e:p<=q/\(q:Int)<p+n
 ·exact .inr λu d c=>(s.new q e.1 e.2).2 u (by rw[<-a];exact sq d) d c
 have f:=s.out q e;simp only at f;rw[f]at b |-;exact .inl ⟨b,rfl⟩
def u7(h:ab):∀{n:Nat},n<=h.K.length->∀s∈jw h n,(aX h s.R).length=1
 | 0,_,s,a=>by cases a
 | n+1,b,s,a=>by
  unfold jw at a;split at a
  ·rename_i e
   rcases z3.1 a with a|a
   ·exact u7 h ω s a
   unfold qK at e;simp only[I0,C0]at e;rw[O1.1 a];exact e.2
  exact u7 h ω s a
def aY.sole{h:ab}{E:List Int}(e:aY h E){s:ax}(f:s∈h.K)(h1:(aX h s.R).length=1):oM (tbl h) s.R:=λq a g=>by
 obtain⟨k,l,b⟩:=e.mapped f;have i:s.R=((s.R.toNat:Nat):Int):=ω
 rw[i,fD (by show s.R.toNat<(tbl h).J.length;omega) b]at h1;obtain⟨z,j⟩:=List.length_eq_one_iff.1 h1;have c:(s.R.toNat:Int)∈pagesOn (tbl h) (nth (tbl h).J s.R.toNat).e:=ew.2 ⟨ω,b,rfl⟩;have d:(q:Int)∈pagesOn (tbl h) (nth (tbl h).J s.R.toNat).e:=ew.2 ⟨sq a,a,g⟩;rw[j]at c d;simp only[O1]at c d;omega
def ya{h:ab}(l:aY h [])(n:h.o=false):aY (started h).1 []/\JI (started h).1:=by
 have G:=l.nums;unfold cj at G;rw[C0]at G;have M:=(kb (bi h).length (show 0<=h.c0/\h.c0<=1073741823 by omega) ((bi h).length - 1)).2;have o:=lF (bi h) (show 0<=h.c0/\h.c0<=1073741823 by omega);have c:cj {h with c0:=(shuf (bi h).length h.c0).2} = true:=by
  unfold cj;rw[C0];unfold shuf;simp only;omega
 cases p:iX (bi h) h.c0 with
 | nil=>
  have f:Ab.started h=({h with c0:=(shuf (bi h).length h.c0).2},false):=by unfold Ab.started;rw[p]
  rw[f];exact⟨{l with nums:=c},⟨λe=>by simp[n]at e,λe=>by simp[n]at e,λe=>by simp[n]at e,λe=>by simp[n]at e⟩⟩
 | cons q R=>
  obtain⟨S,T,g⟩:=o q (by rw[p];exact W1 ..);have f:Ab.started h=({h with c0:=(shuf (bi h).length h.c0).2,o:=true,Y:=sY (cX (nth (bi h) q.A.toNat) (nth (bi h) q.B.toNat))},true):=by unfold Ab.started;rw[p]
  rw[f];have d:∀s∈bi h,s∈h.K/\oM (tbl h) s.R:=λs N=>by
   have H:=List.mem_of_mem_take N;have J:=ni h (C3 _) s H;exact⟨J,l.sole J (u7 h (C3 _) s H)⟩
  have j:=d _ (am (xs:=bi h) (i:=q.A.toNat) ω);have k:=d _ (am (xs:=bi h) (i:=q.B.toNat) ω);generalize nth (bi h) q.A.toNat=a at g j |-;generalize nth (bi h) q.B.toNat=b at g k |-;obtain⟨O,U,V⟩:=qt g;have r:(cX a b).a2=a.R/\(cX a b).a0=b.R\/(cX a b).a2=b.R/\(cX a b).a0=a.R:=by
   unfold cX;split
   ·exact .inr ⟨rfl,rfl⟩
   exact .inl ⟨rfl,rfl⟩
  have t:j9 (sY (cX a b))=true:=cK.2 ⟨O,by show(0:Int)<=0;omega,by show(0:Int)<=5;omega,by show(0:Int)<=0;omega,by show(0:Int)<=(((cX a b).S.length:Nat):Int);omega⟩;have u:∃x∈h.K,∃y∈h.K,x.R=(cX a b).a2/\y.R=(cX a b).a0/\meshable x y=true/\oM (tbl h) x.R/\oM (tbl h) y.R:=by
   rcases r with⟨w,C⟩|⟨w,C⟩
   ·exact⟨a,j.1,b,k.1,w.symm,C.symm,g,j.2,k.2⟩
   exact⟨b,k.1,a,j.1,w.symm,C.symm,by rw[io];exact g,k.2,j.2⟩
  obtain⟨x,K,y,L,D,E,F,P,Q⟩:=u;exact⟨{l with nums:=c,job:=λ_=>⟨t,⟨x,K,D⟩,⟨y,L,E⟩⟩,noj:=λe=>by cases e},⟨λ_=>⟨by show(0:Int)<=0;omega,by show(0:Int)<=3;omega⟩,λ_=>⟨x,K,y,L,D,E,F⟩,λ_=>by show oM (tbl h) (cX a b).a2;rw[<-D];exact P,λ_=>by show oM (tbl h) (cX a b).a0;rw[<-E];exact Q⟩⟩
def gj(m:aK)(f:Nat):aK:=⟨m.U.set f ((nth m.U f).drop 1),m.a1.set (nth (nth m.U f) 0).To.toNat (nth m.a1 (nth (nth m.U f) 0).To.toNat++[(nth (nth m.U f) 0).Addr])⟩
def lJ(m:aK)(t:Nat):aK:=⟨m.U,m.a1.set t []⟩
def iy(m:aK)(f:Nat)(p:dx):aK:=⟨m.U.set f (nth m.U f++[p]),m.a1⟩
def dR{m:aK} : bO m=true↔(1<=m.U.length/\m.U.length<=4/\m.a1.length=m.U.length)/\(∀i,i<m.U.length->(∀p∈nth m.U i,0<=p.To/\p.To<=(m.U.length:Int) - 1/\0<=p.Addr)/\∀a∈nth m.a1 i,0<=a)/\bx m m.U.length<=30:=by
 unfold bO;simp only[I0,C0,cA,hC,v4,nR,PR];exact and_assoc
def pc(m:aK)(f t:Nat)(x:List dx)(y:List Int)(g:f<m.U.length)(h:t<m.a1.length):∀n:Nat,bx ⟨m.U.set f x,m.a1.set t y⟩ n=bx m n+(if f<n then(x.length:Int) - ((nth m.U f).length:Nat) else 0)+(if t<n then(y.length:Int) - ((nth m.a1 t).length:Nat) else 0)
 | 0=>by simp[bx]
 | n+1=>by
  have i:=pc m f t x y g h n;have j:(nth (m.U.set f x) n).length=if f=n then x.length else(nth m.U n).length:=by
   rw[bz];by_cases e:f=n
   ·rw[CB ⟨e,ω⟩,CB e]
   rw[C9 λz=>e z.1,C9 e]
  have k:(nth (m.a1.set t y) n).length=if t=n then y.length else(nth m.a1 n).length:=by
   rw[bz];by_cases e:t=n
   ·rw[CB ⟨e,ω⟩,CB e]
   rw[C9 λz=>e z.1,C9 e]
  simp only[bx,i,j,k];by_cases d:f=n
  ·subst d
   by_cases b:t=f
   ·subst b
    simp only[if_true,Nat.lt_irrefl,if_false,Nat.lt_succ_self];omega
   simp only[if_true,Nat.lt_irrefl,if_false,Nat.lt_succ_self,C9 b];by_cases a:t<f
   ·rw[CB a,CB (show t<f+1 by omega)];omega
   rw[C9 a,C9 (show ¬t<f+1 by omega)];omega
  by_cases b:t=n
  ·subst b
   simp only[if_true,Nat.lt_irrefl,if_false,Nat.lt_succ_self,C9 d];by_cases a:f<t
   ·rw[CB a,CB (show f<t+1 by omega)];omega
   rw[C9 a,C9 (show ¬f<t+1 by omega)];omega
  simp only[C9 d,C9 b];by_cases a:f<n
  ·rw[CB a,CB (show f<n+1 by omega)]
   by_cases c:t<n
   ·rw[CB c,CB (show t<n+1 by omega)];omega
   rw[C9 c,C9 (show ¬t<n+1 by omega)];omega
  rw[C9 a,C9 (show ¬f<n+1 by omega)];by_cases c:t<n
  ·rw[CB c,CB (show t<n+1 by omega)];omega
  rw[C9 c,C9 (show ¬t<n+1 by omega)];omega
def PB{α:Type}[Inhabited α]{xs:List α}{i:Nat}(h:i<xs.length):xs.set i (nth xs i)=xs:=by
 rw[<-O2.1 (ao h) |>.2];exact List.set_getElem_self h
def FW{m:aK}(h:bO m=true){f:Nat}(d:f<m.U.length)(n:0<(nth m.U f).length):bO (gj m f)=true:=by
 obtain⟨⟨o,q,r⟩,g,y⟩:=dR.1 h;obtain⟨t,A⟩:=g f d;have c:=t _ (am n);have u:(nth (nth m.U f) 0).To.toNat<m.a1.length:=ω
 refine dR.2 ⟨⟨?_,?_,?_⟩,λi j=>?_,?_⟩
 ·simp only[gj,U1];exact o
 ·simp only[gj,U1];exact q
 ·simp only[gj,U1];exact r
 ·simp only[gj,U1]at j |-
  obtain⟨k,l⟩:=g i j;simp only[bz];refine⟨λp c=>?_,λa b=>?_⟩
  ·split at c
   ·rename_i e;rw[<-e.1]at k
    refine(g f d).1 p (List.mem_of_mem_drop c)
   exact k p c
  split at b
  ·rename_i e
   rcases z3.1 b with b|b
   ·rw[e.1]at b;exact l a b
   rw[O1.1 b];exact c.2.2
  exact l a b
 have w:=pc m f (nth (nth m.U f) 0).To.toNat ((nth m.U f).drop 1) (nth m.a1 (nth (nth m.U f) 0).To.toNat++[(nth (nth m.U f) 0).Addr]) d u m.U.length;simp only[gj,U1];rw[w,CB d,CB ω,U3,O3,List.length_singleton];omega
def Qo{m:aK}(h:bO m=true){t:Nat}(d:t<m.a1.length):bO (lJ m t)=true:=by
 obtain⟨⟨e,f,g⟩,j,o⟩:=dR.1 h;refine dR.2 ⟨⟨e,f,?_⟩,λi k=>?_,?_⟩
 ·simp only[lJ,U1];exact g
 ·obtain⟨l,n⟩:=j i k
  simp only[lJ,bz];refine⟨l,λa b=>?_⟩;split at b
  ·cases b
  exact n a b
 have c:=pc m t t (nth m.U t) [] ω d m.U.length;rw[PB ω]at c;show bx ⟨m.U,m.a1.set t []⟩ m.U.length<=30;rw[c,CB ω,CB ω,List.length_nil];omega
def lc{m:aK}(h:bO m=true)(b:Int):(aN m).count b=(m.U.flatMap λl=>l.map (·.Addr)).count b+(m.a1.flatMap λx=>x).count b:=by
 unfold aN;rw[CB h,C6,l8]
def aY.mailed{h:ab}{E c:List Int}{m:aK}(d:aY h E)(i:bO m=true)(j:m.U.length=h.y.U.length)(k:∀b,c.count b+(aN m).count b=E.count b+(aN h.y).count b)(f:∀a,a∈c\/a∈aN m->k6 h.K a (-1)):aY {h with y:=m} c:=by
 have g:(E++holders h).Perm (c++holders {h with y:=m}):=by
  refine List.perm_iff_count.2 λb=>?_
  have l:=k b;simp only[holders,cG,C6];omega
 exact {d with
   mail:=i
   nc:=d.nc.trans j.symm
   hfl:=λa e=>f a (.inr e)
   hin:=λa e=>f a (.inl e)
   nd:=g.nodup_iff.1 d.nd
   mem:=λb=>by rw[<-g.mem_iff];exact d.mem b}
def GM{h:ab}{E d:List Int}{m:aK}(f:aY h E)(g:∀b,d.count b+(aN m).count b=E.count b+(aN h.y).count b):∀a,a∈d\/a∈aN m->k6 h.K a (-1):=λa c=>by
 have i:=g a;have j:0<d.count a+(aN m).count a:=by
  rcases c with c|c
  ·have:=List.count_pos_iff.2 c;omega
  have:=List.count_pos_iff.2 c;omega
 by_cases e:0<E.count a
 ·exact f.hin a (List.count_pos_iff.1 e)
 exact f.hfl a (List.count_pos_iff.1 ω)
def aY.deliv{h:ab}{E:List Int}{f:Nat}(a:aY h E)(e:f<h.y.U.length)(d:0<(nth h.y.U f).length):aY {h with y:=gj h.y f} E:=by
 have c:=FW a.mail e d;obtain⟨⟨q,r,t⟩,j,u⟩:=dR.1 a.mail;have k:=(j f e).1 _ (am d);have g:∀b,E.count b+(aN (gj h.y f)).count b=E.count b+(aN h.y).count b:=λb=>by
  rw[lc c,lc a.mail];have i:=ju (λl:List dx=>l.map (·.Addr)) b h.y.U f ((nth h.y.U f).drop 1) e;have n:=ju (λx:List Int=>x) b h.y.a1 (nth (nth h.y.U f) 0).To.toNat (nth h.y.a1 (nth (nth h.y.U f) 0).To.toNat++[(nth (nth h.y.U f) 0).Addr]) ω;have o:(nth h.y.U f).map (·.Addr)=(nth (nth h.y.U f) 0).Addr::((nth h.y.U f).drop 1).map (·.Addr):=by
   generalize nth h.y.U f=l at d
   match l,d with
   | p::l,_=>rfl
  simp only[gj];rw[o]at i;simp only[List.count_cons]at i;simp only[C6,List.count_singleton]at n;omega
 exact a.mailed c (by simp[gj]) g (GM a g)
def aY.coll{h:ab}{E:List Int}{t:Nat}(c:aY h E)(d:t<h.y.a1.length):aY {h with y:=lJ h.y t} (nth h.y.a1 t++E):=by
 have a:=Qo c.mail d;have e:∀b,(nth h.y.a1 t++E).count b+(aN (lJ h.y t)).count b=E.count b+(aN h.y).count b:=λb=>by
  rw[lc a,lc c.mail];have f:=ju (λx:List Int=>x) b h.y.a1 t [] d;simp only[List.count_nil]at f;simp only[lJ,C6];omega
 exact c.mailed a rfl e (GM c e)
def aY.send{h:ab}{E:List Int}{f:Nat}{p:dx}(c:aY h (p.Addr::E))(e:f<h.y.U.length)(a:bO (iy h.y f p)=true):aY {h with y:=iy h.y f p} E:=by
 have d:∀b,E.count b+(aN (iy h.y f p)).count b=(p.Addr::E).count b+(aN h.y).count b:=λb=>by
  rw[lc a,lc c.mail];have g:=ju (λl:List dx=>l.map (·.Addr)) b h.y.U f (nth h.y.U f++[p]) e;simp only[X5,Z5,List.map_nil,C6,List.count_singleton]at g;simp only[iy,List.count_cons];omega
 exact c.mailed a (by simp[iy]) d (GM c d)
def sF(now:Int):List aQ->Nat
 | []=>0
 | x::xs=>if x.b7<now - 100 then sF now xs+1 else 0
def aged(h:ab)(n:Int):ab:={h with b3:=h.b3+n,a9:=⟨h.a9.c1,h.a9.a6.drop (sF (h.b3+n) h.a9.a6)⟩}
def ow(h:ab)(n:Int):List Int:=(h.a9.a6.take (sF (h.b3+n) h.a9.a6)).map (·.Addr)
def tick(h:ab)(n:Int):ab:=freeAs (aged h n) (ow h n)
def oU(x:aQ)(xs:List aQ):∀n,quarCells (x::xs) (n+1)=csz x.d+quarCells xs n
 | 0=>by simp only[quarCells];show 0+csz x.d=csz x.d+0;omega
 | n+1=>by
  rw[jt,oU x xs n,jt];show csz x.d+quarCells xs n+csz (nth xs n).d=_;omega
def Ri(k:Int):0<=csz k:=by
 unfold csz;split
 ·exact Int.le_of_lt (Int.pow_pos (by decide))
 decide
def JO:∀(l:List aQ)(k:Nat),qc (l.drop k)<=qc l
 | [],k=>by simp
 | x::xs,0=>v5 _
 | x::xs,k+1=>by
  have a:=JO xs k;have b:=Ri x.d;have c:qc (x::xs)=csz x.d+qc xs:=oU x xs xs.length;show qc (xs.drop k)<=qc (x::xs);omega
def aY.aged{h:ab}{E:List Int}{n:Int}(a:aY h E)(t:0<=n)(u:h.b3+n<=1000000):aY (aged h n) (ow h n++E):=by
 obtain⟨i,j,k,o,p,q⟩:=ki.1 a.quar;have c:=a.nums;unfold cj at c;rw[C0]at c;have e:=List.drop_sublist (sF (h.b3+n) h.a9.a6) h.a9.a6;have g:(E++holders h).Perm ((ow h n++E)++holders (Ab.aged h n)):=by
  refine List.perm_iff_count.2 λb=>?_
  have r:=X0 (λl:List aQ=>(l.map (·.Addr)).count b) (List.take_append_drop (sF (h.b3+n) h.a9.a6) h.a9.a6);simp only[X5,C6]at r;simp only[holders,cG,Ab.aged,ow,C6];omega
 exact {a with
   nums:=by unfold cj;rw[C0];simp only[Ab.aged];omega
   quar:=ki.2 ⟨λy d=>i y (e.subset d),j.sublist e,k.sublist (e.map _),o,p,t5 (JO _ _) q⟩
   snc:=λy d=>by
     have:=a.snc y (e.subset d);show y.b7<=h.b3+n;omega
   hqu:=λy d=>a.hqu y (e.subset d)
   hin:=λb f=>by
     rcases z3.1 f with f|f
     · obtain⟨y,d,rfl⟩:=O4.1 f
       exact(a.hqu y (List.mem_of_mem_take d)).any
     exact a.hin b f
   nd:=g.nodup_iff.1 a.nd
   mem:=λb=>by rw[<-g.mem_iff];exact a.mem b}
def aY.tick{h:ab}{n:Int}(a:aY h [])(b:0<=n)(c:h.b3+n<=1000000):aY (tick h n) []/\JK h (tick h n):=by
 have h1:=a.aged b c;exact⟨aY.freeAs h1,JK.trans (h1:=Ab.aged h n) (JK.eq rfl rfl rfl rfl) (JK.freeAs h1)⟩
def collect(h:ab)(t:Nat):ab:=recycs t {h with y:=lJ h.y t} (nth h.y.a1 t)
def aY.collect{h:ab}{t:Nat}(a:aY h [])(b:t<h.T.length):aY (collect h t) []/\JK h (collect h t):=by
 have h1:=a.coll (t:=t) (by rw[(dR.1 a.mail).1.2.2,<-a.nc];exact b);exact⟨aY.recycs h1 b,JK.trans (h1:={h with y:=lJ h.y t}) (JK.eq rfl rfl rfl rfl) (JK.recycs h1 b)⟩
def P4(h:ab)(t i:Nat):ab:={h with G:=f6 h.G (nth h.O i).Addr (csz (aJ (nth h.O i).u)).toNat,O:=dele h.O i,y:=iy h.y t ⟨(nth h.O i).a5,(nth h.O i).Addr⟩}
def freeT(h:ab)(t i:Nat):ab × Int:=
 if aJ (nth h.O i).u<0 then(freeL h i (zR h (nth h.O i).Addr),0)
 else if(ac (tbl h) ((nth h.O i).Addr / 16)).j=1 then(h,5)
 else if(nth h.O i).a5=t then(EL h t i,0)
 else if bO (iy h.y t ⟨(nth h.O i).a5,(nth h.O i).Addr⟩)=true then(P4 h t i,0) else(h,5)
def AF{h:ab}{t i:Nat}(e:(nth h.O i).a5=t):freeT h t i=freeOb h t i:=by
 unfold freeT freeOb;rw[CB e]
def aY.freeT{h:ab}{t i:Nat}(a:aY h [])(b:i<h.O.length)(c:t<h.T.length):aY (freeT h t i).1 []/\JK h (freeT h t i).1:=by
 by_cases e:(nth h.O i).a5=t
 ·rw[AF e];exact⟨a.freeOb b c,JK.freeOb a b c⟩
 have d:=a.freeOb b c;have f:=JK.freeOb a b c;unfold Ab.freeOb at d f;unfold Ab.freeT;split
 ·rename_i g
  rw[CB g]at d f;exact⟨d,f⟩
 rename_i g;rw[C9 g]at d f;split
 ·exact⟨a,JK.refl h⟩
 split
 ·rename_i j
  obtain⟨⟨s,l,n,o⟩,u⟩:=(dX a (am b)).2 g;have q:=a.dropO b (k6.any ⟨s,l,n,.inr o⟩);have r:=q.cells (k:=f6 h.G (nth h.O i).Addr (csz (aJ (nth h.O i).u)).toNat) (Eu a.ker _ _) rfl;exact⟨aY.send (p:=⟨(nth h.O i).a5,(nth h.O i).Addr⟩) r (by show t<h.y.U.length;rw[<-a.nc];exact c) j,JK.eq rfl rfl rfl rfl⟩
 exact⟨a,JK.refl h⟩
def dL(k:af)(a v:Int):af:=setCell k (cU k a) (a % 16) v
def yD{k:af}(h:ay k=true){a v:Int}(b:(ac k.F.Q (a / 16)).j≠0)(c:0<=v/\v<=999):ay (dL k a v)=true:=by
 obtain⟨d,e,-⟩:=gn h b;exact rv h (f:=cU k a) d e c
def aY.store{h:ab}{a v:Int}(b:aY h [])(c:(ac h.G.F.Q (a / 16)).j≠0)(d:0<=v/\v<=999):aY {h with G:=dL h.G a v} []/\JK h {h with G:=dL h.G a v}:=
 ⟨b.cells (yD b.ker c d) rfl,JK.eq rfl rfl rfl rfl⟩
def Qp{xs:List Int}{x:Int}(h:df xs.length (λj=>decide (nth xs j≠x))=true):x∉xs:=λb=>by
 obtain⟨j,a⟩:=List.mem_iff_getElem?.1 b;have:=dZ h (O2.1 a).1;rw[bm a]at this;simp at this
def E6(xs:List Int)(x:Int)(g:xs.length<=4611686018427387904):ar Tryz.prog 367 false [.val none (aD .X xs),.val none [I x]] .one [B (decide (x∈xs))]:=by
 refine fO 18 [] Tryz.func367 rfl ?_
 repeat'(first|refine gP ?_|fail)
 (conv=>whnf)
 refine CF (ι:=Nat) (λi=>[(0,.H .one (aD .X xs)),(1,.H .one [I (x)]),(5,.H .one [I ((i:Nat):Int)])]) (λi=>i<=xs.length/\df i (λj=>decide (nth xs j≠x))=true) (λi=>xs.length - i) 0 ?_ ⟨W0 _,rfl⟩ λi a=>?_
 ·exact wB
 obtain⟨a,b⟩:=a;by_cases c:i<xs.length
 ·have d:=ao c
  by_cases e:nth xs i=x
  ·repeat'(first|refine gB ?_|(conv=>whnf);with_reducible refine CD (aa d) ?_)
   exact X0 (λz=>[B z]) ((by symm;exact O0 (by rw[<-e];exact am c)))
  repeat'(first|refine gB ?_|(conv=>whnf);with_reducible refine CD (aa d) ?_)
  ((conv=>whnf);refine CE (i+1) ⟨ω,bU b (O0 e)⟩ ω ?_;(exact wB))
 repeat'(first|refine gE ?_|fail)
 obtain rfl:i=xs.length:=ω
 exact X0 (λz=>[B z]) ((by symm;exact U0 (Qp b)))
def bS.more{M f:ah}{w g:World}(h:bS M w g)(e:∀b o,M b o->f b o):bS f w g:=
 ⟨h.os,h.tape,h.output,h.size,λb a c=>h.blk b a λo d=>c o (e b o d),λb o a c=>h.cel b o a λd=>c (e b o d),λb o a c=>h.fro b o a λd=>c (e b o d)⟩
def aT.wk{P:Program}{f:Nat}{sh:Bool}{c u:List C}{A B:List MA}{k:Kd}{rcs:List C}(h:aT P f sh A (.ptr c::B) k rcs)(y:M0 c u):aT P f sh A (.ptr u::B) k rcs:=by
 refine⟨h.has,λw S V i E F l G=>(h.run w S V i E F l G).mono λe w1 H=>?_⟩;obtain⟨v,J,K,X,L,M,N,n,p,a,q,r,b,O,Q,D⟩:=H;refine⟨v,J,K,X,L,M,N,n,p,a,q,r,b,O,Q,?_⟩;cases i with
 | nil=>exact D.elim
 | cons v0 i=>
  obtain⟨⟨R,Y,T,U,W,⟨g,o,Z,e2⟩,d⟩,t⟩:=D;refine⟨⟨R,Y,T,U,W,⟨g,o,Z,λj hj=>e2 j (by rw[(tf y).1];exact hj)⟩,Ee y d⟩,t⟩
def aT.frame{P:Program}{f:Nat}{sh:Bool}{c c' r:List C}{A B:List MA}{k:Kd}{rcs:List C}(h:aT P f sh (.ptr c::A) (.ptr c'::B) k rcs)(hl:c'.length=c.length):aT P f sh (.ptr (c++r)::A) (.ptr (c'++r)::B) k rcs:=by
 refine⟨h.has,λw S V vs hS hV hVd hA=>?_⟩;cases vs with
 | nil=>exact hA.elim
 | cons v0 vs=>
 obtain⟨⟨X1,Y,hX1,hY,O,⟨g,q,rfl,u⟩,ff,hf1,J,hf3⟩,hA'⟩:=hA;have hlen:(c++r).length=c.length+r.length:=O3
 let V0:ah:=piece g q ff 0 c.length
 let W:Nat->ah:=Mg V0 (λi=>V (i+1))
 have hcX:∀o,q<=o->o<q+(c++r).length->X1 g o:=λo l a=>by
  have:=(u (o - q) ω).1
  rwa [show q+(o - q)=o by omega]at this
 have hV0:∀b o,V0 b o->V 0 b o:=λb o p=>by
  rcases p with⟨rfl,l,a⟩|⟨j,-,a,Q⟩
  ·exact hX1 _ _ (hcX o ω ω)
  exact hY _ _ (J j ω b o Q)
 have K:∀i b o,W i b o->V i b o:=λi b o p=>by
  cases i with
  | zero=>exact hV0 b o p
  | succ i=>exact p
 have hA2:LL w S W (.ptr c::A) (.pointer (some ⟨g,q,none⟩)::vs):=by
  refine⟨?_,hA'⟩;have:=uT (lo:=0) (n:=c.length) (cs:=c++r) ω u hf1 J hf3 O;rw[show b9 (c++r) 0 c.length=c by simp[b9]]at this;simp only[Z6,Nat.add_zero]at this;exact this
 refine(h.run w S W _ hS (λi b o p=>hV i b o (K i b o p)) (λi i' D b o l a=>hVd i i' D b o (K i b o l) (K i' b o a)) hA2).mono λe w1 hv=>?_
 obtain⟨v,he,hk,X,V',S1,hX,E,hS1,hVd',hXV,hXS,hVS1,hh,hr,hm⟩:=hv;have H:∀b o,(∃i,W i b o)->∃i,V i b o:=λb o ⟨i,Z⟩=>⟨i,K i b o Z⟩
 let R:ah:=λb o=>V 0 b o/\¬V0 b o
 have hRW:∀b o,R b o->¬∃i,W i b o:=λb o y ⟨i,Z⟩=>by
  cases i with
  | zero=>exact y.2 Z
  | succ i=>exact hVd 0 (i+1) ω b o y.1 Z
 have F:∀b o,R b o->b<w.heap.size:=λb o y=>(hV 0 b o y.1).1
 have t:∀b o,R b o->¬((∃i,W i b o)\/(b<w1.heap.size/\w.heap.size<=b)):=λb o y p=>by
  rcases p with p|p
  ·exact hRW b o y p
  have:=F b o y;omega
 have hRsame:bn R w w1:=λb o y=>⟨hk.cel b o (F b o y) (hRW b o y),hk.fro b o (F b o y) (hRW b o y)⟩
 have hRS1:∀b o,R b o->¬S1 b o:=λb o y hs=>by
  rcases hS1 b o hs with⟨-,l⟩|l
  ·exact(hV 0 b o y.1).2 l
  exact t b o y l
 have hSsame:bn S w w1:=λb o hb=>⟨hk.cel b o (hS b o hb) (λ⟨i,Z⟩=>(hV i b o (K i b o Z)).2 hb),hk.fro b o (hS b o hb) (λ⟨i,Z⟩=>(hV i b o (K i b o Z)).2 hb)⟩
 have hRc:∀j,c.length<=j->j<(c++r).length->R g (q+j):=λj l a=>by
  refine⟨hX1 _ _ (u j a).1,λp=>?_⟩;rcases p with⟨-,Q,h4⟩|⟨N,Q,h4,h5⟩
  ·omega
  exact O _ _ (u j a).1 (J N ω _ _ h5)
 have L:∀j,c.length<=j->j<(c++r).length->∀b o,ff j b o->R b o:=λj l a b o p=>by
  refine⟨hY _ _ (J j a b o p),λhp=>?_⟩;rcases hp with⟨rfl,Q,h4⟩|⟨N,Q,h4,h5⟩
  ·exact O _ _ (hcX o ω ω) (J j a _ _ p)
  exact hf3 j N a ω ω b o p h5
 let U:Nat->ah:=Mg (λb o=>V' 0 b o\/R b o) (λi=>V' (i+1))
 have hU:∀i b o,U i b o->V' i b o\/(i=0/\R b o):=λi b o p=>by
  cases i with
  | zero=>exact p.imp id (λh=>⟨rfl,h⟩)
  | succ i=>exact .inl p
 refine⟨v,he,hk.more H,X,U,S1,λb o p=>(hX b o p).imp (H b o) id,λi b o p=>?_,λb o p=>(hS1 b o p).imp id (Or.imp (H b o) id),λi i' D b o l a=>?_,λi b o l a=>?_,hXS,λi b o l a=>?_,hh,hr,?_,hm.2⟩
 ·rcases hU i b o p with l|⟨-,l⟩
  ·exact(E i b o l).imp (H b o) id
  exact .inl ⟨0,l.1⟩
 ·rcases hU i b o l with l|⟨e1,l⟩
  ·rcases hU i' b o a with a|⟨e2,a⟩
   ·exact hVd' i i' D b o l a
   exact t b o a (E i b o l)
  rcases hU i' b o a with a|⟨e2,a⟩
  ·exact t b o l (E i' b o a)
  exact D ω
 ·rcases hU i b o a with a|⟨-,a⟩
  ·exact hXV i b o l a
  exact t b o a (hX b o l)
 ·rcases hU i b o l with l|⟨-,l⟩
  ·exact hVS1 i b o l a
  exact hRS1 b o l a
 obtain⟨Xa,Ya,ha1,ha2,ha3,⟨ga,oa,hea,ha4⟩,fa,ha5,ha6,ha7⟩:=(show po w1 (λb o=>S b o\/S1 b o) (V' 0) (.ptr c') (.pointer (some ⟨g,q,none⟩)) from hm.1)
 obtain⟨rfl,rfl⟩ : g=ga/\q=oa:=by simpa using hea
 have G:(c'++r).length=c.length+r.length:=by rw[O3,hl]
 show po w1 (λb o=>S b o\/S1 b o) (λb o=>V' 0 b o\/R b o) (.ptr (c'++r)) (.pointer (some ⟨g,q,none⟩));have faV:∀j,j<c.length->∀b o,fa j b o->V' 0 b o:=λj M b o p=>ha2 _ _ (ha6 j ω b o p)
 refine⟨λb o=>Xa b o\/(R b o/\∃j,c.length<=j/\j<(c++r).length/\b=g/\o=q+j),λb o=>Ya b o\/∃j,c.length<=j/\j<(c++r).length/\ff j b o,λb o p=>?_,λb o p=>?_,λb o l a=>?_,⟨g,q,rfl,λj M=>?_⟩,λj=>if j<c.length then fa j else ff j,λj d M=>?_,λj M b o p=>?_,λj N M hj' D b o l a=>?_⟩
 ·exact p.imp (ha1 b o) (·.1)
 ·rcases p with p|⟨j,l,a,Q⟩
  ·exact .inl (ha2 b o p)
  exact .inr (L j l a b o Q)
 ·rcases l with l|⟨l,j,j1,j2,rfl,rfl⟩
  ·rcases a with a|⟨j,j1,j2,j3⟩
   ·exact ha3 b o l a
   exact t b o (L j j1 j2 b o j3) (E 0 b o (ha1 b o l))
  rcases a with a|⟨N,j3,j4,j5⟩
  ·exact t _ _ l (E 0 _ _ (ha2 _ _ a))
  exact O _ _ (u j j2).1 (J N j4 _ _ j5)
 ·rw[G]at M
  by_cases hc:j<c.length
  ·have:=ha4 j ω
   exact⟨.inl this.1,this.2⟩
  have y:=hRc j ω ω;have hs:=hRsame _ _ y;have T:=u j ω;refine⟨.inr ⟨y,j,ω,ω,rfl,rfl⟩,?_,?_⟩
  ·rw[hs.1];exact T.2.1
  rw[hs.2];exact T.2.2
 ·dsimp only
  by_cases hc:j<c.length
  ·rw[CB hc]
   rw[V4 ω]at M;exact ha5 j d M
  rw[C9 hc];rw[W4 ω,hl]at M;have hj2:(c++r)[j]? = some d:=by rw[W4 ω];exact M
  have hjl:=(O2.1 hj2).1;have Q:=(hf1 j d hj2).keep hSsame (λb o p=>hRsame b o (L j ω hjl b o p));have T:=(hRsame _ _ (hRc j ω hjl)).1;have:cg w1 .box (.pointer (some ⟨g,q,none⟩)) j=cg w .box (.pointer (some ⟨g,q,none⟩)) j:=by
   simp only[cg];rw[T]
  rw[this];exact Q.mono (λ_ _ h=>.inl h) (λ_ _ h=>h)
 ·rw[G]at M
  split at p
  ·rename_i hc;exact .inl (ha6 j ω b o p)
  exact .inr ⟨j,ω,ω,p⟩
 rw[G]at M hj';split at l
 ·rename_i c1
  split at a
  ·exact ha7 j N ω ω D b o l a
  exact t b o (L N ω ω b o a) (E 0 b o (faV j c1 b o l))
 split at a
 ·rename_i c1;exact t b o (L j ω ω b o l) (E 0 b o (faV N c1 b o a))
 exact hf3 j N ω ω D b o l a
mutual
def Tz:∀c:C,fz (fz c)=fz c
 | .v x=>by simp[fz]
 | .s o rows=>by simp only[fz];rw[Ka rows]
 | .x=>by simp[fz]
 | .z=>by simp[fz]
 | .m _=>by simp[fz]
 | .it _ _=>by simp[fz]
def Ka:∀a:List (List C),fzR (fzR a)=fzR a
 | []=>rfl
 | r::a=>by simp only[fzR];rw[qf r,Ka a]
def qf:∀cs:List C,eG (eG cs)=eG cs
 | []=>rfl
 | c::cs=>by simp only[eG];rw[Tz c,qf cs]
end
def nv(k:af)(a:ay k=true)(e:k.Calls≠100000):aT Tryz.prog 487 false [.ptr (af.enc .own k)] [.ptr (af.enc .own (bZ k))] .one [B (!refd k)]:=by
 have b:=bk a;have c:=(a8.1 a).2.2.2.2;have d:=E6 k.w k.Calls (by have:=b.2;omega);refine fM 22 [] [(2,9,[11,12,13,14,15,16,17,18,19])] [(0,0)] Tryz.func487 rfl (λu q=>?_)
 repeat'(first|refine gP ?_|(conv=>whnf);refine CG (d) ⟨⟨rfl,eg _⟩,⟨rfl,X0 (λz=>[I z]) ω⟩,trivial⟩ ?_)
 refine CH rfl ?_ ?_
 ·rfl
 exact wB
def o6(k:af)(p m:Int)(a:ay k=true)(j:k.Calls≠100000)(d:(ac k.F.Q p).j≠0)(l:m=1\/m=2):aT Tryz.prog 585 false [.ptr (af.enc .own k),.val none [I p],.val none [I m]] [.ptr (af.enc .own (fk k p m).1),.val none [I p],.val none [I m]] .one [B (fk k p m).2]:=by
 have n:=bk a;have b:=nv k a j;have g:=fA (bZ k) p n.1.2;have c:=aH m 1 2;rw[O0 ω]at c;obtain⟨o,t,w,-⟩:=bI a d;have h:=ao (xs:=k.F.Q.J) (i:=p.toNat) ω;have r:¬(ac (bZ k).F.Q p).j=0:=d;unfold fk;cases e:refd k<;>rw[e]at b
 ·rw[C9 (by simp),uX]
  refine fM 31 [(487,[2])] [] [(0,0),(0,0),(0,0)] Tryz.func585 rfl (λu q=>?_)
  repeat'(first|refine gB ?_|(conv=>whnf);first|refine CK (b) (.inl rfl) ?_|refine CG (g) ⟨CT (bZ k),⟨rfl,rfl⟩,trivial⟩ ?_|refine CM o (aa h) ?_|refine CQ rfl rfl (aa h) rfl (I1 rfl) rfl ?_)
  refine CH rfl ?_ ?_
  ·rfl
  exact wB
 rw[CB rfl];refine fM 31 [(487,[2])] [] [(0,0),(0,0),(0,0)] Tryz.func585 rfl (λu q=>?_)
 repeat'(first|refine gB ?_|(conv=>whnf);refine CK (b) (.inl rfl) ?_)
 refine CH rfl ?_ ?_
 ·rfl
 exact wB
def Rw.two{c:List C}{off i k j d e b:Nat}{K:List C->Nat->Prop}{o f:dY}{rows rows2:List (List C)}{r a:List C}(h1:c[off]? = some (.s o rows))(g:rows[i]? = some r)(h:r.length=k)(l:r[j]? = some (.s f rows2))(n:rows2[d]? = some a)(p:a.length=e)(q:K a b):Rw c off [(i,k,j),(d,e,b)] K:=
 Rw.mk (r:=a) (j:=b) (by simp[ch,h1,g,h,l,n,p]) q
def zl(k:af)(a b c:Int)(h:ay k=true)(F:(ac k.F.Q a).j≠0)(G:(ac k.F.Q b).j≠0)(g:0<=c/\c<=15):aT Tryz.prog 586 false [.ptr (af.enc .own k),.val none [I a],.val none [I b],.val none (aD .X [c])] [.ptr (af.enc .own (oB k a b c)),.val none [I a],.val none [I b],.val none (aD .X [c])] .one [B true]:=by
 have w:=bk h;have H:=fA k a w.1.2;have J:=fA k b w.1.2;have y:=aH c 0 15;rw[O0 g]at y;obtain⟨K,O,L,C,P⟩:=bI h F;obtain⟨M,Q,D,E,R⟩:=bI h G;have N:=(aS.1 (a8.1 h).2.1).2.2.1;have S:=row16 h (f:=b8 k a) (by unfold b8;omega);have T:=row16 h (f:=b8 k b) (by unfold b8;omega);have d:k.F.V.S[(ac k.F.Q a).e.toNat]? = some (nth k.F.V.S (b8 k a)):=ao ω;have e:k.F.V.S[(ac k.F.Q b).e.toNat]? = some (nth k.F.V.S (b8 k b)):=ao ω;have l:=ao (xs:=nth k.F.V.S (b8 k a)) (i:=c.toNat) ω;have o:=ao (xs:=nth k.F.V.S (b8 k b)) (i:=c.toNat) ω;have p:=ao (xs:=k.F.Q.J) (i:=a.toNat) ω;have r:=ao (xs:=k.F.Q.J) (i:=b.toNat) ω;rw[L]at C d;rw[D]at E e;have t:[c][0]? = some c:=rfl;refine fM 90 [] [(13,28,[61,62,63,64,65,66,67,68,69,70,71,72,73,74,75,76,77,78,79,80,81,82,83,84,85,86,87,88])] [(0,0),(0,0),(0,0),(0,0)] Tryz.func586 rfl (λu q=>?_)
 repeat'(first|refine gB ?_|(conv=>whnf);first|refine CG (H) ⟨CT k,⟨rfl,rfl⟩,trivial⟩ ?_|refine CG (J) ⟨CT k,⟨rfl,rfl⟩,trivial⟩ ?_)
 (conv=>whnf)
 refine CF (ι:=Nat) (λn=>[(0,.H .box (af.enc .own k)),(1,.H .one [I (a)]),(2,.H .one [I (b)]),(3,.H .one (aD .X [c])),(9,.H .one [I ((n:Nat):Int)])]) (λn=>n<=1) (λn=>1 - n) (0) ?_ (W0 _) λn U=>?_
 ·exact wB
 by_cases V:n<1
 ·obtain rfl:n=0:=ω
  repeat'(first|refine gE ?_|(conv=>whnf);first|refine CC ?_|refine CM (by decide) (aa t) ?_|refine C8 (y) ?_)
  ((conv=>whnf);refine CE 1 ω ω ?_;(exact wB))
 obtain rfl:n=1:=ω
 repeat'(first|refine gE ?_|(conv=>whnf);first|refine CM K (aa p) ?_|refine CM M (aa r) ?_)
 (conv=>whnf)
 refine CF (ι:=Nat) (λj=>[(0,.H .box (af.enc .own (JT k a b c j))),(3,.H .one (aD .X [c])),(10,.H .one [I ((nth k.F.Q.J a.toNat).e)]),(11,.H .one [I ((nth k.F.Q.J b.toNat).e)]),(12,.H .one [I ((j:Nat):Int)])]) (λj=>j<=1) (λj=>1 - j) (0) ?_ (W0 _) λj W=>?_
 ·exact wB
 by_cases X:j<1
 ·obtain rfl:j=0:=ω
  repeat'(first|refine gE ?_|(conv=>whnf);first|refine CM C (aa d) ?_|refine CM E (aa e) ?_|refine CM g.1 (aa l) ?_|refine CM g.1 (aa o) ?_|refine Rw.two rfl (aa d) rfl rfl (aa l) rfl ?_|refine Pu.two rfl rfl (aa e) rfl rfl rfl (aa o) rfl (C3 _) rfl ?_)
  ((conv=>whnf);refine CE 1 ω ω ?_)
  rw[show JT k a b c 1=oB k a b c from rfl];unfold oB;rw[vT,show b8 k b=(nth k.F.Q.J b.toNat).e.toNat by unfold b8;rw[D]];exact wB
 obtain rfl:j=1:=ω
 repeat'(first|refine gE ?_|(conv=>whnf);refine CC ?_)
 refine CH rfl ?_ ?_
 ·rfl
 exact wB
def Ha(k:af)(p o:Int)(a:ay k=true)(y:k.Calls≠100000)(g:(ac k.F.Q p).j≠0)(h:(ac k.F.Q o).j≠0)(C:p≠o):aT Tryz.prog 587 false [.ptr (af.enc .own k),.val none [I p],.val none [I o]] [.ptr (af.enc .own (qV k p o).1),.val none [I p],.val none [I o]] .one [B (qV k p o).2]:=by
 have b:=bk a;have c:=nv k a y;have j:=fA (bZ k) p b.1.2;have l:=fA (bZ k) o b.1.2;obtain⟨D,K,E,n,r⟩:=bI a g;obtain⟨F,L,M,N,O⟩:=bI a h;have G:=(aS.1 (a8.1 a).2.1).2.2.1;have d:=ao (xs:=k.F.Q.J) (i:=p.toNat) ω;have t:=ao (xs:=k.F.Q.J) (i:=o.toNat) ω;have H:¬(ac (bZ k).F.Q p).j=0:=g;have J:¬(ac (bZ k).F.Q o).j=0:=h;rw[E]at n r;have w:=Dz (uZ (bZ k) p.toNat ⟨2,(nth k.F.Q.J o.toNat).e⟩) (nth k.F.Q.J p.toNat).e (EP _ _ b.1.2) ⟨n,by show _<((k.F.V.S.length:Nat):Int);omega,r⟩;rw[FA]at w;unfold qV;cases e:refd k<;>rw[e]at c
 ·rw[C9 (by simp)]
  refine fM 60 [(487,[2]),(489,[2,0])] [(4,274,[38,39,40,41,42,43,44,45,46,47,48,49,50,51,52,53,54,56,0,1,2,3,4,5,6,7,8,9,10,11,12,13,14,15,16,17,1000,1001,1002,1003,1004,1005,1006,18,19])] [(0,0),(0,0),(0,0)] Tryz.func587 rfl (λu q=>?_)
  repeat'(first|refine gB ?_|(conv=>whnf);first|refine CK (c) (.inl rfl) ?_|refine CG (j) ⟨CT (bZ k),⟨rfl,rfl⟩,trivial⟩ ?_|refine CG (l) ⟨CT (bZ k),⟨rfl,rfl⟩,trivial⟩ ?_|refine CM D (aa d) ?_|refine CM F (aa t) ?_|refine CQ rfl rfl (aa d) rfl (I1 rfl) rfl ?_|refine CK (w) (.inl rfl) ?_)
  refine CH rfl ?_ ?_
  ·rfl
  exact wB
 rw[CB rfl];refine fM 60 [(487,[2]),(489,[2,0])] [(4,274,[38,39,40,41,42,43,44,45,46,47,48,49,50,51,52,53,54,56,0,1,2,3,4,5,6,7,8,9,10,11,12,13,14,15,16,17,1000,1001,1002,1003,1004,1005,1006,18,19])] [(0,0),(0,0),(0,0)] Tryz.func587 rfl (λu q=>?_)
 repeat'(first|refine gB ?_|(conv=>whnf);refine CK (c) (.inl rfl) ?_)
 refine CH rfl ?_ ?_
 ·rfl
 exact wB
def Ad(m:aR)(a:Int)(d:aR.sml m)(c:0<=a/\a<512):ar Tryz.prog 591 false [.val (some 3) (aR.enc .X m),.val none [I a]] (.tup [some 2,none]) (bh.enc .own (ac m.Q (a / 16))++[I (a % 16)]):=by
 have e:=cR m.Q (a / 16) d.2;have b:a.tmod 16=a % 16:=dM c.1;refine fO 16 [] Tryz.func591 rfl ?_ (.inr ⟨trivial,trivial,trivial,trivial⟩)
 repeat'(first|refine gE ?_|(conv=>whnf);first|refine CN (pW c) ?_|refine CO (by decide) ?_|refine CR b ?_)
 rfl
def GN(m:aR)(a v:Int)(o:dn m=true)(e:aR.sml m)(p:0<=a/\a<512)(q:0<=v/\v<=999)(r:(ac m.Q (a / 16)).j≠0->0<=(ac m.Q (a / 16)).e/\(ac m.Q (a / 16)).e<m.V.S.length/\(nth m.V.S (ac m.Q (a / 16)).e.toNat).length=16):ar Tryz.prog 590 false [.val (some 3) (aR.enc .X m),.val none [I a],.val none [I v]] (.tup [some 3,none]) (aR.enc .own (fI m a v).1++[I (fI m a v).2]):=by
 have c:=pL m e;rw[o]at c;have g:=th m e;have h:=Ad m a e p;have d:=aH v 0 999;rw[O0 q]at d;have b:=aR.enc_fr (fI m a v).1;unfold fI at b |-;by_cases j:(ac m.Q (a / 16)).j=0
 ·rw[CB j]at b |-
  refine fO 47 [] Tryz.func590 rfl ?_ (.inr (aI b ⟨trivial,trivial⟩))
  repeat'(first|refine gB ?_|(conv=>whnf);first|refine CC ?_|refine C8 (c) ?_|refine C8 (g) ?_|refine C8 (h) ?_|refine C8 (d) ?_)
  rfl
 rw[C9 j]at b |-;by_cases l:(ac m.Q (a / 16)).j=1
 ·rw[CB l]at b |-
  refine fO 47 [] Tryz.func590 rfl ?_ (.inr (aI b ⟨trivial,trivial⟩))
  repeat'(first|refine gB ?_|(conv=>whnf);first|refine CC ?_|refine C8 (c) ?_|refine C8 (g) ?_|refine C8 (h) ?_|refine C8 (d) ?_)
  rfl
 rw[C9 l]at b |-;obtain⟨t,u,w⟩:=r j;have k:=ao (xs:=m.V.S) (i:=(ac m.Q (a / 16)).e.toNat) ω;have n:=ao (xs:=nth m.V.S (ac m.Q (a / 16)).e.toNat) (i:=(a % 16).toNat) ω;simp only at b |-;rw[yP]at b |-;refine fO 47 [] Tryz.func590 rfl ?_ (.inr (aI b ⟨trivial,trivial⟩))
 repeat'(first|refine gB ?_|(conv=>whnf);first|refine CM t (aa k) ?_|refine CM ω (aa n) ?_|refine Pu.two rfl rfl (aa k) rfl rfl rfl (aa n) rfl (C3 _) rfl ?_)
 rfl
def gU{k:af}{j:cn} : jmay k j=true↔(ay k=true/\k.Calls≠100000)/\j9 j=true/\(ac k.F.Q j.W.a2).j≠0/\(ac k.F.Q j.W.a0).j≠0/\(ac k.F.Q j.W.a2).e≠(ac k.F.Q j.W.a0).e:=by
 unfold jmay;simp only[I0,C0]
def lD{p:bY}(h:eO p=true):p.S.length<=16:=by
 unfold eO at h;simp only[I0]at h;have a:∀i,i<p.S.length->(i:Int)<=nth p.S i:=λi=>by
  induction i with
  | zero=>
   intro a;have:=dZ h.1 a;unfold mF at this;rw[C0]at this;exact this.1
  | succ i b=>
   intro a;have c:=b ω;have:=dZ h.1 a;unfold mF at this;rw[C0]at this;have d:=this.2.2.resolve_left ω;rw[Nat.add_sub_cancel]at d;omega
 by_cases e:p.S.length<=16
 ·exact e
 exfalso;have c:=a 16 ω;have:=dZ h.1 (show 16<p.S.length by omega);unfold mF at this;rw[C0]at this;omega
def va{j:cn}(h:j9 j=true):cn.sml j:=by
 have:=lD (cK.1 h).1;show j.W.S.length<=1048576;omega
def mL{k:af}(h:ay k=true):dn k.F=true:=by
 unfold ay at h;simp only[I0]at h;exact h.1.2
def Dq(k:af)(j:cn)(p:jmay k j=true)(g:j.b1=3):aT Tryz.prog 588 false [.ptr (af.enc .own k),.ptr (xu j)] [.ptr (af.enc .own (jstep k j).1),.ptr (xu (jstep k j).2)] (.tup []) []:=by
 obtain⟨⟨a,r⟩,t,c,d,w⟩:=gU.1 p;obtain⟨h,H,J,K,L⟩:=cK.1 t;have y:=bk a;obtain⟨M,N,O,B,P⟩:=bI a c;have l:=(br.1 (a8.1 a).2.2.1).2.2;have C:=lD h;have D:=(aS.1 (a8.1 a).2.1).2.2.1;unfold jstep;rw[C9 ω,C9 ω,C9 ω,CB g];by_cases n:0<j.a
 ·rw[CB n]
  have o:=fx h (i:=(j.a - 1).toNat) ω;have E:=ao (xs:=j.W.S) (i:=(j.a - 1).toNat) ω;have F:0<=j.W.a2*16+nth j.W.S (j.a - 1).toNat/\j.W.a2*16+nth j.W.S (j.a - 1).toNat<512:=ω
  have G:(j.W.a2*16+nth j.W.S (j.a - 1).toNat) / 16=j.W.a2:=ω
  have b:=GN k.F (j.W.a2*16+nth j.W.S (j.a - 1).toNat) 0 (mL a) y.1 F ω (λ_=>by rw[G];exact⟨B,ω,row16 a (f:=b8 k j.W.a2) (by unfold b8;omega)⟩);generalize (fI k.F (j.W.a2*16+nth j.W.S (j.a - 1).toNat) 0).1=m at b |-;generalize (fI k.F (j.W.a2*16+nth j.W.S (j.a - 1).toNat) 0).2=e at b;refine fM 59 [(585,[2,0,0])] [(2,283,[20,21,22,23,24,25,26,27,28,29,30,31,32,33,34,35,36,37,38,39,40,41,42,19,43,44,4,0,1,2,3,4,5,6,7,8,9,10,11,12,13,14,15,16,17,18,19,20,21,22,23,24,25,26,27,1025,28])] [(0,0),(1,0)] Tryz.func588 rfl (λu q=>?_) (.inr trivial)
  repeat'(first|refine gE ?_|(conv=>whnf);first|refine CG (b) ⟨⟨rfl,aR.enc_fz k.F⟩,⟨rfl,rfl⟩,⟨rfl,rfl⟩,trivial⟩ ?_|refine CM ω (aa E) ?_)
  refine CH rfl rfl ?_;exact wC
 rw[C9 n];have b:=o6 k j.W.a0 2 a r d (.inr rfl);cases e:(fk k j.W.a0 2).2<;>rw[e]at b
 ·refine fM 59 [(585,[2,0,0])] [(2,283,[20,21,22,23,24,25,26,27,28,29,30,31,32,33,34,35,36,37,38,39,40,41,42,19,43,44,4,0,1,2,3,4,5,6,7,8,9,10,11,12,13,14,15,16,17,18,19,20,21,22,23,24,25,26,27,1025,28])] [(0,0),(1,0)] Tryz.func588 rfl (λu q=>?_) (.inr trivial)
  repeat'(first|refine gE ?_|(conv=>whnf);refine CK (b) (.inl rfl) ?_)
  refine CH rfl rfl ?_;rw[<-g];exact wC
 refine fM 59 [(585,[2,0,0])] [(2,283,[20,21,22,23,24,25,26,27,28,29,30,31,32,33,34,35,36,37,38,39,40,41,42,19,43,44,4,0,1,2,3,4,5,6,7,8,9,10,11,12,13,14,15,16,17,18,19,20,21,22,23,24,25,26,27,1025,28])] [(0,0),(1,0)] Tryz.func588 rfl (λu q=>?_) (.inr trivial)
 repeat'(first|refine gE ?_|(conv=>whnf);refine CK (b) (.inl rfl) ?_)
 refine CH rfl rfl ?_;exact wC
def Dd(k:af)(j:cn)(g:jmay k j=true):aT Tryz.prog 572 false [.ptr (af.enc .own k),.ptr (xu j)] [.ptr (af.enc .own (jstep k j).1),.ptr (xu (jstep k j).2)] (.tup []) []:=by
 obtain⟨⟨h,p⟩,B,c,b,l⟩:=gU.1 g;obtain⟨r,F,G,H,J⟩:=cK.1 B;have n:j.W.a0≠j.W.a2:=λe=>l (by rw[e])
 have C:=lD r;by_cases d:j.b1=0
 ·have a:=o6 k j.W.a0 1 h p b (.inl rfl)
  unfold jstep;rw[CB d];cases e:(fk k j.W.a0 1).2<;>rw[e]at a
  ·refine fM 80 [(585,[2,0,0]),(586,[2,0,0,0]),(587,[2,0,0]),(588,[2,2])] [(7,7,[27,28,29,30,31,32,33]),(9,14,[38,39,40,41,42,43,44,45,46,47,48,49,50,51])] [(0,0),(1,0)] Tryz.func572 rfl (λu q=>?_) (.inr trivial)
   repeat'(first|refine gB ?_|(conv=>whnf);refine CK (a) (.inl rfl) ?_)
   refine CH rfl rfl ?_;exact wC
  refine fM 80 [(585,[2,0,0]),(586,[2,0,0,0]),(587,[2,0,0]),(588,[2,2])] [(7,7,[27,28,29,30,31,32,33]),(9,14,[38,39,40,41,42,43,44,45,46,47,48,49,50,51])] [(0,0),(1,0)] Tryz.func572 rfl (λu q=>?_) (.inr trivial)
  repeat'(first|refine gB ?_|(conv=>whnf);refine CK (a) (.inl rfl) ?_)
  refine CH rfl rfl ?_;exact wC
 by_cases o:j.b1=1
 ·unfold jstep
  rw[C9 d,CB o];by_cases t:j.a=j.W.S.length
  ·rw[CB t]
   refine fM 80 [(585,[2,0,0]),(586,[2,0,0,0]),(587,[2,0,0]),(588,[2,2])] [(7,7,[27,28,29,30,31,32,33]),(9,14,[38,39,40,41,42,43,44,45,46,47,48,49,50,51])] [(0,0),(1,0)] Tryz.func572 rfl (λu q=>?_) (.inr trivial)
   repeat'(first|refine gB ?_|(conv=>whnf);first|refine CC ?_|refine CC ?_)
   refine CH rfl rfl ?_;exact wC
  rw[C9 t];have D:=ao (xs:=j.W.S) (i:=j.a.toNat) ω;have a:=zl k j.W.a0 j.W.a2 (nth j.W.S j.a.toNat) h b c (fx r ω);have E:=(gU.1 g).2.1;refine fM 80 [(585,[2,0,0]),(586,[2,0,0,0]),(587,[2,0,0]),(588,[2,2])] [(7,7,[27,28,29,30,31,32,33]),(9,14,[38,39,40,41,42,43,44,45,46,47,48,49,50,51])] [(0,0),(1,0)] Tryz.func572 rfl (λu q=>?_) (.inr trivial)
  repeat'(first|refine gB ?_|(conv=>whnf);first|refine CK a (.inr ⟨rfl,Cb _,trivial⟩) ?_|refine CM ω (aa D) ?_)
  refine CH rfl rfl ?_;exact wC
 by_cases w:j.b1=2
 ·have a:=Ha k j.W.a0 j.W.a2 h p b c n
  unfold jstep;rw[C9 d,C9 o,CB w];cases e:(qV k j.W.a0 j.W.a2).2<;>rw[e]at a
  ·refine fM 80 [(585,[2,0,0]),(586,[2,0,0,0]),(587,[2,0,0]),(588,[2,2])] [(7,7,[27,28,29,30,31,32,33]),(9,14,[38,39,40,41,42,43,44,45,46,47,48,49,50,51])] [(0,0),(1,0)] Tryz.func572 rfl (λu q=>?_) (.inr trivial)
   repeat'(first|refine gB ?_|(conv=>whnf);refine CK (a) (.inl rfl) ?_)
   refine CH rfl rfl ?_;exact wC
  refine fM 80 [(585,[2,0,0]),(586,[2,0,0,0]),(587,[2,0,0]),(588,[2,2])] [(7,7,[27,28,29,30,31,32,33]),(9,14,[38,39,40,41,42,43,44,45,46,47,48,49,50,51])] [(0,0),(1,0)] Tryz.func572 rfl (λu q=>?_) (.inr trivial)
  repeat'(first|refine gB ?_|(conv=>whnf);refine CK (a) (.inl rfl) ?_)
  refine CH rfl rfl ?_;exact wC
 by_cases y:j.b1=3
 ·have a:=Dq k j g y
  refine fM 80 [(585,[2,0,0]),(586,[2,0,0,0]),(587,[2,0,0]),(588,[2,2])] [(7,7,[27,28,29,30,31,32,33]),(9,14,[38,39,40,41,42,43,44,45,46,47,48,49,50,51])] [(0,0),(1,0)] Tryz.func572 rfl (λu q=>?_) (.inr trivial)
  repeat'(first|refine gB ?_|(conv=>whnf);refine CK (a) (.inl rfl) ?_)
  refine CH rfl rfl ?_;exact wC
 unfold jstep;rw[C9 d,C9 o,C9 w,C9 y];refine fM 80 [(585,[2,0,0]),(586,[2,0,0,0]),(587,[2,0,0]),(588,[2,2])] [(7,7,[27,28,29,30,31,32,33]),(9,14,[38,39,40,41,42,43,44,45,46,47,48,49,50,51])] [(0,0),(1,0)] Tryz.func572 rfl (λu q=>?_) (.inr trivial)
 repeat'(first|refine gB ?_|(conv=>whnf);refine CC ?_)
 refine CH rfl rfl ?_;exact wC
def ET(k:af)(j:cn)(e:ay k=true)(i:j9 j=true):ar Tryz.prog 571 false [.val (some 5) (af.enc .X k),.val (some 5) (cn.enc .X j)] .one [B (jmay k j)]:=by
 have c:=bk e;have b:eG (af.enc .X k)=af.enc .X k:=by rw[<-CT k,qf]
 have r:=(a8.1 e).2.2.2.2;have a:=mg k c;rw[e]at a;have d:=yj j (va i);rw[i]at d;have l:=fA k j.W.a2 c.1.2;have n:=fA k j.W.a0 c.1.2;have t:=cR k.F.Q j.W.a2 c.1.2;have u:=cR k.F.Q j.W.a0 c.1.2;by_cases o:k.Calls=100000
 ·rw[U0 ω]at a
  rw[show jmay k j=false by rw[<-U5,gU];exact λh=>h.1.2 o];refine fO 44 [(3,16,[27,28,29,30,31,32,33,34,35,36,37,38,39,40,41,42])] Tryz.func571 rfl ?_
  repeat'(first|refine gP ?_|(conv=>whnf);first|refine CC ?_|refine C8 (a) ?_|refine C8 (d) ?_)
  rfl
 rw[O0 ω]at a;by_cases p:(ac k.F.Q j.W.a2).j=0
 ·rw[show jmay k j=false by rw[<-U5,gU];exact λh=>h.2.2.1 p]
  refine fO 44 [(3,16,[27,28,29,30,31,32,33,34,35,36,37,38,39,40,41,42])] Tryz.func571 rfl ?_
  repeat'(first|refine gB ?_|(conv=>whnf);refine CG (l) ⟨b,⟨rfl,rfl⟩,trivial⟩ ?_)
  rfl
 by_cases q:(ac k.F.Q j.W.a0).j=0
 ·rw[show jmay k j=false by rw[<-U5,gU];exact λh=>h.2.2.2.1 q]
  refine fO 44 [(3,16,[27,28,29,30,31,32,33,34,35,36,37,38,39,40,41,42])] Tryz.func571 rfl ?_
  repeat'(first|refine gB ?_|(conv=>whnf);first|refine CG (l) ⟨b,⟨rfl,rfl⟩,trivial⟩ ?_|refine CG (n) ⟨b,⟨rfl,rfl⟩,trivial⟩ ?_)
  rfl
 refine fO 44 [(3,16,[27,28,29,30,31,32,33,34,35,36,37,38,39,40,41,42])] Tryz.func571 rfl ?_
 repeat'(first|refine gB ?_|(conv=>whnf);first|refine CG (l) ⟨b,⟨rfl,rfl⟩,trivial⟩ ?_|refine CG (n) ⟨b,⟨rfl,rfl⟩,trivial⟩ ?_)
 exact X0 (λz=>[B z]) (by
   unfold jmay;rw[e,i,O0 o];by_cases g:(ac k.F.Q j.W.a2).e=(ac k.F.Q j.W.a0).e
   · rw[U0 (λh=>h.2.2 g)];simp[g]
   rw[O0 ⟨p,q,g⟩];simp[g])
def BE(j:cn):ar Tryz.prog 573 false [.val (some 5) (cn.enc .X j)] .one [B (over j)]:=by
 by_cases a:j.b1=4
 ·rw[show over j=true from O0 (.inl a)]
  refine fO 11 [] Tryz.func573 rfl ?_
  repeat'(first|refine gB ?_|(conv=>whnf);refine CC ?_)
  rfl
 rw[show over j=decide (j.b1=5) from decide_eq_decide.2 ω];refine fO 11 [] Tryz.func573 rfl ?_
 repeat'(first|refine gB ?_|(conv=>whnf);refine CC ?_)
 exact X0 (λz=>[B z]) (by rw[Y4];simp)
def JG(x:ab):List C:=(bB x).set 21 .z
def Fb{x:ab}(h:x.Y.W.S=[]):M0 (JG x) (bB x):=by
 unfold JG bB;simp only[List.set,h,List.map_nil]
 repeat'(first|exact trivial|exact eA _|refine CL ?_ ?_|rfl)
def BU(h:ab)(j:aY h [])(k:h.o=true):aT Tryz.prog 536 false [.ptr (bB h)] [.ptr (bB (mStep h))] .one [B (lC h)]:=by
 obtain⟨l,-,-⟩:=j.job k;have b:=ET h.G h.Y j.ker l;have a:=BE (dU h.G h.Y).2;unfold lC mStep;cases e:jmay h.G h.Y with
 | false=>
  rw[e]at b;have d:dU h.G h.Y=(h.G,h.Y):=by unfold dU;rw[e];rfl
  rw[d]at a |-;simp only at a |-;cases g:over h.Y<;>rw[g]at a
  ·refine fM 39 [(572,[3,5,5])] [(1,8,[4,5,6,7,8,9,10,11]),(2,6,[13,14,15,16,17,18])] [(0,0)] Tryz.func536 rfl (λu q=>?_)
   repeat'(first|refine gP ?_|(conv=>whnf);refine CG (b) ⟨⟨rfl,CT h.G⟩,⟨rfl,rfl⟩,trivial⟩ ?_)
   refine CH rfl ?_ ?_
   ·exact X0 (λz=>[B z]) (by rw[Y4];simp)
   exact wC
  refine aT.wk (c:=JG _) ?_ (Fb rfl);refine fM 39 [(572,[3,5,5])] [(1,8,[4,5,6,7,8,9,10,11]),(2,6,[13,14,15,16,17,18])] [(0,0)] Tryz.func536 rfl (λu q=>?_)
  repeat'(first|refine gP ?_|(conv=>whnf);refine CG (b) ⟨⟨rfl,CT h.G⟩,⟨rfl,rfl⟩,trivial⟩ ?_)
  refine CH rfl ?_ ?_
  ·exact X0 (λz=>[B z]) (by rw[Y4];simp)
  exact wC
 | true=>
  rw[e]at b;have d:dU h.G h.Y=jstep h.G h.Y:=by unfold dU;rw[e];rfl
  have i:=Dd h.G h.Y e;rw[d]at a |-;generalize jstep h.G h.Y=r at i a |-;cases g:over r.2<;>rw[g]at a
  ·refine fM 39 [(572,[3,5,5])] [(1,8,[4,5,6,7,8,9,10,11]),(2,6,[13,14,15,16,17,18])] [(0,0)] Tryz.func536 rfl (λu q=>?_)
   repeat'(first|refine gP ?_|(conv=>whnf);first|refine CG (b) ⟨⟨rfl,CT h.G⟩,⟨rfl,rfl⟩,trivial⟩ ?_|refine CK (i) (.inl rfl) ?_)
   refine CH rfl ?_ ?_
   ·exact X0 (λz=>[B z]) (by rw[Y4];simp)
   exact wC
  refine aT.wk (c:=JG _) ?_ (Fb rfl);refine fM 39 [(572,[3,5,5])] [(1,8,[4,5,6,7,8,9,10,11]),(2,6,[13,14,15,16,17,18])] [(0,0)] Tryz.func536 rfl (λu q=>?_)
  repeat'(first|refine gP ?_|(conv=>whnf);first|refine CG (b) ⟨⟨rfl,CT h.G⟩,⟨rfl,rfl⟩,trivial⟩ ?_|refine CK (i) (.inl rfl) ?_)
  refine CH rfl ?_ ?_
  ·exact X0 (λz=>[B z]) (by rw[Y4];simp)
  exact wC
def JZ{k:Int} : ∀{l s s2 c:List Int}(n:Nat),(∀x∈s2,x∈s)->rY k s l=some c->∃d,rY k s2 (l.take n)=some d/\∀x∈d,x∈c
 | [],s,s2,c,n,h,e=>by
  simp only[rY,Z0,List.take_nil]at e |-;subst e;exact⟨s2,rfl,h⟩
 | a::l,s,s2,c,0,h,e=>⟨s2,rfl,λx b=>(pN (λ_ y=>y) e).1 x (h x b)⟩
 | a::l,s,s2,c,n+1,h,e=>by
  simp only[List.take_succ_cons,rY]at e |-;split at e
  ·rename_i g
   rw[CB (show good k s2 a from⟨g.1,g.2.1,g.2.2.1,λx=>g.2.2.2 (h a x)⟩)];exact JZ (l:=l) (s:=s++[a]) (s2:=s2++[a]) n (λx b=>by
     rcases z3.1 b with b|b
     · exact z3.2 (.inl (h x b))
     exact z3.2 (.inr b)) e
  cases e
def FT:∀{a:List (List Int)}{k:Nat}{s s2:List Int}(i n:Nat),(∀x∈s2,x∈s)->(gL k s a).isSome=true->(gL k s2 (a.set i ((nth a i).take n))).isSome=true
 | [],_,_,_,_,_,_,_=>rfl
 | l::a,k,s,s2,i,n,h,e=>by
  simp only[gL,fm]at e;split at e
  ·rename_i g
   cases b:rY k s l with
   | none=>rw[b]at e;cases e
   | some j=>
    rw[b]at e;cases i with
    | zero=>
     obtain⟨c,d,f⟩:=JZ n h b;simp only[List.set_cons_zero,gL,fm];rw[CB ⟨by have:=g.1;simp only[nth,List.getD_cons_zero,V1];omega,g.2⟩];show((rY (k:Nat) s2 (l.take n)).bind λj=>gL (k+1) j a).isSome=true;rw[d];exact uk f e
    | succ i=>
     obtain⟨o,c,d,f⟩:=pN h b;simp only[List.set_cons_succ,gL,fm];rw[CB g,d];exact FT i n f e
  cases e
def PT{c:aE}(h:bA c=true)(k:Nat):bA (rZ c k)=true:=by
 unfold bA at h |-;simp only[I0,C0]at h |-;exact⟨by simp only[rZ,U1];exact h.1,FT k _ (λ_ h=>h) h.2⟩
def oY(b:Int):Nat->List Int
 | 0=>[]
 | j+1=>if aU b (j:Nat)=true then oY b j else oY b j++[((j:Nat):Int)]
def uB{b:Int} : ∀{n:Nat}{z:Int},z∈oY b n->0<=z/\z<n/\aU b z=false
 | 0,_,h=>by cases h
 | n+1,z,h=>by
  unfold oY at h;split at h
  ·have:=uB h;exact⟨this.1,ω,this.2.2⟩
  rename_i e;rcases z3.1 h with h|h
  ·have:=uB h;exact⟨this.1,ω,this.2.2⟩
  rw[O1.1 h];exact⟨ω,ω,by simpa using e⟩
def ur(b:Int):∀n,(oY b n).length<=n
 | 0=>C3 _
 | n+1=>by have:=ur b n;unfold oY;split<;>simp<;>omega
def rp(k b:Int):List Int:=if Nr k b=true then oY b (slots k).toNat else []
def nw(h:ab)(i:Nat):List Int:=rp (nth h.K i).d (i9 h i)
def yf{k b z:Int}(h:z∈rp k b):0<=z/\z<slots k/\aU b z=false:=by
 unfold rp at h;split at h
 ·have:=uB h;exact⟨this.1,ω,this.2.2⟩
 cases h
def H5(k b:Int):(rp k b).length<=16:=by
 unfold rp;split
 ·rename_i h
  unfold Nr at h;rw[C0]at h;have:=(ij (k:=k) ⟨h.1,h.2.1⟩).2.2.1;have:=ur b (slots k).toNat;omega
 exact W0 _
def qP(h:ab)(i:Nat):Int:=nth (nw h i) (FZ h.c0 ((nw h i).length:Nat)).toNat
def slotT(h:ab)(i:Nat):ab:={h with c0:=zw h.c0,K:=h.K.set i (rh (nth h.K i) (qP h i))}
def vp(h:ab)(i:Nat):Int:=16*(nth h.K i).R+qP h i*csz (nth h.K i).d
def AS{h:ab}{i:Nat}(a:0<(nw h i).length):qP h i∈nw h i:=by
 have:=r7 h.c0 (n:=((nw h i).length:Nat)) ω;exact am ω
def aY.slotT{h:ab}{E:List Int}{i:Nat}(a:aY h E)(b:i<h.K.length)(e:0<(nw h i).length):aY (slotT h i) (vp h i::E)/\k6 (slotT h i).K (vp h i) (nth h.K i).d:=by
 obtain⟨c,d,f⟩:=yf (AS e);exact⟨a.take b ⟨c,d⟩ f (Dm _),(k6.setS a.L b ⟨c,d⟩ _ _).2 (.inr ⟨rfl,.inr rfl⟩)⟩
def tw(h:ab)(c:Int)(i:Nat):Bool:=decide ((nth h.K i).d=c)&&(!gq h (nth h.K i).R&&decide (0<(nw h i).length))
def uw(h:ab)(c:Int):Option Nat:=(List.range h.K.length).find? (tw h c)
def rL(h:ab)(c:Int):ab:=addS h (newK h.G (au h.q 1).2.1).1 (au h.q 1).1 (au h.q 1).2.1 c
def ru(h:ab):Nat:=kN (H3 (au h.q 1).2.1) h.K
def oD(h:ab)(i:Nat):ab × Int:=if(nw h i).length=0 then(h,-1) else(slotT h i,vp h i)
def smallA(h:ab)(t c:Nat):ab × Int:=
 if 0<(nth (nth h.T t).b c).length then({h with T:=h.T.set t (rZ (nth h.T t) c)},nth (nth (nth h.T t).b c) ((nth (nth h.T t).b c).length - 1))
 else match uw h c with
 | some i=>(slotT h i,vp h i)
 | none=>if(au h.q 1).2.2=false then(h,-1)
  else if(newK h.G (au h.q 1).2.1).2=false then({h with G:=(newK h.G (au h.q 1).2.1).1},-1)
  else oD (rL h c) (ru h)
def Dt{α:Type}[Inhabited α](p:α->Bool)(xs:List α)(y:α):kN p xs<(jL p xs y).length/\nth (jL p xs y) (kN p xs)=y:=by
 have b:=Qz p xs;have a:(xs.take (kN p xs)).length=kN p xs:=by rw[V1];omega
 refine⟨by rw[(lg p xs y).length_eq,List.length_cons];omega,bm ?_⟩;unfold jL;rw[W4 ω,a,Nat.sub_self]
 rfl
def aY.tEq{h:ab}{E:List Int}(a:aY h E){k:af}(c:ay k=true)(b:tEq (tbl h) k.F.Q):aY {h with G:=k} E/\JK h {h with G:=k}:=
 ⟨a.step (j:=h.Y) (m:=h.o) c b.1 (a.pg.tEq b) a.job a.noj,⟨rfl,rfl,λs d _=>⟨s,d,rfl,λ_ z=>z⟩,λq e=>.inl ⟨(b.2 q).1.1 e,(b.2 q).2⟩⟩⟩
structure Ti(h:ab)(c:Int)(r:ab × Int):Prop where
 no:r.2<0->aY r.1 []
 yes:0<=r.2->aY r.1 [r.2]/\k6 r.1.K r.2 c
 jk:JK h r.1
 nx:r.1.a=h.a
 cl:r.1.T.length=h.T.length
def k6.nn{h:ab}{E:List Int}(b:aY h E){a c:Int}(d:k6 h.K a c):0<=a:=(k6.bd b d).1
def Ti.slot{h h':ab}{i:Nat}{c:Int}(g:aY h' [])(j:i<h'.K.length)(k:0<(nw h' i).length)(l:(nth h'.K i).d=c)(n:JK h h')(a:gq h' (nth h'.K i).R=false)(h1:h'.a=h.a)(o:h'.T.length=h.T.length):Ti h c (slotT h' i,vp h' i):=by
 obtain⟨d,f⟩:=g.slotT j k;have b:=k6.nn d f;exact⟨λe=>absurd b (by simp only at e;omega),λ_=>⟨d,by rw[<-l];exact f⟩,n.trans (JK.take a),h1,o⟩
def ve{h:ab}{t c:Nat}(a:aY h [])(q:t<h.T.length)(P:c<=3)(B:h.G.Calls<=90000):Ti h c (smallA h t c):=by
 have f:=a.cach _ (am q);have C:=pJ f;unfold smallA;split
 ·rename_i D
  obtain⟨d,b⟩:=a.pop q ω D (PT f c);have l:=k6.nn a b;exact⟨λe=>absurd l (by simp only at e;omega),λ_=>⟨d,b⟩,JK.eq rfl rfl rfl rfl,rfl,U1 ..⟩
 split
 ·rename_i i r
  have g:=List.find?_some r;have E:=List.mem_range.1 (List.mem_of_find?_eq_some r);unfold tw at g;simp only[I0,C0,Bool.not_eq_true']at g;exact Ti.slot a E g.2.2 g.1 (JK.refl h) g.2.1 rfl rfl
 split
 ·exact⟨λ_=>a,λe=>absurd e (by show ¬(0:Int)<=-1;decide),JK.refl h,rfl,rfl⟩
 rename_i F;have j:(au h.q 1).2.2=true:=by simpa using F
 obtain⟨G,H,J,u⟩:=jR a (v5 1) j;have s:=we.of (p:=(au h.q 1).2.1) a.ker ω ⟨G,by have:(au h.q 1).2.1+1<=(h.G.F.Q.J.length:Nat):=H;omega⟩ (J _ ω ω);split
 ·rename_i n
  rw[s.no n];obtain⟨d,b⟩:=a.tEq (mS a.ker ω) (tEq.refl _);exact⟨λ_=>d,λe=>absurd e (by show ¬(0:Int)<=-1;decide),b,rfl,rfl⟩
 rename_i n;have o:(newK h.G (au h.q 1).2.1).2=true:=by simpa using n
 have w:we h.G (au h.q 1).2.1 ((newK h.G (au h.q 1).2.1).1,true):=by rw[<-o];exact s
 have d:=a.addS (c:=c) ⟨ω,ω⟩ j w;have b:JK h (rL h c):=JK.addS w;obtain⟨K,A⟩:=Dt (H3 (au h.q 1).2.1) h.K ⟨(au h.q 1).2.1,c,0⟩;unfold oD;split
 ·exact⟨λ_=>d,λe=>absurd e (by show ¬(0:Int)<=-1;decide),b,rfl,rfl⟩
 refine Ti.slot (h':=rL h c) (i:=ru h) d K ω (by show(nth (jL (H3 (au h.q 1).2.1) h.K ⟨(au h.q 1).2.1,c,0⟩) (ru h)).d=_;unfold ru;rw[A]) b ?_ rfl rfl;show gq (rL h c) (nth (jL (H3 (au h.q 1).2.1) h.K ⟨(au h.q 1).2.1,c,0⟩) (ru h)).R=false;unfold ru;rw[A,b.pg];rw[<-U5];intro k;unfold gq at k;simp only[I0,O6,C0]at k;obtain⟨-,⟨y,L,M⟩,⟨z,N,O⟩⟩:=a.job k.1;rcases k.2 with e|e
 ·exact u _ (v5 _) ω (by rw[e,<-M];exact dC L)
 exact u _ (v5 _) ω (by rw[e,<-O];exact dC N)
def gZ(size:Int):Nat:=((size+15) / 16).toNat
def dP(h:ab)(size:Int):af × Nat:=newsK h.G (au h.q (gZ size:Nat)).2.1 (gZ size)
def largeA(h:ab)(t size:Int):ab × Int × Int:=
 if(au h.q (gZ size:Nat)).2.2=false then(h,-1,4)
 else if(dP h size).2=gZ size then(addL h (dP h size).1 (au h.q (gZ size:Nat)).1 (au h.q (gZ size:Nat)).2.1 (gZ size:Nat) size t,16*(au h.q (gZ size:Nat)).2.1,0)
 else({h with G:=unmN (dP h size).1 (au h.q (gZ size:Nat)).2.1 (dP h size).2},-1,4)
def u5(xs:List bt):Nat->Int
 | 0=>0
 | i+1=>u5 xs i+(nth xs i).u
def ui(h:ab):Int:=u5 h.O h.O.length
def allocH(h:ab)(t size:Int):ab × Int × Int:=
 if 1000000<=h.a\/90000<h.G.Calls then(h,-1,5)
 else if ¬(0<=t/\t<=h.T.length - 1) then(h,-1,1)
 else if ¬(1<=size/\size<=1000) then(h,-1,2)
 else if h.c3<ui h+size then(h,-1,3)
 else if 0<=aJ size then(if(smallA h t.toNat (aJ size).toNat).2<0 then((smallA h t.toNat (aJ size).toNat).1,-1,4) else(addO (smallA h t.toNat (aJ size).toNat).1 (smallA h t.toNat (aJ size).toNat).2 size t,(smallA h t.toNat (aJ size).toNat).2,0))
 else largeA h t size
def AZ{h:ab}{t size:Int}(a:aY h [])(g:9<=size/\size<=1000)(i:h.a<1000000)(j:h.G.Calls<=90000)(k:0<=t/\t<=h.T.length - 1):aY (largeA h t size).1 []/\JK h (largeA h t size).1:=by
 have l:(gZ size:Int)=(size+15) / 16:=by unfold gZ;omega
 unfold largeA;split
 ·exact⟨a,JK.refl h⟩
 rename_i o;have b:(au h.q (gZ size:Nat)).2.2=true:=by simpa using o
 obtain⟨c,d,e,w⟩:=jR a (show(1:Int)<=(gZ size:Nat) by omega) b;have s:=lX.of (p:=(au h.q (gZ size:Nat)).2.1) (n:=gZ size) a.ker ω ⟨c,d⟩ e (gZ size) (C3 _);split
 ·rename_i q
  have f:lX h.G (au h.q (gZ size:Nat)).2.1 (gZ size) ((dP h size).1,gZ size):=by
   have:((dP h size).1,gZ size)=dP h size:=by rw[<-q]
   rw[this];exact s
  exact⟨a.addL g l b f i k,JK.addL f⟩
 obtain⟨r,u⟩:=s.undo a.ker ⟨c,d⟩ e;exact a.tEq r u
def AI{h:ab}{t size:Int}(a:aY h []):aY (allocH h t size).1 []/\JK h (allocH h t size).1:=by
 unfold allocH;split
 ·exact⟨a,JK.refl h⟩
 rename_i d;rw[not_or]at d;split
 ·exact⟨a,JK.refl h⟩
 rename_i n;split
 ·exact⟨a,JK.refl h⟩
 rename_i o;split
 ·exact⟨a,JK.refl h⟩
 split
 ·rename_i b
  have f:aJ size<=3:=by unfold aJ;repeat' split<;>omega
  have s:=ve (t:=t.toNat) (c:=(aJ size).toNat) a ω ω ω;generalize smallA h t.toNat (aJ size).toNat=r at s;split
  ·rename_i e;exact⟨s.no e,s.jk⟩
  rename_i e;obtain⟨g,i⟩:=s.yes ω;refine⟨g.addO (.inl ?_) (by rw[s.nx];omega) (by rw[s.cl];omega),s.jk.trans (JK.eq rfl rfl rfl rfl)⟩;obtain⟨z,j,k,p⟩:=i;exact⟨z,j,k,by show z.d=aJ size;omega⟩
 rename_i b;have l:9<=size:=by
  unfold aJ at b
  repeat' split at b<;>omega
 exact AZ a ⟨l,ω⟩ ω ω ω
def kQ{α β:Type}[Inhabited α]{f:α->β}{xs:List α}{i:Nat}{y:α}(a:i<xs.length)(e:f y=f (nth xs i)):(xs.set i y).map f=xs.map f:=by
 rw[I6];refine List.ext_getElem (by simp) λj b c=>?_
 rw[List.getElem_set];split
 ·rename_i g;subst g
  rw[List.getElem_map,e,bm (I2 a)]
 rfl
def oF{α β:Type}[Inhabited α](f:α->List β):∀(xs:List α)(i:Nat)(y:α),i<xs.length->(f y).Sublist (f (nth xs i))->((xs.set i y).flatMap f).Sublist (xs.flatMap f)
 | [],_,_,h,_=>absurd h (Nat.not_lt_zero _)
 | x::xs,0,y,_,a=>by
  rw[List.set_cons_zero,X6,X6];exact List.Sublist.append a (List.Sublist.refl _)
 | x::xs,i+1,y,h,a=>by
  rw[List.set_cons_succ,X6,X6];exact List.Sublist.append (List.Sublist.refl _) (oF f xs i y (by simpa using h) a)
def zK(k:af)(a:Int):Nat->af
 | 0=>k
 | m+1=>dL (zK k a m) (a+m) 0
def ov(k:af)(a:Int):∀m,(zK k a m).F.Q=k.F.Q/\(zK k a m).Calls=k.Calls/\(zK k a m).w=k.w
 | 0=>⟨rfl,rfl,rfl⟩
 | m+1=>ov k a m
def Na{k:af}(h:ay k=true){a:Int} : ∀{m:Nat},(∀j:Nat,j<m->(ac k.F.Q ((a+j) / 16)).j≠0)->ay (zK k a m)=true
 | 0,_=>h
 | m+1,b=>yD (Na h λj c=>b j ω) (by rw[(ov k a m).1];exact b m ω) ⟨ω,ω⟩
def Hz{h:ab}{E:List Int}(j:aY h E){sp:List ax}{la:List aB}{o:List aA}{p:Int}{n:Nat}(y:p+n<=h.G.F.Q.J.length)(A:sp.Sublist h.K)(M:∀l∈la,∀q∈lpgs l l.a4.toNat,∃w∈h.M,q∈lpgs w w.a4.toNat)(N:0<=p)(B:∀q,q∈pgs sp la↔q∈pgs h.K h.M/\¬(p<=q/\q<p+n))(O:∀q,RH o q↔RH h.q q\/(p<=q/\q<p+n)) :
  Pg (unmN h.G p n).F.Q o sp la:=by
 have b:=(fV h.G p n).1;have d:=mN j.ker N n y;have f:∀q:Nat,(q:Int)∈pgs sp la->nth (unmN h.G p n).F.Q.J q=nth (tbl h).J q:=λq c=>by rw[d,C9 ((B q).1 c).2];rfl
 have a:∀q:Nat,(nth (unmN h.G p n).F.Q.J q).j≠0↔(nth (tbl h).J q).j≠0/\¬(p<=q/\(q:Int)<p+n):=λq=>by
  rw[d];by_cases e:p<=q/\(q:Int)<p+n
  ·rw[CB e];exact⟨λx=>absurd rfl x,λx=>absurd e x.2⟩
  rw[C9 e];exact⟨λx=>⟨x,e⟩,λx=>x.1⟩
 refine⟨λl g q c r J C k=>?_,λq c=>?_,λq c=>?_,λq c=>?_,λs g u D F K=>?_⟩
 ·have t:=(a r).1 C
  rw[b]at J;rw[f q (gt g c),d,C9 t.2]at k;obtain⟨w,G,H⟩:=M l g _ c;exact j.pg.one w G q H r J t.1 k
 ·rw[b];exact j.pg.bnd q ((B q).1 c).1
 ·rw[b]at c
  rw[a,B,j.pg.own q c]
 ·rw[b]at c
  rw[a,O,j.pg.fre q c]
  grind
 have i:∀s∈sp,0<=s.R:=λs g=>(aF (j.L.sok s (A.subset g))).1
 have P:=f s.R.toNat (by rw[Int.toNat_of_nonneg (i s g)];exact dC g);have Q:=f u.R.toNat (by rw[Int.toNat_of_nonneg (i u D)];exact dC D);rw[P,Q]at K;exact j.pg.mesh s (A.subset g) u (A.subset D) F K
def trimL(l:aB)(size:Int):aB:=⟨l.R,(size+15) / 16,size⟩
def dE(l:aB)(size:Int):Nat:=(l.a4 - (size+15) / 16).toNat
def aY.trimL{h:ab}{E:List Int}{i k:Nat}{size:Int}(t:aY h E)(T:i<h.O.length)(H:k<h.M.length)(Y:(nth h.O i).Addr=16*(nth h.M k).R)(N:9<=size/\size<=(nth h.M k).u) :
  ∃o,(dE (nth h.M k) size=0->o=h.q)/\(0<dE (nth h.M k) size->dN (eQ h) h.q ⟨(nth h.M k).R+(size+15) / 16,(dE (nth h.M k) size:Nat)⟩ = some o)/\
   aY {h with G:=unmN h.G ((nth h.M k).R+(size+15) / 16) (dE (nth h.M k) size),M:=h.M.set k (trimL (nth h.M k) size),O:=h.O.set i {nth h.O i with u:=size},q:=o} E:=by
 have U:=t.L;have C:=U.lok _ (am H);have hf:=aO C;unfold bJ at C;rw[C0]at C;obtain⟨b1,b2⟩:=uv t H;have O:=U.dis;have G:=λj n=>U.one j k n H
 have y:=(am H:nth h.M k∈h.M)
 have d:∀z∈h.M.set k (Ab.trimL (nth h.M k) size),z=Ab.trimL (nth h.M k) size\/∃j,j<h.M.length/\j≠k/\nth h.M j=z:=λz N=>eE N
 have p:Ab.trimL (nth h.M k) size∈h.M.set k (Ab.trimL (nth h.M k) size):=jz _ H;have u:∀j,j<h.M.length->j≠k->nth h.M j∈h.M.set k (Ab.trimL (nth h.M k) size):=λj n e=>kn _ n e
 have hpageM:(h.M.set k (Ab.trimL (nth h.M k) size)).map (·.R)=h.M.map (·.R):=kQ H rfl;have w:(pgs h.K (h.M.set k (Ab.trimL (nth h.M k) size))).Sublist (pgs h.K h.M):=by
  unfold pgs;refine List.Sublist.append (List.Sublist.refl _) (oF _ _ _ _ H ?_);unfold lpgs;exact(List.range_sublist.2 (by simp only[Ab.trimL];omega)).map _
 obtain⟨l,V⟩ : ∃l,nth h.M k=l:=⟨_,rfl⟩
 rw[V]at C hf b1 b2 G y d p u hpageM w Y N |-;generalize hla:h.M.set k (Ab.trimL l size)=la at d p u hpageM w |-;have hn1:(1:Int)<=(size+15) / 16/\(size+15) / 16+(dE l size:Nat)=l.a4:=by unfold dE;omega
 have D:∀q,q∈lpgs l l.a4.toNat↔l.R<=q/\q<l.R+l.a4:=λq=>by
  rw[dy];constructor
  ·rintro⟨j,n,rfl⟩;omega
  rintro⟨Z,q2⟩;exact⟨(q - l.R).toNat,ω,ω⟩
 have J:∀q,q∈lpgs (Ab.trimL l size) (Ab.trimL l size).a4.toNat↔l.R<=q/\q<l.R+(size+15) / 16:=λq=>by
  rw[dy];simp only[Ab.trimL];constructor
  ·rintro⟨j,n,rfl⟩;omega
  rintro⟨Z,q2⟩;exact⟨(q - l.R).toNat,ω,ω⟩
 have hpe:l.R+(size+15) / 16+(dE l size:Nat)=l.R+l.a4:=ω
 have P:∀q,q∈pgs h.K la↔q∈pgs h.K h.M/\¬(l.R+(size+15) / 16<=q/\q<l.R+(size+15) / 16+(dE l size:Nat)):=λq=>by
  rw[qb,qb,hpe];constructor
  ·rintro(⟨s,W,rfl⟩|⟨z,c,B⟩)
   ·exact⟨.inl ⟨s,W,rfl⟩,λe=>O s W l y (s.R - l.R).toNat ω ω⟩
   rcases d z c with rfl|⟨j,n,hjk,rfl⟩
   ·have:=(J q).1 B
    exact⟨.inr ⟨l,y,(D q).2 ⟨ω,ω⟩⟩,ω⟩
   refine⟨.inr ⟨_,am n,B⟩,λe=>?_⟩;obtain⟨m,hm,rfl⟩:=dy.1 B;exact hjk (G j n m ((nth h.M j).R+(m:Int) - l.R).toNat hm ω ω)
  rintro⟨⟨s,W,rfl⟩|⟨z,c,B⟩,hne⟩
  ·exact .inl ⟨s,W,rfl⟩
  obtain⟨j,n,rfl⟩:=aL c;by_cases e:j=k
  ·subst e
   rw[V]at B;have:=(D q).1 B;exact .inr ⟨_,p,(J q).2 ⟨ω,ω⟩⟩
  exact .inr ⟨_,u j n e,B⟩
 have K:∃o,(dE l size=0->o=h.q)/\(0<dE l size->dN (eQ h) h.q ⟨l.R+(size+15) / 16,(dE l size:Nat)⟩ = some o)/\bC (eQ h) o=true/\∀q,RH o q↔RH h.q q\/(l.R+(size+15) / 16<=q/\q<l.R+(size+15) / 16+(dE l size:Nat)):=by
  by_cases e:dE l size=0
  ·refine⟨h.q,λ_=>rfl,λg=>absurd g ω,t.rng,λq=>⟨.inl,λg=>g.resolve_right ω⟩⟩
  obtain⟨o,o1,o2,o3⟩:=vB (r:=⟨l.R+(size+15) / 16,(dE l size:Nat)⟩) t.rng ⟨by simp only;omega,by simp only;omega,by show l.R+(size+15) / 16+(dE l size:Nat)<=(eQ h:Int);have:((tbl h).J.length:Int)=(eQ h:Int):=rfl;omega⟩ λq Z q2=>by
   simp only at Z q2;obtain⟨m,rfl⟩:=Z2 (show 0<=q by omega);have Q:m<(tbl h).J.length:=ω
   exact(t.pg.fre m Q).1 ((t.pg.own m Q).2 (gt y ((D _).2 ⟨ω,ω⟩)))
  exact⟨o,λg=>absurd g e,λ_=>o1,o2,o3⟩
 obtain⟨o,o0,o1,o2,o3⟩:=K;have R:=(fV h.G (l.R+(size+15) / 16) (dE l size)).1;have M:∀z∈h.O.set i {nth h.O i with u:=size},z = {nth h.O i with u:=size}\/∃j,j<h.O.length/\j≠i/\nth h.O j=z:=λz N=>eE N
 have F:(h.O.set i {nth h.O i with u:=size}).map (·.Addr)=h.O.map (·.Addr):=kQ T rfl;have S:(h.O.set i {nth h.O i with u:=size}).map (·.Id)=h.O.map (·.Id):=kQ T rfl;have hli:=(am T:nth h.O i∈h.O)
 generalize h.O.set i {nth h.O i with u:=size} = ob at M F S |-;refine⟨o,o0,o1,{t with
   ker:=jh t.ker _ _
   rng:=by show bC (((unmN h.G (l.R+(size+15) / 16) (dE l size)).F.Q.J.length:Nat):Int) o=true;rw[R];exact o2
   lay:=?_
   srl:=?_
   pg:=Hz t (by have:((tbl h).J.length:Int)=(h.G.F.Q.J.length:Int):=rfl;omega) (List.Sublist.refl _) (λz c q B=>?_) ω P o3
   osr:=?_
   onu:=λz c=>?_
   oid:=by show(ob.map (·.Id)).Nodup;rw[S];exact t.oid
   oow:=λz c=>?_
   nd:=?_
   mem:=λb=>?_}⟩
 ·obtain⟨l1,l2,l3⟩:=dG t.lay
  unfold bo;simp only[I0,C0];refine⟨⟨l1,v4.2 λz c=>?_⟩,l3.sublist w⟩;rcases d z c with rfl|⟨j,n,-,rfl⟩
  ·exact O0 ⟨N.1,by show size<=1000;omega,rfl,by show 0<=l.R;omega,by show l.R<=32 - (size+15) / 16;omega⟩
  exact U.lok _ (am n)
 ·have A:(h.M.map (·.R)).Pairwise (λa b=>a<b):=List.pairwise_map.2 t.srl
  rw[<-hpageM]at A;exact List.pairwise_map.1 A
 ·rcases d z c with rfl|⟨j,n,-,rfl⟩
  ·have:=(J q).1 B
   exact⟨l,y,(D q).2 ⟨ω,ω⟩⟩
  exact⟨_,am n,B⟩
 ·have A:(h.O.map (·.Addr)).Pairwise (λa b=>a<b):=List.pairwise_map.2 t.osr
  rw[<-F]at A;exact List.pairwise_map.1 A
 ·rcases M z c with rfl|⟨j,n,-,rfl⟩
  ·exact t.onu (nth h.O i) hli
  exact t.onu _ (am n)
 ·rcases M z c with rfl|⟨j,n,hji,rfl⟩
  ·exact .inr ⟨_,p,Y,rfl⟩
  rcases t.oow _ (am n) with A|⟨l',hl',e1,X⟩
  ·exact .inl A
  obtain⟨m,hm,rfl⟩:=aL hl';by_cases e:m=k
  ·subst e
   rw[V]at e1;exact absurd (cM (f:=(·.Addr)) (dq t.osr) n T (e1.trans Y.symm)) hji
  exact .inr ⟨_,u m hm e,e1,X⟩
 ·have hh:holders {h with G:=unmN h.G (l.R+(size+15) / 16) (dE l size),M:=la,O:=ob,q:=o} = holders h:=by
   show((ob.map (·.Addr)++cG h)++h.a9.a6.map (·.Addr))++aN h.y=_;rw[F];rfl
  rw[hh];exact t.nd
 have hh:holders {h with G:=unmN h.G (l.R+(size+15) / 16) (dE l size),M:=la,O:=ob,q:=o} = holders h:=by
  show((ob.map (·.Addr)++cG h)++h.a9.a6.map (·.Addr))++aN h.y=_;rw[F];rfl
 rw[hh,t.mem b];show mV h.K h.M b↔mV h.K la b;unfold mV;constructor
 ·rintro(A|⟨z,c,e⟩)
  ·exact .inl A
  obtain⟨j,n,rfl⟩:=aL c;by_cases X:j=k
  ·subst X
   rw[V]at e;exact .inr ⟨_,p,e⟩
  exact .inr ⟨_,u j n X,e⟩
 rintro(A|⟨z,c,e⟩)
 ·exact .inl A
 rcases d z c with rfl|⟨j,n,-,rfl⟩
 ·exact .inr ⟨l,y,e⟩
 exact .inr ⟨_,am n,e⟩
def kF(h:ab)(k:Nat)(size:Int):af:=zK h.G (16*(nth h.M k).R+size) (16*((size+15) / 16) - size).toNat
def JR(h:ab)(k:Nat)(size:Int):List aA:=if 0<dE (nth h.M k) size then(dN (eQ h) h.q ⟨(nth h.M k).R+(size+15) / 16,(dE (nth h.M k) size:Nat)⟩).getD h.q else h.q
def trimH(h:ab)(i k:Nat)(size:Int):ab:={h with G:=unmN (kF h k size) ((nth h.M k).R+(size+15) / 16) (dE (nth h.M k) size),M:=h.M.set k (trimL (nth h.M k) size),O:=h.O.set i {nth h.O i with u:=size},q:=JR h k size}
def jX{h:ab}{E:List Int}(b:aY h E){k:Nat}(c:k<h.M.length){a:Int}(g:16*(nth h.M k).R<=a/\a<16*(nth h.M k).R+16*(nth h.M k).a4):(ac h.G.F.Q (a / 16)).j≠0:=by
 obtain⟨i,j⟩:=uv b c;have l:=aO (b.L.lok _ (am c));have d:(a / 16)∈pgs h.K h.M:=gt (am c) (dy.2 ⟨(a / 16 - (nth h.M k).R).toNat,ω,ω⟩);have e:=b.pg.bnd _ d;have f:=(b.pg.own (a / 16).toNat ω).2 (by rw[show(((a / 16).toNat:Nat):Int)=a / 16 by omega];exact d);unfold ac;rw[CB ⟨ω,e⟩];exact f
def yu{h:ab}{E:List Int}(b:aY h E){k:Nat}(c:k<h.M.length){size:Int}(d:9<=size/\size<=(nth h.M k).u):∀{m:Nat},m<=(16*((size+15) / 16) - size).toNat->ay (zK h.G (16*(nth h.M k).R+size) m)=true:=fun {m} hm=>by
 have a:=b.L.lok _ (am c);unfold bJ at a;rw[C0]at a;exact Na b.ker λj e=>jX b c ⟨ω,ω⟩
def aY.trimH{h:ab}{i k:Nat}{size:Int}(d:aY h [])(A:i<h.O.length)(f:k<h.M.length)(B:(nth h.O i).Addr=16*(nth h.M k).R)(r:9<=size/\size<=(nth h.M k).u):aY (trimH h i k size) []/\JK h (trimH h i k size):=by
 have t:=yu d f r (C3 _);have l:=(ov h.G (16*(nth h.M k).R+size) (16*((size+15) / 16) - size).toNat).1;have C:=d.cells t l;obtain⟨o,u,w,y⟩:=C.trimL (i:=i) (k:=k) (size:=size) A f B r;simp only at u w y;have n:eQ {h with G:=zK h.G (16*(nth h.M k).R+size) (16*((size+15) / 16) - size).toNat} = eQ h:=by
  unfold eQ;simp only[l]
 have D:JR h k size=o:=by
  unfold JR;split
  ·rename_i g;have:=w g;rw[n]at this;rw[this];rfl
  exact(u ω).symm
 have E:Ab.trimH h i k size = {h with G:=unmN (kF h k size) ((nth h.M k).R+(size+15) / 16) (dE (nth h.M k) size),M:=h.M.set k (Ab.trimL (nth h.M k) size),O:=h.O.set i {nth h.O i with u:=size},q:=o}:=by unfold Ab.trimH;rw[D]
 refine⟨by rw[E];exact y,JK.less rfl rfl rfl λq j=>?_⟩;have a:=d.L.lok _ (am f);unfold bJ at a;rw[C0]at a;obtain⟨F,G⟩:=uv d f;have b:(kF h k size).F.Q=h.G.F.Q:=l;have c:=mN (k:=kF h k size) t (p:=(nth h.M k).R+(size+15) / 16) ω (dE (nth h.M k) size) (by rw[b];have:((tbl h).J.length:Int)=(h.G.F.Q.J.length:Int):=rfl;unfold dE;omega) q;change (nth (unmN (kF h k size) ((nth h.M k).R+(size+15) / 16) (dE (nth h.M k) size)).F.Q.J q).j≠0 at j;show nth (unmN (kF h k size) ((nth h.M k).R+(size+15) / 16) (dE (nth h.M k) size)).F.Q.J q=nth h.G.F.Q.J q;rw[c]at j |-;split at j
 ·exact absurd rfl j
 rename_i e;rw[C9 e,b]
def G9{t:Nat}(h:1<=t/\t<=4):bO (eH t)=true:=by
 have f:∀n,n<=t->bx (eH t) n=0:=λn=>by
  induction n with
  | zero=>intro _;rfl
  | succ n g=>
   intro j;have a:nth (eH t).U n=[]:=cT ω;have b:nth (eH t).a1 n=[]:=cT ω;simp only[bx,g ω,a,b,List.length_nil]
   decide
 have e:(eH t).U.length=t:=X3 ..;refine dR.2 ⟨⟨ω,ω,by simp[eH]⟩,λi c=>?_,by rw[e,f t (C3 _)];omega⟩;rw[e]at c;have a:nth (eH t).U i=[]:=cT c;have b:nth (eH t).a1 i=[]:=cT c;rw[a,b];exact⟨λp d=>(by cases d),λp d=>(by cases d)⟩
def vX(t:Nat):aN (eH t)=[]:=by
 unfold aN;split
 ·simp[eH]
 rfl
def rz(k:af)(t:Nat)(sd ck lim:Int):ab:=⟨k,[⟨0,(k.F.Q.J.length:Nat)⟩],[],[],[],List.replicate t fR,eH t,⟨16,[]⟩,sd,ck,lim,1,false,⟨⟨0,0,[]⟩,0,0⟩⟩
def Gu:bA fR=true:=by decide
def aY.fresh{k:af}{t:Nat}{lim sd ck:Int}(A:ay k=true)(B:∀q,q<k.F.Q.J.length->(nth k.F.Q.J q).j=0)(E:1<=t/\t<=4)(g:0<=lim/\lim<=1000)(h:0<=sd/\sd<=1073741823)(d:0<=ck/\ck<=1000000):aY (rz k t sd ck lim) []:=by
 obtain⟨G,H,J⟩:=br.1 (a8.1 A).2.2.1;have hca:cG (rz k t sd ck lim)=[]:=by
  unfold cG;refine List.flatMap_eq_nil_iff.2 λc d=>?_
  rw[(List.mem_replicate.1 d).2]
  rfl
 have C:holders (rz k t sd ck lim)=[]:=by
  unfold holders;rw[hca];show(([]++[])++[])++aN (eH t)=[];rw[vX];rfl
 have i:∀a,¬mV (rz k t sd ck lim).K (rz k t sd ck lim).M a:=λa=>by
  rintro(⟨s,h,-⟩|⟨l,g,-⟩)
  ·cases h
  cases g
 exact {
   ker:=A
   rng:=fG.2 ⟨⟨List.pairwise_singleton ..,λy n=>by rw[O1.1 n];show(1:Int)<=(k.F.Q.J.length:Nat);omega⟩,λy n=>by
       rw[O1.1 n];refine⟨v5 _,by show(1:Int)<=(k.F.Q.J.length:Nat);omega,?_⟩;show(0:Int)+(k.F.Q.J.length:Nat)<=(k.F.Q.J.length:Nat);omega,by show(1:Int)<=(k.F.Q.J.length:Nat);omega,by show((k.F.Q.J.length:Nat):Int)<=32;omega⟩
   lay:=by show bo [] []=true;decide
   srs:=List.Pairwise.nil
   srl:=List.Pairwise.nil
   pg:=⟨λl g=>(by cases g),λp f=>(by cases f),λp f=>⟨λe=>absurd (B p f) e,λe=>by cases e⟩,λp f=>⟨λe=>absurd (B p f) e,λe=>absurd ⟨_,O1.2 rfl,by show(0:Int)<=p;omega,by
       show(p:Int)<0+(k.F.Q.J.length:Nat);have F:p<k.F.Q.J.length:=f;omega⟩ e⟩,λs h=>by cases h⟩
   mail:=G9 E
   nc:=by show(List.replicate t fR).length=(List.replicate t _).length;simp
   quar:=by show gC ⟨16,[]⟩ = true;decide
   snc:=λx r=>by cases r
   cach:=λc d=>by rw[(List.mem_replicate.1 d).2];exact Gu
   nums:=by unfold cj;rw[C0];simp only[rz];omega
   osr:=List.Pairwise.nil
   onu:=λo u=>by cases u
   oid:=List.nodup_nil
   oow:=λo u=>by cases u
   hca:=λc d j D a b=>by
     rw[(List.mem_replicate.1 d).2]at D b;have w:j<4:=D;have:nth fR.b j=[]:=cT w;rw[this]at b;cases b
   hqu:=λx r=>by cases r
   hfl:=λa b=>by
     have:aN (eH t)=[]:=vX t;change a∈aN (eH t) at b;rw[this]at b;cases b
   hin:=λa b=>by cases b
   nd:=by rw[C];exact List.nodup_nil
   mem:=λa=>by rw[C];exact⟨λe=>(by cases e),λe=>absurd e (i a)⟩
   job:=λe=>by cases e
   noj:=λ_=>by show qI ⟨⟨0,0,[]⟩,0,0⟩ = true;decide}
def JI.no{h:ab}(a:h.o=false):JI h:=⟨λe=>(by rw[a]at e;cases e),λe=>(by rw[a]at e;cases e),λe=>(by rw[a]at e;cases e),λe=>(by rw[a]at e;cases e)⟩
def qN{p f:Nat}{a:List Int}(d:1<=p/\p<=32)(e:1<=f/\f<=32)(b:a.length<=40/\∀x∈a,0<=x):ay (bK p f a)=true:=by
 obtain⟨-,g,h,i,c⟩:=a8.1 (BR d e);exact a8.2 ⟨λj k=>b.2 _ (am k),g,h,i,c.1,c.2.1,b.1⟩
def G4{p f t:Nat}{lim:Int}{a:List Int}(c:1<=p/\p<=32)(d:1<=f/\f<=32)(g:1<=t/\t<=4)(i:0<=lim/\lim<=1000)(j:a.length<=40/\∀x∈a,0<=x):aY (newHeap p f t lim a) []:=by
 have h:=aY.fresh (k:=bK p f a) (t:=t) (lim:=lim) (sd:=0) (ck:=0) (qN c d j) (λq l=>by
   have b:q<p:=by simpa[bK,eY] using l
   rw[show nth (bK p f a).F.Q.J q = ⟨0,0⟩ from cT b]) g i ω ω
 have e:(bK p f a).F.Q.J.length=p:=by simp[bK,eY]
 unfold rz at h;rw[e]at h;exact h
structure eL where
 b6:Int
 a5:Int
 N:Int
 At:Int
 Value:Int
deriving DecidableEq,Inhabited
def eL.enc(_:dY)(x:eL):List C:=[I x.b6,I x.a5,I x.N,I x.At,I x.Value]
def nK(id:Int)(o:bD):Bool:=decide (o.Id=id)
def oN(r:a7)(id:Int):Int:=dH (nK id) r.O
def je(r:a7)(n:Int):a7:=if 1<=n/\n<=1000 then {r with a:=r.a+1,O:=r.O++[⟨r.a,List.replicate n.toNat 0⟩]} else r
def jV(r:a7)(id:Int):a7:=if oN r id<0 then r else {r with O:=dele r.O (oN r id).toNat}
def eK(r:a7)(id at_ v:Int):a7:=if 0<=oN r id/\(0<=at_/\at_<=(nth r.O (oN r id).toNat).S.length - 1)/\0<=v/\v<=999 then {r with O:=r.O.set (oN r id).toNat ⟨(nth r.O (oN r id).toNat).Id,(nth r.O (oN r id).toNat).S.set at_.toNat v⟩} else r
def fK(r:a7)(id n:Int):a7:=if 0<=oN r id/\1<=n/\n<=(nth r.O (oN r id).toNat).S.length then {r with O:=r.O.set (oN r id).toNat ⟨(nth r.O (oN r id).toNat).Id,(nth r.O (oN r id).toNat).S.take n.toNat⟩} else r
structure t7(r:a7)(m:Nat):Prop where
 len:r.O.length<=m
 cel:∀o∈r.O,o.S.length<=1000
 nx:0<=r.a/\r.a<=m+1
def t7.more{r:a7}{m n:Nat}(h:t7 r m)(a:m<=n):t7 r n:=⟨by have:=h.len;omega,h.cel,h.nx.1,by have:=h.nx.2;omega⟩
def t7.sml{r:a7}{m:Nat}(h:t7 r m)(b:m<=1000):a7.sml r:=⟨by have:=h.len;omega,λo a=>by have:=h.cel o a;show o.S.length<=1048576;omega⟩
def t7.alloc{r:a7}{m:Nat}(h:t7 r m)(n:Int):t7 (je r n) (m+1):=by
 unfold je;split
 ·refine⟨by have:=h.len;simp only[O3,List.length_singleton];omega,λo a=>?_,by have:=h.nx.1;simp only;omega,by have:=h.nx.2;simp only;omega⟩
  rcases z3.1 a with a|a
  ·exact h.cel o a
  rw[O1.1 a];simp only[X3];omega
 exact h.more ω
def t7.free{r:a7}{m:Nat}(h:t7 r m)(id:Int):t7 (jV r id) m:=by
 unfold jV;split
 ·exact h
 have a:=fQ r.O (oN r id).toNat;exact⟨Z4 a.length_le h.len,λo b=>h.cel o (a.subset b),h.nx⟩
def t7.set{r:a7}{m i:Nat}{x:bD}(h:t7 r m)(b:x.S.length<=1000):t7 {r with O:=r.O.set i x} m:=
 ⟨by simp only[U1];exact h.len,λo a=>by
   rcases V6 a with a|rfl
   · exact h.cel o a
   exact b,h.nx⟩
def fY{α:Type}[Inhabited α](p:α->Bool)(xs:List α)(h:0<=dH p xs):(dH p xs).toNat<xs.length/\p (nth xs (dH p xs).toNat)=true/\dH p xs=((dH p xs).toNat:Nat):=by
 rcases mu p xs with e|⟨n,a,e,b⟩
 ·omega
 rw[e,X2];exact⟨a,b,rfl⟩
def t7.store{r:a7}{m:Nat}(h:t7 r m)(id a v:Int):t7 (eK r id a v) m:=by
 unfold eK;split
 ·rename_i e
  refine h.set ?_;simp only[U1];exact h.cel (nth r.O (oN r id).toNat) (am (fY _ _ e.1).1)
 exact h
def t7.trim{r:a7}{m:Nat}(h:t7 r m)(id n:Int):t7 (fK r id n) m:=by
 unfold fK;split
 ·rename_i e
  refine h.set ?_;have:=h.cel (nth r.O (oN r id).toNat) (am (fY _ _ e.1).1);simp only[V1];omega
 exact h
def Ns(id:Int)(o:bt):Bool:=decide (o.Id=id)
def qR(h:ab)(id:Int):Int:=dH (Ns id) h.O
def HY(a:Int)(l:aB):Bool:=decide (l.R*16=a)
def Ak(h:ab)(a:Int):Int:=dH (HY a) h.M
def om(h:ab)(a:eL):Prop:=0<=a.a5/\a.a5<=h.T.length - 1
instance (h:ab) (a:eL):Decidable (om h a):=by unfold om;infer_instance
def qj(w:bp)(a:eL)(i:Nat):bp × Int:=
 if w.Z.G.Calls=100000 then(w,6)
 else if om w.Z a then(⟨(freeT w.Z a.a5.toNat i).1,if(freeT w.Z a.a5.toNat i).2=0 then jV w.b5 (nth w.Z.O i).Id else w.b5⟩,(freeT w.Z a.a5.toNat i).2)
 else(w,1)
def ng(w:bp)(a:eL)(i:Nat):bp × Int:=
 if ¬(0<=a.At/\a.At<=(nth w.Z.O i).u - 1) then(w,90)
 else if(ac w.Z.G.F.Q (((nth w.Z.O i).Addr+a.At) / 16)).j=1 then(w,2)
 else if ¬(0<=a.Value/\a.Value<=999) then(w,3)
 else(⟨{w.Z with G:=dL w.Z.G ((nth w.Z.O i).Addr+a.At) a.Value},eK w.b5 (nth w.Z.O i).Id a.At a.Value⟩,0)
def me(h:ab)(i:Nat)(n:Int):Prop:=0<=Ak h (nth h.O i).Addr/\9<=n/\n<=(nth h.M (Ak h (nth h.O i).Addr).toNat).u
instance (h:ab) (i:Nat) (n:Int):Decidable (me h i n):=by unfold me;infer_instance
def pY(w:bp)(a:eL)(i:Nat):bp × Int:=
 if w.Z.G.Calls≠100000/\me w.Z i a.Value then(⟨trimH w.Z i (Ak w.Z (nth w.Z.O i).Addr).toNat a.Value,fK w.b5 (nth w.Z.O i).Id a.Value⟩,0) else(w,90)
def m9(w:bp)(a:eL)(i:Nat):bp × Int:=if a.b6=2 then qj w a i else if a.b6=3 then ng w a i else pY w a i
def fS(h:ab)(a:eL):ab × Int:=
 if a.b6=5 then(if om h a/\0<(nth h.y.U a.a5.toNat).length then({h with y:=gj h.y a.a5.toNat},0) else(h,90))
 else if ¬(h.G.Calls≠100000/\om h a) then(h,0)
 else if a.b6=6 then(collect h a.a5.toNat,((nth h.y.a1 a.a5.toNat).length:Nat))
 else((flushN a.a5.toNat h 4).1,((flushN a.a5.toNat h 4).2:Nat))
def nA(h:ab)(n:Int):ab × Int:=if h.G.Calls≠100000/\(0<=n/\n<=1000)/\h.b3+n<=1000000 then(tick h n,((ow h n).length:Nat)) else(h,0)
def tn(h:ab):Bool:=h.o&&decide (h.G.Calls<=99000)
def stN(h:ab):Nat->ab × Nat
 | 0=>(h,0)
 | i+1=>if tn (stN h i).1=true then(mStep (stN h i).1,(stN h i).2+1) else stN h i
def nZ(h:ab):ab × Int:=if h.o=true then(h,90) else((started h).1,if(started h).2=true then 0 else 90)
def mn(w:bp)(a:eL):bp × Int:=
 if a.b6=1 then(⟨(allocH w.Z a.a5 a.N).1,if(allocH w.Z a.a5 a.N).2.2=0 then je w.b5 a.N else w.b5⟩,(allocH w.Z a.a5 a.N).2.2)
 else if a.b6=2\/a.b6=3\/a.b6=4 then(if qR w.Z a.N<0 then(w,90) else m9 w a (qR w.Z a.N).toNat)
 else if a.b6=5\/a.b6=6\/a.b6=7 then(⟨(fS w.Z a).1,w.b5⟩,(fS w.Z a).2)
 else if a.b6=8 then(⟨(nA w.Z a.N).1,w.b5⟩,(nA w.Z a.N).2)
 else if a.b6=9 then(⟨(nZ w.Z).1,w.b5⟩,(nZ w.Z).2)
 else if a.b6=10/\0<=a.N/\a.N<=50 then(⟨(stN w.Z a.N.toNat).1,w.b5⟩,((stN w.Z a.N.toNat).2:Nat))
 else(w,90)
structure rX(w:bp)(m:Nat):Prop where
 inv:aY w.Z []
 ji:JI w.Z
 ref:t7 w.b5 m
def rX.more{w:bp}{m n:Nat}(h:rX w m)(a:m<=n):rX w n:=⟨h.inv,h.ji,h.ref.more a⟩
def rX.jk{w:bp}{m:Nat}(h:rX w m){g:ab}{r:a7}(a:aY g []/\JK w.Z g)(b:t7 r m):rX ⟨g,r⟩ m:=⟨a.1,h.ji.keep a.1 a.2,b⟩
def cQ{h:ab}{E:List Int}(a:aY h E){o:bt}(p:o∈h.O){k:Int}(D:0<=k/\k<=o.u - 1):(ac h.G.F.Q ((o.Addr+k) / 16)).j≠0/\0<=o.Addr/\o.Addr+k<512:=by
 rcases a.oow o p with⟨s,g,q,r⟩|⟨l,i,F,G⟩
 ·have b:=a.L.sok s g
  have t:=aF b;obtain⟨u,w,y⟩:=a.mapped g;have d:=bP t.2.2;obtain⟨H,J,A,-⟩:=q;have f:o.u<=csz s.d:=by
   have K:=iL (n:=o.u) ω;rw[r];have:o.u=1\/o.u=2\/o.u=3\/o.u=4\/o.u=5\/o.u=6\/o.u=7\/o.u=8:=ω
   rcases this with e|e|e|e|e|e|e|e<;>rw[e]<;>decide
  have B:(o.Addr+k) / 16=s.R:=by
   rcases d with e|e|e|e<;>rw[e]at A f<;>omega
  rw[B];refine⟨?_,ω,ω⟩;unfold ac;rw[CB ⟨u,w⟩];exact y
 obtain⟨j,C,rfl⟩:=aL i;have c:=a.L.lok _ i;unfold bJ at c;rw[C0]at c;exact⟨jX a C ⟨ω,ω⟩,ω,ω⟩
def rX.obj{w:bp}{m:Nat}(h:rX w m)(a:eL){i:Nat}(b:i<w.Z.O.length):rX (m9 w a i).1 m:=by
 unfold m9;split
 ·unfold qj
  split
  ·exact h
  split
  ·rename_i d
   unfold om at d;refine h.jk (h.inv.freeT b ω) ?_;split
   ·exact h.ref.free _
   exact h.ref
  exact h
 split
 ·unfold ng
  split
  ·exact h
  rename_i l;split
  ·exact h
  split
  ·exact h
  rename_i n;exact h.jk (h.inv.store (cQ h.inv (am b) ω).1 ω) (h.ref.store _ _ _)
 unfold pY;split
 ·rename_i e
  obtain⟨-,f,g⟩:=e;obtain⟨j,k,o⟩:=fY _ _ f;have c:=of_decide_eq_true k;exact h.jk (h.inv.trimH b j (c.symm.trans (Int.mul_comm _ _)) g) (h.ref.trim _ _)
 exact h
def rX.thread{w:bp}{m:Nat}(h:rX w m)(a:eL):rX ⟨(fS w.Z a).1,w.b5⟩ m:=by
 unfold fS;split
 ·split
  ·rename_i e
   obtain⟨b,i⟩:=e;unfold om at b;exact h.jk (g:={w.Z with y:=gj w.Z.y a.a5.toNat}) ⟨h.inv.deliv (by rw[<-h.inv.nc];omega) i,JK.eq rfl rfl rfl rfl⟩ h.ref
  exact h
 split
 ·exact h
 rename_i e;have e:=Classical.not_not.1 e;obtain⟨-,b⟩:=e;unfold om at b;split
 ·exact h.jk (g:=collect w.Z a.a5.toNat) (h.inv.collect ω) h.ref
 have c:a.a5.toNat<w.Z.T.length:=ω
 have d:=(jH h.inv c (C3 4)).1;have f:=JK.flushN h.inv c (C3 4);generalize flushN a.a5.toNat w.Z 4=r at d f |-;exact h.jk (g:=r.1) ⟨d,f⟩ h.ref
def uo{h:ab}(a:aY h [])(b:JI h):∀n,aY (stN h n).1 []/\JI (stN h n).1
 | 0=>⟨a,b⟩
 | n+1=>by
  obtain⟨c,d⟩:=uo a b n;unfold stN;split
  ·rename_i e
   unfold tn at e;rw[I0]at e;exact c.mStep d e.1
  exact⟨c,d⟩
def rX.act{w:bp}{m:Nat}(h:rX w m)(a:eL):rX (mn w a).1 (m+1):=by
 unfold mn;split
 ·have b:=AI (t:=a.a5) (size:=a.N) h.inv
  refine⟨b.1,h.ji.keep b.1 b.2,?_⟩;show t7 (if _ then _ else _) (m+1);split
  ·exact h.ref.alloc _
  exact h.ref.more ω
 refine rX.more (m:=m) ?_ ω;split
 ·split
  ·exact h
  rename_i e;exact h.obj a (fY _ _ (by unfold qR at e;omega)).1
 split
 ·exact h.thread a
 split
 ·unfold nA
  split
  ·rename_i e
   exact h.jk (h.inv.tick e.2.1.1 e.2.2) h.ref
  exact h
 split
 ·unfold nZ
  split
  ·exact h
  rename_i e;have b:=ya h.inv (by simpa using e);exact⟨b.1,b.2,h.ref⟩
 split
 ·have b:=uo h.inv h.ji a.N.toNat
  exact⟨b.1,b.2,h.ref⟩
 exact h
structure cH where
 a4:Nat
 V:Nat
 c7:Nat
 c3:Int
 w:List Int
deriving Inhabited
structure Fa(c:cH):Prop where
 p:1<=c.a4/\c.a4<=32
 f:1<=c.V/\c.V<=32
 t:1<=c.c7/\c.c7<=4
 l:0<=c.c3/\c.c3<=1000
 r:c.w.length<=40/\∀x∈c.w,0<=x
def world0(c:cH):bp:=⟨newHeap c.a4 c.V c.c7 c.c3 c.w,{a:=1,O:=[]}⟩
def zj(c:cH)(acts:List eL):Nat->bp × List Int
 | 0=>(world0 c,[])
 | i+1=>((mn (zj c acts i).1 (nth acts i)).1,(zj c acts i).2++[(mn (zj c acts i).1 (nth acts i)).2])
def Li{c:cH}(h:Fa c):rX (world0 c) 0:=
 ⟨G4 h.p h.f h.t h.l h.r,JI.no rfl,⟨C3 _,λo a=>(by cases a),by show(0:Int)<=1;omega,by show(1:Int)<=((0:Nat):Int)+1;omega⟩⟩
def u6{c:cH}(h:Fa c)(acts:List eL):∀n,rX (zj c acts n).1 n
 | 0=>Li h
 | n+1=>(u6 h acts n).act _
def Ll(t:aG)(d:aG.sml t):ar Tryz.prog 25 false [.val (some 1) (aG.enc .X t)] .one [I (dl t)]:=by
 have k:t.J.length<=1048576:=d.1;refine fO 22 [] Tryz.func25 rfl ?_
 repeat'(first|refine gP ?_|fail)
 (conv=>whnf)
 refine CF (ι:=Nat) (λi=>[(1,.H .box (aG.enc .X t)),(3,.H .one [I (sX ce t.J i)]),(4,.H .one [I ((i:Nat):Int)])]) (λi=>i<=t.J.length) (λi=>t.J.length - i) (0) ?_ (W0 _) λi g=>?_
 ·exact wB
 have h:=sL (f:=ce) (xs:=t.J) (b:=1) (λe _=>lY e) i g;by_cases j:i<t.J.length
 ·have c:=ao j
  have a:sX ce t.J (i+1)=sX ce t.J i+ce (nth t.J i):=rfl;by_cases e:(nth t.J i).j=0
  ·rw[show ce (nth t.J i)=0 by unfold ce;rw[C9 (by simpa using e)]]at a
   repeat'(first|refine gB ?_|(conv=>whnf);with_reducible refine CD (aa c) ?_)
   ((conv=>whnf);refine CE (i+1) ω ω ?_;(exact wB))
  rw[show ce (nth t.J i)=1 by unfold ce;rw[CB e]]at a
  repeat'(first|refine gB ?_|(conv=>whnf);with_reducible refine CD (aa c) ?_)
  ((conv=>whnf);refine CE (i+1) ω ω ?_;(exact wB))
 obtain rfl:i=t.J.length:=ω
 repeat'(first|refine gE ?_|fail)
 rfl
def tW(t:aG)(d:aG.sml t):ar Tryz.prog 90 false [.val (some 1) (aG.enc .X t)] .one [I (dl t)]:=by
 have k:t.J.length<=1048576:=d.1;refine fO 20 [] Tryz.func90 rfl ?_
 repeat'(first|refine gP ?_|fail)
 (conv=>whnf)
 refine CF (ι:=Nat) (λi=>[(3,.H .one [I (sX ce t.J i)]),(7,.H .one (yt .X t.J)),(8,.H .one [I (t.J.length)]),(9,.H .one [I ((i:Nat):Int)])]) (λi=>i<=t.J.length) (λi=>t.J.length - i) (0) ?_ (W0 _) λi g=>?_
 ·exact wB
 have h:=sL (f:=ce) (xs:=t.J) (b:=1) (λe _=>lY e) i g;by_cases j:i<t.J.length
 ·have c:=ao j
  have a:sX ce t.J (i+1)=sX ce t.J i+ce (nth t.J i):=rfl;by_cases e:(nth t.J i).j=0
  ·rw[show ce (nth t.J i)=0 by unfold ce;rw[C9 (by simpa using e)]]at a
   repeat'(first|refine gB ?_|(conv=>whnf);with_reducible refine CD (aa c) ?_)
   ((conv=>whnf);refine CE (i+1) ω ω ?_;(exact wB))
  rw[show ce (nth t.J i)=1 by unfold ce;rw[CB e]]at a
  repeat'(first|refine gB ?_|(conv=>whnf);with_reducible refine CD (aa c) ?_)
  ((conv=>whnf);refine CE (i+1) ω ω ?_;(exact wB))
 obtain rfl:i=t.J.length:=ω
 repeat'(first|refine gE ?_|fail)
 rfl
def ab.enc_fzi(h:ab):eG (ab.enc .X h)=ab.enc .X h:=by rw[<-ab.enc_fz h,qf]
end Go.Proofs.YtecefhjnejfheaaGreat.Ab
