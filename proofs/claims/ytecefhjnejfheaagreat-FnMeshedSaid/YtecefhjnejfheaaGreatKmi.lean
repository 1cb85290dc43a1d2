/- An act on an object; any act: the reference's. No condition. -/
import Derived.Test.YtecefhjnejfheaaGreatKmd
import Derived.Test.YtecefhjnejfheaaGreatKmh
import Derived.Test.YtecefhjnejfheaaGreatKme
import Derived.Test.YtecefhjnejfheaaGreatKmg
import Derived.Laws.StructEq
import Derived.ProofKit
import Derived.OpenShut
import Derived.Deep.Slices
import Derived.Deep.Fields
import Derived.ChangeSame
import Derived.WideShapes
set_option linter.unusedVariables false
set_option linter.defProp false
set_option linter.unusedSimpArgs false
set_option linter.constructorNameAsVariable false
namespace Go.Proofs.YtecefhjnejfheaaGreat.Ab
open Go.RowKit
set_option maxRecDepth 20000
set_option maxHeartbeats 4000000
def x4(w:bp)(a:eL)(i m:Nat)(h:rX w m)(X:m<=900)(G:NZ a)(t:i<w.Z.O.length):aT Tryz.prog 453 false [.ptr (rF w),.val (some 5) (eL.enc .X a),.val none [I (i:Nat)]] [.ptr (rF (m9 w a i).1),.val (some 5) (eL.enc .X a),.val none [I (i:Nat)]] .one [I (m9 w a i).2]:=by
 have e:=h.inv;have b:=ao t;have M:=tY e (am t);have N:=cQ e (am t) (k:=0);have O:1<=(nth w.Z.O i).u/\(nth w.Z.O i).u<=1000:=by
  rcases e.oow _ (am t) with⟨s,P,Y,Z⟩|⟨l,H,d,c⟩
  ·have hc:=aF (e.L.sok s P)
   have:=iL (n:=(nth w.Z.O i).u) ω;omega
  have h8:=cS (e.L.lok l H);omega
 have g:=mg w.Z.G (bk e.ker);rw[HM e.ker]at g;have Q:=G.k;have R:=G.p;have S:=G.v;unfold m9;refine fM 126 [(527,[2,0,0]),(529,[2,0,0]),(531,[2,0,0])] [(6,7,[29,30,31,32,33,34,35]),(8,269,[40,41,42,43,44,45,46,47,39,48,49,50,51,0,1,2,3,4,5,6,7,8,9,10,11,12,13,1010]),(13,10,[62,63,64,65,66,67,68,69,70,71]),(15,273,[76,77,78,79,80,81,82,83,84,85,86,87,75,88,89,90,91,0,1,2,3,4,5,6,7,8,9,10,11,12,13,14,15,16,17,1014]),(17,15,[93,94,95,96,97,98,99,100,101,102,103,104,105,106,107]),(19,271,[112,113,114,115,116,117,118,119,120,121,111,122,123,124,125,0,1,2,3,4,5,6,7,8,9,10,11,12,13,14,15,1012])] [(0,0),(0,0),(0,0)] Tryz.func453 rfl (λu q=>?_);by_cases J:a.b6=2
 ·rw[CB J]
  unfold qj;by_cases d:w.Z.G.Calls=100000
  ·rw[CB d]
   rw[U0 (z4 d)]at g
   repeat'(first|refine gB ?_|(conv=>whnf);refine CG (g) ⟨⟨rfl,CT _⟩,trivial⟩ ?_)
   refine CH rfl rfl ?_;exact wC
  rw[C9 d];rw[O0 d]at g;have C:=(PU w.Z i a.a5 e t).frame (r:=a7.enc .X w.b5) ((dd _).trans (dd _).symm);by_cases c:0<=a.a5/\a.a5<=w.Z.T.length - 1
  ·rw[CB (show om w.Z a from c)]
   rw[CB c,CB c]at C;have T:=D5 w.b5 (nth w.Z.O i).Id m h.ref ω;generalize freeT w.Z a.a5.toNat i=f at C |-;by_cases o:f.2=0
   ·rw[CB o]
    repeat'(first|refine gB ?_|(conv=>whnf);first|refine CG (g) ⟨⟨rfl,CT _⟩,trivial⟩ ?_|refine CK (C) (.inl rfl) ?_|refine Cl.sh T rfl ?_)
    refine CH rfl rfl ?_;exact wC
   rw[C9 o]
   repeat'(first|refine gB ?_|(conv=>whnf);first|refine CG (g) ⟨⟨rfl,CT _⟩,trivial⟩ ?_|refine CK (C) (.inl rfl) ?_)
   refine CH rfl rfl ?_;exact wC
  rw[C9 (show ¬om w.Z a from c)];rw[C9 c,C9 c]at C
  repeat'(first|refine gB ?_|(conv=>whnf);first|refine CG (g) ⟨⟨rfl,CT _⟩,trivial⟩ ?_|refine CK (C) (.inl rfl) ?_)
  refine CH rfl rfl ?_;exact wC
 rw[C9 J];by_cases K:a.b6=3
 ·rw[CB K]
  unfold ng;have D:=aH a.At 0 ((nth w.Z.O i).u - 1);by_cases d:0<=a.At/\a.At<=(nth w.Z.O i).u - 1;rotate_left
  ·rw[CB d]
   rw[U0 d]at D
   repeat'(first|refine gB ?_|(conv=>whnf);first|with_reducible (first|refine CD (aa b) ?_|refine Bf.E (λj=>?_) (λj=>?_))|refine CC ?_|refine CJ rfl (aa b) rfl ?_|refine C8 (D) ?_|refine CC ?_)
   refine CH rfl rfl ?_;exact wC
  rw[C9 (z4 d)];rw[O0 d]at D;have F:=(zy w.Z i a.At a.Value e t d).frame (r:=a7.enc .X w.b5) (by split<;>rfl);have U:=cQ e (am t) d;by_cases c:(ac w.Z.G.F.Q (((nth w.Z.O i).Addr+a.At) / 16)).j=1
  ·rw[CB c]
   rw[CB (.inl c),CB c]at F
   repeat'(first|refine gB ?_|(conv=>whnf);refine CK (F) (.inl rfl) ?_)
   refine CH rfl rfl ?_;exact wC
  rw[C9 c];by_cases o:0<=a.Value/\a.Value<=999;rotate_left
  ·rw[CB o]
   rw[CB (.inr o),C9 c,CB o]at F
   repeat'(first|refine gB ?_|(conv=>whnf);refine CK (F) (.inl rfl) ?_)
   refine CH rfl rfl ?_;exact wC
  rw[C9 (z4 o)];rw[C9 (λx=>x.elim c λy=>y o),C9 c,C9 (z4 o)]at F;obtain⟨b5,V⟩:=DX w.b5 (nth w.Z.O i).Id a.At a.Value m h.ref ω o
  repeat'(first|refine gB ?_|(conv=>whnf);refine CK (F) (.inl rfl) ?_)
  refine CH rfl rfl ?_;exact wC
 rw[C9 K];unfold pY;by_cases d:w.Z.G.Calls=100000
 ·rw[C9 (λx=>x.1 d)]
  rw[U0 (z4 d)]at g
  repeat'(first|refine gB ?_|(conv=>whnf);refine CG (g) ⟨⟨rfl,CT _⟩,trivial⟩ ?_)
  refine CH rfl rfl ?_;exact wC
 rw[O0 d]at g;by_cases c:me w.Z i a.Value
 ·rw[CB ⟨d,c⟩]
  have B:=(tl w.Z i a.Value e t c.1).frame (r:=a7.enc .X w.b5) (by split<;>rfl);rw[CB c,O0 c]at B;obtain⟨b7,W⟩:=Ex w.b5 (nth w.Z.O i).Id a.Value m h.ref ω
  repeat'(first|refine gB ?_|(conv=>whnf);first|refine CG (g) ⟨⟨rfl,CT _⟩,trivial⟩ ?_|refine CK (B) (.inl rfl) ?_)
  refine CH rfl rfl ?_;exact wC
 rw[C9 (λx=>c x.2)];by_cases o:Ak w.Z (nth w.Z.O i).Addr<0
 ·have B:=(HO w.Z (nth w.Z.O i).Addr a.Value (by have:=e.lens.larges;omega) e.L.lok o).frame (r:=a7.enc .X w.b5) ((dd _).trans (dd _).symm)
  repeat'(first|refine gB ?_|(conv=>whnf);first|refine CG (g) ⟨⟨rfl,CT _⟩,trivial⟩ ?_|refine CK (B) (.inl rfl) ?_)
  refine CH rfl rfl ?_;exact wC
 have B:=(tl w.Z i a.Value e t ω).frame (r:=a7.enc .X w.b5) (by split<;>rfl);rw[C9 c,U0 c]at B
 repeat'(first|refine gB ?_|(conv=>whnf);first|refine CG (g) ⟨⟨rfl,CT _⟩,trivial⟩ ?_|refine CK (B) (.inl rfl) ?_)
 refine CH rfl rfl ?_;exact wC
def rX.fit{w:bp}{m:Nat}(h:rX w m)(a:fJ w.Z.G.w):ab.sml w.Z/\ab.wf w.Z:=
 ⟨(h.inv.fit a (ku.of h.inv.mail).sml).sml,h.inv.wf a⟩
def HI(w:bp)(a:eL)(m:Nat)(h:rX w m)(K:m<=900)(L:fJ w.Z.G.w)(p:NZ a):aT Tryz.prog 343 false [.ptr (rF w),.val (some 5) (eL.enc .X a)] [.ptr (rF (mn w a).1),.val (some 5) (eL.enc .X a)] .one [I (mn w a).2]:=by
 have i:=h.inv;have M:=p.k;have O:=p.n;have j:=i.nums;unfold cj at j;rw[C0]at j;unfold mn;refine fM 123 [(71,[2,0,0]),(452,[2,0]),(453,[2,0,0]),(454,[2,0]),(456,[2,0]),(130,[2]),(457,[2,0])] [(3,265,[13,14,15,16,17,18,19,21,22,0,1,2,3,4,5,6,7,8,9,10,11,1010,12]),(5,269,[26,27,28,29,30,31,32,33,25,34,35,36,37,0,1,2,3,4,5,6,7,8,9,10,11,12,13,1010]),(19,21,[62,63,64,65,66,67,68,69,70,71,72,73,74,75,76,77,78,79,80,81,82]),(21,5,[86,87,88,89,90])] [(0,0),(0,0)] Tryz.func343 rfl (λu q=>?_);by_cases F:a.b6=1
 ·rw[CB F]
  have c:=(zo w.Z a.a5 a.N i).frame (r:=a7.enc .X w.b5) ((dd _).trans (dd _).symm);by_cases e:(allocH w.Z a.a5 a.N).2.2=0
  ·rw[CB e]
   have y:1<=a.N/\a.N<=1000:=by
    refine Classical.byContradiction λB=>?_
    unfold allocH at e;rw[CB B]at e;split at e
    ·exact absurd (show(5:Int)=0 from e) (by decide)
    split at e
    ·exact absurd (show(1:Int)=0 from e) (by decide)
    exact absurd (show(2:Int)=0 from e) (by decide)
   have o:=zt w.b5 a.N m h.ref ω y;generalize allocH w.Z a.a5 a.N=f at c e |-
   repeat'(first|refine gB ?_|(conv=>whnf);refine CK (c) (.inl rfl) ?_)
   refine CH rfl rfl ?_;exact wC
  rw[C9 e];generalize allocH w.Z a.a5 a.N=f at c e |-
  repeat'(first|refine gB ?_|(conv=>whnf);refine CK (c) (.inl rfl) ?_)
  refine CH rfl rfl ?_;exact wC
 rw[C9 F];by_cases G:a.b6=2\/a.b6=3\/a.b6=4
 ·rw[CB G]
  have c:=FB w a.N (by have:=i.lens.objs;omega);by_cases e:qR w.Z a.N<0
  ·rw[CB e]
   repeat'(first|refine gB ?_|(conv=>whnf);first|with_reducible refine Bf.E (λb=>?_) (λb=>?_)|refine CK (c) (.inl rfl) ?_)
   all_goals first|omega|skip
   all_goals
    refine CH rfl rfl ?_;exact wC
  rw[C9 e];obtain⟨P,S,T⟩:=fY (Ns a.N) w.Z.O (by unfold qR at e;omega);have o:=x4 w a (qR w.Z a.N).toNat m h K p P;rw[show(((qR w.Z a.N).toNat:Nat):Int)=qR w.Z a.N by omega]at o
  repeat'(first|refine gB ?_|(conv=>whnf);first|with_reducible refine Bf.E (λb=>?_) (λb=>?_)|refine CK (c) (.inl rfl) ?_|refine CK (o) (.inl rfl) ?_)
  all_goals first|omega|skip
  all_goals
   refine CH rfl rfl ?_;exact wC
 rw[C9 G];by_cases C:a.b6=5\/a.b6=6\/a.b6=7
 ·rw[CB C]
  have c:=xT w a m h C
  repeat'(first|refine gB ?_|(conv=>whnf);first|with_reducible refine Bf.E (λb=>?_) (λb=>?_)|refine CK (c) (.inl rfl) ?_)
  all_goals first|omega|skip
  all_goals
   refine CH rfl rfl ?_;exact wC
 rw[C9 C];by_cases H:a.b6=8
 ·rw[CB H]
  unfold nA;have d:=mg w.Z.G (bk i.ker);rw[HM i.ker]at d;have c:=aH a.N 0 1000;by_cases g:w.Z.G.Calls≠100000;rotate_left
  ·rw[C9 (λx=>g x.1)]
   rw[U0 g]at d
   repeat'(first|refine gB ?_|(conv=>whnf);refine CG (d) ⟨⟨rfl,CT _⟩,trivial⟩ ?_)
   refine CH rfl rfl ?_;exact wC
  rw[O0 g]at d;by_cases l:0<=a.N/\a.N<=1000;rotate_left
  ·rw[C9 (λx=>l x.2.1)]
   rw[U0 l]at c
   repeat'(first|refine gB ?_|(conv=>whnf);refine CG (d) ⟨⟨rfl,CT _⟩,trivial⟩ ?_)
   refine CH rfl rfl ?_;exact wC
  rw[O0 l]at c;by_cases D:w.Z.b3+a.N<=1000000
  ·rw[CB ⟨g,l,D⟩]
   have o:=(BA w.Z a.N i l D).frame (r:=a7.enc .X w.b5) ((dd _).trans (dd _).symm)
   repeat'(first|refine gB ?_|(conv=>whnf);first|refine CG (d) ⟨⟨rfl,CT _⟩,trivial⟩ ?_|refine CK (o) (.inl rfl) ?_)
   refine CH rfl rfl ?_;exact wC
  rw[C9 (λx=>D x.2.2)]
  repeat'(first|refine gB ?_|(conv=>whnf);refine CG (d) ⟨⟨rfl,CT _⟩,trivial⟩ ?_)
  refine CH rfl rfl ?_;exact wC
 rw[C9 H];by_cases J:a.b6=9
 ·rw[CB J]
  unfold nZ;obtain⟨Q,R⟩:=h.fit L;have d:=vU w.Z Q R;rw[show dA w.Z=true from i.to]at d;cases g:w.Z.o with
  | true=>
   rw[CB rfl]
   repeat'(first|refine gB ?_|(conv=>whnf);refine Bf.t g ?_)
   refine CH rfl rfl ?_;exact wC
  | false=>
   rw[C9 (by simp)];have c:=(Ai w.Z i).frame (r:=a7.enc .X w.b5) ((dd _).trans (dd _).symm);cases l:(started w.Z).2<;>rw[l]at c
   ·rw[C9 (by simp)]
    repeat'(first|refine gB ?_|(conv=>whnf);first|refine Bf.f g ?_|refine CG (d) ⟨⟨rfl,bF w.Z⟩,trivial⟩ ?_|refine CK (c) (.inl rfl) ?_)
    refine CH rfl rfl ?_;exact wC
   rw[CB rfl]
   repeat'(first|refine gB ?_|(conv=>whnf);first|refine Bf.f g ?_|refine CG (d) ⟨⟨rfl,bF w.Z⟩,trivial⟩ ?_|refine CK (c) (.inl rfl) ?_)
   refine CH rfl rfl ?_;exact wC
 rw[C9 J];have k10:a.b6=10:=ω
 have d:=aH a.N 0 50;by_cases g:0<=a.N/\a.N<=50
 ·rw[CB ⟨k10,g⟩]
  rw[O0 g]at d;obtain⟨n,B⟩:=Z2 g.1;have c:=zA w m n h ω;rw[show a.N.toNat=n by omega];rw[<-B]at c
  repeat'(first|refine gB ?_|(conv=>whnf);refine CK (c) (.inl rfl) ?_)
  refine CH rfl rfl ?_;exact wC
 rw[C9 (λx=>g x.2)];rw[U0 g]at d
 repeat'(first|refine gB ?_|(conv=>whnf);first|with_reducible refine Bf.E (λb=>?_) (λb=>?_)|refine CC ?_|refine C8 (d) ?_|refine CC ?_)
 refine CH rfl rfl ?_;exact wC
def DM(w:bp)(h1:ab.sml w.Z)(a:a7.sml w.b5):ar Tryz.prog 344 false [.val (some 26) (bp.enc .X w)] .agg (bp.enc .own w):=by
 have b:=D2 w.Z h1;have c:=eN w.b5 a;refine fO 10 [(1,5,[3,4,5,6,7])] Tryz.func344 rfl ?_ (.inr (bp.enc_fr _))
 repeat'(first|refine gP ?_|(conv=>whnf);first|refine C8 (b) ?_|refine C8 (c) ?_|refine CC ?_)
 rfl
def DS(c:cH)(acts:List eL)(h:Fa c)(d:fJ c.w)(n:∀a∈acts,NZ a)(D:acts.length<=80):ar Tryz.prog 192 false [.val (some 5) (cH.enc .X c),.val none (pv .X acts)] (.tup [some 26,none]) (bp.enc .own (zj c acts acts.length).1++aD .own (zj c acts acts.length).2):=by
 have o:=zT c h;refine fP 42 [(343,[2,0]),(2000005,[6,21,25])] [] Tryz.func192 rfl ?_ (.inr (aI (bp.enc_fr _) (bH _)))
 repeat'(first|refine gE ?_|(conv=>whnf);refine G7.mk rfl rfl rfl ?_)
 (conv=>whnf)
 refine CF (ι:=Nat) (λi=>[(1,.H .one (pv .X acts)),(4,.H .box [.z,.z,.z,I 0,.z,.z,.z,.z,.z,.z,.z,.z,I 0,.z,I 0,I 0,I 0,I 0,B false,I 0,I 0,.z,I 0,I 0,I 0,.z]),(6,.H .box (rF (zj c acts i).1)),(8,.H .one (aD .own (zj c acts i).2)),(9,.H .one [I ((i:Nat):Int)])]) (λi=>i<=acts.length) (λi=>acts.length - i) (0) ?_ (W0 _) λi p=>?_
 ·repeat'(first|exact trivial|rfl |refine CL ?_ ?_)
 have e:=u6 h acts i;have b:=GU h acts i;have g:(zj c acts i).2.length=i:=by
  clear e b p
  induction i with
  | zero=>rfl
  | succ k t=>show((zj c acts k).2++[_]).length=_;rw[O3,t];rfl
 by_cases j:i<acts.length
 ·have l:=ao j
  have u:=HI (zj c acts i).1 (nth acts i) i e ω (by unfold rfs at b;rw[b];exact d) (n _ (am j))
  repeat'(first|refine gE ?_|(conv=>whnf);first|refine CK (u) (.inl rfl) ?_|refine CU co (λr d=>by rw[O1.1 d];rfl) (by simp[aZ,eD]) (by simp;omega) (by simp only[C1];exact zh (by simp;omega) (by decide)) rfl ?_)
  ((conv=>whnf);refine CE (i+1) ω ω ?_)
  repeat'(first|exact trivial|rfl |exact CL rfl (CL (X0 (C.s dY.own) (by simp[zj,rI])) trivial)|refine CL ?_ ?_)
 obtain rfl:i=acts.length:=ω
 have w:=e.fit (by unfold rfs at b;rw[b];exact d);have y:=DM (zj c acts acts.length).1 w.1 (e.ref.sml ω)
 repeat'(first|refine gE ?_|(conv=>whnf);refine CG (y) ⟨⟨rfl,QJ _⟩,trivial⟩ ?_)
 rfl
def Gg(zs:List Int)(c:iV):fJ (qY zs c).w:=by
 show fJ (pP zs 4 0 [] (DH zs c).2).1;have key:∀(f i:Nat)(out:List Int)(c:iV),(∀x∈out,nq x)->∀x∈(pP zs f i out c).1,nq x:=by
  intro f
  induction f with
  | zero=>intro i out c h;exact h
  | succ f b=>
   intro i out c h;unfold pP;split
   ·refine b _ _ _ λx a=>?_
    rcases z3.1 a with a|a
    ·exact h x a
    rw[O1.1 a];have:=bG zs (bv zs c 4).2 (n:=12) (by decide);exact⟨ω,ω⟩
   exact h
 exact⟨by
   have d:∀(f i:Nat)(out:List Int)(c:iV),out.length+f<=4->(pP zs f i out c).1.length<=4:=by
     intro f
     induction f with
     | zero=>intro i out c h;exact h
     | succ f b=>
       intro i out c h;unfold pP;split
       · exact b _ _ _ (by simp only[O3,List.length_singleton];omega)
       show out.length<=4;omega
   have:=d 4 0 [] (DH zs c).2 (C3 _);omega,key 4 0 [] _ (λx a=>by cases a)⟩
def zC(zs:List Int)(a:jK zs):aT Tryz.prog 56 false [.ptr (iI zs (sZ zs))] [.ptr (iI zs (l7 zs (eC zs)).2)] .agg (bp.enc .own (drawn zs)):=by
 have b:(sZ zs).i<=zs.length:=W0 _;obtain⟨g,d⟩:=p6 b;have o:=bG zs (eC zs) (n:=41) (by decide);obtain⟨p,h,-⟩:=pH (zs:=zs) (c:=eC zs) d (n:=(bv zs (eC zs) 41).1.toNat) ω;have e:=xl zs (sZ zs) a b;have j:=Db zs (eC zs) a d;have k:=DS (qY zs (sZ zs)) (l7 zs (eC zs)).1 g (Gg zs _) h (by show(lK zs (eC zs) _).1.length<=80;omega);have l:drawn zs=(zj (qY zs (sZ zs)) (l7 zs (eC zs)).1 (l7 zs (eC zs)).1.length).1:=rfl;rw[l];change aT _ _ _ _ [.ptr (iI zs (eC zs))] _ _ at e;generalize qY zs (sZ zs)=cf at *;generalize r:l7 zs (eC zs)=A at *;generalize t:zj cf A.1 A.1.length=R at *;refine fM 14 [(193,[2]),(194,[2,0])] [] [(0,0)] Tryz.func56 rfl (λu q=>?_) (.inr (bp.enc_fr _))
 repeat'(first|(conv=>whnf);first|refine CK (e) (.inl rfl) ?_|refine CK (j) (.inl rfl) ?_|refine CG (k) ⟨⟨rfl,cH.enc_fz _⟩,⟨rfl,Le _⟩,trivial⟩ ?_)
 refine CH rfl rfl ?_;exact wC
def Ru(z:List Int):List C:=[.s .X (z.map rU)]
def vD(zs:List Int)(b:jK zs):rO Tryz.prog 57 true [.val none (Ru zs)] .box (iI zs (sZ zs)):=by
 have r:=b.1;have e:IntKind.i64.wrap (98801+(zs.length:Nat))=w64 (98801+(zs.length:Nat)):=rfl;have g:q9 zs 0=98801+(zs.length:Nat):=by show w64 _=_;rw[<-e];exact eP ω ω
 have a:=X0 I g;refine Tx (n:=32) (t:=2) (mo:=[]) (tb:=[]) Tryz.func57 (by kernel_rfl) rfl (by kernel_rfl) (by rfl) rfl ?_
 repeat'(first|refine gP ?_|fail)
 (conv=>whnf)
 refine CF (ι:=Nat) (λi=>[(0,.H .one (Ru zs)),(3,.H .one [I (q9 zs i)]),(4,.H .one [I ((i:Nat):Int)])]) (λi=>i<=min zs.length 4000) (λi=>min zs.length 4000 - i) (0) ?_ (W0 _) λi u=>?_
 ·repeat'(first|exact trivial|rfl |exact n6 a|refine CL ?_ ?_)
 have h:IntKind.i64.wrap (q9 zs i*131)=w64 (q9 zs i*131):=rfl;have j:IntKind.i64.wrap (w64 (q9 zs i*131)+nth zs i)=w64 (w64 (q9 zs i*131)+nth zs i):=rfl;have k:IntKind.i64.wrap (w64 (w64 (q9 zs i*131)+nth zs i)+7)=w64 (w64 (w64 (q9 zs i*131)+nth zs i)+7):=rfl;have l:IntKind.i64.wrap (BitVec.ofInt IntKind.i64.bits (w64 (w64 (w64 (q9 zs i*131)+nth zs i)+7)) &&& BitVec.ofInt IntKind.i64.bits 1073741823).toNat=q9 zs (i+1):=rfl;by_cases c:i<zs.length/\i<4000
 ·have d:=ao c.1
  have w:=b.2 _ (am c.1);generalize q9 zs i=H at *;generalize o:q9 zs (i+1)=H2 at *
  repeat'(first|refine gE ?_|(conv=>whnf);first|with_reducible (first|refine CN h ?_|refine CN j ?_|refine CN k ?_|refine CN l ?_))
  ((conv=>whnf);refine CE (i+1) ω ω ?_)
  rw[o];exact wC
 obtain rfl:i=min zs.length 4000:=ω
 have p:sZ zs = ⟨0,q9 zs (min zs.length 4000)⟩:=rfl;rw[p];generalize q9 zs (min zs.length 4000)=H at *
 repeat'(first|refine gE ?_|(conv=>whnf);with_reducible refine Bf.D (λq=>?_) (λq=>?_))
 all_goals rfl
def wW(zs:List Int)(a:jK zs):ar Tryz.prog 16 false [.val none (Ru zs)] .agg (bp.enc .own (drawn zs)):=by
 have b:=vD zs a;have c:=zC zs a;refine fP 6 [(56,[2])] [] Tryz.func16 rfl ?_ (.inr (bp.enc_fr _))
 repeat'(first|refine gP ?_|(conv=>whnf);first|refine Cl.g b (.inr rfl) ?_|refine CK (c) (.inl rfl) ?_)
 rfl
def cls(h:ab):Int:=h.G.Calls
def DN(k:af)(p:Int):(newK k p).1.Calls=k.Calls+1:=by unfold newK;split<;>rfl
def Gf(k:af)(p:Int):∀n:Nat,(newsK k p n).1.Calls<=k.Calls+n
 | 0=>by show k.Calls<=k.Calls+0;omega
 | n+1=>by
  have a:=Gf k p n;unfold newsK;split
  ·refine t5 (z5 (DN (newsK k p n).1 (p+(n:Nat)))) ?_
   omega
  omega
def Pe(h:ab)(i:Nat):cls (oD h i).1=cls h:=by unfold oD;split<;>rfl
def Lu(h:ab)(t c:Nat):cls (smallA h t c).1<=cls h+1:=by
 unfold smallA;split
 ·show cls h<=_;omega
 split
 ·show cls h<=_;omega
 split
 ·show cls h<=_;omega
 split
 ·exact z5 (DN _ _)
 exact z5 ((Pe _ _).trans (DN _ _))
def M3(h:ab)(t i:Nat):cls (freeT h t i).1=cls h:=by
 unfold freeT;split
 ·exact(lh _ _ _).1
 split
 ·rfl
 split
 ·exact(f8 t _ _).2.2.1
 split<;>rfl
def Br(t:Nat)(h:ab):∀k,cls (flushN t h k).1=cls h
 | 0=>rfl
 | k+1=>((gd _ (spilt (flushN t h k).1 t k)).2.2.1).trans (Br t h k)
set_option maxHeartbeats 2000000
set_option maxHeartbeats 2000000
set_option maxHeartbeats 2000000
set_option maxHeartbeats 2000000
set_option maxHeartbeats 2000000
set_option maxHeartbeats 2000000
def ED(zs:List Int):fJ (drawn zs).Z.G.w:=by
 have a:(sZ zs).i<=zs.length:=W0 _;have:=GU (p6 a).1 (l7 zs (eC zs)).1 (l7 zs (eC zs)).1.length;unfold rfs at this;show fJ (zj _ _ _).1.Z.G.w;rw[this];exact Gg zs _
def Lz(zs:List Int):ab.sml (drawn zs).Z/\ab.wf (drawn zs).Z:=(yI zs).fit (ED zs)
def RL(zs:List Int)(a:zs.length<=9223372036854775807):ar Tryz.prog 15 false [.val none (Ru zs)] .one [B (decide ((zs.length:Int) > 1048576))]:=by
 refine fO 6 [] Tryz.func15 rfl ?_
 repeat'(first|refine gP ?_|fail)
 rfl
def cl(k:af)(f c:Nat):Int:=nth (nth k.F.V.S f) c
structure At(k:af)(a:Int)(f c:Nat):Prop where
 m:(ac k.F.Q (a / 16)).j≠0
 f:(ac k.F.Q (a / 16)).e=f
 c:a % 16=c
def At.cell{k:af}{a:Int}{f c:Nat}(h:At k a f c):fe k a=cl k f c:=by
 unfold fe cl;rw[h.f,h.c,X2,X2]
def At.mk'{k:af}(c:ay k=true){a:Int}(b:(ac k.F.Q (a / 16)).j≠0):At k a (cU k a) (a % 16).toNat:=by
 obtain⟨-,-,-,d,-⟩:=bI c b;exact⟨b,by unfold cU;omega,ω⟩
def At.uniq{k:af}{a:Int}{f c b d:Nat}(h:At k a f c)(h':At k a b d):f=b/\c=d:=by
 have e:=h.f;have g:=h'.f;have i:=h.c;have j:=h'.c;omega
def NV(h:ab)(a:Int)(f c:Nat):Prop:=
 (∃s∈h.K,eM s a/\(ac (tbl h) s.R).e=f/\(c:Int) / csz s.d=dB s a/\c<16)\/
 ∃l∈h.M,a=16*l.R/\∃b:Int,16*l.R<=b/\b<16*(l.R+l.a4)/\At h.G b f c
def aY.pe{h:ab}{E:List Int}(a:aY h E){s:ax}(b:s∈h.K):ac (tbl h) s.R=nth (tbl h).J s.R.toNat:=by
 obtain⟨c,d,-⟩:=a.mapped b;unfold ac;rw[CB ⟨c,d⟩]
def sC{l:aB}(a:bJ l=true){b:Int}(h1:16*l.R<=b)(c:b<16*(l.R+l.a4)):∃k:Nat,k<l.a4.toNat/\b / 16=l.R+(k:Nat):=by
 have:=aO a;exact⟨(b / 16 - l.R).toNat,ω,ω⟩
def mi{h:ab}{E:List Int}(e:aY h E){l:aB}(i:l∈h.M){b:Int}(h1:16*l.R<=b)(o:b<16*(l.R+l.a4)){f c:Nat}(j:At h.G b f c){q:Int}(n:(ac (tbl h) q).j≠0)(g:(ac (tbl h) q).e=f):q=b / 16:=by
 obtain⟨k,p,u⟩:=sC (e.L.lok l i) h1 o;obtain⟨w,y,r,-⟩:=bI e.ker j.m;obtain⟨A,B,t,-⟩:=bI e.ker n;have d:=j.f;rw[r]at d;have a:=n;change (ac h.G.F.Q q).j≠0 at a;change (ac h.G.F.Q q).e=f at g;rw[t]at a g;have:=e.pg.one l i (b / 16).toNat (dy.2 ⟨k,p,ω⟩) q.toNat (by show q.toNat<h.G.F.Q.J.length;omega) a (by show _=(nth h.G.F.Q.J _).e;rw[d];exact g);omega
def wH{h:ab}{E:List Int}(d:aY h E){a b:Int}{f c:Nat}(T:NV h a f c)(U:NV h b f c):a=b:=by
 have G:∀s∈h.K,(ac (tbl h) s.R).e=f->∀l∈h.M,∀x:Int,16*l.R<=x->x<16*(l.R+l.a4)->At h.G x f c->False:=λs g V l o x H J W=>by
  obtain⟨K,t,q⟩:=d.mapped g;obtain⟨k,w,X⟩:=sC (d.L.lok l o) H J;have:=mi d o H J W (by rw[d.pe g];exact q) V;exact d.L.dis s g l o k w ω
 rcases T with⟨s,g,M,N,O,s4⟩|⟨l,o,Y,x,A,B,P⟩<;>rcases U with⟨u,r,Q,R,S,u4⟩|⟨m,p,K,y,t,q,C⟩
 ·by_cases e:s.R=u.R
  ·obtain⟨i,D,rfl⟩:=aL g
   obtain⟨j,F,rfl⟩:=aL r;have:=cM (f:=(·.R)) d.L.nd D F e;subst this;exact yZ (d.L.sok _ g) M.2.2.1 Q.2.2.1 (O.symm.trans S)
  exfalso;have p:=d.pg.mesh s g u r e (by rw[<-d.pe g,<-d.pe r,N,R]);unfold meshable at p;simp only[I0,C0]at p;obtain⟨⟨o1,o2⟩,Z,-,e3⟩:=p;have b1:=(eB _ _).1 M.2.2.2;have b2:=(eB _ _).1 Q.2.2.2;have hn:(a - 16*s.R) / csz s.d=(b - 16*u.R) / csz u.d:=by
   have z1:dB s a=dB u b:=by rw[<-O,<-S,Z]
   exact z1
  have:=X0 (λn=>Nat.testBit n ((a - 16*s.R) / csz s.d).toNat) e3;simp only[Nat.testBit_and,Nat.zero_testBit]at this;rw[b1.2.2.2,hn,b2.2.2.2]at this;cases this
 ·exact(G s g N m p y t q C).elim
 ·exact(G u r R l o x A B P).elim
 have hq:=mi d o A B P C.m C.f;obtain⟨i,D,rfl⟩:=aL o;obtain⟨j,F,rfl⟩:=aL p;obtain⟨k,w,X⟩:=sC (d.L.lok _ o) A B;obtain⟨k',k3,k4⟩:=sC (d.L.lok _ p) t q;have:=d.L.one i j D F k k' w k3 ω;subst this;rw[Y,K]
def qB(h:ab)(o:bt)(f c:Nat):Prop:=∃j:Int,0<=j/\j<o.u/\At h.G (o.Addr+j) f c
def jO{h:ab}{E:List Int}(i:aY h E){o:bt}(B:o∈h.O){f c:Nat}(C:qB h o f c):NV h o.Addr f c:=by
 obtain⟨k,J,K,a⟩:=C;rcases i.oow o B with⟨s,r,t,D⟩|⟨l,u,F,M⟩
 ·have b:=i.L.sok s r
  have j:=aF b;have d:=bP j.2.2;have p:=t;obtain⟨N,O,w,-⟩:=t;have g:o.u<=csz s.d:=by
   have P:=iL (n:=o.u) ω;rw[D];have:o.u=1\/o.u=2\/o.u=3\/o.u=4\/o.u=5\/o.u=6\/o.u=7\/o.u=8:=ω
   rcases this with e|e|e|e|e|e|e|e<;>rw[e]<;>decide
  have G:(o.Addr+k) / 16=s.R:=by rcases d with e|e|e|e<;>rw[e]at w g<;>omega
  have y:=a.f;have H:=a.c;rw[G]at y;refine .inl ⟨s,r,p,y,?_,ω⟩;unfold dB;rcases d with e|e|e|e<;>rw[e]at w g |-<;>omega
 have q:=i.L.lok l u;have A:=q;unfold bJ at A;rw[C0]at A;exact .inr ⟨l,u,F,o.Addr+k,ω,ω,a⟩
def Jf{h:ab}{E:List Int}(a:aY h E){o u:bt}(b:o∈h.O)(d:u∈h.O){f c:Nat}(h1:qB h o f c)(g:qB h u f c):o=u:=by
 have e:=wH a (jO a b h1) (jO a d g);obtain⟨i,k,rfl⟩:=aL b;obtain⟨j,l,rfl⟩:=aL d;rw[cM (f:=(·.Addr)) (dq a.osr) k l e]
def JX(h:ab)(f c:Nat):Prop:=h.o=true/\(ac (tbl h) h.Y.W.a2).e=f/\(c:Int)∈h.Y.W.S.take h.Y.a.toNat
structure CI(h:ab):Prop where
 z:∀f c:Nat,c<16->cl h.G f c≠0->(∃o∈h.O,qB h o f c)\/JX h f c
 jv:h.o=true->∀c:Nat,(c:Int)∈h.Y.W.S.take h.Y.a.toNat->cl h.G (b8 h.G h.Y.W.a2) c=cl h.G (b8 h.G h.Y.W.a0) c
 jd:h.o=true->∀s∈h.K,s.R=h.Y.W.a2->∀c:Nat,c<16->(c:Int)∈h.Y.W.S->aU s.b2 ((c:Int) / csz s.d)=false
 jc:h.o=true->∀s∈h.K,s.R=h.Y.W.a0->∀c:Nat,c<16->aU s.b2 ((c:Int) / csz s.d)=true->(c:Int)∈h.Y.W.S
 jn:h.o=true->(h.Y.b1=0->h.Y.a=0)/\(h.Y.b1=2->h.Y.a=h.Y.W.S.length)
 m1:∀q:Nat,(nth (tbl h).J q).j=1->h.o=true/\(q:Int)=h.Y.W.a0/\h.Y.b1≠0
 m2:h.o=true->h.Y.b1≠0->(ac (tbl h) h.Y.W.a0).j=1
theorem CI.keep{h h':ab}(j:CI h)(g:h'.Y=h.Y)(k:h'.o=h.o)(r:∀q:Nat,(nth (tbl h').J q).j=1->(nth (tbl h).J q).j=1)(l:h.o=true->ac (tbl h') h.Y.W.a2=ac (tbl h) h.Y.W.a2/\ac (tbl h') h.Y.W.a0=ac (tbl h) h.Y.W.a0)(t:∀f c:Nat,c<16->cl h'.G f c≠0->cl h.G f c=cl h'.G f c\/∃o∈h'.O,qB h' o f c)(n:∀o∈h.O,∀f c:Nat,c<16->qB h o f c->cl h'.G f c≠0->∃F∈h'.O,qB h' F f c)(u:h.o=true->∀c:Nat,(c:Int)∈h.Y.W.S.take h.Y.a.toNat->cl h'.G (b8 h.G h.Y.W.a2) c=cl h.G (b8 h.G h.Y.W.a2) c/\cl h'.G (b8 h.G h.Y.W.a0) c=cl h.G (b8 h.G h.Y.W.a0) c)(p:h.o=true->∀d∈h'.K,d.R=h.Y.W.a2\/d.R=h.Y.W.a0->∃s∈h.K,s.R=d.R/\s.d=d.d/\∀i,aU d.b2 i=true->aU s.b2 i=true):CI h' where
 z f c b w:=by
  rcases t f c b w with e|e
  ·rcases j.z f c b (by rw[e];exact w) with⟨o,G,y⟩|⟨E,H,J⟩
   ·exact .inl (n o G f c b y w)
   exact .inr ⟨by rw[k];exact E,by rw[g,(l E).1];exact H,by rw[g];exact J⟩
  exact .inl e
 jv a c h2:=by
  rw[k]at a;rw[g]at h2 |-;obtain⟨K,L⟩:=u a c h2;obtain⟨M,N⟩:=l a;have O:b8 h'.G h.Y.W.a2=b8 h.G h.Y.W.a2:=X0 (λe:bh=>e.e.toNat) M;have P:b8 h'.G h.Y.W.a0=b8 h.G h.Y.W.a0:=X0 (λe:bh=>e.e.toNat) N;rw[O,P,K,L];exact j.jv a c h2
 jd a d hs' hp c b hcm:=by
  rw[k]at a;rw[g]at hp hcm;obtain⟨s,A,B,C,D⟩:=p a d hs' (.inl hp);have:=j.jd a s A (B.trans hp) c b hcm;rw[<-C];rw[<-U5]at this |-;exact λe=>this (D _ e)
 jc a d hs' hp c b hb:=by
  rw[k]at a;rw[g]at hp |-;obtain⟨s,A,B,C,D⟩:=p a d hs' (.inr hp);exact j.jc a s A (B.trans hp) c b (by rw[C];exact D _ hb)
 jn a:=by rw[k]at a;rw[g];exact j.jn a
 m1 q Q:=by rw[k,g];exact j.m1 q (r q Q)
 m2 a h2:=by
  rw[k]at a;rw[g]at h2 |-;rw[(l a).2];exact j.m2 a h2
def Kp(h h':ab):Prop:=∀o∈h'.O,o∈h.O/\∀j:Int,0<=j->j<o.u->fe h'.G (o.Addr+j)=fe h.G (o.Addr+j)
def Kp.refl(h:ab):Kp h h:=λ_ a=>⟨a,λ_ _ _=>rfl⟩
def CY:type_of% @Kp.refl:=@Kp.refl
def Kp.trans{h h1 c:ab}(a:Kp h h1)(b:Kp h1 c):Kp h c:=λo f=>by
 obtain⟨g,i⟩:=b o f;obtain⟨k,l⟩:=a o g;exact⟨k,λj d e=>(i j d e).trans (l j d e)⟩
def aY.jobM{h:ab}{E:List Int}(c:aY h E)(f:h.o=true):(ac (tbl h) h.Y.W.a2).j≠0/\(ac (tbl h) h.Y.W.a0).j≠0:=by
 obtain⟨-,⟨a,d,g⟩,b,e,i⟩:=c.job f;rw[<-g,<-i,c.pe d,c.pe e];exact⟨(c.mapped d).2.2,(c.mapped e).2.2⟩
def lQ{k:af}(a:ay k=true){p:Int}(b:(ac k.F.Q p).j≠0):(ac k.F.Q p).e=(b8 k p:Nat):=by
 obtain⟨-,-,-,c,-⟩:=bI a b;unfold b8;omega
def CI.kern{h h':ab}{E:List Int}(A:aY h E)(M:CI h)(n:∀o∈h'.O,o∈h.O)(N:h'.Y=h.Y)(B:h'.o=h.o)(b:∀o∈h.O,o∉h'.O->∀f c:Nat,c<16->qB h o f c->cl h'.G f c=0)(F:∀q:Nat,(nth (tbl h').J q).j=1->(nth (tbl h).J q).j=1)(d:h.o=true->ac (tbl h') h.Y.W.a2=ac (tbl h) h.Y.W.a2/\ac (tbl h') h.Y.W.a0=ac (tbl h) h.Y.W.a0)(r:∀o∈h'.O,∀j:Int,0<=j->j<o.u->ac (tbl h') ((o.Addr+j) / 16)=ac (tbl h) ((o.Addr+j) / 16))(t:∀f c:Nat,cl h'.G f c=cl h.G f c\/(cl h'.G f c=0/\∀p:Int,(ac (tbl h') p).j≠0->(ac (tbl h') p).e≠f))(G:h.o=true->∀u∈h'.K,u.R=h.Y.W.a2\/u.R=h.Y.W.a0->∃s∈h.K,s.R=u.R/\s.d=u.d/\∀i,aU u.b2 i=true->aU s.b2 i=true):CI h'/\Kp h h':=by
 have cov:∀o∈h'.O,∀f c:Nat,qB h o f c->qB h' o f c:=λo O f c ⟨j,w,C,l⟩=>by
  have e:=r o O j w C;unfold tbl at e;exact⟨j,w,C,by rw[e];exact l.m,by rw[e];exact l.f,l.c⟩
 have H:∀{p:Int},ac (tbl h') p=ac (tbl h) p->(ac (tbl h) p).j≠0->∀c,cl h'.G (b8 h.G p) c=cl h.G (b8 h.G p) c:=fun {p} e B c=>by
  rcases t (b8 h.G p) c with g|⟨-,g⟩
  ·exact g
  refine absurd ?_ (g p (by rw[e];exact B));rw[e];exact lQ A.ker B
 refine⟨M.keep N B F d (λf c _ J=>.inl ?_) (λo a f c K y J=>?_) (λD c _=>⟨H (d D).1 (A.jobM D).1 c,H (d D).2 (A.jobM D).2 c⟩) G,λo a=>⟨n o a,λj w C=>?_⟩⟩
 ·rcases t f c with g|g
  ·exact g.symm
  exact absurd g.1 J
 ·by_cases e:o∈h'.O
  ·exact⟨o,e,cov o e f c y⟩
  exact absurd (b o a e f c K y) J
 have e:=r o a j w C;have L:=(cQ A (n o a) (k:=j) ⟨w,ω⟩).1;have:=H e L ((o.Addr+j) % 16).toNat;unfold fe;unfold tbl at e;rw[e];exact this
def xO{h:ab}{E:List Int}(d:aY h E){a:Int}{f c:Nat}(y:NV h a f c){s:ax}(n:s∈h.K)(g:oM (tbl h) s.R)(r:(ac (tbl h) s.R).e=f):eM s a/\(c:Int) / csz s.d=dB s a/\a / 16=s.R:=by
 obtain⟨K,M,A⟩:=d.mapped n;rcases y with⟨u,o,p,B,C,N⟩|⟨l,q,-,b,t,w,D⟩
 ·obtain⟨O,P,F⟩:=d.mapped o
  have:=g u.R.toNat F (by rw[<-d.pe o,<-d.pe n,B,r]);obtain⟨i,G,rfl⟩:=aL n;obtain⟨j,H,rfl⟩:=aL o;have e:=cM (f:=(·.R)) d.L.nd G H ω;subst e;exact⟨p,C,by have:=p.1;have:=p.2.1;omega⟩
 exfalso;obtain⟨k,J,Q⟩:=sC (d.L.lok l q) t w;have:=mi d q t w D (by rw[d.pe n];exact A) r;exact d.L.dis s n l q k J ω
def te{h:ab}{E:List Int}(n:aY h E)(d:JI h)(o:CI h)(e:h.o=true){a:Int}{f c:Nat}(p:NV h a f c)(g:c<16)(i:(c:Int)∈h.Y.W.S):(ac (tbl h) h.Y.W.a2).e≠f:=λq=>by
 obtain⟨s,k,b,-,j,-,-⟩:=d.sp e;obtain⟨r,t,-⟩:=xO n p k (by rw[j];exact d.sk e) (by rw[j];exact q);have:=o.jd e s k j c g i;rw[t]at this;have l:=r.2.2.2;unfold dB at this;rw[this]at l;cases l
def Ft{h:ab}{E:List Int}(n:aY h E)(d:JI h)(j:CI h)(g:h.o=true){a:Int}{f c:Nat}(o:NV h a f c)(k:(ac (tbl h) (a / 16)).j≠1)(e:(c:Int)∈h.Y.W.S.take h.Y.a.toNat):(ac (tbl h) h.Y.W.a0).e≠f:=λp=>by
 obtain⟨-,-,b,q,-,i,-⟩:=d.sp g;obtain⟨-,-,r⟩:=xO n o q (by rw[i];exact d.sm g) (by rw[i];exact p);by_cases l:h.Y.b1=0
 ·rw[(j.jn g).1 l]at e;cases e
 have:=j.m2 g l;rw[r,i]at k;exact k this
def AN(n c:Nat):nth (List.replicate n (0:Int)) c=0:=by
 unfold nth;rw[W2,List.getElem?_replicate];split<;>rfl
structure KL(k k':af)(lo n:Int):Prop where
 out:∀q:Int,¬(lo<=q/\q<lo+n)->ac k'.F.Q q=ac k.F.Q q
 ins:∀q:Int,lo<=q->q<lo+n->(ac k'.F.Q q).j=0
 cel:∀f c:Nat,cl k' f c=cl k f c\/(cl k' f c=0/\∀p:Int,(ac k'.F.Q p).j≠0->(ac k'.F.Q p).e≠f)
def Js(k:af)(F:Int)(f c:Nat):cl (gg k F) f c=cl k f c\/(cl (gg k F) f c=0/\F.toNat=f/\(pagesOn k.F.Q F).length=0):=by
 unfold gg;split
 ·rename_i e
  unfold cl;simp only[bz];split
  ·rename_i a;exact .inr ⟨AN _ _,a.1,e⟩
  exact .inl rfl
 exact .inl rfl
def lz{t:aG}{p:Int}(h:(ac t p).j≠0):0<=p/\p<t.J.length/\ac t p=nth t.J p.toNat:=by
 unfold ac at h |-;split
 ·rename_i e;exact⟨e.1,e.2,rfl⟩
 rename_i e;rw[C9 e]at h;exact absurd rfl h
def Mi{t:aG}{F:Int}(h:(pagesOn t F).length=0){p:Int}(a:(ac t p).j≠0):(ac t p).e≠F:=λe=>by
 obtain⟨c,d,b⟩:=lz a;rw[b]at a e;have:0<(pagesOn t F).length:=dK.2 ⟨p.toNat,ω,a,e⟩;omega
def KL.refl(k:af)(lo:Int):KL k k lo 0:=⟨λ_ _=>rfl,λq a b=>ω,λ_ _=>.inl rfl⟩
def KL.unmap{k:af}(h:ay k=true){p:Int}(j:0<=p/\p<k.F.Q.J.length):KL k (ed k p) p 1:=by
 have b:=rT h j;have d:=(lG k p).1;have i:∀q:Int,ac (ed k p).F.Q q=if q=p then⟨0,0⟩ else ac k.F.Q q:=λq=>by
  unfold ac;rw[d];by_cases e:0<=q/\q<k.F.Q.J.length
  ·rw[CB e,CB e,b q.toNat]
   by_cases a:q=p
   ·rw[CB a,CB ω]
   rw[C9 a,C9 ω]
  rw[C9 e,C9 e];by_cases a:q=p
  ·rw[CB a]
  rw[C9 a]
 refine⟨λq g=>by rw[i,C9 ω],λq t u=>by rw[i,CB ω],λf c=>?_⟩;unfold ed;split
 ·exact .inl rfl
 rename_i l;rcases Js (qz k p) (ac k.F.Q p).e f c with e|⟨n,a,o⟩
 ·exact .inl e
 refine .inr ⟨n,λq g=>?_⟩;rw[(mU _ _).1]at g |-;have:=Mi o g;have r:=lQ h l;unfold b8 at r;rw[<-a];omega
def KL.trans{k i j:af}{lo n m:Int}(t:0<=n/\0<=m)(a:KL k i lo n)(b:KL i j (lo+n) m):KL k j lo (n+m):=by
 refine⟨λq u=>(b.out q ω).trans (a.out q ω),λq l w=>?_,λf c=>?_⟩
 ·by_cases e:lo+n<=q
  ·exact b.ins q e ω
  rw[b.out q ω];exact a.ins q l ω
 rcases b.cel f c with e|e
 ·rcases a.cel f c with g|⟨o,r⟩
  ·exact .inl (e.trans g)
  refine .inr ⟨e.trans o,λp d=>?_⟩;by_cases h:lo+n<=p/\p<lo+n+m
  ·exact absurd (b.ins p h.1 h.2) d
  rw[b.out p h]at d |-;exact r p d
 exact .inr e
def KL.unmN{k:af}(a:ay k=true){p:Int}(b:0<=p):∀n:Nat,p+n<=k.F.Q.J.length->KL k (unmN k p n) p n
 | 0,_=>KL.refl k p
 | n+1,h=>by
  have c:=KL.unmN a b n ω;have d:=KL.unmap (jh a p n) (p:=p+n) ⟨ω,by rw[(fV k p n).1];omega⟩;have:=KL.trans ⟨ω,ω⟩ c d;rw[show((n:Nat):Int)+1=((n+1:Nat):Int) by omega]at this;exact this
def KL.md{k b:af}{lo n:Int}(a:KL k b lo n)(f:b.F.Q.J.length=k.F.Q.J.length)(q:Nat)(h:(nth b.F.Q.J q).j≠0):nth b.F.Q.J q=nth k.F.Q.J q:=by
 have g:=sq h;have c:ac b.F.Q (q:Nat)=nth b.F.Q.J q:=by unfold ac;rw[CB ⟨ω,ω⟩];rfl
 have d:ac k.F.Q (q:Nat)=nth k.F.Q.J q:=by unfold ac;rw[CB ⟨ω,ω⟩];rfl
 by_cases e:lo<=q/\(q:Int)<lo+n
 ·rw[<-c,a.ins q e.1 e.2]at h;exact absurd rfl h
 rw[<-c,<-d,a.out q e]
def DK{n:Int}(h:0<=aJ n):n<=csz (aJ n):=by
 have a:=iL h;have:n=1\/n=2\/n=3\/n=4\/n=5\/n=6\/n=7\/n=8:=ω
 rcases this with e|e|e|e|e|e|e|e<;>rw[e]<;>decide
def N5{h:ab}{E:List Int}(k:aY h E){o:bt}(p:o∈h.O)(g:¬aJ o.u<0){f c:Nat}(i:qB h o f c):f=cU h.G o.Addr/\(o.Addr % 16).toNat<=c/\c<(o.Addr % 16).toNat+(csz (aJ o.u)).toNat:=by
 obtain⟨⟨s,q,r,t⟩,-⟩:=(dX k p).2 g;obtain⟨A,B,l,-⟩:=r;have a:=DK (n:=o.u) ω;have b:=bP (aF (k.L.sok s q)).2.2;rw[<-t]at a |-;obtain⟨j,C,D,d⟩:=i;have u:=d.c;have w:=d.f;have y:(o.Addr+j) / 16=o.Addr / 16:=by rcases b with e|e|e|e<;>rw[e]at l a<;>omega
 rw[y]at w;refine⟨by unfold cU;omega,?_⟩;rcases b with e|e|e|e<;>rw[e]at l a |-<;>omega
def CI.clrS{h:ab}{E:List Int}(n:aY h E)(p:CI h){i:Nat}{a:Int}(g:i<h.K.length)(l:eM (nth h.K i) a):CI (clrS h i a):=by
 have b:=n.L.sok _ (am g);refine p.keep rfl rfl (λq h=>h) (λ_=>⟨rfl,rfl⟩) (λf c _ _=>.inl rfl) (λo r f c _ d _=>⟨o,r,d⟩) (λ_ c _=>⟨rfl,rfl⟩) λ_ w e _=>?_
 rcases eE e with rfl|⟨j,t,-,rfl⟩
 ·refine⟨_,am g,rfl,rfl,λk u=>((G6 (eX b) (qm b ⟨l.1,l.2.1⟩) k).1 u).1⟩
 exact⟨_,am t,rfl,rfl,λ_ h=>h⟩
def M2{h:ab}{E:List Int}(a:aY h E){o:bt}(p:o∈h.O){j:Int}(h1:0<=j)(J:j<o.u){s:ax}(r:s∈h.K)(T:(o.Addr+j) / 16=s.R):eM s o.Addr:=by
 obtain⟨U,V,W⟩:=a.mapped r;have t:=(cQ a p (k:=j) ⟨h1,ω⟩).1;have w:=At.mk' a.ker t;rcases jO a p ⟨j,h1,J,w⟩ with⟨u,K,G,-,-,-⟩|⟨l,b,X,-⟩
 ·rcases a.oow o p with⟨v,q,c,M⟩|⟨l,b,N,O⟩
  ·have y:=a.L.sok v q
   have A:=aF y;have B:=bP A.2.2;have C:=c;obtain⟨Y,Z,P,-⟩:=c;have D:o.u<=csz v.d:=by
    have hb:=iL (n:=o.u) ω;rw[M];have:o.u=1\/o.u=2\/o.u=3\/o.u=4\/o.u=5\/o.u=6\/o.u=7\/o.u=8:=ω
    rcases this with e|e|e|e|e|e|e|e<;>rw[e]<;>decide
   have Q:(o.Addr+j) / 16=v.R:=by rcases B with e|e|e|e<;>rw[e]at P D<;>omega
   obtain⟨i,R,rfl⟩:=aL r;obtain⟨k,S,rfl⟩:=aL q;have:=cM (f:=(·.R)) a.L.nd R S (by show(nth h.K i).R=(nth h.K k).R;omega);subst this;exact C
  exfalso;have:=aO (a.L.lok l b);exact a.L.dis u K l b 0 ω (by have:=G.1;have:=G.2.1;omega)
 exfalso;have H:=a.L.lok l b;unfold bJ at H;rw[C0]at H;rcases a.oow o p with⟨v,q,c,-⟩|⟨F,d,N,O⟩
 ·exact a.L.dis v q l b 0 ω (by have:=c.1;have:=c.2.1;omega)
 have g:=a.L.lok F d;unfold bJ at g;rw[C0]at g;exact a.L.dis s r F d ((o.Addr+j) / 16 - F.R).toNat ω ω
def CI.giveP{h:ab}{E:List Int}(b:aY h E)(f:CI h){i:Nat}(e:i<h.K.length)(g:(nth h.K i).b2=0)(c:gq h (nth h.K i).R=false):CI (giveP h i)/\Kp h (giveP h i):=by
 obtain⟨k,l,A⟩:=b.mapped (am e);have kl:=KL.unmap b.ker (p:=(nth h.K i).R) ⟨k,l⟩;refine CI.kern b f (λo a=>a) rfl rfl (λo a n=>absurd a n) (λq r=>?_) (λt=>?_) (λo a j u w=>?_) kl.cel (λ_ B d _=>?_)
 ·have:=kl.md (lG _ _).1 q (by show(nth (tbl (Ab.giveP h i)).J q).j≠0;omega)
  show(nth h.G.F.Q.J q).j=1;rw[<-this];exact r
 ·obtain⟨C,D⟩:=yc c t
  exact⟨kl.out _ ω,kl.out _ ω⟩
 ·refine kl.out _ λF=>?_
  exact wL g _ (M2 b a u w (am e) ω)
 obtain⟨j,y,-,rfl⟩:=db.1 d;exact⟨_,am y,rfl,rfl,λ_ h=>h⟩
def CI.freeS{h:ab}{E:List Int}{a:Int}{i:Nat}(c:aY h (a::E))(j:CI h)(b:i<h.K.length)(d:eM (nth h.K i) a):CI (freeS h i a)/\Kp h (freeS h i a):=by
 have k:=c.give b d;have f:=CI.clrS c j b d;unfold Ab.freeS;split
 ·rename_i e
  have g:nth (Ab.clrS h i a).K i=mW (nth h.K i) (dB (nth h.K i) a):=by unfold Ab.clrS;simp only[bz,true_and];rw[CB b]
  obtain⟨l,n⟩:=CI.giveP (h:=Ab.clrS h i a) k f (i:=i) (by unfold Ab.clrS;simp only[U1];exact b) (by rw[g];exact e.1) (by rw[g];exact e.2);exact⟨l,n⟩
 exact⟨f,CY h⟩
def CI.freeA{h:ab}{E:List Int}{a:Int}(b:aY h (a::E))(c:CI h):CI (freeA h a)/\Kp h (freeA h a):=by
 obtain⟨d,e,-⟩:=b.at (b.hin a (W1 ..));exact CI.freeS b c d e
def CI.recyc{h:ab}{E:List Int}{a:Int}{t:Nat}(c:aY h (a::E))(b:CI h):CI (recyc t h a)/\Kp h (recyc t h a):=by
 unfold Ab.recyc;split
 ·exact⟨⟨b.z,b.jv,b.jd,b.jc,b.jn,b.m1,b.m2⟩,CY h⟩
 exact CI.freeA c b
def CI.recycs{t:Nat}{E:List Int} : ∀{az:List Int}{h:ab},aY h (az++E)->t<h.T.length->CI h->CI (recycs t h az)/\Kp h (recycs t h az)
 | [],h,_,_,b=>⟨b,CY h⟩
 | a::az,h,c,d,b=>by
  obtain⟨e,f⟩:=CI.recyc (t:=t) c b;obtain⟨g,i⟩:=CI.recycs (az:=az) (h:=Ab.recyc t h a) (c.recyc d) (by rw[(nS t h a).1];exact d) e;exact⟨g,f.trans i⟩
def CI.freeAs{E:List Int} : ∀{az:List Int}{h:ab},aY h (az++E)->CI h->CI (freeAs h az)/\Kp h (freeAs h az)
 | [],h,_,b=>⟨b,CY h⟩
 | a::az,h,c,b=>by
  obtain⟨d,e⟩:=CI.freeA c b;obtain⟨f,g⟩:=CI.freeAs (az:=az) (h:=Ab.freeA h a) c.freeA d;exact⟨f,e.trans g⟩
def CI.flushN{t:Nat}{h:ab}(c:aY h [])(d:t<h.T.length)(e:CI h):∀{k:Nat},k<=4->CI (flushN t h k).1/\Kp h (flushN t h k).1
 | 0,_=>⟨e,CY h⟩
 | k+1,p=>by
  obtain⟨a,g⟩:=CI.flushN c d e (k:=k) ω;obtain⟨f,q,-⟩:=jH c d (k:=k) ω;have b:t<(Ab.flushN t h k).1.T.length:=ω
  have i:=pJ (f.cach _ (am b));have j:=f.spilt b (k:=k) ω;have l:CI (spilt (Ab.flushN t h k).1 t k):=⟨a.z,a.jv,a.jd,a.jc,a.jn,a.m1,a.m2⟩
  obtain⟨n,o⟩:=CI.freeAs j l;exact⟨n,g.trans o⟩
def CI.tick{h:ab}{n:Int}(c:aY h [])(a:CI h)(d:0<=n)(b:h.b3+n<=1000000):CI (tick h n)/\Kp h (tick h n):=by
 have e:=c.aged d b;have f:CI (aged h n):=⟨a.z,a.jv,a.jd,a.jc,a.jn,a.m1,a.m2⟩
 exact CI.freeAs e f
def CI.collect{h:ab}{t:Nat}(b:aY h [])(a:CI h)(c:t<h.T.length):CI (collect h t)/\Kp h (collect h t):=by
 have g:=(dR.1 b.mail).1;have d:=b.nc;have e:=b.coll (t:=t) ω;have f:CI {h with y:=lJ h.y t}:=⟨a.z,a.jv,a.jd,a.jc,a.jn,a.m1,a.m2⟩
 exact CI.recycs e c f
def uS(r:List Int)(o:Nat):∀(n c:Nat),nth (lP r o n) c=if o<=c/\c<o+n then 0 else nth r c
 | 0,c=>by rw[C9 ω];rfl
 | n+1,c=>by
  unfold lP;rw[bz,uS r o n c,na];by_cases e:o+n=c
  ·rw[CB (show o<=c/\c<o+(n+1) by omega)]
   by_cases a:c<r.length
   ·rw[CB ⟨e,a⟩]
   rw[C9 ω,C9 ω];unfold nth;rw[W2,U2 ω];rfl
  rw[C9 ω];by_cases a:o<=c/\c<o+n
  ·rw[CB a,CB ω]
  rw[C9 a,C9 ω]
def y1(k:af)(a:Int)(n f c:Nat):cl (f6 k a n) f c=cl k f c\/(cl (f6 k a n) f c=0/\f=cU k a/\(a % 16).toNat<=c/\c<(a % 16).toNat+n):=by
 unfold cl f6;simp only[bz];split
 ·rename_i e
  rw[uS];split
  ·rename_i b;exact .inr ⟨rfl,e.1.symm,b.1,b.2⟩
  rw[e.1];exact .inl rfl
 exact .inl rfl
def Gs{k:af}{a:Int}{n c:Nat}(h1:(a % 16).toNat<=c)(b:c<(a % 16).toNat+n):cl (f6 k a n) (cU k a) c=0:=by
 unfold cl f6;simp only[bz];by_cases e:cU k a<k.F.V.S.length
 ·rw[CB ⟨trivial,e⟩,uS,CB ⟨h1,b⟩]
 rw[C9 (λx=>e x.2)];have:nth k.F.V.S (cU k a)=[]:=by
  unfold nth;rw[W2,U2 ω];rfl
 rw[this];rfl
def CI.clearO{h h':ab}{E:List Int}(b:aY h E)(u:JI h)(O:CI h){i:Nat}(P:i<h.O.length)(w:¬aJ (nth h.O i).u<0)(hw:(ac (tbl h) ((nth h.O i).Addr / 16)).j≠1)(y:h'.G=f6 h.G (nth h.O i).Addr (csz (aJ (nth h.O i).u)).toNat)(e2:h'.O=dele h.O i)(e3:h'.K=h.K)(e4:h'.Y=h.Y)(e5:h'.o=h.o):CI h'/\Kp h h':=by
 obtain⟨⟨s,H,s1,s2⟩,hc3⟩:=(dX b (am P)).2 w;have Q:=s1;obtain⟨g1,g2,g3,-⟩:=s1;have A:=b.L.sok s H;have B:=bP (aF A).2.2;obtain⟨m1,m2,m3⟩:=b.mapped H;have R:(nth h.O i).Addr / 16=s.R:=ω
 have J:tbl h'=tbl h:=by unfold tbl;rw[y];rfl
 have S:(ac (tbl h) s.R).e=(cU h.G (nth h.O i).Addr:Nat):=by
  unfold cU;rw[R];exact lQ b.ker (by show(ac (tbl h) s.R).j≠0;rw[b.pe H];exact m3)
 have ex:∀c:Nat,((nth h.O i).Addr % 16).toNat<=c->c<((nth h.O i).Addr % 16).toNat+(csz (aJ (nth h.O i).u)).toNat->NV h (nth h.O i).Addr (cU h.G (nth h.O i).Addr) c/\c<16:=λc h1 T=>by
  rw[<-s2]at T;have r:c<16:=by rcases B with e|e|e|e<;>rw[e]at g3 T<;>omega
  refine⟨.inl ⟨s,H,Q,S,?_,r⟩,r⟩;unfold dB;rcases B with e|e|e|e<;>rw[e]at g3 T |-<;>omega
 have cv:∀o∈h.O,∀f c:Nat,qB h o f c->qB h' o f c:=λo d f c ⟨j,K,U,a⟩=>by
  have e:h'.G.F.Q=h.G.F.Q:=J;exact⟨j,K,U,by rw[e];exact a.m,by rw[e];exact a.f,a.c⟩
 have same:∀o∈h.O,o≠nth h.O i->∀f c:Nat,qB h o f c->cl h'.G f c=cl h.G f c:=λo d V f c l=>by
  rw[y];rcases y1 h.G (nth h.O i).Addr (csz (aJ (nth h.O i).u)).toNat f c with g|⟨-,W,X,Y⟩
  ·exact g
  exfalso;have hx:=(ex c X Y).1;rw[<-W]at hx;have ea:=wH b (jO b d l) hx;obtain⟨k,n,rfl⟩:=aL d;have:=cM (f:=(·.Addr)) (dq b.osr) n P ea;subst this;exact V rfl
 have notO:∀o∈h'.O,o≠nth h.O i/\o∈h.O:=λo d=>by
  rw[e2]at d;obtain⟨k,n,Z,rfl⟩:=db.1 d;refine⟨λe=>Z ?_,am n⟩;exact cM (f:=(·.Addr)) (dq b.osr) n P (by rw[e])
 refine⟨O.keep e4 e5 (by rw[J];exact λq h=>h) (λ_=>by rw[J];exact⟨rfl,rfl⟩) (λf c _ M=>.inl ?_) (λo d f c r l M=>?_) (λN c C=>?_) (λ_ s' hs' _=>⟨s',by rw[<-e3];exact hs',rfl,rfl,λ_ h=>h⟩),λo d=>⟨(notO o d).2,λj K U=>?_⟩⟩
 ·rw[y]at M |-
  rcases y1 h.G (nth h.O i).Addr (csz (aJ (nth h.O i).u)).toNat f c with g|g
  ·exact g.symm
  exact absurd g.1 M
 ·by_cases e:o=nth h.O i
  ·exfalso
   subst e;obtain⟨t,D,F⟩:=N5 b d w l;exact M (by rw[y,t];exact Gs D F)
  refine⟨o,?_,cv o d f c l⟩;rw[e2];obtain⟨k,n,rfl⟩:=aL d;exact db.2 ⟨k,n,λx=>e (by rw[x]),rfl⟩
 ·have hc16:c<16:=by
   have hm2:=List.mem_of_mem_take C;obtain⟨k,n,e⟩:=aL hm2;have:=fx (cK.1 (b.job N).1).1 n;omega
  have key:∀p:Int,(ac (tbl h) p).j≠0->(∀c:Nat,NV h (nth h.O i).Addr (cU h.G (nth h.O i).Addr) c->c<16->(c:Int)∈h.Y.W.S.take h.Y.a.toNat->(ac (tbl h) p).e≠(cU h.G (nth h.O i).Addr:Nat))->cl h'.G (b8 h.G p) c=cl h.G (b8 h.G p) c:=λp hp Z=>by
   rw[y];rcases y1 h.G (nth h.O i).Addr (csz (aJ (nth h.O i).u)).toNat (b8 h.G p) c with g|⟨-,W,X,Y⟩
   ·exact g
   exfalso;obtain⟨t,D⟩:=ex c X Y;refine Z c t D C ?_;rw[<-W];exact lQ b.ker hp
  obtain⟨jm1,jm2⟩:=b.jobM N;exact⟨key _ jm1 λc t D F=>te b u O N t D (List.mem_of_mem_take F),key _ jm2 λc t _ F=>Ft b u O N t hw F⟩
 obtain⟨o1,o2⟩:=notO o d;have a:=At.mk' b.ker (cQ b o2 (k:=j) ⟨K,ω⟩).1;have G:At h'.G (o.Addr+j) (cU h.G (o.Addr+j)) ((o.Addr+j) % 16).toNat:=by
  have e:h'.G.F.Q=h.G.F.Q:=J;exact⟨by rw[e];exact a.m,by rw[e];exact a.f,a.c⟩
 rw[G.cell,a.cell];exact same o o2 o1 _ _ ⟨j,K,U,a⟩
def pd{k:af}(h:ay k=true){f:Nat}(d:∀p:Int,(ac k.F.Q p).j≠0->(ac k.F.Q p).e≠f)(c:Nat):cl k f c=0:=by
 obtain⟨-,i,-,j,-⟩:=a8.1 h;obtain⟨-,-,w,n⟩:=aS.1 i;unfold cl;by_cases o:f<k.F.V.S.length
 ·have r:nth k.F.V.a3 f=false:=by
   rw[j f ω,X4];intro a;obtain⟨q,y,t,u⟩:=dK.1 a;have e:ac k.F.Q (q:Nat)=nth k.F.Q.J q:=by unfold ac;rw[CB ⟨ω,ω⟩];rfl
   exact d (q:Nat) (by rw[e];exact t) (by rw[e];exact u)
  have b:=n f o;unfold gY at b;rw[r]at b;simp only[I0,C0,v4]at b;by_cases g:c<(nth k.F.V.S f).length
  ·have:=b.2 _ (am g)
   unfold iT at this;rw[I0,Bool.false_or,C0,C0]at this;exact this.2
  unfold nth;rw[W2 (l:=List.getD _ _ _),U2 (by unfold nth at g;omega)];rfl
 have:nth k.F.V.S f=[]:=by
  unfold nth;rw[W2,U2 ω];rfl
 rw[this];rfl
def CI.freeL{h:ab}{E:List Int}(d:aY h E)(T:CI h){i k:Nat}(O:i<h.O.length)(r:k<h.M.length)(U:(nth h.O i).Addr=16*(nth h.M k).R):CI (freeL h i k)/\Kp h (freeL h i k):=by
 obtain⟨V,W⟩:=uv d r;have t:=d.L.lok _ (am r);have X:=aO t;have kl:=KL.unmN d.ker V _ W;have ker:=jh d.ker (nth h.M k).R (nth h.M k).a4.toNat;have u:=(fV h.G (nth h.M k).R (nth h.M k).a4.toNat).1;have notO:∀o∈dele h.O i,o≠nth h.O i/\o∈h.O:=λo n=>by
  obtain⟨j,y,Y,rfl⟩:=db.1 n;exact⟨λe=>Y (cM (f:=(·.Addr)) (dq d.osr) y O (by rw[e])),am y⟩
 have onL:∀b:Int,(nth h.M k).R<=b / 16->b / 16<(nth h.M k).R+((nth h.M k).a4.toNat:Nat)->∀f c:Nat,At h.G b f c->NV h (nth h.O i).Addr f c:=λb h1 h2 f c g=>.inr ⟨_,am r,U,b,ω,ω,g⟩
 refine CI.kern d T (λo n=>(notO o n).2) rfl rfl (λo n Z f c h16 C=>?_) (λq hq=>?_) (λhm=>?_) (λo n j D P=>?_) kl.cel (λ_ s' F _=>⟨s',F,rfl,rfl,λ_ h=>h⟩)
 ·-- the object itself
  have G:o=nth h.O i:=by
   refine Classical.byContradiction λe=>Z ?_
   obtain⟨j,y,rfl⟩:=aL n;exact db.2 ⟨j,y,λx=>e (by rw[x]),rfl⟩
  subst G;rcases kl.cel f c with e|e
  ·refine pd ker (λp A H=>?_) c
   obtain⟨j,D,P,g⟩:=C;have hsz:(nth h.O i).u<=16*(nth h.M k).a4:=by
    rcases d.oow _ n with⟨s,J,Q,-⟩|⟨l,R,e1,e2⟩
    ·exact absurd (show s.R=(nth h.M k).R+((0:Nat):Int) by have:=Q.1;have:=Q.2.1;omega) (d.L.dis s J _ (am r) 0 ω)
    obtain⟨m,K,rfl⟩:=aL R;have:=d.L.one m k K r 0 0 (by have:=aO (d.L.lok _ R);omega) ω ω;subst this;unfold bJ at t;rw[C0]at t;omega
   by_cases B:(nth h.M k).R<=p/\p<(nth h.M k).R+((nth h.M k).a4.toNat:Nat)
   ·exact A (kl.ins p B.1 B.2)
   have w:=kl.out p B;change ac (unmN h.G (nth h.M k).R (nth h.M k).a4.toNat).F.Q p=_ at w;change (ac (unmN h.G (nth h.M k).R (nth h.M k).a4.toNat).F.Q p).j≠0 at A;change (ac (unmN h.G (nth h.M k).R (nth h.M k).a4.toNat).F.Q p).e=_ at H;rw[w]at A H;have:=mi d (am r) (b:=(nth h.O i).Addr+j) ω ω g A H;omega
  exact e.1
 ·have:=kl.md u q (by show(nth (tbl (Ab.freeL h i k)).J q).j≠0;omega)
  show(nth h.G.F.Q.J q).j=1;rw[<-this];exact hq
 ·obtain⟨-,⟨a,ha,M⟩,b,hb,eb⟩:=d.job hm
  have no:∀s∈h.K,¬((nth h.M k).R<=s.R/\s.R<(nth h.M k).R+((nth h.M k).a4.toNat:Nat)):=λs J B=>d.L.dis s J _ (am r) (s.R - (nth h.M k).R).toNat ω ω
  exact⟨by rw[<-M];exact kl.out _ (no a ha),by rw[<-eb];exact kl.out _ (no b hb)⟩
 obtain⟨o1,N⟩:=notO o n;refine kl.out _ λS=>o1 ?_
 have g:=At.mk' d.ker (cQ d N (k:=j) ⟨D,ω⟩).1;have e:=wH d (jO d N ⟨j,D,P,g⟩) (onL _ S.1 S.2 _ _ g);obtain⟨m,K,rfl⟩:=aL N;rw[cM (f:=(·.Addr)) (dq d.osr) K O e]
def CI.freeT{h:ab}{t i:Nat}(b:aY h [])(c:JI h)(d:CI h)(e:i<h.O.length)(n:t<h.T.length):CI (freeT h t i).1/\Kp h (freeT h t i).1:=by
 unfold Ab.freeT;split
 ·rename_i a
  obtain⟨l,o,f,-⟩:=(dX b (am e)).1 a;obtain⟨g,j,-⟩:=wz o f;exact CI.freeL b d e g j
 rename_i a;split
 ·exact⟨d,CY h⟩
 rename_i k;split
 ·obtain⟨p,g⟩:=CI.clearO (h':=inQuar h i) b c d e a k rfl rfl rfl rfl rfl
  have f:=b.inQuar e a;obtain⟨q,j⟩:=CI.recycs (t:=t) (E:=[]) (az:=(zv h.a9 (lB h (nth h.O i))).map (·.Addr)) (h:=inQuar h i) (by rw[List.append_nil];exact f) n p;exact⟨q,g.trans j⟩
 split
 ·exact CI.clearO (h':=P4 h t i) b c d e a k rfl rfl rfl rfl rfl
 exact⟨d,CY h⟩
structure KA(k k':af)(lo n:Int):Prop where
 out:∀q:Int,¬(lo<=q/\q<lo+n)->ac k'.F.Q q=ac k.F.Q q
 md:∀q:Nat,(nth k'.F.Q.J q).j=1->(nth k.F.Q.J q).j=1
 cel:∀f c:Nat,cl k' f c=cl k f c
def Pt{k a:af}{lo n:Int}(b:a.F.Q.J.length=k.F.Q.J.length)(h:∀q:Nat,¬(lo<=q/\(q:Int)<lo+n)->nth a.F.Q.J q=nth k.F.Q.J q)(q:Int)(c:¬(lo<=q/\q<lo+n)):ac a.F.Q q=ac k.F.Q q:=by
 unfold ac;rw[b];by_cases e:0<=q/\q<k.F.Q.J.length
 ·rw[CB e,CB e];exact h q.toNat ω
 rw[C9 e,C9 e]
def KA.newK{k:af}{p:Int}{r:af × Bool}(s:we k p r):KA k r.1 p 1:=by
 cases e:r.2 with
 | false=>rw[s.no e];exact⟨λ_ _=>rfl,λ_ h=>h,λ_ _=>rfl⟩
 | true=>
  obtain⟨f,-,-,b,-⟩:=s.yes e;refine⟨Pt s.len λq a=>by rw[b,C9 ω],λq a=>?_,λf c=>by unfold cl;rw[s.cells]⟩;rw[b]at a;split at a
  ·exact absurd a (by show ¬(2:Int)=1;decide)
  exact a
def KA.newsK{k:af}{p:Int}{n:Nat}{r:af × Nat}(s:lX k p n r):KA k r.1 p r.2:=by
 refine⟨Pt s.len s.out,λq a=>?_,λf c=>by unfold cl;rw[s.cells]⟩;by_cases e:p<=q/\(q:Int)<p+r.2
 ·rw[(s.new q e.1 e.2).1]at a;exact absurd a (by decide)
 rw[s.out q e]at a;exact a
def nB{h:ab}{E:List Int}(d:aY h E){lo n:Int}(b:∀q:Nat,lo<=q->(q:Int)<lo+n->(nth (tbl h).J q).j=0){p:Int}(a:(ac (tbl h) p).j≠0):¬(lo<=p/\p<lo+n):=λe=>by
 obtain⟨f,-,c⟩:=lz a;rw[c]at a;exact a (b p.toNat ω ω)
def CI.mapped{h h':ab}{E:List Int}(b:aY h E)(t:CI h){lo n:Int}(e:KA h.G h'.G lo n)(g:∀q:Nat,lo<=q->(q:Int)<lo+n->(nth (tbl h).J q).j=0)(i:h'.O=h.O)(u:h'.Y=h.Y)(l:h'.o=h.o)(p:h.o=true->∀d∈h'.K,d.R=h.Y.W.a2\/d.R=h.Y.W.a0->d∈h.K):CI h'/\Kp h h':=by
 refine CI.kern b t (λo a=>by rw[<-i];exact a) u l (λo a r=>absurd (by rw[i];exact a) r) e.md (λa=>?_) (λo a j w C=>?_) (λf c=>.inl (e.cel f c)) (λa d r y=>⟨d,p a d r y,rfl,rfl,λ_ h=>h⟩)
 ·obtain⟨A,B⟩:=b.jobM a
  exact⟨e.out _ (nB b g A),e.out _ (nB b g B)⟩
 rw[i]at a;exact e.out _ (nB b g (cQ b a (k:=j) ⟨w,ω⟩).1)
structure CA(h:ab)(r:ab):Prop where
 ci:CI r
 kp:Kp h r
 ob:r.O=h.O
def CI.slotT{h:ab}(e:CI h){i:Nat}(t:i<h.K.length)(a:gq h (nth h.K i).R=false):CI (slotT h i):=by
 refine e.keep rfl rfl (λq h=>h) (λ_=>⟨rfl,rfl⟩) (λf c _ _=>.inl rfl) (λo g f c _ b _=>⟨o,g,b⟩) (λ_ c _=>⟨rfl,rfl⟩) λk u d l=>?_
 rcases eE d with rfl|⟨j,n,-,rfl⟩
 ·obtain⟨p,r⟩:=yc a k
  exact(l.elim p r).elim
 exact⟨_,am n,rfl,rfl,λ_ h=>h⟩
def CI.smallA{h:ab}{t c:Nat}(d:aY h [])(a:CI h)(V:t<h.T.length)(G:c<=3)(H:h.G.Calls<=90000):CA h (smallA h t c).1:=by
 unfold Ab.smallA;split
 ·exact⟨⟨a.z,a.jv,a.jd,a.jc,a.jn,a.m1,a.m2⟩,CY h,rfl⟩
 split
 ·rename_i i D
  have o:=List.find?_some D;have b:=List.mem_range.1 (List.mem_of_find?_eq_some D);unfold tw at o;simp only[I0,C0,Bool.not_eq_true']at o;exact⟨CI.slotT a b o.2.1,CY h,rfl⟩
 split
 ·exact⟨a,CY h,rfl⟩
 rename_i J;have f:(au h.q 1).2.2=true:=by simpa using J
 obtain⟨K,L,r,E⟩:=jR d (v5 1) f;have s:=we.of (p:=(au h.q 1).2.1) d.ker ω ⟨K,by have:(au h.q 1).2.1+1<=(h.G.F.Q.J.length:Nat):=L;omega⟩ (r _ ω ω);have F:=KA.newK s;split
 ·obtain⟨g,j⟩:=CI.mapped (h':={h with G:=(newK h.G (au h.q 1).2.1).1}) d a F (λq u w=>r q u w) rfl rfl rfl (λ_ k b _=>b)
  exact⟨g,j,rfl⟩
 rename_i M;have A:(newK h.G (au h.q 1).2.1).2=true:=by simpa using M
 have k:we h.G (au h.q 1).2.1 ((newK h.G (au h.q 1).2.1).1,true):=by rw[<-A];exact s
 have W:=d.addS (c:=c) ⟨ω,ω⟩ f k;have N:JK h (rL h c):=JK.addS k;have jno:∀l:h.o=true,(au h.q 1).2.1≠h.Y.W.a2/\(au h.q 1).2.1≠h.Y.W.a0:=λl=>by
  obtain⟨-,⟨y,O,P⟩,⟨z,Q,R⟩⟩:=d.job l;exact⟨λe=>E _ (v5 _) ω (by rw[e,<-P];exact dC O),λe=>E _ (v5 _) ω (by rw[e,<-R];exact dC Q)⟩
 obtain⟨g,j⟩:=CI.mapped (h':=rL h c) d a F (λq u w=>r q u w) rfl rfl rfl (λl k b S=>by
   rcases cI.1 b with rfl|b
   · obtain⟨B,C⟩:=jno l
     exact(S.elim B C).elim
   exact b)
 obtain⟨T,U⟩:=Dt (H3 (au h.q 1).2.1) h.K ⟨(au h.q 1).2.1,c,0⟩;unfold oD;split
 ·exact⟨g,j,rfl⟩
 refine⟨CI.slotT (h:=rL h c) g (i:=ru h) T ?_,j,rfl⟩;show gq (rL h c) (nth (jL (H3 (au h.q 1).2.1) h.K ⟨(au h.q 1).2.1,c,0⟩) (ru h)).R=false;unfold ru;rw[U,N.pg,<-U5];intro n;unfold gq at n;simp only[I0,O6,C0]at n;obtain⟨B,C⟩:=jno n.1;exact n.2.elim B C
structure RQ(h h':ab)(x:bt):Prop where
 mem:∀o,o∈h'.O↔o=x\/o∈h.O
 ze:∀j:Int,0<=j->j<x.u->fe h'.G (x.Addr+j)=0
 ke:∀o∈h.O,∀j:Int,0<=j->j<o.u->fe h'.G (o.Addr+j)=fe h.G (o.Addr+j)
def RQ.of{h g h':ab}{E L:List Int}{x:bt}(A:aY g E)(M:CI g)(b:aY h' L)(r:JI h')(B:CI h')(C:∀p:Int,(ac (tbl g) p).j≠0->ac (tbl h') p=ac (tbl g) p)(d:∀f c,cl h'.G f c=cl g.G f c)(l:∀o,o∈h'.O↔o=x\/o∈g.O)(N:x∉g.O)(G:h'.Y=g.Y)(O:h'.o=g.o)(D:g.O=h.O)(P:Kp h g):RQ h h' x:=by
 have Q:∀o∈g.O,∀f c:Nat,qB g o f c->qB h' o f c:=λo D f c ⟨j,n,t,a⟩=>by
  have e:=C _ a.m;unfold tbl at e;exact⟨j,n,t,by rw[e];exact a.m,by rw[e];exact a.f,a.c⟩
 refine⟨λo=>by rw[l,D],λj n t=>?_,λo u j n t=>?_⟩
 ·have q:=(l x).2 (.inl rfl)
  have a:=At.mk' b.ker (cQ b q (k:=j) ⟨n,ω⟩).1;rw[a.cell];refine Classical.byContradiction λH=>?_
  have w:((x.Addr+j) % 16).toNat<16:=ω
  rw[d]at H;have i:qB h' x _ _:=⟨j,n,t,a⟩
  rcases M.z _ _ w H with⟨o,u,F⟩|⟨J,R,S⟩
  ·have:=Jf b ((l o).2 (.inr u)) q (Q o u _ _ F) i
   subst this;exact N u
  refine te b r B (by rw[O];exact J) (jO b q i) w (by rw[G];exact List.mem_of_mem_take S) ?_;rw[G,C _ (A.jobM J).1];exact R
 have K:o∈g.O:=by rw[D];exact u
 refine Eq.trans ?_ ((P o K).2 j n t);have a:=At.mk' A.ker (cQ A K (k:=j) ⟨n,ω⟩).1;have e:=C _ a.m;have y:At h'.G (o.Addr+j) (cU g.G (o.Addr+j)) ((o.Addr+j) % 16).toNat:=by
  unfold tbl at e;exact⟨by rw[e];exact a.m,by rw[e];exact a.f,a.c⟩
 rw[y.cell,a.cell,d]
def CI.addO{h:ab}(e:CI h)(a size t:Int):CI (addO h a size t):=
 e.keep rfl rfl (λq h=>h) (λ_=>⟨rfl,rfl⟩) (λf c _ _=>.inl rfl) (λo g f c _ b _=>⟨o,cI.2 (.inr g),b⟩) (λ_ c _=>⟨rfl,rfl⟩) λ_ i d _=>⟨i,d,rfl,rfl,λ_ h=>h⟩
structure AL(h:ab)(t size:Int)(r:ab × Int × Int):Prop where
 ci:CI r.1
 no:r.2.2≠0->r.1.O=h.O/\Kp h r.1/\r.1.a=h.a/\r.2.1 = -1
 yes:r.2.2=0->RQ h r.1 ⟨h.a,r.2.1,size,t⟩/\r.1.a=h.a+1/\1<=size/\size<=1000/\0<=r.2.1
def MK{h:ab}{E:List Int}(b:aY h E){a size t:Int} : (⟨h.a,a,size,t⟩ : bt)∉h.O:=λc=>by
 have:=(b.onu _ c).2.1;simp only at this;omega
def CI.largeA{h:ab}{t size:Int}(b:aY h [])(C:JI h)(y:CI h)(L:9<=size/\size<=1000)(D:h.a<1000000)(E:h.G.Calls<=90000)(U:0<=t/\t<=h.T.length - 1):AL h t size (largeA h t size):=by
 have hl:(gZ size:Int)=(size+15) / 16:=by unfold gZ;omega
 have a:=AZ b L D E U;unfold Ab.largeA at a |-;by_cases F:(au h.q (gZ size:Nat)).2.2=false
 ·rw[CB F]
  exact⟨y,λ_=>⟨rfl,CY h,rfl,rfl⟩,λe=>by cases e⟩
 rw[C9 F]at a |-;have G:(au h.q (gZ size:Nat)).2.2=true:=by simpa using F
 obtain⟨M,N,O,u4⟩:=jR b (show(1:Int)<=(gZ size:Nat) by omega) G;have s:lX h.G (au h.q (gZ size:Nat)).2.1 (gZ size) (dP h size):=lX.of (p:=(au h.q (gZ size:Nat)).2.1) (n:=gZ size) b.ker ω ⟨M,N⟩ O (gZ size) (C3 _);have d:=KA.newsK s;have V:=s.le;have i:∀q:Nat,(au h.q (gZ size:Nat)).2.1<=q->(q:Int)<(au h.q (gZ size:Nat)).2.1+(dP h size).2->(nth (tbl h).J q).j=0:=λq W q2=>O q W ω
 by_cases P:(dP h size).2=gZ size
 ·rw[CB P]at a |-
  obtain⟨Q,H⟩:=a;have ji1:=C.keep Q H;have w:∀o,o∈(addL h (dP h size).1 (au h.q (gZ size:Nat)).1 (au h.q (gZ size:Nat)).2.1 (gZ size:Nat) size t).O↔o = ⟨h.a,16*(au h.q (gZ size:Nat)).2.1,size,t⟩\/o∈h.O:=λo=>cI
  have X:=CI.mapped (h':={h with G:=(dP h size).1}) b y d i rfl rfl rfl (λ_ A Y _=>Y);have B:CI (addL h (dP h size).1 (au h.q (gZ size:Nat)).1 (au h.q (gZ size:Nat)).2.1 (gZ size:Nat) size t):=
   X.1.keep rfl rfl (λq h=>h) (λ_=>⟨rfl,rfl⟩) (λf c _ _=>.inl rfl) (λo l f c _ J _=>⟨o,cI.2 (.inr l),J⟩) (λ_ c _=>⟨rfl,rfl⟩) λ_ A r _=>⟨A,r,rfl,rfl,λ_ h=>h⟩
  refine⟨B,λe=>absurd rfl e,λ_=>⟨?_,rfl,ω,L.2,by show 0<=16*_;omega⟩⟩;exact RQ.of (g:=h) b y Q ji1 B (λp Z=>d.out p (nB b i Z)) d.cel w (MK b) rfl rfl rfl (CY h)
 rw[C9 P]at a |-;have K:=s.len;have kl:=KL.unmN s.ker M (dP h size).2 (by rw[K];have:(au h.q (gZ size:Nat)).2.1+((gZ size:Nat):Int)<=(h.G.F.Q.J.length:Nat):=N;omega);have u:=((fV (dP h size).1 (au h.q (gZ size:Nat)).2.1 (dP h size).2).1)
 obtain⟨B,k1⟩:=CI.kern (h':={h with G:=unmN (dP h size).1 (au h.q (gZ size:Nat)).2.1 (dP h size).2}) b y (λo l=>l) rfl rfl (λo l D=>absurd l D) (λq R=>d.md q (by rw[<-kl.md u q (by show(nth (unmN (dP h size).1 _ _).F.Q.J q).j≠0;have:(nth (unmN (dP h size).1 (au h.q (gZ size:Nat)).2.1 (dP h size).2).F.Q.J q).j=1:=R;omega)];exact R)) (λhm=>by
     obtain⟨S,T⟩:=b.jobM hm;exact⟨(kl.out _ (nB b i S)).trans (d.out _ (nB b i S)),(kl.out _ (nB b i T)).trans (d.out _ (nB b i T))⟩) (λo l j H j2=>by
     have:=nB b i (cQ b l (k:=j) ⟨H,ω⟩).1;exact(kl.out _ this).trans (d.out _ this)) (λf c=>by
     rcases kl.cel f c with e|e
     · exact .inl (e.trans (d.cel f c))
     exact .inr e) (λ_ A r _=>⟨A,r,rfl,rfl,λ_ h=>h⟩)
 exact⟨B,λ_=>⟨rfl,k1,rfl,rfl⟩,λe=>by cases e⟩
def CI.allocH{h:ab}{t size:Int}(i:aY h [])(f:JI h)(j:CI h):AL h t size (allocH h t size):=by
 have a:=AI (t:=t) (size:=size) i;have no:∀n:Int,n≠0->AL h t size (h,-1,n):=λn B=>⟨j,λ_=>⟨rfl,CY h,rfl,rfl⟩,λe=>absurd e B⟩
 unfold Ab.allocH at a |-;by_cases k:1000000<=h.a\/90000<h.G.Calls
 ·rw[CB k];exact no 5 (by decide)
 rw[C9 k]at a |-;by_cases l:¬(0<=t/\t<=h.T.length - 1)
 ·rw[CB l];exact no 1 (by decide)
 rw[C9 l]at a |-;by_cases q:¬(1<=size/\size<=1000)
 ·rw[CB q];exact no 2 (by decide)
 rw[C9 q]at a |-;by_cases u:h.c3<ui h+size
 ·rw[CB u];exact no 3 (by decide)
 rw[C9 u]at a |-;by_cases b:0<=aJ size
 ·rw[CB b]at a |-
  have C:aJ size<=3:=by unfold aJ;repeat' split<;>omega
  have s:=ve (t:=t.toNat) (c:=(aJ size).toNat) i ω ω ω;have d:=CI.smallA (t:=t.toNat) (c:=(aJ size).toNat) i j ω ω ω;generalize Ab.smallA h t.toNat (aJ size).toNat=r at s d a |-;by_cases e:r.2<0
  ·rw[CB e]at a |-
   exact⟨d.ci,λ_=>⟨d.ob,d.kp,s.nx,rfl⟩,λe=>by cases e⟩
  rw[C9 e]at a |-;obtain⟨w,D⟩:=a;obtain⟨y,-⟩:=s.yes ω;have A:=CI.addO d.ci r.2 size t;refine⟨A,λe=>absurd rfl e,λ_=>⟨?_,by show r.1.a+1=h.a+1;rw[s.nx],ω,ω,by show 0<=r.2;omega⟩⟩;have:=RQ.of (h:=h) (g:=r.1) (x:=⟨r.1.a,r.2,size,t⟩) y d.ci w (f.keep w D) A (λp _=>rfl) (λ_ _=>rfl) (λo=>cI) (MK y) rfl rfl d.ob d.kp;rw[s.nx]at this;exact this
 rw[C9 b];have E:9<=size:=by
  unfold aJ at b
  repeat' split at b<;>omega
 exact CI.largeA i f j ⟨E,ω⟩ ω ω ω
def rV(k:af)(a v:Int)(f c:Nat):cl (dL k a v) f c=cl k f c\/(cl (dL k a v) f c=v/\f=cU k a/\c=(a % 16).toNat):=by
 unfold cl dL setCell;simp only[bz];by_cases e:cU k a=f/\f<k.F.V.S.length
 ·rw[CB e,bz]
  by_cases b:(a % 16).toNat=c/\c<(nth k.F.V.S (cU k a)).length
  ·rw[CB b];exact .inr ⟨rfl,e.1.symm,b.1.symm⟩
  rw[C9 b,e.1];exact .inl rfl
 rw[C9 e];exact .inl rfl
def AW{k:af}(c:ay k=true){a v:Int}(e:(ac k.F.Q (a / 16)).j≠0):cl (dL k a v) (cU k a) (a % 16).toNat=v:=by
 have d:=(gn c e).1;have b:=(uL c (f:=cU k a) d).1;unfold cl dL setCell;show nth (nth (List.set _ _ _) _) _=v;rw[bz,CB ⟨rfl,d⟩,bz,CB ⟨rfl,by rw[b];omega⟩]
def J7{h:ab}{a v:Int}{o:bt}{f c:Nat}(d:qB h o f c):qB {h with G:=dL h.G a v} o f c:=by
 obtain⟨j,e,g,b⟩:=d;exact⟨j,e,g,⟨b.m,b.f,b.c⟩⟩
def Qb{h:ab}{E:List Int}(d:aY h E){o:bt}(q:o∈h.O){x j:Int}(y:0<=x/\x<o.u)(A:0<=j/\j<o.u){f c:Nat}(h1:At h.G (o.Addr+x) f c)(g:At h.G (o.Addr+j) f c):x=j:=by
 have B:=h1.c;have C:=g.c;rcases d.oow o q with⟨s,r,t,u⟩|⟨l,k,D,F⟩
 ·have i:=aF (d.L.sok s r)
  have a:=DK (n:=o.u) ω;rw[<-u]at a;obtain⟨G,H,w,-⟩:=t;rcases bP i.2.2 with e|e|e|e<;>rw[e]at w a<;>omega
 have p:=d.L.lok l k;unfold bJ at p;rw[C0]at p;have:=mi d k (b:=o.Addr+x) ω ω h1 g.m g.f;omega
def CI.store{h:ab}{E:List Int}(b:aY h E)(A:JI h)(N:CI h){i:Nat}(O:i<h.O.length){j v:Int}(P:0<=j/\j<=(nth h.O i).u - 1)(Y:(ac (tbl h) (((nth h.O i).Addr+j) / 16)).j≠1):CI {h with G:=dL h.G ((nth h.O i).Addr+j) v}/\
  ∀o∈h.O,∀x:Int,0<=x->x<o.u->fe (dL h.G ((nth h.O i).Addr+j) v) (o.Addr+x)=if o=nth h.O i/\x=j then v else fe h.G (o.Addr+x):=by
 have g:=am O;have F:=(cQ b g P).1;have G:=At.mk' b.ker F;have d:qB h (nth h.O i) _ _:=⟨j,P.1,ω,G⟩
 have r:=jO b g d;have Z:(((nth h.O i).Addr+j) % 16).toNat<16:=ω
 have key:∀p:Int,(ac (tbl h) p).j≠0->(ac (tbl h) p).e≠(cU h.G ((nth h.O i).Addr+j):Nat)->∀c,cl (dL h.G ((nth h.O i).Addr+j) v) (b8 h.G p) c=cl h.G (b8 h.G p) c:=λp Q B c=>by
  rcases rV h.G ((nth h.O i).Addr+j) v (b8 h.G p) c with e|⟨-,e,-⟩
  ·exact e
  refine absurd ?_ B;rw[<-e];exact lQ b.ker Q
 refine⟨N.keep rfl rfl (λq h=>h) (λ_=>⟨rfl,rfl⟩) (λf c _ _=>?_) (λo g f c _ d _=>⟨o,g,J7 d⟩) (λH c C=>?_) (λ_ s' R _=>⟨s',R,rfl,rfl,λ_ h=>h⟩),λo g x S W=>?_⟩
 ·rcases rV h.G ((nth h.O i).Addr+j) v f c with e|⟨-,u,w⟩
  ·exact .inl e.symm
  refine .inr ⟨_,g,?_⟩;rw[u,w];exact J7 d
 ·obtain⟨jm1,jm2⟩:=b.jobM H
  have J:c<16:=by
   obtain⟨k,lk,e⟩:=aL (List.mem_of_mem_take C);have:=fx (cK.1 (b.job H).1).1 lk;omega
  constructor
  ·rcases rV h.G ((nth h.O i).Addr+j) v (b8 h.G h.Y.W.a2) c with e|⟨-,u,w⟩
   ·exact e
   exfalso;rw[<-u,<-w]at r;exact te b A N H r J (List.mem_of_mem_take C) (lQ b.ker jm1)
  rcases rV h.G ((nth h.O i).Addr+j) v (b8 h.G h.Y.W.a0) c with e|⟨-,u,w⟩
  ·exact e
  exfalso;rw[<-u,<-w]at r;refine Ft b A N H r ?_ C (lQ b.ker jm2);rcases b.oow _ g with⟨s,hs,s1,s2⟩|⟨l,X,l1,-⟩
  ·have T:=aF (b.L.sok s hs)
   have K:=DK (n:=(nth h.O i).u) ω;rw[<-s2]at K;obtain⟨g1,g2,g3,-⟩:=s1;have Q:((nth h.O i).Addr+j) / 16=(nth h.O i).Addr / 16:=by rcases bP T.2.2 with e|e|e|e<;>rw[e]at g3 K<;>omega
   rw[<-Q];exact Y
  intro M;obtain⟨a1,a2,a3⟩:=lz (t:=tbl h) (p:=(nth h.O i).Addr / 16) ω;rw[a3]at M;have h3:=(N.m1 _ M).2.1;obtain⟨-,-,y,hy,-,ey,-⟩:=A.sp H;have hpl:=aO (b.L.lok l X);exact b.L.dis y hy l X 0 ω ω
 have U:=(cQ b g (k:=x) ⟨S,ω⟩).1;have a:=At.mk' b.ker U;have D:At (dL h.G ((nth h.O i).Addr+j) v) (o.Addr+x) (cU h.G (o.Addr+x)) ((o.Addr+x) % 16).toNat:=⟨a.m,a.f,a.c⟩
 rw[D.cell,a.cell];split
 ·rename_i e
  obtain⟨u,w⟩:=e;subst u w;exact AW b.ker F
 rename_i B;rcases rV h.G ((nth h.O i).Addr+j) v (cU h.G (o.Addr+x)) ((o.Addr+x) % 16).toNat with e|⟨-,u,w⟩
 ·exact e
 exfalso;rw[u,w]at a;have V:qB h o _ _:=⟨x,S,W,a⟩
 have eo:=Jf b g (am O) V d;subst eo;refine B ⟨rfl,?_⟩;exact Qb b (am O) ⟨S,W⟩ ⟨P.1,ω⟩ a G
structure JP(h:ab):Prop where
 km:(ac (tbl h) h.Y.W.a2).j≠0
 mm:(ac (tbl h) h.Y.W.a0).j≠0
 kf:(ac (tbl h) h.Y.W.a2).e=(b8 h.G h.Y.W.a2:Nat)
 mf:(ac (tbl h) h.Y.W.a0).e=(b8 h.G h.Y.W.a0:Nat)
 ne:b8 h.G h.Y.W.a2≠b8 h.G h.Y.W.a0
 pe:h.Y.W.a2≠h.Y.W.a0
 k2:CI h->(ac (tbl h) h.Y.W.a2).j≠1
def JP.of{h:ab}{E:List Int}(g:aY h E)(i:JI h)(j:h.o=true):JP h:=by
 obtain⟨k,b⟩:=g.jobM j;have a:=(cK.1 (g.job j).1).1;unfold eO at a;simp only[I0,C0]at a;have c:=a.2.2.2.2.2;have l:=lQ g.ker k;have n:=lQ g.ker b;obtain⟨t,u,o⟩:=lz k;obtain⟨w,y,q⟩:=lz b;refine⟨k,b,l,n,λe=>c ?_,c,λr p=>?_⟩
 ·have d:(ac (tbl h) h.Y.W.a2).e=(b8 h.G h.Y.W.a2:Nat):=l
  have f:(ac (tbl h) h.Y.W.a0).e=(b8 h.G h.Y.W.a0:Nat):=n;rw[o]at d;rw[q]at f b;have:=i.sk j h.Y.W.a0.toNat b (by rw[d,f,e]);omega
 rw[o]at p;have:=(r.m1 _ p).2.1;omega
def hJ(h:ab)(k:af)(j:cn):ab:={h with G:=k,o:=true,Y:=j}
def hE(h:ab)(k:af):ab:={h with G:=k,o:=false,Y:=⟨⟨0,0,[]⟩,0,0⟩}
def MN{h:ab}(a:h.o=true):mStep h=if over (dU h.G h.Y).2=true then hE h (dU h.G h.Y).1 else hJ h (dU h.G h.Y).1 (dU h.G h.Y).2:=by
 unfold mStep hE hJ;split
 ·rfl
 rw[a]
def wE{h h':ab}{E:List Int}(g:aY h E)(l:h'.O=h.O)(n:∀p,(ac (tbl h) p).j≠0->(ac (tbl h') p).j≠0/\(ac (tbl h') p).e=(ac (tbl h) p).e)(q:∀o∈h.O,∀f c,qB h o f c->cl h'.G f c=cl h.G f c):Kp h h':=λo e=>by
 rw[l]at e;refine⟨e,λj i r=>?_⟩;have b:=(cQ g e (k:=j) ⟨i,ω⟩).1;have a:=At.mk' g.ker b;obtain⟨t,u⟩:=n _ b;have d:At h'.G (o.Addr+j) (cU h.G (o.Addr+j)) ((o.Addr+j) % 16).toNat:=⟨t,u.trans a.f,a.c⟩
 rw[d.cell,a.cell];exact q o e _ _ ⟨j,i,r,a⟩
def yR{h h':ab}(b:∀p,(ac (tbl h) p).j≠0->(ac (tbl h') p).j≠0/\(ac (tbl h') p).e=(ac (tbl h) p).e){o:bt}{f c:Nat}(d:qB h o f c):qB h' o f c:=by
 obtain⟨j,e,g,a⟩:=d;obtain⟨i,k⟩:=b _ a.m;exact⟨j,e,g,i,k.trans a.f,a.c⟩
def sO{k:af}{p m:Int}(b:(ac k.F.Q p).j≠0)(q:Int):ac (jB k p m).F.Q q=if q=p then {ac k.F.Q p with j:=m} else ac k.F.Q q:=by
 obtain⟨c,d,g⟩:=lz b;have f:(jB k p m).F.Q.J.length=k.F.Q.J.length:=by unfold jB;simp
 unfold ac;rw[f];by_cases e:0<=q/\q<k.F.Q.J.length
 ·rw[CB e,CB e]
  unfold jB;simp only[bz];by_cases a:q=p
  ·rw[CB a,CB ⟨ω,ω⟩,CB ⟨c,d⟩]
  rw[C9 a,C9 ω]
 rw[C9 e,C9 e,C9 ω]
def GO{t:aG}{q:Nat}(h:(nth t.J q).j≠0):ac t (q:Int)=nth t.J q:=by
 have:=sq h;unfold ac;rw[CB ⟨ω,ω⟩];rfl
def CI.ended{h:ab}{k:af}{E:List Int}(l:aY h E)(n:CI h)(u:h.o=true)(r:h.Y.a=0)(g:∀f c,cl k f c=cl h.G f c)(i:∀p,(ac (tbl h) p).j≠0->(ac k.F.Q p).j≠0/\(ac k.F.Q p).e=(ac (tbl h) p).e)(h1:∀q:Nat,(nth k.F.Q.J q).j≠1):CI (hE h k)/\Kp h (hE h k):=by
 refine⟨⟨λf c a b=>?_,λe=>(by cases e),λe=>(by cases e),λe=>(by cases e),λe=>(by cases e),λq t=>absurd t (h1 q),λe=>(by cases e)⟩,wE l rfl i λo j f c _=>g f c⟩;change cl k f c≠0 at b;rw[g]at b;rcases n.z f c a b with⟨o,j,d⟩|⟨-,-,e⟩
 ·exact .inl ⟨o,j,yR i d⟩
 rw[r]at e;cases e
def Jw{p:bY}(h:eO p=true){i:Nat} : ∀{j:Nat},i<j->j<p.S.length->nth p.S i<nth p.S j
 | 0,a,_=>absurd a (Nat.not_lt_zero i)
 | j+1,a,d=>by
  have b:=h;unfold eO at b;simp only[I0]at b;have c:=dZ b.1 d;unfold mF at c;rw[C0]at c;have f:nth p.S j<nth p.S (j+1):=c.2.2.resolve_left ω;by_cases e:i=j
  ·rw[e];exact f
  have:=Jw h (i:=i) (j:=j) ω ω;omega
def rN(k:af)(a:Nat)(b v:Int)(f c:Nat):cl (setCell k a b v) f c=cl k f c\/(cl (setCell k a b v) f c=v/\f=a/\c=b.toNat):=by
 unfold cl setCell;simp only[bz];by_cases e:a=f/\f<k.F.V.S.length
 ·rw[CB e,bz]
  by_cases d:b.toNat=c/\c<(nth k.F.V.S a).length
  ·rw[CB d];exact .inr ⟨rfl,e.1.symm,d.1.symm⟩
  rw[C9 d,e.1];exact .inl rfl
 rw[C9 e];exact .inl rfl
def qD{k:af}(c:ay k=true){p a v:Int}(e:(ac k.F.Q p).j≠0)(g:0<=a/\a<=15):cl (setCell k (b8 k p) a v) (b8 k p) a.toNat=v:=by
 have d:=(gn c e).1;have b:=(uL c (f:=b8 k p) d).1;unfold cl setCell;show nth (nth (List.set _ _ _) _) _=v;rw[bz];rw[CB ⟨rfl,d⟩,bz,CB ⟨rfl,by rw[b];omega⟩]
def G2{h:ab}{p b v:Int}{j:cn}{o:bt}{f c:Nat}(d:qB h o f c):qB (hJ h (setCell h.G (b8 h.G p) b v) j) o f c:=by
 obtain⟨x,e,g,a⟩:=d;exact⟨x,e,g,⟨a.m,a.f,a.c⟩⟩
def Jn{h:ab}{j:cn}(a:aY h [])(b:JI h)(q:CI h)(l:h.o=true)(r:JP h){d:Int}(n:d∈h.Y.W.S)(v:Int):Kp h (hJ h (setCell h.G (b8 h.G h.Y.W.a2) d v) j):=by
 obtain⟨k,t,e⟩:=aL n;have u:=fx (cK.1 (a.job l).1).1 t;refine wE a rfl (λp w=>⟨w,rfl⟩) λo y f c i=>?_
 rcases rN h.G (b8 h.G h.Y.W.a2) d v f c with g|⟨-,A,B⟩
 ·exact g
 exfalso;refine te a b q l (jO a y i) ω ?_ (by rw[A];exact r.kf);rw[B,Int.toNat_of_nonneg ω];exact n
def CI.copied{h:ab}(r:aY h [])(t:JI h)(b:CI h)(k:h.o=true)(n:JP h)(N:h.Y.b1=1)(O:0<=h.Y.a/\h.Y.a<h.Y.W.S.length):CI (hJ h (oB h.G h.Y.W.a0 h.Y.W.a2 (nth h.Y.W.S h.Y.a.toNat)) {h.Y with a:=h.Y.a+1})/\Kp h (hJ h (oB h.G h.Y.W.a0 h.Y.W.a2 (nth h.Y.W.S h.Y.a.toNat)) {h.Y with a:=h.Y.a+1}):=by
 have d:h.Y.a.toNat<h.Y.W.S.length:=ω
 have l:=am d;have u:=fx (cK.1 (r.job k).1).1 d;have i:h.Y.W.S.take (h.Y.a+1).toNat=h.Y.W.S.take h.Y.a.toNat++[nth h.Y.W.S h.Y.a.toNat]:=by
  rw[show(h.Y.a+1).toNat=h.Y.a.toNat+1 by omega,V5,ao d];rfl
 unfold oB;have w:=qD r.ker (p:=h.Y.W.a2) (v:=nth (nth h.G.F.V.S (b8 h.G h.Y.W.a0)) (nth h.Y.W.S h.Y.a.toNat).toNat) n.km u;have j:=rN h.G (b8 h.G h.Y.W.a2) (nth h.Y.W.S h.Y.a.toNat) (nth (nth h.G.F.V.S (b8 h.G h.Y.W.a0)) (nth h.Y.W.S h.Y.a.toNat).toNat);refine⟨⟨λf c y H=>?_,λ_ c a=>?_,λ_=>b.jd k,λ_=>b.jc k,λ_=>⟨λe=>absurd e (by show ¬h.Y.b1=0;omega),λe=>absurd e (by show ¬h.Y.b1=2;omega)⟩,λq J=>?_,λ_ _=>b.m2 k ω⟩,Jn r t b k n l _⟩
 ·rcases j f c with g|⟨-,A,B⟩
  ·have C:cl h.G f c≠0:=by rw[<-g];exact H
   rcases b.z f c y C with⟨o,K,L⟩|⟨M,D,E⟩
   ·exact .inl ⟨o,K,G2 L⟩
   refine .inr ⟨rfl,D,?_⟩;show(c:Int)∈h.Y.W.S.take (h.Y.a+1).toNat;rw[i];exact z3.2 (.inl E)
  refine .inr ⟨rfl,?_,?_⟩
  ·show(ac (tbl h) h.Y.W.a2).e=f;rw[A];exact n.kf
  show(c:Int)∈h.Y.W.S.take (h.Y.a+1).toNat;rw[i,B,Int.toNat_of_nonneg ω];exact z3.2 (.inr (O1.2 rfl))
 ·change (c:Int)∈h.Y.W.S.take (h.Y.a+1).toNat at a
  show cl (setCell h.G (b8 h.G h.Y.W.a2) _ _) (b8 h.G h.Y.W.a2) c=cl (setCell h.G (b8 h.G h.Y.W.a2) _ _) (b8 h.G h.Y.W.a0) c;have F:cl (setCell h.G (b8 h.G h.Y.W.a2) (nth h.Y.W.S h.Y.a.toNat) (nth (nth h.G.F.V.S (b8 h.G h.Y.W.a0)) (nth h.Y.W.S h.Y.a.toNat).toNat)) (b8 h.G h.Y.W.a0) c=cl h.G (b8 h.G h.Y.W.a0) c:=by
   rcases j (b8 h.G h.Y.W.a0) c with g|⟨-,A,-⟩
   ·exact g
   exact absurd A.symm n.ne
  rw[F];by_cases G:(c:Int)=nth h.Y.W.S h.Y.a.toNat
  ·have:c=(nth h.Y.W.S h.Y.a.toNat).toNat:=ω
   rw[this,w];rfl
  rw[i]at a;rcases z3.1 a with a|a
  ·rcases j (b8 h.G h.Y.W.a2) c with g|⟨-,-,B⟩
   ·rw[g];exact b.jv k c a
   exact absurd (by rw[B,Int.toNat_of_nonneg ω]) G
  exact absurd (O1.1 a) G
 obtain⟨M,D,E⟩:=b.m1 q J;exact⟨rfl,D,E⟩
def CI.undone{h:ab}(y:aY h [])(A:JI h)(b:CI h)(r:h.o=true)(l:JP h)(p3:h.Y.b1=3)(hp:0<h.Y.a):CI (hJ h {h.G with F:=(fI h.G.F (h.Y.W.a2*16+nth h.Y.W.S (h.Y.a - 1).toNat) 0).1} {h.Y with a:=h.Y.a - 1})/\Kp h (hJ h {h.G with F:=(fI h.G.F (h.Y.W.a2*16+nth h.Y.W.S (h.Y.a - 1).toNat) 0).1} {h.Y with a:=h.Y.a - 1}):=by
 obtain⟨t,-,-,n0,n1⟩:=cK.1 (y.job r).1;have a:(h.Y.a - 1).toNat<h.Y.W.S.length:=ω
 have u:=am a;have B:=fx t a;have O:=(lz l.km).1;have P:(h.Y.W.a2*16+nth h.Y.W.S (h.Y.a - 1).toNat) / 16=h.Y.W.a2:=ω
 have Q:(h.Y.W.a2*16+nth h.Y.W.S (h.Y.a - 1).toNat) % 16=nth h.Y.W.S (h.Y.a - 1).toNat:=ω
 have C:(ac h.G.F.Q h.Y.W.a2).j≠0:=l.km;have D:(ac h.G.F.Q h.Y.W.a2).j≠1:=l.k2 b;have R:({h.G with F:=(fI h.G.F (h.Y.W.a2*16+nth h.Y.W.S (h.Y.a - 1).toNat) 0).1} : af)=setCell h.G (b8 h.G h.Y.W.a2) (nth h.Y.W.S (h.Y.a - 1).toNat) 0:=by
  unfold fI;rw[P,Q,C9 C,C9 D]
  rfl
 rw[R];have n:=rN h.G (b8 h.G h.Y.W.a2) (nth h.Y.W.S (h.Y.a - 1).toNat) 0;have w:h.Y.W.S.take h.Y.a.toNat=h.Y.W.S.take (h.Y.a - 1).toNat++[nth h.Y.W.S (h.Y.a - 1).toNat]:=by
  rw[show h.Y.a.toNat=(h.Y.a - 1).toNat+1 by omega,V5,ao a];rfl
 have E:nth h.Y.W.S (h.Y.a - 1).toNat∉h.Y.W.S.take (h.Y.a - 1).toNat:=λF=>by
  obtain⟨k,S,T⟩:=aL F;rw[V1]at S;have G:nth (h.Y.W.S.take (h.Y.a - 1).toNat) k=nth h.Y.W.S k:=by
   refine bm ?_;rw[List.getElem?_take,CB ω];exact ao ω
  rw[G]at T;have:=Jw t (i:=k) (j:=(h.Y.a - 1).toNat) ω a;omega
 refine⟨⟨λf c H J=>?_,λ_ c p=>?_,λ_=>b.jd r,λ_=>b.jc r,λ_=>⟨λe=>absurd e (by show ¬h.Y.b1=0;omega),λe=>absurd e (by show ¬h.Y.b1=2;omega)⟩,λq U=>?_,λ_ _=>b.m2 r ω⟩,Jn y A b r l u _⟩
 ·rcases n f c with g|⟨V,-,-⟩
  ·have K:cl h.G f c≠0:=by rw[<-g];exact J
   rcases b.z f c H K with⟨o,W,X⟩|⟨Y,L,d⟩
   ·exact .inl ⟨o,W,G2 X⟩
   rw[w]at d;rcases z3.1 d with d|d
   ·exact .inr ⟨rfl,L,d⟩
   exfalso;have ec:=O1.1 d;have M:f=b8 h.G h.Y.W.a2:=by have:=l.kf;omega
   refine J ?_;show cl (setCell h.G (b8 h.G h.Y.W.a2) _ 0) f c=0;rw[M,show c=(nth h.Y.W.S (h.Y.a - 1).toNat).toNat by omega];exact qD y.ker l.km B
  exact absurd V J
 ·change (c:Int)∈h.Y.W.S.take (h.Y.a - 1).toNat at p
  show cl (setCell h.G (b8 h.G h.Y.W.a2) _ 0) (b8 h.G h.Y.W.a2) c=cl (setCell h.G (b8 h.G h.Y.W.a2) _ 0) (b8 h.G h.Y.W.a0) c;have N:cl (setCell h.G (b8 h.G h.Y.W.a2) (nth h.Y.W.S (h.Y.a - 1).toNat) 0) (b8 h.G h.Y.W.a0) c=cl h.G (b8 h.G h.Y.W.a0) c:=by
   rcases n (b8 h.G h.Y.W.a0) c with g|⟨-,Z,-⟩
   ·exact g
   exact absurd Z.symm l.ne
  rw[N];rcases n (b8 h.G h.Y.W.a2) c with g|⟨-,-,g2⟩
  ·rw[g]
   exact b.jv r c (by rw[w];exact z3.2 (.inl p))
  exact absurd (by rw[show nth h.Y.W.S (h.Y.a - 1).toNat=(c:Int) by omega];exact p) E
 obtain⟨Y,L,d⟩:=b.m1 q U;exact⟨rfl,L,d⟩
def CI.meshed{h:ab}(F:aY h [])(D:JI h)(G:CI h)(H:h.o=true)(d:JP h)(hn:h.Y.a=h.Y.W.S.length)(L:h.G.Calls≠100000)(R:(qV h.G h.Y.W.a0 h.Y.W.a2).2=true):CI (hE h (qV h.G h.Y.W.a0 h.Y.W.a2).1)/\Kp h (hE h (qV h.G h.Y.W.a0 h.Y.W.a2).1):=by
 have A:=D4 F.ker (p:=h.Y.W.a0) (o:=h.Y.W.a2) d.mm R;obtain⟨m1,m2,m3⟩:=lz d.mm;obtain⟨k1,k2,k3⟩:=lz d.km;have M:=(A 0).1;generalize N:(qV h.G h.Y.W.a0 h.Y.W.a2).1=K at *;have J:∀q:Int,ac K.F.Q q=if q=h.Y.W.a0 then⟨2,(ac (tbl h) h.Y.W.a2).e⟩ else ac (tbl h) q:=λq=>by
  unfold ac;rw[M];by_cases e:0<=q/\q<h.G.F.Q.J.length
  ·rw[CB e,(A q.toNat).2]
   by_cases B:q=h.Y.W.a0
   ·rw[CB B,CB ω,CB ⟨k1,k2⟩];rfl
   rw[C9 B,C9 ω,CB (show 0<=q/\q<(tbl h).J.length from e)];rfl
  rw[C9 e,C9 (show ¬q=h.Y.W.a0 by unfold tbl at m2;omega),C9 (show ¬(0<=q/\q<(tbl h).J.length) from e)]
 have l:∀f c,cl K f c=cl h.G f c\/(cl K f c=0/\f=b8 h.G h.Y.W.a0):=λf c=>by
  unfold qV at N R;by_cases e:refd h.G=true
  ·rw[CB e]at R;cases R
  rw[C9 e]at N;simp only at N;rw[<-N];rcases Js (uZ (bZ h.G) h.Y.W.a0.toNat ⟨2,(nth (bZ h.G).F.Q.J h.Y.W.a2.toNat).e⟩) (nth (bZ h.G).F.Q.J h.Y.W.a0.toNat).e f c with g|⟨S,T,-⟩
  ·exact .inl g
  refine .inr ⟨S,?_⟩;rw[<-T];have h3:nth (bZ h.G).F.Q.J h.Y.W.a0.toNat=ac h.G.F.Q h.Y.W.a0:=m3.symm;rw[h3];rfl
 have n:h.Y.W.S.take h.Y.a.toNat=h.Y.W.S:=I7 ω;have O:∀p:Int,(ac (tbl h) p).j≠0->(ac (tbl h) p).e=(b8 h.G h.Y.W.a0:Nat)->p=h.Y.W.a0:=λp j C=>by
  obtain⟨p1,p2,p3⟩:=lz j;have P:=d.mf;rw[p3]at j C;rw[m3]at P;have:=D.sm H p.toNat j (by rw[C,P]);omega
 have U:∀c,cl K (b8 h.G h.Y.W.a2) c=cl h.G (b8 h.G h.Y.W.a2) c:=λc=>by
  rcases l (b8 h.G h.Y.W.a2) c with g|⟨-,g⟩
  ·exact g
  exact absurd g d.ne
 have place:∀o∈h.O,∀x:Int,0<=x->x<o.u->∀f c:Nat,At h.G (o.Addr+x) f c->(f≠b8 h.G h.Y.W.a0->At K (o.Addr+x) f c)/\(f=b8 h.G h.Y.W.a0->At K (o.Addr+x) (b8 h.G h.Y.W.a2) c/\(c:Int)∈h.Y.W.S):=λo r x u w f c a=>by
  constructor
  ·intro hne
   have j:(o.Addr+x) / 16≠h.Y.W.a0:=λe=>by
    have:=a.f;rw[e]at this;have h3:(ac h.G.F.Q h.Y.W.a0).e=_:=d.mf;omega
   exact⟨by rw[J,C9 j];exact a.m,by rw[J,C9 j];exact a.f,a.c⟩
  intro he;have j:=O _ a.m (by rw[<-he];exact a.f);refine⟨⟨by rw[J,CB j];show(2:Int)≠0;decide,by rw[J,CB j];exact d.kf,a.c⟩,?_⟩;obtain⟨-,-,b,hb,-,V,-⟩:=D.sp H;have y:c<16:=by have:=a.c;omega
  obtain⟨e1,B,-⟩:=xO F (jO F r ⟨x,u,w,a⟩) hb (by rw[V];exact D.sm H) (by rw[V,he];exact d.mf);refine G.jc H b hb V c y ?_;rw[B];exact e1.2.2.2
 refine⟨⟨λf c y E=>?_,λe=>(by cases e),λe=>(by cases e),λe=>(by cases e),λe=>(by cases e),λq hq=>?_,λe=>(by cases e)⟩,λo r=>⟨r,λx u w=>?_⟩⟩
 ·change cl K f c≠0 at E
  rcases l f c with g|⟨g,-⟩
  rotate_left
  ·exact absurd g E
  rw[g]at E;have W:f≠b8 h.G h.Y.W.a0:=λe=>by
   refine E ?_;rw[<-g,e];have X:ay K=true:=by
    rw[<-N];exact N7 F.ker L d.mm d.km (Ne.symm d.pe)
   refine pd X (λp j C=>?_) c;rw[J]at j C;by_cases B:p=h.Y.W.a0
   ·rw[CB B]at C
    have h1:(ac (tbl h) h.Y.W.a2).e=(b8 h.G h.Y.W.a0:Nat):=C;have h2:=d.kf;exact d.ne ω
   rw[C9 B]at j C;exact B (O p j C)
  rcases G.z f c y E with⟨o,r,x,u,w,a⟩|⟨-,q2,q3⟩
  ·exact .inl ⟨o,r,x,u,w,(place o r x u w f c a).1 W⟩
  rw[n]at q3;have Q:f=b8 h.G h.Y.W.a2:=by have:=d.kf;omega
  rw[Q,G.jv H c (by rw[n];exact q3)]at E;rcases G.z _ c y E with⟨o,r,x,u,w,a⟩|⟨-,r2,-⟩
  ·exact .inl ⟨o,r,x,u,w,by rw[Q];exact((place o r x u w _ c a).2 rfl).1⟩
  exact absurd (by have:=d.kf;omega) d.ne
 ·have i:(nth K.F.Q.J q).j=1:=hq
  have:=GO (t:=K.F.Q) (q:=q) (by rw[i];decide);rw[J]at this;by_cases e:(q:Int)=h.Y.W.a0
  ·rw[CB e]at this
   rw[<-this]at i;exact absurd i (by show ¬(2:Int)=1;decide)
  rw[C9 e]at this;rw[<-this]at i;obtain⟨a1,a2,a3⟩:=lz (t:=tbl h) (p:=(q:Int)) (by rw[i];decide);rw[a3]at i;exact absurd (by have:=(G.m1 _ i).2.1;omega) e
 have Y:=(cQ F r (k:=x) ⟨u,ω⟩).1;have a:=At.mk' F.ker Y;obtain⟨S,T⟩:=place o r x u w _ _ a;show fe K (o.Addr+x)=fe h.G (o.Addr+x);by_cases e:cU h.G (o.Addr+x)=b8 h.G h.Y.W.a0
 ·obtain⟨Z,g4⟩:=T e
  rw[Z.cell,a.cell,U,e];exact G.jv H _ (by rw[n];exact g4)
 have Z:=S e;rw[Z.cell,a.cell];rcases l (cU h.G (o.Addr+x)) ((o.Addr+x) % 16).toNat with g|⟨-,g⟩
 ·exact g
 exact absurd g e
def CI.mStep{h:ab}(w:aY h [])(l:JI h)(a:CI h)(d:h.o=true):CI (mStep h)/\Kp h (mStep h):=by
 have C:=JP.of w l d;have Z:=l.ph d;obtain⟨jn0,jn2⟩:=a.jn d;obtain⟨-,-,-,n0,n1⟩:=cK.1 (w.job d).1;rw[MN d];have stay:∀(k:af)(j:cn),k.F=h.G.F->j.W=h.Y.W->j.a=h.Y.a->(j.b1=0↔h.Y.b1=0)->(j.b1=2->j.a=j.W.S.length)->CI (hJ h k j)/\Kp h (hJ h k j):=λk j M u N O e5=>by
  have J:tbl (hJ h k j)=tbl h:=by unfold tbl hJ;rw[M]
  have L:∀f c,cl k f c=cl h.G f c:=λf c=>by unfold cl;rw[M]
  have D:∀o f c,qB h o f c->qB (hJ h k j) o f c:=λo f c=>yR (λp E=>by rw[J];exact⟨E,rfl⟩)
  refine⟨⟨λf c F K=>?_,λ_ c g=>?_,λ_=>?_,λ_=>?_,λ_=>⟨λe=>?_,e5⟩,λq i=>?_,λ_ e=>?_⟩,wE w rfl (λp E=>by rw[J];exact⟨E,rfl⟩) λo _ f c _=>L f c⟩
  ·change cl k f c≠0 at K
   rw[L]at K;rcases a.z f c F K with⟨o,P,Q⟩|⟨q1,R,G⟩
   ·exact .inl ⟨o,P,D o f c Q⟩
   refine .inr ⟨rfl,?_,?_⟩
   ·rw[J];show(ac (tbl h) j.W.a2).e=f;rw[u];exact R
   show(c:Int)∈j.W.S.take j.a.toNat;rw[u,N];exact G
  ·change (c:Int)∈j.W.S.take j.a.toNat at g
   show cl k (b8 k j.W.a2) c=cl k (b8 k j.W.a0) c;rw[u,N]at g;rw[u,L,L];unfold b8;rw[M];exact a.jv d c g
  ·show ∀s∈h.K,s.R=j.W.a2->_
   rw[show(hJ h k j).Y.W=h.Y.W from u,u];exact a.jd d
  ·show ∀s∈h.K,s.R=j.W.a0->_
   rw[show(hJ h k j).Y.W=h.Y.W from u,u];exact a.jc d
  ·exact(show j.a=h.Y.a from N).trans (jn0 (O.1 e))
  ·rw[J]at i
   obtain⟨q1,R,G⟩:=a.m1 q i;exact⟨rfl,by show(q:Int)=j.W.a0;rw[u];exact R,λe=>G (O.1 e)⟩
  rw[J];show(ac (tbl h) j.W.a0).j=1;rw[u];exact a.m2 d λx=>e (O.2 x)
 have prot:∀H:Int,H=1\/H=2->∀p,(ac (tbl h) p).j≠0->(ac (jB (bZ h.G) h.Y.W.a0 H).F.Q p).j≠0/\(ac (jB (bZ h.G) h.Y.W.a0 H).F.Q p).e=(ac (tbl h) p).e:=λH hmo p E=>by
  rw[sO (k:=bZ h.G) C.mm];by_cases e:p=h.Y.W.a0
  ·rw[CB e,e]
   exact⟨by show H≠0;omega,rfl⟩
  rw[C9 e];exact⟨E,rfl⟩
 unfold dU;by_cases b:jmay h.G h.Y=true;rotate_left
 ·rw[C9 b]
  rw[C9 (by rw[show over (h.G,h.Y).2=over h.Y from rfl,show over h.Y=false from U0 ω];decide)];exact stay h.G h.Y rfl rfl rfl Iff.rfl jn2
 rw[CB b];unfold jstep;by_cases A:h.Y.b1=0
 ·rw[CB A]
  have n:=jn0 A;simp only;unfold fk;by_cases B:refd h.G=true
  ·rw[CB B]
   simp only[Bool.false_eq_true,if_false];rw[CB (show over {h.Y with b1:=5} = true from O0 (.inr rfl))];refine CI.ended w a d n (λ_ _=>rfl) (λp E=>⟨E,rfl⟩) λq i=>(a.m1 q i).2.2 A
  rw[C9 B];simp only[if_true];rw[C9 (by rw[show over {h.Y with b1:=1} = false from U0 (by show ¬((1:Int)=4\/(1:Int)=5);decide)];decide)];have D:∀o f c,qB h o f c->qB (hJ h (jB (bZ h.G) h.Y.W.a0 1) {h.Y with b1:=1}) o f c:=λo f c=>yR (prot 1 (.inl rfl))
  refine⟨⟨λf c F K=>?_,λ_ c g=>?_,λ_=>a.jd d,λ_=>a.jc d,λ_=>⟨λe=>absurd e (by show ¬(1:Int)=0;decide),λe=>absurd e (by show ¬(1:Int)=2;decide)⟩,λq i=>?_,λ_ _=>?_⟩,wE w rfl (prot 1 (.inl rfl)) λ_ _ _ _ _=>rfl⟩
  ·rcases a.z f c F K with⟨o,P,Q⟩|⟨-,-,G⟩
   ·exact .inl ⟨o,P,D o f c Q⟩
   rw[n]at G;cases G
  ·change (c:Int)∈h.Y.W.S.take h.Y.a.toNat at g
   rw[n]at g;cases g
  ·refine⟨rfl,?_,by show ¬(1:Int)=0;decide⟩
   show(q:Int)=h.Y.W.a0;refine Classical.byContradiction λS=>?_
   have y:(nth (jB (bZ h.G) h.Y.W.a0 1).F.Q.J q).j=1:=i;have:=GO (t:=(jB (bZ h.G) h.Y.W.a0 1).F.Q) (q:=q) (by rw[y];decide);rw[sO (k:=bZ h.G) C.mm,C9 S]at this;rw[<-this]at y;obtain⟨a1,a2,T⟩:=lz (t:=tbl h) (p:=(q:Int)) (by show(ac h.G.F.Q q).j≠0;have:(ac h.G.F.Q q).j=1:=y;rw[this];decide);have r:(ac (tbl h) q).j=1:=y;rw[T]at r;exact(a.m1 _ r).2.2 A
  show(ac (jB (bZ h.G) h.Y.W.a0 1).F.Q h.Y.W.a0).j=1;rw[sO (k:=bZ h.G) C.mm,CB rfl]
 rw[C9 A];by_cases U:h.Y.b1=1
 ·rw[CB U]
  by_cases V:h.Y.a=h.Y.W.S.length
  ·rw[CB V]
   simp only;rw[C9 (by rw[show over {h.Y with b1:=2} = false from U0 (by show ¬((2:Int)=4\/(2:Int)=5);decide)];decide)];exact stay h.G {h.Y with b1:=2} rfl rfl rfl ⟨λe=>absurd e (by show ¬(2:Int)=0;decide),λe=>absurd e A⟩ λ_=>V
  rw[C9 V];simp only;rw[C9 (by rw[show over {h.Y with a:=h.Y.a+1} = false from U0 (by show ¬(h.Y.b1=4\/h.Y.b1=5);omega)];decide)];exact CI.copied w l a d C U ω
 rw[C9 U];by_cases W:h.Y.b1=2
 ·rw[CB W]
  simp only;cases B:(qV h.G h.Y.W.a0 h.Y.W.a2).2 with
  | false=>
   simp only[Bool.false_eq_true,if_false];rw[C9 (by rw[show over {h.Y with b1:=3} = false from U0 (by show ¬((3:Int)=4\/(3:Int)=5);decide)];decide)];rw[HR B];exact stay (bZ h.G) {h.Y with b1:=3} rfl rfl rfl ⟨λe=>absurd e (by show ¬(3:Int)=0;decide),λe=>absurd e A⟩ λe=>absurd e (by show ¬(3:Int)=2;decide)
  | true=>
   rw[CB rfl];rw[CB (show over {h.Y with b1:=4} = true from O0 (.inl rfl))];exact CI.meshed w l a d C (jn2 W) (by unfold jmay at b;simp only[I0,C0]at b;exact b.1.2) B
 rw[C9 W];have Y:h.Y.b1=3:=ω
 rw[CB Y];by_cases X:0<h.Y.a
 ·rw[CB X]
  simp only;rw[C9 (by rw[show over {h.Y with a:=h.Y.a - 1} = false from U0 (by show ¬(h.Y.b1=4\/h.Y.b1=5);omega)];decide)];exact CI.undone w l a d C Y X
 rw[C9 X];have n:h.Y.a=0:=ω
 simp only;unfold fk;by_cases B:refd h.G=true
 ·rw[CB B]
  simp only[Bool.false_eq_true,if_false];rw[C9 (by rw[show over {h.Y with b1:=3} = false from U0 (by show ¬((3:Int)=4\/(3:Int)=5);decide)];decide)];exact stay (bZ h.G) {h.Y with b1:=3} rfl rfl rfl ⟨λe=>absurd e (by show ¬(3:Int)=0;decide),λe=>absurd e A⟩ λe=>absurd e (by show ¬(3:Int)=2;decide)
 rw[C9 B];simp only[if_true];rw[CB (show over {h.Y with b1:=5} = true from O0 (.inr rfl))];refine CI.ended w a d n (λ_ _=>rfl) (prot 2 (.inr rfl)) λq i=>?_
 have:=GO (t:=(jB (bZ h.G) h.Y.W.a0 2).F.Q) (q:=q) (by rw[i];decide);rw[sO (k:=bZ h.G) C.mm]at this;by_cases e:(q:Int)=h.Y.W.a0
 ·rw[CB e]at this
  rw[<-this]at i;exact absurd i (by show ¬(2:Int)=1;decide)
 rw[C9 e]at this;rw[<-this]at i;obtain⟨a1,a2,T⟩:=lz (t:=tbl h) (p:=(q:Int)) (by have:(ac (tbl h) q).j=1:=i;rw[this];decide);have r:(ac (tbl h) q).j=1:=i;rw[T]at r;exact e (by have:=(a.m1 _ r).2.1;omega)
def Bz{s:ax}{n c:Nat} : (c:Int)∈tp s n↔c<n/\rE s c=true:=by
 unfold tp;simp only[O4,U4,List.mem_range];constructor
 ·rintro⟨a,⟨b,d⟩,e⟩
  have:a=c:=ω
  subst this;exact⟨b,d⟩
 rintro⟨b,d⟩;exact⟨c,⟨b,d⟩,rfl⟩
def PI{a b:ax}(c:meshable a b=true){i:Int}(h:aU a.b2 i=true):aU b.b2 i=false:=by
 unfold meshable at c;simp only[I0,C0]at c;obtain⟨-,-,-,d⟩:=c;rw[<-U5];intro e;have f:=(eB _ _).1 h;have g:=(eB _ _).1 e;have:=X0 (λn=>Nat.testBit n i.toNat) d;simp only[Nat.testBit_and,Nat.zero_testBit]at this;rw[f.2.2.2,g.2.2.2]at this;cases this
def Kj{h:ab}{E:List Int}(a:aY h E){s u:ax}(b:s∈h.K)(c:u∈h.K)(e:s.R=u.R):s=u:=by
 obtain⟨i,d,rfl⟩:=aL b;obtain⟨j,g,rfl⟩:=aL c;rw[cM (f:=(·.R)) a.L.nd d g e]
def CI.begun{h:ab}{E:List Int}(B:aY h E)(C:CI h)(D:h.o=false){a b:ax}(F:a∈h.K)(G:b∈h.K)(l:meshable a b=true)(sd:Int):CI {h with c0:=sd,o:=true,Y:=sY (cX a b)}:=by
 have n:∃x∈h.K,∃y∈h.K,(cX a b).a2=x.R/\(cX a b).a0=y.R/\(cX a b).S=tp y 16/\meshable x y=true:=by
  unfold cX;split
  ·exact⟨b,G,a,F,rfl,rfl,rfl,by rw[io];exact l⟩
  exact⟨a,F,b,G,rfl,rfl,rfl,l⟩
 obtain⟨x,M,y,N,H,J,r,d⟩:=n;generalize cX a b=p at H J r;have ecl:x.d=y.d:=by
  unfold meshable at d;simp only[I0,C0]at d;exact d.2.1
 refine⟨λf c g O=>?_,λ_ c j=>absurd j (by show ¬(c:Int)∈p.S.take (0:Int).toNat;simp),λ_ s t n c g j=>?_,λ_ s t n c g u=>?_,λ_=>⟨λ_=>rfl,λe=>absurd e (by show ¬(0:Int)=2;decide)⟩,λq P=>?_,λ_ e=>absurd rfl e⟩
 ·rcases C.z f c g O with⟨o,Q,w⟩|⟨K,-⟩
  ·exact .inl ⟨o,Q,w⟩
  rw[D]at K;cases K
 ·have k:=Kj B t M (n.trans H)
  subst k;have i:(c:Int)∈p.S:=j;rw[r]at i;have A:=(Bz.1 i).2;unfold rE at A;rw[<-ecl]at A;rw[io]at d;exact PI d A
 ·have k:=Kj B t N (n.trans J)
  subst k;show(c:Int)∈p.S;rw[r];exact Bz.2 ⟨g,u⟩
 have L:=(C.m1 q P).1;rw[D]at L;cases L
def CI.started{h:ab}(f:aY h [])(a:CI h)(j:h.o=false):CI (started h).1/\Kp h (started h).1:=by
 have g:=f.nums;unfold cj at g;rw[C0]at g;have d:=lF (bi h) (show 0<=h.c0/\h.c0<=1073741823 by omega);cases e:iX (bi h) h.c0 with
 | nil=>
  have c:Ab.started h=({h with c0:=(shuf (bi h).length h.c0).2},false):=by unfold Ab.started;rw[e]
  rw[c];exact⟨⟨a.z,a.jv,a.jd,a.jc,a.jn,a.m1,a.m2⟩,CY h⟩
 | cons q n=>
  obtain⟨o,p,k⟩:=d q (by rw[e];exact W1 ..);have c:Ab.started h=({h with c0:=(shuf (bi h).length h.c0).2,o:=true,Y:=sY (cX (nth (bi h) q.A.toNat) (nth (bi h) q.B.toNat))},true):=by unfold Ab.started;rw[e]
  rw[c];have b:∀s∈bi h,s∈h.K:=λs l=>ni h (C3 _) s (List.mem_of_mem_take l)
  exact⟨CI.begun f a j (b _ (am (xs:=bi h) (i:=q.A.toNat) ω)) (b _ (am (xs:=bi h) (i:=q.B.toNat) ω)) k _,CY h⟩
def Re(k:af)(a:Int)(f c:Nat):∀m,cl (zK k a m) f c=cl k f c\/(cl (zK k a m) f c=0/\∃j:Nat,j<m/\f=cU k (a+j)/\c=((a+j) % 16).toNat)
 | 0=>.inl rfl
 | m+1=>by
  have e:cU (zK k a m) (a+m)=cU k (a+m):=by unfold cU;rw[(ov k a m).1]
  rcases rV (zK k a m) (a+m) 0 f c with g|⟨b,h,d⟩
  ·rcases Re k a f c m with i|⟨b,j,h,d⟩
   ·exact .inl (g.trans i)
   exact .inr ⟨g.trans b,j,ω,d⟩
  exact .inr ⟨b,m,ω,by rw[<-e];exact h,d⟩
def E8{k:af}(h:ay k=true){a:Int} : ∀{m:Nat},(∀j:Nat,j<m->(ac k.F.Q ((a+j) / 16)).j≠0)->∀j:Nat,j<m->cl (zK k a m) (cU k (a+j)) ((a+j) % 16).toNat=0
 | 0,_,_,c=>absurd c (Nat.not_lt_zero _)
 | m+1,d,j,c=>by
  have f:=Na h (a:=a) (m:=m) λj c=>d j ω
  have i:=(ov k a m).1;have e:∀b,cU (zK k a m) b=cU k b:=λb=>by unfold cU;rw[i]
  rcases rV (zK k a m) (a+m) 0 (cU k (a+j)) ((a+j) % 16).toNat with g|⟨l,-⟩
  ·by_cases n:j=m
   ·subst n
    have:=AW f (a:=a+j) (v:=0) (by rw[i];exact d j ω);rw[e]at this;exact this
   exact g.trans (E8 h (λj c=>d j ω) j ω)
  exact l
def Bc{h:ab}{E:List Int}(a:aY h E){o:bt}(e:o∈h.O){k:Nat}(b:k<h.M.length)(n:o.Addr=16*(nth h.M k).R):o.u=(nth h.M k).u:=by
 have f:=aO (a.L.lok _ (am b));rcases a.oow _ e with⟨s,g,c,-⟩|⟨l,d,p,i⟩
 ·exact absurd (show s.R=(nth h.M k).R+((0:Nat):Int) by have:=c.1;have:=c.2.1;omega) (a.L.dis s g _ (am b) 0 ω)
 obtain⟨m,j,rfl⟩:=aL d;have:=a.L.one m k j b 0 0 (by have:=aO (a.L.lok _ d);omega) ω ω;subst this;exact i.symm
def sR{α:Type}[Inhabited α]{xs:List α}{i:Nat}{y z:α}(c:i<xs.length):z∈xs.set i y↔z=y\/∃j,j<xs.length/\j≠i/\nth xs j=z:=by
 refine⟨eE,?_⟩
 rintro(rfl|⟨j,d,b,rfl⟩)
 ·have a:=am (xs:=xs.set i z) (i:=i) (by rw[U1];exact c)
  rw[bz,CB ⟨rfl,c⟩]at a;exact a
 have a:=am (xs:=xs.set i y) (i:=j) (by rw[U1];exact d);rw[bz,C9 (λx=>b x.1.symm)]at a;exact a
def CI.trimH{h:ab}{i k:Nat}{size:Int}(l:aY h [])(hc:CI h)(V:i<h.O.length)(r:k<h.M.length)(W:(nth h.O i).Addr=16*(nth h.M k).R)(hz:9<=size/\size<=(nth h.M k).u):CI (trimH h i k size)/\∀o∈h.O,∀j:Int,0<=j->j<o.u->(o=nth h.O i->j<size)->fe (trimH h i k size).G (o.Addr+j)=fe h.G (o.Addr+j):=by
 obtain⟨b1,b2⟩:=uv l r;have M:=l.L.lok _ (am r);have hlp:=aO M;have hsz:=Bc l (am V) r W;have h8:=M;unfold bJ at h8;rw[C0]at h8;have N:ay (kF h k size)=true:=yu l r hz (C3 _);have D:(kF h k size).F.Q=h.G.F.Q:=(ov h.G _ _).1;have hN:((dE (nth h.M k) size:Nat):Int)=(nth h.M k).a4 - (size+15) / 16:=by unfold dE;omega
 have hte:((tbl h).J.length:Int)=(h.G.F.Q.J.length:Int):=rfl;have kl:=KL.unmN N (p:=(nth h.M k).R+(size+15) / 16) ω (dE (nth h.M k) size) (by rw[D];omega);have ker:=jh N ((nth h.M k).R+(size+15) / 16) (dE (nth h.M k) size);have A:=(fV (kF h k size) ((nth h.M k).R+(size+15) / 16) (dE (nth h.M k) size)).1;have hcz:=Re h.G (16*(nth h.M k).R+size);have hca:=E8 l.ker (a:=16*(nth h.M k).R+size) (m:=(16*((size+15) / 16) - size).toNat) λj O=>jX l r ⟨ω,ω⟩
 have E:(Ab.trimH h i k size).G=unmN (kF h k size) ((nth h.M k).R+(size+15) / 16) (dE (nth h.M k) size):=rfl;have F:(Ab.trimH h i k size).O=h.O.set i {nth h.O i with u:=size}:=rfl;have P:(Ab.trimH h i k size).K=h.K:=rfl;have Q:(Ab.trimH h i k size).Y=h.Y:=rfl;have R:(Ab.trimH h i k size).o=h.o:=rfl;generalize Ab.trimH h i k size=h' at E F P Q R |-;have G:∀f c,cl (kF h k size) f c=cl h.G f c\/(cl (kF h k size) f c=0/\∃b:Int,16*(nth h.M k).R+size<=b/\b<16*((nth h.M k).R+(size+15) / 16)/\At h.G b f c):=λf c=>by
  rcases hcz f c (16*((size+15) / 16) - size).toNat with g|⟨g,j,w,B,j3⟩
  ·exact .inl g
  refine .inr ⟨g,16*(nth h.M k).R+size+j,ω,ω,?_⟩;have:=At.mk' l.ker (jX l r (a:=16*(nth h.M k).R+size+j) ⟨ω,ω⟩);rw[B,j3];exact this
 have hzv:∀(f c:Nat)(b:Int),16*(nth h.M k).R+size<=b->b<16*((nth h.M k).R+(size+15) / 16)->At h.G b f c->cl (kF h k size) f c=0:=λf c b H X d=>by
  have:=hca (b - (16*(nth h.M k).R+size)).toNat ω;rw[show 16*(nth h.M k).R+size+((b - (16*(nth h.M k).R+size)).toNat:Nat)=b by omega]at this;have e:=At.mk' l.ker d.m;obtain⟨u1,u2⟩:=e.uniq d;rw[u1,u2]at this;exact this
 have pout:∀q:Int,¬((nth h.M k).R+(size+15) / 16<=q/\q<(nth h.M k).R+(nth h.M k).a4)->ac h'.G.F.Q q=ac h.G.F.Q q:=λq Y=>by
  rw[E,kl.out q ω,D]
 rw[<-E]at kl ker A;generalize kF h k size=kz at *;have onL:∀b:Int,16*(nth h.M k).R<=b->b<16*((nth h.M k).R+(nth h.M k).a4)->∀f c:Nat,At h.G b f c->NV h (nth h.O i).Addr f c:=λb H X f c d=>.inr ⟨_,am r,W,b,H,X,d⟩
 have only:∀o∈h.O,∀f c:Nat,qB h o f c->NV h (nth h.O i).Addr f c->o=nth h.O i:=λo t f c H X=>by
  have e:=wH l (jO l t H) X;obtain⟨m,lm,rfl⟩:=aL t;rw[cM (f:=(·.Addr)) (dq l.osr) lm V e]
 have noS:∀s∈h.K,¬((nth h.M k).R<=s.R/\s.R<(nth h.M k).R+(nth h.M k).a4):=λs J hr=>l.L.dis s J _ (am r) (s.R - (nth h.M k).R).toNat ω ω
 have same:∀f c:Nat,cl h'.G f c≠0->cl h.G f c=cl h'.G f c:=λf c C=>by
  rcases kl.cel f c with e|e
  ·rcases G f c with g|⟨g,-⟩
   ·rw[e,g]
   exact absurd (e.trans g) C
  exact absurd e.1 C
 have stay:∀o∈h.O,∀j:Int,0<=j->j<o.u->(o=nth h.O i->j<size)->∀f c:Nat,At h.G (o.Addr+j) f c->At h'.G (o.Addr+j) f c/\cl h'.G f c=cl h.G f c:=λo t j w B O f c d=>by
  have y:qB h o f c:=⟨j,w,B,d⟩
  have n:ac h'.G.F.Q ((o.Addr+j) / 16)=ac h.G.F.Q ((o.Addr+j) / 16):=by
   refine pout _ λZ=>?_
   have e:=only o t f c y (onL _ ω ω f c d);have:=O e;rw[e,W]at Z;omega
  have u:At h'.G (o.Addr+j) f c:=⟨by rw[n];exact d.m,by rw[n];exact d.f,d.c⟩
  refine⟨u,?_⟩;rcases kl.cel f c with e|⟨-,e⟩
  ·rcases G f c with g|⟨-,b,g1,g2,S⟩
   ·rw[e,g]
   exfalso;have eo:=only o t f c y (onL b ω ω f c S);have hjs:=O eo;have Y:=mi l (am r) (b:=b) ω ω S d.m d.f;have c1:=d.c;have c2:=S.c;rw[eo,W]at Y c1;omega
  exact absurd u.f (e _ u.m)
 refine⟨hc.keep Q R (λq Y=>?_) (λhm=>?_) (λf c _ C=>.inl (same f c C)) (λo t f c h16 y C=>?_) (λhm c _=>?_) (λ_ s' hs' _=>⟨s',by rw[<-P];exact hs',rfl,rfl,λ_ h=>h⟩),λo t j w B O=>?_⟩
 ·have hq':(nth h'.G.F.Q.J q).j=1:=Y
  have:=kl.md A q ω;rw[D]at this;show(nth h.G.F.Q.J q).j=1;rw[<-this];exact hq'
 ·obtain⟨-,⟨a,ha,T⟩,b,hb,eb⟩:=l.job hm
  exact⟨pout _ λZ=>noS a ha ω,pout _ λZ=>noS b hb ω⟩
 ·obtain⟨j,w,B,d⟩:=y
  by_cases e:o=nth h.O i/\size<=j
  ·exfalso
   obtain⟨e,ej⟩:=e;subst e;by_cases ej2:j<16*((size+15) / 16)
   ·have:=hzv f c ((nth h.O i).Addr+j) ω ω d
    rcases kl.cel f c with g|g
    ·exact C (g.trans this)
    exact C g.1
   refine C (pd ker (λp K hf=>?_) c);by_cases er:(nth h.M k).R+(size+15) / 16<=p/\p<(nth h.M k).R+(nth h.M k).a4
   ·exact K (kl.ins p er.1 ω)
   rw[pout p er]at K hf;have:=mi l (am r) (b:=(nth h.O i).Addr+j) ω ω d K hf;omega
  have st:=stay o t j w B (λU=>by have:¬size<=j:=λx=>e ⟨U,x⟩;omega) f c d;by_cases U:o=nth h.O i
  ·refine⟨{nth h.O i with u:=size},by rw[F];exact(sR V).2 (.inl rfl),j,w,?_,?_⟩
   ·have:¬size<=j:=λx=>e ⟨U,x⟩
    show j<size;omega
   have H:=st.1;rw[U]at H;exact H
  refine⟨o,?_,j,w,B,st.1⟩;rw[F];obtain⟨m,lm,rfl⟩:=aL t;exact(sR V).2 (.inr ⟨m,lm,λx=>U (by rw[x]),rfl⟩)
 ·have key:∀s∈h.K,cl h'.G (b8 h.G s.R) c=cl h.G (b8 h.G s.R) c:=λs J=>by
   have n:(ac (tbl h) s.R).j≠0:=by rw[l.pe J];exact(l.mapped J).2.2
   rcases kl.cel (b8 h.G s.R) c with e|⟨-,e⟩
   ·rcases G (b8 h.G s.R) c with g|⟨-,b,g1,g2,S⟩
    ·rw[e,g]
    have:=mi l (am r) (b:=b) ω ω S (q:=s.R) n (lQ l.ker n);exact absurd (show(nth h.M k).R<=s.R/\s.R<(nth h.M k).R+(nth h.M k).a4 by omega) (noS s J)
   have K:=pout s.R λZ=>noS s J ω
   refine absurd ?_ (e s.R (by rw[K];exact n));rw[K];exact lQ l.ker n
  obtain⟨-,⟨a,ha,T⟩,b,hb,eb⟩:=l.job hm;rw[<-T,<-eb];exact⟨key a ha,key b hb⟩
 have d:=At.mk' l.ker (cQ l t (k:=j) ⟨w,ω⟩).1;obtain⟨s1,s2⟩:=stay o t j w B O _ _ d;rw[s1.cell,d.cell,s2]
def Gl{α:Type}[Inhabited α](n j:Nat)(y:α):nth (List.replicate n y) j=y\/nth (List.replicate n y) j=default:=by
 by_cases h:j<n
 ·exact .inl (cT h)
 right
 unfold nth;rw[W2,U2 (by rw[X3];omega)];rfl
def CI.newHeap(p f t:Nat)(lim:Int)(a:List Int):CI (newHeap p f t lim a):=by
 refine⟨λg c b d=>absurd ?_ d,λe=>(by cases e),λe=>(by cases e),λe=>(by cases e),λe=>(by cases e),λq h=>absurd h ?_,λe=>(by cases e)⟩
 ·show nth (nth (List.replicate f (List.replicate 16 (0:Int))) g) c=0
  rcases Gl f g (List.replicate 16 (0:Int)) with e|e<;>rw[e]
  ·exact AN _ _
  rfl
 show ¬(nth (List.replicate p (⟨0,0⟩ : bh)) q).j=1;rcases Gl p q (⟨0,0⟩ : bh) with e|e<;>rw[e]
 ·decide
 decide
def iB(k:af)(o:bt):bD:=⟨o.Id,cellsOf k o.Addr o.u.toNat⟩
structure RS(w:bp):Prop where
 nx:w.b5.a=w.Z.a
 asc:w.b5.O.Pairwise λa b=>a.Id<b.Id
 mem:∀y,y∈w.b5.O↔∃o∈w.Z.O,y=iB w.Z.G o
def mA{k b:af}{a:Int}{n:Nat}(h:∀j:Int,0<=j->j<n->fe b (a+j)=fe k (a+j)):cellsOf b a n=cellsOf k a n:=by
 unfold cellsOf;refine List.map_congr_left λj c=>?_
 have:=List.mem_range.1 c;exact h j ω ω
def gh{k a:af}{o:bt}(h:∀j:Int,0<=j->j<o.u->fe a (o.Addr+j)=fe k (o.Addr+j)):iB a o=iB k o:=by
 unfold iB;rw[mA λj b c=>h j b ω]
def Rv{α:Type}[Inhabited α]{R:α->α->Prop}{xs:List α}(h:xs.Pairwise R){i j:Nat}(a:i<j)(b:j<xs.length):R (nth xs i) (nth xs j):=by
 have:=List.pairwise_iff_getElem.1 h i j ω b a;rw[show nth xs i=xs[i] from bm (I2 ω),show nth xs j=xs[j] from bm (I2 b)];exact this
def RS.at{w:bp}(b:RS w){o:bt}(c:o∈w.Z.O):∃j:Nat,j<w.b5.O.length/\oN w.b5 o.Id=(j:Nat)/\nth w.b5.O j=iB w.Z.G o:=by
 obtain⟨j,a,e⟩:=aL ((b.mem _).2 ⟨o,c,rfl⟩);refine⟨j,a,dI (ao a) (O0 (by rw[e];rfl)) λm z d f=>U0 ?_,e⟩;have g:=Rv b.asc d a;rw[bm f,e]at g;have h:(iB w.Z.G o).Id=o.Id:=rfl;omega
def RS.lt{w:bp}(a:RS w)(b:aY w.Z []):∀y∈w.b5.O,1<=y.Id/\y.Id<w.b5.a:=λy c=>by
 obtain⟨o,d,rfl⟩:=(a.mem y).1 c;have:=b.onu o d;rw[a.nx];show 1<=o.Id/\o.Id<w.Z.a;omega
def RS.keep{w:bp}(b:RS w){h':ab}(d:h'.O=w.Z.O)(c:Kp w.Z h')(e:h'.a=w.Z.a):RS ⟨h',w.b5⟩:=by
 refine⟨b.nx.trans e.symm,b.asc,λy=>(b.mem y).trans ?_⟩;show _↔∃o∈h'.O,y=iB h'.G o
 constructor
 ·rintro⟨o,f,rfl⟩
  have a:o∈h'.O:=by rw[d];exact f
  exact⟨o,a,(gh (c o a).2).symm⟩
 rintro⟨o,a,rfl⟩
 exact⟨o,(c o a).1,gh (c o a).2⟩
def RS.alloc{w:bp}(e:RS w)(i:aY w.Z []){h':ab}{x:bt}(d:RQ w.Z h' x)(k:x.Id=w.Z.a)(g:h'.a=w.Z.a+1)(l:1<=x.u/\x.u<=1000):RS ⟨h',je w.b5 x.u⟩:=by
 unfold je;rw[CB l];have h:iB h'.G x = ⟨w.b5.a,List.replicate x.u.toNat 0⟩:=by
  unfold iB;rw[k,e.nx]
  congr 1
  refine List.eq_replicate_iff.2 ⟨gR ..,λb f=>?_⟩;unfold cellsOf at f;obtain⟨j,n,rfl⟩:=O4.1 f;have:=List.mem_range.1 n;exact d.ze j ω ω
 refine⟨by show w.b5.a+1=h'.a;rw[g,e.nx],?_,λy=>?_⟩
 ·refine List.pairwise_append.2 ⟨e.asc,List.pairwise_singleton _ _,λa p b f=>?_⟩
  rw[O1.1 f];exact(e.lt i a p).2
 show y∈w.b5.O++[_]↔∃o∈h'.O,y=iB h'.G o
 rw[z3,O1,e.mem];constructor
 ·rintro(⟨o,c,rfl⟩|rfl)
  ·exact⟨o,(d.mem o).2 (.inr c),(gh (d.ke o c)).symm⟩
  exact⟨x,(d.mem x).2 (.inl rfl),h.symm⟩
 rintro⟨o,c,rfl⟩
 rcases(d.mem o).1 c with rfl|c
 ·exact .inr h
 exact .inl ⟨o,c,gh (d.ke o c)⟩
def RS.free{w:bp}(a:RS w)(p:aY w.Z []){i:Nat}(h:i<w.Z.O.length){h':ab}(k:h'.O=dele w.Z.O i)(l:Kp w.Z h')(r:h'.a=w.Z.a):RS ⟨h',jV w.b5 (nth w.Z.O i).Id⟩:=by
 obtain⟨j,t,u,n⟩:=a.at (am h);unfold jV;rw[u,C9 ω];simp only[X2];refine⟨a.nx.trans r.symm,a.asc.sublist (fQ _ _),λy=>?_⟩;show y∈dele w.b5.O j↔∃o∈h'.O,y=iB h'.G o
 rw[db];constructor
 ·rintro⟨m,c,A,rfl⟩
  obtain⟨o,d,e⟩:=(a.mem _).1 (am c);have b:o∈h'.O:=by
   rw[k];obtain⟨q,g,rfl⟩:=aL d;refine db.2 ⟨q,g,λx=>A ?_,rfl⟩;subst x;exact cM (f:=(·.Id)) (dq a.asc) c t (by rw[e,n])
  exact⟨o,b,e.trans (gh (l o b).2).symm⟩
 rintro⟨o,b,rfl⟩
 obtain⟨d,B⟩:=l o b;rw[gh B];obtain⟨m,c,e⟩:=aL ((a.mem _).2 ⟨o,d,rfl⟩);refine⟨m,c,λx=>?_,e⟩;subst x;rw[k]at b;obtain⟨q,g,C,rfl⟩:=db.1 b;exact C (cM (f:=(·.Id)) p.oid g h (X0 bD.Id (e.symm.trans n)))
def RS.upd{w:bp}(d:RS w)(A:aY w.Z []){i:Nat}(B:i<w.Z.O.length){h':ab}{x':bt}(C:x'.Id=(nth w.Z.O i).Id)(k:∀o,o∈h'.O↔o=x'\/∃m,m<w.Z.O.length/\m≠i/\nth w.Z.O m=o)(t:∀m,m<w.Z.O.length->m≠i->iB h'.G (nth w.Z.O m)=iB w.Z.G (nth w.Z.O m))(D:h'.a=w.Z.a){j:Nat}(l:j<w.b5.O.length)(n:nth w.b5.O j=iB w.Z.G (nth w.Z.O i)):RS ⟨h',{w.b5 with O:=w.b5.O.set j (iB h'.G x')}⟩:=by
 refine⟨d.nx.trans D.symm,?_,λy=>?_⟩
 ·have u:(w.b5.O.map (·.Id)).Pairwise (λa b=>a<b):=List.pairwise_map.2 d.asc
  rw[<-kQ (f:=(·.Id)) (y:=iB h'.G x') l (by rw[n];exact C)]at u;exact List.pairwise_map.1 u
 show y∈w.b5.O.set j _↔∃o∈h'.O,y=iB h'.G o
 rw[sR l];constructor
 ·rintro(rfl|⟨m,h,p,rfl⟩)
  ·exact⟨x',(k x').2 (.inl rfl),rfl⟩
  obtain⟨o,r,e⟩:=(d.mem _).1 (am h);obtain⟨q,c,rfl⟩:=aL r;have g:q≠i:=λx=>p (by subst x;exact cM (f:=(·.Id)) (dq d.asc) h l (by rw[e,n]))
  exact⟨_,(k _).2 (.inr ⟨q,c,g,rfl⟩),e.trans (t q c g).symm⟩
 rintro⟨o,r,rfl⟩
 rcases(k o).1 r with rfl|⟨q,c,g,rfl⟩
 ·exact .inl rfl
 rw[t q c g];obtain⟨m,h,e⟩:=aL ((d.mem _).2 ⟨_,am c,rfl⟩);refine .inr ⟨m,h,λx=>g ?_,e⟩;subst x;exact cM (f:=(·.Id)) A.oid c B (X0 bD.Id (e.symm.trans n))
def RS.store{w:bp}(l:RS w)(g:aY w.Z [])(h:JI w.Z)(n:CI w.Z){i:Nat}(a:i<w.Z.O.length){j v:Int}(p:0<=j/\j<=(nth w.Z.O i).u - 1)(r:0<=v/\v<=999)(t:(ac (tbl w.Z) (((nth w.Z.O i).Addr+j) / 16)).j≠1):RS ⟨{w.Z with G:=dL w.Z.G ((nth w.Z.O i).Addr+j) v},eK w.b5 (nth w.Z.O i).Id j v⟩:=by
 obtain⟨-,d⟩:=CI.store (v:=v) g h n a p t;obtain⟨b,u,A,k⟩:=l.at (am a);have B:(nth w.b5.O b).S.length=(nth w.Z.O i).u.toNat:=by rw[k];exact gR ..
 have C:eK w.b5 (nth w.Z.O i).Id j v = {w.b5 with O:=w.b5.O.set b ⟨(nth w.b5.O b).Id,(nth w.b5.O b).S.set j.toNat v⟩}:=by
  unfold eK;rw[A];simp only[X2];rw[CB ⟨ω,ω,r⟩]
 have D:(⟨(nth w.b5.O b).Id,(nth w.b5.O b).S.set j.toNat v⟩ : bD)=iB (dL w.Z.G ((nth w.Z.O i).Addr+j) v) (nth w.Z.O i):=by
  rw[k];unfold iB;simp only
  congr 1
  refine List.ext_getElem (by simp[cellsOf]) λq K E=>?_
  rw[gR]at E;rw[List.getElem_set];simp only[cellsOf,List.getElem_map,List.getElem_range];have:=d _ (am a) q ω ω;rw[this];by_cases e:j.toNat=q
  ·rw[CB e,CB ⟨rfl,ω⟩]
  rw[C9 e,C9 (λx=>e ω)]
 rw[C,D];refine RS.upd l g a (h':={w.Z with G:=dL w.Z.G ((nth w.Z.O i).Addr+j) v}) rfl (λo=>?_) (λm c F=>?_) rfl u k
 ·show o∈w.Z.O↔_
  constructor
  ·intro G
   obtain⟨m,c,rfl⟩:=aL G;by_cases e:m=i
   ·subst e;exact .inl rfl
   exact .inr ⟨m,c,e,rfl⟩
  rintro(rfl|⟨m,c,-,rfl⟩)
  ·exact am a
  exact am c
 refine gh λx H J=>?_
 show fe (dL w.Z.G _ v) _=_;rw[d _ (am c) x H J,C9 (λy=>F (cM (f:=(·.Addr)) (dq g.osr) c a (by rw[y.1])))]
def En(k:af)(a:Int){n m:Nat}(h:m<=n):(cellsOf k a n).take m=cellsOf k a m:=by
 unfold cellsOf;rw[<-C4,List.take_range,Nat.min_eq_left h]
def RS.trim{w:bp}(g:RS w)(d:aY w.Z [])(p:CI w.Z){i k:Nat}{size:Int}(a:i<w.Z.O.length)(h:k<w.Z.M.length)(l:(nth w.Z.O i).Addr=16*(nth w.Z.M k).R)(q:9<=size/\size<=(nth w.Z.M k).u):RS ⟨trimH w.Z i k size,fK w.b5 (nth w.Z.O i).Id size⟩:=by
 obtain⟨-,c⟩:=CI.trimH d p a h l q;have r:=Bc d (am a) h l;obtain⟨b,t,u,e⟩:=g.at (am a);have A:(nth w.b5.O b).S.length=(nth w.Z.O i).u.toNat:=by rw[e];exact gR ..
 have B:fK w.b5 (nth w.Z.O i).Id size = {w.b5 with O:=w.b5.O.set b ⟨(nth w.b5.O b).Id,(nth w.b5.O b).S.take size.toNat⟩}:=by
  unfold fK;rw[u];simp only[X2];rw[CB ⟨ω,ω,ω⟩]
 have C:(⟨(nth w.b5.O b).Id,(nth w.b5.O b).S.take size.toNat⟩ : bD)=iB (trimH w.Z i k size).G {nth w.Z.O i with u:=size}:=by
  rw[e];unfold iB;simp only;rw[En _ _ ω]
  congr 1
  refine(mA λj D H=>?_).symm;exact c _ (am a) j D ω λ_=>ω
 rw[B,C];refine RS.upd g d a (h':=trimH w.Z i k size) (x':={nth w.Z.O i with u:=size}) rfl (λo=>sR a) (λm n E=>?_) rfl t e;refine gh λx F G=>c _ (am n) x F G λy=>absurd (cM (f:=(·.Addr)) (dq d.osr) n a (by rw[y])) E
def FH(h:ab)(i:Nat)(a:Int):(freeS h i a).a=h.a:=by unfold freeS;split<;>rfl
def LW(t:Nat)(h:ab)(a:Int):(recyc t h a).a=h.a:=by
 unfold recyc;split
 ·rfl
 exact FH h (ux h a) a
def uP(t:Nat):∀(az:List Int)(h:ab),(recycs t h az).a=h.a
 | [],_=>rfl
 | a::az,h=>(uP t az (recyc t h a)).trans (LW t h a)
def uO:∀(az:List Int)(h:ab),(freeAs h az).a=h.a
 | [],_=>rfl
 | a::az,h=>(uO az (freeA h a)).trans (FH h (ux h a) a)
def AA(t:Nat)(h:ab):∀k,(flushN t h k).1.a=h.a/\(flushN t h k).1.O=h.O
 | 0=>⟨rfl,rfl⟩
 | k+1=>by
  obtain⟨a,b⟩:=AA t h k;exact⟨(uO _ _).trans a,(gd _ _).2.1.trans b⟩
def Gz(h:ab)(t i:Nat):(EL h t i).a=h.a/\(EL h t i).O=dele h.O i:=⟨uP _ _ _,(f8 _ _ _).2.1⟩
def H6(h:ab)(t i:Nat):(freeT h t i).1.a=h.a/\(((freeT h t i).2=0/\(freeT h t i).1.O=dele h.O i)\/((freeT h t i).2=5/\(freeT h t i).1=h)):=by
 unfold freeT
 repeat' split
 ·exact⟨rfl,.inl ⟨rfl,rfl⟩⟩
 ·exact⟨rfl,.inr ⟨rfl,rfl⟩⟩
 ·exact⟨(Gz h t i).1,.inl ⟨rfl,(Gz h t i).2⟩⟩
 ·exact⟨rfl,.inl ⟨rfl,rfl⟩⟩
 exact⟨rfl,.inr ⟨rfl,rfl⟩⟩
def H4(h:ab):∀n,(stN h n).1.a=h.a/\(stN h n).1.O=h.O
 | 0=>⟨rfl,rfl⟩
 | n+1=>by
  obtain⟨a,b⟩:=H4 h n;unfold stN;split
  ·exact⟨a,b⟩
  exact⟨a,b⟩
def CI.stN{h:ab}(a:aY h [])(b:JI h)(c:CI h):∀n,CI (stN h n).1/\Kp h (stN h n).1
 | 0=>⟨c,CY h⟩
 | n+1=>by
  obtain⟨g,i⟩:=uo a b n;obtain⟨d,f⟩:=CI.stN a b c n;unfold Ab.stN;split
  ·rename_i e
   unfold tn at e;rw[I0]at e;obtain⟨j,k⟩:=CI.mStep g i d e.1;exact⟨j,f.trans k⟩
  exact⟨d,f⟩
def nU(h:ab):(started h).1.a=h.a/\(started h).1.O=h.O:=by
 unfold started;split<;>exact⟨rfl,rfl⟩
structure CW(w:bp):Prop where
 ci:CI w.Z
 rs:RS w
def CW.keep{w:bp}(h:CW w){g:ab}(a:CI g/\Kp w.Z g)(b:g.O=w.Z.O)(c:g.a=w.Z.a):CW ⟨g,w.b5⟩:=⟨a.1,h.rs.keep b a.2 c⟩
def CW.obj{w:bp}{m:Nat}(h:rX w m)(c:CW w)(a:eL){i:Nat}(b:i<w.Z.O.length):CW (m9 w a i).1:=by
 unfold m9;split
 ·unfold qj
  split
  ·exact c
  split
  ·rename_i q
   unfold om at q;have l:=CI.freeT (t:=a.a5.toNat) h.inv h.ji c.ci b ω;obtain⟨r,u⟩:=H6 w.Z a.a5.toNat i;refine⟨l.1,?_⟩;show RS ⟨(freeT w.Z a.a5.toNat i).1,if _ then _ else _⟩;rcases u with⟨f,d⟩|⟨f,d⟩
   ·rw[CB f];exact c.rs.free h.inv b d l.2 r
   rw[C9 (by rw[f];decide),d];exact c.rs
  exact c
 split
 ·unfold ng
  split
  ·exact c
  rename_i g;split
  ·exact c
  rename_i n;split
  ·exact c
  rename_i j;have g:=Classical.not_not.1 g;have j:=Classical.not_not.1 j;exact⟨(CI.store h.inv h.ji c.ci b g n).1,RS.store c.rs h.inv h.ji c.ci b g j n⟩
 unfold pY;split
 ·rename_i e
  obtain⟨-,f,d⟩:=e;obtain⟨o,y,A⟩:=fY _ _ f;have k:=of_decide_eq_true y;have p:=k.symm.trans (Int.mul_comm _ _);exact⟨(CI.trimH h.inv c.ci b o p d).1,RS.trim c.rs h.inv c.ci b o p d⟩
 exact c
def CW.thread{w:bp}{m:Nat}(h:rX w m)(c:CW w)(a:eL):CW ⟨(fS w.Z a).1,w.b5⟩:=by
 have b:=c.ci;unfold fS;split
 ·split
  ·exact CW.keep (g:={w.Z with y:=gj w.Z.y a.a5.toNat}) c ⟨⟨b.z,b.jv,b.jd,b.jc,b.jn,b.m1,b.m2⟩,CY w.Z⟩ rfl rfl
  exact c
 split
 ·exact c
 rename_i e;have e:=Classical.not_not.1 e;obtain⟨-,i⟩:=e;unfold om at i;split
 ·exact c.keep (CI.collect (t:=a.a5.toNat) h.inv b ω) (f8 _ _ _).2.1 (uP _ _ _)
 have j:a.a5.toNat<w.Z.T.length:=ω
 have f:=CI.flushN h.inv j b (C3 4);have d:=AA a.a5.toNat w.Z 4;generalize flushN a.a5.toNat w.Z 4=r at f d |-;exact CW.keep (g:=r.1) c f d.2 d.1
def CW.act{w:bp}{m:Nat}(h:rX w m)(c:CW w)(a:eL):CW (mn w a).1:=by
 unfold mn;split
 ·have b:=CI.allocH (t:=a.a5) (size:=a.N) h.inv h.ji c.ci
  refine⟨b.ci,?_⟩;show RS ⟨(allocH w.Z a.a5 a.N).1,if _ then _ else _⟩;split
  ·rename_i e
   obtain⟨d,f,g,i,-⟩:=b.yes e;exact RS.alloc (x:=⟨w.Z.a,(allocH w.Z a.a5 a.N).2.1,a.N,a.a5⟩) c.rs h.inv d rfl f ⟨g,i⟩
  rename_i e;obtain⟨j,k,l,-⟩:=b.no e;exact c.rs.keep j k l
 split
 ·split
  ·exact c
  rename_i e;exact c.obj h a (fY _ _ (by unfold qR at e;omega)).1
 split
 ·exact c.thread h a
 split
 ·unfold nA
  split
  ·rename_i e
   exact c.keep (CI.tick h.inv c.ci e.2.1.1 e.2.2) (gd _ _).2.1 (uO _ _)
  exact c
 split
 ·unfold nZ
  split
  ·exact c
  rename_i e;exact c.keep (CI.started h.inv c.ci (by simpa using e)) (nU _).2 (nU _).1
 split
 ·exact c.keep (CI.stN h.inv h.ji c.ci _) (H4 _ _).2 (H4 _ _).1
 exact c
def LG(c:cH):CW (world0 c):=⟨CI.newHeap ..,rfl,List.Pairwise.nil,λy=>⟨λh=>(by cases h),λ⟨_,h,_⟩=>(by cases h)⟩⟩
def MC{c:cH}(h:Fa c)(acts:List eL):∀n,CW (zj c acts n).1
 | 0=>LG c
 | n+1=>(MC h acts n).act (u6 h acts n) _
def Fw(zs:List Int):CW (drawn zs):=MC (p6 (W0 _)).1 _ _
def sm{α:Type}(f:α->Int):List α->Int
 | []=>0
 | a::l=>f a+sm f l
def fil(f:Nat->Bool)(n:Nat):Nat:=((List.range n).filter f).length
def jg(f:Nat->Bool)(n:Nat):fil f (n+1)=fil f n+if f n=true then 1 else 0:=by
 unfold fil;rw[List.range_succ,List.filter_append,O3];cases e:f n<;>simp[e]
def NS{f g:Nat->Bool} : ∀n,(∀p,p<n->¬(f p=true/\g p=true))->fil (λp=>f p || g p) n=fil f n+fil g n
 | 0,_=>rfl
 | n+1,h=>by
  rw[jg,jg,jg,NS n λp c=>h p ω];have:=h n ω;cases a:f n<;>cases b:g n<;>simp[a,b]at this |-<;>omega
def BO{f g:Nat->Bool} : ∀n,(∀p,p<n->f p=g p)->fil f n=fil g n
 | 0,_=>rfl
 | n+1,h=>by rw[jg,jg,BO n λp a=>h p ω,h n ω]
def BP(a l:Nat):∀n,fil (λp=>decide (a<=p)&&decide (p<a+l)) n=min n (a+l) - min n a
 | 0=>by simp[fil]
 | n+1=>by
  rw[jg,BP a l n];by_cases b:a<=n<;>by_cases c:n<a+l<;>simp[b,c]<;>omega
def JB{f:Nat->Bool} : ∀n,fil (λp=>!f p) n+fil f n=n
 | 0=>rfl
 | n+1=>by
  have:=JB (f:=f) n;rw[jg,jg];cases f n<;>simp<;>omega
def NL(xs:List aA)(p:Nat):Bool:=xs.any λr=>decide (r.At<=(p:Nat))&&decide (((p:Nat):Int)<r.At+r.b0)
def DA{xs:List aA}{p:Nat} : NL xs p=true↔RH xs p:=by
 unfold NL RH;rw[t4];constructor
 ·rintro⟨r,a,h⟩
  rw[I0,C0,C0]at h;exact⟨r,a,h⟩
 rintro⟨r,a,h⟩
 exact⟨r,a,by rw[I0,C0,C0];exact h⟩
def Mj:∀(xs:List aA)(n:Nat),xs.Pairwise (λr u=>r.At+r.b0<u.At)->(∀r∈xs,0<=r.At/\1<=r.b0/\r.At+r.b0<=n)->((fil (NL xs) n:Nat):Int)=sm (·.b0) xs
 | [],n,_,_=>by
  have:fil (NL []) n=fil (λp=>decide (0<=p)&&decide (p<0+0)) n:=BO n λp _=>by simp[NL]
  rw[this,BP];simp[sm]
 | r::xs,n,g,c=>by
  obtain⟨h,i⟩:=List.pairwise_cons.1 g;have d:=c r (W1 ..);obtain⟨a,j⟩:=Z2 d.1;obtain⟨l,f⟩:=Z2 (show 0<=r.b0 by omega);have e:fil (NL (r::xs)) n=fil (λp=>(decide (a<=p)&&decide (p<a+l)) || NL xs p) n:=BO n λp _=>by
   unfold NL;rw[List.any_cons]
   congr 1
   rw[j,f]
   congr 1
   ·exact decide_eq_decide.2 ω
   exact decide_eq_decide.2 ω
  rw[e,NS n λp k o=>?_,BP]
  ·have q:=Mj xs n i λu b=>c u (O5 _ b)
   simp only[sm];rw[<-q,f];have:=d.2.2;omega
  obtain⟨t,w⟩:=o;rw[I0,C0,C0]at t;obtain⟨u,b,y,A⟩:=DA.1 w;have:=h u b;omega
def HE(t:aG):dl t=((fil (λp=>decide ((nth t.J p).j≠0)) t.J.length:Nat):Int):=by
 have h:∀n,sX ce t.J n=((fil (λp=>decide ((nth t.J p).j≠0)) n:Nat):Int):=λn=>by
  induction n with
  | zero=>rfl
  | succ n a=>
   rw[jg];show sX ce t.J n+ce (nth t.J n)=_;rw[a];unfold ce;by_cases e:(nth t.J n).j=0<;>simp[e]
 exact h _
def vM{h:ab}(a:aY h []):dl (tbl h)=eQ h - sm (·.b0) h.q:=by
 obtain⟨b,c,i,j⟩:=fG.1 a.rng;have e:=Mj h.q (tbl h).J.length b.1 c;have d:fil (λp=>decide ((nth (tbl h).J p).j≠0)) (tbl h).J.length=fil (λp=>!NL h.q p) (tbl h).J.length:=BO _ λp g=>by
  have:=a.pg.fre p g;cases e:NL h.q p with
  | true=>exact U0 λx=>this.1 x (DA.1 e)
  | false=>exact O0 (this.2 λx=>by rw[DA.2 x]at e;cases e)
 have k:=JB (f:=NL h.q) (tbl h).J.length;rw[HE,d];show _=((tbl h).J.length:Int) - _;omega
set_option maxHeartbeats 2000000
def cells1(xs:List Int)(i:Nat)(h:i<xs.length):[rI .X (nth xs i)]=((xs.map (rI .X)).take (i+1)).drop i:=by
 rw[List.drop_take,<-I4,jb h,show i+1 - i=1 by omega]
 rfl
def Dh(k:af)(j:cn)(c:ay k=true)(D:j9 j=true):ar Tryz.prog 293 false [.val (some 5) (af.enc .X k),.val (some 5) (cn.enc .X j)] (.tup [some 5,some 5]) (af.enc .own (dU k j).1++cn.enc .own (dU k j).2):=by
 obtain⟨F,Y,Z,Q,j6⟩:=cK.1 D;have R:=lD F;have y:=bk c;have g:=iD k y;have l:=sU j (va D);have b:=kO k y;rw[c,Bool.and_true]at b;have o:=zf j (va D);rw[D]at o;have d:=ge k j.W.a2 y.1.2;have p:=ge k j.W.a0 y.1.2;have r:=dD k.F.Q j.W.a2 y.1.2;have t:=dD k.F.Q j.W.a0 y.1.2;have L:=(br.1 (a8.1 c).2.2.1).2.2;have S:=(aS.1 (a8.1 c).2.1).2.2.1;have q:jmay k j=false->dU k j=(k,j):=λe=>by unfold dU;rw[e];rfl
 refine fO 149 [(1,262,[11,12,13,14,15,16,0,1,2,3,4,5,6,1003,1004,1005,7]),(2,6,[17,18,19,20,8,9]),(3,33,[21,22,23,24,25,26,27,28,29,30,31,32,33,34,35,36,37,38,39,40,41,42,43,44,45,46,47,48,49,50,51,52,53]),(4,258,[56,57,0,1,2,1001,3]),(15,272,[82,83,84,85,86,87,88,89,90,91,92,93,94,81,95,96,0,1,2,3,4,5,6,7,8,9,10,11,12,13,14,15,16,1015]),(25,273,[123,124,125,126,127,128,129,130,131,132,133,134,135,122,136,137,138,0,1,2,3,4,5,6,7,8,9,10,11,12,13,14,15,16,17,1015]),(29,258,[147,148,0,1,2,1001,3])] Tryz.func293 rfl ?_ (.inr (aI (Cb _) (cn.enc_fr _)));by_cases u:k.Calls=100000
 ·rw[U0 (λn=>n u)]at b
  rw[q (by rw[<-U5,gU];exact λh=>h.1.2 u)]
  repeat'(first|refine gP ?_|(conv=>whnf);first|refine CC ?_|refine C8 (g) ?_|refine C8 (l) ?_|refine C8 (b) ?_|refine CC ?_)
  rfl
 rw[O0 u]at b;by_cases B:(ac k.F.Q j.W.a2).j=0
 ·rw[U0 (λn=>n B)]at d
  rw[q (by rw[<-U5,gU];exact λh=>h.2.2.1 B)]
  repeat'(first|refine gP ?_|(conv=>whnf);first|refine CC ?_|refine C8 (g) ?_|refine C8 (l) ?_|refine C8 (b) ?_|refine C8 (o) ?_|refine C8 (d) ?_|refine CC ?_)
  rfl
 rw[O0 B]at d;by_cases w:(ac k.F.Q j.W.a0).j=0
 ·rw[U0 (λn=>n w)]at p
  rw[q (by rw[<-U5,gU];exact λh=>h.2.2.2.1 w)]
  repeat'(first|refine gP ?_|(conv=>whnf);first|refine CC ?_|refine C8 (g) ?_|refine C8 (l) ?_|refine C8 (b) ?_|refine C8 (o) ?_|refine C8 (d) ?_|refine C8 (p) ?_|refine CC ?_)
  rfl
 rw[O0 w]at p;by_cases G:(ac k.F.Q j.W.a2).e=(ac k.F.Q j.W.a0).e
 ·rw[q (by rw[<-U5,gU];exact λh=>h.2.2.2.2 G)]
  repeat'(first|refine gB ?_|(conv=>whnf);first|refine CC ?_|refine C8 (g) ?_|refine C8 (l) ?_|refine C8 (b) ?_|refine C8 (o) ?_|refine C8 (d) ?_|refine C8 (p) ?_|refine C8 (r) ?_|refine C8 (t) ?_|refine CC ?_)
  rfl
 have T:jmay k j=true:=gU.2 ⟨⟨c,u⟩,D,B,w,G⟩;rw[show dU k j=jstep k j by unfold dU;rw[T];rfl];have H:j.W.a0≠j.W.a2:=λe=>G (by rw[e])
 unfold jstep;by_cases M:j.b1=0
 ·rw[CB M]
  have a:=qG k j.W.a0 1 c u w (.inl rfl);cases e:(fk k j.W.a0 1).2<;>rw[e]at a
  all_goals
   repeat'(first|refine gB ?_|(conv=>whnf);first|refine CC ?_|refine C8 (g) ?_|refine C8 (l) ?_|refine C8 (b) ?_|refine C8 (o) ?_|refine C8 (d) ?_|refine C8 (p) ?_|refine C8 (r) ?_|refine C8 (t) ?_|refine C8 (a) ?_|refine CC ?_)
   rfl
 rw[C9 M];by_cases N:j.b1=1
 ·rw[CB N]
  by_cases E:j.a=j.W.S.length
  ·rw[CB E]
   repeat'(first|refine gB ?_|(conv=>whnf);first|refine CC ?_|refine C8 (g) ?_|refine C8 (l) ?_|refine C8 (b) ?_|refine C8 (o) ?_|refine C8 (d) ?_|refine C8 (p) ?_|refine C8 (r) ?_|refine C8 (t) ?_|refine CC ?_)
   rfl
  rw[C9 E];obtain⟨n,C⟩:=Z2 Q;have a:=GJ k j.W.a0 j.W.a2 (nth j.W.S j.a.toNat) c u w B (fx F ω);rw[C,X2]at a;have J:n<j.W.S.length:=ω
  rw[show nth j.W.S j.a.toNat=nth j.W.S n by rw[C];rfl]
  repeat'(first|refine gB ?_|(conv=>whnf);refine Sl.mid (rows':=[rI .X (nth j.W.S n)]) n (n+1) C ω ω (by rw[C1];omega) (aP λ_=>rfl) (cells1 _ _ J) ?_)
  rfl
 rw[C9 N];by_cases O:j.b1=2
 ·rw[CB O]
  have a:=Fu k j.W.a0 j.W.a2 c u w B H;cases e:(qV k j.W.a0 j.W.a2).2<;>rw[e]at a
  all_goals
   repeat'(first|refine gB ?_|(conv=>whnf);first|refine CC ?_|refine C8 (g) ?_|refine C8 (l) ?_|refine C8 (b) ?_|refine C8 (o) ?_|refine C8 (d) ?_|refine C8 (p) ?_|refine C8 (r) ?_|refine C8 (t) ?_|refine C8 (a) ?_|refine CC ?_)
   rfl
 rw[C9 O];by_cases K:j.b1=3
 ·rw[CB K]
  obtain⟨p1,p2,p3,U,p5⟩:=bI c B;by_cases E:0<j.a
  ·rw[CB E]
   have P:=fx F (i:=(j.a - 1).toNat) ω;have V:=ao (xs:=j.W.S) (i:=(j.a - 1).toNat) ω;have W:0<=j.W.a2*16+nth j.W.S (j.a - 1).toNat/\j.W.a2*16+nth j.W.S (j.a - 1).toNat<512:=ω
   have X:(j.W.a2*16+nth j.W.S (j.a - 1).toNat) / 16=j.W.a2:=ω
   have a:=GH k.F (j.W.a2*16+nth j.W.S (j.a - 1).toNat) 0 (mL c) y.1 W ω (λ_=>by rw[X];exact⟨U,ω,row16 c (f:=b8 k j.W.a2) (by unfold b8;omega)⟩);generalize (fI k.F (j.W.a2*16+nth j.W.S (j.a - 1).toNat) 0).1=m at a |-;generalize (fI k.F (j.W.a2*16+nth j.W.S (j.a - 1).toNat) 0).2=e at a
   repeat'(first|refine gB ?_|(conv=>whnf);refine CM ω (aa V) ?_)
   rfl
  rw[C9 E];have a:=qG k j.W.a0 2 c u w (.inr rfl);cases e:(fk k j.W.a0 2).2<;>rw[e]at a
  all_goals
   repeat'(first|refine gB ?_|(conv=>whnf);first|refine CC ?_|refine C8 (g) ?_|refine C8 (l) ?_|refine C8 (b) ?_|refine C8 (o) ?_|refine C8 (d) ?_|refine C8 (p) ?_|refine C8 (r) ?_|refine C8 (t) ?_|refine C8 (a) ?_|refine CC ?_)
   first|rfl|(rw[<-K];rfl)
 rw[C9 K]
 repeat'(first|refine gB ?_|(conv=>whnf);first|refine CC ?_|refine C8 (g) ?_|refine C8 (l) ?_|refine C8 (b) ?_|refine C8 (o) ?_|refine C8 (d) ?_|refine C8 (p) ?_|refine C8 (r) ?_|refine C8 (t) ?_|refine CC ?_)
 rfl
def T6(h:ab):Int:=(dU h.G h.Y).2.b1
def zk(h:ab)(l:aY h [])(n:h.o=true)(o:ab.sml h)(t:h.G.Calls<=99000):ar Tryz.prog 131 false [.val (some 24) (ab.enc .X h)] (.tup [some 24,none,none]) (ab.enc .own (mStep h)++[I (T6 h),B true]):=by
 obtain⟨q,-,-⟩:=l.job n;have i:=rd h o;have c:=gX h o;rw[jM,l.to]at c;have j:=Dh h.G h.Y l.ker q;have a:=aI (b:=[I (T6 h),B true]) (ab.enc_fr (mStep h)) ⟨trivial,trivial,trivial⟩;unfold T6 mStep at a |-;generalize dU h.G h.Y=r at j a |-;have d:(ab.enc .X h)=(ab.enc .X h).set 18 (B true):=by rw[<-n];rfl
 rw[d];rw[d]at i c;by_cases e:r.2.b1=4
 ·rw[CB (show over r.2=true from O0 (.inl e)),CB (show over r.2=true from O0 (.inl e))]at a |-
  refine fO 51 [(3,260,[23,24,25,26,0,1,2,3,4,1001,1002,1003,5,6])] Tryz.func131 rfl ?_ (.inr a)
  repeat'((conv=>whnf);first|with_reducible (first|refine dF ω (λg=>?_)|refine eT ω (λg=>?_)|refine Bn ?_|refine jG.wk rfl ?_)|refine Bt ?_|refine Bu ?_|refine C8 (i) ?_|refine C8 (c) ?_|refine C8 (j) ?_)
  rw[e];exact wC
 by_cases k:r.2.b1=5
 ·rw[CB (show over r.2=true from O0 (.inr k)),CB (show over r.2=true from O0 (.inr k))]at a |-
  refine fO 51 [(3,260,[23,24,25,26,0,1,2,3,4,1001,1002,1003,5,6])] Tryz.func131 rfl ?_ (.inr a)
  repeat'((conv=>whnf);first|with_reducible (first|refine dF ω (λg=>?_)|refine eT ω (λg=>?_)|refine eF ω (λg=>?_)|refine Bn ?_|refine jG.wk rfl ?_)|refine Bt ?_|refine Bu ?_|refine C8 (i) ?_|refine C8 (c) ?_|refine C8 (j) ?_)
  rw[k];exact wC
 have p:¬over r.2=true:=by unfold over;simp[e,k]
 rw[C9 p,C9 p]at a |-;refine fO 51 [(3,260,[23,24,25,26,0,1,2,3,4,1001,1002,1003,5,6])] Tryz.func131 rfl ?_ (.inr a)
 repeat'(first|refine gB ?_|(conv=>whnf);first|refine CC ?_|refine C8 (i) ?_|refine C8 (c) ?_|refine C8 (j) ?_|refine CC ?_)
 rw[n]
 rfl
def KC{h:ab}{i:Nat}(a:(eS h i).1.o=true):eS h (i+1)=(mStep (eS h i).1,lC (eS h i).1):=by
 show(if(eS h i).1.o=true then _ else _)=_;rw[CB a]
def mH(f:aV)(h:f.a3.length<=32):0<=cF f/\cF f<=32:=by
 have a:∀n:Nat,0<=gI f.a3 n/\gI f.a3 n<=n:=λn=>by
  induction n with
  | zero=>exact⟨v5 _,v5 _⟩
  | succ n b=>simp only[gI];split<;>omega
 have:=a f.a3.length;unfold cF;split<;>omega
def B5{a:List Bool}{j:Nat}(d:nth a j=true):∀n,n<=a.length->gI (a.set j false) n=gI a n - (if j<n then 1 else 0)
 | 0,_=>by rw[C9 ω];rfl
 | n+1,h=>by
  have c:=B5 d n ω;by_cases e:j=n
  ·subst e
   rw[p8 (by rw[bz,CB ⟨rfl,ω⟩]),mR d,c,C9 ω,CB ω];omega
  have f:nth (a.set j false) n=nth a n:=by rw[bz,C9 (λx=>e x.1)]
  cases b:nth a n with
  | true=>
   rw[mR (f.trans b),mR b,c];split<;>split<;>omega
  | false=>
   rw[p8 (f.trans b),p8 b,c];split<;>split<;>omega
def J6{k:af}(a:ay k=true):cF k.F.V=gI k.F.V.a3 k.F.V.a3.length:=by
 unfold cF;rw[CB (a8.1 a).2.1]
def xc{h:ab}(w:aY h [])(b:JI h)(j:h.o=true):(dU h.G h.Y).1.F.V.a3=if lC h=true then h.G.F.V.a3.set (b8 h.G h.Y.W.a0) false else h.G.F.V.a3:=by
 have c:=JP.of w b j;have D:=b.ph j;unfold lC dU;by_cases a:jmay h.G h.Y=true;rotate_left
 ·rw[C9 a,C9 (by simp only[C0];omega)]
 rw[CB a];unfold jstep;by_cases y:h.Y.b1=0
 ·rw[CB y]
  have l:decide ((if(fk h.G h.Y.W.a0 1).2=true then(1:Int) else 5)=4)=false:=by split<;>decide
  show(fk h.G h.Y.W.a0 1).1.F.V.a3=if decide ((if(fk h.G h.Y.W.a0 1).2=true then(1:Int) else 5)=4)=true then _ else _
  rw[l,C9 (by decide)];unfold fk;split<;>rfl
 rw[C9 y];by_cases A:h.Y.b1=1
 ·rw[CB A]
  split
  ·rw[C9 (by simp)]
  rw[C9 (by simp only[C0];omega)];rfl
 rw[C9 A];by_cases B:h.Y.b1=2
 ·rw[CB B]
  simp only;have C:h.G.Calls≠100000:=by unfold jmay at a;simp only[I0,C0]at a;exact a.1.2
  cases d:(qV h.G h.Y.W.a0 h.Y.W.a2).2 with
  | false=>
   rw[C9 (by simp),HR d];rfl
  | true=>
   rw[CB (by simp)];have f:=D4 w.ker (p:=h.Y.W.a0) (o:=h.Y.W.a2) c.mm d;unfold qV at d |-;by_cases e:refd h.G=true
   ·rw[CB e]at d;cases d
   rw[C9 e];simp only;obtain⟨L,M,E⟩:=lz c.mm;obtain⟨N,O,G⟩:=lz c.km;have H:(nth h.G.F.Q.J h.Y.W.a0.toNat).e=(b8 h.G h.Y.W.a0:Nat):=by
    rw[show nth h.G.F.Q.J h.Y.W.a0.toNat=nth (tbl h).J h.Y.W.a0.toNat from rfl,<-E];exact c.mf
   have J:(nth h.G.F.Q.J h.Y.W.a2.toNat).e=(b8 h.G h.Y.W.a2:Nat):=by
    rw[show nth h.G.F.Q.J h.Y.W.a2.toNat=nth (tbl h).J h.Y.W.a2.toNat from rfl,<-G];exact c.kf
   unfold gg;rw[CB ?_]
   ·show h.G.F.V.a3.set _ false=_
    rw[H,X2]
   refine Classical.byContradiction λn=>?_
   obtain⟨q,P,r,g⟩:=dK.1 (Nat.pos_of_ne_zero n);have i:=(f q).2;unfold qV at i;rw[C9 e]at i;simp only at i;have t:∀(k:af)(F:Int),(gg k F).F.Q=k.F.Q:=λk F=>by unfold gg;split<;>rfl
   rw[t]at i;rw[i]at r g;by_cases u:(q:Int)=h.Y.W.a0
   ·rw[CB u]at g
    have Q:(nth h.G.F.Q.J h.Y.W.a2.toNat).e=(nth h.G.F.Q.J h.Y.W.a0.toNat).e:=g;exact c.ne ω
   rw[C9 u]at r g;exact u (b.sm j q r g)
 rw[C9 B];have K:h.Y.b1=3:=ω
 rw[CB K];split
 ·rw[C9 (by simp only[C0];omega)]
  simp only;unfold fI
  repeat' split
  all_goals rfl
 have l:decide ((if(fk h.G h.Y.W.a0 2).2=true then(5:Int) else 3)=4)=false:=by split<;>decide
 show(fk h.G h.Y.W.a0 2).1.F.V.a3=if decide ((if(fk h.G h.Y.W.a0 2).2=true then(5:Int) else 3)=4)=true then _ else _
 rw[l,C9 (by decide)];unfold fk;split<;>rfl
def He{h:ab}(b:aY h [])(a:JI h)(c:h.o=true):cF (mStep h).G.F.V=cF h.G.F.V - ((lC h).toNat:Nat):=by
 obtain⟨d,-⟩:=b.mStep a c;have f:=JP.of b a c;rw[J6 d.ker,J6 b.ker];have e:=xc b a c;have g:(mStep h).G=(dU h.G h.Y).1:=rfl;rw[g,e];cases j:lC h with
 | false=>rw[C9 (by simp)];show _=_ - ((0:Nat):Int);omega
 | true=>
  obtain⟨k,i,-⟩:=gn b.ker (p:=h.Y.W.a0) f.mm;obtain⟨-,l,n,-⟩:=aS.1 (a8.1 b.ker).2.1;rw[CB rfl,U1,B5 i _ (C3 _),CB ω]
  rfl
structure MX(h g:ab)(n:Nat):Prop where
 inv:aY g []
 ji:JI g
 ci:CI g
 kp:Kp h g
 ob:g.O=h.O
 nx:g.a=h.a
 fr:g.q=h.q
 pg:eQ g=eQ h
 rf:g.G.w=h.G.w
 ca:g.T=h.T
 ml:g.y=h.y
 us:cF g.G.F.V=cF h.G.F.V - n
 ul:g.G.F.V.a3.length=h.G.F.V.a3.length
def MX.refl{h:ab}(b:aY h [])(a:JI h)(c:CI h):MX h h 0:=⟨b,a,c,CY h,rfl,rfl,rfl,rfl,rfl,rfl,rfl,ω,rfl⟩
def MX.trans{h h1 c:ab}{n m:Nat}(a:MX h h1 n)(b:MX h1 c m):MX h c (n+m):=
 ⟨b.inv,b.ji,b.ci,a.kp.trans b.kp,b.ob.trans a.ob,b.nx.trans a.nx,b.fr.trans a.fr,b.pg.trans a.pg,b.rf.trans a.rf,b.ca.trans a.ca,b.ml.trans a.ml,by rw[b.us,a.us];omega,b.ul.trans a.ul⟩
def MX.step{h:ab}(b:aY h [])(a:JI h)(d:CI h)(c:h.o=true):MX h (mStep h) (lC h).toNat:=by
 obtain⟨e,f⟩:=b.mStep a c;obtain⟨g,i⟩:=CI.mStep b a d c;have s:=JS.of b c;exact⟨e,f,g,i,rfl,rfl,rfl,s.len,s.calls.2.2,rfl,rfl,He b a c,by
   show(dU h.G h.Y).1.F.V.a3.length=_;rw[xc b a c];split<;>simp⟩
def BH(h:ab):(started h).1.G=h.G/\(started h).1.q=h.q/\(started h).1.T=h.T/\(started h).1.y=h.y:=by
 unfold started;split<;>exact⟨rfl,rfl,rfl,rfl⟩
def MX.started{h:ab}(b:aY h [])(d:CI h)(c:h.o=false):MX h (started h).1 0:=by
 obtain⟨e,f⟩:=ya b c;obtain⟨g,i⟩:=CI.started b d c;obtain⟨a,j,k,l⟩:=BH h;exact⟨e,f,g,i,(nU h).2,(nU h).1,j,by unfold eQ;rw[a],by rw[a],k,l,by rw[a];omega,by rw[a]⟩
def MX.meshSt{h:ab}(b:aY h [])(a:JI h)(c:CI h):MX h (meshSt h).1 0:=by
 unfold Ab.meshSt;split
 ·rename_i e;exact MX.started b c e.1
 exact MX.refl b a c
def Ja{h:ab}(b:aY h [])(a:JI h)(c:CI h):∀n,MX h (eS h n).1 (eS h n).2.toNat/\((eS h n).2=true->(eS h n).1.o=false)
 | 0=>⟨MX.refl b a c,λe=>(by cases e)⟩
 | n+1=>by
  obtain⟨s,d⟩:=Ja b a c n;unfold eS;split
  ·rename_i e
   have g:(eS h n).2=false:=by
    cases i:(eS h n).2 with
    | false=>rfl
    | true=>rw[d i]at e;cases e
   rw[g]at s;have t:=MX.step s.inv s.ji s.ci e;have f:=s.trans t;simp only[Bool.toNat_false,Z6]at f;refine⟨f,λj=>?_⟩;exact(og s.inv e).2.2.2.2.1 j
  exact⟨s,d⟩
def Py{h:ab}(b:aY h [])(a:JI h)(c:CI h):MX h (fin h).1 (fin h).2.toNat:=by
 unfold fin;exact(Ja b a c 100).1
def Jr{h:ab}(b:aY h [])(a:JI h)(c:CI h):∀n,MX h (iW h n).1 (iW h n).2
 | 0=>by
  have e:iW h 0=((fin h).1,(fin h).2.toNat):=rfl;rw[e];exact Py b a c
 | n+1=>by
  have s:=Jr b a c n;have t:=MX.meshSt s.inv s.ji s.ci;have d:=s.trans t;unfold iW;split
  ·exact d.trans (Py t.inv t.ji t.ci)
  exact d
def FG{h g:ab}(b:Kp h g)(a:g.O=h.O){k:Nat}(c:k<h.O.length):fT g k=fT h k:=by
 unfold fT;rw[a];have d:nth h.O k∈g.O:=by rw[a];exact am c
 exact mA λj e f=>(b _ d).2 j e ω
def Lr{h g:ab}(a:aY h [])(b:aY g [])(c:g.q=h.q)(d:eQ g=eQ h):dl (tbl g)=dl (tbl h):=by
 rw[vM a,vM b,c,d]
def HQ(h:ab)(t n:Int):cls (allocH h t n).1<=cls h+63:=by
 have a:cls h<=cls h+63:=ω
 unfold allocH;split
 ·exact a
 split
 ·exact a
 split
 ·exact a
 rename_i c;split
 ·exact a
 split
 ·have:=Lu h t.toNat (aJ n).toNat
  split
  ·show cls (smallA h t.toNat (aJ n).toNat).1<=_;omega
  show cls (smallA h t.toNat (aJ n).toNat).1<=_;omega
 have d:(gZ n:Int)<=63:=by unfold gZ;omega
 unfold largeA;split
 ·exact a
 have b:=Gf h.G (au h.q (gZ n:Nat)).2.1 (gZ n);unfold cls;split
 ·exact t5 b ω
 exact t5 (z5 (lh _ _ _).1) (t5 b ω)
def Jy{h:ab}(a:aY h [])(b:JI h):∀n:Nat,cls (stN h n).1<=cls h+n
 | 0=>by show cls h<=cls h+((0:Nat):Int);omega
 | n+1=>by
  obtain⟨c,f⟩:=uo a b n;have d:=Jy a b n;unfold stN;split
  ·rename_i e
   unfold tn at e;rw[I0,C0]at e;have:=(og c e.1).2.1;unfold cls at d |-;simp only;omega
  omega
def KP{w:bp}{m:Nat}(h:rX w m)(a:eL):cls (mn w a).1.Z<=cls w.Z+63:=by
 have b:cls w.Z<=cls w.Z+63:=ω
 unfold mn;split
 ·exact HQ _ _ _
 split
 ·split
  ·exact b
  unfold m9;split
  ·unfold qj
   split
   ·exact b
   split
   ·exact t5 (z5 (M3 _ _ _)) b
   exact b
  split
  ·unfold ng
   split
   ·exact b
   split
   ·exact b
   split<;>exact b
  unfold pY;split
  ·exact t5 (z5 (((lh _ _ _).1).trans (ov _ _ _).2.1)) b
  exact b
 split
 ·unfold fS
  split
  ·split<;>exact b
  split
  ·exact b
  split
  ·exact t5 (z5 (f8 _ _ _).2.2.1) b
  exact t5 (z5 (Br _ _ _)) b
 split
 ·unfold nA
  split
  ·exact t5 (z5 (gd _ _).2.2.1) b
  exact b
 split
 ·unfold nZ
  split
  ·exact b
  show cls (started w.Z).1<=_;unfold cls;rw[(pm h.inv).2.1];exact b
 split
 ·rename_i e
  have:=Jy h.inv h.ji a.N.toNat;show cls (stN w.Z a.N.toNat).1<=_;omega
 exact b
def JV{c:cH}(h:Fa c)(acts:List eL):∀n:Nat,cls (zj c acts n).1.Z<=63*n
 | 0=>by show(0:Int)<=63*((0:Nat):Int);decide
 | n+1=>by
  have a:=JV h acts n;have b:=KP (u6 h acts n) (nth acts n);show cls (mn (zj c acts n).1 (nth acts n)).1.Z<=_;omega
def Lx(zs:List Int):(drawn zs).Z.G.Calls<=2520/\(drawn zs).Z.a<=41:=by
 have a:(sZ zs).i<=zs.length:=W0 _;obtain⟨b,d⟩:=p6 a;have g:=bG zs (eC zs) (n:=41) (by decide);obtain⟨e,-,-⟩:=pH (zs:=zs) (c:=eC zs) d (n:=(bv zs (eC zs) 41).1.toNat) ω;have f:=JV b (l7 zs (eC zs)).1 (l7 zs (eC zs)).1.length;have h:(l7 zs (eC zs)).1.length<=40:=by
  show(lK zs (eC zs) _).1.length<=40;rw[e];omega
 have j:=(yI zs).ref.nx.2;have k:=(Fw zs).rs.nx;refine⟨?_,ω⟩;show cls (zj _ _ _).1.Z<=_;exact t5 f ω
def JD:List MA->Bool
 | []=>true
 | .ptr _::_=>false
 | _::A=>JD A
def J2:MA->MA
 | .mut ag cs=>.mut ag (List.replicate cs.length .x)
 | m=>m
def zp:Nat->List MA->List (Nat × AV)
 | _,[]=>[]
 | i,.val a cs::A=>(i,.H (jY a) cs)::zp (i+1) A
 | i,.mut a cs::A=>(i,.H (jY a) cs)::zp (i+1) A
 | i,.ptr cs::A=>(i,.H .box cs)::zp (i+1) A
def QX:MA->AV
 | .val a cs=>.H (jY a) cs
 | .mut a cs=>.H (jY a) cs
 | .ptr cs=>.H .box cs
def Tl(TE:Nat->Option TI)(c:List ResultVar)(k:Kd)(rcs:List C):Exit->(Nat->AV)->Prop:=λe F=>
 match e with
 | .normal=>resA TE F c [] λa b=>aW (g9 a) k b rcs True
 | .ret=>resA TE F c [] λa b=>aW (g9 a) k b rcs True
 | _=>False
section
variable{P:Program}{w0 w w1:World}{M S0 S:ah}{N:fC}{φ:Nat->ah}{F:Nat->AV}{a:Act}{TE:Nat->Option TI}
def Aw:∀{A:List MA}{vs:List Value}{V:Nat->ah}(i:Nat),LL w S V A vs->∀t,(lay (zp i A) t=.dead)\/(∃m v,i<=t/\vs[t - i]? = some v/\A[t - i]? = some m/\lay (zp i A) t=QX m/\po w S (V (t - i)) m v)
 | [],_,_,i,_,t=>.inl rfl
 | m::A,[],_,i,h,t=>h.elim
 | m::A,v::vs,V,i,h,t=>by
  have c:lay (zp i (m::A)) t=bif Nat.beq t i then QX m else lay (zp (i+1) A) t:=by cases m<;>rfl
  rw[c];cases a:Nat.beq t i with
  | true=>
   have:=C2 a;subst this;exact .inr ⟨m,v,C3 _,by simp,by simp,rfl,by rw[Nat.sub_self];exact h.1⟩
  | false=>
   have d:t≠i:=λe=>by subst e;rw[Nat.beq_refl]at a;cases a
   rcases Aw (i+1) h.2 t with b|⟨f,g,b,j,k,l,n⟩
   ·exact .inl b
   refine .inr ⟨f,g,ω,?_,?_,l,?_⟩
   ·rw[show t - i=(t - (i+1))+1 by omega];simpa using j
   ·rw[show t - i=(t - (i+1))+1 by omega];simpa using k
   rw[show t - i=(t - (i+1))+1 by omega];exact n
def ym{d:World}{S':ah} : ∀{A:List MA}{vs:List Value}{V:Nat->ah},JD A=true->LL w S V A vs->D6 d S' (λ_=>NO) (A.map J2) vs
 | [],[],_,_,_=>trivial
 | [],_::_,_,_,h=>h.elim
 | _::_,[],_,_,h=>h.elim
 | .ptr _::_,_::_,_,a,_=>by cases a
 | .val ag cs::A,v::vs,V,a,h=>⟨trivial,ym (A:=A) a h.2⟩
 | .mut ag cs::A,v::vs,V,a,h=>by
  refine⟨?_,ym (A:=A) a h.2⟩;obtain⟨e,f,g⟩:=bM.celF (show bM w S (V 0) ag cs v from h.1);refine⟨by rw[X3];exact e,celF v,f,λ_=>NO,λj c i=>?_,λ_ _ _ _ h=>h.elim,λ_ _ _ _ _ _ _ h=>h.elim⟩;obtain⟨b,rfl⟩:=List.getElem?_replicate.symm.trans i |> λh=>by
   rw[<-List.getElem?_replicate]at h;have b:=(O2.1 h).1;rw[X3]at b;rw[List.getElem?_replicate,CB b]at h;exact CL b (Option.some.inj h).symm
  exact .x _ _ (g.one b)
def Lk{f : Nat}{g : Func}{c : Code}{A : List MA}{k : Kd}{rcs : List C}{mo : List (Nat × List Nat)}{n : Nat}(L : ∀t i, TE t = some i -> bQ P t i)(hf : P.funcs[f]? = some g)(hn : (g.name == "runtime.NumGoroutine") = false)(B:g.body=some c){ck:Nat->Array Oper->Bool}{D:fC->Nat->Array Oper->((Nat->AV)->Prop)->(Nat->AV)->Prop}(hD:∀N,uC P N ck (D N))(hc:fU ck c=true)(hN:A.length+(g.ntmps - A.length)=n)(U:JD A=true)(W:ia rcs)(hp:aw P TE ⟨n,[],mo⟩ (D ⟨n,[],mo⟩) c (Tl TE g.results.toList k rcs) (lay (zp 0 A))):aT P f false A (A.map J2) k rcs:=by
 refine⟨⟨g,hf,hn,by rw[B];rfl⟩,λw S V p hS hV Z hA=>?_⟩;have hlen:=Ec hA;refine calls_of_wp hf B ?_;have htv:∀t v,p[t]? = some v->tvs {tmps:=p.toArray++Array.replicate (g.ntmps - p.toArray.size) undef,defers:=[]} t=v:=λt v E=>by
  have hlt:=(O2.1 E).1;simp only[tvs,W6];rw[Array.getElem?_append_left (by simpa using hlt)];simp only[List.getElem?_toArray];rw[E];rfl
 have hst:St w (λb o=>∃i,V i b o) S ⟨n,[],mo⟩ (lay (zp 0 A)) {tmps:=p.toArray++Array.replicate (g.ntmps - p.toArray.size) undef,defers:=[]} w:=by
  refine⟨S,V,λt=>?_,Z,λt b o h=>(hV t b o h).2,λt b o h=>⟨(hV t b o h).1,.inr ⟨t,h⟩⟩,λ_ _ h=>h,λb o h=>⟨hS b o h,.inl h⟩,CZ _ _,by simp;omega,rfl,λq hq=>by simp at hq⟩;rcases Aw 0 hA t with h1|⟨m,v,-,E,h2',h3,H⟩
  ·rw[h1];trivial
  rw[h3];rw[Nat.sub_zero]at E H;rw[htv t v E];cases m with
  | val y r=>exact(bM.mono (show bM w S NO y r v from H) (λ_ _ h=>h) (λ_ _ h=>h.elim)).slot
  | «mut» y r=>exact bM.slot (show bM w S (V t) y r v from H)
  | ptr r=>exact H
 refine i6 L (hD _) c hc _ _ _ _ w hp hst λe F' J d he hs'=>?_
 obtain⟨S',φ',h⟩:=hs';have fin:resA TE F' g.results.toList [] (λsh r=>aW (g9 sh) k r rcs True)->J.defers=[]/\∃v,(results g J.tmps).run P d=.ok v d/\(∃v',Ending.returned v=.returned v'/\bS (λb o=>∃i,V i b o) w d/\∃(X:ah)(K:Nat->ah)(M:ah),
     (∀b o,X b o->(∃i,V i b o)\/(b<d.heap.size/\w.heap.size<=b))/\(∀i b o,K i b o->(∃i,V i b o)\/(b<d.heap.size/\w.heap.size<=b))/\
     (∀b o,M b o->(false=true/\S b o)\/(∃i,V i b o)\/(b<d.heap.size/\w.heap.size<=b))/\
     (∀i i',i≠i'->∀b o,K i b o->¬K i' b o)/\(∀i b o,X b o->¬K i b o)/\(∀b o,X b o->¬M b o)/\(∀i b o,K i b o->¬M b o)/\
     fX d NO k rcs.length v'/\cV d M X rcs (cg d k v')/\D6 d (λb o=>S b o\/M b o) K (A.map J2) p):=by
  intro hr;obtain⟨shs,r,a,u',O,Q,u,hln,R,hcells,l,T⟩:=h.resA L hr;obtain⟨rfl,rfl,-⟩:=O.out;refine⟨h.defers,?_⟩;have G:(results g J.tmps).run P d=.ok (if h:a.toArray.size=1 then a.toArray[0] else .tuple a.toArray) d:=by
   have e:results g J.tmps=(do let p <-g.results.mapM (AK J.tmps);pure (if h:p.size=1 then p[0] else .tuple p)):=by
    unfold results
    congr 1
   rw[e,<-Array.toArray_toList (xs:=g.results),List.mapM_toArray];simp only[Sem.run_bind,Sem.run_map,Q,Result.andThen_ok,Sem.run_pure]
  have hex:∀t b o,φ' t b o->(∃i,V i b o)\/(b<d.heap.size/\w.heap.size<=b):=λt b o B=>(h.ex t b o B).2.elim (λh'=>.inr ⟨(h.ex t b o B).1,h'⟩) .inl
  refine⟨_,G,_,rfl,h.old,λb o=>∃t,t∉([]:List Nat)/\φ' t b o,λ_=>NO,NO,λb o ⟨t,_,B⟩=>hex t b o B,λ_ _ _ h=>h.elim,λ_ _ h=>h.elim,λ_ _ _ _ _ h=>h.elim,λ_ _ _ _ h=>h.elim,λ_ _ _ h=>h.elim,λ_ _ _ h=>h.elim,?_⟩;have hk:fX d NO (g9 shs) r.length (if h:a.toArray.size=1 then a.toArray[0] else .tuple a.toArray)/\cV d S' (λb o=>∃t,t∉([]:List Nat)/\φ' t b o) r (cg d (g9 shs) (if h:a.toArray.size=1 then a.toArray[0] else .tuple a.toArray)):=by
   match shs,u,l,R with
   | [],u,_,R=>
    cases a with
    | cons _ _=>exact u.elim
    | nil=>
     have:r=[]:=S7 (by simpa[oW] using R.symm);subst this;exact⟨⟨_,rfl,trivial,rfl⟩,cV.nil _ _ _ _⟩
   | [y],_,l,_=>
    obtain⟨v,rfl,hv⟩:=l y rfl;have:=hv.slot (F:=F') (tv:=tvs J);obtain⟨X1,Y,h1,E,h3,H,h5⟩:=this;refine⟨?_,h5.mono (λ_ _ h=>h) E⟩;cases y<;>exact H
   | y::ag2::sh,u,_,R=>
    have hsz:¬a.toArray.size=1:=by
     match a,u with
     | [],u=>simp
     | [v],u=>cases y<;>cases ag2<;>exact u.2.elim
     | _::_::_,_=>simp
    rw[dif_neg hsz];refine⟨⟨_,rfl,u,R⟩,T.congr λj hj=>?_⟩;simp only[cg,g9,lH,hcells];simp[List.getD,hj]
  exact⟨hk.1,(hk.2.fresh W).mono (λ_ _ h=>h.elim) (λ_ _ h=>h),ym U hA⟩
 cases e with
 | normal=>exact fin he
 | ret=>exact fin he
 | _=>exact he.elim
end
def RY{n f : Nat}{mo : List (Nat × List Nat)}{a : Func}{c : Code}{A : List MA}{k : Kd}{rcs : List C}(e : Tryz.prog.funcs[f]? = some a)(g : (a.name == "runtime.NumGoroutine") = false)(h : a.body = some c){tb : List (Nat × Nat × List Nat)}(i : fU (mJ tb) c = true)(j:A.length+(a.ntmps - A.length)=n)(b:JD A=true)(d:ia rcs)(l:aw Tryz.prog TE ⟨n,[],mo⟩ (DF Tryz.prog TE ⟨n,[],mo⟩ tb) c (Tl TE a.results.toList k rcs) (lay (zp 0 A))):aT Tryz.prog f false A (A.map J2) k rcs:=
 Lk vu e g h (λN=>oe vu nL N tb) i j b d l
def L8{w:World}{S Y:ah}{h:ab}{t:List C}{u:Nat->Value}(d:cV w S Y (ab.enc .own h++t) u):cV w S Y (kx h++t) u:=by
 obtain⟨f,b,e,g⟩:=d;refine⟨f,λj c a=>?_,e,g⟩;have i:kx h++t=(((ab.enc .own h++t).set 6 (oS h)).set 7 (oL h)).set 8 (oO h):=rfl;rw[i]at a;by_cases k:j=8
 ·subst k
  have:c=oO h:=by simpa[ab.enc] using a.symm
  rw[this];exact vb (b 8 _ rfl)
 by_cases l:j=7
 ·subst l
  have:c=oL h:=by simpa[ab.enc] using a.symm
  rw[this];exact vb (b 7 _ rfl)
 by_cases n:j=6
 ·subst n
  have:c=oS h:=by simpa[ab.enc] using a.symm
  rw[this];exact vb (b 6 _ rfl)
 rw[List.getElem?_set_ne ω,List.getElem?_set_ne ω,List.getElem?_set_ne ω]at a;exact b j c a
def ar.E{P:Program}{f:Nat}{sh:Bool}{A:List RA}{k:Kd}{h:ab}{t:List C}(c:ar P f sh A k (ab.enc .own h++t)):ar P f sh A k (kx h++t):=by
 obtain⟨a,b⟩:=c;refine⟨a,λw S d g i=>(b w S d g i).mono λe w1 j=>?_⟩;obtain⟨v,l,n,X,o,p,q,r,u,y⟩:=j;exact⟨v,l,n,X,o,p,q,r,u,L8 y⟩
def Qd{h:ab}(a:h.o=true):kx h=(kx h).set 18 (B true):=by rw[<-a];rfl
def JH{h:ab}(a:h.o=false):kx h=(kx h).set 18 (B false):=by rw[<-a];rfl
def G3(h:ab)(o:aY h [])(p:fJ h.G.w)(c:aK.sml h.y)(u:h.G.Calls<=98000):aT Tryz.prog 124 false [.mut (some 24) (kx h)] [.mut (some 24) (List.replicate 24 .x)] (.tup [some 24,none]) (kx (fin h).1++[B (fin h).2]):=by
 refine RY (n:=29) (mo:=[]) (tb:=[]) Tryz.func124 (by kernel_rfl) rfl (by kernel_rfl) (by rfl) rfl (aI (qp _) ⟨trivial,trivial⟩) ?_
 repeat'(first|refine gP ?_|fail)
 (conv=>whnf)
 refine CF (ι:=Nat) (λi=>[(1,.H .box (kx (eS h i).1)),(2,.H .box HW),(4,.H .one [I ((i:Nat):Int)])]) (λi=>i<=100/\(eS h i).2=false) (λi=>100 - i) (0) ?_ (⟨W0 _,rfl⟩) λi o=>?_
 ·exact wC
 obtain⟨e,g⟩:=o;have s:=wM (by assumption) p c i;by_cases w:i<100
 ·cases b:(eS h i).1.o with
  | false=>
   have j:=MU b e;rw[JH b]
   repeat'(first|refine gE ?_|fail)
   refine CH rfl ?_ trivial;rw[j,g,JH b]
   rfl
  | true=>
   have a:=KC b;have y:=s.calls;have q:=(zk (eS h i).1 (s.inv g) b s.fit.sml ω).E;have k:=wG (eS h i).1;rw[Qd b]at k |-;cases d:lC (eS h i).1 with
   | true=>
    rw[d]at a;have t:T6 (eS h i).1=4:=of_decide_eq_true d;have j:=MU (h:=h) (i:=i+1) (by rw[a];have r:=wM (by assumption) p c (i+1);rw[a]at r;exact r.done rfl) ω;rw[j,a]
    repeat'(first|refine gB ?_|(conv=>whnf);refine CG (q) ⟨⟨rfl,k⟩,trivial⟩ ?_)
    exact CH rfl rfl trivial
   | false=>
    rw[d]at a;have t:¬T6 (eS h i).1=4:=of_decide_eq_false d;have l:mStep (eS h i).1=(eS h (i+1)).1:=by rw[a]
    repeat'(first|refine gB ?_|(conv=>whnf);refine CG (q) ⟨⟨rfl,k⟩,trivial⟩ ?_)
    ((conv=>whnf);refine CE (i+1) ⟨ω,by rw[a]⟩ ω ?_)
    rw[<-l];exact wC
 obtain rfl:i=100:=ω
 repeat'(first|refine gE ?_|fail)
 refine CH rfl ?_ trivial;rw[<-g]
 rfl
def HP(rows:List (List C)):Rr (oE rows)=oE rows:=by cases rows<;>rfl
def Ua(h:ab):TN (.mut (some 24) (kx h))=.mut (some 24) (kx h):=by
 show MA.mut (some 24) (cE h (Rr (oS h)) (Rr (oL h)) (Rr (oO h)))=_;unfold oS oL oO;rw[HP,HP,HP]
 rfl
def vh(h:ab)(b:aY h [])(c:fJ h.G.w)(a:aK.sml h.y)(d:h.G.Calls<=98000):aT Tryz.prog 124 false [TN (.mut (some 24) (kx h))] [.mut (some 24) (List.replicate 24 .x)] (.tup [some 24,none]) (kx (fin h).1++[B (fin h).2]):=by
 rw[Ua];exact G3 h b c a d
def Lj(h:ab)(most:Nat)(g:aY h [])(c:fJ h.G.w)(b:aK.sml h.y)(C:h.G.Calls<=90000)(D:most<=20):ar Tryz.prog 38 false [.val (some 24) (ab.enc .X h),.val none [I (most:Nat)]] (.tup [some 24,none]) (kx (iW h most).1++[I ((iW h most).2:Nat)]):=by
 have d:=g.fit c b;have u:=rS h d.sml;have l:=gX h d.sml;rw[jM,g.to]at l;have n:=vh h g c b ω;have o:=aM ((most:Nat):Int) 0 20;rw[O0 ω]at o;refine fP 58 [(124,[1])] [] Tryz.func38 rfl ?_ (.inr (aI (qp _) ⟨trivial,trivial⟩));cases p:(fin h).2<;>rw[p]at n
 all_goals
  have q:iW h 0=((fin h).1,(fin h).2.toNat):=rfl;rw[p]at q
  repeat'(first|refine gE ?_|(conv=>whnf);refine CK (n) (.inl rfl) ?_)
  (conv=>whnf)
  refine CF (ι:=Nat) (λi=>[(1,.H .one [I (((most:Nat):Int) - (i:Nat))]),(4,.H .box HW),(6,.H .box (kx (iW h i).1)),(7,.H .one [I ((iW h i).2:Nat)])]) (λi=>i<=most) (λi=>most - i) 0 ?_ (W0 _) λi w=>?_
  ·rw[q]
   exact wC
  have s:=De g c b i;have E:=s.calls;have F:=s.cnt;obtain⟨G,r,y,B⟩:=Aq s.fit (by rw[s.ref];exact c) (by rw[s.mail];exact b);by_cases H:i<most
  ·have j:=xL (iW h i).1 s.fit.sml
   have a:iW h (i+1)=if(meshSt (iW h i).1).2=true then((fin (meshSt (iW h i).1).1).1,(iW h i).2+(fin (meshSt (iW h i).1).1).2.toNat) else((meshSt (iW h i).1).1,(iW h i).2):=rfl
   cases e:(meshSt (iW h i).1).2 with
   | false=>
    rw[e]at j a;rw[C9 (by simp)]at a
    repeat'(first|refine gE ?_|(conv=>whnf);refine CG (j) ⟨⟨rfl,wG _⟩,trivial⟩ ?_)
    ((conv=>whnf);refine CE (i+1) ω ω ?_)
    rw[a];exact wC
   | true=>
    rw[e]at j a;rw[CB rfl]at a;have t:=vh (meshSt (iW h i).1).1 (B e) (by rw[r,s.ref];exact c) (by rw[y,s.mail];exact b) (by rw[r];omega);cases k:(fin (meshSt (iW h i).1).1).2<;>rw[k]at t a
    all_goals
     repeat'(first|refine gE ?_|(conv=>whnf);first|refine CG (j) ⟨⟨rfl,wG _⟩,trivial⟩ ?_|refine CK (t) (.inl rfl) ?_)
     ((conv=>whnf);refine CE (i+1) ω ω ?_)
     rw[a];exact wC
  obtain rfl:i=most:=ω
  repeat'(first|refine gE ?_|fail)
  rfl
def qE(h:ab)(z:Int)(n:Nat)(d:ab.sml h)(k:ab.wf h)(a:dA h=true)(g:n<h.O.length)(l:(nth h.O n).Id=z):ar Tryz.prog 39 false [.val (some 24) (ab.enc .X h),.val none [I z]] (.tup [none,none]) [.s .own ((fT h n).map (rI .own)),B true]:=by
 have c:=vU h d k;rw[a]at c;have o:h.O.length<=1048576:=d.2.2.2.2.1.1;have q:=uW a g;have j:=zu h (nth h.O n) (sw a) ω ω;change ar _ _ _ _ _ (aD .own (fT h n)) at j;refine fO 33 [] Tryz.func39 rfl ?_ (.inr ⟨⟨.inl λh=>(by cases h),bf _ _ λy _=>oy y⟩,trivial,trivial⟩)
 repeat'(first|(conv=>whnf);refine CC ?_)
 (conv=>whnf)
 refine CF (ι:=Nat) (λi=>[(1,.H .one [I (z)]),(2,.H .box (ab.enc .X h)),(6,.H .one [I ((i:Nat):Int)])]) (λi=>i<=n) (λi=>n - i) (0) ?_ (W0 _) λi r=>?_
 ·exact wC
 have b:=ao (xs:=h.O) (i:=i) ω;by_cases e:i=n
 ·subst e
  repeat'(first|refine gB ?_|(conv=>whnf);refine CG (j) ⟨ab.enc_fzi h,⟨rfl,rfl⟩,trivial⟩ ?_)
  rfl
 have p:(nth h.O i).Id≠z:=by
  rw[<-l];exact Pi a ω g e
 repeat'(first|refine gB ?_|(conv=>whnf);first|with_reducible refine CD (aa b) ?_|refine CC ?_|refine C8 (c) ?_|refine CJ rfl (aa b) rfl ?_)
 ((conv=>whnf);refine CE (i+1) ω ω ?_;(exact wC))
def MX.sml{h g:ab}{n:Nat}(s:MX h g n)(a:fJ h.G.w):ab.sml g/\ab.wf g:=⟨(s.inv.fit (by rw[s.rf];exact a) (ku.of s.inv.mail).sml).sml,s.inv.wf (by rw[s.rf];exact a)⟩
def mO(h:ab)(a:ab.sml h)(d:dA h=true):ar Tryz.prog 41 false [.val (some 24) (ab.enc .X h)] .one [I (dl (tbl h) - cF h.G.F.V)]:=by
 have g:=gX h a;rw[jM,d]at g;have j:=tW h.G.F.Q a.1.1.2;have k:=wt h.G.F.V a.1.1.1;have i:=aY.of d;have l:=mH h.G.F.V (by have:=aS.1 (a8.1 i.ker).2.1;omega);have c:eQ h<=32:=i.lens.ents;have n:0<=dl h.G.F.Q/\dl h.G.F.Q<=32:=by
  have o:=sL (f:=ce) (xs:=h.G.F.Q.J) (b:=1) (λe _=>lY e) h.G.F.Q.J.length (C3 _);have p:h.G.F.Q.J.length<=32:=c;unfold dl;omega
 refine fO 17 [(3,9,[6,7,8,9,10,11,12,13,14])] Tryz.func41 rfl ?_
 repeat'(first|refine gP ?_|(conv=>whnf);first|refine CC ?_|refine C8 (g) ?_|refine C8 (j) ?_|refine C8 (k) ?_)
 rfl
def sr(zs:List Int):Nat->List Int × iV
 | 0=>([],sZ zs)
 | n+1=>((sr zs n).1++[(bv zs (sr zs n).2 10000).1],(bv zs (sr zs n).2 10000).2)
def BY(zs:List Int):∀n,(sr zs n).2.i<=zs.length/\(sr zs n).1.length=n/\∀x∈(sr zs n).1,0<=x/\x<10000
 | 0=>⟨W0 _,rfl,λx a=>by cases a⟩
 | n+1=>by
  obtain⟨b,c,d⟩:=BY zs n;refine⟨bV b _,by show((sr zs n).1++[_]).length=_;rw[O3,c];rfl,λx a=>?_⟩;rcases z3.1 a with a|a
  ·exact d x a
  rw[O1.1 a];exact bG zs (sr zs n).2 (n:=10000) (by decide)
def wg(zs:List Int)(a:jK zs):ar Tryz.prog 17 false [.val none (Ru zs)] .one (aD .own (sr zs 12).1):=by
 have b:=vD zs a;refine fP 19 [(58,[2,0]),(3000003,[])] [] Tryz.func17 rfl ?_ (.inr (bH _))
 repeat'(first|(conv=>whnf);refine Cl.g b (.inr rfl) ?_)
 (conv=>whnf)
 refine CF (ι:=Nat) (λi=>[(0,.H .one (Ru zs)),(3,.H .box (iI zs (sr zs i).2)),(4,.H .one (aD .own (sr zs i).1)),(5,.H .one [I ((i:Nat):Int)])]) (λi=>i<=12) (λi=>12 - i) (0) ?_ (W0 _) λi j=>?_
 ·repeat'(first|exact trivial|rfl |refine CL ?_ ?_)
 obtain⟨d,k,-⟩:=BY zs i;by_cases l:i<12
 ·have e:=bT zs (sr zs i).2 10000 a d (by decide)
  repeat'(first|refine gE ?_|(conv=>whnf);first|refine CK (e) (.inl rfl) ?_|refine CU co (λr h=>by rw[O1.1 h];rfl) (by simp[aZ,eD]) (by simp;omega) (by simp only[C1];exact zh (by simp;omega) (by decide)) rfl ?_)
  ((conv=>whnf);refine CE (i+1) ω ω ?_)
  repeat'(first|exact trivial|rfl |exact n6 (X0 (C.s dY.own) (by simp[sr,rI]))|refine CL ?_ ?_)
 obtain rfl:i=12:=ω
 repeat'(first|refine gE ?_|fail)
 rfl
def vk(a:List Int)(d:a.length<=1048576):ar Tryz.prog 40 false [.val none (aD .X a),.val none (aD .X a)] .one [B true]:=by
 refine fO 26 [(6,8,[17,18,19,20,21,22,23,24])] Tryz.func40 rfl ?_
 repeat'(first|refine gB ?_|fail)
 (conv=>whnf)
 refine CF (ι:=Nat) (λi=>[(0,.H .one (aD .X a)),(1,.H .one (aD .X a)),(5,.H .one [I ((i:Nat):Int)])]) (λi=>i<=a.length) (λi=>a.length - i) (0) ?_ (W0 _) λi e=>?_
 ·exact wC
 by_cases b:i<a.length
 ·have c:=ao b
  repeat'(first|refine gB ?_|(conv=>whnf);with_reducible refine CD (aa c) ?_)
  ((conv=>whnf);refine CE (i+1) ω ω ?_;(exact wC))
 repeat'(first|refine gE ?_|fail)
 rfl
def Meshed_law(zs:List Int)(hw:zs.length<=9223372036854775807/\∀y∈zs,0<=y/\y<=255):ar Tryz.prog 10 false [.val none (Ru zs)] .one [B true]:=by
 have t:=RL zs hw.1;by_cases hb:(zs.length:Int) > 1048576
 ·rw[O0 hb]at t
  refine fO 106 [(6,266,[24,25,26,27,28,29,23,30,31,6,0,1,2,3,4,5,6,7,8,9,10,1008,11]),(10,267,[40,41,42,43,44,45,46,47,39,48,49,0,1,2,3,4,5,6,7,8,9,10,11,1010,12]),(11,267,[51,52,53,54,55,56,57,58,50,59,60,0,1,2,3,4,5,6,7,8,9,10,11,1010,12]),(16,24,[79,80,81,82,83,84,85,86,87,88,89,90,91,92,93,94,95,96,97,98,99,100,101,102])] Tryz.func10 rfl ?_
  repeat'(first|refine gP ?_|(conv=>whnf);first|refine CC ?_|refine C8 (t) ?_)
  rfl
 rw[U0 hb]at t;have hz:jK zs:=⟨ω,hw.2⟩
 have cD:=wW zs hz;have cP:=wg zs hz;obtain⟨-,pl,pb⟩:=BY zs 12;have D:=yI zs;have O:=Fw zs;have l:=ED zs;obtain⟨hcl,-⟩:=Lx zs;obtain⟨M,E⟩:=Lz zs;generalize drawn zs=w at *;generalize (sr zs 12).1=P at *;have h:=ao (xs:=P) (i:=0) ω;have Q:=pb _ (am (xs:=P) (i:=0) ω);generalize nth P 0=p at *;have g:=D.inv;have F:=g.to;have hlo:=g.lens.objs;have wm:=dM (y:=4) Q.1;have R:=Int.emod_nonneg p (show(4:Int)≠0 by decide);have hpn:=Int.emod_lt_of_pos p (show(0:Int)<4 by decide);generalize p % 4=m at *;obtain⟨m,rfl⟩:=Z2 R;have o:=Lj w.Z m g l (ku.of g.mail).sml ω ω;have s:=Jr g D.ji O.ci m;have S:=(De g l (ku.of g.mail).sml m).cnt;generalize iW w.Z m=r at *;obtain⟨X,n⟩:=r;simp only at o s S;obtain⟨N,-⟩:=s.sml l;have j:=s.inv.to;have hxo:X.O.length=w.Z.O.length:=by rw[s.ob]
 have T:=gX X N;rw[jM,j]at T;have c8:=o9 w.Z.G.F.V M.1.1.1;have c9:=o9 X.G.F.V N.1.1.1;have d1:=mO w.Z M F;have U:=mO X N j;rw[Lr g s.inv s.fr s.pg]at U;have hu:=s.us;have b1:=mH w.Z.G.F.V (by have:=aS.1 (a8.1 g.ker).2.1;omega);have b2:=mH X.G.F.V (by have:=aS.1 (a8.1 s.inv.ker).2.1;omega);have V:eQ w.Z<=32:=g.lens.ents;have b3:0<=dl (tbl w.Z)/\dl (tbl w.Z)<=32:=by
  have h3:=sL (f:=ce) (xs:=(tbl w.Z).J) (b:=1) (λe _=>lY e) (tbl w.Z).J.length (C3 _);have h4:(tbl w.Z).J.length<=32:=V;unfold dl;omega
 have a:=wG X;have G:=aV.enc_fz X.G.F.V;have H:X.O.map (bt.enc .own)=[]->([]:List (List C)).length=X.O.length:=λe=>by rw[List.map_eq_nil_iff.1 e];rfl
 have J:∀k,k<w.Z.O.length->ar Tryz.prog 29 false [.val (some 24) (ab.enc .X X),.val none [I (nth w.Z.O k).Id]] (.tup [none,none]) [.s .own ((fT w.Z k).map (rI .own)),B true]:=λk c=>by
  have K:k<X.O.length:=ω
  have W:(nth X.O k).Id=(nth w.Z.O k).Id:=by rw[s.ob]
  have q:=EB X (nth w.Z.O k).Id k N j K ((RB j K).1 W);rw[FG s.kp s.ob c]at q;exact q
 generalize dl (tbl w.Z)=mp at *;generalize cF X.G.F.V=u at *;generalize cF w.Z.G.F.V=v at *;unfold kx at o a;rcases Tm (rows:=X.O.map (bt.enc .own)) with Y|⟨eo1,Y⟩
 ·rw[show oO X=_ from Y]at o a
  refine fO 106 [(6,266,[24,25,26,27,28,29,23,30,31,6,0,1,2,3,4,5,6,7,8,9,10,1008,11]),(10,267,[40,41,42,43,44,45,46,47,39,48,49,0,1,2,3,4,5,6,7,8,9,10,11,1010,12]),(11,267,[51,52,53,54,55,56,57,58,50,59,60,0,1,2,3,4,5,6,7,8,9,10,11,1010,12]),(16,24,[79,80,81,82,83,84,85,86,87,88,89,90,91,92,93,94,95,96,97,98,99,100,101,102])] Tryz.func10 rfl ?_
  repeat'(first|refine gP ?_|(conv=>whnf);first|refine CO ω ?_|refine CR wm ?_|refine CG (o) ⟨⟨rfl,ab.enc_fz _⟩,⟨rfl,rfl⟩,trivial⟩ ?_)
  (conv=>whnf)
  refine CF (ι:=Nat) (λk=>[(4,.H .box (ab.enc .own w.Z)),(6,.H .box (cE X (oS X) (oL X) (.s .own (X.O.map (bt.enc .own))))),(7,.H .one [I (n:Nat)]),(8,.H .one [I (k:Nat)])]) (λk=>k<=w.Z.O.length) (λk=>w.Z.O.length - k) 0 ?_ (W0 _) λk hk=>?_
  ·exact wC
  by_cases c:k<w.Z.O.length
  ·have L:=ao c
   have Z:=qE w.Z (nth w.Z.O k).Id k M E F c rfl;have q:=J k c;have hol:=sg F c;have c7:=vk (fT w.Z k) ω;generalize fT w.Z k=cs at *;have d:=eg cs
   repeat'(first|refine gE ?_|(conv=>whnf);first|refine CG (Z) ⟨⟨rfl,ab.enc_fz _⟩,⟨rfl,rfl⟩,trivial⟩ ?_|refine CG (q) ⟨⟨rfl,a⟩,⟨rfl,rfl⟩,trivial⟩ ?_|refine CG (c7) ⟨⟨rfl,d⟩,⟨rfl,d⟩,trivial⟩ ?_)
   ((conv=>whnf);refine CE (k+1) ω ω ?_;(exact wC))
  obtain rfl:k=w.Z.O.length:=ω
  repeat'(first|refine gB ?_|(conv=>whnf);first|refine CG (T) ⟨⟨rfl,a⟩,trivial⟩ ?_|refine CG (c8) ⟨⟨rfl,aV.enc_fz _⟩,trivial⟩ ?_|refine CG (c9) ⟨⟨rfl,G⟩,trivial⟩ ?_|refine CG (d1) ⟨⟨rfl,ab.enc_fz _⟩,trivial⟩ ?_|refine CG (U) ⟨⟨rfl,a⟩,trivial⟩ ?_)
  all_goals first|exact X0 (λz=>[B z]) (O0 ω)
 rw[show oO X=_ from Y]at o a;have hn:=H eo1;refine fO 106 [(6,266,[24,25,26,27,28,29,23,30,31,6,0,1,2,3,4,5,6,7,8,9,10,1008,11]),(10,267,[40,41,42,43,44,45,46,47,39,48,49,0,1,2,3,4,5,6,7,8,9,10,11,1010,12]),(11,267,[51,52,53,54,55,56,57,58,50,59,60,0,1,2,3,4,5,6,7,8,9,10,11,1010,12]),(16,24,[79,80,81,82,83,84,85,86,87,88,89,90,91,92,93,94,95,96,97,98,99,100,101,102])] Tryz.func10 rfl ?_
 repeat'(first|refine gP ?_|(conv=>whnf);first|refine CO ω ?_|refine CR wm ?_|refine CG (o) ⟨⟨rfl,ab.enc_fz _⟩,⟨rfl,rfl⟩,trivial⟩ ?_)
 (conv=>whnf)
 refine CF (ι:=Nat) (λk=>[(4,.H .box (ab.enc .own w.Z)),(6,.H .box (cE X (oS X) (oL X) (.s .X []))),(7,.H .one [I (n:Nat)]),(8,.H .one [I (k:Nat)])]) (λk=>k<=w.Z.O.length) (λk=>w.Z.O.length - k) 0 ?_ (W0 _) λk hk=>?_
 ·exact wC
 by_cases c:k<w.Z.O.length
 ·have L:=ao c
  have Z:=qE w.Z (nth w.Z.O k).Id k M E F c rfl;have q:=J k c;have hol:=sg F c;have c7:=vk (fT w.Z k) ω;generalize fT w.Z k=cs at *;have d:=eg cs
  repeat'(first|refine gE ?_|(conv=>whnf);first|refine CG (Z) ⟨⟨rfl,ab.enc_fz _⟩,⟨rfl,rfl⟩,trivial⟩ ?_|refine CG (q) ⟨⟨rfl,a⟩,⟨rfl,rfl⟩,trivial⟩ ?_|refine CG (c7) ⟨⟨rfl,d⟩,⟨rfl,d⟩,trivial⟩ ?_)
  ((conv=>whnf);refine CE (k+1) ω ω ?_;(exact wC))
 obtain rfl:k=w.Z.O.length:=ω
 repeat'(first|refine gB ?_|(conv=>whnf);first|refine Ln.mk hn ?_|refine CG (T) ⟨⟨rfl,a⟩,trivial⟩ ?_|refine CG (c8) ⟨⟨rfl,aV.enc_fz _⟩,trivial⟩ ?_|refine CG (c9) ⟨⟨rfl,G⟩,trivial⟩ ?_|refine CG (d1) ⟨⟨rfl,ab.enc_fz _⟩,trivial⟩ ?_|refine CG (U) ⟨⟨rfl,a⟩,trivial⟩ ?_)
 all_goals first|exact X0 (λz=>[B z]) (O0 ω)
open Go.RowKit Go.ChangeShapes Go.WideShapes Go.Deep
def ALL(w:World):ah:=λb _=>b<w.heap.size
def T7{H:Type}(e:TypeId × Value->H)(P:Program)(w:World)(t n:Nat){α:Type}(enc:α->List C)(c:α->Prop):Prop:=
 ∀(fuel:Nat)(b:List Value)(x:DataW H × List MemPlace),DataW.trod e P w 0 (λ_=>true) true fuel t b=some x->b.length=n/\∃a,c a/\(enc a).length=n/\cV w (ALL w) NO (enc a) (λj=>b.getD j undef)
section
variable{H:Type}{e:TypeId × Value->H}{P:Program}{w:World}
def BJ{S F:ah}{c:C}{u:Nat->Value}(h:fg w S F c (u 0)):cV w S F [c] u:=
 ⟨λ_=>F,λj e a=>by cases j with
   | zero=>simp at a;subst a;exact h
   | succ j=>simp at a,λ_ _ _ _ h=>h,λj f a b d=>by simp at a b;omega⟩
def pick{α β:Type}(n:Nat){Q:Nat->β->Prop}(h:∀i,i<n->∃b,Q i b):∃l:List β,l.length=n/\∀i b,l[i]? = some b->Q i b:=by
 induction n with
 | zero=>exact⟨[],rfl,λi b h=>by simp at h⟩
 | succ n c=>
  obtain⟨l,d,e⟩:=c λi a=>h i ω
  obtain⟨b,f⟩:=h n ω;refine⟨l++[b],by simp[d],λi g a=>?_⟩;by_cases j:i<n
  ·rw[V4 ω]at a;exact e i g a
  rw[W4 ω]at a;have:i - l.length=0:=by
   have:=(O2.1 a).1;simp at this;omega
  rw[this]at a;simp at a;subst a;rw[show i=n by omega];exact f
def Mz{t T n:Nat}{α:Type}{enc:α->List C}{U:α->Prop}(V:T7 e P w T n enc U)(ht:P.underlying t=some (.slice T))(hn:P.cellsOf T=n)(p:0<n) :
  T7 e P w t 1 (λxs:List α=>[.s .X (xs.map enc)]) (λxs=>xs.length<=9223372036854775807/\∀y∈xs,U y):=by
 intro fuel cs x h;rcases open_slice ht h with⟨rfl,-⟩|⟨k,len,cap,m,n',D,Pl,rfl,-,hl,hm,K,-,u⟩
 ·exact⟨rfl,[],⟨by simp,by simp⟩,rfl,BJ (.nil _ _ _ trivial)⟩
 simp only[if_true]at K;subst K;have L:0<m->k.spot=none:=λW=>by
  obtain⟨E,M,N⟩:=u 0 W;rw[hn]at M;obtain⟨_,X,F⟩:=World.cells?_some M;have:=F 0 p;rw[I2 ω]at this;have:=World.cell?_spot this;simpa[Addr.add] using this
 have key:∀i,i<len->∃a,U a/\(enc a).length=n/\(∀d,d<n->∃z,cel w k.block (k.off+(i*n+d))=some z)/\k.spot=none/\cV w (ALL w) NO (enc a) (λd=>(cel w k.block (k.off+(i*n+d))).getD undef):=λi hil=>by
  have g:=L ω;obtain⟨E,M,N⟩:=u i ω;rw[hn]at M;obtain⟨h1,a,h3,h4,h5⟩:=V _ _ _ N;obtain⟨_,X,F⟩:=World.cells?_some M;have O:∀d,k.add d = ⟨k.block,k.off+d,none⟩:=λd=>by
   obtain⟨b,o,sp⟩:=k;simp only at g;subst g;unfold Addr.add;split<;>simp_all
  have A:∀d,d<n->cel w k.block (k.off+(i*n+d))=E[d]?:=λd J=>by
   have:=F d J;rw[Go.Deep.add_add,O]at this;exact this
  refine⟨a,h3,h4,λd J=>⟨_,by rw[A d J,I2 ω]⟩,g,h5.congr λd J=>?_⟩;show(cel w k.block (k.off+(i*n+d))).getD undef=E.getD d undef;rw[A d ω,List.getD]
 obtain⟨l,Q,B⟩:=pick (α:=α) len key;refine⟨rfl,l,⟨by simp only[maxLen]at hm;omega,λy R=>?_⟩,rfl,BJ ?_⟩
 ·obtain⟨i,G⟩:=List.mem_iff_getElem?.1 R
  exact(B i y G).1
 show fg w (ALL w) NO (.s .X (l.map enc)) (.slice (some k) len m);by_cases h0:len=0
 ·subst h0
  have:l=[]:=S7 Q;subst this;by_cases Y:m=0
  ·subst Y;exact .nil _ _ _ trivial
  have g:=L ω;obtain⟨b,o,sp⟩:=k;simp only at g;subst g;exact .X _ b o n 0 m [] (λ_=>undef) rfl (λr Z=>by simp at Z) hl (λq hq=>by simp at hq) (λi j r c u=>by simp at u)
 obtain⟨y0,hy0⟩ : ∃y,l[0]? = some y:=⟨_,I2 ω⟩
 have g:=(B 0 y0 hy0).2.2.2.1;obtain⟨b,o,sp⟩:=k;simp only at g;subst g;refine .X _ b o n len m (l.map enc) (λq=>(cel w b (o+q)).getD undef) (by simpa using Q) (λr Z=>?_) hl (λq hq=>?_) (λi j r c u hj=>?_)
 ·obtain⟨y,R,rfl⟩:=O4.1 Z
  obtain⟨i,G⟩:=List.mem_iff_getElem?.1 R;exact(B i y G).2.1
 ·have hqd:q / n<len:=(Nat.div_lt_iff_lt_mul p).2 hq
  obtain⟨y,R⟩ : ∃y,l[q / n]? = some y:=⟨_,I2 ω⟩
  obtain⟨z,S⟩:=(B _ y R).2.2.1 (q % n) (Nat.mod_lt _ p);have J:q / n*n+q % n=q:=by rw[Nat.mul_comm];exact Nat.div_add_mod q n
  rw[J]at S;exact⟨RM S,by simp only at S |-;rw[S];rfl⟩
 rw[I3]at u;cases H:l[i]? with
 | none=>rw[H]at u;cases u
 | some y=>
  rw[H]at u;simp only[I5,Z0]at u;subst u;obtain⟨f,h1,h2,-⟩:=(B i y H).2.2.2.2;have hjl:=(O2.1 hj).1;exact(h1 j c hj).mono (λ_ _ h=>h) (h2 j hjl)
def row_val{S F:ah}{x:Value}{u:Nat->Value}(h:cV w S F [.v x] u):u 0=x:=by
 obtain⟨f,a,-⟩:=h;have:=a 0 _ rfl;cases this
 rfl
end
open Go.RowKit Go.ChangeShapes Go.WideShapes
section
variable{H:Type}{e:TypeId × Value->H}{P:Program}{w:World}
def Q2{t:Nat}(b:P.underlying t=some (.int .u8)):T7 e P w t 1 rU (λz=>0<=z/\z<=255):=by
 intro fuel c x h;obtain⟨n,rfl,-,a⟩:=DataW.trod_int b h;refine⟨rfl,n,?_,rfl,BJ (.v _ _ rfl)⟩;simp only[Lit.wf,I0,C0]at a;exact a
def op_ByteS:T7 e Tryz.prog w 22 1 (λzs:List Int=>[.s .X (zs.map rU)]) (λzs=>zs.length<=9223372036854775807/\∀y∈zs,0<=y/\y<=255):=Mz (Q2 Tryz.underlying5) Tryz.underlying22 (by kernel_rfl) (by decide)
end
end Go.Proofs.YtecefhjnejfheaaGreat.Ab
