/- A world that is not made; the most frames of a run: both sides', of whatever configuration and acts. No condition. -/
import Derived.Test.YtfdfgipemcbekaaGreatDoorKTd
import Derived.Test.YtfdfgipemcbekaaGreatDoorKTi
import Derived.Test.YtfdfgipemcbekaaGreatDoorKTg
import Derived.Shelf.SlGeneric
import Derived.Shelf.SlSortCmp.NoneTotal
import Derived.Ground.SlsfProg
import Derived.Test.YtfdfgipemcbekaaGreatDoorProg
import Derived.Test.YtfdfgipemcbekaaGreatDoorKTe
import Derived.WalkKit
import Derived.Test.YtfdfgipemcbekaaGreatDoorKTh
import Derived.Test.YtfdfgipemcbekaaGreatDoorKTc
import Derived.ProofKit
import Derived.OpenShut
import Derived.Deep.Slices
import Derived.Deep.Fields
import Derived.ChangeSame
import Derived.WideShapes
set_option linter.unusedVariables false
set_option linter.defProp false
set_option linter.unusedSimpArgs false
set_option linter.constructorNameAsVariable false
namespace Go.Proofs.YtfdfgipemcbekaaGreatDoor.Ab
open Go.RowKit
set_option maxRecDepth 20000
set_option maxHeartbeats 4000000
def mr(n:Int):Prop:=1<=n/\n<=32
def uT(a:List Int):Prop:=a.length<=40/\∀x∈a,0<=x
instance (n:Int):Decidable (mr n):=by unfold mr;infer_instance
instance (rf:List Int):Decidable (uT rf):=by unfold uT;infer_instance
def u9{p f:Nat}{a:List Int}(h:¬uT a):aG (bD p f a)=false:=by
 cases e:aG (bD p f a) with
 | false=>rfl
 | true=>
  refine absurd ?_ h;unfold aG at e;simp only[I0,C0]at e;obtain⟨⟨b,-⟩,-,-,c⟩:=e;refine⟨c,λx d=>?_⟩;obtain⟨i,g,rfl⟩:=b9 d;have:=of_decide_eq_true (fE b g);exact this
def sK{p f:Nat}{a:List Int}(b:1<=p/\p<=32)(c:1<=f/\f<=32)(d:a.length<=1048576):ah.sml (bD p f a):=⟨(aX (vH b c)).1,d⟩
def u6(n:Int)(b:¬mr n):zzA 309 false [.vI n] (.tup [some 2,none]) [.z,.z,B false]:=by
 have a:=aH n 1 32;rw[Z0 (show ¬(1<=n/\n<=32) from b)]at a;refine fO 25 [ρ 7 4 18] Tryz.func309 rfl ?_ (.inr ⟨tV1,tV1,tV1,tV1⟩)
 refine σP ?_
 rfl
def oh(n:Int)(b:¬mr n):zzA 310 false [.vI n] (.tup [some 1,none]) [.z,B false]:=by
 have a:=aH n 1 32;rw[Z0 (show ¬(1<=n/\n<=32) from b)]at a;refine fO 11 [] Tryz.func310 rfl ?_ (.inr ⟨tV1,tV1,tV1⟩)
 refine σP ?_
 rfl
def tP(p f:Int)(h:¬(mr p/\mr f)):zzA 237 false [.vI p,.vI f] (.tup [some 3,none]) [.z,.z,.z,B false]:=by
 by_cases c:mr f
 ·have a:¬mr p:=λx=>h ⟨x,c⟩
  obtain⟨f,rfl⟩:=C5 (show 0<=f by have:=c.1;omega);have d:=qR f (by have:=c;unfold mr at this;omega);have b:=oh p a;refine fO 30 [] Tryz.func237 rfl ?_ (.inr ⟨tV1,tV1,tV1,tV1,tV1⟩)
  refine σP ?_
  rfl
 have d:=u6 f c;by_cases a:mr p
 ·obtain⟨p,rfl⟩:=C5 (show 0<=p by have:=a.1;omega)
  have b:=sL p (by have:=a;unfold mr at this;omega);refine fO 30 [] Tryz.func237 rfl ?_ (.inr ⟨tV1,tV1,tV1,tV1,tV1⟩)
  refine σP ?_
  rfl
 have b:=oh p a;refine fO 30 [] Tryz.func237 rfl ?_ (.inr ⟨tV1,tV1,tV1,tV1,tV1⟩)
 refine σP ?_
 rfl
def qr(n:Int)(b:¬(1<=n/\n<=4)):zzA 141 false [.vI n] (.tup [some 2,none]) [.z,.z,B false]:=by
 have a:=aH n 1 4;rw[Z0 b]at a;refine fO 13 [ςn] Tryz.func141 rfl ?_ (.inr ⟨tV1,tV1,tV1,tV1⟩)
 refine σP ?_
 rfl
def vw(p f:Int)(a:List Int)(j:a.length<=1048576)(h:¬((mr p/\mr f)/\uT a)):zzA 140 false [.vI p,.vI f,.val none (aE .R a)] (.tup [some 5,none]) [.z,.z,.z,I 0,.z,B false]:=by
 by_cases g:mr p/\mr f
 ·obtain⟨b,c⟩:=g
  have k:¬uT a:=λx=>h ⟨⟨b,c⟩,x⟩
  obtain⟨p,rfl⟩:=C5 (show 0<=p by have:=b.1;omega);obtain⟨f,rfl⟩:=C5 (show 0<=f by have:=c.1;omega);unfold mr at b c;have d:=qh p f ω ω;have i:=kH (bD p f a) (sK ω ω j);rw[u9 k]at i;have e:=cM a ω;refine fO 30 [ς14] Tryz.func140 rfl ?_ (.inr ⟨tV1,tV1,tV1,tV1,tV1,tV1,tV1⟩)
  repeat'(first|refine gP ?_|refine CL (i) ⟨⟨rfl,CW (bD p f a)⟩,tV1⟩ ?_)
  rfl
 have d:=tP p f g;have e:=cM a ω;refine fO 30 [ς14] Tryz.func140 rfl ?_ (.inr ⟨tV1,tV1,tV1,tV1,tV1,tV1,tV1⟩)
 refine σP ?_
 rfl
def y6(p f t lim:Int)(c:List Int)(o:c.length<=1048576)(h:¬(((mr p/\mr f)/\uT c)/\(1<=t/\t<=4)/\0<=lim/\lim<=1000)):zzA 74 false [.vI p,.vI f,.vI t,.vI lim,.val none (aE .R c)] (.tup [some 24,none]) (mj++[B false]):=by
 have k:=aH lim 0 1000;have a:fy (mj++[B false]):=by repeat' first|exact tV1|refine CQ ?_ ?_
 by_cases g:(mr p/\mr f)/\uT c
 ·have i:=g
  obtain⟨⟨l,n⟩,q⟩:=g;obtain⟨p,rfl⟩:=C5 (show 0<=p by have:=l.1;omega);obtain⟨f,rfl⟩:=C5 (show 0<=f by have:=n.1;omega);unfold mr at l n;have d:=vX p f c ω ω q;by_cases e:1<=t/\t<=4
  ·have j:¬(0<=lim/\lim<=1000):=λx=>h ⟨i,e,x⟩
   rw[Z0 j]at k;obtain⟨t,rfl⟩:=C5 (show 0<=t by omega);have b:=pC t ω;refine fO 68 [ςd] Tryz.func74 rfl ?_ (.inr a)
   refine σP ?_
   rfl
  have b:=qr t e;refine fO 68 [ςd] Tryz.func74 rfl ?_ (.inr a)
  refine σP ?_
  rfl
 have d:=vw p f c o g;by_cases e:1<=t/\t<=4
 ·obtain⟨t,rfl⟩:=C5 (show 0<=t by omega)
  have b:=pC t ω;refine fO 68 [ςd] Tryz.func74 rfl ?_ (.inr a)
  refine σP ?_
  rfl
 have b:=qr t e;refine fO 68 [ςd] Tryz.func74 rfl ?_ (.inr a)
 refine σP ?_
 rfl
def xb(c:bo)(a:c.d.length<=1048576)(h:¬(((mr c.a2/\mr c.W)/\uT c.d)/\(1<=c.c4/\c.c4<=4)/\0<=c.c2/\c.c2<=1000)):zzA 33 false [.val (some 5) (bo.enc .R c)] (.tup [some 26,none]) (mj++[I 0,.z]++[B false]):=by
 have b:=y6 c.a2 c.W c.c4 c.c2 c.d a h;refine fO 26 [ςo] Tryz.func33 rfl ?_ (.inr (by repeat' first|exact tV1|refine CQ ?_ ?_))
 refine σP ?_
 rfl
def uG(n:Int)(b:¬mr n):zzA 191 false [.vI n] (.tup [some 2,none]) [.z,.z,B false]:=by
 have a:=aK n 1 32;rw[Z0 (show ¬(1<=n/\n<=32) from b)]at a;refine fO 28 [ρ 7 4 16] Tryz.func191 rfl ?_ (.inr ⟨tV1,tV1,tV1,tV1⟩)
 refine σP ?_
 rfl
def ox(n:Int)(b:¬mr n):zzA 192 false [.vI n] (.tup [some 1,none]) [.z,B false]:=by
 have a:=aK n 1 32;rw[Z0 (show ¬(1<=n/\n<=32) from b)]at a;refine fO 11 [] Tryz.func192 rfl ?_ (.inr ⟨tV1,tV1,tV1⟩)
 refine σP ?_
 rfl
def tW(p f:Int)(h:¬(mr p/\mr f)):zzA 94 false [.vI p,.vI f] (.tup [some 3,none]) [.z,.z,.z,B false]:=by
 by_cases c:mr f
 ·have a:¬mr p:=λx=>h ⟨x,c⟩
  obtain⟨f,rfl⟩:=C5 (show 0<=f by have:=c.1;omega);have d:=q8 f (by have:=c;unfold mr at this;omega);have b:=ox p a;refine fO 30 [] Tryz.func94 rfl ?_ (.inr ⟨tV1,tV1,tV1,tV1,tV1⟩)
  refine σP ?_
  rfl
 have d:=uG f c;by_cases a:mr p
 ·obtain⟨p,rfl⟩:=C5 (show 0<=p by have:=a.1;omega)
  have b:=sH p (by have:=a;unfold mr at this;omega);refine fO 30 [] Tryz.func94 rfl ?_ (.inr ⟨tV1,tV1,tV1,tV1,tV1⟩)
  refine σP ?_
  rfl
 have b:=ox p a;refine fO 30 [] Tryz.func94 rfl ?_ (.inr ⟨tV1,tV1,tV1,tV1,tV1⟩)
 refine σP ?_
 rfl
def qp(n:Int)(b:¬(1<=n/\n<=4)):zzA 42 false [.vI n] (.tup [some 2,none]) [.z,.z,B false]:=by
 have a:=aK n 1 4;rw[Z0 b]at a;refine fO 13 [ςn] Tryz.func42 rfl ?_ (.inr ⟨tV1,tV1,tV1,tV1⟩)
 refine σP ?_
 rfl
def uR(p f:Int)(a:List Int)(i:a.length<=1048576)(h:¬((mr p/\mr f)/\uT a)):zzA 41 false [.vI p,.vI f,.val none (aE .R a)] (.tup [some 5,none]) [.z,.z,.z,I 0,.z,B false]:=by
 by_cases e:mr p/\mr f
 ·obtain⟨b,c⟩:=e
  have j:¬uT a:=λx=>h ⟨⟨b,c⟩,x⟩
  obtain⟨p,rfl⟩:=C5 (show 0<=p by have:=b.1;omega);obtain⟨f,rfl⟩:=C5 (show 0<=f by have:=c.1;omega);unfold mr at b c;have d:=qm p f ω ω;have g:=kG (bD p f a) (sK ω ω i);rw[u9 j]at g;have k:=cM a ω;refine fO 31 [ς13] Tryz.func41 rfl ?_ (.inr ⟨tV1,tV1,tV1,tV1,tV1,tV1,tV1⟩)
  repeat'(first|refine gP ?_|refine CX (λ_=>rfl) (λ_=>rfl) ω qs ?_|refine Ce (λ_=>rfl) (λ_=>rfl) ω qs ?_|refine CL (g) ⟨⟨rfl,CW (bD p f a)⟩,tV1⟩ ?_)
  rfl
 have d:=tW p f e;have k:=cM a ω;refine fO 31 [ς13] Tryz.func41 rfl ?_ (.inr ⟨tV1,tV1,tV1,tV1,tV1,tV1,tV1⟩)
 repeat'(first|refine gP ?_|refine CX (λ_=>rfl) (λ_=>rfl) ω qs ?_|refine Ce (λ_=>rfl) (λ_=>rfl) ω qs ?_)
 rfl
def yv(p f t lim:Int)(c:List Int)(o:c.length<=1048576)(h:¬(((mr p/\mr f)/\uT c)/\(1<=t/\t<=4)/\0<=lim/\lim<=1000)):zzA 26 false [.vI p,.vI f,.vI t,.vI lim,.val none (aE .R c)] (.tup [some 24,none]) (mj++[B false]):=by
 have k:=aK lim 0 1000;have a:fy (mj++[B false]):=by repeat' first|exact tV1|refine CQ ?_ ?_
 by_cases g:(mr p/\mr f)/\uT c
 ·have i:=g
  obtain⟨⟨l,n⟩,q⟩:=g;obtain⟨p,rfl⟩:=C5 (show 0<=p by have:=l.1;omega);obtain⟨f,rfl⟩:=C5 (show 0<=f by have:=n.1;omega);unfold mr at l n;have d:=qB p f c ω ω q;by_cases e:1<=t/\t<=4
  ·have j:¬(0<=lim/\lim<=1000):=λx=>h ⟨i,e,x⟩
   rw[Z0 j]at k;obtain⟨t,rfl⟩:=C5 (show 0<=t by omega);have b:=po t ω;refine fO 66 [ςc] Tryz.func26 rfl ?_ (.inr a)
   refine σP ?_
   rfl
  have b:=qp t e;refine fO 66 [ςc] Tryz.func26 rfl ?_ (.inr a)
  refine σP ?_
  rfl
 have d:=uR p f c o g;by_cases e:1<=t/\t<=4
 ·obtain⟨t,rfl⟩:=C5 (show 0<=t by omega)
  have b:=po t ω;refine fO 66 [ςc] Tryz.func26 rfl ?_ (.inr a)
  refine σP ?_
  rfl
 have b:=qp t e;refine fO 66 [ςc] Tryz.func26 rfl ?_ (.inr a)
 refine σP ?_
 rfl
def wu(c:bo)(a:c.d.length<=1048576)(h:¬(((mr c.a2/\mr c.W)/\uT c.d)/\(1<=c.c4/\c.c4<=4)/\0<=c.c2/\c.c2<=1000)):zzA 15 false [.val (some 5) (bo.enc .R c)] (.tup [some 26,none]) (mj++[I 0,.z]++[B false]):=by
 have b:=yv c.a2 c.W c.c4 c.c2 c.d a h;refine fO 26 [ςo] Tryz.func15 rfl ?_ (.inr (by repeat' first|exact tV1|refine CQ ?_ ?_))
 refine σP ?_
 rfl
def uh(c:bo):Prop:=((mr c.a2/\mr c.W)/\uT c.d)/\(1<=c.c4/\c.c4<=4)/\0<=c.c2/\c.c2<=1000
instance (c:bo):Decidable (uh c):=by unfold uh;infer_instance
def UC(c:bo):eH:=⟨c.a2.toNat,c.W.toNat,c.c4.toNat,c.c2,c.d⟩
def De{c:bo}(h:uh c):KX (UC c)/\bo.enc .R c=eH.enc .R (UC c):=by
 obtain⟨⟨⟨a,b⟩,d⟩,f,e⟩:=h;unfold mr at a b;refine⟨⟨?_,?_,?_,e,d⟩,?_⟩
 ·show 1<=c.a2.toNat/\c.a2.toNat<=32;omega
 ·show 1<=c.W.toNat/\c.W.toNat<=32;omega
 ·show 1<=c.c4.toNat/\c.c4.toNat<=4;omega
 unfold bo.enc eH.enc UC;simp only;rw[show((c.a2.toNat:Nat):Int)=c.a2 by omega,show((c.W.toNat:Nat):Int)=c.W by omega,show((c.c4.toNat:Nat):Int)=c.c4 by omega]
def Jy:∀{a b:List bp},a.Pairwise (λx y=>x.Id<y.Id)->b.Pairwise (λx y=>x.Id<y.Id)->(∀x,x∈a↔x∈b)->a=b
 | [],[],_,_,_=>rfl
 | [],y::b,_,_,h=>by have:=(h y).2 (C3 ..);cases this
 | x::a,[],_,_,h=>by have:=(h x).1 (C3 ..);cases this
 | x::a,y::b,d,f,h=>by
  rw[List.pairwise_cons]at d f;have g:x=y:=by
   rcases List.mem_cons.1 ((h x).1 (C3 ..)) with e|e
   ·exact e
   rcases List.mem_cons.1 ((h y).2 (C3 ..)) with i|i
   ·exact i.symm
   have j:=f.1 x e;have k:=d.1 y i;omega
  subst g;rw[Jy d.2 f.2 λz=>?_];constructor
  ·intro c
   rcases List.mem_cons.1 ((h z).1 (OA _ c)) with e|e
   ·subst e;have:=d.1 z c;omega
   exact e
  intro c;rcases List.mem_cons.1 ((h z).2 (OA _ c)) with e|e
  ·subst e;have:=f.1 z c;omega
  exact e
def BZ{h:ac}(c:cz h=true):h.K.Pairwise λo d=>o.Id≠d.Id:=by
 rw[List.pairwise_iff_getElem];intro i j a b f e;refine W8 c a b ω ?_;rw[bk (Z3 a),bk (Z3 b)];exact e
def xC{h:ac}(e:cz h=true):∀n:Nat,(ec h n).Pairwise λx y=>x.Id<y.Id
 | 0=>List.Pairwise.nil
 | n+1=>by
  rw[ec,List.pairwise_append];refine⟨xC e n,?_,λx i y j=>?_⟩
  ·rw[List.pairwise_map]
   refine List.Pairwise.imp_of_mem ?_ ((BZ e).filter _);intro o f g k a;have b:=(S8.1 g).2;have c:=(S8.1 k).2;unfold dS at b c;rw[C0]at b c;exact absurd (b.trans c.symm) a
  obtain⟨o,-,⟨m,l,g⟩,rfl⟩:=rg.1 i;obtain⟨f,d,rfl⟩:=O8.1 j;have:=(S8.1 d).2;unfold dS at this;rw[C0]at this;show o.Id<f.Id;omega
def AS{h:ac}(a:cz h=true){b:List bp}(f:b.Perm (h.K.map (nM h.G)))(g:b.Pairwise λx y=>x.Id<=y.Id):b=gI h:=by
 have i:=rZ a;unfold gI;rw[CJ a];refine Jy ?_ (xC a _) λx=>?_
 ·have d:b.Pairwise λx y=>x.Id≠y.Id:=by
   refine(f.pairwise_iff (fun {x y} h=>Ne.symm h)).2 ?_;rw[List.pairwise_map];exact(BZ a).imp λh=>h
  exact(g.and d).imp λh=>ω
 rw[f.mem_iff,rg,O8];constructor
 ·rintro⟨o,c,e⟩
  have:=i o c;exact⟨o,c,⟨o.Id.toNat,ω,ω⟩,e⟩
 rintro⟨o,c,-,e⟩
 exact⟨o,c,e⟩
end Go.Proofs.YtfdfgipemcbekaaGreatDoor.Ab
namespace Go.Proofs
open Go.Shelf
def Tryz.sortFact_ren : Go.Shelf.Ren:=⟨fun|6=>37|15=>92|14=>91|28=>188|29=>189|20=>180|21=>181|22=>182|23=>183|24=>184|25=>185|26=>186|27=>187|46=>279|47=>280|48=>281|49=>282|50=>283|57=>358|n=>n, fun|22=>26|24=>82|25=>104|3=>3|39=>150|0=>0|53=>239|55=>241|4=>4|46=>233|45=>232|50=>105|5=>5|9=>9|66=>299|70=>213|76=>344|77=>121|n=>n, fun|n=>n⟩
theorem Tryz.sortFact : Go.Proofs.SlLaysF0.n6 Tryz.prog Tryz.sortFact_ren:={
 mixed:=by kernel_rfl
 f6:=⟨Tryz.f37.name, by decide, Tryz.func37.trans (congrArg some (by kernel_rfl))⟩
 f14:=⟨Tryz.f91.name, by decide, Tryz.func91.trans (congrArg some (by kernel_rfl))⟩
 f15:=Tryz.func92.trans (congrArg some (by kernel_rfl))
 f20:=⟨Tryz.f180.name, by decide, Tryz.func180.trans (congrArg some (by kernel_rfl))⟩
 f21:=⟨Tryz.f181.name, by decide, Tryz.func181.trans (congrArg some (by kernel_rfl))⟩
 f22:=⟨Tryz.f182.name, by decide, Tryz.func182.trans (congrArg some (by kernel_rfl))⟩
 f23:=⟨Tryz.f183.name, by decide, Tryz.func183.trans (congrArg some (by kernel_rfl))⟩
 f24:=⟨Tryz.f184.name, by decide, Tryz.func184.trans (congrArg some (by kernel_rfl))⟩
 f25:=⟨Tryz.f185.name, by decide, Tryz.func185.trans (congrArg some (by kernel_rfl))⟩
 f26:=⟨Tryz.f186.name, by decide, Tryz.func186.trans (congrArg some (by kernel_rfl))⟩
 f27:=⟨Tryz.f187.name, by decide, Tryz.func187.trans (congrArg some (by kernel_rfl))⟩
 f28:=Tryz.func188.trans (congrArg some (by kernel_rfl))
 f29:=Tryz.func189.trans (congrArg some (by kernel_rfl))
 f46:=⟨Tryz.f279.name, by decide, Tryz.func279.trans (congrArg some (by kernel_rfl))⟩
 f47:=Tryz.func280.trans (congrArg some (by kernel_rfl))
 f48:=Tryz.func281.trans (congrArg some (by kernel_rfl))
 f49:=⟨Tryz.f282.name, by decide, Tryz.func282.trans (congrArg some (by kernel_rfl))⟩
 f50:=⟨Tryz.f283.name, by decide, Tryz.func283.trans (congrArg some (by kernel_rfl))⟩
 f57:=⟨Tryz.f358.name, by decide, Tryz.func358.trans (congrArg some (by kernel_rfl))⟩
 t0:=Tryz.underlying0
 a0:=Tryz.isAgg0
 z0:=Tryz.sizeOf0
 v0:=Tryz.zeroValue0
 t3:=Tryz.underlying3
 a3:=Tryz.isAgg3
 z3:=Tryz.sizeOf3
 v3:=Tryz.zeroValue3
 t4:=Tryz.underlying4
 a4:=Tryz.isAgg4
 z4:=Tryz.sizeOf4
 v4:=Tryz.zeroValue4
 t5:=Tryz.underlying5
 a5:=Tryz.isAgg5
 z5:=Tryz.sizeOf5
 v5:=Tryz.zeroValue5
 t9:=Tryz.underlying9
 a9:=Tryz.isAgg9
 z9:=Tryz.sizeOf9
 v9:=Tryz.zeroValue9
 t22:=Tryz.underlying26
 a22:=Tryz.isAgg26
 z22:=Tryz.sizeOf26
 v22:=Tryz.zeroValue26
 t25:=Tryz.underlying104
 a25:=Tryz.isAgg104
 z25:=Tryz.sizeOf104
 v25:=Tryz.zeroValue104
 t39:=Tryz.underlying150
 a39:=Tryz.isAgg150
 z39:=Tryz.sizeOf150
 v39:=Tryz.zeroValue150
 t45:=Tryz.underlying232
 a45:=Tryz.isAgg232
 z45:=Tryz.sizeOf232
 v45:=Tryz.zeroValue232
 t46:=Tryz.underlying233
 a46:=Tryz.isAgg233
 z46:=Tryz.sizeOf233
 v46:=Tryz.zeroValue233
 t50:=Tryz.underlying105
 a50:=Tryz.isAgg105
 z50:=Tryz.sizeOf105
 v50:=Tryz.zeroValue105
 t53:=Tryz.underlying239
 a53:=Tryz.isAgg239
 z53:=Tryz.sizeOf239
 v53:=Tryz.zeroValue239
 t55:=Tryz.underlying241
 a55:=Tryz.isAgg241
 z55:=Tryz.sizeOf241
 v55:=Tryz.zeroValue241
 t66:=Tryz.underlying299
 a66:=Tryz.isAgg299
 z66:=Tryz.sizeOf299
 v66:=Tryz.zeroValue299
 t70:=Tryz.underlying213
 a70:=Tryz.isAgg213
 z70:=Tryz.sizeOf213
 v70:=Tryz.zeroValue213
 t76:=Tryz.underlying344
 a76:=Tryz.isAgg344
 z76:=Tryz.sizeOf344
 v76:=Tryz.zeroValue344
 t77:=Tryz.underlying121
 a77:=Tryz.isAgg121
 z77:=Tryz.sizeOf121
 v77:=Tryz.zeroValue121 }
end Go.Proofs
namespace Go.Proofs.YtfdfgipemcbekaaGreatDoor.Ab
open Go.RowKit
set_option maxRecDepth 20000
set_option maxHeartbeats 4000000
def clp(z:Int):Int:=if z<0 then 0 else if 1000000<z then 1000000 else z
def TW(z:Int):0<=clp z/\clp z<=1000000:=by unfold clp;split<;>(try split)<;>omega
def Hy{z:Int}(h:0<=z/\z<=1000000):clp z=z:=by unfold clp;rw[CI ω,CI ω]
def tg(x:bp):List Value:=[.int .i64 (clp x.Id),.int .i64 x.k,.int .i64 x.c9]
def MG(x y:bp):Int:=clp x.Id - clp y.Id
def Yn(x y:bp):Go.Proofs.ltOf MG x y=decide (clp x.Id<clp y.Id):=by
 unfold Go.Proofs.ltOf MG;rw[decide_eq_decide];omega
def Y3:Go.Sort.SWO (Go.Proofs.ltOf MG) where
 irrefl x:=by rw[Yn];simp
 trans x y z h1 h2:=by rw[Yn]at *;simp at *;omega
 ntrans x y z h1 h2:=by rw[Yn]at *;simp at *;omega
def Uz(x y:bp)(W:World):Calls Tryz.prog 38 #[.agg #[.int .i64 (clp x.Id),.int .i64 x.k,.int .i64 x.c9],.agg #[.int .i64 (clp y.Id),.int .i64 y.k,.int .i64 y.c9]] W λe g=>e=.returned (.int .i64 (MG x y))/\∃q c,g=Sort.grow (W.drewN q) c:=by
 have h:=TW x.Id;have i:=TW y.Id;have d:IntKind.i64.wrap (clp x.Id - clp y.Id)=MG x y:=fH ω ω;generalize MG x y=r at d |-;generalize clp x.Id=a at d |-;generalize clp y.Id=b at d |-
 go_enter Tryz.func38,Tryz.ntmps38
 go_wp2
 go_ret
 refine⟨?_,0,_,by rw[Sort.alloc_eq_grow,Sort.alloc_eq_grow,Sort.grow_grow];rfl⟩
 rfl
def JJ{w a:World}{g n:Nat}{d:Array Value}{os:Array Obj}{c:Array Value}{e:TypeId}{j:Nat × Nat}(k:w.heap[g]? = some (.cells c e j))(o:a=Sort.grow (Sort.putRow id (Sort.ahead w n) g 0 d) os) :
  a.os=w.os/\a.tape=w.tape/\a.output=w.output/\w.heap.size<=a.heap.size/\(∀b,b<w.heap.size->b≠g->a.heap[b]? = w.heap[b]?)/\a.heap[g]? = some (.cells (Sort.putCells id 0 d c) e j):=by
 subst o;have f:g<w.heap.size:=(O6.1 k).1;have l:∀b,b<w.heap.size->(Sort.grow (Sort.putRow id (Sort.ahead w n) g 0 d) os).heap[b]? = if g=b then(w.heap[b]?).map (Sort.onCells (Sort.putCells id 0 d)) else w.heap[b]?:=λb h=>by
  rw[Sort.heap_grow_old _ _ (by simpa[Sort.putRow,Sort.mapBlock,Sort.ahead] using h)];show(w.heap.modify g _)[b]? = _;rw[Array.getElem?_modify]
 refine⟨rfl,rfl,rfl,?_,λb h i=>?_,?_⟩
 ·show w.heap.size<=((w.heap.modify g _)++os).size
  simp
 ·rw[l b h,CI λe=>i e.symm]
 rw[l g f,CJ rfl,k];rfl
def Rk(d:Array Value)(c:Array Value)(q:Nat):(Sort.putCells id 0 d c)[q]? = if q<d.size then(c[q]?).map (λ_=>d[q]!) else c[q]?:=by
 unfold Sort.putCells;rw[Array.getElem?_mapIdx];by_cases h:q<d.size
 ·rw[CJ h]
  cases c[q]? with
  | none=>rfl
  | some y=>simp[h]
 rw[CI h];cases c[q]? with
 | none=>rfl
 | some y=>simp[h]
def uj:Value:=.func (.func 38) #[] #[]
def Jh(xs:List bp)(q:Nat):Value:=(tg (nth xs (q / 3)))[q % 3]!
def GZ{xs:List bp}{i j:Nat}(a:j<3):Jh xs (i*3+j)=(tg (nth xs i))[j]!:=by
 unfold Jh;rw[show(i*3+j) / 3=i by omega,show(i*3+j) % 3=j by omega]
def AN(d:Array bp)(i:Nat):d[i]! = nth d.toList i:=by
 unfold nth;rw[O4,Array.getElem?_toList,getElem!_def];cases d[i]?<;>rfl
def Km(d:Array bp){q:Nat}(a:q<d.size*3):(Sort.flatK tg 3 d)[q]! = Jh d.toList q:=by
 rw[Sort.get_flatK _ _ _ _ a,AN];rfl
def zz(xs ys:List bp)(hr:∀x∈xs,0<=x.Id/\x.Id<=1000000)(hl:xs.length<=1048576*64)(hys:∀U:List bp,U.Perm xs->U.Pairwise (λx y=>x.Id<=y.Id)->U=ys) :
  zzB 37 false [.mut none (dN .own xs),.val none [.v uj]] [.mut none (dN .own ys),.val none [.v uj]] (.tup []) []:=by
 refine⟨⟨_,Tryz.func37,by kernel_rfl,by kernel_rfl⟩,λw S V vs hS hV hVV hA=>?_⟩
 match vs,hA with
 | [v,v2],⟨hA,hA2,_⟩=>
  have hv2:v2=uj:=by
   obtain⟨-,u,rfl,l⟩:=(show bm w S NO none [C.v uj] v2 from hA2)
   obtain⟨f,H,-,-⟩:=l;have:=H 0 _ rfl;have hz:u 0=uj:=by
    generalize u 0=z at this;cases this
    rfl
   exact hz
  subst hv2;have W:=bm.rep1 (show bm w S (V 0) none [C.s .own (xs.map (bp.enc .own))] v from hA);generalize N:C.s .own (xs.map (bp.enc .own))=cc at W;cases W with
  | nil _ o a ho=>
   cases X:xs with
   | cons x xs'=>rw[X]at N;cases N
   | nil=>
    have hy0:ys=[]:=(hys [] (by rw[X]) List.Pairwise.nil).symm;refine(AnyF.slices_SortFunc_none Tryz.sortFact a 0 uj w).mono λe p ⟨he,hw'⟩=>?_
    subst hw';refine⟨.tuple #[],he,Cj _ _,NO,λ_=>NO,NO,λ_ _ h=>h.elim,λ_ _ _ h=>h.elim,λ_ _ h=>h.elim,λ_ _ _ _ _ h=>h.elim,λ_ _ _ h=>h.elim,λ_ _ h=>h.elim,λ_ _ _ h=>h.elim,⟨#[],rfl,tV1,rfl⟩,cw.nil _ _ _ _,⟨⟨rfl,λ_=>.slice a 0 0,rfl,row1 (by rw[hy0];exact .nil _ .own _ tV1)⟩,tV1,tV1⟩⟩
  | own _ o g k n J rows u f ho hn hk O hpos hF hu hf hd hc=>
   cases N;have hnx:n=xs.length:=by rw[<-hn,Z1]
   have hx0:0<xs.length:=ω
   have hk3:k=3:=by
    have:=hk (bp.enc .own xs[0]) (O8.2 ⟨_,List.getElem_mem hx0,rfl⟩);exact this.symm
   subst hk3 hnx;have P:∀q,q<xs.length*3->cel w g q=some (Jh xs q):=λq B=>by
    have H:=hu q B;have L:q / 3<xs.length:=ω
    have l:(xs.map (bp.enc .own))[q / 3]? = some (bp.enc .own (nth xs (q / 3))):=by rw[Z5,ar L];rfl
    have hid:=Hy (hr _ (ax L));have h3:q % 3=0\/q % 3=1\/q % 3=2:=ω
    have K:q / 3*3+q % 3=q:=ω
    unfold Jh tg;rw[H,hid];rcases h3 with e|e|e
    ·have D:=hc (q / 3) 0 _ (I (nth xs (q / 3)).Id) l rfl
     rw[e];rw[e]at K;rw[K]at D;generalize u q=z at D;cases D
     rfl
    ·have D:=hc (q / 3) 1 _ (I (nth xs (q / 3)).k) l rfl
     rw[e];rw[e]at K;rw[K]at D;generalize u q=z at D;cases D
     rfl
    have D:=hc (q / 3) 2 _ (I (nth xs (q / 3)).c9) l rfl;rw[e];rw[e]at K;rw[K]at D;generalize u q=z at D;cases D
    rfl
   have hgs:g<w.heap.size:=(hV 0 g 0 (hF 0 ω).1).1;obtain⟨c,e0,fr,hg,-⟩:=Sort.cells_of_cell? (P 0 ω);have hH:Sort.HoldsK tg 3 w g 0 xs.toArray:=λq B=>by
    have hq':q<xs.length*3:=by simpa using B
    refine⟨?_,?_⟩
    ·rw[Km _ (by simpa using hq'),OD];exact P q hq'
    rw[OD];exact I1 Prod.fst (hF q (I7 hq' (CE 3 O))).2.2
   have Y:=AnyQ.slices_SortFunc Tryz.sortFact 3 Tryz.isAgg82 Tryz.sizeOf82 tg (λ_=>rfl) (λx v hv=>by simp[tg]at hv;rcases hv with rfl|rfl|rfl<;>rfl) MG Y3 38 #[] g 0 J xs.toArray w (enters_of Tryz.func38 ϖ rfl) (λ_ _ _ _ x y=>Uz x y _) hH hgs kd;rw[show xs.toArray.size=xs.length from by simp]at Y;refine Calls.mono (show Calls Tryz.prog 37 #[.slice (some ⟨g,0,none⟩) xs.length J,uj] w _ from Y) λe p ⟨he,M,m,os,hp,hsd,hw'⟩=>?_
   obtain⟨q1,q2,q3,q4,q5,q6⟩:=JJ hg (show p=Sort.grow (Sort.putRow id (Sort.ahead w m) g 0 (Sort.flatK tg 3 M)) os from hw');obtain⟨p1,-,p3⟩:=hp;have hsz:M.size=xs.length:=by simpa using p1
   have hzl:M.toList.length=xs.length:=by simpa using hsz
   have E:M.toList.Perm xs:=by
    have H:(M.extract 0 xs.length).toList=M.toList:=by rw[<-hsz];simp
    have D:(xs.toArray.extract 0 xs.length).toList=xs:=by simp
    rwa [H,D]at p3
   have T:∀y∈M.toList,0<=y.Id/\y.Id<=1000000:=λy hy=>hr y (E.mem_iff.1 hy)
   have Q:M.toList.Pairwise λx y=>x.Id<=y.Id:=by
    rw[List.pairwise_iff_getElem];intro i j L F hij;have H:=hsd i j (C1 _) hij ω;rw[AN,AN,bk (Z3 L),bk (Z3 F),Yn,Hy (T _ (List.getElem_mem L)),Hy (T _ (List.getElem_mem F))]at H;have:=of_decide_eq_false H;omega
   have hzy:=hys _ E Q;generalize hzz:M.toList=U at hzl E T Q hzy;subst hzy;have R:∀q,cel w g q=c[q]?:=λq=>by show World.cell? w _=_;unfold World.cell?;simp[hg]
   have G:∀q,cel p g q=if q<xs.length*3 then(c[q]?).map (λ_=>Jh U q) else c[q]?:=λq=>by
    have H:=Rk (Sort.flatK tg 3 M) c q;have D:(Sort.flatK tg 3 M).size=xs.length*3:=by rw[Sort.size_flatK,hsz]
    rw[D]at H;have h3:cel p g q=(Sort.putCells id 0 (Sort.flatK tg 3 M) c)[q]?:=by show World.cell? p _=_;unfold World.cell?;simp[q6]
    rw[h3,H];by_cases B:q<xs.length*3
    ·rw[CJ B,CJ B,Km _ ω,hzz]
    rw[CI B,CI B]
   have d:∀q,q<xs.length*3->cel p g q=some (Jh U q):=λq B=>by
    have H:=P q B;rw[R]at H;rw[G,CJ B,H,IA]
   have Z:∀q,fro p g q=fro w g q:=λq=>by
    refine Prod.ext ?_ ?_
    ·show World.frozen? p _=World.frozen? w _
     unfold World.frozen?;simp[q6,hg]
    show mp p g=mp w g;unfold mp;rw[q6,hg];simp only[Sort.putCells,Array.size_mapIdx]
   have hother:∀b,b<w.heap.size->b≠g->∀o,cel p b o=cel w b o/\fro p b o=fro w b o:=λb hb hne o=>by
    have hb':=q5 b hb hne;refine⟨?_,Prod.ext ?_ ?_⟩
    ·show World.cell? p _=World.cell? w _
     unfold World.cell?;simp only[hb']
    ·show World.frozen? p _=World.frozen? w _
     unfold World.frozen?;simp only[hb']
    show mp p b=mp w b;unfold mp;rw[hb']
   have hcap3:∀q,q<xs.length*3->q<J*3:=λq B=>I7 B (CE 3 O)
   have hkeep:bu (λb o=>∃i,V i b o) w p:=by
    refine⟨q1,q2,q3,q4,λb hb hn=>q5 b hb λe=>?_,λb o hb hn=>?_,λb o hb hn=>?_⟩
    ·subst e;exact hn 0 ⟨0,(hF 0 ω).1⟩
    ·by_cases e:b=g
     ·subst e
      have ho:¬o<xs.length*3:=λh=>hn ⟨0,(hF o (hcap3 o h)).1⟩
      rw[G,CI ho,R]
     exact(hother b hb e o).1
    by_cases e:b=g
    ·subst e;exact Z o
    exact(hother b hb e o).2
   refine⟨.tuple #[],he,hkeep,NO,YP (V 0),NO,λ_ _ h=>h.elim,λi b o h=>?_,λ_ _ h=>h.elim,λi i' hne b o h h'=>?_,λ_ _ _ h=>h.elim,λ_ _ h=>h.elim,λ_ _ _ _ h=>h.elim,⟨#[],rfl,tV1,rfl⟩,cw.nil _ _ _ _,⟨⟨rfl,λ_=>.slice (some ⟨g,0,none⟩) xs.length J,rfl,row1 ?_⟩,tV1,tV1⟩⟩
   ·cases i with
    | zero=>exact .inl ⟨0,h⟩
    | succ i=>exact h.elim
   ·cases i with
    | zero=>
     cases i' with
     | zero=>exact hne rfl
     | succ i'=>exact h'.elim
    | succ i=>exact h.elim
   show cU p _ (V 0) _ _;refine .own _ .own g 3 xs.length J _ (λq=>(cel p g q).getD undef) (λ_=>NO) tV1 (by rw[Z1,hzl]) (λr hr=>by obtain⟨z,-,rfl⟩:=O8.1 hr;rfl) O hpos (λq B=>?_) (λq B=>?_) (λ_ _ _ _ h=>h.elim) (λ_ _ _ _ _ _ _ h=>h.elim) (λi j r c2 L F=>?_)
   ·obtain⟨a1,⟨z,a2,a3⟩,a4⟩:=hF q B
    refine⟨a1,?_,(Z q).trans a4⟩;by_cases hqx:q<xs.length*3
    ·refine⟨_,d q hqx,?_⟩
     have h3:q % 3=0\/q % 3=1\/q % 3=2:=ω
     unfold Jh tg;rcases h3 with e|e|e<;>rw[e]<;>rfl
    rw[G,CI hqx,<-R];exact⟨z,a2,a3⟩
   ·rw[d q B];rfl
   rw[Z5]at L;have hil:i<U.length:=by
    rcases Nat.lt_or_ge i U.length with h|h
    ·exact h
    rw[I4 h]at L;cases L
   rw[ar hil]at L;simp only[IA,O1]at L;subst L;have hid:=Hy (T _ (ax hil))
   match j,F with
   | 0,F=>
    simp only[bp.enc,List.getElem?_cons_zero,O1]at F;subst F;simp only[d (i*3+0) ω,Option.getD_some,GZ (show 0<3 by omega),tg,hid];exact .v _ _ rfl
   | 1,F=>
    simp only[bp.enc,List.getElem?_cons_succ,List.getElem?_cons_zero,O1]at F;subst F;simp only[d (i*3+1) ω,Option.getD_some,GZ (show 1<3 by omega),tg];exact .v _ _ rfl
   | 2,F=>
    simp only[bp.enc,List.getElem?_cons_succ,List.getElem?_cons_zero,O1]at F;subst F;simp only[d (i*3+2) ω,Option.getD_some,GZ (show 2<3 by omega),tg];exact .v _ _ rfl
   | j+3,F=>simp[bp.enc]at F
  | suf _ o g off k n J rows u f ho=>cases N;exact ho.elim
  | _=>cases N
set_option maxHeartbeats 2000000
theorem QC(a b:bp)(c:bp.sml a):zzA 21 false [.val (some 3) (bp.enc .R a),.val (some 3) (bp.enc .R b)] .one [B (decide (a=b))]:=by
 refine fO 20 [] Tryz.func21 rfl ?_
 repeat'(first|refine gP ?_|refine gS (λh=>?_) (λh=>?_)|fail)
 all_goals first|(show [B false]=[B (decide (a=b))];refine bY (Z0 λe=>?_).symm;subst e;contradiction)|(show [B true]=[B (decide (a=b))];refine bY (O0 ?_).symm;cases a;cases b;simp_all)
theorem MZ(a b:List bp)(p:rH a):zzA 8 false [.val none (dN .R a),.val none (dN .R b)] .one [B (decide (a=b))]:=by
 refine fO 27 [ρ 6 10 17] Tryz.func8 rfl ?_;have r:a.length<=1048576:=p.1
 repeat'(first|refine gP ?_|refine gS (λh=>?_) (λh=>?_)|fail)
 ·refine bY (Z0 λe=>?_).symm
  subst e;omega
 have k:a.length=b.length:=ω
 (conv=>whnf)
 refine gl a.length (λi=>[(0,bK (dN .R a)),(1,bK (dN .R b)),(5,fN i)]) (λi=>∀j,j<i->a[j]? = b[j]?) (λj q=>ω) λi l=>?_
 obtain⟨l,c⟩:=l;by_cases g:i<a.length
 ·obtain⟨x,n⟩ : ∃x,a[i]? = some x:=⟨_,Z3 g⟩
  obtain⟨y,o⟩ : ∃y,b[i]? = some y:=⟨_,Z3 ω⟩
  repeat'(first|refine gE ?_|refine gS (λh=>?_) (λh=>?_)|apply CF (QC x y tV1))
  all_goals first
   |(show [B false]=[B (decide (a=b))]
     refine bY (Z0 λe=>?_).symm;subst e
     simp_all)
   | ((conv=>whnf)
      refine CP (i+1) ⟨ω,λj q=>?_⟩ ω ?_
      · rcases Nat.lt_or_ge j i with d|d
        · exact c j d
        obtain rfl:j=i:=ω
        rw[n,o]
        simp_all
      exact wA)
 refine σE ?_
 refine bY (O0 ?_).symm;refine List.ext_getElem? λj=>?_
 rcases Nat.lt_or_ge j i with d|d
 ·exact c j d
 rw[I4 ω,I4 ω]
def G5(x:List bp)(k:Int)(l:rH x)(o:0<=k)(h1:k+(fJ x:Nat)<=1099511627776):zzB 11 false [.mut none (dN .own x),.vI k] [.mut none (dN .own (fA x k)),.val none []] .one [I (k+(fJ x:Nat))]:=by
 have q:x.length<=1048576:=l.1;have a:((fA x k).map (bp.enc .own)).length=(x.map (bp.enc .own)).length:=by simp[mt]
 refine fM 34 [] [] [(0,0),(0,0)] Tryz.func11 rfl (λu p=>?_)
 refine σP ?_
 refine Lp.mk (ι:=Nat) (λi=>[(0,bK [.s (.tag (u 0 0)) (uD ((fA x k).map (bp.enc .own)) (x.map (bp.enc .own)) i)]),(1,fI (k+(dL x i:Nat))),(5,fN i)]) (λi=>i<=x.length) (λi=>x.length - i) 0 ?_ (C1 _) λi r=>?_
 ·rw[Br,mw]
  repeat'(first|exact tV1|rfl|exact CQ rfl (CQ (I1 I ω) tV1)|refine CQ ?_ ?_)
 have b:=(Pi a i).trans (show(x.map (bp.enc .own)).length=x.length by simp);by_cases g:i<x.length
 ·obtain⟨y,h⟩ : ∃y,x[i]? = some y:=⟨_,Z3 g⟩
  have c:=H3 a i kd;rw[aa h]at c;have j:=m8 x k i y h;have d:=mH x i y h;have e:=pq x (i+1);rw[d]at e;simp only[bp.cnt]at d e
  repeat'(first|refine gE ?_|with_reducible (first|refine CV b ?_|refine CH c ?_)|refine CS rfl rfl c rfl δ rfl ?_|refine CS rfl rfl (oR c) rfl δ rfl ?_|refine CS rfl rfl (oR (oR c)) rfl δ rfl ?_|refine CH (oR c) ?_|refine CH (oR (oR c)) ?_|refine CP (i+1) ω ω ?_)
  repeat'(first|exact tV1|rfl|exact CQ rfl (CQ (I1 (C.s _) (by first|exact uL a (aa j)|(simp only[List.set_set];exact uL a (aa j)))) tV1)|exact CQ rfl (CQ (I1 I (by first|omega|(simp only[bp.cnt]at d;omega))) tV1)|refine CQ ?_ ?_)
 repeat'(first|refine gE ?_|with_reducible refine CV b ?_|refine CM rfl ?_ ?_)
 ·have n:i=x.length:=ω
  subst n;exact nr (by rw[nX])
 rw[FY _ a kd]
 repeat'(first|exact tV1|exact rfl|refine CQ ?_ ?_)
def GX(x:List bp)(k:Int)(e:rH x)(n:0<=k)(h1:k+(fJ x:Nat)<=1099511627776):zzA 12 false [.val none (dN .R (fA x k)),.vI k] .one [I (k+(fJ x:Nat))]:=by
 have o:x.length<=1048576:=e.1;have g:=mt x k;refine fO 40 [] Tryz.func12 rfl ?_
 refine σP ?_
 refine Lp.mk (ι:=Nat) (λi=>[(0,bK (dN .R (fA x k))),(1,fI (k+(dL x i:Nat))),(5,fN i)]) (λi=>i<=x.length) (λi=>x.length - i) 0 ?_ (C1 _) λi p=>?_
 ·rw[mw]
  repeat'(first|exact tV1|rfl|exact CQ rfl (CQ (I1 I ω) tV1)|refine CQ ?_ ?_)
 by_cases c:i<x.length
 ·obtain⟨y,d⟩ : ∃y,x[i]? = some y:=⟨_,Z3 c⟩
  have j:=m8 x k i y d;have a:=mH x i y d;have b:=pq x (i+1);rw[a]at b;simp only[bp.cnt]at a b
  repeat'(first|refine gB ?_|refine Bf.N (λh=>absurd rfl h) (λh=>?_)|refine CP (i+1) ω ω ?_)
  repeat'(first|exact tV1|rfl|exact CQ rfl (CQ (I1 I (by first|omega|(simp only[bp.cnt]at a;omega))) tV1)|refine CQ ?_ ?_)
 refine σB ?_
 have l:i=x.length:=ω
 subst l;exact nr (by rw[nX])
def Gb(h:ac)(l:ac.sml h):zzA 20 false [ν h] .one (dN .own (gI h)):=by
 have c:=cR h l;rw[ed]at c;have p:h.K.length<=1048576:=l.2.2.2.2.1.1;cases a:cz h<;>rw[a]at c
 ·rw[show gI h=[] by unfold gI;rw[a];rfl]
  refine fP 53 [(37,[1,0])] [] Tryz.func20 rfl ?_ (.inr (gz _))
  repeat'(first|refine σQ ?_|refine CF (c) ?_)
  exact⟨rfl,tV1⟩
 have n:=wg a;have d:=rZ a;have r:=yZ a;refine fP 53 [(37,[1,0])] [] Tryz.func20 rfl ?_ (.inr (gz _))
 repeat'(first|refine σQ ?_|refine CF (c) ?_)
 (conv=>whnf)
 refine lp0 h.K.length (λi=>[(1,bF (ac.enc .R h)),(3,bK (dN .own ((h.K.take i).map (nM h.G)))),(14,bK (m6 .R h.K)),(15,fI h.K.length),(16,fN i)]) λi H=>?_
 by_cases e:i<h.K.length
 ·have g:=ar e
  obtain⟨J,K,L,M,N,O,-⟩:=vS a e;have t:=G1 h (nth h.K i).U (nth h.K i).k n ω ω;have u:=ng h.G (nth h.K i).U (nth h.K i).k.toNat
  refine σE ?_
  refine lp0 ((nth h.K i).k.toNat) (λq=>[(1,bF (ac.enc .R h)),(3,bK (dN .own ((h.K.take i).map (nM h.G)))),(14,bK (m6 .R h.K)),(15,fI h.K.length),(16,fN i),(5,bF (bc.enc .R (nth h.K i))),(6,fI (uX (cellsOf h.G (nth h.K i).U (nth h.K i).k.toNat) q)),(25,bK (aE .own (cellsOf h.G (nth h.K i).U (nth h.K i).k.toNat))),(26,fI ((nth h.K i).k.toNat)),(27,fN q)]) λq P=>?_
  have w:=Pc (cellsOf h.G (nth h.K i).U (nth h.K i).k.toNat) q;by_cases y:q<(nth h.K i).k.toNat
  ·have j:=xL h.G (nth h.K i).U y
   have B:=FA n ((nth h.K i).U+(q:Int));have D:=KL (k:=(q:Int)+1) B ω;have b:(uX (cellsOf h.G (nth h.K i).U (nth h.K i).k.toNat) q+((q:Int)+1)*jV h.G ((nth h.K i).U+(q:Int))).tmod 9973=uX (cellsOf h.G (nth h.K i).U (nth h.K i).k.toNat) (q+1):=by
    rw[dy ω,uX,bk j]
   repeat'(first|refine gE ?_|apply CT qs|apply CY b)
   (exact cV (q+1) ω)
  obtain rfl:q=(nth h.K i).k.toNat:=ω
  repeat'(first|refine gE ?_|refine Ap.sl (aI λ_=>rfl) rfl kd qs rfl ?_)
  refine CP (i+1) ω ω ?_;rw[fx e]
  (repeat'(first|exact tV1|rfl|exact CQ rfl (CQ (I1 (C.s ek.own) (by simp[bp.enc,nM])) tV1)|refine CQ ?_ ?_))
 obtain rfl:i=h.K.length:=ω
 rw[CA]
 repeat'(first|refine gE ?_|refine CN (zz (h.K.map (nM h.G)) (gI h) (λx g=>by obtain⟨o,E,rfl⟩:=O8.1 g;have:=d o E;exact⟨by show 0<=o.Id;omega,by show o.Id<=1000000;omega⟩) ϰ (λQ F G=>AS a F G)) (.inl rfl) ?_)
 rfl
open Go.RowKit Go.Proofs.YtfdfgipemcbekaaGreatDoor.Sp Ac Tx
noncomputable section
def wU(x:List dv × Nat × Bool):dw (n9 .own x)=n9 .R x:=by
 unfold n9;rw[bT,Qy];rfl
def UP(c:bo)(s:ByteArray):bn:=(yE (UC c) (parse s).1 (parse s).1.length).1
def YI(c:bo)(s:ByteArray):List Int:=(yE (UC c) (parse s).1 (parse s).1.length).2
def PX(c:bo)(s:ByteArray):Prop:=uh c/\(parse s).2.2=true
instance (c:bo) (s:ByteArray):Decidable (PX c s):=by unfold PX;infer_instance
def X0(c:bo)(s:ByteArray):List bp:=if PX c s then gI (UP c s).Z else []
def RP:List C:=[.z,.z,.z,I 0,.z,.z,.z,.z,.z,.z,.z,.z,I 0,.z,I 0,I 0,I 0,I 0,B false,I 0,I 0,.z,I 0,I 0,I 0,.z]
def zQ(c:bo)(s:ByteArray)(e:gp c.d)(g:s.size<=1048576)(h:PX c s):zzA 19 true [.val (some 5) (bo.enc .R c),.val none [tC s]] (.tup [some 26,none,none,none]) (bn.enc .R (UP c s)++kj .R (parse s).1++aE .own (YI c s)++[B true]):=by
 obtain⟨i,j⟩:=h;obtain⟨d,k⟩:=De i;have a:=(oB s g).fzR;rw[wU]at a;unfold n9 at a;rw[j]at a;have b:=(nZ (UC c) d).fzR;rw[bT,bn.enc_fz]at b;change am _ _ _ _ _ (_++[B true]) at b;have l:=FX (UC c) (parse s).1 d e (ED s);rw[k];unfold UP YI;refine fO 42 [] Tryz.func19 rfl ?_ (.inl rfl)
 repeat'(first|refine gP ?_|refine Cl.sh l rfl ?_)
 rfl
def z6(c:bo)(s:ByteArray)(j:c.d.length<=1048576)(k:s.size<=1048576)(h:¬PX c s):zzA 19 false [.val (some 5) (bo.enc .R c),.val none [tC s]] (.tup [some 26,none,none,none]) (RP++[.z,.z,B false]):=by
 have a:=(oB s k).fzR;rw[wU]at a;unfold n9 at a;have b:fy (RP++[.z,.z,B false]):=by unfold RP;repeat' first|exact tV1|refine CQ ?_ ?_
 by_cases g:uh c
 ·obtain⟨l,n⟩:=De g
  have i:(parse s).2.2=false:=by
   cases e:(parse s).2.2 with
   | false=>rfl
   | true=>exact absurd ⟨g,e⟩ h
  rw[i]at a;have d:=(nZ (UC c) l).fzR;rw[bT,bn.enc_fz]at d;change am _ _ _ _ _ (_++[B true]) at d;rw[n];refine fO 42 [] Tryz.func19 rfl ?_ (.inr b)
  refine σP ?_
  rfl
 have d:=xb c j g;cases i:(parse s).2.2
 all_goals
  rw[i]at a;refine fO 42 [] Tryz.func19 rfl ?_ (.inr b)
  refine σP ?_
  rfl
def FS(c:bo)(s:ByteArray)(b:gp c.d)(h:uh c):ac.sml (UP c s).Z/\ac.wf (UP c s).Z:=by
 have d:=Bx (De h).1 (parse s).1 (parse s).1.length;have a:=G4 (De h).1 (parse s).1 (parse s).1.length;exact d.fit (by unfold rfs at a;rw[a];exact b)
def xq(c:bo)(s:ByteArray)(b:gp c.d)(e:c.d.length<=1048576)(d:s.size<=1048576):zzA 7 false [.val (some 5) (bo.enc .R c),.val none [tC s]] .one (dN .own (X0 c s)):=by
 unfold X0;by_cases h:PX c s
 ·rw[CJ h]
  have a:=zQ c s b d h;have g:=Gb (UP c s).Z (FS c s b h.1).1;refine fO 22 [] Tryz.func7 rfl ?_ (.inr (gz _))
  repeat'(first|refine gP ?_|refine Cl.sh a rfl ?_)
  rfl
 rw[CI h];have a:=z6 c s e d h;refine fO 22 [] Tryz.func7 rfl ?_ (.inr (gz _))
 repeat'(first|refine σQ ?_|refine CF (a) ?_)
 exact⟨rfl,tV1⟩
def w7(c:bo)(s:ByteArray)(g:gp c.d)(l:c.d.length<=1048576)(n:s.size<=1048576):zzA 5 false [.val (some 5) (bo.enc .R c),.val none [tC s]] .one (dN .own (X0 c s)):=by
 have a:=(xh s n).fzR;rw[wU]at a;unfold n9 at a;unfold X0;by_cases b:uh c
 ·obtain⟨i,j⟩:=De b
  have e:=td (UC c) i;by_cases d:(parse s).2.2=true
  ·rw[CJ ⟨b,d⟩]
   rw[d]at a;have o:=Hm (UC c) (parse s).1 i g (ED s);have k:=GF (UP c s).Z (FS c s g b).1 (FS c s g b).2;rw[j];unfold UP at k |-;refine fO 39 [] Tryz.func5 rfl ?_ (.inr (gz _))
   repeat'(first|refine gP ?_|refine CL (k) ⟨⟨rfl,ac.enc_fz _⟩,tV1⟩ ?_)
   rfl
  rw[CI λh=>d h.2];rw[show(parse s).2.2=false by simpa using d]at a;rw[j];refine fO 39 [] Tryz.func5 rfl ?_ (.inr (gz _))
  repeat'(first|refine σQ ?_|refine CF (a) ?_|refine CF (e) ?_)
  exact⟨rfl,tV1⟩
 rw[CI λh=>b h.1];have e:=wu c l b;cases d:(parse s).2.2
 all_goals
  rw[d]at a;refine fO 39 [] Tryz.func5 rfl ?_ (.inr (gz _))
  repeat'(first|refine σQ ?_|refine CF (a) ?_|refine CF (e) ?_)
  exact⟨rfl,tV1⟩
end
set_option maxHeartbeats 2000000
def HR(x:bo)(a:bo.sml x):zzA 6 false [.val (some 5) (bo.enc .R x)] .agg (bo.enc .own x):=by
 have b:=a;refine fO 21 [] Tryz.func6 rfl ?_ (.inr (bo.enc_fr x))
 repeat'(first|refine gP ?_|apply CF (QP x.d b))
 rfl
def xy(x:bo)(left:Int)(b:0<=left)(h1:left<=1048576)(a:bo.wf x):zzA 4 false [.val (some 5) (bo.enc .R x),.vI left] .one [I (X7 (bo.sz x) left)]:=by
 obtain⟨wPages,wFrames,wThreads,wLimit,wRefuse⟩:=a;refine fO 12 [] Tryz.func4 rfl ?_
 repeat'(first|refine gE ?_|refine gS (λh=>?_) (λh=>?_)|refine Cl.sz (Qw x.d _ ω ω wRefuse) (λh=>?_) (λh=>?_))
 all_goals exact nr (by unfold X7 bo.sz;split<;>omega)
theorem J8(a b:bo)(c:bo.sml a):zzA 9 false [.val (some 5) (bo.enc .R a),.val (some 5) (bo.enc .R b)] .one [B (decide (a=b))]:=by
 have d:=c;refine fO 31 [] Tryz.func9 rfl ?_
 repeat'(first|refine gP ?_|refine gS (λh=>?_) (λh=>?_)|apply CF (PY a.d b.d d))
 all_goals first|(show [B false]=[B (decide (a=b))];refine bY (Z0 λe=>?_).symm;subst e;contradiction)|(show [B true]=[B (decide (a=b))];refine bY (O0 ?_).symm;cases a;cases b;simp_all)
def Em(x:bo)(k:Int)(a:bo.sml x)(c:0<=k)(h1:k+(bo.cnt x:Nat)<=1099511627776):zzB 10 false [.mut (some 5) (bo.enc .own x),.vI k] [.mut (some 5) (bo.enc .own (x.mark k)),.val none []] .one [I (k+(bo.cnt x:Nat))]:=by
 have b:=a;unfold bo.cnt at h1;refine fM 10 [(23,[1,0])] [] [(2,0),(0,0)] Tryz.func10 rfl (λu p=>?_)
 repeat'(first|refine gP ?_|refine CN (Lh x.d _ b ω ω) (.inl rfl) ?_|refine CM rfl ?_ ?_)
 ·exact nr (by unfold bo.cnt;omega)
 repeat'(first|exact tV1|exact rfl|refine CQ ?_ ?_)
def UZ(c:bo)(s:ByteArray)(b:gp c.d):(X0 c s).length<=1048576:=by
 unfold X0;split
 ·rename_i h
  have d:=(FS c s b h.1).1.2.2.2.2.1.1;cases a:cz (UP c s).Z with
  | true=>rw[KO a];exact d
  | false=>unfold gI;rw[a];simp
 simp
def ScriptFacts_law(c:bo)(s:ByteArray)(b:bo.wf c):zzA 3 false [.val (some 5) (bo.enc .R c),.val none [tC s]] .one [B true]:=by
 have k:0<=bo.sz c:=C1 _;by_cases h:s.size<=1048576
 ·by_cases o:(bo.sz c:Int)<=1048576
  ·have d:=bo.sml_of (x:=c) ω;have l:=bo.cnt_le c;have i:=w7 c s b.2.2.2.2 d h;have j:=xq c s b.2.2.2.2 d h;have e:=UZ c s b.2.2.2.2;generalize X0 c s=xs at i j e;have ds:rH xs:=⟨e,λ_ _=>tV1⟩
   have n:=vB xs;unfold zl at n;refine fP 77 [(10,[1,0]),(11,[1,0])] [ρ 12 3 34] Tryz.func3 rfl ?_
   repeat'(first|refine gE ?_|with_reducible (first|refine Bf.D (λa=>?_) (λa=>absurd rfl a)|refine Bf.N (λa=>absurd rfl a) (λa=>?_))|refine CV rfl ?_|refine Cl.sz (xy c 1048576 ω ω b) (λa=>absurd a ω) (λa=>?_)|apply CF (HR c d)|refine CL (i) ⟨⟨rfl,bo.enc_fz c⟩,π⟩ ?_|refine CL (j) ⟨⟨rfl,bo.enc_fz c⟩,π⟩ ?_|refine CL (MZ xs xs ds) ⟨⟨rfl,ue xs⟩,⟨rfl,ue xs⟩,tV1⟩ ?_|refine CL (J8 c c d) ⟨⟨rfl,bo.enc_fz c⟩,⟨rfl,bo.enc_fz c⟩,tV1⟩ ?_|refine CN (Em c 1 d ω ω) (.inl rfl) ?_|refine CN (G5 xs 1 ds ω ω) (.inl rfl) ?_|refine CL (GX xs 1 ds ω ω) ⟨⟨rfl,ue _⟩,π⟩ ?_)
   all_goals rfl
  refine fO 77 [ρ 12 3 34] Tryz.func3 rfl ?_
  repeat'(first|refine gE ?_|refine gS (λa=>?_) (λa=>?_)|refine CV rfl ?_|refine Cl.sz (xy c 1048576 ω ω b) (λa=>?_) (λa=>absurd a ω))
  rfl
 refine fO 77 [ρ 12 3 34] Tryz.func3 rfl ?_
 repeat'(first|refine gE ?_|refine gS (λa=>?_) (λa=>?_)|refine CV rfl ?_)
 rfl
open Go.RowKit Go.ChangeShapes Go.WideShapes Go.Deep
def ALL(w:World):af:=λb _=>b<w.heap.size
def W4{H:Type}(e:TypeId × Value->H)(P:Program)(w:World)(t n:Nat){α:Type}(enc:α->List C)(c:α->Prop):Prop:=
 ∀(fuel:Nat)(b:List Value)(x:DataW H × List MemPlace),DataW.trod e P w 0 (λ_=>true) true fuel t b=some x->b.length=n/\∃a,c a/\(enc a).length=n/\cw w (ALL w) NO (enc a) (λj=>b.getD j undef)
section
variable{H:Type}{e:TypeId × Value->H}{P:Program}{w:World}
variable{u:Nat->Value}
def row_one{S F:af}{c:C}(h:cU w S F c (u 0)):cw w S F [c] u:=
 ⟨λ_=>F,λj e a=>by cases j with
   | zero=>simp at a;subst a;exact h
   | succ j=>simp at a,λ_ _ _ _ h=>h,λj f a b d=>by simp at a b;omega⟩
variable{t:Nat}
def Xn(b:P.underlying t=some (.int .i64)):W4 e P w t 1 (rI .R) mP:=by
 intro fuel c x h;obtain⟨n,rfl,-,a⟩:=DataW.trod_int b h;refine⟨rfl,n,?_,rfl,row_one (.v _ _ rfl)⟩;unfold mP;simp only[Lit.wf,I0,C0]at a;exact a
variable{α:Type}
def pick{β:Type}(n:Nat){Q:Nat->β->Prop}(h:∀i,i<n->∃b,Q i b):∃l:List β,l.length=n/\∀i b,l[i]? = some b->Q i b:=by
 induction n with
 | zero=>exact⟨[],rfl,λi b h=>by simp at h⟩
 | succ n c=>
  obtain⟨l,d,e⟩:=c λi a=>h i ω
  obtain⟨b,f⟩:=h n ω;refine⟨l++[b],by simp[d],λi g a=>?_⟩;by_cases j:i<n
  ·rw[Z8 ω]at a;exact e i g a
  rw[C9 ω]at a;have:i - l.length=0:=by
   have:=(C4.1 a).1;simp at this;omega
  rw[this]at a;simp at a;subst a;rw[show i=n by omega];exact f
variable{n:Nat}
theorem Rt{T:Nat}{enc:α->List C}{U:α->Prop}(V:W4 e P w T n enc U)(ht:P.underlying t=some (.slice T))(hn:P.cellsOf T=n)(p:0<n) :
  W4 e P w t 1 (λxs:List α=>[.s .R (xs.map enc)]) (λxs=>xs.length<=9223372036854775807/\∀y∈xs,U y):=by
 intro fuel cs x h;rcases open_slice ht h with⟨rfl,-⟩|⟨k,len,cap,m,n',D,Pl,rfl,-,hl,hm,K,-,u⟩
 ·exact⟨rfl,[],⟨by simp,by simp⟩,rfl,row_one (.nil _ _ _ tV1)⟩
 simp only[if_true]at K;subst K;have L:0<m->k.spot=none:=λW=>by
  obtain⟨E,M,N⟩:=u 0 W;rw[hn]at M;obtain⟨_,X,F⟩:=World.cells?_some M;have:=F 0 p;rw[Z3 ω]at this;have:=World.cell?_spot this;simpa[Addr.add] using this
 have key:∀i,i<len->∃a,U a/\(enc a).length=n/\(∀d,d<n->∃z,cel w k.block (k.off+(i*n+d))=some z)/\k.spot=none/\cw w (ALL w) NO (enc a) (λd=>(cel w k.block (k.off+(i*n+d))).getD undef):=λi hil=>by
  have g:=L ω;obtain⟨E,M,N⟩:=u i ω;rw[hn]at M;obtain⟨h1,a,h3,h4,h5⟩:=V _ _ _ N;obtain⟨_,X,F⟩:=World.cells?_some M;have O:∀d,k.add d = ⟨k.block,k.off+d,none⟩:=λd=>by
   obtain⟨b,o,sp⟩:=k;simp only at g;subst g;unfold Addr.add;split<;>simp_all
  have A:∀d,d<n->cel w k.block (k.off+(i*n+d))=E[d]?:=λd J=>by
   have:=F d J;rw[Go.Deep.add_add,O]at this;exact this
  refine⟨a,h3,h4,λd J=>⟨_,by rw[A d J,Z3 ω]⟩,g,h5.congr λd J=>?_⟩;show(cel w k.block (k.off+(i*n+d))).getD undef=E.getD d undef;rw[A d ω,List.getD]
 obtain⟨l,Q,B⟩:=pick len key;refine⟨rfl,l,⟨by simp only[maxLen]at hm;omega,λy R=>?_⟩,rfl,row_one ?_⟩
 ·obtain⟨i,G⟩:=List.mem_iff_getElem?.1 R
  exact(B i y G).1
 show cU w (ALL w) NO (.s .R (l.map enc)) (.slice (some k) len m);by_cases h0:len=0
 ·subst h0
  have:l=[]:=IE Q;subst this;by_cases Y:m=0
  ·subst Y;exact .nil _ _ _ tV1
  have g:=L ω;obtain⟨b,o,sp⟩:=k;simp only at g;subst g;exact .R _ b o n 0 m [] (λ_=>undef) rfl (λr Z=>by simp at Z) hl (λq hq=>by simp at hq) (λi j r c u=>by simp at u)
 obtain⟨y0,hy0⟩ : ∃y,l[0]? = some y:=⟨_,Z3 ω⟩
 have g:=(B 0 y0 hy0).2.2.2.1;obtain⟨b,o,sp⟩:=k;simp only at g;subst g;refine .R _ b o n len m (l.map enc) (λq=>(cel w b (o+q)).getD undef) (by simpa using Q) (λr Z=>?_) hl (λq hq=>?_) (λi j r c u hj=>?_)
 ·obtain⟨y,R,rfl⟩:=O8.1 Z
  obtain⟨i,G⟩:=List.mem_iff_getElem?.1 R;exact(B i y G).2.1
 ·have hqd:q / n<len:=(Nat.div_lt_iff_lt_mul p).2 hq
  obtain⟨y,R⟩ : ∃y,l[q / n]? = some y:=⟨_,Z3 ω⟩
  obtain⟨z,S⟩:=(B _ y R).2.2.1 (q % n) (Nat.mod_lt _ p);have J:q / n*n+q % n=q:=by rw[Nat.mul_comm];exact Nat.div_add_mod q n
  rw[J]at S;exact⟨WU S,by simp only at S |-;rw[S];rfl⟩
 rw[Z5]at u;cases H:l[i]? with
 | none=>rw[H]at u;cases u
 | some y=>
  rw[H]at u;simp only[IA,O1]at u;subst u;obtain⟨f,h1,h2,-⟩:=(B i y H).2.2.2.2;have hjl:=(C4.1 hj).1;exact(h1 j c hj).mono (λ_ _ h=>h) (h2 j hjl)
variable{cs:List Value}
def vj{fs:Array Field}{fuel:Nat}{x:DataW H × List MemPlace}(l:P.underlying t=some (.struct fs))(h:DataW.trod e P w 0 (λ_=>true) true fuel t cs=some x)(i:Nat)(f:Field)(d:fs[i]? = some f){enc:α->List C}{g:α->Prop}(o:W4 e P w f.type n enc g)(p:P.cellsOf f.type=n):∃a,g a/\(enc a).length=n/\cw w (ALL w) NO (enc a) (λj=>cs.getD (f.offset+j) undef):=by
 obtain⟨B,D,q,E,k,r,b⟩:=DataW.trod_struct l h;have c:=b i f d;have F:=(O6.1 d).1;rw[Z3 ω]at c;rw[p]at c;obtain⟨G,a,u,y,A⟩:=o _ _ _ c;refine⟨a,u,y,A.congr λj J=>?_⟩;simp only[List.getD];rw[List.getElem?_take_of_lt ω,List.getElem?_drop]
def GQ{a b:List C}{o:Nat}(h1:cw w (ALL w) NO a (λj=>cs.getD (o+j) undef))(h2:cw w (ALL w) NO b (λj=>cs.getD (o+a.length+j) undef)):cw w (ALL w) NO (a++b) (λj=>cs.getD (o+j) undef):=by
 refine((zU h1 h2 λ_ _ h=>h.elim).mono (λ_ _ h=>h) (λ_ _ h=>h.elim id id)).congr λj d=>?_
 by_cases c:j<a.length
 ·rw[CJ c]
 rw[CI c];show cs.getD (o+j) undef=cs.getD (o+a.length+(j - a.length)) undef
 congr 1;omega
def valOk_agg{S:af}{cs:Array Value}{xs:List C}(h1:cs.toList.length=n)(h2:xs.length=n)(a:cw w S NO xs (λj=>cs.toList.getD j undef)):bm w S NO (some n) xs (.agg cs):=by
 refine⟨h2,_,?_,a⟩;have:=pR cs;rw[show cs.size=n by simpa using h1]at this;exact this
def row_val{S F:af}{x:Value}(h:cw w S F [.v x] u):u 0=x:=by
 obtain⟨f,a,-⟩:=h;have:=a 0 _ rfl;cases this
 rfl
end
set_option maxHeartbeats 1000000
section
variable{H:Type}{e:TypeId × Value->H}{w:World}
def A5:W4 e Tryz.prog w 3 1 (rI .R) mP:=Xn Tryz.underlying3
def VU:W4 e Tryz.prog w 22 1 (aE .R) gp:=Rt A5 Tryz.underlying22 ϖ qs
def op_DConf:W4 e Tryz.prog w 24 5 (bo.enc .R) bo.wf:=by
 intro fuel c x h;obtain⟨B,C,-,-,a,-⟩:=DataW.trod_struct Tryz.underlying24 h;obtain⟨d,w0,D,f⟩:=vj Tryz.underlying24 h 0 _ rfl A5 ϖ;obtain⟨g,w1,E,i⟩:=vj Tryz.underlying24 h 1 _ rfl A5 ϖ;obtain⟨k,l,F,n⟩:=vj Tryz.underlying24 h 2 _ rfl A5 ϖ;obtain⟨o,p,G,q⟩:=vj Tryz.underlying24 h 3 _ rfl A5 ϖ;obtain⟨r,u,H,y⟩:=vj Tryz.underlying24 h 4 _ rfl VU ϖ;have b:=(GQ f (GQ i (GQ n (GQ q y))))
 exact⟨a.trans ϖ,⟨d,g,k,o,r⟩,⟨w0,w1,l,p,u⟩,rfl,b.congr λj _=>by show c.getD j undef=c.getD (0+j) undef;rw[OD]⟩
end
end Go.Proofs.YtfdfgipemcbekaaGreatDoor.Ab
