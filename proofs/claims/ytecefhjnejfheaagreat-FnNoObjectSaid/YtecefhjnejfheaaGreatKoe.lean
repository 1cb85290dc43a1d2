/- Classes of sizes, the quarantine, used frames, pages of a frame, spans on a page: contracts, the reference's and the program's. No condition. -/
import Derived.Test.YtecefhjnejfheaaGreatKod
import Derived.Test.YtecefhjnejfheaaGreatKoShelf
import Derived.WalkKit
import Derived.Lib.SliceRun
set_option linter.unusedVariables false
set_option linter.defProp false
set_option linter.unusedSimpArgs false
set_option linter.constructorNameAsVariable false
namespace Go.Proofs.YtecefhjnejfheaaGreat.Ab
open Go.RowKit
set_option maxRecDepth 20000
set_option maxHeartbeats 4000000
def vV(xs:List aN)(pr:aN->Bool)(g:xs.length<=9223372036854775807):zzA 541 false [.val none (cx .U xs),.fn (mN Tryz.prog (rM (some 3) (aN.enc .U) pr xs))] .one [I (cu pr xs)]:=by
 refine fO 19 [] Tryz.func541 rfl ?_
 repeat'(first|refine gP ?_|fail)
 (conv=>whnf)
 refine CH (ι:=Nat) (λi=>[(0,.H .one (cx .U xs)),(1,.fv (mN Tryz.prog (rM (some 3) (aN.enc .U) pr xs))),(7,.H .one [I xs.length]),(8,.H .one [I (i:Nat)])]) (λi=>i<=xs.length/\∀(j:Nat)(z:aN),j<i->xs[j]? = some z->pr z=false) (λi=>xs.length - i) 0 ?_ ⟨X0 _,λj z h=>ω⟩ λi d=>?_
 ·exact wB
 obtain⟨d,b⟩:=d;by_cases c:i<xs.length
 ·obtain⟨y,a⟩ : ∃y,xs[i]? = some y:=⟨_,W2 c⟩
  repeat'(first|refine gE ?_|(conv=>whnf);first|refine Fv.mk (k:=.one) (rcs:=[B (pr y)]) ⟨y,I2 a,rfl,rfl,rfl⟩ ?_|refine Bf.P (λe=>?_) (λe=>?_))
  ·exact Z0 (λz=>[I z]) (dB a ‹_› b).symm
  (conv=>whnf)
  refine CG (i+1) ⟨ω,dt a (by assumption) b⟩ ω ?_;exact wB
 repeat'(first|refine gE ?_|fail)
 exact Z0 (λz=>[I z]) (fy ω b).symm
def rC(xs:List aN)(pr:aN->Bool)(a:xs.length<=9223372036854775807):zzA 491 false [.val none (cx .U xs),.fn (mN Tryz.prog (rM (some 3) (aN.enc .U) pr xs))] .one [B (xs.any pr)]:=by
 refine fO 9 [] Tryz.func491 rfl ?_
 repeat'(first|refine gP ?_|(conv=>whnf);refine C9 (vV xs pr a) ?_)
 exact Z0 (λz=>[B z]) (gT pr xs)
def wV(xs:List ax)(pr:ax->Bool)(g:xs.length<=9223372036854775807):zzA 252 false [.val none (bT .U xs),.fn (mN Tryz.prog (rM (some 3) (ax.enc .U) pr xs))] .one [I (cu pr xs)]:=by
 refine fO 19 [] Tryz.func252 rfl ?_
 repeat'(first|refine gP ?_|fail)
 (conv=>whnf)
 refine CH (ι:=Nat) (λi=>[(0,.H .one (bT .U xs)),(1,.fv (mN Tryz.prog (rM (some 3) (ax.enc .U) pr xs))),(7,.H .one [I xs.length]),(8,.H .one [I (i:Nat)])]) (λi=>i<=xs.length/\∀(j:Nat)(z:ax),j<i->xs[j]? = some z->pr z=false) (λi=>xs.length - i) 0 ?_ ⟨X0 _,λj z h=>ω⟩ λi d=>?_
 ·exact wB
 obtain⟨d,b⟩:=d;by_cases c:i<xs.length
 ·obtain⟨y,a⟩ : ∃y,xs[i]? = some y:=⟨_,W2 c⟩
  repeat'(first|refine gE ?_|(conv=>whnf);first|refine Fv.mk (k:=.one) (rcs:=[B (pr y)]) ⟨y,I2 a,rfl,rfl,rfl⟩ ?_|refine Bf.P (λe=>?_) (λe=>?_))
  ·exact Z0 (λz=>[I z]) (dB a ‹_› b).symm
  (conv=>whnf)
  refine CG (i+1) ⟨ω,dt a (by assumption) b⟩ ω ?_;exact wB
 repeat'(first|refine gE ?_|fail)
 exact Z0 (λz=>[I z]) (fy ω b).symm
def iy(xs:List bn)(pr:bn->Bool)(g:xs.length<=9223372036854775807):zzA 85 false [.val none (jF .U xs),.fn (mN Tryz.prog (rM (some 4) (bn.enc .U) pr xs))] .one [I (cu pr xs)]:=by
 refine fO 19 [] Tryz.func85 rfl ?_
 repeat'(first|refine gP ?_|fail)
 (conv=>whnf)
 refine CH (ι:=Nat) (λi=>[(0,.H .one (jF .U xs)),(1,.fv (mN Tryz.prog (rM (some 4) (bn.enc .U) pr xs))),(7,.H .one [I xs.length]),(8,.H .one [I (i:Nat)])]) (λi=>i<=xs.length/\∀(j:Nat)(z:bn),j<i->xs[j]? = some z->pr z=false) (λi=>xs.length - i) 0 ?_ ⟨X0 _,λj z h=>ω⟩ λi d=>?_
 ·exact wB
 obtain⟨d,b⟩:=d;by_cases c:i<xs.length
 ·obtain⟨y,a⟩ : ∃y,xs[i]? = some y:=⟨_,W2 c⟩
  repeat'(first|refine gE ?_|(conv=>whnf);first|refine Fv.mk (k:=.one) (rcs:=[B (pr y)]) ⟨y,I2 a,rfl,rfl,rfl⟩ ?_|refine Bf.P (λe=>?_) (λe=>?_))
  ·exact Z0 (λz=>[I z]) (dB a ‹_› b).symm
  (conv=>whnf)
  refine CG (i+1) ⟨ω,dt a (by assumption) b⟩ ω ?_;exact wB
 repeat'(first|refine gE ?_|fail)
 exact Z0 (λz=>[I z]) (fy ω b).symm
def uk(xs:List bn)(pr:bn->Bool)(a:xs.length<=9223372036854775807):zzA 247 false [.val none (jF .U xs),.fn (mN Tryz.prog (rM (some 4) (bn.enc .U) pr xs))] .one [B (xs.any pr)]:=by
 refine fO 9 [] Tryz.func247 rfl ?_
 repeat'(first|refine gP ?_|(conv=>whnf);refine C9 (iy xs pr a) ?_)
 exact Z0 (λz=>[B z]) (gT pr xs)
variable{k:Nat}
def RF(a:k<=3):IntKind.i64.wrap (1*2 ^ min ((k:Nat):Int).toNat IntKind.i64.bits)=csz (k:Nat):=by
 obtain rfl|rfl|rfl|rfl:k=0\/k=1\/k=2\/k=3:=ω
 all_goals decide
def RE(a:k<=100):IntKind.u64.wrap (k:Nat)=(k:Nat):=by
 unfold IntKind.wrap;simp[IntKind.signed,IntKind.bits];omega
variable{z:Int}
def En(a:k<=3)(h:csz (k:Nat)<z)(b:z<=8):k<=2:=by
 have c:csz ((3:Nat):Int)=8:=by decide
 obtain rfl|rfl|rfl|rfl:k=0\/k=1\/k=2\/k=3:=ω
 all_goals omega
def yj(g:k<=3)(h1:1<=z)(a:k=0\/csz ((k - 1:Nat):Int)<z)(b:¬csz (k:Nat)<z):aJ z=(k:Nat):=by
 have c:csz ((0:Nat):Int)=1:=by decide
 have d:csz ((1:Nat):Int)=2:=by decide
 have e:csz ((2:Nat):Int)=4:=by decide
 have f:csz ((3:Nat):Int)=8:=by decide
 unfold aJ;obtain rfl|rfl|rfl|rfl:k=0\/k=1\/k=2\/k=3:=ω
 all_goals simp only[Nat.reduceSub,c,d,e,f]at a b
 all_goals(repeat' split)<;>omega
def kY(z:Int):zzA 235 false [.val none [I z]] .one [I (aJ z)]:=by
 refine fO 15 [] Tryz.func235 rfl ?_;by_cases c:1<=z/\z<=8
 ·repeat'(first|refine gE ?_|(conv=>whnf);refine C9 (aI z 1 8) ?_)
  (conv=>whnf)
  refine CH (ι:=Nat) (λk=>[(0,.H .one [I (z)]),(3,.H .one [I ((k:Nat):Int)])]) (λk=>k<=3/\(k=0\/csz ((k - 1:Nat):Int)<z)) (λk=>4 - k) (0) ?_ (⟨ω,.inl rfl⟩) λk a=>?_
  ·exact wB
  obtain⟨a,d⟩:=a
  repeat'(first|refine gP ?_|(conv=>whnf);first|with_reducible refine Bf.D (λb=>?_) (λb=>?_)|refine CO (RE ω) ?_|refine CO (RF a) ?_|refine CQ ω ?_)
  all_goals first
   | exact Z0 (λz=>[I z]) (yj a c.1 d (by assumption)).symm
   | ((conv=>whnf);refine CG (k+1) ⟨by have:=En a (by assumption) c.2;omega,.inr (by simpa using (by assumption:csz (k:Nat)<z))⟩ (by have:=En a (by assumption) c.2;omega) ?_;(exact wB))
 repeat'(first|refine gE ?_|(conv=>whnf);refine C9 (aI z 1 8) ?_)
 all_goals exact Z0 (λz=>[I z]) (by unfold aJ;(repeat' split)<;>omega)
def oq(z:Int):zzA 61 false [.val none [I z]] .one [I (aJ z)]:=by
 refine fO 14 [] Tryz.func61 rfl ?_;by_cases c:1<=z/\z<=8
 ·repeat'(first|refine gE ?_|(conv=>whnf);refine C9 (aO z 1 8) ?_)
  (conv=>whnf)
  refine CH (ι:=Nat) (λk=>[(0,.H .one [I (z)]),(3,.H .one [I ((k:Nat):Int)])]) (λk=>k<=3/\(k=0\/csz ((k - 1:Nat):Int)<z)) (λk=>4 - k) (0) ?_ (⟨ω,.inl rfl⟩) λk b=>?_
  ·exact wB
  obtain⟨b,d⟩:=b
  repeat'(first|refine gP ?_|(conv=>whnf);first|with_reducible refine Bf.D (λa=>?_) (λa=>?_)|refine C9 (cW _) ?_)
  all_goals first
   | exact Z0 (λz=>[I z]) (yj b c.1 d (by assumption)).symm
   | ((conv=>whnf);refine CG (k+1) ⟨by have:=En b (by assumption) c.2;omega,.inr (by simpa using (by assumption:csz (k:Nat)<z))⟩ (by have:=En b (by assumption) c.2;omega) ?_;(exact wB))
 repeat'(first|refine gE ?_|(conv=>whnf);refine C9 (aO z 1 8) ?_)
 all_goals exact Z0 (λz=>[I z]) (by unfold aJ;(repeat' split)<;>omega)
def sP(q:bM)(a:Int)(e:bM.sml q):zzA 373 false [.val (some 2) (bM.enc .U q),.val none [I a]] .one [B (q.a5.any (dJ a))]:=by
 have j:q.a5.length<=1048576:=e.1;refine fO 21 [] Tryz.func373 rfl ?_
 repeat'(first|refine gP ?_|fail)
 (conv=>whnf)
 refine CH (ι:=Nat) (λi=>[(1,.H .one [I (a)]),(2,.H .box (bM.enc .U q)),(5,.H .one [I ((i:Nat):Int)])]) (λi=>i<=q.a5.length/\(q.a5.take i).any (dJ a)=false) (λi=>q.a5.length - i) (0) ?_ (⟨X0 _,rfl⟩) λi c=>?_
 ·exact wB
 obtain⟨c,d⟩:=c;by_cases g:i<q.a5.length
 ·have b:=ao g
  repeat'(first|refine gE ?_|(conv=>whnf);with_reducible refine Bf.E (λh=>?_) (λh=>?_))
  all_goals first
   | exact Z0 (λz=>[B z]) ((Dm b (O0 (by assumption))).symm)
   | ((conv=>whnf);refine CG (i+1) ⟨ω,ym b d (W0 (by assumption))⟩ ω ?_;(exact wB))
 repeat'(first|refine gE ?_|fail)
 exact Z0 (λz=>[B z]) ((J2 ω d).symm)
def jy(xs:List aN)(i:Nat):quarCells xs (i+1)=quarCells xs i+csz (nth xs i).a:=rfl
def uy(k:Int):0<=csz k/\csz k<=8:=by
 by_cases h:0<=k/\k<=3
 ·rcases b9 h with e|e|e|e<;>rw[e]<;>decide
 unfold csz;rw[CB h];decide
def vI(xs:List aN)(c:lO xs):zzA 374 false [.val none (cx .U xs)] .one [I (quarCells xs xs.length)]:=by
 have g:=c.1;refine fO 20 [] Tryz.func374 rfl ?_
 repeat'(first|refine gP ?_|fail)
 (conv=>whnf)
 refine CH (ι:=Nat) (λi=>[(0,.H .one (cx .U xs)),(3,.H .one [I (quarCells xs i)]),(4,.H .one [I ((i:Nat):Int)])]) (λi=>i<=xs.length/\0<=quarCells xs i/\quarCells xs i<=8*i) (λi=>xs.length - i) (0) ?_ (⟨X0 _,by simp[quarCells],by simp[quarCells]⟩) λi b=>?_
 ·exact wB
 obtain⟨b,h,j⟩:=b;by_cases d:i<xs.length
 ·have e:=ao d
  have k:=uy (nth xs i).a;have a:=jy xs i
  repeat'(first|refine gE ?_|(conv=>whnf);refine C9 (dx _) ?_)
  ((conv=>whnf);refine CG (i+1) ⟨ω,ω,ω⟩ ω ?_)
  rw[a];exact wB
 repeat'(first|refine gE ?_|fail)
 obtain rfl:i=xs.length:=ω
 rfl
def pq(xs:List aN)(c:lO xs):zzA 93 false [.val none (cx .U xs)] .one [I (quarCells xs xs.length)]:=by
 have g:=c.1;refine fO 19 [] Tryz.func93 rfl ?_
 repeat'(first|refine gP ?_|fail)
 (conv=>whnf)
 refine CH (ι:=Nat) (λi=>[(3,.H .one [I (quarCells xs i)]),(6,.H .one (cx .U xs)),(7,.H .one [I (xs.length)]),(8,.H .one [I ((i:Nat):Int)])]) (λi=>i<=xs.length/\0<=quarCells xs i/\quarCells xs i<=8*i) (λi=>xs.length - i) (0) ?_ (⟨X0 _,by simp[quarCells],by simp[quarCells]⟩) λi b=>?_
 ·exact wB
 obtain⟨b,h,j⟩:=b;by_cases d:i<xs.length
 ·have e:=ao d
  have k:=uy (nth xs i).a;have a:=jy xs i
  repeat'(first|refine gE ?_|(conv=>whnf);refine C9 (cW _) ?_)
  ((conv=>whnf);refine CG (i+1) ⟨ω,ω,ω⟩ ω ?_)
  rw[a];exact wB
 repeat'(first|refine gE ?_|fail)
 obtain rfl:i=xs.length:=ω
 rfl
def B1(a:aN):zzA 372 false [.val (some 3) (aN.enc .U a)] .one [B (decide (0<=a.a/\a.a<=3/\0<=a.Addr/\0<=a.b7))]:=by
 refine fO 16 [] Tryz.func372 rfl ?_
 repeat'(first|refine gP ?_|(conv=>whnf);first|with_reducible refine Bf.D (λb=>?_) (λb=>?_)|refine C9 (aI _ 0 3) ?_)
 all_goals exact Z0 (λz=>[B z]) ((by first|(symm;exact W0 ω)|exact decide_eq_decide.2 ω))
variable{xs:List aN}
def MH(a:lO xs)(i:Nat):lO (xs.take i):=⟨by have:=a.1;rw[Z1];omega,λ_ _=>trivial⟩
def pv(q:bM)(a:bM.sml q):zzA 228 false [.val (some 2) (bM.enc .U q)] .one [B (fI q)]:=by
 have l:q.a5.length<=1048576:=a.1;refine fO 57 [(5,29,[17,18,19,20,21,22,23,24,25,26,27,28,29,30,31,32,33,34,35,36,37,38,39,40,41,42,43,44,45]),(7,11,[46,47,48,49,50,51,52,53,54,55,56])] Tryz.func228 rfl ?_
 repeat'(first|refine gP ?_|fail)
 (conv=>whnf)
 refine CH (ι:=Nat) (λi=>[(1,.H .box (bM.enc .U q)),(3,.H .one [I ((i:Nat):Int)])]) (λi=>i<=q.a5.length/\cE i (jS q.a5)=true) (λi=>q.a5.length - i) 0 ?_ ⟨X0 _,rfl⟩ λi e=>?_
 ·exact wB
 obtain⟨e,g⟩:=e;by_cases b:i<q.a5.length
 ·have j:=ao b
  have h:=sP ⟨0,q.a5.take i⟩ (nth q.a5 i).Addr (MH a i);cases c:(q.a5.take i).any (dJ (nth q.a5 i).Addr)<;>rw[show(bM.mk 0 (q.a5.take i)).a5.any (dJ (nth q.a5 i).Addr)=_ from c]at h
  all_goals
   repeat'(first|refine gE ?_|(conv=>whnf);first|with_reducible refine Bf.D (λd=>?_) (λd=>?_)|refine C9 (B1 _) ?_|refine CP ω (aa (gC ω b)) ?_|refine CZ i rfl (by simp;omega) (λr k=>by obtain⟨z,-,rfl⟩:=Z4.1 k;rfl) (X4 ..) ?_)
   all_goals first
    | exact Z0 (λz=>[B z]) ((by symm;unfold fI;rw[bX b (by unfold jS;first|(rw[c];simp;done)|(rw[W0 ω];rfl))];rfl))
    | ((conv=>whnf);refine CG (i+1) ⟨ω,br g (by unfold jS;rw[c,O0 ω];rfl)⟩ ω ?_;(exact wB))
 obtain rfl:i=q.a5.length:=ω
 repeat'(first|refine gE ?_|(conv=>whnf);first|with_reducible refine Bf.D (λd=>?_) (λd=>?_)|refine C9 (aI _ 0 500) ?_|refine C9 (vI q.a5 a) ?_)
 all_goals exact Z0 (λz=>[B z]) ((by unfold fI;rw[g];simp only[Bool.true_and];first|(symm;exact W0 ω)|exact decide_eq_decide.2 ω))
def vL(b:aN)(a:Int):zzA 492 false [.val (some 3) (aN.enc .U b),.ptr [I a]] .one [B (dJ a b)]:=by
 refine fO 8 [] Tryz.func492 rfl ?_
 repeat'(first|refine gP ?_|fail)
 exact Z0 (λz=>[B z]) ((by unfold dJ;rw[I5];simp))
def qX(xs:List aN)(a:Int)(b:xs.length<=9223372036854775807):zzA 392 false [.val none (cx .U xs),.val none [I a]] .one [B (xs.any (dJ a))]:=by
 refine fO 8 [] Tryz.func392 rfl ?_
 repeat'(first|refine gP ?_|(conv=>whnf);first|refine Cq.mk (rM (some 3) (aN.enc .U) (dJ a) xs) (vL default a).has (λL k rcs c=>?_) ?_|refine C9 (rC xs (dJ a) b) ?_)
 ·obtain⟨y,-,rfl,rfl,rfl⟩:=c
  exact vL y a
 rfl
def qA(xs:List aN)(a:aN):Bool:=decide (0<=a.a/\a.a<=3/\0<=a.Addr/\0<=a.b7/\(xs.length=0\/(nth xs (xs.length - 1)).b7<=a.b7))&&!xs.any (dJ a.Addr)
def Dd(xs:List aN)(b:aN)(g:xs.length<=1048576):zzA 245 false [.val none (cx .U xs),.val (some 3) (aN.enc .U b)] .one [B (qA xs b)]:=by
 have c:=qX xs b.Addr ω;cases d:xs.any (dJ b.Addr)<;>rw[d]at c
 ·by_cases h:xs.length=0
  ·refine fO 40 [(3,15,[25,26,27,28,29,30,31,32,33,34,35,36,37,38,39])] Tryz.func245 rfl ?_
   repeat'(first|refine gP ?_|(conv=>whnf);first|with_reducible (first|refine Bf.D (λa=>?_) (λa=>?_)|refine Bf.E (λa=>?_) (λa=>?_))|refine C9 (gg _) ?_)
   all_goals first
    | exact Z0 (λz=>[B z]) ((by unfold qA;rw[d,Bool.not_false,Bool.and_true];first|(symm;exact W0 ω)|(symm;exact O0 ω)))
    |(exfalso;omega)
    
  have e:xs[((xs.length:Int) - 1).toNat]? = some (nth xs (xs.length - 1)):=by rw[show((xs.length:Int) - 1).toNat=xs.length - 1 by omega];exact ao ω
  refine fO 40 [(3,15,[25,26,27,28,29,30,31,32,33,34,35,36,37,38,39])] Tryz.func245 rfl ?_
  repeat'(first|refine gP ?_|(conv=>whnf);first|with_reducible (first|refine Bf.D (λa=>?_) (λa=>?_)|refine Bf.E (λa=>?_) (λa=>?_))|refine C9 (gg _) ?_|refine CP ω (aa e) ?_)
  all_goals first
   | exact Z0 (λz=>[B z]) ((by unfold qA;rw[d,Bool.not_false,Bool.and_true];first|(symm;exact W0 ω)|(symm;exact O0 ω)|exact decide_eq_decide.2 ω))
   
   
 refine fO 40 [(3,15,[25,26,27,28,29,30,31,32,33,34,35,36,37,38,39])] Tryz.func245 rfl ?_
 repeat'(first|refine gP ?_|(conv=>whnf);first|with_reducible refine Bf.D (λa=>?_) (λa=>?_)|refine C9 (gg _) ?_)
 all_goals exact Z0 (λz=>[B z]) ((by unfold qA;rw[d];simp))
variable{i:Nat}
def Hu(d:i<xs.length):qA (xs.take i) (nth xs i)=jS xs i:=by
 unfold qA jS;have a:(xs.take i).length=i:=by rw[Z1];omega
 rw[a]
 congr 1
 refine decide_eq_decide.2 ?_;by_cases b:i=0
 ·subst b;simp
 have c:nth (xs.take i) (i - 1)=nth xs (i - 1):=by
  have:=ao (xs:=xs) (i:=i - 1) ω;exact bm (by rw[List.getElem?_take_of_lt ω];exact this)
 rw[c]
def Fr(q:bM)(d:bM.sml q):zzA 76 false [.val (some 2) (bM.enc .U q)] .one [B (fI q)]:=by
 have l:q.a5.length<=1048576:=d.1;refine fO 32 [(4,7,[13,14,15,16,17,18,19]),(7,11,[21,22,23,24,25,26,27,28,29,30,31])] Tryz.func76 rfl ?_
 repeat'(first|refine gP ?_|fail)
 (conv=>whnf)
 refine CH (ι:=Nat) (λi=>[(1,.H .box (bM.enc .U q)),(6,.H .one (cx .U q.a5)),(7,.H .one [I (q.a5.length)]),(8,.H .one [I ((i:Nat):Int)])]) (λi=>i<=q.a5.length/\cE i (jS q.a5)=true) (λi=>q.a5.length - i) 0 ?_ ⟨X0 _,rfl⟩ λi e=>?_
 ·exact wB
 obtain⟨e,g⟩:=e;by_cases a:i<q.a5.length
 ·have h:=ao a
  have b:=Dd (q.a5.take i) (nth q.a5 i) (by rw[Z1];omega);rw[Hu a]at b;cases c:jS q.a5 i<;>rw[c]at b
  all_goals
   repeat'(first|refine gE ?_|(conv=>whnf);refine CZ i rfl (by simp;omega) (λr j=>by obtain⟨z,-,rfl⟩:=Z4.1 j;rfl) (X4 ..) ?_)
   all_goals first
    | exact Z0 (λz=>[B z]) ((by symm;unfold fI;rw[bX a c];rfl))
    | ((conv=>whnf);refine CG (i+1) ⟨ω,br g c⟩ ω ?_;(exact wB))
 obtain rfl:i=q.a5.length:=ω
 repeat'(first|refine gE ?_|(conv=>whnf);first|with_reducible refine Bf.D (λk=>?_) (λk=>?_)|refine C9 (aO _ 0 500) ?_|refine C9 (pq q.a5 d) ?_)
 all_goals exact Z0 (λz=>[B z]) ((by unfold fI;rw[g];simp only[Bool.true_and];first|(symm;exact W0 ω)|exact decide_eq_decide.2 ω))
def iE(a:List Bool):Nat->Int
 | 0=>0
 | i+1=>iE a i+(if nth a i then 1 else 0)
def eE(f:aU):Int:=if dc f then iE f.a6 f.a6.length else 0
def AW{a:List Bool}(h:nth a i=true):iE a (i+1)=iE a i+1:=by show iE a i+(if nth a i then 1 else 0)=_;rw[h];rfl
def Fj{a:List Bool}(h:nth a i=false):iE a (i+1)=iE a i:=by show iE a i+(if nth a i then 1 else 0)=_;rw[h];simp
def ME(f:aU)(h:aU.sml f):zzA 26 false [.val (some 2) (aU.enc .U f)] .one [I (eE f)]:=by
 have l:f.a6.length<=1048576:=h.2;have b:=qV f h;cases d:dc f<;>rw[d]at b
 ·refine fO 24 [] Tryz.func26 rfl ?_
  repeat'(first|refine gP ?_|fail)
  (conv=>whnf)
  refine CH (ι:=Nat) (λi=>[(1,.H .box (aU.enc .U f)),(3,.H .one [I ((0:Int))]),(4,.H .one [I ((i:Nat):Int)])]) (λi=>i=0) (λi=>i) (0) ?_ (rfl) λi c=>?_
  ·exact wB
  subst c
  repeat'(first|refine gP ?_|(conv=>whnf);with_reducible refine Bf.D (λj=>?_) (λj=>?_))
  all_goals exact Z0 (λz=>[I z]) (by unfold eE;rw[d];rfl)
 refine fO 24 [] Tryz.func26 rfl ?_
 repeat'(first|refine gP ?_|fail)
 (conv=>whnf)
 refine CH (ι:=Nat) (λi=>[(1,.H .box (aU.enc .U f)),(3,.H .one [I (iE f.a6 i)]),(4,.H .one [I ((i:Nat):Int)])]) (λi=>i<=f.a6.length/\0<=iE f.a6 i/\iE f.a6 i<=i) (λi=>f.a6.length - i) (0) ?_ (⟨X0 _,by simp[iE],by simp[iE]⟩) λi c=>?_
 ·exact wB
 obtain⟨c,n,o⟩:=c;by_cases k:i<f.a6.length
 ·have e:=ao k
  cases g:nth f.a6 i<;>rw[g]at e
  ·have a:=Fj g
   repeat'(first|refine gE ?_|(conv=>whnf);first|with_reducible refine CF (aa e) ?_|refine C9 b ?_)
   ((conv=>whnf);refine CG (i+1) ⟨ω,ω,ω⟩ ω ?_)
   rw[a];exact wB
  have a:=AW g
  repeat'(first|refine gE ?_|(conv=>whnf);first|with_reducible refine CF (aa e) ?_|refine C9 b ?_)
  ((conv=>whnf);refine CG (i+1) ⟨ω,ω,ω⟩ ω ?_)
  rw[a];exact wB
 obtain rfl:i=f.a6.length:=ω
 repeat'(first|refine gE ?_|(conv=>whnf);refine C9 b ?_)
 exact Z0 (λz=>[I z]) (by unfold eE;rw[d];rfl)
def wx(f:aU)(g:aU.sml f):zzA 91 false [.val (some 2) (aU.enc .U f)] .one [I (eE f)]:=by
 have k:f.a6.length<=1048576:=g.2;have b:=qT f g;cases c:dc f<;>rw[c]at b
 ·refine fO 21 [] Tryz.func91 rfl ?_
  repeat'(first|refine gP ?_|(conv=>whnf);refine C9 b ?_)
  all_goals exact Z0 (λz=>[I z]) (by unfold eE;rw[c];rfl)
 refine fO 21 [] Tryz.func91 rfl ?_
 repeat'(first|refine gP ?_|(conv=>whnf);refine C9 b ?_)
 (conv=>whnf)
 refine CH (ι:=Nat) (λi=>[(3,.H .one [I (iE f.a6 i)]),(10,.H .one (iu .U f.a6)),(11,.H .one [I (f.a6.length)]),(12,.H .one [I ((i:Nat):Int)])]) (λi=>i<=f.a6.length/\0<=iE f.a6 i/\iE f.a6 i<=i) (λi=>f.a6.length - i) (0) ?_ (⟨X0 _,by simp[iE],by simp[iE]⟩) λi h=>?_
 ·exact wB
 obtain⟨h,l,n⟩:=h;by_cases j:i<f.a6.length
 ·have d:=ao j
  cases e:nth f.a6 i<;>rw[e]at d
  ·have a:=Fj e
   repeat'(first|refine gE ?_|(conv=>whnf);with_reducible refine CF (aa d) ?_)
   ((conv=>whnf);refine CG (i+1) ⟨ω,ω,ω⟩ ω ?_)
   rw[a];exact wB
  have a:=AW e
  repeat'(first|refine gE ?_|(conv=>whnf);with_reducible refine CF (aa d) ?_)
  ((conv=>whnf);refine CG (i+1) ⟨ω,ω,ω⟩ ω ?_)
  rw[a];exact wB
 obtain rfl:i=f.a6.length:=ω
 repeat'(first|refine gE ?_|fail)
 exact Z0 (λz=>[I z]) (by unfold eE;rw[c];rfl)
def vT(h:ab):Prop:=aH.sml h.G.F.R
def iF(h:ab)(p:Int)(a:vT h):zzA 369 false [.val (some 24) (ab.enc .U h),.val none [I p]] .one (aD .own (aP h p)):=by
 refine fO 23 [] Tryz.func369 rfl ?_ (.inr (bG _))
 repeat'((conv=>whnf);first|with_reducible (first|refine Bf.E (λb=>?_) (λb=>?_)|refine kC.wk rfl ?_)|refine C9 (du h.G.F.R p a) ?_|refine C9 (gU h.G.F.R _ a) ?_)
 all_goals(unfold aP;first|rw[CD (by assumption)]|rw[CB (by assumption)])
 all_goals exact⟨rfl,trivial⟩
def oM(h:ab)(p:Int)(a:vT h):zzA 242 false [.val (some 24) (ab.enc .U h),.val none [I p]] .one (aD .own (aP h p)):=by
 refine fO 22 [] Tryz.func242 rfl ?_ (.inr (bG _))
 repeat'((conv=>whnf);first|with_reducible (first|refine Bf.E (λb=>?_) (λb=>?_)|refine kC.wk rfl ?_)|refine C9 (gM h.G.F.R p a) ?_|refine C9 (tj h.G.F.R _ a) ?_)
 all_goals(unfold aP;first|rw[CD (by assumption)]|rw[CB (by assumption)])
 all_goals exact⟨rfl,trivial⟩
def vB(k:ah)(p:Int)(a:aH.sml k.F.R):zzA 123 false [.val (some 5) (ah.enc .U k),.val none [I p]] .one [B (decide ((ac k.F.R p).e≠0))]:=by
 refine fO 12 [] Tryz.func123 rfl ?_
 repeat'(first|refine gP ?_|(conv=>whnf);refine C9 (gM k.F.R p a) ?_)
 exact Z0 (λz=>[B z]) ((by rw[I5];simp))
def pK(z:Int):zzA 80 false [.val none [I z]] .one [B (decide (0<=z/\z<=1073741823))]:=by
 refine fO 5 [] Tryz.func80 rfl ?_
 repeat'(first|refine gP ?_|(conv=>whnf);refine C9 (aO z 0 1073741823) ?_)
 rfl
def kG(h:ab)(p:Int)(g:h.K.length<=1048576):zzA 234 false [.val (some 24) (ab.enc .U h),.val none [I p]] .one [I (eX h p)]:=by
 refine fO 22 [] Tryz.func234 rfl ?_
 repeat'(first|refine gP ?_|fail)
 (conv=>whnf)
 refine CH (ι:=Nat) (λi=>[(1,.H .one [I (p)]),(2,.H .box (ab.enc .U h)),(5,.H .one [I ((i:Nat):Int)])]) (λi=>i<=h.K.length/\∀(j:Nat)(z:ax),j<i->h.K[j]? = some z->jI p z=false) (λi=>h.K.length - i) (0) ?_ (⟨X0 _,λj z k=>ω⟩) λi c=>?_
 ·exact wB
 obtain⟨c,a⟩:=c;by_cases d:i<h.K.length
 ·have b:=ao d
  repeat'(first|refine gE ?_|(conv=>whnf);with_reducible refine Bf.E (λe=>?_) (λe=>?_))
  all_goals first
   | exact Z0 (λz=>[I z]) (dB b (O0 (by assumption)) a).symm
   | ((conv=>whnf);refine CG (i+1) ⟨ω,dt b (W0 (by assumption)) a⟩ ω ?_;(exact wB))
 repeat'(first|refine gE ?_|fail)
 exact Z0 (λz=>[I z]) (fy ω a).symm
def AP(s:ax)(p:Int):zzA 253 false [.val (some 3) (ax.enc .U s),.ptr [I p]] .one [B (jI p s)]:=by
 refine fO 8 [] Tryz.func253 rfl ?_
 repeat'(first|refine gP ?_|fail)
 exact Z0 (λz=>[B z]) ((by unfold jI;rw[I5];simp))
def vt(h:ab)(p:Int)(b:h.K.length<=1048576):zzA 82 false [.val (some 24) (ab.enc .U h),.val none [I p]] .one [I (eX h p)]:=by
 refine fO 9 [] Tryz.func82 rfl ?_
 repeat'(first|refine gP ?_|(conv=>whnf);first|refine Cq.mk (rM (some 3) (ax.enc .U) (jI p) h.K) (AP default p).has (λL k rcs a=>?_) ?_|refine C9 (wV h.K (jI p) ω) ?_)
 ·obtain⟨y,-,rfl,rfl,rfl⟩:=a
  exact AP y p
 rfl
def flight1(m:aL)(i:Nat):List Int:=(m.V.take i).flatMap λl=>l.map (·.Addr)
def flight2(m:aL)(i:Nat):List Int:=(m.y.take i).flatten
variable{m:aL}
def nZ{l:List dw}(h:m.V[i]? = some l):flight1 m (i+1)=flight1 m i++l.map (·.Addr):=by
 unfold flight1;rw[O6,h,List.flatMap_append];simp
variable{l:List Int}
def nP(h:m.y[i]? = some l):flight2 m (i+1)=flight2 m i++l:=by
 unfold flight2;rw[O6,h,List.flatten_append];simp
def pz(h:bP m=true):aF m=flight1 m m.V.length++flight2 m m.y.length:=by
 unfold aF flight1 flight2;rw[CD h,Y5,Y5]
def vO(h:bP m=false):aF m=[]:=by
 unfold aF;rw[h];rfl
def lh(h:bP m=true):1<=m.V.length/\m.V.length<=4/\m.y.length=m.V.length:=by
 unfold bP at h;simp only[I0,C0]at h;exact h.1.1
def Ff : ∀r∈l.map (rI .U),r.length=1:=by
 intro r a;obtain⟨z,-,rfl⟩:=Z4.1 a;rfl
def K9 : ∀r∈l.map (rI .U),aZ r=true:=by
 intro r a;obtain⟨z,-,rfl⟩:=Z4.1 a;rfl
def zr(m:aL)(j:aL.sml m):zzA 49 false [.val (some 2) (aL.enc .U m)] .one (aD .own (aF m)):=by
 have l:=mn m j;cases e:bP m<;>rw[e]at l
 ·refine fO 56 [] Tryz.func49 rfl ?_ (.inr (bG _))
  repeat'((conv=>whnf);first|with_reducible (first|refine Bn ?_|refine kC.wk rfl ?_)|refine Bu ?_|refine C9 l ?_)
  all_goals(rw[vO e];exact⟨rfl,trivial⟩)
 obtain⟨D,E,F⟩:=lh e;refine fO 56 [] Tryz.func49 rfl ?_ (.inr (bG _))
 repeat'(first|refine gP ?_|(conv=>whnf);refine C9 l ?_)
 (conv=>whnf)
 refine CH (ι:=Nat × List Int) (λi=>[(1,.H .box (aL.enc .U m)),(3,.H .one (aD .own i.2)),(4,.H .one [I ((i.1:Nat):Int)])]) (λi=>i.1<=m.V.length/\i.2=flight1 m i.1/\i.2.length<=1048576*i.1) (λi=>m.V.length - i.1) ((0,[])) ?_ (⟨X0 _,rfl,X0 _⟩) λi n=>?_
 ·exact wB
 obtain⟨i,S⟩:=i;obtain⟨n,o,t⟩:=n;simp only at n o t |-;by_cases q:i<m.V.length
 ·have g:=ao q
  have u:(nth m.V i).length<=1048576:=(j.1.2 _ (am q)).1
  repeat'(first|refine gE ?_|(conv=>whnf);with_reducible refine CF (aa g) ?_)
  (conv=>whnf)
  refine CH (ι:=Nat × List Int) (λk=>[(1,.H .box (aL.enc .U m)),(3,.H .one (aD .own k.2)),(4,.H .one [I ((i:Nat):Int)]),(5,.H .one [I ((k.1:Nat):Int)])]) (λk=>k.1<=(nth m.V i).length/\k.2=S++((nth m.V i).take k.1).map (·.Addr)) (λk=>(nth m.V i).length - k.1) ((0,S)) ?_ (⟨X0 _,by simp⟩) λk b=>?_
  ·exact wB
  obtain⟨k,c⟩:=k;obtain⟨b,a⟩:=b;simp only at b a |-;have w:c.length=S.length+k:=by rw[a,Y3,I1,Z1];omega
  by_cases h:k<(nth m.V i).length
  ·have d:=ao h
   repeat'(first|refine gE ?_|(conv=>whnf);refine CU cw (λr y=>by rw[V1.1 y];rfl) (by simp[aZ,dS]) (by simp;omega) (by show _*8<=_;simp;omega) rfl ?_)
   ((conv=>whnf)
    refine CG (k+1,c++[(nth (nth m.V i) k).Addr]) ⟨(by simp only;omega),(by simp only;rw[a,O6,d,W6,V6];simp)⟩ (by simp only;omega) ?_
    (repeat'(first|exact trivial|rfl|exact CN rfl (CN (Z0 (C.s dN.own) (by simp[rI])) trivial)|refine CN ?_ ?_)))
  obtain rfl:k=(nth m.V i).length:=ω
  rw[Y5]at a
  repeat'(first|refine gE ?_|(conv=>whnf);with_reducible refine CF (aa g) ?_)
  ((conv=>whnf);refine CG (i+1,c) ⟨(by simp only;omega),(by simp only;rw[nZ g,<-o,a]),(by simp only;omega)⟩ (by simp only;omega) ?_;(exact wB))
 obtain rfl:i=m.V.length:=ω
 repeat'(first|refine gE ?_|fail)
 (conv=>whnf)
 refine CH (ι:=Nat × List Int) (λk=>[(1,.H .box (aL.enc .U m)),(3,.H .one (aD .own k.2)),(6,.H .one [I ((k.1:Nat):Int)])]) (λk=>k.1<=m.y.length/\k.2=S++flight2 m k.1/\k.2.length<=S.length+1048576*k.1) (λk=>m.y.length - k.1) ((0,S)) ?_ (⟨X0 _,by simp[flight2],by simp⟩) λk b=>?_
 ·exact wB
 obtain⟨k,c⟩:=k;obtain⟨b,a,p⟩:=b;simp only at b a p |-;by_cases h:k<m.y.length
 ·have d:=ao h
  have B:(nth m.y k).length<=1048576:=j.2.2 _ (am h)
  repeat'(first|refine gE ?_|(conv=>whnf);refine CU cw Ff (λ_=>K9) (by simp;omega) (by show _*8<=_;simp;omega) rfl ?_)
  ((conv=>whnf)
   refine CG (k+1,c++nth m.y k) ⟨(by simp only;omega),(by simp only;rw[nP d,a,V6]),(by simp only;rw[Y3];omega)⟩ (by simp only;omega) ?_
   (repeat'(first|exact trivial|rfl|exact CN rfl (CN (Z0 (C.s dN.own) (by simp[rI])) trivial)|refine CN ?_ ?_)))
 obtain rfl:k=m.y.length:=ω
 repeat'(first|refine gE ?_|fail)
 rw[pz e,<-o,<-a];rfl
def mU(m:aL)(h:aL.sml m):zzA 96 false [.val (some 2) (aL.enc .U m)] .one (aD .own (aF m)):=by
 have j:=vN m h;cases e:bP m<;>rw[e]at j
 ·refine fO 46 [] Tryz.func96 rfl ?_ (.inr (bG _))
  repeat'((conv=>whnf);first|with_reducible (first|refine Bn ?_|refine kC.wk rfl ?_)|refine Bu ?_|refine C9 j ?_)
  all_goals(rw[vO e];exact⟨rfl,trivial⟩)
 obtain⟨D,E,F⟩:=lh e;refine fO 46 [] Tryz.func96 rfl ?_ (.inr (bG _))
 repeat'(first|refine gP ?_|(conv=>whnf);refine C9 j ?_)
 (conv=>whnf)
 refine CH (ι:=Nat × List Int) (λi=>[(1,.H .box (aL.enc .U m)),(3,.H .one (aD .own i.2)),(15,.H .one (lS .U m.V)),(16,.H .one [I (m.V.length)]),(17,.H .one [I ((i.1:Nat):Int)])]) (λi=>i.1<=m.V.length/\i.2=flight1 m i.1/\i.2.length<=1048576*i.1) (λi=>m.V.length - i.1) ((0,[])) ?_ (⟨X0 _,rfl,X0 _⟩) λi l=>?_
 ·exact wB
 obtain⟨i,S⟩:=i;obtain⟨l,n,t⟩:=l;simp only at l n t |-;by_cases p:i<m.V.length
 ·have q:=ao p
  have u:(nth m.V i).length<=1048576:=(h.1.2 _ (am p)).1
  repeat'(first|refine gE ?_|(conv=>whnf);with_reducible refine CF (aa q) ?_)
  (conv=>whnf)
  refine CH (ι:=Nat × List Int) (λk=>[(1,.H .box (aL.enc .U m)),(3,.H .one (aD .own k.2)),(15,.H .one (lS .U m.V)),(16,.H .one [I (m.V.length)]),(17,.H .one [I ((i:Nat):Int)]),(21,.H .one (cF .U (nth m.V i))),(22,.H .one [I ((nth m.V i).length)]),(23,.H .one [I ((k.1:Nat):Int)])]) (λk=>k.1<=(nth m.V i).length/\k.2=S++((nth m.V i).take k.1).map (·.Addr)) (λk=>(nth m.V i).length - k.1) ((0,S)) ?_ (⟨X0 _,by simp⟩) λk b=>?_
  ·exact wB
  obtain⟨k,c⟩:=k;obtain⟨b,a⟩:=b;simp only at b a |-;have w:c.length=S.length+k:=by rw[a,Y3,I1,Z1];omega
  by_cases g:k<(nth m.V i).length
  ·have d:=ao g
   repeat'(first|refine gE ?_|(conv=>whnf);refine CU cw (λr y=>by rw[V1.1 y];rfl) (by simp[aZ,dS]) (by simp;omega) (by show _*8<=_;simp;omega) rfl ?_)
   ((conv=>whnf)
    refine CG (k+1,c++[(nth (nth m.V i) k).Addr]) ⟨(by simp only;omega),(by simp only;rw[a,O6,d,W6,V6];simp)⟩ (by simp only;omega) ?_
    (repeat'(first|exact trivial|rfl|exact CN rfl (CN (Z0 (C.s dN.own) (by simp[rI])) trivial)|refine CN ?_ ?_)))
  obtain rfl:k=(nth m.V i).length:=ω
  rw[Y5]at a
  repeat'(first|refine gE ?_|fail)
  ((conv=>whnf);refine CG (i+1,c) ⟨(by simp only;omega),(by simp only;rw[nZ q,<-n,a]),(by simp only;omega)⟩ (by simp only;omega) ?_;(exact wB))
 obtain rfl:i=m.V.length:=ω
 repeat'(first|refine gE ?_|fail)
 (conv=>whnf)
 refine CH (ι:=Nat × List Int) (λk=>[(3,.H .one (aD .own k.2)),(35,.H .one (f9 .U m.y)),(36,.H .one [I (m.y.length)]),(37,.H .one [I ((k.1:Nat):Int)])]) (λk=>k.1<=m.y.length/\k.2=S++flight2 m k.1/\k.2.length<=S.length+1048576*k.1) (λk=>m.y.length - k.1) ((0,S)) ?_ (⟨X0 _,by simp[flight2],by simp⟩) λk b=>?_
 ·exact wB
 obtain⟨k,c⟩:=k;obtain⟨b,a,o⟩:=b;simp only at b a o |-;by_cases g:k<m.y.length
 ·have d:=ao g
  have B:(nth m.y k).length<=1048576:=h.2.2 _ (am g)
  repeat'(first|refine gE ?_|(conv=>whnf);refine CU cw Ff (λ_=>K9) (by simp;omega) (by show _*8<=_;simp;omega) rfl ?_)
  ((conv=>whnf)
   refine CG (k+1,c++nth m.y k) ⟨(by simp only;omega),(by simp only;rw[nP d,a,V6]),(by simp only;rw[Y3];omega)⟩ (by simp only;omega) ?_
   (repeat'(first|exact trivial|rfl|exact CN rfl (CN (Z0 (C.s dN.own) (by simp[rI])) trivial)|refine CN ?_ ?_)))
 obtain rfl:k=m.y.length:=ω
 repeat'(first|refine gE ?_|fail)
 rw[pz e,<-n,<-a];rfl
def tbl(h:ab):aH:=h.G.F.R
def dQ(h:ab):Nat:=h.G.F.R.J.length
def yb(xs:List ax)(i:Nat):Bool:=decide (i=0\/(nth xs (i - 1)).Q<(nth xs i).Q)
def yB(xs:List a7)(i:Nat):Bool:=decide (i=0\/(nth xs (i - 1)).Q<(nth xs i).Q)
def yZ(h:ab)(l:a7)(k:Nat):Bool:=decide ((aP h (l.Q+(k:Nat))).length=1)
def uG(h:ab)(i:Nat):Bool:=yB h.M i&&cE (nth h.M i).a1.toNat (yZ h (nth h.M i))
def wb(h:ab)(p:Nat):Bool:=decide ((nth (tbl h).J p).e≠0↔(p:Int)∈pgs h.K h.M)&&(decide ((nth (tbl h).J p).e≠0) != h.w.any (rn (p:Nat)))
def pages0(h:ab):Bool:=((cE h.K.length (yb h.K)&&cE h.M.length (uG h))&&(pgs h.K h.M).all λp=>decide (p<dQ h))&&cE (dQ h) (wb h)
def mJ(h:ab)(i:Nat)(q:Int):Bool:=decide (eX h q=(i:Nat)) || (decide (0<=eX h q)&&meshable (nth h.K i) (nth h.K (eX h q).toNat))
def tD(h:ab):Bool:=cE h.K.length λi=>(aP h (nth h.K i).Q).all (mJ h i)
def lU(h:ab)(i j:Nat):Bool:=decide ((ac (tbl h) (nth h.K i).Q).j≠(ac (tbl h) (nth h.K j).Q).j) || meshable (nth h.K i) (nth h.K j)
def oN(h:ab):Bool:=cE h.K.length λi=>cE i (lU h i)
def bR(z:Int)(o:bn):Bool:=decide (o.Id=z)
def jq(h:ab)(o:bn):Bool:=
 let w:=denotes h.K h.M o.Addr
 decide (w.c9=0)&&((decide (w.b6=1)&&decide ((nth h.K w.c5.toNat).a=aJ o.o)) || (decide (w.b6=3)&&decide ((nth h.M w.c5.toNat).o=o.o)))
def gS(a:Int)(h:ab)(i:Nat):Bool:=decide ((i=0\/(nth h.O (i - 1)).Addr<(nth h.O i).Addr)/\1<=(nth h.O i).Id/\(nth h.O i).Id<=a/\0<=(nth h.O i).a4/\(nth h.O i).a4<=h.S.length - 1)
def objAt(a:Int)(h:ab)(i:Nat):Bool:=(gS a h i&&!(h.O.take i).any (bR (nth h.O i).Id))&&jq h (nth h.O i)
def fo(h:ab):Bool:=cE h.O.length (objAt (IntKind.i64.wrap (h.d - 1)) h)
def dr(h:ab)(a c:Int):Bool:=
 let w:=denotes h.K h.M a
 (decide (w.b6=1)&&decide (w.c9=0))&&(decide (c<0) || decide ((nth h.K w.c5.toNat).a=c))
def tn(h:ab)(c:a8)(k:Nat):Bool:=(nth c.b k).all λa=>dr h a (k:Nat)
def fk(h:ab)(c:a8):Bool:=cE c.b.length (tn h c)
def ix(h:ab)(x:aN):Bool:=dr h x.Addr x.a
def jX(h:ab)(a:Int):Bool:=dr h a (-1)
def ce(h:ab):List Int:=h.S.flatMap λc=>c.b.flatten
def gW(h:ab):Bool:=((h.S.all (fk h))&&h.a9.a5.all (ix h))&&(aF h.q).all (jX h)
def holders(h:ab):List Int:=((h.O.map (·.Addr)++ce h)++h.a9.a5.map (·.Addr))++aF h.q
def kJ(sp:List ax)(la:List a7)(a:Nat):Bool:=
 let w:=denotes sp la (a:Nat)
 decide (w.c9=0)&&(decide (w.b6=1) || decide (w.b6=3))
def mr(sp:List ax)(la:List a7)(n:Nat):List Int:=((List.range n).filter (kJ sp la)).map λ(i:Nat)=>(i:Int)
def io(sp:List ax)(la:List a7):List Int:=mr sp la 512
def je(h:ab):Bool:=(gW h&&decide (holders h).Nodup)&&decide ((holders h).length=(io h.K h.M).length)
def mz(h:ab):Bool:=h.a9.a5.all λx=>decide (x.b7<=h.b5)
def cq(h:ab):Bool:=decide (0<=h.c0/\h.c0<=1073741823/\0<=h.b5/\h.b5<=1000000/\0<=h.c4/\h.c4<=1000/\1<=h.d/\h.d<=1000000)
def vG(h:ab):Bool:=if h.u then(kx h.Z&&decide (0<=eX h h.Z.X.a3))&&decide (0<=eX h h.Z.X.a2) else ta h.Z
def lJ(h:ab):Bool:=((aA h.G&&bC (dQ h) h.w)&&bp h.K h.M)&&pages0 h
set_option maxHeartbeats 8000000
variable{la:List a7}{sp:List ax}
def dv(h:bp sp la=true):sp.all bi=true/\la.all bF=true/\(pgs sp la).Nodup:=by
 unfold bp at h;simp only[I0,C0]at h;exact⟨h.1.1,h.1.2,h.2⟩
variable{α:Type}
def QZ[Inhabited α]{xs:List α}{p:α->Bool}(h:xs.all p=true)(a:i<xs.length):p (nth xs i)=true:=V4.1 h _ (am a)
variable{h:ab}
def GL(h1:cE h.K.length (yb h.K)=false):pages0 h=false:=by unfold pages0;rw[h1];rfl
def tF(h1:cE h.M.length (uG h)=false):pages0 h=false:=by unfold pages0;rw[h1];simp
variable{p:Int}
def FZ(h1:p∈pgs h.K h.M)(a:¬p<dQ h):pages0 h=false:=by
 have:((pgs h.K h.M).all λp=>decide (p<dQ h))=false:=List.all_eq_false.2 ⟨p,h1,by simpa using a⟩;unfold pages0;rw[this];simp
def FG(h1:cE (dQ h) (wb h)=false):pages0 h=false:=by unfold pages0;rw[h1];simp
def wT(h1:cE h.K.length (yb h.K)=true)(a:cE h.M.length (uG h)=true)(b:∀p∈pgs h.K h.M,p<dQ h)(c:cE (dQ h) (wb h)=true):pages0 h=true:=by
 have:((pgs h.K h.M).all λp=>decide (p<dQ h))=true:=V4.2 λp d=>O0 (b p d)
 unfold pages0;rw[h1,a,c,this];rfl
def Pf(h1:yB h.M i=false):uG h i=false:=by unfold uG;rw[h1];rfl
def P0(a:k<(nth h.M i).a1.toNat)(h1:yZ h (nth h.M i) k=false):uG h i=false:=by unfold uG;rw[bX a h1];simp
def E0(h1:yB h.M i=true)(a:cE (nth h.M i).a1.toNat (yZ h (nth h.M i))=true):uG h i=true:=by unfold uG;rw[h1,a];rfl
def gt(h:ab)(p:Int):(aP h p).length<=dQ h:=by
 unfold aP;split
 ·simp
 exact rq ..
def tV(h:bp sp la=true){l:a7}(a:la[i]? = some l):1<=l.a1/\l.a1<=63/\0<=l.Q/\l.Q<=31:=
 aM (V4.1 (dv h).2.1 l (I2 a))
def FO(h:ab)(G:dK h.K)(H:dG h.M)(l:vT h)(J:iH h.w)(n:bp h.K h.M=true):zzA 226 false [.val (some 24) (ab.enc .U h)] .one [B (pages0 h)]:=by
 have Z:=G.1;have hl2:=H.1;have hl3:dQ h<=1048576:=l.1;have hl4:=J.1;refine fO 144 [(7,18,[28,29,30,31,32,33,34,35,36,37,38,39,40,41,42,43,44,45]),(13,18,[62,63,64,65,66,67,68,69,70,71,72,73,74,75,76,77,78,79])] Tryz.func226 rfl ?_
 repeat'(first|refine gP ?_|fail)
 (conv=>whnf)
 refine CH (ι:=Nat × List Int) (λi=>[(1,.H .box (ab.enc .U h)),(3,.H .box (aH.enc .U (tbl h))),(4,.H .one [I (dQ h)]),(5,.H .one (aD .own i.2)),(6,.H .one [I ((i.1:Nat):Int)])]) (λi=>i.1<=h.K.length/\i.2=(h.K.take i.1).map (·.Q)/\cE i.1 (yb h.K)=true) (λi=>h.K.length - i.1) ((0,[])) ?_ (⟨X0 _,rfl,rfl⟩) λi K=>?_
 ·exact wB
 obtain⟨i,S⟩:=i;obtain⟨K,o,L⟩:=K;simp only at K o L |-;have hSl:S.length=i:=by rw[o,I1,Z1];omega
 by_cases M:i<h.K.length
 ·have c:=ao M
  repeat'(first|refine gE ?_|(conv=>whnf);first|with_reducible refine Bf.D (λa=>?_) (λa=>?_)|refine CP ω (aa (gC ω M)) ?_|refine CU cw (λr t=>by rw[V1.1 t];rfl) (by simp[aZ,dS]) (by simp;omega) (by simp only[I1];exact wZ (by simp;omega) (by decide)) rfl ?_)
  all_goals first
   | exact Z0 (λz=>[B z]) ((GL (bX M (W0 ω))).symm)
   | ((conv=>whnf)
      refine CG (i+1,S++[(nth h.K i).Q]) ⟨(by simp only;omega),(by simp only;rw[o,O6,c];simp),br L (O0 ω)⟩ (by simp only;omega) ?_
      (repeat'(first|exact trivial|rfl|exact CN rfl (CN (Z0 (C.s dN.own) (by simp[rI])) trivial)|refine CN ?_ ?_)))
 obtain rfl:i=h.K.length:=ω
 rw[Y5]at o
 repeat'(first|refine gE ?_|fail)
 (conv=>whnf)
 refine CH (ι:=Nat × List Int) (λk=>[(1,.H .box (ab.enc .U h)),(3,.H .box (aH.enc .U (tbl h))),(4,.H .one [I (dQ h)]),(5,.H .one (aD .own k.2)),(7,.H .one [I ((k.1:Nat):Int)])]) (λk=>k.1<=h.M.length/\k.2=pgs h.K (h.M.take k.1)/\cE k.1 (uG h)=true/\k.2.length<=1048576+64*k.1) (λk=>h.M.length - k.1) ((0,S)) ?_ (⟨X0 _,by rw[o];unfold pgs;simp,rfl,by simp only;omega⟩) λk O=>?_
 ·exact wB
 obtain⟨k,S2⟩:=k;obtain⟨O,b,Q,R⟩:=O;simp only at O b Q R |-;by_cases y:k<h.M.length
 ·have c:=ao y
  have hpg:=tV n c
  repeat'(first|refine gE ?_|(conv=>whnf);first|with_reducible refine Bf.D (λa=>?_) (λa=>?_)|refine CP ω (aa (gC ω y)) ?_)
  all_goals first
   | exact Z0 (λz=>[B z]) ((tF (bX y (Pf (W0 ω)))).symm)
   |have e:yB h.M k=true:=O0 ω
    (conv=>whnf)
    refine CH (ι:=Nat × List Int) (λq=>[(1,.H .box (ab.enc .U h)),(3,.H .box (aH.enc .U (tbl h))),(4,.H .one [I (dQ h)]),(5,.H .one (aD .own q.2)),(7,.H .one [I ((k:Nat):Int)]),(8,.H .one [I ((q.1:Nat):Int)])]) (λq=>q.1<=(nth h.M k).a1.toNat/\q.2=S2++lpgs (nth h.M k) q.1/\cE q.1 (yZ h (nth h.M k))=true) (λq=>(nth h.M k).a1.toNat - q.1) ((0,S2)) ?_ (⟨X0 _,by simp[lpgs],rfl⟩) λq a=>?_
    ·exact wB
    obtain⟨q,T⟩:=q;obtain⟨U,d,g⟩:=a;simp only at U d g |-;have W:T.length=S2.length+q:=by rw[d,Y3,Fy]
    by_cases E:q<(nth h.M k).a1.toNat
    ·have hfl:=gt h ((nth h.M k).Q+(q:Nat))
     repeat'(first|refine gE ?_|(conv=>whnf);first|with_reducible refine Bf.N (λa=>?_) (λa=>?_)|refine C9 (iF h _ l) ?_|refine CU cw (λr t=>by rw[V1.1 t];rfl) (by simp[aZ,dS]) (by simp;omega) (by show _*8<=_;simp;omega) rfl ?_)
     all_goals first
      | exact Z0 (λz=>[B z]) ((tF (bX y (P0 E (W0 ω)))).symm)
      | ((conv=>whnf)
         refine CG (q+1,T++[(nth h.M k).Q+(q:Nat)]) ⟨(by simp only;omega),(by simp only;rw[d,l8,V6]),br g (O0 ω)⟩ (by simp only;omega) ?_
         (repeat'(first|exact trivial|rfl|exact CN rfl (CN (Z0 (C.s dN.own) (by simp[rI])) trivial)|refine CN ?_ ?_)))
    obtain rfl:q=(nth h.M k).a1.toNat:=ω
    repeat'(first|refine gE ?_|(conv=>whnf);with_reducible refine CF (aa c) ?_)
    ((conv=>whnf);refine CG (k+1,T) ⟨(by simp only;omega),(by simp only;rw[d,b,<-p6 _ c]),br Q (E0 e g),(by simp only;omega)⟩ (by simp only;omega) ?_;(exact wB))
 obtain rfl:k=h.M.length:=ω
 rw[Y5]at b
 repeat'(first|refine gE ?_|fail)
 (conv=>whnf)
 refine CH (ι:=Nat) (λq=>[(1,.H .box (ab.enc .U h)),(3,.H .box (aH.enc .U (tbl h))),(4,.H .one [I (dQ h)]),(5,.H .one (aD .own S2)),(10,.H .one [I ((q:Nat):Int)])]) (λq=>q<=S2.length/\∀j,j<q->nth S2 j<dQ h) (λq=>S2.length - q) (0) ?_ (⟨X0 _,λj F=>ω⟩) λq a=>?_
 ·exact wB
 obtain⟨a,g⟩:=a;by_cases E:q<S2.length
 ·have c:=ao E
  repeat'(first|refine gE ?_|(conv=>whnf);with_reducible refine Bf.D (λa=>?_) (λa=>?_))
  all_goals first
   | exact Z0 (λz=>[B z]) ((FZ (by rw[<-b];exact am E) ω).symm)
   | ((conv=>whnf);refine CG (q+1) ⟨ω,λj F=>by rcases Nat.lt_or_ge j q with V|V;exact g j V;(obtain rfl:j=q:=ω);omega⟩ ω ?_;(exact wB))
 have u:∀p∈pgs h.K h.M,p<dQ h:=λp w=>by
  rw[<-b]at w;obtain⟨j,F⟩:=List.mem_iff_getElem?.1 w;have V:=(X2.1 F).1;have:=g j ω
  rwa [bm F]at this
 repeat'(first|refine gE ?_|fail)
 (conv=>whnf)
 refine CH (ι:=Nat) (λp=>[(1,.H .box (ab.enc .U h)),(3,.H .box (aH.enc .U (tbl h))),(4,.H .one [I (dQ h)]),(5,.H .one (aD .own S2)),(11,.H .one [I ((p:Nat):Int)])]) (λp=>p<=dQ h/\cE p (wb h)=true) (λp=>dQ h - p) 0 ?_ ⟨X0 _,rfl⟩ λp w=>?_
 ·exact wB
 obtain⟨w,X⟩:=w;by_cases Y:p<dQ h
 ·have c:=ao (xs:=(tbl h).J) Y
  have t:=zJ h.w (p:Nat) ω
  repeat'(first|refine gE ?_|(conv=>whnf);first|with_reducible refine Bf.NB (λa=>?_) (λa=>?_)|refine CL (nq S2 _ ω) ⟨⟨rfl,d8 _⟩,⟨rfl,rfl⟩,trivial⟩ ?_|refine Bf.P (λa=>?_) (λa=>?_))
  all_goals first
   | exact Z0 (λz=>[B z]) ((FG (bX Y (by unfold wb;rw[<-b];grind))).symm)
   | ((conv=>whnf);refine CG (p+1) ⟨ω,br X (by unfold wb;rw[<-b];grind)⟩ ω ?_;(exact wB))
 repeat'(first|refine gE ?_|fail)
 obtain rfl:p=dQ h:=ω
 exact Z0 (λz=>[B z]) ((wT L Q u X).symm)
set_option maxHeartbeats 8000000
def DS{z1 z2:Int}(h:z1=z2):RO (I z1) (I z2):=by subst h;rfl
def Jz{S:List Int} : z∈ins S p↔z∈S\/z=p:=by
 unfold ins;split
 ·rename_i a
  exact⟨.inl,λh=>h.elim id λe=>e ▸ a⟩
 simp
def x8(S:List Int):(fV S).map (·.1)=S:=by unfold fV;rw[List.map_map];simp[X6]
variable{t:aH}
def fB{p:Nat}(a:p<t.J.length):ac t (p:Nat)=nth t.J p:=by
 unfold ac;rw[CD ω];simp
def BI(h:ab)(Q:dK h.K)(R:dG h.M)(l:vT h)(T:iH h.w)(G:bp h.K h.M=true):zzA 74 false [.val (some 24) (ab.enc .U h)] .one [B (pages0 h&&oN h)]:=by
 have hl1:=Q.1;have hl2:=R.1;have hl3:dQ h<=1048576:=l.1;have hl4:=T.1;have d:pages0 h=false->[B false]=[B (pages0 h&&oN h)]:=λe=>by rw[e];rfl
 refine fO 177 [(4,14,[25,26,27,28,29,30,31,32,33,34,35,36,37,38]),(16,14,[60,61,62,63,64,65,66,67,68,69,70,71,72,73]),(28,18,[102,103,104,105,106,107,108,109,110,111,112,113,114,115,116,117,118,119]),(42,23,[152,153,154,155,156,157,158,159,160,161,162,163,164,165,166,167,168,169,170,171,172,173,174])] Tryz.func74 rfl ?_
 repeat'(first|refine gP ?_|fail)
 (conv=>whnf)
 refine CH (ι:=Nat) (λi=>[(1,.H .box (ab.enc .U h)),(18,.H .one (bT .U h.K)),(19,.H .one [I (h.K.length)]),(20,.H .one [I ((i:Nat):Int)])]) (λi=>i<=h.K.length/\cE i (yb h.K)=true) (λi=>h.K.length - i) 0 ?_ ⟨X0 _,rfl⟩ λi o=>?_
 ·exact wB
 obtain⟨o,H⟩:=o;by_cases F:i<h.K.length
 ·have g:=ao F
  repeat'(first|refine gE ?_|(conv=>whnf);first|with_reducible refine Bf.D (λa=>?_) (λa=>?_)|refine CP ω (aa (gC ω F)) ?_)
  all_goals first
   |exact d (GL (bX F (W0 ω)))
   | ((conv=>whnf);refine CG (i+1) ⟨ω,br H (O0 ω)⟩ ω ?_;(exact wB))
 obtain rfl:i=h.K.length:=ω
 repeat'(first|refine gE ?_|fail)
 (conv=>whnf)
 refine CH (ι:=Nat × List Int) (λi=>[(1,.H .box (ab.enc .U h)),(5,.H .one [.m (fV i.2)]),(42,.H .one (bT .U h.K)),(43,.H .one [I (h.K.length)]),(44,.H .one [I ((i.1:Nat):Int)])]) (λi=>i.1<=h.K.length/\∀z,z∈i.2↔z∈(h.K.take i.1).map (·.Q)) (λi=>h.K.length - i.1) ((0,[])) ?_ (⟨X0 _,λz=>Iff.rfl⟩) λi o=>?_
 ·exact wB
 obtain⟨i,S⟩:=i;obtain⟨U,L⟩:=o;simp only at U L |-;by_cases li2:i<h.K.length
 ·have g:=ao li2
  repeat'(first|refine gE ?_|(conv=>whnf);refine Mu.mk (yV S _) ?_)
  ((conv=>whnf);refine CG (i+1,ins S (nth h.K i).Q) ⟨(by simp only;omega),λz=>by simp only[Jz,L];rw[O6,g];simp⟩ (by simp only;omega) ?_;(exact wB))
 obtain rfl:i=h.K.length:=ω
 rw[Y5]at L
 repeat'(first|refine gE ?_|fail)
 (conv=>whnf)
 refine CH (ι:=Nat × List Int) (λk=>[(1,.H .box (ab.enc .U h)),(5,.H .one [.m (fV k.2)]),(53,.H .one (bJ .U h.M)),(54,.H .one [I (h.M.length)]),(55,.H .one [I ((k.1:Nat):Int)])]) (λk=>k.1<=h.M.length/\(∀z,z∈k.2↔z∈pgs h.K (h.M.take k.1))/\cE k.1 (uG h)=true) (λk=>h.M.length - k.1) ((0,S)) ?_ (⟨X0 _,λz=>by simp only[L];unfold pgs;simp,rfl⟩) λk V=>?_
 ·exact wB
 obtain⟨k,S2⟩:=k;obtain⟨V,b,W⟩:=V;simp only at V b W |-;by_cases M:k<h.M.length
 ·have g:=ao M
  have hpg:=tV G g
  repeat'(first|refine gE ?_|(conv=>whnf);first|with_reducible refine Bf.D (λa=>?_) (λa=>?_)|refine CP ω (aa (gC ω M)) ?_)
  all_goals first
   |exact d (tF (bX M (Pf (W0 ω))))
   |have u:yB h.M k=true:=O0 ω
    (conv=>whnf)
    refine CH (ι:=Nat × List Int) (λq=>[(1,.H .box (ab.enc .U h)),(5,.H .one [.m (fV q.2)]),(9,.H .box (a7.enc .U (nth h.M k))),(10,.H .one [I ((nth h.M k).Q+(q.1:Nat))]),(53,.H .one (bJ .U h.M)),(54,.H .one [I (h.M.length)]),(55,.H .one [I ((k:Nat):Int)])]) (λq=>q.1<=(nth h.M k).a1.toNat/\(∀z,z∈q.2↔z∈S2++lpgs (nth h.M k) q.1)/\cE q.1 (yZ h (nth h.M k))=true) (λq=>(nth h.M k).a1.toNat - q.1) ((0,S2)) ?_ (⟨X0 _,λz=>by simp[lpgs],rfl⟩) λq a=>?_
    ·exact wB
    obtain⟨q,X⟩:=q;obtain⟨Y,w,Z⟩:=a;simp only at Y w Z |-;by_cases lq:q<(nth h.M k).a1.toNat
    ·have hfl:=gt h ((nth h.M k).Q+(q:Nat))
     repeat'(first|refine gE ?_|(conv=>whnf);first|with_reducible refine Bf.N (λa=>?_) (λa=>?_)|refine C9 (oM h _ l) ?_|refine Mu.mk (yV X _) ?_)
     all_goals first
      |exact d (tF (bX M (P0 lq (W0 ω))))
      | ((conv=>whnf)
         refine CG (q+1,ins X ((nth h.M k).Q+(q:Nat))) ⟨(by simp only;omega),λz=>by simp only[Jz,w];rw[l8];simp[or_assoc],br Z (O0 ω)⟩ (by simp only;omega) ?_
         (repeat'(first|exact trivial|rfl|refine CN ?_ ?_|exact DS (by simp;omega))))
    obtain rfl:q=(nth h.M k).a1.toNat:=ω
    repeat'(first|refine gE ?_|fail)
    ((conv=>whnf);refine CG (k+1,X) ⟨(by simp only;omega),(λz=>by simp only[w];rw[p6 _ g];simp[b]),br W (E0 u Z)⟩ (by simp only;omega) ?_;(exact wB))
 obtain rfl:k=h.M.length:=ω
 rw[Y5]at b
 repeat'(first|refine gE ?_|fail)
 (conv=>whnf)
 refine CH (ι:=Nat) (λp=>[(1,.H .box (ab.enc .U h)),(5,.H .one [.m (fV S2)]),(98,.H .one [I (dQ h)]),(99,.H .one [I ((p:Nat):Int)])]) (λp=>p<=dQ h/\cE p (wb h)=true) (λp=>dQ h - p) 0 ?_ ⟨X0 _,rfl⟩ λp O=>?_
 ·exact wB
 obtain⟨O,ap⟩:=O;by_cases lp:p<dQ h
 ·have hr:=Ae h.w (p:Nat) ω
  have J:=vB h.G (p:Nat) l;rw[fB lp]at J
  repeat'(first|refine gE ?_|(conv=>whnf);first|with_reducible refine Bf.NB (λa=>?_) (λa=>?_)|refine Ml.mk (nH (p:Nat) S2) ?_|refine Bf.P (λa=>?_) (λa=>?_))
  all_goals first
   |exact d (FG (bX lp (by unfold wb tbl;have:=b (p:Nat);grind)))
   | ((conv=>whnf);refine CG (p+1) ⟨ω,br ap (by unfold wb tbl;have:=b (p:Nat);grind)⟩ ω ?_;(exact wB))
 obtain rfl:p=dQ h:=ω
 repeat'(first|refine gE ?_|fail)
 have hpn:dQ h=h.G.F.R.J.length:=rfl
 (conv=>whnf)
 refine CH (ι:=Option Int × List Int) (λt=>[(1,.H .box (ab.enc .U h)),(122,.H .one [.it t.1 t.2])]) (λt=>(∀z∈S2,z∈t.2\/z<dQ h)/\∀z∈t.2,z∈S2) (λt=>t.2.length) ((none,(fV S2).map (·.1))) ?_ (⟨λz n=>.inl (by rw[x8];exact n),λz n=>by rw[x8]at n;exact n⟩) λt ht=>?_
 ·exact wB
 obtain⟨cur,left⟩:=t;obtain⟨y,C⟩:=ht;simp only at y C |-
 repeat'(first|refine gP ?_|(conv=>whnf);first|with_reducible refine Bf.D (λa=>?_) (λa=>?_)|refine Nt.mk (λa=>?_) (λl1 k l2 a=>?_))
 rotate_left
 ·exact d (FZ (p:=k) ((b k).1 (C k (by subst left;simp))) ω)
 ·((conv=>whnf);refine CG (some k,l1++l2) ⟨λz n=>by have c:=y z n;subst left;simp only[V3,List.mem_cons]at c |-;rcases c with(c|c|c)|c;exact .inl (.inl c);(subst c;exact .inr ω);exact .inl (.inr c);exact .inr c,λz n=>C z (by subst left;simp only[V3,List.mem_cons]at n |-;grind)⟩ (by subst left;simp) ?_;(exact wB))
 have K:∀p∈pgs h.K h.M,p<dQ h:=λp O=>by
  have c:=y p ((b p).2 O);subst left;simpa using c
 have h0:pages0 h=true:=wT H W K ap;rw[h0,Bool.true_and]
 (conv=>whnf)
 refine CH (ι:=Nat) (λi=>[(1,.H .box (ab.enc .U h)),(136,.H .one (bT .U h.K)),(137,.H .one [I (h.K.length)]),(138,.H .one [I ((i:Nat):Int)])]) (λi=>i<=h.K.length/\cE i (λi=>cE i (lU h i))=true) (λi=>h.K.length - i) 0 ?_ ⟨X0 _,rfl⟩ λi o=>?_
 ·exact wB
 obtain⟨o,H⟩:=o;by_cases F:i<h.K.length
 ·have g:=ao F
  have htl:(h.K.take i).length=i:=by rw[Z1];omega
  repeat'(first|refine gE ?_|(conv=>whnf);refine CZ i rfl (by simp;omega) (λr hr=>by obtain⟨z,-,rfl⟩:=Z4.1 hr;rfl) (X4 ..) ?_)
  (conv=>whnf)
  refine CH (ι:=Nat) (λj=>[(1,.H .box (ab.enc .U h)),(14,.H .box (ax.enc .U (nth h.K i))),(136,.H .one (bT .U h.K)),(137,.H .one [I (h.K.length)]),(138,.H .one [I ((i:Nat):Int)]),(146,.H .one (bT .U (h.K.take i))),(147,.H .one [I ((h.K.take i).length)]),(148,.H .one [I ((j:Nat):Int)])]) (λj=>j<=(h.K.take i).length/\cE j (lU h i)=true) (λj=>(h.K.take i).length - j) 0 ?_ ⟨X0 _,rfl⟩ λj hj=>?_
  ·exact wB
  obtain⟨hj,aj⟩:=hj;by_cases lj:j<(h.K.take i).length
  ·have hy:=ao lj
   have he:nth (h.K.take i) j=nth h.K j:=bm (by rw[List.getElem?_take_of_lt ω];exact ao ω);rw[he]at hy;have J:=zP (nth h.K i) (nth h.K j);cases em:meshable (nth h.K i) (nth h.K j)<;>rw[em]at J
   all_goals
    repeat'(first|refine gE ?_|(conv=>whnf);first|with_reducible refine Bf.E (λa=>?_) (λa=>?_)|refine C9 (gM (tbl h) _ l) ?_)
    all_goals first
     | exact Z0 (λz=>[B z]) ((by symm;exact bX F (bX (i:=j) ω (by unfold lU;rw[em];grind))))
     | ((conv=>whnf);refine CG (j+1) ⟨ω,br aj (by unfold lU;rw[em];grind)⟩ ω ?_;(exact wB))
  obtain rfl:j=(h.K.take i).length:=ω
  rw[htl]at aj
  repeat'(first|refine gE ?_|fail)
  ((conv=>whnf);refine CG (i+1) ⟨ω,br H aj⟩ ω ?_;(exact wB))
 obtain rfl:i=h.K.length:=ω
 repeat'(first|refine gE ?_|fail)
 exact Z0 (λz=>[B z]) ((by unfold oN;rw[H]))
set_option maxHeartbeats 8000000
def iR[Inhabited α](pr:α->Bool)(xs:List α):cu pr xs = -1\/∃n,n<xs.length/\cu pr xs=(n:Nat)/\pr (nth xs n)=true:=by
 unfold cu;cases h:xs.findIdx? pr with
 | none=>exact .inl rfl
 | some i=>
  obtain⟨a,b,-⟩:=Z7.1 h;exact .inr ⟨i,a,rfl,by rw[bm (W2 a)];exact b⟩
def Fz(a:i<h.K.length)(b:k<(aP h (nth h.K i).Q).length)(c:mJ h i (nth (aP h (nth h.K i).Q) k)=false):tD h=false:=by
 unfold tD;exact bX a (fe (ao b) c)
def Ds(h:ab)(j:dK h.K)(c:vT h):zzA 227 false [.val (some 24) (ab.enc .U h)] .one [B (tD h)]:=by
 have l:=j.1;have G:dQ h<=1048576:=c.1;refine fO 55 [(4,8,[14,15,16,17,18,19,20,21]),(8,6,[28,29,30,31,32,33]),(9,21,[34,35,36,37,38,39,40,41,42,43,44,45,46,47,48,49,50,51,52,53,54])] Tryz.func227 rfl ?_
 repeat'(first|refine gP ?_|fail)
 (conv=>whnf)
 refine CH (ι:=Nat) (λi=>[(1,.H .box (ab.enc .U h)),(3,.H .one [I ((i:Nat):Int)])]) (λi=>i<=h.K.length/\cE i (λi=>(aP h (nth h.K i).Q).all (mJ h i))=true) (λi=>h.K.length - i) 0 ?_ ⟨X0 _,rfl⟩ λi w=>?_
 ·exact wB
 obtain⟨w,y⟩:=w;by_cases o:i<h.K.length
 ·have q:=ao o
  have H:=gt h (nth h.K i).Q
  repeat'(first|refine gE ?_|(conv=>whnf);refine C9 (iF h _ c) ?_)
  (conv=>whnf)
  refine CH (ι:=Nat) (λk=>[(1,.H .box (ab.enc .U h)),(3,.H .one [I ((i:Nat):Int)]),(4,.H .one (aD .own (aP h (nth h.K i).Q))),(5,.H .one [I ((k:Nat):Int)])]) (λk=>k<=(aP h (nth h.K i).Q).length/\((aP h (nth h.K i).Q).take k).all (mJ h i)=true) (λk=>(aP h (nth h.K i).Q).length - k) (0) ?_ (⟨X0 _,rfl⟩) λk C=>?_
  ·exact wB
  obtain⟨C,E⟩:=C;by_cases r:k<(aP h (nth h.K i).Q).length
  ·have d:=ao r
   have a:=kG h (nth (aP h (nth h.K i).Q) k) l;rcases iR (jI (nth (aP h (nth h.K i).Q) k)) h.K with e|⟨n,J,e,-⟩
   ·rw[show eX h (nth (aP h (nth h.K i).Q) k) = -1 from e]at a
    have t:mJ h i (nth (aP h (nth h.K i).Q) k)=false:=by
     unfold mJ;rw[show eX h (nth (aP h (nth h.K i).Q) k) = -1 from e,W0 ω,W0 ω];rfl
    repeat'(first|refine gE ?_|(conv=>whnf);first|with_reducible (first|refine CF (aa q) ?_|refine CF (aa d) ?_|refine Bf.D (λb=>?_) (λb=>?_)|refine Bf.N (λb=>?_) (λb=>?_))|refine CJ rfl (aa d) rfl ?_|refine C9 a ?_)
    all_goals first
     | exact Z0 (λz=>[B z]) ((Fz o r t).symm)
     
   rw[show eX h (nth (aP h (nth h.K i).Q) k)=(n:Nat) from e]at a;have K:=ao J;have F:=mR (nth h.K i) (nth h.K n);have g:mJ h i (nth (aP h (nth h.K i).Q) k)=(decide ((n:Int)=(i:Nat)) || meshable (nth h.K i) (nth h.K n)):=by
    unfold mJ;rw[show eX h (nth (aP h (nth h.K i).Q) k)=(n:Nat) from e,O0 (p:=(0:Int)<=(n:Nat)) ω];simp
   cases u:meshable (nth h.K i) (nth h.K n)<;>rw[u]at F
   all_goals
    repeat'(first|refine gE ?_|(conv=>whnf);with_reducible refine Bf.N (λb=>?_) (λb=>?_))
    all_goals first
     | exact Z0 (λz=>[B z]) ((Fz o r (by rw[g,u];grind)).symm)
     | ((conv=>whnf);refine CG (k+1) ⟨ω,cZ d E (by rw[g,u];grind)⟩ ω ?_;(exact wB))
     
  repeat'(first|refine gE ?_|fail)
  ((conv=>whnf);refine CG (i+1) ⟨ω,br y (gV ω E)⟩ ω ?_;(exact wB))
 obtain rfl:i=h.K.length:=ω
 repeat'(first|refine gE ?_|fail)
 exact Z0 (λz=>[B z]) ((by unfold tD;rw[y]))
def L0(j:cA)(b:cA.sml j):zzA 232 false [.val (some 5) (cA.enc .U j)] .one [B (ta j)]:=by
 have c:j.X.T.length<=1048576:=b;refine fO 30 [] Tryz.func232 rfl ?_
 repeat'(first|refine gP ?_|(conv=>whnf);with_reducible refine Bf.E (λa=>?_) (λa=>?_))
 all_goals exact Z0 (λz=>[B z]) ((by unfold ta;first|(symm;exact W0 ω)|(rw[I5,beq_iff_eq,C0];omega)))
def oB(sp:List ax)(la:List a7)(a:Int):((denotes sp la a).b6=1->0<=(denotes sp la a).c5/\(denotes sp la a).c5.toNat<sp.length)/\((denotes sp la a).b6=3->0<=(denotes sp la a).c5/\(denotes sp la a).c5.toNat<la.length):=by
 unfold denotes;cases c:sp.findIdx? (cK · a) with
 | some i=>
  obtain⟨b,-⟩:=Z7.1 c;simp only[oW];refine⟨λ_=>⟨ω,by simpa using b⟩,λe=>?_⟩;split at e<;>cases e
 | none=>
  cases d:la.findIdx? (bf · a) with
  | some i=>
   obtain⟨b,-⟩:=Z7.1 d;exact⟨λe=>(by cases e),λ_=>⟨by simp,by simpa using b⟩⟩
  | none=>exact⟨λe=>(by cases e),λe=>(by cases e)⟩
def Jb(h:ab)(a c:Int)(d:dK h.K)(e:dG h.M)(b:bp h.K h.M=true)(k:n9 a):zzA 377 false [.val (some 24) (ab.enc .U h),.val none [I a],.val none [I c]] .one [B (dr h a c)]:=by
 have j:=nQ h.K h.M a d e b k;obtain⟨g,-⟩:=oB h.K h.M a;unfold dr;generalize denotes h.K h.M a=w at j g |-;refine fO 37 [] Tryz.func377 rfl ?_
 repeat'(first|refine gP ?_|(conv=>whnf);first|with_reducible (first|refine Bf.D (λi=>?_) (λi=>?_)|refine Bf.E (λi=>?_) (λi=>?_))|refine CP (g (by assumption)).1 (aa (ao (g (by assumption)).2)) ?_)
 all_goals exact Z0 (λz=>[B z]) ((by grind))
def Aq(h:ab)(o:bn)(w:jK)(a:denotes h.K h.M o.Addr=w):jq h o=(decide (w.c9=0)&&((decide (w.b6=1)&&decide ((nth h.K w.c5.toNat).a=aJ o.o)) || (decide (w.b6=3)&&decide ((nth h.M w.c5.toNat).o=o.o)))):=by
 unfold jq;rw[a]
def jG(a:i<h.O.length)(b:objAt (IntKind.i64.wrap (h.d - 1)) h i=false):fo h=false:=bX a b
variable{a:Int}
def JO(h1:gS a h i=false):objAt a h i=false:=by unfold objAt;rw[h1];rfl
def JY(h1:(h.O.take i).any (bR (nth h.O i).Id)=true):objAt a h i=false:=by unfold objAt;rw[h1];simp
def Kn(h1:jq h (nth h.O i)=false):objAt a h i=false:=by unfold objAt;rw[h1];simp
def Bm(h1:gS a h i=true)(b:(h.O.take i).any (bR (nth h.O i).Id)=false)(c:jq h (nth h.O i)=true):objAt a h i=true:=by unfold objAt;rw[h1,b,c];rfl
def HR(h:ab)(l:dK h.K)(n:dG h.M)(g:bp h.K h.M=true)(K:h.O.length<=1048576)(L:h.S.length<=1048576)(H:∀o∈h.O,n9 o.Addr):zzA 230 false [.val (some 24) (ab.enc .U h)] .one [B (fo h)]:=by
 refine fO 117 [(5,33,[21,22,23,24,25,26,27,28,29,30,31,32,33,34,35,36,37,38,39,40,41,42,43,44,45,46,47,48,49,50,51,52,53]),(10,9,[59,60,61,62,63,64,65,66,67]),(13,16,[75,76,77,78,79,80,81,82,83,84,85,86,87,88,89,90]),(14,15,[91,92,93,94,95,96,97,98,99,100,101,102,103,104,105])] Tryz.func230 rfl ?_
 repeat'(first|refine gP ?_|fail)
 (conv=>whnf)
 refine CH (ι:=Nat) (λi=>[(1,.H .box (ab.enc .U h)),(3,.H .one [I ((i:Nat):Int)])]) (λi=>i<=h.O.length/\cE i (objAt (IntKind.i64.wrap (h.d - 1)) h)=true) (λi=>h.O.length - i) 0 ?_ ⟨X0 _,rfl⟩ λi t=>?_
 ·exact wB
 obtain⟨t,u⟩:=t;by_cases e:i<h.O.length
 ·have y:=ao e
  have C:=nQ h.K h.M (nth h.O i).Addr l n g (H _ (am e));obtain⟨p,q⟩:=oB h.K h.M (nth h.O i).Addr;have b:=Aq h (nth h.O i) _ rfl;generalize denotes h.K h.M (nth h.O i).Addr=w at C p q b;by_cases c:gS (IntKind.i64.wrap (h.d - 1)) h i=true
  ·have a:=c
   unfold gS at a;rw[C0]at a
   repeat'(first|refine gE ?_|(conv=>whnf);first|with_reducible refine Bf.D (λd=>?_) (λd=>?_)|refine CP ω (aa (gC ω e)) ?_|refine C9 (aI _ _ _) ?_|refine CO rfl ?_)
   all_goals
    (conv=>whnf)
    refine CH (ι:=Nat) (λk=>[(1,.H .box (ab.enc .U h)),(3,.H .one [I ((i:Nat):Int)]),(4,.H .box (bn.enc .U (nth h.O i))),(5,.H .one [I ((k:Nat):Int)])]) (λk=>k<=i/\(h.O.take k).any (bR (nth h.O i).Id)=false) (λk=>i - k) (0) ?_ (⟨X0 _,rfl⟩) λk F=>?_
    ·exact wB
    obtain⟨F,G⟩:=F;by_cases J:k<i
    ·have r:=ao (xs:=h.O) (i:=k) ω
     repeat'(first|refine gE ?_|(conv=>whnf);with_reducible refine Bf.E (λd=>?_) (λd=>?_))
     all_goals first
      | exact Z0 (λz=>[B z]) ((jG e (JY (Dm (i:=k) (by rw[List.getElem?_take_of_lt J];exact r) (O0 (by assumption))))).symm)
      | ((conv=>whnf);refine CG (k+1) ⟨ω,ym r G (W0 (by assumption))⟩ ω ?_;(exact wB))
    obtain rfl:k=i:=ω
    repeat'(first|refine gE ?_|(conv=>whnf);first|with_reducible (first|refine Bf.E (λd=>?_) (λd=>?_)|refine Bf.N (λd=>?_) (λd=>?_))|refine CP (p (by assumption)).1 (aa (ao (p (by assumption)).2)) ?_|refine CP (q (by assumption)).1 (aa (ao (q (by assumption)).2)) ?_|refine C9 (kY _) ?_)
    all_goals first
     | exact Z0 (λz=>[B z]) ((jG e (Kn (by rw[b];grind))).symm)
     | ((conv=>whnf);refine CG (k+1) ⟨ω,br u (Bm c G (by rw[b];grind))⟩ ω ?_;(exact wB))
     
  have j:gS (IntKind.i64.wrap (h.d - 1)) h i=false:=by simpa using c
  have a:=j;unfold gS at a;rw[C5]at a
  repeat'(first|refine gE ?_|(conv=>whnf);first|with_reducible refine Bf.D (λd=>?_) (λd=>?_)|refine CP ω (aa (gC ω e)) ?_|refine C9 (aI _ _ _) ?_|refine CO rfl ?_)
  all_goals first
   | exact Z0 (λz=>[B z]) ((jG e (JO j)).symm)
   
 obtain rfl:i=h.O.length:=ω
 repeat'(first|refine gE ?_|fail)
 exact Z0 (λz=>[B z]) ((show true=fo h from u.symm))
def qy(o a:bn):zzA 248 false [.val (some 4) (bn.enc .U o),.ptr (bn.enc .U a)] .one [B (bR a.Id o)]:=by
 refine fO 9 [] Tryz.func248 rfl ?_
 repeat'(first|refine gP ?_|fail)
 exact Z0 (λz=>[B z]) ((by unfold bR;rw[I5];simp))
def E8(h:ab)(n:dK h.K)(o:dG h.M)(J:h.O.length<=1048576)(K:h.S.length<=1048576):zzA 78 false [.val (some 24) (ab.enc .U h)] .one [B (fo h)]:=by
 refine fO 105 [(4,33,[16,17,18,19,20,21,22,23,24,25,26,27,28,29,30,31,32,33,34,35,36,37,38,39,40,41,42,43,44,45,46,47,48]),(9,16,[62,63,64,65,66,67,68,69,70,71,72,73,74,75,76,77]),(10,15,[78,79,80,81,82,83,84,85,86,87,88,89,90,91,92])] Tryz.func78 rfl ?_
 repeat'(first|refine gP ?_|fail)
 (conv=>whnf)
 refine CH (ι:=Nat) (λi=>[(1,.H .box (ab.enc .U h)),(9,.H .one (jF .U h.O)),(10,.H .one [I (h.O.length)]),(11,.H .one [I ((i:Nat):Int)])]) (λi=>i<=h.O.length/\cE i (objAt (IntKind.i64.wrap (h.d - 1)) h)=true) (λi=>h.O.length - i) 0 ?_ ⟨X0 _,rfl⟩ λi F=>?_
 ·exact wB
 obtain⟨F,G⟩:=F;by_cases g:i<h.O.length
 ·have p:=ao g
  have H:=nJ h.K h.M (nth h.O i).Addr n o;obtain⟨q,t⟩:=oB h.K h.M (nth h.O i).Addr;have b:=Aq h (nth h.O i) _ rfl;generalize denotes h.K h.M (nth h.O i).Addr=w at H q t b;have j:=uk (h.O.take i) (bR (nth h.O i).Id) (by rw[Z1];omega);by_cases c:gS (IntKind.i64.wrap (h.d - 1)) h i=true
  ·have a:=c
   unfold gS at a;rw[C0]at a;cases d:(h.O.take i).any (bR (nth h.O i).Id)<;>rw[d]at j
   ·repeat'(first|refine gE ?_|(conv=>whnf);first|with_reducible (first|refine Bf.D (λe=>?_) (λe=>?_)|refine Bf.E (λe=>?_) (λe=>?_)|refine Bf.N (λe=>?_) (λe=>?_))|refine CP ω (aa (gC ω g)) ?_|refine C9 (aO _ _ _) ?_|refine CZ i rfl (by simp;omega) (λr u=>by obtain⟨z,-,rfl⟩:=Z4.1 u;rfl) (X4 ..) ?_|refine Cq.mk (rM (some 4) (bn.enc .U) (bR (nth h.O i).Id) (h.O.take i)) (qy default (nth h.O i)).has (λL k rcs C=>by obtain⟨y,-,rfl,rfl,rfl⟩:=C;exact qy y (nth h.O i)) ?_|refine CP (q (by assumption)).1 (aa (ao (q (by assumption)).2)) ?_|refine CP (t (by assumption)).1 (aa (ao (t (by assumption)).2)) ?_|refine C9 (oq _) ?_|refine CO rfl ?_)
    all_goals first
     | exact Z0 (λz=>[B z]) ((jG g (Kn (by rw[b];grind))).symm)
     | ((conv=>whnf);refine CG (i+1) ⟨ω,br G (Bm c d (by rw[b];grind))⟩ ω ?_;(exact wB))
     
   repeat'(first|refine gE ?_|(conv=>whnf);first|with_reducible refine Bf.D (λe=>?_) (λe=>?_)|refine CP ω (aa (gC ω g)) ?_|refine C9 (aO _ _ _) ?_|refine CZ i rfl (by simp;omega) (λr u=>by obtain⟨z,-,rfl⟩:=Z4.1 u;rfl) (X4 ..) ?_|refine Cq.mk (rM (some 4) (bn.enc .U) (bR (nth h.O i).Id) (h.O.take i)) (qy default (nth h.O i)).has (λL k rcs C=>by obtain⟨y,-,rfl,rfl,rfl⟩:=C;exact qy y (nth h.O i)) ?_|refine CO rfl ?_)
   all_goals first
    | exact Z0 (λz=>[B z]) ((jG g (JY d)).symm)
    
  have l:gS (IntKind.i64.wrap (h.d - 1)) h i=false:=by simpa using c
  have a:=l;unfold gS at a;rw[C5]at a
  repeat'(first|refine gE ?_|(conv=>whnf);first|with_reducible refine Bf.D (λe=>?_) (λe=>?_)|refine CP ω (aa (gC ω g)) ?_|refine C9 (aO _ _ _) ?_|refine CO rfl ?_)
  all_goals first
   | exact Z0 (λz=>[B z]) ((jG g (JO l)).symm)
   
 obtain rfl:i=h.O.length:=ω
 repeat'(first|refine gE ?_|fail)
 exact Z0 (λz=>[B z]) ((show true=fo h from G.symm))
set_option maxHeartbeats 8000000
variable{n:Nat}
def Lw(h:kJ sp la n=true):mr sp la (n+1)=mr sp la n++[(n:Int)]:=by
 unfold mr;rw[List.range_succ,List.filter_append,W6];simp[h]
def Nm(h:kJ sp la n=false):mr sp la (n+1)=mr sp la n:=by
 unfold mr;rw[List.range_succ,List.filter_append,W6];simp[h]
def Bj(sp:List ax)(la:List a7)(n:Nat):(mr sp la n).length<=n:=by
 unfold mr;rw[I1];exact O5 (List.length_filter_le ..) (by simp)
def tE{w:jK}(a:denotes sp la (n:Nat)=w):kJ sp la n=(decide (w.c9=0)&&(decide (w.b6=1) || decide (w.b6=3))):=by
 unfold kJ;rw[a]
def QF(h:n<=1048576):n9 (n:Nat):=⟨ω,ω⟩
def yJ(sp:List ax)(la:List a7)(c:dK sp)(d:dG la)(a:bp sp la=true):zzA 378 false [.val none (bT .U sp),.val none (bJ .U la)] .one (aD .own (io sp la)):=by
 have g:=mE sp la c d;rw[a]at g;refine fO 40 [] Tryz.func378 rfl ?_ (.inr (bG _))
 repeat'(first|refine gP ?_|fail)
 (conv=>whnf)
 refine CH (ι:=Nat) (λn=>[(0,.H .one (bT .U sp)),(1,.H .one (bJ .U la)),(5,.H .one (aD .own (mr sp la n))),(6,.H .one [I ((n:Nat):Int)])]) (λn=>n<=512) (λn=>512 - n) (0) ?_ (X0 _) λn o=>?_
 ·exact wB
 have i:=Bj sp la n;by_cases p:n<512
 ·have h:=nQ sp la (n:Nat) c d a (QF ω)
  generalize j:denotes sp la (n:Nat)=w at h;have e:=tE j
  repeat'(first|refine gE ?_|(conv=>whnf);first|with_reducible refine Bf.E (λk=>?_) (λk=>?_)|refine CU cw (λr l=>by rw[V1.1 l];rfl) (by simp[aZ,dS]) (by simp;omega) (by simp only[I1];exact wZ (by simp;omega) (by decide)) rfl ?_)
  all_goals first
   |(have b:kJ sp la n=true:=by rw[e];grind
     (conv=>whnf)
     refine CG (n+1) ω ω ?_;rw[Lw b]
     (repeat'(first|exact trivial|rfl|exact CN rfl (CN (Z0 (C.s dN.own) (by simp[rI])) trivial)|refine CN ?_ ?_)))
   |(have b:kJ sp la n=false:=by rw[e];grind
     (conv=>whnf)
     refine CG (n+1) ω ω ?_;rw[Nm b]
     (exact wA))
 obtain rfl:n=512:=ω
 repeat'(first|refine gE ?_|(conv=>whnf);refine C9 g ?_)
 rfl
def yw(m:aL)(a:m.y.length=m.V.length):∀i,i<=m.V.length->(((flight1 m i).length+(flight2 m i).length:Nat):Int)=bx m i
 | 0,_=>rfl
 | i+1,h=>by
  have d:=yw m a i ω;have b:=ao (xs:=m.V) (i:=i) ω;have c:=ao (xs:=m.y) (i:=i) ω;rw[nZ b,nP c];simp only[Y3,I1];show _=bx m i+((nth m.V i).length+(nth m.y i).length);omega
def kW(h:bP m=true):(aF m).length<=30:=by
 have a:=lh h;have b:=yw m a.2.2 m.V.length (W3 _);have c:bx m m.V.length<=30:=by
  unfold bP at h;simp only[I0,C0]at h;exact h.2
 rw[pz h,Y3,a.2.2];omega
def EI(d:aL.wf m):∀a∈aF m,n9 a:=by
 intro a b;unfold aF at b;split at b
 ·rcases V3.1 b with h|h
  ·obtain⟨l,c,h⟩:=List.mem_flatMap.1 h
   obtain⟨p,e,rfl⟩:=Z4.1 h;exact((d.1.2 l c).2 p e).2
  obtain⟨l,c,h⟩:=List.mem_flatten.1 h;exact(d.2.2 l c).2 a h
 cases b
def M0(h1:h.S.all (fk h)=false):je h=false:=by unfold je gW;rw[h1];rfl
def KX(h1:h.a9.a5.all (ix h)=false):je h=false:=by unfold je gW;rw[h1];simp
def LS(h1:(aF h.q).all (jX h)=false):je h=false:=by unfold je gW;rw[h1];simp
def LI(a:i<(holders h).length)(b:nth (holders h) i∈(holders h).take i):je h=false:=by
 have c:decide (holders h).Nodup=false:=PT (S:=(holders h).take i) (p:=nth (holders h) i) (by
   have:=ao a;have e:(holders h).take i++[nth (holders h) i]=(holders h).take (i+1):=by rw[O6,this];rfl
   rw[e];exact List.take_prefix ..) b
 unfold je;rw[c];simp
def v6{c:a8}(a:h.S[i]? = some c):((h.S.take (i+1)).flatMap λc=>c.b.flatten)=((h.S.take i).flatMap λc=>c.b.flatten)++c.b.flatten:=by
 rw[O6,a,List.flatMap_append];simp
def xI{c:a8}(a:c.b[k]? = some l):(c.b.take (k+1)).flatten=(c.b.take k).flatten++l:=by
 rw[O6,a,List.flatten_append];simp
def Hw(h:ab)(hs:ab.sml h)(hw:ab.wf h)(y:bp h.K h.M=true)(G:bP h.q=true)(hco:∀c∈h.S,bt c=true):zzA 231 false [.val (some 24) (ab.enc .U h)] .one [B (je h)]:=by
 obtain⟨-,-,N,O,hso,hsc,hsm,hsq,-⟩:=hs;obtain⟨-,-,-,-,-,hwc,hwm,hwq,-⟩:=hw;have hlo:h.O.length<=1048576:=hso.1;have hlc:h.S.length<=1048576:=hsc.1;have hlq:h.a9.a5.length<=1048576:=hsq.1;have hfl:=kW G;have hfw:=EI hwm;have H:∀a c,n9 a->zzA 377 false [.val (some 24) (ab.enc .U h),.val none [I a],.val none [I c]] .one [B (dr h a c)]:=λa c ha=>Jb h a c N O y ha
 refine fO 159 [(16,8,[63,64,65,66,67,68,69,70]),(22,17,[86,87,88,89,90,91,92,93,94,95,96,97,98,99,100,101,102]),(29,7,[122,123,124,125,126,127,128]),(35,8,[142,143,144,145,146,147,148,149])] Tryz.func231 rfl ?_
 repeat'(first|refine gP ?_|fail)
 (conv=>whnf)
 refine CH (ι:=Nat × List Int) (λi=>[(1,.H .box (ab.enc .U h)),(3,.H .one (aD .own i.2)),(4,.H .one [I ((i.1:Nat):Int)])]) (λi=>i.1<=h.O.length/\i.2=(h.O.take i.1).map (·.Addr)) (λi=>h.O.length - i.1) ((0,[])) ?_ (⟨X0 _,rfl⟩) λi E=>?_
 ·exact wB
 obtain⟨i,S⟩:=i;obtain⟨E,M⟩:=E;simp only at E M |-;have hSl:S.length=i:=by rw[M,I1,Z1];omega
 by_cases li:i<h.O.length
 ·have t:=ao li
  repeat'(first|refine gE ?_|(conv=>whnf);refine CU cw (λr u=>by rw[V1.1 u];rfl) (by simp[aZ,dS]) (by simp;omega) (by simp only[I1];exact wZ (by simp;omega) (by decide)) rfl ?_)
  ((conv=>whnf)
   refine CG (i+1,S++[(nth h.O i).Addr]) ⟨(by simp only;omega),(by simp only;rw[M,O6,t];simp)⟩ (by simp only;omega) ?_
   (repeat'(first|exact trivial|rfl|exact CN rfl (CN (Z0 (C.s dN.own) (by simp[rI])) trivial)|refine CN ?_ ?_)))
 obtain rfl:i=h.O.length:=ω
 rw[Y5]at M
 repeat'(first|refine gE ?_|fail)
 (conv=>whnf)
 refine CH (ι:=Nat × List Int) (λi=>[(1,.H .box (ab.enc .U h)),(3,.H .one (aD .own i.2)),(5,.H .one [I ((i.1:Nat):Int)])]) (λi=>i.1<=h.S.length/\i.2=S++((h.S.take i.1).flatMap λc=>c.b.flatten)/\(h.S.take i.1).all (fk h)=true/\i.2.length<=1048576+32*i.1) (λi=>h.S.length - i.1) ((0,S)) ?_ (⟨X0 _,by simp,rfl,by simp only;omega⟩) λi E=>?_
 ·exact wB
 obtain⟨i,S2⟩:=i;obtain⟨hi2,n,U,P⟩:=E;simp only at hi2 n U P |-;by_cases li2:i<h.S.length
 ·have t:=ao li2
  obtain⟨h4,h8⟩:=mC (hco _ (am li2));have hwl:=hwc.2 _ (am li2)
  repeat'(first|refine gE ?_|(conv=>whnf);with_reducible refine CF (aa t) ?_)
  (conv=>whnf)
  refine CH (ι:=Nat × List Int) (λk=>[(1,.H .box (ab.enc .U h)),(3,.H .one (aD .own k.2)),(5,.H .one [I ((i:Nat):Int)]),(6,.H .one [I ((k.1:Nat):Int)])]) (λk=>k.1<=(nth h.S i).b.length/\k.2=S2++((nth h.S i).b.take k.1).flatten/\cE k.1 (tn h (nth h.S i))=true/\k.2.length<=S2.length+8*k.1) (λk=>(nth h.S i).b.length - k.1) ((0,S2)) ?_ (⟨X0 _,by simp,rfl,by simp⟩) λk hk=>?_
  ·exact wB
  obtain⟨k,V⟩:=k;obtain⟨hk,w,ak,hb3⟩:=hk;simp only at hk w ak hb3 |-;by_cases W:k<(nth h.S i).b.length
  ·have hy:=ao W
   have hl8:=h8 _ (am W);have hwa:=(hwl.2 _ (am W)).2
   repeat'(first|refine gE ?_|(conv=>whnf);first|with_reducible (first|refine CF (aa t) ?_|refine CF (aa hy) ?_))
   (conv=>whnf)
   refine CH (ι:=Nat × List Int) (λj=>[(1,.H .box (ab.enc .U h)),(3,.H .one (aD .own j.2)),(5,.H .one [I ((i:Nat):Int)]),(6,.H .one [I ((k:Nat):Int)]),(7,.H .one (aD .U (nth (nth h.S i).b k))),(8,.H .one [I ((j.1:Nat):Int)])]) (λj=>j.1<=(nth (nth h.S i).b k).length/\j.2=V++(nth (nth h.S i).b k).take j.1/\((nth (nth h.S i).b k).take j.1).all (λa=>dr h a (k:Nat))=true) (λj=>(nth (nth h.S i).b k).length - j.1) ((0,V)) ?_ (⟨X0 _,by simp,rfl⟩) λj hj=>?_
   ·exact wB
   obtain⟨j,S4⟩:=j;obtain⟨hj,o,X⟩:=hj;simp only at hj o X |-;have hl4:S4.length=V.length+j:=by rw[o,Y3,Z1];omega
   by_cases Y:j<(nth (nth h.S i).b k).length
   ·have d:=ao Y
    have b:=H (nth (nth (nth h.S i).b k) j) (k:Nat) (hwa _ (am Y));cases p:dr h (nth (nth (nth h.S i).b k) j) (k:Nat)<;>rw[p]at b
    ·repeat'(first|refine gE ?_|(conv=>whnf);first|with_reducible refine CF (aa d) ?_|refine C9 b ?_)
     exact Z0 (λz=>[B z]) ((M0 (fe t (by unfold fk;exact bX W (fe d p)))).symm)
    repeat'(first|refine gE ?_|(conv=>whnf);refine CU cw (λr u=>by rw[V1.1 u];rfl) (by simp[aZ,dS]) (by simp;omega) (by show _*8<=_;simp;omega) rfl ?_)
    ((conv=>whnf)
     refine CG (j+1,S4++[nth (nth (nth h.S i).b k) j]) ⟨(by simp only;omega),(by simp only;rw[o,O6,d,V6];rfl),cZ d X p⟩ (by simp only;omega) ?_
     (repeat'(first|exact trivial|rfl|exact CN rfl (CN (Z0 (C.s dN.own) (by simp[rI])) trivial)|refine CN ?_ ?_)))
   obtain rfl:j=(nth (nth h.S i).b k).length:=ω
   rw[Y5]at o X
   repeat'(first|refine gE ?_|fail)
   ((conv=>whnf);refine CG (k+1,S4) ⟨(by simp only;omega),(by simp only;rw[o,w,xI hy,V6]),br ak X,(by simp only;omega)⟩ (by simp only;omega) ?_;(exact wB))
  obtain rfl:k=(nth h.S i).b.length:=ω
  rw[Y5]at w
  repeat'(first|refine gE ?_|(conv=>whnf);with_reducible refine CF (aa t) ?_)
  ((conv=>whnf);refine CG (i+1,V) ⟨(by simp only;omega),(by simp only;rw[w,n,v6 t,V6]),cZ t U ak,(by simp only;omega)⟩ (by simp only;omega) ?_;(exact wB))
 obtain rfl:i=h.S.length:=ω
 rw[Y5]at n U
 repeat'(first|refine gE ?_|fail)
 (conv=>whnf)
 refine CH (ι:=Nat × List Int) (λq=>[(1,.H .box (ab.enc .U h)),(3,.H .one (aD .own q.2)),(9,.H .one [I ((q.1:Nat):Int)])]) (λq=>q.1<=h.a9.a5.length/\q.2=S2++(h.a9.a5.take q.1).map (·.Addr)/\(h.a9.a5.take q.1).all (ix h)=true) (λq=>h.a9.a5.length - q.1) ((0,S2)) ?_ (⟨X0 _,by simp,rfl⟩) λq Q=>?_
 ·exact wB
 obtain⟨q,R⟩:=q;obtain⟨J,g,Z⟩:=Q;simp only at J g Z |-;have hl5:R.length=S2.length+q:=by rw[g,Y3,I1,Z1];omega
 by_cases T:q<h.a9.a5.length
 ·have d:=ao T
  have b:=H (nth h.a9.a5 q).Addr (nth h.a9.a5 q).a (hwq.2.2 _ (am T)).1;cases p:dr h (nth h.a9.a5 q).Addr (nth h.a9.a5 q).a<;>rw[p]at b
  ·repeat'(first|refine gE ?_|(conv=>whnf);first|with_reducible refine CF (aa d) ?_|refine C9 b ?_)
   exact Z0 (λz=>[B z]) ((KX (fe d p)).symm)
  repeat'(first|refine gE ?_|(conv=>whnf);refine CU cw (λr u=>by rw[V1.1 u];rfl) (by simp[aZ,dS]) (by simp;omega) (by show _*8<=_;simp;omega) rfl ?_)
  ((conv=>whnf)
   refine CG (q+1,R++[(nth h.a9.a5 q).Addr]) ⟨(by simp only;omega),(by simp only;rw[g,O6,d,W6,V6];rfl),cZ d Z p⟩ (by simp only;omega) ?_
   (repeat'(first|exact trivial|rfl|exact CN rfl (CN (Z0 (C.s dN.own) (by simp[rI])) trivial)|refine CN ?_ ?_)))
 obtain rfl:q=h.a9.a5.length:=ω
 rw[Y5]at g Z
 repeat'(first|refine gE ?_|(conv=>whnf);refine C9 (zr h.q hsm) ?_)
 (conv=>whnf)
 refine CH (ι:=Nat × List Int) (λq=>[(1,.H .box (ab.enc .U h)),(3,.H .one (aD .own q.2)),(10,.H .one (aD .own (aF h.q))),(11,.H .one [I ((q.1:Nat):Int)])]) (λq=>q.1<=(aF h.q).length/\q.2=R++(aF h.q).take q.1/\((aF h.q).take q.1).all (jX h)=true) (λq=>(aF h.q).length - q.1) ((0,R)) ?_ (⟨X0 _,by simp,rfl⟩) λq Q=>?_
 ·exact wB
 obtain⟨q,e⟩:=q;obtain⟨J,l,aq6⟩:=Q;simp only at J l aq6 |-;have hl6:e.length=R.length+q:=by rw[l,Y3,Z1];omega
 by_cases T:q<(aF h.q).length
 ·have d:=ao T
  have b:=H (nth (aF h.q) q) (-1) (hfw _ (am T));cases p:dr h (nth (aF h.q) q) (-1)<;>rw[p]at b
  ·repeat'(first|refine gE ?_|(conv=>whnf);first|with_reducible refine CF (aa d) ?_|refine CJ rfl (aa d) rfl ?_|refine C9 b ?_)
   exact Z0 (λz=>[B z]) ((LS (fe d p)).symm)
  repeat'(first|refine gE ?_|(conv=>whnf);refine CU cw (λr u=>by rw[V1.1 u];rfl) (by simp[aZ,dS]) (by simp;omega) (by show _*8<=_;simp;omega) rfl ?_)
  ((conv=>whnf)
   refine CG (q+1,e++[nth (aF h.q) q]) ⟨(by simp only;omega),(by simp only;rw[l,O6,d,V6];rfl),cZ d aq6 p⟩ (by simp only;omega) ?_
   (repeat'(first|exact trivial|rfl|exact CN rfl (CN (Z0 (C.s dN.own) (by simp[rI])) trivial)|refine CN ?_ ?_)))
 obtain rfl:q=(aF h.q).length:=ω
 rw[Y5]at l aq6;have F:e=holders h:=by rw[l,g,n,M];rfl
 have K:gW h=true:=by unfold gW;rw[U,Z,aq6];rfl
 have hbig:e.length<=100000000:=ω
 clear l g n M hSl hl5 P hl6
 repeat'(first|refine gE ?_|fail)
 (conv=>whnf)
 refine Lp.fz 3 (ι:=Nat) (λi=>[(1,.H .box (ab.enc .U h)),(3,.H .one (aD .U e)),(12,.H .one [I ((i:Nat):Int)])]) (λi=>i<=e.length/\(e.take i).Nodup) (λi=>e.length - i) 0 ?_ ⟨X0 _,by simp⟩ λi E=>?_
 ·(repeat'(first|exact trivial|rfl|exact CN rfl (show Pc (eH (aD .own e)) (aD .U e) by rw[d8];exact ng _)|refine CN ?_ ?_))
 obtain⟨E,L⟩:=E;by_cases Y:i<e.length
 ·have d:=ao Y
  have htl:(e.take i).length=i:=by rw[Z1];omega
  repeat'(first|refine gE ?_|(conv=>whnf);first|with_reducible refine Bf.D (λQ=>?_) (λQ=>?_)|refine CZ i rfl (by simp;omega) (λr u=>by obtain⟨z,-,rfl⟩:=Z4.1 u;rfl) (X4 ..) ?_|refine C9 (nq (e.take i) _ ω) ?_)
  all_goals first
   | exact Z0 (λz=>[B z]) ((by rw[F]at *;exact(LI (by assumption) (by assumption)).symm))
   | ((conv=>whnf);refine CG (i+1) ⟨ω,by rw[O6,d];exact lV L (by assumption)⟩ ω ?_;(exact wB))
 obtain rfl:i=e.length:=ω
 rw[Y5]at L;have hlv:=Bj h.K h.M 512
 repeat'(first|refine gE ?_|(conv=>whnf);refine C9 (yJ h.K h.M N O y) ?_)
 exact Z0 (λz=>[B z]) ((by unfold je;rw[K,<-F,O0 L,Bool.true_and,Bool.true_and];rw[I5,beq_iff_eq,C0];unfold io at *;omega))
set_option maxHeartbeats 8000000
def d6(h:ab):Bool:=(bP h.q&&decide (h.S.length=h.q.V.length))&&fI h.a9
def cN(h:ab):Bool:=((((((lJ h&&tD h)&&d6 h)&&mz h)&&h.S.all bt)&&cq h)&&(fo h&&je h))&&vG h
def EJ(h:ab)(hs:ab.sml h)(hw:ab.wf h):zzA 70 false [.val (some 24) (ab.enc .U h)] .one [B (cN h)]:=by
 have R:=hs;have S:=hw;obtain⟨w,y,b,l,T,C,E,F,G⟩:=hs;obtain⟨-,-,-,-,U,hwc,hwm,hwq,-⟩:=hw;have n:vT h:=w.1.2;have hpn:dQ h<=1048576:=n.1;have V:h.O.length<=1048576:=T.1;have W:h.S.length<=1048576:=C.1;have hlq:h.a9.a5.length<=1048576:=F.1;have hlb:h.q.V.length<=1048576:=E.1.1;have d:=mI h.G w;have e:=mS (dQ h) h.w ⟨ω,ω⟩ y;have g:=mE h.K h.M b l;have r:=Ds h b n;have H:=mn h.q E;have X:=pv h.a9 F;cases Y:aA h.G<;>rw[Y]at d
 ·refine fO 150 [(8,10,[67,68,69,70,71,72,73,74,75,76])] Tryz.func70 rfl ?_
  repeat'(first|refine gP ?_|(conv=>whnf);first|with_reducible refine Bf.N (λa=>?_) (λa=>?_)|refine C9 d ?_)
  all_goals first
   | exact Z0 (λz=>[B z]) ((by unfold cN lJ;rw[Y];simp))
   
 cases Z:bC (dQ h) h.w<;>rw[Z]at e
 ·refine fO 150 [(8,10,[67,68,69,70,71,72,73,74,75,76])] Tryz.func70 rfl ?_
  repeat'(first|refine gP ?_|(conv=>whnf);first|with_reducible refine Bf.N (λa=>?_) (λa=>?_)|refine C9 d ?_|refine C9 e ?_)
  all_goals first
   | exact Z0 (λz=>[B z]) ((by unfold cN lJ;rw[Z];simp))
   
 cases u:bp h.K h.M<;>rw[u]at g
 ·refine fO 150 [(8,10,[67,68,69,70,71,72,73,74,75,76])] Tryz.func70 rfl ?_
  repeat'(first|refine gP ?_|(conv=>whnf);first|with_reducible refine Bf.N (λa=>?_) (λa=>?_)|refine C9 d ?_|refine C9 e ?_|refine C9 g ?_)
  all_goals first
   | exact Z0 (λz=>[B z]) ((by unfold cN lJ;rw[u];simp))
   
 have p:=FO h b l n y u;cases e4:pages0 h<;>rw[e4]at p
 ·refine fO 150 [(8,10,[67,68,69,70,71,72,73,74,75,76])] Tryz.func70 rfl ?_
  repeat'(first|refine gP ?_|(conv=>whnf);first|with_reducible refine Bf.N (λa=>?_) (λa=>?_)|refine C9 d ?_|refine C9 e ?_|refine C9 g ?_|refine C9 p ?_)
  all_goals first
   | exact Z0 (λz=>[B z]) ((by unfold cN lJ;rw[e4];simp))
   
 cases e5:tD h<;>rw[e5]at r
 ·refine fO 150 [(8,10,[67,68,69,70,71,72,73,74,75,76])] Tryz.func70 rfl ?_
  repeat'(first|refine gP ?_|(conv=>whnf);first|with_reducible refine Bf.N (λa=>?_) (λa=>?_)|refine C9 d ?_|refine C9 e ?_|refine C9 g ?_|refine C9 p ?_|refine C9 r ?_)
  all_goals first
   | exact Z0 (λz=>[B z]) ((by unfold cN ;rw[e5];simp))
   
 cases Q:bP h.q<;>rw[Q]at H
 ·refine fO 150 [(8,10,[67,68,69,70,71,72,73,74,75,76])] Tryz.func70 rfl ?_
  repeat'(first|refine gP ?_|(conv=>whnf);first|with_reducible refine Bf.N (λa=>?_) (λa=>?_)|refine C9 d ?_|refine C9 e ?_|refine C9 g ?_|refine C9 p ?_|refine C9 r ?_|refine C9 H ?_)
  all_goals first
   | exact Z0 (λz=>[B z]) ((by unfold cN d6;rw[Q];simp))
   
 by_cases J:h.S.length=h.q.V.length;rotate_left
 ·refine fO 150 [(8,10,[67,68,69,70,71,72,73,74,75,76])] Tryz.func70 rfl ?_
  repeat'(first|refine gP ?_|(conv=>whnf);with_reducible refine Bf.N (λa=>?_) (λa=>?_))
  all_goals first
   | exact Z0 (λz=>[B z]) ((by unfold cN d6;rw[W0 J];simp))
   |(exfalso;omega)
 cases e7:fI h.a9<;>rw[e7]at X
 ·refine fO 150 [(8,10,[67,68,69,70,71,72,73,74,75,76])] Tryz.func70 rfl ?_
  repeat'(first|refine gP ?_|(conv=>whnf);with_reducible refine Bf.N (λa=>?_) (λa=>?_))
  all_goals first
   | exact Z0 (λz=>[B z]) ((by unfold cN d6;rw[e7];simp))
   
 have K:lJ h=true:=by unfold lJ;rw[Y,Z,u,e4];rfl
 have hmc:d6 h=true:=by unfold d6;rw[Q,O0 J,e7];rfl
 refine fO 150 [(8,10,[67,68,69,70,71,72,73,74,75,76])] Tryz.func70 rfl ?_
 repeat'(first|refine gB ?_|(conv=>whnf);first|with_reducible refine Bf.N (λa=>?_) (λa=>?_)|refine C9 d ?_|refine C9 e ?_|refine C9 g ?_|refine C9 p ?_|refine C9 r ?_|refine C9 H ?_|refine C9 X ?_)
 all_goals try(exfalso;omega)
 (conv=>whnf)
 refine CH (ι:=Nat) (λi=>[(1,.H .box (ab.enc .U h)),(3,.H .one [I ((i:Nat):Int)])]) (λi=>i<=h.a9.a5.length/\(h.a9.a5.take i).all (λx=>decide (x.b7<=h.b5))=true) (λi=>h.a9.a5.length - i) (0) ?_ (⟨X0 _,rfl⟩) λi hi=>?_
 ·exact wB
 obtain⟨hi,ai⟩:=hi;by_cases li:i<h.a9.a5.length
 ·have j:=ao li
  repeat'(first|refine gE ?_|(conv=>whnf);with_reducible refine Bf.D (λa=>?_) (λa=>?_))
  all_goals first
   | exact Z0 (λz=>[B z]) ((by unfold cN mz;rw[fe j (W0 ω)];simp))
   | ((conv=>whnf);refine CG (i+1) ⟨ω,cZ j ai (O0 ω)⟩ ω ?_;(exact wB))
 have hsi:mz h=true:=gV ω ai
 repeat'(first|refine gE ?_|fail)
 (conv=>whnf)
 refine CH (ι:=Nat) (λk=>[(1,.H .box (ab.enc .U h)),(4,.H .one [I ((k:Nat):Int)])]) (λk=>k<=h.S.length/\(h.S.take k).all bt=true) (λk=>h.S.length - k) (0) ?_ (⟨X0 _,rfl⟩) λk hk=>?_
 ·exact wB
 obtain⟨hk,ak⟩:=hk;by_cases lk:k<h.S.length
 ·have j:=ao lk
  have c8:=o6 (nth h.S k) (C.2 _ (am lk));cases e8:bt (nth h.S k)<;>rw[e8]at c8
  ·repeat'(first|refine gE ?_|(conv=>whnf);first|with_reducible refine CF (aa j) ?_|refine C9 c8 ?_)
   exact Z0 (λz=>[B z]) ((by unfold cN;rw[fe j e8];simp))
  repeat'(first|refine gE ?_|(conv=>whnf);first|with_reducible refine CF (aa j) ?_|refine C9 c8 ?_)
  ((conv=>whnf);refine CG (k+1) ⟨ω,cZ j ak e8⟩ ω ?_;(exact wB))
 have L:h.S.all bt=true:=gV ω ak;have q:=HR h b l u V W (λo ho=>(U.2 o ho).2.1);have c10:=Hw h R S u Q (V4.1 L);have c11:=L0 h.Z G;have c12:=yg h.Z G;have c13:=kG h h.Z.X.a3 b.1;have c14:=kG h h.Z.X.a2 b.1;by_cases hn:cq h=true;rotate_left
 ·have M:cq h=false:=by simpa using hn
  have c:=M;unfold cq at c;rw[C5]at c;cases O:fo h<;>rw[O]at q<;>cases e10:je h<;>rw[e10]at c10
  all_goals
   repeat'(first|refine gE ?_|(conv=>whnf);first|with_reducible refine Bf.D (λa=>?_) (λa=>?_)|refine C9 (aI _ _ _) ?_)
   all_goals first
    | exact Z0 (λz=>[B z]) ((by unfold cN;rw[M];simp))
    
 have c:=hn;unfold cq at c;rw[C0]at c;cases O:fo h<;>rw[O]at q
 ·repeat'(first|refine gE ?_|(conv=>whnf);refine C9 (aI _ _ _) ?_)
  all_goals first
   | exact Z0 (λz=>[B z]) ((by unfold cN;rw[O];simp))
   
 cases e10:je h<;>rw[e10]at c10
 ·repeat'(first|refine gE ?_|(conv=>whnf);refine C9 (aI _ _ _) ?_)
  all_goals first
   | exact Z0 (λz=>[B z]) ((by unfold cN;rw[e10];simp))
   
 have P:cN h=vG h:=by unfold cN;rw[K,e5,hmc,hsi,L,hn,O,e10];rfl
 rw[P];unfold vG;cases em:h.u
 ·repeat'(first|refine gE ?_|(conv=>whnf);first|refine C9 (aI _ _ _) ?_|refine Bf.f em ?_)
  all_goals first
   |rfl
   
   
 cases e12:kx h.Z<;>rw[e12]at c12
 all_goals
  repeat'(first|refine gE ?_|(conv=>whnf);first|with_reducible refine Bf.D (λa=>?_) (λa=>?_)|refine C9 (aI _ _ _) ?_|refine Bf.t em ?_)
  all_goals first
   | exact Z0 (λz=>[B z]) ((by grind))
   
def sorted(xs:List Int):List Int:=xs.mergeSort λx y=>decide (x<=y)
def yA(xs:List Int):(sorted xs).length=xs.length:=List.length_mergeSort ..
def H3{w a:World}{g:Nat}{d:Array Int}{f:Array Obj}{c:Array Value}{e:TypeId}{k:Nat × Nat}(l:w.heap[g]? = some (.cells c e k))(p:a=Sort.grow (Sort.putRow (Value.int .i64) (Sort.ahead w n) g 0 d) f) :
  a.os=w.os/\a.tape=w.tape/\a.output=w.output/\w.heap.size<=a.heap.size/\(∀b,b<w.heap.size->b≠g->a.heap[b]? = w.heap[b]?)/\a.heap[g]? = some (.cells (Sort.putCells (Value.int .i64) 0 d c) e k):=by
 subst p;have h:g<w.heap.size:=(t4.1 l).1;have o:∀b,b<w.heap.size->(Sort.grow (Sort.putRow (Value.int .i64) (Sort.ahead w n) g 0 d) f).heap[b]? = if g=b then(w.heap[b]?).map (Sort.onCells (Sort.putCells (Value.int .i64) 0 d)) else w.heap[b]?:=λb i=>by
  rw[Sort.heap_grow_old _ _ (by simpa[Sort.putRow,Sort.mapBlock,Sort.ahead] using i)];show(w.heap.modify g _)[b]? = _;rw[Array.getElem?_modify]
 refine⟨rfl,rfl,rfl,?_,λb i j=>?_,?_⟩
 ·show w.heap.size<=((w.heap.modify g _)++f).size
  simp
 ·rw[o b i,CB λe=>j e.symm]
 rw[o g h,CD rfl,l];rfl
def QX(d:Array Int)(c:Array Value)(q:Nat):(Sort.putCells (Value.int .i64) 0 d c)[q]? = if q<d.size then(c[q]?).map (λ_=>.int .i64 d[q]!) else c[q]?:=by
 unfold Sort.putCells;rw[Array.getElem?_mapIdx];by_cases h:q<d.size
 ·rw[CD h]
  cases c[q]? with
  | none=>rfl
  | some y=>simp[h]
 rw[CB h];cases c[q]? with
 | none=>rfl
 | some y=>simp[h]
def row1{w:World}{S Y:af}{c:C}{v:Value}(h:eY w S Y c v):dn w S Y [c] (λ_=>v):=by
 refine⟨λ_=>Y,λj e a=>?_,λ_ _ _ _ h=>h,λj f a b d=>?_⟩
 ·cases j with
  | zero=>simp at a;subst a;exact h
  | succ j=>simp at a
 simp at a b;omega
def Va(Y:af):Nat->af
 | 0=>Y
 | _+1=>NO
variable{j:Nat}
def E9(xs:List Int)(a:j<xs.length):xs.toArray[j]! = xs[j]:=by
 rw[getElem!_pos xs.toArray j (by simpa using a)];simp
def RW(xs:List Int)(hl:xs.length<=1048576*64):zzB 393 false [.mut none (aD .own xs)] [.mut none (aD .own (sorted xs))] (.tup []) []:=by
 refine⟨⟨_,Tryz.func393,by kernel_rfl,by kernel_rfl⟩,λw S V vs hS hV hVV hA=>?_⟩
 match vs,hA with
 | [v],⟨hA,_⟩=>
  have E:=cb.rep1 (show cb w S (V 0) none [C.s .own (xs.map (rI .own))] v from hA);generalize D:C.s .own (xs.map (rI .own))=cc at E;cases E with
  | nil _ o a ho=>
   cases R:xs with
   | cons x xs'=>rw[R]at D;cases D
   | nil=>
    refine(Tryz.slices_Sort_int_none a 0 w).mono λe d ⟨he,G⟩=>?_
    subst G;refine⟨.tuple #[],he,Cb _ _,NO,λ_=>NO,NO,λ_ _ h=>h.elim,λ_ _ _ h=>h.elim,λ_ _ h=>h.elim,λ_ _ _ _ _ h=>h.elim,λ_ _ _ h=>h.elim,λ_ _ h=>h.elim,λ_ _ _ h=>h.elim,⟨#[],rfl,trivial,rfl⟩,dn.nil _ _ _ _,⟨⟨rfl,λ_=>.slice a 0 0,rfl,row1 (by rw[show sorted []=[] from List.mergeSort_nil ..];exact .nil _ .own _ trivial)⟩,trivial⟩⟩
  | own _ o g k n H rows u f ho O hk T U W hu hf hd hc=>
   cases D;have hnx:n=xs.length:=by rw[<-O,I1]
   have X:0<xs.length:=ω
   have hk1:k=1:=by
    have:=hk (rI .own xs[0]) (Z4.2 ⟨_,List.getElem_mem X,rfl⟩);exact this.symm
   subst hk1 hnx;have t:∀j (y:j<xs.length),cel w g j=some (.int .i64 xs[j]):=λj y=>by
    have J:=hu j ω;have Y:=hc j 0 (rI .own xs[j]) (I xs[j]) (by rw[X3,W2 y];rfl) rfl;rw[Nat.mul_one,Nat.add_zero]at Y;rw[J];generalize u j=z at Y;cases Y
    rfl
   have hgs:g<w.heap.size:=(hV 0 g 0 (W 0 ω).1).1;obtain⟨c,e0,fr,hg,-⟩:=Sort.cells_of_cell? (t 0 X);have hH:Sort.Holds (Value.int .i64) w g 0 xs.toArray:=λj y=>by
    have Z:j<xs.length:=by simpa using y
    refine⟨?_,?_⟩
    ·rw[E9 xs Z,Y7];exact t j Z
    rw[Y7];exact Z0 Prod.fst (W j ω).2.2
   refine(Tryz.slices_Sort_int g 0 H xs w hH hgs ω).mono λe d ⟨he,m,os,G⟩=>?_
   obtain⟨q1,q2,q3,q4,q5,q6⟩:=H3 hg G;have hsl:=yA xs;have B:∀q,cel w g q=c[q]?:=λq=>by show World.cell? w _=_;unfold World.cell?;simp[hg]
   have l:∀q,cel d g q=if q<xs.length then(c[q]?).map (λ_=>.int .i64 (sorted xs).toArray[q]!) else c[q]?:=λq=>by
    have J:=QX (sorted xs).toArray c q;have Y:(sorted xs).toArray.size=xs.length:=by simpa using hsl
    rw[Y]at J;rw[<-J];show World.cell? d _=_;unfold World.cell?;simp[q6,sorted]
   have p:∀q (P:q<xs.length),cel d g q=some (.int .i64 ((sorted xs)[q]'(ω))):=λq P=>by
    have J:=t q P;rw[B]at J;rw[l,CD P,J,Z5,E9 (sorted xs) ω]
   have F:∀q,fro d g q=fro w g q:=λq=>by
    refine Prod.ext ?_ ?_
    ·show World.frozen? d _=World.frozen? w _
     unfold World.frozen?;simp[q6,hg]
    show mp d g=mp w g;unfold mp;rw[q6,hg];simp only[Sort.putCells,Array.size_mapIdx]
   have hother:∀b,b<w.heap.size->b≠g->∀o,cel d b o=cel w b o/\fro d b o=fro w b o:=λb K L o=>by
    have M:=q5 b K L;refine⟨?_,Prod.ext ?_ ?_⟩
    ·show World.cell? d _=World.cell? w _
     unfold World.cell?;simp only[M]
    ·show World.frozen? d _=World.frozen? w _
     unfold World.frozen?;simp only[M]
    show mp d b=mp w b;unfold mp;rw[M]
   have N:bZ (λb o=>∃i,V i b o) w d:=by
    refine⟨q1,q2,q3,q4,λb K O=>q5 b K λe=>?_,λb o K O=>?_,λb o K O=>?_⟩
    ·subst e;exact O 0 ⟨0,(W 0 ω).1⟩
    ·by_cases e:b=g
     ·subst e
      have ho:¬o<xs.length:=λh=>O ⟨0,(W o ω).1⟩
      rw[l,CB ho,B]
     exact(hother b K e o).1
    by_cases e:b=g
    ·subst e;exact F o
    exact(hother b K e o).2
   refine⟨.tuple #[],he,N,NO,Va (V 0),NO,λ_ _ h=>h.elim,λi b o h=>?_,λ_ _ h=>h.elim,λi i' L b o h h'=>?_,λ_ _ _ h=>h.elim,λ_ _ h=>h.elim,λ_ _ _ _ h=>h.elim,⟨#[],rfl,trivial,rfl⟩,dn.nil _ _ _ _,⟨⟨rfl,λ_=>.slice (some ⟨g,0,none⟩) xs.length H,rfl,row1 ?_⟩,trivial⟩⟩
   ·cases i with
    | zero=>exact .inl ⟨0,h⟩
    | succ i=>exact h.elim
   ·cases i with
    | zero=>
     cases i' with
     | zero=>exact L rfl
     | succ i'=>exact h'.elim
    | succ i=>exact h.elim
   show eY d _ (V 0) _ _;refine .own _ .own g 1 xs.length H _ (λq=>(cel d g q).getD undef) (λ_=>NO) trivial (by rw[I1,hsl]) (λr hr=>by obtain⟨z,-,rfl⟩:=Z4.1 hr;rfl) T U (λq P=>?_) (λq P=>?_) (λ_ _ _ _ h=>h.elim) (λ_ _ _ _ _ _ _ h=>h.elim) (λi j r c2 Q y=>?_)
   ·obtain⟨a1,⟨z,a2,a3⟩,a4⟩:=W q P
    refine⟨a1,?_,(F q).trans a4⟩;by_cases hqx:q<xs.length
    ·exact⟨_,p q hqx,rfl⟩
    rw[l,CB hqx,<-B];exact⟨z,a2,a3⟩
   ·rw[p q ω];rfl
   rw[X3]at Q;have hil:i<(sorted xs).length:=by
    rcases Nat.lt_or_ge i (sorted xs).length with h|h
    ·exact h
    rw[Z2 h]at Q;cases Q
   rw[W2 hil]at Q;simp only[Z5,C1]at Q;subst Q
   match j,y with
   | 0,y=>
    simp only[rI,List.getElem?_cons_zero,C1]at y;subst y;simp only[Nat.mul_one,Nat.add_zero,p i ω,Option.getD_some];exact .v _ _ rfl
   | j+1,y=>simp[rI]at y
  | _=>cases D
set_option maxHeartbeats 8000000
def lP(s:ax)(k:Nat):Int:=16*s.Q+(k:Nat)*csz s.a
def eL(s:ax)(n:Nat):List Int:=((List.range n).filter λk=>aS s.b1 (k:Nat)).map (lP s)
variable{s:ax}
def BX(h:aS s.b1 (n:Nat)=true):eL s (n+1)=eL s n++[lP s n]:=by
 unfold eL;rw[List.range_succ,List.filter_append,W6];simp[h]
def FL(h:aS s.b1 (n:Nat)=false):eL s (n+1)=eL s n:=by
 unfold eL;rw[List.range_succ,List.filter_append,W6];simp[h]
def sW(s:ax)(n:Nat):(eL s n).length<=n:=by
 unfold eL;rw[I1];exact O5 (List.length_filter_le ..) (by simp)
def fG(sp:List ax):List Int:=sp.flatMap λs=>eL s (slots s.a).toNat
def live0(sp:List ax)(la:List a7):List Int:=fG sp++la.map λl=>16*l.Q
def i7(sp:List ax)(la:List a7):List Int:=sorted (live0 sp la)
def tf(k:Int):0<=slots k/\slots k<=16:=by
 unfold slots;(repeat' split)<;>decide
def AU{k:Int}(h:0<=k/\k<=3):slots k*csz k=16:=by
 obtain rfl|rfl|rfl|rfl:k=0\/k=1\/k=2\/k=3:=ω
 all_goals decide
def x4(h:sp[i]? = some s):fG (sp.take (i+1))=fG (sp.take i)++eL s (slots s.a).toNat:=by
 unfold fG;rw[O6,h,List.flatMap_append];simp
def zY(s:ax)(k:Nat)(a:bi s=true)(i:(k:Int)<slots s.a):zzA 353 false [.val (some 3) (ax.enc .U s),.val none [I (k:Nat)]] .one [I (lP s k)]:=by
 have b:=iX s;have c:=cW s.a;have g:=jr s.a;rw[a]at b;have d:=aC a;have j:=tf s.a;rcases b9 ⟨d.2.2.1,d.2.2.2⟩ with e|e|e|e<;>rw[e]at c
 all_goals
  refine fO 26 [(3,9,[17,18,19,20,21,22,23,24,25])] Tryz.func353 rfl ?_
  repeat'(first|refine gE ?_|(conv=>whnf);refine C9 (aO _ 0 _) ?_)
  all_goals exact Z0 (λz=>[I z]) (by unfold lP;rw[e];omega)
def pW(sp:List ax)(la:List a7)(d:dK sp)(e:dG la)(b:bp sp la=true):zzA 250 false [.val none (bT .U sp),.val none (bJ .U la)] .one (aD .own (i7 sp la)):=by
 have E:=d.1;have F:=e.1;have D:=mO sp la d e;rw[b]at D;obtain⟨p,G,-⟩:=dv b;refine fP 56 [(393,[1])] [] Tryz.func250 rfl ?_ (.inr (bG _))
 repeat'(first|refine gP ?_|(conv=>whnf);refine C9 D ?_)
 (conv=>whnf)
 refine CH (ι:=Nat × List Int) (λi=>[(1,.H .one (bJ .U la)),(5,.H .one (aD .own i.2)),(16,.H .one (bT .U sp)),(17,.H .one [I (sp.length)]),(18,.H .one [I ((i.1:Nat):Int)])]) (λi=>i.1<=sp.length/\i.2=fG (sp.take i.1)/\i.2.length<=16*i.1) (λi=>sp.length - i.1) ((0,[])) ?_ (⟨X0 _,rfl,X0 _⟩) λi g=>?_
 ·exact wB
 obtain⟨i,S⟩:=i;obtain⟨g,n,H⟩:=g;simp only at g n H |-;by_cases o:i<sp.length
 ·have c:=ao o
  have h:bi (nth sp i)=true:=QZ p o;have J:=tf (nth sp i).a;have q:=eP h
  repeat'(first|refine gE ?_|(conv=>whnf);with_reducible refine CF (aa c) ?_)
  (conv=>whnf)
  refine CH (ι:=Nat × List Int) (λk=>[(1,.H .one (bJ .U la)),(5,.H .one (aD .own k.2)),(7,.H .box (ax.enc .U (nth sp i))),(8,.H .one [I ((k.1:Nat):Int)]),(16,.H .one (bT .U sp)),(17,.H .one [I (sp.length)]),(18,.H .one [I ((i:Nat):Int)])]) (λk=>k.1<=(slots (nth sp i).a).toNat/\k.2=S++eL (nth sp i) k.1) (λk=>(slots (nth sp i).a).toNat - k.1) ((0,S)) ?_ (⟨X0 _,by simp[eL]⟩) λk t=>?_
  ·exact wB
  obtain⟨k,S2⟩:=k;obtain⟨t,a⟩:=t;simp only at t a |-;have K:=sW (nth sp i) k;have j:S2.length=S.length+(eL (nth sp i) k).length:=by rw[a,Y3]
  by_cases M:k<(slots (nth sp i).a).toNat
  ·have u:=nN (nth sp i).b1 (k:Nat) q.2
   cases w:aS (nth sp i).b1 (k:Nat)<;>rw[w]at u
   ·repeat'(first|refine gE ?_|(conv=>whnf);refine C9 (jr _) ?_)
    ((conv=>whnf);refine CG (k+1,S2) ⟨(by simp only;omega),(by simp only;rw[FL w];exact a)⟩ (by simp only;omega) ?_;(exact wB))
   repeat'(first|refine gE ?_|(conv=>whnf);first|refine C9 (jr _) ?_|refine C9 (zY (nth sp i) k h ω) ?_|refine CU cw (λr y=>by rw[V1.1 y];rfl) (by simp[aZ,dS]) (by simp;omega) (by show _*8<=_;simp;omega) rfl ?_)
   ((conv=>whnf)
    refine CG (k+1,S2++[lP (nth sp i) k]) ⟨(by simp only;omega),(by simp only;rw[BX w,a,V6])⟩ (by simp only;omega) ?_
    (repeat'(first|exact trivial|rfl|exact CN rfl (CN (Z0 (C.s dN.own) (by simp[rI])) trivial)|refine CN ?_ ?_)))
  obtain rfl:k=(slots (nth sp i).a).toNat:=ω
  repeat'(first|refine gE ?_|(conv=>whnf);refine C9 (jr _) ?_)
  ((conv=>whnf);refine CG (i+1,S2) ⟨(by simp only;omega),(by simp only;rw[x4 c,<-n,a]),(by simp only;omega)⟩ (by simp only;omega) ?_;(exact wB))
 obtain rfl:i=sp.length:=ω
 rw[Y5]at n
 repeat'(first|refine gE ?_|fail)
 (conv=>whnf)
 refine CH (ι:=Nat × List Int) (λi=>[(5,.H .one (aD .own i.2)),(40,.H .one (bJ .U la)),(41,.H .one [I (la.length)]),(42,.H .one [I ((i.1:Nat):Int)])]) (λi=>i.1<=la.length/\i.2=S++(la.take i.1).map (λl=>16*l.Q)) (λi=>la.length - i.1) ((0,S)) ?_ (⟨X0 _,by simp⟩) λi g=>?_
 ·exact wB
 obtain⟨i,S2⟩:=i;obtain⟨B,a⟩:=g;simp only at B a |-;have j:S2.length=S.length+i:=by rw[a,Y3,I1,Z1];omega
 by_cases o:i<la.length
 ·have c:=ao o
  have L:=tV b c
  repeat'(first|refine gE ?_|(conv=>whnf);refine CU cw (λr y=>by rw[V1.1 y];rfl) (by simp[aZ,dS]) (by simp;omega) (by show _*8<=_;simp;omega) rfl ?_)
  ((conv=>whnf)
   refine CG (i+1,S2++[16*(nth la i).Q]) ⟨(by simp only;omega),(by simp only;rw[a,O6,c];simp)⟩ (by simp only;omega) ?_
   (repeat'(first|exact trivial|rfl|exact CN rfl (CN (Z0 (C.s dN.own) (by simp[rI];omega)) trivial)|refine CN ?_ ?_)))
 obtain rfl:i=la.length:=ω
 rw[Y5]at a
 repeat'(first|refine gE ?_|(conv=>whnf);refine CM (RW S2 ω) (.inl rfl) ?_)
 show _=aD .own (sorted (fG sp++la.map λl=>16*l.Q));rw[<-n,<-a];rfl
def qR(b:List (Int × Value))(L:List Int):Prop:=∀a,mlook b a (.int .i64 0)=.int .i64 (L.count a:Nat)
def KW(f:List (Int × Value))(a b:Int)(v d:Value):mlook (mput f a v) b d=if a=b then v else mlook f b d:=by
 induction f with
 | nil=>simp only[mput,mlook]
 | cons p f g=>
  simp only[mput];by_cases h:p.1=a
  ·rw[CD h]
   simp only[mlook];by_cases c:a=b
   ·rw[CD c,CD c]
   rw[CB c,CB c,CB (by rw[h];exact c)]
  rw[CB h];simp only[mlook];by_cases c:p.1=b
  ·rw[CD c,CD c,CB (λe=>h (c.trans e.symm))]
  rw[CB c,CB c,g]
def inc(b:List (Int × Value))(L:List Int)(a:Int):List (Int × Value):=mput b a (.int .i64 ((L.count a:Nat)+1))
def Mg:qR [] []:=λ_=>rfl
def qv{d:List (Int × Value)}{L:List Int}(h:qR d L)(a:Int):qR (inc d L a) (L++[a]):=λb=>by
 unfold inc;rw[KW,Z6];by_cases c:a=b
 ·subst c;rw[CD rfl,List.count_singleton_self];simp
 rw[CB c,h b,List.count_singleton,CB (by simpa using c)];rfl
def DV(h:ab)(d:dK h.K)(e:dG h.M)(b:List (Int × Value))(L:List Int)(a c:Int)(g:qR b L)(n:L.length<=1000000000) :
  zzB 249 false [.val none [I a],.val none [I c],.ptr [.m b],.ptr (ab.enc .U h)] [.val none [I a],.val none [I c],.ptr [.m (inc b L a)],.ptr (ab.enc .U h)] .one [B (dr h a c)]:=by
 have k:=nJ h.K h.M a d e;obtain⟨i,-⟩:=oB h.K h.M a;have l:L.count a<=L.length:=List.count_le_length;unfold dr;generalize denotes h.K h.M a=w at k i |-;refine fM 41 [] [] [(0,0),(0,0),(0,0),(0,0)] Tryz.func249 rfl (λu q=>?_)
 repeat'(first|refine gP ?_|(conv=>whnf);first|with_reducible (first|refine Bf.D (λj=>?_) (λj=>?_)|refine Bf.E (λj=>?_) (λj=>?_))|refine Ml.mk (g a) ?_|refine Mu.mk (es':=inc b L a) rfl ?_|refine CP (i (by assumption)).1 (aa (ao (i (by assumption)).2)) ?_)
 all_goals
  refine CK rfl ?_ ?_
  ·exact Z0 (λz=>[B z]) ((by grind))
  exact wB
set_option maxHeartbeats 8000000
def sQ(h:ab)(a:aN):Bool:=ix h a&&decide (a.b7<=h.b5)
def nt(h:ab):List Int:=((ce h++h.a9.a5.map (·.Addr))++aF h.q)++h.O.map (·.Addr)
def kj(h:ab):Bool:=((h.S.all (fk h)&&h.a9.a5.all (sQ h))&&(aF h.q).all (jX h))&&(i7 h.K h.M).all λa=>decide ((nt h).count a=1)
def Rj(h1:h.S.all (fk h)=false):kj h=false:=by unfold kj;rw[h1];rfl
def JQ(h1:h.a9.a5.all (sQ h)=false):kj h=false:=by unfold kj;rw[h1];simp
def QR(h1:(aF h.q).all (jX h)=false):kj h=false:=by unfold kj;rw[h1];simp
def RB(h1:((i7 h.K h.M).all λa=>decide ((nt h).count a=1))=false):kj h=false:=by unfold kj;rw[h1];simp
def A7(h1:sp.length<=1048576)(b:la.length<=1048576):(i7 sp la).length<=100000000:=by
 have a:∀(l:List ax),(fG l).length<=16*l.length:=by
  intro l
  induction l with
  | nil=>exact X0 _
  | cons s l c=>
   have e:fG (s::l)=eL s (slots s.a).toNat++fG l:=by unfold fG;rw[W7]
   have d:=tf s.a;have f:=sW s (slots s.a).toNat;rw[e,Y3,List.length_cons];omega
 have g:=a sp;unfold i7 live0;rw[yA,Y3,I1];omega
def yN(h:ab)(hs:ab.sml h)(S:bp h.K h.M=true)(M:bP h.q=true)(hco:∀c∈h.S,bt c=true):zzA 79 false [.val (some 24) (ab.enc .U h)] .one [B (kj h)]:=by
 obtain⟨-,-,t,u,hso,hsc,hsm,hsq,-⟩:=hs;have hlo:h.O.length<=1048576:=hso.1;have hlc:h.S.length<=1048576:=hsc.1;have hlq:h.a9.a5.length<=1048576:=hsq.1;have hfl:=kW M;have w:kj h=false->[B false]=[B (kj h)]:=λe=>by rw[e]
 refine fP 114 [(249,[0,0,2,2])] [] Tryz.func79 rfl ?_
 repeat'(first|refine gP ?_|fail)
 (conv=>whnf)
 refine CH (ι:=Nat × List (Int × Value) × List Int) (λi=>[(1,.H .box (ab.enc .U h)),(3,.H .box [.m i.2.1]),(4,.fn 249 [3,1]),(22,.H .one (fS .U h.S)),(23,.H .one [I (h.S.length)]),(24,.H .one [I ((i.1:Nat):Int)])]) (λi=>i.1<=h.S.length/\qR i.2.1 i.2.2/\i.2.2=((h.S.take i.1).flatMap λc=>c.b.flatten)/\(h.S.take i.1).all (fk h)=true/\i.2.2.length<=32*i.1) (λi=>h.S.length - i.1) ((0,[],[])) ?_ (⟨X0 _,Mg,rfl,rfl,X0 _⟩) λi hi=>?_
 ·exact wB
 obtain⟨i,es,L⟩:=i;obtain⟨hi,O,X,Y,hb⟩:=hi;simp only at hi O X Y hb |-;by_cases li:i<h.S.length
 ·have T:=ao li
  obtain⟨h4,h8⟩:=mC (hco _ (am li))
  repeat'(first|refine gE ?_|(conv=>whnf);with_reducible refine CF (aa T) ?_)
  (conv=>whnf)
  refine CH (ι:=Nat × List (Int × Value) × List Int) (λk=>[(1,.H .box (ab.enc .U h)),(3,.H .box [.m k.2.1]),(4,.fn 249 [3,1]),(22,.H .one (fS .U h.S)),(23,.H .one [I (h.S.length)]),(24,.H .one [I ((i:Nat):Int)]),(29,.H .one (f9 .U (nth h.S i).b)),(30,.H .one [I ((nth h.S i).b.length)]),(31,.H .one [I ((k.1:Nat):Int)])]) (λk=>k.1<=(nth h.S i).b.length/\qR k.2.1 k.2.2/\k.2.2=L++((nth h.S i).b.take k.1).flatten/\cE k.1 (tn h (nth h.S i))=true/\k.2.2.length<=L.length+8*k.1) (λk=>(nth h.S i).b.length - k.1) ((0,es,L)) ?_ (⟨X0 _,O,by simp,rfl,by simp⟩) λk hk=>?_
  ·exact wB
  obtain⟨k,es3,Z⟩:=k;obtain⟨hk,y,K,ak,hb3⟩:=hk;simp only at hk y K ak hb3 |-;by_cases lk:k<(nth h.S i).b.length
  ·have hy:=ao lk
   have hl8:=h8 _ (am lk)
   repeat'(first|refine gE ?_|(conv=>whnf);first|with_reducible (first|refine CF (aa T) ?_|refine CF (aa hy) ?_))
   (conv=>whnf)
   refine CH (ι:=Nat × List (Int × Value) × List Int) (λj=>[(1,.H .box (ab.enc .U h)),(3,.H .box [.m j.2.1]),(4,.fn 249 [3,1]),(7,.H .one [I ((k:Nat):Int)]),(22,.H .one (fS .U h.S)),(23,.H .one [I (h.S.length)]),(24,.H .one [I ((i:Nat):Int)]),(29,.H .one (f9 .U (nth h.S i).b)),(30,.H .one [I ((nth h.S i).b.length)]),(31,.H .one [I ((k:Nat):Int)]),(36,.H .one (aD .U (nth (nth h.S i).b k))),(37,.H .one [I ((nth (nth h.S i).b k).length)]),(38,.H .one [I ((j.1:Nat):Int)])]) (λj=>j.1<=(nth (nth h.S i).b k).length/\qR j.2.1 j.2.2/\j.2.2=Z++(nth (nth h.S i).b k).take j.1/\((nth (nth h.S i).b k).take j.1).all (λa=>dr h a (k:Nat))=true) (λj=>(nth (nth h.S i).b k).length - j.1) ((0,es3,Z)) ?_ (⟨X0 _,y,by simp,rfl⟩) λj hj=>?_
   ·exact wB
   obtain⟨j,es4,U⟩:=j;obtain⟨hj,l,C,aj⟩:=hj;simp only at hj l C aj |-;have hl4:U.length=Z.length+j:=by rw[C,Y3,Z1];omega
   by_cases lj:j<(nth (nth h.S i).b k).length
   ·have d:=ao lj
    have b:=DV h t u es4 U (nth (nth (nth h.S i).b k) j) (k:Nat) l ω;cases r:dr h (nth (nth (nth h.S i).b k) j) (k:Nat)<;>rw[r]at b
    ·repeat'(first|refine gE ?_|(conv=>whnf);refine CM (b) (.inl rfl) ?_)
     exact w (Rj (fe T (by unfold fk;exact bX lk (fe d r))))
    repeat'(first|refine gE ?_|(conv=>whnf);refine CM (b) (.inl rfl) ?_)
    ((conv=>whnf)
     refine CG (j+1,inc es4 U (nth (nth (nth h.S i).b k) j),U++[nth (nth (nth h.S i).b k) j]) ⟨(by simp only;omega),qv l _,(by simp only;rw[C,O6,d,V6];rfl),cZ d aj r⟩ (by simp only;omega) ?_
     (exact wA))
   obtain rfl:j=(nth (nth h.S i).b k).length:=ω
   rw[Y5]at C aj
   repeat'(first|refine gE ?_|fail)
   ((conv=>whnf);refine CG (k+1,es4,U) ⟨(by simp only;omega),l,(by simp only;rw[C,K,xI hy,V6]),br ak aj,(by simp only;omega)⟩ (by simp only;omega) ?_;(exact wB))
  obtain rfl:k=(nth h.S i).b.length:=ω
  rw[Y5]at K
  repeat'(first|refine gE ?_|fail)
  ((conv=>whnf);refine CG (i+1,es3,Z) ⟨(by simp only;omega),y,(by simp only;rw[K,X,v6 T]),cZ T Y ak,(by simp only;omega)⟩ (by simp only;omega) ?_;(exact wB))
 obtain rfl:i=h.S.length:=ω
 rw[Y5]at X Y
 repeat'(first|refine gE ?_|fail)
 (conv=>whnf)
 refine CH (ι:=Nat × List (Int × Value) × List Int) (λq=>[(1,.H .box (ab.enc .U h)),(3,.H .box [.m q.2.1]),(4,.fn 249 [3,1]),(52,.H .one (cx .U h.a9.a5)),(53,.H .one [I (h.a9.a5.length)]),(54,.H .one [I ((q.1:Nat):Int)])]) (λq=>q.1<=h.a9.a5.length/\qR q.2.1 q.2.2/\q.2.2=L++(h.a9.a5.take q.1).map (·.Addr)/\(h.a9.a5.take q.1).all (sQ h)=true) (λq=>h.a9.a5.length - q.1) ((0,es,L)) ?_ (⟨X0 _,O,by simp,rfl⟩) λq E=>?_
 ·exact wB
 obtain⟨q,es5,P⟩:=q;obtain⟨F,o,G,aq⟩:=E;simp only at F o G aq |-;have hl5:P.length=L.length+q:=by rw[G,Y3,I1,Z1];omega
 by_cases V:q<h.a9.a5.length
 ·have d:=ao V
  have b:=DV h t u es5 P (nth h.a9.a5 q).Addr (nth h.a9.a5 q).a o ω;cases r:dr h (nth h.a9.a5 q).Addr (nth h.a9.a5 q).a<;>rw[r]at b
  ·repeat'(first|refine gE ?_|(conv=>whnf);refine CM (b) (.inl rfl) ?_)
   all_goals exact w (JQ (fe d (by unfold sQ ix;rw[r];rfl)))
  repeat'(first|refine gE ?_|(conv=>whnf);first|with_reducible refine Bf.D (λE=>?_) (λE=>?_)|refine CM (b) (.inl rfl) ?_)
  all_goals first
   |exact w (JQ (fe d (by unfold sQ ix;rw[r,W0 ω];rfl)))
   | ((conv=>whnf)
      refine CG (q+1,inc es5 P (nth h.a9.a5 q).Addr,P++[(nth h.a9.a5 q).Addr]) ⟨(by simp only;omega),qv o _,(by simp only;rw[G,O6,d,W6,V6];rfl),cZ d aq (by unfold sQ ix;rw[r,O0 ω];rfl)⟩ (by simp only;omega) ?_
      (exact wA))
 obtain rfl:q=h.a9.a5.length:=ω
 rw[Y5]at G aq
 repeat'(first|refine gE ?_|(conv=>whnf);refine C9 (mU h.q hsm) ?_)
 (conv=>whnf)
 refine CH (ι:=Nat × List (Int × Value) × List Int) (λq=>[(1,.H .box (ab.enc .U h)),(3,.H .box [.m q.2.1]),(4,.fn 249 [3,1]),(75,.H .one (aD .own (aF h.q))),(76,.H .one [I ((aF h.q).length)]),(77,.H .one [I ((q.1:Nat):Int)])]) (λq=>q.1<=(aF h.q).length/\qR q.2.1 q.2.2/\q.2.2=P++(aF h.q).take q.1/\((aF h.q).take q.1).all (jX h)=true) (λq=>(aF h.q).length - q.1) ((0,es5,P)) ?_ (⟨X0 _,o,by simp,rfl⟩) λq E=>?_
 ·exact wB
 obtain⟨q,es6,Q⟩:=q;obtain⟨F,p,H,aq6⟩:=E;simp only at F p H aq6 |-;have hl6:Q.length=P.length+q:=by rw[H,Y3,Z1];omega
 by_cases V:q<(aF h.q).length
 ·have d:=ao V
  have b:=DV h t u es6 Q (nth (aF h.q) q) (-1) p ω;cases r:dr h (nth (aF h.q) q) (-1)<;>rw[r]at b
  ·repeat'(first|refine gE ?_|(conv=>whnf);refine CM (b) (.inl rfl) ?_)
   exact w (QR (fe d r))
  repeat'(first|refine gE ?_|(conv=>whnf);refine CM (b) (.inl rfl) ?_)
  ((conv=>whnf)
   refine CG (q+1,inc es6 Q (nth (aF h.q) q),Q++[nth (aF h.q) q]) ⟨(by simp only;omega),qv p _,(by simp only;rw[H,O6,d,V6];rfl),cZ d aq6 r⟩ (by simp only;omega) ?_
   (exact wA))
 obtain rfl:q=(aF h.q).length:=ω
 rw[Y5]at H aq6
 repeat'(first|refine gE ?_|fail)
 (conv=>whnf)
 refine CH (ι:=Nat × List (Int × Value) × List Int) (λq=>[(1,.H .box (ab.enc .U h)),(3,.H .box [.m q.2.1]),(87,.H .one (jF .U h.O)),(88,.H .one [I (h.O.length)]),(89,.H .one [I ((q.1:Nat):Int)])]) (λq=>q.1<=h.O.length/\qR q.2.1 q.2.2/\q.2.2=Q++(h.O.take q.1).map (·.Addr)) (λq=>h.O.length - q.1) ((0,es6,Q)) ?_ (⟨X0 _,p,by simp⟩) λq E=>?_
 ·exact wB
 obtain⟨q,es7,R⟩:=q;obtain⟨F,g,J⟩:=E;simp only at F g J |-;have hl7:R.length=Q.length+q:=by rw[J,Y3,I1,Z1];omega
 by_cases V:q<h.O.length
 ·have d:=ao V
  have hcl:R.count (nth h.O q).Addr<=R.length:=List.count_le_length
  repeat'(first|refine gE ?_|(conv=>whnf);first|refine Ml.mk (g _) ?_|refine Mu.mk (es':=inc es7 R (nth h.O q).Addr) rfl ?_)
  ((conv=>whnf)
   refine CG (q+1,inc es7 R (nth h.O q).Addr,R++[(nth h.O q).Addr]) ⟨(by simp only;omega),qv g _,(by simp only;rw[J,O6,d,W6,V6];rfl)⟩ (by simp only;omega) ?_
   (exact wA))
 obtain rfl:q=h.O.length:=ω
 rw[Y5]at J;have W:R=nt h:=by rw[J,H,G,X];rfl
 have hlv:=A7 t.1 u.1
 repeat'(first|refine gE ?_|(conv=>whnf);refine C9 (pW h.K h.M t u S) ?_)
 (conv=>whnf)
 refine CH (ι:=Nat) (λn=>[(3,.H .box [.m es7]),(103,.H .one (aD .own (i7 h.K h.M))),(104,.H .one [I ((i7 h.K h.M).length)]),(105,.H .one [I ((n:Nat):Int)])]) (λn=>n<=(i7 h.K h.M).length/\((i7 h.K h.M).take n).all (λa=>decide ((nt h).count a=1))=true) (λn=>(i7 h.K h.M).length - n) (0) ?_ (⟨X0 _,rfl⟩) λn hn=>?_
 ·exact wB
 obtain⟨hn,an⟩:=hn;by_cases ln:n<(i7 h.K h.M).length
 ·have d:=ao ln
  rw[W]at g
  repeat'(first|refine gE ?_|(conv=>whnf);first|with_reducible refine Bf.N (λE=>?_) (λE=>?_)|refine Ml.mk (g _) ?_)
  all_goals first
   |exact w (RB (fe d (W0 ω)))
   | ((conv=>whnf);refine CG (n+1) ⟨ω,cZ d an (O0 ω)⟩ ω ?_;(exact wB))
 repeat'(first|refine gE ?_|fail)
 exact Z0 (λz=>[B z]) ((by unfold kj;rw[Y,aq,aq6,gV ω an];rfl))
set_option maxHeartbeats 8000000
def kT(h:ab):Bool:=(((((((aA h.G&&bC (dQ h) h.w)&&bp h.K h.M)&&(pages0 h&&oN h))&&d6 h)&&h.S.all bt)&&(fo h&&kj h))&&cq h)&&vG h
def kF(h:ab)(hs:ab.sml h):zzA 24 false [.val (some 24) (ab.enc .U h)] .one [B (kT h)]:=by
 have L:=hs;obtain⟨n,o,b,g,M,p,q,O,r⟩:=hs;have u:vT h:=n.1.2;have hpn:dQ h<=1048576:=u.1;have P:h.O.length<=1048576:=M.1;have Q:h.S.length<=1048576:=p.1;have hlb:h.q.V.length<=1048576:=q.1.1;have hlp:h.Z.X.T.length<=1048576:=r;have d:=zX h.G n;have e:=Al (dQ h) h.w ⟨ω,ω⟩ o;have i:=mO h.K h.M b g;have w:=vN h.q q;have R:=Fr h.a9 O;cases S:aA h.G<;>rw[S]at d
 ·refine fO 154 [] Tryz.func24 rfl ?_
  repeat'(first|refine gP ?_|(conv=>whnf);first|with_reducible refine Bf.N (λa=>?_) (λa=>?_)|refine C9 d ?_)
  all_goals first
   | exact Z0 (λz=>[B z]) ((by unfold kT ;rw[S];simp))
   
 cases T:bC (dQ h) h.w<;>rw[T]at e
 ·refine fO 154 [] Tryz.func24 rfl ?_
  repeat'(first|refine gP ?_|(conv=>whnf);first|with_reducible refine Bf.N (λa=>?_) (λa=>?_)|refine C9 d ?_|refine C9 e ?_)
  all_goals first
   | exact Z0 (λz=>[B z]) ((by unfold kT ;rw[T];simp))
   
 cases y:bp h.K h.M<;>rw[y]at i
 ·refine fO 154 [] Tryz.func24 rfl ?_
  repeat'(first|refine gP ?_|(conv=>whnf);first|with_reducible refine Bf.N (λa=>?_) (λa=>?_)|refine C9 d ?_|refine C9 e ?_|refine C9 i ?_)
  all_goals first
   | exact Z0 (λz=>[B z]) ((by unfold kT ;rw[y];simp))
   
 have j:=BI h b g u o y;cases U:(pages0 h&&oN h)<;>rw[U]at j
 ·refine fO 154 [] Tryz.func24 rfl ?_
  repeat'(first|refine gP ?_|(conv=>whnf);first|with_reducible refine Bf.N (λa=>?_) (λa=>?_)|refine C9 d ?_|refine C9 e ?_|refine C9 i ?_|refine C9 j ?_)
  all_goals first
   | exact Z0 (λz=>[B z]) ((by unfold kT ;rw[U];simp))
   
 cases J:bP h.q<;>rw[J]at w
 ·refine fO 154 [] Tryz.func24 rfl ?_
  repeat'(first|refine gP ?_|(conv=>whnf);first|with_reducible refine Bf.N (λa=>?_) (λa=>?_)|refine C9 d ?_|refine C9 e ?_|refine C9 i ?_|refine C9 j ?_|refine C9 w ?_)
  all_goals first
   | exact Z0 (λz=>[B z]) ((by unfold kT d6;rw[J];simp))
   
 by_cases C:h.S.length=h.q.V.length;rotate_left
 ·refine fO 154 [] Tryz.func24 rfl ?_
  repeat'(first|refine gP ?_|(conv=>whnf);with_reducible refine Bf.N (λa=>?_) (λa=>?_))
  all_goals first
   | exact Z0 (λz=>[B z]) ((by unfold kT d6;rw[W0 C];simp))
   |(exfalso;omega)
 cases V:fI h.a9<;>rw[V]at R
 ·refine fO 154 [] Tryz.func24 rfl ?_
  repeat'(first|refine gP ?_|(conv=>whnf);with_reducible refine Bf.N (λa=>?_) (λa=>?_))
  all_goals first
   | exact Z0 (λz=>[B z]) ((by unfold kT d6;rw[V];simp))
   
 have W:d6 h=true:=by unfold d6;rw[J,O0 C,V];rfl
 refine fO 154 [] Tryz.func24 rfl ?_
 repeat'(first|refine gB ?_|(conv=>whnf);first|with_reducible refine Bf.N (λa=>?_) (λa=>?_)|refine C9 d ?_|refine C9 e ?_|refine C9 i ?_|refine C9 j ?_|refine C9 w ?_|refine C9 R ?_)
 all_goals try(exfalso;omega)
 (conv=>whnf)
 refine CH (ι:=Nat) (λk=>[(1,.H .box (ab.enc .U h)),(57,.H .one (fS .U h.S)),(58,.H .one [I (h.S.length)]),(59,.H .one [I ((k:Nat):Int)])]) (λk=>k<=h.S.length/\(h.S.take k).all bt=true) (λk=>h.S.length - k) (0) ?_ (⟨X0 _,rfl⟩) λk hk=>?_
 ·exact wB
 obtain⟨hk,ak⟩:=hk;by_cases lk:k<h.S.length
 ·have K:=ao lk
  have X:=oo (nth h.S k) (p.2 _ (am lk));cases Y:bt (nth h.S k)<;>rw[Y]at X
  ·repeat'(first|refine gE ?_|(conv=>whnf);first|with_reducible refine CF (aa K) ?_|refine C9 X ?_)
   exact Z0 (λz=>[B z]) ((by unfold kT;rw[fe K Y];simp))
  repeat'(first|refine gE ?_|(conv=>whnf);first|with_reducible refine CF (aa K) ?_|refine C9 X ?_)
  ((conv=>whnf);refine CG (k+1) ⟨ω,cZ K ak Y⟩ ω ?_;(exact wB))
 have F:h.S.all bt=true:=gV ω ak;have l:=E8 h b g P Q;have c10:=yN h L y J (V4.1 F);have c12:=Hr h.Z r;have c13:=vt h h.Z.X.a3 b.1;have c14:=vt h h.Z.X.a2 b.1;cases Z:fo h<;>rw[Z]at l
 ·repeat'(first|refine gE ?_|(conv=>whnf);refine C9 l ?_)
  all_goals first
   | exact Z0 (λz=>[B z]) ((by unfold kT;rw[Z];simp))
   
 cases e10:kj h<;>rw[e10]at c10
 ·repeat'(first|refine gE ?_|(conv=>whnf);first|refine C9 l ?_|refine C9 c10 ?_)
  all_goals first
   | exact Z0 (λz=>[B z]) ((by unfold kT;rw[e10];simp))
   
 by_cases hn:cq h=true;rotate_left
 ·have G:cq h=false:=by simpa using hn
  have c:=G;unfold cq at c;rw[C5]at c
  repeat'(first|refine gE ?_|(conv=>whnf);first|with_reducible refine Bf.D (λa=>?_) (λa=>?_)|refine C9 (aO _ _ _) ?_|refine C9 (pK _) ?_)
  all_goals first
   | exact Z0 (λz=>[B z]) ((by unfold kT;rw[G];simp))
   
 have c:=hn;unfold cq at c;rw[C0]at c;have H:kT h=vG h:=by unfold kT;rw[S,T,y,U,W,F,hn,Z,e10];rfl
 rw[H];unfold vG;cases em:h.u
 ·repeat'(first|refine gE ?_|(conv=>whnf);first|with_reducible refine Bf.E (λa=>?_) (λa=>?_)|refine C9 (aO _ _ _) ?_|refine C9 (pK _) ?_|refine Bf.f em ?_)
  all_goals first
   | exact Z0 (λz=>[B z]) ((by unfold ta;simp only[Bool.false_eq_true,if_false];first|(symm;exact W0 ω)|(rw[I5,beq_iff_eq,C0];omega)))
   
 cases e12:kx h.Z<;>rw[e12]at c12
 all_goals
  repeat'(first|refine gE ?_|(conv=>whnf);first|with_reducible refine Bf.D (λa=>?_) (λa=>?_)|refine C9 (aO _ _ _) ?_|refine C9 (pK _) ?_|refine Bf.t em ?_)
  all_goals first
   | exact Z0 (λz=>[B z]) ((by grind))
   
def cU[Inhabited α]{xs:List α}{f:α->Int}(e:(xs.map f).Nodup)(b:i<xs.length)(c:j<xs.length)(h:f (nth xs i)=f (nth xs j)):i=j:=by
 have d:=List.pairwise_iff_getElem.1 e;rcases Nat.lt_trichotomy i j with a|rfl|a
 ·have:=d i j (by simpa using b) (by simpa using c) a
  simp only[List.getElem_map]at this;rw[bm (W2 b),bm (W2 c)]at h;exact absurd h this
 ·rfl
 have:=d j i (by simpa using c) (by simpa using b) a;simp only[List.getElem_map]at this;rw[bm (W2 b),bm (W2 c)]at h;exact absurd h.symm this
def aK[Inhabited α]{xs:List α}{x:α}(h:x∈xs):∃i,i<xs.length/\nth xs i=x:=by
 obtain⟨i,a⟩:=List.mem_iff_getElem?.1 h;exact⟨i,(X2.1 a).1,bm a⟩
def rE:∀{H L:List Int},H.Nodup->(∀x∈H,x∈L)->L.length<=H.length->∀x∈L,x∈H
 | [],L,_,_,c,x,d=>by
  have:L=[]:=O8 (by simpa using c);subst this;exact d
 | y::H,L,h,f,c,x,d=>by
  have i:y∈L:=f y (C2 ..);have a:=List.nodup_cons.1 h;by_cases b:x=y
  ·subst b;exact C2 ..
  refine C6 _ (rE (L:=L.erase y) a.2 (λz g=>?_) ?_ x ((List.mem_erase_of_ne b).2 d))
  ·exact(List.mem_erase_of_ne (λe:z=y=>a.1 (by rw[<-e];exact g))).2 (f z (C6 _ g))
  rw[List.length_erase_of_mem i];simp only[List.length_cons]at c;omega
def B7{H L:List Int}(f:L.Nodup)(d:∀x∈H,x∈L):(H.Nodup/\H.length=L.length)↔∀a∈L,H.count a=1:=by
 constructor
 ·rintro⟨c,k⟩ a b
  have g:=rE c d ω a b;have i:=List.nodup_iff_count.1 c a;have j:=List.count_pos_iff.2 g;omega
 intro e;have c:H.Nodup:=List.nodup_iff_count.2 λa=>by
  by_cases b:a∈H
  ·rw[e a (d a b)];exact W3 1
  rw[List.count_eq_zero_of_not_mem b];exact X0 _
 refine⟨c,?_⟩;have:H.Perm L:=List.perm_iff_count.2 λa=>by
  by_cases b:a∈L
  ·rw[e a b]
   have i:=List.nodup_iff_count.1 f a;have j:=List.count_pos_iff.2 b;omega
  rw[List.count_eq_zero_of_not_mem b,List.count_eq_zero_of_not_mem λh=>b (d a h)]
 exact this.length_eq
def d9{l:a7} : p∈lpgs l n↔∃k:Nat,k<n/\p=l.Q+(k:Nat):=by
 unfold lpgs;simp only[Z4,List.mem_range];constructor
 ·rintro⟨k,a,rfl⟩;exact⟨k,a,rfl⟩
 rintro⟨k,a,rfl⟩;exact⟨k,a,rfl⟩
structure qH(sp:List ax)(la:List a7):Prop where
 sok:∀s∈sp,bi s=true
 lok:∀l∈la,bF l=true
 nd:(sp.map (·.Q)).Nodup
 dis:∀s∈sp,∀l∈la,∀k:Nat,k<l.a1.toNat->s.Q≠l.Q+(k:Nat)
 one:∀i j,i<la.length->j<la.length->∀k k':Nat,k<(nth la i).a1.toNat->k'<(nth la j).a1.toNat->(nth la i).Q+(k:Nat)=(nth la j).Q+(k':Nat)->i=j
def qH.of(h:bp sp la=true):qH sp la:=by
 obtain⟨t,u,d⟩:=dv h;unfold pgs at d;rw[List.nodup_append]at d;obtain⟨w,y,A⟩:=d;have B:=List.pairwise_flatMap.1 y;refine⟨λs f=>V4.1 t s f,λl g=>V4.1 u l g,w,λs f l g k c e=>?_,λi j n o k q c a e=>?_⟩
 ·exact A _ (Z4.2 ⟨s,f,rfl⟩) _ (List.mem_flatMap.2 ⟨l,g,d9.2 ⟨k,c,rfl⟩⟩) e
 have r:=List.pairwise_iff_getElem.1 B.2;have C:=bm (W2 n);have D:=bm (W2 o);rw[C]at c e;rw[D]at a e;rcases Nat.lt_trichotomy i j with b|p|b
 ·exact absurd e (r i j n o b _ (d9.2 ⟨k,c,rfl⟩) _ (d9.2 ⟨q,a,rfl⟩))
 ·exact p
 exact absurd e.symm (r j i o n b _ (d9.2 ⟨q,a,rfl⟩) _ (d9.2 ⟨k,c,rfl⟩))
def fZ(b:bi s=true):cK s a=true↔16*s.Q<=a/\a<=16*s.Q+15:=by
 unfold cK;rw[b];simp
def jU(b:qH sp la)(c:i<sp.length)(h:16*(nth sp i).Q<=a/\a<=16*(nth sp i).Q+15):denotes sp la a=oW i (nth sp i) a:=by
 refine oh c ((fZ (b.sok _ (am c))).2 h) λj z l d=>?_
 cases e:cK z a with
 | false=>rfl
 | true=>
  exfalso;have g:=(X2.1 d).1;have n:=(fZ (b.sok z (I2 d))).1 e;have k:=bm d;subst k;have:=cU (f:=(·.Q)) b.nd c g ω;omega
def T3(d:qH sp la)(h:∀i,i<sp.length->¬(16*(nth sp i).Q<=a/\a<=16*(nth sp i).Q+15)):∀(j:Nat)(z:ax),j<sp.length->sp[j]? = some z->cK z a=false:=by
 intro j z f c;cases e:cK z a with
 | false=>rfl
 | true=>
  have g:=(fZ (d.sok z (I2 c))).1 e;have b:=bm c;subst b;exact absurd g (h j f)
def FT(f:qH sp la)(a:Int):a∈live0 sp la↔a∈io sp la:=by
 have L:a∈io sp la↔∃n:Nat,n<512/\kJ sp la n=true/\(n:Int)=a:=by
  unfold io mr;simp only[Z4,t5,List.mem_range];constructor
  ·rintro⟨n,⟨g,p⟩,B⟩;exact⟨n,g,p,B⟩
  rintro⟨n,g,p,B⟩;exact⟨n,⟨g,p⟩,B⟩
 rw[L];unfold live0 fG;rw[V3,List.mem_flatMap,Z4];constructor
 ·rintro(⟨s,t,H⟩|⟨l,b,rfl⟩)
  ·obtain⟨i,h,rfl⟩:=aK t
   unfold eL at H;obtain⟨k,M,rfl⟩:=Z4.1 H;obtain⟨u,C⟩:=t5.1 M;have u:=List.mem_range.1 u;have c:=aC (f.sok _ t);have q:=AU ⟨c.2.2.1,c.2.2.2⟩;have N:=tf (nth sp i).a;unfold lP;have O:0<=(k:Int)*csz (nth sp i).a/\(k:Int)*csz (nth sp i).a<=15:=by
    rcases b9 ⟨c.2.2.1,c.2.2.2⟩ with e|e|e|e<;>rw[e]at q |-<;>omega
   have o:=jU f h (a:=16*(nth sp i).Q+(k:Nat)*csz (nth sp i).a) ω;have J:(16*(nth sp i).Q+(k:Nat)*csz (nth sp i).a - 16*(nth sp i).Q) / csz (nth sp i).a=(k:Nat)/\(16*(nth sp i).Q+(k:Nat)*csz (nth sp i).a - 16*(nth sp i).Q) % csz (nth sp i).a=0:=by
    rcases b9 ⟨c.2.2.1,c.2.2.2⟩ with e|e|e|e<;>rw[e]<;>omega
   refine⟨(16*(nth sp i).Q+(k:Nat)*csz (nth sp i).a).toNat,ω,?_,ω⟩;have d:(((16*(nth sp i).Q+(k:Nat)*csz (nth sp i).a).toNat:Nat):Int)=16*(nth sp i).Q+(k:Nat)*csz (nth sp i).a:=ω
   unfold kJ;rw[d,o];simp only[oW,J.1,J.2,C]
   rfl
  obtain⟨i,h,rfl⟩:=aK b;have R:=aM (f.lok _ b);have P:=bV (f.lok _ b);have g:=T3 f (a:=16*(nth la i).Q) λj K S=>f.dis _ (am K) _ b 0 ω ω
  have A:bf (nth la i) (16*(nth la i).Q)=true:=by
   unfold bf;rw[f.lok _ b,O0 ω];rfl
  have o:=mH (a:=16*(nth la i).Q) (W3 _) g h A λj z K r=>by
   cases e:bf z (16*(nth la i).Q) with
   | false=>rfl
   | true=>
    exfalso;have D:=(X2.1 r).1;have w:=I2 r;have E:=bm r;subst E;have Q:=aM (f.lok _ w);have y:=f.lok _ w;unfold bF at y;rw[C0]at y;unfold bf at e;rw[I0,C0]at e;have:=f.one i j h D 0 ((nth la i).Q - (nth la j).Q).toNat ω ω ω;omega
  refine⟨(16*(nth la i).Q).toNat,ω,?_,ω⟩;have d:(((16*(nth la i).Q).toNat:Nat):Int)=16*(nth la i).Q:=ω
  unfold kJ;rw[d,o];simp
 rintro⟨n,T,b,rfl⟩
 cases g:sp.findIdx? (cK · (n:Nat)) with
 | some i=>
  obtain⟨h,F,-⟩:=Z7.1 g;have G:=bm (W2 h);rw[<-G]at F;have t:=f.sok _ (am h);have p:=(fZ t).1 F;have c:=aC t;have q:=AU ⟨c.2.2.1,c.2.2.2⟩;have o:denotes sp la (n:Nat)=oW i (nth sp i) (n:Nat):=by unfold denotes;rw[g]
  rw[tE o]at b;simp only[I0,I7,C0]at b;simp only[oW]at b;cases A:aS (nth sp i).b1 (((n:Int) - 16*(nth sp i).Q) / csz (nth sp i).a) with
  | false=>rw[A]at b;simp at b
  | true=>
   have r:((n:Int) - 16*(nth sp i).Q) % csz (nth sp i).a=0:=b.1;refine .inl ⟨nth sp i,am h,?_⟩;unfold eL;refine Z4.2 ⟨(((n:Int) - 16*(nth sp i).Q) / csz (nth sp i).a).toNat,t5.2 ⟨List.mem_range.2 ?_,?_⟩,?_⟩
   ·rcases b9 ⟨c.2.2.1,c.2.2.2⟩ with e|e|e|e<;>rw[e]at q r |-<;>omega
   ·have:((((n:Int) - 16*(nth sp i).Q) / csz (nth sp i).a).toNat:Int)=((n:Int) - 16*(nth sp i).Q) / csz (nth sp i).a:=by
     rcases b9 ⟨c.2.2.1,c.2.2.2⟩ with e|e|e|e<;>rw[e]<;>omega
    rw[this];exact A
   unfold lP;rcases b9 ⟨c.2.2.1,c.2.2.2⟩ with e|e|e|e<;>rw[e]at r |-<;>omega
 | none=>
  cases p:la.findIdx? (bf · (n:Nat)) with
  | some i=>
   obtain⟨h,F,-⟩:=Z7.1 p;have o:denotes sp la (n:Nat) = ⟨3,i,0,(n:Nat) - 16*(nth la i).Q⟩:=by unfold denotes;rw[g,p]
   rw[tE o]at b;simp only[I0,C0]at b;exact .inr ⟨nth la i,am h,by have:=b.1;omega⟩
  | none=>
   have o:denotes sp la (n:Nat) = ⟨0,0,0,0⟩:=by unfold denotes;rw[g,p]
   rw[tE o]at b;simp at b
def w9(e:qH sp la)(b:(denotes sp la a).c9=0)(c:(denotes sp la a).b6=1\/(denotes sp la a).b6=3):a∈io sp la:=by
 have l:0<=a/\a<512:=by
  unfold denotes at b c;cases h:sp.findIdx? (cK · a) with
  | some i=>
   obtain⟨f,k,-⟩:=Z7.1 h;have j:=List.getElem_mem f;have d:=(fZ (e.sok _ j)).1 k;have g:=aC (e.sok _ j);omega
  | none=>
   rw[h]at b c;cases d:la.findIdx? (bf · a) with
   | some i=>
    obtain⟨f,-⟩:=Z7.1 d;rw[d]at b;have n:=aM (e.lok _ (am f));simp only at b;omega
   | none=>rw[d]at c;simp at c
 have g:((a.toNat:Nat):Int)=a:=ω
 unfold io mr;refine Z4.2 ⟨a.toNat,t5.2 ⟨List.mem_range.2 ω,?_⟩,g⟩;unfold kJ;rw[g];simp only[I0,I7,C0];exact⟨b,c⟩
def qa(sp:List ax)(la:List a7):(io sp la).Nodup:=by
 unfold io mr List.Nodup;rw[List.pairwise_map];exact(List.nodup_range.sublist List.filter_sublist).imp λh e=>h ω
def uI(d:qH h.K h.M){c:Int}(b:dr h a c=true):a∈io h.K h.M:=by
 unfold dr at b;simp only[I0,C0]at b;exact w9 d b.1.2 (.inl b.1.1)
def N4(b:qH h.K h.M){o:bn}(a:jq h o=true):o.Addr∈io h.K h.M:=by
 unfold jq at a;simp only[I0,I7,C0]at a;exact w9 b a.1 (a.2.elim (λe=>.inl e.1) (λe=>.inr e.1))
def Hg(h:ab)(a:Int):(nt h).count a=(holders h).count a:=by
 unfold nt holders;simp only[Z6];omega
def kA(h:ab):gW h=true↔(h.S.all (fk h)=true/\h.a9.a5.all (ix h)=true)/\(aF h.q).all (jX h)=true:=by
 unfold gW;simp only[I0]
def nM(e:qH h.K h.M)(g:fo h=true)(j:gW h=true):∀a∈holders h,a∈io h.K h.M:=by
 obtain⟨⟨n,p⟩,q⟩:=(kA h).1 j;intro a b;unfold holders at b;simp only[V3]at b;rcases b with((b|b)|b)|b
 ·obtain⟨o,f,rfl⟩:=Z4.1 b
  obtain⟨i,r,rfl⟩:=aK f;have d:=dI g r;unfold objAt at d;rw[I0]at d;exact N4 e d.2
 ·unfold ce at b
  obtain⟨c,t,b⟩:=List.mem_flatMap.1 b;obtain⟨l,u,b⟩:=List.mem_flatten.1 b;obtain⟨k,w,rfl⟩:=aK u;have d:=V4.1 n c t;unfold fk at d;have y:=V4.1 (show(nth c.b k).all _=true from dI d w) a b;exact uI e y
 ·obtain⟨x,A,rfl⟩:=Z4.1 b
  exact uI e (V4.1 p x A)
 exact uI e (V4.1 q a b)
def La(c:bp h.K h.M=true)(o:fo h=true):(mz h&&je h)=kj h:=by
 have f:=qH.of c;have p:(mz h=true/\h.a9.a5.all (ix h)=true)↔h.a9.a5.all (sQ h)=true:=by
  unfold mz sQ;simp only[V4,I0];exact⟨λe x b=>⟨e.2 x b,e.1 x b⟩,λe=>⟨λx b=>(e x b).2,λx b=>(e x b).1⟩⟩
 have r:kj h=true↔((h.S.all (fk h)=true/\h.a9.a5.all (sQ h)=true)/\(aF h.q).all (jX h)=true)/\∀a∈io h.K h.M,(holders h).count a=1:=by
  unfold kj;simp only[I0];refine and_congr Iff.rfl ?_;simp only[V4,C0,Hg];unfold i7 sorted;simp only[List.mem_mergeSort,FT f]
 have g:je h=true↔gW h=true/\((holders h).Nodup/\(holders h).length=(io h.K h.M).length):=by
  unfold je;simp only[I0,C0,and_assoc]
 rw[I5,I0,r,g];constructor
 ·rintro⟨i,d,j⟩
  obtain⟨⟨k,l⟩,n⟩:=(kA h).1 d;exact⟨⟨⟨k,p.1 ⟨i,l⟩⟩,n⟩,(B7 (qa ..) (nM f o d)).1 j⟩
 rintro⟨⟨⟨i,d⟩,j⟩,k⟩
 obtain⟨l,n⟩:=p.2 d;have q:gW h=true:=(kA h).2 ⟨⟨i,n⟩,j⟩;exact⟨l,q,(B7 (qa ..) (nM f o q)).2 k⟩
def gR(s t:ax):meshable s t=meshable t s:=by
 unfold meshable;rw[Bool.and_comm (bi s)]
 congr 1
 refine decide_eq_decide.2 ?_;rw[Nat.and_comm];exact⟨λh=>⟨h.1.symm,λe=>h.2.1 e.symm,h.2.2⟩,λh=>⟨h.1.symm,λe=>h.2.1 e.symm,h.2.2⟩⟩
variable{f:Int}
def d7{p:Nat} : (p:Int)∈pagesOn t f↔p<t.J.length/\(nth t.J p).e≠0/\(nth t.J p).j=f:=by
 unfold pagesOn kv;simp only[Z4,t5,List.mem_range];constructor
 ·rintro⟨n,⟨b,a⟩,c⟩
  obtain rfl:n=p:=ω
  unfold M9 at a;rw[C0]at a;exact⟨b,a⟩
 rintro⟨b,a⟩
 exact⟨p,⟨b,by unfold M9;rw[C0];exact a⟩,rfl⟩
def vR{q:Int}(h:q∈pagesOn t f):∃p:Nat,q=(p:Nat):=by
 unfold pagesOn kv at h;obtain⟨n,-,rfl⟩:=Z4.1 h;exact⟨n,rfl⟩
def se(a:pages0 h=true):(∀i,i<h.M.length->∀k:Nat,k<(nth h.M i).a1.toNat->(aP h ((nth h.M i).Q+(k:Nat))).length=1)/\(∀p∈pgs h.K h.M,p<dQ h)/\∀p:Nat,p<dQ h->((nth (tbl h).J p).e≠0↔(p:Int)∈pgs h.K h.M):=by
 unfold pages0 at a;simp only[I0]at a;obtain⟨⟨⟨-,d⟩,e⟩,f⟩:=a;refine⟨λi g k j=>?_,λp a=>?_,λp a=>?_⟩
 ·have b:=dI d g
  unfold uG at b;rw[I0]at b;have c:=dI b.2 j;unfold yZ at c;rw[C0]at c;exact c
 ·have:=V4.1 e p a
  rw[C0]at this;exact this
 have b:=dI f a;unfold wb at b;rw[I0,C0]at b;exact b.1
def xS{p:Nat}(a:p<dQ h):ac (tbl h) (p:Nat)=nth (tbl h).J p:=fB a
def eO{p:Nat}(a:p<dQ h)(b:(nth (tbl h).J p).e≠0):aP h (p:Nat)=pagesOn (tbl h) (nth (tbl h).J p).j:=by
 unfold aP;rw[show h.G.F.R=tbl h from rfl,xS a,CB b]
def l7(g:qH h.K h.M)(c:j<h.K.length):eX h (nth h.K j).Q=(j:Nat):=by
 unfold eX;refine dB (ao c) (by unfold jI;simp) λk z i d=>?_
 have a:=bm d;have b:=(X2.1 d).1;subst a;unfold jI;refine W0 λe=>?_
 have:=cU (f:=(·.Q)) g.nd b c e;omega
def Ba(y:bp h.K h.M=true)(T:pages0 h=true):tD h=oN h:=by
 have G:=qH.of y;obtain⟨U,V,O⟩:=se T;have t:∀i,i<h.K.length->∃p:Nat,(nth h.K i).Q=(p:Nat)/\p<dQ h/\(nth (tbl h).J p).e≠0:=λi n=>by
  have hc:=aC (G.sok _ (am n));have P:(nth h.K i).Q∈pgs h.K h.M:=by
   unfold pgs;exact V3.2 (.inl (Z4.2 ⟨_,am n,rfl⟩))
  have o:=V _ P;refine⟨(nth h.K i).Q.toNat,ω,ω,?_⟩;refine(O _ ω).2 ?_;rw[show(((nth h.K i).Q.toNat:Nat):Int)=(nth h.K i).Q by omega];exact P
 rw[I5];unfold tD oN;rw[ch,ch];constructor
 ·intro K i n
  rw[ch];intro j L;have A:j<h.K.length:=ω
  unfold lU;rw[I7,C0];by_cases b:(ac (tbl h) (nth h.K i).Q).j=(ac (tbl h) (nth h.K j).Q).j
  ·right
   obtain⟨p,f,c,r⟩:=t i n;obtain⟨q,B,a,g⟩:=t j A;have d:=V4.1 (K i n);rw[f,B,xS c,xS a]at b;have W:(q:Int)∈aP h (nth h.K i).Q:=by
    rw[f,eO c r];exact d7.2 ⟨a,g,b.symm⟩
   have u:=d _ W;unfold mJ at u;rw[<-B,l7 G A]at u;rw[I7,I0,C0]at u;rcases u with u|u
   ·omega
   simpa using u.2
  exact .inl b
 intro C i n;rw[V4];intro q H;obtain⟨p,f,c,r⟩:=t i n;have X:=H;rw[f,eO c r]at H;obtain⟨J,rfl⟩:=vR H;obtain⟨a,g,D⟩:=d7.1 H;have w:=(O J a).1 g;unfold pgs at w;rw[V3,Z4,List.mem_flatMap]at w;rcases w with⟨s,K,E⟩|⟨l,Y,M⟩
 ·obtain⟨j,L,rfl⟩:=aK K
  unfold mJ;rw[<-E,l7 G L];rw[I7,I0,C0,C0];have b:(ac (tbl h) (nth h.K i).Q).j=(ac (tbl h) (nth h.K j).Q).j:=by
   rw[f,E,xS c,xS a,D]
  rcases Nat.lt_trichotomy j i with o|Z|o
  ·have d:=dI (C i n) o
   unfold lU at d;rw[I7,C0]at d;exact .inr ⟨ω,by simpa using d.resolve_left λe=>e b⟩
  ·exact .inl ω
  have d:=dI (C j L) o;unfold lU at d;rw[I7,C0]at d;exact .inr ⟨ω,by rw[gR];simpa using d.resolve_left λe=>e b.symm⟩
 exfalso;obtain⟨i2,F,rfl⟩:=aK Y;obtain⟨k,Q,N⟩:=d9.1 M;have d:=U i2 F k Q;rw[<-N,eO a g]at d;have R:(J:Int)∈pagesOn (tbl h) (nth (tbl h).J J).j:=d7.2 ⟨a,g,rfl⟩;have S:(p:Int)∈pagesOn (tbl h) (nth (tbl h).J J).j:=d7.2 ⟨c,r,D.symm⟩;obtain⟨z,hz⟩:=List.length_eq_one_iff.1 d;rw[hz]at R S;simp only[V1]at R S;have:=G.dis _ (am n) _ (am F) k Q;omega
def nr(h:ab):kT h=cN h:=by
 unfold kT cN lJ;cases d:aA h.G with
 | false=>rfl
 | true=>
  cases e:bC (dQ h) h.w with
  | false=>rfl
  | true=>
   cases a:bp h.K h.M with
   | false=>rfl
   | true=>
    cases b:pages0 h with
    | false=>rfl
    | true=>
     rw[Ba a b];cases c:fo h with
     | false=>simp
     | true=>
      have:=La a c;rw[<-this];cases oN h<;>cases d6 h<;>cases mz h<;>cases h.S.all bt<;>cases cq h<;>cases je h<;>cases vG h<;>rfl
def ovl(y r:aB):Bool:=decide (y.At<r.At+r.b0/\r.At<y.At+y.b0)
def np(r:aB):List aB->Bool->Option (List aB)
 | [],put=>some (if put then [] else [r])
 | y::a,put=>if ovl y r then none else if !put&&decide (y.At > r.At) then(np r a true).map λt=>r::y::t else(np r a put).map λt=>y::t
def d4(out:List aB):List aB->List aB
 | []=>out
 | y::ys=>match out.getLast? with
  | some z=>if z.At+z.b0=y.At then d4 (out.dropLast++[⟨z.At,z.b0+y.b0⟩]) ys else d4 (out++[y]) ys
  | none=>d4 (out++[y]) ys
def kN:List aB->aB->List aB->Bool->Option (List aB)
 | [],r,out,done=>some (if done then out else out++[r])
 | y::ys,r,out,done=>
  if ovl y r then none
  else if y.At+y.b0=r.At then kN ys ⟨y.At,y.b0+r.b0⟩ out done
  else if r.At+r.b0=y.At then kN ys ⟨r.At,r.b0+y.b0⟩ out done
  else if y.At > r.At/\done=false then kN ys r (out++[r,y]) true
  else kN ys r (out++[y]) done
def pG(xs:List aB):Prop:=xs.Pairwise (λa b=>a.At+a.b0<b.At)/\∀y∈xs,1<=y.b0
def pG.tail{y:aB}{a:List aB}(h:pG (y::a)):pG a:=⟨(List.pairwise_cons.1 h.1).2,λz b=>h.2 z (C6 _ b)⟩
def pG.head{y:aB}{a:List aB}(h:pG (y::a)):∀z∈a,y.At+y.b0<z.At:=(List.pairwise_cons.1 h.1).1
def jJ:∀(a out:List aB),pG a->(∀z,out.getLast? = some z->∀y∈a,z.At+z.b0≠y.At)->d4 out a=out++a
 | [],out,_,_=>by simp[d4]
 | y::a,out,d,e=>by
  have b:d4 (out++[y]) a=out++y::a:=by
   rw[jJ a (out++[y]) d.tail λz c w f=>by
     simp at c;subst c;have:=d.head w f;omega]
   simp
  unfold d4;split
  ·rename_i z c
   rw[CB (e z c y (C2 ..))];exact b
  exact b
def wU{r:aB} : ∀{a:List aB},pG a->(∀y∈a,r.At+r.b0<=y.At)->np r a true=some a
 | [],_,_=>rfl
 | y::a,c,b=>by
  have e:=b y (C2 ..);unfold np;rw[CB (by unfold ovl;rw[C0];omega)];simp only[Bool.not_true,Bool.false_and,Bool.false_eq_true,if_false];rw[wU c.tail λz d=>b z (C6 _ d)]
  rfl
def vr{r:aB}(h1:1<=r.b0){a:List aB}(c:pG a)(b:∀y∈a,r.At+r.b0<=y.At):np r a false=some (r::a):=by
 cases a with
 | nil=>rfl
 | cons y a=>
  have e:=b y (C2 ..);unfold np;rw[CB (by unfold ovl;rw[C0];omega),CD (by simp;omega),wU c.tail λz d=>b z (C6 _ d)]
  rfl
def qo{r:aB} : ∀{a out:List aB},pG a->1<=r.b0->(∀y∈a,r.At+r.b0<y.At)->kN a r out true=some (out++a)
 | [],out,_,_,_=>by simp[kN]
 | y::a,out,b,d,c=>by
  have f:=c y (C2 ..);have g:=b.2 y (C2 ..);unfold kN;rw[CB (by unfold ovl;rw[C0];omega),CB ω,CB ω,CB (by simp),qo b.tail d λz e=>c z (C6 _ e)];simp
def xc{r:aB}(h1:1<=r.b0){a out:List aB}(b:pG a)(c:∀y∈a,r.At+r.b0<=y.At):kN a r out false=some (out++match a with|[]=>[r]|y::zs=>if r.At+r.b0=y.At then⟨r.At,r.b0+y.b0⟩::zs else r::y::zs):=by
 cases a with
 | nil=>simp[kN]
 | cons y a=>
  have g:=c y (C2 ..);have h:=b.2 y (C2 ..);unfold kN;rw[CB (by unfold ovl;rw[C0];omega),CB ω];by_cases e:r.At+r.b0=y.At
  ·rw[CD e]
   simp only[e,if_true];cases a with
   | nil=>simp[kN]
   | cons z a=>
    have i:=b.head z (C2 ..);have j:=b.tail.2 z (C2 ..);unfold kN;simp only;rw[CB (by unfold ovl;rw[C0];simp only;omega),CB ω,CB ω,CD (by simp;omega),qo b.tail.tail (by simp only;omega) λw d=>by
      have:=b.tail.head w d;simp only;omega]
    simp
  rw[CB e,CD (by simp;omega),qo b.tail h1 λz f=>by have:=b.head z f;omega];simp[e]
def A2{pages:Int} : ∀{b:List aB}{r:aB}{out:List aB},pG b->1<=r.b0->(∀z,out.getLast? = some z->(∀y∈b,z.At+z.b0<y.At)/\z.At+z.b0<r.At)->(np r b false).map (d4 out)=kN b r out false
 | [],r,out,_,j,u=>by
  show some (d4 out [r])=some (out++[r]);rw[jJ [r] out ⟨List.pairwise_singleton ..,λy B=>by rw[V1.1 B];exact j⟩ λz d y B=>by rw[V1.1 B];have:=(u z d).2;omega]
 | y::b,r,out,c,j,u=>by
  have L:=c.2 y (C2 ..);by_cases l:ovl y r=true
  ·unfold np kN
   rw[CD l,CD l];rfl
  ·have n:=l
   unfold ovl at n;rw[C0]at n;by_cases C:r.At+r.b0<=y.At
   ·-- all to the right
    have f:∀w∈y::b,r.At+r.b0<=w.At:=λw a=>by
     rcases List.mem_cons.1 a with rfl|a
     ·exact C
     have:=c.head w a;omega
    rw[vr j c f,xc j c f];show some (d4 out (r::y::b))=_;have hfirst:d4 out (r::y::b)=d4 (out++[r]) (y::b):=by
     conv=>lhs;unfold d4
     split
     ·rename_i z d;rw[CB (by have:=(u z d).2;omega)]
     rfl
    rw[hfirst];by_cases e:r.At+r.b0=y.At
    ·have:d4 (out++[r]) (y::b)=d4 (out++[⟨r.At,r.b0+y.b0⟩]) b:=by
      conv=>lhs;unfold d4
      simp[e]
     rw[this,jJ b _ c.tail λz d w a=>by
       simp at d;subst d;have:=c.head w a;simp only;omega]
     simp[e]
    rw[jJ (y::b) (out++[r]) c λz d w a=>by
      simp at d;subst d;rcases List.mem_cons.1 a with rfl|a
      · exact e
      have:=c.head w a;omega]
    simp[e]
   have F:y.At+y.b0<=r.At:=ω
   have i:∀t,d4 out (y::t)=d4 (out++[y]) t:=λt=>by
    conv=>lhs;unfold d4
    split
    ·rename_i z d;rw[CB (by have:=(u z d).1 y (C2 ..);omega)]
    rfl
   have G:(np r (y::b) false).map (d4 out)=(np r b false).map (d4 (out++[y])):=by
    conv=>lhs;unfold np
    rw[CB l,CB (by simp;omega),Option.map_map]
    congr 1
    funext t
    exact i t
   rw[G];unfold kN;rw[CB l];by_cases e:y.At+y.b0=r.At
   ·rw[CD e]
    by_cases o:∃w,b.head? = some w/\ovl w r=true
    ·obtain⟨w,a,p⟩:=o
     cases b with
     | nil=>cases a
     | cons g k=>
      obtain rfl:g=w:=by simpa using a
      have H:=c.head g (C2 ..);have J:=c.tail.2 g (C2 ..);have q:=p;unfold ovl at q;rw[C0]at q;unfold np kN;rw[CD p,CD (by unfold ovl;rw[C0];simp only;omega)]
      rfl
    have f:∀w∈b,r.At+r.b0<=w.At:=by
     cases b with
     | nil=>intro w a;cases a
     | cons g k=>
      have H:=c.head g (C2 ..);have J:=c.tail.2 g (C2 ..);have E:¬ovl g r=true:=λh=>o ⟨g,rfl,h⟩
      unfold ovl at E;rw[C0]at E;intro w a;rcases List.mem_cons.1 a with rfl|a
      ·omega
      have:=c.tail.head w a;omega
    rw[vr j c.tail f,xc (r:=⟨y.At,y.b0+r.b0⟩) (by simp only;omega) c.tail λw a=>by have:=f w a;simp only;omega];show some (d4 (out++[y]) (r::b))=_;have K:d4 (out++[y]) (r::b)=d4 (out++[⟨y.At,y.b0+r.b0⟩]) b:=by
     conv=>lhs;unfold d4
     simp[e]
    rw[K];cases b with
    | nil=>simp[d4]
    | cons g k=>
     by_cases A:y.At+(y.b0+r.b0)=g.At
     ·have D:d4 (out++[⟨y.At,y.b0+r.b0⟩]) (g::k)=d4 (out++[⟨y.At,y.b0+r.b0+g.b0⟩]) k:=by
       conv=>lhs;unfold d4
       simp[A]
      rw[D,jJ k _ c.tail.tail λz d w a=>by
        simp at d;subst d;have:=c.tail.head w a;simp only;omega]
      simp[A]
     rw[jJ (g::k) _ c.tail λz d w a=>by
       simp at d;subst d;simp only;rcases List.mem_cons.1 a with rfl|a
       · exact A
       have:=c.tail.head w a;have:=f g (C2 ..);have:=c.tail.2 g (C2 ..);omega]
     simp[A]
   rw[CB e,CB ω,CB ω];exact A2 (pages:=pages) c.tail j λz d=>by
    simp at d;subst d;exact⟨c.head,ω⟩
def ik(k:ah)(f:Int):ah:=if(pagesOn k.F.R f).length=0 then {k with F:=⟨⟨k.F.W.T.set f.toNat (List.replicate 16 0),k.F.W.a6.set f.toNat false⟩,k.F.R⟩} else k
def qE(k:ah)(p:Int):ah:={k with F:=⟨k.F.W,⟨k.F.R.J.set p.toNat ⟨0,0⟩⟩⟩}
def ee(k:ah)(p:Int):ah:=if(ac k.F.R p).e=0 then k else ik (qE k p) (ac k.F.R p).j
def bE[Inhabited α](xs:List α)(i j:Nat)(x:α):nth (xs.set i x) j=if i=j/\j<xs.length then x else nth xs j:=by
 unfold nth;rw[C3,C3,I4];by_cases h:i=j
 ·subst h
  by_cases a:i<xs.length
  ·simp[a]
  simp[a]
 simp[h]
def nv(k:ah)(f:Int):(ik k f).F.R=k.F.R/\(ik k f).Calls=k.Calls/\(ik k f).a0=k.a0/\(ik k f).F.W.T.length=k.F.W.T.length/\(ik k f).F.W.a6.length=k.F.W.a6.length:=by
 unfold ik;split<;>simp
def me(k:ah)(p:Int):(ee k p).F.R.J.length=k.F.R.J.length/\(ee k p).Calls=k.Calls/\(ee k p).a0=k.a0:=by
 unfold ee;split
 ·exact⟨rfl,rfl,rfl⟩
 obtain⟨a,b,c,-⟩:=nv (qE k p) (ac k.F.R p).j;rw[a,b,c];simp[qE]
def aG{k:ah} : aA k=true↔(∀j,j<k.a0.length->0<=nth k.a0 j)/\dc k.F.W=true/\gx k.F.R k.F.W.a6.length=true/\(∀j,j<k.F.W.a6.length->nth k.F.W.a6 j=decide (0<(pagesOn k.F.R (j:Int)).length))/\0<=k.Calls/\k.Calls<=100000/\k.a0.length<=40:=by
 unfold aA dC;simp only[I0,ch,C0,pJ,beq_iff_eq,and_assoc]
def bc{f:aU} : dc f=true↔1<=f.T.length/\f.T.length<=32/\f.a6.length=f.T.length/\∀j,j<f.T.length->iq (nth f.T j) (nth f.a6 j)=true:=by
 unfold dc;simp only[I0,C0,V4,and_assoc];refine and_congr Iff.rfl (and_congr Iff.rfl (and_congr_right λe=>⟨λh j a=>?_,λh q c=>?_⟩))
 ·exact h _ (I2 (wP (ao a) (ao ω)))
 obtain⟨j,a⟩:=List.mem_iff_getElem?.1 c;obtain⟨b,d⟩:=List.getElem?_zip_eq_some.1 a;have:=h j (X2.1 b).1
 rwa [bm b,bm d]at this
def b8 : gx t a=true↔(∀j,j<t.J.length->kQ a (nth t.J j)=true)/\1<=t.J.length/\t.J.length<=32:=by
 unfold gx;simp only[I0,ch,C0]
def eA : 0<(pagesOn t f).length↔∃q,q<t.J.length/\(nth t.J q).e≠0/\(nth t.J q).j=f:=by
 unfold pagesOn kv;rw[I1,List.length_pos_iff_exists_mem];simp[M9]
def cj{k:ah}(h:aA k=true)(b:(ac k.F.R p).e≠0):0<=p/\p<k.F.R.J.length/\ac k.F.R p=nth k.F.R.J p.toNat/\0<=(ac k.F.R p).j/\(ac k.F.R p).j<k.F.W.a6.length:=by
 obtain⟨-,-,c,-⟩:=aG.1 h;have a:0<=p/\p<k.F.R.J.length:=by
  by_cases a:0<=p/\p<k.F.R.J.length
  ·exact a
  unfold ac at b;rw[CB a]at b;exact absurd rfl b
 have d:ac k.F.R p=nth k.F.R.J p.toNat:=by unfold ac;rw[CD a]
 have:=(b8.1 c).1 p.toNat ω;rw[d]at b |-;unfold kQ at this;rw[C0]at this;exact⟨a.1,a.2,rfl,this.2.2.2 b⟩
def x9{k:ah}(p:Int)(h:aA k=true):aA (ee k p)=true:=by
 unfold ee;split
 ·exact h
 rename_i t;obtain⟨E,F,G,l,n⟩:=cj h t;obtain⟨u,w,H,y,A,B,C⟩:=aG.1 h;obtain⟨J,K,L,M⟩:=bc.1 w;obtain⟨N,O,P⟩:=b8.1 H;rw[G]at t l n |-;generalize Q:(nth k.F.R.J p.toNat).j=f at l n;have g:∀q,nth (k.F.R.J.set p.toNat ⟨0,0⟩) q=if p.toNat=q then⟨0,0⟩ else nth k.F.R.J q:=λq=>by
  rw[bE];by_cases r:p.toNat=q
  ·rw[CD ⟨r,ω⟩,CD r]
  rw[CB (λe=>r e.1),CB r]
 have b:∀j:Int,0<(pagesOn (⟨k.F.R.J.set p.toNat ⟨0,0⟩⟩ : aH) j).length↔∃q,q<k.F.R.J.length/\q≠p.toNat/\(nth k.F.R.J q).e≠0/\(nth k.F.R.J q).j=j:=λj=>by
  rw[eA];simp only[W1,g]
  grind
 have c:∀j:Int,0<(pagesOn k.F.R j).length↔∃q,q<k.F.R.J.length/\(nth k.F.R.J q).e≠0/\(nth k.F.R.J q).j=j:=λj=>eA
 have i:gx ⟨k.F.R.J.set p.toNat ⟨0,0⟩⟩ k.F.W.a6.length=true:=by
  rw[b8];simp only[W1,g];refine⟨λj d=>?_,O,P⟩;split
  ·unfold kQ;simp
  exact N j d
 unfold ik;split
 ·rename_i o
  rw[aG];simp only[qE,W1]at o |-;refine⟨u,?_,i,λj d=>?_,A,B,C⟩
  ·rw[bc]
   simp only[W1,bE];refine⟨J,K,L,λj d=>?_⟩;by_cases a:f.toNat=j
   ·rw[CD ⟨a,d⟩,CD ⟨a,ω⟩];decide
   rw[CB (λe=>a e.1),CB (λe=>a e.1)];exact M j d
  rw[bE];by_cases a:f.toNat=j
  ·rw[CD ⟨a,d⟩]
   have:(j:Int)=f:=ω
   rw[this];exact(W0 λR=>absurd o (Nat.ne_of_gt R)).symm
  rw[CB (λe=>a e.1),y j d];refine decide_eq_decide.2 ?_;rw[c,b]
  grind
 rename_i o;rw[aG];simp only[qE]at o |-;refine⟨u,w,i,λj d=>?_,A,B,C⟩;rw[y j d];refine decide_eq_decide.2 ?_;by_cases a:f=j
 ·have D:0<(pagesOn (⟨k.F.R.J.set p.toNat ⟨0,0⟩⟩ : aH) j).length:=by rw[<-a];exact Nat.pos_of_ne_zero o
  have:=(b j).1 D;constructor
  ·intro _;exact D
  intro _;rw[c];grind
 rw[c,b];grind
def bO{k:ah}(h:aA k=true):ah.sml k:=by
 obtain⟨g,b,c,i,l,n,o⟩:=aG.1 h;obtain⟨p,q,t,d⟩:=bc.1 b;obtain⟨u,w,y⟩:=b8.1 c;refine⟨⟨⟨⟨ω,λr f=>?_⟩,(by omega:_<=1048576)⟩,⟨ω,λe _=>trivial⟩⟩,(by omega:_<=1048576)⟩;obtain⟨j,a⟩:=List.mem_iff_getElem?.1 f;have:=d j (X2.1 a).1;rw[bm a]at this;unfold iq at this;simp only[I0,C0]at this;show r.length<=1048576;omega
def Ea(a:cN h=true):aA h.G=true:=by
 unfold cN lJ at a;simp only[I0]at a
 grind
variable{K:List (List C)->Prop}{sz by_:Nat}
def Ap.cp{e:α->List C}{xs:List α}(b:∀x,(e x).length=sz)(c:∀x,aZ (e x)=true)(d:xs.length<=1048576)(f:by_<=1000)(g:K (xs.map e)):Ap true [] (xs.map e) sz by_ K:=
 CU (λr a=>by cases a) (λr a=>by obtain⟨y,-,rfl⟩:=Z4.1 a;exact b y) (λ_ r a=>by obtain⟨y,-,rfl⟩:=Z4.1 a;exact c y) (by simp;omega) (by simp only[I1,List.length_nil,Y7];exact wZ d f) rfl g
def CR:type_of% @Ap.cp:=@Ap.cp
def Fl.cp{e:α->List C}{xs:List α}{X:Prop}(a:∀x,(e x).length=sz)(b:∀x,aZ (e x)=true)(c:xs.length<=1048576)(d:by_<=1000)(f:X):Fl (xs.map e) sz by_ X:=
 Fl.mk (λr g=>by obtain⟨y,-,rfl⟩:=Z4.1 g;exact⟨a y,b y⟩) (by simp;omega) (by simp only[I1];exact wZ c d) f
def CY:type_of% @Fl.cp:=@Fl.cp
variable{rows b:List (List C)}
def Ap.sn{r:List C}(h1:∀r∈rows,r.length=sz)(c:r.length=sz)(d:rows.length+1<=1048576)(e:by_<=1000)(a:b=rows++[r])(f:K b):Ap false rows [r] sz by_ K:=
 CU h1 (λg a=>by rw[V1.1 a];exact c) (λh=>by cases h) (by simp;omega) (wZ (by simpa using d) e) a f
def gr(xs:List Int)(a:xs.length<=1048576):zzA 211 false [.val none (aD .U xs)] .one (aD .own xs):=by
 refine fO 6 [] Tryz.func211 rfl ?_ (.inr (bG _))
 repeat'(first|refine gP ?_|(conv=>whnf);refine CR (λ_=>rfl) (λ_=>rfl) a (by decide) ?_)
 rfl
def DA(t:aH)(a:aH.sml t):zzA 471 false [.val (some 1) (aH.enc .U t)] .agg (aH.enc .own t):=by
 have b:=a.1;refine fO 8 [] Tryz.func471 rfl ?_ (.inr (aH.enc_fr _))
 repeat'(first|refine gP ?_|(conv=>whnf);refine CR (λ_=>rfl) (λ_=>rfl) b (by decide) ?_)
 rfl
def xu(t:aH)(a:aH.sml t):zzA 361 false [.val (some 1) (aH.enc .U t)] .agg (aH.enc .own t):=by
 have b:=a.1;refine fO 8 [] Tryz.func361 rfl ?_ (.inr (aH.enc_fr _))
 repeat'(first|refine gP ?_|(conv=>whnf);refine CR (λ_=>rfl) (λ_=>rfl) b (by decide) ?_)
 rfl
def aT{e:α->List C}{l:List α}(h:∀x,(e x).length=n):∀r∈l.map e,r.length=n:=λr a=>by
 obtain⟨y,-,rfl⟩:=Z4.1 a;exact h y
def fj{β:Type}[Inhabited α]{xs:List α}{f:α->β}(a:i<xs.length):(xs.take (i+1)).map f=(xs.take i).map f++[f (nth xs i)]:=by
 rw[O6,ao a];simp
def Eh(f:aU)(a:aU.sml f):zzA 470 false [.val (some 2) (aU.enc .U f)] .agg (aU.enc .own f):=by
 have g:=a.1.1;have d:f.a6.length<=1048576:=a.2;refine fO 30 [(5,10,[17,18,19,20,21,22,23,24,25,26])] Tryz.func470 rfl ?_ (.inr (aU.enc_fr _))
 repeat'(first|(conv=>whnf);refine CR (λ_=>rfl) (λ_=>rfl) d (by decide) ?_)
 (conv=>whnf)
 refine CH (ι:=Nat) (λi=>[(1,.H .box (aU.enc .U f)),(2,.H .box [.z,.z]),(3,.H .box [.s .own ((f.T.take i).map (aD .own)),.s .own (f.a6.map (rB .own))]),(4,.H .one [I ((i:Nat):Int)])]) (λi=>i<=f.T.length) (λi=>f.T.length - i) (0) ?_ (X0 _) λi h=>?_
 ·exact wB
 by_cases b:i<f.T.length
 ·have e:=ao b
  have c:(nth f.T i).length<=1048576:=a.1.2 _ (am b)
  repeat'(first|refine gE ?_|(conv=>whnf);first|refine CY (λ_=>rfl) (λ_=>rfl) c (by decide) ?_|refine Ap.sn (aT λ_=>rfl) rfl (by simp;omega) (by decide) (fj b) ?_)
  ((conv=>whnf);refine CG (i+1) ω ω ?_;(exact wB))
 repeat'(first|refine gE ?_|fail)
 obtain rfl:i=f.T.length:=ω
 rw[Y5]
 rfl
def vU(f:aU)(a:aU.sml f):zzA 360 false [.val (some 2) (aU.enc .U f)] .agg (aU.enc .own f):=by
 have g:=a.1.1;have d:f.a6.length<=1048576:=a.2;refine fO 27 [(5,5,[18,19,20,21,22])] Tryz.func360 rfl ?_ (.inr (aU.enc_fr _))
 repeat'(first|refine gP ?_|(conv=>whnf);refine CR (λ_=>rfl) (λ_=>rfl) d (by decide) ?_)
 (conv=>whnf)
 refine CH (ι:=Nat) (λi=>[(2,.H .box [.z,.z]),(3,.H .box [.s .own ((f.T.take i).map (aD .own)),.s .own (f.a6.map (rB .own))]),(12,.H .one (f9 .U f.T)),(13,.H .one [I (f.T.length)]),(14,.H .one [I ((i:Nat):Int)])]) (λi=>i<=f.T.length) (λi=>f.T.length - i) (0) ?_ (X0 _) λi h=>?_
 ·exact wB
 by_cases b:i<f.T.length
 ·have e:=ao b
  have c:(nth f.T i).length<=1048576:=a.1.2 _ (am b)
  repeat'(first|refine gE ?_|(conv=>whnf);first|refine C9 (gr (nth f.T i) c) ?_|refine Ap.sn (aT λ_=>rfl) rfl (by simp;omega) (by decide) (fj b) ?_)
  ((conv=>whnf);refine CG (i+1) ω ω ?_;(exact wB))
 repeat'(first|refine gE ?_|fail)
 obtain rfl:i=f.T.length:=ω
 rw[Y5]
 rfl
def tI(m:aR)(a:aR.sml m):zzA 363 false [.val (some 3) (aR.enc .U m)] .agg (aR.enc .own m):=by
 refine fO 10 [(1,5,[3,4,5,6,7])] Tryz.func363 rfl ?_ (.inr (aR.enc_fr _))
 repeat'(first|refine gP ?_|(conv=>whnf);first|refine C9 (Eh m.W a.1) ?_|refine C9 (DA m.R a.2) ?_)
 rfl
def tL(m:aR)(a:aR.sml m):zzA 210 false [.val (some 3) (aR.enc .U m)] .agg (aR.enc .own m):=by
 refine fO 10 [(1,5,[3,4,5,6,7])] Tryz.func210 rfl ?_ (.inr (aR.enc_fr _))
 repeat'(first|refine gP ?_|(conv=>whnf);first|refine C9 (vU m.W a.1) ?_|refine C9 (xu m.R a.2) ?_)
 rfl
def BQ(k:ah)(a:ah.sml k):zzA 218 false [.val (some 5) (ah.enc .U k)] .agg (ah.enc .own k):=by
 have b:k.a0.length<=1048576:=a.2;refine fO 13 [(1,9,[3,4,5,6,7,8,9,10,11])] Tryz.func218 rfl ?_ (.inr (ah.enc_fr _))
 repeat'(first|refine gP ?_|(conv=>whnf);first|refine C9 (tI k.F a.1) ?_|refine CY (λ_=>rfl) (λ_=>rfl) b (by decide) ?_)
 rfl
def wq(k:ah)(a:ah.sml k):zzA 65 false [.val (some 5) (ah.enc .U k)] .agg (ah.enc .own k):=by
 refine fO 12 [(1,8,[3,4,5,6,7,8,9,10])] Tryz.func65 rfl ?_ (.inr (ah.enc_fr _))
 repeat'(first|refine gP ?_|(conv=>whnf);first|refine C9 (tL k.F a.1) ?_|refine C9 (gr k.a0 a.2) ?_)
 rfl
def fx(k:ah)(p:Int)(a:aH.sml k.F.R):zzA 488 false [.ptr (ah.enc .U k),.val none [I p]] .one [I (ac k.F.R p).e]:=by
 refine fO 13 [] Tryz.func488 rfl ?_
 repeat'(first|refine gP ?_|(conv=>whnf);refine C9 (du k.F.R p a) ?_)
 rfl
def m0(k:ah)(b:ah.sml k):zzA 455 false [.val (some 5) (ah.enc .U k)] .one [B (aA k&&decide (k.Calls<100000))]:=by
 have a:=mI k b;cases e:aA k<;>rw[e]at a
 ·refine fO 10 [] Tryz.func455 rfl ?_
  repeat'(first|refine gP ?_|(conv=>whnf);first|with_reducible refine Bf.D (λc=>?_) (λc=>?_)|refine C9 (a) ?_)
  all_goals rfl
 refine fO 10 [] Tryz.func455 rfl ?_
 repeat'(first|refine gP ?_|(conv=>whnf);refine C9 (a) ?_)
 all_goals rfl
def AS{k:ah}(h:(pagesOn k.F.R f).length=0):ah.enc .own (ik k f)=[.s .own ((k.F.W.T.map (aD .own)).set f.toNat (aD .own (List.replicate 16 0))),.s .own ((k.F.W.a6.map (rB .own)).set f.toNat (rB .own false)),.s .own (k.F.R.J.map (bk.enc .own)),I k.Calls,.s .own (k.a0.map (rI .own))]:=by
 unfold ik;rw[CD h];simp only[ah.enc,C7]
def G1{k:ah}(h:¬(pagesOn k.F.R f).length=0):ah.enc .own (ik k f)=ah.enc .own k:=by
 unfold ik;rw[CB h]
def DX(k:ah)(f:Int)(a:aH.sml k.F.R)(b:0<=f/\f<k.F.W.T.length/\f<k.F.W.a6.length) :
  zzB 489 false [.ptr (ah.enc .own k),.val none [I f]] [.ptr (ah.enc .own (ik k f)),.val none [I f]] (.tup []) []:=by
 have c:=ao (xs:=k.F.W.T) (i:=f.toNat) ω;have d:=ao (xs:=k.F.W.a6) (i:=f.toNat) ω;by_cases e:(pagesOn k.F.R f).length=0
 ·rw[AS e]
  refine fM 30 [] [(2,8,[21,22,23,24,25,26,27,28])] [(0,0),(0,0)] Tryz.func489 rfl (λu q=>?_) (.inr trivial)
  repeat'(first|refine gB ?_|(conv=>whnf);first|with_reducible (first|refine CP b.1 (aa d) ?_|refine CP b.1 (aa c) ?_)|refine CL (gU k.F.R f a) ⟨⟨rfl,Cc k.F.R⟩,⟨rfl,rfl⟩,trivial⟩ ?_|refine CS rfl rfl (aa c) rfl (O1 rfl) rfl ?_|refine CS rfl rfl (aa d) rfl (O1 rfl) rfl ?_|refine Mk.mk 16 rfl rfl (by decide) (by decide) rfl ?_)
  refine CK rfl rfl ?_;exact wB
 rw[G1 e];refine fM 30 [] [(2,8,[21,22,23,24,25,26,27,28])] [(0,0),(0,0)] Tryz.func489 rfl (λu q=>?_) (.inr trivial)
 repeat'(first|refine gB ?_|(conv=>whnf);refine CL (gU k.F.R f a) ⟨⟨rfl,Cc k.F.R⟩,⟨rfl,rfl⟩,trivial⟩ ?_)
 refine CK rfl rfl ?_;exact wB
def MI(k:ah)(p:Int):ah.enc .own (qE k p)=[.s .own (k.F.W.T.map (aD .own)),.s .own (k.F.W.a6.map (rB .own)),.s .own ((k.F.R.J.map (bk.enc .own)).set p.toNat (bk.enc .own ⟨0,0⟩)),I k.Calls,.s .own (k.a0.map (rI .own))]:=by
 unfold qE;simp only[ah.enc,C7]
def Pm{k:ah}(h:aA k=true):aH.sml (qE k p).F.R:=by
 obtain⟨a,b,c⟩:=b8.1 (aG.1 h).2.2.1;exact⟨by simp only[qE,W1];omega,λ_ _=>trivial⟩
def iS(a:cN h=true):aA h.G=true/\bp h.K h.M=true/\pages0 h=true/\tD h=true/\bP h.q=true/\(h.S.all bt=true/\h.S.length=h.q.V.length)/\fI h.a9=true/\fo h=true/\gW h=true/\(holders h).Nodup/\(holders h).length=(io h.K h.M).length:=by
 unfold cN lJ d6 je at a;simp only[I0,C0]at a;obtain⟨⟨⟨⟨⟨⟨⟨⟨⟨⟨b,-⟩,c⟩,d⟩,e⟩,⟨⟨f,g⟩,i⟩⟩,-⟩,j⟩,-⟩,k,⟨k10,k11⟩,k12⟩,-⟩:=a;exact⟨b,c,d,e,f,⟨j,g⟩,i,k,k10,k11,k12⟩
def LZ(b:cN h=true)(c:a∈io h.K h.M):a∈holders h:=by
 obtain⟨-,d,-,-,-,-,-,e,f,k10,k11⟩:=iS b;exact rE k10 (nM (qH.of d) e f) ω a c
def gp(n:Nat):aU:=⟨List.replicate n (List.replicate 16 0),List.replicate n false⟩
def eR(n:Nat):aH:=⟨List.replicate n ⟨0,0⟩⟩
def bN(p f:Nat)(a:List Int):ah:=⟨⟨gp f,eR p⟩,0,a⟩
def fQ:a8:=⟨List.replicate 4 []⟩
def eD(n:Nat):aL:=⟨List.replicate n [],List.replicate n []⟩
def newHeap(p f t:Nat)(lim:Int)(a:List Int):ab:=⟨bN p f a,[⟨0,p⟩],[],[],[],List.replicate t fQ,eD t,⟨16,[]⟩,0,0,lim,1,false,⟨⟨0,0,[]⟩,0,0⟩⟩
def cX[Inhabited α]{y:α}(a:j<n):nth (List.replicate n y) j=y:=bm (by rw[List.getElem?_replicate,CD a])
def P4(n:Nat)(f:Int):pagesOn (eR n) f=[]:=by
 unfold pagesOn kv;rw[List.map_eq_nil_iff,List.filter_eq_nil_iff];intro i b;have a:i<n:=by simpa[eR] using b
 unfold M9;rw[show nth (eR n).J i = ⟨0,0⟩ from cX a];simp
def BP{p f:Nat}(c:1<=p/\p<=32)(d:1<=f/\f<=32):aA (bN p f [])=true:=by
 rw[aG];refine⟨λj b=>by simp[bN]at b,bc.2 ⟨by simp[bN,gp];omega,by simp[bN,gp];omega,by simp[bN,gp],λj b=>?_⟩,b8.2 ⟨λj b=>?_,by simp[bN,eR];omega,by simp[bN,eR];omega⟩,λj b=>?_,by simp[bN],by simp[bN],by simp[bN]⟩
 ·have a:j<f:=by simpa[bN,gp] using b
  rw[show nth (bN p f []).F.W.T j=List.replicate 16 0 from cX a,show nth (bN p f []).F.W.a6 j=false from cX a]
  decide
 ·have a:j<p:=by simpa[bN,eR] using b
  rw[show nth (bN p f []).F.R.J j = ⟨0,0⟩ from cX a];unfold kQ;rw[C0];exact⟨by decide,by decide,λ_=>rfl,λh=>absurd rfl h⟩
 have a:j<f:=by simpa[bN,gp] using b
 rw[show nth (bN p f []).F.W.a6 j=false from cX a,show(bN p f []).F.R=eR p from rfl,P4]
 rfl
def HV(w:World)(q:Nat)(c:Array Obj):bZ NO w (Sort.grow (w.drewN q) c):=by
 have a:∀b,b<w.heap.size->(Sort.grow (w.drewN q) c).heap[b]? = w.heap[b]?:=λb a=>Sort.heap_grow_old (w.drewN q) c a
 refine⟨rfl,rfl,rfl,by show w.heap.size<=(w.heap++c).size;simp,λb h _=>a b h,λb o h _=>?_,λb o h _=>?_⟩
 ·show World.cell? _ _=World.cell? w _
  unfold World.cell?;simp only[a b h]
 refine Prod.ext ?_ ?_
 ·show World.frozen? _ _=World.frozen? w _
  unfold World.frozen?;simp only[a b h]
 show mp _ b=mp w b;unfold mp;rw[a b h]
def Lc(c:Nat)(W:World):Calls Tryz.prog 423 #[.slice none 0 c] W λe g=>∃B q h,e=.returned (.slice B 0 0)/\g=Sort.grow (W.drewN q) h:=by
 have q22:∀(w:World)(a:Option Addr)(n c b d:Nat),(binOp .eql 33 (.slice a n c) (.slice none b d)).run Tryz.prog w=.ok (.bool a.isNone) w:=λw a n c b d=>Lib.run_eql_slice_nil w _ _ a n c b d Tryz.underlying33
 go_enter Tryz.func423,Tryz.ntmps423
 go_wp2
 go_ret
 exact⟨none,0,#[],rfl,by simp[Sort.grow,World.drewN]⟩
def Ha(a:Addr)(c:Nat)(W:World):Calls Tryz.prog 423 #[.slice (some a) 0 c] W λe g=>∃B q h,e=.returned (.slice B 0 0)/\g=Sort.grow (W.drewN q) h:=by
 have q22:∀(w:World)(a:Option Addr)(n c b d:Nat),(binOp .eql 33 (.slice a n c) (.slice none b d)).run Tryz.prog w=.ok (.bool a.isNone) w:=λw a n c b d=>Lib.run_eql_slice_nil w _ _ a n c b d Tryz.underlying33
 go_enter Tryz.func423,Tryz.ntmps423
 go_wp2
 go_ret
 exact⟨some ⟨W.heap.size,0,none⟩,0,#[.cells #[] 3],rfl,by rw[Sort.alloc_eq_grow];rfl⟩
def Jt(xs:List Int)(o:xs.length<=1048576):zzA 423 false [.val none (aD .U xs)] .one (aD .own xs):=by
 by_cases d:xs=[]
 ·subst d
  refine⟨⟨_,Tryz.func423,by kernel_rfl,by kernel_rfl⟩,λw S p t g=>?_⟩
  match p,g with
  | [v],⟨g,_⟩=>
   have c:=cb.rep1 (show cb w S NO none [C.s .U []] v from g);obtain⟨l,b,rfl⟩:=c.slice;have r:Calls Tryz.prog 423 #[.slice l 0 b] w λe n=>∃B q i,e=.returned (.slice B 0 0)/\n=Sort.grow (w.drewN q) i:=by
    cases l with
    | none=>exact Lc b w
    | some a=>exact Ha a b w
   refine r.mono λe n ⟨B,q,i,d,j⟩=>?_
   subst j;exact⟨.slice B 0 0,d,HV w q i,NO,NO,λ_ _ h=>h.elim,λ_ _ h=>h.elim,λ_ _ h=>h.elim,rfl,row1 (.nil _ .own B trivial)⟩
 have k:xs.map (rI .U)≠[]:=λe=>d (List.map_eq_nil_iff.1 e)
 refine fO 8 [] Tryz.func423 rfl ?_ (.inr (bG _))
 repeat'(first|refine gP ?_|(conv=>whnf);first|refine Nn.mk k ?_|refine CR (λ_=>rfl) (λ_=>rfl) o (by decide) ?_)
 rfl
def zR(p:cJ)(a:cJ.sml p):zzA 288 false [.val (some 3) (cJ.enc .U p)] .agg (cJ.enc .own p):=by
 have b:p.T.length<=1048576:=a;refine fO 8 [] Tryz.func288 rfl ?_ (.inr (cJ.enc_fr _))
 repeat'(first|refine gP ?_|(conv=>whnf);refine C9 (Jt p.T b) ?_)
 rfl
def DK(j:cA)(a:cA.sml j):zzA 200 false [.val (some 5) (cA.enc .U j)] .agg (cA.enc .own j):=by
 refine fO 8 [] Tryz.func200 rfl ?_ (.inr (cA.enc_fr _))
 repeat'(first|refine gP ?_|(conv=>whnf);refine C9 (zR j.X a) ?_)
 rfl
def j9(c:a8)(d:a8.sml c):zzA 219 false [.val (some 1) (a8.enc .U c)] .agg (a8.enc .own c):=by
 have g:=d.1;refine fO 26 [(5,10,[13,14,15,16,17,18,19,20,21,22])] Tryz.func219 rfl ?_ (.inr (a8.enc_fr _))
 repeat'(first|refine gP ?_|fail)
 (conv=>whnf)
 refine CH (ι:=Nat) (λi=>[(1,.H .box (a8.enc .U c)),(2,.H .box [.z]),(3,.H .box [.s .own ((c.b.take i).map (aD .own))]),(4,.H .one [I ((i:Nat):Int)])]) (λi=>i<=c.b.length) (λi=>c.b.length - i) (0) ?_ (X0 _) λi h=>?_
 ·exact wB
 by_cases a:i<c.b.length
 ·have e:=ao a
  have b:(nth c.b i).length<=1048576:=d.2 _ (am a)
  repeat'(first|refine gE ?_|(conv=>whnf);first|refine CY (λ_=>rfl) (λ_=>rfl) b (by decide) ?_|refine Ap.sn (aT λ_=>rfl) rfl (by simp;omega) (by decide) (fj a) ?_)
  ((conv=>whnf);refine CG (i+1) ω ω ?_;(exact wB))
 repeat'(first|refine gE ?_|fail)
 obtain rfl:i=c.b.length:=ω
 rw[Y5]
 rfl
def yU(c:a8)(d:a8.sml c):zzA 197 false [.val (some 1) (a8.enc .U c)] .agg (a8.enc .own c):=by
 have g:=d.1;refine fO 23 [(5,5,[14,15,16,17,18])] Tryz.func197 rfl ?_ (.inr (a8.enc_fr _))
 repeat'(first|refine gP ?_|fail)
 (conv=>whnf)
 refine CH (ι:=Nat) (λi=>[(2,.H .box [.z]),(3,.H .box [.s .own ((c.b.take i).map (aD .own))]),(8,.H .one (f9 .U c.b)),(9,.H .one [I (c.b.length)]),(10,.H .one [I ((i:Nat):Int)])]) (λi=>i<=c.b.length) (λi=>c.b.length - i) (0) ?_ (X0 _) λi h=>?_
 ·exact wB
 by_cases a:i<c.b.length
 ·have e:=ao a
  have b:(nth c.b i).length<=1048576:=d.2 _ (am a)
  repeat'(first|refine gE ?_|(conv=>whnf);first|refine C9 (gr (nth c.b i) b) ?_|refine Ap.sn (aT λ_=>rfl) rfl (by simp;omega) (by decide) (fj a) ?_)
  ((conv=>whnf);refine CG (i+1) ω ω ?_;(exact wB))
 repeat'(first|refine gE ?_|fail)
 obtain rfl:i=c.b.length:=ω
 rw[Y5]
 rfl
def ge(m:aL)(b:aL.sml m):zzA 220 false [.val (some 2) (aL.enc .U m)] .agg (aL.enc .own m):=by
 have h:=b.1.1;have g:=b.2.1;refine fO 46 [(5,10,[14,15,16,17,18,19,20,21,22,23]),(9,10,[33,34,35,36,37,38,39,40,41,42])] Tryz.func220 rfl ?_ (.inr (aL.enc_fr _))
 repeat'(first|refine gP ?_|fail)
 (conv=>whnf)
 refine CH (ι:=Nat) (λi=>[(1,.H .box (aL.enc .U m)),(2,.H .box [.z,.z]),(3,.H .box [.s .own ((m.V.take i).map (cF .own)),.z]),(4,.H .one [I ((i:Nat):Int)])]) (λi=>i<=m.V.length) (λi=>m.V.length - i) (0) ?_ (X0 _) λi j=>?_
 ·exact wB
 by_cases c:i<m.V.length
 ·have d:=ao c
  have a:(nth m.V i).length<=1048576:=(b.1.2 _ (am c)).1
  repeat'(first|refine gE ?_|(conv=>whnf);first|refine CY (λ_=>rfl) (λ_=>rfl) a (by decide) ?_|refine Ap.sn (aT λ_=>rfl) rfl (by simp;omega) (by decide) (fj c) ?_)
  ((conv=>whnf);refine CG (i+1) ω ω ?_;(exact wB))
 obtain rfl:i=m.V.length:=ω
 rw[Y5]
 repeat'(first|refine gE ?_|fail)
 (conv=>whnf)
 refine CH (ι:=Nat) (λk=>[(1,.H .box (aL.enc .U m)),(2,.H .box [.z,.z]),(3,.H .box [.s .own (m.V.map (cF .own)),.s .own ((m.y.take k).map (aD .own))]),(5,.H .one [I ((k:Nat):Int)])]) (λk=>k<=m.y.length) (λk=>m.y.length - k) (0) ?_ (X0 _) λk l=>?_
 ·exact wB
 by_cases e:k<m.y.length
 ·have d:=ao e
  have a:(nth m.y k).length<=1048576:=b.2.2 _ (am e)
  repeat'(first|refine gE ?_|(conv=>whnf);first|refine CY (λ_=>rfl) (λ_=>rfl) a (by decide) ?_|refine Ap.sn (aT λ_=>rfl) rfl (by simp;omega) (by decide) (fj e) ?_)
  ((conv=>whnf);refine CG (k+1) ω ω ?_;(exact wB))
 repeat'(first|refine gE ?_|fail)
 obtain rfl:k=m.y.length:=ω
 rw[Y5]
 rfl
def zF(m:aL)(b:aL.sml m):zzA 198 false [.val (some 2) (aL.enc .U m)] .agg (aL.enc .own m):=by
 have h:=b.1.1;have g:=b.2.1;refine fO 41 [(5,6,[16,17,18,19,20,21]),(10,5,[32,33,34,35,36])] Tryz.func198 rfl ?_ (.inr (aL.enc_fr _))
 repeat'(first|refine gP ?_|fail)
 (conv=>whnf)
 refine CH (ι:=Nat) (λi=>[(1,.H .box (aL.enc .U m)),(2,.H .box [.z,.z]),(3,.H .box [.s .own ((m.V.take i).map (cF .own)),.z]),(10,.H .one (lS .U m.V)),(11,.H .one [I (m.V.length)]),(12,.H .one [I ((i:Nat):Int)])]) (λi=>i<=m.V.length) (λi=>m.V.length - i) (0) ?_ (X0 _) λi j=>?_
 ·exact wB
 by_cases c:i<m.V.length
 ·have d:=ao c
  have a:(nth m.V i).length<=1048576:=(b.1.2 _ (am c)).1
  repeat'(first|refine gE ?_|(conv=>whnf);first|refine CY (λ_=>rfl) (λ_=>rfl) a (by decide) ?_|refine Ap.sn (aT λ_=>rfl) rfl (by simp;omega) (by decide) (fj c) ?_)
  ((conv=>whnf);refine CG (i+1) ω ω ?_;(exact wB))
 obtain rfl:i=m.V.length:=ω
 rw[Y5]
 repeat'(first|refine gE ?_|fail)
 (conv=>whnf)
 refine CH (ι:=Nat) (λk=>[(2,.H .box [.z,.z]),(3,.H .box [.s .own (m.V.map (cF .own)),.s .own ((m.y.take k).map (aD .own))]),(26,.H .one (f9 .U m.y)),(27,.H .one [I (m.y.length)]),(28,.H .one [I ((k:Nat):Int)])]) (λk=>k<=m.y.length) (λk=>m.y.length - k) (0) ?_ (X0 _) λk l=>?_
 ·exact wB
 by_cases e:k<m.y.length
 ·have d:=ao e
  have a:(nth m.y k).length<=1048576:=b.2.2 _ (am e)
  repeat'(first|refine gE ?_|(conv=>whnf);first|refine C9 (gr (nth m.y k) a) ?_|refine Ap.sn (aT λ_=>rfl) rfl (by simp;omega) (by decide) (fj e) ?_)
  ((conv=>whnf);refine CG (k+1) ω ω ?_;(exact wB))
 repeat'(first|refine gE ?_|fail)
 obtain rfl:k=m.y.length:=ω
 rw[Y5]
 rfl
def sK(q:bM)(b:bM.sml q):zzA 221 false [.val (some 2) (bM.enc .U q)] .agg (bM.enc .own q):=by
 have a:q.a5.length<=1048576:=b.1;refine fO 10 [(1,6,[3,4,5,6,7,8])] Tryz.func221 rfl ?_ (.inr (bM.enc_fr _))
 repeat'(first|refine gP ?_|(conv=>whnf);refine CY (λ_=>rfl) (λ_=>rfl) a (by decide) ?_)
 rfl
def zw(q:bM)(b:bM.sml q):zzA 199 false [.val (some 2) (bM.enc .U q)] .agg (bM.enc .own q):=by
 have a:q.a5.length<=1048576:=b.1;refine fO 10 [(1,6,[3,4,5,6,7,8])] Tryz.func199 rfl ?_ (.inr (bM.enc_fr _))
 repeat'(first|refine gP ?_|(conv=>whnf);refine CY (λ_=>rfl) (λ_=>rfl) a (by decide) ?_)
 rfl
def sH(j:cA)(a:cA.sml j):zzA 222 false [.val (some 5) (cA.enc .U j)] .agg (cA.enc .own j):=by
 have b:j.X.T.length<=1048576:=a;refine fO 11 [] Tryz.func222 rfl ?_ (.inr (cA.enc_fr _))
 repeat'(first|refine gP ?_|(conv=>whnf);refine CR (λ_=>rfl) (λ_=>rfl) b (by decide) ?_)
 rfl
def wo(xs:List aB)(a:iH xs):zzA 196 false [.val none (bB .U xs)] .one (bB .own xs):=by
 have b:=a.1;refine fO 6 [] Tryz.func196 rfl ?_ (.inr (mA _))
 repeat'(first|refine gP ?_|(conv=>whnf);refine CR (λ_=>rfl) (λ_=>rfl) b (by decide) ?_)
 rfl
def U7(h:ab)(a:C):List C:=[.s .own (h.G.F.W.T.map (aD .own)),.s .own (h.G.F.W.a6.map (rB .own)),.s .own (h.G.F.R.J.map (bk.enc .own)),I h.G.Calls,.s .own (h.G.a0.map (rI .own)),.s .own (h.w.map (aB.enc .own)),.s .own (h.K.map (ax.enc .own)),.s .own (h.M.map (a7.enc .own)),.s .own (h.O.map (bn.enc .own)),a,.s .U (h.q.V.map (cF .U)),.s .U (h.q.y.map (aD .U)),I h.a9.c1,.s .U (h.a9.a5.map (aN.enc .U)),I h.c0,I h.b5,I h.c4,I h.d,B h.u,I h.Z.X.a3,I h.Z.X.a2,.s .U (h.Z.X.T.map (rI .U)),I h.Z.b2,I h.Z.d]
def Ti:List C:=[.z,.z,.z,I 0,.z,.z,.z,.z,.z,.z,.z,.z,I 0,.z,I 0,I 0,I 0,I 0,B false,I 0,I 0,.z,I 0,I 0]
def DL(h:ab)(c:ab.sml h):zzA 69 false [.val (some 24) (ab.enc .U h)] .agg (ab.enc .own h):=by
 obtain⟨d,e,g,j,k,b,l,n,o⟩:=c;have p:=e.1;have q:=g.1;have r:=j.1;have t:=k.1;have w:=b.1;refine fO 61 [] Tryz.func69 rfl ?_ (.inr (ab.enc_fr _))
 repeat'(first|(conv=>whnf);first|refine C9 (BQ h.G d) ?_|refine CR (λ_=>rfl) (λ_=>rfl) p (by decide) ?_|refine CR (λ_=>rfl) (λ_=>rfl) q (by decide) ?_|refine CR (λ_=>rfl) (λ_=>rfl) r (by decide) ?_|refine CR (λ_=>rfl) (λ_=>rfl) t (by decide) ?_)
 (conv=>whnf)
 refine CH (ι:=Nat) (λi=>[(1,.H .box (U7 h (.s .U (h.S.map (a8.enc .U))))),(2,.H .box Ti),(3,.H .one ([.s .own ((h.S.take i).map (a8.enc .own))])),(4,.H .one [I ((i:Nat):Int)])]) (λi=>i<=h.S.length) (λi=>h.S.length - i) (0) ?_ (X0 _) λi y=>?_
 ·exact wB
 by_cases a:i<h.S.length
 ·have u:=ao a
  repeat'(first|refine gE ?_|(conv=>whnf);first|refine C9 (j9 (nth h.S i) (b.2 _ (am a))) ?_|refine Ap.sn (aT λ_=>rfl) rfl (by simp;omega) (by decide) (fj a) ?_)
  ((conv=>whnf);refine CG (i+1) ω ω ?_;(exact wB))
 obtain rfl:i=h.S.length:=ω
 rw[Y5]
 repeat'(first|refine gE ?_|(conv=>whnf);first|refine C9 (ge h.q l) ?_|refine C9 (sK h.a9 n) ?_|refine C9 (sH h.Z o) ?_)
 rfl
def zQ(h:ab)(c:ab.sml h):zzA 59 false [.val (some 24) (ab.enc .U h)] .agg (ab.enc .own h):=by
 obtain⟨d,e,g,j,k,b,l,n,o⟩:=c;have p:=g.1;have q:=j.1;have r:=k.1;have u:=b.1;refine fO 59 [(11,5,[38,39,40,41,42])] Tryz.func59 rfl ?_ (.inr (ab.enc_fr _))
 repeat'(first|refine gP ?_|(conv=>whnf);first|refine C9 (wq h.G d) ?_|refine C9 (wo h.w e) ?_|refine CR (λ_=>rfl) (λ_=>rfl) p (by decide) ?_|refine CR (λ_=>rfl) (λ_=>rfl) q (by decide) ?_|refine CR (λ_=>rfl) (λ_=>rfl) r (by decide) ?_)
 (conv=>whnf)
 refine CH (ι:=Nat) (λi=>[(1,.H .box (ab.enc .U h)),(2,.H .box Ti),(3,.H .box (U7 h (.s .own ((h.S.take i).map (a8.enc .own))))),(32,.H .one (fS .U h.S)),(33,.H .one [I (h.S.length)]),(34,.H .one [I ((i:Nat):Int)])]) (λi=>i<=h.S.length) (λi=>h.S.length - i) (0) ?_ (X0 _) λi w=>?_
 ·exact wB
 by_cases a:i<h.S.length
 ·have t:=ao a
  repeat'(first|refine gE ?_|(conv=>whnf);first|refine C9 (yU (nth h.S i) (b.2 _ (am a))) ?_|refine Ap.sn (aT λ_=>rfl) rfl (by simp;omega) (by decide) (fj a) ?_)
  ((conv=>whnf);refine CG (i+1) ω ω ?_;(exact wB))
 obtain rfl:i=h.S.length:=ω
 rw[Y5]
 repeat'(first|refine gE ?_|(conv=>whnf);first|refine C9 (zF h.q l) ?_|refine C9 (zw h.a9 n) ?_|refine C9 (DK h.Z o) ?_)
 rfl
def Ap.sm{r:List C}(h1:∀r∈rows,r.length=sz)(c:r.length=sz)(d:rows.length+1<=1073741824)(e:by_<=1000)(a:b=rows++[r])(f:K b):Ap false rows [r] sz by_ K:=
 CU h1 (λg a=>by rw[V1.1 a];exact c) (λh=>by cases h) (by simp;omega) (O5 (Nat.mul_le_mul (show rows.length+[r].length<=1073741824 by simpa using d) e) (by decide)) a f
def Mz(y:aB)(a:List aB)(r:aB)(out:List aB)(done:Bool):kN (y::a) r out done=if ovl y r then none
  else if y.At+y.b0=r.At then kN a ⟨y.At,y.b0+r.b0⟩ out done
  else if r.At+r.b0=y.At then kN a ⟨r.At,r.b0+y.b0⟩ out done
  else if y.At > r.At/\done=false then kN a r (out++[r,y]) true
  else kN a r (out++[y]) done:=by rw[kN]
def BN{pages:Int}{xs:List aB}(h:bC pages xs=true):pG xs/\∀y∈xs,0<=y.At/\1<=y.b0/\y.At+y.b0<=pages:=by
 unfold bC at h;simp only[I0,C0]at h;have b:∀i,i<xs.length->1<=(nth xs i).b0/\0<=(nth xs i).At/\(nth xs i).At<=pages - (nth xs i).b0:=λi a=>by
  have:=dI h.1 a;unfold gy rangeIn at this;simp only[I0,C0]at this;omega
 have d:∀i,i+1<xs.length->(nth xs i).At+(nth xs i).b0<(nth xs (i+1)).At:=λi a=>by
  have:=dI h.1 a;unfold gy at this;simp only[I0,C0]at this;have:=this.2.resolve_left ω;simpa using this
 have k:∀j i,i<j->j<xs.length->(nth xs i).At+(nth xs i).b0<(nth xs j).At:=λj=>by
  induction j with
  | zero=>intro i a;omega
  | succ j l=>
   intro i a c;have n:=d j c;by_cases e:i=j
   ·subst e;exact n
   have o:=l i ω ω;have p:=b j ω;omega
 refine⟨⟨?_,λy f=>?_⟩,λy f=>?_⟩
 ·rw[List.pairwise_iff_getElem]
  intro i j a c g;have:=k j i g c
  rwa [bm (W2 a),bm (W2 c)]at this
 ·obtain⟨i,a,rfl⟩:=aK f
  exact(b i a).1
 obtain⟨i,a,rfl⟩:=aK f;have:=b i a;omega
def jm[Inhabited α]{xs:List α}(a:i<xs.length):xs.drop i=nth xs i::xs.drop (i+1):=by
 rw[List.drop_eq_getElem_cons a,bm (W2 a)]
def dO(pages:Int)(xs:List aB)(r:aB):Option (List aB):=if bC pages xs=true/\rangeIn pages r=true then kN xs r [] false else none
def HS(xs:List aB)(o:Option (List aB)):List C:=bB .own (o.getD xs)++[B o.isSome]
def uO(xs:List aB)(o:Option (List aB)):iD (HS xs o):=bg (mA _) ⟨trivial,trivial⟩
end Go.Proofs.YtecefhjnejfheaaGreat.Ab
