/- Classes of sizes, the quarantine, used frames, pages of a frame, spans on a page: contracts, the reference's and the program's. No condition. -/
import Derived.Test.YtecefhjnejfheaaGreatKed
import Derived.Test.YtecefhjnejfheaaGreatKeShelf
import Derived.WalkKit
import Derived.Lib.SliceRun
set_option linter.unusedVariables false
set_option linter.unusedSimpArgs false
set_option linter.constructorNameAsVariable false
namespace Go.Proofs.YtecefhjnejfheaaGreat.Ab
open Go.RowKit
set_option maxRecDepth 20000
set_option maxHeartbeats 4000000
theorem uC(xs:List aN)(pr:aN->Bool)(g:xs.length<=9223372036854775807):ar Tryz.prog 541 false [.val none (cS .X xs),.fn (qa Tryz.prog (EH (some 3) (aN.enc .X) pr xs))] .one [I (dD pr xs)]:=by
 refine fO 19 [] Tryz.func541 rfl ?_
 repeat'(first|refine gO ?_|fail)
 (conv=>whnf)
 refine CE (ι:=Nat) (λi=>[(0,.H .one (cS .X xs)),(1,.fv (qa Tryz.prog (EH (some 3) (aN.enc .X) pr xs))),(7,.H .one [I xs.length]),(8,.H .one [I (i:Nat)])]) (λi=>i<=xs.length/\∀(j:Nat)(z:aN),j<i->xs[j]? = some z->pr z=false) (λi=>xs.length - i) 0 ?_ ⟨T0 _,λj z h=>ω⟩ λi d=>?_
 ·exact wB
 obtain⟨d,b⟩:=d;by_cases c:i<xs.length
 ·obtain⟨y,a⟩ : ∃y,xs[i]? = some y:=⟨_,W1 c⟩
  repeat'(first|refine gD ?_|(conv=>whnf);first|with_reducible refine CC (aa a) ?_|refine Fv.mk (k:=.one) (rcs:=[B (pr y)]) ⟨y,U1 a,rfl,rfl,rfl⟩ ?_|refine Bf.P (λe=>?_) (λe=>?_))
  ·exact U0 (λz=>[I z]) (ed a ‹_› b).symm
  (conv=>whnf)
  refine CD (i+1) ⟨ω,d4 a (by assumption) b⟩ ω ?_;exact wB
 repeat'(first|refine gD ?_|fail)
 exact U0 (λz=>[I z]) (gP ω b).symm
theorem qb(xs:List aN)(pr:aN->Bool)(a:xs.length<=9223372036854775807):ar Tryz.prog 491 false [.val none (cS .X xs),.fn (qa Tryz.prog (EH (some 3) (aN.enc .X) pr xs))] .one [B (xs.any pr)]:=by
 refine fO 9 [] Tryz.func491 rfl ?_
 repeat'(first|refine gO ?_|(conv=>whnf);first|refine C7 (uC xs pr a) ?_)
 exact U0 (λz=>[B z]) (lL pr xs)
theorem wn(xs:List ax)(pr:ax->Bool)(g:xs.length<=9223372036854775807):ar Tryz.prog 252 false [.val none (cz .X xs),.fn (qa Tryz.prog (EH (some 3) (ax.enc .X) pr xs))] .one [I (dD pr xs)]:=by
 refine fO 19 [] Tryz.func252 rfl ?_
 repeat'(first|refine gO ?_|fail)
 (conv=>whnf)
 refine CE (ι:=Nat) (λi=>[(0,.H .one (cz .X xs)),(1,.fv (qa Tryz.prog (EH (some 3) (ax.enc .X) pr xs))),(7,.H .one [I xs.length]),(8,.H .one [I (i:Nat)])]) (λi=>i<=xs.length/\∀(j:Nat)(z:ax),j<i->xs[j]? = some z->pr z=false) (λi=>xs.length - i) 0 ?_ ⟨T0 _,λj z h=>ω⟩ λi d=>?_
 ·exact wB
 obtain⟨d,b⟩:=d;by_cases c:i<xs.length
 ·obtain⟨y,a⟩ : ∃y,xs[i]? = some y:=⟨_,W1 c⟩
  repeat'(first|refine gD ?_|(conv=>whnf);first|with_reducible refine CC (aa a) ?_|refine Fv.mk (k:=.one) (rcs:=[B (pr y)]) ⟨y,U1 a,rfl,rfl,rfl⟩ ?_|refine Bf.P (λe=>?_) (λe=>?_))
  ·exact U0 (λz=>[I z]) (ed a ‹_› b).symm
  (conv=>whnf)
  refine CD (i+1) ⟨ω,d4 a (by assumption) b⟩ ω ?_;exact wB
 repeat'(first|refine gD ?_|fail)
 exact U0 (λz=>[I z]) (gP ω b).symm
theorem ya(xs:List br)(pr:br->Bool)(g:xs.length<=9223372036854775807):ar Tryz.prog 85 false [.val none (lE .X xs),.fn (qa Tryz.prog (EH (some 4) (br.enc .X) pr xs))] .one [I (dD pr xs)]:=by
 refine fO 19 [] Tryz.func85 rfl ?_
 repeat'(first|refine gO ?_|fail)
 (conv=>whnf)
 refine CE (ι:=Nat) (λi=>[(0,.H .one (lE .X xs)),(1,.fv (qa Tryz.prog (EH (some 4) (br.enc .X) pr xs))),(7,.H .one [I xs.length]),(8,.H .one [I (i:Nat)])]) (λi=>i<=xs.length/\∀(j:Nat)(z:br),j<i->xs[j]? = some z->pr z=false) (λi=>xs.length - i) 0 ?_ ⟨T0 _,λj z h=>ω⟩ λi d=>?_
 ·exact wB
 obtain⟨d,b⟩:=d;by_cases c:i<xs.length
 ·obtain⟨y,a⟩ : ∃y,xs[i]? = some y:=⟨_,W1 c⟩
  repeat'(first|refine gD ?_|(conv=>whnf);first|with_reducible refine CC (aa a) ?_|refine Fv.mk (k:=.one) (rcs:=[B (pr y)]) ⟨y,U1 a,rfl,rfl,rfl⟩ ?_|refine Bf.P (λe=>?_) (λe=>?_))
  ·exact U0 (λz=>[I z]) (ed a ‹_› b).symm
  (conv=>whnf)
  refine CD (i+1) ⟨ω,d4 a (by assumption) b⟩ ω ?_;exact wB
 repeat'(first|refine gD ?_|fail)
 exact U0 (λz=>[I z]) (gP ω b).symm
theorem te(xs:List br)(pr:br->Bool)(a:xs.length<=9223372036854775807):ar Tryz.prog 247 false [.val none (lE .X xs),.fn (qa Tryz.prog (EH (some 4) (br.enc .X) pr xs))] .one [B (xs.any pr)]:=by
 refine fO 9 [] Tryz.func247 rfl ?_
 repeat'(first|refine gO ?_|(conv=>whnf);first|refine C7 (ya xs pr a) ?_)
 exact U0 (λz=>[B z]) (lL pr xs)
theorem Np{k:Nat}(a:k<=3):IntKind.i64.wrap (1*2 ^ min ((k:Nat):Int).toNat IntKind.i64.bits)=csz (k:Nat):=by
 obtain rfl|rfl|rfl|rfl:k=0\/k=1\/k=2\/k=3:=ω
 all_goals decide
theorem Ni{k:Nat}(a:k<=100):IntKind.u64.wrap (k:Nat)=(k:Nat):=by
 unfold IntKind.wrap;simp[IntKind.signed,IntKind.bits];omega
theorem Bg{k:Nat}{z:Int}(a:k<=3)(h:csz (k:Nat)<z)(b:z<=8):k<=2:=by
 have c:csz ((3:Nat):Int)=8:=by decide
 obtain rfl|rfl|rfl|rfl:k=0\/k=1\/k=2\/k=3:=ω
 all_goals omega
theorem xg{k:Nat}{z:Int}(g:k<=3)(h1:1<=z)(a:k=0\/csz ((k - 1:Nat):Int)<z)(b:¬csz (k:Nat)<z):aI z=(k:Nat):=by
 have c:csz ((0:Nat):Int)=1:=by decide
 have d:csz ((1:Nat):Int)=2:=by decide
 have e:csz ((2:Nat):Int)=4:=by decide
 have f:csz ((3:Nat):Int)=8:=by decide
 unfold aI;obtain rfl|rfl|rfl|rfl:k=0\/k=1\/k=2\/k=3:=ω
 all_goals simp only[Nat.reduceSub,c,d,e,f]at a b
 all_goals(repeat' split)<;>omega
theorem jZ(z:Int):ar Tryz.prog 235 false [.val none [I z]] .one [I (aI z)]:=by
 refine fO 15 [] Tryz.func235 rfl ?_;by_cases c:1<=z/\z<=8
 ·repeat'(first|refine gD ?_|(conv=>whnf);first|with_reducible refine Bf.D (λb=>?_) (λb=>?_)|refine C7 (aF z 1 8) ?_)
  (conv=>whnf)
  refine CE (ι:=Nat) (λk=>[(0,.H .one [I (z)]),(3,.H .one [I ((k:Nat):Int)])]) (λk=>k<=3/\(k=0\/csz ((k - 1:Nat):Int)<z)) (λk=>4 - k) (0) ?_ (⟨ω,.inl rfl⟩) λk a=>?_
  ·exact wB
  obtain⟨a,d⟩:=a
  repeat'(first|refine gO ?_|(conv=>whnf);first|with_reducible refine Bf.D (λb=>?_) (λb=>?_)|refine CL (Ni ω) ?_|refine CL (Np a) ?_|refine CN ω ?_)
  all_goals first
   | exact U0 (λz=>[I z]) (xg a c.1 d (by assumption)).symm
   | ((conv=>whnf);refine CD (k+1) ⟨by have:=Bg a (by assumption) c.2;omega,.inr (by simpa using (by assumption:csz (k:Nat)<z))⟩ (by have:=Bg a (by assumption) c.2;omega) ?_;(exact wB))
 repeat'(first|refine gD ?_|(conv=>whnf);first|with_reducible refine Bf.D (λb=>?_) (λb=>?_)|refine C7 (aF z 1 8) ?_)
 all_goals exact U0 (λz=>[I z]) (by unfold aI;(repeat' split)<;>omega)
theorem An(z:Int):ar Tryz.prog 61 false [.val none [I z]] .one [I (aI z)]:=by
 refine fO 14 [] Tryz.func61 rfl ?_;by_cases c:1<=z/\z<=8
 ·repeat'(first|refine gD ?_|(conv=>whnf);first|with_reducible refine Bf.D (λa=>?_) (λa=>?_)|refine C7 (aO z 1 8) ?_)
  (conv=>whnf)
  refine CE (ι:=Nat) (λk=>[(0,.H .one [I (z)]),(3,.H .one [I ((k:Nat):Int)])]) (λk=>k<=3/\(k=0\/csz ((k - 1:Nat):Int)<z)) (λk=>4 - k) (0) ?_ (⟨ω,.inl rfl⟩) λk b=>?_
  ·exact wB
  obtain⟨b,d⟩:=b
  repeat'(first|refine gO ?_|(conv=>whnf);first|with_reducible refine Bf.D (λa=>?_) (λa=>?_)|refine C7 (fp _) ?_)
  all_goals first
   | exact U0 (λz=>[I z]) (xg b c.1 d (by assumption)).symm
   | ((conv=>whnf);refine CD (k+1) ⟨by have:=Bg b (by assumption) c.2;omega,.inr (by simpa using (by assumption:csz (k:Nat)<z))⟩ (by have:=Bg b (by assumption) c.2;omega) ?_;(exact wB))
 repeat'(first|refine gD ?_|(conv=>whnf);first|with_reducible refine Bf.D (λa=>?_) (λa=>?_)|refine C7 (aO z 1 8) ?_)
 all_goals exact U0 (λz=>[I z]) (by unfold aI;(repeat' split)<;>omega)
theorem rm(q:bQ)(a:Int)(e:bQ.sml q):ar Tryz.prog 373 false [.val (some 2) (bQ.enc .X q),.val none [I a]] .one [B (q.a5.any (eA a))]:=by
 have j:q.a5.length<=1048576:=e.1;refine fO 21 [] Tryz.func373 rfl ?_
 repeat'(first|refine gO ?_|fail)
 (conv=>whnf)
 refine CE (ι:=Nat) (λi=>[(1,.H .one [I (a)]),(2,.H .box (bQ.enc .X q)),(5,.H .one [I ((i:Nat):Int)])]) (λi=>i<=q.a5.length/\(q.a5.take i).any (eA a)=false) (λi=>q.a5.length - i) (0) ?_ (⟨T0 _,rfl⟩) λi c=>?_
 ·exact wB
 obtain⟨c,d⟩:=c;by_cases g:i<q.a5.length
 ·have b:=ao g
  repeat'(first|refine gD ?_|(conv=>whnf);first|with_reducible (first|refine CC (aa b) ?_|refine Bf.E (λh=>?_) (λh=>?_)))
  all_goals first
   | exact U0 (λz=>[B z]) ((AX b (O0 (by assumption))).symm)
   | ((conv=>whnf);refine CD (i+1) ⟨ω,vh b d (R0 (by assumption))⟩ ω ?_;(exact wB))
 repeat'(first|refine gD ?_|fail)
 exact U0 (λz=>[B z]) ((G5 ω d).symm)
theorem iE(xs:List aN)(i:Nat):quarCells xs (i+1)=quarCells xs i+csz (nth xs i).b:=rfl
theorem KW(k:Int):0<=csz k/\csz k<=8:=by
 by_cases h:0<=k/\k<=3
 ·rcases bM h with e|e|e|e<;>rw[e]<;>decide
 unfold csz;rw[C8 h];decide
theorem tC(xs:List aN)(c:k6 xs):ar Tryz.prog 374 false [.val none (cS .X xs)] .one [I (quarCells xs xs.length)]:=by
 have g:=c.1;refine fO 20 [] Tryz.func374 rfl ?_
 repeat'(first|refine gO ?_|fail)
 (conv=>whnf)
 refine CE (ι:=Nat) (λi=>[(0,.H .one (cS .X xs)),(3,.H .one [I (quarCells xs i)]),(4,.H .one [I ((i:Nat):Int)])]) (λi=>i<=xs.length/\0<=quarCells xs i/\quarCells xs i<=8*i) (λi=>xs.length - i) (0) ?_ (⟨T0 _,by simp[quarCells],by simp[quarCells]⟩) λi b=>?_
 ·exact wB
 obtain⟨b,h,j⟩:=b;by_cases d:i<xs.length
 ·have e:=ao d
  have k:=KW (nth xs i).b;have a:=iE xs i
  repeat'(first|refine gD ?_|(conv=>whnf);first|with_reducible refine CC (aa e) ?_|refine C7 (dE _) ?_)
  ((conv=>whnf);refine CD (i+1) ⟨ω,ω,ω⟩ ω ?_)
  rw[a];exact wB
 repeat'(first|refine gD ?_|fail)
 obtain rfl:i=xs.length:=ω
 rfl
theorem vN(xs:List aN)(c:k6 xs):ar Tryz.prog 93 false [.val none (cS .X xs)] .one [I (quarCells xs xs.length)]:=by
 have g:=c.1;refine fO 19 [] Tryz.func93 rfl ?_
 repeat'(first|refine gO ?_|fail)
 (conv=>whnf)
 refine CE (ι:=Nat) (λi=>[(3,.H .one [I (quarCells xs i)]),(6,.H .one (cS .X xs)),(7,.H .one [I (xs.length)]),(8,.H .one [I ((i:Nat):Int)])]) (λi=>i<=xs.length/\0<=quarCells xs i/\quarCells xs i<=8*i) (λi=>xs.length - i) (0) ?_ (⟨T0 _,by simp[quarCells],by simp[quarCells]⟩) λi b=>?_
 ·exact wB
 obtain⟨b,h,j⟩:=b;by_cases d:i<xs.length
 ·have e:=ao d
  have k:=KW (nth xs i).b;have a:=iE xs i
  repeat'(first|refine gD ?_|(conv=>whnf);first|with_reducible refine CC (aa e) ?_|refine C7 (fp _) ?_)
  ((conv=>whnf);refine CD (i+1) ⟨ω,ω,ω⟩ ω ?_)
  rw[a];exact wB
 repeat'(first|refine gD ?_|fail)
 obtain rfl:i=xs.length:=ω
 rfl
theorem yD(a:aN):ar Tryz.prog 372 false [.val (some 3) (aN.enc .X a)] .one [B (decide (0<=a.b/\a.b<=3/\0<=a.Addr/\0<=a.b7))]:=by
 refine fO 16 [] Tryz.func372 rfl ?_
 repeat'(first|refine gO ?_|(conv=>whnf);first|with_reducible refine Bf.D (λb=>?_) (λb=>?_)|refine C7 (aF _ 0 3) ?_)
 all_goals exact U0 (λz=>[B z]) ((by first|(symm;exact R0 ω)|exact decide_eq_decide.2 ω))
theorem Kw{xs:List aN}(a:k6 xs)(i:Nat):k6 (xs.take i):=⟨by have:=a.1;rw[O1];omega,λ_ _=>trivial⟩
theorem oo(q:bQ)(a:bQ.sml q):ar Tryz.prog 228 false [.val (some 2) (bQ.enc .X q)] .one [B (fT q)]:=by
 have l:q.a5.length<=1048576:=a.1;refine fO 57 [(5,29,[17,18,19,20,21,22,23,24,25,26,27,28,29,30,31,32,33,34,35,36,37,38,39,40,41,42,43,44,45]),(7,11,[46,47,48,49,50,51,52,53,54,55,56])] Tryz.func228 rfl ?_
 repeat'(first|refine gO ?_|fail)
 (conv=>whnf)
 refine CE (ι:=Nat) (λi=>[(1,.H .box (bQ.enc .X q)),(3,.H .one [I ((i:Nat):Int)])]) (λi=>i<=q.a5.length/\cR i (kb q.a5)=true) (λi=>q.a5.length - i) 0 ?_ ⟨T0 _,rfl⟩ λi e=>?_
 ·exact wB
 obtain⟨e,g⟩:=e;by_cases b:i<q.a5.length
 ·have j:=ao b
  have h:=rm ⟨0,q.a5.take i⟩ (nth q.a5 i).Addr (Kw a i);cases c:(q.a5.take i).any (eA (nth q.a5 i).Addr)<;>rw[show(bQ.mk 0 (q.a5.take i)).a5.any (eA (nth q.a5 i).Addr)=_ from c]at h
  all_goals
   repeat'(first|refine gD ?_|(conv=>whnf);first|with_reducible (first|refine CC (aa j) ?_|refine Bf.D (λd=>?_) (λd=>?_))|refine C7 (yD _) ?_|refine CM ω (aa (fZ ω b)) ?_|refine CV i rfl (by simp;omega) (λr k=>by obtain⟨z,-,rfl⟩:=C4.1 k;rfl) (Y3 ..) ?_|refine C7 h ?_)
   all_goals first
    | exact U0 (λz=>[B z]) ((by symm;unfold fT;rw[cu b (by unfold kb;first|(rw[c];simp;done)|(rw[R0 ω];rfl))];rfl))
    | ((conv=>whnf);refine CD (i+1) ⟨ω,bN g (by unfold kb;rw[c,O0 ω];rfl)⟩ ω ?_;(exact wB))
 obtain rfl:i=q.a5.length:=ω
 repeat'(first|refine gD ?_|(conv=>whnf);first|with_reducible refine Bf.D (λd=>?_) (λd=>?_)|refine C7 (aF _ 0 500) ?_|refine C7 (tC q.a5 a) ?_)
 all_goals exact U0 (λz=>[B z]) ((by unfold fT;rw[g];simp only[Bool.true_and];first|(symm;exact R0 ω)|exact decide_eq_decide.2 ω))
theorem tF(b:aN)(a:Int):ar Tryz.prog 492 false [.val (some 3) (aN.enc .X b),.ptr [I a]] .one [B (eA a b)]:=by
 refine fO 8 [] Tryz.func492 rfl ?_
 repeat'(first|refine gO ?_|fail)
 exact U0 (λz=>[B z]) ((by unfold eA;rw[U4];simp))
theorem x7(xs:List aN)(a:Int)(b:xs.length<=9223372036854775807):ar Tryz.prog 392 false [.val none (cS .X xs),.val none [I a]] .one [B (xs.any (eA a))]:=by
 refine fO 8 [] Tryz.func392 rfl ?_
 repeat'(first|refine gO ?_|(conv=>whnf);first|refine Cq.mk (EH (some 3) (aN.enc .X) (eA a) xs) (tF default a).has (λL k rcs c=>?_) ?_|refine C7 (qb xs (eA a) b) ?_)
 ·obtain⟨y,-,rfl,rfl,rfl⟩:=c
  exact tF y a
 rfl
def oI(xs:List aN)(a:aN):Bool:=decide (0<=a.b/\a.b<=3/\0<=a.Addr/\0<=a.b7/\(xs.length=0\/(nth xs (xs.length - 1)).b7<=a.b7))&&!xs.any (eA a.Addr)
theorem AD(xs:List aN)(b:aN)(g:xs.length<=1048576):ar Tryz.prog 245 false [.val none (cS .X xs),.val (some 3) (aN.enc .X b)] .one [B (oI xs b)]:=by
 have c:=x7 xs b.Addr ω;cases d:xs.any (eA b.Addr)<;>rw[d]at c
 ·by_cases h:xs.length=0
  ·refine fO 40 [(3,15,[25,26,27,28,29,30,31,32,33,34,35,36,37,38,39])] Tryz.func245 rfl ?_
   repeat'(first|refine gO ?_|(conv=>whnf);first|with_reducible (first|refine Bf.D (λa=>?_) (λa=>?_)|refine Bf.E (λa=>?_) (λa=>?_))|refine C7 (fB _) ?_|refine C7 c ?_)
   all_goals first
    | exact U0 (λz=>[B z]) ((by unfold oI;rw[d,Bool.not_false,Bool.and_true];first|(symm;exact R0 ω)|(symm;exact O0 ω)|exact decide_eq_decide.2 ω))
    |(exfalso;omega)
    |trace_state
  have e:xs[((xs.length:Int) - 1).toNat]? = some (nth xs (xs.length - 1)):=by rw[show((xs.length:Int) - 1).toNat=xs.length - 1 by omega];exact ao ω
  refine fO 40 [(3,15,[25,26,27,28,29,30,31,32,33,34,35,36,37,38,39])] Tryz.func245 rfl ?_
  repeat'(first|refine gO ?_|(conv=>whnf);first|with_reducible (first|refine Bf.D (λa=>?_) (λa=>?_)|refine Bf.E (λa=>?_) (λa=>?_))|refine C7 (fB _) ?_|refine C7 c ?_|refine CM ω (aa e) ?_)
  all_goals first
   | exact U0 (λz=>[B z]) ((by unfold oI;rw[d,Bool.not_false,Bool.and_true];first|(symm;exact R0 ω)|(symm;exact O0 ω)|exact decide_eq_decide.2 ω))
   |(exfalso;omega)
   |trace_state
 refine fO 40 [(3,15,[25,26,27,28,29,30,31,32,33,34,35,36,37,38,39])] Tryz.func245 rfl ?_
 repeat'(first|refine gO ?_|(conv=>whnf);first|with_reducible refine Bf.D (λa=>?_) (λa=>?_)|refine C7 (fB _) ?_|refine C7 c ?_)
 all_goals exact U0 (λz=>[B z]) ((by unfold oI;rw[d];simp))
theorem FA{xs:List aN}{i:Nat}(d:i<xs.length):oI (xs.take i) (nth xs i)=kb xs i:=by
 unfold oI kb;have a:(xs.take i).length=i:=by rw[O1];omega
 rw[a]
 congr 1
 refine decide_eq_decide.2 ?_;by_cases b:i=0
 ·subst b;simp
 have c:nth (xs.take i) (i - 1)=nth xs (i - 1):=by
  have:=ao (xs:=xs) (i:=i - 1) ω;exact bc (by rw[List.getElem?_take_of_lt ω];exact this)
 rw[c]
theorem DZ(q:bQ)(d:bQ.sml q):ar Tryz.prog 76 false [.val (some 2) (bQ.enc .X q)] .one [B (fT q)]:=by
 have l:q.a5.length<=1048576:=d.1;refine fO 32 [(4,7,[13,14,15,16,17,18,19]),(7,11,[21,22,23,24,25,26,27,28,29,30,31])] Tryz.func76 rfl ?_
 repeat'(first|refine gO ?_|fail)
 (conv=>whnf)
 refine CE (ι:=Nat) (λi=>[(1,.H .box (bQ.enc .X q)),(6,.H .one (cS .X q.a5)),(7,.H .one [I (q.a5.length)]),(8,.H .one [I ((i:Nat):Int)])]) (λi=>i<=q.a5.length/\cR i (kb q.a5)=true) (λi=>q.a5.length - i) 0 ?_ ⟨T0 _,rfl⟩ λi e=>?_
 ·exact wB
 obtain⟨e,g⟩:=e;by_cases a:i<q.a5.length
 ·have h:=ao a
  have b:=AD (q.a5.take i) (nth q.a5 i) (by rw[O1];omega);rw[FA a]at b;cases c:kb q.a5 i<;>rw[c]at b
  all_goals
   repeat'(first|refine gD ?_|(conv=>whnf);first|with_reducible refine CC (aa h) ?_|refine CV i rfl (by simp;omega) (λr j=>by obtain⟨z,-,rfl⟩:=C4.1 j;rfl) (Y3 ..) ?_|refine C7 b ?_)
   all_goals first
    | exact U0 (λz=>[B z]) ((by symm;unfold fT;rw[cu a c];rfl))
    | ((conv=>whnf);refine CD (i+1) ⟨ω,bN g c⟩ ω ?_;(exact wB))
 obtain rfl:i=q.a5.length:=ω
 repeat'(first|refine gD ?_|(conv=>whnf);first|with_reducible refine Bf.D (λk=>?_) (λk=>?_)|refine C7 (aO _ 0 500) ?_|refine C7 (vN q.a5 d) ?_)
 all_goals exact U0 (λz=>[B z]) ((by unfold fT;rw[g];simp only[Bool.true_and];first|(symm;exact R0 ω)|exact decide_eq_decide.2 ω))
def xD(h:ab):Prop:=aH.sml h.G.F.R
theorem gY(h:ab)(p:Int)(a:xD h):ar Tryz.prog 369 false [.val (some 24) (ab.enc .X h),.val none [I p]] .one (aG .own (aP h p)):=by
 refine fO 23 [] Tryz.func369 rfl ?_ (.inr (bV _))
 repeat'((conv=>whnf);first|with_reducible (first|refine Lm ?_|refine Wm ω ?_|refine Bf.E (λb=>?_) (λb=>?_)|refine Bn ?_|refine iU.wk rfl ?_)|refine Bt ?_|refine Bu ?_|refine C7 (db h.G.F.R p a) ?_|refine C7 (gw h.G.F.R _ a) ?_)
 all_goals(unfold aP;first|rw[C9 (by assumption)]|rw[C8 (by assumption)])
 all_goals exact⟨rfl,trivial⟩
theorem uF(h:ab)(p:Int)(a:xD h):ar Tryz.prog 242 false [.val (some 24) (ab.enc .X h),.val none [I p]] .one (aG .own (aP h p)):=by
 refine fO 22 [] Tryz.func242 rfl ?_ (.inr (bV _))
 repeat'((conv=>whnf);first|with_reducible (first|refine Lm ?_|refine Wm ω ?_|refine Bf.E (λb=>?_) (λb=>?_)|refine Bn ?_|refine iU.wk rfl ?_)|refine Bt ?_|refine Bu ?_|refine C7 (iD h.G.F.R p a) ?_|refine C7 (qK h.G.F.R _ a) ?_)
 all_goals(unfold aP;first|rw[C9 (by assumption)]|rw[C8 (by assumption)])
 all_goals exact⟨rfl,trivial⟩
theorem Dd(k:ah)(p:Int)(a:aH.sml k.F.R):ar Tryz.prog 123 false [.val (some 5) (ah.enc .X k),.val none [I p]] .one [B (decide ((ac k.F.R p).j≠0))]:=by
 refine fO 12 [] Tryz.func123 rfl ?_
 repeat'(first|refine gO ?_|(conv=>whnf);first|refine C7 (iD k.F.R p a) ?_)
 exact U0 (λz=>[B z]) ((by rw[U4];simp))
theorem oh(z:Int):ar Tryz.prog 80 false [.val none [I z]] .one [B (decide (0<=z/\z<=1073741823))]:=by
 refine fO 5 [] Tryz.func80 rfl ?_
 repeat'(first|refine gO ?_|(conv=>whnf);first|refine C7 (aO z 0 1073741823) ?_)
 rfl
theorem jw(h:ab)(p:Int)(g:h.M.length<=1048576):ar Tryz.prog 234 false [.val (some 24) (ab.enc .X h),.val none [I p]] .one [I (gm h p)]:=by
 refine fO 22 [] Tryz.func234 rfl ?_
 repeat'(first|refine gO ?_|fail)
 (conv=>whnf)
 refine CE (ι:=Nat) (λi=>[(1,.H .one [I (p)]),(2,.H .box (ab.enc .X h)),(5,.H .one [I ((i:Nat):Int)])]) (λi=>i<=h.M.length/\∀(j:Nat)(z:ax),j<i->h.M[j]? = some z->jL p z=false) (λi=>h.M.length - i) (0) ?_ (⟨T0 _,λj z k=>ω⟩) λi c=>?_
 ·exact wB
 obtain⟨c,a⟩:=c;by_cases d:i<h.M.length
 ·have b:=ao d
  repeat'(first|refine gD ?_|(conv=>whnf);first|with_reducible (first|refine CC (aa b) ?_|refine Bf.E (λe=>?_) (λe=>?_)))
  all_goals first
   | exact U0 (λz=>[I z]) (ed b (O0 (by assumption)) a).symm
   | ((conv=>whnf);refine CD (i+1) ⟨ω,d4 b (R0 (by assumption)) a⟩ ω ?_;(exact wB))
 repeat'(first|refine gD ?_|fail)
 exact U0 (λz=>[I z]) (gP ω a).symm
theorem yz(s:ax)(p:Int):ar Tryz.prog 253 false [.val (some 3) (ax.enc .X s),.ptr [I p]] .one [B (jL p s)]:=by
 refine fO 8 [] Tryz.func253 rfl ?_
 repeat'(first|refine gO ?_|fail)
 exact U0 (λz=>[B z]) ((by unfold jL;rw[U4];simp))
theorem tY(h:ab)(p:Int)(b:h.M.length<=1048576):ar Tryz.prog 82 false [.val (some 24) (ab.enc .X h),.val none [I p]] .one [I (gm h p)]:=by
 refine fO 9 [] Tryz.func82 rfl ?_
 repeat'(first|refine gO ?_|(conv=>whnf);first|refine Cq.mk (EH (some 3) (ax.enc .X) (jL p) h.M) (yz default p).has (λL k rcs a=>?_) ?_|refine C7 (wn h.M (jL p) ω) ?_)
 ·obtain⟨y,-,rfl,rfl,rfl⟩:=a
  exact yz y p
 rfl
def flight1(m:aK)(i:Nat):List Int:=(m.U.take i).flatMap λl=>l.map (·.Addr)
def flight2(m:aK)(i:Nat):List Int:=(m.a0.take i).flatten
theorem mG{m:aK}{i:Nat}{l:List dl}(h:m.U[i]? = some l):flight1 m (i+1)=flight1 m i++l.map (·.Addr):=by
 unfold flight1;rw[I5,h,List.flatMap_append];simp
theorem mZ{m:aK}{i:Nat}{l:List Int}(h:m.a0[i]? = some l):flight2 m (i+1)=flight2 m i++l:=by
 unfold flight2;rw[I5,h,List.flatten_append];simp
theorem nO{m:aK}(h:bJ m=true):aL m=flight1 m m.U.length++flight2 m m.a0.length:=by
 unfold aL flight1 flight2;rw[C9 h,X4,X4]
theorem tT{m:aK}(h:bJ m=false):aL m=[]:=by
 unfold aL;rw[h];rfl
theorem mN{m:aK}(h:bJ m=true):1<=m.U.length/\m.U.length<=4/\m.a0.length=m.U.length:=by
 unfold bJ at h;simp only[I0,C0]at h;exact h.1.1
theorem BZ{l:List Int} : ∀r∈l.map (rI .X),r.length=1:=by
 intro r a;obtain⟨z,-,rfl⟩:=C4.1 a;rfl
theorem GX{l:List Int} : ∀r∈l.map (rI .X),aX r=true:=by
 intro r a;obtain⟨z,-,rfl⟩:=C4.1 a;rfl
theorem xT(m:aK)(j:aK.sml m):ar Tryz.prog 49 false [.val (some 2) (aK.enc .X m)] .one (aG .own (aL m)):=by
 have l:=kW m j;cases e:bJ m<;>rw[e]at l
 ·refine fO 56 [] Tryz.func49 rfl ?_ (.inr (bV _))
  repeat'((conv=>whnf);first|with_reducible (first|refine Lm ?_|refine Wm ω ?_|refine Bn ?_|refine iU.wk rfl ?_)|refine Bt ?_|refine Bu ?_|refine C7 l ?_)
  all_goals(rw[tT e];exact⟨rfl,trivial⟩)
 obtain⟨D,E,F⟩:=mN e;refine fO 56 [] Tryz.func49 rfl ?_ (.inr (bV _))
 repeat'(first|refine gO ?_|(conv=>whnf);first|refine C7 l ?_)
 (conv=>whnf)
 refine CE (ι:=Nat × List Int) (λi=>[(1,.H .box (aK.enc .X m)),(3,.H .one (aG .own i.2)),(4,.H .one [I ((i.1:Nat):Int)])]) (λi=>i.1<=m.U.length/\i.2=flight1 m i.1/\i.2.length<=1048576*i.1) (λi=>m.U.length - i.1) ((0,[])) ?_ (⟨T0 _,rfl,T0 _⟩) λi n=>?_
 ·exact wB
 obtain⟨i,S⟩:=i;obtain⟨n,o,t⟩:=n;simp only at n o t |-;by_cases q:i<m.U.length
 ·have g:=ao q
  have u:(nth m.U i).length<=1048576:=(j.1.2 _ (am q)).1
  repeat'(first|refine gD ?_|(conv=>whnf);first|with_reducible refine CC (aa g) ?_)
  (conv=>whnf)
  refine CE (ι:=Nat × List Int) (λk=>[(1,.H .box (aK.enc .X m)),(3,.H .one (aG .own k.2)),(4,.H .one [I ((i:Nat):Int)]),(5,.H .one [I ((k.1:Nat):Int)])]) (λk=>k.1<=(nth m.U i).length/\k.2=S++((nth m.U i).take k.1).map (·.Addr)) (λk=>(nth m.U i).length - k.1) ((0,S)) ?_ (⟨T0 _,by simp⟩) λk b=>?_
  ·exact wB
  obtain⟨k,c⟩:=k;obtain⟨b,a⟩:=b;simp only at b a |-;have w:c.length=S.length+k:=by rw[a,Z2,X0,O1];omega
  by_cases h:k<(nth m.U i).length
  ·have d:=ao h
   repeat'(first|refine gD ?_|(conv=>whnf);first|with_reducible (first|refine CC (aa g) ?_|refine CC (aa d) ?_)|refine CT cI (λr y=>by rw[C1.1 y];rfl) (by simp[aX,dU]) (by simp;omega) (by show _*8<=_;simp;omega) rfl ?_)
   ((conv=>whnf)
    refine CD (k+1,c++[(nth (nth m.U i) k).Addr]) ⟨(by simp only;omega),(by simp only;rw[a,I5,d,R5,O5];simp)⟩ (by simp only;omega) ?_
    (repeat'(first|exact trivial|rfl|exact CK rfl (CK (U0 (C.s dK.own) (by simp[rI])) trivial)|refine CK ?_ ?_)))
  obtain rfl:k=(nth m.U i).length:=ω
  rw[X4]at a
  repeat'(first|refine gD ?_|(conv=>whnf);first|with_reducible refine CC (aa g) ?_)
  ((conv=>whnf);refine CD (i+1,c) ⟨(by simp only;omega),(by simp only;rw[mG g,<-o,a]),(by simp only;omega)⟩ (by simp only;omega) ?_;(exact wB))
 obtain rfl:i=m.U.length:=ω
 repeat'(first|refine gD ?_|fail)
 (conv=>whnf)
 refine CE (ι:=Nat × List Int) (λk=>[(1,.H .box (aK.enc .X m)),(3,.H .one (aG .own k.2)),(6,.H .one [I ((k.1:Nat):Int)])]) (λk=>k.1<=m.a0.length/\k.2=S++flight2 m k.1/\k.2.length<=S.length+1048576*k.1) (λk=>m.a0.length - k.1) ((0,S)) ?_ (⟨T0 _,by simp[flight2],by simp⟩) λk b=>?_
 ·exact wB
 obtain⟨k,c⟩:=k;obtain⟨b,a,p⟩:=b;simp only at b a p |-;by_cases h:k<m.a0.length
 ·have d:=ao h
  have B:(nth m.a0 k).length<=1048576:=j.2.2 _ (am h)
  repeat'(first|refine gD ?_|(conv=>whnf);first|with_reducible refine CC (aa d) ?_|refine CT cI BZ (λ_=>GX) (by simp;omega) (by show _*8<=_;simp;omega) rfl ?_)
  ((conv=>whnf)
   refine CD (k+1,c++nth m.a0 k) ⟨(by simp only;omega),(by simp only;rw[mZ d,a,O5]),(by simp only;rw[Z2];omega)⟩ (by simp only;omega) ?_
   (repeat'(first|exact trivial|rfl|exact CK rfl (CK (U0 (C.s dK.own) (by simp[rI])) trivial)|refine CK ?_ ?_)))
 obtain rfl:k=m.a0.length:=ω
 repeat'(first|refine gD ?_|fail)
 rw[nO e,<-o,<-a];rfl
theorem yt(m:aK)(h:aK.sml m):ar Tryz.prog 96 false [.val (some 2) (aK.enc .X m)] .one (aG .own (aL m)):=by
 have j:=tQ m h;cases e:bJ m<;>rw[e]at j
 ·refine fO 46 [] Tryz.func96 rfl ?_ (.inr (bV _))
  repeat'((conv=>whnf);first|with_reducible (first|refine Lm ?_|refine Wm ω ?_|refine Bn ?_|refine iU.wk rfl ?_)|refine Bt ?_|refine Bu ?_|refine C7 j ?_)
  all_goals(rw[tT e];exact⟨rfl,trivial⟩)
 obtain⟨D,E,F⟩:=mN e;refine fO 46 [] Tryz.func96 rfl ?_ (.inr (bV _))
 repeat'(first|refine gO ?_|(conv=>whnf);first|refine C7 j ?_)
 (conv=>whnf)
 refine CE (ι:=Nat × List Int) (λi=>[(1,.H .box (aK.enc .X m)),(3,.H .one (aG .own i.2)),(15,.H .one (DG .X m.U)),(16,.H .one [I (m.U.length)]),(17,.H .one [I ((i.1:Nat):Int)])]) (λi=>i.1<=m.U.length/\i.2=flight1 m i.1/\i.2.length<=1048576*i.1) (λi=>m.U.length - i.1) ((0,[])) ?_ (⟨T0 _,rfl,T0 _⟩) λi l=>?_
 ·exact wB
 obtain⟨i,S⟩:=i;obtain⟨l,n,t⟩:=l;simp only at l n t |-;by_cases p:i<m.U.length
 ·have q:=ao p
  have u:(nth m.U i).length<=1048576:=(h.1.2 _ (am p)).1
  repeat'(first|refine gD ?_|(conv=>whnf);first|with_reducible refine CC (aa q) ?_)
  (conv=>whnf)
  refine CE (ι:=Nat × List Int) (λk=>[(1,.H .box (aK.enc .X m)),(3,.H .one (aG .own k.2)),(15,.H .one (DG .X m.U)),(16,.H .one [I (m.U.length)]),(17,.H .one [I ((i:Nat):Int)]),(21,.H .one (dd .X (nth m.U i))),(22,.H .one [I ((nth m.U i).length)]),(23,.H .one [I ((k.1:Nat):Int)])]) (λk=>k.1<=(nth m.U i).length/\k.2=S++((nth m.U i).take k.1).map (·.Addr)) (λk=>(nth m.U i).length - k.1) ((0,S)) ?_ (⟨T0 _,by simp⟩) λk b=>?_
  ·exact wB
  obtain⟨k,c⟩:=k;obtain⟨b,a⟩:=b;simp only at b a |-;have w:c.length=S.length+k:=by rw[a,Z2,X0,O1];omega
  by_cases g:k<(nth m.U i).length
  ·have d:=ao g
   repeat'(first|refine gD ?_|(conv=>whnf);first|with_reducible refine CC (aa d) ?_|refine CT cI (λr y=>by rw[C1.1 y];rfl) (by simp[aX,dU]) (by simp;omega) (by show _*8<=_;simp;omega) rfl ?_)
   ((conv=>whnf)
    refine CD (k+1,c++[(nth (nth m.U i) k).Addr]) ⟨(by simp only;omega),(by simp only;rw[a,I5,d,R5,O5];simp)⟩ (by simp only;omega) ?_
    (repeat'(first|exact trivial|rfl|exact CK rfl (CK (U0 (C.s dK.own) (by simp[rI])) trivial)|refine CK ?_ ?_)))
  obtain rfl:k=(nth m.U i).length:=ω
  rw[X4]at a
  repeat'(first|refine gD ?_|fail)
  ((conv=>whnf);refine CD (i+1,c) ⟨(by simp only;omega),(by simp only;rw[mG q,<-n,a]),(by simp only;omega)⟩ (by simp only;omega) ?_;(exact wB))
 obtain rfl:i=m.U.length:=ω
 repeat'(first|refine gD ?_|fail)
 (conv=>whnf)
 refine CE (ι:=Nat × List Int) (λk=>[(3,.H .one (aG .own k.2)),(35,.H .one (lH .X m.a0)),(36,.H .one [I (m.a0.length)]),(37,.H .one [I ((k.1:Nat):Int)])]) (λk=>k.1<=m.a0.length/\k.2=S++flight2 m k.1/\k.2.length<=S.length+1048576*k.1) (λk=>m.a0.length - k.1) ((0,S)) ?_ (⟨T0 _,by simp[flight2],by simp⟩) λk b=>?_
 ·exact wB
 obtain⟨k,c⟩:=k;obtain⟨b,a,o⟩:=b;simp only at b a o |-;by_cases g:k<m.a0.length
 ·have d:=ao g
  have B:(nth m.a0 k).length<=1048576:=h.2.2 _ (am g)
  repeat'(first|refine gD ?_|(conv=>whnf);first|with_reducible refine CC (aa d) ?_|refine CT cI BZ (λ_=>GX) (by simp;omega) (by show _*8<=_;simp;omega) rfl ?_)
  ((conv=>whnf)
   refine CD (k+1,c++nth m.a0 k) ⟨(by simp only;omega),(by simp only;rw[mZ d,a,O5]),(by simp only;rw[Z2];omega)⟩ (by simp only;omega) ?_
   (repeat'(first|exact trivial|rfl|exact CK rfl (CK (U0 (C.s dK.own) (by simp[rI])) trivial)|refine CK ?_ ?_)))
 obtain rfl:k=m.a0.length:=ω
 repeat'(first|refine gD ?_|fail)
 rw[nO e,<-n,<-a];rfl
def tbl(h:ab):aH:=h.G.F.R
def eM(h:ab):Nat:=h.G.F.R.J.length
def ve(xs:List ax)(i:Nat):Bool:=decide (i=0\/(nth xs (i - 1)).Q<(nth xs i).Q)
def vJ(xs:List a8)(i:Nat):Bool:=decide (i=0\/(nth xs (i - 1)).Q<(nth xs i).Q)
def xa(h:ab)(l:a8)(k:Nat):Bool:=decide ((aP h (l.Q+(k:Nat))).length=1)
def si(h:ab)(i:Nat):Bool:=vJ h.K i&&cR (nth h.K i).a2.toNat (xa h (nth h.K i))
def u9(h:ab)(p:Nat):Bool:=decide ((nth (tbl h).J p).j≠0↔(p:Int)∈pgs h.M h.K)&&(decide ((nth (tbl h).J p).j≠0) != h.q.any (pX (p:Nat)))
def pages0(h:ab):Bool:=((cR h.M.length (ve h.M)&&cR h.K.length (si h))&&(pgs h.M h.K).all λp=>decide (p<eM h))&&cR (eM h) (u9 h)
def l7(h:ab)(i:Nat)(q:Int):Bool:=decide (gm h q=(i:Nat)) || (decide (0<=gm h q)&&meshable (nth h.M i) (nth h.M (gm h q).toNat))
def uh(h:ab):Bool:=cR h.M.length λi=>(aP h (nth h.M i).Q).all (l7 h i)
def kD(h:ab)(i j:Nat):Bool:=decide ((ac (tbl h) (nth h.M i).Q).e≠(ac (tbl h) (nth h.M j).Q).e) || meshable (nth h.M i) (nth h.M j)
def np(h:ab):Bool:=cR h.M.length λi=>cR i (kD h i)
def eG(z:Int)(o:br):Bool:=decide (o.Id=z)
def iz(h:ab)(o:br):Bool:=
 let w:=denotes h.M h.K o.Addr
 decide (w.c5=0)&&((decide (w.b6=1)&&decide ((nth h.M w.c4.toNat).b=aI o.o)) || (decide (w.b6=3)&&decide ((nth h.K w.c4.toNat).o=o.o)))
def gx(a:Int)(h:ab)(i:Nat):Bool:=decide ((i=0\/(nth h.O (i - 1)).Addr<(nth h.O i).Addr)/\1<=(nth h.O i).Id/\(nth h.O i).Id<=a/\0<=(nth h.O i).a3/\(nth h.O i).a3<=h.T.length - 1)
def objAt(a:Int)(h:ab)(i:Nat):Bool:=(gx a h i&&!(h.O.take i).any (eG (nth h.O i).Id))&&iz h (nth h.O i)
def fe(h:ab):Bool:=cR h.O.length (objAt (IntKind.i64.wrap (h.a - 1)) h)
def dn(h:ab)(a c:Int):Bool:=
 let w:=denotes h.M h.K a
 (decide (w.b6=1)&&decide (w.c5=0))&&(decide (c<0) || decide ((nth h.M w.c4.toNat).b=c))
def rr(h:ab)(c:aE)(k:Nat):Bool:=(nth c.d k).all λa=>dn h a (k:Nat)
def eJ(h:ab)(c:aE):Bool:=cR c.d.length (rr h c)
def gT(h:ab)(x:aN):Bool:=dn h x.Addr x.b
def kh(h:ab)(a:Int):Bool:=dn h a (-1)
def cy(h:ab):List Int:=h.T.flatMap λc=>c.d.flatten
def gX(h:ab):Bool:=((h.T.all (eJ h))&&h.a6.a5.all (gT h))&&(aL h.w).all (kh h)
def holders(h:ab):List Int:=((h.O.map (·.Addr)++cy h)++h.a6.a5.map (·.Addr))++aL h.w
def jI(sp:List ax)(la:List a8)(a:Nat):Bool:=
 let w:=denotes sp la (a:Nat)
 decide (w.c5=0)&&(decide (w.b6=1) || decide (w.b6=3))
def ll(sp:List ax)(la:List a8)(n:Nat):List Int:=((List.range n).filter (jI sp la)).map λ(i:Nat)=>(i:Int)
def iA(sp:List ax)(la:List a8):List Int:=ll sp la 512
def iR(h:ab):Bool:=(gX h&&decide (holders h).Nodup)&&decide ((holders h).length=(iA h.M h.K).length)
def kS(h:ab):Bool:=h.a6.a5.all λx=>decide (x.b7<=h.b5)
def cg(h:ab):Bool:=decide (0<=h.c0/\h.c0<=1073741823/\0<=h.b5/\h.b5<=1000000/\0<=h.c3/\h.c3<=1000/\1<=h.a/\h.a<=1000000)
def tN(h:ab):Bool:=if h.u then(jx h.Y&&decide (0<=gm h h.Y.W.a4))&&decide (0<=gm h h.Y.W.a1) else qO h.Y
def l9(h:ab):Bool:=((a7 h.G&&b9 (eM h) h.q)&&bk h.M h.K)&&pages0 h
set_option maxHeartbeats 8000000
theorem du{sp:List ax}{la:List a8}(h:bk sp la=true):sp.all bg=true/\la.all bE=true/\(pgs sp la).Nodup:=by
 unfold bk at h;simp only[I0,C0]at h;exact⟨h.1.1,h.1.2,h.2⟩
theorem MU{α:Type}[Inhabited α]{xs:List α}{p:α->Bool}{i:Nat}(h:xs.all p=true)(a:i<xs.length):p (nth xs i)=true:=W3.1 h _ (am a)
theorem DA{h:ab}(h1:cR h.M.length (ve h.M)=false):pages0 h=false:=by unfold pages0;rw[h1];rfl
theorem q8{h:ab}(h1:cR h.K.length (si h)=false):pages0 h=false:=by unfold pages0;rw[h1];simp
theorem DH{h:ab}{p:Int}(h1:p∈pgs h.M h.K)(a:¬p<eM h):pages0 h=false:=by
 have:((pgs h.M h.K).all λp=>decide (p<eM h))=false:=List.all_eq_false.2 ⟨p,h1,by simpa using a⟩;unfold pages0;rw[this];simp
theorem DK{h:ab}(h1:cR (eM h) (u9 h)=false):pages0 h=false:=by unfold pages0;rw[h1];simp
theorem xy{h:ab}(h1:cR h.M.length (ve h.M)=true)(a:cR h.K.length (si h)=true)(b:∀p∈pgs h.M h.K,p<eM h)(c:cR (eM h) (u9 h)=true):pages0 h=true:=by
 have:((pgs h.M h.K).all λp=>decide (p<eM h))=true:=W3.2 λp d=>O0 (b p d)
 unfold pages0;rw[h1,a,c,this];rfl
theorem Km{h:ab}{i:Nat}(h1:vJ h.K i=false):si h i=false:=by unfold si;rw[h1];rfl
theorem L1{h:ab}{i k:Nat}(a:k<(nth h.K i).a2.toNat)(h1:xa h (nth h.K i) k=false):si h i=false:=by unfold si;rw[cu a h1];simp
theorem DU{h:ab}{i:Nat}(h1:vJ h.K i=true)(a:cR (nth h.K i).a2.toNat (xa h (nth h.K i))=true):si h i=true:=by unfold si;rw[h1,a];rfl
theorem gU(h:ab)(p:Int):(aP h p).length<=eM h:=by
 unfold aP;split
 ·simp
 exact qm ..
theorem tn{sp:List ax}{la:List a8}(h:bk sp la=true){i:Nat}{l:a8}(a:la[i]? = some l):1<=l.a2/\l.a2<=63/\0<=l.Q/\l.Q<=31:=
 aM (W3.1 (du h).2.1 l (U1 a))
theorem E4(h:ab)(G:d8 h.M)(H:d9 h.K)(l:xD h)(J:iT h.q)(n:bk h.M h.K=true):ar Tryz.prog 226 false [.val (some 24) (ab.enc .X h)] .one [B (pages0 h)]:=by
 have Z:=G.1;have hl2:=H.1;have hl3:eM h<=1048576:=l.1;have hl4:=J.1;refine fO 144 [(7,18,[28,29,30,31,32,33,34,35,36,37,38,39,40,41,42,43,44,45]),(13,18,[62,63,64,65,66,67,68,69,70,71,72,73,74,75,76,77,78,79])] Tryz.func226 rfl ?_
 repeat'(first|refine gO ?_|fail)
 (conv=>whnf)
 refine CE (ι:=Nat × List Int) (λi=>[(1,.H .box (ab.enc .X h)),(3,.H .box (aH.enc .X (tbl h))),(4,.H .one [I (eM h)]),(5,.H .one (aG .own i.2)),(6,.H .one [I ((i.1:Nat):Int)])]) (λi=>i.1<=h.M.length/\i.2=(h.M.take i.1).map (·.Q)/\cR i.1 (ve h.M)=true) (λi=>h.M.length - i.1) ((0,[])) ?_ (⟨T0 _,rfl,rfl⟩) λi K=>?_
 ·exact wB
 obtain⟨i,S⟩:=i;obtain⟨K,o,L⟩:=K;simp only at K o L |-;have hSl:S.length=i:=by rw[o,X0,O1];omega
 by_cases M:i<h.M.length
 ·have c:=ao M
  repeat'(first|refine gD ?_|(conv=>whnf);first|with_reducible (first|refine CC (aa c) ?_|refine Bf.D (λa=>?_) (λa=>?_))|refine CM ω (aa (fZ ω M)) ?_|refine CT cI (λr t=>by rw[C1.1 t];rfl) (by simp[aX,dU]) (by simp;omega) (by simp only[X0];exact yM (by simp;omega) (by decide)) rfl ?_)
  all_goals first
   | exact U0 (λz=>[B z]) ((DA (cu M (R0 ω))).symm)
   | ((conv=>whnf)
      refine CD (i+1,S++[(nth h.M i).Q]) ⟨(by simp only;omega),(by simp only;rw[o,I5,c];simp),bN L (O0 ω)⟩ (by simp only;omega) ?_
      (repeat'(first|exact trivial|rfl|exact CK rfl (CK (U0 (C.s dK.own) (by simp[rI])) trivial)|refine CK ?_ ?_)))
 obtain rfl:i=h.M.length:=ω
 rw[X4]at o
 repeat'(first|refine gD ?_|fail)
 (conv=>whnf)
 refine CE (ι:=Nat × List Int) (λk=>[(1,.H .box (ab.enc .X h)),(3,.H .box (aH.enc .X (tbl h))),(4,.H .one [I (eM h)]),(5,.H .one (aG .own k.2)),(7,.H .one [I ((k.1:Nat):Int)])]) (λk=>k.1<=h.K.length/\k.2=pgs h.M (h.K.take k.1)/\cR k.1 (si h)=true/\k.2.length<=1048576+64*k.1) (λk=>h.K.length - k.1) ((0,S)) ?_ (⟨T0 _,by rw[o];unfold pgs;simp,rfl,by simp only;omega⟩) λk O=>?_
 ·exact wB
 obtain⟨k,S2⟩:=k;obtain⟨O,b,Q,R⟩:=O;simp only at O b Q R |-;by_cases y:k<h.K.length
 ·have c:=ao y
  have hpg:=tn n c
  repeat'(first|refine gD ?_|(conv=>whnf);first|with_reducible (first|refine CC (aa c) ?_|refine Bf.D (λa=>?_) (λa=>?_))|refine CM ω (aa (fZ ω y)) ?_)
  all_goals first
   | exact U0 (λz=>[B z]) ((q8 (cu y (Km (R0 ω)))).symm)
   |have e:vJ h.K k=true:=O0 ω
    (conv=>whnf)
    refine CE (ι:=Nat × List Int) (λq=>[(1,.H .box (ab.enc .X h)),(3,.H .box (aH.enc .X (tbl h))),(4,.H .one [I (eM h)]),(5,.H .one (aG .own q.2)),(7,.H .one [I ((k:Nat):Int)]),(8,.H .one [I ((q.1:Nat):Int)])]) (λq=>q.1<=(nth h.K k).a2.toNat/\q.2=S2++lpgs (nth h.K k) q.1/\cR q.1 (xa h (nth h.K k))=true) (λq=>(nth h.K k).a2.toNat - q.1) ((0,S2)) ?_ (⟨T0 _,by simp[lpgs],rfl⟩) λq a=>?_
    ·exact wB
    obtain⟨q,T⟩:=q;obtain⟨U,d,g⟩:=a;simp only at U d g |-;have W:T.length=S2.length+q:=by rw[d,Z2,B7]
    by_cases E:q<(nth h.K k).a2.toNat
    ·have hfl:=gU h ((nth h.K k).Q+(q:Nat))
     repeat'(first|refine gD ?_|(conv=>whnf);first|with_reducible (first|refine CC (aa c) ?_|refine Bf.N (λa=>?_) (λa=>?_))|refine C7 (gY h _ l) ?_|refine CT cI (λr t=>by rw[C1.1 t];rfl) (by simp[aX,dU]) (by simp;omega) (by show _*8<=_;simp;omega) rfl ?_)
     all_goals first
      | exact U0 (λz=>[B z]) ((q8 (cu y (L1 E (R0 ω)))).symm)
      | ((conv=>whnf)
         refine CD (q+1,T++[(nth h.K k).Q+(q:Nat)]) ⟨(by simp only;omega),(by simp only;rw[d,ko,O5]),bN g (O0 ω)⟩ (by simp only;omega) ?_
         (repeat'(first|exact trivial|rfl|exact CK rfl (CK (U0 (C.s dK.own) (by simp[rI])) trivial)|refine CK ?_ ?_)))
    obtain rfl:q=(nth h.K k).a2.toNat:=ω
    repeat'(first|refine gD ?_|(conv=>whnf);first|with_reducible refine CC (aa c) ?_)
    ((conv=>whnf);refine CD (k+1,T) ⟨(by simp only;omega),(by simp only;rw[d,b,<-nS _ c]),bN Q (DU e g),(by simp only;omega)⟩ (by simp only;omega) ?_;(exact wB))
 obtain rfl:k=h.K.length:=ω
 rw[X4]at b
 repeat'(first|refine gD ?_|fail)
 (conv=>whnf)
 refine CE (ι:=Nat) (λq=>[(1,.H .box (ab.enc .X h)),(3,.H .box (aH.enc .X (tbl h))),(4,.H .one [I (eM h)]),(5,.H .one (aG .own S2)),(10,.H .one [I ((q:Nat):Int)])]) (λq=>q<=S2.length/\∀j,j<q->nth S2 j<eM h) (λq=>S2.length - q) (0) ?_ (⟨T0 _,λj F=>ω⟩) λq a=>?_
 ·exact wB
 obtain⟨a,g⟩:=a;by_cases E:q<S2.length
 ·have c:=ao E
  repeat'(first|refine gD ?_|(conv=>whnf);first|with_reducible (first|refine CC (aa c) ?_|refine Bf.D (λa=>?_) (λa=>?_))|refine CH rfl (aa c) rfl ?_)
  all_goals first
   | exact U0 (λz=>[B z]) ((DH (by rw[<-b];exact am E) ω).symm)
   | ((conv=>whnf);refine CD (q+1) ⟨ω,λj F=>by rcases Nat.lt_or_ge j q with V|V;exact g j V;(obtain rfl:j=q:=ω);omega⟩ ω ?_;(exact wB))
 have u:∀p∈pgs h.M h.K,p<eM h:=λp w=>by
  rw[<-b]at w;obtain⟨j,F⟩:=List.mem_iff_getElem?.1 w;have V:=(Z1.1 F).1;have:=g j ω
  rwa [bc F]at this
 repeat'(first|refine gD ?_|fail)
 (conv=>whnf)
 refine CE (ι:=Nat) (λp=>[(1,.H .box (ab.enc .X h)),(3,.H .box (aH.enc .X (tbl h))),(4,.H .one [I (eM h)]),(5,.H .one (aG .own S2)),(11,.H .one [I ((p:Nat):Int)])]) (λp=>p<=eM h/\cR p (u9 h)=true) (λp=>eM h - p) 0 ?_ ⟨T0 _,rfl⟩ λp w=>?_
 ·exact wB
 obtain⟨w,X⟩:=w;by_cases Y:p<eM h
 ·have c:=ao (xs:=(tbl h).J) Y
  have t:=xC h.q (p:Nat) ω
  repeat'(first|refine gD ?_|(conv=>whnf);first|with_reducible (first|refine CC (aa c) ?_|refine Bf.D (λa=>?_) (λa=>?_)|refine Bf.NB (λa=>?_) (λa=>?_))|refine CG (lS S2 _ ω) ⟨⟨rfl,eN _⟩,⟨rfl,rfl⟩,trivial⟩ ?_|refine C7 t ?_|refine Bf.P (λa=>?_) (λa=>?_))
  all_goals first
   | exact U0 (λz=>[B z]) ((DK (cu Y (by unfold u9;rw[<-b];grind))).symm)
   | ((conv=>whnf);refine CD (p+1) ⟨ω,bN X (by unfold u9;rw[<-b];grind)⟩ ω ?_;(exact wB))
 repeat'(first|refine gD ?_|fail)
 obtain rfl:p=eM h:=ω
 exact U0 (λz=>[B z]) ((xy L Q u X).symm)
set_option maxHeartbeats 8000000
theorem DY{z1 z2:Int}(h:z1=z2):N9 (I z1) (I z2):=by subst h;rfl
theorem GN{S:List Int}{p z:Int} : z∈ins S p↔z∈S\/z=p:=by
 unfold ins;split
 ·rename_i a
  exact⟨.inl,λh=>h.elim id λe=>e ▸ a⟩
 simp
theorem vG(S:List Int):(f7 S).map (·.1)=S:=by unfold f7;rw[List.map_map];simp[T5]
theorem lC{t:aH}{p:Nat}(a:p<t.J.length):ac t (p:Nat)=nth t.J p:=by
 unfold ac;rw[C9 ω];simp
theorem Ae(h:ab)(Q:d8 h.M)(R:d9 h.K)(l:xD h)(T:iT h.q)(G:bk h.M h.K=true):ar Tryz.prog 74 false [.val (some 24) (ab.enc .X h)] .one [B (pages0 h&&np h)]:=by
 have hl1:=Q.1;have hl2:=R.1;have hl3:eM h<=1048576:=l.1;have hl4:=T.1;have d:pages0 h=false->[B false]=[B (pages0 h&&np h)]:=λe=>by rw[e];rfl
 refine fO 177 [(4,14,[25,26,27,28,29,30,31,32,33,34,35,36,37,38]),(16,14,[60,61,62,63,64,65,66,67,68,69,70,71,72,73]),(28,18,[102,103,104,105,106,107,108,109,110,111,112,113,114,115,116,117,118,119]),(42,23,[152,153,154,155,156,157,158,159,160,161,162,163,164,165,166,167,168,169,170,171,172,173,174])] Tryz.func74 rfl ?_
 repeat'(first|refine gO ?_|fail)
 (conv=>whnf)
 refine CE (ι:=Nat) (λi=>[(1,.H .box (ab.enc .X h)),(18,.H .one (cz .X h.M)),(19,.H .one [I (h.M.length)]),(20,.H .one [I ((i:Nat):Int)])]) (λi=>i<=h.M.length/\cR i (ve h.M)=true) (λi=>h.M.length - i) 0 ?_ ⟨T0 _,rfl⟩ λi o=>?_
 ·exact wB
 obtain⟨o,H⟩:=o;by_cases F:i<h.M.length
 ·have g:=ao F
  repeat'(first|refine gD ?_|(conv=>whnf);first|with_reducible (first|refine CC (aa g) ?_|refine Bf.D (λa=>?_) (λa=>?_))|refine CM ω (aa (fZ ω F)) ?_)
  all_goals first
   |exact d (DA (cu F (R0 ω)))
   | ((conv=>whnf);refine CD (i+1) ⟨ω,bN H (O0 ω)⟩ ω ?_;(exact wB))
 obtain rfl:i=h.M.length:=ω
 repeat'(first|refine gD ?_|fail)
 (conv=>whnf)
 refine CE (ι:=Nat × List Int) (λi=>[(1,.H .box (ab.enc .X h)),(5,.H .one [.m (f7 i.2)]),(42,.H .one (cz .X h.M)),(43,.H .one [I (h.M.length)]),(44,.H .one [I ((i.1:Nat):Int)])]) (λi=>i.1<=h.M.length/\∀z,z∈i.2↔z∈(h.M.take i.1).map (·.Q)) (λi=>h.M.length - i.1) ((0,[])) ?_ (⟨T0 _,λz=>Iff.rfl⟩) λi o=>?_
 ·exact wB
 obtain⟨i,S⟩:=i;obtain⟨U,L⟩:=o;simp only at U L |-;by_cases li2:i<h.M.length
 ·have g:=ao li2
  repeat'(first|refine gD ?_|(conv=>whnf);first|with_reducible refine CC (aa g) ?_|refine Mu.mk (vE S _) ?_)
  ((conv=>whnf);refine CD (i+1,ins S (nth h.M i).Q) ⟨(by simp only;omega),λz=>by simp only[GN,L];rw[I5,g];simp⟩ (by simp only;omega) ?_;(exact wB))
 obtain rfl:i=h.M.length:=ω
 rw[X4]at L
 repeat'(first|refine gD ?_|fail)
 (conv=>whnf)
 refine CE (ι:=Nat × List Int) (λk=>[(1,.H .box (ab.enc .X h)),(5,.H .one [.m (f7 k.2)]),(53,.H .one (co .X h.K)),(54,.H .one [I (h.K.length)]),(55,.H .one [I ((k.1:Nat):Int)])]) (λk=>k.1<=h.K.length/\(∀z,z∈k.2↔z∈pgs h.M (h.K.take k.1))/\cR k.1 (si h)=true) (λk=>h.K.length - k.1) ((0,S)) ?_ (⟨T0 _,λz=>by simp only[L];unfold pgs;simp,rfl⟩) λk V=>?_
 ·exact wB
 obtain⟨k,S2⟩:=k;obtain⟨V,b,W⟩:=V;simp only at V b W |-;by_cases M:k<h.K.length
 ·have g:=ao M
  have hpg:=tn G g
  repeat'(first|refine gD ?_|(conv=>whnf);first|with_reducible (first|refine CC (aa g) ?_|refine Bf.D (λa=>?_) (λa=>?_))|refine CM ω (aa (fZ ω M)) ?_)
  all_goals first
   |exact d (q8 (cu M (Km (R0 ω))))
   |have u:vJ h.K k=true:=O0 ω
    (conv=>whnf)
    refine CE (ι:=Nat × List Int) (λq=>[(1,.H .box (ab.enc .X h)),(5,.H .one [.m (f7 q.2)]),(9,.H .box (a8.enc .X (nth h.K k))),(10,.H .one [I ((nth h.K k).Q+(q.1:Nat))]),(53,.H .one (co .X h.K)),(54,.H .one [I (h.K.length)]),(55,.H .one [I ((k:Nat):Int)])]) (λq=>q.1<=(nth h.K k).a2.toNat/\(∀z,z∈q.2↔z∈S2++lpgs (nth h.K k) q.1)/\cR q.1 (xa h (nth h.K k))=true) (λq=>(nth h.K k).a2.toNat - q.1) ((0,S2)) ?_ (⟨T0 _,λz=>by simp[lpgs],rfl⟩) λq a=>?_
    ·exact wB
    obtain⟨q,X⟩:=q;obtain⟨Y,w,Z⟩:=a;simp only at Y w Z |-;by_cases lq:q<(nth h.K k).a2.toNat
    ·have hfl:=gU h ((nth h.K k).Q+(q:Nat))
     repeat'(first|refine gD ?_|(conv=>whnf);first|with_reducible refine Bf.N (λa=>?_) (λa=>?_)|refine C7 (uF h _ l) ?_|refine Mu.mk (vE X _) ?_)
     all_goals first
      |exact d (q8 (cu M (L1 lq (R0 ω))))
      | ((conv=>whnf)
         refine CD (q+1,ins X ((nth h.K k).Q+(q:Nat))) ⟨(by simp only;omega),λz=>by simp only[GN,w];rw[ko];simp[or_assoc],bN Z (O0 ω)⟩ (by simp only;omega) ?_
         (repeat'(first|exact trivial|rfl|refine CK ?_ ?_|exact DY (by simp;omega))))
    obtain rfl:q=(nth h.K k).a2.toNat:=ω
    repeat'(first|refine gD ?_|fail)
    ((conv=>whnf);refine CD (k+1,X) ⟨(by simp only;omega),(λz=>by simp only[w];rw[nS _ g];simp[b]),bN W (DU u Z)⟩ (by simp only;omega) ?_;(exact wB))
 obtain rfl:k=h.K.length:=ω
 rw[X4]at b
 repeat'(first|refine gD ?_|fail)
 (conv=>whnf)
 refine CE (ι:=Nat) (λp=>[(1,.H .box (ab.enc .X h)),(5,.H .one [.m (f7 S2)]),(98,.H .one [I (eM h)]),(99,.H .one [I ((p:Nat):Int)])]) (λp=>p<=eM h/\cR p (u9 h)=true) (λp=>eM h - p) 0 ?_ ⟨T0 _,rfl⟩ λp O=>?_
 ·exact wB
 obtain⟨O,ap⟩:=O;by_cases lp:p<eM h
 ·have hr:=x9 h.q (p:Nat) ω
  have J:=Dd h.G (p:Nat) l;rw[lC lp]at J
  repeat'(first|refine gD ?_|(conv=>whnf);first|with_reducible (first|refine Bf.D (λa=>?_) (λa=>?_)|refine Bf.NB (λa=>?_) (λa=>?_))|refine C7 J ?_|refine Ml.mk (mM (p:Nat) S2) ?_|refine C7 hr ?_|refine Bf.P (λa=>?_) (λa=>?_))
  all_goals first
   |exact d (DK (cu lp (by unfold u9 tbl;have:=b (p:Nat);grind)))
   | ((conv=>whnf);refine CD (p+1) ⟨ω,bN ap (by unfold u9 tbl;have:=b (p:Nat);grind)⟩ ω ?_;(exact wB))
 obtain rfl:p=eM h:=ω
 repeat'(first|refine gD ?_|fail)
 have hpn:eM h=h.G.F.R.J.length:=rfl
 (conv=>whnf)
 refine CE (ι:=Option Int × List Int) (λt=>[(1,.H .box (ab.enc .X h)),(122,.H .one [.it t.1 t.2])]) (λt=>(∀z∈S2,z∈t.2\/z<eM h)/\∀z∈t.2,z∈S2) (λt=>t.2.length) ((none,(f7 S2).map (·.1))) ?_ (⟨λz n=>.inl (by rw[vG];exact n),λz n=>by rw[vG]at n;exact n⟩) λt ht=>?_
 ·exact wB
 obtain⟨cur,left⟩:=t;obtain⟨y,C⟩:=ht;simp only at y C |-
 repeat'(first|refine gO ?_|(conv=>whnf);first|with_reducible refine Bf.D (λa=>?_) (λa=>?_)|refine Nt.mk (λa=>?_) (λl1 k l2 a=>?_))
 rotate_left
 ·exact d (DH (p:=k) ((b k).1 (C k (by subst left;simp))) ω)
 ·((conv=>whnf);refine CD (some k,l1++l2) ⟨λz n=>by have c:=y z n;subst left;simp only[U2,List.mem_cons]at c |-;rcases c with(c|c|c)|c;exact .inl (.inl c);(subst c;exact .inr ω);exact .inl (.inr c);exact .inr c,λz n=>C z (by subst left;simp only[U2,List.mem_cons]at n |-;grind)⟩ (by subst left;simp) ?_;(exact wB))
 have K:∀p∈pgs h.M h.K,p<eM h:=λp O=>by
  have c:=y p ((b p).2 O);subst left;simpa using c
 have h0:pages0 h=true:=xy H W K ap;rw[h0,Bool.true_and]
 (conv=>whnf)
 refine CE (ι:=Nat) (λi=>[(1,.H .box (ab.enc .X h)),(136,.H .one (cz .X h.M)),(137,.H .one [I (h.M.length)]),(138,.H .one [I ((i:Nat):Int)])]) (λi=>i<=h.M.length/\cR i (λi=>cR i (kD h i))=true) (λi=>h.M.length - i) 0 ?_ ⟨T0 _,rfl⟩ λi o=>?_
 ·exact wB
 obtain⟨o,H⟩:=o;by_cases F:i<h.M.length
 ·have g:=ao F
  have htl:(h.M.take i).length=i:=by rw[O1];omega
  repeat'(first|refine gD ?_|(conv=>whnf);first|with_reducible refine CC (aa g) ?_|refine CV i rfl (by simp;omega) (λr hr=>by obtain⟨z,-,rfl⟩:=C4.1 hr;rfl) (Y3 ..) ?_)
  (conv=>whnf)
  refine CE (ι:=Nat) (λj=>[(1,.H .box (ab.enc .X h)),(14,.H .box (ax.enc .X (nth h.M i))),(136,.H .one (cz .X h.M)),(137,.H .one [I (h.M.length)]),(138,.H .one [I ((i:Nat):Int)]),(146,.H .one (cz .X (h.M.take i))),(147,.H .one [I ((h.M.take i).length)]),(148,.H .one [I ((j:Nat):Int)])]) (λj=>j<=(h.M.take i).length/\cR j (kD h i)=true) (λj=>(h.M.take i).length - j) 0 ?_ ⟨T0 _,rfl⟩ λj hj=>?_
  ·exact wB
  obtain⟨hj,aj⟩:=hj;by_cases lj:j<(h.M.take i).length
  ·have hy:=ao lj
   have he:nth (h.M.take i) j=nth h.M j:=bc (by rw[List.getElem?_take_of_lt ω];exact ao ω);rw[he]at hy;have J:=xY (nth h.M i) (nth h.M j);cases em:meshable (nth h.M i) (nth h.M j)<;>rw[em]at J
   all_goals
    repeat'(first|refine gD ?_|(conv=>whnf);first|with_reducible (first|refine CC (aa hy) ?_|refine Bf.E (λa=>?_) (λa=>?_))|refine C7 (iD (tbl h) _ l) ?_|refine C7 J ?_)
    all_goals first
     | exact U0 (λz=>[B z]) ((by symm;exact cu F (cu (i:=j) ω (by unfold kD;rw[em];grind))))
     | ((conv=>whnf);refine CD (j+1) ⟨ω,bN aj (by unfold kD;rw[em];grind)⟩ ω ?_;(exact wB))
  obtain rfl:j=(h.M.take i).length:=ω
  rw[htl]at aj
  repeat'(first|refine gD ?_|fail)
  ((conv=>whnf);refine CD (i+1) ⟨ω,bN H aj⟩ ω ?_;(exact wB))
 obtain rfl:i=h.M.length:=ω
 repeat'(first|refine gD ?_|fail)
 exact U0 (λz=>[B z]) ((by unfold np;rw[H]))
set_option maxHeartbeats 8000000
theorem oe{α:Type}[Inhabited α](pr:α->Bool)(xs:List α):dD pr xs = -1\/∃n,n<xs.length/\dD pr xs=(n:Nat)/\pr (nth xs n)=true:=by
 unfold dD;cases h:xs.findIdx? pr with
 | none=>exact .inl rfl
 | some i=>
  obtain⟨a,b,-⟩:=T6.1 h;exact .inr ⟨i,a,rfl,by rw[bc (W1 a)];exact b⟩
theorem Du{h:ab}{i k:Nat}(a:i<h.M.length)(b:k<(aP h (nth h.M i).Q).length)(c:l7 h i (nth (aP h (nth h.M i).Q) k)=false):uh h=false:=by
 unfold uh;exact cu a (eI (ao b) c)
theorem AR(h:ab)(j:d8 h.M)(c:xD h):ar Tryz.prog 227 false [.val (some 24) (ab.enc .X h)] .one [B (uh h)]:=by
 have l:=j.1;have G:eM h<=1048576:=c.1;refine fO 55 [(4,8,[14,15,16,17,18,19,20,21]),(8,6,[28,29,30,31,32,33]),(9,21,[34,35,36,37,38,39,40,41,42,43,44,45,46,47,48,49,50,51,52,53,54])] Tryz.func227 rfl ?_
 repeat'(first|refine gO ?_|fail)
 (conv=>whnf)
 refine CE (ι:=Nat) (λi=>[(1,.H .box (ab.enc .X h)),(3,.H .one [I ((i:Nat):Int)])]) (λi=>i<=h.M.length/\cR i (λi=>(aP h (nth h.M i).Q).all (l7 h i))=true) (λi=>h.M.length - i) 0 ?_ ⟨T0 _,rfl⟩ λi w=>?_
 ·exact wB
 obtain⟨w,y⟩:=w;by_cases o:i<h.M.length
 ·have q:=ao o
  have H:=gU h (nth h.M i).Q
  repeat'(first|refine gD ?_|(conv=>whnf);first|with_reducible refine CC (aa q) ?_|refine C7 (gY h _ c) ?_)
  (conv=>whnf)
  refine CE (ι:=Nat) (λk=>[(1,.H .box (ab.enc .X h)),(3,.H .one [I ((i:Nat):Int)]),(4,.H .one (aG .own (aP h (nth h.M i).Q))),(5,.H .one [I ((k:Nat):Int)])]) (λk=>k<=(aP h (nth h.M i).Q).length/\((aP h (nth h.M i).Q).take k).all (l7 h i)=true) (λk=>(aP h (nth h.M i).Q).length - k) (0) ?_ (⟨T0 _,rfl⟩) λk C=>?_
  ·exact wB
  obtain⟨C,E⟩:=C;by_cases r:k<(aP h (nth h.M i).Q).length
  ·have d:=ao r
   have a:=jw h (nth (aP h (nth h.M i).Q) k) l;rcases oe (jL (nth (aP h (nth h.M i).Q) k)) h.M with e|⟨n,J,e,-⟩
   ·rw[show gm h (nth (aP h (nth h.M i).Q) k) = -1 from e]at a
    have t:l7 h i (nth (aP h (nth h.M i).Q) k)=false:=by
     unfold l7;rw[show gm h (nth (aP h (nth h.M i).Q) k) = -1 from e,R0 ω,R0 ω];rfl
    repeat'(first|refine gD ?_|(conv=>whnf);first|with_reducible (first|refine CC (aa q) ?_|refine CC (aa d) ?_|refine Bf.D (λb=>?_) (λb=>?_)|refine Bf.N (λb=>?_) (λb=>?_))|refine CH rfl (aa d) rfl ?_|refine C7 a ?_)
    all_goals first
     | exact U0 (λz=>[B z]) ((Du o r t).symm)
     |(exfalso;omega)
   rw[show gm h (nth (aP h (nth h.M i).Q) k)=(n:Nat) from e]at a;have K:=ao J;have F:=lw (nth h.M i) (nth h.M n);have g:l7 h i (nth (aP h (nth h.M i).Q) k)=(decide ((n:Int)=(i:Nat)) || meshable (nth h.M i) (nth h.M n)):=by
    unfold l7;rw[show gm h (nth (aP h (nth h.M i).Q) k)=(n:Nat) from e,O0 (p:=(0:Int)<=(n:Nat)) ω];simp
   cases u:meshable (nth h.M i) (nth h.M n)<;>rw[u]at F
   all_goals
    repeat'(first|refine gD ?_|(conv=>whnf);first|with_reducible (first|refine CC (aa q) ?_|refine CC (aa K) ?_|refine CC (aa d) ?_|refine Bf.D (λb=>?_) (λb=>?_)|refine Bf.N (λb=>?_) (λb=>?_))|refine CH rfl (aa d) rfl ?_|refine C7 a ?_|refine C7 F ?_)
    all_goals first
     | exact U0 (λz=>[B z]) ((Du o r (by rw[g,u];grind)).symm)
     | ((conv=>whnf);refine CD (k+1) ⟨ω,cP d E (by rw[g,u];grind)⟩ ω ?_;(exact wB))
     |(exfalso;omega)
  repeat'(first|refine gD ?_|fail)
  ((conv=>whnf);refine CD (i+1) ⟨ω,bN y (gr ω E)⟩ ω ?_;(exact wB))
 obtain rfl:i=h.M.length:=ω
 repeat'(first|refine gD ?_|fail)
 exact U0 (λz=>[B z]) ((by unfold uh;rw[y]))
theorem Jw(j:cK)(b:cK.sml j):ar Tryz.prog 232 false [.val (some 5) (cK.enc .X j)] .one [B (qO j)]:=by
 have c:j.W.S.length<=1048576:=b;refine fO 30 [] Tryz.func232 rfl ?_
 repeat'(first|refine gO ?_|(conv=>whnf);first|with_reducible (first|refine Bf.E (λa=>?_) (λa=>?_)|refine Bf.D (λa=>?_) (λa=>?_)))
 all_goals exact U0 (λz=>[B z]) ((by unfold qO;first|(symm;exact R0 ω)|(rw[U4,beq_iff_eq,C0];omega)))
theorem mO(sp:List ax)(la:List a8)(a:Int):((denotes sp la a).b6=1->0<=(denotes sp la a).c4/\(denotes sp la a).c4.toNat<sp.length)/\((denotes sp la a).b6=3->0<=(denotes sp la a).c4/\(denotes sp la a).c4.toNat<la.length):=by
 unfold denotes;cases c:sp.findIdx? (cq · a) with
 | some i=>
  obtain⟨b,-⟩:=T6.1 c;simp only[nz];refine⟨λ_=>⟨ω,by simpa using b⟩,λe=>?_⟩;split at e<;>cases e
 | none=>
  cases d:la.findIdx? (bn · a) with
  | some i=>
   obtain⟨b,-⟩:=T6.1 d;exact⟨λe=>(by cases e),λ_=>⟨by simp,by simpa using b⟩⟩
  | none=>exact⟨λe=>(by cases e),λe=>(by cases e)⟩
theorem Gg(h:ab)(a c:Int)(d:d8 h.M)(e:d9 h.K)(b:bk h.M h.K=true)(k:mq a):ar Tryz.prog 377 false [.val (some 24) (ab.enc .X h),.val none [I a],.val none [I c]] .one [B (dn h a c)]:=by
 have j:=m0 h.M h.K a d e b k;obtain⟨g,-⟩:=mO h.M h.K a;unfold dn;generalize denotes h.M h.K a=w at j g |-;refine fO 37 [] Tryz.func377 rfl ?_
 repeat'(first|refine gO ?_|(conv=>whnf);first|with_reducible (first|refine Bf.D (λi=>?_) (λi=>?_)|refine Bf.E (λi=>?_) (λi=>?_))|refine C7 j ?_|refine CM (g (by assumption)).1 (aa (ao (g (by assumption)).2)) ?_)
 all_goals exact U0 (λz=>[B z]) ((by grind))
theorem z7(h:ab)(o:br)(w:iW)(a:denotes h.M h.K o.Addr=w):iz h o=(decide (w.c5=0)&&((decide (w.b6=1)&&decide ((nth h.M w.c4.toNat).b=aI o.o)) || (decide (w.b6=3)&&decide ((nth h.K w.c4.toNat).o=o.o)))):=by
 unfold iz;rw[a]
theorem iV{h:ab}{i:Nat}(a:i<h.O.length)(b:objAt (IntKind.i64.wrap (h.a - 1)) h i=false):fe h=false:=cu a b
theorem GL{a:Int}{h:ab}{i:Nat}(h1:gx a h i=false):objAt a h i=false:=by unfold objAt;rw[h1];rfl
theorem G6{a:Int}{h:ab}{i:Nat}(h1:(h.O.take i).any (eG (nth h.O i).Id)=true):objAt a h i=false:=by unfold objAt;rw[h1];simp
theorem Hc{a:Int}{h:ab}{i:Nat}(h1:iz h (nth h.O i)=false):objAt a h i=false:=by unfold objAt;rw[h1];simp
theorem y6{a:Int}{h:ab}{i:Nat}(h1:gx a h i=true)(b:(h.O.take i).any (eG (nth h.O i).Id)=false)(c:iz h (nth h.O i)=true):objAt a h i=true:=by unfold objAt;rw[h1,b,c];rfl
theorem Fo(h:ab)(l:d8 h.M)(n:d9 h.K)(g:bk h.M h.K=true)(K:h.O.length<=1048576)(L:h.T.length<=1048576)(H:∀o∈h.O,mq o.Addr):ar Tryz.prog 230 false [.val (some 24) (ab.enc .X h)] .one [B (fe h)]:=by
 refine fO 117 [(5,33,[21,22,23,24,25,26,27,28,29,30,31,32,33,34,35,36,37,38,39,40,41,42,43,44,45,46,47,48,49,50,51,52,53]),(10,9,[59,60,61,62,63,64,65,66,67]),(13,16,[75,76,77,78,79,80,81,82,83,84,85,86,87,88,89,90]),(14,15,[91,92,93,94,95,96,97,98,99,100,101,102,103,104,105])] Tryz.func230 rfl ?_
 repeat'(first|refine gO ?_|fail)
 (conv=>whnf)
 refine CE (ι:=Nat) (λi=>[(1,.H .box (ab.enc .X h)),(3,.H .one [I ((i:Nat):Int)])]) (λi=>i<=h.O.length/\cR i (objAt (IntKind.i64.wrap (h.a - 1)) h)=true) (λi=>h.O.length - i) 0 ?_ ⟨T0 _,rfl⟩ λi t=>?_
 ·exact wB
 obtain⟨t,u⟩:=t;by_cases e:i<h.O.length
 ·have y:=ao e
  have C:=m0 h.M h.K (nth h.O i).Addr l n g (H _ (am e));obtain⟨p,q⟩:=mO h.M h.K (nth h.O i).Addr;have b:=z7 h (nth h.O i) _ rfl;generalize denotes h.M h.K (nth h.O i).Addr=w at C p q b;by_cases c:gx (IntKind.i64.wrap (h.a - 1)) h i=true
  ·have a:=c
   unfold gx at a;rw[C0]at a
   repeat'(first|refine gD ?_|(conv=>whnf);first|with_reducible (first|refine CC (aa y) ?_|refine Bf.D (λd=>?_) (λd=>?_))|refine CM ω (aa (fZ ω e)) ?_|refine C7 (aF _ _ _) ?_|refine CL rfl ?_)
   all_goals
    (conv=>whnf)
    refine CE (ι:=Nat) (λk=>[(1,.H .box (ab.enc .X h)),(3,.H .one [I ((i:Nat):Int)]),(4,.H .box (br.enc .X (nth h.O i))),(5,.H .one [I ((k:Nat):Int)])]) (λk=>k<=i/\(h.O.take k).any (eG (nth h.O i).Id)=false) (λk=>i - k) (0) ?_ (⟨T0 _,rfl⟩) λk F=>?_
    ·exact wB
    obtain⟨F,G⟩:=F;by_cases J:k<i
    ·have r:=ao (xs:=h.O) (i:=k) ω
     repeat'(first|refine gD ?_|(conv=>whnf);first|with_reducible (first|refine CC (aa r) ?_|refine Bf.E (λd=>?_) (λd=>?_)))
     all_goals first
      | exact U0 (λz=>[B z]) ((iV e (G6 (AX (i:=k) (by rw[List.getElem?_take_of_lt J];exact r) (O0 (by assumption))))).symm)
      | ((conv=>whnf);refine CD (k+1) ⟨ω,vh r G (R0 (by assumption))⟩ ω ?_;(exact wB))
    obtain rfl:k=i:=ω
    repeat'(first|refine gD ?_|(conv=>whnf);first|with_reducible (first|refine Bf.D (λd=>?_) (λd=>?_)|refine Bf.E (λd=>?_) (λd=>?_)|refine Bf.N (λd=>?_) (λd=>?_))|refine C7 C ?_|refine CM (p (by assumption)).1 (aa (ao (p (by assumption)).2)) ?_|refine CM (q (by assumption)).1 (aa (ao (q (by assumption)).2)) ?_|refine C7 (jZ _) ?_)
    all_goals first
     | exact U0 (λz=>[B z]) ((iV e (Hc (by rw[b];grind))).symm)
     | ((conv=>whnf);refine CD (k+1) ⟨ω,bN u (y6 c G (by rw[b];grind))⟩ ω ?_;(exact wB))
     |(exfalso;omega)
  have j:gx (IntKind.i64.wrap (h.a - 1)) h i=false:=by simpa using c
  have a:=j;unfold gx at a;rw[T4]at a
  repeat'(first|refine gD ?_|(conv=>whnf);first|with_reducible (first|refine CC (aa y) ?_|refine Bf.D (λd=>?_) (λd=>?_))|refine CM ω (aa (fZ ω e)) ?_|refine C7 (aF _ _ _) ?_|refine CL rfl ?_)
  all_goals first
   | exact U0 (λz=>[B z]) ((iV e (GL j)).symm)
   |(exfalso;omega)
 obtain rfl:i=h.O.length:=ω
 repeat'(first|refine gD ?_|fail)
 exact U0 (λz=>[B z]) ((show true=fe h from u.symm))
theorem oJ(o a:br):ar Tryz.prog 248 false [.val (some 4) (br.enc .X o),.ptr (br.enc .X a)] .one [B (eG a.Id o)]:=by
 refine fO 9 [] Tryz.func248 rfl ?_
 repeat'(first|refine gO ?_|fail)
 exact U0 (λz=>[B z]) ((by unfold eG;rw[U4];simp))
theorem Ew(h:ab)(n:d8 h.M)(o:d9 h.K)(J:h.O.length<=1048576)(K:h.T.length<=1048576):ar Tryz.prog 78 false [.val (some 24) (ab.enc .X h)] .one [B (fe h)]:=by
 refine fO 105 [(4,33,[16,17,18,19,20,21,22,23,24,25,26,27,28,29,30,31,32,33,34,35,36,37,38,39,40,41,42,43,44,45,46,47,48]),(9,16,[62,63,64,65,66,67,68,69,70,71,72,73,74,75,76,77]),(10,15,[78,79,80,81,82,83,84,85,86,87,88,89,90,91,92])] Tryz.func78 rfl ?_
 repeat'(first|refine gO ?_|fail)
 (conv=>whnf)
 refine CE (ι:=Nat) (λi=>[(1,.H .box (ab.enc .X h)),(9,.H .one (lE .X h.O)),(10,.H .one [I (h.O.length)]),(11,.H .one [I ((i:Nat):Int)])]) (λi=>i<=h.O.length/\cR i (objAt (IntKind.i64.wrap (h.a - 1)) h)=true) (λi=>h.O.length - i) 0 ?_ ⟨T0 _,rfl⟩ λi F=>?_
 ·exact wB
 obtain⟨F,G⟩:=F;by_cases g:i<h.O.length
 ·have p:=ao g
  have H:=qJ h.M h.K (nth h.O i).Addr n o;obtain⟨q,t⟩:=mO h.M h.K (nth h.O i).Addr;have b:=z7 h (nth h.O i) _ rfl;generalize denotes h.M h.K (nth h.O i).Addr=w at H q t b;have j:=te (h.O.take i) (eG (nth h.O i).Id) (by rw[O1];omega);by_cases c:gx (IntKind.i64.wrap (h.a - 1)) h i=true
  ·have a:=c
   unfold gx at a;rw[C0]at a;cases d:(h.O.take i).any (eG (nth h.O i).Id)<;>rw[d]at j
   ·repeat'(first|refine gD ?_|(conv=>whnf);first|with_reducible (first|refine CC (aa p) ?_|refine Bf.D (λe=>?_) (λe=>?_)|refine Bf.E (λe=>?_) (λe=>?_)|refine Bf.N (λe=>?_) (λe=>?_))|refine CM ω (aa (fZ ω g)) ?_|refine C7 (aO _ _ _) ?_|refine CV i rfl (by simp;omega) (λr u=>by obtain⟨z,-,rfl⟩:=C4.1 u;rfl) (Y3 ..) ?_|refine Cq.mk (EH (some 4) (br.enc .X) (eG (nth h.O i).Id) (h.O.take i)) (oJ default (nth h.O i)).has (λL k rcs C=>by obtain⟨y,-,rfl,rfl,rfl⟩:=C;exact oJ y (nth h.O i)) ?_|refine C7 j ?_|refine C7 H ?_|refine CM (q (by assumption)).1 (aa (ao (q (by assumption)).2)) ?_|refine CM (t (by assumption)).1 (aa (ao (t (by assumption)).2)) ?_|refine C7 (An _) ?_|refine CL rfl ?_)
    all_goals first
     | exact U0 (λz=>[B z]) ((iV g (Hc (by rw[b];grind))).symm)
     | ((conv=>whnf);refine CD (i+1) ⟨ω,bN G (y6 c d (by rw[b];grind))⟩ ω ?_;(exact wB))
     |(exfalso;omega)
   repeat'(first|refine gD ?_|(conv=>whnf);first|with_reducible (first|refine CC (aa p) ?_|refine Bf.D (λe=>?_) (λe=>?_))|refine CM ω (aa (fZ ω g)) ?_|refine C7 (aO _ _ _) ?_|refine CV i rfl (by simp;omega) (λr u=>by obtain⟨z,-,rfl⟩:=C4.1 u;rfl) (Y3 ..) ?_|refine Cq.mk (EH (some 4) (br.enc .X) (eG (nth h.O i).Id) (h.O.take i)) (oJ default (nth h.O i)).has (λL k rcs C=>by obtain⟨y,-,rfl,rfl,rfl⟩:=C;exact oJ y (nth h.O i)) ?_|refine C7 j ?_|refine CL rfl ?_)
   all_goals first
    | exact U0 (λz=>[B z]) ((iV g (G6 d)).symm)
    |(exfalso;omega)
  have l:gx (IntKind.i64.wrap (h.a - 1)) h i=false:=by simpa using c
  have a:=l;unfold gx at a;rw[T4]at a
  repeat'(first|refine gD ?_|(conv=>whnf);first|with_reducible (first|refine CC (aa p) ?_|refine Bf.D (λe=>?_) (λe=>?_))|refine CM ω (aa (fZ ω g)) ?_|refine C7 (aO _ _ _) ?_|refine CL rfl ?_)
  all_goals first
   | exact U0 (λz=>[B z]) ((iV g (GL l)).symm)
   |(exfalso;omega)
 obtain rfl:i=h.O.length:=ω
 repeat'(first|refine gD ?_|fail)
 exact U0 (λz=>[B z]) ((show true=fe h from G.symm))
set_option maxHeartbeats 8000000
theorem Ju{sp:List ax}{la:List a8}{n:Nat}(h:jI sp la n=true):ll sp la (n+1)=ll sp la n++[(n:Int)]:=by
 unfold ll;rw[List.range_succ,List.filter_append,R5];simp[h]
theorem Ms{sp:List ax}{la:List a8}{n:Nat}(h:jI sp la n=false):ll sp la (n+1)=ll sp la n:=by
 unfold ll;rw[List.range_succ,List.filter_append,R5];simp[h]
theorem zh(sp:List ax)(la:List a8)(n:Nat):(ll sp la n).length<=n:=by
 unfold ll;rw[X0];exact V4 (List.length_filter_le ..) (by simp)
theorem rF{sp:List ax}{la:List a8}{n:Nat}{w:iW}(a:denotes sp la (n:Nat)=w):jI sp la n=(decide (w.c5=0)&&(decide (w.b6=1) || decide (w.b6=3))):=by
 unfold jI;rw[a]
theorem Ph{n:Nat}(h:n<=1048576):mq (n:Nat):=⟨ω,ω⟩
theorem wU(sp:List ax)(la:List a8)(c:d8 sp)(d:d9 la)(a:bk sp la=true):ar Tryz.prog 378 false [.val none (cz .X sp),.val none (co .X la)] .one (aG .own (iA sp la)):=by
 have g:=lG sp la c d;rw[a]at g;refine fO 40 [] Tryz.func378 rfl ?_ (.inr (bV _))
 repeat'(first|refine gO ?_|fail)
 (conv=>whnf)
 refine CE (ι:=Nat) (λn=>[(0,.H .one (cz .X sp)),(1,.H .one (co .X la)),(5,.H .one (aG .own (ll sp la n))),(6,.H .one [I ((n:Nat):Int)])]) (λn=>n<=512) (λn=>512 - n) (0) ?_ (T0 _) λn o=>?_
 ·exact wB
 have i:=zh sp la n;by_cases p:n<512
 ·have h:=m0 sp la (n:Nat) c d a (Ph ω)
  generalize j:denotes sp la (n:Nat)=w at h;have e:=rF j
  repeat'(first|refine gD ?_|(conv=>whnf);first|with_reducible refine Bf.E (λk=>?_) (λk=>?_)|refine C7 g ?_|refine C7 h ?_|refine CT cI (λr l=>by rw[C1.1 l];rfl) (by simp[aX,dU]) (by simp;omega) (by simp only[X0];exact yM (by simp;omega) (by decide)) rfl ?_)
  all_goals first
   |(have b:jI sp la n=true:=by rw[e];grind
     (conv=>whnf)
     refine CD (n+1) ω ω ?_;rw[Ju b]
     (repeat'(first|exact trivial|rfl|exact CK rfl (CK (U0 (C.s dK.own) (by simp[rI])) trivial)|refine CK ?_ ?_)))
   |(have b:jI sp la n=false:=by rw[e];grind
     (conv=>whnf)
     refine CD (n+1) ω ω ?_;rw[Ms b]
     (exact wA))
 obtain rfl:n=512:=ω
 repeat'(first|refine gD ?_|(conv=>whnf);first|refine C7 g ?_)
 rfl
theorem wP(m:aK)(a:m.a0.length=m.U.length):∀i,i<=m.U.length->(((flight1 m i).length+(flight2 m i).length:Nat):Int)=bu m i
 | 0,_=>rfl
 | i+1,h=>by
  have d:=wP m a i ω;have b:=ao (xs:=m.U) (i:=i) ω;have c:=ao (xs:=m.a0) (i:=i) ω;rw[mG b,mZ c];simp only[Z2,X0];show _=bu m i+((nth m.U i).length+(nth m.a0 i).length);omega
theorem rz{m:aK}(h:bJ m=true):(aL m).length<=30:=by
 have a:=mN h;have b:=wP m a.2.2 m.U.length (W2 _);have c:bu m m.U.length<=30:=by
  unfold bJ at h;simp only[I0,C0]at h;exact h.2
 rw[nO h,Z2,a.2.2];omega
theorem DV{m:aK}(d:aK.wf m):∀a∈aL m,mq a:=by
 intro a b;unfold aL at b;split at b
 ·rcases U2.1 b with h|h
  ·obtain⟨l,c,h⟩:=List.mem_flatMap.1 h
   obtain⟨p,e,rfl⟩:=C4.1 h;exact((d.1.2 l c).2 p e).2
  obtain⟨l,c,h⟩:=List.mem_flatten.1 h;exact(d.2.2 l c).2 a h
 cases b
theorem Jq{h:ab}(h1:h.T.all (eJ h)=false):iR h=false:=by unfold iR gX;rw[h1];rfl
theorem Ja{h:ab}(h1:h.a6.a5.all (gT h)=false):iR h=false:=by unfold iR gX;rw[h1];simp
theorem HZ{h:ab}(h1:(aL h.w).all (kh h)=false):iR h=false:=by unfold iR gX;rw[h1];simp
theorem Ji{h:ab}{i:Nat}(a:i<(holders h).length)(b:nth (holders h) i∈(holders h).take i):iR h=false:=by
 have c:decide (holders h).Nodup=false:=Mp (S:=(holders h).take i) (p:=nth (holders h) i) (by
   have:=ao a;have e:(holders h).take i++[nth (holders h) i]=(holders h).take (i+1):=by rw[I5,this];rfl
   rw[e];exact List.take_prefix ..) b
 unfold iR;rw[c];simp
theorem tZ{h:ab}{i:Nat}{c:aE}(a:h.T[i]? = some c):((h.T.take (i+1)).flatMap λc=>c.d.flatten)=((h.T.take i).flatMap λc=>c.d.flatten)++c.d.flatten:=by
 rw[I5,a,List.flatMap_append];simp
theorem xi{c:aE}{k:Nat}{l:List Int}(a:c.d[k]? = some l):(c.d.take (k+1)).flatten=(c.d.take k).flatten++l:=by
 rw[I5,a,List.flatten_append];simp
theorem Gj(h:ab)(hs:ab.sml h)(hw:ab.wf h)(y:bk h.M h.K=true)(G:bJ h.w=true)(hco:∀c∈h.T,bw c=true):ar Tryz.prog 231 false [.val (some 24) (ab.enc .X h)] .one [B (iR h)]:=by
 obtain⟨-,-,N,O,hso,hsc,hsm,hsq,-⟩:=hs;obtain⟨-,-,-,-,-,hwc,hwm,hwq,-⟩:=hw;have hlo:h.O.length<=1048576:=hso.1;have hlc:h.T.length<=1048576:=hsc.1;have hlq:h.a6.a5.length<=1048576:=hsq.1;have hfl:=rz G;have hfw:=DV hwm;have H:∀a c,mq a->ar Tryz.prog 377 false [.val (some 24) (ab.enc .X h),.val none [I a],.val none [I c]] .one [B (dn h a c)]:=λa c ha=>Gg h a c N O y ha
 refine fO 159 [(16,8,[63,64,65,66,67,68,69,70]),(22,17,[86,87,88,89,90,91,92,93,94,95,96,97,98,99,100,101,102]),(29,7,[122,123,124,125,126,127,128]),(35,8,[142,143,144,145,146,147,148,149])] Tryz.func231 rfl ?_
 repeat'(first|refine gO ?_|fail)
 (conv=>whnf)
 refine CE (ι:=Nat × List Int) (λi=>[(1,.H .box (ab.enc .X h)),(3,.H .one (aG .own i.2)),(4,.H .one [I ((i.1:Nat):Int)])]) (λi=>i.1<=h.O.length/\i.2=(h.O.take i.1).map (·.Addr)) (λi=>h.O.length - i.1) ((0,[])) ?_ (⟨T0 _,rfl⟩) λi E=>?_
 ·exact wB
 obtain⟨i,S⟩:=i;obtain⟨E,M⟩:=E;simp only at E M |-;have hSl:S.length=i:=by rw[M,X0,O1];omega
 by_cases li:i<h.O.length
 ·have t:=ao li
  repeat'(first|refine gD ?_|(conv=>whnf);first|with_reducible refine CC (aa t) ?_|refine CT cI (λr u=>by rw[C1.1 u];rfl) (by simp[aX,dU]) (by simp;omega) (by simp only[X0];exact yM (by simp;omega) (by decide)) rfl ?_)
  ((conv=>whnf)
   refine CD (i+1,S++[(nth h.O i).Addr]) ⟨(by simp only;omega),(by simp only;rw[M,I5,t];simp)⟩ (by simp only;omega) ?_
   (repeat'(first|exact trivial|rfl|exact CK rfl (CK (U0 (C.s dK.own) (by simp[rI])) trivial)|refine CK ?_ ?_)))
 obtain rfl:i=h.O.length:=ω
 rw[X4]at M
 repeat'(first|refine gD ?_|fail)
 (conv=>whnf)
 refine CE (ι:=Nat × List Int) (λi=>[(1,.H .box (ab.enc .X h)),(3,.H .one (aG .own i.2)),(5,.H .one [I ((i.1:Nat):Int)])]) (λi=>i.1<=h.T.length/\i.2=S++((h.T.take i.1).flatMap λc=>c.d.flatten)/\(h.T.take i.1).all (eJ h)=true/\i.2.length<=1048576+32*i.1) (λi=>h.T.length - i.1) ((0,S)) ?_ (⟨T0 _,by simp,rfl,by simp only;omega⟩) λi E=>?_
 ·exact wB
 obtain⟨i,S2⟩:=i;obtain⟨hi2,n,U,P⟩:=E;simp only at hi2 n U P |-;by_cases li2:i<h.T.length
 ·have t:=ao li2
  obtain⟨h4,h8⟩:=tV (hco _ (am li2));have hwl:=hwc.2 _ (am li2)
  repeat'(first|refine gD ?_|(conv=>whnf);first|with_reducible refine CC (aa t) ?_)
  (conv=>whnf)
  refine CE (ι:=Nat × List Int) (λk=>[(1,.H .box (ab.enc .X h)),(3,.H .one (aG .own k.2)),(5,.H .one [I ((i:Nat):Int)]),(6,.H .one [I ((k.1:Nat):Int)])]) (λk=>k.1<=(nth h.T i).d.length/\k.2=S2++((nth h.T i).d.take k.1).flatten/\cR k.1 (rr h (nth h.T i))=true/\k.2.length<=S2.length+8*k.1) (λk=>(nth h.T i).d.length - k.1) ((0,S2)) ?_ (⟨T0 _,by simp,rfl,by simp⟩) λk hk=>?_
  ·exact wB
  obtain⟨k,V⟩:=k;obtain⟨hk,w,ak,hb3⟩:=hk;simp only at hk w ak hb3 |-;by_cases W:k<(nth h.T i).d.length
  ·have hy:=ao W
   have hl8:=h8 _ (am W);have hwa:=(hwl.2 _ (am W)).2
   repeat'(first|refine gD ?_|(conv=>whnf);first|with_reducible (first|refine CC (aa t) ?_|refine CC (aa hy) ?_))
   (conv=>whnf)
   refine CE (ι:=Nat × List Int) (λj=>[(1,.H .box (ab.enc .X h)),(3,.H .one (aG .own j.2)),(5,.H .one [I ((i:Nat):Int)]),(6,.H .one [I ((k:Nat):Int)]),(7,.H .one (aG .X (nth (nth h.T i).d k))),(8,.H .one [I ((j.1:Nat):Int)])]) (λj=>j.1<=(nth (nth h.T i).d k).length/\j.2=V++(nth (nth h.T i).d k).take j.1/\((nth (nth h.T i).d k).take j.1).all (λa=>dn h a (k:Nat))=true) (λj=>(nth (nth h.T i).d k).length - j.1) ((0,V)) ?_ (⟨T0 _,by simp,rfl⟩) λj hj=>?_
   ·exact wB
   obtain⟨j,S4⟩:=j;obtain⟨hj,o,X⟩:=hj;simp only at hj o X |-;have hl4:S4.length=V.length+j:=by rw[o,Z2,O1];omega
   by_cases Y:j<(nth (nth h.T i).d k).length
   ·have d:=ao Y
    have b:=H (nth (nth (nth h.T i).d k) j) (k:Nat) (hwa _ (am Y));cases p:dn h (nth (nth (nth h.T i).d k) j) (k:Nat)<;>rw[p]at b
    ·repeat'(first|refine gD ?_|(conv=>whnf);first|with_reducible refine CC (aa d) ?_|refine C7 b ?_)
     exact U0 (λz=>[B z]) ((Jq (eI t (by unfold eJ;exact cu W (eI d p)))).symm)
    repeat'(first|refine gD ?_|(conv=>whnf);first|with_reducible refine CC (aa d) ?_|refine C7 b ?_|refine CT cI (λr u=>by rw[C1.1 u];rfl) (by simp[aX,dU]) (by simp;omega) (by show _*8<=_;simp;omega) rfl ?_)
    ((conv=>whnf)
     refine CD (j+1,S4++[nth (nth (nth h.T i).d k) j]) ⟨(by simp only;omega),(by simp only;rw[o,I5,d,O5];rfl),cP d X p⟩ (by simp only;omega) ?_
     (repeat'(first|exact trivial|rfl|exact CK rfl (CK (U0 (C.s dK.own) (by simp[rI])) trivial)|refine CK ?_ ?_)))
   obtain rfl:j=(nth (nth h.T i).d k).length:=ω
   rw[X4]at o X
   repeat'(first|refine gD ?_|fail)
   ((conv=>whnf);refine CD (k+1,S4) ⟨(by simp only;omega),(by simp only;rw[o,w,xi hy,O5]),bN ak X,(by simp only;omega)⟩ (by simp only;omega) ?_;(exact wB))
  obtain rfl:k=(nth h.T i).d.length:=ω
  rw[X4]at w
  repeat'(first|refine gD ?_|(conv=>whnf);first|with_reducible refine CC (aa t) ?_)
  ((conv=>whnf);refine CD (i+1,V) ⟨(by simp only;omega),(by simp only;rw[w,n,tZ t,O5]),cP t U ak,(by simp only;omega)⟩ (by simp only;omega) ?_;(exact wB))
 obtain rfl:i=h.T.length:=ω
 rw[X4]at n U
 repeat'(first|refine gD ?_|fail)
 (conv=>whnf)
 refine CE (ι:=Nat × List Int) (λq=>[(1,.H .box (ab.enc .X h)),(3,.H .one (aG .own q.2)),(9,.H .one [I ((q.1:Nat):Int)])]) (λq=>q.1<=h.a6.a5.length/\q.2=S2++(h.a6.a5.take q.1).map (·.Addr)/\(h.a6.a5.take q.1).all (gT h)=true) (λq=>h.a6.a5.length - q.1) ((0,S2)) ?_ (⟨T0 _,by simp,rfl⟩) λq Q=>?_
 ·exact wB
 obtain⟨q,R⟩:=q;obtain⟨J,g,Z⟩:=Q;simp only at J g Z |-;have hl5:R.length=S2.length+q:=by rw[g,Z2,X0,O1];omega
 by_cases T:q<h.a6.a5.length
 ·have d:=ao T
  have b:=H (nth h.a6.a5 q).Addr (nth h.a6.a5 q).b (hwq.2.2 _ (am T)).1;cases p:dn h (nth h.a6.a5 q).Addr (nth h.a6.a5 q).b<;>rw[p]at b
  ·repeat'(first|refine gD ?_|(conv=>whnf);first|with_reducible refine CC (aa d) ?_|refine C7 b ?_)
   exact U0 (λz=>[B z]) ((Ja (eI d p)).symm)
  repeat'(first|refine gD ?_|(conv=>whnf);first|with_reducible refine CC (aa d) ?_|refine C7 b ?_|refine CT cI (λr u=>by rw[C1.1 u];rfl) (by simp[aX,dU]) (by simp;omega) (by show _*8<=_;simp;omega) rfl ?_)
  ((conv=>whnf)
   refine CD (q+1,R++[(nth h.a6.a5 q).Addr]) ⟨(by simp only;omega),(by simp only;rw[g,I5,d,R5,O5];rfl),cP d Z p⟩ (by simp only;omega) ?_
   (repeat'(first|exact trivial|rfl|exact CK rfl (CK (U0 (C.s dK.own) (by simp[rI])) trivial)|refine CK ?_ ?_)))
 obtain rfl:q=h.a6.a5.length:=ω
 rw[X4]at g Z
 repeat'(first|refine gD ?_|(conv=>whnf);first|refine C7 (xT h.w hsm) ?_)
 (conv=>whnf)
 refine CE (ι:=Nat × List Int) (λq=>[(1,.H .box (ab.enc .X h)),(3,.H .one (aG .own q.2)),(10,.H .one (aG .own (aL h.w))),(11,.H .one [I ((q.1:Nat):Int)])]) (λq=>q.1<=(aL h.w).length/\q.2=R++(aL h.w).take q.1/\((aL h.w).take q.1).all (kh h)=true) (λq=>(aL h.w).length - q.1) ((0,R)) ?_ (⟨T0 _,by simp,rfl⟩) λq Q=>?_
 ·exact wB
 obtain⟨q,e⟩:=q;obtain⟨J,l,aq6⟩:=Q;simp only at J l aq6 |-;have hl6:e.length=R.length+q:=by rw[l,Z2,O1];omega
 by_cases T:q<(aL h.w).length
 ·have d:=ao T
  have b:=H (nth (aL h.w) q) (-1) (hfw _ (am T));cases p:dn h (nth (aL h.w) q) (-1)<;>rw[p]at b
  ·repeat'(first|refine gD ?_|(conv=>whnf);first|with_reducible refine CC (aa d) ?_|refine CH rfl (aa d) rfl ?_|refine C7 b ?_)
   exact U0 (λz=>[B z]) ((HZ (eI d p)).symm)
  repeat'(first|refine gD ?_|(conv=>whnf);first|with_reducible refine CC (aa d) ?_|refine CH rfl (aa d) rfl ?_|refine C7 b ?_|refine CT cI (λr u=>by rw[C1.1 u];rfl) (by simp[aX,dU]) (by simp;omega) (by show _*8<=_;simp;omega) rfl ?_)
  ((conv=>whnf)
   refine CD (q+1,e++[nth (aL h.w) q]) ⟨(by simp only;omega),(by simp only;rw[l,I5,d,O5];rfl),cP d aq6 p⟩ (by simp only;omega) ?_
   (repeat'(first|exact trivial|rfl|exact CK rfl (CK (U0 (C.s dK.own) (by simp[rI])) trivial)|refine CK ?_ ?_)))
 obtain rfl:q=(aL h.w).length:=ω
 rw[X4]at l aq6;have F:e=holders h:=by rw[l,g,n,M];rfl
 have K:gX h=true:=by unfold gX;rw[U,Z,aq6];rfl
 have hbig:e.length<=100000000:=ω
 clear l g n M hSl hl5 P hl6
 repeat'(first|refine gD ?_|fail)
 (conv=>whnf)
 refine Lp.fz 3 (ι:=Nat) (λi=>[(1,.H .box (ab.enc .X h)),(3,.H .one (aG .X e)),(12,.H .one [I ((i:Nat):Int)])]) (λi=>i<=e.length/\(e.take i).Nodup) (λi=>e.length - i) 0 ?_ ⟨T0 _,by simp⟩ λi E=>?_
 ·(repeat'(first|exact trivial|rfl|exact CK rfl (show Lx (dP (aG .own e)) (aG .X e) by rw[eN];exact lM _)|refine CK ?_ ?_))
 obtain⟨E,L⟩:=E;by_cases Y:i<e.length
 ·have d:=ao Y
  have htl:(e.take i).length=i:=by rw[O1];omega
  repeat'(first|refine gD ?_|(conv=>whnf);first|with_reducible (first|refine CC (aa d) ?_|refine Bf.D (λQ=>?_) (λQ=>?_))|refine CV i rfl (by simp;omega) (λr u=>by obtain⟨z,-,rfl⟩:=C4.1 u;rfl) (Y3 ..) ?_|refine C7 (lS (e.take i) _ ω) ?_)
  all_goals first
   | exact U0 (λz=>[B z]) ((by rw[F]at *;exact(Ji (by assumption) (by assumption)).symm))
   | ((conv=>whnf);refine CD (i+1) ⟨ω,by rw[I5,d];exact ky L (by assumption)⟩ ω ?_;(exact wB))
 obtain rfl:i=e.length:=ω
 rw[X4]at L;have hlv:=zh h.M h.K 512
 repeat'(first|refine gD ?_|(conv=>whnf);first|refine C7 (wU h.M h.K N O y) ?_)
 exact U0 (λz=>[B z]) ((by unfold iR;rw[K,<-F,O0 L,Bool.true_and,Bool.true_and];rw[U4,beq_iff_eq,C0];unfold iA at *;omega))
set_option maxHeartbeats 8000000
def dw(h:ab):Bool:=(bJ h.w&&decide (h.T.length=h.w.U.length))&&fT h.a6
def dO(h:ab):Bool:=((((((l9 h&&uh h)&&dw h)&&kS h)&&h.T.all bw)&&cg h)&&(fe h&&iR h))&&tN h
theorem Et(h:ab)(hs:ab.sml h)(hw:ab.wf h):ar Tryz.prog 70 false [.val (some 24) (ab.enc .X h)] .one [B (dO h)]:=by
 have R:=hs;have S:=hw;obtain⟨w,y,b,l,T,C,E,F,G⟩:=hs;obtain⟨-,-,-,-,U,hwc,hwm,hwq,-⟩:=hw;have n:xD h:=w.1.2;have hpn:eM h<=1048576:=n.1;have V:h.O.length<=1048576:=T.1;have W:h.T.length<=1048576:=C.1;have hlq:h.a6.a5.length<=1048576:=F.1;have hlb:h.w.U.length<=1048576:=E.1.1;have d:=ly h.G w;have e:=l8 (eM h) h.q ⟨ω,ω⟩ y;have g:=lG h.M h.K b l;have r:=AR h b n;have H:=kW h.w E;have X:=oo h.a6 F;cases Y:a7 h.G<;>rw[Y]at d
 ·refine fO 150 [(8,10,[67,68,69,70,71,72,73,74,75,76])] Tryz.func70 rfl ?_
  repeat'(first|refine gO ?_|(conv=>whnf);first|with_reducible refine Bf.N (λa=>?_) (λa=>?_)|refine C7 d ?_)
  all_goals first
   | exact U0 (λz=>[B z]) ((by unfold dO l9;rw[Y];simp))
   |(exfalso;omega)
 cases Z:b9 (eM h) h.q<;>rw[Z]at e
 ·refine fO 150 [(8,10,[67,68,69,70,71,72,73,74,75,76])] Tryz.func70 rfl ?_
  repeat'(first|refine gO ?_|(conv=>whnf);first|with_reducible refine Bf.N (λa=>?_) (λa=>?_)|refine C7 d ?_|refine C7 e ?_)
  all_goals first
   | exact U0 (λz=>[B z]) ((by unfold dO l9;rw[Z];simp))
   |(exfalso;omega)
 cases u:bk h.M h.K<;>rw[u]at g
 ·refine fO 150 [(8,10,[67,68,69,70,71,72,73,74,75,76])] Tryz.func70 rfl ?_
  repeat'(first|refine gO ?_|(conv=>whnf);first|with_reducible refine Bf.N (λa=>?_) (λa=>?_)|refine C7 d ?_|refine C7 e ?_|refine C7 g ?_)
  all_goals first
   | exact U0 (λz=>[B z]) ((by unfold dO l9;rw[u];simp))
   |(exfalso;omega)
 have p:=E4 h b l n y u;cases e4:pages0 h<;>rw[e4]at p
 ·refine fO 150 [(8,10,[67,68,69,70,71,72,73,74,75,76])] Tryz.func70 rfl ?_
  repeat'(first|refine gO ?_|(conv=>whnf);first|with_reducible refine Bf.N (λa=>?_) (λa=>?_)|refine C7 d ?_|refine C7 e ?_|refine C7 g ?_|refine C7 p ?_)
  all_goals first
   | exact U0 (λz=>[B z]) ((by unfold dO l9;rw[e4];simp))
   |(exfalso;omega)
 cases e5:uh h<;>rw[e5]at r
 ·refine fO 150 [(8,10,[67,68,69,70,71,72,73,74,75,76])] Tryz.func70 rfl ?_
  repeat'(first|refine gO ?_|(conv=>whnf);first|with_reducible refine Bf.N (λa=>?_) (λa=>?_)|refine C7 d ?_|refine C7 e ?_|refine C7 g ?_|refine C7 p ?_|refine C7 r ?_)
  all_goals first
   | exact U0 (λz=>[B z]) ((by unfold dO ;rw[e5];simp))
   |(exfalso;omega)
 cases Q:bJ h.w<;>rw[Q]at H
 ·refine fO 150 [(8,10,[67,68,69,70,71,72,73,74,75,76])] Tryz.func70 rfl ?_
  repeat'(first|refine gO ?_|(conv=>whnf);first|with_reducible refine Bf.N (λa=>?_) (λa=>?_)|refine C7 d ?_|refine C7 e ?_|refine C7 g ?_|refine C7 p ?_|refine C7 r ?_|refine C7 H ?_)
  all_goals first
   | exact U0 (λz=>[B z]) ((by unfold dO dw;rw[Q];simp))
   |(exfalso;omega)
 by_cases J:h.T.length=h.w.U.length;rotate_left
 ·refine fO 150 [(8,10,[67,68,69,70,71,72,73,74,75,76])] Tryz.func70 rfl ?_
  repeat'(first|refine gO ?_|(conv=>whnf);first|with_reducible refine Bf.N (λa=>?_) (λa=>?_)|refine C7 d ?_|refine C7 e ?_|refine C7 g ?_|refine C7 p ?_|refine C7 r ?_|refine C7 H ?_)
  all_goals first
   | exact U0 (λz=>[B z]) ((by unfold dO dw;rw[R0 J];simp))
   |(exfalso;omega)
 cases e7:fT h.a6<;>rw[e7]at X
 ·refine fO 150 [(8,10,[67,68,69,70,71,72,73,74,75,76])] Tryz.func70 rfl ?_
  repeat'(first|refine gO ?_|(conv=>whnf);first|with_reducible refine Bf.N (λa=>?_) (λa=>?_)|refine C7 d ?_|refine C7 e ?_|refine C7 g ?_|refine C7 p ?_|refine C7 r ?_|refine C7 H ?_|refine C7 X ?_)
  all_goals first
   | exact U0 (λz=>[B z]) ((by unfold dO dw;rw[e7];simp))
   |(exfalso;omega)
 have K:l9 h=true:=by unfold l9;rw[Y,Z,u,e4];rfl
 have hmc:dw h=true:=by unfold dw;rw[Q,O0 J,e7];rfl
 refine fO 150 [(8,10,[67,68,69,70,71,72,73,74,75,76])] Tryz.func70 rfl ?_
 repeat'(first|refine gA ?_|(conv=>whnf);first|with_reducible refine Bf.N (λa=>?_) (λa=>?_)|refine C7 d ?_|refine C7 e ?_|refine C7 g ?_|refine C7 p ?_|refine C7 r ?_|refine C7 H ?_|refine C7 X ?_)
 all_goals try(exfalso;omega)
 (conv=>whnf)
 refine CE (ι:=Nat) (λi=>[(1,.H .box (ab.enc .X h)),(3,.H .one [I ((i:Nat):Int)])]) (λi=>i<=h.a6.a5.length/\(h.a6.a5.take i).all (λx=>decide (x.b7<=h.b5))=true) (λi=>h.a6.a5.length - i) (0) ?_ (⟨T0 _,rfl⟩) λi hi=>?_
 ·exact wB
 obtain⟨hi,ai⟩:=hi;by_cases li:i<h.a6.a5.length
 ·have j:=ao li
  repeat'(first|refine gD ?_|(conv=>whnf);first|with_reducible (first|refine CC (aa j) ?_|refine Bf.D (λa=>?_) (λa=>?_)))
  all_goals first
   | exact U0 (λz=>[B z]) ((by unfold dO kS;rw[eI j (R0 ω)];simp))
   | ((conv=>whnf);refine CD (i+1) ⟨ω,cP j ai (O0 ω)⟩ ω ?_;(exact wB))
 have hsi:kS h=true:=gr ω ai
 repeat'(first|refine gD ?_|fail)
 (conv=>whnf)
 refine CE (ι:=Nat) (λk=>[(1,.H .box (ab.enc .X h)),(4,.H .one [I ((k:Nat):Int)])]) (λk=>k<=h.T.length/\(h.T.take k).all bw=true) (λk=>h.T.length - k) (0) ?_ (⟨T0 _,rfl⟩) λk hk=>?_
 ·exact wB
 obtain⟨hk,ak⟩:=hk;by_cases lk:k<h.T.length
 ·have j:=ao lk
  have c8:=nh (nth h.T k) (C.2 _ (am lk));cases e8:bw (nth h.T k)<;>rw[e8]at c8
  ·repeat'(first|refine gD ?_|(conv=>whnf);first|with_reducible refine CC (aa j) ?_|refine C7 c8 ?_)
   exact U0 (λz=>[B z]) ((by unfold dO;rw[eI j e8];simp))
  repeat'(first|refine gD ?_|(conv=>whnf);first|with_reducible refine CC (aa j) ?_|refine C7 c8 ?_)
  ((conv=>whnf);refine CD (k+1) ⟨ω,cP j ak e8⟩ ω ?_;(exact wB))
 have L:h.T.all bw=true:=gr ω ak;have q:=Fo h b l u V W (λo ho=>(U.2 o ho).2.1);have c10:=Gj h R S u Q (W3.1 L);have c11:=Jw h.Y G;have c12:=vm h.Y G;have c13:=jw h h.Y.W.a4 b.1;have c14:=jw h h.Y.W.a1 b.1;by_cases hn:cg h=true;rotate_left
 ·have M:cg h=false:=by simpa using hn
  have c:=M;unfold cg at c;rw[T4]at c;cases O:fe h<;>rw[O]at q<;>cases e10:iR h<;>rw[e10]at c10
  all_goals
   repeat'(first|refine gD ?_|(conv=>whnf);first|with_reducible refine Bf.D (λa=>?_) (λa=>?_)|refine C7 (aF _ _ _) ?_|refine C7 q ?_|refine C7 c10 ?_)
   all_goals first
    | exact U0 (λz=>[B z]) ((by unfold dO;rw[M];simp))
    |(exfalso;omega)
 have c:=hn;unfold cg at c;rw[C0]at c;cases O:fe h<;>rw[O]at q
 ·repeat'(first|refine gD ?_|(conv=>whnf);first|with_reducible refine Bf.D (λa=>?_) (λa=>?_)|refine C7 (aF _ _ _) ?_|refine C7 q ?_)
  all_goals first
   | exact U0 (λz=>[B z]) ((by unfold dO;rw[O];simp))
   |(exfalso;omega)
 cases e10:iR h<;>rw[e10]at c10
 ·repeat'(first|refine gD ?_|(conv=>whnf);first|with_reducible refine Bf.D (λa=>?_) (λa=>?_)|refine C7 (aF _ _ _) ?_|refine C7 q ?_|refine C7 c10 ?_)
  all_goals first
   | exact U0 (λz=>[B z]) ((by unfold dO;rw[e10];simp))
   |(exfalso;omega)
 have P:dO h=tN h:=by unfold dO;rw[K,e5,hmc,hsi,L,hn,O,e10];rfl
 rw[P];unfold tN;cases em:h.u
 ·repeat'(first|refine gD ?_|(conv=>whnf);first|with_reducible refine Bf.D (λa=>?_) (λa=>?_)|refine C7 (aF _ _ _) ?_|refine C7 q ?_|refine C7 c10 ?_|refine C7 c11 ?_|refine Bf.f em ?_)
  all_goals first
   |rfl
   | exact U0 (λz=>[B z]) ((by simp;done))
   |(exfalso;omega)
 cases e12:jx h.Y<;>rw[e12]at c12
 all_goals
  repeat'(first|refine gD ?_|(conv=>whnf);first|with_reducible (first|refine Bf.D (λa=>?_) (λa=>?_)|refine Bf.D (λa=>?_) (λa=>?_))|refine C7 (aF _ _ _) ?_|refine C7 q ?_|refine C7 c10 ?_|refine C7 c12 ?_|refine C7 c13 ?_|refine C7 c14 ?_|refine Bf.t em ?_)
  all_goals first
   | exact U0 (λz=>[B z]) ((by grind))
   |(exfalso;omega)
def sorted(xs:List Int):List Int:=xs.mergeSort λx y=>decide (x<=y)
theorem vj(xs:List Int):(sorted xs).length=xs.length:=List.length_mergeSort ..
theorem Fa{w a:World}{g n:Nat}{d:Array Int}{f:Array Obj}{c:Array Value}{e:TypeId}{k:Nat × Nat}(l:w.heap[g]? = some (.cells c e k))(p:a=Sort.grow (Sort.putRow (Value.int .i64) (Sort.ahead w n) g 0 d) f) :
  a.os=w.os/\a.tape=w.tape/\a.output=w.output/\w.heap.size<=a.heap.size/\(∀b,b<w.heap.size->b≠g->a.heap[b]? = w.heap[b]?)/\a.heap[g]? = some (.cells (Sort.putCells (Value.int .i64) 0 d c) e k):=by
 subst p;have h:g<w.heap.size:=(I3.1 l).1;have o:∀b,b<w.heap.size->(Sort.grow (Sort.putRow (Value.int .i64) (Sort.ahead w n) g 0 d) f).heap[b]? = if g=b then(w.heap[b]?).map (Sort.onCells (Sort.putCells (Value.int .i64) 0 d)) else w.heap[b]?:=λb i=>by
  rw[Sort.heap_grow_old _ _ (by simpa[Sort.putRow,Sort.mapBlock,Sort.ahead] using i)];show(w.heap.modify g _)[b]? = _;rw[Array.getElem?_modify]
 refine⟨rfl,rfl,rfl,?_,λb i j=>?_,?_⟩
 ·show w.heap.size<=((w.heap.modify g _)++f).size
  simp
 ·rw[o b i,C8 λe=>j e.symm]
 rw[o g h,C9 rfl,l];rfl
theorem ML(d:Array Int)(c:Array Value)(q:Nat):(Sort.putCells (Value.int .i64) 0 d c)[q]? = if q<d.size then(c[q]?).map (λ_=>.int .i64 d[q]!) else c[q]?:=by
 unfold Sort.putCells;rw[Array.getElem?_mapIdx];by_cases h:q<d.size
 ·rw[C9 h]
  cases c[q]? with
  | none=>rfl
  | some y=>simp[h]
 rw[C8 h];cases c[q]? with
 | none=>rfl
 | some y=>simp[h]
theorem row1{w:World}{S Y:af}{c:C}{v:Value}(h:eD w S Y c v):cU w S Y [c] (λ_=>v):=by
 refine⟨λ_=>Y,λj e a=>?_,λ_ _ _ _ h=>h,λj f a b d=>?_⟩
 ·cases j with
  | zero=>simp at a;subst a;exact h
  | succ j=>simp at a
 simp at a b;omega
def Rf(Y:af):Nat->af
 | 0=>Y
 | _+1=>NO
theorem BQ(xs:List Int){j:Nat}(a:j<xs.length):xs.toArray[j]! = xs[j]:=by
 rw[getElem!_pos xs.toArray j (by simpa using a)];simp
theorem NP(xs:List Int)(hl:xs.length<=1048576*64):aS Tryz.prog 393 false [.mut none (aG .own xs)] [.mut none (aG .own (sorted xs))] (.tup []) []:=by
 refine⟨⟨_,Tryz.func393,by kernel_rfl,by kernel_rfl⟩,λw S V vs hS hV hVV hA=>?_⟩
 match vs,hA with
 | [v],⟨hA,_⟩=>
  have E:=bS.rep1 (show bS w S (V 0) none [C.s .own (xs.map (rI .own))] v from hA);generalize D:C.s .own (xs.map (rI .own))=cc at E;cases E with
  | nil _ o a ho=>
   cases R:xs with
   | cons x xs'=>rw[R]at D;cases D
   | nil=>
    refine(Tryz.slices_Sort_int_none a 0 w).mono λe d ⟨he,G⟩=>?_
    subst G;refine⟨.tuple #[],he,CY _ _,NO,λ_=>NO,NO,λ_ _ h=>h.elim,λ_ _ _ h=>h.elim,λ_ _ h=>h.elim,λ_ _ _ _ _ h=>h.elim,λ_ _ _ h=>h.elim,λ_ _ h=>h.elim,λ_ _ _ h=>h.elim,⟨#[],rfl,trivial,rfl⟩,cU.nil _ _ _ _,⟨⟨rfl,λ_=>.slice a 0 0,rfl,row1 (by rw[show sorted []=[] from List.mergeSort_nil ..];exact .nil _ .own _ trivial)⟩,trivial⟩⟩
  | own _ o g k n H rows u f ho O hk T U W hu hf hd hc=>
   cases D;have hnx:n=xs.length:=by rw[<-O,X0]
   have X:0<xs.length:=ω
   have hk1:k=1:=by
    have:=hk (rI .own xs[0]) (C4.2 ⟨_,List.getElem_mem X,rfl⟩);exact this.symm
   subst hk1 hnx;have t:∀j (y:j<xs.length),cel w g j=some (.int .i64 xs[j]):=λj y=>by
    have J:=hu j ω;have Y:=hc j 0 (rI .own xs[j]) (I xs[j]) (by rw[X2,W1 y];rfl) rfl;rw[Nat.mul_one,Nat.add_zero]at Y;rw[J];generalize u j=z at Y;cases Y
    rfl
   have hgs:g<w.heap.size:=(hV 0 g 0 (W 0 ω).1).1;obtain⟨c,e0,fr,hg,-⟩:=Sort.cells_of_cell? (t 0 X);have hH:Sort.Holds (Value.int .i64) w g 0 xs.toArray:=λj y=>by
    have Z:j<xs.length:=by simpa using y
    refine⟨?_,?_⟩
    ·rw[BQ xs Z,R6];exact t j Z
    rw[R6];exact U0 Prod.fst (W j ω).2.2
   refine(Tryz.slices_Sort_int g 0 H xs w hH hgs ω).mono λe d ⟨he,m,os,G⟩=>?_
   obtain⟨q1,q2,q3,q4,q5,q6⟩:=Fa hg G;have hsl:=vj xs;have B:∀q,cel w g q=c[q]?:=λq=>by show World.cell? w _=_;unfold World.cell?;simp[hg]
   have l:∀q,cel d g q=if q<xs.length then(c[q]?).map (λ_=>.int .i64 (sorted xs).toArray[q]!) else c[q]?:=λq=>by
    have J:=ML (sorted xs).toArray c q;have Y:(sorted xs).toArray.size=xs.length:=by simpa using hsl
    rw[Y]at J;rw[<-J];show World.cell? d _=_;unfold World.cell?;simp[q6,sorted]
   have p:∀q (P:q<xs.length),cel d g q=some (.int .i64 ((sorted xs)[q]'(ω))):=λq P=>by
    have J:=t q P;rw[B]at J;rw[l,C9 P,J,Y4,BQ (sorted xs) ω]
   have F:∀q,fro d g q=fro w g q:=λq=>by
    refine Prod.ext ?_ ?_
    ·show World.frozen? d _=World.frozen? w _
     unfold World.frozen?;simp[q6,hg]
    show mp d g=mp w g;unfold mp;rw[q6,hg];simp only[Sort.putCells,Array.size_mapIdx]
   have hother:∀b,b<w.heap.size->b≠g->∀o,cel d b o=cel w b o/\fro d b o=fro w b o:=λb K L o=>by
    have M:=q5 b K L;refine⟨?_,Prod.ext ?_ ?_⟩
    ·show World.cell? d _=World.cell? w _
     unfold World.cell?;simp only[M]
    ·show World.frozen? d _=World.frozen? w _
     unfold World.frozen?;simp only[M]
    show mp d b=mp w b;unfold mp;rw[M]
   have N:bP (λb o=>∃i,V i b o) w d:=by
    refine⟨q1,q2,q3,q4,λb K O=>q5 b K λe=>?_,λb o K O=>?_,λb o K O=>?_⟩
    ·subst e;exact O 0 ⟨0,(W 0 ω).1⟩
    ·by_cases e:b=g
     ·subst e
      have ho:¬o<xs.length:=λh=>O ⟨0,(W o ω).1⟩
      rw[l,C8 ho,B]
     exact(hother b K e o).1
    by_cases e:b=g
    ·subst e;exact F o
    exact(hother b K e o).2
   refine⟨.tuple #[],he,N,NO,Rf (V 0),NO,λ_ _ h=>h.elim,λi b o h=>?_,λ_ _ h=>h.elim,λi i' L b o h h'=>?_,λ_ _ _ h=>h.elim,λ_ _ h=>h.elim,λ_ _ _ _ h=>h.elim,⟨#[],rfl,trivial,rfl⟩,cU.nil _ _ _ _,⟨⟨rfl,λ_=>.slice (some ⟨g,0,none⟩) xs.length H,rfl,row1 ?_⟩,trivial⟩⟩
   ·cases i with
    | zero=>exact .inl ⟨0,h⟩
    | succ i=>exact h.elim
   ·cases i with
    | zero=>
     cases i' with
     | zero=>exact L rfl
     | succ i'=>exact h'.elim
    | succ i=>exact h.elim
   show eD d _ (V 0) _ _;refine .own _ .own g 1 xs.length H _ (λq=>(cel d g q).getD undef) (λ_=>NO) trivial (by rw[X0,hsl]) (λr hr=>by obtain⟨z,-,rfl⟩:=C4.1 hr;rfl) T U (λq P=>?_) (λq P=>?_) (λ_ _ _ _ h=>h.elim) (λ_ _ _ _ _ _ _ h=>h.elim) (λi j r c2 Q y=>?_)
   ·obtain⟨a1,⟨z,a2,a3⟩,a4⟩:=W q P
    refine⟨a1,?_,(F q).trans a4⟩;by_cases hqx:q<xs.length
    ·exact⟨_,p q hqx,rfl⟩
    rw[l,C8 hqx,<-B];exact⟨z,a2,a3⟩
   ·rw[p q ω];rfl
   rw[X2]at Q;have hil:i<(sorted xs).length:=by
    rcases Nat.lt_or_ge i (sorted xs).length with h|h
    ·exact h
    rw[C2 h]at Q;cases Q
   rw[W1 hil]at Q;simp only[Y4,W0]at Q;subst Q
   match j,y with
   | 0,y=>
    simp only[rI,List.getElem?_cons_zero,W0]at y;subst y;simp only[Nat.mul_one,Nat.add_zero,p i ω,Option.getD_some];exact .v _ _ rfl
   | j+1,y=>simp[rI]at y
  | _=>cases D
set_option maxHeartbeats 8000000
def k7(s:ax)(k:Nat):Int:=16*s.Q+(k:Nat)*csz s.b
def dS(s:ax)(n:Nat):List Int:=((List.range n).filter λk=>aR s.b1 (k:Nat)).map (k7 s)
theorem Bm{s:ax}{n:Nat}(h:aR s.b1 (n:Nat)=true):dS s (n+1)=dS s n++[k7 s n]:=by
 unfold dS;rw[List.range_succ,List.filter_append,R5];simp[h]
theorem BA{s:ax}{n:Nat}(h:aR s.b1 (n:Nat)=false):dS s (n+1)=dS s n:=by
 unfold dS;rw[List.range_succ,List.filter_append,R5];simp[h]
theorem qD(s:ax)(n:Nat):(dS s n).length<=n:=by
 unfold dS;rw[X0];exact V4 (List.length_filter_le ..) (by simp)
def fm(sp:List ax):List Int:=sp.flatMap λs=>dS s (slots s.b).toNat
def live0(sp:List ax)(la:List a8):List Int:=fm sp++la.map λl=>16*l.Q
def nu(sp:List ax)(la:List a8):List Int:=sorted (live0 sp la)
theorem rD(k:Int):0<=slots k/\slots k<=16:=by
 unfold slots;(repeat' split)<;>decide
theorem zz{k:Int}(h:0<=k/\k<=3):slots k*csz k=16:=by
 obtain rfl|rfl|rfl|rfl:k=0\/k=1\/k=2\/k=3:=ω
 all_goals decide
theorem vg{sp:List ax}{i:Nat}{s:ax}(h:sp[i]? = some s):fm (sp.take (i+1))=fm (sp.take i)++dS s (slots s.b).toNat:=by
 unfold fm;rw[I5,h,List.flatMap_append];simp
theorem xU(s:ax)(k:Nat)(a:bg s=true)(i:(k:Int)<slots s.b):ar Tryz.prog 353 false [.val (some 3) (ax.enc .X s),.val none [I (k:Nat)]] .one [I (k7 s k)]:=by
 have b:=jC s;have c:=fp s.b;have g:=ix s.b;rw[a]at b;have d:=aC a;have j:=rD s.b;rcases bM ⟨d.2.2.1,d.2.2.2⟩ with e|e|e|e<;>rw[e]at c
 all_goals
  refine fO 26 [(3,9,[17,18,19,20,21,22,23,24,25])] Tryz.func353 rfl ?_
  repeat'(first|refine gD ?_|(conv=>whnf);first|with_reducible refine Bf.D (λh=>?_) (λh=>?_)|refine C7 b ?_|refine C7 c ?_|refine C7 g ?_|refine C7 (aO _ 0 _) ?_)
  all_goals exact U0 (λz=>[I z]) (by unfold k7;rw[e];omega)
theorem vL(sp:List ax)(la:List a8)(d:d8 sp)(e:d9 la)(b:bk sp la=true):ar Tryz.prog 250 false [.val none (cz .X sp),.val none (co .X la)] .one (aG .own (nu sp la)):=by
 have E:=d.1;have F:=e.1;have D:=pu sp la d e;rw[b]at D;obtain⟨p,G,-⟩:=du b;refine fP 56 [(393,[1])] [] Tryz.func250 rfl ?_ (.inr (bV _))
 repeat'(first|refine gO ?_|(conv=>whnf);first|refine C7 D ?_)
 (conv=>whnf)
 refine CE (ι:=Nat × List Int) (λi=>[(1,.H .one (co .X la)),(5,.H .one (aG .own i.2)),(16,.H .one (cz .X sp)),(17,.H .one [I (sp.length)]),(18,.H .one [I ((i.1:Nat):Int)])]) (λi=>i.1<=sp.length/\i.2=fm (sp.take i.1)/\i.2.length<=16*i.1) (λi=>sp.length - i.1) ((0,[])) ?_ (⟨T0 _,rfl,T0 _⟩) λi g=>?_
 ·exact wB
 obtain⟨i,S⟩:=i;obtain⟨g,n,H⟩:=g;simp only at g n H |-;by_cases o:i<sp.length
 ·have c:=ao o
  have h:bg (nth sp i)=true:=MU p o;have J:=rD (nth sp i).b;have q:=fy h
  repeat'(first|refine gD ?_|(conv=>whnf);first|with_reducible refine CC (aa c) ?_)
  (conv=>whnf)
  refine CE (ι:=Nat × List Int) (λk=>[(1,.H .one (co .X la)),(5,.H .one (aG .own k.2)),(7,.H .box (ax.enc .X (nth sp i))),(8,.H .one [I ((k.1:Nat):Int)]),(16,.H .one (cz .X sp)),(17,.H .one [I (sp.length)]),(18,.H .one [I ((i:Nat):Int)])]) (λk=>k.1<=(slots (nth sp i).b).toNat/\k.2=S++dS (nth sp i) k.1) (λk=>(slots (nth sp i).b).toNat - k.1) ((0,S)) ?_ (⟨T0 _,by simp[dS]⟩) λk t=>?_
  ·exact wB
  obtain⟨k,S2⟩:=k;obtain⟨t,a⟩:=t;simp only at t a |-;have K:=qD (nth sp i) k;have j:S2.length=S.length+(dS (nth sp i) k).length:=by rw[a,Z2]
  by_cases M:k<(slots (nth sp i).b).toNat
  ·have u:=rR (nth sp i).b1 (k:Nat) q.2
   cases w:aR (nth sp i).b1 (k:Nat)<;>rw[w]at u
   ·repeat'(first|refine gD ?_|(conv=>whnf);first|refine C7 (ix _) ?_|refine C7 u ?_)
    ((conv=>whnf);refine CD (k+1,S2) ⟨(by simp only;omega),(by simp only;rw[BA w];exact a)⟩ (by simp only;omega) ?_;(exact wB))
   repeat'(first|refine gD ?_|(conv=>whnf);first|refine C7 (ix _) ?_|refine C7 u ?_|refine C7 (xU (nth sp i) k h ω) ?_|refine CT cI (λr y=>by rw[C1.1 y];rfl) (by simp[aX,dU]) (by simp;omega) (by show _*8<=_;simp;omega) rfl ?_)
   ((conv=>whnf)
    refine CD (k+1,S2++[k7 (nth sp i) k]) ⟨(by simp only;omega),(by simp only;rw[Bm w,a,O5])⟩ (by simp only;omega) ?_
    (repeat'(first|exact trivial|rfl|exact CK rfl (CK (U0 (C.s dK.own) (by simp[rI])) trivial)|refine CK ?_ ?_)))
  obtain rfl:k=(slots (nth sp i).b).toNat:=ω
  repeat'(first|refine gD ?_|(conv=>whnf);first|refine C7 (ix _) ?_)
  ((conv=>whnf);refine CD (i+1,S2) ⟨(by simp only;omega),(by simp only;rw[vg c,<-n,a]),(by simp only;omega)⟩ (by simp only;omega) ?_;(exact wB))
 obtain rfl:i=sp.length:=ω
 rw[X4]at n
 repeat'(first|refine gD ?_|fail)
 (conv=>whnf)
 refine CE (ι:=Nat × List Int) (λi=>[(5,.H .one (aG .own i.2)),(40,.H .one (co .X la)),(41,.H .one [I (la.length)]),(42,.H .one [I ((i.1:Nat):Int)])]) (λi=>i.1<=la.length/\i.2=S++(la.take i.1).map (λl=>16*l.Q)) (λi=>la.length - i.1) ((0,S)) ?_ (⟨T0 _,by simp⟩) λi g=>?_
 ·exact wB
 obtain⟨i,S2⟩:=i;obtain⟨B,a⟩:=g;simp only at B a |-;have j:S2.length=S.length+i:=by rw[a,Z2,X0,O1];omega
 by_cases o:i<la.length
 ·have c:=ao o
  have L:=tn b c
  repeat'(first|refine gD ?_|(conv=>whnf);first|with_reducible refine CC (aa c) ?_|refine CT cI (λr y=>by rw[C1.1 y];rfl) (by simp[aX,dU]) (by simp;omega) (by show _*8<=_;simp;omega) rfl ?_)
  ((conv=>whnf)
   refine CD (i+1,S2++[16*(nth la i).Q]) ⟨(by simp only;omega),(by simp only;rw[a,I5,c];simp)⟩ (by simp only;omega) ?_
   (repeat'(first|exact trivial|rfl|exact CK rfl (CK (U0 (C.s dK.own) (by simp[rI];omega)) trivial)|refine CK ?_ ?_)))
 obtain rfl:i=la.length:=ω
 rw[X4]at a
 repeat'(first|refine gD ?_|(conv=>whnf);first|refine CJ (NP S2 ω) (.inl rfl) ?_)
 show _=aG .own (sorted (fm sp++la.map λl=>16*l.Q));rw[<-n,<-a];rfl
def pv(b:List (Int × Value))(L:List Int):Prop:=∀a,mlook b a (.int .i64 0)=.int .i64 (L.count a:Nat)
theorem Jd(f:List (Int × Value))(a b:Int)(v d:Value):mlook (mput f a v) b d=if a=b then v else mlook f b d:=by
 induction f with
 | nil=>simp only[mput,mlook]
 | cons p f g=>
  simp only[mput];by_cases h:p.1=a
  ·rw[C9 h]
   simp only[mlook];by_cases c:a=b
   ·rw[C9 c,C9 c]
   rw[C8 c,C8 c,C8 (by rw[h];exact c)]
  rw[C8 h];simp only[mlook];by_cases c:p.1=b
  ·rw[C9 c,C9 c,C8 (λe=>h (c.trans e.symm))]
  rw[C8 c,C8 c,g]
def inc(b:List (Int × Value))(L:List Int)(a:Int):List (Int × Value):=mput b a (.int .i64 ((L.count a:Nat)+1))
theorem H7:pv [] []:=λ_=>rfl
theorem oS{d:List (Int × Value)}{L:List Int}(h:pv d L)(a:Int):pv (inc d L a) (L++[a]):=λb=>by
 unfold inc;rw[Jd,V5];by_cases c:a=b
 ·subst c;rw[C9 rfl,List.count_singleton_self];simp
 rw[C8 c,h b,List.count_singleton,C8 (by simpa using c)];rfl
theorem Bb(h:ab)(d:d8 h.M)(e:d9 h.K)(b:List (Int × Value))(L:List Int)(a c:Int)(g:pv b L)(n:L.length<=1000000000) :
  aS Tryz.prog 249 false [.val none [I a],.val none [I c],.ptr [.m b],.ptr (ab.enc .X h)] [.val none [I a],.val none [I c],.ptr [.m (inc b L a)],.ptr (ab.enc .X h)] .one [B (dn h a c)]:=by
 have k:=qJ h.M h.K a d e;obtain⟨i,-⟩:=mO h.M h.K a;have l:L.count a<=L.length:=List.count_le_length;unfold dn;generalize denotes h.M h.K a=w at k i |-;refine fM 41 [] [] [(0,0),(0,0),(0,0),(0,0)] Tryz.func249 rfl (λu q=>?_)
 repeat'(first|refine gO ?_|(conv=>whnf);first|with_reducible (first|refine Bf.D (λj=>?_) (λj=>?_)|refine Bf.E (λj=>?_) (λj=>?_))|refine Ml.mk (g a) ?_|refine Mu.mk (es':=inc b L a) rfl ?_|refine C7 k ?_|refine CM (i (by assumption)).1 (aa (ao (i (by assumption)).2)) ?_)
 all_goals
  refine CF rfl ?_ ?_
  ·exact U0 (λz=>[B z]) ((by grind))
  exact wB
set_option maxHeartbeats 8000000
def r6(h:ab)(a:aN):Bool:=gT h a&&decide (a.b7<=h.b5)
def lN(h:ab):List Int:=((cy h++h.a6.a5.map (·.Addr))++aL h.w)++h.O.map (·.Addr)
def j8(h:ab):Bool:=((h.T.all (eJ h)&&h.a6.a5.all (r6 h))&&(aL h.w).all (kh h))&&(nu h.M h.K).all λa=>decide ((lN h).count a=1)
theorem NX{h:ab}(h1:h.T.all (eJ h)=false):j8 h=false:=by unfold j8;rw[h1];rfl
theorem Gn{h:ab}(h1:h.a6.a5.all (r6 h)=false):j8 h=false:=by unfold j8;rw[h1];simp
theorem Nf{h:ab}(h1:(aL h.w).all (kh h)=false):j8 h=false:=by unfold j8;rw[h1];simp
theorem Nd{h:ab}(h1:((nu h.M h.K).all λa=>decide ((lN h).count a=1))=false):j8 h=false:=by unfold j8;rw[h1];simp
theorem HA{sp:List ax}{la:List a8}(h1:sp.length<=1048576)(b:la.length<=1048576):(nu sp la).length<=100000000:=by
 have a:∀(l:List ax),(fm l).length<=16*l.length:=by
  intro l
  induction l with
  | nil=>exact T0 _
  | cons s l c=>
   have e:fm (s::l)=dS s (slots s.b).toNat++fm l:=by unfold fm;rw[I6]
   have d:=rD s.b;have f:=qD s (slots s.b).toNat;rw[e,Z2,List.length_cons];omega
 have g:=a sp;unfold nu live0;rw[vj,Z2,X0];omega
theorem wv(h:ab)(hs:ab.sml h)(S:bk h.M h.K=true)(M:bJ h.w=true)(hco:∀c∈h.T,bw c=true):ar Tryz.prog 79 false [.val (some 24) (ab.enc .X h)] .one [B (j8 h)]:=by
 obtain⟨-,-,t,u,hso,hsc,hsm,hsq,-⟩:=hs;have hlo:h.O.length<=1048576:=hso.1;have hlc:h.T.length<=1048576:=hsc.1;have hlq:h.a6.a5.length<=1048576:=hsq.1;have hfl:=rz M;have w:j8 h=false->[B false]=[B (j8 h)]:=λe=>by rw[e]
 refine fP 114 [(249,[0,0,2,2])] [] Tryz.func79 rfl ?_
 repeat'(first|refine gO ?_|fail)
 (conv=>whnf)
 refine CE (ι:=Nat × List (Int × Value) × List Int) (λi=>[(1,.H .box (ab.enc .X h)),(3,.H .box [.m i.2.1]),(4,.fn 249 [3,1]),(22,.H .one (qG .X h.T)),(23,.H .one [I (h.T.length)]),(24,.H .one [I ((i.1:Nat):Int)])]) (λi=>i.1<=h.T.length/\pv i.2.1 i.2.2/\i.2.2=((h.T.take i.1).flatMap λc=>c.d.flatten)/\(h.T.take i.1).all (eJ h)=true/\i.2.2.length<=32*i.1) (λi=>h.T.length - i.1) ((0,[],[])) ?_ (⟨T0 _,H7,rfl,rfl,T0 _⟩) λi hi=>?_
 ·exact wB
 obtain⟨i,es,L⟩:=i;obtain⟨hi,O,X,Y,hb⟩:=hi;simp only at hi O X Y hb |-;by_cases li:i<h.T.length
 ·have T:=ao li
  obtain⟨h4,h8⟩:=tV (hco _ (am li))
  repeat'(first|refine gD ?_|(conv=>whnf);first|with_reducible refine CC (aa T) ?_)
  (conv=>whnf)
  refine CE (ι:=Nat × List (Int × Value) × List Int) (λk=>[(1,.H .box (ab.enc .X h)),(3,.H .box [.m k.2.1]),(4,.fn 249 [3,1]),(22,.H .one (qG .X h.T)),(23,.H .one [I (h.T.length)]),(24,.H .one [I ((i:Nat):Int)]),(29,.H .one (lH .X (nth h.T i).d)),(30,.H .one [I ((nth h.T i).d.length)]),(31,.H .one [I ((k.1:Nat):Int)])]) (λk=>k.1<=(nth h.T i).d.length/\pv k.2.1 k.2.2/\k.2.2=L++((nth h.T i).d.take k.1).flatten/\cR k.1 (rr h (nth h.T i))=true/\k.2.2.length<=L.length+8*k.1) (λk=>(nth h.T i).d.length - k.1) ((0,es,L)) ?_ (⟨T0 _,O,by simp,rfl,by simp⟩) λk hk=>?_
  ·exact wB
  obtain⟨k,es3,Z⟩:=k;obtain⟨hk,y,K,ak,hb3⟩:=hk;simp only at hk y K ak hb3 |-;by_cases lk:k<(nth h.T i).d.length
  ·have hy:=ao lk
   have hl8:=h8 _ (am lk)
   repeat'(first|refine gD ?_|(conv=>whnf);first|with_reducible (first|refine CC (aa T) ?_|refine CC (aa hy) ?_))
   (conv=>whnf)
   refine CE (ι:=Nat × List (Int × Value) × List Int) (λj=>[(1,.H .box (ab.enc .X h)),(3,.H .box [.m j.2.1]),(4,.fn 249 [3,1]),(7,.H .one [I ((k:Nat):Int)]),(22,.H .one (qG .X h.T)),(23,.H .one [I (h.T.length)]),(24,.H .one [I ((i:Nat):Int)]),(29,.H .one (lH .X (nth h.T i).d)),(30,.H .one [I ((nth h.T i).d.length)]),(31,.H .one [I ((k:Nat):Int)]),(36,.H .one (aG .X (nth (nth h.T i).d k))),(37,.H .one [I ((nth (nth h.T i).d k).length)]),(38,.H .one [I ((j.1:Nat):Int)])]) (λj=>j.1<=(nth (nth h.T i).d k).length/\pv j.2.1 j.2.2/\j.2.2=Z++(nth (nth h.T i).d k).take j.1/\((nth (nth h.T i).d k).take j.1).all (λa=>dn h a (k:Nat))=true) (λj=>(nth (nth h.T i).d k).length - j.1) ((0,es3,Z)) ?_ (⟨T0 _,y,by simp,rfl⟩) λj hj=>?_
   ·exact wB
   obtain⟨j,es4,U⟩:=j;obtain⟨hj,l,C,aj⟩:=hj;simp only at hj l C aj |-;have hl4:U.length=Z.length+j:=by rw[C,Z2,O1];omega
   by_cases lj:j<(nth (nth h.T i).d k).length
   ·have d:=ao lj
    have b:=Bb h t u es4 U (nth (nth (nth h.T i).d k) j) (k:Nat) l ω;cases r:dn h (nth (nth (nth h.T i).d k) j) (k:Nat)<;>rw[r]at b
    ·repeat'(first|refine gD ?_|(conv=>whnf);first|with_reducible refine CC (aa d) ?_|refine CJ (b) (.inl rfl) ?_)
     exact w (NX (eI T (by unfold eJ;exact cu lk (eI d r))))
    repeat'(first|refine gD ?_|(conv=>whnf);first|with_reducible refine CC (aa d) ?_|refine CJ (b) (.inl rfl) ?_)
    ((conv=>whnf)
     refine CD (j+1,inc es4 U (nth (nth (nth h.T i).d k) j),U++[nth (nth (nth h.T i).d k) j]) ⟨(by simp only;omega),oS l _,(by simp only;rw[C,I5,d,O5];rfl),cP d aj r⟩ (by simp only;omega) ?_
     (exact wA))
   obtain rfl:j=(nth (nth h.T i).d k).length:=ω
   rw[X4]at C aj
   repeat'(first|refine gD ?_|fail)
   ((conv=>whnf);refine CD (k+1,es4,U) ⟨(by simp only;omega),l,(by simp only;rw[C,K,xi hy,O5]),bN ak aj,(by simp only;omega)⟩ (by simp only;omega) ?_;(exact wB))
  obtain rfl:k=(nth h.T i).d.length:=ω
  rw[X4]at K
  repeat'(first|refine gD ?_|fail)
  ((conv=>whnf);refine CD (i+1,es3,Z) ⟨(by simp only;omega),y,(by simp only;rw[K,X,tZ T]),cP T Y ak,(by simp only;omega)⟩ (by simp only;omega) ?_;(exact wB))
 obtain rfl:i=h.T.length:=ω
 rw[X4]at X Y
 repeat'(first|refine gD ?_|fail)
 (conv=>whnf)
 refine CE (ι:=Nat × List (Int × Value) × List Int) (λq=>[(1,.H .box (ab.enc .X h)),(3,.H .box [.m q.2.1]),(4,.fn 249 [3,1]),(52,.H .one (cS .X h.a6.a5)),(53,.H .one [I (h.a6.a5.length)]),(54,.H .one [I ((q.1:Nat):Int)])]) (λq=>q.1<=h.a6.a5.length/\pv q.2.1 q.2.2/\q.2.2=L++(h.a6.a5.take q.1).map (·.Addr)/\(h.a6.a5.take q.1).all (r6 h)=true) (λq=>h.a6.a5.length - q.1) ((0,es,L)) ?_ (⟨T0 _,O,by simp,rfl⟩) λq E=>?_
 ·exact wB
 obtain⟨q,es5,P⟩:=q;obtain⟨F,o,G,aq⟩:=E;simp only at F o G aq |-;have hl5:P.length=L.length+q:=by rw[G,Z2,X0,O1];omega
 by_cases V:q<h.a6.a5.length
 ·have d:=ao V
  have b:=Bb h t u es5 P (nth h.a6.a5 q).Addr (nth h.a6.a5 q).b o ω;cases r:dn h (nth h.a6.a5 q).Addr (nth h.a6.a5 q).b<;>rw[r]at b
  ·repeat'(first|refine gD ?_|(conv=>whnf);first|with_reducible (first|refine CC (aa d) ?_|refine Bf.D (λE=>?_) (λE=>?_))|refine CJ (b) (.inl rfl) ?_)
   all_goals exact w (Gn (eI d (by unfold r6 gT;rw[r];rfl)))
  repeat'(first|refine gD ?_|(conv=>whnf);first|with_reducible (first|refine CC (aa d) ?_|refine Bf.D (λE=>?_) (λE=>?_))|refine CJ (b) (.inl rfl) ?_)
  all_goals first
   |exact w (Gn (eI d (by unfold r6 gT;rw[r,R0 ω];rfl)))
   | ((conv=>whnf)
      refine CD (q+1,inc es5 P (nth h.a6.a5 q).Addr,P++[(nth h.a6.a5 q).Addr]) ⟨(by simp only;omega),oS o _,(by simp only;rw[G,I5,d,R5,O5];rfl),cP d aq (by unfold r6 gT;rw[r,O0 ω];rfl)⟩ (by simp only;omega) ?_
      (exact wA))
 obtain rfl:q=h.a6.a5.length:=ω
 rw[X4]at G aq
 repeat'(first|refine gD ?_|(conv=>whnf);first|refine C7 (yt h.w hsm) ?_)
 (conv=>whnf)
 refine CE (ι:=Nat × List (Int × Value) × List Int) (λq=>[(1,.H .box (ab.enc .X h)),(3,.H .box [.m q.2.1]),(4,.fn 249 [3,1]),(75,.H .one (aG .own (aL h.w))),(76,.H .one [I ((aL h.w).length)]),(77,.H .one [I ((q.1:Nat):Int)])]) (λq=>q.1<=(aL h.w).length/\pv q.2.1 q.2.2/\q.2.2=P++(aL h.w).take q.1/\((aL h.w).take q.1).all (kh h)=true) (λq=>(aL h.w).length - q.1) ((0,es5,P)) ?_ (⟨T0 _,o,by simp,rfl⟩) λq E=>?_
 ·exact wB
 obtain⟨q,es6,Q⟩:=q;obtain⟨F,p,H,aq6⟩:=E;simp only at F p H aq6 |-;have hl6:Q.length=P.length+q:=by rw[H,Z2,O1];omega
 by_cases V:q<(aL h.w).length
 ·have d:=ao V
  have b:=Bb h t u es6 Q (nth (aL h.w) q) (-1) p ω;cases r:dn h (nth (aL h.w) q) (-1)<;>rw[r]at b
  ·repeat'(first|refine gD ?_|(conv=>whnf);first|with_reducible refine CC (aa d) ?_|refine CH rfl (aa d) rfl ?_|refine CJ (b) (.inl rfl) ?_)
   exact w (Nf (eI d r))
  repeat'(first|refine gD ?_|(conv=>whnf);first|with_reducible refine CC (aa d) ?_|refine CH rfl (aa d) rfl ?_|refine CJ (b) (.inl rfl) ?_)
  ((conv=>whnf)
   refine CD (q+1,inc es6 Q (nth (aL h.w) q),Q++[nth (aL h.w) q]) ⟨(by simp only;omega),oS p _,(by simp only;rw[H,I5,d,O5];rfl),cP d aq6 r⟩ (by simp only;omega) ?_
   (exact wA))
 obtain rfl:q=(aL h.w).length:=ω
 rw[X4]at H aq6
 repeat'(first|refine gD ?_|fail)
 (conv=>whnf)
 refine CE (ι:=Nat × List (Int × Value) × List Int) (λq=>[(1,.H .box (ab.enc .X h)),(3,.H .box [.m q.2.1]),(87,.H .one (lE .X h.O)),(88,.H .one [I (h.O.length)]),(89,.H .one [I ((q.1:Nat):Int)])]) (λq=>q.1<=h.O.length/\pv q.2.1 q.2.2/\q.2.2=Q++(h.O.take q.1).map (·.Addr)) (λq=>h.O.length - q.1) ((0,es6,Q)) ?_ (⟨T0 _,p,by simp⟩) λq E=>?_
 ·exact wB
 obtain⟨q,es7,R⟩:=q;obtain⟨F,g,J⟩:=E;simp only at F g J |-;have hl7:R.length=Q.length+q:=by rw[J,Z2,X0,O1];omega
 by_cases V:q<h.O.length
 ·have d:=ao V
  have hcl:R.count (nth h.O q).Addr<=R.length:=List.count_le_length
  repeat'(first|refine gD ?_|(conv=>whnf);first|with_reducible refine CC (aa d) ?_|refine Ml.mk (g _) ?_|refine Mu.mk (es':=inc es7 R (nth h.O q).Addr) rfl ?_)
  ((conv=>whnf)
   refine CD (q+1,inc es7 R (nth h.O q).Addr,R++[(nth h.O q).Addr]) ⟨(by simp only;omega),oS g _,(by simp only;rw[J,I5,d,R5,O5];rfl)⟩ (by simp only;omega) ?_
   (exact wA))
 obtain rfl:q=h.O.length:=ω
 rw[X4]at J;have W:R=lN h:=by rw[J,H,G,X];rfl
 have hlv:=HA t.1 u.1
 repeat'(first|refine gD ?_|(conv=>whnf);first|refine C7 (vL h.M h.K t u S) ?_)
 (conv=>whnf)
 refine CE (ι:=Nat) (λn=>[(3,.H .box [.m es7]),(103,.H .one (aG .own (nu h.M h.K))),(104,.H .one [I ((nu h.M h.K).length)]),(105,.H .one [I ((n:Nat):Int)])]) (λn=>n<=(nu h.M h.K).length/\((nu h.M h.K).take n).all (λa=>decide ((lN h).count a=1))=true) (λn=>(nu h.M h.K).length - n) (0) ?_ (⟨T0 _,rfl⟩) λn hn=>?_
 ·exact wB
 obtain⟨hn,an⟩:=hn;by_cases ln:n<(nu h.M h.K).length
 ·have d:=ao ln
  rw[W]at g
  repeat'(first|refine gD ?_|(conv=>whnf);first|with_reducible (first|refine CC (aa d) ?_|refine Bf.N (λE=>?_) (λE=>?_))|refine CH rfl (aa d) rfl ?_|refine Ml.mk (g _) ?_)
  all_goals first
   |exact w (Nd (eI d (R0 ω)))
   | ((conv=>whnf);refine CD (n+1) ⟨ω,cP d an (O0 ω)⟩ ω ?_;(exact wB))
 repeat'(first|refine gD ?_|fail)
 exact U0 (λz=>[B z]) ((by unfold j8;rw[Y,aq,aq6,gr ω an];rfl))
set_option maxHeartbeats 8000000
def jU(h:ab):Bool:=(((((((a7 h.G&&b9 (eM h) h.q)&&bk h.M h.K)&&(pages0 h&&np h))&&dw h)&&h.T.all bw)&&(fe h&&j8 h))&&cg h)&&tN h
theorem Er(h:ab)(hs:ab.sml h):ar Tryz.prog 24 false [.val (some 24) (ab.enc .X h)] .one [B (jU h)]:=by
 have L:=hs;obtain⟨n,o,b,g,M,p,q,O,r⟩:=hs;have u:xD h:=n.1.2;have hpn:eM h<=1048576:=u.1;have P:h.O.length<=1048576:=M.1;have Q:h.T.length<=1048576:=p.1;have hlb:h.w.U.length<=1048576:=q.1.1;have hlp:h.Y.W.S.length<=1048576:=r;have d:=xJ h.G n;have e:=yc (eM h) h.q ⟨ω,ω⟩ o;have i:=pu h.M h.K b g;have w:=tQ h.w q;have R:=DZ h.a6 O;cases S:a7 h.G<;>rw[S]at d
 ·refine fO 154 [] Tryz.func24 rfl ?_
  repeat'(first|refine gO ?_|(conv=>whnf);first|with_reducible refine Bf.N (λa=>?_) (λa=>?_)|refine C7 d ?_)
  all_goals first
   | exact U0 (λz=>[B z]) ((by unfold jU ;rw[S];simp))
   |(exfalso;omega)
 cases T:b9 (eM h) h.q<;>rw[T]at e
 ·refine fO 154 [] Tryz.func24 rfl ?_
  repeat'(first|refine gO ?_|(conv=>whnf);first|with_reducible refine Bf.N (λa=>?_) (λa=>?_)|refine C7 d ?_|refine C7 e ?_)
  all_goals first
   | exact U0 (λz=>[B z]) ((by unfold jU ;rw[T];simp))
   |(exfalso;omega)
 cases y:bk h.M h.K<;>rw[y]at i
 ·refine fO 154 [] Tryz.func24 rfl ?_
  repeat'(first|refine gO ?_|(conv=>whnf);first|with_reducible refine Bf.N (λa=>?_) (λa=>?_)|refine C7 d ?_|refine C7 e ?_|refine C7 i ?_)
  all_goals first
   | exact U0 (λz=>[B z]) ((by unfold jU ;rw[y];simp))
   |(exfalso;omega)
 have j:=Ae h b g u o y;cases U:(pages0 h&&np h)<;>rw[U]at j
 ·refine fO 154 [] Tryz.func24 rfl ?_
  repeat'(first|refine gO ?_|(conv=>whnf);first|with_reducible refine Bf.N (λa=>?_) (λa=>?_)|refine C7 d ?_|refine C7 e ?_|refine C7 i ?_|refine C7 j ?_)
  all_goals first
   | exact U0 (λz=>[B z]) ((by unfold jU ;rw[U];simp))
   |(exfalso;omega)
 cases J:bJ h.w<;>rw[J]at w
 ·refine fO 154 [] Tryz.func24 rfl ?_
  repeat'(first|refine gO ?_|(conv=>whnf);first|with_reducible refine Bf.N (λa=>?_) (λa=>?_)|refine C7 d ?_|refine C7 e ?_|refine C7 i ?_|refine C7 j ?_|refine C7 w ?_)
  all_goals first
   | exact U0 (λz=>[B z]) ((by unfold jU dw;rw[J];simp))
   |(exfalso;omega)
 by_cases C:h.T.length=h.w.U.length;rotate_left
 ·refine fO 154 [] Tryz.func24 rfl ?_
  repeat'(first|refine gO ?_|(conv=>whnf);first|with_reducible refine Bf.N (λa=>?_) (λa=>?_)|refine C7 d ?_|refine C7 e ?_|refine C7 i ?_|refine C7 j ?_|refine C7 w ?_)
  all_goals first
   | exact U0 (λz=>[B z]) ((by unfold jU dw;rw[R0 C];simp))
   |(exfalso;omega)
 cases V:fT h.a6<;>rw[V]at R
 ·refine fO 154 [] Tryz.func24 rfl ?_
  repeat'(first|refine gO ?_|(conv=>whnf);first|with_reducible refine Bf.N (λa=>?_) (λa=>?_)|refine C7 d ?_|refine C7 e ?_|refine C7 i ?_|refine C7 j ?_|refine C7 w ?_|refine C7 R ?_)
  all_goals first
   | exact U0 (λz=>[B z]) ((by unfold jU dw;rw[V];simp))
   |(exfalso;omega)
 have W:dw h=true:=by unfold dw;rw[J,O0 C,V];rfl
 refine fO 154 [] Tryz.func24 rfl ?_
 repeat'(first|refine gA ?_|(conv=>whnf);first|with_reducible refine Bf.N (λa=>?_) (λa=>?_)|refine C7 d ?_|refine C7 e ?_|refine C7 i ?_|refine C7 j ?_|refine C7 w ?_|refine C7 R ?_)
 all_goals try(exfalso;omega)
 (conv=>whnf)
 refine CE (ι:=Nat) (λk=>[(1,.H .box (ab.enc .X h)),(57,.H .one (qG .X h.T)),(58,.H .one [I (h.T.length)]),(59,.H .one [I ((k:Nat):Int)])]) (λk=>k<=h.T.length/\(h.T.take k).all bw=true) (λk=>h.T.length - k) (0) ?_ (⟨T0 _,rfl⟩) λk hk=>?_
 ·exact wB
 obtain⟨hk,ak⟩:=hk;by_cases lk:k<h.T.length
 ·have K:=ao lk
  have X:=Aj (nth h.T k) (p.2 _ (am lk));cases Y:bw (nth h.T k)<;>rw[Y]at X
  ·repeat'(first|refine gD ?_|(conv=>whnf);first|with_reducible refine CC (aa K) ?_|refine C7 X ?_)
   exact U0 (λz=>[B z]) ((by unfold jU;rw[eI K Y];simp))
  repeat'(first|refine gD ?_|(conv=>whnf);first|with_reducible refine CC (aa K) ?_|refine C7 X ?_)
  ((conv=>whnf);refine CD (k+1) ⟨ω,cP K ak Y⟩ ω ?_;(exact wB))
 have F:h.T.all bw=true:=gr ω ak;have l:=Ew h b g P Q;have c10:=wv h L y J (W3.1 F);have c12:=Fd h.Y r;have c13:=tY h h.Y.W.a4 b.1;have c14:=tY h h.Y.W.a1 b.1;cases Z:fe h<;>rw[Z]at l
 ·repeat'(first|refine gD ?_|(conv=>whnf);first|refine C7 l ?_)
  all_goals first
   | exact U0 (λz=>[B z]) ((by unfold jU;rw[Z];simp))
   |(exfalso;omega)
 cases e10:j8 h<;>rw[e10]at c10
 ·repeat'(first|refine gD ?_|(conv=>whnf);first|refine C7 l ?_|refine C7 c10 ?_)
  all_goals first
   | exact U0 (λz=>[B z]) ((by unfold jU;rw[e10];simp))
   |(exfalso;omega)
 by_cases hn:cg h=true;rotate_left
 ·have G:cg h=false:=by simpa using hn
  have c:=G;unfold cg at c;rw[T4]at c
  repeat'(first|refine gD ?_|(conv=>whnf);first|with_reducible refine Bf.D (λa=>?_) (λa=>?_)|refine C7 (aO _ _ _) ?_|refine C7 (oh _) ?_|refine C7 l ?_|refine C7 c10 ?_)
  all_goals first
   | exact U0 (λz=>[B z]) ((by unfold jU;rw[G];simp))
   |(exfalso;omega)
 have c:=hn;unfold cg at c;rw[C0]at c;have H:jU h=tN h:=by unfold jU;rw[S,T,y,U,W,F,hn,Z,e10];rfl
 rw[H];unfold tN;cases em:h.u
 ·repeat'(first|refine gD ?_|(conv=>whnf);first|with_reducible (first|refine Bf.D (λa=>?_) (λa=>?_)|refine Bf.E (λa=>?_) (λa=>?_))|refine C7 (aO _ _ _) ?_|refine C7 (oh _) ?_|refine C7 l ?_|refine C7 c10 ?_|refine Bf.f em ?_)
  all_goals first
   | exact U0 (λz=>[B z]) ((by unfold qO;simp only[Bool.false_eq_true,if_false];first|(symm;exact R0 ω)|(rw[U4,beq_iff_eq,C0];omega)))
   |(exfalso;omega)
 cases e12:jx h.Y<;>rw[e12]at c12
 all_goals
  repeat'(first|refine gD ?_|(conv=>whnf);first|with_reducible (first|refine Bf.D (λa=>?_) (λa=>?_)|refine Bf.D (λa=>?_) (λa=>?_))|refine C7 (aO _ _ _) ?_|refine C7 (oh _) ?_|refine C7 l ?_|refine C7 c10 ?_|refine C7 c12 ?_|refine C7 c13 ?_|refine C7 c14 ?_|refine Bf.t em ?_)
  all_goals first
   | exact U0 (λz=>[B z]) ((by grind))
   |(exfalso;omega)
theorem cE{α:Type}[Inhabited α]{xs:List α}{f:α->Int}(e:(xs.map f).Nodup){i j:Nat}(b:i<xs.length)(c:j<xs.length)(h:f (nth xs i)=f (nth xs j)):i=j:=by
 have d:=List.pairwise_iff_getElem.1 e;rcases Nat.lt_trichotomy i j with a|rfl|a
 ·have:=d i j (by simpa using b) (by simpa using c) a
  simp only[List.getElem_map]at this;rw[bc (W1 b),bc (W1 c)]at h;exact absurd h this
 ·rfl
 have:=d j i (by simpa using c) (by simpa using b) a;simp only[List.getElem_map]at this;rw[bc (W1 b),bc (W1 c)]at h;exact absurd h.symm this
theorem aJ{α:Type}[Inhabited α]{xs:List α}{x:α}(h:x∈xs):∃i,i<xs.length/\nth xs i=x:=by
 obtain⟨i,a⟩:=List.mem_iff_getElem?.1 h;exact⟨i,(Z1.1 a).1,bc a⟩
theorem wc:∀{H L:List Int},H.Nodup->(∀x∈H,x∈L)->L.length<=H.length->∀x∈L,x∈H
 | [],L,_,_,c,x,d=>by
  have:L=[]:=W6 (by simpa using c);subst this;exact d
 | y::H,L,h,f,c,x,d=>by
  have i:y∈L:=f y (R1 ..);have a:=List.nodup_cons.1 h;by_cases b:x=y
  ·subst b;exact R1 ..
  refine Z4 _ (wc (L:=L.erase y) a.2 (λz g=>?_) ?_ x ((List.mem_erase_of_ne b).2 d))
  ·exact(List.mem_erase_of_ne (λe:z=y=>a.1 (by rw[<-e];exact g))).2 (f z (Z4 _ g))
  rw[List.length_erase_of_mem i];simp only[List.length_cons]at c;omega
theorem yw{H L:List Int}(f:L.Nodup)(d:∀x∈H,x∈L):(H.Nodup/\H.length=L.length)↔∀a∈L,H.count a=1:=by
 constructor
 ·rintro⟨c,k⟩ a b
  have g:=wc c d ω a b;have i:=List.nodup_iff_count.1 c a;have j:=List.count_pos_iff.2 g;omega
 intro e;have c:H.Nodup:=List.nodup_iff_count.2 λa=>by
  by_cases b:a∈H
  ·rw[e a (d a b)];exact W2 1
  rw[List.count_eq_zero_of_not_mem b];exact T0 _
 refine⟨c,?_⟩;have:H.Perm L:=List.perm_iff_count.2 λa=>by
  by_cases b:a∈L
  ·rw[e a b]
   have i:=List.nodup_iff_count.1 f a;have j:=List.count_pos_iff.2 b;omega
  rw[List.count_eq_zero_of_not_mem b,List.count_eq_zero_of_not_mem λh=>b (d a h)]
 exact this.length_eq
theorem dm{l:a8}{n:Nat}{p:Int} : p∈lpgs l n↔∃k:Nat,k<n/\p=l.Q+(k:Nat):=by
 unfold lpgs;simp only[C4,List.mem_range];constructor
 ·rintro⟨k,a,rfl⟩;exact⟨k,a,rfl⟩
 rintro⟨k,a,rfl⟩;exact⟨k,a,rfl⟩
structure rT(sp:List ax)(la:List a8):Prop where
 sok:∀s∈sp,bg s=true
 lok:∀l∈la,bE l=true
 nd:(sp.map (·.Q)).Nodup
 dis:∀s∈sp,∀l∈la,∀k:Nat,k<l.a2.toNat->s.Q≠l.Q+(k:Nat)
 one:∀i j,i<la.length->j<la.length->∀k k':Nat,k<(nth la i).a2.toNat->k'<(nth la j).a2.toNat->(nth la i).Q+(k:Nat)=(nth la j).Q+(k':Nat)->i=j
theorem rT.of{sp:List ax}{la:List a8}(h:bk sp la=true):rT sp la:=by
 obtain⟨t,u,d⟩:=du h;unfold pgs at d;rw[List.nodup_append]at d;obtain⟨w,y,A⟩:=d;have B:=List.pairwise_flatMap.1 y;refine⟨λs f=>W3.1 t s f,λl g=>W3.1 u l g,w,λs f l g k c e=>?_,λi j n o k q c a e=>?_⟩
 ·exact A _ (C4.2 ⟨s,f,rfl⟩) _ (List.mem_flatMap.2 ⟨l,g,dm.2 ⟨k,c,rfl⟩⟩) e
 have r:=List.pairwise_iff_getElem.1 B.2;have C:=bc (W1 n);have D:=bc (W1 o);rw[C]at c e;rw[D]at a e;rcases Nat.lt_trichotomy i j with b|p|b
 ·exact absurd e (r i j n o b _ (dm.2 ⟨k,c,rfl⟩) _ (dm.2 ⟨q,a,rfl⟩))
 ·exact p
 exact absurd e.symm (r j i o n b _ (dm.2 ⟨q,a,rfl⟩) _ (dm.2 ⟨k,c,rfl⟩))
theorem gk{s:ax}{a:Int}(b:bg s=true):cq s a=true↔16*s.Q<=a/\a<=16*s.Q+15:=by
 unfold cq;rw[b];simp
theorem jg{sp:List ax}{la:List a8}(b:rT sp la){a:Int}{i:Nat}(c:i<sp.length)(h:16*(nth sp i).Q<=a/\a<=16*(nth sp i).Q+15):denotes sp la a=nz i (nth sp i) a:=by
 refine mY c ((gk (b.sok _ (am c))).2 h) λj z l d=>?_
 cases e:cq z a with
 | false=>rfl
 | true=>
  exfalso;have g:=(Z1.1 d).1;have n:=(gk (b.sok z (U1 d))).1 e;have k:=bc d;subst k;have:=cE (f:=(·.Q)) b.nd c g ω;omega
theorem P5{sp:List ax}{la:List a8}(d:rT sp la){a:Int}(h:∀i,i<sp.length->¬(16*(nth sp i).Q<=a/\a<=16*(nth sp i).Q+15)):∀(j:Nat)(z:ax),j<sp.length->sp[j]? = some z->cq z a=false:=by
 intro j z f c;cases e:cq z a with
 | false=>rfl
 | true=>
  have g:=(gk (d.sok z (U1 c))).1 e;have b:=bc c;subst b;exact absurd g (h j f)
theorem LH{sp:List ax}{la:List a8}(f:rT sp la)(a:Int):a∈live0 sp la↔a∈iA sp la:=by
 have L:a∈iA sp la↔∃n:Nat,n<512/\jI sp la n=true/\(n:Int)=a:=by
  unfold iA ll;simp only[C4,I4,List.mem_range];constructor
  ·rintro⟨n,⟨g,p⟩,B⟩;exact⟨n,g,p,B⟩
  rintro⟨n,g,p,B⟩;exact⟨n,⟨g,p⟩,B⟩
 rw[L];unfold live0 fm;rw[U2,List.mem_flatMap,C4];constructor
 ·rintro(⟨s,t,H⟩|⟨l,b,rfl⟩)
  ·obtain⟨i,h,rfl⟩:=aJ t
   unfold dS at H;obtain⟨k,M,rfl⟩:=C4.1 H;obtain⟨u,C⟩:=I4.1 M;have u:=List.mem_range.1 u;have c:=aC (f.sok _ t);have q:=zz ⟨c.2.2.1,c.2.2.2⟩;have N:=rD (nth sp i).b;unfold k7;have O:0<=(k:Int)*csz (nth sp i).b/\(k:Int)*csz (nth sp i).b<=15:=by
    rcases bM ⟨c.2.2.1,c.2.2.2⟩ with e|e|e|e<;>rw[e]at q |-<;>omega
   have o:=jg f h (a:=16*(nth sp i).Q+(k:Nat)*csz (nth sp i).b) ω;have J:(16*(nth sp i).Q+(k:Nat)*csz (nth sp i).b - 16*(nth sp i).Q) / csz (nth sp i).b=(k:Nat)/\(16*(nth sp i).Q+(k:Nat)*csz (nth sp i).b - 16*(nth sp i).Q) % csz (nth sp i).b=0:=by
    rcases bM ⟨c.2.2.1,c.2.2.2⟩ with e|e|e|e<;>rw[e]<;>omega
   refine⟨(16*(nth sp i).Q+(k:Nat)*csz (nth sp i).b).toNat,ω,?_,ω⟩;have d:(((16*(nth sp i).Q+(k:Nat)*csz (nth sp i).b).toNat:Nat):Int)=16*(nth sp i).Q+(k:Nat)*csz (nth sp i).b:=ω
   unfold jI;rw[d,o];simp only[nz,J.1,J.2,C]
   rfl
  obtain⟨i,h,rfl⟩:=aJ b;have R:=aM (f.lok _ b);have P:=cw (f.lok _ b);have g:=P5 f (a:=16*(nth la i).Q) λj K S=>f.dis _ (am K) _ b 0 ω ω
  have A:bn (nth la i) (16*(nth la i).Q)=true:=by
   unfold bn;rw[f.lok _ b,O0 ω];rfl
  have o:=lD (a:=16*(nth la i).Q) (W2 _) g h A λj z K r=>by
   cases e:bn z (16*(nth la i).Q) with
   | false=>rfl
   | true=>
    exfalso;have D:=(Z1.1 r).1;have w:=U1 r;have E:=bc r;subst E;have Q:=aM (f.lok _ w);have y:=f.lok _ w;unfold bE at y;rw[C0]at y;unfold bn at e;rw[I0,C0]at e;have:=f.one i j h D 0 ((nth la i).Q - (nth la j).Q).toNat ω ω ω;omega
  refine⟨(16*(nth la i).Q).toNat,ω,?_,ω⟩;have d:(((16*(nth la i).Q).toNat:Nat):Int)=16*(nth la i).Q:=ω
  unfold jI;rw[d,o];simp
 rintro⟨n,T,b,rfl⟩
 cases g:sp.findIdx? (cq · (n:Nat)) with
 | some i=>
  obtain⟨h,F,-⟩:=T6.1 g;have G:=bc (W1 h);rw[<-G]at F;have t:=f.sok _ (am h);have p:=(gk t).1 F;have c:=aC t;have q:=zz ⟨c.2.2.1,c.2.2.2⟩;have o:denotes sp la (n:Nat)=nz i (nth sp i) (n:Nat):=by unfold denotes;rw[g]
  rw[rF o]at b;simp only[I0,X5,C0]at b;simp only[nz]at b;cases A:aR (nth sp i).b1 (((n:Int) - 16*(nth sp i).Q) / csz (nth sp i).b) with
  | false=>rw[A]at b;simp at b
  | true=>
   have r:((n:Int) - 16*(nth sp i).Q) % csz (nth sp i).b=0:=b.1;refine .inl ⟨nth sp i,am h,?_⟩;unfold dS;refine C4.2 ⟨(((n:Int) - 16*(nth sp i).Q) / csz (nth sp i).b).toNat,I4.2 ⟨List.mem_range.2 ?_,?_⟩,?_⟩
   ·rcases bM ⟨c.2.2.1,c.2.2.2⟩ with e|e|e|e<;>rw[e]at q r |-<;>omega
   ·have:((((n:Int) - 16*(nth sp i).Q) / csz (nth sp i).b).toNat:Int)=((n:Int) - 16*(nth sp i).Q) / csz (nth sp i).b:=by
     rcases bM ⟨c.2.2.1,c.2.2.2⟩ with e|e|e|e<;>rw[e]<;>omega
    rw[this];exact A
   unfold k7;rcases bM ⟨c.2.2.1,c.2.2.2⟩ with e|e|e|e<;>rw[e]at r |-<;>omega
 | none=>
  cases p:la.findIdx? (bn · (n:Nat)) with
  | some i=>
   obtain⟨h,F,-⟩:=T6.1 p;have o:denotes sp la (n:Nat) = ⟨3,i,0,(n:Nat) - 16*(nth la i).Q⟩:=by unfold denotes;rw[g,p]
   rw[rF o]at b;simp only[I0,C0]at b;exact .inr ⟨nth la i,am h,by have:=b.1;omega⟩
  | none=>
   have o:denotes sp la (n:Nat) = ⟨0,0,0,0⟩:=by unfold denotes;rw[g,p]
   rw[rF o]at b;simp at b
theorem uN{sp:List ax}{la:List a8}(e:rT sp la){a:Int}(b:(denotes sp la a).c5=0)(c:(denotes sp la a).b6=1\/(denotes sp la a).b6=3):a∈iA sp la:=by
 have l:0<=a/\a<512:=by
  unfold denotes at b c;cases h:sp.findIdx? (cq · a) with
  | some i=>
   obtain⟨f,k,-⟩:=T6.1 h;have j:=List.getElem_mem f;have d:=(gk (e.sok _ j)).1 k;have g:=aC (e.sok _ j);omega
  | none=>
   rw[h]at b c;cases d:la.findIdx? (bn · a) with
   | some i=>
    obtain⟨f,-⟩:=T6.1 d;rw[d]at b;have n:=aM (e.lok _ (am f));simp only at b;omega
   | none=>rw[d]at c;simp at c
 have g:((a.toNat:Nat):Int)=a:=ω
 unfold iA ll;refine C4.2 ⟨a.toNat,I4.2 ⟨List.mem_range.2 ω,?_⟩,g⟩;unfold jI;rw[g];simp only[I0,X5,C0];exact⟨b,c⟩
theorem nL(sp:List ax)(la:List a8):(iA sp la).Nodup:=by
 unfold iA ll List.Nodup;rw[List.pairwise_map];exact(List.nodup_range.sublist List.filter_sublist).imp λh e=>h ω
theorem th{h:ab}(d:rT h.M h.K){a c:Int}(b:dn h a c=true):a∈iA h.M h.K:=by
 unfold dn at b;simp only[I0,C0]at b;exact uN d b.1.2 (.inl b.1.1)
theorem Mj{h:ab}(b:rT h.M h.K){o:br}(a:iz h o=true):o.Addr∈iA h.M h.K:=by
 unfold iz at a;simp only[I0,X5,C0]at a;exact uN b a.1 (a.2.elim (λe=>.inl e.1) (λe=>.inr e.1))
theorem FH(h:ab)(a:Int):(lN h).count a=(holders h).count a:=by
 unfold lN holders;simp only[V5];omega
theorem kU(h:ab):gX h=true↔(h.T.all (eJ h)=true/\h.a6.a5.all (gT h)=true)/\(aL h.w).all (kh h)=true:=by
 unfold gX;simp only[I0]
theorem q9{h:ab}(e:rT h.M h.K)(g:fe h=true)(j:gX h=true):∀a∈holders h,a∈iA h.M h.K:=by
 obtain⟨⟨n,p⟩,q⟩:=(kU h).1 j;intro a b;unfold holders at b;simp only[U2]at b;rcases b with((b|b)|b)|b
 ·obtain⟨o,f,rfl⟩:=C4.1 b
  obtain⟨i,r,rfl⟩:=aJ f;have d:=dC g r;unfold objAt at d;rw[I0]at d;exact Mj e d.2
 ·unfold cy at b
  obtain⟨c,t,b⟩:=List.mem_flatMap.1 b;obtain⟨l,u,b⟩:=List.mem_flatten.1 b;obtain⟨k,w,rfl⟩:=aJ u;have d:=W3.1 n c t;unfold eJ at d;have y:=W3.1 (show(nth c.d k).all _=true from dC d w) a b;exact th e y
 ·obtain⟨x,A,rfl⟩:=C4.1 b
  exact th e (W3.1 p x A)
 exact th e (W3.1 q a b)
theorem Jl{h:ab}(c:bk h.M h.K=true)(o:fe h=true):(kS h&&iR h)=j8 h:=by
 have f:=rT.of c;have p:(kS h=true/\h.a6.a5.all (gT h)=true)↔h.a6.a5.all (r6 h)=true:=by
  unfold kS r6;simp only[W3,I0];exact⟨λe x b=>⟨e.2 x b,e.1 x b⟩,λe=>⟨λx b=>(e x b).2,λx b=>(e x b).1⟩⟩
 have r:j8 h=true↔((h.T.all (eJ h)=true/\h.a6.a5.all (r6 h)=true)/\(aL h.w).all (kh h)=true)/\∀a∈iA h.M h.K,(holders h).count a=1:=by
  unfold j8;simp only[I0];refine and_congr Iff.rfl ?_;simp only[W3,C0,FH];unfold nu sorted;simp only[List.mem_mergeSort,LH f]
 have g:iR h=true↔gX h=true/\((holders h).Nodup/\(holders h).length=(iA h.M h.K).length):=by
  unfold iR;simp only[I0,C0,and_assoc]
 rw[U4,I0,r,g];constructor
 ·rintro⟨i,d,j⟩
  obtain⟨⟨k,l⟩,n⟩:=(kU h).1 d;exact⟨⟨⟨k,p.1 ⟨i,l⟩⟩,n⟩,(yw (nL ..) (q9 f o d)).1 j⟩
 rintro⟨⟨⟨i,d⟩,j⟩,k⟩
 obtain⟨l,n⟩:=p.2 d;have q:gX h=true:=(kU h).2 ⟨⟨i,n⟩,j⟩;exact⟨l,q,(yw (nL ..) (q9 f o q)).2 k⟩
theorem gt(s t:ax):meshable s t=meshable t s:=by
 unfold meshable;rw[Bool.and_comm (bg s)]
 congr 1
 refine decide_eq_decide.2 ?_;rw[Nat.and_comm];exact⟨λh=>⟨h.1.symm,λe=>h.2.1 e.symm,h.2.2⟩,λh=>⟨h.1.symm,λe=>h.2.1 e.symm,h.2.2⟩⟩
theorem dM{t:aH}{f:Int}{p:Nat} : (p:Int)∈pagesOn t f↔p<t.J.length/\(nth t.J p).j≠0/\(nth t.J p).e=f:=by
 unfold pagesOn j9;simp only[C4,I4,List.mem_range];constructor
 ·rintro⟨n,⟨b,a⟩,c⟩
  obtain rfl:n=p:=ω
  unfold JE at a;rw[C0]at a;exact⟨b,a⟩
 rintro⟨b,a⟩
 exact⟨p,⟨b,by unfold JE;rw[C0];exact a⟩,rfl⟩
theorem tU{t:aH}{f q:Int}(h:q∈pagesOn t f):∃p:Nat,q=(p:Nat):=by
 unfold pagesOn j9 at h;obtain⟨n,-,rfl⟩:=C4.1 h;exact⟨n,rfl⟩
theorem qX{h:ab}(a:pages0 h=true):(∀i,i<h.K.length->∀k:Nat,k<(nth h.K i).a2.toNat->(aP h ((nth h.K i).Q+(k:Nat))).length=1)/\(∀p∈pgs h.M h.K,p<eM h)/\∀p:Nat,p<eM h->((nth (tbl h).J p).j≠0↔(p:Int)∈pgs h.M h.K):=by
 unfold pages0 at a;simp only[I0]at a;obtain⟨⟨⟨-,d⟩,e⟩,f⟩:=a;refine⟨λi g k j=>?_,λp a=>?_,λp a=>?_⟩
 ·have b:=dC d g
  unfold si at b;rw[I0]at b;have c:=dC b.2 j;unfold xa at c;rw[C0]at c;exact c
 ·have:=W3.1 e p a
  rw[C0]at this;exact this
 have b:=dC f a;unfold u9 at b;rw[I0,C0]at b;exact b.1
theorem vF{h:ab}{p:Nat}(a:p<eM h):ac (tbl h) (p:Nat)=nth (tbl h).J p:=lC a
theorem eY{h:ab}{p:Nat}(a:p<eM h)(b:(nth (tbl h).J p).j≠0):aP h (p:Nat)=pagesOn (tbl h) (nth (tbl h).J p).e:=by
 unfold aP;rw[show h.G.F.R=tbl h from rfl,vF a,C8 b]
theorem sO{h:ab}(g:rT h.M h.K){j:Nat}(c:j<h.M.length):gm h (nth h.M j).Q=(j:Nat):=by
 unfold gm;refine ed (ao c) (by unfold jL;simp) λk z i d=>?_
 have a:=bc d;have b:=(Z1.1 d).1;subst a;unfold jL;refine R0 λe=>?_
 have:=cE (f:=(·.Q)) g.nd b c e;omega
theorem zn{h:ab}(y:bk h.M h.K=true)(T:pages0 h=true):uh h=np h:=by
 have G:=rT.of y;obtain⟨U,V,O⟩:=qX T;have t:∀i,i<h.M.length->∃p:Nat,(nth h.M i).Q=(p:Nat)/\p<eM h/\(nth (tbl h).J p).j≠0:=λi n=>by
  have hc:=aC (G.sok _ (am n));have P:(nth h.M i).Q∈pgs h.M h.K:=by
   unfold pgs;exact U2.2 (.inl (C4.2 ⟨_,am n,rfl⟩))
  have o:=V _ P;refine⟨(nth h.M i).Q.toNat,ω,ω,?_⟩;refine(O _ ω).2 ?_;rw[show(((nth h.M i).Q.toNat:Nat):Int)=(nth h.M i).Q by omega];exact P
 rw[U4];unfold uh np;rw[cH,cH];constructor
 ·intro K i n
  rw[cH];intro j L;have A:j<h.M.length:=ω
  unfold kD;rw[X5,C0];by_cases b:(ac (tbl h) (nth h.M i).Q).e=(ac (tbl h) (nth h.M j).Q).e
  ·right
   obtain⟨p,f,c,r⟩:=t i n;obtain⟨q,B,a,g⟩:=t j A;have d:=W3.1 (K i n);rw[f,B,vF c,vF a]at b;have W:(q:Int)∈aP h (nth h.M i).Q:=by
    rw[f,eY c r];exact dM.2 ⟨a,g,b.symm⟩
   have u:=d _ W;unfold l7 at u;rw[<-B,sO G A]at u;rw[X5,I0,C0]at u;rcases u with u|u
   ·omega
   simpa using u.2
  exact .inl b
 intro C i n;rw[W3];intro q H;obtain⟨p,f,c,r⟩:=t i n;have X:=H;rw[f,eY c r]at H;obtain⟨J,rfl⟩:=tU H;obtain⟨a,g,D⟩:=dM.1 H;have w:=(O J a).1 g;unfold pgs at w;rw[U2,C4,List.mem_flatMap]at w;rcases w with⟨s,K,E⟩|⟨l,Y,M⟩
 ·obtain⟨j,L,rfl⟩:=aJ K
  unfold l7;rw[<-E,sO G L];rw[X5,I0,C0,C0];have b:(ac (tbl h) (nth h.M i).Q).e=(ac (tbl h) (nth h.M j).Q).e:=by
   rw[f,E,vF c,vF a,D]
  rcases Nat.lt_trichotomy j i with o|Z|o
  ·have d:=dC (C i n) o
   unfold kD at d;rw[X5,C0]at d;exact .inr ⟨ω,by simpa using d.resolve_left λe=>e b⟩
  ·exact .inl ω
  have d:=dC (C j L) o;unfold kD at d;rw[X5,C0]at d;exact .inr ⟨ω,by rw[gt];simpa using d.resolve_left λe=>e b.symm⟩
 exfalso;obtain⟨i2,F,rfl⟩:=aJ Y;obtain⟨k,Q,N⟩:=dm.1 M;have d:=U i2 F k Q;rw[<-N,eY a g]at d;have R:(J:Int)∈pagesOn (tbl h) (nth (tbl h).J J).e:=dM.2 ⟨a,g,rfl⟩;have S:(p:Int)∈pagesOn (tbl h) (nth (tbl h).J J).e:=dM.2 ⟨c,r,D.symm⟩;obtain⟨z,hz⟩:=List.length_eq_one_iff.1 d;rw[hz]at R S;simp only[C1]at R S;have:=G.dis _ (am n) _ (am F) k Q;omega
theorem Jp(h:ab):jU h=dO h:=by
 unfold jU dO l9;cases d:a7 h.G with
 | false=>rfl
 | true=>
  cases e:b9 (eM h) h.q with
  | false=>rfl
  | true=>
   cases a:bk h.M h.K with
   | false=>rfl
   | true=>
    cases b:pages0 h with
    | false=>rfl
    | true=>
     rw[zn a b];cases c:fe h with
     | false=>simp
     | true=>
      have:=Jl a c;rw[<-this];cases np h<;>cases dw h<;>cases kS h<;>cases h.T.all bw<;>cases cg h<;>cases iR h<;>cases tN h<;>rfl
def ovl(y r:aA):Bool:=decide (y.At<r.At+r.b0/\r.At<y.At+y.b0)
def mi(r:aA):List aA->Bool->Option (List aA)
 | [],put=>some (if put then [] else [r])
 | y::a,put=>if ovl y r then none else if !put&&decide (y.At > r.At) then(mi r a true).map λt=>r::y::t else(mi r a put).map λt=>y::t
def df(out:List aA):List aA->List aA
 | []=>out
 | y::ys=>match out.getLast? with
  | some z=>if z.At+z.b0=y.At then df (out.dropLast++[⟨z.At,z.b0+y.b0⟩]) ys else df (out++[y]) ys
  | none=>df (out++[y]) ys
def jK:List aA->aA->List aA->Bool->Option (List aA)
 | [],r,out,done=>some (if done then out else out++[r])
 | y::ys,r,out,done=>
  if ovl y r then none
  else if y.At+y.b0=r.At then jK ys ⟨y.At,y.b0+r.b0⟩ out done
  else if r.At+r.b0=y.At then jK ys ⟨r.At,r.b0+y.b0⟩ out done
  else if y.At > r.At/\done=false then jK ys r (out++[r,y]) true
  else jK ys r (out++[y]) done
def ow(xs:List aA):Prop:=xs.Pairwise (λa b=>a.At+a.b0<b.At)/\∀y∈xs,1<=y.b0
theorem ow.tail{y:aA}{a:List aA}(h:ow (y::a)):ow a:=⟨(List.pairwise_cons.1 h.1).2,λz b=>h.2 z (Z4 _ b)⟩
theorem ow.head{y:aA}{a:List aA}(h:ow (y::a)):∀z∈a,y.At+y.b0<z.At:=(List.pairwise_cons.1 h.1).1
theorem iS:∀(a out:List aA),ow a->(∀z,out.getLast? = some z->∀y∈a,z.At+z.b0≠y.At)->df out a=out++a
 | [],out,_,_=>by simp[df]
 | y::a,out,d,e=>by
  have b:df (out++[y]) a=out++y::a:=by
   rw[iS a (out++[y]) d.tail λz c w f=>by
     simp at c;subst c;have:=d.head w f;omega]
   simp
  unfold df;split
  ·rename_i z c
   rw[C8 (e z c y (R1 ..))];exact b
  exact b
theorem vR{r:aA} : ∀{a:List aA},ow a->(∀y∈a,r.At+r.b0<=y.At)->mi r a true=some a
 | [],_,_=>rfl
 | y::a,c,b=>by
  have e:=b y (R1 ..);unfold mi;rw[C8 (by unfold ovl;rw[C0];omega)];simp only[Bool.not_true,Bool.false_and,Bool.false_eq_true,if_false];rw[vR c.tail λz d=>b z (Z4 _ d)]
  rfl
theorem ul{r:aA}(h1:1<=r.b0){a:List aA}(c:ow a)(b:∀y∈a,r.At+r.b0<=y.At):mi r a false=some (r::a):=by
 cases a with
 | nil=>rfl
 | cons y a=>
  have e:=b y (R1 ..);unfold mi;rw[C8 (by unfold ovl;rw[C0];omega),C9 (by simp;omega),vR c.tail λz d=>b z (Z4 _ d)]
  rfl
theorem oL{r:aA} : ∀{a out:List aA},ow a->1<=r.b0->(∀y∈a,r.At+r.b0<y.At)->jK a r out true=some (out++a)
 | [],out,_,_,_=>by simp[jK]
 | y::a,out,b,d,c=>by
  have f:=c y (R1 ..);have g:=b.2 y (R1 ..);unfold jK;rw[C8 (by unfold ovl;rw[C0];omega),C8 ω,C8 ω,C8 (by simp),oL b.tail d λz e=>c z (Z4 _ e)];simp
theorem xt{r:aA}(h1:1<=r.b0){a out:List aA}(b:ow a)(c:∀y∈a,r.At+r.b0<=y.At):jK a r out false=some (out++match a with|[]=>[r]|y::zs=>if r.At+r.b0=y.At then⟨r.At,r.b0+y.b0⟩::zs else r::y::zs):=by
 cases a with
 | nil=>simp[jK]
 | cons y a=>
  have g:=c y (R1 ..);have h:=b.2 y (R1 ..);unfold jK;rw[C8 (by unfold ovl;rw[C0];omega),C8 ω];by_cases e:r.At+r.b0=y.At
  ·rw[C9 e]
   simp only[e,if_true];cases a with
   | nil=>simp[jK]
   | cons z a=>
    have i:=b.head z (R1 ..);have j:=b.tail.2 z (R1 ..);unfold jK;simp only;rw[C8 (by unfold ovl;rw[C0];simp only;omega),C8 ω,C8 ω,C9 (by simp;omega),oL b.tail.tail (by simp only;omega) λw d=>by
      have:=b.tail.head w d;simp only;omega]
    simp
  rw[C8 e,C9 (by simp;omega),oL b.tail h1 λz f=>by have:=b.head z f;omega];simp[e]
theorem zd{pages:Int} : ∀{b:List aA}{r:aA}{out:List aA},ow b->1<=r.b0->(∀z,out.getLast? = some z->(∀y∈b,z.At+z.b0<y.At)/\z.At+z.b0<r.At)->(mi r b false).map (df out)=jK b r out false
 | [],r,out,_,j,u=>by
  show some (df out [r])=some (out++[r]);rw[iS [r] out ⟨List.pairwise_singleton ..,λy B=>by rw[C1.1 B];exact j⟩ λz d y B=>by rw[C1.1 B];have:=(u z d).2;omega]
 | y::b,r,out,c,j,u=>by
  have L:=c.2 y (R1 ..);by_cases l:ovl y r=true
  ·unfold mi jK
   rw[C9 l,C9 l];rfl
  ·have n:=l
   unfold ovl at n;rw[C0]at n;by_cases C:r.At+r.b0<=y.At
   ·-- all to the right
    have f:∀w∈y::b,r.At+r.b0<=w.At:=λw a=>by
     rcases List.mem_cons.1 a with rfl|a
     ·exact C
     have:=c.head w a;omega
    rw[ul j c f,xt j c f];show some (df out (r::y::b))=_;have hfirst:df out (r::y::b)=df (out++[r]) (y::b):=by
     conv=>lhs;unfold df
     split
     ·rename_i z d;rw[C8 (by have:=(u z d).2;omega)]
     rfl
    rw[hfirst];by_cases e:r.At+r.b0=y.At
    ·have:df (out++[r]) (y::b)=df (out++[⟨r.At,r.b0+y.b0⟩]) b:=by
      conv=>lhs;unfold df
      simp[e]
     rw[this,iS b _ c.tail λz d w a=>by
       simp at d;subst d;have:=c.head w a;simp only;omega]
     simp[e]
    rw[iS (y::b) (out++[r]) c λz d w a=>by
      simp at d;subst d;rcases List.mem_cons.1 a with rfl|a
      · exact e
      have:=c.head w a;omega]
    simp[e]
   have F:y.At+y.b0<=r.At:=ω
   have i:∀t,df out (y::t)=df (out++[y]) t:=λt=>by
    conv=>lhs;unfold df
    split
    ·rename_i z d;rw[C8 (by have:=(u z d).1 y (R1 ..);omega)]
    rfl
   have G:(mi r (y::b) false).map (df out)=(mi r b false).map (df (out++[y])):=by
    conv=>lhs;unfold mi
    rw[C8 l,C8 (by simp;omega),Option.map_map]
    congr 1
    funext t
    exact i t
   rw[G];unfold jK;rw[C8 l];by_cases e:y.At+y.b0=r.At
   ·rw[C9 e]
    by_cases o:∃w,b.head? = some w/\ovl w r=true
    ·obtain⟨w,a,p⟩:=o
     cases b with
     | nil=>cases a
     | cons g k=>
      obtain rfl:g=w:=by simpa using a
      have H:=c.head g (R1 ..);have J:=c.tail.2 g (R1 ..);have q:=p;unfold ovl at q;rw[C0]at q;unfold mi jK;rw[C9 p,C9 (by unfold ovl;rw[C0];simp only;omega)]
      rfl
    have f:∀w∈b,r.At+r.b0<=w.At:=by
     cases b with
     | nil=>intro w a;cases a
     | cons g k=>
      have H:=c.head g (R1 ..);have J:=c.tail.2 g (R1 ..);have E:¬ovl g r=true:=λh=>o ⟨g,rfl,h⟩
      unfold ovl at E;rw[C0]at E;intro w a;rcases List.mem_cons.1 a with rfl|a
      ·omega
      have:=c.tail.head w a;omega
    rw[ul j c.tail f,xt (r:=⟨y.At,y.b0+r.b0⟩) (by simp only;omega) c.tail λw a=>by have:=f w a;simp only;omega];show some (df (out++[y]) (r::b))=_;have K:df (out++[y]) (r::b)=df (out++[⟨y.At,y.b0+r.b0⟩]) b:=by
     conv=>lhs;unfold df
     simp[e]
    rw[K];cases b with
    | nil=>simp[df]
    | cons g k=>
     by_cases A:y.At+(y.b0+r.b0)=g.At
     ·have D:df (out++[⟨y.At,y.b0+r.b0⟩]) (g::k)=df (out++[⟨y.At,y.b0+r.b0+g.b0⟩]) k:=by
       conv=>lhs;unfold df
       simp[A]
      rw[D,iS k _ c.tail.tail λz d w a=>by
        simp at d;subst d;have:=c.tail.head w a;simp only;omega]
      simp[A]
     rw[iS (g::k) _ c.tail λz d w a=>by
       simp at d;subst d;simp only;rcases List.mem_cons.1 a with rfl|a
       · exact A
       have:=c.tail.head w a;have:=f g (R1 ..);have:=c.tail.2 g (R1 ..);omega]
     simp[A]
   rw[C8 e,C8 ω,C8 ω];exact zd (pages:=pages) c.tail j λz d=>by
    simp at d;subst d;exact⟨c.head,ω⟩
def gH(k:ah)(f:Int):ah:=if(pagesOn k.F.R f).length=0 then {k with F:=⟨⟨k.F.V.S.set f.toNat (List.replicate 16 0),k.F.V.a9.set f.toNat false⟩,k.F.R⟩} else k
def pk(k:ah)(p:Int):ah:={k with F:=⟨k.F.V,⟨k.F.R.J.set p.toNat ⟨0,0⟩⟩⟩}
def dJ(k:ah)(p:Int):ah:=if(ac k.F.R p).j=0 then k else gH (pk k p) (ac k.F.R p).e
theorem bA{α:Type}[Inhabited α](xs:List α)(i j:Nat)(x:α):nth (xs.set i x) j=if i=j/\j<xs.length then x else nth xs j:=by
 unfold nth;rw[I2,I2,U3];by_cases h:i=j
 ·subst h
  by_cases a:i<xs.length
  ·simp[a]
  simp[a]
 simp[h]
theorem me(k:ah)(f:Int):(gH k f).F.R=k.F.R/\(gH k f).Calls=k.Calls/\(gH k f).y=k.y/\(gH k f).F.V.S.length=k.F.V.S.length/\(gH k f).F.V.a9.length=k.F.V.a9.length:=by
 unfold gH;split<;>simp
theorem kH(k:ah)(p:Int):(dJ k p).F.R.J.length=k.F.R.J.length/\(dJ k p).Calls=k.Calls/\(dJ k p).y=k.y:=by
 unfold dJ;split
 ·exact⟨rfl,rfl,rfl⟩
 obtain⟨a,b,c,-⟩:=me (pk k p) (ac k.F.R p).e;rw[a,b,c];simp[pk]
theorem aD{k:ah} : a7 k=true↔(∀j,j<k.y.length->0<=nth k.y j)/\dv k.F.V=true/\fY k.F.R k.F.V.a9.length=true/\(∀j,j<k.F.V.a9.length->nth k.F.V.a9 j=decide (0<(pagesOn k.F.R (j:Int)).length))/\0<=k.Calls/\k.Calls<=100000/\k.y.length<=40:=by
 unfold a7 dy;simp only[I0,cH,C0,nD,beq_iff_eq,and_assoc]
theorem aW{f:bo} : dv f=true↔1<=f.S.length/\f.S.length<=32/\f.a9.length=f.S.length/\∀j,j<f.S.length->gF (nth f.S j) (nth f.a9 j)=true:=by
 unfold dv;simp only[I0,C0,W3,and_assoc];refine and_congr Iff.rfl (and_congr Iff.rfl (and_congr_right λe=>⟨λh j a=>?_,λh q c=>?_⟩))
 ·exact h _ (U1 (uO (ao a) (ao ω)))
 obtain⟨j,a⟩:=List.mem_iff_getElem?.1 c;obtain⟨b,d⟩:=List.getElem?_zip_eq_some.1 a;have:=h j (Z1.1 b).1
 rwa [bc b,bc d]at this
theorem bx{t:aH}{a:Int} : fY t a=true↔(∀j,j<t.J.length->jS a (nth t.J j)=true)/\1<=t.J.length/\t.J.length<=32:=by
 unfold fY;simp only[I0,cH,C0]
theorem dL{t:aH}{f:Int} : 0<(pagesOn t f).length↔∃q,q<t.J.length/\(nth t.J q).j≠0/\(nth t.J q).e=f:=by
 unfold pagesOn j9;rw[X0,List.length_pos_iff_exists_mem];simp[JE]
theorem bX{k:ah}{p:Int}(h:a7 k=true)(b:(ac k.F.R p).j≠0):0<=p/\p<k.F.R.J.length/\ac k.F.R p=nth k.F.R.J p.toNat/\0<=(ac k.F.R p).e/\(ac k.F.R p).e<k.F.V.a9.length:=by
 obtain⟨-,-,c,-⟩:=aD.1 h;have a:0<=p/\p<k.F.R.J.length:=by
  by_cases a:0<=p/\p<k.F.R.J.length
  ·exact a
  unfold ac at b;rw[C8 a]at b;exact absurd rfl b
 have d:ac k.F.R p=nth k.F.R.J p.toNat:=by unfold ac;rw[C9 a]
 have:=(bx.1 c).1 p.toNat ω;rw[d]at b |-;unfold jS at this;rw[C0]at this;exact⟨a.1,a.2,rfl,this.2.2.2 b⟩
theorem xj{k:ah}(p:Int)(h:a7 k=true):a7 (dJ k p)=true:=by
 unfold dJ;split
 ·exact h
 rename_i t;obtain⟨E,F,G,l,n⟩:=bX h t;obtain⟨u,w,H,y,A,B,C⟩:=aD.1 h;obtain⟨J,K,L,M⟩:=aW.1 w;obtain⟨N,O,P⟩:=bx.1 H;rw[G]at t l n |-;generalize Q:(nth k.F.R.J p.toNat).e=f at l n;have g:∀q,nth (k.F.R.J.set p.toNat ⟨0,0⟩) q=if p.toNat=q then⟨0,0⟩ else nth k.F.R.J q:=λq=>by
  rw[bA];by_cases r:p.toNat=q
  ·rw[C9 ⟨r,ω⟩,C9 r]
  rw[C8 (λe=>r e.1),C8 r]
 have b:∀j:Int,0<(pagesOn (⟨k.F.R.J.set p.toNat ⟨0,0⟩⟩ : aH) j).length↔∃q,q<k.F.R.J.length/\q≠p.toNat/\(nth k.F.R.J q).j≠0/\(nth k.F.R.J q).e=j:=λj=>by
  rw[dL];simp only[I1,g]
  grind
 have c:∀j:Int,0<(pagesOn k.F.R j).length↔∃q,q<k.F.R.J.length/\(nth k.F.R.J q).j≠0/\(nth k.F.R.J q).e=j:=λj=>dL
 have i:fY ⟨k.F.R.J.set p.toNat ⟨0,0⟩⟩ k.F.V.a9.length=true:=by
  rw[bx];simp only[I1,g];refine⟨λj d=>?_,O,P⟩;split
  ·unfold jS;simp
  exact N j d
 unfold gH;split
 ·rename_i o
  rw[aD];simp only[pk,I1]at o |-;refine⟨u,?_,i,λj d=>?_,A,B,C⟩
  ·rw[aW]
   simp only[I1,bA];refine⟨J,K,L,λj d=>?_⟩;by_cases a:f.toNat=j
   ·rw[C9 ⟨a,d⟩,C9 ⟨a,ω⟩];decide
   rw[C8 (λe=>a e.1),C8 (λe=>a e.1)];exact M j d
  rw[bA];by_cases a:f.toNat=j
  ·rw[C9 ⟨a,d⟩]
   have:(j:Int)=f:=ω
   rw[this];exact(R0 λR=>absurd o (Nat.ne_of_gt R)).symm
  rw[C8 (λe=>a e.1),y j d];refine decide_eq_decide.2 ?_;rw[c,b]
  grind
 rename_i o;rw[aD];simp only[pk]at o |-;refine⟨u,w,i,λj d=>?_,A,B,C⟩;rw[y j d];refine decide_eq_decide.2 ?_;by_cases a:f=j
 ·have D:0<(pagesOn (⟨k.F.R.J.set p.toNat ⟨0,0⟩⟩ : aH) j).length:=by rw[<-a];exact Nat.pos_of_ne_zero o
  have:=(b j).1 D;constructor
  ·intro _;exact D
  intro _;rw[c];grind
 rw[c,b];grind
theorem bH{k:ah}(h:a7 k=true):ah.sml k:=by
 obtain⟨g,b,c,i,l,n,o⟩:=aD.1 h;obtain⟨p,q,t,d⟩:=aW.1 b;obtain⟨u,w,y⟩:=bx.1 c;refine⟨⟨⟨⟨ω,λr f=>?_⟩,(by omega:_<=1048576)⟩,⟨ω,λe _=>trivial⟩⟩,(by omega:_<=1048576)⟩;obtain⟨j,a⟩:=List.mem_iff_getElem?.1 f;have:=d j (Z1.1 a).1;rw[bc a]at this;unfold gF at this;simp only[I0,C0]at this;show r.length<=1048576;omega
theorem A7{h:ab}(a:dO h=true):a7 h.G=true:=by
 unfold dO l9 at a;simp only[I0]at a
 grind
theorem Ap.cp{α:Type}{e:α->List C}{xs:List α}{sz by_:Nat}{K:List (List C)->Prop}(b:∀x,(e x).length=sz)(c:∀x,aX (e x)=true)(d:xs.length<=1048576)(f:by_<=1000)(g:K (xs.map e)):Ap true [] (xs.map e) sz by_ K:=
 CT (λr a=>by cases a) (λr a=>by obtain⟨y,-,rfl⟩:=C4.1 a;exact b y) (λ_ r a=>by obtain⟨y,-,rfl⟩:=C4.1 a;exact c y) (by simp;omega) (by simp only[X0,List.length_nil,R6];exact yM d f) rfl g
theorem CR:type_of% @Ap.cp:=@Ap.cp
theorem Fl.cp{α:Type}{e:α->List C}{xs:List α}{sz by_:Nat}{X:Prop}(a:∀x,(e x).length=sz)(b:∀x,aX (e x)=true)(c:xs.length<=1048576)(d:by_<=1000)(f:X):Fl (xs.map e) sz by_ X:=
 Fl.mk (λr g=>by obtain⟨y,-,rfl⟩:=C4.1 g;exact⟨a y,b y⟩) (by simp;omega) (by simp only[X0];exact yM c d) f
theorem CU:type_of% @Fl.cp:=@Fl.cp
theorem Ap.sn{rows b:List (List C)}{r:List C}{sz by_:Nat}{K:List (List C)->Prop}(h1:∀r∈rows,r.length=sz)(c:r.length=sz)(d:rows.length+1<=1048576)(e:by_<=1000)(a:b=rows++[r])(f:K b):Ap false rows [r] sz by_ K:=
 CT h1 (λg a=>by rw[C1.1 a];exact c) (λh=>by cases h) (by simp;omega) (yM (by simpa using d) e) a f
theorem AU(t:aH)(a:aH.sml t):ar Tryz.prog 471 false [.val (some 1) (aH.enc .X t)] .agg (aH.enc .own t):=by
 have b:=a.1;refine fO 8 [] Tryz.func471 rfl ?_ (.inr (aH.enc_fr _))
 repeat'(first|refine gO ?_|(conv=>whnf);first|refine CR (λ_=>rfl) (λ_=>rfl) b (by decide) ?_)
 rfl
theorem aQ{α:Type}{e:α->List C}{l:List α}{n:Nat}(h:∀x,(e x).length=n):∀r∈l.map e,r.length=n:=λr a=>by
 obtain⟨y,-,rfl⟩:=C4.1 a;exact h y
theorem jb{α β:Type}[Inhabited α]{xs:List α}{f:α->β}{i:Nat}(a:i<xs.length):(xs.take (i+1)).map f=(xs.take i).map f++[f (nth xs i)]:=by
 rw[I5,ao a];simp
theorem Bc(f:bo)(a:bo.sml f):ar Tryz.prog 470 false [.val (some 2) (bo.enc .X f)] .agg (bo.enc .own f):=by
 have g:=a.1.1;have d:f.a9.length<=1048576:=a.2;refine fO 30 [(5,10,[17,18,19,20,21,22,23,24,25,26])] Tryz.func470 rfl ?_ (.inr (bo.enc_fr _))
 repeat'(first|refine gO ?_|(conv=>whnf);first|refine CR (λ_=>rfl) (λ_=>rfl) d (by decide) ?_)
 (conv=>whnf)
 refine CE (ι:=Nat) (λi=>[(1,.H .box (bo.enc .X f)),(2,.H .box [.z,.z]),(3,.H .box [.s .own ((f.S.take i).map (aG .own)),.s .own (f.a9.map (rB .own))]),(4,.H .one [I ((i:Nat):Int)])]) (λi=>i<=f.S.length) (λi=>f.S.length - i) (0) ?_ (T0 _) λi h=>?_
 ·exact wB
 by_cases b:i<f.S.length
 ·have e:=ao b
  have c:(nth f.S i).length<=1048576:=a.1.2 _ (am b)
  repeat'(first|refine gD ?_|(conv=>whnf);first|with_reducible refine CC (aa e) ?_|refine CU (λ_=>rfl) (λ_=>rfl) c (by decide) ?_|refine Ap.sn (aQ λ_=>rfl) rfl (by simp;omega) (by decide) (jb b) ?_)
  ((conv=>whnf);refine CD (i+1) ω ω ?_;(exact wB))
 repeat'(first|refine gD ?_|fail)
 obtain rfl:i=f.S.length:=ω
 rw[X4]
 rfl
theorem qL(m:aU)(a:aU.sml m):ar Tryz.prog 363 false [.val (some 3) (aU.enc .X m)] .agg (aU.enc .own m):=by
 refine fO 10 [(1,5,[3,4,5,6,7])] Tryz.func363 rfl ?_ (.inr (aU.enc_fr _))
 repeat'(first|refine gO ?_|(conv=>whnf);first|refine C7 (Bc m.V a.1) ?_|refine C7 (AU m.R a.2) ?_)
 rfl
theorem zQ(k:ah)(a:ah.sml k):ar Tryz.prog 218 false [.val (some 5) (ah.enc .X k)] .agg (ah.enc .own k):=by
 have b:k.y.length<=1048576:=a.2;refine fO 13 [(1,9,[3,4,5,6,7,8,9,10,11])] Tryz.func218 rfl ?_ (.inr (ah.enc_fr _))
 repeat'(first|refine gO ?_|(conv=>whnf);first|refine C7 (qL k.F a.1) ?_|refine CU (λ_=>rfl) (λ_=>rfl) b (by decide) ?_)
 rfl
theorem eO(k:ah)(p:Int)(a:aH.sml k.F.R):ar Tryz.prog 488 false [.ptr (ah.enc .X k),.val none [I p]] .one [I (ac k.F.R p).j]:=by
 refine fO 13 [] Tryz.func488 rfl ?_
 repeat'(first|refine gO ?_|(conv=>whnf);first|refine C7 (db k.F.R p a) ?_)
 rfl
theorem kX(k:ah)(b:ah.sml k):ar Tryz.prog 455 false [.val (some 5) (ah.enc .X k)] .one [B (a7 k&&decide (k.Calls<100000))]:=by
 have a:=ly k b;cases e:a7 k<;>rw[e]at a
 ·refine fO 10 [] Tryz.func455 rfl ?_
  repeat'(first|refine gO ?_|(conv=>whnf);first|with_reducible refine Bf.D (λc=>?_) (λc=>?_)|refine C7 (a) ?_)
  all_goals rfl
 refine fO 10 [] Tryz.func455 rfl ?_
 repeat'(first|refine gO ?_|(conv=>whnf);first|refine C7 (a) ?_)
 all_goals rfl
theorem zB{k:ah}{f:Int}(h:(pagesOn k.F.R f).length=0):ah.enc .own (gH k f)=[.s .own ((k.F.V.S.map (aG .own)).set f.toNat (aG .own (List.replicate 16 0))),.s .own ((k.F.V.a9.map (rB .own)).set f.toNat (rB .own false)),.s .own (k.F.R.J.map (bi.enc .own)),I k.Calls,.s .own (k.y.map (rI .own))]:=by
 unfold gH;rw[C9 h];simp only[ah.enc,W5]
theorem D9{k:ah}{f:Int}(h:¬(pagesOn k.F.R f).length=0):ah.enc .own (gH k f)=ah.enc .own k:=by
 unfold gH;rw[C8 h]
theorem zH(k:ah)(f:Int)(a:aH.sml k.F.R)(b:0<=f/\f<k.F.V.S.length/\f<k.F.V.a9.length) :
  aS Tryz.prog 489 false [.ptr (ah.enc .own k),.val none [I f]] [.ptr (ah.enc .own (gH k f)),.val none [I f]] (.tup []) []:=by
 have c:=ao (xs:=k.F.V.S) (i:=f.toNat) ω;have d:=ao (xs:=k.F.V.a9) (i:=f.toNat) ω;by_cases e:(pagesOn k.F.R f).length=0
 ·rw[zB e]
  refine fM 30 [] [(2,8,[21,22,23,24,25,26,27,28])] [(0,0),(0,0)] Tryz.func489 rfl (λu q=>?_) (.inr trivial)
  repeat'(first|refine gA ?_|(conv=>whnf);first|with_reducible (first|refine CM b.1 (aa d) ?_|refine CM b.1 (aa c) ?_)|refine CG (gw k.F.R f a) ⟨⟨rfl,CZ k.F.R⟩,⟨rfl,rfl⟩,trivial⟩ ?_|refine CO rfl rfl (aa c) rfl (Z0 rfl) rfl ?_|refine CO rfl rfl (aa d) rfl (Z0 rfl) rfl ?_|refine Mk.mk 16 rfl rfl (by decide) (by decide) rfl ?_)
  refine CF rfl rfl ?_;exact wB
 rw[D9 e];refine fM 30 [] [(2,8,[21,22,23,24,25,26,27,28])] [(0,0),(0,0)] Tryz.func489 rfl (λu q=>?_) (.inr trivial)
 repeat'(first|refine gA ?_|(conv=>whnf);first|refine CG (gw k.F.R f a) ⟨⟨rfl,CZ k.F.R⟩,⟨rfl,rfl⟩,trivial⟩ ?_)
 refine CF rfl rfl ?_;exact wB
theorem Lu(k:ah)(p:Int):ah.enc .own (pk k p)=[.s .own (k.F.V.S.map (aG .own)),.s .own (k.F.V.a9.map (rB .own)),.s .own ((k.F.R.J.map (bi.enc .own)).set p.toNat (bi.enc .own ⟨0,0⟩)),I k.Calls,.s .own (k.y.map (rI .own))]:=by
 unfold pk;simp only[ah.enc,W5]
theorem KN{k:ah}{p:Int}(h:a7 k=true):aH.sml (pk k p).F.R:=by
 obtain⟨a,b,c⟩:=bx.1 (aD.1 h).2.2.1;exact⟨by simp only[pk,I1];omega,λ_ _=>trivial⟩
def fN(n:Nat):bo:=⟨List.replicate n (List.replicate 16 0),List.replicate n false⟩
def eB(n:Nat):aH:=⟨List.replicate n ⟨0,0⟩⟩
def bF(p f:Nat)(a:List Int):ah:=⟨⟨fN f,eB p⟩,0,a⟩
def fw:aE:=⟨List.replicate 4 []⟩
def dN(n:Nat):aK:=⟨List.replicate n [],List.replicate n []⟩
def newHeap(p f t:Nat)(lim:Int)(a:List Int):ab:=⟨bF p f a,[⟨0,p⟩],[],[],[],List.replicate t fw,dN t,⟨16,[]⟩,0,0,lim,1,false,⟨⟨0,0,[]⟩,0,0⟩⟩
theorem cJ{α:Type}[Inhabited α]{n j:Nat}{y:α}(a:j<n):nth (List.replicate n y) j=y:=bc (by rw[List.getElem?_replicate,C9 a])
theorem Kk(n:Nat)(f:Int):pagesOn (eB n) f=[]:=by
 unfold pagesOn j9;rw[List.map_eq_nil_iff,List.filter_eq_nil_iff];intro i b;have a:i<n:=by simpa[eB] using b
 unfold JE;rw[show nth (eB n).J i = ⟨0,0⟩ from cJ a];simp
theorem AG{p f:Nat}(c:1<=p/\p<=32)(d:1<=f/\f<=32):a7 (bF p f [])=true:=by
 rw[aD];refine⟨λj b=>by simp[bF]at b,aW.2 ⟨by simp[bF,fN];omega,by simp[bF,fN];omega,by simp[bF,fN],λj b=>?_⟩,bx.2 ⟨λj b=>?_,by simp[bF,eB];omega,by simp[bF,eB];omega⟩,λj b=>?_,by simp[bF],by simp[bF],by simp[bF]⟩
 ·have a:j<f:=by simpa[bF,fN] using b
  rw[show nth (bF p f []).F.V.S j=List.replicate 16 0 from cJ a,show nth (bF p f []).F.V.a9 j=false from cJ a]
  decide
 ·have a:j<p:=by simpa[bF,eB] using b
  rw[show nth (bF p f []).F.R.J j = ⟨0,0⟩ from cJ a];unfold jS;rw[C0];exact⟨by decide,by decide,λ_=>rfl,λh=>absurd rfl h⟩
 have a:j<f:=by simpa[bF,fN] using b
 rw[show nth (bF p f []).F.V.a9 j=false from cJ a,show(bF p f []).F.R=eB p from rfl,Kk]
 rfl
theorem iu(c:aE)(d:aE.sml c):ar Tryz.prog 219 false [.val (some 1) (aE.enc .X c)] .agg (aE.enc .own c):=by
 have g:=d.1;refine fO 26 [(5,10,[13,14,15,16,17,18,19,20,21,22])] Tryz.func219 rfl ?_ (.inr (aE.enc_fr _))
 repeat'(first|refine gO ?_|fail)
 (conv=>whnf)
 refine CE (ι:=Nat) (λi=>[(1,.H .box (aE.enc .X c)),(2,.H .box [.z]),(3,.H .box [.s .own ((c.d.take i).map (aG .own))]),(4,.H .one [I ((i:Nat):Int)])]) (λi=>i<=c.d.length) (λi=>c.d.length - i) (0) ?_ (T0 _) λi h=>?_
 ·exact wB
 by_cases a:i<c.d.length
 ·have e:=ao a
  have b:(nth c.d i).length<=1048576:=d.2 _ (am a)
  repeat'(first|refine gD ?_|(conv=>whnf);first|with_reducible refine CC (aa e) ?_|refine CU (λ_=>rfl) (λ_=>rfl) b (by decide) ?_|refine Ap.sn (aQ λ_=>rfl) rfl (by simp;omega) (by decide) (jb a) ?_)
  ((conv=>whnf);refine CD (i+1) ω ω ?_;(exact wB))
 repeat'(first|refine gD ?_|fail)
 obtain rfl:i=c.d.length:=ω
 rw[X4]
 rfl
theorem fG(m:aK)(b:aK.sml m):ar Tryz.prog 220 false [.val (some 2) (aK.enc .X m)] .agg (aK.enc .own m):=by
 have h:=b.1.1;have g:=b.2.1;refine fO 46 [(5,10,[14,15,16,17,18,19,20,21,22,23]),(9,10,[33,34,35,36,37,38,39,40,41,42])] Tryz.func220 rfl ?_ (.inr (aK.enc_fr _))
 repeat'(first|refine gO ?_|fail)
 (conv=>whnf)
 refine CE (ι:=Nat) (λi=>[(1,.H .box (aK.enc .X m)),(2,.H .box [.z,.z]),(3,.H .box [.s .own ((m.U.take i).map (dd .own)),.z]),(4,.H .one [I ((i:Nat):Int)])]) (λi=>i<=m.U.length) (λi=>m.U.length - i) (0) ?_ (T0 _) λi j=>?_
 ·exact wB
 by_cases c:i<m.U.length
 ·have d:=ao c
  have a:(nth m.U i).length<=1048576:=(b.1.2 _ (am c)).1
  repeat'(first|refine gD ?_|(conv=>whnf);first|with_reducible refine CC (aa d) ?_|refine CU (λ_=>rfl) (λ_=>rfl) a (by decide) ?_|refine Ap.sn (aQ λ_=>rfl) rfl (by simp;omega) (by decide) (jb c) ?_)
  ((conv=>whnf);refine CD (i+1) ω ω ?_;(exact wB))
 obtain rfl:i=m.U.length:=ω
 rw[X4]
 repeat'(first|refine gD ?_|fail)
 (conv=>whnf)
 refine CE (ι:=Nat) (λk=>[(1,.H .box (aK.enc .X m)),(2,.H .box [.z,.z]),(3,.H .box [.s .own (m.U.map (dd .own)),.s .own ((m.a0.take k).map (aG .own))]),(5,.H .one [I ((k:Nat):Int)])]) (λk=>k<=m.a0.length) (λk=>m.a0.length - k) (0) ?_ (T0 _) λk l=>?_
 ·exact wB
 by_cases e:k<m.a0.length
 ·have d:=ao e
  have a:(nth m.a0 k).length<=1048576:=b.2.2 _ (am e)
  repeat'(first|refine gD ?_|(conv=>whnf);first|with_reducible refine CC (aa d) ?_|refine CU (λ_=>rfl) (λ_=>rfl) a (by decide) ?_|refine Ap.sn (aQ λ_=>rfl) rfl (by simp;omega) (by decide) (jb e) ?_)
  ((conv=>whnf);refine CD (k+1) ω ω ?_;(exact wB))
 repeat'(first|refine gD ?_|fail)
 obtain rfl:k=m.a0.length:=ω
 rw[X4]
 rfl
theorem q7(q:bQ)(b:bQ.sml q):ar Tryz.prog 221 false [.val (some 2) (bQ.enc .X q)] .agg (bQ.enc .own q):=by
 have a:q.a5.length<=1048576:=b.1;refine fO 10 [(1,6,[3,4,5,6,7,8])] Tryz.func221 rfl ?_ (.inr (bQ.enc_fr _))
 repeat'(first|refine gO ?_|(conv=>whnf);first|refine CU (λ_=>rfl) (λ_=>rfl) a (by decide) ?_|refine CR (λ_=>rfl) (λ_=>rfl) a (by decide) ?_)
 rfl
theorem qR(j:cK)(a:cK.sml j):ar Tryz.prog 222 false [.val (some 5) (cK.enc .X j)] .agg (cK.enc .own j):=by
 have b:j.W.S.length<=1048576:=a;refine fO 11 [] Tryz.func222 rfl ?_ (.inr (cK.enc_fr _))
 repeat'(first|refine gO ?_|(conv=>whnf);first|refine CR (λ_=>rfl) (λ_=>rfl) b (by decide) ?_)
 rfl
def QY(h:ab)(a:C):List C:=[.s .own (h.G.F.V.S.map (aG .own)),.s .own (h.G.F.V.a9.map (rB .own)),.s .own (h.G.F.R.J.map (bi.enc .own)),I h.G.Calls,.s .own (h.G.y.map (rI .own)),.s .own (h.q.map (aA.enc .own)),.s .own (h.M.map (ax.enc .own)),.s .own (h.K.map (a8.enc .own)),.s .own (h.O.map (br.enc .own)),a,.s .X (h.w.U.map (dd .X)),.s .X (h.w.a0.map (aG .X)),I h.a6.c1,.s .X (h.a6.a5.map (aN.enc .X)),I h.c0,I h.b5,I h.c3,I h.a,B h.u,I h.Y.W.a4,I h.Y.W.a1,.s .X (h.Y.W.S.map (rI .X)),I h.Y.b2,I h.Y.a]
def Qm:List C:=[.z,.z,.z,I 0,.z,.z,.z,.z,.z,.z,.z,.z,I 0,.z,I 0,I 0,I 0,I 0,B false,I 0,I 0,.z,I 0,I 0]
theorem Ay(h:ab)(c:ab.sml h):ar Tryz.prog 69 false [.val (some 24) (ab.enc .X h)] .agg (ab.enc .own h):=by
 obtain⟨d,e,g,j,k,b,l,n,o⟩:=c;have p:=e.1;have q:=g.1;have r:=j.1;have t:=k.1;have w:=b.1;refine fO 61 [] Tryz.func69 rfl ?_ (.inr (ab.enc_fr _))
 repeat'(first|refine gO ?_|(conv=>whnf);first|refine C7 (zQ h.G d) ?_|refine CR (λ_=>rfl) (λ_=>rfl) p (by decide) ?_|refine CR (λ_=>rfl) (λ_=>rfl) q (by decide) ?_|refine CR (λ_=>rfl) (λ_=>rfl) r (by decide) ?_|refine CR (λ_=>rfl) (λ_=>rfl) t (by decide) ?_)
 (conv=>whnf)
 refine CE (ι:=Nat) (λi=>[(1,.H .box (QY h (.s .X (h.T.map (aE.enc .X))))),(2,.H .box Qm),(3,.H .one ([.s .own ((h.T.take i).map (aE.enc .own))])),(4,.H .one [I ((i:Nat):Int)])]) (λi=>i<=h.T.length) (λi=>h.T.length - i) (0) ?_ (T0 _) λi y=>?_
 ·exact wB
 by_cases a:i<h.T.length
 ·have u:=ao a
  repeat'(first|refine gD ?_|(conv=>whnf);first|with_reducible refine CC (aa u) ?_|refine C7 (iu (nth h.T i) (b.2 _ (am a))) ?_|refine Ap.sn (aQ λ_=>rfl) rfl (by simp;omega) (by decide) (jb a) ?_)
  ((conv=>whnf);refine CD (i+1) ω ω ?_;(exact wB))
 obtain rfl:i=h.T.length:=ω
 rw[X4]
 repeat'(first|refine gD ?_|(conv=>whnf);first|refine C7 (fG h.w l) ?_|refine C7 (q7 h.a6 n) ?_|refine C7 (qR h.Y o) ?_)
 rfl
theorem Ap.sm{rows b:List (List C)}{r:List C}{sz by_:Nat}{K:List (List C)->Prop}(h1:∀r∈rows,r.length=sz)(c:r.length=sz)(d:rows.length+1<=1073741824)(e:by_<=1000)(a:b=rows++[r])(f:K b):Ap false rows [r] sz by_ K:=
 CT h1 (λg a=>by rw[C1.1 a];exact c) (λh=>by cases h) (by simp;omega) (V4 (Nat.mul_le_mul (show rows.length+[r].length<=1073741824 by simpa using d) e) (by decide)) a f
theorem Hv(y:aA)(a:List aA)(r:aA)(out:List aA)(done:Bool):jK (y::a) r out done=if ovl y r then none
  else if y.At+y.b0=r.At then jK a ⟨y.At,y.b0+r.b0⟩ out done
  else if r.At+r.b0=y.At then jK a ⟨r.At,r.b0+y.b0⟩ out done
  else if y.At > r.At/\done=false then jK a r (out++[r,y]) true
  else jK a r (out++[y]) done:=by rw[jK]
theorem Bw{pages:Int}{xs:List aA}(h:b9 pages xs=true):ow xs/\∀y∈xs,0<=y.At/\1<=y.b0/\y.At+y.b0<=pages:=by
 unfold b9 at h;simp only[I0,C0]at h;have b:∀i,i<xs.length->1<=(nth xs i).b0/\0<=(nth xs i).At/\(nth xs i).At<=pages - (nth xs i).b0:=λi a=>by
  have:=dC h.1 a;unfold fX rangeIn at this;simp only[I0,C0]at this;omega
 have d:∀i,i+1<xs.length->(nth xs i).At+(nth xs i).b0<(nth xs (i+1)).At:=λi a=>by
  have:=dC h.1 a;unfold fX at this;simp only[I0,C0]at this;have:=this.2.resolve_left ω;simpa using this
 have k:∀j i,i<j->j<xs.length->(nth xs i).At+(nth xs i).b0<(nth xs j).At:=λj=>by
  induction j with
  | zero=>intro i a;omega
  | succ j l=>
   intro i a c;have n:=d j c;by_cases e:i=j
   ·subst e;exact n
   have o:=l i ω ω;have p:=b j ω;omega
 refine⟨⟨?_,λy f=>?_⟩,λy f=>?_⟩
 ·rw[List.pairwise_iff_getElem]
  intro i j a c g;have:=k j i g c
  rwa [bc (W1 a),bc (W1 c)]at this
 ·obtain⟨i,a,rfl⟩:=aJ f
  exact(b i a).1
 obtain⟨i,a,rfl⟩:=aJ f;have:=b i a;omega
theorem jD{α:Type}[Inhabited α]{xs:List α}{i:Nat}(a:i<xs.length):xs.drop i=nth xs i::xs.drop (i+1):=by
 rw[List.drop_eq_getElem_cons a,bc (W1 a)]
def d5(pages:Int)(xs:List aA)(r:aA):Option (List aA):=if b9 pages xs=true/\rangeIn pages r=true then jK xs r [] false else none
def Fb(xs:List aA)(o:Option (List aA)):List C:=bO .own (o.getD xs)++[B o.isSome]
theorem sJ(xs:List aA)(o:Option (List aA)):gR (Fb xs o):=aZ (oB _) ⟨trivial,trivial⟩
theorem uJ{α:Type}[Inhabited α](R:Int->Int->Prop)(n:∀a b c,R a b->R b c->R a c)(f:α->Int)(xs:List α):(∀i,i<xs.length->i=0\/R (f (nth xs (i - 1))) (f (nth xs i)))↔xs.Pairwise (λa b=>R (f a) (f b)):=by
 constructor
 ·intro h
  have o:∀j i,i<j->j<xs.length->R (f (nth xs i)) (f (nth xs j)):=λj=>by
   induction j with
   | zero=>intro i d;omega
   | succ j p=>
    intro i d g;have k:=(h (j+1) g).resolve_left ω;rw[show j+1 - 1=j from rfl]at k;by_cases e:i=j
    ·subst e;exact k
    exact n _ _ _ (p i ω ω) k
  rw[List.pairwise_iff_getElem];intro i j d g l;have:=o j i l g
  rwa [bc (W1 d),bc (W1 g)]at this
 intro h i d;by_cases e:i=0
 ·exact .inl e
 right
 have:=List.pairwise_iff_getElem.1 h (i - 1) i ω d ω
 rwa [<-bc (W1 (show i - 1<xs.length by omega)),<-bc (W1 d)]at this
theorem y4{α:Type}[Inhabited α](f:α->Int)(xs:List α):(∀i,i<xs.length->∀o∈xs.take i,f o≠f (nth xs i))↔(xs.map f).Nodup:=by
 unfold List.Nodup;rw[List.pairwise_map,List.pairwise_iff_getElem];constructor
 ·intro h i j a b c
  have:=h j b xs[i] (List.mem_take_iff_getElem.2 ⟨i,ω,rfl⟩)
  rwa [bc (W1 b)]at this
 intro h i a o d;obtain⟨j,b,rfl⟩:=List.mem_take_iff_getElem.1 d;rw[bc (W1 a)];exact h j i ω a ω
def dX(s:ax)(a:Int):Prop:=16*s.Q<=a/\a<=16*s.Q+15/\(a - 16*s.Q) % csz s.b=0/\aR s.b1 ((a - 16*s.Q) / csz s.b)=true
def jH(sp:List ax)(a c:Int):Prop:=∃s∈sp,dX s a/\(c<0\/s.b=c)
def Rc(la:List a8)(a z:Int):Prop:=∃l∈la,a=16*l.Q/\l.o=z
def Mr(sp:List ax)(la:List a8)(o:br):Prop:=(∃s∈sp,dX s o.Addr/\s.b=aI o.o)\/Rc la o.Addr o.o
def mb(sp:List ax)(la:List a8)(a:Int):Prop:=jH sp a (-1)\/∃l∈la,a=16*l.Q
theorem lO{sp:List ax}{la:List a8}(f:rT sp la)(a:Int):(∃i,i<sp.length/\(16*(nth sp i).Q<=a/\a<=16*(nth sp i).Q+15)/\denotes sp la a=nz i (nth sp i) a)\/((∀s∈sp,¬(16*s.Q<=a/\a<=16*s.Q+15))/\((∃i,i<la.length/\bn (nth la i) a=true/\denotes sp la a = ⟨3,i,0,a - 16*(nth la i).Q⟩)\/((∀l∈la,bn l a=false)/\denotes sp la a = ⟨0,0,0,0⟩))):=by
 cases c:sp.findIdx? (cq · a) with
 | some i=>
  obtain⟨b,d,-⟩:=T6.1 c;rw[<-bc (W1 b)]at d;exact .inl ⟨i,b,(gk (f.sok _ (am b))).1 d,by unfold denotes;rw[c]⟩
 | none=>
  have h:=List.findIdx?_eq_none_iff.1 c;refine .inr ⟨λs g j=>?_,?_⟩
  ·have:=h s g
   rw[(gk (f.sok _ g)).2 j]at this;cases this
  cases e:la.findIdx? (bn · a) with
  | some i=>
   obtain⟨b,d,-⟩:=T6.1 e;rw[<-bc (W1 b)]at d;exact .inl ⟨i,b,d,by unfold denotes;rw[c,e]⟩
  | none=>exact .inr ⟨List.findIdx?_eq_none_iff.1 e,by unfold denotes;rw[c,e]⟩
theorem LD{h:ab}(k:rT h.M h.K){a c:Int} : dn h a c=true↔jH h.M a c:=by
 unfold dn;simp only[I0,X5,C0];constructor
 ·rintro⟨⟨b,j⟩,d⟩
  rcases lO k a with⟨i,g,l,f⟩|⟨-,⟨i,g,-,f⟩|⟨-,f⟩⟩
  ·rw[f]at b j d
   simp only[nz]at b j d;refine⟨_,am g,⟨l.1,l.2,j,?_⟩,by simpa using d⟩;cases e:aR (nth h.M i).b1 ((a - 16*(nth h.M i).Q) / csz (nth h.M i).b) with
   | true=>rfl
   | false=>rw[e]at b;simp at b
  ·rw[f]at b;simp at b
  rw[f]at b;simp at b
 rintro⟨s,n,⟨o,p,q,r⟩,d⟩
 obtain⟨i,g,rfl⟩:=aJ n;rw[jg k g ⟨o,p⟩];simp only[nz,q,r,if_true,true_and];simpa using d
theorem vk{sp:List ax}{la:List a8}(a:rT sp la){l:a8}(b:l∈la):(∀s∈sp,¬(16*s.Q<=16*l.Q/\16*l.Q<=16*s.Q+15))/\bn l (16*l.Q)=true/\∀i,i<la.length->bn (nth la i) (16*l.Q)=true->nth la i=l:=by
 have k:=aM (a.lok _ b);have f:=cw (a.lok _ b);refine⟨λs g n=>?_,?_,λi d e=>?_⟩
 ·exact a.dis s g l b 0 ω ω
 ·unfold bn;rw[a.lok _ b,O0 ω];rfl
 obtain⟨j,h,rfl⟩:=aJ b;have o:=aM (a.lok _ (am d));have c:=a.lok _ (am d);unfold bE at c;rw[C0]at c;unfold bn at e;rw[I0,C0]at e;rw[a.one i j d h ((nth la j).Q - (nth la i).Q).toNat 0 ω ω ω]
theorem LO{h:ab}(f:rT h.M h.K){o:br} : iz h o=true↔Mr h.M h.K o:=by
 unfold iz;simp only[I0,X5,C0];constructor
 ·rintro⟨d,a⟩
  rcases lO f o.Addr with⟨i,b,g,c⟩|⟨-,⟨i,b,-,c⟩|⟨-,c⟩⟩
  ·rw[c]at a d
   simp only[nz]at a d;have j:aR (nth h.M i).b1 ((o.Addr - 16*(nth h.M i).Q) / csz (nth h.M i).b)=true:=by
    cases e:aR (nth h.M i).b1 ((o.Addr - 16*(nth h.M i).Q) / csz (nth h.M i).b) with
    | true=>rfl
    | false=>rw[e]at a;simp at a
   rw[j]at a;exact .inl ⟨_,am b,⟨g.1,g.2,d,j⟩,by simpa using a⟩
  ·rw[c]at a d
   simp only at a d;exact .inr ⟨_,am b,ω,by simpa using a⟩
  rw[c]at a;simp at a
 rintro(⟨s,j,⟨p,q,r,t⟩,u⟩|⟨l,k,w,y⟩)
 ·obtain⟨i,b,rfl⟩:=aJ j
  rw[jg f b ⟨p,q⟩];simp only[nz,r,t,if_true,true_and];simp[u]
 obtain⟨A,n,B⟩:=vk f k;rw[w];rcases lO f (16*l.Q) with⟨i,b,g,c⟩|⟨-,⟨i,b,C,c⟩|⟨D,c⟩⟩
 ·exact absurd g (A _ (am b))
 ·rw[c]
  have:=B i b C;simp only[this,O2];exact⟨ω,.inr ⟨trivial,y⟩⟩
 rw[D l k]at n;cases n
theorem LR{sp:List ax}{la:List a8}(d:rT sp la)(a:Int):a∈iA sp la↔mb sp la a:=by
 constructor
 ·intro h
  unfold iA ll at h;obtain⟨n,o,rfl⟩:=C4.1 h;have g:=(I4.1 o).2;unfold jI at g;simp only[I0,X5,C0]at g;obtain⟨j,f⟩:=g;rcases lO d (n:Int) with⟨i,c,k,b⟩|⟨-,⟨i,c,-,b⟩|⟨-,b⟩⟩
  ·rw[b]at f j
   simp only[nz]at f j;refine .inl ⟨_,am c,⟨k.1,k.2,j,?_⟩,.inl ω⟩;cases e:aR (nth sp i).b1 (((n:Int) - 16*(nth sp i).Q) / csz (nth sp i).b) with
   | true=>rfl
   | false=>rw[e]at f;simp at f
  ·rw[b]at j
   simp only at j;exact .inr ⟨_,am c,ω⟩
  rw[b]at f;simp at f
 rintro(⟨s,r,⟨t,g,u,w⟩,-⟩|⟨l,p,rfl⟩)
 ·obtain⟨i,c,rfl⟩:=aJ r
  have b:=jg d c ⟨t,g⟩;exact uN d (by rw[b];exact u) (.inl (by rw[b];simp only[nz,w,if_true]))
 obtain⟨y,q,A⟩:=vk d p;rcases lO d (16*l.Q) with⟨i,c,k,b⟩|⟨-,⟨i,c,B,b⟩|⟨o,b⟩⟩
 ·exact absurd k (y _ (am c))
 ·have:=A i c B
  exact uN d (by rw[b];simp only[this];omega) (.inr (by rw[b]))
 rw[o l p]at q;cases q
def RH(xs:List aA)(p:Int):Prop:=∃r∈xs,r.At<=p/\p<r.At+r.b0
theorem fA{pages:Int}{xs:List aA} : b9 pages xs=true↔ow xs/\(∀y∈xs,0<=y.At/\1<=y.b0/\y.At+y.b0<=pages)/\1<=pages/\pages<=32:=by
 constructor
 ·intro h
  obtain⟨a,b⟩:=Bw h;unfold b9 at h;simp only[I0,C0]at h;exact⟨a,b,h.2⟩
 rintro⟨a,b,d⟩
 unfold b9;simp only[I0,C0];refine⟨cH.2 λi c=>?_,d⟩;have f:=b _ (am c);unfold fX rangeIn;simp only[I0,C0];refine⟨ω,?_⟩;by_cases e:i=0
 ·exact .inl e
 right
 have:=List.pairwise_iff_getElem.1 a.1 (i - 1) i ω c ω
 rwa [<-bc (W1 (show i - 1<xs.length by omega)),<-bc (W1 c)]at this
theorem BP{pages:Int}{xs:List aA}(h:b9 pages xs=true)(p:Int):xs.any (pX p)=true↔RH xs p:=by
 obtain⟨-,c,d⟩:=fA.1 h;rw[V3];refine⟨λ⟨r,a,b⟩=>⟨r,a,?_⟩,λ⟨r,a,b⟩=>⟨r,a,?_⟩⟩
 ·have:=c r a
  unfold pX at b;rw[eE ω ω]at b;simpa using b
 have:=c r a;unfold pX;rw[eE ω ω];simpa using b
theorem uP(u:Int):∀(h:List aA)(r:aA)(out:List aA),ow h->1<=r.b0->(∀y∈h,ovl y r=false)->(∀z∈out,z.At+z.b0<r.At/\∀y∈h,z.At+z.b0<y.At)->ow out->(∀y∈r::(out++h),0<=y.At/\y.At+y.b0<=u)->∃o,jK h r out false=some o/\ow o/\(∀y∈o,0<=y.At/\y.At+y.b0<=u)/\∀p,RH o p↔RH out p\/RH h p\/(r.At<=p/\p<r.At+r.b0)
 | [],r,out,_,A,_,k,l,f=>by
  refine⟨out++[r],by simp[jK],⟨List.pairwise_append.2 ⟨l.1,List.pairwise_singleton ..,λa B b f=>by rw[C1.1 f];exact(k a B).1⟩,λy n=>?_⟩,λy n=>f y (by simp at n |-;grind),λp=>by unfold RH;simp[or_and_right,exists_or]⟩;rcases U2.1 n with n|n
  ·exact l.2 y n
  rw[C1.1 n];exact A
 | y::h,r,out,g,A,H,k,l,f=>by
  have K:=g.2 y (R1 ..);have q:=H y (R1 ..);have j:=g.head;have O:=f y (by simp);have P:=f r (by simp);have C:∀w∈h,¬(w.At<r.At+r.b0/\r.At<w.At+w.b0):=λw d=>by
   have:=H w (Z4 _ d);unfold ovl at this;simpa using this
  have t:∀w∈h,1<=w.b0:=λw d=>g.2 w (Z4 _ d)
  rw[Hv,C8 (by rw[q];simp)];unfold ovl at q;rw[T4]at q;by_cases L:y.At+y.b0=r.At
  ·rw[C9 L]
   obtain⟨o,D,E,F,G⟩:=uP u h ⟨y.At,y.b0+r.b0⟩ out g.tail (by simp only;omega) (λw d=>by
     have a:=j w d;have b:=C w d;have c:=t w d;unfold ovl;rw[T4];simp only;omega) (λz i=>⟨(k z i).2 y (R1 ..),λw d=>(k z i).2 w (Z4 _ d)⟩) l (λw d=>by
     rcases List.mem_cons.1 d with rfl|d
     · simp only;omega
     exact f w (by simp at d |-;grind))
   refine⟨o,D,E,F,λp=>?_⟩;rw[G];unfold RH;simp only[List.mem_cons,exists_eq_or_imp]
   grind
  rw[C8 L];by_cases M:r.At+r.b0=y.At
  ·rw[C9 M]
   obtain⟨o,D,E,F,G⟩:=uP u h ⟨r.At,r.b0+y.b0⟩ out g.tail (by simp only;omega) (λw d=>by
     have a:=j w d;have b:=C w d;have c:=t w d;unfold ovl;rw[T4];simp only;omega) (λz i=>⟨(k z i).1,λw d=>(k z i).2 w (Z4 _ d)⟩) l (λw d=>by
     rcases List.mem_cons.1 d with rfl|d
     · simp only;omega
     exact f w (by simp at d |-;grind))
   refine⟨o,D,E,F,λp=>?_⟩;rw[G];unfold RH;simp only[List.mem_cons,exists_eq_or_imp]
   grind
  rw[C8 M];by_cases N:y.At > r.At
  ·have J:r.At+r.b0<y.At:=ω
   rw[C9 ⟨N,rfl⟩,oL g.tail A λw d=>by have:=j w d;omega];refine⟨_,rfl,⟨?_,λw d=>?_⟩,λw d=>f w (by simp at d |-;grind),λp=>by unfold RH;simp[or_and_right,exists_or];grind⟩
   ·rw[O5]
    refine List.pairwise_append.2 ⟨l.1,?_,λa B b f=>?_⟩
    ·show(r::y::h).Pairwise _
     refine List.pairwise_cons.2 ⟨λw d=>?_,g.1⟩;rcases List.mem_cons.1 d with rfl|d
     ·exact J
     have:=j w d;omega
    obtain⟨Q,R⟩:=k a B;have f:b∈r::y::h:=f;rcases List.mem_cons.1 f with rfl|f
    ·exact Q
    exact R b f
   simp only[U2,List.mem_cons,List.not_mem_nil,or_false]at d;rcases d with(d|rfl|rfl)|d
   ·exact l.2 w d
   ·exact A
   ·exact K
   exact t w d
  rw[C8 λe=>N e.1];obtain⟨o,D,E,F,G⟩:=uP u h r (out++[y]) g.tail A (λw d=>H w (Z4 _ d)) (λz i=>by
    rcases U2.1 i with i|i
    · exact⟨(k z i).1,λw d=>(k z i).2 w (Z4 _ d)⟩
    rw[C1.1 i];exact⟨ω,j⟩) ⟨List.pairwise_append.2 ⟨l.1,List.pairwise_singleton ..,λa B b f=>by rw[C1.1 f];exact(k a B).2 y (R1 ..)⟩,λw d=>by
    rcases U2.1 d with d|d
    · exact l.2 w d
    rw[C1.1 d];exact K⟩ (λw d=>f w (by simp at d |-;grind))
  refine⟨o,D,E,F,λp=>?_⟩;rw[G];unfold RH;simp[or_and_right,exists_or]
  grind
theorem tX{pages:Int}{xs:List aA}{r:aA}(h:b9 pages xs=true)(j:0<=r.At/\1<=r.b0/\r.At+r.b0<=pages)(c:∀p,r.At<=p->p<r.At+r.b0->¬RH xs p):∃o,d5 pages xs r=some o/\b9 pages o=true/\∀p,RH o p↔RH xs p\/(r.At<=p/\p<r.At+r.b0):=by
 obtain⟨k,d,l⟩:=fA.1 h;have b:rangeIn pages r=true:=by unfold rangeIn;rw[C0];omega
 unfold d5;rw[C9 ⟨h,b⟩];obtain⟨o,n,f,g,q⟩:=uP pages xs r [] k j.2.1 (λy a=>by
   have:=d y a;unfold ovl;rw[T4];intro i;by_cases e:r.At<=y.At
   · exact c y.At e i.1 ⟨y,a,ω,ω⟩
   · exact c r.At ω ω ⟨y,a,ω,i.2⟩) (λz t=>by cases t) ⟨List.Pairwise.nil,λy a=>by cases a⟩ (λy a=>by
   rcases List.mem_cons.1 a with rfl|a
   · omega
   have:=d y (by simpa using a);omega)
 refine⟨o,n,fA.2 ⟨f,λy a=>⟨(g y a).1,f.2 y a,(g y a).2⟩,l⟩,λp=>?_⟩;rw[q];unfold RH;simp
end Go.Proofs.YtecefhjnejfheaaGreat.Ab
