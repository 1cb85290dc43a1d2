/- Classes of sizes, the quarantine, used frames, pages of a frame, spans on a page: contracts, the reference's and the program's. No condition. -/
import Derived.Test.YtecefhjnejfheaaGreatKqd
import Derived.Test.YtecefhjnejfheaaGreatKqShelf
import Derived.WalkKit
import Derived.Lib.SliceRun
set_option linter.unusedVariables false
set_option linter.unusedSimpArgs false
set_option linter.constructorNameAsVariable false
namespace Go.Proofs.YtecefhjnejfheaaGreat.Ab
open Go.RowKit
set_option maxRecDepth 20000
set_option maxHeartbeats 4000000
theorem vg(xs:List aO)(pr:aO->Bool)(g:xs.length<=9223372036854775807):ar Tryz.prog 541 false [.val none (cS .V xs),.fn (q9 Tryz.prog (ET (some 3) (aO.enc .V) pr xs))] .one [I (dJ pr xs)]:=by
 refine fO 19 [] Tryz.func541 rfl ?_
 repeat'(first|refine gO ?_|fail)
 (conv=>whnf)
 refine CF (ι:=Nat) (λi=>[(0,.H .one (cS .V xs)),(1,.fv (q9 Tryz.prog (ET (some 3) (aO.enc .V) pr xs))),(7,.H .one [I xs.length]),(8,.H .one [I (i:Nat)])]) (λi=>i<=xs.length/\∀(j:Nat)(z:aO),j<i->xs[j]? = some z->pr z=false) (λi=>xs.length - i) 0 ?_ ⟨U0 _,λj z h=>ω⟩ λi d=>?_
 ·exact wB
 obtain⟨d,b⟩:=d;by_cases c:i<xs.length
 ·obtain⟨y,a⟩ : ∃y,xs[i]? = some y:=⟨_,Z1 c⟩
  repeat'(first|refine gD ?_|(conv=>whnf);first|with_reducible refine CD (aa a) ?_|refine Fv.mk (k:=.one) (rcs:=[B (pr y)]) ⟨y,V1 a,rfl,rfl,rfl⟩ ?_|refine Bf.P (λe=>?_) (λe=>?_))
  ·exact W0 (λz=>[I z]) (dX a ‹_› b).symm
  (conv=>whnf)
  refine CE (i+1) ⟨ω,d8 a (by assumption) b⟩ ω ?_;exact wB
 repeat'(first|refine gD ?_|fail)
 exact W0 (λz=>[I z]) (gv ω b).symm
theorem q7(xs:List aO)(pr:aO->Bool)(a:xs.length<=9223372036854775807):ar Tryz.prog 491 false [.val none (cS .V xs),.fn (q9 Tryz.prog (ET (some 3) (aO.enc .V) pr xs))] .one [B (xs.any pr)]:=by
 refine fO 9 [] Tryz.func491 rfl ?_
 repeat'(first|refine gO ?_|(conv=>whnf);first|refine C7 (vg xs pr a) ?_)
 exact W0 (λz=>[B z]) (kN pr xs)
theorem vQ(xs:List ax)(pr:ax->Bool)(g:xs.length<=9223372036854775807):ar Tryz.prog 252 false [.val none (bY .V xs),.fn (q9 Tryz.prog (ET (some 3) (ax.enc .V) pr xs))] .one [I (dJ pr xs)]:=by
 refine fO 19 [] Tryz.func252 rfl ?_
 repeat'(first|refine gO ?_|fail)
 (conv=>whnf)
 refine CF (ι:=Nat) (λi=>[(0,.H .one (bY .V xs)),(1,.fv (q9 Tryz.prog (ET (some 3) (ax.enc .V) pr xs))),(7,.H .one [I xs.length]),(8,.H .one [I (i:Nat)])]) (λi=>i<=xs.length/\∀(j:Nat)(z:ax),j<i->xs[j]? = some z->pr z=false) (λi=>xs.length - i) 0 ?_ ⟨U0 _,λj z h=>ω⟩ λi d=>?_
 ·exact wB
 obtain⟨d,b⟩:=d;by_cases c:i<xs.length
 ·obtain⟨y,a⟩ : ∃y,xs[i]? = some y:=⟨_,Z1 c⟩
  repeat'(first|refine gD ?_|(conv=>whnf);first|with_reducible refine CD (aa a) ?_|refine Fv.mk (k:=.one) (rcs:=[B (pr y)]) ⟨y,V1 a,rfl,rfl,rfl⟩ ?_|refine Bf.P (λe=>?_) (λe=>?_))
  ·exact W0 (λz=>[I z]) (dX a ‹_› b).symm
  (conv=>whnf)
  refine CE (i+1) ⟨ω,d8 a (by assumption) b⟩ ω ?_;exact wB
 repeat'(first|refine gD ?_|fail)
 exact W0 (λz=>[I z]) (gv ω b).symm
theorem yM(xs:List bz)(pr:bz->Bool)(g:xs.length<=9223372036854775807):ar Tryz.prog 85 false [.val none (mT .V xs),.fn (q9 Tryz.prog (ET (some 4) (bz.enc .V) pr xs))] .one [I (dJ pr xs)]:=by
 refine fO 19 [] Tryz.func85 rfl ?_
 repeat'(first|refine gO ?_|fail)
 (conv=>whnf)
 refine CF (ι:=Nat) (λi=>[(0,.H .one (mT .V xs)),(1,.fv (q9 Tryz.prog (ET (some 4) (bz.enc .V) pr xs))),(7,.H .one [I xs.length]),(8,.H .one [I (i:Nat)])]) (λi=>i<=xs.length/\∀(j:Nat)(z:bz),j<i->xs[j]? = some z->pr z=false) (λi=>xs.length - i) 0 ?_ ⟨U0 _,λj z h=>ω⟩ λi d=>?_
 ·exact wB
 obtain⟨d,b⟩:=d;by_cases c:i<xs.length
 ·obtain⟨y,a⟩ : ∃y,xs[i]? = some y:=⟨_,Z1 c⟩
  repeat'(first|refine gD ?_|(conv=>whnf);first|with_reducible refine CD (aa a) ?_|refine Fv.mk (k:=.one) (rcs:=[B (pr y)]) ⟨y,V1 a,rfl,rfl,rfl⟩ ?_|refine Bf.P (λe=>?_) (λe=>?_))
  ·exact W0 (λz=>[I z]) (dX a ‹_› b).symm
  (conv=>whnf)
  refine CE (i+1) ⟨ω,d8 a (by assumption) b⟩ ω ?_;exact wB
 repeat'(first|refine gD ?_|fail)
 exact W0 (λz=>[I z]) (gv ω b).symm
theorem tP(xs:List bz)(pr:bz->Bool)(a:xs.length<=9223372036854775807):ar Tryz.prog 247 false [.val none (mT .V xs),.fn (q9 Tryz.prog (ET (some 4) (bz.enc .V) pr xs))] .one [B (xs.any pr)]:=by
 refine fO 9 [] Tryz.func247 rfl ?_
 repeat'(first|refine gO ?_|(conv=>whnf);first|refine C7 (yM xs pr a) ?_)
 exact W0 (λz=>[B z]) (kN pr xs)
theorem MR{k:Nat}(a:k<=3):IntKind.i64.wrap (1*2 ^ min ((k:Nat):Int).toNat IntKind.i64.bits)=csz (k:Nat):=by
 obtain rfl|rfl|rfl|rfl:k=0\/k=1\/k=2\/k=3:=ω
 all_goals decide
theorem NY{k:Nat}(a:k<=100):IntKind.u64.wrap (k:Nat)=(k:Nat):=by
 unfold IntKind.wrap;simp[IntKind.signed,IntKind.bits];omega
theorem AZ{k:Nat}{z:Int}(a:k<=3)(h:csz (k:Nat)<z)(b:z<=8):k<=2:=by
 have c:csz ((3:Nat):Int)=8:=by decide
 obtain rfl|rfl|rfl|rfl:k=0\/k=1\/k=2\/k=3:=ω
 all_goals omega
theorem xg{k:Nat}{z:Int}(g:k<=3)(h1:1<=z)(a:k=0\/csz ((k - 1:Nat):Int)<z)(b:¬csz (k:Nat)<z):aJ z=(k:Nat):=by
 have c:csz ((0:Nat):Int)=1:=by decide
 have d:csz ((1:Nat):Int)=2:=by decide
 have e:csz ((2:Nat):Int)=4:=by decide
 have f:csz ((3:Nat):Int)=8:=by decide
 unfold aJ;obtain rfl|rfl|rfl|rfl:k=0\/k=1\/k=2\/k=3:=ω
 all_goals simp only[Nat.reduceSub,c,d,e,f]at a b
 all_goals(repeat' split)<;>omega
theorem kG(z:Int):ar Tryz.prog 235 false [.val none [I z]] .one [I (aJ z)]:=by
 refine fO 15 [] Tryz.func235 rfl ?_;by_cases c:1<=z/\z<=8
 ·repeat'(first|refine gD ?_|(conv=>whnf);first|with_reducible refine Bf.D (λb=>?_) (λb=>?_)|refine C7 (aH z 1 8) ?_)
  (conv=>whnf)
  refine CF (ι:=Nat) (λk=>[(0,.H .one [I (z)]),(3,.H .one [I ((k:Nat):Int)])]) (λk=>k<=3/\(k=0\/csz ((k - 1:Nat):Int)<z)) (λk=>4 - k) (0) ?_ (⟨ω,.inl rfl⟩) λk a=>?_
  ·exact wB
  obtain⟨a,d⟩:=a
  repeat'(first|refine gO ?_|(conv=>whnf);first|with_reducible refine Bf.D (λb=>?_) (λb=>?_)|refine CM (NY ω) ?_|refine CM (MR a) ?_|refine CO ω ?_)
  all_goals first
   | exact W0 (λz=>[I z]) (xg a c.1 d (by assumption)).symm
   | ((conv=>whnf);refine CE (k+1) ⟨by have:=AZ a (by assumption) c.2;omega,.inr (by simpa using (by assumption:csz (k:Nat)<z))⟩ (by have:=AZ a (by assumption) c.2;omega) ?_;(exact wB))
 repeat'(first|refine gD ?_|(conv=>whnf);first|with_reducible refine Bf.D (λb=>?_) (λb=>?_)|refine C7 (aH z 1 8) ?_)
 all_goals exact W0 (λz=>[I z]) (by unfold aJ;(repeat' split)<;>omega)
theorem nr(z:Int):ar Tryz.prog 61 false [.val none [I z]] .one [I (aJ z)]:=by
 refine fO 14 [] Tryz.func61 rfl ?_;by_cases c:1<=z/\z<=8
 ·repeat'(first|refine gD ?_|(conv=>whnf);first|with_reducible refine Bf.D (λa=>?_) (λa=>?_)|refine C7 (aP z 1 8) ?_)
  (conv=>whnf)
  refine CF (ι:=Nat) (λk=>[(0,.H .one [I (z)]),(3,.H .one [I ((k:Nat):Int)])]) (λk=>k<=3/\(k=0\/csz ((k - 1:Nat):Int)<z)) (λk=>4 - k) (0) ?_ (⟨ω,.inl rfl⟩) λk b=>?_
  ·exact wB
  obtain⟨b,d⟩:=b
  repeat'(first|refine gO ?_|(conv=>whnf);first|with_reducible refine Bf.D (λa=>?_) (λa=>?_)|refine C7 (cJ _) ?_)
  all_goals first
   | exact W0 (λz=>[I z]) (xg b c.1 d (by assumption)).symm
   | ((conv=>whnf);refine CE (k+1) ⟨by have:=AZ b (by assumption) c.2;omega,.inr (by simpa using (by assumption:csz (k:Nat)<z))⟩ (by have:=AZ b (by assumption) c.2;omega) ?_;(exact wB))
 repeat'(first|refine gD ?_|(conv=>whnf);first|with_reducible refine Bf.D (λa=>?_) (λa=>?_)|refine C7 (aP z 1 8) ?_)
 all_goals exact W0 (λz=>[I z]) (by unfold aJ;(repeat' split)<;>omega)
theorem rn(q:bR)(a:Int)(e:bR.sml q):ar Tryz.prog 373 false [.val (some 2) (bR.enc .V q),.val none [I a]] .one [B (q.a6.any (eD a))]:=by
 have j:q.a6.length<=1048576:=e.1;refine fO 21 [] Tryz.func373 rfl ?_
 repeat'(first|refine gO ?_|fail)
 (conv=>whnf)
 refine CF (ι:=Nat) (λi=>[(1,.H .one [I (a)]),(2,.H .box (bR.enc .V q)),(5,.H .one [I ((i:Nat):Int)])]) (λi=>i<=q.a6.length/\(q.a6.take i).any (eD a)=false) (λi=>q.a6.length - i) (0) ?_ (⟨U0 _,rfl⟩) λi c=>?_
 ·exact wB
 obtain⟨c,d⟩:=c;by_cases g:i<q.a6.length
 ·have b:=ao g
  repeat'(first|refine gD ?_|(conv=>whnf);first|with_reducible (first|refine CD (aa b) ?_|refine Bf.E (λh=>?_) (λh=>?_)))
  all_goals first
   | exact W0 (λz=>[B z]) ((Bj b (O0 (by assumption))).symm)
   | ((conv=>whnf);refine CE (i+1) ⟨ω,wF b d (T0 (by assumption))⟩ ω ?_;(exact wB))
 repeat'(first|refine gD ?_|fail)
 exact W0 (λz=>[B z]) ((GU ω d).symm)
theorem iR(xs:List aO)(i:Nat):quarCells xs (i+1)=quarCells xs i+csz (nth xs i).a:=rfl
theorem sQ(k:Int):0<=csz k/\csz k<=8:=by
 by_cases h:0<=k/\k<=3
 ·rcases bE h with e|e|e|e<;>rw[e]<;>decide
 unfold csz;rw[C8 h];decide
theorem uR(xs:List aO)(c:kY xs):ar Tryz.prog 374 false [.val none (cS .V xs)] .one [I (quarCells xs xs.length)]:=by
 have g:=c.1;refine fO 20 [] Tryz.func374 rfl ?_
 repeat'(first|refine gO ?_|fail)
 (conv=>whnf)
 refine CF (ι:=Nat) (λi=>[(0,.H .one (cS .V xs)),(3,.H .one [I (quarCells xs i)]),(4,.H .one [I ((i:Nat):Int)])]) (λi=>i<=xs.length/\0<=quarCells xs i/\quarCells xs i<=8*i) (λi=>xs.length - i) (0) ?_ (⟨U0 _,by simp[quarCells],by simp[quarCells]⟩) λi b=>?_
 ·exact wB
 obtain⟨b,h,j⟩:=b;by_cases d:i<xs.length
 ·have e:=ao d
  have k:=sQ (nth xs i).a;have a:=iR xs i
  repeat'(first|refine gD ?_|(conv=>whnf);first|with_reducible refine CD (aa e) ?_|refine C7 (de _) ?_)
  ((conv=>whnf);refine CE (i+1) ⟨ω,ω,ω⟩ ω ?_)
  rw[a];exact wB
 repeat'(first|refine gD ?_|fail)
 obtain rfl:i=xs.length:=ω
 rfl
theorem oD(xs:List aO)(c:kY xs):ar Tryz.prog 93 false [.val none (cS .V xs)] .one [I (quarCells xs xs.length)]:=by
 have g:=c.1;refine fO 19 [] Tryz.func93 rfl ?_
 repeat'(first|refine gO ?_|fail)
 (conv=>whnf)
 refine CF (ι:=Nat) (λi=>[(3,.H .one [I (quarCells xs i)]),(6,.H .one (cS .V xs)),(7,.H .one [I (xs.length)]),(8,.H .one [I ((i:Nat):Int)])]) (λi=>i<=xs.length/\0<=quarCells xs i/\quarCells xs i<=8*i) (λi=>xs.length - i) (0) ?_ (⟨U0 _,by simp[quarCells],by simp[quarCells]⟩) λi b=>?_
 ·exact wB
 obtain⟨b,h,j⟩:=b;by_cases d:i<xs.length
 ·have e:=ao d
  have k:=sQ (nth xs i).a;have a:=iR xs i
  repeat'(first|refine gD ?_|(conv=>whnf);first|with_reducible refine CD (aa e) ?_|refine C7 (cJ _) ?_)
  ((conv=>whnf);refine CE (i+1) ⟨ω,ω,ω⟩ ω ?_)
  rw[a];exact wB
 repeat'(first|refine gD ?_|fail)
 obtain rfl:i=xs.length:=ω
 rfl
theorem yZ(a:aO):ar Tryz.prog 372 false [.val (some 3) (aO.enc .V a)] .one [B (decide (0<=a.a/\a.a<=3/\0<=a.Addr/\0<=a.b7))]:=by
 refine fO 16 [] Tryz.func372 rfl ?_
 repeat'(first|refine gO ?_|(conv=>whnf);first|with_reducible refine Bf.D (λb=>?_) (λb=>?_)|refine C7 (aH _ 0 3) ?_)
 all_goals exact W0 (λz=>[B z]) ((by first|(symm;exact T0 ω)|exact decide_eq_decide.2 ω))
theorem LP{xs:List aO}(a:kY xs)(i:Nat):kY (xs.take i):=⟨by have:=a.1;rw[R1];omega,λ_ _=>trivial⟩
theorem oN(q:bR)(a:bR.sml q):ar Tryz.prog 228 false [.val (some 2) (bR.enc .V q)] .one [B (fE q)]:=by
 have l:q.a6.length<=1048576:=a.1;refine fO 57 [(5,29,[17,18,19,20,21,22,23,24,25,26,27,28,29,30,31,32,33,34,35,36,37,38,39,40,41,42,43,44,45]),(7,11,[46,47,48,49,50,51,52,53,54,55,56])] Tryz.func228 rfl ?_
 repeat'(first|refine gO ?_|fail)
 (conv=>whnf)
 refine CF (ι:=Nat) (λi=>[(1,.H .box (bR.enc .V q)),(3,.H .one [I ((i:Nat):Int)])]) (λi=>i<=q.a6.length/\cQ i (kv q.a6)=true) (λi=>q.a6.length - i) 0 ?_ ⟨U0 _,rfl⟩ λi e=>?_
 ·exact wB
 obtain⟨e,g⟩:=e;by_cases b:i<q.a6.length
 ·have j:=ao b
  have h:=rn ⟨0,q.a6.take i⟩ (nth q.a6 i).Addr (LP a i);cases c:(q.a6.take i).any (eD (nth q.a6 i).Addr)<;>rw[show(bR.mk 0 (q.a6.take i)).a6.any (eD (nth q.a6 i).Addr)=_ from c]at h
  all_goals
   repeat'(first|refine gD ?_|(conv=>whnf);first|with_reducible (first|refine CD (aa j) ?_|refine Bf.D (λd=>?_) (λd=>?_))|refine C7 (yZ _) ?_|refine CN ω (aa (gi ω b)) ?_|refine CX i rfl (by simp;omega) (λr k=>by obtain⟨z,-,rfl⟩:=t4.1 k;rfl) (Y3 ..) ?_|refine C7 h ?_)
   all_goals first
    | exact W0 (λz=>[B z]) ((by symm;unfold fE;rw[cj b (by unfold kv;first|(rw[c];simp;done)|(rw[T0 ω];rfl))];rfl))
    | ((conv=>whnf);refine CE (i+1) ⟨ω,bJ g (by unfold kv;rw[c,O0 ω];rfl)⟩ ω ?_;(exact wB))
 obtain rfl:i=q.a6.length:=ω
 repeat'(first|refine gD ?_|(conv=>whnf);first|with_reducible refine Bf.D (λd=>?_) (λd=>?_)|refine C7 (aH _ 0 500) ?_|refine C7 (uR q.a6 a) ?_)
 all_goals exact W0 (λz=>[B z]) ((by unfold fE;rw[g];simp only[Bool.true_and];first|(symm;exact T0 ω)|exact decide_eq_decide.2 ω))
theorem uF(b:aO)(a:Int):ar Tryz.prog 492 false [.val (some 3) (aO.enc .V b),.ptr [I a]] .one [B (eD a b)]:=by
 refine fO 8 [] Tryz.func492 rfl ?_
 repeat'(first|refine gO ?_|fail)
 exact W0 (λz=>[B z]) ((by unfold eD;rw[O4];simp))
theorem yp(xs:List aO)(a:Int)(b:xs.length<=9223372036854775807):ar Tryz.prog 392 false [.val none (cS .V xs),.val none [I a]] .one [B (xs.any (eD a))]:=by
 refine fO 8 [] Tryz.func392 rfl ?_
 repeat'(first|refine gO ?_|(conv=>whnf);first|refine Cq.mk (ET (some 3) (aO.enc .V) (eD a) xs) (uF default a).has (λL k rcs c=>?_) ?_|refine C7 (q7 xs (eD a) b) ?_)
 ·obtain⟨y,-,rfl,rfl,rfl⟩:=c
  exact uF y a
 rfl
def p8(xs:List aO)(a:aO):Bool:=decide (0<=a.a/\a.a<=3/\0<=a.Addr/\0<=a.b7/\(xs.length=0\/(nth xs (xs.length - 1)).b7<=a.b7))&&!xs.any (eD a.Addr)
theorem Ay(xs:List aO)(b:aO)(g:xs.length<=1048576):ar Tryz.prog 245 false [.val none (cS .V xs),.val (some 3) (aO.enc .V b)] .one [B (p8 xs b)]:=by
 have c:=yp xs b.Addr ω;cases d:xs.any (eD b.Addr)<;>rw[d]at c
 ·by_cases h:xs.length=0
  ·refine fO 40 [(3,15,[25,26,27,28,29,30,31,32,33,34,35,36,37,38,39])] Tryz.func245 rfl ?_
   repeat'(first|refine gO ?_|(conv=>whnf);first|with_reducible (first|refine Bf.D (λa=>?_) (λa=>?_)|refine Bf.E (λa=>?_) (λa=>?_))|refine C7 (fI _) ?_|refine C7 c ?_)
   all_goals first
    | exact W0 (λz=>[B z]) ((by unfold p8;rw[d,Bool.not_false,Bool.and_true];first|(symm;exact T0 ω)|(symm;exact O0 ω)|exact decide_eq_decide.2 ω))
    |(exfalso;omega)
    |trace_state
  have e:xs[((xs.length:Int) - 1).toNat]? = some (nth xs (xs.length - 1)):=by rw[show((xs.length:Int) - 1).toNat=xs.length - 1 by omega];exact ao ω
  refine fO 40 [(3,15,[25,26,27,28,29,30,31,32,33,34,35,36,37,38,39])] Tryz.func245 rfl ?_
  repeat'(first|refine gO ?_|(conv=>whnf);first|with_reducible (first|refine Bf.D (λa=>?_) (λa=>?_)|refine Bf.E (λa=>?_) (λa=>?_))|refine C7 (fI _) ?_|refine C7 c ?_|refine CN ω (aa e) ?_)
  all_goals first
   | exact W0 (λz=>[B z]) ((by unfold p8;rw[d,Bool.not_false,Bool.and_true];first|(symm;exact T0 ω)|(symm;exact O0 ω)|exact decide_eq_decide.2 ω))
   |(exfalso;omega)
   |trace_state
 refine fO 40 [(3,15,[25,26,27,28,29,30,31,32,33,34,35,36,37,38,39])] Tryz.func245 rfl ?_
 repeat'(first|refine gO ?_|(conv=>whnf);first|with_reducible refine Bf.D (λa=>?_) (λa=>?_)|refine C7 (fI _) ?_|refine C7 c ?_)
 all_goals exact W0 (λz=>[B z]) ((by unfold p8;rw[d];simp))
theorem Ga{xs:List aO}{i:Nat}(d:i<xs.length):p8 (xs.take i) (nth xs i)=kv xs i:=by
 unfold p8 kv;have a:(xs.take i).length=i:=by rw[R1];omega
 rw[a]
 congr 1
 refine decide_eq_decide.2 ?_;by_cases b:i=0
 ·subst b;simp
 have c:nth (xs.take i) (i - 1)=nth xs (i - 1):=by
  have:=ao (xs:=xs) (i:=i - 1) ω;exact bj (by rw[List.getElem?_take_of_lt ω];exact this)
 rw[c]
theorem D6(q:bR)(d:bR.sml q):ar Tryz.prog 76 false [.val (some 2) (bR.enc .V q)] .one [B (fE q)]:=by
 have l:q.a6.length<=1048576:=d.1;refine fO 32 [(4,7,[13,14,15,16,17,18,19]),(7,11,[21,22,23,24,25,26,27,28,29,30,31])] Tryz.func76 rfl ?_
 repeat'(first|refine gO ?_|fail)
 (conv=>whnf)
 refine CF (ι:=Nat) (λi=>[(1,.H .box (bR.enc .V q)),(6,.H .one (cS .V q.a6)),(7,.H .one [I (q.a6.length)]),(8,.H .one [I ((i:Nat):Int)])]) (λi=>i<=q.a6.length/\cQ i (kv q.a6)=true) (λi=>q.a6.length - i) 0 ?_ ⟨U0 _,rfl⟩ λi e=>?_
 ·exact wB
 obtain⟨e,g⟩:=e;by_cases a:i<q.a6.length
 ·have h:=ao a
  have b:=Ay (q.a6.take i) (nth q.a6 i) (by rw[R1];omega);rw[Ga a]at b;cases c:kv q.a6 i<;>rw[c]at b
  all_goals
   repeat'(first|refine gD ?_|(conv=>whnf);first|with_reducible refine CD (aa h) ?_|refine CX i rfl (by simp;omega) (λr j=>by obtain⟨z,-,rfl⟩:=t4.1 j;rfl) (Y3 ..) ?_|refine C7 b ?_)
   all_goals first
    | exact W0 (λz=>[B z]) ((by symm;unfold fE;rw[cj a c];rfl))
    | ((conv=>whnf);refine CE (i+1) ⟨ω,bJ g c⟩ ω ?_;(exact wB))
 obtain rfl:i=q.a6.length:=ω
 repeat'(first|refine gD ?_|(conv=>whnf);first|with_reducible refine Bf.D (λk=>?_) (λk=>?_)|refine C7 (aP _ 0 500) ?_|refine C7 (oD q.a6 d) ?_)
 all_goals exact W0 (λz=>[B z]) ((by unfold fE;rw[g];simp only[Bool.true_and];first|(symm;exact T0 ω)|exact decide_eq_decide.2 ω))
def iY(a:List Bool):Nat->Int
 | 0=>0
 | i+1=>iY a i+(if nth a i then 1 else 0)
def gu(f:aV):Int:=if cU f then iY f.a5 f.a5.length else 0
theorem zU{a:List Bool}{i:Nat}(h:nth a i=true):iY a (i+1)=iY a i+1:=by show iY a i+(if nth a i then 1 else 0)=_;rw[h];rfl
theorem BK{a:List Bool}{i:Nat}(h:nth a i=false):iY a (i+1)=iY a i:=by show iY a i+(if nth a i then 1 else 0)=_;rw[h];simp
theorem JY(f:aV)(h:aV.sml f):ar Tryz.prog 26 false [.val (some 2) (aV.enc .V f)] .one [I (gu f)]:=by
 have l:f.a5.length<=1048576:=h.2;have b:=pW f h;cases d:cU f<;>rw[d]at b
 ·refine fO 24 [] Tryz.func26 rfl ?_
  repeat'(first|refine gO ?_|fail)
  (conv=>whnf)
  refine CF (ι:=Nat) (λi=>[(1,.H .box (aV.enc .V f)),(3,.H .one [I ((0:Int))]),(4,.H .one [I ((i:Nat):Int)])]) (λi=>i=0) (λi=>i) (0) ?_ (rfl) λi c=>?_
  ·exact wB
  subst c
  repeat'(first|refine gO ?_|(conv=>whnf);first|with_reducible refine Bf.D (λj=>?_) (λj=>?_)|refine C7 b ?_)
  all_goals exact W0 (λz=>[I z]) (by unfold gu;rw[d];rfl)
 refine fO 24 [] Tryz.func26 rfl ?_
 repeat'(first|refine gO ?_|fail)
 (conv=>whnf)
 refine CF (ι:=Nat) (λi=>[(1,.H .box (aV.enc .V f)),(3,.H .one [I (iY f.a5 i)]),(4,.H .one [I ((i:Nat):Int)])]) (λi=>i<=f.a5.length/\0<=iY f.a5 i/\iY f.a5 i<=i) (λi=>f.a5.length - i) (0) ?_ (⟨U0 _,by simp[iY],by simp[iY]⟩) λi c=>?_
 ·exact wB
 obtain⟨c,n,o⟩:=c;by_cases k:i<f.a5.length
 ·have e:=ao k
  cases g:nth f.a5 i<;>rw[g]at e
  ·have a:=BK g
   repeat'(first|refine gD ?_|(conv=>whnf);first|with_reducible refine CD (aa e) ?_|refine C7 b ?_)
   ((conv=>whnf);refine CE (i+1) ⟨ω,ω,ω⟩ ω ?_)
   rw[a];exact wB
  have a:=zU g
  repeat'(first|refine gD ?_|(conv=>whnf);first|with_reducible refine CD (aa e) ?_|refine C7 b ?_)
  ((conv=>whnf);refine CE (i+1) ⟨ω,ω,ω⟩ ω ?_)
  rw[a];exact wB
 obtain rfl:i=f.a5.length:=ω
 repeat'(first|refine gD ?_|(conv=>whnf);first|refine C7 b ?_)
 exact W0 (λz=>[I z]) (by unfold gu;rw[d];rfl)
theorem uZ(f:aV)(g:aV.sml f):ar Tryz.prog 91 false [.val (some 2) (aV.enc .V f)] .one [I (gu f)]:=by
 have k:f.a5.length<=1048576:=g.2;have b:=qb f g;cases c:cU f<;>rw[c]at b
 ·refine fO 21 [] Tryz.func91 rfl ?_
  repeat'(first|refine gO ?_|(conv=>whnf);first|refine C7 b ?_)
  all_goals exact W0 (λz=>[I z]) (by unfold gu;rw[c];rfl)
 refine fO 21 [] Tryz.func91 rfl ?_
 repeat'(first|refine gO ?_|(conv=>whnf);first|refine C7 b ?_)
 (conv=>whnf)
 refine CF (ι:=Nat) (λi=>[(3,.H .one [I (iY f.a5 i)]),(10,.H .one (jY .V f.a5)),(11,.H .one [I (f.a5.length)]),(12,.H .one [I ((i:Nat):Int)])]) (λi=>i<=f.a5.length/\0<=iY f.a5 i/\iY f.a5 i<=i) (λi=>f.a5.length - i) (0) ?_ (⟨U0 _,by simp[iY],by simp[iY]⟩) λi h=>?_
 ·exact wB
 obtain⟨h,l,n⟩:=h;by_cases j:i<f.a5.length
 ·have d:=ao j
  cases e:nth f.a5 i<;>rw[e]at d
  ·have a:=BK e
   repeat'(first|refine gD ?_|(conv=>whnf);first|with_reducible refine CD (aa d) ?_)
   ((conv=>whnf);refine CE (i+1) ⟨ω,ω,ω⟩ ω ?_)
   rw[a];exact wB
  have a:=zU e
  repeat'(first|refine gD ?_|(conv=>whnf);first|with_reducible refine CD (aa d) ?_)
  ((conv=>whnf);refine CE (i+1) ⟨ω,ω,ω⟩ ω ?_)
  rw[a];exact wB
 obtain rfl:i=f.a5.length:=ω
 repeat'(first|refine gD ?_|fail)
 exact W0 (λz=>[I z]) (by unfold gu;rw[c];rfl)
def vo(h:ab):Prop:=aI.sml h.G.F.R
theorem ic(h:ab)(p:Int)(a:vo h):ar Tryz.prog 369 false [.val (some 24) (ab.enc .V h),.val none [I p]] .one (aG .own (aN h p)):=by
 refine fO 23 [] Tryz.func369 rfl ?_ (.inr (bM _))
 repeat'((conv=>whnf);first|with_reducible (first|refine Lm ?_|refine Wm ω ?_|refine Bf.E (λb=>?_) (λb=>?_)|refine Bn ?_|refine kg.wk rfl ?_)|refine Bt ?_|refine Bu ?_|refine C7 (dl h.G.F.R p a) ?_|refine C7 (gB h.G.F.R _ a) ?_)
 all_goals(unfold aN;first|rw[C9 (by assumption)]|rw[C8 (by assumption)])
 all_goals exact⟨rfl,trivial⟩
theorem nP(h:ab)(p:Int)(a:vo h):ar Tryz.prog 242 false [.val (some 24) (ab.enc .V h),.val none [I p]] .one (aG .own (aN h p)):=by
 refine fO 22 [] Tryz.func242 rfl ?_ (.inr (bM _))
 repeat'((conv=>whnf);first|with_reducible (first|refine Lm ?_|refine Wm ω ?_|refine Bf.E (λb=>?_) (λb=>?_)|refine Bn ?_|refine kg.wk rfl ?_)|refine Bt ?_|refine Bu ?_|refine C7 (gt h.G.F.R p a) ?_|refine C7 (sf h.G.F.R _ a) ?_)
 all_goals(unfold aN;first|rw[C9 (by assumption)]|rw[C8 (by assumption)])
 all_goals exact⟨rfl,trivial⟩
theorem DL(k:ah)(p:Int)(a:aI.sml k.F.R):ar Tryz.prog 123 false [.val (some 5) (ah.enc .V k),.val none [I p]] .one [B (decide ((ac k.F.R p).e≠0))]:=by
 refine fO 12 [] Tryz.func123 rfl ?_
 repeat'(first|refine gO ?_|(conv=>whnf);first|refine C7 (gt k.F.R p a) ?_)
 exact W0 (λz=>[B z]) ((by rw[O4];simp))
theorem oO(z:Int):ar Tryz.prog 80 false [.val none [I z]] .one [B (decide (0<=z/\z<=1073741823))]:=by
 refine fO 5 [] Tryz.func80 rfl ?_
 repeat'(first|refine gO ?_|(conv=>whnf);first|refine C7 (aP z 0 1073741823) ?_)
 rfl
theorem jG(h:ab)(p:Int)(g:h.K.length<=1048576):ar Tryz.prog 234 false [.val (some 24) (ab.enc .V h),.val none [I p]] .one [I (fH h p)]:=by
 refine fO 22 [] Tryz.func234 rfl ?_
 repeat'(first|refine gO ?_|fail)
 (conv=>whnf)
 refine CF (ι:=Nat) (λi=>[(1,.H .one [I (p)]),(2,.H .box (ab.enc .V h)),(5,.H .one [I ((i:Nat):Int)])]) (λi=>i<=h.K.length/\∀(j:Nat)(z:ax),j<i->h.K[j]? = some z->jX p z=false) (λi=>h.K.length - i) (0) ?_ (⟨U0 _,λj z k=>ω⟩) λi c=>?_
 ·exact wB
 obtain⟨c,a⟩:=c;by_cases d:i<h.K.length
 ·have b:=ao d
  repeat'(first|refine gD ?_|(conv=>whnf);first|with_reducible (first|refine CD (aa b) ?_|refine Bf.E (λe=>?_) (λe=>?_)))
  all_goals first
   | exact W0 (λz=>[I z]) (dX b (O0 (by assumption)) a).symm
   | ((conv=>whnf);refine CE (i+1) ⟨ω,d8 b (T0 (by assumption)) a⟩ ω ?_;(exact wB))
 repeat'(first|refine gD ?_|fail)
 exact W0 (λz=>[I z]) (gv ω a).symm
theorem z6(s:ax)(p:Int):ar Tryz.prog 253 false [.val (some 3) (ax.enc .V s),.ptr [I p]] .one [B (jX p s)]:=by
 refine fO 8 [] Tryz.func253 rfl ?_
 repeat'(first|refine gO ?_|fail)
 exact W0 (λz=>[B z]) ((by unfold jX;rw[O4];simp))
theorem uI(h:ab)(p:Int)(b:h.K.length<=1048576):ar Tryz.prog 82 false [.val (some 24) (ab.enc .V h),.val none [I p]] .one [I (fH h p)]:=by
 refine fO 9 [] Tryz.func82 rfl ?_
 repeat'(first|refine gO ?_|(conv=>whnf);first|refine Cq.mk (ET (some 3) (ax.enc .V) (jX p) h.K) (z6 default p).has (λL k rcs a=>?_) ?_|refine C7 (vQ h.K (jX p) ω) ?_)
 ·obtain⟨y,-,rfl,rfl,rfl⟩:=a
  exact z6 y p
 rfl
def flight1(m:aL)(i:Nat):List Int:=(m.U.take i).flatMap λl=>l.map (·.Addr)
def flight2(m:aL)(i:Nat):List Int:=(m.a0.take i).flatten
theorem nl{m:aL}{i:Nat}{l:List dy}(h:m.U[i]? = some l):flight1 m (i+1)=flight1 m i++l.map (·.Addr):=by
 unfold flight1;rw[Y4,h,List.flatMap_append];simp
theorem nh{m:aL}{i:Nat}{l:List Int}(h:m.a0[i]? = some l):flight2 m (i+1)=flight2 m i++l:=by
 unfold flight2;rw[Y4,h,List.flatten_append];simp
theorem oR{m:aL}(h:bI m=true):aF m=flight1 m m.U.length++flight2 m m.a0.length:=by
 unfold aF flight1 flight2;rw[C9 h,U4,U4]
theorem uH{m:aL}(h:bI m=false):aF m=[]:=by
 unfold aF;rw[h];rfl
theorem kA{m:aL}(h:bI m=true):1<=m.U.length/\m.U.length<=4/\m.a0.length=m.U.length:=by
 unfold bI at h;simp only[I0,C0]at h;exact h.1.1
theorem Db{l:List Int} : ∀r∈l.map (rI .V),r.length=1:=by
 intro r a;obtain⟨z,-,rfl⟩:=t4.1 a;rfl
theorem Hy{l:List Int} : ∀r∈l.map (rI .V),aW r=true:=by
 intro r a;obtain⟨z,-,rfl⟩:=t4.1 a;rfl
theorem y1(m:aL)(j:aL.sml m):ar Tryz.prog 49 false [.val (some 2) (aL.enc .V m)] .one (aG .own (aF m)):=by
 have l:=lA m j;cases e:bI m<;>rw[e]at l
 ·refine fO 56 [] Tryz.func49 rfl ?_ (.inr (bM _))
  repeat'((conv=>whnf);first|with_reducible (first|refine Lm ?_|refine Wm ω ?_|refine Bn ?_|refine kg.wk rfl ?_)|refine Bt ?_|refine Bu ?_|refine C7 l ?_)
  all_goals(rw[uH e];exact⟨rfl,trivial⟩)
 obtain⟨D,E,F⟩:=kA e;refine fO 56 [] Tryz.func49 rfl ?_ (.inr (bM _))
 repeat'(first|refine gO ?_|(conv=>whnf);first|refine C7 l ?_)
 (conv=>whnf)
 refine CF (ι:=Nat × List Int) (λi=>[(1,.H .box (aL.enc .V m)),(3,.H .one (aG .own i.2)),(4,.H .one [I ((i.1:Nat):Int)])]) (λi=>i.1<=m.U.length/\i.2=flight1 m i.1/\i.2.length<=1048576*i.1) (λi=>m.U.length - i.1) ((0,[])) ?_ (⟨U0 _,rfl,U0 _⟩) λi n=>?_
 ·exact wB
 obtain⟨i,S⟩:=i;obtain⟨n,o,t⟩:=n;simp only at n o t |-;by_cases q:i<m.U.length
 ·have g:=ao q
  have u:(nth m.U i).length<=1048576:=(j.1.2 _ (am q)).1
  repeat'(first|refine gD ?_|(conv=>whnf);first|with_reducible refine CD (aa g) ?_)
  (conv=>whnf)
  refine CF (ι:=Nat × List Int) (λk=>[(1,.H .box (aL.enc .V m)),(3,.H .one (aG .own k.2)),(4,.H .one [I ((i:Nat):Int)]),(5,.H .one [I ((k.1:Nat):Int)])]) (λk=>k.1<=(nth m.U i).length/\k.2=S++((nth m.U i).take k.1).map (·.Addr)) (λk=>(nth m.U i).length - k.1) ((0,S)) ?_ (⟨U0 _,by simp⟩) λk b=>?_
  ·exact wB
  obtain⟨k,c⟩:=k;obtain⟨b,a⟩:=b;simp only at b a |-;have w:c.length=S.length+k:=by rw[a,z3,Z0,R1];omega
  by_cases h:k<(nth m.U i).length
  ·have d:=ao h
   repeat'(first|refine gD ?_|(conv=>whnf);first|with_reducible (first|refine CD (aa g) ?_|refine CD (aa d) ?_)|refine CT cA (λr y=>by rw[I1.1 y];rfl) (by simp[aW,dP]) (by simp;omega) (by show _*8<=_;simp;omega) rfl ?_)
   ((conv=>whnf)
    refine CE (k+1,c++[(nth (nth m.U i) k).Addr]) ⟨(by simp only;omega),(by simp only;rw[a,Y4,d,t5,Z4];simp)⟩ (by simp only;omega) ?_
    (repeat'(first|exact trivial|rfl|exact CL rfl (CL (W0 (C.s dI.own) (by simp[rI])) trivial)|refine CL ?_ ?_)))
  obtain rfl:k=(nth m.U i).length:=ω
  rw[U4]at a
  repeat'(first|refine gD ?_|(conv=>whnf);first|with_reducible refine CD (aa g) ?_)
  ((conv=>whnf);refine CE (i+1,c) ⟨(by simp only;omega),(by simp only;rw[nl g,<-o,a]),(by simp only;omega)⟩ (by simp only;omega) ?_;(exact wB))
 obtain rfl:i=m.U.length:=ω
 repeat'(first|refine gD ?_|fail)
 (conv=>whnf)
 refine CF (ι:=Nat × List Int) (λk=>[(1,.H .box (aL.enc .V m)),(3,.H .one (aG .own k.2)),(6,.H .one [I ((k.1:Nat):Int)])]) (λk=>k.1<=m.a0.length/\k.2=S++flight2 m k.1/\k.2.length<=S.length+1048576*k.1) (λk=>m.a0.length - k.1) ((0,S)) ?_ (⟨U0 _,by simp[flight2],by simp⟩) λk b=>?_
 ·exact wB
 obtain⟨k,c⟩:=k;obtain⟨b,a,p⟩:=b;simp only at b a p |-;by_cases h:k<m.a0.length
 ·have d:=ao h
  have B:(nth m.a0 k).length<=1048576:=j.2.2 _ (am h)
  repeat'(first|refine gD ?_|(conv=>whnf);first|with_reducible refine CD (aa d) ?_|refine CT cA Db (λ_=>Hy) (by simp;omega) (by show _*8<=_;simp;omega) rfl ?_)
  ((conv=>whnf)
   refine CE (k+1,c++nth m.a0 k) ⟨(by simp only;omega),(by simp only;rw[nh d,a,Z4]),(by simp only;rw[z3];omega)⟩ (by simp only;omega) ?_
   (repeat'(first|exact trivial|rfl|exact CL rfl (CL (W0 (C.s dI.own) (by simp[rI])) trivial)|refine CL ?_ ?_)))
 obtain rfl:k=m.a0.length:=ω
 repeat'(first|refine gD ?_|fail)
 rw[oR e,<-o,<-a];rfl
theorem pX(m:aL)(h:aL.sml m):ar Tryz.prog 96 false [.val (some 2) (aL.enc .V m)] .one (aG .own (aF m)):=by
 have j:=uQ m h;cases e:bI m<;>rw[e]at j
 ·refine fO 46 [] Tryz.func96 rfl ?_ (.inr (bM _))
  repeat'((conv=>whnf);first|with_reducible (first|refine Lm ?_|refine Wm ω ?_|refine Bn ?_|refine kg.wk rfl ?_)|refine Bt ?_|refine Bu ?_|refine C7 j ?_)
  all_goals(rw[uH e];exact⟨rfl,trivial⟩)
 obtain⟨D,E,F⟩:=kA e;refine fO 46 [] Tryz.func96 rfl ?_ (.inr (bM _))
 repeat'(first|refine gO ?_|(conv=>whnf);first|refine C7 j ?_)
 (conv=>whnf)
 refine CF (ι:=Nat × List Int) (λi=>[(1,.H .box (aL.enc .V m)),(3,.H .one (aG .own i.2)),(15,.H .one (Ec .V m.U)),(16,.H .one [I (m.U.length)]),(17,.H .one [I ((i.1:Nat):Int)])]) (λi=>i.1<=m.U.length/\i.2=flight1 m i.1/\i.2.length<=1048576*i.1) (λi=>m.U.length - i.1) ((0,[])) ?_ (⟨U0 _,rfl,U0 _⟩) λi l=>?_
 ·exact wB
 obtain⟨i,S⟩:=i;obtain⟨l,n,t⟩:=l;simp only at l n t |-;by_cases p:i<m.U.length
 ·have q:=ao p
  have u:(nth m.U i).length<=1048576:=(h.1.2 _ (am p)).1
  repeat'(first|refine gD ?_|(conv=>whnf);first|with_reducible refine CD (aa q) ?_)
  (conv=>whnf)
  refine CF (ι:=Nat × List Int) (λk=>[(1,.H .box (aL.enc .V m)),(3,.H .one (aG .own k.2)),(15,.H .one (Ec .V m.U)),(16,.H .one [I (m.U.length)]),(17,.H .one [I ((i:Nat):Int)]),(21,.H .one (dm .V (nth m.U i))),(22,.H .one [I ((nth m.U i).length)]),(23,.H .one [I ((k.1:Nat):Int)])]) (λk=>k.1<=(nth m.U i).length/\k.2=S++((nth m.U i).take k.1).map (·.Addr)) (λk=>(nth m.U i).length - k.1) ((0,S)) ?_ (⟨U0 _,by simp⟩) λk b=>?_
  ·exact wB
  obtain⟨k,c⟩:=k;obtain⟨b,a⟩:=b;simp only at b a |-;have w:c.length=S.length+k:=by rw[a,z3,Z0,R1];omega
  by_cases g:k<(nth m.U i).length
  ·have d:=ao g
   repeat'(first|refine gD ?_|(conv=>whnf);first|with_reducible refine CD (aa d) ?_|refine CT cA (λr y=>by rw[I1.1 y];rfl) (by simp[aW,dP]) (by simp;omega) (by show _*8<=_;simp;omega) rfl ?_)
   ((conv=>whnf)
    refine CE (k+1,c++[(nth (nth m.U i) k).Addr]) ⟨(by simp only;omega),(by simp only;rw[a,Y4,d,t5,Z4];simp)⟩ (by simp only;omega) ?_
    (repeat'(first|exact trivial|rfl|exact CL rfl (CL (W0 (C.s dI.own) (by simp[rI])) trivial)|refine CL ?_ ?_)))
  obtain rfl:k=(nth m.U i).length:=ω
  rw[U4]at a
  repeat'(first|refine gD ?_|fail)
  ((conv=>whnf);refine CE (i+1,c) ⟨(by simp only;omega),(by simp only;rw[nl q,<-n,a]),(by simp only;omega)⟩ (by simp only;omega) ?_;(exact wB))
 obtain rfl:i=m.U.length:=ω
 repeat'(first|refine gD ?_|fail)
 (conv=>whnf)
 refine CF (ι:=Nat × List Int) (λk=>[(3,.H .one (aG .own k.2)),(35,.H .one (kU .V m.a0)),(36,.H .one [I (m.a0.length)]),(37,.H .one [I ((k.1:Nat):Int)])]) (λk=>k.1<=m.a0.length/\k.2=S++flight2 m k.1/\k.2.length<=S.length+1048576*k.1) (λk=>m.a0.length - k.1) ((0,S)) ?_ (⟨U0 _,by simp[flight2],by simp⟩) λk b=>?_
 ·exact wB
 obtain⟨k,c⟩:=k;obtain⟨b,a,o⟩:=b;simp only at b a o |-;by_cases g:k<m.a0.length
 ·have d:=ao g
  have B:(nth m.a0 k).length<=1048576:=h.2.2 _ (am g)
  repeat'(first|refine gD ?_|(conv=>whnf);first|with_reducible refine CD (aa d) ?_|refine CT cA Db (λ_=>Hy) (by simp;omega) (by show _*8<=_;simp;omega) rfl ?_)
  ((conv=>whnf)
   refine CE (k+1,c++nth m.a0 k) ⟨(by simp only;omega),(by simp only;rw[nh d,a,Z4]),(by simp only;rw[z3];omega)⟩ (by simp only;omega) ?_
   (repeat'(first|exact trivial|rfl|exact CL rfl (CL (W0 (C.s dI.own) (by simp[rI])) trivial)|refine CL ?_ ?_)))
 obtain rfl:k=m.a0.length:=ω
 repeat'(first|refine gD ?_|fail)
 rw[oR e,<-n,<-a];rfl
def tbl(h:ab):aI:=h.G.F.R
def dC(h:ab):Nat:=h.G.F.R.J.length
def xI(xs:List ax)(i:Nat):Bool:=decide (i=0\/(nth xs (i - 1)).Q<(nth xs i).Q)
def xV(xs:List a7)(i:Nat):Bool:=decide (i=0\/(nth xs (i - 1)).Q<(nth xs i).Q)
def vK(h:ab)(l:a7)(k:Nat):Bool:=decide ((aN h (l.Q+(k:Nat))).length=1)
def tC(h:ab)(i:Nat):Bool:=xV h.M i&&cQ (nth h.M i).a2.toNat (vK h (nth h.M i))
def vn(h:ab)(p:Nat):Bool:=decide ((nth (tbl h).J p).e≠0↔(p:Int)∈pgs h.K h.M)&&(decide ((nth (tbl h).J p).e≠0) != h.w.any (re (p:Nat)))
def pages0(h:ab):Bool:=((cQ h.K.length (xI h.K)&&cQ h.M.length (tC h))&&(pgs h.K h.M).all λp=>decide (p<dC h))&&cQ (dC h) (vn h)
def mi(h:ab)(i:Nat)(q:Int):Bool:=decide (fH h q=(i:Nat)) || (decide (0<=fH h q)&&meshable (nth h.K i) (nth h.K (fH h q).toNat))
def rF(h:ab):Bool:=cQ h.K.length λi=>(aN h (nth h.K i).Q).all (mi h i)
def kZ(h:ab)(i j:Nat):Bool:=decide ((ac (tbl h) (nth h.K i).Q).j≠(ac (tbl h) (nth h.K j).Q).j) || meshable (nth h.K i) (nth h.K j)
def nU(h:ab):Bool:=cQ h.K.length λi=>cQ i (kZ h i)
def jU(z:Int)(o:bz):Bool:=decide (o.Id=z)
def iF(h:ab)(o:bz):Bool:=
 let w:=denotes h.K h.M o.Addr
 decide (w.c6=0)&&((decide (w.b6=1)&&decide ((nth h.K w.c4.toNat).a=aJ o.o)) || (decide (w.b6=3)&&decide ((nth h.M w.c4.toNat).o=o.o)))
def gJ(a:Int)(h:ab)(i:Nat):Bool:=decide ((i=0\/(nth h.O (i - 1)).Addr<(nth h.O i).Addr)/\1<=(nth h.O i).Id/\(nth h.O i).Id<=a/\0<=(nth h.O i).a4/\(nth h.O i).a4<=h.S.length - 1)
def objAt(a:Int)(h:ab)(i:Nat):Bool:=(gJ a h i&&!(h.O.take i).any (jU (nth h.O i).Id))&&iF h (nth h.O i)
def eX(h:ab):Bool:=cQ h.O.length (objAt (IntKind.i64.wrap (h.d - 1)) h)
def di(h:ab)(a c:Int):Bool:=
 let w:=denotes h.K h.M a
 (decide (w.b6=1)&&decide (w.c6=0))&&(decide (c<0) || decide ((nth h.K w.c4.toNat).a=c))
def sD(h:ab)(c:aD)(k:Nat):Bool:=(nth c.b k).all λa=>di h a (k:Nat)
def eO(h:ab)(c:aD):Bool:=cQ c.b.length (sD h c)
def gW(h:ab)(x:aO):Bool:=di h x.Addr x.a
def jw(h:ab)(a:Int):Bool:=di h a (-1)
def cy(h:ab):List Int:=h.S.flatMap λc=>c.b.flatten
def gF(h:ab):Bool:=((h.S.all (eO h))&&h.a9.a6.all (gW h))&&(aF h.q).all (jw h)
def holders(h:ab):List Int:=((h.O.map (·.Addr)++cy h)++h.a9.a6.map (·.Addr))++aF h.q
def jT(sp:List ax)(la:List a7)(a:Nat):Bool:=
 let w:=denotes sp la (a:Nat)
 decide (w.c6=0)&&(decide (w.b6=1) || decide (w.b6=3))
def lM(sp:List ax)(la:List a7)(n:Nat):List Int:=((List.range n).filter (jT sp la)).map λ(i:Nat)=>(i:Int)
def ix(sp:List ax)(la:List a7):List Int:=lM sp la 512
def iL(h:ab):Bool:=(gF h&&decide (holders h).Nodup)&&decide ((holders h).length=(ix h.K h.M).length)
def lG(h:ab):Bool:=h.a9.a6.all λx=>decide (x.b7<=h.b3)
def cn(h:ab):Bool:=decide (0<=h.c0/\h.c0<=1073741823/\0<=h.b3/\h.b3<=1000000/\0<=h.c3/\h.c3<=1000/\1<=h.d/\h.d<=1000000)
def u9(h:ab):Bool:=if h.u then(jH h.Z&&decide (0<=fH h h.Z.X.a3))&&decide (0<=fH h h.Z.X.a1) else ss h.Z
def lV(h:ab):Bool:=((a8 h.G&&b8 (dC h) h.w)&&bm h.K h.M)&&pages0 h
set_option maxHeartbeats 8000000
theorem dh{sp:List ax}{la:List a7}(h:bm sp la=true):sp.all bg=true/\la.all bC=true/\(pgs sp la).Nodup:=by
 unfold bm at h;simp only[I0,C0]at h;exact⟨h.1.1,h.1.2,h.2⟩
theorem N1{α:Type}[Inhabited α]{xs:List α}{p:α->Bool}{i:Nat}(h:xs.all p=true)(a:i<xs.length):p (nth xs i)=true:=W3.1 h _ (am a)
theorem DX{h:ab}(h1:cQ h.K.length (xI h.K)=false):pages0 h=false:=by unfold pages0;rw[h1];rfl
theorem sE{h:ab}(h1:cQ h.M.length (tC h)=false):pages0 h=false:=by unfold pages0;rw[h1];simp
theorem Et{h:ab}{p:Int}(h1:p∈pgs h.K h.M)(a:¬p<dC h):pages0 h=false:=by
 have:((pgs h.K h.M).all λp=>decide (p<dC h))=false:=List.all_eq_false.2 ⟨p,h1,by simpa using a⟩;unfold pages0;rw[this];simp
theorem Dr{h:ab}(h1:cQ (dC h) (vn h)=false):pages0 h=false:=by unfold pages0;rw[h1];simp
theorem wy{h:ab}(h1:cQ h.K.length (xI h.K)=true)(a:cQ h.M.length (tC h)=true)(b:∀p∈pgs h.K h.M,p<dC h)(c:cQ (dC h) (vn h)=true):pages0 h=true:=by
 have:((pgs h.K h.M).all λp=>decide (p<dC h))=true:=W3.2 λp d=>O0 (b p d)
 unfold pages0;rw[h1,a,c,this];rfl
theorem Mj{h:ab}{i:Nat}(h1:xV h.M i=false):tC h i=false:=by unfold tC;rw[h1];rfl
theorem Mw{h:ab}{i k:Nat}(a:k<(nth h.M i).a2.toNat)(h1:vK h (nth h.M i) k=false):tC h i=false:=by unfold tC;rw[cj a h1];simp
theorem DU{h:ab}{i:Nat}(h1:xV h.M i=true)(a:cQ (nth h.M i).a2.toNat (vK h (nth h.M i))=true):tC h i=true:=by unfold tC;rw[h1,a];rfl
theorem fX(h:ab)(p:Int):(aN h p).length<=dC h:=by
 unfold aN;split
 ·simp
 exact qD ..
theorem uh{sp:List ax}{la:List a7}(h:bm sp la=true){i:Nat}{l:a7}(a:la[i]? = some l):1<=l.a2/\l.a2<=63/\0<=l.Q/\l.Q<=31:=
 aM (W3.1 (dh h).2.1 l (V1 a))
theorem BN(h:ab)(G:d9 h.K)(H:d6 h.M)(l:vo h)(J:jg h.w)(n:bm h.K h.M=true):ar Tryz.prog 226 false [.val (some 24) (ab.enc .V h)] .one [B (pages0 h)]:=by
 have Z:=G.1;have hl2:=H.1;have hl3:dC h<=1048576:=l.1;have hl4:=J.1;refine fO 144 [(7,18,[28,29,30,31,32,33,34,35,36,37,38,39,40,41,42,43,44,45]),(13,18,[62,63,64,65,66,67,68,69,70,71,72,73,74,75,76,77,78,79])] Tryz.func226 rfl ?_
 repeat'(first|refine gO ?_|fail)
 (conv=>whnf)
 refine CF (ι:=Nat × List Int) (λi=>[(1,.H .box (ab.enc .V h)),(3,.H .box (aI.enc .V (tbl h))),(4,.H .one [I (dC h)]),(5,.H .one (aG .own i.2)),(6,.H .one [I ((i.1:Nat):Int)])]) (λi=>i.1<=h.K.length/\i.2=(h.K.take i.1).map (·.Q)/\cQ i.1 (xI h.K)=true) (λi=>h.K.length - i.1) ((0,[])) ?_ (⟨U0 _,rfl,rfl⟩) λi K=>?_
 ·exact wB
 obtain⟨i,S⟩:=i;obtain⟨K,o,L⟩:=K;simp only at K o L |-;have hSl:S.length=i:=by rw[o,Z0,R1];omega
 by_cases M:i<h.K.length
 ·have c:=ao M
  repeat'(first|refine gD ?_|(conv=>whnf);first|with_reducible (first|refine CD (aa c) ?_|refine Bf.D (λa=>?_) (λa=>?_))|refine CN ω (aa (gi ω M)) ?_|refine CT cA (λr t=>by rw[I1.1 t];rfl) (by simp[aW,dP]) (by simp;omega) (by simp only[Z0];exact xY (by simp;omega) (by decide)) rfl ?_)
  all_goals first
   | exact W0 (λz=>[B z]) ((DX (cj M (T0 ω))).symm)
   | ((conv=>whnf)
      refine CE (i+1,S++[(nth h.K i).Q]) ⟨(by simp only;omega),(by simp only;rw[o,Y4,c];simp),bJ L (O0 ω)⟩ (by simp only;omega) ?_
      (repeat'(first|exact trivial|rfl|exact CL rfl (CL (W0 (C.s dI.own) (by simp[rI])) trivial)|refine CL ?_ ?_)))
 obtain rfl:i=h.K.length:=ω
 rw[U4]at o
 repeat'(first|refine gD ?_|fail)
 (conv=>whnf)
 refine CF (ι:=Nat × List Int) (λk=>[(1,.H .box (ab.enc .V h)),(3,.H .box (aI.enc .V (tbl h))),(4,.H .one [I (dC h)]),(5,.H .one (aG .own k.2)),(7,.H .one [I ((k.1:Nat):Int)])]) (λk=>k.1<=h.M.length/\k.2=pgs h.K (h.M.take k.1)/\cQ k.1 (tC h)=true/\k.2.length<=1048576+64*k.1) (λk=>h.M.length - k.1) ((0,S)) ?_ (⟨U0 _,by rw[o];unfold pgs;simp,rfl,by simp only;omega⟩) λk O=>?_
 ·exact wB
 obtain⟨k,S2⟩:=k;obtain⟨O,b,Q,R⟩:=O;simp only at O b Q R |-;by_cases y:k<h.M.length
 ·have c:=ao y
  have hpg:=uh n c
  repeat'(first|refine gD ?_|(conv=>whnf);first|with_reducible (first|refine CD (aa c) ?_|refine Bf.D (λa=>?_) (λa=>?_))|refine CN ω (aa (gi ω y)) ?_)
  all_goals first
   | exact W0 (λz=>[B z]) ((sE (cj y (Mj (T0 ω)))).symm)
   |have e:xV h.M k=true:=O0 ω
    (conv=>whnf)
    refine CF (ι:=Nat × List Int) (λq=>[(1,.H .box (ab.enc .V h)),(3,.H .box (aI.enc .V (tbl h))),(4,.H .one [I (dC h)]),(5,.H .one (aG .own q.2)),(7,.H .one [I ((k:Nat):Int)]),(8,.H .one [I ((q.1:Nat):Int)])]) (λq=>q.1<=(nth h.M k).a2.toNat/\q.2=S2++lpgs (nth h.M k) q.1/\cQ q.1 (vK h (nth h.M k))=true) (λq=>(nth h.M k).a2.toNat - q.1) ((0,S2)) ?_ (⟨U0 _,by simp[lpgs],rfl⟩) λq a=>?_
    ·exact wB
    obtain⟨q,T⟩:=q;obtain⟨U,d,g⟩:=a;simp only at U d g |-;have W:T.length=S2.length+q:=by rw[d,z3,Ej]
    by_cases E:q<(nth h.M k).a2.toNat
    ·have hfl:=fX h ((nth h.M k).Q+(q:Nat))
     repeat'(first|refine gD ?_|(conv=>whnf);first|with_reducible (first|refine CD (aa c) ?_|refine Bf.N (λa=>?_) (λa=>?_))|refine C7 (ic h _ l) ?_|refine CT cA (λr t=>by rw[I1.1 t];rfl) (by simp[aW,dP]) (by simp;omega) (by show _*8<=_;simp;omega) rfl ?_)
     all_goals first
      | exact W0 (λz=>[B z]) ((sE (cj y (Mw E (T0 ω)))).symm)
      | ((conv=>whnf)
         refine CE (q+1,T++[(nth h.M k).Q+(q:Nat)]) ⟨(by simp only;omega),(by simp only;rw[d,kI,Z4]),bJ g (O0 ω)⟩ (by simp only;omega) ?_
         (repeat'(first|exact trivial|rfl|exact CL rfl (CL (W0 (C.s dI.own) (by simp[rI])) trivial)|refine CL ?_ ?_)))
    obtain rfl:q=(nth h.M k).a2.toNat:=ω
    repeat'(first|refine gD ?_|(conv=>whnf);first|with_reducible refine CD (aa c) ?_)
    ((conv=>whnf);refine CE (k+1,T) ⟨(by simp only;omega),(by simp only;rw[d,b,<-oZ _ c]),bJ Q (DU e g),(by simp only;omega)⟩ (by simp only;omega) ?_;(exact wB))
 obtain rfl:k=h.M.length:=ω
 rw[U4]at b
 repeat'(first|refine gD ?_|fail)
 (conv=>whnf)
 refine CF (ι:=Nat) (λq=>[(1,.H .box (ab.enc .V h)),(3,.H .box (aI.enc .V (tbl h))),(4,.H .one [I (dC h)]),(5,.H .one (aG .own S2)),(10,.H .one [I ((q:Nat):Int)])]) (λq=>q<=S2.length/\∀j,j<q->nth S2 j<dC h) (λq=>S2.length - q) (0) ?_ (⟨U0 _,λj F=>ω⟩) λq a=>?_
 ·exact wB
 obtain⟨a,g⟩:=a;by_cases E:q<S2.length
 ·have c:=ao E
  repeat'(first|refine gD ?_|(conv=>whnf);first|with_reducible (first|refine CD (aa c) ?_|refine Bf.D (λa=>?_) (λa=>?_))|refine CJ rfl (aa c) rfl ?_)
  all_goals first
   | exact W0 (λz=>[B z]) ((Et (by rw[<-b];exact am E) ω).symm)
   | ((conv=>whnf);refine CE (q+1) ⟨ω,λj F=>by rcases Nat.lt_or_ge j q with V|V;exact g j V;(obtain rfl:j=q:=ω);omega⟩ ω ?_;(exact wB))
 have u:∀p∈pgs h.K h.M,p<dC h:=λp w=>by
  rw[<-b]at w;obtain⟨j,F⟩:=List.mem_iff_getElem?.1 w;have V:=(C2.1 F).1;have:=g j ω
  rwa [bj F]at this
 repeat'(first|refine gD ?_|fail)
 (conv=>whnf)
 refine CF (ι:=Nat) (λp=>[(1,.H .box (ab.enc .V h)),(3,.H .box (aI.enc .V (tbl h))),(4,.H .one [I (dC h)]),(5,.H .one (aG .own S2)),(11,.H .one [I ((p:Nat):Int)])]) (λp=>p<=dC h/\cQ p (vn h)=true) (λp=>dC h - p) 0 ?_ ⟨U0 _,rfl⟩ λp w=>?_
 ·exact wB
 obtain⟨w,X⟩:=w;by_cases Y:p<dC h
 ·have c:=ao (xs:=(tbl h).J) Y
  have t:=yJ h.w (p:Nat) ω
  repeat'(first|refine gD ?_|(conv=>whnf);first|with_reducible (first|refine CD (aa c) ?_|refine Bf.D (λa=>?_) (λa=>?_)|refine Bf.NB (λa=>?_) (λa=>?_))|refine CH (mC S2 _ ω) ⟨⟨rfl,dZ _⟩,⟨rfl,rfl⟩,trivial⟩ ?_|refine C7 t ?_|refine Bf.P (λa=>?_) (λa=>?_))
  all_goals first
   | exact W0 (λz=>[B z]) ((Dr (cj Y (by unfold vn;rw[<-b];grind))).symm)
   | ((conv=>whnf);refine CE (p+1) ⟨ω,bJ X (by unfold vn;rw[<-b];grind)⟩ ω ?_;(exact wB))
 repeat'(first|refine gD ?_|fail)
 obtain rfl:p=dC h:=ω
 exact W0 (λz=>[B z]) ((wy L Q u X).symm)
set_option maxHeartbeats 8000000
theorem E4{z1 z2:Int}(h:z1=z2):N0 (I z1) (I z2):=by subst h;rfl
theorem Hw{S:List Int}{p z:Int} : z∈ins S p↔z∈S\/z=p:=by
 unfold ins;split
 ·rename_i a
  exact⟨.inl,λh=>h.elim id λe=>e ▸ a⟩
 simp
theorem xw(S:List Int):(fB S).map (·.1)=S:=by unfold fB;rw[List.map_map];simp[v5]
theorem eZ{t:aI}{p:Nat}(a:p<t.J.length):ac t (p:Nat)=nth t.J p:=by
 unfold ac;rw[C9 ω];simp
theorem A6(h:ab)(Q:d9 h.K)(R:d6 h.M)(l:vo h)(T:jg h.w)(G:bm h.K h.M=true):ar Tryz.prog 74 false [.val (some 24) (ab.enc .V h)] .one [B (pages0 h&&nU h)]:=by
 have hl1:=Q.1;have hl2:=R.1;have hl3:dC h<=1048576:=l.1;have hl4:=T.1;have d:pages0 h=false->[B false]=[B (pages0 h&&nU h)]:=λe=>by rw[e];rfl
 refine fO 177 [(4,14,[25,26,27,28,29,30,31,32,33,34,35,36,37,38]),(16,14,[60,61,62,63,64,65,66,67,68,69,70,71,72,73]),(28,18,[102,103,104,105,106,107,108,109,110,111,112,113,114,115,116,117,118,119]),(42,23,[152,153,154,155,156,157,158,159,160,161,162,163,164,165,166,167,168,169,170,171,172,173,174])] Tryz.func74 rfl ?_
 repeat'(first|refine gO ?_|fail)
 (conv=>whnf)
 refine CF (ι:=Nat) (λi=>[(1,.H .box (ab.enc .V h)),(18,.H .one (bY .V h.K)),(19,.H .one [I (h.K.length)]),(20,.H .one [I ((i:Nat):Int)])]) (λi=>i<=h.K.length/\cQ i (xI h.K)=true) (λi=>h.K.length - i) 0 ?_ ⟨U0 _,rfl⟩ λi o=>?_
 ·exact wB
 obtain⟨o,H⟩:=o;by_cases F:i<h.K.length
 ·have g:=ao F
  repeat'(first|refine gD ?_|(conv=>whnf);first|with_reducible (first|refine CD (aa g) ?_|refine Bf.D (λa=>?_) (λa=>?_))|refine CN ω (aa (gi ω F)) ?_)
  all_goals first
   |exact d (DX (cj F (T0 ω)))
   | ((conv=>whnf);refine CE (i+1) ⟨ω,bJ H (O0 ω)⟩ ω ?_;(exact wB))
 obtain rfl:i=h.K.length:=ω
 repeat'(first|refine gD ?_|fail)
 (conv=>whnf)
 refine CF (ι:=Nat × List Int) (λi=>[(1,.H .box (ab.enc .V h)),(5,.H .one [.m (fB i.2)]),(42,.H .one (bY .V h.K)),(43,.H .one [I (h.K.length)]),(44,.H .one [I ((i.1:Nat):Int)])]) (λi=>i.1<=h.K.length/\∀z,z∈i.2↔z∈(h.K.take i.1).map (·.Q)) (λi=>h.K.length - i.1) ((0,[])) ?_ (⟨U0 _,λz=>Iff.rfl⟩) λi o=>?_
 ·exact wB
 obtain⟨i,S⟩:=i;obtain⟨U,L⟩:=o;simp only at U L |-;by_cases li2:i<h.K.length
 ·have g:=ao li2
  repeat'(first|refine gD ?_|(conv=>whnf);first|with_reducible refine CD (aa g) ?_|refine Mu.mk (xn S _) ?_)
  ((conv=>whnf);refine CE (i+1,ins S (nth h.K i).Q) ⟨(by simp only;omega),λz=>by simp only[Hw,L];rw[Y4,g];simp⟩ (by simp only;omega) ?_;(exact wB))
 obtain rfl:i=h.K.length:=ω
 rw[U4]at L
 repeat'(first|refine gD ?_|fail)
 (conv=>whnf)
 refine CF (ι:=Nat × List Int) (λk=>[(1,.H .box (ab.enc .V h)),(5,.H .one [.m (fB k.2)]),(53,.H .one (bS .V h.M)),(54,.H .one [I (h.M.length)]),(55,.H .one [I ((k.1:Nat):Int)])]) (λk=>k.1<=h.M.length/\(∀z,z∈k.2↔z∈pgs h.K (h.M.take k.1))/\cQ k.1 (tC h)=true) (λk=>h.M.length - k.1) ((0,S)) ?_ (⟨U0 _,λz=>by simp only[L];unfold pgs;simp,rfl⟩) λk V=>?_
 ·exact wB
 obtain⟨k,S2⟩:=k;obtain⟨V,b,W⟩:=V;simp only at V b W |-;by_cases M:k<h.M.length
 ·have g:=ao M
  have hpg:=uh G g
  repeat'(first|refine gD ?_|(conv=>whnf);first|with_reducible (first|refine CD (aa g) ?_|refine Bf.D (λa=>?_) (λa=>?_))|refine CN ω (aa (gi ω M)) ?_)
  all_goals first
   |exact d (sE (cj M (Mj (T0 ω))))
   |have u:xV h.M k=true:=O0 ω
    (conv=>whnf)
    refine CF (ι:=Nat × List Int) (λq=>[(1,.H .box (ab.enc .V h)),(5,.H .one [.m (fB q.2)]),(9,.H .box (a7.enc .V (nth h.M k))),(10,.H .one [I ((nth h.M k).Q+(q.1:Nat))]),(53,.H .one (bS .V h.M)),(54,.H .one [I (h.M.length)]),(55,.H .one [I ((k:Nat):Int)])]) (λq=>q.1<=(nth h.M k).a2.toNat/\(∀z,z∈q.2↔z∈S2++lpgs (nth h.M k) q.1)/\cQ q.1 (vK h (nth h.M k))=true) (λq=>(nth h.M k).a2.toNat - q.1) ((0,S2)) ?_ (⟨U0 _,λz=>by simp[lpgs],rfl⟩) λq a=>?_
    ·exact wB
    obtain⟨q,X⟩:=q;obtain⟨Y,w,Z⟩:=a;simp only at Y w Z |-;by_cases lq:q<(nth h.M k).a2.toNat
    ·have hfl:=fX h ((nth h.M k).Q+(q:Nat))
     repeat'(first|refine gD ?_|(conv=>whnf);first|with_reducible refine Bf.N (λa=>?_) (λa=>?_)|refine C7 (nP h _ l) ?_|refine Mu.mk (xn X _) ?_)
     all_goals first
      |exact d (sE (cj M (Mw lq (T0 ω))))
      | ((conv=>whnf)
         refine CE (q+1,ins X ((nth h.M k).Q+(q:Nat))) ⟨(by simp only;omega),λz=>by simp only[Hw,w];rw[kI];simp[or_assoc],bJ Z (O0 ω)⟩ (by simp only;omega) ?_
         (repeat'(first|exact trivial|rfl|refine CL ?_ ?_|exact E4 (by simp;omega))))
    obtain rfl:q=(nth h.M k).a2.toNat:=ω
    repeat'(first|refine gD ?_|fail)
    ((conv=>whnf);refine CE (k+1,X) ⟨(by simp only;omega),(λz=>by simp only[w];rw[oZ _ g];simp[b]),bJ W (DU u Z)⟩ (by simp only;omega) ?_;(exact wB))
 obtain rfl:k=h.M.length:=ω
 rw[U4]at b
 repeat'(first|refine gD ?_|fail)
 (conv=>whnf)
 refine CF (ι:=Nat) (λp=>[(1,.H .box (ab.enc .V h)),(5,.H .one [.m (fB S2)]),(98,.H .one [I (dC h)]),(99,.H .one [I ((p:Nat):Int)])]) (λp=>p<=dC h/\cQ p (vn h)=true) (λp=>dC h - p) 0 ?_ ⟨U0 _,rfl⟩ λp O=>?_
 ·exact wB
 obtain⟨O,ap⟩:=O;by_cases lp:p<dC h
 ·have hr:=yy h.w (p:Nat) ω
  have J:=DL h.G (p:Nat) l;rw[eZ lp]at J
  repeat'(first|refine gD ?_|(conv=>whnf);first|with_reducible (first|refine Bf.D (λa=>?_) (λa=>?_)|refine Bf.NB (λa=>?_) (λa=>?_))|refine C7 J ?_|refine Ml.mk (mK (p:Nat) S2) ?_|refine C7 hr ?_|refine Bf.P (λa=>?_) (λa=>?_))
  all_goals first
   |exact d (Dr (cj lp (by unfold vn tbl;have:=b (p:Nat);grind)))
   | ((conv=>whnf);refine CE (p+1) ⟨ω,bJ ap (by unfold vn tbl;have:=b (p:Nat);grind)⟩ ω ?_;(exact wB))
 obtain rfl:p=dC h:=ω
 repeat'(first|refine gD ?_|fail)
 have hpn:dC h=h.G.F.R.J.length:=rfl
 (conv=>whnf)
 refine CF (ι:=Option Int × List Int) (λt=>[(1,.H .box (ab.enc .V h)),(122,.H .one [.it t.1 t.2])]) (λt=>(∀z∈S2,z∈t.2\/z<dC h)/\∀z∈t.2,z∈S2) (λt=>t.2.length) ((none,(fB S2).map (·.1))) ?_ (⟨λz n=>.inl (by rw[xw];exact n),λz n=>by rw[xw]at n;exact n⟩) λt ht=>?_
 ·exact wB
 obtain⟨cur,left⟩:=t;obtain⟨y,C⟩:=ht;simp only at y C |-
 repeat'(first|refine gO ?_|(conv=>whnf);first|with_reducible refine Bf.D (λa=>?_) (λa=>?_)|refine Nt.mk (λa=>?_) (λl1 k l2 a=>?_))
 rotate_left
 ·exact d (Et (p:=k) ((b k).1 (C k (by subst left;simp))) ω)
 ·((conv=>whnf);refine CE (some k,l1++l2) ⟨λz n=>by have c:=y z n;subst left;simp only[W2,List.mem_cons]at c |-;rcases c with(c|c|c)|c;exact .inl (.inl c);(subst c;exact .inr ω);exact .inl (.inr c);exact .inr c,λz n=>C z (by subst left;simp only[W2,List.mem_cons]at n |-;grind)⟩ (by subst left;simp) ?_;(exact wB))
 have K:∀p∈pgs h.K h.M,p<dC h:=λp O=>by
  have c:=y p ((b p).2 O);subst left;simpa using c
 have h0:pages0 h=true:=wy H W K ap;rw[h0,Bool.true_and]
 (conv=>whnf)
 refine CF (ι:=Nat) (λi=>[(1,.H .box (ab.enc .V h)),(136,.H .one (bY .V h.K)),(137,.H .one [I (h.K.length)]),(138,.H .one [I ((i:Nat):Int)])]) (λi=>i<=h.K.length/\cQ i (λi=>cQ i (kZ h i))=true) (λi=>h.K.length - i) 0 ?_ ⟨U0 _,rfl⟩ λi o=>?_
 ·exact wB
 obtain⟨o,H⟩:=o;by_cases F:i<h.K.length
 ·have g:=ao F
  have htl:(h.K.take i).length=i:=by rw[R1];omega
  repeat'(first|refine gD ?_|(conv=>whnf);first|with_reducible refine CD (aa g) ?_|refine CX i rfl (by simp;omega) (λr hr=>by obtain⟨z,-,rfl⟩:=t4.1 hr;rfl) (Y3 ..) ?_)
  (conv=>whnf)
  refine CF (ι:=Nat) (λj=>[(1,.H .box (ab.enc .V h)),(14,.H .box (ax.enc .V (nth h.K i))),(136,.H .one (bY .V h.K)),(137,.H .one [I (h.K.length)]),(138,.H .one [I ((i:Nat):Int)]),(146,.H .one (bY .V (h.K.take i))),(147,.H .one [I ((h.K.take i).length)]),(148,.H .one [I ((j:Nat):Int)])]) (λj=>j<=(h.K.take i).length/\cQ j (kZ h i)=true) (λj=>(h.K.take i).length - j) 0 ?_ ⟨U0 _,rfl⟩ λj hj=>?_
  ·exact wB
  obtain⟨hj,aj⟩:=hj;by_cases lj:j<(h.K.take i).length
  ·have hy:=ao lj
   have he:nth (h.K.take i) j=nth h.K j:=bj (by rw[List.getElem?_take_of_lt ω];exact ao ω);rw[he]at hy;have J:=yv (nth h.K i) (nth h.K j);cases em:meshable (nth h.K i) (nth h.K j)<;>rw[em]at J
   all_goals
    repeat'(first|refine gD ?_|(conv=>whnf);first|with_reducible (first|refine CD (aa hy) ?_|refine Bf.E (λa=>?_) (λa=>?_))|refine C7 (gt (tbl h) _ l) ?_|refine C7 J ?_)
    all_goals first
     | exact W0 (λz=>[B z]) ((by symm;exact cj F (cj (i:=j) ω (by unfold kZ;rw[em];grind))))
     | ((conv=>whnf);refine CE (j+1) ⟨ω,bJ aj (by unfold kZ;rw[em];grind)⟩ ω ?_;(exact wB))
  obtain rfl:j=(h.K.take i).length:=ω
  rw[htl]at aj
  repeat'(first|refine gD ?_|fail)
  ((conv=>whnf);refine CE (i+1) ⟨ω,bJ H aj⟩ ω ?_;(exact wB))
 obtain rfl:i=h.K.length:=ω
 repeat'(first|refine gD ?_|fail)
 exact W0 (λz=>[B z]) ((by unfold nU;rw[H]))
set_option maxHeartbeats 8000000
theorem oQ{α:Type}[Inhabited α](pr:α->Bool)(xs:List α):dJ pr xs = -1\/∃n,n<xs.length/\dJ pr xs=(n:Nat)/\pr (nth xs n)=true:=by
 unfold dJ;cases h:xs.findIdx? pr with
 | none=>exact .inl rfl
 | some i=>
  obtain⟨a,b,-⟩:=Y5.1 h;exact .inr ⟨i,a,rfl,by rw[bj (Z1 a)];exact b⟩
theorem Ek{h:ab}{i k:Nat}(a:i<h.K.length)(b:k<(aN h (nth h.K i).Q).length)(c:mi h i (nth (aN h (nth h.K i).Q) k)=false):rF h=false:=by
 unfold rF;exact cj a (eN (ao b) c)
theorem Be(h:ab)(j:d9 h.K)(c:vo h):ar Tryz.prog 227 false [.val (some 24) (ab.enc .V h)] .one [B (rF h)]:=by
 have l:=j.1;have G:dC h<=1048576:=c.1;refine fO 55 [(4,8,[14,15,16,17,18,19,20,21]),(8,6,[28,29,30,31,32,33]),(9,21,[34,35,36,37,38,39,40,41,42,43,44,45,46,47,48,49,50,51,52,53,54])] Tryz.func227 rfl ?_
 repeat'(first|refine gO ?_|fail)
 (conv=>whnf)
 refine CF (ι:=Nat) (λi=>[(1,.H .box (ab.enc .V h)),(3,.H .one [I ((i:Nat):Int)])]) (λi=>i<=h.K.length/\cQ i (λi=>(aN h (nth h.K i).Q).all (mi h i))=true) (λi=>h.K.length - i) 0 ?_ ⟨U0 _,rfl⟩ λi w=>?_
 ·exact wB
 obtain⟨w,y⟩:=w;by_cases o:i<h.K.length
 ·have q:=ao o
  have H:=fX h (nth h.K i).Q
  repeat'(first|refine gD ?_|(conv=>whnf);first|with_reducible refine CD (aa q) ?_|refine C7 (ic h _ c) ?_)
  (conv=>whnf)
  refine CF (ι:=Nat) (λk=>[(1,.H .box (ab.enc .V h)),(3,.H .one [I ((i:Nat):Int)]),(4,.H .one (aG .own (aN h (nth h.K i).Q))),(5,.H .one [I ((k:Nat):Int)])]) (λk=>k<=(aN h (nth h.K i).Q).length/\((aN h (nth h.K i).Q).take k).all (mi h i)=true) (λk=>(aN h (nth h.K i).Q).length - k) (0) ?_ (⟨U0 _,rfl⟩) λk C=>?_
  ·exact wB
  obtain⟨C,E⟩:=C;by_cases r:k<(aN h (nth h.K i).Q).length
  ·have d:=ao r
   have a:=jG h (nth (aN h (nth h.K i).Q) k) l;rcases oQ (jX (nth (aN h (nth h.K i).Q) k)) h.K with e|⟨n,J,e,-⟩
   ·rw[show fH h (nth (aN h (nth h.K i).Q) k) = -1 from e]at a
    have t:mi h i (nth (aN h (nth h.K i).Q) k)=false:=by
     unfold mi;rw[show fH h (nth (aN h (nth h.K i).Q) k) = -1 from e,T0 ω,T0 ω];rfl
    repeat'(first|refine gD ?_|(conv=>whnf);first|with_reducible (first|refine CD (aa q) ?_|refine CD (aa d) ?_|refine Bf.D (λb=>?_) (λb=>?_)|refine Bf.N (λb=>?_) (λb=>?_))|refine CJ rfl (aa d) rfl ?_|refine C7 a ?_)
    all_goals first
     | exact W0 (λz=>[B z]) ((Ek o r t).symm)
     |(exfalso;omega)
   rw[show fH h (nth (aN h (nth h.K i).Q) k)=(n:Nat) from e]at a;have K:=ao J;have F:=mg (nth h.K i) (nth h.K n);have g:mi h i (nth (aN h (nth h.K i).Q) k)=(decide ((n:Int)=(i:Nat)) || meshable (nth h.K i) (nth h.K n)):=by
    unfold mi;rw[show fH h (nth (aN h (nth h.K i).Q) k)=(n:Nat) from e,O0 (p:=(0:Int)<=(n:Nat)) ω];simp
   cases u:meshable (nth h.K i) (nth h.K n)<;>rw[u]at F
   all_goals
    repeat'(first|refine gD ?_|(conv=>whnf);first|with_reducible (first|refine CD (aa q) ?_|refine CD (aa K) ?_|refine CD (aa d) ?_|refine Bf.D (λb=>?_) (λb=>?_)|refine Bf.N (λb=>?_) (λb=>?_))|refine CJ rfl (aa d) rfl ?_|refine C7 a ?_|refine C7 F ?_)
    all_goals first
     | exact W0 (λz=>[B z]) ((Ek o r (by rw[g,u];grind)).symm)
     | ((conv=>whnf);refine CE (k+1) ⟨ω,cR d E (by rw[g,u];grind)⟩ ω ?_;(exact wB))
     |(exfalso;omega)
  repeat'(first|refine gD ?_|fail)
  ((conv=>whnf);refine CE (i+1) ⟨ω,bJ y (gy ω E)⟩ ω ?_;(exact wB))
 obtain rfl:i=h.K.length:=ω
 repeat'(first|refine gD ?_|fail)
 exact W0 (λz=>[B z]) ((by unfold rF;rw[y]))
theorem Jb(j:cM)(b:cM.sml j):ar Tryz.prog 232 false [.val (some 5) (cM.enc .V j)] .one [B (ss j)]:=by
 have c:j.X.T.length<=1048576:=b;refine fO 30 [] Tryz.func232 rfl ?_
 repeat'(first|refine gO ?_|(conv=>whnf);first|with_reducible (first|refine Bf.E (λa=>?_) (λa=>?_)|refine Bf.D (λa=>?_) (λa=>?_)))
 all_goals exact W0 (λz=>[B z]) ((by unfold ss;first|(symm;exact T0 ω)|(rw[O4,beq_iff_eq,C0];omega)))
theorem mR(sp:List ax)(la:List a7)(a:Int):((denotes sp la a).b6=1->0<=(denotes sp la a).c4/\(denotes sp la a).c4.toNat<sp.length)/\((denotes sp la a).b6=3->0<=(denotes sp la a).c4/\(denotes sp la a).c4.toNat<la.length):=by
 unfold denotes;cases c:sp.findIdx? (cu · a) with
 | some i=>
  obtain⟨b,-⟩:=Y5.1 c;simp only[og];refine⟨λ_=>⟨ω,by simpa using b⟩,λe=>?_⟩;split at e<;>cases e
 | none=>
  cases d:la.findIdx? (aY · a) with
  | some i=>
   obtain⟨b,-⟩:=Y5.1 d;exact⟨λe=>(by cases e),λ_=>⟨by simp,by simpa using b⟩⟩
  | none=>exact⟨λe=>(by cases e),λe=>(by cases e)⟩
theorem FC(h:ab)(a c:Int)(d:d9 h.K)(e:d6 h.M)(b:bm h.K h.M=true)(k:mI a):ar Tryz.prog 377 false [.val (some 24) (ab.enc .V h),.val none [I a],.val none [I c]] .one [B (di h a c)]:=by
 have j:=nq h.K h.M a d e b k;obtain⟨g,-⟩:=mR h.K h.M a;unfold di;generalize denotes h.K h.M a=w at j g |-;refine fO 37 [] Tryz.func377 rfl ?_
 repeat'(first|refine gO ?_|(conv=>whnf);first|with_reducible (first|refine Bf.D (λi=>?_) (λi=>?_)|refine Bf.E (λi=>?_) (λi=>?_))|refine C7 j ?_|refine CN (g (by assumption)).1 (aa (ao (g (by assumption)).2)) ?_)
 all_goals exact W0 (λz=>[B z]) ((by grind))
theorem zu(h:ab)(o:bz)(w:jj)(a:denotes h.K h.M o.Addr=w):iF h o=(decide (w.c6=0)&&((decide (w.b6=1)&&decide ((nth h.K w.c4.toNat).a=aJ o.o)) || (decide (w.b6=3)&&decide ((nth h.M w.c4.toNat).o=o.o)))):=by
 unfold iF;rw[a]
theorem jq{h:ab}{i:Nat}(a:i<h.O.length)(b:objAt (IntKind.i64.wrap (h.d - 1)) h i=false):eX h=false:=cj a b
theorem GN{a:Int}{h:ab}{i:Nat}(h1:gJ a h i=false):objAt a h i=false:=by unfold objAt;rw[h1];rfl
theorem Hs{a:Int}{h:ab}{i:Nat}(h1:(h.O.take i).any (jU (nth h.O i).Id)=true):objAt a h i=false:=by unfold objAt;rw[h1];simp
theorem Ht{a:Int}{h:ab}{i:Nat}(h1:iF h (nth h.O i)=false):objAt a h i=false:=by unfold objAt;rw[h1];simp
theorem zy{a:Int}{h:ab}{i:Nat}(h1:gJ a h i=true)(b:(h.O.take i).any (jU (nth h.O i).Id)=false)(c:iF h (nth h.O i)=true):objAt a h i=true:=by unfold objAt;rw[h1,b,c];rfl
theorem Gk(h:ab)(l:d9 h.K)(n:d6 h.M)(g:bm h.K h.M=true)(K:h.O.length<=1048576)(L:h.S.length<=1048576)(H:∀o∈h.O,mI o.Addr):ar Tryz.prog 230 false [.val (some 24) (ab.enc .V h)] .one [B (eX h)]:=by
 refine fO 117 [(5,33,[21,22,23,24,25,26,27,28,29,30,31,32,33,34,35,36,37,38,39,40,41,42,43,44,45,46,47,48,49,50,51,52,53]),(10,9,[59,60,61,62,63,64,65,66,67]),(13,16,[75,76,77,78,79,80,81,82,83,84,85,86,87,88,89,90]),(14,15,[91,92,93,94,95,96,97,98,99,100,101,102,103,104,105])] Tryz.func230 rfl ?_
 repeat'(first|refine gO ?_|fail)
 (conv=>whnf)
 refine CF (ι:=Nat) (λi=>[(1,.H .box (ab.enc .V h)),(3,.H .one [I ((i:Nat):Int)])]) (λi=>i<=h.O.length/\cQ i (objAt (IntKind.i64.wrap (h.d - 1)) h)=true) (λi=>h.O.length - i) 0 ?_ ⟨U0 _,rfl⟩ λi t=>?_
 ·exact wB
 obtain⟨t,u⟩:=t;by_cases e:i<h.O.length
 ·have y:=ao e
  have C:=nq h.K h.M (nth h.O i).Addr l n g (H _ (am e));obtain⟨p,q⟩:=mR h.K h.M (nth h.O i).Addr;have b:=zu h (nth h.O i) _ rfl;generalize denotes h.K h.M (nth h.O i).Addr=w at C p q b;by_cases c:gJ (IntKind.i64.wrap (h.d - 1)) h i=true
  ·have a:=c
   unfold gJ at a;rw[C0]at a
   repeat'(first|refine gD ?_|(conv=>whnf);first|with_reducible (first|refine CD (aa y) ?_|refine Bf.D (λd=>?_) (λd=>?_))|refine CN ω (aa (gi ω e)) ?_|refine C7 (aH _ _ _) ?_|refine CM rfl ?_)
   all_goals
    (conv=>whnf)
    refine CF (ι:=Nat) (λk=>[(1,.H .box (ab.enc .V h)),(3,.H .one [I ((i:Nat):Int)]),(4,.H .box (bz.enc .V (nth h.O i))),(5,.H .one [I ((k:Nat):Int)])]) (λk=>k<=i/\(h.O.take k).any (jU (nth h.O i).Id)=false) (λk=>i - k) (0) ?_ (⟨U0 _,rfl⟩) λk F=>?_
    ·exact wB
    obtain⟨F,G⟩:=F;by_cases J:k<i
    ·have r:=ao (xs:=h.O) (i:=k) ω
     repeat'(first|refine gD ?_|(conv=>whnf);first|with_reducible (first|refine CD (aa r) ?_|refine Bf.E (λd=>?_) (λd=>?_)))
     all_goals first
      | exact W0 (λz=>[B z]) ((jq e (Hs (Bj (i:=k) (by rw[List.getElem?_take_of_lt J];exact r) (O0 (by assumption))))).symm)
      | ((conv=>whnf);refine CE (k+1) ⟨ω,wF r G (T0 (by assumption))⟩ ω ?_;(exact wB))
    obtain rfl:k=i:=ω
    repeat'(first|refine gD ?_|(conv=>whnf);first|with_reducible (first|refine Bf.D (λd=>?_) (λd=>?_)|refine Bf.E (λd=>?_) (λd=>?_)|refine Bf.N (λd=>?_) (λd=>?_))|refine C7 C ?_|refine CN (p (by assumption)).1 (aa (ao (p (by assumption)).2)) ?_|refine CN (q (by assumption)).1 (aa (ao (q (by assumption)).2)) ?_|refine C7 (kG _) ?_)
    all_goals first
     | exact W0 (λz=>[B z]) ((jq e (Ht (by rw[b];grind))).symm)
     | ((conv=>whnf);refine CE (k+1) ⟨ω,bJ u (zy c G (by rw[b];grind))⟩ ω ?_;(exact wB))
     |(exfalso;omega)
  have j:gJ (IntKind.i64.wrap (h.d - 1)) h i=false:=by simpa using c
  have a:=j;unfold gJ at a;rw[I4]at a
  repeat'(first|refine gD ?_|(conv=>whnf);first|with_reducible (first|refine CD (aa y) ?_|refine Bf.D (λd=>?_) (λd=>?_))|refine CN ω (aa (gi ω e)) ?_|refine C7 (aH _ _ _) ?_|refine CM rfl ?_)
  all_goals first
   | exact W0 (λz=>[B z]) ((jq e (GN j)).symm)
   |(exfalso;omega)
 obtain rfl:i=h.O.length:=ω
 repeat'(first|refine gD ?_|fail)
 exact W0 (λz=>[B z]) ((show true=eX h from u.symm))
theorem pz(o a:bz):ar Tryz.prog 248 false [.val (some 4) (bz.enc .V o),.ptr (bz.enc .V a)] .one [B (jU a.Id o)]:=by
 refine fO 9 [] Tryz.func248 rfl ?_
 repeat'(first|refine gO ?_|fail)
 exact W0 (λz=>[B z]) ((by unfold jU;rw[O4];simp))
theorem DB(h:ab)(n:d9 h.K)(o:d6 h.M)(J:h.O.length<=1048576)(K:h.S.length<=1048576):ar Tryz.prog 78 false [.val (some 24) (ab.enc .V h)] .one [B (eX h)]:=by
 refine fO 105 [(4,33,[16,17,18,19,20,21,22,23,24,25,26,27,28,29,30,31,32,33,34,35,36,37,38,39,40,41,42,43,44,45,46,47,48]),(9,16,[62,63,64,65,66,67,68,69,70,71,72,73,74,75,76,77]),(10,15,[78,79,80,81,82,83,84,85,86,87,88,89,90,91,92])] Tryz.func78 rfl ?_
 repeat'(first|refine gO ?_|fail)
 (conv=>whnf)
 refine CF (ι:=Nat) (λi=>[(1,.H .box (ab.enc .V h)),(9,.H .one (mT .V h.O)),(10,.H .one [I (h.O.length)]),(11,.H .one [I ((i:Nat):Int)])]) (λi=>i<=h.O.length/\cQ i (objAt (IntKind.i64.wrap (h.d - 1)) h)=true) (λi=>h.O.length - i) 0 ?_ ⟨U0 _,rfl⟩ λi F=>?_
 ·exact wB
 obtain⟨F,G⟩:=F;by_cases g:i<h.O.length
 ·have p:=ao g
  have H:=nE h.K h.M (nth h.O i).Addr n o;obtain⟨q,t⟩:=mR h.K h.M (nth h.O i).Addr;have b:=zu h (nth h.O i) _ rfl;generalize denotes h.K h.M (nth h.O i).Addr=w at H q t b;have j:=tP (h.O.take i) (jU (nth h.O i).Id) (by rw[R1];omega);by_cases c:gJ (IntKind.i64.wrap (h.d - 1)) h i=true
  ·have a:=c
   unfold gJ at a;rw[C0]at a;cases d:(h.O.take i).any (jU (nth h.O i).Id)<;>rw[d]at j
   ·repeat'(first|refine gD ?_|(conv=>whnf);first|with_reducible (first|refine CD (aa p) ?_|refine Bf.D (λe=>?_) (λe=>?_)|refine Bf.E (λe=>?_) (λe=>?_)|refine Bf.N (λe=>?_) (λe=>?_))|refine CN ω (aa (gi ω g)) ?_|refine C7 (aP _ _ _) ?_|refine CX i rfl (by simp;omega) (λr u=>by obtain⟨z,-,rfl⟩:=t4.1 u;rfl) (Y3 ..) ?_|refine Cq.mk (ET (some 4) (bz.enc .V) (jU (nth h.O i).Id) (h.O.take i)) (pz default (nth h.O i)).has (λL k rcs C=>by obtain⟨y,-,rfl,rfl,rfl⟩:=C;exact pz y (nth h.O i)) ?_|refine C7 j ?_|refine C7 H ?_|refine CN (q (by assumption)).1 (aa (ao (q (by assumption)).2)) ?_|refine CN (t (by assumption)).1 (aa (ao (t (by assumption)).2)) ?_|refine C7 (nr _) ?_|refine CM rfl ?_)
    all_goals first
     | exact W0 (λz=>[B z]) ((jq g (Ht (by rw[b];grind))).symm)
     | ((conv=>whnf);refine CE (i+1) ⟨ω,bJ G (zy c d (by rw[b];grind))⟩ ω ?_;(exact wB))
     |(exfalso;omega)
   repeat'(first|refine gD ?_|(conv=>whnf);first|with_reducible (first|refine CD (aa p) ?_|refine Bf.D (λe=>?_) (λe=>?_))|refine CN ω (aa (gi ω g)) ?_|refine C7 (aP _ _ _) ?_|refine CX i rfl (by simp;omega) (λr u=>by obtain⟨z,-,rfl⟩:=t4.1 u;rfl) (Y3 ..) ?_|refine Cq.mk (ET (some 4) (bz.enc .V) (jU (nth h.O i).Id) (h.O.take i)) (pz default (nth h.O i)).has (λL k rcs C=>by obtain⟨y,-,rfl,rfl,rfl⟩:=C;exact pz y (nth h.O i)) ?_|refine C7 j ?_|refine CM rfl ?_)
   all_goals first
    | exact W0 (λz=>[B z]) ((jq g (Hs d)).symm)
    |(exfalso;omega)
  have l:gJ (IntKind.i64.wrap (h.d - 1)) h i=false:=by simpa using c
  have a:=l;unfold gJ at a;rw[I4]at a
  repeat'(first|refine gD ?_|(conv=>whnf);first|with_reducible (first|refine CD (aa p) ?_|refine Bf.D (λe=>?_) (λe=>?_))|refine CN ω (aa (gi ω g)) ?_|refine C7 (aP _ _ _) ?_|refine CM rfl ?_)
  all_goals first
   | exact W0 (λz=>[B z]) ((jq g (GN l)).symm)
   |(exfalso;omega)
 obtain rfl:i=h.O.length:=ω
 repeat'(first|refine gD ?_|fail)
 exact W0 (λz=>[B z]) ((show true=eX h from G.symm))
set_option maxHeartbeats 8000000
theorem HP{sp:List ax}{la:List a7}{n:Nat}(h:jT sp la n=true):lM sp la (n+1)=lM sp la n++[(n:Int)]:=by
 unfold lM;rw[List.range_succ,List.filter_append,t5];simp[h]
theorem Ms{sp:List ax}{la:List a7}{n:Nat}(h:jT sp la n=false):lM sp la (n+1)=lM sp la n:=by
 unfold lM;rw[List.range_succ,List.filter_append,t5];simp[h]
theorem zL(sp:List ax)(la:List a7)(n:Nat):(lM sp la n).length<=n:=by
 unfold lM;rw[Z0];exact R4 (List.length_filter_le ..) (by simp)
theorem rS{sp:List ax}{la:List a7}{n:Nat}{w:jj}(a:denotes sp la (n:Nat)=w):jT sp la n=(decide (w.c6=0)&&(decide (w.b6=1) || decide (w.b6=3))):=by
 unfold jT;rw[a]
theorem Pq{n:Nat}(h:n<=1048576):mI (n:Nat):=⟨ω,ω⟩
theorem vP(sp:List ax)(la:List a7)(c:d9 sp)(d:d6 la)(a:bm sp la=true):ar Tryz.prog 378 false [.val none (bY .V sp),.val none (bS .V la)] .one (aG .own (ix sp la)):=by
 have g:=mb sp la c d;rw[a]at g;refine fO 40 [] Tryz.func378 rfl ?_ (.inr (bM _))
 repeat'(first|refine gO ?_|fail)
 (conv=>whnf)
 refine CF (ι:=Nat) (λn=>[(0,.H .one (bY .V sp)),(1,.H .one (bS .V la)),(5,.H .one (aG .own (lM sp la n))),(6,.H .one [I ((n:Nat):Int)])]) (λn=>n<=512) (λn=>512 - n) (0) ?_ (U0 _) λn o=>?_
 ·exact wB
 have i:=zL sp la n;by_cases p:n<512
 ·have h:=nq sp la (n:Nat) c d a (Pq ω)
  generalize j:denotes sp la (n:Nat)=w at h;have e:=rS j
  repeat'(first|refine gD ?_|(conv=>whnf);first|with_reducible refine Bf.E (λk=>?_) (λk=>?_)|refine C7 g ?_|refine C7 h ?_|refine CT cA (λr l=>by rw[I1.1 l];rfl) (by simp[aW,dP]) (by simp;omega) (by simp only[Z0];exact xY (by simp;omega) (by decide)) rfl ?_)
  all_goals first
   |(have b:jT sp la n=true:=by rw[e];grind
     (conv=>whnf)
     refine CE (n+1) ω ω ?_;rw[HP b]
     (repeat'(first|exact trivial|rfl|exact CL rfl (CL (W0 (C.s dI.own) (by simp[rI])) trivial)|refine CL ?_ ?_)))
   |(have b:jT sp la n=false:=by rw[e];grind
     (conv=>whnf)
     refine CE (n+1) ω ω ?_;rw[Ms b]
     (exact wA))
 obtain rfl:n=512:=ω
 repeat'(first|refine gD ?_|(conv=>whnf);first|refine C7 g ?_)
 rfl
theorem wV(m:aL)(a:m.a0.length=m.U.length):∀i,i<=m.U.length->(((flight1 m i).length+(flight2 m i).length:Nat):Int)=bt m i
 | 0,_=>rfl
 | i+1,h=>by
  have d:=wV m a i ω;have b:=ao (xs:=m.U) (i:=i) ω;have c:=ao (xs:=m.a0) (i:=i) ω;rw[nl b,nh c];simp only[z3,Z0];show _=bt m i+((nth m.U i).length+(nth m.a0 i).length);omega
theorem nv{m:aL}(h:bI m=true):(aF m).length<=30:=by
 have a:=kA h;have b:=wV m a.2.2 m.U.length (X2 _);have c:bt m m.U.length<=30:=by
  unfold bI at h;simp only[I0,C0]at h;exact h.2
 rw[oR h,z3,a.2.2];omega
theorem BT{m:aL}(d:aL.wf m):∀a∈aF m,mI a:=by
 intro a b;unfold aF at b;split at b
 ·rcases W2.1 b with h|h
  ·obtain⟨l,c,h⟩:=List.mem_flatMap.1 h
   obtain⟨p,e,rfl⟩:=t4.1 h;exact((d.1.2 l c).2 p e).2
  obtain⟨l,c,h⟩:=List.mem_flatten.1 h;exact(d.2.2 l c).2 a h
 cases b
theorem JE{h:ab}(h1:h.S.all (eO h)=false):iL h=false:=by unfold iL gF;rw[h1];rfl
theorem J7{h:ab}(h1:h.a9.a6.all (gW h)=false):iL h=false:=by unfold iL gF;rw[h1];simp
theorem JH{h:ab}(h1:(aF h.q).all (jw h)=false):iL h=false:=by unfold iL gF;rw[h1];simp
theorem H9{h:ab}{i:Nat}(a:i<(holders h).length)(b:nth (holders h) i∈(holders h).take i):iL h=false:=by
 have c:decide (holders h).Nodup=false:=Mm (S:=(holders h).take i) (p:=nth (holders h) i) (by
   have:=ao a;have e:(holders h).take i++[nth (holders h) i]=(holders h).take (i+1):=by rw[Y4,this];rfl
   rw[e];exact List.take_prefix ..) b
 unfold iL;rw[c];simp
theorem uJ{h:ab}{i:Nat}{c:aD}(a:h.S[i]? = some c):((h.S.take (i+1)).flatMap λc=>c.b.flatten)=((h.S.take i).flatMap λc=>c.b.flatten)++c.b.flatten:=by
 rw[Y4,a,List.flatMap_append];simp
theorem xa{c:aD}{k:Nat}{l:List Int}(a:c.b[k]? = some l):(c.b.take (k+1)).flatten=(c.b.take k).flatten++l:=by
 rw[Y4,a,List.flatten_append];simp
theorem FN(h:ab)(hs:ab.sml h)(hw:ab.wf h)(y:bm h.K h.M=true)(G:bI h.q=true)(hco:∀c∈h.S,bp c=true):ar Tryz.prog 231 false [.val (some 24) (ab.enc .V h)] .one [B (iL h)]:=by
 obtain⟨-,-,N,O,hso,hsc,hsm,hsq,-⟩:=hs;obtain⟨-,-,-,-,-,hwc,hwm,hwq,-⟩:=hw;have hlo:h.O.length<=1048576:=hso.1;have hlc:h.S.length<=1048576:=hsc.1;have hlq:h.a9.a6.length<=1048576:=hsq.1;have hfl:=nv G;have hfw:=BT hwm;have H:∀a c,mI a->ar Tryz.prog 377 false [.val (some 24) (ab.enc .V h),.val none [I a],.val none [I c]] .one [B (di h a c)]:=λa c ha=>FC h a c N O y ha
 refine fO 159 [(16,8,[63,64,65,66,67,68,69,70]),(22,17,[86,87,88,89,90,91,92,93,94,95,96,97,98,99,100,101,102]),(29,7,[122,123,124,125,126,127,128]),(35,8,[142,143,144,145,146,147,148,149])] Tryz.func231 rfl ?_
 repeat'(first|refine gO ?_|fail)
 (conv=>whnf)
 refine CF (ι:=Nat × List Int) (λi=>[(1,.H .box (ab.enc .V h)),(3,.H .one (aG .own i.2)),(4,.H .one [I ((i.1:Nat):Int)])]) (λi=>i.1<=h.O.length/\i.2=(h.O.take i.1).map (·.Addr)) (λi=>h.O.length - i.1) ((0,[])) ?_ (⟨U0 _,rfl⟩) λi E=>?_
 ·exact wB
 obtain⟨i,S⟩:=i;obtain⟨E,M⟩:=E;simp only at E M |-;have hSl:S.length=i:=by rw[M,Z0,R1];omega
 by_cases li:i<h.O.length
 ·have t:=ao li
  repeat'(first|refine gD ?_|(conv=>whnf);first|with_reducible refine CD (aa t) ?_|refine CT cA (λr u=>by rw[I1.1 u];rfl) (by simp[aW,dP]) (by simp;omega) (by simp only[Z0];exact xY (by simp;omega) (by decide)) rfl ?_)
  ((conv=>whnf)
   refine CE (i+1,S++[(nth h.O i).Addr]) ⟨(by simp only;omega),(by simp only;rw[M,Y4,t];simp)⟩ (by simp only;omega) ?_
   (repeat'(first|exact trivial|rfl|exact CL rfl (CL (W0 (C.s dI.own) (by simp[rI])) trivial)|refine CL ?_ ?_)))
 obtain rfl:i=h.O.length:=ω
 rw[U4]at M
 repeat'(first|refine gD ?_|fail)
 (conv=>whnf)
 refine CF (ι:=Nat × List Int) (λi=>[(1,.H .box (ab.enc .V h)),(3,.H .one (aG .own i.2)),(5,.H .one [I ((i.1:Nat):Int)])]) (λi=>i.1<=h.S.length/\i.2=S++((h.S.take i.1).flatMap λc=>c.b.flatten)/\(h.S.take i.1).all (eO h)=true/\i.2.length<=1048576+32*i.1) (λi=>h.S.length - i.1) ((0,S)) ?_ (⟨U0 _,by simp,rfl,by simp only;omega⟩) λi E=>?_
 ·exact wB
 obtain⟨i,S2⟩:=i;obtain⟨hi2,n,U,P⟩:=E;simp only at hi2 n U P |-;by_cases li2:i<h.S.length
 ·have t:=ao li2
  obtain⟨h4,h8⟩:=lL (hco _ (am li2));have hwl:=hwc.2 _ (am li2)
  repeat'(first|refine gD ?_|(conv=>whnf);first|with_reducible refine CD (aa t) ?_)
  (conv=>whnf)
  refine CF (ι:=Nat × List Int) (λk=>[(1,.H .box (ab.enc .V h)),(3,.H .one (aG .own k.2)),(5,.H .one [I ((i:Nat):Int)]),(6,.H .one [I ((k.1:Nat):Int)])]) (λk=>k.1<=(nth h.S i).b.length/\k.2=S2++((nth h.S i).b.take k.1).flatten/\cQ k.1 (sD h (nth h.S i))=true/\k.2.length<=S2.length+8*k.1) (λk=>(nth h.S i).b.length - k.1) ((0,S2)) ?_ (⟨U0 _,by simp,rfl,by simp⟩) λk hk=>?_
  ·exact wB
  obtain⟨k,V⟩:=k;obtain⟨hk,w,ak,hb3⟩:=hk;simp only at hk w ak hb3 |-;by_cases W:k<(nth h.S i).b.length
  ·have hy:=ao W
   have hl8:=h8 _ (am W);have hwa:=(hwl.2 _ (am W)).2
   repeat'(first|refine gD ?_|(conv=>whnf);first|with_reducible (first|refine CD (aa t) ?_|refine CD (aa hy) ?_))
   (conv=>whnf)
   refine CF (ι:=Nat × List Int) (λj=>[(1,.H .box (ab.enc .V h)),(3,.H .one (aG .own j.2)),(5,.H .one [I ((i:Nat):Int)]),(6,.H .one [I ((k:Nat):Int)]),(7,.H .one (aG .V (nth (nth h.S i).b k))),(8,.H .one [I ((j.1:Nat):Int)])]) (λj=>j.1<=(nth (nth h.S i).b k).length/\j.2=V++(nth (nth h.S i).b k).take j.1/\((nth (nth h.S i).b k).take j.1).all (λa=>di h a (k:Nat))=true) (λj=>(nth (nth h.S i).b k).length - j.1) ((0,V)) ?_ (⟨U0 _,by simp,rfl⟩) λj hj=>?_
   ·exact wB
   obtain⟨j,S4⟩:=j;obtain⟨hj,o,X⟩:=hj;simp only at hj o X |-;have hl4:S4.length=V.length+j:=by rw[o,z3,R1];omega
   by_cases Y:j<(nth (nth h.S i).b k).length
   ·have d:=ao Y
    have b:=H (nth (nth (nth h.S i).b k) j) (k:Nat) (hwa _ (am Y));cases p:di h (nth (nth (nth h.S i).b k) j) (k:Nat)<;>rw[p]at b
    ·repeat'(first|refine gD ?_|(conv=>whnf);first|with_reducible refine CD (aa d) ?_|refine C7 b ?_)
     exact W0 (λz=>[B z]) ((JE (eN t (by unfold eO;exact cj W (eN d p)))).symm)
    repeat'(first|refine gD ?_|(conv=>whnf);first|with_reducible refine CD (aa d) ?_|refine C7 b ?_|refine CT cA (λr u=>by rw[I1.1 u];rfl) (by simp[aW,dP]) (by simp;omega) (by show _*8<=_;simp;omega) rfl ?_)
    ((conv=>whnf)
     refine CE (j+1,S4++[nth (nth (nth h.S i).b k) j]) ⟨(by simp only;omega),(by simp only;rw[o,Y4,d,Z4];rfl),cR d X p⟩ (by simp only;omega) ?_
     (repeat'(first|exact trivial|rfl|exact CL rfl (CL (W0 (C.s dI.own) (by simp[rI])) trivial)|refine CL ?_ ?_)))
   obtain rfl:j=(nth (nth h.S i).b k).length:=ω
   rw[U4]at o X
   repeat'(first|refine gD ?_|fail)
   ((conv=>whnf);refine CE (k+1,S4) ⟨(by simp only;omega),(by simp only;rw[o,w,xa hy,Z4]),bJ ak X,(by simp only;omega)⟩ (by simp only;omega) ?_;(exact wB))
  obtain rfl:k=(nth h.S i).b.length:=ω
  rw[U4]at w
  repeat'(first|refine gD ?_|(conv=>whnf);first|with_reducible refine CD (aa t) ?_)
  ((conv=>whnf);refine CE (i+1,V) ⟨(by simp only;omega),(by simp only;rw[w,n,uJ t,Z4]),cR t U ak,(by simp only;omega)⟩ (by simp only;omega) ?_;(exact wB))
 obtain rfl:i=h.S.length:=ω
 rw[U4]at n U
 repeat'(first|refine gD ?_|fail)
 (conv=>whnf)
 refine CF (ι:=Nat × List Int) (λq=>[(1,.H .box (ab.enc .V h)),(3,.H .one (aG .own q.2)),(9,.H .one [I ((q.1:Nat):Int)])]) (λq=>q.1<=h.a9.a6.length/\q.2=S2++(h.a9.a6.take q.1).map (·.Addr)/\(h.a9.a6.take q.1).all (gW h)=true) (λq=>h.a9.a6.length - q.1) ((0,S2)) ?_ (⟨U0 _,by simp,rfl⟩) λq Q=>?_
 ·exact wB
 obtain⟨q,R⟩:=q;obtain⟨J,g,Z⟩:=Q;simp only at J g Z |-;have hl5:R.length=S2.length+q:=by rw[g,z3,Z0,R1];omega
 by_cases T:q<h.a9.a6.length
 ·have d:=ao T
  have b:=H (nth h.a9.a6 q).Addr (nth h.a9.a6 q).a (hwq.2.2 _ (am T)).1;cases p:di h (nth h.a9.a6 q).Addr (nth h.a9.a6 q).a<;>rw[p]at b
  ·repeat'(first|refine gD ?_|(conv=>whnf);first|with_reducible refine CD (aa d) ?_|refine C7 b ?_)
   exact W0 (λz=>[B z]) ((J7 (eN d p)).symm)
  repeat'(first|refine gD ?_|(conv=>whnf);first|with_reducible refine CD (aa d) ?_|refine C7 b ?_|refine CT cA (λr u=>by rw[I1.1 u];rfl) (by simp[aW,dP]) (by simp;omega) (by show _*8<=_;simp;omega) rfl ?_)
  ((conv=>whnf)
   refine CE (q+1,R++[(nth h.a9.a6 q).Addr]) ⟨(by simp only;omega),(by simp only;rw[g,Y4,d,t5,Z4];rfl),cR d Z p⟩ (by simp only;omega) ?_
   (repeat'(first|exact trivial|rfl|exact CL rfl (CL (W0 (C.s dI.own) (by simp[rI])) trivial)|refine CL ?_ ?_)))
 obtain rfl:q=h.a9.a6.length:=ω
 rw[U4]at g Z
 repeat'(first|refine gD ?_|(conv=>whnf);first|refine C7 (y1 h.q hsm) ?_)
 (conv=>whnf)
 refine CF (ι:=Nat × List Int) (λq=>[(1,.H .box (ab.enc .V h)),(3,.H .one (aG .own q.2)),(10,.H .one (aG .own (aF h.q))),(11,.H .one [I ((q.1:Nat):Int)])]) (λq=>q.1<=(aF h.q).length/\q.2=R++(aF h.q).take q.1/\((aF h.q).take q.1).all (jw h)=true) (λq=>(aF h.q).length - q.1) ((0,R)) ?_ (⟨U0 _,by simp,rfl⟩) λq Q=>?_
 ·exact wB
 obtain⟨q,e⟩:=q;obtain⟨J,l,aq6⟩:=Q;simp only at J l aq6 |-;have hl6:e.length=R.length+q:=by rw[l,z3,R1];omega
 by_cases T:q<(aF h.q).length
 ·have d:=ao T
  have b:=H (nth (aF h.q) q) (-1) (hfw _ (am T));cases p:di h (nth (aF h.q) q) (-1)<;>rw[p]at b
  ·repeat'(first|refine gD ?_|(conv=>whnf);first|with_reducible refine CD (aa d) ?_|refine CJ rfl (aa d) rfl ?_|refine C7 b ?_)
   exact W0 (λz=>[B z]) ((JH (eN d p)).symm)
  repeat'(first|refine gD ?_|(conv=>whnf);first|with_reducible refine CD (aa d) ?_|refine CJ rfl (aa d) rfl ?_|refine C7 b ?_|refine CT cA (λr u=>by rw[I1.1 u];rfl) (by simp[aW,dP]) (by simp;omega) (by show _*8<=_;simp;omega) rfl ?_)
  ((conv=>whnf)
   refine CE (q+1,e++[nth (aF h.q) q]) ⟨(by simp only;omega),(by simp only;rw[l,Y4,d,Z4];rfl),cR d aq6 p⟩ (by simp only;omega) ?_
   (repeat'(first|exact trivial|rfl|exact CL rfl (CL (W0 (C.s dI.own) (by simp[rI])) trivial)|refine CL ?_ ?_)))
 obtain rfl:q=(aF h.q).length:=ω
 rw[U4]at l aq6;have F:e=holders h:=by rw[l,g,n,M];rfl
 have K:gF h=true:=by unfold gF;rw[U,Z,aq6];rfl
 have hbig:e.length<=100000000:=ω
 clear l g n M hSl hl5 P hl6
 repeat'(first|refine gD ?_|fail)
 (conv=>whnf)
 refine Lp.fz 3 (ι:=Nat) (λi=>[(1,.H .box (ab.enc .V h)),(3,.H .one (aG .V e)),(12,.H .one [I ((i:Nat):Int)])]) (λi=>i<=e.length/\(e.take i).Nodup) (λi=>e.length - i) 0 ?_ ⟨U0 _,by simp⟩ λi E=>?_
 ·(repeat'(first|exact trivial|rfl|exact CL rfl (show LF (ef (aG .own e)) (aG .V e) by rw[dZ];exact mH _)|refine CL ?_ ?_))
 obtain⟨E,L⟩:=E;by_cases Y:i<e.length
 ·have d:=ao Y
  have htl:(e.take i).length=i:=by rw[R1];omega
  repeat'(first|refine gD ?_|(conv=>whnf);first|with_reducible (first|refine CD (aa d) ?_|refine Bf.D (λQ=>?_) (λQ=>?_))|refine CX i rfl (by simp;omega) (λr u=>by obtain⟨z,-,rfl⟩:=t4.1 u;rfl) (Y3 ..) ?_|refine C7 (mC (e.take i) _ ω) ?_)
  all_goals first
   | exact W0 (λz=>[B z]) ((by rw[F]at *;exact(H9 (by assumption) (by assumption)).symm))
   | ((conv=>whnf);refine CE (i+1) ⟨ω,by rw[Y4,d];exact l7 L (by assumption)⟩ ω ?_;(exact wB))
 obtain rfl:i=e.length:=ω
 rw[U4]at L;have hlv:=zL h.K h.M 512
 repeat'(first|refine gD ?_|(conv=>whnf);first|refine C7 (vP h.K h.M N O y) ?_)
 exact W0 (λz=>[B z]) ((by unfold iL;rw[K,<-F,O0 L,Bool.true_and,Bool.true_and];rw[O4,beq_iff_eq,C0];unfold ix at *;omega))
set_option maxHeartbeats 8000000
def dt(h:ab):Bool:=(bI h.q&&decide (h.S.length=h.q.U.length))&&fE h.a9
def dM(h:ab):Bool:=((((((lV h&&rF h)&&dt h)&&lG h)&&h.S.all bp)&&cn h)&&(eX h&&iL h))&&u9 h
theorem DI(h:ab)(hs:ab.sml h)(hw:ab.wf h):ar Tryz.prog 70 false [.val (some 24) (ab.enc .V h)] .one [B (dM h)]:=by
 have R:=hs;have S:=hw;obtain⟨w,y,b,l,T,C,E,F,G⟩:=hs;obtain⟨-,-,-,-,U,hwc,hwm,hwq,-⟩:=hw;have n:vo h:=w.1.2;have hpn:dC h<=1048576:=n.1;have V:h.O.length<=1048576:=T.1;have W:h.S.length<=1048576:=C.1;have hlq:h.a9.a6.length<=1048576:=F.1;have hlb:h.q.U.length<=1048576:=E.1.1;have d:=lU h.G w;have e:=mc (dC h) h.w ⟨ω,ω⟩ y;have g:=mb h.K h.M b l;have r:=Be h b n;have H:=lA h.q E;have X:=oN h.a9 F;cases Y:a8 h.G<;>rw[Y]at d
 ·refine fO 150 [(8,10,[67,68,69,70,71,72,73,74,75,76])] Tryz.func70 rfl ?_
  repeat'(first|refine gO ?_|(conv=>whnf);first|with_reducible refine Bf.N (λa=>?_) (λa=>?_)|refine C7 d ?_)
  all_goals first
   | exact W0 (λz=>[B z]) ((by unfold dM lV;rw[Y];simp))
   |(exfalso;omega)
 cases Z:b8 (dC h) h.w<;>rw[Z]at e
 ·refine fO 150 [(8,10,[67,68,69,70,71,72,73,74,75,76])] Tryz.func70 rfl ?_
  repeat'(first|refine gO ?_|(conv=>whnf);first|with_reducible refine Bf.N (λa=>?_) (λa=>?_)|refine C7 d ?_|refine C7 e ?_)
  all_goals first
   | exact W0 (λz=>[B z]) ((by unfold dM lV;rw[Z];simp))
   |(exfalso;omega)
 cases u:bm h.K h.M<;>rw[u]at g
 ·refine fO 150 [(8,10,[67,68,69,70,71,72,73,74,75,76])] Tryz.func70 rfl ?_
  repeat'(first|refine gO ?_|(conv=>whnf);first|with_reducible refine Bf.N (λa=>?_) (λa=>?_)|refine C7 d ?_|refine C7 e ?_|refine C7 g ?_)
  all_goals first
   | exact W0 (λz=>[B z]) ((by unfold dM lV;rw[u];simp))
   |(exfalso;omega)
 have p:=BN h b l n y u;cases e4:pages0 h<;>rw[e4]at p
 ·refine fO 150 [(8,10,[67,68,69,70,71,72,73,74,75,76])] Tryz.func70 rfl ?_
  repeat'(first|refine gO ?_|(conv=>whnf);first|with_reducible refine Bf.N (λa=>?_) (λa=>?_)|refine C7 d ?_|refine C7 e ?_|refine C7 g ?_|refine C7 p ?_)
  all_goals first
   | exact W0 (λz=>[B z]) ((by unfold dM lV;rw[e4];simp))
   |(exfalso;omega)
 cases e5:rF h<;>rw[e5]at r
 ·refine fO 150 [(8,10,[67,68,69,70,71,72,73,74,75,76])] Tryz.func70 rfl ?_
  repeat'(first|refine gO ?_|(conv=>whnf);first|with_reducible refine Bf.N (λa=>?_) (λa=>?_)|refine C7 d ?_|refine C7 e ?_|refine C7 g ?_|refine C7 p ?_|refine C7 r ?_)
  all_goals first
   | exact W0 (λz=>[B z]) ((by unfold dM ;rw[e5];simp))
   |(exfalso;omega)
 cases Q:bI h.q<;>rw[Q]at H
 ·refine fO 150 [(8,10,[67,68,69,70,71,72,73,74,75,76])] Tryz.func70 rfl ?_
  repeat'(first|refine gO ?_|(conv=>whnf);first|with_reducible refine Bf.N (λa=>?_) (λa=>?_)|refine C7 d ?_|refine C7 e ?_|refine C7 g ?_|refine C7 p ?_|refine C7 r ?_|refine C7 H ?_)
  all_goals first
   | exact W0 (λz=>[B z]) ((by unfold dM dt;rw[Q];simp))
   |(exfalso;omega)
 by_cases J:h.S.length=h.q.U.length;rotate_left
 ·refine fO 150 [(8,10,[67,68,69,70,71,72,73,74,75,76])] Tryz.func70 rfl ?_
  repeat'(first|refine gO ?_|(conv=>whnf);first|with_reducible refine Bf.N (λa=>?_) (λa=>?_)|refine C7 d ?_|refine C7 e ?_|refine C7 g ?_|refine C7 p ?_|refine C7 r ?_|refine C7 H ?_)
  all_goals first
   | exact W0 (λz=>[B z]) ((by unfold dM dt;rw[T0 J];simp))
   |(exfalso;omega)
 cases e7:fE h.a9<;>rw[e7]at X
 ·refine fO 150 [(8,10,[67,68,69,70,71,72,73,74,75,76])] Tryz.func70 rfl ?_
  repeat'(first|refine gO ?_|(conv=>whnf);first|with_reducible refine Bf.N (λa=>?_) (λa=>?_)|refine C7 d ?_|refine C7 e ?_|refine C7 g ?_|refine C7 p ?_|refine C7 r ?_|refine C7 H ?_|refine C7 X ?_)
  all_goals first
   | exact W0 (λz=>[B z]) ((by unfold dM dt;rw[e7];simp))
   |(exfalso;omega)
 have K:lV h=true:=by unfold lV;rw[Y,Z,u,e4];rfl
 have hmc:dt h=true:=by unfold dt;rw[Q,O0 J,e7];rfl
 refine fO 150 [(8,10,[67,68,69,70,71,72,73,74,75,76])] Tryz.func70 rfl ?_
 repeat'(first|refine gA ?_|(conv=>whnf);first|with_reducible refine Bf.N (λa=>?_) (λa=>?_)|refine C7 d ?_|refine C7 e ?_|refine C7 g ?_|refine C7 p ?_|refine C7 r ?_|refine C7 H ?_|refine C7 X ?_)
 all_goals try(exfalso;omega)
 (conv=>whnf)
 refine CF (ι:=Nat) (λi=>[(1,.H .box (ab.enc .V h)),(3,.H .one [I ((i:Nat):Int)])]) (λi=>i<=h.a9.a6.length/\(h.a9.a6.take i).all (λx=>decide (x.b7<=h.b3))=true) (λi=>h.a9.a6.length - i) (0) ?_ (⟨U0 _,rfl⟩) λi hi=>?_
 ·exact wB
 obtain⟨hi,ai⟩:=hi;by_cases li:i<h.a9.a6.length
 ·have j:=ao li
  repeat'(first|refine gD ?_|(conv=>whnf);first|with_reducible (first|refine CD (aa j) ?_|refine Bf.D (λa=>?_) (λa=>?_)))
  all_goals first
   | exact W0 (λz=>[B z]) ((by unfold dM lG;rw[eN j (T0 ω)];simp))
   | ((conv=>whnf);refine CE (i+1) ⟨ω,cR j ai (O0 ω)⟩ ω ?_;(exact wB))
 have hsi:lG h=true:=gy ω ai
 repeat'(first|refine gD ?_|fail)
 (conv=>whnf)
 refine CF (ι:=Nat) (λk=>[(1,.H .box (ab.enc .V h)),(4,.H .one [I ((k:Nat):Int)])]) (λk=>k<=h.S.length/\(h.S.take k).all bp=true) (λk=>h.S.length - k) (0) ?_ (⟨U0 _,rfl⟩) λk hk=>?_
 ·exact wB
 obtain⟨hk,ak⟩:=hk;by_cases lk:k<h.S.length
 ·have j:=ao lk
  have c8:=mS (nth h.S k) (C.2 _ (am lk));cases e8:bp (nth h.S k)<;>rw[e8]at c8
  ·repeat'(first|refine gD ?_|(conv=>whnf);first|with_reducible refine CD (aa j) ?_|refine C7 c8 ?_)
   exact W0 (λz=>[B z]) ((by unfold dM;rw[eN j e8];simp))
  repeat'(first|refine gD ?_|(conv=>whnf);first|with_reducible refine CD (aa j) ?_|refine C7 c8 ?_)
  ((conv=>whnf);refine CE (k+1) ⟨ω,cR j ak e8⟩ ω ?_;(exact wB))
 have L:h.S.all bp=true:=gy ω ak;have q:=Gk h b l u V W (λo ho=>(U.2 o ho).2.1);have c10:=FN h R S u Q (W3.1 L);have c11:=Jb h.Z G;have c12:=xi h.Z G;have c13:=jG h h.Z.X.a3 b.1;have c14:=jG h h.Z.X.a1 b.1;by_cases hn:cn h=true;rotate_left
 ·have M:cn h=false:=by simpa using hn
  have c:=M;unfold cn at c;rw[I4]at c;cases O:eX h<;>rw[O]at q<;>cases e10:iL h<;>rw[e10]at c10
  all_goals
   repeat'(first|refine gD ?_|(conv=>whnf);first|with_reducible refine Bf.D (λa=>?_) (λa=>?_)|refine C7 (aH _ _ _) ?_|refine C7 q ?_|refine C7 c10 ?_)
   all_goals first
    | exact W0 (λz=>[B z]) ((by unfold dM;rw[M];simp))
    |(exfalso;omega)
 have c:=hn;unfold cn at c;rw[C0]at c;cases O:eX h<;>rw[O]at q
 ·repeat'(first|refine gD ?_|(conv=>whnf);first|with_reducible refine Bf.D (λa=>?_) (λa=>?_)|refine C7 (aH _ _ _) ?_|refine C7 q ?_)
  all_goals first
   | exact W0 (λz=>[B z]) ((by unfold dM;rw[O];simp))
   |(exfalso;omega)
 cases e10:iL h<;>rw[e10]at c10
 ·repeat'(first|refine gD ?_|(conv=>whnf);first|with_reducible refine Bf.D (λa=>?_) (λa=>?_)|refine C7 (aH _ _ _) ?_|refine C7 q ?_|refine C7 c10 ?_)
  all_goals first
   | exact W0 (λz=>[B z]) ((by unfold dM;rw[e10];simp))
   |(exfalso;omega)
 have P:dM h=u9 h:=by unfold dM;rw[K,e5,hmc,hsi,L,hn,O,e10];rfl
 rw[P];unfold u9;cases em:h.u
 ·repeat'(first|refine gD ?_|(conv=>whnf);first|with_reducible refine Bf.D (λa=>?_) (λa=>?_)|refine C7 (aH _ _ _) ?_|refine C7 q ?_|refine C7 c10 ?_|refine C7 c11 ?_|refine Bf.f em ?_)
  all_goals first
   |rfl
   | exact W0 (λz=>[B z]) ((by simp;done))
   |(exfalso;omega)
 cases e12:jH h.Z<;>rw[e12]at c12
 all_goals
  repeat'(first|refine gD ?_|(conv=>whnf);first|with_reducible (first|refine Bf.D (λa=>?_) (λa=>?_)|refine Bf.D (λa=>?_) (λa=>?_))|refine C7 (aH _ _ _) ?_|refine C7 q ?_|refine C7 c10 ?_|refine C7 c12 ?_|refine C7 c13 ?_|refine C7 c14 ?_|refine Bf.t em ?_)
  all_goals first
   | exact W0 (λz=>[B z]) ((by grind))
   |(exfalso;omega)
def sorted(xs:List Int):List Int:=xs.mergeSort λx y=>decide (x<=y)
theorem xQ(xs:List Int):(sorted xs).length=xs.length:=List.length_mergeSort ..
theorem Fk{w a:World}{g n:Nat}{d:Array Int}{f:Array Obj}{c:Array Value}{e:TypeId}{k:Nat × Nat}(l:w.heap[g]? = some (.cells c e k))(p:a=Sort.grow (Sort.putRow (Value.int .i64) (Sort.ahead w n) g 0 d) f) :
  a.os=w.os/\a.tape=w.tape/\a.output=w.output/\w.heap.size<=a.heap.size/\(∀b,b<w.heap.size->b≠g->a.heap[b]? = w.heap[b]?)/\a.heap[g]? = some (.cells (Sort.putCells (Value.int .i64) 0 d c) e k):=by
 subst p;have h:g<w.heap.size:=(I3.1 l).1;have o:∀b,b<w.heap.size->(Sort.grow (Sort.putRow (Value.int .i64) (Sort.ahead w n) g 0 d) f).heap[b]? = if g=b then(w.heap[b]?).map (Sort.onCells (Sort.putCells (Value.int .i64) 0 d)) else w.heap[b]?:=λb i=>by
  rw[Sort.heap_grow_old _ _ (by simpa[Sort.putRow,Sort.mapBlock,Sort.ahead] using i)];show(w.heap.modify g _)[b]? = _;rw[Array.getElem?_modify]
 refine⟨rfl,rfl,rfl,?_,λb i j=>?_,?_⟩
 ·show w.heap.size<=((w.heap.modify g _)++f).size
  simp
 ·rw[o b i,C8 λe=>j e.symm]
 rw[o g h,C9 rfl,l];rfl
theorem NS(d:Array Int)(c:Array Value)(q:Nat):(Sort.putCells (Value.int .i64) 0 d c)[q]? = if q<d.size then(c[q]?).map (λ_=>.int .i64 d[q]!) else c[q]?:=by
 unfold Sort.putCells;rw[Array.getElem?_mapIdx];by_cases h:q<d.size
 ·rw[C9 h]
  cases c[q]? with
  | none=>rfl
  | some y=>simp[h]
 rw[C8 h];cases c[q]? with
 | none=>rfl
 | some y=>simp[h]
theorem row1{w:World}{S Y:af}{c:C}{v:Value}(h:eL w S Y c v):dc w S Y [c] (λ_=>v):=by
 refine⟨λ_=>Y,λj e a=>?_,λ_ _ _ _ h=>h,λj f a b d=>?_⟩
 ·cases j with
  | zero=>simp at a;subst a;exact h
  | succ j=>simp at a
 simp at a b;omega
def Ry(Y:af):Nat->af
 | 0=>Y
 | _+1=>NO
theorem Dt(xs:List Int){j:Nat}(a:j<xs.length):xs.toArray[j]! = xs[j]:=by
 rw[getElem!_pos xs.toArray j (by simpa using a)];simp
theorem Nd(xs:List Int)(hl:xs.length<=1048576*64):aS Tryz.prog 393 false [.mut none (aG .own xs)] [.mut none (aG .own (sorted xs))] (.tup []) []:=by
 refine⟨⟨_,Tryz.func393,by kernel_rfl,by kernel_rfl⟩,λw S V vs hS hV hVV hA=>?_⟩
 match vs,hA with
 | [v],⟨hA,_⟩=>
  have E:=bX.rep1 (show bX w S (V 0) none [C.s .own (xs.map (rI .own))] v from hA);generalize D:C.s .own (xs.map (rI .own))=cc at E;cases E with
  | nil _ o a ho=>
   cases R:xs with
   | cons x xs'=>rw[R]at D;cases D
   | nil=>
    refine(Tryz.slices_Sort_int_none a 0 w).mono λe d ⟨he,G⟩=>?_
    subst G;refine⟨.tuple #[],he,Ca _ _,NO,λ_=>NO,NO,λ_ _ h=>h.elim,λ_ _ _ h=>h.elim,λ_ _ h=>h.elim,λ_ _ _ _ _ h=>h.elim,λ_ _ _ h=>h.elim,λ_ _ h=>h.elim,λ_ _ _ h=>h.elim,⟨#[],rfl,trivial,rfl⟩,dc.nil _ _ _ _,⟨⟨rfl,λ_=>.slice a 0 0,rfl,row1 (by rw[show sorted []=[] from List.mergeSort_nil ..];exact .nil _ .own _ trivial)⟩,trivial⟩⟩
  | own _ o g k n H rows u f ho O hk T U W hu hf hd hc=>
   cases D;have hnx:n=xs.length:=by rw[<-O,Z0]
   have X:0<xs.length:=ω
   have hk1:k=1:=by
    have:=hk (rI .own xs[0]) (t4.2 ⟨_,List.getElem_mem X,rfl⟩);exact this.symm
   subst hk1 hnx;have t:∀j (y:j<xs.length),cel w g j=some (.int .i64 xs[j]):=λj y=>by
    have J:=hu j ω;have Y:=hc j 0 (rI .own xs[j]) (I xs[j]) (by rw[Z2,Z1 y];rfl) rfl;rw[Nat.mul_one,Nat.add_zero]at Y;rw[J];generalize u j=z at Y;cases Y
    rfl
   have hgs:g<w.heap.size:=(hV 0 g 0 (W 0 ω).1).1;obtain⟨c,e0,fr,hg,-⟩:=Sort.cells_of_cell? (t 0 X);have hH:Sort.Holds (Value.int .i64) w g 0 xs.toArray:=λj y=>by
    have Z:j<xs.length:=by simpa using y
    refine⟨?_,?_⟩
    ·rw[Dt xs Z,X5];exact t j Z
    rw[X5];exact W0 Prod.fst (W j ω).2.2
   refine(Tryz.slices_Sort_int g 0 H xs w hH hgs ω).mono λe d ⟨he,m,os,G⟩=>?_
   obtain⟨q1,q2,q3,q4,q5,q6⟩:=Fk hg G;have hsl:=xQ xs;have B:∀q,cel w g q=c[q]?:=λq=>by show World.cell? w _=_;unfold World.cell?;simp[hg]
   have l:∀q,cel d g q=if q<xs.length then(c[q]?).map (λ_=>.int .i64 (sorted xs).toArray[q]!) else c[q]?:=λq=>by
    have J:=NS (sorted xs).toArray c q;have Y:(sorted xs).toArray.size=xs.length:=by simpa using hsl
    rw[Y]at J;rw[<-J];show World.cell? d _=_;unfold World.cell?;simp[q6,sorted]
   have p:∀q (P:q<xs.length),cel d g q=some (.int .i64 ((sorted xs)[q]'(ω))):=λq P=>by
    have J:=t q P;rw[B]at J;rw[l,C9 P,J,V4,Dt (sorted xs) ω]
   have F:∀q,fro d g q=fro w g q:=λq=>by
    refine Prod.ext ?_ ?_
    ·show World.frozen? d _=World.frozen? w _
     unfold World.frozen?;simp[q6,hg]
    show mp d g=mp w g;unfold mp;rw[q6,hg];simp only[Sort.putCells,Array.size_mapIdx]
   have hother:∀b,b<w.heap.size->b≠g->∀o,cel d b o=cel w b o/\fro d b o=fro w b o:=λb K L o=>by
    have M:=q5 b K L;refine⟨?_,Prod.ext ?_ ?_⟩
    ·show World.cell? d _=World.cell? w _
     unfold World.cell?;simp only[M]
    ·show World.frozen? d _=World.frozen? w _
     unfold World.frozen?;simp only[M]
    show mp d b=mp w b;unfold mp;rw[M]
   have N:bV (λb o=>∃i,V i b o) w d:=by
    refine⟨q1,q2,q3,q4,λb K O=>q5 b K λe=>?_,λb o K O=>?_,λb o K O=>?_⟩
    ·subst e;exact O 0 ⟨0,(W 0 ω).1⟩
    ·by_cases e:b=g
     ·subst e
      have ho:¬o<xs.length:=λh=>O ⟨0,(W o ω).1⟩
      rw[l,C8 ho,B]
     exact(hother b K e o).1
    by_cases e:b=g
    ·subst e;exact F o
    exact(hother b K e o).2
   refine⟨.tuple #[],he,N,NO,Ry (V 0),NO,λ_ _ h=>h.elim,λi b o h=>?_,λ_ _ h=>h.elim,λi i' L b o h h'=>?_,λ_ _ _ h=>h.elim,λ_ _ h=>h.elim,λ_ _ _ _ h=>h.elim,⟨#[],rfl,trivial,rfl⟩,dc.nil _ _ _ _,⟨⟨rfl,λ_=>.slice (some ⟨g,0,none⟩) xs.length H,rfl,row1 ?_⟩,trivial⟩⟩
   ·cases i with
    | zero=>exact .inl ⟨0,h⟩
    | succ i=>exact h.elim
   ·cases i with
    | zero=>
     cases i' with
     | zero=>exact L rfl
     | succ i'=>exact h'.elim
    | succ i=>exact h.elim
   show eL d _ (V 0) _ _;refine .own _ .own g 1 xs.length H _ (λq=>(cel d g q).getD undef) (λ_=>NO) trivial (by rw[Z0,hsl]) (λr hr=>by obtain⟨z,-,rfl⟩:=t4.1 hr;rfl) T U (λq P=>?_) (λq P=>?_) (λ_ _ _ _ h=>h.elim) (λ_ _ _ _ _ _ _ h=>h.elim) (λi j r c2 Q y=>?_)
   ·obtain⟨a1,⟨z,a2,a3⟩,a4⟩:=W q P
    refine⟨a1,?_,(F q).trans a4⟩;by_cases hqx:q<xs.length
    ·exact⟨_,p q hqx,rfl⟩
    rw[l,C8 hqx,<-B];exact⟨z,a2,a3⟩
   ·rw[p q ω];rfl
   rw[Z2]at Q;have hil:i<(sorted xs).length:=by
    rcases Nat.lt_or_ge i (sorted xs).length with h|h
    ·exact h
    rw[I2 h]at Q;cases Q
   rw[Z1 hil]at Q;simp only[V4,X0]at Q;subst Q
   match j,y with
   | 0,y=>
    simp only[rI,List.getElem?_cons_zero,X0]at y;subst y;simp only[Nat.mul_one,Nat.add_zero,p i ω,Option.getD_some];exact .v _ _ rfl
   | j+1,y=>simp[rI]at y
  | _=>cases D
set_option maxHeartbeats 8000000
def kV(s:ax)(k:Nat):Int:=16*s.Q+(k:Nat)*csz s.a
def ed(s:ax)(n:Nat):List Int:=((List.range n).filter λk=>aQ s.b1 (k:Nat)).map (kV s)
theorem A7{s:ax}{n:Nat}(h:aQ s.b1 (n:Nat)=true):ed s (n+1)=ed s n++[kV s n]:=by
 unfold ed;rw[List.range_succ,List.filter_append,t5];simp[h]
theorem ES{s:ax}{n:Nat}(h:aQ s.b1 (n:Nat)=false):ed s (n+1)=ed s n:=by
 unfold ed;rw[List.range_succ,List.filter_append,t5];simp[h]
theorem rA(s:ax)(n:Nat):(ed s n).length<=n:=by
 unfold ed;rw[Z0];exact R4 (List.length_filter_le ..) (by simp)
def fw(sp:List ax):List Int:=sp.flatMap λs=>ed s (slots s.a).toNat
def live0(sp:List ax)(la:List a7):List Int:=fw sp++la.map λl=>16*l.Q
def nO(sp:List ax)(la:List a7):List Int:=sorted (live0 sp la)
theorem rk(k:Int):0<=slots k/\slots k<=16:=by
 unfold slots;(repeat' split)<;>decide
theorem zn{k:Int}(h:0<=k/\k<=3):slots k*csz k=16:=by
 obtain rfl|rfl|rfl|rfl:k=0\/k=1\/k=2\/k=3:=ω
 all_goals decide
theorem xz{sp:List ax}{i:Nat}{s:ax}(h:sp[i]? = some s):fw (sp.take (i+1))=fw (sp.take i)++ed s (slots s.a).toNat:=by
 unfold fw;rw[Y4,h,List.flatMap_append];simp
theorem y6(s:ax)(k:Nat)(a:bg s=true)(i:(k:Int)<slots s.a):ar Tryz.prog 353 false [.val (some 3) (ax.enc .V s),.val none [I (k:Nat)]] .one [I (kV s k)]:=by
 have b:=i6 s;have c:=cJ s.a;have g:=iN s.a;rw[a]at b;have d:=aB a;have j:=rk s.a;rcases bE ⟨d.2.2.1,d.2.2.2⟩ with e|e|e|e<;>rw[e]at c
 all_goals
  refine fO 26 [(3,9,[17,18,19,20,21,22,23,24,25])] Tryz.func353 rfl ?_
  repeat'(first|refine gD ?_|(conv=>whnf);first|with_reducible refine Bf.D (λh=>?_) (λh=>?_)|refine C7 b ?_|refine C7 c ?_|refine C7 g ?_|refine C7 (aP _ 0 _) ?_)
  all_goals exact W0 (λz=>[I z]) (by unfold kV;rw[e];omega)
theorem vW(sp:List ax)(la:List a7)(d:d9 sp)(e:d6 la)(b:bm sp la=true):ar Tryz.prog 250 false [.val none (bY .V sp),.val none (bS .V la)] .one (aG .own (nO sp la)):=by
 have E:=d.1;have F:=e.1;have D:=lT sp la d e;rw[b]at D;obtain⟨p,G,-⟩:=dh b;refine fP 56 [(393,[1])] [] Tryz.func250 rfl ?_ (.inr (bM _))
 repeat'(first|refine gO ?_|(conv=>whnf);first|refine C7 D ?_)
 (conv=>whnf)
 refine CF (ι:=Nat × List Int) (λi=>[(1,.H .one (bS .V la)),(5,.H .one (aG .own i.2)),(16,.H .one (bY .V sp)),(17,.H .one [I (sp.length)]),(18,.H .one [I ((i.1:Nat):Int)])]) (λi=>i.1<=sp.length/\i.2=fw (sp.take i.1)/\i.2.length<=16*i.1) (λi=>sp.length - i.1) ((0,[])) ?_ (⟨U0 _,rfl,U0 _⟩) λi g=>?_
 ·exact wB
 obtain⟨i,S⟩:=i;obtain⟨g,n,H⟩:=g;simp only at g n H |-;by_cases o:i<sp.length
 ·have c:=ao o
  have h:bg (nth sp i)=true:=N1 p o;have J:=rk (nth sp i).a;have q:=eB h
  repeat'(first|refine gD ?_|(conv=>whnf);first|with_reducible refine CD (aa c) ?_)
  (conv=>whnf)
  refine CF (ι:=Nat × List Int) (λk=>[(1,.H .one (bS .V la)),(5,.H .one (aG .own k.2)),(7,.H .box (ax.enc .V (nth sp i))),(8,.H .one [I ((k.1:Nat):Int)]),(16,.H .one (bY .V sp)),(17,.H .one [I (sp.length)]),(18,.H .one [I ((i:Nat):Int)])]) (λk=>k.1<=(slots (nth sp i).a).toNat/\k.2=S++ed (nth sp i) k.1) (λk=>(slots (nth sp i).a).toNat - k.1) ((0,S)) ?_ (⟨U0 _,by simp[ed]⟩) λk t=>?_
  ·exact wB
  obtain⟨k,S2⟩:=k;obtain⟨t,a⟩:=t;simp only at t a |-;have K:=rA (nth sp i) k;have j:S2.length=S.length+(ed (nth sp i) k).length:=by rw[a,z3]
  by_cases M:k<(slots (nth sp i).a).toNat
  ·have u:=ny (nth sp i).b1 (k:Nat) q.2
   cases w:aQ (nth sp i).b1 (k:Nat)<;>rw[w]at u
   ·repeat'(first|refine gD ?_|(conv=>whnf);first|refine C7 (iN _) ?_|refine C7 u ?_)
    ((conv=>whnf);refine CE (k+1,S2) ⟨(by simp only;omega),(by simp only;rw[ES w];exact a)⟩ (by simp only;omega) ?_;(exact wB))
   repeat'(first|refine gD ?_|(conv=>whnf);first|refine C7 (iN _) ?_|refine C7 u ?_|refine C7 (y6 (nth sp i) k h ω) ?_|refine CT cA (λr y=>by rw[I1.1 y];rfl) (by simp[aW,dP]) (by simp;omega) (by show _*8<=_;simp;omega) rfl ?_)
   ((conv=>whnf)
    refine CE (k+1,S2++[kV (nth sp i) k]) ⟨(by simp only;omega),(by simp only;rw[A7 w,a,Z4])⟩ (by simp only;omega) ?_
    (repeat'(first|exact trivial|rfl|exact CL rfl (CL (W0 (C.s dI.own) (by simp[rI])) trivial)|refine CL ?_ ?_)))
  obtain rfl:k=(slots (nth sp i).a).toNat:=ω
  repeat'(first|refine gD ?_|(conv=>whnf);first|refine C7 (iN _) ?_)
  ((conv=>whnf);refine CE (i+1,S2) ⟨(by simp only;omega),(by simp only;rw[xz c,<-n,a]),(by simp only;omega)⟩ (by simp only;omega) ?_;(exact wB))
 obtain rfl:i=sp.length:=ω
 rw[U4]at n
 repeat'(first|refine gD ?_|fail)
 (conv=>whnf)
 refine CF (ι:=Nat × List Int) (λi=>[(5,.H .one (aG .own i.2)),(40,.H .one (bS .V la)),(41,.H .one [I (la.length)]),(42,.H .one [I ((i.1:Nat):Int)])]) (λi=>i.1<=la.length/\i.2=S++(la.take i.1).map (λl=>16*l.Q)) (λi=>la.length - i.1) ((0,S)) ?_ (⟨U0 _,by simp⟩) λi g=>?_
 ·exact wB
 obtain⟨i,S2⟩:=i;obtain⟨B,a⟩:=g;simp only at B a |-;have j:S2.length=S.length+i:=by rw[a,z3,Z0,R1];omega
 by_cases o:i<la.length
 ·have c:=ao o
  have L:=uh b c
  repeat'(first|refine gD ?_|(conv=>whnf);first|with_reducible refine CD (aa c) ?_|refine CT cA (λr y=>by rw[I1.1 y];rfl) (by simp[aW,dP]) (by simp;omega) (by show _*8<=_;simp;omega) rfl ?_)
  ((conv=>whnf)
   refine CE (i+1,S2++[16*(nth la i).Q]) ⟨(by simp only;omega),(by simp only;rw[a,Y4,c];simp)⟩ (by simp only;omega) ?_
   (repeat'(first|exact trivial|rfl|exact CL rfl (CL (W0 (C.s dI.own) (by simp[rI];omega)) trivial)|refine CL ?_ ?_)))
 obtain rfl:i=la.length:=ω
 rw[U4]at a
 repeat'(first|refine gD ?_|(conv=>whnf);first|refine CK (Nd S2 ω) (.inl rfl) ?_)
 show _=aG .own (sorted (fw sp++la.map λl=>16*l.Q));rw[<-n,<-a];rfl
def qh(b:List (Int × Value))(L:List Int):Prop:=∀a,mlook b a (.int .i64 0)=.int .i64 (L.count a:Nat)
theorem J1(f:List (Int × Value))(a b:Int)(v d:Value):mlook (mput f a v) b d=if a=b then v else mlook f b d:=by
 induction f with
 | nil=>simp only[mput,mlook]
 | cons p f g=>
  simp only[mput];by_cases h:p.1=a
  ·rw[C9 h]
   simp only[mlook];by_cases c:a=b
   ·rw[C9 c,C9 c]
   rw[C8 c,C8 c,C8 (by rw[h];exact c)]
  rw[C8 h];simp only[mlook];by_cases c:p.1=b
  ·rw[C9 c,C9 c,C8 (λe=>h (c.trans e.symm))]
  rw[C8 c,C8 c,g]
def inc(b:List (Int × Value))(L:List Int)(a:Int):List (Int × Value):=mput b a (.int .i64 ((L.count a:Nat)+1))
theorem Jq:qh [] []:=λ_=>rfl
theorem pO{d:List (Int × Value)}{L:List Int}(h:qh d L)(a:Int):qh (inc d L a) (L++[a]):=λb=>by
 unfold inc;rw[J1,C5];by_cases c:a=b
 ·subst c;rw[C9 rfl,List.count_singleton_self];simp
 rw[C8 c,h b,List.count_singleton,C8 (by simpa using c)];rfl
theorem Bo(h:ab)(d:d9 h.K)(e:d6 h.M)(b:List (Int × Value))(L:List Int)(a c:Int)(g:qh b L)(n:L.length<=1000000000) :
  aS Tryz.prog 249 false [.val none [I a],.val none [I c],.ptr [.m b],.ptr (ab.enc .V h)] [.val none [I a],.val none [I c],.ptr [.m (inc b L a)],.ptr (ab.enc .V h)] .one [B (di h a c)]:=by
 have k:=nE h.K h.M a d e;obtain⟨i,-⟩:=mR h.K h.M a;have l:L.count a<=L.length:=List.count_le_length;unfold di;generalize denotes h.K h.M a=w at k i |-;refine fM 41 [] [] [(0,0),(0,0),(0,0),(0,0)] Tryz.func249 rfl (λu q=>?_)
 repeat'(first|refine gO ?_|(conv=>whnf);first|with_reducible (first|refine Bf.D (λj=>?_) (λj=>?_)|refine Bf.E (λj=>?_) (λj=>?_))|refine Ml.mk (g a) ?_|refine Mu.mk (es':=inc b L a) rfl ?_|refine C7 k ?_|refine CN (i (by assumption)).1 (aa (ao (i (by assumption)).2)) ?_)
 all_goals
  refine CG rfl ?_ ?_
  ·exact W0 (λz=>[B z]) ((by grind))
  exact wB
set_option maxHeartbeats 8000000
def sI(h:ab)(a:aO):Bool:=gW h a&&decide (a.b7<=h.b3)
def my(h:ab):List Int:=((cy h++h.a9.a6.map (·.Addr))++aF h.q)++h.O.map (·.Addr)
def jK(h:ab):Bool:=((h.S.all (eO h)&&h.a9.a6.all (sI h))&&(aF h.q).all (jw h))&&(nO h.K h.M).all λa=>decide ((my h).count a=1)
theorem NX{h:ab}(h1:h.S.all (eO h)=false):jK h=false:=by unfold jK;rw[h1];rfl
theorem H6{h:ab}(h1:h.a9.a6.all (sI h)=false):jK h=false:=by unfold jK;rw[h1];simp
theorem N3{h:ab}(h1:(aF h.q).all (jw h)=false):jK h=false:=by unfold jK;rw[h1];simp
theorem Pi{h:ab}(h1:((nO h.K h.M).all λa=>decide ((my h).count a=1))=false):jK h=false:=by unfold jK;rw[h1];simp
theorem Jw{sp:List ax}{la:List a7}(h1:sp.length<=1048576)(b:la.length<=1048576):(nO sp la).length<=100000000:=by
 have a:∀(l:List ax),(fw l).length<=16*l.length:=by
  intro l
  induction l with
  | nil=>exact U0 _
  | cons s l c=>
   have e:fw (s::l)=ed s (slots s.a).toNat++fw l:=by unfold fw;rw[V5]
   have d:=rk s.a;have f:=rA s (slots s.a).toNat;rw[e,z3,List.length_cons];omega
 have g:=a sp;unfold nO live0;rw[xQ,z3,Z0];omega
theorem wz(h:ab)(hs:ab.sml h)(S:bm h.K h.M=true)(M:bI h.q=true)(hco:∀c∈h.S,bp c=true):ar Tryz.prog 79 false [.val (some 24) (ab.enc .V h)] .one [B (jK h)]:=by
 obtain⟨-,-,t,u,hso,hsc,hsm,hsq,-⟩:=hs;have hlo:h.O.length<=1048576:=hso.1;have hlc:h.S.length<=1048576:=hsc.1;have hlq:h.a9.a6.length<=1048576:=hsq.1;have hfl:=nv M;have w:jK h=false->[B false]=[B (jK h)]:=λe=>by rw[e]
 refine fP 114 [(249,[0,0,2,2])] [] Tryz.func79 rfl ?_
 repeat'(first|refine gO ?_|fail)
 (conv=>whnf)
 refine CF (ι:=Nat × List (Int × Value) × List Int) (λi=>[(1,.H .box (ab.enc .V h)),(3,.H .box [.m i.2.1]),(4,.fn 249 [3,1]),(22,.H .one (o6 .V h.S)),(23,.H .one [I (h.S.length)]),(24,.H .one [I ((i.1:Nat):Int)])]) (λi=>i.1<=h.S.length/\qh i.2.1 i.2.2/\i.2.2=((h.S.take i.1).flatMap λc=>c.b.flatten)/\(h.S.take i.1).all (eO h)=true/\i.2.2.length<=32*i.1) (λi=>h.S.length - i.1) ((0,[],[])) ?_ (⟨U0 _,Jq,rfl,rfl,U0 _⟩) λi hi=>?_
 ·exact wB
 obtain⟨i,es,L⟩:=i;obtain⟨hi,O,X,Y,hb⟩:=hi;simp only at hi O X Y hb |-;by_cases li:i<h.S.length
 ·have T:=ao li
  obtain⟨h4,h8⟩:=lL (hco _ (am li))
  repeat'(first|refine gD ?_|(conv=>whnf);first|with_reducible refine CD (aa T) ?_)
  (conv=>whnf)
  refine CF (ι:=Nat × List (Int × Value) × List Int) (λk=>[(1,.H .box (ab.enc .V h)),(3,.H .box [.m k.2.1]),(4,.fn 249 [3,1]),(22,.H .one (o6 .V h.S)),(23,.H .one [I (h.S.length)]),(24,.H .one [I ((i:Nat):Int)]),(29,.H .one (kU .V (nth h.S i).b)),(30,.H .one [I ((nth h.S i).b.length)]),(31,.H .one [I ((k.1:Nat):Int)])]) (λk=>k.1<=(nth h.S i).b.length/\qh k.2.1 k.2.2/\k.2.2=L++((nth h.S i).b.take k.1).flatten/\cQ k.1 (sD h (nth h.S i))=true/\k.2.2.length<=L.length+8*k.1) (λk=>(nth h.S i).b.length - k.1) ((0,es,L)) ?_ (⟨U0 _,O,by simp,rfl,by simp⟩) λk hk=>?_
  ·exact wB
  obtain⟨k,es3,Z⟩:=k;obtain⟨hk,y,K,ak,hb3⟩:=hk;simp only at hk y K ak hb3 |-;by_cases lk:k<(nth h.S i).b.length
  ·have hy:=ao lk
   have hl8:=h8 _ (am lk)
   repeat'(first|refine gD ?_|(conv=>whnf);first|with_reducible (first|refine CD (aa T) ?_|refine CD (aa hy) ?_))
   (conv=>whnf)
   refine CF (ι:=Nat × List (Int × Value) × List Int) (λj=>[(1,.H .box (ab.enc .V h)),(3,.H .box [.m j.2.1]),(4,.fn 249 [3,1]),(7,.H .one [I ((k:Nat):Int)]),(22,.H .one (o6 .V h.S)),(23,.H .one [I (h.S.length)]),(24,.H .one [I ((i:Nat):Int)]),(29,.H .one (kU .V (nth h.S i).b)),(30,.H .one [I ((nth h.S i).b.length)]),(31,.H .one [I ((k:Nat):Int)]),(36,.H .one (aG .V (nth (nth h.S i).b k))),(37,.H .one [I ((nth (nth h.S i).b k).length)]),(38,.H .one [I ((j.1:Nat):Int)])]) (λj=>j.1<=(nth (nth h.S i).b k).length/\qh j.2.1 j.2.2/\j.2.2=Z++(nth (nth h.S i).b k).take j.1/\((nth (nth h.S i).b k).take j.1).all (λa=>di h a (k:Nat))=true) (λj=>(nth (nth h.S i).b k).length - j.1) ((0,es3,Z)) ?_ (⟨U0 _,y,by simp,rfl⟩) λj hj=>?_
   ·exact wB
   obtain⟨j,es4,U⟩:=j;obtain⟨hj,l,C,aj⟩:=hj;simp only at hj l C aj |-;have hl4:U.length=Z.length+j:=by rw[C,z3,R1];omega
   by_cases lj:j<(nth (nth h.S i).b k).length
   ·have d:=ao lj
    have b:=Bo h t u es4 U (nth (nth (nth h.S i).b k) j) (k:Nat) l ω;cases r:di h (nth (nth (nth h.S i).b k) j) (k:Nat)<;>rw[r]at b
    ·repeat'(first|refine gD ?_|(conv=>whnf);first|with_reducible refine CD (aa d) ?_|refine CK (b) (.inl rfl) ?_)
     exact w (NX (eN T (by unfold eO;exact cj lk (eN d r))))
    repeat'(first|refine gD ?_|(conv=>whnf);first|with_reducible refine CD (aa d) ?_|refine CK (b) (.inl rfl) ?_)
    ((conv=>whnf)
     refine CE (j+1,inc es4 U (nth (nth (nth h.S i).b k) j),U++[nth (nth (nth h.S i).b k) j]) ⟨(by simp only;omega),pO l _,(by simp only;rw[C,Y4,d,Z4];rfl),cR d aj r⟩ (by simp only;omega) ?_
     (exact wA))
   obtain rfl:j=(nth (nth h.S i).b k).length:=ω
   rw[U4]at C aj
   repeat'(first|refine gD ?_|fail)
   ((conv=>whnf);refine CE (k+1,es4,U) ⟨(by simp only;omega),l,(by simp only;rw[C,K,xa hy,Z4]),bJ ak aj,(by simp only;omega)⟩ (by simp only;omega) ?_;(exact wB))
  obtain rfl:k=(nth h.S i).b.length:=ω
  rw[U4]at K
  repeat'(first|refine gD ?_|fail)
  ((conv=>whnf);refine CE (i+1,es3,Z) ⟨(by simp only;omega),y,(by simp only;rw[K,X,uJ T]),cR T Y ak,(by simp only;omega)⟩ (by simp only;omega) ?_;(exact wB))
 obtain rfl:i=h.S.length:=ω
 rw[U4]at X Y
 repeat'(first|refine gD ?_|fail)
 (conv=>whnf)
 refine CF (ι:=Nat × List (Int × Value) × List Int) (λq=>[(1,.H .box (ab.enc .V h)),(3,.H .box [.m q.2.1]),(4,.fn 249 [3,1]),(52,.H .one (cS .V h.a9.a6)),(53,.H .one [I (h.a9.a6.length)]),(54,.H .one [I ((q.1:Nat):Int)])]) (λq=>q.1<=h.a9.a6.length/\qh q.2.1 q.2.2/\q.2.2=L++(h.a9.a6.take q.1).map (·.Addr)/\(h.a9.a6.take q.1).all (sI h)=true) (λq=>h.a9.a6.length - q.1) ((0,es,L)) ?_ (⟨U0 _,O,by simp,rfl⟩) λq E=>?_
 ·exact wB
 obtain⟨q,es5,P⟩:=q;obtain⟨F,o,G,aq⟩:=E;simp only at F o G aq |-;have hl5:P.length=L.length+q:=by rw[G,z3,Z0,R1];omega
 by_cases V:q<h.a9.a6.length
 ·have d:=ao V
  have b:=Bo h t u es5 P (nth h.a9.a6 q).Addr (nth h.a9.a6 q).a o ω;cases r:di h (nth h.a9.a6 q).Addr (nth h.a9.a6 q).a<;>rw[r]at b
  ·repeat'(first|refine gD ?_|(conv=>whnf);first|with_reducible (first|refine CD (aa d) ?_|refine Bf.D (λE=>?_) (λE=>?_))|refine CK (b) (.inl rfl) ?_)
   all_goals exact w (H6 (eN d (by unfold sI gW;rw[r];rfl)))
  repeat'(first|refine gD ?_|(conv=>whnf);first|with_reducible (first|refine CD (aa d) ?_|refine Bf.D (λE=>?_) (λE=>?_))|refine CK (b) (.inl rfl) ?_)
  all_goals first
   |exact w (H6 (eN d (by unfold sI gW;rw[r,T0 ω];rfl)))
   | ((conv=>whnf)
      refine CE (q+1,inc es5 P (nth h.a9.a6 q).Addr,P++[(nth h.a9.a6 q).Addr]) ⟨(by simp only;omega),pO o _,(by simp only;rw[G,Y4,d,t5,Z4];rfl),cR d aq (by unfold sI gW;rw[r,O0 ω];rfl)⟩ (by simp only;omega) ?_
      (exact wA))
 obtain rfl:q=h.a9.a6.length:=ω
 rw[U4]at G aq
 repeat'(first|refine gD ?_|(conv=>whnf);first|refine C7 (pX h.q hsm) ?_)
 (conv=>whnf)
 refine CF (ι:=Nat × List (Int × Value) × List Int) (λq=>[(1,.H .box (ab.enc .V h)),(3,.H .box [.m q.2.1]),(4,.fn 249 [3,1]),(75,.H .one (aG .own (aF h.q))),(76,.H .one [I ((aF h.q).length)]),(77,.H .one [I ((q.1:Nat):Int)])]) (λq=>q.1<=(aF h.q).length/\qh q.2.1 q.2.2/\q.2.2=P++(aF h.q).take q.1/\((aF h.q).take q.1).all (jw h)=true) (λq=>(aF h.q).length - q.1) ((0,es5,P)) ?_ (⟨U0 _,o,by simp,rfl⟩) λq E=>?_
 ·exact wB
 obtain⟨q,es6,Q⟩:=q;obtain⟨F,p,H,aq6⟩:=E;simp only at F p H aq6 |-;have hl6:Q.length=P.length+q:=by rw[H,z3,R1];omega
 by_cases V:q<(aF h.q).length
 ·have d:=ao V
  have b:=Bo h t u es6 Q (nth (aF h.q) q) (-1) p ω;cases r:di h (nth (aF h.q) q) (-1)<;>rw[r]at b
  ·repeat'(first|refine gD ?_|(conv=>whnf);first|with_reducible refine CD (aa d) ?_|refine CJ rfl (aa d) rfl ?_|refine CK (b) (.inl rfl) ?_)
   exact w (N3 (eN d r))
  repeat'(first|refine gD ?_|(conv=>whnf);first|with_reducible refine CD (aa d) ?_|refine CJ rfl (aa d) rfl ?_|refine CK (b) (.inl rfl) ?_)
  ((conv=>whnf)
   refine CE (q+1,inc es6 Q (nth (aF h.q) q),Q++[nth (aF h.q) q]) ⟨(by simp only;omega),pO p _,(by simp only;rw[H,Y4,d,Z4];rfl),cR d aq6 r⟩ (by simp only;omega) ?_
   (exact wA))
 obtain rfl:q=(aF h.q).length:=ω
 rw[U4]at H aq6
 repeat'(first|refine gD ?_|fail)
 (conv=>whnf)
 refine CF (ι:=Nat × List (Int × Value) × List Int) (λq=>[(1,.H .box (ab.enc .V h)),(3,.H .box [.m q.2.1]),(87,.H .one (mT .V h.O)),(88,.H .one [I (h.O.length)]),(89,.H .one [I ((q.1:Nat):Int)])]) (λq=>q.1<=h.O.length/\qh q.2.1 q.2.2/\q.2.2=Q++(h.O.take q.1).map (·.Addr)) (λq=>h.O.length - q.1) ((0,es6,Q)) ?_ (⟨U0 _,p,by simp⟩) λq E=>?_
 ·exact wB
 obtain⟨q,es7,R⟩:=q;obtain⟨F,g,J⟩:=E;simp only at F g J |-;have hl7:R.length=Q.length+q:=by rw[J,z3,Z0,R1];omega
 by_cases V:q<h.O.length
 ·have d:=ao V
  have hcl:R.count (nth h.O q).Addr<=R.length:=List.count_le_length
  repeat'(first|refine gD ?_|(conv=>whnf);first|with_reducible refine CD (aa d) ?_|refine Ml.mk (g _) ?_|refine Mu.mk (es':=inc es7 R (nth h.O q).Addr) rfl ?_)
  ((conv=>whnf)
   refine CE (q+1,inc es7 R (nth h.O q).Addr,R++[(nth h.O q).Addr]) ⟨(by simp only;omega),pO g _,(by simp only;rw[J,Y4,d,t5,Z4];rfl)⟩ (by simp only;omega) ?_
   (exact wA))
 obtain rfl:q=h.O.length:=ω
 rw[U4]at J;have W:R=my h:=by rw[J,H,G,X];rfl
 have hlv:=Jw t.1 u.1
 repeat'(first|refine gD ?_|(conv=>whnf);first|refine C7 (vW h.K h.M t u S) ?_)
 (conv=>whnf)
 refine CF (ι:=Nat) (λn=>[(3,.H .box [.m es7]),(103,.H .one (aG .own (nO h.K h.M))),(104,.H .one [I ((nO h.K h.M).length)]),(105,.H .one [I ((n:Nat):Int)])]) (λn=>n<=(nO h.K h.M).length/\((nO h.K h.M).take n).all (λa=>decide ((my h).count a=1))=true) (λn=>(nO h.K h.M).length - n) (0) ?_ (⟨U0 _,rfl⟩) λn hn=>?_
 ·exact wB
 obtain⟨hn,an⟩:=hn;by_cases ln:n<(nO h.K h.M).length
 ·have d:=ao ln
  rw[W]at g
  repeat'(first|refine gD ?_|(conv=>whnf);first|with_reducible (first|refine CD (aa d) ?_|refine Bf.N (λE=>?_) (λE=>?_))|refine CJ rfl (aa d) rfl ?_|refine Ml.mk (g _) ?_)
  all_goals first
   |exact w (Pi (eN d (T0 ω)))
   | ((conv=>whnf);refine CE (n+1) ⟨ω,cR d an (O0 ω)⟩ ω ?_;(exact wB))
 repeat'(first|refine gD ?_|fail)
 exact W0 (λz=>[B z]) ((by unfold jK;rw[Y,aq,aq6,gy ω an];rfl))
set_option maxHeartbeats 8000000
def kh(h:ab):Bool:=(((((((a8 h.G&&b8 (dC h) h.w)&&bm h.K h.M)&&(pages0 h&&nU h))&&dt h)&&h.S.all bp)&&(eX h&&jK h))&&cn h)&&u9 h
theorem oH(h:ab)(hs:ab.sml h):ar Tryz.prog 24 false [.val (some 24) (ab.enc .V h)] .one [B (kh h)]:=by
 have L:=hs;obtain⟨n,o,b,g,M,p,q,O,r⟩:=hs;have u:vo h:=n.1.2;have hpn:dC h<=1048576:=u.1;have P:h.O.length<=1048576:=M.1;have Q:h.S.length<=1048576:=p.1;have hlb:h.q.U.length<=1048576:=q.1.1;have hlp:h.Z.X.T.length<=1048576:=r;have d:=yI h.G n;have e:=yF (dC h) h.w ⟨ω,ω⟩ o;have i:=lT h.K h.M b g;have w:=uQ h.q q;have R:=D6 h.a9 O;cases S:a8 h.G<;>rw[S]at d
 ·refine fO 154 [] Tryz.func24 rfl ?_
  repeat'(first|refine gO ?_|(conv=>whnf);first|with_reducible refine Bf.N (λa=>?_) (λa=>?_)|refine C7 d ?_)
  all_goals first
   | exact W0 (λz=>[B z]) ((by unfold kh ;rw[S];simp))
   |(exfalso;omega)
 cases T:b8 (dC h) h.w<;>rw[T]at e
 ·refine fO 154 [] Tryz.func24 rfl ?_
  repeat'(first|refine gO ?_|(conv=>whnf);first|with_reducible refine Bf.N (λa=>?_) (λa=>?_)|refine C7 d ?_|refine C7 e ?_)
  all_goals first
   | exact W0 (λz=>[B z]) ((by unfold kh ;rw[T];simp))
   |(exfalso;omega)
 cases y:bm h.K h.M<;>rw[y]at i
 ·refine fO 154 [] Tryz.func24 rfl ?_
  repeat'(first|refine gO ?_|(conv=>whnf);first|with_reducible refine Bf.N (λa=>?_) (λa=>?_)|refine C7 d ?_|refine C7 e ?_|refine C7 i ?_)
  all_goals first
   | exact W0 (λz=>[B z]) ((by unfold kh ;rw[y];simp))
   |(exfalso;omega)
 have j:=A6 h b g u o y;cases U:(pages0 h&&nU h)<;>rw[U]at j
 ·refine fO 154 [] Tryz.func24 rfl ?_
  repeat'(first|refine gO ?_|(conv=>whnf);first|with_reducible refine Bf.N (λa=>?_) (λa=>?_)|refine C7 d ?_|refine C7 e ?_|refine C7 i ?_|refine C7 j ?_)
  all_goals first
   | exact W0 (λz=>[B z]) ((by unfold kh ;rw[U];simp))
   |(exfalso;omega)
 cases J:bI h.q<;>rw[J]at w
 ·refine fO 154 [] Tryz.func24 rfl ?_
  repeat'(first|refine gO ?_|(conv=>whnf);first|with_reducible refine Bf.N (λa=>?_) (λa=>?_)|refine C7 d ?_|refine C7 e ?_|refine C7 i ?_|refine C7 j ?_|refine C7 w ?_)
  all_goals first
   | exact W0 (λz=>[B z]) ((by unfold kh dt;rw[J];simp))
   |(exfalso;omega)
 by_cases C:h.S.length=h.q.U.length;rotate_left
 ·refine fO 154 [] Tryz.func24 rfl ?_
  repeat'(first|refine gO ?_|(conv=>whnf);first|with_reducible refine Bf.N (λa=>?_) (λa=>?_)|refine C7 d ?_|refine C7 e ?_|refine C7 i ?_|refine C7 j ?_|refine C7 w ?_)
  all_goals first
   | exact W0 (λz=>[B z]) ((by unfold kh dt;rw[T0 C];simp))
   |(exfalso;omega)
 cases V:fE h.a9<;>rw[V]at R
 ·refine fO 154 [] Tryz.func24 rfl ?_
  repeat'(first|refine gO ?_|(conv=>whnf);first|with_reducible refine Bf.N (λa=>?_) (λa=>?_)|refine C7 d ?_|refine C7 e ?_|refine C7 i ?_|refine C7 j ?_|refine C7 w ?_|refine C7 R ?_)
  all_goals first
   | exact W0 (λz=>[B z]) ((by unfold kh dt;rw[V];simp))
   |(exfalso;omega)
 have W:dt h=true:=by unfold dt;rw[J,O0 C,V];rfl
 refine fO 154 [] Tryz.func24 rfl ?_
 repeat'(first|refine gA ?_|(conv=>whnf);first|with_reducible refine Bf.N (λa=>?_) (λa=>?_)|refine C7 d ?_|refine C7 e ?_|refine C7 i ?_|refine C7 j ?_|refine C7 w ?_|refine C7 R ?_)
 all_goals try(exfalso;omega)
 (conv=>whnf)
 refine CF (ι:=Nat) (λk=>[(1,.H .box (ab.enc .V h)),(57,.H .one (o6 .V h.S)),(58,.H .one [I (h.S.length)]),(59,.H .one [I ((k:Nat):Int)])]) (λk=>k<=h.S.length/\(h.S.take k).all bp=true) (λk=>h.S.length - k) (0) ?_ (⟨U0 _,rfl⟩) λk hk=>?_
 ·exact wB
 obtain⟨hk,ak⟩:=hk;by_cases lk:k<h.S.length
 ·have K:=ao lk
  have X:=nG (nth h.S k) (p.2 _ (am lk));cases Y:bp (nth h.S k)<;>rw[Y]at X
  ·repeat'(first|refine gD ?_|(conv=>whnf);first|with_reducible refine CD (aa K) ?_|refine C7 X ?_)
   exact W0 (λz=>[B z]) ((by unfold kh;rw[eN K Y];simp))
  repeat'(first|refine gD ?_|(conv=>whnf);first|with_reducible refine CD (aa K) ?_|refine C7 X ?_)
  ((conv=>whnf);refine CE (k+1) ⟨ω,cR K ak Y⟩ ω ?_;(exact wB))
 have F:h.S.all bp=true:=gy ω ak;have l:=DB h b g P Q;have c10:=wz h L y J (W3.1 F);have c12:=EW h.Z r;have c13:=uI h h.Z.X.a3 b.1;have c14:=uI h h.Z.X.a1 b.1;cases Z:eX h<;>rw[Z]at l
 ·repeat'(first|refine gD ?_|(conv=>whnf);first|refine C7 l ?_)
  all_goals first
   | exact W0 (λz=>[B z]) ((by unfold kh;rw[Z];simp))
   |(exfalso;omega)
 cases e10:jK h<;>rw[e10]at c10
 ·repeat'(first|refine gD ?_|(conv=>whnf);first|refine C7 l ?_|refine C7 c10 ?_)
  all_goals first
   | exact W0 (λz=>[B z]) ((by unfold kh;rw[e10];simp))
   |(exfalso;omega)
 by_cases hn:cn h=true;rotate_left
 ·have G:cn h=false:=by simpa using hn
  have c:=G;unfold cn at c;rw[I4]at c
  repeat'(first|refine gD ?_|(conv=>whnf);first|with_reducible refine Bf.D (λa=>?_) (λa=>?_)|refine C7 (aP _ _ _) ?_|refine C7 (oO _) ?_|refine C7 l ?_|refine C7 c10 ?_)
  all_goals first
   | exact W0 (λz=>[B z]) ((by unfold kh;rw[G];simp))
   |(exfalso;omega)
 have c:=hn;unfold cn at c;rw[C0]at c;have H:kh h=u9 h:=by unfold kh;rw[S,T,y,U,W,F,hn,Z,e10];rfl
 rw[H];unfold u9;cases em:h.u
 ·repeat'(first|refine gD ?_|(conv=>whnf);first|with_reducible (first|refine Bf.D (λa=>?_) (λa=>?_)|refine Bf.E (λa=>?_) (λa=>?_))|refine C7 (aP _ _ _) ?_|refine C7 (oO _) ?_|refine C7 l ?_|refine C7 c10 ?_|refine Bf.f em ?_)
  all_goals first
   | exact W0 (λz=>[B z]) ((by unfold ss;simp only[Bool.false_eq_true,if_false];first|(symm;exact T0 ω)|(rw[O4,beq_iff_eq,C0];omega)))
   |(exfalso;omega)
 cases e12:jH h.Z<;>rw[e12]at c12
 all_goals
  repeat'(first|refine gD ?_|(conv=>whnf);first|with_reducible (first|refine Bf.D (λa=>?_) (λa=>?_)|refine Bf.D (λa=>?_) (λa=>?_))|refine C7 (aP _ _ _) ?_|refine C7 (oO _) ?_|refine C7 l ?_|refine C7 c10 ?_|refine C7 c12 ?_|refine C7 c13 ?_|refine C7 c14 ?_|refine Bf.t em ?_)
  all_goals first
   | exact W0 (λz=>[B z]) ((by grind))
   |(exfalso;omega)
theorem cG{α:Type}[Inhabited α]{xs:List α}{f:α->Int}(e:(xs.map f).Nodup){i j:Nat}(b:i<xs.length)(c:j<xs.length)(h:f (nth xs i)=f (nth xs j)):i=j:=by
 have d:=List.pairwise_iff_getElem.1 e;rcases Nat.lt_trichotomy i j with a|rfl|a
 ·have:=d i j (by simpa using b) (by simpa using c) a
  simp only[List.getElem_map]at this;rw[bj (Z1 b),bj (Z1 c)]at h;exact absurd h this
 ·rfl
 have:=d j i (by simpa using c) (by simpa using b) a;simp only[List.getElem_map]at this;rw[bj (Z1 b),bj (Z1 c)]at h;exact absurd h.symm this
theorem aK{α:Type}[Inhabited α]{xs:List α}{x:α}(h:x∈xs):∃i,i<xs.length/\nth xs i=x:=by
 obtain⟨i,a⟩:=List.mem_iff_getElem?.1 h;exact⟨i,(C2.1 a).1,bj a⟩
theorem w7:∀{H L:List Int},H.Nodup->(∀x∈H,x∈L)->L.length<=H.length->∀x∈L,x∈H
 | [],L,_,_,c,x,d=>by
  have:L=[]:=I6 (by simpa using c);subst this;exact d
 | y::H,L,h,f,c,x,d=>by
  have i:y∈L:=f y (U1 ..);have a:=List.nodup_cons.1 h;by_cases b:x=y
  ·subst b;exact U1 ..
  refine W4 _ (w7 (L:=L.erase y) a.2 (λz g=>?_) ?_ x ((List.mem_erase_of_ne b).2 d))
  ·exact(List.mem_erase_of_ne (λe:z=y=>a.1 (by rw[<-e];exact g))).2 (f z (W4 _ g))
  rw[List.length_erase_of_mem i];simp only[List.length_cons]at c;omega
theorem zS{H L:List Int}(f:L.Nodup)(d:∀x∈H,x∈L):(H.Nodup/\H.length=L.length)↔∀a∈L,H.count a=1:=by
 constructor
 ·rintro⟨c,k⟩ a b
  have g:=w7 c d ω a b;have i:=List.nodup_iff_count.1 c a;have j:=List.count_pos_iff.2 g;omega
 intro e;have c:H.Nodup:=List.nodup_iff_count.2 λa=>by
  by_cases b:a∈H
  ·rw[e a (d a b)];exact X2 1
  rw[List.count_eq_zero_of_not_mem b];exact U0 _
 refine⟨c,?_⟩;have:H.Perm L:=List.perm_iff_count.2 λa=>by
  by_cases b:a∈L
  ·rw[e a b]
   have i:=List.nodup_iff_count.1 f a;have j:=List.count_pos_iff.2 b;omega
  rw[List.count_eq_zero_of_not_mem b,List.count_eq_zero_of_not_mem λh=>b (d a h)]
 exact this.length_eq
theorem dx{l:a7}{n:Nat}{p:Int} : p∈lpgs l n↔∃k:Nat,k<n/\p=l.Q+(k:Nat):=by
 unfold lpgs;simp only[t4,List.mem_range];constructor
 ·rintro⟨k,a,rfl⟩;exact⟨k,a,rfl⟩
 rintro⟨k,a,rfl⟩;exact⟨k,a,rfl⟩
structure qx(sp:List ax)(la:List a7):Prop where
 sok:∀s∈sp,bg s=true
 lok:∀l∈la,bC l=true
 nd:(sp.map (·.Q)).Nodup
 dis:∀s∈sp,∀l∈la,∀k:Nat,k<l.a2.toNat->s.Q≠l.Q+(k:Nat)
 one:∀i j,i<la.length->j<la.length->∀k k':Nat,k<(nth la i).a2.toNat->k'<(nth la j).a2.toNat->(nth la i).Q+(k:Nat)=(nth la j).Q+(k':Nat)->i=j
theorem qx.of{sp:List ax}{la:List a7}(h:bm sp la=true):qx sp la:=by
 obtain⟨t,u,d⟩:=dh h;unfold pgs at d;rw[List.nodup_append]at d;obtain⟨w,y,A⟩:=d;have B:=List.pairwise_flatMap.1 y;refine⟨λs f=>W3.1 t s f,λl g=>W3.1 u l g,w,λs f l g k c e=>?_,λi j n o k q c a e=>?_⟩
 ·exact A _ (t4.2 ⟨s,f,rfl⟩) _ (List.mem_flatMap.2 ⟨l,g,dx.2 ⟨k,c,rfl⟩⟩) e
 have r:=List.pairwise_iff_getElem.1 B.2;have C:=bj (Z1 n);have D:=bj (Z1 o);rw[C]at c e;rw[D]at a e;rcases Nat.lt_trichotomy i j with b|p|b
 ·exact absurd e (r i j n o b _ (dx.2 ⟨k,c,rfl⟩) _ (dx.2 ⟨q,a,rfl⟩))
 ·exact p
 exact absurd e.symm (r j i o n b _ (dx.2 ⟨q,a,rfl⟩) _ (dx.2 ⟨k,c,rfl⟩))
theorem fK{s:ax}{a:Int}(b:bg s=true):cu s a=true↔16*s.Q<=a/\a<=16*s.Q+15:=by
 unfold cu;rw[b];simp
theorem jz{sp:List ax}{la:List a7}(b:qx sp la){a:Int}{i:Nat}(c:i<sp.length)(h:16*(nth sp i).Q<=a/\a<=16*(nth sp i).Q+15):denotes sp la a=og i (nth sp i) a:=by
 refine ns c ((fK (b.sok _ (am c))).2 h) λj z l d=>?_
 cases e:cu z a with
 | false=>rfl
 | true=>
  exfalso;have g:=(C2.1 d).1;have n:=(fK (b.sok z (V1 d))).1 e;have k:=bj d;subst k;have:=cG (f:=(·.Q)) b.nd c g ω;omega
theorem PW{sp:List ax}{la:List a7}(d:qx sp la){a:Int}(h:∀i,i<sp.length->¬(16*(nth sp i).Q<=a/\a<=16*(nth sp i).Q+15)):∀(j:Nat)(z:ax),j<sp.length->sp[j]? = some z->cu z a=false:=by
 intro j z f c;cases e:cu z a with
 | false=>rfl
 | true=>
  have g:=(fK (d.sok z (V1 c))).1 e;have b:=bj c;subst b;exact absurd g (h j f)
theorem Mq{sp:List ax}{la:List a7}(f:qx sp la)(a:Int):a∈live0 sp la↔a∈ix sp la:=by
 have L:a∈ix sp la↔∃n:Nat,n<512/\jT sp la n=true/\(n:Int)=a:=by
  unfold ix lM;simp only[t4,v4,List.mem_range];constructor
  ·rintro⟨n,⟨g,p⟩,B⟩;exact⟨n,g,p,B⟩
  rintro⟨n,g,p,B⟩;exact⟨n,⟨g,p⟩,B⟩
 rw[L];unfold live0 fw;rw[W2,List.mem_flatMap,t4];constructor
 ·rintro(⟨s,t,H⟩|⟨l,b,rfl⟩)
  ·obtain⟨i,h,rfl⟩:=aK t
   unfold ed at H;obtain⟨k,M,rfl⟩:=t4.1 H;obtain⟨u,C⟩:=v4.1 M;have u:=List.mem_range.1 u;have c:=aB (f.sok _ t);have q:=zn ⟨c.2.2.1,c.2.2.2⟩;have N:=rk (nth sp i).a;unfold kV;have O:0<=(k:Int)*csz (nth sp i).a/\(k:Int)*csz (nth sp i).a<=15:=by
    rcases bE ⟨c.2.2.1,c.2.2.2⟩ with e|e|e|e<;>rw[e]at q |-<;>omega
   have o:=jz f h (a:=16*(nth sp i).Q+(k:Nat)*csz (nth sp i).a) ω;have J:(16*(nth sp i).Q+(k:Nat)*csz (nth sp i).a - 16*(nth sp i).Q) / csz (nth sp i).a=(k:Nat)/\(16*(nth sp i).Q+(k:Nat)*csz (nth sp i).a - 16*(nth sp i).Q) % csz (nth sp i).a=0:=by
    rcases bE ⟨c.2.2.1,c.2.2.2⟩ with e|e|e|e<;>rw[e]<;>omega
   refine⟨(16*(nth sp i).Q+(k:Nat)*csz (nth sp i).a).toNat,ω,?_,ω⟩;have d:(((16*(nth sp i).Q+(k:Nat)*csz (nth sp i).a).toNat:Nat):Int)=16*(nth sp i).Q+(k:Nat)*csz (nth sp i).a:=ω
   unfold jT;rw[d,o];simp only[og,J.1,J.2,C]
   rfl
  obtain⟨i,h,rfl⟩:=aK b;have R:=aM (f.lok _ b);have P:=cK (f.lok _ b);have g:=PW f (a:=16*(nth la i).Q) λj K S=>f.dis _ (am K) _ b 0 ω ω
  have A:aY (nth la i) (16*(nth la i).Q)=true:=by
   unfold aY;rw[f.lok _ b,O0 ω];rfl
  have o:=me (a:=16*(nth la i).Q) (X2 _) g h A λj z K r=>by
   cases e:aY z (16*(nth la i).Q) with
   | false=>rfl
   | true=>
    exfalso;have D:=(C2.1 r).1;have w:=V1 r;have E:=bj r;subst E;have Q:=aM (f.lok _ w);have y:=f.lok _ w;unfold bC at y;rw[C0]at y;unfold aY at e;rw[I0,C0]at e;have:=f.one i j h D 0 ((nth la i).Q - (nth la j).Q).toNat ω ω ω;omega
  refine⟨(16*(nth la i).Q).toNat,ω,?_,ω⟩;have d:(((16*(nth la i).Q).toNat:Nat):Int)=16*(nth la i).Q:=ω
  unfold jT;rw[d,o];simp
 rintro⟨n,T,b,rfl⟩
 cases g:sp.findIdx? (cu · (n:Nat)) with
 | some i=>
  obtain⟨h,F,-⟩:=Y5.1 g;have G:=bj (Z1 h);rw[<-G]at F;have t:=f.sok _ (am h);have p:=(fK t).1 F;have c:=aB t;have q:=zn ⟨c.2.2.1,c.2.2.2⟩;have o:denotes sp la (n:Nat)=og i (nth sp i) (n:Nat):=by unfold denotes;rw[g]
  rw[rS o]at b;simp only[I0,O5,C0]at b;simp only[og]at b;cases A:aQ (nth sp i).b1 (((n:Int) - 16*(nth sp i).Q) / csz (nth sp i).a) with
  | false=>rw[A]at b;simp at b
  | true=>
   have r:((n:Int) - 16*(nth sp i).Q) % csz (nth sp i).a=0:=b.1;refine .inl ⟨nth sp i,am h,?_⟩;unfold ed;refine t4.2 ⟨(((n:Int) - 16*(nth sp i).Q) / csz (nth sp i).a).toNat,v4.2 ⟨List.mem_range.2 ?_,?_⟩,?_⟩
   ·rcases bE ⟨c.2.2.1,c.2.2.2⟩ with e|e|e|e<;>rw[e]at q r |-<;>omega
   ·have:((((n:Int) - 16*(nth sp i).Q) / csz (nth sp i).a).toNat:Int)=((n:Int) - 16*(nth sp i).Q) / csz (nth sp i).a:=by
     rcases bE ⟨c.2.2.1,c.2.2.2⟩ with e|e|e|e<;>rw[e]<;>omega
    rw[this];exact A
   unfold kV;rcases bE ⟨c.2.2.1,c.2.2.2⟩ with e|e|e|e<;>rw[e]at r |-<;>omega
 | none=>
  cases p:la.findIdx? (aY · (n:Nat)) with
  | some i=>
   obtain⟨h,F,-⟩:=Y5.1 p;have o:denotes sp la (n:Nat) = ⟨3,i,0,(n:Nat) - 16*(nth la i).Q⟩:=by unfold denotes;rw[g,p]
   rw[rS o]at b;simp only[I0,C0]at b;exact .inr ⟨nth la i,am h,by have:=b.1;omega⟩
  | none=>
   have o:denotes sp la (n:Nat) = ⟨0,0,0,0⟩:=by unfold denotes;rw[g,p]
   rw[rS o]at b;simp at b
theorem vE{sp:List ax}{la:List a7}(e:qx sp la){a:Int}(b:(denotes sp la a).c6=0)(c:(denotes sp la a).b6=1\/(denotes sp la a).b6=3):a∈ix sp la:=by
 have l:0<=a/\a<512:=by
  unfold denotes at b c;cases h:sp.findIdx? (cu · a) with
  | some i=>
   obtain⟨f,k,-⟩:=Y5.1 h;have j:=List.getElem_mem f;have d:=(fK (e.sok _ j)).1 k;have g:=aB (e.sok _ j);omega
  | none=>
   rw[h]at b c;cases d:la.findIdx? (aY · a) with
   | some i=>
    obtain⟨f,-⟩:=Y5.1 d;rw[d]at b;have n:=aM (e.lok _ (am f));simp only at b;omega
   | none=>rw[d]at c;simp at c
 have g:((a.toNat:Nat):Int)=a:=ω
 unfold ix lM;refine t4.2 ⟨a.toNat,v4.2 ⟨List.mem_range.2 ω,?_⟩,g⟩;unfold jT;rw[g];simp only[I0,O5,C0];exact⟨b,c⟩
theorem oq(sp:List ax)(la:List a7):(ix sp la).Nodup:=by
 unfold ix lM List.Nodup;rw[List.pairwise_map];exact(List.nodup_range.sublist List.filter_sublist).imp λh e=>h ω
theorem sT{h:ab}(d:qx h.K h.M){a c:Int}(b:di h a c=true):a∈ix h.K h.M:=by
 unfold di at b;simp only[I0,C0]at b;exact vE d b.1.2 (.inl b.1.1)
theorem Mt{h:ab}(b:qx h.K h.M){o:bz}(a:iF h o=true):o.Addr∈ix h.K h.M:=by
 unfold iF at a;simp only[I0,O5,C0]at a;exact vE b a.1 (a.2.elim (λe=>.inl e.1) (λe=>.inr e.1))
theorem FQ(h:ab)(a:Int):(my h).count a=(holders h).count a:=by
 unfold my holders;simp only[C5];omega
theorem jO(h:ab):gF h=true↔(h.S.all (eO h)=true/\h.a9.a6.all (gW h)=true)/\(aF h.q).all (jw h)=true:=by
 unfold gF;simp only[I0]
theorem rR{h:ab}(e:qx h.K h.M)(g:eX h=true)(j:gF h=true):∀a∈holders h,a∈ix h.K h.M:=by
 obtain⟨⟨n,p⟩,q⟩:=(jO h).1 j;intro a b;unfold holders at b;simp only[W2]at b;rcases b with((b|b)|b)|b
 ·obtain⟨o,f,rfl⟩:=t4.1 b
  obtain⟨i,r,rfl⟩:=aK f;have d:=dL g r;unfold objAt at d;rw[I0]at d;exact Mt e d.2
 ·unfold cy at b
  obtain⟨c,t,b⟩:=List.mem_flatMap.1 b;obtain⟨l,u,b⟩:=List.mem_flatten.1 b;obtain⟨k,w,rfl⟩:=aK u;have d:=W3.1 n c t;unfold eO at d;have y:=W3.1 (show(nth c.b k).all _=true from dL d w) a b;exact sT e y
 ·obtain⟨x,A,rfl⟩:=t4.1 b
  exact sT e (W3.1 p x A)
 exact sT e (W3.1 q a b)
theorem HO{h:ab}(c:bm h.K h.M=true)(o:eX h=true):(lG h&&iL h)=jK h:=by
 have f:=qx.of c;have p:(lG h=true/\h.a9.a6.all (gW h)=true)↔h.a9.a6.all (sI h)=true:=by
  unfold lG sI;simp only[W3,I0];exact⟨λe x b=>⟨e.2 x b,e.1 x b⟩,λe=>⟨λx b=>(e x b).2,λx b=>(e x b).1⟩⟩
 have r:jK h=true↔((h.S.all (eO h)=true/\h.a9.a6.all (sI h)=true)/\(aF h.q).all (jw h)=true)/\∀a∈ix h.K h.M,(holders h).count a=1:=by
  unfold jK;simp only[I0];refine and_congr Iff.rfl ?_;simp only[W3,C0,FQ];unfold nO sorted;simp only[List.mem_mergeSort,Mq f]
 have g:iL h=true↔gF h=true/\((holders h).Nodup/\(holders h).length=(ix h.K h.M).length):=by
  unfold iL;simp only[I0,C0,and_assoc]
 rw[O4,I0,r,g];constructor
 ·rintro⟨i,d,j⟩
  obtain⟨⟨k,l⟩,n⟩:=(jO h).1 d;exact⟨⟨⟨k,p.1 ⟨i,l⟩⟩,n⟩,(zS (oq ..) (rR f o d)).1 j⟩
 rintro⟨⟨⟨i,d⟩,j⟩,k⟩
 obtain⟨l,n⟩:=p.2 d;have q:gF h=true:=(jO h).2 ⟨⟨i,n⟩,j⟩;exact⟨l,q,(zS (oq ..) (rR f o q)).2 k⟩
theorem gE(s t:ax):meshable s t=meshable t s:=by
 unfold meshable;rw[Bool.and_comm (bg s)]
 congr 1
 refine decide_eq_decide.2 ?_;rw[Nat.and_comm];exact⟨λh=>⟨h.1.symm,λe=>h.2.1 e.symm,h.2.2⟩,λh=>⟨h.1.symm,λe=>h.2.1 e.symm,h.2.2⟩⟩
theorem dA{t:aI}{f:Int}{p:Nat} : (p:Int)∈pagesOn t f↔p<t.J.length/\(nth t.J p).e≠0/\(nth t.J p).j=f:=by
 unfold pagesOn jI;simp only[t4,v4,List.mem_range];constructor
 ·rintro⟨n,⟨b,a⟩,c⟩
  obtain rfl:n=p:=ω
  unfold JR at a;rw[C0]at a;exact⟨b,a⟩
 rintro⟨b,a⟩
 exact⟨p,⟨b,by unfold JR;rw[C0];exact a⟩,rfl⟩
theorem uG{t:aI}{f q:Int}(h:q∈pagesOn t f):∃p:Nat,q=(p:Nat):=by
 unfold pagesOn jI at h;obtain⟨n,-,rfl⟩:=t4.1 h;exact⟨n,rfl⟩
theorem r8{h:ab}(a:pages0 h=true):(∀i,i<h.M.length->∀k:Nat,k<(nth h.M i).a2.toNat->(aN h ((nth h.M i).Q+(k:Nat))).length=1)/\(∀p∈pgs h.K h.M,p<dC h)/\∀p:Nat,p<dC h->((nth (tbl h).J p).e≠0↔(p:Int)∈pgs h.K h.M):=by
 unfold pages0 at a;simp only[I0]at a;obtain⟨⟨⟨-,d⟩,e⟩,f⟩:=a;refine⟨λi g k j=>?_,λp a=>?_,λp a=>?_⟩
 ·have b:=dL d g
  unfold tC at b;rw[I0]at b;have c:=dL b.2 j;unfold vK at c;rw[C0]at c;exact c
 ·have:=W3.1 e p a
  rw[C0]at this;exact this
 have b:=dL f a;unfold vn at b;rw[I0,C0]at b;exact b.1
theorem xq{h:ab}{p:Nat}(a:p<dC h):ac (tbl h) (p:Nat)=nth (tbl h).J p:=eZ a
theorem eC{h:ab}{p:Nat}(a:p<dC h)(b:(nth (tbl h).J p).e≠0):aN h (p:Nat)=pagesOn (tbl h) (nth (tbl h).J p).j:=by
 unfold aN;rw[show h.G.F.R=tbl h from rfl,xq a,C8 b]
theorem pH{h:ab}(g:qx h.K h.M){j:Nat}(c:j<h.K.length):fH h (nth h.K j).Q=(j:Nat):=by
 unfold fH;refine dX (ao c) (by unfold jX;simp) λk z i d=>?_
 have a:=bj d;have b:=(C2.1 d).1;subst a;unfold jX;refine T0 λe=>?_
 have:=cG (f:=(·.Q)) g.nd b c e;omega
theorem zO{h:ab}(y:bm h.K h.M=true)(T:pages0 h=true):rF h=nU h:=by
 have G:=qx.of y;obtain⟨U,V,O⟩:=r8 T;have t:∀i,i<h.K.length->∃p:Nat,(nth h.K i).Q=(p:Nat)/\p<dC h/\(nth (tbl h).J p).e≠0:=λi n=>by
  have hc:=aB (G.sok _ (am n));have P:(nth h.K i).Q∈pgs h.K h.M:=by
   unfold pgs;exact W2.2 (.inl (t4.2 ⟨_,am n,rfl⟩))
  have o:=V _ P;refine⟨(nth h.K i).Q.toNat,ω,ω,?_⟩;refine(O _ ω).2 ?_;rw[show(((nth h.K i).Q.toNat:Nat):Int)=(nth h.K i).Q by omega];exact P
 rw[O4];unfold rF nU;rw[cz,cz];constructor
 ·intro K i n
  rw[cz];intro j L;have A:j<h.K.length:=ω
  unfold kZ;rw[O5,C0];by_cases b:(ac (tbl h) (nth h.K i).Q).j=(ac (tbl h) (nth h.K j).Q).j
  ·right
   obtain⟨p,f,c,r⟩:=t i n;obtain⟨q,B,a,g⟩:=t j A;have d:=W3.1 (K i n);rw[f,B,xq c,xq a]at b;have W:(q:Int)∈aN h (nth h.K i).Q:=by
    rw[f,eC c r];exact dA.2 ⟨a,g,b.symm⟩
   have u:=d _ W;unfold mi at u;rw[<-B,pH G A]at u;rw[O5,I0,C0]at u;rcases u with u|u
   ·omega
   simpa using u.2
  exact .inl b
 intro C i n;rw[W3];intro q H;obtain⟨p,f,c,r⟩:=t i n;have X:=H;rw[f,eC c r]at H;obtain⟨J,rfl⟩:=uG H;obtain⟨a,g,D⟩:=dA.1 H;have w:=(O J a).1 g;unfold pgs at w;rw[W2,t4,List.mem_flatMap]at w;rcases w with⟨s,K,E⟩|⟨l,Y,M⟩
 ·obtain⟨j,L,rfl⟩:=aK K
  unfold mi;rw[<-E,pH G L];rw[O5,I0,C0,C0];have b:(ac (tbl h) (nth h.K i).Q).j=(ac (tbl h) (nth h.K j).Q).j:=by
   rw[f,E,xq c,xq a,D]
  rcases Nat.lt_trichotomy j i with o|Z|o
  ·have d:=dL (C i n) o
   unfold kZ at d;rw[O5,C0]at d;exact .inr ⟨ω,by simpa using d.resolve_left λe=>e b⟩
  ·exact .inl ω
  have d:=dL (C j L) o;unfold kZ at d;rw[O5,C0]at d;exact .inr ⟨ω,by rw[gE];simpa using d.resolve_left λe=>e b.symm⟩
 exfalso;obtain⟨i2,F,rfl⟩:=aK Y;obtain⟨k,Q,N⟩:=dx.1 M;have d:=U i2 F k Q;rw[<-N,eC a g]at d;have R:(J:Int)∈pagesOn (tbl h) (nth (tbl h).J J).j:=dA.2 ⟨a,g,rfl⟩;have S:(p:Int)∈pagesOn (tbl h) (nth (tbl h).J J).j:=dA.2 ⟨c,r,D.symm⟩;obtain⟨z,hz⟩:=List.length_eq_one_iff.1 d;rw[hz]at R S;simp only[I1]at R S;have:=G.dis _ (am n) _ (am F) k Q;omega
theorem tG(h:ab):kh h=dM h:=by
 unfold kh dM lV;cases d:a8 h.G with
 | false=>rfl
 | true=>
  cases e:b8 (dC h) h.w with
  | false=>rfl
  | true=>
   cases a:bm h.K h.M with
   | false=>rfl
   | true=>
    cases b:pages0 h with
    | false=>rfl
    | true=>
     rw[zO a b];cases c:eX h with
     | false=>simp
     | true=>
      have:=HO a c;rw[<-this];cases nU h<;>cases dt h<;>cases lG h<;>cases h.S.all bp<;>cases cn h<;>cases iL h<;>cases u9 h<;>rfl
def ovl(y r:aA):Bool:=decide (y.At<r.At+r.b0/\r.At<y.At+y.b0)
def mq(r:aA):List aA->Bool->Option (List aA)
 | [],put=>some (if put then [] else [r])
 | y::a,put=>if ovl y r then none else if !put&&decide (y.At > r.At) then(mq r a true).map λt=>r::y::t else(mq r a put).map λt=>y::t
def dq(out:List aA):List aA->List aA
 | []=>out
 | y::ys=>match out.getLast? with
  | some z=>if z.At+z.b0=y.At then dq (out.dropLast++[⟨z.At,z.b0+y.b0⟩]) ys else dq (out++[y]) ys
  | none=>dq (out++[y]) ys
def jQ:List aA->aA->List aA->Bool->Option (List aA)
 | [],r,out,done=>some (if done then out else out++[r])
 | y::ys,r,out,done=>
  if ovl y r then none
  else if y.At+y.b0=r.At then jQ ys ⟨y.At,y.b0+r.b0⟩ out done
  else if r.At+r.b0=y.At then jQ ys ⟨r.At,r.b0+y.b0⟩ out done
  else if y.At > r.At/\done=false then jQ ys r (out++[r,y]) true
  else jQ ys r (out++[y]) done
def pf(xs:List aA):Prop:=xs.Pairwise (λa b=>a.At+a.b0<b.At)/\∀y∈xs,1<=y.b0
theorem pf.tail{y:aA}{a:List aA}(h:pf (y::a)):pf a:=⟨(List.pairwise_cons.1 h.1).2,λz b=>h.2 z (W4 _ b)⟩
theorem pf.head{y:aA}{a:List aA}(h:pf (y::a)):∀z∈a,y.At+y.b0<z.At:=(List.pairwise_cons.1 h.1).1
theorem jm:∀(a out:List aA),pf a->(∀z,out.getLast? = some z->∀y∈a,z.At+z.b0≠y.At)->dq out a=out++a
 | [],out,_,_=>by simp[dq]
 | y::a,out,d,e=>by
  have b:dq (out++[y]) a=out++y::a:=by
   rw[jm a (out++[y]) d.tail λz c w f=>by
     simp at c;subst c;have:=d.head w f;omega]
   simp
  unfold dq;split
  ·rename_i z c
   rw[C8 (e z c y (U1 ..))];exact b
  exact b
theorem wh{r:aA} : ∀{a:List aA},pf a->(∀y∈a,r.At+r.b0<=y.At)->mq r a true=some a
 | [],_,_=>rfl
 | y::a,c,b=>by
  have e:=b y (U1 ..);unfold mq;rw[C8 (by unfold ovl;rw[C0];omega)];simp only[Bool.not_true,Bool.false_and,Bool.false_eq_true,if_false];rw[wh c.tail λz d=>b z (W4 _ d)]
  rfl
theorem uE{r:aA}(h1:1<=r.b0){a:List aA}(c:pf a)(b:∀y∈a,r.At+r.b0<=y.At):mq r a false=some (r::a):=by
 cases a with
 | nil=>rfl
 | cons y a=>
  have e:=b y (U1 ..);unfold mq;rw[C8 (by unfold ovl;rw[C0];omega),C9 (by simp;omega),wh c.tail λz d=>b z (W4 _ d)]
  rfl
theorem p6{r:aA} : ∀{a out:List aA},pf a->1<=r.b0->(∀y∈a,r.At+r.b0<y.At)->jQ a r out true=some (out++a)
 | [],out,_,_,_=>by simp[jQ]
 | y::a,out,b,d,c=>by
  have f:=c y (U1 ..);have g:=b.2 y (U1 ..);unfold jQ;rw[C8 (by unfold ovl;rw[C0];omega),C8 ω,C8 ω,C8 (by simp),p6 b.tail d λz e=>c z (W4 _ e)];simp
theorem wu{r:aA}(h1:1<=r.b0){a out:List aA}(b:pf a)(c:∀y∈a,r.At+r.b0<=y.At):jQ a r out false=some (out++match a with|[]=>[r]|y::zs=>if r.At+r.b0=y.At then⟨r.At,r.b0+y.b0⟩::zs else r::y::zs):=by
 cases a with
 | nil=>simp[jQ]
 | cons y a=>
  have g:=c y (U1 ..);have h:=b.2 y (U1 ..);unfold jQ;rw[C8 (by unfold ovl;rw[C0];omega),C8 ω];by_cases e:r.At+r.b0=y.At
  ·rw[C9 e]
   simp only[e,if_true];cases a with
   | nil=>simp[jQ]
   | cons z a=>
    have i:=b.head z (U1 ..);have j:=b.tail.2 z (U1 ..);unfold jQ;simp only;rw[C8 (by unfold ovl;rw[C0];simp only;omega),C8 ω,C8 ω,C9 (by simp;omega),p6 b.tail.tail (by simp only;omega) λw d=>by
      have:=b.tail.head w d;simp only;omega]
    simp
  rw[C8 e,C9 (by simp;omega),p6 b.tail h1 λz f=>by have:=b.head z f;omega];simp[e]
theorem zR{pages:Int} : ∀{b:List aA}{r:aA}{out:List aA},pf b->1<=r.b0->(∀z,out.getLast? = some z->(∀y∈b,z.At+z.b0<y.At)/\z.At+z.b0<r.At)->(mq r b false).map (dq out)=jQ b r out false
 | [],r,out,_,j,u=>by
  show some (dq out [r])=some (out++[r]);rw[jm [r] out ⟨List.pairwise_singleton ..,λy B=>by rw[I1.1 B];exact j⟩ λz d y B=>by rw[I1.1 B];have:=(u z d).2;omega]
 | y::b,r,out,c,j,u=>by
  have L:=c.2 y (U1 ..);by_cases l:ovl y r=true
  ·unfold mq jQ
   rw[C9 l,C9 l];rfl
  ·have n:=l
   unfold ovl at n;rw[C0]at n;by_cases C:r.At+r.b0<=y.At
   ·-- all to the right
    have f:∀w∈y::b,r.At+r.b0<=w.At:=λw a=>by
     rcases List.mem_cons.1 a with rfl|a
     ·exact C
     have:=c.head w a;omega
    rw[uE j c f,wu j c f];show some (dq out (r::y::b))=_;have hfirst:dq out (r::y::b)=dq (out++[r]) (y::b):=by
     conv=>lhs;unfold dq
     split
     ·rename_i z d;rw[C8 (by have:=(u z d).2;omega)]
     rfl
    rw[hfirst];by_cases e:r.At+r.b0=y.At
    ·have:dq (out++[r]) (y::b)=dq (out++[⟨r.At,r.b0+y.b0⟩]) b:=by
      conv=>lhs;unfold dq
      simp[e]
     rw[this,jm b _ c.tail λz d w a=>by
       simp at d;subst d;have:=c.head w a;simp only;omega]
     simp[e]
    rw[jm (y::b) (out++[r]) c λz d w a=>by
      simp at d;subst d;rcases List.mem_cons.1 a with rfl|a
      · exact e
      have:=c.head w a;omega]
    simp[e]
   have F:y.At+y.b0<=r.At:=ω
   have i:∀t,dq out (y::t)=dq (out++[y]) t:=λt=>by
    conv=>lhs;unfold dq
    split
    ·rename_i z d;rw[C8 (by have:=(u z d).1 y (U1 ..);omega)]
    rfl
   have G:(mq r (y::b) false).map (dq out)=(mq r b false).map (dq (out++[y])):=by
    conv=>lhs;unfold mq
    rw[C8 l,C8 (by simp;omega),Option.map_map]
    congr 1
    funext t
    exact i t
   rw[G];unfold jQ;rw[C8 l];by_cases e:y.At+y.b0=r.At
   ·rw[C9 e]
    by_cases o:∃w,b.head? = some w/\ovl w r=true
    ·obtain⟨w,a,p⟩:=o
     cases b with
     | nil=>cases a
     | cons g k=>
      obtain rfl:g=w:=by simpa using a
      have H:=c.head g (U1 ..);have J:=c.tail.2 g (U1 ..);have q:=p;unfold ovl at q;rw[C0]at q;unfold mq jQ;rw[C9 p,C9 (by unfold ovl;rw[C0];simp only;omega)]
      rfl
    have f:∀w∈b,r.At+r.b0<=w.At:=by
     cases b with
     | nil=>intro w a;cases a
     | cons g k=>
      have H:=c.head g (U1 ..);have J:=c.tail.2 g (U1 ..);have E:¬ovl g r=true:=λh=>o ⟨g,rfl,h⟩
      unfold ovl at E;rw[C0]at E;intro w a;rcases List.mem_cons.1 a with rfl|a
      ·omega
      have:=c.tail.head w a;omega
    rw[uE j c.tail f,wu (r:=⟨y.At,y.b0+r.b0⟩) (by simp only;omega) c.tail λw a=>by have:=f w a;simp only;omega];show some (dq (out++[y]) (r::b))=_;have K:dq (out++[y]) (r::b)=dq (out++[⟨y.At,y.b0+r.b0⟩]) b:=by
     conv=>lhs;unfold dq
     simp[e]
    rw[K];cases b with
    | nil=>simp[dq]
    | cons g k=>
     by_cases A:y.At+(y.b0+r.b0)=g.At
     ·have D:dq (out++[⟨y.At,y.b0+r.b0⟩]) (g::k)=dq (out++[⟨y.At,y.b0+r.b0+g.b0⟩]) k:=by
       conv=>lhs;unfold dq
       simp[A]
      rw[D,jm k _ c.tail.tail λz d w a=>by
        simp at d;subst d;have:=c.tail.head w a;simp only;omega]
      simp[A]
     rw[jm (g::k) _ c.tail λz d w a=>by
       simp at d;subst d;simp only;rcases List.mem_cons.1 a with rfl|a
       · exact A
       have:=c.tail.head w a;have:=f g (U1 ..);have:=c.tail.2 g (U1 ..);omega]
     simp[A]
   rw[C8 e,C8 ω,C8 ω];exact zR (pages:=pages) c.tail j λz d=>by
    simp at d;subst d;exact⟨c.head,ω⟩
def gP(k:ah)(f:Int):ah:=if(pagesOn k.F.R f).length=0 then {k with F:=⟨⟨k.F.W.T.set f.toNat (List.replicate 16 0),k.F.W.a5.set f.toNat false⟩,k.F.R⟩} else k
def pT(k:ah)(p:Int):ah:={k with F:=⟨k.F.W,⟨k.F.R.J.set p.toNat ⟨0,0⟩⟩⟩}
def dR(k:ah)(p:Int):ah:=if(ac k.F.R p).e=0 then k else gP (pT k p) (ac k.F.R p).j
theorem bB{α:Type}[Inhabited α](xs:List α)(i j:Nat)(x:α):nth (xs.set i x) j=if i=j/\j<xs.length then x else nth xs j:=by
 unfold nth;rw[O2,O2,U3];by_cases h:i=j
 ·subst h
  by_cases a:i<xs.length
  ·simp[a]
  simp[a]
 simp[h]
theorem mA(k:ah)(f:Int):(gP k f).F.R=k.F.R/\(gP k f).Calls=k.Calls/\(gP k f).y=k.y/\(gP k f).F.W.T.length=k.F.W.T.length/\(gP k f).F.W.a5.length=k.F.W.a5.length:=by
 unfold gP;split<;>simp
theorem lz(k:ah)(p:Int):(dR k p).F.R.J.length=k.F.R.J.length/\(dR k p).Calls=k.Calls/\(dR k p).y=k.y:=by
 unfold dR;split
 ·exact⟨rfl,rfl,rfl⟩
 obtain⟨a,b,c,-⟩:=mA (pT k p) (ac k.F.R p).j;rw[a,b,c];simp[pT]
theorem aE{k:ah} : a8 k=true↔(∀j,j<k.y.length->0<=nth k.y j)/\cU k.F.W=true/\gf k.F.R k.F.W.a5.length=true/\(∀j,j<k.F.W.a5.length->nth k.F.W.a5 j=decide (0<(pagesOn k.F.R (j:Int)).length))/\0<=k.Calls/\k.Calls<=100000/\k.y.length<=40:=by
 unfold a8 dz;simp only[I0,cz,C0,pd,beq_iff_eq,and_assoc]
theorem aX{f:aV} : cU f=true↔1<=f.T.length/\f.T.length<=32/\f.a5.length=f.T.length/\∀j,j<f.T.length->gM (nth f.T j) (nth f.a5 j)=true:=by
 unfold cU;simp only[I0,C0,W3,and_assoc];refine and_congr Iff.rfl (and_congr Iff.rfl (and_congr_right λe=>⟨λh j a=>?_,λh q c=>?_⟩))
 ·exact h _ (V1 (vF (ao a) (ao ω)))
 obtain⟨j,a⟩:=List.mem_iff_getElem?.1 c;obtain⟨b,d⟩:=List.getElem?_zip_eq_some.1 a;have:=h j (C2.1 b).1
 rwa [bj b,bj d]at this
theorem bv{t:aI}{a:Int} : gf t a=true↔(∀j,j<t.J.length->kj a (nth t.J j)=true)/\1<=t.J.length/\t.J.length<=32:=by
 unfold gf;simp only[I0,cz,C0]
theorem dS{t:aI}{f:Int} : 0<(pagesOn t f).length↔∃q,q<t.J.length/\(nth t.J q).e≠0/\(nth t.J q).j=f:=by
 unfold pagesOn jI;rw[Z0,List.length_pos_iff_exists_mem];simp[JR]
theorem ce{k:ah}{p:Int}(h:a8 k=true)(b:(ac k.F.R p).e≠0):0<=p/\p<k.F.R.J.length/\ac k.F.R p=nth k.F.R.J p.toNat/\0<=(ac k.F.R p).j/\(ac k.F.R p).j<k.F.W.a5.length:=by
 obtain⟨-,-,c,-⟩:=aE.1 h;have a:0<=p/\p<k.F.R.J.length:=by
  by_cases a:0<=p/\p<k.F.R.J.length
  ·exact a
  unfold ac at b;rw[C8 a]at b;exact absurd rfl b
 have d:ac k.F.R p=nth k.F.R.J p.toNat:=by unfold ac;rw[C9 a]
 have:=(bv.1 c).1 p.toNat ω;rw[d]at b |-;unfold kj at this;rw[C0]at this;exact⟨a.1,a.2,rfl,this.2.2.2 b⟩
theorem wR{k:ah}(p:Int)(h:a8 k=true):a8 (dR k p)=true:=by
 unfold dR;split
 ·exact h
 rename_i t;obtain⟨E,F,G,l,n⟩:=ce h t;obtain⟨u,w,H,y,A,B,C⟩:=aE.1 h;obtain⟨J,K,L,M⟩:=aX.1 w;obtain⟨N,O,P⟩:=bv.1 H;rw[G]at t l n |-;generalize Q:(nth k.F.R.J p.toNat).j=f at l n;have g:∀q,nth (k.F.R.J.set p.toNat ⟨0,0⟩) q=if p.toNat=q then⟨0,0⟩ else nth k.F.R.J q:=λq=>by
  rw[bB];by_cases r:p.toNat=q
  ·rw[C9 ⟨r,ω⟩,C9 r]
  rw[C8 (λe=>r e.1),C8 r]
 have b:∀j:Int,0<(pagesOn (⟨k.F.R.J.set p.toNat ⟨0,0⟩⟩ : aI) j).length↔∃q,q<k.F.R.J.length/\q≠p.toNat/\(nth k.F.R.J q).e≠0/\(nth k.F.R.J q).j=j:=λj=>by
  rw[dS];simp only[O1,g]
  grind
 have c:∀j:Int,0<(pagesOn k.F.R j).length↔∃q,q<k.F.R.J.length/\(nth k.F.R.J q).e≠0/\(nth k.F.R.J q).j=j:=λj=>dS
 have i:gf ⟨k.F.R.J.set p.toNat ⟨0,0⟩⟩ k.F.W.a5.length=true:=by
  rw[bv];simp only[O1,g];refine⟨λj d=>?_,O,P⟩;split
  ·unfold kj;simp
  exact N j d
 unfold gP;split
 ·rename_i o
  rw[aE];simp only[pT,O1]at o |-;refine⟨u,?_,i,λj d=>?_,A,B,C⟩
  ·rw[aX]
   simp only[O1,bB];refine⟨J,K,L,λj d=>?_⟩;by_cases a:f.toNat=j
   ·rw[C9 ⟨a,d⟩,C9 ⟨a,ω⟩];decide
   rw[C8 (λe=>a e.1),C8 (λe=>a e.1)];exact M j d
  rw[bB];by_cases a:f.toNat=j
  ·rw[C9 ⟨a,d⟩]
   have:(j:Int)=f:=ω
   rw[this];exact(T0 λR=>absurd o (Nat.ne_of_gt R)).symm
  rw[C8 (λe=>a e.1),y j d];refine decide_eq_decide.2 ?_;rw[c,b]
  grind
 rename_i o;rw[aE];simp only[pT]at o |-;refine⟨u,w,i,λj d=>?_,A,B,C⟩;rw[y j d];refine decide_eq_decide.2 ?_;by_cases a:f=j
 ·have D:0<(pagesOn (⟨k.F.R.J.set p.toNat ⟨0,0⟩⟩ : aI) j).length:=by rw[<-a];exact Nat.pos_of_ne_zero o
  have:=(b j).1 D;constructor
  ·intro _;exact D
  intro _;rw[c];grind
 rw[c,b];grind
theorem bP{k:ah}(h:a8 k=true):ah.sml k:=by
 obtain⟨g,b,c,i,l,n,o⟩:=aE.1 h;obtain⟨p,q,t,d⟩:=aX.1 b;obtain⟨u,w,y⟩:=bv.1 c;refine⟨⟨⟨⟨ω,λr f=>?_⟩,(by omega:_<=1048576)⟩,⟨ω,λe _=>trivial⟩⟩,(by omega:_<=1048576)⟩;obtain⟨j,a⟩:=List.mem_iff_getElem?.1 f;have:=d j (C2.1 a).1;rw[bj a]at this;unfold gM at this;simp only[I0,C0]at this;show r.length<=1048576;omega
theorem Ap.cp{α:Type}{e:α->List C}{xs:List α}{sz by_:Nat}{K:List (List C)->Prop}(b:∀x,(e x).length=sz)(c:∀x,aW (e x)=true)(d:xs.length<=1048576)(f:by_<=1000)(g:K (xs.map e)):Ap true [] (xs.map e) sz by_ K:=
 CT (λr a=>by cases a) (λr a=>by obtain⟨y,-,rfl⟩:=t4.1 a;exact b y) (λ_ r a=>by obtain⟨y,-,rfl⟩:=t4.1 a;exact c y) (by simp;omega) (by simp only[Z0,List.length_nil,X5];exact xY d f) rfl g
theorem CS:type_of% @Ap.cp:=@Ap.cp
theorem Fl.cp{α:Type}{e:α->List C}{xs:List α}{sz by_:Nat}{X:Prop}(a:∀x,(e x).length=sz)(b:∀x,aW (e x)=true)(c:xs.length<=1048576)(d:by_<=1000)(f:X):Fl (xs.map e) sz by_ X:=
 Fl.mk (λr g=>by obtain⟨y,-,rfl⟩:=t4.1 g;exact⟨a y,b y⟩) (by simp;omega) (by simp only[Z0];exact xY c d) f
theorem CV:type_of% @Fl.cp:=@Fl.cp
theorem Ap.sn{rows b:List (List C)}{r:List C}{sz by_:Nat}{K:List (List C)->Prop}(h1:∀r∈rows,r.length=sz)(c:r.length=sz)(d:rows.length+1<=1048576)(e:by_<=1000)(a:b=rows++[r])(f:K b):Ap false rows [r] sz by_ K:=
 CT h1 (λg a=>by rw[I1.1 a];exact c) (λh=>by cases h) (by simp;omega) (xY (by simpa using d) e) a f
theorem yP(xs:List Int)(a:xs.length<=1048576):ar Tryz.prog 211 false [.val none (aG .V xs)] .one (aG .own xs):=by
 refine fO 6 [] Tryz.func211 rfl ?_ (.inr (bM _))
 repeat'(first|refine gO ?_|(conv=>whnf);first|refine CS (λ_=>rfl) (λ_=>rfl) a (by decide) ?_)
 rfl
theorem BD(t:aI)(a:aI.sml t):ar Tryz.prog 471 false [.val (some 1) (aI.enc .V t)] .agg (aI.enc .own t):=by
 have b:=a.1;refine fO 8 [] Tryz.func471 rfl ?_ (.inr (aI.enc_fr _))
 repeat'(first|refine gO ?_|(conv=>whnf);first|refine CS (λ_=>rfl) (λ_=>rfl) b (by decide) ?_)
 rfl
theorem aT{α:Type}{e:α->List C}{l:List α}{n:Nat}(h:∀x,(e x).length=n):∀r∈l.map e,r.length=n:=λr a=>by
 obtain⟨y,-,rfl⟩:=t4.1 a;exact h y
theorem kJ{α β:Type}[Inhabited α]{xs:List α}{f:α->β}{i:Nat}(a:i<xs.length):(xs.take (i+1)).map f=(xs.take i).map f++[f (nth xs i)]:=by
 rw[Y4,ao a];simp
theorem A8(f:aV)(a:aV.sml f):ar Tryz.prog 470 false [.val (some 2) (aV.enc .V f)] .agg (aV.enc .own f):=by
 have g:=a.1.1;have d:f.a5.length<=1048576:=a.2;refine fO 30 [(5,10,[17,18,19,20,21,22,23,24,25,26])] Tryz.func470 rfl ?_ (.inr (aV.enc_fr _))
 repeat'(first|refine gO ?_|(conv=>whnf);first|refine CS (λ_=>rfl) (λ_=>rfl) d (by decide) ?_)
 (conv=>whnf)
 refine CF (ι:=Nat) (λi=>[(1,.H .box (aV.enc .V f)),(2,.H .box [.z,.z]),(3,.H .box [.s .own ((f.T.take i).map (aG .own)),.s .own (f.a5.map (rB .own))]),(4,.H .one [I ((i:Nat):Int)])]) (λi=>i<=f.T.length) (λi=>f.T.length - i) (0) ?_ (U0 _) λi h=>?_
 ·exact wB
 by_cases b:i<f.T.length
 ·have e:=ao b
  have c:(nth f.T i).length<=1048576:=a.1.2 _ (am b)
  repeat'(first|refine gD ?_|(conv=>whnf);first|with_reducible refine CD (aa e) ?_|refine CV (λ_=>rfl) (λ_=>rfl) c (by decide) ?_|refine Ap.sn (aT λ_=>rfl) rfl (by simp;omega) (by decide) (kJ b) ?_)
  ((conv=>whnf);refine CE (i+1) ω ω ?_;(exact wB))
 repeat'(first|refine gD ?_|fail)
 obtain rfl:i=f.T.length:=ω
 rw[U4]
 rfl
theorem sB(m:aU)(a:aU.sml m):ar Tryz.prog 363 false [.val (some 3) (aU.enc .V m)] .agg (aU.enc .own m):=by
 refine fO 10 [(1,5,[3,4,5,6,7])] Tryz.func363 rfl ?_ (.inr (aU.enc_fr _))
 repeat'(first|refine gO ?_|(conv=>whnf);first|refine C7 (A8 m.W a.1) ?_|refine C7 (BD m.R a.2) ?_)
 rfl
theorem A4(k:ah)(a:ah.sml k):ar Tryz.prog 218 false [.val (some 5) (ah.enc .V k)] .agg (ah.enc .own k):=by
 have b:k.y.length<=1048576:=a.2;refine fO 13 [(1,9,[3,4,5,6,7,8,9,10,11])] Tryz.func218 rfl ?_ (.inr (ah.enc_fr _))
 repeat'(first|refine gO ?_|(conv=>whnf);first|refine C7 (sB k.F a.1) ?_|refine CV (λ_=>rfl) (λ_=>rfl) b (by decide) ?_)
 rfl
theorem eU(k:ah)(p:Int)(a:aI.sml k.F.R):ar Tryz.prog 488 false [.ptr (ah.enc .V k),.val none [I p]] .one [I (ac k.F.R p).e]:=by
 refine fO 13 [] Tryz.func488 rfl ?_
 repeat'(first|refine gO ?_|(conv=>whnf);first|refine C7 (dl k.F.R p a) ?_)
 rfl
theorem lP(k:ah)(b:ah.sml k):ar Tryz.prog 455 false [.val (some 5) (ah.enc .V k)] .one [B (a8 k&&decide (k.Calls<100000))]:=by
 have a:=lU k b;cases e:a8 k<;>rw[e]at a
 ·refine fO 10 [] Tryz.func455 rfl ?_
  repeat'(first|refine gO ?_|(conv=>whnf);first|with_reducible refine Bf.D (λc=>?_) (λc=>?_)|refine C7 (a) ?_)
  all_goals rfl
 refine fO 10 [] Tryz.func455 rfl ?_
 repeat'(first|refine gO ?_|(conv=>whnf);first|refine C7 (a) ?_)
 all_goals rfl
theorem yV{k:ah}{f:Int}(h:(pagesOn k.F.R f).length=0):ah.enc .own (gP k f)=[.s .own ((k.F.W.T.map (aG .own)).set f.toNat (aG .own (List.replicate 16 0))),.s .own ((k.F.W.a5.map (rB .own)).set f.toNat (rB .own false)),.s .own (k.F.R.J.map (bi.enc .own)),I k.Calls,.s .own (k.y.map (rI .own))]:=by
 unfold gP;rw[C9 h];simp only[ah.enc,I5]
theorem BZ{k:ah}{f:Int}(h:¬(pagesOn k.F.R f).length=0):ah.enc .own (gP k f)=ah.enc .own k:=by
 unfold gP;rw[C8 h]
theorem Bm(k:ah)(f:Int)(a:aI.sml k.F.R)(b:0<=f/\f<k.F.W.T.length/\f<k.F.W.a5.length) :
  aS Tryz.prog 489 false [.ptr (ah.enc .own k),.val none [I f]] [.ptr (ah.enc .own (gP k f)),.val none [I f]] (.tup []) []:=by
 have c:=ao (xs:=k.F.W.T) (i:=f.toNat) ω;have d:=ao (xs:=k.F.W.a5) (i:=f.toNat) ω;by_cases e:(pagesOn k.F.R f).length=0
 ·rw[yV e]
  refine fM 30 [] [(2,8,[21,22,23,24,25,26,27,28])] [(0,0),(0,0)] Tryz.func489 rfl (λu q=>?_) (.inr trivial)
  repeat'(first|refine gA ?_|(conv=>whnf);first|with_reducible (first|refine CN b.1 (aa d) ?_|refine CN b.1 (aa c) ?_)|refine CH (gB k.F.R f a) ⟨⟨rfl,CZ k.F.R⟩,⟨rfl,rfl⟩,trivial⟩ ?_|refine CP rfl rfl (aa c) rfl (C1 rfl) rfl ?_|refine CP rfl rfl (aa d) rfl (C1 rfl) rfl ?_|refine Mk.mk 16 rfl rfl (by decide) (by decide) rfl ?_)
  refine CG rfl rfl ?_;exact wB
 rw[BZ e];refine fM 30 [] [(2,8,[21,22,23,24,25,26,27,28])] [(0,0),(0,0)] Tryz.func489 rfl (λu q=>?_) (.inr trivial)
 repeat'(first|refine gA ?_|(conv=>whnf);first|refine CH (gB k.F.R f a) ⟨⟨rfl,CZ k.F.R⟩,⟨rfl,rfl⟩,trivial⟩ ?_)
 refine CG rfl rfl ?_;exact wB
theorem Mi(k:ah)(p:Int):ah.enc .own (pT k p)=[.s .own (k.F.W.T.map (aG .own)),.s .own (k.F.W.a5.map (rB .own)),.s .own ((k.F.R.J.map (bi.enc .own)).set p.toNat (bi.enc .own ⟨0,0⟩)),I k.Calls,.s .own (k.y.map (rI .own))]:=by
 unfold pT;simp only[ah.enc,I5]
theorem Ma{k:ah}{p:Int}(h:a8 k=true):aI.sml (pT k p).F.R:=by
 obtain⟨a,b,c⟩:=bv.1 (aE.1 h).2.2.1;exact⟨by simp only[pT,O1];omega,λ_ _=>trivial⟩
theorem m7{h:ab}(a:dM h=true):a8 h.G=true/\bm h.K h.M=true/\pages0 h=true/\rF h=true/\bI h.q=true/\(h.S.all bp=true/\h.S.length=h.q.U.length)/\fE h.a9=true/\eX h=true/\gF h=true/\(holders h).Nodup/\(holders h).length=(ix h.K h.M).length:=by
 unfold dM lV dt iL at a;simp only[I0,C0]at a;obtain⟨⟨⟨⟨⟨⟨⟨⟨⟨⟨b,-⟩,c⟩,d⟩,e⟩,⟨⟨f,g⟩,i⟩⟩,-⟩,j⟩,-⟩,k,⟨k10,k11⟩,k12⟩,-⟩:=a;exact⟨b,c,d,e,f,⟨j,g⟩,i,k,k10,k11,k12⟩
def fV(n:Nat):aV:=⟨List.replicate n (List.replicate 16 0),List.replicate n false⟩
def eK(n:Nat):aI:=⟨List.replicate n ⟨0,0⟩⟩
def bH(p f:Nat)(a:List Int):ah:=⟨⟨fV f,eK p⟩,0,a⟩
def fo:aD:=⟨List.replicate 4 []⟩
def dU(n:Nat):aL:=⟨List.replicate n [],List.replicate n []⟩
def newHeap(p f t:Nat)(lim:Int)(a:List Int):ab:=⟨bH p f a,[⟨0,p⟩],[],[],[],List.replicate t fo,dU t,⟨16,[]⟩,0,0,lim,1,false,⟨⟨0,0,[]⟩,0,0⟩⟩
theorem cL{α:Type}[Inhabited α]{n j:Nat}{y:α}(a:j<n):nth (List.replicate n y) j=y:=bj (by rw[List.getElem?_replicate,C9 a])
theorem Lt(n:Nat)(f:Int):pagesOn (eK n) f=[]:=by
 unfold pagesOn jI;rw[List.map_eq_nil_iff,List.filter_eq_nil_iff];intro i b;have a:i<n:=by simpa[eK] using b
 unfold JR;rw[show nth (eK n).J i = ⟨0,0⟩ from cL a];simp
theorem Bh{p f:Nat}(c:1<=p/\p<=32)(d:1<=f/\f<=32):a8 (bH p f [])=true:=by
 rw[aE];refine⟨λj b=>by simp[bH]at b,aX.2 ⟨by simp[bH,fV];omega,by simp[bH,fV];omega,by simp[bH,fV],λj b=>?_⟩,bv.2 ⟨λj b=>?_,by simp[bH,eK];omega,by simp[bH,eK];omega⟩,λj b=>?_,by simp[bH],by simp[bH],by simp[bH]⟩
 ·have a:j<f:=by simpa[bH,fV] using b
  rw[show nth (bH p f []).F.W.T j=List.replicate 16 0 from cL a,show nth (bH p f []).F.W.a5 j=false from cL a]
  decide
 ·have a:j<p:=by simpa[bH,eK] using b
  rw[show nth (bH p f []).F.R.J j = ⟨0,0⟩ from cL a];unfold kj;rw[C0];exact⟨by decide,by decide,λ_=>rfl,λh=>absurd rfl h⟩
 have a:j<f:=by simpa[bH,fV] using b
 rw[show nth (bH p f []).F.W.a5 j=false from cL a,show(bH p f []).F.R=eK p from rfl,Lt]
 rfl
theorem iS(c:aD)(d:aD.sml c):ar Tryz.prog 219 false [.val (some 1) (aD.enc .V c)] .agg (aD.enc .own c):=by
 have g:=d.1;refine fO 26 [(5,10,[13,14,15,16,17,18,19,20,21,22])] Tryz.func219 rfl ?_ (.inr (aD.enc_fr _))
 repeat'(first|refine gO ?_|fail)
 (conv=>whnf)
 refine CF (ι:=Nat) (λi=>[(1,.H .box (aD.enc .V c)),(2,.H .box [.z]),(3,.H .box [.s .own ((c.b.take i).map (aG .own))]),(4,.H .one [I ((i:Nat):Int)])]) (λi=>i<=c.b.length) (λi=>c.b.length - i) (0) ?_ (U0 _) λi h=>?_
 ·exact wB
 by_cases a:i<c.b.length
 ·have e:=ao a
  have b:(nth c.b i).length<=1048576:=d.2 _ (am a)
  repeat'(first|refine gD ?_|(conv=>whnf);first|with_reducible refine CD (aa e) ?_|refine CV (λ_=>rfl) (λ_=>rfl) b (by decide) ?_|refine Ap.sn (aT λ_=>rfl) rfl (by simp;omega) (by decide) (kJ a) ?_)
  ((conv=>whnf);refine CE (i+1) ω ω ?_;(exact wB))
 repeat'(first|refine gD ?_|fail)
 obtain rfl:i=c.b.length:=ω
 rw[U4]
 rfl
theorem fG(m:aL)(b:aL.sml m):ar Tryz.prog 220 false [.val (some 2) (aL.enc .V m)] .agg (aL.enc .own m):=by
 have h:=b.1.1;have g:=b.2.1;refine fO 46 [(5,10,[14,15,16,17,18,19,20,21,22,23]),(9,10,[33,34,35,36,37,38,39,40,41,42])] Tryz.func220 rfl ?_ (.inr (aL.enc_fr _))
 repeat'(first|refine gO ?_|fail)
 (conv=>whnf)
 refine CF (ι:=Nat) (λi=>[(1,.H .box (aL.enc .V m)),(2,.H .box [.z,.z]),(3,.H .box [.s .own ((m.U.take i).map (dm .own)),.z]),(4,.H .one [I ((i:Nat):Int)])]) (λi=>i<=m.U.length) (λi=>m.U.length - i) (0) ?_ (U0 _) λi j=>?_
 ·exact wB
 by_cases c:i<m.U.length
 ·have d:=ao c
  have a:(nth m.U i).length<=1048576:=(b.1.2 _ (am c)).1
  repeat'(first|refine gD ?_|(conv=>whnf);first|with_reducible refine CD (aa d) ?_|refine CV (λ_=>rfl) (λ_=>rfl) a (by decide) ?_|refine Ap.sn (aT λ_=>rfl) rfl (by simp;omega) (by decide) (kJ c) ?_)
  ((conv=>whnf);refine CE (i+1) ω ω ?_;(exact wB))
 obtain rfl:i=m.U.length:=ω
 rw[U4]
 repeat'(first|refine gD ?_|fail)
 (conv=>whnf)
 refine CF (ι:=Nat) (λk=>[(1,.H .box (aL.enc .V m)),(2,.H .box [.z,.z]),(3,.H .box [.s .own (m.U.map (dm .own)),.s .own ((m.a0.take k).map (aG .own))]),(5,.H .one [I ((k:Nat):Int)])]) (λk=>k<=m.a0.length) (λk=>m.a0.length - k) (0) ?_ (U0 _) λk l=>?_
 ·exact wB
 by_cases e:k<m.a0.length
 ·have d:=ao e
  have a:(nth m.a0 k).length<=1048576:=b.2.2 _ (am e)
  repeat'(first|refine gD ?_|(conv=>whnf);first|with_reducible refine CD (aa d) ?_|refine CV (λ_=>rfl) (λ_=>rfl) a (by decide) ?_|refine Ap.sn (aT λ_=>rfl) rfl (by simp;omega) (by decide) (kJ e) ?_)
  ((conv=>whnf);refine CE (k+1) ω ω ?_;(exact wB))
 repeat'(first|refine gD ?_|fail)
 obtain rfl:k=m.a0.length:=ω
 rw[U4]
 rfl
theorem sg(q:bR)(b:bR.sml q):ar Tryz.prog 221 false [.val (some 2) (bR.enc .V q)] .agg (bR.enc .own q):=by
 have a:q.a6.length<=1048576:=b.1;refine fO 10 [(1,6,[3,4,5,6,7,8])] Tryz.func221 rfl ?_ (.inr (bR.enc_fr _))
 repeat'(first|refine gO ?_|(conv=>whnf);first|refine CV (λ_=>rfl) (λ_=>rfl) a (by decide) ?_|refine CS (λ_=>rfl) (λ_=>rfl) a (by decide) ?_)
 rfl
theorem sK(j:cM)(a:cM.sml j):ar Tryz.prog 222 false [.val (some 5) (cM.enc .V j)] .agg (cM.enc .own j):=by
 have b:j.X.T.length<=1048576:=a;refine fO 11 [] Tryz.func222 rfl ?_ (.inr (cM.enc_fr _))
 repeat'(first|refine gO ?_|(conv=>whnf);first|refine CS (λ_=>rfl) (λ_=>rfl) b (by decide) ?_)
 rfl
def Rh(h:ab)(a:C):List C:=[.s .own (h.G.F.W.T.map (aG .own)),.s .own (h.G.F.W.a5.map (rB .own)),.s .own (h.G.F.R.J.map (bi.enc .own)),I h.G.Calls,.s .own (h.G.y.map (rI .own)),.s .own (h.w.map (aA.enc .own)),.s .own (h.K.map (ax.enc .own)),.s .own (h.M.map (a7.enc .own)),.s .own (h.O.map (bz.enc .own)),a,.s .V (h.q.U.map (dm .V)),.s .V (h.q.a0.map (aG .V)),I h.a9.c1,.s .V (h.a9.a6.map (aO.enc .V)),I h.c0,I h.b3,I h.c3,I h.d,B h.u,I h.Z.X.a3,I h.Z.X.a1,.s .V (h.Z.X.T.map (rI .V)),I h.Z.b2,I h.Z.d]
def Q6:List C:=[.z,.z,.z,I 0,.z,.z,.z,.z,.z,.z,.z,.z,I 0,.z,I 0,I 0,I 0,I 0,B false,I 0,I 0,.z,I 0,I 0]
theorem A9(h:ab)(c:ab.sml h):ar Tryz.prog 69 false [.val (some 24) (ab.enc .V h)] .agg (ab.enc .own h):=by
 obtain⟨d,e,g,j,k,b,l,n,o⟩:=c;have p:=e.1;have q:=g.1;have r:=j.1;have t:=k.1;have w:=b.1;refine fO 61 [] Tryz.func69 rfl ?_ (.inr (ab.enc_fr _))
 repeat'(first|refine gO ?_|(conv=>whnf);first|refine C7 (A4 h.G d) ?_|refine CS (λ_=>rfl) (λ_=>rfl) p (by decide) ?_|refine CS (λ_=>rfl) (λ_=>rfl) q (by decide) ?_|refine CS (λ_=>rfl) (λ_=>rfl) r (by decide) ?_|refine CS (λ_=>rfl) (λ_=>rfl) t (by decide) ?_)
 (conv=>whnf)
 refine CF (ι:=Nat) (λi=>[(1,.H .box (Rh h (.s .V (h.S.map (aD.enc .V))))),(2,.H .box Q6),(3,.H .one ([.s .own ((h.S.take i).map (aD.enc .own))])),(4,.H .one [I ((i:Nat):Int)])]) (λi=>i<=h.S.length) (λi=>h.S.length - i) (0) ?_ (U0 _) λi y=>?_
 ·exact wB
 by_cases a:i<h.S.length
 ·have u:=ao a
  repeat'(first|refine gD ?_|(conv=>whnf);first|with_reducible refine CD (aa u) ?_|refine C7 (iS (nth h.S i) (b.2 _ (am a))) ?_|refine Ap.sn (aT λ_=>rfl) rfl (by simp;omega) (by decide) (kJ a) ?_)
  ((conv=>whnf);refine CE (i+1) ω ω ?_;(exact wB))
 obtain rfl:i=h.S.length:=ω
 rw[U4]
 repeat'(first|refine gD ?_|(conv=>whnf);first|refine C7 (fG h.q l) ?_|refine C7 (sg h.a9 n) ?_|refine C7 (sK h.Z o) ?_)
 rfl
theorem Ap.sm{rows b:List (List C)}{r:List C}{sz by_:Nat}{K:List (List C)->Prop}(h1:∀r∈rows,r.length=sz)(c:r.length=sz)(d:rows.length+1<=1073741824)(e:by_<=1000)(a:b=rows++[r])(f:K b):Ap false rows [r] sz by_ K:=
 CT h1 (λg a=>by rw[I1.1 a];exact c) (λh=>by cases h) (by simp;omega) (R4 (Nat.mul_le_mul (show rows.length+[r].length<=1073741824 by simpa using d) e) (by decide)) a f
theorem J9(y:aA)(a:List aA)(r:aA)(out:List aA)(done:Bool):jQ (y::a) r out done=if ovl y r then none
  else if y.At+y.b0=r.At then jQ a ⟨y.At,y.b0+r.b0⟩ out done
  else if r.At+r.b0=y.At then jQ a ⟨r.At,r.b0+y.b0⟩ out done
  else if y.At > r.At/\done=false then jQ a r (out++[r,y]) true
  else jQ a r (out++[y]) done:=by rw[jQ]
theorem Bl{pages:Int}{xs:List aA}(h:b8 pages xs=true):pf xs/\∀y∈xs,0<=y.At/\1<=y.b0/\y.At+y.b0<=pages:=by
 unfold b8 at h;simp only[I0,C0]at h;have b:∀i,i<xs.length->1<=(nth xs i).b0/\0<=(nth xs i).At/\(nth xs i).At<=pages - (nth xs i).b0:=λi a=>by
  have:=dL h.1 a;unfold gg rangeIn at this;simp only[I0,C0]at this;omega
 have d:∀i,i+1<xs.length->(nth xs i).At+(nth xs i).b0<(nth xs (i+1)).At:=λi a=>by
  have:=dL h.1 a;unfold gg at this;simp only[I0,C0]at this;have:=this.2.resolve_left ω;simpa using this
 have k:∀j i,i<j->j<xs.length->(nth xs i).At+(nth xs i).b0<(nth xs j).At:=λj=>by
  induction j with
  | zero=>intro i a;omega
  | succ j l=>
   intro i a c;have n:=d j c;by_cases e:i=j
   ·subst e;exact n
   have o:=l i ω ω;have p:=b j ω;omega
 refine⟨⟨?_,λy f=>?_⟩,λy f=>?_⟩
 ·rw[List.pairwise_iff_getElem]
  intro i j a c g;have:=k j i g c
  rwa [bj (Z1 a),bj (Z1 c)]at this
 ·obtain⟨i,a,rfl⟩:=aK f
  exact(b i a).1
 obtain⟨i,a,rfl⟩:=aK f;have:=b i a;omega
theorem jF{α:Type}[Inhabited α]{xs:List α}{i:Nat}(a:i<xs.length):xs.drop i=nth xs i::xs.drop (i+1):=by
 rw[List.drop_eq_getElem_cons a,bj (Z1 a)]
def dE(pages:Int)(xs:List aA)(r:aA):Option (List aA):=if b8 pages xs=true/\rangeIn pages r=true then jQ xs r [] false else none
def FZ(xs:List aA)(o:Option (List aA)):List C:=bQ .own (o.getD xs)++[B o.isSome]
theorem tg(xs:List aA)(o:Option (List aA)):gV (FZ xs o):=bf (oT _) ⟨trivial,trivial⟩
end Go.Proofs.YtecefhjnejfheaaGreat.Ab
