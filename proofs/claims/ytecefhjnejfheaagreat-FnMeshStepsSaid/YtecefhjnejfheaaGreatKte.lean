/- Classes of sizes, the quarantine, used frames, pages of a frame, spans on a page: contracts, the reference's and the program's. No condition. -/
import Derived.Test.YtecefhjnejfheaaGreatKtd
import Derived.Test.YtecefhjnejfheaaGreatKtShelf
import Derived.WalkKit
import Derived.Lib.SliceRun
set_option linter.unusedVariables false
set_option linter.unusedSimpArgs false
set_option linter.constructorNameAsVariable false
namespace Go.Proofs.YtecefhjnejfheaaGreat.Ab
open Go.RowKit
set_option maxRecDepth 20000
set_option maxHeartbeats 4000000
theorem vU(xs:List aQ)(pr:aQ->Bool)(g:xs.length<=9223372036854775807):ar Tryz.prog 541 false [.val none (cW .X xs),.fn (ou Tryz.prog (zC (some 3) (aQ.enc .X) pr xs))] .one [I (d9 pr xs)]:=by
 refine fO 19 [] Tryz.func541 rfl ?_
 repeat'(first|refine gO ?_|fail)
 (conv=>whnf)
 refine CE (ι:=Nat) (λi=>[(0,.H .one (cW .X xs)),(1,.fv (ou Tryz.prog (zC (some 3) (aQ.enc .X) pr xs))),(7,.H .one [I xs.length]),(8,.H .one [I (i:Nat)])]) (λi=>i<=xs.length/\∀(j:Nat)(z:aQ),j<i->xs[j]? = some z->pr z=false) (λi=>xs.length - i) 0 ?_ ⟨U0 _,λj z h=>ω⟩ λi d=>?_
 ·exact wB
 obtain⟨d,b⟩:=d;by_cases c:i<xs.length
 ·obtain⟨y,a⟩ : ∃y,xs[i]? = some y:=⟨_,C2 c⟩
  repeat'(first|refine gD ?_|(conv=>whnf);first|with_reducible refine CC (aa a) ?_|refine Fv.mk (k:=.one) (rcs:=[B (pr y)]) ⟨y,W1 a,rfl,rfl,rfl⟩ ?_|refine Bf.P (λe=>?_) (λe=>?_))
  ·exact W0 (λz=>[I z]) (dE a ‹_› b).symm
  (conv=>whnf)
  refine CD (i+1) ⟨ω,dv a (by assumption) b⟩ ω ?_;exact wB
 repeat'(first|refine gD ?_|fail)
 exact W0 (λz=>[I z]) (gk ω b).symm
theorem r9(xs:List aQ)(pr:aQ->Bool)(a:xs.length<=9223372036854775807):ar Tryz.prog 491 false [.val none (cW .X xs),.fn (ou Tryz.prog (zC (some 3) (aQ.enc .X) pr xs))] .one [B (xs.any pr)]:=by
 refine fO 9 [] Tryz.func491 rfl ?_
 repeat'(first|refine gO ?_|(conv=>whnf);refine C7 (vU xs pr a) ?_)
 exact W0 (λz=>[B z]) (jA pr xs)
theorem xZ(xs:List ax)(pr:ax->Bool)(g:xs.length<=9223372036854775807):ar Tryz.prog 252 false [.val none (bX .X xs),.fn (ou Tryz.prog (zC (some 3) (ax.enc .X) pr xs))] .one [I (d9 pr xs)]:=by
 refine fO 19 [] Tryz.func252 rfl ?_
 repeat'(first|refine gO ?_|fail)
 (conv=>whnf)
 refine CE (ι:=Nat) (λi=>[(0,.H .one (bX .X xs)),(1,.fv (ou Tryz.prog (zC (some 3) (ax.enc .X) pr xs))),(7,.H .one [I xs.length]),(8,.H .one [I (i:Nat)])]) (λi=>i<=xs.length/\∀(j:Nat)(z:ax),j<i->xs[j]? = some z->pr z=false) (λi=>xs.length - i) 0 ?_ ⟨U0 _,λj z h=>ω⟩ λi d=>?_
 ·exact wB
 obtain⟨d,b⟩:=d;by_cases c:i<xs.length
 ·obtain⟨y,a⟩ : ∃y,xs[i]? = some y:=⟨_,C2 c⟩
  repeat'(first|refine gD ?_|(conv=>whnf);first|with_reducible refine CC (aa a) ?_|refine Fv.mk (k:=.one) (rcs:=[B (pr y)]) ⟨y,W1 a,rfl,rfl,rfl⟩ ?_|refine Bf.P (λe=>?_) (λe=>?_))
  ·exact W0 (λz=>[I z]) (dE a ‹_› b).symm
  (conv=>whnf)
  refine CD (i+1) ⟨ω,dv a (by assumption) b⟩ ω ?_;exact wB
 repeat'(first|refine gD ?_|fail)
 exact W0 (λz=>[I z]) (gk ω b).symm
theorem qJ(xs:List bu)(pr:bu->Bool)(g:xs.length<=9223372036854775807):ar Tryz.prog 85 false [.val none (p8 .X xs),.fn (ou Tryz.prog (zC (some 4) (bu.enc .X) pr xs))] .one [I (d9 pr xs)]:=by
 refine fO 19 [] Tryz.func85 rfl ?_
 repeat'(first|refine gO ?_|fail)
 (conv=>whnf)
 refine CE (ι:=Nat) (λi=>[(0,.H .one (p8 .X xs)),(1,.fv (ou Tryz.prog (zC (some 4) (bu.enc .X) pr xs))),(7,.H .one [I xs.length]),(8,.H .one [I (i:Nat)])]) (λi=>i<=xs.length/\∀(j:Nat)(z:bu),j<i->xs[j]? = some z->pr z=false) (λi=>xs.length - i) 0 ?_ ⟨U0 _,λj z h=>ω⟩ λi d=>?_
 ·exact wB
 obtain⟨d,b⟩:=d;by_cases c:i<xs.length
 ·obtain⟨y,a⟩ : ∃y,xs[i]? = some y:=⟨_,C2 c⟩
  repeat'(first|refine gD ?_|(conv=>whnf);first|with_reducible refine CC (aa a) ?_|refine Fv.mk (k:=.one) (rcs:=[B (pr y)]) ⟨y,W1 a,rfl,rfl,rfl⟩ ?_|refine Bf.P (λe=>?_) (λe=>?_))
  ·exact W0 (λz=>[I z]) (dE a ‹_› b).symm
  (conv=>whnf)
  refine CD (i+1) ⟨ω,dv a (by assumption) b⟩ ω ?_;exact wB
 repeat'(first|refine gD ?_|fail)
 exact W0 (λz=>[I z]) (gk ω b).symm
theorem tB(xs:List bu)(pr:bu->Bool)(a:xs.length<=9223372036854775807):ar Tryz.prog 247 false [.val none (p8 .X xs),.fn (ou Tryz.prog (zC (some 4) (bu.enc .X) pr xs))] .one [B (xs.any pr)]:=by
 refine fO 9 [] Tryz.func247 rfl ?_
 repeat'(first|refine gO ?_|(conv=>whnf);refine C7 (qJ xs pr a) ?_)
 exact W0 (λz=>[B z]) (jA pr xs)
theorem PQ{k:Nat}(a:k<=3):IntKind.i64.wrap (1*2 ^ min ((k:Nat):Int).toNat IntKind.i64.bits)=csz (k:Nat):=by
 obtain rfl|rfl|rfl|rfl:k=0\/k=1\/k=2\/k=3:=ω
 all_goals decide
theorem PC{k:Nat}(a:k<=100):IntKind.u64.wrap (k:Nat)=(k:Nat):=by
 unfold IntKind.wrap;simp[IntKind.signed,IntKind.bits];omega
theorem Dw{k:Nat}{z:Int}(a:k<=3)(h:csz (k:Nat)<z)(b:z<=8):k<=2:=by
 have c:csz ((3:Nat):Int)=8:=by decide
 obtain rfl|rfl|rfl|rfl:k=0\/k=1\/k=2\/k=3:=ω
 all_goals omega
theorem wR{k:Nat}{z:Int}(g:k<=3)(h1:1<=z)(a:k=0\/csz ((k - 1:Nat):Int)<z)(b:¬csz (k:Nat)<z):aJ z=(k:Nat):=by
 have c:csz ((0:Nat):Int)=1:=by decide
 have d:csz ((1:Nat):Int)=2:=by decide
 have e:csz ((2:Nat):Int)=4:=by decide
 have f:csz ((3:Nat):Int)=8:=by decide
 unfold aJ;obtain rfl|rfl|rfl|rfl:k=0\/k=1\/k=2\/k=3:=ω
 all_goals simp only[Nat.reduceSub,c,d,e,f]at a b
 all_goals(repeat' split)<;>omega
theorem kN(z:Int):ar Tryz.prog 235 false [.val none [I z]] .one [I (aJ z)]:=by
 refine fO 15 [] Tryz.func235 rfl ?_;by_cases c:1<=z/\z<=8
 ·repeat'(first|refine gD ?_|(conv=>whnf);refine C7 (aG z 1 8) ?_)
  (conv=>whnf)
  refine CE (ι:=Nat) (λk=>[(0,.H .one [I (z)]),(3,.H .one [I ((k:Nat):Int)])]) (λk=>k<=3/\(k=0\/csz ((k - 1:Nat):Int)<z)) (λk=>4 - k) (0) ?_ (⟨ω,.inl rfl⟩) λk a=>?_
  ·exact wB
  obtain⟨a,d⟩:=a
  repeat'(first|refine gO ?_|(conv=>whnf);first|with_reducible refine Bf.D (λb=>?_) (λb=>?_)|refine CM (PC ω) ?_|refine CM (PQ a) ?_|refine CN ω ?_)
  all_goals first
   | exact W0 (λz=>[I z]) (wR a c.1 d (by assumption)).symm
   | ((conv=>whnf);refine CD (k+1) ⟨by have:=Dw a (by assumption) c.2;omega,.inr (by simpa using (by assumption:csz (k:Nat)<z))⟩ (by have:=Dw a (by assumption) c.2;omega) ?_;(exact wB))
 repeat'(first|refine gD ?_|(conv=>whnf);refine C7 (aG z 1 8) ?_)
 all_goals exact W0 (λz=>[I z]) (by unfold aJ;(repeat' split)<;>omega)
theorem BW(z:Int):ar Tryz.prog 61 false [.val none [I z]] .one [I (aJ z)]:=by
 refine fO 14 [] Tryz.func61 rfl ?_;by_cases c:1<=z/\z<=8
 ·repeat'(first|refine gD ?_|(conv=>whnf);refine C7 (aM z 1 8) ?_)
  (conv=>whnf)
  refine CE (ι:=Nat) (λk=>[(0,.H .one [I (z)]),(3,.H .one [I ((k:Nat):Int)])]) (λk=>k<=3/\(k=0\/csz ((k - 1:Nat):Int)<z)) (λk=>4 - k) (0) ?_ (⟨ω,.inl rfl⟩) λk b=>?_
  ·exact wB
  obtain⟨b,d⟩:=b
  repeat'(first|refine gO ?_|(conv=>whnf);first|with_reducible refine Bf.D (λa=>?_) (λa=>?_)|refine C7 (ef _) ?_)
  all_goals first
   | exact W0 (λz=>[I z]) (wR b c.1 d (by assumption)).symm
   | ((conv=>whnf);refine CD (k+1) ⟨by have:=Dw b (by assumption) c.2;omega,.inr (by simpa using (by assumption:csz (k:Nat)<z))⟩ (by have:=Dw b (by assumption) c.2;omega) ?_;(exact wB))
 repeat'(first|refine gD ?_|(conv=>whnf);refine C7 (aM z 1 8) ?_)
 all_goals exact W0 (λz=>[I z]) (by unfold aJ;(repeat' split)<;>omega)
theorem rS(q:bL)(a:Int)(e:bL.sml q):ar Tryz.prog 373 false [.val (some 2) (bL.enc .X q),.val none [I a]] .one [B (q.a6.any (eR a))]:=by
 have j:q.a6.length<=1048576:=e.1;refine fO 21 [] Tryz.func373 rfl ?_
 repeat'(first|refine gO ?_|fail)
 (conv=>whnf)
 refine CE (ι:=Nat) (λi=>[(1,.H .one [I (a)]),(2,.H .box (bL.enc .X q)),(5,.H .one [I ((i:Nat):Int)])]) (λi=>i<=q.a6.length/\(q.a6.take i).any (eR a)=false) (λi=>q.a6.length - i) (0) ?_ (⟨U0 _,rfl⟩) λi c=>?_
 ·exact wB
 obtain⟨c,d⟩:=c;by_cases g:i<q.a6.length
 ·have b:=ao g
  repeat'(first|refine gD ?_|(conv=>whnf);first|with_reducible (first|refine CC (aa b) ?_|refine Bf.E (λh=>?_) (λh=>?_)))
  all_goals first
   | exact W0 (λz=>[B z]) ((Db b (O0 (by assumption))).symm)
   | ((conv=>whnf);refine CD (i+1) ⟨ω,x5 b d (T0 (by assumption))⟩ ω ?_;(exact wB))
 repeat'(first|refine gD ?_|fail)
 exact W0 (λz=>[B z]) ((Jn ω d).symm)
theorem iS(xs:List aQ)(i:Nat):quarCells xs (i+1)=quarCells xs i+csz (nth xs i).d:=rfl
theorem MB(k:Int):0<=csz k/\csz k<=8:=by
 by_cases h:0<=k/\k<=3
 ·rcases bO h with e|e|e|e<;>rw[e]<;>decide
 unfold csz;rw[C8 h];decide
theorem uS(xs:List aQ)(c:lB xs):ar Tryz.prog 374 false [.val none (cW .X xs)] .one [I (quarCells xs xs.length)]:=by
 have g:=c.1;refine fO 20 [] Tryz.func374 rfl ?_
 repeat'(first|refine gO ?_|fail)
 (conv=>whnf)
 refine CE (ι:=Nat) (λi=>[(0,.H .one (cW .X xs)),(3,.H .one [I (quarCells xs i)]),(4,.H .one [I ((i:Nat):Int)])]) (λi=>i<=xs.length/\0<=quarCells xs i/\quarCells xs i<=8*i) (λi=>xs.length - i) (0) ?_ (⟨U0 _,by simp[quarCells],by simp[quarCells]⟩) λi b=>?_
 ·exact wB
 obtain⟨b,h,j⟩:=b;by_cases d:i<xs.length
 ·have e:=ao d
  have k:=MB (nth xs i).d;have a:=iS xs i
  repeat'(first|refine gD ?_|(conv=>whnf);first|with_reducible refine CC (aa e) ?_|refine C7 (dZ _) ?_)
  ((conv=>whnf);refine CD (i+1) ⟨ω,ω,ω⟩ ω ?_)
  rw[a];exact wB
 repeat'(first|refine gD ?_|fail)
 obtain rfl:i=xs.length:=ω
 rfl
theorem yz(xs:List aQ)(c:lB xs):ar Tryz.prog 93 false [.val none (cW .X xs)] .one [I (quarCells xs xs.length)]:=by
 have g:=c.1;refine fO 19 [] Tryz.func93 rfl ?_
 repeat'(first|refine gO ?_|fail)
 (conv=>whnf)
 refine CE (ι:=Nat) (λi=>[(3,.H .one [I (quarCells xs i)]),(6,.H .one (cW .X xs)),(7,.H .one [I (xs.length)]),(8,.H .one [I ((i:Nat):Int)])]) (λi=>i<=xs.length/\0<=quarCells xs i/\quarCells xs i<=8*i) (λi=>xs.length - i) (0) ?_ (⟨U0 _,by simp[quarCells],by simp[quarCells]⟩) λi b=>?_
 ·exact wB
 obtain⟨b,h,j⟩:=b;by_cases d:i<xs.length
 ·have e:=ao d
  have k:=MB (nth xs i).d;have a:=iS xs i
  repeat'(first|refine gD ?_|(conv=>whnf);first|with_reducible refine CC (aa e) ?_|refine C7 (ef _) ?_)
  ((conv=>whnf);refine CD (i+1) ⟨ω,ω,ω⟩ ω ?_)
  rw[a];exact wB
 repeat'(first|refine gD ?_|fail)
 obtain rfl:i=xs.length:=ω
 rfl
theorem Aw(a:aQ):ar Tryz.prog 372 false [.val (some 3) (aQ.enc .X a)] .one [B (decide (0<=a.d/\a.d<=3/\0<=a.Addr/\0<=a.b7))]:=by
 refine fO 16 [] Tryz.func372 rfl ?_
 repeat'(first|refine gO ?_|(conv=>whnf);first|with_reducible refine Bf.D (λb=>?_) (λb=>?_)|refine C7 (aG _ 0 3) ?_)
 all_goals exact W0 (λz=>[B z]) ((by first|(symm;exact T0 ω)|exact decide_eq_decide.2 ω))
theorem MP{xs:List aQ}(a:lB xs)(i:Nat):lB (xs.take i):=⟨by have:=a.1;rw[U1];omega,λ_ _=>trivial⟩
theorem oK(q:bL)(a:bL.sml q):ar Tryz.prog 228 false [.val (some 2) (bL.enc .X q)] .one [B (gv q)]:=by
 have l:q.a6.length<=1048576:=a.1;refine fO 57 [(5,29,[17,18,19,20,21,22,23,24,25,26,27,28,29,30,31,32,33,34,35,36,37,38,39,40,41,42,43,44,45]),(7,11,[46,47,48,49,50,51,52,53,54,55,56])] Tryz.func228 rfl ?_
 repeat'(first|refine gO ?_|fail)
 (conv=>whnf)
 refine CE (ι:=Nat) (λi=>[(1,.H .box (bL.enc .X q)),(3,.H .one [I ((i:Nat):Int)])]) (λi=>i<=q.a6.length/\cY i (kJ q.a6)=true) (λi=>q.a6.length - i) 0 ?_ ⟨U0 _,rfl⟩ λi e=>?_
 ·exact wB
 obtain⟨e,g⟩:=e;by_cases b:i<q.a6.length
 ·have j:=ao b
  have h:=rS ⟨0,q.a6.take i⟩ (nth q.a6 i).Addr (MP a i);cases c:(q.a6.take i).any (eR (nth q.a6 i).Addr)<;>rw[show(bL.mk 0 (q.a6.take i)).a6.any (eR (nth q.a6 i).Addr)=_ from c]at h
  all_goals
   repeat'(first|refine gD ?_|(conv=>whnf);first|with_reducible (first|refine CC (aa j) ?_|refine Bf.D (λd=>?_) (λd=>?_))|refine C7 (Aw _) ?_|refine CL ω (aa (gy ω b)) ?_|refine CU i rfl (by simp;omega) (λr k=>by obtain⟨z,-,rfl⟩:=C4.1 k;rfl) (v4 ..) ?_|refine C7 h ?_)
   all_goals first
    | exact W0 (λz=>[B z]) ((by symm;unfold gv;rw[cA b (by unfold kJ;first|(rw[c];simp;done)|(rw[T0 ω];rfl))];rfl))
    | ((conv=>whnf);refine CD (i+1) ⟨ω,bS g (by unfold kJ;rw[c,O0 ω];rfl)⟩ ω ?_;(exact wB))
 obtain rfl:i=q.a6.length:=ω
 repeat'(first|refine gD ?_|(conv=>whnf);first|with_reducible refine Bf.D (λd=>?_) (λd=>?_)|refine C7 (aG _ 0 500) ?_|refine C7 (uS q.a6 a) ?_)
 all_goals exact W0 (λz=>[B z]) ((by unfold gv;rw[g];simp only[Bool.true_and];first|(symm;exact T0 ω)|exact decide_eq_decide.2 ω))
theorem vt(b:aQ)(a:Int):ar Tryz.prog 492 false [.val (some 3) (aQ.enc .X b),.ptr [I a]] .one [B (eR a b)]:=by
 refine fO 8 [] Tryz.func492 rfl ?_
 repeat'(first|refine gO ?_|fail)
 exact W0 (λz=>[B z]) ((by unfold eR;rw[V4];simp))
theorem zg(xs:List aQ)(a:Int)(b:xs.length<=9223372036854775807):ar Tryz.prog 392 false [.val none (cW .X xs),.val none [I a]] .one [B (xs.any (eR a))]:=by
 refine fO 8 [] Tryz.func392 rfl ?_
 repeat'(first|refine gO ?_|(conv=>whnf);first|refine Cq.mk (zC (some 3) (aQ.enc .X) (eR a) xs) (vt default a).has (λL k rcs c=>?_) ?_|refine C7 (r9 xs (eR a) b) ?_)
 ·obtain⟨y,-,rfl,rfl,rfl⟩:=c
  exact vt y a
 rfl
def pR(xs:List aQ)(a:aQ):Bool:=decide (0<=a.d/\a.d<=3/\0<=a.Addr/\0<=a.b7/\(xs.length=0\/(nth xs (xs.length - 1)).b7<=a.b7))&&!xs.any (eR a.Addr)
theorem BB(xs:List aQ)(b:aQ)(g:xs.length<=1048576):ar Tryz.prog 245 false [.val none (cW .X xs),.val (some 3) (aQ.enc .X b)] .one [B (pR xs b)]:=by
 have c:=zg xs b.Addr ω;cases d:xs.any (eR b.Addr)<;>rw[d]at c
 ·by_cases h:xs.length=0
  ·refine fO 40 [(3,15,[25,26,27,28,29,30,31,32,33,34,35,36,37,38,39])] Tryz.func245 rfl ?_
   repeat'(first|refine gO ?_|(conv=>whnf);first|with_reducible (first|refine Bf.D (λa=>?_) (λa=>?_)|refine Bf.E (λa=>?_) (λa=>?_))|refine C7 (gc _) ?_|refine C7 c ?_)
   all_goals first
    | exact W0 (λz=>[B z]) ((by unfold pR;rw[d,Bool.not_false,Bool.and_true];first|(symm;exact T0 ω)|(symm;exact O0 ω)))
    |(exfalso;omega)
    
  have e:xs[((xs.length:Int) - 1).toNat]? = some (nth xs (xs.length - 1)):=by rw[show((xs.length:Int) - 1).toNat=xs.length - 1 by omega];exact ao ω
  refine fO 40 [(3,15,[25,26,27,28,29,30,31,32,33,34,35,36,37,38,39])] Tryz.func245 rfl ?_
  repeat'(first|refine gO ?_|(conv=>whnf);first|with_reducible (first|refine Bf.D (λa=>?_) (λa=>?_)|refine Bf.E (λa=>?_) (λa=>?_))|refine C7 (gc _) ?_|refine C7 c ?_|refine CL ω (aa e) ?_)
  all_goals first
   | exact W0 (λz=>[B z]) ((by unfold pR;rw[d,Bool.not_false,Bool.and_true];first|(symm;exact T0 ω)|(symm;exact O0 ω)|exact decide_eq_decide.2 ω))
   
   
 refine fO 40 [(3,15,[25,26,27,28,29,30,31,32,33,34,35,36,37,38,39])] Tryz.func245 rfl ?_
 repeat'(first|refine gO ?_|(conv=>whnf);first|with_reducible refine Bf.D (λa=>?_) (λa=>?_)|refine C7 (gc _) ?_|refine C7 c ?_)
 all_goals exact W0 (λz=>[B z]) ((by unfold pR;rw[d];simp))
theorem Gj{xs:List aQ}{i:Nat}(d:i<xs.length):pR (xs.take i) (nth xs i)=kJ xs i:=by
 unfold pR kJ;have a:(xs.take i).length=i:=by rw[U1];omega
 rw[a]
 congr 1
 refine decide_eq_decide.2 ?_;by_cases b:i=0
 ·subst b;simp
 have c:nth (xs.take i) (i - 1)=nth xs (i - 1):=by
  have:=ao (xs:=xs) (i:=i - 1) ω;exact bm (by rw[List.getElem?_take_of_lt ω];exact this)
 rw[c]
theorem EM(q:bL)(d:bL.sml q):ar Tryz.prog 76 false [.val (some 2) (bL.enc .X q)] .one [B (gv q)]:=by
 have l:q.a6.length<=1048576:=d.1;refine fO 32 [(4,7,[13,14,15,16,17,18,19]),(7,11,[21,22,23,24,25,26,27,28,29,30,31])] Tryz.func76 rfl ?_
 repeat'(first|refine gO ?_|fail)
 (conv=>whnf)
 refine CE (ι:=Nat) (λi=>[(1,.H .box (bL.enc .X q)),(6,.H .one (cW .X q.a6)),(7,.H .one [I (q.a6.length)]),(8,.H .one [I ((i:Nat):Int)])]) (λi=>i<=q.a6.length/\cY i (kJ q.a6)=true) (λi=>q.a6.length - i) 0 ?_ ⟨U0 _,rfl⟩ λi e=>?_
 ·exact wB
 obtain⟨e,g⟩:=e;by_cases a:i<q.a6.length
 ·have h:=ao a
  have b:=BB (q.a6.take i) (nth q.a6 i) (by rw[U1];omega);rw[Gj a]at b;cases c:kJ q.a6 i<;>rw[c]at b
  all_goals
   repeat'(first|refine gD ?_|(conv=>whnf);first|with_reducible refine CC (aa h) ?_|refine CU i rfl (by simp;omega) (λr j=>by obtain⟨z,-,rfl⟩:=C4.1 j;rfl) (v4 ..) ?_|refine C7 b ?_)
   all_goals first
    | exact W0 (λz=>[B z]) ((by symm;unfold gv;rw[cA a c];rfl))
    | ((conv=>whnf);refine CD (i+1) ⟨ω,bS g c⟩ ω ?_;(exact wB))
 obtain rfl:i=q.a6.length:=ω
 repeat'(first|refine gD ?_|(conv=>whnf);first|with_reducible refine Bf.D (λk=>?_) (λk=>?_)|refine C7 (aM _ 0 500) ?_|refine C7 (yz q.a6 d) ?_)
 all_goals exact W0 (λz=>[B z]) ((by unfold gv;rw[g];simp only[Bool.true_and];first|(symm;exact T0 ω)|exact decide_eq_decide.2 ω))
def oZ(a:List Bool):Nat->Int
 | 0=>0
 | i+1=>oZ a i+(if nth a i then 1 else 0)
def jy(f:bc):Int:=if du f then oZ f.a5 f.a5.length else 0
theorem uz{a:List Bool}{i:Nat}(h:nth a i=true):oZ a (i+1)=oZ a i+1:=by show oZ a i+(if nth a i then 1 else 0)=_;rw[h];rfl
theorem xi{a:List Bool}{i:Nat}(h:nth a i=false):oZ a (i+1)=oZ a i:=by show oZ a i+(if nth a i then 1 else 0)=_;rw[h];simp
def wG(h:ab):Prop:=aH.sml h.G.F.Q
theorem iy(h:ab)(p:Int)(a:wG h):ar Tryz.prog 369 false [.val (some 24) (ab.enc .X h),.val none [I p]] .one (aD .own (aT h p)):=by
 refine fO 23 [] Tryz.func369 rfl ?_ (.inr (bH _))
 repeat'((conv=>whnf);first|with_reducible (first|refine Bf.E (λb=>?_) (λb=>?_)|refine iX.wk rfl ?_)|refine C7 (cM h.G.F.Q p a) ?_|refine C7 (gP h.G.F.Q _ a) ?_)
 all_goals(unfold aT;first|rw[C9 (by assumption)]|rw[C8 (by assumption)])
 all_goals exact⟨rfl,trivial⟩
theorem nX(h:ab)(p:Int)(a:wG h):ar Tryz.prog 242 false [.val (some 24) (ab.enc .X h),.val none [I p]] .one (aD .own (aT h p)):=by
 refine fO 22 [] Tryz.func242 rfl ?_ (.inr (bH _))
 repeat'((conv=>whnf);first|with_reducible (first|refine Bf.E (λb=>?_) (λb=>?_)|refine iX.wk rfl ?_)|refine C7 (dB h.G.F.Q p a) ?_|refine C7 (kM h.G.F.Q _ a) ?_)
 all_goals(unfold aT;first|rw[C9 (by assumption)]|rw[C8 (by assumption)])
 all_goals exact⟨rfl,trivial⟩
theorem fX(k:af)(p:Int)(a:aH.sml k.F.Q):ar Tryz.prog 123 false [.val (some 5) (af.enc .X k),.val none [I p]] .one [B (decide ((ac k.F.Q p).j≠0))]:=by
 refine fO 12 [] Tryz.func123 rfl ?_
 repeat'(first|refine gO ?_|(conv=>whnf);refine C7 (dB k.F.Q p a) ?_)
 exact W0 (λz=>[B z]) ((by rw[V4];simp))
theorem p6(z:Int):ar Tryz.prog 80 false [.val none [I z]] .one [B (decide (0<=z/\z<=1073741823))]:=by
 refine fO 5 [] Tryz.func80 rfl ?_
 repeat'(first|refine gO ?_|(conv=>whnf);refine C7 (aM z 0 1073741823) ?_)
 rfl
theorem jW(h:ab)(p:Int)(g:h.K.length<=1048576):ar Tryz.prog 234 false [.val (some 24) (ab.enc .X h),.val none [I p]] .one [I (gI h p)]:=by
 refine fO 22 [] Tryz.func234 rfl ?_
 repeat'(first|refine gO ?_|fail)
 (conv=>whnf)
 refine CE (ι:=Nat) (λi=>[(1,.H .one [I (p)]),(2,.H .box (ab.enc .X h)),(5,.H .one [I ((i:Nat):Int)])]) (λi=>i<=h.K.length/\∀(j:Nat)(z:ax),j<i->h.K[j]? = some z->ko p z=false) (λi=>h.K.length - i) (0) ?_ (⟨U0 _,λj z k=>ω⟩) λi c=>?_
 ·exact wB
 obtain⟨c,a⟩:=c;by_cases d:i<h.K.length
 ·have b:=ao d
  repeat'(first|refine gD ?_|(conv=>whnf);first|with_reducible (first|refine CC (aa b) ?_|refine Bf.E (λe=>?_) (λe=>?_)))
  all_goals first
   | exact W0 (λz=>[I z]) (dE b (O0 (by assumption)) a).symm
   | ((conv=>whnf);refine CD (i+1) ⟨ω,dv b (T0 (by assumption)) a⟩ ω ?_;(exact wB))
 repeat'(first|refine gD ?_|fail)
 exact W0 (λz=>[I z]) (gk ω a).symm
theorem Ay(s:ax)(p:Int):ar Tryz.prog 253 false [.val (some 3) (ax.enc .X s),.ptr [I p]] .one [B (ko p s)]:=by
 refine fO 8 [] Tryz.func253 rfl ?_
 repeat'(first|refine gO ?_|fail)
 exact W0 (λz=>[B z]) ((by unfold ko;rw[V4];simp))
theorem uY(h:ab)(p:Int)(b:h.K.length<=1048576):ar Tryz.prog 82 false [.val (some 24) (ab.enc .X h),.val none [I p]] .one [I (gI h p)]:=by
 refine fO 9 [] Tryz.func82 rfl ?_
 repeat'(first|refine gO ?_|(conv=>whnf);first|refine Cq.mk (zC (some 3) (ax.enc .X) (ko p) h.K) (Ay default p).has (λL k rcs a=>?_) ?_|refine C7 (xZ h.K (ko p) ω) ?_)
 ·obtain⟨y,-,rfl,rfl,rfl⟩:=a
  exact Ay y p
 rfl
def flight1(m:aK)(i:Nat):List Int:=(m.U.take i).flatMap λl=>l.map (·.Addr)
def flight2(m:aK)(i:Nat):List Int:=(m.a1.take i).flatten
theorem ny{m:aK}{i:Nat}{l:List dw}(h:m.U[i]? = some l):flight1 m (i+1)=flight1 m i++l.map (·.Addr):=by
 unfold flight1;rw[I5,h,List.flatMap_append];simp
theorem mY{m:aK}{i:Nat}{l:List Int}(h:m.a1[i]? = some l):flight2 m (i+1)=flight2 m i++l:=by
 unfold flight2;rw[I5,h,List.flatten_append];simp
theorem oU{m:aK}(h:bN m=true):aN m=flight1 m m.U.length++flight2 m m.a1.length:=by
 unfold aN flight1 flight2;rw[C9 h,t5,t5]
theorem uR{m:aK}(h:bN m=false):aN m=[]:=by
 unfold aN;rw[h];rfl
theorem nN{m:aK}(h:bN m=true):1<=m.U.length/\m.U.length<=4/\m.a1.length=m.U.length:=by
 unfold bN at h;simp only[I0,C0]at h;exact h.1.1
theorem Fk{l:List Int} : ∀r∈l.map (rI .X),r.length=1:=by
 intro r a;obtain⟨z,-,rfl⟩:=C4.1 a;rfl
theorem Jd{l:List Int} : ∀r∈l.map (rI .X),aY r=true:=by
 intro r a;obtain⟨z,-,rfl⟩:=C4.1 a;rfl
theorem zf(m:aK)(j:aK.sml m):ar Tryz.prog 49 false [.val (some 2) (aK.enc .X m)] .one (aD .own (aN m)):=by
 have l:=lV m j;cases e:bN m<;>rw[e]at l
 ·refine fO 56 [] Tryz.func49 rfl ?_ (.inr (bH _))
  repeat'((conv=>whnf);first|with_reducible (first|refine Bn ?_|refine iX.wk rfl ?_)|refine Bu ?_|refine C7 l ?_)
  all_goals(rw[uR e];exact⟨rfl,trivial⟩)
 obtain⟨D,E,F⟩:=nN e;refine fO 56 [] Tryz.func49 rfl ?_ (.inr (bH _))
 repeat'(first|refine gO ?_|(conv=>whnf);refine C7 l ?_)
 (conv=>whnf)
 refine CE (ι:=Nat × List Int) (λi=>[(1,.H .box (aK.enc .X m)),(3,.H .one (aD .own i.2)),(4,.H .one [I ((i.1:Nat):Int)])]) (λi=>i.1<=m.U.length/\i.2=flight1 m i.1/\i.2.length<=1048576*i.1) (λi=>m.U.length - i.1) ((0,[])) ?_ (⟨U0 _,rfl,U0 _⟩) λi n=>?_
 ·exact wB
 obtain⟨i,S⟩:=i;obtain⟨n,o,t⟩:=n;simp only at n o t |-;by_cases q:i<m.U.length
 ·have g:=ao q
  have u:(nth m.U i).length<=1048576:=(j.1.2 _ (am q)).1
  repeat'(first|refine gD ?_|(conv=>whnf);with_reducible refine CC (aa g) ?_)
  (conv=>whnf)
  refine CE (ι:=Nat × List Int) (λk=>[(1,.H .box (aK.enc .X m)),(3,.H .one (aD .own k.2)),(4,.H .one [I ((i:Nat):Int)]),(5,.H .one [I ((k.1:Nat):Int)])]) (λk=>k.1<=(nth m.U i).length/\k.2=S++((nth m.U i).take k.1).map (·.Addr)) (λk=>(nth m.U i).length - k.1) ((0,S)) ?_ (⟨U0 _,by simp⟩) λk b=>?_
  ·exact wB
  obtain⟨k,c⟩:=k;obtain⟨b,a⟩:=b;simp only at b a |-;have w:c.length=S.length+k:=by rw[a,I3,Z0,U1];omega
  by_cases h:k<(nth m.U i).length
  ·have d:=ao h
   repeat'(first|refine gD ?_|(conv=>whnf);first|with_reducible (first|refine CC (aa g) ?_|refine CC (aa d) ?_)|refine CT cn (λr y=>by rw[I1.1 y];rfl) (by simp[aY,eg]) (by simp;omega) (by show _*8<=_;simp;omega) rfl ?_)
   ((conv=>whnf)
    refine CD (k+1,c++[(nth (nth m.U i) k).Addr]) ⟨(by simp only;omega),(by simp only;rw[a,I5,d,T5,O5];simp)⟩ (by simp only;omega) ?_
    (repeat'(first|exact trivial|rfl|exact CK rfl (CK (W0 (C.s dQ.own) (by simp[rI])) trivial)|refine CK ?_ ?_)))
  obtain rfl:k=(nth m.U i).length:=ω
  rw[t5]at a
  repeat'(first|refine gD ?_|(conv=>whnf);with_reducible refine CC (aa g) ?_)
  ((conv=>whnf);refine CD (i+1,c) ⟨(by simp only;omega),(by simp only;rw[ny g,<-o,a]),(by simp only;omega)⟩ (by simp only;omega) ?_;(exact wB))
 obtain rfl:i=m.U.length:=ω
 repeat'(first|refine gD ?_|fail)
 (conv=>whnf)
 refine CE (ι:=Nat × List Int) (λk=>[(1,.H .box (aK.enc .X m)),(3,.H .one (aD .own k.2)),(6,.H .one [I ((k.1:Nat):Int)])]) (λk=>k.1<=m.a1.length/\k.2=S++flight2 m k.1/\k.2.length<=S.length+1048576*k.1) (λk=>m.a1.length - k.1) ((0,S)) ?_ (⟨U0 _,by simp[flight2],by simp⟩) λk b=>?_
 ·exact wB
 obtain⟨k,c⟩:=k;obtain⟨b,a,p⟩:=b;simp only at b a p |-;by_cases h:k<m.a1.length
 ·have d:=ao h
  have B:(nth m.a1 k).length<=1048576:=j.2.2 _ (am h)
  repeat'(first|refine gD ?_|(conv=>whnf);first|with_reducible refine CC (aa d) ?_|refine CT cn Fk (λ_=>Jd) (by simp;omega) (by show _*8<=_;simp;omega) rfl ?_)
  ((conv=>whnf)
   refine CD (k+1,c++nth m.a1 k) ⟨(by simp only;omega),(by simp only;rw[mY d,a,O5]),(by simp only;rw[I3];omega)⟩ (by simp only;omega) ?_
   (repeat'(first|exact trivial|rfl|exact CK rfl (CK (W0 (C.s dQ.own) (by simp[rI])) trivial)|refine CK ?_ ?_)))
 obtain rfl:k=m.a1.length:=ω
 repeat'(first|refine gD ?_|fail)
 rw[oU e,<-o,<-a];rfl
theorem zz(m:aK)(h:aK.sml m):ar Tryz.prog 96 false [.val (some 2) (aK.enc .X m)] .one (aD .own (aN m)):=by
 have j:=vA m h;cases e:bN m<;>rw[e]at j
 ·refine fO 46 [] Tryz.func96 rfl ?_ (.inr (bH _))
  repeat'((conv=>whnf);first|with_reducible (first|refine Bn ?_|refine iX.wk rfl ?_)|refine Bu ?_|refine C7 j ?_)
  all_goals(rw[uR e];exact⟨rfl,trivial⟩)
 obtain⟨D,E,F⟩:=nN e;refine fO 46 [] Tryz.func96 rfl ?_ (.inr (bH _))
 repeat'(first|refine gO ?_|(conv=>whnf);refine C7 j ?_)
 (conv=>whnf)
 refine CE (ι:=Nat × List Int) (λi=>[(1,.H .box (aK.enc .X m)),(3,.H .one (aD .own i.2)),(15,.H .one (wQ .X m.U)),(16,.H .one [I (m.U.length)]),(17,.H .one [I ((i.1:Nat):Int)])]) (λi=>i.1<=m.U.length/\i.2=flight1 m i.1/\i.2.length<=1048576*i.1) (λi=>m.U.length - i.1) ((0,[])) ?_ (⟨U0 _,rfl,U0 _⟩) λi l=>?_
 ·exact wB
 obtain⟨i,S⟩:=i;obtain⟨l,n,t⟩:=l;simp only at l n t |-;by_cases p:i<m.U.length
 ·have q:=ao p
  have u:(nth m.U i).length<=1048576:=(h.1.2 _ (am p)).1
  repeat'(first|refine gD ?_|(conv=>whnf);with_reducible refine CC (aa q) ?_)
  (conv=>whnf)
  refine CE (ι:=Nat × List Int) (λk=>[(1,.H .box (aK.enc .X m)),(3,.H .one (aD .own k.2)),(15,.H .one (wQ .X m.U)),(16,.H .one [I (m.U.length)]),(17,.H .one [I ((i:Nat):Int)]),(21,.H .one (cK .X (nth m.U i))),(22,.H .one [I ((nth m.U i).length)]),(23,.H .one [I ((k.1:Nat):Int)])]) (λk=>k.1<=(nth m.U i).length/\k.2=S++((nth m.U i).take k.1).map (·.Addr)) (λk=>(nth m.U i).length - k.1) ((0,S)) ?_ (⟨U0 _,by simp⟩) λk b=>?_
  ·exact wB
  obtain⟨k,c⟩:=k;obtain⟨b,a⟩:=b;simp only at b a |-;have w:c.length=S.length+k:=by rw[a,I3,Z0,U1];omega
  by_cases g:k<(nth m.U i).length
  ·have d:=ao g
   repeat'(first|refine gD ?_|(conv=>whnf);first|with_reducible refine CC (aa d) ?_|refine CT cn (λr y=>by rw[I1.1 y];rfl) (by simp[aY,eg]) (by simp;omega) (by show _*8<=_;simp;omega) rfl ?_)
   ((conv=>whnf)
    refine CD (k+1,c++[(nth (nth m.U i) k).Addr]) ⟨(by simp only;omega),(by simp only;rw[a,I5,d,T5,O5];simp)⟩ (by simp only;omega) ?_
    (repeat'(first|exact trivial|rfl|exact CK rfl (CK (W0 (C.s dQ.own) (by simp[rI])) trivial)|refine CK ?_ ?_)))
  obtain rfl:k=(nth m.U i).length:=ω
  rw[t5]at a
  repeat'(first|refine gD ?_|fail)
  ((conv=>whnf);refine CD (i+1,c) ⟨(by simp only;omega),(by simp only;rw[ny q,<-n,a]),(by simp only;omega)⟩ (by simp only;omega) ?_;(exact wB))
 obtain rfl:i=m.U.length:=ω
 repeat'(first|refine gD ?_|fail)
 (conv=>whnf)
 refine CE (ι:=Nat × List Int) (λk=>[(3,.H .one (aD .own k.2)),(35,.H .one (j8 .X m.a1)),(36,.H .one [I (m.a1.length)]),(37,.H .one [I ((k.1:Nat):Int)])]) (λk=>k.1<=m.a1.length/\k.2=S++flight2 m k.1/\k.2.length<=S.length+1048576*k.1) (λk=>m.a1.length - k.1) ((0,S)) ?_ (⟨U0 _,by simp[flight2],by simp⟩) λk b=>?_
 ·exact wB
 obtain⟨k,c⟩:=k;obtain⟨b,a,o⟩:=b;simp only at b a o |-;by_cases g:k<m.a1.length
 ·have d:=ao g
  have B:(nth m.a1 k).length<=1048576:=h.2.2 _ (am g)
  repeat'(first|refine gD ?_|(conv=>whnf);first|with_reducible refine CC (aa d) ?_|refine CT cn Fk (λ_=>Jd) (by simp;omega) (by show _*8<=_;simp;omega) rfl ?_)
  ((conv=>whnf)
   refine CD (k+1,c++nth m.a1 k) ⟨(by simp only;omega),(by simp only;rw[mY d,a,O5]),(by simp only;rw[I3];omega)⟩ (by simp only;omega) ?_
   (repeat'(first|exact trivial|rfl|exact CK rfl (CK (W0 (C.s dQ.own) (by simp[rI])) trivial)|refine CK ?_ ?_)))
 obtain rfl:k=m.a1.length:=ω
 repeat'(first|refine gD ?_|fail)
 rw[oU e,<-n,<-a];rfl
def tbl(h:ab):aH:=h.G.F.Q
def eY(h:ab):Nat:=h.G.F.Q.J.length
def xC(xs:List ax)(i:Nat):Bool:=decide (i=0\/(nth xs (i - 1)).R<(nth xs i).R)
def yv(xs:List a8)(i:Nat):Bool:=decide (i=0\/(nth xs (i - 1)).R<(nth xs i).R)
def wE(h:ab)(l:a8)(k:Nat):Bool:=decide ((aT h (l.R+(k:Nat))).length=1)
def sg(h:ab)(i:Nat):Bool:=yv h.M i&&cY (nth h.M i).a3.toNat (wE h (nth h.M i))
def vG(h:ab)(p:Nat):Bool:=decide ((nth (tbl h).J p).j≠0↔(p:Int)∈pgs h.K h.M)&&(decide ((nth (tbl h).J p).j≠0) != h.u.any (rj (p:Nat)))
def pages0(h:ab):Bool:=((cY h.K.length (xC h.K)&&cY h.M.length (sg h))&&(pgs h.K h.M).all λp=>decide (p<eY h))&&cY (eY h) (vG h)
def mq(h:ab)(i:Nat)(q:Int):Bool:=decide (gI h q=(i:Nat)) || (decide (0<=gI h q)&&meshable (nth h.K i) (nth h.K (gI h q).toNat))
def va(h:ab):Bool:=cY h.K.length λi=>(aT h (nth h.K i).R).all (mq h i)
def lg(h:ab)(i j:Nat):Bool:=decide ((ac (tbl h) (nth h.K i).R).e≠(ac (tbl h) (nth h.K j).R).e) || meshable (nth h.K i) (nth h.K j)
def og(h:ab):Bool:=cY h.K.length λi=>cY i (lg h i)
def fh(z:Int)(o:bu):Bool:=decide (o.Id=z)
def jg(h:ab)(o:bu):Bool:=
 let w:=denotes h.K h.M o.Addr
 decide (w.c5=0)&&((decide (w.b6=1)&&decide ((nth h.K w.c4.toNat).d=aJ o.q)) || (decide (w.b6=3)&&decide ((nth h.M w.c4.toNat).q=o.q)))
def gS(a:Int)(h:ab)(i:Nat):Bool:=decide ((i=0\/(nth h.O (i - 1)).Addr<(nth h.O i).Addr)/\1<=(nth h.O i).Id/\(nth h.O i).Id<=a/\0<=(nth h.O i).a4/\(nth h.O i).a4<=h.T.length - 1)
def objAt(a:Int)(h:ab)(i:Nat):Bool:=(gS a h i&&!(h.O.take i).any (fh (nth h.O i).Id))&&jg h (nth h.O i)
def fF(h:ab):Bool:=cY h.O.length (objAt (IntKind.i64.wrap (h.a - 1)) h)
def dt(h:ab)(a c:Int):Bool:=
 let w:=denotes h.K h.M a
 (decide (w.b6=1)&&decide (w.c5=0))&&(decide (c<0) || decide ((nth h.K w.c4.toNat).d=c))
def rQ(h:ab)(c:aE)(k:Nat):Bool:=(nth c.b k).all λa=>dt h a (k:Nat)
def fk(h:ab)(c:aE):Bool:=cY c.b.length (rQ h c)
def ik(h:ab)(x:aQ):Bool:=dt h x.Addr x.d
def kA(h:ab)(a:Int):Bool:=dt h a (-1)
def cC(h:ab):List Int:=h.T.flatMap λc=>c.b.flatten
def iv(h:ab):Bool:=((h.T.all (fk h))&&h.a9.a6.all (ik h))&&(aN h.y).all (kA h)
def holders(h:ab):List Int:=((h.O.map (·.Addr)++cC h)++h.a9.a6.map (·.Addr))++aN h.y
def kr(sp:List ax)(la:List a8)(a:Nat):Bool:=
 let w:=denotes sp la (a:Nat)
 decide (w.c5=0)&&(decide (w.b6=1) || decide (w.b6=3))
def lO(sp:List ax)(la:List a8)(n:Nat):List Int:=((List.range n).filter (kr sp la)).map λ(i:Nat)=>(i:Int)
def jb(sp:List ax)(la:List a8):List Int:=lO sp la 512
def ja(h:ab):Bool:=(iv h&&decide (holders h).Nodup)&&decide ((holders h).length=(jb h.K h.M).length)
def kG(h:ab):Bool:=h.a9.a6.all λx=>decide (x.b7<=h.b3)
def cj(h:ab):Bool:=decide (0<=h.c0/\h.c0<=1073741823/\0<=h.b3/\h.b3<=1000000/\0<=h.c3/\h.c3<=1000/\1<=h.a/\h.a<=1000000)
def qE(h:ab):Bool:=if h.o then(ju h.Y&&decide (0<=gI h h.Y.V.a2))&&decide (0<=gI h h.Y.V.w) else rJ h.Y
def lf(h:ab):Bool:=((a7 h.G&&bC (eY h) h.u)&&bn h.K h.M)&&pages0 h
set_option maxHeartbeats 8000000
theorem dA{sp:List ax}{la:List a8}(h:bn sp la=true):sp.all bf=true/\la.all bJ=true/\(pgs sp la).Nodup:=by
 unfold bn at h;simp only[I0,C0]at h;exact⟨h.1.1,h.1.2,h.2⟩
theorem PE{α:Type}[Inhabited α]{xs:List α}{p:α->Bool}{i:Nat}(h:xs.all p=true)(a:i<xs.length):p (nth xs i)=true:=Z3.1 h _ (am a)
theorem ED{h:ab}(h1:cY h.K.length (xC h.K)=false):pages0 h=false:=by unfold pages0;rw[h1];rfl
theorem sW{h:ab}(h1:cY h.M.length (sg h)=false):pages0 h=false:=by unfold pages0;rw[h1];simp
theorem Fj{h:ab}{p:Int}(h1:p∈pgs h.K h.M)(a:¬p<eY h):pages0 h=false:=by
 have:((pgs h.K h.M).all λp=>decide (p<eY h))=false:=List.all_eq_false.2 ⟨p,h1,by simpa using a⟩;unfold pages0;rw[this];simp
theorem Ga{h:ab}(h1:cY (eY h) (vG h)=false):pages0 h=false:=by unfold pages0;rw[h1];simp
theorem ym{h:ab}(h1:cY h.K.length (xC h.K)=true)(a:cY h.M.length (sg h)=true)(b:∀p∈pgs h.K h.M,p<eY h)(c:cY (eY h) (vG h)=true):pages0 h=true:=by
 have:((pgs h.K h.M).all λp=>decide (p<eY h))=true:=Z3.2 λp d=>O0 (b p d)
 unfold pages0;rw[h1,a,c,this];rfl
theorem Ng{h:ab}{i:Nat}(h1:yv h.M i=false):sg h i=false:=by unfold sg;rw[h1];rfl
theorem MI{h:ab}{i k:Nat}(a:k<(nth h.M i).a3.toNat)(h1:wE h (nth h.M i) k=false):sg h i=false:=by unfold sg;rw[cA a h1];simp
theorem Eg{h:ab}{i:Nat}(h1:yv h.M i=true)(a:cY (nth h.M i).a3.toNat (wE h (nth h.M i))=true):sg h i=true:=by unfold sg;rw[h1,a];rfl
theorem gn(h:ab)(p:Int):(aT h p).length<=eY h:=by
 unfold aT;split
 ·simp
 exact qV ..
theorem ue{sp:List ax}{la:List a8}(h:bn sp la=true){i:Nat}{l:a8}(a:la[i]? = some l):1<=l.a3/\l.a3<=63/\0<=l.R/\l.R<=31:=
 aP (Z3.1 (dA h).2.1 l (W1 a))
theorem FL(h:ab)(G:dN h.K)(H:dM h.M)(l:wG h)(J:iC h.u)(n:bn h.K h.M=true):ar Tryz.prog 226 false [.val (some 24) (ab.enc .X h)] .one [B (pages0 h)]:=by
 have Z:=G.1;have hl2:=H.1;have hl3:eY h<=1048576:=l.1;have hl4:=J.1;refine fO 144 [(7,18,[28,29,30,31,32,33,34,35,36,37,38,39,40,41,42,43,44,45]),(13,18,[62,63,64,65,66,67,68,69,70,71,72,73,74,75,76,77,78,79])] Tryz.func226 rfl ?_
 repeat'(first|refine gO ?_|fail)
 (conv=>whnf)
 refine CE (ι:=Nat × List Int) (λi=>[(1,.H .box (ab.enc .X h)),(3,.H .box (aH.enc .X (tbl h))),(4,.H .one [I (eY h)]),(5,.H .one (aD .own i.2)),(6,.H .one [I ((i.1:Nat):Int)])]) (λi=>i.1<=h.K.length/\i.2=(h.K.take i.1).map (·.R)/\cY i.1 (xC h.K)=true) (λi=>h.K.length - i.1) ((0,[])) ?_ (⟨U0 _,rfl,rfl⟩) λi K=>?_
 ·exact wB
 obtain⟨i,S⟩:=i;obtain⟨K,o,L⟩:=K;simp only at K o L |-;have hSl:S.length=i:=by rw[o,Z0,U1];omega
 by_cases M:i<h.K.length
 ·have c:=ao M
  repeat'(first|refine gD ?_|(conv=>whnf);first|with_reducible (first|refine CC (aa c) ?_|refine Bf.D (λa=>?_) (λa=>?_))|refine CL ω (aa (gy ω M)) ?_|refine CT cn (λr t=>by rw[I1.1 t];rfl) (by simp[aY,eg]) (by simp;omega) (by simp only[Z0];exact yI (by simp;omega) (by decide)) rfl ?_)
  all_goals first
   | exact W0 (λz=>[B z]) ((ED (cA M (T0 ω))).symm)
   | ((conv=>whnf)
      refine CD (i+1,S++[(nth h.K i).R]) ⟨(by simp only;omega),(by simp only;rw[o,I5,c];simp),bS L (O0 ω)⟩ (by simp only;omega) ?_
      (repeat'(first|exact trivial|rfl|exact CK rfl (CK (W0 (C.s dQ.own) (by simp[rI])) trivial)|refine CK ?_ ?_)))
 obtain rfl:i=h.K.length:=ω
 rw[t5]at o
 repeat'(first|refine gD ?_|fail)
 (conv=>whnf)
 refine CE (ι:=Nat × List Int) (λk=>[(1,.H .box (ab.enc .X h)),(3,.H .box (aH.enc .X (tbl h))),(4,.H .one [I (eY h)]),(5,.H .one (aD .own k.2)),(7,.H .one [I ((k.1:Nat):Int)])]) (λk=>k.1<=h.M.length/\k.2=pgs h.K (h.M.take k.1)/\cY k.1 (sg h)=true/\k.2.length<=1048576+64*k.1) (λk=>h.M.length - k.1) ((0,S)) ?_ (⟨U0 _,by rw[o];unfold pgs;simp,rfl,by simp only;omega⟩) λk O=>?_
 ·exact wB
 obtain⟨k,S2⟩:=k;obtain⟨O,b,Q,R⟩:=O;simp only at O b Q R |-;by_cases y:k<h.M.length
 ·have c:=ao y
  have hpg:=ue n c
  repeat'(first|refine gD ?_|(conv=>whnf);first|with_reducible (first|refine CC (aa c) ?_|refine Bf.D (λa=>?_) (λa=>?_))|refine CL ω (aa (gy ω y)) ?_)
  all_goals first
   | exact W0 (λz=>[B z]) ((sW (cA y (Ng (T0 ω)))).symm)
   |have e:yv h.M k=true:=O0 ω
    (conv=>whnf)
    refine CE (ι:=Nat × List Int) (λq=>[(1,.H .box (ab.enc .X h)),(3,.H .box (aH.enc .X (tbl h))),(4,.H .one [I (eY h)]),(5,.H .one (aD .own q.2)),(7,.H .one [I ((k:Nat):Int)]),(8,.H .one [I ((q.1:Nat):Int)])]) (λq=>q.1<=(nth h.M k).a3.toNat/\q.2=S2++lpgs (nth h.M k) q.1/\cY q.1 (wE h (nth h.M k))=true) (λq=>(nth h.M k).a3.toNat - q.1) ((0,S2)) ?_ (⟨U0 _,by simp[lpgs],rfl⟩) λq a=>?_
    ·exact wB
    obtain⟨q,T⟩:=q;obtain⟨U,d,g⟩:=a;simp only at U d g |-;have W:T.length=S2.length+q:=by rw[d,I3,FM]
    by_cases E:q<(nth h.M k).a3.toNat
    ·have hfl:=gn h ((nth h.M k).R+(q:Nat))
     repeat'(first|refine gD ?_|(conv=>whnf);first|with_reducible (first|refine CC (aa c) ?_|refine Bf.N (λa=>?_) (λa=>?_))|refine C7 (iy h _ l) ?_|refine CT cn (λr t=>by rw[I1.1 t];rfl) (by simp[aY,eg]) (by simp;omega) (by show _*8<=_;simp;omega) rfl ?_)
     all_goals first
      | exact W0 (λz=>[B z]) ((sW (cA y (MI E (T0 ω)))).symm)
      | ((conv=>whnf)
         refine CD (q+1,T++[(nth h.M k).R+(q:Nat)]) ⟨(by simp only;omega),(by simp only;rw[d,kR,O5]),bS g (O0 ω)⟩ (by simp only;omega) ?_
         (repeat'(first|exact trivial|rfl|exact CK rfl (CK (W0 (C.s dQ.own) (by simp[rI])) trivial)|refine CK ?_ ?_)))
    obtain rfl:q=(nth h.M k).a3.toNat:=ω
    repeat'(first|refine gD ?_|(conv=>whnf);with_reducible refine CC (aa c) ?_)
    ((conv=>whnf);refine CD (k+1,T) ⟨(by simp only;omega),(by simp only;rw[d,b,<-o7 _ c]),bS Q (Eg e g),(by simp only;omega)⟩ (by simp only;omega) ?_;(exact wB))
 obtain rfl:k=h.M.length:=ω
 rw[t5]at b
 repeat'(first|refine gD ?_|fail)
 (conv=>whnf)
 refine CE (ι:=Nat) (λq=>[(1,.H .box (ab.enc .X h)),(3,.H .box (aH.enc .X (tbl h))),(4,.H .one [I (eY h)]),(5,.H .one (aD .own S2)),(10,.H .one [I ((q:Nat):Int)])]) (λq=>q<=S2.length/\∀j,j<q->nth S2 j<eY h) (λq=>S2.length - q) (0) ?_ (⟨U0 _,λj F=>ω⟩) λq a=>?_
 ·exact wB
 obtain⟨a,g⟩:=a;by_cases E:q<S2.length
 ·have c:=ao E
  repeat'(first|refine gD ?_|(conv=>whnf);first|with_reducible (first|refine CC (aa c) ?_|refine Bf.D (λa=>?_) (λa=>?_))|refine CH rfl (aa c) rfl ?_)
  all_goals first
   | exact W0 (λz=>[B z]) ((Fj (by rw[<-b];exact am E) ω).symm)
   | ((conv=>whnf);refine CD (q+1) ⟨ω,λj F=>by rcases Nat.lt_or_ge j q with V|V;exact g j V;(obtain rfl:j=q:=ω);omega⟩ ω ?_;(exact wB))
 have u:∀p∈pgs h.K h.M,p<eY h:=λp w=>by
  rw[<-b]at w;obtain⟨j,F⟩:=List.mem_iff_getElem?.1 w;have V:=(I2.1 F).1;have:=g j ω
  rwa [bm F]at this
 repeat'(first|refine gD ?_|fail)
 (conv=>whnf)
 refine CE (ι:=Nat) (λp=>[(1,.H .box (ab.enc .X h)),(3,.H .box (aH.enc .X (tbl h))),(4,.H .one [I (eY h)]),(5,.H .one (aD .own S2)),(11,.H .one [I ((p:Nat):Int)])]) (λp=>p<=eY h/\cY p (vG h)=true) (λp=>eY h - p) 0 ?_ ⟨U0 _,rfl⟩ λp w=>?_
 ·exact wB
 obtain⟨w,X⟩:=w;by_cases Y:p<eY h
 ·have c:=ao (xs:=(tbl h).J) Y
  have t:=yX h.u (p:Nat) ω
  repeat'(first|refine gD ?_|(conv=>whnf);first|with_reducible (first|refine CC (aa c) ?_|refine Bf.NB (λa=>?_) (λa=>?_))|refine CG (mL S2 _ ω) ⟨⟨rfl,dX _⟩,⟨rfl,rfl⟩,trivial⟩ ?_|refine C7 t ?_|refine Bf.P (λa=>?_) (λa=>?_))
  all_goals first
   | exact W0 (λz=>[B z]) ((Ga (cA Y (by unfold vG;rw[<-b];grind))).symm)
   | ((conv=>whnf);refine CD (p+1) ⟨ω,bS X (by unfold vG;rw[<-b];grind)⟩ ω ?_;(exact wB))
 repeat'(first|refine gD ?_|fail)
 obtain rfl:p=eY h:=ω
 exact W0 (λz=>[B z]) ((ym L Q u X).symm)
set_option maxHeartbeats 8000000
theorem BD{z1 z2:Int}(h:z1=z2):Pm (I z1) (I z2):=by subst h;rfl
theorem Jl{S:List Int}{p z:Int} : z∈ins S p↔z∈S\/z=p:=by
 unfold ins;split
 ·rename_i a
  exact⟨.inl,λh=>h.elim id λe=>e ▸ a⟩
 simp
theorem yt(S:List Int):(fW S).map (·.1)=S:=by unfold fW;rw[List.map_map];simp[U5]
theorem m0{t:aH}{p:Nat}(a:p<t.J.length):ac t (p:Nat)=nth t.J p:=by
 unfold ac;rw[C9 ω];simp
theorem Da(h:ab)(Q:dN h.K)(R:dM h.M)(l:wG h)(T:iC h.u)(G:bn h.K h.M=true):ar Tryz.prog 74 false [.val (some 24) (ab.enc .X h)] .one [B (pages0 h&&og h)]:=by
 have hl1:=Q.1;have hl2:=R.1;have hl3:eY h<=1048576:=l.1;have hl4:=T.1;have d:pages0 h=false->[B false]=[B (pages0 h&&og h)]:=λe=>by rw[e];rfl
 refine fO 177 [(4,14,[25,26,27,28,29,30,31,32,33,34,35,36,37,38]),(16,14,[60,61,62,63,64,65,66,67,68,69,70,71,72,73]),(28,18,[102,103,104,105,106,107,108,109,110,111,112,113,114,115,116,117,118,119]),(42,23,[152,153,154,155,156,157,158,159,160,161,162,163,164,165,166,167,168,169,170,171,172,173,174])] Tryz.func74 rfl ?_
 repeat'(first|refine gO ?_|fail)
 (conv=>whnf)
 refine CE (ι:=Nat) (λi=>[(1,.H .box (ab.enc .X h)),(18,.H .one (bX .X h.K)),(19,.H .one [I (h.K.length)]),(20,.H .one [I ((i:Nat):Int)])]) (λi=>i<=h.K.length/\cY i (xC h.K)=true) (λi=>h.K.length - i) 0 ?_ ⟨U0 _,rfl⟩ λi o=>?_
 ·exact wB
 obtain⟨o,H⟩:=o;by_cases F:i<h.K.length
 ·have g:=ao F
  repeat'(first|refine gD ?_|(conv=>whnf);first|with_reducible (first|refine CC (aa g) ?_|refine Bf.D (λa=>?_) (λa=>?_))|refine CL ω (aa (gy ω F)) ?_)
  all_goals first
   |exact d (ED (cA F (T0 ω)))
   | ((conv=>whnf);refine CD (i+1) ⟨ω,bS H (O0 ω)⟩ ω ?_;(exact wB))
 obtain rfl:i=h.K.length:=ω
 repeat'(first|refine gD ?_|fail)
 (conv=>whnf)
 refine CE (ι:=Nat × List Int) (λi=>[(1,.H .box (ab.enc .X h)),(5,.H .one [.m (fW i.2)]),(42,.H .one (bX .X h.K)),(43,.H .one [I (h.K.length)]),(44,.H .one [I ((i.1:Nat):Int)])]) (λi=>i.1<=h.K.length/\∀z,z∈i.2↔z∈(h.K.take i.1).map (·.R)) (λi=>h.K.length - i.1) ((0,[])) ?_ (⟨U0 _,λz=>Iff.rfl⟩) λi o=>?_
 ·exact wB
 obtain⟨i,S⟩:=i;obtain⟨U,L⟩:=o;simp only at U L |-;by_cases li2:i<h.K.length
 ·have g:=ao li2
  repeat'(first|refine gD ?_|(conv=>whnf);first|with_reducible refine CC (aa g) ?_|refine Mu.mk (wx S _) ?_)
  ((conv=>whnf);refine CD (i+1,ins S (nth h.K i).R) ⟨(by simp only;omega),λz=>by simp only[Jl,L];rw[I5,g];simp⟩ (by simp only;omega) ?_;(exact wB))
 obtain rfl:i=h.K.length:=ω
 rw[t5]at L
 repeat'(first|refine gD ?_|fail)
 (conv=>whnf)
 refine CE (ι:=Nat × List Int) (λk=>[(1,.H .box (ab.enc .X h)),(5,.H .one [.m (fW k.2)]),(53,.H .one (cy .X h.M)),(54,.H .one [I (h.M.length)]),(55,.H .one [I ((k.1:Nat):Int)])]) (λk=>k.1<=h.M.length/\(∀z,z∈k.2↔z∈pgs h.K (h.M.take k.1))/\cY k.1 (sg h)=true) (λk=>h.M.length - k.1) ((0,S)) ?_ (⟨U0 _,λz=>by simp only[L];unfold pgs;simp,rfl⟩) λk V=>?_
 ·exact wB
 obtain⟨k,S2⟩:=k;obtain⟨V,b,W⟩:=V;simp only at V b W |-;by_cases M:k<h.M.length
 ·have g:=ao M
  have hpg:=ue G g
  repeat'(first|refine gD ?_|(conv=>whnf);first|with_reducible (first|refine CC (aa g) ?_|refine Bf.D (λa=>?_) (λa=>?_))|refine CL ω (aa (gy ω M)) ?_)
  all_goals first
   |exact d (sW (cA M (Ng (T0 ω))))
   |have u:yv h.M k=true:=O0 ω
    (conv=>whnf)
    refine CE (ι:=Nat × List Int) (λq=>[(1,.H .box (ab.enc .X h)),(5,.H .one [.m (fW q.2)]),(9,.H .box (a8.enc .X (nth h.M k))),(10,.H .one [I ((nth h.M k).R+(q.1:Nat))]),(53,.H .one (cy .X h.M)),(54,.H .one [I (h.M.length)]),(55,.H .one [I ((k:Nat):Int)])]) (λq=>q.1<=(nth h.M k).a3.toNat/\(∀z,z∈q.2↔z∈S2++lpgs (nth h.M k) q.1)/\cY q.1 (wE h (nth h.M k))=true) (λq=>(nth h.M k).a3.toNat - q.1) ((0,S2)) ?_ (⟨U0 _,λz=>by simp[lpgs],rfl⟩) λq a=>?_
    ·exact wB
    obtain⟨q,X⟩:=q;obtain⟨Y,w,Z⟩:=a;simp only at Y w Z |-;by_cases lq:q<(nth h.M k).a3.toNat
    ·have hfl:=gn h ((nth h.M k).R+(q:Nat))
     repeat'(first|refine gD ?_|(conv=>whnf);first|with_reducible refine Bf.N (λa=>?_) (λa=>?_)|refine C7 (nX h _ l) ?_|refine Mu.mk (wx X _) ?_)
     all_goals first
      |exact d (sW (cA M (MI lq (T0 ω))))
      | ((conv=>whnf)
         refine CD (q+1,ins X ((nth h.M k).R+(q:Nat))) ⟨(by simp only;omega),λz=>by simp only[Jl,w];rw[kR];simp[or_assoc],bS Z (O0 ω)⟩ (by simp only;omega) ?_
         (repeat'(first|exact trivial|rfl|refine CK ?_ ?_|exact BD (by simp;omega))))
    obtain rfl:q=(nth h.M k).a3.toNat:=ω
    repeat'(first|refine gD ?_|fail)
    ((conv=>whnf);refine CD (k+1,X) ⟨(by simp only;omega),(λz=>by simp only[w];rw[o7 _ g];simp[b]),bS W (Eg u Z)⟩ (by simp only;omega) ?_;(exact wB))
 obtain rfl:k=h.M.length:=ω
 rw[t5]at b
 repeat'(first|refine gD ?_|fail)
 (conv=>whnf)
 refine CE (ι:=Nat) (λp=>[(1,.H .box (ab.enc .X h)),(5,.H .one [.m (fW S2)]),(98,.H .one [I (eY h)]),(99,.H .one [I ((p:Nat):Int)])]) (λp=>p<=eY h/\cY p (vG h)=true) (λp=>eY h - p) 0 ?_ ⟨U0 _,rfl⟩ λp O=>?_
 ·exact wB
 obtain⟨O,ap⟩:=O;by_cases lp:p<eY h
 ·have hr:=zN h.u (p:Nat) ω
  have J:=fX h.G (p:Nat) l;rw[m0 lp]at J
  repeat'(first|refine gD ?_|(conv=>whnf);first|with_reducible refine Bf.NB (λa=>?_) (λa=>?_)|refine C7 J ?_|refine Ml.mk (nC (p:Nat) S2) ?_|refine C7 hr ?_|refine Bf.P (λa=>?_) (λa=>?_))
  all_goals first
   |exact d (Ga (cA lp (by unfold vG tbl;have:=b (p:Nat);grind)))
   | ((conv=>whnf);refine CD (p+1) ⟨ω,bS ap (by unfold vG tbl;have:=b (p:Nat);grind)⟩ ω ?_;(exact wB))
 obtain rfl:p=eY h:=ω
 repeat'(first|refine gD ?_|fail)
 have hpn:eY h=h.G.F.Q.J.length:=rfl
 (conv=>whnf)
 refine CE (ι:=Option Int × List Int) (λt=>[(1,.H .box (ab.enc .X h)),(122,.H .one [.it t.1 t.2])]) (λt=>(∀z∈S2,z∈t.2\/z<eY h)/\∀z∈t.2,z∈S2) (λt=>t.2.length) ((none,(fW S2).map (·.1))) ?_ (⟨λz n=>.inl (by rw[yt];exact n),λz n=>by rw[yt]at n;exact n⟩) λt ht=>?_
 ·exact wB
 obtain⟨cur,left⟩:=t;obtain⟨y,C⟩:=ht;simp only at y C |-
 repeat'(first|refine gO ?_|(conv=>whnf);first|with_reducible refine Bf.D (λa=>?_) (λa=>?_)|refine Nt.mk (λa=>?_) (λl1 k l2 a=>?_))
 rotate_left
 ·exact d (Fj (p:=k) ((b k).1 (C k (by subst left;simp))) ω)
 ·((conv=>whnf);refine CD (some k,l1++l2) ⟨λz n=>by have c:=y z n;subst left;simp only[Z2,List.mem_cons]at c |-;rcases c with(c|c|c)|c;exact .inl (.inl c);(subst c;exact .inr ω);exact .inl (.inr c);exact .inr c,λz n=>C z (by subst left;simp only[Z2,List.mem_cons]at n |-;grind)⟩ (by subst left;simp) ?_;(exact wB))
 have K:∀p∈pgs h.K h.M,p<eY h:=λp O=>by
  have c:=y p ((b p).2 O);subst left;simpa using c
 have h0:pages0 h=true:=ym H W K ap;rw[h0,Bool.true_and]
 (conv=>whnf)
 refine CE (ι:=Nat) (λi=>[(1,.H .box (ab.enc .X h)),(136,.H .one (bX .X h.K)),(137,.H .one [I (h.K.length)]),(138,.H .one [I ((i:Nat):Int)])]) (λi=>i<=h.K.length/\cY i (λi=>cY i (lg h i))=true) (λi=>h.K.length - i) 0 ?_ ⟨U0 _,rfl⟩ λi o=>?_
 ·exact wB
 obtain⟨o,H⟩:=o;by_cases F:i<h.K.length
 ·have g:=ao F
  have htl:(h.K.take i).length=i:=by rw[U1];omega
  repeat'(first|refine gD ?_|(conv=>whnf);first|with_reducible refine CC (aa g) ?_|refine CU i rfl (by simp;omega) (λr hr=>by obtain⟨z,-,rfl⟩:=C4.1 hr;rfl) (v4 ..) ?_)
  (conv=>whnf)
  refine CE (ι:=Nat) (λj=>[(1,.H .box (ab.enc .X h)),(14,.H .box (ax.enc .X (nth h.K i))),(136,.H .one (bX .X h.K)),(137,.H .one [I (h.K.length)]),(138,.H .one [I ((i:Nat):Int)]),(146,.H .one (bX .X (h.K.take i))),(147,.H .one [I ((h.K.take i).length)]),(148,.H .one [I ((j:Nat):Int)])]) (λj=>j<=(h.K.take i).length/\cY j (lg h i)=true) (λj=>(h.K.take i).length - j) 0 ?_ ⟨U0 _,rfl⟩ λj hj=>?_
  ·exact wB
  obtain⟨hj,aj⟩:=hj;by_cases lj:j<(h.K.take i).length
  ·have hy:=ao lj
   have he:nth (h.K.take i) j=nth h.K j:=bm (by rw[List.getElem?_take_of_lt ω];exact ao ω);rw[he]at hy;have J:=mg (nth h.K i) (nth h.K j);cases em:meshable (nth h.K i) (nth h.K j)<;>rw[em]at J
   all_goals
    repeat'(first|refine gD ?_|(conv=>whnf);first|with_reducible (first|refine CC (aa hy) ?_|refine Bf.E (λa=>?_) (λa=>?_))|refine C7 (dB (tbl h) _ l) ?_|refine C7 J ?_)
    all_goals first
     | exact W0 (λz=>[B z]) ((by symm;exact cA F (cA (i:=j) ω (by unfold lg;rw[em];grind))))
     | ((conv=>whnf);refine CD (j+1) ⟨ω,bS aj (by unfold lg;rw[em];grind)⟩ ω ?_;(exact wB))
  obtain rfl:j=(h.K.take i).length:=ω
  rw[htl]at aj
  repeat'(first|refine gD ?_|fail)
  ((conv=>whnf);refine CD (i+1) ⟨ω,bS H aj⟩ ω ?_;(exact wB))
 obtain rfl:i=h.K.length:=ω
 repeat'(first|refine gD ?_|fail)
 exact W0 (λz=>[B z]) ((by unfold og;rw[H]))
set_option maxHeartbeats 8000000
theorem lR{α:Type}[Inhabited α](pr:α->Bool)(xs:List α):d9 pr xs = -1\/∃n,n<xs.length/\d9 pr xs=(n:Nat)/\pr (nth xs n)=true:=by
 unfold d9;cases h:xs.findIdx? pr with
 | none=>exact .inl rfl
 | some i=>
  obtain⟨a,b,-⟩:=V6.1 h;exact .inr ⟨i,a,rfl,by rw[bm (C2 a)];exact b⟩
theorem FR{h:ab}{i k:Nat}(a:i<h.K.length)(b:k<(aT h (nth h.K i).R).length)(c:mq h i (nth (aT h (nth h.K i).R) k)=false):va h=false:=by
 unfold va;exact cA a (fg (ao b) c)
theorem BZ(h:ab)(j:dN h.K)(c:wG h):ar Tryz.prog 227 false [.val (some 24) (ab.enc .X h)] .one [B (va h)]:=by
 have l:=j.1;have G:eY h<=1048576:=c.1;refine fO 55 [(4,8,[14,15,16,17,18,19,20,21]),(8,6,[28,29,30,31,32,33]),(9,21,[34,35,36,37,38,39,40,41,42,43,44,45,46,47,48,49,50,51,52,53,54])] Tryz.func227 rfl ?_
 repeat'(first|refine gO ?_|fail)
 (conv=>whnf)
 refine CE (ι:=Nat) (λi=>[(1,.H .box (ab.enc .X h)),(3,.H .one [I ((i:Nat):Int)])]) (λi=>i<=h.K.length/\cY i (λi=>(aT h (nth h.K i).R).all (mq h i))=true) (λi=>h.K.length - i) 0 ?_ ⟨U0 _,rfl⟩ λi w=>?_
 ·exact wB
 obtain⟨w,y⟩:=w;by_cases o:i<h.K.length
 ·have q:=ao o
  have H:=gn h (nth h.K i).R
  repeat'(first|refine gD ?_|(conv=>whnf);first|with_reducible refine CC (aa q) ?_|refine C7 (iy h _ c) ?_)
  (conv=>whnf)
  refine CE (ι:=Nat) (λk=>[(1,.H .box (ab.enc .X h)),(3,.H .one [I ((i:Nat):Int)]),(4,.H .one (aD .own (aT h (nth h.K i).R))),(5,.H .one [I ((k:Nat):Int)])]) (λk=>k<=(aT h (nth h.K i).R).length/\((aT h (nth h.K i).R).take k).all (mq h i)=true) (λk=>(aT h (nth h.K i).R).length - k) (0) ?_ (⟨U0 _,rfl⟩) λk C=>?_
  ·exact wB
  obtain⟨C,E⟩:=C;by_cases r:k<(aT h (nth h.K i).R).length
  ·have d:=ao r
   have a:=jW h (nth (aT h (nth h.K i).R) k) l;rcases lR (ko (nth (aT h (nth h.K i).R) k)) h.K with e|⟨n,J,e,-⟩
   ·rw[show gI h (nth (aT h (nth h.K i).R) k) = -1 from e]at a
    have t:mq h i (nth (aT h (nth h.K i).R) k)=false:=by
     unfold mq;rw[show gI h (nth (aT h (nth h.K i).R) k) = -1 from e,T0 ω,T0 ω];rfl
    repeat'(first|refine gD ?_|(conv=>whnf);first|with_reducible refine CC (aa d) ?_|refine CH rfl (aa d) rfl ?_|refine C7 a ?_)
    all_goals first
     | exact W0 (λz=>[B z]) ((FR o r t).symm)
     
   rw[show gI h (nth (aT h (nth h.K i).R) k)=(n:Nat) from e]at a;have K:=ao J;have F:=mz (nth h.K i) (nth h.K n);have g:mq h i (nth (aT h (nth h.K i).R) k)=(decide ((n:Int)=(i:Nat)) || meshable (nth h.K i) (nth h.K n)):=by
    unfold mq;rw[show gI h (nth (aT h (nth h.K i).R) k)=(n:Nat) from e,O0 (p:=(0:Int)<=(n:Nat)) ω];simp
   cases u:meshable (nth h.K i) (nth h.K n)<;>rw[u]at F
   all_goals
    repeat'(first|refine gD ?_|(conv=>whnf);first|with_reducible (first|refine CC (aa q) ?_|refine CC (aa K) ?_|refine CC (aa d) ?_|refine Bf.N (λb=>?_) (λb=>?_))|refine CH rfl (aa d) rfl ?_|refine C7 a ?_|refine C7 F ?_)
    all_goals first
     | exact W0 (λz=>[B z]) ((FR o r (by rw[g,u];grind)).symm)
     | ((conv=>whnf);refine CD (k+1) ⟨ω,cS d E (by rw[g,u];grind)⟩ ω ?_;(exact wB))
     
  repeat'(first|refine gD ?_|fail)
  ((conv=>whnf);refine CD (i+1) ⟨ω,bS y (gQ ω E)⟩ ω ?_;(exact wB))
 obtain rfl:i=h.K.length:=ω
 repeat'(first|refine gD ?_|fail)
 exact W0 (λz=>[B z]) ((by unfold va;rw[y]))
theorem JY(j:cg)(b:cg.sml j):ar Tryz.prog 232 false [.val (some 5) (cg.enc .X j)] .one [B (rJ j)]:=by
 have c:j.V.S.length<=1048576:=b;refine fO 30 [] Tryz.func232 rfl ?_
 repeat'(first|refine gO ?_|(conv=>whnf);with_reducible refine Bf.E (λa=>?_) (λa=>?_))
 all_goals exact W0 (λz=>[B z]) ((by unfold rJ;first|(symm;exact T0 ω)|(rw[V4,beq_iff_eq,C0];omega)))
theorem mV(sp:List ax)(la:List a8)(a:Int):((denotes sp la a).b6=1->0<=(denotes sp la a).c4/\(denotes sp la a).c4.toNat<sp.length)/\((denotes sp la a).b6=3->0<=(denotes sp la a).c4/\(denotes sp la a).c4.toNat<la.length):=by
 unfold denotes;cases c:sp.findIdx? (cz · a) with
 | some i=>
  obtain⟨b,-⟩:=V6.1 c;simp only[ow];refine⟨λ_=>⟨ω,by simpa using b⟩,λe=>?_⟩;split at e<;>cases e
 | none=>
  cases d:la.findIdx? (bq · a) with
  | some i=>
   obtain⟨b,-⟩:=V6.1 d;exact⟨λe=>(by cases e),λ_=>⟨by simp,by simpa using b⟩⟩
  | none=>exact⟨λe=>(by cases e),λe=>(by cases e)⟩
theorem GP(h:ab)(a c:Int)(d:dN h.K)(e:dM h.M)(b:bn h.K h.M=true)(k:mS a):ar Tryz.prog 377 false [.val (some 24) (ab.enc .X h),.val none [I a],.val none [I c]] .one [B (dt h a c)]:=by
 have j:=nj h.K h.M a d e b k;obtain⟨g,-⟩:=mV h.K h.M a;unfold dt;generalize denotes h.K h.M a=w at j g |-;refine fO 37 [] Tryz.func377 rfl ?_
 repeat'(first|refine gO ?_|(conv=>whnf);first|with_reducible (first|refine Bf.D (λi=>?_) (λi=>?_)|refine Bf.E (λi=>?_) (λi=>?_))|refine C7 j ?_|refine CL (g (by assumption)).1 (aa (ao (g (by assumption)).2)) ?_)
 all_goals exact W0 (λz=>[B z]) ((by grind))
theorem A2(h:ab)(o:bu)(w:jw)(a:denotes h.K h.M o.Addr=w):jg h o=(decide (w.c5=0)&&((decide (w.b6=1)&&decide ((nth h.K w.c4.toNat).d=aJ o.q)) || (decide (w.b6=3)&&decide ((nth h.M w.c4.toNat).q=o.q)))):=by
 unfold jg;rw[a]
theorem jC{h:ab}{i:Nat}(a:i<h.O.length)(b:objAt (IntKind.i64.wrap (h.a - 1)) h i=false):fF h=false:=cA a b
theorem J5{a:Int}{h:ab}{i:Nat}(h1:gS a h i=false):objAt a h i=false:=by unfold objAt;rw[h1];rfl
theorem H0{a:Int}{h:ab}{i:Nat}(h1:(h.O.take i).any (fh (nth h.O i).Id)=true):objAt a h i=false:=by unfold objAt;rw[h1];simp
theorem Jt{a:Int}{h:ab}{i:Nat}(h1:jg h (nth h.O i)=false):objAt a h i=false:=by unfold objAt;rw[h1];simp
theorem AE{a:Int}{h:ab}{i:Nat}(h1:gS a h i=true)(b:(h.O.take i).any (fh (nth h.O i).Id)=false)(c:jg h (nth h.O i)=true):objAt a h i=true:=by unfold objAt;rw[h1,b,c];rfl
theorem GD(h:ab)(l:dN h.K)(n:dM h.M)(g:bn h.K h.M=true)(K:h.O.length<=1048576)(L:h.T.length<=1048576)(H:∀o∈h.O,mS o.Addr):ar Tryz.prog 230 false [.val (some 24) (ab.enc .X h)] .one [B (fF h)]:=by
 refine fO 117 [(5,33,[21,22,23,24,25,26,27,28,29,30,31,32,33,34,35,36,37,38,39,40,41,42,43,44,45,46,47,48,49,50,51,52,53]),(10,9,[59,60,61,62,63,64,65,66,67]),(13,16,[75,76,77,78,79,80,81,82,83,84,85,86,87,88,89,90]),(14,15,[91,92,93,94,95,96,97,98,99,100,101,102,103,104,105])] Tryz.func230 rfl ?_
 repeat'(first|refine gO ?_|fail)
 (conv=>whnf)
 refine CE (ι:=Nat) (λi=>[(1,.H .box (ab.enc .X h)),(3,.H .one [I ((i:Nat):Int)])]) (λi=>i<=h.O.length/\cY i (objAt (IntKind.i64.wrap (h.a - 1)) h)=true) (λi=>h.O.length - i) 0 ?_ ⟨U0 _,rfl⟩ λi t=>?_
 ·exact wB
 obtain⟨t,u⟩:=t;by_cases e:i<h.O.length
 ·have y:=ao e
  have C:=nj h.K h.M (nth h.O i).Addr l n g (H _ (am e));obtain⟨p,q⟩:=mV h.K h.M (nth h.O i).Addr;have b:=A2 h (nth h.O i) _ rfl;generalize denotes h.K h.M (nth h.O i).Addr=w at C p q b;by_cases c:gS (IntKind.i64.wrap (h.a - 1)) h i=true
  ·have a:=c
   unfold gS at a;rw[C0]at a
   repeat'(first|refine gD ?_|(conv=>whnf);first|with_reducible (first|refine CC (aa y) ?_|refine Bf.D (λd=>?_) (λd=>?_))|refine CL ω (aa (gy ω e)) ?_|refine C7 (aG _ _ _) ?_|refine CM rfl ?_)
   all_goals
    (conv=>whnf)
    refine CE (ι:=Nat) (λk=>[(1,.H .box (ab.enc .X h)),(3,.H .one [I ((i:Nat):Int)]),(4,.H .box (bu.enc .X (nth h.O i))),(5,.H .one [I ((k:Nat):Int)])]) (λk=>k<=i/\(h.O.take k).any (fh (nth h.O i).Id)=false) (λk=>i - k) (0) ?_ (⟨U0 _,rfl⟩) λk F=>?_
    ·exact wB
    obtain⟨F,G⟩:=F;by_cases J:k<i
    ·have r:=ao (xs:=h.O) (i:=k) ω
     repeat'(first|refine gD ?_|(conv=>whnf);first|with_reducible (first|refine CC (aa r) ?_|refine Bf.E (λd=>?_) (λd=>?_)))
     all_goals first
      | exact W0 (λz=>[B z]) ((jC e (H0 (Db (i:=k) (by rw[List.getElem?_take_of_lt J];exact r) (O0 (by assumption))))).symm)
      | ((conv=>whnf);refine CD (k+1) ⟨ω,x5 r G (T0 (by assumption))⟩ ω ?_;(exact wB))
    obtain rfl:k=i:=ω
    repeat'(first|refine gD ?_|(conv=>whnf);first|with_reducible (first|refine Bf.E (λd=>?_) (λd=>?_)|refine Bf.N (λd=>?_) (λd=>?_))|refine C7 C ?_|refine CL (p (by assumption)).1 (aa (ao (p (by assumption)).2)) ?_|refine CL (q (by assumption)).1 (aa (ao (q (by assumption)).2)) ?_|refine C7 (kN _) ?_)
    all_goals first
     | exact W0 (λz=>[B z]) ((jC e (Jt (by rw[b];grind))).symm)
     | ((conv=>whnf);refine CD (k+1) ⟨ω,bS u (AE c G (by rw[b];grind))⟩ ω ?_;(exact wB))
     
  have j:gS (IntKind.i64.wrap (h.a - 1)) h i=false:=by simpa using c
  have a:=j;unfold gS at a;rw[U4]at a
  repeat'(first|refine gD ?_|(conv=>whnf);first|with_reducible (first|refine CC (aa y) ?_|refine Bf.D (λd=>?_) (λd=>?_))|refine CL ω (aa (gy ω e)) ?_|refine C7 (aG _ _ _) ?_|refine CM rfl ?_)
  all_goals first
   | exact W0 (λz=>[B z]) ((jC e (J5 j)).symm)
   
 obtain rfl:i=h.O.length:=ω
 repeat'(first|refine gD ?_|fail)
 exact W0 (λz=>[B z]) ((show true=fF h from u.symm))
theorem pY(o a:bu):ar Tryz.prog 248 false [.val (some 4) (bu.enc .X o),.ptr (bu.enc .X a)] .one [B (fh a.Id o)]:=by
 refine fO 9 [] Tryz.func248 rfl ?_
 repeat'(first|refine gO ?_|fail)
 exact W0 (λz=>[B z]) ((by unfold fh;rw[V4];simp))
theorem EP(h:ab)(n:dN h.K)(o:dM h.M)(J:h.O.length<=1048576)(K:h.T.length<=1048576):ar Tryz.prog 78 false [.val (some 24) (ab.enc .X h)] .one [B (fF h)]:=by
 refine fO 105 [(4,33,[16,17,18,19,20,21,22,23,24,25,26,27,28,29,30,31,32,33,34,35,36,37,38,39,40,41,42,43,44,45,46,47,48]),(9,16,[62,63,64,65,66,67,68,69,70,71,72,73,74,75,76,77]),(10,15,[78,79,80,81,82,83,84,85,86,87,88,89,90,91,92])] Tryz.func78 rfl ?_
 repeat'(first|refine gO ?_|fail)
 (conv=>whnf)
 refine CE (ι:=Nat) (λi=>[(1,.H .box (ab.enc .X h)),(9,.H .one (p8 .X h.O)),(10,.H .one [I (h.O.length)]),(11,.H .one [I ((i:Nat):Int)])]) (λi=>i<=h.O.length/\cY i (objAt (IntKind.i64.wrap (h.a - 1)) h)=true) (λi=>h.O.length - i) 0 ?_ ⟨U0 _,rfl⟩ λi F=>?_
 ·exact wB
 obtain⟨F,G⟩:=F;by_cases g:i<h.O.length
 ·have p:=ao g
  have H:=sF h.K h.M (nth h.O i).Addr n o;obtain⟨q,t⟩:=mV h.K h.M (nth h.O i).Addr;have b:=A2 h (nth h.O i) _ rfl;generalize denotes h.K h.M (nth h.O i).Addr=w at H q t b;have j:=tB (h.O.take i) (fh (nth h.O i).Id) (by rw[U1];omega);by_cases c:gS (IntKind.i64.wrap (h.a - 1)) h i=true
  ·have a:=c
   unfold gS at a;rw[C0]at a;cases d:(h.O.take i).any (fh (nth h.O i).Id)<;>rw[d]at j
   ·repeat'(first|refine gD ?_|(conv=>whnf);first|with_reducible (first|refine CC (aa p) ?_|refine Bf.D (λe=>?_) (λe=>?_)|refine Bf.E (λe=>?_) (λe=>?_)|refine Bf.N (λe=>?_) (λe=>?_))|refine CL ω (aa (gy ω g)) ?_|refine C7 (aM _ _ _) ?_|refine CU i rfl (by simp;omega) (λr u=>by obtain⟨z,-,rfl⟩:=C4.1 u;rfl) (v4 ..) ?_|refine Cq.mk (zC (some 4) (bu.enc .X) (fh (nth h.O i).Id) (h.O.take i)) (pY default (nth h.O i)).has (λL k rcs C=>by obtain⟨y,-,rfl,rfl,rfl⟩:=C;exact pY y (nth h.O i)) ?_|refine C7 j ?_|refine C7 H ?_|refine CL (q (by assumption)).1 (aa (ao (q (by assumption)).2)) ?_|refine CL (t (by assumption)).1 (aa (ao (t (by assumption)).2)) ?_|refine C7 (BW _) ?_|refine CM rfl ?_)
    all_goals first
     | exact W0 (λz=>[B z]) ((jC g (Jt (by rw[b];grind))).symm)
     | ((conv=>whnf);refine CD (i+1) ⟨ω,bS G (AE c d (by rw[b];grind))⟩ ω ?_;(exact wB))
     
   repeat'(first|refine gD ?_|(conv=>whnf);first|with_reducible (first|refine CC (aa p) ?_|refine Bf.D (λe=>?_) (λe=>?_))|refine CL ω (aa (gy ω g)) ?_|refine C7 (aM _ _ _) ?_|refine CU i rfl (by simp;omega) (λr u=>by obtain⟨z,-,rfl⟩:=C4.1 u;rfl) (v4 ..) ?_|refine Cq.mk (zC (some 4) (bu.enc .X) (fh (nth h.O i).Id) (h.O.take i)) (pY default (nth h.O i)).has (λL k rcs C=>by obtain⟨y,-,rfl,rfl,rfl⟩:=C;exact pY y (nth h.O i)) ?_|refine C7 j ?_|refine CM rfl ?_)
   all_goals first
    | exact W0 (λz=>[B z]) ((jC g (H0 d)).symm)
    
  have l:gS (IntKind.i64.wrap (h.a - 1)) h i=false:=by simpa using c
  have a:=l;unfold gS at a;rw[U4]at a
  repeat'(first|refine gD ?_|(conv=>whnf);first|with_reducible (first|refine CC (aa p) ?_|refine Bf.D (λe=>?_) (λe=>?_))|refine CL ω (aa (gy ω g)) ?_|refine C7 (aM _ _ _) ?_|refine CM rfl ?_)
  all_goals first
   | exact W0 (λz=>[B z]) ((jC g (J5 l)).symm)
   
 obtain rfl:i=h.O.length:=ω
 repeat'(first|refine gD ?_|fail)
 exact W0 (λz=>[B z]) ((show true=fF h from G.symm))
set_option maxHeartbeats 8000000
theorem JU{sp:List ax}{la:List a8}{n:Nat}(h:kr sp la n=true):lO sp la (n+1)=lO sp la n++[(n:Int)]:=by
 unfold lO;rw[List.range_succ,List.filter_append,T5];simp[h]
theorem Mw{sp:List ax}{la:List a8}{n:Nat}(h:kr sp la n=false):lO sp la (n+1)=lO sp la n:=by
 unfold lO;rw[List.range_succ,List.filter_append,T5];simp[h]
theorem zS(sp:List ax)(la:List a8)(n:Nat):(lO sp la n).length<=n:=by
 unfold lO;rw[Z0];exact W4 (List.length_filter_le ..) (by simp)
theorem rK{sp:List ax}{la:List a8}{n:Nat}{w:jw}(a:denotes sp la (n:Nat)=w):kr sp la n=(decide (w.c5=0)&&(decide (w.b6=1) || decide (w.b6=3))):=by
 unfold kr;rw[a]
theorem NW{n:Nat}(h:n<=1048576):mS (n:Nat):=⟨ω,ω⟩
theorem wU(sp:List ax)(la:List a8)(c:dN sp)(d:dM la)(a:bn sp la=true):ar Tryz.prog 378 false [.val none (bX .X sp),.val none (cy .X la)] .one (aD .own (jb sp la)):=by
 have g:=me sp la c d;rw[a]at g;refine fO 40 [] Tryz.func378 rfl ?_ (.inr (bH _))
 repeat'(first|refine gO ?_|fail)
 (conv=>whnf)
 refine CE (ι:=Nat) (λn=>[(0,.H .one (bX .X sp)),(1,.H .one (cy .X la)),(5,.H .one (aD .own (lO sp la n))),(6,.H .one [I ((n:Nat):Int)])]) (λn=>n<=512) (λn=>512 - n) (0) ?_ (U0 _) λn o=>?_
 ·exact wB
 have i:=zS sp la n;by_cases p:n<512
 ·have h:=nj sp la (n:Nat) c d a (NW ω)
  generalize j:denotes sp la (n:Nat)=w at h;have e:=rK j
  repeat'(first|refine gD ?_|(conv=>whnf);first|with_reducible refine Bf.E (λk=>?_) (λk=>?_)|refine C7 g ?_|refine C7 h ?_|refine CT cn (λr l=>by rw[I1.1 l];rfl) (by simp[aY,eg]) (by simp;omega) (by simp only[Z0];exact yI (by simp;omega) (by decide)) rfl ?_)
  all_goals first
   |(have b:kr sp la n=true:=by rw[e];grind
     (conv=>whnf)
     refine CD (n+1) ω ω ?_;rw[JU b]
     (repeat'(first|exact trivial|rfl|exact CK rfl (CK (W0 (C.s dQ.own) (by simp[rI])) trivial)|refine CK ?_ ?_)))
   |(have b:kr sp la n=false:=by rw[e];grind
     (conv=>whnf)
     refine CD (n+1) ω ω ?_;rw[Mw b]
     (exact wA))
 obtain rfl:n=512:=ω
 repeat'(first|refine gD ?_|(conv=>whnf);refine C7 g ?_)
 rfl
theorem yA(m:aK)(a:m.a1.length=m.U.length):∀i,i<=m.U.length->(((flight1 m i).length+(flight2 m i).length:Nat):Int)=bx m i
 | 0,_=>rfl
 | i+1,h=>by
  have d:=yA m a i ω;have b:=ao (xs:=m.U) (i:=i) ω;have c:=ao (xs:=m.a1) (i:=i) ω;rw[ny b,mY c];simp only[I3,Z0];show _=bx m i+((nth m.U i).length+(nth m.a1 i).length);omega
theorem su{m:aK}(h:bN m=true):(aN m).length<=30:=by
 have a:=nN h;have b:=yA m a.2.2 m.U.length (z3 _);have c:bx m m.U.length<=30:=by
  unfold bN at h;simp only[I0,C0]at h;exact h.2
 rw[oU h,I3,a.2.2];omega
theorem DU{m:aK}(d:aK.wf m):∀a∈aN m,mS a:=by
 intro a b;unfold aN at b;split at b
 ·rcases Z2.1 b with h|h
  ·obtain⟨l,c,h⟩:=List.mem_flatMap.1 h
   obtain⟨p,e,rfl⟩:=C4.1 h;exact((d.1.2 l c).2 p e).2
  obtain⟨l,c,h⟩:=List.mem_flatten.1 h;exact(d.2.2 l c).2 a h
 cases b
theorem JC{h:ab}(h1:h.T.all (fk h)=false):ja h=false:=by unfold ja iv;rw[h1];rfl
theorem JV{h:ab}(h1:h.a9.a6.all (ik h)=false):ja h=false:=by unfold ja iv;rw[h1];simp
theorem JE{h:ab}(h1:(aN h.y).all (kA h)=false):ja h=false:=by unfold ja iv;rw[h1];simp
theorem J8{h:ab}{i:Nat}(a:i<(holders h).length)(b:nth (holders h) i∈(holders h).take i):ja h=false:=by
 have c:decide (holders h).Nodup=false:=Nw (S:=(holders h).take i) (p:=nth (holders h) i) (by
   have:=ao a;have e:(holders h).take i++[nth (holders h) i]=(holders h).take (i+1):=by rw[I5,this];rfl
   rw[e];exact List.take_prefix ..) b
 unfold ja;rw[c];simp
theorem v7{h:ab}{i:Nat}{c:aE}(a:h.T[i]? = some c):((h.T.take (i+1)).flatMap λc=>c.b.flatten)=((h.T.take i).flatMap λc=>c.b.flatten)++c.b.flatten:=by
 rw[I5,a,List.flatMap_append];simp
theorem xk{c:aE}{k:Nat}{l:List Int}(a:c.b[k]? = some l):(c.b.take (k+1)).flatten=(c.b.take k).flatten++l:=by
 rw[I5,a,List.flatten_append];simp
theorem G1(h:ab)(hs:ab.sml h)(hw:ab.wf h)(y:bn h.K h.M=true)(G:bN h.y=true)(hco:∀c∈h.T,bA c=true):ar Tryz.prog 231 false [.val (some 24) (ab.enc .X h)] .one [B (ja h)]:=by
 obtain⟨-,-,N,O,hso,hsc,hsm,hsq,-⟩:=hs;obtain⟨-,-,-,-,-,hwc,hwm,hwq,-⟩:=hw;have hlo:h.O.length<=1048576:=hso.1;have hlc:h.T.length<=1048576:=hsc.1;have hlq:h.a9.a6.length<=1048576:=hsq.1;have hfl:=su G;have hfw:=DU hwm;have H:∀a c,mS a->ar Tryz.prog 377 false [.val (some 24) (ab.enc .X h),.val none [I a],.val none [I c]] .one [B (dt h a c)]:=λa c ha=>GP h a c N O y ha
 refine fO 159 [(16,8,[63,64,65,66,67,68,69,70]),(22,17,[86,87,88,89,90,91,92,93,94,95,96,97,98,99,100,101,102]),(29,7,[122,123,124,125,126,127,128]),(35,8,[142,143,144,145,146,147,148,149])] Tryz.func231 rfl ?_
 repeat'(first|refine gO ?_|fail)
 (conv=>whnf)
 refine CE (ι:=Nat × List Int) (λi=>[(1,.H .box (ab.enc .X h)),(3,.H .one (aD .own i.2)),(4,.H .one [I ((i.1:Nat):Int)])]) (λi=>i.1<=h.O.length/\i.2=(h.O.take i.1).map (·.Addr)) (λi=>h.O.length - i.1) ((0,[])) ?_ (⟨U0 _,rfl⟩) λi E=>?_
 ·exact wB
 obtain⟨i,S⟩:=i;obtain⟨E,M⟩:=E;simp only at E M |-;have hSl:S.length=i:=by rw[M,Z0,U1];omega
 by_cases li:i<h.O.length
 ·have t:=ao li
  repeat'(first|refine gD ?_|(conv=>whnf);first|with_reducible refine CC (aa t) ?_|refine CT cn (λr u=>by rw[I1.1 u];rfl) (by simp[aY,eg]) (by simp;omega) (by simp only[Z0];exact yI (by simp;omega) (by decide)) rfl ?_)
  ((conv=>whnf)
   refine CD (i+1,S++[(nth h.O i).Addr]) ⟨(by simp only;omega),(by simp only;rw[M,I5,t];simp)⟩ (by simp only;omega) ?_
   (repeat'(first|exact trivial|rfl|exact CK rfl (CK (W0 (C.s dQ.own) (by simp[rI])) trivial)|refine CK ?_ ?_)))
 obtain rfl:i=h.O.length:=ω
 rw[t5]at M
 repeat'(first|refine gD ?_|fail)
 (conv=>whnf)
 refine CE (ι:=Nat × List Int) (λi=>[(1,.H .box (ab.enc .X h)),(3,.H .one (aD .own i.2)),(5,.H .one [I ((i.1:Nat):Int)])]) (λi=>i.1<=h.T.length/\i.2=S++((h.T.take i.1).flatMap λc=>c.b.flatten)/\(h.T.take i.1).all (fk h)=true/\i.2.length<=1048576+32*i.1) (λi=>h.T.length - i.1) ((0,S)) ?_ (⟨U0 _,by simp,rfl,by simp only;omega⟩) λi E=>?_
 ·exact wB
 obtain⟨i,S2⟩:=i;obtain⟨hi2,n,U,P⟩:=E;simp only at hi2 n U P |-;by_cases li2:i<h.T.length
 ·have t:=ao li2
  obtain⟨h4,h8⟩:=uQ (hco _ (am li2));have hwl:=hwc.2 _ (am li2)
  repeat'(first|refine gD ?_|(conv=>whnf);with_reducible refine CC (aa t) ?_)
  (conv=>whnf)
  refine CE (ι:=Nat × List Int) (λk=>[(1,.H .box (ab.enc .X h)),(3,.H .one (aD .own k.2)),(5,.H .one [I ((i:Nat):Int)]),(6,.H .one [I ((k.1:Nat):Int)])]) (λk=>k.1<=(nth h.T i).b.length/\k.2=S2++((nth h.T i).b.take k.1).flatten/\cY k.1 (rQ h (nth h.T i))=true/\k.2.length<=S2.length+8*k.1) (λk=>(nth h.T i).b.length - k.1) ((0,S2)) ?_ (⟨U0 _,by simp,rfl,by simp⟩) λk hk=>?_
  ·exact wB
  obtain⟨k,V⟩:=k;obtain⟨hk,w,ak,hb3⟩:=hk;simp only at hk w ak hb3 |-;by_cases W:k<(nth h.T i).b.length
  ·have hy:=ao W
   have hl8:=h8 _ (am W);have hwa:=(hwl.2 _ (am W)).2
   repeat'(first|refine gD ?_|(conv=>whnf);first|with_reducible (first|refine CC (aa t) ?_|refine CC (aa hy) ?_))
   (conv=>whnf)
   refine CE (ι:=Nat × List Int) (λj=>[(1,.H .box (ab.enc .X h)),(3,.H .one (aD .own j.2)),(5,.H .one [I ((i:Nat):Int)]),(6,.H .one [I ((k:Nat):Int)]),(7,.H .one (aD .X (nth (nth h.T i).b k))),(8,.H .one [I ((j.1:Nat):Int)])]) (λj=>j.1<=(nth (nth h.T i).b k).length/\j.2=V++(nth (nth h.T i).b k).take j.1/\((nth (nth h.T i).b k).take j.1).all (λa=>dt h a (k:Nat))=true) (λj=>(nth (nth h.T i).b k).length - j.1) ((0,V)) ?_ (⟨U0 _,by simp,rfl⟩) λj hj=>?_
   ·exact wB
   obtain⟨j,S4⟩:=j;obtain⟨hj,o,X⟩:=hj;simp only at hj o X |-;have hl4:S4.length=V.length+j:=by rw[o,I3,U1];omega
   by_cases Y:j<(nth (nth h.T i).b k).length
   ·have d:=ao Y
    have b:=H (nth (nth (nth h.T i).b k) j) (k:Nat) (hwa _ (am Y));cases p:dt h (nth (nth (nth h.T i).b k) j) (k:Nat)<;>rw[p]at b
    ·repeat'(first|refine gD ?_|(conv=>whnf);first|with_reducible refine CC (aa d) ?_|refine C7 b ?_)
     exact W0 (λz=>[B z]) ((JC (fg t (by unfold fk;exact cA W (fg d p)))).symm)
    repeat'(first|refine gD ?_|(conv=>whnf);first|with_reducible refine CC (aa d) ?_|refine C7 b ?_|refine CT cn (λr u=>by rw[I1.1 u];rfl) (by simp[aY,eg]) (by simp;omega) (by show _*8<=_;simp;omega) rfl ?_)
    ((conv=>whnf)
     refine CD (j+1,S4++[nth (nth (nth h.T i).b k) j]) ⟨(by simp only;omega),(by simp only;rw[o,I5,d,O5];rfl),cS d X p⟩ (by simp only;omega) ?_
     (repeat'(first|exact trivial|rfl|exact CK rfl (CK (W0 (C.s dQ.own) (by simp[rI])) trivial)|refine CK ?_ ?_)))
   obtain rfl:j=(nth (nth h.T i).b k).length:=ω
   rw[t5]at o X
   repeat'(first|refine gD ?_|fail)
   ((conv=>whnf);refine CD (k+1,S4) ⟨(by simp only;omega),(by simp only;rw[o,w,xk hy,O5]),bS ak X,(by simp only;omega)⟩ (by simp only;omega) ?_;(exact wB))
  obtain rfl:k=(nth h.T i).b.length:=ω
  rw[t5]at w
  repeat'(first|refine gD ?_|(conv=>whnf);with_reducible refine CC (aa t) ?_)
  ((conv=>whnf);refine CD (i+1,V) ⟨(by simp only;omega),(by simp only;rw[w,n,v7 t,O5]),cS t U ak,(by simp only;omega)⟩ (by simp only;omega) ?_;(exact wB))
 obtain rfl:i=h.T.length:=ω
 rw[t5]at n U
 repeat'(first|refine gD ?_|fail)
 (conv=>whnf)
 refine CE (ι:=Nat × List Int) (λq=>[(1,.H .box (ab.enc .X h)),(3,.H .one (aD .own q.2)),(9,.H .one [I ((q.1:Nat):Int)])]) (λq=>q.1<=h.a9.a6.length/\q.2=S2++(h.a9.a6.take q.1).map (·.Addr)/\(h.a9.a6.take q.1).all (ik h)=true) (λq=>h.a9.a6.length - q.1) ((0,S2)) ?_ (⟨U0 _,by simp,rfl⟩) λq Q=>?_
 ·exact wB
 obtain⟨q,R⟩:=q;obtain⟨J,g,Z⟩:=Q;simp only at J g Z |-;have hl5:R.length=S2.length+q:=by rw[g,I3,Z0,U1];omega
 by_cases T:q<h.a9.a6.length
 ·have d:=ao T
  have b:=H (nth h.a9.a6 q).Addr (nth h.a9.a6 q).d (hwq.2.2 _ (am T)).1;cases p:dt h (nth h.a9.a6 q).Addr (nth h.a9.a6 q).d<;>rw[p]at b
  ·repeat'(first|refine gD ?_|(conv=>whnf);first|with_reducible refine CC (aa d) ?_|refine C7 b ?_)
   exact W0 (λz=>[B z]) ((JV (fg d p)).symm)
  repeat'(first|refine gD ?_|(conv=>whnf);first|with_reducible refine CC (aa d) ?_|refine C7 b ?_|refine CT cn (λr u=>by rw[I1.1 u];rfl) (by simp[aY,eg]) (by simp;omega) (by show _*8<=_;simp;omega) rfl ?_)
  ((conv=>whnf)
   refine CD (q+1,R++[(nth h.a9.a6 q).Addr]) ⟨(by simp only;omega),(by simp only;rw[g,I5,d,T5,O5];rfl),cS d Z p⟩ (by simp only;omega) ?_
   (repeat'(first|exact trivial|rfl|exact CK rfl (CK (W0 (C.s dQ.own) (by simp[rI])) trivial)|refine CK ?_ ?_)))
 obtain rfl:q=h.a9.a6.length:=ω
 rw[t5]at g Z
 repeat'(first|refine gD ?_|(conv=>whnf);refine C7 (zf h.y hsm) ?_)
 (conv=>whnf)
 refine CE (ι:=Nat × List Int) (λq=>[(1,.H .box (ab.enc .X h)),(3,.H .one (aD .own q.2)),(10,.H .one (aD .own (aN h.y))),(11,.H .one [I ((q.1:Nat):Int)])]) (λq=>q.1<=(aN h.y).length/\q.2=R++(aN h.y).take q.1/\((aN h.y).take q.1).all (kA h)=true) (λq=>(aN h.y).length - q.1) ((0,R)) ?_ (⟨U0 _,by simp,rfl⟩) λq Q=>?_
 ·exact wB
 obtain⟨q,e⟩:=q;obtain⟨J,l,aq6⟩:=Q;simp only at J l aq6 |-;have hl6:e.length=R.length+q:=by rw[l,I3,U1];omega
 by_cases T:q<(aN h.y).length
 ·have d:=ao T
  have b:=H (nth (aN h.y) q) (-1) (hfw _ (am T));cases p:dt h (nth (aN h.y) q) (-1)<;>rw[p]at b
  ·repeat'(first|refine gD ?_|(conv=>whnf);first|with_reducible refine CC (aa d) ?_|refine CH rfl (aa d) rfl ?_|refine C7 b ?_)
   exact W0 (λz=>[B z]) ((JE (fg d p)).symm)
  repeat'(first|refine gD ?_|(conv=>whnf);first|with_reducible refine CC (aa d) ?_|refine CH rfl (aa d) rfl ?_|refine C7 b ?_|refine CT cn (λr u=>by rw[I1.1 u];rfl) (by simp[aY,eg]) (by simp;omega) (by show _*8<=_;simp;omega) rfl ?_)
  ((conv=>whnf)
   refine CD (q+1,e++[nth (aN h.y) q]) ⟨(by simp only;omega),(by simp only;rw[l,I5,d,O5];rfl),cS d aq6 p⟩ (by simp only;omega) ?_
   (repeat'(first|exact trivial|rfl|exact CK rfl (CK (W0 (C.s dQ.own) (by simp[rI])) trivial)|refine CK ?_ ?_)))
 obtain rfl:q=(aN h.y).length:=ω
 rw[t5]at l aq6;have F:e=holders h:=by rw[l,g,n,M];rfl
 have K:iv h=true:=by unfold iv;rw[U,Z,aq6];rfl
 have hbig:e.length<=100000000:=ω
 clear l g n M hSl hl5 P hl6
 repeat'(first|refine gD ?_|fail)
 (conv=>whnf)
 refine Lp.fz 3 (ι:=Nat) (λi=>[(1,.H .box (ab.enc .X h)),(3,.H .one (aD .X e)),(12,.H .one [I ((i:Nat):Int)])]) (λi=>i<=e.length/\(e.take i).Nodup) (λi=>e.length - i) 0 ?_ ⟨U0 _,by simp⟩ λi E=>?_
 ·(repeat'(first|exact trivial|rfl|exact CK rfl (show Mf (eB (aD .own e)) (aD .X e) by rw[dX];exact mH _)|refine CK ?_ ?_))
 obtain⟨E,L⟩:=E;by_cases Y:i<e.length
 ·have d:=ao Y
  have htl:(e.take i).length=i:=by rw[U1];omega
  repeat'(first|refine gD ?_|(conv=>whnf);first|with_reducible (first|refine CC (aa d) ?_|refine Bf.D (λQ=>?_) (λQ=>?_))|refine CU i rfl (by simp;omega) (λr u=>by obtain⟨z,-,rfl⟩:=C4.1 u;rfl) (v4 ..) ?_|refine C7 (mL (e.take i) _ ω) ?_)
  all_goals first
   | exact W0 (λz=>[B z]) ((by rw[F]at *;exact(J8 (by assumption) (by assumption)).symm))
   | ((conv=>whnf);refine CD (i+1) ⟨ω,by rw[I5,d];exact ly L (by assumption)⟩ ω ?_;(exact wB))
 obtain rfl:i=e.length:=ω
 rw[t5]at L;have hlv:=zS h.K h.M 512
 repeat'(first|refine gD ?_|(conv=>whnf);refine C7 (wU h.K h.M N O y) ?_)
 exact W0 (λz=>[B z]) ((by unfold ja;rw[K,<-F,O0 L,Bool.true_and,Bool.true_and];rw[V4,beq_iff_eq,C0];unfold jb at *;omega))
set_option maxHeartbeats 8000000
def dr(h:ab):Bool:=(bN h.y&&decide (h.T.length=h.y.U.length))&&gv h.a9
def dy(h:ab):Bool:=((((((lf h&&va h)&&dr h)&&kG h)&&h.T.all bA)&&cj h)&&(fF h&&ja h))&&qE h
theorem oI(h:ab)(hs:ab.sml h)(hw:ab.wf h):ar Tryz.prog 70 false [.val (some 24) (ab.enc .X h)] .one [B (dy h)]:=by
 have R:=hs;have S:=hw;obtain⟨w,y,b,l,T,C,E,F,G⟩:=hs;obtain⟨-,-,-,-,U,hwc,hwm,hwq,-⟩:=hw;have n:wG h:=w.1.2;have hpn:eY h<=1048576:=n.1;have V:h.O.length<=1048576:=T.1;have W:h.T.length<=1048576:=C.1;have hlq:h.a9.a6.length<=1048576:=F.1;have hlb:h.y.U.length<=1048576:=E.1.1;have d:=mn h.G w;have e:=mh (eY h) h.u ⟨ω,ω⟩ y;have g:=me h.K h.M b l;have r:=BZ h b n;have H:=lV h.y E;have X:=oK h.a9 F;cases Y:a7 h.G<;>rw[Y]at d
 ·refine fO 150 [(8,10,[67,68,69,70,71,72,73,74,75,76])] Tryz.func70 rfl ?_
  repeat'(first|refine gO ?_|(conv=>whnf);refine C7 d ?_)
  all_goals first
   | exact W0 (λz=>[B z]) ((by unfold dy lf;rw[Y];simp))
   
 cases Z:bC (eY h) h.u<;>rw[Z]at e
 ·refine fO 150 [(8,10,[67,68,69,70,71,72,73,74,75,76])] Tryz.func70 rfl ?_
  repeat'(first|refine gO ?_|(conv=>whnf);first|refine C7 d ?_|refine C7 e ?_)
  all_goals first
   | exact W0 (λz=>[B z]) ((by unfold dy lf;rw[Z];simp))
   
 cases u:bn h.K h.M<;>rw[u]at g
 ·refine fO 150 [(8,10,[67,68,69,70,71,72,73,74,75,76])] Tryz.func70 rfl ?_
  repeat'(first|refine gO ?_|(conv=>whnf);first|refine C7 d ?_|refine C7 e ?_|refine C7 g ?_)
  all_goals first
   | exact W0 (λz=>[B z]) ((by unfold dy lf;rw[u];simp))
   
 have p:=FL h b l n y u;cases e4:pages0 h<;>rw[e4]at p
 ·refine fO 150 [(8,10,[67,68,69,70,71,72,73,74,75,76])] Tryz.func70 rfl ?_
  repeat'(first|refine gO ?_|(conv=>whnf);first|refine C7 d ?_|refine C7 e ?_|refine C7 g ?_|refine C7 p ?_)
  all_goals first
   | exact W0 (λz=>[B z]) ((by unfold dy lf;rw[e4];simp))
   
 cases e5:va h<;>rw[e5]at r
 ·refine fO 150 [(8,10,[67,68,69,70,71,72,73,74,75,76])] Tryz.func70 rfl ?_
  repeat'(first|refine gO ?_|(conv=>whnf);first|refine C7 d ?_|refine C7 e ?_|refine C7 g ?_|refine C7 p ?_|refine C7 r ?_)
  all_goals first
   | exact W0 (λz=>[B z]) ((by unfold dy ;rw[e5];simp))
   
 cases Q:bN h.y<;>rw[Q]at H
 ·refine fO 150 [(8,10,[67,68,69,70,71,72,73,74,75,76])] Tryz.func70 rfl ?_
  repeat'(first|refine gO ?_|(conv=>whnf);first|refine C7 d ?_|refine C7 e ?_|refine C7 g ?_|refine C7 p ?_|refine C7 r ?_|refine C7 H ?_)
  all_goals first
   | exact W0 (λz=>[B z]) ((by unfold dy dr;rw[Q];simp))
   
 by_cases J:h.T.length=h.y.U.length;rotate_left
 ·refine fO 150 [(8,10,[67,68,69,70,71,72,73,74,75,76])] Tryz.func70 rfl ?_
  repeat'(first|refine gO ?_|(conv=>whnf);first|with_reducible refine Bf.N (λa=>?_) (λa=>?_)|refine C7 d ?_|refine C7 e ?_|refine C7 g ?_|refine C7 p ?_|refine C7 r ?_|refine C7 H ?_)
  all_goals first
   | exact W0 (λz=>[B z]) ((by unfold dy dr;rw[T0 J];simp))
   |(exfalso;omega)
 cases e7:gv h.a9<;>rw[e7]at X
 ·refine fO 150 [(8,10,[67,68,69,70,71,72,73,74,75,76])] Tryz.func70 rfl ?_
  repeat'(first|refine gO ?_|(conv=>whnf);first|with_reducible refine Bf.N (λa=>?_) (λa=>?_)|refine C7 d ?_|refine C7 e ?_|refine C7 g ?_|refine C7 p ?_|refine C7 r ?_|refine C7 H ?_|refine C7 X ?_)
  all_goals first
   | exact W0 (λz=>[B z]) ((by unfold dy dr;rw[e7];simp))
   
 have K:lf h=true:=by unfold lf;rw[Y,Z,u,e4];rfl
 have hmc:dr h=true:=by unfold dr;rw[Q,O0 J,e7];rfl
 refine fO 150 [(8,10,[67,68,69,70,71,72,73,74,75,76])] Tryz.func70 rfl ?_
 repeat'(first|refine gA ?_|(conv=>whnf);first|refine C7 d ?_|refine C7 e ?_|refine C7 g ?_|refine C7 p ?_|refine C7 r ?_|refine C7 H ?_|refine C7 X ?_)
 all_goals try(exfalso;omega)
 (conv=>whnf)
 refine CE (ι:=Nat) (λi=>[(1,.H .box (ab.enc .X h)),(3,.H .one [I ((i:Nat):Int)])]) (λi=>i<=h.a9.a6.length/\(h.a9.a6.take i).all (λx=>decide (x.b7<=h.b3))=true) (λi=>h.a9.a6.length - i) (0) ?_ (⟨U0 _,rfl⟩) λi hi=>?_
 ·exact wB
 obtain⟨hi,ai⟩:=hi;by_cases li:i<h.a9.a6.length
 ·have j:=ao li
  repeat'(first|refine gD ?_|(conv=>whnf);first|with_reducible (first|refine CC (aa j) ?_|refine Bf.D (λa=>?_) (λa=>?_)))
  all_goals first
   | exact W0 (λz=>[B z]) ((by unfold dy kG;rw[fg j (T0 ω)];simp))
   | ((conv=>whnf);refine CD (i+1) ⟨ω,cS j ai (O0 ω)⟩ ω ?_;(exact wB))
 have hsi:kG h=true:=gQ ω ai
 repeat'(first|refine gD ?_|fail)
 (conv=>whnf)
 refine CE (ι:=Nat) (λk=>[(1,.H .box (ab.enc .X h)),(4,.H .one [I ((k:Nat):Int)])]) (λk=>k<=h.T.length/\(h.T.take k).all bA=true) (λk=>h.T.length - k) (0) ?_ (⟨U0 _,rfl⟩) λk hk=>?_
 ·exact wB
 obtain⟨hk,ak⟩:=hk;by_cases lk:k<h.T.length
 ·have j:=ao lk
  have c8:=nJ (nth h.T k) (C.2 _ (am lk));cases e8:bA (nth h.T k)<;>rw[e8]at c8
  ·repeat'(first|refine gD ?_|(conv=>whnf);first|with_reducible refine CC (aa j) ?_|refine C7 c8 ?_)
   exact W0 (λz=>[B z]) ((by unfold dy;rw[fg j e8];simp))
  repeat'(first|refine gD ?_|(conv=>whnf);first|with_reducible refine CC (aa j) ?_|refine C7 c8 ?_)
  ((conv=>whnf);refine CD (k+1) ⟨ω,cS j ak e8⟩ ω ?_;(exact wB))
 have L:h.T.all bA=true:=gQ ω ak;have q:=GD h b l u V W (λo ho=>(U.2 o ho).2.1);have c10:=G1 h R S u Q (Z3.1 L);have c11:=JY h.Y G;have c12:=wH h.Y G;have c13:=jW h h.Y.V.a2 b.1;have c14:=jW h h.Y.V.w b.1;by_cases hn:cj h=true;rotate_left
 ·have M:cj h=false:=by simpa using hn
  have c:=M;unfold cj at c;rw[U4]at c;cases O:fF h<;>rw[O]at q<;>cases e10:ja h<;>rw[e10]at c10
  all_goals
   repeat'(first|refine gD ?_|(conv=>whnf);first|with_reducible refine Bf.D (λa=>?_) (λa=>?_)|refine C7 (aG _ _ _) ?_)
   all_goals first
    | exact W0 (λz=>[B z]) ((by unfold dy;rw[M];simp))
    
 have c:=hn;unfold cj at c;rw[C0]at c;cases O:fF h<;>rw[O]at q
 ·repeat'(first|refine gD ?_|(conv=>whnf);first|refine C7 (aG _ _ _) ?_|refine C7 q ?_)
  all_goals first
   | exact W0 (λz=>[B z]) ((by unfold dy;rw[O];simp))
   
 cases e10:ja h<;>rw[e10]at c10
 ·repeat'(first|refine gD ?_|(conv=>whnf);first|refine C7 (aG _ _ _) ?_|refine C7 q ?_|refine C7 c10 ?_)
  all_goals first
   | exact W0 (λz=>[B z]) ((by unfold dy;rw[e10];simp))
   
 have P:dy h=qE h:=by unfold dy;rw[K,e5,hmc,hsi,L,hn,O,e10];rfl
 rw[P];unfold qE;cases em:h.o
 ·repeat'(first|refine gD ?_|(conv=>whnf);first|refine C7 (aG _ _ _) ?_|refine C7 q ?_|refine C7 c10 ?_|refine C7 c11 ?_|refine Bf.f em ?_)
  all_goals first
   |rfl
   
   
 cases e12:ju h.Y<;>rw[e12]at c12
 all_goals
  repeat'(first|refine gD ?_|(conv=>whnf);first|with_reducible refine Bf.D (λa=>?_) (λa=>?_)|refine C7 (aG _ _ _) ?_|refine C7 q ?_|refine C7 c10 ?_|refine C7 c12 ?_|refine C7 c13 ?_|refine C7 c14 ?_|refine Bf.t em ?_)
  all_goals first
   | exact W0 (λz=>[B z]) ((by grind))
   
def sorted(xs:List Int):List Int:=xs.mergeSort λx y=>decide (x<=y)
theorem xf(xs:List Int):(sorted xs).length=xs.length:=List.length_mergeSort ..
theorem GZ{w a:World}{g n:Nat}{d:Array Int}{f:Array Obj}{c:Array Value}{e:TypeId}{k:Nat × Nat}(l:w.heap[g]? = some (.cells c e k))(p:a=Sort.grow (Sort.putRow (Value.int .i64) (Sort.ahead w n) g 0 d) f) :
  a.os=w.os/\a.tape=w.tape/\a.output=w.output/\w.heap.size<=a.heap.size/\(∀b,b<w.heap.size->b≠g->a.heap[b]? = w.heap[b]?)/\a.heap[g]? = some (.cells (Sort.putCells (Value.int .i64) 0 d c) e k):=by
 subst p;have h:g<w.heap.size:=(T3.1 l).1;have o:∀b,b<w.heap.size->(Sort.grow (Sort.putRow (Value.int .i64) (Sort.ahead w n) g 0 d) f).heap[b]? = if g=b then(w.heap[b]?).map (Sort.onCells (Sort.putCells (Value.int .i64) 0 d)) else w.heap[b]?:=λb i=>by
  rw[Sort.heap_grow_old _ _ (by simpa[Sort.putRow,Sort.mapBlock,Sort.ahead] using i)];show(w.heap.modify g _)[b]? = _;rw[Array.getElem?_modify]
 refine⟨rfl,rfl,rfl,?_,λb i j=>?_,?_⟩
 ·show w.heap.size<=((w.heap.modify g _)++f).size
  simp
 ·rw[o b i,C8 λe=>j e.symm]
 rw[o g h,C9 rfl,l];rfl
theorem PI(d:Array Int)(c:Array Value)(q:Nat):(Sort.putCells (Value.int .i64) 0 d c)[q]? = if q<d.size then(c[q]?).map (λ_=>.int .i64 d[q]!) else c[q]?:=by
 unfold Sort.putCells;rw[Array.getElem?_mapIdx];by_cases h:q<d.size
 ·rw[C9 h]
  cases c[q]? with
  | none=>rfl
  | some y=>simp[h]
 rw[C8 h];cases c[q]? with
 | none=>rfl
 | some y=>simp[h]
theorem row1{w:World}{S Y:ah}{c:C}{v:Value}(h:eX w S Y c v):cV w S Y [c] (λ_=>v):=by
 refine⟨λ_=>Y,λj e a=>?_,λ_ _ _ _ h=>h,λj f a b d=>?_⟩
 ·cases j with
  | zero=>simp at a;subst a;exact h
  | succ j=>simp at a
 simp at a b;omega
def Th(Y:ah):Nat->ah
 | 0=>Y
 | _+1=>NO
theorem EL(xs:List Int){j:Nat}(a:j<xs.length):xs.toArray[j]! = xs[j]:=by
 rw[getElem!_pos xs.toArray j (by simpa using a)];simp
theorem Pk(xs:List Int)(hl:xs.length<=1048576*64):aW Tryz.prog 393 false [.mut none (aD .own xs)] [.mut none (aD .own (sorted xs))] (.tup []) []:=by
 refine⟨⟨_,Tryz.func393,by kernel_rfl,by kernel_rfl⟩,λw S V vs hS hV hVV hA=>?_⟩
 match vs,hA with
 | [v],⟨hA,_⟩=>
  have E:=bW.rep1 (show bW w S (V 0) none [C.s .own (xs.map (rI .own))] v from hA);generalize D:C.s .own (xs.map (rI .own))=cc at E;cases E with
  | nil _ o a ho=>
   cases R:xs with
   | cons x xs'=>rw[R]at D;cases D
   | nil=>
    refine(Tryz.slices_Sort_int_none a 0 w).mono λe d ⟨he,G⟩=>?_
    subst G;refine⟨.tuple #[],he,CZ _ _,NO,λ_=>NO,NO,λ_ _ h=>h.elim,λ_ _ _ h=>h.elim,λ_ _ h=>h.elim,λ_ _ _ _ _ h=>h.elim,λ_ _ _ h=>h.elim,λ_ _ h=>h.elim,λ_ _ _ h=>h.elim,⟨#[],rfl,trivial,rfl⟩,cV.nil _ _ _ _,⟨⟨rfl,λ_=>.slice a 0 0,rfl,row1 (by rw[show sorted []=[] from List.mergeSort_nil ..];exact .nil _ .own _ trivial)⟩,trivial⟩⟩
  | own _ o g k n H rows u f ho O hk T U W hu hf hd hc=>
   cases D;have hnx:n=xs.length:=by rw[<-O,Z0]
   have X:0<xs.length:=ω
   have hk1:k=1:=by
    have:=hk (rI .own xs[0]) (C4.2 ⟨_,List.getElem_mem X,rfl⟩);exact this.symm
   subst hk1 hnx;have t:∀j (y:j<xs.length),cel w g j=some (.int .i64 xs[j]):=λj y=>by
    have J:=hu j ω;have Y:=hc j 0 (rI .own xs[j]) (I xs[j]) (by rw[C3,C2 y];rfl) rfl;rw[Nat.mul_one,Nat.add_zero]at Y;rw[J];generalize u j=z at Y;cases Y
    rfl
   have hgs:g<w.heap.size:=(hV 0 g 0 (W 0 ω).1).1;obtain⟨c,e0,fr,hg,-⟩:=Sort.cells_of_cell? (t 0 X);have hH:Sort.Holds (Value.int .i64) w g 0 xs.toArray:=λj y=>by
    have Z:j<xs.length:=by simpa using y
    refine⟨?_,?_⟩
    ·rw[EL xs Z,U6];exact t j Z
    rw[U6];exact W0 Prod.fst (W j ω).2.2
   refine(Tryz.slices_Sort_int g 0 H xs w hH hgs ω).mono λe d ⟨he,m,os,G⟩=>?_
   obtain⟨q1,q2,q3,q4,q5,q6⟩:=GZ hg G;have hsl:=xf xs;have B:∀q,cel w g q=c[q]?:=λq=>by show World.cell? w _=_;unfold World.cell?;simp[hg]
   have l:∀q,cel d g q=if q<xs.length then(c[q]?).map (λ_=>.int .i64 (sorted xs).toArray[q]!) else c[q]?:=λq=>by
    have J:=PI (sorted xs).toArray c q;have Y:(sorted xs).toArray.size=xs.length:=by simpa using hsl
    rw[Y]at J;rw[<-J];show World.cell? d _=_;unfold World.cell?;simp[q6,sorted]
   have p:∀q (P:q<xs.length),cel d g q=some (.int .i64 ((sorted xs)[q]'(ω))):=λq P=>by
    have J:=t q P;rw[B]at J;rw[l,C9 P,J,v5,EL (sorted xs) ω]
   have F:∀q,fro d g q=fro w g q:=λq=>by
    refine Prod.ext ?_ ?_
    ·show World.frozen? d _=World.frozen? w _
     unfold World.frozen?;simp[q6,hg]
    show mp d g=mp w g;unfold mp;rw[q6,hg];simp only[Sort.putCells,Array.size_mapIdx]
   have hother:∀b,b<w.heap.size->b≠g->∀o,cel d b o=cel w b o/\fro d b o=fro w b o:=λb K L o=>by
    have M:=q5 b K L;refine⟨?_,Prod.ext ?_ ?_⟩
    ·show World.cell? d _=World.cell? w _
     unfold World.cell?;simp only[M]
    ·show World.frozen? d _=World.frozen? w _
     unfold World.frozen?;simp only[M]
    show mp d b=mp w b;unfold mp;rw[M]
   have N:bV (λb o=>∃i,V i b o) w d:=by
    refine⟨q1,q2,q3,q4,λb K O=>q5 b K λe=>?_,λb o K O=>?_,λb o K O=>?_⟩
    ·subst e;exact O 0 ⟨0,(W 0 ω).1⟩
    ·by_cases e:b=g
     ·subst e
      have ho:¬o<xs.length:=λh=>O ⟨0,(W o ω).1⟩
      rw[l,C8 ho,B]
     exact(hother b K e o).1
    by_cases e:b=g
    ·subst e;exact F o
    exact(hother b K e o).2
   refine⟨.tuple #[],he,N,NO,Th (V 0),NO,λ_ _ h=>h.elim,λi b o h=>?_,λ_ _ h=>h.elim,λi i' L b o h h'=>?_,λ_ _ _ h=>h.elim,λ_ _ h=>h.elim,λ_ _ _ _ h=>h.elim,⟨#[],rfl,trivial,rfl⟩,cV.nil _ _ _ _,⟨⟨rfl,λ_=>.slice (some ⟨g,0,none⟩) xs.length H,rfl,row1 ?_⟩,trivial⟩⟩
   ·cases i with
    | zero=>exact .inl ⟨0,h⟩
    | succ i=>exact h.elim
   ·cases i with
    | zero=>
     cases i' with
     | zero=>exact L rfl
     | succ i'=>exact h'.elim
    | succ i=>exact h.elim
   show eX d _ (V 0) _ _;refine .own _ .own g 1 xs.length H _ (λq=>(cel d g q).getD undef) (λ_=>NO) trivial (by rw[Z0,hsl]) (λr hr=>by obtain⟨z,-,rfl⟩:=C4.1 hr;rfl) T U (λq P=>?_) (λq P=>?_) (λ_ _ _ _ h=>h.elim) (λ_ _ _ _ _ _ _ h=>h.elim) (λi j r c2 Q y=>?_)
   ·obtain⟨a1,⟨z,a2,a3⟩,a4⟩:=W q P
    refine⟨a1,?_,(F q).trans a4⟩;by_cases hqx:q<xs.length
    ·exact⟨_,p q hqx,rfl⟩
    rw[l,C8 hqx,<-B];exact⟨z,a2,a3⟩
   ·rw[p q ω];rfl
   rw[C3]at Q;have hil:i<(sorted xs).length:=by
    rcases Nat.lt_or_ge i (sorted xs).length with h|h
    ·exact h
    rw[O2 h]at Q;cases Q
   rw[C2 hil]at Q;simp only[v5,X0]at Q;subst Q
   match j,y with
   | 0,y=>
    simp only[rI,List.getElem?_cons_zero,X0]at y;subst y;simp only[Nat.mul_one,Nat.add_zero,p i ω,Option.getD_some];exact .v _ _ rfl
   | j+1,y=>simp[rI]at y
  | _=>cases D
set_option maxHeartbeats 8000000
def lC(s:ax)(k:Nat):Int:=16*s.R+(k:Nat)*csz s.d
def eG(s:ax)(n:Nat):List Int:=((List.range n).filter λk=>aS s.b2 (k:Nat)).map (lC s)
theorem Bc{s:ax}{n:Nat}(h:aS s.b2 (n:Nat)=true):eG s (n+1)=eG s n++[lC s n]:=by
 unfold eG;rw[List.range_succ,List.filter_append,T5];simp[h]
theorem Eu{s:ax}{n:Nat}(h:aS s.b2 (n:Nat)=false):eG s (n+1)=eG s n:=by
 unfold eG;rw[List.range_succ,List.filter_append,T5];simp[h]
theorem sA(s:ax)(n:Nat):(eG s n).length<=n:=by
 unfold eG;rw[Z0];exact W4 (List.length_filter_le ..) (by simp)
def fH(sp:List ax):List Int:=sp.flatMap λs=>eG s (slots s.d).toNat
def live0(sp:List ax)(la:List a8):List Int:=fH sp++la.map λl=>16*l.R
def od(sp:List ax)(la:List a8):List Int:=sorted (live0 sp la)
theorem rP(k:Int):0<=slots k/\slots k<=16:=by
 unfold slots;(repeat' split)<;>decide
theorem AC{k:Int}(h:0<=k/\k<=3):slots k*csz k=16:=by
 obtain rfl|rfl|rfl|rfl:k=0\/k=1\/k=2\/k=3:=ω
 all_goals decide
theorem wq{sp:List ax}{i:Nat}{s:ax}(h:sp[i]? = some s):fH (sp.take (i+1))=fH (sp.take i)++eG s (slots s.d).toNat:=by
 unfold fH;rw[I5,h,List.flatMap_append];simp
theorem zw(s:ax)(k:Nat)(a:bf s=true)(i:(k:Int)<slots s.d):ar Tryz.prog 353 false [.val (some 3) (ax.enc .X s),.val none [I (k:Nat)]] .one [I (lC s k)]:=by
 have b:=iI s;have c:=ef s.d;have g:=jj s.d;rw[a]at b;have d:=aF a;have j:=rP s.d;rcases bO ⟨d.2.2.1,d.2.2.2⟩ with e|e|e|e<;>rw[e]at c
 all_goals
  refine fO 26 [(3,9,[17,18,19,20,21,22,23,24,25])] Tryz.func353 rfl ?_
  repeat'(first|refine gD ?_|(conv=>whnf);first|refine C7 b ?_|refine C7 c ?_|refine C7 g ?_|refine C7 (aM _ 0 _) ?_)
  all_goals exact W0 (λz=>[I z]) (by unfold lC;rw[e];omega)
theorem wM(sp:List ax)(la:List a8)(d:dN sp)(e:dM la)(b:bn sp la=true):ar Tryz.prog 250 false [.val none (bX .X sp),.val none (cy .X la)] .one (aD .own (od sp la)):=by
 have E:=d.1;have F:=e.1;have D:=qv sp la d e;rw[b]at D;obtain⟨p,G,-⟩:=dA b;refine fP 56 [(393,[1])] [] Tryz.func250 rfl ?_ (.inr (bH _))
 repeat'(first|refine gO ?_|(conv=>whnf);refine C7 D ?_)
 (conv=>whnf)
 refine CE (ι:=Nat × List Int) (λi=>[(1,.H .one (cy .X la)),(5,.H .one (aD .own i.2)),(16,.H .one (bX .X sp)),(17,.H .one [I (sp.length)]),(18,.H .one [I ((i.1:Nat):Int)])]) (λi=>i.1<=sp.length/\i.2=fH (sp.take i.1)/\i.2.length<=16*i.1) (λi=>sp.length - i.1) ((0,[])) ?_ (⟨U0 _,rfl,U0 _⟩) λi g=>?_
 ·exact wB
 obtain⟨i,S⟩:=i;obtain⟨g,n,H⟩:=g;simp only at g n H |-;by_cases o:i<sp.length
 ·have c:=ao o
  have h:bf (nth sp i)=true:=PE p o;have J:=rP (nth sp i).d;have q:=fx h
  repeat'(first|refine gD ?_|(conv=>whnf);with_reducible refine CC (aa c) ?_)
  (conv=>whnf)
  refine CE (ι:=Nat × List Int) (λk=>[(1,.H .one (cy .X la)),(5,.H .one (aD .own k.2)),(7,.H .box (ax.enc .X (nth sp i))),(8,.H .one [I ((k.1:Nat):Int)]),(16,.H .one (bX .X sp)),(17,.H .one [I (sp.length)]),(18,.H .one [I ((i:Nat):Int)])]) (λk=>k.1<=(slots (nth sp i).d).toNat/\k.2=S++eG (nth sp i) k.1) (λk=>(slots (nth sp i).d).toNat - k.1) ((0,S)) ?_ (⟨U0 _,by simp[eG]⟩) λk t=>?_
  ·exact wB
  obtain⟨k,S2⟩:=k;obtain⟨t,a⟩:=t;simp only at t a |-;have K:=sA (nth sp i) k;have j:S2.length=S.length+(eG (nth sp i) k).length:=by rw[a,I3]
  by_cases M:k<(slots (nth sp i).d).toNat
  ·have u:=kF (nth sp i).b2 (k:Nat) q.2
   cases w:aS (nth sp i).b2 (k:Nat)<;>rw[w]at u
   ·repeat'(first|refine gD ?_|(conv=>whnf);first|refine C7 (jj _) ?_|refine C7 u ?_)
    ((conv=>whnf);refine CD (k+1,S2) ⟨(by simp only;omega),(by simp only;rw[Eu w];exact a)⟩ (by simp only;omega) ?_;(exact wB))
   repeat'(first|refine gD ?_|(conv=>whnf);first|refine C7 (jj _) ?_|refine C7 u ?_|refine C7 (zw (nth sp i) k h ω) ?_|refine CT cn (λr y=>by rw[I1.1 y];rfl) (by simp[aY,eg]) (by simp;omega) (by show _*8<=_;simp;omega) rfl ?_)
   ((conv=>whnf)
    refine CD (k+1,S2++[lC (nth sp i) k]) ⟨(by simp only;omega),(by simp only;rw[Bc w,a,O5])⟩ (by simp only;omega) ?_
    (repeat'(first|exact trivial|rfl|exact CK rfl (CK (W0 (C.s dQ.own) (by simp[rI])) trivial)|refine CK ?_ ?_)))
  obtain rfl:k=(slots (nth sp i).d).toNat:=ω
  repeat'(first|refine gD ?_|(conv=>whnf);refine C7 (jj _) ?_)
  ((conv=>whnf);refine CD (i+1,S2) ⟨(by simp only;omega),(by simp only;rw[wq c,<-n,a]),(by simp only;omega)⟩ (by simp only;omega) ?_;(exact wB))
 obtain rfl:i=sp.length:=ω
 rw[t5]at n
 repeat'(first|refine gD ?_|fail)
 (conv=>whnf)
 refine CE (ι:=Nat × List Int) (λi=>[(5,.H .one (aD .own i.2)),(40,.H .one (cy .X la)),(41,.H .one [I (la.length)]),(42,.H .one [I ((i.1:Nat):Int)])]) (λi=>i.1<=la.length/\i.2=S++(la.take i.1).map (λl=>16*l.R)) (λi=>la.length - i.1) ((0,S)) ?_ (⟨U0 _,by simp⟩) λi g=>?_
 ·exact wB
 obtain⟨i,S2⟩:=i;obtain⟨B,a⟩:=g;simp only at B a |-;have j:S2.length=S.length+i:=by rw[a,I3,Z0,U1];omega
 by_cases o:i<la.length
 ·have c:=ao o
  have L:=ue b c
  repeat'(first|refine gD ?_|(conv=>whnf);first|with_reducible refine CC (aa c) ?_|refine CT cn (λr y=>by rw[I1.1 y];rfl) (by simp[aY,eg]) (by simp;omega) (by show _*8<=_;simp;omega) rfl ?_)
  ((conv=>whnf)
   refine CD (i+1,S2++[16*(nth la i).R]) ⟨(by simp only;omega),(by simp only;rw[a,I5,c];simp)⟩ (by simp only;omega) ?_
   (repeat'(first|exact trivial|rfl|exact CK rfl (CK (W0 (C.s dQ.own) (by simp[rI];omega)) trivial)|refine CK ?_ ?_)))
 obtain rfl:i=la.length:=ω
 rw[t5]at a
 repeat'(first|refine gD ?_|(conv=>whnf);refine CJ (Pk S2 ω) (.inl rfl) ?_)
 show _=aD .own (sorted (fH sp++la.map λl=>16*l.R));rw[<-n,<-a];rfl
def qq(b:List (Int × Value))(L:List Int):Prop:=∀a,mlook b a (.int .i64 0)=.int .i64 (L.count a:Nat)
theorem Ke(f:List (Int × Value))(a b:Int)(v d:Value):mlook (mput f a v) b d=if a=b then v else mlook f b d:=by
 induction f with
 | nil=>simp only[mput,mlook]
 | cons p f g=>
  simp only[mput];by_cases h:p.1=a
  ·rw[C9 h]
   simp only[mlook];by_cases c:a=b
   ·rw[C9 c,C9 c]
   rw[C8 c,C8 c,C8 (by rw[h];exact c)]
  rw[C8 h];simp only[mlook];by_cases c:p.1=b
  ·rw[C9 c,C9 c,C8 (λe=>h (c.trans e.symm))]
  rw[C8 c,C8 c,g]
def inc(b:List (Int × Value))(L:List Int)(a:Int):List (Int × Value):=mput b a (.int .i64 ((L.count a:Nat)+1))
theorem Ko:qq [] []:=λ_=>rfl
theorem pV{d:List (Int × Value)}{L:List Int}(h:qq d L)(a:Int):qq (inc d L a) (L++[a]):=λb=>by
 unfold inc;rw[Ke,W5];by_cases c:a=b
 ·subst c;rw[C9 rfl,List.count_singleton_self];simp
 rw[C8 c,h b,List.count_singleton,C8 (by simpa using c)];rfl
theorem Dt(h:ab)(d:dN h.K)(e:dM h.M)(b:List (Int × Value))(L:List Int)(a c:Int)(g:qq b L)(n:L.length<=1000000000) :
  aW Tryz.prog 249 false [.val none [I a],.val none [I c],.ptr [.m b],.ptr (ab.enc .X h)] [.val none [I a],.val none [I c],.ptr [.m (inc b L a)],.ptr (ab.enc .X h)] .one [B (dt h a c)]:=by
 have k:=sF h.K h.M a d e;obtain⟨i,-⟩:=mV h.K h.M a;have l:L.count a<=L.length:=List.count_le_length;unfold dt;generalize denotes h.K h.M a=w at k i |-;refine fM 41 [] [] [(0,0),(0,0),(0,0),(0,0)] Tryz.func249 rfl (λu q=>?_)
 repeat'(first|refine gO ?_|(conv=>whnf);first|with_reducible (first|refine Bf.D (λj=>?_) (λj=>?_)|refine Bf.E (λj=>?_) (λj=>?_))|refine Ml.mk (g a) ?_|refine Mu.mk (es':=inc b L a) rfl ?_|refine C7 k ?_|refine CL (i (by assumption)).1 (aa (ao (i (by assumption)).2)) ?_)
 all_goals
  refine CF rfl ?_ ?_
  ·exact W0 (λz=>[B z]) ((by grind))
  exact wB
set_option maxHeartbeats 8000000
def sw(h:ab)(a:aQ):Bool:=ik h a&&decide (a.b7<=h.b3)
def mM(h:ab):List Int:=((cC h++h.a9.a6.map (·.Addr))++aN h.y)++h.O.map (·.Addr)
def jS(h:ab):Bool:=((h.T.all (fk h)&&h.a9.a6.all (sw h))&&(aN h.y).all (kA h))&&(od h.K h.M).all λa=>decide ((mM h).count a=1)
theorem NU{h:ab}(h1:h.T.all (fk h)=false):jS h=false:=by unfold jS;rw[h1];rfl
theorem HF{h:ab}(h1:h.a9.a6.all (sw h)=false):jS h=false:=by unfold jS;rw[h1];simp
theorem Qa{h:ab}(h1:(aN h.y).all (kA h)=false):jS h=false:=by unfold jS;rw[h1];simp
theorem P6{h:ab}(h1:((od h.K h.M).all λa=>decide ((mM h).count a=1))=false):jS h=false:=by unfold jS;rw[h1];simp
theorem JZ{sp:List ax}{la:List a8}(h1:sp.length<=1048576)(b:la.length<=1048576):(od sp la).length<=100000000:=by
 have a:∀(l:List ax),(fH l).length<=16*l.length:=by
  intro l
  induction l with
  | nil=>exact U0 _
  | cons s l c=>
   have e:fH (s::l)=eG s (slots s.d).toNat++fH l:=by unfold fH;rw[O6]
   have d:=rP s.d;have f:=sA s (slots s.d).toNat;rw[e,I3,List.length_cons];omega
 have g:=a sp;unfold od live0;rw[xf,I3,Z0];omega
theorem xD(h:ab)(hs:ab.sml h)(S:bn h.K h.M=true)(M:bN h.y=true)(hco:∀c∈h.T,bA c=true):ar Tryz.prog 79 false [.val (some 24) (ab.enc .X h)] .one [B (jS h)]:=by
 obtain⟨-,-,t,u,hso,hsc,hsm,hsq,-⟩:=hs;have hlo:h.O.length<=1048576:=hso.1;have hlc:h.T.length<=1048576:=hsc.1;have hlq:h.a9.a6.length<=1048576:=hsq.1;have hfl:=su M;have w:jS h=false->[B false]=[B (jS h)]:=λe=>by rw[e]
 refine fP 114 [(249,[0,0,2,2])] [] Tryz.func79 rfl ?_
 repeat'(first|refine gO ?_|fail)
 (conv=>whnf)
 refine CE (ι:=Nat × List (Int × Value) × List Int) (λi=>[(1,.H .box (ab.enc .X h)),(3,.H .box [.m i.2.1]),(4,.fn 249 [3,1]),(22,.H .one (oF .X h.T)),(23,.H .one [I (h.T.length)]),(24,.H .one [I ((i.1:Nat):Int)])]) (λi=>i.1<=h.T.length/\qq i.2.1 i.2.2/\i.2.2=((h.T.take i.1).flatMap λc=>c.b.flatten)/\(h.T.take i.1).all (fk h)=true/\i.2.2.length<=32*i.1) (λi=>h.T.length - i.1) ((0,[],[])) ?_ (⟨U0 _,Ko,rfl,rfl,U0 _⟩) λi hi=>?_
 ·exact wB
 obtain⟨i,es,L⟩:=i;obtain⟨hi,O,X,Y,hb⟩:=hi;simp only at hi O X Y hb |-;by_cases li:i<h.T.length
 ·have T:=ao li
  obtain⟨h4,h8⟩:=uQ (hco _ (am li))
  repeat'(first|refine gD ?_|(conv=>whnf);with_reducible refine CC (aa T) ?_)
  (conv=>whnf)
  refine CE (ι:=Nat × List (Int × Value) × List Int) (λk=>[(1,.H .box (ab.enc .X h)),(3,.H .box [.m k.2.1]),(4,.fn 249 [3,1]),(22,.H .one (oF .X h.T)),(23,.H .one [I (h.T.length)]),(24,.H .one [I ((i:Nat):Int)]),(29,.H .one (j8 .X (nth h.T i).b)),(30,.H .one [I ((nth h.T i).b.length)]),(31,.H .one [I ((k.1:Nat):Int)])]) (λk=>k.1<=(nth h.T i).b.length/\qq k.2.1 k.2.2/\k.2.2=L++((nth h.T i).b.take k.1).flatten/\cY k.1 (rQ h (nth h.T i))=true/\k.2.2.length<=L.length+8*k.1) (λk=>(nth h.T i).b.length - k.1) ((0,es,L)) ?_ (⟨U0 _,O,by simp,rfl,by simp⟩) λk hk=>?_
  ·exact wB
  obtain⟨k,es3,Z⟩:=k;obtain⟨hk,y,K,ak,hb3⟩:=hk;simp only at hk y K ak hb3 |-;by_cases lk:k<(nth h.T i).b.length
  ·have hy:=ao lk
   have hl8:=h8 _ (am lk)
   repeat'(first|refine gD ?_|(conv=>whnf);with_reducible refine CC (aa hy) ?_)
   (conv=>whnf)
   refine CE (ι:=Nat × List (Int × Value) × List Int) (λj=>[(1,.H .box (ab.enc .X h)),(3,.H .box [.m j.2.1]),(4,.fn 249 [3,1]),(7,.H .one [I ((k:Nat):Int)]),(22,.H .one (oF .X h.T)),(23,.H .one [I (h.T.length)]),(24,.H .one [I ((i:Nat):Int)]),(29,.H .one (j8 .X (nth h.T i).b)),(30,.H .one [I ((nth h.T i).b.length)]),(31,.H .one [I ((k:Nat):Int)]),(36,.H .one (aD .X (nth (nth h.T i).b k))),(37,.H .one [I ((nth (nth h.T i).b k).length)]),(38,.H .one [I ((j.1:Nat):Int)])]) (λj=>j.1<=(nth (nth h.T i).b k).length/\qq j.2.1 j.2.2/\j.2.2=Z++(nth (nth h.T i).b k).take j.1/\((nth (nth h.T i).b k).take j.1).all (λa=>dt h a (k:Nat))=true) (λj=>(nth (nth h.T i).b k).length - j.1) ((0,es3,Z)) ?_ (⟨U0 _,y,by simp,rfl⟩) λj hj=>?_
   ·exact wB
   obtain⟨j,es4,U⟩:=j;obtain⟨hj,l,C,aj⟩:=hj;simp only at hj l C aj |-;have hl4:U.length=Z.length+j:=by rw[C,I3,U1];omega
   by_cases lj:j<(nth (nth h.T i).b k).length
   ·have d:=ao lj
    have b:=Dt h t u es4 U (nth (nth (nth h.T i).b k) j) (k:Nat) l ω;cases r:dt h (nth (nth (nth h.T i).b k) j) (k:Nat)<;>rw[r]at b
    ·repeat'(first|refine gD ?_|(conv=>whnf);first|with_reducible refine CC (aa d) ?_|refine CJ (b) (.inl rfl) ?_)
     exact w (NU (fg T (by unfold fk;exact cA lk (fg d r))))
    repeat'(first|refine gD ?_|(conv=>whnf);first|with_reducible refine CC (aa d) ?_|refine CJ (b) (.inl rfl) ?_)
    ((conv=>whnf)
     refine CD (j+1,inc es4 U (nth (nth (nth h.T i).b k) j),U++[nth (nth (nth h.T i).b k) j]) ⟨(by simp only;omega),pV l _,(by simp only;rw[C,I5,d,O5];rfl),cS d aj r⟩ (by simp only;omega) ?_
     (exact wA))
   obtain rfl:j=(nth (nth h.T i).b k).length:=ω
   rw[t5]at C aj
   repeat'(first|refine gD ?_|fail)
   ((conv=>whnf);refine CD (k+1,es4,U) ⟨(by simp only;omega),l,(by simp only;rw[C,K,xk hy,O5]),bS ak aj,(by simp only;omega)⟩ (by simp only;omega) ?_;(exact wB))
  obtain rfl:k=(nth h.T i).b.length:=ω
  rw[t5]at K
  repeat'(first|refine gD ?_|fail)
  ((conv=>whnf);refine CD (i+1,es3,Z) ⟨(by simp only;omega),y,(by simp only;rw[K,X,v7 T]),cS T Y ak,(by simp only;omega)⟩ (by simp only;omega) ?_;(exact wB))
 obtain rfl:i=h.T.length:=ω
 rw[t5]at X Y
 repeat'(first|refine gD ?_|fail)
 (conv=>whnf)
 refine CE (ι:=Nat × List (Int × Value) × List Int) (λq=>[(1,.H .box (ab.enc .X h)),(3,.H .box [.m q.2.1]),(4,.fn 249 [3,1]),(52,.H .one (cW .X h.a9.a6)),(53,.H .one [I (h.a9.a6.length)]),(54,.H .one [I ((q.1:Nat):Int)])]) (λq=>q.1<=h.a9.a6.length/\qq q.2.1 q.2.2/\q.2.2=L++(h.a9.a6.take q.1).map (·.Addr)/\(h.a9.a6.take q.1).all (sw h)=true) (λq=>h.a9.a6.length - q.1) ((0,es,L)) ?_ (⟨U0 _,O,by simp,rfl⟩) λq E=>?_
 ·exact wB
 obtain⟨q,es5,P⟩:=q;obtain⟨F,o,G,aq⟩:=E;simp only at F o G aq |-;have hl5:P.length=L.length+q:=by rw[G,I3,Z0,U1];omega
 by_cases V:q<h.a9.a6.length
 ·have d:=ao V
  have b:=Dt h t u es5 P (nth h.a9.a6 q).Addr (nth h.a9.a6 q).d o ω;cases r:dt h (nth h.a9.a6 q).Addr (nth h.a9.a6 q).d<;>rw[r]at b
  ·repeat'(first|refine gD ?_|(conv=>whnf);first|with_reducible refine CC (aa d) ?_|refine CJ (b) (.inl rfl) ?_)
   all_goals exact w (HF (fg d (by unfold sw ik;rw[r];rfl)))
  repeat'(first|refine gD ?_|(conv=>whnf);first|with_reducible (first|refine CC (aa d) ?_|refine Bf.D (λE=>?_) (λE=>?_))|refine CJ (b) (.inl rfl) ?_)
  all_goals first
   |exact w (HF (fg d (by unfold sw ik;rw[r,T0 ω];rfl)))
   | ((conv=>whnf)
      refine CD (q+1,inc es5 P (nth h.a9.a6 q).Addr,P++[(nth h.a9.a6 q).Addr]) ⟨(by simp only;omega),pV o _,(by simp only;rw[G,I5,d,T5,O5];rfl),cS d aq (by unfold sw ik;rw[r,O0 ω];rfl)⟩ (by simp only;omega) ?_
      (exact wA))
 obtain rfl:q=h.a9.a6.length:=ω
 rw[t5]at G aq
 repeat'(first|refine gD ?_|(conv=>whnf);refine C7 (zz h.y hsm) ?_)
 (conv=>whnf)
 refine CE (ι:=Nat × List (Int × Value) × List Int) (λq=>[(1,.H .box (ab.enc .X h)),(3,.H .box [.m q.2.1]),(4,.fn 249 [3,1]),(75,.H .one (aD .own (aN h.y))),(76,.H .one [I ((aN h.y).length)]),(77,.H .one [I ((q.1:Nat):Int)])]) (λq=>q.1<=(aN h.y).length/\qq q.2.1 q.2.2/\q.2.2=P++(aN h.y).take q.1/\((aN h.y).take q.1).all (kA h)=true) (λq=>(aN h.y).length - q.1) ((0,es5,P)) ?_ (⟨U0 _,o,by simp,rfl⟩) λq E=>?_
 ·exact wB
 obtain⟨q,es6,Q⟩:=q;obtain⟨F,p,H,aq6⟩:=E;simp only at F p H aq6 |-;have hl6:Q.length=P.length+q:=by rw[H,I3,U1];omega
 by_cases V:q<(aN h.y).length
 ·have d:=ao V
  have b:=Dt h t u es6 Q (nth (aN h.y) q) (-1) p ω;cases r:dt h (nth (aN h.y) q) (-1)<;>rw[r]at b
  ·repeat'(first|refine gD ?_|(conv=>whnf);first|with_reducible refine CC (aa d) ?_|refine CH rfl (aa d) rfl ?_|refine CJ (b) (.inl rfl) ?_)
   exact w (Qa (fg d r))
  repeat'(first|refine gD ?_|(conv=>whnf);first|with_reducible refine CC (aa d) ?_|refine CH rfl (aa d) rfl ?_|refine CJ (b) (.inl rfl) ?_)
  ((conv=>whnf)
   refine CD (q+1,inc es6 Q (nth (aN h.y) q),Q++[nth (aN h.y) q]) ⟨(by simp only;omega),pV p _,(by simp only;rw[H,I5,d,O5];rfl),cS d aq6 r⟩ (by simp only;omega) ?_
   (exact wA))
 obtain rfl:q=(aN h.y).length:=ω
 rw[t5]at H aq6
 repeat'(first|refine gD ?_|fail)
 (conv=>whnf)
 refine CE (ι:=Nat × List (Int × Value) × List Int) (λq=>[(1,.H .box (ab.enc .X h)),(3,.H .box [.m q.2.1]),(87,.H .one (p8 .X h.O)),(88,.H .one [I (h.O.length)]),(89,.H .one [I ((q.1:Nat):Int)])]) (λq=>q.1<=h.O.length/\qq q.2.1 q.2.2/\q.2.2=Q++(h.O.take q.1).map (·.Addr)) (λq=>h.O.length - q.1) ((0,es6,Q)) ?_ (⟨U0 _,p,by simp⟩) λq E=>?_
 ·exact wB
 obtain⟨q,es7,R⟩:=q;obtain⟨F,g,J⟩:=E;simp only at F g J |-;have hl7:R.length=Q.length+q:=by rw[J,I3,Z0,U1];omega
 by_cases V:q<h.O.length
 ·have d:=ao V
  have hcl:R.count (nth h.O q).Addr<=R.length:=List.count_le_length
  repeat'(first|refine gD ?_|(conv=>whnf);first|with_reducible refine CC (aa d) ?_|refine Ml.mk (g _) ?_|refine Mu.mk (es':=inc es7 R (nth h.O q).Addr) rfl ?_)
  ((conv=>whnf)
   refine CD (q+1,inc es7 R (nth h.O q).Addr,R++[(nth h.O q).Addr]) ⟨(by simp only;omega),pV g _,(by simp only;rw[J,I5,d,T5,O5];rfl)⟩ (by simp only;omega) ?_
   (exact wA))
 obtain rfl:q=h.O.length:=ω
 rw[t5]at J;have W:R=mM h:=by rw[J,H,G,X];rfl
 have hlv:=JZ t.1 u.1
 repeat'(first|refine gD ?_|(conv=>whnf);refine C7 (wM h.K h.M t u S) ?_)
 (conv=>whnf)
 refine CE (ι:=Nat) (λn=>[(3,.H .box [.m es7]),(103,.H .one (aD .own (od h.K h.M))),(104,.H .one [I ((od h.K h.M).length)]),(105,.H .one [I ((n:Nat):Int)])]) (λn=>n<=(od h.K h.M).length/\((od h.K h.M).take n).all (λa=>decide ((mM h).count a=1))=true) (λn=>(od h.K h.M).length - n) (0) ?_ (⟨U0 _,rfl⟩) λn hn=>?_
 ·exact wB
 obtain⟨hn,an⟩:=hn;by_cases ln:n<(od h.K h.M).length
 ·have d:=ao ln
  rw[W]at g
  repeat'(first|refine gD ?_|(conv=>whnf);first|with_reducible (first|refine CC (aa d) ?_|refine Bf.N (λE=>?_) (λE=>?_))|refine CH rfl (aa d) rfl ?_|refine Ml.mk (g _) ?_)
  all_goals first
   |exact w (P6 (fg d (T0 ω)))
   | ((conv=>whnf);refine CD (n+1) ⟨ω,cS d an (O0 ω)⟩ ω ?_;(exact wB))
 repeat'(first|refine gD ?_|fail)
 exact W0 (λz=>[B z]) ((by unfold jS;rw[Y,aq,aq6,gQ ω an];rfl))
set_option maxHeartbeats 8000000
def k6(h:ab):Bool:=(((((((a7 h.G&&bC (eY h) h.u)&&bn h.K h.M)&&(pages0 h&&og h))&&dr h)&&h.T.all bA)&&(fF h&&jS h))&&cj h)&&qE h
theorem iJ(h:ab)(hs:ab.sml h):ar Tryz.prog 24 false [.val (some 24) (ab.enc .X h)] .one [B (k6 h)]:=by
 have L:=hs;obtain⟨n,o,b,g,M,p,q,O,r⟩:=hs;have u:wG h:=n.1.2;have hpn:eY h<=1048576:=u.1;have P:h.O.length<=1048576:=M.1;have Q:h.T.length<=1048576:=p.1;have hlb:h.y.U.length<=1048576:=q.1.1;have hlp:h.Y.V.S.length<=1048576:=r;have d:=qG h.G n;have e:=yJ (eY h) h.u ⟨ω,ω⟩ o;have i:=qv h.K h.M b g;have w:=vA h.y q;have R:=EM h.a9 O;cases S:a7 h.G<;>rw[S]at d
 ·refine fO 154 [] Tryz.func24 rfl ?_
  repeat'(first|refine gO ?_|(conv=>whnf);refine C7 d ?_)
  all_goals first
   | exact W0 (λz=>[B z]) ((by unfold k6 ;rw[S];simp))
   
 cases T:bC (eY h) h.u<;>rw[T]at e
 ·refine fO 154 [] Tryz.func24 rfl ?_
  repeat'(first|refine gO ?_|(conv=>whnf);first|refine C7 d ?_|refine C7 e ?_)
  all_goals first
   | exact W0 (λz=>[B z]) ((by unfold k6 ;rw[T];simp))
   
 cases y:bn h.K h.M<;>rw[y]at i
 ·refine fO 154 [] Tryz.func24 rfl ?_
  repeat'(first|refine gO ?_|(conv=>whnf);first|refine C7 d ?_|refine C7 e ?_|refine C7 i ?_)
  all_goals first
   | exact W0 (λz=>[B z]) ((by unfold k6 ;rw[y];simp))
   
 have j:=Da h b g u o y;cases U:(pages0 h&&og h)<;>rw[U]at j
 ·refine fO 154 [] Tryz.func24 rfl ?_
  repeat'(first|refine gO ?_|(conv=>whnf);first|refine C7 d ?_|refine C7 e ?_|refine C7 i ?_|refine C7 j ?_)
  all_goals first
   | exact W0 (λz=>[B z]) ((by unfold k6 ;rw[U];simp))
   
 cases J:bN h.y<;>rw[J]at w
 ·refine fO 154 [] Tryz.func24 rfl ?_
  repeat'(first|refine gO ?_|(conv=>whnf);first|refine C7 d ?_|refine C7 e ?_|refine C7 i ?_|refine C7 j ?_|refine C7 w ?_)
  all_goals first
   | exact W0 (λz=>[B z]) ((by unfold k6 dr;rw[J];simp))
   
 by_cases C:h.T.length=h.y.U.length;rotate_left
 ·refine fO 154 [] Tryz.func24 rfl ?_
  repeat'(first|refine gO ?_|(conv=>whnf);first|with_reducible refine Bf.N (λa=>?_) (λa=>?_)|refine C7 d ?_|refine C7 e ?_|refine C7 i ?_|refine C7 j ?_|refine C7 w ?_)
  all_goals first
   | exact W0 (λz=>[B z]) ((by unfold k6 dr;rw[T0 C];simp))
   |(exfalso;omega)
 cases V:gv h.a9<;>rw[V]at R
 ·refine fO 154 [] Tryz.func24 rfl ?_
  repeat'(first|refine gO ?_|(conv=>whnf);first|with_reducible refine Bf.N (λa=>?_) (λa=>?_)|refine C7 d ?_|refine C7 e ?_|refine C7 i ?_|refine C7 j ?_|refine C7 w ?_|refine C7 R ?_)
  all_goals first
   | exact W0 (λz=>[B z]) ((by unfold k6 dr;rw[V];simp))
   
 have W:dr h=true:=by unfold dr;rw[J,O0 C,V];rfl
 refine fO 154 [] Tryz.func24 rfl ?_
 repeat'(first|refine gA ?_|(conv=>whnf);first|refine C7 d ?_|refine C7 e ?_|refine C7 i ?_|refine C7 j ?_|refine C7 w ?_|refine C7 R ?_)
 all_goals try(exfalso;omega)
 (conv=>whnf)
 refine CE (ι:=Nat) (λk=>[(1,.H .box (ab.enc .X h)),(57,.H .one (oF .X h.T)),(58,.H .one [I (h.T.length)]),(59,.H .one [I ((k:Nat):Int)])]) (λk=>k<=h.T.length/\(h.T.take k).all bA=true) (λk=>h.T.length - k) (0) ?_ (⟨U0 _,rfl⟩) λk hk=>?_
 ·exact wB
 obtain⟨hk,ak⟩:=hk;by_cases lk:k<h.T.length
 ·have K:=ao lk
  have X:=Df (nth h.T k) (p.2 _ (am lk));cases Y:bA (nth h.T k)<;>rw[Y]at X
  ·repeat'(first|refine gD ?_|(conv=>whnf);first|with_reducible refine CC (aa K) ?_|refine C7 X ?_)
   exact W0 (λz=>[B z]) ((by unfold k6;rw[fg K Y];simp))
  repeat'(first|refine gD ?_|(conv=>whnf);first|with_reducible refine CC (aa K) ?_|refine C7 X ?_)
  ((conv=>whnf);refine CD (k+1) ⟨ω,cS K ak Y⟩ ω ?_;(exact wB))
 have F:h.T.all bA=true:=gQ ω ak;have l:=EP h b g P Q;have c10:=xD h L y J (Z3.1 F);have c12:=xx h.Y r;have c13:=uY h h.Y.V.a2 b.1;have c14:=uY h h.Y.V.w b.1;cases Z:fF h<;>rw[Z]at l
 ·repeat'(first|refine gD ?_|(conv=>whnf);refine C7 l ?_)
  all_goals first
   | exact W0 (λz=>[B z]) ((by unfold k6;rw[Z];simp))
   
 cases e10:jS h<;>rw[e10]at c10
 ·repeat'(first|refine gD ?_|(conv=>whnf);first|refine C7 l ?_|refine C7 c10 ?_)
  all_goals first
   | exact W0 (λz=>[B z]) ((by unfold k6;rw[e10];simp))
   
 by_cases hn:cj h=true;rotate_left
 ·have G:cj h=false:=by simpa using hn
  have c:=G;unfold cj at c;rw[U4]at c
  repeat'(first|refine gD ?_|(conv=>whnf);first|with_reducible refine Bf.D (λa=>?_) (λa=>?_)|refine C7 (aM _ _ _) ?_|refine C7 (p6 _) ?_|refine C7 l ?_|refine C7 c10 ?_)
  all_goals first
   | exact W0 (λz=>[B z]) ((by unfold k6;rw[G];simp))
   
 have c:=hn;unfold cj at c;rw[C0]at c;have H:k6 h=qE h:=by unfold k6;rw[S,T,y,U,W,F,hn,Z,e10];rfl
 rw[H];unfold qE;cases em:h.o
 ·repeat'(first|refine gD ?_|(conv=>whnf);first|with_reducible refine Bf.E (λa=>?_) (λa=>?_)|refine C7 (aM _ _ _) ?_|refine C7 (p6 _) ?_|refine C7 l ?_|refine C7 c10 ?_|refine Bf.f em ?_)
  all_goals first
   | exact W0 (λz=>[B z]) ((by unfold rJ;simp only[Bool.false_eq_true,if_false];first|(symm;exact T0 ω)|(rw[V4,beq_iff_eq,C0];omega)))
   
 cases e12:ju h.Y<;>rw[e12]at c12
 all_goals
  repeat'(first|refine gD ?_|(conv=>whnf);first|with_reducible refine Bf.D (λa=>?_) (λa=>?_)|refine C7 (aM _ _ _) ?_|refine C7 (p6 _) ?_|refine C7 l ?_|refine C7 c10 ?_|refine C7 c12 ?_|refine C7 c13 ?_|refine C7 c14 ?_|refine Bf.t em ?_)
  all_goals first
   | exact W0 (λz=>[B z]) ((by grind))
   
theorem cJ{α:Type}[Inhabited α]{xs:List α}{f:α->Int}(e:(xs.map f).Nodup){i j:Nat}(b:i<xs.length)(c:j<xs.length)(h:f (nth xs i)=f (nth xs j)):i=j:=by
 have d:=List.pairwise_iff_getElem.1 e;rcases Nat.lt_trichotomy i j with a|rfl|a
 ·have:=d i j (by simpa using b) (by simpa using c) a
  simp only[List.getElem_map]at this;rw[bm (C2 b),bm (C2 c)]at h;exact absurd h this
 ·rfl
 have:=d j i (by simpa using c) (by simpa using b) a;simp only[List.getElem_map]at this;rw[bm (C2 b),bm (C2 c)]at h;exact absurd h.symm this
theorem aL{α:Type}[Inhabited α]{xs:List α}{x:α}(h:x∈xs):∃i,i<xs.length/\nth xs i=x:=by
 obtain⟨i,a⟩:=List.mem_iff_getElem?.1 h;exact⟨i,(I2.1 a).1,bm a⟩
theorem qW:∀{H L:List Int},H.Nodup->(∀x∈H,x∈L)->L.length<=H.length->∀x∈L,x∈H
 | [],L,_,_,c,x,d=>by
  have:L=[]:=Y6 (by simpa using c);subst this;exact d
 | y::H,L,h,f,c,x,d=>by
  have i:y∈L:=f y (V1 ..);have a:=List.nodup_cons.1 h;by_cases b:x=y
  ·subst b;exact V1 ..
  refine z5 _ (qW (L:=L.erase y) a.2 (λz g=>?_) ?_ x ((List.mem_erase_of_ne b).2 d))
  ·exact(List.mem_erase_of_ne (λe:z=y=>a.1 (by rw[<-e];exact g))).2 (f z (z5 _ g))
  rw[List.length_erase_of_mem i];simp only[List.length_cons]at c;omega
theorem AH{H L:List Int}(f:L.Nodup)(d:∀x∈H,x∈L):(H.Nodup/\H.length=L.length)↔∀a∈L,H.count a=1:=by
 constructor
 ·rintro⟨c,k⟩ a b
  have g:=qW c d ω a b;have i:=List.nodup_iff_count.1 c a;have j:=List.count_pos_iff.2 g;omega
 intro e;have c:H.Nodup:=List.nodup_iff_count.2 λa=>by
  by_cases b:a∈H
  ·rw[e a (d a b)];exact z3 1
  rw[List.count_eq_zero_of_not_mem b];exact U0 _
 refine⟨c,?_⟩;have:H.Perm L:=List.perm_iff_count.2 λa=>by
  by_cases b:a∈L
  ·rw[e a b]
   have i:=List.nodup_iff_count.1 f a;have j:=List.count_pos_iff.2 b;omega
  rw[List.count_eq_zero_of_not_mem b,List.count_eq_zero_of_not_mem λh=>b (d a h)]
 exact this.length_eq
theorem dx{l:a8}{n:Nat}{p:Int} : p∈lpgs l n↔∃k:Nat,k<n/\p=l.R+(k:Nat):=by
 unfold lpgs;simp only[C4,List.mem_range];constructor
 ·rintro⟨k,a,rfl⟩;exact⟨k,a,rfl⟩
 rintro⟨k,a,rfl⟩;exact⟨k,a,rfl⟩
structure sf(sp:List ax)(la:List a8):Prop where
 sok:∀s∈sp,bf s=true
 lok:∀l∈la,bJ l=true
 nd:(sp.map (·.R)).Nodup
 dis:∀s∈sp,∀l∈la,∀k:Nat,k<l.a3.toNat->s.R≠l.R+(k:Nat)
 one:∀i j,i<la.length->j<la.length->∀k k':Nat,k<(nth la i).a3.toNat->k'<(nth la j).a3.toNat->(nth la i).R+(k:Nat)=(nth la j).R+(k':Nat)->i=j
theorem sf.of{sp:List ax}{la:List a8}(h:bn sp la=true):sf sp la:=by
 obtain⟨t,u,d⟩:=dA h;unfold pgs at d;rw[List.nodup_append]at d;obtain⟨w,y,A⟩:=d;have B:=List.pairwise_flatMap.1 y;refine⟨λs f=>Z3.1 t s f,λl g=>Z3.1 u l g,w,λs f l g k c e=>?_,λi j n o k q c a e=>?_⟩
 ·exact A _ (C4.2 ⟨s,f,rfl⟩) _ (List.mem_flatMap.2 ⟨l,g,dx.2 ⟨k,c,rfl⟩⟩) e
 have r:=List.pairwise_iff_getElem.1 B.2;have C:=bm (C2 n);have D:=bm (C2 o);rw[C]at c e;rw[D]at a e;rcases Nat.lt_trichotomy i j with b|p|b
 ·exact absurd e (r i j n o b _ (dx.2 ⟨k,c,rfl⟩) _ (dx.2 ⟨q,a,rfl⟩))
 ·exact p
 exact absurd e.symm (r j i o n b _ (dx.2 ⟨q,a,rfl⟩) _ (dx.2 ⟨k,c,rfl⟩))
theorem gH{s:ax}{a:Int}(b:bf s=true):cz s a=true↔16*s.R<=a/\a<=16*s.R+15:=by
 unfold cz;rw[b];simp
theorem jH{sp:List ax}{la:List a8}(b:sf sp la){a:Int}{i:Nat}(c:i<sp.length)(h:16*(nth sp i).R<=a/\a<=16*(nth sp i).R+15):denotes sp la a=ow i (nth sp i) a:=by
 refine n9 c ((gH (b.sok _ (am c))).2 h) λj z l d=>?_
 cases e:cz z a with
 | false=>rfl
 | true=>
  exfalso;have g:=(I2.1 d).1;have n:=(gH (b.sok z (W1 d))).1 e;have k:=bm d;subst k;have:=cJ (f:=(·.R)) b.nd c g ω;omega
theorem Qw{sp:List ax}{la:List a8}(d:sf sp la){a:Int}(h:∀i,i<sp.length->¬(16*(nth sp i).R<=a/\a<=16*(nth sp i).R+15)):∀(j:Nat)(z:ax),j<sp.length->sp[j]? = some z->cz z a=false:=by
 intro j z f c;cases e:cz z a with
 | false=>rfl
 | true=>
  have g:=(gH (d.sok z (W1 c))).1 e;have b:=bm c;subst b;exact absurd g (h j f)
theorem Ly{sp:List ax}{la:List a8}(f:sf sp la)(a:Int):a∈live0 sp la↔a∈jb sp la:=by
 have L:a∈jb sp la↔∃n:Nat,n<512/\kr sp la n=true/\(n:Int)=a:=by
  unfold jb lO;simp only[C4,I4,List.mem_range];constructor
  ·rintro⟨n,⟨g,p⟩,B⟩;exact⟨n,g,p,B⟩
  rintro⟨n,g,p,B⟩;exact⟨n,⟨g,p⟩,B⟩
 rw[L];unfold live0 fH;rw[Z2,List.mem_flatMap,C4];constructor
 ·rintro(⟨s,t,H⟩|⟨l,b,rfl⟩)
  ·obtain⟨i,h,rfl⟩:=aL t
   unfold eG at H;obtain⟨k,M,rfl⟩:=C4.1 H;obtain⟨u,C⟩:=I4.1 M;have u:=List.mem_range.1 u;have c:=aF (f.sok _ t);have q:=AC ⟨c.2.2.1,c.2.2.2⟩;have N:=rP (nth sp i).d;unfold lC;have O:0<=(k:Int)*csz (nth sp i).d/\(k:Int)*csz (nth sp i).d<=15:=by
    rcases bO ⟨c.2.2.1,c.2.2.2⟩ with e|e|e|e<;>rw[e]at q |-<;>omega
   have o:=jH f h (a:=16*(nth sp i).R+(k:Nat)*csz (nth sp i).d) ω;have J:(16*(nth sp i).R+(k:Nat)*csz (nth sp i).d - 16*(nth sp i).R) / csz (nth sp i).d=(k:Nat)/\(16*(nth sp i).R+(k:Nat)*csz (nth sp i).d - 16*(nth sp i).R) % csz (nth sp i).d=0:=by
    rcases bO ⟨c.2.2.1,c.2.2.2⟩ with e|e|e|e<;>rw[e]<;>omega
   refine⟨(16*(nth sp i).R+(k:Nat)*csz (nth sp i).d).toNat,ω,?_,ω⟩;have d:(((16*(nth sp i).R+(k:Nat)*csz (nth sp i).d).toNat:Nat):Int)=16*(nth sp i).R+(k:Nat)*csz (nth sp i).d:=ω
   unfold kr;rw[d,o];simp only[ow,J.1,J.2,C]
   rfl
  obtain⟨i,h,rfl⟩:=aL b;have R:=aP (f.lok _ b);have P:=cQ (f.lok _ b);have g:=Qw f (a:=16*(nth la i).R) λj K S=>f.dis _ (am K) _ b 0 ω ω
  have A:bq (nth la i) (16*(nth la i).R)=true:=by
   unfold bq;rw[f.lok _ b,O0 ω];rfl
  have o:=mr (a:=16*(nth la i).R) (z3 _) g h A λj z K r=>by
   cases e:bq z (16*(nth la i).R) with
   | false=>rfl
   | true=>
    exfalso;have D:=(I2.1 r).1;have w:=W1 r;have E:=bm r;subst E;have Q:=aP (f.lok _ w);have y:=f.lok _ w;unfold bJ at y;rw[C0]at y;unfold bq at e;rw[I0,C0]at e;have:=f.one i j h D 0 ((nth la i).R - (nth la j).R).toNat ω ω ω;omega
  refine⟨(16*(nth la i).R).toNat,ω,?_,ω⟩;have d:(((16*(nth la i).R).toNat:Nat):Int)=16*(nth la i).R:=ω
  unfold kr;rw[d,o];simp
 rintro⟨n,T,b,rfl⟩
 cases g:sp.findIdx? (cz · (n:Nat)) with
 | some i=>
  obtain⟨h,F,-⟩:=V6.1 g;have G:=bm (C2 h);rw[<-G]at F;have t:=f.sok _ (am h);have p:=(gH t).1 F;have c:=aF t;have q:=AC ⟨c.2.2.1,c.2.2.2⟩;have o:denotes sp la (n:Nat)=ow i (nth sp i) (n:Nat):=by unfold denotes;rw[g]
  rw[rK o]at b;simp only[I0,Y5,C0]at b;simp only[ow]at b;cases A:aS (nth sp i).b2 (((n:Int) - 16*(nth sp i).R) / csz (nth sp i).d) with
  | false=>rw[A]at b;simp at b
  | true=>
   have r:((n:Int) - 16*(nth sp i).R) % csz (nth sp i).d=0:=b.1;refine .inl ⟨nth sp i,am h,?_⟩;unfold eG;refine C4.2 ⟨(((n:Int) - 16*(nth sp i).R) / csz (nth sp i).d).toNat,I4.2 ⟨List.mem_range.2 ?_,?_⟩,?_⟩
   ·rcases bO ⟨c.2.2.1,c.2.2.2⟩ with e|e|e|e<;>rw[e]at q r |-<;>omega
   ·have:((((n:Int) - 16*(nth sp i).R) / csz (nth sp i).d).toNat:Int)=((n:Int) - 16*(nth sp i).R) / csz (nth sp i).d:=by
     rcases bO ⟨c.2.2.1,c.2.2.2⟩ with e|e|e|e<;>rw[e]<;>omega
    rw[this];exact A
   unfold lC;rcases bO ⟨c.2.2.1,c.2.2.2⟩ with e|e|e|e<;>rw[e]at r |-<;>omega
 | none=>
  cases p:la.findIdx? (bq · (n:Nat)) with
  | some i=>
   obtain⟨h,F,-⟩:=V6.1 p;have o:denotes sp la (n:Nat) = ⟨3,i,0,(n:Nat) - 16*(nth la i).R⟩:=by unfold denotes;rw[g,p]
   rw[rK o]at b;simp only[I0,C0]at b;exact .inr ⟨nth la i,am h,by have:=b.1;omega⟩
  | none=>
   have o:denotes sp la (n:Nat) = ⟨0,0,0,0⟩:=by unfold denotes;rw[g,p]
   rw[rK o]at b;simp at b
theorem wi{sp:List ax}{la:List a8}(e:sf sp la){a:Int}(b:(denotes sp la a).c5=0)(c:(denotes sp la a).b6=1\/(denotes sp la a).b6=3):a∈jb sp la:=by
 have l:0<=a/\a<512:=by
  unfold denotes at b c;cases h:sp.findIdx? (cz · a) with
  | some i=>
   obtain⟨f,k,-⟩:=V6.1 h;have j:=List.getElem_mem f;have d:=(gH (e.sok _ j)).1 k;have g:=aF (e.sok _ j);omega
  | none=>
   rw[h]at b c;cases d:la.findIdx? (bq · a) with
   | some i=>
    obtain⟨f,-⟩:=V6.1 d;rw[d]at b;have n:=aP (e.lok _ (am f));simp only at b;omega
   | none=>rw[d]at c;simp at c
 have g:((a.toNat:Nat):Int)=a:=ω
 unfold jb lO;refine C4.2 ⟨a.toNat,I4.2 ⟨List.mem_range.2 ω,?_⟩,g⟩;unfold kr;rw[g];simp only[I0,Y5,C0];exact⟨b,c⟩
theorem oB(sp:List ax)(la:List a8):(jb sp la).Nodup:=by
 unfold jb lO List.Nodup;rw[List.pairwise_map];exact(List.nodup_range.sublist List.filter_sublist).imp λh e=>h ω
theorem tR{h:ab}(d:sf h.K h.M){a c:Int}(b:dt h a c=true):a∈jb h.K h.M:=by
 unfold dt at b;simp only[I0,C0]at b;exact wi d b.1.2 (.inl b.1.1)
theorem Nu{h:ab}(b:sf h.K h.M){o:bu}(a:jg h o=true):o.Addr∈jb h.K h.M:=by
 unfold jg at a;simp only[I0,Y5,C0]at a;exact wi b a.1 (a.2.elim (λe=>.inl e.1) (λe=>.inr e.1))
theorem Hm(h:ab)(a:Int):(mM h).count a=(holders h).count a:=by
 unfold mM holders;simp only[W5];omega
theorem lX(h:ab):iv h=true↔(h.T.all (fk h)=true/\h.a9.a6.all (ik h)=true)/\(aN h.y).all (kA h)=true:=by
 unfold iv;simp only[I0]
theorem kC{h:ab}(e:sf h.K h.M)(g:fF h=true)(j:iv h=true):∀a∈holders h,a∈jb h.K h.M:=by
 obtain⟨⟨n,p⟩,q⟩:=(lX h).1 j;intro a b;unfold holders at b;simp only[Z2]at b;rcases b with((b|b)|b)|b
 ·obtain⟨o,f,rfl⟩:=C4.1 b
  obtain⟨i,r,rfl⟩:=aL f;have d:=dS g r;unfold objAt at d;rw[I0]at d;exact Nu e d.2
 ·unfold cC at b
  obtain⟨c,t,b⟩:=List.mem_flatMap.1 b;obtain⟨l,u,b⟩:=List.mem_flatten.1 b;obtain⟨k,w,rfl⟩:=aL u;have d:=Z3.1 n c t;unfold fk at d;have y:=Z3.1 (show(nth c.b k).all _=true from dS d w) a b;exact tR e y
 ·obtain⟨x,A,rfl⟩:=C4.1 b
  exact tR e (Z3.1 p x A)
 exact tR e (Z3.1 q a b)
theorem K3{h:ab}(c:bn h.K h.M=true)(o:fF h=true):(kG h&&ja h)=jS h:=by
 have f:=sf.of c;have p:(kG h=true/\h.a9.a6.all (ik h)=true)↔h.a9.a6.all (sw h)=true:=by
  unfold kG sw;simp only[Z3,I0];exact⟨λe x b=>⟨e.2 x b,e.1 x b⟩,λe=>⟨λx b=>(e x b).2,λx b=>(e x b).1⟩⟩
 have r:jS h=true↔((h.T.all (fk h)=true/\h.a9.a6.all (sw h)=true)/\(aN h.y).all (kA h)=true)/\∀a∈jb h.K h.M,(holders h).count a=1:=by
  unfold jS;simp only[I0];refine and_congr Iff.rfl ?_;simp only[Z3,C0,Hm];unfold od sorted;simp only[List.mem_mergeSort,Ly f]
 have g:ja h=true↔iv h=true/\((holders h).Nodup/\(holders h).length=(jb h.K h.M).length):=by
  unfold ja;simp only[I0,C0,and_assoc]
 rw[V4,I0,r,g];constructor
 ·rintro⟨i,d,j⟩
  obtain⟨⟨k,l⟩,n⟩:=(lX h).1 d;exact⟨⟨⟨k,p.1 ⟨i,l⟩⟩,n⟩,(AH (oB ..) (kC f o d)).1 j⟩
 rintro⟨⟨⟨i,d⟩,j⟩,k⟩
 obtain⟨l,n⟩:=p.2 d;have q:iv h=true:=(lX h).2 ⟨⟨i,n⟩,j⟩;exact⟨l,q,(AH (oB ..) (kC f o q)).2 k⟩
theorem gW(s t:ax):meshable s t=meshable t s:=by
 unfold meshable;rw[Bool.and_comm (bf s)]
 congr 1
 refine decide_eq_decide.2 ?_;rw[Nat.and_comm];exact⟨λh=>⟨h.1.symm,λe=>h.2.1 e.symm,h.2.2⟩,λh=>⟨h.1.symm,λe=>h.2.1 e.symm,h.2.2⟩⟩
theorem ew{t:aH}{f:Int}{p:Nat} : (p:Int)∈pagesOn t f↔p<t.J.length/\(nth t.J p).j≠0/\(nth t.J p).e=f:=by
 unfold pagesOn jU;simp only[C4,I4,List.mem_range];constructor
 ·rintro⟨n,⟨b,a⟩,c⟩
  obtain rfl:n=p:=ω
  unfold Lc at a;rw[C0]at a;exact⟨b,a⟩
 rintro⟨b,a⟩
 exact⟨p,⟨b,by unfold Lc;rw[C0];exact a⟩,rfl⟩
theorem vj{t:aH}{f q:Int}(h:q∈pagesOn t f):∃p:Nat,q=(p:Nat):=by
 unfold pagesOn jU at h;obtain⟨n,-,rfl⟩:=C4.1 h;exact⟨n,rfl⟩
theorem sJ{h:ab}(a:pages0 h=true):(∀i,i<h.M.length->∀k:Nat,k<(nth h.M i).a3.toNat->(aT h ((nth h.M i).R+(k:Nat))).length=1)/\(∀p∈pgs h.K h.M,p<eY h)/\∀p:Nat,p<eY h->((nth (tbl h).J p).j≠0↔(p:Int)∈pgs h.K h.M):=by
 unfold pages0 at a;simp only[I0]at a;obtain⟨⟨⟨-,d⟩,e⟩,f⟩:=a;refine⟨λi g k j=>?_,λp a=>?_,λp a=>?_⟩
 ·have b:=dS d g
  unfold sg at b;rw[I0]at b;have c:=dS b.2 j;unfold wE at c;rw[C0]at c;exact c
 ·have:=Z3.1 e p a
  rw[C0]at this;exact this
 have b:=dS f a;unfold vG at b;rw[I0,C0]at b;exact b.1
theorem yi{h:ab}{p:Nat}(a:p<eY h):ac (tbl h) (p:Nat)=nth (tbl h).J p:=m0 a
theorem fD{h:ab}{p:Nat}(a:p<eY h)(b:(nth (tbl h).J p).j≠0):aT h (p:Nat)=pagesOn (tbl h) (nth (tbl h).J p).e:=by
 unfold aT;rw[show h.G.F.Q=tbl h from rfl,yi a,C8 b]
theorem uy{h:ab}(g:sf h.K h.M){j:Nat}(c:j<h.K.length):gI h (nth h.K j).R=(j:Nat):=by
 unfold gI;refine dE (ao c) (by unfold ko;simp) λk z i d=>?_
 have a:=bm d;have b:=(I2.1 d).1;subst a;unfold ko;refine T0 λe=>?_
 have:=cJ (f:=(·.R)) g.nd b c e;omega
theorem tM{h:ab}(y:bn h.K h.M=true)(T:pages0 h=true):va h=og h:=by
 have G:=sf.of y;obtain⟨U,V,O⟩:=sJ T;have t:∀i,i<h.K.length->∃p:Nat,(nth h.K i).R=(p:Nat)/\p<eY h/\(nth (tbl h).J p).j≠0:=λi n=>by
  have hc:=aF (G.sok _ (am n));have P:(nth h.K i).R∈pgs h.K h.M:=by
   unfold pgs;exact Z2.2 (.inl (C4.2 ⟨_,am n,rfl⟩))
  have o:=V _ P;refine⟨(nth h.K i).R.toNat,ω,ω,?_⟩;refine(O _ ω).2 ?_;rw[show(((nth h.K i).R.toNat:Nat):Int)=(nth h.K i).R by omega];exact P
 rw[V4];unfold va og;rw[cx,cx];constructor
 ·intro K i n
  rw[cx];intro j L;have A:j<h.K.length:=ω
  unfold lg;rw[Y5,C0];by_cases b:(ac (tbl h) (nth h.K i).R).e=(ac (tbl h) (nth h.K j).R).e
  ·right
   obtain⟨p,f,c,r⟩:=t i n;obtain⟨q,B,a,g⟩:=t j A;have d:=Z3.1 (K i n);rw[f,B,yi c,yi a]at b;have W:(q:Int)∈aT h (nth h.K i).R:=by
    rw[f,fD c r];exact ew.2 ⟨a,g,b.symm⟩
   have u:=d _ W;unfold mq at u;rw[<-B,uy G A]at u;rw[Y5,I0,C0]at u;rcases u with u|u
   ·omega
   simpa using u.2
  exact .inl b
 intro C i n;rw[Z3];intro q H;obtain⟨p,f,c,r⟩:=t i n;have X:=H;rw[f,fD c r]at H;obtain⟨J,rfl⟩:=vj H;obtain⟨a,g,D⟩:=ew.1 H;have w:=(O J a).1 g;unfold pgs at w;rw[Z2,C4,List.mem_flatMap]at w;rcases w with⟨s,K,E⟩|⟨l,Y,M⟩
 ·obtain⟨j,L,rfl⟩:=aL K
  unfold mq;rw[<-E,uy G L];rw[Y5,I0,C0,C0];have b:(ac (tbl h) (nth h.K i).R).e=(ac (tbl h) (nth h.K j).R).e:=by
   rw[f,E,yi c,yi a,D]
  rcases Nat.lt_trichotomy j i with o|Z|o
  ·have d:=dS (C i n) o
   unfold lg at d;rw[Y5,C0]at d;exact .inr ⟨ω,by simpa using d.resolve_left λe=>e b⟩
  ·exact .inl ω
  have d:=dS (C j L) o;unfold lg at d;rw[Y5,C0]at d;exact .inr ⟨ω,by rw[gW];simpa using d.resolve_left λe=>e b.symm⟩
 exfalso;obtain⟨i2,F,rfl⟩:=aL Y;obtain⟨k,Q,N⟩:=dx.1 M;have d:=U i2 F k Q;rw[<-N,fD a g]at d;have R:(J:Int)∈pagesOn (tbl h) (nth (tbl h).J J).e:=ew.2 ⟨a,g,rfl⟩;have S:(p:Int)∈pagesOn (tbl h) (nth (tbl h).J J).e:=ew.2 ⟨c,r,D.symm⟩;obtain⟨z,hz⟩:=List.length_eq_one_iff.1 d;rw[hz]at R S;simp only[I1]at R S;have:=G.dis _ (am n) _ (am F) k Q;omega
theorem kS(h:ab):k6 h=dy h:=by
 unfold k6 dy lf;cases d:a7 h.G with
 | false=>rfl
 | true=>
  cases e:bC (eY h) h.u with
  | false=>rfl
  | true=>
   cases a:bn h.K h.M with
   | false=>rfl
   | true=>
    cases b:pages0 h with
    | false=>rfl
    | true=>
     rw[tM a b];cases c:fF h with
     | false=>simp
     | true=>
      have:=K3 a c;rw[<-this];cases og h<;>cases dr h<;>cases kG h<;>cases h.T.all bA<;>cases cj h<;>cases ja h<;>cases qE h<;>rfl
def ovl(y r:aA):Bool:=decide (y.At<r.At+r.b1/\r.At<y.At+y.b1)
def mD(r:aA):List aA->Bool->Option (List aA)
 | [],put=>some (if put then [] else [r])
 | y::a,put=>if ovl y r then none else if !put&&decide (y.At > r.At) then(mD r a true).map λt=>r::y::t else(mD r a put).map λt=>y::t
def dl(out:List aA):List aA->List aA
 | []=>out
 | y::ys=>match out.getLast? with
  | some z=>if z.At+z.b1=y.At then dl (out.dropLast++[⟨z.At,z.b1+y.b1⟩]) ys else dl (out++[y]) ys
  | none=>dl (out++[y]) ys
def kj:List aA->aA->List aA->Bool->Option (List aA)
 | [],r,out,done=>some (if done then out else out++[r])
 | y::ys,r,out,done=>
  if ovl y r then none
  else if y.At+y.b1=r.At then kj ys ⟨y.At,y.b1+r.b1⟩ out done
  else if r.At+r.b1=y.At then kj ys ⟨r.At,r.b1+y.b1⟩ out done
  else if y.At > r.At/\done=false then kj ys r (out++[r,y]) true
  else kj ys r (out++[y]) done
def oH(xs:List aA):Prop:=xs.Pairwise (λa b=>a.At+a.b1<b.At)/\∀y∈xs,1<=y.b1
theorem oH.tail{y:aA}{a:List aA}(h:oH (y::a)):oH a:=⟨(List.pairwise_cons.1 h.1).2,λz b=>h.2 z (z5 _ b)⟩
theorem oH.head{y:aA}{a:List aA}(h:oH (y::a)):∀z∈a,y.At+y.b1<z.At:=(List.pairwise_cons.1 h.1).1
theorem jz:∀(a out:List aA),oH a->(∀z,out.getLast? = some z->∀y∈a,z.At+z.b1≠y.At)->dl out a=out++a
 | [],out,_,_=>by simp[dl]
 | y::a,out,d,e=>by
  have b:dl (out++[y]) a=out++y::a:=by
   rw[jz a (out++[y]) d.tail λz c w f=>by
     simp at c;subst c;have:=d.head w f;omega]
   simp
  unfold dl;split
  ·rename_i z c
   rw[C8 (e z c y (V1 ..))];exact b
  exact b
theorem wL{r:aA} : ∀{a:List aA},oH a->(∀y∈a,r.At+r.b1<=y.At)->mD r a true=some a
 | [],_,_=>rfl
 | y::a,c,b=>by
  have e:=b y (V1 ..);unfold mD;rw[C8 (by unfold ovl;rw[C0];omega)];simp only[Bool.not_true,Bool.false_and,Bool.false_eq_true,if_false];rw[wL c.tail λz d=>b z (z5 _ d)]
  rfl
theorem vk{r:aA}(h1:1<=r.b1){a:List aA}(c:oH a)(b:∀y∈a,r.At+r.b1<=y.At):mD r a false=some (r::a):=by
 cases a with
 | nil=>rfl
 | cons y a=>
  have e:=b y (V1 ..);unfold mD;rw[C8 (by unfold ovl;rw[C0];omega),C9 (by simp;omega),wL c.tail λz d=>b z (z5 _ d)]
  rfl
theorem pG{r:aA} : ∀{a out:List aA},oH a->1<=r.b1->(∀y∈a,r.At+r.b1<y.At)->kj a r out true=some (out++a)
 | [],out,_,_,_=>by simp[kj]
 | y::a,out,b,d,c=>by
  have f:=c y (V1 ..);have g:=b.2 y (V1 ..);unfold kj;rw[C8 (by unfold ovl;rw[C0];omega),C8 ω,C8 ω,C8 (by simp),pG b.tail d λz e=>c z (z5 _ e)];simp
theorem xy{r:aA}(h1:1<=r.b1){a out:List aA}(b:oH a)(c:∀y∈a,r.At+r.b1<=y.At):kj a r out false=some (out++match a with|[]=>[r]|y::zs=>if r.At+r.b1=y.At then⟨r.At,r.b1+y.b1⟩::zs else r::y::zs):=by
 cases a with
 | nil=>simp[kj]
 | cons y a=>
  have g:=c y (V1 ..);have h:=b.2 y (V1 ..);unfold kj;rw[C8 (by unfold ovl;rw[C0];omega),C8 ω];by_cases e:r.At+r.b1=y.At
  ·rw[C9 e]
   simp only[e,if_true];cases a with
   | nil=>simp[kj]
   | cons z a=>
    have i:=b.head z (V1 ..);have j:=b.tail.2 z (V1 ..);unfold kj;simp only;rw[C8 (by unfold ovl;rw[C0];simp only;omega),C8 ω,C8 ω,C9 (by simp;omega),pG b.tail.tail (by simp only;omega) λw d=>by
      have:=b.tail.head w d;simp only;omega]
    simp
  rw[C8 e,C9 (by simp;omega),pG b.tail h1 λz f=>by have:=b.head z f;omega];simp[e]
theorem AX{pages:Int} : ∀{b:List aA}{r:aA}{out:List aA},oH b->1<=r.b1->(∀z,out.getLast? = some z->(∀y∈b,z.At+z.b1<y.At)/\z.At+z.b1<r.At)->(mD r b false).map (dl out)=kj b r out false
 | [],r,out,_,j,u=>by
  show some (dl out [r])=some (out++[r]);rw[jz [r] out ⟨List.pairwise_singleton ..,λy B=>by rw[I1.1 B];exact j⟩ λz d y B=>by rw[I1.1 B];have:=(u z d).2;omega]
 | y::b,r,out,c,j,u=>by
  have L:=c.2 y (V1 ..);by_cases l:ovl y r=true
  ·unfold mD kj
   rw[C9 l,C9 l];rfl
  ·have n:=l
   unfold ovl at n;rw[C0]at n;by_cases C:r.At+r.b1<=y.At
   ·-- all to the right
    have f:∀w∈y::b,r.At+r.b1<=w.At:=λw a=>by
     rcases List.mem_cons.1 a with rfl|a
     ·exact C
     have:=c.head w a;omega
    rw[vk j c f,xy j c f];show some (dl out (r::y::b))=_;have hfirst:dl out (r::y::b)=dl (out++[r]) (y::b):=by
     conv=>lhs;unfold dl
     split
     ·rename_i z d;rw[C8 (by have:=(u z d).2;omega)]
     rfl
    rw[hfirst];by_cases e:r.At+r.b1=y.At
    ·have:dl (out++[r]) (y::b)=dl (out++[⟨r.At,r.b1+y.b1⟩]) b:=by
      conv=>lhs;unfold dl
      simp[e]
     rw[this,jz b _ c.tail λz d w a=>by
       simp at d;subst d;have:=c.head w a;simp only;omega]
     simp[e]
    rw[jz (y::b) (out++[r]) c λz d w a=>by
      simp at d;subst d;rcases List.mem_cons.1 a with rfl|a
      · exact e
      have:=c.head w a;omega]
    simp[e]
   have F:y.At+y.b1<=r.At:=ω
   have i:∀t,dl out (y::t)=dl (out++[y]) t:=λt=>by
    conv=>lhs;unfold dl
    split
    ·rename_i z d;rw[C8 (by have:=(u z d).1 y (V1 ..);omega)]
    rfl
   have G:(mD r (y::b) false).map (dl out)=(mD r b false).map (dl (out++[y])):=by
    conv=>lhs;unfold mD
    rw[C8 l,C8 (by simp;omega),Option.map_map]
    congr 1
    funext t
    exact i t
   rw[G];unfold kj;rw[C8 l];by_cases e:y.At+y.b1=r.At
   ·rw[C9 e]
    by_cases o:∃w,b.head? = some w/\ovl w r=true
    ·obtain⟨w,a,p⟩:=o
     cases b with
     | nil=>cases a
     | cons g k=>
      obtain rfl:g=w:=by simpa using a
      have H:=c.head g (V1 ..);have J:=c.tail.2 g (V1 ..);have q:=p;unfold ovl at q;rw[C0]at q;unfold mD kj;rw[C9 p,C9 (by unfold ovl;rw[C0];simp only;omega)]
      rfl
    have f:∀w∈b,r.At+r.b1<=w.At:=by
     cases b with
     | nil=>intro w a;cases a
     | cons g k=>
      have H:=c.head g (V1 ..);have J:=c.tail.2 g (V1 ..);have E:¬ovl g r=true:=λh=>o ⟨g,rfl,h⟩
      unfold ovl at E;rw[C0]at E;intro w a;rcases List.mem_cons.1 a with rfl|a
      ·omega
      have:=c.tail.head w a;omega
    rw[vk j c.tail f,xy (r:=⟨y.At,y.b1+r.b1⟩) (by simp only;omega) c.tail λw a=>by have:=f w a;simp only;omega];show some (dl (out++[y]) (r::b))=_;have K:dl (out++[y]) (r::b)=dl (out++[⟨y.At,y.b1+r.b1⟩]) b:=by
     conv=>lhs;unfold dl
     simp[e]
    rw[K];cases b with
    | nil=>simp[dl]
    | cons g k=>
     by_cases A:y.At+(y.b1+r.b1)=g.At
     ·have D:dl (out++[⟨y.At,y.b1+r.b1⟩]) (g::k)=dl (out++[⟨y.At,y.b1+r.b1+g.b1⟩]) k:=by
       conv=>lhs;unfold dl
       simp[A]
      rw[D,jz k _ c.tail.tail λz d w a=>by
        simp at d;subst d;have:=c.tail.head w a;simp only;omega]
      simp[A]
     rw[jz (g::k) _ c.tail λz d w a=>by
       simp at d;subst d;simp only;rcases List.mem_cons.1 a with rfl|a
       · exact A
       have:=c.tail.head w a;have:=f g (V1 ..);have:=c.tail.2 g (V1 ..);omega]
     simp[A]
   rw[C8 e,C8 ω,C8 ω];exact AX (pages:=pages) c.tail j λz d=>by
    simp at d;subst d;exact⟨c.head,ω⟩
def fU(k:af)(f:Int):af:=if(pagesOn k.F.Q f).length=0 then {k with F:=⟨⟨k.F.W.S.set f.toNat (List.replicate 16 0),k.F.W.a5.set f.toNat false⟩,k.F.Q⟩} else k
def qg(k:af)(p:Int):af:={k with F:=⟨k.F.W,⟨k.F.Q.J.set p.toNat ⟨0,0⟩⟩⟩}
def dU(k:af)(p:Int):af:=if(ac k.F.Q p).j=0 then k else fU (qg k p) (ac k.F.Q p).e
theorem bz{α:Type}[Inhabited α](xs:List α)(i j:Nat)(x:α):nth (xs.set i x) j=if i=j/\j<xs.length then x else nth xs j:=by
 unfold nth;rw[U2,U2,X3];by_cases h:i=j
 ·subst h
  by_cases a:i<xs.length
  ·simp[a]
  simp[a]
 simp[h]
theorem mJ(k:af)(f:Int):(fU k f).F.Q=k.F.Q/\(fU k f).Calls=k.Calls/\(fU k f).a0=k.a0/\(fU k f).F.W.S.length=k.F.W.S.length/\(fU k f).F.W.a5.length=k.F.W.a5.length:=by
 unfold fU;split<;>simp
theorem l7(k:af)(p:Int):(dU k p).F.Q.J.length=k.F.Q.J.length/\(dU k p).Calls=k.Calls/\(dU k p).a0=k.a0:=by
 unfold dU;split
 ·exact⟨rfl,rfl,rfl⟩
 obtain⟨a,b,c,-⟩:=mJ (qg k p) (ac k.F.Q p).e;rw[a,b,c];simp[qg]
theorem aB{k:af} : a7 k=true↔(∀j,j<k.a0.length->0<=nth k.a0 j)/\du k.F.W=true/\gw k.F.Q k.F.W.a5.length=true/\(∀j,j<k.F.W.a5.length->nth k.F.W.a5 j=decide (0<(pagesOn k.F.Q (j:Int)).length))/\0<=k.Calls/\k.Calls<=100000/\k.a0.length<=40:=by
 unfold a7 di;simp only[I0,cx,C0,oT,beq_iff_eq,and_assoc]
theorem aU{f:bc} : du f=true↔1<=f.S.length/\f.S.length<=32/\f.a5.length=f.S.length/\∀j,j<f.S.length->gZ (nth f.S j) (nth f.a5 j)=true:=by
 unfold du;simp only[I0,C0,Z3,and_assoc];refine and_congr Iff.rfl (and_congr Iff.rfl (and_congr_right λe=>⟨λh j a=>?_,λh q c=>?_⟩))
 ·exact h _ (W1 (wh (ao a) (ao ω)))
 obtain⟨j,a⟩:=List.mem_iff_getElem?.1 c;obtain⟨b,d⟩:=List.getElem?_zip_eq_some.1 a;have:=h j (I2.1 b).1
 rwa [bm b,bm d]at this
theorem bv{t:aH}{a:Int} : gw t a=true↔(∀j,j<t.J.length->ky a (nth t.J j)=true)/\1<=t.J.length/\t.J.length<=32:=by
 unfold gw;simp only[I0,cx,C0]
theorem dG{t:aH}{f:Int} : 0<(pagesOn t f).length↔∃q,q<t.J.length/\(nth t.J q).j≠0/\(nth t.J q).e=f:=by
 unfold pagesOn jU;rw[Z0,List.length_pos_iff_exists_mem];simp[Lc]
theorem bI{k:af}{p:Int}(h:a7 k=true)(b:(ac k.F.Q p).j≠0):0<=p/\p<k.F.Q.J.length/\ac k.F.Q p=nth k.F.Q.J p.toNat/\0<=(ac k.F.Q p).e/\(ac k.F.Q p).e<k.F.W.a5.length:=by
 obtain⟨-,-,c,-⟩:=aB.1 h;have a:0<=p/\p<k.F.Q.J.length:=by
  by_cases a:0<=p/\p<k.F.Q.J.length
  ·exact a
  unfold ac at b;rw[C8 a]at b;exact absurd rfl b
 have d:ac k.F.Q p=nth k.F.Q.J p.toNat:=by unfold ac;rw[C9 a]
 have:=(bv.1 c).1 p.toNat ω;rw[d]at b |-;unfold ky at this;rw[C0]at this;exact⟨a.1,a.2,rfl,this.2.2.2 b⟩
theorem yk{k:af}(p:Int)(h:a7 k=true):a7 (dU k p)=true:=by
 unfold dU;split
 ·exact h
 rename_i t;obtain⟨E,F,G,l,n⟩:=bI h t;obtain⟨u,w,H,y,A,B,C⟩:=aB.1 h;obtain⟨J,K,L,M⟩:=aU.1 w;obtain⟨N,O,P⟩:=bv.1 H;rw[G]at t l n |-;generalize Q:(nth k.F.Q.J p.toNat).e=f at l n;have g:∀q,nth (k.F.Q.J.set p.toNat ⟨0,0⟩) q=if p.toNat=q then⟨0,0⟩ else nth k.F.Q.J q:=λq=>by
  rw[bz];by_cases r:p.toNat=q
  ·rw[C9 ⟨r,ω⟩,C9 r]
  rw[C8 (λe=>r e.1),C8 r]
 have b:∀j:Int,0<(pagesOn (⟨k.F.Q.J.set p.toNat ⟨0,0⟩⟩ : aH) j).length↔∃q,q<k.F.Q.J.length/\q≠p.toNat/\(nth k.F.Q.J q).j≠0/\(nth k.F.Q.J q).e=j:=λj=>by
  rw[dG];simp only[O1,g]
  grind
 have c:∀j:Int,0<(pagesOn k.F.Q j).length↔∃q,q<k.F.Q.J.length/\(nth k.F.Q.J q).j≠0/\(nth k.F.Q.J q).e=j:=λj=>dG
 have i:gw ⟨k.F.Q.J.set p.toNat ⟨0,0⟩⟩ k.F.W.a5.length=true:=by
  rw[bv];simp only[O1,g];refine⟨λj d=>?_,O,P⟩;split
  ·unfold ky;simp
  exact N j d
 unfold fU;split
 ·rename_i o
  rw[aB];simp only[qg,O1]at o |-;refine⟨u,?_,i,λj d=>?_,A,B,C⟩
  ·rw[aU]
   simp only[O1,bz];refine⟨J,K,L,λj d=>?_⟩;by_cases a:f.toNat=j
   ·rw[C9 ⟨a,d⟩,C9 ⟨a,ω⟩];decide
   rw[C8 (λe=>a e.1),C8 (λe=>a e.1)];exact M j d
  rw[bz];by_cases a:f.toNat=j
  ·rw[C9 ⟨a,d⟩]
   have:(j:Int)=f:=ω
   rw[this];exact(T0 λR=>absurd o (Nat.ne_of_gt R)).symm
  rw[C8 (λe=>a e.1),y j d];refine decide_eq_decide.2 ?_;rw[c,b]
  grind
 rename_i o;rw[aB];simp only[qg]at o |-;refine⟨u,w,i,λj d=>?_,A,B,C⟩;rw[y j d];refine decide_eq_decide.2 ?_;by_cases a:f=j
 ·have D:0<(pagesOn (⟨k.F.Q.J.set p.toNat ⟨0,0⟩⟩ : aH) j).length:=by rw[<-a];exact Nat.pos_of_ne_zero o
  have:=(b j).1 D;constructor
  ·intro _;exact D
  intro _;rw[c];grind
 rw[c,b];grind
theorem bp{k:af}(h:a7 k=true):af.sml k:=by
 obtain⟨g,b,c,i,l,n,o⟩:=aB.1 h;obtain⟨p,q,t,d⟩:=aU.1 b;obtain⟨u,w,y⟩:=bv.1 c;refine⟨⟨⟨⟨ω,λr f=>?_⟩,(by omega:_<=1048576)⟩,⟨ω,λe _=>trivial⟩⟩,(by omega:_<=1048576)⟩;obtain⟨j,a⟩:=List.mem_iff_getElem?.1 f;have:=d j (I2.1 a).1;rw[bm a]at this;unfold gZ at this;simp only[I0,C0]at this;show r.length<=1048576;omega
theorem rO{h:ab}(a:dy h=true):a7 h.G=true:=by
 unfold dy lf at a;simp only[I0]at a
 grind
theorem Ap.cp{α:Type}{e:α->List C}{xs:List α}{sz by_:Nat}{K:List (List C)->Prop}(b:∀x,(e x).length=sz)(c:∀x,aY (e x)=true)(d:xs.length<=1048576)(f:by_<=1000)(g:K (xs.map e)):Ap true [] (xs.map e) sz by_ K:=
 CT (λr a=>by cases a) (λr a=>by obtain⟨y,-,rfl⟩:=C4.1 a;exact b y) (λ_ r a=>by obtain⟨y,-,rfl⟩:=C4.1 a;exact c y) (by simp;omega) (by simp only[Z0,List.length_nil,U6];exact yI d f) rfl g
theorem CO:type_of% @Ap.cp:=@Ap.cp
theorem Fl.cp{α:Type}{e:α->List C}{xs:List α}{sz by_:Nat}{X:Prop}(a:∀x,(e x).length=sz)(b:∀x,aY (e x)=true)(c:xs.length<=1048576)(d:by_<=1000)(f:X):Fl (xs.map e) sz by_ X:=
 Fl.mk (λr g=>by obtain⟨y,-,rfl⟩:=C4.1 g;exact⟨a y,b y⟩) (by simp;omega) (by simp only[Z0];exact yI c d) f
theorem CV:type_of% @Fl.cp:=@Fl.cp
theorem Ap.sn{rows b:List (List C)}{r:List C}{sz by_:Nat}{K:List (List C)->Prop}(h1:∀r∈rows,r.length=sz)(c:r.length=sz)(d:rows.length+1<=1048576)(e:by_<=1000)(a:b=rows++[r])(f:K b):Ap false rows [r] sz by_ K:=
 CT h1 (λg a=>by rw[I1.1 a];exact c) (λh=>by cases h) (by simp;omega) (yI (by simpa using d) e) a f
theorem jJ(xs:List Int)(a:xs.length<=1048576):ar Tryz.prog 211 false [.val none (aD .X xs)] .one (aD .own xs):=by
 refine fO 6 [] Tryz.func211 rfl ?_ (.inr (bH _))
 repeat'(first|refine gO ?_|(conv=>whnf);refine CO (λ_=>rfl) (λ_=>rfl) a (by decide) ?_)
 rfl
theorem BG(t:aH)(a:aH.sml t):ar Tryz.prog 471 false [.val (some 1) (aH.enc .X t)] .agg (aH.enc .own t):=by
 have b:=a.1;refine fO 8 [] Tryz.func471 rfl ?_ (.inr (aH.enc_fr _))
 repeat'(first|refine gO ?_|(conv=>whnf);refine CO (λ_=>rfl) (λ_=>rfl) b (by decide) ?_)
 rfl
theorem yo(t:aH)(a:aH.sml t):ar Tryz.prog 361 false [.val (some 1) (aH.enc .X t)] .agg (aH.enc .own t):=by
 have b:=a.1;refine fO 8 [] Tryz.func361 rfl ?_ (.inr (aH.enc_fr _))
 repeat'(first|refine gO ?_|(conv=>whnf);refine CO (λ_=>rfl) (λ_=>rfl) b (by decide) ?_)
 rfl
theorem aO{α:Type}{e:α->List C}{l:List α}{n:Nat}(h:∀x,(e x).length=n):∀r∈l.map e,r.length=n:=λr a=>by
 obtain⟨y,-,rfl⟩:=C4.1 a;exact h y
theorem fK{α β:Type}[Inhabited α]{xs:List α}{f:α->β}{i:Nat}(a:i<xs.length):(xs.take (i+1)).map f=(xs.take i).map f++[f (nth xs i)]:=by
 rw[I5,ao a];simp
theorem Dz(f:bc)(a:bc.sml f):ar Tryz.prog 470 false [.val (some 2) (bc.enc .X f)] .agg (bc.enc .own f):=by
 have g:=a.1.1;have d:f.a5.length<=1048576:=a.2;refine fO 30 [(5,10,[17,18,19,20,21,22,23,24,25,26])] Tryz.func470 rfl ?_ (.inr (bc.enc_fr _))
 repeat'(first|(conv=>whnf);refine CO (λ_=>rfl) (λ_=>rfl) d (by decide) ?_)
 (conv=>whnf)
 refine CE (ι:=Nat) (λi=>[(1,.H .box (bc.enc .X f)),(2,.H .box [.z,.z]),(3,.H .box [.s .own ((f.S.take i).map (aD .own)),.s .own (f.a5.map (rB .own))]),(4,.H .one [I ((i:Nat):Int)])]) (λi=>i<=f.S.length) (λi=>f.S.length - i) (0) ?_ (U0 _) λi h=>?_
 ·exact wB
 by_cases b:i<f.S.length
 ·have e:=ao b
  have c:(nth f.S i).length<=1048576:=a.1.2 _ (am b)
  repeat'(first|refine gD ?_|(conv=>whnf);first|with_reducible refine CC (aa e) ?_|refine CV (λ_=>rfl) (λ_=>rfl) c (by decide) ?_|refine Ap.sn (aO λ_=>rfl) rfl (by simp;omega) (by decide) (fK b) ?_)
  ((conv=>whnf);refine CD (i+1) ω ω ?_;(exact wB))
 repeat'(first|refine gD ?_|fail)
 obtain rfl:i=f.S.length:=ω
 rw[t5]
 rfl
theorem vI(f:bc)(a:bc.sml f):ar Tryz.prog 360 false [.val (some 2) (bc.enc .X f)] .agg (bc.enc .own f):=by
 have g:=a.1.1;have d:f.a5.length<=1048576:=a.2;refine fO 27 [(5,5,[18,19,20,21,22])] Tryz.func360 rfl ?_ (.inr (bc.enc_fr _))
 repeat'(first|refine gO ?_|(conv=>whnf);refine CO (λ_=>rfl) (λ_=>rfl) d (by decide) ?_)
 (conv=>whnf)
 refine CE (ι:=Nat) (λi=>[(2,.H .box [.z,.z]),(3,.H .box [.s .own ((f.S.take i).map (aD .own)),.s .own (f.a5.map (rB .own))]),(12,.H .one (j8 .X f.S)),(13,.H .one [I (f.S.length)]),(14,.H .one [I ((i:Nat):Int)])]) (λi=>i<=f.S.length) (λi=>f.S.length - i) (0) ?_ (U0 _) λi h=>?_
 ·exact wB
 by_cases b:i<f.S.length
 ·have e:=ao b
  have c:(nth f.S i).length<=1048576:=a.1.2 _ (am b)
  repeat'(first|refine gD ?_|(conv=>whnf);first|with_reducible refine CC (aa e) ?_|refine C7 (jJ (nth f.S i) c) ?_|refine Ap.sn (aO λ_=>rfl) rfl (by simp;omega) (by decide) (fK b) ?_)
  ((conv=>whnf);refine CD (i+1) ω ω ?_;(exact wB))
 repeat'(first|refine gD ?_|fail)
 obtain rfl:i=f.S.length:=ω
 rw[t5]
 rfl
theorem sY(m:aR)(a:aR.sml m):ar Tryz.prog 363 false [.val (some 3) (aR.enc .X m)] .agg (aR.enc .own m):=by
 refine fO 10 [(1,5,[3,4,5,6,7])] Tryz.func363 rfl ?_ (.inr (aR.enc_fr _))
 repeat'(first|refine gO ?_|(conv=>whnf);first|refine C7 (Dz m.W a.1) ?_|refine C7 (BG m.Q a.2) ?_)
 rfl
theorem mF(m:aR)(a:aR.sml m):ar Tryz.prog 210 false [.val (some 3) (aR.enc .X m)] .agg (aR.enc .own m):=by
 refine fO 10 [(1,5,[3,4,5,6,7])] Tryz.func210 rfl ?_ (.inr (aR.enc_fr _))
 repeat'(first|refine gO ?_|(conv=>whnf);first|refine C7 (vI m.W a.1) ?_|refine C7 (yo m.Q a.2) ?_)
 rfl
theorem BX(k:af)(a:af.sml k):ar Tryz.prog 218 false [.val (some 5) (af.enc .X k)] .agg (af.enc .own k):=by
 have b:k.a0.length<=1048576:=a.2;refine fO 13 [(1,9,[3,4,5,6,7,8,9,10,11])] Tryz.func218 rfl ?_ (.inr (Ca _))
 repeat'(first|refine gO ?_|(conv=>whnf);first|refine C7 (sY k.F a.1) ?_|refine CV (λ_=>rfl) (λ_=>rfl) b (by decide) ?_)
 rfl
theorem iw(k:af)(a:af.sml k):ar Tryz.prog 65 false [.val (some 5) (af.enc .X k)] .agg (af.enc .own k):=by
 refine fO 12 [(1,8,[3,4,5,6,7,8,9,10])] Tryz.func65 rfl ?_ (.inr (Ca _))
 repeat'(first|refine gO ?_|(conv=>whnf);first|refine C7 (mF k.F a.1) ?_|refine C7 (jJ k.a0 a.2) ?_)
 rfl
theorem fy(k:af)(p:Int)(a:aH.sml k.F.Q):ar Tryz.prog 488 false [.ptr (af.enc .X k),.val none [I p]] .one [I (ac k.F.Q p).j]:=by
 refine fO 13 [] Tryz.func488 rfl ?_
 repeat'(first|refine gO ?_|(conv=>whnf);refine C7 (cM k.F.Q p a) ?_)
 rfl
theorem lY(k:af)(b:af.sml k):ar Tryz.prog 455 false [.val (some 5) (af.enc .X k)] .one [B (a7 k&&decide (k.Calls<100000))]:=by
 have a:=mn k b;cases e:a7 k<;>rw[e]at a
 ·refine fO 10 [] Tryz.func455 rfl ?_
  repeat'(first|refine gO ?_|(conv=>whnf);refine C7 (a) ?_)
  all_goals rfl
 refine fO 10 [] Tryz.func455 rfl ?_
 repeat'(first|refine gO ?_|(conv=>whnf);refine C7 (a) ?_)
 all_goals rfl
theorem kI(k:af)(b:af.sml k):ar Tryz.prog 212 false [.val (some 5) (af.enc .X k)] .one [B (decide (k.Calls≠100000)&&a7 k)]:=by
 have c:=qG k b;refine fO 10 [] Tryz.func212 rfl ?_
 repeat'(first|refine gO ?_|(conv=>whnf);first|with_reducible refine Bf.N (λa=>?_) (λa=>?_)|refine C7 (c) ?_)
 all_goals(exact W0 (λz=>[B z]) ((by simp[*])))
theorem uB{k:af}{f:Int}(h:(pagesOn k.F.Q f).length=0):af.enc .own (fU k f)=[.s .own ((k.F.W.S.map (aD .own)).set f.toNat (aD .own (List.replicate 16 0))),.s .own ((k.F.W.a5.map (rB .own)).set f.toNat (rB .own false)),.s .own (k.F.Q.J.map (bi.enc .own)),I k.Calls,.s .own (k.a0.map (rI .own))]:=by
 unfold fU;rw[C9 h];simp only[af.enc,X5]
theorem wO{k:af}{f:Int}(h:¬(pagesOn k.F.Q f).length=0):af.enc .own (fU k f)=af.enc .own k:=by
 unfold fU;rw[C8 h]
theorem Br(k:af)(f:Int)(a:aH.sml k.F.Q)(b:0<=f/\f<k.F.W.S.length/\f<k.F.W.a5.length) :
  aW Tryz.prog 489 false [.ptr (af.enc .own k),.val none [I f]] [.ptr (af.enc .own (fU k f)),.val none [I f]] (.tup []) []:=by
 have c:=ao (xs:=k.F.W.S) (i:=f.toNat) ω;have d:=ao (xs:=k.F.W.a5) (i:=f.toNat) ω;by_cases e:(pagesOn k.F.Q f).length=0
 ·rw[uB e]
  refine fM 30 [] [(2,8,[21,22,23,24,25,26,27,28])] [(0,0),(0,0)] Tryz.func489 rfl (λu q=>?_) (.inr trivial)
  repeat'(first|refine gA ?_|(conv=>whnf);first|with_reducible (first|refine CL b.1 (aa d) ?_|refine CL b.1 (aa c) ?_)|refine CG (gP k.F.Q f a) ⟨⟨rfl,CY k.F.Q⟩,⟨rfl,rfl⟩,trivial⟩ ?_|refine CP rfl rfl (aa c) rfl (C1 rfl) rfl ?_|refine CP rfl rfl (aa d) rfl (C1 rfl) rfl ?_|refine Mk.mk 16 rfl rfl (by decide) (by decide) rfl ?_)
  refine CF rfl rfl ?_;exact wB
 rw[wO e];refine fM 30 [] [(2,8,[21,22,23,24,25,26,27,28])] [(0,0),(0,0)] Tryz.func489 rfl (λu q=>?_) (.inr trivial)
 repeat'(first|refine gA ?_|(conv=>whnf);refine CG (gP k.F.Q f a) ⟨⟨rfl,CY k.F.Q⟩,⟨rfl,rfl⟩,trivial⟩ ?_)
 refine CF rfl rfl ?_;exact wB
theorem Bm(k:af)(f:Int)(a:aH.sml k.F.Q)(b:0<=f/\f<k.F.W.S.length/\f<k.F.W.a5.length) :
  aW Tryz.prog 213 false [.ptr (af.enc .own k),.val none [I f]] [.ptr (af.enc .own (fU k f)),.val none [I f]] (.tup []) []:=by
 have c:=ao (xs:=k.F.W.S) (i:=f.toNat) ω;have d:=ao (xs:=k.F.W.a5) (i:=f.toNat) ω;by_cases e:(pagesOn k.F.Q f).length=0
 ·rw[uB e]
  refine fM 30 [] [(2,8,[21,22,23,24,25,26,27,28])] [(0,0),(0,0)] Tryz.func213 rfl (λu q=>?_) (.inr trivial)
  repeat'(first|refine gA ?_|(conv=>whnf);first|with_reducible (first|refine CL b.1 (aa d) ?_|refine CL b.1 (aa c) ?_)|refine CG (kM k.F.Q f a) ⟨⟨rfl,CY k.F.Q⟩,⟨rfl,rfl⟩,trivial⟩ ?_|refine CP rfl rfl (aa c) rfl (C1 rfl) rfl ?_|refine CP rfl rfl (aa d) rfl (C1 rfl) rfl ?_|refine Mk.mk 16 rfl rfl (by decide) (by decide) rfl ?_)
  refine CF rfl rfl ?_;exact wB
 rw[wO e];refine fM 30 [] [(2,8,[21,22,23,24,25,26,27,28])] [(0,0),(0,0)] Tryz.func213 rfl (λu q=>?_) (.inr trivial)
 repeat'(first|refine gA ?_|(conv=>whnf);refine CG (kM k.F.Q f a) ⟨⟨rfl,CY k.F.Q⟩,⟨rfl,rfl⟩,trivial⟩ ?_)
 refine CF rfl rfl ?_;exact wB
theorem LJ(k:af)(p:Int):af.enc .own (qg k p)=[.s .own (k.F.W.S.map (aD .own)),.s .own (k.F.W.a5.map (rB .own)),.s .own ((k.F.Q.J.map (bi.enc .own)).set p.toNat (bi.enc .own ⟨0,0⟩)),I k.Calls,.s .own (k.a0.map (rI .own))]:=by
 unfold qg;simp only[af.enc,X5]
theorem My{k:af}{p:Int}(h:a7 k=true):aH.sml (qg k p).F.Q:=by
 obtain⟨a,b,c⟩:=bv.1 (aB.1 h).2.2.1;exact⟨by simp only[qg,O1];omega,λ_ _=>trivial⟩
def gp(n:Nat):bc:=⟨List.replicate n (List.replicate 16 0),List.replicate n false⟩
def eS(n:Nat):aH:=⟨List.replicate n ⟨0,0⟩⟩
def bK(p f:Nat)(a:List Int):af:=⟨⟨gp f,eS p⟩,0,a⟩
def fN:aE:=⟨List.replicate 4 []⟩
def eD(n:Nat):aK:=⟨List.replicate n [],List.replicate n []⟩
def newHeap(p f t:Nat)(lim:Int)(a:List Int):ab:=⟨bK p f a,[⟨0,p⟩],[],[],[],List.replicate t fN,eD t,⟨16,[]⟩,0,0,lim,1,false,⟨⟨0,0,[]⟩,0,0⟩⟩
theorem cN{α:Type}[Inhabited α]{n j:Nat}{y:α}(a:j<n):nth (List.replicate n y) j=y:=bm (by rw[List.getElem?_replicate,C9 a])
theorem Mh(n:Nat)(f:Int):pagesOn (eS n) f=[]:=by
 unfold pagesOn jU;rw[List.map_eq_nil_iff,List.filter_eq_nil_iff];intro i b;have a:i<n:=by simpa[eS] using b
 unfold Lc;rw[show nth (eS n).J i = ⟨0,0⟩ from cN a];simp
theorem BH{p f:Nat}(c:1<=p/\p<=32)(d:1<=f/\f<=32):a7 (bK p f [])=true:=by
 rw[aB];refine⟨λj b=>by simp[bK]at b,aU.2 ⟨by simp[bK,gp];omega,by simp[bK,gp];omega,by simp[bK,gp],λj b=>?_⟩,bv.2 ⟨λj b=>?_,by simp[bK,eS];omega,by simp[bK,eS];omega⟩,λj b=>?_,by simp[bK],by simp[bK],by simp[bK]⟩
 ·have a:j<f:=by simpa[bK,gp] using b
  rw[show nth (bK p f []).F.W.S j=List.replicate 16 0 from cN a,show nth (bK p f []).F.W.a5 j=false from cN a]
  decide
 ·have a:j<p:=by simpa[bK,eS] using b
  rw[show nth (bK p f []).F.Q.J j = ⟨0,0⟩ from cN a];unfold ky;rw[C0];exact⟨by decide,by decide,λ_=>rfl,λh=>absurd rfl h⟩
 have a:j<f:=by simpa[bK,gp] using b
 rw[show nth (bK p f []).F.W.a5 j=false from cN a,show(bK p f []).F.Q=eS p from rfl,Mh]
 rfl
theorem GI(w:World)(q:Nat)(c:Array Obj):bV NO w (Sort.grow (w.drewN q) c):=by
 have a:∀b,b<w.heap.size->(Sort.grow (w.drewN q) c).heap[b]? = w.heap[b]?:=λb a=>Sort.heap_grow_old (w.drewN q) c a
 refine⟨rfl,rfl,rfl,by show w.heap.size<=(w.heap++c).size;simp,λb h _=>a b h,λb o h _=>?_,λb o h _=>?_⟩
 ·show World.cell? _ _=World.cell? w _
  unfold World.cell?;simp only[a b h]
 refine Prod.ext ?_ ?_
 ·show World.frozen? _ _=World.frozen? w _
  unfold World.frozen?;simp only[a b h]
 show mp _ b=mp w b;unfold mp;rw[a b h]
theorem KM(c:Nat)(W:World):Calls Tryz.prog 423 #[.slice none 0 c] W λe g=>∃B q h,e=.returned (.slice B 0 0)/\g=Sort.grow (W.drewN q) h:=by
 have q22:∀(w:World)(a:Option Addr)(n c b d:Nat),(binOp .eql 33 (.slice a n c) (.slice none b d)).run Tryz.prog w=.ok (.bool a.isNone) w:=λw a n c b d=>Lib.run_eql_slice_nil w _ _ a n c b d Tryz.underlying33
 go_enter Tryz.func423,Tryz.ntmps423
 go_wp2
 go_ret
 exact⟨none,0,#[],rfl,by simp[Sort.grow,World.drewN]⟩
theorem GV(a:Addr)(c:Nat)(W:World):Calls Tryz.prog 423 #[.slice (some a) 0 c] W λe g=>∃B q h,e=.returned (.slice B 0 0)/\g=Sort.grow (W.drewN q) h:=by
 have q22:∀(w:World)(a:Option Addr)(n c b d:Nat),(binOp .eql 33 (.slice a n c) (.slice none b d)).run Tryz.prog w=.ok (.bool a.isNone) w:=λw a n c b d=>Lib.run_eql_slice_nil w _ _ a n c b d Tryz.underlying33
 go_enter Tryz.func423,Tryz.ntmps423
 go_wp2
 go_ret
 exact⟨some ⟨W.heap.size,0,none⟩,0,#[.cells #[] 3],rfl,by rw[Sort.alloc_eq_grow];rfl⟩
theorem Hw(xs:List Int)(o:xs.length<=1048576):ar Tryz.prog 423 false [.val none (aD .X xs)] .one (aD .own xs):=by
 by_cases d:xs=[]
 ·subst d
  refine⟨⟨_,Tryz.func423,by kernel_rfl,by kernel_rfl⟩,λw S p t g=>?_⟩
  match p,g with
  | [v],⟨g,_⟩=>
   have c:=bW.rep1 (show bW w S NO none [C.s .X []] v from g);obtain⟨l,b,rfl⟩:=c.slice;have r:Calls Tryz.prog 423 #[.slice l 0 b] w λe n=>∃B q i,e=.returned (.slice B 0 0)/\n=Sort.grow (w.drewN q) i:=by
    cases l with
    | none=>exact KM b w
    | some a=>exact GV a b w
   refine r.mono λe n ⟨B,q,i,d,j⟩=>?_
   subst j;exact⟨.slice B 0 0,d,GI w q i,NO,NO,λ_ _ h=>h.elim,λ_ _ h=>h.elim,λ_ _ h=>h.elim,rfl,row1 (.nil _ .own B trivial)⟩
 have k:xs.map (rI .X)≠[]:=λe=>d (List.map_eq_nil_iff.1 e)
 refine fO 8 [] Tryz.func423 rfl ?_ (.inr (bH _))
 repeat'(first|refine gO ?_|(conv=>whnf);first|refine Nn.mk k ?_|refine CO (λ_=>rfl) (λ_=>rfl) o (by decide) ?_)
 rfl
theorem qt(p:bY)(a:bY.sml p):ar Tryz.prog 288 false [.val (some 3) (bY.enc .X p)] .agg (bY.enc .own p):=by
 have b:p.S.length<=1048576:=a;refine fO 8 [] Tryz.func288 rfl ?_ (.inr (bY.enc_fr _))
 repeat'(first|refine gO ?_|(conv=>whnf);refine C7 (Hw p.S b) ?_)
 rfl
theorem td(j:cg)(a:cg.sml j):ar Tryz.prog 200 false [.val (some 5) (cg.enc .X j)] .agg (cg.enc .own j):=by
 refine fO 8 [] Tryz.func200 rfl ?_ (.inr (cg.enc_fr _))
 repeat'(first|refine gO ?_|(conv=>whnf);refine C7 (qt j.V a) ?_)
 rfl
theorem iQ(c:aE)(d:aE.sml c):ar Tryz.prog 219 false [.val (some 1) (aE.enc .X c)] .agg (aE.enc .own c):=by
 have g:=d.1;refine fO 26 [(5,10,[13,14,15,16,17,18,19,20,21,22])] Tryz.func219 rfl ?_ (.inr (aE.enc_fr _))
 repeat'(first|refine gO ?_|fail)
 (conv=>whnf)
 refine CE (ι:=Nat) (λi=>[(1,.H .box (aE.enc .X c)),(2,.H .box [.z]),(3,.H .box [.s .own ((c.b.take i).map (aD .own))]),(4,.H .one [I ((i:Nat):Int)])]) (λi=>i<=c.b.length) (λi=>c.b.length - i) (0) ?_ (U0 _) λi h=>?_
 ·exact wB
 by_cases a:i<c.b.length
 ·have e:=ao a
  have b:(nth c.b i).length<=1048576:=d.2 _ (am a)
  repeat'(first|refine gD ?_|(conv=>whnf);first|with_reducible refine CC (aa e) ?_|refine CV (λ_=>rfl) (λ_=>rfl) b (by decide) ?_|refine Ap.sn (aO λ_=>rfl) rfl (by simp;omega) (by decide) (fK a) ?_)
  ((conv=>whnf);refine CD (i+1) ω ω ?_;(exact wB))
 repeat'(first|refine gD ?_|fail)
 obtain rfl:i=c.b.length:=ω
 rw[t5]
 rfl
theorem y9(c:aE)(d:aE.sml c):ar Tryz.prog 197 false [.val (some 1) (aE.enc .X c)] .agg (aE.enc .own c):=by
 have g:=d.1;refine fO 23 [(5,5,[14,15,16,17,18])] Tryz.func197 rfl ?_ (.inr (aE.enc_fr _))
 repeat'(first|refine gO ?_|fail)
 (conv=>whnf)
 refine CE (ι:=Nat) (λi=>[(2,.H .box [.z]),(3,.H .box [.s .own ((c.b.take i).map (aD .own))]),(8,.H .one (j8 .X c.b)),(9,.H .one [I (c.b.length)]),(10,.H .one [I ((i:Nat):Int)])]) (λi=>i<=c.b.length) (λi=>c.b.length - i) (0) ?_ (U0 _) λi h=>?_
 ·exact wB
 by_cases a:i<c.b.length
 ·have e:=ao a
  have b:(nth c.b i).length<=1048576:=d.2 _ (am a)
  repeat'(first|refine gD ?_|(conv=>whnf);first|with_reducible refine CC (aa e) ?_|refine C7 (jJ (nth c.b i) b) ?_|refine Ap.sn (aO λ_=>rfl) rfl (by simp;omega) (by decide) (fK a) ?_)
  ((conv=>whnf);refine CD (i+1) ω ω ?_;(exact wB))
 repeat'(first|refine gD ?_|fail)
 obtain rfl:i=c.b.length:=ω
 rw[t5]
 rfl
theorem fY(m:aK)(b:aK.sml m):ar Tryz.prog 220 false [.val (some 2) (aK.enc .X m)] .agg (aK.enc .own m):=by
 have h:=b.1.1;have g:=b.2.1;refine fO 46 [(5,10,[14,15,16,17,18,19,20,21,22,23]),(9,10,[33,34,35,36,37,38,39,40,41,42])] Tryz.func220 rfl ?_ (.inr (aK.enc_fr _))
 repeat'(first|refine gO ?_|fail)
 (conv=>whnf)
 refine CE (ι:=Nat) (λi=>[(1,.H .box (aK.enc .X m)),(2,.H .box [.z,.z]),(3,.H .box [.s .own ((m.U.take i).map (cK .own)),.z]),(4,.H .one [I ((i:Nat):Int)])]) (λi=>i<=m.U.length) (λi=>m.U.length - i) (0) ?_ (U0 _) λi j=>?_
 ·exact wB
 by_cases c:i<m.U.length
 ·have d:=ao c
  have a:(nth m.U i).length<=1048576:=(b.1.2 _ (am c)).1
  repeat'(first|refine gD ?_|(conv=>whnf);first|with_reducible refine CC (aa d) ?_|refine CV (λ_=>rfl) (λ_=>rfl) a (by decide) ?_|refine Ap.sn (aO λ_=>rfl) rfl (by simp;omega) (by decide) (fK c) ?_)
  ((conv=>whnf);refine CD (i+1) ω ω ?_;(exact wB))
 obtain rfl:i=m.U.length:=ω
 rw[t5]
 repeat'(first|refine gD ?_|fail)
 (conv=>whnf)
 refine CE (ι:=Nat) (λk=>[(1,.H .box (aK.enc .X m)),(2,.H .box [.z,.z]),(3,.H .box [.s .own (m.U.map (cK .own)),.s .own ((m.a1.take k).map (aD .own))]),(5,.H .one [I ((k:Nat):Int)])]) (λk=>k<=m.a1.length) (λk=>m.a1.length - k) (0) ?_ (U0 _) λk l=>?_
 ·exact wB
 by_cases e:k<m.a1.length
 ·have d:=ao e
  have a:(nth m.a1 k).length<=1048576:=b.2.2 _ (am e)
  repeat'(first|refine gD ?_|(conv=>whnf);first|with_reducible refine CC (aa d) ?_|refine CV (λ_=>rfl) (λ_=>rfl) a (by decide) ?_|refine Ap.sn (aO λ_=>rfl) rfl (by simp;omega) (by decide) (fK e) ?_)
  ((conv=>whnf);refine CD (k+1) ω ω ?_;(exact wB))
 repeat'(first|refine gD ?_|fail)
 obtain rfl:k=m.a1.length:=ω
 rw[t5]
 rfl
theorem yM(m:aK)(b:aK.sml m):ar Tryz.prog 198 false [.val (some 2) (aK.enc .X m)] .agg (aK.enc .own m):=by
 have h:=b.1.1;have g:=b.2.1;refine fO 41 [(5,6,[16,17,18,19,20,21]),(10,5,[32,33,34,35,36])] Tryz.func198 rfl ?_ (.inr (aK.enc_fr _))
 repeat'(first|refine gO ?_|fail)
 (conv=>whnf)
 refine CE (ι:=Nat) (λi=>[(1,.H .box (aK.enc .X m)),(2,.H .box [.z,.z]),(3,.H .box [.s .own ((m.U.take i).map (cK .own)),.z]),(10,.H .one (wQ .X m.U)),(11,.H .one [I (m.U.length)]),(12,.H .one [I ((i:Nat):Int)])]) (λi=>i<=m.U.length) (λi=>m.U.length - i) (0) ?_ (U0 _) λi j=>?_
 ·exact wB
 by_cases c:i<m.U.length
 ·have d:=ao c
  have a:(nth m.U i).length<=1048576:=(b.1.2 _ (am c)).1
  repeat'(first|refine gD ?_|(conv=>whnf);first|with_reducible refine CC (aa d) ?_|refine CV (λ_=>rfl) (λ_=>rfl) a (by decide) ?_|refine Ap.sn (aO λ_=>rfl) rfl (by simp;omega) (by decide) (fK c) ?_)
  ((conv=>whnf);refine CD (i+1) ω ω ?_;(exact wB))
 obtain rfl:i=m.U.length:=ω
 rw[t5]
 repeat'(first|refine gD ?_|fail)
 (conv=>whnf)
 refine CE (ι:=Nat) (λk=>[(2,.H .box [.z,.z]),(3,.H .box [.s .own (m.U.map (cK .own)),.s .own ((m.a1.take k).map (aD .own))]),(26,.H .one (j8 .X m.a1)),(27,.H .one [I (m.a1.length)]),(28,.H .one [I ((k:Nat):Int)])]) (λk=>k<=m.a1.length) (λk=>m.a1.length - k) (0) ?_ (U0 _) λk l=>?_
 ·exact wB
 by_cases e:k<m.a1.length
 ·have d:=ao e
  have a:(nth m.a1 k).length<=1048576:=b.2.2 _ (am e)
  repeat'(first|refine gD ?_|(conv=>whnf);first|with_reducible refine CC (aa d) ?_|refine C7 (jJ (nth m.a1 k) a) ?_|refine Ap.sn (aO λ_=>rfl) rfl (by simp;omega) (by decide) (fK e) ?_)
  ((conv=>whnf);refine CD (k+1) ω ω ?_;(exact wB))
 repeat'(first|refine gD ?_|fail)
 obtain rfl:k=m.a1.length:=ω
 rw[t5]
 rfl
theorem rL(q:bL)(b:bL.sml q):ar Tryz.prog 221 false [.val (some 2) (bL.enc .X q)] .agg (bL.enc .own q):=by
 have a:q.a6.length<=1048576:=b.1;refine fO 10 [(1,6,[3,4,5,6,7,8])] Tryz.func221 rfl ?_ (.inr (bL.enc_fr _))
 repeat'(first|refine gO ?_|(conv=>whnf);refine CV (λ_=>rfl) (λ_=>rfl) a (by decide) ?_)
 rfl
theorem zo(q:bL)(b:bL.sml q):ar Tryz.prog 199 false [.val (some 2) (bL.enc .X q)] .agg (bL.enc .own q):=by
 have a:q.a6.length<=1048576:=b.1;refine fO 10 [(1,6,[3,4,5,6,7,8])] Tryz.func199 rfl ?_ (.inr (bL.enc_fr _))
 repeat'(first|refine gO ?_|(conv=>whnf);refine CV (λ_=>rfl) (λ_=>rfl) a (by decide) ?_)
 rfl
theorem sO(j:cg)(a:cg.sml j):ar Tryz.prog 222 false [.val (some 5) (cg.enc .X j)] .agg (cg.enc .own j):=by
 have b:j.V.S.length<=1048576:=a;refine fO 11 [] Tryz.func222 rfl ?_ (.inr (cg.enc_fr _))
 repeat'(first|refine gO ?_|(conv=>whnf);refine CO (λ_=>rfl) (λ_=>rfl) b (by decide) ?_)
 rfl
theorem vF(xs:List aA)(a:iC xs):ar Tryz.prog 196 false [.val none (bM .X xs)] .one (bM .own xs):=by
 have b:=a.1;refine fO 6 [] Tryz.func196 rfl ?_ (.inr (lW _))
 repeat'(first|refine gO ?_|(conv=>whnf);refine CO (λ_=>rfl) (λ_=>rfl) b (by decide) ?_)
 rfl
def Rv(h:ab)(a:C):List C:=[.s .own (h.G.F.W.S.map (aD .own)),.s .own (h.G.F.W.a5.map (rB .own)),.s .own (h.G.F.Q.J.map (bi.enc .own)),I h.G.Calls,.s .own (h.G.a0.map (rI .own)),.s .own (h.u.map (aA.enc .own)),.s .own (h.K.map (ax.enc .own)),.s .own (h.M.map (a8.enc .own)),.s .own (h.O.map (bu.enc .own)),a,.s .X (h.y.U.map (cK .X)),.s .X (h.y.a1.map (aD .X)),I h.a9.c1,.s .X (h.a9.a6.map (aQ.enc .X)),I h.c0,I h.b3,I h.c3,I h.a,B h.o,I h.Y.V.a2,I h.Y.V.w,.s .X (h.Y.V.S.map (rI .X)),I h.Y.b0,I h.Y.a]
def Qq:List C:=[.z,.z,.z,I 0,.z,.z,.z,.z,.z,.z,.z,.z,I 0,.z,I 0,I 0,I 0,I 0,B false,I 0,I 0,.z,I 0,I 0]
theorem sG(h:ab)(c:ab.sml h):ar Tryz.prog 69 false [.val (some 24) (ab.enc .X h)] .agg (ab.enc .own h):=by
 obtain⟨d,e,g,j,k,b,l,n,o⟩:=c;have p:=e.1;have q:=g.1;have r:=j.1;have t:=k.1;have w:=b.1;refine fO 61 [] Tryz.func69 rfl ?_ (.inr (ab.enc_fr _))
 repeat'(first|(conv=>whnf);first|refine C7 (BX h.G d) ?_|refine CO (λ_=>rfl) (λ_=>rfl) p (by decide) ?_|refine CO (λ_=>rfl) (λ_=>rfl) q (by decide) ?_|refine CO (λ_=>rfl) (λ_=>rfl) r (by decide) ?_|refine CO (λ_=>rfl) (λ_=>rfl) t (by decide) ?_)
 (conv=>whnf)
 refine CE (ι:=Nat) (λi=>[(1,.H .box (Rv h (.s .X (h.T.map (aE.enc .X))))),(2,.H .box Qq),(3,.H .one ([.s .own ((h.T.take i).map (aE.enc .own))])),(4,.H .one [I ((i:Nat):Int)])]) (λi=>i<=h.T.length) (λi=>h.T.length - i) (0) ?_ (U0 _) λi y=>?_
 ·exact wB
 by_cases a:i<h.T.length
 ·have u:=ao a
  repeat'(first|refine gD ?_|(conv=>whnf);first|with_reducible refine CC (aa u) ?_|refine C7 (iQ (nth h.T i) (b.2 _ (am a))) ?_|refine Ap.sn (aO λ_=>rfl) rfl (by simp;omega) (by decide) (fK a) ?_)
  ((conv=>whnf);refine CD (i+1) ω ω ?_;(exact wB))
 obtain rfl:i=h.T.length:=ω
 rw[t5]
 repeat'(first|refine gD ?_|(conv=>whnf);first|refine C7 (fY h.y l) ?_|refine C7 (rL h.a9 n) ?_|refine C7 (sO h.Y o) ?_)
 rfl
theorem qm(h:ab)(c:ab.sml h):ar Tryz.prog 59 false [.val (some 24) (ab.enc .X h)] .agg (ab.enc .own h):=by
 obtain⟨d,e,g,j,k,b,l,n,o⟩:=c;have p:=g.1;have q:=j.1;have r:=k.1;have u:=b.1;refine fO 59 [(11,5,[38,39,40,41,42])] Tryz.func59 rfl ?_ (.inr (ab.enc_fr _))
 repeat'(first|refine gO ?_|(conv=>whnf);first|refine C7 (iw h.G d) ?_|refine C7 (vF h.u e) ?_|refine CO (λ_=>rfl) (λ_=>rfl) p (by decide) ?_|refine CO (λ_=>rfl) (λ_=>rfl) q (by decide) ?_|refine CO (λ_=>rfl) (λ_=>rfl) r (by decide) ?_)
 (conv=>whnf)
 refine CE (ι:=Nat) (λi=>[(1,.H .box (ab.enc .X h)),(2,.H .box Qq),(3,.H .box (Rv h (.s .own ((h.T.take i).map (aE.enc .own))))),(32,.H .one (oF .X h.T)),(33,.H .one [I (h.T.length)]),(34,.H .one [I ((i:Nat):Int)])]) (λi=>i<=h.T.length) (λi=>h.T.length - i) (0) ?_ (U0 _) λi w=>?_
 ·exact wB
 by_cases a:i<h.T.length
 ·have t:=ao a
  repeat'(first|refine gD ?_|(conv=>whnf);first|with_reducible refine CC (aa t) ?_|refine C7 (y9 (nth h.T i) (b.2 _ (am a))) ?_|refine Ap.sn (aO λ_=>rfl) rfl (by simp;omega) (by decide) (fK a) ?_)
  ((conv=>whnf);refine CD (i+1) ω ω ?_;(exact wB))
 obtain rfl:i=h.T.length:=ω
 rw[t5]
 repeat'(first|refine gD ?_|(conv=>whnf);first|refine C7 (yM h.y l) ?_|refine C7 (zo h.a9 n) ?_|refine C7 (td h.Y o) ?_)
 rfl
theorem Ap.sm{rows b:List (List C)}{r:List C}{sz by_:Nat}{K:List (List C)->Prop}(h1:∀r∈rows,r.length=sz)(c:r.length=sz)(d:rows.length+1<=1073741824)(e:by_<=1000)(a:b=rows++[r])(f:K b):Ap false rows [r] sz by_ K:=
 CT h1 (λg a=>by rw[I1.1 a];exact c) (λh=>by cases h) (by simp;omega) (W4 (Nat.mul_le_mul (show rows.length+[r].length<=1073741824 by simpa using d) e) (by decide)) a f
theorem JA(y:aA)(a:List aA)(r:aA)(out:List aA)(done:Bool):kj (y::a) r out done=if ovl y r then none
  else if y.At+y.b1=r.At then kj a ⟨y.At,y.b1+r.b1⟩ out done
  else if r.At+r.b1=y.At then kj a ⟨r.At,r.b1+y.b1⟩ out done
  else if y.At > r.At/\done=false then kj a r (out++[r,y]) true
  else kj a r (out++[y]) done:=by rw[kj]
theorem BM{pages:Int}{xs:List aA}(h:bC pages xs=true):oH xs/\∀y∈xs,0<=y.At/\1<=y.b1/\y.At+y.b1<=pages:=by
 unfold bC at h;simp only[I0,C0]at h;have b:∀i,i<xs.length->1<=(nth xs i).b1/\0<=(nth xs i).At/\(nth xs i).At<=pages - (nth xs i).b1:=λi a=>by
  have:=dS h.1 a;unfold gx rangeIn at this;simp only[I0,C0]at this;omega
 have d:∀i,i+1<xs.length->(nth xs i).At+(nth xs i).b1<(nth xs (i+1)).At:=λi a=>by
  have:=dS h.1 a;unfold gx at this;simp only[I0,C0]at this;have:=this.2.resolve_left ω;simpa using this
 have k:∀j i,i<j->j<xs.length->(nth xs i).At+(nth xs i).b1<(nth xs j).At:=λj=>by
  induction j with
  | zero=>intro i a;omega
  | succ j l=>
   intro i a c;have n:=d j c;by_cases e:i=j
   ·subst e;exact n
   have o:=l i ω ω;have p:=b j ω;omega
 refine⟨⟨?_,λy f=>?_⟩,λy f=>?_⟩
 ·rw[List.pairwise_iff_getElem]
  intro i j a c g;have:=k j i g c
  rwa [bm (C2 a),bm (C2 c)]at this
 ·obtain⟨i,a,rfl⟩:=aL f
  exact(b i a).1
 obtain⟨i,a,rfl⟩:=aL f;have:=b i a;omega
theorem iP{α:Type}[Inhabited α]{xs:List α}{i:Nat}(a:i<xs.length):xs.drop i=nth xs i::xs.drop (i+1):=by
 rw[List.drop_eq_getElem_cons a,bm (C2 a)]
def dL(pages:Int)(xs:List aA)(r:aA):Option (List aA):=if bC pages xs=true/\rangeIn pages r=true then kj xs r [] false else none
def G6(xs:List aA)(o:Option (List aA)):List C:=bM .own (o.getD xs)++[B o.isSome]
theorem tF(xs:List aA)(o:Option (List aA)):hC (G6 xs o):=aI (lW _) ⟨trivial,trivial⟩
end Go.Proofs.YtecefhjnejfheaaGreat.Ab
