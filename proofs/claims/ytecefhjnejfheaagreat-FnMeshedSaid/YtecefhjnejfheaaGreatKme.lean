/- Classes of sizes, the quarantine, used frames, pages of a frame, spans on a page: contracts, the reference's and the program's. No condition. -/
import Derived.Test.YtecefhjnejfheaaGreatKmd
import Derived.Test.YtecefhjnejfheaaGreatKmShelf
import Derived.WalkKit
import Derived.Lib.SliceRun
set_option linter.unusedVariables false
set_option linter.defProp false
set_option linter.unusedSimpArgs false
set_option linter.constructorNameAsVariable false
namespace Go.Proofs.YtecefhjnejfheaaGreat.Ab
open Go.RowKit
set_option maxRecDepth 20000
set_option maxHeartbeats 4000000
def wq(xs:List aQ)(pr:aQ->Bool)(g:xs.length<=9223372036854775807):ar Tryz.prog 541 false [.val none (cY .X xs),.fn (oH Tryz.prog (Al (some 3) (aQ.enc .X) pr xs))] .one [I (dH pr xs)]:=by
 refine fO 19 [] Tryz.func541 rfl ?_
 repeat'(first|refine gP ?_|fail)
 (conv=>whnf)
 refine CF (ι:=Nat) (λi=>[(0,.H .one (cY .X xs)),(1,.fv (oH Tryz.prog (Al (some 3) (aQ.enc .X) pr xs))),(7,.H .one [I xs.length]),(8,.H .one [I (i:Nat)])]) (λi=>i<=xs.length/\∀(j:Nat)(z:aQ),j<i->xs[j]? = some z->pr z=false) (λi=>xs.length - i) 0 ?_ ⟨W0 _,λj z h=>ω⟩ λi d=>?_
 ·exact wB
 obtain⟨d,b⟩:=d;by_cases c:i<xs.length
 ·obtain⟨y,a⟩ : ∃y,xs[i]? = some y:=⟨_,I2 c⟩
  repeat'(first|refine gE ?_|(conv=>whnf);first|refine Fv.mk (k:=.one) (rcs:=[B (pr y)]) ⟨y,Z1 a,rfl,rfl,rfl⟩ ?_|refine Bf.P (λe=>?_) (λe=>?_))
  ·exact X0 (λz=>[I z]) (dI a ‹_› b).symm
  (conv=>whnf)
  refine CE (i+1) ⟨ω,dz a (by assumption) b⟩ ω ?_;exact wB
 repeat'(first|refine gE ?_|fail)
 exact X0 (λz=>[I z]) (gv ω b).symm
def ry(xs:List aQ)(pr:aQ->Bool)(a:xs.length<=9223372036854775807):ar Tryz.prog 491 false [.val none (cY .X xs),.fn (oH Tryz.prog (Al (some 3) (aQ.enc .X) pr xs))] .one [B (xs.any pr)]:=by
 refine fO 9 [] Tryz.func491 rfl ?_
 repeat'(first|refine gP ?_|(conv=>whnf);refine C8 (wq xs pr a) ?_)
 exact X0 (λz=>[B z]) (jC pr xs)
def yA(xs:List ax)(pr:ax->Bool)(g:xs.length<=9223372036854775807):ar Tryz.prog 252 false [.val none (bX .X xs),.fn (oH Tryz.prog (Al (some 3) (ax.enc .X) pr xs))] .one [I (dH pr xs)]:=by
 refine fO 19 [] Tryz.func252 rfl ?_
 repeat'(first|refine gP ?_|fail)
 (conv=>whnf)
 refine CF (ι:=Nat) (λi=>[(0,.H .one (bX .X xs)),(1,.fv (oH Tryz.prog (Al (some 3) (ax.enc .X) pr xs))),(7,.H .one [I xs.length]),(8,.H .one [I (i:Nat)])]) (λi=>i<=xs.length/\∀(j:Nat)(z:ax),j<i->xs[j]? = some z->pr z=false) (λi=>xs.length - i) 0 ?_ ⟨W0 _,λj z h=>ω⟩ λi d=>?_
 ·exact wB
 obtain⟨d,b⟩:=d;by_cases c:i<xs.length
 ·obtain⟨y,a⟩ : ∃y,xs[i]? = some y:=⟨_,I2 c⟩
  repeat'(first|refine gE ?_|(conv=>whnf);first|refine Fv.mk (k:=.one) (rcs:=[B (pr y)]) ⟨y,Z1 a,rfl,rfl,rfl⟩ ?_|refine Bf.P (λe=>?_) (λe=>?_))
  ·exact X0 (λz=>[I z]) (dI a ‹_› b).symm
  (conv=>whnf)
  refine CE (i+1) ⟨ω,dz a (by assumption) b⟩ ω ?_;exact wB
 repeat'(first|refine gE ?_|fail)
 exact X0 (λz=>[I z]) (gv ω b).symm
def qF(xs:List bt)(pr:bt->Bool)(g:xs.length<=9223372036854775807):ar Tryz.prog 85 false [.val none (pQ .X xs),.fn (oH Tryz.prog (Al (some 4) (bt.enc .X) pr xs))] .one [I (dH pr xs)]:=by
 refine fO 19 [] Tryz.func85 rfl ?_
 repeat'(first|refine gP ?_|fail)
 (conv=>whnf)
 refine CF (ι:=Nat) (λi=>[(0,.H .one (pQ .X xs)),(1,.fv (oH Tryz.prog (Al (some 4) (bt.enc .X) pr xs))),(7,.H .one [I xs.length]),(8,.H .one [I (i:Nat)])]) (λi=>i<=xs.length/\∀(j:Nat)(z:bt),j<i->xs[j]? = some z->pr z=false) (λi=>xs.length - i) 0 ?_ ⟨W0 _,λj z h=>ω⟩ λi d=>?_
 ·exact wB
 obtain⟨d,b⟩:=d;by_cases c:i<xs.length
 ·obtain⟨y,a⟩ : ∃y,xs[i]? = some y:=⟨_,I2 c⟩
  repeat'(first|refine gE ?_|(conv=>whnf);first|refine Fv.mk (k:=.one) (rcs:=[B (pr y)]) ⟨y,Z1 a,rfl,rfl,rfl⟩ ?_|refine Bf.P (λe=>?_) (λe=>?_))
  ·exact X0 (λz=>[I z]) (dI a ‹_› b).symm
  (conv=>whnf)
  refine CE (i+1) ⟨ω,dz a (by assumption) b⟩ ω ?_;exact wB
 repeat'(first|refine gE ?_|fail)
 exact X0 (λz=>[I z]) (gv ω b).symm
def up(xs:List bt)(pr:bt->Bool)(a:xs.length<=9223372036854775807):ar Tryz.prog 247 false [.val none (pQ .X xs),.fn (oH Tryz.prog (Al (some 4) (bt.enc .X) pr xs))] .one [B (xs.any pr)]:=by
 refine fO 9 [] Tryz.func247 rfl ?_
 repeat'(first|refine gP ?_|(conv=>whnf);refine C8 (qF xs pr a) ?_)
 exact X0 (λz=>[B z]) (jC pr xs)
def PO{k:Nat}(a:k<=3):IntKind.i64.wrap (1*2 ^ min ((k:Nat):Int).toNat IntKind.i64.bits)=csz (k:Nat):=by
 obtain rfl|rfl|rfl|rfl:k=0\/k=1\/k=2\/k=3:=ω
 all_goals decide
def QM{k:Nat}(a:k<=100):IntKind.u64.wrap (k:Nat)=(k:Nat):=by
 unfold IntKind.wrap;simp[IntKind.signed,IntKind.bits];omega
def DL{k:Nat}{z:Int}(a:k<=3)(h:csz (k:Nat)<z)(b:z<=8):k<=2:=by
 have c:csz ((3:Nat):Int)=8:=by decide
 obtain rfl|rfl|rfl|rfl:k=0\/k=1\/k=2\/k=3:=ω
 all_goals omega
def xd{k:Nat}{z:Int}(g:k<=3)(h1:1<=z)(a:k=0\/csz ((k - 1:Nat):Int)<z)(b:¬csz (k:Nat)<z):aJ z=(k:Nat):=by
 have c:csz ((0:Nat):Int)=1:=by decide
 have d:csz ((1:Nat):Int)=2:=by decide
 have e:csz ((2:Nat):Int)=4:=by decide
 have f:csz ((3:Nat):Int)=8:=by decide
 unfold aJ;obtain rfl|rfl|rfl|rfl:k=0\/k=1\/k=2\/k=3:=ω
 all_goals simp only[Nat.reduceSub,c,d,e,f]at a b
 all_goals(repeat' split)<;>omega
def kK(z:Int):ar Tryz.prog 235 false [.val none [I z]] .one [I (aJ z)]:=by
 refine fO 15 [] Tryz.func235 rfl ?_;by_cases c:1<=z/\z<=8
 ·repeat'(first|refine gE ?_|(conv=>whnf);refine C8 (aH z 1 8) ?_)
  (conv=>whnf)
  refine CF (ι:=Nat) (λk=>[(0,.H .one [I (z)]),(3,.H .one [I ((k:Nat):Int)])]) (λk=>k<=3/\(k=0\/csz ((k - 1:Nat):Int)<z)) (λk=>4 - k) (0) ?_ (⟨ω,.inl rfl⟩) λk a=>?_
  ·exact wB
  obtain⟨a,d⟩:=a
  repeat'(first|refine gP ?_|(conv=>whnf);first|with_reducible refine Bf.D (λb=>?_) (λb=>?_)|refine CN (QM ω) ?_|refine CN (PO a) ?_|refine CO ω ?_)
  all_goals first
   | exact X0 (λz=>[I z]) (xd a c.1 d (by assumption)).symm
   | ((conv=>whnf);refine CE (k+1) ⟨by have:=DL a (by assumption) c.2;omega,.inr (by simpa using (by assumption:csz (k:Nat)<z))⟩ (by have:=DL a (by assumption) c.2;omega) ?_;(exact wB))
 repeat'(first|refine gE ?_|(conv=>whnf);refine C8 (aH z 1 8) ?_)
 all_goals exact X0 (λz=>[I z]) (by unfold aJ;(repeat' split)<;>omega)
def Eb(z:Int):ar Tryz.prog 61 false [.val none [I z]] .one [I (aJ z)]:=by
 refine fO 14 [] Tryz.func61 rfl ?_;by_cases c:1<=z/\z<=8
 ·repeat'(first|refine gE ?_|(conv=>whnf);refine C8 (aM z 1 8) ?_)
  (conv=>whnf)
  refine CF (ι:=Nat) (λk=>[(0,.H .one [I (z)]),(3,.H .one [I ((k:Nat):Int)])]) (λk=>k<=3/\(k=0\/csz ((k - 1:Nat):Int)<z)) (λk=>4 - k) (0) ?_ (⟨ω,.inl rfl⟩) λk b=>?_
  ·exact wB
  obtain⟨b,d⟩:=b
  repeat'(first|refine gP ?_|(conv=>whnf);first|with_reducible refine Bf.D (λa=>?_) (λa=>?_)|refine C8 (ee _) ?_)
  all_goals first
   | exact X0 (λz=>[I z]) (xd b c.1 d (by assumption)).symm
   | ((conv=>whnf);refine CE (k+1) ⟨by have:=DL b (by assumption) c.2;omega,.inr (by simpa using (by assumption:csz (k:Nat)<z))⟩ (by have:=DL b (by assumption) c.2;omega) ?_;(exact wB))
 repeat'(first|refine gE ?_|(conv=>whnf);refine C8 (aM z 1 8) ?_)
 all_goals exact X0 (λz=>[I z]) (by unfold aJ;(repeat' split)<;>omega)
def sv(q:bL)(a:Int)(e:bL.sml q):ar Tryz.prog 373 false [.val (some 2) (bL.enc .X q),.val none [I a]] .one [B (q.a6.any (eU a))]:=by
 have j:q.a6.length<=1048576:=e.1;refine fO 21 [] Tryz.func373 rfl ?_
 repeat'(first|refine gP ?_|fail)
 (conv=>whnf)
 refine CF (ι:=Nat) (λi=>[(1,.H .one [I (a)]),(2,.H .box (bL.enc .X q)),(5,.H .one [I ((i:Nat):Int)])]) (λi=>i<=q.a6.length/\(q.a6.take i).any (eU a)=false) (λi=>q.a6.length - i) (0) ?_ (⟨W0 _,rfl⟩) λi c=>?_
 ·exact wB
 obtain⟨c,d⟩:=c;by_cases g:i<q.a6.length
 ·have b:=ao g
  repeat'(first|refine gE ?_|(conv=>whnf);with_reducible refine Bf.E (λh=>?_) (λh=>?_))
  all_goals first
   | exact X0 (λz=>[B z]) ((D3 b (O0 (by assumption))).symm)
   | ((conv=>whnf);refine CE (i+1) ⟨ω,yK b d (U0 (by assumption))⟩ ω ?_;(exact wB))
 repeat'(first|refine gE ?_|fail)
 exact X0 (λz=>[B z]) ((Jh ω d).symm)
def jt(xs:List aQ)(i:Nat):quarCells xs (i+1)=quarCells xs i+csz (nth xs i).d:=rfl
def Pd(k:Int):0<=csz k/\csz k<=8:=by
 by_cases h:0<=k/\k<=3
 ·rcases bP h with e|e|e|e<;>rw[e]<;>decide
 unfold csz;rw[C9 h];decide
def vA(xs:List aQ)(c:lN xs):ar Tryz.prog 374 false [.val none (cY .X xs)] .one [I (quarCells xs xs.length)]:=by
 have g:=c.1;refine fO 20 [] Tryz.func374 rfl ?_
 repeat'(first|refine gP ?_|fail)
 (conv=>whnf)
 refine CF (ι:=Nat) (λi=>[(0,.H .one (cY .X xs)),(3,.H .one [I (quarCells xs i)]),(4,.H .one [I ((i:Nat):Int)])]) (λi=>i<=xs.length/\0<=quarCells xs i/\quarCells xs i<=8*i) (λi=>xs.length - i) (0) ?_ (⟨W0 _,by simp[quarCells],by simp[quarCells]⟩) λi b=>?_
 ·exact wB
 obtain⟨b,h,j⟩:=b;by_cases d:i<xs.length
 ·have e:=ao d
  have k:=Pd (nth xs i).d;have a:=jt xs i
  repeat'(first|refine gE ?_|(conv=>whnf);refine C8 (ef _) ?_)
  ((conv=>whnf);refine CE (i+1) ⟨ω,ω,ω⟩ ω ?_)
  rw[a];exact wB
 repeat'(first|refine gE ?_|fail)
 obtain rfl:i=xs.length:=ω
 rfl
def xF(xs:List aQ)(c:lN xs):ar Tryz.prog 93 false [.val none (cY .X xs)] .one [I (quarCells xs xs.length)]:=by
 have g:=c.1;refine fO 19 [] Tryz.func93 rfl ?_
 repeat'(first|refine gP ?_|fail)
 (conv=>whnf)
 refine CF (ι:=Nat) (λi=>[(3,.H .one [I (quarCells xs i)]),(6,.H .one (cY .X xs)),(7,.H .one [I (xs.length)]),(8,.H .one [I ((i:Nat):Int)])]) (λi=>i<=xs.length/\0<=quarCells xs i/\quarCells xs i<=8*i) (λi=>xs.length - i) (0) ?_ (⟨W0 _,by simp[quarCells],by simp[quarCells]⟩) λi b=>?_
 ·exact wB
 obtain⟨b,h,j⟩:=b;by_cases d:i<xs.length
 ·have e:=ao d
  have k:=Pd (nth xs i).d;have a:=jt xs i
  repeat'(first|refine gE ?_|(conv=>whnf);refine C8 (ee _) ?_)
  ((conv=>whnf);refine CE (i+1) ⟨ω,ω,ω⟩ ω ?_)
  rw[a];exact wB
 repeat'(first|refine gE ?_|fail)
 obtain rfl:i=xs.length:=ω
 rfl
def Bw(a:aQ):ar Tryz.prog 372 false [.val (some 3) (aQ.enc .X a)] .one [B (decide (0<=a.d/\a.d<=3/\0<=a.Addr/\0<=a.b7))]:=by
 refine fO 16 [] Tryz.func372 rfl ?_
 repeat'(first|refine gP ?_|(conv=>whnf);first|with_reducible refine Bf.D (λb=>?_) (λb=>?_)|refine C8 (aH _ 0 3) ?_)
 all_goals exact X0 (λz=>[B z]) ((by first|(symm;exact U0 ω)|exact decide_eq_decide.2 ω))
def MO{xs:List aQ}(a:lN xs)(i:Nat):lN (xs.take i):=⟨by have:=a.1;rw[V1];omega,λ_ _=>trivial⟩
def pF(q:bL)(a:bL.sml q):ar Tryz.prog 228 false [.val (some 2) (bL.enc .X q)] .one [B (gC q)]:=by
 have l:q.a6.length<=1048576:=a.1;refine fO 57 [(5,29,[17,18,19,20,21,22,23,24,25,26,27,28,29,30,31,32,33,34,35,36,37,38,39,40,41,42,43,44,45]),(7,11,[46,47,48,49,50,51,52,53,54,55,56])] Tryz.func228 rfl ?_
 repeat'(first|refine gP ?_|fail)
 (conv=>whnf)
 refine CF (ι:=Nat) (λi=>[(1,.H .box (bL.enc .X q)),(3,.H .one [I ((i:Nat):Int)])]) (λi=>i<=q.a6.length/\df i (kL q.a6)=true) (λi=>q.a6.length - i) 0 ?_ ⟨W0 _,rfl⟩ λi e=>?_
 ·exact wB
 obtain⟨e,g⟩:=e;by_cases b:i<q.a6.length
 ·have j:=ao b
  have h:=sv ⟨0,q.a6.take i⟩ (nth q.a6 i).Addr (MO a i);cases c:(q.a6.take i).any (eU (nth q.a6 i).Addr)<;>rw[show(bL.mk 0 (q.a6.take i)).a6.any (eU (nth q.a6 i).Addr)=_ from c]at h
  all_goals
   repeat'(first|refine gE ?_|(conv=>whnf);first|with_reducible refine Bf.D (λd=>?_) (λd=>?_)|refine C8 (Bw _) ?_|refine CM ω (aa (gF ω b)) ?_|refine CV i rfl (by simp;omega) (λr k=>by obtain⟨z,-,rfl⟩:=O4.1 k;rfl) (C4 ..) ?_)
   all_goals first
    | exact X0 (λz=>[B z]) ((by symm;unfold gC;rw[cB b (by unfold kL;first|(rw[c];simp;done)|(rw[U0 ω];rfl))];rfl))
    | ((conv=>whnf);refine CE (i+1) ⟨ω,bU g (by unfold kL;rw[c,O0 ω];rfl)⟩ ω ?_;(exact wB))
 obtain rfl:i=q.a6.length:=ω
 repeat'(first|refine gE ?_|(conv=>whnf);first|with_reducible refine Bf.D (λd=>?_) (λd=>?_)|refine C8 (aH _ 0 500) ?_|refine C8 (vA q.a6 a) ?_)
 all_goals exact X0 (λz=>[B z]) ((by unfold gC;rw[g];simp only[Bool.true_and];first|(symm;exact U0 ω)|exact decide_eq_decide.2 ω))
def vz(b:aQ)(a:Int):ar Tryz.prog 492 false [.val (some 3) (aQ.enc .X b),.ptr [I a]] .one [B (eU a b)]:=by
 refine fO 8 [] Tryz.func492 rfl ?_
 repeat'(first|refine gP ?_|fail)
 exact X0 (λz=>[B z]) ((by unfold eU;rw[Y4];simp))
def zE(xs:List aQ)(a:Int)(b:xs.length<=9223372036854775807):ar Tryz.prog 392 false [.val none (cY .X xs),.val none [I a]] .one [B (xs.any (eU a))]:=by
 refine fO 8 [] Tryz.func392 rfl ?_
 repeat'(first|refine gP ?_|(conv=>whnf);first|refine Cq.mk (Al (some 3) (aQ.enc .X) (eU a) xs) (vz default a).has (λL k rcs c=>?_) ?_|refine C8 (ry xs (eU a) b) ?_)
 ·obtain⟨y,-,rfl,rfl,rfl⟩:=c
  exact vz y a
 rfl
def qa(xs:List aQ)(a:aQ):Bool:=decide (0<=a.d/\a.d<=3/\0<=a.Addr/\0<=a.b7/\(xs.length=0\/(nth xs (xs.length - 1)).b7<=a.b7))&&!xs.any (eU a.Addr)
def DU(xs:List aQ)(b:aQ)(g:xs.length<=1048576):ar Tryz.prog 245 false [.val none (cY .X xs),.val (some 3) (aQ.enc .X b)] .one [B (qa xs b)]:=by
 have c:=zE xs b.Addr ω;cases d:xs.any (eU b.Addr)<;>rw[d]at c
 ·by_cases h:xs.length=0
  ·refine fO 40 [(3,15,[25,26,27,28,29,30,31,32,33,34,35,36,37,38,39])] Tryz.func245 rfl ?_
   repeat'(first|refine gP ?_|(conv=>whnf);first|with_reducible (first|refine Bf.D (λa=>?_) (λa=>?_)|refine Bf.E (λa=>?_) (λa=>?_))|refine C8 (gi _) ?_)
   all_goals first
    | exact X0 (λz=>[B z]) ((by unfold qa;rw[d,Bool.not_false,Bool.and_true];first|(symm;exact U0 ω)|(symm;exact O0 ω)))
    |(exfalso;omega)
    
  have e:xs[((xs.length:Int) - 1).toNat]? = some (nth xs (xs.length - 1)):=by rw[show((xs.length:Int) - 1).toNat=xs.length - 1 by omega];exact ao ω
  refine fO 40 [(3,15,[25,26,27,28,29,30,31,32,33,34,35,36,37,38,39])] Tryz.func245 rfl ?_
  repeat'(first|refine gP ?_|(conv=>whnf);first|with_reducible (first|refine Bf.D (λa=>?_) (λa=>?_)|refine Bf.E (λa=>?_) (λa=>?_))|refine C8 (gi _) ?_|refine CM ω (aa e) ?_)
  all_goals first
   | exact X0 (λz=>[B z]) ((by unfold qa;rw[d,Bool.not_false,Bool.and_true];first|(symm;exact U0 ω)|(symm;exact O0 ω)|exact decide_eq_decide.2 ω))
   
   
 refine fO 40 [(3,15,[25,26,27,28,29,30,31,32,33,34,35,36,37,38,39])] Tryz.func245 rfl ?_
 repeat'(first|refine gP ?_|(conv=>whnf);first|with_reducible refine Bf.D (λa=>?_) (λa=>?_)|refine C8 (gi _) ?_)
 all_goals exact X0 (λz=>[B z]) ((by unfold qa;rw[d];simp))
def GI{xs:List aQ}{i:Nat}(d:i<xs.length):qa (xs.take i) (nth xs i)=kL xs i:=by
 unfold qa kL;have a:(xs.take i).length=i:=by rw[V1];omega
 rw[a]
 congr 1
 refine decide_eq_decide.2 ?_;by_cases b:i=0
 ·subst b;simp
 have c:nth (xs.take i) (i - 1)=nth xs (i - 1):=by
  have:=ao (xs:=xs) (i:=i - 1) ω;exact bm (by rw[List.getElem?_take_of_lt ω];exact this)
 rw[c]
def F6(q:bL)(d:bL.sml q):ar Tryz.prog 76 false [.val (some 2) (bL.enc .X q)] .one [B (gC q)]:=by
 have l:q.a6.length<=1048576:=d.1;refine fO 32 [(4,7,[13,14,15,16,17,18,19]),(7,11,[21,22,23,24,25,26,27,28,29,30,31])] Tryz.func76 rfl ?_
 repeat'(first|refine gP ?_|fail)
 (conv=>whnf)
 refine CF (ι:=Nat) (λi=>[(1,.H .box (bL.enc .X q)),(6,.H .one (cY .X q.a6)),(7,.H .one [I (q.a6.length)]),(8,.H .one [I ((i:Nat):Int)])]) (λi=>i<=q.a6.length/\df i (kL q.a6)=true) (λi=>q.a6.length - i) 0 ?_ ⟨W0 _,rfl⟩ λi e=>?_
 ·exact wB
 obtain⟨e,g⟩:=e;by_cases a:i<q.a6.length
 ·have h:=ao a
  have b:=DU (q.a6.take i) (nth q.a6 i) (by rw[V1];omega);rw[GI a]at b;cases c:kL q.a6 i<;>rw[c]at b
  all_goals
   repeat'(first|refine gE ?_|(conv=>whnf);refine CV i rfl (by simp;omega) (λr j=>by obtain⟨z,-,rfl⟩:=O4.1 j;rfl) (C4 ..) ?_)
   all_goals first
    | exact X0 (λz=>[B z]) ((by symm;unfold gC;rw[cB a c];rfl))
    | ((conv=>whnf);refine CE (i+1) ⟨ω,bU g c⟩ ω ?_;(exact wB))
 obtain rfl:i=q.a6.length:=ω
 repeat'(first|refine gE ?_|(conv=>whnf);first|with_reducible refine Bf.D (λk=>?_) (λk=>?_)|refine C8 (aM _ 0 500) ?_|refine C8 (xF q.a6 d) ?_)
 all_goals exact X0 (λz=>[B z]) ((by unfold gC;rw[g];simp only[Bool.true_and];first|(symm;exact U0 ω)|exact decide_eq_decide.2 ω))
def gI(a:List Bool):Nat->Int
 | 0=>0
 | i+1=>gI a i+(if nth a i then 1 else 0)
def cF(f:aV):Int:=if cZ f then gI f.a3 f.a3.length else 0
def mR{a:List Bool}{i:Nat}(h:nth a i=true):gI a (i+1)=gI a i+1:=by show gI a i+(if nth a i then 1 else 0)=_;rw[h];rfl
def p8{a:List Bool}{i:Nat}(h:nth a i=false):gI a (i+1)=gI a i:=by show gI a i+(if nth a i then 1 else 0)=_;rw[h];simp
def o9(f:aV)(h:aV.sml f):ar Tryz.prog 26 false [.val (some 2) (aV.enc .X f)] .one [I (cF f)]:=by
 have l:f.a3.length<=1048576:=h.2;have b:=qH f h;cases d:cZ f<;>rw[d]at b
 ·refine fO 24 [] Tryz.func26 rfl ?_
  repeat'(first|refine gP ?_|fail)
  (conv=>whnf)
  refine CF (ι:=Nat) (λi=>[(1,.H .box (aV.enc .X f)),(3,.H .one [I ((0:Int))]),(4,.H .one [I ((i:Nat):Int)])]) (λi=>i=0) (λi=>i) (0) ?_ (rfl) λi c=>?_
  ·exact wB
  subst c
  repeat'(first|refine gP ?_|(conv=>whnf);with_reducible refine Bf.D (λj=>?_) (λj=>?_))
  all_goals exact X0 (λz=>[I z]) (by unfold cF;rw[d];rfl)
 refine fO 24 [] Tryz.func26 rfl ?_
 repeat'(first|refine gP ?_|fail)
 (conv=>whnf)
 refine CF (ι:=Nat) (λi=>[(1,.H .box (aV.enc .X f)),(3,.H .one [I (gI f.a3 i)]),(4,.H .one [I ((i:Nat):Int)])]) (λi=>i<=f.a3.length/\0<=gI f.a3 i/\gI f.a3 i<=i) (λi=>f.a3.length - i) (0) ?_ (⟨W0 _,by simp[gI],by simp[gI]⟩) λi c=>?_
 ·exact wB
 obtain⟨c,n,o⟩:=c;by_cases k:i<f.a3.length
 ·have e:=ao k
  cases g:nth f.a3 i<;>rw[g]at e
  ·have a:=p8 g
   repeat'(first|refine gE ?_|(conv=>whnf);first|with_reducible refine CD (aa e) ?_|refine C8 b ?_)
   ((conv=>whnf);refine CE (i+1) ⟨ω,ω,ω⟩ ω ?_)
   rw[a];exact wB
  have a:=mR g
  repeat'(first|refine gE ?_|(conv=>whnf);first|with_reducible refine CD (aa e) ?_|refine C8 b ?_)
  ((conv=>whnf);refine CE (i+1) ⟨ω,ω,ω⟩ ω ?_)
  rw[a];exact wB
 obtain rfl:i=f.a3.length:=ω
 repeat'(first|refine gE ?_|(conv=>whnf);refine C8 b ?_)
 exact X0 (λz=>[I z]) (by unfold cF;rw[d];rfl)
def wt(f:aV)(g:aV.sml f):ar Tryz.prog 91 false [.val (some 2) (aV.enc .X f)] .one [I (cF f)]:=by
 have k:f.a3.length<=1048576:=g.2;have b:=qC f g;cases c:cZ f<;>rw[c]at b
 ·refine fO 21 [] Tryz.func91 rfl ?_
  repeat'(first|refine gP ?_|(conv=>whnf);refine C8 b ?_)
  all_goals exact X0 (λz=>[I z]) (by unfold cF;rw[c];rfl)
 refine fO 21 [] Tryz.func91 rfl ?_
 repeat'(first|refine gP ?_|(conv=>whnf);refine C8 b ?_)
 (conv=>whnf)
 refine CF (ι:=Nat) (λi=>[(3,.H .one [I (gI f.a3 i)]),(10,.H .one (xJ .X f.a3)),(11,.H .one [I (f.a3.length)]),(12,.H .one [I ((i:Nat):Int)])]) (λi=>i<=f.a3.length/\0<=gI f.a3 i/\gI f.a3 i<=i) (λi=>f.a3.length - i) (0) ?_ (⟨W0 _,by simp[gI],by simp[gI]⟩) λi h=>?_
 ·exact wB
 obtain⟨h,l,n⟩:=h;by_cases j:i<f.a3.length
 ·have d:=ao j
  cases e:nth f.a3 i<;>rw[e]at d
  ·have a:=p8 e
   repeat'(first|refine gE ?_|(conv=>whnf);with_reducible refine CD (aa d) ?_)
   ((conv=>whnf);refine CE (i+1) ⟨ω,ω,ω⟩ ω ?_)
   rw[a];exact wB
  have a:=mR e
  repeat'(first|refine gE ?_|(conv=>whnf);with_reducible refine CD (aa d) ?_)
  ((conv=>whnf);refine CE (i+1) ⟨ω,ω,ω⟩ ω ?_)
  rw[a];exact wB
 obtain rfl:i=f.a3.length:=ω
 repeat'(first|refine gE ?_|fail)
 exact X0 (λz=>[I z]) (by unfold cF;rw[c];rfl)
def yN(h:ab):Prop:=aG.sml h.G.F.Q
def iF(h:ab)(p:Int)(a:yN h):ar Tryz.prog 369 false [.val (some 24) (ab.enc .X h),.val none [I p]] .one (aD .own (aX h p)):=by
 refine fO 23 [] Tryz.func369 rfl ?_ (.inr (bH _))
 repeat'((conv=>whnf);first|with_reducible (first|refine Bf.E (λb=>?_) (λb=>?_)|refine jG.wk rfl ?_)|refine C8 (cR h.G.F.Q p a) ?_|refine C8 (ig h.G.F.Q _ a) ?_)
 all_goals(unfold aX;first|rw[CB (by assumption)]|rw[C9 (by assumption)])
 all_goals exact⟨rfl,trivial⟩
def oC(h:ab)(p:Int)(a:yN h):ar Tryz.prog 242 false [.val (some 24) (ab.enc .X h),.val none [I p]] .one (aD .own (aX h p)):=by
 refine fO 22 [] Tryz.func242 rfl ?_ (.inr (bH _))
 repeat'((conv=>whnf);first|with_reducible (first|refine Bf.E (λb=>?_) (λb=>?_)|refine jG.wk rfl ?_)|refine C8 (dD h.G.F.Q p a) ?_|refine C8 (kW h.G.F.Q _ a) ?_)
 all_goals(unfold aX;first|rw[CB (by assumption)]|rw[C9 (by assumption)])
 all_goals exact⟨rfl,trivial⟩
def ge(k:af)(p:Int)(a:aG.sml k.F.Q):ar Tryz.prog 123 false [.val (some 5) (af.enc .X k),.val none [I p]] .one [B (decide ((ac k.F.Q p).j≠0))]:=by
 refine fO 12 [] Tryz.func123 rfl ?_
 repeat'(first|refine gP ?_|(conv=>whnf);refine C8 (dD k.F.Q p a) ?_)
 exact X0 (λz=>[B z]) ((by rw[Y4];simp))
def pz(z:Int):ar Tryz.prog 80 false [.val none [I z]] .one [B (decide (0<=z/\z<=1073741823))]:=by
 refine fO 5 [] Tryz.func80 rfl ?_
 repeat'(first|refine gP ?_|(conv=>whnf);refine C8 (aM z 0 1073741823) ?_)
 rfl
def kv(h:ab)(p:Int)(g:h.K.length<=1048576):ar Tryz.prog 234 false [.val (some 24) (ab.enc .X h),.val none [I p]] .one [I (gQ h p)]:=by
 refine fO 22 [] Tryz.func234 rfl ?_
 repeat'(first|refine gP ?_|fail)
 (conv=>whnf)
 refine CF (ι:=Nat) (λi=>[(1,.H .one [I (p)]),(2,.H .box (ab.enc .X h)),(5,.H .one [I ((i:Nat):Int)])]) (λi=>i<=h.K.length/\∀(j:Nat)(z:ax),j<i->h.K[j]? = some z->kB p z=false) (λi=>h.K.length - i) (0) ?_ (⟨W0 _,λj z k=>ω⟩) λi c=>?_
 ·exact wB
 obtain⟨c,a⟩:=c;by_cases d:i<h.K.length
 ·have b:=ao d
  repeat'(first|refine gE ?_|(conv=>whnf);with_reducible refine Bf.E (λe=>?_) (λe=>?_))
  all_goals first
   | exact X0 (λz=>[I z]) (dI b (O0 (by assumption)) a).symm
   | ((conv=>whnf);refine CE (i+1) ⟨ω,dz b (U0 (by assumption)) a⟩ ω ?_;(exact wB))
 repeat'(first|refine gE ?_|fail)
 exact X0 (λz=>[I z]) (gv ω a).symm
def By(s:ax)(p:Int):ar Tryz.prog 253 false [.val (some 3) (ax.enc .X s),.ptr [I p]] .one [B (kB p s)]:=by
 refine fO 8 [] Tryz.func253 rfl ?_
 repeat'(first|refine gP ?_|fail)
 exact X0 (λz=>[B z]) ((by unfold kB;rw[Y4];simp))
def vV(h:ab)(p:Int)(b:h.K.length<=1048576):ar Tryz.prog 82 false [.val (some 24) (ab.enc .X h),.val none [I p]] .one [I (gQ h p)]:=by
 refine fO 9 [] Tryz.func82 rfl ?_
 repeat'(first|refine gP ?_|(conv=>whnf);first|refine Cq.mk (Al (some 3) (ax.enc .X) (kB p) h.K) (By default p).has (λL k rcs a=>?_) ?_|refine C8 (yA h.K (kB p) ω) ?_)
 ·obtain⟨y,-,rfl,rfl,rfl⟩:=a
  exact By y p
 rfl
def flight1(m:aK)(i:Nat):List Int:=(m.U.take i).flatMap λl=>l.map (·.Addr)
def flight2(m:aK)(i:Nat):List Int:=(m.a1.take i).flatten
def oo{m:aK}{i:Nat}{l:List dx}(h:m.U[i]? = some l):flight1 m (i+1)=flight1 m i++l.map (·.Addr):=by
 unfold flight1;rw[V5,h,List.flatMap_append];simp
def nG{m:aK}{i:Nat}{l:List Int}(h:m.a1[i]? = some l):flight2 m (i+1)=flight2 m i++l:=by
 unfold flight2;rw[V5,h,List.flatten_append];simp
def oT{m:aK}(h:bO m=true):aN m=flight1 m m.U.length++flight2 m m.a1.length:=by
 unfold aN flight1 flight2;rw[CB h,C5,C5]
def v7{m:aK}(h:bO m=false):aN m=[]:=by
 unfold aN;rw[h];rfl
def n9{m:aK}(h:bO m=true):1<=m.U.length/\m.U.length<=4/\m.a1.length=m.U.length:=by
 unfold bO at h;simp only[I0,C0]at h;exact h.1.1
def Fo{l:List Int} : ∀r∈l.map (rI .X),r.length=1:=by
 intro r a;obtain⟨z,-,rfl⟩:=O4.1 a;rfl
def Jz{l:List Int} : ∀r∈l.map (rI .X),aZ r=true:=by
 intro r a;obtain⟨z,-,rfl⟩:=O4.1 a;rfl
def Ag(m:aK)(j:aK.sml m):ar Tryz.prog 49 false [.val (some 2) (aK.enc .X m)] .one (aD .own (aN m)):=by
 have l:=mj m j;cases e:bO m<;>rw[e]at l
 ·refine fO 56 [] Tryz.func49 rfl ?_ (.inr (bH _))
  repeat'((conv=>whnf);first|with_reducible (first|refine Bn ?_|refine jG.wk rfl ?_)|refine Bu ?_|refine C8 l ?_)
  all_goals(rw[v7 e];exact⟨rfl,trivial⟩)
 obtain⟨D,E,F⟩:=n9 e;refine fO 56 [] Tryz.func49 rfl ?_ (.inr (bH _))
 repeat'(first|refine gP ?_|(conv=>whnf);refine C8 l ?_)
 (conv=>whnf)
 refine CF (ι:=Nat × List Int) (λi=>[(1,.H .box (aK.enc .X m)),(3,.H .one (aD .own i.2)),(4,.H .one [I ((i.1:Nat):Int)])]) (λi=>i.1<=m.U.length/\i.2=flight1 m i.1/\i.2.length<=1048576*i.1) (λi=>m.U.length - i.1) ((0,[])) ?_ (⟨W0 _,rfl,W0 _⟩) λi n=>?_
 ·exact wB
 obtain⟨i,S⟩:=i;obtain⟨n,o,t⟩:=n;simp only at n o t |-;by_cases q:i<m.U.length
 ·have g:=ao q
  have u:(nth m.U i).length<=1048576:=(j.1.2 _ (am q)).1
  repeat'(first|refine gE ?_|(conv=>whnf);with_reducible refine CD (aa g) ?_)
  (conv=>whnf)
  refine CF (ι:=Nat × List Int) (λk=>[(1,.H .box (aK.enc .X m)),(3,.H .one (aD .own k.2)),(4,.H .one [I ((i:Nat):Int)]),(5,.H .one [I ((k.1:Nat):Int)])]) (λk=>k.1<=(nth m.U i).length/\k.2=S++((nth m.U i).take k.1).map (·.Addr)) (λk=>(nth m.U i).length - k.1) ((0,S)) ?_ (⟨W0 _,by simp⟩) λk b=>?_
  ·exact wB
  obtain⟨k,c⟩:=k;obtain⟨b,a⟩:=b;simp only at b a |-;have w:c.length=S.length+k:=by rw[a,O3,C1,V1];omega
  by_cases h:k<(nth m.U i).length
  ·have d:=ao h
   repeat'(first|refine gE ?_|(conv=>whnf);refine CU co (λr y=>by rw[O1.1 y];rfl) (by simp[aZ,eD]) (by simp;omega) (by show _*8<=_;simp;omega) rfl ?_)
   ((conv=>whnf)
    refine CE (k+1,c++[(nth (nth m.U i) k).Addr]) ⟨(by simp only;omega),(by simp only;rw[a,V5,d,X5,W5];simp)⟩ (by simp only;omega) ?_
    (repeat'(first|exact trivial|rfl|exact CL rfl (CL (X0 (C.s dY.own) (by simp[rI])) trivial)|refine CL ?_ ?_)))
  obtain rfl:k=(nth m.U i).length:=ω
  rw[C5]at a
  repeat'(first|refine gE ?_|(conv=>whnf);with_reducible refine CD (aa g) ?_)
  ((conv=>whnf);refine CE (i+1,c) ⟨(by simp only;omega),(by simp only;rw[oo g,<-o,a]),(by simp only;omega)⟩ (by simp only;omega) ?_;(exact wB))
 obtain rfl:i=m.U.length:=ω
 repeat'(first|refine gE ?_|fail)
 (conv=>whnf)
 refine CF (ι:=Nat × List Int) (λk=>[(1,.H .box (aK.enc .X m)),(3,.H .one (aD .own k.2)),(6,.H .one [I ((k.1:Nat):Int)])]) (λk=>k.1<=m.a1.length/\k.2=S++flight2 m k.1/\k.2.length<=S.length+1048576*k.1) (λk=>m.a1.length - k.1) ((0,S)) ?_ (⟨W0 _,by simp[flight2],by simp⟩) λk b=>?_
 ·exact wB
 obtain⟨k,c⟩:=k;obtain⟨b,a,p⟩:=b;simp only at b a p |-;by_cases h:k<m.a1.length
 ·have d:=ao h
  have B:(nth m.a1 k).length<=1048576:=j.2.2 _ (am h)
  repeat'(first|refine gE ?_|(conv=>whnf);refine CU co Fo (λ_=>Jz) (by simp;omega) (by show _*8<=_;simp;omega) rfl ?_)
  ((conv=>whnf)
   refine CE (k+1,c++nth m.a1 k) ⟨(by simp only;omega),(by simp only;rw[nG d,a,W5]),(by simp only;rw[O3];omega)⟩ (by simp only;omega) ?_
   (repeat'(first|exact trivial|rfl|exact CL rfl (CL (X0 (C.s dY.own) (by simp[rI])) trivial)|refine CL ?_ ?_)))
 obtain rfl:k=m.a1.length:=ω
 repeat'(first|refine gE ?_|fail)
 rw[oT e,<-o,<-a];rfl
def Ah(m:aK)(h:aK.sml m):ar Tryz.prog 96 false [.val (some 2) (aK.enc .X m)] .one (aD .own (aN m)):=by
 have j:=vN m h;cases e:bO m<;>rw[e]at j
 ·refine fO 46 [] Tryz.func96 rfl ?_ (.inr (bH _))
  repeat'((conv=>whnf);first|with_reducible (first|refine Bn ?_|refine jG.wk rfl ?_)|refine Bu ?_|refine C8 j ?_)
  all_goals(rw[v7 e];exact⟨rfl,trivial⟩)
 obtain⟨D,E,F⟩:=n9 e;refine fO 46 [] Tryz.func96 rfl ?_ (.inr (bH _))
 repeat'(first|refine gP ?_|(conv=>whnf);refine C8 j ?_)
 (conv=>whnf)
 refine CF (ι:=Nat × List Int) (λi=>[(1,.H .box (aK.enc .X m)),(3,.H .one (aD .own i.2)),(15,.H .one (x6 .X m.U)),(16,.H .one [I (m.U.length)]),(17,.H .one [I ((i.1:Nat):Int)])]) (λi=>i.1<=m.U.length/\i.2=flight1 m i.1/\i.2.length<=1048576*i.1) (λi=>m.U.length - i.1) ((0,[])) ?_ (⟨W0 _,rfl,W0 _⟩) λi l=>?_
 ·exact wB
 obtain⟨i,S⟩:=i;obtain⟨l,n,t⟩:=l;simp only at l n t |-;by_cases p:i<m.U.length
 ·have q:=ao p
  have u:(nth m.U i).length<=1048576:=(h.1.2 _ (am p)).1
  repeat'(first|refine gE ?_|(conv=>whnf);with_reducible refine CD (aa q) ?_)
  (conv=>whnf)
  refine CF (ι:=Nat × List Int) (λk=>[(1,.H .box (aK.enc .X m)),(3,.H .one (aD .own k.2)),(15,.H .one (x6 .X m.U)),(16,.H .one [I (m.U.length)]),(17,.H .one [I ((i:Nat):Int)]),(21,.H .one (cN .X (nth m.U i))),(22,.H .one [I ((nth m.U i).length)]),(23,.H .one [I ((k.1:Nat):Int)])]) (λk=>k.1<=(nth m.U i).length/\k.2=S++((nth m.U i).take k.1).map (·.Addr)) (λk=>(nth m.U i).length - k.1) ((0,S)) ?_ (⟨W0 _,by simp⟩) λk b=>?_
  ·exact wB
  obtain⟨k,c⟩:=k;obtain⟨b,a⟩:=b;simp only at b a |-;have w:c.length=S.length+k:=by rw[a,O3,C1,V1];omega
  by_cases g:k<(nth m.U i).length
  ·have d:=ao g
   repeat'(first|refine gE ?_|(conv=>whnf);refine CU co (λr y=>by rw[O1.1 y];rfl) (by simp[aZ,eD]) (by simp;omega) (by show _*8<=_;simp;omega) rfl ?_)
   ((conv=>whnf)
    refine CE (k+1,c++[(nth (nth m.U i) k).Addr]) ⟨(by simp only;omega),(by simp only;rw[a,V5,d,X5,W5];simp)⟩ (by simp only;omega) ?_
    (repeat'(first|exact trivial|rfl|exact CL rfl (CL (X0 (C.s dY.own) (by simp[rI])) trivial)|refine CL ?_ ?_)))
  obtain rfl:k=(nth m.U i).length:=ω
  rw[C5]at a
  repeat'(first|refine gE ?_|fail)
  ((conv=>whnf);refine CE (i+1,c) ⟨(by simp only;omega),(by simp only;rw[oo q,<-n,a]),(by simp only;omega)⟩ (by simp only;omega) ?_;(exact wB))
 obtain rfl:i=m.U.length:=ω
 repeat'(first|refine gE ?_|fail)
 (conv=>whnf)
 refine CF (ι:=Nat × List Int) (λk=>[(3,.H .one (aD .own k.2)),(35,.H .one (jI .X m.a1)),(36,.H .one [I (m.a1.length)]),(37,.H .one [I ((k.1:Nat):Int)])]) (λk=>k.1<=m.a1.length/\k.2=S++flight2 m k.1/\k.2.length<=S.length+1048576*k.1) (λk=>m.a1.length - k.1) ((0,S)) ?_ (⟨W0 _,by simp[flight2],by simp⟩) λk b=>?_
 ·exact wB
 obtain⟨k,c⟩:=k;obtain⟨b,a,o⟩:=b;simp only at b a o |-;by_cases g:k<m.a1.length
 ·have d:=ao g
  have B:(nth m.a1 k).length<=1048576:=h.2.2 _ (am g)
  repeat'(first|refine gE ?_|(conv=>whnf);refine CU co Fo (λ_=>Jz) (by simp;omega) (by show _*8<=_;simp;omega) rfl ?_)
  ((conv=>whnf)
   refine CE (k+1,c++nth m.a1 k) ⟨(by simp only;omega),(by simp only;rw[nG d,a,W5]),(by simp only;rw[O3];omega)⟩ (by simp only;omega) ?_
   (repeat'(first|exact trivial|rfl|exact CL rfl (CL (X0 (C.s dY.own) (by simp[rI])) trivial)|refine CL ?_ ?_)))
 obtain rfl:k=m.a1.length:=ω
 repeat'(first|refine gE ?_|fail)
 rw[oT e,<-n,<-a];rfl
def tbl(h:ab):aG:=h.G.F.Q
def eQ(h:ab):Nat:=h.G.F.Q.J.length
def y2(xs:List ax)(i:Nat):Bool:=decide (i=0\/(nth xs (i - 1)).R<(nth xs i).R)
def x7(xs:List aB)(i:Nat):Bool:=decide (i=0\/(nth xs (i - 1)).R<(nth xs i).R)
def yJ(h:ab)(l:aB)(k:Nat):Bool:=decide ((aX h (l.R+(k:Nat))).length=1)
def tF(h:ab)(i:Nat):Bool:=x7 h.M i&&df (nth h.M i).a4.toNat (yJ h (nth h.M i))
def wd(h:ab)(p:Nat):Bool:=decide ((nth (tbl h).J p).j≠0↔(p:Int)∈pgs h.K h.M)&&(decide ((nth (tbl h).J p).j≠0) != h.q.any (rn (p:Nat)))
def pages0(h:ab):Bool:=((df h.K.length (y2 h.K)&&df h.M.length (tF h))&&(pgs h.K h.M).all λp=>decide (p<eQ h))&&df (eQ h) (wd h)
def m6(h:ab)(i:Nat)(q:Int):Bool:=decide (gQ h q=(i:Nat)) || (decide (0<=gQ h q)&&meshable (nth h.K i) (nth h.K (gQ h q).toNat))
def vF(h:ab):Bool:=df h.K.length λi=>(aX h (nth h.K i).R).all (m6 h i)
def lA(h:ab)(i j:Nat):Bool:=decide ((ac (tbl h) (nth h.K i).R).e≠(ac (tbl h) (nth h.K j).R).e) || meshable (nth h.K i) (nth h.K j)
def oz(h:ab):Bool:=df h.K.length λi=>df i (lA h i)
def fp(z:Int)(o:bt):Bool:=decide (o.Id=z)
def jl(h:ab)(o:bt):Bool:=
 let w:=denotes h.K h.M o.Addr
 decide (w.c5=0)&&((decide (w.b6=1)&&decide ((nth h.K w.c4.toNat).d=aJ o.u)) || (decide (w.b6=3)&&decide ((nth h.M w.c4.toNat).u=o.u)))
def ic(a:Int)(h:ab)(i:Nat):Bool:=decide ((i=0\/(nth h.O (i - 1)).Addr<(nth h.O i).Addr)/\1<=(nth h.O i).Id/\(nth h.O i).Id<=a/\0<=(nth h.O i).a5/\(nth h.O i).a5<=h.T.length - 1)
def objAt(a:Int)(h:ab)(i:Nat):Bool:=(ic a h i&&!(h.O.take i).any (fp (nth h.O i).Id))&&jl h (nth h.O i)
def fL(h:ab):Bool:=df h.O.length (objAt (IntKind.i64.wrap (h.a - 1)) h)
def d9(h:ab)(a c:Int):Bool:=
 let w:=denotes h.K h.M a
 (decide (w.b6=1)&&decide (w.c5=0))&&(decide (c<0) || decide ((nth h.K w.c4.toNat).d=c))
def tK(h:ab)(c:aE)(k:Nat):Bool:=(nth c.b k).all λa=>d9 h a (k:Nat)
def fw(h:ab)(c:aE):Bool:=df c.b.length (tK h c)
def iA(h:ab)(x:aQ):Bool:=d9 h x.Addr x.d
def kM(h:ab)(a:Int):Bool:=d9 h a (-1)
def cG(h:ab):List Int:=h.T.flatMap λc=>c.b.flatten
def iE(h:ab):Bool:=((h.T.all (fw h))&&h.a9.a6.all (iA h))&&(aN h.y).all (kM h)
def holders(h:ab):List Int:=((h.O.map (·.Addr)++cG h)++h.a9.a6.map (·.Addr))++aN h.y
def kA(sp:List ax)(la:List aB)(a:Nat):Bool:=
 let w:=denotes sp la (a:Nat)
 decide (w.c5=0)&&(decide (w.b6=1) || decide (w.b6=3))
def mh(sp:List ax)(la:List aB)(n:Nat):List Int:=((List.range n).filter (kA sp la)).map λ(i:Nat)=>(i:Int)
def ja(sp:List ax)(la:List aB):List Int:=mh sp la 512
def jo(h:ab):Bool:=(iE h&&decide (holders h).Nodup)&&decide ((holders h).length=(ja h.K h.M).length)
def kS(h:ab):Bool:=h.a9.a6.all λx=>decide (x.b7<=h.b3)
def cj(h:ab):Bool:=decide (0<=h.c0/\h.c0<=1073741823/\0<=h.b3/\h.b3<=1000000/\0<=h.c3/\h.c3<=1000/\1<=h.a/\h.a<=1000000)
def rg(h:ab):Bool:=if h.o then(j9 h.Y&&decide (0<=gQ h h.Y.W.a2))&&decide (0<=gQ h h.Y.W.a0) else qI h.Y
def lR(h:ab):Bool:=((ay h.G&&bC (eQ h) h.q)&&bo h.K h.M)&&pages0 h
set_option maxHeartbeats 8000000
def dG{sp:List ax}{la:List aB}(h:bo sp la=true):sp.all bg=true/\la.all bJ=true/\(pgs sp la).Nodup:=by
 unfold bo at h;simp only[I0,C0]at h;exact⟨h.1.1,h.1.2,h.2⟩
def Qf{α:Type}[Inhabited α]{xs:List α}{p:α->Bool}{i:Nat}(h:xs.all p=true)(a:i<xs.length):p (nth xs i)=true:=v4.1 h _ (am a)
def EZ{h:ab}(h1:df h.K.length (y2 h.K)=false):pages0 h=false:=by unfold pages0;rw[h1];rfl
def sD{h:ab}(h1:df h.M.length (tF h)=false):pages0 h=false:=by unfold pages0;rw[h1];simp
def FR{h:ab}{p:Int}(h1:p∈pgs h.K h.M)(a:¬p<eQ h):pages0 h=false:=by
 have:((pgs h.K h.M).all λp=>decide (p<eQ h))=false:=List.all_eq_false.2 ⟨p,h1,by simpa using a⟩;unfold pages0;rw[this];simp
def EC{h:ab}(h1:df (eQ h) (wd h)=false):pages0 h=false:=by unfold pages0;rw[h1];simp
def xQ{h:ab}(h1:df h.K.length (y2 h.K)=true)(a:df h.M.length (tF h)=true)(b:∀p∈pgs h.K h.M,p<eQ h)(c:df (eQ h) (wd h)=true):pages0 h=true:=by
 have:((pgs h.K h.M).all λp=>decide (p<eQ h))=true:=v4.2 λp d=>O0 (b p d)
 unfold pages0;rw[h1,a,c,this];rfl
def Pn{h:ab}{i:Nat}(h1:x7 h.M i=false):tF h i=false:=by unfold tF;rw[h1];rfl
def Mn{h:ab}{i k:Nat}(a:k<(nth h.M i).a4.toNat)(h1:yJ h (nth h.M i) k=false):tF h i=false:=by unfold tF;rw[cB a h1];simp
def Fi{h:ab}{i:Nat}(h1:x7 h.M i=true)(a:df (nth h.M i).a4.toNat (yJ h (nth h.M i))=true):tF h i=true:=by unfold tF;rw[h1,a];rfl
def gw(h:ab)(p:Int):(aX h p).length<=eQ h:=by
 unfold aX;split
 ·simp
 exact rM ..
def vf{sp:List ax}{la:List aB}(h:bo sp la=true){i:Nat}{l:aB}(a:la[i]? = some l):1<=l.a4/\l.a4<=63/\0<=l.R/\l.R<=31:=
 aO (v4.1 (dG h).2.1 l (Z1 a))
def Gi(h:ab)(G:dS h.K)(H:dQ h.M)(l:yN h)(J:iH h.q)(n:bo h.K h.M=true):ar Tryz.prog 226 false [.val (some 24) (ab.enc .X h)] .one [B (pages0 h)]:=by
 have Z:=G.1;have hl2:=H.1;have hl3:eQ h<=1048576:=l.1;have hl4:=J.1;refine fO 144 [(7,18,[28,29,30,31,32,33,34,35,36,37,38,39,40,41,42,43,44,45]),(13,18,[62,63,64,65,66,67,68,69,70,71,72,73,74,75,76,77,78,79])] Tryz.func226 rfl ?_
 repeat'(first|refine gP ?_|fail)
 (conv=>whnf)
 refine CF (ι:=Nat × List Int) (λi=>[(1,.H .box (ab.enc .X h)),(3,.H .box (aG.enc .X (tbl h))),(4,.H .one [I (eQ h)]),(5,.H .one (aD .own i.2)),(6,.H .one [I ((i.1:Nat):Int)])]) (λi=>i.1<=h.K.length/\i.2=(h.K.take i.1).map (·.R)/\df i.1 (y2 h.K)=true) (λi=>h.K.length - i.1) ((0,[])) ?_ (⟨W0 _,rfl,rfl⟩) λi K=>?_
 ·exact wB
 obtain⟨i,S⟩:=i;obtain⟨K,o,L⟩:=K;simp only at K o L |-;have hSl:S.length=i:=by rw[o,C1,V1];omega
 by_cases M:i<h.K.length
 ·have c:=ao M
  repeat'(first|refine gE ?_|(conv=>whnf);first|with_reducible refine Bf.D (λa=>?_) (λa=>?_)|refine CM ω (aa (gF ω M)) ?_|refine CU co (λr t=>by rw[O1.1 t];rfl) (by simp[aZ,eD]) (by simp;omega) (by simp only[C1];exact zh (by simp;omega) (by decide)) rfl ?_)
  all_goals first
   | exact X0 (λz=>[B z]) ((EZ (cB M (U0 ω))).symm)
   | ((conv=>whnf)
      refine CE (i+1,S++[(nth h.K i).R]) ⟨(by simp only;omega),(by simp only;rw[o,V5,c];simp),bU L (O0 ω)⟩ (by simp only;omega) ?_
      (repeat'(first|exact trivial|rfl|exact CL rfl (CL (X0 (C.s dY.own) (by simp[rI])) trivial)|refine CL ?_ ?_)))
 obtain rfl:i=h.K.length:=ω
 rw[C5]at o
 repeat'(first|refine gE ?_|fail)
 (conv=>whnf)
 refine CF (ι:=Nat × List Int) (λk=>[(1,.H .box (ab.enc .X h)),(3,.H .box (aG.enc .X (tbl h))),(4,.H .one [I (eQ h)]),(5,.H .one (aD .own k.2)),(7,.H .one [I ((k.1:Nat):Int)])]) (λk=>k.1<=h.M.length/\k.2=pgs h.K (h.M.take k.1)/\df k.1 (tF h)=true/\k.2.length<=1048576+64*k.1) (λk=>h.M.length - k.1) ((0,S)) ?_ (⟨W0 _,by rw[o];unfold pgs;simp,rfl,by simp only;omega⟩) λk O=>?_
 ·exact wB
 obtain⟨k,S2⟩:=k;obtain⟨O,b,Q,R⟩:=O;simp only at O b Q R |-;by_cases y:k<h.M.length
 ·have c:=ao y
  have hpg:=vf n c
  repeat'(first|refine gE ?_|(conv=>whnf);first|with_reducible refine Bf.D (λa=>?_) (λa=>?_)|refine CM ω (aa (gF ω y)) ?_)
  all_goals first
   | exact X0 (λz=>[B z]) ((sD (cB y (Pn (U0 ω)))).symm)
   |have e:x7 h.M k=true:=O0 ω
    (conv=>whnf)
    refine CF (ι:=Nat × List Int) (λq=>[(1,.H .box (ab.enc .X h)),(3,.H .box (aG.enc .X (tbl h))),(4,.H .one [I (eQ h)]),(5,.H .one (aD .own q.2)),(7,.H .one [I ((k:Nat):Int)]),(8,.H .one [I ((q.1:Nat):Int)])]) (λq=>q.1<=(nth h.M k).a4.toNat/\q.2=S2++lpgs (nth h.M k) q.1/\df q.1 (yJ h (nth h.M k))=true) (λq=>(nth h.M k).a4.toNat - q.1) ((0,S2)) ?_ (⟨W0 _,by simp[lpgs],rfl⟩) λq a=>?_
    ·exact wB
    obtain⟨q,T⟩:=q;obtain⟨U,d,g⟩:=a;simp only at U d g |-;have W:T.length=S2.length+q:=by rw[d,O3,EK]
    by_cases E:q<(nth h.M k).a4.toNat
    ·have hfl:=gw h ((nth h.M k).R+(q:Nat))
     repeat'(first|refine gE ?_|(conv=>whnf);first|with_reducible refine Bf.N (λa=>?_) (λa=>?_)|refine C8 (iF h _ l) ?_|refine CU co (λr t=>by rw[O1.1 t];rfl) (by simp[aZ,eD]) (by simp;omega) (by show _*8<=_;simp;omega) rfl ?_)
     all_goals first
      | exact X0 (λz=>[B z]) ((sD (cB y (Mn E (U0 ω)))).symm)
      | ((conv=>whnf)
         refine CE (q+1,T++[(nth h.M k).R+(q:Nat)]) ⟨(by simp only;omega),(by simp only;rw[d,lr,W5]),bU g (O0 ω)⟩ (by simp only;omega) ?_
         (repeat'(first|exact trivial|rfl|exact CL rfl (CL (X0 (C.s dY.own) (by simp[rI])) trivial)|refine CL ?_ ?_)))
    obtain rfl:q=(nth h.M k).a4.toNat:=ω
    repeat'(first|refine gE ?_|(conv=>whnf);with_reducible refine CD (aa c) ?_)
    ((conv=>whnf);refine CE (k+1,T) ⟨(by simp only;omega),(by simp only;rw[d,b,<-oV _ c]),bU Q (Fi e g),(by simp only;omega)⟩ (by simp only;omega) ?_;(exact wB))
 obtain rfl:k=h.M.length:=ω
 rw[C5]at b
 repeat'(first|refine gE ?_|fail)
 (conv=>whnf)
 refine CF (ι:=Nat) (λq=>[(1,.H .box (ab.enc .X h)),(3,.H .box (aG.enc .X (tbl h))),(4,.H .one [I (eQ h)]),(5,.H .one (aD .own S2)),(10,.H .one [I ((q:Nat):Int)])]) (λq=>q<=S2.length/\∀j,j<q->nth S2 j<eQ h) (λq=>S2.length - q) (0) ?_ (⟨W0 _,λj F=>ω⟩) λq a=>?_
 ·exact wB
 obtain⟨a,g⟩:=a;by_cases E:q<S2.length
 ·have c:=ao E
  repeat'(first|refine gE ?_|(conv=>whnf);with_reducible refine Bf.D (λa=>?_) (λa=>?_))
  all_goals first
   | exact X0 (λz=>[B z]) ((FR (by rw[<-b];exact am E) ω).symm)
   | ((conv=>whnf);refine CE (q+1) ⟨ω,λj F=>by rcases Nat.lt_or_ge j q with V|V;exact g j V;(obtain rfl:j=q:=ω);omega⟩ ω ?_;(exact wB))
 have u:∀p∈pgs h.K h.M,p<eQ h:=λp w=>by
  rw[<-b]at w;obtain⟨j,F⟩:=List.mem_iff_getElem?.1 w;have V:=(O2.1 F).1;have:=g j ω
  rwa [bm F]at this
 repeat'(first|refine gE ?_|fail)
 (conv=>whnf)
 refine CF (ι:=Nat) (λp=>[(1,.H .box (ab.enc .X h)),(3,.H .box (aG.enc .X (tbl h))),(4,.H .one [I (eQ h)]),(5,.H .one (aD .own S2)),(11,.H .one [I ((p:Nat):Int)])]) (λp=>p<=eQ h/\df p (wd h)=true) (λp=>eQ h - p) 0 ?_ ⟨W0 _,rfl⟩ λp w=>?_
 ·exact wB
 obtain⟨w,X⟩:=w;by_cases Y:p<eQ h
 ·have c:=ao (xs:=(tbl h).J) Y
  have t:=zO h.q (p:Nat) ω
  repeat'(first|refine gE ?_|(conv=>whnf);first|with_reducible refine Bf.NB (λa=>?_) (λa=>?_)|refine CG (mT S2 _ ω) ⟨⟨rfl,eg _⟩,⟨rfl,rfl⟩,trivial⟩ ?_|refine Bf.P (λa=>?_) (λa=>?_))
  all_goals first
   | exact X0 (λz=>[B z]) ((EC (cB Y (by unfold wd;rw[<-b];grind))).symm)
   | ((conv=>whnf);refine CE (p+1) ⟨ω,bU X (by unfold wd;rw[<-b];grind)⟩ ω ?_;(exact wB))
 repeat'(first|refine gE ?_|fail)
 obtain rfl:p=eQ h:=ω
 exact X0 (λz=>[B z]) ((xQ L Q u X).symm)
set_option maxHeartbeats 8000000
def BF{z1 z2:Int}(h:z1=z2):Qu (I z1) (I z2):=by subst h;rfl
def JE{S:List Int}{p z:Int} : z∈ins S p↔z∈S\/z=p:=by
 unfold ins;split
 ·rename_i a
  exact⟨.inl,λh=>h.elim id λe=>e ▸ a⟩
 simp
def yw(S:List Int):(gf S).map (·.1)=S:=by unfold gf;rw[List.map_map];simp[Y5]
def mw{t:aG}{p:Nat}(a:p<t.J.length):ac t (p:Nat)=nth t.J p:=by
 unfold ac;rw[CB ω];simp
def Da(h:ab)(Q:dS h.K)(R:dQ h.M)(l:yN h)(T:iH h.q)(G:bo h.K h.M=true):ar Tryz.prog 74 false [.val (some 24) (ab.enc .X h)] .one [B (pages0 h&&oz h)]:=by
 have hl1:=Q.1;have hl2:=R.1;have hl3:eQ h<=1048576:=l.1;have hl4:=T.1;have d:pages0 h=false->[B false]=[B (pages0 h&&oz h)]:=λe=>by rw[e];rfl
 refine fO 177 [(4,14,[25,26,27,28,29,30,31,32,33,34,35,36,37,38]),(16,14,[60,61,62,63,64,65,66,67,68,69,70,71,72,73]),(28,18,[102,103,104,105,106,107,108,109,110,111,112,113,114,115,116,117,118,119]),(42,23,[152,153,154,155,156,157,158,159,160,161,162,163,164,165,166,167,168,169,170,171,172,173,174])] Tryz.func74 rfl ?_
 repeat'(first|refine gP ?_|fail)
 (conv=>whnf)
 refine CF (ι:=Nat) (λi=>[(1,.H .box (ab.enc .X h)),(18,.H .one (bX .X h.K)),(19,.H .one [I (h.K.length)]),(20,.H .one [I ((i:Nat):Int)])]) (λi=>i<=h.K.length/\df i (y2 h.K)=true) (λi=>h.K.length - i) 0 ?_ ⟨W0 _,rfl⟩ λi o=>?_
 ·exact wB
 obtain⟨o,H⟩:=o;by_cases F:i<h.K.length
 ·have g:=ao F
  repeat'(first|refine gE ?_|(conv=>whnf);first|with_reducible refine Bf.D (λa=>?_) (λa=>?_)|refine CM ω (aa (gF ω F)) ?_)
  all_goals first
   |exact d (EZ (cB F (U0 ω)))
   | ((conv=>whnf);refine CE (i+1) ⟨ω,bU H (O0 ω)⟩ ω ?_;(exact wB))
 obtain rfl:i=h.K.length:=ω
 repeat'(first|refine gE ?_|fail)
 (conv=>whnf)
 refine CF (ι:=Nat × List Int) (λi=>[(1,.H .box (ab.enc .X h)),(5,.H .one [.m (gf i.2)]),(42,.H .one (bX .X h.K)),(43,.H .one [I (h.K.length)]),(44,.H .one [I ((i.1:Nat):Int)])]) (λi=>i.1<=h.K.length/\∀z,z∈i.2↔z∈(h.K.take i.1).map (·.R)) (λi=>h.K.length - i.1) ((0,[])) ?_ (⟨W0 _,λz=>Iff.rfl⟩) λi o=>?_
 ·exact wB
 obtain⟨i,S⟩:=i;obtain⟨U,L⟩:=o;simp only at U L |-;by_cases li2:i<h.K.length
 ·have g:=ao li2
  repeat'(first|refine gE ?_|(conv=>whnf);refine Mu.mk (yL S _) ?_)
  ((conv=>whnf);refine CE (i+1,ins S (nth h.K i).R) ⟨(by simp only;omega),λz=>by simp only[JE,L];rw[V5,g];simp⟩ (by simp only;omega) ?_;(exact wB))
 obtain rfl:i=h.K.length:=ω
 rw[C5]at L
 repeat'(first|refine gE ?_|fail)
 (conv=>whnf)
 refine CF (ι:=Nat × List Int) (λk=>[(1,.H .box (ab.enc .X h)),(5,.H .one [.m (gf k.2)]),(53,.H .one (cx .X h.M)),(54,.H .one [I (h.M.length)]),(55,.H .one [I ((k.1:Nat):Int)])]) (λk=>k.1<=h.M.length/\(∀z,z∈k.2↔z∈pgs h.K (h.M.take k.1))/\df k.1 (tF h)=true) (λk=>h.M.length - k.1) ((0,S)) ?_ (⟨W0 _,λz=>by simp only[L];unfold pgs;simp,rfl⟩) λk V=>?_
 ·exact wB
 obtain⟨k,S2⟩:=k;obtain⟨V,b,W⟩:=V;simp only at V b W |-;by_cases M:k<h.M.length
 ·have g:=ao M
  have hpg:=vf G g
  repeat'(first|refine gE ?_|(conv=>whnf);first|with_reducible refine Bf.D (λa=>?_) (λa=>?_)|refine CM ω (aa (gF ω M)) ?_)
  all_goals first
   |exact d (sD (cB M (Pn (U0 ω))))
   |have u:x7 h.M k=true:=O0 ω
    (conv=>whnf)
    refine CF (ι:=Nat × List Int) (λq=>[(1,.H .box (ab.enc .X h)),(5,.H .one [.m (gf q.2)]),(9,.H .box (aB.enc .X (nth h.M k))),(10,.H .one [I ((nth h.M k).R+(q.1:Nat))]),(53,.H .one (cx .X h.M)),(54,.H .one [I (h.M.length)]),(55,.H .one [I ((k:Nat):Int)])]) (λq=>q.1<=(nth h.M k).a4.toNat/\(∀z,z∈q.2↔z∈S2++lpgs (nth h.M k) q.1)/\df q.1 (yJ h (nth h.M k))=true) (λq=>(nth h.M k).a4.toNat - q.1) ((0,S2)) ?_ (⟨W0 _,λz=>by simp[lpgs],rfl⟩) λq a=>?_
    ·exact wB
    obtain⟨q,X⟩:=q;obtain⟨Y,w,Z⟩:=a;simp only at Y w Z |-;by_cases lq:q<(nth h.M k).a4.toNat
    ·have hfl:=gw h ((nth h.M k).R+(q:Nat))
     repeat'(first|refine gE ?_|(conv=>whnf);first|with_reducible refine Bf.N (λa=>?_) (λa=>?_)|refine C8 (oC h _ l) ?_|refine Mu.mk (yL X _) ?_)
     all_goals first
      |exact d (sD (cB M (Mn lq (U0 ω))))
      | ((conv=>whnf)
         refine CE (q+1,ins X ((nth h.M k).R+(q:Nat))) ⟨(by simp only;omega),λz=>by simp only[JE,w];rw[lr];simp[or_assoc],bU Z (O0 ω)⟩ (by simp only;omega) ?_
         (repeat'(first|exact trivial|rfl|refine CL ?_ ?_|exact BF (by simp;omega))))
    obtain rfl:q=(nth h.M k).a4.toNat:=ω
    repeat'(first|refine gE ?_|fail)
    ((conv=>whnf);refine CE (k+1,X) ⟨(by simp only;omega),(λz=>by simp only[w];rw[oV _ g];simp[b]),bU W (Fi u Z)⟩ (by simp only;omega) ?_;(exact wB))
 obtain rfl:k=h.M.length:=ω
 rw[C5]at b
 repeat'(first|refine gE ?_|fail)
 (conv=>whnf)
 refine CF (ι:=Nat) (λp=>[(1,.H .box (ab.enc .X h)),(5,.H .one [.m (gf S2)]),(98,.H .one [I (eQ h)]),(99,.H .one [I ((p:Nat):Int)])]) (λp=>p<=eQ h/\df p (wd h)=true) (λp=>eQ h - p) 0 ?_ ⟨W0 _,rfl⟩ λp O=>?_
 ·exact wB
 obtain⟨O,ap⟩:=O;by_cases lp:p<eQ h
 ·have hr:=zV h.q (p:Nat) ω
  have J:=ge h.G (p:Nat) l;rw[mw lp]at J
  repeat'(first|refine gE ?_|(conv=>whnf);first|with_reducible refine Bf.NB (λa=>?_) (λa=>?_)|refine Ml.mk (n8 (p:Nat) S2) ?_|refine Bf.P (λa=>?_) (λa=>?_))
  all_goals first
   |exact d (EC (cB lp (by unfold wd tbl;have:=b (p:Nat);grind)))
   | ((conv=>whnf);refine CE (p+1) ⟨ω,bU ap (by unfold wd tbl;have:=b (p:Nat);grind)⟩ ω ?_;(exact wB))
 obtain rfl:p=eQ h:=ω
 repeat'(first|refine gE ?_|fail)
 have hpn:eQ h=h.G.F.Q.J.length:=rfl
 (conv=>whnf)
 refine CF (ι:=Option Int × List Int) (λt=>[(1,.H .box (ab.enc .X h)),(122,.H .one [.it t.1 t.2])]) (λt=>(∀z∈S2,z∈t.2\/z<eQ h)/\∀z∈t.2,z∈S2) (λt=>t.2.length) ((none,(gf S2).map (·.1))) ?_ (⟨λz n=>.inl (by rw[yw];exact n),λz n=>by rw[yw]at n;exact n⟩) λt ht=>?_
 ·exact wB
 obtain⟨cur,left⟩:=t;obtain⟨y,C⟩:=ht;simp only at y C |-
 repeat'(first|refine gP ?_|(conv=>whnf);first|with_reducible refine Bf.D (λa=>?_) (λa=>?_)|refine Nt.mk (λa=>?_) (λl1 k l2 a=>?_))
 rotate_left
 ·exact d (FR (p:=k) ((b k).1 (C k (by subst left;simp))) ω)
 ·((conv=>whnf);refine CE (some k,l1++l2) ⟨λz n=>by have c:=y z n;subst left;simp only[z3,List.mem_cons]at c |-;rcases c with(c|c|c)|c;exact .inl (.inl c);(subst c;exact .inr ω);exact .inl (.inr c);exact .inr c,λz n=>C z (by subst left;simp only[z3,List.mem_cons]at n |-;grind)⟩ (by subst left;simp) ?_;(exact wB))
 have K:∀p∈pgs h.K h.M,p<eQ h:=λp O=>by
  have c:=y p ((b p).2 O);subst left;simpa using c
 have h0:pages0 h=true:=xQ H W K ap;rw[h0,Bool.true_and]
 (conv=>whnf)
 refine CF (ι:=Nat) (λi=>[(1,.H .box (ab.enc .X h)),(136,.H .one (bX .X h.K)),(137,.H .one [I (h.K.length)]),(138,.H .one [I ((i:Nat):Int)])]) (λi=>i<=h.K.length/\df i (λi=>df i (lA h i))=true) (λi=>h.K.length - i) 0 ?_ ⟨W0 _,rfl⟩ λi o=>?_
 ·exact wB
 obtain⟨o,H⟩:=o;by_cases F:i<h.K.length
 ·have g:=ao F
  have htl:(h.K.take i).length=i:=by rw[V1];omega
  repeat'(first|refine gE ?_|(conv=>whnf);refine CV i rfl (by simp;omega) (λr hr=>by obtain⟨z,-,rfl⟩:=O4.1 hr;rfl) (C4 ..) ?_)
  (conv=>whnf)
  refine CF (ι:=Nat) (λj=>[(1,.H .box (ab.enc .X h)),(14,.H .box (ax.enc .X (nth h.K i))),(136,.H .one (bX .X h.K)),(137,.H .one [I (h.K.length)]),(138,.H .one [I ((i:Nat):Int)]),(146,.H .one (bX .X (h.K.take i))),(147,.H .one [I ((h.K.take i).length)]),(148,.H .one [I ((j:Nat):Int)])]) (λj=>j<=(h.K.take i).length/\df j (lA h i)=true) (λj=>(h.K.take i).length - j) 0 ?_ ⟨W0 _,rfl⟩ λj hj=>?_
  ·exact wB
  obtain⟨hj,aj⟩:=hj;by_cases lj:j<(h.K.take i).length
  ·have hy:=ao lj
   have he:nth (h.K.take i) j=nth h.K j:=bm (by rw[List.getElem?_take_of_lt ω];exact ao ω);rw[he]at hy;have J:=m0 (nth h.K i) (nth h.K j);cases em:meshable (nth h.K i) (nth h.K j)<;>rw[em]at J
   all_goals
    repeat'(first|refine gE ?_|(conv=>whnf);first|with_reducible refine Bf.E (λa=>?_) (λa=>?_)|refine C8 (dD (tbl h) _ l) ?_)
    all_goals first
     | exact X0 (λz=>[B z]) ((by symm;exact cB F (cB (i:=j) ω (by unfold lA;rw[em];grind))))
     | ((conv=>whnf);refine CE (j+1) ⟨ω,bU aj (by unfold lA;rw[em];grind)⟩ ω ?_;(exact wB))
  obtain rfl:j=(h.K.take i).length:=ω
  rw[htl]at aj
  repeat'(first|refine gE ?_|fail)
  ((conv=>whnf);refine CE (i+1) ⟨ω,bU H aj⟩ ω ?_;(exact wB))
 obtain rfl:i=h.K.length:=ω
 repeat'(first|refine gE ?_|fail)
 exact X0 (λz=>[B z]) ((by unfold oz;rw[H]))
set_option maxHeartbeats 8000000
def mu{α:Type}[Inhabited α](pr:α->Bool)(xs:List α):dH pr xs = -1\/∃n,n<xs.length/\dH pr xs=(n:Nat)/\pr (nth xs n)=true:=by
 unfold dH;cases h:xs.findIdx? pr with
 | none=>exact .inl rfl
 | some i=>
  obtain⟨a,b,-⟩:=C7.1 h;exact .inr ⟨i,a,rfl,by rw[bm (I2 a)];exact b⟩
def F5{h:ab}{i k:Nat}(a:i<h.K.length)(b:k<(aX h (nth h.K i).R).length)(c:m6 h i (nth (aX h (nth h.K i).R) k)=false):vF h=false:=by
 unfold vF;exact cB a (fo (ao b) c)
def BI(h:ab)(j:dS h.K)(c:yN h):ar Tryz.prog 227 false [.val (some 24) (ab.enc .X h)] .one [B (vF h)]:=by
 have l:=j.1;have G:eQ h<=1048576:=c.1;refine fO 55 [(4,8,[14,15,16,17,18,19,20,21]),(8,6,[28,29,30,31,32,33]),(9,21,[34,35,36,37,38,39,40,41,42,43,44,45,46,47,48,49,50,51,52,53,54])] Tryz.func227 rfl ?_
 repeat'(first|refine gP ?_|fail)
 (conv=>whnf)
 refine CF (ι:=Nat) (λi=>[(1,.H .box (ab.enc .X h)),(3,.H .one [I ((i:Nat):Int)])]) (λi=>i<=h.K.length/\df i (λi=>(aX h (nth h.K i).R).all (m6 h i))=true) (λi=>h.K.length - i) 0 ?_ ⟨W0 _,rfl⟩ λi w=>?_
 ·exact wB
 obtain⟨w,y⟩:=w;by_cases o:i<h.K.length
 ·have q:=ao o
  have H:=gw h (nth h.K i).R
  repeat'(first|refine gE ?_|(conv=>whnf);refine C8 (iF h _ c) ?_)
  (conv=>whnf)
  refine CF (ι:=Nat) (λk=>[(1,.H .box (ab.enc .X h)),(3,.H .one [I ((i:Nat):Int)]),(4,.H .one (aD .own (aX h (nth h.K i).R))),(5,.H .one [I ((k:Nat):Int)])]) (λk=>k<=(aX h (nth h.K i).R).length/\((aX h (nth h.K i).R).take k).all (m6 h i)=true) (λk=>(aX h (nth h.K i).R).length - k) (0) ?_ (⟨W0 _,rfl⟩) λk C=>?_
  ·exact wB
  obtain⟨C,E⟩:=C;by_cases r:k<(aX h (nth h.K i).R).length
  ·have d:=ao r
   have a:=kv h (nth (aX h (nth h.K i).R) k) l;rcases mu (kB (nth (aX h (nth h.K i).R) k)) h.K with e|⟨n,J,e,-⟩
   ·rw[show gQ h (nth (aX h (nth h.K i).R) k) = -1 from e]at a
    have t:m6 h i (nth (aX h (nth h.K i).R) k)=false:=by
     unfold m6;rw[show gQ h (nth (aX h (nth h.K i).R) k) = -1 from e,U0 ω,U0 ω];rfl
    repeat'(first|refine gE ?_|(conv=>whnf);first|with_reducible (first|refine CD (aa q) ?_|refine CD (aa d) ?_|refine Bf.D (λb=>?_) (λb=>?_)|refine Bf.N (λb=>?_) (λb=>?_))|refine CJ rfl (aa d) rfl ?_|refine C8 a ?_)
    all_goals first
     | exact X0 (λz=>[B z]) ((F5 o r t).symm)
     
   rw[show gQ h (nth (aX h (nth h.K i).R) k)=(n:Nat) from e]at a;have K:=ao J;have F:=mI (nth h.K i) (nth h.K n);have g:m6 h i (nth (aX h (nth h.K i).R) k)=(decide ((n:Int)=(i:Nat)) || meshable (nth h.K i) (nth h.K n)):=by
    unfold m6;rw[show gQ h (nth (aX h (nth h.K i).R) k)=(n:Nat) from e,O0 (p:=(0:Int)<=(n:Nat)) ω];simp
   cases u:meshable (nth h.K i) (nth h.K n)<;>rw[u]at F
   all_goals
    repeat'(first|refine gE ?_|(conv=>whnf);with_reducible refine Bf.N (λb=>?_) (λb=>?_))
    all_goals first
     | exact X0 (λz=>[B z]) ((F5 o r (by rw[g,u];grind)).symm)
     | ((conv=>whnf);refine CE (k+1) ⟨ω,cW d E (by rw[g,u];grind)⟩ ω ?_;(exact wB))
     
  repeat'(first|refine gE ?_|fail)
  ((conv=>whnf);refine CE (i+1) ⟨ω,bU y (im ω E)⟩ ω ?_;(exact wB))
 obtain rfl:i=h.K.length:=ω
 repeat'(first|refine gE ?_|fail)
 exact X0 (λz=>[B z]) ((by unfold vF;rw[y]))
def Kt(j:cn)(b:cn.sml j):ar Tryz.prog 232 false [.val (some 5) (cn.enc .X j)] .one [B (qI j)]:=by
 have c:j.W.S.length<=1048576:=b;refine fO 30 [] Tryz.func232 rfl ?_
 repeat'(first|refine gP ?_|(conv=>whnf);with_reducible refine Bf.E (λa=>?_) (λa=>?_))
 all_goals exact X0 (λz=>[B z]) ((by unfold qI;first|(symm;exact U0 ω)|(rw[Y4,beq_iff_eq,C0];omega)))
def nu(sp:List ax)(la:List aB)(a:Int):((denotes sp la a).b6=1->0<=(denotes sp la a).c4/\(denotes sp la a).c4.toNat<sp.length)/\((denotes sp la a).b6=3->0<=(denotes sp la a).c4/\(denotes sp la a).c4.toNat<la.length):=by
 unfold denotes;cases c:sp.findIdx? (cy · a) with
 | some i=>
  obtain⟨b,-⟩:=C7.1 c;simp only[oJ];refine⟨λ_=>⟨ω,by simpa using b⟩,λe=>?_⟩;split at e<;>cases e
 | none=>
  cases d:la.findIdx? (bq · a) with
  | some i=>
   obtain⟨b,-⟩:=C7.1 d;exact⟨λe=>(by cases e),λ_=>⟨by simp,by simpa using b⟩⟩
  | none=>exact⟨λe=>(by cases e),λe=>(by cases e)⟩
def GW(h:ab)(a c:Int)(d:dS h.K)(e:dQ h.M)(b:bo h.K h.M=true)(k:nq a):ar Tryz.prog 377 false [.val (some 24) (ab.enc .X h),.val none [I a],.val none [I c]] .one [B (d9 h a c)]:=by
 have j:=n7 h.K h.M a d e b k;obtain⟨g,-⟩:=nu h.K h.M a;unfold d9;generalize denotes h.K h.M a=w at j g |-;refine fO 37 [] Tryz.func377 rfl ?_
 repeat'(first|refine gP ?_|(conv=>whnf);first|with_reducible (first|refine Bf.D (λi=>?_) (λi=>?_)|refine Bf.E (λi=>?_) (λi=>?_))|refine CM (g (by assumption)).1 (aa (ao (g (by assumption)).2)) ?_)
 all_goals exact X0 (λz=>[B z]) ((by grind))
def Bd(h:ab)(o:bt)(w:jN)(a:denotes h.K h.M o.Addr=w):jl h o=(decide (w.c5=0)&&((decide (w.b6=1)&&decide ((nth h.K w.c4.toNat).d=aJ o.u)) || (decide (w.b6=3)&&decide ((nth h.M w.c4.toNat).u=o.u)))):=by
 unfold jl;rw[a]
def jJ{h:ab}{i:Nat}(a:i<h.O.length)(b:objAt (IntKind.i64.wrap (h.a - 1)) h i=false):fL h=false:=cB a b
def Jm{a:Int}{h:ab}{i:Nat}(h1:ic a h i=false):objAt a h i=false:=by unfold objAt;rw[h1];rfl
def Jp{a:Int}{h:ab}{i:Nat}(h1:(h.O.take i).any (fp (nth h.O i).Id)=true):objAt a h i=false:=by unfold objAt;rw[h1];simp
def Kg{a:Int}{h:ab}{i:Nat}(h1:jl h (nth h.O i)=false):objAt a h i=false:=by unfold objAt;rw[h1];simp
def AH{a:Int}{h:ab}{i:Nat}(h1:ic a h i=true)(b:(h.O.take i).any (fp (nth h.O i).Id)=false)(c:jl h (nth h.O i)=true):objAt a h i=true:=by unfold objAt;rw[h1,b,c];rfl
def Hw(h:ab)(l:dS h.K)(n:dQ h.M)(g:bo h.K h.M=true)(K:h.O.length<=1048576)(L:h.T.length<=1048576)(H:∀o∈h.O,nq o.Addr):ar Tryz.prog 230 false [.val (some 24) (ab.enc .X h)] .one [B (fL h)]:=by
 refine fO 117 [(5,33,[21,22,23,24,25,26,27,28,29,30,31,32,33,34,35,36,37,38,39,40,41,42,43,44,45,46,47,48,49,50,51,52,53]),(10,9,[59,60,61,62,63,64,65,66,67]),(13,16,[75,76,77,78,79,80,81,82,83,84,85,86,87,88,89,90]),(14,15,[91,92,93,94,95,96,97,98,99,100,101,102,103,104,105])] Tryz.func230 rfl ?_
 repeat'(first|refine gP ?_|fail)
 (conv=>whnf)
 refine CF (ι:=Nat) (λi=>[(1,.H .box (ab.enc .X h)),(3,.H .one [I ((i:Nat):Int)])]) (λi=>i<=h.O.length/\df i (objAt (IntKind.i64.wrap (h.a - 1)) h)=true) (λi=>h.O.length - i) 0 ?_ ⟨W0 _,rfl⟩ λi t=>?_
 ·exact wB
 obtain⟨t,u⟩:=t;by_cases e:i<h.O.length
 ·have y:=ao e
  have C:=n7 h.K h.M (nth h.O i).Addr l n g (H _ (am e));obtain⟨p,q⟩:=nu h.K h.M (nth h.O i).Addr;have b:=Bd h (nth h.O i) _ rfl;generalize denotes h.K h.M (nth h.O i).Addr=w at C p q b;by_cases c:ic (IntKind.i64.wrap (h.a - 1)) h i=true
  ·have a:=c
   unfold ic at a;rw[C0]at a
   repeat'(first|refine gE ?_|(conv=>whnf);first|with_reducible refine Bf.D (λd=>?_) (λd=>?_)|refine CM ω (aa (gF ω e)) ?_|refine C8 (aH _ _ _) ?_|refine CN rfl ?_)
   all_goals
    (conv=>whnf)
    refine CF (ι:=Nat) (λk=>[(1,.H .box (ab.enc .X h)),(3,.H .one [I ((i:Nat):Int)]),(4,.H .box (bt.enc .X (nth h.O i))),(5,.H .one [I ((k:Nat):Int)])]) (λk=>k<=i/\(h.O.take k).any (fp (nth h.O i).Id)=false) (λk=>i - k) (0) ?_ (⟨W0 _,rfl⟩) λk F=>?_
    ·exact wB
    obtain⟨F,G⟩:=F;by_cases J:k<i
    ·have r:=ao (xs:=h.O) (i:=k) ω
     repeat'(first|refine gE ?_|(conv=>whnf);with_reducible refine Bf.E (λd=>?_) (λd=>?_))
     all_goals first
      | exact X0 (λz=>[B z]) ((jJ e (Jp (D3 (i:=k) (by rw[List.getElem?_take_of_lt J];exact r) (O0 (by assumption))))).symm)
      | ((conv=>whnf);refine CE (k+1) ⟨ω,yK r G (U0 (by assumption))⟩ ω ?_;(exact wB))
    obtain rfl:k=i:=ω
    repeat'(first|refine gE ?_|(conv=>whnf);first|with_reducible (first|refine Bf.E (λd=>?_) (λd=>?_)|refine Bf.N (λd=>?_) (λd=>?_))|refine CM (p (by assumption)).1 (aa (ao (p (by assumption)).2)) ?_|refine CM (q (by assumption)).1 (aa (ao (q (by assumption)).2)) ?_|refine C8 (kK _) ?_)
    all_goals first
     | exact X0 (λz=>[B z]) ((jJ e (Kg (by rw[b];grind))).symm)
     | ((conv=>whnf);refine CE (k+1) ⟨ω,bU u (AH c G (by rw[b];grind))⟩ ω ?_;(exact wB))
     
  have j:ic (IntKind.i64.wrap (h.a - 1)) h i=false:=by simpa using c
  have a:=j;unfold ic at a;rw[X4]at a
  repeat'(first|refine gE ?_|(conv=>whnf);first|with_reducible refine Bf.D (λd=>?_) (λd=>?_)|refine CM ω (aa (gF ω e)) ?_|refine C8 (aH _ _ _) ?_|refine CN rfl ?_)
  all_goals first
   | exact X0 (λz=>[B z]) ((jJ e (Jm j)).symm)
   
 obtain rfl:i=h.O.length:=ω
 repeat'(first|refine gE ?_|fail)
 exact X0 (λz=>[B z]) ((show true=fL h from u.symm))
def qv(o a:bt):ar Tryz.prog 248 false [.val (some 4) (bt.enc .X o),.ptr (bt.enc .X a)] .one [B (fp a.Id o)]:=by
 refine fO 9 [] Tryz.func248 rfl ?_
 repeat'(first|refine gP ?_|fail)
 exact X0 (λz=>[B z]) ((by unfold fp;rw[Y4];simp))
def E1(h:ab)(n:dS h.K)(o:dQ h.M)(J:h.O.length<=1048576)(K:h.T.length<=1048576):ar Tryz.prog 78 false [.val (some 24) (ab.enc .X h)] .one [B (fL h)]:=by
 refine fO 105 [(4,33,[16,17,18,19,20,21,22,23,24,25,26,27,28,29,30,31,32,33,34,35,36,37,38,39,40,41,42,43,44,45,46,47,48]),(9,16,[62,63,64,65,66,67,68,69,70,71,72,73,74,75,76,77]),(10,15,[78,79,80,81,82,83,84,85,86,87,88,89,90,91,92])] Tryz.func78 rfl ?_
 repeat'(first|refine gP ?_|fail)
 (conv=>whnf)
 refine CF (ι:=Nat) (λi=>[(1,.H .box (ab.enc .X h)),(9,.H .one (pQ .X h.O)),(10,.H .one [I (h.O.length)]),(11,.H .one [I ((i:Nat):Int)])]) (λi=>i<=h.O.length/\df i (objAt (IntKind.i64.wrap (h.a - 1)) h)=true) (λi=>h.O.length - i) 0 ?_ ⟨W0 _,rfl⟩ λi F=>?_
 ·exact wB
 obtain⟨F,G⟩:=F;by_cases g:i<h.O.length
 ·have p:=ao g
  have H:=tE h.K h.M (nth h.O i).Addr n o;obtain⟨q,t⟩:=nu h.K h.M (nth h.O i).Addr;have b:=Bd h (nth h.O i) _ rfl;generalize denotes h.K h.M (nth h.O i).Addr=w at H q t b;have j:=up (h.O.take i) (fp (nth h.O i).Id) (by rw[V1];omega);by_cases c:ic (IntKind.i64.wrap (h.a - 1)) h i=true
  ·have a:=c
   unfold ic at a;rw[C0]at a;cases d:(h.O.take i).any (fp (nth h.O i).Id)<;>rw[d]at j
   ·repeat'(first|refine gE ?_|(conv=>whnf);first|with_reducible (first|refine Bf.D (λe=>?_) (λe=>?_)|refine Bf.E (λe=>?_) (λe=>?_)|refine Bf.N (λe=>?_) (λe=>?_))|refine CM ω (aa (gF ω g)) ?_|refine C8 (aM _ _ _) ?_|refine CV i rfl (by simp;omega) (λr u=>by obtain⟨z,-,rfl⟩:=O4.1 u;rfl) (C4 ..) ?_|refine Cq.mk (Al (some 4) (bt.enc .X) (fp (nth h.O i).Id) (h.O.take i)) (qv default (nth h.O i)).has (λL k rcs C=>by obtain⟨y,-,rfl,rfl,rfl⟩:=C;exact qv y (nth h.O i)) ?_|refine CM (q (by assumption)).1 (aa (ao (q (by assumption)).2)) ?_|refine CM (t (by assumption)).1 (aa (ao (t (by assumption)).2)) ?_|refine C8 (Eb _) ?_|refine CN rfl ?_)
    all_goals first
     | exact X0 (λz=>[B z]) ((jJ g (Kg (by rw[b];grind))).symm)
     | ((conv=>whnf);refine CE (i+1) ⟨ω,bU G (AH c d (by rw[b];grind))⟩ ω ?_;(exact wB))
     
   repeat'(first|refine gE ?_|(conv=>whnf);first|with_reducible refine Bf.D (λe=>?_) (λe=>?_)|refine CM ω (aa (gF ω g)) ?_|refine C8 (aM _ _ _) ?_|refine CV i rfl (by simp;omega) (λr u=>by obtain⟨z,-,rfl⟩:=O4.1 u;rfl) (C4 ..) ?_|refine Cq.mk (Al (some 4) (bt.enc .X) (fp (nth h.O i).Id) (h.O.take i)) (qv default (nth h.O i)).has (λL k rcs C=>by obtain⟨y,-,rfl,rfl,rfl⟩:=C;exact qv y (nth h.O i)) ?_|refine CN rfl ?_)
   all_goals first
    | exact X0 (λz=>[B z]) ((jJ g (Jp d)).symm)
    
  have l:ic (IntKind.i64.wrap (h.a - 1)) h i=false:=by simpa using c
  have a:=l;unfold ic at a;rw[X4]at a
  repeat'(first|refine gE ?_|(conv=>whnf);first|with_reducible refine Bf.D (λe=>?_) (λe=>?_)|refine CM ω (aa (gF ω g)) ?_|refine C8 (aM _ _ _) ?_|refine CN rfl ?_)
  all_goals first
   | exact X0 (λz=>[B z]) ((jJ g (Jm l)).symm)
   
 obtain rfl:i=h.O.length:=ω
 repeat'(first|refine gE ?_|fail)
 exact X0 (λz=>[B z]) ((show true=fL h from G.symm))
set_option maxHeartbeats 8000000
def KU{sp:List ax}{la:List aB}{n:Nat}(h:kA sp la n=true):mh sp la (n+1)=mh sp la n++[(n:Int)]:=by
 unfold mh;rw[List.range_succ,List.filter_append,X5];simp[h]
def LR{sp:List ax}{la:List aB}{n:Nat}(h:kA sp la n=false):mh sp la (n+1)=mh sp la n:=by
 unfold mh;rw[List.range_succ,List.filter_append,X5];simp[h]
def Ay(sp:List ax)(la:List aB)(n:Nat):(mh sp la n).length<=n:=by
 unfold mh;rw[C1];exact Z4 (List.length_filter_le ..) (by simp)
def tH{sp:List ax}{la:List aB}{n:Nat}{w:jN}(a:denotes sp la (n:Nat)=w):kA sp la n=(decide (w.c5=0)&&(decide (w.b6=1) || decide (w.b6=3))):=by
 unfold kA;rw[a]
def QL{n:Nat}(h:n<=1048576):nq (n:Nat):=⟨ω,ω⟩
def yS(sp:List ax)(la:List aB)(c:dS sp)(d:dQ la)(a:bo sp la=true):ar Tryz.prog 378 false [.val none (bX .X sp),.val none (cx .X la)] .one (aD .own (ja sp la)):=by
 have g:=my sp la c d;rw[a]at g;refine fO 40 [] Tryz.func378 rfl ?_ (.inr (bH _))
 repeat'(first|refine gP ?_|fail)
 (conv=>whnf)
 refine CF (ι:=Nat) (λn=>[(0,.H .one (bX .X sp)),(1,.H .one (cx .X la)),(5,.H .one (aD .own (mh sp la n))),(6,.H .one [I ((n:Nat):Int)])]) (λn=>n<=512) (λn=>512 - n) (0) ?_ (W0 _) λn o=>?_
 ·exact wB
 have i:=Ay sp la n;by_cases p:n<512
 ·have h:=n7 sp la (n:Nat) c d a (QL ω)
  generalize j:denotes sp la (n:Nat)=w at h;have e:=tH j
  repeat'(first|refine gE ?_|(conv=>whnf);first|with_reducible refine Bf.E (λk=>?_) (λk=>?_)|refine CU co (λr l=>by rw[O1.1 l];rfl) (by simp[aZ,eD]) (by simp;omega) (by simp only[C1];exact zh (by simp;omega) (by decide)) rfl ?_)
  all_goals first
   |(have b:kA sp la n=true:=by rw[e];grind
     (conv=>whnf)
     refine CE (n+1) ω ω ?_;rw[KU b]
     (repeat'(first|exact trivial|rfl|exact CL rfl (CL (X0 (C.s dY.own) (by simp[rI])) trivial)|refine CL ?_ ?_)))
   |(have b:kA sp la n=false:=by rw[e];grind
     (conv=>whnf)
     refine CE (n+1) ω ω ?_;rw[LR b]
     (exact wA))
 obtain rfl:n=512:=ω
 repeat'(first|refine gE ?_|(conv=>whnf);refine C8 g ?_)
 rfl
def xV(m:aK)(a:m.a1.length=m.U.length):∀i,i<=m.U.length->(((flight1 m i).length+(flight2 m i).length:Nat):Int)=bx m i
 | 0,_=>rfl
 | i+1,h=>by
  have d:=xV m a i ω;have b:=ao (xs:=m.U) (i:=i) ω;have c:=ao (xs:=m.a1) (i:=i) ω;rw[oo b,nG c];simp only[O3,C1];show _=bx m i+((nth m.U i).length+(nth m.a1 i).length);omega
def si{m:aK}(h:bO m=true):(aN m).length<=30:=by
 have a:=n9 h;have b:=xV m a.2.2 m.U.length (C3 _);have c:bx m m.U.length<=30:=by
  unfold bO at h;simp only[I0,C0]at h;exact h.2
 rw[oT h,O3,a.2.2];omega
def FJ{m:aK}(d:aK.wf m):∀a∈aN m,nq a:=by
 intro a b;unfold aN at b;split at b
 ·rcases z3.1 b with h|h
  ·obtain⟨l,c,h⟩:=List.mem_flatMap.1 h
   obtain⟨p,e,rfl⟩:=O4.1 h;exact((d.1.2 l c).2 p e).2
  obtain⟨l,c,h⟩:=List.mem_flatten.1 h;exact(d.2.2 l c).2 a h
 cases b
def KO{h:ab}(h1:h.T.all (fw h)=false):jo h=false:=by unfold jo iE;rw[h1];rfl
def K8{h:ab}(h1:h.a9.a6.all (iA h)=false):jo h=false:=by unfold jo iE;rw[h1];simp
def K7{h:ab}(h1:(aN h.y).all (kM h)=false):jo h=false:=by unfold jo iE;rw[h1];simp
def KX{h:ab}{i:Nat}(a:i<(holders h).length)(b:nth (holders h) i∈(holders h).take i):jo h=false:=by
 have c:decide (holders h).Nodup=false:=M6 (S:=(holders h).take i) (p:=nth (holders h) i) (by
   have:=ao a;have e:(holders h).take i++[nth (holders h) i]=(holders h).take (i+1):=by rw[V5,this];rfl
   rw[e];exact List.take_prefix ..) b
 unfold jo;rw[c];simp
def vI{h:ab}{i:Nat}{c:aE}(a:h.T[i]? = some c):((h.T.take (i+1)).flatMap λc=>c.b.flatten)=((h.T.take i).flatMap λc=>c.b.flatten)++c.b.flatten:=by
 rw[V5,a,List.flatMap_append];simp
def xR{c:aE}{k:Nat}{l:List Int}(a:c.b[k]? = some l):(c.b.take (k+1)).flatten=(c.b.take k).flatten++l:=by
 rw[V5,a,List.flatten_append];simp
def HB(h:ab)(hs:ab.sml h)(hw:ab.wf h)(y:bo h.K h.M=true)(G:bO h.y=true)(hco:∀c∈h.T,bA c=true):ar Tryz.prog 231 false [.val (some 24) (ab.enc .X h)] .one [B (jo h)]:=by
 obtain⟨-,-,N,O,hso,hsc,hsm,hsq,-⟩:=hs;obtain⟨-,-,-,-,-,hwc,hwm,hwq,-⟩:=hw;have hlo:h.O.length<=1048576:=hso.1;have hlc:h.T.length<=1048576:=hsc.1;have hlq:h.a9.a6.length<=1048576:=hsq.1;have hfl:=si G;have hfw:=FJ hwm;have H:∀a c,nq a->ar Tryz.prog 377 false [.val (some 24) (ab.enc .X h),.val none [I a],.val none [I c]] .one [B (d9 h a c)]:=λa c ha=>GW h a c N O y ha
 refine fO 159 [(16,8,[63,64,65,66,67,68,69,70]),(22,17,[86,87,88,89,90,91,92,93,94,95,96,97,98,99,100,101,102]),(29,7,[122,123,124,125,126,127,128]),(35,8,[142,143,144,145,146,147,148,149])] Tryz.func231 rfl ?_
 repeat'(first|refine gP ?_|fail)
 (conv=>whnf)
 refine CF (ι:=Nat × List Int) (λi=>[(1,.H .box (ab.enc .X h)),(3,.H .one (aD .own i.2)),(4,.H .one [I ((i.1:Nat):Int)])]) (λi=>i.1<=h.O.length/\i.2=(h.O.take i.1).map (·.Addr)) (λi=>h.O.length - i.1) ((0,[])) ?_ (⟨W0 _,rfl⟩) λi E=>?_
 ·exact wB
 obtain⟨i,S⟩:=i;obtain⟨E,M⟩:=E;simp only at E M |-;have hSl:S.length=i:=by rw[M,C1,V1];omega
 by_cases li:i<h.O.length
 ·have t:=ao li
  repeat'(first|refine gE ?_|(conv=>whnf);refine CU co (λr u=>by rw[O1.1 u];rfl) (by simp[aZ,eD]) (by simp;omega) (by simp only[C1];exact zh (by simp;omega) (by decide)) rfl ?_)
  ((conv=>whnf)
   refine CE (i+1,S++[(nth h.O i).Addr]) ⟨(by simp only;omega),(by simp only;rw[M,V5,t];simp)⟩ (by simp only;omega) ?_
   (repeat'(first|exact trivial|rfl|exact CL rfl (CL (X0 (C.s dY.own) (by simp[rI])) trivial)|refine CL ?_ ?_)))
 obtain rfl:i=h.O.length:=ω
 rw[C5]at M
 repeat'(first|refine gE ?_|fail)
 (conv=>whnf)
 refine CF (ι:=Nat × List Int) (λi=>[(1,.H .box (ab.enc .X h)),(3,.H .one (aD .own i.2)),(5,.H .one [I ((i.1:Nat):Int)])]) (λi=>i.1<=h.T.length/\i.2=S++((h.T.take i.1).flatMap λc=>c.b.flatten)/\(h.T.take i.1).all (fw h)=true/\i.2.length<=1048576+32*i.1) (λi=>h.T.length - i.1) ((0,S)) ?_ (⟨W0 _,by simp,rfl,by simp only;omega⟩) λi E=>?_
 ·exact wB
 obtain⟨i,S2⟩:=i;obtain⟨hi2,n,U,P⟩:=E;simp only at hi2 n U P |-;by_cases li2:i<h.T.length
 ·have t:=ao li2
  obtain⟨h4,h8⟩:=vP (hco _ (am li2));have hwl:=hwc.2 _ (am li2)
  repeat'(first|refine gE ?_|(conv=>whnf);with_reducible refine CD (aa t) ?_)
  (conv=>whnf)
  refine CF (ι:=Nat × List Int) (λk=>[(1,.H .box (ab.enc .X h)),(3,.H .one (aD .own k.2)),(5,.H .one [I ((i:Nat):Int)]),(6,.H .one [I ((k.1:Nat):Int)])]) (λk=>k.1<=(nth h.T i).b.length/\k.2=S2++((nth h.T i).b.take k.1).flatten/\df k.1 (tK h (nth h.T i))=true/\k.2.length<=S2.length+8*k.1) (λk=>(nth h.T i).b.length - k.1) ((0,S2)) ?_ (⟨W0 _,by simp,rfl,by simp⟩) λk hk=>?_
  ·exact wB
  obtain⟨k,V⟩:=k;obtain⟨hk,w,ak,hb3⟩:=hk;simp only at hk w ak hb3 |-;by_cases W:k<(nth h.T i).b.length
  ·have hy:=ao W
   have hl8:=h8 _ (am W);have hwa:=(hwl.2 _ (am W)).2
   repeat'(first|refine gE ?_|(conv=>whnf);first|with_reducible (first|refine CD (aa t) ?_|refine CD (aa hy) ?_))
   (conv=>whnf)
   refine CF (ι:=Nat × List Int) (λj=>[(1,.H .box (ab.enc .X h)),(3,.H .one (aD .own j.2)),(5,.H .one [I ((i:Nat):Int)]),(6,.H .one [I ((k:Nat):Int)]),(7,.H .one (aD .X (nth (nth h.T i).b k))),(8,.H .one [I ((j.1:Nat):Int)])]) (λj=>j.1<=(nth (nth h.T i).b k).length/\j.2=V++(nth (nth h.T i).b k).take j.1/\((nth (nth h.T i).b k).take j.1).all (λa=>d9 h a (k:Nat))=true) (λj=>(nth (nth h.T i).b k).length - j.1) ((0,V)) ?_ (⟨W0 _,by simp,rfl⟩) λj hj=>?_
   ·exact wB
   obtain⟨j,S4⟩:=j;obtain⟨hj,o,X⟩:=hj;simp only at hj o X |-;have hl4:S4.length=V.length+j:=by rw[o,O3,V1];omega
   by_cases Y:j<(nth (nth h.T i).b k).length
   ·have d:=ao Y
    have b:=H (nth (nth (nth h.T i).b k) j) (k:Nat) (hwa _ (am Y));cases p:d9 h (nth (nth (nth h.T i).b k) j) (k:Nat)<;>rw[p]at b
    ·repeat'(first|refine gE ?_|(conv=>whnf);first|with_reducible refine CD (aa d) ?_|refine C8 b ?_)
     exact X0 (λz=>[B z]) ((KO (fo t (by unfold fw;exact cB W (fo d p)))).symm)
    repeat'(first|refine gE ?_|(conv=>whnf);refine CU co (λr u=>by rw[O1.1 u];rfl) (by simp[aZ,eD]) (by simp;omega) (by show _*8<=_;simp;omega) rfl ?_)
    ((conv=>whnf)
     refine CE (j+1,S4++[nth (nth (nth h.T i).b k) j]) ⟨(by simp only;omega),(by simp only;rw[o,V5,d,W5];rfl),cW d X p⟩ (by simp only;omega) ?_
     (repeat'(first|exact trivial|rfl|exact CL rfl (CL (X0 (C.s dY.own) (by simp[rI])) trivial)|refine CL ?_ ?_)))
   obtain rfl:j=(nth (nth h.T i).b k).length:=ω
   rw[C5]at o X
   repeat'(first|refine gE ?_|fail)
   ((conv=>whnf);refine CE (k+1,S4) ⟨(by simp only;omega),(by simp only;rw[o,w,xR hy,W5]),bU ak X,(by simp only;omega)⟩ (by simp only;omega) ?_;(exact wB))
  obtain rfl:k=(nth h.T i).b.length:=ω
  rw[C5]at w
  repeat'(first|refine gE ?_|(conv=>whnf);with_reducible refine CD (aa t) ?_)
  ((conv=>whnf);refine CE (i+1,V) ⟨(by simp only;omega),(by simp only;rw[w,n,vI t,W5]),cW t U ak,(by simp only;omega)⟩ (by simp only;omega) ?_;(exact wB))
 obtain rfl:i=h.T.length:=ω
 rw[C5]at n U
 repeat'(first|refine gE ?_|fail)
 (conv=>whnf)
 refine CF (ι:=Nat × List Int) (λq=>[(1,.H .box (ab.enc .X h)),(3,.H .one (aD .own q.2)),(9,.H .one [I ((q.1:Nat):Int)])]) (λq=>q.1<=h.a9.a6.length/\q.2=S2++(h.a9.a6.take q.1).map (·.Addr)/\(h.a9.a6.take q.1).all (iA h)=true) (λq=>h.a9.a6.length - q.1) ((0,S2)) ?_ (⟨W0 _,by simp,rfl⟩) λq Q=>?_
 ·exact wB
 obtain⟨q,R⟩:=q;obtain⟨J,g,Z⟩:=Q;simp only at J g Z |-;have hl5:R.length=S2.length+q:=by rw[g,O3,C1,V1];omega
 by_cases T:q<h.a9.a6.length
 ·have d:=ao T
  have b:=H (nth h.a9.a6 q).Addr (nth h.a9.a6 q).d (hwq.2.2 _ (am T)).1;cases p:d9 h (nth h.a9.a6 q).Addr (nth h.a9.a6 q).d<;>rw[p]at b
  ·repeat'(first|refine gE ?_|(conv=>whnf);first|with_reducible refine CD (aa d) ?_|refine C8 b ?_)
   exact X0 (λz=>[B z]) ((K8 (fo d p)).symm)
  repeat'(first|refine gE ?_|(conv=>whnf);refine CU co (λr u=>by rw[O1.1 u];rfl) (by simp[aZ,eD]) (by simp;omega) (by show _*8<=_;simp;omega) rfl ?_)
  ((conv=>whnf)
   refine CE (q+1,R++[(nth h.a9.a6 q).Addr]) ⟨(by simp only;omega),(by simp only;rw[g,V5,d,X5,W5];rfl),cW d Z p⟩ (by simp only;omega) ?_
   (repeat'(first|exact trivial|rfl|exact CL rfl (CL (X0 (C.s dY.own) (by simp[rI])) trivial)|refine CL ?_ ?_)))
 obtain rfl:q=h.a9.a6.length:=ω
 rw[C5]at g Z
 repeat'(first|refine gE ?_|(conv=>whnf);refine C8 (Ag h.y hsm) ?_)
 (conv=>whnf)
 refine CF (ι:=Nat × List Int) (λq=>[(1,.H .box (ab.enc .X h)),(3,.H .one (aD .own q.2)),(10,.H .one (aD .own (aN h.y))),(11,.H .one [I ((q.1:Nat):Int)])]) (λq=>q.1<=(aN h.y).length/\q.2=R++(aN h.y).take q.1/\((aN h.y).take q.1).all (kM h)=true) (λq=>(aN h.y).length - q.1) ((0,R)) ?_ (⟨W0 _,by simp,rfl⟩) λq Q=>?_
 ·exact wB
 obtain⟨q,e⟩:=q;obtain⟨J,l,aq6⟩:=Q;simp only at J l aq6 |-;have hl6:e.length=R.length+q:=by rw[l,O3,V1];omega
 by_cases T:q<(aN h.y).length
 ·have d:=ao T
  have b:=H (nth (aN h.y) q) (-1) (hfw _ (am T));cases p:d9 h (nth (aN h.y) q) (-1)<;>rw[p]at b
  ·repeat'(first|refine gE ?_|(conv=>whnf);first|with_reducible refine CD (aa d) ?_|refine CJ rfl (aa d) rfl ?_|refine C8 b ?_)
   exact X0 (λz=>[B z]) ((K7 (fo d p)).symm)
  repeat'(first|refine gE ?_|(conv=>whnf);refine CU co (λr u=>by rw[O1.1 u];rfl) (by simp[aZ,eD]) (by simp;omega) (by show _*8<=_;simp;omega) rfl ?_)
  ((conv=>whnf)
   refine CE (q+1,e++[nth (aN h.y) q]) ⟨(by simp only;omega),(by simp only;rw[l,V5,d,W5];rfl),cW d aq6 p⟩ (by simp only;omega) ?_
   (repeat'(first|exact trivial|rfl|exact CL rfl (CL (X0 (C.s dY.own) (by simp[rI])) trivial)|refine CL ?_ ?_)))
 obtain rfl:q=(aN h.y).length:=ω
 rw[C5]at l aq6;have F:e=holders h:=by rw[l,g,n,M];rfl
 have K:iE h=true:=by unfold iE;rw[U,Z,aq6];rfl
 have hbig:e.length<=100000000:=ω
 clear l g n M hSl hl5 P hl6
 repeat'(first|refine gE ?_|fail)
 (conv=>whnf)
 refine Lp.fz 3 (ι:=Nat) (λi=>[(1,.H .box (ab.enc .X h)),(3,.H .one (aD .X e)),(12,.H .one [I ((i:Nat):Int)])]) (λi=>i<=e.length/\(e.take i).Nodup) (λi=>e.length - i) 0 ?_ ⟨W0 _,by simp⟩ λi E=>?_
 ·(repeat'(first|exact trivial|rfl|exact CL rfl (show M0 (eG (aD .own e)) (aD .X e) by rw[eg];exact mP _)|refine CL ?_ ?_))
 obtain⟨E,L⟩:=E;by_cases Y:i<e.length
 ·have d:=ao Y
  have htl:(e.take i).length=i:=by rw[V1];omega
  repeat'(first|refine gE ?_|(conv=>whnf);first|with_reducible refine Bf.D (λQ=>?_) (λQ=>?_)|refine CV i rfl (by simp;omega) (λr u=>by obtain⟨z,-,rfl⟩:=O4.1 u;rfl) (C4 ..) ?_|refine C8 (mT (e.take i) _ ω) ?_)
  all_goals first
   | exact X0 (λz=>[B z]) ((by rw[F]at *;exact(KX (by assumption) (by assumption)).symm))
   | ((conv=>whnf);refine CE (i+1) ⟨ω,by rw[V5,d];exact lO L (by assumption)⟩ ω ?_;(exact wB))
 obtain rfl:i=e.length:=ω
 rw[C5]at L;have hlv:=Ay h.K h.M 512
 repeat'(first|refine gE ?_|(conv=>whnf);refine C8 (yS h.K h.M N O y) ?_)
 exact X0 (λz=>[B z]) ((by unfold jo;rw[K,<-F,O0 L,Bool.true_and,Bool.true_and];rw[Y4,beq_iff_eq,C0];unfold ja at *;omega))
set_option maxHeartbeats 8000000
def dw(h:ab):Bool:=(bO h.y&&decide (h.T.length=h.y.U.length))&&gC h.a9
def dA(h:ab):Bool:=((((((lR h&&vF h)&&dw h)&&kS h)&&h.T.all bA)&&cj h)&&(fL h&&jo h))&&rg h
def vU(h:ab)(hs:ab.sml h)(hw:ab.wf h):ar Tryz.prog 70 false [.val (some 24) (ab.enc .X h)] .one [B (dA h)]:=by
 have R:=hs;have S:=hw;obtain⟨w,y,b,l,T,C,E,F,G⟩:=hs;obtain⟨-,-,-,-,U,hwc,hwm,hwq,-⟩:=hw;have n:yN h:=w.1.2;have hpn:eQ h<=1048576:=n.1;have V:h.O.length<=1048576:=T.1;have W:h.T.length<=1048576:=C.1;have hlq:h.a9.a6.length<=1048576:=F.1;have hlb:h.y.U.length<=1048576:=E.1.1;have d:=mz h.G w;have e:=mE (eQ h) h.q ⟨ω,ω⟩ y;have g:=my h.K h.M b l;have r:=BI h b n;have H:=mj h.y E;have X:=pF h.a9 F;cases Y:ay h.G<;>rw[Y]at d
 ·refine fO 150 [(8,10,[67,68,69,70,71,72,73,74,75,76])] Tryz.func70 rfl ?_
  repeat'(first|refine gP ?_|(conv=>whnf);first|with_reducible refine Bf.N (λa=>?_) (λa=>?_)|refine C8 d ?_)
  all_goals first
   | exact X0 (λz=>[B z]) ((by unfold dA lR;rw[Y];simp))
   
 cases Z:bC (eQ h) h.q<;>rw[Z]at e
 ·refine fO 150 [(8,10,[67,68,69,70,71,72,73,74,75,76])] Tryz.func70 rfl ?_
  repeat'(first|refine gP ?_|(conv=>whnf);first|with_reducible refine Bf.N (λa=>?_) (λa=>?_)|refine C8 d ?_|refine C8 e ?_)
  all_goals first
   | exact X0 (λz=>[B z]) ((by unfold dA lR;rw[Z];simp))
   
 cases u:bo h.K h.M<;>rw[u]at g
 ·refine fO 150 [(8,10,[67,68,69,70,71,72,73,74,75,76])] Tryz.func70 rfl ?_
  repeat'(first|refine gP ?_|(conv=>whnf);first|with_reducible refine Bf.N (λa=>?_) (λa=>?_)|refine C8 d ?_|refine C8 e ?_|refine C8 g ?_)
  all_goals first
   | exact X0 (λz=>[B z]) ((by unfold dA lR;rw[u];simp))
   
 have p:=Gi h b l n y u;cases e4:pages0 h<;>rw[e4]at p
 ·refine fO 150 [(8,10,[67,68,69,70,71,72,73,74,75,76])] Tryz.func70 rfl ?_
  repeat'(first|refine gP ?_|(conv=>whnf);first|with_reducible refine Bf.N (λa=>?_) (λa=>?_)|refine C8 d ?_|refine C8 e ?_|refine C8 g ?_|refine C8 p ?_)
  all_goals first
   | exact X0 (λz=>[B z]) ((by unfold dA lR;rw[e4];simp))
   
 cases e5:vF h<;>rw[e5]at r
 ·refine fO 150 [(8,10,[67,68,69,70,71,72,73,74,75,76])] Tryz.func70 rfl ?_
  repeat'(first|refine gP ?_|(conv=>whnf);first|with_reducible refine Bf.N (λa=>?_) (λa=>?_)|refine C8 d ?_|refine C8 e ?_|refine C8 g ?_|refine C8 p ?_|refine C8 r ?_)
  all_goals first
   | exact X0 (λz=>[B z]) ((by unfold dA ;rw[e5];simp))
   
 cases Q:bO h.y<;>rw[Q]at H
 ·refine fO 150 [(8,10,[67,68,69,70,71,72,73,74,75,76])] Tryz.func70 rfl ?_
  repeat'(first|refine gP ?_|(conv=>whnf);first|with_reducible refine Bf.N (λa=>?_) (λa=>?_)|refine C8 d ?_|refine C8 e ?_|refine C8 g ?_|refine C8 p ?_|refine C8 r ?_|refine C8 H ?_)
  all_goals first
   | exact X0 (λz=>[B z]) ((by unfold dA dw;rw[Q];simp))
   
 by_cases J:h.T.length=h.y.U.length;rotate_left
 ·refine fO 150 [(8,10,[67,68,69,70,71,72,73,74,75,76])] Tryz.func70 rfl ?_
  repeat'(first|refine gP ?_|(conv=>whnf);with_reducible refine Bf.N (λa=>?_) (λa=>?_))
  all_goals first
   | exact X0 (λz=>[B z]) ((by unfold dA dw;rw[U0 J];simp))
   |(exfalso;omega)
 cases e7:gC h.a9<;>rw[e7]at X
 ·refine fO 150 [(8,10,[67,68,69,70,71,72,73,74,75,76])] Tryz.func70 rfl ?_
  repeat'(first|refine gP ?_|(conv=>whnf);with_reducible refine Bf.N (λa=>?_) (λa=>?_))
  all_goals first
   | exact X0 (λz=>[B z]) ((by unfold dA dw;rw[e7];simp))
   
 have K:lR h=true:=by unfold lR;rw[Y,Z,u,e4];rfl
 have hmc:dw h=true:=by unfold dw;rw[Q,O0 J,e7];rfl
 refine fO 150 [(8,10,[67,68,69,70,71,72,73,74,75,76])] Tryz.func70 rfl ?_
 repeat'(first|refine gB ?_|(conv=>whnf);first|with_reducible refine Bf.N (λa=>?_) (λa=>?_)|refine C8 d ?_|refine C8 e ?_|refine C8 g ?_|refine C8 p ?_|refine C8 r ?_|refine C8 H ?_|refine C8 X ?_)
 all_goals try(exfalso;omega)
 (conv=>whnf)
 refine CF (ι:=Nat) (λi=>[(1,.H .box (ab.enc .X h)),(3,.H .one [I ((i:Nat):Int)])]) (λi=>i<=h.a9.a6.length/\(h.a9.a6.take i).all (λx=>decide (x.b7<=h.b3))=true) (λi=>h.a9.a6.length - i) (0) ?_ (⟨W0 _,rfl⟩) λi hi=>?_
 ·exact wB
 obtain⟨hi,ai⟩:=hi;by_cases li:i<h.a9.a6.length
 ·have j:=ao li
  repeat'(first|refine gE ?_|(conv=>whnf);with_reducible refine Bf.D (λa=>?_) (λa=>?_))
  all_goals first
   | exact X0 (λz=>[B z]) ((by unfold dA kS;rw[fo j (U0 ω)];simp))
   | ((conv=>whnf);refine CE (i+1) ⟨ω,cW j ai (O0 ω)⟩ ω ?_;(exact wB))
 have hsi:kS h=true:=im ω ai
 repeat'(first|refine gE ?_|fail)
 (conv=>whnf)
 refine CF (ι:=Nat) (λk=>[(1,.H .box (ab.enc .X h)),(4,.H .one [I ((k:Nat):Int)])]) (λk=>k<=h.T.length/\(h.T.take k).all bA=true) (λk=>h.T.length - k) (0) ?_ (⟨W0 _,rfl⟩) λk hk=>?_
 ·exact wB
 obtain⟨hk,ak⟩:=hk;by_cases lk:k<h.T.length
 ·have j:=ao lk
  have c8:=nO (nth h.T k) (C.2 _ (am lk));cases e8:bA (nth h.T k)<;>rw[e8]at c8
  ·repeat'(first|refine gE ?_|(conv=>whnf);first|with_reducible refine CD (aa j) ?_|refine C8 c8 ?_)
   exact X0 (λz=>[B z]) ((by unfold dA;rw[fo j e8];simp))
  repeat'(first|refine gE ?_|(conv=>whnf);first|with_reducible refine CD (aa j) ?_|refine C8 c8 ?_)
  ((conv=>whnf);refine CE (k+1) ⟨ω,cW j ak e8⟩ ω ?_;(exact wB))
 have L:h.T.all bA=true:=im ω ak;have q:=Hw h b l u V W (λo ho=>(U.2 o ho).2.1);have c10:=HB h R S u Q (v4.1 L);have c11:=Kt h.Y G;have c12:=yj h.Y G;have c13:=kv h h.Y.W.a2 b.1;have c14:=kv h h.Y.W.a0 b.1;by_cases hn:cj h=true;rotate_left
 ·have M:cj h=false:=by simpa using hn
  have c:=M;unfold cj at c;rw[X4]at c;cases O:fL h<;>rw[O]at q<;>cases e10:jo h<;>rw[e10]at c10
  all_goals
   repeat'(first|refine gE ?_|(conv=>whnf);first|with_reducible refine Bf.D (λa=>?_) (λa=>?_)|refine C8 (aH _ _ _) ?_)
   all_goals first
    | exact X0 (λz=>[B z]) ((by unfold dA;rw[M];simp))
    
 have c:=hn;unfold cj at c;rw[C0]at c;cases O:fL h<;>rw[O]at q
 ·repeat'(first|refine gE ?_|(conv=>whnf);refine C8 (aH _ _ _) ?_)
  all_goals first
   | exact X0 (λz=>[B z]) ((by unfold dA;rw[O];simp))
   
 cases e10:jo h<;>rw[e10]at c10
 ·repeat'(first|refine gE ?_|(conv=>whnf);refine C8 (aH _ _ _) ?_)
  all_goals first
   | exact X0 (λz=>[B z]) ((by unfold dA;rw[e10];simp))
   
 have P:dA h=rg h:=by unfold dA;rw[K,e5,hmc,hsi,L,hn,O,e10];rfl
 rw[P];unfold rg;cases em:h.o
 ·repeat'(first|refine gE ?_|(conv=>whnf);first|refine C8 (aH _ _ _) ?_|refine Bf.f em ?_)
  all_goals first
   |rfl
   
   
 cases e12:j9 h.Y<;>rw[e12]at c12
 all_goals
  repeat'(first|refine gE ?_|(conv=>whnf);first|with_reducible refine Bf.D (λa=>?_) (λa=>?_)|refine C8 (aH _ _ _) ?_|refine Bf.t em ?_)
  all_goals first
   | exact X0 (λz=>[B z]) ((by grind))
   
def sorted(xs:List Int):List Int:=xs.mergeSort λx y=>decide (x<=y)
def yi(xs:List Int):(sorted xs).length=xs.length:=List.length_mergeSort ..
def Hy{w a:World}{g n:Nat}{d:Array Int}{f:Array Obj}{c:Array Value}{e:TypeId}{k:Nat × Nat}(l:w.heap[g]? = some (.cells c e k))(p:a=Sort.grow (Sort.putRow (Value.int .i64) (Sort.ahead w n) g 0 d) f) :
  a.os=w.os/\a.tape=w.tape/\a.output=w.output/\w.heap.size<=a.heap.size/\(∀b,b<w.heap.size->b≠g->a.heap[b]? = w.heap[b]?)/\a.heap[g]? = some (.cells (Sort.putCells (Value.int .i64) 0 d c) e k):=by
 subst p;have h:g<w.heap.size:=(V3.1 l).1;have o:∀b,b<w.heap.size->(Sort.grow (Sort.putRow (Value.int .i64) (Sort.ahead w n) g 0 d) f).heap[b]? = if g=b then(w.heap[b]?).map (Sort.onCells (Sort.putCells (Value.int .i64) 0 d)) else w.heap[b]?:=λb i=>by
  rw[Sort.heap_grow_old _ _ (by simpa[Sort.putRow,Sort.mapBlock,Sort.ahead] using i)];show(w.heap.modify g _)[b]? = _;rw[Array.getElem?_modify]
 refine⟨rfl,rfl,rfl,?_,λb i j=>?_,?_⟩
 ·show w.heap.size<=((w.heap.modify g _)++f).size
  simp
 ·rw[o b i,C9 λe=>j e.symm]
 rw[o g h,CB rfl,l];rfl
def PC(d:Array Int)(c:Array Value)(q:Nat):(Sort.putCells (Value.int .i64) 0 d c)[q]? = if q<d.size then(c[q]?).map (λ_=>.int .i64 d[q]!) else c[q]?:=by
 unfold Sort.putCells;rw[Array.getElem?_mapIdx];by_cases h:q<d.size
 ·rw[CB h]
  cases c[q]? with
  | none=>rfl
  | some y=>simp[h]
 rw[C9 h];cases c[q]? with
 | none=>rfl
 | some y=>simp[h]
def row1{w:World}{S Y:ah}{c:C}{v:Value}(h:fg w S Y c v):cV w S Y [c] (λ_=>v):=by
 refine⟨λ_=>Y,λj e a=>?_,λ_ _ _ _ h=>h,λj f a b d=>?_⟩
 ·cases j with
  | zero=>simp at a;subst a;exact h
  | succ j=>simp at a
 simp at a b;omega
def Uc(Y:ah):Nat->ah
 | 0=>Y
 | _+1=>NO
def FF(xs:List Int){j:Nat}(a:j<xs.length):xs.toArray[j]! = xs[j]:=by
 rw[getElem!_pos xs.toArray j (by simpa using a)];simp
def PZ(xs:List Int)(hl:xs.length<=1048576*64):aT Tryz.prog 393 false [.mut none (aD .own xs)] [.mut none (aD .own (sorted xs))] (.tup []) []:=by
 refine⟨⟨_,Tryz.func393,by kernel_rfl,by kernel_rfl⟩,λw S V vs hS hV hVV hA=>?_⟩
 match vs,hA with
 | [v],⟨hA,_⟩=>
  have E:=bM.rep1 (show bM w S (V 0) none [C.s .own (xs.map (rI .own))] v from hA);generalize D:C.s .own (xs.map (rI .own))=cc at E;cases E with
  | nil _ o a ho=>
   cases R:xs with
   | cons x xs'=>rw[R]at D;cases D
   | nil=>
    refine(Tryz.slices_Sort_int_none a 0 w).mono λe d ⟨he,G⟩=>?_
    subst G;refine⟨.tuple #[],he,CZ _ _,NO,λ_=>NO,NO,λ_ _ h=>h.elim,λ_ _ _ h=>h.elim,λ_ _ h=>h.elim,λ_ _ _ _ _ h=>h.elim,λ_ _ _ h=>h.elim,λ_ _ h=>h.elim,λ_ _ _ h=>h.elim,⟨#[],rfl,trivial,rfl⟩,cV.nil _ _ _ _,⟨⟨rfl,λ_=>.slice a 0 0,rfl,row1 (by rw[show sorted []=[] from List.mergeSort_nil ..];exact .nil _ .own _ trivial)⟩,trivial⟩⟩
  | own _ o g k n H rows u f ho O hk T U W hu hf hd hc=>
   cases D;have hnx:n=xs.length:=by rw[<-O,C1]
   have X:0<xs.length:=ω
   have hk1:k=1:=by
    have:=hk (rI .own xs[0]) (O4.2 ⟨_,List.getElem_mem X,rfl⟩);exact this.symm
   subst hk1 hnx;have t:∀j (y:j<xs.length),cel w g j=some (.int .i64 xs[j]):=λj y=>by
    have J:=hu j ω;have Y:=hc j 0 (rI .own xs[j]) (I xs[j]) (by rw[I3,I2 y];rfl) rfl;rw[Nat.mul_one,Nat.add_zero]at Y;rw[J];generalize u j=z at Y;cases Y
    rfl
   have hgs:g<w.heap.size:=(hV 0 g 0 (W 0 ω).1).1;obtain⟨c,e0,fr,hg,-⟩:=Sort.cells_of_cell? (t 0 X);have hH:Sort.Holds (Value.int .i64) w g 0 xs.toArray:=λj y=>by
    have Z:j<xs.length:=by simpa using y
    refine⟨?_,?_⟩
    ·rw[FF xs Z,Z6];exact t j Z
    rw[Z6];exact X0 Prod.fst (W j ω).2.2
   refine(Tryz.slices_Sort_int g 0 H xs w hH hgs ω).mono λe d ⟨he,m,os,G⟩=>?_
   obtain⟨q1,q2,q3,q4,q5,q6⟩:=Hy hg G;have hsl:=yi xs;have B:∀q,cel w g q=c[q]?:=λq=>by show World.cell? w _=_;unfold World.cell?;simp[hg]
   have l:∀q,cel d g q=if q<xs.length then(c[q]?).map (λ_=>.int .i64 (sorted xs).toArray[q]!) else c[q]?:=λq=>by
    have J:=PC (sorted xs).toArray c q;have Y:(sorted xs).toArray.size=xs.length:=by simpa using hsl
    rw[Y]at J;rw[<-J];show World.cell? d _=_;unfold World.cell?;simp[q6,sorted]
   have p:∀q (P:q<xs.length),cel d g q=some (.int .i64 ((sorted xs)[q]'(ω))):=λq P=>by
    have J:=t q P;rw[B]at J;rw[l,CB P,J,I5,FF (sorted xs) ω]
   have F:∀q,fro d g q=fro w g q:=λq=>by
    refine Prod.ext ?_ ?_
    ·show World.frozen? d _=World.frozen? w _
     unfold World.frozen?;simp[q6,hg]
    show mp d g=mp w g;unfold mp;rw[q6,hg];simp only[Sort.putCells,Array.size_mapIdx]
   have hother:∀b,b<w.heap.size->b≠g->∀o,cel d b o=cel w b o/\fro d b o=fro w b o:=λb K L o=>by
    have M:=q5 b K L;refine⟨?_,Prod.ext ?_ ?_⟩
    ·show World.cell? d _=World.cell? w _
     unfold World.cell?;simp only[M]
    ·show World.frozen? d _=World.frozen? w _
     unfold World.frozen?;simp only[M]
    show mp d b=mp w b;unfold mp;rw[M]
   have N:bS (λb o=>∃i,V i b o) w d:=by
    refine⟨q1,q2,q3,q4,λb K O=>q5 b K λe=>?_,λb o K O=>?_,λb o K O=>?_⟩
    ·subst e;exact O 0 ⟨0,(W 0 ω).1⟩
    ·by_cases e:b=g
     ·subst e
      have ho:¬o<xs.length:=λh=>O ⟨0,(W o ω).1⟩
      rw[l,C9 ho,B]
     exact(hother b K e o).1
    by_cases e:b=g
    ·subst e;exact F o
    exact(hother b K e o).2
   refine⟨.tuple #[],he,N,NO,Uc (V 0),NO,λ_ _ h=>h.elim,λi b o h=>?_,λ_ _ h=>h.elim,λi i' L b o h h'=>?_,λ_ _ _ h=>h.elim,λ_ _ h=>h.elim,λ_ _ _ _ h=>h.elim,⟨#[],rfl,trivial,rfl⟩,cV.nil _ _ _ _,⟨⟨rfl,λ_=>.slice (some ⟨g,0,none⟩) xs.length H,rfl,row1 ?_⟩,trivial⟩⟩
   ·cases i with
    | zero=>exact .inl ⟨0,h⟩
    | succ i=>exact h.elim
   ·cases i with
    | zero=>
     cases i' with
     | zero=>exact L rfl
     | succ i'=>exact h'.elim
    | succ i=>exact h.elim
   show fg d _ (V 0) _ _;refine .own _ .own g 1 xs.length H _ (λq=>(cel d g q).getD undef) (λ_=>NO) trivial (by rw[C1,hsl]) (λr hr=>by obtain⟨z,-,rfl⟩:=O4.1 hr;rfl) T U (λq P=>?_) (λq P=>?_) (λ_ _ _ _ h=>h.elim) (λ_ _ _ _ _ _ _ h=>h.elim) (λi j r c2 Q y=>?_)
   ·obtain⟨a1,⟨z,a2,a3⟩,a4⟩:=W q P
    refine⟨a1,?_,(F q).trans a4⟩;by_cases hqx:q<xs.length
    ·exact⟨_,p q hqx,rfl⟩
    rw[l,C9 hqx,<-B];exact⟨z,a2,a3⟩
   ·rw[p q ω];rfl
   rw[I3]at Q;have hil:i<(sorted xs).length:=by
    rcases Nat.lt_or_ge i (sorted xs).length with h|h
    ·exact h
    rw[U2 h]at Q;cases Q
   rw[I2 hil]at Q;simp only[I5,Z0]at Q;subst Q
   match j,y with
   | 0,y=>
    simp only[rI,List.getElem?_cons_zero,Z0]at y;subst y;simp only[Nat.mul_one,Nat.add_zero,p i ω,Option.getD_some];exact .v _ _ rfl
   | j+1,y=>simp[rI]at y
  | _=>cases D
set_option maxHeartbeats 8000000
def lS(s:ax)(k:Nat):Int:=16*s.R+(k:Nat)*csz s.d
def eJ(s:ax)(n:Nat):List Int:=((List.range n).filter λk=>aU s.b2 (k:Nat)).map (lS s)
def D1{s:ax}{n:Nat}(h:aU s.b2 (n:Nat)=true):eJ s (n+1)=eJ s n++[lS s n]:=by
 unfold eJ;rw[List.range_succ,List.filter_append,X5];simp[h]
def Ew{s:ax}{n:Nat}(h:aU s.b2 (n:Nat)=false):eJ s (n+1)=eJ s n:=by
 unfold eJ;rw[List.range_succ,List.filter_append,X5];simp[h]
def tB(s:ax)(n:Nat):(eJ s n).length<=n:=by
 unfold eJ;rw[C1];exact Z4 (List.length_filter_le ..) (by simp)
def fZ(sp:List ax):List Int:=sp.flatMap λs=>eJ s (slots s.d).toNat
def live0(sp:List ax)(la:List aB):List Int:=fZ sp++la.map λl=>16*l.R
def o7(sp:List ax)(la:List aB):List Int:=sorted (live0 sp la)
def tI(k:Int):0<=slots k/\slots k<=16:=by
 unfold slots;(repeat' split)<;>decide
def Bb{k:Int}(h:0<=k/\k<=3):slots k*csz k=16:=by
 obtain rfl|rfl|rfl|rfl:k=0\/k=1\/k=2\/k=3:=ω
 all_goals decide
def xq{sp:List ax}{i:Nat}{s:ax}(h:sp[i]? = some s):fZ (sp.take (i+1))=fZ (sp.take i)++eJ s (slots s.d).toNat:=by
 unfold fZ;rw[V5,h,List.flatMap_append];simp
def zU(s:ax)(k:Nat)(a:bg s=true)(i:(k:Int)<slots s.d):ar Tryz.prog 353 false [.val (some 3) (ax.enc .X s),.val none [I (k:Nat)]] .one [I (lS s k)]:=by
 have b:=iQ s;have c:=ee s.d;have g:=jj s.d;rw[a]at b;have d:=aF a;have j:=tI s.d;rcases bP ⟨d.2.2.1,d.2.2.2⟩ with e|e|e|e<;>rw[e]at c
 all_goals
  refine fO 26 [(3,9,[17,18,19,20,21,22,23,24,25])] Tryz.func353 rfl ?_
  repeat'(first|refine gE ?_|(conv=>whnf);refine C8 (aM _ 0 _) ?_)
  all_goals exact X0 (λz=>[I z]) (by unfold lS;rw[e];omega)
def xY(sp:List ax)(la:List aB)(d:dS sp)(e:dQ la)(b:bo sp la=true):ar Tryz.prog 250 false [.val none (bX .X sp),.val none (cx .X la)] .one (aD .own (o7 sp la)):=by
 have E:=d.1;have F:=e.1;have D:=qM sp la d e;rw[b]at D;obtain⟨p,G,-⟩:=dG b;refine fP 56 [(393,[1])] [] Tryz.func250 rfl ?_ (.inr (bH _))
 repeat'(first|refine gP ?_|(conv=>whnf);refine C8 D ?_)
 (conv=>whnf)
 refine CF (ι:=Nat × List Int) (λi=>[(1,.H .one (cx .X la)),(5,.H .one (aD .own i.2)),(16,.H .one (bX .X sp)),(17,.H .one [I (sp.length)]),(18,.H .one [I ((i.1:Nat):Int)])]) (λi=>i.1<=sp.length/\i.2=fZ (sp.take i.1)/\i.2.length<=16*i.1) (λi=>sp.length - i.1) ((0,[])) ?_ (⟨W0 _,rfl,W0 _⟩) λi g=>?_
 ·exact wB
 obtain⟨i,S⟩:=i;obtain⟨g,n,H⟩:=g;simp only at g n H |-;by_cases o:i<sp.length
 ·have c:=ao o
  have h:bg (nth sp i)=true:=Qf p o;have J:=tI (nth sp i).d;have q:=f9 h
  repeat'(first|refine gE ?_|(conv=>whnf);with_reducible refine CD (aa c) ?_)
  (conv=>whnf)
  refine CF (ι:=Nat × List Int) (λk=>[(1,.H .one (cx .X la)),(5,.H .one (aD .own k.2)),(7,.H .box (ax.enc .X (nth sp i))),(8,.H .one [I ((k.1:Nat):Int)]),(16,.H .one (bX .X sp)),(17,.H .one [I (sp.length)]),(18,.H .one [I ((i:Nat):Int)])]) (λk=>k.1<=(slots (nth sp i).d).toNat/\k.2=S++eJ (nth sp i) k.1) (λk=>(slots (nth sp i).d).toNat - k.1) ((0,S)) ?_ (⟨W0 _,by simp[eJ]⟩) λk t=>?_
  ·exact wB
  obtain⟨k,S2⟩:=k;obtain⟨t,a⟩:=t;simp only at t a |-;have K:=tB (nth sp i) k;have j:S2.length=S.length+(eJ (nth sp i) k).length:=by rw[a,O3]
  by_cases M:k<(slots (nth sp i).d).toNat
  ·have u:=kR (nth sp i).b2 (k:Nat) q.2
   cases w:aU (nth sp i).b2 (k:Nat)<;>rw[w]at u
   ·repeat'(first|refine gE ?_|(conv=>whnf);refine C8 (jj _) ?_)
    ((conv=>whnf);refine CE (k+1,S2) ⟨(by simp only;omega),(by simp only;rw[Ew w];exact a)⟩ (by simp only;omega) ?_;(exact wB))
   repeat'(first|refine gE ?_|(conv=>whnf);first|refine C8 (jj _) ?_|refine C8 (zU (nth sp i) k h ω) ?_|refine CU co (λr y=>by rw[O1.1 y];rfl) (by simp[aZ,eD]) (by simp;omega) (by show _*8<=_;simp;omega) rfl ?_)
   ((conv=>whnf)
    refine CE (k+1,S2++[lS (nth sp i) k]) ⟨(by simp only;omega),(by simp only;rw[D1 w,a,W5])⟩ (by simp only;omega) ?_
    (repeat'(first|exact trivial|rfl|exact CL rfl (CL (X0 (C.s dY.own) (by simp[rI])) trivial)|refine CL ?_ ?_)))
  obtain rfl:k=(slots (nth sp i).d).toNat:=ω
  repeat'(first|refine gE ?_|(conv=>whnf);refine C8 (jj _) ?_)
  ((conv=>whnf);refine CE (i+1,S2) ⟨(by simp only;omega),(by simp only;rw[xq c,<-n,a]),(by simp only;omega)⟩ (by simp only;omega) ?_;(exact wB))
 obtain rfl:i=sp.length:=ω
 rw[C5]at n
 repeat'(first|refine gE ?_|fail)
 (conv=>whnf)
 refine CF (ι:=Nat × List Int) (λi=>[(5,.H .one (aD .own i.2)),(40,.H .one (cx .X la)),(41,.H .one [I (la.length)]),(42,.H .one [I ((i.1:Nat):Int)])]) (λi=>i.1<=la.length/\i.2=S++(la.take i.1).map (λl=>16*l.R)) (λi=>la.length - i.1) ((0,S)) ?_ (⟨W0 _,by simp⟩) λi g=>?_
 ·exact wB
 obtain⟨i,S2⟩:=i;obtain⟨B,a⟩:=g;simp only at B a |-;have j:S2.length=S.length+i:=by rw[a,O3,C1,V1];omega
 by_cases o:i<la.length
 ·have c:=ao o
  have L:=vf b c
  repeat'(first|refine gE ?_|(conv=>whnf);refine CU co (λr y=>by rw[O1.1 y];rfl) (by simp[aZ,eD]) (by simp;omega) (by show _*8<=_;simp;omega) rfl ?_)
  ((conv=>whnf)
   refine CE (i+1,S2++[16*(nth la i).R]) ⟨(by simp only;omega),(by simp only;rw[a,V5,c];simp)⟩ (by simp only;omega) ?_
   (repeat'(first|exact trivial|rfl|exact CL rfl (CL (X0 (C.s dY.own) (by simp[rI];omega)) trivial)|refine CL ?_ ?_)))
 obtain rfl:i=la.length:=ω
 rw[C5]at a
 repeat'(first|refine gE ?_|(conv=>whnf);refine CK (PZ S2 ω) (.inl rfl) ?_)
 show _=aD .own (sorted (fZ sp++la.map λl=>16*l.R));rw[<-n,<-a];rfl
def qZ(b:List (Int × Value))(L:List Int):Prop:=∀a,mlook b a (.int .i64 0)=.int .i64 (L.count a:Nat)
def KB(f:List (Int × Value))(a b:Int)(v d:Value):mlook (mput f a v) b d=if a=b then v else mlook f b d:=by
 induction f with
 | nil=>simp only[mput,mlook]
 | cons p f g=>
  simp only[mput];by_cases h:p.1=a
  ·rw[CB h]
   simp only[mlook];by_cases c:a=b
   ·rw[CB c,CB c]
   rw[C9 c,C9 c,C9 (by rw[h];exact c)]
  rw[C9 h];simp only[mlook];by_cases c:p.1=b
  ·rw[CB c,CB c,C9 (λe=>h (c.trans e.symm))]
  rw[C9 c,C9 c,g]
def inc(b:List (Int × Value))(L:List Int)(a:Int):List (Int × Value):=mput b a (.int .i64 ((L.count a:Nat)+1))
def Lc:qZ [] []:=λ_=>rfl
def pZ{d:List (Int × Value)}{L:List Int}(h:qZ d L)(a:Int):qZ (inc d L a) (L++[a]):=λb=>by
 unfold inc;rw[KB,C6];by_cases c:a=b
 ·subst c;rw[CB rfl,List.count_singleton_self];simp
 rw[C9 c,h b,List.count_singleton,C9 (by simpa using c)];rfl
def El(h:ab)(d:dS h.K)(e:dQ h.M)(b:List (Int × Value))(L:List Int)(a c:Int)(g:qZ b L)(n:L.length<=1000000000) :
  aT Tryz.prog 249 false [.val none [I a],.val none [I c],.ptr [.m b],.ptr (ab.enc .X h)] [.val none [I a],.val none [I c],.ptr [.m (inc b L a)],.ptr (ab.enc .X h)] .one [B (d9 h a c)]:=by
 have k:=tE h.K h.M a d e;obtain⟨i,-⟩:=nu h.K h.M a;have l:L.count a<=L.length:=List.count_le_length;unfold d9;generalize denotes h.K h.M a=w at k i |-;refine fM 41 [] [] [(0,0),(0,0),(0,0),(0,0)] Tryz.func249 rfl (λu q=>?_)
 repeat'(first|refine gP ?_|(conv=>whnf);first|with_reducible (first|refine Bf.D (λj=>?_) (λj=>?_)|refine Bf.E (λj=>?_) (λj=>?_))|refine Ml.mk (g a) ?_|refine Mu.mk (es':=inc b L a) rfl ?_|refine CM (i (by assumption)).1 (aa (ao (i (by assumption)).2)) ?_)
 all_goals
  refine CH rfl ?_ ?_
  ·exact X0 (λz=>[B z]) ((by grind))
  exact wB
set_option maxHeartbeats 8000000
def sH(h:ab)(a:aQ):Bool:=iA h a&&decide (a.b7<=h.b3)
def mQ(h:ab):List Int:=((cG h++h.a9.a6.map (·.Addr))++aN h.y)++h.O.map (·.Addr)
def jW(h:ab):Bool:=((h.T.all (fw h)&&h.a9.a6.all (sH h))&&(aN h.y).all (kM h))&&(o7 h.K h.M).all λa=>decide ((mQ h).count a=1)
def Q1{h:ab}(h1:h.T.all (fw h)=false):jW h=false:=by unfold jW;rw[h1];rfl
def JN{h:ab}(h1:h.a9.a6.all (sH h)=false):jW h=false:=by unfold jW;rw[h1];simp
def Qt{h:ab}(h1:(aN h.y).all (kM h)=false):jW h=false:=by unfold jW;rw[h1];simp
def Q5{h:ab}(h1:((o7 h.K h.M).all λa=>decide ((mQ h).count a=1))=false):jW h=false:=by unfold jW;rw[h1];simp
def KH{sp:List ax}{la:List aB}(h1:sp.length<=1048576)(b:la.length<=1048576):(o7 sp la).length<=100000000:=by
 have a:∀(l:List ax),(fZ l).length<=16*l.length:=by
  intro l
  induction l with
  | nil=>exact W0 _
  | cons s l c=>
   have e:fZ (s::l)=eJ s (slots s.d).toNat++fZ l:=by unfold fZ;rw[X6]
   have d:=tI s.d;have f:=tB s (slots s.d).toNat;rw[e,O3,List.length_cons];omega
 have g:=a sp;unfold o7 live0;rw[yi,O3,C1];omega
def xz(h:ab)(hs:ab.sml h)(S:bo h.K h.M=true)(M:bO h.y=true)(hco:∀c∈h.T,bA c=true):ar Tryz.prog 79 false [.val (some 24) (ab.enc .X h)] .one [B (jW h)]:=by
 obtain⟨-,-,t,u,hso,hsc,hsm,hsq,-⟩:=hs;have hlo:h.O.length<=1048576:=hso.1;have hlc:h.T.length<=1048576:=hsc.1;have hlq:h.a9.a6.length<=1048576:=hsq.1;have hfl:=si M;have w:jW h=false->[B false]=[B (jW h)]:=λe=>by rw[e]
 refine fP 114 [(249,[0,0,2,2])] [] Tryz.func79 rfl ?_
 repeat'(first|refine gP ?_|fail)
 (conv=>whnf)
 refine CF (ι:=Nat × List (Int × Value) × List Int) (λi=>[(1,.H .box (ab.enc .X h)),(3,.H .box [.m i.2.1]),(4,.fn 249 [3,1]),(22,.H .one (pC .X h.T)),(23,.H .one [I (h.T.length)]),(24,.H .one [I ((i.1:Nat):Int)])]) (λi=>i.1<=h.T.length/\qZ i.2.1 i.2.2/\i.2.2=((h.T.take i.1).flatMap λc=>c.b.flatten)/\(h.T.take i.1).all (fw h)=true/\i.2.2.length<=32*i.1) (λi=>h.T.length - i.1) ((0,[],[])) ?_ (⟨W0 _,Lc,rfl,rfl,W0 _⟩) λi hi=>?_
 ·exact wB
 obtain⟨i,es,L⟩:=i;obtain⟨hi,O,X,Y,hb⟩:=hi;simp only at hi O X Y hb |-;by_cases li:i<h.T.length
 ·have T:=ao li
  obtain⟨h4,h8⟩:=vP (hco _ (am li))
  repeat'(first|refine gE ?_|(conv=>whnf);with_reducible refine CD (aa T) ?_)
  (conv=>whnf)
  refine CF (ι:=Nat × List (Int × Value) × List Int) (λk=>[(1,.H .box (ab.enc .X h)),(3,.H .box [.m k.2.1]),(4,.fn 249 [3,1]),(22,.H .one (pC .X h.T)),(23,.H .one [I (h.T.length)]),(24,.H .one [I ((i:Nat):Int)]),(29,.H .one (jI .X (nth h.T i).b)),(30,.H .one [I ((nth h.T i).b.length)]),(31,.H .one [I ((k.1:Nat):Int)])]) (λk=>k.1<=(nth h.T i).b.length/\qZ k.2.1 k.2.2/\k.2.2=L++((nth h.T i).b.take k.1).flatten/\df k.1 (tK h (nth h.T i))=true/\k.2.2.length<=L.length+8*k.1) (λk=>(nth h.T i).b.length - k.1) ((0,es,L)) ?_ (⟨W0 _,O,by simp,rfl,by simp⟩) λk hk=>?_
  ·exact wB
  obtain⟨k,es3,Z⟩:=k;obtain⟨hk,y,K,ak,hb3⟩:=hk;simp only at hk y K ak hb3 |-;by_cases lk:k<(nth h.T i).b.length
  ·have hy:=ao lk
   have hl8:=h8 _ (am lk)
   repeat'(first|refine gE ?_|(conv=>whnf);first|with_reducible (first|refine CD (aa T) ?_|refine CD (aa hy) ?_))
   (conv=>whnf)
   refine CF (ι:=Nat × List (Int × Value) × List Int) (λj=>[(1,.H .box (ab.enc .X h)),(3,.H .box [.m j.2.1]),(4,.fn 249 [3,1]),(7,.H .one [I ((k:Nat):Int)]),(22,.H .one (pC .X h.T)),(23,.H .one [I (h.T.length)]),(24,.H .one [I ((i:Nat):Int)]),(29,.H .one (jI .X (nth h.T i).b)),(30,.H .one [I ((nth h.T i).b.length)]),(31,.H .one [I ((k:Nat):Int)]),(36,.H .one (aD .X (nth (nth h.T i).b k))),(37,.H .one [I ((nth (nth h.T i).b k).length)]),(38,.H .one [I ((j.1:Nat):Int)])]) (λj=>j.1<=(nth (nth h.T i).b k).length/\qZ j.2.1 j.2.2/\j.2.2=Z++(nth (nth h.T i).b k).take j.1/\((nth (nth h.T i).b k).take j.1).all (λa=>d9 h a (k:Nat))=true) (λj=>(nth (nth h.T i).b k).length - j.1) ((0,es3,Z)) ?_ (⟨W0 _,y,by simp,rfl⟩) λj hj=>?_
   ·exact wB
   obtain⟨j,es4,U⟩:=j;obtain⟨hj,l,C,aj⟩:=hj;simp only at hj l C aj |-;have hl4:U.length=Z.length+j:=by rw[C,O3,V1];omega
   by_cases lj:j<(nth (nth h.T i).b k).length
   ·have d:=ao lj
    have b:=El h t u es4 U (nth (nth (nth h.T i).b k) j) (k:Nat) l ω;cases r:d9 h (nth (nth (nth h.T i).b k) j) (k:Nat)<;>rw[r]at b
    ·repeat'(first|refine gE ?_|(conv=>whnf);refine CK (b) (.inl rfl) ?_)
     exact w (Q1 (fo T (by unfold fw;exact cB lk (fo d r))))
    repeat'(first|refine gE ?_|(conv=>whnf);refine CK (b) (.inl rfl) ?_)
    ((conv=>whnf)
     refine CE (j+1,inc es4 U (nth (nth (nth h.T i).b k) j),U++[nth (nth (nth h.T i).b k) j]) ⟨(by simp only;omega),pZ l _,(by simp only;rw[C,V5,d,W5];rfl),cW d aj r⟩ (by simp only;omega) ?_
     (exact wA))
   obtain rfl:j=(nth (nth h.T i).b k).length:=ω
   rw[C5]at C aj
   repeat'(first|refine gE ?_|fail)
   ((conv=>whnf);refine CE (k+1,es4,U) ⟨(by simp only;omega),l,(by simp only;rw[C,K,xR hy,W5]),bU ak aj,(by simp only;omega)⟩ (by simp only;omega) ?_;(exact wB))
  obtain rfl:k=(nth h.T i).b.length:=ω
  rw[C5]at K
  repeat'(first|refine gE ?_|fail)
  ((conv=>whnf);refine CE (i+1,es3,Z) ⟨(by simp only;omega),y,(by simp only;rw[K,X,vI T]),cW T Y ak,(by simp only;omega)⟩ (by simp only;omega) ?_;(exact wB))
 obtain rfl:i=h.T.length:=ω
 rw[C5]at X Y
 repeat'(first|refine gE ?_|fail)
 (conv=>whnf)
 refine CF (ι:=Nat × List (Int × Value) × List Int) (λq=>[(1,.H .box (ab.enc .X h)),(3,.H .box [.m q.2.1]),(4,.fn 249 [3,1]),(52,.H .one (cY .X h.a9.a6)),(53,.H .one [I (h.a9.a6.length)]),(54,.H .one [I ((q.1:Nat):Int)])]) (λq=>q.1<=h.a9.a6.length/\qZ q.2.1 q.2.2/\q.2.2=L++(h.a9.a6.take q.1).map (·.Addr)/\(h.a9.a6.take q.1).all (sH h)=true) (λq=>h.a9.a6.length - q.1) ((0,es,L)) ?_ (⟨W0 _,O,by simp,rfl⟩) λq E=>?_
 ·exact wB
 obtain⟨q,es5,P⟩:=q;obtain⟨F,o,G,aq⟩:=E;simp only at F o G aq |-;have hl5:P.length=L.length+q:=by rw[G,O3,C1,V1];omega
 by_cases V:q<h.a9.a6.length
 ·have d:=ao V
  have b:=El h t u es5 P (nth h.a9.a6 q).Addr (nth h.a9.a6 q).d o ω;cases r:d9 h (nth h.a9.a6 q).Addr (nth h.a9.a6 q).d<;>rw[r]at b
  ·repeat'(first|refine gE ?_|(conv=>whnf);refine CK (b) (.inl rfl) ?_)
   all_goals exact w (JN (fo d (by unfold sH iA;rw[r];rfl)))
  repeat'(first|refine gE ?_|(conv=>whnf);first|with_reducible refine Bf.D (λE=>?_) (λE=>?_)|refine CK (b) (.inl rfl) ?_)
  all_goals first
   |exact w (JN (fo d (by unfold sH iA;rw[r,U0 ω];rfl)))
   | ((conv=>whnf)
      refine CE (q+1,inc es5 P (nth h.a9.a6 q).Addr,P++[(nth h.a9.a6 q).Addr]) ⟨(by simp only;omega),pZ o _,(by simp only;rw[G,V5,d,X5,W5];rfl),cW d aq (by unfold sH iA;rw[r,O0 ω];rfl)⟩ (by simp only;omega) ?_
      (exact wA))
 obtain rfl:q=h.a9.a6.length:=ω
 rw[C5]at G aq
 repeat'(first|refine gE ?_|(conv=>whnf);refine C8 (Ah h.y hsm) ?_)
 (conv=>whnf)
 refine CF (ι:=Nat × List (Int × Value) × List Int) (λq=>[(1,.H .box (ab.enc .X h)),(3,.H .box [.m q.2.1]),(4,.fn 249 [3,1]),(75,.H .one (aD .own (aN h.y))),(76,.H .one [I ((aN h.y).length)]),(77,.H .one [I ((q.1:Nat):Int)])]) (λq=>q.1<=(aN h.y).length/\qZ q.2.1 q.2.2/\q.2.2=P++(aN h.y).take q.1/\((aN h.y).take q.1).all (kM h)=true) (λq=>(aN h.y).length - q.1) ((0,es5,P)) ?_ (⟨W0 _,o,by simp,rfl⟩) λq E=>?_
 ·exact wB
 obtain⟨q,es6,Q⟩:=q;obtain⟨F,p,H,aq6⟩:=E;simp only at F p H aq6 |-;have hl6:Q.length=P.length+q:=by rw[H,O3,V1];omega
 by_cases V:q<(aN h.y).length
 ·have d:=ao V
  have b:=El h t u es6 Q (nth (aN h.y) q) (-1) p ω;cases r:d9 h (nth (aN h.y) q) (-1)<;>rw[r]at b
  ·repeat'(first|refine gE ?_|(conv=>whnf);refine CK (b) (.inl rfl) ?_)
   exact w (Qt (fo d r))
  repeat'(first|refine gE ?_|(conv=>whnf);refine CK (b) (.inl rfl) ?_)
  ((conv=>whnf)
   refine CE (q+1,inc es6 Q (nth (aN h.y) q),Q++[nth (aN h.y) q]) ⟨(by simp only;omega),pZ p _,(by simp only;rw[H,V5,d,W5];rfl),cW d aq6 r⟩ (by simp only;omega) ?_
   (exact wA))
 obtain rfl:q=(aN h.y).length:=ω
 rw[C5]at H aq6
 repeat'(first|refine gE ?_|fail)
 (conv=>whnf)
 refine CF (ι:=Nat × List (Int × Value) × List Int) (λq=>[(1,.H .box (ab.enc .X h)),(3,.H .box [.m q.2.1]),(87,.H .one (pQ .X h.O)),(88,.H .one [I (h.O.length)]),(89,.H .one [I ((q.1:Nat):Int)])]) (λq=>q.1<=h.O.length/\qZ q.2.1 q.2.2/\q.2.2=Q++(h.O.take q.1).map (·.Addr)) (λq=>h.O.length - q.1) ((0,es6,Q)) ?_ (⟨W0 _,p,by simp⟩) λq E=>?_
 ·exact wB
 obtain⟨q,es7,R⟩:=q;obtain⟨F,g,J⟩:=E;simp only at F g J |-;have hl7:R.length=Q.length+q:=by rw[J,O3,C1,V1];omega
 by_cases V:q<h.O.length
 ·have d:=ao V
  have hcl:R.count (nth h.O q).Addr<=R.length:=List.count_le_length
  repeat'(first|refine gE ?_|(conv=>whnf);first|refine Ml.mk (g _) ?_|refine Mu.mk (es':=inc es7 R (nth h.O q).Addr) rfl ?_)
  ((conv=>whnf)
   refine CE (q+1,inc es7 R (nth h.O q).Addr,R++[(nth h.O q).Addr]) ⟨(by simp only;omega),pZ g _,(by simp only;rw[J,V5,d,X5,W5];rfl)⟩ (by simp only;omega) ?_
   (exact wA))
 obtain rfl:q=h.O.length:=ω
 rw[C5]at J;have W:R=mQ h:=by rw[J,H,G,X];rfl
 have hlv:=KH t.1 u.1
 repeat'(first|refine gE ?_|(conv=>whnf);refine C8 (xY h.K h.M t u S) ?_)
 (conv=>whnf)
 refine CF (ι:=Nat) (λn=>[(3,.H .box [.m es7]),(103,.H .one (aD .own (o7 h.K h.M))),(104,.H .one [I ((o7 h.K h.M).length)]),(105,.H .one [I ((n:Nat):Int)])]) (λn=>n<=(o7 h.K h.M).length/\((o7 h.K h.M).take n).all (λa=>decide ((mQ h).count a=1))=true) (λn=>(o7 h.K h.M).length - n) (0) ?_ (⟨W0 _,rfl⟩) λn hn=>?_
 ·exact wB
 obtain⟨hn,an⟩:=hn;by_cases ln:n<(o7 h.K h.M).length
 ·have d:=ao ln
  rw[W]at g
  repeat'(first|refine gE ?_|(conv=>whnf);first|with_reducible refine Bf.N (λE=>?_) (λE=>?_)|refine Ml.mk (g _) ?_)
  all_goals first
   |exact w (Q5 (fo d (U0 ω)))
   | ((conv=>whnf);refine CE (n+1) ⟨ω,cW d an (O0 ω)⟩ ω ?_;(exact wB))
 repeat'(first|refine gE ?_|fail)
 exact X0 (λz=>[B z]) ((by unfold jW;rw[Y,aq,aq6,im ω an];rfl))
set_option maxHeartbeats 8000000
def kI(h:ab):Bool:=(((((((ay h.G&&bC (eQ h) h.q)&&bo h.K h.M)&&(pages0 h&&oz h))&&dw h)&&h.T.all bA)&&(fL h&&jW h))&&cj h)&&rg h
def gX(h:ab)(hs:ab.sml h):ar Tryz.prog 24 false [.val (some 24) (ab.enc .X h)] .one [B (kI h)]:=by
 have L:=hs;obtain⟨n,o,b,g,M,p,q,O,r⟩:=hs;have u:yN h:=n.1.2;have hpn:eQ h<=1048576:=u.1;have P:h.O.length<=1048576:=M.1;have Q:h.T.length<=1048576:=p.1;have hlb:h.y.U.length<=1048576:=q.1.1;have hlp:h.Y.W.S.length<=1048576:=r;have d:=qQ h.G n;have e:=zG (eQ h) h.q ⟨ω,ω⟩ o;have i:=qM h.K h.M b g;have w:=vN h.y q;have R:=F6 h.a9 O;cases S:ay h.G<;>rw[S]at d
 ·refine fO 154 [] Tryz.func24 rfl ?_
  repeat'(first|refine gP ?_|(conv=>whnf);first|with_reducible refine Bf.N (λa=>?_) (λa=>?_)|refine C8 d ?_)
  all_goals first
   | exact X0 (λz=>[B z]) ((by unfold kI ;rw[S];simp))
   
 cases T:bC (eQ h) h.q<;>rw[T]at e
 ·refine fO 154 [] Tryz.func24 rfl ?_
  repeat'(first|refine gP ?_|(conv=>whnf);first|with_reducible refine Bf.N (λa=>?_) (λa=>?_)|refine C8 d ?_|refine C8 e ?_)
  all_goals first
   | exact X0 (λz=>[B z]) ((by unfold kI ;rw[T];simp))
   
 cases y:bo h.K h.M<;>rw[y]at i
 ·refine fO 154 [] Tryz.func24 rfl ?_
  repeat'(first|refine gP ?_|(conv=>whnf);first|with_reducible refine Bf.N (λa=>?_) (λa=>?_)|refine C8 d ?_|refine C8 e ?_|refine C8 i ?_)
  all_goals first
   | exact X0 (λz=>[B z]) ((by unfold kI ;rw[y];simp))
   
 have j:=Da h b g u o y;cases U:(pages0 h&&oz h)<;>rw[U]at j
 ·refine fO 154 [] Tryz.func24 rfl ?_
  repeat'(first|refine gP ?_|(conv=>whnf);first|with_reducible refine Bf.N (λa=>?_) (λa=>?_)|refine C8 d ?_|refine C8 e ?_|refine C8 i ?_|refine C8 j ?_)
  all_goals first
   | exact X0 (λz=>[B z]) ((by unfold kI ;rw[U];simp))
   
 cases J:bO h.y<;>rw[J]at w
 ·refine fO 154 [] Tryz.func24 rfl ?_
  repeat'(first|refine gP ?_|(conv=>whnf);first|with_reducible refine Bf.N (λa=>?_) (λa=>?_)|refine C8 d ?_|refine C8 e ?_|refine C8 i ?_|refine C8 j ?_|refine C8 w ?_)
  all_goals first
   | exact X0 (λz=>[B z]) ((by unfold kI dw;rw[J];simp))
   
 by_cases C:h.T.length=h.y.U.length;rotate_left
 ·refine fO 154 [] Tryz.func24 rfl ?_
  repeat'(first|refine gP ?_|(conv=>whnf);with_reducible refine Bf.N (λa=>?_) (λa=>?_))
  all_goals first
   | exact X0 (λz=>[B z]) ((by unfold kI dw;rw[U0 C];simp))
   |(exfalso;omega)
 cases V:gC h.a9<;>rw[V]at R
 ·refine fO 154 [] Tryz.func24 rfl ?_
  repeat'(first|refine gP ?_|(conv=>whnf);with_reducible refine Bf.N (λa=>?_) (λa=>?_))
  all_goals first
   | exact X0 (λz=>[B z]) ((by unfold kI dw;rw[V];simp))
   
 have W:dw h=true:=by unfold dw;rw[J,O0 C,V];rfl
 refine fO 154 [] Tryz.func24 rfl ?_
 repeat'(first|refine gB ?_|(conv=>whnf);first|with_reducible refine Bf.N (λa=>?_) (λa=>?_)|refine C8 d ?_|refine C8 e ?_|refine C8 i ?_|refine C8 j ?_|refine C8 w ?_|refine C8 R ?_)
 all_goals try(exfalso;omega)
 (conv=>whnf)
 refine CF (ι:=Nat) (λk=>[(1,.H .box (ab.enc .X h)),(57,.H .one (pC .X h.T)),(58,.H .one [I (h.T.length)]),(59,.H .one [I ((k:Nat):Int)])]) (λk=>k<=h.T.length/\(h.T.take k).all bA=true) (λk=>h.T.length - k) (0) ?_ (⟨W0 _,rfl⟩) λk hk=>?_
 ·exact wB
 obtain⟨hk,ak⟩:=hk;by_cases lk:k<h.T.length
 ·have K:=ao lk
  have X:=BT (nth h.T k) (p.2 _ (am lk));cases Y:bA (nth h.T k)<;>rw[Y]at X
  ·repeat'(first|refine gE ?_|(conv=>whnf);first|with_reducible refine CD (aa K) ?_|refine C8 X ?_)
   exact X0 (λz=>[B z]) ((by unfold kI;rw[fo K Y];simp))
  repeat'(first|refine gE ?_|(conv=>whnf);first|with_reducible refine CD (aa K) ?_|refine C8 X ?_)
  ((conv=>whnf);refine CE (k+1) ⟨ω,cW K ak Y⟩ ω ?_;(exact wB))
 have F:h.T.all bA=true:=im ω ak;have l:=E1 h b g P Q;have c10:=xz h L y J (v4.1 F);have c12:=zf h.Y r;have c13:=vV h h.Y.W.a2 b.1;have c14:=vV h h.Y.W.a0 b.1;cases Z:fL h<;>rw[Z]at l
 ·repeat'(first|refine gE ?_|(conv=>whnf);refine C8 l ?_)
  all_goals first
   | exact X0 (λz=>[B z]) ((by unfold kI;rw[Z];simp))
   
 cases e10:jW h<;>rw[e10]at c10
 ·repeat'(first|refine gE ?_|(conv=>whnf);first|refine C8 l ?_|refine C8 c10 ?_)
  all_goals first
   | exact X0 (λz=>[B z]) ((by unfold kI;rw[e10];simp))
   
 by_cases hn:cj h=true;rotate_left
 ·have G:cj h=false:=by simpa using hn
  have c:=G;unfold cj at c;rw[X4]at c
  repeat'(first|refine gE ?_|(conv=>whnf);first|with_reducible refine Bf.D (λa=>?_) (λa=>?_)|refine C8 (aM _ _ _) ?_|refine C8 (pz _) ?_)
  all_goals first
   | exact X0 (λz=>[B z]) ((by unfold kI;rw[G];simp))
   
 have c:=hn;unfold cj at c;rw[C0]at c;have H:kI h=rg h:=by unfold kI;rw[S,T,y,U,W,F,hn,Z,e10];rfl
 rw[H];unfold rg;cases em:h.o
 ·repeat'(first|refine gE ?_|(conv=>whnf);first|with_reducible refine Bf.E (λa=>?_) (λa=>?_)|refine C8 (aM _ _ _) ?_|refine C8 (pz _) ?_|refine Bf.f em ?_)
  all_goals first
   | exact X0 (λz=>[B z]) ((by unfold qI;simp only[Bool.false_eq_true,if_false];first|(symm;exact U0 ω)|(rw[Y4,beq_iff_eq,C0];omega)))
   
 cases e12:j9 h.Y<;>rw[e12]at c12
 all_goals
  repeat'(first|refine gE ?_|(conv=>whnf);first|with_reducible refine Bf.D (λa=>?_) (λa=>?_)|refine C8 (aM _ _ _) ?_|refine C8 (pz _) ?_|refine Bf.t em ?_)
  all_goals first
   | exact X0 (λz=>[B z]) ((by grind))
   
def cM{α:Type}[Inhabited α]{xs:List α}{f:α->Int}(e:(xs.map f).Nodup){i j:Nat}(b:i<xs.length)(c:j<xs.length)(h:f (nth xs i)=f (nth xs j)):i=j:=by
 have d:=List.pairwise_iff_getElem.1 e;rcases Nat.lt_trichotomy i j with a|rfl|a
 ·have:=d i j (by simpa using b) (by simpa using c) a
  simp only[List.getElem_map]at this;rw[bm (I2 b),bm (I2 c)]at h;exact absurd h this
 ·rfl
 have:=d j i (by simpa using c) (by simpa using b) a;simp only[List.getElem_map]at this;rw[bm (I2 b),bm (I2 c)]at h;exact absurd h.symm this
def aL{α:Type}[Inhabited α]{xs:List α}{x:α}(h:x∈xs):∃i,i<xs.length/\nth xs i=x:=by
 obtain⟨i,a⟩:=List.mem_iff_getElem?.1 h;exact⟨i,(O2.1 a).1,bm a⟩
def rJ:∀{H L:List Int},H.Nodup->(∀x∈H,x∈L)->L.length<=H.length->∀x∈L,x∈H
 | [],L,_,_,c,x,d=>by
  have:L=[]:=S7 (by simpa using c);subst this;exact d
 | y::H,L,h,f,c,x,d=>by
  have i:y∈L:=f y (W1 ..);have a:=List.nodup_cons.1 h;by_cases b:x=y
  ·subst b;exact W1 ..
  refine O5 _ (rJ (L:=L.erase y) a.2 (λz g=>?_) ?_ x ((List.mem_erase_of_ne b).2 d))
  ·exact(List.mem_erase_of_ne (λe:z=y=>a.1 (by rw[<-e];exact g))).2 (f z (O5 _ g))
  rw[List.length_erase_of_mem i];simp only[List.length_cons]at c;omega
def Bp{H L:List Int}(f:L.Nodup)(d:∀x∈H,x∈L):(H.Nodup/\H.length=L.length)↔∀a∈L,H.count a=1:=by
 constructor
 ·rintro⟨c,k⟩ a b
  have g:=rJ c d ω a b;have i:=List.nodup_iff_count.1 c a;have j:=List.count_pos_iff.2 g;omega
 intro e;have c:H.Nodup:=List.nodup_iff_count.2 λa=>by
  by_cases b:a∈H
  ·rw[e a (d a b)];exact C3 1
  rw[List.count_eq_zero_of_not_mem b];exact W0 _
 refine⟨c,?_⟩;have:H.Perm L:=List.perm_iff_count.2 λa=>by
  by_cases b:a∈L
  ·rw[e a b]
   have i:=List.nodup_iff_count.1 f a;have j:=List.count_pos_iff.2 b;omega
  rw[List.count_eq_zero_of_not_mem b,List.count_eq_zero_of_not_mem λh=>b (d a h)]
 exact this.length_eq
def dy{l:aB}{n:Nat}{p:Int} : p∈lpgs l n↔∃k:Nat,k<n/\p=l.R+(k:Nat):=by
 unfold lpgs;simp only[O4,List.mem_range];constructor
 ·rintro⟨k,a,rfl⟩;exact⟨k,a,rfl⟩
 rintro⟨k,a,rfl⟩;exact⟨k,a,rfl⟩
structure sj(sp:List ax)(la:List aB):Prop where
 sok:∀s∈sp,bg s=true
 lok:∀l∈la,bJ l=true
 nd:(sp.map (·.R)).Nodup
 dis:∀s∈sp,∀l∈la,∀k:Nat,k<l.a4.toNat->s.R≠l.R+(k:Nat)
 one:∀i j,i<la.length->j<la.length->∀k k':Nat,k<(nth la i).a4.toNat->k'<(nth la j).a4.toNat->(nth la i).R+(k:Nat)=(nth la j).R+(k':Nat)->i=j
def sj.of{sp:List ax}{la:List aB}(h:bo sp la=true):sj sp la:=by
 obtain⟨t,u,d⟩:=dG h;unfold pgs at d;rw[List.nodup_append]at d;obtain⟨w,y,A⟩:=d;have B:=List.pairwise_flatMap.1 y;refine⟨λs f=>v4.1 t s f,λl g=>v4.1 u l g,w,λs f l g k c e=>?_,λi j n o k q c a e=>?_⟩
 ·exact A _ (O4.2 ⟨s,f,rfl⟩) _ (List.mem_flatMap.2 ⟨l,g,dy.2 ⟨k,c,rfl⟩⟩) e
 have r:=List.pairwise_iff_getElem.1 B.2;have C:=bm (I2 n);have D:=bm (I2 o);rw[C]at c e;rw[D]at a e;rcases Nat.lt_trichotomy i j with b|p|b
 ·exact absurd e (r i j n o b _ (dy.2 ⟨k,c,rfl⟩) _ (dy.2 ⟨q,a,rfl⟩))
 ·exact p
 exact absurd e.symm (r j i o n b _ (dy.2 ⟨q,a,rfl⟩) _ (dy.2 ⟨k,c,rfl⟩))
def gS{s:ax}{a:Int}(b:bg s=true):cy s a=true↔16*s.R<=a/\a<=16*s.R+15:=by
 unfold cy;rw[b];simp
def jT{sp:List ax}{la:List aB}(b:sj sp la){a:Int}{i:Nat}(c:i<sp.length)(h:16*(nth sp i).R<=a/\a<=16*(nth sp i).R+15):denotes sp la a=oJ i (nth sp i) a:=by
 refine oc c ((gS (b.sok _ (am c))).2 h) λj z l d=>?_
 cases e:cy z a with
 | false=>rfl
 | true=>
  exfalso;have g:=(O2.1 d).1;have n:=(gS (b.sok z (Z1 d))).1 e;have k:=bm d;subst k;have:=cM (f:=(·.R)) b.nd c g ω;omega
def RJ{sp:List ax}{la:List aB}(d:sj sp la){a:Int}(h:∀i,i<sp.length->¬(16*(nth sp i).R<=a/\a<=16*(nth sp i).R+15)):∀(j:Nat)(z:ax),j<sp.length->sp[j]? = some z->cy z a=false:=by
 intro j z f c;cases e:cy z a with
 | false=>rfl
 | true=>
  have g:=(gS (d.sok z (Z1 c))).1 e;have b:=bm c;subst b;exact absurd g (h j f)
def N3{sp:List ax}{la:List aB}(f:sj sp la)(a:Int):a∈live0 sp la↔a∈ja sp la:=by
 have L:a∈ja sp la↔∃n:Nat,n<512/\kA sp la n=true/\(n:Int)=a:=by
  unfold ja mh;simp only[O4,U4,List.mem_range];constructor
  ·rintro⟨n,⟨g,p⟩,B⟩;exact⟨n,g,p,B⟩
  rintro⟨n,g,p,B⟩;exact⟨n,⟨g,p⟩,B⟩
 rw[L];unfold live0 fZ;rw[z3,List.mem_flatMap,O4];constructor
 ·rintro(⟨s,t,H⟩|⟨l,b,rfl⟩)
  ·obtain⟨i,h,rfl⟩:=aL t
   unfold eJ at H;obtain⟨k,M,rfl⟩:=O4.1 H;obtain⟨u,C⟩:=U4.1 M;have u:=List.mem_range.1 u;have c:=aF (f.sok _ t);have q:=Bb ⟨c.2.2.1,c.2.2.2⟩;have N:=tI (nth sp i).d;unfold lS;have O:0<=(k:Int)*csz (nth sp i).d/\(k:Int)*csz (nth sp i).d<=15:=by
    rcases bP ⟨c.2.2.1,c.2.2.2⟩ with e|e|e|e<;>rw[e]at q |-<;>omega
   have o:=jT f h (a:=16*(nth sp i).R+(k:Nat)*csz (nth sp i).d) ω;have J:(16*(nth sp i).R+(k:Nat)*csz (nth sp i).d - 16*(nth sp i).R) / csz (nth sp i).d=(k:Nat)/\(16*(nth sp i).R+(k:Nat)*csz (nth sp i).d - 16*(nth sp i).R) % csz (nth sp i).d=0:=by
    rcases bP ⟨c.2.2.1,c.2.2.2⟩ with e|e|e|e<;>rw[e]<;>omega
   refine⟨(16*(nth sp i).R+(k:Nat)*csz (nth sp i).d).toNat,ω,?_,ω⟩;have d:(((16*(nth sp i).R+(k:Nat)*csz (nth sp i).d).toNat:Nat):Int)=16*(nth sp i).R+(k:Nat)*csz (nth sp i).d:=ω
   unfold kA;rw[d,o];simp only[oJ,J.1,J.2,C]
   rfl
  obtain⟨i,h,rfl⟩:=aL b;have R:=aO (f.lok _ b);have P:=cS (f.lok _ b);have g:=RJ f (a:=16*(nth la i).R) λj K S=>f.dis _ (am K) _ b 0 ω ω
  have A:bq (nth la i) (16*(nth la i).R)=true:=by
   unfold bq;rw[f.lok _ b,O0 ω];rfl
  have o:=m8 (a:=16*(nth la i).R) (C3 _) g h A λj z K r=>by
   cases e:bq z (16*(nth la i).R) with
   | false=>rfl
   | true=>
    exfalso;have D:=(O2.1 r).1;have w:=Z1 r;have E:=bm r;subst E;have Q:=aO (f.lok _ w);have y:=f.lok _ w;unfold bJ at y;rw[C0]at y;unfold bq at e;rw[I0,C0]at e;have:=f.one i j h D 0 ((nth la i).R - (nth la j).R).toNat ω ω ω;omega
  refine⟨(16*(nth la i).R).toNat,ω,?_,ω⟩;have d:(((16*(nth la i).R).toNat:Nat):Int)=16*(nth la i).R:=ω
  unfold kA;rw[d,o];simp
 rintro⟨n,T,b,rfl⟩
 cases g:sp.findIdx? (cy · (n:Nat)) with
 | some i=>
  obtain⟨h,F,-⟩:=C7.1 g;have G:=bm (I2 h);rw[<-G]at F;have t:=f.sok _ (am h);have p:=(gS t).1 F;have c:=aF t;have q:=Bb ⟨c.2.2.1,c.2.2.2⟩;have o:denotes sp la (n:Nat)=oJ i (nth sp i) (n:Nat):=by unfold denotes;rw[g]
  rw[tH o]at b;simp only[I0,O6,C0]at b;simp only[oJ]at b;cases A:aU (nth sp i).b2 (((n:Int) - 16*(nth sp i).R) / csz (nth sp i).d) with
  | false=>rw[A]at b;simp at b
  | true=>
   have r:((n:Int) - 16*(nth sp i).R) % csz (nth sp i).d=0:=b.1;refine .inl ⟨nth sp i,am h,?_⟩;unfold eJ;refine O4.2 ⟨(((n:Int) - 16*(nth sp i).R) / csz (nth sp i).d).toNat,U4.2 ⟨List.mem_range.2 ?_,?_⟩,?_⟩
   ·rcases bP ⟨c.2.2.1,c.2.2.2⟩ with e|e|e|e<;>rw[e]at q r |-<;>omega
   ·have:((((n:Int) - 16*(nth sp i).R) / csz (nth sp i).d).toNat:Int)=((n:Int) - 16*(nth sp i).R) / csz (nth sp i).d:=by
     rcases bP ⟨c.2.2.1,c.2.2.2⟩ with e|e|e|e<;>rw[e]<;>omega
    rw[this];exact A
   unfold lS;rcases bP ⟨c.2.2.1,c.2.2.2⟩ with e|e|e|e<;>rw[e]at r |-<;>omega
 | none=>
  cases p:la.findIdx? (bq · (n:Nat)) with
  | some i=>
   obtain⟨h,F,-⟩:=C7.1 p;have o:denotes sp la (n:Nat) = ⟨3,i,0,(n:Nat) - 16*(nth la i).R⟩:=by unfold denotes;rw[g,p]
   rw[tH o]at b;simp only[I0,C0]at b;exact .inr ⟨nth la i,am h,by have:=b.1;omega⟩
  | none=>
   have o:denotes sp la (n:Nat) = ⟨0,0,0,0⟩:=by unfold denotes;rw[g,p]
   rw[tH o]at b;simp at b
def w8{sp:List ax}{la:List aB}(e:sj sp la){a:Int}(b:(denotes sp la a).c5=0)(c:(denotes sp la a).b6=1\/(denotes sp la a).b6=3):a∈ja sp la:=by
 have l:0<=a/\a<512:=by
  unfold denotes at b c;cases h:sp.findIdx? (cy · a) with
  | some i=>
   obtain⟨f,k,-⟩:=C7.1 h;have j:=List.getElem_mem f;have d:=(gS (e.sok _ j)).1 k;have g:=aF (e.sok _ j);omega
  | none=>
   rw[h]at b c;cases d:la.findIdx? (bq · a) with
   | some i=>
    obtain⟨f,-⟩:=C7.1 d;rw[d]at b;have n:=aO (e.lok _ (am f));simp only at b;omega
   | none=>rw[d]at c;simp at c
 have g:((a.toNat:Nat):Int)=a:=ω
 unfold ja mh;refine O4.2 ⟨a.toNat,U4.2 ⟨List.mem_range.2 ω,?_⟩,g⟩;unfold kA;rw[g];simp only[I0,O6,C0];exact⟨b,c⟩
def p7(sp:List ax)(la:List aB):(ja sp la).Nodup:=by
 unfold ja mh List.Nodup;rw[List.pairwise_map];exact(List.nodup_range.sublist List.filter_sublist).imp λh e=>h ω
def uy{h:ab}(d:sj h.K h.M){a c:Int}(b:d9 h a c=true):a∈ja h.K h.M:=by
 unfold d9 at b;simp only[I0,C0]at b;exact w8 d b.1.2 (.inl b.1.1)
def N6{h:ab}(b:sj h.K h.M){o:bt}(a:jl h o=true):o.Addr∈ja h.K h.M:=by
 unfold jl at a;simp only[I0,O6,C0]at a;exact w8 b a.1 (a.2.elim (λe=>.inl e.1) (λe=>.inr e.1))
def Hh(h:ab)(a:Int):(mQ h).count a=(holders h).count a:=by
 unfold mQ holders;simp only[C6];omega
def mc(h:ab):iE h=true↔(h.T.all (fw h)=true/\h.a9.a6.all (iA h)=true)/\(aN h.y).all (kM h)=true:=by
 unfold iE;simp only[I0]
def kT{h:ab}(e:sj h.K h.M)(g:fL h=true)(j:iE h=true):∀a∈holders h,a∈ja h.K h.M:=by
 obtain⟨⟨n,p⟩,q⟩:=(mc h).1 j;intro a b;unfold holders at b;simp only[z3]at b;rcases b with((b|b)|b)|b
 ·obtain⟨o,f,rfl⟩:=O4.1 b
  obtain⟨i,r,rfl⟩:=aL f;have d:=dZ g r;unfold objAt at d;rw[I0]at d;exact N6 e d.2
 ·unfold cG at b
  obtain⟨c,t,b⟩:=List.mem_flatMap.1 b;obtain⟨l,u,b⟩:=List.mem_flatten.1 b;obtain⟨k,w,rfl⟩:=aL u;have d:=v4.1 n c t;unfold fw at d;have y:=v4.1 (show(nth c.b k).all _=true from dZ d w) a b;exact uy e y
 ·obtain⟨x,A,rfl⟩:=O4.1 b
  exact uy e (v4.1 p x A)
 exact uy e (v4.1 q a b)
def KK{h:ab}(c:bo h.K h.M=true)(o:fL h=true):(kS h&&jo h)=jW h:=by
 have f:=sj.of c;have p:(kS h=true/\h.a9.a6.all (iA h)=true)↔h.a9.a6.all (sH h)=true:=by
  unfold kS sH;simp only[v4,I0];exact⟨λe x b=>⟨e.2 x b,e.1 x b⟩,λe=>⟨λx b=>(e x b).2,λx b=>(e x b).1⟩⟩
 have r:jW h=true↔((h.T.all (fw h)=true/\h.a9.a6.all (sH h)=true)/\(aN h.y).all (kM h)=true)/\∀a∈ja h.K h.M,(holders h).count a=1:=by
  unfold jW;simp only[I0];refine and_congr Iff.rfl ?_;simp only[v4,C0,Hh];unfold o7 sorted;simp only[List.mem_mergeSort,N3 f]
 have g:jo h=true↔iE h=true/\((holders h).Nodup/\(holders h).length=(ja h.K h.M).length):=by
  unfold jo;simp only[I0,C0,and_assoc]
 rw[Y4,I0,r,g];constructor
 ·rintro⟨i,d,j⟩
  obtain⟨⟨k,l⟩,n⟩:=(mc h).1 d;exact⟨⟨⟨k,p.1 ⟨i,l⟩⟩,n⟩,(Bp (p7 ..) (kT f o d)).1 j⟩
 rintro⟨⟨⟨i,d⟩,j⟩,k⟩
 obtain⟨l,n⟩:=p.2 d;have q:iE h=true:=(mc h).2 ⟨⟨i,n⟩,j⟩;exact⟨l,q,(Bp (p7 ..) (kT f o q)).2 k⟩
def io(s t:ax):meshable s t=meshable t s:=by
 unfold meshable;rw[Bool.and_comm (bg s)]
 congr 1
 refine decide_eq_decide.2 ?_;rw[Nat.and_comm];exact⟨λh=>⟨h.1.symm,λe=>h.2.1 e.symm,h.2.2⟩,λh=>⟨h.1.symm,λe=>h.2.1 e.symm,h.2.2⟩⟩
def ew{t:aG}{f:Int}{p:Nat} : (p:Int)∈pagesOn t f↔p<t.J.length/\(nth t.J p).j≠0/\(nth t.J p).e=f:=by
 unfold pagesOn kh;simp only[O4,U4,List.mem_range];constructor
 ·rintro⟨n,⟨b,a⟩,c⟩
  obtain rfl:n=p:=ω
  unfold LM at a;rw[C0]at a;exact⟨b,a⟩
 rintro⟨b,a⟩
 exact⟨p,⟨b,by unfold LM;rw[C0];exact a⟩,rfl⟩
def vO{t:aG}{f q:Int}(h:q∈pagesOn t f):∃p:Nat,q=(p:Nat):=by
 unfold pagesOn kh at h;obtain⟨n,-,rfl⟩:=O4.1 h;exact⟨n,rfl⟩
def sB{h:ab}(a:pages0 h=true):(∀i,i<h.M.length->∀k:Nat,k<(nth h.M i).a4.toNat->(aX h ((nth h.M i).R+(k:Nat))).length=1)/\(∀p∈pgs h.K h.M,p<eQ h)/\∀p:Nat,p<eQ h->((nth (tbl h).J p).j≠0↔(p:Int)∈pgs h.K h.M):=by
 unfold pages0 at a;simp only[I0]at a;obtain⟨⟨⟨-,d⟩,e⟩,f⟩:=a;refine⟨λi g k j=>?_,λp a=>?_,λp a=>?_⟩
 ·have b:=dZ d g
  unfold tF at b;rw[I0]at b;have c:=dZ b.2 j;unfold yJ at c;rw[C0]at c;exact c
 ·have:=v4.1 e p a
  rw[C0]at this;exact this
 have b:=dZ f a;unfold wd at b;rw[I0,C0]at b;exact b.1
def xi{h:ab}{p:Nat}(a:p<eQ h):ac (tbl h) (p:Nat)=nth (tbl h).J p:=mw a
def fD{h:ab}{p:Nat}(a:p<eQ h)(b:(nth (tbl h).J p).j≠0):aX h (p:Nat)=pagesOn (tbl h) (nth (tbl h).J p).e:=by
 unfold aX;rw[show h.G.F.Q=tbl h from rfl,xi a,C9 b]
def tX{h:ab}(g:sj h.K h.M){j:Nat}(c:j<h.K.length):gQ h (nth h.K j).R=(j:Nat):=by
 unfold gQ;refine dI (ao c) (by unfold kB;simp) λk z i d=>?_
 have a:=bm d;have b:=(O2.1 d).1;subst a;unfold kB;refine U0 λe=>?_
 have:=cM (f:=(·.R)) g.nd b c e;omega
def uf{h:ab}(y:bo h.K h.M=true)(T:pages0 h=true):vF h=oz h:=by
 have G:=sj.of y;obtain⟨U,V,O⟩:=sB T;have t:∀i,i<h.K.length->∃p:Nat,(nth h.K i).R=(p:Nat)/\p<eQ h/\(nth (tbl h).J p).j≠0:=λi n=>by
  have hc:=aF (G.sok _ (am n));have P:(nth h.K i).R∈pgs h.K h.M:=by
   unfold pgs;exact z3.2 (.inl (O4.2 ⟨_,am n,rfl⟩))
  have o:=V _ P;refine⟨(nth h.K i).R.toNat,ω,ω,?_⟩;refine(O _ ω).2 ?_;rw[show(((nth h.K i).R.toNat:Nat):Int)=(nth h.K i).R by omega];exact P
 rw[Y4];unfold vF oz;rw[cA,cA];constructor
 ·intro K i n
  rw[cA];intro j L;have A:j<h.K.length:=ω
  unfold lA;rw[O6,C0];by_cases b:(ac (tbl h) (nth h.K i).R).e=(ac (tbl h) (nth h.K j).R).e
  ·right
   obtain⟨p,f,c,r⟩:=t i n;obtain⟨q,B,a,g⟩:=t j A;have d:=v4.1 (K i n);rw[f,B,xi c,xi a]at b;have W:(q:Int)∈aX h (nth h.K i).R:=by
    rw[f,fD c r];exact ew.2 ⟨a,g,b.symm⟩
   have u:=d _ W;unfold m6 at u;rw[<-B,tX G A]at u;rw[O6,I0,C0]at u;rcases u with u|u
   ·omega
   simpa using u.2
  exact .inl b
 intro C i n;rw[v4];intro q H;obtain⟨p,f,c,r⟩:=t i n;have X:=H;rw[f,fD c r]at H;obtain⟨J,rfl⟩:=vO H;obtain⟨a,g,D⟩:=ew.1 H;have w:=(O J a).1 g;unfold pgs at w;rw[z3,O4,List.mem_flatMap]at w;rcases w with⟨s,K,E⟩|⟨l,Y,M⟩
 ·obtain⟨j,L,rfl⟩:=aL K
  unfold m6;rw[<-E,tX G L];rw[O6,I0,C0,C0];have b:(ac (tbl h) (nth h.K i).R).e=(ac (tbl h) (nth h.K j).R).e:=by
   rw[f,E,xi c,xi a,D]
  rcases Nat.lt_trichotomy j i with o|Z|o
  ·have d:=dZ (C i n) o
   unfold lA at d;rw[O6,C0]at d;exact .inr ⟨ω,by simpa using d.resolve_left λe=>e b⟩
  ·exact .inl ω
  have d:=dZ (C j L) o;unfold lA at d;rw[O6,C0]at d;exact .inr ⟨ω,by rw[io];simpa using d.resolve_left λe=>e b.symm⟩
 exfalso;obtain⟨i2,F,rfl⟩:=aL Y;obtain⟨k,Q,N⟩:=dy.1 M;have d:=U i2 F k Q;rw[<-N,fD a g]at d;have R:(J:Int)∈pagesOn (tbl h) (nth (tbl h).J J).e:=ew.2 ⟨a,g,rfl⟩;have S:(p:Int)∈pagesOn (tbl h) (nth (tbl h).J J).e:=ew.2 ⟨c,r,D.symm⟩;obtain⟨z,hz⟩:=List.length_eq_one_iff.1 d;rw[hz]at R S;simp only[O1]at R S;have:=G.dis _ (am n) _ (am F) k Q;omega
def jM(h:ab):kI h=dA h:=by
 unfold kI dA lR;cases d:ay h.G with
 | false=>rfl
 | true=>
  cases e:bC (eQ h) h.q with
  | false=>rfl
  | true=>
   cases a:bo h.K h.M with
   | false=>rfl
   | true=>
    cases b:pages0 h with
    | false=>rfl
    | true=>
     rw[uf a b];cases c:fL h with
     | false=>simp
     | true=>
      have:=KK a c;rw[<-this];cases oz h<;>cases dw h<;>cases kS h<;>cases h.T.all bA<;>cases cj h<;>cases jo h<;>cases rg h<;>rfl
def ovl(y r:aA):Bool:=decide (y.At<r.At+r.b0/\r.At<y.At+y.b0)
def mZ(r:aA):List aA->Bool->Option (List aA)
 | [],put=>some (if put then [] else [r])
 | y::a,put=>if ovl y r then none else if !put&&decide (y.At > r.At) then(mZ r a true).map λt=>r::y::t else(mZ r a put).map λt=>y::t
def dr(out:List aA):List aA->List aA
 | []=>out
 | y::ys=>match out.getLast? with
  | some z=>if z.At+z.b0=y.At then dr (out.dropLast++[⟨z.At,z.b0+y.b0⟩]) ys else dr (out++[y]) ys
  | none=>dr (out++[y]) ys
def kE:List aA->aA->List aA->Bool->Option (List aA)
 | [],r,out,done=>some (if done then out else out++[r])
 | y::ys,r,out,done=>
  if ovl y r then none
  else if y.At+y.b0=r.At then kE ys ⟨y.At,y.b0+r.b0⟩ out done
  else if r.At+r.b0=y.At then kE ys ⟨r.At,r.b0+y.b0⟩ out done
  else if y.At > r.At/\done=false then kE ys r (out++[r,y]) true
  else kE ys r (out++[y]) done
def pn(xs:List aA):Prop:=xs.Pairwise (λa b=>a.At+a.b0<b.At)/\∀y∈xs,1<=y.b0
def pn.tail{y:aA}{a:List aA}(h:pn (y::a)):pn a:=⟨(List.pairwise_cons.1 h.1).2,λz b=>h.2 z (O5 _ b)⟩
def pn.head{y:aA}{a:List aA}(h:pn (y::a)):∀z∈a,y.At+y.b0<z.At:=(List.pairwise_cons.1 h.1).1
def jF:∀(a out:List aA),pn a->(∀z,out.getLast? = some z->∀y∈a,z.At+z.b0≠y.At)->dr out a=out++a
 | [],out,_,_=>by simp[dr]
 | y::a,out,d,e=>by
  have b:dr (out++[y]) a=out++y::a:=by
   rw[jF a (out++[y]) d.tail λz c w f=>by
     simp at c;subst c;have:=d.head w f;omega]
   simp
  unfold dr;split
  ·rename_i z c
   rw[C9 (e z c y (W1 ..))];exact b
  exact b
def wR{r:aA} : ∀{a:List aA},pn a->(∀y∈a,r.At+r.b0<=y.At)->mZ r a true=some a
 | [],_,_=>rfl
 | y::a,c,b=>by
  have e:=b y (W1 ..);unfold mZ;rw[C9 (by unfold ovl;rw[C0];omega)];simp only[Bool.not_true,Bool.false_and,Bool.false_eq_true,if_false];rw[wR c.tail λz d=>b z (O5 _ d)]
  rfl
def vJ{r:aA}(h1:1<=r.b0){a:List aA}(c:pn a)(b:∀y∈a,r.At+r.b0<=y.At):mZ r a false=some (r::a):=by
 cases a with
 | nil=>rfl
 | cons y a=>
  have e:=b y (W1 ..);unfold mZ;rw[C9 (by unfold ovl;rw[C0];omega),CB (by simp;omega),wR c.tail λz d=>b z (O5 _ d)]
  rfl
def qr{r:aA} : ∀{a out:List aA},pn a->1<=r.b0->(∀y∈a,r.At+r.b0<y.At)->kE a r out true=some (out++a)
 | [],out,_,_,_=>by simp[kE]
 | y::a,out,b,d,c=>by
  have f:=c y (W1 ..);have g:=b.2 y (W1 ..);unfold kE;rw[C9 (by unfold ovl;rw[C0];omega),C9 ω,C9 ω,C9 (by simp),qr b.tail d λz e=>c z (O5 _ e)];simp
def xj{r:aA}(h1:1<=r.b0){a out:List aA}(b:pn a)(c:∀y∈a,r.At+r.b0<=y.At):kE a r out false=some (out++match a with|[]=>[r]|y::zs=>if r.At+r.b0=y.At then⟨r.At,r.b0+y.b0⟩::zs else r::y::zs):=by
 cases a with
 | nil=>simp[kE]
 | cons y a=>
  have g:=c y (W1 ..);have h:=b.2 y (W1 ..);unfold kE;rw[C9 (by unfold ovl;rw[C0];omega),C9 ω];by_cases e:r.At+r.b0=y.At
  ·rw[CB e]
   simp only[e,if_true];cases a with
   | nil=>simp[kE]
   | cons z a=>
    have i:=b.head z (W1 ..);have j:=b.tail.2 z (W1 ..);unfold kE;simp only;rw[C9 (by unfold ovl;rw[C0];simp only;omega),C9 ω,C9 ω,CB (by simp;omega),qr b.tail.tail (by simp only;omega) λw d=>by
      have:=b.tail.head w d;simp only;omega]
    simp
  rw[C9 e,CB (by simp;omega),qr b.tail h1 λz f=>by have:=b.head z f;omega];simp[e]
def Bg{pages:Int} : ∀{b:List aA}{r:aA}{out:List aA},pn b->1<=r.b0->(∀z,out.getLast? = some z->(∀y∈b,z.At+z.b0<y.At)/\z.At+z.b0<r.At)->(mZ r b false).map (dr out)=kE b r out false
 | [],r,out,_,j,u=>by
  show some (dr out [r])=some (out++[r]);rw[jF [r] out ⟨List.pairwise_singleton ..,λy B=>by rw[O1.1 B];exact j⟩ λz d y B=>by rw[O1.1 B];have:=(u z d).2;omega]
 | y::b,r,out,c,j,u=>by
  have L:=c.2 y (W1 ..);by_cases l:ovl y r=true
  ·unfold mZ kE
   rw[CB l,CB l];rfl
  ·have n:=l
   unfold ovl at n;rw[C0]at n;by_cases C:r.At+r.b0<=y.At
   ·-- all to the right
    have f:∀w∈y::b,r.At+r.b0<=w.At:=λw a=>by
     rcases List.mem_cons.1 a with rfl|a
     ·exact C
     have:=c.head w a;omega
    rw[vJ j c f,xj j c f];show some (dr out (r::y::b))=_;have hfirst:dr out (r::y::b)=dr (out++[r]) (y::b):=by
     conv=>lhs;unfold dr
     split
     ·rename_i z d;rw[C9 (by have:=(u z d).2;omega)]
     rfl
    rw[hfirst];by_cases e:r.At+r.b0=y.At
    ·have:dr (out++[r]) (y::b)=dr (out++[⟨r.At,r.b0+y.b0⟩]) b:=by
      conv=>lhs;unfold dr
      simp[e]
     rw[this,jF b _ c.tail λz d w a=>by
       simp at d;subst d;have:=c.head w a;simp only;omega]
     simp[e]
    rw[jF (y::b) (out++[r]) c λz d w a=>by
      simp at d;subst d;rcases List.mem_cons.1 a with rfl|a
      · exact e
      have:=c.head w a;omega]
    simp[e]
   have F:y.At+y.b0<=r.At:=ω
   have i:∀t,dr out (y::t)=dr (out++[y]) t:=λt=>by
    conv=>lhs;unfold dr
    split
    ·rename_i z d;rw[C9 (by have:=(u z d).1 y (W1 ..);omega)]
    rfl
   have G:(mZ r (y::b) false).map (dr out)=(mZ r b false).map (dr (out++[y])):=by
    conv=>lhs;unfold mZ
    rw[C9 l,C9 (by simp;omega),Option.map_map]
    congr 1
    funext t
    exact i t
   rw[G];unfold kE;rw[C9 l];by_cases e:y.At+y.b0=r.At
   ·rw[CB e]
    by_cases o:∃w,b.head? = some w/\ovl w r=true
    ·obtain⟨w,a,p⟩:=o
     cases b with
     | nil=>cases a
     | cons g k=>
      obtain rfl:g=w:=by simpa using a
      have H:=c.head g (W1 ..);have J:=c.tail.2 g (W1 ..);have q:=p;unfold ovl at q;rw[C0]at q;unfold mZ kE;rw[CB p,CB (by unfold ovl;rw[C0];simp only;omega)]
      rfl
    have f:∀w∈b,r.At+r.b0<=w.At:=by
     cases b with
     | nil=>intro w a;cases a
     | cons g k=>
      have H:=c.head g (W1 ..);have J:=c.tail.2 g (W1 ..);have E:¬ovl g r=true:=λh=>o ⟨g,rfl,h⟩
      unfold ovl at E;rw[C0]at E;intro w a;rcases List.mem_cons.1 a with rfl|a
      ·omega
      have:=c.tail.head w a;omega
    rw[vJ j c.tail f,xj (r:=⟨y.At,y.b0+r.b0⟩) (by simp only;omega) c.tail λw a=>by have:=f w a;simp only;omega];show some (dr (out++[y]) (r::b))=_;have K:dr (out++[y]) (r::b)=dr (out++[⟨y.At,y.b0+r.b0⟩]) b:=by
     conv=>lhs;unfold dr
     simp[e]
    rw[K];cases b with
    | nil=>simp[dr]
    | cons g k=>
     by_cases A:y.At+(y.b0+r.b0)=g.At
     ·have D:dr (out++[⟨y.At,y.b0+r.b0⟩]) (g::k)=dr (out++[⟨y.At,y.b0+r.b0+g.b0⟩]) k:=by
       conv=>lhs;unfold dr
       simp[A]
      rw[D,jF k _ c.tail.tail λz d w a=>by
        simp at d;subst d;have:=c.tail.head w a;simp only;omega]
      simp[A]
     rw[jF (g::k) _ c.tail λz d w a=>by
       simp at d;subst d;simp only;rcases List.mem_cons.1 a with rfl|a
       · exact A
       have:=c.tail.head w a;have:=f g (W1 ..);have:=c.tail.2 g (W1 ..);omega]
     simp[A]
   rw[C9 e,C9 ω,C9 ω];exact Bg (pages:=pages) c.tail j λz d=>by
    simp at d;subst d;exact⟨c.head,ω⟩
def gg(k:af)(f:Int):af:=if(pagesOn k.F.Q f).length=0 then {k with F:=⟨⟨k.F.V.S.set f.toNat (List.replicate 16 0),k.F.V.a3.set f.toNat false⟩,k.F.Q⟩} else k
def qz(k:af)(p:Int):af:={k with F:=⟨k.F.V,⟨k.F.Q.J.set p.toNat ⟨0,0⟩⟩⟩}
def ed(k:af)(p:Int):af:=if(ac k.F.Q p).j=0 then k else gg (qz k p) (ac k.F.Q p).e
def bz{α:Type}[Inhabited α](xs:List α)(i j:Nat)(x:α):nth (xs.set i x) j=if i=j/\j<xs.length then x else nth xs j:=by
 unfold nth;rw[W2,W2,Z3];by_cases h:i=j
 ·subst h
  by_cases a:i<xs.length
  ·simp[a]
  simp[a]
 simp[h]
def mU(k:af)(f:Int):(gg k f).F.Q=k.F.Q/\(gg k f).Calls=k.Calls/\(gg k f).w=k.w/\(gg k f).F.V.S.length=k.F.V.S.length/\(gg k f).F.V.a3.length=k.F.V.a3.length:=by
 unfold gg;split<;>simp
def lG(k:af)(p:Int):(ed k p).F.Q.J.length=k.F.Q.J.length/\(ed k p).Calls=k.Calls/\(ed k p).w=k.w:=by
 unfold ed;split
 ·exact⟨rfl,rfl,rfl⟩
 obtain⟨a,b,c,-⟩:=mU (qz k p) (ac k.F.Q p).e;rw[a,b,c];simp[qz]
def a8{k:af} : ay k=true↔(∀j,j<k.w.length->0<=nth k.w j)/\cZ k.F.V=true/\gH k.F.Q k.F.V.a3.length=true/\(∀j,j<k.F.V.a3.length->nth k.F.V.a3 j=decide (0<(pagesOn k.F.Q (j:Int)).length))/\0<=k.Calls/\k.Calls<=100000/\k.w.length<=40:=by
 unfold ay dn;simp only[I0,cA,C0,pw,beq_iff_eq,and_assoc]
def aS{f:aV} : cZ f=true↔1<=f.S.length/\f.S.length<=32/\f.a3.length=f.S.length/\∀j,j<f.S.length->gY (nth f.S j) (nth f.a3 j)=true:=by
 unfold cZ;simp only[I0,C0,v4,and_assoc];refine and_congr Iff.rfl (and_congr Iff.rfl (and_congr_right λe=>⟨λh j a=>?_,λh q c=>?_⟩))
 ·exact h _ (Z1 (wD (ao a) (ao ω)))
 obtain⟨j,a⟩:=List.mem_iff_getElem?.1 c;obtain⟨b,d⟩:=List.getElem?_zip_eq_some.1 a;have:=h j (O2.1 b).1
 rwa [bm b,bm d]at this
def br{t:aG}{a:Int} : gH t a=true↔(∀j,j<t.J.length->kH a (nth t.J j)=true)/\1<=t.J.length/\t.J.length<=32:=by
 unfold gH;simp only[I0,cA,C0]
def dK{t:aG}{f:Int} : 0<(pagesOn t f).length↔∃q,q<t.J.length/\(nth t.J q).j≠0/\(nth t.J q).e=f:=by
 unfold pagesOn kh;rw[C1,List.length_pos_iff_exists_mem];simp[LM]
def bI{k:af}{p:Int}(h:ay k=true)(b:(ac k.F.Q p).j≠0):0<=p/\p<k.F.Q.J.length/\ac k.F.Q p=nth k.F.Q.J p.toNat/\0<=(ac k.F.Q p).e/\(ac k.F.Q p).e<k.F.V.a3.length:=by
 obtain⟨-,-,c,-⟩:=a8.1 h;have a:0<=p/\p<k.F.Q.J.length:=by
  by_cases a:0<=p/\p<k.F.Q.J.length
  ·exact a
  unfold ac at b;rw[C9 a]at b;exact absurd rfl b
 have d:ac k.F.Q p=nth k.F.Q.J p.toNat:=by unfold ac;rw[CB a]
 have:=(br.1 c).1 p.toNat ω;rw[d]at b |-;unfold kH at this;rw[C0]at this;exact⟨a.1,a.2,rfl,this.2.2.2 b⟩
def yE{k:af}(p:Int)(h:ay k=true):ay (ed k p)=true:=by
 unfold ed;split
 ·exact h
 rename_i t;obtain⟨E,F,G,l,n⟩:=bI h t;obtain⟨u,w,H,y,A,B,C⟩:=a8.1 h;obtain⟨J,K,L,M⟩:=aS.1 w;obtain⟨N,O,P⟩:=br.1 H;rw[G]at t l n |-;generalize Q:(nth k.F.Q.J p.toNat).e=f at l n;have g:∀q,nth (k.F.Q.J.set p.toNat ⟨0,0⟩) q=if p.toNat=q then⟨0,0⟩ else nth k.F.Q.J q:=λq=>by
  rw[bz];by_cases r:p.toNat=q
  ·rw[CB ⟨r,ω⟩,CB r]
  rw[C9 (λe=>r e.1),C9 r]
 have b:∀j:Int,0<(pagesOn (⟨k.F.Q.J.set p.toNat ⟨0,0⟩⟩ : aG) j).length↔∃q,q<k.F.Q.J.length/\q≠p.toNat/\(nth k.F.Q.J q).j≠0/\(nth k.F.Q.J q).e=j:=λj=>by
  rw[dK];simp only[U1,g]
  grind
 have c:∀j:Int,0<(pagesOn k.F.Q j).length↔∃q,q<k.F.Q.J.length/\(nth k.F.Q.J q).j≠0/\(nth k.F.Q.J q).e=j:=λj=>dK
 have i:gH ⟨k.F.Q.J.set p.toNat ⟨0,0⟩⟩ k.F.V.a3.length=true:=by
  rw[br];simp only[U1,g];refine⟨λj d=>?_,O,P⟩;split
  ·unfold kH;simp
  exact N j d
 unfold gg;split
 ·rename_i o
  rw[a8];simp only[qz,U1]at o |-;refine⟨u,?_,i,λj d=>?_,A,B,C⟩
  ·rw[aS]
   simp only[U1,bz];refine⟨J,K,L,λj d=>?_⟩;by_cases a:f.toNat=j
   ·rw[CB ⟨a,d⟩,CB ⟨a,ω⟩];decide
   rw[C9 (λe=>a e.1),C9 (λe=>a e.1)];exact M j d
  rw[bz];by_cases a:f.toNat=j
  ·rw[CB ⟨a,d⟩]
   have:(j:Int)=f:=ω
   rw[this];exact(U0 λR=>absurd o (Nat.ne_of_gt R)).symm
  rw[C9 (λe=>a e.1),y j d];refine decide_eq_decide.2 ?_;rw[c,b]
  grind
 rename_i o;rw[a8];simp only[qz]at o |-;refine⟨u,w,i,λj d=>?_,A,B,C⟩;rw[y j d];refine decide_eq_decide.2 ?_;by_cases a:f=j
 ·have D:0<(pagesOn (⟨k.F.Q.J.set p.toNat ⟨0,0⟩⟩ : aG) j).length:=by rw[<-a];exact Nat.pos_of_ne_zero o
  have:=(b j).1 D;constructor
  ·intro _;exact D
  intro _;rw[c];grind
 rw[c,b];grind
def bk{k:af}(h:ay k=true):af.sml k:=by
 obtain⟨g,b,c,i,l,n,o⟩:=a8.1 h;obtain⟨p,q,t,d⟩:=aS.1 b;obtain⟨u,w,y⟩:=br.1 c;refine⟨⟨⟨⟨ω,λr f=>?_⟩,(by omega:_<=1048576)⟩,⟨ω,λe _=>trivial⟩⟩,(by omega:_<=1048576)⟩;obtain⟨j,a⟩:=List.mem_iff_getElem?.1 f;have:=d j (O2.1 a).1;rw[bm a]at this;unfold gY at this;simp only[I0,C0]at this;show r.length<=1048576;omega
def sw{h:ab}(a:dA h=true):ay h.G=true:=by
 unfold dA lR at a;simp only[I0]at a
 grind
def Ap.cp{α:Type}{e:α->List C}{xs:List α}{sz by_:Nat}{K:List (List C)->Prop}(b:∀x,(e x).length=sz)(c:∀x,aZ (e x)=true)(d:xs.length<=1048576)(f:by_<=1000)(g:K (xs.map e)):Ap true [] (xs.map e) sz by_ K:=
 CU (λr a=>by cases a) (λr a=>by obtain⟨y,-,rfl⟩:=O4.1 a;exact b y) (λ_ r a=>by obtain⟨y,-,rfl⟩:=O4.1 a;exact c y) (by simp;omega) (by simp only[C1,List.length_nil,Z6];exact zh d f) rfl g
def CP:type_of% @Ap.cp:=@Ap.cp
def Fl.cp{α:Type}{e:α->List C}{xs:List α}{sz by_:Nat}{X:Prop}(a:∀x,(e x).length=sz)(b:∀x,aZ (e x)=true)(c:xs.length<=1048576)(d:by_<=1000)(f:X):Fl (xs.map e) sz by_ X:=
 Fl.mk (λr g=>by obtain⟨y,-,rfl⟩:=O4.1 g;exact⟨a y,b y⟩) (by simp;omega) (by simp only[C1];exact zh c d) f
def CX:type_of% @Fl.cp:=@Fl.cp
def Ap.sn{rows b:List (List C)}{r:List C}{sz by_:Nat}{K:List (List C)->Prop}(h1:∀r∈rows,r.length=sz)(c:r.length=sz)(d:rows.length+1<=1048576)(e:by_<=1000)(a:b=rows++[r])(f:K b):Ap false rows [r] sz by_ K:=
 CU h1 (λg a=>by rw[O1.1 a];exact c) (λh=>by cases h) (by simp;omega) (zh (by simpa using d) e) a f
def jQ(xs:List Int)(a:xs.length<=1048576):ar Tryz.prog 211 false [.val none (aD .X xs)] .one (aD .own xs):=by
 refine fO 6 [] Tryz.func211 rfl ?_ (.inr (bH _))
 repeat'(first|refine gP ?_|(conv=>whnf);refine CP (λ_=>rfl) (λ_=>rfl) a (by decide) ?_)
 rfl
def Ei(t:aG)(a:aG.sml t):ar Tryz.prog 471 false [.val (some 1) (aG.enc .X t)] .agg (aG.enc .own t):=by
 have b:=a.1;refine fO 8 [] Tryz.func471 rfl ?_ (.inr (aG.enc_fr _))
 repeat'(first|refine gP ?_|(conv=>whnf);refine CP (λ_=>rfl) (λ_=>rfl) b (by decide) ?_)
 rfl
def xM(t:aG)(a:aG.sml t):ar Tryz.prog 361 false [.val (some 1) (aG.enc .X t)] .agg (aG.enc .own t):=by
 have b:=a.1;refine fO 8 [] Tryz.func361 rfl ?_ (.inr (aG.enc_fr _))
 repeat'(first|refine gP ?_|(conv=>whnf);refine CP (λ_=>rfl) (λ_=>rfl) b (by decide) ?_)
 rfl
def aP{α:Type}{e:α->List C}{l:List α}{n:Nat}(h:∀x,(e x).length=n):∀r∈l.map e,r.length=n:=λr a=>by
 obtain⟨y,-,rfl⟩:=O4.1 a;exact h y
def gc{α β:Type}[Inhabited α]{xs:List α}{f:α->β}{i:Nat}(a:i<xs.length):(xs.take (i+1)).map f=(xs.take i).map f++[f (nth xs i)]:=by
 rw[V5,ao a];simp
def BC(f:aV)(a:aV.sml f):ar Tryz.prog 470 false [.val (some 2) (aV.enc .X f)] .agg (aV.enc .own f):=by
 have g:=a.1.1;have d:f.a3.length<=1048576:=a.2;refine fO 30 [(5,10,[17,18,19,20,21,22,23,24,25,26])] Tryz.func470 rfl ?_ (.inr (aV.enc_fr _))
 repeat'(first|(conv=>whnf);refine CP (λ_=>rfl) (λ_=>rfl) d (by decide) ?_)
 (conv=>whnf)
 refine CF (ι:=Nat) (λi=>[(1,.H .box (aV.enc .X f)),(2,.H .box [.z,.z]),(3,.H .box [.s .own ((f.S.take i).map (aD .own)),.s .own (f.a3.map (rB .own))]),(4,.H .one [I ((i:Nat):Int)])]) (λi=>i<=f.S.length) (λi=>f.S.length - i) (0) ?_ (W0 _) λi h=>?_
 ·exact wB
 by_cases b:i<f.S.length
 ·have e:=ao b
  have c:(nth f.S i).length<=1048576:=a.1.2 _ (am b)
  repeat'(first|refine gE ?_|(conv=>whnf);first|refine CX (λ_=>rfl) (λ_=>rfl) c (by decide) ?_|refine Ap.sn (aP λ_=>rfl) rfl (by simp;omega) (by decide) (gc b) ?_)
  ((conv=>whnf);refine CE (i+1) ω ω ?_;(exact wB))
 repeat'(first|refine gE ?_|fail)
 obtain rfl:i=f.S.length:=ω
 rw[C5]
 rfl
def wc(f:aV)(a:aV.sml f):ar Tryz.prog 360 false [.val (some 2) (aV.enc .X f)] .agg (aV.enc .own f):=by
 have g:=a.1.1;have d:f.a3.length<=1048576:=a.2;refine fO 27 [(5,5,[18,19,20,21,22])] Tryz.func360 rfl ?_ (.inr (aV.enc_fr _))
 repeat'(first|refine gP ?_|(conv=>whnf);refine CP (λ_=>rfl) (λ_=>rfl) d (by decide) ?_)
 (conv=>whnf)
 refine CF (ι:=Nat) (λi=>[(2,.H .box [.z,.z]),(3,.H .box [.s .own ((f.S.take i).map (aD .own)),.s .own (f.a3.map (rB .own))]),(12,.H .one (jI .X f.S)),(13,.H .one [I (f.S.length)]),(14,.H .one [I ((i:Nat):Int)])]) (λi=>i<=f.S.length) (λi=>f.S.length - i) (0) ?_ (W0 _) λi h=>?_
 ·exact wB
 by_cases b:i<f.S.length
 ·have e:=ao b
  have c:(nth f.S i).length<=1048576:=a.1.2 _ (am b)
  repeat'(first|refine gE ?_|(conv=>whnf);first|refine C8 (jQ (nth f.S i) c) ?_|refine Ap.sn (aP λ_=>rfl) rfl (by simp;omega) (by decide) (gc b) ?_)
  ((conv=>whnf);refine CE (i+1) ω ω ?_;(exact wB))
 repeat'(first|refine gE ?_|fail)
 obtain rfl:i=f.S.length:=ω
 rw[C5]
 rfl
def th(m:aR)(a:aR.sml m):ar Tryz.prog 363 false [.val (some 3) (aR.enc .X m)] .agg (aR.enc .own m):=by
 refine fO 10 [(1,5,[3,4,5,6,7])] Tryz.func363 rfl ?_ (.inr (aR.enc_fr _))
 repeat'(first|refine gP ?_|(conv=>whnf);first|refine C8 (BC m.V a.1) ?_|refine C8 (Ei m.Q a.2) ?_)
 rfl
def nl(m:aR)(a:aR.sml m):ar Tryz.prog 210 false [.val (some 3) (aR.enc .X m)] .agg (aR.enc .own m):=by
 refine fO 10 [(1,5,[3,4,5,6,7])] Tryz.func210 rfl ?_ (.inr (aR.enc_fr _))
 repeat'(first|refine gP ?_|(conv=>whnf);first|refine C8 (wc m.V a.1) ?_|refine C8 (xM m.Q a.2) ?_)
 rfl
def Dc(k:af)(a:af.sml k):ar Tryz.prog 218 false [.val (some 5) (af.enc .X k)] .agg (af.enc .own k):=by
 have b:k.w.length<=1048576:=a.2;refine fO 13 [(1,9,[3,4,5,6,7,8,9,10,11])] Tryz.func218 rfl ?_ (.inr (Cb _))
 repeat'(first|refine gP ?_|(conv=>whnf);first|refine C8 (th k.F a.1) ?_|refine CX (λ_=>rfl) (λ_=>rfl) b (by decide) ?_)
 rfl
def iD(k:af)(a:af.sml k):ar Tryz.prog 65 false [.val (some 5) (af.enc .X k)] .agg (af.enc .own k):=by
 refine fO 12 [(1,8,[3,4,5,6,7,8,9,10])] Tryz.func65 rfl ?_ (.inr (Cb _))
 repeat'(first|refine gP ?_|(conv=>whnf);first|refine C8 (nl k.F a.1) ?_|refine C8 (jQ k.w a.2) ?_)
 rfl
def fA(k:af)(p:Int)(a:aG.sml k.F.Q):ar Tryz.prog 488 false [.ptr (af.enc .X k),.val none [I p]] .one [I (ac k.F.Q p).j]:=by
 refine fO 13 [] Tryz.func488 rfl ?_
 repeat'(first|refine gP ?_|(conv=>whnf);refine C8 (cR k.F.Q p a) ?_)
 rfl
def mg(k:af)(b:af.sml k):ar Tryz.prog 455 false [.val (some 5) (af.enc .X k)] .one [B (ay k&&decide (k.Calls<100000))]:=by
 have a:=mz k b;cases e:ay k<;>rw[e]at a
 ·refine fO 10 [] Tryz.func455 rfl ?_
  repeat'(first|refine gP ?_|(conv=>whnf);first|with_reducible refine Bf.D (λc=>?_) (λc=>?_)|refine C8 (a) ?_)
  all_goals rfl
 refine fO 10 [] Tryz.func455 rfl ?_
 repeat'(first|refine gP ?_|(conv=>whnf);refine C8 (a) ?_)
 all_goals rfl
def kO(k:af)(b:af.sml k):ar Tryz.prog 212 false [.val (some 5) (af.enc .X k)] .one [B (decide (k.Calls≠100000)&&ay k)]:=by
 have c:=qQ k b;refine fO 10 [] Tryz.func212 rfl ?_
 repeat'(first|refine gP ?_|(conv=>whnf);with_reducible refine Bf.N (λa=>?_) (λa=>?_))
 all_goals(exact X0 (λz=>[B z]) ((by simp[*])))
def uD{k:af}{f:Int}(h:(pagesOn k.F.Q f).length=0):af.enc .own (gg k f)=[.s .own ((k.F.V.S.map (aD .own)).set f.toNat (aD .own (List.replicate 16 0))),.s .own ((k.F.V.a3.map (rB .own)).set f.toNat (rB .own false)),.s .own (k.F.Q.J.map (bh.enc .own)),I k.Calls,.s .own (k.w.map (rI .own))]:=by
 unfold gg;rw[CB h];simp only[af.enc,I6]
def x9{k:af}{f:Int}(h:¬(pagesOn k.F.Q f).length=0):af.enc .own (gg k f)=af.enc .own k:=by
 unfold gg;rw[C9 h]
def Dz(k:af)(f:Int)(a:aG.sml k.F.Q)(b:0<=f/\f<k.F.V.S.length/\f<k.F.V.a3.length) :
  aT Tryz.prog 489 false [.ptr (af.enc .own k),.val none [I f]] [.ptr (af.enc .own (gg k f)),.val none [I f]] (.tup []) []:=by
 have c:=ao (xs:=k.F.V.S) (i:=f.toNat) ω;have d:=ao (xs:=k.F.V.a3) (i:=f.toNat) ω;by_cases e:(pagesOn k.F.Q f).length=0
 ·rw[uD e]
  refine fM 30 [] [(2,8,[21,22,23,24,25,26,27,28])] [(0,0),(0,0)] Tryz.func489 rfl (λu q=>?_) (.inr trivial)
  repeat'(first|refine gB ?_|(conv=>whnf);first|with_reducible (first|refine CM b.1 (aa d) ?_|refine CM b.1 (aa c) ?_)|refine CG (ig k.F.Q f a) ⟨⟨rfl,Ca k.F.Q⟩,⟨rfl,rfl⟩,trivial⟩ ?_|refine CQ rfl rfl (aa c) rfl (I1 rfl) rfl ?_|refine CQ rfl rfl (aa d) rfl (I1 rfl) rfl ?_|refine Mk.mk 16 rfl rfl (by decide) (by decide) rfl ?_)
  refine CH rfl rfl ?_;exact wB
 rw[x9 e];refine fM 30 [] [(2,8,[21,22,23,24,25,26,27,28])] [(0,0),(0,0)] Tryz.func489 rfl (λu q=>?_) (.inr trivial)
 repeat'(first|refine gB ?_|(conv=>whnf);refine CG (ig k.F.Q f a) ⟨⟨rfl,Ca k.F.Q⟩,⟨rfl,rfl⟩,trivial⟩ ?_)
 refine CH rfl rfl ?_;exact wB
def BL(k:af)(f:Int)(a:aG.sml k.F.Q)(b:0<=f/\f<k.F.V.S.length/\f<k.F.V.a3.length) :
  aT Tryz.prog 213 false [.ptr (af.enc .own k),.val none [I f]] [.ptr (af.enc .own (gg k f)),.val none [I f]] (.tup []) []:=by
 have c:=ao (xs:=k.F.V.S) (i:=f.toNat) ω;have d:=ao (xs:=k.F.V.a3) (i:=f.toNat) ω;by_cases e:(pagesOn k.F.Q f).length=0
 ·rw[uD e]
  refine fM 30 [] [(2,8,[21,22,23,24,25,26,27,28])] [(0,0),(0,0)] Tryz.func213 rfl (λu q=>?_) (.inr trivial)
  repeat'(first|refine gB ?_|(conv=>whnf);first|with_reducible (first|refine CM b.1 (aa d) ?_|refine CM b.1 (aa c) ?_)|refine CG (kW k.F.Q f a) ⟨⟨rfl,Ca k.F.Q⟩,⟨rfl,rfl⟩,trivial⟩ ?_|refine CQ rfl rfl (aa c) rfl (I1 rfl) rfl ?_|refine CQ rfl rfl (aa d) rfl (I1 rfl) rfl ?_|refine Mk.mk 16 rfl rfl (by decide) (by decide) rfl ?_)
  refine CH rfl rfl ?_;exact wB
 rw[x9 e];refine fM 30 [] [(2,8,[21,22,23,24,25,26,27,28])] [(0,0),(0,0)] Tryz.func213 rfl (λu q=>?_) (.inr trivial)
 repeat'(first|refine gB ?_|(conv=>whnf);refine CG (kW k.F.Q f a) ⟨⟨rfl,Ca k.F.Q⟩,⟨rfl,rfl⟩,trivial⟩ ?_)
 refine CH rfl rfl ?_;exact wB
def LV(k:af)(p:Int):af.enc .own (qz k p)=[.s .own (k.F.V.S.map (aD .own)),.s .own (k.F.V.a3.map (rB .own)),.s .own ((k.F.Q.J.map (bh.enc .own)).set p.toNat (bh.enc .own ⟨0,0⟩)),I k.Calls,.s .own (k.w.map (rI .own))]:=by
 unfold qz;simp only[af.enc,I6]
def M5{k:af}{p:Int}(h:ay k=true):aG.sml (qz k p).F.Q:=by
 obtain⟨a,b,c⟩:=br.1 (a8.1 h).2.2.1;exact⟨by simp only[qz,U1];omega,λ_ _=>trivial⟩
def gz(n:Nat):aV:=⟨List.replicate n (List.replicate 16 0),List.replicate n false⟩
def eY(n:Nat):aG:=⟨List.replicate n ⟨0,0⟩⟩
def bK(p f:Nat)(a:List Int):af:=⟨⟨gz f,eY p⟩,0,a⟩
def fR:aE:=⟨List.replicate 4 []⟩
def eH(n:Nat):aK:=⟨List.replicate n [],List.replicate n []⟩
def newHeap(p f t:Nat)(lim:Int)(a:List Int):ab:=⟨bK p f a,[⟨0,p⟩],[],[],[],List.replicate t fR,eH t,⟨16,[]⟩,0,0,lim,1,false,⟨⟨0,0,[]⟩,0,0⟩⟩
def cT{α:Type}[Inhabited α]{n j:Nat}{y:α}(a:j<n):nth (List.replicate n y) j=y:=bm (by rw[List.getElem?_replicate,CB a])
def MS(n:Nat)(f:Int):pagesOn (eY n) f=[]:=by
 unfold pagesOn kh;rw[List.map_eq_nil_iff,List.filter_eq_nil_iff];intro i b;have a:i<n:=by simpa[eY] using b
 unfold LM;rw[show nth (eY n).J i = ⟨0,0⟩ from cT a];simp
def BR{p f:Nat}(c:1<=p/\p<=32)(d:1<=f/\f<=32):ay (bK p f [])=true:=by
 rw[a8];refine⟨λj b=>by simp[bK]at b,aS.2 ⟨by simp[bK,gz];omega,by simp[bK,gz];omega,by simp[bK,gz],λj b=>?_⟩,br.2 ⟨λj b=>?_,by simp[bK,eY];omega,by simp[bK,eY];omega⟩,λj b=>?_,by simp[bK],by simp[bK],by simp[bK]⟩
 ·have a:j<f:=by simpa[bK,gz] using b
  rw[show nth (bK p f []).F.V.S j=List.replicate 16 0 from cT a,show nth (bK p f []).F.V.a3 j=false from cT a]
  decide
 ·have a:j<p:=by simpa[bK,eY] using b
  rw[show nth (bK p f []).F.Q.J j = ⟨0,0⟩ from cT a];unfold kH;rw[C0];exact⟨by decide,by decide,λ_=>rfl,λh=>absurd rfl h⟩
 have a:j<f:=by simpa[bK,gz] using b
 rw[show nth (bK p f []).F.V.a3 j=false from cT a,show(bK p f []).F.Q=eY p from rfl,MS]
 rfl
def GF(w:World)(q:Nat)(c:Array Obj):bS NO w (Sort.grow (w.drewN q) c):=by
 have a:∀b,b<w.heap.size->(Sort.grow (w.drewN q) c).heap[b]? = w.heap[b]?:=λb a=>Sort.heap_grow_old (w.drewN q) c a
 refine⟨rfl,rfl,rfl,by show w.heap.size<=(w.heap++c).size;simp,λb h _=>a b h,λb o h _=>?_,λb o h _=>?_⟩
 ·show World.cell? _ _=World.cell? w _
  unfold World.cell?;simp only[a b h]
 refine Prod.ext ?_ ?_
 ·show World.frozen? _ _=World.frozen? w _
  unfold World.frozen?;simp only[a b h]
 show mp _ b=mp w b;unfold mp;rw[a b h]
def Ky(c:Nat)(W:World):Calls Tryz.prog 423 #[.slice none 0 c] W λe g=>∃B q h,e=.returned (.slice B 0 0)/\g=Sort.grow (W.drewN q) h:=by
 have q22:∀(w:World)(a:Option Addr)(n c b d:Nat),(binOp .eql 33 (.slice a n c) (.slice none b d)).run Tryz.prog w=.ok (.bool a.isNone) w:=λw a n c b d=>Lib.run_eql_slice_nil w _ _ a n c b d Tryz.underlying33
 go_enter Tryz.func423,Tryz.ntmps423
 go_wp2
 go_ret
 exact⟨none,0,#[],rfl,by simp[Sort.grow,World.drewN]⟩
def HC(a:Addr)(c:Nat)(W:World):Calls Tryz.prog 423 #[.slice (some a) 0 c] W λe g=>∃B q h,e=.returned (.slice B 0 0)/\g=Sort.grow (W.drewN q) h:=by
 have q22:∀(w:World)(a:Option Addr)(n c b d:Nat),(binOp .eql 33 (.slice a n c) (.slice none b d)).run Tryz.prog w=.ok (.bool a.isNone) w:=λw a n c b d=>Lib.run_eql_slice_nil w _ _ a n c b d Tryz.underlying33
 go_enter Tryz.func423,Tryz.ntmps423
 go_wp2
 go_ret
 exact⟨some ⟨W.heap.size,0,none⟩,0,#[.cells #[] 3],rfl,by rw[Sort.alloc_eq_grow];rfl⟩
def GB(xs:List Int)(o:xs.length<=1048576):ar Tryz.prog 423 false [.val none (aD .X xs)] .one (aD .own xs):=by
 by_cases d:xs=[]
 ·subst d
  refine⟨⟨_,Tryz.func423,by kernel_rfl,by kernel_rfl⟩,λw S p t g=>?_⟩
  match p,g with
  | [v],⟨g,_⟩=>
   have c:=bM.rep1 (show bM w S NO none [C.s .X []] v from g);obtain⟨l,b,rfl⟩:=c.slice;have r:Calls Tryz.prog 423 #[.slice l 0 b] w λe n=>∃B q i,e=.returned (.slice B 0 0)/\n=Sort.grow (w.drewN q) i:=by
    cases l with
    | none=>exact Ky b w
    | some a=>exact HC a b w
   refine r.mono λe n ⟨B,q,i,d,j⟩=>?_
   subst j;exact⟨.slice B 0 0,d,GF w q i,NO,NO,λ_ _ h=>h.elim,λ_ _ h=>h.elim,λ_ _ h=>h.elim,rfl,row1 (.nil _ .own B trivial)⟩
 have k:xs.map (rI .X)≠[]:=λe=>d (List.map_eq_nil_iff.1 e)
 refine fO 8 [] Tryz.func423 rfl ?_ (.inr (bH _))
 repeat'(first|refine gP ?_|(conv=>whnf);first|refine Nn.mk k ?_|refine CP (λ_=>rfl) (λ_=>rfl) o (by decide) ?_)
 rfl
def qT(p:bY)(a:bY.sml p):ar Tryz.prog 288 false [.val (some 3) (bY.enc .X p)] .agg (bY.enc .own p):=by
 have b:p.S.length<=1048576:=a;refine fO 8 [] Tryz.func288 rfl ?_ (.inr (bY.enc_fr _))
 repeat'(first|refine gP ?_|(conv=>whnf);refine C8 (GB p.S b) ?_)
 rfl
def sU(j:cn)(a:cn.sml j):ar Tryz.prog 200 false [.val (some 5) (cn.enc .X j)] .agg (cn.enc .own j):=by
 refine fO 8 [] Tryz.func200 rfl ?_ (.inr (cn.enc_fr _))
 repeat'(first|refine gP ?_|(conv=>whnf);refine C8 (qT j.W a) ?_)
 rfl
def jq(c:aE)(d:aE.sml c):ar Tryz.prog 219 false [.val (some 1) (aE.enc .X c)] .agg (aE.enc .own c):=by
 have g:=d.1;refine fO 26 [(5,10,[13,14,15,16,17,18,19,20,21,22])] Tryz.func219 rfl ?_ (.inr (aE.enc_fr _))
 repeat'(first|refine gP ?_|fail)
 (conv=>whnf)
 refine CF (ι:=Nat) (λi=>[(1,.H .box (aE.enc .X c)),(2,.H .box [.z]),(3,.H .box [.s .own ((c.b.take i).map (aD .own))]),(4,.H .one [I ((i:Nat):Int)])]) (λi=>i<=c.b.length) (λi=>c.b.length - i) (0) ?_ (W0 _) λi h=>?_
 ·exact wB
 by_cases a:i<c.b.length
 ·have e:=ao a
  have b:(nth c.b i).length<=1048576:=d.2 _ (am a)
  repeat'(first|refine gE ?_|(conv=>whnf);first|refine CX (λ_=>rfl) (λ_=>rfl) b (by decide) ?_|refine Ap.sn (aP λ_=>rfl) rfl (by simp;omega) (by decide) (gc a) ?_)
  ((conv=>whnf);refine CE (i+1) ω ω ?_;(exact wB))
 repeat'(first|refine gE ?_|fail)
 obtain rfl:i=c.b.length:=ω
 rw[C5]
 rfl
def xm(c:aE)(d:aE.sml c):ar Tryz.prog 197 false [.val (some 1) (aE.enc .X c)] .agg (aE.enc .own c):=by
 have g:=d.1;refine fO 23 [(5,5,[14,15,16,17,18])] Tryz.func197 rfl ?_ (.inr (aE.enc_fr _))
 repeat'(first|refine gP ?_|fail)
 (conv=>whnf)
 refine CF (ι:=Nat) (λi=>[(2,.H .box [.z]),(3,.H .box [.s .own ((c.b.take i).map (aD .own))]),(8,.H .one (jI .X c.b)),(9,.H .one [I (c.b.length)]),(10,.H .one [I ((i:Nat):Int)])]) (λi=>i<=c.b.length) (λi=>c.b.length - i) (0) ?_ (W0 _) λi h=>?_
 ·exact wB
 by_cases a:i<c.b.length
 ·have e:=ao a
  have b:(nth c.b i).length<=1048576:=d.2 _ (am a)
  repeat'(first|refine gE ?_|(conv=>whnf);first|refine C8 (jQ (nth c.b i) b) ?_|refine Ap.sn (aP λ_=>rfl) rfl (by simp;omega) (by decide) (gc a) ?_)
  ((conv=>whnf);refine CE (i+1) ω ω ?_;(exact wB))
 repeat'(first|refine gE ?_|fail)
 obtain rfl:i=c.b.length:=ω
 rw[C5]
 rfl
def gl(m:aK)(b:aK.sml m):ar Tryz.prog 220 false [.val (some 2) (aK.enc .X m)] .agg (aK.enc .own m):=by
 have h:=b.1.1;have g:=b.2.1;refine fO 46 [(5,10,[14,15,16,17,18,19,20,21,22,23]),(9,10,[33,34,35,36,37,38,39,40,41,42])] Tryz.func220 rfl ?_ (.inr (aK.enc_fr _))
 repeat'(first|refine gP ?_|fail)
 (conv=>whnf)
 refine CF (ι:=Nat) (λi=>[(1,.H .box (aK.enc .X m)),(2,.H .box [.z,.z]),(3,.H .box [.s .own ((m.U.take i).map (cN .own)),.z]),(4,.H .one [I ((i:Nat):Int)])]) (λi=>i<=m.U.length) (λi=>m.U.length - i) (0) ?_ (W0 _) λi j=>?_
 ·exact wB
 by_cases c:i<m.U.length
 ·have d:=ao c
  have a:(nth m.U i).length<=1048576:=(b.1.2 _ (am c)).1
  repeat'(first|refine gE ?_|(conv=>whnf);first|refine CX (λ_=>rfl) (λ_=>rfl) a (by decide) ?_|refine Ap.sn (aP λ_=>rfl) rfl (by simp;omega) (by decide) (gc c) ?_)
  ((conv=>whnf);refine CE (i+1) ω ω ?_;(exact wB))
 obtain rfl:i=m.U.length:=ω
 rw[C5]
 repeat'(first|refine gE ?_|fail)
 (conv=>whnf)
 refine CF (ι:=Nat) (λk=>[(1,.H .box (aK.enc .X m)),(2,.H .box [.z,.z]),(3,.H .box [.s .own (m.U.map (cN .own)),.s .own ((m.a1.take k).map (aD .own))]),(5,.H .one [I ((k:Nat):Int)])]) (λk=>k<=m.a1.length) (λk=>m.a1.length - k) (0) ?_ (W0 _) λk l=>?_
 ·exact wB
 by_cases e:k<m.a1.length
 ·have d:=ao e
  have a:(nth m.a1 k).length<=1048576:=b.2.2 _ (am e)
  repeat'(first|refine gE ?_|(conv=>whnf);first|refine CX (λ_=>rfl) (λ_=>rfl) a (by decide) ?_|refine Ap.sn (aP λ_=>rfl) rfl (by simp;omega) (by decide) (gc e) ?_)
  ((conv=>whnf);refine CE (k+1) ω ω ?_;(exact wB))
 repeat'(first|refine gE ?_|fail)
 obtain rfl:k=m.a1.length:=ω
 rw[C5]
 rfl
def Aa(m:aK)(b:aK.sml m):ar Tryz.prog 198 false [.val (some 2) (aK.enc .X m)] .agg (aK.enc .own m):=by
 have h:=b.1.1;have g:=b.2.1;refine fO 41 [(5,6,[16,17,18,19,20,21]),(10,5,[32,33,34,35,36])] Tryz.func198 rfl ?_ (.inr (aK.enc_fr _))
 repeat'(first|refine gP ?_|fail)
 (conv=>whnf)
 refine CF (ι:=Nat) (λi=>[(1,.H .box (aK.enc .X m)),(2,.H .box [.z,.z]),(3,.H .box [.s .own ((m.U.take i).map (cN .own)),.z]),(10,.H .one (x6 .X m.U)),(11,.H .one [I (m.U.length)]),(12,.H .one [I ((i:Nat):Int)])]) (λi=>i<=m.U.length) (λi=>m.U.length - i) (0) ?_ (W0 _) λi j=>?_
 ·exact wB
 by_cases c:i<m.U.length
 ·have d:=ao c
  have a:(nth m.U i).length<=1048576:=(b.1.2 _ (am c)).1
  repeat'(first|refine gE ?_|(conv=>whnf);first|refine CX (λ_=>rfl) (λ_=>rfl) a (by decide) ?_|refine Ap.sn (aP λ_=>rfl) rfl (by simp;omega) (by decide) (gc c) ?_)
  ((conv=>whnf);refine CE (i+1) ω ω ?_;(exact wB))
 obtain rfl:i=m.U.length:=ω
 rw[C5]
 repeat'(first|refine gE ?_|fail)
 (conv=>whnf)
 refine CF (ι:=Nat) (λk=>[(2,.H .box [.z,.z]),(3,.H .box [.s .own (m.U.map (cN .own)),.s .own ((m.a1.take k).map (aD .own))]),(26,.H .one (jI .X m.a1)),(27,.H .one [I (m.a1.length)]),(28,.H .one [I ((k:Nat):Int)])]) (λk=>k<=m.a1.length) (λk=>m.a1.length - k) (0) ?_ (W0 _) λk l=>?_
 ·exact wB
 by_cases e:k<m.a1.length
 ·have d:=ao e
  have a:(nth m.a1 k).length<=1048576:=b.2.2 _ (am e)
  repeat'(first|refine gE ?_|(conv=>whnf);first|refine C8 (jQ (nth m.a1 k) a) ?_|refine Ap.sn (aP λ_=>rfl) rfl (by simp;omega) (by decide) (gc e) ?_)
  ((conv=>whnf);refine CE (k+1) ω ω ?_;(exact wB))
 repeat'(first|refine gE ?_|fail)
 obtain rfl:k=m.a1.length:=ω
 rw[C5]
 rfl
def tN(q:bL)(b:bL.sml q):ar Tryz.prog 221 false [.val (some 2) (bL.enc .X q)] .agg (bL.enc .own q):=by
 have a:q.a6.length<=1048576:=b.1;refine fO 10 [(1,6,[3,4,5,6,7,8])] Tryz.func221 rfl ?_ (.inr (bL.enc_fr _))
 repeat'(first|refine gP ?_|(conv=>whnf);refine CX (λ_=>rfl) (λ_=>rfl) a (by decide) ?_)
 rfl
def Ao(q:bL)(b:bL.sml q):ar Tryz.prog 199 false [.val (some 2) (bL.enc .X q)] .agg (bL.enc .own q):=by
 have a:q.a6.length<=1048576:=b.1;refine fO 10 [(1,6,[3,4,5,6,7,8])] Tryz.func199 rfl ?_ (.inr (bL.enc_fr _))
 repeat'(first|refine gP ?_|(conv=>whnf);refine CX (λ_=>rfl) (λ_=>rfl) a (by decide) ?_)
 rfl
def ta(j:cn)(a:cn.sml j):ar Tryz.prog 222 false [.val (some 5) (cn.enc .X j)] .agg (cn.enc .own j):=by
 have b:j.W.S.length<=1048576:=a;refine fO 11 [] Tryz.func222 rfl ?_ (.inr (cn.enc_fr _))
 repeat'(first|refine gP ?_|(conv=>whnf);refine CP (λ_=>rfl) (λ_=>rfl) b (by decide) ?_)
 rfl
def wi(xs:List aA)(a:iH xs):ar Tryz.prog 196 false [.val none (bN .X xs)] .one (bN .own xs):=by
 have b:=a.1;refine fO 6 [] Tryz.func196 rfl ?_ (.inr (mt _))
 repeat'(first|refine gP ?_|(conv=>whnf);refine CP (λ_=>rfl) (λ_=>rfl) b (by decide) ?_)
 rfl
def Tk(h:ab)(a:C):List C:=[.s .own (h.G.F.V.S.map (aD .own)),.s .own (h.G.F.V.a3.map (rB .own)),.s .own (h.G.F.Q.J.map (bh.enc .own)),I h.G.Calls,.s .own (h.G.w.map (rI .own)),.s .own (h.q.map (aA.enc .own)),.s .own (h.K.map (ax.enc .own)),.s .own (h.M.map (aB.enc .own)),.s .own (h.O.map (bt.enc .own)),a,.s .X (h.y.U.map (cN .X)),.s .X (h.y.a1.map (aD .X)),I h.a9.c1,.s .X (h.a9.a6.map (aQ.enc .X)),I h.c0,I h.b3,I h.c3,I h.a,B h.o,I h.Y.W.a2,I h.Y.W.a0,.s .X (h.Y.W.S.map (rI .X)),I h.Y.b1,I h.Y.a]
def HW:List C:=[.z,.z,.z,I 0,.z,.z,.z,.z,.z,.z,.z,.z,I 0,.z,I 0,I 0,I 0,I 0,B false,I 0,I 0,.z,I 0,I 0]
def D2(h:ab)(c:ab.sml h):ar Tryz.prog 69 false [.val (some 24) (ab.enc .X h)] .agg (ab.enc .own h):=by
 obtain⟨d,e,g,j,k,b,l,n,o⟩:=c;have p:=e.1;have q:=g.1;have r:=j.1;have t:=k.1;have w:=b.1;refine fO 61 [] Tryz.func69 rfl ?_ (.inr (ab.enc_fr _))
 repeat'(first|(conv=>whnf);first|refine C8 (Dc h.G d) ?_|refine CP (λ_=>rfl) (λ_=>rfl) p (by decide) ?_|refine CP (λ_=>rfl) (λ_=>rfl) q (by decide) ?_|refine CP (λ_=>rfl) (λ_=>rfl) r (by decide) ?_|refine CP (λ_=>rfl) (λ_=>rfl) t (by decide) ?_)
 (conv=>whnf)
 refine CF (ι:=Nat) (λi=>[(1,.H .box (Tk h (.s .X (h.T.map (aE.enc .X))))),(2,.H .box HW),(3,.H .one ([.s .own ((h.T.take i).map (aE.enc .own))])),(4,.H .one [I ((i:Nat):Int)])]) (λi=>i<=h.T.length) (λi=>h.T.length - i) (0) ?_ (W0 _) λi y=>?_
 ·exact wB
 by_cases a:i<h.T.length
 ·have u:=ao a
  repeat'(first|refine gE ?_|(conv=>whnf);first|refine C8 (jq (nth h.T i) (b.2 _ (am a))) ?_|refine Ap.sn (aP λ_=>rfl) rfl (by simp;omega) (by decide) (gc a) ?_)
  ((conv=>whnf);refine CE (i+1) ω ω ?_;(exact wB))
 obtain rfl:i=h.T.length:=ω
 rw[C5]
 repeat'(first|refine gE ?_|(conv=>whnf);first|refine C8 (gl h.y l) ?_|refine C8 (tN h.a9 n) ?_|refine C8 (ta h.Y o) ?_)
 rfl
def rd(h:ab)(c:ab.sml h):ar Tryz.prog 59 false [.val (some 24) (ab.enc .X h)] .agg (ab.enc .own h):=by
 obtain⟨d,e,g,j,k,b,l,n,o⟩:=c;have p:=g.1;have q:=j.1;have r:=k.1;have u:=b.1;refine fO 59 [(11,5,[38,39,40,41,42])] Tryz.func59 rfl ?_ (.inr (ab.enc_fr _))
 repeat'(first|refine gP ?_|(conv=>whnf);first|refine C8 (iD h.G d) ?_|refine C8 (wi h.q e) ?_|refine CP (λ_=>rfl) (λ_=>rfl) p (by decide) ?_|refine CP (λ_=>rfl) (λ_=>rfl) q (by decide) ?_|refine CP (λ_=>rfl) (λ_=>rfl) r (by decide) ?_)
 (conv=>whnf)
 refine CF (ι:=Nat) (λi=>[(1,.H .box (ab.enc .X h)),(2,.H .box HW),(3,.H .box (Tk h (.s .own ((h.T.take i).map (aE.enc .own))))),(32,.H .one (pC .X h.T)),(33,.H .one [I (h.T.length)]),(34,.H .one [I ((i:Nat):Int)])]) (λi=>i<=h.T.length) (λi=>h.T.length - i) (0) ?_ (W0 _) λi w=>?_
 ·exact wB
 by_cases a:i<h.T.length
 ·have t:=ao a
  repeat'(first|refine gE ?_|(conv=>whnf);first|refine C8 (xm (nth h.T i) (b.2 _ (am a))) ?_|refine Ap.sn (aP λ_=>rfl) rfl (by simp;omega) (by decide) (gc a) ?_)
  ((conv=>whnf);refine CE (i+1) ω ω ?_;(exact wB))
 obtain rfl:i=h.T.length:=ω
 rw[C5]
 repeat'(first|refine gE ?_|(conv=>whnf);first|refine C8 (Aa h.y l) ?_|refine C8 (Ao h.a9 n) ?_|refine C8 (sU h.Y o) ?_)
 rfl
def Ap.sm{rows b:List (List C)}{r:List C}{sz by_:Nat}{K:List (List C)->Prop}(h1:∀r∈rows,r.length=sz)(c:r.length=sz)(d:rows.length+1<=1073741824)(e:by_<=1000)(a:b=rows++[r])(f:K b):Ap false rows [r] sz by_ K:=
 CU h1 (λg a=>by rw[O1.1 a];exact c) (λh=>by cases h) (by simp;omega) (Z4 (Nat.mul_le_mul (show rows.length+[r].length<=1073741824 by simpa using d) e) (by decide)) a f
def Kw(y:aA)(a:List aA)(r:aA)(out:List aA)(done:Bool):kE (y::a) r out done=if ovl y r then none
  else if y.At+y.b0=r.At then kE a ⟨y.At,y.b0+r.b0⟩ out done
  else if r.At+r.b0=y.At then kE a ⟨r.At,r.b0+y.b0⟩ out done
  else if y.At > r.At/\done=false then kE a r (out++[r,y]) true
  else kE a r (out++[y]) done:=by rw[kE]
def Ea{pages:Int}{xs:List aA}(h:bC pages xs=true):pn xs/\∀y∈xs,0<=y.At/\1<=y.b0/\y.At+y.b0<=pages:=by
 unfold bC at h;simp only[I0,C0]at h;have b:∀i,i<xs.length->1<=(nth xs i).b0/\0<=(nth xs i).At/\(nth xs i).At<=pages - (nth xs i).b0:=λi a=>by
  have:=dZ h.1 a;unfold gK rangeIn at this;simp only[I0,C0]at this;omega
 have d:∀i,i+1<xs.length->(nth xs i).At+(nth xs i).b0<(nth xs (i+1)).At:=λi a=>by
  have:=dZ h.1 a;unfold gK at this;simp only[I0,C0]at this;have:=this.2.resolve_left ω;simpa using this
 have k:∀j i,i<j->j<xs.length->(nth xs i).At+(nth xs i).b0<(nth xs j).At:=λj=>by
  induction j with
  | zero=>intro i a;omega
  | succ j l=>
   intro i a c;have n:=d j c;by_cases e:i=j
   ·subst e;exact n
   have o:=l i ω ω;have p:=b j ω;omega
 refine⟨⟨?_,λy f=>?_⟩,λy f=>?_⟩
 ·rw[List.pairwise_iff_getElem]
  intro i j a c g;have:=k j i g c
  rwa [bm (I2 a),bm (I2 c)]at this
 ·obtain⟨i,a,rfl⟩:=aL f
  exact(b i a).1
 obtain⟨i,a,rfl⟩:=aL f;have:=b i a;omega
def jb{α:Type}[Inhabited α]{xs:List α}{i:Nat}(a:i<xs.length):xs.drop i=nth xs i::xs.drop (i+1):=by
 rw[List.drop_eq_getElem_cons a,bm (I2 a)]
def dN(pages:Int)(xs:List aA)(r:aA):Option (List aA):=if bC pages xs=true/\rangeIn pages r=true then kE xs r [] false else none
def HG(xs:List aA)(o:Option (List aA)):List C:=bN .own (o.getD xs)++[B o.isSome]
def uU(xs:List aA)(o:Option (List aA)):ia (HG xs o):=aI (mt _) ⟨trivial,trivial⟩
end Go.Proofs.YtecefhjnejfheaaGreat.Ab
