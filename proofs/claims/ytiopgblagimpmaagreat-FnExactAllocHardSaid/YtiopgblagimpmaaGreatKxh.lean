/- Contracts of the laws' generic functions (eq). Printed by gen_con.py. No condition. -/
import Derived.Test.YtiopgblagimpmaaGreatKxd
import Derived.Test.YtiopgblagimpmaaGreatKxg
import Derived.Test.YtiopgblagimpmaaGreatKxe
import Derived.Test.YtiopgblagimpmaaGreatKxf
import Derived.Lib.Overlaps
import Derived.Lib.AppendZerosOnto
import Derived.Laws.NewBlocks
import Derived.Laws.Externs
set_option linter.unusedVariables false
set_option linter.defProp false
set_option linter.unusedSimpArgs false
set_option linter.constructorNameAsVariable false
namespace Go.Proofs.YtiopgblagimpmaaGreat.Ab
open Go.RowKit
set_option maxRecDepth 20000
set_option maxHeartbeats 2000000
theorem vY(a b:List Int)(p:lw a):zzA 178 false [.val none (aH .O a),.val none (aH .O b)] .one [B (decide (a=b))]:=by
 refine fO 26 [(6,9,[17,18,19,20,21,22,23,24,25])] Tryz.func178 rfl ?_;have r:a.length<=1048576:=p
 repeat'(first|refine gP ?_|with_reducible refine Bf.N (λh=>?_) (λh=>?_))
 ·refine I1 (λz=>[B z]) (Z0 λe=>?_).symm
  subst e;omega
 have k:a.length=b.length:=ω
 (conv=>whnf)
 refine CH (ι:=Nat) (λi=>[(0,.F .one (aH .O a)),(1,.F .one (aH .O b)),(5,.F .one [I (i:Nat)])]) (λi=>i<=a.length/\∀j,j<i->a[j]? = b[j]?) (λi=>a.length - i) 0 ?_ ⟨C1 _,λj q=>ω⟩ λi l=>?_
 ·exact wA
 obtain⟨l,c⟩:=l;by_cases g:i<a.length
 ·obtain⟨x,n⟩ : ∃x,a[i]? = some x:=⟨_,X3 g⟩
  obtain⟨y,o⟩ : ∃y,b[i]? = some y:=⟨_,X3 ω⟩
  repeat'(first|refine gE ?_|with_reducible (first|refine Bf.N (λh=>?_) (λh=>?_)|refine Bf.NB (λh=>?_) (λh=>?_)|refine Bf.D (λh=>?_) (λh=>?_)))
  all_goals first
   |(show [B false]=[B (decide (a=b))]
     refine I1 (λz=>[B z]) (Z0 λe=>?_).symm;subst e
     simp_all)
   | ((conv=>whnf)
      refine CF (i+1) ⟨ω,λj q=>?_⟩ ω ?_
      · rcases Nat.lt_or_ge j i with d|d
        · exact c j d
        obtain rfl:j=i:=ω
        rw[n,o]
        simp_all
      exact wA)
 refine ZE ?_
 refine I1 (λz=>[B z]) (O0 ?_).symm;refine List.ext_getElem? λj=>?_
 rcases Nat.lt_or_ge j i with d|d
 ·exact c j d
 rw[Z3 ω,Z3 ω]
theorem sQ(a b:List (List Int))(l:j7 a):zzA 317 false [.val none (dX .O a),.val none (dX .O b)] .one [B (decide (a=b))]:=by
 refine fO 27 [(6,10,[17,18,19,20,21,22,23,24,25,26])] Tryz.func317 rfl ?_;have r:a.length<=1048576:=l.1
 repeat'(first|refine gP ?_|with_reducible refine Bf.N (λh=>?_) (λh=>?_))
 ·refine I1 (λz=>[B z]) (Z0 λe=>?_).symm
  subst e;omega
 have n:a.length=b.length:=ω
 (conv=>whnf)
 refine CH (ι:=Nat) (λi=>[(0,.F .one (dX .O a)),(1,.F .one (dX .O b)),(5,.F .one [I (i:Nat)])]) (λi=>i<=a.length/\∀j,j<i->a[j]? = b[j]?) (λi=>a.length - i) 0 ?_ ⟨C1 _,λj q=>ω⟩ λi o=>?_
 ·exact wA
 obtain⟨o,c⟩:=o;by_cases g:i<a.length
 ·obtain⟨x,k⟩ : ∃x,a[i]? = some x:=⟨_,X3 g⟩
  obtain⟨y,p⟩ : ∃y,b[i]? = some y:=⟨_,X3 ω⟩
  repeat'(first|refine gE ?_|with_reducible (first|refine Bf.N (λh=>?_) (λh=>?_)|refine Bf.NB (λh=>?_) (λh=>?_)|refine Bf.D (λh=>?_) (λh=>?_))|refine CA (vY x y (l.2 x (I3 k))) ?_)
  all_goals first
   |(show [B false]=[B (decide (a=b))]
     refine I1 (λz=>[B z]) (Z0 λe=>?_).symm;subst e
     simp_all)
   | ((conv=>whnf)
      refine CF (i+1) ⟨ω,λj q=>?_⟩ ω ?_
      · rcases Nat.lt_or_ge j i with d|d
        · exact c j d
        obtain rfl:j=i:=ω
        rw[k,p]
        simp_all
      exact wA)
 refine ZE ?_
 refine I1 (λz=>[B z]) (O0 ?_).symm;refine List.ext_getElem? λj=>?_
 rcases Nat.lt_or_ge j i with d|d
 ·exact c j d
 rw[Z3 ω,Z3 ω]
theorem K3(a b:List Bool)(p:ow a):zzA 538 false [.val none (fX .O a),.val none (fX .O b)] .one [B (decide (a=b))]:=by
 refine fO 26 [(6,9,[17,18,19,20,21,22,23,24,25])] Tryz.func538 rfl ?_;have r:a.length<=1048576:=p
 repeat'(first|refine gP ?_|with_reducible refine Bf.N (λh=>?_) (λh=>?_))
 ·refine I1 (λz=>[B z]) (Z0 λe=>?_).symm
  subst e;omega
 have k:a.length=b.length:=ω
 (conv=>whnf)
 refine CH (ι:=Nat) (λi=>[(0,.F .one (fX .O a)),(1,.F .one (fX .O b)),(5,.F .one [I (i:Nat)])]) (λi=>i<=a.length/\∀j,j<i->a[j]? = b[j]?) (λi=>a.length - i) 0 ?_ ⟨C1 _,λj q=>ω⟩ λi l=>?_
 ·exact wA
 obtain⟨l,c⟩:=l;by_cases g:i<a.length
 ·obtain⟨x,n⟩ : ∃x,a[i]? = some x:=⟨_,X3 g⟩
  obtain⟨y,o⟩ : ∃y,b[i]? = some y:=⟨_,X3 ω⟩
  repeat'(first|refine gE ?_|with_reducible (first|refine Bf.N (λh=>?_) (λh=>?_)|refine Bf.NB (λh=>?_) (λh=>?_)|refine Bf.D (λh=>?_) (λh=>?_)))
  all_goals first
   |(show [B false]=[B (decide (a=b))]
     refine I1 (λz=>[B z]) (Z0 λe=>?_).symm;subst e
     simp_all)
   | ((conv=>whnf)
      refine CF (i+1) ⟨ω,λj q=>?_⟩ ω ?_
      · rcases Nat.lt_or_ge j i with d|d
        · exact c j d
        obtain rfl:j=i:=ω
        rw[n,o]
        simp_all
      exact wA)
 refine ZE ?_
 refine I1 (λz=>[B z]) (O0 ?_).symm;refine List.ext_getElem? λj=>?_
 rcases Nat.lt_or_ge j i with d|d
 ·exact c j d
 rw[Z3 ω,Z3 ω]
theorem GT(a b:aF)(c:aF.sml a):zzA 445 false [.val (some 2) (aF.enc .O a),.val (some 2) (aF.enc .O b)] .one [B (decide (a=b))]:=by
 obtain⟨d,g⟩:=c;refine fO 17 [] Tryz.func445 rfl ?_
 repeat'(first|refine gP ?_|with_reducible (first|refine Bf.N (λh=>?_) (λh=>?_)|refine Bf.NB (λh=>?_) (λh=>?_)|refine Bf.D (λh=>?_) (λh=>?_))|refine CA (sQ a.W b.W d) ?_|refine CA (K3 a.c b.c g) ?_)
 all_goals first|(show [B false]=[B (decide (a=b))];refine I1 (λz=>[B z]) (Z0 λe=>?_).symm;subst e;contradiction)|(show [B true]=[B (decide (a=b))];refine I1 (λz=>[B z]) (O0 ?_).symm;cases a;cases b;simp_all)
theorem K8(a b:aN)(c:aN.sml a):zzA 580 false [.val (some 2) (aN.enc .O a),.val (some 2) (aN.enc .O b)] .one [B (decide (a=b))]:=by
 refine fO 15 [] Tryz.func580 rfl ?_
 repeat'(first|refine gP ?_|with_reducible (first|refine Bf.N (λh=>?_) (λh=>?_)|refine Bf.NB (λh=>?_) (λh=>?_)|refine Bf.D (λh=>?_) (λh=>?_)))
 all_goals first|(show [B false]=[B (decide (a=b))];refine I1 (λz=>[B z]) (Z0 λe=>?_).symm;subst e;contradiction)|(show [B true]=[B (decide (a=b))];refine I1 (λz=>[B z]) (O0 ?_).symm;cases a;cases b;simp_all)
theorem Hg(a b:List aN)(p:jG a):zzA 539 false [.val none (eO .O a),.val none (eO .O b)] .one [B (decide (a=b))]:=by
 refine fO 27 [(6,10,[17,18,19,20,21,22,23,24,25,26])] Tryz.func539 rfl ?_;have r:a.length<=1048576:=p.1
 repeat'(first|refine gP ?_|with_reducible refine Bf.N (λh=>?_) (λh=>?_))
 ·refine I1 (λz=>[B z]) (Z0 λe=>?_).symm
  subst e;omega
 have k:a.length=b.length:=ω
 (conv=>whnf)
 refine CH (ι:=Nat) (λi=>[(0,.F .one (eO .O a)),(1,.F .one (eO .O b)),(5,.F .one [I (i:Nat)])]) (λi=>i<=a.length/\∀j,j<i->a[j]? = b[j]?) (λi=>a.length - i) 0 ?_ ⟨C1 _,λj q=>ω⟩ λi l=>?_
 ·exact wA
 obtain⟨l,c⟩:=l;by_cases g:i<a.length
 ·obtain⟨x,n⟩ : ∃x,a[i]? = some x:=⟨_,X3 g⟩
  obtain⟨y,o⟩ : ∃y,b[i]? = some y:=⟨_,X3 ω⟩
  repeat'(first|refine gE ?_|with_reducible (first|refine Bf.N (λh=>?_) (λh=>?_)|refine Bf.NB (λh=>?_) (λh=>?_)|refine Bf.D (λh=>?_) (λh=>?_))|refine CA (K8 x y trivial) ?_)
  all_goals first
   |(show [B false]=[B (decide (a=b))]
     refine I1 (λz=>[B z]) (Z0 λe=>?_).symm;subst e
     simp_all)
   | ((conv=>whnf)
      refine CF (i+1) ⟨ω,λj q=>?_⟩ ω ?_
      · rcases Nat.lt_or_ge j i with d|d
        · exact c j d
        obtain rfl:j=i:=ω
        rw[n,o]
        simp_all
      exact wA)
 refine ZE ?_
 refine I1 (λz=>[B z]) (O0 ?_).symm;refine List.ext_getElem? λj=>?_
 rcases Nat.lt_or_ge j i with d|d
 ·exact c j d
 rw[Z3 ω,Z3 ω]
theorem KT(a b:aG)(c:aG.sml a):zzA 446 false [.val (some 1) (aG.enc .O a),.val (some 1) (aG.enc .O b)] .one [B (decide (a=b))]:=by
 have d:=c;refine fO 11 [] Tryz.func446 rfl ?_
 repeat'(first|refine gP ?_|with_reducible (first|refine Bf.N (λh=>?_) (λh=>?_)|refine Bf.NB (λh=>?_) (λh=>?_)|refine Bf.D (λh=>?_) (λh=>?_))|refine CA (Hg a.J b.J d) ?_)
 all_goals first|(show [B false]=[B (decide (a=b))];refine I1 (λz=>[B z]) (Z0 λe=>?_).symm;subst e;contradiction)|(show [B true]=[B (decide (a=b))];refine I1 (λz=>[B z]) (O0 ?_).symm;cases a;cases b;simp_all)
theorem Fk(a b:aD)(c:aD.sml a):zzA 310 false [.val (some 3) (aD.enc .O a),.val (some 3) (aD.enc .O b)] .one [B (decide (a=b))]:=by
 obtain⟨d,g⟩:=c;refine fO 17 [] Tryz.func310 rfl ?_
 repeat'(first|refine gP ?_|with_reducible (first|refine Bf.N (λh=>?_) (λh=>?_)|refine Bf.NB (λh=>?_) (λh=>?_)|refine Bf.D (λh=>?_) (λh=>?_))|refine CA (GT a.U b.U d) ?_|refine CA (KT a.Q b.Q g) ?_)
 all_goals first|(show [B false]=[B (decide (a=b))];refine I1 (λz=>[B z]) (Z0 λe=>?_).symm;subst e;contradiction)|(show [B true]=[B (decide (a=b))];refine I1 (λz=>[B z]) (O0 ?_).symm;cases a;cases b;simp_all)
theorem GU(a b:af)(c:af.sml a):zzA 148 false [.val (some 5) (af.enc .O a),.val (some 5) (af.enc .O b)] .one [B (decide (a=b))]:=by
 obtain⟨d,g⟩:=c;refine fO 22 [] Tryz.func148 rfl ?_
 repeat'(first|refine gP ?_|with_reducible (first|refine Bf.N (λh=>?_) (λh=>?_)|refine Bf.NB (λh=>?_) (λh=>?_)|refine Bf.D (λh=>?_) (λh=>?_))|refine CA (Fk a.G b.G d) ?_|refine CA (vY a.b b.b g) ?_)
 all_goals first|(show [B false]=[B (decide (a=b))];refine I1 (λz=>[B z]) (Z0 λe=>?_).symm;subst e;contradiction)|(show [B true]=[B (decide (a=b))];refine I1 (λz=>[B z]) (O0 ?_).symm;cases a;cases b;simp_all)
theorem JM(a b:ay)(c:ay.sml a):zzA 311 false [.val (some 2) (ay.enc .O a),.val (some 2) (ay.enc .O b)] .one [B (decide (a=b))]:=by
 refine fO 15 [] Tryz.func311 rfl ?_
 repeat'(first|refine gP ?_|with_reducible (first|refine Bf.N (λh=>?_) (λh=>?_)|refine Bf.NB (λh=>?_) (λh=>?_)|refine Bf.D (λh=>?_) (λh=>?_)))
 all_goals first|(show [B false]=[B (decide (a=b))];refine I1 (λz=>[B z]) (Z0 λe=>?_).symm;subst e;contradiction)|(show [B true]=[B (decide (a=b))];refine I1 (λz=>[B z]) (O0 ?_).symm;cases a;cases b;simp_all)
theorem J6(a b:List ay)(p:dD a):zzA 149 false [.val none (aU .O a),.val none (aU .O b)] .one [B (decide (a=b))]:=by
 refine fO 27 [(6,10,[17,18,19,20,21,22,23,24,25,26])] Tryz.func149 rfl ?_;have r:a.length<=1048576:=p.1
 repeat'(first|refine gP ?_|with_reducible refine Bf.N (λh=>?_) (λh=>?_))
 ·refine I1 (λz=>[B z]) (Z0 λe=>?_).symm
  subst e;omega
 have k:a.length=b.length:=ω
 (conv=>whnf)
 refine CH (ι:=Nat) (λi=>[(0,.F .one (aU .O a)),(1,.F .one (aU .O b)),(5,.F .one [I (i:Nat)])]) (λi=>i<=a.length/\∀j,j<i->a[j]? = b[j]?) (λi=>a.length - i) 0 ?_ ⟨C1 _,λj q=>ω⟩ λi l=>?_
 ·exact wA
 obtain⟨l,c⟩:=l;by_cases g:i<a.length
 ·obtain⟨x,n⟩ : ∃x,a[i]? = some x:=⟨_,X3 g⟩
  obtain⟨y,o⟩ : ∃y,b[i]? = some y:=⟨_,X3 ω⟩
  repeat'(first|refine gE ?_|with_reducible (first|refine Bf.N (λh=>?_) (λh=>?_)|refine Bf.NB (λh=>?_) (λh=>?_)|refine Bf.D (λh=>?_) (λh=>?_))|refine CA (JM x y trivial) ?_)
  all_goals first
   |(show [B false]=[B (decide (a=b))]
     refine I1 (λz=>[B z]) (Z0 λe=>?_).symm;subst e
     simp_all)
   | ((conv=>whnf)
      refine CF (i+1) ⟨ω,λj q=>?_⟩ ω ?_
      · rcases Nat.lt_or_ge j i with d|d
        · exact c j d
        obtain rfl:j=i:=ω
        rw[n,o]
        simp_all
      exact wA)
 refine ZE ?_
 refine I1 (λz=>[B z]) (O0 ?_).symm;refine List.ext_getElem? λj=>?_
 rcases Nat.lt_or_ge j i with d|d
 ·exact c j d
 rw[Z3 ω,Z3 ω]
theorem Ng(a b:au)(c:au.sml a):zzA 312 false [.val (some 3) (au.enc .O a),.val (some 3) (au.enc .O b)] .one [B (decide (a=b))]:=by
 refine fO 20 [] Tryz.func312 rfl ?_
 repeat'(first|refine gP ?_|with_reducible (first|refine Bf.N (λh=>?_) (λh=>?_)|refine Bf.NB (λh=>?_) (λh=>?_)|refine Bf.D (λh=>?_) (λh=>?_)))
 all_goals first|(show [B false]=[B (decide (a=b))];refine I1 (λz=>[B z]) (Z0 λe=>?_).symm;subst e;contradiction)|(show [B true]=[B (decide (a=b))];refine I1 (λz=>[B z]) (O0 ?_).symm;cases a;cases b;simp_all)
theorem Lu(a b:List au)(p:cx a):zzA 150 false [.val none (bt .O a),.val none (bt .O b)] .one [B (decide (a=b))]:=by
 refine fO 27 [(6,10,[17,18,19,20,21,22,23,24,25,26])] Tryz.func150 rfl ?_;have r:a.length<=1048576:=p.1
 repeat'(first|refine gP ?_|with_reducible refine Bf.N (λh=>?_) (λh=>?_))
 ·refine I1 (λz=>[B z]) (Z0 λe=>?_).symm
  subst e;omega
 have k:a.length=b.length:=ω
 (conv=>whnf)
 refine CH (ι:=Nat) (λi=>[(0,.F .one (bt .O a)),(1,.F .one (bt .O b)),(5,.F .one [I (i:Nat)])]) (λi=>i<=a.length/\∀j,j<i->a[j]? = b[j]?) (λi=>a.length - i) 0 ?_ ⟨C1 _,λj q=>ω⟩ λi l=>?_
 ·exact wA
 obtain⟨l,c⟩:=l;by_cases g:i<a.length
 ·obtain⟨x,n⟩ : ∃x,a[i]? = some x:=⟨_,X3 g⟩
  obtain⟨y,o⟩ : ∃y,b[i]? = some y:=⟨_,X3 ω⟩
  repeat'(first|refine gE ?_|with_reducible (first|refine Bf.N (λh=>?_) (λh=>?_)|refine Bf.NB (λh=>?_) (λh=>?_)|refine Bf.D (λh=>?_) (λh=>?_))|refine CA (Ng x y trivial) ?_)
  all_goals first
   |(show [B false]=[B (decide (a=b))]
     refine I1 (λz=>[B z]) (Z0 λe=>?_).symm;subst e
     simp_all)
   | ((conv=>whnf)
      refine CF (i+1) ⟨ω,λj q=>?_⟩ ω ?_
      · rcases Nat.lt_or_ge j i with d|d
        · exact c j d
        obtain rfl:j=i:=ω
        rw[n,o]
        simp_all
      exact wA)
 refine ZE ?_
 refine I1 (λz=>[B z]) (O0 ?_).symm;refine List.ext_getElem? λj=>?_
 rcases Nat.lt_or_ge j i with d|d
 ·exact c j d
 rw[Z3 ω,Z3 ω]
theorem Ka(a b:aB)(c:aB.sml a):zzA 313 false [.val (some 3) (aB.enc .O a),.val (some 3) (aB.enc .O b)] .one [B (decide (a=b))]:=by
 refine fO 20 [] Tryz.func313 rfl ?_
 repeat'(first|refine gP ?_|with_reducible (first|refine Bf.N (λh=>?_) (λh=>?_)|refine Bf.NB (λh=>?_) (λh=>?_)|refine Bf.D (λh=>?_) (λh=>?_)))
 all_goals first|(show [B false]=[B (decide (a=b))];refine I1 (λz=>[B z]) (Z0 λe=>?_).symm;subst e;contradiction)|(show [B true]=[B (decide (a=b))];refine I1 (λz=>[B z]) (O0 ?_).symm;cases a;cases b;simp_all)
theorem GG(a b:List aB)(p:cB a):zzA 151 false [.val none (bz .O a),.val none (bz .O b)] .one [B (decide (a=b))]:=by
 refine fO 27 [(6,10,[17,18,19,20,21,22,23,24,25,26])] Tryz.func151 rfl ?_;have r:a.length<=1048576:=p.1
 repeat'(first|refine gP ?_|with_reducible refine Bf.N (λh=>?_) (λh=>?_))
 ·refine I1 (λz=>[B z]) (Z0 λe=>?_).symm
  subst e;omega
 have k:a.length=b.length:=ω
 (conv=>whnf)
 refine CH (ι:=Nat) (λi=>[(0,.F .one (bz .O a)),(1,.F .one (bz .O b)),(5,.F .one [I (i:Nat)])]) (λi=>i<=a.length/\∀j,j<i->a[j]? = b[j]?) (λi=>a.length - i) 0 ?_ ⟨C1 _,λj q=>ω⟩ λi l=>?_
 ·exact wA
 obtain⟨l,c⟩:=l;by_cases g:i<a.length
 ·obtain⟨x,n⟩ : ∃x,a[i]? = some x:=⟨_,X3 g⟩
  obtain⟨y,o⟩ : ∃y,b[i]? = some y:=⟨_,X3 ω⟩
  repeat'(first|refine gE ?_|with_reducible (first|refine Bf.N (λh=>?_) (λh=>?_)|refine Bf.NB (λh=>?_) (λh=>?_)|refine Bf.D (λh=>?_) (λh=>?_))|refine CA (Ka x y trivial) ?_)
  all_goals first
   |(show [B false]=[B (decide (a=b))]
     refine I1 (λz=>[B z]) (Z0 λe=>?_).symm;subst e
     simp_all)
   | ((conv=>whnf)
      refine CF (i+1) ⟨ω,λj q=>?_⟩ ω ?_
      · rcases Nat.lt_or_ge j i with d|d
        · exact c j d
        obtain rfl:j=i:=ω
        rw[n,o]
        simp_all
      exact wA)
 refine ZE ?_
 refine I1 (λz=>[B z]) (O0 ?_).symm;refine List.ext_getElem? λj=>?_
 rcases Nat.lt_or_ge j i with d|d
 ·exact c j d
 rw[Z3 ω,Z3 ω]
theorem QK(a b:bf)(c:bf.sml a):zzA 314 false [.val (some 4) (bf.enc .O a),.val (some 4) (bf.enc .O b)] .one [B (decide (a=b))]:=by
 refine fO 25 [] Tryz.func314 rfl ?_
 repeat'(first|refine gP ?_|with_reducible (first|refine Bf.N (λh=>?_) (λh=>?_)|refine Bf.NB (λh=>?_) (λh=>?_)|refine Bf.D (λh=>?_) (λh=>?_)))
 all_goals first|(show [B false]=[B (decide (a=b))];refine I1 (λz=>[B z]) (Z0 λe=>?_).symm;subst e;contradiction)|(show [B true]=[B (decide (a=b))];refine I1 (λz=>[B z]) (O0 ?_).symm;cases a;cases b;simp_all)
theorem Nl(a b:List bf)(p:ov a):zzA 152 false [.val none (fg .O a),.val none (fg .O b)] .one [B (decide (a=b))]:=by
 refine fO 27 [(6,10,[17,18,19,20,21,22,23,24,25,26])] Tryz.func152 rfl ?_;have r:a.length<=1048576:=p.1
 repeat'(first|refine gP ?_|with_reducible refine Bf.N (λh=>?_) (λh=>?_))
 ·refine I1 (λz=>[B z]) (Z0 λe=>?_).symm
  subst e;omega
 have k:a.length=b.length:=ω
 (conv=>whnf)
 refine CH (ι:=Nat) (λi=>[(0,.F .one (fg .O a)),(1,.F .one (fg .O b)),(5,.F .one [I (i:Nat)])]) (λi=>i<=a.length/\∀j,j<i->a[j]? = b[j]?) (λi=>a.length - i) 0 ?_ ⟨C1 _,λj q=>ω⟩ λi l=>?_
 ·exact wA
 obtain⟨l,c⟩:=l;by_cases g:i<a.length
 ·obtain⟨x,n⟩ : ∃x,a[i]? = some x:=⟨_,X3 g⟩
  obtain⟨y,o⟩ : ∃y,b[i]? = some y:=⟨_,X3 ω⟩
  repeat'(first|refine gE ?_|with_reducible (first|refine Bf.N (λh=>?_) (λh=>?_)|refine Bf.NB (λh=>?_) (λh=>?_)|refine Bf.D (λh=>?_) (λh=>?_))|refine CA (QK x y trivial) ?_)
  all_goals first
   |(show [B false]=[B (decide (a=b))]
     refine I1 (λz=>[B z]) (Z0 λe=>?_).symm;subst e
     simp_all)
   | ((conv=>whnf)
      refine CF (i+1) ⟨ω,λj q=>?_⟩ ω ?_
      · rcases Nat.lt_or_ge j i with d|d
        · exact c j d
        obtain rfl:j=i:=ω
        rw[n,o]
        simp_all
      exact wA)
 refine ZE ?_
 refine I1 (λz=>[B z]) (O0 ?_).symm;refine List.ext_getElem? λj=>?_
 rcases Nat.lt_or_ge j i with d|d
 ·exact c j d
 rw[Z3 ω,Z3 ω]
theorem JP(a b:ax)(c:ax.sml a):zzA 315 false [.val (some 1) (ax.enc .O a),.val (some 1) (ax.enc .O b)] .one [B (decide (a=b))]:=by
 have d:=c;refine fO 11 [] Tryz.func315 rfl ?_
 repeat'(first|refine gP ?_|with_reducible (first|refine Bf.N (λh=>?_) (λh=>?_)|refine Bf.NB (λh=>?_) (λh=>?_)|refine Bf.D (λh=>?_) (λh=>?_))|refine CA (sQ a.T b.T d) ?_)
 all_goals first|(show [B false]=[B (decide (a=b))];refine I1 (λz=>[B z]) (Z0 λe=>?_).symm;subst e;contradiction)|(show [B true]=[B (decide (a=b))];refine I1 (λz=>[B z]) (O0 ?_).symm;cases a;cases b;simp_all)
theorem J0(a b:List ax)(l:iX a):zzA 153 false [.val none (dv .O a),.val none (dv .O b)] .one [B (decide (a=b))]:=by
 refine fO 27 [(6,10,[17,18,19,20,21,22,23,24,25,26])] Tryz.func153 rfl ?_;have r:a.length<=1048576:=l.1
 repeat'(first|refine gP ?_|with_reducible refine Bf.N (λh=>?_) (λh=>?_))
 ·refine I1 (λz=>[B z]) (Z0 λe=>?_).symm
  subst e;omega
 have n:a.length=b.length:=ω
 (conv=>whnf)
 refine CH (ι:=Nat) (λi=>[(0,.F .one (dv .O a)),(1,.F .one (dv .O b)),(5,.F .one [I (i:Nat)])]) (λi=>i<=a.length/\∀j,j<i->a[j]? = b[j]?) (λi=>a.length - i) 0 ?_ ⟨C1 _,λj q=>ω⟩ λi o=>?_
 ·exact wA
 obtain⟨o,c⟩:=o;by_cases g:i<a.length
 ·obtain⟨x,k⟩ : ∃x,a[i]? = some x:=⟨_,X3 g⟩
  obtain⟨y,p⟩ : ∃y,b[i]? = some y:=⟨_,X3 ω⟩
  repeat'(first|refine gE ?_|with_reducible (first|refine Bf.N (λh=>?_) (λh=>?_)|refine Bf.NB (λh=>?_) (λh=>?_)|refine Bf.D (λh=>?_) (λh=>?_))|refine CA (JP x y (l.2 x (I3 k))) ?_)
  all_goals first
   |(show [B false]=[B (decide (a=b))]
     refine I1 (λz=>[B z]) (Z0 λe=>?_).symm;subst e
     simp_all)
   | ((conv=>whnf)
      refine CF (i+1) ⟨ω,λj q=>?_⟩ ω ?_
      · rcases Nat.lt_or_ge j i with d|d
        · exact c j d
        obtain rfl:j=i:=ω
        rw[k,p]
        simp_all
      exact wA)
 refine ZE ?_
 refine I1 (λz=>[B z]) (O0 ?_).symm;refine List.ext_getElem? λj=>?_
 rcases Nat.lt_or_ge j i with d|d
 ·exact c j d
 rw[Z3 ω,Z3 ω]
theorem Pe(a b:aT)(c:aT.sml a):zzA 540 false [.val (some 2) (aT.enc .O a),.val (some 2) (aT.enc .O b)] .one [B (decide (a=b))]:=by
 refine fO 15 [] Tryz.func540 rfl ?_
 repeat'(first|refine gP ?_|with_reducible (first|refine Bf.N (λh=>?_) (λh=>?_)|refine Bf.NB (λh=>?_) (λh=>?_)|refine Bf.D (λh=>?_) (λh=>?_)))
 all_goals first|(show [B false]=[B (decide (a=b))];refine I1 (λz=>[B z]) (Z0 λe=>?_).symm;subst e;contradiction)|(show [B true]=[B (decide (a=b))];refine I1 (λz=>[B z]) (O0 ?_).symm;cases a;cases b;simp_all)
theorem Kl(a b:List aT)(p:lR a):zzA 447 false [.val none (bK .O a),.val none (bK .O b)] .one [B (decide (a=b))]:=by
 refine fO 27 [(6,10,[17,18,19,20,21,22,23,24,25,26])] Tryz.func447 rfl ?_;have r:a.length<=1048576:=p.1
 repeat'(first|refine gP ?_|with_reducible refine Bf.N (λh=>?_) (λh=>?_))
 ·refine I1 (λz=>[B z]) (Z0 λe=>?_).symm
  subst e;omega
 have k:a.length=b.length:=ω
 (conv=>whnf)
 refine CH (ι:=Nat) (λi=>[(0,.F .one (bK .O a)),(1,.F .one (bK .O b)),(5,.F .one [I (i:Nat)])]) (λi=>i<=a.length/\∀j,j<i->a[j]? = b[j]?) (λi=>a.length - i) 0 ?_ ⟨C1 _,λj q=>ω⟩ λi l=>?_
 ·exact wA
 obtain⟨l,c⟩:=l;by_cases g:i<a.length
 ·obtain⟨x,n⟩ : ∃x,a[i]? = some x:=⟨_,X3 g⟩
  obtain⟨y,o⟩ : ∃y,b[i]? = some y:=⟨_,X3 ω⟩
  repeat'(first|refine gE ?_|with_reducible (first|refine Bf.N (λh=>?_) (λh=>?_)|refine Bf.NB (λh=>?_) (λh=>?_)|refine Bf.D (λh=>?_) (λh=>?_))|refine CA (Pe x y trivial) ?_)
  all_goals first
   |(show [B false]=[B (decide (a=b))]
     refine I1 (λz=>[B z]) (Z0 λe=>?_).symm;subst e
     simp_all)
   | ((conv=>whnf)
      refine CF (i+1) ⟨ω,λj q=>?_⟩ ω ?_
      · rcases Nat.lt_or_ge j i with d|d
        · exact c j d
        obtain rfl:j=i:=ω
        rw[n,o]
        simp_all
      exact wA)
 refine ZE ?_
 refine I1 (λz=>[B z]) (O0 ?_).symm;refine List.ext_getElem? λj=>?_
 rcases Nat.lt_or_ge j i with d|d
 ·exact c j d
 rw[Z3 ω,Z3 ω]
theorem Jy(a b:List (List aT))(l:jI a):zzA 316 false [.val none (dZ .O a),.val none (dZ .O b)] .one [B (decide (a=b))]:=by
 refine fO 27 [(6,10,[17,18,19,20,21,22,23,24,25,26])] Tryz.func316 rfl ?_;have r:a.length<=1048576:=l.1
 repeat'(first|refine gP ?_|with_reducible refine Bf.N (λh=>?_) (λh=>?_))
 ·refine I1 (λz=>[B z]) (Z0 λe=>?_).symm
  subst e;omega
 have n:a.length=b.length:=ω
 (conv=>whnf)
 refine CH (ι:=Nat) (λi=>[(0,.F .one (dZ .O a)),(1,.F .one (dZ .O b)),(5,.F .one [I (i:Nat)])]) (λi=>i<=a.length/\∀j,j<i->a[j]? = b[j]?) (λi=>a.length - i) 0 ?_ ⟨C1 _,λj q=>ω⟩ λi o=>?_
 ·exact wA
 obtain⟨o,c⟩:=o;by_cases g:i<a.length
 ·obtain⟨x,k⟩ : ∃x,a[i]? = some x:=⟨_,X3 g⟩
  obtain⟨y,p⟩ : ∃y,b[i]? = some y:=⟨_,X3 ω⟩
  repeat'(first|refine gE ?_|with_reducible (first|refine Bf.N (λh=>?_) (λh=>?_)|refine Bf.NB (λh=>?_) (λh=>?_)|refine Bf.D (λh=>?_) (λh=>?_))|refine CA (Kl x y (l.2 x (I3 k))) ?_)
  all_goals first
   |(show [B false]=[B (decide (a=b))]
     refine I1 (λz=>[B z]) (Z0 λe=>?_).symm;subst e
     simp_all)
   | ((conv=>whnf)
      refine CF (i+1) ⟨ω,λj q=>?_⟩ ω ?_
      · rcases Nat.lt_or_ge j i with d|d
        · exact c j d
        obtain rfl:j=i:=ω
        rw[k,p]
        simp_all
      exact wA)
 refine ZE ?_
 refine I1 (λz=>[B z]) (O0 ?_).symm;refine List.ext_getElem? λj=>?_
 rcases Nat.lt_or_ge j i with d|d
 ·exact c j d
 rw[Z3 ω,Z3 ω]
theorem NC(a b:aM)(c:aM.sml a):zzA 154 false [.val (some 2) (aM.enc .O a),.val (some 2) (aM.enc .O b)] .one [B (decide (a=b))]:=by
 obtain⟨d,g⟩:=c;refine fO 17 [] Tryz.func154 rfl ?_
 repeat'(first|refine gP ?_|with_reducible (first|refine Bf.N (λh=>?_) (λh=>?_)|refine Bf.NB (λh=>?_) (λh=>?_)|refine Bf.D (λh=>?_) (λh=>?_))|refine CA (Jy a.V b.V d) ?_|refine CA (sQ a.k b.k g) ?_)
 all_goals first|(show [B false]=[B (decide (a=b))];refine I1 (λz=>[B z]) (Z0 λe=>?_).symm;subst e;contradiction)|(show [B true]=[B (decide (a=b))];refine I1 (λz=>[B z]) (O0 ?_).symm;cases a;cases b;simp_all)
theorem JE(a b:aL)(c:aL.sml a):zzA 448 false [.val (some 3) (aL.enc .O a),.val (some 3) (aL.enc .O b)] .one [B (decide (a=b))]:=by
 refine fO 20 [] Tryz.func448 rfl ?_
 repeat'(first|refine gP ?_|with_reducible (first|refine Bf.N (λh=>?_) (λh=>?_)|refine Bf.NB (λh=>?_) (λh=>?_)|refine Bf.D (λh=>?_) (λh=>?_)))
 all_goals first|(show [B false]=[B (decide (a=b))];refine I1 (λz=>[B z]) (Z0 λe=>?_).symm;subst e;contradiction)|(show [B true]=[B (decide (a=b))];refine I1 (λz=>[B z]) (O0 ?_).symm;cases a;cases b;simp_all)
theorem GW(a b:List aL)(p:fF a):zzA 318 false [.val none (ct .O a),.val none (ct .O b)] .one [B (decide (a=b))]:=by
 refine fO 27 [(6,10,[17,18,19,20,21,22,23,24,25,26])] Tryz.func318 rfl ?_;have r:a.length<=1048576:=p.1
 repeat'(first|refine gP ?_|with_reducible refine Bf.N (λh=>?_) (λh=>?_))
 ·refine I1 (λz=>[B z]) (Z0 λe=>?_).symm
  subst e;omega
 have k:a.length=b.length:=ω
 (conv=>whnf)
 refine CH (ι:=Nat) (λi=>[(0,.F .one (ct .O a)),(1,.F .one (ct .O b)),(5,.F .one [I (i:Nat)])]) (λi=>i<=a.length/\∀j,j<i->a[j]? = b[j]?) (λi=>a.length - i) 0 ?_ ⟨C1 _,λj q=>ω⟩ λi l=>?_
 ·exact wA
 obtain⟨l,c⟩:=l;by_cases g:i<a.length
 ·obtain⟨x,n⟩ : ∃x,a[i]? = some x:=⟨_,X3 g⟩
  obtain⟨y,o⟩ : ∃y,b[i]? = some y:=⟨_,X3 ω⟩
  repeat'(first|refine gE ?_|with_reducible (first|refine Bf.N (λh=>?_) (λh=>?_)|refine Bf.NB (λh=>?_) (λh=>?_)|refine Bf.D (λh=>?_) (λh=>?_))|refine CA (JE x y trivial) ?_)
  all_goals first
   |(show [B false]=[B (decide (a=b))]
     refine I1 (λz=>[B z]) (Z0 λe=>?_).symm;subst e
     simp_all)
   | ((conv=>whnf)
      refine CF (i+1) ⟨ω,λj q=>?_⟩ ω ?_
      · rcases Nat.lt_or_ge j i with d|d
        · exact c j d
        obtain rfl:j=i:=ω
        rw[n,o]
        simp_all
      exact wA)
 refine ZE ?_
 refine I1 (λz=>[B z]) (O0 ?_).symm;refine List.ext_getElem? λj=>?_
 rcases Nat.lt_or_ge j i with d|d
 ·exact c j d
 rw[Z3 ω,Z3 ω]
theorem Nj(a b:aZ)(c:aZ.sml a):zzA 155 false [.val (some 2) (aZ.enc .O a),.val (some 2) (aZ.enc .O b)] .one [B (decide (a=b))]:=by
 have d:=c;refine fO 16 [] Tryz.func155 rfl ?_
 repeat'(first|refine gP ?_|with_reducible (first|refine Bf.N (λh=>?_) (λh=>?_)|refine Bf.NB (λh=>?_) (λh=>?_)|refine Bf.D (λh=>?_) (λh=>?_))|refine CA (GW a.u b.u d) ?_)
 all_goals first|(show [B false]=[B (decide (a=b))];refine I1 (λz=>[B z]) (Z0 λe=>?_).symm;subst e;contradiction)|(show [B true]=[B (decide (a=b))];refine I1 (λz=>[B z]) (O0 ?_).symm;cases a;cases b;simp_all)
theorem MX(a b:aV)(c:aV.sml a):zzA 319 false [.val (some 3) (aV.enc .O a),.val (some 3) (aV.enc .O b)] .one [B (decide (a=b))]:=by
 have d:=c;refine fO 21 [] Tryz.func319 rfl ?_
 repeat'(first|refine gP ?_|with_reducible (first|refine Bf.N (λh=>?_) (λh=>?_)|refine Bf.NB (λh=>?_) (λh=>?_)|refine Bf.D (λh=>?_) (λh=>?_))|refine CA (vY a.W b.W d) ?_)
 all_goals first|(show [B false]=[B (decide (a=b))];refine I1 (λz=>[B z]) (Z0 λe=>?_).symm;subst e;contradiction)|(show [B true]=[B (decide (a=b))];refine I1 (λz=>[B z]) (O0 ?_).symm;cases a;cases b;simp_all)
theorem QJ(a b:bk)(c:bk.sml a):zzA 156 false [.val (some 5) (bk.enc .O a),.val (some 5) (bk.enc .O b)] .one [B (decide (a=b))]:=by
 have d:=c;refine fO 21 [] Tryz.func156 rfl ?_
 repeat'(first|refine gP ?_|with_reducible (first|refine Bf.N (λh=>?_) (λh=>?_)|refine Bf.NB (λh=>?_) (λh=>?_)|refine Bf.D (λh=>?_) (λh=>?_))|refine CA (MX a.Y b.Y d) ?_)
 all_goals first|(show [B false]=[B (decide (a=b))];refine I1 (λz=>[B z]) (Z0 λe=>?_).symm;subst e;contradiction)|(show [B true]=[B (decide (a=b))];refine I1 (λz=>[B z]) (O0 ?_).symm;cases a;cases b;simp_all)
theorem DZ(a b:ac)(c:ac.sml a):zzA 49 false [.val (some 24) (ac.enc .O a),.val (some 24) (ac.enc .O b)] .one [B (decide (a=b))]:=by
 obtain⟨d,g,i,j,k,l,n,o,p⟩:=c;refine fO 84 [] Tryz.func49 rfl ?_
 repeat'(first|refine gP ?_|with_reducible (first|refine Bf.N (λh=>?_) (λh=>?_)|refine Bf.NB (λh=>?_) (λh=>?_)|refine Bf.D (λh=>?_) (λh=>?_))|refine CA (GU a.K b.K d) ?_|refine CA (J6 a.a b.a g) ?_|refine CA (Lu a.H b.H i) ?_|refine CA (GG a.S b.S j) ?_|refine CA (Nl a.X b.X k) ?_|refine CA (J0 a.M b.M l) ?_|refine CA (NC a.e b.e n) ?_|refine CA (Nj a.q b.q o) ?_|refine CA (QJ a.p b.p p) ?_)
 all_goals first|(show [B false]=[B (decide (a=b))];refine I1 (λz=>[B z]) (Z0 λe=>?_).symm;subst e;contradiction)|(show [B true]=[B (decide (a=b))];refine I1 (λz=>[B z]) (O0 ?_).symm;cases a;cases b;simp_all)
set_option maxHeartbeats 2000000
def mQ(x:List Int)(k:Int)(g:lw x)(n:0<=k)(h:k+(er x:Nat)<=1099511627776):zzB 321 false [.mut none (aH .own x),.val none [I k]] [.mut none (aH .own (markIntS x k)),.val none []] .one [I (k+(er x:Nat))]:=by
 have o:x.length<=1048576:=g;unfold er at h;have a:((markIntS x k).map (rI .own)).length=(x.map (rI .own)).length:=by simp[oI]
 refine fM 19 [] [] [(0,0),(0,0)] Tryz.func321 rfl (λu p=>?_)
 refine ZP ?_
 refine CH (ι:=Nat) (λi=>[(0,.F .one [.s (.tag (u 0 0)) (gM ((markIntS x k).map (rI .own)) (x.map (rI .own)) i)]),(1,.F .one [I (k+(jZ x i:Nat))]),(5,.F .one [I (i:Nat)])]) (λi=>i<=x.length) (λi=>x.length - i) 0 ?_ (C1 _) λi q=>?_
 ·rw[cj]
  repeat'(first|exact trivial|rfl|exact CC rfl (CC (I1 I (by unfold jZ;omega)) trivial)|refine CC ?_ ?_)
 have b:=(gR a i).trans (show(x.map (rI .own)).length=x.length by simp);by_cases c:i<x.length
 ·obtain⟨y,j⟩ : ∃y,x[i]? = some y:=⟨_,X3 c⟩
  have d:=cW a i (by simp;omega);rw[aa j]at d;have e:=oM x k i c;unfold jZ
  repeat'(first|refine gE ?_|with_reducible (first|refine CQ b ?_|refine CB d ?_)|refine CN rfl rfl d rfl (I4 _) rfl ?_|refine CP (by decide) ?_|refine CU rfl ?_|refine CB (bo d) ?_|refine CF (i+1) ω ω ?_)
  repeat'(first|exact trivial|rfl|exact CC rfl (CC (I1 (C.s _) (by first|exact bE a (aa e)|(simp only[List.set_set];exact bE a (aa e)))) trivial)|exact CC rfl (CC (I1 I (by first|omega|(unfold jZ;omega))) trivial)|refine CC ?_ ?_)
 repeat'(first|refine gE ?_|with_reducible refine CQ b ?_|refine CL rfl ?_ ?_)
 ·have l:i=x.length:=ω
  subst l;exact I1 (λz=>[I z]) (by unfold jZ er;rfl)
 rw[cY _ a (by simp;omega)]
 repeat'(first|exact trivial|exact rfl|refine CC ?_ ?_)
def lF(x:List (List Int))(k:Int)(j:j7 x)(o:0<=k)(q:k+(de x:Nat)<=1099511627776):zzB 322 false [.mut none (dX .own x),.val none [I k]] [.mut none (dX .own (markIntSS x k)),.val none []] .one [I (k+(de x:Nat))]:=by
 have r:x.length<=1048576:=j.1;have a:((markIntSS x k).map (aH .own)).length=(x.map (aH .own)).length:=by simp[iB]
 refine fM 19 [(321,[1,0])] [] [(0,0),(0,0)] Tryz.func322 rfl (λu p=>?_)
 refine ZP ?_
 refine CH (ι:=Nat) (λi=>[(0,.F .one [.s (.tag (u 0 0)) (gM ((markIntSS x k).map (aH .own)) (x.map (aH .own)) i)]),(1,.F .one [I (k+(dI x i:Nat))]),(5,.F .one [I (i:Nat)])]) (λi=>i<=x.length) (λi=>x.length - i) 0 ?_ (C1 _) λi t=>?_
 ·rw[cj,kb]
  repeat'(first|exact trivial|rfl|exact CC rfl (CC (I1 I ω) trivial)|refine CC ?_ ?_)
 have b:=(gR a i).trans (show(x.map (aH .own)).length=x.length by simp);by_cases e:i<x.length
 ·obtain⟨y,d⟩ : ∃y,x[i]? = some y:=⟨_,X3 e⟩
  have c:=cW a i (by simp;omega);rw[aa d]at c;have l:=iL x k i y d;have g:=jW x i y d;have h:=nk x (i+1);rw[g]at h
  repeat'(first|refine gE ?_|with_reducible (first|refine CQ b ?_|refine CB c ?_)|refine CK rfl c rfl ?_|refine Lq.one rfl rfl c rfl (I4 _) rfl rfl ?_|refine CI (mQ y _ (j.2 y (I3 d)) ω ω) (.inl rfl) ?_|refine CN rfl rfl (bo c) rfl (I4 _) rfl ?_|refine CB (bo c) ?_|refine CF (i+1) ω ω ?_)
  repeat'(first|exact trivial|rfl|exact CC rfl (CC (I1 (C.s _) (by first|exact bE a (aa l)|(simp only[List.set_set];exact bE a (aa l)))) trivial)|exact CC rfl (CC (I1 I ω) trivial)|refine CC ?_ ?_)
 repeat'(first|refine gE ?_|with_reducible refine CQ b ?_|refine CL rfl ?_ ?_)
 ·have n:i=x.length:=ω
  subst n;exact I1 (λz=>[I z]) (by rw[lz])
 rw[cY _ a (by simp;omega)]
 repeat'(first|exact trivial|exact rfl|refine CC ?_ ?_)
def EH(x:List Bool)(k:Int)(g:ow x)(n:0<=k)(h:k+(gt x:Nat)<=1099511627776):zzB 541 false [.mut none (fX .own x),.val none [I k]] [.mut none (fX .own (markBoolS x k)),.val none []] .one [I (k+(gt x:Nat))]:=by
 have o:x.length<=1048576:=g;unfold gt at h;have a:((markBoolS x k).map (rB .own)).length=(x.map (rB .own)).length:=by simp[nJ]
 refine fM 21 [] [] [(0,0),(0,0)] Tryz.func541 rfl (λu p=>?_)
 refine ZP ?_
 refine CH (ι:=Nat) (λi=>[(0,.F .one [.s (.tag (u 0 0)) (gM ((markBoolS x k).map (rB .own)) (x.map (rB .own)) i)]),(1,.F .one [I (k+(i9 x i:Nat))]),(5,.F .one [I (i:Nat)])]) (λi=>i<=x.length) (λi=>x.length - i) 0 ?_ (C1 _) λi q=>?_
 ·rw[cj]
  repeat'(first|exact trivial|rfl|exact CC rfl (CC (I1 I (by unfold i9;omega)) trivial)|refine CC ?_ ?_)
 have b:=(gR a i).trans (show(x.map (rB .own)).length=x.length by simp);by_cases c:i<x.length
 ·obtain⟨y,j⟩ : ∃y,x[i]? = some y:=⟨_,X3 c⟩
  have d:=cW a i (by simp;omega);rw[aa j]at d;have e:=nv x k i c;unfold i9
  repeat'(first|refine gE ?_|with_reducible (first|refine CQ b ?_|refine CB d ?_)|refine CN rfl rfl d rfl (I4 _) rfl ?_|refine CP (by decide) ?_|refine CU rfl ?_|refine CB (bo d) ?_|refine CF (i+1) ω ω ?_)
  repeat'(first|exact trivial|rfl|exact CC rfl (CC (I1 (C.s _) (by first|exact bE a (aa e)|(simp only[List.set_set];exact bE a (aa e)))) trivial)|exact CC rfl (CC (I1 I (by first|omega|(unfold i9;omega))) trivial)|refine CC ?_ ?_)
 repeat'(first|refine gE ?_|with_reducible refine CQ b ?_|refine CL rfl ?_ ?_)
 ·have l:i=x.length:=ω
  subst l;exact I1 (λz=>[I z]) (by unfold i9 gt;rfl)
 rw[cY _ a (by simp;omega)]
 repeat'(first|exact trivial|exact rfl|refine CC ?_ ?_)
def BB(x:aF)(k:Int)(a:aF.sml x)(e:0<=k)(b:k+(aF.cnt x:Nat)<=1099511627776):zzB 449 false [.mut (some 2) (aF.enc .own x),.val none [I k]] [.mut (some 2) (aF.enc .own (x.mark k)),.val none []] .one [I (k+(aF.cnt x:Nat))]:=by
 obtain⟨c,d⟩:=a;unfold aF.cnt at b;refine fM 14 [(322,[1,0]),(541,[1,0])] [] [(2,0),(0,0)] Tryz.func449 rfl (λu p=>?_)
 repeat'(first|refine gP ?_|refine CI (lF x.W _ c ω ω) (.inl rfl) ?_|refine CI (EH x.c _ d ω ω) (.inl rfl) ?_|refine CL rfl ?_ ?_)
 ·exact I1 (λz=>[I z]) (by unfold aF.cnt;omega)
 repeat'(first|exact trivial|exact rfl|refine CC ?_ ?_)
def Bv(x:List aN)(k:Int)(l:jG x)(o:0<=k)(q:k+(dl x:Nat)<=1099511627776):zzB 542 false [.mut none (eO .own x),.val none [I k]] [.mut none (eO .own (dS x k)),.val none []] .one [I (k+(dl x:Nat))]:=by
 have r:x.length<=1048576:=l.1;have a:((dS x k).map (aN.enc .own)).length=(x.map (aN.enc .own)).length:=by simp[kN]
 refine fM 27 [] [] [(0,0),(0,0)] Tryz.func542 rfl (λu p=>?_)
 refine ZP ?_
 refine CH (ι:=Nat) (λi=>[(0,.F .one [.s (.tag (u 0 0)) (gM ((dS x k).map (aN.enc .own)) (x.map (aN.enc .own)) i)]),(1,.F .one [I (k+(cH x i:Nat))]),(5,.F .one [I (i:Nat)])]) (λi=>i<=x.length) (λi=>x.length - i) 0 ?_ (C1 _) λi t=>?_
 ·rw[cj,kE]
  repeat'(first|exact trivial|rfl|exact CC rfl (CC (I1 I ω) trivial)|refine CC ?_ ?_)
 have b:=(gR a i).trans (show(x.map (aN.enc .own)).length=x.length by simp);by_cases g:i<x.length
 ·obtain⟨y,h⟩ : ∃y,x[i]? = some y:=⟨_,X3 g⟩
  have d:=cW a i (by simp;omega);rw[aa h]at d;have j:=kY x k i y h;have c:=k8 x i y h;have e:=nE x (i+1);rw[c]at e;simp only[aN.cnt]at c e
  repeat'(first|refine gE ?_|with_reducible (first|refine CQ b ?_|refine CB d ?_)|refine CN rfl rfl d rfl (C2 rfl) rfl ?_|refine CN rfl rfl (bo d) rfl (C2 rfl) rfl ?_|refine CB (bo d) ?_|refine CF (i+1) ω ω ?_)
  repeat'(first|exact trivial|rfl|exact CC rfl (CC (I1 (C.s _) (by first|exact bE a (aa j)|(simp only[List.set_set];exact bE a (aa j)))) trivial)|exact CC rfl (CC (I1 I (by first|omega|(simp only[aN.cnt]at c;omega))) trivial)|refine CC ?_ ?_)
 repeat'(first|refine gE ?_|with_reducible refine CQ b ?_|refine CL rfl ?_ ?_)
 ·have n:i=x.length:=ω
  subst n;exact I1 (λz=>[I z]) (by rw[lZ])
 rw[cY _ a (by simp;omega)]
 repeat'(first|exact trivial|exact rfl|refine CC ?_ ?_)
def Fz(x:aG)(k:Int)(a:aG.sml x)(d:0<=k)(b:k+(aG.cnt x:Nat)<=1099511627776):zzB 450 false [.mut (some 1) (aG.enc .own x),.val none [I k]] [.mut (some 1) (aG.enc .own (x.mark k)),.val none []] .one [I (k+(aG.cnt x:Nat))]:=by
 have c:=a;unfold aG.cnt at b;refine fM 10 [(542,[1,0])] [] [(2,0),(0,0)] Tryz.func450 rfl (λu p=>?_)
 repeat'(first|refine gP ?_|refine CI (Bv x.J _ c ω ω) (.inl rfl) ?_|refine CL rfl ?_ ?_)
 ·exact I1 (λz=>[I z]) (by unfold aG.cnt;omega)
 repeat'(first|exact trivial|exact rfl|refine CC ?_ ?_)
def zW(x:aD)(k:Int)(a:aD.sml x)(e:0<=k)(b:k+(aD.cnt x:Nat)<=1099511627776):zzB 320 false [.mut (some 3) (aD.enc .own x),.val none [I k]] [.mut (some 3) (aD.enc .own (x.mark k)),.val none []] .one [I (k+(aD.cnt x:Nat))]:=by
 obtain⟨c,d⟩:=a;unfold aD.cnt at b;refine fM 14 [(449,[1,0]),(450,[1,0])] [] [(2,0),(0,0)] Tryz.func320 rfl (λu p=>?_)
 repeat'(first|refine gP ?_|refine CI (BB x.U _ c ω ω) (.inl rfl) ?_|refine CI (Fz x.Q _ d ω ω) (.inl rfl) ?_|refine CL rfl ?_ ?_)
 ·exact I1 (λz=>[I z]) (by unfold aD.cnt;omega)
 repeat'(first|exact trivial|exact rfl|refine CC ?_ ?_)
def nq(x:af)(k:Int)(a:af.sml x)(e:0<=k)(b:k+(af.cnt x:Nat)<=1099511627776):zzB 157 false [.mut (some 5) (af.enc .own x),.val none [I k]] [.mut (some 5) (af.enc .own (x.mark k)),.val none []] .one [I (k+(af.cnt x:Nat))]:=by
 obtain⟨c,d⟩:=a;unfold af.cnt at b;refine fM 14 [(320,[1,0]),(321,[1,0])] [] [(2,0),(0,0)] Tryz.func157 rfl (λu p=>?_)
 repeat'(first|refine gP ?_|refine CI (zW x.G _ c ω ω) (.inl rfl) ?_|refine CI (mQ x.b _ d ω ω) (.inl rfl) ?_|refine CL rfl ?_ ?_)
 ·exact I1 (λz=>[I z]) (by unfold af.cnt;omega)
 repeat'(first|exact trivial|exact rfl|refine CC ?_ ?_)
def n9(x:List ay)(k:Int)(l:dD x)(o:0<=k)(q:k+(bL x:Nat)<=1099511627776):zzB 158 false [.mut none (aU .own x),.val none [I k]] [.mut none (aU .own (dR x k)),.val none []] .one [I (k+(bL x:Nat))]:=by
 have r:x.length<=1048576:=l.1;have a:((dR x k).map (ay.enc .own)).length=(x.map (ay.enc .own)).length:=by simp[kI]
 refine fM 27 [] [] [(0,0),(0,0)] Tryz.func158 rfl (λu p=>?_)
 refine ZP ?_
 refine CH (ι:=Nat) (λi=>[(0,.F .one [.s (.tag (u 0 0)) (gM ((dR x k).map (ay.enc .own)) (x.map (ay.enc .own)) i)]),(1,.F .one [I (k+(cL x i:Nat))]),(5,.F .one [I (i:Nat)])]) (λi=>i<=x.length) (λi=>x.length - i) 0 ?_ (C1 _) λi t=>?_
 ·rw[cj,lc]
  repeat'(first|exact trivial|rfl|exact CC rfl (CC (I1 I ω) trivial)|refine CC ?_ ?_)
 have b:=(gR a i).trans (show(x.map (ay.enc .own)).length=x.length by simp);by_cases g:i<x.length
 ·obtain⟨y,h⟩ : ∃y,x[i]? = some y:=⟨_,X3 g⟩
  have d:=cW a i (by simp;omega);rw[aa h]at d;have j:=kJ x k i y h;have c:=k6 x i y h;have e:=nG x (i+1);rw[c]at e;simp only[ay.cnt]at c e
  repeat'(first|refine gE ?_|with_reducible (first|refine CQ b ?_|refine CB d ?_)|refine CN rfl rfl d rfl (C2 rfl) rfl ?_|refine CN rfl rfl (bo d) rfl (C2 rfl) rfl ?_|refine CB (bo d) ?_|refine CF (i+1) ω ω ?_)
  repeat'(first|exact trivial|rfl|exact CC rfl (CC (I1 (C.s _) (by first|exact bE a (aa j)|(simp only[List.set_set];exact bE a (aa j)))) trivial)|exact CC rfl (CC (I1 I (by first|omega|(simp only[ay.cnt]at c;omega))) trivial)|refine CC ?_ ?_)
 repeat'(first|refine gE ?_|with_reducible refine CQ b ?_|refine CL rfl ?_ ?_)
 ·have n:i=x.length:=ω
  subst n;exact I1 (λz=>[I z]) (by rw[m8])
 rw[cY _ a (by simp;omega)]
 repeat'(first|exact trivial|exact rfl|refine CC ?_ ?_)
def oT(x:List au)(k:Int)(l:cx x)(o:0<=k)(q:k+(cz x:Nat)<=1099511627776):zzB 159 false [.mut none (bt .own x),.val none [I k]] [.mut none (bt .own (eJ x k)),.val none []] .one [I (k+(cz x:Nat))]:=by
 have r:x.length<=1048576:=l.1;have a:((eJ x k).map (au.enc .own)).length=(x.map (au.enc .own)).length:=by simp[mg]
 refine fM 34 [] [] [(0,0),(0,0)] Tryz.func159 rfl (λu p=>?_)
 refine ZP ?_
 refine CH (ι:=Nat) (λi=>[(0,.F .one [.s (.tag (u 0 0)) (gM ((eJ x k).map (au.enc .own)) (x.map (au.enc .own)) i)]),(1,.F .one [I (k+(dx x i:Nat))]),(5,.F .one [I (i:Nat)])]) (λi=>i<=x.length) (λi=>x.length - i) 0 ?_ (C1 _) λi t=>?_
 ·rw[cj,mu]
  repeat'(first|exact trivial|rfl|exact CC rfl (CC (I1 I ω) trivial)|refine CC ?_ ?_)
 have b:=(gR a i).trans (show(x.map (au.enc .own)).length=x.length by simp);by_cases g:i<x.length
 ·obtain⟨y,h⟩ : ∃y,x[i]? = some y:=⟨_,X3 g⟩
  have c:=cW a i (by simp;omega);rw[aa h]at c;have j:=lW x k i y h;have d:=mq x i y h;have e:=pw x (i+1);rw[d]at e;simp only[au.cnt]at d e
  repeat'(first|refine gE ?_|with_reducible (first|refine CQ b ?_|refine CB c ?_)|refine CN rfl rfl c rfl (C2 rfl) rfl ?_|refine CN rfl rfl (bo c) rfl (C2 rfl) rfl ?_|refine CN rfl rfl (bo (bo c)) rfl (C2 rfl) rfl ?_|refine CB (bo c) ?_|refine CB (bo (bo c)) ?_|refine CF (i+1) ω ω ?_)
  repeat'(first|exact trivial|rfl|exact CC rfl (CC (I1 (C.s _) (by first|exact bE a (aa j)|(simp only[List.set_set];exact bE a (aa j)))) trivial)|exact CC rfl (CC (I1 I (by first|omega|(simp only[au.cnt]at d;omega))) trivial)|refine CC ?_ ?_)
 repeat'(first|refine gE ?_|with_reducible refine CQ b ?_|refine CL rfl ?_ ?_)
 ·have n:i=x.length:=ω
  subst n;exact I1 (λz=>[I z]) (by rw[nP])
 rw[cY _ a (by simp;omega)]
 repeat'(first|exact trivial|exact rfl|refine CC ?_ ?_)
def nB(x:List aB)(k:Int)(l:cB x)(o:0<=k)(q:k+(ce x:Nat)<=1099511627776):zzB 160 false [.mut none (bz .own x),.val none [I k]] [.mut none (bz .own (dQ x k)),.val none []] .one [I (k+(ce x:Nat))]:=by
 have r:x.length<=1048576:=l.1;have a:((dQ x k).map (aB.enc .own)).length=(x.map (aB.enc .own)).length:=by simp[kQ]
 refine fM 34 [] [] [(0,0),(0,0)] Tryz.func160 rfl (λu p=>?_)
 refine ZP ?_
 refine CH (ι:=Nat) (λi=>[(0,.F .one [.s (.tag (u 0 0)) (gM ((dQ x k).map (aB.enc .own)) (x.map (aB.enc .own)) i)]),(1,.F .one [I (k+(cF x i:Nat))]),(5,.F .one [I (i:Nat)])]) (λi=>i<=x.length) (λi=>x.length - i) 0 ?_ (C1 _) λi t=>?_
 ·rw[cj,kL]
  repeat'(first|exact trivial|rfl|exact CC rfl (CC (I1 I ω) trivial)|refine CC ?_ ?_)
 have b:=(gR a i).trans (show(x.map (aB.enc .own)).length=x.length by simp);by_cases g:i<x.length
 ·obtain⟨y,h⟩ : ∃y,x[i]? = some y:=⟨_,X3 g⟩
  have c:=cW a i (by simp;omega);rw[aa h]at c;have j:=kU x k i y h;have d:=k7 x i y h;have e:=nM x (i+1);rw[d]at e;simp only[aB.cnt]at d e
  repeat'(first|refine gE ?_|with_reducible (first|refine CQ b ?_|refine CB c ?_)|refine CN rfl rfl c rfl (C2 rfl) rfl ?_|refine CN rfl rfl (bo c) rfl (C2 rfl) rfl ?_|refine CN rfl rfl (bo (bo c)) rfl (C2 rfl) rfl ?_|refine CB (bo c) ?_|refine CB (bo (bo c)) ?_|refine CF (i+1) ω ω ?_)
  repeat'(first|exact trivial|rfl|exact CC rfl (CC (I1 (C.s _) (by first|exact bE a (aa j)|(simp only[List.set_set];exact bE a (aa j)))) trivial)|exact CC rfl (CC (I1 I (by first|omega|(simp only[aB.cnt]at d;omega))) trivial)|refine CC ?_ ?_)
 repeat'(first|refine gE ?_|with_reducible refine CQ b ?_|refine CL rfl ?_ ?_)
 ·have n:i=x.length:=ω
  subst n;exact I1 (λz=>[I z]) (by rw[mt])
 rw[cY _ a (by simp;omega)]
 repeat'(first|exact trivial|exact rfl|refine CC ?_ ?_)
def qw(x:List bf)(k:Int)(l:ov x)(o:0<=k)(q:k+(dJ x:Nat)<=1099511627776):zzB 161 false [.mut none (fg .own x),.val none [I k]] [.mut none (fg .own (f0 x k)),.val none []] .one [I (k+(dJ x:Nat))]:=by
 have r:x.length<=1048576:=l.1;have a:((f0 x k).map (bf.enc .own)).length=(x.map (bf.enc .own)).length:=by simp[nY]
 refine fM 41 [] [] [(0,0),(0,0)] Tryz.func161 rfl (λu p=>?_)
 refine ZP ?_
 refine CH (ι:=Nat) (λi=>[(0,.F .one [.s (.tag (u 0 0)) (gM ((f0 x k).map (bf.enc .own)) (x.map (bf.enc .own)) i)]),(1,.F .one [I (k+(eD x i:Nat))]),(5,.F .one [I (i:Nat)])]) (λi=>i<=x.length) (λi=>x.length - i) 0 ?_ (C1 _) λi t=>?_
 ·rw[cj,nw]
  repeat'(first|exact trivial|rfl|exact CC rfl (CC (I1 I ω) trivial)|refine CC ?_ ?_)
 have c:=(gR a i).trans (show(x.map (bf.enc .own)).length=x.length by simp);by_cases g:i<x.length
 ·obtain⟨y,h⟩ : ∃y,x[i]? = some y:=⟨_,X3 g⟩
  have b:=cW a i (by simp;omega);rw[aa h]at b;have j:=nX x k i y h;have d:=nD x i y h;have e:=qU x (i+1);rw[d]at e;simp only[bf.cnt]at d e
  repeat'(first|refine gE ?_|with_reducible (first|refine CQ c ?_|refine CB b ?_)|refine CN rfl rfl b rfl (C2 rfl) rfl ?_|refine CN rfl rfl (bo b) rfl (C2 rfl) rfl ?_|refine CN rfl rfl (bo (bo b)) rfl (C2 rfl) rfl ?_|refine CN rfl rfl (bo (bo (bo b))) rfl (C2 rfl) rfl ?_|refine CB (bo b) ?_|refine CB (bo (bo b)) ?_|refine CB (bo (bo (bo b))) ?_|refine CF (i+1) ω ω ?_)
  repeat'(first|exact trivial|rfl|exact CC rfl (CC (I1 (C.s _) (by first|exact bE a (aa j)|(simp only[List.set_set];exact bE a (aa j)))) trivial)|exact CC rfl (CC (I1 I (by first|omega|(simp only[bf.cnt]at d;omega))) trivial)|refine CC ?_ ?_)
 repeat'(first|refine gE ?_|with_reducible refine CQ c ?_|refine CL rfl ?_ ?_)
 ·have n:i=x.length:=ω
  subst n;exact I1 (λz=>[I z]) (by rw[pt])
 rw[cY _ a (by simp;omega)]
 repeat'(first|exact trivial|exact rfl|refine CC ?_ ?_)
def sA(x:List ax)(k:Int)(j:iX x)(o:0<=k)(q:k+(bW x:Nat)<=1099511627776):zzB 162 false [.mut none (dv .own x),.val none [I k]] [.mut none (dv .own (b9 x k)),.val none []] .one [I (k+(bW x:Nat))]:=by
 have r:x.length<=1048576:=j.1;have a:((b9 x k).map (ax.enc .own)).length=(x.map (ax.enc .own)).length:=by simp[fy]
 refine fM 20 [(322,[1,0])] [] [(0,0),(0,0)] Tryz.func162 rfl (λu p=>?_)
 refine ZP ?_
 refine CH (ι:=Nat) (λi=>[(0,.F .one [.s (.tag (u 0 0)) (gM ((b9 x k).map (ax.enc .own)) (x.map (ax.enc .own)) i)]),(1,.F .one [I (k+(bX x i:Nat))]),(5,.F .one [I (i:Nat)])]) (λi=>i<=x.length) (λi=>x.length - i) 0 ?_ (C1 _) λi t=>?_
 ·rw[cj,iO]
  repeat'(first|exact trivial|rfl|exact CC rfl (CC (I1 I ω) trivial)|refine CC ?_ ?_)
 have b:=(gR a i).trans (show(x.map (ax.enc .own)).length=x.length by simp);by_cases h:i<x.length
 ·obtain⟨y,g⟩ : ∃y,x[i]? = some y:=⟨_,X3 h⟩
  have c:=cW a i (by simp;omega);rw[aa g]at c;have l:=gu x k i y g;have d:=iR x i y g;have e:=ka x (i+1);rw[d]at e
  repeat'(first|refine gE ?_|with_reducible (first|refine CQ b ?_|refine CB c ?_)|refine CK rfl c rfl ?_|refine Lq.one rfl rfl c rfl (I4 _) rfl rfl ?_|refine CI (lF y.T _ (j.2 y (I3 g)) ω (by simp only[ax.cnt]at e;omega)) (.inl rfl) ?_|refine CN rfl rfl (bo c) rfl (I4 _) rfl ?_|refine CB (bo c) ?_|refine CF (i+1) ω ω ?_)
  repeat'(first|exact trivial|rfl|exact CC rfl (CC (I1 (C.s _) (by first|exact bE a (aa l)|(simp only[List.set_set];exact bE a (aa l)))) trivial)|exact CC rfl (CC (I1 I (by first|omega|(simp only[ax.cnt]at d;omega))) trivial)|refine CC ?_ ?_)
 repeat'(first|refine gE ?_|with_reducible refine CQ b ?_|refine CL rfl ?_ ?_)
 ·have n:i=x.length:=ω
  subst n;exact I1 (λz=>[I z]) (by rw[jy])
 rw[cY _ a (by simp;omega)]
 repeat'(first|exact trivial|exact rfl|refine CC ?_ ?_)
def FW(x:List aT)(k:Int)(l:lR x)(o:0<=k)(q:k+(dM x:Nat)<=1099511627776):zzB 451 false [.mut none (bK .own x),.val none [I k]] [.mut none (bK .own (ep x k)),.val none []] .one [I (k+(dM x:Nat))]:=by
 have r:x.length<=1048576:=l.1;have a:((ep x k).map (aT.enc .own)).length=(x.map (aT.enc .own)).length:=by simp[m0]
 refine fM 27 [] [] [(0,0),(0,0)] Tryz.func451 rfl (λu p=>?_)
 refine ZP ?_
 refine CH (ι:=Nat) (λi=>[(0,.F .one [.s (.tag (u 0 0)) (gM ((ep x k).map (aT.enc .own)) (x.map (aT.enc .own)) i)]),(1,.F .one [I (k+(dw x i:Nat))]),(5,.F .one [I (i:Nat)])]) (λi=>i<=x.length) (λi=>x.length - i) 0 ?_ (C1 _) λi t=>?_
 ·rw[cj,ma]
  repeat'(first|exact trivial|rfl|exact CC rfl (CC (I1 I ω) trivial)|refine CC ?_ ?_)
 have b:=(gR a i).trans (show(x.map (aT.enc .own)).length=x.length by simp);by_cases g:i<x.length
 ·obtain⟨y,h⟩ : ∃y,x[i]? = some y:=⟨_,X3 g⟩
  have d:=cW a i (by simp;omega);rw[aa h]at d;have j:=mr x k i y h;have c:=mn x i y h;have e:=pe x (i+1);rw[c]at e;simp only[aT.cnt]at c e
  repeat'(first|refine gE ?_|with_reducible (first|refine CQ b ?_|refine CB d ?_)|refine CN rfl rfl d rfl (C2 rfl) rfl ?_|refine CN rfl rfl (bo d) rfl (C2 rfl) rfl ?_|refine CB (bo d) ?_|refine CF (i+1) ω ω ?_)
  repeat'(first|exact trivial|rfl|exact CC rfl (CC (I1 (C.s _) (by first|exact bE a (aa j)|(simp only[List.set_set];exact bE a (aa j)))) trivial)|exact CC rfl (CC (I1 I (by first|omega|(simp only[aT.cnt]at c;omega))) trivial)|refine CC ?_ ?_)
 repeat'(first|refine gE ?_|with_reducible refine CQ b ?_|refine CL rfl ?_ ?_)
 ·have n:i=x.length:=ω
  subst n;exact I1 (λz=>[I z]) (by rw[nr])
 rw[cY _ a (by simp;omega)]
 repeat'(first|exact trivial|exact rfl|refine CC ?_ ?_)
def AJ(x:List (List aT))(k:Int)(j:jI x)(o:0<=k)(q:k+(dm x:Nat)<=1099511627776):zzB 323 false [.mut none (dZ .own x),.val none [I k]] [.mut none (dZ .own (dP x k)),.val none []] .one [I (k+(dm x:Nat))]:=by
 have r:x.length<=1048576:=j.1;have a:((dP x k).map (bK .own)).length=(x.map (bK .own)).length:=by simp[kT]
 refine fM 19 [(451,[1,0])] [] [(0,0),(0,0)] Tryz.func323 rfl (λu p=>?_)
 refine ZP ?_
 refine CH (ι:=Nat) (λi=>[(0,.F .one [.s (.tag (u 0 0)) (gM ((dP x k).map (bK .own)) (x.map (bK .own)) i)]),(1,.F .one [I (k+(cJ x i:Nat))]),(5,.F .one [I (i:Nat)])]) (λi=>i<=x.length) (λi=>x.length - i) 0 ?_ (C1 _) λi t=>?_
 ·rw[cj,kS]
  repeat'(first|exact trivial|rfl|exact CC rfl (CC (I1 I ω) trivial)|refine CC ?_ ?_)
 have b:=(gR a i).trans (show(x.map (bK .own)).length=x.length by simp);by_cases e:i<x.length
 ·obtain⟨y,d⟩ : ∃y,x[i]? = some y:=⟨_,X3 e⟩
  have c:=cW a i (by simp;omega);rw[aa d]at c;have l:=kX x k i y d;have g:=kP x i y d;have h:=n8 x (i+1);rw[g]at h
  repeat'(first|refine gE ?_|with_reducible (first|refine CQ b ?_|refine CB c ?_)|refine CK rfl c rfl ?_|refine Lq.one rfl rfl c rfl (I4 _) rfl rfl ?_|refine CI (FW y _ (j.2 y (I3 d)) ω ω) (.inl rfl) ?_|refine CN rfl rfl (bo c) rfl (I4 _) rfl ?_|refine CB (bo c) ?_|refine CF (i+1) ω ω ?_)
  repeat'(first|exact trivial|rfl|exact CC rfl (CC (I1 (C.s _) (by first|exact bE a (aa l)|(simp only[List.set_set];exact bE a (aa l)))) trivial)|exact CC rfl (CC (I1 I ω) trivial)|refine CC ?_ ?_)
 repeat'(first|refine gE ?_|with_reducible refine CQ b ?_|refine CL rfl ?_ ?_)
 ·have n:i=x.length:=ω
  subst n;exact I1 (λz=>[I z]) (by rw[mz])
 rw[cY _ a (by simp;omega)]
 repeat'(first|exact trivial|exact rfl|refine CC ?_ ?_)
def qY(x:aM)(k:Int)(a:aM.sml x)(e:0<=k)(b:k+(aM.cnt x:Nat)<=1099511627776):zzB 163 false [.mut (some 2) (aM.enc .own x),.val none [I k]] [.mut (some 2) (aM.enc .own (x.mark k)),.val none []] .one [I (k+(aM.cnt x:Nat))]:=by
 obtain⟨c,d⟩:=a;unfold aM.cnt at b;refine fM 14 [(323,[1,0]),(322,[1,0])] [] [(2,0),(0,0)] Tryz.func163 rfl (λu p=>?_)
 repeat'(first|refine gP ?_|refine CI (AJ x.V _ c ω ω) (.inl rfl) ?_|refine CI (lF x.k _ d ω ω) (.inl rfl) ?_|refine CL rfl ?_ ?_)
 ·exact I1 (λz=>[I z]) (by unfold aM.cnt;omega)
 repeat'(first|exact trivial|exact rfl|refine CC ?_ ?_)
def AO(x:List aL)(k:Int)(l:fF x)(o:0<=k)(q:k+(dr x:Nat)<=1099511627776):zzB 324 false [.mut none (ct .own x),.val none [I k]] [.mut none (ct .own (dO x k)),.val none []] .one [I (k+(dr x:Nat))]:=by
 have r:x.length<=1048576:=l.1;have a:((dO x k).map (aL.enc .own)).length=(x.map (aL.enc .own)).length:=by simp[kO]
 refine fM 34 [] [] [(0,0),(0,0)] Tryz.func324 rfl (λu p=>?_)
 refine ZP ?_
 refine CH (ι:=Nat) (λi=>[(0,.F .one [.s (.tag (u 0 0)) (gM ((dO x k).map (aL.enc .own)) (x.map (aL.enc .own)) i)]),(1,.F .one [I (k+(cM x i:Nat))]),(5,.F .one [I (i:Nat)])]) (λi=>i<=x.length) (λi=>x.length - i) 0 ?_ (C1 _) λi t=>?_
 ·rw[cj,k9]
  repeat'(first|exact trivial|rfl|exact CC rfl (CC (I1 I ω) trivial)|refine CC ?_ ?_)
 have b:=(gR a i).trans (show(x.map (aL.enc .own)).length=x.length by simp);by_cases g:i<x.length
 ·obtain⟨y,h⟩ : ∃y,x[i]? = some y:=⟨_,X3 g⟩
  have c:=cW a i (by simp;omega);rw[aa h]at c;have j:=kC x k i y h;have d:=kZ x i y h;have e:=n7 x (i+1);rw[d]at e;simp only[aL.cnt]at d e
  repeat'(first|refine gE ?_|with_reducible (first|refine CQ b ?_|refine CB c ?_)|refine CN rfl rfl c rfl (C2 rfl) rfl ?_|refine CN rfl rfl (bo c) rfl (C2 rfl) rfl ?_|refine CN rfl rfl (bo (bo c)) rfl (C2 rfl) rfl ?_|refine CB (bo c) ?_|refine CB (bo (bo c)) ?_|refine CF (i+1) ω ω ?_)
  repeat'(first|exact trivial|rfl|exact CC rfl (CC (I1 (C.s _) (by first|exact bE a (aa j)|(simp only[List.set_set];exact bE a (aa j)))) trivial)|exact CC rfl (CC (I1 I (by first|omega|(simp only[aL.cnt]at d;omega))) trivial)|refine CC ?_ ?_)
 repeat'(first|refine gE ?_|with_reducible refine CQ b ?_|refine CL rfl ?_ ?_)
 ·have n:i=x.length:=ω
  subst n;exact I1 (λz=>[I z]) (by rw[mF])
 rw[cY _ a (by simp;omega)]
 repeat'(first|exact trivial|exact rfl|refine CC ?_ ?_)
def rn(x:aZ)(k:Int)(a:aZ.sml x)(d:0<=k)(b:k+(aZ.cnt x:Nat)<=1099511627776):zzB 164 false [.mut (some 2) (aZ.enc .own x),.val none [I k]] [.mut (some 2) (aZ.enc .own (x.mark k)),.val none []] .one [I (k+(aZ.cnt x:Nat))]:=by
 have c:=a;unfold aZ.cnt at b;refine fM 10 [(324,[1,0])] [] [(2,0),(0,0)] Tryz.func164 rfl (λu p=>?_)
 repeat'(first|refine gP ?_|refine CI (AO x.u _ c ω ω) (.inl rfl) ?_|refine CL rfl ?_ ?_)
 ·exact I1 (λz=>[I z]) (by unfold aZ.cnt;omega)
 repeat'(first|exact trivial|exact rfl|refine CC ?_ ?_)
def Hs(x:aV)(k:Int)(a:aV.sml x)(d:0<=k)(b:k+(aV.cnt x:Nat)<=1099511627776):zzB 325 false [.mut (some 3) (aV.enc .own x),.val none [I k]] [.mut (some 3) (aV.enc .own (x.mark k)),.val none []] .one [I (k+(aV.cnt x:Nat))]:=by
 have c:=a;unfold aV.cnt at b;refine fM 10 [(321,[1,0])] [] [(2,0),(0,0)] Tryz.func325 rfl (λu p=>?_)
 repeat'(first|refine gP ?_|refine CI (mQ x.W _ c ω ω) (.inl rfl) ?_|refine CL rfl ?_ ?_)
 ·exact I1 (λz=>[I z]) (by unfold aV.cnt;omega)
 repeat'(first|exact trivial|exact rfl|refine CC ?_ ?_)
def tn(x:bk)(k:Int)(a:bk.sml x)(d:0<=k)(b:k+(bk.cnt x:Nat)<=1099511627776):zzB 165 false [.mut (some 5) (bk.enc .own x),.val none [I k]] [.mut (some 5) (bk.enc .own (x.mark k)),.val none []] .one [I (k+(bk.cnt x:Nat))]:=by
 have c:=a;unfold bk.cnt at b;refine fM 10 [(325,[1,0])] [] [(2,0),(0,0)] Tryz.func165 rfl (λu p=>?_)
 repeat'(first|refine gP ?_|refine CI (Hs x.Y _ c ω ω) (.inl rfl) ?_|refine CL rfl ?_ ?_)
 ·exact I1 (λz=>[I z]) (by unfold bk.cnt;omega)
 repeat'(first|exact trivial|exact rfl|refine CC ?_ ?_)
def Gp(x:ac)(k:Int)(a:ac.sml x)(o:0<=k)(b:k+(ac.cnt x:Nat)<=1099511627776):zzB 50 false [.mut (some 24) (ac.enc .own x),.val none [I k]] [.mut (some 24) (ac.enc .own (x.mark k)),.val none []] .one [I (k+(ac.cnt x:Nat))]:=by
 obtain⟨c,d,e,g,h,i,j,l,n⟩:=a;unfold ac.cnt at b;refine fM 42 [(165,[1,0]),(157,[1,0]),(163,[1,0]),(164,[1,0]),(162,[1,0]),(160,[1,0]),(161,[1,0]),(158,[1,0]),(159,[1,0])] [] [(2,0),(0,0)] Tryz.func50 rfl (λu p=>?_)
 repeat'(first|refine gP ?_|refine CI (nq x.K _ c ω ω) (.inl rfl) ?_|refine CI (n9 x.a _ d ω ω) (.inl rfl) ?_|refine CI (oT x.H _ e ω ω) (.inl rfl) ?_|refine CI (nB x.S _ g ω ω) (.inl rfl) ?_|refine CI (qw x.X _ h ω ω) (.inl rfl) ?_|refine CI (sA x.M _ i ω ω) (.inl rfl) ?_|refine CI (qY x.e _ j ω ω) (.inl rfl) ?_|refine CI (rn x.q _ l ω ω) (.inl rfl) ?_|refine CI (tn x.p _ n ω ω) (.inl rfl) ?_|refine CL rfl ?_ ?_)
 ·exact I1 (λz=>[I z]) (by unfold ac.cnt;omega)
 repeat'(first|exact trivial|exact rfl|refine CC ?_ ?_)
set_option maxHeartbeats 2000000
def rm(x:List Int)(k:Int)(b:lw x)(h:0<=k)(c:k+(er x:Nat)<=1099511627776):zzA 327 false [.val none (aH .O (markIntS x k)),.val none [I k]] .one [I (k+(er x:Nat))]:=by
 have j:x.length<=1048576:=b;have d:=oI x k;unfold er at c;refine fO 21 [] Tryz.func327 rfl ?_
 refine ZP ?_
 refine CH (ι:=Nat) (λi=>[(0,.F .one (aH .O (markIntS x k))),(1,.F .one [I (k+(jZ x i:Nat))]),(5,.F .one [I (i:Nat)])]) (λi=>i<=x.length) (λi=>x.length - i) 0 ?_ (C1 _) λi l=>?_
 ·repeat'(first|exact trivial|rfl|exact CC rfl (CC (I1 I (by unfold jZ;omega)) trivial)|refine CC ?_ ?_)
 by_cases a:i<x.length
 ·obtain⟨y,n⟩ : ∃y,x[i]? = some y:=⟨_,X3 a⟩
  have e:=oM x k i a;unfold jZ
  repeat'(first|refine gB ?_|refine CF (i+1) ω ω ?_)
  repeat'(first|exact trivial|rfl|exact CC rfl (CC (I1 I (by first|omega|(unfold jZ;omega))) trivial)|refine CC ?_ ?_)
 refine ZB ?_
 have g:i=x.length:=ω
 subst g;exact I1 (λz=>[I z]) (by unfold jZ er;rfl)
def pd(x:List (List Int))(k:Int)(e:j7 x)(l:0<=k)(n:k+(de x:Nat)<=1099511627776):zzA 328 false [.val none (dX .O (markIntSS x k)),.val none [I k]] .one [I (k+(de x:Nat))]:=by
 have o:x.length<=1048576:=e.1;have g:=iB x k;refine fO 21 [] Tryz.func328 rfl ?_
 refine ZP ?_
 refine CH (ι:=Nat) (λi=>[(0,.F .one (dX .O (markIntSS x k))),(1,.F .one [I (k+(dI x i:Nat))]),(5,.F .one [I (i:Nat)])]) (λi=>i<=x.length) (λi=>x.length - i) 0 ?_ (C1 _) λi p=>?_
 ·rw[kb]
  repeat'(first|exact trivial|rfl|exact CC rfl (CC (I1 I ω) trivial)|refine CC ?_ ?_)
 by_cases a:i<x.length
 ·obtain⟨y,b⟩ : ∃y,x[i]? = some y:=⟨_,X3 a⟩
  have h:=iL x k i y b;have c:=jW x i y b;have d:=nk x (i+1);rw[c]at d
  repeat'(first|refine gB ?_|refine CA (rm y _ (e.2 y (I3 b)) ω ω) ?_|refine CF (i+1) ω ω ?_)
  repeat'(first|exact trivial|rfl|exact CC rfl (CC (I1 I ω) trivial)|refine CC ?_ ?_)
 refine ZB ?_
 have j:i=x.length:=ω
 subst j;exact I1 (λz=>[I z]) (by rw[lz])
def Fs(x:List Bool)(k:Int)(b:ow x)(h:0<=k)(c:k+(gt x:Nat)<=1099511627776):zzA 543 false [.val none (fX .O (markBoolS x k)),.val none [I k]] .one [I (k+(gt x:Nat))]:=by
 have j:x.length<=1048576:=b;have d:=nJ x k;unfold gt at c;refine fO 23 [] Tryz.func543 rfl ?_
 refine ZP ?_
 refine CH (ι:=Nat) (λi=>[(0,.F .one (fX .O (markBoolS x k))),(1,.F .one [I (k+(i9 x i:Nat))]),(5,.F .one [I (i:Nat)])]) (λi=>i<=x.length) (λi=>x.length - i) 0 ?_ (C1 _) λi l=>?_
 ·repeat'(first|exact trivial|rfl|exact CC rfl (CC (I1 I (by unfold i9;omega)) trivial)|refine CC ?_ ?_)
 by_cases a:i<x.length
 ·obtain⟨y,n⟩ : ∃y,x[i]? = some y:=⟨_,X3 a⟩
  have e:=nv x k i a;unfold i9
  repeat'(first|refine gB ?_|refine CP (by decide) ?_|refine CU rfl ?_|refine Bf.f (by rw[bne_eq_false_iff_eq,X6];simp) ?_|refine CF (i+1) ω ω ?_)
  repeat'(first|exact trivial|rfl|exact CC rfl (CC (I1 I (by first|omega|(unfold i9;omega))) trivial)|refine CC ?_ ?_)
 refine ZB ?_
 have g:i=x.length:=ω
 subst g;exact I1 (λz=>[I z]) (by unfold i9 gt;rfl)
def BG(x:aF)(k:Int)(a:aF.sml x)(e:0<=k)(b:k+(aF.cnt x:Nat)<=1099511627776):zzA 452 false [.val (some 2) (aF.enc .O (x.mark k)),.val none [I k]] .one [I (k+(aF.cnt x:Nat))]:=by
 obtain⟨c,d⟩:=a;unfold aF.cnt at b;refine fO 18 [] Tryz.func452 rfl ?_
 repeat'(first|refine gB ?_|refine CA (pd x.W _ c ω ω) ?_|refine CA (Fs x.c _ d ω ω) ?_)
 exact I1 (λz=>[I z]) (by unfold aF.cnt;omega)
def Bm(x:List aN)(k:Int)(e:jG x)(n:0<=k)(o:k+(dl x:Nat)<=1099511627776):zzA 544 false [.val none (eO .O (dS x k)),.val none [I k]] .one [I (k+(dl x:Nat))]:=by
 have p:x.length<=1048576:=e.1;have g:=kN x k;refine fO 31 [] Tryz.func544 rfl ?_
 refine ZP ?_
 refine CH (ι:=Nat) (λi=>[(0,.F .one (eO .O (dS x k))),(1,.F .one [I (k+(cH x i:Nat))]),(5,.F .one [I (i:Nat)])]) (λi=>i<=x.length) (λi=>x.length - i) 0 ?_ (C1 _) λi q=>?_
 ·rw[kE]
  repeat'(first|exact trivial|rfl|exact CC rfl (CC (I1 I ω) trivial)|refine CC ?_ ?_)
 by_cases c:i<x.length
 ·obtain⟨y,d⟩ : ∃y,x[i]? = some y:=⟨_,X3 c⟩
  have j:=kY x k i y d;have a:=k8 x i y d;have b:=nE x (i+1);rw[a]at b;simp only[aN.cnt]at a b
  repeat'(first|refine gB ?_|refine Bf.N (λh=>absurd rfl h) (λh=>?_)|refine CF (i+1) ω ω ?_)
  repeat'(first|exact trivial|rfl|exact CC rfl (CC (I1 I (by first|omega|(simp only[aN.cnt]at a;omega))) trivial)|refine CC ?_ ?_)
 refine ZB ?_
 have l:i=x.length:=ω
 subst l;exact I1 (λz=>[I z]) (by rw[lZ])
def FY(x:aG)(k:Int)(a:aG.sml x)(d:0<=k)(b:k+(aG.cnt x:Nat)<=1099511627776):zzA 453 false [.val (some 1) (aG.enc .O (x.mark k)),.val none [I k]] .one [I (k+(aG.cnt x:Nat))]:=by
 have c:=a;unfold aG.cnt at b;refine fO 12 [] Tryz.func453 rfl ?_
 repeat'(first|refine gB ?_|refine CA (Bm x.J _ c ω ω) ?_)
 exact I1 (λz=>[I z]) (by unfold aG.cnt;omega)
def Ac(x:aD)(k:Int)(a:aD.sml x)(e:0<=k)(b:k+(aD.cnt x:Nat)<=1099511627776):zzA 326 false [.val (some 3) (aD.enc .O (x.mark k)),.val none [I k]] .one [I (k+(aD.cnt x:Nat))]:=by
 obtain⟨c,d⟩:=a;unfold aD.cnt at b;refine fO 18 [] Tryz.func326 rfl ?_
 repeat'(first|refine gB ?_|refine CA (BG x.U _ c ω ω) ?_|refine CA (FY x.Q _ d ω ω) ?_)
 exact I1 (λz=>[I z]) (by unfold aD.cnt;omega)
def BP(x:af)(k:Int)(a:af.sml x)(e:0<=k)(b:k+(af.cnt x:Nat)<=1099511627776):zzA 166 false [.val (some 5) (af.enc .O (x.mark k)),.val none [I k]] .one [I (k+(af.cnt x:Nat))]:=by
 obtain⟨c,d⟩:=a;unfold af.cnt at b;refine fO 18 [] Tryz.func166 rfl ?_
 repeat'(first|refine gB ?_|refine CA (Ac x.G _ c ω ω) ?_|refine CA (rm x.b _ d ω ω) ?_)
 exact I1 (λz=>[I z]) (by unfold af.cnt;omega)
set_option maxHeartbeats 2000000
def AW(x:List ay)(k:Int)(e:dD x)(n:0<=k)(o:k+(bL x:Nat)<=1099511627776):zzA 167 false [.val none (aU .O (dR x k)),.val none [I k]] .one [I (k+(bL x:Nat))]:=by
 have p:x.length<=1048576:=e.1;have g:=kI x k;refine fO 31 [] Tryz.func167 rfl ?_
 refine ZP ?_
 refine CH (ι:=Nat) (λi=>[(0,.F .one (aU .O (dR x k))),(1,.F .one [I (k+(cL x i:Nat))]),(5,.F .one [I (i:Nat)])]) (λi=>i<=x.length) (λi=>x.length - i) 0 ?_ (C1 _) λi q=>?_
 ·rw[lc]
  repeat'(first|exact trivial|rfl|exact CC rfl (CC (I1 I ω) trivial)|refine CC ?_ ?_)
 by_cases c:i<x.length
 ·obtain⟨y,d⟩ : ∃y,x[i]? = some y:=⟨_,X3 c⟩
  have j:=kJ x k i y d;have a:=k6 x i y d;have b:=nG x (i+1);rw[a]at b;simp only[ay.cnt]at a b
  repeat'(first|refine gB ?_|refine Bf.N (λh=>absurd rfl h) (λh=>?_)|refine CF (i+1) ω ω ?_)
  repeat'(first|exact trivial|rfl|exact CC rfl (CC (I1 I (by first|omega|(simp only[ay.cnt]at a;omega))) trivial)|refine CC ?_ ?_)
 refine ZB ?_
 have l:i=x.length:=ω
 subst l;exact I1 (λz=>[I z]) (by rw[m8])
def E2(x:List au)(k:Int)(e:cx x)(n:0<=k)(o:k+(cz x:Nat)<=1099511627776):zzA 168 false [.val none (bt .O (eJ x k)),.val none [I k]] .one [I (k+(cz x:Nat))]:=by
 have p:x.length<=1048576:=e.1;have g:=mg x k;refine fO 40 [] Tryz.func168 rfl ?_
 refine ZP ?_
 refine CH (ι:=Nat) (λi=>[(0,.F .one (bt .O (eJ x k))),(1,.F .one [I (k+(dx x i:Nat))]),(5,.F .one [I (i:Nat)])]) (λi=>i<=x.length) (λi=>x.length - i) 0 ?_ (C1 _) λi q=>?_
 ·rw[mu]
  repeat'(first|exact trivial|rfl|exact CC rfl (CC (I1 I ω) trivial)|refine CC ?_ ?_)
 by_cases c:i<x.length
 ·obtain⟨y,d⟩ : ∃y,x[i]? = some y:=⟨_,X3 c⟩
  have j:=lW x k i y d;have a:=mq x i y d;have b:=pw x (i+1);rw[a]at b;simp only[au.cnt]at a b
  repeat'(first|refine gB ?_|refine Bf.N (λh=>absurd rfl h) (λh=>?_)|refine CF (i+1) ω ω ?_)
  repeat'(first|exact trivial|rfl|exact CC rfl (CC (I1 I (by first|omega|(simp only[au.cnt]at a;omega))) trivial)|refine CC ?_ ?_)
 refine ZB ?_
 have l:i=x.length:=ω
 subst l;exact I1 (λz=>[I z]) (by rw[nP])
def B7(x:List aB)(k:Int)(e:cB x)(n:0<=k)(o:k+(ce x:Nat)<=1099511627776):zzA 169 false [.val none (bz .O (dQ x k)),.val none [I k]] .one [I (k+(ce x:Nat))]:=by
 have p:x.length<=1048576:=e.1;have g:=kQ x k;refine fO 40 [] Tryz.func169 rfl ?_
 refine ZP ?_
 refine CH (ι:=Nat) (λi=>[(0,.F .one (bz .O (dQ x k))),(1,.F .one [I (k+(cF x i:Nat))]),(5,.F .one [I (i:Nat)])]) (λi=>i<=x.length) (λi=>x.length - i) 0 ?_ (C1 _) λi q=>?_
 ·rw[kL]
  repeat'(first|exact trivial|rfl|exact CC rfl (CC (I1 I ω) trivial)|refine CC ?_ ?_)
 by_cases c:i<x.length
 ·obtain⟨y,d⟩ : ∃y,x[i]? = some y:=⟨_,X3 c⟩
  have j:=kU x k i y d;have a:=k7 x i y d;have b:=nM x (i+1);rw[a]at b;simp only[aB.cnt]at a b
  repeat'(first|refine gB ?_|refine Bf.N (λh=>absurd rfl h) (λh=>?_)|refine CF (i+1) ω ω ?_)
  repeat'(first|exact trivial|rfl|exact CC rfl (CC (I1 I (by first|omega|(simp only[aB.cnt]at a;omega))) trivial)|refine CC ?_ ?_)
 refine ZB ?_
 have l:i=x.length:=ω
 subst l;exact I1 (λz=>[I z]) (by rw[mt])
def HL(x:List bf)(k:Int)(e:ov x)(n:0<=k)(o:k+(dJ x:Nat)<=1099511627776):zzA 170 false [.val none (fg .O (f0 x k)),.val none [I k]] .one [I (k+(dJ x:Nat))]:=by
 have p:x.length<=1048576:=e.1;have g:=nY x k;refine fO 49 [] Tryz.func170 rfl ?_
 refine ZP ?_
 refine CH (ι:=Nat) (λi=>[(0,.F .one (fg .O (f0 x k))),(1,.F .one [I (k+(eD x i:Nat))]),(5,.F .one [I (i:Nat)])]) (λi=>i<=x.length) (λi=>x.length - i) 0 ?_ (C1 _) λi q=>?_
 ·rw[nw]
  repeat'(first|exact trivial|rfl|exact CC rfl (CC (I1 I ω) trivial)|refine CC ?_ ?_)
 by_cases c:i<x.length
 ·obtain⟨y,d⟩ : ∃y,x[i]? = some y:=⟨_,X3 c⟩
  have j:=nX x k i y d;have a:=nD x i y d;have b:=qU x (i+1);rw[a]at b;simp only[bf.cnt]at a b
  repeat'(first|refine gB ?_|refine Bf.N (λh=>absurd rfl h) (λh=>?_)|refine CF (i+1) ω ω ?_)
  repeat'(first|exact trivial|rfl|exact CC rfl (CC (I1 I (by first|omega|(simp only[bf.cnt]at a;omega))) trivial)|refine CC ?_ ?_)
 refine ZB ?_
 have l:i=x.length:=ω
 subst l;exact I1 (λz=>[I z]) (by rw[pt])
def Bl(x:List ax)(k:Int)(e:iX x)(l:0<=k)(n:k+(bW x:Nat)<=1099511627776):zzA 171 false [.val none (dv .O (b9 x k)),.val none [I k]] .one [I (k+(bW x:Nat))]:=by
 have o:x.length<=1048576:=e.1;have g:=fy x k;refine fO 22 [] Tryz.func171 rfl ?_
 refine ZP ?_
 refine CH (ι:=Nat) (λi=>[(0,.F .one (dv .O (b9 x k))),(1,.F .one [I (k+(bX x i:Nat))]),(5,.F .one [I (i:Nat)])]) (λi=>i<=x.length) (λi=>x.length - i) 0 ?_ (C1 _) λi p=>?_
 ·rw[iO]
  repeat'(first|exact trivial|rfl|exact CC rfl (CC (I1 I ω) trivial)|refine CC ?_ ?_)
 by_cases c:i<x.length
 ·obtain⟨y,d⟩ : ∃y,x[i]? = some y:=⟨_,X3 c⟩
  have h:=gu x k i y d;have a:=iR x i y d;have b:=ka x (i+1);rw[a]at b
  repeat'(first|refine gB ?_|refine CA (pd y.T _ (e.2 y (I3 d)) ω (by simp only[ax.cnt]at b;omega)) ?_|refine CF (i+1) ω ω ?_)
  repeat'(first|exact trivial|rfl|exact CC rfl (CC (I1 I (by first|omega|(simp only[ax.cnt]at a;omega))) trivial)|refine CC ?_ ?_)
 refine ZB ?_
 have j:i=x.length:=ω
 subst j;exact I1 (λz=>[I z]) (by rw[jy])
def Eo(x:List aT)(k:Int)(e:lR x)(n:0<=k)(o:k+(dM x:Nat)<=1099511627776):zzA 454 false [.val none (bK .O (ep x k)),.val none [I k]] .one [I (k+(dM x:Nat))]:=by
 have p:x.length<=1048576:=e.1;have g:=m0 x k;refine fO 31 [] Tryz.func454 rfl ?_
 refine ZP ?_
 refine CH (ι:=Nat) (λi=>[(0,.F .one (bK .O (ep x k))),(1,.F .one [I (k+(dw x i:Nat))]),(5,.F .one [I (i:Nat)])]) (λi=>i<=x.length) (λi=>x.length - i) 0 ?_ (C1 _) λi q=>?_
 ·rw[ma]
  repeat'(first|exact trivial|rfl|exact CC rfl (CC (I1 I ω) trivial)|refine CC ?_ ?_)
 by_cases c:i<x.length
 ·obtain⟨y,d⟩ : ∃y,x[i]? = some y:=⟨_,X3 c⟩
  have j:=mr x k i y d;have a:=mn x i y d;have b:=pe x (i+1);rw[a]at b;simp only[aT.cnt]at a b
  repeat'(first|refine gB ?_|refine Bf.N (λh=>absurd rfl h) (λh=>?_)|refine CF (i+1) ω ω ?_)
  repeat'(first|exact trivial|rfl|exact CC rfl (CC (I1 I (by first|omega|(simp only[aT.cnt]at a;omega))) trivial)|refine CC ?_ ?_)
 refine ZB ?_
 have l:i=x.length:=ω
 subst l;exact I1 (λz=>[I z]) (by rw[nr])
def AQ(x:List (List aT))(k:Int)(e:jI x)(l:0<=k)(n:k+(dm x:Nat)<=1099511627776):zzA 329 false [.val none (dZ .O (dP x k)),.val none [I k]] .one [I (k+(dm x:Nat))]:=by
 have o:x.length<=1048576:=e.1;have g:=kT x k;refine fO 21 [] Tryz.func329 rfl ?_
 refine ZP ?_
 refine CH (ι:=Nat) (λi=>[(0,.F .one (dZ .O (dP x k))),(1,.F .one [I (k+(cJ x i:Nat))]),(5,.F .one [I (i:Nat)])]) (λi=>i<=x.length) (λi=>x.length - i) 0 ?_ (C1 _) λi p=>?_
 ·rw[kS]
  repeat'(first|exact trivial|rfl|exact CC rfl (CC (I1 I ω) trivial)|refine CC ?_ ?_)
 by_cases a:i<x.length
 ·obtain⟨y,b⟩ : ∃y,x[i]? = some y:=⟨_,X3 a⟩
  have h:=kX x k i y b;have c:=kP x i y b;have d:=n8 x (i+1);rw[c]at d
  repeat'(first|refine gB ?_|refine CA (Eo y _ (e.2 y (I3 b)) ω ω) ?_|refine CF (i+1) ω ω ?_)
  repeat'(first|exact trivial|rfl|exact CC rfl (CC (I1 I ω) trivial)|refine CC ?_ ?_)
 refine ZB ?_
 have j:i=x.length:=ω
 subst j;exact I1 (λz=>[I z]) (by rw[mz])
def Hz(x:aM)(k:Int)(a:aM.sml x)(e:0<=k)(b:k+(aM.cnt x:Nat)<=1099511627776):zzA 172 false [.val (some 2) (aM.enc .O (x.mark k)),.val none [I k]] .one [I (k+(aM.cnt x:Nat))]:=by
 obtain⟨c,d⟩:=a;unfold aM.cnt at b;refine fO 18 [] Tryz.func172 rfl ?_
 repeat'(first|refine gB ?_|refine CA (AQ x.V _ c ω ω) ?_|refine CA (pd x.k _ d ω ω) ?_)
 exact I1 (λz=>[I z]) (by unfold aM.cnt;omega)
def BC(x:List aL)(k:Int)(e:fF x)(n:0<=k)(o:k+(dr x:Nat)<=1099511627776):zzA 330 false [.val none (ct .O (dO x k)),.val none [I k]] .one [I (k+(dr x:Nat))]:=by
 have p:x.length<=1048576:=e.1;have g:=kO x k;refine fO 40 [] Tryz.func330 rfl ?_
 refine ZP ?_
 refine CH (ι:=Nat) (λi=>[(0,.F .one (ct .O (dO x k))),(1,.F .one [I (k+(cM x i:Nat))]),(5,.F .one [I (i:Nat)])]) (λi=>i<=x.length) (λi=>x.length - i) 0 ?_ (C1 _) λi q=>?_
 ·rw[k9]
  repeat'(first|exact trivial|rfl|exact CC rfl (CC (I1 I ω) trivial)|refine CC ?_ ?_)
 by_cases c:i<x.length
 ·obtain⟨y,d⟩ : ∃y,x[i]? = some y:=⟨_,X3 c⟩
  have j:=kC x k i y d;have a:=kZ x i y d;have b:=n7 x (i+1);rw[a]at b;simp only[aL.cnt]at a b
  repeat'(first|refine gB ?_|refine Bf.N (λh=>absurd rfl h) (λh=>?_)|refine CF (i+1) ω ω ?_)
  repeat'(first|exact trivial|rfl|exact CC rfl (CC (I1 I (by first|omega|(simp only[aL.cnt]at a;omega))) trivial)|refine CC ?_ ?_)
 refine ZB ?_
 have l:i=x.length:=ω
 subst l;exact I1 (λz=>[I z]) (by rw[mF])
def GE(x:aZ)(k:Int)(a:aZ.sml x)(d:0<=k)(b:k+(aZ.cnt x:Nat)<=1099511627776):zzA 173 false [.val (some 2) (aZ.enc .O (x.mark k)),.val none [I k]] .one [I (k+(aZ.cnt x:Nat))]:=by
 have c:=a;unfold aZ.cnt at b;refine fO 12 [] Tryz.func173 rfl ?_
 repeat'(first|refine gB ?_|refine CA (BC x.u _ c ω ω) ?_)
 exact I1 (λz=>[I z]) (by unfold aZ.cnt;omega)
def G1(x:aV)(k:Int)(a:aV.sml x)(d:0<=k)(b:k+(aV.cnt x:Nat)<=1099511627776):zzA 331 false [.val (some 3) (aV.enc .O (x.mark k)),.val none [I k]] .one [I (k+(aV.cnt x:Nat))]:=by
 have c:=a;unfold aV.cnt at b;refine fO 12 [] Tryz.func331 rfl ?_
 repeat'(first|refine gB ?_|refine CA (rm x.W _ c ω ω) ?_)
 exact I1 (λz=>[I z]) (by unfold aV.cnt;omega)
def Lb(x:bk)(k:Int)(a:bk.sml x)(d:0<=k)(b:k+(bk.cnt x:Nat)<=1099511627776):zzA 174 false [.val (some 5) (bk.enc .O (x.mark k)),.val none [I k]] .one [I (k+(bk.cnt x:Nat))]:=by
 have c:=a;unfold bk.cnt at b;refine fO 12 [] Tryz.func174 rfl ?_
 repeat'(first|refine gB ?_|refine CA (G1 x.Y _ c ω ω) ?_)
 exact I1 (λz=>[I z]) (by unfold bk.cnt;omega)
def Jk(x:ac)(k:Int)(a:ac.sml x)(o:0<=k)(b:k+(ac.cnt x:Nat)<=1099511627776):zzA 51 false [.val (some 24) (ac.enc .O (x.mark k)),.val none [I k]] .one [I (k+(ac.cnt x:Nat))]:=by
 obtain⟨c,d,e,g,h,i,j,l,n⟩:=a;unfold ac.cnt at b;refine fO 60 [] Tryz.func51 rfl ?_
 repeat'(first|refine gB ?_|refine CA (BP x.K _ c ω ω) ?_|refine CA (AW x.a _ d ω ω) ?_|refine CA (E2 x.H _ e ω ω) ?_|refine CA (B7 x.S _ g ω ω) ?_|refine CA (HL x.X _ h ω ω) ?_|refine CA (Bl x.M _ i ω ω) ?_|refine CA (Hz x.e _ j ω ω) ?_|refine CA (GE x.q _ l ω ω) ?_|refine CA (Lb x.p _ n ω ω) ?_)
 exact I1 (λz=>[I z]) (by unfold ac.cnt;omega)
set_option maxHeartbeats 4000000
def j9(sp:List au)(ps:List Int)(b:Int):Nat->Int
 | 0=>b
 | j+1=>if(nth sp j).R∈ps then bor (j9 sp ps b j) (nth sp j).r else j9 sp ps b j
def yh{sp:List au}(h:∀s∈sp,bc s=true){ps:List Int}{b:Int}(a:0<=b/\b<=65535):∀j,j<=sp.length->0<=j9 sp ps b j/\j9 sp ps b j<=65535
 | 0,_=>a
 | j+1,d=>by
  have c:=yh h (ps:=ps) a j ω;simp only[j9];split
  ·exact JY c (mY h ω)
  exact c
def si(h:ac)(i:Nat)(n:cx h.H)(c:x8 h)(a:∀s∈h.H,bc s=true)(t:i<h.H.length):zzA 336 false [.val (some 24) (ac.enc .O h),.val none [I (i:Nat)]] .one [I (j9 h.H (aQ h (nth h.H i).R) (nth h.H i).r h.H.length)]:=by
 have C:=n.1;have u:=ar t;have d:=mY a t;have w:=aO ((i:Nat):Int) 0 ((h.H.length:Int) - 1);rw[O0 (show(0:Int)<=(i:Nat)/\((i:Nat):Int)<=(h.H.length:Int) - 1 by omega)]at w;have y:=kM h (nth h.H i).R c;have o:=fG h (nth h.H i).R;have D:gr h<=1048576:=c.1;obtain⟨ps,p⟩ : ∃ps,aQ h (nth h.H i).R=ps:=⟨_,rfl⟩
 obtain⟨b,q⟩ : ∃b,(nth h.H i).r=b:=⟨_,rfl⟩
 rw[p]at y o |-;rw[q]at d |-;have E:j9 h.H ps b 0=b:=rfl;refine fO 47 [(4,7,[22,23,24,25,26,27,28])] Tryz.func336 rfl ?_
 refine ZP ?_
 refine CH (ι:=Nat) (λj=>[(5,.F .one [I (j9 h.H ps b j)]),(6,.F .one (aH .own ps)),(31,.F .one (bt .O h.H)),(32,.F .one [I ((h.H.length:Nat))]),(33,.F .one [I ((j:Nat):Int)])]) (λj=>j<=h.H.length) (λj=>h.H.length - j) (0) ?_ (C1 _) λj F=>?_
 ·exact wC
 by_cases B:j<h.H.length
 ·have k:=ar B
  have r:=yh a (ps:=ps) d j F;have l:=sB ps (nth h.H j).R ω;by_cases e:(nth h.H j).R∈ps
  ·have g:j9 h.H ps b (j+1)=bor (j9 h.H ps b j) (nth h.H j).r:=CG e
   rw[O0 e]at l
   repeat'(first|refine gE ?_|refine CO (or64 r (mY a B)) ?_|refine CJ (l) ⟨⟨rfl,dK _⟩,⟨rfl,rfl⟩,trivial⟩ ?_)
   (refine CF (j+1) ω ω ?_;(exact wC))
  have g:j9 h.H ps b (j+1)=j9 h.H ps b j:=CD e;rw[Z0 e]at l
  repeat'(first|refine gE ?_|refine CJ (l) ⟨⟨rfl,dK _⟩,⟨rfl,rfl⟩,trivial⟩ ?_)
  (refine CF (j+1) ω ω ?_;(exact wC))
 obtain rfl:j=h.H.length:=ω
 refine ZE ?_
 rfl
def QV(a b:Int)(k:Nat):(bor a b).toNat.testBit k=true↔a.toNat.testBit k=true\/b.toNat.testBit k=true:=by
 unfold bor;rw[t4,Nat.testBit_or,X8]
def MG(sp:List au)(p b:Int)(k:Nat):∀j,(qK sp p b j).toNat.testBit k=true↔b.toNat.testBit k=true\/∃i,i<j/\(nth sp i).R=p/\(nth sp i).r.toNat.testBit k=true
 | 0=>by simp[qK]
 | j+1=>by
  have g:=MG sp p b k j;simp only[qK];split
  ·rename_i e
   rw[QV,g];constructor
   ·rintro((h|⟨i,d,a,c⟩)|h)
    ·exact .inl h
    ·exact .inr ⟨i,ω,a,c⟩
    exact .inr ⟨j,ω,e,h⟩
   rintro(h|⟨i,d,a,c⟩)
   ·exact .inl (.inl h)
   by_cases f:i=j
   ·subst f;exact .inr c
   exact .inl (.inr ⟨i,ω,a,c⟩)
  rename_i e;rw[g];constructor
  ·rintro(h|⟨i,d,a,c⟩)
   ·exact .inl h
   exact .inr ⟨i,ω,a,c⟩
  rintro(h|⟨i,d,a,c⟩)
  ·exact .inl h
  by_cases f:i=j
  ·subst f;exact absurd a e
  exact .inr ⟨i,ω,a,c⟩
def Ju(sp:List au)(ps:List Int)(b:Int)(k:Nat):∀m,(iH sp ps b m).toNat.testBit k=true↔b.toNat.testBit k=true\/∃u,u<m/\∃i,i<sp.length/\(nth sp i).R=nth ps u/\(nth sp i).r.toNat.testBit k=true
 | 0=>by simp[iH]
 | m+1=>by
  have c:=Ju sp ps b k m;simp only[iH];rw[MG,c];constructor
  ·rintro((h|⟨u,d,a⟩)|h)
   ·exact .inl h
   ·exact .inr ⟨u,ω,a⟩
   exact .inr ⟨m,ω,h⟩
  rintro(h|⟨u,d,a⟩)
  ·exact .inl (.inl h)
  by_cases e:u=m
  ·subst e;exact .inr a
  exact .inl (.inr ⟨u,ω,a⟩)
def H3(sp:List au)(ps:List Int)(b:Int)(k:Nat):∀j,(j9 sp ps b j).toNat.testBit k=true↔b.toNat.testBit k=true\/∃i,i<j/\(nth sp i).R∈ps/\(nth sp i).r.toNat.testBit k=true
 | 0=>by simp[j9]
 | j+1=>by
  have g:=H3 sp ps b k j;simp only[j9];split
  ·rename_i e
   rw[QV,g];constructor
   ·rintro((h|⟨i,d,a,c⟩)|h)
    ·exact .inl h
    ·exact .inr ⟨i,ω,a,c⟩
    exact .inr ⟨j,ω,e,h⟩
   rintro(h|⟨i,d,a,c⟩)
   ·exact .inl (.inl h)
   by_cases f:i=j
   ·subst f;exact .inr c
   exact .inl (.inr ⟨i,ω,a,c⟩)
  rename_i e;rw[g];constructor
  ·rintro(h|⟨i,d,a,c⟩)
   ·exact .inl h
   exact .inr ⟨i,ω,a,c⟩
  rintro(h|⟨i,d,a,c⟩)
  ·exact .inl h
  by_cases f:i=j
  ·subst f;exact absurd a e
  exact .inr ⟨i,ω,a,c⟩
def PK{sp:List au}(h:∀s∈sp,bc s=true){ps:List Int}{b:Int}(f:0<=b/\b<=65535):j9 sp ps b sp.length=iH sp ps b ps.length:=by
 have a:=yh h (ps:=ps) f sp.length (I4 _);have c:=mC h (ps:=ps) f ps.length;have e:(j9 sp ps b sp.length).toNat=(iH sp ps b ps.length).toNat:=by
  apply Nat.eq_of_testBit_eq;intro k;rw[X6,H3,Ju];constructor
  ·rintro(h|⟨i,a,c,d⟩)
   ·exact .inl h
   obtain⟨u,g⟩:=List.getElem?_of_mem c;exact .inr ⟨u,(Y3.1 g).1,i,a,(b6 g).symm,d⟩
  rintro(h|⟨u,a,i,c,d,j⟩)
  ·exact .inl h
  exact .inr ⟨i,c,by rw[d];exact aE a,j⟩
 omega
variable{i:Nat}
def xe{h:ac}(a:∀s∈h.H,bc s=true)(b:i<h.H.length):j9 h.H (aQ h (nth h.H i).R) (nth h.H i).r h.H.length=ee h i:=PK a (mY a b)
def yQ(h:ac)(a:∀o∈h.X,0<=o.a3/\o.a3<=1000)(e:h.X.length<=1048576):zzA 18 false [.val (some 24) (ac.enc .O h)] .one [I (oV h)]:=by
 refine fO 19 [] Tryz.func18 rfl ?_
 refine ZP ?_
 refine CH (ι:=Nat) (λk=>[(3,.F .one [I (tH h.X k)]),(7,.F .one (fg .O h.X)),(8,.F .one [I (h.X.length)]),(9,.F .one [I ((k:Nat):Int)])]) (λk=>k<=h.X.length) (λk=>h.X.length - k) (0) ?_ (C1 _) λk d=>?_
 ·exact wC
 have g:=oB a k d;by_cases b:k<h.X.length
 ·have c:=ar b
  have i:=a _ (aE b)
  refine ZE ?_
  (refine CF (k+1) ω ω ?_;(exact wC))
 obtain rfl:k=h.X.length:=ω
 refine ZE ?_
 rfl
def qJ(k b:Int)(e:b<=9223372036854775807):zzA 334 false [.val none [I (slots k)],.val none [I b]] .one (aH .own (p6 k b)):=by
 have c:=sJ k b;have n:0<=slots k/\slots k<=16:=by unfold slots;repeat' split<;>omega
 unfold p6;cases g:N8 k b<;>rw[g]at c
 ·rw[CD (by simp)]
  refine fO 26 [] Tryz.func334 rfl ?_ (.inr (bM _))
  repeat'((conv=>whnf);first|with_reducible (first|refine Lm ?_|refine Wm ω ?_|refine Bn ?_|refine qr.wk rfl ?_)|refine Bt ?_|refine Bu ?_|refine CA (c) ?_)
  all_goals exact⟨rfl,trivial⟩
 rw[CG rfl];refine fO 26 [] Tryz.func334 rfl ?_ (.inr (bM _))
 refine ZP ?_
 refine CH (ι:=Nat) (λj=>[(0,.F .one [I (slots k)]),(1,.F .one [I (b)]),(5,.F .one (aH .own (mi b j))),(6,.F .one [I ((j:Nat):Int)])]) (λj=>j<=(slots k).toNat) (λj=>(slots k).toNat - j) (0) ?_ (C1 _) λj o=>?_
 ·exact wC
 have h:=rL b j;by_cases p:j<(slots k).toNat
 ·have d:=ip b (j:Nat) e
  have a:mi b (j+1)=if aX b (j:Nat)=true then mi b j else mi b j++[((j:Nat):Int)]:=rfl
  cases i:aX b (j:Nat)<;>rw[i]at d a
  ·rw[CD (by simp)]at a
   repeat'(first|refine gE ?_|refine CS cR (λr l=>by rw[I2.1 l];rfl) (by simp[bm,eX]) (by simp;omega) (by simp only[Z1];exact v8 (by simp;omega) (by decide)) rfl ?_)
   (refine CF (j+1) ω ω ?_)
   rw[a]
   repeat'(first|exact trivial|rfl| exact mJ _ |exact CC rfl (CC (I1 (C.s dY.own) (by simp[rI])) trivial)|refine CC ?_ ?_|(exact TF (by first|omega|(simp only;omega)|(simp;omega))))
  rw[CG rfl]at a
  refine ZE ?_
  (refine CF (j+1) ω ω ?_)
  rw[a];exact wC
 obtain rfl:j=(slots k).toNat:=ω
 refine ZE ?_
 rfl
def Bd(b i:Int)(d:0<=b/\b<=65535)(a:0<=i/\i<=15):zzA 338 false [.val none [I b],.val none [I i]] .one [I (gL b i)]:=by
 have c:=rH b i;rw[O0 ω]at c;have e:=(or64 (z1:=b) (z2:=2 ^ i.toNat) d (by have:=shl64 a;omega)).trans (Ed b i);refine fO 14 [] Tryz.func338 rfl ?_
 repeat'(first|refine gP ?_|refine CP ω ?_|refine CO (shl64 a).1 ?_|refine CO e ?_)
 rfl
def BY(f:aF)(i:Nat):aF.enc .own ⟨f.W,f.c.set i true⟩ = [.s .own (f.W.map (aH .own)),.s .own ((f.c.map (rB .own)).set i (rB .own true))]:=by
 simp[aF.enc,S8]
def xt(f:aF):aF × Int × Bool:=
 if eP (λu=>!u) f.c<0 then(f,-1,false) else(⟨f.W,f.c.set (eP (λu=>!u) f.c).toNat true⟩,eP (λu=>!u) f.c,true)
def yP(f:aF)(l:cK f=true)(b:aF.sml f):zzA 460 false [.val (some 2) (aF.enc .O f)] (.tup [some 2,none,none]) (aF.enc .own (xt f).1++[I (xt f).2.1,B (xt f).2.2]):=by
 have n:=pT f b;have h:=nO f b;rw[l]at h;have p:f.c.length<=1048576:=b.2;refine fO 30 [] Tryz.func460 rfl ?_ (.inr (aJ (aF.enc_fr _) ⟨trivial,trivial,trivial⟩))
 refine ZP ?_
 refine CH (ι:=Nat) (λi=>[(2,.F .box [.z,.z]),(5,.F .box (aF.enc .own f)),(13,.F .one (fX .O f.c)),(14,.F .one [I (f.c.length)]),(15,.F .one [I ((i:Nat):Int)])]) (λi=>i<=f.c.length/\∀(j:Nat)(z:Bool),j<i->f.c[j]? = some z->(!z)=false) (λi=>f.c.length - i) (0) ?_ (⟨C1 _,λj z q=>ω⟩) λi k=>?_
 ·exact wC
 obtain⟨k,c⟩:=k;by_cases o:i<f.c.length
 ·have a:=ar o
  cases e:nth f.c i<;>rw[e]at a
  ·have d:eP (λu=>!u) f.c=(i:Nat):=gd a rfl c
   have g:xt f=((⟨f.W,f.c.set i true⟩ : aF),((i:Nat):Int),true):=by unfold xt;rw[d,CD ω];rfl
   rw[g];simp only;rw[BY]
   repeat'(first|refine gE ?_|refine CN rfl rfl (aa a) rfl (C2 rfl) rfl ?_)
   rfl
  refine ZE ?_
  (refine CF (i+1) ⟨ω,fC a rfl c⟩ ω ?_;(exact wC))
 have d:eP (λu=>!u) f.c = -1:=iA ω c;have g:xt f=(f,-1,false):=by unfold xt;rw[d];rfl
 rw[g]
 refine ZE ?_
 rfl
set_option maxRecDepth 100000
def Lg:∀w,(zeroValue 180).run Tryz.prog w=.ok (.agg #[.int .i64 0,.int .i64 0]) w:=λ_=>by kernel_rfl
def Fh:Az Tryz.prog 458 2:=by
 refine⟨⟨_,Tryz.func458,by kernel_rfl,by kernel_rfl⟩,λw g n c i news r y o B C b=>?_⟩;obtain⟨A,X,a⟩:=xT o y r B;have a:Hid (∀t u,news[t]? = some u->w.drew.cell? (A.add t)=some u):=a;have T:Hid (news.length=(n - (i+1))*2):=o;have Y:Hid (∀u∈news,u.oneCell'=true):=C;have Z:Hid (∀t,t<news.length->(w.drew.cell? ⟨g,0+i*2+t,none⟩).isSome=true/\w.drew.frozen? ⟨g,0+i*2+t,none⟩ = false):=λt ht=>by
  rw[z9];exact b (i*2+t) ω
 obtain⟨p,d⟩ : ∃p,p=w.drew.setCells g (0+i*2) news:=⟨_,rfl⟩
 have K:∀q,q<n*2->(p.cell? ⟨g,q,none⟩).isSome=true/\p.frozen? ⟨g,q,none⟩ = false:=λq U=>by
  have D:∀j,j<news.length->∃z,cel w.drew g (0+i*2+j)=some z:=λj L=>by
   have:=(b (0+i*2+j) ω).1;exact Option.isSome_iff_exists.1 this
  refine⟨?_,by rw[d];exact(I1 Prod.fst (bR g _ news w.drew g q)).trans (b q U).2⟩;rw[d];by_cases h:0+i*2<=q/\q<0+i*2+news.length
  ·have:=bv D (X3 (show q - (0+i*2)<news.length by omega))
   rw[show 0+i*2+(q - (0+i*2))=q by omega]at this;show(cel _ g q).isSome=true;rw[this];rfl
  show(cel _ g q).isSome=true;rw[aY (λx=>h x.2)];exact(b q U).1
 obtain⟨M,E,F,G⟩:=yb (P:=Tryz.prog) p 36 180 2 (.agg #[.int .i64 0,.int .i64 0]) Tryz.underlying36 Lg rfl (by intro v V;simp[Value.cells]at V;subst V;rfl) g ((i+(n - (i+1)))*2) (n - (i+(n - (i+1)))) ω (by decide) (λj L=>(K _ ω).1) (λj L=>(K _ ω).2);have k:Hid (M.length=(n - (i+(n - (i+1))))*2):=E;have H:Hid (∀v∈M,v.oneCell'=true):=F;have W:Hid (p=w.drew.setCells g (0+i*2) news):=d;have hic:i<=c:=ω
 have N:i+1<=c:=ω
 have O:¬i=i+1:=ω
 have Q:i+1<=n:=r;have l:n - 1=i+(n - (i+1)):=ω
 clear d K b B C o E F;rw[l];generalize L:i+1=j at X a T G k N O Q l |-;obtain⟨J,R,S⟩ : ∃J,Tryz.prog.info? 180=some J/\J.size=2:=by
  have h:=(od 180 _ rfl).1;cases e : Tryz.prog.info? 180 with
  | none=>rw[e]at h;cases h
  | some x=>rw[e]at h;simp only[I7,O1,Prod.mk.injEq]at h;exact⟨x,rfl,h.2.1⟩
 have mixed : Tryz.prog.follows .mixedOrders=true:=by kernel_rfl
 go_enter Tryz.func458,Tryz.ntmps458
 go_wp2_with fail
 go_region_law_o (refine step_append_room rfl (.tmp 22) (.tmp 25) 36 rfl 180 J 2 Tryz.underlying36 R S g 0 i c (by simp[Act.eval,Act.put]) A (n - j) (c - j) news (by simp[Act.eval,Act.put]) T.out a.out Y.out ω Z.out ?_;rw[<-W.out])
 go_wp2
 go_ret
 refine⟨rfl,M,by have:=k.out;omega,H.out,?_⟩;rw[W.out,z9]
def Fp(xs:List ay)(i:Nat)(a:i<xs.length):zzB 458 false [.mut none [.s .own (xs.map (ay.enc .own))],.val none [I (i:Nat)],.val none [I ((i+1:Nat):Int)]] [.mut none [.x],.val none [I (i:Nat)],.val none [I ((i+1:Nat):Int)]] .one [oE ((dele xs i).map (ay.enc .own))]:=by
 have h:=Rh Fh (rows:=xs.map (ay.enc .own)) (i:=i) (by rw[Z1];exact a) (aW λ_=>rfl) (bu _ _ λx _=>ay.enc_fr x)
 rwa [show dele (xs.map (ay.enc .own)) i=(dele xs i).map (ay.enc .own) by simp[dele,O5,X5]]at h
variable{α:Type}
def PU(xs:List α)(b:Nat)(y:α):dele (xs.set b y) b=dele xs b:=by
 unfold dele;rw[List.take_set_of_le (I4 b),List.drop_set_of_lt (Nat.lt_succ_self b)]
def uF(k:af)(p:Int)(c:aK k=true)(w:k.Calls≠100000)(n:0<=p/\p<k.G.Q.J.length)(y:(nth k.G.Q.J p.toNat).l=0):zzA 341 false [.val (some 5) (af.enc .O k),.val none [I p]] (.tup [some 5,none]) (af.enc .own (dB k p).1++[B (dB k p).2]):=by
 have h:=bS c;have C:=(aI.1 c).2.2.2;have D:=(br.1 (aI.1 c).2.2.1).2.2;have d:=ir k h;rw[c,O0 w]at d;have g:=pf k h ⟨ω,ω⟩;have a:=yP k.G.U (aI.1 c).2.1 h.1.1;have j:aC k.G.Q p=nth k.G.Q.J p.toNat:=by unfold aC;exact CG n
 have o:=aO p 0 ((k.G.Q.J.length:Int) - 1);rw[O0 ω]at o;have q:=eU k p h.1.2;rw[j,y,Z0 (by decide)]at q;have r:=ar (xs:=k.G.Q.J) (i:=p.toNat) ω;unfold xt at a;unfold dB;cases e:refd k<;>rw[e]at g
 ·by_cases b:pP k<0
  ·rw[CG (.inr b)]
   rw[CG (show eP (λu=>!u) k.G.U.c<0 from b)]at a;simp only at a;refine fO 64 [] Tryz.func341 rfl ?_ (.inr (aJ (CY _) ⟨trivial,trivial⟩))
   refine ZP ?_
   rfl
  rw[CD (by simp[b])];rw[CD (show ¬eP (λu=>!u) k.G.U.c<0 from b)]at a;simp only at a;obtain⟨f,t⟩:=v4 (show 0<=pP k by omega);have l:eP (λu=>!u) k.G.U.c=(f:Nat):=t;rw[l]at a;rw[t];simp only[t4]at a |-;rw[BY]at a;rw[yA];refine fO 64 [] Tryz.func341 rfl ?_ (.inr (aJ (by rw[<-yA];exact CY _) ⟨trivial,trivial⟩))
  repeat'(first|refine gP ?_|refine CM n.1 (aa r) ?_|refine CN rfl rfl (aa r) rfl (C2 rfl) rfl ?_)
  rfl
 rw[CG (.inl rfl)];by_cases b:pP k<0
 ·rw[CG (show eP (λu=>!u) k.G.U.c<0 from b)]at a
  simp only at a;refine fO 64 [] Tryz.func341 rfl ?_ (.inr (aJ (CY _) ⟨trivial,trivial⟩))
  refine ZP ?_
  rfl
 rw[CD (show ¬eP (λu=>!u) k.G.U.c<0 from b)]at a;simp only at a;refine fO 64 [] Tryz.func341 rfl ?_ (.inr (aJ (CY _) ⟨trivial,trivial⟩))
 refine ZP ?_
 rfl
def Wp(xs:List ay)(n:Int):List C:=(if(aA xs n).2.2=true then [oE ((aA xs n).1.map (ay.enc .own))] else aU .own xs)++[I (aA xs n).2.1,B (aA xs n).2.2]
def Vv(xs:List ay)(n:Int):gk (Wp xs n):=by
 unfold Wp;split
 ·exact aJ ⟨A7 (hC _).1.2,trivial⟩ ⟨trivial,trivial,trivial⟩
 exact aJ (hC _) ⟨trivial,trivial,trivial⟩
def Dn(xs:List ay)(b:Nat)(y:ay):(xs.set b y).map (ay.enc .own)=(xs.map (ay.enc .own)).set b [I y.At,I y.o]:=by rw[S8];rfl
def AB(pages:Int)(xs:List ay)(n:Int)(K:0<=pages/\pages<=1048576)(u:bI pages xs=true)(R:1<=n/\n<=1000)(S:xs.length<=4096):zzA 340 false [.val none [I pages],.val none (aU .O xs),.val none [I n]] (.tup [none,none,none]) (Wp xs n):=by
 have p:dD xs:=⟨ω,λ_ _=>trivial⟩
 have w:=nI pages xs K p;rw[u]at w;have L:=kR xs p;have B:=(tO u).2;refine fP 91 [(458,[1,0,0])] [(8,15,[32,33,34,35,36,37,38,39,40,41,42,43,44,45,46])] Tryz.func340 rfl ?_ (.inr (Vv xs n))
 refine ZE ?_
 refine CH (ι:=Nat) (λi=>[(1,.F .one (aU .O xs)),(2,.F .one [I (n)]),(9,.F .one (aU .own xs)),(10,.F .one [I (fV xs n i)]),(25,.F .one (aU .O xs)),(26,.F .one [I (xs.length)]),(27,.F .one [I ((i:Nat):Int)])]) (λi=>i<=xs.length) (λi=>xs.length - i) (0) ?_ (C1 _) λi M=>?_
 ·exact wC
 have l:=un xs n i M;by_cases E:i<xs.length
 ·have k:=ar E
  have N:=B _ (aE E);have d:fV xs n (i+1)=if n<=(nth xs i).o/\(fV xs n i<0\/(nth xs i).o<(nth xs (fV xs n i).toNat).o) then((i:Nat):Int) else fV xs n i:=rfl
  by_cases F:n<=(nth xs i).o
  ·by_cases O:fV xs n i<0
   ·rw[CG ⟨F,.inl O⟩]at d
    repeat'(first|refine gE ?_|with_reducible refine Bf.D (λh=>?_) (λh=>?_))
    (refine CF (i+1) ω ω ?_)
    rw[d];exact wC
   have a:=ar (xs:=xs) (i:=(fV xs n i).toNat) ω;by_cases P:(nth xs i).o<(nth xs (fV xs n i).toNat).o
   ·rw[CG ⟨F,.inr P⟩]at d
    repeat'(first|refine gE ?_|with_reducible (first|refine CM ω (aa a) ?_|refine Bf.D (λh=>?_) (λh=>?_)))
    (refine CF (i+1) ω ω ?_)
    rw[d];exact wC
   rw[CD ω]at d
   repeat'(first|refine gE ?_|with_reducible (first|refine CM ω (aa a) ?_|refine Bf.D (λh=>?_) (λh=>?_)))
   (refine CF (i+1) ω ω ?_)
   rw[d];exact wC
  rw[CD ω]at d
  repeat'(first|refine gE ?_|with_reducible refine Bf.D (λh=>?_) (λh=>?_))
  (refine CF (i+1) ω ω ?_)
  rw[d];exact wC
 obtain rfl:i=xs.length:=ω
 change fB xs n = -1\/_ at l;unfold Wp aA;rw[show fV xs n xs.length=fB xs n from rfl];by_cases e:fB xs n<0
 ·rw[CG e]
  rw[show fB xs n = -1 from l.resolve_right λg=>by have T:0<=fB xs n:=g.1;omega]
  repeat'(first|refine gE ?_|with_reducible refine Bf.D (λh=>?_) (λh=>?_))
  rfl
 rw[CD e];obtain⟨Q,G,U⟩:=l.resolve_left ω;change 0<=fB xs n at Q;change fB xs n<xs.length at G;obtain⟨b,r⟩:=v4 (show 0<=fB xs n by omega);rw[r]at G |-;simp only[t4];have a:=ar (xs:=xs) (i:=b) ω;have N:=B _ (aE (xs:=xs) (i:=b) ω);have c:((xs.map (ay.enc .own)).set b [I ((nth xs b).At+n),I (nth xs b).o])[b]? = some [I ((nth xs b).At+n),I (nth xs b).o]:=jr ω;have j:((xs.set b ⟨(nth xs b).At+n,(nth xs b).o - n⟩).map (ay.enc .own))[b]? = some [I ((nth xs b).At+n),I ((nth xs b).o - n)]:=by rw[Dn];exact jr ω
 have o:∀t:List C,t.set 0 (.s .own (((xs.map (ay.enc .own)).set b [I ((nth xs b).At+n),I (nth xs b).o]).set b [I ((nth xs b).At+n),I ((nth xs b).o - n)]))=t.set 0 (.s .own ((xs.set b ⟨(nth xs b).At+n,(nth xs b).o - n⟩).map (ay.enc .own))):=λt=>by rw[Dn,List.set_set]
 have q:=Fp (xs.set b ⟨(nth xs b).At+n,(nth xs b).o - n⟩) b (by rw[O2];omega);rw[PU]at q;by_cases H:(nth xs b).o=n
 ·rw[CG H]
  generalize dele xs b=J at q |-;cases J with
  | nil=>
   repeat'(first|refine gB ?_|with_reducible refine Bf.D (λh=>?_) (λh=>?_)|refine CB c ?_|refine CB j ?_|refine CK rfl c rfl ?_|refine CK rfl j rfl ?_|refine CN rfl rfl (aa a) rfl (C2 rfl) rfl ?_|refine CN rfl rfl c rfl (C2 rfl) (o _).symm ?_)
   rfl
  | cons y J=>
   repeat'(first|refine gB ?_|with_reducible refine Bf.D (λh=>?_) (λh=>?_)|refine CB c ?_|refine CB j ?_|refine CK rfl c rfl ?_|refine CK rfl j rfl ?_|refine CN rfl rfl (aa a) rfl (C2 rfl) rfl ?_|refine CN rfl rfl c rfl (C2 rfl) (o _).symm ?_)
   rfl
 rw[CD H]
 repeat'(first|refine gB ?_|with_reducible refine Bf.D (λh=>?_) (λh=>?_)|refine CB c ?_|refine CB j ?_|refine CK rfl c rfl ?_|refine CK rfl j rfl ?_|refine CN rfl rfl (aa a) rfl (C2 rfl) rfl ?_|refine CN rfl rfl c rfl (C2 rfl) (o _).symm ?_)
 rw[CG rfl,Ql (by rw[Ne,List.map_eq_nil_iff,<-List.length_eq_zero_iff,O2];omega)]
 rfl
variable{P:Program}
def eK(w:World)(dT sT ty elem:TypeId)(k b o dLen dCap:Nat)(a:Addr)(sLen sCap n:Nat)(cs:List Value)(h:P.underlying dT=some (.slice elem))(g:(P.info? elem).map (·.size)=some k)(l:Nat.min sLen dLen=n)(p:cs.length=n*k)(c:∀j v,cs[j]? = some v->w.cell? (a.add j)=some v)(q:∀j,j<cs.length->(w.cell? ⟨b,o+j,none⟩).isSome=true)(r:∀j,j<cs.length->w.frozen? ⟨b,o+j,none⟩ = false)(t:∀v∈cs,v.oneCell'=true) :
  (Builtin.copy_ #[dT,sT] ty #[.slice (some ⟨b,o,none⟩) dLen dCap,.slice (some a) sLen sCap]).run P w=.ok (goInt n) (w.setCells b o cs):=by
 have d:=run_loadCells_list (P:=P) w a cs c;have e:=run_storeCells_cells (P:=P) b o cs 0 w (by simpa using q) (by simpa using r) t;rw[p]at d;cases f:P.info? elem with
 | none=>simp[f]at g
 | some i=>
  have u:i.size=k:=by simpa[f] using g
  simp[Builtin.copy_,run_underlying h,Builtin.lenOf,Builtin.firstCells,sizeOf,typeInfo,f,u,l,d,e]
variable{Q:Exit->Act->World->Prop}{ops:Array Oper}
def ew(w:World){rest:List Oper}{o:Oper}{a:Act}(b:o.guard=none)(d s:Operand)(t c:TypeId)(g:o.op=.call {callee:=.builtin .copy,args:=#[d,s],argTypes:=#[t,c]})(v u:Value)(i:a.eval d=v)(j:a.eval s=u){e:Value}{f:World}(k:(Builtin.copy_ #[t,c] o.type #[v,u]).run P w=.ok e f)(h:wpList P ops Q rest (a.put o.dst e) f):wpList P ops Q (o::rest) a w:=by
 refine wpList_plain b λ_ l=>?_
 unfold Oper.wp execOp;simp only[g,resolve,invoke,builtin,Sem.run_bind,Sem.run_pure,Result.andThen_ok,List.map_toArray,I8,List.map_nil,i,j,k];exact l _ _ h
variable{w:World}
def jf{o:Oper}{a:Act}{K:Act->World->Prop}{E:Prop}(f:o.guard=none)(d x:Operand)(dT sT:TypeId)(b:o.op=Op.call {callee:=Callee.builtin Builtin.copy,args:=#[d,x],argTypes:=#[dT,sT]})(v u:Value)(g:a.eval d=v)(h:a.eval x=u){c:Value}{e:World}(i:(Builtin.copy_ #[dT,sT] o.type #[v,u]).run P w=.ok c e)(j:K (a.put o.dst c) e) :
  if Region.wanted o (yielded ops a.tmps)=true then Oper.wp P o a w K Q else E:=by
 have k:Region.wanted o (yielded ops a.tmps)=true:=by simp[Region.wanted,f]
 rw[CG k];unfold Oper.wp;simp[execOp,b,resolve,invoke,builtin,g,h,i,Result.andThen];exact j
def xP(b:Nat):∀(vs:List Value)(o:Nat)(w:World),(w.setCells b o vs).drew=w.drew.setCells b o vs
 | [],_,_=>rfl
 | v::r,o,w=>by rw[World.setCells,World.setCells,xP b r];rfl
def lT(b:Nat)(vs:List Value)(o:Nat)(w:World)(h:∀j,j<vs.length->(w.cell? ⟨b,o+j,none⟩).isSome=true)(q:Nat)(a:(w.cell? ⟨b,q,none⟩).isSome=true):((w.setCells b o vs).cell? ⟨b,q,none⟩).isSome=true:=by
 by_cases c:o<=q/\q<o+vs.length
 ·have:=World.cell?_setCells_in b vs o w h (q - o) ω
  rw[show o+(q - o)=q by omega]at this;rw[this];rfl
 rw[World.cell?_setCells_out b vs o w ⟨b,q,none⟩ (λ_ _=>by show q<o\/o+vs.length<=q;omega)];exact a
variable{g:Nat}
def H7{z:Value}(a:cel w g 0=some z)(d:fro w g 0=NF):∃t k,w.shape? g=some (t,k)/\k≠0/\w.frozen? ⟨g,0,none⟩ = false/\w.frozen? ⟨g,k,none⟩ = false:=by
 have f:=I1 Prod.fst d;have b:=I1 Prod.snd d;simp only[fro]at f b;unfold mp at b;unfold cel World.cell? at a;unfold World.shape?;simp only at a;cases e:w.heap[g]? with
 | none=>rw[e]at a;cases a
 | some x=>
  rw[e]at a b;cases x with
  | cells c t i=>
   obtain⟨j,l⟩:=i;simp only[Option.isSome_none,Bool.false_eq_true,if_false]at a;have o:0<c.size:=by
    rcases Nat.eq_zero_or_pos c.size with h|h
    ·rw[Array.getElem?_eq_none ω]at a;cases a
    exact h
   refine⟨t,c.size,rfl,ω,f,?_⟩;unfold World.frozen?;simp only[e];simp only at b;split at b
   ·cases b
   rename_i n;have:¬(j<=c.size/\c.size<l):=n;simp only[Bool.and_eq_false_imp,C0,O6];omega
  | _=>cases a
variable{e k:Nat}
def rk{tS tR a b:Nat}{z h:Value}(i:P.underlying tS=some (.slice e))(j:∀w,(Go.sizeOf e).run P w=.ok k w)(c:a≠b)(l:cel w a 0=some z)(n:fro w a 0=NF)(o:cel w b 0=some h)(p:fro w b 0=NF)(x la d f g:Nat) :
  (Extern.SlicesOverlaps.overlaps #[tS,tS] #[tR] #[.slice (some ⟨a,0,none⟩) la d,.slice (some ⟨b,x,none⟩) f g]).run P w=.ok (.bool false) w:=by
 obtain⟨tA,kA,q,A,r,t⟩:=H7 l n;obtain⟨tB,kB,u,y,-,-⟩:=H7 o p;exact Lib.run_overlaps_apart w tS tR e i k j ⟨a,0,none⟩ ⟨b,x,none⟩ la d f g c tA tB kA kB q u y r t
structure yw(w w':World)(g G k n c c' i:Nat)(olds vs:List Value):Prop where
 keep:bC (λb o=>b=g/\o<c*k) w w'
 cel:∀q u,(olds.take (i*k)++vs++olds.drop (i*k))[q]? = some u->cel w' G q=some u
 all:∀q,q<c'*k->(∃z,Ab.cel w' G q=some z/\z.oneCell'=true)/\fro w' G q=NF
 at_:(G=g/\c'=c)\/(w.heap.size<=G/\G<w'.heap.size)
variable{n:Nat}{olds vs:List Value}
def Gw{q:Nat}{u:Value}(j:i<n)(d:olds.length=n*k)(b:vs.length=k)(h:(olds.take (i*k)++vs++olds.drop (i*k))[q]? = some u) :
  q<(n+1)*k/\((q<i*k/\olds[q]? = some u)\/(i*k<=q/\q<i*k+k/\vs[q - i*k]? = some u)\/(i*k+k<=q/\(olds.drop (i*k))[q - (i*k+k)]? = some u)):=by
 have e:i*k<=n*k:=O9 k ω;have l:(n+1)*k=n*k+k:=by rw[Nat.add_mul,Nat.one_mul]
 have a:(olds.take (i*k)).length=i*k:=by rw[Z2];omega
 have f:=(Y3.1 h).1;simp only[X4,a,b,Y4,d]at f;refine⟨ω,?_⟩;by_cases c:q<i*k
 ·rw[Y7,C6 ω,List.getElem?_take,CG c]at h
  exact .inl ⟨c,h⟩
 by_cases g:q<i*k+k
 ·rw[C6 (by rw[X4];omega),I6 ω,a]at h
  exact .inr (.inl ⟨ω,g,h⟩)
 rw[I6 (by rw[X4];omega),X4,a,b]at h;exact .inr (.inr ⟨ω,h⟩)
def qh{c:Nat}(B:i<n)(C:n+1<=c)(y:olds.length=n*k)(D:vs.length=k)(E:∀t u,olds[t]? = some u->cel w g t=some u)(F:∀u∈olds,u.oneCell'=true)(G:∀u∈vs,u.oneCell'=true)(a:∀q,q<c*k->(∃z,cel w g q=some z/\z.oneCell'=true)/\fro w g q=NF) :
  yw w ((w.drew.setCells g ((i+1)*k) (olds.drop (i*k))).setCells g (i*k) vs) g g k n c c i olds vs:=by
 have H:i*k<=n*k:=O9 k ω;have J:(n+1)*k<=c*k:=O9 k C;have O:(n+1)*k=n*k+k:=by rw[Nat.add_mul,Nat.one_mul]
 have P:(i+1)*k=i*k+k:=by rw[Nat.add_mul,Nat.one_mul]
 have K:(olds.drop (i*k)).length=n*k - i*k:=by rw[Y4,y]
 have Q:∀b q,cel w.drew b q=cel w b q:=λ_ _=>rfl
 have in1:∀j,j<(olds.drop (i*k)).length->∃z,cel w.drew g ((i+1)*k+j)=some z:=λj p=>by
  obtain⟨⟨z,r,-⟩,-⟩:=a ((i+1)*k+j) ω;exact⟨z,r⟩
 have all1:∀q,q<c*k->∃z,cel (w.drew.setCells g ((i+1)*k) (olds.drop (i*k))) g q=some z/\z.oneCell'=true:=λq e=>by
  by_cases h:(i+1)*k<=q/\q<(i+1)*k+(olds.drop (i*k)).length
  ·obtain⟨u,f⟩ : ∃u,(olds.drop (i*k))[q - (i+1)*k]? = some u:=⟨_,X3 ω⟩
   have d:=bv in1 f;rw[show(i+1)*k+(q - (i+1)*k)=q by omega]at d;exact⟨u,d,F u (List.mem_of_mem_drop (I3 f))⟩
  rw[aY (λx=>h x.2)];exact(a q e).1
 have in2:∀j,j<vs.length->∃z,cel (w.drew.setCells g ((i+1)*k) (olds.drop (i*k))) g (i*k+j)=some z:=λj p=>by
  obtain⟨z,r,-⟩:=all1 (i*k+j) ω;exact⟨z,r⟩
 refine⟨?_,λq u e=>?_,λq e=>⟨?_,by rw[bR,bR];exact(a q e).2⟩,.inl ⟨rfl,rfl⟩⟩
 ·have L:=eG (g:=g) (X:=λb o=>b=g/\o<c*k) (olds.drop (i*k)) ((i+1)*k) w.drew λj p=>⟨rfl,ω⟩
  have M:=eG (g:=g) (X:=λb o=>b=g/\o<c*k) vs (i*k) (w.drew.setCells g ((i+1)*k) (olds.drop (i*k))) λj p=>⟨rfl,ω⟩
  exact((yG w).up λ_ _ h=>h.elim).trans (L.trans M λ_ _ h=>.inr h) λ_ _ h=>.inr h
 ·obtain⟨-,⟨A,l⟩|⟨A,l,N⟩|⟨A,l⟩⟩:=Gw B y D e
  ·rw[aY ω,aY ω];exact E q u l
  ·have d:=bv in2 N
   rwa [show i*k+(q - i*k)=q by omega]at d
  rw[aY ω];have d:=bv in1 l;rw[show(i+1)*k+(q - (i*k+k))=q by omega]at d;exact d
 by_cases h:i*k<=q/\q<i*k+vs.length
 ·obtain⟨u,f⟩ : ∃u,vs[q - i*k]? = some u:=⟨_,X3 ω⟩
  have d:=bv in2 f;rw[show i*k+(q - i*k)=q by omega]at d;exact⟨u,d,G u (I3 f)⟩
 rw[aY (λx=>h x.2)];exact all1 q e
def tl{a:World}{c G:Nat}{Z:Array Value}(y:a.heap=(w.alloc (.cells ((olds.take (i*k)).toArray++Builtin.zeroCells Z (n+1 - i)++Builtin.zeroCells Z (G - (n+1))) e)).heap)(Q:a.os=w.os)(R:a.tape=w.tape)(S:a.output=w.output)(hi:i<n)(hG:n+1<=G)(hZ:Z.size=k)(T:∀v∈Z.toList,v.oneCell'=true)(U:olds.length=n*k)(d:vs.length=k)(h1:∀u∈olds,u.oneCell'=true)(h2:∀u∈vs,u.oneCell'=true) :
  yw w ((a.setCells w.heap.size (i*k) vs).setCells w.heap.size ((i+1)*k) (olds.drop (i*k))) g w.heap.size k n c G i olds vs:=by
 have V:i*k<=n*k:=O9 k ω;have hGk:(n+1)*k<=G*k:=O9 k hG;have e1:(n+1)*k=n*k+k:=by rw[Nat.add_mul,Nat.one_mul]
 have e2:(i+1)*k=i*k+k:=by rw[Nat.add_mul,Nat.one_mul]
 have hdl:(olds.drop (i*k)).length=n*k - i*k:=by rw[Y4,U]
 generalize hcells:(olds.take (i*k)).toArray++Builtin.zeroCells Z (n+1 - i)++Builtin.zeroCells Z (G - (n+1))=cells at y;have C:∀b q,cel a b q=cel (w.alloc (.cells cells e)) b q:=λb q=>by unfold cel World.cell?;rw[y]
 have D:∀b q,fro a b q=fro (w.alloc (.cells cells e)) b q:=λb q=>by unfold fro World.frozen? mp;rw[y]
 have hsz:cells.size=G*k:=by
  rw[<-hcells];simp only[Array.size_append,List.size_toArray,Z2,size_zeroCells,hZ,U,Nat.min_eq_left V];rw[<-Nat.add_mul,<-Nat.add_mul]
  congr 1;omega
 have E:∀v∈cells.toList,v.oneCell'=true:=by
  have F:∀m,∀v∈(Builtin.zeroCells Z m).toList,v.oneCell'=true:=λm v d=>by
   rw[Array.mem_toList_iff]at d;simp only[Builtin.zeroCells,Array.mem_map,Array.mem_range]at d;obtain⟨j,A,rfl⟩:=d;have B:0<Z.size:=by rcases Nat.eq_zero_or_pos Z.size with h|h;rw[h]at A;simp at A;exact h
   have H:j % Z.size<Z.size:=Nat.mod_lt _ B;rw[getElem!_pos Z (j % Z.size) H];exact T _ (Array.mem_toList_iff.2 (Array.getElem_mem H))
  intro v d;rw[<-hcells]at d;simp only[Array.toList_append,C4]at d;rcases d with(d|d)|d
  ·exact h1 v (List.mem_of_mem_take d)
  ·exact F _ v d
  exact F _ v d
 have l:∀q,cel a w.heap.size q=cells[q]?:=λq=>(C _ _).trans (iC w cells e q)
 have J:∀q,q<G*k->∃z,cel a w.heap.size q=some z/\z.oneCell'=true:=λq p=>by
  have K:q<cells.size:=ω
  exact⟨cells[q],by rw[l,Y8 K],E _ (Array.mem_toList_iff.2 (Array.getElem_mem K))⟩
 have r:∀q u,q<i*k->olds[q]? = some u->cells[q]? = some u:=λq u p t=>by
  rw[<-hcells,Array.append_assoc,Array.getElem?_append_left (by simp;omega)];simp[p,t]
 have L:∀q,fro a w.heap.size q=NF:=λq=>(D _ _).trans (iJ w cells e q)
 have hK:bC NO w a:=by
  have B:bC NO w (w.alloc (.cells cells e)):=cD w _;exact⟨Q,R,S,by rw[y];exact B.size,λb M N=>by rw[y];exact B.blk b M N,λb o M N=>(C b o).trans (B.cel b o M N),λb o M N=>(D b o).trans (B.fro b o M N)⟩
 have hS:a.heap.size=w.heap.size+1:=by rw[y];exact jR w _
 have k1:=eG (g:=w.heap.size) (X:=λb o=>b=w.heap.size) vs (i*k) a λj A=>rfl
 have k2:=eG (g:=w.heap.size) (X:=λb o=>b=w.heap.size) (olds.drop (i*k)) ((i+1)*k) (a.setCells w.heap.size (i*k) vs) λj A=>rfl
 have in1:∀j,j<vs.length->∃z,cel a w.heap.size (i*k+j)=some z:=λj A=>by
  obtain⟨z,W,-⟩:=J (i*k+j) ω;exact⟨z,W⟩
 have all1:∀q,q<G*k->∃z,cel (a.setCells w.heap.size (i*k) vs) w.heap.size q=some z/\z.oneCell'=true:=λq p=>by
  by_cases h:i*k<=q/\q<i*k+vs.length
  ·obtain⟨u,t⟩ : ∃u,vs[q - i*k]? = some u:=⟨_,X3 ω⟩
   have f:=bv in1 t;rw[show i*k+(q - i*k)=q by omega]at f;exact⟨u,f,h2 u (I3 t)⟩
  rw[aY (λx=>h x.2)];exact J q p
 have in2:∀j,j<(olds.drop (i*k)).length->∃z,cel (a.setCells w.heap.size (i*k) vs) w.heap.size ((i+1)*k+j)=some z:=λj A=>by
  obtain⟨z,W,-⟩:=all1 ((i+1)*k+j) ω;exact⟨z,W⟩
 have O:w.heap.size<((a.setCells w.heap.size (i*k) vs).setCells w.heap.size ((i+1)*k) (olds.drop (i*k))).heap.size:=by
  have:=k1.size;have:=k2.size;omega
 refine⟨?_,λq u p=>?_,λq p=>⟨?_,by rw[bR,bR];exact L q⟩,.inr ⟨I4 _,O⟩⟩
 ·exact(hK.up λ_ _ h=>h.elim).trans (k1.trans k2 λ_ _ h=>.inr h) λ_ _ h=>.inl (by rw[h];exact I4 _)
 ·obtain⟨-,⟨Y,P⟩|⟨Y,P,a3⟩|⟨Y,P⟩⟩:=Gw hi U d p
  ·rw[aY ω,aY ω,l];exact r q u Y P
  ·rw[aY ω]
   have f:=bv in1 a3
   rwa [show i*k+(q - i*k)=q by omega]at f
  have f:=bv in2 P;rw[show(i+1)*k+(q - (i*k+k))=q by omega]at f;exact f
 by_cases h:(i+1)*k<=q/\q<(i+1)*k+(olds.drop (i*k)).length
 ·obtain⟨u,t⟩ : ∃u,(olds.drop (i*k))[q - (i+1)*k]? = some u:=⟨_,X3 ω⟩
  have f:=bv in2 t;rw[show(i+1)*k+(q - (i+1)*k)=q by omega]at f;exact⟨u,f,h1 u (List.mem_of_mem_drop (I3 t))⟩
 rw[aY (λx=>h x.2)];exact all1 q p
structure E3(P:Program)(f k T b:Nat):Prop where
 has:Mj P f
 end_:∀(w w1:World)(base:Option Addr)(n c vb m vc:Nat)(r:Value),m=1->n<=c->n<=1073741824->(base=none->n=0/\c=0)->(Builtin.append_ #[T,T] T #[.slice base n c,.slice (some ⟨vb,0,none⟩) m vc]).run P w=.ok r w1->
  Calls P f #[.slice base n c,.int .i64 n,.slice (some ⟨vb,0,none⟩) m vc] w λe w'=>e=.returned r/\w'=w1
 mid:∀(w:World)(g n c i vb m vc:Nat)(olds vs:List Value),m=1->i<n->n<=c->n<=1073741824->b<=1000->olds.length=n*k->vs.length=k->(∀t u,olds[t]? = some u->cel w g t=some u)->(∀t u,vs[t]? = some u->cel w vb t=some u)->
  (∀u∈olds,u.oneCell'=true)->(∀u∈vs,u.oneCell'=true)->(∀q,q<c*k->(∃z,cel w g q=some z/\z.oneCell'=true)/\fro w g q=NF)->fro w vb 0=NF->vb≠g->
  Calls P f #[.slice (some ⟨g,0,none⟩) n c,.int .i64 i,.slice (some ⟨vb,0,none⟩) m vc] w λe w'=>∃G c',e=.returned (.slice (some ⟨G,0,none⟩) (n+1) c')/\n+1<=c'/\yw w w' g G k n c c' i olds vs
def inse(xs:List α)(i:Nat)(y:α):List α:=xs.take i++y::xs.drop i
def Hx(xs:List α)(i:Nat)(y:α):(inse xs i y).length=xs.length+1:=by
 unfold inse;rw[X4,List.length_cons,Z2,Y4];omega
def yr{xs:List α}{y z:α}(h:z∈inse xs i y):z=y\/z∈xs:=by
 unfold inse at h;rcases C4.1 h with h|h
 ·exact .inr (List.mem_of_mem_take h)
 rcases List.mem_cons.1 h with h|h
 ·exact .inl h
 exact .inr (List.mem_of_mem_drop h)
def zl{β:Type}(e:α->β)(xs:List α)(i:Nat)(y:α):inse (xs.map e) i (e y)=(inse xs i y).map e:=by
 unfold inse;simp only[Z7,I8,O5,X5]
variable{row:List C}{rows:List (List C)}
def Qo{a b:Nat}{r:List C}{c:C}(j:i<=rows.length)(B:olds.length=rows.length*k)(o:vs.length=k)(p:b<k)(l:∀(a b:Nat)(r:List C)(c:C),rows[a]? = some r->r[b]? = some c->∃z,c=C.v z/\olds[a*k+b]? = some z)(q:∀(b:Nat)(c:C),row[b]? = some c->∃z,c=C.v z/\vs[b]? = some z)(d:(inse rows i row)[a]? = some r)(f:r[b]? = some c):∃z,c=.v z/\(olds.take (i*k)++vs++olds.drop (i*k))[a*k+b]? = some z:=by
 have t:i*k<=rows.length*k:=O9 k j;have n:(olds.take (i*k)).length=i*k:=by rw[Z2];omega
 unfold inse at d;by_cases h:a<i
 ·rw[C6 (by rw[Z2];omega),List.getElem?_take,CG h]at d
  obtain⟨z,rfl,e⟩:=l a b r c d f;have g:a*k+b<i*k:=eR h p;exact⟨z,rfl,by rw[Y7,C6 ω,List.getElem?_take,CG g];exact e⟩
 rw[I6 (by rw[Z2];omega),Z2,Nat.min_eq_left j]at d;have u:i*k<=a*k:=O9 k ω;by_cases w:a=i
 ·subst w
  simp only[Nat.sub_self,List.getElem?_cons_zero,O1]at d;subst d;obtain⟨z,rfl,e⟩:=q b c f;exact⟨z,rfl,by rw[C6 (by rw[X4];omega),I6 ω,n,show a*k+b - a*k=b by omega];exact e⟩
 obtain⟨m,rfl⟩ : ∃m,a=i+(m+1):=⟨a - i - 1,ω⟩
 rw[show i+(m+1) - i=m+1 by omega,List.getElem?_cons_succ,List.getElem?_drop]at d;obtain⟨z,rfl,e⟩:=l (i+m) b r c d f;have y:(i+(m+1))*k=i*k+k+m*k:=by rw[<-Nat.add_assoc,Nat.add_mul,Nat.add_mul,Nat.one_mul];omega
 have A:(i+m)*k=i*k+m*k:=Nat.add_mul ..;refine⟨z,rfl,?_⟩;rw[I6 (by rw[X4];omega),X4,n,o,List.getElem?_drop,y,show i*k+(i*k+k+m*k+b - (i*k+k))=i*k+m*k+b by omega,<-A];exact e
def VS(h:UK rows):JD rows:=by
 have b:∀r:List C,(∀c∈r,∃z,c=C.v z)->gk r:=by
  intro r
  induction r with
  | nil=>exact λ_=>trivial
  | cons c r a=>intro h;obtain⟨z,rfl⟩:=h c (by simp);exact⟨trivial,a λc d=>h c (by simp[d])⟩
 induction rows with
 | nil=>exact trivial
 | cons r f a=>exact⟨b r (h r (by simp)),a λr e=>h r (by simp[e])⟩
def KH{f T:Nat}{d:TypeInfo}{z0:Value}(ht:P.underlying T=some (.slice e))(hi0:P.info? e=some d)(hk0:d.size=k)(hz:d.zero=some z0)(hzs:z0.cells.size=d.size)(hz1:∀x∈z0.cells.toList,x.oneCell'=true)(hby:d.bytes<=1000)(hf:E3 P f k T d.bytes)(hi:i<=rows.length)(hk:∀r∈rows,r.length=k)(hr:row.length=k)(hpk:0<k)(hsc:UK rows)(hsr:UK [row])(hlen:rows.length+1<=1073741824) :
  aR P f false [.mut none [.s .own rows],.val none [I (i:Nat)],.mut none [.s .own [row]]] [.mut none [.x],.val none [I (i:Nat)],.mut none [.x]] .one [.s .own (inse rows i row)]:=by
 subst hk0;refine⟨hf.has,λw S V vs hS hV hVV R=>?_⟩
 match vs,R with
 | [v,v1,v2],⟨R,hA1,hA2,_⟩=>
  have E:=bw.rep1 (show bw w S (V 0) none [C.s .own rows] v from R);have e1:v1=.int .i64 (i:Nat):=by
   have:=bw.rep1 (show bw w S NO none [C.v (.int .i64 (i:Nat))] v1 from hA1);cases this;rfl
  have N:=bw.rep1 (show bw w S (V 2) none [C.s .own [row]] v2 from hA2);subst e1;have hk2:∀r∈[row],r.length=d.size:=λr H=>by simp only[I2]at H;subst H;exact hr
  have hsc':UK (inse rows i row):=λr H=>(yr H).elim (λh=>hsr r (by simp[h])) (hsc r)
  have O:∀(w1:World)(vv:Value)(X:ah),bC (λb o=>∃i,V i b o) w w1->(∀b o,X b o->V 0 b o\/V 2 b o\/(w.heap.size<=b/\b<w1.heap.size))->ef w1 S X (.s .own (inse rows i row)) vv->
    ∃v',Ending.returned vv=Ending.returned v'/\bC (λb o=>∃i,V i b o) w w1/\∃(X:ah)(V':Nat->ah)(S1:ah),
   (∀b o,X b o->(∃i,V i b o)\/(b<w1.heap.size/\w.heap.size<=b))/\(∀i b o,V' i b o->(∃i,V i b o)\/(b<w1.heap.size/\w.heap.size<=b))/\
   (∀b o,S1 b o->(false=true/\S b o)\/(∃i,V i b o)\/(b<w1.heap.size/\w.heap.size<=b))/\
   (∀i i',i≠i'->∀b o,V' i b o->¬V' i' b o)/\(∀i b o,X b o->¬V' i b o)/\(∀b o,X b o->¬S1 b o)/\(∀i b o,V' i b o->¬S1 b o)/\
   fL w1 NO .one 1 v'/\cy w1 S1 X [.s .own (inse rows i row)] (bZ w1 .one v')/\BM w1 (λb o=>S b o\/S1 b o) V' [.mut none [.x],.val none [I (i:Nat)],.mut none [.x]] [v,.int .i64 (i:Nat),v2]:=by
   intro w1 vv X D hX hR;have hfr:P2 (.s .own (inse rows i row)):=by simp only[P2];exact⟨.inl (by simp),VS hsc'⟩
   exact⟨_,rfl,D,X,λ_=>NO,NO,λb o h=>by
       rcases hX b o h with h|h|h
       · exact .inl ⟨0,h⟩
       · exact .inl ⟨2,h⟩
       · exact .inr ⟨h.2,h.1⟩,λ_ _ _ h=>h.elim,λ_ _ h=>h.elim,λ_ _ _ _ _ h=>h.elim,λ_ _ _ _ h=>h.elim,λ_ _ _ h=>h.elim,λ_ _ _ h=>h.elim,rfl,row1 (hR.fresh hfr),
       ⟨⟨rfl,λ_=>v,rfl,row1 (.x _ _ E.one)⟩,trivial,⟨rfl,λ_=>v2,rfl,row1 (.x _ _ N.one)⟩,trivial⟩⟩
  rcases N.els (by simp) hk2 with⟨h,-⟩|⟨vb,vc,u2,f2,rfl,-,hvc,hcell2,hu2,J⟩
  ·cases h
  simp only[List.length_singleton,Nat.one_mul]at hvc hu2;by_cases Y:i=rows.length
  ·have hreads:pO w (some ⟨vb,0,none⟩) ([row].length*d.size) ((List.range ([row].length*d.size)).map u2):=by
    refine⟨by simp,λh=>(by cases h),λad j u had l=>?_⟩;cases had;rw[Addr.add_lit,z9];rw[O4]at l;cases L:(List.range ([row].length*d.size))[j]? with
    | none=>rw[L]at l;cases l
    | some j'=>
     obtain⟨U,a2⟩:=Y3.1 L;simp only[List.length_singleton,Nat.one_mul,List.length_range,List.getElem_range]at U a2;subst a2;rw[L]at l;simp only[I7,O1]at l;subst l;exact hu2 j U
   obtain⟨v',w1,hrun,hk1,hR⟩:=t6 (P:=P) (ty:=T) ht hi0 hz hzs hz1 E hk (V:=V 2) (xr:=[row]) (u2:=u2) (f2:=f2) ⟨J.hk,λq L b o h=>(J.hf q L b o h).1,J.hd,J.hc⟩ (b:=some ⟨vb,0,none⟩) (c:=vc)
    hreads
    (λb o h h'=>hVV 0 2 (by decide) b o h h') (λb o h=>(hV 0 b o h).2) (λb o h=>(hV 0 b o h).1) (λb o h=>(hV 2 b o h).1) hS (by simp;omega) (by
      have:(rows.length+[row].length)*d.bytes<=1073741824*1000:=Nat.mul_le_mul (by simpa using hlen) hby;omega)
   have hins:inse rows i row=rows++[row]:=by unfold inse;rw[Y,C7,List.drop_length]
   rw[<-hins]at hR;have hfin:∀(base:Option Addr)(c:Nat),v=.slice base rows.length c->rows.length<=c->(base=none->rows.length=0/\c=0)->Calls P f #[v,.int .i64 (i:Nat),.slice (some ⟨vb,0,none⟩) 1 vc] w λe W=>e=.returned v'/\W=w1:=λbase c hv hc hb=>by
    subst hv;rw[Y];exact hf.end_ w w1 base rows.length c vb 1 vc v' rfl hc ω hb hrun
   have hgo:Calls P f #[v,.int .i64 (i:Nat),.slice (some ⟨vb,0,none⟩) 1 vc] w λe W=>e=.returned v'/\W=w1:=by
    rcases E.els (by simp) hk with⟨h0,a0,hv⟩|⟨g,Z,u,f',hv,hpos,F,-⟩
    ·exact hfin a0 0 (by rw[hv,h0];rfl) (by rw[h0];exact I4 0) λ_=>⟨by rw[h0];rfl,rfl⟩
    exact hfin _ Z hv F λh=>by cases h
   refine hgo.mono λe W ⟨he,hw⟩=>?_
   subst he hw;exact O W v' _ (hk1.up λb o h=>⟨0,h⟩) (λb o h=>h) hR
  rcases E.els (by simp) hk with⟨h0,a0,hv⟩|⟨g,Z,u,f',rfl,hpos,F,p,hu,hE⟩
  ·rw[h0]at hi Y;simp at hi Y;omega
  have hlt:i<rows.length:=ω
  have A:∀(n j:Nat)(y:Value)(uu:Nat->Value),((List.range n).map uu)[j]? = some y->j<n/\y=uu j:=λn j y uu l=>by
   rw[O4]at l;cases hr:(List.range n)[j]? with
   | none=>rw[hr]at l;cases l
   | some j'=>
    obtain⟨h1,M⟩:=Y3.1 hr;simp at h1 M;subst M;rw[hr]at l;simp only[I7,O1]at l;exact⟨h1,l.symm⟩
  have Q:∀(n j:Nat)(uu:Nat->Value),j<n->((List.range n).map uu)[j]? = some (uu j):=λn j uu l=>by
   rw[O4,v9 l];rfl
  obtain⟨olds,B⟩ : ∃olds,olds=(List.range (rows.length*d.size)).map u:=⟨_,rfl⟩
  obtain⟨vs,hvs⟩ : ∃vs,vs=(List.range d.size).map u2:=⟨_,rfl⟩
  have hol:olds.length=rows.length*d.size:=by rw[B];simp
  have hvl:vs.length=d.size:=by rw[hvs];simp
  have hck:rows.length*d.size<=Z*d.size:=O9 _ F;have hv0:=hcell2 0 (Nat.mul_pos ω hpk);have hg0:=p 0 (Nat.mul_pos ω hpk);have hne:vb≠g:=λh=>by
   subst h;exact hVV 0 2 (by decide) vb 0 hg0.1 hv0.1
  refine(hf.mid w g rows.length Z i vb 1 vc olds vs rfl hlt F ω hby hol hvl (λt y K=>by
      rw[B]at K;obtain⟨U,rfl⟩:=A _ _ _ _ K;exact hu t U) (λt y K=>by
      rw[hvs]at K;obtain⟨U,rfl⟩:=A _ _ _ _ K;exact hu2 t U) (λy K=>by
      rw[B]at K;obtain⟨j,l⟩:=List.getElem?_of_mem K;obtain⟨U,rfl⟩:=A _ _ _ _ l;exact hE.one U) (λy K=>by
      rw[hvs]at K;obtain⟨j,l⟩:=List.getElem?_of_mem K;obtain⟨U,rfl⟩:=A _ _ _ _ l;exact J.one (by simpa using U)) (λq L=>(p q L).2) hv0.2.2 hne).mono λe W ⟨G,c',he,hc',R⟩=>?_
  subst he;have D:bC (λb o=>∃i,V i b o) w W:=R.keep.up λb o ⟨h1,M⟩=>⟨0,by rw[h1];exact(p o M).1⟩
  refine O W _ (λb o=>V 0 b o\/(w.heap.size<=b/\b<W.heap.size)) D (λb o h=>h.elim .inl (λh=>.inr (.inr h))) ?_;refine .own _ .own G d.size (rows.length+1) c' _ (λq=>(cel W G q).getD undef) (λ_=>NO) trivial (Hx ..) (λr H=>(yr H).elim (λh=>by rw[h];exact hr) (hk r)) hc' ω (λq L=>⟨?_,R.all q L⟩) (λq L=>?_) (λ_ _ _ _ h=>h.elim) (λ_ _ _ _ _ _ _ h=>h.elim) (λa b r c ha hb=>?_)
  ·rcases R.at_ with⟨rfl,rfl⟩|h
   ·exact .inl (p q L).1
   exact .inr h
  ·obtain⟨z,hz',-⟩:=(R.all q (v5 L (O9 _ hc'))).1
   rw[hz'];rfl
  have hbk:b<d.size:=by
   have:r.length=d.size:=(yr (I3 ha)).elim (λh=>by rw[h];exact hr) (hk r);rw[<-this];exact(Y3.1 hb).1
  have hal:=(Y3.1 ha).1;rw[Hx]at hal;obtain⟨y,rfl,K⟩:=Qo (olds:=olds) (vs:=vs) hi hol hvl hbk (λa b r c h1 M=>by
      obtain⟨y,rfl⟩:=hsc r (I3 h1) c (I3 M);have h3:=hE.hc a b r _ h1 M;have h4:=zT rfl hk h1 M;generalize hyy:u (a*d.size+b)=yy at h3;cases h3;exact⟨_,rfl,by rw[B,Q _ _ _ (eR h4.1 h4.2),hyy]⟩) (λb c M=>by
      obtain⟨y,rfl⟩:=hsr row (by simp) c (I3 M);have h3:=J.hc 0 b row _ rfl M;simp only[Nat.zero_mul,z9]at h3;have h4:=(Y3.1 M).1;generalize hyy:u2 b=yy at h3;cases h3;exact⟨_,rfl,by rw[hvs,Q _ _ _ ω,hyy]⟩) ha hb
  have hz':=R.cel _ y K;simp only[hz',Option.getD_some];obtain⟨z,h5,h6⟩:=(R.all (a*d.size+b) (v5 (eR hal hbk) (O9 _ hc'))).1;rw[hz']at h5;cases h5;exact .v _ _ h6
set_option maxRecDepth 100000
def zo:∃(b:TypeInfo)(c:Value),Tryz.prog.info? 74=some b/\b.size=4/\b.zero=some c/\c.cells.size=4/\(∀v∈c.cells.toList,v.oneCell'=true)/\b.bytes=32:=by
 have h:=(od 74 _ rfl).1;cases e : Tryz.prog.info? 74 with
 | none=>rw[e]at h;cases h
 | some x=>
  rw[e]at h;simp only[I7,O1,Prod.mk.injEq]at h;obtain⟨a,g,i⟩:=h;cases d:x.zero with
  | none=>rw[d]at a;cases a
  | some z=>
   rw[d]at a;simp only[I7,O1]at a;refine⟨x,z,rfl,g,d,?_,λv f=>?_,i⟩
   ·rw[<-Array.length_toList,a];rfl
   rw[a]at f;have j:(List.map cval [I 0,I 0,I 0,I 0]).all (λv=>v.oneCell')=true:=rfl;exact I5.1 j v f
def KU:∀w,(Go.sizeOf 74).run Tryz.prog w=.ok 4 w:=λ_=>by kernel_rfl
def Lc(w w1:World)(base:Option Addr)(n c d m g:Nat)(r:Value)(i:m=1)(j:n<=c)(h:n<=1073741824)(k:base=none->n=0/\c=0)(b:(Builtin.append_ #[39,39] 39 #[.slice base n c,.slice (some ⟨d,0,none⟩) m g]).run Tryz.prog w=.ok r w1) :
  Calls Tryz.prog 67 #[.slice base n c,.int .i64 n,.slice (some ⟨d,0,none⟩) m g] w λe l=>e=.returned r/\l=w1:=by
 have mixed : Tryz.prog.follows .mixedOrders=true:=by kernel_rfl
 have o:0<m:=ω
 have p:m<=1:=ω
 clear i;have q:¬((m:Int)=0):=ω
 go_enter Tryz.func67,Tryz.ntmps67
 cases base with
 | none=>
  obtain⟨rfl,rfl⟩:=k rfl
  go_wp2_with (at_builtin;refine Lib.wpList_append_run _ rfl _ _ _ _ rfl _ _ rfl rfl _ _ b ?_)
  go_ret
  exact⟨rfl,rfl⟩
 | some a=>
  obtain⟨u,y,asp⟩:=a
  go_wp2_with (at_builtin;refine Lib.wpList_append_run _ rfl _ _ _ _ rfl _ _ rfl rfl _ _ b ?_)
  all_goals(go_ret;exact⟨rfl,rfl⟩)
def EE(w:World)(g n c i p m C:Nat)(olds vs:List Value)(Z:m=1)(hi:i<n)(X:n<=1073741824)(M:n+m<=c)(N:olds.length=n*4)(D:vs.length=4)(ho:∀t u,olds[t]? = some u->cel w g t=some u)(L:∀t u,vs[t]? = some u->cel w p t=some u)(h1:∀u∈olds,u.oneCell'=true)(h2:∀u∈vs,u.oneCell'=true)(b:∀q,q<c*4->(∃z,cel w g q=some z/\z.oneCell'=true)/\fro w g q=NF)(O:fro w p 0=NF)(E:p≠g) :
  Calls Tryz.prog 67 #[.slice (some ⟨g,0,none⟩) n c,.int .i64 i,.slice (some ⟨p,0,none⟩) m C] w λe w'=>e=.returned (.slice (some ⟨g,0,none⟩) (n+m) c)/\w'=(w.drew.setCells g ((i+m)*4) (olds.drop (i*4))).setCells g (i*4) vs:=by
 have mixed : Tryz.prog.follows .mixedOrders=true:=by kernel_rfl
 have hm1:0<m:=ω
 have hm2:m<=1:=ω
 clear Z;have hz1:¬((m:Int)=0):=ω
 have hz2:¬((i:Int)=(n:Int)):=ω
 have hz3:¬((c:Int)<(n:Int)+(m:Int)):=ω
 have F:(Tryz.prog.info? 74).map (·.size)=some 4:=by obtain⟨i0,z0,e1,e2,-⟩:=zo;rw[e1];simp[e2]
 have cell:∀q,q<(n+m)*4->(w.cell? ⟨g,q,none⟩).isSome=true/\w.frozen? ⟨g,q,none⟩ = false:=λq Y=>by
  obtain⟨⟨z,hz,-⟩,hf⟩:=b q ω;exact⟨by show(cel w g q).isSome=true;rw[hz];rfl,I1 Prod.fst hf⟩
 have P:∀Q R,(callFunc 193 #[.slice (some ⟨p,0,none⟩) m C,.slice (some ⟨g,(i+m)*4,none⟩) Q R]).run Tryz.prog w=.ok (.value (.bool false)) w:=λQ R=>by
  obtain⟨y,hy⟩ : ∃y,vs[0]? = some y:=⟨_,X3 ω⟩
  obtain⟨⟨y',S,-⟩,T⟩:=b 0 ω;rw[run_callFunc_extern Tryz.func193 (by kernel_rfl) (by kernel_rfl) (by kernel_rfl) (e:=Extern.SlicesOverlaps.overlaps #[39,39] #[4]) (by kernel_rfl),
    rk (e:=74) (k:=4) Tryz.underlying39 KU E (L 0 y hy) O S T _ m C Q R]
  rfl
 have l:(olds.drop (i*4)).length=(n - i)*4:=by rw[Y4,N];omega
 have hw1:IntKind.i64.wrap ((i:Int)+(m:Int))=(i:Int)+(m:Int):=by rw[IntKind.wrap_i64];omega
 have hw2:IntKind.i64.wrap ((n:Int)+(m:Int))=(n:Int)+(m:Int):=by rw[IntKind.wrap_i64];omega
 have hb1:(0:Int)<=(i:Int)+(m:Int):=ω
 have hin:i<=n:=ω
 have htn:((i:Int)+(m:Int)).toNat=i+m:=ω
 have hb2:¬(c=i+m):=ω
 have hb3:(i:Int)<=(n:Int)+(m:Int):=ω
 have hb4:¬(c=i):=ω
 have o:∀r B U,(Builtin.copy_ #[39,39] r #[.slice (some ⟨g,(i+m)*4,none⟩) (n+m - (i+m)) B,.slice (some ⟨g,i*4,none⟩) (n+m - i) U]).run Tryz.prog w.drew=.ok (goInt ((n - i:Nat):Int)) (w.drew.setCells g ((i+m)*4) (olds.drop (i*4))):=λr B U=>
  eK w.drew _ _ r 74 4 g ((i+m)*4) (n+m - (i+m)) B ⟨g,i*4,none⟩ (n+m - i) U (n - i) (olds.drop (i*4)) Tryz.underlying39 F (by simp only[Nat.min_def];split<;>omega) l
   (λj v a=>by rw[Addr.add_lit];exact ho (i*4+j) v (by rwa [List.getElem?_drop]at a))
   (λj a=>by rw[l]at a;exact(cell _ ω).1) (λj a=>by rw[l]at a;exact(cell _ ω).2) (λv L=>h1 v (List.mem_of_mem_drop L))
 obtain⟨G,d⟩ : ∃G,G=w.drew.setCells g ((i+m)*4) (olds.drop (i*4)):=⟨_,rfl⟩
 have H:∀q,q<(n+m)*4->(G.cell? ⟨g,q,none⟩).isSome=true:=λq Y=>by
  rw[d];exact lT g _ _ _ (λj a=>by rw[l]at a;exact(cell _ ω).1) _ (cell q Y).1
 have J:∀(W:World),(∀x,W.cell? x=G.cell? x)->(∀x,W.frozen? x=G.frozen? x)->∀r B,(Builtin.copy_ #[39,39] r #[.slice (some ⟨g,i*4,none⟩) (n+m - i) B,.slice (some ⟨p,0,none⟩) m C]).run Tryz.prog W=.ok (goInt ((1:Nat):Int)) (W.setCells g (i*4) vs):=λW K V r B=>
  eK W _ _ r 74 4 g (i*4) (n+m - i) B ⟨p,0,none⟩ m C 1 vs Tryz.underlying39 F (by simp only[Nat.min_def];split<;>omega) ω
   (λj v a=>by
     rw[Addr.add_lit,z9,K,d,World.cell?_setCells_out g _ _ _ _ (λh _=>absurd h E)];exact L j v a)
   (λj a=>by rw[K];rw[D]at a;exact H _ ω) (λj a=>by rw[V,d,World.frozen?_setCells];rw[D]at a;exact(cell _ ω).2) h2
 rw[<-d]at o;clear cell b
 go_enter Tryz.func67,Tryz.ntmps67
 go_wp2_with (simp only[P])
 go_region_law_o (refine jf rfl _ _ 39 39 rfl _ _ (by simp[Act.eval,Act.put]) (by simp[Act.eval,Act.put]) (o _ _ _) ?_)
 go_wp2_with (at_builtin;refine ew _ rfl _ _ 39 39 rfl _ _ rfl rfl (J _ (λ_=>rfl) (λ_=>rfl) _ _) ?_)
 go_ret
 first|exact⟨rfl,rfl⟩|exact⟨rfl,by rw[d]⟩
variable{q:Value}{H:TypeInfo}
def HN(J : Tryz.prog.info? 74=some H)(K:H.size=4)(V:H.zero=some q)(X:q.cells.size=4)(L:H.bytes=32)(w:World)(g n c i r m Y:Nat)(olds vs:List Value)(hm:m=1)(hi:i<n)(hn63:n<=1073741824)(hnc:n<=c)(C:c<n+m)(M:olds.length=n*4)(N:vs.length=4)(Z:∀t u,olds[t]? = some u->cel w g t=some u)(T:∀t u,vs[t]? = some u->cel w r t=some u)(h1:∀u∈olds,u.oneCell'=true)(h2:∀u∈vs,u.oneCell'=true) :
  Calls Tryz.prog 67 #[.slice (some ⟨g,0,none⟩) n c,.int .i64 i,.slice (some ⟨r,0,none⟩) m Y] w λe w'=>e=.returned (.slice (some ⟨w.heap.size,0,none⟩) (n+m) (grownCap w (n+m) c 74))/\
   w'=(((w.alloc (.cells ((olds.take (i*4)).toArray++Builtin.zeroCells q.cells (n+m - i)++Builtin.zeroCells q.cells (grownCap w (n+m) c 74 - (n+m))) 74)).drew.setCells w.heap.size (i*4) vs).drew).setCells w.heap.size ((i+m)*4) (olds.drop (i*4)):=by
 have mixed : Tryz.prog.follows .mixedOrders=true:=by kernel_rfl
 have hm1:0<m:=ω
 have hm2:m<=1:=ω
 clear hm;have hz1:¬((m:Int)=0):=ω
 have hz2:¬((i:Int)=(n:Int)):=ω
 have hz3:(c:Int)<(n:Int)+(m:Int):=ω
 have O:(Tryz.prog.info? 74).map (·.size)=some 4:=by rw[J];simp[K]
 have hbw:g<w.heap.size:=block_lt_of_cell (Z 0 _ (X3 ω));have hvw:r<w.heap.size:=block_lt_of_cell (T 0 _ (X3 ω));have P:(n:Int)+(m:Int) - (i:Int)=((n+m - i:Nat):Int):=ω
 have D:i+(n+m - i)=n+m:=ω
 have y:(Builtin.firstCells H.size i (.slice (some ⟨g,0,none⟩) i c)).run Tryz.prog w.drew=.ok (olds.take (i*4)).toArray w.drew:=by
  rw[K];exact run_firstCells_some w.drew 4 i ⟨g,0,none⟩ i c (olds.take (i*4)) (by rw[Z2];omega) (λj v a=>by
    rw[Addr.add_lit,z9];rw[List.getElem?_take]at a;split at a
    · exact Z j v a
    cases a)
 have p:∀d,(Builtin.append_ #[39,3] d #[.slice (some ⟨g,0,none⟩) i c,.int .i64 ((n:Int)+(m:Int) - (i:Int))]).run Tryz.prog w =
   .ok (.slice (some ⟨w.heap.size,0,none⟩) (n+m) (grownCap w (n+m) c 74)) (w.drew.alloc (.cells ((olds.take (i*4)).toArray++Builtin.zeroCells q.cells (n+m - i)++Builtin.zeroCells q.cells (grownCap w (n+m) c 74 - (n+m))) 74)):=λd=>by
  have h:=Lib.run_append_grow_zeros w 39 3 d 74 H _ .i64 .i64 Tryz.underlying39 Tryz.underlying3 J V (some ⟨g,0,none⟩) i c (olds.take (i*4)) y (n+m - i) ω ω ω ω (by rw[L];omega) (by rw[L,D];exact growslice_fits C ω);rw[D]at h;rw[P];exact h
 obtain⟨G,U⟩ : ∃G,G=grownCap w (n+m) c 74:=⟨_,rfl⟩
 obtain⟨ROW,k⟩ : ∃ROW:Array Value,ROW=(olds.take (i*4)).toArray++Builtin.zeroCells q.cells (n+m - i)++Builtin.zeroCells q.cells (G - (n+m)):=⟨_,rfl⟩
 rw[<-U]at p |-;rw[<-k]at p |-;have hRl:(n+m)*4<=ROW.size:=by
  rw[k];simp only[Array.size_append,List.size_toArray,Z2,size_zeroCells,X,M];omega
 obtain⟨o,b⟩ : ∃o,o=w.drew.alloc (.cells ROW 74):=⟨_,rfl⟩
 rw[<-b]at p;have hN:∀j,j<(n+m)*4->(o.cell? ⟨w.heap.size,j,none⟩).isSome=true:=λj a=>by
  rw[b,World.cell?_alloc_at (w:=w.drew) ROW _ w.heap.size j rfl,Y8 ω];rfl
 have Q:∀j,o.frozen? ⟨w.heap.size,j,none⟩ = false:=λj=>by rw[b];exact World.frozen?_alloc_at (w:=w.drew) ROW _ w.heap.size j rfl
 have hOb:∀j v,w.cell? ⟨g,j,none⟩ = some v->o.cell? ⟨g,j,none⟩ = some v:=λj v h=>by rw[b,World.cell?_alloc_past (w:=w.drew) _ g j hbw];exact h
 have hOv:∀j v,w.cell? ⟨r,j,none⟩ = some v->o.cell? ⟨r,j,none⟩ = some v:=λj v h=>by rw[b,World.cell?_alloc_past (w:=w.drew) _ r j hvw];exact h
 have R:∀(W:World),(∀x,W.cell? x=o.cell? x)->(∀x,W.frozen? x=o.frozen? x)->∀d E,(Builtin.copy_ #[39,39] d #[.slice (some ⟨w.heap.size,i*4,none⟩) (n+m - i) E,.slice (some ⟨r,0,none⟩) m Y]).run Tryz.prog W=.ok (goInt ((1:Nat):Int)) (W.setCells w.heap.size (i*4) vs):=λW l F d E=>
  eK W _ _ d 74 4 w.heap.size (i*4) (n+m - i) E ⟨r,0,none⟩ m Y 1 vs Tryz.underlying39 O (by simp only[Nat.min_def];split<;>omega) ω
   (λj v a=>by rw[Addr.add_lit,z9,l];exact hOv _ v (T j v a))
   (λj a=>by rw[l];rw[N]at a;exact hN _ ω) (λj a=>by rw[F];exact Q _) h2
 have hGn:n+m<=G:=by rw[U];exact grownCap_ge w _ _ _
 have hG63:G<=9223372036854775807:=by
  have:=grownCap_le_maxLen w (n+m) c 74 (by unfold maxLen;omega);rw[<-U]at this;unfold maxLen at this;omega
 have hGi:¬(G=i):=ω
 have hGim:¬(G=i+m):=ω
 have hci:¬(c=i):=ω
 have hbN:g≠w.heap.size:=ω
 have S:(olds.drop (i*4)).length=(n - i)*4:=by rw[Y4,M];omega
 have B:∀(W:World),(∀x,W.cell? x=(o.setCells w.heap.size (i*4) vs).cell? x)->(∀x,W.frozen? x=(o.setCells w.heap.size (i*4) vs).frozen? x)->∀d E sc,(Builtin.copy_ #[39,39] d #[.slice (some ⟨w.heap.size,(i+m)*4,none⟩) (n+m - (i+m)) E,.slice (some ⟨g,i*4,none⟩) (n - i) sc]).run Tryz.prog W=.ok (goInt ((n - i:Nat):Int)) (W.setCells w.heap.size ((i+m)*4) (olds.drop (i*4))):=λW l F d E sc=>
  eK W _ _ d 74 4 w.heap.size ((i+m)*4) (n+m - (i+m)) E ⟨g,i*4,none⟩ (n - i) sc (n - i) (olds.drop (i*4)) Tryz.underlying39 O (by simp only[Nat.min_def];split<;>omega) S
   (λj v a=>by
     rw[Addr.add_lit,l,World.cell?_setCells_out _ _ _ _ _ (λh _=>absurd h hbN)];exact hOb _ v (Z (i*4+j) v (by rwa [List.getElem?_drop]at a)))
   (λj a=>by rw[l];rw[S]at a;exact lT _ _ _ _ (λt ht=>by rw[N]at ht;exact hN _ ω) _ (hN _ ω))
   (λj a=>by rw[F,World.frozen?_setCells];exact Q _) (λv T=>h1 v (List.mem_of_mem_drop T))
 subst b;have hE1:∀x,((w.alloc (.cells ROW 74)).drew).cell? x=(w.drew.alloc (.cells ROW 74)).cell? x:=λx=>rfl
 have hE2:∀x,((w.alloc (.cells ROW 74)).drew).frozen? x=(w.drew.alloc (.cells ROW 74)).frozen? x:=λx=>rfl
 have hF1:∀x,(((w.alloc (.cells ROW 74)).drew.setCells w.heap.size (i*4) vs).drew).cell? x=((w.drew.alloc (.cells ROW 74)).setCells w.heap.size (i*4) vs).cell? x:=λx=>rfl
 have hF2:∀x,(((w.alloc (.cells ROW 74)).drew.setCells w.heap.size (i*4) vs).drew).frozen? x=((w.drew.alloc (.cells ROW 74)).setCells w.heap.size (i*4) vs).frozen? x:=λx=>rfl
 have hw1:IntKind.i64.wrap ((i:Int)+(m:Int))=(i:Int)+(m:Int):=by rw[IntKind.wrap_i64];omega
 have hw2:IntKind.i64.wrap ((n:Int)+(m:Int))=(n:Int)+(m:Int):=by rw[IntKind.wrap_i64];omega
 have hw3:IntKind.i64.wrap ((n:Int)+(m:Int) - (i:Int))=(n:Int)+(m:Int) - (i:Int):=by rw[IntKind.wrap_i64];omega
 have hb1:(0:Int)<=(i:Int)+(m:Int):=ω
 have hin:i<=n:=ω
 have htn:((i:Int)+(m:Int)).toNat=i+m:=ω
 have hb3:(i:Int)<=(n:Int):=ω
 clear P D y k U hRl
 go_enter Tryz.func67,Tryz.ntmps67
 go_wp2_with (first
   | (at_builtin;refine Lib.wpList_append_run _ rfl _ _ _ _ rfl _ _ rfl rfl _ _ (p _) ?_)
   | (at_builtin;refine ew _ rfl _ _ 39 39 rfl _ _ rfl rfl (R _ hE1 hE2 _ _) ?_)
   | (at_builtin;refine ew _ rfl _ _ 39 39 rfl _ _ rfl rfl (B _ (λ_=>rfl) (λ_=>rfl) _ _ _) ?_))
 go_region_law_o (refine jf rfl _ _ 39 39 rfl (.slice (some ⟨w.heap.size,(i+m)*4,none⟩) (n+m - (i+m)) (G - (i+m))) (.slice (some ⟨g,i*4,none⟩) (n - i) (c - i)) (by simp[Act.eval,Act.put]) (by simp[Act.eval,Act.put]) (B _ hF1 hF2 3 (G - (i+m)) (c - i)) ?_)
 go_wp2
 go_ret
 exact⟨rfl,rfl⟩
def Kr:E3 Tryz.prog 67 4 39 32:=by
 refine⟨⟨_,Tryz.func67,by kernel_rfl,by kernel_rfl⟩,Lc,λw g n c i K m L olds M l o r h P b d u N p q j y B=>?_⟩;obtain⟨Q,R,C,D,E,k,F,G⟩:=zo;by_cases a:n+m<=c
 ·refine(EE w g n c i K m L olds M l o h a b d u N p q j y B).mono λe O ⟨H,J⟩=>?_
  subst l;rw[J];exact⟨g,c,H,a,qh o a b d u p q j⟩
 refine(HN C D E k G w g n c i K m L olds M l o h r ω b d u N p q).mono λe O ⟨H,J⟩=>?_
 subst l;rw[J,xP];exact⟨_,_,H,grownCap_ge w _ _ _,tl (e:=74) rfl rfl rfl rfl o (grownCap_ge w _ _ _) k F b d p q⟩
def wN(xs:List bf):UK (xs.map (bf.enc .own)):=λr b c a=>by
 obtain⟨s,-,rfl⟩:=Y5.1 b;simp[bf.enc]at a;rcases a with rfl|rfl|rfl|rfl<;>exact⟨_,rfl⟩
def A4(xs:List bf)(i:Nat)(x:bf)(j:i<=xs.length)(k:xs.length+1<=1073741824):zzB 67 false [.mut none [.s .own (xs.map (bf.enc .own))],.val none [I (i:Nat)],.mut none [.s .own [bf.enc .own x]]] [.mut none [.x],.val none [I (i:Nat)],.mut none [.x]] .one [.s .own ((inse xs i x).map (bf.enc .own))]:=by
 obtain⟨l,n,c,a,d,e,g,b⟩:=zo;have h:=KH (row:=bf.enc .own x) Tryz.underlying39 c a d (by rw[a,e]) g (by rw[b];decide) (by rw[b];exact Kr) (rows:=xs.map (bf.enc .own)) (i:=i) (by rw[Z1];exact j) (aW λ_=>rfl) rfl (by decide) (wN xs) (wN [x]) (by rw[Z1];exact k)
 rwa [zl]at h
def ta:∃(b:TypeInfo)(c:Value),Tryz.prog.info? 175=some b/\b.size=3/\b.zero=some c/\c.cells.size=3/\(∀v∈c.cells.toList,v.oneCell'=true)/\b.bytes=24:=by
 have h:=(od 175 _ rfl).1;cases e : Tryz.prog.info? 175 with
 | none=>rw[e]at h;cases h
 | some x=>
  rw[e]at h;simp only[I7,O1,Prod.mk.injEq]at h;obtain⟨a,g,i⟩:=h;cases d:x.zero with
  | none=>rw[d]at a;cases a
  | some z=>
   rw[d]at a;simp only[I7,O1]at a;refine⟨x,z,rfl,g,d,?_,λv f=>?_,i⟩
   ·rw[<-Array.length_toList,a];rfl
   rw[a]at f;have j:(List.map cval [I 0,I 0,I 0]).all (λv=>v.oneCell')=true:=rfl;exact I5.1 j v f
def ED:∀w,(Go.sizeOf 175).run Tryz.prog w=.ok 3 w:=λ_=>by kernel_rfl
def Gb(w w1:World)(base:Option Addr)(n c d m g:Nat)(r:Value)(i:m=1)(j:n<=c)(h:n<=1073741824)(k:base=none->n=0/\c=0)(b:(Builtin.append_ #[38,38] 38 #[.slice base n c,.slice (some ⟨d,0,none⟩) m g]).run Tryz.prog w=.ok r w1) :
  Calls Tryz.prog 192 #[.slice base n c,.int .i64 n,.slice (some ⟨d,0,none⟩) m g] w λe l=>e=.returned r/\l=w1:=by
 have mixed : Tryz.prog.follows .mixedOrders=true:=by kernel_rfl
 have o:0<m:=ω
 have p:m<=1:=ω
 clear i;have q:¬((m:Int)=0):=ω
 go_enter Tryz.func192,Tryz.ntmps192
 cases base with
 | none=>
  obtain⟨rfl,rfl⟩:=k rfl
  go_wp2_with (at_builtin;refine Lib.wpList_append_run _ rfl _ _ _ _ rfl _ _ rfl rfl _ _ b ?_)
  go_ret
  exact⟨rfl,rfl⟩
 | some a=>
  obtain⟨u,y,asp⟩:=a
  go_wp2_with (at_builtin;refine Lib.wpList_append_run _ rfl _ _ _ _ rfl _ _ rfl rfl _ _ b ?_)
  all_goals(go_ret;exact⟨rfl,rfl⟩)
def zm(w:World)(g n c i p m C:Nat)(olds vs:List Value)(Z:m=1)(hi:i<n)(X:n<=1073741824)(M:n+m<=c)(N:olds.length=n*3)(D:vs.length=3)(ho:∀t u,olds[t]? = some u->cel w g t=some u)(L:∀t u,vs[t]? = some u->cel w p t=some u)(h1:∀u∈olds,u.oneCell'=true)(h2:∀u∈vs,u.oneCell'=true)(b:∀q,q<c*3->(∃z,cel w g q=some z/\z.oneCell'=true)/\fro w g q=NF)(O:fro w p 0=NF)(E:p≠g) :
  Calls Tryz.prog 192 #[.slice (some ⟨g,0,none⟩) n c,.int .i64 i,.slice (some ⟨p,0,none⟩) m C] w λe w'=>e=.returned (.slice (some ⟨g,0,none⟩) (n+m) c)/\w'=(w.drew.setCells g ((i+m)*3) (olds.drop (i*3))).setCells g (i*3) vs:=by
 have mixed : Tryz.prog.follows .mixedOrders=true:=by kernel_rfl
 have hm1:0<m:=ω
 have hm2:m<=1:=ω
 clear Z;have hz1:¬((m:Int)=0):=ω
 have hz2:¬((i:Int)=(n:Int)):=ω
 have hz3:¬((c:Int)<(n:Int)+(m:Int)):=ω
 have F:(Tryz.prog.info? 175).map (·.size)=some 3:=by obtain⟨i0,z0,e1,e2,-⟩:=ta;rw[e1];simp[e2]
 have cell:∀q,q<(n+m)*3->(w.cell? ⟨g,q,none⟩).isSome=true/\w.frozen? ⟨g,q,none⟩ = false:=λq Y=>by
  obtain⟨⟨z,hz,-⟩,hf⟩:=b q ω;exact⟨by show(cel w g q).isSome=true;rw[hz];rfl,I1 Prod.fst hf⟩
 have P:∀Q R,(callFunc 343 #[.slice (some ⟨p,0,none⟩) m C,.slice (some ⟨g,(i+m)*3,none⟩) Q R]).run Tryz.prog w=.ok (.value (.bool false)) w:=λQ R=>by
  obtain⟨y,hy⟩ : ∃y,vs[0]? = some y:=⟨_,X3 ω⟩
  obtain⟨⟨y',S,-⟩,T⟩:=b 0 ω;rw[run_callFunc_extern Tryz.func343 (by kernel_rfl) (by kernel_rfl) (by kernel_rfl) (e:=Extern.SlicesOverlaps.overlaps #[38,38] #[4]) (by kernel_rfl),
    rk (e:=175) (k:=3) Tryz.underlying38 ED E (L 0 y hy) O S T _ m C Q R]
  rfl
 have l:(olds.drop (i*3)).length=(n - i)*3:=by rw[Y4,N];omega
 have hw1:IntKind.i64.wrap ((i:Int)+(m:Int))=(i:Int)+(m:Int):=by rw[IntKind.wrap_i64];omega
 have hw2:IntKind.i64.wrap ((n:Int)+(m:Int))=(n:Int)+(m:Int):=by rw[IntKind.wrap_i64];omega
 have hb1:(0:Int)<=(i:Int)+(m:Int):=ω
 have hin:i<=n:=ω
 have htn:((i:Int)+(m:Int)).toNat=i+m:=ω
 have hb2:¬(c=i+m):=ω
 have hb3:(i:Int)<=(n:Int)+(m:Int):=ω
 have hb4:¬(c=i):=ω
 have o:∀r B U,(Builtin.copy_ #[38,38] r #[.slice (some ⟨g,(i+m)*3,none⟩) (n+m - (i+m)) B,.slice (some ⟨g,i*3,none⟩) (n+m - i) U]).run Tryz.prog w.drew=.ok (goInt ((n - i:Nat):Int)) (w.drew.setCells g ((i+m)*3) (olds.drop (i*3))):=λr B U=>
  eK w.drew _ _ r 175 3 g ((i+m)*3) (n+m - (i+m)) B ⟨g,i*3,none⟩ (n+m - i) U (n - i) (olds.drop (i*3)) Tryz.underlying38 F (by simp only[Nat.min_def];split<;>omega) l
   (λj v a=>by rw[Addr.add_lit];exact ho (i*3+j) v (by rwa [List.getElem?_drop]at a))
   (λj a=>by rw[l]at a;exact(cell _ ω).1) (λj a=>by rw[l]at a;exact(cell _ ω).2) (λv L=>h1 v (List.mem_of_mem_drop L))
 obtain⟨G,d⟩ : ∃G,G=w.drew.setCells g ((i+m)*3) (olds.drop (i*3)):=⟨_,rfl⟩
 have H:∀q,q<(n+m)*3->(G.cell? ⟨g,q,none⟩).isSome=true:=λq Y=>by
  rw[d];exact lT g _ _ _ (λj a=>by rw[l]at a;exact(cell _ ω).1) _ (cell q Y).1
 have J:∀(W:World),(∀x,W.cell? x=G.cell? x)->(∀x,W.frozen? x=G.frozen? x)->∀r B,(Builtin.copy_ #[38,38] r #[.slice (some ⟨g,i*3,none⟩) (n+m - i) B,.slice (some ⟨p,0,none⟩) m C]).run Tryz.prog W=.ok (goInt ((1:Nat):Int)) (W.setCells g (i*3) vs):=λW K V r B=>
  eK W _ _ r 175 3 g (i*3) (n+m - i) B ⟨p,0,none⟩ m C 1 vs Tryz.underlying38 F (by simp only[Nat.min_def];split<;>omega) ω
   (λj v a=>by
     rw[Addr.add_lit,z9,K,d,World.cell?_setCells_out g _ _ _ _ (λh _=>absurd h E)];exact L j v a)
   (λj a=>by rw[K];rw[D]at a;exact H _ ω) (λj a=>by rw[V,d,World.frozen?_setCells];rw[D]at a;exact(cell _ ω).2) h2
 rw[<-d]at o;clear cell b
 go_enter Tryz.func192,Tryz.ntmps192
 go_wp2_with (simp only[P])
 go_region_law_o (refine jf rfl _ _ 38 38 rfl _ _ (by simp[Act.eval,Act.put]) (by simp[Act.eval,Act.put]) (o _ _ _) ?_)
 go_wp2_with (at_builtin;refine ew _ rfl _ _ 38 38 rfl _ _ rfl rfl (J _ (λ_=>rfl) (λ_=>rfl) _ _) ?_)
 go_ret
 first|exact⟨rfl,rfl⟩|exact⟨rfl,by rw[d]⟩
def Br(J : Tryz.prog.info? 175=some H)(K:H.size=3)(V:H.zero=some q)(X:q.cells.size=3)(L:H.bytes=24)(w:World)(g n c i r m Y:Nat)(olds vs:List Value)(hm:m=1)(hi:i<n)(hn63:n<=1073741824)(hnc:n<=c)(C:c<n+m)(M:olds.length=n*3)(N:vs.length=3)(Z:∀t u,olds[t]? = some u->cel w g t=some u)(T:∀t u,vs[t]? = some u->cel w r t=some u)(h1:∀u∈olds,u.oneCell'=true)(h2:∀u∈vs,u.oneCell'=true) :
  Calls Tryz.prog 192 #[.slice (some ⟨g,0,none⟩) n c,.int .i64 i,.slice (some ⟨r,0,none⟩) m Y] w λe w'=>e=.returned (.slice (some ⟨w.heap.size,0,none⟩) (n+m) (grownCap w (n+m) c 175))/\
   w'=(((w.alloc (.cells ((olds.take (i*3)).toArray++Builtin.zeroCells q.cells (n+m - i)++Builtin.zeroCells q.cells (grownCap w (n+m) c 175 - (n+m))) 175)).drew.setCells w.heap.size (i*3) vs).drew).setCells w.heap.size ((i+m)*3) (olds.drop (i*3)):=by
 have mixed : Tryz.prog.follows .mixedOrders=true:=by kernel_rfl
 have hm1:0<m:=ω
 have hm2:m<=1:=ω
 clear hm;have hz1:¬((m:Int)=0):=ω
 have hz2:¬((i:Int)=(n:Int)):=ω
 have hz3:(c:Int)<(n:Int)+(m:Int):=ω
 have O:(Tryz.prog.info? 175).map (·.size)=some 3:=by rw[J];simp[K]
 have hbw:g<w.heap.size:=block_lt_of_cell (Z 0 _ (X3 ω));have hvw:r<w.heap.size:=block_lt_of_cell (T 0 _ (X3 ω));have P:(n:Int)+(m:Int) - (i:Int)=((n+m - i:Nat):Int):=ω
 have D:i+(n+m - i)=n+m:=ω
 have y:(Builtin.firstCells H.size i (.slice (some ⟨g,0,none⟩) i c)).run Tryz.prog w.drew=.ok (olds.take (i*3)).toArray w.drew:=by
  rw[K];exact run_firstCells_some w.drew 3 i ⟨g,0,none⟩ i c (olds.take (i*3)) (by rw[Z2];omega) (λj v a=>by
    rw[Addr.add_lit,z9];rw[List.getElem?_take]at a;split at a
    · exact Z j v a
    cases a)
 have p:∀d,(Builtin.append_ #[38,3] d #[.slice (some ⟨g,0,none⟩) i c,.int .i64 ((n:Int)+(m:Int) - (i:Int))]).run Tryz.prog w =
   .ok (.slice (some ⟨w.heap.size,0,none⟩) (n+m) (grownCap w (n+m) c 175)) (w.drew.alloc (.cells ((olds.take (i*3)).toArray++Builtin.zeroCells q.cells (n+m - i)++Builtin.zeroCells q.cells (grownCap w (n+m) c 175 - (n+m))) 175)):=λd=>by
  have h:=Lib.run_append_grow_zeros w 38 3 d 175 H _ .i64 .i64 Tryz.underlying38 Tryz.underlying3 J V (some ⟨g,0,none⟩) i c (olds.take (i*3)) y (n+m - i) ω ω ω ω (by rw[L];omega) (by rw[L,D];exact growslice_fits C ω);rw[D]at h;rw[P];exact h
 obtain⟨G,U⟩ : ∃G,G=grownCap w (n+m) c 175:=⟨_,rfl⟩
 obtain⟨ROW,k⟩ : ∃ROW:Array Value,ROW=(olds.take (i*3)).toArray++Builtin.zeroCells q.cells (n+m - i)++Builtin.zeroCells q.cells (G - (n+m)):=⟨_,rfl⟩
 rw[<-U]at p |-;rw[<-k]at p |-;have hRl:(n+m)*3<=ROW.size:=by
  rw[k];simp only[Array.size_append,List.size_toArray,Z2,size_zeroCells,X,M];omega
 obtain⟨o,b⟩ : ∃o,o=w.drew.alloc (.cells ROW 175):=⟨_,rfl⟩
 rw[<-b]at p;have hN:∀j,j<(n+m)*3->(o.cell? ⟨w.heap.size,j,none⟩).isSome=true:=λj a=>by
  rw[b,World.cell?_alloc_at (w:=w.drew) ROW _ w.heap.size j rfl,Y8 ω];rfl
 have Q:∀j,o.frozen? ⟨w.heap.size,j,none⟩ = false:=λj=>by rw[b];exact World.frozen?_alloc_at (w:=w.drew) ROW _ w.heap.size j rfl
 have hOb:∀j v,w.cell? ⟨g,j,none⟩ = some v->o.cell? ⟨g,j,none⟩ = some v:=λj v h=>by rw[b,World.cell?_alloc_past (w:=w.drew) _ g j hbw];exact h
 have hOv:∀j v,w.cell? ⟨r,j,none⟩ = some v->o.cell? ⟨r,j,none⟩ = some v:=λj v h=>by rw[b,World.cell?_alloc_past (w:=w.drew) _ r j hvw];exact h
 have R:∀(W:World),(∀x,W.cell? x=o.cell? x)->(∀x,W.frozen? x=o.frozen? x)->∀d E,(Builtin.copy_ #[38,38] d #[.slice (some ⟨w.heap.size,i*3,none⟩) (n+m - i) E,.slice (some ⟨r,0,none⟩) m Y]).run Tryz.prog W=.ok (goInt ((1:Nat):Int)) (W.setCells w.heap.size (i*3) vs):=λW l F d E=>
  eK W _ _ d 175 3 w.heap.size (i*3) (n+m - i) E ⟨r,0,none⟩ m Y 1 vs Tryz.underlying38 O (by simp only[Nat.min_def];split<;>omega) ω
   (λj v a=>by rw[Addr.add_lit,z9,l];exact hOv _ v (T j v a))
   (λj a=>by rw[l];rw[N]at a;exact hN _ ω) (λj a=>by rw[F];exact Q _) h2
 have hGn:n+m<=G:=by rw[U];exact grownCap_ge w _ _ _
 have hG63:G<=9223372036854775807:=by
  have:=grownCap_le_maxLen w (n+m) c 175 (by unfold maxLen;omega);rw[<-U]at this;unfold maxLen at this;omega
 have hGi:¬(G=i):=ω
 have hGim:¬(G=i+m):=ω
 have hci:¬(c=i):=ω
 have hbN:g≠w.heap.size:=ω
 have S:(olds.drop (i*3)).length=(n - i)*3:=by rw[Y4,M];omega
 have B:∀(W:World),(∀x,W.cell? x=(o.setCells w.heap.size (i*3) vs).cell? x)->(∀x,W.frozen? x=(o.setCells w.heap.size (i*3) vs).frozen? x)->∀d E sc,(Builtin.copy_ #[38,38] d #[.slice (some ⟨w.heap.size,(i+m)*3,none⟩) (n+m - (i+m)) E,.slice (some ⟨g,i*3,none⟩) (n - i) sc]).run Tryz.prog W=.ok (goInt ((n - i:Nat):Int)) (W.setCells w.heap.size ((i+m)*3) (olds.drop (i*3))):=λW l F d E sc=>
  eK W _ _ d 175 3 w.heap.size ((i+m)*3) (n+m - (i+m)) E ⟨g,i*3,none⟩ (n - i) sc (n - i) (olds.drop (i*3)) Tryz.underlying38 O (by simp only[Nat.min_def];split<;>omega) S
   (λj v a=>by
     rw[Addr.add_lit,l,World.cell?_setCells_out _ _ _ _ _ (λh _=>absurd h hbN)];exact hOb _ v (Z (i*3+j) v (by rwa [List.getElem?_drop]at a)))
   (λj a=>by rw[l];rw[S]at a;exact lT _ _ _ _ (λt ht=>by rw[N]at ht;exact hN _ ω) _ (hN _ ω))
   (λj a=>by rw[F,World.frozen?_setCells];exact Q _) (λv T=>h1 v (List.mem_of_mem_drop T))
 subst b;have hE1:∀x,((w.alloc (.cells ROW 175)).drew).cell? x=(w.drew.alloc (.cells ROW 175)).cell? x:=λx=>rfl
 have hE2:∀x,((w.alloc (.cells ROW 175)).drew).frozen? x=(w.drew.alloc (.cells ROW 175)).frozen? x:=λx=>rfl
 have hF1:∀x,(((w.alloc (.cells ROW 175)).drew.setCells w.heap.size (i*3) vs).drew).cell? x=((w.drew.alloc (.cells ROW 175)).setCells w.heap.size (i*3) vs).cell? x:=λx=>rfl
 have hF2:∀x,(((w.alloc (.cells ROW 175)).drew.setCells w.heap.size (i*3) vs).drew).frozen? x=((w.drew.alloc (.cells ROW 175)).setCells w.heap.size (i*3) vs).frozen? x:=λx=>rfl
 have hw1:IntKind.i64.wrap ((i:Int)+(m:Int))=(i:Int)+(m:Int):=by rw[IntKind.wrap_i64];omega
 have hw2:IntKind.i64.wrap ((n:Int)+(m:Int))=(n:Int)+(m:Int):=by rw[IntKind.wrap_i64];omega
 have hw3:IntKind.i64.wrap ((n:Int)+(m:Int) - (i:Int))=(n:Int)+(m:Int) - (i:Int):=by rw[IntKind.wrap_i64];omega
 have hb1:(0:Int)<=(i:Int)+(m:Int):=ω
 have hin:i<=n:=ω
 have htn:((i:Int)+(m:Int)).toNat=i+m:=ω
 have hb3:(i:Int)<=(n:Int):=ω
 clear P D y k U hRl
 go_enter Tryz.func192,Tryz.ntmps192
 go_wp2_with (first
   | (at_builtin;refine Lib.wpList_append_run _ rfl _ _ _ _ rfl _ _ rfl rfl _ _ (p _) ?_)
   | (at_builtin;refine ew _ rfl _ _ 38 38 rfl _ _ rfl rfl (R _ hE1 hE2 _ _) ?_)
   | (at_builtin;refine ew _ rfl _ _ 38 38 rfl _ _ rfl rfl (B _ (λ_=>rfl) (λ_=>rfl) _ _ _) ?_))
 go_region_law_o (refine jf rfl _ _ 38 38 rfl (.slice (some ⟨w.heap.size,(i+m)*3,none⟩) (n+m - (i+m)) (G - (i+m))) (.slice (some ⟨g,i*3,none⟩) (n - i) (c - i)) (by simp[Act.eval,Act.put]) (by simp[Act.eval,Act.put]) (B _ hF1 hF2 3 (G - (i+m)) (c - i)) ?_)
 go_wp2
 go_ret
 exact⟨rfl,rfl⟩
def Fo:E3 Tryz.prog 192 3 38 24:=by
 refine⟨⟨_,Tryz.func192,by kernel_rfl,by kernel_rfl⟩,Gb,λw g n c i K m L olds M l o r h P b d u N p q j y B=>?_⟩;obtain⟨Q,R,C,D,E,k,F,G⟩:=ta;by_cases a:n+m<=c
 ·refine(zm w g n c i K m L olds M l o h a b d u N p q j y B).mono λe O ⟨H,J⟩=>?_
  subst l;rw[J];exact⟨g,c,H,a,qh o a b d u p q j⟩
 refine(Br C D E k G w g n c i K m L olds M l o h r ω b d u N p q).mono λe O ⟨H,J⟩=>?_
 subst l;rw[J,xP];exact⟨_,_,H,grownCap_ge w _ _ _,tl (e:=175) rfl rfl rfl rfl o (grownCap_ge w _ _ _) k F b d p q⟩
def sq(xs:List aB):UK (xs.map (aB.enc .own)):=λr b c a=>by
 obtain⟨s,-,rfl⟩:=Y5.1 b;simp[aB.enc]at a;rcases a with rfl|rfl|rfl<;>exact⟨_,rfl⟩
def EY(xs:List aB)(i:Nat)(x:aB)(j:i<=xs.length)(k:xs.length+1<=1073741824):zzB 192 false [.mut none [.s .own (xs.map (aB.enc .own))],.val none [I (i:Nat)],.mut none [.s .own [aB.enc .own x]]] [.mut none [.x],.val none [I (i:Nat)],.mut none [.x]] .one [.s .own ((inse xs i x).map (aB.enc .own))]:=by
 obtain⟨l,n,c,a,d,e,g,b⟩:=ta;have h:=KH (row:=aB.enc .own x) Tryz.underlying38 c a d (by rw[a,e]) g (by rw[b];decide) (by rw[b];exact Fo) (rows:=xs.map (aB.enc .own)) (i:=i) (by rw[Z1];exact j) (aW λ_=>rfl) rfl (by decide) (sq xs) (sq [x]) (by rw[Z1];exact k)
 rwa [zl]at h
def vU:∃(b:TypeInfo)(c:Value),Tryz.prog.info? 267=some b/\b.size=3/\b.zero=some c/\c.cells.size=3/\(∀v∈c.cells.toList,v.oneCell'=true)/\b.bytes=24:=by
 have h:=(od 267 _ rfl).1;cases e : Tryz.prog.info? 267 with
 | none=>rw[e]at h;cases h
 | some x=>
  rw[e]at h;simp only[I7,O1,Prod.mk.injEq]at h;obtain⟨a,g,i⟩:=h;cases d:x.zero with
  | none=>rw[d]at a;cases a
  | some z=>
   rw[d]at a;simp only[I7,O1]at a;refine⟨x,z,rfl,g,d,?_,λv f=>?_,i⟩
   ·rw[<-Array.length_toList,a];rfl
   rw[a]at f;have j:(List.map cval [I 0,I 0,I 0]).all (λv=>v.oneCell')=true:=rfl;exact I5.1 j v f
def Hp:∀w,(Go.sizeOf 267).run Tryz.prog w=.ok 3 w:=λ_=>by kernel_rfl
def Jh(w w1:World)(base:Option Addr)(n c d m g:Nat)(r:Value)(i:m=1)(j:n<=c)(h:n<=1073741824)(k:base=none->n=0/\c=0)(b:(Builtin.append_ #[37,37] 37 #[.slice base n c,.slice (some ⟨d,0,none⟩) m g]).run Tryz.prog w=.ok r w1) :
  Calls Tryz.prog 342 #[.slice base n c,.int .i64 n,.slice (some ⟨d,0,none⟩) m g] w λe l=>e=.returned r/\l=w1:=by
 have mixed : Tryz.prog.follows .mixedOrders=true:=by kernel_rfl
 have o:0<m:=ω
 have p:m<=1:=ω
 clear i;have q:¬((m:Int)=0):=ω
 go_enter Tryz.func342,Tryz.ntmps342
 cases base with
 | none=>
  obtain⟨rfl,rfl⟩:=k rfl
  go_wp2_with (at_builtin;refine Lib.wpList_append_run _ rfl _ _ _ _ rfl _ _ rfl rfl _ _ b ?_)
  go_ret
  exact⟨rfl,rfl⟩
 | some a=>
  obtain⟨u,y,asp⟩:=a
  go_wp2_with (at_builtin;refine Lib.wpList_append_run _ rfl _ _ _ _ rfl _ _ rfl rfl _ _ b ?_)
  all_goals(go_ret;exact⟨rfl,rfl⟩)
def BI(w:World)(g n c i p m C:Nat)(olds vs:List Value)(Z:m=1)(hi:i<n)(X:n<=1073741824)(M:n+m<=c)(N:olds.length=n*3)(D:vs.length=3)(ho:∀t u,olds[t]? = some u->cel w g t=some u)(L:∀t u,vs[t]? = some u->cel w p t=some u)(h1:∀u∈olds,u.oneCell'=true)(h2:∀u∈vs,u.oneCell'=true)(b:∀q,q<c*3->(∃z,cel w g q=some z/\z.oneCell'=true)/\fro w g q=NF)(O:fro w p 0=NF)(E:p≠g) :
  Calls Tryz.prog 342 #[.slice (some ⟨g,0,none⟩) n c,.int .i64 i,.slice (some ⟨p,0,none⟩) m C] w λe w'=>e=.returned (.slice (some ⟨g,0,none⟩) (n+m) c)/\w'=(w.drew.setCells g ((i+m)*3) (olds.drop (i*3))).setCells g (i*3) vs:=by
 have mixed : Tryz.prog.follows .mixedOrders=true:=by kernel_rfl
 have hm1:0<m:=ω
 have hm2:m<=1:=ω
 clear Z;have hz1:¬((m:Int)=0):=ω
 have hz2:¬((i:Int)=(n:Int)):=ω
 have hz3:¬((c:Int)<(n:Int)+(m:Int)):=ω
 have F:(Tryz.prog.info? 267).map (·.size)=some 3:=by obtain⟨i0,z0,e1,e2,-⟩:=vU;rw[e1];simp[e2]
 have cell:∀q,q<(n+m)*3->(w.cell? ⟨g,q,none⟩).isSome=true/\w.frozen? ⟨g,q,none⟩ = false:=λq Y=>by
  obtain⟨⟨z,hz,-⟩,hf⟩:=b q ω;exact⟨by show(cel w g q).isSome=true;rw[hz];rfl,I1 Prod.fst hf⟩
 have P:∀Q R,(callFunc 461 #[.slice (some ⟨p,0,none⟩) m C,.slice (some ⟨g,(i+m)*3,none⟩) Q R]).run Tryz.prog w=.ok (.value (.bool false)) w:=λQ R=>by
  obtain⟨y,hy⟩ : ∃y,vs[0]? = some y:=⟨_,X3 ω⟩
  obtain⟨⟨y',S,-⟩,T⟩:=b 0 ω;rw[run_callFunc_extern Tryz.func461 (by kernel_rfl) (by kernel_rfl) (by kernel_rfl) (e:=Extern.SlicesOverlaps.overlaps #[37,37] #[4]) (by kernel_rfl),
    rk (e:=267) (k:=3) Tryz.underlying37 Hp E (L 0 y hy) O S T _ m C Q R]
  rfl
 have l:(olds.drop (i*3)).length=(n - i)*3:=by rw[Y4,N];omega
 have hw1:IntKind.i64.wrap ((i:Int)+(m:Int))=(i:Int)+(m:Int):=by rw[IntKind.wrap_i64];omega
 have hw2:IntKind.i64.wrap ((n:Int)+(m:Int))=(n:Int)+(m:Int):=by rw[IntKind.wrap_i64];omega
 have hb1:(0:Int)<=(i:Int)+(m:Int):=ω
 have hin:i<=n:=ω
 have htn:((i:Int)+(m:Int)).toNat=i+m:=ω
 have hb2:¬(c=i+m):=ω
 have hb3:(i:Int)<=(n:Int)+(m:Int):=ω
 have hb4:¬(c=i):=ω
 have o:∀r B U,(Builtin.copy_ #[37,37] r #[.slice (some ⟨g,(i+m)*3,none⟩) (n+m - (i+m)) B,.slice (some ⟨g,i*3,none⟩) (n+m - i) U]).run Tryz.prog w.drew=.ok (goInt ((n - i:Nat):Int)) (w.drew.setCells g ((i+m)*3) (olds.drop (i*3))):=λr B U=>
  eK w.drew _ _ r 267 3 g ((i+m)*3) (n+m - (i+m)) B ⟨g,i*3,none⟩ (n+m - i) U (n - i) (olds.drop (i*3)) Tryz.underlying37 F (by simp only[Nat.min_def];split<;>omega) l
   (λj v a=>by rw[Addr.add_lit];exact ho (i*3+j) v (by rwa [List.getElem?_drop]at a))
   (λj a=>by rw[l]at a;exact(cell _ ω).1) (λj a=>by rw[l]at a;exact(cell _ ω).2) (λv L=>h1 v (List.mem_of_mem_drop L))
 obtain⟨G,d⟩ : ∃G,G=w.drew.setCells g ((i+m)*3) (olds.drop (i*3)):=⟨_,rfl⟩
 have H:∀q,q<(n+m)*3->(G.cell? ⟨g,q,none⟩).isSome=true:=λq Y=>by
  rw[d];exact lT g _ _ _ (λj a=>by rw[l]at a;exact(cell _ ω).1) _ (cell q Y).1
 have J:∀(W:World),(∀x,W.cell? x=G.cell? x)->(∀x,W.frozen? x=G.frozen? x)->∀r B,(Builtin.copy_ #[37,37] r #[.slice (some ⟨g,i*3,none⟩) (n+m - i) B,.slice (some ⟨p,0,none⟩) m C]).run Tryz.prog W=.ok (goInt ((1:Nat):Int)) (W.setCells g (i*3) vs):=λW K V r B=>
  eK W _ _ r 267 3 g (i*3) (n+m - i) B ⟨p,0,none⟩ m C 1 vs Tryz.underlying37 F (by simp only[Nat.min_def];split<;>omega) ω
   (λj v a=>by
     rw[Addr.add_lit,z9,K,d,World.cell?_setCells_out g _ _ _ _ (λh _=>absurd h E)];exact L j v a)
   (λj a=>by rw[K];rw[D]at a;exact H _ ω) (λj a=>by rw[V,d,World.frozen?_setCells];rw[D]at a;exact(cell _ ω).2) h2
 rw[<-d]at o;clear cell b
 go_enter Tryz.func342,Tryz.ntmps342
 go_wp2_with (simp only[P])
 go_region_law_o (refine jf rfl _ _ 37 37 rfl _ _ (by simp[Act.eval,Act.put]) (by simp[Act.eval,Act.put]) (o _ _ _) ?_)
 go_wp2_with (at_builtin;refine ew _ rfl _ _ 37 37 rfl _ _ rfl rfl (J _ (λ_=>rfl) (λ_=>rfl) _ _) ?_)
 go_ret
 first|exact⟨rfl,rfl⟩|exact⟨rfl,by rw[d]⟩
def Fd(J : Tryz.prog.info? 267=some H)(K:H.size=3)(V:H.zero=some q)(X:q.cells.size=3)(L:H.bytes=24)(w:World)(g n c i r m Y:Nat)(olds vs:List Value)(hm:m=1)(hi:i<n)(hn63:n<=1073741824)(hnc:n<=c)(C:c<n+m)(M:olds.length=n*3)(N:vs.length=3)(Z:∀t u,olds[t]? = some u->cel w g t=some u)(T:∀t u,vs[t]? = some u->cel w r t=some u)(h1:∀u∈olds,u.oneCell'=true)(h2:∀u∈vs,u.oneCell'=true) :
  Calls Tryz.prog 342 #[.slice (some ⟨g,0,none⟩) n c,.int .i64 i,.slice (some ⟨r,0,none⟩) m Y] w λe w'=>e=.returned (.slice (some ⟨w.heap.size,0,none⟩) (n+m) (grownCap w (n+m) c 267))/\
   w'=(((w.alloc (.cells ((olds.take (i*3)).toArray++Builtin.zeroCells q.cells (n+m - i)++Builtin.zeroCells q.cells (grownCap w (n+m) c 267 - (n+m))) 267)).drew.setCells w.heap.size (i*3) vs).drew).setCells w.heap.size ((i+m)*3) (olds.drop (i*3)):=by
 have mixed : Tryz.prog.follows .mixedOrders=true:=by kernel_rfl
 have hm1:0<m:=ω
 have hm2:m<=1:=ω
 clear hm;have hz1:¬((m:Int)=0):=ω
 have hz2:¬((i:Int)=(n:Int)):=ω
 have hz3:(c:Int)<(n:Int)+(m:Int):=ω
 have O:(Tryz.prog.info? 267).map (·.size)=some 3:=by rw[J];simp[K]
 have hbw:g<w.heap.size:=block_lt_of_cell (Z 0 _ (X3 ω));have hvw:r<w.heap.size:=block_lt_of_cell (T 0 _ (X3 ω));have P:(n:Int)+(m:Int) - (i:Int)=((n+m - i:Nat):Int):=ω
 have D:i+(n+m - i)=n+m:=ω
 have y:(Builtin.firstCells H.size i (.slice (some ⟨g,0,none⟩) i c)).run Tryz.prog w.drew=.ok (olds.take (i*3)).toArray w.drew:=by
  rw[K];exact run_firstCells_some w.drew 3 i ⟨g,0,none⟩ i c (olds.take (i*3)) (by rw[Z2];omega) (λj v a=>by
    rw[Addr.add_lit,z9];rw[List.getElem?_take]at a;split at a
    · exact Z j v a
    cases a)
 have p:∀d,(Builtin.append_ #[37,3] d #[.slice (some ⟨g,0,none⟩) i c,.int .i64 ((n:Int)+(m:Int) - (i:Int))]).run Tryz.prog w =
   .ok (.slice (some ⟨w.heap.size,0,none⟩) (n+m) (grownCap w (n+m) c 267)) (w.drew.alloc (.cells ((olds.take (i*3)).toArray++Builtin.zeroCells q.cells (n+m - i)++Builtin.zeroCells q.cells (grownCap w (n+m) c 267 - (n+m))) 267)):=λd=>by
  have h:=Lib.run_append_grow_zeros w 37 3 d 267 H _ .i64 .i64 Tryz.underlying37 Tryz.underlying3 J V (some ⟨g,0,none⟩) i c (olds.take (i*3)) y (n+m - i) ω ω ω ω (by rw[L];omega) (by rw[L,D];exact growslice_fits C ω);rw[D]at h;rw[P];exact h
 obtain⟨G,U⟩ : ∃G,G=grownCap w (n+m) c 267:=⟨_,rfl⟩
 obtain⟨ROW,k⟩ : ∃ROW:Array Value,ROW=(olds.take (i*3)).toArray++Builtin.zeroCells q.cells (n+m - i)++Builtin.zeroCells q.cells (G - (n+m)):=⟨_,rfl⟩
 rw[<-U]at p |-;rw[<-k]at p |-;have hRl:(n+m)*3<=ROW.size:=by
  rw[k];simp only[Array.size_append,List.size_toArray,Z2,size_zeroCells,X,M];omega
 obtain⟨o,b⟩ : ∃o,o=w.drew.alloc (.cells ROW 267):=⟨_,rfl⟩
 rw[<-b]at p;have hN:∀j,j<(n+m)*3->(o.cell? ⟨w.heap.size,j,none⟩).isSome=true:=λj a=>by
  rw[b,World.cell?_alloc_at (w:=w.drew) ROW _ w.heap.size j rfl,Y8 ω];rfl
 have Q:∀j,o.frozen? ⟨w.heap.size,j,none⟩ = false:=λj=>by rw[b];exact World.frozen?_alloc_at (w:=w.drew) ROW _ w.heap.size j rfl
 have hOb:∀j v,w.cell? ⟨g,j,none⟩ = some v->o.cell? ⟨g,j,none⟩ = some v:=λj v h=>by rw[b,World.cell?_alloc_past (w:=w.drew) _ g j hbw];exact h
 have hOv:∀j v,w.cell? ⟨r,j,none⟩ = some v->o.cell? ⟨r,j,none⟩ = some v:=λj v h=>by rw[b,World.cell?_alloc_past (w:=w.drew) _ r j hvw];exact h
 have R:∀(W:World),(∀x,W.cell? x=o.cell? x)->(∀x,W.frozen? x=o.frozen? x)->∀d E,(Builtin.copy_ #[37,37] d #[.slice (some ⟨w.heap.size,i*3,none⟩) (n+m - i) E,.slice (some ⟨r,0,none⟩) m Y]).run Tryz.prog W=.ok (goInt ((1:Nat):Int)) (W.setCells w.heap.size (i*3) vs):=λW l F d E=>
  eK W _ _ d 267 3 w.heap.size (i*3) (n+m - i) E ⟨r,0,none⟩ m Y 1 vs Tryz.underlying37 O (by simp only[Nat.min_def];split<;>omega) ω
   (λj v a=>by rw[Addr.add_lit,z9,l];exact hOv _ v (T j v a))
   (λj a=>by rw[l];rw[N]at a;exact hN _ ω) (λj a=>by rw[F];exact Q _) h2
 have hGn:n+m<=G:=by rw[U];exact grownCap_ge w _ _ _
 have hG63:G<=9223372036854775807:=by
  have:=grownCap_le_maxLen w (n+m) c 267 (by unfold maxLen;omega);rw[<-U]at this;unfold maxLen at this;omega
 have hGi:¬(G=i):=ω
 have hGim:¬(G=i+m):=ω
 have hci:¬(c=i):=ω
 have hbN:g≠w.heap.size:=ω
 have S:(olds.drop (i*3)).length=(n - i)*3:=by rw[Y4,M];omega
 have B:∀(W:World),(∀x,W.cell? x=(o.setCells w.heap.size (i*3) vs).cell? x)->(∀x,W.frozen? x=(o.setCells w.heap.size (i*3) vs).frozen? x)->∀d E sc,(Builtin.copy_ #[37,37] d #[.slice (some ⟨w.heap.size,(i+m)*3,none⟩) (n+m - (i+m)) E,.slice (some ⟨g,i*3,none⟩) (n - i) sc]).run Tryz.prog W=.ok (goInt ((n - i:Nat):Int)) (W.setCells w.heap.size ((i+m)*3) (olds.drop (i*3))):=λW l F d E sc=>
  eK W _ _ d 267 3 w.heap.size ((i+m)*3) (n+m - (i+m)) E ⟨g,i*3,none⟩ (n - i) sc (n - i) (olds.drop (i*3)) Tryz.underlying37 O (by simp only[Nat.min_def];split<;>omega) S
   (λj v a=>by
     rw[Addr.add_lit,l,World.cell?_setCells_out _ _ _ _ _ (λh _=>absurd h hbN)];exact hOb _ v (Z (i*3+j) v (by rwa [List.getElem?_drop]at a)))
   (λj a=>by rw[l];rw[S]at a;exact lT _ _ _ _ (λt ht=>by rw[N]at ht;exact hN _ ω) _ (hN _ ω))
   (λj a=>by rw[F,World.frozen?_setCells];exact Q _) (λv T=>h1 v (List.mem_of_mem_drop T))
 subst b;have hE1:∀x,((w.alloc (.cells ROW 267)).drew).cell? x=(w.drew.alloc (.cells ROW 267)).cell? x:=λx=>rfl
 have hE2:∀x,((w.alloc (.cells ROW 267)).drew).frozen? x=(w.drew.alloc (.cells ROW 267)).frozen? x:=λx=>rfl
 have hF1:∀x,(((w.alloc (.cells ROW 267)).drew.setCells w.heap.size (i*3) vs).drew).cell? x=((w.drew.alloc (.cells ROW 267)).setCells w.heap.size (i*3) vs).cell? x:=λx=>rfl
 have hF2:∀x,(((w.alloc (.cells ROW 267)).drew.setCells w.heap.size (i*3) vs).drew).frozen? x=((w.drew.alloc (.cells ROW 267)).setCells w.heap.size (i*3) vs).frozen? x:=λx=>rfl
 have hw1:IntKind.i64.wrap ((i:Int)+(m:Int))=(i:Int)+(m:Int):=by rw[IntKind.wrap_i64];omega
 have hw2:IntKind.i64.wrap ((n:Int)+(m:Int))=(n:Int)+(m:Int):=by rw[IntKind.wrap_i64];omega
 have hw3:IntKind.i64.wrap ((n:Int)+(m:Int) - (i:Int))=(n:Int)+(m:Int) - (i:Int):=by rw[IntKind.wrap_i64];omega
 have hb1:(0:Int)<=(i:Int)+(m:Int):=ω
 have hin:i<=n:=ω
 have htn:((i:Int)+(m:Int)).toNat=i+m:=ω
 have hb3:(i:Int)<=(n:Int):=ω
 clear P D y k U hRl
 go_enter Tryz.func342,Tryz.ntmps342
 go_wp2_with (first
   | (at_builtin;refine Lib.wpList_append_run _ rfl _ _ _ _ rfl _ _ rfl rfl _ _ (p _) ?_)
   | (at_builtin;refine ew _ rfl _ _ 37 37 rfl _ _ rfl rfl (R _ hE1 hE2 _ _) ?_)
   | (at_builtin;refine ew _ rfl _ _ 37 37 rfl _ _ rfl rfl (B _ (λ_=>rfl) (λ_=>rfl) _ _ _) ?_))
 go_region_law_o (refine jf rfl _ _ 37 37 rfl (.slice (some ⟨w.heap.size,(i+m)*3,none⟩) (n+m - (i+m)) (G - (i+m))) (.slice (some ⟨g,i*3,none⟩) (n - i) (c - i)) (by simp[Act.eval,Act.put]) (by simp[Act.eval,Act.put]) (B _ hF1 hF2 3 (G - (i+m)) (c - i)) ?_)
 go_wp2
 go_ret
 exact⟨rfl,rfl⟩
def Js:E3 Tryz.prog 342 3 37 24:=by
 refine⟨⟨_,Tryz.func342,by kernel_rfl,by kernel_rfl⟩,Jh,λw g n c i K m L olds M l o r h P b d u N p q j y B=>?_⟩;obtain⟨Q,R,C,D,E,k,F,G⟩:=vU;by_cases a:n+m<=c
 ·refine(BI w g n c i K m L olds M l o h a b d u N p q j y B).mono λe O ⟨H,J⟩=>?_
  subst l;rw[J];exact⟨g,c,H,a,qh o a b d u p q j⟩
 refine(Fd C D E k G w g n c i K m L olds M l o h r ω b d u N p q).mono λe O ⟨H,J⟩=>?_
 subst l;rw[J,xP];exact⟨_,_,H,grownCap_ge w _ _ _,tl (e:=267) rfl rfl rfl rfl o (grownCap_ge w _ _ _) k F b d p q⟩
def uf(xs:List au):UK (xs.map (au.enc .own)):=λr b c a=>by
 obtain⟨s,-,rfl⟩:=Y5.1 b;simp[au.enc]at a;rcases a with rfl|rfl|rfl<;>exact⟨_,rfl⟩
def H2(xs:List au)(i:Nat)(x:au)(j:i<=xs.length)(k:xs.length+1<=1073741824):zzB 342 false [.mut none [.s .own (xs.map (au.enc .own))],.val none [I (i:Nat)],.mut none [.s .own [au.enc .own x]]] [.mut none [.x],.val none [I (i:Nat)],.mut none [.x]] .one [.s .own ((inse xs i x).map (au.enc .own))]:=by
 obtain⟨l,n,c,a,d,e,g,b⟩:=vU;have h:=KH (row:=au.enc .own x) Tryz.underlying37 c a d (by rw[a,e]) g (by rw[b];decide) (by rw[b];exact Js) (rows:=xs.map (au.enc .own)) (i:=i) (by rw[Z1];exact j) (aW λ_=>rfl) rfl (by decide) (uf xs) (uf [x]) (by rw[Z1];exact k)
 rwa [zl]at h
end Go.Proofs.YtiopgblagimpmaaGreat.Ab
