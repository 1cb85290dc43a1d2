/- Contracts of the laws' generic functions (held). Printed by gen_con.py. No condition. -/
import Derived.Test.YtplcalfnngkffaaGreatMg
import Derived.ProofKit
import Derived.OpenShut
import Derived.Deep.Slices
import Derived.Deep.Fields
import Derived.ChangeSame
import Derived.WideShapes
set_option linter.unusedVariables false

namespace Go.Proofs.YtplcalfnngkffaaGreat.Ab
open Go.RowKit
set_option maxRecDepth 20000
set_option maxHeartbeats 2000000
theorem oe (x:List Int) (k:Int) (hs:iR x) (h0:0≤k) (h1:k+(dU x:Nat)≤1099511627776):ah Tryz.prog 226 false [.val none (aI .imm (markIntS x k)),.val none [I k]] .one [I (k+(dU x:Nat))]:=by
 have hl:x.length≤1048576:=hs
 have hln:=mO x k
 unfold dU at h1
 refine fO 21 [] Tryz.func226 rfl ?_
 repeat'(first|refine gO ?_|fail)
 (conv=>whnf)
 refine Lp.mk (ι:=Nat) (fun i=>[(0,.hold .one (aI .imm (markIntS x k))),(1,.hold .one [I (k+(iP x i:Nat))]),(5,.hold .one [I (i:Nat)])]) (fun i=>i≤x.length) (fun i=>x.length - i) 0 ?_ (Nat.zero_le _) fun i hi=>?_
 ·repeat'(first|exact trivial|rfl|exact And.intro rfl (And.intro (congrArg I (by unfold iP;omega)) trivial)|refine And.intro ?_ ?_)
 ·by_cases hlt:i<x.length
  ·obtain⟨y,hy⟩ : ∃ y,x[i]? = some y:=⟨_,List.getElem?_eq_getElem hlt⟩
   have hm:=m8 x k i hlt
   unfold iP
   repeat'(first|refine gA ?_|(conv=>whnf);first|with_reducible refine Ix.nat (aa hm) ?_|refine Nx.mk (i+1) (by omega) (by omega) ?_)
   repeat'(first|exact trivial|rfl|exact And.intro rfl (And.intro (congrArg I (by first|omega|(unfold iP;omega))) trivial)|refine And.intro ?_ ?_)
  ·repeat'(first|refine gA ?_|fail)
   have he:i=x.length:=by omega
   subst he
   exact congrArg (fun z=>[I z]) (by unfold iP dU;rfl)
theorem mB (x:List (List Int)) (k:Int) (hs:iV x) (h0:0≤k) (h1:k+(dv x:Nat)≤1099511627776):ah Tryz.prog 227 false [.val none (ed .imm (markIntSS x k)),.val none [I k]] .one [I (k+(dv x:Nat))]:=by
 have hl:x.length≤1048576:=hs.1
 have hln:=lH x k
 refine fO 21 [] Tryz.func227 rfl ?_
 repeat'(first|refine gO ?_|fail)
 (conv=>whnf)
 refine Lp.mk (ι:=Nat) (fun i=>[(0,.hold .one (ed .imm (markIntSS x k))),(1,.hold .one [I (k+(dP x i:Nat))]),(5,.hold .one [I (i:Nat)])]) (fun i=>i≤x.length) (fun i=>x.length - i) 0 ?_ (Nat.zero_le _) fun i hi=>?_
 ·rw[lA]
  repeat'(first|exact trivial|rfl|exact And.intro rfl (And.intro (congrArg I (by omega)) trivial)|refine And.intro ?_ ?_)
 ·by_cases hlt:i<x.length
  ·obtain⟨y,hy⟩ : ∃ y,x[i]? = some y:=⟨_,List.getElem?_eq_getElem hlt⟩
   have hm:=lU x k i y hy
   have hps:=lL x i y hy
   have hpl:=n9 x (i+1)
   rw[hps]at hpl
   repeat'(first|refine gA ?_|(conv=>whnf);first|with_reducible refine Ix.nat (aa hm) ?_|refine Cl.mk (oe y _ (hs.2 y (List.mem_of_getElem? hy)) (by omega) (by omega)) ?_|refine Nx.mk (i+1) (by omega) (by omega) ?_)
   repeat'(first|exact trivial|rfl|exact And.intro rfl (And.intro (congrArg I (by omega)) trivial)|refine And.intro ?_ ?_)
  ·repeat'(first|refine gA ?_|fail)
   have he:i=x.length:=by omega
   subst he
   exact congrArg (fun z=>[I z]) (by rw[mN])
theorem A5 (x:List Bool) (k:Int) (hs:lZ x) (h0:0≤k) (h1:k+(fE x:Nat)≤1099511627776):ah Tryz.prog 369 false [.val none (fu .imm (markBoolS x k)),.val none [I k]] .one [I (k+(fE x:Nat))]:=by
 have hl:x.length≤1048576:=hs
 have hln:=lF x k
 unfold fE at h1
 refine fO 23 [] Tryz.func369 rfl ?_
 repeat'(first|refine gO ?_|fail)
 (conv=>whnf)
 refine Lp.mk (ι:=Nat) (fun i=>[(0,.hold .one (fu .imm (markBoolS x k))),(1,.hold .one [I (k+(gK x i:Nat))]),(5,.hold .one [I (i:Nat)])]) (fun i=>i≤x.length) (fun i=>x.length - i) 0 ?_ (Nat.zero_le _) fun i hi=>?_
 ·repeat'(first|exact trivial|rfl|exact And.intro rfl (And.intro (congrArg I (by unfold gK;omega)) trivial)|refine And.intro ?_ ?_)
 ·by_cases hlt:i<x.length
  ·obtain⟨y,hy⟩ : ∃ y,x[i]? = some y:=⟨_,List.getElem?_eq_getElem hlt⟩
   have hm:=lJ x k i hlt
   unfold gK
   repeat'(first|refine gA ?_|(conv=>whnf);first|with_reducible refine Ix.nat (aa hm) ?_|refine Cd.mk (by decide) ?_|refine Ev.mk rfl ?_|refine Bf.f (by rw[bne_eq_false_iff_eq,Bool.eq_iff_iff];simp) ?_|refine Nx.mk (i+1) (by omega) (by omega) ?_)
   repeat'(first|exact trivial|rfl|exact And.intro rfl (And.intro (congrArg I (by first|omega|(unfold gK;omega))) trivial)|refine And.intro ?_ ?_)
  ·repeat'(first|refine gA ?_|fail)
   have he:i=x.length:=by omega
   subst he
   exact congrArg (fun z=>[I z]) (by unfold gK fE;rfl)
theorem x7 (x:aD) (k:Int) (hs:aD.sml x) (h0:0≤k) (h1:k+(aD.cnt x:Nat)≤1099511627776):ah Tryz.prog 300 false [.val (some 2) (aD.enc .imm (x.mark k)),.val none [I k]] .one [I (k+(aD.cnt x:Nat))]:=by
 obtain⟨s0,s1⟩:=hs
 unfold aD.cnt at h1
 refine fO 18 [] Tryz.func300 rfl ?_
 repeat'(first|refine gA ?_|(conv=>whnf);first|refine Cl.mk (mB x.Cells _ s0 (by omega) (by omega)) ?_|refine Cl.mk (A5 x.Used _ s1 (by omega) (by omega)) ?_)
 exact congrArg (fun z=>[I z]) (by unfold aD.cnt;omega)
theorem yk (x:List aG) (k:Int) (hs:iN x) (h0:0≤k) (h1:k+(cX x:Nat)≤1099511627776):ah Tryz.prog 370 false [.val none (ef .imm (dA x k)),.val none [I k]] .one [I (k+(cX x:Nat))]:=by
 have hl:x.length≤1048576:=hs.1
 have hln:=jx x k
 refine fO 31 [] Tryz.func370 rfl ?_
 repeat'(first|refine gO ?_|fail)
 (conv=>whnf)
 refine Lp.mk (ι:=Nat) (fun i=>[(0,.hold .one (ef .imm (dA x k))),(1,.hold .one [I (k+(cx x i:Nat))]),(5,.hold .one [I (i:Nat)])]) (fun i=>i≤x.length) (fun i=>x.length - i) 0 ?_ (Nat.zero_le _) fun i hi=>?_
 ·rw[jA]
  repeat'(first|exact trivial|rfl|exact And.intro rfl (And.intro (congrArg I (by omega)) trivial)|refine And.intro ?_ ?_)
 ·by_cases hlt:i<x.length
  ·obtain⟨y,hy⟩ : ∃ y,x[i]? = some y:=⟨_,List.getElem?_eq_getElem hlt⟩
   have hm:=jC x k i y hy
   have hps:=jk x i y hy
   have hpl:=lD x (i+1)
   rw[hps]at hpl
   simp only[aG.cnt]at hps hpl
   repeat'(first|refine gA ?_|(conv=>whnf);first|with_reducible refine Ix.nat (aa hm) ?_|refine Bf.N (fun h=>absurd rfl h) (fun h=>?_)|refine Nx.mk (i+1) (by omega) (by omega) ?_)
   repeat'(first|exact trivial|rfl|exact And.intro rfl (And.intro (congrArg I (by first|omega|(simp only[aG.cnt]at hps;omega))) trivial)|refine And.intro ?_ ?_)
  ·repeat'(first|refine gA ?_|fail)
   have he:i=x.length:=by omega
   subst he
   exact congrArg (fun z=>[I z]) (by rw[ky])
theorem Ac (x:aB) (k:Int) (hs:aB.sml x) (h0:0≤k) (h1:k+(aB.cnt x:Nat)≤1099511627776):ah Tryz.prog 301 false [.val (some 1) (aB.enc .imm (x.mark k)),.val none [I k]] .one [I (k+(aB.cnt x:Nat))]:=by
 have s0:=hs
 unfold aB.cnt at h1
 refine fO 12 [] Tryz.func301 rfl ?_
 repeat'(first|refine gA ?_|(conv=>whnf);first|refine Cl.mk (yk x.Entries _ s0 (by omega) (by omega)) ?_)
 exact congrArg (fun z=>[I z]) (by unfold aB.cnt;omega)
theorem uS (x:aA) (k:Int) (hs:aA.sml x) (h0:0≤k) (h1:k+(aA.cnt x:Nat)≤1099511627776):ah Tryz.prog 225 false [.val (some 3) (aA.enc .imm (x.mark k)),.val none [I k]] .one [I (k+(aA.cnt x:Nat))]:=by
 obtain⟨s0,s1⟩:=hs
 unfold aA.cnt at h1
 refine fO 18 [] Tryz.func225 rfl ?_
 repeat'(first|refine gA ?_|(conv=>whnf);first|refine Cl.mk (x7 x.Frames _ s0 (by omega) (by omega)) ?_|refine Cl.mk (Ac x.Table _ s1 (by omega) (by omega)) ?_)
 exact congrArg (fun z=>[I z]) (by unfold aA.cnt;omega)
theorem x3 (x:af) (k:Int) (hs:af.sml x) (h0:0≤k) (h1:k+(af.cnt x:Nat)≤1099511627776):ah Tryz.prog 115 false [.val (some 5) (af.enc .imm (x.mark k)),.val none [I k]] .one [I (k+(af.cnt x:Nat))]:=by
 obtain⟨s0,s1⟩:=hs
 unfold af.cnt at h1
 refine fO 18 [] Tryz.func115 rfl ?_
 repeat'(first|refine gA ?_|(conv=>whnf);first|refine Cl.mk (uS x.Machine _ s0 (by omega) (by omega)) ?_|refine Cl.mk (oe x.Refuse _ s1 (by omega) (by omega)) ?_)
 exact congrArg (fun z=>[I z]) (by unfold af.cnt;omega)
end Go.Proofs.YtplcalfnngkffaaGreat.Ab
/- Contracts of the laws' generic functions (held, heaps). Printed by gen_con.py. -/
namespace Go.Proofs.YtplcalfnngkffaaGreat.Ab
open Go.RowKit
set_option maxRecDepth 20000
set_option maxHeartbeats 2000000
theorem xY (x:List ar) (k:Int) (hs:dK x) (h0:0≤k) (h1:k+(bH x:Nat)≤1099511627776):ah Tryz.prog 116 false [.val none (bg .imm (dB x k)),.val none [I k]] .one [I (k+(bH x:Nat))]:=by
 have hl:x.length≤1048576:=hs.1
 have hln:=jz x k
 refine fO 31 [] Tryz.func116 rfl ?_
 repeat'(first|refine gO ?_|fail)
 (conv=>whnf)
 refine Lp.mk (ι:=Nat) (fun i=>[(0,.hold .one (bg .imm (dB x k))),(1,.hold .one [I (k+(cA x i:Nat))]),(5,.hold .one [I (i:Nat)])]) (fun i=>i≤x.length) (fun i=>x.length - i) 0 ?_ (Nat.zero_le _) fun i hi=>?_
 ·rw[jo]
  repeat'(first|exact trivial|rfl|exact And.intro rfl (And.intro (congrArg I (by omega)) trivial)|refine And.intro ?_ ?_)
 ·by_cases hlt:i<x.length
  ·obtain⟨y,hy⟩ : ∃ y,x[i]? = some y:=⟨_,List.getElem?_eq_getElem hlt⟩
   have hm:=jm x k i y hy
   have hps:=j9 x i y hy
   have hpl:=lR x (i+1)
   rw[hps]at hpl
   simp only[ar.cnt]at hps hpl
   repeat'(first|refine gA ?_|(conv=>whnf);first|with_reducible refine Ix.nat (aa hm) ?_|refine Bf.N (fun h=>absurd rfl h) (fun h=>?_)|refine Nx.mk (i+1) (by omega) (by omega) ?_)
   repeat'(first|exact trivial|rfl|exact And.intro rfl (And.intro (congrArg I (by first|omega|(simp only[ar.cnt]at hps;omega))) trivial)|refine And.intro ?_ ?_)
  ·repeat'(first|refine gA ?_|fail)
   have he:i=x.length:=by omega
   subst he
   exact congrArg (fun z=>[I z]) (by rw[kr])
theorem Ah (x:List am) (k:Int) (hs:cC x) (h0:0≤k) (h1:k+(bQ x:Nat)≤1099511627776):ah Tryz.prog 117 false [.val none (bm .imm (ec x k)),.val none [I k]] .one [I (k+(bQ x:Nat))]:=by
 have hl:x.length≤1048576:=hs.1
 have hln:=ko x k
 refine fO 40 [] Tryz.func117 rfl ?_
 repeat'(first|refine gO ?_|fail)
 (conv=>whnf)
 refine Lp.mk (ι:=Nat) (fun i=>[(0,.hold .one (bm .imm (ec x k))),(1,.hold .one [I (k+(dd x i:Nat))]),(5,.hold .one [I (i:Nat)])]) (fun i=>i≤x.length) (fun i=>x.length - i) 0 ?_ (Nat.zero_le _) fun i hi=>?_
 ·rw[kL]
  repeat'(first|exact trivial|rfl|exact And.intro rfl (And.intro (congrArg I (by omega)) trivial)|refine And.intro ?_ ?_)
 ·by_cases hlt:i<x.length
  ·obtain⟨y,hy⟩ : ∃ y,x[i]? = some y:=⟨_,List.getElem?_eq_getElem hlt⟩
   have hm:=ku x k i y hy
   have hps:=kx x i y hy
   have hpl:=m9 x (i+1)
   rw[hps]at hpl
   simp only[am.cnt]at hps hpl
   repeat'(first|refine gA ?_|(conv=>whnf);first|with_reducible refine Ix.nat (aa hm) ?_|refine Bf.N (fun h=>absurd rfl h) (fun h=>?_)|refine Nx.mk (i+1) (by omega) (by omega) ?_)
   repeat'(first|exact trivial|rfl|exact And.intro rfl (And.intro (congrArg I (by first|omega|(simp only[am.cnt]at hps;omega))) trivial)|refine And.intro ?_ ?_)
  ·repeat'(first|refine gA ?_|fail)
   have he:i=x.length:=by omega
   subst he
   exact congrArg (fun z=>[I z]) (by rw[lM])
theorem xg (x:List au) (k:Int) (hs:cg x) (h0:0≤k) (h1:k+(bG x:Nat)≤1099511627776):ah Tryz.prog 118 false [.val none (bn .imm (dC x k)),.val none [I k]] .one [I (k+(bG x:Nat))]:=by
 have hl:x.length≤1048576:=hs.1
 have hln:=jv x k
 refine fO 40 [] Tryz.func118 rfl ?_
 repeat'(first|refine gO ?_|fail)
 (conv=>whnf)
 refine Lp.mk (ι:=Nat) (fun i=>[(0,.hold .one (bn .imm (dC x k))),(1,.hold .one [I (k+(cv x i:Nat))]),(5,.hold .one [I (i:Nat)])]) (fun i=>i≤x.length) (fun i=>x.length - i) 0 ?_ (Nat.zero_le _) fun i hi=>?_
 ·rw[jD]
  repeat'(first|exact trivial|rfl|exact And.intro rfl (And.intro (congrArg I (by omega)) trivial)|refine And.intro ?_ ?_)
 ·by_cases hlt:i<x.length
  ·obtain⟨y,hy⟩ : ∃ y,x[i]? = some y:=⟨_,List.getElem?_eq_getElem hlt⟩
   have hm:=j8 x k i y hy
   have hps:=ji x i y hy
   have hpl:=lP x (i+1)
   rw[hps]at hpl
   simp only[au.cnt]at hps hpl
   repeat'(first|refine gA ?_|(conv=>whnf);first|with_reducible refine Ix.nat (aa hm) ?_|refine Bf.N (fun h=>absurd rfl h) (fun h=>?_)|refine Nx.mk (i+1) (by omega) (by omega) ?_)
   repeat'(first|exact trivial|rfl|exact And.intro rfl (And.intro (congrArg I (by first|omega|(simp only[au.cnt]at hps;omega))) trivial)|refine And.intro ?_ ?_)
  ·repeat'(first|refine gA ?_|fail)
   have he:i=x.length:=by omega
   subst he
   exact congrArg (fun z=>[I z]) (by rw[kJ])
theorem BA (x:List aX) (k:Int) (hs:mn x) (h0:0≤k) (h1:k+(cS x:Nat)≤1099511627776):ah Tryz.prog 119 false [.val none (eD .imm (eI x k)),.val none [I k]] .one [I (k+(cS x:Nat))]:=by
 have hl:x.length≤1048576:=hs.1
 have hln:=lW x k
 refine fO 49 [] Tryz.func119 rfl ?_
 repeat'(first|refine gO ?_|fail)
 (conv=>whnf)
 refine Lp.mk (ι:=Nat) (fun i=>[(0,.hold .one (eD .imm (eI x k))),(1,.hold .one [I (k+(dN x i:Nat))]),(5,.hold .one [I (i:Nat)])]) (fun i=>i≤x.length) (fun i=>x.length - i) 0 ?_ (Nat.zero_le _) fun i hi=>?_
 ·rw[lY]
  repeat'(first|exact trivial|rfl|exact And.intro rfl (And.intro (congrArg I (by omega)) trivial)|refine And.intro ?_ ?_)
 ·by_cases hlt:i<x.length
  ·obtain⟨y,hy⟩ : ∃ y,x[i]? = some y:=⟨_,List.getElem?_eq_getElem hlt⟩
   have hm:=lI x k i y hy
   have hps:=lG x i y hy
   have hpl:=ov x (i+1)
   rw[hps]at hpl
   simp only[aX.cnt]at hps hpl
   repeat'(first|refine gA ?_|(conv=>whnf);first|with_reducible refine Ix.nat (aa hm) ?_|refine Bf.N (fun h=>absurd rfl h) (fun h=>?_)|refine Nx.mk (i+1) (by omega) (by omega) ?_)
   repeat'(first|exact trivial|rfl|exact And.intro rfl (And.intro (congrArg I (by first|omega|(simp only[aX.cnt]at hps;omega))) trivial)|refine And.intro ?_ ?_)
  ·repeat'(first|refine gA ?_|fail)
   have he:i=x.length:=by omega
   subst he
   exact congrArg (fun z=>[I z]) (by rw[mG])
theorem xG (x:List ay) (k:Int) (hs:iI x) (h0:0≤k) (h1:k+(bY x:Nat)≤1099511627776):ah Tryz.prog 120 false [.val none (dh .imm (dy x k)),.val none [I k]] .one [I (k+(bY x:Nat))]:=by
 have hl:x.length≤1048576:=hs.1
 have hln:=jG x k
 refine fO 22 [] Tryz.func120 rfl ?_
 repeat'(first|refine gO ?_|fail)
 (conv=>whnf)
 refine Lp.mk (ι:=Nat) (fun i=>[(0,.hold .one (dh .imm (dy x k))),(1,.hold .one [I (k+(cu x i:Nat))]),(5,.hold .one [I (i:Nat)])]) (fun i=>i≤x.length) (fun i=>x.length - i) 0 ?_ (Nat.zero_le _) fun i hi=>?_
 ·rw[jt]
  repeat'(first|exact trivial|rfl|exact And.intro rfl (And.intro (congrArg I (by omega)) trivial)|refine And.intro ?_ ?_)
 ·by_cases hlt:i<x.length
  ·obtain⟨y,hy⟩ : ∃ y,x[i]? = some y:=⟨_,List.getElem?_eq_getElem hlt⟩
   have hm:=jw x k i y hy
   have hps:=jr x i y hy
   have hpl:=lC x (i+1)
   rw[hps]at hpl
   repeat'(first|refine gA ?_|(conv=>whnf);first|with_reducible refine Ix.nat (aa hm) ?_|refine Cl.mk (mB y.Lists _ (hs.2 y (List.mem_of_getElem? hy)) (by omega) (by simp only[ay.cnt]at hpl;omega)) ?_|refine Nx.mk (i+1) (by omega) (by omega) ?_)
   repeat'(first|exact trivial|rfl|exact And.intro rfl (And.intro (congrArg I (by first|omega|(simp only[ay.cnt]at hps;omega))) trivial)|refine And.intro ?_ ?_)
  ·repeat'(first|refine gA ?_|fail)
   have he:i=x.length:=by omega
   subst he
   exact congrArg (fun z=>[I z]) (by rw[kv])
theorem AU (x:List aM) (k:Int) (hs:km x) (h0:0≤k) (h1:k+(dx x:Nat)≤1099511627776):ah Tryz.prog 302 false [.val none (b6 .imm (dJ x k)),.val none [I k]] .one [I (k+(dx x:Nat))]:=by
 have hl:x.length≤1048576:=hs.1
 have hln:=kH x k
 refine fO 31 [] Tryz.func302 rfl ?_
 repeat'(first|refine gO ?_|fail)
 (conv=>whnf)
 refine Lp.mk (ι:=Nat) (fun i=>[(0,.hold .one (b6 .imm (dJ x k))),(1,.hold .one [I (k+(db x i:Nat))]),(5,.hold .one [I (i:Nat)])]) (fun i=>i≤x.length) (fun i=>x.length - i) 0 ?_ (Nat.zero_le _) fun i hi=>?_
 ·rw[kM]
  repeat'(first|exact trivial|rfl|exact And.intro rfl (And.intro (congrArg I (by omega)) trivial)|refine And.intro ?_ ?_)
 ·by_cases hlt:i<x.length
  ·obtain⟨y,hy⟩ : ∃ y,x[i]? = some y:=⟨_,List.getElem?_eq_getElem hlt⟩
   have hm:=kE x k i y hy
   have hps:=kK x i y hy
   have hpl:=na x (i+1)
   rw[hps]at hpl
   simp only[aM.cnt]at hps hpl
   repeat'(first|refine gA ?_|(conv=>whnf);first|with_reducible refine Ix.nat (aa hm) ?_|refine Bf.N (fun h=>absurd rfl h) (fun h=>?_)|refine Nx.mk (i+1) (by omega) (by omega) ?_)
   repeat'(first|exact trivial|rfl|exact And.intro rfl (And.intro (congrArg I (by first|omega|(simp only[aM.cnt]at hps;omega))) trivial)|refine And.intro ?_ ?_)
  ·repeat'(first|refine gA ?_|fail)
   have he:i=x.length:=by omega
   subst he
   exact congrArg (fun z=>[I z]) (by rw[lT])
theorem xj (x:List (List aM)) (k:Int) (hs:iK x) (h0:0≤k) (h1:k+(cV x:Nat)≤1099511627776):ah Tryz.prog 228 false [.val none (dG .imm (dz x k)),.val none [I k]] .one [I (k+(cV x:Nat))]:=by
 have hl:x.length≤1048576:=hs.1
 have hln:=jH x k
 refine fO 21 [] Tryz.func228 rfl ?_
 repeat'(first|refine gO ?_|fail)
 (conv=>whnf)
 refine Lp.mk (ι:=Nat) (fun i=>[(0,.hold .one (dG .imm (dz x k))),(1,.hold .one [I (k+(ct x i:Nat))]),(5,.hold .one [I (i:Nat)])]) (fun i=>i≤x.length) (fun i=>x.length - i) 0 ?_ (Nat.zero_le _) fun i hi=>?_
 ·rw[js]
  repeat'(first|exact trivial|rfl|exact And.intro rfl (And.intro (congrArg I (by omega)) trivial)|refine And.intro ?_ ?_)
 ·by_cases hlt:i<x.length
  ·obtain⟨y,hy⟩ : ∃ y,x[i]? = some y:=⟨_,List.getElem?_eq_getElem hlt⟩
   have hm:=jp x k i y hy
   have hps:=jl x i y hy
   have hpl:=lB x (i+1)
   rw[hps]at hpl
   repeat'(first|refine gA ?_|(conv=>whnf);first|with_reducible refine Ix.nat (aa hm) ?_|refine Cl.mk (AU y _ (hs.2 y (List.mem_of_getElem? hy)) (by omega) (by omega)) ?_|refine Nx.mk (i+1) (by omega) (by omega) ?_)
   repeat'(first|exact trivial|rfl|exact And.intro rfl (And.intro (congrArg I (by omega)) trivial)|refine And.intro ?_ ?_)
  ·repeat'(first|refine gA ?_|fail)
   have he:i=x.length:=by omega
   subst he
   exact congrArg (fun z=>[I z]) (by rw[kT])
theorem Di (x:aK) (k:Int) (hs:aK.sml x) (h0:0≤k) (h1:k+(aK.cnt x:Nat)≤1099511627776):ah Tryz.prog 121 false [.val (some 2) (aK.enc .imm (x.mark k)),.val none [I k]] .one [I (k+(aK.cnt x:Nat))]:=by
 obtain⟨s0,s1⟩:=hs
 unfold aK.cnt at h1
 refine fO 18 [] Tryz.func121 rfl ?_
 repeat'(first|refine gA ?_|(conv=>whnf);first|refine Cl.mk (xj x.Buffers _ s0 (by omega) (by omega)) ?_|refine Cl.mk (mB x.Inbox _ s1 (by omega) (by omega)) ?_)
 exact congrArg (fun z=>[I z]) (by unfold aK.cnt;omega)
theorem xy (x:List aE) (k:Int) (hs:eO x) (h0:0≤k) (h1:k+(cU x:Nat)≤1099511627776):ah Tryz.prog 229 false [.val none (ce .imm (d9 x k)),.val none [I k]] .one [I (k+(cU x:Nat))]:=by
 have hl:x.length≤1048576:=hs.1
 have hln:=jh x k
 refine fO 40 [] Tryz.func229 rfl ?_
 repeat'(first|refine gO ?_|fail)
 (conv=>whnf)
 refine Lp.mk (ι:=Nat) (fun i=>[(0,.hold .one (ce .imm (d9 x k))),(1,.hold .one [I (k+(cy x i:Nat))]),(5,.hold .one [I (i:Nat)])]) (fun i=>i≤x.length) (fun i=>x.length - i) 0 ?_ (Nat.zero_le _) fun i hi=>?_
 ·rw[jF]
  repeat'(first|exact trivial|rfl|exact And.intro rfl (And.intro (congrArg I (by omega)) trivial)|refine And.intro ?_ ?_)
 ·by_cases hlt:i<x.length
  ·obtain⟨y,hy⟩ : ∃ y,x[i]? = some y:=⟨_,List.getElem?_eq_getElem hlt⟩
   have hm:=jE x k i y hy
   have hps:=jB x i y hy
   have hpl:=lS x (i+1)
   rw[hps]at hpl
   simp only[aE.cnt]at hps hpl
   repeat'(first|refine gA ?_|(conv=>whnf);first|with_reducible refine Ix.nat (aa hm) ?_|refine Bf.N (fun h=>absurd rfl h) (fun h=>?_)|refine Nx.mk (i+1) (by omega) (by omega) ?_)
   repeat'(first|exact trivial|rfl|exact And.intro rfl (And.intro (congrArg I (by first|omega|(simp only[aE.cnt]at hps;omega))) trivial)|refine And.intro ?_ ?_)
  ·repeat'(first|refine gA ?_|fail)
   have he:i=x.length:=by omega
   subst he
   exact congrArg (fun z=>[I z]) (by rw[kw])
theorem Eu (x:aQ) (k:Int) (hs:aQ.sml x) (h0:0≤k) (h1:k+(aQ.cnt x:Nat)≤1099511627776):ah Tryz.prog 122 false [.val (some 2) (aQ.enc .imm (x.mark k)),.val none [I k]] .one [I (k+(aQ.cnt x:Nat))]:=by
 have s0:=hs
 unfold aQ.cnt at h1
 refine fO 12 [] Tryz.func122 rfl ?_
 repeat'(first|refine gA ?_|(conv=>whnf);first|refine Cl.mk (xy x.Lst _ s0 (by omega) (by omega)) ?_)
 exact congrArg (fun z=>[I z]) (by unfold aQ.cnt;omega)
theorem D8 (x:aN) (k:Int) (hs:aN.sml x) (h0:0≤k) (h1:k+(aN.cnt x:Nat)≤1099511627776):ah Tryz.prog 230 false [.val (some 3) (aN.enc .imm (x.mark k)),.val none [I k]] .one [I (k+(aN.cnt x:Nat))]:=by
 have s0:=hs
 unfold aN.cnt at h1
 refine fO 12 [] Tryz.func230 rfl ?_
 repeat'(first|refine gA ?_|(conv=>whnf);first|refine Cl.mk (oe x.Cells _ s0 (by omega) (by omega)) ?_)
 exact congrArg (fun z=>[I z]) (by unfold aN.cnt;omega)
theorem FK (x:aZ) (k:Int) (hs:aZ.sml x) (h0:0≤k) (h1:k+(aZ.cnt x:Nat)≤1099511627776):ah Tryz.prog 123 false [.val (some 5) (aZ.enc .imm (x.mark k)),.val none [I k]] .one [I (k+(aZ.cnt x:Nat))]:=by
 have s0:=hs
 unfold aZ.cnt at h1
 refine fO 12 [] Tryz.func123 rfl ?_
 repeat'(first|refine gA ?_|(conv=>whnf);first|refine Cl.mk (D8 x.Plan _ s0 (by omega) (by omega)) ?_)
 exact congrArg (fun z=>[I z]) (by unfold aZ.cnt;omega)
theorem E3 (x:ac) (k:Int) (hs:ac.sml x) (h0:0≤k) (h1:k+(ac.cnt x:Nat)≤1099511627776):ah Tryz.prog 28 false [.val (some 24) (ac.enc .imm (x.mark k)),.val none [I k]] .one [I (k+(ac.cnt x:Nat))]:=by
 obtain⟨s0,s1,s2,s3,s4,s5,s6,s7,s8⟩:=hs
 unfold ac.cnt at h1
 refine fO 60 [] Tryz.func28 rfl ?_
 repeat'(first|refine gA ?_|(conv=>whnf);first|refine Cl.mk (x3 x.Kernel _ s0 (by omega) (by omega)) ?_|refine Cl.mk (xY x.Free _ s1 (by omega) (by omega)) ?_|refine Cl.mk (Ah x.Spans _ s2 (by omega) (by omega)) ?_|refine Cl.mk (xg x.Larges _ s3 (by omega) (by omega)) ?_|refine Cl.mk (BA x.Objs _ s4 (by omega) (by omega)) ?_|refine Cl.mk (xG x.Caches _ s5 (by omega) (by omega)) ?_|refine Cl.mk (Di x.Mail _ s6 (by omega) (by omega)) ?_|refine Cl.mk (Eu x.Quar _ s7 (by omega) (by omega)) ?_|refine Cl.mk (FK x.Job _ s8 (by omega) (by omega)) ?_)
 exact congrArg (fun z=>[I z]) (by unfold ac.cnt;omega)
end Go.Proofs.YtplcalfnngkffaaGreat.Ab
/- How data that came in reads, as trees of cells. No condition. -/
namespace Go.Proofs.YtplcalfnngkffaaGreat.Ab
open Go.RowKit Go.ChangeShapes Go.WideShapes Go.Deep
def ALL (w:World):ab:=fun b _=>b<w.heap.size
def n8 {H:Type} (e:TypeId × Value→H) (P:Program) (w:World) (t n:Nat) {α:Type} (enc:α→List C) (wf:α→Prop):Prop:=
 ∀ (fuel:Nat) (cs:List Value) (x:DataW H × List MemPlace),DataW.trod e P w 0 (fun _=>true) true fuel t cs=some x→cs.length=n∧∃ a,wf a∧(enc a).length=n∧co w (ALL w) NO (enc a) (fun j=>cs.getD j undef)
section
variable {H:Type} {e:TypeId × Value→H} {P:Program} {w:World}
theorem row_one {S F:ab} {c:C} {u:Nat→Value} (h:ez w S F c (u 0)):co w S F [c] u:=
 ⟨fun _=>F,fun j c' hj=>by cases j with
   | zero=>simp at hj;subst hj;exact h
   | succ j=>simp at hj,fun _ _ _ _ h=>h,fun j j' hj hj' hne=>by simp at hj hj';omega⟩
theorem Na {t:Nat} (ht:P.underlying t=some (.int .i64)):n8 e P w t 1 (rI .imm) iD:=by
 intro fuel cs x h
 obtain⟨n,rfl,-,hw⟩:=DataW.trod_int ht h
 refine⟨rfl,n,?_,rfl,row_one (.v _ _ rfl)⟩
 unfold iD
 simp only[Lit.wf,Bool.and_eq_true,decide_eq_true_eq]at hw
 exact hw
theorem Ma {t:Nat} (ht:P.underlying t=some .bool):n8 e P w t 1 (rB .imm) Pc:=by
 intro fuel cs x h
 obtain⟨b,rfl,-⟩:=DataW.trod_bool ht h
 exact⟨rfl,b,trivial,rfl,row_one (.v _ _ rfl)⟩
theorem pick {α β:Type} (n:Nat) {Q:Nat→β→Prop} (h:∀ i,i<n→∃ b,Q i b):∃ l:List β,l.length=n∧∀ i b,l[i]? = some b→Q i b:=by
 induction n with
 | zero=>exact⟨[],rfl,fun i b h=>by simp at h⟩
 | succ n ih=>
  obtain⟨l,h1,h2⟩:=ih fun i hi=>h i (by omega)
  obtain⟨b,hb⟩:=h n (by omega)
  refine⟨l++[b],by simp[h1],fun i b' hi=>?_⟩
  by_cases hl:i<n
  ·rw[List.getElem?_append_left (by omega)]at hi;exact h2 i b' hi
  ·rw[List.getElem?_append_right (by omega)]at hi
   have:i - l.length=0:=by
    have:=(List.getElem?_eq_some_iff.1 hi).1
    simp at this;omega
   rw[this]at hi
   simp at hi
   subst hi
   rw[show i=n by omega];exact hb
theorem fC {t el n:Nat} {α:Type} {enc:α→List C} {wf:α→Prop} (hel:n8 e P w el n enc wf) (ht:P.underlying t=some (.slice el)) (hn:P.cellsOf el=n) (hpos:0<n) :
  n8 e P w t 1 (fun xs:List α=>[.s .imm (xs.map enc)]) (fun xs=>xs.length≤9223372036854775807∧∀ y∈xs,wf y):=by
 intro fuel cs x h
 rcases open_slice ht h with⟨rfl,-⟩|⟨ad,len,cap,m,n',D,Pl,rfl,-,hl,hm,hmm,-,hi⟩
 ·exact⟨rfl,[],⟨by simp,by simp⟩,rfl,row_one (.nil _ _ _ trivial)⟩
 ·simp only[if_true]at hmm
  subst hmm
  have hsp:0<m→ad.spot=none:=fun hpm=>by
   obtain⟨cs',hc,htr⟩:=hi 0 hpm
   rw[hn]at hc
   obtain⟨_,hcl,hat⟩:=World.cells?_some hc
   have:=hat 0 hpos
   rw[List.getElem?_eq_getElem (by omega)]at this
   have:=World.cell?_spot this
   simpa[Addr.add] using this
  have key:∀ i,i<len→∃ a,wf a∧(enc a).length=n∧(∀ d,d<n→∃ z,cel w ad.block (ad.off+(i*n+d))=some z)∧ad.spot=none∧co w (ALL w) NO (enc a) (fun d=>(cel w ad.block (ad.off+(i*n+d))).getD undef):=fun i hil=>by
   have hspot:=hsp (by omega)
   obtain⟨cs',hc,htr⟩:=hi i (by omega)
   rw[hn]at hc
   obtain⟨h1,a,h3,h4,h5⟩:=hel _ _ _ htr
   obtain⟨_,hcl,hat⟩:=World.cells?_some hc
   have hadd:∀ d,ad.add d = ⟨ad.block,ad.off+d,none⟩:=fun d=>by
    obtain⟨b,o,sp⟩:=ad
    simp only at hspot
    subst hspot
    unfold Addr.add
    split<;>simp_all
   have hcell:∀ d,d<n→cel w ad.block (ad.off+(i*n+d))=cs'[d]?:=fun d hd=>by
    have:=hat d hd
    rw[Go.Deep.add_add,hadd]at this
    exact this
   refine⟨a,h3,h4,fun d hd=>⟨_,by rw[hcell d hd,List.getElem?_eq_getElem (by omega)]⟩,hspot,h5.congr fun d hd=>?_⟩
   show(cel w ad.block (ad.off+(i*n+d))).getD undef=cs'.getD d undef
   rw[hcell d (by omega),List.getD]
  obtain⟨l,hll,hlq⟩:=pick (α:=α) len key
  refine⟨rfl,l,⟨by simp only[maxLen]at hm;omega,fun y hy=>?_⟩,rfl,row_one ?_⟩
  ·obtain⟨i,hi'⟩:=List.mem_iff_getElem?.1 hy
   exact(hlq i y hi').1
  ·show ez w (ALL w) NO (.s .imm (l.map enc)) (.slice (some ad) len m)
   by_cases h0:len=0
   ·subst h0
    have:l=[]:=List.eq_nil_of_length_eq_zero hll
    subst this
    by_cases hc0:m=0
    ·subst hc0;exact .nil _ _ _ trivial
    ·have hspot:=hsp (by omega)
     obtain⟨b,o,sp⟩:=ad
     simp only at hspot
     subst hspot
     exact .imm _ b o n 0 m [] (fun _=>undef) rfl (fun r hr=>by simp at hr) hl (fun q hq=>by simp at hq) (fun i j r c hi=>by simp at hi)
   ·obtain⟨y0,hy0⟩ : ∃ y,l[0]? = some y:=⟨_,List.getElem?_eq_getElem (by omega)⟩
    have hspot:=(hlq 0 y0 hy0).2.2.2.1
    obtain⟨b,o,sp⟩:=ad
    simp only at hspot
    subst hspot
    refine .imm _ b o n len m (l.map enc) (fun q=>(cel w b (o+q)).getD undef) (by simpa using hll) (fun r hr=>?_) hl (fun q hq=>?_) (fun i j r c hi hj=>?_)
    ·obtain⟨y,hy,rfl⟩:=List.mem_map.1 hr
     obtain⟨i,hi'⟩:=List.mem_iff_getElem?.1 hy
     exact(hlq i y hi').2.1
    ·have hqd:q / n<len:=(Nat.div_lt_iff_lt_mul hpos).2 hq
     obtain⟨y,hy⟩ : ∃ y,l[q / n]? = some y:=⟨_,List.getElem?_eq_getElem (by omega)⟩
     obtain⟨z,hz⟩:=(hlq _ y hy).2.2.1 (q % n) (Nat.mod_lt _ hpos)
     have hd:q / n*n+q % n=q:=by rw[Nat.mul_comm];exact Nat.div_add_mod q n
     rw[hd]at hz
     exact⟨Nd hz,by simp only at hz ⊢;rw[hz];rfl⟩
    ·rw[List.getElem?_map]at hi
     cases hli:l[i]? with
     | none=>rw[hli]at hi;cases hi
     | some y=>
      rw[hli]at hi
      simp only[Option.map_some,Option.some.injEq]at hi
      subst hi
      obtain⟨f,h1,h2,-⟩:=(hlq i y hli).2.2.2.2
      have hjl:=(List.getElem?_eq_some_iff.1 hj).1
      exact(h1 j c hj).mono (fun _ _ h=>h) (h2 j hjl)
theorem bf {t:Nat} {fs:Array Field} {fuel:Nat} {cs:List Value} {x:DataW H × List MemPlace} (ht:P.underlying t=some (.struct fs)) (h:DataW.trod e P w 0 (fun _=>true) true fuel t cs=some x) (i:Nat) (f:Field) (hf:fs[i]? = some f)
  {n:Nat} {α:Type} {enc:α→List C} {wf:α→Prop} (ho:n8 e P w f.type n enc wf) (hn:P.cellsOf f.type=n):∃ a,wf a∧(enc a).length=n∧co w (ALL w) NO (enc a) (fun j=>cs.getD (f.offset+j) undef):=by
 obtain⟨ys,n',hn',hy,hlen,hyl,hfl⟩:=DataW.trod_struct ht h
 have h1:=hfl i f hf
 have hi:=(Array.getElem?_eq_some_iff.1 hf).1
 rw[List.getElem?_eq_getElem (by omega)]at h1
 rw[hn]at h1
 obtain⟨e1,a,e2,e3,e4⟩:=ho _ _ _ h1
 refine⟨a,e2,e3,e4.congr fun j hj=>?_⟩
 simp only[List.getD]
 rw[List.getElem?_take_of_lt (by omega),List.getElem?_drop]
theorem cw {cs:List Value} {c1 c2:List C} {o:Nat} (h1:co w (ALL w) NO c1 (fun j=>cs.getD (o+j) undef)) (h2:co w (ALL w) NO c2 (fun j=>cs.getD (o+c1.length+j) undef)):co w (ALL w) NO (c1++c2) (fun j=>cs.getD (o+j) undef):=by
 refine((wv h1 h2 fun _ _ h=>h.elim).mono (fun _ _ h=>h) (fun _ _ h=>h.elim id id)).congr fun j hj=>?_
 by_cases hl:j<c1.length
 ·rw[if_pos hl]
 ·rw[if_neg hl]
  show cs.getD (o+j) undef=cs.getD (o+c1.length+(j - c1.length)) undef
  congr 1;omega
theorem valOk_agg {S:ab} {cs:Array Value} {n:Nat} {xs:List C} (h1:cs.toList.length=n) (h2:xs.length=n) (h3:co w S NO xs (fun j=>cs.toList.getD j undef)):bv w S NO (some n) xs (.agg cs):=by
 refine⟨h2,_,?_,h3⟩
 have:=mW cs
 rw[show cs.size=n by simpa using h1]at this
 exact this
theorem row_val {S F:ab} {x:Value} {u:Nat→Value} (h:co w S F [.v x] u):u 0=x:=by
 obtain⟨f,h1,-⟩:=h
 have:=h1 0 _ rfl
 cases this
 rfl
end
end Go.Proofs.YtplcalfnngkffaaGreat.Ab
/- How the laws' types read. Printed by gen_op.py. No condition. -/
namespace Go.Proofs.YtplcalfnngkffaaGreat.Ab
open Go.RowKit
set_option maxRecDepth 20000
set_option maxHeartbeats 1000000
section
variable {H:Type} {e:TypeId × Value→H} {w:World}
theorem dn:n8 e Tryz.prog w 3 1 (rI .imm) iD:=Na Tryz.underlying3
theorem G4:n8 e Tryz.prog w 4 1 (rB .imm) Pc:=Ma Tryz.underlying4
theorem AK:n8 e Tryz.prog w 33 1 (aI .imm) eX:=fC dn Tryz.underlying33 (by kernel_rfl) (by decide)
theorem wS:n8 e Tryz.prog w 24 1 (ed .imm) qS:=fC AK Tryz.underlying24 (by kernel_rfl) (by decide)
theorem Lh:n8 e Tryz.prog w 25 1 (fu .imm) zF:=fC G4 Tryz.underlying25 (by kernel_rfl) (by decide)
theorem EO:n8 e Tryz.prog w 77 2 (aD.enc .imm) aD.wf:=by
 intro fuel cs x h
 obtain⟨ys,n',-,-,hlen,-⟩:=DataW.trod_struct Tryz.underlying77 h
 obtain⟨a0,w0,l0,r0⟩:=bf Tryz.underlying77 h 0 _ rfl wS (by kernel_rfl)
 obtain⟨a1,w1,l1,r1⟩:=bf Tryz.underlying77 h 1 _ rfl Lh (by kernel_rfl)
 have hrow:=(cw r0 r1)
 exact⟨hlen.trans (by kernel_rfl),⟨a0,a1⟩,⟨w0,w1⟩,rfl,hrow.congr fun j _=>by show cs.getD j undef=cs.getD (0+j) undef;rw[Nat.zero_add]⟩
theorem HX:n8 e Tryz.prog w 410 2 (aG.enc .imm) aG.wf:=by
 intro fuel cs x h
 obtain⟨ys,n',-,-,hlen,-⟩:=DataW.trod_struct Tryz.underlying410 h
 obtain⟨a0,w0,l0,r0⟩:=bf Tryz.underlying410 h 0 _ rfl dn (by kernel_rfl)
 obtain⟨a1,w1,l1,r1⟩:=bf Tryz.underlying410 h 1 _ rfl dn (by kernel_rfl)
 have hrow:=(cw r0 r1)
 exact⟨hlen.trans (by kernel_rfl),⟨a0,a1⟩,⟨w0,w1⟩,rfl,hrow.congr fun j _=>by show cs.getD j undef=cs.getD (0+j) undef;rw[Nat.zero_add]⟩
theorem FG:n8 e Tryz.prog w 78 1 (ef .imm) sI:=fC HX Tryz.underlying78 (by kernel_rfl) (by decide)
theorem Hy:n8 e Tryz.prog w 80 1 (aB.enc .imm) aB.wf:=by
 intro fuel cs x h
 obtain⟨ys,n',-,-,hlen,-⟩:=DataW.trod_struct Tryz.underlying80 h
 obtain⟨a0,w0,l0,r0⟩:=bf Tryz.underlying80 h 0 _ rfl FG (by kernel_rfl)
 have hrow:=r0
 exact⟨hlen.trans (by kernel_rfl),⟨a0⟩,w0,rfl,hrow.congr fun j _=>by show cs.getD j undef=cs.getD (0+j) undef;rw[Nat.zero_add]⟩
theorem Dg:n8 e Tryz.prog w 82 3 (aA.enc .imm) aA.wf:=by
 intro fuel cs x h
 obtain⟨ys,n',-,-,hlen,-⟩:=DataW.trod_struct Tryz.underlying82 h
 obtain⟨a0,w0,l0,r0⟩:=bf Tryz.underlying82 h 0 _ rfl EO (by kernel_rfl)
 obtain⟨a1,w1,l1,r1⟩:=bf Tryz.underlying82 h 1 _ rfl Hy (by kernel_rfl)
 have hrow:=(cw r0 r1)
 exact⟨hlen.trans (by kernel_rfl),⟨a0,a1⟩,⟨w0,w1⟩,rfl,hrow.congr fun j _=>by show cs.getD j undef=cs.getD (0+j) undef;rw[Nat.zero_add]⟩
theorem Ft:n8 e Tryz.prog w 84 5 (af.enc .imm) af.wf:=by
 intro fuel cs x h
 obtain⟨ys,n',-,-,hlen,-⟩:=DataW.trod_struct Tryz.underlying84 h
 obtain⟨a0,w0,l0,r0⟩:=bf Tryz.underlying84 h 0 _ rfl Dg (by kernel_rfl)
 obtain⟨a1,w1,l1,r1⟩:=bf Tryz.underlying84 h 1 _ rfl dn (by kernel_rfl)
 obtain⟨a2,w2,l2,r2⟩:=bf Tryz.underlying84 h 2 _ rfl AK (by kernel_rfl)
 have hrow:=(cw r0 (cw r1 r2))
 exact⟨hlen.trans (by kernel_rfl),⟨a0,a1,a2⟩,⟨w0,w1,w2⟩,rfl,hrow.congr fun j _=>by show cs.getD j undef=cs.getD (0+j) undef;rw[Nat.zero_add]⟩
theorem H0:n8 e Tryz.prog w 255 2 (ar.enc .imm) ar.wf:=by
 intro fuel cs x h
 obtain⟨ys,n',-,-,hlen,-⟩:=DataW.trod_struct Tryz.underlying255 h
 obtain⟨a0,w0,l0,r0⟩:=bf Tryz.underlying255 h 0 _ rfl dn (by kernel_rfl)
 obtain⟨a1,w1,l1,r1⟩:=bf Tryz.underlying255 h 1 _ rfl dn (by kernel_rfl)
 have hrow:=(cw r0 r1)
 exact⟨hlen.trans (by kernel_rfl),⟨a0,a1⟩,⟨w0,w1⟩,rfl,hrow.congr fun j _=>by show cs.getD j undef=cs.getD (0+j) undef;rw[Nat.zero_add]⟩
theorem F5:n8 e Tryz.prog w 85 1 (bg .imm) sU:=fC H0 Tryz.underlying85 (by kernel_rfl) (by decide)
theorem JJ:n8 e Tryz.prog w 257 3 (am.enc .imm) am.wf:=by
 intro fuel cs x h
 obtain⟨ys,n',-,-,hlen,-⟩:=DataW.trod_struct Tryz.underlying257 h
 obtain⟨a0,w0,l0,r0⟩:=bf Tryz.underlying257 h 0 _ rfl dn (by kernel_rfl)
 obtain⟨a1,w1,l1,r1⟩:=bf Tryz.underlying257 h 1 _ rfl dn (by kernel_rfl)
 obtain⟨a2,w2,l2,r2⟩:=bf Tryz.underlying257 h 2 _ rfl dn (by kernel_rfl)
 have hrow:=(cw r0 (cw r1 r2))
 exact⟨hlen.trans (by kernel_rfl),⟨a0,a1,a2⟩,⟨w0,w1,w2⟩,rfl,hrow.congr fun j _=>by show cs.getD j undef=cs.getD (0+j) undef;rw[Nat.zero_add]⟩
theorem Jb:n8 e Tryz.prog w 86 1 (bm .imm) vt:=fC JJ Tryz.underlying86 (by kernel_rfl) (by decide)
theorem Ju:n8 e Tryz.prog w 259 3 (au.enc .imm) au.wf:=by
 intro fuel cs x h
 obtain⟨ys,n',-,-,hlen,-⟩:=DataW.trod_struct Tryz.underlying259 h
 obtain⟨a0,w0,l0,r0⟩:=bf Tryz.underlying259 h 0 _ rfl dn (by kernel_rfl)
 obtain⟨a1,w1,l1,r1⟩:=bf Tryz.underlying259 h 1 _ rfl dn (by kernel_rfl)
 obtain⟨a2,w2,l2,r2⟩:=bf Tryz.underlying259 h 2 _ rfl dn (by kernel_rfl)
 have hrow:=(cw r0 (cw r1 r2))
 exact⟨hlen.trans (by kernel_rfl),⟨a0,a1,a2⟩,⟨w0,w1,w2⟩,rfl,hrow.congr fun j _=>by show cs.getD j undef=cs.getD (0+j) undef;rw[Nat.zero_add]⟩
theorem EB:n8 e Tryz.prog w 87 1 (bn .imm) rU:=fC Ju Tryz.underlying87 (by kernel_rfl) (by decide)
theorem LJ:n8 e Tryz.prog w 261 4 (aX.enc .imm) aX.wf:=by
 intro fuel cs x h
 obtain⟨ys,n',-,-,hlen,-⟩:=DataW.trod_struct Tryz.underlying261 h
 obtain⟨a0,w0,l0,r0⟩:=bf Tryz.underlying261 h 0 _ rfl dn (by kernel_rfl)
 obtain⟨a1,w1,l1,r1⟩:=bf Tryz.underlying261 h 1 _ rfl dn (by kernel_rfl)
 obtain⟨a2,w2,l2,r2⟩:=bf Tryz.underlying261 h 2 _ rfl dn (by kernel_rfl)
 obtain⟨a3,w3,l3,r3⟩:=bf Tryz.underlying261 h 3 _ rfl dn (by kernel_rfl)
 have hrow:=(cw r0 (cw r1 (cw r2 r3)))
 exact⟨hlen.trans (by kernel_rfl),⟨a0,a1,a2,a3⟩,⟨w0,w1,w2,w3⟩,rfl,hrow.congr fun j _=>by show cs.getD j undef=cs.getD (0+j) undef;rw[Nat.zero_add]⟩
theorem JD:n8 e Tryz.prog w 88 1 (eD .imm) AY:=fC LJ Tryz.underlying88 (by kernel_rfl) (by decide)
theorem HW:n8 e Tryz.prog w 248 1 (ay.enc .imm) ay.wf:=by
 intro fuel cs x h
 obtain⟨ys,n',-,-,hlen,-⟩:=DataW.trod_struct Tryz.underlying248 h
 obtain⟨a0,w0,l0,r0⟩:=bf Tryz.underlying248 h 0 _ rfl wS (by kernel_rfl)
 have hrow:=r0
 exact⟨hlen.trans (by kernel_rfl),⟨a0⟩,w0,rfl,hrow.congr fun j _=>by show cs.getD j undef=cs.getD (0+j) undef;rw[Nat.zero_add]⟩
theorem FH:n8 e Tryz.prog w 89 1 (dh .imm) sK:=fC HW Tryz.underlying89 (by kernel_rfl) (by decide)
theorem JQ:n8 e Tryz.prog w 373 2 (aM.enc .imm) aM.wf:=by
 intro fuel cs x h
 obtain⟨ys,n',-,-,hlen,-⟩:=DataW.trod_struct Tryz.underlying373 h
 obtain⟨a0,w0,l0,r0⟩:=bf Tryz.underlying373 h 0 _ rfl dn (by kernel_rfl)
 obtain⟨a1,w1,l1,r1⟩:=bf Tryz.underlying373 h 1 _ rfl dn (by kernel_rfl)
 have hrow:=(cw r0 r1)
 exact⟨hlen.trans (by kernel_rfl),⟨a0,a1⟩,⟨w0,w1⟩,rfl,hrow.congr fun j _=>by show cs.getD j undef=cs.getD (0+j) undef;rw[Nat.zero_add]⟩
theorem H2:n8 e Tryz.prog w 313 1 (b6 .imm) wl:=fC JQ Tryz.underlying313 (by kernel_rfl) (by decide)
theorem EY:n8 e Tryz.prog w 90 1 (dG .imm) sX:=fC H2 Tryz.underlying90 (by kernel_rfl) (by decide)
theorem JT:n8 e Tryz.prog w 92 2 (aK.enc .imm) aK.wf:=by
 intro fuel cs x h
 obtain⟨ys,n',-,-,hlen,-⟩:=DataW.trod_struct Tryz.underlying92 h
 obtain⟨a0,w0,l0,r0⟩:=bf Tryz.underlying92 h 0 _ rfl EY (by kernel_rfl)
 obtain⟨a1,w1,l1,r1⟩:=bf Tryz.underlying92 h 1 _ rfl wS (by kernel_rfl)
 have hrow:=(cw r0 r1)
 exact⟨hlen.trans (by kernel_rfl),⟨a0,a1⟩,⟨w0,w1⟩,rfl,hrow.congr fun j _=>by show cs.getD j undef=cs.getD (0+j) undef;rw[Nat.zero_add]⟩
theorem Hl:n8 e Tryz.prog w 321 3 (aE.enc .imm) aE.wf:=by
 intro fuel cs x h
 obtain⟨ys,n',-,-,hlen,-⟩:=DataW.trod_struct Tryz.underlying321 h
 obtain⟨a0,w0,l0,r0⟩:=bf Tryz.underlying321 h 0 _ rfl dn (by kernel_rfl)
 obtain⟨a1,w1,l1,r1⟩:=bf Tryz.underlying321 h 1 _ rfl dn (by kernel_rfl)
 obtain⟨a2,w2,l2,r2⟩:=bf Tryz.underlying321 h 2 _ rfl dn (by kernel_rfl)
 have hrow:=(cw r0 (cw r1 r2))
 exact⟨hlen.trans (by kernel_rfl),⟨a0,a1,a2⟩,⟨w0,w1,w2⟩,rfl,hrow.congr fun j _=>by show cs.getD j undef=cs.getD (0+j) undef;rw[Nat.zero_add]⟩
theorem Fa:n8 e Tryz.prog w 93 1 (ce .imm) sx:=fC Hl Tryz.underlying93 (by kernel_rfl) (by decide)
theorem Kb:n8 e Tryz.prog w 95 2 (aQ.enc .imm) aQ.wf:=by
 intro fuel cs x h
 obtain⟨ys,n',-,-,hlen,-⟩:=DataW.trod_struct Tryz.underlying95 h
 obtain⟨a0,w0,l0,r0⟩:=bf Tryz.underlying95 h 0 _ rfl dn (by kernel_rfl)
 obtain⟨a1,w1,l1,r1⟩:=bf Tryz.underlying95 h 1 _ rfl Fa (by kernel_rfl)
 have hrow:=(cw r0 r1)
 exact⟨hlen.trans (by kernel_rfl),⟨a0,a1⟩,⟨w0,w1⟩,rfl,hrow.congr fun j _=>by show cs.getD j undef=cs.getD (0+j) undef;rw[Nat.zero_add]⟩
theorem J2:n8 e Tryz.prog w 96 3 (aN.enc .imm) aN.wf:=by
 intro fuel cs x h
 obtain⟨ys,n',-,-,hlen,-⟩:=DataW.trod_struct Tryz.underlying96 h
 obtain⟨a0,w0,l0,r0⟩:=bf Tryz.underlying96 h 0 _ rfl dn (by kernel_rfl)
 obtain⟨a1,w1,l1,r1⟩:=bf Tryz.underlying96 h 1 _ rfl dn (by kernel_rfl)
 obtain⟨a2,w2,l2,r2⟩:=bf Tryz.underlying96 h 2 _ rfl AK (by kernel_rfl)
 have hrow:=(cw r0 (cw r1 r2))
 exact⟨hlen.trans (by kernel_rfl),⟨a0,a1,a2⟩,⟨w0,w1,w2⟩,rfl,hrow.congr fun j _=>by show cs.getD j undef=cs.getD (0+j) undef;rw[Nat.zero_add]⟩
theorem LV:n8 e Tryz.prog w 98 5 (aZ.enc .imm) aZ.wf:=by
 intro fuel cs x h
 obtain⟨ys,n',-,-,hlen,-⟩:=DataW.trod_struct Tryz.underlying98 h
 obtain⟨a0,w0,l0,r0⟩:=bf Tryz.underlying98 h 0 _ rfl J2 (by kernel_rfl)
 obtain⟨a1,w1,l1,r1⟩:=bf Tryz.underlying98 h 1 _ rfl dn (by kernel_rfl)
 obtain⟨a2,w2,l2,r2⟩:=bf Tryz.underlying98 h 2 _ rfl dn (by kernel_rfl)
 have hrow:=(cw r0 (cw r1 r2))
 exact⟨hlen.trans (by kernel_rfl),⟨a0,a1,a2⟩,⟨w0,w1,w2⟩,rfl,hrow.congr fun j _=>by show cs.getD j undef=cs.getD (0+j) undef;rw[Nat.zero_add]⟩
theorem op_DHeap:n8 e Tryz.prog w 100 24 (ac.enc .imm) ac.wf:=by
 intro fuel cs x h
 obtain⟨ys,n',-,-,hlen,-⟩:=DataW.trod_struct Tryz.underlying100 h
 obtain⟨a0,w0,l0,r0⟩:=bf Tryz.underlying100 h 0 _ rfl Ft (by kernel_rfl)
 obtain⟨a1,w1,l1,r1⟩:=bf Tryz.underlying100 h 1 _ rfl F5 (by kernel_rfl)
 obtain⟨a2,w2,l2,r2⟩:=bf Tryz.underlying100 h 2 _ rfl Jb (by kernel_rfl)
 obtain⟨a3,w3,l3,r3⟩:=bf Tryz.underlying100 h 3 _ rfl EB (by kernel_rfl)
 obtain⟨a4,w4,l4,r4⟩:=bf Tryz.underlying100 h 4 _ rfl JD (by kernel_rfl)
 obtain⟨a5,w5,l5,r5⟩:=bf Tryz.underlying100 h 5 _ rfl FH (by kernel_rfl)
 obtain⟨a6,w6,l6,r6⟩:=bf Tryz.underlying100 h 6 _ rfl JT (by kernel_rfl)
 obtain⟨a7,w7,l7,r7⟩:=bf Tryz.underlying100 h 7 _ rfl Kb (by kernel_rfl)
 obtain⟨a8,w8,l8,r8⟩:=bf Tryz.underlying100 h 8 _ rfl dn (by kernel_rfl)
 obtain⟨a9,w9,l9,r9⟩:=bf Tryz.underlying100 h 9 _ rfl dn (by kernel_rfl)
 obtain⟨a10,w10,l10,r10⟩:=bf Tryz.underlying100 h 10 _ rfl dn (by kernel_rfl)
 obtain⟨a11,w11,l11,r11⟩:=bf Tryz.underlying100 h 11 _ rfl dn (by kernel_rfl)
 obtain⟨a12,w12,l12,r12⟩:=bf Tryz.underlying100 h 12 _ rfl G4 (by kernel_rfl)
 obtain⟨a13,w13,l13,r13⟩:=bf Tryz.underlying100 h 13 _ rfl LV (by kernel_rfl)
 have hrow:=(cw r0 (cw r1 (cw r2 (cw r3 (cw r4 (cw r5 (cw r6 (cw r7 (cw r8 (cw r9 (cw r10 (cw r11 (cw r12 r13)))))))))))))
 exact⟨hlen.trans (by kernel_rfl),⟨a0,a1,a2,a3,a4,a5,a6,a7,a8,a9,a10,a11,a12,a13⟩,⟨w0,w1,w2,w3,w4,w5,w6,w7,w8,w9,w10,w11,w12,w13⟩,rfl,hrow.congr fun j _=>by show cs.getD j undef=cs.getD (0+j) undef;rw[Nat.zero_add]⟩
end
end Go.Proofs.YtplcalfnngkffaaGreat.Ab
