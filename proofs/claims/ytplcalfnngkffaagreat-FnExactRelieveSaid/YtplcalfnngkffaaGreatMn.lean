/- Contracts of the laws' generic functions (mark). Printed by gen_con.py. No condition. -/
import Derived.Test.YtplcalfnngkffaaGreatMg
import Derived.Test.YtplcalfnngkffaaGreatMj
import Derived.Test.YtplcalfnngkffaaGreatMk
set_option linter.unusedVariables false

namespace Go.Proofs.YtplcalfnngkffaaGreat.Ab
open Go.RowKit
set_option maxRecDepth 20000
set_option maxHeartbeats 2000000
theorem oG (x:List Int) (k:Int) (hs:iR x) (h0:0≤k) (h1:k+(dU x:Nat)≤1099511627776):aV Tryz.prog 220 false [.mut none (aI .own x),.val none [I k]] [.mut none (aI .own (markIntS x k)),.val none []] .one [I (k+(dU x:Nat))]:=by
 have hl:x.length≤1048576:=hs
 unfold dU at h1
 have hml:((markIntS x k).map (rI .own)).length=(x.map (rI .own)).length:=by simp[mO]
 refine fM 19 [] [] [(0,0),(0,0)] Tryz.func220 rfl (fun u p=>?_)
 repeat'(first|refine gO ?_|fail)
 (conv=>whnf)
 refine Lp.mk (ι:=Nat) (fun i=>[(0,.hold .one [.s (.tag (u 0 0)) (gp ((markIntS x k).map (rI .own)) (x.map (rI .own)) i)]),(1,.hold .one [I (k+(iP x i:Nat))]),(5,.hold .one [I (i:Nat)])]) (fun i=>i≤x.length) (fun i=>x.length - i) 0 ?_ (Nat.zero_le _) fun i hi=>?_
 ·rw[cj]
  repeat'(first|exact trivial|rfl|exact And.intro rfl (And.intro (congrArg I (by unfold iP;omega)) trivial)|refine And.intro ?_ ?_)
 ·have hlen:=(gQ hml i).trans (show(x.map (rI .own)).length=x.length by simp)
  by_cases hlt:i<x.length
  ·obtain⟨y,hy⟩ : ∃ y,x[i]? = some y:=⟨_,List.getElem?_eq_getElem hlt⟩
   have hr:=dm hml i (by simp;omega)
   rw[aa hy]at hr
   have hm:=m8 x k i hlt
   unfold iP
   repeat'(first|refine gD ?_|(conv=>whnf);first|with_reducible (first|refine Ln.mk hlen ?_|refine Ix.nat hr ?_)|refine Pu.one rfl rfl hr rfl (Nat.le_refl _) rfl ?_|refine Cd.mk (by decide) ?_|refine Ev.mk rfl ?_|refine Ix.nat (br hr) ?_|refine Nx.mk (i+1) (by omega) (by omega) ?_)
   repeat'(first|exact trivial|rfl|exact And.intro rfl (And.intro (congrArg (C.s _) (by first|exact bE hml (aa hm)|(simp only[List.set_set];exact bE hml (aa hm)))) trivial)|exact And.intro rfl (And.intro (congrArg I (by first|omega|(unfold iP;omega))) trivial)|refine And.intro ?_ ?_)
  ·repeat'(first|refine gD ?_|(conv=>whnf);first|with_reducible refine Ln.mk hlen ?_|refine bK.mk rfl ?_ ?_)
   ·have he:i=x.length:=by omega
    subst he
    exact congrArg (fun z=>[I z]) (by unfold iP dU;rfl)
   ·rw[dk _ hml (by simp;omega)]
    repeat'(first|exact trivial|exact rfl|refine And.intro ?_ ?_)
theorem mY (x:List (List Int)) (k:Int) (hs:iV x) (h0:0≤k) (h1:k+(dv x:Nat)≤1099511627776):aV Tryz.prog 221 false [.mut none (ed .own x),.val none [I k]] [.mut none (ed .own (markIntSS x k)),.val none []] .one [I (k+(dv x:Nat))]:=by
 have hl:x.length≤1048576:=hs.1
 have hml:((markIntSS x k).map (aI .own)).length=(x.map (aI .own)).length:=by simp[lH]
 refine fM 19 [(220,[1,0])] [] [(0,0),(0,0)] Tryz.func221 rfl (fun u p=>?_)
 repeat'(first|refine gO ?_|fail)
 (conv=>whnf)
 refine Lp.mk (ι:=Nat) (fun i=>[(0,.hold .one [.s (.tag (u 0 0)) (gp ((markIntSS x k).map (aI .own)) (x.map (aI .own)) i)]),(1,.hold .one [I (k+(dP x i:Nat))]),(5,.hold .one [I (i:Nat)])]) (fun i=>i≤x.length) (fun i=>x.length - i) 0 ?_ (Nat.zero_le _) fun i hi=>?_
 ·rw[cj,lA]
  repeat'(first|exact trivial|rfl|exact And.intro rfl (And.intro (congrArg I (by omega)) trivial)|refine And.intro ?_ ?_)
 ·have hlen:=(gQ hml i).trans (show(x.map (aI .own)).length=x.length by simp)
  by_cases hlt:i<x.length
  ·obtain⟨y,hy⟩ : ∃ y,x[i]? = some y:=⟨_,List.getElem?_eq_getElem hlt⟩
   have hr:=dm hml i (by simp;omega)
   rw[aa hy]at hr
   have hm:=lU x k i y hy
   have hps:=lL x i y hy
   have hpl:=n9 x (i+1)
   rw[hps]at hpl
   repeat'(first|refine gD ?_|(conv=>whnf);first|with_reducible (first|refine Ln.mk hlen ?_|refine Ix.nat hr ?_)|refine Rw.one rfl hr rfl ?_|refine Lq.one rfl rfl hr rfl (Nat.le_refl _) rfl rfl ?_|refine er.mk (oG y _ (hs.2 y (List.mem_of_getElem? hy)) (by omega) (by omega)) (.inl rfl) ?_|refine Pu.one rfl rfl (br hr) rfl (Nat.le_refl _) rfl ?_|refine Ix.nat (br hr) ?_|refine Nx.mk (i+1) (by omega) (by omega) ?_)
   repeat'(first|exact trivial|rfl|exact And.intro rfl (And.intro (congrArg (C.s _) (by first|exact bE hml (aa hm)|(simp only[List.set_set];exact bE hml (aa hm)))) trivial)|exact And.intro rfl (And.intro (congrArg I (by omega)) trivial)|refine And.intro ?_ ?_)
  ·repeat'(first|refine gD ?_|(conv=>whnf);first|with_reducible refine Ln.mk hlen ?_|refine bK.mk rfl ?_ ?_)
   ·have he:i=x.length:=by omega
    subst he
    exact congrArg (fun z=>[I z]) (by rw[mN])
   ·rw[dk _ hml (by simp;omega)]
    repeat'(first|exact trivial|exact rfl|refine And.intro ?_ ?_)
theorem Ao (x:List Bool) (k:Int) (hs:lZ x) (h0:0≤k) (h1:k+(fE x:Nat)≤1099511627776):aV Tryz.prog 367 false [.mut none (fu .own x),.val none [I k]] [.mut none (fu .own (markBoolS x k)),.val none []] .one [I (k+(fE x:Nat))]:=by
 have hl:x.length≤1048576:=hs
 unfold fE at h1
 have hml:((markBoolS x k).map (rB .own)).length=(x.map (rB .own)).length:=by simp[lF]
 refine fM 21 [] [] [(0,0),(0,0)] Tryz.func367 rfl (fun u p=>?_)
 repeat'(first|refine gO ?_|fail)
 (conv=>whnf)
 refine Lp.mk (ι:=Nat) (fun i=>[(0,.hold .one [.s (.tag (u 0 0)) (gp ((markBoolS x k).map (rB .own)) (x.map (rB .own)) i)]),(1,.hold .one [I (k+(gK x i:Nat))]),(5,.hold .one [I (i:Nat)])]) (fun i=>i≤x.length) (fun i=>x.length - i) 0 ?_ (Nat.zero_le _) fun i hi=>?_
 ·rw[cj]
  repeat'(first|exact trivial|rfl|exact And.intro rfl (And.intro (congrArg I (by unfold gK;omega)) trivial)|refine And.intro ?_ ?_)
 ·have hlen:=(gQ hml i).trans (show(x.map (rB .own)).length=x.length by simp)
  by_cases hlt:i<x.length
  ·obtain⟨y,hy⟩ : ∃ y,x[i]? = some y:=⟨_,List.getElem?_eq_getElem hlt⟩
   have hr:=dm hml i (by simp;omega)
   rw[aa hy]at hr
   have hm:=lJ x k i hlt
   unfold gK
   repeat'(first|refine gD ?_|(conv=>whnf);first|with_reducible (first|refine Ln.mk hlen ?_|refine Ix.nat hr ?_)|refine Pu.one rfl rfl hr rfl (Nat.le_refl _) rfl ?_|refine Cd.mk (by decide) ?_|refine Ev.mk rfl ?_|refine Ix.nat (br hr) ?_|refine Nx.mk (i+1) (by omega) (by omega) ?_)
   repeat'(first|exact trivial|rfl|exact And.intro rfl (And.intro (congrArg (C.s _) (by first|exact bE hml (aa hm)|(simp only[List.set_set];exact bE hml (aa hm)))) trivial)|exact And.intro rfl (And.intro (congrArg I (by first|omega|(unfold gK;omega))) trivial)|refine And.intro ?_ ?_)
  ·repeat'(first|refine gD ?_|(conv=>whnf);first|with_reducible refine Ln.mk hlen ?_|refine bK.mk rfl ?_ ?_)
   ·have he:i=x.length:=by omega
    subst he
    exact congrArg (fun z=>[I z]) (by unfold gK fE;rfl)
   ·rw[dk _ hml (by simp;omega)]
    repeat'(first|exact trivial|exact rfl|refine And.intro ?_ ?_)
theorem yh (x:aD) (k:Int) (hs:aD.sml x) (h0:0≤k) (h1:k+(aD.cnt x:Nat)≤1099511627776):aV Tryz.prog 297 false [.mut (some 2) (aD.enc .own x),.val none [I k]] [.mut (some 2) (aD.enc .own (x.mark k)),.val none []] .one [I (k+(aD.cnt x:Nat))]:=by
 obtain⟨s0,s1⟩:=hs
 unfold aD.cnt at h1
 refine fM 14 [(221,[1,0]),(367,[1,0])] [] [(2,0),(0,0)] Tryz.func297 rfl (fun u p=>?_)
 repeat'(first|refine gO ?_|(conv=>whnf);first|refine er.mk (mY x.Cells _ s0 (by omega) (by omega)) (.inl rfl) ?_|refine er.mk (Ao x.Used _ s1 (by omega) (by omega)) (.inl rfl) ?_|refine bK.mk rfl ?_ ?_)
 ·exact congrArg (fun z=>[I z]) (by unfold aD.cnt;omega)
 ·repeat'(first|exact trivial|exact rfl|refine And.intro ?_ ?_)
theorem yc (x:List aG) (k:Int) (hs:iN x) (h0:0≤k) (h1:k+(cX x:Nat)≤1099511627776):aV Tryz.prog 368 false [.mut none (ef .own x),.val none [I k]] [.mut none (ef .own (dA x k)),.val none []] .one [I (k+(cX x:Nat))]:=by
 have hl:x.length≤1048576:=hs.1
 have hml:((dA x k).map (aG.enc .own)).length=(x.map (aG.enc .own)).length:=by simp[jx]
 refine fM 27 [] [] [(0,0),(0,0)] Tryz.func368 rfl (fun u p=>?_)
 repeat'(first|refine gO ?_|fail)
 (conv=>whnf)
 refine Lp.mk (ι:=Nat) (fun i=>[(0,.hold .one [.s (.tag (u 0 0)) (gp ((dA x k).map (aG.enc .own)) (x.map (aG.enc .own)) i)]),(1,.hold .one [I (k+(cx x i:Nat))]),(5,.hold .one [I (i:Nat)])]) (fun i=>i≤x.length) (fun i=>x.length - i) 0 ?_ (Nat.zero_le _) fun i hi=>?_
 ·rw[cj,jA]
  repeat'(first|exact trivial|rfl|exact And.intro rfl (And.intro (congrArg I (by omega)) trivial)|refine And.intro ?_ ?_)
 ·have hlen:=(gQ hml i).trans (show(x.map (aG.enc .own)).length=x.length by simp)
  by_cases hlt:i<x.length
  ·obtain⟨y,hy⟩ : ∃ y,x[i]? = some y:=⟨_,List.getElem?_eq_getElem hlt⟩
   have hr:=dm hml i (by simp;omega)
   rw[aa hy]at hr
   have hm:=jC x k i y hy
   have hps:=jk x i y hy
   have hpl:=lD x (i+1)
   rw[hps]at hpl
   simp only[aG.cnt]at hps hpl
   repeat'(first|refine gD ?_|(conv=>whnf);first|with_reducible (first|refine Ln.mk hlen ?_|refine Ix.nat hr ?_)|refine Pu.one rfl rfl hr rfl (Nat.le_of_ble_eq_true rfl) rfl ?_|refine Pu.one rfl rfl (br hr) rfl (Nat.le_of_ble_eq_true rfl) rfl ?_|refine Ix.nat (br hr) ?_|refine Nx.mk (i+1) (by omega) (by omega) ?_)
   repeat'(first|exact trivial|rfl|exact And.intro rfl (And.intro (congrArg (C.s _) (by first|exact bE hml (aa hm)|(simp only[List.set_set];exact bE hml (aa hm)))) trivial)|exact And.intro rfl (And.intro (congrArg I (by first|omega|(simp only[aG.cnt]at hps;omega))) trivial)|refine And.intro ?_ ?_)
  ·repeat'(first|refine gD ?_|(conv=>whnf);first|with_reducible refine Ln.mk hlen ?_|refine bK.mk rfl ?_ ?_)
   ·have he:i=x.length:=by omega
    subst he
    exact congrArg (fun z=>[I z]) (by rw[ky])
   ·rw[dk _ hml (by simp;omega)]
    repeat'(first|exact trivial|exact rfl|refine And.intro ?_ ?_)
theorem Az (x:aB) (k:Int) (hs:aB.sml x) (h0:0≤k) (h1:k+(aB.cnt x:Nat)≤1099511627776):aV Tryz.prog 298 false [.mut (some 1) (aB.enc .own x),.val none [I k]] [.mut (some 1) (aB.enc .own (x.mark k)),.val none []] .one [I (k+(aB.cnt x:Nat))]:=by
 have s0:=hs
 unfold aB.cnt at h1
 refine fM 10 [(368,[1,0])] [] [(2,0),(0,0)] Tryz.func298 rfl (fun u p=>?_)
 repeat'(first|refine gO ?_|(conv=>whnf);first|refine er.mk (yc x.Entries _ s0 (by omega) (by omega)) (.inl rfl) ?_|refine bK.mk rfl ?_ ?_)
 ·exact congrArg (fun z=>[I z]) (by unfold aB.cnt;omega)
 ·repeat'(first|exact trivial|exact rfl|refine And.intro ?_ ?_)
theorem vO (x:aA) (k:Int) (hs:aA.sml x) (h0:0≤k) (h1:k+(aA.cnt x:Nat)≤1099511627776):aV Tryz.prog 219 false [.mut (some 3) (aA.enc .own x),.val none [I k]] [.mut (some 3) (aA.enc .own (x.mark k)),.val none []] .one [I (k+(aA.cnt x:Nat))]:=by
 obtain⟨s0,s1⟩:=hs
 unfold aA.cnt at h1
 refine fM 14 [(297,[1,0]),(298,[1,0])] [] [(2,0),(0,0)] Tryz.func219 rfl (fun u p=>?_)
 repeat'(first|refine gO ?_|(conv=>whnf);first|refine er.mk (yh x.Frames _ s0 (by omega) (by omega)) (.inl rfl) ?_|refine er.mk (Az x.Table _ s1 (by omega) (by omega)) (.inl rfl) ?_|refine bK.mk rfl ?_ ?_)
 ·exact congrArg (fun z=>[I z]) (by unfold aA.cnt;omega)
 ·repeat'(first|exact trivial|exact rfl|refine And.intro ?_ ?_)
theorem pN (x:af) (k:Int) (hs:af.sml x) (h0:0≤k) (h1:k+(af.cnt x:Nat)≤1099511627776):aV Tryz.prog 106 false [.mut (some 5) (af.enc .own x),.val none [I k]] [.mut (some 5) (af.enc .own (x.mark k)),.val none []] .one [I (k+(af.cnt x:Nat))]:=by
 obtain⟨s0,s1⟩:=hs
 unfold af.cnt at h1
 refine fM 14 [(219,[1,0]),(220,[1,0])] [] [(2,0),(0,0)] Tryz.func106 rfl (fun u p=>?_)
 repeat'(first|refine gO ?_|(conv=>whnf);first|refine er.mk (vO x.Machine _ s0 (by omega) (by omega)) (.inl rfl) ?_|refine er.mk (oG x.Refuse _ s1 (by omega) (by omega)) (.inl rfl) ?_|refine bK.mk rfl ?_ ?_)
 ·exact congrArg (fun z=>[I z]) (by unfold af.cnt;omega)
 ·repeat'(first|exact trivial|exact rfl|refine And.intro ?_ ?_)
theorem pG (x:List ar) (k:Int) (hs:dK x) (h0:0≤k) (h1:k+(bH x:Nat)≤1099511627776):aV Tryz.prog 107 false [.mut none (bg .own x),.val none [I k]] [.mut none (bg .own (dB x k)),.val none []] .one [I (k+(bH x:Nat))]:=by
 have hl:x.length≤1048576:=hs.1
 have hml:((dB x k).map (ar.enc .own)).length=(x.map (ar.enc .own)).length:=by simp[jz]
 refine fM 27 [] [] [(0,0),(0,0)] Tryz.func107 rfl (fun u p=>?_)
 repeat'(first|refine gO ?_|fail)
 (conv=>whnf)
 refine Lp.mk (ι:=Nat) (fun i=>[(0,.hold .one [.s (.tag (u 0 0)) (gp ((dB x k).map (ar.enc .own)) (x.map (ar.enc .own)) i)]),(1,.hold .one [I (k+(cA x i:Nat))]),(5,.hold .one [I (i:Nat)])]) (fun i=>i≤x.length) (fun i=>x.length - i) 0 ?_ (Nat.zero_le _) fun i hi=>?_
 ·rw[cj,jo]
  repeat'(first|exact trivial|rfl|exact And.intro rfl (And.intro (congrArg I (by omega)) trivial)|refine And.intro ?_ ?_)
 ·have hlen:=(gQ hml i).trans (show(x.map (ar.enc .own)).length=x.length by simp)
  by_cases hlt:i<x.length
  ·obtain⟨y,hy⟩ : ∃ y,x[i]? = some y:=⟨_,List.getElem?_eq_getElem hlt⟩
   have hr:=dm hml i (by simp;omega)
   rw[aa hy]at hr
   have hm:=jm x k i y hy
   have hps:=j9 x i y hy
   have hpl:=lR x (i+1)
   rw[hps]at hpl
   simp only[ar.cnt]at hps hpl
   repeat'(first|refine gD ?_|(conv=>whnf);first|with_reducible (first|refine Ln.mk hlen ?_|refine Ix.nat hr ?_)|refine Pu.one rfl rfl hr rfl (Nat.le_of_ble_eq_true rfl) rfl ?_|refine Pu.one rfl rfl (br hr) rfl (Nat.le_of_ble_eq_true rfl) rfl ?_|refine Ix.nat (br hr) ?_|refine Nx.mk (i+1) (by omega) (by omega) ?_)
   repeat'(first|exact trivial|rfl|exact And.intro rfl (And.intro (congrArg (C.s _) (by first|exact bE hml (aa hm)|(simp only[List.set_set];exact bE hml (aa hm)))) trivial)|exact And.intro rfl (And.intro (congrArg I (by first|omega|(simp only[ar.cnt]at hps;omega))) trivial)|refine And.intro ?_ ?_)
  ·repeat'(first|refine gD ?_|(conv=>whnf);first|with_reducible refine Ln.mk hlen ?_|refine bK.mk rfl ?_ ?_)
   ·have he:i=x.length:=by omega
    subst he
    exact congrArg (fun z=>[I z]) (by rw[kr])
   ·rw[dk _ hml (by simp;omega)]
    repeat'(first|exact trivial|exact rfl|refine And.intro ?_ ?_)
theorem rG (x:List am) (k:Int) (hs:cC x) (h0:0≤k) (h1:k+(bQ x:Nat)≤1099511627776):aV Tryz.prog 108 false [.mut none (bm .own x),.val none [I k]] [.mut none (bm .own (ec x k)),.val none []] .one [I (k+(bQ x:Nat))]:=by
 have hl:x.length≤1048576:=hs.1
 have hml:((ec x k).map (am.enc .own)).length=(x.map (am.enc .own)).length:=by simp[ko]
 refine fM 34 [] [] [(0,0),(0,0)] Tryz.func108 rfl (fun u p=>?_)
 repeat'(first|refine gO ?_|fail)
 (conv=>whnf)
 refine Lp.mk (ι:=Nat) (fun i=>[(0,.hold .one [.s (.tag (u 0 0)) (gp ((ec x k).map (am.enc .own)) (x.map (am.enc .own)) i)]),(1,.hold .one [I (k+(dd x i:Nat))]),(5,.hold .one [I (i:Nat)])]) (fun i=>i≤x.length) (fun i=>x.length - i) 0 ?_ (Nat.zero_le _) fun i hi=>?_
 ·rw[cj,kL]
  repeat'(first|exact trivial|rfl|exact And.intro rfl (And.intro (congrArg I (by omega)) trivial)|refine And.intro ?_ ?_)
 ·have hlen:=(gQ hml i).trans (show(x.map (am.enc .own)).length=x.length by simp)
  by_cases hlt:i<x.length
  ·obtain⟨y,hy⟩ : ∃ y,x[i]? = some y:=⟨_,List.getElem?_eq_getElem hlt⟩
   have hr:=dm hml i (by simp;omega)
   rw[aa hy]at hr
   have hm:=ku x k i y hy
   have hps:=kx x i y hy
   have hpl:=m9 x (i+1)
   rw[hps]at hpl
   simp only[am.cnt]at hps hpl
   repeat'(first|refine gD ?_|(conv=>whnf);first|with_reducible (first|refine Ln.mk hlen ?_|refine Ix.nat hr ?_)|refine Pu.one rfl rfl hr rfl (Nat.le_of_ble_eq_true rfl) rfl ?_|refine Pu.one rfl rfl (br hr) rfl (Nat.le_of_ble_eq_true rfl) rfl ?_|refine Pu.one rfl rfl (br (br hr)) rfl (Nat.le_of_ble_eq_true rfl) rfl ?_|refine Ix.nat (br hr) ?_|refine Ix.nat (br (br hr)) ?_|refine Nx.mk (i+1) (by omega) (by omega) ?_)
   repeat'(first|exact trivial|rfl|exact And.intro rfl (And.intro (congrArg (C.s _) (by first|exact bE hml (aa hm)|(simp only[List.set_set];exact bE hml (aa hm)))) trivial)|exact And.intro rfl (And.intro (congrArg I (by first|omega|(simp only[am.cnt]at hps;omega))) trivial)|refine And.intro ?_ ?_)
  ·repeat'(first|refine gD ?_|(conv=>whnf);first|with_reducible refine Ln.mk hlen ?_|refine bK.mk rfl ?_ ?_)
   ·have he:i=x.length:=by omega
    subst he
    exact congrArg (fun z=>[I z]) (by rw[lM])
   ·rw[dk _ hml (by simp;omega)]
    repeat'(first|exact trivial|exact rfl|refine And.intro ?_ ?_)
theorem p8 (x:List au) (k:Int) (hs:cg x) (h0:0≤k) (h1:k+(bG x:Nat)≤1099511627776):aV Tryz.prog 109 false [.mut none (bn .own x),.val none [I k]] [.mut none (bn .own (dC x k)),.val none []] .one [I (k+(bG x:Nat))]:=by
 have hl:x.length≤1048576:=hs.1
 have hml:((dC x k).map (au.enc .own)).length=(x.map (au.enc .own)).length:=by simp[jv]
 refine fM 34 [] [] [(0,0),(0,0)] Tryz.func109 rfl (fun u p=>?_)
 repeat'(first|refine gO ?_|fail)
 (conv=>whnf)
 refine Lp.mk (ι:=Nat) (fun i=>[(0,.hold .one [.s (.tag (u 0 0)) (gp ((dC x k).map (au.enc .own)) (x.map (au.enc .own)) i)]),(1,.hold .one [I (k+(cv x i:Nat))]),(5,.hold .one [I (i:Nat)])]) (fun i=>i≤x.length) (fun i=>x.length - i) 0 ?_ (Nat.zero_le _) fun i hi=>?_
 ·rw[cj,jD]
  repeat'(first|exact trivial|rfl|exact And.intro rfl (And.intro (congrArg I (by omega)) trivial)|refine And.intro ?_ ?_)
 ·have hlen:=(gQ hml i).trans (show(x.map (au.enc .own)).length=x.length by simp)
  by_cases hlt:i<x.length
  ·obtain⟨y,hy⟩ : ∃ y,x[i]? = some y:=⟨_,List.getElem?_eq_getElem hlt⟩
   have hr:=dm hml i (by simp;omega)
   rw[aa hy]at hr
   have hm:=j8 x k i y hy
   have hps:=ji x i y hy
   have hpl:=lP x (i+1)
   rw[hps]at hpl
   simp only[au.cnt]at hps hpl
   repeat'(first|refine gD ?_|(conv=>whnf);first|with_reducible (first|refine Ln.mk hlen ?_|refine Ix.nat hr ?_)|refine Pu.one rfl rfl hr rfl (Nat.le_of_ble_eq_true rfl) rfl ?_|refine Pu.one rfl rfl (br hr) rfl (Nat.le_of_ble_eq_true rfl) rfl ?_|refine Pu.one rfl rfl (br (br hr)) rfl (Nat.le_of_ble_eq_true rfl) rfl ?_|refine Ix.nat (br hr) ?_|refine Ix.nat (br (br hr)) ?_|refine Nx.mk (i+1) (by omega) (by omega) ?_)
   repeat'(first|exact trivial|rfl|exact And.intro rfl (And.intro (congrArg (C.s _) (by first|exact bE hml (aa hm)|(simp only[List.set_set];exact bE hml (aa hm)))) trivial)|exact And.intro rfl (And.intro (congrArg I (by first|omega|(simp only[au.cnt]at hps;omega))) trivial)|refine And.intro ?_ ?_)
  ·repeat'(first|refine gD ?_|(conv=>whnf);first|with_reducible refine Ln.mk hlen ?_|refine bK.mk rfl ?_ ?_)
   ·have he:i=x.length:=by omega
    subst he
    exact congrArg (fun z=>[I z]) (by rw[kJ])
   ·rw[dk _ hml (by simp;omega)]
    repeat'(first|exact trivial|exact rfl|refine And.intro ?_ ?_)
theorem tp (x:List aX) (k:Int) (hs:mn x) (h0:0≤k) (h1:k+(cS x:Nat)≤1099511627776):aV Tryz.prog 110 false [.mut none (eD .own x),.val none [I k]] [.mut none (eD .own (eI x k)),.val none []] .one [I (k+(cS x:Nat))]:=by
 have hl:x.length≤1048576:=hs.1
 have hml:((eI x k).map (aX.enc .own)).length=(x.map (aX.enc .own)).length:=by simp[lW]
 refine fM 41 [] [] [(0,0),(0,0)] Tryz.func110 rfl (fun u p=>?_)
 repeat'(first|refine gO ?_|fail)
 (conv=>whnf)
 refine Lp.mk (ι:=Nat) (fun i=>[(0,.hold .one [.s (.tag (u 0 0)) (gp ((eI x k).map (aX.enc .own)) (x.map (aX.enc .own)) i)]),(1,.hold .one [I (k+(dN x i:Nat))]),(5,.hold .one [I (i:Nat)])]) (fun i=>i≤x.length) (fun i=>x.length - i) 0 ?_ (Nat.zero_le _) fun i hi=>?_
 ·rw[cj,lY]
  repeat'(first|exact trivial|rfl|exact And.intro rfl (And.intro (congrArg I (by omega)) trivial)|refine And.intro ?_ ?_)
 ·have hlen:=(gQ hml i).trans (show(x.map (aX.enc .own)).length=x.length by simp)
  by_cases hlt:i<x.length
  ·obtain⟨y,hy⟩ : ∃ y,x[i]? = some y:=⟨_,List.getElem?_eq_getElem hlt⟩
   have hr:=dm hml i (by simp;omega)
   rw[aa hy]at hr
   have hm:=lI x k i y hy
   have hps:=lG x i y hy
   have hpl:=ov x (i+1)
   rw[hps]at hpl
   simp only[aX.cnt]at hps hpl
   repeat'(first|refine gD ?_|(conv=>whnf);first|with_reducible (first|refine Ln.mk hlen ?_|refine Ix.nat hr ?_)|refine Pu.one rfl rfl hr rfl (Nat.le_of_ble_eq_true rfl) rfl ?_|refine Pu.one rfl rfl (br hr) rfl (Nat.le_of_ble_eq_true rfl) rfl ?_|refine Pu.one rfl rfl (br (br hr)) rfl (Nat.le_of_ble_eq_true rfl) rfl ?_|refine Pu.one rfl rfl (br (br (br hr))) rfl (Nat.le_of_ble_eq_true rfl) rfl ?_|refine Ix.nat (br hr) ?_|refine Ix.nat (br (br hr)) ?_|refine Ix.nat (br (br (br hr))) ?_|refine Nx.mk (i+1) (by omega) (by omega) ?_)
   repeat'(first|exact trivial|rfl|exact And.intro rfl (And.intro (congrArg (C.s _) (by first|exact bE hml (aa hm)|(simp only[List.set_set];exact bE hml (aa hm)))) trivial)|exact And.intro rfl (And.intro (congrArg I (by first|omega|(simp only[aX.cnt]at hps;omega))) trivial)|refine And.intro ?_ ?_)
  ·repeat'(first|refine gD ?_|(conv=>whnf);first|with_reducible refine Ln.mk hlen ?_|refine bK.mk rfl ?_ ?_)
   ·have he:i=x.length:=by omega
    subst he
    exact congrArg (fun z=>[I z]) (by rw[mG])
   ·rw[dk _ hml (by simp;omega)]
    repeat'(first|exact trivial|exact rfl|refine And.intro ?_ ?_)
theorem pK (x:List ay) (k:Int) (hs:iI x) (h0:0≤k) (h1:k+(bY x:Nat)≤1099511627776):aV Tryz.prog 111 false [.mut none (dh .own x),.val none [I k]] [.mut none (dh .own (dy x k)),.val none []] .one [I (k+(bY x:Nat))]:=by
 have hl:x.length≤1048576:=hs.1
 have hml:((dy x k).map (ay.enc .own)).length=(x.map (ay.enc .own)).length:=by simp[jG]
 refine fM 20 [(221,[1,0])] [] [(0,0),(0,0)] Tryz.func111 rfl (fun u p=>?_)
 repeat'(first|refine gO ?_|fail)
 (conv=>whnf)
 refine Lp.mk (ι:=Nat) (fun i=>[(0,.hold .one [.s (.tag (u 0 0)) (gp ((dy x k).map (ay.enc .own)) (x.map (ay.enc .own)) i)]),(1,.hold .one [I (k+(cu x i:Nat))]),(5,.hold .one [I (i:Nat)])]) (fun i=>i≤x.length) (fun i=>x.length - i) 0 ?_ (Nat.zero_le _) fun i hi=>?_
 ·rw[cj,jt]
  repeat'(first|exact trivial|rfl|exact And.intro rfl (And.intro (congrArg I (by omega)) trivial)|refine And.intro ?_ ?_)
 ·have hlen:=(gQ hml i).trans (show(x.map (ay.enc .own)).length=x.length by simp)
  by_cases hlt:i<x.length
  ·obtain⟨y,hy⟩ : ∃ y,x[i]? = some y:=⟨_,List.getElem?_eq_getElem hlt⟩
   have hr:=dm hml i (by simp;omega)
   rw[aa hy]at hr
   have hm:=jw x k i y hy
   have hps:=jr x i y hy
   have hpl:=lC x (i+1)
   rw[hps]at hpl
   repeat'(first|refine gD ?_|(conv=>whnf);first|with_reducible (first|refine Ln.mk hlen ?_|refine Ix.nat hr ?_)|refine Rw.one rfl hr rfl ?_|refine Lq.one rfl rfl hr rfl (Nat.le_refl _) rfl rfl ?_|refine er.mk (mY y.Lists _ (hs.2 y (List.mem_of_getElem? hy)) (by omega) (by simp only[ay.cnt]at hpl;omega)) (.inl rfl) ?_|refine Pu.one rfl rfl (br hr) rfl (Nat.le_refl _) rfl ?_|refine Ix.nat (br hr) ?_|refine Nx.mk (i+1) (by omega) (by omega) ?_)
   repeat'(first|exact trivial|rfl|exact And.intro rfl (And.intro (congrArg (C.s _) (by first|exact bE hml (aa hm)|(simp only[List.set_set];exact bE hml (aa hm)))) trivial)|exact And.intro rfl (And.intro (congrArg I (by first|omega|(simp only[ay.cnt]at hps;omega))) trivial)|refine And.intro ?_ ?_)
  ·repeat'(first|refine gD ?_|(conv=>whnf);first|with_reducible refine Ln.mk hlen ?_|refine bK.mk rfl ?_ ?_)
   ·have he:i=x.length:=by omega
    subst he
    exact congrArg (fun z=>[I z]) (by rw[kv])
   ·rw[dk _ hml (by simp;omega)]
    repeat'(first|exact trivial|exact rfl|refine And.intro ?_ ?_)
theorem zJ (x:List aM) (k:Int) (hs:km x) (h0:0≤k) (h1:k+(dx x:Nat)≤1099511627776):aV Tryz.prog 299 false [.mut none (b6 .own x),.val none [I k]] [.mut none (b6 .own (dJ x k)),.val none []] .one [I (k+(dx x:Nat))]:=by
 have hl:x.length≤1048576:=hs.1
 have hml:((dJ x k).map (aM.enc .own)).length=(x.map (aM.enc .own)).length:=by simp[kH]
 refine fM 27 [] [] [(0,0),(0,0)] Tryz.func299 rfl (fun u p=>?_)
 repeat'(first|refine gO ?_|fail)
 (conv=>whnf)
 refine Lp.mk (ι:=Nat) (fun i=>[(0,.hold .one [.s (.tag (u 0 0)) (gp ((dJ x k).map (aM.enc .own)) (x.map (aM.enc .own)) i)]),(1,.hold .one [I (k+(db x i:Nat))]),(5,.hold .one [I (i:Nat)])]) (fun i=>i≤x.length) (fun i=>x.length - i) 0 ?_ (Nat.zero_le _) fun i hi=>?_
 ·rw[cj,kM]
  repeat'(first|exact trivial|rfl|exact And.intro rfl (And.intro (congrArg I (by omega)) trivial)|refine And.intro ?_ ?_)
 ·have hlen:=(gQ hml i).trans (show(x.map (aM.enc .own)).length=x.length by simp)
  by_cases hlt:i<x.length
  ·obtain⟨y,hy⟩ : ∃ y,x[i]? = some y:=⟨_,List.getElem?_eq_getElem hlt⟩
   have hr:=dm hml i (by simp;omega)
   rw[aa hy]at hr
   have hm:=kE x k i y hy
   have hps:=kK x i y hy
   have hpl:=na x (i+1)
   rw[hps]at hpl
   simp only[aM.cnt]at hps hpl
   repeat'(first|refine gD ?_|(conv=>whnf);first|with_reducible (first|refine Ln.mk hlen ?_|refine Ix.nat hr ?_)|refine Pu.one rfl rfl hr rfl (Nat.le_of_ble_eq_true rfl) rfl ?_|refine Pu.one rfl rfl (br hr) rfl (Nat.le_of_ble_eq_true rfl) rfl ?_|refine Ix.nat (br hr) ?_|refine Nx.mk (i+1) (by omega) (by omega) ?_)
   repeat'(first|exact trivial|rfl|exact And.intro rfl (And.intro (congrArg (C.s _) (by first|exact bE hml (aa hm)|(simp only[List.set_set];exact bE hml (aa hm)))) trivial)|exact And.intro rfl (And.intro (congrArg I (by first|omega|(simp only[aM.cnt]at hps;omega))) trivial)|refine And.intro ?_ ?_)
  ·repeat'(first|refine gD ?_|(conv=>whnf);first|with_reducible refine Ln.mk hlen ?_|refine bK.mk rfl ?_ ?_)
   ·have he:i=x.length:=by omega
    subst he
    exact congrArg (fun z=>[I z]) (by rw[lT])
   ·rw[dk _ hml (by simp;omega)]
    repeat'(first|exact trivial|exact rfl|refine And.intro ?_ ?_)
theorem xI (x:List (List aM)) (k:Int) (hs:iK x) (h0:0≤k) (h1:k+(cV x:Nat)≤1099511627776):aV Tryz.prog 222 false [.mut none (dG .own x),.val none [I k]] [.mut none (dG .own (dz x k)),.val none []] .one [I (k+(cV x:Nat))]:=by
 have hl:x.length≤1048576:=hs.1
 have hml:((dz x k).map (b6 .own)).length=(x.map (b6 .own)).length:=by simp[jH]
 refine fM 19 [(299,[1,0])] [] [(0,0),(0,0)] Tryz.func222 rfl (fun u p=>?_)
 repeat'(first|refine gO ?_|fail)
 (conv=>whnf)
 refine Lp.mk (ι:=Nat) (fun i=>[(0,.hold .one [.s (.tag (u 0 0)) (gp ((dz x k).map (b6 .own)) (x.map (b6 .own)) i)]),(1,.hold .one [I (k+(ct x i:Nat))]),(5,.hold .one [I (i:Nat)])]) (fun i=>i≤x.length) (fun i=>x.length - i) 0 ?_ (Nat.zero_le _) fun i hi=>?_
 ·rw[cj,js]
  repeat'(first|exact trivial|rfl|exact And.intro rfl (And.intro (congrArg I (by omega)) trivial)|refine And.intro ?_ ?_)
 ·have hlen:=(gQ hml i).trans (show(x.map (b6 .own)).length=x.length by simp)
  by_cases hlt:i<x.length
  ·obtain⟨y,hy⟩ : ∃ y,x[i]? = some y:=⟨_,List.getElem?_eq_getElem hlt⟩
   have hr:=dm hml i (by simp;omega)
   rw[aa hy]at hr
   have hm:=jp x k i y hy
   have hps:=jl x i y hy
   have hpl:=lB x (i+1)
   rw[hps]at hpl
   repeat'(first|refine gD ?_|(conv=>whnf);first|with_reducible (first|refine Ln.mk hlen ?_|refine Ix.nat hr ?_)|refine Rw.one rfl hr rfl ?_|refine Lq.one rfl rfl hr rfl (Nat.le_refl _) rfl rfl ?_|refine er.mk (zJ y _ (hs.2 y (List.mem_of_getElem? hy)) (by omega) (by omega)) (.inl rfl) ?_|refine Pu.one rfl rfl (br hr) rfl (Nat.le_refl _) rfl ?_|refine Ix.nat (br hr) ?_|refine Nx.mk (i+1) (by omega) (by omega) ?_)
   repeat'(first|exact trivial|rfl|exact And.intro rfl (And.intro (congrArg (C.s _) (by first|exact bE hml (aa hm)|(simp only[List.set_set];exact bE hml (aa hm)))) trivial)|exact And.intro rfl (And.intro (congrArg I (by omega)) trivial)|refine And.intro ?_ ?_)
  ·repeat'(first|refine gD ?_|(conv=>whnf);first|with_reducible refine Ln.mk hlen ?_|refine bK.mk rfl ?_ ?_)
   ·have he:i=x.length:=by omega
    subst he
    exact congrArg (fun z=>[I z]) (by rw[kT])
   ·rw[dk _ hml (by simp;omega)]
    repeat'(first|exact trivial|exact rfl|refine And.intro ?_ ?_)
theorem tj (x:aK) (k:Int) (hs:aK.sml x) (h0:0≤k) (h1:k+(aK.cnt x:Nat)≤1099511627776):aV Tryz.prog 112 false [.mut (some 2) (aK.enc .own x),.val none [I k]] [.mut (some 2) (aK.enc .own (x.mark k)),.val none []] .one [I (k+(aK.cnt x:Nat))]:=by
 obtain⟨s0,s1⟩:=hs
 unfold aK.cnt at h1
 refine fM 14 [(222,[1,0]),(221,[1,0])] [] [(2,0),(0,0)] Tryz.func112 rfl (fun u p=>?_)
 repeat'(first|refine gO ?_|(conv=>whnf);first|refine er.mk (xI x.Buffers _ s0 (by omega) (by omega)) (.inl rfl) ?_|refine er.mk (mY x.Inbox _ s1 (by omega) (by omega)) (.inl rfl) ?_|refine bK.mk rfl ?_ ?_)
 ·exact congrArg (fun z=>[I z]) (by unfold aK.cnt;omega)
 ·repeat'(first|exact trivial|exact rfl|refine And.intro ?_ ?_)
theorem ye (x:List aE) (k:Int) (hs:eO x) (h0:0≤k) (h1:k+(cU x:Nat)≤1099511627776):aV Tryz.prog 223 false [.mut none (ce .own x),.val none [I k]] [.mut none (ce .own (d9 x k)),.val none []] .one [I (k+(cU x:Nat))]:=by
 have hl:x.length≤1048576:=hs.1
 have hml:((d9 x k).map (aE.enc .own)).length=(x.map (aE.enc .own)).length:=by simp[jh]
 refine fM 34 [] [] [(0,0),(0,0)] Tryz.func223 rfl (fun u p=>?_)
 repeat'(first|refine gO ?_|fail)
 (conv=>whnf)
 refine Lp.mk (ι:=Nat) (fun i=>[(0,.hold .one [.s (.tag (u 0 0)) (gp ((d9 x k).map (aE.enc .own)) (x.map (aE.enc .own)) i)]),(1,.hold .one [I (k+(cy x i:Nat))]),(5,.hold .one [I (i:Nat)])]) (fun i=>i≤x.length) (fun i=>x.length - i) 0 ?_ (Nat.zero_le _) fun i hi=>?_
 ·rw[cj,jF]
  repeat'(first|exact trivial|rfl|exact And.intro rfl (And.intro (congrArg I (by omega)) trivial)|refine And.intro ?_ ?_)
 ·have hlen:=(gQ hml i).trans (show(x.map (aE.enc .own)).length=x.length by simp)
  by_cases hlt:i<x.length
  ·obtain⟨y,hy⟩ : ∃ y,x[i]? = some y:=⟨_,List.getElem?_eq_getElem hlt⟩
   have hr:=dm hml i (by simp;omega)
   rw[aa hy]at hr
   have hm:=jE x k i y hy
   have hps:=jB x i y hy
   have hpl:=lS x (i+1)
   rw[hps]at hpl
   simp only[aE.cnt]at hps hpl
   repeat'(first|refine gD ?_|(conv=>whnf);first|with_reducible (first|refine Ln.mk hlen ?_|refine Ix.nat hr ?_)|refine Pu.one rfl rfl hr rfl (Nat.le_of_ble_eq_true rfl) rfl ?_|refine Pu.one rfl rfl (br hr) rfl (Nat.le_of_ble_eq_true rfl) rfl ?_|refine Pu.one rfl rfl (br (br hr)) rfl (Nat.le_of_ble_eq_true rfl) rfl ?_|refine Ix.nat (br hr) ?_|refine Ix.nat (br (br hr)) ?_|refine Nx.mk (i+1) (by omega) (by omega) ?_)
   repeat'(first|exact trivial|rfl|exact And.intro rfl (And.intro (congrArg (C.s _) (by first|exact bE hml (aa hm)|(simp only[List.set_set];exact bE hml (aa hm)))) trivial)|exact And.intro rfl (And.intro (congrArg I (by first|omega|(simp only[aE.cnt]at hps;omega))) trivial)|refine And.intro ?_ ?_)
  ·repeat'(first|refine gD ?_|(conv=>whnf);first|with_reducible refine Ln.mk hlen ?_|refine bK.mk rfl ?_ ?_)
   ·have he:i=x.length:=by omega
    subst he
    exact congrArg (fun z=>[I z]) (by rw[kw])
   ·rw[dk _ hml (by simp;omega)]
    repeat'(first|exact trivial|exact rfl|refine And.intro ?_ ?_)
theorem tP (x:aQ) (k:Int) (hs:aQ.sml x) (h0:0≤k) (h1:k+(aQ.cnt x:Nat)≤1099511627776):aV Tryz.prog 113 false [.mut (some 2) (aQ.enc .own x),.val none [I k]] [.mut (some 2) (aQ.enc .own (x.mark k)),.val none []] .one [I (k+(aQ.cnt x:Nat))]:=by
 have s0:=hs
 unfold aQ.cnt at h1
 refine fM 10 [(223,[1,0])] [] [(2,0),(0,0)] Tryz.func113 rfl (fun u p=>?_)
 repeat'(first|refine gO ?_|(conv=>whnf);first|refine er.mk (ye x.Lst _ s0 (by omega) (by omega)) (.inl rfl) ?_|refine bK.mk rfl ?_ ?_)
 ·exact congrArg (fun z=>[I z]) (by unfold aQ.cnt;omega)
 ·repeat'(first|exact trivial|exact rfl|refine And.intro ?_ ?_)
theorem BF (x:aN) (k:Int) (hs:aN.sml x) (h0:0≤k) (h1:k+(aN.cnt x:Nat)≤1099511627776):aV Tryz.prog 224 false [.mut (some 3) (aN.enc .own x),.val none [I k]] [.mut (some 3) (aN.enc .own (x.mark k)),.val none []] .one [I (k+(aN.cnt x:Nat))]:=by
 have s0:=hs
 unfold aN.cnt at h1
 refine fM 10 [(220,[1,0])] [] [(2,0),(0,0)] Tryz.func224 rfl (fun u p=>?_)
 repeat'(first|refine gO ?_|(conv=>whnf);first|refine er.mk (oG x.Cells _ s0 (by omega) (by omega)) (.inl rfl) ?_|refine bK.mk rfl ?_ ?_)
 ·exact congrArg (fun z=>[I z]) (by unfold aN.cnt;omega)
 ·repeat'(first|exact trivial|exact rfl|refine And.intro ?_ ?_)
theorem uN (x:aZ) (k:Int) (hs:aZ.sml x) (h0:0≤k) (h1:k+(aZ.cnt x:Nat)≤1099511627776):aV Tryz.prog 114 false [.mut (some 5) (aZ.enc .own x),.val none [I k]] [.mut (some 5) (aZ.enc .own (x.mark k)),.val none []] .one [I (k+(aZ.cnt x:Nat))]:=by
 have s0:=hs
 unfold aZ.cnt at h1
 refine fM 10 [(224,[1,0])] [] [(2,0),(0,0)] Tryz.func114 rfl (fun u p=>?_)
 repeat'(first|refine gO ?_|(conv=>whnf);first|refine er.mk (BF x.Plan _ s0 (by omega) (by omega)) (.inl rfl) ?_|refine bK.mk rfl ?_ ?_)
 ·exact congrArg (fun z=>[I z]) (by unfold aZ.cnt;omega)
 ·repeat'(first|exact trivial|exact rfl|refine And.intro ?_ ?_)
theorem B2 (x:ac) (k:Int) (hs:ac.sml x) (h0:0≤k) (h1:k+(ac.cnt x:Nat)≤1099511627776):aV Tryz.prog 27 false [.mut (some 24) (ac.enc .own x),.val none [I k]] [.mut (some 24) (ac.enc .own (x.mark k)),.val none []] .one [I (k+(ac.cnt x:Nat))]:=by
 obtain⟨s0,s1,s2,s3,s4,s5,s6,s7,s8⟩:=hs
 unfold ac.cnt at h1
 refine fM 42 [(114,[1,0]),(106,[1,0]),(112,[1,0]),(113,[1,0]),(111,[1,0]),(109,[1,0]),(110,[1,0]),(107,[1,0]),(108,[1,0])] [] [(2,0),(0,0)] Tryz.func27 rfl (fun u p=>?_)
 repeat'(first|refine gO ?_|(conv=>whnf);first|refine er.mk (pN x.Kernel _ s0 (by omega) (by omega)) (.inl rfl) ?_|refine er.mk (pG x.Free _ s1 (by omega) (by omega)) (.inl rfl) ?_|refine er.mk (rG x.Spans _ s2 (by omega) (by omega)) (.inl rfl) ?_|refine er.mk (p8 x.Larges _ s3 (by omega) (by omega)) (.inl rfl) ?_|refine er.mk (tp x.Objs _ s4 (by omega) (by omega)) (.inl rfl) ?_|refine er.mk (pK x.Caches _ s5 (by omega) (by omega)) (.inl rfl) ?_|refine er.mk (tj x.Mail _ s6 (by omega) (by omega)) (.inl rfl) ?_|refine er.mk (tP x.Quar _ s7 (by omega) (by omega)) (.inl rfl) ?_|refine er.mk (uN x.Job _ s8 (by omega) (by omega)) (.inl rfl) ?_|refine bK.mk rfl ?_ ?_)
 ·exact congrArg (fun z=>[I z]) (by unfold ac.cnt;omega)
 ·repeat'(first|exact trivial|exact rfl|refine And.intro ?_ ?_)
end Go.Proofs.YtplcalfnngkffaaGreat.Ab
/- How large the kernel is that comes back when a heap is given back. No condition. -/
namespace Go.Proofs.YtplcalfnngkffaaGreat.Ab
open Go.RowKit
set_option maxRecDepth 20000
set_option maxHeartbeats 4000000
end Go.Proofs.YtplcalfnngkffaaGreat.Ab
/- A heap marked whose spans, large objects, objects may be empty rows. No condition. -/
namespace Go.Proofs.YtplcalfnngkffaaGreat.Ab
open Go.RowKit
set_option maxRecDepth 20000
set_option maxHeartbeats 4000000
theorem xu (k:Int):aV Tryz.prog 108 false [.mut none [.s .imm []],.val none [I k]] [.mut none [.s .imm []],.val none []] .one [I (k+(bQ []:Nat))]:=by
 refine fM 34 [] [] [(0,0),(0,0)] Tryz.func108 rfl (fun u p=>?_)
 repeat'(first|refine gO ?_|fail)
 (conv=>whnf)
 refine Lp.mk (ι:=Unit) (fun _=>[(0,.hold .one [.s .imm []]),(1,.hold .one [I k]),(5,.hold .one [I 0])]) (fun _=>True) (fun _=>0) () ?_ trivial fun _ _=>?_
 ·exact wB
 ·repeat'(first|refine gD ?_|(conv=>whnf);first|refine Ln.mk (show List.length []=0 from rfl) ?_)
  refine bK.mk rfl ?_ ?_
  ·exact congrArg (fun z=>[I z]) (by simp[bQ])
  ·exact wB
theorem uH (k:Int):aV Tryz.prog 109 false [.mut none [.s .imm []],.val none [I k]] [.mut none [.s .imm []],.val none []] .one [I (k+(bG []:Nat))]:=by
 refine fM 34 [] [] [(0,0),(0,0)] Tryz.func109 rfl (fun u p=>?_)
 repeat'(first|refine gO ?_|fail)
 (conv=>whnf)
 refine Lp.mk (ι:=Unit) (fun _=>[(0,.hold .one [.s .imm []]),(1,.hold .one [I k]),(5,.hold .one [I 0])]) (fun _=>True) (fun _=>0) () ?_ trivial fun _ _=>?_
 ·exact wB
 ·repeat'(first|refine gD ?_|(conv=>whnf);first|refine Ln.mk (show List.length []=0 from rfl) ?_)
  refine bK.mk rfl ?_ ?_
  ·exact congrArg (fun z=>[I z]) (by simp[bG])
  ·exact wB
theorem zO (k:Int):aV Tryz.prog 110 false [.mut none [.s .imm []],.val none [I k]] [.mut none [.s .imm []],.val none []] .one [I (k+(cS []:Nat))]:=by
 refine fM 41 [] [] [(0,0),(0,0)] Tryz.func110 rfl (fun u p=>?_)
 repeat'(first|refine gO ?_|fail)
 (conv=>whnf)
 refine Lp.mk (ι:=Unit) (fun _=>[(0,.hold .one [.s .imm []]),(1,.hold .one [I k]),(5,.hold .one [I 0])]) (fun _=>True) (fun _=>0) () ?_ trivial fun _ _=>?_
 ·exact wB
 ·repeat'(first|refine gD ?_|(conv=>whnf);first|refine Ln.mk (show List.length []=0 from rfl) ?_)
  refine bK.mk rfl ?_ ?_
  ·exact congrArg (fun z=>[I z]) (by simp[cS])
  ·exact wB
theorem Fs (x:ac) (k:Int) (hs:ac.sml x) (h0:0≤k) (h1:k+(ac.cnt x:Nat)≤1099511627776):aV Tryz.prog 27 false [.mut (some 24) (eN x),.val none [I k]] [.mut (some 24) (eN (x.mark k)),.val none []] .one [I (k+(ac.cnt x:Nat))]:=by
 obtain⟨s0,s1,s2,s3,s4,s5,s6,s7,s8⟩:=hs
 obtain⟨xK,xF,xS,xL,xO,xC,xM,xQ,z1,z2,z3,z4,z5,xJ⟩:=x
 simp only[ac.cnt]at h1
 simp only at s0 s1 s2 s3 s4 s5 s6 s7 s8
 rcases xS with _|⟨sh,xS⟩<;>rcases xL with _|⟨lh,xL⟩<;>rcases xO with _|⟨oh,xO⟩
 all_goals
  refine fM 42 [(114,[1,0]),(106,[1,0]),(112,[1,0]),(113,[1,0]),(111,[1,0]),(109,[1,0]),(110,[1,0]),(107,[1,0]),(108,[1,0])] [] [(2,0),(0,0)] Tryz.func27 rfl (fun u p=>?_)
  repeat'(first|refine gO ?_|(conv=>whnf);first|refine er.mk (pN xK _ s0 (by omega) (by omega)) (.inl rfl) ?_|refine er.mk (pG xF _ s1 (by omega) (by omega)) (.inl rfl) ?_|refine er.mk (xu _) (.inl rfl) ?_|refine er.mk (rG (sh::xS) _ s2 (by omega) (by omega)) (.inl rfl) ?_|refine er.mk (uH _) (.inl rfl) ?_|refine er.mk (p8 (lh::xL) _ s3 (by omega) (by omega)) (.inl rfl) ?_|refine er.mk (zO _) (.inl rfl) ?_|refine er.mk (tp (oh::xO) _ s4 (by omega) (by omega)) (.inl rfl) ?_|refine er.mk (pK xC _ s5 (by omega) (by omega)) (.inl rfl) ?_|refine er.mk (tj xM _ s6 (by omega) (by omega)) (.inl rfl) ?_|refine er.mk (tP xQ _ s7 (by omega) (by omega)) (.inl rfl) ?_|refine er.mk (uN xJ _ s8 (by omega) (by omega)) (.inl rfl) ?_|refine bK.mk rfl ?_ ?_)
  ·exact congrArg (fun z=>[I z]) (by simp only[ac.cnt];omega)
  ·repeat'(first|exact trivial|exact rfl|refine And.intro ?_ ?_)
theorem N6 (h:ac):oS h=.s .own (h.Spans.map (am.enc .own))∨oS h=.s .imm []:=by rcases DQ (rows:=h.Spans.map (am.enc .own)) with e|⟨e1,e2⟩;exact .inl e;exact .inr e2
theorem N4 (h:ac):oO h=.s .own (h.Objs.map (aX.enc .own))∨oO h=.s .imm []:=by rcases DQ (rows:=h.Objs.map (aX.enc .own)) with e|⟨e1,e2⟩;exact .inl e;exact .inr e2
theorem Nf (h:ac):oL h=.s .own (h.Larges.map (au.enc .own))∨oL h=.s .imm []:=by rcases DQ (rows:=h.Larges.map (au.enc .own)) with e|⟨e1,e2⟩;exact .inl e;exact .inr e2
end Go.Proofs.YtplcalfnngkffaaGreat.Ab
/- Contracts of the laws' generic functions (to). Printed by gen_con.py. No condition. -/
namespace Go.Proofs.YtplcalfnngkffaaGreat.Ab
open Go.RowKit
set_option maxRecDepth 20000
set_option maxHeartbeats 2000000
theorem sQ (x:List Int) (hx:iR x):ah Tryz.prog 193 false [.val none (aI .imm x)] .one (aI .own x):=by
 refine fO 22 [] Tryz.func193 rfl ?_ (.inr (bN x))
 have hl:x.length≤1048576:=hx
 have hml:(x.map (rI .own)).length=(List.replicate x.length ([I 0]:List C)).length:=by simp
 repeat'(first|refine gO ?_|(conv=>whnf);first|refine Mk.mk _ rfl rfl (by omega) (ul hl (by decide)) rfl ?_)
 (conv=>whnf)
 refine Lp.mk (ι:=Nat) (fun i=>[(0,.hold .one (aI .imm x)),(3,.hold .one [.s .own (gp (x.map (rI .own)) (List.replicate x.length [I 0]) i)]),(4,.hold .one [I (i:Nat)])]) (fun i=>i≤x.length) (fun i=>x.length - i) 0 ?_ (Nat.zero_le _) fun i hi=>?_
 ·rw[cj]
  exact wA
 ·by_cases hlt:i<x.length
  ·obtain⟨y,hy⟩ : ∃ y,x[i]? = some y:=⟨_,List.getElem?_eq_getElem hlt⟩
   have hr:=dm hml i (by simp;omega)
   rw[gP hlt]at hr
   repeat'(first|refine gD ?_|(conv=>whnf);first|with_reducible (first|refine Ix.nat (aa hy) ?_|refine Ix.nat hr ?_)|refine Pu.one rfl rfl hr rfl (Nat.le_refl _) rfl ?_|refine Nx.mk (i+1) (by omega) (by omega) ?_)
   repeat'(first|exact trivial|rfl|exact And.intro rfl (And.intro (congrArg (C.s dE.own) (bE hml (aa hy))) trivial)|refine And.intro ?_ ?_)
  ·repeat'(first|refine gD ?_|fail)
   rw[dk _ hml (by simp;omega)]
   rfl
theorem qa (x:List (List Int)) (hx:iV x):ah Tryz.prog 200 false [.val none (ed .imm x)] .one (ed .own x):=by
 refine fO 23 [] Tryz.func200 rfl ?_ (.inr (HY x))
 have hl:x.length≤1048576:=hx.1
 have hml:(x.map (aI .own)).length=(List.replicate x.length ([.z]:List C)).length:=by simp
 repeat'(first|refine gO ?_|(conv=>whnf);first|refine Mk.mk _ rfl rfl (by omega) (ul hl (by decide)) rfl ?_)
 (conv=>whnf)
 refine Lp.mk (ι:=Nat) (fun i=>[(0,.hold .one (ed .imm x)),(3,.hold .one [.s .own (gp (x.map (aI .own)) (List.replicate x.length [.z]) i)]),(4,.hold .one [I (i:Nat)])]) (fun i=>i≤x.length) (fun i=>x.length - i) 0 ?_ (Nat.zero_le _) fun i hi=>?_
 ·rw[cj]
  exact wA
 ·by_cases hlt:i<x.length
  ·obtain⟨y,hy⟩ : ∃ y,x[i]? = some y:=⟨_,List.getElem?_eq_getElem hlt⟩
   have hr:=dm hml i (by simp;omega)
   rw[gP hlt]at hr
   repeat'(first|refine gD ?_|(conv=>whnf);first|with_reducible (first|refine Ix.nat (aa hy) ?_|refine Ix.nat hr ?_)|refine Cl.mk (sQ y (hx.2 y (List.mem_of_getElem? hy))) ?_|refine Pu.one rfl rfl hr rfl (Nat.le_refl _) rfl ?_|refine Nx.mk (i+1) (by omega) (by omega) ?_)
   repeat'(first|exact trivial|rfl|exact And.intro rfl (And.intro (congrArg (C.s dE.own) (bE hml (aa hy))) trivial)|refine And.intro ?_ ?_)
  ·repeat'(first|refine gD ?_|fail)
   rw[dk _ hml (by simp;omega)]
   rfl
theorem Fd (x:List Bool) (hx:lZ x):ah Tryz.prog 354 false [.val none (fu .imm x)] .one (fu .own x):=by
 refine fO 22 [] Tryz.func354 rfl ?_ (.inr (HT x))
 have hl:x.length≤1048576:=hx
 have hml:(x.map (rB .own)).length=(List.replicate x.length ([B false]:List C)).length:=by simp
 repeat'(first|refine gO ?_|(conv=>whnf);first|refine Mk.mk _ rfl rfl (by omega) (ul hl (by decide)) rfl ?_)
 (conv=>whnf)
 refine Lp.mk (ι:=Nat) (fun i=>[(0,.hold .one (fu .imm x)),(3,.hold .one [.s .own (gp (x.map (rB .own)) (List.replicate x.length [B false]) i)]),(4,.hold .one [I (i:Nat)])]) (fun i=>i≤x.length) (fun i=>x.length - i) 0 ?_ (Nat.zero_le _) fun i hi=>?_
 ·rw[cj]
  exact wA
 ·by_cases hlt:i<x.length
  ·obtain⟨y,hy⟩ : ∃ y,x[i]? = some y:=⟨_,List.getElem?_eq_getElem hlt⟩
   have hr:=dm hml i (by simp;omega)
   rw[gP hlt]at hr
   repeat'(first|refine gD ?_|(conv=>whnf);first|with_reducible (first|refine Ix.nat (aa hy) ?_|refine Ix.nat hr ?_)|refine Pu.one rfl rfl hr rfl (Nat.le_refl _) rfl ?_|refine Nx.mk (i+1) (by omega) (by omega) ?_)
   repeat'(first|exact trivial|rfl|exact And.intro rfl (And.intro (congrArg (C.s dE.own) (bE hml (aa hy))) trivial)|refine And.intro ?_ ?_)
  ·repeat'(first|refine gD ?_|fail)
   rw[dk _ hml (by simp;omega)]
   rfl
theorem DK (x:aD) (hs:aD.sml x):ah Tryz.prog 280 false [.val (some 2) (aD.enc .imm x)] .agg (aD.enc .own x):=by
 obtain⟨h0,h1⟩:=hs
 refine fO 13 [] Tryz.func280 rfl ?_ (.inr (aD.enc_fr x))
 repeat'(first|refine gO ?_|(conv=>whnf);first|refine Cl.mk (qa x.Cells h0) ?_|refine Cl.mk (Fd x.Used h1) ?_)
 rfl
theorem Gh (x:aG) (hs:aG.sml x):ah Tryz.prog 404 false [.val (some 2) (aG.enc .imm x)] .agg (aG.enc .own x):=by
 refine fO 11 [] Tryz.func404 rfl ?_ (.inr (aG.enc_fr x))
 repeat'(first|refine gO ?_|fail)
 rfl
theorem BN (x:List aG) (hx:iN x):ah Tryz.prog 355 false [.val none (ef .imm x)] .one (ef .own x):=by
 refine fO 23 [] Tryz.func355 rfl ?_ (.inr (Do x))
 have hl:x.length≤1048576:=hx.1
 have hml:(x.map (aG.enc .own)).length=(List.replicate x.length ([I 0,I 0]:List C)).length:=by simp
 repeat'(first|refine gO ?_|(conv=>whnf);first|refine Mk.mk _ rfl rfl (by omega) (ul hl (by decide)) rfl ?_)
 (conv=>whnf)
 refine Lp.mk (ι:=Nat) (fun i=>[(0,.hold .one (ef .imm x)),(3,.hold .one [.s .own (gp (x.map (aG.enc .own)) (List.replicate x.length [I 0,I 0]) i)]),(4,.hold .one [I (i:Nat)])]) (fun i=>i≤x.length) (fun i=>x.length - i) 0 ?_ (Nat.zero_le _) fun i hi=>?_
 ·rw[cj]
  exact wA
 ·by_cases hlt:i<x.length
  ·obtain⟨y,hy⟩ : ∃ y,x[i]? = some y:=⟨_,List.getElem?_eq_getElem hlt⟩
   have hr:=dm hml i (by simp;omega)
   rw[gP hlt]at hr
   repeat'(first|refine gD ?_|(conv=>whnf);first|with_reducible (first|refine Ix.nat (aa hy) ?_|refine Ix.nat hr ?_)|refine Cl.mk (Gh y trivial) ?_|refine Pu.one rfl rfl hr rfl (Nat.le_refl _) rfl ?_|refine Nx.mk (i+1) (by omega) (by omega) ?_)
   repeat'(first|exact trivial|rfl|exact And.intro rfl (And.intro (congrArg (C.s dE.own) (bE hml (aa hy))) trivial)|refine And.intro ?_ ?_)
  ·repeat'(first|refine gD ?_|fail)
   rw[dk _ hml (by simp;omega)]
   rfl
theorem Gb (x:aB) (hs:aB.sml x):ah Tryz.prog 281 false [.val (some 1) (aB.enc .imm x)] .agg (aB.enc .own x):=by
 have h0:=hs
 refine fO 9 [] Tryz.func281 rfl ?_ (.inr (aB.enc_fr x))
 repeat'(first|refine gO ?_|(conv=>whnf);first|refine Cl.mk (BN x.Entries h0) ?_)
 rfl
theorem zE (x:aA) (hs:aA.sml x):ah Tryz.prog 192 false [.val (some 3) (aA.enc .imm x)] .agg (aA.enc .own x):=by
 obtain⟨h0,h1⟩:=hs
 refine fO 13 [] Tryz.func192 rfl ?_ (.inr (aA.enc_fr x))
 repeat'(first|refine gO ?_|(conv=>whnf);first|refine Cl.mk (DK x.Frames h0) ?_|refine Cl.mk (Gb x.Table h1) ?_)
 rfl
theorem BM (x:af) (hs:af.sml x):ah Tryz.prog 86 false [.val (some 5) (af.enc .imm x)] .agg (af.enc .own x):=by
 obtain⟨h0,h1⟩:=hs
 refine fO 16 [] Tryz.func86 rfl ?_ (.inr (af.enc_fr x))
 repeat'(first|refine gO ?_|(conv=>whnf);first|refine Cl.mk (zE x.Machine h0) ?_|refine Cl.mk (sQ x.Refuse h1) ?_)
 rfl
theorem FO (x:ar) (hs:ar.sml x):ah Tryz.prog 194 false [.val (some 2) (ar.enc .imm x)] .agg (ar.enc .own x):=by
 refine fO 11 [] Tryz.func194 rfl ?_ (.inr (ar.enc_fr x))
 repeat'(first|refine gO ?_|fail)
 rfl
theorem BX (x:List ar) (hx:dK x):ah Tryz.prog 87 false [.val none (bg .imm x)] .one (bg .own x):=by
 refine fO 23 [] Tryz.func87 rfl ?_ (.inr (kV x))
 have hl:x.length≤1048576:=hx.1
 have hml:(x.map (ar.enc .own)).length=(List.replicate x.length ([I 0,I 0]:List C)).length:=by simp
 repeat'(first|refine gO ?_|(conv=>whnf);first|refine Mk.mk _ rfl rfl (by omega) (ul hl (by decide)) rfl ?_)
 (conv=>whnf)
 refine Lp.mk (ι:=Nat) (fun i=>[(0,.hold .one (bg .imm x)),(3,.hold .one [.s .own (gp (x.map (ar.enc .own)) (List.replicate x.length [I 0,I 0]) i)]),(4,.hold .one [I (i:Nat)])]) (fun i=>i≤x.length) (fun i=>x.length - i) 0 ?_ (Nat.zero_le _) fun i hi=>?_
 ·rw[cj]
  exact wA
 ·by_cases hlt:i<x.length
  ·obtain⟨y,hy⟩ : ∃ y,x[i]? = some y:=⟨_,List.getElem?_eq_getElem hlt⟩
   have hr:=dm hml i (by simp;omega)
   rw[gP hlt]at hr
   repeat'(first|refine gD ?_|(conv=>whnf);first|with_reducible (first|refine Ix.nat (aa hy) ?_|refine Ix.nat hr ?_)|refine Cl.mk (FO y trivial) ?_|refine Pu.one rfl rfl hr rfl (Nat.le_refl _) rfl ?_|refine Nx.mk (i+1) (by omega) (by omega) ?_)
   repeat'(first|exact trivial|rfl|exact And.intro rfl (And.intro (congrArg (C.s dE.own) (bE hml (aa hy))) trivial)|refine And.intro ?_ ?_)
  ·repeat'(first|refine gD ?_|fail)
   rw[dk _ hml (by simp;omega)]
   rfl
theorem Hq (x:am) (hs:am.sml x):ah Tryz.prog 195 false [.val (some 3) (am.enc .imm x)] .agg (am.enc .own x):=by
 refine fO 14 [] Tryz.func195 rfl ?_ (.inr (am.enc_fr x))
 repeat'(first|refine gO ?_|fail)
 rfl
theorem FJ (x:List am) (hx:cC x):ah Tryz.prog 88 false [.val none (bm .imm x)] .one (bm .own x):=by
 refine fO 23 [] Tryz.func88 rfl ?_ (.inr (qv x))
 have hl:x.length≤1048576:=hx.1
 have hml:(x.map (am.enc .own)).length=(List.replicate x.length ([I 0,I 0,I 0]:List C)).length:=by simp
 repeat'(first|refine gO ?_|(conv=>whnf);first|refine Mk.mk _ rfl rfl (by omega) (ul hl (by decide)) rfl ?_)
 (conv=>whnf)
 refine Lp.mk (ι:=Nat) (fun i=>[(0,.hold .one (bm .imm x)),(3,.hold .one [.s .own (gp (x.map (am.enc .own)) (List.replicate x.length [I 0,I 0,I 0]) i)]),(4,.hold .one [I (i:Nat)])]) (fun i=>i≤x.length) (fun i=>x.length - i) 0 ?_ (Nat.zero_le _) fun i hi=>?_
 ·rw[cj]
  exact wA
 ·by_cases hlt:i<x.length
  ·obtain⟨y,hy⟩ : ∃ y,x[i]? = some y:=⟨_,List.getElem?_eq_getElem hlt⟩
   have hr:=dm hml i (by simp;omega)
   rw[gP hlt]at hr
   repeat'(first|refine gD ?_|(conv=>whnf);first|with_reducible (first|refine Ix.nat (aa hy) ?_|refine Ix.nat hr ?_)|refine Cl.mk (Hq y trivial) ?_|refine Pu.one rfl rfl hr rfl (Nat.le_refl _) rfl ?_|refine Nx.mk (i+1) (by omega) (by omega) ?_)
   repeat'(first|exact trivial|rfl|exact And.intro rfl (And.intro (congrArg (C.s dE.own) (bE hml (aa hy))) trivial)|refine And.intro ?_ ?_)
  ·repeat'(first|refine gD ?_|fail)
   rw[dk _ hml (by simp;omega)]
   rfl
theorem ES (x:au) (hs:au.sml x):ah Tryz.prog 196 false [.val (some 3) (au.enc .imm x)] .agg (au.enc .own x):=by
 refine fO 14 [] Tryz.func196 rfl ?_ (.inr (au.enc_fr x))
 repeat'(first|refine gO ?_|fail)
 rfl
theorem Dx (x:List au) (hx:cg x):ah Tryz.prog 89 false [.val none (bn .imm x)] .one (bn .own x):=by
 refine fO 23 [] Tryz.func89 rfl ?_ (.inr (Dd x))
 have hl:x.length≤1048576:=hx.1
 have hml:(x.map (au.enc .own)).length=(List.replicate x.length ([I 0,I 0,I 0]:List C)).length:=by simp
 repeat'(first|refine gO ?_|(conv=>whnf);first|refine Mk.mk _ rfl rfl (by omega) (ul hl (by decide)) rfl ?_)
 (conv=>whnf)
 refine Lp.mk (ι:=Nat) (fun i=>[(0,.hold .one (bn .imm x)),(3,.hold .one [.s .own (gp (x.map (au.enc .own)) (List.replicate x.length [I 0,I 0,I 0]) i)]),(4,.hold .one [I (i:Nat)])]) (fun i=>i≤x.length) (fun i=>x.length - i) 0 ?_ (Nat.zero_le _) fun i hi=>?_
 ·rw[cj]
  exact wA
 ·by_cases hlt:i<x.length
  ·obtain⟨y,hy⟩ : ∃ y,x[i]? = some y:=⟨_,List.getElem?_eq_getElem hlt⟩
   have hr:=dm hml i (by simp;omega)
   rw[gP hlt]at hr
   repeat'(first|refine gD ?_|(conv=>whnf);first|with_reducible (first|refine Ix.nat (aa hy) ?_|refine Ix.nat hr ?_)|refine Cl.mk (ES y trivial) ?_|refine Pu.one rfl rfl hr rfl (Nat.le_refl _) rfl ?_|refine Nx.mk (i+1) (by omega) (by omega) ?_)
   repeat'(first|exact trivial|rfl|exact And.intro rfl (And.intro (congrArg (C.s dE.own) (bE hml (aa hy))) trivial)|refine And.intro ?_ ?_)
  ·repeat'(first|refine gD ?_|fail)
   rw[dk _ hml (by simp;omega)]
   rfl
theorem JE (x:aX) (hs:aX.sml x):ah Tryz.prog 197 false [.val (some 4) (aX.enc .imm x)] .agg (aX.enc .own x):=by
 refine fO 17 [] Tryz.func197 rfl ?_ (.inr (aX.enc_fr x))
 repeat'(first|refine gO ?_|fail)
 rfl
theorem Hm (x:List aX) (hx:mn x):ah Tryz.prog 90 false [.val none (eD .imm x)] .one (eD .own x):=by
 refine fO 23 [] Tryz.func90 rfl ?_ (.inr (HU x))
 have hl:x.length≤1048576:=hx.1
 have hml:(x.map (aX.enc .own)).length=(List.replicate x.length ([I 0,I 0,I 0,I 0]:List C)).length:=by simp
 repeat'(first|refine gO ?_|(conv=>whnf);first|refine Mk.mk _ rfl rfl (by omega) (ul hl (by decide)) rfl ?_)
 (conv=>whnf)
 refine Lp.mk (ι:=Nat) (fun i=>[(0,.hold .one (eD .imm x)),(3,.hold .one [.s .own (gp (x.map (aX.enc .own)) (List.replicate x.length [I 0,I 0,I 0,I 0]) i)]),(4,.hold .one [I (i:Nat)])]) (fun i=>i≤x.length) (fun i=>x.length - i) 0 ?_ (Nat.zero_le _) fun i hi=>?_
 ·rw[cj]
  exact wA
 ·by_cases hlt:i<x.length
  ·obtain⟨y,hy⟩ : ∃ y,x[i]? = some y:=⟨_,List.getElem?_eq_getElem hlt⟩
   have hr:=dm hml i (by simp;omega)
   rw[gP hlt]at hr
   repeat'(first|refine gD ?_|(conv=>whnf);first|with_reducible (first|refine Ix.nat (aa hy) ?_|refine Ix.nat hr ?_)|refine Cl.mk (JE y trivial) ?_|refine Pu.one rfl rfl hr rfl (Nat.le_refl _) rfl ?_|refine Nx.mk (i+1) (by omega) (by omega) ?_)
   repeat'(first|exact trivial|rfl|exact And.intro rfl (And.intro (congrArg (C.s dE.own) (bE hml (aa hy))) trivial)|refine And.intro ?_ ?_)
  ·repeat'(first|refine gD ?_|fail)
   rw[dk _ hml (by simp;omega)]
   rfl
theorem FZ (x:ay) (hs:ay.sml x):ah Tryz.prog 198 false [.val (some 1) (ay.enc .imm x)] .agg (ay.enc .own x):=by
 have h0:=hs
 refine fO 9 [] Tryz.func198 rfl ?_ (.inr (ay.enc_fr x))
 repeat'(first|refine gO ?_|(conv=>whnf);first|refine Cl.mk (qa x.Lists h0) ?_)
 rfl
theorem BL (x:List ay) (hx:iI x):ah Tryz.prog 91 false [.val none (dh .imm x)] .one (dh .own x):=by
 refine fO 23 [] Tryz.func91 rfl ?_ (.inr (Ee x))
 have hl:x.length≤1048576:=hx.1
 have hml:(x.map (ay.enc .own)).length=(List.replicate x.length ([.z]:List C)).length:=by simp
 repeat'(first|refine gO ?_|(conv=>whnf);first|refine Mk.mk _ rfl rfl (by omega) (ul hl (by decide)) rfl ?_)
 (conv=>whnf)
 refine Lp.mk (ι:=Nat) (fun i=>[(0,.hold .one (dh .imm x)),(3,.hold .one [.s .own (gp (x.map (ay.enc .own)) (List.replicate x.length [.z]) i)]),(4,.hold .one [I (i:Nat)])]) (fun i=>i≤x.length) (fun i=>x.length - i) 0 ?_ (Nat.zero_le _) fun i hi=>?_
 ·rw[cj]
  exact wA
 ·by_cases hlt:i<x.length
  ·obtain⟨y,hy⟩ : ∃ y,x[i]? = some y:=⟨_,List.getElem?_eq_getElem hlt⟩
   have hr:=dm hml i (by simp;omega)
   rw[gP hlt]at hr
   repeat'(first|refine gD ?_|(conv=>whnf);first|with_reducible (first|refine Ix.nat (aa hy) ?_|refine Ix.nat hr ?_)|refine Cl.mk (FZ y (hx.2 y (List.mem_of_getElem? hy))) ?_|refine Pu.one rfl rfl hr rfl (Nat.le_refl _) rfl ?_|refine Nx.mk (i+1) (by omega) (by omega) ?_)
   repeat'(first|exact trivial|rfl|exact And.intro rfl (And.intro (congrArg (C.s dE.own) (bE hml (aa hy))) trivial)|refine And.intro ?_ ?_)
  ·repeat'(first|refine gD ?_|fail)
   rw[dk _ hml (by simp;omega)]
   rfl
theorem Jz (x:aM) (hs:aM.sml x):ah Tryz.prog 356 false [.val (some 2) (aM.enc .imm x)] .agg (aM.enc .own x):=by
 refine fO 11 [] Tryz.func356 rfl ?_ (.inr (aM.enc_fr x))
 repeat'(first|refine gO ?_|fail)
 rfl
theorem Fe (x:List aM) (hx:km x):ah Tryz.prog 282 false [.val none (b6 .imm x)] .one (b6 .own x):=by
 refine fO 23 [] Tryz.func282 rfl ?_ (.inr (k5 x))
 have hl:x.length≤1048576:=hx.1
 have hml:(x.map (aM.enc .own)).length=(List.replicate x.length ([I 0,I 0]:List C)).length:=by simp
 repeat'(first|refine gO ?_|(conv=>whnf);first|refine Mk.mk _ rfl rfl (by omega) (ul hl (by decide)) rfl ?_)
 (conv=>whnf)
 refine Lp.mk (ι:=Nat) (fun i=>[(0,.hold .one (b6 .imm x)),(3,.hold .one [.s .own (gp (x.map (aM.enc .own)) (List.replicate x.length [I 0,I 0]) i)]),(4,.hold .one [I (i:Nat)])]) (fun i=>i≤x.length) (fun i=>x.length - i) 0 ?_ (Nat.zero_le _) fun i hi=>?_
 ·rw[cj]
  exact wA
 ·by_cases hlt:i<x.length
  ·obtain⟨y,hy⟩ : ∃ y,x[i]? = some y:=⟨_,List.getElem?_eq_getElem hlt⟩
   have hr:=dm hml i (by simp;omega)
   rw[gP hlt]at hr
   repeat'(first|refine gD ?_|(conv=>whnf);first|with_reducible (first|refine Ix.nat (aa hy) ?_|refine Ix.nat hr ?_)|refine Cl.mk (Jz y trivial) ?_|refine Pu.one rfl rfl hr rfl (Nat.le_refl _) rfl ?_|refine Nx.mk (i+1) (by omega) (by omega) ?_)
   repeat'(first|exact trivial|rfl|exact And.intro rfl (And.intro (congrArg (C.s dE.own) (bE hml (aa hy))) trivial)|refine And.intro ?_ ?_)
  ·repeat'(first|refine gD ?_|fail)
   rw[dk _ hml (by simp;omega)]
   rfl
theorem Bp (x:List (List aM)) (hx:iK x):ah Tryz.prog 199 false [.val none (dG .imm x)] .one (dG .own x):=by
 refine fO 23 [] Tryz.func199 rfl ?_ (.inr (D6 x))
 have hl:x.length≤1048576:=hx.1
 have hml:(x.map (b6 .own)).length=(List.replicate x.length ([.z]:List C)).length:=by simp
 repeat'(first|refine gO ?_|(conv=>whnf);first|refine Mk.mk _ rfl rfl (by omega) (ul hl (by decide)) rfl ?_)
 (conv=>whnf)
 refine Lp.mk (ι:=Nat) (fun i=>[(0,.hold .one (dG .imm x)),(3,.hold .one [.s .own (gp (x.map (b6 .own)) (List.replicate x.length [.z]) i)]),(4,.hold .one [I (i:Nat)])]) (fun i=>i≤x.length) (fun i=>x.length - i) 0 ?_ (Nat.zero_le _) fun i hi=>?_
 ·rw[cj]
  exact wA
 ·by_cases hlt:i<x.length
  ·obtain⟨y,hy⟩ : ∃ y,x[i]? = some y:=⟨_,List.getElem?_eq_getElem hlt⟩
   have hr:=dm hml i (by simp;omega)
   rw[gP hlt]at hr
   repeat'(first|refine gD ?_|(conv=>whnf);first|with_reducible (first|refine Ix.nat (aa hy) ?_|refine Ix.nat hr ?_)|refine Cl.mk (Fe y (hx.2 y (List.mem_of_getElem? hy))) ?_|refine Pu.one rfl rfl hr rfl (Nat.le_refl _) rfl ?_|refine Nx.mk (i+1) (by omega) (by omega) ?_)
   repeat'(first|exact trivial|rfl|exact And.intro rfl (And.intro (congrArg (C.s dE.own) (bE hml (aa hy))) trivial)|refine And.intro ?_ ?_)
  ·repeat'(first|refine gD ?_|fail)
   rw[dk _ hml (by simp;omega)]
   rfl
theorem HO (x:aK) (hs:aK.sml x):ah Tryz.prog 92 false [.val (some 2) (aK.enc .imm x)] .agg (aK.enc .own x):=by
 obtain⟨h0,h1⟩:=hs
 refine fO 13 [] Tryz.func92 rfl ?_ (.inr (aK.enc_fr x))
 repeat'(first|refine gO ?_|(conv=>whnf);first|refine Cl.mk (Bp x.Buffers h0) ?_|refine Cl.mk (qa x.Inbox h1) ?_)
 rfl
theorem EJ (x:aE) (hs:aE.sml x):ah Tryz.prog 283 false [.val (some 3) (aE.enc .imm x)] .agg (aE.enc .own x):=by
 refine fO 14 [] Tryz.func283 rfl ?_ (.inr (aE.enc_fr x))
 repeat'(first|refine gO ?_|fail)
 rfl
theorem Dm (x:List aE) (hx:eO x):ah Tryz.prog 201 false [.val none (ce .imm x)] .one (ce .own x):=by
 refine fO 23 [] Tryz.func201 rfl ?_ (.inr (Ei x))
 have hl:x.length≤1048576:=hx.1
 have hml:(x.map (aE.enc .own)).length=(List.replicate x.length ([I 0,I 0,I 0]:List C)).length:=by simp
 repeat'(first|refine gO ?_|(conv=>whnf);first|refine Mk.mk _ rfl rfl (by omega) (ul hl (by decide)) rfl ?_)
 (conv=>whnf)
 refine Lp.mk (ι:=Nat) (fun i=>[(0,.hold .one (ce .imm x)),(3,.hold .one [.s .own (gp (x.map (aE.enc .own)) (List.replicate x.length [I 0,I 0,I 0]) i)]),(4,.hold .one [I (i:Nat)])]) (fun i=>i≤x.length) (fun i=>x.length - i) 0 ?_ (Nat.zero_le _) fun i hi=>?_
 ·rw[cj]
  exact wA
 ·by_cases hlt:i<x.length
  ·obtain⟨y,hy⟩ : ∃ y,x[i]? = some y:=⟨_,List.getElem?_eq_getElem hlt⟩
   have hr:=dm hml i (by simp;omega)
   rw[gP hlt]at hr
   repeat'(first|refine gD ?_|(conv=>whnf);first|with_reducible (first|refine Ix.nat (aa hy) ?_|refine Ix.nat hr ?_)|refine Cl.mk (EJ y trivial) ?_|refine Pu.one rfl rfl hr rfl (Nat.le_refl _) rfl ?_|refine Nx.mk (i+1) (by omega) (by omega) ?_)
   repeat'(first|exact trivial|rfl|exact And.intro rfl (And.intro (congrArg (C.s dE.own) (bE hml (aa hy))) trivial)|refine And.intro ?_ ?_)
  ·repeat'(first|refine gD ?_|fail)
   rw[dk _ hml (by simp;omega)]
   rfl
theorem HG (x:aQ) (hs:aQ.sml x):ah Tryz.prog 93 false [.val (some 2) (aQ.enc .imm x)] .agg (aQ.enc .own x):=by
 have h0:=hs
 refine fO 12 [] Tryz.func93 rfl ?_ (.inr (aQ.enc_fr x))
 repeat'(first|refine gO ?_|(conv=>whnf);first|refine Cl.mk (Dm x.Lst h0) ?_)
 rfl
theorem Ji (x:aN) (hs:aN.sml x):ah Tryz.prog 202 false [.val (some 3) (aN.enc .imm x)] .agg (aN.enc .own x):=by
 have h0:=hs
 refine fO 15 [] Tryz.func202 rfl ?_ (.inr (aN.enc_fr x))
 repeat'(first|refine gO ?_|(conv=>whnf);first|refine Cl.mk (sQ x.Cells h0) ?_)
 rfl
theorem JF (x:aZ) (hs:aZ.sml x):ah Tryz.prog 94 false [.val (some 5) (aZ.enc .imm x)] .agg (aZ.enc .own x):=by
 have h0:=hs
 refine fO 15 [] Tryz.func94 rfl ?_ (.inr (aZ.enc_fr x))
 repeat'(first|refine gO ?_|(conv=>whnf);first|refine Cl.mk (Ji x.Plan h0) ?_)
 rfl
theorem H6 (x:ac) (hs:ac.sml x):ah Tryz.prog 24 false [.val (some 24) (ac.enc .imm x)] .agg (ac.enc .own x):=by
 obtain⟨h0,h1,h2,h3,h4,h5,h6,h7,h8⟩:=hs
 refine fO 56 [] Tryz.func24 rfl ?_ (.inr (ac.enc_fr x))
 repeat'(first|refine gO ?_|(conv=>whnf);first|refine Cl.mk (BM x.Kernel h0) ?_|refine Cl.mk (BX x.Free h1) ?_|refine Cl.mk (FJ x.Spans h2) ?_|refine Cl.mk (Dx x.Larges h3) ?_|refine Cl.mk (Hm x.Objs h4) ?_|refine Cl.mk (BL x.Caches h5) ?_|refine Cl.mk (HO x.Mail h6) ?_|refine Cl.mk (HG x.Quar h7) ?_|refine Cl.mk (JF x.Job h8) ?_)
 rfl
end Go.Proofs.YtplcalfnngkffaaGreat.Ab
/- Contracts of the laws' generic functions (sz). Printed by gen_con.py. No condition. -/
namespace Go.Proofs.YtplcalfnngkffaaGreat.Ab
open Go.RowKit
set_option maxRecDepth 20000
set_option maxHeartbeats 2000000
theorem su (x:List Int) (left:Int) (h0:0≤left) (h1:left≤1048576) (hw:eX x):ah Tryz.prog 166 false [.val none (aI .imm x),.val none [I left]] .one [I (jg (szIntS x) left)]:=by
 refine fO 12 [] Tryz.func166 rfl ?_
 have hl:=hw.1
 repeat'(first|refine gD ?_|(conv=>whnf);first|with_reducible refine Bf.D (fun h=>?_) (fun h=>?_))
 all_goals exact congrArg (fun z=>[I z]) (by unfold jg szIntS;split<;>omega)
theorem qj (x:List (List Int)) (left:Int) (h0:0≤left) (h1:left≤1048576) (hw:qS x):ah Tryz.prog 169 false [.val none (ed .imm x),.val none [I left]] .one [I (jg (szIntSS x) left)]:=by
 refine fO 27 [] Tryz.func169 rfl ?_
 have hl:=hw.1
 repeat'(first|refine gD ?_|(conv=>whnf);first|with_reducible refine Bf.D (fun h=>?_) (fun h=>?_))
 ·exact congrArg (fun z=>[I z]) (by unfold jg szIntSS;split<;>omega)
 (conv=>whnf)
 refine Lp.mk (ι:=Nat) (fun i=>[(0,.hold .one (ed .imm x)),(1,.hold .one [I (left - x.length - (dX x i:Nat))]),(5,.hold .one [I (i:Nat)])]) (fun i=>i≤x.length∧(x.length+dX x i:Int)≤left) (fun i=>x.length - i) 0 ?_ ⟨Nat.zero_le _,by rw[k8];omega⟩ fun i hi=>?_
 ·rw[k8]
  repeat'(first|exact trivial|rfl|exact And.intro rfl (And.intro (congrArg I (by omega)) trivial)|refine And.intro ?_ ?_)
 ·obtain⟨hi,hpi⟩:=hi
  have hpl:=mX x i
  by_cases hlt:i<x.length
  ·obtain⟨y,hy⟩ : ∃ y,x[i]? = some y:=⟨_,List.getElem?_eq_getElem hlt⟩
   have hps:=nI x i y hy
   have hpl2:=mX x (i+1)
   repeat'(first|refine gD ?_|(conv=>whnf);first|with_reducible (first|refine Ix.nat (aa hy) ?_|refine Bf.D (fun h=>?_) (fun h=>?_))|refine Cl.sz (su y _ (by omega) (by omega) (hw.2 y (List.mem_of_getElem? hy))) (fun h=>?_) (fun h=>?_)|refine Nx.mk (i+1) ⟨by omega,by omega⟩ (by omega) ?_)
   ·exact congrArg (fun z=>[I z]) (by unfold jg szIntSS;split<;>omega)
   ·rw[hps]
    repeat'(first|exact trivial|rfl|exact And.intro rfl (And.intro (congrArg I (by omega)) trivial)|refine And.intro ?_ ?_)
  ·repeat'(first|refine gD ?_|(conv=>whnf);first|with_reducible refine Bf.D (fun h=>?_) (fun h=>?_))
   have he:i=x.length:=by omega
   subst he
   rw[pO]at hpi ⊢
   exact congrArg (fun z=>[I z]) (by unfold jg szIntSS;split<;>omega)
theorem Fr (x:List Bool) (left:Int) (h0:0≤left) (h1:left≤1048576) (hw:zF x):ah Tryz.prog 331 false [.val none (fu .imm x),.val none [I left]] .one [I (jg (szBoolS x) left)]:=by
 refine fO 12 [] Tryz.func331 rfl ?_
 have hl:=hw.1
 repeat'(first|refine gD ?_|(conv=>whnf);first|with_reducible refine Bf.D (fun h=>?_) (fun h=>?_))
 all_goals exact congrArg (fun z=>[I z]) (by unfold jg szBoolS;split<;>omega)
theorem BJ (x:aD) (left:Int) (h0:0≤left) (h1:left≤1048576) (hw:aD.wf x):ah Tryz.prog 254 false [.val (some 2) (aD.enc .imm x),.val none [I left]] .one [I (jg (aD.sz x) left)]:=by
 obtain⟨wCells,wUsed⟩:=hw
 refine fO 18 [] Tryz.func254 rfl ?_
 repeat'(first|refine gD ?_|(conv=>whnf);first|with_reducible refine Bf.D (fun h=>?_) (fun h=>?_)|refine Cl.sz (qj x.Cells _ (by omega) (by omega) wCells) (fun h=>?_) (fun h=>?_)|refine Cl.sz (Fr x.Used _ (by omega) (by omega) wUsed) (fun h=>?_) (fun h=>?_))
 all_goals exact congrArg (fun z=>[I z]) (by unfold jg aD.sz;split<;>omega)
theorem DM (x:List aG) (left:Int) (h0:0≤left) (h1:left≤1048576) (hw:sI x):ah Tryz.prog 332 false [.val none (ef .imm x),.val none [I left]] .one [I (jg (kh x) left)]:=by
 refine fO 12 [] Tryz.func332 rfl ?_
 have hl:=hw.1
 repeat'(first|refine gD ?_|(conv=>whnf);first|with_reducible refine Bf.D (fun h=>?_) (fun h=>?_))
 all_goals exact congrArg (fun z=>[I z]) (by unfold jg kh;split<;>omega)
theorem Fo (x:aB) (left:Int) (h0:0≤left) (h1:left≤1048576) (hw:aB.wf x):ah Tryz.prog 255 false [.val (some 1) (aB.enc .imm x),.val none [I left]] .one [I (jg (aB.sz x) left)]:=by
 refine fO 12 [] Tryz.func255 rfl ?_
 repeat'(first|refine gD ?_|(conv=>whnf);first|with_reducible refine Bf.D (fun h=>?_) (fun h=>?_)|refine Cl.sz (DM x.Entries _ (by omega) (by omega) hw) (fun h=>?_) (fun h=>?_))
 all_goals exact congrArg (fun z=>[I z]) (by unfold jg aB.sz;split<;>omega)
theorem AG (x:aA) (left:Int) (h0:0≤left) (h1:left≤1048576) (hw:aA.wf x):ah Tryz.prog 165 false [.val (some 3) (aA.enc .imm x),.val none [I left]] .one [I (jg (aA.sz x) left)]:=by
 obtain⟨wFrames,wTable⟩:=hw
 refine fO 18 [] Tryz.func165 rfl ?_
 repeat'(first|refine gD ?_|(conv=>whnf);first|with_reducible refine Bf.D (fun h=>?_) (fun h=>?_)|refine Cl.sz (BJ x.Frames _ (by omega) (by omega) wFrames) (fun h=>?_) (fun h=>?_)|refine Cl.sz (Fo x.Table _ (by omega) (by omega) wTable) (fun h=>?_) (fun h=>?_))
 all_goals exact congrArg (fun z=>[I z]) (by unfold jg aA.sz;split<;>omega)
theorem E4 (x:af) (left:Int) (h0:0≤left) (h1:left≤1048576) (hw:af.wf x):ah Tryz.prog 73 false [.val (some 5) (af.enc .imm x),.val none [I left]] .one [I (jg (af.sz x) left)]:=by
 obtain⟨wMachine,wCalls,wRefuse⟩:=hw
 refine fO 18 [] Tryz.func73 rfl ?_
 repeat'(first|refine gD ?_|(conv=>whnf);first|with_reducible refine Bf.D (fun h=>?_) (fun h=>?_)|refine Cl.sz (AG x.Machine _ (by omega) (by omega) wMachine) (fun h=>?_) (fun h=>?_)|refine Cl.sz (su x.Refuse _ (by omega) (by omega) wRefuse) (fun h=>?_) (fun h=>?_))
 all_goals exact congrArg (fun z=>[I z]) (by unfold jg af.sz;split<;>omega)
theorem B1 (x:List ar) (left:Int) (h0:0≤left) (h1:left≤1048576) (hw:sU x):ah Tryz.prog 74 false [.val none (bg .imm x),.val none [I left]] .one [I (jg (kj x) left)]:=by
 refine fO 12 [] Tryz.func74 rfl ?_
 have hl:=hw.1
 repeat'(first|refine gD ?_|(conv=>whnf);first|with_reducible refine Bf.D (fun h=>?_) (fun h=>?_))
 all_goals exact congrArg (fun z=>[I z]) (by unfold jg kj;split<;>omega)
theorem Fw (x:List am) (left:Int) (h0:0≤left) (h1:left≤1048576) (hw:vt x):ah Tryz.prog 75 false [.val none (bm .imm x),.val none [I left]] .one [I (jg (mq x) left)]:=by
 refine fO 12 [] Tryz.func75 rfl ?_
 have hl:=hw.1
 repeat'(first|refine gD ?_|(conv=>whnf);first|with_reducible refine Bf.D (fun h=>?_) (fun h=>?_))
 all_goals exact congrArg (fun z=>[I z]) (by unfold jg mq;split<;>omega)
theorem Bh (x:List au) (left:Int) (h0:0≤left) (h1:left≤1048576) (hw:rU x):ah Tryz.prog 76 false [.val none (bn .imm x),.val none [I left]] .one [I (jg (kc x) left)]:=by
 refine fO 12 [] Tryz.func76 rfl ?_
 have hl:=hw.1
 repeat'(first|refine gD ?_|(conv=>whnf);first|with_reducible refine Bf.D (fun h=>?_) (fun h=>?_))
 all_goals exact congrArg (fun z=>[I z]) (by unfold jg kc;split<;>omega)
theorem Ja (x:List aX) (left:Int) (h0:0≤left) (h1:left≤1048576) (hw:AY x):ah Tryz.prog 77 false [.val none (eD .imm x),.val none [I left]] .one [I (jg (oP x) left)]:=by
 refine fO 12 [] Tryz.func77 rfl ?_
 have hl:=hw.1
 repeat'(first|refine gD ?_|(conv=>whnf);first|with_reducible refine Bf.D (fun h=>?_) (fun h=>?_))
 all_goals exact congrArg (fun z=>[I z]) (by unfold jg oP;split<;>omega)
theorem Fp (x:ay) (left:Int) (h0:0≤left) (h1:left≤1048576) (hw:ay.wf x):ah Tryz.prog 167 false [.val (some 1) (ay.enc .imm x),.val none [I left]] .one [I (jg (ay.sz x) left)]:=by
 refine fO 12 [] Tryz.func167 rfl ?_
 repeat'(first|refine gD ?_|(conv=>whnf);first|with_reducible refine Bf.D (fun h=>?_) (fun h=>?_)|refine Cl.sz (qj x.Lists _ (by omega) (by omega) hw) (fun h=>?_) (fun h=>?_))
 all_goals exact congrArg (fun z=>[I z]) (by unfold jg ay.sz;split<;>omega)
theorem Ej (x:List ay) (left:Int) (h0:0≤left) (h1:left≤1048576) (hw:sK x):ah Tryz.prog 78 false [.val none (dh .imm x),.val none [I left]] .one [I (jg (fQ x) left)]:=by
 refine fO 27 [] Tryz.func78 rfl ?_
 have hl:=hw.1
 repeat'(first|refine gD ?_|(conv=>whnf);first|with_reducible refine Bf.D (fun h=>?_) (fun h=>?_))
 ·exact congrArg (fun z=>[I z]) (by unfold jg fQ;split<;>omega)
 (conv=>whnf)
 refine Lp.mk (ι:=Nat) (fun i=>[(0,.hold .one (dh .imm x)),(1,.hold .one [I (left - x.length - (cO x i:Nat))]),(5,.hold .one [I (i:Nat)])]) (fun i=>i≤x.length∧(x.length+cO x i:Int)≤left) (fun i=>x.length - i) 0 ?_ ⟨Nat.zero_le _,by rw[iL];omega⟩ fun i hi=>?_
 ·rw[iL]
  repeat'(first|exact trivial|rfl|exact And.intro rfl (And.intro (congrArg I (by omega)) trivial)|refine And.intro ?_ ?_)
 ·obtain⟨hi,hpi⟩:=hi
  have hpl:=kB x i
  by_cases hlt:i<x.length
  ·obtain⟨y,hy⟩ : ∃ y,x[i]? = some y:=⟨_,List.getElem?_eq_getElem hlt⟩
   have hps:=mg x i y hy
   have hpl2:=kB x (i+1)
   repeat'(first|refine gD ?_|(conv=>whnf);first|with_reducible (first|refine Ix.nat (aa hy) ?_|refine Bf.D (fun h=>?_) (fun h=>?_))|refine Cl.sz (Fp y _ (by omega) (by omega) (hw.2 y (List.mem_of_getElem? hy))) (fun h=>?_) (fun h=>?_)|refine Nx.mk (i+1) ⟨by omega,by omega⟩ (by omega) ?_)
   ·exact congrArg (fun z=>[I z]) (by unfold jg fQ;split<;>omega)
   ·rw[hps]
    repeat'(first|exact trivial|rfl|exact And.intro rfl (And.intro (congrArg I (by omega)) trivial)|refine And.intro ?_ ?_)
  ·repeat'(first|refine gD ?_|(conv=>whnf);first|with_reducible refine Bf.D (fun h=>?_) (fun h=>?_))
   have he:i=x.length:=by omega
   subst he
   rw[nv]at hpi ⊢
   exact congrArg (fun z=>[I z]) (by unfold jg fQ;split<;>omega)
theorem F6 (x:List aM) (left:Int) (h0:0≤left) (h1:left≤1048576) (hw:wl x):ah Tryz.prog 256 false [.val none (b6 .imm x),.val none [I left]] .one [I (jg (iz x) left)]:=by
 refine fO 12 [] Tryz.func256 rfl ?_
 have hl:=hw.1
 repeat'(first|refine gD ?_|(conv=>whnf);first|with_reducible refine Bf.D (fun h=>?_) (fun h=>?_))
 all_goals exact congrArg (fun z=>[I z]) (by unfold jg iz;split<;>omega)
theorem DT (x:List (List aM)) (left:Int) (h0:0≤left) (h1:left≤1048576) (hw:sX x):ah Tryz.prog 168 false [.val none (dG .imm x),.val none [I left]] .one [I (jg (fJ x) left)]:=by
 refine fO 27 [] Tryz.func168 rfl ?_
 have hl:=hw.1
 repeat'(first|refine gD ?_|(conv=>whnf);first|with_reducible refine Bf.D (fun h=>?_) (fun h=>?_))
 ·exact congrArg (fun z=>[I z]) (by unfold jg fJ;split<;>omega)
 (conv=>whnf)
 refine Lp.mk (ι:=Nat) (fun i=>[(0,.hold .one (dG .imm x)),(1,.hold .one [I (left - x.length - (cP x i:Nat))]),(5,.hold .one [I (i:Nat)])]) (fun i=>i≤x.length∧(x.length+cP x i:Int)≤left) (fun i=>x.length - i) 0 ?_ ⟨Nat.zero_le _,by rw[iM];omega⟩ fun i hi=>?_
 ·rw[iM]
  repeat'(first|exact trivial|rfl|exact And.intro rfl (And.intro (congrArg I (by omega)) trivial)|refine And.intro ?_ ?_)
 ·obtain⟨hi,hpi⟩:=hi
  have hpl:=kC x i
  by_cases hlt:i<x.length
  ·obtain⟨y,hy⟩ : ∃ y,x[i]? = some y:=⟨_,List.getElem?_eq_getElem hlt⟩
   have hps:=md x i y hy
   have hpl2:=kC x (i+1)
   repeat'(first|refine gD ?_|(conv=>whnf);first|with_reducible (first|refine Ix.nat (aa hy) ?_|refine Bf.D (fun h=>?_) (fun h=>?_))|refine Cl.sz (F6 y _ (by omega) (by omega) (hw.2 y (List.mem_of_getElem? hy))) (fun h=>?_) (fun h=>?_)|refine Nx.mk (i+1) ⟨by omega,by omega⟩ (by omega) ?_)
   ·exact congrArg (fun z=>[I z]) (by unfold jg fJ;split<;>omega)
   ·rw[hps]
    repeat'(first|exact trivial|rfl|exact And.intro rfl (And.intro (congrArg I (by omega)) trivial)|refine And.intro ?_ ?_)
  ·repeat'(first|refine gD ?_|(conv=>whnf);first|with_reducible refine Bf.D (fun h=>?_) (fun h=>?_))
   have he:i=x.length:=by omega
   subst he
   rw[nm]at hpi ⊢
   exact congrArg (fun z=>[I z]) (by unfold jg fJ;split<;>omega)
theorem Jm (x:aK) (left:Int) (h0:0≤left) (h1:left≤1048576) (hw:aK.wf x):ah Tryz.prog 79 false [.val (some 2) (aK.enc .imm x),.val none [I left]] .one [I (jg (aK.sz x) left)]:=by
 obtain⟨wBuffers,wInbox⟩:=hw
 refine fO 18 [] Tryz.func79 rfl ?_
 repeat'(first|refine gD ?_|(conv=>whnf);first|with_reducible refine Bf.D (fun h=>?_) (fun h=>?_)|refine Cl.sz (DT x.Buffers _ (by omega) (by omega) wBuffers) (fun h=>?_) (fun h=>?_)|refine Cl.sz (qj x.Inbox _ (by omega) (by omega) wInbox) (fun h=>?_) (fun h=>?_))
 all_goals exact congrArg (fun z=>[I z]) (by unfold jg aK.sz;split<;>omega)
theorem B5 (x:List aE) (left:Int) (h0:0≤left) (h1:left≤1048576) (hw:sx x):ah Tryz.prog 170 false [.val none (ce .imm x),.val none [I left]] .one [I (jg (jZ x) left)]:=by
 refine fO 12 [] Tryz.func170 rfl ?_
 have hl:=hw.1
 repeat'(first|refine gD ?_|(conv=>whnf);first|with_reducible refine Bf.D (fun h=>?_) (fun h=>?_))
 all_goals exact congrArg (fun z=>[I z]) (by unfold jg jZ;split<;>omega)
theorem HF (x:aQ) (left:Int) (h0:0≤left) (h1:left≤1048576) (hw:aQ.wf x):ah Tryz.prog 80 false [.val (some 2) (aQ.enc .imm x),.val none [I left]] .one [I (jg (aQ.sz x) left)]:=by
 obtain⟨wRoom,wLst⟩:=hw
 refine fO 12 [] Tryz.func80 rfl ?_
 repeat'(first|refine gD ?_|(conv=>whnf);first|with_reducible refine Bf.D (fun h=>?_) (fun h=>?_)|refine Cl.sz (B5 x.Lst _ (by omega) (by omega) wLst) (fun h=>?_) (fun h=>?_))
 all_goals exact congrArg (fun z=>[I z]) (by unfold jg aQ.sz;split<;>omega)
theorem Hu (x:aN) (left:Int) (h0:0≤left) (h1:left≤1048576) (hw:aN.wf x):ah Tryz.prog 171 false [.val (some 3) (aN.enc .imm x),.val none [I left]] .one [I (jg (aN.sz x) left)]:=by
 obtain⟨wKeep,wMove,wCells⟩:=hw
 refine fO 12 [] Tryz.func171 rfl ?_
 repeat'(first|refine gD ?_|(conv=>whnf);first|with_reducible refine Bf.D (fun h=>?_) (fun h=>?_)|refine Cl.sz (su x.Cells _ (by omega) (by omega) wCells) (fun h=>?_) (fun h=>?_))
 all_goals exact congrArg (fun z=>[I z]) (by unfold jg aN.sz;split<;>omega)
theorem JX (x:aZ) (left:Int) (h0:0≤left) (h1:left≤1048576) (hw:aZ.wf x):ah Tryz.prog 81 false [.val (some 5) (aZ.enc .imm x),.val none [I left]] .one [I (jg (aZ.sz x) left)]:=by
 obtain⟨wPlan,wPhase,wNext⟩:=hw
 refine fO 12 [] Tryz.func81 rfl ?_
 repeat'(first|refine gD ?_|(conv=>whnf);first|with_reducible refine Bf.D (fun h=>?_) (fun h=>?_)|refine Cl.sz (Hu x.Plan _ (by omega) (by omega) wPlan) (fun h=>?_) (fun h=>?_))
 all_goals exact congrArg (fun z=>[I z]) (by unfold jg aZ.sz;split<;>omega)
theorem zd (x:ac) (left:Int) (h0:0≤left) (h1:left≤1048576) (hw:ac.wf x):ah Tryz.prog 22 false [.val (some 24) (ac.enc .imm x),.val none [I left]] .one [I (jg (ac.sz x) left)]:=by
 obtain⟨wKernel,wFree,wSpans,wLarges,wObjs,wCaches,wMail,wQuar,wSeed,wClock,wLimit,wNext,wMeshing,wJob⟩:=hw
 refine fO 60 [] Tryz.func22 rfl ?_
 repeat'(first|refine gD ?_|(conv=>whnf);first|with_reducible refine Bf.D (fun h=>?_) (fun h=>?_)|refine Cl.sz (E4 x.Kernel _ (by omega) (by omega) wKernel) (fun h=>?_) (fun h=>?_)|refine Cl.sz (B1 x.Free _ (by omega) (by omega) wFree) (fun h=>?_) (fun h=>?_)|refine Cl.sz (Fw x.Spans _ (by omega) (by omega) wSpans) (fun h=>?_) (fun h=>?_)|refine Cl.sz (Bh x.Larges _ (by omega) (by omega) wLarges) (fun h=>?_) (fun h=>?_)|refine Cl.sz (Ja x.Objs _ (by omega) (by omega) wObjs) (fun h=>?_) (fun h=>?_)|refine Cl.sz (Ej x.Caches _ (by omega) (by omega) wCaches) (fun h=>?_) (fun h=>?_)|refine Cl.sz (Jm x.Mail _ (by omega) (by omega) wMail) (fun h=>?_) (fun h=>?_)|refine Cl.sz (HF x.Quar _ (by omega) (by omega) wQuar) (fun h=>?_) (fun h=>?_)|refine Cl.sz (JX x.Job _ (by omega) (by omega) wJob) (fun h=>?_) (fun h=>?_))
 all_goals exact congrArg (fun z=>[I z]) (by unfold jg ac.sz;split<;>omega)
end Go.Proofs.YtplcalfnngkffaaGreat.Ab
/- Contracts of the laws' generic functions (eq). Printed by gen_con.py. No condition. -/
namespace Go.Proofs.YtplcalfnngkffaaGreat.Ab
open Go.RowKit
set_option maxRecDepth 20000
set_option maxHeartbeats 2000000
theorem sd (a b:List Int) (hs:iR a):ah Tryz.prog 209 false [.val none (aI .imm a),.val none (aI .imm b)] .one [B (decide (a=b))]:=by
 refine fO 26 [(6,9,[17,18,19,20,21,22,23,24,25])] Tryz.func209 rfl ?_
 have hl:a.length≤1048576:=hs
 repeat'(first|refine gO ?_|(conv=>whnf);first|with_reducible refine Bf.N (fun h=>?_) (fun h=>?_))
 ·refine congrArg (fun z=>[B z]) (decide_eq_false fun e=>?_).symm
  subst e
  omega
 have hlab:a.length=b.length:=by omega
 (conv=>whnf)
 refine Lp.mk (ι:=Nat) (fun i=>[(0,.hold .one (aI .imm a)),(1,.hold .one (aI .imm b)),(5,.hold .one [I (i:Nat)])]) (fun i=>i≤a.length∧∀ j,j<i→a[j]? = b[j]?) (fun i=>a.length - i) 0 ?_ ⟨Nat.zero_le _,fun j hj=>by omega⟩ fun i hi=>?_
 ·exact wA
 ·obtain⟨hi,hall⟩:=hi
  by_cases hlt:i<a.length
  ·obtain⟨x,hx⟩ : ∃ x,a[i]? = some x:=⟨_,List.getElem?_eq_getElem hlt⟩
   obtain⟨y,hy⟩ : ∃ y,b[i]? = some y:=⟨_,List.getElem?_eq_getElem (by omega)⟩
   repeat'(first|refine gD ?_|(conv=>whnf);first|with_reducible (first|refine Ix.nat (aa hx) ?_|refine Ix.nat (aa hy) ?_|refine Bf.N (fun h=>?_) (fun h=>?_)|refine Bf.NB (fun h=>?_) (fun h=>?_)|refine Bf.D (fun h=>?_) (fun h=>?_)))
   all_goals first
    |(show [B false]=[B (decide (a=b))]
      refine congrArg (fun z=>[B z]) (decide_eq_false fun e=>?_).symm
      subst e
      simp_all)
    | ((conv=>whnf)
       refine Nx.mk (i+1) ⟨by omega,fun j hj=>?_⟩ (by omega) ?_
       · rcases Nat.lt_or_ge j i with h1|h1
         · exact hall j h1
         · obtain rfl:j=i:=by omega
           rw[hx,hy]
           simp_all
       · exact wA)
  ·repeat'(first|refine gD ?_|fail)
   refine congrArg (fun z=>[B z]) (decide_eq_true ?_).symm
   refine List.ext_getElem? fun j=>?_
   rcases Nat.lt_or_ge j i with h1|h1
   ·exact hall j h1
   ·rw[List.getElem?_eq_none (by omega),List.getElem?_eq_none (by omega)]
theorem qw (a b:List (List Int)) (hs:iV a):ah Tryz.prog 216 false [.val none (ed .imm a),.val none (ed .imm b)] .one [B (decide (a=b))]:=by
 refine fO 27 [(6,10,[17,18,19,20,21,22,23,24,25,26])] Tryz.func216 rfl ?_
 have hl:a.length≤1048576:=hs.1
 repeat'(first|refine gO ?_|(conv=>whnf);first|with_reducible refine Bf.N (fun h=>?_) (fun h=>?_))
 ·refine congrArg (fun z=>[B z]) (decide_eq_false fun e=>?_).symm
  subst e
  omega
 have hlab:a.length=b.length:=by omega
 (conv=>whnf)
 refine Lp.mk (ι:=Nat) (fun i=>[(0,.hold .one (ed .imm a)),(1,.hold .one (ed .imm b)),(5,.hold .one [I (i:Nat)])]) (fun i=>i≤a.length∧∀ j,j<i→a[j]? = b[j]?) (fun i=>a.length - i) 0 ?_ ⟨Nat.zero_le _,fun j hj=>by omega⟩ fun i hi=>?_
 ·exact wA
 ·obtain⟨hi,hall⟩:=hi
  by_cases hlt:i<a.length
  ·obtain⟨x,hx⟩ : ∃ x,a[i]? = some x:=⟨_,List.getElem?_eq_getElem hlt⟩
   obtain⟨y,hy⟩ : ∃ y,b[i]? = some y:=⟨_,List.getElem?_eq_getElem (by omega)⟩
   repeat'(first|refine gD ?_|(conv=>whnf);first|with_reducible (first|refine Ix.nat (aa hx) ?_|refine Ix.nat (aa hy) ?_|refine Bf.N (fun h=>?_) (fun h=>?_)|refine Bf.NB (fun h=>?_) (fun h=>?_)|refine Bf.D (fun h=>?_) (fun h=>?_))|refine Cl.mk (sd x y (hs.2 x (List.mem_of_getElem? hx))) ?_)
   all_goals first
    |(show [B false]=[B (decide (a=b))]
      refine congrArg (fun z=>[B z]) (decide_eq_false fun e=>?_).symm
      subst e
      simp_all)
    | ((conv=>whnf)
       refine Nx.mk (i+1) ⟨by omega,fun j hj=>?_⟩ (by omega) ?_
       · rcases Nat.lt_or_ge j i with h1|h1
         · exact hall j h1
         · obtain rfl:j=i:=by omega
           rw[hx,hy]
           simp_all
       · exact wA)
  ·repeat'(first|refine gD ?_|fail)
   refine congrArg (fun z=>[B z]) (decide_eq_true ?_).symm
   refine List.ext_getElem? fun j=>?_
   rcases Nat.lt_or_ge j i with h1|h1
   ·exact hall j h1
   ·rw[List.getElem?_eq_none (by omega),List.getElem?_eq_none (by omega)]
theorem FP (a b:List Bool) (hs:lZ a):ah Tryz.prog 364 false [.val none (fu .imm a),.val none (fu .imm b)] .one [B (decide (a=b))]:=by
 refine fO 26 [(6,9,[17,18,19,20,21,22,23,24,25])] Tryz.func364 rfl ?_
 have hl:a.length≤1048576:=hs
 repeat'(first|refine gO ?_|(conv=>whnf);first|with_reducible refine Bf.N (fun h=>?_) (fun h=>?_))
 ·refine congrArg (fun z=>[B z]) (decide_eq_false fun e=>?_).symm
  subst e
  omega
 have hlab:a.length=b.length:=by omega
 (conv=>whnf)
 refine Lp.mk (ι:=Nat) (fun i=>[(0,.hold .one (fu .imm a)),(1,.hold .one (fu .imm b)),(5,.hold .one [I (i:Nat)])]) (fun i=>i≤a.length∧∀ j,j<i→a[j]? = b[j]?) (fun i=>a.length - i) 0 ?_ ⟨Nat.zero_le _,fun j hj=>by omega⟩ fun i hi=>?_
 ·exact wA
 ·obtain⟨hi,hall⟩:=hi
  by_cases hlt:i<a.length
  ·obtain⟨x,hx⟩ : ∃ x,a[i]? = some x:=⟨_,List.getElem?_eq_getElem hlt⟩
   obtain⟨y,hy⟩ : ∃ y,b[i]? = some y:=⟨_,List.getElem?_eq_getElem (by omega)⟩
   repeat'(first|refine gD ?_|(conv=>whnf);first|with_reducible (first|refine Ix.nat (aa hx) ?_|refine Ix.nat (aa hy) ?_|refine Bf.N (fun h=>?_) (fun h=>?_)|refine Bf.NB (fun h=>?_) (fun h=>?_)|refine Bf.D (fun h=>?_) (fun h=>?_)))
   all_goals first
    |(show [B false]=[B (decide (a=b))]
      refine congrArg (fun z=>[B z]) (decide_eq_false fun e=>?_).symm
      subst e
      simp_all)
    | ((conv=>whnf)
       refine Nx.mk (i+1) ⟨by omega,fun j hj=>?_⟩ (by omega) ?_
       · rcases Nat.lt_or_ge j i with h1|h1
         · exact hall j h1
         · obtain rfl:j=i:=by omega
           rw[hx,hy]
           simp_all
       · exact wA)
  ·repeat'(first|refine gD ?_|fail)
   refine congrArg (fun z=>[B z]) (decide_eq_true ?_).symm
   refine List.ext_getElem? fun j=>?_
   rcases Nat.lt_or_ge j i with h1|h1
   ·exact hall j h1
   ·rw[List.getElem?_eq_none (by omega),List.getElem?_eq_none (by omega)]
theorem Dc (a b:aD) (hs:aD.sml a):ah Tryz.prog 293 false [.val (some 2) (aD.enc .imm a),.val (some 2) (aD.enc .imm b)] .one [B (decide (a=b))]:=by
 obtain⟨h0,h1⟩:=hs
 refine fO 17 [] Tryz.func293 rfl ?_
 repeat'(first|refine gO ?_|(conv=>whnf);first|with_reducible (first|refine Bf.N (fun h=>?_) (fun h=>?_)|refine Bf.NB (fun h=>?_) (fun h=>?_)|refine Bf.D (fun h=>?_) (fun h=>?_))|refine Cl.mk (qw a.Cells b.Cells h0) ?_|refine Cl.mk (FP a.Used b.Used h1) ?_)
 all_goals first|(show [B false]=[B (decide (a=b))];refine congrArg (fun z=>[B z]) (decide_eq_false fun e=>?_).symm;subst e;contradiction)|(show [B true]=[B (decide (a=b))];refine congrArg (fun z=>[B z]) (decide_eq_true ?_).symm;cases a;cases b;simp_all)
theorem Fj (a b:aG) (hs:aG.sml a):ah Tryz.prog 413 false [.val (some 2) (aG.enc .imm a),.val (some 2) (aG.enc .imm b)] .one [B (decide (a=b))]:=by
 refine fO 15 [] Tryz.func413 rfl ?_
 repeat'(first|refine gO ?_|(conv=>whnf);first|with_reducible (first|refine Bf.N (fun h=>?_) (fun h=>?_)|refine Bf.NB (fun h=>?_) (fun h=>?_)|refine Bf.D (fun h=>?_) (fun h=>?_)))
 all_goals first|(show [B false]=[B (decide (a=b))];refine congrArg (fun z=>[B z]) (decide_eq_false fun e=>?_).symm;subst e;contradiction)|(show [B true]=[B (decide (a=b))];refine congrArg (fun z=>[B z]) (decide_eq_true ?_).symm;cases a;cases b;simp_all)
theorem Dk (a b:List aG) (hs:iN a):ah Tryz.prog 365 false [.val none (ef .imm a),.val none (ef .imm b)] .one [B (decide (a=b))]:=by
 refine fO 27 [(6,10,[17,18,19,20,21,22,23,24,25,26])] Tryz.func365 rfl ?_
 have hl:a.length≤1048576:=hs.1
 repeat'(first|refine gO ?_|(conv=>whnf);first|with_reducible refine Bf.N (fun h=>?_) (fun h=>?_))
 ·refine congrArg (fun z=>[B z]) (decide_eq_false fun e=>?_).symm
  subst e
  omega
 have hlab:a.length=b.length:=by omega
 (conv=>whnf)
 refine Lp.mk (ι:=Nat) (fun i=>[(0,.hold .one (ef .imm a)),(1,.hold .one (ef .imm b)),(5,.hold .one [I (i:Nat)])]) (fun i=>i≤a.length∧∀ j,j<i→a[j]? = b[j]?) (fun i=>a.length - i) 0 ?_ ⟨Nat.zero_le _,fun j hj=>by omega⟩ fun i hi=>?_
 ·exact wA
 ·obtain⟨hi,hall⟩:=hi
  by_cases hlt:i<a.length
  ·obtain⟨x,hx⟩ : ∃ x,a[i]? = some x:=⟨_,List.getElem?_eq_getElem hlt⟩
   obtain⟨y,hy⟩ : ∃ y,b[i]? = some y:=⟨_,List.getElem?_eq_getElem (by omega)⟩
   repeat'(first|refine gD ?_|(conv=>whnf);first|with_reducible (first|refine Ix.nat (aa hx) ?_|refine Ix.nat (aa hy) ?_|refine Bf.N (fun h=>?_) (fun h=>?_)|refine Bf.NB (fun h=>?_) (fun h=>?_)|refine Bf.D (fun h=>?_) (fun h=>?_))|refine Cl.mk (Fj x y trivial) ?_)
   all_goals first
    |(show [B false]=[B (decide (a=b))]
      refine congrArg (fun z=>[B z]) (decide_eq_false fun e=>?_).symm
      subst e
      simp_all)
    | ((conv=>whnf)
       refine Nx.mk (i+1) ⟨by omega,fun j hj=>?_⟩ (by omega) ?_
       · rcases Nat.lt_or_ge j i with h1|h1
         · exact hall j h1
         · obtain rfl:j=i:=by omega
           rw[hx,hy]
           simp_all
       · exact wA)
  ·repeat'(first|refine gD ?_|fail)
   refine congrArg (fun z=>[B z]) (decide_eq_true ?_).symm
   refine List.ext_getElem? fun j=>?_
   rcases Nat.lt_or_ge j i with h1|h1
   ·exact hall j h1
   ·rw[List.getElem?_eq_none (by omega),List.getElem?_eq_none (by omega)]
theorem Gi (a b:aB) (hs:aB.sml a):ah Tryz.prog 294 false [.val (some 1) (aB.enc .imm a),.val (some 1) (aB.enc .imm b)] .one [B (decide (a=b))]:=by
 have h0:=hs
 refine fO 11 [] Tryz.func294 rfl ?_
 repeat'(first|refine gO ?_|(conv=>whnf);first|with_reducible (first|refine Bf.N (fun h=>?_) (fun h=>?_)|refine Bf.NB (fun h=>?_) (fun h=>?_)|refine Bf.D (fun h=>?_) (fun h=>?_))|refine Cl.mk (Dk a.Entries b.Entries h0) ?_)
 all_goals first|(show [B false]=[B (decide (a=b))];refine congrArg (fun z=>[B z]) (decide_eq_false fun e=>?_).symm;subst e;contradiction)|(show [B true]=[B (decide (a=b))];refine congrArg (fun z=>[B z]) (decide_eq_true ?_).symm;cases a;cases b;simp_all)
theorem Aj (a b:aA) (hs:aA.sml a):ah Tryz.prog 208 false [.val (some 3) (aA.enc .imm a),.val (some 3) (aA.enc .imm b)] .one [B (decide (a=b))]:=by
 obtain⟨h0,h1⟩:=hs
 refine fO 17 [] Tryz.func208 rfl ?_
 repeat'(first|refine gO ?_|(conv=>whnf);first|with_reducible (first|refine Bf.N (fun h=>?_) (fun h=>?_)|refine Bf.NB (fun h=>?_) (fun h=>?_)|refine Bf.D (fun h=>?_) (fun h=>?_))|refine Cl.mk (Dc a.Frames b.Frames h0) ?_|refine Cl.mk (Gi a.Table b.Table h1) ?_)
 all_goals first|(show [B false]=[B (decide (a=b))];refine congrArg (fun z=>[B z]) (decide_eq_false fun e=>?_).symm;subst e;contradiction)|(show [B true]=[B (decide (a=b))];refine congrArg (fun z=>[B z]) (decide_eq_true ?_).symm;cases a;cases b;simp_all)
theorem BH (a b:af) (hs:af.sml a):ah Tryz.prog 97 false [.val (some 5) (af.enc .imm a),.val (some 5) (af.enc .imm b)] .one [B (decide (a=b))]:=by
 obtain⟨h0,h1⟩:=hs
 refine fO 22 [] Tryz.func97 rfl ?_
 repeat'(first|refine gO ?_|(conv=>whnf);first|with_reducible (first|refine Bf.N (fun h=>?_) (fun h=>?_)|refine Bf.NB (fun h=>?_) (fun h=>?_)|refine Bf.D (fun h=>?_) (fun h=>?_))|refine Cl.mk (Aj a.Machine b.Machine h0) ?_|refine Cl.mk (sd a.Refuse b.Refuse h1) ?_)
 all_goals first|(show [B false]=[B (decide (a=b))];refine congrArg (fun z=>[B z]) (decide_eq_false fun e=>?_).symm;subst e;contradiction)|(show [B true]=[B (decide (a=b))];refine congrArg (fun z=>[B z]) (decide_eq_true ?_).symm;cases a;cases b;simp_all)
theorem E9 (a b:ar) (hs:ar.sml a):ah Tryz.prog 210 false [.val (some 2) (ar.enc .imm a),.val (some 2) (ar.enc .imm b)] .one [B (decide (a=b))]:=by
 refine fO 15 [] Tryz.func210 rfl ?_
 repeat'(first|refine gO ?_|(conv=>whnf);first|with_reducible (first|refine Bf.N (fun h=>?_) (fun h=>?_)|refine Bf.NB (fun h=>?_) (fun h=>?_)|refine Bf.D (fun h=>?_) (fun h=>?_)))
 all_goals first|(show [B false]=[B (decide (a=b))];refine congrArg (fun z=>[B z]) (decide_eq_false fun e=>?_).symm;subst e;contradiction)|(show [B true]=[B (decide (a=b))];refine congrArg (fun z=>[B z]) (decide_eq_true ?_).symm;cases a;cases b;simp_all)
theorem DY (a b:List ar) (hs:dK a):ah Tryz.prog 98 false [.val none (bg .imm a),.val none (bg .imm b)] .one [B (decide (a=b))]:=by
 refine fO 27 [(6,10,[17,18,19,20,21,22,23,24,25,26])] Tryz.func98 rfl ?_
 have hl:a.length≤1048576:=hs.1
 repeat'(first|refine gO ?_|(conv=>whnf);first|with_reducible refine Bf.N (fun h=>?_) (fun h=>?_))
 ·refine congrArg (fun z=>[B z]) (decide_eq_false fun e=>?_).symm
  subst e
  omega
 have hlab:a.length=b.length:=by omega
 (conv=>whnf)
 refine Lp.mk (ι:=Nat) (fun i=>[(0,.hold .one (bg .imm a)),(1,.hold .one (bg .imm b)),(5,.hold .one [I (i:Nat)])]) (fun i=>i≤a.length∧∀ j,j<i→a[j]? = b[j]?) (fun i=>a.length - i) 0 ?_ ⟨Nat.zero_le _,fun j hj=>by omega⟩ fun i hi=>?_
 ·exact wA
 ·obtain⟨hi,hall⟩:=hi
  by_cases hlt:i<a.length
  ·obtain⟨x,hx⟩ : ∃ x,a[i]? = some x:=⟨_,List.getElem?_eq_getElem hlt⟩
   obtain⟨y,hy⟩ : ∃ y,b[i]? = some y:=⟨_,List.getElem?_eq_getElem (by omega)⟩
   repeat'(first|refine gD ?_|(conv=>whnf);first|with_reducible (first|refine Ix.nat (aa hx) ?_|refine Ix.nat (aa hy) ?_|refine Bf.N (fun h=>?_) (fun h=>?_)|refine Bf.NB (fun h=>?_) (fun h=>?_)|refine Bf.D (fun h=>?_) (fun h=>?_))|refine Cl.mk (E9 x y trivial) ?_)
   all_goals first
    |(show [B false]=[B (decide (a=b))]
      refine congrArg (fun z=>[B z]) (decide_eq_false fun e=>?_).symm
      subst e
      simp_all)
    | ((conv=>whnf)
       refine Nx.mk (i+1) ⟨by omega,fun j hj=>?_⟩ (by omega) ?_
       · rcases Nat.lt_or_ge j i with h1|h1
         · exact hall j h1
         · obtain rfl:j=i:=by omega
           rw[hx,hy]
           simp_all
       · exact wA)
  ·repeat'(first|refine gD ?_|fail)
   refine congrArg (fun z=>[B z]) (decide_eq_true ?_).symm
   refine List.ext_getElem? fun j=>?_
   rcases Nat.lt_or_ge j i with h1|h1
   ·exact hall j h1
   ·rw[List.getElem?_eq_none (by omega),List.getElem?_eq_none (by omega)]
theorem HI (a b:am) (hs:am.sml a):ah Tryz.prog 211 false [.val (some 3) (am.enc .imm a),.val (some 3) (am.enc .imm b)] .one [B (decide (a=b))]:=by
 refine fO 20 [] Tryz.func211 rfl ?_
 repeat'(first|refine gO ?_|(conv=>whnf);first|with_reducible (first|refine Bf.N (fun h=>?_) (fun h=>?_)|refine Bf.NB (fun h=>?_) (fun h=>?_)|refine Bf.D (fun h=>?_) (fun h=>?_)))
 all_goals first|(show [B false]=[B (decide (a=b))];refine congrArg (fun z=>[B z]) (decide_eq_false fun e=>?_).symm;subst e;contradiction)|(show [B true]=[B (decide (a=b))];refine congrArg (fun z=>[B z]) (decide_eq_true ?_).symm;cases a;cases b;simp_all)
theorem FR (a b:List am) (hs:cC a):ah Tryz.prog 99 false [.val none (bm .imm a),.val none (bm .imm b)] .one [B (decide (a=b))]:=by
 refine fO 27 [(6,10,[17,18,19,20,21,22,23,24,25,26])] Tryz.func99 rfl ?_
 have hl:a.length≤1048576:=hs.1
 repeat'(first|refine gO ?_|(conv=>whnf);first|with_reducible refine Bf.N (fun h=>?_) (fun h=>?_))
 ·refine congrArg (fun z=>[B z]) (decide_eq_false fun e=>?_).symm
  subst e
  omega
 have hlab:a.length=b.length:=by omega
 (conv=>whnf)
 refine Lp.mk (ι:=Nat) (fun i=>[(0,.hold .one (bm .imm a)),(1,.hold .one (bm .imm b)),(5,.hold .one [I (i:Nat)])]) (fun i=>i≤a.length∧∀ j,j<i→a[j]? = b[j]?) (fun i=>a.length - i) 0 ?_ ⟨Nat.zero_le _,fun j hj=>by omega⟩ fun i hi=>?_
 ·exact wA
 ·obtain⟨hi,hall⟩:=hi
  by_cases hlt:i<a.length
  ·obtain⟨x,hx⟩ : ∃ x,a[i]? = some x:=⟨_,List.getElem?_eq_getElem hlt⟩
   obtain⟨y,hy⟩ : ∃ y,b[i]? = some y:=⟨_,List.getElem?_eq_getElem (by omega)⟩
   repeat'(first|refine gD ?_|(conv=>whnf);first|with_reducible (first|refine Ix.nat (aa hx) ?_|refine Ix.nat (aa hy) ?_|refine Bf.N (fun h=>?_) (fun h=>?_)|refine Bf.NB (fun h=>?_) (fun h=>?_)|refine Bf.D (fun h=>?_) (fun h=>?_))|refine Cl.mk (HI x y trivial) ?_)
   all_goals first
    |(show [B false]=[B (decide (a=b))]
      refine congrArg (fun z=>[B z]) (decide_eq_false fun e=>?_).symm
      subst e
      simp_all)
    | ((conv=>whnf)
       refine Nx.mk (i+1) ⟨by omega,fun j hj=>?_⟩ (by omega) ?_
       · rcases Nat.lt_or_ge j i with h1|h1
         · exact hall j h1
         · obtain rfl:j=i:=by omega
           rw[hx,hy]
           simp_all
       · exact wA)
  ·repeat'(first|refine gD ?_|fail)
   refine congrArg (fun z=>[B z]) (decide_eq_true ?_).symm
   refine List.ext_getElem? fun j=>?_
   rcases Nat.lt_or_ge j i with h1|h1
   ·exact hall j h1
   ·rw[List.getElem?_eq_none (by omega),List.getElem?_eq_none (by omega)]
theorem Gj (a b:au) (hs:au.sml a):ah Tryz.prog 212 false [.val (some 3) (au.enc .imm a),.val (some 3) (au.enc .imm b)] .one [B (decide (a=b))]:=by
 refine fO 20 [] Tryz.func212 rfl ?_
 repeat'(first|refine gO ?_|(conv=>whnf);first|with_reducible (first|refine Bf.N (fun h=>?_) (fun h=>?_)|refine Bf.NB (fun h=>?_) (fun h=>?_)|refine Bf.D (fun h=>?_) (fun h=>?_)))
 all_goals first|(show [B false]=[B (decide (a=b))];refine congrArg (fun z=>[B z]) (decide_eq_false fun e=>?_).symm;subst e;contradiction)|(show [B true]=[B (decide (a=b))];refine congrArg (fun z=>[B z]) (decide_eq_true ?_).symm;cases a;cases b;simp_all)
theorem DI (a b:List au) (hs:cg a):ah Tryz.prog 100 false [.val none (bn .imm a),.val none (bn .imm b)] .one [B (decide (a=b))]:=by
 refine fO 27 [(6,10,[17,18,19,20,21,22,23,24,25,26])] Tryz.func100 rfl ?_
 have hl:a.length≤1048576:=hs.1
 repeat'(first|refine gO ?_|(conv=>whnf);first|with_reducible refine Bf.N (fun h=>?_) (fun h=>?_))
 ·refine congrArg (fun z=>[B z]) (decide_eq_false fun e=>?_).symm
  subst e
  omega
 have hlab:a.length=b.length:=by omega
 (conv=>whnf)
 refine Lp.mk (ι:=Nat) (fun i=>[(0,.hold .one (bn .imm a)),(1,.hold .one (bn .imm b)),(5,.hold .one [I (i:Nat)])]) (fun i=>i≤a.length∧∀ j,j<i→a[j]? = b[j]?) (fun i=>a.length - i) 0 ?_ ⟨Nat.zero_le _,fun j hj=>by omega⟩ fun i hi=>?_
 ·exact wA
 ·obtain⟨hi,hall⟩:=hi
  by_cases hlt:i<a.length
  ·obtain⟨x,hx⟩ : ∃ x,a[i]? = some x:=⟨_,List.getElem?_eq_getElem hlt⟩
   obtain⟨y,hy⟩ : ∃ y,b[i]? = some y:=⟨_,List.getElem?_eq_getElem (by omega)⟩
   repeat'(first|refine gD ?_|(conv=>whnf);first|with_reducible (first|refine Ix.nat (aa hx) ?_|refine Ix.nat (aa hy) ?_|refine Bf.N (fun h=>?_) (fun h=>?_)|refine Bf.NB (fun h=>?_) (fun h=>?_)|refine Bf.D (fun h=>?_) (fun h=>?_))|refine Cl.mk (Gj x y trivial) ?_)
   all_goals first
    |(show [B false]=[B (decide (a=b))]
      refine congrArg (fun z=>[B z]) (decide_eq_false fun e=>?_).symm
      subst e
      simp_all)
    | ((conv=>whnf)
       refine Nx.mk (i+1) ⟨by omega,fun j hj=>?_⟩ (by omega) ?_
       · rcases Nat.lt_or_ge j i with h1|h1
         · exact hall j h1
         · obtain rfl:j=i:=by omega
           rw[hx,hy]
           simp_all
       · exact wA)
  ·repeat'(first|refine gD ?_|fail)
   refine congrArg (fun z=>[B z]) (decide_eq_true ?_).symm
   refine List.ext_getElem? fun j=>?_
   rcases Nat.lt_or_ge j i with h1|h1
   ·exact hall j h1
   ·rw[List.getElem?_eq_none (by omega),List.getElem?_eq_none (by omega)]
theorem JA (a b:aX) (hs:aX.sml a):ah Tryz.prog 213 false [.val (some 4) (aX.enc .imm a),.val (some 4) (aX.enc .imm b)] .one [B (decide (a=b))]:=by
 refine fO 25 [] Tryz.func213 rfl ?_
 repeat'(first|refine gO ?_|(conv=>whnf);first|with_reducible (first|refine Bf.N (fun h=>?_) (fun h=>?_)|refine Bf.NB (fun h=>?_) (fun h=>?_)|refine Bf.D (fun h=>?_) (fun h=>?_)))
 all_goals first|(show [B false]=[B (decide (a=b))];refine congrArg (fun z=>[B z]) (decide_eq_false fun e=>?_).symm;subst e;contradiction)|(show [B true]=[B (decide (a=b))];refine congrArg (fun z=>[B z]) (decide_eq_true ?_).symm;cases a;cases b;simp_all)
theorem H7 (a b:List aX) (hs:mn a):ah Tryz.prog 101 false [.val none (eD .imm a),.val none (eD .imm b)] .one [B (decide (a=b))]:=by
 refine fO 27 [(6,10,[17,18,19,20,21,22,23,24,25,26])] Tryz.func101 rfl ?_
 have hl:a.length≤1048576:=hs.1
 repeat'(first|refine gO ?_|(conv=>whnf);first|with_reducible refine Bf.N (fun h=>?_) (fun h=>?_))
 ·refine congrArg (fun z=>[B z]) (decide_eq_false fun e=>?_).symm
  subst e
  omega
 have hlab:a.length=b.length:=by omega
 (conv=>whnf)
 refine Lp.mk (ι:=Nat) (fun i=>[(0,.hold .one (eD .imm a)),(1,.hold .one (eD .imm b)),(5,.hold .one [I (i:Nat)])]) (fun i=>i≤a.length∧∀ j,j<i→a[j]? = b[j]?) (fun i=>a.length - i) 0 ?_ ⟨Nat.zero_le _,fun j hj=>by omega⟩ fun i hi=>?_
 ·exact wA
 ·obtain⟨hi,hall⟩:=hi
  by_cases hlt:i<a.length
  ·obtain⟨x,hx⟩ : ∃ x,a[i]? = some x:=⟨_,List.getElem?_eq_getElem hlt⟩
   obtain⟨y,hy⟩ : ∃ y,b[i]? = some y:=⟨_,List.getElem?_eq_getElem (by omega)⟩
   repeat'(first|refine gD ?_|(conv=>whnf);first|with_reducible (first|refine Ix.nat (aa hx) ?_|refine Ix.nat (aa hy) ?_|refine Bf.N (fun h=>?_) (fun h=>?_)|refine Bf.NB (fun h=>?_) (fun h=>?_)|refine Bf.D (fun h=>?_) (fun h=>?_))|refine Cl.mk (JA x y trivial) ?_)
   all_goals first
    |(show [B false]=[B (decide (a=b))]
      refine congrArg (fun z=>[B z]) (decide_eq_false fun e=>?_).symm
      subst e
      simp_all)
    | ((conv=>whnf)
       refine Nx.mk (i+1) ⟨by omega,fun j hj=>?_⟩ (by omega) ?_
       · rcases Nat.lt_or_ge j i with h1|h1
         · exact hall j h1
         · obtain rfl:j=i:=by omega
           rw[hx,hy]
           simp_all
       · exact wA)
  ·repeat'(first|refine gD ?_|fail)
   refine congrArg (fun z=>[B z]) (decide_eq_true ?_).symm
   refine List.ext_getElem? fun j=>?_
   rcases Nat.lt_or_ge j i with h1|h1
   ·exact hall j h1
   ·rw[List.getElem?_eq_none (by omega),List.getElem?_eq_none (by omega)]
theorem Fk (a b:ay) (hs:ay.sml a):ah Tryz.prog 214 false [.val (some 1) (ay.enc .imm a),.val (some 1) (ay.enc .imm b)] .one [B (decide (a=b))]:=by
 have h0:=hs
 refine fO 11 [] Tryz.func214 rfl ?_
 repeat'(first|refine gO ?_|(conv=>whnf);first|with_reducible (first|refine Bf.N (fun h=>?_) (fun h=>?_)|refine Bf.NB (fun h=>?_) (fun h=>?_)|refine Bf.D (fun h=>?_) (fun h=>?_))|refine Cl.mk (qw a.Lists b.Lists h0) ?_)
 all_goals first|(show [B false]=[B (decide (a=b))];refine congrArg (fun z=>[B z]) (decide_eq_false fun e=>?_).symm;subst e;contradiction)|(show [B true]=[B (decide (a=b))];refine congrArg (fun z=>[B z]) (decide_eq_true ?_).symm;cases a;cases b;simp_all)
theorem B6 (a b:List ay) (hs:iI a):ah Tryz.prog 102 false [.val none (dh .imm a),.val none (dh .imm b)] .one [B (decide (a=b))]:=by
 refine fO 27 [(6,10,[17,18,19,20,21,22,23,24,25,26])] Tryz.func102 rfl ?_
 have hl:a.length≤1048576:=hs.1
 repeat'(first|refine gO ?_|(conv=>whnf);first|with_reducible refine Bf.N (fun h=>?_) (fun h=>?_))
 ·refine congrArg (fun z=>[B z]) (decide_eq_false fun e=>?_).symm
  subst e
  omega
 have hlab:a.length=b.length:=by omega
 (conv=>whnf)
 refine Lp.mk (ι:=Nat) (fun i=>[(0,.hold .one (dh .imm a)),(1,.hold .one (dh .imm b)),(5,.hold .one [I (i:Nat)])]) (fun i=>i≤a.length∧∀ j,j<i→a[j]? = b[j]?) (fun i=>a.length - i) 0 ?_ ⟨Nat.zero_le _,fun j hj=>by omega⟩ fun i hi=>?_
 ·exact wA
 ·obtain⟨hi,hall⟩:=hi
  by_cases hlt:i<a.length
  ·obtain⟨x,hx⟩ : ∃ x,a[i]? = some x:=⟨_,List.getElem?_eq_getElem hlt⟩
   obtain⟨y,hy⟩ : ∃ y,b[i]? = some y:=⟨_,List.getElem?_eq_getElem (by omega)⟩
   repeat'(first|refine gD ?_|(conv=>whnf);first|with_reducible (first|refine Ix.nat (aa hx) ?_|refine Ix.nat (aa hy) ?_|refine Bf.N (fun h=>?_) (fun h=>?_)|refine Bf.NB (fun h=>?_) (fun h=>?_)|refine Bf.D (fun h=>?_) (fun h=>?_))|refine Cl.mk (Fk x y (hs.2 x (List.mem_of_getElem? hx))) ?_)
   all_goals first
    |(show [B false]=[B (decide (a=b))]
      refine congrArg (fun z=>[B z]) (decide_eq_false fun e=>?_).symm
      subst e
      simp_all)
    | ((conv=>whnf)
       refine Nx.mk (i+1) ⟨by omega,fun j hj=>?_⟩ (by omega) ?_
       · rcases Nat.lt_or_ge j i with h1|h1
         · exact hall j h1
         · obtain rfl:j=i:=by omega
           rw[hx,hy]
           simp_all
       · exact wA)
  ·repeat'(first|refine gD ?_|fail)
   refine congrArg (fun z=>[B z]) (decide_eq_true ?_).symm
   refine List.ext_getElem? fun j=>?_
   rcases Nat.lt_or_ge j i with h1|h1
   ·exact hall j h1
   ·rw[List.getElem?_eq_none (by omega),List.getElem?_eq_none (by omega)]
theorem Jh (a b:aM) (hs:aM.sml a):ah Tryz.prog 366 false [.val (some 2) (aM.enc .imm a),.val (some 2) (aM.enc .imm b)] .one [B (decide (a=b))]:=by
 refine fO 15 [] Tryz.func366 rfl ?_
 repeat'(first|refine gO ?_|(conv=>whnf);first|with_reducible (first|refine Bf.N (fun h=>?_) (fun h=>?_)|refine Bf.NB (fun h=>?_) (fun h=>?_)|refine Bf.D (fun h=>?_) (fun h=>?_)))
 all_goals first|(show [B false]=[B (decide (a=b))];refine congrArg (fun z=>[B z]) (decide_eq_false fun e=>?_).symm;subst e;contradiction)|(show [B true]=[B (decide (a=b))];refine congrArg (fun z=>[B z]) (decide_eq_true ?_).symm;cases a;cases b;simp_all)
theorem Gl (a b:List aM) (hs:km a):ah Tryz.prog 295 false [.val none (b6 .imm a),.val none (b6 .imm b)] .one [B (decide (a=b))]:=by
 refine fO 27 [(6,10,[17,18,19,20,21,22,23,24,25,26])] Tryz.func295 rfl ?_
 have hl:a.length≤1048576:=hs.1
 repeat'(first|refine gO ?_|(conv=>whnf);first|with_reducible refine Bf.N (fun h=>?_) (fun h=>?_))
 ·refine congrArg (fun z=>[B z]) (decide_eq_false fun e=>?_).symm
  subst e
  omega
 have hlab:a.length=b.length:=by omega
 (conv=>whnf)
 refine Lp.mk (ι:=Nat) (fun i=>[(0,.hold .one (b6 .imm a)),(1,.hold .one (b6 .imm b)),(5,.hold .one [I (i:Nat)])]) (fun i=>i≤a.length∧∀ j,j<i→a[j]? = b[j]?) (fun i=>a.length - i) 0 ?_ ⟨Nat.zero_le _,fun j hj=>by omega⟩ fun i hi=>?_
 ·exact wA
 ·obtain⟨hi,hall⟩:=hi
  by_cases hlt:i<a.length
  ·obtain⟨x,hx⟩ : ∃ x,a[i]? = some x:=⟨_,List.getElem?_eq_getElem hlt⟩
   obtain⟨y,hy⟩ : ∃ y,b[i]? = some y:=⟨_,List.getElem?_eq_getElem (by omega)⟩
   repeat'(first|refine gD ?_|(conv=>whnf);first|with_reducible (first|refine Ix.nat (aa hx) ?_|refine Ix.nat (aa hy) ?_|refine Bf.N (fun h=>?_) (fun h=>?_)|refine Bf.NB (fun h=>?_) (fun h=>?_)|refine Bf.D (fun h=>?_) (fun h=>?_))|refine Cl.mk (Jh x y trivial) ?_)
   all_goals first
    |(show [B false]=[B (decide (a=b))]
      refine congrArg (fun z=>[B z]) (decide_eq_false fun e=>?_).symm
      subst e
      simp_all)
    | ((conv=>whnf)
       refine Nx.mk (i+1) ⟨by omega,fun j hj=>?_⟩ (by omega) ?_
       · rcases Nat.lt_or_ge j i with h1|h1
         · exact hall j h1
         · obtain rfl:j=i:=by omega
           rw[hx,hy]
           simp_all
       · exact wA)
  ·repeat'(first|refine gD ?_|fail)
   refine congrArg (fun z=>[B z]) (decide_eq_true ?_).symm
   refine List.ext_getElem? fun j=>?_
   rcases Nat.lt_or_ge j i with h1|h1
   ·exact hall j h1
   ·rw[List.getElem?_eq_none (by omega),List.getElem?_eq_none (by omega)]
theorem Ew (a b:List (List aM)) (hs:iK a):ah Tryz.prog 215 false [.val none (dG .imm a),.val none (dG .imm b)] .one [B (decide (a=b))]:=by
 refine fO 27 [(6,10,[17,18,19,20,21,22,23,24,25,26])] Tryz.func215 rfl ?_
 have hl:a.length≤1048576:=hs.1
 repeat'(first|refine gO ?_|(conv=>whnf);first|with_reducible refine Bf.N (fun h=>?_) (fun h=>?_))
 ·refine congrArg (fun z=>[B z]) (decide_eq_false fun e=>?_).symm
  subst e
  omega
 have hlab:a.length=b.length:=by omega
 (conv=>whnf)
 refine Lp.mk (ι:=Nat) (fun i=>[(0,.hold .one (dG .imm a)),(1,.hold .one (dG .imm b)),(5,.hold .one [I (i:Nat)])]) (fun i=>i≤a.length∧∀ j,j<i→a[j]? = b[j]?) (fun i=>a.length - i) 0 ?_ ⟨Nat.zero_le _,fun j hj=>by omega⟩ fun i hi=>?_
 ·exact wA
 ·obtain⟨hi,hall⟩:=hi
  by_cases hlt:i<a.length
  ·obtain⟨x,hx⟩ : ∃ x,a[i]? = some x:=⟨_,List.getElem?_eq_getElem hlt⟩
   obtain⟨y,hy⟩ : ∃ y,b[i]? = some y:=⟨_,List.getElem?_eq_getElem (by omega)⟩
   repeat'(first|refine gD ?_|(conv=>whnf);first|with_reducible (first|refine Ix.nat (aa hx) ?_|refine Ix.nat (aa hy) ?_|refine Bf.N (fun h=>?_) (fun h=>?_)|refine Bf.NB (fun h=>?_) (fun h=>?_)|refine Bf.D (fun h=>?_) (fun h=>?_))|refine Cl.mk (Gl x y (hs.2 x (List.mem_of_getElem? hx))) ?_)
   all_goals first
    |(show [B false]=[B (decide (a=b))]
      refine congrArg (fun z=>[B z]) (decide_eq_false fun e=>?_).symm
      subst e
      simp_all)
    | ((conv=>whnf)
       refine Nx.mk (i+1) ⟨by omega,fun j hj=>?_⟩ (by omega) ?_
       · rcases Nat.lt_or_ge j i with h1|h1
         · exact hall j h1
         · obtain rfl:j=i:=by omega
           rw[hx,hy]
           simp_all
       · exact wA)
  ·repeat'(first|refine gD ?_|fail)
   refine congrArg (fun z=>[B z]) (decide_eq_true ?_).symm
   refine List.ext_getElem? fun j=>?_
   rcases Nat.lt_or_ge j i with h1|h1
   ·exact hall j h1
   ·rw[List.getElem?_eq_none (by omega),List.getElem?_eq_none (by omega)]
theorem Jt (a b:aK) (hs:aK.sml a):ah Tryz.prog 103 false [.val (some 2) (aK.enc .imm a),.val (some 2) (aK.enc .imm b)] .one [B (decide (a=b))]:=by
 obtain⟨h0,h1⟩:=hs
 refine fO 17 [] Tryz.func103 rfl ?_
 repeat'(first|refine gO ?_|(conv=>whnf);first|with_reducible (first|refine Bf.N (fun h=>?_) (fun h=>?_)|refine Bf.NB (fun h=>?_) (fun h=>?_)|refine Bf.D (fun h=>?_) (fun h=>?_))|refine Cl.mk (Ew a.Buffers b.Buffers h0) ?_|refine Cl.mk (qw a.Inbox b.Inbox h1) ?_)
 all_goals first|(show [B false]=[B (decide (a=b))];refine congrArg (fun z=>[B z]) (decide_eq_false fun e=>?_).symm;subst e;contradiction)|(show [B true]=[B (decide (a=b))];refine congrArg (fun z=>[B z]) (decide_eq_true ?_).symm;cases a;cases b;simp_all)
theorem FT (a b:aE) (hs:aE.sml a):ah Tryz.prog 296 false [.val (some 3) (aE.enc .imm a),.val (some 3) (aE.enc .imm b)] .one [B (decide (a=b))]:=by
 refine fO 20 [] Tryz.func296 rfl ?_
 repeat'(first|refine gO ?_|(conv=>whnf);first|with_reducible (first|refine Bf.N (fun h=>?_) (fun h=>?_)|refine Bf.NB (fun h=>?_) (fun h=>?_)|refine Bf.D (fun h=>?_) (fun h=>?_)))
 all_goals first|(show [B false]=[B (decide (a=b))];refine congrArg (fun z=>[B z]) (decide_eq_false fun e=>?_).symm;subst e;contradiction)|(show [B true]=[B (decide (a=b))];refine congrArg (fun z=>[B z]) (decide_eq_true ?_).symm;cases a;cases b;simp_all)
theorem BD (a b:List aE) (hs:eO a):ah Tryz.prog 217 false [.val none (ce .imm a),.val none (ce .imm b)] .one [B (decide (a=b))]:=by
 refine fO 27 [(6,10,[17,18,19,20,21,22,23,24,25,26])] Tryz.func217 rfl ?_
 have hl:a.length≤1048576:=hs.1
 repeat'(first|refine gO ?_|(conv=>whnf);first|with_reducible refine Bf.N (fun h=>?_) (fun h=>?_))
 ·refine congrArg (fun z=>[B z]) (decide_eq_false fun e=>?_).symm
  subst e
  omega
 have hlab:a.length=b.length:=by omega
 (conv=>whnf)
 refine Lp.mk (ι:=Nat) (fun i=>[(0,.hold .one (ce .imm a)),(1,.hold .one (ce .imm b)),(5,.hold .one [I (i:Nat)])]) (fun i=>i≤a.length∧∀ j,j<i→a[j]? = b[j]?) (fun i=>a.length - i) 0 ?_ ⟨Nat.zero_le _,fun j hj=>by omega⟩ fun i hi=>?_
 ·exact wA
 ·obtain⟨hi,hall⟩:=hi
  by_cases hlt:i<a.length
  ·obtain⟨x,hx⟩ : ∃ x,a[i]? = some x:=⟨_,List.getElem?_eq_getElem hlt⟩
   obtain⟨y,hy⟩ : ∃ y,b[i]? = some y:=⟨_,List.getElem?_eq_getElem (by omega)⟩
   repeat'(first|refine gD ?_|(conv=>whnf);first|with_reducible (first|refine Ix.nat (aa hx) ?_|refine Ix.nat (aa hy) ?_|refine Bf.N (fun h=>?_) (fun h=>?_)|refine Bf.NB (fun h=>?_) (fun h=>?_)|refine Bf.D (fun h=>?_) (fun h=>?_))|refine Cl.mk (FT x y trivial) ?_)
   all_goals first
    |(show [B false]=[B (decide (a=b))]
      refine congrArg (fun z=>[B z]) (decide_eq_false fun e=>?_).symm
      subst e
      simp_all)
    | ((conv=>whnf)
       refine Nx.mk (i+1) ⟨by omega,fun j hj=>?_⟩ (by omega) ?_
       · rcases Nat.lt_or_ge j i with h1|h1
         · exact hall j h1
         · obtain rfl:j=i:=by omega
           rw[hx,hy]
           simp_all
       · exact wA)
  ·repeat'(first|refine gD ?_|fail)
   refine congrArg (fun z=>[B z]) (decide_eq_true ?_).symm
   refine List.ext_getElem? fun j=>?_
   rcases Nat.lt_or_ge j i with h1|h1
   ·exact hall j h1
   ·rw[List.getElem?_eq_none (by omega),List.getElem?_eq_none (by omega)]
theorem HM (a b:aQ) (hs:aQ.sml a):ah Tryz.prog 104 false [.val (some 2) (aQ.enc .imm a),.val (some 2) (aQ.enc .imm b)] .one [B (decide (a=b))]:=by
 have h0:=hs
 refine fO 16 [] Tryz.func104 rfl ?_
 repeat'(first|refine gO ?_|(conv=>whnf);first|with_reducible (first|refine Bf.N (fun h=>?_) (fun h=>?_)|refine Bf.NB (fun h=>?_) (fun h=>?_)|refine Bf.D (fun h=>?_) (fun h=>?_))|refine Cl.mk (BD a.Lst b.Lst h0) ?_)
 all_goals first|(show [B false]=[B (decide (a=b))];refine congrArg (fun z=>[B z]) (decide_eq_false fun e=>?_).symm;subst e;contradiction)|(show [B true]=[B (decide (a=b))];refine congrArg (fun z=>[B z]) (decide_eq_true ?_).symm;cases a;cases b;simp_all)
theorem HB (a b:aN) (hs:aN.sml a):ah Tryz.prog 218 false [.val (some 3) (aN.enc .imm a),.val (some 3) (aN.enc .imm b)] .one [B (decide (a=b))]:=by
 have h0:=hs
 refine fO 21 [] Tryz.func218 rfl ?_
 repeat'(first|refine gO ?_|(conv=>whnf);first|with_reducible (first|refine Bf.N (fun h=>?_) (fun h=>?_)|refine Bf.NB (fun h=>?_) (fun h=>?_)|refine Bf.D (fun h=>?_) (fun h=>?_))|refine Cl.mk (sd a.Cells b.Cells h0) ?_)
 all_goals first|(show [B false]=[B (decide (a=b))];refine congrArg (fun z=>[B z]) (decide_eq_false fun e=>?_).symm;subst e;contradiction)|(show [B true]=[B (decide (a=b))];refine congrArg (fun z=>[B z]) (decide_eq_true ?_).symm;cases a;cases b;simp_all)
theorem Ke (a b:aZ) (hs:aZ.sml a):ah Tryz.prog 105 false [.val (some 5) (aZ.enc .imm a),.val (some 5) (aZ.enc .imm b)] .one [B (decide (a=b))]:=by
 have h0:=hs
 refine fO 21 [] Tryz.func105 rfl ?_
 repeat'(first|refine gO ?_|(conv=>whnf);first|with_reducible (first|refine Bf.N (fun h=>?_) (fun h=>?_)|refine Bf.NB (fun h=>?_) (fun h=>?_)|refine Bf.D (fun h=>?_) (fun h=>?_))|refine Cl.mk (HB a.Plan b.Plan h0) ?_)
 all_goals first|(show [B false]=[B (decide (a=b))];refine congrArg (fun z=>[B z]) (decide_eq_false fun e=>?_).symm;subst e;contradiction)|(show [B true]=[B (decide (a=b))];refine congrArg (fun z=>[B z]) (decide_eq_true ?_).symm;cases a;cases b;simp_all)
theorem yQ (a b:ac) (hs:ac.sml a):ah Tryz.prog 26 false [.val (some 24) (ac.enc .imm a),.val (some 24) (ac.enc .imm b)] .one [B (decide (a=b))]:=by
 obtain⟨h0,h1,h2,h3,h4,h5,h6,h7,h8⟩:=hs
 refine fO 84 [] Tryz.func26 rfl ?_
 repeat'(first|refine gO ?_|(conv=>whnf);first|with_reducible (first|refine Bf.N (fun h=>?_) (fun h=>?_)|refine Bf.NB (fun h=>?_) (fun h=>?_)|refine Bf.D (fun h=>?_) (fun h=>?_))|refine Cl.mk (BH a.Kernel b.Kernel h0) ?_|refine Cl.mk (DY a.Free b.Free h1) ?_|refine Cl.mk (FR a.Spans b.Spans h2) ?_|refine Cl.mk (DI a.Larges b.Larges h3) ?_|refine Cl.mk (H7 a.Objs b.Objs h4) ?_|refine Cl.mk (B6 a.Caches b.Caches h5) ?_|refine Cl.mk (Jt a.Mail b.Mail h6) ?_|refine Cl.mk (HM a.Quar b.Quar h7) ?_|refine Cl.mk (Ke a.Job b.Job h8) ?_)
 all_goals first|(show [B false]=[B (decide (a=b))];refine congrArg (fun z=>[B z]) (decide_eq_false fun e=>?_).symm;subst e;contradiction)|(show [B true]=[B (decide (a=b))];refine congrArg (fun z=>[B z]) (decide_eq_true ?_).symm;cases a;cases b;simp_all)
end Go.Proofs.YtplcalfnngkffaaGreat.Ab
