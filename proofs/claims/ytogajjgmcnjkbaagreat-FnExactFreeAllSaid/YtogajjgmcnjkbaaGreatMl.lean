/- Contracts of the laws' generic functions (to). Printed by gen_con.py. No condition. -/
import Derived.Test.YtogajjgmcnjkbaaGreatMd
import Derived.ProofKit
import Derived.OpenShut
import Derived.Deep.Slices
import Derived.Deep.Fields
import Derived.ChangeSame
import Derived.WideShapes
namespace Go.Proofs.YtogajjgmcnjkbaaGreat.Ab
open Go.RowKit
set_option maxRecDepth 20000
set_option maxHeartbeats 2000000
theorem pS (x:List Int) (hx:iT x):af Tryz.prog 109 false [.val none (aI .imm x)] .one (aI .own x):=by
 refine fO (n:=22) [] Tryz.func109 (by kernel_rfl) rfl (by kernel_rfl) (by rfl) (.inr (bZ x)) ?_
 have hl:x.length≤1048576:=hx
 have hml:(x.map (rI .own)).length=(List.replicate x.length ([I 0]:List C)).length:=by simp
 repeat'((conv=>whnf);first|with_reducible (first|refine Lm ?_|refine Wm (by omega) ?_|refine Bn ?_|refine Fm rfl ?_)|refine Bt ?_|refine Bu ?_|refine Mk.mk _ rfl rfl (by omega) (tO hl (by decide)) rfl ?_)
 (conv=>whnf)
 refine Lp.mk (ι:=Nat) (fun i=>[(0,.hold .one (aI .imm x)),(3,.hold .one [.s .own (eS (x.map (rI .own)) (List.replicate x.length [I 0]) i)]),(4,.hold .one [I (i:Nat)])]) (fun i=>i≤x.length) (fun i=>x.length - i) 0 ?_ (Nat.zero_le _) fun i hi=>?_
 ·rw[bP]
  repeat'(first|exact trivial|rfl|refine And.intro ?_ ?_)
 ·by_cases hlt:i<x.length
  ·obtain⟨y,hy⟩ : ∃ y,x[i]? = some y:=⟨_,List.getElem?_eq_getElem hlt⟩
   have hr:=cT hml i (by simp;omega)
   rw[fG hlt]at hr
   repeat'((conv=>whnf);first|with_reducible (first|refine Lm ?_|refine Wm (by omega) ?_|refine dT (by omega) (fun h=>?_)|refine Ix.nat (aa hy) ?_|refine Ix.nat hr ?_|refine Bn ?_|refine Fm rfl ?_)|refine Bt ?_|refine Bu ?_|refine Pu.one rfl rfl hr rfl (Nat.le_refl _) rfl ?_|refine Nx.mk (i+1) (by omega) (by omega) ?_)
   repeat'(first|exact trivial|rfl|exact And.intro rfl (And.intro (congrArg (C.s dy.own) (bv hml (aa hy))) trivial)|refine And.intro ?_ ?_)
  ·repeat'((conv=>whnf);first|with_reducible (first|refine Lm ?_|refine Wm (by omega) ?_|refine dF (by omega) (fun h=>?_)|refine Bn ?_|refine Fm rfl ?_)|refine Bt ?_|refine Bu ?_)
   rw[cQ _ hml (by simp;omega)]
   rfl
theorem nR (x:List (List Int)) (hx:gQ x):af Tryz.prog 116 false [.val none (d5 .imm x)] .one (d5 .own x):=by
 refine fO (n:=23) [] Tryz.func116 (by kernel_rfl) rfl (by kernel_rfl) (by rfl) (.inr (DA x)) ?_
 have hl:x.length≤1048576:=hx.1
 have hml:(x.map (aI .own)).length=(List.replicate x.length ([.z]:List C)).length:=by simp
 repeat'((conv=>whnf);first|with_reducible (first|refine Lm ?_|refine Wm (by omega) ?_|refine Bn ?_|refine Fm rfl ?_)|refine Bt ?_|refine Bu ?_|refine Mk.mk _ rfl rfl (by omega) (tO hl (by decide)) rfl ?_)
 (conv=>whnf)
 refine Lp.mk (ι:=Nat) (fun i=>[(0,.hold .one (d5 .imm x)),(3,.hold .one [.s .own (eS (x.map (aI .own)) (List.replicate x.length [.z]) i)]),(4,.hold .one [I (i:Nat)])]) (fun i=>i≤x.length) (fun i=>x.length - i) 0 ?_ (Nat.zero_le _) fun i hi=>?_
 ·rw[bP]
  repeat'(first|exact trivial|rfl|refine And.intro ?_ ?_)
 ·by_cases hlt:i<x.length
  ·obtain⟨y,hy⟩ : ∃ y,x[i]? = some y:=⟨_,List.getElem?_eq_getElem hlt⟩
   have hr:=cT hml i (by simp;omega)
   rw[fG hlt]at hr
   repeat'((conv=>whnf);first|with_reducible (first|refine Lm ?_|refine Wm (by omega) ?_|refine dT (by omega) (fun h=>?_)|refine Ix.nat (aa hy) ?_|refine Ix.nat hr ?_|refine Bn ?_|refine Fm rfl ?_)|refine Bt ?_|refine Bu ?_|refine Cl.mk (pS y (hx.2 y (List.mem_of_getElem? hy))) ?_|refine Pu.one rfl rfl hr rfl (Nat.le_refl _) rfl ?_|refine Nx.mk (i+1) (by omega) (by omega) ?_)
   repeat'(first|exact trivial|rfl|exact And.intro rfl (And.intro (congrArg (C.s dy.own) (bv hml (aa hy))) trivial)|refine And.intro ?_ ?_)
  ·repeat'((conv=>whnf);first|with_reducible (first|refine Lm ?_|refine Wm (by omega) ?_|refine dF (by omega) (fun h=>?_)|refine Bn ?_|refine Fm rfl ?_)|refine Bt ?_|refine Bu ?_)
   rw[cQ _ hml (by simp;omega)]
   rfl
theorem Bd (x:List Bool) (hx:kO x):af Tryz.prog 300 false [.val none (fR .imm x)] .one (fR .own x):=by
 refine fO (n:=22) [] Tryz.func300 (by kernel_rfl) rfl (by kernel_rfl) (by rfl) (.inr (Ea x)) ?_
 have hl:x.length≤1048576:=hx
 have hml:(x.map (rB .own)).length=(List.replicate x.length ([B false]:List C)).length:=by simp
 repeat'((conv=>whnf);first|with_reducible (first|refine Lm ?_|refine Wm (by omega) ?_|refine Bn ?_|refine Fm rfl ?_)|refine Bt ?_|refine Bu ?_|refine Mk.mk _ rfl rfl (by omega) (tO hl (by decide)) rfl ?_)
 (conv=>whnf)
 refine Lp.mk (ι:=Nat) (fun i=>[(0,.hold .one (fR .imm x)),(3,.hold .one [.s .own (eS (x.map (rB .own)) (List.replicate x.length [B false]) i)]),(4,.hold .one [I (i:Nat)])]) (fun i=>i≤x.length) (fun i=>x.length - i) 0 ?_ (Nat.zero_le _) fun i hi=>?_
 ·rw[bP]
  repeat'(first|exact trivial|rfl|refine And.intro ?_ ?_)
 ·by_cases hlt:i<x.length
  ·obtain⟨y,hy⟩ : ∃ y,x[i]? = some y:=⟨_,List.getElem?_eq_getElem hlt⟩
   have hr:=cT hml i (by simp;omega)
   rw[fG hlt]at hr
   repeat'((conv=>whnf);first|with_reducible (first|refine Lm ?_|refine Wm (by omega) ?_|refine dT (by omega) (fun h=>?_)|refine Ix.nat (aa hy) ?_|refine Ix.nat hr ?_|refine Bn ?_|refine Fm rfl ?_)|refine Bt ?_|refine Bu ?_|refine Pu.one rfl rfl hr rfl (Nat.le_refl _) rfl ?_|refine Nx.mk (i+1) (by omega) (by omega) ?_)
   repeat'(first|exact trivial|rfl|exact And.intro rfl (And.intro (congrArg (C.s dy.own) (bv hml (aa hy))) trivial)|refine And.intro ?_ ?_)
  ·repeat'((conv=>whnf);first|with_reducible (first|refine Lm ?_|refine Wm (by omega) ?_|refine dF (by omega) (fun h=>?_)|refine Bn ?_|refine Fm rfl ?_)|refine Bt ?_|refine Bu ?_)
   rw[cQ _ hml (by simp;omega)]
   rfl
theorem zN (x:aC) (hs:aC.sml x):af Tryz.prog 220 false [.val (some 2) (aC.enc .imm x)] .agg (aC.enc .own x):=by
 obtain⟨h0,h1⟩:=hs
 refine fO (n:=13) [] Tryz.func220 (by kernel_rfl) rfl (by kernel_rfl) (by rfl) (.inr (aC.enc_fr x)) ?_
 repeat'((conv=>whnf);first|with_reducible (first|refine Lm ?_|refine Wm (by omega) ?_|refine Bn ?_|refine Fm rfl ?_)|refine Bt ?_|refine Bu ?_|refine Cl.mk (nR x.Cells h0) ?_|refine Cl.mk (Bd x.Used h1) ?_)
 rfl
theorem BJ (x:aE) (hs:aE.sml x):af Tryz.prog 348 false [.val (some 2) (aE.enc .imm x)] .agg (aE.enc .own x):=by
 refine fO (n:=11) [] Tryz.func348 (by kernel_rfl) rfl (by kernel_rfl) (by rfl) (.inr (aE.enc_fr x)) ?_
 repeat'((conv=>whnf);first|with_reducible (first|refine Lm ?_|refine Wm (by omega) ?_|refine Bn ?_|refine Fm rfl ?_)|refine Bt ?_|refine Bu ?_)
 rfl
theorem ze (x:List aE) (hx:gD x):af Tryz.prog 301 false [.val none (d6 .imm x)] .one (d6 .own x):=by
 refine fO (n:=23) [] Tryz.func301 (by kernel_rfl) rfl (by kernel_rfl) (by rfl) (.inr (zB x)) ?_
 have hl:x.length≤1048576:=hx.1
 have hml:(x.map (aE.enc .own)).length=(List.replicate x.length ([I 0,I 0]:List C)).length:=by simp
 repeat'((conv=>whnf);first|with_reducible (first|refine Lm ?_|refine Wm (by omega) ?_|refine Bn ?_|refine Fm rfl ?_)|refine Bt ?_|refine Bu ?_|refine Mk.mk _ rfl rfl (by omega) (tO hl (by decide)) rfl ?_)
 (conv=>whnf)
 refine Lp.mk (ι:=Nat) (fun i=>[(0,.hold .one (d6 .imm x)),(3,.hold .one [.s .own (eS (x.map (aE.enc .own)) (List.replicate x.length [I 0,I 0]) i)]),(4,.hold .one [I (i:Nat)])]) (fun i=>i≤x.length) (fun i=>x.length - i) 0 ?_ (Nat.zero_le _) fun i hi=>?_
 ·rw[bP]
  repeat'(first|exact trivial|rfl|refine And.intro ?_ ?_)
 ·by_cases hlt:i<x.length
  ·obtain⟨y,hy⟩ : ∃ y,x[i]? = some y:=⟨_,List.getElem?_eq_getElem hlt⟩
   have hr:=cT hml i (by simp;omega)
   rw[fG hlt]at hr
   repeat'((conv=>whnf);first|with_reducible (first|refine Lm ?_|refine Wm (by omega) ?_|refine dT (by omega) (fun h=>?_)|refine Ix.nat (aa hy) ?_|refine Ix.nat hr ?_|refine Bn ?_|refine Fm rfl ?_)|refine Bt ?_|refine Bu ?_|refine Cl.mk (BJ y trivial) ?_|refine Pu.one rfl rfl hr rfl (Nat.le_refl _) rfl ?_|refine Nx.mk (i+1) (by omega) (by omega) ?_)
   repeat'(first|exact trivial|rfl|exact And.intro rfl (And.intro (congrArg (C.s dy.own) (bv hml (aa hy))) trivial)|refine And.intro ?_ ?_)
  ·repeat'((conv=>whnf);first|with_reducible (first|refine Lm ?_|refine Wm (by omega) ?_|refine dF (by omega) (fun h=>?_)|refine Bn ?_|refine Fm rfl ?_)|refine Bt ?_|refine Bu ?_)
   rw[cQ _ hml (by simp;omega)]
   rfl
theorem Ba (x:aB) (hs:aB.sml x):af Tryz.prog 221 false [.val (some 1) (aB.enc .imm x)] .agg (aB.enc .own x):=by
 have h0:=hs
 refine fO (n:=9) [] Tryz.func221 (by kernel_rfl) rfl (by kernel_rfl) (by rfl) (.inr (aB.enc_fr x)) ?_
 repeat'((conv=>whnf);first|with_reducible (first|refine Lm ?_|refine Wm (by omega) ?_|refine Bn ?_|refine Fm rfl ?_)|refine Bt ?_|refine Bu ?_|refine Cl.mk (ze x.Entries h0) ?_)
 rfl
theorem xq (x:aA) (hs:aA.sml x):af Tryz.prog 108 false [.val (some 3) (aA.enc .imm x)] .agg (aA.enc .own x):=by
 obtain⟨h0,h1⟩:=hs
 refine fO (n:=13) [] Tryz.func108 (by kernel_rfl) rfl (by kernel_rfl) (by rfl) (.inr (aA.enc_fr x)) ?_
 repeat'((conv=>whnf);first|with_reducible (first|refine Lm ?_|refine Wm (by omega) ?_|refine Bn ?_|refine Fm rfl ?_)|refine Bt ?_|refine Bu ?_|refine Cl.mk (zN x.Frames h0) ?_|refine Cl.mk (Ba x.Table h1) ?_)
 rfl
theorem xI (x:ao) (hs:ao.sml x):af Tryz.prog 33 false [.val (some 5) (ao.enc .imm x)] .agg (ao.enc .own x):=by
 obtain⟨h0,h1⟩:=hs
 refine fO (n:=16) [] Tryz.func33 (by kernel_rfl) rfl (by kernel_rfl) (by rfl) (.inr (ao.enc_fr x)) ?_
 repeat'((conv=>whnf);first|with_reducible (first|refine Lm ?_|refine Wm (by omega) ?_|refine Bn ?_|refine Fm rfl ?_)|refine Bt ?_|refine Bu ?_|refine Cl.mk (xq x.Machine h0) ?_|refine Cl.mk (pS x.Refuse h1) ?_)
 rfl
theorem AM (x:al) (hs:al.sml x):af Tryz.prog 110 false [.val (some 2) (al.enc .imm x)] .agg (al.enc .own x):=by
 refine fO (n:=11) [] Tryz.func110 (by kernel_rfl) rfl (by kernel_rfl) (by rfl) (.inr (al.enc_fr x)) ?_
 repeat'((conv=>whnf);first|with_reducible (first|refine Lm ?_|refine Wm (by omega) ?_|refine Bn ?_|refine Fm rfl ?_)|refine Bt ?_|refine Bu ?_)
 rfl
theorem xR (x:List al) (hx:dr x):af Tryz.prog 34 false [.val none (aT .imm x)] .one (aT .own x):=by
 refine fO (n:=23) [] Tryz.func34 (by kernel_rfl) rfl (by kernel_rfl) (by rfl) (.inr (jQ x)) ?_
 have hl:x.length≤1048576:=hx.1
 have hml:(x.map (al.enc .own)).length=(List.replicate x.length ([I 0,I 0]:List C)).length:=by simp
 repeat'((conv=>whnf);first|with_reducible (first|refine Lm ?_|refine Wm (by omega) ?_|refine Bn ?_|refine Fm rfl ?_)|refine Bt ?_|refine Bu ?_|refine Mk.mk _ rfl rfl (by omega) (tO hl (by decide)) rfl ?_)
 (conv=>whnf)
 refine Lp.mk (ι:=Nat) (fun i=>[(0,.hold .one (aT .imm x)),(3,.hold .one [.s .own (eS (x.map (al.enc .own)) (List.replicate x.length [I 0,I 0]) i)]),(4,.hold .one [I (i:Nat)])]) (fun i=>i≤x.length) (fun i=>x.length - i) 0 ?_ (Nat.zero_le _) fun i hi=>?_
 ·rw[bP]
  repeat'(first|exact trivial|rfl|refine And.intro ?_ ?_)
 ·by_cases hlt:i<x.length
  ·obtain⟨y,hy⟩ : ∃ y,x[i]? = some y:=⟨_,List.getElem?_eq_getElem hlt⟩
   have hr:=cT hml i (by simp;omega)
   rw[fG hlt]at hr
   repeat'((conv=>whnf);first|with_reducible (first|refine Lm ?_|refine Wm (by omega) ?_|refine dT (by omega) (fun h=>?_)|refine Ix.nat (aa hy) ?_|refine Ix.nat hr ?_|refine Bn ?_|refine Fm rfl ?_)|refine Bt ?_|refine Bu ?_|refine Cl.mk (AM y trivial) ?_|refine Pu.one rfl rfl hr rfl (Nat.le_refl _) rfl ?_|refine Nx.mk (i+1) (by omega) (by omega) ?_)
   repeat'(first|exact trivial|rfl|exact And.intro rfl (And.intro (congrArg (C.s dy.own) (bv hml (aa hy))) trivial)|refine And.intro ?_ ?_)
  ·repeat'((conv=>whnf);first|with_reducible (first|refine Lm ?_|refine Wm (by omega) ?_|refine dF (by omega) (fun h=>?_)|refine Bn ?_|refine Fm rfl ?_)|refine Bt ?_|refine Bu ?_)
   rw[cQ _ hml (by simp;omega)]
   rfl
theorem DZ (x:am) (hs:am.sml x):af Tryz.prog 111 false [.val (some 3) (am.enc .imm x)] .agg (am.enc .own x):=by
 refine fO (n:=14) [] Tryz.func111 (by kernel_rfl) rfl (by kernel_rfl) (by rfl) (.inr (am.enc_fr x)) ?_
 repeat'((conv=>whnf);first|with_reducible (first|refine Lm ?_|refine Wm (by omega) ?_|refine Bn ?_|refine Fm rfl ?_)|refine Bt ?_|refine Bu ?_)
 rfl
theorem By (x:List am) (hx:cf x):af Tryz.prog 35 false [.val none (bt .imm x)] .one (bt .own x):=by
 refine fO (n:=23) [] Tryz.func35 (by kernel_rfl) rfl (by kernel_rfl) (by rfl) (.inr (BA x)) ?_
 have hl:x.length≤1048576:=hx.1
 have hml:(x.map (am.enc .own)).length=(List.replicate x.length ([I 0,I 0,I 0]:List C)).length:=by simp
 repeat'((conv=>whnf);first|with_reducible (first|refine Lm ?_|refine Wm (by omega) ?_|refine Bn ?_|refine Fm rfl ?_)|refine Bt ?_|refine Bu ?_|refine Mk.mk _ rfl rfl (by omega) (tO hl (by decide)) rfl ?_)
 (conv=>whnf)
 refine Lp.mk (ι:=Nat) (fun i=>[(0,.hold .one (bt .imm x)),(3,.hold .one [.s .own (eS (x.map (am.enc .own)) (List.replicate x.length [I 0,I 0,I 0]) i)]),(4,.hold .one [I (i:Nat)])]) (fun i=>i≤x.length) (fun i=>x.length - i) 0 ?_ (Nat.zero_le _) fun i hi=>?_
 ·rw[bP]
  repeat'(first|exact trivial|rfl|refine And.intro ?_ ?_)
 ·by_cases hlt:i<x.length
  ·obtain⟨y,hy⟩ : ∃ y,x[i]? = some y:=⟨_,List.getElem?_eq_getElem hlt⟩
   have hr:=cT hml i (by simp;omega)
   rw[fG hlt]at hr
   repeat'((conv=>whnf);first|with_reducible (first|refine Lm ?_|refine Wm (by omega) ?_|refine dT (by omega) (fun h=>?_)|refine Ix.nat (aa hy) ?_|refine Ix.nat hr ?_|refine Bn ?_|refine Fm rfl ?_)|refine Bt ?_|refine Bu ?_|refine Cl.mk (DZ y trivial) ?_|refine Pu.one rfl rfl hr rfl (Nat.le_refl _) rfl ?_|refine Nx.mk (i+1) (by omega) (by omega) ?_)
   repeat'(first|exact trivial|rfl|exact And.intro rfl (And.intro (congrArg (C.s dy.own) (bv hml (aa hy))) trivial)|refine And.intro ?_ ?_)
  ·repeat'((conv=>whnf);first|with_reducible (first|refine Lm ?_|refine Wm (by omega) ?_|refine dF (by omega) (fun h=>?_)|refine Bn ?_|refine Fm rfl ?_)|refine Bt ?_|refine Bu ?_)
   rw[cQ _ hml (by simp;omega)]
   rfl
theorem Am (x:ah) (hs:ah.sml x):af Tryz.prog 112 false [.val (some 3) (ah.enc .imm x)] .agg (ah.enc .own x):=by
 refine fO (n:=14) [] Tryz.func112 (by kernel_rfl) rfl (by kernel_rfl) (by rfl) (.inr (ah.enc_fr x)) ?_
 repeat'((conv=>whnf);first|with_reducible (first|refine Lm ?_|refine Wm (by omega) ?_|refine Bn ?_|refine Fm rfl ?_)|refine Bt ?_|refine Bu ?_)
 rfl
theorem zH (x:List ah) (hx:bO x):af Tryz.prog 36 false [.val none (aW .imm x)] .one (aW .own x):=by
 refine fO (n:=23) [] Tryz.func36 (by kernel_rfl) rfl (by kernel_rfl) (by rfl) (.inr (y1 x)) ?_
 have hl:x.length≤1048576:=hx.1
 have hml:(x.map (ah.enc .own)).length=(List.replicate x.length ([I 0,I 0,I 0]:List C)).length:=by simp
 repeat'((conv=>whnf);first|with_reducible (first|refine Lm ?_|refine Wm (by omega) ?_|refine Bn ?_|refine Fm rfl ?_)|refine Bt ?_|refine Bu ?_|refine Mk.mk _ rfl rfl (by omega) (tO hl (by decide)) rfl ?_)
 (conv=>whnf)
 refine Lp.mk (ι:=Nat) (fun i=>[(0,.hold .one (aW .imm x)),(3,.hold .one [.s .own (eS (x.map (ah.enc .own)) (List.replicate x.length [I 0,I 0,I 0]) i)]),(4,.hold .one [I (i:Nat)])]) (fun i=>i≤x.length) (fun i=>x.length - i) 0 ?_ (Nat.zero_le _) fun i hi=>?_
 ·rw[bP]
  repeat'(first|exact trivial|rfl|refine And.intro ?_ ?_)
 ·by_cases hlt:i<x.length
  ·obtain⟨y,hy⟩ : ∃ y,x[i]? = some y:=⟨_,List.getElem?_eq_getElem hlt⟩
   have hr:=cT hml i (by simp;omega)
   rw[fG hlt]at hr
   repeat'((conv=>whnf);first|with_reducible (first|refine Lm ?_|refine Wm (by omega) ?_|refine dT (by omega) (fun h=>?_)|refine Ix.nat (aa hy) ?_|refine Ix.nat hr ?_|refine Bn ?_|refine Fm rfl ?_)|refine Bt ?_|refine Bu ?_|refine Cl.mk (Am y trivial) ?_|refine Pu.one rfl rfl hr rfl (Nat.le_refl _) rfl ?_|refine Nx.mk (i+1) (by omega) (by omega) ?_)
   repeat'(first|exact trivial|rfl|exact And.intro rfl (And.intro (congrArg (C.s dy.own) (bv hml (aa hy))) trivial)|refine And.intro ?_ ?_)
  ·repeat'((conv=>whnf);first|with_reducible (first|refine Lm ?_|refine Wm (by omega) ?_|refine dF (by omega) (fun h=>?_)|refine Bn ?_|refine Fm rfl ?_)|refine Bt ?_|refine Bu ?_)
   rw[cQ _ hml (by simp;omega)]
   rfl
theorem FR (x:aM) (hs:aM.sml x):af Tryz.prog 113 false [.val (some 4) (aM.enc .imm x)] .agg (aM.enc .own x):=by
 refine fO (n:=17) [] Tryz.func113 (by kernel_rfl) rfl (by kernel_rfl) (by rfl) (.inr (aM.enc_fr x)) ?_
 repeat'((conv=>whnf);first|with_reducible (first|refine Lm ?_|refine Wm (by omega) ?_|refine Bn ?_|refine Fm rfl ?_)|refine Bt ?_|refine Bu ?_)
 rfl
theorem Eu (x:List aM) (hx:kM x):af Tryz.prog 37 false [.val none (dA .imm x)] .one (dA .own x):=by
 refine fO (n:=23) [] Tryz.func37 (by kernel_rfl) rfl (by kernel_rfl) (by rfl) (.inr (E1 x)) ?_
 have hl:x.length≤1048576:=hx.1
 have hml:(x.map (aM.enc .own)).length=(List.replicate x.length ([I 0,I 0,I 0,I 0]:List C)).length:=by simp
 repeat'((conv=>whnf);first|with_reducible (first|refine Lm ?_|refine Wm (by omega) ?_|refine Bn ?_|refine Fm rfl ?_)|refine Bt ?_|refine Bu ?_|refine Mk.mk _ rfl rfl (by omega) (tO hl (by decide)) rfl ?_)
 (conv=>whnf)
 refine Lp.mk (ι:=Nat) (fun i=>[(0,.hold .one (dA .imm x)),(3,.hold .one [.s .own (eS (x.map (aM.enc .own)) (List.replicate x.length [I 0,I 0,I 0,I 0]) i)]),(4,.hold .one [I (i:Nat)])]) (fun i=>i≤x.length) (fun i=>x.length - i) 0 ?_ (Nat.zero_le _) fun i hi=>?_
 ·rw[bP]
  repeat'(first|exact trivial|rfl|refine And.intro ?_ ?_)
 ·by_cases hlt:i<x.length
  ·obtain⟨y,hy⟩ : ∃ y,x[i]? = some y:=⟨_,List.getElem?_eq_getElem hlt⟩
   have hr:=cT hml i (by simp;omega)
   rw[fG hlt]at hr
   repeat'((conv=>whnf);first|with_reducible (first|refine Lm ?_|refine Wm (by omega) ?_|refine dT (by omega) (fun h=>?_)|refine Ix.nat (aa hy) ?_|refine Ix.nat hr ?_|refine Bn ?_|refine Fm rfl ?_)|refine Bt ?_|refine Bu ?_|refine Cl.mk (FR y trivial) ?_|refine Pu.one rfl rfl hr rfl (Nat.le_refl _) rfl ?_|refine Nx.mk (i+1) (by omega) (by omega) ?_)
   repeat'(first|exact trivial|rfl|exact And.intro rfl (And.intro (congrArg (C.s dy.own) (bv hml (aa hy))) trivial)|refine And.intro ?_ ?_)
  ·repeat'((conv=>whnf);first|with_reducible (first|refine Lm ?_|refine Wm (by omega) ?_|refine dF (by omega) (fun h=>?_)|refine Bn ?_|refine Fm rfl ?_)|refine Bt ?_|refine Bu ?_)
   rw[cQ _ hml (by simp;omega)]
   rfl
theorem B7 (x:ar) (hs:ar.sml x):af Tryz.prog 114 false [.val (some 1) (ar.enc .imm x)] .agg (ar.enc .own x):=by
 have h0:=hs
 refine fO (n:=9) [] Tryz.func114 (by kernel_rfl) rfl (by kernel_rfl) (by rfl) (.inr (ar.enc_fr x)) ?_
 repeat'((conv=>whnf);first|with_reducible (first|refine Lm ?_|refine Wm (by omega) ?_|refine Bn ?_|refine Fm rfl ?_)|refine Bt ?_|refine Bu ?_|refine Cl.mk (nR x.Lists h0) ?_)
 rfl
theorem zn (x:List ar) (hx:gF x):af Tryz.prog 38 false [.val none (cP .imm x)] .one (cP .own x):=by
 refine fO (n:=23) [] Tryz.func38 (by kernel_rfl) rfl (by kernel_rfl) (by rfl) (.inr (zE x)) ?_
 have hl:x.length≤1048576:=hx.1
 have hml:(x.map (ar.enc .own)).length=(List.replicate x.length ([.z]:List C)).length:=by simp
 repeat'((conv=>whnf);first|with_reducible (first|refine Lm ?_|refine Wm (by omega) ?_|refine Bn ?_|refine Fm rfl ?_)|refine Bt ?_|refine Bu ?_|refine Mk.mk _ rfl rfl (by omega) (tO hl (by decide)) rfl ?_)
 (conv=>whnf)
 refine Lp.mk (ι:=Nat) (fun i=>[(0,.hold .one (cP .imm x)),(3,.hold .one [.s .own (eS (x.map (ar.enc .own)) (List.replicate x.length [.z]) i)]),(4,.hold .one [I (i:Nat)])]) (fun i=>i≤x.length) (fun i=>x.length - i) 0 ?_ (Nat.zero_le _) fun i hi=>?_
 ·rw[bP]
  repeat'(first|exact trivial|rfl|refine And.intro ?_ ?_)
 ·by_cases hlt:i<x.length
  ·obtain⟨y,hy⟩ : ∃ y,x[i]? = some y:=⟨_,List.getElem?_eq_getElem hlt⟩
   have hr:=cT hml i (by simp;omega)
   rw[fG hlt]at hr
   repeat'((conv=>whnf);first|with_reducible (first|refine Lm ?_|refine Wm (by omega) ?_|refine dT (by omega) (fun h=>?_)|refine Ix.nat (aa hy) ?_|refine Ix.nat hr ?_|refine Bn ?_|refine Fm rfl ?_)|refine Bt ?_|refine Bu ?_|refine Cl.mk (B7 y (hx.2 y (List.mem_of_getElem? hy))) ?_|refine Pu.one rfl rfl hr rfl (Nat.le_refl _) rfl ?_|refine Nx.mk (i+1) (by omega) (by omega) ?_)
   repeat'(first|exact trivial|rfl|exact And.intro rfl (And.intro (congrArg (C.s dy.own) (bv hml (aa hy))) trivial)|refine And.intro ?_ ?_)
  ·repeat'((conv=>whnf);first|with_reducible (first|refine Lm ?_|refine Wm (by omega) ?_|refine dF (by omega) (fun h=>?_)|refine Bn ?_|refine Fm rfl ?_)|refine Bt ?_|refine Bu ?_)
   rw[cQ _ hml (by simp;omega)]
   rfl
theorem DQ (x:aJ) (hs:aJ.sml x):af Tryz.prog 302 false [.val (some 2) (aJ.enc .imm x)] .agg (aJ.enc .own x):=by
 refine fO (n:=11) [] Tryz.func302 (by kernel_rfl) rfl (by kernel_rfl) (by rfl) (.inr (aJ.enc_fr x)) ?_
 repeat'((conv=>whnf);first|with_reducible (first|refine Lm ?_|refine Wm (by omega) ?_|refine Bn ?_|refine Fm rfl ?_)|refine Bt ?_|refine Bu ?_)
 rfl
theorem AE (x:List aJ) (hx:jf x):af Tryz.prog 222 false [.val none (br .imm x)] .one (br .own x):=by
 refine fO (n:=23) [] Tryz.func222 (by kernel_rfl) rfl (by kernel_rfl) (by rfl) (.inr (jl x)) ?_
 have hl:x.length≤1048576:=hx.1
 have hml:(x.map (aJ.enc .own)).length=(List.replicate x.length ([I 0,I 0]:List C)).length:=by simp
 repeat'((conv=>whnf);first|with_reducible (first|refine Lm ?_|refine Wm (by omega) ?_|refine Bn ?_|refine Fm rfl ?_)|refine Bt ?_|refine Bu ?_|refine Mk.mk _ rfl rfl (by omega) (tO hl (by decide)) rfl ?_)
 (conv=>whnf)
 refine Lp.mk (ι:=Nat) (fun i=>[(0,.hold .one (br .imm x)),(3,.hold .one [.s .own (eS (x.map (aJ.enc .own)) (List.replicate x.length [I 0,I 0]) i)]),(4,.hold .one [I (i:Nat)])]) (fun i=>i≤x.length) (fun i=>x.length - i) 0 ?_ (Nat.zero_le _) fun i hi=>?_
 ·rw[bP]
  repeat'(first|exact trivial|rfl|refine And.intro ?_ ?_)
 ·by_cases hlt:i<x.length
  ·obtain⟨y,hy⟩ : ∃ y,x[i]? = some y:=⟨_,List.getElem?_eq_getElem hlt⟩
   have hr:=cT hml i (by simp;omega)
   rw[fG hlt]at hr
   repeat'((conv=>whnf);first|with_reducible (first|refine Lm ?_|refine Wm (by omega) ?_|refine dT (by omega) (fun h=>?_)|refine Ix.nat (aa hy) ?_|refine Ix.nat hr ?_|refine Bn ?_|refine Fm rfl ?_)|refine Bt ?_|refine Bu ?_|refine Cl.mk (DQ y trivial) ?_|refine Pu.one rfl rfl hr rfl (Nat.le_refl _) rfl ?_|refine Nx.mk (i+1) (by omega) (by omega) ?_)
   repeat'(first|exact trivial|rfl|exact And.intro rfl (And.intro (congrArg (C.s dy.own) (bv hml (aa hy))) trivial)|refine And.intro ?_ ?_)
  ·repeat'((conv=>whnf);first|with_reducible (first|refine Lm ?_|refine Wm (by omega) ?_|refine dF (by omega) (fun h=>?_)|refine Bn ?_|refine Fm rfl ?_)|refine Bt ?_|refine Bu ?_)
   rw[cQ _ hml (by simp;omega)]
   rfl
theorem yV (x:List (List aJ)) (hx:g0 x):af Tryz.prog 115 false [.val none (dm .imm x)] .one (dm .own x):=by
 refine fO (n:=23) [] Tryz.func115 (by kernel_rfl) rfl (by kernel_rfl) (by rfl) (.inr (yH x)) ?_
 have hl:x.length≤1048576:=hx.1
 have hml:(x.map (br .own)).length=(List.replicate x.length ([.z]:List C)).length:=by simp
 repeat'((conv=>whnf);first|with_reducible (first|refine Lm ?_|refine Wm (by omega) ?_|refine Bn ?_|refine Fm rfl ?_)|refine Bt ?_|refine Bu ?_|refine Mk.mk _ rfl rfl (by omega) (tO hl (by decide)) rfl ?_)
 (conv=>whnf)
 refine Lp.mk (ι:=Nat) (fun i=>[(0,.hold .one (dm .imm x)),(3,.hold .one [.s .own (eS (x.map (br .own)) (List.replicate x.length [.z]) i)]),(4,.hold .one [I (i:Nat)])]) (fun i=>i≤x.length) (fun i=>x.length - i) 0 ?_ (Nat.zero_le _) fun i hi=>?_
 ·rw[bP]
  repeat'(first|exact trivial|rfl|refine And.intro ?_ ?_)
 ·by_cases hlt:i<x.length
  ·obtain⟨y,hy⟩ : ∃ y,x[i]? = some y:=⟨_,List.getElem?_eq_getElem hlt⟩
   have hr:=cT hml i (by simp;omega)
   rw[fG hlt]at hr
   repeat'((conv=>whnf);first|with_reducible (first|refine Lm ?_|refine Wm (by omega) ?_|refine dT (by omega) (fun h=>?_)|refine Ix.nat (aa hy) ?_|refine Ix.nat hr ?_|refine Bn ?_|refine Fm rfl ?_)|refine Bt ?_|refine Bu ?_|refine Cl.mk (AE y (hx.2 y (List.mem_of_getElem? hy))) ?_|refine Pu.one rfl rfl hr rfl (Nat.le_refl _) rfl ?_|refine Nx.mk (i+1) (by omega) (by omega) ?_)
   repeat'(first|exact trivial|rfl|exact And.intro rfl (And.intro (congrArg (C.s dy.own) (bv hml (aa hy))) trivial)|refine And.intro ?_ ?_)
  ·repeat'((conv=>whnf);first|with_reducible (first|refine Lm ?_|refine Wm (by omega) ?_|refine dF (by omega) (fun h=>?_)|refine Bn ?_|refine Fm rfl ?_)|refine Bt ?_|refine Bu ?_)
   rw[cQ _ hml (by simp;omega)]
   rfl
theorem E9 (x:aG) (hs:aG.sml x):af Tryz.prog 39 false [.val (some 2) (aG.enc .imm x)] .agg (aG.enc .own x):=by
 obtain⟨h0,h1⟩:=hs
 refine fO (n:=13) [] Tryz.func39 (by kernel_rfl) rfl (by kernel_rfl) (by rfl) (.inr (aG.enc_fr x)) ?_
 repeat'((conv=>whnf);first|with_reducible (first|refine Lm ?_|refine Wm (by omega) ?_|refine Bn ?_|refine Fm rfl ?_)|refine Bt ?_|refine Bu ?_|refine Cl.mk (yV x.Buffers h0) ?_|refine Cl.mk (nR x.Inbox h1) ?_)
 rfl
theorem B6 (x:ax) (hs:ax.sml x):af Tryz.prog 223 false [.val (some 3) (ax.enc .imm x)] .agg (ax.enc .own x):=by
 refine fO (n:=14) [] Tryz.func223 (by kernel_rfl) rfl (by kernel_rfl) (by rfl) (.inr (ax.enc_fr x)) ?_
 repeat'((conv=>whnf);first|with_reducible (first|refine Lm ?_|refine Wm (by omega) ?_|refine Bn ?_|refine Fm rfl ?_)|refine Bt ?_|refine Bu ?_)
 rfl
theorem zO (x:List ax) (hx:dN x):af Tryz.prog 117 false [.val none (bh .imm x)] .one (bh .own x):=by
 refine fO (n:=23) [] Tryz.func117 (by kernel_rfl) rfl (by kernel_rfl) (by rfl) (.inr (me x)) ?_
 have hl:x.length≤1048576:=hx.1
 have hml:(x.map (ax.enc .own)).length=(List.replicate x.length ([I 0,I 0,I 0]:List C)).length:=by simp
 repeat'((conv=>whnf);first|with_reducible (first|refine Lm ?_|refine Wm (by omega) ?_|refine Bn ?_|refine Fm rfl ?_)|refine Bt ?_|refine Bu ?_|refine Mk.mk _ rfl rfl (by omega) (tO hl (by decide)) rfl ?_)
 (conv=>whnf)
 refine Lp.mk (ι:=Nat) (fun i=>[(0,.hold .one (bh .imm x)),(3,.hold .one [.s .own (eS (x.map (ax.enc .own)) (List.replicate x.length [I 0,I 0,I 0]) i)]),(4,.hold .one [I (i:Nat)])]) (fun i=>i≤x.length) (fun i=>x.length - i) 0 ?_ (Nat.zero_le _) fun i hi=>?_
 ·rw[bP]
  repeat'(first|exact trivial|rfl|refine And.intro ?_ ?_)
 ·by_cases hlt:i<x.length
  ·obtain⟨y,hy⟩ : ∃ y,x[i]? = some y:=⟨_,List.getElem?_eq_getElem hlt⟩
   have hr:=cT hml i (by simp;omega)
   rw[fG hlt]at hr
   repeat'((conv=>whnf);first|with_reducible (first|refine Lm ?_|refine Wm (by omega) ?_|refine dT (by omega) (fun h=>?_)|refine Ix.nat (aa hy) ?_|refine Ix.nat hr ?_|refine Bn ?_|refine Fm rfl ?_)|refine Bt ?_|refine Bu ?_|refine Cl.mk (B6 y trivial) ?_|refine Pu.one rfl rfl hr rfl (Nat.le_refl _) rfl ?_|refine Nx.mk (i+1) (by omega) (by omega) ?_)
   repeat'(first|exact trivial|rfl|exact And.intro rfl (And.intro (congrArg (C.s dy.own) (bv hml (aa hy))) trivial)|refine And.intro ?_ ?_)
  ·repeat'((conv=>whnf);first|with_reducible (first|refine Lm ?_|refine Wm (by omega) ?_|refine dF (by omega) (fun h=>?_)|refine Bn ?_|refine Fm rfl ?_)|refine Bt ?_|refine Bu ?_)
   rw[cQ _ hml (by simp;omega)]
   rfl
theorem Ew (x:aK) (hs:aK.sml x):af Tryz.prog 40 false [.val (some 2) (aK.enc .imm x)] .agg (aK.enc .own x):=by
 have h0:=hs
 refine fO (n:=12) [] Tryz.func40 (by kernel_rfl) rfl (by kernel_rfl) (by rfl) (.inr (aK.enc_fr x)) ?_
 repeat'((conv=>whnf);first|with_reducible (first|refine Lm ?_|refine Wm (by omega) ?_|refine Bn ?_|refine Fm rfl ?_)|refine Bt ?_|refine Bu ?_|refine Cl.mk (zO x.Lst h0) ?_)
 rfl
theorem E0 (x:aV) (hs:aV.sml x):af Tryz.prog 118 false [.val (some 3) (aV.enc .imm x)] .agg (aV.enc .own x):=by
 have h0:=hs
 refine fO (n:=15) [] Tryz.func118 (by kernel_rfl) rfl (by kernel_rfl) (by rfl) (.inr (aV.enc_fr x)) ?_
 repeat'((conv=>whnf);first|with_reducible (first|refine Lm ?_|refine Wm (by omega) ?_|refine Bn ?_|refine Fm rfl ?_)|refine Bt ?_|refine Bu ?_|refine Cl.mk (pS x.Cells h0) ?_)
 rfl
theorem FW (x:bq) (hs:bq.sml x):af Tryz.prog 41 false [.val (some 5) (bq.enc .imm x)] .agg (bq.enc .own x):=by
 have h0:=hs
 refine fO (n:=15) [] Tryz.func41 (by kernel_rfl) rfl (by kernel_rfl) (by rfl) (.inr (bq.enc_fr x)) ?_
 repeat'((conv=>whnf);first|with_reducible (first|refine Lm ?_|refine Wm (by omega) ?_|refine Bn ?_|refine Fm rfl ?_)|refine Bt ?_|refine Bu ?_|refine Cl.mk (E0 x.Plan h0) ?_)
 rfl
theorem Et (x:ac) (hs:ac.sml x):af Tryz.prog 8 false [.val (some 24) (ac.enc .imm x)] .agg (ac.enc .own x):=by
 obtain⟨h0,h1,h2,h3,h4,h5,h6,h7,h8⟩:=hs
 refine fO (n:=56) [] Tryz.func8 (by kernel_rfl) rfl (by kernel_rfl) (by rfl) (.inr (ac.enc_fr x)) ?_
 repeat'((conv=>whnf);first|with_reducible (first|refine Lm ?_|refine Wm (by omega) ?_|refine Bn ?_|refine Fm rfl ?_)|refine Bt ?_|refine Bu ?_|refine Cl.mk (xI x.Kernel h0) ?_|refine Cl.mk (xR x.Free h1) ?_|refine Cl.mk (By x.Spans h2) ?_|refine Cl.mk (zH x.Larges h3) ?_|refine Cl.mk (Eu x.Objs h4) ?_|refine Cl.mk (zn x.Caches h5) ?_|refine Cl.mk (E9 x.Mail h6) ?_|refine Cl.mk (Ew x.Quar h7) ?_|refine Cl.mk (FW x.Job h8) ?_)
 rfl
end Go.Proofs.YtogajjgmcnjkbaaGreat.Ab
namespace Go.Proofs.YtogajjgmcnjkbaaGreat.Ab
open Go.RowKit
set_option maxRecDepth 20000
set_option maxHeartbeats 2000000
theorem pZ (x:List Int) (left:Int) (h0:0≤left) (h1:left≤1048576) (hw:pN x):af Tryz.prog 83 false [.val none (aI .imm x),.val none [I left]] .one [I (hB (szIntS x) left)]:=by
 refine fO (n:=12) [] Tryz.func83 (by kernel_rfl) rfl (by kernel_rfl) (by rfl) (.inr ⟨trivial,trivial⟩) ?_
 have hl:=hw.1
 repeat'((conv=>whnf);first|with_reducible (first|refine Lm ?_|refine Wm (by omega) ?_|refine dF (by omega) (fun h=>?_)|refine dT (by omega) (fun h=>?_)|refine Bf.D (fun h=>?_) (fun h=>?_)|refine Bn ?_|refine Fm rfl ?_)|refine Bt ?_|refine Bu ?_)
 all_goals exact congrArg (fun z=>[I z]) (by unfold hB szIntS;split<;>omega)
theorem nY (x:List (List Int)) (left:Int) (h0:0≤left) (h1:left≤1048576) (hw:pt x):af Tryz.prog 86 false [.val none (d5 .imm x),.val none [I left]] .one [I (hB (szIntSS x) left)]:=by
 refine fO (n:=27) [] Tryz.func86 (by kernel_rfl) rfl (by kernel_rfl) (by rfl) (.inr ⟨trivial,trivial⟩) ?_
 have hl:=hw.1
 repeat'((conv=>whnf);first|with_reducible (first|refine Lm ?_|refine Wm (by omega) ?_|refine dF (by omega) (fun h=>?_)|refine dT (by omega) (fun h=>?_)|refine Bf.D (fun h=>?_) (fun h=>?_)|refine Bn ?_|refine Fm rfl ?_)|refine Bt ?_|refine Bu ?_)
 ·exact congrArg (fun z=>[I z]) (by unfold hB szIntSS;split<;>omega)
 (conv=>whnf)
 refine Lp.mk (ι:=Nat) (fun i=>[(0,.hold .one (d5 .imm x)),(1,.hold .one [I (left - x.length - (dz x i:Nat))]),(5,.hold .one [I (i:Nat)])]) (fun i=>i≤x.length∧(x.length+dz x i:Int)≤left) (fun i=>x.length - i) 0 ?_ ⟨Nat.zero_le _,by rw[jF];omega⟩ fun i hi=>?_
 ·rw[jF]
  repeat'(first|exact trivial|rfl|exact And.intro rfl (And.intro (congrArg I (by omega)) trivial)|refine And.intro ?_ ?_)
 ·obtain⟨hi,hpi⟩:=hi
  have hpl:=lK x i
  by_cases hlt:i<x.length
  ·obtain⟨y,hy⟩ : ∃ y,x[i]? = some y:=⟨_,List.getElem?_eq_getElem hlt⟩
   have hps:=mB x i y hy
   have hpl2:=lK x (i+1)
   repeat'((conv=>whnf);first|with_reducible (first|refine Lm ?_|refine Wm (by omega) ?_|refine Ix.nat (aa hy) ?_|refine dF (by omega) (fun h=>?_)|refine dT (by omega) (fun h=>?_)|refine Bf.D (fun h=>?_) (fun h=>?_)|refine Bn ?_|refine Fm rfl ?_)|refine Bt ?_|refine Bu ?_|refine Cl.sz (pZ y _ (by omega) (by omega) (hw.2 y (List.mem_of_getElem? hy))) (fun h=>?_) (fun h=>?_)|refine Nx.mk (i+1) ⟨by omega,by omega⟩ (by omega) ?_)
   ·exact congrArg (fun z=>[I z]) (by unfold hB szIntSS;split<;>omega)
   ·rw[hps]
    repeat'(first|exact trivial|rfl|exact And.intro rfl (And.intro (congrArg I (by omega)) trivial)|refine And.intro ?_ ?_)
  ·repeat'((conv=>whnf);first|with_reducible (first|refine Lm ?_|refine Wm (by omega) ?_|refine dF (by omega) (fun h=>?_)|refine dT (by omega) (fun h=>?_)|refine Bf.D (fun h=>?_) (fun h=>?_)|refine Bn ?_|refine Fm rfl ?_)|refine Bt ?_|refine Bu ?_)
   have he:i=x.length:=by omega
   subst he
   rw[nB]at hpi ⊢
   exact congrArg (fun z=>[I z]) (by unfold hB szIntSS;split<;>omega)
theorem Aw (x:List Bool) (left:Int) (h0:0≤left) (h1:left≤1048576) (hw:wv x):af Tryz.prog 287 false [.val none (fR .imm x),.val none [I left]] .one [I (hB (szBoolS x) left)]:=by
 refine fO (n:=12) [] Tryz.func287 (by kernel_rfl) rfl (by kernel_rfl) (by rfl) (.inr ⟨trivial,trivial⟩) ?_
 have hl:=hw.1
 repeat'((conv=>whnf);first|with_reducible (first|refine Lm ?_|refine Wm (by omega) ?_|refine dF (by omega) (fun h=>?_)|refine dT (by omega) (fun h=>?_)|refine Bf.D (fun h=>?_) (fun h=>?_)|refine Bn ?_|refine Fm rfl ?_)|refine Bt ?_|refine Bu ?_)
 all_goals exact congrArg (fun z=>[I z]) (by unfold hB szBoolS;split<;>omega)
theorem xT (x:aC) (left:Int) (h0:0≤left) (h1:left≤1048576) (hw:aC.wf x):af Tryz.prog 198 false [.val (some 2) (aC.enc .imm x),.val none [I left]] .one [I (hB (aC.sz x) left)]:=by
 obtain⟨wCells,wUsed⟩:=hw
 refine fO (n:=18) [] Tryz.func198 (by kernel_rfl) rfl (by kernel_rfl) (by rfl) (.inr ⟨trivial,trivial⟩) ?_
 repeat'((conv=>whnf);first|with_reducible (first|refine Lm ?_|refine Wm (by omega) ?_|refine dF (by omega) (fun h=>?_)|refine dT (by omega) (fun h=>?_)|refine Bf.D (fun h=>?_) (fun h=>?_)|refine Bn ?_|refine Fm rfl ?_)|refine Bt ?_|refine Bu ?_|refine Cl.sz (nY x.Cells _ (by omega) (by omega) wCells) (fun h=>?_) (fun h=>?_)|refine Cl.sz (Aw x.Used _ (by omega) (by omega) wUsed) (fun h=>?_) (fun h=>?_))
 all_goals exact congrArg (fun z=>[I z]) (by unfold hB aC.sz;split<;>omega)
theorem yB (x:List aE) (left:Int) (h0:0≤left) (h1:left≤1048576) (hw:pH x):af Tryz.prog 288 false [.val none (d6 .imm x),.val none [I left]] .one [I (hB (jb x) left)]:=by
 refine fO (n:=12) [] Tryz.func288 (by kernel_rfl) rfl (by kernel_rfl) (by rfl) (.inr ⟨trivial,trivial⟩) ?_
 have hl:=hw.1
 repeat'((conv=>whnf);first|with_reducible (first|refine Lm ?_|refine Wm (by omega) ?_|refine dF (by omega) (fun h=>?_)|refine dT (by omega) (fun h=>?_)|refine Bf.D (fun h=>?_) (fun h=>?_)|refine Bn ?_|refine Fm rfl ?_)|refine Bt ?_|refine Bu ?_)
 all_goals exact congrArg (fun z=>[I z]) (by unfold hB jb;split<;>omega)
theorem Bg (x:aB) (left:Int) (h0:0≤left) (h1:left≤1048576) (hw:aB.wf x):af Tryz.prog 199 false [.val (some 1) (aB.enc .imm x),.val none [I left]] .one [I (hB (aB.sz x) left)]:=by
 refine fO (n:=12) [] Tryz.func199 (by kernel_rfl) rfl (by kernel_rfl) (by rfl) (.inr ⟨trivial,trivial⟩) ?_
 repeat'((conv=>whnf);first|with_reducible (first|refine Lm ?_|refine Wm (by omega) ?_|refine dF (by omega) (fun h=>?_)|refine dT (by omega) (fun h=>?_)|refine Bf.D (fun h=>?_) (fun h=>?_)|refine Bn ?_|refine Fm rfl ?_)|refine Bt ?_|refine Bu ?_|refine Cl.sz (yB x.Entries _ (by omega) (by omega) hw) (fun h=>?_) (fun h=>?_))
 all_goals exact congrArg (fun z=>[I z]) (by unfold hB aB.sz;split<;>omega)
theorem wm (x:aA) (left:Int) (h0:0≤left) (h1:left≤1048576) (hw:aA.wf x):af Tryz.prog 82 false [.val (some 3) (aA.enc .imm x),.val none [I left]] .one [I (hB (aA.sz x) left)]:=by
 obtain⟨wFrames,wTable⟩:=hw
 refine fO (n:=18) [] Tryz.func82 (by kernel_rfl) rfl (by kernel_rfl) (by rfl) (.inr ⟨trivial,trivial⟩) ?_
 repeat'((conv=>whnf);first|with_reducible (first|refine Lm ?_|refine Wm (by omega) ?_|refine dF (by omega) (fun h=>?_)|refine dT (by omega) (fun h=>?_)|refine Bf.D (fun h=>?_) (fun h=>?_)|refine Bn ?_|refine Fm rfl ?_)|refine Bt ?_|refine Bu ?_|refine Cl.sz (xT x.Frames _ (by omega) (by omega) wFrames) (fun h=>?_) (fun h=>?_)|refine Cl.sz (Bg x.Table _ (by omega) (by omega) wTable) (fun h=>?_) (fun h=>?_))
 all_goals exact congrArg (fun z=>[I z]) (by unfold hB aA.sz;split<;>omega)
theorem xG (x:ao) (left:Int) (h0:0≤left) (h1:left≤1048576) (hw:ao.wf x):af Tryz.prog 17 false [.val (some 5) (ao.enc .imm x),.val none [I left]] .one [I (hB (ao.sz x) left)]:=by
 obtain⟨wMachine,wCalls,wRefuse⟩:=hw
 refine fO (n:=18) [] Tryz.func17 (by kernel_rfl) rfl (by kernel_rfl) (by rfl) (.inr ⟨trivial,trivial⟩) ?_
 repeat'((conv=>whnf);first|with_reducible (first|refine Lm ?_|refine Wm (by omega) ?_|refine dF (by omega) (fun h=>?_)|refine dT (by omega) (fun h=>?_)|refine Bf.D (fun h=>?_) (fun h=>?_)|refine Bn ?_|refine Fm rfl ?_)|refine Bt ?_|refine Bu ?_|refine Cl.sz (wm x.Machine _ (by omega) (by omega) wMachine) (fun h=>?_) (fun h=>?_)|refine Cl.sz (pZ x.Refuse _ (by omega) (by omega) wRefuse) (fun h=>?_) (fun h=>?_))
 all_goals exact congrArg (fun z=>[I z]) (by unfold hB ao.sz;split<;>omega)
theorem yN (x:List al) (left:Int) (h0:0≤left) (h1:left≤1048576) (hw:qq x):af Tryz.prog 18 false [.val none (aT .imm x),.val none [I left]] .one [I (hB (je x) left)]:=by
 refine fO (n:=12) [] Tryz.func18 (by kernel_rfl) rfl (by kernel_rfl) (by rfl) (.inr ⟨trivial,trivial⟩) ?_
 have hl:=hw.1
 repeat'((conv=>whnf);first|with_reducible (first|refine Lm ?_|refine Wm (by omega) ?_|refine dF (by omega) (fun h=>?_)|refine dT (by omega) (fun h=>?_)|refine Bf.D (fun h=>?_) (fun h=>?_)|refine Bn ?_|refine Fm rfl ?_)|refine Bt ?_|refine Bu ?_)
 all_goals exact congrArg (fun z=>[I z]) (by unfold hB je;split<;>omega)
theorem AZ (x:List am) (left:Int) (h0:0≤left) (h1:left≤1048576) (hw:sY x):af Tryz.prog 19 false [.val none (bt .imm x),.val none [I left]] .one [I (hB (kS x) left)]:=by
 refine fO (n:=12) [] Tryz.func19 (by kernel_rfl) rfl (by kernel_rfl) (by rfl) (.inr ⟨trivial,trivial⟩) ?_
 have hl:=hw.1
 repeat'((conv=>whnf);first|with_reducible (first|refine Lm ?_|refine Wm (by omega) ?_|refine dF (by omega) (fun h=>?_)|refine dT (by omega) (fun h=>?_)|refine Bf.D (fun h=>?_) (fun h=>?_)|refine Bn ?_|refine Fm rfl ?_)|refine Bt ?_|refine Bu ?_)
 all_goals exact congrArg (fun z=>[I z]) (by unfold hB kS;split<;>omega)
theorem yr (x:List ah) (left:Int) (h0:0≤left) (h1:left≤1048576) (hw:qd x):af Tryz.prog 20 false [.val none (aW .imm x),.val none [I left]] .one [I (hB (jc x) left)]:=by
 refine fO (n:=12) [] Tryz.func20 (by kernel_rfl) rfl (by kernel_rfl) (by rfl) (.inr ⟨trivial,trivial⟩) ?_
 have hl:=hw.1
 repeat'((conv=>whnf);first|with_reducible (first|refine Lm ?_|refine Wm (by omega) ?_|refine dF (by omega) (fun h=>?_)|refine dT (by omega) (fun h=>?_)|refine Bf.D (fun h=>?_) (fun h=>?_)|refine Bn ?_|refine Fm rfl ?_)|refine Bt ?_|refine Bu ?_)
 all_goals exact congrArg (fun z=>[I z]) (by unfold hB jc;split<;>omega)
theorem E3 (x:List aM) (left:Int) (h0:0≤left) (h1:left≤1048576) (hw:wy x):af Tryz.prog 21 false [.val none (dA .imm x),.val none [I left]] .one [I (hB (nb x) left)]:=by
 refine fO (n:=12) [] Tryz.func21 (by kernel_rfl) rfl (by kernel_rfl) (by rfl) (.inr ⟨trivial,trivial⟩) ?_
 have hl:=hw.1
 repeat'((conv=>whnf);first|with_reducible (first|refine Lm ?_|refine Wm (by omega) ?_|refine dF (by omega) (fun h=>?_)|refine dT (by omega) (fun h=>?_)|refine Bf.D (fun h=>?_) (fun h=>?_)|refine Bn ?_|refine Fm rfl ?_)|refine Bt ?_|refine Bu ?_)
 all_goals exact congrArg (fun z=>[I z]) (by unfold hB nb;split<;>omega)
theorem Br (x:ar) (left:Int) (h0:0≤left) (h1:left≤1048576) (hw:ar.wf x):af Tryz.prog 84 false [.val (some 1) (ar.enc .imm x),.val none [I left]] .one [I (hB (ar.sz x) left)]:=by
 refine fO (n:=12) [] Tryz.func84 (by kernel_rfl) rfl (by kernel_rfl) (by rfl) (.inr ⟨trivial,trivial⟩) ?_
 repeat'((conv=>whnf);first|with_reducible (first|refine Lm ?_|refine Wm (by omega) ?_|refine dF (by omega) (fun h=>?_)|refine dT (by omega) (fun h=>?_)|refine Bf.D (fun h=>?_) (fun h=>?_)|refine Bn ?_|refine Fm rfl ?_)|refine Bt ?_|refine Bu ?_|refine Cl.sz (nY x.Lists _ (by omega) (by omega) hw) (fun h=>?_) (fun h=>?_))
 all_goals exact congrArg (fun z=>[I z]) (by unfold hB ar.sz;split<;>omega)
theorem xZ (x:List ar) (left:Int) (h0:0≤left) (h1:left≤1048576) (hw:qt x):af Tryz.prog 22 false [.val none (cP .imm x),.val none [I left]] .one [I (hB (eE x) left)]:=by
 refine fO (n:=27) [] Tryz.func22 (by kernel_rfl) rfl (by kernel_rfl) (by rfl) (.inr ⟨trivial,trivial⟩) ?_
 have hl:=hw.1
 repeat'((conv=>whnf);first|with_reducible (first|refine Lm ?_|refine Wm (by omega) ?_|refine dF (by omega) (fun h=>?_)|refine dT (by omega) (fun h=>?_)|refine Bf.D (fun h=>?_) (fun h=>?_)|refine Bn ?_|refine Fm rfl ?_)|refine Bt ?_|refine Bu ?_)
 ·exact congrArg (fun z=>[I z]) (by unfold hB eE;split<;>omega)
 (conv=>whnf)
 refine Lp.mk (ι:=Nat) (fun i=>[(0,.hold .one (cP .imm x)),(1,.hold .one [I (left - x.length - (cx x i:Nat))]),(5,.hold .one [I (i:Nat)])]) (fun i=>i≤x.length∧(x.length+cx x i:Int)≤left) (fun i=>x.length - i) 0 ?_ ⟨Nat.zero_le _,by rw[gA];omega⟩ fun i hi=>?_
 ·rw[gA]
  repeat'(first|exact trivial|rfl|exact And.intro rfl (And.intro (congrArg I (by omega)) trivial)|refine And.intro ?_ ?_)
 ·obtain⟨hi,hpi⟩:=hi
  have hpl:=j5 x i
  by_cases hlt:i<x.length
  ·obtain⟨y,hy⟩ : ∃ y,x[i]? = some y:=⟨_,List.getElem?_eq_getElem hlt⟩
   have hps:=kK x i y hy
   have hpl2:=j5 x (i+1)
   repeat'((conv=>whnf);first|with_reducible (first|refine Lm ?_|refine Wm (by omega) ?_|refine Ix.nat (aa hy) ?_|refine dF (by omega) (fun h=>?_)|refine dT (by omega) (fun h=>?_)|refine Bf.D (fun h=>?_) (fun h=>?_)|refine Bn ?_|refine Fm rfl ?_)|refine Bt ?_|refine Bu ?_|refine Cl.sz (Br y _ (by omega) (by omega) (hw.2 y (List.mem_of_getElem? hy))) (fun h=>?_) (fun h=>?_)|refine Nx.mk (i+1) ⟨by omega,by omega⟩ (by omega) ?_)
   ·exact congrArg (fun z=>[I z]) (by unfold hB eE;split<;>omega)
   ·rw[hps]
    repeat'(first|exact trivial|rfl|exact And.intro rfl (And.intro (congrArg I (by omega)) trivial)|refine And.intro ?_ ?_)
  ·repeat'((conv=>whnf);first|with_reducible (first|refine Lm ?_|refine Wm (by omega) ?_|refine dF (by omega) (fun h=>?_)|refine dT (by omega) (fun h=>?_)|refine Bf.D (fun h=>?_) (fun h=>?_)|refine Bn ?_|refine Fm rfl ?_)|refine Bt ?_|refine Bu ?_)
   have he:i=x.length:=by omega
   subst he
   rw[lV]at hpi ⊢
   exact congrArg (fun z=>[I z]) (by unfold hB eE;split<;>omega)
theorem A8 (x:List aJ) (left:Int) (h0:0≤left) (h1:left≤1048576) (hw:sx x):af Tryz.prog 200 false [.val none (br .imm x),.val none [I left]] .one [I (hB (gm x) left)]:=by
 refine fO (n:=12) [] Tryz.func200 (by kernel_rfl) rfl (by kernel_rfl) (by rfl) (.inr ⟨trivial,trivial⟩) ?_
 have hl:=hw.1
 repeat'((conv=>whnf);first|with_reducible (first|refine Lm ?_|refine Wm (by omega) ?_|refine dF (by omega) (fun h=>?_)|refine dT (by omega) (fun h=>?_)|refine Bf.D (fun h=>?_) (fun h=>?_)|refine Bn ?_|refine Fm rfl ?_)|refine Bt ?_|refine Bu ?_)
 all_goals exact congrArg (fun z=>[I z]) (by unfold hB gm;split<;>omega)
theorem yX (x:List (List aJ)) (left:Int) (h0:0≤left) (h1:left≤1048576) (hw:qi x):af Tryz.prog 85 false [.val none (dm .imm x),.val none [I left]] .one [I (hB (eD x) left)]:=by
 refine fO (n:=27) [] Tryz.func85 (by kernel_rfl) rfl (by kernel_rfl) (by rfl) (.inr ⟨trivial,trivial⟩) ?_
 have hl:=hw.1
 repeat'((conv=>whnf);first|with_reducible (first|refine Lm ?_|refine Wm (by omega) ?_|refine dF (by omega) (fun h=>?_)|refine dT (by omega) (fun h=>?_)|refine Bf.D (fun h=>?_) (fun h=>?_)|refine Bn ?_|refine Fm rfl ?_)|refine Bt ?_|refine Bu ?_)
 ·exact congrArg (fun z=>[I z]) (by unfold hB eD;split<;>omega)
 (conv=>whnf)
 refine Lp.mk (ι:=Nat) (fun i=>[(0,.hold .one (dm .imm x)),(1,.hold .one [I (left - x.length - (cv x i:Nat))]),(5,.hold .one [I (i:Nat)])]) (fun i=>i≤x.length∧(x.length+cv x i:Int)≤left) (fun i=>x.length - i) 0 ?_ ⟨Nat.zero_le _,by rw[g9];omega⟩ fun i hi=>?_
 ·rw[g9]
  repeat'(first|exact trivial|rfl|exact And.intro rfl (And.intro (congrArg I (by omega)) trivial)|refine And.intro ?_ ?_)
 ·obtain⟨hi,hpi⟩:=hi
  have hpl:=jo x i
  by_cases hlt:i<x.length
  ·obtain⟨y,hy⟩ : ∃ y,x[i]? = some y:=⟨_,List.getElem?_eq_getElem hlt⟩
   have hps:=kE x i y hy
   have hpl2:=jo x (i+1)
   repeat'((conv=>whnf);first|with_reducible (first|refine Lm ?_|refine Wm (by omega) ?_|refine Ix.nat (aa hy) ?_|refine dF (by omega) (fun h=>?_)|refine dT (by omega) (fun h=>?_)|refine Bf.D (fun h=>?_) (fun h=>?_)|refine Bn ?_|refine Fm rfl ?_)|refine Bt ?_|refine Bu ?_|refine Cl.sz (A8 y _ (by omega) (by omega) (hw.2 y (List.mem_of_getElem? hy))) (fun h=>?_) (fun h=>?_)|refine Nx.mk (i+1) ⟨by omega,by omega⟩ (by omega) ?_)
   ·exact congrArg (fun z=>[I z]) (by unfold hB eD;split<;>omega)
   ·rw[hps]
    repeat'(first|exact trivial|rfl|exact And.intro rfl (And.intro (congrArg I (by omega)) trivial)|refine And.intro ?_ ?_)
  ·repeat'((conv=>whnf);first|with_reducible (first|refine Lm ?_|refine Wm (by omega) ?_|refine dF (by omega) (fun h=>?_)|refine dT (by omega) (fun h=>?_)|refine Bf.D (fun h=>?_) (fun h=>?_)|refine Bn ?_|refine Fm rfl ?_)|refine Bt ?_|refine Bu ?_)
   have he:i=x.length:=by omega
   subst he
   rw[lP]at hpi ⊢
   exact congrArg (fun z=>[I z]) (by unfold hB eD;split<;>omega)
theorem DT (x:aG) (left:Int) (h0:0≤left) (h1:left≤1048576) (hw:aG.wf x):af Tryz.prog 23 false [.val (some 2) (aG.enc .imm x),.val none [I left]] .one [I (hB (aG.sz x) left)]:=by
 obtain⟨wBuffers,wInbox⟩:=hw
 refine fO (n:=18) [] Tryz.func23 (by kernel_rfl) rfl (by kernel_rfl) (by rfl) (.inr ⟨trivial,trivial⟩) ?_
 repeat'((conv=>whnf);first|with_reducible (first|refine Lm ?_|refine Wm (by omega) ?_|refine dF (by omega) (fun h=>?_)|refine dT (by omega) (fun h=>?_)|refine Bf.D (fun h=>?_) (fun h=>?_)|refine Bn ?_|refine Fm rfl ?_)|refine Bt ?_|refine Bu ?_|refine Cl.sz (yX x.Buffers _ (by omega) (by omega) wBuffers) (fun h=>?_) (fun h=>?_)|refine Cl.sz (nY x.Inbox _ (by omega) (by omega) wInbox) (fun h=>?_) (fun h=>?_))
 all_goals exact congrArg (fun z=>[I z]) (by unfold hB aG.sz;split<;>omega)
theorem yk (x:List ax) (left:Int) (h0:0≤left) (h1:left≤1048576) (hw:qw x):af Tryz.prog 87 false [.val none (bh .imm x),.val none [I left]] .one [I (hB (iY x) left)]:=by
 refine fO (n:=12) [] Tryz.func87 (by kernel_rfl) rfl (by kernel_rfl) (by rfl) (.inr ⟨trivial,trivial⟩) ?_
 have hl:=hw.1
 repeat'((conv=>whnf);first|with_reducible (first|refine Lm ?_|refine Wm (by omega) ?_|refine dF (by omega) (fun h=>?_)|refine dT (by omega) (fun h=>?_)|refine Bf.D (fun h=>?_) (fun h=>?_)|refine Bn ?_|refine Fm rfl ?_)|refine Bt ?_|refine Bu ?_)
 all_goals exact congrArg (fun z=>[I z]) (by unfold hB iY;split<;>omega)
theorem Ee (x:aK) (left:Int) (h0:0≤left) (h1:left≤1048576) (hw:aK.wf x):af Tryz.prog 24 false [.val (some 2) (aK.enc .imm x),.val none [I left]] .one [I (hB (aK.sz x) left)]:=by
 obtain⟨wRoom,wLst⟩:=hw
 refine fO (n:=12) [] Tryz.func24 (by kernel_rfl) rfl (by kernel_rfl) (by rfl) (.inr ⟨trivial,trivial⟩) ?_
 repeat'((conv=>whnf);first|with_reducible (first|refine Lm ?_|refine Wm (by omega) ?_|refine dF (by omega) (fun h=>?_)|refine dT (by omega) (fun h=>?_)|refine Bf.D (fun h=>?_) (fun h=>?_)|refine Bn ?_|refine Fm rfl ?_)|refine Bt ?_|refine Bu ?_|refine Cl.sz (yk x.Lst _ (by omega) (by omega) wLst) (fun h=>?_) (fun h=>?_))
 all_goals exact congrArg (fun z=>[I z]) (by unfold hB aK.sz;split<;>omega)
theorem Eo (x:aV) (left:Int) (h0:0≤left) (h1:left≤1048576) (hw:aV.wf x):af Tryz.prog 88 false [.val (some 3) (aV.enc .imm x),.val none [I left]] .one [I (hB (aV.sz x) left)]:=by
 obtain⟨wKeep,wMove,wCells⟩:=hw
 refine fO (n:=12) [] Tryz.func88 (by kernel_rfl) rfl (by kernel_rfl) (by rfl) (.inr ⟨trivial,trivial⟩) ?_
 repeat'((conv=>whnf);first|with_reducible (first|refine Lm ?_|refine Wm (by omega) ?_|refine dF (by omega) (fun h=>?_)|refine dT (by omega) (fun h=>?_)|refine Bf.D (fun h=>?_) (fun h=>?_)|refine Bn ?_|refine Fm rfl ?_)|refine Bt ?_|refine Bu ?_|refine Cl.sz (pZ x.Cells _ (by omega) (by omega) wCells) (fun h=>?_) (fun h=>?_))
 all_goals exact congrArg (fun z=>[I z]) (by unfold hB aV.sz;split<;>omega)
theorem Fu (x:bq) (left:Int) (h0:0≤left) (h1:left≤1048576) (hw:bq.wf x):af Tryz.prog 25 false [.val (some 5) (bq.enc .imm x),.val none [I left]] .one [I (hB (bq.sz x) left)]:=by
 obtain⟨wPlan,wPhase,wNext⟩:=hw
 refine fO (n:=12) [] Tryz.func25 (by kernel_rfl) rfl (by kernel_rfl) (by rfl) (.inr ⟨trivial,trivial⟩) ?_
 repeat'((conv=>whnf);first|with_reducible (first|refine Lm ?_|refine Wm (by omega) ?_|refine dF (by omega) (fun h=>?_)|refine dT (by omega) (fun h=>?_)|refine Bf.D (fun h=>?_) (fun h=>?_)|refine Bn ?_|refine Fm rfl ?_)|refine Bt ?_|refine Bu ?_|refine Cl.sz (Eo x.Plan _ (by omega) (by omega) wPlan) (fun h=>?_) (fun h=>?_))
 all_goals exact congrArg (fun z=>[I z]) (by unfold hB bq.sz;split<;>omega)
theorem vB (x:ac) (left:Int) (h0:0≤left) (h1:left≤1048576) (hw:ac.wf x):af Tryz.prog 6 false [.val (some 24) (ac.enc .imm x),.val none [I left]] .one [I (hB (ac.sz x) left)]:=by
 obtain⟨wKernel,wFree,wSpans,wLarges,wObjs,wCaches,wMail,wQuar,wSeed,wClock,wLimit,wNext,wMeshing,wJob⟩:=hw
 refine fO (n:=60) [] Tryz.func6 (by kernel_rfl) rfl (by kernel_rfl) (by rfl) (.inr ⟨trivial,trivial⟩) ?_
 repeat'((conv=>whnf);first|with_reducible (first|refine Lm ?_|refine Wm (by omega) ?_|refine dF (by omega) (fun h=>?_)|refine dT (by omega) (fun h=>?_)|refine Bf.D (fun h=>?_) (fun h=>?_)|refine Bn ?_|refine Fm rfl ?_)|refine Bt ?_|refine Bu ?_|refine Cl.sz (xG x.Kernel _ (by omega) (by omega) wKernel) (fun h=>?_) (fun h=>?_)|refine Cl.sz (yN x.Free _ (by omega) (by omega) wFree) (fun h=>?_) (fun h=>?_)|refine Cl.sz (AZ x.Spans _ (by omega) (by omega) wSpans) (fun h=>?_) (fun h=>?_)|refine Cl.sz (yr x.Larges _ (by omega) (by omega) wLarges) (fun h=>?_) (fun h=>?_)|refine Cl.sz (E3 x.Objs _ (by omega) (by omega) wObjs) (fun h=>?_) (fun h=>?_)|refine Cl.sz (xZ x.Caches _ (by omega) (by omega) wCaches) (fun h=>?_) (fun h=>?_)|refine Cl.sz (DT x.Mail _ (by omega) (by omega) wMail) (fun h=>?_) (fun h=>?_)|refine Cl.sz (Ee x.Quar _ (by omega) (by omega) wQuar) (fun h=>?_) (fun h=>?_)|refine Cl.sz (Fu x.Job _ (by omega) (by omega) wJob) (fun h=>?_) (fun h=>?_))
 all_goals exact congrArg (fun z=>[I z]) (by unfold hB ac.sz;split<;>omega)
end Go.Proofs.YtogajjgmcnjkbaaGreat.Ab
namespace Go.Proofs.YtogajjgmcnjkbaaGreat.Ab
open Go.RowKit
set_option maxRecDepth 20000
set_option maxHeartbeats 2000000
theorem qf (a b:List Int) (hs:iT a):af Tryz.prog 143 false [.val none (aI .imm a),.val none (aI .imm b)] .one [B (decide (a=b))]:=by
 refine fO (n:=26) [(6,9,[17,18,19,20,21,22,23,24,25])] Tryz.func143 (by kernel_rfl) rfl (by kernel_rfl) (by rfl) (.inr ⟨trivial,trivial⟩) ?_
 have hl:a.length≤1048576:=hs
 repeat'((conv=>whnf);first|with_reducible (first|refine Lm ?_|refine Wm (by omega) ?_|refine Bf.N (fun h=>?_) (fun h=>?_)|refine Bn ?_|refine Fm rfl ?_)|refine Bt ?_|refine Bu ?_)
 ·refine congrArg (fun z=>[B z]) (decide_eq_false fun e=>?_).symm
  subst e
  omega
 have hlab:a.length=b.length:=by omega
 (conv=>whnf)
 refine Lp.mk (ι:=Nat) (fun i=>[(0,.hold .one (aI .imm a)),(1,.hold .one (aI .imm b)),(5,.hold .one [I (i:Nat)])]) (fun i=>i≤a.length∧∀ j,j<i→a[j]? = b[j]?) (fun i=>a.length - i) 0 ?_ ⟨Nat.zero_le _,fun j hj=>by omega⟩ fun i hi=>?_
 ·repeat'(first|exact trivial|rfl|refine And.intro ?_ ?_)
 ·obtain⟨hi,hall⟩:=hi
  by_cases hlt:i<a.length
  ·obtain⟨x,hx⟩ : ∃ x,a[i]? = some x:=⟨_,List.getElem?_eq_getElem hlt⟩
   obtain⟨y,hy⟩ : ∃ y,b[i]? = some y:=⟨_,List.getElem?_eq_getElem (by omega)⟩
   repeat'((conv=>whnf);first|with_reducible (first|refine Lm ?_|refine Wm (by omega) ?_|refine Ix.nat (aa hx) ?_|refine Ix.nat (aa hy) ?_|refine dT (by omega) (fun h=>?_)|refine Bf.N (fun h=>?_) (fun h=>?_)|refine Bf.NB (fun h=>?_) (fun h=>?_)|refine Bf.D (fun h=>?_) (fun h=>?_)|refine Bn ?_|refine Fm rfl ?_)|refine Bt ?_|refine Bu ?_)
   all_goals first
    |(show [B false]=[B (decide (a=b))]
      refine congrArg (fun z=>[B z]) (decide_eq_false fun e=>?_).symm
      subst e
      simp_all)
    | ((conv=>whnf)
       refine Nx.mk (i+1) ⟨by omega,fun j hj=>?_⟩ (by omega) ?_
       · rcases Nat.lt_or_ge j i with h1|h1
         · exact hall j h1
         · obtain rfl:j=i:=by omega
           rw[hx,hy]
           simp_all
       · repeat'(first|exact trivial|rfl|refine And.intro ?_ ?_))
  ·repeat'((conv=>whnf);first|with_reducible (first|refine Lm ?_|refine Wm (by omega) ?_|refine dF (by omega) (fun h=>?_)|refine Bn ?_|refine Fm rfl ?_)|refine Bt ?_|refine Bu ?_)
   refine congrArg (fun z=>[B z]) (decide_eq_true ?_).symm
   refine List.ext_getElem? fun j=>?_
   rcases Nat.lt_or_ge j i with h1|h1
   ·exact hall j h1
   ·rw[List.getElem?_eq_none (by omega),List.getElem?_eq_none (by omega)]
theorem nZ (a b:List (List Int)) (hs:gQ a):af Tryz.prog 150 false [.val none (d5 .imm a),.val none (d5 .imm b)] .one [B (decide (a=b))]:=by
 refine fO (n:=27) [(6,10,[17,18,19,20,21,22,23,24,25,26])] Tryz.func150 (by kernel_rfl) rfl (by kernel_rfl) (by rfl) (.inr ⟨trivial,trivial⟩) ?_
 have hl:a.length≤1048576:=hs.1
 repeat'((conv=>whnf);first|with_reducible (first|refine Lm ?_|refine Wm (by omega) ?_|refine Bf.N (fun h=>?_) (fun h=>?_)|refine Bn ?_|refine Fm rfl ?_)|refine Bt ?_|refine Bu ?_)
 ·refine congrArg (fun z=>[B z]) (decide_eq_false fun e=>?_).symm
  subst e
  omega
 have hlab:a.length=b.length:=by omega
 (conv=>whnf)
 refine Lp.mk (ι:=Nat) (fun i=>[(0,.hold .one (d5 .imm a)),(1,.hold .one (d5 .imm b)),(5,.hold .one [I (i:Nat)])]) (fun i=>i≤a.length∧∀ j,j<i→a[j]? = b[j]?) (fun i=>a.length - i) 0 ?_ ⟨Nat.zero_le _,fun j hj=>by omega⟩ fun i hi=>?_
 ·repeat'(first|exact trivial|rfl|refine And.intro ?_ ?_)
 ·obtain⟨hi,hall⟩:=hi
  by_cases hlt:i<a.length
  ·obtain⟨x,hx⟩ : ∃ x,a[i]? = some x:=⟨_,List.getElem?_eq_getElem hlt⟩
   obtain⟨y,hy⟩ : ∃ y,b[i]? = some y:=⟨_,List.getElem?_eq_getElem (by omega)⟩
   repeat'((conv=>whnf);first|with_reducible (first|refine Lm ?_|refine Wm (by omega) ?_|refine Ix.nat (aa hx) ?_|refine Ix.nat (aa hy) ?_|refine dT (by omega) (fun h=>?_)|refine Bf.N (fun h=>?_) (fun h=>?_)|refine Bf.NB (fun h=>?_) (fun h=>?_)|refine Bf.D (fun h=>?_) (fun h=>?_)|refine Bn ?_|refine Fm rfl ?_)|refine Bt ?_|refine Bu ?_|refine Cl.mk (qf x y (hs.2 x (List.mem_of_getElem? hx))) ?_)
   all_goals first
    |(show [B false]=[B (decide (a=b))]
      refine congrArg (fun z=>[B z]) (decide_eq_false fun e=>?_).symm
      subst e
      simp_all)
    | ((conv=>whnf)
       refine Nx.mk (i+1) ⟨by omega,fun j hj=>?_⟩ (by omega) ?_
       · rcases Nat.lt_or_ge j i with h1|h1
         · exact hall j h1
         · obtain rfl:j=i:=by omega
           rw[hx,hy]
           simp_all
       · repeat'(first|exact trivial|rfl|refine And.intro ?_ ?_))
  ·repeat'((conv=>whnf);first|with_reducible (first|refine Lm ?_|refine Wm (by omega) ?_|refine dF (by omega) (fun h=>?_)|refine Bn ?_|refine Fm rfl ?_)|refine Bt ?_|refine Bu ?_)
   refine congrArg (fun z=>[B z]) (decide_eq_true ?_).symm
   refine List.ext_getElem? fun j=>?_
   rcases Nat.lt_or_ge j i with h1|h1
   ·exact hall j h1
   ·rw[List.getElem?_eq_none (by omega),List.getElem?_eq_none (by omega)]
theorem A3 (a b:List Bool) (hs:kO a):af Tryz.prog 323 false [.val none (fR .imm a),.val none (fR .imm b)] .one [B (decide (a=b))]:=by
 refine fO (n:=26) [(6,9,[17,18,19,20,21,22,23,24,25])] Tryz.func323 (by kernel_rfl) rfl (by kernel_rfl) (by rfl) (.inr ⟨trivial,trivial⟩) ?_
 have hl:a.length≤1048576:=hs
 repeat'((conv=>whnf);first|with_reducible (first|refine Lm ?_|refine Wm (by omega) ?_|refine Bf.N (fun h=>?_) (fun h=>?_)|refine Bn ?_|refine Fm rfl ?_)|refine Bt ?_|refine Bu ?_)
 ·refine congrArg (fun z=>[B z]) (decide_eq_false fun e=>?_).symm
  subst e
  omega
 have hlab:a.length=b.length:=by omega
 (conv=>whnf)
 refine Lp.mk (ι:=Nat) (fun i=>[(0,.hold .one (fR .imm a)),(1,.hold .one (fR .imm b)),(5,.hold .one [I (i:Nat)])]) (fun i=>i≤a.length∧∀ j,j<i→a[j]? = b[j]?) (fun i=>a.length - i) 0 ?_ ⟨Nat.zero_le _,fun j hj=>by omega⟩ fun i hi=>?_
 ·repeat'(first|exact trivial|rfl|refine And.intro ?_ ?_)
 ·obtain⟨hi,hall⟩:=hi
  by_cases hlt:i<a.length
  ·obtain⟨x,hx⟩ : ∃ x,a[i]? = some x:=⟨_,List.getElem?_eq_getElem hlt⟩
   obtain⟨y,hy⟩ : ∃ y,b[i]? = some y:=⟨_,List.getElem?_eq_getElem (by omega)⟩
   repeat'((conv=>whnf);first|with_reducible (first|refine Lm ?_|refine Wm (by omega) ?_|refine Ix.nat (aa hx) ?_|refine Ix.nat (aa hy) ?_|refine dT (by omega) (fun h=>?_)|refine Bf.N (fun h=>?_) (fun h=>?_)|refine Bf.NB (fun h=>?_) (fun h=>?_)|refine Bf.D (fun h=>?_) (fun h=>?_)|refine Bn ?_|refine Fm rfl ?_)|refine Bt ?_|refine Bu ?_)
   all_goals first
    |(show [B false]=[B (decide (a=b))]
      refine congrArg (fun z=>[B z]) (decide_eq_false fun e=>?_).symm
      subst e
      simp_all)
    | ((conv=>whnf)
       refine Nx.mk (i+1) ⟨by omega,fun j hj=>?_⟩ (by omega) ?_
       · rcases Nat.lt_or_ge j i with h1|h1
         · exact hall j h1
         · obtain rfl:j=i:=by omega
           rw[hx,hy]
           simp_all
       · repeat'(first|exact trivial|rfl|refine And.intro ?_ ?_))
  ·repeat'((conv=>whnf);first|with_reducible (first|refine Lm ?_|refine Wm (by omega) ?_|refine dF (by omega) (fun h=>?_)|refine Bn ?_|refine Fm rfl ?_)|refine Bt ?_|refine Bu ?_)
   refine congrArg (fun z=>[B z]) (decide_eq_true ?_).symm
   refine List.ext_getElem? fun j=>?_
   rcases Nat.lt_or_ge j i with h1|h1
   ·exact hall j h1
   ·rw[List.getElem?_eq_none (by omega),List.getElem?_eq_none (by omega)]
theorem yj (a b:aC) (hs:aC.sml a):af Tryz.prog 251 false [.val (some 2) (aC.enc .imm a),.val (some 2) (aC.enc .imm b)] .one [B (decide (a=b))]:=by
 obtain⟨h0,h1⟩:=hs
 refine fO (n:=17) [] Tryz.func251 (by kernel_rfl) rfl (by kernel_rfl) (by rfl) (.inr ⟨trivial,trivial⟩) ?_
 repeat'((conv=>whnf);first|with_reducible (first|refine Lm ?_|refine Wm (by omega) ?_|refine Bf.N (fun h=>?_) (fun h=>?_)|refine Bf.NB (fun h=>?_) (fun h=>?_)|refine Bf.D (fun h=>?_) (fun h=>?_)|refine Bn ?_|refine Fm rfl ?_)|refine Bt ?_|refine Bu ?_|refine Cl.mk (nZ a.Cells b.Cells h0) ?_|refine Cl.mk (A3 a.Used b.Used h1) ?_)
 all_goals first|(show [B false]=[B (decide (a=b))];refine congrArg (fun z=>[B z]) (decide_eq_false fun e=>?_).symm;subst e;contradiction)|(show [B true]=[B (decide (a=b))];refine congrArg (fun z=>[B z]) (decide_eq_true ?_).symm;cases a;cases b;simp_all)
theorem Af (a b:aE) (hs:aE.sml a):af Tryz.prog 355 false [.val (some 2) (aE.enc .imm a),.val (some 2) (aE.enc .imm b)] .one [B (decide (a=b))]:=by
 refine fO (n:=15) [] Tryz.func355 (by kernel_rfl) rfl (by kernel_rfl) (by rfl) (.inr ⟨trivial,trivial⟩) ?_
 repeat'((conv=>whnf);first|with_reducible (first|refine Lm ?_|refine Wm (by omega) ?_|refine Bf.N (fun h=>?_) (fun h=>?_)|refine Bf.NB (fun h=>?_) (fun h=>?_)|refine Bf.D (fun h=>?_) (fun h=>?_)|refine Bn ?_|refine Fm rfl ?_)|refine Bt ?_|refine Bu ?_)
 all_goals first|(show [B false]=[B (decide (a=b))];refine congrArg (fun z=>[B z]) (decide_eq_false fun e=>?_).symm;subst e;contradiction)|(show [B true]=[B (decide (a=b))];refine congrArg (fun z=>[B z]) (decide_eq_true ?_).symm;cases a;cases b;simp_all)
theorem zF (a b:List aE) (hs:gD a):af Tryz.prog 324 false [.val none (d6 .imm a),.val none (d6 .imm b)] .one [B (decide (a=b))]:=by
 refine fO (n:=27) [(6,10,[17,18,19,20,21,22,23,24,25,26])] Tryz.func324 (by kernel_rfl) rfl (by kernel_rfl) (by rfl) (.inr ⟨trivial,trivial⟩) ?_
 have hl:a.length≤1048576:=hs.1
 repeat'((conv=>whnf);first|with_reducible (first|refine Lm ?_|refine Wm (by omega) ?_|refine Bf.N (fun h=>?_) (fun h=>?_)|refine Bn ?_|refine Fm rfl ?_)|refine Bt ?_|refine Bu ?_)
 ·refine congrArg (fun z=>[B z]) (decide_eq_false fun e=>?_).symm
  subst e
  omega
 have hlab:a.length=b.length:=by omega
 (conv=>whnf)
 refine Lp.mk (ι:=Nat) (fun i=>[(0,.hold .one (d6 .imm a)),(1,.hold .one (d6 .imm b)),(5,.hold .one [I (i:Nat)])]) (fun i=>i≤a.length∧∀ j,j<i→a[j]? = b[j]?) (fun i=>a.length - i) 0 ?_ ⟨Nat.zero_le _,fun j hj=>by omega⟩ fun i hi=>?_
 ·repeat'(first|exact trivial|rfl|refine And.intro ?_ ?_)
 ·obtain⟨hi,hall⟩:=hi
  by_cases hlt:i<a.length
  ·obtain⟨x,hx⟩ : ∃ x,a[i]? = some x:=⟨_,List.getElem?_eq_getElem hlt⟩
   obtain⟨y,hy⟩ : ∃ y,b[i]? = some y:=⟨_,List.getElem?_eq_getElem (by omega)⟩
   repeat'((conv=>whnf);first|with_reducible (first|refine Lm ?_|refine Wm (by omega) ?_|refine Ix.nat (aa hx) ?_|refine Ix.nat (aa hy) ?_|refine dT (by omega) (fun h=>?_)|refine Bf.N (fun h=>?_) (fun h=>?_)|refine Bf.NB (fun h=>?_) (fun h=>?_)|refine Bf.D (fun h=>?_) (fun h=>?_)|refine Bn ?_|refine Fm rfl ?_)|refine Bt ?_|refine Bu ?_|refine Cl.mk (Af x y trivial) ?_)
   all_goals first
    |(show [B false]=[B (decide (a=b))]
      refine congrArg (fun z=>[B z]) (decide_eq_false fun e=>?_).symm
      subst e
      simp_all)
    | ((conv=>whnf)
       refine Nx.mk (i+1) ⟨by omega,fun j hj=>?_⟩ (by omega) ?_
       · rcases Nat.lt_or_ge j i with h1|h1
         · exact hall j h1
         · obtain rfl:j=i:=by omega
           rw[hx,hy]
           simp_all
       · repeat'(first|exact trivial|rfl|refine And.intro ?_ ?_))
  ·repeat'((conv=>whnf);first|with_reducible (first|refine Lm ?_|refine Wm (by omega) ?_|refine dF (by omega) (fun h=>?_)|refine Bn ?_|refine Fm rfl ?_)|refine Bt ?_|refine Bu ?_)
   refine congrArg (fun z=>[B z]) (decide_eq_true ?_).symm
   refine List.ext_getElem? fun j=>?_
   rcases Nat.lt_or_ge j i with h1|h1
   ·exact hall j h1
   ·rw[List.getElem?_eq_none (by omega),List.getElem?_eq_none (by omega)]
theorem Ai (a b:aB) (hs:aB.sml a):af Tryz.prog 252 false [.val (some 1) (aB.enc .imm a),.val (some 1) (aB.enc .imm b)] .one [B (decide (a=b))]:=by
 have h0:=hs
 refine fO (n:=11) [] Tryz.func252 (by kernel_rfl) rfl (by kernel_rfl) (by rfl) (.inr ⟨trivial,trivial⟩) ?_
 repeat'((conv=>whnf);first|with_reducible (first|refine Lm ?_|refine Wm (by omega) ?_|refine Bf.N (fun h=>?_) (fun h=>?_)|refine Bf.NB (fun h=>?_) (fun h=>?_)|refine Bf.D (fun h=>?_) (fun h=>?_)|refine Bn ?_|refine Fm rfl ?_)|refine Bt ?_|refine Bu ?_|refine Cl.mk (zF a.Entries b.Entries h0) ?_)
 all_goals first|(show [B false]=[B (decide (a=b))];refine congrArg (fun z=>[B z]) (decide_eq_false fun e=>?_).symm;subst e;contradiction)|(show [B true]=[B (decide (a=b))];refine congrArg (fun z=>[B z]) (decide_eq_true ?_).symm;cases a;cases b;simp_all)
theorem xy (a b:aA) (hs:aA.sml a):af Tryz.prog 142 false [.val (some 3) (aA.enc .imm a),.val (some 3) (aA.enc .imm b)] .one [B (decide (a=b))]:=by
 obtain⟨h0,h1⟩:=hs
 refine fO (n:=17) [] Tryz.func142 (by kernel_rfl) rfl (by kernel_rfl) (by rfl) (.inr ⟨trivial,trivial⟩) ?_
 repeat'((conv=>whnf);first|with_reducible (first|refine Lm ?_|refine Wm (by omega) ?_|refine Bf.N (fun h=>?_) (fun h=>?_)|refine Bf.NB (fun h=>?_) (fun h=>?_)|refine Bf.D (fun h=>?_) (fun h=>?_)|refine Bn ?_|refine Fm rfl ?_)|refine Bt ?_|refine Bu ?_|refine Cl.mk (yj a.Frames b.Frames h0) ?_|refine Cl.mk (Ai a.Table b.Table h1) ?_)
 all_goals first|(show [B false]=[B (decide (a=b))];refine congrArg (fun z=>[B z]) (decide_eq_false fun e=>?_).symm;subst e;contradiction)|(show [B true]=[B (decide (a=b))];refine congrArg (fun z=>[B z]) (decide_eq_true ?_).symm;cases a;cases b;simp_all)
theorem y4 (a b:ao) (hs:ao.sml a):af Tryz.prog 47 false [.val (some 5) (ao.enc .imm a),.val (some 5) (ao.enc .imm b)] .one [B (decide (a=b))]:=by
 obtain⟨h0,h1⟩:=hs
 refine fO (n:=22) [] Tryz.func47 (by kernel_rfl) rfl (by kernel_rfl) (by rfl) (.inr ⟨trivial,trivial⟩) ?_
 repeat'((conv=>whnf);first|with_reducible (first|refine Lm ?_|refine Wm (by omega) ?_|refine Bf.N (fun h=>?_) (fun h=>?_)|refine Bf.NB (fun h=>?_) (fun h=>?_)|refine Bf.D (fun h=>?_) (fun h=>?_)|refine Bn ?_|refine Fm rfl ?_)|refine Bt ?_|refine Bu ?_|refine Cl.mk (xy a.Machine b.Machine h0) ?_|refine Cl.mk (qf a.Refuse b.Refuse h1) ?_)
 all_goals first|(show [B false]=[B (decide (a=b))];refine congrArg (fun z=>[B z]) (decide_eq_false fun e=>?_).symm;subst e;contradiction)|(show [B true]=[B (decide (a=b))];refine congrArg (fun z=>[B z]) (decide_eq_true ?_).symm;cases a;cases b;simp_all)
theorem B3 (a b:al) (hs:al.sml a):af Tryz.prog 144 false [.val (some 2) (al.enc .imm a),.val (some 2) (al.enc .imm b)] .one [B (decide (a=b))]:=by
 refine fO (n:=15) [] Tryz.func144 (by kernel_rfl) rfl (by kernel_rfl) (by rfl) (.inr ⟨trivial,trivial⟩) ?_
 repeat'((conv=>whnf);first|with_reducible (first|refine Lm ?_|refine Wm (by omega) ?_|refine Bf.N (fun h=>?_) (fun h=>?_)|refine Bf.NB (fun h=>?_) (fun h=>?_)|refine Bf.D (fun h=>?_) (fun h=>?_)|refine Bn ?_|refine Fm rfl ?_)|refine Bt ?_|refine Bu ?_)
 all_goals first|(show [B false]=[B (decide (a=b))];refine congrArg (fun z=>[B z]) (decide_eq_false fun e=>?_).symm;subst e;contradiction)|(show [B true]=[B (decide (a=b))];refine congrArg (fun z=>[B z]) (decide_eq_true ?_).symm;cases a;cases b;simp_all)
theorem yY (a b:List al) (hs:dr a):af Tryz.prog 48 false [.val none (aT .imm a),.val none (aT .imm b)] .one [B (decide (a=b))]:=by
 refine fO (n:=27) [(6,10,[17,18,19,20,21,22,23,24,25,26])] Tryz.func48 (by kernel_rfl) rfl (by kernel_rfl) (by rfl) (.inr ⟨trivial,trivial⟩) ?_
 have hl:a.length≤1048576:=hs.1
 repeat'((conv=>whnf);first|with_reducible (first|refine Lm ?_|refine Wm (by omega) ?_|refine Bf.N (fun h=>?_) (fun h=>?_)|refine Bn ?_|refine Fm rfl ?_)|refine Bt ?_|refine Bu ?_)
 ·refine congrArg (fun z=>[B z]) (decide_eq_false fun e=>?_).symm
  subst e
  omega
 have hlab:a.length=b.length:=by omega
 (conv=>whnf)
 refine Lp.mk (ι:=Nat) (fun i=>[(0,.hold .one (aT .imm a)),(1,.hold .one (aT .imm b)),(5,.hold .one [I (i:Nat)])]) (fun i=>i≤a.length∧∀ j,j<i→a[j]? = b[j]?) (fun i=>a.length - i) 0 ?_ ⟨Nat.zero_le _,fun j hj=>by omega⟩ fun i hi=>?_
 ·repeat'(first|exact trivial|rfl|refine And.intro ?_ ?_)
 ·obtain⟨hi,hall⟩:=hi
  by_cases hlt:i<a.length
  ·obtain⟨x,hx⟩ : ∃ x,a[i]? = some x:=⟨_,List.getElem?_eq_getElem hlt⟩
   obtain⟨y,hy⟩ : ∃ y,b[i]? = some y:=⟨_,List.getElem?_eq_getElem (by omega)⟩
   repeat'((conv=>whnf);first|with_reducible (first|refine Lm ?_|refine Wm (by omega) ?_|refine Ix.nat (aa hx) ?_|refine Ix.nat (aa hy) ?_|refine dT (by omega) (fun h=>?_)|refine Bf.N (fun h=>?_) (fun h=>?_)|refine Bf.NB (fun h=>?_) (fun h=>?_)|refine Bf.D (fun h=>?_) (fun h=>?_)|refine Bn ?_|refine Fm rfl ?_)|refine Bt ?_|refine Bu ?_|refine Cl.mk (B3 x y trivial) ?_)
   all_goals first
    |(show [B false]=[B (decide (a=b))]
      refine congrArg (fun z=>[B z]) (decide_eq_false fun e=>?_).symm
      subst e
      simp_all)
    | ((conv=>whnf)
       refine Nx.mk (i+1) ⟨by omega,fun j hj=>?_⟩ (by omega) ?_
       · rcases Nat.lt_or_ge j i with h1|h1
         · exact hall j h1
         · obtain rfl:j=i:=by omega
           rw[hx,hy]
           simp_all
       · repeat'(first|exact trivial|rfl|refine And.intro ?_ ?_))
  ·repeat'((conv=>whnf);first|with_reducible (first|refine Lm ?_|refine Wm (by omega) ?_|refine dF (by omega) (fun h=>?_)|refine Bn ?_|refine Fm rfl ?_)|refine Bt ?_|refine Bu ?_)
   refine congrArg (fun z=>[B z]) (decide_eq_true ?_).symm
   refine List.ext_getElem? fun j=>?_
   rcases Nat.lt_or_ge j i with h1|h1
   ·exact hall j h1
   ·rw[List.getElem?_eq_none (by omega),List.getElem?_eq_none (by omega)]
theorem D5 (a b:am) (hs:am.sml a):af Tryz.prog 145 false [.val (some 3) (am.enc .imm a),.val (some 3) (am.enc .imm b)] .one [B (decide (a=b))]:=by
 refine fO (n:=20) [] Tryz.func145 (by kernel_rfl) rfl (by kernel_rfl) (by rfl) (.inr ⟨trivial,trivial⟩) ?_
 repeat'((conv=>whnf);first|with_reducible (first|refine Lm ?_|refine Wm (by omega) ?_|refine Bf.N (fun h=>?_) (fun h=>?_)|refine Bf.NB (fun h=>?_) (fun h=>?_)|refine Bf.D (fun h=>?_) (fun h=>?_)|refine Bn ?_|refine Fm rfl ?_)|refine Bt ?_|refine Bu ?_)
 all_goals first|(show [B false]=[B (decide (a=b))];refine congrArg (fun z=>[B z]) (decide_eq_false fun e=>?_).symm;subst e;contradiction)|(show [B true]=[B (decide (a=b))];refine congrArg (fun z=>[B z]) (decide_eq_true ?_).symm;cases a;cases b;simp_all)
theorem Be (a b:List am) (hs:cf a):af Tryz.prog 49 false [.val none (bt .imm a),.val none (bt .imm b)] .one [B (decide (a=b))]:=by
 refine fO (n:=27) [(6,10,[17,18,19,20,21,22,23,24,25,26])] Tryz.func49 (by kernel_rfl) rfl (by kernel_rfl) (by rfl) (.inr ⟨trivial,trivial⟩) ?_
 have hl:a.length≤1048576:=hs.1
 repeat'((conv=>whnf);first|with_reducible (first|refine Lm ?_|refine Wm (by omega) ?_|refine Bf.N (fun h=>?_) (fun h=>?_)|refine Bn ?_|refine Fm rfl ?_)|refine Bt ?_|refine Bu ?_)
 ·refine congrArg (fun z=>[B z]) (decide_eq_false fun e=>?_).symm
  subst e
  omega
 have hlab:a.length=b.length:=by omega
 (conv=>whnf)
 refine Lp.mk (ι:=Nat) (fun i=>[(0,.hold .one (bt .imm a)),(1,.hold .one (bt .imm b)),(5,.hold .one [I (i:Nat)])]) (fun i=>i≤a.length∧∀ j,j<i→a[j]? = b[j]?) (fun i=>a.length - i) 0 ?_ ⟨Nat.zero_le _,fun j hj=>by omega⟩ fun i hi=>?_
 ·repeat'(first|exact trivial|rfl|refine And.intro ?_ ?_)
 ·obtain⟨hi,hall⟩:=hi
  by_cases hlt:i<a.length
  ·obtain⟨x,hx⟩ : ∃ x,a[i]? = some x:=⟨_,List.getElem?_eq_getElem hlt⟩
   obtain⟨y,hy⟩ : ∃ y,b[i]? = some y:=⟨_,List.getElem?_eq_getElem (by omega)⟩
   repeat'((conv=>whnf);first|with_reducible (first|refine Lm ?_|refine Wm (by omega) ?_|refine Ix.nat (aa hx) ?_|refine Ix.nat (aa hy) ?_|refine dT (by omega) (fun h=>?_)|refine Bf.N (fun h=>?_) (fun h=>?_)|refine Bf.NB (fun h=>?_) (fun h=>?_)|refine Bf.D (fun h=>?_) (fun h=>?_)|refine Bn ?_|refine Fm rfl ?_)|refine Bt ?_|refine Bu ?_|refine Cl.mk (D5 x y trivial) ?_)
   all_goals first
    |(show [B false]=[B (decide (a=b))]
      refine congrArg (fun z=>[B z]) (decide_eq_false fun e=>?_).symm
      subst e
      simp_all)
    | ((conv=>whnf)
       refine Nx.mk (i+1) ⟨by omega,fun j hj=>?_⟩ (by omega) ?_
       · rcases Nat.lt_or_ge j i with h1|h1
         · exact hall j h1
         · obtain rfl:j=i:=by omega
           rw[hx,hy]
           simp_all
       · repeat'(first|exact trivial|rfl|refine And.intro ?_ ?_))
  ·repeat'((conv=>whnf);first|with_reducible (first|refine Lm ?_|refine Wm (by omega) ?_|refine dF (by omega) (fun h=>?_)|refine Bn ?_|refine Fm rfl ?_)|refine Bt ?_|refine Bu ?_)
   refine congrArg (fun z=>[B z]) (decide_eq_true ?_).symm
   refine List.ext_getElem? fun j=>?_
   rcases Nat.lt_or_ge j i with h1|h1
   ·exact hall j h1
   ·rw[List.getElem?_eq_none (by omega),List.getElem?_eq_none (by omega)]
theorem Bz (a b:ah) (hs:ah.sml a):af Tryz.prog 146 false [.val (some 3) (ah.enc .imm a),.val (some 3) (ah.enc .imm b)] .one [B (decide (a=b))]:=by
 refine fO (n:=20) [] Tryz.func146 (by kernel_rfl) rfl (by kernel_rfl) (by rfl) (.inr ⟨trivial,trivial⟩) ?_
 repeat'((conv=>whnf);first|with_reducible (first|refine Lm ?_|refine Wm (by omega) ?_|refine Bf.N (fun h=>?_) (fun h=>?_)|refine Bf.NB (fun h=>?_) (fun h=>?_)|refine Bf.D (fun h=>?_) (fun h=>?_)|refine Bn ?_|refine Fm rfl ?_)|refine Bt ?_|refine Bu ?_)
 all_goals first|(show [B false]=[B (decide (a=b))];refine congrArg (fun z=>[B z]) (decide_eq_false fun e=>?_).symm;subst e;contradiction)|(show [B true]=[B (decide (a=b))];refine congrArg (fun z=>[B z]) (decide_eq_true ?_).symm;cases a;cases b;simp_all)
theorem yM (a b:List ah) (hs:bO a):af Tryz.prog 50 false [.val none (aW .imm a),.val none (aW .imm b)] .one [B (decide (a=b))]:=by
 refine fO (n:=27) [(6,10,[17,18,19,20,21,22,23,24,25,26])] Tryz.func50 (by kernel_rfl) rfl (by kernel_rfl) (by rfl) (.inr ⟨trivial,trivial⟩) ?_
 have hl:a.length≤1048576:=hs.1
 repeat'((conv=>whnf);first|with_reducible (first|refine Lm ?_|refine Wm (by omega) ?_|refine Bf.N (fun h=>?_) (fun h=>?_)|refine Bn ?_|refine Fm rfl ?_)|refine Bt ?_|refine Bu ?_)
 ·refine congrArg (fun z=>[B z]) (decide_eq_false fun e=>?_).symm
  subst e
  omega
 have hlab:a.length=b.length:=by omega
 (conv=>whnf)
 refine Lp.mk (ι:=Nat) (fun i=>[(0,.hold .one (aW .imm a)),(1,.hold .one (aW .imm b)),(5,.hold .one [I (i:Nat)])]) (fun i=>i≤a.length∧∀ j,j<i→a[j]? = b[j]?) (fun i=>a.length - i) 0 ?_ ⟨Nat.zero_le _,fun j hj=>by omega⟩ fun i hi=>?_
 ·repeat'(first|exact trivial|rfl|refine And.intro ?_ ?_)
 ·obtain⟨hi,hall⟩:=hi
  by_cases hlt:i<a.length
  ·obtain⟨x,hx⟩ : ∃ x,a[i]? = some x:=⟨_,List.getElem?_eq_getElem hlt⟩
   obtain⟨y,hy⟩ : ∃ y,b[i]? = some y:=⟨_,List.getElem?_eq_getElem (by omega)⟩
   repeat'((conv=>whnf);first|with_reducible (first|refine Lm ?_|refine Wm (by omega) ?_|refine Ix.nat (aa hx) ?_|refine Ix.nat (aa hy) ?_|refine dT (by omega) (fun h=>?_)|refine Bf.N (fun h=>?_) (fun h=>?_)|refine Bf.NB (fun h=>?_) (fun h=>?_)|refine Bf.D (fun h=>?_) (fun h=>?_)|refine Bn ?_|refine Fm rfl ?_)|refine Bt ?_|refine Bu ?_|refine Cl.mk (Bz x y trivial) ?_)
   all_goals first
    |(show [B false]=[B (decide (a=b))]
      refine congrArg (fun z=>[B z]) (decide_eq_false fun e=>?_).symm
      subst e
      simp_all)
    | ((conv=>whnf)
       refine Nx.mk (i+1) ⟨by omega,fun j hj=>?_⟩ (by omega) ?_
       · rcases Nat.lt_or_ge j i with h1|h1
         · exact hall j h1
         · obtain rfl:j=i:=by omega
           rw[hx,hy]
           simp_all
       · repeat'(first|exact trivial|rfl|refine And.intro ?_ ?_))
  ·repeat'((conv=>whnf);first|with_reducible (first|refine Lm ?_|refine Wm (by omega) ?_|refine dF (by omega) (fun h=>?_)|refine Bn ?_|refine Fm rfl ?_)|refine Bt ?_|refine Bu ?_)
   refine congrArg (fun z=>[B z]) (decide_eq_true ?_).symm
   refine List.ext_getElem? fun j=>?_
   rcases Nat.lt_or_ge j i with h1|h1
   ·exact hall j h1
   ·rw[List.getElem?_eq_none (by omega),List.getElem?_eq_none (by omega)]
theorem FY (a b:aM) (hs:aM.sml a):af Tryz.prog 147 false [.val (some 4) (aM.enc .imm a),.val (some 4) (aM.enc .imm b)] .one [B (decide (a=b))]:=by
 refine fO (n:=25) [] Tryz.func147 (by kernel_rfl) rfl (by kernel_rfl) (by rfl) (.inr ⟨trivial,trivial⟩) ?_
 repeat'((conv=>whnf);first|with_reducible (first|refine Lm ?_|refine Wm (by omega) ?_|refine Bf.N (fun h=>?_) (fun h=>?_)|refine Bf.NB (fun h=>?_) (fun h=>?_)|refine Bf.D (fun h=>?_) (fun h=>?_)|refine Bn ?_|refine Fm rfl ?_)|refine Bt ?_|refine Bu ?_)
 all_goals first|(show [B false]=[B (decide (a=b))];refine congrArg (fun z=>[B z]) (decide_eq_false fun e=>?_).symm;subst e;contradiction)|(show [B true]=[B (decide (a=b))];refine congrArg (fun z=>[B z]) (decide_eq_true ?_).symm;cases a;cases b;simp_all)
theorem Ei (a b:List aM) (hs:kM a):af Tryz.prog 51 false [.val none (dA .imm a),.val none (dA .imm b)] .one [B (decide (a=b))]:=by
 refine fO (n:=27) [(6,10,[17,18,19,20,21,22,23,24,25,26])] Tryz.func51 (by kernel_rfl) rfl (by kernel_rfl) (by rfl) (.inr ⟨trivial,trivial⟩) ?_
 have hl:a.length≤1048576:=hs.1
 repeat'((conv=>whnf);first|with_reducible (first|refine Lm ?_|refine Wm (by omega) ?_|refine Bf.N (fun h=>?_) (fun h=>?_)|refine Bn ?_|refine Fm rfl ?_)|refine Bt ?_|refine Bu ?_)
 ·refine congrArg (fun z=>[B z]) (decide_eq_false fun e=>?_).symm
  subst e
  omega
 have hlab:a.length=b.length:=by omega
 (conv=>whnf)
 refine Lp.mk (ι:=Nat) (fun i=>[(0,.hold .one (dA .imm a)),(1,.hold .one (dA .imm b)),(5,.hold .one [I (i:Nat)])]) (fun i=>i≤a.length∧∀ j,j<i→a[j]? = b[j]?) (fun i=>a.length - i) 0 ?_ ⟨Nat.zero_le _,fun j hj=>by omega⟩ fun i hi=>?_
 ·repeat'(first|exact trivial|rfl|refine And.intro ?_ ?_)
 ·obtain⟨hi,hall⟩:=hi
  by_cases hlt:i<a.length
  ·obtain⟨x,hx⟩ : ∃ x,a[i]? = some x:=⟨_,List.getElem?_eq_getElem hlt⟩
   obtain⟨y,hy⟩ : ∃ y,b[i]? = some y:=⟨_,List.getElem?_eq_getElem (by omega)⟩
   repeat'((conv=>whnf);first|with_reducible (first|refine Lm ?_|refine Wm (by omega) ?_|refine Ix.nat (aa hx) ?_|refine Ix.nat (aa hy) ?_|refine dT (by omega) (fun h=>?_)|refine Bf.N (fun h=>?_) (fun h=>?_)|refine Bf.NB (fun h=>?_) (fun h=>?_)|refine Bf.D (fun h=>?_) (fun h=>?_)|refine Bn ?_|refine Fm rfl ?_)|refine Bt ?_|refine Bu ?_|refine Cl.mk (FY x y trivial) ?_)
   all_goals first
    |(show [B false]=[B (decide (a=b))]
      refine congrArg (fun z=>[B z]) (decide_eq_false fun e=>?_).symm
      subst e
      simp_all)
    | ((conv=>whnf)
       refine Nx.mk (i+1) ⟨by omega,fun j hj=>?_⟩ (by omega) ?_
       · rcases Nat.lt_or_ge j i with h1|h1
         · exact hall j h1
         · obtain rfl:j=i:=by omega
           rw[hx,hy]
           simp_all
       · repeat'(first|exact trivial|rfl|refine And.intro ?_ ?_))
  ·repeat'((conv=>whnf);first|with_reducible (first|refine Lm ?_|refine Wm (by omega) ?_|refine dF (by omega) (fun h=>?_)|refine Bn ?_|refine Fm rfl ?_)|refine Bt ?_|refine Bu ?_)
   refine congrArg (fun z=>[B z]) (decide_eq_true ?_).symm
   refine List.ext_getElem? fun j=>?_
   rcases Nat.lt_or_ge j i with h1|h1
   ·exact hall j h1
   ·rw[List.getElem?_eq_none (by omega),List.getElem?_eq_none (by omega)]
theorem AL (a b:ar) (hs:ar.sml a):af Tryz.prog 148 false [.val (some 1) (ar.enc .imm a),.val (some 1) (ar.enc .imm b)] .one [B (decide (a=b))]:=by
 have h0:=hs
 refine fO (n:=11) [] Tryz.func148 (by kernel_rfl) rfl (by kernel_rfl) (by rfl) (.inr ⟨trivial,trivial⟩) ?_
 repeat'((conv=>whnf);first|with_reducible (first|refine Lm ?_|refine Wm (by omega) ?_|refine Bf.N (fun h=>?_) (fun h=>?_)|refine Bf.NB (fun h=>?_) (fun h=>?_)|refine Bf.D (fun h=>?_) (fun h=>?_)|refine Bn ?_|refine Fm rfl ?_)|refine Bt ?_|refine Bu ?_|refine Cl.mk (nZ a.Lists b.Lists h0) ?_)
 all_goals first|(show [B false]=[B (decide (a=b))];refine congrArg (fun z=>[B z]) (decide_eq_false fun e=>?_).symm;subst e;contradiction)|(show [B true]=[B (decide (a=b))];refine congrArg (fun z=>[B z]) (decide_eq_true ?_).symm;cases a;cases b;simp_all)
theorem yU (a b:List ar) (hs:gF a):af Tryz.prog 52 false [.val none (cP .imm a),.val none (cP .imm b)] .one [B (decide (a=b))]:=by
 refine fO (n:=27) [(6,10,[17,18,19,20,21,22,23,24,25,26])] Tryz.func52 (by kernel_rfl) rfl (by kernel_rfl) (by rfl) (.inr ⟨trivial,trivial⟩) ?_
 have hl:a.length≤1048576:=hs.1
 repeat'((conv=>whnf);first|with_reducible (first|refine Lm ?_|refine Wm (by omega) ?_|refine Bf.N (fun h=>?_) (fun h=>?_)|refine Bn ?_|refine Fm rfl ?_)|refine Bt ?_|refine Bu ?_)
 ·refine congrArg (fun z=>[B z]) (decide_eq_false fun e=>?_).symm
  subst e
  omega
 have hlab:a.length=b.length:=by omega
 (conv=>whnf)
 refine Lp.mk (ι:=Nat) (fun i=>[(0,.hold .one (cP .imm a)),(1,.hold .one (cP .imm b)),(5,.hold .one [I (i:Nat)])]) (fun i=>i≤a.length∧∀ j,j<i→a[j]? = b[j]?) (fun i=>a.length - i) 0 ?_ ⟨Nat.zero_le _,fun j hj=>by omega⟩ fun i hi=>?_
 ·repeat'(first|exact trivial|rfl|refine And.intro ?_ ?_)
 ·obtain⟨hi,hall⟩:=hi
  by_cases hlt:i<a.length
  ·obtain⟨x,hx⟩ : ∃ x,a[i]? = some x:=⟨_,List.getElem?_eq_getElem hlt⟩
   obtain⟨y,hy⟩ : ∃ y,b[i]? = some y:=⟨_,List.getElem?_eq_getElem (by omega)⟩
   repeat'((conv=>whnf);first|with_reducible (first|refine Lm ?_|refine Wm (by omega) ?_|refine Ix.nat (aa hx) ?_|refine Ix.nat (aa hy) ?_|refine dT (by omega) (fun h=>?_)|refine Bf.N (fun h=>?_) (fun h=>?_)|refine Bf.NB (fun h=>?_) (fun h=>?_)|refine Bf.D (fun h=>?_) (fun h=>?_)|refine Bn ?_|refine Fm rfl ?_)|refine Bt ?_|refine Bu ?_|refine Cl.mk (AL x y (hs.2 x (List.mem_of_getElem? hx))) ?_)
   all_goals first
    |(show [B false]=[B (decide (a=b))]
      refine congrArg (fun z=>[B z]) (decide_eq_false fun e=>?_).symm
      subst e
      simp_all)
    | ((conv=>whnf)
       refine Nx.mk (i+1) ⟨by omega,fun j hj=>?_⟩ (by omega) ?_
       · rcases Nat.lt_or_ge j i with h1|h1
         · exact hall j h1
         · obtain rfl:j=i:=by omega
           rw[hx,hy]
           simp_all
       · repeat'(first|exact trivial|rfl|refine And.intro ?_ ?_))
  ·repeat'((conv=>whnf);first|with_reducible (first|refine Lm ?_|refine Wm (by omega) ?_|refine dF (by omega) (fun h=>?_)|refine Bn ?_|refine Fm rfl ?_)|refine Bt ?_|refine Bu ?_)
   refine congrArg (fun z=>[B z]) (decide_eq_true ?_).symm
   refine List.ext_getElem? fun j=>?_
   rcases Nat.lt_or_ge j i with h1|h1
   ·exact hall j h1
   ·rw[List.getElem?_eq_none (by omega),List.getElem?_eq_none (by omega)]
theorem D4 (a b:aJ) (hs:aJ.sml a):af Tryz.prog 325 false [.val (some 2) (aJ.enc .imm a),.val (some 2) (aJ.enc .imm b)] .one [B (decide (a=b))]:=by
 refine fO (n:=15) [] Tryz.func325 (by kernel_rfl) rfl (by kernel_rfl) (by rfl) (.inr ⟨trivial,trivial⟩) ?_
 repeat'((conv=>whnf);first|with_reducible (first|refine Lm ?_|refine Wm (by omega) ?_|refine Bf.N (fun h=>?_) (fun h=>?_)|refine Bf.NB (fun h=>?_) (fun h=>?_)|refine Bf.D (fun h=>?_) (fun h=>?_)|refine Bn ?_|refine Fm rfl ?_)|refine Bt ?_|refine Bu ?_)
 all_goals first|(show [B false]=[B (decide (a=b))];refine congrArg (fun z=>[B z]) (decide_eq_false fun e=>?_).symm;subst e;contradiction)|(show [B true]=[B (decide (a=b))];refine congrArg (fun z=>[B z]) (decide_eq_true ?_).symm;cases a;cases b;simp_all)
theorem Ao (a b:List aJ) (hs:jf a):af Tryz.prog 253 false [.val none (br .imm a),.val none (br .imm b)] .one [B (decide (a=b))]:=by
 refine fO (n:=27) [(6,10,[17,18,19,20,21,22,23,24,25,26])] Tryz.func253 (by kernel_rfl) rfl (by kernel_rfl) (by rfl) (.inr ⟨trivial,trivial⟩) ?_
 have hl:a.length≤1048576:=hs.1
 repeat'((conv=>whnf);first|with_reducible (first|refine Lm ?_|refine Wm (by omega) ?_|refine Bf.N (fun h=>?_) (fun h=>?_)|refine Bn ?_|refine Fm rfl ?_)|refine Bt ?_|refine Bu ?_)
 ·refine congrArg (fun z=>[B z]) (decide_eq_false fun e=>?_).symm
  subst e
  omega
 have hlab:a.length=b.length:=by omega
 (conv=>whnf)
 refine Lp.mk (ι:=Nat) (fun i=>[(0,.hold .one (br .imm a)),(1,.hold .one (br .imm b)),(5,.hold .one [I (i:Nat)])]) (fun i=>i≤a.length∧∀ j,j<i→a[j]? = b[j]?) (fun i=>a.length - i) 0 ?_ ⟨Nat.zero_le _,fun j hj=>by omega⟩ fun i hi=>?_
 ·repeat'(first|exact trivial|rfl|refine And.intro ?_ ?_)
 ·obtain⟨hi,hall⟩:=hi
  by_cases hlt:i<a.length
  ·obtain⟨x,hx⟩ : ∃ x,a[i]? = some x:=⟨_,List.getElem?_eq_getElem hlt⟩
   obtain⟨y,hy⟩ : ∃ y,b[i]? = some y:=⟨_,List.getElem?_eq_getElem (by omega)⟩
   repeat'((conv=>whnf);first|with_reducible (first|refine Lm ?_|refine Wm (by omega) ?_|refine Ix.nat (aa hx) ?_|refine Ix.nat (aa hy) ?_|refine dT (by omega) (fun h=>?_)|refine Bf.N (fun h=>?_) (fun h=>?_)|refine Bf.NB (fun h=>?_) (fun h=>?_)|refine Bf.D (fun h=>?_) (fun h=>?_)|refine Bn ?_|refine Fm rfl ?_)|refine Bt ?_|refine Bu ?_|refine Cl.mk (D4 x y trivial) ?_)
   all_goals first
    |(show [B false]=[B (decide (a=b))]
      refine congrArg (fun z=>[B z]) (decide_eq_false fun e=>?_).symm
      subst e
      simp_all)
    | ((conv=>whnf)
       refine Nx.mk (i+1) ⟨by omega,fun j hj=>?_⟩ (by omega) ?_
       · rcases Nat.lt_or_ge j i with h1|h1
         · exact hall j h1
         · obtain rfl:j=i:=by omega
           rw[hx,hy]
           simp_all
       · repeat'(first|exact trivial|rfl|refine And.intro ?_ ?_))
  ·repeat'((conv=>whnf);first|with_reducible (first|refine Lm ?_|refine Wm (by omega) ?_|refine dF (by omega) (fun h=>?_)|refine Bn ?_|refine Fm rfl ?_)|refine Bt ?_|refine Bu ?_)
   refine congrArg (fun z=>[B z]) (decide_eq_true ?_).symm
   refine List.ext_getElem? fun j=>?_
   rcases Nat.lt_or_ge j i with h1|h1
   ·exact hall j h1
   ·rw[List.getElem?_eq_none (by omega),List.getElem?_eq_none (by omega)]
theorem zK (a b:List (List aJ)) (hs:g0 a):af Tryz.prog 149 false [.val none (dm .imm a),.val none (dm .imm b)] .one [B (decide (a=b))]:=by
 refine fO (n:=27) [(6,10,[17,18,19,20,21,22,23,24,25,26])] Tryz.func149 (by kernel_rfl) rfl (by kernel_rfl) (by rfl) (.inr ⟨trivial,trivial⟩) ?_
 have hl:a.length≤1048576:=hs.1
 repeat'((conv=>whnf);first|with_reducible (first|refine Lm ?_|refine Wm (by omega) ?_|refine Bf.N (fun h=>?_) (fun h=>?_)|refine Bn ?_|refine Fm rfl ?_)|refine Bt ?_|refine Bu ?_)
 ·refine congrArg (fun z=>[B z]) (decide_eq_false fun e=>?_).symm
  subst e
  omega
 have hlab:a.length=b.length:=by omega
 (conv=>whnf)
 refine Lp.mk (ι:=Nat) (fun i=>[(0,.hold .one (dm .imm a)),(1,.hold .one (dm .imm b)),(5,.hold .one [I (i:Nat)])]) (fun i=>i≤a.length∧∀ j,j<i→a[j]? = b[j]?) (fun i=>a.length - i) 0 ?_ ⟨Nat.zero_le _,fun j hj=>by omega⟩ fun i hi=>?_
 ·repeat'(first|exact trivial|rfl|refine And.intro ?_ ?_)
 ·obtain⟨hi,hall⟩:=hi
  by_cases hlt:i<a.length
  ·obtain⟨x,hx⟩ : ∃ x,a[i]? = some x:=⟨_,List.getElem?_eq_getElem hlt⟩
   obtain⟨y,hy⟩ : ∃ y,b[i]? = some y:=⟨_,List.getElem?_eq_getElem (by omega)⟩
   repeat'((conv=>whnf);first|with_reducible (first|refine Lm ?_|refine Wm (by omega) ?_|refine Ix.nat (aa hx) ?_|refine Ix.nat (aa hy) ?_|refine dT (by omega) (fun h=>?_)|refine Bf.N (fun h=>?_) (fun h=>?_)|refine Bf.NB (fun h=>?_) (fun h=>?_)|refine Bf.D (fun h=>?_) (fun h=>?_)|refine Bn ?_|refine Fm rfl ?_)|refine Bt ?_|refine Bu ?_|refine Cl.mk (Ao x y (hs.2 x (List.mem_of_getElem? hx))) ?_)
   all_goals first
    |(show [B false]=[B (decide (a=b))]
      refine congrArg (fun z=>[B z]) (decide_eq_false fun e=>?_).symm
      subst e
      simp_all)
    | ((conv=>whnf)
       refine Nx.mk (i+1) ⟨by omega,fun j hj=>?_⟩ (by omega) ?_
       · rcases Nat.lt_or_ge j i with h1|h1
         · exact hall j h1
         · obtain rfl:j=i:=by omega
           rw[hx,hy]
           simp_all
       · repeat'(first|exact trivial|rfl|refine And.intro ?_ ?_))
  ·repeat'((conv=>whnf);first|with_reducible (first|refine Lm ?_|refine Wm (by omega) ?_|refine dF (by omega) (fun h=>?_)|refine Bn ?_|refine Fm rfl ?_)|refine Bt ?_|refine Bu ?_)
   refine congrArg (fun z=>[B z]) (decide_eq_true ?_).symm
   refine List.ext_getElem? fun j=>?_
   rcases Nat.lt_or_ge j i with h1|h1
   ·exact hall j h1
   ·rw[List.getElem?_eq_none (by omega),List.getElem?_eq_none (by omega)]
theorem D6 (a b:aG) (hs:aG.sml a):af Tryz.prog 53 false [.val (some 2) (aG.enc .imm a),.val (some 2) (aG.enc .imm b)] .one [B (decide (a=b))]:=by
 obtain⟨h0,h1⟩:=hs
 refine fO (n:=17) [] Tryz.func53 (by kernel_rfl) rfl (by kernel_rfl) (by rfl) (.inr ⟨trivial,trivial⟩) ?_
 repeat'((conv=>whnf);first|with_reducible (first|refine Lm ?_|refine Wm (by omega) ?_|refine Bf.N (fun h=>?_) (fun h=>?_)|refine Bf.NB (fun h=>?_) (fun h=>?_)|refine Bf.D (fun h=>?_) (fun h=>?_)|refine Bn ?_|refine Fm rfl ?_)|refine Bt ?_|refine Bu ?_|refine Cl.mk (zK a.Buffers b.Buffers h0) ?_|refine Cl.mk (nZ a.Inbox b.Inbox h1) ?_)
 all_goals first|(show [B false]=[B (decide (a=b))];refine congrArg (fun z=>[B z]) (decide_eq_false fun e=>?_).symm;subst e;contradiction)|(show [B true]=[B (decide (a=b))];refine congrArg (fun z=>[B z]) (decide_eq_true ?_).symm;cases a;cases b;simp_all)
theorem AB (a b:ax) (hs:ax.sml a):af Tryz.prog 254 false [.val (some 3) (ax.enc .imm a),.val (some 3) (ax.enc .imm b)] .one [B (decide (a=b))]:=by
 refine fO (n:=20) [] Tryz.func254 (by kernel_rfl) rfl (by kernel_rfl) (by rfl) (.inr ⟨trivial,trivial⟩) ?_
 repeat'((conv=>whnf);first|with_reducible (first|refine Lm ?_|refine Wm (by omega) ?_|refine Bf.N (fun h=>?_) (fun h=>?_)|refine Bf.NB (fun h=>?_) (fun h=>?_)|refine Bf.D (fun h=>?_) (fun h=>?_)|refine Bn ?_|refine Fm rfl ?_)|refine Bt ?_|refine Bu ?_)
 all_goals first|(show [B false]=[B (decide (a=b))];refine congrArg (fun z=>[B z]) (decide_eq_false fun e=>?_).symm;subst e;contradiction)|(show [B true]=[B (decide (a=b))];refine congrArg (fun z=>[B z]) (decide_eq_true ?_).symm;cases a;cases b;simp_all)
theorem yG (a b:List ax) (hs:dN a):af Tryz.prog 151 false [.val none (bh .imm a),.val none (bh .imm b)] .one [B (decide (a=b))]:=by
 refine fO (n:=27) [(6,10,[17,18,19,20,21,22,23,24,25,26])] Tryz.func151 (by kernel_rfl) rfl (by kernel_rfl) (by rfl) (.inr ⟨trivial,trivial⟩) ?_
 have hl:a.length≤1048576:=hs.1
 repeat'((conv=>whnf);first|with_reducible (first|refine Lm ?_|refine Wm (by omega) ?_|refine Bf.N (fun h=>?_) (fun h=>?_)|refine Bn ?_|refine Fm rfl ?_)|refine Bt ?_|refine Bu ?_)
 ·refine congrArg (fun z=>[B z]) (decide_eq_false fun e=>?_).symm
  subst e
  omega
 have hlab:a.length=b.length:=by omega
 (conv=>whnf)
 refine Lp.mk (ι:=Nat) (fun i=>[(0,.hold .one (bh .imm a)),(1,.hold .one (bh .imm b)),(5,.hold .one [I (i:Nat)])]) (fun i=>i≤a.length∧∀ j,j<i→a[j]? = b[j]?) (fun i=>a.length - i) 0 ?_ ⟨Nat.zero_le _,fun j hj=>by omega⟩ fun i hi=>?_
 ·repeat'(first|exact trivial|rfl|refine And.intro ?_ ?_)
 ·obtain⟨hi,hall⟩:=hi
  by_cases hlt:i<a.length
  ·obtain⟨x,hx⟩ : ∃ x,a[i]? = some x:=⟨_,List.getElem?_eq_getElem hlt⟩
   obtain⟨y,hy⟩ : ∃ y,b[i]? = some y:=⟨_,List.getElem?_eq_getElem (by omega)⟩
   repeat'((conv=>whnf);first|with_reducible (first|refine Lm ?_|refine Wm (by omega) ?_|refine Ix.nat (aa hx) ?_|refine Ix.nat (aa hy) ?_|refine dT (by omega) (fun h=>?_)|refine Bf.N (fun h=>?_) (fun h=>?_)|refine Bf.NB (fun h=>?_) (fun h=>?_)|refine Bf.D (fun h=>?_) (fun h=>?_)|refine Bn ?_|refine Fm rfl ?_)|refine Bt ?_|refine Bu ?_|refine Cl.mk (AB x y trivial) ?_)
   all_goals first
    |(show [B false]=[B (decide (a=b))]
      refine congrArg (fun z=>[B z]) (decide_eq_false fun e=>?_).symm
      subst e
      simp_all)
    | ((conv=>whnf)
       refine Nx.mk (i+1) ⟨by omega,fun j hj=>?_⟩ (by omega) ?_
       · rcases Nat.lt_or_ge j i with h1|h1
         · exact hall j h1
         · obtain rfl:j=i:=by omega
           rw[hx,hy]
           simp_all
       · repeat'(first|exact trivial|rfl|refine And.intro ?_ ?_))
  ·repeat'((conv=>whnf);first|with_reducible (first|refine Lm ?_|refine Wm (by omega) ?_|refine dF (by omega) (fun h=>?_)|refine Bn ?_|refine Fm rfl ?_)|refine Bt ?_|refine Bu ?_)
   refine congrArg (fun z=>[B z]) (decide_eq_true ?_).symm
   refine List.ext_getElem? fun j=>?_
   rcases Nat.lt_or_ge j i with h1|h1
   ·exact hall j h1
   ·rw[List.getElem?_eq_none (by omega),List.getElem?_eq_none (by omega)]
theorem DG (a b:aK) (hs:aK.sml a):af Tryz.prog 54 false [.val (some 2) (aK.enc .imm a),.val (some 2) (aK.enc .imm b)] .one [B (decide (a=b))]:=by
 have h0:=hs
 refine fO (n:=16) [] Tryz.func54 (by kernel_rfl) rfl (by kernel_rfl) (by rfl) (.inr ⟨trivial,trivial⟩) ?_
 repeat'((conv=>whnf);first|with_reducible (first|refine Lm ?_|refine Wm (by omega) ?_|refine Bf.N (fun h=>?_) (fun h=>?_)|refine Bf.NB (fun h=>?_) (fun h=>?_)|refine Bf.D (fun h=>?_) (fun h=>?_)|refine Bn ?_|refine Fm rfl ?_)|refine Bt ?_|refine Bu ?_|refine Cl.mk (yG a.Lst b.Lst h0) ?_)
 all_goals first|(show [B false]=[B (decide (a=b))];refine congrArg (fun z=>[B z]) (decide_eq_false fun e=>?_).symm;subst e;contradiction)|(show [B true]=[B (decide (a=b))];refine congrArg (fun z=>[B z]) (decide_eq_true ?_).symm;cases a;cases b;simp_all)
theorem EF (a b:aV) (hs:aV.sml a):af Tryz.prog 152 false [.val (some 3) (aV.enc .imm a),.val (some 3) (aV.enc .imm b)] .one [B (decide (a=b))]:=by
 have h0:=hs
 refine fO (n:=21) [] Tryz.func152 (by kernel_rfl) rfl (by kernel_rfl) (by rfl) (.inr ⟨trivial,trivial⟩) ?_
 repeat'((conv=>whnf);first|with_reducible (first|refine Lm ?_|refine Wm (by omega) ?_|refine Bf.N (fun h=>?_) (fun h=>?_)|refine Bf.NB (fun h=>?_) (fun h=>?_)|refine Bf.D (fun h=>?_) (fun h=>?_)|refine Bn ?_|refine Fm rfl ?_)|refine Bt ?_|refine Bu ?_|refine Cl.mk (qf a.Cells b.Cells h0) ?_)
 all_goals first|(show [B false]=[B (decide (a=b))];refine congrArg (fun z=>[B z]) (decide_eq_false fun e=>?_).symm;subst e;contradiction)|(show [B true]=[B (decide (a=b))];refine congrArg (fun z=>[B z]) (decide_eq_true ?_).symm;cases a;cases b;simp_all)
theorem Fj (a b:bq) (hs:bq.sml a):af Tryz.prog 55 false [.val (some 5) (bq.enc .imm a),.val (some 5) (bq.enc .imm b)] .one [B (decide (a=b))]:=by
 have h0:=hs
 refine fO (n:=21) [] Tryz.func55 (by kernel_rfl) rfl (by kernel_rfl) (by rfl) (.inr ⟨trivial,trivial⟩) ?_
 repeat'((conv=>whnf);first|with_reducible (first|refine Lm ?_|refine Wm (by omega) ?_|refine Bf.N (fun h=>?_) (fun h=>?_)|refine Bf.NB (fun h=>?_) (fun h=>?_)|refine Bf.D (fun h=>?_) (fun h=>?_)|refine Bn ?_|refine Fm rfl ?_)|refine Bt ?_|refine Bu ?_|refine Cl.mk (EF a.Plan b.Plan h0) ?_)
 all_goals first|(show [B false]=[B (decide (a=b))];refine congrArg (fun z=>[B z]) (decide_eq_false fun e=>?_).symm;subst e;contradiction)|(show [B true]=[B (decide (a=b))];refine congrArg (fun z=>[B z]) (decide_eq_true ?_).symm;cases a;cases b;simp_all)
theorem vf (a b:ac) (hs:ac.sml a):af Tryz.prog 10 false [.val (some 24) (ac.enc .imm a),.val (some 24) (ac.enc .imm b)] .one [B (decide (a=b))]:=by
 obtain⟨h0,h1,h2,h3,h4,h5,h6,h7,h8⟩:=hs
 refine fO (n:=84) [] Tryz.func10 (by kernel_rfl) rfl (by kernel_rfl) (by rfl) (.inr ⟨trivial,trivial⟩) ?_
 repeat'((conv=>whnf);first|with_reducible (first|refine Lm ?_|refine Wm (by omega) ?_|refine Bf.N (fun h=>?_) (fun h=>?_)|refine Bf.NB (fun h=>?_) (fun h=>?_)|refine Bf.D (fun h=>?_) (fun h=>?_)|refine Bn ?_|refine Fm rfl ?_)|refine Bt ?_|refine Bu ?_|refine Cl.mk (y4 a.Kernel b.Kernel h0) ?_|refine Cl.mk (yY a.Free b.Free h1) ?_|refine Cl.mk (Be a.Spans b.Spans h2) ?_|refine Cl.mk (yM a.Larges b.Larges h3) ?_|refine Cl.mk (Ei a.Objs b.Objs h4) ?_|refine Cl.mk (yU a.Caches b.Caches h5) ?_|refine Cl.mk (D6 a.Mail b.Mail h6) ?_|refine Cl.mk (DG a.Quar b.Quar h7) ?_|refine Cl.mk (Fj a.Job b.Job h8) ?_)
 all_goals first|(show [B false]=[B (decide (a=b))];refine congrArg (fun z=>[B z]) (decide_eq_false fun e=>?_).symm;subst e;contradiction)|(show [B true]=[B (decide (a=b))];refine congrArg (fun z=>[B z]) (decide_eq_true ?_).symm;cases a;cases b;simp_all)
end Go.Proofs.YtogajjgmcnjkbaaGreat.Ab
namespace Go.Proofs.YtogajjgmcnjkbaaGreat.Ab
open Go.RowKit
set_option maxRecDepth 20000
set_option maxHeartbeats 2000000
theorem mK (x:List Int) (k:Int) (hs:iT x) (h0:0≤k) (h1:k+(d9 x:Nat)≤1099511627776):bm Tryz.prog 154 false [.mut none (aI .own x),.val none [I k]] [.mut none (aI .own (markIntS x k)),.val none []] .one [I (k+(d9 x:Nat))]:=by
 have hl:x.length≤1048576:=hs
 unfold d9 at h1
 have hml:((markIntS x k).map (rI .own)).length=(x.map (rI .own)).length:=by simp[lE]
 refine bL (n:=19) (mo:=[]) (tb:=[]) [(0,0),(0,0)] Tryz.func154 (by kernel_rfl) rfl (by kernel_rfl) (by rfl) (by rfl) (.inr ⟨trivial,trivial⟩) fun u p=>?_
 repeat'((conv=>whnf);first|with_reducible (first|refine Lm ?_|refine Wm (by omega) ?_|refine Bn ?_|refine Fm rfl ?_)|refine Bt ?_|refine Bu ?_)
 (conv=>whnf)
 refine Lp.mk (ι:=Nat) (fun i=>[(0,.hold .one [.s (.tag (u 0 0)) (eS ((markIntS x k).map (rI .own)) (x.map (rI .own)) i)]),(1,.hold .one [I (k+(gJ x i:Nat))]),(5,.hold .one [I (i:Nat)])]) (fun i=>i≤x.length) (fun i=>x.length - i) 0 ?_ (Nat.zero_le _) fun i hi=>?_
 ·rw[bP]
  repeat'(first|exact trivial|rfl|exact And.intro rfl (And.intro (congrArg I (by unfold gJ;omega)) trivial)|refine And.intro ?_ ?_)
 ·have hlen:=(fE hml i).trans (show(x.map (rI .own)).length=x.length by simp)
  by_cases hlt:i<x.length
  ·obtain⟨y,hy⟩ : ∃ y,x[i]? = some y:=⟨_,List.getElem?_eq_getElem hlt⟩
   have hr:=cT hml i (by simp;omega)
   rw[aa hy]at hr
   have hm:=ly x k i hlt
   unfold gJ
   repeat'((conv=>whnf);first|with_reducible (first|refine Lm ?_|refine Wm (by omega) ?_|refine dT (by omega) (fun h=>?_)|refine Ln.mk hlen ?_|refine Ix.nat hr ?_|refine Bn ?_|refine Fm rfl ?_)|refine Bt ?_|refine Bu ?_|refine Pu.one rfl rfl hr rfl (Nat.le_refl _) rfl ?_|refine Cd.mk (by decide) ?_|refine Ev.mk rfl ?_|refine Ix.nat (bg hr) ?_|refine Nx.mk (i+1) (by omega) (by omega) ?_)
   repeat'(first|exact trivial|rfl|exact And.intro rfl (And.intro (congrArg (C.s _) (by first|exact bv hml (aa hm)|(simp only[List.set_set];exact bv hml (aa hm)))) trivial)|exact And.intro rfl (And.intro (congrArg I (by first|omega|(unfold gJ;omega))) trivial)|refine And.intro ?_ ?_)
  ·repeat'((conv=>whnf);first|with_reducible (first|refine Lm ?_|refine Wm (by omega) ?_|refine dF (by omega) (fun h=>?_)|refine Ln.mk hlen ?_|refine Bn ?_|refine Fm rfl ?_)|refine Bt ?_|refine Bu ?_|refine cY.mk rfl ?_ ?_)
   ·have he:i=x.length:=by omega
    subst he
    exact congrArg (fun z=>[I z]) (by unfold gJ d9;rfl)
   ·rw[cQ _ hml (by simp;omega)]
    repeat'(first|exact trivial|exact rfl|refine And.intro ?_ ?_)
theorem lN (x:List (List Int)) (k:Int) (hs:gQ x) (h0:0≤k) (h1:k+(cW x:Nat)≤1099511627776):bm Tryz.prog 155 false [.mut none (d5 .own x),.val none [I k]] [.mut none (d5 .own (markIntSS x k)),.val none []] .one [I (k+(cW x:Nat))]:=by
 have hl:x.length≤1048576:=hs.1
 have hml:((markIntSS x k).map (aI .own)).length=(x.map (aI .own)).length:=by simp[kx]
 refine bL (n:=19) (mo:=[(154,[1,0])]) (tb:=[]) [(0,0),(0,0)] Tryz.func155 (by kernel_rfl) rfl (by kernel_rfl) (by rfl) (by rfl) (.inr ⟨trivial,trivial⟩) fun u p=>?_
 repeat'((conv=>whnf);first|with_reducible (first|refine Lm ?_|refine Wm (by omega) ?_|refine Bn ?_|refine Fm rfl ?_)|refine Bt ?_|refine Bu ?_)
 (conv=>whnf)
 refine Lp.mk (ι:=Nat) (fun i=>[(0,.hold .one [.s (.tag (u 0 0)) (eS ((markIntSS x k).map (aI .own)) (x.map (aI .own)) i)]),(1,.hold .one [I (k+(dw x i:Nat))]),(5,.hold .one [I (i:Nat)])]) (fun i=>i≤x.length) (fun i=>x.length - i) 0 ?_ (Nat.zero_le _) fun i hi=>?_
 ·rw[bP,kv]
  repeat'(first|exact trivial|rfl|exact And.intro rfl (And.intro (congrArg I (by omega)) trivial)|refine And.intro ?_ ?_)
 ·have hlen:=(fE hml i).trans (show(x.map (aI .own)).length=x.length by simp)
  by_cases hlt:i<x.length
  ·obtain⟨y,hy⟩ : ∃ y,x[i]? = some y:=⟨_,List.getElem?_eq_getElem hlt⟩
   have hr:=cT hml i (by simp;omega)
   rw[aa hy]at hr
   have hm:=kw x k i y hy
   have hps:=jX x i y hy
   have hpl:=m9 x (i+1)
   rw[hps]at hpl
   repeat'((conv=>whnf);first|with_reducible (first|refine Lm ?_|refine Wm (by omega) ?_|refine dT (by omega) (fun h=>?_)|refine Ln.mk hlen ?_|refine Ix.nat hr ?_|refine Bn ?_|refine Fm rfl ?_)|refine Bt ?_|refine Bu ?_|refine Rw.one rfl hr rfl ?_|refine Lq.one rfl rfl hr rfl (Nat.le_refl _) rfl rfl ?_|refine dZ.mk (mK y _ (hs.2 y (List.mem_of_getElem? hy)) (by omega) (by omega)) (.inl rfl) ?_|refine Pu.one rfl rfl (bg hr) rfl (Nat.le_refl _) rfl ?_|refine Ix.nat (bg hr) ?_|refine Nx.mk (i+1) (by omega) (by omega) ?_)
   repeat'(first|exact trivial|rfl|exact And.intro rfl (And.intro (congrArg (C.s _) (by first|exact bv hml (aa hm)|(simp only[List.set_set];exact bv hml (aa hm)))) trivial)|exact And.intro rfl (And.intro (congrArg I (by omega)) trivial)|refine And.intro ?_ ?_)
  ·repeat'((conv=>whnf);first|with_reducible (first|refine Lm ?_|refine Wm (by omega) ?_|refine dF (by omega) (fun h=>?_)|refine Ln.mk hlen ?_|refine Bn ?_|refine Fm rfl ?_)|refine Bt ?_|refine Bu ?_|refine cY.mk rfl ?_ ?_)
   ·have he:i=x.length:=by omega
    subst he
    exact congrArg (fun z=>[I z]) (by rw[lw])
   ·rw[cQ _ hml (by simp;omega)]
    repeat'(first|exact trivial|exact rfl|refine And.intro ?_ ?_)
theorem xz (x:List Bool) (k:Int) (hs:kO x) (h0:0≤k) (h1:k+(eB x:Nat)≤1099511627776):bm Tryz.prog 326 false [.mut none (fR .own x),.val none [I k]] [.mut none (fR .own (markBoolS x k)),.val none []] .one [I (k+(eB x:Nat))]:=by
 have hl:x.length≤1048576:=hs
 unfold eB at h1
 have hml:((markBoolS x k).map (rB .own)).length=(x.map (rB .own)).length:=by simp[ki]
 refine bL (n:=21) (mo:=[]) (tb:=[]) [(0,0),(0,0)] Tryz.func326 (by kernel_rfl) rfl (by kernel_rfl) (by rfl) (by rfl) (.inr ⟨trivial,trivial⟩) fun u p=>?_
 repeat'((conv=>whnf);first|with_reducible (first|refine Lm ?_|refine Wm (by omega) ?_|refine Bn ?_|refine Fm rfl ?_)|refine Bt ?_|refine Bu ?_)
 (conv=>whnf)
 refine Lp.mk (ι:=Nat) (fun i=>[(0,.hold .one [.s (.tag (u 0 0)) (eS ((markBoolS x k).map (rB .own)) (x.map (rB .own)) i)]),(1,.hold .one [I (k+(fx x i:Nat))]),(5,.hold .one [I (i:Nat)])]) (fun i=>i≤x.length) (fun i=>x.length - i) 0 ?_ (Nat.zero_le _) fun i hi=>?_
 ·rw[bP]
  repeat'(first|exact trivial|rfl|exact And.intro rfl (And.intro (congrArg I (by unfold fx;omega)) trivial)|refine And.intro ?_ ?_)
 ·have hlen:=(fE hml i).trans (show(x.map (rB .own)).length=x.length by simp)
  by_cases hlt:i<x.length
  ·obtain⟨y,hy⟩ : ∃ y,x[i]? = some y:=⟨_,List.getElem?_eq_getElem hlt⟩
   have hr:=cT hml i (by simp;omega)
   rw[aa hy]at hr
   have hm:=ka x k i hlt
   unfold fx
   repeat'((conv=>whnf);first|with_reducible (first|refine Lm ?_|refine Wm (by omega) ?_|refine dT (by omega) (fun h=>?_)|refine Ln.mk hlen ?_|refine Ix.nat hr ?_|refine Bn ?_|refine Fm rfl ?_)|refine Bt ?_|refine Bu ?_|refine Pu.one rfl rfl hr rfl (Nat.le_refl _) rfl ?_|refine Cd.mk (by decide) ?_|refine Ev.mk rfl ?_|refine Ix.nat (bg hr) ?_|refine Nx.mk (i+1) (by omega) (by omega) ?_)
   repeat'(first|exact trivial|rfl|exact And.intro rfl (And.intro (congrArg (C.s _) (by first|exact bv hml (aa hm)|(simp only[List.set_set];exact bv hml (aa hm)))) trivial)|exact And.intro rfl (And.intro (congrArg I (by first|omega|(unfold fx;omega))) trivial)|refine And.intro ?_ ?_)
  ·repeat'((conv=>whnf);first|with_reducible (first|refine Lm ?_|refine Wm (by omega) ?_|refine dF (by omega) (fun h=>?_)|refine Ln.mk hlen ?_|refine Bn ?_|refine Fm rfl ?_)|refine Bt ?_|refine Bu ?_|refine cY.mk rfl ?_ ?_)
   ·have he:i=x.length:=by omega
    subst he
    exact congrArg (fun z=>[I z]) (by unfold fx eB;rfl)
   ·rw[cQ _ hml (by simp;omega)]
    repeat'(first|exact trivial|exact rfl|refine And.intro ?_ ?_)
theorem un (x:aC) (k:Int) (hs:aC.sml x) (h0:0≤k) (h1:k+(aC.cnt x:Nat)≤1099511627776):bm Tryz.prog 255 false [.mut (some 2) (aC.enc .own x),.val none [I k]] [.mut (some 2) (aC.enc .own (x.mark k)),.val none []] .one [I (k+(aC.cnt x:Nat))]:=by
 obtain⟨s0,s1⟩:=hs
 unfold aC.cnt at h1
 refine bL (n:=14) (mo:=[(155,[1,0]),(326,[1,0])]) (tb:=[]) [(2,0),(0,0)] Tryz.func255 (by kernel_rfl) rfl (by kernel_rfl) (by rfl) (by rfl) (.inr ⟨trivial,trivial⟩) fun u p=>?_
 repeat'((conv=>whnf);first|with_reducible (first|refine Lm ?_|refine Wm (by omega) ?_|refine Bn ?_|refine Fm rfl ?_)|refine Bt ?_|refine Bu ?_|refine dZ.mk (lN x.Cells _ s0 (by omega) (by omega)) (.inl rfl) ?_|refine dZ.mk (xz x.Used _ s1 (by omega) (by omega)) (.inl rfl) ?_|refine cY.mk rfl ?_ ?_)
 ·exact congrArg (fun z=>[I z]) (by unfold aC.cnt;omega)
 ·repeat'(first|exact trivial|exact rfl|refine And.intro ?_ ?_)
theorem uF (x:List aE) (k:Int) (hs:gD x) (h0:0≤k) (h1:k+(cJ x:Nat)≤1099511627776):bm Tryz.prog 327 false [.mut none (d6 .own x),.val none [I k]] [.mut none (d6 .own (df x k)),.val none []] .one [I (k+(cJ x:Nat))]:=by
 have hl:x.length≤1048576:=hs.1
 have hml:((df x k).map (aE.enc .own)).length=(x.map (aE.enc .own)).length:=by simp[ia]
 refine bL (n:=27) (mo:=[]) (tb:=[]) [(0,0),(0,0)] Tryz.func327 (by kernel_rfl) rfl (by kernel_rfl) (by rfl) (by rfl) (.inr ⟨trivial,trivial⟩) fun u p=>?_
 repeat'((conv=>whnf);first|with_reducible (first|refine Lm ?_|refine Wm (by omega) ?_|refine Bn ?_|refine Fm rfl ?_)|refine Bt ?_|refine Bu ?_)
 (conv=>whnf)
 refine Lp.mk (ι:=Nat) (fun i=>[(0,.hold .one [.s (.tag (u 0 0)) (eS ((df x k).map (aE.enc .own)) (x.map (aE.enc .own)) i)]),(1,.hold .one [I (k+(bT x i:Nat))]),(5,.hold .one [I (i:Nat)])]) (fun i=>i≤x.length) (fun i=>x.length - i) 0 ?_ (Nat.zero_le _) fun i hi=>?_
 ·rw[bP,iz]
  repeat'(first|exact trivial|rfl|exact And.intro rfl (And.intro (congrArg I (by omega)) trivial)|refine And.intro ?_ ?_)
 ·have hlen:=(fE hml i).trans (show(x.map (aE.enc .own)).length=x.length by simp)
  by_cases hlt:i<x.length
  ·obtain⟨y,hy⟩ : ∃ y,x[i]? = some y:=⟨_,List.getElem?_eq_getElem hlt⟩
   have hr:=cT hml i (by simp;omega)
   rw[aa hy]at hr
   have hm:=hC x k i y hy
   have hps:=iC x i y hy
   have hpl:=jW x (i+1)
   rw[hps]at hpl
   simp only[aE.cnt]at hps hpl
   repeat'((conv=>whnf);first|with_reducible (first|refine Lm ?_|refine Wm (by omega) ?_|refine dT (by omega) (fun h=>?_)|refine Ln.mk hlen ?_|refine Ix.nat hr ?_|refine Bn ?_|refine Fm rfl ?_)|refine Bt ?_|refine Bu ?_|refine Pu.one rfl rfl hr rfl (Nat.le_of_ble_eq_true rfl) rfl ?_|refine Pu.one rfl rfl (bg hr) rfl (Nat.le_of_ble_eq_true rfl) rfl ?_|refine Ix.nat (bg hr) ?_|refine Nx.mk (i+1) (by omega) (by omega) ?_)
   repeat'(first|exact trivial|rfl|exact And.intro rfl (And.intro (congrArg (C.s _) (by first|exact bv hml (aa hm)|(simp only[List.set_set];exact bv hml (aa hm)))) trivial)|exact And.intro rfl (And.intro (congrArg I (by first|omega|(simp only[aE.cnt]at hps;omega))) trivial)|refine And.intro ?_ ?_)
  ·repeat'((conv=>whnf);first|with_reducible (first|refine Lm ?_|refine Wm (by omega) ?_|refine dF (by omega) (fun h=>?_)|refine Ln.mk hlen ?_|refine Bn ?_|refine Fm rfl ?_)|refine Bt ?_|refine Bu ?_|refine cY.mk rfl ?_ ?_)
   ·have he:i=x.length:=by omega
    subst he
    exact congrArg (fun z=>[I z]) (by rw[jD])
   ·rw[cQ _ hml (by simp;omega)]
    repeat'(first|exact trivial|exact rfl|refine And.intro ?_ ?_)
theorem vV (x:aB) (k:Int) (hs:aB.sml x) (h0:0≤k) (h1:k+(aB.cnt x:Nat)≤1099511627776):bm Tryz.prog 256 false [.mut (some 1) (aB.enc .own x),.val none [I k]] [.mut (some 1) (aB.enc .own (x.mark k)),.val none []] .one [I (k+(aB.cnt x:Nat))]:=by
 have s0:=hs
 unfold aB.cnt at h1
 refine bL (n:=10) (mo:=[(327,[1,0])]) (tb:=[]) [(2,0),(0,0)] Tryz.func256 (by kernel_rfl) rfl (by kernel_rfl) (by rfl) (by rfl) (.inr ⟨trivial,trivial⟩) fun u p=>?_
 repeat'((conv=>whnf);first|with_reducible (first|refine Lm ?_|refine Wm (by omega) ?_|refine Bn ?_|refine Fm rfl ?_)|refine Bt ?_|refine Bu ?_|refine dZ.mk (uF x.Entries _ s0 (by omega) (by omega)) (.inl rfl) ?_|refine cY.mk rfl ?_ ?_)
 ·exact congrArg (fun z=>[I z]) (by unfold aB.cnt;omega)
 ·repeat'(first|exact trivial|exact rfl|refine And.intro ?_ ?_)
theorem rU (x:aA) (k:Int) (hs:aA.sml x) (h0:0≤k) (h1:k+(aA.cnt x:Nat)≤1099511627776):bm Tryz.prog 153 false [.mut (some 3) (aA.enc .own x),.val none [I k]] [.mut (some 3) (aA.enc .own (x.mark k)),.val none []] .one [I (k+(aA.cnt x:Nat))]:=by
 obtain⟨s0,s1⟩:=hs
 unfold aA.cnt at h1
 refine bL (n:=14) (mo:=[(255,[1,0]),(256,[1,0])]) (tb:=[]) [(2,0),(0,0)] Tryz.func153 (by kernel_rfl) rfl (by kernel_rfl) (by rfl) (by rfl) (.inr ⟨trivial,trivial⟩) fun u p=>?_
 repeat'((conv=>whnf);first|with_reducible (first|refine Lm ?_|refine Wm (by omega) ?_|refine Bn ?_|refine Fm rfl ?_)|refine Bt ?_|refine Bu ?_|refine dZ.mk (un x.Frames _ s0 (by omega) (by omega)) (.inl rfl) ?_|refine dZ.mk (vV x.Table _ s1 (by omega) (by omega)) (.inl rfl) ?_|refine cY.mk rfl ?_ ?_)
 ·exact congrArg (fun z=>[I z]) (by unfold aA.cnt;omega)
 ·repeat'(first|exact trivial|exact rfl|refine And.intro ?_ ?_)
theorem nt (x:ao) (k:Int) (hs:ao.sml x) (h0:0≤k) (h1:k+(ao.cnt x:Nat)≤1099511627776):bm Tryz.prog 56 false [.mut (some 5) (ao.enc .own x),.val none [I k]] [.mut (some 5) (ao.enc .own (x.mark k)),.val none []] .one [I (k+(ao.cnt x:Nat))]:=by
 obtain⟨s0,s1⟩:=hs
 unfold ao.cnt at h1
 refine bL (n:=14) (mo:=[(153,[1,0]),(154,[1,0])]) (tb:=[]) [(2,0),(0,0)] Tryz.func56 (by kernel_rfl) rfl (by kernel_rfl) (by rfl) (by rfl) (.inr ⟨trivial,trivial⟩) fun u p=>?_
 repeat'((conv=>whnf);first|with_reducible (first|refine Lm ?_|refine Wm (by omega) ?_|refine Bn ?_|refine Fm rfl ?_)|refine Bt ?_|refine Bu ?_|refine dZ.mk (rU x.Machine _ s0 (by omega) (by omega)) (.inl rfl) ?_|refine dZ.mk (mK x.Refuse _ s1 (by omega) (by omega)) (.inl rfl) ?_|refine cY.mk rfl ?_ ?_)
 ·exact congrArg (fun z=>[I z]) (by unfold ao.cnt;omega)
 ·repeat'(first|exact trivial|exact rfl|refine And.intro ?_ ?_)
theorem nO (x:List al) (k:Int) (hs:dr x) (h0:0≤k) (h1:k+(bz x:Nat)≤1099511627776):bm Tryz.prog 57 false [.mut none (aT .own x),.val none [I k]] [.mut none (aT .own (dh x k)),.val none []] .one [I (k+(bz x:Nat))]:=by
 have hl:x.length≤1048576:=hs.1
 have hml:((dh x k).map (al.enc .own)).length=(x.map (al.enc .own)).length:=by simp[ij]
 refine bL (n:=27) (mo:=[]) (tb:=[]) [(0,0),(0,0)] Tryz.func57 (by kernel_rfl) rfl (by kernel_rfl) (by rfl) (by rfl) (.inr ⟨trivial,trivial⟩) fun u p=>?_
 repeat'((conv=>whnf);first|with_reducible (first|refine Lm ?_|refine Wm (by omega) ?_|refine Bn ?_|refine Fm rfl ?_)|refine Bt ?_|refine Bu ?_)
 (conv=>whnf)
 refine Lp.mk (ι:=Nat) (fun i=>[(0,.hold .one [.s (.tag (u 0 0)) (eS ((dh x k).map (al.enc .own)) (x.map (al.enc .own)) i)]),(1,.hold .one [I (k+(bS x i:Nat))]),(5,.hold .one [I (i:Nat)])]) (fun i=>i≤x.length) (fun i=>x.length - i) 0 ?_ (Nat.zero_le _) fun i hi=>?_
 ·rw[bP,hO]
  repeat'(first|exact trivial|rfl|exact And.intro rfl (And.intro (congrArg I (by omega)) trivial)|refine And.intro ?_ ?_)
 ·have hlen:=(fE hml i).trans (show(x.map (al.enc .own)).length=x.length by simp)
  by_cases hlt:i<x.length
  ·obtain⟨y,hy⟩ : ∃ y,x[i]? = some y:=⟨_,List.getElem?_eq_getElem hlt⟩
   have hr:=cT hml i (by simp;omega)
   rw[aa hy]at hr
   have hm:=iD x k i y hy
   have hps:=i9 x i y hy
   have hpl:=kn x (i+1)
   rw[hps]at hpl
   simp only[al.cnt]at hps hpl
   repeat'((conv=>whnf);first|with_reducible (first|refine Lm ?_|refine Wm (by omega) ?_|refine dT (by omega) (fun h=>?_)|refine Ln.mk hlen ?_|refine Ix.nat hr ?_|refine Bn ?_|refine Fm rfl ?_)|refine Bt ?_|refine Bu ?_|refine Pu.one rfl rfl hr rfl (Nat.le_of_ble_eq_true rfl) rfl ?_|refine Pu.one rfl rfl (bg hr) rfl (Nat.le_of_ble_eq_true rfl) rfl ?_|refine Ix.nat (bg hr) ?_|refine Nx.mk (i+1) (by omega) (by omega) ?_)
   repeat'(first|exact trivial|rfl|exact And.intro rfl (And.intro (congrArg (C.s _) (by first|exact bv hml (aa hm)|(simp only[List.set_set];exact bv hml (aa hm)))) trivial)|exact And.intro rfl (And.intro (congrArg I (by first|omega|(simp only[al.cnt]at hps;omega))) trivial)|refine And.intro ?_ ?_)
  ·repeat'((conv=>whnf);first|with_reducible (first|refine Lm ?_|refine Wm (by omega) ?_|refine dF (by omega) (fun h=>?_)|refine Ln.mk hlen ?_|refine Bn ?_|refine Fm rfl ?_)|refine Bt ?_|refine Bu ?_|refine cY.mk rfl ?_ ?_)
   ·have he:i=x.length:=by omega
    subst he
    exact congrArg (fun z=>[I z]) (by rw[jy])
   ·rw[cQ _ hml (by simp;omega)]
    repeat'(first|exact trivial|exact rfl|refine And.intro ?_ ?_)
theorem p9 (x:List am) (k:Int) (hs:cf x) (h0:0≤k) (h1:k+(bB x:Nat)≤1099511627776):bm Tryz.prog 58 false [.mut none (bt .own x),.val none [I k]] [.mut none (bt .own (d4 x k)),.val none []] .one [I (k+(bB x:Nat))]:=by
 have hl:x.length≤1048576:=hs.1
 have hml:((d4 x k).map (am.enc .own)).length=(x.map (am.enc .own)).length:=by simp[jh]
 refine bL (n:=34) (mo:=[]) (tb:=[]) [(0,0),(0,0)] Tryz.func58 (by kernel_rfl) rfl (by kernel_rfl) (by rfl) (by rfl) (.inr ⟨trivial,trivial⟩) fun u p=>?_
 repeat'((conv=>whnf);first|with_reducible (first|refine Lm ?_|refine Wm (by omega) ?_|refine Bn ?_|refine Fm rfl ?_)|refine Bt ?_|refine Bu ?_)
 (conv=>whnf)
 refine Lp.mk (ι:=Nat) (fun i=>[(0,.hold .one [.s (.tag (u 0 0)) (eS ((d4 x k).map (am.enc .own)) (x.map (am.enc .own)) i)]),(1,.hold .one [I (k+(cN x i:Nat))]),(5,.hold .one [I (i:Nat)])]) (fun i=>i≤x.length) (fun i=>x.length - i) 0 ?_ (Nat.zero_le _) fun i hi=>?_
 ·rw[bP,jG]
  repeat'(first|exact trivial|rfl|exact And.intro rfl (And.intro (congrArg I (by omega)) trivial)|refine And.intro ?_ ?_)
 ·have hlen:=(fE hml i).trans (show(x.map (am.enc .own)).length=x.length by simp)
  by_cases hlt:i<x.length
  ·obtain⟨y,hy⟩ : ∃ y,x[i]? = some y:=⟨_,List.getElem?_eq_getElem hlt⟩
   have hr:=cT hml i (by simp;omega)
   rw[aa hy]at hr
   have hm:=jI x k i y hy
   have hps:=jx x i y hy
   have hpl:=lJ x (i+1)
   rw[hps]at hpl
   simp only[am.cnt]at hps hpl
   repeat'((conv=>whnf);first|with_reducible (first|refine Lm ?_|refine Wm (by omega) ?_|refine dT (by omega) (fun h=>?_)|refine Ln.mk hlen ?_|refine Ix.nat hr ?_|refine Bn ?_|refine Fm rfl ?_)|refine Bt ?_|refine Bu ?_|refine Pu.one rfl rfl hr rfl (Nat.le_of_ble_eq_true rfl) rfl ?_|refine Pu.one rfl rfl (bg hr) rfl (Nat.le_of_ble_eq_true rfl) rfl ?_|refine Pu.one rfl rfl (bg (bg hr)) rfl (Nat.le_of_ble_eq_true rfl) rfl ?_|refine Ix.nat (bg hr) ?_|refine Ix.nat (bg (bg hr)) ?_|refine Nx.mk (i+1) (by omega) (by omega) ?_)
   repeat'(first|exact trivial|rfl|exact And.intro rfl (And.intro (congrArg (C.s _) (by first|exact bv hml (aa hm)|(simp only[List.set_set];exact bv hml (aa hm)))) trivial)|exact And.intro rfl (And.intro (congrArg I (by first|omega|(simp only[am.cnt]at hps;omega))) trivial)|refine And.intro ?_ ?_)
  ·repeat'((conv=>whnf);first|with_reducible (first|refine Lm ?_|refine Wm (by omega) ?_|refine dF (by omega) (fun h=>?_)|refine Ln.mk hlen ?_|refine Bn ?_|refine Fm rfl ?_)|refine Bt ?_|refine Bu ?_|refine cY.mk rfl ?_ ?_)
   ·have he:i=x.length:=by omega
    subst he
    exact congrArg (fun z=>[I z]) (by rw[jZ])
   ·rw[cQ _ hml (by simp;omega)]
    repeat'(first|exact trivial|exact rfl|refine And.intro ?_ ?_)
theorem nw (x:List ah) (k:Int) (hs:bO x) (h0:0≤k) (h1:k+(bx x:Nat)≤1099511627776):bm Tryz.prog 59 false [.mut none (aW .own x),.val none [I k]] [.mut none (aW .own (di x k)),.val none []] .one [I (k+(bx x:Nat))]:=by
 have hl:x.length≤1048576:=hs.1
 have hml:((di x k).map (ah.enc .own)).length=(x.map (ah.enc .own)).length:=by simp[il]
 refine bL (n:=34) (mo:=[]) (tb:=[]) [(0,0),(0,0)] Tryz.func59 (by kernel_rfl) rfl (by kernel_rfl) (by rfl) (by rfl) (.inr ⟨trivial,trivial⟩) fun u p=>?_
 repeat'((conv=>whnf);first|with_reducible (first|refine Lm ?_|refine Wm (by omega) ?_|refine Bn ?_|refine Fm rfl ?_)|refine Bt ?_|refine Bu ?_)
 (conv=>whnf)
 refine Lp.mk (ι:=Nat) (fun i=>[(0,.hold .one [.s (.tag (u 0 0)) (eS ((di x k).map (ah.enc .own)) (x.map (ah.enc .own)) i)]),(1,.hold .one [I (k+(bU x i:Nat))]),(5,.hold .one [I (i:Nat)])]) (fun i=>i≤x.length) (fun i=>x.length - i) 0 ?_ (Nat.zero_le _) fun i hi=>?_
 ·rw[bP,hJ]
  repeat'(first|exact trivial|rfl|exact And.intro rfl (And.intro (congrArg I (by omega)) trivial)|refine And.intro ?_ ?_)
 ·have hlen:=(fE hml i).trans (show(x.map (ah.enc .own)).length=x.length by simp)
  by_cases hlt:i<x.length
  ·obtain⟨y,hy⟩ : ∃ y,x[i]? = some y:=⟨_,List.getElem?_eq_getElem hlt⟩
   have hr:=cT hml i (by simp;omega)
   rw[aa hy]at hr
   have hm:=im x k i y hy
   have hps:=iy x i y hy
   have hpl:=kj x (i+1)
   rw[hps]at hpl
   simp only[ah.cnt]at hps hpl
   repeat'((conv=>whnf);first|with_reducible (first|refine Lm ?_|refine Wm (by omega) ?_|refine dT (by omega) (fun h=>?_)|refine Ln.mk hlen ?_|refine Ix.nat hr ?_|refine Bn ?_|refine Fm rfl ?_)|refine Bt ?_|refine Bu ?_|refine Pu.one rfl rfl hr rfl (Nat.le_of_ble_eq_true rfl) rfl ?_|refine Pu.one rfl rfl (bg hr) rfl (Nat.le_of_ble_eq_true rfl) rfl ?_|refine Pu.one rfl rfl (bg (bg hr)) rfl (Nat.le_of_ble_eq_true rfl) rfl ?_|refine Ix.nat (bg hr) ?_|refine Ix.nat (bg (bg hr)) ?_|refine Nx.mk (i+1) (by omega) (by omega) ?_)
   repeat'(first|exact trivial|rfl|exact And.intro rfl (And.intro (congrArg (C.s _) (by first|exact bv hml (aa hm)|(simp only[List.set_set];exact bv hml (aa hm)))) trivial)|exact And.intro rfl (And.intro (congrArg I (by first|omega|(simp only[ah.cnt]at hps;omega))) trivial)|refine And.intro ?_ ?_)
  ·repeat'((conv=>whnf);first|with_reducible (first|refine Lm ?_|refine Wm (by omega) ?_|refine dF (by omega) (fun h=>?_)|refine Ln.mk hlen ?_|refine Bn ?_|refine Fm rfl ?_)|refine Bt ?_|refine Bu ?_|refine cY.mk rfl ?_ ?_)
   ·have he:i=x.length:=by omega
    subst he
    exact congrArg (fun z=>[I z]) (by rw[js])
   ·rw[cQ _ hml (by simp;omega)]
    repeat'(first|exact trivial|exact rfl|refine And.intro ?_ ?_)
theorem qV (x:List aM) (k:Int) (hs:kM x) (h0:0≤k) (h1:k+(cB x:Nat)≤1099511627776):bm Tryz.prog 60 false [.mut none (dA .own x),.val none [I k]] [.mut none (dA .own (dL x k)),.val none []] .one [I (k+(cB x:Nat))]:=by
 have hl:x.length≤1048576:=hs.1
 have hml:((dL x k).map (aM.enc .own)).length=(x.map (aM.enc .own)).length:=by simp[kh]
 refine bL (n:=41) (mo:=[]) (tb:=[]) [(0,0),(0,0)] Tryz.func60 (by kernel_rfl) rfl (by kernel_rfl) (by rfl) (by rfl) (.inr ⟨trivial,trivial⟩) fun u p=>?_
 repeat'((conv=>whnf);first|with_reducible (first|refine Lm ?_|refine Wm (by omega) ?_|refine Bn ?_|refine Fm rfl ?_)|refine Bt ?_|refine Bu ?_)
 (conv=>whnf)
 refine Lp.mk (ι:=Nat) (fun i=>[(0,.hold .one [.s (.tag (u 0 0)) (eS ((dL x k).map (aM.enc .own)) (x.map (aM.enc .own)) i)]),(1,.hold .one [I (k+(dx x i:Nat))]),(5,.hold .one [I (i:Nat)])]) (fun i=>i≤x.length) (fun i=>x.length - i) 0 ?_ (Nat.zero_le _) fun i hi=>?_
 ·rw[bP,ku]
  repeat'(first|exact trivial|rfl|exact And.intro rfl (And.intro (congrArg I (by omega)) trivial)|refine And.intro ?_ ?_)
 ·have hlen:=(fE hml i).trans (show(x.map (aM.enc .own)).length=x.length by simp)
  by_cases hlt:i<x.length
  ·obtain⟨y,hy⟩ : ∃ y,x[i]? = some y:=⟨_,List.getElem?_eq_getElem hlt⟩
   have hr:=cT hml i (by simp;omega)
   rw[aa hy]at hr
   have hm:=kf x k i y hy
   have hps:=jY x i y hy
   have hpl:=mP x (i+1)
   rw[hps]at hpl
   simp only[aM.cnt]at hps hpl
   repeat'((conv=>whnf);first|with_reducible (first|refine Lm ?_|refine Wm (by omega) ?_|refine dT (by omega) (fun h=>?_)|refine Ln.mk hlen ?_|refine Ix.nat hr ?_|refine Bn ?_|refine Fm rfl ?_)|refine Bt ?_|refine Bu ?_|refine Pu.one rfl rfl hr rfl (Nat.le_of_ble_eq_true rfl) rfl ?_|refine Pu.one rfl rfl (bg hr) rfl (Nat.le_of_ble_eq_true rfl) rfl ?_|refine Pu.one rfl rfl (bg (bg hr)) rfl (Nat.le_of_ble_eq_true rfl) rfl ?_|refine Pu.one rfl rfl (bg (bg (bg hr))) rfl (Nat.le_of_ble_eq_true rfl) rfl ?_|refine Ix.nat (bg hr) ?_|refine Ix.nat (bg (bg hr)) ?_|refine Ix.nat (bg (bg (bg hr))) ?_|refine Nx.mk (i+1) (by omega) (by omega) ?_)
   repeat'(first|exact trivial|rfl|exact And.intro rfl (And.intro (congrArg (C.s _) (by first|exact bv hml (aa hm)|(simp only[List.set_set];exact bv hml (aa hm)))) trivial)|exact And.intro rfl (And.intro (congrArg I (by first|omega|(simp only[aM.cnt]at hps;omega))) trivial)|refine And.intro ?_ ?_)
  ·repeat'((conv=>whnf);first|with_reducible (first|refine Lm ?_|refine Wm (by omega) ?_|refine dF (by omega) (fun h=>?_)|refine Ln.mk hlen ?_|refine Bn ?_|refine Fm rfl ?_)|refine Bt ?_|refine Bu ?_|refine cY.mk rfl ?_ ?_)
   ·have he:i=x.length:=by omega
    subst he
    exact congrArg (fun z=>[I z]) (by rw[lB])
   ·rw[cQ _ hml (by simp;omega)]
    repeat'(first|exact trivial|exact rfl|refine And.intro ?_ ?_)
theorem n7 (x:List ar) (k:Int) (hs:gF x) (h0:0≤k) (h1:k+(bK x:Nat)≤1099511627776):bm Tryz.prog 61 false [.mut none (cP .own x),.val none [I k]] [.mut none (cP .own (db x k)),.val none []] .one [I (k+(bK x:Nat))]:=by
 have hl:x.length≤1048576:=hs.1
 have hml:((db x k).map (ar.enc .own)).length=(x.map (ar.enc .own)).length:=by simp[hM]
 refine bL (n:=20) (mo:=[(155,[1,0])]) (tb:=[]) [(0,0),(0,0)] Tryz.func61 (by kernel_rfl) rfl (by kernel_rfl) (by rfl) (by rfl) (.inr ⟨trivial,trivial⟩) fun u p=>?_
 repeat'((conv=>whnf);first|with_reducible (first|refine Lm ?_|refine Wm (by omega) ?_|refine Bn ?_|refine Fm rfl ?_)|refine Bt ?_|refine Bu ?_)
 (conv=>whnf)
 refine Lp.mk (ι:=Nat) (fun i=>[(0,.hold .one [.s (.tag (u 0 0)) (eS ((db x k).map (ar.enc .own)) (x.map (ar.enc .own)) i)]),(1,.hold .one [I (k+(ca x i:Nat))]),(5,.hold .one [I (i:Nat)])]) (fun i=>i≤x.length) (fun i=>x.length - i) 0 ?_ (Nat.zero_le _) fun i hi=>?_
 ·rw[bP,iq]
  repeat'(first|exact trivial|rfl|exact And.intro rfl (And.intro (congrArg I (by omega)) trivial)|refine And.intro ?_ ?_)
 ·have hlen:=(fE hml i).trans (show(x.map (ar.enc .own)).length=x.length by simp)
  by_cases hlt:i<x.length
  ·obtain⟨y,hy⟩ : ∃ y,x[i]? = some y:=⟨_,List.getElem?_eq_getElem hlt⟩
   have hr:=cT hml i (by simp;omega)
   rw[aa hy]at hr
   have hm:=ib x k i y hy
   have hps:=ig x i y hy
   have hpl:=kq x (i+1)
   rw[hps]at hpl
   repeat'((conv=>whnf);first|with_reducible (first|refine Lm ?_|refine Wm (by omega) ?_|refine dT (by omega) (fun h=>?_)|refine Ln.mk hlen ?_|refine Ix.nat hr ?_|refine Bn ?_|refine Fm rfl ?_)|refine Bt ?_|refine Bu ?_|refine Rw.one rfl hr rfl ?_|refine Lq.one rfl rfl hr rfl (Nat.le_refl _) rfl rfl ?_|refine dZ.mk (lN y.Lists _ (hs.2 y (List.mem_of_getElem? hy)) (by omega) (by simp only[ar.cnt]at hpl;omega)) (.inl rfl) ?_|refine Pu.one rfl rfl (bg hr) rfl (Nat.le_refl _) rfl ?_|refine Ix.nat (bg hr) ?_|refine Nx.mk (i+1) (by omega) (by omega) ?_)
   repeat'(first|exact trivial|rfl|exact And.intro rfl (And.intro (congrArg (C.s _) (by first|exact bv hml (aa hm)|(simp only[List.set_set];exact bv hml (aa hm)))) trivial)|exact And.intro rfl (And.intro (congrArg I (by first|omega|(simp only[ar.cnt]at hps;omega))) trivial)|refine And.intro ?_ ?_)
  ·repeat'((conv=>whnf);first|with_reducible (first|refine Lm ?_|refine Wm (by omega) ?_|refine dF (by omega) (fun h=>?_)|refine Ln.mk hlen ?_|refine Bn ?_|refine Fm rfl ?_)|refine Bt ?_|refine Bu ?_|refine cY.mk rfl ?_ ?_)
   ·have he:i=x.length:=by omega
    subst he
    exact congrArg (fun z=>[I z]) (by rw[jA])
   ·rw[cQ _ hml (by simp;omega)]
    repeat'(first|exact trivial|exact rfl|refine And.intro ?_ ?_)
theorem xf (x:List aJ) (k:Int) (hs:jf x) (h0:0≤k) (h1:k+(cZ x:Nat)≤1099511627776):bm Tryz.prog 257 false [.mut none (br .own x),.val none [I k]] [.mut none (br .own (dq x k)),.val none []] .one [I (k+(cZ x:Nat))]:=by
 have hl:x.length≤1048576:=hs.1
 have hml:((dq x k).map (aJ.enc .own)).length=(x.map (aJ.enc .own)).length:=by simp[ju]
 refine bL (n:=27) (mo:=[]) (tb:=[]) [(0,0),(0,0)] Tryz.func257 (by kernel_rfl) rfl (by kernel_rfl) (by rfl) (by rfl) (.inr ⟨trivial,trivial⟩) fun u p=>?_
 repeat'((conv=>whnf);first|with_reducible (first|refine Lm ?_|refine Wm (by omega) ?_|refine Bn ?_|refine Fm rfl ?_)|refine Bt ?_|refine Bu ?_)
 (conv=>whnf)
 refine Lp.mk (ι:=Nat) (fun i=>[(0,.hold .one [.s (.tag (u 0 0)) (eS ((dq x k).map (aJ.enc .own)) (x.map (aJ.enc .own)) i)]),(1,.hold .one [I (k+(cO x i:Nat))]),(5,.hold .one [I (i:Nat)])]) (fun i=>i≤x.length) (fun i=>x.length - i) 0 ?_ (Nat.zero_le _) fun i hi=>?_
 ·rw[bP,jm]
  repeat'(first|exact trivial|rfl|exact And.intro rfl (And.intro (congrArg I (by omega)) trivial)|refine And.intro ?_ ?_)
 ·have hlen:=(fE hml i).trans (show(x.map (aJ.enc .own)).length=x.length by simp)
  by_cases hlt:i<x.length
  ·obtain⟨y,hy⟩ : ∃ y,x[i]? = some y:=⟨_,List.getElem?_eq_getElem hlt⟩
   have hr:=cT hml i (by simp;omega)
   rw[aa hy]at hr
   have hm:=jr x k i y hy
   have hps:=jt x i y hy
   have hpl:=lG x (i+1)
   rw[hps]at hpl
   simp only[aJ.cnt]at hps hpl
   repeat'((conv=>whnf);first|with_reducible (first|refine Lm ?_|refine Wm (by omega) ?_|refine dT (by omega) (fun h=>?_)|refine Ln.mk hlen ?_|refine Ix.nat hr ?_|refine Bn ?_|refine Fm rfl ?_)|refine Bt ?_|refine Bu ?_|refine Pu.one rfl rfl hr rfl (Nat.le_of_ble_eq_true rfl) rfl ?_|refine Pu.one rfl rfl (bg hr) rfl (Nat.le_of_ble_eq_true rfl) rfl ?_|refine Ix.nat (bg hr) ?_|refine Nx.mk (i+1) (by omega) (by omega) ?_)
   repeat'(first|exact trivial|rfl|exact And.intro rfl (And.intro (congrArg (C.s _) (by first|exact bv hml (aa hm)|(simp only[List.set_set];exact bv hml (aa hm)))) trivial)|exact And.intro rfl (And.intro (congrArg I (by first|omega|(simp only[aJ.cnt]at hps;omega))) trivial)|refine And.intro ?_ ?_)
  ·repeat'((conv=>whnf);first|with_reducible (first|refine Lm ?_|refine Wm (by omega) ?_|refine dF (by omega) (fun h=>?_)|refine Ln.mk hlen ?_|refine Bn ?_|refine Fm rfl ?_)|refine Bt ?_|refine Bu ?_|refine cY.mk rfl ?_ ?_)
   ·have he:i=x.length:=by omega
    subst he
    exact congrArg (fun z=>[I z]) (by rw[ky])
   ·rw[cQ _ hml (by simp;omega)]
    repeat'(first|exact trivial|exact rfl|refine And.intro ?_ ?_)
theorem tX (x:List (List aJ)) (k:Int) (hs:g0 x) (h0:0≤k) (h1:k+(cH x:Nat)≤1099511627776):bm Tryz.prog 156 false [.mut none (dm .own x),.val none [I k]] [.mut none (dm .own (dd x k)),.val none []] .one [I (k+(cH x:Nat))]:=by
 have hl:x.length≤1048576:=hs.1
 have hml:((dd x k).map (br .own)).length=(x.map (br .own)).length:=by simp[i7]
 refine bL (n:=19) (mo:=[(257,[1,0])]) (tb:=[]) [(0,0),(0,0)] Tryz.func156 (by kernel_rfl) rfl (by kernel_rfl) (by rfl) (by rfl) (.inr ⟨trivial,trivial⟩) fun u p=>?_
 repeat'((conv=>whnf);first|with_reducible (first|refine Lm ?_|refine Wm (by omega) ?_|refine Bn ?_|refine Fm rfl ?_)|refine Bt ?_|refine Bu ?_)
 (conv=>whnf)
 refine Lp.mk (ι:=Nat) (fun i=>[(0,.hold .one [.s (.tag (u 0 0)) (eS ((dd x k).map (br .own)) (x.map (br .own)) i)]),(1,.hold .one [I (k+(bY x i:Nat))]),(5,.hold .one [I (i:Nat)])]) (fun i=>i≤x.length) (fun i=>x.length - i) 0 ?_ (Nat.zero_le _) fun i hi=>?_
 ·rw[bP,hP]
  repeat'(first|exact trivial|rfl|exact And.intro rfl (And.intro (congrArg I (by omega)) trivial)|refine And.intro ?_ ?_)
 ·have hlen:=(fE hml i).trans (show(x.map (br .own)).length=x.length by simp)
  by_cases hlt:i<x.length
  ·obtain⟨y,hy⟩ : ∃ y,x[i]? = some y:=⟨_,List.getElem?_eq_getElem hlt⟩
   have hr:=cT hml i (by simp;omega)
   rw[aa hy]at hr
   have hm:=ik x k i y hy
   have hps:=ip x i y hy
   have hpl:=k4 x (i+1)
   rw[hps]at hpl
   repeat'((conv=>whnf);first|with_reducible (first|refine Lm ?_|refine Wm (by omega) ?_|refine dT (by omega) (fun h=>?_)|refine Ln.mk hlen ?_|refine Ix.nat hr ?_|refine Bn ?_|refine Fm rfl ?_)|refine Bt ?_|refine Bu ?_|refine Rw.one rfl hr rfl ?_|refine Lq.one rfl rfl hr rfl (Nat.le_refl _) rfl rfl ?_|refine dZ.mk (xf y _ (hs.2 y (List.mem_of_getElem? hy)) (by omega) (by omega)) (.inl rfl) ?_|refine Pu.one rfl rfl (bg hr) rfl (Nat.le_refl _) rfl ?_|refine Ix.nat (bg hr) ?_|refine Nx.mk (i+1) (by omega) (by omega) ?_)
   repeat'(first|exact trivial|rfl|exact And.intro rfl (And.intro (congrArg (C.s _) (by first|exact bv hml (aa hm)|(simp only[List.set_set];exact bv hml (aa hm)))) trivial)|exact And.intro rfl (And.intro (congrArg I (by omega)) trivial)|refine And.intro ?_ ?_)
  ·repeat'((conv=>whnf);first|with_reducible (first|refine Lm ?_|refine Wm (by omega) ?_|refine dF (by omega) (fun h=>?_)|refine Ln.mk hlen ?_|refine Bn ?_|refine Fm rfl ?_)|refine Bt ?_|refine Bu ?_|refine cY.mk rfl ?_ ?_)
   ·have he:i=x.length:=by omega
    subst he
    exact congrArg (fun z=>[I z]) (by rw[jv])
   ·rw[cQ _ hml (by simp;omega)]
    repeat'(first|exact trivial|exact rfl|refine And.intro ?_ ?_)
theorem qS (x:aG) (k:Int) (hs:aG.sml x) (h0:0≤k) (h1:k+(aG.cnt x:Nat)≤1099511627776):bm Tryz.prog 62 false [.mut (some 2) (aG.enc .own x),.val none [I k]] [.mut (some 2) (aG.enc .own (x.mark k)),.val none []] .one [I (k+(aG.cnt x:Nat))]:=by
 obtain⟨s0,s1⟩:=hs
 unfold aG.cnt at h1
 refine bL (n:=14) (mo:=[(156,[1,0]),(155,[1,0])]) (tb:=[]) [(2,0),(0,0)] Tryz.func62 (by kernel_rfl) rfl (by kernel_rfl) (by rfl) (by rfl) (.inr ⟨trivial,trivial⟩) fun u p=>?_
 repeat'((conv=>whnf);first|with_reducible (first|refine Lm ?_|refine Wm (by omega) ?_|refine Bn ?_|refine Fm rfl ?_)|refine Bt ?_|refine Bu ?_|refine dZ.mk (tX x.Buffers _ s0 (by omega) (by omega)) (.inl rfl) ?_|refine dZ.mk (lN x.Inbox _ s1 (by omega) (by omega)) (.inl rfl) ?_|refine cY.mk rfl ?_ ?_)
 ·exact congrArg (fun z=>[I z]) (by unfold aG.cnt;omega)
 ·repeat'(first|exact trivial|exact rfl|refine And.intro ?_ ?_)
theorem ux (x:List ax) (k:Int) (hs:dN x) (h0:0≤k) (h1:k+(cG x:Nat)≤1099511627776):bm Tryz.prog 157 false [.mut none (bh .own x),.val none [I k]] [.mut none (bh .own (de x k)),.val none []] .one [I (k+(cG x:Nat))]:=by
 have hl:x.length≤1048576:=hs.1
 have hml:((de x k).map (ax.enc .own)).length=(x.map (ax.enc .own)).length:=by simp[ix]
 refine bL (n:=34) (mo:=[]) (tb:=[]) [(0,0),(0,0)] Tryz.func157 (by kernel_rfl) rfl (by kernel_rfl) (by rfl) (by rfl) (.inr ⟨trivial,trivial⟩) fun u p=>?_
 repeat'((conv=>whnf);first|with_reducible (first|refine Lm ?_|refine Wm (by omega) ?_|refine Bn ?_|refine Fm rfl ?_)|refine Bt ?_|refine Bu ?_)
 (conv=>whnf)
 refine Lp.mk (ι:=Nat) (fun i=>[(0,.hold .one [.s (.tag (u 0 0)) (eS ((de x k).map (ax.enc .own)) (x.map (ax.enc .own)) i)]),(1,.hold .one [I (k+(bV x i:Nat))]),(5,.hold .one [I (i:Nat)])]) (fun i=>i≤x.length) (fun i=>x.length - i) 0 ?_ (Nat.zero_le _) fun i hi=>?_
 ·rw[bP,i6]
  repeat'(first|exact trivial|rfl|exact And.intro rfl (And.intro (congrArg I (by omega)) trivial)|refine And.intro ?_ ?_)
 ·have hlen:=(fE hml i).trans (show(x.map (ax.enc .own)).length=x.length by simp)
  by_cases hlt:i<x.length
  ·obtain⟨y,hy⟩ : ∃ y,x[i]? = some y:=⟨_,List.getElem?_eq_getElem hlt⟩
   have hr:=cT hml i (by simp;omega)
   rw[aa hy]at hr
   have hm:=ic x k i y hy
   have hps:=iv x i y hy
   have hpl:=kc x (i+1)
   rw[hps]at hpl
   simp only[ax.cnt]at hps hpl
   repeat'((conv=>whnf);first|with_reducible (first|refine Lm ?_|refine Wm (by omega) ?_|refine dT (by omega) (fun h=>?_)|refine Ln.mk hlen ?_|refine Ix.nat hr ?_|refine Bn ?_|refine Fm rfl ?_)|refine Bt ?_|refine Bu ?_|refine Pu.one rfl rfl hr rfl (Nat.le_of_ble_eq_true rfl) rfl ?_|refine Pu.one rfl rfl (bg hr) rfl (Nat.le_of_ble_eq_true rfl) rfl ?_|refine Pu.one rfl rfl (bg (bg hr)) rfl (Nat.le_of_ble_eq_true rfl) rfl ?_|refine Ix.nat (bg hr) ?_|refine Ix.nat (bg (bg hr)) ?_|refine Nx.mk (i+1) (by omega) (by omega) ?_)
   repeat'(first|exact trivial|rfl|exact And.intro rfl (And.intro (congrArg (C.s _) (by first|exact bv hml (aa hm)|(simp only[List.set_set];exact bv hml (aa hm)))) trivial)|exact And.intro rfl (And.intro (congrArg I (by first|omega|(simp only[ax.cnt]at hps;omega))) trivial)|refine And.intro ?_ ?_)
  ·repeat'((conv=>whnf);first|with_reducible (first|refine Lm ?_|refine Wm (by omega) ?_|refine dF (by omega) (fun h=>?_)|refine Ln.mk hlen ?_|refine Bn ?_|refine Fm rfl ?_)|refine Bt ?_|refine Bu ?_|refine cY.mk rfl ?_ ?_)
   ·have he:i=x.length:=by omega
    subst he
    exact congrArg (fun z=>[I z]) (by rw[j8])
   ·rw[cQ _ hml (by simp;omega)]
    repeat'(first|exact trivial|exact rfl|refine And.intro ?_ ?_)
theorem qJ (x:aK) (k:Int) (hs:aK.sml x) (h0:0≤k) (h1:k+(aK.cnt x:Nat)≤1099511627776):bm Tryz.prog 63 false [.mut (some 2) (aK.enc .own x),.val none [I k]] [.mut (some 2) (aK.enc .own (x.mark k)),.val none []] .one [I (k+(aK.cnt x:Nat))]:=by
 have s0:=hs
 unfold aK.cnt at h1
 refine bL (n:=10) (mo:=[(157,[1,0])]) (tb:=[]) [(2,0),(0,0)] Tryz.func63 (by kernel_rfl) rfl (by kernel_rfl) (by rfl) (by rfl) (.inr ⟨trivial,trivial⟩) fun u p=>?_
 repeat'((conv=>whnf);first|with_reducible (first|refine Lm ?_|refine Wm (by omega) ?_|refine Bn ?_|refine Fm rfl ?_)|refine Bt ?_|refine Bu ?_|refine dZ.mk (ux x.Lst _ s0 (by omega) (by omega)) (.inl rfl) ?_|refine cY.mk rfl ?_ ?_)
 ·exact congrArg (fun z=>[I z]) (by unfold aK.cnt;omega)
 ·repeat'(first|exact trivial|exact rfl|refine And.intro ?_ ?_)
theorem y3 (x:aV) (k:Int) (hs:aV.sml x) (h0:0≤k) (h1:k+(aV.cnt x:Nat)≤1099511627776):bm Tryz.prog 158 false [.mut (some 3) (aV.enc .own x),.val none [I k]] [.mut (some 3) (aV.enc .own (x.mark k)),.val none []] .one [I (k+(aV.cnt x:Nat))]:=by
 have s0:=hs
 unfold aV.cnt at h1
 refine bL (n:=10) (mo:=[(154,[1,0])]) (tb:=[]) [(2,0),(0,0)] Tryz.func158 (by kernel_rfl) rfl (by kernel_rfl) (by rfl) (by rfl) (.inr ⟨trivial,trivial⟩) fun u p=>?_
 repeat'((conv=>whnf);first|with_reducible (first|refine Lm ?_|refine Wm (by omega) ?_|refine Bn ?_|refine Fm rfl ?_)|refine Bt ?_|refine Bu ?_|refine dZ.mk (mK x.Cells _ s0 (by omega) (by omega)) (.inl rfl) ?_|refine cY.mk rfl ?_ ?_)
 ·exact congrArg (fun z=>[I z]) (by unfold aV.cnt;omega)
 ·repeat'(first|exact trivial|exact rfl|refine And.intro ?_ ?_)
theorem sN (x:bq) (k:Int) (hs:bq.sml x) (h0:0≤k) (h1:k+(bq.cnt x:Nat)≤1099511627776):bm Tryz.prog 64 false [.mut (some 5) (bq.enc .own x),.val none [I k]] [.mut (some 5) (bq.enc .own (x.mark k)),.val none []] .one [I (k+(bq.cnt x:Nat))]:=by
 have s0:=hs
 unfold bq.cnt at h1
 refine bL (n:=10) (mo:=[(158,[1,0])]) (tb:=[]) [(2,0),(0,0)] Tryz.func64 (by kernel_rfl) rfl (by kernel_rfl) (by rfl) (by rfl) (.inr ⟨trivial,trivial⟩) fun u p=>?_
 repeat'((conv=>whnf);first|with_reducible (first|refine Lm ?_|refine Wm (by omega) ?_|refine Bn ?_|refine Fm rfl ?_)|refine Bt ?_|refine Bu ?_|refine dZ.mk (y3 x.Plan _ s0 (by omega) (by omega)) (.inl rfl) ?_|refine cY.mk rfl ?_ ?_)
 ·exact congrArg (fun z=>[I z]) (by unfold bq.cnt;omega)
 ·repeat'(first|exact trivial|exact rfl|refine And.intro ?_ ?_)
theorem zM (x:ac) (k:Int) (hs:ac.sml x) (h0:0≤k) (h1:k+(ac.cnt x:Nat)≤1099511627776):bm Tryz.prog 11 false [.mut (some 24) (ac.enc .own x),.val none [I k]] [.mut (some 24) (ac.enc .own (x.mark k)),.val none []] .one [I (k+(ac.cnt x:Nat))]:=by
 obtain⟨s0,s1,s2,s3,s4,s5,s6,s7,s8⟩:=hs
 unfold ac.cnt at h1
 refine bL (n:=42) (mo:=[(64,[1,0]),(56,[1,0]),(62,[1,0]),(63,[1,0]),(61,[1,0]),(59,[1,0]),(60,[1,0]),(57,[1,0]),(58,[1,0])]) (tb:=[]) [(2,0),(0,0)] Tryz.func11 (by kernel_rfl) rfl (by kernel_rfl) (by rfl) (by rfl) (.inr ⟨trivial,trivial⟩) fun u p=>?_
 repeat'((conv=>whnf);first|with_reducible (first|refine Lm ?_|refine Wm (by omega) ?_|refine Bn ?_|refine Fm rfl ?_)|refine Bt ?_|refine Bu ?_|refine dZ.mk (nt x.Kernel _ s0 (by omega) (by omega)) (.inl rfl) ?_|refine dZ.mk (nO x.Free _ s1 (by omega) (by omega)) (.inl rfl) ?_|refine dZ.mk (p9 x.Spans _ s2 (by omega) (by omega)) (.inl rfl) ?_|refine dZ.mk (nw x.Larges _ s3 (by omega) (by omega)) (.inl rfl) ?_|refine dZ.mk (qV x.Objs _ s4 (by omega) (by omega)) (.inl rfl) ?_|refine dZ.mk (n7 x.Caches _ s5 (by omega) (by omega)) (.inl rfl) ?_|refine dZ.mk (qS x.Mail _ s6 (by omega) (by omega)) (.inl rfl) ?_|refine dZ.mk (qJ x.Quar _ s7 (by omega) (by omega)) (.inl rfl) ?_|refine dZ.mk (sN x.Job _ s8 (by omega) (by omega)) (.inl rfl) ?_|refine cY.mk rfl ?_ ?_)
 ·exact congrArg (fun z=>[I z]) (by unfold ac.cnt;omega)
 ·repeat'(first|exact trivial|exact rfl|refine And.intro ?_ ?_)
end Go.Proofs.YtogajjgmcnjkbaaGreat.Ab
namespace Go.Proofs.YtogajjgmcnjkbaaGreat.Ab
open Go.RowKit
set_option maxRecDepth 20000
set_option maxHeartbeats 2000000
theorem m4 (x:List Int) (k:Int) (hs:iT x) (h0:0≤k) (h1:k+(d9 x:Nat)≤1099511627776):af Tryz.prog 160 false [.val none (aI .imm (markIntS x k)),.val none [I k]] .one [I (k+(d9 x:Nat))]:=by
 have hl:x.length≤1048576:=hs
 have hln:=lE x k
 unfold d9 at h1
 refine fO (n:=21) [] Tryz.func160 (by kernel_rfl) rfl (by kernel_rfl) (by rfl) (.inr ⟨trivial,trivial⟩) ?_
 repeat'((conv=>whnf);first|with_reducible (first|refine Lm ?_|refine Wm (by omega) ?_|refine Bn ?_|refine Fm rfl ?_)|refine Bt ?_|refine Bu ?_)
 (conv=>whnf)
 refine Lp.mk (ι:=Nat) (fun i=>[(0,.hold .one (aI .imm (markIntS x k))),(1,.hold .one [I (k+(gJ x i:Nat))]),(5,.hold .one [I (i:Nat)])]) (fun i=>i≤x.length) (fun i=>x.length - i) 0 ?_ (Nat.zero_le _) fun i hi=>?_
 ·repeat'(first|exact trivial|rfl|exact And.intro rfl (And.intro (congrArg I (by unfold gJ;omega)) trivial)|refine And.intro ?_ ?_)
 ·by_cases hlt:i<x.length
  ·obtain⟨y,hy⟩ : ∃ y,x[i]? = some y:=⟨_,List.getElem?_eq_getElem hlt⟩
   have hm:=ly x k i hlt
   unfold gJ
   repeat'((conv=>whnf);first|with_reducible (first|refine Lm ?_|refine Wm (by omega) ?_|refine dT (by omega) (fun h=>?_)|refine Ix.nat (aa hm) ?_|refine dF (by omega) (fun h=>?_)|refine nF (by omega) (fun h=>?_)|refine Bn ?_|refine Fm rfl ?_)|refine Bt ?_|refine Bu ?_|refine Nx.mk (i+1) (by omega) (by omega) ?_)
   repeat'(first|exact trivial|rfl|exact And.intro rfl (And.intro (congrArg I (by first|omega|(unfold gJ;omega))) trivial)|refine And.intro ?_ ?_)
  ·repeat'((conv=>whnf);first|with_reducible (first|refine Lm ?_|refine Wm (by omega) ?_|refine dF (by omega) (fun h=>?_)|refine nF (by omega) (fun h=>?_)|refine Bn ?_|refine Fm rfl ?_)|refine Bt ?_|refine Bu ?_)
   have he:i=x.length:=by omega
   subst he
   exact congrArg (fun z=>[I z]) (by unfold gJ d9;rfl)
theorem lD (x:List (List Int)) (k:Int) (hs:gQ x) (h0:0≤k) (h1:k+(cW x:Nat)≤1099511627776):af Tryz.prog 161 false [.val none (d5 .imm (markIntSS x k)),.val none [I k]] .one [I (k+(cW x:Nat))]:=by
 have hl:x.length≤1048576:=hs.1
 have hln:=kx x k
 refine fO (n:=21) [] Tryz.func161 (by kernel_rfl) rfl (by kernel_rfl) (by rfl) (.inr ⟨trivial,trivial⟩) ?_
 repeat'((conv=>whnf);first|with_reducible (first|refine Lm ?_|refine Wm (by omega) ?_|refine Bn ?_|refine Fm rfl ?_)|refine Bt ?_|refine Bu ?_)
 (conv=>whnf)
 refine Lp.mk (ι:=Nat) (fun i=>[(0,.hold .one (d5 .imm (markIntSS x k))),(1,.hold .one [I (k+(dw x i:Nat))]),(5,.hold .one [I (i:Nat)])]) (fun i=>i≤x.length) (fun i=>x.length - i) 0 ?_ (Nat.zero_le _) fun i hi=>?_
 ·rw[kv]
  repeat'(first|exact trivial|rfl|exact And.intro rfl (And.intro (congrArg I (by omega)) trivial)|refine And.intro ?_ ?_)
 ·by_cases hlt:i<x.length
  ·obtain⟨y,hy⟩ : ∃ y,x[i]? = some y:=⟨_,List.getElem?_eq_getElem hlt⟩
   have hm:=kw x k i y hy
   have hps:=jX x i y hy
   have hpl:=m9 x (i+1)
   rw[hps]at hpl
   repeat'((conv=>whnf);first|with_reducible (first|refine Lm ?_|refine Wm (by omega) ?_|refine dT (by omega) (fun h=>?_)|refine Ix.nat (aa hm) ?_|refine dF (by omega) (fun h=>?_)|refine nF (by omega) (fun h=>?_)|refine Bn ?_|refine Fm rfl ?_)|refine Bt ?_|refine Bu ?_|refine Cl.mk (m4 y _ (hs.2 y (List.mem_of_getElem? hy)) (by omega) (by omega)) ?_|refine Nx.mk (i+1) (by omega) (by omega) ?_)
   repeat'(first|exact trivial|rfl|exact And.intro rfl (And.intro (congrArg I (by omega)) trivial)|refine And.intro ?_ ?_)
  ·repeat'((conv=>whnf);first|with_reducible (first|refine Lm ?_|refine Wm (by omega) ?_|refine dF (by omega) (fun h=>?_)|refine nF (by omega) (fun h=>?_)|refine Bn ?_|refine Fm rfl ?_)|refine Bt ?_|refine Bu ?_)
   have he:i=x.length:=by omega
   subst he
   exact congrArg (fun z=>[I z]) (by rw[lw])
theorem vT (x:List Bool) (k:Int) (hs:kO x) (h0:0≤k) (h1:k+(eB x:Nat)≤1099511627776):af Tryz.prog 328 false [.val none (fR .imm (markBoolS x k)),.val none [I k]] .one [I (k+(eB x:Nat))]:=by
 have hl:x.length≤1048576:=hs
 have hln:=ki x k
 unfold eB at h1
 refine fO (n:=23) [] Tryz.func328 (by kernel_rfl) rfl (by kernel_rfl) (by rfl) (.inr ⟨trivial,trivial⟩) ?_
 repeat'((conv=>whnf);first|with_reducible (first|refine Lm ?_|refine Wm (by omega) ?_|refine Bn ?_|refine Fm rfl ?_)|refine Bt ?_|refine Bu ?_)
 (conv=>whnf)
 refine Lp.mk (ι:=Nat) (fun i=>[(0,.hold .one (fR .imm (markBoolS x k))),(1,.hold .one [I (k+(fx x i:Nat))]),(5,.hold .one [I (i:Nat)])]) (fun i=>i≤x.length) (fun i=>x.length - i) 0 ?_ (Nat.zero_le _) fun i hi=>?_
 ·repeat'(first|exact trivial|rfl|exact And.intro rfl (And.intro (congrArg I (by unfold fx;omega)) trivial)|refine And.intro ?_ ?_)
 ·by_cases hlt:i<x.length
  ·obtain⟨y,hy⟩ : ∃ y,x[i]? = some y:=⟨_,List.getElem?_eq_getElem hlt⟩
   have hm:=ka x k i hlt
   unfold fx
   repeat'((conv=>whnf);first|with_reducible (first|refine Lm ?_|refine Wm (by omega) ?_|refine dT (by omega) (fun h=>?_)|refine Ix.nat (aa hm) ?_|refine dF (by omega) (fun h=>?_)|refine nF (by omega) (fun h=>?_)|refine Bn ?_|refine Fm rfl ?_)|refine Bt ?_|refine Bu ?_|refine Cd.mk (by decide) ?_|refine Ev.mk rfl ?_|refine Bf.f (by rw[bne_eq_false_iff_eq,Bool.eq_iff_iff];simp) ?_|refine Nx.mk (i+1) (by omega) (by omega) ?_)
   repeat'(first|exact trivial|rfl|exact And.intro rfl (And.intro (congrArg I (by first|omega|(unfold fx;omega))) trivial)|refine And.intro ?_ ?_)
  ·repeat'((conv=>whnf);first|with_reducible (first|refine Lm ?_|refine Wm (by omega) ?_|refine dF (by omega) (fun h=>?_)|refine nF (by omega) (fun h=>?_)|refine Bn ?_|refine Fm rfl ?_)|refine Bt ?_|refine Bu ?_)
   have he:i=x.length:=by omega
   subst he
   exact congrArg (fun z=>[I z]) (by unfold fx eB;rfl)
theorem uA (x:aC) (k:Int) (hs:aC.sml x) (h0:0≤k) (h1:k+(aC.cnt x:Nat)≤1099511627776):af Tryz.prog 258 false [.val (some 2) (aC.enc .imm (x.mark k)),.val none [I k]] .one [I (k+(aC.cnt x:Nat))]:=by
 obtain⟨s0,s1⟩:=hs
 unfold aC.cnt at h1
 refine fO (n:=18) [] Tryz.func258 (by kernel_rfl) rfl (by kernel_rfl) (by rfl) (.inr ⟨trivial,trivial⟩) ?_
 repeat'((conv=>whnf);first|with_reducible (first|refine Lm ?_|refine Wm (by omega) ?_|refine dF (by omega) (fun h=>?_)|refine nF (by omega) (fun h=>?_)|refine Bn ?_|refine Fm rfl ?_)|refine Bt ?_|refine Bu ?_|refine Cl.mk (lD x.Cells _ s0 (by omega) (by omega)) ?_|refine Cl.mk (vT x.Used _ s1 (by omega) (by omega)) ?_)
 exact congrArg (fun z=>[I z]) (by unfold aC.cnt;omega)
theorem ur (x:List aE) (k:Int) (hs:gD x) (h0:0≤k) (h1:k+(cJ x:Nat)≤1099511627776):af Tryz.prog 329 false [.val none (d6 .imm (df x k)),.val none [I k]] .one [I (k+(cJ x:Nat))]:=by
 have hl:x.length≤1048576:=hs.1
 have hln:=ia x k
 refine fO (n:=31) [] Tryz.func329 (by kernel_rfl) rfl (by kernel_rfl) (by rfl) (.inr ⟨trivial,trivial⟩) ?_
 repeat'((conv=>whnf);first|with_reducible (first|refine Lm ?_|refine Wm (by omega) ?_|refine Bn ?_|refine Fm rfl ?_)|refine Bt ?_|refine Bu ?_)
 (conv=>whnf)
 refine Lp.mk (ι:=Nat) (fun i=>[(0,.hold .one (d6 .imm (df x k))),(1,.hold .one [I (k+(bT x i:Nat))]),(5,.hold .one [I (i:Nat)])]) (fun i=>i≤x.length) (fun i=>x.length - i) 0 ?_ (Nat.zero_le _) fun i hi=>?_
 ·rw[iz]
  repeat'(first|exact trivial|rfl|exact And.intro rfl (And.intro (congrArg I (by omega)) trivial)|refine And.intro ?_ ?_)
 ·by_cases hlt:i<x.length
  ·obtain⟨y,hy⟩ : ∃ y,x[i]? = some y:=⟨_,List.getElem?_eq_getElem hlt⟩
   have hm:=hC x k i y hy
   have hps:=iC x i y hy
   have hpl:=jW x (i+1)
   rw[hps]at hpl
   simp only[aE.cnt]at hps hpl
   repeat'((conv=>whnf);first|with_reducible (first|refine Lm ?_|refine Wm (by omega) ?_|refine dT (by omega) (fun h=>?_)|refine Ix.nat (aa hm) ?_|refine dF (by omega) (fun h=>?_)|refine nF (by omega) (fun h=>?_)|refine Bn ?_|refine Fm rfl ?_)|refine Bt ?_|refine Bu ?_|refine Bf.N (fun h=>absurd rfl h) (fun h=>?_)|refine Nx.mk (i+1) (by omega) (by omega) ?_)
   repeat'(first|exact trivial|rfl|exact And.intro rfl (And.intro (congrArg I (by first|omega|(simp only[aE.cnt]at hps;omega))) trivial)|refine And.intro ?_ ?_)
  ·repeat'((conv=>whnf);first|with_reducible (first|refine Lm ?_|refine Wm (by omega) ?_|refine dF (by omega) (fun h=>?_)|refine nF (by omega) (fun h=>?_)|refine Bn ?_|refine Fm rfl ?_)|refine Bt ?_|refine Bu ?_)
   have he:i=x.length:=by omega
   subst he
   exact congrArg (fun z=>[I z]) (by rw[jD])
theorem wW (x:aB) (k:Int) (hs:aB.sml x) (h0:0≤k) (h1:k+(aB.cnt x:Nat)≤1099511627776):af Tryz.prog 259 false [.val (some 1) (aB.enc .imm (x.mark k)),.val none [I k]] .one [I (k+(aB.cnt x:Nat))]:=by
 have s0:=hs
 unfold aB.cnt at h1
 refine fO (n:=12) [] Tryz.func259 (by kernel_rfl) rfl (by kernel_rfl) (by rfl) (.inr ⟨trivial,trivial⟩) ?_
 repeat'((conv=>whnf);first|with_reducible (first|refine Lm ?_|refine Wm (by omega) ?_|refine dF (by omega) (fun h=>?_)|refine nF (by omega) (fun h=>?_)|refine Bn ?_|refine Fm rfl ?_)|refine Bt ?_|refine Bu ?_|refine Cl.mk (ur x.Entries _ s0 (by omega) (by omega)) ?_)
 exact congrArg (fun z=>[I z]) (by unfold aB.cnt;omega)
theorem t6 (x:aA) (k:Int) (hs:aA.sml x) (h0:0≤k) (h1:k+(aA.cnt x:Nat)≤1099511627776):af Tryz.prog 159 false [.val (some 3) (aA.enc .imm (x.mark k)),.val none [I k]] .one [I (k+(aA.cnt x:Nat))]:=by
 obtain⟨s0,s1⟩:=hs
 unfold aA.cnt at h1
 refine fO (n:=18) [] Tryz.func159 (by kernel_rfl) rfl (by kernel_rfl) (by rfl) (.inr ⟨trivial,trivial⟩) ?_
 repeat'((conv=>whnf);first|with_reducible (first|refine Lm ?_|refine Wm (by omega) ?_|refine dF (by omega) (fun h=>?_)|refine nF (by omega) (fun h=>?_)|refine Bn ?_|refine Fm rfl ?_)|refine Bt ?_|refine Bu ?_|refine Cl.mk (uA x.Frames _ s0 (by omega) (by omega)) ?_|refine Cl.mk (wW x.Table _ s1 (by omega) (by omega)) ?_)
 exact congrArg (fun z=>[I z]) (by unfold aA.cnt;omega)
theorem u9 (x:ao) (k:Int) (hs:ao.sml x) (h0:0≤k) (h1:k+(ao.cnt x:Nat)≤1099511627776):af Tryz.prog 65 false [.val (some 5) (ao.enc .imm (x.mark k)),.val none [I k]] .one [I (k+(ao.cnt x:Nat))]:=by
 obtain⟨s0,s1⟩:=hs
 unfold ao.cnt at h1
 refine fO (n:=18) [] Tryz.func65 (by kernel_rfl) rfl (by kernel_rfl) (by rfl) (.inr ⟨trivial,trivial⟩) ?_
 repeat'((conv=>whnf);first|with_reducible (first|refine Lm ?_|refine Wm (by omega) ?_|refine dF (by omega) (fun h=>?_)|refine nF (by omega) (fun h=>?_)|refine Bn ?_|refine Fm rfl ?_)|refine Bt ?_|refine Bu ?_|refine Cl.mk (t6 x.Machine _ s0 (by omega) (by omega)) ?_|refine Cl.mk (m4 x.Refuse _ s1 (by omega) (by omega)) ?_)
 exact congrArg (fun z=>[I z]) (by unfold ao.cnt;omega)
end Go.Proofs.YtogajjgmcnjkbaaGreat.Ab
namespace Go.Proofs.YtogajjgmcnjkbaaGreat.Ab
open Go.RowKit
set_option maxRecDepth 20000
set_option maxHeartbeats 2000000
theorem tV (x:List al) (k:Int) (hs:dr x) (h0:0≤k) (h1:k+(bz x:Nat)≤1099511627776):af Tryz.prog 66 false [.val none (aT .imm (dh x k)),.val none [I k]] .one [I (k+(bz x:Nat))]:=by
 have hl:x.length≤1048576:=hs.1
 have hln:=ij x k
 refine fO (n:=31) [] Tryz.func66 (by kernel_rfl) rfl (by kernel_rfl) (by rfl) (.inr ⟨trivial,trivial⟩) ?_
 repeat'((conv=>whnf);first|with_reducible (first|refine Lm ?_|refine Wm (by omega) ?_|refine Bn ?_|refine Fm rfl ?_)|refine Bt ?_|refine Bu ?_)
 (conv=>whnf)
 refine Lp.mk (ι:=Nat) (fun i=>[(0,.hold .one (aT .imm (dh x k))),(1,.hold .one [I (k+(bS x i:Nat))]),(5,.hold .one [I (i:Nat)])]) (fun i=>i≤x.length) (fun i=>x.length - i) 0 ?_ (Nat.zero_le _) fun i hi=>?_
 ·rw[hO]
  repeat'(first|exact trivial|rfl|exact And.intro rfl (And.intro (congrArg I (by omega)) trivial)|refine And.intro ?_ ?_)
 ·by_cases hlt:i<x.length
  ·obtain⟨y,hy⟩ : ∃ y,x[i]? = some y:=⟨_,List.getElem?_eq_getElem hlt⟩
   have hm:=iD x k i y hy
   have hps:=i9 x i y hy
   have hpl:=kn x (i+1)
   rw[hps]at hpl
   simp only[al.cnt]at hps hpl
   repeat'((conv=>whnf);first|with_reducible (first|refine Lm ?_|refine Wm (by omega) ?_|refine dT (by omega) (fun h=>?_)|refine Ix.nat (aa hm) ?_|refine dF (by omega) (fun h=>?_)|refine nF (by omega) (fun h=>?_)|refine Bn ?_|refine Fm rfl ?_)|refine Bt ?_|refine Bu ?_|refine Bf.N (fun h=>absurd rfl h) (fun h=>?_)|refine Nx.mk (i+1) (by omega) (by omega) ?_)
   repeat'(first|exact trivial|rfl|exact And.intro rfl (And.intro (congrArg I (by first|omega|(simp only[al.cnt]at hps;omega))) trivial)|refine And.intro ?_ ?_)
  ·repeat'((conv=>whnf);first|with_reducible (first|refine Lm ?_|refine Wm (by omega) ?_|refine dF (by omega) (fun h=>?_)|refine nF (by omega) (fun h=>?_)|refine Bn ?_|refine Fm rfl ?_)|refine Bt ?_|refine Bu ?_)
   have he:i=x.length:=by omega
   subst he
   exact congrArg (fun z=>[I z]) (by rw[jy])
theorem vX (x:List am) (k:Int) (hs:cf x) (h0:0≤k) (h1:k+(bB x:Nat)≤1099511627776):af Tryz.prog 67 false [.val none (bt .imm (d4 x k)),.val none [I k]] .one [I (k+(bB x:Nat))]:=by
 have hl:x.length≤1048576:=hs.1
 have hln:=jh x k
 refine fO (n:=40) [] Tryz.func67 (by kernel_rfl) rfl (by kernel_rfl) (by rfl) (.inr ⟨trivial,trivial⟩) ?_
 repeat'((conv=>whnf);first|with_reducible (first|refine Lm ?_|refine Wm (by omega) ?_|refine Bn ?_|refine Fm rfl ?_)|refine Bt ?_|refine Bu ?_)
 (conv=>whnf)
 refine Lp.mk (ι:=Nat) (fun i=>[(0,.hold .one (bt .imm (d4 x k))),(1,.hold .one [I (k+(cN x i:Nat))]),(5,.hold .one [I (i:Nat)])]) (fun i=>i≤x.length) (fun i=>x.length - i) 0 ?_ (Nat.zero_le _) fun i hi=>?_
 ·rw[jG]
  repeat'(first|exact trivial|rfl|exact And.intro rfl (And.intro (congrArg I (by omega)) trivial)|refine And.intro ?_ ?_)
 ·by_cases hlt:i<x.length
  ·obtain⟨y,hy⟩ : ∃ y,x[i]? = some y:=⟨_,List.getElem?_eq_getElem hlt⟩
   have hm:=jI x k i y hy
   have hps:=jx x i y hy
   have hpl:=lJ x (i+1)
   rw[hps]at hpl
   simp only[am.cnt]at hps hpl
   repeat'((conv=>whnf);first|with_reducible (first|refine Lm ?_|refine Wm (by omega) ?_|refine dT (by omega) (fun h=>?_)|refine Ix.nat (aa hm) ?_|refine dF (by omega) (fun h=>?_)|refine nF (by omega) (fun h=>?_)|refine Bn ?_|refine Fm rfl ?_)|refine Bt ?_|refine Bu ?_|refine Bf.N (fun h=>absurd rfl h) (fun h=>?_)|refine Nx.mk (i+1) (by omega) (by omega) ?_)
   repeat'(first|exact trivial|rfl|exact And.intro rfl (And.intro (congrArg I (by first|omega|(simp only[am.cnt]at hps;omega))) trivial)|refine And.intro ?_ ?_)
  ·repeat'((conv=>whnf);first|with_reducible (first|refine Lm ?_|refine Wm (by omega) ?_|refine dF (by omega) (fun h=>?_)|refine nF (by omega) (fun h=>?_)|refine Bn ?_|refine Fm rfl ?_)|refine Bt ?_|refine Bu ?_)
   have he:i=x.length:=by omega
   subst he
   exact congrArg (fun z=>[I z]) (by rw[jZ])
theorem ub (x:List ah) (k:Int) (hs:bO x) (h0:0≤k) (h1:k+(bx x:Nat)≤1099511627776):af Tryz.prog 68 false [.val none (aW .imm (di x k)),.val none [I k]] .one [I (k+(bx x:Nat))]:=by
 have hl:x.length≤1048576:=hs.1
 have hln:=il x k
 refine fO (n:=40) [] Tryz.func68 (by kernel_rfl) rfl (by kernel_rfl) (by rfl) (.inr ⟨trivial,trivial⟩) ?_
 repeat'((conv=>whnf);first|with_reducible (first|refine Lm ?_|refine Wm (by omega) ?_|refine Bn ?_|refine Fm rfl ?_)|refine Bt ?_|refine Bu ?_)
 (conv=>whnf)
 refine Lp.mk (ι:=Nat) (fun i=>[(0,.hold .one (aW .imm (di x k))),(1,.hold .one [I (k+(bU x i:Nat))]),(5,.hold .one [I (i:Nat)])]) (fun i=>i≤x.length) (fun i=>x.length - i) 0 ?_ (Nat.zero_le _) fun i hi=>?_
 ·rw[hJ]
  repeat'(first|exact trivial|rfl|exact And.intro rfl (And.intro (congrArg I (by omega)) trivial)|refine And.intro ?_ ?_)
 ·by_cases hlt:i<x.length
  ·obtain⟨y,hy⟩ : ∃ y,x[i]? = some y:=⟨_,List.getElem?_eq_getElem hlt⟩
   have hm:=im x k i y hy
   have hps:=iy x i y hy
   have hpl:=kj x (i+1)
   rw[hps]at hpl
   simp only[ah.cnt]at hps hpl
   repeat'((conv=>whnf);first|with_reducible (first|refine Lm ?_|refine Wm (by omega) ?_|refine dT (by omega) (fun h=>?_)|refine Ix.nat (aa hm) ?_|refine dF (by omega) (fun h=>?_)|refine nF (by omega) (fun h=>?_)|refine Bn ?_|refine Fm rfl ?_)|refine Bt ?_|refine Bu ?_|refine Bf.N (fun h=>absurd rfl h) (fun h=>?_)|refine Nx.mk (i+1) (by omega) (by omega) ?_)
   repeat'(first|exact trivial|rfl|exact And.intro rfl (And.intro (congrArg I (by first|omega|(simp only[ah.cnt]at hps;omega))) trivial)|refine And.intro ?_ ?_)
  ·repeat'((conv=>whnf);first|with_reducible (first|refine Lm ?_|refine Wm (by omega) ?_|refine dF (by omega) (fun h=>?_)|refine nF (by omega) (fun h=>?_)|refine Bn ?_|refine Fm rfl ?_)|refine Bt ?_|refine Bu ?_)
   have he:i=x.length:=by omega
   subst he
   exact congrArg (fun z=>[I z]) (by rw[js])
theorem zX (x:List aM) (k:Int) (hs:kM x) (h0:0≤k) (h1:k+(cB x:Nat)≤1099511627776):af Tryz.prog 69 false [.val none (dA .imm (dL x k)),.val none [I k]] .one [I (k+(cB x:Nat))]:=by
 have hl:x.length≤1048576:=hs.1
 have hln:=kh x k
 refine fO (n:=49) [] Tryz.func69 (by kernel_rfl) rfl (by kernel_rfl) (by rfl) (.inr ⟨trivial,trivial⟩) ?_
 repeat'((conv=>whnf);first|with_reducible (first|refine Lm ?_|refine Wm (by omega) ?_|refine Bn ?_|refine Fm rfl ?_)|refine Bt ?_|refine Bu ?_)
 (conv=>whnf)
 refine Lp.mk (ι:=Nat) (fun i=>[(0,.hold .one (dA .imm (dL x k))),(1,.hold .one [I (k+(dx x i:Nat))]),(5,.hold .one [I (i:Nat)])]) (fun i=>i≤x.length) (fun i=>x.length - i) 0 ?_ (Nat.zero_le _) fun i hi=>?_
 ·rw[ku]
  repeat'(first|exact trivial|rfl|exact And.intro rfl (And.intro (congrArg I (by omega)) trivial)|refine And.intro ?_ ?_)
 ·by_cases hlt:i<x.length
  ·obtain⟨y,hy⟩ : ∃ y,x[i]? = some y:=⟨_,List.getElem?_eq_getElem hlt⟩
   have hm:=kf x k i y hy
   have hps:=jY x i y hy
   have hpl:=mP x (i+1)
   rw[hps]at hpl
   simp only[aM.cnt]at hps hpl
   repeat'((conv=>whnf);first|with_reducible (first|refine Lm ?_|refine Wm (by omega) ?_|refine dT (by omega) (fun h=>?_)|refine Ix.nat (aa hm) ?_|refine dF (by omega) (fun h=>?_)|refine nF (by omega) (fun h=>?_)|refine Bn ?_|refine Fm rfl ?_)|refine Bt ?_|refine Bu ?_|refine Bf.N (fun h=>absurd rfl h) (fun h=>?_)|refine Nx.mk (i+1) (by omega) (by omega) ?_)
   repeat'(first|exact trivial|rfl|exact And.intro rfl (And.intro (congrArg I (by first|omega|(simp only[aM.cnt]at hps;omega))) trivial)|refine And.intro ?_ ?_)
  ·repeat'((conv=>whnf);first|with_reducible (first|refine Lm ?_|refine Wm (by omega) ?_|refine dF (by omega) (fun h=>?_)|refine nF (by omega) (fun h=>?_)|refine Bn ?_|refine Fm rfl ?_)|refine Bt ?_|refine Bu ?_)
   have he:i=x.length:=by omega
   subst he
   exact congrArg (fun z=>[I z]) (by rw[lB])
theorem ul (x:List ar) (k:Int) (hs:gF x) (h0:0≤k) (h1:k+(bK x:Nat)≤1099511627776):af Tryz.prog 70 false [.val none (cP .imm (db x k)),.val none [I k]] .one [I (k+(bK x:Nat))]:=by
 have hl:x.length≤1048576:=hs.1
 have hln:=hM x k
 refine fO (n:=22) [] Tryz.func70 (by kernel_rfl) rfl (by kernel_rfl) (by rfl) (.inr ⟨trivial,trivial⟩) ?_
 repeat'((conv=>whnf);first|with_reducible (first|refine Lm ?_|refine Wm (by omega) ?_|refine Bn ?_|refine Fm rfl ?_)|refine Bt ?_|refine Bu ?_)
 (conv=>whnf)
 refine Lp.mk (ι:=Nat) (fun i=>[(0,.hold .one (cP .imm (db x k))),(1,.hold .one [I (k+(ca x i:Nat))]),(5,.hold .one [I (i:Nat)])]) (fun i=>i≤x.length) (fun i=>x.length - i) 0 ?_ (Nat.zero_le _) fun i hi=>?_
 ·rw[iq]
  repeat'(first|exact trivial|rfl|exact And.intro rfl (And.intro (congrArg I (by omega)) trivial)|refine And.intro ?_ ?_)
 ·by_cases hlt:i<x.length
  ·obtain⟨y,hy⟩ : ∃ y,x[i]? = some y:=⟨_,List.getElem?_eq_getElem hlt⟩
   have hm:=ib x k i y hy
   have hps:=ig x i y hy
   have hpl:=kq x (i+1)
   rw[hps]at hpl
   repeat'((conv=>whnf);first|with_reducible (first|refine Lm ?_|refine Wm (by omega) ?_|refine dT (by omega) (fun h=>?_)|refine Ix.nat (aa hm) ?_|refine dF (by omega) (fun h=>?_)|refine nF (by omega) (fun h=>?_)|refine Bn ?_|refine Fm rfl ?_)|refine Bt ?_|refine Bu ?_|refine Cl.mk (lD y.Lists _ (hs.2 y (List.mem_of_getElem? hy)) (by omega) (by simp only[ar.cnt]at hpl;omega)) ?_|refine Nx.mk (i+1) (by omega) (by omega) ?_)
   repeat'(first|exact trivial|rfl|exact And.intro rfl (And.intro (congrArg I (by first|omega|(simp only[ar.cnt]at hps;omega))) trivial)|refine And.intro ?_ ?_)
  ·repeat'((conv=>whnf);first|with_reducible (first|refine Lm ?_|refine Wm (by omega) ?_|refine dF (by omega) (fun h=>?_)|refine nF (by omega) (fun h=>?_)|refine Bn ?_|refine Fm rfl ?_)|refine Bt ?_|refine Bu ?_)
   have he:i=x.length:=by omega
   subst he
   exact congrArg (fun z=>[I z]) (by rw[jA])
theorem vR (x:List aJ) (k:Int) (hs:jf x) (h0:0≤k) (h1:k+(cZ x:Nat)≤1099511627776):af Tryz.prog 260 false [.val none (br .imm (dq x k)),.val none [I k]] .one [I (k+(cZ x:Nat))]:=by
 have hl:x.length≤1048576:=hs.1
 have hln:=ju x k
 refine fO (n:=31) [] Tryz.func260 (by kernel_rfl) rfl (by kernel_rfl) (by rfl) (.inr ⟨trivial,trivial⟩) ?_
 repeat'((conv=>whnf);first|with_reducible (first|refine Lm ?_|refine Wm (by omega) ?_|refine Bn ?_|refine Fm rfl ?_)|refine Bt ?_|refine Bu ?_)
 (conv=>whnf)
 refine Lp.mk (ι:=Nat) (fun i=>[(0,.hold .one (br .imm (dq x k))),(1,.hold .one [I (k+(cO x i:Nat))]),(5,.hold .one [I (i:Nat)])]) (fun i=>i≤x.length) (fun i=>x.length - i) 0 ?_ (Nat.zero_le _) fun i hi=>?_
 ·rw[jm]
  repeat'(first|exact trivial|rfl|exact And.intro rfl (And.intro (congrArg I (by omega)) trivial)|refine And.intro ?_ ?_)
 ·by_cases hlt:i<x.length
  ·obtain⟨y,hy⟩ : ∃ y,x[i]? = some y:=⟨_,List.getElem?_eq_getElem hlt⟩
   have hm:=jr x k i y hy
   have hps:=jt x i y hy
   have hpl:=lG x (i+1)
   rw[hps]at hpl
   simp only[aJ.cnt]at hps hpl
   repeat'((conv=>whnf);first|with_reducible (first|refine Lm ?_|refine Wm (by omega) ?_|refine dT (by omega) (fun h=>?_)|refine Ix.nat (aa hm) ?_|refine dF (by omega) (fun h=>?_)|refine nF (by omega) (fun h=>?_)|refine Bn ?_|refine Fm rfl ?_)|refine Bt ?_|refine Bu ?_|refine Bf.N (fun h=>absurd rfl h) (fun h=>?_)|refine Nx.mk (i+1) (by omega) (by omega) ?_)
   repeat'(first|exact trivial|rfl|exact And.intro rfl (And.intro (congrArg I (by first|omega|(simp only[aJ.cnt]at hps;omega))) trivial)|refine And.intro ?_ ?_)
  ·repeat'((conv=>whnf);first|with_reducible (first|refine Lm ?_|refine Wm (by omega) ?_|refine dF (by omega) (fun h=>?_)|refine nF (by omega) (fun h=>?_)|refine Bn ?_|refine Fm rfl ?_)|refine Bt ?_|refine Bu ?_)
   have he:i=x.length:=by omega
   subst he
   exact congrArg (fun z=>[I z]) (by rw[ky])
theorem uo (x:List (List aJ)) (k:Int) (hs:g0 x) (h0:0≤k) (h1:k+(cH x:Nat)≤1099511627776):af Tryz.prog 162 false [.val none (dm .imm (dd x k)),.val none [I k]] .one [I (k+(cH x:Nat))]:=by
 have hl:x.length≤1048576:=hs.1
 have hln:=i7 x k
 refine fO (n:=21) [] Tryz.func162 (by kernel_rfl) rfl (by kernel_rfl) (by rfl) (.inr ⟨trivial,trivial⟩) ?_
 repeat'((conv=>whnf);first|with_reducible (first|refine Lm ?_|refine Wm (by omega) ?_|refine Bn ?_|refine Fm rfl ?_)|refine Bt ?_|refine Bu ?_)
 (conv=>whnf)
 refine Lp.mk (ι:=Nat) (fun i=>[(0,.hold .one (dm .imm (dd x k))),(1,.hold .one [I (k+(bY x i:Nat))]),(5,.hold .one [I (i:Nat)])]) (fun i=>i≤x.length) (fun i=>x.length - i) 0 ?_ (Nat.zero_le _) fun i hi=>?_
 ·rw[hP]
  repeat'(first|exact trivial|rfl|exact And.intro rfl (And.intro (congrArg I (by omega)) trivial)|refine And.intro ?_ ?_)
 ·by_cases hlt:i<x.length
  ·obtain⟨y,hy⟩ : ∃ y,x[i]? = some y:=⟨_,List.getElem?_eq_getElem hlt⟩
   have hm:=ik x k i y hy
   have hps:=ip x i y hy
   have hpl:=k4 x (i+1)
   rw[hps]at hpl
   repeat'((conv=>whnf);first|with_reducible (first|refine Lm ?_|refine Wm (by omega) ?_|refine dT (by omega) (fun h=>?_)|refine Ix.nat (aa hm) ?_|refine dF (by omega) (fun h=>?_)|refine nF (by omega) (fun h=>?_)|refine Bn ?_|refine Fm rfl ?_)|refine Bt ?_|refine Bu ?_|refine Cl.mk (vR y _ (hs.2 y (List.mem_of_getElem? hy)) (by omega) (by omega)) ?_|refine Nx.mk (i+1) (by omega) (by omega) ?_)
   repeat'(first|exact trivial|rfl|exact And.intro rfl (And.intro (congrArg I (by omega)) trivial)|refine And.intro ?_ ?_)
  ·repeat'((conv=>whnf);first|with_reducible (first|refine Lm ?_|refine Wm (by omega) ?_|refine dF (by omega) (fun h=>?_)|refine nF (by omega) (fun h=>?_)|refine Bn ?_|refine Fm rfl ?_)|refine Bt ?_|refine Bu ?_)
   have he:i=x.length:=by omega
   subst he
   exact congrArg (fun z=>[I z]) (by rw[jv])
theorem zC (x:aG) (k:Int) (hs:aG.sml x) (h0:0≤k) (h1:k+(aG.cnt x:Nat)≤1099511627776):af Tryz.prog 71 false [.val (some 2) (aG.enc .imm (x.mark k)),.val none [I k]] .one [I (k+(aG.cnt x:Nat))]:=by
 obtain⟨s0,s1⟩:=hs
 unfold aG.cnt at h1
 refine fO (n:=18) [] Tryz.func71 (by kernel_rfl) rfl (by kernel_rfl) (by rfl) (.inr ⟨trivial,trivial⟩) ?_
 repeat'((conv=>whnf);first|with_reducible (first|refine Lm ?_|refine Wm (by omega) ?_|refine dF (by omega) (fun h=>?_)|refine nF (by omega) (fun h=>?_)|refine Bn ?_|refine Fm rfl ?_)|refine Bt ?_|refine Bu ?_|refine Cl.mk (uo x.Buffers _ s0 (by omega) (by omega)) ?_|refine Cl.mk (lD x.Inbox _ s1 (by omega) (by omega)) ?_)
 exact congrArg (fun z=>[I z]) (by unfold aG.cnt;omega)
theorem ua (x:List ax) (k:Int) (hs:dN x) (h0:0≤k) (h1:k+(cG x:Nat)≤1099511627776):af Tryz.prog 163 false [.val none (bh .imm (de x k)),.val none [I k]] .one [I (k+(cG x:Nat))]:=by
 have hl:x.length≤1048576:=hs.1
 have hln:=ix x k
 refine fO (n:=40) [] Tryz.func163 (by kernel_rfl) rfl (by kernel_rfl) (by rfl) (.inr ⟨trivial,trivial⟩) ?_
 repeat'((conv=>whnf);first|with_reducible (first|refine Lm ?_|refine Wm (by omega) ?_|refine Bn ?_|refine Fm rfl ?_)|refine Bt ?_|refine Bu ?_)
 (conv=>whnf)
 refine Lp.mk (ι:=Nat) (fun i=>[(0,.hold .one (bh .imm (de x k))),(1,.hold .one [I (k+(bV x i:Nat))]),(5,.hold .one [I (i:Nat)])]) (fun i=>i≤x.length) (fun i=>x.length - i) 0 ?_ (Nat.zero_le _) fun i hi=>?_
 ·rw[i6]
  repeat'(first|exact trivial|rfl|exact And.intro rfl (And.intro (congrArg I (by omega)) trivial)|refine And.intro ?_ ?_)
 ·by_cases hlt:i<x.length
  ·obtain⟨y,hy⟩ : ∃ y,x[i]? = some y:=⟨_,List.getElem?_eq_getElem hlt⟩
   have hm:=ic x k i y hy
   have hps:=iv x i y hy
   have hpl:=kc x (i+1)
   rw[hps]at hpl
   simp only[ax.cnt]at hps hpl
   repeat'((conv=>whnf);first|with_reducible (first|refine Lm ?_|refine Wm (by omega) ?_|refine dT (by omega) (fun h=>?_)|refine Ix.nat (aa hm) ?_|refine dF (by omega) (fun h=>?_)|refine nF (by omega) (fun h=>?_)|refine Bn ?_|refine Fm rfl ?_)|refine Bt ?_|refine Bu ?_|refine Bf.N (fun h=>absurd rfl h) (fun h=>?_)|refine Nx.mk (i+1) (by omega) (by omega) ?_)
   repeat'(first|exact trivial|rfl|exact And.intro rfl (And.intro (congrArg I (by first|omega|(simp only[ax.cnt]at hps;omega))) trivial)|refine And.intro ?_ ?_)
  ·repeat'((conv=>whnf);first|with_reducible (first|refine Lm ?_|refine Wm (by omega) ?_|refine dF (by omega) (fun h=>?_)|refine nF (by omega) (fun h=>?_)|refine Bn ?_|refine Fm rfl ?_)|refine Bt ?_|refine Bu ?_)
   have he:i=x.length:=by omega
   subst he
   exact congrArg (fun z=>[I z]) (by rw[j8])
theorem zQ (x:aK) (k:Int) (hs:aK.sml x) (h0:0≤k) (h1:k+(aK.cnt x:Nat)≤1099511627776):af Tryz.prog 72 false [.val (some 2) (aK.enc .imm (x.mark k)),.val none [I k]] .one [I (k+(aK.cnt x:Nat))]:=by
 have s0:=hs
 unfold aK.cnt at h1
 refine fO (n:=12) [] Tryz.func72 (by kernel_rfl) rfl (by kernel_rfl) (by rfl) (.inr ⟨trivial,trivial⟩) ?_
 repeat'((conv=>whnf);first|with_reducible (first|refine Lm ?_|refine Wm (by omega) ?_|refine dF (by omega) (fun h=>?_)|refine nF (by omega) (fun h=>?_)|refine Bn ?_|refine Fm rfl ?_)|refine Bt ?_|refine Bu ?_|refine Cl.mk (ua x.Lst _ s0 (by omega) (by omega)) ?_)
 exact congrArg (fun z=>[I z]) (by unfold aK.cnt;omega)
theorem yP (x:aV) (k:Int) (hs:aV.sml x) (h0:0≤k) (h1:k+(aV.cnt x:Nat)≤1099511627776):af Tryz.prog 164 false [.val (some 3) (aV.enc .imm (x.mark k)),.val none [I k]] .one [I (k+(aV.cnt x:Nat))]:=by
 have s0:=hs
 unfold aV.cnt at h1
 refine fO (n:=12) [] Tryz.func164 (by kernel_rfl) rfl (by kernel_rfl) (by rfl) (.inr ⟨trivial,trivial⟩) ?_
 repeat'((conv=>whnf);first|with_reducible (first|refine Lm ?_|refine Wm (by omega) ?_|refine dF (by omega) (fun h=>?_)|refine nF (by omega) (fun h=>?_)|refine Bn ?_|refine Fm rfl ?_)|refine Bt ?_|refine Bu ?_|refine Cl.mk (m4 x.Cells _ s0 (by omega) (by omega)) ?_)
 exact congrArg (fun z=>[I z]) (by unfold aV.cnt;omega)
theorem B8 (x:bq) (k:Int) (hs:bq.sml x) (h0:0≤k) (h1:k+(bq.cnt x:Nat)≤1099511627776):af Tryz.prog 73 false [.val (some 5) (bq.enc .imm (x.mark k)),.val none [I k]] .one [I (k+(bq.cnt x:Nat))]:=by
 have s0:=hs
 unfold bq.cnt at h1
 refine fO (n:=12) [] Tryz.func73 (by kernel_rfl) rfl (by kernel_rfl) (by rfl) (.inr ⟨trivial,trivial⟩) ?_
 repeat'((conv=>whnf);first|with_reducible (first|refine Lm ?_|refine Wm (by omega) ?_|refine dF (by omega) (fun h=>?_)|refine nF (by omega) (fun h=>?_)|refine Bn ?_|refine Fm rfl ?_)|refine Bt ?_|refine Bu ?_|refine Cl.mk (yP x.Plan _ s0 (by omega) (by omega)) ?_)
 exact congrArg (fun z=>[I z]) (by unfold bq.cnt;omega)
theorem yp (x:ac) (k:Int) (hs:ac.sml x) (h0:0≤k) (h1:k+(ac.cnt x:Nat)≤1099511627776):af Tryz.prog 12 false [.val (some 24) (ac.enc .imm (x.mark k)),.val none [I k]] .one [I (k+(ac.cnt x:Nat))]:=by
 obtain⟨s0,s1,s2,s3,s4,s5,s6,s7,s8⟩:=hs
 unfold ac.cnt at h1
 refine fO (n:=60) [] Tryz.func12 (by kernel_rfl) rfl (by kernel_rfl) (by rfl) (.inr ⟨trivial,trivial⟩) ?_
 repeat'((conv=>whnf);first|with_reducible (first|refine Lm ?_|refine Wm (by omega) ?_|refine dF (by omega) (fun h=>?_)|refine nF (by omega) (fun h=>?_)|refine Bn ?_|refine Fm rfl ?_)|refine Bt ?_|refine Bu ?_|refine Cl.mk (u9 x.Kernel _ s0 (by omega) (by omega)) ?_|refine Cl.mk (tV x.Free _ s1 (by omega) (by omega)) ?_|refine Cl.mk (vX x.Spans _ s2 (by omega) (by omega)) ?_|refine Cl.mk (ub x.Larges _ s3 (by omega) (by omega)) ?_|refine Cl.mk (zX x.Objs _ s4 (by omega) (by omega)) ?_|refine Cl.mk (ul x.Caches _ s5 (by omega) (by omega)) ?_|refine Cl.mk (zC x.Mail _ s6 (by omega) (by omega)) ?_|refine Cl.mk (zQ x.Quar _ s7 (by omega) (by omega)) ?_|refine Cl.mk (B8 x.Job _ s8 (by omega) (by omega)) ?_)
 exact congrArg (fun z=>[I z]) (by unfold ac.cnt;omega)
end Go.Proofs.YtogajjgmcnjkbaaGreat.Ab
namespace Go.Proofs.YtogajjgmcnjkbaaGreat.Ab
open Go.RowKit Go.ChangeShapes Go.WideShapes Go.Deep
def ALL (w:World):ab:=fun b _=>b<w.heap.size
def mb {H:Type} (e:TypeId × Value→H) (P:Program) (w:World) (t n:Nat) {α:Type} (enc:α→List C) (wf:α→Prop):Prop:=
 ∀ (fuel:Nat) (cs:List Value) (x:DataW H × List MemPlace),DataW.trod e P w 0 (fun _=>true) true fuel t cs=some x→cs.length=n∧∃ a,wf a∧(enc a).length=n∧cm w (ALL w) NO (enc a) (fun j=>cs.getD j undef)
section
variable {H:Type} {e:TypeId × Value→H} {P:Program} {w:World}
theorem row_one {S F:ab} {c:C} {u:Nat→Value} (h:dK w S F c (u 0)):cm w S F [c] u:=
 ⟨fun _=>F,fun j c' hj=>by cases j with
   | zero=>simp at hj;subst hj;exact h
   | succ j=>simp at hj,fun _ _ _ _ h=>h,fun j j' hj hj' hne=>by simp at hj hj';omega⟩
theorem H3 {t:Nat} (ht:P.underlying t=some (.int .i64)):mb e P w t 1 (rI .imm) gz:=by
 intro fuel cs x h
 obtain⟨n,rfl,-,hw⟩:=DataW.trod_int ht h
 refine⟨rfl,n,?_,rfl,row_one (.v _ _ rfl)⟩
 unfold gz
 simp only[Lit.wf,Bool.and_eq_true,decide_eq_true_eq]at hw
 exact hw
theorem GZ {t:Nat} (ht:P.underlying t=some .bool):mb e P w t 1 (rB .imm) Jx:=by
 intro fuel cs x h
 obtain⟨b,rfl,-⟩:=DataW.trod_bool ht h
 exact⟨rfl,b,trivial,rfl,row_one (.v _ _ rfl)⟩
theorem pick {α β:Type} (n:Nat) {Q:Nat→β→Prop} (h:∀ i,i<n→∃ b,Q i b):∃ l:List β,l.length=n∧∀ i b,l[i]? = some b→Q i b:=by
 induction n with
 | zero=>exact⟨[],rfl,fun i b h=>by simp at h⟩
 | succ n ih=>
  obtain⟨l,h1,h2⟩:=ih fun i hi=>h i (by omega)
  obtain⟨b,hb⟩:=h n (by omega)
  refine⟨l++[b],by simp[h1],fun i b' hi=>?_⟩
  by_cases hl:i<n
  ·rw[List.getElem?_append_left (by omega)]at hi;exact h2 i b' hi
  ·rw[List.getElem?_append_right (by omega)]at hi
   have:i - l.length=0:=by
    have:=(List.getElem?_eq_some_iff.1 hi).1
    simp at this;omega
   rw[this]at hi
   simp at hi
   subst hi
   rw[show i=n by omega];exact hb
theorem eA {t el n:Nat} {α:Type} {enc:α→List C} {wf:α→Prop} (hel:mb e P w el n enc wf) (ht:P.underlying t=some (.slice el)) (hn:P.cellsOf el=n) (hpos:0<n) :
  mb e P w t 1 (fun xs:List α=>[.s .imm (xs.map enc)]) (fun xs=>xs.length≤9223372036854775807∧∀ y∈xs,wf y):=by
 intro fuel cs x h
 rcases open_slice ht h with⟨rfl,-⟩|⟨ad,len,cap,m,n',D,Pl,rfl,-,hl,hm,hmm,-,hi⟩
 ·exact⟨rfl,[],⟨by simp,by simp⟩,rfl,row_one (.nil _ _ _ trivial)⟩
 ·simp only[if_true]at hmm
  subst hmm
  have hsp:0<m→ad.spot=none:=fun hpm=>by
   obtain⟨cs',hc,htr⟩:=hi 0 hpm
   rw[hn]at hc
   obtain⟨_,hcl,hat⟩:=World.cells?_some hc
   have:=hat 0 hpos
   rw[List.getElem?_eq_getElem (by omega)]at this
   have:=World.cell?_spot this
   simpa[Addr.add] using this
  have key:∀ i,i<len→∃ a,wf a∧(enc a).length=n∧(∀ d,d<n→∃ z,cel w ad.block (ad.off+(i*n+d))=some z)∧ad.spot=none∧cm w (ALL w) NO (enc a) (fun d=>(cel w ad.block (ad.off+(i*n+d))).getD undef):=fun i hil=>by
   have hspot:=hsp (by omega)
   obtain⟨cs',hc,htr⟩:=hi i (by omega)
   rw[hn]at hc
   obtain⟨h1,a,h3,h4,h5⟩:=hel _ _ _ htr
   obtain⟨_,hcl,hat⟩:=World.cells?_some hc
   have hadd:∀ d,ad.add d = ⟨ad.block,ad.off+d,none⟩:=fun d=>by
    obtain⟨b,o,sp⟩:=ad
    simp only at hspot
    subst hspot
    unfold Addr.add
    split<;>simp_all
   have hcell:∀ d,d<n→cel w ad.block (ad.off+(i*n+d))=cs'[d]?:=fun d hd=>by
    have:=hat d hd
    rw[Go.Deep.add_add,hadd]at this
    exact this
   refine⟨a,h3,h4,fun d hd=>⟨_,by rw[hcell d hd,List.getElem?_eq_getElem (by omega)]⟩,hspot,h5.congr fun d hd=>?_⟩
   show(cel w ad.block (ad.off+(i*n+d))).getD undef=cs'.getD d undef
   rw[hcell d (by omega),List.getD]
  obtain⟨l,hll,hlq⟩:=pick (α:=α) len key
  refine⟨rfl,l,⟨by simp only[maxLen]at hm;omega,fun y hy=>?_⟩,rfl,row_one ?_⟩
  ·obtain⟨i,hi'⟩:=List.mem_iff_getElem?.1 hy
   exact(hlq i y hi').1
  ·show dK w (ALL w) NO (.s .imm (l.map enc)) (.slice (some ad) len m)
   by_cases h0:len=0
   ·subst h0
    have:l=[]:=List.eq_nil_of_length_eq_zero hll
    subst this
    by_cases hc0:m=0
    ·subst hc0;exact .nil _ _ _ trivial
    ·have hspot:=hsp (by omega)
     obtain⟨b,o,sp⟩:=ad
     simp only at hspot
     subst hspot
     exact .imm _ b o n 0 m [] (fun _=>undef) rfl (fun r hr=>by simp at hr) hl (fun q hq=>by simp at hq) (fun i j r c hi=>by simp at hi)
   ·obtain⟨y0,hy0⟩ : ∃ y,l[0]? = some y:=⟨_,List.getElem?_eq_getElem (by omega)⟩
    have hspot:=(hlq 0 y0 hy0).2.2.2.1
    obtain⟨b,o,sp⟩:=ad
    simp only at hspot
    subst hspot
    refine .imm _ b o n len m (l.map enc) (fun q=>(cel w b (o+q)).getD undef) (by simpa using hll) (fun r hr=>?_) hl (fun q hq=>?_) (fun i j r c hi hj=>?_)
    ·obtain⟨y,hy,rfl⟩:=List.mem_map.1 hr
     obtain⟨i,hi'⟩:=List.mem_iff_getElem?.1 hy
     exact(hlq i y hi').2.1
    ·have hqd:q / n<len:=(Nat.div_lt_iff_lt_mul hpos).2 hq
     obtain⟨y,hy⟩ : ∃ y,l[q / n]? = some y:=⟨_,List.getElem?_eq_getElem (by omega)⟩
     obtain⟨z,hz⟩:=(hlq _ y hy).2.2.1 (q % n) (Nat.mod_lt _ hpos)
     have hd:q / n*n+q % n=q:=by rw[Nat.mul_comm];exact Nat.div_add_mod q n
     rw[hd]at hz
     exact⟨HN hz,by simp only at hz ⊢;rw[hz];rfl⟩
    ·rw[List.getElem?_map]at hi
     cases hli:l[i]? with
     | none=>rw[hli]at hi;cases hi
     | some y=>
      rw[hli]at hi
      simp only[Option.map_some,Option.some.injEq]at hi
      subst hi
      obtain⟨f,h1,h2,-⟩:=(hlq i y hli).2.2.2.2
      have hjl:=(List.getElem?_eq_some_iff.1 hj).1
      exact(h1 j c hj).mono (fun _ _ h=>h) (h2 j hjl)
theorem aS {t:Nat} {fs:Array Field} {fuel:Nat} {cs:List Value} {x:DataW H × List MemPlace} (ht:P.underlying t=some (.struct fs)) (h:DataW.trod e P w 0 (fun _=>true) true fuel t cs=some x) (i:Nat) (f:Field) (hf:fs[i]? = some f)
  {n:Nat} {α:Type} {enc:α→List C} {wf:α→Prop} (ho:mb e P w f.type n enc wf) (hn:P.cellsOf f.type=n):∃ a,wf a∧(enc a).length=n∧cm w (ALL w) NO (enc a) (fun j=>cs.getD (f.offset+j) undef):=by
 obtain⟨ys,n',hn',hy,hlen,hyl,hfl⟩:=DataW.trod_struct ht h
 have h1:=hfl i f hf
 have hi:=(Array.getElem?_eq_some_iff.1 hf).1
 rw[List.getElem?_eq_getElem (by omega)]at h1
 rw[hn]at h1
 obtain⟨e1,a,e2,e3,e4⟩:=ho _ _ _ h1
 refine⟨a,e2,e3,e4.congr fun j hj=>?_⟩
 simp only[List.getD]
 rw[List.getElem?_take_of_lt (by omega),List.getElem?_drop]
theorem bR {cs:List Value} {c1 c2:List C} {o:Nat} (h1:cm w (ALL w) NO c1 (fun j=>cs.getD (o+j) undef)) (h2:cm w (ALL w) NO c2 (fun j=>cs.getD (o+c1.length+j) undef)):cm w (ALL w) NO (c1++c2) (fun j=>cs.getD (o+j) undef):=by
 refine((t8 h1 h2 fun _ _ h=>h.elim).mono (fun _ _ h=>h) (fun _ _ h=>h.elim id id)).congr fun j hj=>?_
 by_cases hl:j<c1.length
 ·rw[if_pos hl]
 ·rw[if_neg hl]
  show cs.getD (o+j) undef=cs.getD (o+c1.length+(j - c1.length)) undef
  congr 1;omega
theorem valOk_agg {S:ab} {cs:Array Value} {n:Nat} {xs:List C} (h1:cs.toList.length=n) (h2:xs.length=n) (h3:cm w S NO xs (fun j=>cs.toList.getD j undef)):bo w S NO (some n) xs (.agg cs):=by
 refine⟨h2,_,?_,h3⟩
 have:=lc cs
 rw[show cs.size=n by simpa using h1]at this
 exact this
theorem row_val {S F:ab} {x:Value} {u:Nat→Value} (h:cm w S F [.v x] u):u 0=x:=by
 obtain⟨f,h1,-⟩:=h
 have:=h1 0 _ rfl
 cases this
 rfl
end
end Go.Proofs.YtogajjgmcnjkbaaGreat.Ab
namespace Go.Proofs.YtogajjgmcnjkbaaGreat.Ab
open Go.RowKit
set_option maxRecDepth 20000
set_option maxHeartbeats 1000000
section
variable {H:Type} {e:TypeId × Value→H} {w:World}
theorem cU:mb e Tryz.prog w 3 1 (rI .imm) gz:=H3 Tryz.underlying3
theorem BP:mb e Tryz.prog w 4 1 (rB .imm) Jx:=GZ Tryz.underlying4
theorem vW:mb e Tryz.prog w 31 1 (aI .imm) pN:=eA cU Tryz.underlying31 (by kernel_rfl) (by decide)
theorem rP:mb e Tryz.prog w 22 1 (d5 .imm) pt:=eA vW Tryz.underlying22 (by kernel_rfl) (by decide)
theorem FZ:mb e Tryz.prog w 23 1 (fR .imm) wv:=eA BP Tryz.underlying23 (by kernel_rfl) (by decide)
theorem BE:mb e Tryz.prog w 25 2 (aC.enc .imm) aC.wf:=by
 intro fuel cs x h
 obtain⟨ys,n',-,-,hlen,-⟩:=DataW.trod_struct Tryz.underlying25 h
 obtain⟨a0,w0,l0,r0⟩:=aS Tryz.underlying25 h 0 _ rfl rP (by kernel_rfl)
 obtain⟨a1,w1,l1,r1⟩:=aS Tryz.underlying25 h 1 _ rfl FZ (by kernel_rfl)
 have hrow:=(bR r0 r1)
 exact⟨hlen.trans (by kernel_rfl),⟨a0,a1⟩,⟨w0,w1⟩,rfl,hrow.congr fun j _=>by show cs.getD j undef=cs.getD (0+j) undef;rw[Nat.zero_add]⟩
theorem EB:mb e Tryz.prog w 338 2 (aE.enc .imm) aE.wf:=by
 intro fuel cs x h
 obtain⟨ys,n',-,-,hlen,-⟩:=DataW.trod_struct Tryz.underlying338 h
 obtain⟨a0,w0,l0,r0⟩:=aS Tryz.underlying338 h 0 _ rfl cU (by kernel_rfl)
 obtain⟨a1,w1,l1,r1⟩:=aS Tryz.underlying338 h 1 _ rfl cU (by kernel_rfl)
 have hrow:=(bR r0 r1)
 exact⟨hlen.trans (by kernel_rfl),⟨a0,a1⟩,⟨w0,w1⟩,rfl,hrow.congr fun j _=>by show cs.getD j undef=cs.getD (0+j) undef;rw[Nat.zero_add]⟩
theorem B0:mb e Tryz.prog w 26 1 (d6 .imm) pH:=eA EB Tryz.underlying26 (by kernel_rfl) (by decide)
theorem E6:mb e Tryz.prog w 28 1 (aB.enc .imm) aB.wf:=by
 intro fuel cs x h
 obtain⟨ys,n',-,-,hlen,-⟩:=DataW.trod_struct Tryz.underlying28 h
 obtain⟨a0,w0,l0,r0⟩:=aS Tryz.underlying28 h 0 _ rfl B0 (by kernel_rfl)
 have hrow:=r0
 exact⟨hlen.trans (by kernel_rfl),⟨a0⟩,w0,rfl,hrow.congr fun j _=>by show cs.getD j undef=cs.getD (0+j) undef;rw[Nat.zero_add]⟩
theorem yq:mb e Tryz.prog w 30 3 (aA.enc .imm) aA.wf:=by
 intro fuel cs x h
 obtain⟨ys,n',-,-,hlen,-⟩:=DataW.trod_struct Tryz.underlying30 h
 obtain⟨a0,w0,l0,r0⟩:=aS Tryz.underlying30 h 0 _ rfl BE (by kernel_rfl)
 obtain⟨a1,w1,l1,r1⟩:=aS Tryz.underlying30 h 1 _ rfl E6 (by kernel_rfl)
 have hrow:=(bR r0 r1)
 exact⟨hlen.trans (by kernel_rfl),⟨a0,a1⟩,⟨w0,w1⟩,rfl,hrow.congr fun j _=>by show cs.getD j undef=cs.getD (0+j) undef;rw[Nat.zero_add]⟩
theorem Ar:mb e Tryz.prog w 33 5 (ao.enc .imm) ao.wf:=by
 intro fuel cs x h
 obtain⟨ys,n',-,-,hlen,-⟩:=DataW.trod_struct Tryz.underlying33 h
 obtain⟨a0,w0,l0,r0⟩:=aS Tryz.underlying33 h 0 _ rfl yq (by kernel_rfl)
 obtain⟨a1,w1,l1,r1⟩:=aS Tryz.underlying33 h 1 _ rfl cU (by kernel_rfl)
 obtain⟨a2,w2,l2,r2⟩:=aS Tryz.underlying33 h 2 _ rfl vW (by kernel_rfl)
 have hrow:=(bR r0 (bR r1 r2))
 exact⟨hlen.trans (by kernel_rfl),⟨a0,a1,a2⟩,⟨w0,w1,w2⟩,rfl,hrow.congr fun j _=>by show cs.getD j undef=cs.getD (0+j) undef;rw[Nat.zero_add]⟩
theorem EG:mb e Tryz.prog w 171 2 (al.enc .imm) al.wf:=by
 intro fuel cs x h
 obtain⟨ys,n',-,-,hlen,-⟩:=DataW.trod_struct Tryz.underlying171 h
 obtain⟨a0,w0,l0,r0⟩:=aS Tryz.underlying171 h 0 _ rfl cU (by kernel_rfl)
 obtain⟨a1,w1,l1,r1⟩:=aS Tryz.underlying171 h 1 _ rfl cU (by kernel_rfl)
 have hrow:=(bR r0 r1)
 exact⟨hlen.trans (by kernel_rfl),⟨a0,a1⟩,⟨w0,w1⟩,rfl,hrow.congr fun j _=>by show cs.getD j undef=cs.getD (0+j) undef;rw[Nat.zero_add]⟩
theorem AK:mb e Tryz.prog w 34 1 (aT .imm) qq:=eA EG Tryz.underlying34 (by kernel_rfl) (by decide)
theorem FM:mb e Tryz.prog w 175 3 (am.enc .imm) am.wf:=by
 intro fuel cs x h
 obtain⟨ys,n',-,-,hlen,-⟩:=DataW.trod_struct Tryz.underlying175 h
 obtain⟨a0,w0,l0,r0⟩:=aS Tryz.underlying175 h 0 _ rfl cU (by kernel_rfl)
 obtain⟨a1,w1,l1,r1⟩:=aS Tryz.underlying175 h 1 _ rfl cU (by kernel_rfl)
 obtain⟨a2,w2,l2,r2⟩:=aS Tryz.underlying175 h 2 _ rfl cU (by kernel_rfl)
 have hrow:=(bR r0 (bR r1 r2))
 exact⟨hlen.trans (by kernel_rfl),⟨a0,a1,a2⟩,⟨w0,w1,w2⟩,rfl,hrow.congr fun j _=>by show cs.getD j undef=cs.getD (0+j) undef;rw[Nat.zero_add]⟩
theorem DN:mb e Tryz.prog w 35 1 (bt .imm) sY:=eA FM Tryz.underlying35 (by kernel_rfl) (by decide)
theorem Em:mb e Tryz.prog w 179 3 (ah.enc .imm) ah.wf:=by
 intro fuel cs x h
 obtain⟨ys,n',-,-,hlen,-⟩:=DataW.trod_struct Tryz.underlying179 h
 obtain⟨a0,w0,l0,r0⟩:=aS Tryz.underlying179 h 0 _ rfl cU (by kernel_rfl)
 obtain⟨a1,w1,l1,r1⟩:=aS Tryz.underlying179 h 1 _ rfl cU (by kernel_rfl)
 obtain⟨a2,w2,l2,r2⟩:=aS Tryz.underlying179 h 2 _ rfl cU (by kernel_rfl)
 have hrow:=(bR r0 (bR r1 r2))
 exact⟨hlen.trans (by kernel_rfl),⟨a0,a1,a2⟩,⟨w0,w1,w2⟩,rfl,hrow.congr fun j _=>by show cs.getD j undef=cs.getD (0+j) undef;rw[Nat.zero_add]⟩
theorem A4:mb e Tryz.prog w 36 1 (aW .imm) qd:=eA Em Tryz.underlying36 (by kernel_rfl) (by decide)
theorem Hm:mb e Tryz.prog w 181 4 (aM.enc .imm) aM.wf:=by
 intro fuel cs x h
 obtain⟨ys,n',-,-,hlen,-⟩:=DataW.trod_struct Tryz.underlying181 h
 obtain⟨a0,w0,l0,r0⟩:=aS Tryz.underlying181 h 0 _ rfl cU (by kernel_rfl)
 obtain⟨a1,w1,l1,r1⟩:=aS Tryz.underlying181 h 1 _ rfl cU (by kernel_rfl)
 obtain⟨a2,w2,l2,r2⟩:=aS Tryz.underlying181 h 2 _ rfl cU (by kernel_rfl)
 obtain⟨a3,w3,l3,r3⟩:=aS Tryz.underlying181 h 3 _ rfl cU (by kernel_rfl)
 have hrow:=(bR r0 (bR r1 (bR r2 r3)))
 exact⟨hlen.trans (by kernel_rfl),⟨a0,a1,a2,a3⟩,⟨w0,w1,w2,w3⟩,rfl,hrow.congr fun j _=>by show cs.getD j undef=cs.getD (0+j) undef;rw[Nat.zero_add]⟩
theorem EL:mb e Tryz.prog w 37 1 (dA .imm) wy:=eA Hm Tryz.underlying37 (by kernel_rfl) (by decide)
theorem Ec:mb e Tryz.prog w 148 1 (ar.enc .imm) ar.wf:=by
 intro fuel cs x h
 obtain⟨ys,n',-,-,hlen,-⟩:=DataW.trod_struct Tryz.underlying148 h
 obtain⟨a0,w0,l0,r0⟩:=aS Tryz.underlying148 h 0 _ rfl rP (by kernel_rfl)
 have hrow:=r0
 exact⟨hlen.trans (by kernel_rfl),⟨a0⟩,w0,rfl,hrow.congr fun j _=>by show cs.getD j undef=cs.getD (0+j) undef;rw[Nat.zero_add]⟩
theorem Au:mb e Tryz.prog w 38 1 (cP .imm) qt:=eA Ec Tryz.underlying38 (by kernel_rfl) (by decide)
theorem EQ:mb e Tryz.prog w 314 2 (aJ.enc .imm) aJ.wf:=by
 intro fuel cs x h
 obtain⟨ys,n',-,-,hlen,-⟩:=DataW.trod_struct Tryz.underlying314 h
 obtain⟨a0,w0,l0,r0⟩:=aS Tryz.underlying314 h 0 _ rfl cU (by kernel_rfl)
 obtain⟨a1,w1,l1,r1⟩:=aS Tryz.underlying314 h 1 _ rfl cU (by kernel_rfl)
 have hrow:=(bR r0 r1)
 exact⟨hlen.trans (by kernel_rfl),⟨a0,a1⟩,⟨w0,w1⟩,rfl,hrow.congr fun j _=>by show cs.getD j undef=cs.getD (0+j) undef;rw[Nat.zero_add]⟩
theorem DI:mb e Tryz.prog w 232 1 (br .imm) sx:=eA EQ Tryz.underlying232 (by kernel_rfl) (by decide)
theorem Bl:mb e Tryz.prog w 39 1 (dm .imm) qi:=eA DI Tryz.underlying39 (by kernel_rfl) (by decide)
theorem EY:mb e Tryz.prog w 41 2 (aG.enc .imm) aG.wf:=by
 intro fuel cs x h
 obtain⟨ys,n',-,-,hlen,-⟩:=DataW.trod_struct Tryz.underlying41 h
 obtain⟨a0,w0,l0,r0⟩:=aS Tryz.underlying41 h 0 _ rfl Bl (by kernel_rfl)
 obtain⟨a1,w1,l1,r1⟩:=aS Tryz.underlying41 h 1 _ rfl rP (by kernel_rfl)
 have hrow:=(bR r0 r1)
 exact⟨hlen.trans (by kernel_rfl),⟨a0,a1⟩,⟨w0,w1⟩,rfl,hrow.congr fun j _=>by show cs.getD j undef=cs.getD (0+j) undef;rw[Nat.zero_add]⟩
theorem Eb:mb e Tryz.prog w 257 3 (ax.enc .imm) ax.wf:=by
 intro fuel cs x h
 obtain⟨ys,n',-,-,hlen,-⟩:=DataW.trod_struct Tryz.underlying257 h
 obtain⟨a0,w0,l0,r0⟩:=aS Tryz.underlying257 h 0 _ rfl cU (by kernel_rfl)
 obtain⟨a1,w1,l1,r1⟩:=aS Tryz.underlying257 h 1 _ rfl cU (by kernel_rfl)
 obtain⟨a2,w2,l2,r2⟩:=aS Tryz.underlying257 h 2 _ rfl cU (by kernel_rfl)
 have hrow:=(bR r0 (bR r1 r2))
 exact⟨hlen.trans (by kernel_rfl),⟨a0,a1,a2⟩,⟨w0,w1,w2⟩,rfl,hrow.congr fun j _=>by show cs.getD j undef=cs.getD (0+j) undef;rw[Nat.zero_add]⟩
theorem Ag:mb e Tryz.prog w 42 1 (bh .imm) qw:=eA Eb Tryz.underlying42 (by kernel_rfl) (by decide)
theorem Fy:mb e Tryz.prog w 44 2 (aK.enc .imm) aK.wf:=by
 intro fuel cs x h
 obtain⟨ys,n',-,-,hlen,-⟩:=DataW.trod_struct Tryz.underlying44 h
 obtain⟨a0,w0,l0,r0⟩:=aS Tryz.underlying44 h 0 _ rfl cU (by kernel_rfl)
 obtain⟨a1,w1,l1,r1⟩:=aS Tryz.underlying44 h 1 _ rfl Ag (by kernel_rfl)
 have hrow:=(bR r0 r1)
 exact⟨hlen.trans (by kernel_rfl),⟨a0,a1⟩,⟨w0,w1⟩,rfl,hrow.congr fun j _=>by show cs.getD j undef=cs.getD (0+j) undef;rw[Nat.zero_add]⟩
theorem Fo:mb e Tryz.prog w 46 3 (aV.enc .imm) aV.wf:=by
 intro fuel cs x h
 obtain⟨ys,n',-,-,hlen,-⟩:=DataW.trod_struct Tryz.underlying46 h
 obtain⟨a0,w0,l0,r0⟩:=aS Tryz.underlying46 h 0 _ rfl cU (by kernel_rfl)
 obtain⟨a1,w1,l1,r1⟩:=aS Tryz.underlying46 h 1 _ rfl cU (by kernel_rfl)
 obtain⟨a2,w2,l2,r2⟩:=aS Tryz.underlying46 h 2 _ rfl vW (by kernel_rfl)
 have hrow:=(bR r0 (bR r1 r2))
 exact⟨hlen.trans (by kernel_rfl),⟨a0,a1,a2⟩,⟨w0,w1,w2⟩,rfl,hrow.congr fun j _=>by show cs.getD j undef=cs.getD (0+j) undef;rw[Nat.zero_add]⟩
theorem Hh:mb e Tryz.prog w 48 5 (bq.enc .imm) bq.wf:=by
 intro fuel cs x h
 obtain⟨ys,n',-,-,hlen,-⟩:=DataW.trod_struct Tryz.underlying48 h
 obtain⟨a0,w0,l0,r0⟩:=aS Tryz.underlying48 h 0 _ rfl Fo (by kernel_rfl)
 obtain⟨a1,w1,l1,r1⟩:=aS Tryz.underlying48 h 1 _ rfl cU (by kernel_rfl)
 obtain⟨a2,w2,l2,r2⟩:=aS Tryz.underlying48 h 2 _ rfl cU (by kernel_rfl)
 have hrow:=(bR r0 (bR r1 r2))
 exact⟨hlen.trans (by kernel_rfl),⟨a0,a1,a2⟩,⟨w0,w1,w2⟩,rfl,hrow.congr fun j _=>by show cs.getD j undef=cs.getD (0+j) undef;rw[Nat.zero_add]⟩
theorem op_DHeap:mb e Tryz.prog w 50 24 (ac.enc .imm) ac.wf:=by
 intro fuel cs x h
 obtain⟨ys,n',-,-,hlen,-⟩:=DataW.trod_struct Tryz.underlying50 h
 obtain⟨a0,w0,l0,r0⟩:=aS Tryz.underlying50 h 0 _ rfl Ar (by kernel_rfl)
 obtain⟨a1,w1,l1,r1⟩:=aS Tryz.underlying50 h 1 _ rfl AK (by kernel_rfl)
 obtain⟨a2,w2,l2,r2⟩:=aS Tryz.underlying50 h 2 _ rfl DN (by kernel_rfl)
 obtain⟨a3,w3,l3,r3⟩:=aS Tryz.underlying50 h 3 _ rfl A4 (by kernel_rfl)
 obtain⟨a4,w4,l4,r4⟩:=aS Tryz.underlying50 h 4 _ rfl EL (by kernel_rfl)
 obtain⟨a5,w5,l5,r5⟩:=aS Tryz.underlying50 h 5 _ rfl Au (by kernel_rfl)
 obtain⟨a6,w6,l6,r6⟩:=aS Tryz.underlying50 h 6 _ rfl EY (by kernel_rfl)
 obtain⟨a7,w7,l7,r7⟩:=aS Tryz.underlying50 h 7 _ rfl Fy (by kernel_rfl)
 obtain⟨a8,w8,l8,r8⟩:=aS Tryz.underlying50 h 8 _ rfl cU (by kernel_rfl)
 obtain⟨a9,w9,l9,r9⟩:=aS Tryz.underlying50 h 9 _ rfl cU (by kernel_rfl)
 obtain⟨a10,w10,l10,r10⟩:=aS Tryz.underlying50 h 10 _ rfl cU (by kernel_rfl)
 obtain⟨a11,w11,l11,r11⟩:=aS Tryz.underlying50 h 11 _ rfl cU (by kernel_rfl)
 obtain⟨a12,w12,l12,r12⟩:=aS Tryz.underlying50 h 12 _ rfl BP (by kernel_rfl)
 obtain⟨a13,w13,l13,r13⟩:=aS Tryz.underlying50 h 13 _ rfl Hh (by kernel_rfl)
 have hrow:=(bR r0 (bR r1 (bR r2 (bR r3 (bR r4 (bR r5 (bR r6 (bR r7 (bR r8 (bR r9 (bR r10 (bR r11 (bR r12 r13)))))))))))))
 exact⟨hlen.trans (by kernel_rfl),⟨a0,a1,a2,a3,a4,a5,a6,a7,a8,a9,a10,a11,a12,a13⟩,⟨w0,w1,w2,w3,w4,w5,w6,w7,w8,w9,w10,w11,w12,w13⟩,rfl,hrow.congr fun j _=>by show cs.getD j undef=cs.getD (0+j) undef;rw[Nat.zero_add]⟩
end
end Go.Proofs.YtogajjgmcnjkbaaGreat.Ab
