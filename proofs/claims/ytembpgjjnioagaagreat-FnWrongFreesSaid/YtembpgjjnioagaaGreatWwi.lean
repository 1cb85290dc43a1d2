/- An object freed by whatever thread, an address freed that is none: the program's. No condition. (wkR, kP) -/
import Derived.Test.YtembpgjjnioagaaGreatWwd
import Derived.Test.YtembpgjjnioagaaGreatWwh
import Derived.Test.YtembpgjjnioagaaGreatWwg
import Derived.Laws.StructEq
import Derived.Test.YtembpgjjnioagaaGreatWwe
import Derived.Test.YtembpgjjnioagaaGreatWwf
import Derived.ProofKit
import Derived.OpenShut
import Derived.Deep.Slices
import Derived.Deep.Fields
import Derived.ChangeSame
import Derived.WideShapes
set_option linter.unusedVariables false
set_option linter.unusedSimpArgs false
set_option linter.constructorNameAsVariable false
namespace Go.Proofs.YtembpgjjnioagaaGreat.Ab
open Go.RowKit
set_option maxRecDepth 20000
set_option maxHeartbeats 4000000
theorem vq(m:aH)(k:Int)(a:aH.sml m):ao Tryz.prog 223 false [.val (some 2) (aH.enc .imm m),.val none [I k]] .one [B (decide (0<=k/\k<=m.Buffers.length - 1)&&b6 m)]:=by
 have b:=k4 m a;have g:m.Buffers.length<=1048576:=a.1.1;have c:=aN k 0 (m.Buffers.length - 1:Int);cases e:b6 m<;>rw[e]at b<;>cases d:decide (0<=k/\k<=(m.Buffers.length:Int) - 1)<;>rw[d]at c
 all_goals
  refine fO 15 [] Tryz.func223 rfl ?_
  repeat'(first|refine gO ?_|(conv=>whnf);first|refine C9 ?_|refine C6 (b) ?_|refine C6 (c) ?_)
  rfl
theorem HA(m:aH)(f:Nat)(p:cG)(k:b6 m=true)(d:f<m.Buffers.length):ao Tryz.prog 137 false [.val (some 2) (aH.enc .imm m),.val none [I (f:Nat)],.val (some 2) (cG.enc .imm p)] (.tup [some 2,none]) (aH.enc .own (if b6 (eg m f p)=true then eg m f p else m)++[B (b6 (eg m f p))]):=by
 have c:=jt.of k;have l:=c.sml;have q:=c.b4;have g:=vq m f l;rw[k,O0 ω]at g;have n:=pk m l;have h:=y5 c d p;have i:=k4 (eg m f p) h;have a:=NP d;have o:=c.bl f d;have j:=aH.enc_fz (eg m f p);have b:=CX (eg m f p);rw[rG]at j b;cases e:b6 (eg m f p)<;>rw[e]at i
 ·rw[C7 (by simp)]
  refine fO 35 [(4,267,[17,18,19,20,21,22,23,24,25,26,28,0,1,2,3,4,5,6,7,8,9,10,1000,1001,1002,11,12])] Tryz.func137 rfl ?_ (.inr (aM (CX _) ⟨trivial,trivial⟩))
  repeat'(first|refine gO ?_|(conv=>whnf);first|with_reducible refine CA (aa a) ?_|refine C9 ?_|refine CA (dn a) ?_|refine CF rfl (dn a) rfl ?_|refine C6 (g) ?_|refine C6 (n) ?_|refine Lq.one rfl rfl (aa a) rfl (X0 rfl) rfl rfl ?_|refine CF rfl (aa a) rfl ?_|refine CL rfl rfl (dn a) rfl (X0 rfl) (show [C.s dw.own ((m.Buffers.map (bN .own)).set f (bN .own (nth m.Buffers f++[p]))),C.s .own (m.Inbox.map (aD .own))]=_ from by simp only[List.set_cons_zero,List.set_set,I2];rfl) ?_|refine CT (aI λ_=>rfl) rfl (by simp;omega) (by decide) (ew _ _ _) ?_|refine CD (i) ⟨⟨rfl,j⟩,trivial⟩ ?_)
  rfl
 ·rw[C8 rfl,rG]
  refine fO 35 [(4,267,[17,18,19,20,21,22,23,24,25,26,28,0,1,2,3,4,5,6,7,8,9,10,1000,1001,1002,11,12])] Tryz.func137 rfl ?_ (.inr (aM b ⟨trivial,trivial⟩))
  repeat'(first|refine gO ?_|(conv=>whnf);first|with_reducible refine CA (aa a) ?_|refine C9 ?_|refine CA (dn a) ?_|refine CF rfl (dn a) rfl ?_|refine C6 (g) ?_|refine C6 (n) ?_|refine Lq.one rfl rfl (aa a) rfl (X0 rfl) rfl rfl ?_|refine CF rfl (aa a) rfl ?_|refine CL rfl rfl (dn a) rfl (X0 rfl) (show [C.s dw.own ((m.Buffers.map (bN .own)).set f (bN .own (nth m.Buffers f++[p]))),C.s .own (m.Inbox.map (aD .own))]=_ from by simp only[List.set_cons_zero,List.set_set,I2];rfl) ?_|refine CT (aI λ_=>rfl) rfl (by simp;omega) (by decide) (ew _ _ _) ?_|refine CD (i) ⟨⟨rfl,j⟩,trivial⟩ ?_)
  rfl
def P7(sp:List au)(la:List ax)(a:Int):Int:=if(denotes sp la a).Kind=0 then 3 else if(denotes sp la a).Offset≠0 then 1 else if(denotes sp la a).Kind=2 then 2 else 0
theorem Bi(sp:List au)(la:List ax)(a:Int)(b:dd sp)(c:db la)(d:bg sp la=true):ao Tryz.prog 221 false [.val none (bR .imm sp),.val none (bC .imm la),.val none [I a]] .agg (gJ.enc .own (denotes sp la a)):=by
 have g:=i7 sp la a b c;have e:=lc sp la b c;rw[d]at e;refine fO 16 [] Tryz.func221 rfl ?_ (.inr (gJ.enc_fr _))
 repeat'(first|refine gO ?_|(conv=>whnf);first|refine C9 ?_|refine C6 (g) ?_|refine C6 (e) ?_)
 rfl
theorem xG(sp:List au)(la:List ax)(a:Int)(d:dd sp)(e:db la)(b:bg sp la=true):ao Tryz.prog 130 false [.val none (bR .imm sp),.val none (bC .imm la),.val none [I a]] .one [I (P7 sp la a)]:=by
 have c:=Bi sp la a d e b;unfold P7;generalize denotes sp la a=w at *;by_cases g:w.Kind=0
 ·rw[C8 g]
  refine fO 24 [] Tryz.func130 rfl ?_
  repeat'(first|refine gA ?_|(conv=>whnf);first|refine C9 ?_|refine C6 (c) ?_|refine C9 ?_)
  rfl
 rw[C7 g];by_cases h:w.Offset≠0
 ·rw[C8 h]
  refine fO 24 [] Tryz.func130 rfl ?_
  repeat'(first|refine gA ?_|(conv=>whnf);first|refine C9 ?_|refine C6 (c) ?_|refine C9 ?_)
  rfl
 rw[C7 h];by_cases i:w.Kind=2
 ·rw[C8 i]
  refine fO 24 [] Tryz.func130 rfl ?_
  repeat'(first|refine gA ?_|(conv=>whnf);first|refine C9 ?_|refine C6 (c) ?_|refine C9 ?_)
  rfl
 ·rw[C7 i]
  refine fO 24 [] Tryz.func130 rfl ?_
  repeat'(first|refine gA ?_|(conv=>whnf);first|refine C9 ?_|refine C6 (c) ?_|refine C9 ?_)
  rfl
def Pm(h:ab)(a:Int):Int:=if P7 h.Spans h.Larges a=3 then 2 else if P7 h.Spans h.Larges a=1 then 3 else 4
theorem Ek(h:ab)(t:Nat)(a:Int)(o:ab.sml h)(k:bn h [])(B:h.Kernel.Calls≠100000)(C:t<h.Caches.length)(e:cX (fL a) h.Objs = -1):ao Tryz.prog 52 false [.val (some 24) (ab.enc .imm h),.val none [I (t:Nat)],.val none [I a]] (.tup [some 24,none]) (gq h++[I (Pm h a)]):=by
 have g:=jf h o;rw[lE,k.to]at g;have b:=k.lens;have r:=b.objs;have u:=b.caches;have w:=b.spans;have y:=b.larges;have i:=aN (t:Nat) 0 (h.Caches.length - 1:Int);rw[O0 ω]at i;have j:=pW h a ω;rw[e]at j;have l:=w7 h o;have n:=xG h.Spans h.Larges a ⟨ω,λ_ _=>trivial⟩ ⟨ω,λ_ _=>trivial⟩ k.lay;unfold Pm;generalize P7 h.Spans h.Larges a=c at *;by_cases p:c=3
 ·rw[C8 p]
  refine fP 163 [(131,[1,0,0]),(134,[1,0,0]),(135,[2,0]),(136,[2,0,0]),(139,[2,0,0])] [(20,12,[85,86,87,88,89,90,91,92,93,94,95,96]),(24,4,[111,112,113,114])] Tryz.func52 rfl ?_ (.inr (aM (iQ _) ⟨trivial,trivial⟩))
  repeat'(first|refine gA ?_|(conv=>whnf);first|with_reducible refine Bf.D (λd=>?_) (λd=>?_)|refine C9 ?_|refine C6 (i) ?_|refine C6 (g) ?_|refine C6 (j) ?_|refine C6 (l) ?_|refine C6 (n) ?_)
  rfl
 rw[C7 p];by_cases q:c=1
 ·rw[C8 q]
  refine fP 163 [(131,[1,0,0]),(134,[1,0,0]),(135,[2,0]),(136,[2,0,0]),(139,[2,0,0])] [(20,12,[85,86,87,88,89,90,91,92,93,94,95,96]),(24,4,[111,112,113,114])] Tryz.func52 rfl ?_ (.inr (aM (iQ _) ⟨trivial,trivial⟩))
  repeat'(first|refine gA ?_|(conv=>whnf);first|with_reducible refine Bf.D (λd=>?_) (λd=>?_)|refine C9 ?_|refine C6 (i) ?_|refine C6 (g) ?_|refine C6 (j) ?_|refine C6 (l) ?_|refine C6 (n) ?_)
  rfl
 ·rw[C7 q]
  refine fP 163 [(131,[1,0,0]),(134,[1,0,0]),(135,[2,0]),(136,[2,0,0]),(139,[2,0,0])] [(20,12,[85,86,87,88,89,90,91,92,93,94,95,96]),(24,4,[111,112,113,114])] Tryz.func52 rfl ?_ (.inr (aM (iQ _) ⟨trivial,trivial⟩))
  repeat'(first|refine gA ?_|(conv=>whnf);first|with_reducible refine Bf.D (λd=>?_) (λd=>?_)|refine C9 ?_|refine C6 (i) ?_|refine C6 (g) ?_|refine C6 (j) ?_|refine C6 (l) ?_|refine C6 (n) ?_)
  rfl
theorem zQ(h:ab)(o:bm)(t:Nat)(S:ab.sml h)(N:fo h=true)(hc:h.Kernel.Calls≠100000)(F:o∈h.Objs)(T:t<h.Caches.length):ao Tryz.prog 52 false [.val (some 24) (ab.enc .imm h),.val none [I (t:Nat)],.val none [I o.Addr]] (.tup [some 24,none]) (gq (freeT h t (gX h o.Addr)).1++[I (freeT h t (gX h o.Addr)).2]):=by
 by_cases U:o.Thread=t
 ·have hh:=x5 h o t S N hc F U
  rwa [<-sA (by obtain⟨-,d,-⟩:=(bn.of N).objAt F;rw[d];exact U)]at hh
 have b:=bn.of N;have G:=jf h S;rw[lE,N]at G;obtain⟨r,d,H⟩:=b.objAt F;have j:=nQ b F;have hon:=b.onu o F;have a:=b.lens;have hno:=a.objs;have hnl:=a.larges;have hlc:=a.caches;have J:=aN (t:Nat) 0 (h.Caches.length - 1:Int);rw[O0 ω]at J;have C:=pW h o.Addr ω;rw[H]at C;have K:=vo h S (fV r);generalize gX h o.Addr=i at r d C;subst d;have O:=ah r;have P:=m6 (nth h.Objs i).Size;have u:=uL h.Objs i r;have V:=bp b.ker;have W:=eK h.Kernel.Machine.Table ((nth h.Objs i).Addr / 16) V.1.2;have p:gq h=cE h (oS h) (oL h) (.s .own (h.Objs.map (bm.enc .own))):=by unfold gq oO;rw[vb λe=>fV r (List.map_eq_nil_iff.1 e)]
 unfold freeT;by_cases n:aK (nth h.Objs i).Size<0
 ·rw[C8 n]
  obtain⟨l,hl,h1,-⟩:=(d2 b (am r)).1 n;obtain⟨M,ea,-,X⟩:=q8 hl h1;have Y:=mS h.Larges (LO (nth h.Objs i).Addr) ω;rw[show cX (LO (nth h.Objs i).Addr) h.Larges=(rj h (nth h.Objs i).Addr:Nat) by unfold cX LO;rw[X]]at Y;generalize rj h (nth h.Objs i).Addr=g at M ea Y;have hf:=aS (b.L.lok _ (am M));have Z:=ah M;have E:=qZ h.Larges g M;have Q:=ka {h with Objs:=dele h.Objs i,Larges:=dele h.Larges g} ⟨(nth h.Larges g).Page,(nth h.Larges g).Pages⟩ (nth h.Larges g).Pages.toNat b.ker hc (by show h.Free.length<=_;have:=a.free;omega) ⟨by show(nth h.Larges g).Pages=_;omega,by show 0<=(nth h.Larges g).Page;omega,by show(nth h.Larges g).Page<=_;omega,ω⟩;have hg:gq {h with Objs:=dele h.Objs i,Larges:=dele h.Larges g} = cE h (oS h) (oE ((dele h.Larges g).map (ax.enc .own))) (oE ((dele h.Objs i).map (bm.enc .own))):=rfl;have hol:oL h=.s .own (h.Larges.map (ax.enc .own)):=by unfold oL;rw[vb λe=>fV M (List.map_eq_nil_iff.1 e)]
  rw[hol]at K;rw[hg]at Q;have hpg:∀y∈h.Larges,0<=y.Page/\y.Page<=32:=λy hy=>by have:=aS (b.L.lok y hy);omega
  rcases oV (rows:=(dele h.Objs i).map (bm.enc .own)) with e|⟨-,e⟩<;>rcases oV (rows:=(dele h.Larges g).map (ax.enc .own)) with e'|⟨-,e'⟩
  all_goals
   rw[e]at u Q;rw[e']at E Q;refine fP 163 [(131,[1,0,0]),(134,[1,0,0]),(135,[2,0]),(136,[2,0,0]),(139,[2,0,0])] [(20,12,[85,86,87,88,89,90,91,92,93,94,95,96]),(24,4,[111,112,113,114])] Tryz.func52 rfl ?_ (.inr (aM (iQ _) ⟨trivial,trivial⟩))
   repeat'(first|refine gA ?_|(conv=>whnf);first|with_reducible refine Bf.D (λw=>?_) (λw=>?_)|refine C9 ?_|refine C6 (J) ?_|refine C6 (G) ?_|refine C6 (C) ?_|refine C6 (K) ?_|refine C6 (P) ?_|refine CA (aa O) ?_|refine CA (aa Z) ?_|refine Cq.mk (xW (some 3) (ax.enc .imm) (LO (nth h.Objs i).Addr) h.Larges) (kH ⟨0,0,0⟩ (nth h.Objs i).Addr ⟨by decide,by decide⟩).has (λL k rcs hQ=>?_) ?_|refine C6 (Y) ?_|refine CG (u) (.inl rfl) ?_|refine CG (E) (.inl rfl) ?_|refine CG (Q) (.inl rfl) ?_)
   ·obtain⟨y,hy,rfl,rfl,rfl⟩:=hQ
    exact kH y _ (hpg y hy)
   ·rfl
 rw[C7 n];obtain⟨s1,s2,s3,s4⟩:=Pr.of b (am r) n;have hcz:=Al s1;by_cases R:(ar (tbl h) ((nth h.Objs i).Addr / 16)).Mode=1
 ·rw[C8 R]
  unfold tbl at R;have c:=iQ h;simp only;rw[p]at c |-;rcases oV (rows:=(dele h.Objs i).map (bm.enc .own)) with e|⟨-,e⟩
  all_goals
   rw[e]at u;refine fP 163 [(131,[1,0,0]),(134,[1,0,0]),(135,[2,0]),(136,[2,0,0]),(139,[2,0,0])] [(20,12,[85,86,87,88,89,90,91,92,93,94,95,96]),(24,4,[111,112,113,114])] Tryz.func52 rfl ?_ (.inr (aM c ⟨trivial,trivial⟩))
   repeat'(first|refine gA ?_|(conv=>whnf);first|with_reducible refine Bf.D (λw=>?_) (λw=>?_)|refine C9 ?_|refine CK (by decide) ?_|refine CI (js j) ?_|refine C6 (J) ?_|refine C6 (G) ?_|refine C6 (C) ?_|refine C6 (K) ?_|refine C6 (P) ?_|refine CA (aa O) ?_|refine CG (u) (.inl rfl) ?_|refine C6 (W) ?_)
   rfl
 rw[C7 R,C7 U];unfold tbl at R;have c:=iQ h;have q:=iQ (zf h t i);have B:=d7 (aK (nth h.Objs i).Size);rw[show csz (aK (nth h.Objs i).Size)=((csz (aK (nth h.Objs i).Size)).toNat:Nat) by omega]at B;have cS:=HA h.Mail t ⟨(nth h.Objs i).Thread,(nth h.Objs i).Addr⟩ b.mail (by rw[<-b.nc];exact T);rcases oV (rows:=(dele h.Objs i).map (bm.enc .own)) with e|⟨-,e⟩
 all_goals
  have hoo:oO (zf h t i)=_:=e;rw[e]at u;have E:=mN h (oS h) (oL h) (oE ((dele h.Objs i).map (bm.enc .own))) (nth h.Objs i).Addr (csz (aK (nth h.Objs i).Size)).toNat b.ker j s2 ω s4;rw[e]at E;cases em:b6 (eg h.Mail t ⟨(nth h.Objs i).Thread,(nth h.Objs i).Addr⟩)<;>rw[em]at cS
  ·rw[C7 (by simp)]at cS |-
   simp only;rw[p]at c |-;refine fP 163 [(131,[1,0,0]),(134,[1,0,0]),(135,[2,0]),(136,[2,0,0]),(139,[2,0,0])] [(20,12,[85,86,87,88,89,90,91,92,93,94,95,96]),(24,4,[111,112,113,114])] Tryz.func52 rfl ?_ (.inr (aM c ⟨trivial,trivial⟩))
   repeat'(first|refine gA ?_|(conv=>whnf);first|with_reducible refine Bf.D (λw=>?_) (λw=>?_)|refine C9 ?_|refine CK (by decide) ?_|refine CI (js j) ?_|refine C6 (J) ?_|refine C6 (G) ?_|refine C6 (C) ?_|refine C6 (K) ?_|refine C6 (P) ?_|refine CA (aa O) ?_|refine CG (u) (.inl rfl) ?_|refine C6 (W) ?_|refine C6 (B) ?_|refine CG (E) (.inl rfl) ?_|refine C6 (cS) ?_|refine C9 ?_)
   rfl
  ·rw[C8 rfl]at cS |-
   simp only;have he:gq (zf h t i)=cE (zf h t i) (oS h) (oL h) (oE ((dele h.Objs i).map (bm.enc .own))):=rfl;rw[he,e]at q |-;refine fP 163 [(131,[1,0,0]),(134,[1,0,0]),(135,[2,0]),(136,[2,0,0]),(139,[2,0,0])] [(20,12,[85,86,87,88,89,90,91,92,93,94,95,96]),(24,4,[111,112,113,114])] Tryz.func52 rfl ?_ (.inr (aM q ⟨trivial,trivial⟩))
   repeat'(first|refine gA ?_|(conv=>whnf);first|with_reducible refine Bf.D (λw=>?_) (λw=>?_)|refine C9 ?_|refine CK (by decide) ?_|refine CI (js j) ?_|refine C6 (J) ?_|refine C6 (G) ?_|refine C6 (C) ?_|refine C6 (K) ?_|refine C6 (P) ?_|refine CA (aa O) ?_|refine CG (u) (.inl rfl) ?_|refine C6 (W) ?_|refine C6 (B) ?_|refine CG (E) (.inl rfl) ?_|refine C6 (cS) ?_|refine C9 ?_)
   rfl
def rh(zs:List Int):Nat->List Int × hC
 | 0=>([],sD zs)
 | n+1=>((rh zs n).1++[(bt zs (rh zs n).2 10000).1],(bt zs (rh zs n).2 10000).2)
theorem Ar(zs:List Int):∀n,(rh zs n).2.i<=zs.length/\(rh zs n).1.length=n/\∀x∈(rh zs n).1,0<=x/\x<10000
 | 0=>⟨R0 _,rfl,λx a=>by cases a⟩
 | n+1=>by
  obtain⟨b,c,d⟩:=Ar zs n;refine⟨bL b _,by show((rh zs n).1++[_]).length=_;rw[W2,c];rfl,λx a=>?_⟩;rcases Q2.1 a with a|a
  ·exact d x a
  ·rw[Z0.1 a]
   exact bG zs (rh zs n).2 (n:=10000) (by decide)
theorem ug(zs:List Int)(a:iJ zs):ao Tryz.prog 23 false [.val none (NW zs)] .one (aD .own (rh zs 12).1):=by
 have b:=tC zs a;refine fP 19 [(92,[2,0]),(3000003,[])] [] Tryz.func23 rfl ?_ (.inr (bK _))
 repeat'(first|refine gO ?_|(conv=>whnf);first|refine Cl.g b (.inr rfl) ?_)
 (conv=>whnf)
 refine CC (ι:=Nat) (λi=>[(0,.hold .one (NW zs)),(3,.hold .box (gL zs (rh zs i).2)),(4,.hold .one (aD .own (rh zs i).1)),(5,.hold .one [I ((i:Nat):Int)])]) (λi=>i<=12) (λi=>12 - i) (0) ?_ (R0 _) λi j=>?_
 ·repeat'(first|exact trivial|rfl |exact kP c|exact dx _|refine CH ?_ ?_|(exact yP (by first|omega|(simp only;omega)|(simp;omega))))
 obtain⟨d,k,-⟩:=Ar zs i;by_cases l:i<12
 ·have e:=bJ zs (rh zs i).2 10000 a d (by decide)
  repeat'(first|refine gD ?_|(conv=>whnf);first|refine CG (e) (.inl rfl) ?_|refine CQ cx (λr h=>by rw[Z0.1 h];rfl) (by simp[aV,dC]) (by simp;omega) (by simp only[W0];exact yk (by simp;omega) (by decide)) rfl ?_)
  ((conv=>whnf);refine CB (i+1) ω ω ?_)
  repeat'(first|exact trivial|rfl| exact dx _ |exact kP (T0 (C.s dw.own) (by simp[rh,rI]))|refine CH ?_ ?_|(exact yP (by first|omega|(simp only;omega)|(simp;omega))))
 ·obtain rfl:i=12:=ω
  repeat'(first|refine gD ?_|fail)
  rfl
theorem nE(a:List Int)(d:a.length<=1048576):ao Tryz.prog 24 false [.val none (aD .imm a),.val none (aD .imm a)] .one [B true]:=by
 refine fO 26 [(6,8,[17,18,19,20,21,22,23,24])] Tryz.func24 rfl ?_
 repeat'(first|refine gA ?_|fail)
 (conv=>whnf)
 refine CC (ι:=Nat) (λi=>[(0,.hold .one (aD .imm a)),(1,.hold .one (aD .imm a)),(5,.hold .one [I ((i:Nat):Int)])]) (λi=>i<=a.length) (λi=>a.length - i) (0) ?_ (R0 _) λi e=>?_
 ·exact wC
 by_cases b:i<a.length
 ·have c:=ah b
  repeat'(first|refine gA ?_|(conv=>whnf);first|with_reducible refine CA (aa c) ?_)
  ((conv=>whnf);refine CB (i+1) ω ω ?_;(exact wC))
 ·repeat'(first|refine gD ?_|fail)
  rfl
theorem Bl(a:List Bool)(d:a.length<=1048576):ao Tryz.prog 326 false [.val none (om .imm a),.val none (om .imm a)] .one [B true]:=by
 refine fO 26 [(6,8,[17,18,19,20,21,22,23,24])] Tryz.func326 rfl ?_
 repeat'(first|refine gA ?_|fail)
 (conv=>whnf)
 refine CC (ι:=Nat) (λi=>[(0,.hold .one (om .imm a)),(1,.hold .one (om .imm a)),(5,.hold .one [I ((i:Nat):Int)])]) (λi=>i<=a.length) (λi=>a.length - i) (0) ?_ (R0 _) λi g=>?_
 ·exact wC
 by_cases c:i<a.length
 ·have b:=ah c
  cases e:nth a i<;>rw[e]at b
  all_goals
   repeat'(first|refine gA ?_|(conv=>whnf);first|with_reducible refine CA (aa b) ?_)
   ((conv=>whnf);refine CB (i+1) ω ω ?_;(exact wC))
 ·repeat'(first|refine gD ?_|fail)
  rfl
theorem HE(a b c d:Int):LS Tryz.prog .neq 131 [.int .i64 a,.int .i64 b] [.int .i64 c,.int .i64 d] (!(a == c&&(b == d))):=by
 refine⟨λx y w=>?_⟩;rw[Sem.run_bind,run_eqGuard_agg w .neq _ x y _ _ (by kernel_rfl)];simp only[Result.andThen_ok];rw[run_neq_struct,run_equalIn_agg w _ _ _ _ (by kernel_rfl) (by kernel_rfl)];simp only[Program.fieldsOf,Tryz.underlying131];simp only[Op.eqFields];simp[part,Sem.run_bind,run_equalIn_int _ _ _ _ _ _ _ Tryz.underlying3];by_cases e:a=c<;>by_cases f:b=d<;>simp[e,f]
theorem xO(a:List ay)(d:a.length<=1048576):ao Tryz.prog 118 false [.val none (bk .imm a),.val none (bk .imm a)] .one [B true]:=by
 refine fO 26 [(6,8,[17,18,19,20,21,22,23,24])] Tryz.func118 rfl ?_
 repeat'(first|refine gA ?_|fail)
 (conv=>whnf)
 refine CC (ι:=Nat) (λi=>[(0,.hold .one (bk .imm a)),(1,.hold .one (bk .imm a)),(5,.hold .one [I ((i:Nat):Int)])]) (λi=>i<=a.length) (λi=>a.length - i) (0) ?_ (R0 _) λi e=>?_
 ·exact wC
 by_cases c:i<a.length
 ·have b:=ah c
  repeat'(first|refine gD ?_|(conv=>whnf);first|with_reducible refine CA (aa b) ?_|refine CF rfl (aa b) rfl ?_|refine H0.mk (HE _ _ _ _) ?_|refine Bf.t (by simp only[beq_self_eq_true,Bool.and_self]) ?_)
  ((conv=>whnf);refine CB (i+1) ω ω ?_;(exact wC))
 ·repeat'(first|refine gD ?_|fail)
  rfl
theorem Hv(a b c d e f:Int):LS Tryz.prog .neq 185 [.int .i64 a,.int .i64 b,.int .i64 c] [.int .i64 d,.int .i64 e,.int .i64 f] (!(a == d&&(b == e&&(c == f)))):=by
 refine⟨λx y w=>?_⟩;rw[Sem.run_bind,run_eqGuard_agg w .neq _ x y _ _ (by kernel_rfl)];simp only[Result.andThen_ok];rw[run_neq_struct,run_equalIn_agg w _ _ _ _ (by kernel_rfl) (by kernel_rfl)];simp only[Program.fieldsOf,Tryz.underlying185];simp only[Op.eqFields];simp[part,Sem.run_bind,run_equalIn_int _ _ _ _ _ _ _ Tryz.underlying3];by_cases g:a=d<;>by_cases h:b=e<;>by_cases i:c=f<;>simp[g,h,i]
theorem zL(a:List aL)(d:a.length<=1048576):ao Tryz.prog 123 false [.val none (bQ .imm a),.val none (bQ .imm a)] .one [B true]:=by
 refine fO 26 [(6,8,[17,18,19,20,21,22,23,24])] Tryz.func123 rfl ?_
 repeat'(first|refine gA ?_|fail)
 (conv=>whnf)
 refine CC (ι:=Nat) (λi=>[(0,.hold .one (bQ .imm a)),(1,.hold .one (bQ .imm a)),(5,.hold .one [I ((i:Nat):Int)])]) (λi=>i<=a.length) (λi=>a.length - i) (0) ?_ (R0 _) λi e=>?_
 ·exact wC
 by_cases c:i<a.length
 ·have b:=ah c
  repeat'(first|refine gD ?_|(conv=>whnf);first|with_reducible refine CA (aa b) ?_|refine CF rfl (aa b) rfl ?_|refine H0.mk (Hv _ _ _ _ _ _) ?_|refine Bf.t (by simp only[beq_self_eq_true,Bool.and_self]) ?_)
  ((conv=>whnf);refine CB (i+1) ω ω ?_;(exact wC))
 ·repeat'(first|refine gD ?_|fail)
  rfl
theorem KT(a b c d e f:Int):LS Tryz.prog .neq 75 [.int .i64 a,.int .i64 b,.int .i64 c] [.int .i64 d,.int .i64 e,.int .i64 f] (!(a == d&&(b == e&&(c == f)))):=by
 refine⟨λx y w=>?_⟩;rw[Sem.run_bind,run_eqGuard_agg w .neq _ x y _ _ (by kernel_rfl)];simp only[Result.andThen_ok];rw[run_neq_struct,run_equalIn_agg w _ _ _ _ (by kernel_rfl) (by kernel_rfl)];simp only[Program.fieldsOf,Tryz.underlying75];simp only[Op.eqFields];simp[part,Sem.run_bind,run_equalIn_int _ _ _ _ _ _ _ Tryz.underlying3];by_cases g:a=d<;>by_cases h:b=e<;>by_cases i:c=f<;>simp[g,h,i]
theorem xt(a:List au)(d:a.length<=1048576):ao Tryz.prog 37 false [.val none (bR .imm a),.val none (bR .imm a)] .one [B true]:=by
 refine fO 26 [(6,8,[17,18,19,20,21,22,23,24])] Tryz.func37 rfl ?_
 repeat'(first|refine gA ?_|fail)
 (conv=>whnf)
 refine CC (ι:=Nat) (λi=>[(0,.hold .one (bR .imm a)),(1,.hold .one (bR .imm a)),(5,.hold .one [I ((i:Nat):Int)])]) (λi=>i<=a.length) (λi=>a.length - i) (0) ?_ (R0 _) λi e=>?_
 ·exact wC
 by_cases c:i<a.length
 ·have b:=ah c
  repeat'(first|refine gD ?_|(conv=>whnf);first|with_reducible refine CA (aa b) ?_|refine CF rfl (aa b) rfl ?_|refine H0.mk (KT _ _ _ _ _ _) ?_|refine Bf.t (by simp only[beq_self_eq_true,Bool.and_self]) ?_)
  ((conv=>whnf);refine CB (i+1) ω ω ?_;(exact wC))
 ·repeat'(first|refine gD ?_|fail)
  rfl
theorem Hk(a b c d e f:Int):LS Tryz.prog .neq 173 [.int .i64 a,.int .i64 b,.int .i64 c] [.int .i64 d,.int .i64 e,.int .i64 f] (!(a == d&&(b == e&&(c == f)))):=by
 refine⟨λx y w=>?_⟩;rw[Sem.run_bind,run_eqGuard_agg w .neq _ x y _ _ (by kernel_rfl)];simp only[Result.andThen_ok];rw[run_neq_struct,run_equalIn_agg w _ _ _ _ (by kernel_rfl) (by kernel_rfl)];simp only[Program.fieldsOf,Tryz.underlying173];simp only[Op.eqFields];simp[part,Sem.run_bind,run_equalIn_int _ _ _ _ _ _ _ Tryz.underlying3];by_cases g:a=d<;>by_cases h:b=e<;>by_cases i:c=f<;>simp[g,h,i]
theorem yi(a:List ax)(d:a.length<=1048576):ao Tryz.prog 119 false [.val none (bC .imm a),.val none (bC .imm a)] .one [B true]:=by
 refine fO 26 [(6,8,[17,18,19,20,21,22,23,24])] Tryz.func119 rfl ?_
 repeat'(first|refine gA ?_|fail)
 (conv=>whnf)
 refine CC (ι:=Nat) (λi=>[(0,.hold .one (bC .imm a)),(1,.hold .one (bC .imm a)),(5,.hold .one [I ((i:Nat):Int)])]) (λi=>i<=a.length) (λi=>a.length - i) (0) ?_ (R0 _) λi e=>?_
 ·exact wC
 by_cases c:i<a.length
 ·have b:=ah c
  repeat'(first|refine gD ?_|(conv=>whnf);first|with_reducible refine CA (aa b) ?_|refine CF rfl (aa b) rfl ?_|refine H0.mk (Hk _ _ _ _ _ _) ?_|refine Bf.t (by simp only[beq_self_eq_true,Bool.and_self]) ?_)
  ((conv=>whnf);refine CB (i+1) ω ω ?_;(exact wC))
 ·repeat'(first|refine gD ?_|fail)
  rfl
theorem MN(a b c d e f g h:Int):LS Tryz.prog .neq 71 [.int .i64 a,.int .i64 b,.int .i64 c,.int .i64 d] [.int .i64 e,.int .i64 f,.int .i64 g,.int .i64 h] (!(a == e&&(b == f&&(c == g&&(d == h))))):=by
 refine⟨λx y w=>?_⟩;rw[Sem.run_bind,run_eqGuard_agg w .neq _ x y _ _ (by kernel_rfl)];simp only[Result.andThen_ok];rw[run_neq_struct,run_equalIn_agg w _ _ _ _ (by kernel_rfl) (by kernel_rfl)];simp only[Program.fieldsOf,Tryz.underlying71];simp only[Op.eqFields];simp[part,Sem.run_bind,run_equalIn_int _ _ _ _ _ _ _ Tryz.underlying3];by_cases i:a=e<;>by_cases j:b=f<;>by_cases k:c=g<;>by_cases l:d=h<;>simp[i,j,k,l]
theorem Db(a:List bm)(d:a.length<=1048576):ao Tryz.prog 120 false [.val none (jn .imm a),.val none (jn .imm a)] .one [B true]:=by
 refine fO 26 [(6,8,[17,18,19,20,21,22,23,24])] Tryz.func120 rfl ?_
 repeat'(first|refine gA ?_|fail)
 (conv=>whnf)
 refine CC (ι:=Nat) (λi=>[(0,.hold .one (jn .imm a)),(1,.hold .one (jn .imm a)),(5,.hold .one [I ((i:Nat):Int)])]) (λi=>i<=a.length) (λi=>a.length - i) (0) ?_ (R0 _) λi e=>?_
 ·exact wC
 by_cases c:i<a.length
 ·have b:=ah c
  repeat'(first|refine gD ?_|(conv=>whnf);first|with_reducible refine CA (aa b) ?_|refine CF rfl (aa b) rfl ?_|refine H0.mk (MN _ _ _ _ _ _ _ _) ?_|refine Bf.t (by simp only[beq_self_eq_true,Bool.and_self]) ?_)
  ((conv=>whnf);refine CB (i+1) ω ω ?_;(exact wC))
 ·repeat'(first|refine gD ?_|fail)
  rfl
theorem H8(a b c d:Int):LS Tryz.prog .neq 134 [.int .i64 a,.int .i64 b] [.int .i64 c,.int .i64 d] (!(a == c&&(b == d))):=by
 refine⟨λx y w=>?_⟩;rw[Sem.run_bind,run_eqGuard_agg w .neq _ x y _ _ (by kernel_rfl)];simp only[Result.andThen_ok];rw[run_neq_struct,run_equalIn_agg w _ _ _ _ (by kernel_rfl) (by kernel_rfl)];simp only[Program.fieldsOf,Tryz.underlying134];simp only[Op.eqFields];simp[part,Sem.run_bind,run_equalIn_int _ _ _ _ _ _ _ Tryz.underlying3];by_cases e:a=c<;>by_cases f:b=d<;>simp[e,f]
theorem wH(a:List bi)(d:a.length<=1048576):ao Tryz.prog 264 false [.val none (lC .imm a),.val none (lC .imm a)] .one [B true]:=by
 refine fO 26 [(6,8,[17,18,19,20,21,22,23,24])] Tryz.func264 rfl ?_
 repeat'(first|refine gA ?_|fail)
 (conv=>whnf)
 refine CC (ι:=Nat) (λi=>[(0,.hold .one (lC .imm a)),(1,.hold .one (lC .imm a)),(5,.hold .one [I ((i:Nat):Int)])]) (λi=>i<=a.length) (λi=>a.length - i) (0) ?_ (R0 _) λi e=>?_
 ·exact wC
 by_cases c:i<a.length
 ·have b:=ah c
  repeat'(first|refine gD ?_|(conv=>whnf);first|with_reducible refine CA (aa b) ?_|refine CF rfl (aa b) rfl ?_|refine H0.mk (H8 _ _ _ _) ?_|refine Bf.t (by simp only[beq_self_eq_true,Bool.and_self]) ?_)
  ((conv=>whnf);refine CB (i+1) ω ω ?_;(exact wC))
 ·repeat'(first|refine gD ?_|fail)
  rfl
theorem KC(a b c d:Int):LS Tryz.prog .neq 181 [.int .i64 a,.int .i64 b] [.int .i64 c,.int .i64 d] (!(a == c&&(b == d))):=by
 refine⟨λx y w=>?_⟩;rw[Sem.run_bind,run_eqGuard_agg w .neq _ x y _ _ (by kernel_rfl)];simp only[Result.andThen_ok];rw[run_neq_struct,run_equalIn_agg w _ _ _ _ (by kernel_rfl) (by kernel_rfl)];simp only[Program.fieldsOf,Tryz.underlying181];simp only[Op.eqFields];simp[part,Sem.run_bind,run_equalIn_int _ _ _ _ _ _ _ Tryz.underlying3];by_cases e:a=c<;>by_cases f:b=d<;>simp[e,f]
theorem zP(a:List cG)(d:a.length<=1048576):ao Tryz.prog 265 false [.val none (bN .imm a),.val none (bN .imm a)] .one [B true]:=by
 refine fO 26 [(6,8,[17,18,19,20,21,22,23,24])] Tryz.func265 rfl ?_
 repeat'(first|refine gA ?_|fail)
 (conv=>whnf)
 refine CC (ι:=Nat) (λi=>[(0,.hold .one (bN .imm a)),(1,.hold .one (bN .imm a)),(5,.hold .one [I ((i:Nat):Int)])]) (λi=>i<=a.length) (λi=>a.length - i) (0) ?_ (R0 _) λi e=>?_
 ·exact wC
 by_cases c:i<a.length
 ·have b:=ah c
  repeat'(first|refine gD ?_|(conv=>whnf);first|with_reducible refine CA (aa b) ?_|refine CF rfl (aa b) rfl ?_|refine H0.mk (KC _ _ _ _) ?_|refine Bf.t (by simp only[beq_self_eq_true,Bool.and_self]) ?_)
  ((conv=>whnf);refine CB (i+1) ω ω ?_;(exact wC))
 ·repeat'(first|refine gD ?_|fail)
  rfl
theorem mq(a:List (List Int))(g:a.length<=1048576)(d:∀l∈a,l.length<=1048576):ao Tryz.prog 199 false [.val none (fX .imm a),.val none (fX .imm a)] .one [B true]:=by
 refine fO 27 [(6,8,[17,18,19,20,21,22,23,24])] Tryz.func199 rfl ?_
 repeat'(first|refine gA ?_|fail)
 (conv=>whnf)
 refine CC (ι:=Nat) (λi=>[(0,.hold .one (fX .imm a)),(1,.hold .one (fX .imm a)),(5,.hold .one [I ((i:Nat):Int)])]) (λi=>i<=a.length) (λi=>a.length - i) (0) ?_ (R0 _) λi h=>?_
 ·exact wC
 by_cases b:i<a.length
 ·have c:=ah b
  have e:=nE (nth a i) (d _ (am b))
  repeat'(first|refine gD ?_|(conv=>whnf);first|with_reducible refine CA (aa c) ?_|refine CF rfl (aa c) rfl ?_|refine C6 (e) ?_)
  ((conv=>whnf);refine CB (i+1) ω ω ?_;(exact wC))
 ·repeat'(first|refine gD ?_|fail)
  rfl
theorem wP(a:List (List cG))(g:a.length<=1048576)(d:∀l∈a,l.length<=1048576):ao Tryz.prog 200 false [.val none (jU .imm a),.val none (jU .imm a)] .one [B true]:=by
 refine fO 27 [(6,8,[17,18,19,20,21,22,23,24])] Tryz.func200 rfl ?_
 repeat'(first|refine gA ?_|fail)
 (conv=>whnf)
 refine CC (ι:=Nat) (λi=>[(0,.hold .one (jU .imm a)),(1,.hold .one (jU .imm a)),(5,.hold .one [I ((i:Nat):Int)])]) (λi=>i<=a.length) (λi=>a.length - i) (0) ?_ (R0 _) λi h=>?_
 ·exact wC
 by_cases b:i<a.length
 ·have c:=ah b
  have e:=zP (nth a i) (d _ (am b))
  repeat'(first|refine gD ?_|(conv=>whnf);first|with_reducible refine CA (aa c) ?_|refine CF rfl (aa c) rfl ?_|refine C6 (e) ?_)
  ((conv=>whnf);refine CB (i+1) ω ω ?_;(exact wC))
 ·repeat'(first|refine gD ?_|fail)
  rfl
theorem xo(a:List aA)(h:a.length<=1048576)(d:∀c∈a,c.Lists.length<=1048576/\∀l∈c.Lists,l.length<=1048576):ao Tryz.prog 121 false [.val none (iu .imm a),.val none (iu .imm a)] .one [B true]:=by
 refine fO 29 [(6,10,[17,18,19,20,21,22,23,24,25,26])] Tryz.func121 rfl ?_
 repeat'(first|refine gA ?_|fail)
 (conv=>whnf)
 refine CC (ι:=Nat) (λi=>[(0,.hold .one (iu .imm a)),(1,.hold .one (iu .imm a)),(5,.hold .one [I ((i:Nat):Int)])]) (λi=>i<=a.length) (λi=>a.length - i) (0) ?_ (R0 _) λi j=>?_
 ·exact wC
 by_cases b:i<a.length
 ·have e:=ah b
  have g:=mq (nth a i).Lists (d _ (am b)).1 (d _ (am b)).2
  repeat'(first|refine gD ?_|(conv=>whnf);first|with_reducible refine CA (aa e) ?_|refine CF rfl (aa e) rfl ?_|refine C6 (g) ?_)
  ((conv=>whnf);refine CB (i+1) ω ω ?_;(exact wC))
 ·repeat'(first|refine gD ?_|fail)
  rfl
theorem yo(a:aU)(b:aU.sml a):ao Tryz.prog 263 false [.val (some 2) (aU.enc .imm a),.val (some 2) (aU.enc .imm a)] .one [B true]:=by
 have c:=mq a.Cells b.1.1 b.1.2;have d:=Bl a.Used b.2;refine fO 17 [] Tryz.func263 rfl ?_
 repeat'(first|refine gA ?_|(conv=>whnf);first|refine C6 (c) ?_|refine C6 (d) ?_)
 rfl
theorem vC(a:aQ)(b:aQ.sml a):ao Tryz.prog 198 false [.val (some 3) (aQ.enc .imm a),.val (some 3) (aQ.enc .imm a)] .one [B true]:=by
 have c:=yo a.Frames b.1;have d:=wH a.Table.Entries b.2.1;refine fO 19 [] Tryz.func198 rfl ?_
 repeat'(first|refine gA ?_|(conv=>whnf);first|refine C6 (c) ?_|refine C6 (d) ?_)
 rfl
theorem xN(a:af)(b:af.sml a):ao Tryz.prog 117 false [.val (some 5) (af.enc .imm a),.val (some 5) (af.enc .imm a)] .one [B true]:=by
 have c:=vC a.Machine b.1;have d:=nE a.Refuse b.2;refine fO 24 [] Tryz.func117 rfl ?_
 repeat'(first|refine gA ?_|(conv=>whnf);first|refine C6 (c) ?_|refine C6 (d) ?_)
 rfl
theorem EE(a:cj)(b:cj.sml a):ao Tryz.prog 124 false [.val (some 5) (cj.enc .imm a),.val (some 5) (cj.enc .imm a)] .one [B true]:=by
 have c:=nE a.Plan.Cells b;refine fO 44 [] Tryz.func124 rfl ?_
 repeat'(first|refine gA ?_|(conv=>whnf);first|refine C6 (c) ?_)
 exact T0 (λz=>[B z]) (beq_self_eq_true _)
theorem Da(a:aH)(b:aH.sml a):ao Tryz.prog 122 false [.val (some 2) (aH.enc .imm a),.val (some 2) (aH.enc .imm a)] .one [B true]:=by
 have c:=wP a.Buffers b.1.1 (λl d=>(b.1.2 l d).1);have e:=mq a.Inbox b.2.1 b.2.2;refine fO 17 [] Tryz.func122 rfl ?_
 repeat'(first|refine gA ?_|(conv=>whnf);first|refine C6 (c) ?_|refine C6 (e) ?_)
 rfl
theorem B6(a:ab)(d:ab.sml a):ao Tryz.prog 47 false [.val (some 24) (ab.enc .imm a),.val (some 24) (ab.enc .imm a)] .one [B true]:=by
 obtain⟨g,h,i,j,k,b,l,n,o⟩:=d;have p:=xN a.Kernel g;have q:=xO a.Free h.1;have r:=xt a.Spans i.1;have t:=yi a.Larges j.1;have u:=Db a.Objs k.1;have w:=xo a.Caches b.1 b.2;have y:=Da a.Mail l;have C:=zL a.Quar.Lst n.1;have D:=EE a.Job o;have c:ab.enc .imm a=(ab.enc .imm a).set 18 (B a.Meshing):=rfl;cases e:a.Meshing
 all_goals
  rw[e]at c;rw[c];refine fO 116 [] Tryz.func47 rfl ?_
  repeat'(first|refine gA ?_|(conv=>whnf);first|refine C6 (p) ?_|refine C6 (q) ?_|refine C6 (r) ?_|refine C6 (t) ?_|refine C6 (u) ?_|refine C6 (w) ?_|refine C6 (y) ?_|refine C6 (C) ?_|refine C6 (D) ?_)
  rfl
theorem HI(h:ab)(t i:Nat):(freeT h t i).2=0\/((freeT h t i).2=5/\(freeT h t i).1=h):=by
 unfold freeT;split
 ·exact .inl rfl
 split
 ·exact .inr ⟨rfl,rfl⟩
 split
 ·exact .inl rfl
 split
 ·exact .inl rfl
 ·exact .inr ⟨rfl,rfl⟩
theorem Hr(h:ab)(a:Int):Pm h a=2\/Pm h a=3\/Pm h a=4:=by
 unfold Pm;split
 ·exact .inl rfl
 split
 ·exact .inr (.inl rfl)
 ·exact .inr (.inr rfl)
theorem WrongFrees_law(zs:List Int)(L:zs.length<=9223372036854775807/\∀y∈zs,0<=y/\y<=255):ao Tryz.prog 12 false [.val none (NW zs)] .one [B true]:=by
 have l:=Pi zs L.1;by_cases M:(zs.length:Int) > 1048576
 ·rw[O0 M]at l
  refine fO 66 [(6,10,[19,20,21,22,23,24,25,26,27,28])] Tryz.func12 rfl ?_
  repeat'(first|refine gO ?_|(conv=>whnf);first|refine C6 (l) ?_)
  rfl
 rw[Q0 M]at l;have N:iJ zs:=⟨ω,L.2⟩
 have cD:=vJ zs N;have cP:=ug zs N;obtain⟨-,pl,T⟩:=Ar zs 12;have d:=(BS zs).inv;obtain⟨r,U⟩:=HW zs;have u:=Ej zs;have V:=KS zs;generalize drawn zs=w at *;generalize (rh zs 12).1=C at *;have b:=ah (xs:=C) (i:=0) ω;have n:=T _ (am (xs:=C) (i:=0) ω);generalize nth C 0=p at *;have h:=d.lens;have W:(w.Heap.Kernel.Machine.Table.Entries.length:Nat)<=32:=h.ents;have h1:=(br.1 (aC.1 d.ker).2.2.1).2.1;have D:=eM (y:=16*(w.Heap.Kernel.Machine.Table.Entries.length:Nat)) n.1;have Y:=h.objs;have O:w.Heap.Kernel.Calls≠100000:=ω
 have j:0<w.Heap.Caches.length:=by
  obtain⟨⟨m1,-,-⟩,-⟩:=dy.1 d.mail;have:=d.nc;omega
 generalize p % (16*(w.Heap.Kernel.Machine.Table.Entries.length:Nat))=a at *;have o:=mn w.Heap a ω;have P:=B6 w.Heap r;have E:=jf w.Heap r;rw[lE,d.to]at E;have g:=uy w.Heap;rcases kx (fL a) w.Heap.Objs with e|⟨i,Q,e,Z⟩
 ·have k:=Ek w.Heap 0 a r d O j e
  have F:=Hr w.Heap a;rw[e]at o;generalize Pm w.Heap a=c at *;refine fO 66 [(6,10,[19,20,21,22,23,24,25,26,27,28])] Tryz.func12 rfl ?_;rcases F with rfl|rfl|rfl
  all_goals
   repeat'(first|refine gA ?_|(conv=>whnf);first|refine C6 (l) ?_|refine C6 (cD) ?_|refine C6 (cP) ?_|refine CA (aa b) ?_|refine CF rfl (aa b) rfl ?_|refine CK ω ?_|refine CO D ?_|refine CD (k) ⟨⟨rfl,ab.enc_fz _⟩,⟨rfl,rfl⟩,⟨rfl,rfl⟩,trivial⟩ ?_|refine CD (o) ⟨⟨rfl,ab.enc_fz _⟩,⟨rfl,rfl⟩,trivial⟩ ?_|refine CD (P) ⟨⟨rfl,g⟩,⟨rfl,ab.enc_fz _⟩,trivial⟩ ?_|refine CD (E) ⟨⟨rfl,g⟩,trivial⟩ ?_)
   rfl
 ·have G:(nth w.Heap.Objs i).Addr=a:=of_decide_eq_true Z
  have k:=zQ w.Heap (nth w.Heap.Objs i) 0 r d.to O (am Q) j;obtain⟨R,-,-⟩:=d.objAt (am Q);rw[G]at k R;rw[e]at o;obtain⟨H,-⟩:=d.freeT (t:=0) R j;have q:=Ep w.Heap 0 (gX w.Heap a);unfold rfs at q;have xf:=(H.fit (by rw[q];exact u) (jt.of H.mail).sml).sml;have F:=HI w.Heap 0 (gX w.Heap a);generalize freeT w.Heap 0 (gX w.Heap a)=X at *;have S:=jf X.1 xf;rw[lE,H.to]at S;have J:=uy X.1;rcases F with K|⟨K,n2⟩
  ·rw[K]at k
   refine fO 66 [(6,10,[19,20,21,22,23,24,25,26,27,28])] Tryz.func12 rfl ?_
   repeat'(first|refine gA ?_|(conv=>whnf);first|refine C6 (l) ?_|refine C6 (cD) ?_|refine C6 (cP) ?_|refine CA (aa b) ?_|refine CF rfl (aa b) rfl ?_|refine CK ω ?_|refine CO D ?_|refine CD (k) ⟨⟨rfl,ab.enc_fz _⟩,⟨rfl,rfl⟩,⟨rfl,rfl⟩,trivial⟩ ?_|refine CD (o) ⟨⟨rfl,ab.enc_fz _⟩,⟨rfl,rfl⟩,trivial⟩ ?_|refine CD (S) ⟨⟨rfl,J⟩,trivial⟩ ?_)
   rfl
  ·rw[K,n2]at k
   refine fO 66 [(6,10,[19,20,21,22,23,24,25,26,27,28])] Tryz.func12 rfl ?_
   repeat'(first|refine gA ?_|(conv=>whnf);first|refine C6 (l) ?_|refine C6 (cD) ?_|refine C6 (cP) ?_|refine CA (aa b) ?_|refine CF rfl (aa b) rfl ?_|refine CK ω ?_|refine CO D ?_|refine CD (k) ⟨⟨rfl,ab.enc_fz _⟩,⟨rfl,rfl⟩,⟨rfl,rfl⟩,trivial⟩ ?_|refine CD (o) ⟨⟨rfl,ab.enc_fz _⟩,⟨rfl,rfl⟩,trivial⟩ ?_|refine CD (P) ⟨⟨rfl,g⟩,⟨rfl,ab.enc_fz _⟩,trivial⟩ ?_|refine CD (E) ⟨⟨rfl,g⟩,trivial⟩ ?_)
   rfl
open Go.RowKit Go.ChangeShapes Go.WideShapes Go.Deep
def ALL(w:World):ac:=λb _=>b<w.heap.size
def PR{H:Type}(e:TypeId × Value->H)(P:Program)(w:World)(t n:Nat){α:Type}(enc:α->List C)(c:α->Prop):Prop:=
 ∀(fuel:Nat)(b:List Value)(x:DataW H × List MemPlace),DataW.trod e P w 0 (λ_=>true) true fuel t b=some x->b.length=n/\∃a,c a/\(enc a).length=n/\cH w (ALL w) NO (enc a) (λj=>b.getD j undef)
section
variable{H:Type}{e:TypeId × Value->H}{P:Program}{w:World}
theorem Ag{S F:ac}{c:C}{u:Nat->Value}(h:dX w S F c (u 0)):cH w S F [c] u:=
 ⟨λ_=>F,λj e a=>by cases j with
   | zero=>simp at a;subst a;exact h
   | succ j=>simp at a,λ_ _ _ _ h=>h,λj f a b d=>by simp at a b;omega⟩
theorem pick{α β:Type}(n:Nat){Q:Nat->β->Prop}(h:∀i,i<n->∃b,Q i b):∃l:List β,l.length=n/\∀i b,l[i]? = some b->Q i b:=by
 induction n with
 | zero=>exact⟨[],rfl,λi b h=>by simp at h⟩
 | succ n c=>
  obtain⟨l,d,e⟩:=c λi a=>h i ω
  obtain⟨b,f⟩:=h n ω;refine⟨l++[b],by simp[d],λi g a=>?_⟩;by_cases j:i<n
  ·rw[W3 ω]at a;exact e i g a
  ·rw[X3 ω]at a
   have:i - l.length=0:=by
    have:=(V1.1 a).1;simp at this;omega
   rw[this]at a;simp at a;subst a;rw[show i=n by omega];exact f
theorem LL{t T n:Nat}{α:Type}{enc:α->List C}{U:α->Prop}(V:PR e P w T n enc U)(ht:P.underlying t=some (.slice T))(hn:P.cellsOf T=n)(p:0<n) :
  PR e P w t 1 (λxs:List α=>[.s .imm (xs.map enc)]) (λxs=>xs.length<=9223372036854775807/\∀y∈xs,U y):=by
 intro fuel cs x h;rcases open_slice ht h with⟨rfl,-⟩|⟨k,len,cap,m,n',D,Pl,rfl,-,hl,hm,K,-,u⟩
 ·exact⟨rfl,[],⟨by simp,by simp⟩,rfl,Ag (.nil _ _ _ trivial)⟩
 ·simp only[if_true]at K
  subst K;have L:0<m->k.spot=none:=λW=>by
   obtain⟨E,M,N⟩:=u 0 W;rw[hn]at M;obtain⟨_,X,F⟩:=World.cells?_some M;have:=F 0 p;rw[U1 ω]at this;have:=World.cell?_spot this;simpa[Addr.add] using this
  have key:∀i,i<len->∃a,U a/\(enc a).length=n/\(∀d,d<n->∃z,cel w k.block (k.off+(i*n+d))=some z)/\k.spot=none/\cH w (ALL w) NO (enc a) (λd=>(cel w k.block (k.off+(i*n+d))).getD undef):=λi hil=>by
   have g:=L ω;obtain⟨E,M,N⟩:=u i ω;rw[hn]at M;obtain⟨h1,a,h3,h4,h5⟩:=V _ _ _ N;obtain⟨_,X,F⟩:=World.cells?_some M;have O:∀d,k.add d = ⟨k.block,k.off+d,none⟩:=λd=>by
    obtain⟨b,o,sp⟩:=k;simp only at g;subst g;unfold Addr.add;split<;>simp_all
   have A:∀d,d<n->cel w k.block (k.off+(i*n+d))=E[d]?:=λd J=>by
    have:=F d J;rw[Go.Deep.add_add,O]at this;exact this
   refine⟨a,h3,h4,λd J=>⟨_,by rw[A d J,U1 ω]⟩,g,h5.congr λd J=>?_⟩;show(cel w k.block (k.off+(i*n+d))).getD undef=E.getD d undef;rw[A d ω,List.getD]
  obtain⟨l,Q,B⟩:=pick (α:=α) len key;refine⟨rfl,l,⟨by simp only[maxLen]at hm;omega,λy R=>?_⟩,rfl,Ag ?_⟩
  ·obtain⟨i,G⟩:=List.mem_iff_getElem?.1 R
   exact(B i y G).1
  ·show dX w (ALL w) NO (.s .imm (l.map enc)) (.slice (some k) len m)
   by_cases h0:len=0
   ·subst h0
    have:l=[]:=V5 Q;subst this;by_cases Y:m=0
    ·subst Y;exact .nil _ _ _ trivial
    ·have g:=L ω
     obtain⟨b,o,sp⟩:=k;simp only at g;subst g;exact .imm _ b o n 0 m [] (λ_=>undef) rfl (λr Z=>by simp at Z) hl (λq hq=>by simp at hq) (λi j r c u=>by simp at u)
   ·obtain⟨y0,hy0⟩ : ∃y,l[0]? = some y:=⟨_,U1 ω⟩
    have g:=(B 0 y0 hy0).2.2.2.1;obtain⟨b,o,sp⟩:=k;simp only at g;subst g;refine .imm _ b o n len m (l.map enc) (λq=>(cel w b (o+q)).getD undef) (by simpa using Q) (λr Z=>?_) hl (λq hq=>?_) (λi j r c u hj=>?_)
    ·obtain⟨y,R,rfl⟩:=U3.1 Z
     obtain⟨i,G⟩:=List.mem_iff_getElem?.1 R;exact(B i y G).2.1
    ·have hqd:q / n<len:=(Nat.div_lt_iff_lt_mul p).2 hq
     obtain⟨y,R⟩ : ∃y,l[q / n]? = some y:=⟨_,U1 ω⟩
     obtain⟨z,S⟩:=(B _ y R).2.2.1 (q % n) (Nat.mod_lt _ p);have J:q / n*n+q % n=q:=by rw[Nat.mul_comm];exact Nat.div_add_mod q n
     rw[J]at S;exact⟨NC S,by simp only at S |-;rw[S];rfl⟩
    ·rw[U2]at u
     cases H:l[i]? with
     | none=>rw[H]at u;cases u
     | some y=>
      rw[H]at u;simp only[O4,U0]at u;subst u;obtain⟨f,h1,h2,-⟩:=(B i y H).2.2.2.2;have hjl:=(V1.1 hj).1;exact(h1 j c hj).mono (λ_ _ h=>h) (h2 j hjl)
theorem row_val{S F:ac}{x:Value}{u:Nat->Value}(h:cH w S F [.v x] u):u 0=x:=by
 obtain⟨f,a,-⟩:=h;have:=a 0 _ rfl;cases this
 rfl
end
open Go.RowKit Go.ChangeShapes Go.WideShapes
section
variable{H:Type}{e:TypeId × Value->H}{P:Program}{w:World}
theorem Mb{t:Nat}(b:P.underlying t=some (.int .u8)):PR e P w t 1 rU (λz=>0<=z/\z<=255):=by
 intro fuel c x h;obtain⟨n,rfl,-,a⟩:=DataW.trod_int b h;refine⟨rfl,n,?_,rfl,Ag (.v _ _ rfl)⟩;simp only[Lit.wf,I0,C0]at a;exact a
theorem op_ByteS:PR e Tryz.prog w 22 1 (λzs:List Int=>[.s .imm (zs.map rU)]) (λzs=>zs.length<=9223372036854775807/\∀y∈zs,0<=y/\y<=255):=LL (Mb Tryz.underlying5) Tryz.underlying22 (by kernel_rfl) (by decide)
end
end Go.Proofs.YtembpgjjnioagaaGreat.Ab
