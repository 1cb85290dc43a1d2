/- Ranges and caches taken, pages mapped, slots taken: the reference's. No condition. -/
import Derived.Test.YtembpgjjnioagaaGreatMd
import Derived.Test.YtembpgjjnioagaaGreatMg
import Derived.Test.YtembpgjjnioagaaGreatMf
import Derived.Test.YtembpgjjnioagaaGreatMe
import Derived.Laws.StructEq
import Derived.ProofKit
import Derived.OpenShut
import Derived.Deep.Slices
import Derived.Deep.Fields
import Derived.ChangeSame
import Derived.WideShapes
set_option linter.unusedVariables false
set_option linter.unusedSimpArgs false
set_option linter.constructorNameAsVariable false
namespace Go.Proofs.YtembpgjjnioagaaGreat.Ab
open Go.RowKit
set_option maxRecDepth 20000
set_option maxHeartbeats 4000000
theorem Kp (c:aB) (k:Nat):aB.enc .own (pR c k)=[.s .own ((c.Lists.map (aD .own)).set k (aD .own ((nth c.Lists k).take ((nth c.Lists k).length - 1))))]:=by simp[aB.enc,pR,Q4]
theorem MO (xs:List Int) (n:Nat):(xs.take n).map (rI .imm)=(xs.map (rI .imm)).take n:=C3
def N1 (c:aB) (k:Nat):List C:=if 0<(nth c.Lists k).length then aB.enc .own (pR c k)++[I (nth (nth c.Lists k) ((nth c.Lists k).length - 1)),B true] else aB.enc .own c++[I (-1),B false]
theorem MN (c:aB) (k:Nat):gk (N1 c k):=by
 unfold N1;split
 ·exact aN (aB.enc_fr _) ⟨trivial,trivial,trivial⟩
 ·exact aN (aB.enc_fr _) ⟨trivial,trivial,trivial⟩
theorem vX (c:aB) (k:Nat) (ho:br c=true) (hk:k<=3):ao Tryz.prog 289 false [.val (some 1) (aB.enc .imm c),.val none [I (k:Nat)]] (.tup [some 1,none,none]) (N1 c k):=by
 obtain⟨h1,h2⟩:=ee ho;have hs:aB.sml c:=⟨by omega,fun l hl=>by have:=h2 l hl;show l.length<=1048576;omega⟩
 have c1:=vn c k hs;rw[ho,O0 (by omega)]at c1;have c2:=ik c hs;have hx:=rJ (c:=c) (k:=k) (by omega);have hxl:=h2 _ (am (xs:=c.Lists) (i:=k) (by omega));have hf:=MN c k;unfold N1 at hf |-;by_cases hn:0<(nth c.Lists k).length
 ·rw[if_pos hn]at hf |-
  have hy:=ah (xs:=nth c.Lists k) (i:=(nth c.Lists k).length - 1) (by omega);have hy':(nth c.Lists k)[(((nth c.Lists k).length:Int) - 1).toNat]? = some (nth (nth c.Lists k) ((nth c.Lists k).length - 1)):=by rw[show(((nth c.Lists k).length:Int) - 1).toNat=(nth c.Lists k).length - 1 by omega];exact hy
  have hqq:((((nth c.Lists k).length:Nat):Int) - 1)=(((nth c.Lists k).length - 1:Nat):Int):=by omega
  rw[Kp]at hf |-;refine fO 54 [(5,268,[32,33,34,35,36,37,38,39,40,41,42,44,0,1,2,3,4,5,6,7,8,9,10,11,1000,1001,1002,12,13]),(6,265,[45,46,47,48,49,50,51,52,53,0,1,2,3,4,5,6,7,8,9,1001,1002,1003,1004,1005,1006,1007,1008,10,11])] Tryz.func289 rfl ?_ (.inr hf)
  repeat'(first|refine gA ?_|(conv=>whnf);first|with_reducible refine Ix.nat (aa hx) ?_|refine Sm.rf ?_|refine Rw.one rfl (aa hx) rfl ?_|refine Cl.mk (c1) ?_|refine Cl.mk (c2) ?_|refine Ix.mk (by omega) (aa hy') ?_|refine Ix.nat (aa hy) ?_|refine Sl.pre ((nth c.Lists k).length - 1) hqq (by rw[U0];omega) (aM fun _=>rfl) (MO _ _) ?_|refine Sm.rf ?_|refine Fl.cp (fun _=>rfl) (fun _=>rfl) (by rw[C1];omega) (by decide) ?_|refine Ap.cp (fun _=>rfl) (fun _=>rfl) (by rw[C1];omega) (by decide) ?_|refine Pu.one rfl rfl (aa hx) rfl (W0 rfl) rfl ?_)
  rfl
 ·rw[if_neg hn]at hf |-
  refine fO 54 [(5,268,[32,33,34,35,36,37,38,39,40,41,42,44,0,1,2,3,4,5,6,7,8,9,10,11,1000,1001,1002,12,13]),(6,265,[45,46,47,48,49,50,51,52,53,0,1,2,3,4,5,6,7,8,9,1001,1002,1003,1004,1005,1006,1007,1008,10,11])] Tryz.func289 rfl ?_ (.inr hf)
  repeat'(first|refine gA ?_|(conv=>whnf);first|with_reducible refine Ix.nat (aa hx) ?_|refine Sm.rf ?_|refine Rw.one rfl (aa hx) rfl ?_|refine Cl.mk (c1) ?_|refine Cl.mk (c2) ?_)
  rfl
def Nw (xs:List a7) (n:Int):List C:=bB .own (ay xs n).1++[I (ay xs n).2.1,B (ay xs n).2.2]
theorem MJ (xs:List a7) (n:Int):gk (Nw xs n):=aN (ky _) ⟨trivial,trivial,trivial⟩
theorem nq (pages:Int) (xs:List a7) (n:Int) (hp:0<=pages/\pages<=1048576) (ho:bv pages xs=true) (hn:1<=n/\n<=1000) (hl:xs.length<=4096):ao Tryz.prog 294 false [.val none [I pages],.val none (bB .imm xs),.val none [I n]] (.tup [none,none,none]) (Nw xs n):=by
 have c1:=kL pages xs hp ⟨by omega,fun _ _=>trivial⟩;rw[ho]at c1;have hb:=(zR ho).2;refine fO 98 [(8,21,[31,32,33,34,35,36,37,38,39,40,41,42,43,44,45,46,47,48,49,50,51]),(14,265,[71,72,73,74,76,77,78,79,81,0,1,2,3,5,6,7,8,10,4,1005,1006,1007,1008,1010,9,1010,11,1010,12,13])] Tryz.func294 rfl ?_ (.inr (MJ xs n))
 repeat'(first|refine gD ?_|(conv=>whnf);first|refine Sm.rf ?_|refine Cl.mk (c1) ?_|refine Ap.cp (fun _=>rfl) (fun _=>rfl) (by omega) (by decide) ?_)
 (conv=>whnf)
 refine Lp.mk (ι:=Nat) (fun i=>[(1,.hold .one (bB .imm xs)),(2,.hold .one [I (n)]),(9,.hold .one (bB .own xs)),(10,.hold .one [I (io xs n i)]),(11,.hold .one [I ((i:Nat):Int)])]) (fun i=>i<=xs.length) (fun i=>xs.length - i) (0) ?_ (Q0 _) fun i hi=>?_
 ·exact wC
 have hbd:=wq xs n i hi;by_cases li:i<xs.length
 ·have hx:=ah li
  have hy:=hb _ (am li);have hst:io xs n (i+1)=if n<=(nth xs i).Len/\(io xs n i<0\/(nth xs i).Len<(nth xs (io xs n i).toNat).Len) then((i:Nat):Int) else io xs n i:=rfl
  by_cases e1:n<=(nth xs i).Len
  ·by_cases e2:io xs n i<0
   ·rw[if_pos ⟨e1,.inl e2⟩]at hst
    repeat'(first|refine gD ?_|(conv=>whnf);first|with_reducible (first|refine Ix.nat (aa hx) ?_|refine Bf.D (fun hq=>?_) (fun hq=>?_))|refine Sm.rf ?_)
    ((conv=>whnf);refine Nx.mk (i+1) (by omega) (by omega) ?_)
    rw[hst];exact wC
   ·have hbx:=ah (xs:=xs) (i:=(io xs n i).toNat) (by omega)
    by_cases e3:(nth xs i).Len<(nth xs (io xs n i).toNat).Len
    ·rw[if_pos ⟨e1,.inr e3⟩]at hst
     repeat'(first|refine gD ?_|(conv=>whnf);first|with_reducible (first|refine Ix.nat (aa hx) ?_|refine Ix.mk (by omega) (aa hbx) ?_|refine Bf.D (fun hq=>?_) (fun hq=>?_))|refine Sm.rf ?_)
     ((conv=>whnf);refine Nx.mk (i+1) (by omega) (by omega) ?_)
     rw[hst];exact wC
    ·rw[if_neg (by omega)]at hst
     repeat'(first|refine gD ?_|(conv=>whnf);first|with_reducible (first|refine Ix.nat (aa hx) ?_|refine Ix.mk (by omega) (aa hbx) ?_|refine Bf.D (fun hq=>?_) (fun hq=>?_))|refine Sm.rf ?_)
     ((conv=>whnf);refine Nx.mk (i+1) (by omega) (by omega) ?_)
     rw[hst];exact wC
  ·rw[if_neg (by omega)]at hst
   repeat'(first|refine gD ?_|(conv=>whnf);first|with_reducible (first|refine Ix.nat (aa hx) ?_|refine Bf.D (fun hq=>?_) (fun hq=>?_))|refine Sm.rf ?_)
   ((conv=>whnf);refine Nx.mk (i+1) (by omega) (by omega) ?_)
   rw[hst];exact wC
 ·obtain rfl:i=xs.length:=by omega
  change gn xs n = -1\/_ at hbd;unfold Nw ay;rw[show io xs n xs.length=gn xs n from rfl];by_cases e:gn xs n<0
  ·rw[if_pos e]
   rw[show gn xs n = -1 from hbd.resolve_right fun g=>by have g1:0<=gn xs n:=g.1;omega]
   repeat'(first|refine gD ?_|(conv=>whnf);first|with_reducible refine Bf.D (fun hq=>?_) (fun hq=>?_)|refine Sm.rf ?_)
   rfl
  ·rw[if_neg e]
   obtain⟨b0,b1,b2⟩:=hbd.resolve_left (by omega);change 0<=gn xs n at b0;change gn xs n<xs.length at b1;obtain⟨b,hbe⟩:=Z1 (show 0<=gn xs n by omega);rw[hbe]at b1 |-;simp only[W1];have hbx:=ah (xs:=xs) (i:=b) (by omega);have hy:=hb _ (am (xs:=xs) (i:=b) (by omega));by_cases e4:(nth xs b).Len=n
   ·rw[if_pos e4]
    repeat'(first|refine gA ?_|(conv=>whnf);first|with_reducible (first|refine Ix.nat (aa hbx) ?_|refine Bf.D (fun hq=>?_) (fun hq=>?_))|refine Sm.rf ?_|refine Sl.pre b rfl (by rw[U0];omega) (aM fun _=>rfl) C3 ?_|refine Sl.suf (b+1) rfl (by rw[U0];omega) (aM fun _=>rfl) I3 ?_|refine Fl.cp (fun _=>rfl) (fun _=>rfl) (by rw[C1];omega) (by decide) ?_|refine Ap.dele (fun _=>rfl) (fun _=>rfl) (by omega) (by decide) ?_|refine Ap.cp (fun _=>rfl) (fun _=>rfl) (by rw[C1];omega) (by decide) ?_|refine Sm.rf ?_)
    rfl
   ·rw[if_neg e4]
    repeat'(first|refine gA ?_|(conv=>whnf);first|with_reducible (first|refine Ix.nat (aa hbx) ?_|refine Bf.D (fun hq=>?_) (fun hq=>?_))|refine Sm.rf ?_|refine Pu.one rfl rfl (aa hbx) rfl (W0 rfl) rfl ?_)
    exact R0 (fun z=>z++[I (nth xs b).At,B true]) (show [C.s dz.own _]=_ from by simp[bB,Q4];rfl)
theorem JZ (k:af) (p:Int) (f:Nat):af.enc .own (pm k p f)=((af.enc .own k).set 1 (.s .own ((k.Machine.Frames.Used.map (rB .own)).set f (rB .own true)))).set 2 (.s .own ((k.Machine.Table.Entries.map (bj.enc .own)).set p.toNat (bj.enc .own ⟨2,(f:Nat)⟩))):=by
 simp[af.enc,pm,Q4]
theorem Dd (k:af) (p:Int) (hk:aA k=true) (hc:k.Calls≠100000) (hp:0<=p/\p<k.Machine.Table.Entries.length) (hm:(nth k.Machine.Table.Entries p.toNat).Mode=0):aS Tryz.prog 296 false [.ptr (af.enc .own k),.val none [I p]] [.ptr (af.enc .own (fX k p).1),.val none [I p]] .one [B (fX k p).2]:=by
 have hs:=bG hk;have hul:=bg.1 (aC.1 hk).2.1;have ht:=(bx.1 (aC.1 hk).2.2.1).2.2;have htc:(df k).Machine.Table.Entries.length<=32:=ht;have c0:=z8 k.Machine.Frames (by omega);have c1:=mh k hk hc;have c2:=dY (df k) p hs.1.2;have hpe:ar (df k).Machine.Table p=nth k.Machine.Table.Entries p.toNat:=by unfold ar;exact if_pos hp
 rw[hpe,hm]at c2;have c3:=aE p 0 ((k.Machine.Table.Entries.length:Int) - 1);rw[O0 (by omega)]at c3;have hx:=ah (xs:=k.Machine.Table.Entries) (i:=p.toNat) (by omega);change ao _ _ _ _ _ [I (qA k)]at c0;unfold fX;cases e:refd k<;>rw[e]at c1
 ·by_cases e2:qA k<0
  ·rw[if_pos (.inr e2)]
   refine fM 56 [(347,[2])] [] [(0,0),(0,0)] Tryz.func296 rfl (fun u q=>?_)
   repeat'(first|refine gA ?_|(conv=>whnf);first|with_reducible refine Bf.D (fun hq=>?_) (fun hq=>?_)|refine Cl.eq (c0) ⟨⟨rfl,aZ.enc_fz _⟩,trivial⟩ ?_|refine cu.mk (c1) (.inl rfl) ?_|refine Cl.mk (c3) ?_|refine Cl.eq (c2) ⟨af.enc_fz (df k),⟨rfl,rfl⟩,trivial⟩ ?_)
   refine aR.mk rfl ?_ ?_
   ·rfl
   ·exact wC
  ·rw[if_neg (by simp[e2])]
   obtain⟨f1,f2⟩:=AR e2;obtain⟨f,hf⟩:=Z1 (show 0<=qA k by omega);rw[hf]at c0 f1 f2 e2 |-;simp only[W1]at f1 f2 |-;have hu:=ah (xs:=k.Machine.Frames.Used) (i:=f) f1;rw[JZ];refine fM 56 [(347,[2])] [] [(0,0),(0,0)] Tryz.func296 rfl (fun u q=>?_)
   repeat'(first|refine gA ?_|(conv=>whnf);first|with_reducible refine Bf.D (fun hq=>?_) (fun hq=>?_)|refine Cl.eq (c0) ⟨⟨rfl,aZ.enc_fz _⟩,trivial⟩ ?_|refine cu.mk (c1) (.inl rfl) ?_|refine Cl.mk (c3) ?_|refine Cl.eq (c2) ⟨af.enc_fz (df k),⟨rfl,rfl⟩,trivial⟩ ?_|refine Ix.nat (aa hu) ?_|refine Ix.mk hp.1 (aa hx) ?_|refine Pu.one rfl rfl (aa hu) rfl (W0 rfl) rfl ?_|refine Pu.one rfl rfl (aa hx) rfl (W0 rfl) rfl ?_)
   refine aR.mk rfl ?_ ?_
   ·rfl
   ·exact wC
 ·rw[if_pos (.inl rfl)]
  refine fM 56 [(347,[2])] [] [(0,0),(0,0)] Tryz.func296 rfl (fun u q=>?_)
  repeat'(first|refine gA ?_|(conv=>whnf);first|with_reducible refine Bf.D (fun hq=>?_) (fun hq=>?_)|refine Cl.eq (c0) ⟨⟨rfl,aZ.enc_fz _⟩,trivial⟩ ?_|refine cu.mk (c1) (.inl rfl) ?_|refine Cl.mk (c3) ?_|refine Cl.eq (c2) ⟨af.enc_fz (df k),⟨rfl,rfl⟩,trivial⟩ ?_)
  refine aR.mk rfl ?_ ?_
  ·rfl
  ·exact wC
def Nz (h:ab):List C:=(bt h).drop 5
theorem De (h:ab) (p:Int) (hk:aA h.Kernel=true) (hc:h.Kernel.Calls≠100000) (hp:0<=p/\p<h.Kernel.Machine.Table.Entries.length) (hm:(nth h.Kernel.Machine.Table.Entries p.toNat).Mode=0):aS Tryz.prog 296 false [.ptr (bt h),.val none [I p]] [.ptr (bt {h with Kernel:=(fX h.Kernel p).1}),.val none [I p]] .one [B (fX h.Kernel p).2]:=
 (Dd h.Kernel p hk hc hp hm).frame (r:=Nz h) rfl
theorem Gp (h:ab) (i:Nat):bt (slotT h i)=((bt h).set 14 (I (xp h.Seed))).set 6 (.s .own ((h.Spans.map (au.enc .own)).set i [I (nth h.Spans i).Page,I (nth h.Spans i).Class,I (gi (nth h.Spans i).Bits (oz h i))])):=by
 simp[bt,slotT,p6,Q4,au.enc]
theorem qR (h:ab) (E:List Int) (i:Nat) (hi:bo h E) (li:i<h.Spans.length):aS Tryz.prog 291 false [.ptr (bt h),.val none [I (i:Nat)]] [.ptr (bt (qr h i).1),.val none [I (i:Nat)]] .one [I (qr h i).2]:=by
 have hl:=hi.lens;have hls:=hl.spans;have hx:=ah li;have hso:=hi.L.sok _ (am li);have hbb:=ew hso;have hnum:=hi.nums;unfold bW at hnum;rw[C0]at hnum;have ht32:=(bx.1 (aC.1 hi.ker).2.2.1).2.2;have hub:=qJ hi.L.sok (ps:=aP h (nth h.Spans i).Page) hbb (aP h (nth h.Spans i).Page).length;change 0<=gr h i/\gr h i<=65535 at hub;have c1:=lC (nth h.Spans i).Class;have c2:=wV h i ⟨by omega,fun _ _=>trivial⟩ ⟨by show h.Kernel.Machine.Table.Entries.length<=_;omega,fun _ _=>trivial⟩ hi.L.sok li;have c3:=vW (nth h.Spans i).Class (gr h i) (by omega);change ao _ _ _ _ _ (aD .own (mr h i)) at c3;have hfl:=EM (nth h.Spans i).Class (gr h i);change (mr h i).length<=16 at hfl;unfold qr;by_cases hf:(mr h i).length=0
 ·rw[if_pos hf]
  refine fM 68 [] [(2,7,[16,17,18,19,20,21,22]),(7,12,[42,43,44,45,46,47,48,49,50,51,52,53]),(8,11,[56,57,58,59,60,61,62,63,64,65,66])] [(0,0),(0,0)] Tryz.func291 rfl (fun u q=>?_)
  repeat'(first|refine gA ?_|(conv=>whnf);first|refine Ix.nat (aa hx) ?_|refine Rw.one rfl (aa hx) rfl ?_|refine Cl.mk (c1) ?_|refine Cl.eq (c2) ⟨⟨rfl,bz h⟩,⟨rfl,rfl⟩,trivial⟩ ?_|refine Cl.mk (c3) ?_|refine Sm.rf ?_)
  refine aR.mk rfl rfl ?_;exact wC
 ·rw[if_neg hf]
  have hk:=xP (h:=h) (i:=i) (by omega);obtain⟨k1,k2,k3⟩:=vk hk;have hsl:=(gf (aF hso).2.2).2.2.1;have hcb:=oT h.Seed (n:=((mr h i).length:Nat)) (by omega);have c4:=sP h.Seed ((mr h i).length:Nat) (by omega) (by omega);have c5:=wU (nth h.Spans i).Bits (oz h i) hbb (by omega);have c6:=wD (p6 (nth h.Spans i) (oz h i)) (oz h i) (zB hso ⟨k1,k2⟩) ⟨k1,k2⟩;have hk':(mr h i)[(AU h.Seed ((mr h i).length:Nat)).toNat]? = some (oz h i):=ah (by omega);have hx2:((h.Spans.map (au.enc .own)).set i [I (nth h.Spans i).Page,I (nth h.Spans i).Class,I (gi (nth h.Spans i).Bits (oz h i))])[i]? = some [I (nth h.Spans i).Page,I (nth h.Spans i).Class,I (gi (nth h.Spans i).Bits (oz h i))]:=qQ li;unfold sN;rw[Gp];refine fM 68 [] [(2,7,[16,17,18,19,20,21,22]),(7,12,[42,43,44,45,46,47,48,49,50,51,52,53]),(8,11,[56,57,58,59,60,61,62,63,64,65,66])] [(0,0),(0,0)] Tryz.func291 rfl (fun u q=>?_)
  repeat'(first|refine gA ?_|(conv=>whnf);first|refine Ix.nat (aa hx) ?_|refine Ix.nat hx2 ?_|refine Rw.one rfl (aa hk') rfl ?_|refine Rw.one rfl (aa hx) rfl ?_|refine Rw.one rfl hx2 rfl ?_|refine Cl.mk (c1) ?_|refine Cl.eq (c2) ⟨⟨rfl,bz h⟩,⟨rfl,rfl⟩,trivial⟩ ?_|refine Cl.mk (c3) ?_|refine Cl.mk (c4) ?_|refine Cl.mk (c5) ?_|refine Cl.mk (c6) ?_|refine Ix.mk hcb.1 (aa hk') ?_|refine Sm.rf ?_|refine Pu.one rfl rfl (aa hx) rfl (W0 rfl) rfl ?_)
  refine aR.mk rfl ?_ ?_
  ·rfl
  ·exact wC
theorem Ap.ins {α:Type} {e:α->List C} {xs:List α} {y:α} {r:List C} {i sz by_:Nat} {K:List (List C)->Prop} (hr:r=e y) (h2:∀ y,(e y).length=sz) (h3:∀ y,aV (e y)=true) (hl:xs.length<=1048576) (hb:by_<=1000) (hK:K ((xs.take i++y::xs.drop i).map e)):Ap true ((xs.take i).map e++[r]) ((xs.drop i).map e) sz by_ K:=by
 subst hr;have h4:(xs.take i).length+1+(xs.drop i).length<=3145728:=by rw[C1,Q2];omega
 refine Ap.mk (fun r hr=>?_) (aM h2) (fun _ r hr=>by obtain⟨y,-,rfl⟩:=O3.1 hr;exact h3 y) (by simp only[P2,U0,List.length_singleton];omega) (by simp only[P2,U0,List.length_singleton];exact V3 (Nat.mul_le_mul h4 hb) (by decide)) ?_ hK
 ·rcases C2.1 hr with hr|hr
  ·exact aM h2 r hr
  ·rw[X0.1 hr];exact h2 y
 ·rw[C4,O4,z4];rfl
theorem tS {α:Type} {p:α->Bool} {xs:List α} {y:α} {i:Nat} (h:jl p xs=i):iQ p xs y=xs.take i++y::xs.drop i:=by unfold iQ;rw[h]
def Fo (h:ab) (c:Int):ab × Int:=
 if(ay h.Free 1).2.2=false then(h,-1)
 else if(fX h.Kernel (ay h.Free 1).2.1).2=false then({h with Kernel:=(fX h.Kernel (ay h.Free 1).2.1).1},-1)
 else(uK h c,(tn h:Nat))
theorem Ai (h:ab) (E:List Int) (c:Nat) (hi:bo h E) (hcl:h.Kernel.Calls<=90000):aS Tryz.prog 292 false [.ptr (bt h),.val none [I (c:Nat)]] [.ptr (bt (Fo h c).1),.val none [I (c:Nat)]] .one [I (Fo h c).2]:=by
 have hl:=hi.lens;have hls:=hl.spans;have hpg:dQ h<=32:=hl.ents;have c1:=gu h;have c2:=nq (dQ h:Nat) h.Free 1 ⟨by omega,by omega⟩ hi.rng (by decide) (by have:=hl.free;omega);unfold Nw at c2;have hun:=kb hi (W3 1);unfold Fo uK tn;generalize ay h.Free 1=r at c2 hun |-;obtain⟨fr,p,ok⟩:=r;simp only at c2 hun |-;cases ok with
 | false=>
  rw[if_pos rfl];refine fM 79 [(296,[2,0]),(2000010,[0,6])] [(1,267,[11,12,13,14,15,16,17,10,18,19,20,0,1,2,3,4,5,6,7,8,9,10,11,1009,1010,12,1010,13])] [(0,0),(0,0)] Tryz.func292 rfl (fun u q=>?_)
  repeat'(first|refine gO ?_|(conv=>whnf);first|refine Sm.rf ?_|refine Cl.eq (c1) ⟨bz h,trivial⟩ ?_|refine Cl.eq (c2) ⟨⟨rfl,rfl⟩,⟨rfl,dB h.Free⟩,⟨rfl,rfl⟩,trivial⟩ ?_|refine Sm.rf ?_)
  refine aR.mk rfl rfl ?_;exact wC
 | true=>
  rw[if_neg (by simp)];obtain⟨u1,u2,u3,u4⟩:=hun rfl;have hpl:0<=p/\p<h.Kernel.Machine.Table.Entries.length:=⟨u1,by have:p+1<=((tbl h).Entries.length:Nat):=u2;unfold tbl at this;omega⟩
  have c3:=De h p hi.ker (by omega) hpl (u3 p.toNat (by omega) (by omega));generalize fX h.Kernel p=w at c3 |-;obtain⟨k,b⟩:=w;simp only at c3 |-;cases b with
  | false=>
   rw[if_pos rfl];refine fM 79 [(296,[2,0]),(2000010,[0,6])] [(1,267,[11,12,13,14,15,16,17,10,18,19,20,0,1,2,3,4,5,6,7,8,9,10,11,1009,1010,12,1010,13])] [(0,0),(0,0)] Tryz.func292 rfl (fun u q=>?_)
   repeat'(first|refine gO ?_|(conv=>whnf);first|refine Sm.rf ?_|refine Cl.eq (c1) ⟨bz h,trivial⟩ ?_|refine Cl.eq (c2) ⟨⟨rfl,rfl⟩,⟨rfl,dB h.Free⟩,⟨rfl,rfl⟩,trivial⟩ ?_|refine cu.mk (c3) (.inl rfl) ?_|refine Sm.rf ?_)
   refine aR.mk rfl rfl ?_;exact wC
  | true=>
   rw[if_neg (by simp)];refine fM 79 [(296,[2,0]),(2000010,[0,6])] [(1,267,[11,12,13,14,15,16,17,10,18,19,20,0,1,2,3,4,5,6,7,8,9,10,11,1009,1010,12,1010,13])] [(0,0),(0,0)] Tryz.func292 rfl (fun u q=>?_)
   repeat'(first|refine gO ?_|(conv=>whnf);first|refine Sm.rf ?_|refine Cl.eq (c1) ⟨bz h,trivial⟩ ?_|refine Cl.eq (c2) ⟨⟨rfl,rfl⟩,⟨rfl,dB h.Free⟩,⟨rfl,rfl⟩,trivial⟩ ?_|refine cu.mk (c3) (.inl rfl) ?_|refine Sm.rf ?_)
   (conv=>whnf)
   refine Lp.mk (ι:=Nat) (fun i=>[(0,.hold .box (bt {h with Kernel:=k,Free:=fr})),(1,.hold .one [I ((c:Nat):Int)]),(6,.hold .one [I (p)]),(8,.hold .one [I ((i:Nat):Int)])]) (fun i=>i<=h.Spans.length/\∀ (j:Nat) (z:au),j<i->h.Spans[j]? = some z->Gq p z=false) (fun i=>h.Spans.length - i) (0) ?_ (⟨Q0 _,fun j z hj=>by omega⟩) fun i hi=>?_
   ·exact wC
   obtain⟨hi',ha⟩:=hi;have hl2:({h with Kernel:=k,Free:=fr} : ab).Spans.length=h.Spans.length:=rfl;by_cases go:i<h.Spans.length/\(nth h.Spans i).Page<p
   ·have hx:=ah go.1
    repeat'(first|refine gD ?_|(conv=>whnf);first|with_reducible refine Ix.nat (aa hx) ?_|refine Sm.rf ?_|refine Rw.one rfl (aa hx) rfl ?_)
    ((conv=>whnf);refine Nx.mk (i+1) ⟨by omega,dc hx (P0 (by omega)) ha⟩ (by omega) ?_;(exact wC))
   ·have hpos:jl (Gq p) h.Spans=i:=tP (by omega) ha fun z hz=>by
     have hlt:=(R1.1 hz).1;have:z=nth h.Spans i:=(bn hz).symm;subst this;exact O0 (by omega)
    have hx:i<h.Spans.length->h.Spans[i]? = some (nth h.Spans i):=fun hh=>ah hh
    rw[show addS h k fr p (c:Nat) = {h with Kernel:=k,Free:=fr,Spans:=h.Spans.take i++⟨p,(c:Nat),0⟩::h.Spans.drop i} by unfold addS;rw[tS hpos],hpos]
    repeat'(first|refine gD ?_|(conv=>whnf);first|with_reducible (first|refine Ix.nat (aa (hx (by omega))) ?_|refine Bf.D (fun hq=>?_) (fun hq=>?_))|refine Sm.rf ?_|refine Rw.one rfl (aa (hx (by omega))) rfl ?_|refine D8.mk rfl (vw h.Spans) rfl ?_|refine Sl.pre i rfl (by rw[U0];omega) (aM fun _=>rfl) C3 ?_|refine Sl.suf i rfl (by rw[U0];omega) (aM fun _=>rfl) I3 ?_|refine Ap.cp (fun _=>rfl) (fun _=>rfl) (by rw[C1];omega) (by decide) ?_|refine Ap.sn (aM fun _=>rfl) rfl (by rw[U0,C1];omega) (by decide) rfl ?_|refine Ap.ins (e:=au.enc .imm) (y:=⟨p,(c:Nat),0⟩) rfl (fun _=>rfl) (fun _=>rfl) (by omega) (by decide) ?_)
    all_goals
     refine aR.mk rfl rfl ?_;exact wC
theorem AM {h:ab} {c:Int} {i:Nat} (li:i<h.Spans.length) (hc:rc h c i=true) (hp:∀ j,j<i->rc h c j=false):rF h c=some i:=
 List.find?_range_eq_some.2 ⟨hc,List.mem_range.2 li,fun j hj=>by rw[hp j hj];rfl⟩
theorem BV {h:ab} {c:Int} (hp:∀ j,j<h.Spans.length->rc h c j=false):rF h c=none:=
 List.find?_range_eq_none.2 fun j hj=>by rw[hp j hj];rfl
theorem rS {h:ab} {c:Int} {i:Nat} (hi:rc h c i=false) (hp:∀ j,j<i->rc h c j=false):∀ j,j<i+1->rc h c j=false:=fun j hj=>by
 by_cases e:j=i
 ·rw[e];exact hi
 ·exact hp j (by omega)
theorem Hd (h:ab) (t:Nat) (c:aB):bt {h with Caches:=h.Caches.set t c} = (bt h).set 9 (.s .own ((h.Caches.map (aB.enc .own)).set t (aB.enc .own c))):=by
 simp[bt,Q4]
theorem Jw {h:ab} {c:Nat} (hi:bo h []) (hc:c<=3) (hcl:h.Kernel.Calls<=90000) (h1:¬(ay h.Free 1).2.2=false) (h2:¬(fX h.Kernel (ay h.Free 1).2.1).2=false):bo (uK h c) []/\tn h<(uK h c).Spans.length:=by
 have hr':(ay h.Free 1).2.2=true:=by simpa using h1
 obtain⟨u1,u2,u3,u4⟩:=kb hi (W3 1) hr';have s:=Au.of (p:=(ay h.Free 1).2.1) hi.ker (by omega) ⟨u1,by have:(ay h.Free 1).2.1+1<=(h.Kernel.Machine.Table.Entries.length:Nat):=u2;omega⟩ (u3 _ (by omega) (by omega));have hk':(fX h.Kernel (ay h.Free 1).2.1).2=true:=by simpa using h2
 have s':Au h.Kernel (ay h.Free 1).2.1 ((fX h.Kernel (ay h.Free 1).2.1).1,true):=by rw[<-hk'];exact s
 exact⟨hi.addS (c:=c) ⟨by omega,by omega⟩ hr' s',(Fd (Gq (ay h.Free 1).2.1) h.Spans ⟨(ay h.Free 1).2.1,c,0⟩).1⟩
theorem wG (h:ab) (t c:Nat) (hi:bo h []) (ht:t<h.Caches.length) (hc:c<=3) (hcl:h.Kernel.Calls<=90000):aS Tryz.prog 234 false [.ptr (bt h),.val none [I (t:Nat)],.val none [I (c:Nat)]] [.ptr (bt (gj h t c).1),.val none [I (t:Nat)],.val none [I (c:Nat)]] .one [I (gj h t c).2]:=by
 have hck:=hi.cach _ (am ht);have hcx:=ah ht;have c1:=vX (nth h.Caches t) c hck hc;have hls:=hi.lens.spans;have hv:=hi;unfold N1 at c1;by_cases hn:0<(nth (nth h.Caches t).Lists c).length
 ·unfold gj
  rw[if_pos hn]at c1 |-;simp only;rw[Hd];refine fM 80 [(291,[2,0]),(292,[2,0])] [(3,6,[27,28,29,30,31,32])] [(0,0),(0,0),(0,0)] Tryz.func234 rfl (fun u q=>?_)
  repeat'(first|refine gO ?_|(conv=>whnf);first|with_reducible refine Ix.nat (aa hcx) ?_|refine Rw.one rfl (aa hcx) rfl ?_|refine Cl.eq (c1) ⟨⟨rfl,aB.enc_fz _⟩,⟨rfl,rfl⟩,trivial⟩ ?_|refine Sm.rf ?_|refine Pu.one rfl rfl (aa hcx) rfl (W0 rfl) rfl ?_)
  refine aR.mk rfl rfl ?_;exact wC
 ·rw[if_neg hn]at c1
  have hsm:gj h t c=match rF h c with
   | some i=>(slotT h i,sN h i)
   | none=>if(ay h.Free 1).2.2=false then(h,-1)
    else if(fX h.Kernel (ay h.Free 1).2.1).2=false then({h with Kernel:=(fX h.Kernel (ay h.Free 1).2.1).1},-1)
    else qr (uK h c) (tn h):=by unfold gj;exact if_neg hn
  refine fM 80 [(291,[2,0]),(292,[2,0])] [(3,6,[27,28,29,30,31,32])] [(0,0),(0,0),(0,0)] Tryz.func234 rfl (fun u q=>?_)
  repeat'(first|refine gO ?_|(conv=>whnf);first|with_reducible refine Ix.nat (aa hcx) ?_|refine Rw.one rfl (aa hcx) rfl ?_|refine Cl.eq (c1) ⟨⟨rfl,aB.enc_fz _⟩,⟨rfl,rfl⟩,trivial⟩ ?_|refine Sm.rf ?_)
  (conv=>whnf)
  refine Lp.mk (ι:=Nat) (fun i=>[(0,.hold .box (bt h)),(1,.hold .one [I ((t:Nat):Int)]),(2,.hold .one [I ((c:Nat):Int)]),(10,.hold .one [I ((i:Nat):Int)])]) (fun i=>i<=h.Spans.length/\∀ j,j<i->rc h c j=false) (fun i=>h.Spans.length - i) (0) ?_ (⟨Q0 _,fun j hj=>by omega⟩) fun i hi=>?_
  ·exact wC
  obtain⟨hi1,ha⟩:=hi;by_cases li:i<h.Spans.length
  ·have hx:=ah li
   by_cases e1:(nth h.Spans i).Class=c
   ·have c4:=sK h (nth h.Spans i).Page
    cases e2:gv h (nth h.Spans i).Page with
    | true=>
     rw[e2]at c4
     repeat'(first|refine gA ?_|(conv=>whnf);first|with_reducible refine Ix.nat (aa hx) ?_|refine Rw.one rfl (aa hx) rfl ?_|refine Cl.eq (c4) ⟨bz h,⟨rfl,rfl⟩,trivial⟩ ?_)
     ((conv=>whnf);refine Nx.mk (i+1) ⟨by omega,rS (by unfold rc;rw[e2];simp) ha⟩ (by omega) ?_;(exact wC))
    | false=>
     rw[e2]at c4;have c5:=qR h [] i hv li;unfold qr at c5;by_cases e3:(mr h i).length=0
     ·rw[if_pos e3]at c5
      repeat'(first|refine gA ?_|(conv=>whnf);first|with_reducible refine Ix.nat (aa hx) ?_|refine Rw.one rfl (aa hx) rfl ?_|refine Cl.eq (c4) ⟨bz h,⟨rfl,rfl⟩,trivial⟩ ?_|refine cu.mk (c5) (.inl rfl) ?_)
      ((conv=>whnf);refine Nx.mk (i+1) ⟨by omega,rS (by unfold rc;rw[P0 (by omega:¬0<(mr h i).length)];simp) ha⟩ (by omega) ?_;(exact wC))
     ·rw[if_neg e3]at c5
      have hf:rF h c=some i:=AM li (by unfold rc;rw[O0 e1,e2,O0 (by omega)];rfl) ha;rw[hf]at hsm;simp only at hsm;obtain⟨k1,k2⟩:=hv.slotT li (by omega:0<(mr h i).length);have hnn:=iU.nn k1 k2;rw[hsm];generalize slotT h i=g at c5 |-;generalize sN h i=a at c5 hnn |-
      repeat'(first|refine gA ?_|(conv=>whnf);first|with_reducible refine Ix.nat (aa hx) ?_|refine Rw.one rfl (aa hx) rfl ?_|refine Cl.eq (c4) ⟨bz h,⟨rfl,rfl⟩,trivial⟩ ?_|refine cu.mk (c5) (.inl rfl) ?_)
      refine aR.mk rfl rfl ?_;exact wC
   ·repeat'(first|refine gA ?_|(conv=>whnf);first|with_reducible refine Ix.nat (aa hx) ?_|refine Rw.one rfl (aa hx) rfl ?_)
    ((conv=>whnf);refine Nx.mk (i+1) ⟨by omega,rS (by unfold rc;rw[P0 e1];rfl) ha⟩ (by omega) ?_;(exact wC))
  ·obtain rfl:i=h.Spans.length:=by omega
   have hf:rF h c=none:=BV ha;rw[hf]at hsm;simp only at hsm;have c6:=Ai h [] c hv hcl;rw[hsm];unfold Fo at c6;by_cases r1:(ay h.Free 1).2.2=false
   ·rw[if_pos r1]at c6 |-
    repeat'(first|refine gD ?_|(conv=>whnf);first|refine cu.mk (c6) (.inl rfl) ?_)
    refine aR.mk rfl rfl ?_;exact wC
   ·rw[if_neg r1]at c6 |-
    by_cases r2:(fX h.Kernel (ay h.Free 1).2.1).2=false
    ·rw[if_pos r2]at c6 |-
     repeat'(first|refine gD ?_|(conv=>whnf);first|refine cu.mk (c6) (.inl rfl) ?_)
     refine aR.mk rfl rfl ?_;exact wC
    ·rw[if_neg r2]at c6 |-
     obtain⟨n1,n2⟩:=Jw hv hc hcl r1 r2;have c7:=qR (uK h c) [] (tn h) n1 n2;generalize uK h c=g at c6 c7 |-;generalize tn h=b at c6 c7 |-
     repeat'(first|refine gD ?_|(conv=>whnf);first|refine cu.mk (c6) (.inl rfl) ?_|refine cu.mk (c7) (.inl rfl) ?_)
     refine aR.mk rfl rfl ?_;exact wC
def Hh (h:ab) (size:Int):ab × Int:=
 if(ay h.Free (kQ size:Nat)).2.2=false then(h,-1)
 else if(i9 h size).2=kQ size then({h with Kernel:=(i9 h size).1,Free:=(ay h.Free (kQ size:Nat)).1,Larges:=iQ (Mi (ay h.Free (kQ size:Nat)).2.1) h.Larges ⟨(ay h.Free (kQ size:Nat)).2.1,(kQ size:Nat),size⟩},16*(ay h.Free (kQ size:Nat)).2.1)
 else({h with Kernel:=dN (i9 h size).1 (ay h.Free (kQ size:Nat)).2.1 (i9 h size).2},-1)
theorem wd (k:af) (p:Int) (i:Nat):cJ k p (i+1)=if(cJ k p i).2=i then((fX (cJ k p i).1 (p+(i:Nat))).1,if(fX (cJ k p i).1 (p+(i:Nat))).2=true then i+1 else i) else cJ k p i:=rfl
theorem Dj (k:af) (p:Int):∀ i,(cJ k p i).2<=i
 | 0=>I2 _
 | i+1=>by
  have ih:=Dj k p i;rw[wd];by_cases e:(cJ k p i).2=i
  ·rw[if_pos e]
   show(if _ then i+1 else i)<=i+1;by_cases e2:(fX (cJ k p i).1 (p+(i:Nat))).2=true
   ·rw[if_pos e2];exact I2 _
   ·rw[if_neg e2];exact Nat.le_succ _
  ·rw[if_neg e];omega
theorem lE {k:af} {p:Int} {i:Nat} (h:(cJ k p i).2≠i):∀ j,cJ k p (i+j)=cJ k p i/\(cJ k p (i+j)).2<i+j
 | 0=>⟨rfl,by show(cJ k p i).2<i;have:=Dj k p i;omega⟩
 | j+1=>by
  have ih:=lE h j;have e:cJ k p (i+(j+1))=cJ k p (i+j):=by
   show cJ k p (i+j+1)=_;rw[wd,if_neg (by omega)]
  exact⟨e.trans ih.1,by rw[e];omega⟩
theorem xA (h:ab) (size:Int) (hi:bo h []) (hz:9<=size/\size<=1000) (hcl:h.Kernel.Calls<=90000):aS Tryz.prog 235 false [.ptr (bt h),.val none [I size]] [.ptr (bt (Hh h size).1),.val none [I size]] .one [I (Hh h size).2]:=by
 have hl:=hi.lens;have hls:=hl.larges;have hv:=hi;have hpg:dQ h<=32:=hl.ents;have hpf:eI size=((kQ size:Nat):Int):=by unfold eI kQ;split<;>omega
 have hN:1<=kQ size/\kQ size<=63:=by unfold kQ;omega
 have c0:=kB size;rw[hpf]at c0;have c1:=gu h;have c2:=nq (dQ h:Nat) h.Free (kQ size:Nat) ⟨by omega,by omega⟩ hi.rng ⟨by omega,by omega⟩ (by have:=hl.free;omega);unfold Nw at c2;have hun:=kb hi (show(1:Int)<=(kQ size:Nat) by omega);unfold Hh i9;generalize kQ size=N at *;generalize ay h.Free (N:Nat)=r at c2 hun |-;obtain⟨fr,p,ok⟩:=r;simp only at c2 hun |-;refine fM 105 [(296,[2,0]),(297,[2,0]),(2000018,[0,7])] [(2,268,[16,17,18,19,20,21,22,23,15,24,25,26,0,1,2,3,4,5,6,7,8,9,10,11,12,1010,1011,13,1011,14])] [(0,0),(0,0)] Tryz.func235 rfl (fun u q=>?_);cases ok with
 | false=>
  rw[if_pos rfl]
  repeat'(first|refine gO ?_|(conv=>whnf);first|refine Sm.rf ?_|refine Cl.mk (c0) ?_|refine Cl.eq (c1) ⟨bz h,trivial⟩ ?_|refine Cl.eq (c2) ⟨⟨rfl,rfl⟩,⟨rfl,dB h.Free⟩,⟨rfl,rfl⟩,trivial⟩ ?_|refine Sm.rf ?_)
  refine aR.mk rfl rfl ?_;exact wC
 | true=>
  rw[if_neg (by simp)];obtain⟨u1,u2,u3,u4⟩:=hun rfl;change p+(N:Nat)<=(h.Kernel.Machine.Table.Entries.length:Nat) at u2;change ∀ q:Nat,p<=q->(q:Int)<p+(N:Nat)->(nth h.Kernel.Machine.Table.Entries q).Mode=0 at u3
  have hte:h.Kernel.Machine.Table.Entries.length<=32:=hpg
  repeat'(first|refine gO ?_|(conv=>whnf);first|refine Sm.rf ?_|refine Cl.mk (c0) ?_|refine Cl.eq (c1) ⟨bz h,trivial⟩ ?_|refine Cl.eq (c2) ⟨⟨rfl,rfl⟩,⟨rfl,dB h.Free⟩,⟨rfl,rfl⟩,trivial⟩ ?_|refine Sm.rf ?_)
  (conv=>whnf)
  refine Lp.mk (ι:=Nat) (fun i=>[(0,.hold .box (bt {h with Kernel:=(cJ h.Kernel p i).1})),(1,.hold .one [I (size)]),(5,.hold .one [I ((N:Nat):Int)]),(6,.hold .one (bB .own fr)),(7,.hold .one [I (p)]),(9,.hold .one [I ((i:Nat):Int)])]) (fun i=>i<=N/\(cJ h.Kernel p i).2=i) (fun i=>N - i) (0) ?_ (⟨Q0 _,rfl⟩) fun i hi=>?_
  ·exact wC
  obtain⟨hi1,h2⟩:=hi;have s:=mP.of (p:=p) (n:=N) hv.ker (by omega) ⟨u1,u2⟩ u3 i hi1;have hsc:=s.calls;have hsl:=s.len;by_cases li:i<N
  ·have hmo:(nth (cJ h.Kernel p i).1.Machine.Table.Entries (p+(i:Nat)).toNat).Mode=0:=by
    rw[s.out _ (by rw[h2];omega)];exact u3 _ (by omega) (by omega)
   have c3:=De {h with Kernel:=(cJ h.Kernel p i).1} (p+(i:Nat)) s.ker (by show(cJ h.Kernel p i).1.Calls≠100000;omega) ⟨by omega,by show p+(i:Nat)<((cJ h.Kernel p i).1.Machine.Table.Entries.length:Nat);omega⟩ hmo;have hn:cJ h.Kernel p (i+1)=((fX (cJ h.Kernel p i).1 (p+(i:Nat))).1,if(fX (cJ h.Kernel p i).1 (p+(i:Nat))).2=true then i+1 else i):=by
    show(if(cJ h.Kernel p i).2=i then _ else _)=_;rw[if_pos h2]
   simp only at c3;cases e:(fX (cJ h.Kernel p i).1 (p+(i:Nat))).2 with
   | true=>
    rw[e]at c3 hn;rw[if_pos rfl]at hn;have hn1:(fX (cJ h.Kernel p i).1 (p+(i:Nat))).1=(cJ h.Kernel p (i+1)).1:=by rw[hn]
    rw[hn1]at c3
    repeat'(first|refine gD ?_|(conv=>whnf);first|refine Sm.rf ?_|refine cu.mk (c3) (.inl rfl) ?_)
    ((conv=>whnf);refine Nx.mk (i+1) ⟨by omega,by rw[hn]⟩ (by omega) ?_;(exact wC))
   | false=>
    rw[e]at c3 hn;rw[if_neg (by simp)]at hn;have hst:=lE (k:=h.Kernel) (p:=p) (i:=i+1) (by rw[hn];simp only;omega) (N - (i+1));rw[show i+1+(N - (i+1))=N by omega]at hst;rw[hst.1]at hst;have s1:=mP.of (p:=p) (n:=N) hv.ker (by omega) ⟨u1,u2⟩ u3 (i+1) (by omega);rw[if_neg (by have:=lE (k:=h.Kernel) (p:=p) (i:=i+1) (by rw[hn];simp only;omega) (N - (i+1));rw[show i+1+(N - (i+1))=N by omega]at this;omega)];rw[show cJ h.Kernel p N=cJ h.Kernel p (i+1) by have:=lE (k:=h.Kernel) (p:=p) (i:=i+1) (by rw[hn];simp only;omega) (N - (i+1));rw[show i+1+(N - (i+1))=N by omega]at this;exact this.1];rw[hn]at s1 |-;have hk1:=s1.ker;simp only at hk1 |-;generalize (fX (cJ h.Kernel p i).1 (p+(i:Nat))).1=k at c3 hk1 |-
    repeat'(first|refine gD ?_|(conv=>whnf);first|refine Sm.rf ?_|refine cu.mk (c3) (.inl rfl) ?_)
    (conv=>whnf)
    refine Lp.mk (ι:=Nat) (fun j=>[(0,.hold .box (bt {h with Kernel:=dN k p j})),(1,.hold .one [I (size)]),(5,.hold .one [I ((N:Nat):Int)]),(7,.hold .one [I (p)]),(9,.hold .one [I ((i:Nat):Int)]),(10,.hold .one [I ((j:Nat):Int)])]) (fun j=>j<=i) (fun j=>i - j) (0) ?_ (Q0 _) fun j hj=>?_
    ·exact wC
    have c4:=mg {h with Kernel:=dN k p j} (p+(j:Nat)) (kz hk1 p j);by_cases lj:j<i
    ·repeat'(first|refine gD ?_|(conv=>whnf);first|refine Sm.rf ?_|refine cu.mk (c4) (.inl rfl) ?_)
     ((conv=>whnf);refine Nx.mk (j+1) (by omega) (by omega) ?_;(exact wC))
    ·obtain rfl:j=i:=by omega
     repeat'(first|refine gD ?_|(conv=>whnf);first|refine Sm.rf ?_)
     refine aR.mk rfl rfl ?_;exact wC
  ·obtain rfl:i=N:=by omega
   rw[if_pos h2];generalize (cJ h.Kernel p i).1=k
   repeat'(first|refine gD ?_|(conv=>whnf);first|refine Sm.rf ?_)
   (conv=>whnf)
   refine Lp.mk (ι:=Nat) (fun m=>[(0,.hold .box (bt {h with Kernel:=k,Free:=fr})),(1,.hold .one [I (size)]),(5,.hold .one [I ((i:Nat):Int)]),(7,.hold .one [I (p)]),(11,.hold .one [I ((m:Nat):Int)])]) (fun m=>m<=h.Larges.length/\∀ (j:Nat) (z:a8),j<m->h.Larges[j]? = some z->Mi p z=false) (fun m=>h.Larges.length - m) (0) ?_ (⟨Q0 _,fun j z hj=>by omega⟩) fun m hm=>?_
   ·exact wC
   obtain⟨hm',ha⟩:=hm;have hl2:({h with Kernel:=k,Free:=fr} : ab).Larges.length=h.Larges.length:=rfl;by_cases go:m<h.Larges.length/\(nth h.Larges m).Page<p
   ·have hx:=ah go.1
    repeat'(first|refine gD ?_|(conv=>whnf);first|with_reducible refine Ix.nat (aa hx) ?_|refine Sm.rf ?_|refine Rw.one rfl (aa hx) rfl ?_)
    ((conv=>whnf);refine Nx.mk (m+1) ⟨by omega,dc hx (P0 (by omega)) ha⟩ (by omega) ?_;(exact wC))
   ·have hpos:jl (Mi p) h.Larges=m:=tP (by omega) ha fun z hz=>by
     have hlt:=(R1.1 hz).1;have:z=nth h.Larges m:=(bn hz).symm;subst this;exact O0 (by omega)
    have hx:m<h.Larges.length->h.Larges[m]? = some (nth h.Larges m):=fun hh=>ah hh
    rw[tS hpos]
    repeat'(first|refine gD ?_|(conv=>whnf);first|with_reducible (first|refine Ix.nat (aa (hx (by omega))) ?_|refine Bf.D (fun hq=>?_) (fun hq=>?_))|refine Sm.rf ?_|refine Rw.one rfl (aa (hx (by omega))) rfl ?_|refine D8.mk rfl (rC h.Larges) rfl ?_|refine Sl.pre m rfl (by rw[U0];omega) (aM fun _=>rfl) C3 ?_|refine Sl.suf m rfl (by rw[U0];omega) (aM fun _=>rfl) I3 ?_|refine Ap.cp (fun _=>rfl) (fun _=>rfl) (by rw[C1];omega) (by decide) ?_|refine Ap.sn (aM fun _=>rfl) rfl (by rw[U0,C1];omega) (by decide) rfl ?_|refine Ap.ins (e:=a8.enc .imm) (y:=⟨p,(i:Nat),size⟩) rfl (fun _=>rfl) (fun _=>rfl) (by omega) (by decide) ?_)
    all_goals
     refine aR.mk rfl ?_ ?_
     ·exact R0 (fun z=>[I z]) (by omega)
     ·exact wC
theorem BG {k:af} (h:aA k=true) (hr:iy k.Refuse):af.wf k:=by
 obtain⟨h1,h2,h3,h4,h5⟩:=aC.1 h;obtain⟨g1,g2,g3,g4⟩:=bg.1 h2;obtain⟨t1,t2,t3⟩:=bx.1 h3;refine⟨⟨⟨⟨by omega,fun r hr=>?_⟩,⟨by omega,fun _ _=>trivial⟩⟩,⟨by omega,fun e he=>?_⟩⟩,⟨by omega,by omega⟩,hr⟩
 ·obtain⟨j,hj,rfl⟩:=bf hr
  obtain⟨r1,r2⟩:=zI h hj;exact⟨by omega,fun v hv=>by have:=r2 v hv;exact⟨by omega,by omega⟩⟩
 ·obtain⟨j,hj,rfl⟩:=bf he
  have h6:=t1 j hj;unfold jV at h6;rw[C0]at h6;by_cases hm:(nth k.Machine.Table.Entries j).Mode=0
  ·have:=h6.2.2.1 hm;exact⟨⟨by omega,by omega⟩,⟨by omega,by omega⟩⟩
  ·have:=h6.2.2.2 hm;exact⟨⟨by omega,by omega⟩,⟨by omega,by omega⟩⟩
theorem Fp {p:bP} (h:ek p=true):bP.wf p:=by
 have hc:=fun i hi=>kO h (i:=i) hi
 have hl:p.Cells.length<=16:=kP h;unfold ek at h;simp only[I0,C0]at h;exact⟨⟨by omega,by omega⟩,⟨by omega,by omega⟩,⟨by omega,fun v hv=>by
   obtain⟨j,hj,rfl⟩:=bf hv;have:=hc j hj;exact⟨by omega,by omega⟩⟩⟩
theorem bo.jobWf {h:ab} {E:List Int} (hi:bo h E):cj.wf h.Job/\cj.sml h.Job:=by
 cases hm:h.Meshing with
 | true=>
  obtain⟨j2,j3,j4,j5,j6⟩:=fm.1 (hi.job hm).1;have hl:=kP j2;exact⟨⟨Fp j2,⟨by omega,by omega⟩,⟨by omega,by omega⟩⟩,by show h.Job.Plan.Cells.length<=1048576;omega⟩
 | false=>
  have:=hi.noj hm;unfold qC at this;rw[C0]at this;obtain⟨n1,n2,n3,n4,n5⟩:=this;refine⟨⟨⟨⟨by omega,by omega⟩,⟨by omega,by omega⟩,⟨by omega,fun v hv=>?_⟩⟩,⟨by omega,by omega⟩,⟨by omega,by omega⟩⟩,by show h.Job.Plan.Cells.length<=1048576;omega⟩;rw[z5 n3]at hv;cases hv
theorem vV {n:Int} (h:0<=aO n):1<=n/\n<=8:=by
 unfold aO at h
 repeat' split at h
 all_goals omega
theorem iU.wf {h:ab} {E:List Int} (hi:bo h E) {a c:Int} (hs:iU h.Spans a c):l9 a:=by
 have:=hs.bd hi;exact⟨by omega,by omega⟩
theorem bo.wf {h:ab} {E:List Int} (hi:bo h E) (hr:iy h.Kernel.Refuse):ab.wf h:=by
 have hl:=hi.lens;have hL:=hi.L;have hn:=hi.nums;unfold bW at hn;rw[C0]at hn;obtain⟨r1,r2,r3⟩:=eR.1 hi.rng;obtain⟨q1,-,-,q4,q5,-⟩:=iP.1 hi.quar;have hm:=hi.mail;have hfl:=hi.hfl;unfold aK at hfl;rw[if_pos hm]at hfl;unfold bD at hm;simp only[I0,C0,bZ,fZ,v3,mi,LI]at hm;obtain⟨⟨⟨m1,m2,m3⟩,m4⟩,m5⟩:=hm;have h1:=hl.free;have h2:=hl.spans;have h3:=hl.larges;have h4:=hl.objs;have h5:=hl.caches;have h6:=hl.quar;have hlen:∀ n:Nat,bp h.Mail n<=bp h.Mail (n+1):=fun n=>by simp only[bp];omega
 have hmono:∀ a b:Nat,a<=b->bp h.Mail a<=bp h.Mail b:=fun a b hab=>by
  induction hab with
  | refl=>exact W3 _
  | step _ ih=>exact Int.le_trans ih (hlen _)
 have hnn:∀ n:Nat,0<=bp h.Mail n:=fun n=>hmono 0 n (Q0 _)
 have hrow:∀ i,i<h.Mail.Buffers.length->(nth h.Mail.Buffers i).length<=30/\(nth h.Mail.Inbox i).length<=30:=fun i hi'=>by
  have e1:=hmono (i+1) h.Mail.Buffers.length (by omega);have e2:=hnn i;simp only[bp]at e1;omega
 refine⟨BG hi.ker hr,⟨by omega,fun x hx=>?_⟩,⟨by omega,fun x hx=>?_⟩,⟨by omega,fun x hx=>?_⟩,⟨by omega,fun x hx=>?_⟩,⟨by omega,fun x hx=>?_⟩,⟨⟨by omega,fun l hl'=>?_⟩,⟨by omega,fun l hl'=>?_⟩⟩,⟨⟨by omega,by omega⟩,⟨by omega,fun x hx=>?_⟩⟩,⟨by omega,by omega⟩,⟨by omega,by omega⟩,⟨by omega,by omega⟩,⟨by omega,by omega⟩,trivial,hi.jobWf.1⟩
 ·have:=r2 x hx;exact⟨⟨by omega,by omega⟩,⟨by omega,by omega⟩⟩
 ·have hs:=hL.sok x hx
  have hb:=ew hs;have hc:=aF hs;exact⟨⟨by omega,by omega⟩,⟨by omega,by omega⟩,⟨by omega,by omega⟩⟩
 ·have h7:=aU (hL.lok x hx)
  have h8:=cr (hL.lok x hx);exact⟨⟨by omega,by omega⟩,⟨by omega,by omega⟩,⟨by omega,by omega⟩⟩
 ·obtain⟨o1,o2,o3,o4⟩:=hi.onu x hx
  have hab:0<=x.Addr/\x.Addr<512/\-1000<=x.Size/\x.Size<=1000:=by
   rcases hi.oow x hx with⟨s,hs,h1,h2⟩|⟨l,hl',e1,e2⟩
   ·have hc:=aF (hL.sok s hs)
    have:=vV (n:=x.Size) (by omega);exact⟨by have:=h1.1;omega,by have:=h1.2.1;omega,by omega,by omega⟩
   ·have h7:=aU (hL.lok l hl')
    have h8:=cr (hL.lok l hl');omega
  exact⟨⟨by omega,by omega⟩,⟨by omega,by omega⟩,⟨by omega,by omega⟩,⟨by omega,by omega⟩⟩
 ·obtain⟨c1,c2⟩:=hl.lists x hx
  refine⟨by omega,fun l hl'=>⟨by have:=c2 l hl';omega,fun a ha=>?_⟩⟩;obtain⟨j,hj,rfl⟩:=bf hl';exact iU.wf hi (hi.hca x hx j hj a ha)
 ·obtain⟨i,hi',rfl⟩:=bf hl'
  have hb:=hrow i hi';refine⟨by omega,fun p hp=>?_⟩;have hpo:=(m4 i hi').1 p hp;exact⟨⟨by omega,by omega⟩,iU.wf hi (hfl p.Addr (C2.2 (.inl (List.mem_flatMap.2 ⟨_,am hi',O3.2 ⟨p,hp,rfl⟩⟩))))⟩
 ·obtain⟨i,hi',rfl⟩:=bf hl'
  have hb:=hrow i (by omega);exact⟨by omega,fun a ha=>iU.wf hi (hfl a (C2.2 (.inr (List.mem_flatten.2 ⟨_,am hi',ha⟩))))⟩
 ·have h7:=q1 x hx
  have h8:=hi.snc x hx;exact⟨iU.wf hi (hi.hqu x hx),⟨by omega,by omega⟩,⟨by omega,by omega⟩⟩
structure Pe (h:ab):Prop where
 ker:aA h.Kernel=true
 wf:ab.wf h
 sml:ab.sml h
 lens:KO h
theorem bo.fit {h:ab} {E:List Int} (hi:bo h E) (hr:iy h.Kernel.Refuse) (hm:aH.sml h.Mail):Pe h:=⟨hi.ker,hi.wf hr,hi.lens.sml hi.ker hm hi.jobWf.2,hi.lens⟩
theorem Ee {h:ab} (hi:bo h []) (hm:h.Meshing=true):aA (mStep h).Kernel=true/\(mStep h).Kernel.Calls<=h.Kernel.Calls+1/\(mStep h).Kernel.Refuse=h.Kernel.Refuse/\(mStep h).Mail=h.Mail/\(Ds h=true->(mStep h).Meshing=false)/\cj.wf (mStep h).Job/\cj.sml (mStep h).Job:=by
 have s:=JS.of hi hm;refine⟨s.ker,s.calls.2.1,s.calls.2.2,rfl,fun hd=>?_,?_⟩
 ·unfold Ds at hd
  rw[C0]at hd;show(if over _=true then false else h.Meshing)=false;rw[if_pos (show over (iT h.Kernel h.Job).2=true from O0 (.inl hd))]
 ·show cj.wf (if over _=true then _ else _)/\cj.sml (if over _=true then _ else _)
  split
  ·exact⟨⟨⟨⟨by decide,by decide⟩,⟨by decide,by decide⟩,⟨by decide,fun v hv=>by cases hv⟩⟩,⟨by decide,by decide⟩,⟨by decide,by decide⟩⟩,by show(0:Nat)<=1048576;omega⟩
  ·have hp:=(fm.1 (hi.job hm).1).1
   have hpl:=kP hp;obtain⟨s1,s2⟩:=s.ph;obtain⟨s3,s4⟩:=s.nxt;have e:=s.plan;refine⟨⟨by rw[e];exact Fp hp,⟨by omega,by omega⟩,⟨by omega,by rw[e]at s4;omega⟩⟩,by show((iT h.Kernel h.Job).2.Plan.Cells).length<=1048576;rw[e];omega⟩
def te (h:ab):Nat->ab × Bool
 | 0=>(h,false)
 | i+1=>if(te h i).1.Meshing=true then(mStep (te h i).1,Ds (te h i).1) else te h i
def fin (h:ab):ab × Bool:=te h 100
theorem sU {h:ab} (hi:bo h []):bo (started h).1 []/\(started h).1.Kernel=h.Kernel/\(started h).1.Mail=h.Mail:=by
 have hn:=hi.nums;unfold bW at hn;rw[C0]at hn;have hsd:=(iJ (aX h).length (show 0<=h.Seed/\h.Seed<=1073741823 by omega) ((aX h).length - 1)).2;have hpo:=jP (aX h) (show 0<=h.Seed/\h.Seed<=1073741823 by omega);have hnum:bW {h with Seed:=(shuf (aX h).length h.Seed).2} = true:=by
  unfold bW;rw[C0];unfold shuf;simp only;omega
 cases hp:ig (aX h) h.Seed with
 | nil=>
  have hst:Ab.started h=({h with Seed:=(shuf (aX h).length h.Seed).2},false):=by unfold Ab.started;rw[hp]
  rw[hst];exact⟨{hi with nums:=hnum},rfl,rfl⟩
 | cons q qs=>
  obtain⟨k1,k2,k3⟩:=hpo q (by rw[hp];exact I1 ..);have hst:Ab.started h=({h with Seed:=(shuf (aX h).length h.Seed).2,Meshing:=true,Job:=rK (cU (nth (aX h) q.A.toNat) (nth (aX h) q.B.toNat))},true):=by unfold Ab.started;rw[hp]
  rw[hst];have hmem:∀ s∈aX h,s∈h.Spans:=fun s hs=>kS h (I2 _) s (List.mem_of_mem_take hs)
  have ha:=hmem _ (am (xs:=aX h) (i:=q.A.toNat) (by omega));have hb:=hmem _ (am (xs:=aX h) (i:=q.B.toNat) (by omega));generalize nth (aX h) q.A.toNat=a at k3 ha |-;generalize nth (aX h) q.B.toNat=b at k3 hb |-;obtain⟨p1,p2,p3⟩:=nO k3;have hjo:iH (rK (cU a b))=true:=fm.2 ⟨p1,by show(0:Int)<=0;omega,by show(0:Int)<=5;omega,by show(0:Int)<=0;omega,by show(0:Int)<=(((cU a b).Cells.length:Nat):Int);omega⟩;have hpl:(∃ s∈h.Spans,s.Page=(cU a b).Keep)/\∃ s∈h.Spans,s.Page=(cU a b).Move:=by
   unfold cU;split
   ·exact⟨⟨b,hb,rfl⟩,⟨a,ha,rfl⟩⟩
   ·exact⟨⟨a,ha,rfl⟩,⟨b,hb,rfl⟩⟩
  exact⟨{hi with nums:=hnum,job:=fun _=>⟨hjo,hpl⟩,noj:=fun e=>by cases e},rfl,rfl⟩
theorem bo.objSz {h:ab} {E:List Int} (hi:bo h E):∀ o∈h.Objs,0<=o.Size/\o.Size<=1000:=fun x hx=>by
 rcases hi.oow x hx with⟨s,hs,h1,h2⟩|⟨l,hl',e1,e2⟩
 ·have hc:=aF (hi.L.sok s hs)
  have:=vV (n:=x.Size) (by omega);omega
 ·have h8:=cr (hi.L.lok l hl')
  omega
theorem GG {h:ab} (t:Int) {size:Int} (hi:bo h []) (hz:9<=size/\size<=1000):pf h t size=if(Hh h size).2<0 then((Hh h size).1,-1,4) else(addO (Hh h size).1 (Hh h size).2 size t,(Hh h size).2,0):=by
 unfold pf Hh;by_cases r1:(ay h.Free (kQ size:Nat)).2.2=false
 ·rw[if_pos r1,if_pos r1]
  exact(if_pos (show(-1:Int)<0 by decide)).symm
 ·rw[if_neg r1,if_neg r1]
  obtain⟨u1,-⟩:=kb hi (show(1:Int)<=(kQ size:Nat) by unfold kQ;omega) (by simpa using r1);by_cases r2:(i9 h size).2=kQ size
  ·rw[if_pos r2,if_pos r2]
   exact(if_neg (show ¬16*(ay h.Free (kQ size:Nat)).2.1<0 by omega)).symm
  ·rw[if_neg r2,if_neg r2]
   exact(if_pos (show(-1:Int)<0 by decide)).symm
theorem xo (h:ab) (t size:Int) (hi:bo h []):aS Tryz.prog 143 false [.ptr (bt h),.val none [I t],.val none [I size]] [.ptr (bt (gl h t size).1),.val none [I t],.val none [I size]] (.tup [none,none]) [I (gl h t size).2.1,I (gl h t size).2.2]:=by
 have hl:=hi.lens;have hlc:=hl.caches;have hlo:=hl.objs;have hnum:=hi.nums;unfold bW at hnum;rw[C0]at hnum;have hsz:=rL hi.objSz h.Objs.length (I2 _);change 0<=uR h/\uR h<=_ at hsz;have c1:=aE t 0 ((h.Caches.length:Int) - 1);have c2:=aE size 1 1000;have c3:=u7 h hi.objSz (by omega);have c4:=jg size;refine fM 119 [(234,[2,0,0]),(235,[2,0])] [(7,10,[36,37,38,39,40,41,42,43,44,45]),(18,272,[81,82,83,84,85,86,87,89,90,91,92,93,94,95,96,97,0,1,2,3,4,5,6,8,9,10,11,12,13,14,15,16,1016,7,1008,1009,1010,1011,1012,1013,1014,1015,1016,17,18]),(1048594,0,[8])] [(0,0),(0,0),(0,0)] Tryz.func143 rfl (fun u q=>?_) (.inr ⟨trivial,trivial,trivial⟩);unfold gl;by_cases h1:1000000<=h.Next
 ·rw[if_pos (.inl h1)]
  repeat'(first|refine gD ?_|(conv=>whnf);first|refine Sm.rf ?_)
  refine aR.mk rfl rfl ?_;exact wC
 by_cases h2:90000<h.Kernel.Calls
 ·rw[if_pos (.inr h2)]
  repeat'(first|refine gD ?_|(conv=>whnf);first|with_reducible refine Bf.D (fun hq=>?_) (fun hq=>?_)|refine Sm.rf ?_)
  refine aR.mk rfl rfl ?_;exact wC
 rw[if_neg (by omega)];by_cases h3:¬(0<=t/\t<=h.Caches.length - 1)
 ·rw[if_pos h3]
  rw[P0 h3]at c1
  repeat'(first|refine gD ?_|(conv=>whnf);first|with_reducible refine Bf.D (fun hq=>?_) (fun hq=>?_)|refine Sm.rf ?_|refine Cl.mk (c1) ?_)
  refine aR.mk rfl rfl ?_;exact wC
 rw[if_neg h3];replace h3:=Decidable.not_not.1 h3;rw[O0 h3]at c1;by_cases h4:¬(1<=size/\size<=1000)
 ·rw[if_pos h4]
  rw[P0 h4]at c2
  repeat'(first|refine gD ?_|(conv=>whnf);first|with_reducible refine Bf.D (fun hq=>?_) (fun hq=>?_)|refine Sm.rf ?_|refine Cl.mk (c1) ?_|refine Cl.mk (c2) ?_)
  refine aR.mk rfl rfl ?_;exact wC
 rw[if_neg h4];replace h4:=Decidable.not_not.1 h4;rw[O0 h4]at c2;by_cases h5:h.Limit<uR h+size
 ·rw[if_pos h5]
  repeat'(first|refine gD ?_|(conv=>whnf);first|with_reducible refine Bf.D (fun hq=>?_) (fun hq=>?_)|refine Sm.rf ?_|refine Cl.mk (c1) ?_|refine Cl.mk (c2) ?_|refine Cl.eq (c3) ⟨⟨rfl,bz h⟩,trivial⟩ ?_|refine Sm.rf ?_)
  refine aR.mk rfl rfl ?_;exact wC
 rw[if_neg h5];by_cases h6:0<=aO size
 ·rw[if_pos h6]
  have hc3:aO size<=3:=by unfold aO;repeat' split<;>omega
  obtain⟨T,rfl⟩:=Z1 h3.1;obtain⟨K,hK⟩:=Z1 h6;have c5:=wG h T K hi (by omega) (by omega) (by omega);have s:=yd (t:=T) (c:=K) hi (by omega) (by omega) (by omega);rw[hK]at c4 |-;simp only[W1];generalize gj h T K=w at c5 s |-;obtain⟨g,a⟩:=w;have hgn:g.Next=h.Next:=s.nx;simp only at c5 |-;by_cases h7:a<0
  ·rw[if_pos h7]
   repeat'(first|refine gD ?_|(conv=>whnf);first|with_reducible refine Bf.D (fun hq=>?_) (fun hq=>?_)|refine Sm.rf ?_|refine Cl.mk (c1) ?_|refine Cl.mk (c2) ?_|refine Cl.eq (c3) ⟨⟨rfl,bz h⟩,trivial⟩ ?_|refine Sm.rf ?_|refine Cl.mk (c4) ?_|refine cu.mk (c5) (.inl rfl) ?_)
   refine aR.mk rfl rfl ?_;exact wC
  ·rw[if_neg h7]
   obtain⟨k1,k2⟩:=s.yes (show(0:Int)<=a by omega);have hgl:g.Objs.length<=512:=k1.lens.objs
   repeat'(first|refine gD ?_|(conv=>whnf);first|with_reducible refine Bf.D (fun hq=>?_) (fun hq=>?_)|refine Sm.rf ?_|refine Cl.mk (c1) ?_|refine Cl.mk (c2) ?_|refine Cl.eq (c3) ⟨⟨rfl,bz h⟩,trivial⟩ ?_|refine Sm.rf ?_|refine Cl.mk (c4) ?_|refine cu.mk (c5) (.inl rfl) ?_)
   (conv=>whnf)
   refine Lp.mk (ι:=Nat) (fun i=>[(0,.hold .box (bt g)),(1,.hold .one [I ((T:Nat):Int)]),(2,.hold .one [I (size)]),(8,.hold .one [I (a)]),(9,.hold .one [I ((i:Nat):Int)])]) (fun i=>i<=g.Objs.length/\∀ (j:Nat) (z:bJ),j<i->g.Objs[j]? = some z->KC a z=false) (fun i=>g.Objs.length - i) (0) ?_ (⟨Q0 _,fun j z hj=>by omega⟩) fun i hi=>?_
   ·exact wC
   obtain⟨hi',ha⟩:=hi;by_cases go:i<g.Objs.length/\(nth g.Objs i).Addr<a
   ·have hx:=ah go.1
    repeat'(first|refine gD ?_|(conv=>whnf);first|with_reducible refine Ix.nat (aa hx) ?_|refine Sm.rf ?_|refine Rw.one rfl (aa hx) rfl ?_)
    ((conv=>whnf);refine Nx.mk (i+1) ⟨by omega,dc hx (P0 (by omega)) ha⟩ (by omega) ?_;(exact wC))
   ·have hpos:jl (KC a) g.Objs=i:=tP (by omega) ha fun z hz=>by
     have hlt:=(R1.1 hz).1;have:z=nth g.Objs i:=(bn hz).symm;subst this;exact O0 (by omega)
    have hx:i<g.Objs.length->g.Objs[i]? = some (nth g.Objs i):=fun hh=>ah hh
    rw[show addO g a size (T:Nat) = {g with Objs:=g.Objs.take i++⟨g.Next,a,size,(T:Nat)⟩::g.Objs.drop i,Next:=g.Next+1} by unfold addO;rw[tS hpos]]
    repeat'(first|refine gD ?_|(conv=>whnf);first|with_reducible (first|refine Ix.nat (aa (hx (by omega))) ?_|refine Bf.D (fun hq=>?_) (fun hq=>?_))|refine Sm.rf ?_|refine Rw.one rfl (aa (hx (by omega))) rfl ?_|refine D8.mk rfl (tQ g.Objs) rfl ?_|refine Sl.pre i rfl (by rw[U0];omega) (aM fun _=>rfl) C3 ?_|refine Sl.suf i rfl (by rw[U0];omega) (aM fun _=>rfl) I3 ?_|refine Ap.cp (fun _=>rfl) (fun _=>rfl) (by rw[C1];omega) (by decide) ?_|refine Ap.sn (aM fun _=>rfl) rfl (by rw[U0,C1];omega) (by decide) rfl ?_|refine Ap.ins (e:=bJ.enc .imm) (y:=⟨g.Next,a,size,(T:Nat)⟩) rfl (fun _=>rfl) (fun _=>rfl) (by omega) (by decide) ?_|refine Sm.rf ?_)
    all_goals
     refine aR.mk rfl rfl ?_;exact wC
 ·rw[if_neg h6]
  have hz9:9<=size:=by unfold aO at h6;repeat' split at h6<;>omega
  have c5:=xA h size hi ⟨hz9,h4.2⟩ (by omega);rw[GG t hi ⟨hz9,h4.2⟩];have hg:(Hh h size).1.Next=h.Next/\(Hh h size).1.Objs=h.Objs:=by
   unfold Hh;split
   ·exact⟨rfl,rfl⟩
   ·split<;>exact⟨rfl,rfl⟩
  generalize Hh h size=w at c5 hg |-;obtain⟨g,a⟩:=w;obtain⟨hgn,hgo⟩:=hg;simp only at c5 hgn hgo |-;have hgl:g.Objs.length<=512:=by rw[hgo];exact hlo
  by_cases h7:a<0
  ·rw[if_pos h7]
   repeat'(first|refine gD ?_|(conv=>whnf);first|with_reducible refine Bf.D (fun hq=>?_) (fun hq=>?_)|refine Sm.rf ?_|refine Cl.mk (c1) ?_|refine Cl.mk (c2) ?_|refine Cl.eq (c3) ⟨⟨rfl,bz h⟩,trivial⟩ ?_|refine Sm.rf ?_|refine Cl.mk (c4) ?_|refine cu.mk (c5) (.inl rfl) ?_)
   refine aR.mk rfl rfl ?_;exact wC
  ·rw[if_neg h7]
   repeat'(first|refine gD ?_|(conv=>whnf);first|with_reducible refine Bf.D (fun hq=>?_) (fun hq=>?_)|refine Sm.rf ?_|refine Cl.mk (c1) ?_|refine Cl.mk (c2) ?_|refine Cl.eq (c3) ⟨⟨rfl,bz h⟩,trivial⟩ ?_|refine Sm.rf ?_|refine Cl.mk (c4) ?_|refine cu.mk (c5) (.inl rfl) ?_)
   (conv=>whnf)
   refine Lp.mk (ι:=Nat) (fun i=>[(0,.hold .box (bt g)),(1,.hold .one [I (t)]),(2,.hold .one [I (size)]),(8,.hold .one [I (a)]),(9,.hold .one [I ((i:Nat):Int)])]) (fun i=>i<=g.Objs.length/\∀ (j:Nat) (z:bJ),j<i->g.Objs[j]? = some z->KC a z=false) (fun i=>g.Objs.length - i) (0) ?_ (⟨Q0 _,fun j z hj=>by omega⟩) fun i hi=>?_
   ·exact wC
   obtain⟨hi',ha⟩:=hi;by_cases go:i<g.Objs.length/\(nth g.Objs i).Addr<a
   ·have hx:=ah go.1
    repeat'(first|refine gD ?_|(conv=>whnf);first|with_reducible refine Ix.nat (aa hx) ?_|refine Sm.rf ?_|refine Rw.one rfl (aa hx) rfl ?_)
    ((conv=>whnf);refine Nx.mk (i+1) ⟨by omega,dc hx (P0 (by omega)) ha⟩ (by omega) ?_;(exact wC))
   ·have hpos:jl (KC a) g.Objs=i:=tP (by omega) ha fun z hz=>by
     have hlt:=(R1.1 hz).1;have:z=nth g.Objs i:=(bn hz).symm;subst this;exact O0 (by omega)
    have hx:i<g.Objs.length->g.Objs[i]? = some (nth g.Objs i):=fun hh=>ah hh
    rw[show addO g a size t = {g with Objs:=g.Objs.take i++⟨g.Next,a,size,t⟩::g.Objs.drop i,Next:=g.Next+1} by unfold addO;rw[tS hpos]]
    repeat'(first|refine gD ?_|(conv=>whnf);first|with_reducible (first|refine Ix.nat (aa (hx (by omega))) ?_|refine Bf.D (fun hq=>?_) (fun hq=>?_))|refine Sm.rf ?_|refine Rw.one rfl (aa (hx (by omega))) rfl ?_|refine D8.mk rfl (tQ g.Objs) rfl ?_|refine Sl.pre i rfl (by rw[U0];omega) (aM fun _=>rfl) C3 ?_|refine Sl.suf i rfl (by rw[U0];omega) (aM fun _=>rfl) I3 ?_|refine Ap.cp (fun _=>rfl) (fun _=>rfl) (by rw[C1];omega) (by decide) ?_|refine Ap.sn (aM fun _=>rfl) rfl (by rw[U0,C1];omega) (by decide) rfl ?_|refine Ap.ins (e:=bJ.enc .imm) (y:=⟨g.Next,a,size,t⟩) rfl (fun _=>rfl) (fun _=>rfl) (by omega) (by decide) ?_|refine Sm.rf ?_)
    all_goals
     refine aR.mk rfl rfl ?_;exact wC
theorem DH (h:ab) (a n:Int) (hl:h.Larges.length<=4096) (hb:∀ l∈h.Larges,bR l=true) (hn:xy h a<0):aS Tryz.prog 358 false [.ptr (bt h),.val none [I a],.val none [I n]] [.ptr (bt h),.val none [I a],.val none [I n]] .one [B false]:=by
 have hne:∀ l∈h.Larges,l.Page*16≠a:=fun l hl' e=>by
  have:=Db (p:=F5 a) hl' (O0 e);unfold xy at hn;omega
 refine fM 136 [(297,[2,0])] [(8,6,[49,50,51,52,53,54]),(9,10,[56,57,58,59,60,61,62,63,64,65]),(20,270,[123,124,125,126,127,128,129,130,131,122,132,133,134,135,0,1,2,3,4,5,6,7,8,9,10,11,12,13,14,1011])] [(0,0),(0,0),(0,0)] Tryz.func358 rfl (fun u q=>?_)
 repeat'(first|refine gO ?_|(conv=>whnf);first|refine Sm.rf ?_)
 (conv=>whnf)
 refine Lp.mk (ι:=Nat) (fun k=>[(0,.hold .box (bt h)),(1,.hold .one [I (a)]),(2,.hold .one [I (n)]),(7,.hold .one [I ((k:Nat):Int)])]) (fun k=>k<=h.Larges.length) (fun k=>h.Larges.length - k) (0) ?_ (Q0 _) fun k hk=>?_
 ·repeat'(first|exact trivial|rfl |exact mI hoo|exact mI hoo2|exact dL _|refine And.intro ?_ ?_|(exact AG (by first|omega|(simp only;omega)|(simp;omega))))
 by_cases lk:k<h.Larges.length
 ·have hx:=ah lk
  have h1:=hne _ (am lk);have h2:=aU (hb _ (am lk))
  repeat'(first|refine gA ?_|(conv=>whnf);first|with_reducible refine Ix.nat (aa hx) ?_|refine Sm.rf ?_|refine Rw.one rfl (aa hx) rfl ?_)
  ((conv=>whnf);refine Nx.mk (k+1) (by omega) (by omega) ?_;(exact wC))
 ·repeat'(first|refine gD ?_|(conv=>whnf);first|refine Sm.rf ?_)
  refine aR.mk rfl rfl ?_;exact wC
theorem Mt (h:ab) (a:Int) (m:Nat):bt {h with Kernel:=zK h.Kernel a (m+1)} = (bt {h with Kernel:=zK h.Kernel a m}).set 0 (.s .own (((zK h.Kernel a m).Machine.Frames.Cells.map (aD .own)).set (ar (zK h.Kernel a m).Machine.Table ((a+m) / 16)).Frame.toNat ((aD .own (nth (zK h.Kernel a m).Machine.Frames.Cells (fS (zK h.Kernel a m) (a+m)))).set 0 (.s .own (((nth (zK h.Kernel a m).Machine.Frames.Cells (fS (zK h.Kernel a m) (a+m))).map (rI .own)).set ((a+m) % 16).toNat (splice (rI .own (nth (nth (zK h.Kernel a m).Machine.Frames.Cells (fS (zK h.Kernel a m) (a+m))) ((a+m) % 16).toNat)) 0 [I 0])))))):=
 Fu {h with Kernel:=zK h.Kernel a m} (a+m) 0
def kg (h:ab) (i k:Nat) (n:Int) (K:af):ab:={h with Kernel:=K,Larges:=h.Larges.set k (trimL (nth h.Larges k) n),Objs:=h.Objs.set i {nth h.Objs i with Size:=n}}
theorem GA (h:ab) (i k:Nat) (n:Int) (K:af):(kg h i k n K).Objs.map (bJ.enc .own)=(h.Objs.map (bJ.enc .own)).set i (splice (bJ.enc .own (nth h.Objs i)) 2 [I n]):=by
 simp[kg,Q4,bJ.enc,splice]
theorem qy (h:ab) (i:Nat) (n:Int) (hi:bo h []) (li:i<h.Objs.length) (hg:0<=xy h (nth h.Objs i).Addr):aS Tryz.prog 358 false [.ptr (bt h),.val none [I (nth h.Objs i).Addr],.val none [I n]] [.ptr (bt (if kf h i n then trimH h i (xy h (nth h.Objs i).Addr).toNat n else h)),.val none [I (nth h.Objs i).Addr],.val none [I n]] .one [B (decide (kf h i n))]:=by
 have hlen:=hi.lens;have hnl:=hlen.larges;have hno:=hlen.objs;have hpg:dQ h<=32:=hlen.ents;obtain⟨f1,f2,f3⟩:=fN (F5 (nth h.Objs i).Addr) h.Larges hg;obtain⟨g,hgn⟩:=Z1 hg;have hgl:g<h.Larges.length:=by unfold xy at hgn;omega
 have hga:(nth h.Larges g).Page*16=(nth h.Objs i).Addr:=by
  have:=of_decide_eq_true f2;rw[show(du (F5 (nth h.Objs i).Addr) h.Larges).toNat=g by unfold xy at hgn;omega]at this;exact this
 have hbef:∀ k,k<g->(nth h.Larges k).Page*16≠(nth h.Objs i).Addr:=fun k hk e=>by
  have hkl:k<h.Larges.length:=by omega
  have hok1:=aU (hi.L.lok _ (am hkl));have hok2:=aU (hi.L.lok _ (am hgl));have:=hi.L.one k g hkl hgl 0 0 (by omega) (by omega) (by omega);omega
 have hct:kf h i n↔9<=n/\n<=(nth h.Larges g).Size:=by
  unfold kf;rw[hgn,W1];exact⟨fun x=>x.2,fun x=>⟨by omega,x⟩⟩
 rw[hgn,W1];have hbd:=rQ hi (am li);obtain⟨-,hob,hfst⟩:=hi.objAt (am li);have hii:mS h (nth h.Objs i).Addr=i:=by
  have h2:=(hi.objAt (am li)).1;exact gx (f:=(·.Addr)) (gP hi.osr) h2 li (by rw[hob])
 rw[hii]at hfst;have hxo:=ah li;have hxg:=ah hgl;have c1:=uM (nth h.Larges g) n (hi.L.lok _ (am hgl));have h8:=hi.L.lok _ (am hgl);unfold bR at h8;rw[C0]at h8;refine fM 136 [(297,[2,0])] [(8,6,[49,50,51,52,53,54]),(9,10,[56,57,58,59,60,61,62,63,64,65]),(20,270,[123,124,125,126,127,128,129,130,131,122,132,133,134,135,0,1,2,3,4,5,6,7,8,9,10,11,12,13,14,1011])] [(0,0),(0,0),(0,0)] Tryz.func358 rfl (fun u q=>?_)
 repeat'(first|refine gO ?_|(conv=>whnf);first|refine Sm.rf ?_)
 (conv=>whnf)
 refine Lp.mk (ι:=Nat) (fun k=>[(0,.hold .box (bt h)),(1,.hold .one [I ((nth h.Objs i).Addr)]),(2,.hold .one [I (n)]),(7,.hold .one [I ((k:Nat):Int)])]) (fun k=>k<=g) (fun k=>g - k) (0) ?_ (Q0 _) fun k hk=>?_
 ·repeat'(first|exact trivial|rfl |exact mI hoo|exact mI hoo2|exact dL _|refine And.intro ?_ ?_|(exact AG (by first|omega|(simp only;omega)|(simp;omega))))
 have hx:=ah (xs:=h.Larges) (i:=k) (by omega);have hfk:=aU (hi.L.lok _ (am (xs:=h.Larges) (i:=k) (by omega)));by_cases e:k=g;rotate_left
 ·have hne:=hbef k (by omega)
  repeat'(first|refine gA ?_|(conv=>whnf);first|with_reducible refine Ix.nat (aa hx) ?_|refine Sm.rf ?_|refine Rw.one rfl (aa hx) rfl ?_)
  ((conv=>whnf);refine Nx.mk (k+1) (by omega) (by omega) ?_;(exact wC))
 subst e;by_cases ct:9<=n/\n<=(nth h.Larges k).Size;rotate_left
 ·rw[if_neg (by rw[hct];exact ct),P0 (by rw[hct];exact ct)]
  rw[if_neg ct]at c1
  repeat'(first|refine gA ?_|(conv=>whnf);first|with_reducible refine Ix.nat (aa hx) ?_|refine Sm.rf ?_|refine Rw.one rfl (aa hx) rfl ?_|refine Cl.mk (c1) ?_)
  refine aR.mk rfl rfl ?_;exact wC
 rw[if_pos (by rw[hct];exact ct),O0 (by rw[hct];exact ct)];rw[if_pos ct]at c1;have hker:=fun m hm=>D6 hi hgl ct (m:=m) hm
 have htab:=fun m=>(vA h.Kernel (16*(nth h.Larges k).Page+n) m).1
 have hmap:=fun a ha=>ne hi hgl (a:=a) ha
 have hsz:n<=16*(nth h.Larges k).Pages:=by omega
 generalize hM:(16*((n+15) / 16) - n).toNat=M at *;have hfl:∀ m,(zK h.Kernel (16*(nth h.Larges k).Page+n) m).Machine.Frames.Cells.length=h.Kernel.Machine.Frames.Cells.length:=fun m=>by
  induction m with
  | zero=>rfl
  | succ m ih=>show(List.set _ _ _).length=_;rw[Z0];exact ih
 have cO:=pp {h with Larges:=h.Larges.set k (trimL (nth h.Larges k) n)} (nth h.Objs i).Addr (by show h.Objs.length<=_;omega);change ao _ _ _ [.val (some 24) (ab.enc .imm {h with Larges:=h.Larges.set k (trimL (nth h.Larges k) n)}),_] _ [I (du (kK (nth h.Objs i).Addr) h.Objs)]at cO;rw[hfst]at cO;have hzL:=bz {h with Larges:=h.Larges.set k (trimL (nth h.Larges k) n)};have heL:bt {h with Larges:=h.Larges.set k (trimL (nth h.Larges k) n)} = (bt h).set 7 (.s .own ((h.Larges.map (a8.enc .own)).set k (a8.enc .own (trimL (nth h.Larges k) n)))):=by simp[bt,Q4]
 rw[heL]at hzL
 repeat'(first|refine gA ?_|(conv=>whnf);first|with_reducible (first|refine Ix.nat (aa hx) ?_|refine Ix.nat (aa hxo) ?_)|refine Sm.rf ?_|refine Rw.one rfl (aa hx) rfl ?_|refine Cl.mk (c1) ?_|refine Pu.one rfl rfl (aa hx) rfl (W0 rfl) rfl ?_|refine Cl.eq (cO) ⟨⟨rfl,hzL⟩,⟨rfl,rfl⟩,trivial⟩ ?_|refine Pu.one rfl rfl (aa hxo) rfl (W0 rfl) rfl ?_|refine Rw.one rfl (aa hxo) rfl ?_|refine Sm.rf ?_)
 rw[<-hga];have e0:kg h i k n h.Kernel=kg h i k n (zK h.Kernel (16*(nth h.Larges k).Page+n) 0):=rfl;have hoo:C.s .own ((kg h i k n (zK h.Kernel (16*(nth h.Larges k).Page+n) 0)).Larges.map (a8.enc .own))=C.s .own ((h.Larges.map (a8.enc .own)).set k (a8.enc .own (trimL (nth h.Larges k) n))):=by simp[kg,Q4]
 have hoo2:C.s .own ((kg h i k n (zK h.Kernel (16*(nth h.Larges k).Page+n) 0)).Objs.map (bJ.enc .own))=C.s .own ((h.Objs.map (bJ.enc .own)).set i (splice (bJ.enc .own (nth h.Objs i)) 2 [I n])):=R0 _ (GA h i k n _)
 (conv=>whnf)
 refine Lp.mk (ι:=Nat) (fun m=>[(0,.hold .box (bt (kg h i k n (zK h.Kernel (16*(nth h.Larges k).Page+n) m)))),(1,.hold .one [I (((nth h.Larges k).Page*16))]),(8,.hold .box (a8.enc .own (trimL (nth h.Larges k) n))),(9,.hold .box (a7.enc .own (vF (nth h.Larges k) n))),(11,.hold .one [I (((16*(nth h.Larges k).Page+n)+(m:Nat)))])]) (fun m=>m<=M) (fun m=>M - m) (0) ?_ (Q0 _) fun m hm=>?_
 ·repeat'(first|exact trivial|rfl |exact mI hoo|exact mI hoo2|exact dL _|refine And.intro ?_ ?_|(exact AG (by first|omega|(simp only;omega)|(simp;omega))))
 have hmod:IntKind.i64.wrap 0=0:=rfl;by_cases lm:m<M
 ·have ha:0<=(16*(nth h.Larges k).Page+n)+(m:Nat)/\(16*(nth h.Larges k).Page+n)+(m:Nat)<512:=by omega
  have hm1:=hmap ((16*(nth h.Larges k).Page+n)+(m:Nat)) (by omega);have hk1:=hker m hm;rw[<-htab m]at hm1;have hks:=bG hk1;have c2:=cP (zK h.Kernel (16*(nth h.Larges k).Page+n) m).Machine.Table (((16*(nth h.Larges k).Page+n)+(m:Nat)) / 16) hks.1.2;obtain⟨-,-,-,q0,q1⟩:=cv hk1 hm1;have hul:=(bg.1 (aC.1 hk1).2.1).2.2.1;have hfr:fS (zK h.Kernel (16*(nth h.Larges k).Page+n) m) ((16*(nth h.Larges k).Page+n)+(m:Nat))<(zK h.Kernel (16*(nth h.Larges k).Page+n) m).Machine.Frames.Cells.length:=by unfold fS;omega
  have hck:(zK h.Kernel (16*(nth h.Larges k).Page+n) m).Machine.Frames.Cells[(ar (zK h.Kernel (16*(nth h.Larges k).Page+n) m).Machine.Table (((16*(nth h.Larges k).Page+n)+(m:Nat)) / 16)).Frame.toNat]? = some _:=ah hfr;have h16:=(zI hk1 hfr).1;have hzk:=ah (xs:=nth (zK h.Kernel (16*(nth h.Larges k).Page+n) m).Machine.Frames.Cells (fS (zK h.Kernel (16*(nth h.Larges k).Page+n) m) ((16*(nth h.Larges k).Page+n)+(m:Nat)))) (i:=(((16*(nth h.Larges k).Page+n)+(m:Nat)) % 16).toNat) (by rw[h16];omega);have htm:((16*(nth h.Larges k).Page+n)+(m:Nat)).tmod 16=((16*(nth h.Larges k).Page+n)+(m:Nat)) % 16:=dZ ha.1;have hpu:=Mt (kg h i k n h.Kernel) (16*(nth h.Larges k).Page+n) m;have hwr:=oM ha;have hst:(trimL (nth h.Larges k) n).Pages=(n+15) / 16:=rfl
  repeat'(first|refine gD ?_|(conv=>whnf);first|refine Sm.rf ?_|refine Cd.mk (by decide) ?_|refine Wr.mk hwr ?_|refine Ev.mk htm ?_|refine Cl.eq (c2) ⟨⟨rfl,aG.enc_fz _⟩,⟨rfl,rfl⟩,trivial⟩ ?_|refine Ix.mk q0 (aa hck) ?_|refine Rw.one rfl (aa hck) rfl ?_|refine Ix.mk (by omega) (aa hzk) ?_|refine Pu.two rfl rfl (aa hck) rfl rfl rfl (aa hzk) rfl (I2 _) hpu ?_)
  ((conv=>whnf);refine Nx.mk (m+1) (by omega) (by omega) ?_;(exact wC))
 obtain rfl:m=M:=by omega
 have hst:(trimL (nth h.Larges k) n).Pages=(n+15) / 16:=rfl;have hkM:=hker m (I2 _);have hlnM:(zK h.Kernel (16*(nth h.Larges k).Page+n) m).Machine.Table.Entries.length=dQ h:=by rw[htab];rfl
 have hTK:sg h k n=zK h.Kernel (16*(nth h.Larges k).Page+n) m:=by unfold sg;rw[hM]
 unfold trimH FU;rw[hTK];generalize zK h.Kernel (16*(nth h.Larges k).Page+n) m=K at *;have hN:((d8 (nth h.Larges k) n:Nat):Int)=(nth h.Larges k).Pages - (n+15) / 16:=by unfold d8;omega
 have hrA:0<d8 (nth h.Larges k) n->vF (nth h.Larges k) n = ⟨(nth h.Larges k).Page+(n+15) / 16,(d8 (nth h.Larges k) n:Nat)⟩:=fun hp=>by unfold vF;rw[if_pos (by omega),hN]
 have hrB:¬0<d8 (nth h.Larges k) n->vF (nth h.Larges k) n = ⟨0,0⟩:=fun hp=>by unfold vF;rw[if_neg (by omega)]
 generalize d8 (nth h.Larges k) n=P at *;by_cases hP:0<P
 ·rw[if_pos hP]
  have hr:=hrA hP;rw[hr]
  repeat'(first|refine gD ?_|(conv=>whnf);first|refine Sm.rf ?_)
  (conv=>whnf)
  refine Lp.mk (ι:=Nat) (fun x=>[(0,.hold .box (bt (kg h i k n (dN K ((nth h.Larges k).Page+(n+15) / 16) x)))),(9,.hold .box ([I ((nth h.Larges k).Page+(n+15) / 16),I (P:Nat)])),(13,.hold .one [I (((nth h.Larges k).Page+(n+15) / 16+(x:Nat)))])]) (fun x=>x<=P) (fun x=>P - x) (0) ?_ (Q0 _) fun x hx=>?_
  ·repeat'(first|exact trivial|rfl |exact mI hoo|exact mI hoo2|exact dL _|refine And.intro ?_ ?_|(exact AG (by first|omega|(simp only;omega)|(simp;omega))))
  by_cases lx:x<P
  ·have c3:=mg (kg h i k n (dN K ((nth h.Larges k).Page+(n+15) / 16) x)) ((nth h.Larges k).Page+(n+15) / 16+(x:Nat)) (kz hkM _ _)
   repeat'(first|refine gD ?_|(conv=>whnf);first|refine Sm.rf ?_|refine cu.mk (c3) (.inl rfl) ?_)
   ((conv=>whnf);refine Nx.mk (x+1) (by omega) (by omega) ?_;(exact wC))
  ·obtain rfl:x=P:=by omega
   have c4:=gu (kg h i k n (dN K ((nth h.Larges k).Page+(n+15) / 16) x));rw[show dQ (kg h i k n (dN K ((nth h.Larges k).Page+(n+15) / 16) x))=dQ h from(gV _ _ _).1.trans hlnM]at c4;have c5:=kG (dQ h:Nat) h.Free ⟨(nth h.Larges k).Page+(n+15) / 16,(x:Nat)⟩ ⟨by omega,by omega⟩ ⟨by have:=hlen.free;omega,fun _ _=>trivial⟩
   repeat'(first|refine gD ?_|(conv=>whnf);first|refine Sm.rf ?_|refine Cl.eq (c4) ⟨bz _,trivial⟩ ?_|refine Cl.eq (c5) ⟨⟨rfl,rfl⟩,⟨rfl,dB h.Free⟩,⟨rfl,rfl⟩,trivial⟩ ?_|refine Sm.rf ?_)
   refine aR.mk rfl rfl ?_;exact wC
 ·rw[if_neg hP]
  obtain rfl:P=0:=by omega
  have hr:=hrB hP;rw[hr]
  repeat'(first|refine gD ?_|(conv=>whnf);first|refine Sm.rf ?_)
  (conv=>whnf)
  refine Lp.mk (ι:=Nat) (fun x=>[(0,.hold .box (bt (kg h i k n K))),(9,.hold .box ([I 0,I 0])),(13,.hold .one [I (0)])]) (fun x=>x=0) (fun x=>0) (0) ?_ (rfl) fun x hx=>?_
  ·repeat'(first|exact trivial|rfl |exact mI hoo|exact mI hoo2|exact dL _|refine And.intro ?_ ?_|(exact AG (by first|omega|(simp only;omega)|(simp;omega))))
  subst hx
  repeat'(first|refine gD ?_|(conv=>whnf);first|refine Sm.rf ?_)
  refine aR.mk rfl rfl ?_;exact wC
theorem B2 {α:Type} (a:α) (k:Nat):List.replicate (k+1) a=List.replicate k a++[a]:=List.replicate_succ' ..
theorem El (n k:Nat):aZ.enc .own ⟨List.replicate k (List.replicate 16 0),List.replicate n false⟩ = [.s .own (List.replicate k [.s .own (List.replicate 16 [I 0])]),.s .own (List.replicate n [B false])]:=by
 simp[aZ.enc,aD,rI,rB,List.map_replicate]
theorem Fz (n:Nat):H5 [.s .own (List.replicate n [.z]),.s .own (List.replicate n [.z]),B true] (aH.enc .own (d2 n)++[B true]):=by
 have e:aH.enc .own (d2 n)++[B true]=[.s .own (List.replicate n [.s .own []]),.s .own (List.replicate n [.s .own []]),B true]:=by simp[aH.enc,d2,co,aD,List.map_replicate]
 rw[e];exact .cons (.rep (.cons .z_ .nil)) (.cons (.rep (.cons .z_ .nil)) (.cons (.rfl_ _) .nil))
theorem Lu (n:Nat) (hn:1<=n/\n<=4):ao Tryz.prog 94 false [.val none [I (n:Nat)]] (.tup [some 2,none]) (aH.enc .own (d2 n)++[B true]):=by
 have c1:=aJ ((n:Nat):Int) 1 4;rw[O0 (by omega)]at c1;refine fO 13 [(3,4,[8,9,10,11])] Tryz.func94 rfl ?_ (.inr (aN (aH.enc_fr _) ⟨trivial,trivial⟩))
 repeat'((conv=>whnf);first|with_reducible (first|refine Lm ?_|refine Wm (by omega) ?_|refine Bn ?_|refine iW.dk rfl ?_)|refine Bt ?_|refine Bu ?_|refine Sm.rf ?_|refine Cl.mk (c1) ?_|refine Mk.mk n rfl rfl (by omega) (wI (by omega) (by decide)) rfl ?_)
 exact Fz n
theorem zw (n:Nat) (hn:1<=n/\n<=4):ao Tryz.prog 351 false [.val none [I (n:Nat)]] (.tup [some 2,none]) (aH.enc .own (d2 n)++[B true]):=by
 have c1:=aE ((n:Nat):Int) 1 4;rw[O0 (by omega)]at c1;refine fO 13 [(3,4,[8,9,10,11])] Tryz.func351 rfl ?_ (.inr (aN (aH.enc_fr _) ⟨trivial,trivial⟩))
 repeat'((conv=>whnf);first|with_reducible (first|refine Lm ?_|refine Wm (by omega) ?_|refine Bn ?_|refine iW.dk rfl ?_)|refine Bt ?_|refine Bu ?_|refine Sm.rf ?_|refine Cl.mk (c1) ?_|refine Mk.mk n rfl rfl (by omega) (wI (by omega) (by decide)) rfl ?_)
 exact Fz n
theorem Hy:H5 [.s .own (List.replicate 4 [.z])] (aB.enc .own eH):=.cons (.rep (.cons .z_ .nil)) .nil
theorem x8:ao Tryz.prog 352 false [] .agg (aB.enc .own eH):=by
 refine fO 3 [] Tryz.func352 rfl ?_ (.inr (aB.enc_fr _))
 repeat'((conv=>whnf);first|with_reducible (first|refine Lm ?_|refine Wm (by omega) ?_|refine Bn ?_|refine iW.dk rfl ?_)|refine Bt ?_|refine Bu ?_|refine Sm.rf ?_|refine Mk.mk 4 rfl rfl (by decide) (by decide) rfl ?_)
 exact Hy
theorem qt:ao Tryz.prog 353 false [.val none [I 16]] (.tup [some 2,none]) (bA.enc .own ⟨16,[]⟩++[B true]):=by
 refine fO 10 [] Tryz.func353 rfl ?_ (.inr (aN (bA.enc_fr _) ⟨trivial,trivial⟩))
 repeat'((conv=>whnf);first|with_reducible (first|refine Lm ?_|refine Wm (by omega) ?_|refine Bn ?_|refine iW.wk rfl ?_)|refine Bt ?_|refine Bu ?_|refine Sm.rf ?_|refine Cl.mk (aE 16 0 500) ?_)
 exact⟨rfl,rfl,rfl,trivial⟩
def caps (h:ab) (k:Nat):ab:={h with Caches:=List.replicate k eH}
theorem GJ (k:Nat):(List.replicate (k+1) eH).map (aB.enc .own)=(List.replicate k eH).map (aB.enc .own)++[aB.enc .own eH]:=by rw[B2,C4];rfl
theorem JL {k:Nat} : ∀ r∈(List.replicate k eH).map (aB.enc .own),r.length=1:=aM fun _=>rfl
theorem La (x:List bE):fz (.s .own (x.map (bE.enc .own)))=.s .imm (x.map (bE.enc .imm)):=(List.cons.inj (List.cons.inj (ax.enc_fz ⟨0,x⟩)).2).1
theorem ep:∀ a b:List C,d3 (a++b)=d3 a++d3 b
 | [],_=>rfl
 | x::xs,b=>by show fz x::d3 (xs++b)=fz x::(d3 xs++d3 b);rw[ep xs b]
theorem dA (r:ax) (hs:ax.sml r):ao Tryz.prog 309 false [.val (some 2) (ax.enc .imm r)] .agg (ax.enc .own r):=by
 have hl:r.Objs.length<=1048576:=hs.1;refine fO 36 [(5,272,[15,16,17,18,19,20,21,22,23,24,25,26,27,28,29,34,0,1,2,3,4,5,6,7,8,9,10,11,12,13,14,15,1000,1001,1002,1003,1004,1005,1006,1007,16,1000,1001,17,1000,1001,18,19,20])] Tryz.func309 rfl ?_ (.inr (ax.enc_fr _))
 repeat'(first|refine gO ?_|(conv=>whnf);first|refine Sm.rf ?_)
 (conv=>whnf)
 refine Lp.mk (ι:=Nat) (fun i=>[(1,.hold .box (ax.enc .imm r)),(2,.hold .box [I 0,.z]),(3,.hold .box [I r.Next,.s .own ((r.Objs.take i).map (bE.enc .own))]),(4,.hold .one [I ((i:Nat):Int)])]) (fun i=>i<=r.Objs.length) (fun i=>r.Objs.length - i) (0) ?_ (Q0 _) fun i hi=>?_
 ·exact wC
 by_cases li:i<r.Objs.length
 ·have hx:=ah li
  have hxl:(nth r.Objs i).Cells.length<=1048576:=hs.2 _ (am li)
  repeat'(first|refine gD ?_|(conv=>whnf);first|with_reducible refine Ix.nat (aa hx) ?_|refine Sm.rf ?_|refine Rw.one rfl (aa hx) rfl ?_|refine Fl.cp (fun _=>rfl) (fun _=>rfl) hxl (by decide) ?_|refine Ap.cp (fun _=>rfl) (fun _=>rfl) hxl (by decide) ?_|refine Sm.rf ?_|refine Ap.sn (aM fun _=>rfl) rfl (by simp;omega) (by decide) (eD li) ?_)
  ((conv=>whnf);refine Nx.mk (i+1) (by omega) (by omega) ?_;(exact wC))
 ·repeat'(first|refine gD ?_|(conv=>whnf);first|refine Sm.rf ?_)
  obtain rfl:i=r.Objs.length:=by omega
  rw[X3]
  rfl
theorem gz (r:ax) (id:Int) (hl:r.Objs.length<=1048576):ao Tryz.prog 385 false [.val (some 2) (ax.enc .imm r),.val none [I id]] .one [I (n6 r id)]:=by
 refine fO 22 [] Tryz.func385 rfl ?_
 repeat'(first|refine gO ?_|(conv=>whnf);first|refine Sm.rf ?_)
 (conv=>whnf)
 refine Lp.mk (ι:=Nat) (fun i=>[(1,.hold .one [I (id)]),(2,.hold .box (ax.enc .imm r)),(5,.hold .one [I ((i:Nat):Int)])]) (fun i=>i<=r.Objs.length/\∀ (j:Nat) (z:bE),j<i->r.Objs[j]? = some z->lS id z=false) (fun i=>r.Objs.length - i) (0) ?_ (⟨Q0 _,fun j z hj=>by omega⟩) fun i hi=>?_
 ·exact wC
 obtain⟨hi,ha⟩:=hi;by_cases li:i<r.Objs.length
 ·have hx:=ah li
  by_cases e:(nth r.Objs i).Id=id
  ·repeat'(first|refine gA ?_|(conv=>whnf);first|with_reducible refine Ix.nat (aa hx) ?_|refine Sm.rf ?_|refine Rw.one rfl (aa hx) rfl ?_)
   exact R0 (fun z=>[I z]) (dD hx (O0 e) ha).symm
  ·repeat'(first|refine gA ?_|(conv=>whnf);first|with_reducible refine Ix.nat (aa hx) ?_|refine Sm.rf ?_|refine Rw.one rfl (aa hx) rfl ?_)
   ((conv=>whnf);refine Nx.mk (i+1) ⟨by omega,dc hx (P0 e) ha⟩ (by omega) ?_;(exact wC))
 ·repeat'(first|refine gD ?_|(conv=>whnf);first|refine Sm.rf ?_)
  exact R0 (fun z=>[I z]) (fE (by omega) ha).symm
theorem mq (r:ax) (c:C) (h:Mn c):gk (ax.enc .own r++[c]):=aN (ax.enc_fr _) ⟨h,trivial⟩
theorem wN (r:ax) (n:Int) (m:Nat) (hr:pP r m) (hm:m<=1000) (hn:1<=n/\n<=1000):ao Tryz.prog 301 false [.val (some 2) (ax.enc .imm r),.val none [I n]] (.tup [some 2,none]) (ax.enc .imm (jD r n)++[I r.Next]):=by
 have hs:=hr.sml hm;have hlen:=hr.len;have hnx:=hr.nx;have c1:=dA r hs;have c2:=aE n 1 1000;rw[O0 hn]at c2;have key:ao Tryz.prog 301 false [.val (some 2) (ax.enc .imm r),.val none [I n]] (.tup [some 2,none]) (ax.enc .own (jD r n)++[I r.Next]):=by
  have hf:=mq (jD r n) (I r.Next) trivial;unfold jD at hf |-;rw[if_pos hn]at hf |-;have e1:ax.enc .own {r with Next:=r.Next+1,Objs:=r.Objs++[⟨r.Next,List.replicate n.toNat 0⟩]} = [I (r.Next+1),.s .own (r.Objs.map (bE.enc .own)++[[I r.Next,.s .own (List.replicate n.toNat [I 0])]])]:=by
   simp[ax.enc,bE.enc,rI]
  rw[e1]at hf |-;refine fO 30 [(4,263,[13,14,15,16,17,18,22,0,1,2,3,4,5,6,1000,1001,7,1000,1001,8,9,10]),(6,259,[27,28,29,0,1,2,3,1001,1002,4])] Tryz.func301 rfl ?_ (.inr hf)
  repeat'(first|refine gO ?_|(conv=>whnf);first|refine Sm.rf ?_|refine Cl.mk (c1) ?_|refine Cl.mk (c2) ?_|refine Mk.mk n.toNat (by omega) (by omega) (by omega) (wI (by omega) (by decide)) rfl ?_|refine Sm.rf ?_|refine Ap.sn (aM fun _=>rfl) rfl (by simp;omega) (by decide) rfl ?_)
  (conv=>whnf)
  rfl
 have h2:=key.fzR;rw[ep,ax.enc_fz]at h2;exact h2
theorem zn (r:ax) (id:Int) (m:Nat) (hr:pP r m) (hm:m<=1000):ao Tryz.prog 355 true [.val (some 2) (ax.enc .imm r),.val none [I id]] (.tup [some 2,none]) (ax.enc .imm (kn r id)++[B (!decide (n6 r id<0))]):=by
 have hs:=hr.sml hm;have hlen:=hr.len;have c1:=dA r hs;have c2:=gz r id hs.1;by_cases e:n6 r id<0
 ·have key:ao Tryz.prog 355 true [.val (some 2) (ax.enc .imm r),.val none [I id]] (.tup [some 2,none]) (ax.enc .own r++[B false]):=by
   refine fO 30 [(5,267,[16,17,18,19,20,22,23,24,25,26,28,0,1,2,3,4,6,7,8,9,10,5,1006,1007,1008,1009,1010,11,12,13]),(1048581,6,[1])] Tryz.func355 rfl ?_ (.inl rfl)
   repeat'(first|refine gD ?_|(conv=>whnf);first|refine Sm.rf ?_|refine Cl.mk (c1) ?_|refine Cl.mk (c2) ?_)
   rfl
  have h2:=key.fzR;rw[ep,ax.enc_fz]at h2;unfold kn;rw[if_pos e,O0 e];exact h2
 ·have e0:kn r id = {r with Objs:=dele r.Objs (n6 r id).toNat}:=by unfold kn;rw[if_neg e]
  obtain⟨f1,f2,f3⟩:=fN (lS id) r.Objs (by unfold n6 at e;omega);obtain⟨j,hj⟩:=Z1 (show 0<=n6 r id by omega);have hjl:j<r.Objs.length:=by unfold n6 at hj;omega
  have key:ao Tryz.prog 355 true [.val (some 2) (ax.enc .imm r),.val none [I id]] (.tup [some 2,none]) ([I r.Next,.s .own ((dele r.Objs j).map (bE.enc .imm))]++[B true]):=by
   rw[hj]at c2;refine fO 30 [(5,267,[16,17,18,19,20,22,23,24,25,26,28,0,1,2,3,4,6,7,8,9,10,5,1006,1007,1008,1009,1010,11,12,13]),(1048581,6,[1])] Tryz.func355 rfl ?_ (.inl rfl)
   repeat'(first|refine gD ?_|(conv=>whnf);first|refine Sm.rf ?_|refine Cl.mk (c1) ?_|refine Cl.mk (c2) ?_|refine D8.mk rfl (La r.Objs) rfl ?_|refine Sl.pre j rfl (by rw[U0];omega) (aM fun _=>rfl) C3 ?_|refine Sl.suf (j+1) (by omega) (by rw[U0];omega) (aM fun _=>rfl) I3 ?_|refine Ap.cp (fun _=>rfl) (fun _=>rfl) (by rw[C1];omega) (by decide) ?_|refine Fl.cp (fun _=>rfl) (fun _=>rfl) (by rw[C1];omega) (by decide) ?_|refine Ap.dele (fun _=>rfl) (fun _=>rfl) (by omega) (by decide) ?_|refine Sm.rf ?_)
   rfl
  have h2:=key.fzR;have e9:d3 ([I r.Next,.s .own ((dele r.Objs j).map (bE.enc .imm))]++[B true])=ax.enc .imm (kn r id)++[B (!decide (n6 r id<0))]:=by
   have:∀ l:List bE,fzR (l.map (bE.enc .imm))=l.map (bE.enc .imm):=fun l=>by
    induction l with
    | nil=>rfl
    | cons x xs ih=>rw[O4,fzR,ih,<-bE.enc_fz,qn]
   rw[e0,hj,P0 (by omega)];simp[d3,fz,ax.enc,this]
  rw[e9]at h2;exact h2
theorem wT (r:ax) (id a v:Int) (m:Nat) (hr:pP r m) (hm:m<=1000) (h0:0<=n6 r id) (ha:0<=a/\a<=(nth r.Objs (n6 r id).toNat).Cells.length - 1) (hv:0<=v/\v<=999):ao Tryz.prog 357 false [.val (some 2) (ax.enc .imm r),.val none [I id],.val none [I a],.val none [I v]] (.tup [some 2,none]) (ax.enc .imm (eE r id a v)++[B true]):=by
 have hs:=hr.sml hm;have hlen:=hr.len;have c1:=dA r hs;have c2:=gz r id hs.1;obtain⟨f1,f2,f3⟩:=fN (lS id) r.Objs h0;obtain⟨j,hj⟩:=Z1 h0;have hjl:j<r.Objs.length:=by unfold n6 at hj;omega
 have hx:=ah hjl;have hxl:(nth r.Objs j).Cells.length<=1048576:=hs.2 _ (am hjl);obtain⟨b,hb⟩:=Z1 ha.1;have e0:eE r id a v = {r with Objs:=r.Objs.set j ⟨(nth r.Objs j).Id,(nth r.Objs j).Cells.set b v⟩}:=by
  unfold eE;rw[if_pos ⟨h0,ha,hv⟩,hj,hb];rfl
 rw[hj]at c2 ha;rw[hb]at ha |-;simp only[W1]at ha;have hy:=ah (xs:=(nth r.Objs j).Cells) (i:=b) (by omega);have c3:=aE (b:Nat) 0 (((nth r.Objs j).Cells.length:Nat) - 1:Int);rw[O0 (by omega)]at c3;have c4:=aE v 0 999;rw[O0 hv]at c4;have key:ao Tryz.prog 357 false [.val (some 2) (ax.enc .imm r),.val none [I id],.val none [I (b:Nat)],.val none [I v]] (.tup [some 2,none]) (ax.enc .own (eE r id (b:Nat) v)++[B true]):=by
  have hf:=mq (eE r id (b:Nat) v) (B true) trivial;rw[<-hb,e0]at hf |-;have e1:ax.enc .own {r with Objs:=r.Objs.set j ⟨(nth r.Objs j).Id,(nth r.Objs j).Cells.set b v⟩} = [I r.Next,.s .own ((r.Objs.map (bE.enc .own)).set j [I (nth r.Objs j).Id,.s .own (((nth r.Objs j).Cells.map (rI .own)).set b [I v])])]:=by
   simp[ax.enc,bE.enc,rI,Q4]
  rw[e1]at hf |-;rw[hb];refine fO 48 [] Tryz.func357 rfl ?_ (.inr hf)
  repeat'(first|refine gD ?_|(conv=>whnf);first|with_reducible (first|refine Ix.nat (aa hx) ?_|refine Ix.nat (aa hy) ?_|refine Ix.mk (by omega) (aa hx) ?_)|refine Sm.rf ?_|refine Cl.mk (c1) ?_|refine Cl.mk (c2) ?_|refine Cl.mk (c3) ?_|refine Cl.mk (c4) ?_|refine Rw.one rfl (aa hx) rfl ?_|refine Pu.two rfl rfl (aa hx) rfl rfl rfl (aa hy) rfl (I2 _) rfl ?_)
  rfl
 have h2:=key.fzR;rw[ep,ax.enc_fz]at h2;exact h2
theorem yL (r:ax) (id n:Int) (m:Nat) (hr:pP r m) (hm:m<=1000) (h0:0<=n6 r id) (hn:1<=n/\n<=(nth r.Objs (n6 r id).toNat).Cells.length):ao Tryz.prog 359 false [.val (some 2) (ax.enc .imm r),.val none [I id],.val none [I n]] (.tup [some 2,none]) (ax.enc .imm (fW r id n)++[B true]):=by
 have hs:=hr.sml hm;have hlen:=hr.len;have c1:=dA r hs;have c2:=gz r id hs.1;obtain⟨f1,f2,f3⟩:=fN (lS id) r.Objs h0;obtain⟨j,hj⟩:=Z1 h0;have hjl:j<r.Objs.length:=by unfold n6 at hj;omega
 have hx:=ah hjl;have hxl:(nth r.Objs j).Cells.length<=1048576:=hs.2 _ (am hjl);obtain⟨b,hb⟩:=Z1 (show 0<=n by omega);have e0:fW r id n = {r with Objs:=r.Objs.set j ⟨(nth r.Objs j).Id,(nth r.Objs j).Cells.take b⟩}:=by
  unfold fW;rw[if_pos ⟨h0,hn⟩,hj,hb];rfl
 rw[hj]at c2 hn;rw[hb]at hn |-;simp only[W1]at hn;have c3:=aE (b:Nat) 1 (((nth r.Objs j).Cells.length:Nat):Int);rw[O0 (by omega)]at c3;have key:ao Tryz.prog 359 false [.val (some 2) (ax.enc .imm r),.val none [I id],.val none [I (b:Nat)]] (.tup [some 2,none]) (ax.enc .own (fW r id (b:Nat))++[B true]):=by
  have hf:=mq (fW r id (b:Nat)) (B true) trivial;rw[<-hb,e0]at hf |-;have e1:ax.enc .own {r with Objs:=r.Objs.set j ⟨(nth r.Objs j).Id,(nth r.Objs j).Cells.take b⟩} = [I r.Next,.s .own ((r.Objs.map (bE.enc .own)).set j [I (nth r.Objs j).Id,.s .own (((nth r.Objs j).Cells.take b).map (rI .imm))])]:=by
   simp only[ax.enc,Q4]
   rfl
  rw[e1]at hf |-;rw[hb];refine fO 46 [(5,270,[30,31,32,33,34,35,36,37,38,39,40,41,43,44,0,1,2,3,4,5,6,7,8,9,10,11,12,1000,1001,1002,13,14,15])] Tryz.func359 rfl ?_ (.inr hf)
  repeat'(first|refine gD ?_|(conv=>whnf);first|with_reducible (first|refine Ix.nat (aa hx) ?_|refine Ix.mk (by omega) (aa hx) ?_)|refine Sm.rf ?_|refine Cl.mk (c1) ?_|refine Cl.mk (c2) ?_|refine Cl.mk (c3) ?_|refine Rw.one rfl (aa hx) rfl ?_|refine Sl.pre b rfl (by rw[U0];omega) (aM fun _=>rfl) C3 ?_|refine Fl.cp (fun _=>rfl) (fun _=>rfl) (by rw[C1];omega) (by decide) ?_|refine Ap.cp (fun _=>rfl) (fun _=>rfl) (by rw[C1];omega) (by decide) ?_|refine Sm.rf ?_|refine Pu.one rfl rfl (aa hx) rfl (W0 rfl) rfl ?_)
  rfl
 have h2:=key.fzR;rw[ep,ax.enc_fz]at h2;exact h2
theorem Ad (r:ax) (id a v:Int) (m:Nat) (hr:pP r m) (hm:m<=1000) (hv:0<=v/\v<=999):∃ b:Bool,ao Tryz.prog 357 false [.val (some 2) (ax.enc .imm r),.val none [I id],.val none [I a],.val none [I v]] (.tup [some 2,none]) (ax.enc .imm (eE r id a v)++[B b]):=by
 by_cases h0:0<=n6 r id
 ·by_cases ha:0<=a/\a<=(nth r.Objs (n6 r id).toNat).Cells.length - 1
  ·exact⟨true,wT r id a v m hr hm h0 ha hv⟩
  ·refine⟨false,?_⟩
   have hs:=hr.sml hm;have hlen:=hr.len;have c1:=dA r hs;have c2:=gz r id hs.1;obtain⟨f1,f2,f3⟩:=fN (lS id) r.Objs h0;obtain⟨j,hj⟩:=Z1 h0;have hjl:j<r.Objs.length:=by unfold n6 at hj;omega
   have hx:=ah hjl;have hxl:(nth r.Objs j).Cells.length<=1048576:=hs.2 _ (am hjl);have e0:eE r id a v=r:=by unfold eE;rw[if_neg (fun x=>ha x.2.1)]
   rw[hj]at c2 ha;simp only[W1]at ha;have c3:=aE a 0 (((nth r.Objs j).Cells.length:Nat) - 1:Int);rw[P0 ha]at c3;rw[e0];have key:ao Tryz.prog 357 false [.val (some 2) (ax.enc .imm r),.val none [I id],.val none [I a],.val none [I v]] (.tup [some 2,none]) (ax.enc .own r++[B false]):=by
    refine fO 48 [] Tryz.func357 rfl ?_ (.inr (mq r (B false) trivial))
    repeat'(first|refine gD ?_|(conv=>whnf);first|with_reducible refine Ix.nat (aa hx) ?_|refine Sm.rf ?_|refine Cl.mk (c1) ?_|refine Cl.mk (c2) ?_|refine Cl.mk (c3) ?_|refine Rw.one rfl (aa hx) rfl ?_)
    rfl
   have h2:=key.fzR;rw[ep,ax.enc_fz]at h2;exact h2
 ·refine⟨false,?_⟩
  have hs:=hr.sml hm;have c1:=dA r hs;have c2:=gz r id hs.1;rw[show eE r id a v=r by unfold eE;rw[if_neg (fun x=>h0 x.1)]];have key:ao Tryz.prog 357 false [.val (some 2) (ax.enc .imm r),.val none [I id],.val none [I a],.val none [I v]] (.tup [some 2,none]) (ax.enc .own r++[B false]):=by
   refine fO 48 [] Tryz.func357 rfl ?_ (.inr (mq r (B false) trivial))
   repeat'(first|refine gD ?_|(conv=>whnf);first|refine Sm.rf ?_|refine Cl.mk (c1) ?_|refine Cl.mk (c2) ?_)
   rfl
  have h2:=key.fzR;rw[ep,ax.enc_fz]at h2;exact h2
theorem Bv (r:ax) (id n:Int) (m:Nat) (hr:pP r m) (hm:m<=1000):∃ b:Bool,ao Tryz.prog 359 false [.val (some 2) (ax.enc .imm r),.val none [I id],.val none [I n]] (.tup [some 2,none]) (ax.enc .imm (fW r id n)++[B b]):=by
 by_cases h0:0<=n6 r id
 ·by_cases ha:1<=n/\n<=(nth r.Objs (n6 r id).toNat).Cells.length
  ·exact⟨true,yL r id n m hr hm h0 ha⟩
  ·refine⟨false,?_⟩
   have hs:=hr.sml hm;have hlen:=hr.len;have c1:=dA r hs;have c2:=gz r id hs.1;obtain⟨f1,f2,f3⟩:=fN (lS id) r.Objs h0;obtain⟨j,hj⟩:=Z1 h0;have hjl:j<r.Objs.length:=by unfold n6 at hj;omega
   have hx:=ah hjl;have hxl:(nth r.Objs j).Cells.length<=1048576:=hs.2 _ (am hjl);have e0:fW r id n=r:=by unfold fW;rw[if_neg (fun x=>ha x.2)]
   rw[hj]at c2 ha;simp only[W1]at ha;have c3:=aE n 1 (((nth r.Objs j).Cells.length:Nat):Int);rw[P0 ha]at c3;rw[e0];have key:ao Tryz.prog 359 false [.val (some 2) (ax.enc .imm r),.val none [I id],.val none [I n]] (.tup [some 2,none]) (ax.enc .own r++[B false]):=by
    refine fO 46 [(5,270,[30,31,32,33,34,35,36,37,38,39,40,41,43,44,0,1,2,3,4,5,6,7,8,9,10,11,12,1000,1001,1002,13,14,15])] Tryz.func359 rfl ?_ (.inr (mq r (B false) trivial))
    repeat'(first|refine gD ?_|(conv=>whnf);first|with_reducible refine Ix.nat (aa hx) ?_|refine Sm.rf ?_|refine Cl.mk (c1) ?_|refine Cl.mk (c2) ?_|refine Cl.mk (c3) ?_|refine Rw.one rfl (aa hx) rfl ?_)
    rfl
   have h2:=key.fzR;rw[ep,ax.enc_fz]at h2;exact h2
 ·refine⟨false,?_⟩
  have hs:=hr.sml hm;have c1:=dA r hs;have c2:=gz r id hs.1;rw[show fW r id n=r by unfold fW;rw[if_neg (fun x=>h0 x.1)]];have key:ao Tryz.prog 359 false [.val (some 2) (ax.enc .imm r),.val none [I id],.val none [I n]] (.tup [some 2,none]) (ax.enc .own r++[B false]):=by
   refine fO 46 [(5,270,[30,31,32,33,34,35,36,37,38,39,40,41,43,44,0,1,2,3,4,5,6,7,8,9,10,11,12,1000,1001,1002,13,14,15])] Tryz.func359 rfl ?_ (.inr (mq r (B false) trivial))
   repeat'(first|refine gD ?_|(conv=>whnf);first|refine Sm.rf ?_|refine Cl.mk (c1) ?_|refine Cl.mk (c2) ?_)
   rfl
  have h2:=key.fzR;rw[ep,ax.enc_fz]at h2;exact h2
structure gR where
 i:Nat
 h:Int
deriving Inhabited
def w64 (x:Int):Int:=IntKind.i64.wrap x
def MV (h:Int):Int:=w64 (w64 (h*6364136223846793005)+1442695040888963407)
def MB (a b:Int):Int:=w64 ((BitVec.ofInt IntKind.i64.bits a ^^^ BitVec.ofInt IntKind.i64.bits b).toNat:Nat)
def and255 (a:Int):Int:=w64 ((BitVec.ofInt IntKind.i64.bits a &&& BitVec.ofInt IntKind.i64.bits 255).toNat:Nat)
def K7 (h:Int) (n:Nat):Int:=h.fdiv (2 ^ (min n IntKind.i64.bits))
def ye (h:Int):Int:=and255 (MB (K7 h 33) (K7 h 45))
theorem y2 (a:Int):0<=and255 a/\and255 a<=255:=by
 have h1:(BitVec.ofInt IntKind.i64.bits a &&& BitVec.ofInt IntKind.i64.bits 255).toNat<=255:=by
  rw[BitVec.toNat_and];exact V3 Nat.and_le_right (by decide)
 unfold and255 w64;rw[ed (by omega) (by omega)];omega
def dh (zs:List Int) (c:gR):Int × gR:=if c.i<zs.length then(and255 (ye (MV c.h)+nth zs c.i),⟨c.i+1,MV c.h⟩) else(ye (MV c.h),⟨c.i,MV c.h⟩)
theorem qP (zs:List Int) (c:gR):0<=(dh zs c).1/\(dh zs c).1<=255:=by
 unfold dh;split<;>exact y2 _
theorem hC {zs:List Int} {c:gR} (h:c.i<=zs.length):(dh zs c).2.i<=zs.length:=by
 unfold dh;split
 ·simp only;omega
 ·exact h
def yi (zs:List Int) (c:gR):Int × gR:=
 ((dh zs c).1*16777216+(dh zs (dh zs c).2).1*65536+(dh zs (dh zs (dh zs c).2).2).1*256+(dh zs (dh zs (dh zs (dh zs c).2).2).2).1,(dh zs (dh zs (dh zs (dh zs c).2).2).2).2)
def bu (zs:List Int) (c:gR) (n:Int):Int × gR:=if n<=256 then((dh zs c).1 % n,(dh zs c).2) else((yi zs c).1 % n,(yi zs c).2)
theorem bC (zs:List Int) (c:gR) {n:Int} (h:1<=n):0<=(bu zs c n).1/\(bu zs c n).1<n:=by
 unfold bu;split<;>exact⟨Int.emod_nonneg _ (by omega),Int.emod_lt_of_pos _ (by omega)⟩
theorem bM {zs:List Int} {c:gR} (h:c.i<=zs.length) (n:Int):(bu zs c n).2.i<=zs.length:=by
 unfold bu;split
 ·exact hC h
 ·exact hC (hC (hC (hC h)))
def jF (zs:List Int) (c:gR) (l:List Int):Int × gR:=(nth l (bu zs c (l.length:Nat)).1.toNat,(bu zs c (l.length:Nat)).2)
theorem nN (zs:List Int) (c:gR) {l:List Int} (h:1<=l.length):(jF zs c l).1∈l:=by
 have:=bC zs c (n:=(l.length:Nat)) (by omega);exact am (by omega)
def nv (zs:List Int):Nat->Nat->List Int->gR->List Int × gR
 | 0,_,out,c=>(out,(bu zs c 4).2)
 | f+1,i,out,c=>if(i:Int)<(bu zs c 4).1 then nv zs f (i+1) (out++[(bu zs (bu zs c 4).2 12).1]) (bu zs (bu zs c 4).2 12).2 else(out,(bu zs c 4).2)
def LJ (zs:List Int) (c:gR):List Int × gR:=nv zs 4 0 [] c
theorem FO (zs:List Int):∀ (f i:Nat) (out:List Int) (c:gR),(∀ x∈out,0<=x)->out.length+f<=4->c.i<=zs.length->(∀ x∈(nv zs f i out c).1,0<=x)/\(nv zs f i out c).1.length<=4/\(nv zs f i out c).2.i<=zs.length
 | 0,_,out,c,h1,h2,h3=>⟨h1,by show out.length<=4;omega,bM h3 _⟩
 | f+1,i,out,c,h1,h2,h3=>by
  unfold nv;split
  ·refine FO zs f (i+1) _ _ (fun x hx=>?_) (by simp only[P2,List.length_singleton];omega) (bM (bM h3 _) _)
   rcases C2.1 hx with hx|hx
   ·exact h1 x hx
   ·rw[X0.1 hx];exact(bC zs _ (by decide)).1
  ·exact⟨h1,by show out.length<=4;omega,bM h3 _⟩
def w8 (zs:List Int) (c:gR):Int × gR:=bu zs c 7
def AX (zs:List Int) (c:gR):Int × gR:=bu zs (w8 zs c).2 3
def EN (zs:List Int) (c:gR):Int × gR:=bu zs (AX zs c).2 100
def yJ (zs:List Int) (c:gR):Int × gR:=bu zs (EN zs c).2 4
def LX (zs:List Int) (c:gR):List Int × gR:=LJ zs (yJ zs c).2
def oQ (zs:List Int) (c:gR):cI:=⟨(6+(w8 zs c).1).toNat,(6+(w8 zs c).1 - (yJ zs c).1).toNat,(1+(AX zs c).1).toNat,40+(EN zs c).1,(LX zs c).1⟩
theorem u6 {zs:List Int} {c:gR} (h:c.i<=zs.length):GV (oQ zs c)/\(LX zs c).2.i<=zs.length:=by
 have h1:=bC zs c (n:=7) (by decide);have h2:=bC zs (w8 zs c).2 (n:=3) (by decide);have h3:=bC zs (AX zs c).2 (n:=100) (by decide);have h4:=bC zs (EN zs c).2 (n:=4) (by decide);change 0<=(w8 zs c).1/\(w8 zs c).1<7 at h1;change 0<=(AX zs c).1/\(AX zs c).1<3 at h2;change 0<=(EN zs c).1/\(EN zs c).1<100 at h3;change 0<=(yJ zs c).1/\(yJ zs c).1<4 at h4;obtain⟨r1,r2,r3⟩:=FO zs 4 0 [] (yJ zs c).2 (fun x hx=>by cases hx) (by simp) (bM (bM (bM (bM h _) _) _) _);refine⟨⟨?_,?_,?_,?_,?_⟩,r3⟩
 ·show 1<=(6+(w8 zs c).1).toNat/\(6+(w8 zs c).1).toNat<=32;omega
 ·show 1<=(6+(w8 zs c).1 - (yJ zs c).1).toNat/\(6+(w8 zs c).1 - (yJ zs c).1).toNat<=32;omega
 ·show 1<=(1+(AX zs c).1).toNat/\(1+(AX zs c).1).toNat<=4;omega
 ·show 0<=40+(EN zs c).1/\40+(EN zs c).1<=1000;omega
 ·exact⟨by show(nv zs 4 0 [] (yJ zs c).2).1.length<=40;omega,r1⟩
def xU (zs:List Int) (c:gR):Int × gR:=bu zs c 3
def D7 (zs:List Int) (c:gR) (ids:Int):Int × gR:=bu zs (xU zs c).2 ids
def jM (zs:List Int) (c:gR) (ids:Int):Int × gR:=bu zs (D7 zs c ids).2 20
def szs:List Int:=[1,1,2,2,3,4,4,5,8,9,20]
def qD (zs:List Int) (c:gR) (ids:Int):en × gR:=
 if(jM zs c ids).1<=6 then(⟨1,(xU zs c).1,(jF zs (jM zs c ids).2 szs).1,0,0⟩,(jF zs (jM zs c ids).2 szs).2)
 else if(jM zs c ids).1<=9 then(⟨2,(xU zs c).1,1+(D7 zs c ids).1,0,0⟩,(jM zs c ids).2)
 else if(jM zs c ids).1<=12 then(⟨3,(xU zs c).1,1+(D7 zs c ids).1,(bu zs (jM zs c ids).2 4).1,1+(bu zs (bu zs (jM zs c ids).2 4).2 999).1⟩,(bu zs (bu zs (jM zs c ids).2 4).2 999).2)
 else if(jM zs c ids).1=13 then(⟨4,(xU zs c).1,1+(D7 zs c ids).1,0,9+(bu zs (jM zs c ids).2 10).1⟩,(bu zs (jM zs c ids).2 10).2)
 else if(jM zs c ids).1=14 then(⟨(jF zs (jM zs c ids).2 [5,6]).1,(xU zs c).1,1+(D7 zs c ids).1,0,0⟩,(jF zs (jM zs c ids).2 [5,6]).2)
 else if(jM zs c ids).1=15 then(⟨7,(xU zs c).1,1+(D7 zs c ids).1,0,0⟩,(jM zs c ids).2)
 else if(jM zs c ids).1=16 then(⟨8,(xU zs c).1,(jF zs (jM zs c ids).2 [1,30,60,120]).1,0,0⟩,(jF zs (jM zs c ids).2 [1,30,60,120]).2)
 else if(jM zs c ids).1=17 then(⟨9,(xU zs c).1,1+(D7 zs c ids).1,0,0⟩,(jM zs c ids).2)
 else(⟨10,(xU zs c).1,(jF zs (jM zs c ids).2 [1,2,3,10,30]).1,0,0⟩,(jF zs (jM zs c ids).2 [1,2,3,10,30]).2)
structure HJ (a:en):Prop where
 k:1<=a.Kind/\a.Kind<=10
 t:0<=a.Thread/\a.Thread<=1000000
 n:0<=a.N/\a.N<=1000000
 p:0<=a.At/\a.At<=1000000
 v:0<=a.Value/\a.Value<=1000000
theorem JF {zs:List Int} {c:gR} {ids:Int} (h:c.i<=zs.length) (hi:1<=ids/\ids<=1000):HJ (qD zs c ids).1/\(qD zs c ids).2.i<=zs.length:=by
 have h1:=bC zs c (n:=3) (by decide);have h2:=bC zs (xU zs c).2 (n:=ids) hi.1;change 0<=(xU zs c).1/\(xU zs c).1<3 at h1;change 0<=(D7 zs c ids).1/\(D7 zs c ids).1<ids at h2;have hk:(jM zs c ids).2.i<=zs.length:=bM (bM (bM h _) _) _;have p1:=nN zs (jM zs c ids).2 (l:=szs) (by decide);have p2:=nN zs (jM zs c ids).2 (l:=[5,6]) (by decide);have p3:=nN zs (jM zs c ids).2 (l:=[1,30,60,120]) (by decide);have p4:=nN zs (jM zs c ids).2 (l:=[1,2,3,10,30]) (by decide);have b1:=bC zs (jM zs c ids).2 (n:=4) (by decide);have b2:=bC zs (bu zs (jM zs c ids).2 4).2 (n:=999) (by decide);have b3:=bC zs (jM zs c ids).2 (n:=10) (by decide);simp only[szs,List.mem_cons,List.not_mem_nil,or_false]at p1 p2 p3 p4;unfold qD
 repeat' split
 ·exact⟨⟨by simp only;omega,by simp only;omega,by simp only[szs];omega,by simp only;omega,by simp only;omega⟩,bM hk _⟩
 ·exact⟨⟨by simp only;omega,by simp only;omega,by simp only;omega,by simp only;omega,by simp only;omega⟩,hk⟩
 ·exact⟨⟨by simp only;omega,by simp only;omega,by simp only;omega,by simp only;omega,by simp only;omega⟩,bM (bM hk _) _⟩
 ·exact⟨⟨by simp only;omega,by simp only;omega,by simp only;omega,by simp only;omega,by simp only;omega⟩,bM hk _⟩
 ·exact⟨⟨by simp only;omega,by simp only;omega,by simp only;omega,by simp only;omega,by simp only;omega⟩,bM hk _⟩
 ·exact⟨⟨by simp only;omega,by simp only;omega,by simp only;omega,by simp only;omega,by simp only;omega⟩,hk⟩
 ·exact⟨⟨by simp only;omega,by simp only;omega,by simp only;omega,by simp only;omega,by simp only;omega⟩,bM hk _⟩
 ·exact⟨⟨by simp only;omega,by simp only;omega,by simp only;omega,by simp only;omega,by simp only;omega⟩,hk⟩
 ·exact⟨⟨by simp only;omega,by simp only;omega,by simp only;omega,by simp only;omega,by simp only;omega⟩,bM hk _⟩
def kv (zs:List Int) (c:gR):Nat->List en × gR
 | 0=>([],(bu zs c 41).2)
 | i+1=>((kv zs c i).1++[(qD zs (kv zs c i).2 (1+(i:Int) / 2)).1],(qD zs (kv zs c i).2 (1+(i:Int) / 2)).2)
def m7 (zs:List Int) (c:gR):List en × gR:=kv zs c (bu zs c 41).1.toNat
theorem qo {zs:List Int} {c:gR} (h:c.i<=zs.length):∀ {n:Nat},n<=100->(kv zs c n).1.length=n/\(∀ a∈(kv zs c n).1,HJ a)/\(kv zs c n).2.i<=zs.length
 | 0,_=>⟨rfl,fun a ha=>(by cases ha),bM h _⟩
 | n+1,hn=>by
  obtain⟨h1,h2,h3⟩:=qo h (n:=n) (by omega);obtain⟨g1,g2⟩:=JF (ids:=1+(n:Int) / 2) h3 (by omega);refine⟨by simp only[kv,P2,List.length_singleton,h1],fun a ha=>?_,g2⟩;rcases C2.1 ha with ha|ha
  ·exact h2 a ha
  ·rw[X0.1 ha];exact g1
def oy (zs:List Int):Nat->Int
 | 0=>w64 (98801+(zs.length:Nat))
 | i+1=>w64 ((BitVec.ofInt IntKind.i64.bits (w64 (w64 (w64 (oy zs i*131)+nth zs i)+7)) &&& BitVec.ofInt IntKind.i64.bits 1073741823).toNat:Nat)
def th (zs:List Int):gR:=⟨0,oy zs (min zs.length 4000)⟩
def eO (zs:List Int):gR:=(LX zs (th zs)).2
def drawn (zs:List Int):bI:=(A2 (oQ zs (th zs)) (m7 zs (eO zs)).1 (m7 zs (eO zs)).1.length).1
theorem Dr (zs:List Int):sf (drawn zs) 40:=by
 have h1:(th zs).i<=zs.length:=Q0 _;obtain⟨c1,c2⟩:=u6 h1;have hb:=bC zs (eO zs) (n:=41) (by decide);obtain⟨a1,-,-⟩:=qo (zs:=zs) (c:=eO zs) c2 (n:=(bu zs (eO zs) 41).1.toNat) (by omega);refine(zc c1 _ _).more ?_;show(kv zs (eO zs) _).1.length<=40;rw[a1];omega
def rU (z:Int):List C:=[.v (.int .u8 z)]
def gS (zs:List Int) (c:gR):List C:=[.s .imm (zs.map rU),I (c.i:Nat),I c.h]
def ja (zs:List Int):Prop:=zs.length<=1048576/\∀ z∈zs,0<=z/\z<=255
theorem jr (zs:List Int) (c:gR) (hz:ja zs) (hc:c.i<=zs.length):aS Tryz.prog 185 false [.ptr (gS zs c)] [.ptr (gS zs (dh zs c).2)] .one [I (dh zs c).1]:=by
 have e1:IntKind.i64.wrap (c.h*6364136223846793005)=w64 (c.h*6364136223846793005):=rfl;have e2:IntKind.i64.wrap (w64 (c.h*6364136223846793005)+1442695040888963407)=MV c.h:=rfl;have hn1:=hz.1;generalize hH:MV c.h=H at e2;have e3:H.fdiv (2 ^ (min (33:Int).toNat IntKind.i64.bits))=K7 H 33:=rfl;have e4:H.fdiv (2 ^ (min (45:Int).toNat IntKind.i64.bits))=K7 H 45:=rfl;have e5:IntKind.i64.wrap (BitVec.ofInt IntKind.i64.bits (K7 H 33) ^^^ BitVec.ofInt IntKind.i64.bits (K7 H 45)).toNat=MB (K7 H 33) (K7 H 45):=rfl;have e6:IntKind.i64.wrap (BitVec.ofInt IntKind.i64.bits (MB (K7 H 33) (K7 H 45)) &&& BitVec.ofInt IntKind.i64.bits 255).toNat=ye H:=rfl;have hb:0<=ye H/\ye H<=255:=y2 _;unfold dh;rw[hH];generalize ye H=y at e6 hb |-;refine fM 58 [] [(2,10,[13,14,15,16,17,18,19,20,21,22]),(3,9,[25,26,27,28,29,30,31,32,33]),(4,12,[35,36,37,38,39,40,41,42,43,44,45,46])] [(0,0)] Tryz.func185 rfl (fun u q=>?_);by_cases li:c.i<zs.length
 ·rw[if_pos li]
  have hx:=ah li;have h2:=hz.2 _ (am li);have e7:IntKind.i64.wrap (BitVec.ofInt IntKind.i64.bits (y+nth zs c.i) &&& BitVec.ofInt IntKind.i64.bits 255).toNat=and255 (y+nth zs c.i):=rfl
  repeat'(first|refine gD ?_|(conv=>whnf);first|with_reducible (first|refine Wr.mk e1 ?_|refine Wr.mk e2 ?_|refine Wr.mk e5 ?_|refine Wr.mk e6 ?_|refine Wr.mk e7 ?_|refine Ix.nat (aa hx) ?_|refine Cd.mk (by decide) ?_|refine Ev.mk e3 ?_|refine Ev.mk e4 ?_)|refine Rw.one rfl (aa hx) rfl ?_|refine Sm.rf ?_)
  refine aR.mk rfl rfl ?_;exact wB
 ·rw[if_neg li]
  repeat'(first|refine gD ?_|(conv=>whnf);first|with_reducible (first|refine Wr.mk e1 ?_|refine Wr.mk e2 ?_|refine Wr.mk e5 ?_|refine Wr.mk e6 ?_|refine Cd.mk (by decide) ?_|refine Ev.mk e3 ?_|refine Ev.mk e4 ?_)|refine Sm.rf ?_)
  refine aR.mk rfl rfl ?_;exact wB
theorem bO (zs:List Int) (c:gR) (n:Int) (hz:ja zs) (hc:c.i<=zs.length) (hn:1<=n):aS Tryz.prog 92 false [.ptr (gS zs c),.val none [I n]] [.ptr (gS zs (bu zs c n).2),.val none [I n]] .one [I (bu zs c n).1]:=by
 have b1:=qP zs c;have s1:=jr zs c hz hc;unfold bu;refine fM 37 [(185,[2])] [] [(0,0),(0,0)] Tryz.func92 rfl (fun u q=>?_);by_cases li:n<=256
 ·rw[if_pos li]
  have e0:(dh zs c).1.tmod n=(dh zs c).1 % n:=Int.tmod_eq_emod_of_nonneg b1.1
  repeat'(first|refine gD ?_|(conv=>whnf);first|with_reducible (first|refine Ev.mk e0 ?_|refine Bf.D (fun hq=>?_) (fun hq=>?_))|refine cu.mk (s1) (.inl rfl) ?_|refine Cd.mk (by omega) ?_)
  refine aR.mk rfl rfl ?_;exact wB
 ·rw[if_neg li]
  have b2:=qP zs (dh zs c).2;have b3:=qP zs (dh zs (dh zs c).2).2;have b4:=qP zs (dh zs (dh zs (dh zs c).2).2).2;have s2:=jr zs (dh zs c).2 hz (hC hc);have s3:=jr zs (dh zs (dh zs c).2).2 hz (hC (hC hc));have s4:=jr zs (dh zs (dh zs (dh zs c).2).2).2 hz (hC (hC (hC hc)));have e0:(yi zs c).1.tmod n=(yi zs c).1 % n:=Int.tmod_eq_emod_of_nonneg (by unfold yi;simp only;omega);unfold yi at e0 |-;simp only at e0
  repeat'(first|refine gD ?_|(conv=>whnf);first|with_reducible (first|refine Ev.mk e0 ?_|refine Bf.D (fun hq=>?_) (fun hq=>?_))|refine cu.mk (s1) (.inl rfl) ?_|refine cu.mk (s2) (.inl rfl) ?_|refine cu.mk (s3) (.inl rfl) ?_|refine cu.mk (s4) (.inl rfl) ?_|refine Cd.mk (by omega) ?_)
  refine aR.mk rfl rfl ?_;exact wB
theorem Hs (zs:List Int) (c:gR) (l:List Int) (hz:ja zs) (hc:c.i<=zs.length) (hl:1<=l.length/\l.length<=1000):aS Tryz.prog 310 false [.ptr (gS zs c),.val none (aD .imm l)] [.ptr (gS zs (jF zs c l).2),.val none (aD .imm l)] .one [I (jF zs c l).1]:=by
 have s1:=bO zs c (l.length:Nat) hz hc (by omega);have b1:=bC zs c (n:=(l.length:Nat)) (by omega);have hx:=ah (xs:=l) (i:=(bu zs c (l.length:Nat)).1.toNat) (by omega);unfold jF;refine fM 12 [(92,[2,0])] [] [(0,0),(0,0)] Tryz.func310 rfl (fun u q=>?_)
 repeat'(first|refine gO ?_|(conv=>whnf);first|with_reducible refine Ix.mk (by omega) (aa hx) ?_|refine cu.mk (s1) (.inl rfl) ?_|refine Rw.one rfl (aa hx) rfl ?_)
 refine aR.mk rfl rfl ?_;exact wC
theorem gY (zs:List Int) (c:gR) (l:List Int) (hz:ja zs) (hc:c.i<=zs.length) (hl:1<=l.length/\l.length<=1000):aS Tryz.prog 310 false [.ptr (gS zs c),.mut none (aD .own l)] [.ptr (gS zs (jF zs c l).2),.mut none (aD .own l)] .one [I (jF zs c l).1]:=by
 have s1:=bO zs c (l.length:Nat) hz hc (by omega);have b1:=bC zs c (n:=(l.length:Nat)) (by omega);have hx:=ah (xs:=l) (i:=(bu zs c (l.length:Nat)).1.toNat) (by omega);unfold jF;refine fM 12 [(92,[2,0])] [] [(0,0),(1,0)] Tryz.func310 rfl (fun u q=>?_)
 repeat'(first|refine gO ?_|(conv=>whnf);first|with_reducible refine Ix.mk (by omega) (aa hx) ?_|refine cu.mk (s1) (.inl rfl) ?_|refine Rw.one rfl (aa hx) rfl ?_)
 refine aR.mk rfl rfl ?_;exact wC
theorem Gc (zs:List Int):∀ (f i:Nat) (out:List Int) (c:gR),(bu zs c 4).1<=i->nv zs f i out c=(out,(bu zs c 4).2)
 | 0,_,_,_,_=>rfl
 | f+1,i,out,c,h=>by unfold nv;rw[if_neg (by omega)]
theorem LO (zs:List Int) (f i:Nat) (out:List Int) (c:gR) (h:(i:Int)<(bu zs c 4).1):nv zs (f+1) i out c=nv zs f (i+1) (out++[(bu zs (bu zs c 4).2 12).1]) (bu zs (bu zs c 4).2 12).2:=by
 show(if _ then _ else _)=_;rw[if_pos h]
structure Rq where
 i:Nat
 out:List Int
 c:gR
theorem uU (zs:List Int) (c:gR) (hz:ja zs) (hc:c.i<=zs.length):aS Tryz.prog 242 false [.ptr (gS zs c)] [.ptr (gS zs (LJ zs c).2)] .one (aD .own (LJ zs c).1):=by
 refine fM 18 [(92,[2,0])] [] [(0,0)] Tryz.func242 rfl (fun u q=>?_) (.inr (bF _))
 repeat'(first|refine gO ?_|fail)
 (conv=>whnf)
 refine Lp.mk (ι:=Rq) (fun x=>[(0,.hold .box (gS zs x.c)),(3,.hold .one (aD .own x.out)),(4,.hold .one [I ((x.i:Nat):Int)])]) (fun x=>(x.i<=4/\x.out.length<=x.i/\x.c.i<=zs.length)/\nv zs (4 - x.i) x.i x.out x.c=LJ zs c) (fun x=>4 - x.i) (⟨0,[],c⟩) ?_ (⟨⟨Q0 _,Q0 _,hc⟩,rfl⟩) fun x hx=>?_
 ·exact wC
 obtain⟨i,out,d⟩:=x;obtain⟨⟨h1,h2,h3⟩,h4⟩:=hx;simp only at h1 h2 h3 h4 |-;have b1:=bC zs d (n:=4) (by decide);have s1:=bO zs d 4 hz h3 (by decide);have i1:=bM h3 4;have s2:=bO zs (bu zs d 4).2 12 hz i1 (by decide);have i2:=bM i1 12;by_cases li:(i:Int)<(bu zs d 4).1
 ·rw[show 4 - i=(4 - (i+1))+1 by omega,LO zs _ _ _ _ li]at h4
  repeat'(first|refine gD ?_|(conv=>whnf);first|refine cu.mk (s1) (.inl rfl) ?_|refine cu.mk (s2) (.inl rfl) ?_|refine Ap.mk cq (fun r hr=>by rw[X0.1 hr];rfl) (by simp[aV,d4]) (by simp;omega) (by simp only[U0];exact wI (by simp;omega) (by decide)) rfl ?_)
  ((conv=>whnf);refine Nx.mk ⟨i+1,out++[(bu zs (bu zs d 4).2 12).1],(bu zs (bu zs d 4).2 12).2⟩ ⟨⟨by simp only;omega,by simp only[P2,List.length_singleton];omega,i2⟩,h4⟩ (by simp only;omega) ?_)
  repeat'(first|exact trivial|rfl| exact dL _ |exact And.intro rfl (And.intro (R0 (C.s dz.own) (by simp[rI])) trivial)|refine And.intro ?_ ?_|(exact AG (by first|omega|(simp only;omega)|(simp;omega))))
 ·rw[Gc zs _ _ _ _ (by omega)]at h4
  rw[<-h4]
  repeat'(first|refine gD ?_|(conv=>whnf);first|refine cu.mk (s1) (.inl rfl) ?_)
  refine aR.mk rfl rfl ?_;exact wC
def cI.enc (o:dz) (c:cI):List C:=[I (c.Pages:Nat),I (c.Frames:Nat),I (c.Threads:Nat),I c.Limit,.s o (c.Refuse.map (rI o))]
theorem cI.enc_fz (c:cI):d3 (cI.enc .own c)=cI.enc .imm c:=by simp[d3,cI.enc,rI,<-bT,I4]
theorem cI.enc_fr (c:cI):gk (cI.enc .own c):=⟨trivial,trivial,trivial,trivial,⟨.inl fun h=>(by cases h),bc _ _ fun y _=>oH y⟩,trivial⟩
theorem wt (zs:List Int) (c:gR) (hz:ja zs) (hc:c.i<=zs.length):aS Tryz.prog 150 false [.ptr (gS zs c)] [.ptr (gS zs (LX zs c).2)] .agg (cI.enc .own (oQ zs c)):=by
 have i1:=bM hc 7;have i2:=bM i1 3;have i3:=bM i2 100;have i4:=bM i3 4;have s1:=bO zs c 7 hz hc (by decide);have s2:=bO zs (w8 zs c).2 3 hz i1 (by decide);have s3:=bO zs (AX zs c).2 100 hz i2 (by decide);have s4:=bO zs (EN zs c).2 4 hz i3 (by decide);have s5:=uU zs (yJ zs c).2 hz i4;have b1:=bC zs c (n:=7) (by decide);have b2:=bC zs (w8 zs c).2 (n:=3) (by decide);have b3:=bC zs (AX zs c).2 (n:=100) (by decide);have b4:=bC zs (EN zs c).2 (n:=4) (by decide);have hf:=cI.enc_fr (oQ zs c);have e0:cI.enc .own (oQ zs c)=[I (6+(w8 zs c).1),I (6+(w8 zs c).1 - (yJ zs c).1),I (1+(AX zs c).1),I (40+(EN zs c).1),.s .own ((LX zs c).1.map (rI .own))]:=by
  have b1':0<=(w8 zs c).1/\(w8 zs c).1<7:=b1;have b2':0<=(AX zs c).1/\(AX zs c).1<3:=b2;have b4':0<=(yJ zs c).1/\(yJ zs c).1<4:=b4;unfold cI.enc oQ;simp only;rw[Int.toNat_of_nonneg (by omega),Int.toNat_of_nonneg (by omega),Int.toNat_of_nonneg (by omega)]
 rw[e0]at hf |-;change aS _ _ _ _ [.ptr (gS zs (w8 zs c).2),_] _ _ at s1;change aS _ _ _ _ [.ptr (gS zs (AX zs c).2),_] _ _ at s2;change aS _ _ _ _ [.ptr (gS zs (EN zs c).2),_] _ _ at s3;change aS _ _ _ _ [.ptr (gS zs (yJ zs c).2),_] _ _ at s4;change aS _ _ _ _ [.ptr (gS zs (LX zs c).2)] _ (aD .own (LX zs c).1) at s5;change aS _ _ _ _ _ _ [I (w8 zs c).1]at s1;change aS _ _ _ _ _ _ [I (AX zs c).1]at s2;change aS _ _ _ _ _ _ [I (EN zs c).1]at s3;change aS _ _ _ _ _ _ [I (yJ zs c).1]at s4;change 0<=(w8 zs c).1/\(w8 zs c).1<7 at b1;change 0<=(AX zs c).1/\(AX zs c).1<3 at b2;change 0<=(EN zs c).1/\(EN zs c).1<100 at b3;change 0<=(yJ zs c).1/\(yJ zs c).1<4 at b4;generalize LX zs c=r5 at *;generalize yJ zs c=r4 at *;generalize EN zs c=r3 at *;generalize AX zs c=r2 at *;generalize w8 zs c=r1 at *;refine fM 24 [(92,[2,0]),(242,[2])] [(2,65536,[])] [(0,0)] Tryz.func150 rfl (fun u q=>?_) (.inr hf)
 repeat'(first|refine gO ?_|(conv=>whnf);first|refine cu.mk (s1) (.inl rfl) ?_|refine cu.mk (s2) (.inl rfl) ?_|refine cu.mk (s3) (.inl rfl) ?_|refine cu.mk (s4) (.inl rfl) ?_|refine cu.mk (s5) (.inl rfl) ?_|refine And.intro ?_ ?_)
 all_goals
  refine aR.mk rfl rfl ?_;exact wC
theorem vm (n:Nat) (hn:1<=n/\n<=32):ao Tryz.prog 400 false [.val none [I (n:Nat)]] (.tup [some 2,none]) (aZ.enc .own (fw n)++[B true]):=by
 have c1:=aE ((n:Nat):Int) 1 32;rw[O0 (by omega)]at c1;have hfr:=aN (b:=[B true]) (aZ.enc_fr (fw n)) ⟨trivial,trivial⟩;rw[show aZ.enc .own (fw n)=_ from El n n]at hfr |-;refine fO 28 [(7,4,[16,17,18,19])] Tryz.func400 rfl ?_ (.inr hfr)
 repeat'(first|refine gO ?_|(conv=>whnf);first|refine Sm.rf ?_|refine Cl.mk (c1) ?_)
 (conv=>whnf)
 refine Lp.mk (ι:=Nat) (fun k=>[(0,.hold .one [I ((n:Nat))]),(2,.hold .box [.z,.z]),(4,.hold .box [.s .own (List.replicate k [.s .own (List.replicate 16 [I 0])]),.s .own (List.replicate k [B false])]),(5,.hold .one [I ((k:Nat):Int)])]) (fun k=>k<=n) (fun k=>n - k) (0) ?_ (Q0 _) fun k hk=>?_
 ·exact wB
 by_cases lk:k<n
 ·repeat'(first|refine gD ?_|(conv=>whnf);first|refine Sm.rf ?_|refine Mk.mk 16 rfl rfl (by decide) (by decide) rfl ?_|refine Ap.sn (fun r hr=>by rw[(List.mem_replicate.1 hr).2];rfl) rfl (by simp;omega) (by decide) (B2 _ k) ?_)
  ((conv=>whnf);refine Nx.mk (k+1) (by omega) (by omega) ?_;(exact wB))
 ·obtain rfl:k=n:=by omega
  repeat'(first|refine gD ?_|(conv=>whnf);first|refine Sm.rf ?_)
  rfl
theorem wW (n:Nat) (hn:1<=n/\n<=32):ao Tryz.prog 401 false [.val none [I (n:Nat)]] (.tup [some 1,none]) (aG.enc .own (dI n)++[B true]):=by
 have c1:=aE ((n:Nat):Int) 1 32;rw[O0 (by omega)]at c1;have hfr:=aN (b:=[B true]) (aG.enc_fr (dI n)) ⟨trivial,trivial⟩;have he:aG.enc .own (dI n)=[.s .own (List.replicate n [I 0,I 0])]:=by simp[aG.enc,dI,bj.enc,List.map_replicate]
 rw[he]at hfr |-;refine fO 11 [] Tryz.func401 rfl ?_ (.inr hfr)
 repeat'(first|refine gO ?_|(conv=>whnf);first|refine Sm.rf ?_|refine Cl.mk (c1) ?_|refine Mk.mk n rfl rfl (by omega) (wI (by omega) (by decide)) rfl ?_)
 rfl
theorem t6 (p f:Nat) (hp:1<=p/\p<=32) (hf:1<=f/\f<=32):ao Tryz.prog 378 false [.val none [I (p:Nat)],.val none [I (f:Nat)]] (.tup [some 3,none]) (aQ.enc .own ⟨fw f,dI p⟩++[B true]):=by
 refine fO 30 [] Tryz.func378 rfl ?_ (.inr (aN (aQ.enc_fr _) ⟨trivial,trivial⟩))
 repeat'(first|refine gO ?_|(conv=>whnf);first|refine Sm.rf ?_|refine Cl.mk (vm f hf) ?_|refine Cl.mk (wW p hp) ?_)
 rfl
theorem vf (p f:Nat) (rf:List Int) (hp:1<=p/\p<=32) (hf:1<=f/\f<=32) (hr:rf.length<=40/\∀ x∈rf,0<=x):ao Tryz.prog 350 false [.val none [I (p:Nat)],.val none [I (f:Nat)],.val none (aD .imm rf)] (.tup [some 5,none]) (af.enc .own (b9 p f rf)++[B true]):=by
 have hk:=o9 hp hf hr;have hrl:=hr.1;have c1:=k4 (b9 p f rf) (bG hk);rw[hk]at c1;refine fO 31 [(2,260,[17,18,19,10,0,1,2,5,3,1000,1005,4,1005,6])] Tryz.func350 rfl ?_ (.inr (aN (af.enc_fr _) ⟨trivial,trivial⟩))
 repeat'(first|refine gO ?_|(conv=>whnf);first|refine Sm.rf ?_|refine Cl.mk (t6 p f hp hf) ?_|refine Cl.eq (c1) ⟨⟨rfl,af.enc_fz (b9 p f rf)⟩,trivial⟩ ?_|refine Ap.cp (fun _=>rfl) (fun _=>rfl) (by omega) (by decide) ?_|refine Fl.cp (fun _=>rfl) (fun _=>rfl) (by omega) (by decide) ?_|refine Sm.rf ?_)
 rfl
def Nu (p f t:Nat) (lim:Int) (rf:List Int) (k:Nat):ab:={caps (tT p f t lim rf) k with Quar:=⟨0,[]⟩}
theorem zi (p f t:Nat) (lim:Int) (rf:List Int) (hp:1<=p/\p<=32) (hf:1<=f/\f<=32) (ht:1<=t/\t<=4) (hl:0<=lim/\lim<=1000) (hr:rf.length<=40/\∀ x∈rf,0<=x):ao Tryz.prog 299 false [.val none [I (p:Nat)],.val none [I (f:Nat)],.val none [I (t:Nat)],.val none [I lim],.val none (aD .imm rf)] (.tup [some 24,none]) (ab.enc .own (tT p f t lim rf)++[B true]):=by
 have c1:=aE lim 0 1000;rw[O0 hl]at c1;refine fO 66 [(9,4,[54,55,56,57])] Tryz.func299 rfl ?_ (.inr (aN (ab.enc_fr _) ⟨trivial,trivial⟩))
 repeat'(first|refine gO ?_|(conv=>whnf);first|refine Sm.rf ?_|refine Cl.mk (vf p f rf hp hf hr) ?_|refine Cl.mk (zw t ht) ?_|refine Cl.mk (c1) ?_|refine Cl.mk (qt) ?_)
 (conv=>whnf)
 refine Lp.mk (ι:=Nat) (fun k=>[(2,.hold .one [I ((t:Nat))]),(10,.hold .box [.z,.z,.z,I 0,.z,.z,.z,.z,.z,.z,.z,.z,I 0,.z,I 0,I 0,I 0,I 0,B false,I 0,I 0,.z,I 0,I 0]),(16,.hold .box (ab.enc .own (Nu p f t lim rf k))),(17,.hold .one [I ((k:Nat):Int)])]) (fun k=>k<=t) (fun k=>t - k) (0) ?_ (Q0 _) fun k hk=>?_
 ·exact wB
 by_cases lk:k<t
 ·repeat'(first|refine gD ?_|(conv=>whnf);first|refine Sm.rf ?_|refine Cl.mk (x8) ?_|refine Ap.sn JL rfl (by rw[U0];show(List.replicate _ eH).length+1<=_;rw[List.length_replicate];omega) (by decide) (GJ k) ?_)
  ((conv=>whnf);refine Nx.mk (k+1) (by omega) (by omega) ?_;(exact wB))
 ·obtain rfl:k=t:=by omega
  repeat'(first|refine gD ?_|(conv=>whnf);first|refine Sm.rf ?_|refine Cl.mk (qt) ?_)
  rfl
theorem Bx:ao Tryz.prog 300 false [] .agg (ax.enc .own ⟨1,[]⟩):=by
 refine fO 2 [] Tryz.func300 rfl ?_ (.inr (ax.enc_fr _))
 repeat'((conv=>whnf);first|with_reducible (first|refine Lm ?_|refine Wm (by omega) ?_|refine Bn ?_|refine iW.wk rfl ?_)|refine Bt ?_|refine Bu ?_|refine Sm.rf ?_)
 exact⟨rfl,rfl,trivial⟩
theorem xm (c:cI) (h:GV c):ao Tryz.prog 239 false [.val (some 5) (cI.enc .imm c)] (.tup [some 26,none]) (bI.enc .own (world0 c)++[B true]):=by
 have c1:=zi c.Pages c.Frames c.Threads c.Limit c.Refuse h.p h.f h.t h.l h.r;refine fO 26 [(4,2,[23,24])] Tryz.func239 rfl ?_ (.inr (aN (bI.enc_fr _) ⟨trivial,trivial⟩))
 repeat'(first|refine gO ?_|(conv=>whnf);first|refine Sm.rf ?_|refine Cl.mk (c1) ?_|refine Cl.mk (Bx) ?_)
 rfl
def mF (o:dz) (l:List en):List C:=[.s o (l.map (en.enc o))]
theorem en.enc_fr (x:en):gk (en.enc .own x):=⟨trivial,trivial,trivial,trivial,trivial,trivial⟩
theorem GM (l:List en):gk (mF .own l):=⟨⟨.inl fun h=>(by cases h),bc _ _ fun y _=>en.enc_fr y⟩,trivial⟩
theorem Hb (l:List en):d3 (mF .own l)=mF .imm l:=by simp[d3,mF,en.enc,<-bT,I4]
theorem Bd (zs:List Int) (c:gR) (ids:Int) (hz:ja zs) (hc:c.i<=zs.length) (hi:1<=ids/\ids<=1000):aS Tryz.prog 243 false [.ptr (gS zs c),.val none [I ids]] [.ptr (gS zs (qD zs c ids).2),.val none [I ids]] .agg (en.enc .own (qD zs c ids).1):=by
 have i1:=bM hc 3;have i2:=bM i1 ids;have i3:(jM zs c ids).2.i<=zs.length:=bM i2 20;have s1:=bO zs c 3 hz hc (by decide);have s2:=bO zs (xU zs c).2 ids hz i1 hi.1;have s3:=bO zs (D7 zs c ids).2 20 hz i2 (by decide);have b1:=bC zs c (n:=3) (by decide);have b2:=bC zs (xU zs c).2 (n:=ids) hi.1;have b3:=bC zs (D7 zs c ids).2 (n:=20) (by decide);have p1:=gY zs (jM zs c ids).2 szs hz i3 (by decide);have p2:=gY zs (jM zs c ids).2 [5,6] hz i3 (by decide);have p3:=gY zs (jM zs c ids).2 [1,30,60,120] hz i3 (by decide);have p4:=gY zs (jM zs c ids).2 [1,2,3,10,30] hz i3 (by decide);have q1:=bO zs (jM zs c ids).2 4 hz i3 (by decide);have q2:=bO zs (bu zs (jM zs c ids).2 4).2 999 hz (bM i3 _) (by decide);have q3:=bO zs (jM zs c ids).2 10 hz i3 (by decide);have c2:=bC zs (bu zs (jM zs c ids).2 4).2 (n:=999) (by decide);have c3:=bC zs (jM zs c ids).2 (n:=10) (by decide);change aS _ _ _ _ [.ptr (gS zs (xU zs c).2),_] _ [I (xU zs c).1]at s1;change aS _ _ _ _ [.ptr (gS zs (D7 zs c ids).2),_] _ [I (D7 zs c ids).1]at s2;change aS _ _ _ _ [.ptr (gS zs (jM zs c ids).2),_] _ [I (jM zs c ids).1]at s3;change 0<=(xU zs c).1/\(xU zs c).1<3 at b1;change 0<=(D7 zs c ids).1/\(D7 zs c ids).1<ids at b2;change 0<=(jM zs c ids).1/\(jM zs c ids).1<20 at b3;have hf:=en.enc_fr (qD zs c ids).1;unfold qD at hf |-;generalize jM zs c ids=k at *;generalize D7 zs c ids=n at *;generalize xU zs c=t at *;obtain⟨kk,kc⟩:=k;dsimp only at i3 p1 p2 p3 p4 q1 q2 q3 c2 c3 b3 s3 hf |-;refine fM 77 [(92,[2,0]),(310,[2,1])] [] [(0,0),(0,0)] Tryz.func243 rfl (fun u q=>?_) (.inr hf)
 repeat'(first|refine gO ?_|(conv=>whnf);first|refine cu.mk (s1) (.inl rfl) ?_|refine cu.mk (s2) (.inl rfl) ?_|refine cu.mk (s3) (.inl rfl) ?_)
 obtain rfl|rfl|rfl|rfl|rfl|rfl|rfl|rfl|rfl|rfl|rfl|rfl|rfl|rfl|rfl|rfl|rfl|rfl|rfl|rfl:=(show kk=0\/kk=1\/kk=2\/kk=3\/kk=4\/kk=5\/kk=6\/kk=7\/kk=8\/kk=9\/kk=10\/kk=11\/kk=12\/kk=13\/kk=14\/kk=15\/kk=16\/kk=17\/kk=18\/kk=19 by omega)
 ·rw[if_pos (show((0:Int))<=6 by decide)]
  repeat'(first|refine gO ?_|(conv=>whnf);first|refine cu.mk (p1) (.inl rfl) ?_)
  refine aR.mk rfl rfl ?_;exact wC
 ·rw[if_pos (show((1:Int))<=6 by decide)]
  repeat'(first|refine gO ?_|(conv=>whnf);first|refine cu.mk (p1) (.inl rfl) ?_)
  refine aR.mk rfl rfl ?_;exact wC
 ·rw[if_pos (show((2:Int))<=6 by decide)]
  repeat'(first|refine gO ?_|(conv=>whnf);first|refine cu.mk (p1) (.inl rfl) ?_)
  refine aR.mk rfl rfl ?_;exact wC
 ·rw[if_pos (show((3:Int))<=6 by decide)]
  repeat'(first|refine gO ?_|(conv=>whnf);first|refine cu.mk (p1) (.inl rfl) ?_)
  refine aR.mk rfl rfl ?_;exact wC
 ·rw[if_pos (show((4:Int))<=6 by decide)]
  repeat'(first|refine gO ?_|(conv=>whnf);first|refine cu.mk (p1) (.inl rfl) ?_)
  refine aR.mk rfl rfl ?_;exact wC
 ·rw[if_pos (show((5:Int))<=6 by decide)]
  repeat'(first|refine gO ?_|(conv=>whnf);first|refine cu.mk (p1) (.inl rfl) ?_)
  refine aR.mk rfl rfl ?_;exact wC
 ·rw[if_pos (show((6:Int))<=6 by decide)]
  repeat'(first|refine gO ?_|(conv=>whnf);first|refine cu.mk (p1) (.inl rfl) ?_)
  refine aR.mk rfl rfl ?_;exact wC
 ·rw[if_neg (show ¬((7:Int)<=6) by decide),if_pos (show((7:Int))<=9 by decide)]
  repeat'(first|refine gO ?_|fail)
  refine aR.mk rfl rfl ?_;exact wC
 ·rw[if_neg (show ¬((8:Int)<=6) by decide),if_pos (show((8:Int))<=9 by decide)]
  repeat'(first|refine gO ?_|fail)
  refine aR.mk rfl rfl ?_;exact wC
 ·rw[if_neg (show ¬((9:Int)<=6) by decide),if_pos (show((9:Int))<=9 by decide)]
  repeat'(first|refine gO ?_|fail)
  refine aR.mk rfl rfl ?_;exact wC
 ·rw[if_neg (show ¬((10:Int)<=6) by decide),if_neg (show ¬((10:Int)<=9) by decide),if_pos (show((10:Int))<=12 by decide)]
  repeat'(first|refine gO ?_|(conv=>whnf);first|refine cu.mk (q1) (.inl rfl) ?_|refine cu.mk (q2) (.inl rfl) ?_)
  refine aR.mk rfl rfl ?_;exact wC
 ·rw[if_neg (show ¬((11:Int)<=6) by decide),if_neg (show ¬((11:Int)<=9) by decide),if_pos (show((11:Int))<=12 by decide)]
  repeat'(first|refine gO ?_|(conv=>whnf);first|refine cu.mk (q1) (.inl rfl) ?_|refine cu.mk (q2) (.inl rfl) ?_)
  refine aR.mk rfl rfl ?_;exact wC
 ·rw[if_neg (show ¬((12:Int)<=6) by decide),if_neg (show ¬((12:Int)<=9) by decide),if_pos (show((12:Int))<=12 by decide)]
  repeat'(first|refine gO ?_|(conv=>whnf);first|refine cu.mk (q1) (.inl rfl) ?_|refine cu.mk (q2) (.inl rfl) ?_)
  refine aR.mk rfl rfl ?_;exact wC
 ·rw[if_neg (show ¬((13:Int)<=6) by decide),if_neg (show ¬((13:Int)<=9) by decide),if_neg (show ¬((13:Int)<=12) by decide),if_pos (show((13:Int))=13 by decide)]
  repeat'(first|refine gO ?_|(conv=>whnf);first|refine cu.mk (q3) (.inl rfl) ?_)
  refine aR.mk rfl rfl ?_;exact wC
 ·rw[if_neg (show ¬((14:Int)<=6) by decide),if_neg (show ¬((14:Int)<=9) by decide),if_neg (show ¬((14:Int)<=12) by decide),if_neg (show ¬((14:Int)=13) by decide),if_pos (show((14:Int))=14 by decide)]
  repeat'(first|refine gO ?_|(conv=>whnf);first|refine cu.mk (p2) (.inl rfl) ?_)
  refine aR.mk rfl rfl ?_;exact wC
 ·rw[if_neg (show ¬((15:Int)<=6) by decide),if_neg (show ¬((15:Int)<=9) by decide),if_neg (show ¬((15:Int)<=12) by decide),if_neg (show ¬((15:Int)=13) by decide),if_neg (show ¬((15:Int)=14) by decide),if_pos (show((15:Int))=15 by decide)]
  repeat'(first|refine gO ?_|fail)
  refine aR.mk rfl rfl ?_;exact wC
 ·rw[if_neg (show ¬((16:Int)<=6) by decide),if_neg (show ¬((16:Int)<=9) by decide),if_neg (show ¬((16:Int)<=12) by decide),if_neg (show ¬((16:Int)=13) by decide),if_neg (show ¬((16:Int)=14) by decide),if_neg (show ¬((16:Int)=15) by decide),if_pos (show((16:Int))=16 by decide)]
  repeat'(first|refine gO ?_|(conv=>whnf);first|refine cu.mk (p3) (.inl rfl) ?_)
  refine aR.mk rfl rfl ?_;exact wC
 ·rw[if_neg (show ¬((17:Int)<=6) by decide),if_neg (show ¬((17:Int)<=9) by decide),if_neg (show ¬((17:Int)<=12) by decide),if_neg (show ¬((17:Int)=13) by decide),if_neg (show ¬((17:Int)=14) by decide),if_neg (show ¬((17:Int)=15) by decide),if_neg (show ¬((17:Int)=16) by decide),if_pos (show((17:Int))=17 by decide)]
  repeat'(first|refine gO ?_|fail)
  refine aR.mk rfl rfl ?_;exact wC
 ·rw[if_neg (show ¬((18:Int)<=6) by decide),if_neg (show ¬((18:Int)<=9) by decide),if_neg (show ¬((18:Int)<=12) by decide),if_neg (show ¬((18:Int)=13) by decide),if_neg (show ¬((18:Int)=14) by decide),if_neg (show ¬((18:Int)=15) by decide),if_neg (show ¬((18:Int)=16) by decide),if_neg (show ¬((18:Int)=17) by decide)]
  repeat'(first|refine gO ?_|(conv=>whnf);first|refine cu.mk (p4) (.inl rfl) ?_)
  refine aR.mk rfl rfl ?_;exact wC
 ·rw[if_neg (show ¬((19:Int)<=6) by decide),if_neg (show ¬((19:Int)<=9) by decide),if_neg (show ¬((19:Int)<=12) by decide),if_neg (show ¬((19:Int)=13) by decide),if_neg (show ¬((19:Int)=14) by decide),if_neg (show ¬((19:Int)=15) by decide),if_neg (show ¬((19:Int)=16) by decide),if_neg (show ¬((19:Int)=17) by decide)]
  repeat'(first|refine gO ?_|(conv=>whnf);first|refine cu.mk (p4) (.inl rfl) ?_)
  refine aR.mk rfl rfl ?_;exact wC
theorem z7 (zs:List Int) (c:gR) (hz:ja zs) (hc:c.i<=zs.length):aS Tryz.prog 151 false [.ptr (gS zs c),.val none [I 40]] [.ptr (gS zs (m7 zs c).2),.val none [I 40]] .one (mF .own (m7 zs c).1):=by
 have s1:=bO zs c 41 hz hc (by decide);have b1:=bC zs c (n:=41) (by decide);obtain⟨n,hn⟩:=Z1 b1.1;have hnn:(bu zs c 41).1.toNat=n:=by rw[hn];rfl
 unfold m7;rw[hnn];rw[hn]at s1 b1;refine fM 27 [(92,[2,0]),(243,[2,0])] [] [(0,0),(0,0)] Tryz.func151 rfl (fun u q=>?_) (.inr (GM _))
 repeat'(first|refine gO ?_|(conv=>whnf);first|refine cu.mk (s1) (.inl rfl) ?_)
 (conv=>whnf)
 refine Lp.mk (ι:=Nat) (fun i=>[(0,.hold .box (gS zs (kv zs c i).2)),(5,.hold .one (mF .own (kv zs c i).1)),(6,.hold .one [I ((n:Nat):Int)]),(7,.hold .one [I ((i:Nat):Int)])]) (fun i=>i<=n) (fun i=>n - i) (0) ?_ (Q0 _) fun i hi=>?_
 ·exact wC
 obtain⟨h1,-,h3⟩:=qo (zs:=zs) (c:=c) hc (n:=i) (by omega);by_cases li:i<n
 ·have s2:=Bd zs (kv zs c i).2 (1+(i:Int) / 2) hz h3 (by omega)
  have e2:((i:Nat):Int).tdiv 2=(i:Int) / 2:=Int.tdiv_eq_ediv_of_nonneg (by omega)
  repeat'(first|refine gD ?_|(conv=>whnf);first|with_reducible (first|refine Ev.mk e2 ?_|refine Cd.mk (by omega) ?_)|refine cu.mk (s2) (.inl rfl) ?_|refine Ap.mk (aM fun _=>rfl) (fun r hr=>by rw[X0.1 hr];rfl) (by simp[aV,d4,en.enc]) (by simp;omega) (by simp only[U0];exact wI (by simp;omega) (by decide)) rfl ?_)
  ((conv=>whnf);refine Nx.mk (i+1) (by omega) (by omega) ?_)
  repeat'(first|exact trivial|rfl| exact dL _ |exact And.intro rfl (And.intro (R0 (C.s dz.own) (by simp[kv];rfl)) trivial)|refine And.intro ?_ ?_|(exact AG (by first|omega|(simp only;omega)|(simp;omega))))
 ·obtain rfl:i=n:=by omega
  repeat'(first|refine gD ?_|fail)
  refine aR.mk rfl rfl ?_;exact wC
def rfs (h:ab):List Int:=h.Kernel.Refuse
theorem Am (k:af) (p:Int):(fX k p).1.Refuse=k.Refuse:=by unfold fX;split<;>rfl
theorem qL (k:af) (p:Int):∀ n,(cJ k p n).1.Refuse=k.Refuse
 | 0=>rfl
 | n+1=>by
  unfold cJ;split
  ·exact(Am _ _).trans (qL k p n)
  ·exact qL k p n
theorem J5 (h:ab) (i:Nat):rfs (qr h i).1=rfs h:=by unfold qr;split<;>rfl
theorem y8 (h:ab) (t c:Nat):rfs (gj h t c).1=rfs h:=by
 unfold gj;split
 ·rfl
 split
 ·rfl
 split
 ·rfl
 split
 ·exact Am _ _
 ·exact(J5 _ _).trans (Am _ _)
theorem Gi (h:ab) (t n:Int):rfs (gl h t n).1=rfs h:=by
 unfold gl;split
 ·rfl
 split
 ·rfl
 split
 ·rfl
 split
 ·rfl
 split
 ·split
  ·exact y8 _ _ _
  ·exact y8 _ _ _
 ·unfold pf
  split
  ·rfl
  split
  ·exact qL _ _ _
  ·exact((rh _ _ _).2).trans (qL _ _ _)
theorem Ky (h:ab) (t i:Nat):rfs (freeT h t i).1=rfs h:=by
 unfold freeT;split
 ·exact(rh _ _ _).2
 split
 ·rfl
 split
 ·exact(iF t _ _).2.2.2.2.2.2.2
 split<;>rfl
theorem yF (t:Nat) (h:ab):∀ k,rfs (flushN t h k).1=rfs h
 | 0=>rfl
 | k+1=>((kq _ (spilt (flushN t h k).1 t k)).2.2.2.2.2.2.2).trans (yF t h k)
theorem DQ {h:ab} (hi:bo h []) (hj:JI h):∀ n,rfs (mB h n).1=rfs h
 | 0=>rfl
 | n+1=>by
  obtain⟨h1,h2⟩:=zA hi hj n;unfold mB;split
  ·rename_i e
   unfold tE at e;rw[I0]at e;exact((Ee h1 e.1).2.2.1).trans (DQ hi hj n)
  ·exact DQ hi hj n
theorem Jl {w:bI} {m:Nat} (h:sf w m) (a:en):rfs (pV w a).1.Heap=rfs w.Heap:=by
 unfold pV;split
 ·exact Gi _ _ _
 split
 ·split
  ·rfl
  unfold pz;split
  ·unfold tI
   split
   ·rfl
   split
   ·exact Ky _ _ _
   ·rfl
  split
  ·unfold qF
   split
   ·rfl
   split
   ·rfl
   split<;>rfl
  ·unfold tO
   split
   ·exact((rh _ _ _).2).trans (vA _ _ _).2.2
   ·rfl
 split
 ·unfold gI
  split
  ·split<;>rfl
  split
  ·rfl
  split
  ·exact(iF _ _ _).2.2.2.2.2.2.2
  ·exact yF _ _ _
 split
 ·unfold qz
  split
  ·exact(kq _ _).2.2.2.2.2.2.2
  ·rfl
 split
 ·unfold pU
  split
  ·rfl
  ·show rfs (started w.Heap).1=_
   unfold rfs;rw[(sU h.inv).2.1]
 split
 ·exact DQ h.inv h.ji _
 ·rfl
theorem DT {c:cI} (h:GV c) (acts:List en):∀ n,rfs (A2 c acts n).1.Heap=c.Refuse
 | 0=>rfl
 | n+1=>(Jl (zc h acts n) _).trans (DT h acts n)
def pv (w:bI):List C:=bt w.Heap++ax.enc .imm w.Ref
theorem Lb (w:bI):d3 (pv w)=bI.enc .imm w:=by
 unfold pv;rw[ep,bz,<-ax.enc_fz,qn,ax.enc_fz]
 rfl
theorem Bm (w:bI) (id:Int) (hl:w.Heap.Objs.length<=1048576):aS Tryz.prog 302 false [.ptr (pv w),.val none [I id]] [.ptr (pv w),.val none [I id]] .one [I (qG w.Heap id)]:=by
 refine fM 28 [] [] [(0,0),(0,0)] Tryz.func302 rfl (fun u q=>?_)
 repeat'(first|refine gO ?_|(conv=>whnf);first|refine Sm.rf ?_)
 (conv=>whnf)
 refine Lp.mk (ι:=Nat) (fun i=>[(0,.hold .box (pv w)),(1,.hold .one [I (id)]),(5,.hold .one [I ((i:Nat):Int)])]) (fun i=>i<=w.Heap.Objs.length/\∀ (j:Nat) (z:bJ),j<i->w.Heap.Objs[j]? = some z->Kv id z=false) (fun i=>w.Heap.Objs.length - i) (0) ?_ (⟨Q0 _,fun j z hj=>by omega⟩) fun i hi=>?_
 ·exact wC
 obtain⟨hi,ha⟩:=hi;by_cases li:i<w.Heap.Objs.length
 ·have hx:=ah li
  by_cases e:(nth w.Heap.Objs i).Id=id
  ·repeat'(first|refine gA ?_|(conv=>whnf);first|with_reducible refine Ix.nat (aa hx) ?_|refine Sm.rf ?_|refine Rw.one rfl (aa hx) rfl ?_)
   refine aR.mk rfl (R0 (fun z=>[I z]) (dD hx (O0 e) ha).symm) ?_;exact wC
  ·repeat'(first|refine gA ?_|(conv=>whnf);first|with_reducible refine Ix.nat (aa hx) ?_|refine Sm.rf ?_|refine Rw.one rfl (aa hx) rfl ?_)
   ((conv=>whnf);refine Nx.mk (i+1) ⟨by omega,dc hx (P0 e) ha⟩ (by omega) ?_;(exact wC))
 ·repeat'(first|refine gD ?_|(conv=>whnf);first|refine Sm.rf ?_)
  refine aR.mk rfl (R0 (fun z=>[I z]) (fE (by omega) ha).symm) ?_;exact wC
theorem cC (y:ab):(bt y).length=24:=rfl
theorem xn (w:bI) (m n:Nat) (h:sf w m) (hn:n<=50):aS Tryz.prog 308 false [.ptr (pv w),.val none [I (n:Nat)]] [.ptr (pv ⟨(mB w.Heap n).1,w.Ref⟩),.val none [I (n:Nat)]] .one [I ((mB w.Heap n).2:Nat)]:=by
 refine fM 35 [(368,[2])] [] [(0,0),(0,0)] Tryz.func308 rfl (fun u q=>?_)
 repeat'(first|refine gO ?_|(conv=>whnf);first|refine Sm.rf ?_)
 (conv=>whnf)
 refine Lp.mk (ι:=Nat) (fun i=>[(0,.hold .box (pv ⟨(mB w.Heap i).1,w.Ref⟩)),(1,.hold .one [I ((n:Nat):Int)]),(5,.hold .one [I (((mB w.Heap i).2:Nat):Int)]),(6,.hold .one [I ((i:Nat):Int)])]) (fun i=>i<=n/\(mB w.Heap i).2=i) (fun i=>n - i) (0) ?_ (⟨Q0 _,rfl⟩) fun i hi=>?_
 ·exact wC
 obtain⟨hi,he⟩:=hi;obtain⟨g1,g2⟩:=zA h.inv h.ji i;have hst:mB w.Heap (i+1)=if tE (mB w.Heap i).1=true then(mStep (mB w.Heap i).1,(mB w.Heap i).2+1) else mB w.Heap i:=rfl
 have hcal:=(aC.1 g1.ker).2.2.2.2;by_cases li:i<n
 ·cases e1:(mB w.Heap i).1.Meshing with
  | true=>
   have c1:=(zH _ g1 e1).frame (r:=ax.enc .imm w.Ref) ((cC _).trans (cC _).symm);by_cases e2:(mB w.Heap i).1.Kernel.Calls<=99000
   ·have e3:tE (mB w.Heap i).1=true:=by unfold tE;rw[e1,O0 e2];rfl
    rw[if_pos e3]at hst;generalize mB w.Heap i=s at *
    repeat'(first|refine gD ?_|(conv=>whnf);first|refine Sm.rf ?_|refine Bf.t (O0 e2) ?_|refine Bf.t e1 ?_|refine cu.mk (c1) (.inl rfl) ?_)
    ((conv=>whnf);refine Nx.mk (i+1) ⟨by omega,by rw[hst];simp only;omega⟩ (by omega) ?_)
    rw[hst];exact wC
   ·have e3:tE (mB w.Heap i).1=false:=by unfold tE;rw[e1,P0 e2];rfl
    have hend:∀ k,mB w.Heap (i+k)=mB w.Heap i:=fun k=>by
     induction k with
     | zero=>rfl
     | succ k ih=>show(if tE (mB w.Heap (i+k)).1=true then _ else mB w.Heap (i+k))=_;rw[ih,e3,if_neg (by simp)]
    have h2:=hend (n - i);rw[show i+(n - i)=n by omega]at h2;rw[h2];generalize mB w.Heap i=s at *
    repeat'(first|refine gD ?_|(conv=>whnf);first|refine Sm.rf ?_|refine Bf.f (P0 e2) ?_|refine Bf.t e1 ?_)
    refine aR.mk rfl rfl ?_;exact wC
  | false=>
   have e3:tE (mB w.Heap i).1=false:=by unfold tE;rw[e1];rfl
   have hend:∀ k,mB w.Heap (i+k)=mB w.Heap i:=fun k=>by
    induction k with
    | zero=>rfl
    | succ k ih=>show(if tE (mB w.Heap (i+k)).1=true then _ else mB w.Heap (i+k))=_;rw[ih,e3,if_neg (by simp)]
   have h2:=hend (n - i);rw[show i+(n - i)=n by omega]at h2;rw[h2];generalize mB w.Heap i=s at *
   repeat'(first|refine gD ?_|(conv=>whnf);first|refine Sm.rf ?_|refine Bf.f e1 ?_)
   refine aR.mk rfl rfl ?_;exact wC
 ·obtain rfl:i=n:=by omega
  repeat'(first|refine gD ?_|(conv=>whnf);first|refine Sm.rf ?_)
  refine aR.mk rfl rfl ?_;exact wC
theorem DE {k:af} (hk:aA k=true):(aA k&&decide (k.Calls<100000))=decide (k.Calls≠100000):=by
 have:=(aC.1 hk).2.2.2.2;rw[hk,Bool.true_and,U3,C0,C0];omega
theorem uo (w:bI) (a:en) (m:Nat) (h:sf w m) (hk:a.Kind=5\/a.Kind=6\/a.Kind=7):aS Tryz.prog 304 false [.ptr (pv w),.val (some 5) (en.enc .imm a)] [.ptr (pv ⟨(gI w.Heap a).1,w.Ref⟩),.val (some 5) (en.enc .imm a)] .one [I (gI w.Heap a).2]:=by
 have hi:=h.inv;have hnc:=hi.nc;have hlc:w.Heap.Caches.length<=4:=by have:=(d5.1 hi.mail).1.2.1;omega
 have hL:=ki.of hi.mail;have c0:=ka w.Heap.Kernel (bG hi.ker);rw[DE hi.ker]at c0;have c1:=aE a.Thread 0 (w.Heap.Caches.length - 1:Int);unfold gI;refine fM 59 [(361,[2,0]),(362,[2,0])] [(3,267,[15,16,17,18,19,20,21,14,22,23,6,0,1,2,3,4,5,6,7,8,9,10,11,1009,12]),(8,15,[30,31,32,33,34,35,36,37,38,39,40,41,42,43,44])] [(0,0),(0,0)] Tryz.func304 rfl (fun u q=>?_);by_cases e1:a.Kind=5
 ·rw[if_pos e1]
  by_cases e2:0<=a.Thread/\a.Thread<=w.Heap.Caches.length - 1
  ·have em:ni w.Heap a:=e2
   obtain⟨t,ht⟩:=Z1 e2.1;have c2:=BF w.Heap.Mail t hi.mail (by omega);rw[<-ht]at c2;rw[ht]at e2 |-;simp only[W1];rw[ht]at c2;by_cases e3:0<(nth w.Heap.Mail.Buffers t).length
   ·rw[if_pos (show ni w.Heap a/\0<(nth w.Heap.Mail.Buffers t).length from⟨em,e3⟩)]
    rw[if_pos e3,O0 e3]at c2;rw[<-ht]at c2
    repeat'(first|refine gA ?_|(conv=>whnf);first|with_reducible refine Bf.E (fun hq=>?_) (fun hq=>?_)|refine Sm.rf ?_|refine Cl.eq (c2) ⟨⟨rfl,aH.enc_fz w.Heap.Mail⟩,⟨rfl,rfl⟩,trivial⟩ ?_|refine Sm.rf ?_)
    refine aR.mk rfl rfl ?_;exact wC
   ·rw[if_neg (show ¬(ni w.Heap a/\0<(nth w.Heap.Mail.Buffers t).length) from fun x=>e3 x.2)]
    rw[if_neg e3,P0 e3]at c2;rw[<-ht]at c2
    repeat'(first|refine gA ?_|(conv=>whnf);first|with_reducible refine Bf.E (fun hq=>?_) (fun hq=>?_)|refine Sm.rf ?_|refine Cl.eq (c2) ⟨⟨rfl,aH.enc_fz w.Heap.Mail⟩,⟨rfl,rfl⟩,trivial⟩ ?_|refine Sm.rf ?_)
    refine aR.mk rfl rfl ?_;exact wC
  ·rw[if_neg (show ¬(ni w.Heap a/\0<(nth w.Heap.Mail.Buffers a.Thread.toNat).length) from fun x=>e2 x.1)]
   have c2:=Ed w.Heap.Mail a.Thread hi.mail (by omega)
   repeat'(first|refine gA ?_|(conv=>whnf);first|with_reducible refine Bf.E (fun hq=>?_) (fun hq=>?_)|refine Sm.rf ?_|refine Cl.eq (c2) ⟨⟨rfl,aH.enc_fz w.Heap.Mail⟩,⟨rfl,rfl⟩,trivial⟩ ?_|refine Sm.rf ?_)
   refine aR.mk rfl rfl ?_;exact wC
 rw[if_neg e1];by_cases e2:w.Heap.Kernel.Calls≠100000;rotate_left
 ·rw[if_pos (show ¬(w.Heap.Kernel.Calls≠100000/\ni w.Heap a) from fun x=>e2 x.1)]
  rw[P0 e2]at c0
  repeat'(first|refine gA ?_|(conv=>whnf);first|refine Sm.rf ?_|refine Cl.eq (c0) ⟨⟨rfl,af.enc_fz _⟩,trivial⟩ ?_|refine Sm.rf ?_)
  refine aR.mk rfl rfl ?_;exact wC
 rw[O0 e2]at c0;by_cases e3:0<=a.Thread/\a.Thread<=w.Heap.Caches.length - 1;rotate_left
 ·rw[if_pos (show ¬(w.Heap.Kernel.Calls≠100000/\ni w.Heap a) from fun x=>e3 x.2)]
  rw[P0 e3]at c1
  repeat'(first|refine gA ?_|(conv=>whnf);first|refine Sm.rf ?_|refine Cl.eq (c0) ⟨⟨rfl,af.enc_fz _⟩,trivial⟩ ?_|refine Cl.mk (c1) ?_|refine Sm.rf ?_)
  refine aR.mk rfl rfl ?_;exact wC
 rw[if_neg (show ¬¬(w.Heap.Kernel.Calls≠100000/\ni w.Heap a) from z3 ⟨e2,e3⟩)];rw[O0 e3]at c1;obtain⟨t,ht⟩:=Z1 e3.1;by_cases e4:a.Kind=6
 ·rw[if_pos e4]
  have c2:=(tG w.Heap t hi (by omega)).frame (r:=ax.enc .imm w.Ref) ((cC _).trans (cC _).symm);rw[show a.Thread.toNat=t by omega];rw[<-ht]at c2
  repeat'(first|refine gA ?_|(conv=>whnf);first|refine Sm.rf ?_|refine Cl.eq (c0) ⟨⟨rfl,af.enc_fz _⟩,trivial⟩ ?_|refine Cl.mk (c1) ?_|refine cu.mk (c2) (.inl rfl) ?_|refine Sm.rf ?_)
  refine aR.mk rfl rfl ?_;exact wC
 ·rw[if_neg e4]
  have c2:=(wF w.Heap t hi (by omega)).frame (r:=ax.enc .imm w.Ref) ((cC _).trans (cC _).symm);rw[show a.Thread.toNat=t by omega];rw[<-ht]at c2
  repeat'(first|refine gA ?_|(conv=>whnf);first|refine Sm.rf ?_|refine Cl.eq (c0) ⟨⟨rfl,af.enc_fz _⟩,trivial⟩ ?_|refine Cl.mk (c1) ?_|refine cu.mk (c2) (.inl rfl) ?_|refine Sm.rf ?_)
  refine aR.mk rfl rfl ?_;exact wC
theorem u5 (w:bI) (a:en) (i m:Nat) (h:sf w m) (hm:m<=900) (ha:HJ a) (li:i<w.Heap.Objs.length):aS Tryz.prog 303 false [.ptr (pv w),.val (some 5) (en.enc .imm a),.val none [I (i:Nat)]] [.ptr (pv (pz w a i).1),.val (some 5) (en.enc .imm a),.val none [I (i:Nat)]] .one [I (pz w a i).2]:=by
 have hi:=h.inv;have hx:=ah li;have hob:=rQ hi (am li);have hw0:=mc hi (am li) (k:=0);have hsz:1<=(nth w.Heap.Objs i).Size/\(nth w.Heap.Objs i).Size<=1000:=by
  rcases hi.oow _ (am li) with⟨s,hs,h1,h2⟩|⟨l,hl',e1,e2⟩
  ·have hc:=aF (hi.L.sok s hs)
   have:=pK (n:=(nth w.Heap.Objs i).Size) (by omega);omega
  ·have h8:=cr (hi.L.lok l hl')
   omega
 have c0:=ka w.Heap.Kernel (bG hi.ker);rw[DE hi.ker]at c0;have hak:=ha.k;have hap:=ha.p;have hav:=ha.v;unfold pz;refine fM 126 [(354,[2,0,0]),(356,[2,0,0]),(358,[2,0,0])] [(6,7,[29,30,31,32,33,34,35]),(8,269,[40,41,42,43,44,45,46,47,39,48,49,50,51,0,1,2,3,4,5,6,7,8,9,10,11,12,13,1010]),(13,10,[62,63,64,65,66,67,68,69,70,71]),(15,273,[76,77,78,79,80,81,82,83,84,85,86,87,75,88,89,90,91,0,1,2,3,4,5,6,7,8,9,10,11,12,13,14,15,16,17,1014]),(17,15,[93,94,95,96,97,98,99,100,101,102,103,104,105,106,107]),(19,271,[112,113,114,115,116,117,118,119,120,121,111,122,123,124,125,0,1,2,3,4,5,6,7,8,9,10,11,12,13,14,15,1012])] [(0,0),(0,0),(0,0)] Tryz.func303 rfl (fun u q=>?_);by_cases k2:a.Kind=2
 ·rw[if_pos k2]
  unfold tI;by_cases e1:w.Heap.Kernel.Calls=100000
  ·rw[if_pos e1]
   rw[P0 (z3 e1)]at c0
   repeat'(first|refine gA ?_|(conv=>whnf);first|with_reducible refine Ix.nat (aa hx) ?_|refine Sm.rf ?_|refine Cl.eq (c0) ⟨⟨rfl,af.enc_fz _⟩,trivial⟩ ?_|refine Rw.one rfl (aa hx) rfl ?_|refine Sm.rf ?_)
   refine aR.mk rfl rfl ?_;exact wC
  rw[if_neg e1];rw[O0 e1]at c0;have c1:=(LN w.Heap i a.Thread hi li).frame (r:=ax.enc .imm w.Ref) ((cC _).trans (cC _).symm);by_cases e2:0<=a.Thread/\a.Thread<=w.Heap.Caches.length - 1
  ·rw[if_pos (show ni w.Heap a from e2)]
   rw[if_pos e2,if_pos e2]at c1;have c2:=zn w.Ref (nth w.Heap.Objs i).Id m h.ref (by omega);generalize freeT w.Heap a.Thread.toNat i=f at c1 |-;by_cases e3:f.2=0
   ·rw[if_pos e3]
    repeat'(first|refine gA ?_|(conv=>whnf);first|with_reducible (first|refine Ix.nat (aa hx) ?_|refine Bf.E (fun hq=>?_) (fun hq=>?_))|refine Sm.rf ?_|refine Cl.eq (c0) ⟨⟨rfl,af.enc_fz _⟩,trivial⟩ ?_|refine Rw.one rfl (aa hx) rfl ?_|refine cu.mk (c1) (.inl rfl) ?_|refine Cl.sh c2 rfl ?_|refine Sm.rf ?_)
    refine aR.mk rfl rfl ?_;exact wC
   ·rw[if_neg e3]
    repeat'(first|refine gA ?_|(conv=>whnf);first|with_reducible (first|refine Ix.nat (aa hx) ?_|refine Bf.E (fun hq=>?_) (fun hq=>?_))|refine Sm.rf ?_|refine Cl.eq (c0) ⟨⟨rfl,af.enc_fz _⟩,trivial⟩ ?_|refine Rw.one rfl (aa hx) rfl ?_|refine cu.mk (c1) (.inl rfl) ?_|refine Sm.rf ?_)
    refine aR.mk rfl rfl ?_;exact wC
  ·rw[if_neg (show ¬ni w.Heap a from e2)]
   rw[if_neg e2,if_neg e2]at c1
   repeat'(first|refine gA ?_|(conv=>whnf);first|with_reducible (first|refine Ix.nat (aa hx) ?_|refine Bf.E (fun hq=>?_) (fun hq=>?_))|refine Sm.rf ?_|refine Cl.eq (c0) ⟨⟨rfl,af.enc_fz _⟩,trivial⟩ ?_|refine Rw.one rfl (aa hx) rfl ?_|refine cu.mk (c1) (.inl rfl) ?_|refine Sm.rf ?_)
   refine aR.mk rfl rfl ?_;exact wC
 rw[if_neg k2];by_cases k3:a.Kind=3
 ·rw[if_pos k3]
  unfold qF;have c3:=aE a.At 0 ((nth w.Heap.Objs i).Size - 1);by_cases e1:0<=a.At/\a.At<=(nth w.Heap.Objs i).Size - 1;rotate_left
  ·rw[if_pos e1]
   rw[P0 e1]at c3
   repeat'(first|refine gA ?_|(conv=>whnf);first|with_reducible (first|refine Ix.nat (aa hx) ?_|refine Bf.E (fun hq=>?_) (fun hq=>?_))|refine Sm.rf ?_|refine Rw.one rfl (aa hx) rfl ?_|refine Cl.mk (c3) ?_|refine Sm.rf ?_)
   refine aR.mk rfl rfl ?_;exact wC
  rw[if_neg (z3 e1)];rw[O0 e1]at c3;have c4:=(wL w.Heap i a.At a.Value hi li e1).frame (r:=ax.enc .imm w.Ref) (by split<;>rfl);have hwa:=mc hi (am li) e1;by_cases e2:(ar w.Heap.Kernel.Machine.Table (((nth w.Heap.Objs i).Addr+a.At) / 16)).Mode=1
  ·rw[if_pos e2]
   rw[if_pos (.inl e2),if_pos e2]at c4
   repeat'(first|refine gA ?_|(conv=>whnf);first|with_reducible (first|refine Ix.nat (aa hx) ?_|refine Bf.E (fun hq=>?_) (fun hq=>?_))|refine Sm.rf ?_|refine Rw.one rfl (aa hx) rfl ?_|refine Cl.mk (c3) ?_|refine cu.mk (c4) (.inl rfl) ?_|refine Sm.rf ?_)
   refine aR.mk rfl rfl ?_;exact wC
  rw[if_neg e2];by_cases e3:0<=a.Value/\a.Value<=999;rotate_left
  ·rw[if_pos e3]
   rw[if_pos (.inr e3),if_neg e2,if_pos e3]at c4
   repeat'(first|refine gA ?_|(conv=>whnf);first|with_reducible (first|refine Ix.nat (aa hx) ?_|refine Bf.E (fun hq=>?_) (fun hq=>?_))|refine Sm.rf ?_|refine Rw.one rfl (aa hx) rfl ?_|refine Cl.mk (c3) ?_|refine cu.mk (c4) (.inl rfl) ?_|refine Sm.rf ?_)
   refine aR.mk rfl rfl ?_;exact wC
  rw[if_neg (z3 e3)];rw[if_neg (fun x=>x.elim e2 fun y=>y e3),if_neg e2,if_neg (z3 e3)]at c4;obtain⟨b5,c5⟩:=Ad w.Ref (nth w.Heap.Objs i).Id a.At a.Value m h.ref (by omega) e3
  repeat'(first|refine gA ?_|(conv=>whnf);first|with_reducible (first|refine Ix.nat (aa hx) ?_|refine Bf.E (fun hq=>?_) (fun hq=>?_))|refine Sm.rf ?_|refine Rw.one rfl (aa hx) rfl ?_|refine Cl.mk (c3) ?_|refine cu.mk (c4) (.inl rfl) ?_|refine Cl.mk (c5) ?_|refine Sm.rf ?_)
  refine aR.mk rfl rfl ?_;exact wC
 rw[if_neg k3];unfold tO;by_cases e1:w.Heap.Kernel.Calls=100000
 ·rw[if_neg (fun x=>x.1 e1)]
  rw[P0 (z3 e1)]at c0
  repeat'(first|refine gA ?_|(conv=>whnf);first|with_reducible refine Ix.nat (aa hx) ?_|refine Sm.rf ?_|refine Cl.eq (c0) ⟨⟨rfl,af.enc_fz _⟩,trivial⟩ ?_|refine Rw.one rfl (aa hx) rfl ?_|refine Sm.rf ?_)
  refine aR.mk rfl rfl ?_;exact wC
 rw[O0 e1]at c0;by_cases e2:kf w.Heap i a.Value
 ·rw[if_pos ⟨e1,e2⟩]
  have c6:=(qy w.Heap i a.Value hi li e2.1).frame (r:=ax.enc .imm w.Ref) (by split<;>rfl);rw[if_pos e2,O0 e2]at c6;obtain⟨b7,c7⟩:=Bv w.Ref (nth w.Heap.Objs i).Id a.Value m h.ref (by omega)
  repeat'(first|refine gA ?_|(conv=>whnf);first|with_reducible refine Ix.nat (aa hx) ?_|refine Sm.rf ?_|refine Cl.eq (c0) ⟨⟨rfl,af.enc_fz _⟩,trivial⟩ ?_|refine Rw.one rfl (aa hx) rfl ?_|refine cu.mk (c6) (.inl rfl) ?_|refine Cl.mk (c7) ?_|refine Sm.rf ?_)
  refine aR.mk rfl rfl ?_;exact wC
 ·rw[if_neg (fun x=>e2 x.2)]
  by_cases e3:xy w.Heap (nth w.Heap.Objs i).Addr<0
  ·have c6:=(DH w.Heap (nth w.Heap.Objs i).Addr a.Value (by have:=hi.lens.larges;omega) hi.L.lok e3).frame (r:=ax.enc .imm w.Ref) ((cC _).trans (cC _).symm)
   repeat'(first|refine gA ?_|(conv=>whnf);first|with_reducible refine Ix.nat (aa hx) ?_|refine Sm.rf ?_|refine Cl.eq (c0) ⟨⟨rfl,af.enc_fz _⟩,trivial⟩ ?_|refine Rw.one rfl (aa hx) rfl ?_|refine cu.mk (c6) (.inl rfl) ?_|refine Sm.rf ?_)
   refine aR.mk rfl rfl ?_;exact wC
  ·have c6:=(qy w.Heap i a.Value hi li (by omega)).frame (r:=ax.enc .imm w.Ref) (by split<;>rfl)
   rw[if_neg e2,P0 e2]at c6
   repeat'(first|refine gA ?_|(conv=>whnf);first|with_reducible refine Ix.nat (aa hx) ?_|refine Sm.rf ?_|refine Cl.eq (c0) ⟨⟨rfl,af.enc_fz _⟩,trivial⟩ ?_|refine Rw.one rfl (aa hx) rfl ?_|refine cu.mk (c6) (.inl rfl) ?_|refine Sm.rf ?_)
   refine aR.mk rfl rfl ?_;exact wC
theorem sf.fit {w:bI} {m:Nat} (h:sf w m) (hr:iy w.Heap.Kernel.Refuse):ab.sml w.Heap/\ab.wf w.Heap:=
 ⟨(h.inv.fit hr (ki.of h.inv.mail).sml).sml,h.inv.wf hr⟩
theorem DM (w:bI) (a:en) (m:Nat) (h:sf w m) (hm:m<=900) (hr:iy w.Heap.Kernel.Refuse) (ha:HJ a):aS Tryz.prog 240 false [.ptr (pv w),.val (some 5) (en.enc .imm a)] [.ptr (pv (pV w a).1),.val (some 5) (en.enc .imm a)] .one [I (pV w a).2]:=by
 have hi:=h.inv;have hak:=ha.k;have han:=ha.n;have hnum:=hi.nums;unfold bW at hnum;rw[C0]at hnum;unfold pV;refine fM 123 [(143,[2,0,0]),(302,[2,0]),(303,[2,0,0]),(304,[2,0]),(306,[2,0]),(307,[2]),(308,[2,0])] [(3,265,[13,14,15,16,17,18,19,21,22,0,1,2,3,4,5,6,7,8,9,10,11,1010,12]),(5,269,[26,27,28,29,30,31,32,33,25,34,35,36,37,0,1,2,3,4,5,6,7,8,9,10,11,12,13,1010]),(19,21,[62,63,64,65,66,67,68,69,70,71,72,73,74,75,76,77,78,79,80,81,82]),(21,5,[86,87,88,89,90])] [(0,0),(0,0)] Tryz.func240 rfl (fun u q=>?_);by_cases k1:a.Kind=1
 ·rw[if_pos k1]
  have c1:=(xo w.Heap a.Thread a.N hi).frame (r:=ax.enc .imm w.Ref) ((cC _).trans (cC _).symm);by_cases e:(gl w.Heap a.Thread a.N).2.2=0
  ·rw[if_pos e]
   have hal:1<=a.N/\a.N<=1000:=by
    refine Classical.byContradiction fun hn=>?_
    unfold gl at e;rw[if_pos hn]at e;split at e
    ·exact absurd (show(5:Int)=0 from e) (by decide)
    split at e
    ·exact absurd (show(1:Int)=0 from e) (by decide)
    exact absurd (show(2:Int)=0 from e) (by decide)
   have c2:=wN w.Ref a.N m h.ref (by omega) hal;generalize gl w.Heap a.Thread a.N=f at c1 e |-
   repeat'(first|refine gA ?_|(conv=>whnf);first|with_reducible refine Bf.E (fun hq=>?_) (fun hq=>?_)|refine Sm.rf ?_|refine cu.mk (c1) (.inl rfl) ?_|refine Cl.mk (c2) ?_|refine Sm.rf ?_)
   refine aR.mk rfl rfl ?_;exact wC
  ·rw[if_neg e]
   generalize gl w.Heap a.Thread a.N=f at c1 e |-
   repeat'(first|refine gA ?_|(conv=>whnf);first|with_reducible refine Bf.E (fun hq=>?_) (fun hq=>?_)|refine Sm.rf ?_|refine cu.mk (c1) (.inl rfl) ?_|refine Sm.rf ?_)
   refine aR.mk rfl rfl ?_;exact wC
 rw[if_neg k1];by_cases k2:a.Kind=2\/a.Kind=3\/a.Kind=4
 ·rw[if_pos k2]
  have c1:=Bm w a.N (by have:=hi.lens.objs;omega);by_cases e:qG w.Heap a.N<0
  ·rw[if_pos e]
   repeat'(first|refine gA ?_|(conv=>whnf);first|with_reducible refine Bf.E (fun hq=>?_) (fun hq=>?_)|refine Sm.rf ?_|refine cu.mk (c1) (.inl rfl) ?_)
   all_goals first|omega|skip
   all_goals
    refine aR.mk rfl rfl ?_;exact wC
  ·rw[if_neg e]
   obtain⟨f1,f2,f3⟩:=fN (Kv a.N) w.Heap.Objs (by unfold qG at e;omega);have c2:=u5 w a (qG w.Heap a.N).toNat m h hm ha f1;rw[show(((qG w.Heap a.N).toNat:Nat):Int)=qG w.Heap a.N by omega]at c2
   repeat'(first|refine gA ?_|(conv=>whnf);first|with_reducible refine Bf.E (fun hq=>?_) (fun hq=>?_)|refine Sm.rf ?_|refine cu.mk (c1) (.inl rfl) ?_|refine cu.mk (c2) (.inl rfl) ?_)
   all_goals first|omega|skip
   all_goals
    refine aR.mk rfl rfl ?_;exact wC
 rw[if_neg k2];by_cases k5:a.Kind=5\/a.Kind=6\/a.Kind=7
 ·rw[if_pos k5]
  have c1:=uo w a m h k5
  repeat'(first|refine gA ?_|(conv=>whnf);first|with_reducible refine Bf.E (fun hq=>?_) (fun hq=>?_)|refine Sm.rf ?_|refine cu.mk (c1) (.inl rfl) ?_)
  all_goals first|omega|skip
  all_goals
   refine aR.mk rfl rfl ?_;exact wC
 rw[if_neg k5];by_cases k8:a.Kind=8
 ·rw[if_pos k8]
  unfold qz;have c0:=ka w.Heap.Kernel (bG hi.ker);rw[DE hi.ker]at c0;have c1:=aE a.N 0 1000;by_cases e1:w.Heap.Kernel.Calls≠100000;rotate_left
  ·rw[if_neg (fun x=>e1 x.1)]
   rw[P0 e1]at c0
   repeat'(first|refine gA ?_|(conv=>whnf);first|with_reducible refine Bf.E (fun hq=>?_) (fun hq=>?_)|refine Sm.rf ?_|refine Cl.eq (c0) ⟨⟨rfl,af.enc_fz _⟩,trivial⟩ ?_|refine Sm.rf ?_)
   refine aR.mk rfl rfl ?_;exact wC
  rw[O0 e1]at c0;by_cases e2:0<=a.N/\a.N<=1000;rotate_left
  ·rw[if_neg (fun x=>e2 x.2.1)]
   rw[P0 e2]at c1
   repeat'(first|refine gA ?_|(conv=>whnf);first|with_reducible refine Bf.E (fun hq=>?_) (fun hq=>?_)|refine Sm.rf ?_|refine Cl.eq (c0) ⟨⟨rfl,af.enc_fz _⟩,trivial⟩ ?_|refine Cl.mk (c1) ?_|refine Sm.rf ?_)
   refine aR.mk rfl rfl ?_;exact wC
  rw[O0 e2]at c1;by_cases e3:w.Heap.Clock+a.N<=1000000
  ·rw[if_pos ⟨e1,e2,e3⟩]
   have c2:=(zt w.Heap a.N hi e2 e3).frame (r:=ax.enc .imm w.Ref) ((cC _).trans (cC _).symm)
   repeat'(first|refine gA ?_|(conv=>whnf);first|with_reducible refine Bf.E (fun hq=>?_) (fun hq=>?_)|refine Sm.rf ?_|refine Cl.eq (c0) ⟨⟨rfl,af.enc_fz _⟩,trivial⟩ ?_|refine Cl.mk (c1) ?_|refine cu.mk (c2) (.inl rfl) ?_|refine Sm.rf ?_)
   refine aR.mk rfl rfl ?_;exact wC
  ·rw[if_neg (fun x=>e3 x.2.2)]
   repeat'(first|refine gA ?_|(conv=>whnf);first|with_reducible refine Bf.E (fun hq=>?_) (fun hq=>?_)|refine Sm.rf ?_|refine Cl.eq (c0) ⟨⟨rfl,af.enc_fz _⟩,trivial⟩ ?_|refine Cl.mk (c1) ?_|refine Sm.rf ?_)
   refine aR.mk rfl rfl ?_;exact wC
 rw[if_neg k8];by_cases k9:a.Kind=9
 ·rw[if_pos k9]
  unfold pU;obtain⟨hs,hw⟩:=h.fit hr;have c0:=BT w.Heap hs hw;rw[show eC w.Heap=true from hi.to]at c0;cases e1:w.Heap.Meshing with
  | true=>
   rw[if_pos rfl]
   repeat'(first|refine gA ?_|(conv=>whnf);first|with_reducible refine Bf.E (fun hq=>?_) (fun hq=>?_)|refine Sm.rf ?_|refine Bf.t e1 ?_|refine Sm.rf ?_)
   refine aR.mk rfl rfl ?_;exact wC
  | false=>
   rw[if_neg (by simp)];have c1:=(wO w.Heap hi).frame (r:=ax.enc .imm w.Ref) ((cC _).trans (cC _).symm);cases e2:(started w.Heap).2<;>rw[e2]at c1
   ·rw[if_neg (by simp)]
    repeat'(first|refine gA ?_|(conv=>whnf);first|with_reducible refine Bf.E (fun hq=>?_) (fun hq=>?_)|refine Sm.rf ?_|refine Bf.f e1 ?_|refine Cl.eq (c0) ⟨⟨rfl,bz w.Heap⟩,trivial⟩ ?_|refine cu.mk (c1) (.inl rfl) ?_|refine Sm.rf ?_)
    refine aR.mk rfl rfl ?_;exact wC
   ·rw[if_pos rfl]
    repeat'(first|refine gA ?_|(conv=>whnf);first|with_reducible refine Bf.E (fun hq=>?_) (fun hq=>?_)|refine Sm.rf ?_|refine Bf.f e1 ?_|refine Cl.eq (c0) ⟨⟨rfl,bz w.Heap⟩,trivial⟩ ?_|refine cu.mk (c1) (.inl rfl) ?_|refine Sm.rf ?_)
    refine aR.mk rfl rfl ?_;exact wC
 rw[if_neg k9];have k10:a.Kind=10:=by omega
 have c0:=aE a.N 0 50;by_cases e1:0<=a.N/\a.N<=50
 ·rw[if_pos ⟨k10,e1⟩]
  rw[O0 e1]at c0;obtain⟨n,hn⟩:=Z1 e1.1;have c1:=xn w m n h (by omega);rw[show a.N.toNat=n by omega];rw[<-hn]at c1
  repeat'(first|refine gA ?_|(conv=>whnf);first|with_reducible refine Bf.E (fun hq=>?_) (fun hq=>?_)|refine Sm.rf ?_|refine Cl.mk (c0) ?_|refine cu.mk (c1) (.inl rfl) ?_|refine Sm.rf ?_)
  refine aR.mk rfl rfl ?_;exact wC
 ·rw[if_neg (fun x=>e1 x.2)]
  rw[P0 e1]at c0
  repeat'(first|refine gA ?_|(conv=>whnf);first|with_reducible refine Bf.E (fun hq=>?_) (fun hq=>?_)|refine Sm.rf ?_|refine Cl.mk (c0) ?_|refine Sm.rf ?_)
  refine aR.mk rfl rfl ?_;exact wC
theorem Ao (w:bI) (h1:ab.sml w.Heap) (h2:ax.sml w.Ref):ao Tryz.prog 241 false [.val (some 26) (bI.enc .imm w)] .agg (bI.enc .own w):=by
 have c1:=Ak w.Heap h1;have c2:=dA w.Ref h2;refine fO 10 [(1,5,[3,4,5,6,7])] Tryz.func241 rfl ?_ (.inr (bI.enc_fr _))
 repeat'(first|refine gO ?_|(conv=>whnf);first|refine Cl.mk (c1) ?_|refine Cl.mk (c2) ?_|refine Sm.rf ?_)
 rfl
theorem zW (c:cI) (acts:List en) (h:GV c) (hr:iy c.Refuse) (ha:∀ a∈acts,HJ a) (hl:acts.length<=80):ao Tryz.prog 149 false [.val (some 5) (cI.enc .imm c),.val none (mF .imm acts)] (.tup [some 26,none]) (bI.enc .own (A2 c acts acts.length).1++aD .own (A2 c acts acts.length).2):=by
 have c1:=xm c h;refine fP 42 [(240,[2,0]),(2000005,[6,21,25])] [] Tryz.func149 rfl ?_ (.inr (aN (bI.enc_fr _) (bF _)))
 repeat'(first|refine gD ?_|(conv=>whnf);first|refine Cl.mk (c1) ?_|refine D8.mk rfl rfl rfl ?_)
 (conv=>whnf)
 refine Lp.mk (ι:=Nat) (fun i=>[(1,.hold .one (mF .imm acts)),(4,.hold .box [.z,.z,.z,I 0,.z,.z,.z,.z,.z,.z,.z,.z,I 0,.z,I 0,I 0,I 0,I 0,B false,I 0,I 0,.z,I 0,I 0,I 0,.z]),(6,.hold .box (pv (A2 c acts i).1)),(8,.hold .one (aD .own (A2 c acts i).2)),(9,.hold .one [I ((i:Nat):Int)])]) (fun i=>i<=acts.length) (fun i=>acts.length - i) (0) ?_ (Q0 _) fun i hi=>?_
 ·repeat'(first|exact trivial|rfl |exact mI hoo|exact dL _|refine And.intro ?_ ?_|(exact AG (by first|omega|(simp only;omega)|(simp;omega))))
 have hk:=zc h acts i;have hrf:=DT h acts i;have hlen:(A2 c acts i).2.length=i:=by
  clear hk hrf hi
  induction i with
  | zero=>rfl
  | succ k ih=>show((A2 c acts k).2++[_]).length=_;rw[P2,ih];rfl
 by_cases li:i<acts.length
 ·have hx:=ah li
  have c2:=DM (A2 c acts i).1 (nth acts i) i hk (by omega) (by unfold rfs at hrf;rw[hrf];exact hr) (ha _ (am li))
  repeat'(first|refine gD ?_|(conv=>whnf);first|with_reducible refine Ix.nat (aa hx) ?_|refine Rw.one rfl (aa hx) rfl ?_|refine cu.mk (c2) (.inl rfl) ?_|refine Ap.mk cq (fun r hr=>by rw[X0.1 hr];rfl) (by simp[aV,d4]) (by simp;omega) (by simp only[U0];exact wI (by simp;omega) (by decide)) rfl ?_)
  ((conv=>whnf);refine Nx.mk (i+1) (by omega) (by omega) ?_)
  repeat'(first|exact trivial|rfl| exact dL _ |exact And.intro rfl (And.intro (R0 (C.s dz.own) (by simp[A2,rI])) trivial)|refine And.intro ?_ ?_|(exact AG (by first|omega|(simp only;omega)|(simp;omega))))
 ·obtain rfl:i=acts.length:=by omega
  have hf:=hk.fit (by unfold rfs at hrf;rw[hrf];exact hr);have c3:=Ao (A2 c acts acts.length).1 hf.1 (hk.ref.sml (by omega))
  repeat'(first|refine gD ?_|(conv=>whnf);first|refine Cl.eq (c3) ⟨⟨rfl,Lb _⟩,trivial⟩ ?_)
  rfl
theorem BB (zs:List Int) (c:gR):iy (oQ zs c).Refuse:=by
 show iy (nv zs 4 0 [] (yJ zs c).2).1;have key:∀ (f i:Nat) (out:List Int) (c:gR),(∀ x∈out,l9 x)->∀ x∈(nv zs f i out c).1,l9 x:=by
  intro f
  induction f with
  | zero=>intro i out c h;exact h
  | succ f ih=>
   intro i out c h;unfold nv;split
   ·refine ih _ _ _ fun x hx=>?_
    rcases C2.1 hx with hx|hx
    ·exact h x hx
    ·rw[X0.1 hx]
     have:=bC zs (bu zs c 4).2 (n:=12) (by decide);exact⟨by omega,by omega⟩
   ·exact h
 exact⟨by
   have h4:∀ (f i:Nat) (out:List Int) (c:gR),out.length+f<=4->(nv zs f i out c).1.length<=4:=by
     intro f
     induction f with
     | zero=>intro i out c h;exact h
     | succ f ih=>
       intro i out c h;unfold nv;split
       · exact ih _ _ _ (by simp only[P2,List.length_singleton];omega)
       · show out.length<=4;omega
   have:=h4 4 0 [] (yJ zs c).2 (I2 _);omega,key 4 0 [] _ (fun x hx=>by cases hx)⟩
theorem xF (zs:List Int) (hz:ja zs):aS Tryz.prog 61 false [.ptr (gS zs (th zs))] [.ptr (gS zs (m7 zs (eO zs)).2)] .agg (bI.enc .own (drawn zs)):=by
 have h1:(th zs).i<=zs.length:=Q0 _;obtain⟨k1,k2⟩:=u6 h1;have hb:=bC zs (eO zs) (n:=41) (by decide);obtain⟨a1,a2,-⟩:=qo (zs:=zs) (c:=eO zs) k2 (n:=(bu zs (eO zs) 41).1.toNat) (by omega);have c1:=wt zs (th zs) hz h1;have c2:=z7 zs (eO zs) hz k2;have c3:=zW (oQ zs (th zs)) (m7 zs (eO zs)).1 k1 (BB zs _) a2 (by show(kv zs (eO zs) _).1.length<=80;omega);have e0:drawn zs=(A2 (oQ zs (th zs)) (m7 zs (eO zs)).1 (m7 zs (eO zs)).1.length).1:=rfl;rw[e0];change aS _ _ _ _ [.ptr (gS zs (eO zs))] _ _ at c1;generalize oQ zs (th zs)=cf at *;generalize hA:m7 zs (eO zs)=A at *;generalize hR:A2 cf A.1 A.1.length=R at *;refine fM 14 [(150,[2]),(151,[2,0])] [] [(0,0)] Tryz.func61 rfl (fun u q=>?_) (.inr (bI.enc_fr _))
 repeat'(first|refine gO ?_|(conv=>whnf);first|refine cu.mk (c1) (.inl rfl) ?_|refine cu.mk (c2) (.inl rfl) ?_|refine Cl.eq (c3) ⟨⟨rfl,cI.enc_fz _⟩,⟨rfl,Hb _⟩,trivial⟩ ?_)
 refine aR.mk rfl rfl ?_;exact wC
def Nr (z:List Int):List C:=[.s .imm (z.map rU)]
theorem BO (zs:List Int) (hz:ja zs):pB Tryz.prog 62 true [.val none (Nr zs)] .box (gS zs (th zs)):=by
 have hl:=hz.1;have e1:IntKind.i64.wrap (98801+(zs.length:Nat))=w64 (98801+(zs.length:Nat)):=rfl;have e0:oy zs 0=98801+(zs.length:Nat):=by show w64 _=_;rw[<-e1];exact ed (by omega) (by omega)
 have hoo:=R0 I e0;refine N6 (n:=32) (t:=2) (mo:=[]) (tb:=[]) Tryz.func62 (by kernel_rfl) rfl (by kernel_rfl) (by rfl) rfl ?_
 repeat'(first|refine gO ?_|fail)
 (conv=>whnf)
 refine Lp.mk (ι:=Nat) (fun i=>[(0,.hold .one (Nr zs)),(3,.hold .one [I (oy zs i)]),(4,.hold .one [I ((i:Nat):Int)])]) (fun i=>i<=min zs.length 4000) (fun i=>min zs.length 4000 - i) (0) ?_ (Q0 _) fun i hi=>?_
 ·repeat'(first|exact trivial|rfl |exact mI hoo|exact dL _|refine And.intro ?_ ?_|(exact AG (by first|omega|(simp only;omega)|(simp;omega))))
 have e2:IntKind.i64.wrap (oy zs i*131)=w64 (oy zs i*131):=rfl;have e3:IntKind.i64.wrap (w64 (oy zs i*131)+nth zs i)=w64 (w64 (oy zs i*131)+nth zs i):=rfl;have e4:IntKind.i64.wrap (w64 (w64 (oy zs i*131)+nth zs i)+7)=w64 (w64 (w64 (oy zs i*131)+nth zs i)+7):=rfl;have e5:IntKind.i64.wrap (BitVec.ofInt IntKind.i64.bits (w64 (w64 (w64 (oy zs i*131)+nth zs i)+7)) &&& BitVec.ofInt IntKind.i64.bits 1073741823).toNat=oy zs (i+1):=rfl;by_cases li:i<zs.length/\i<4000
 ·have hx:=ah li.1
  have h2:=hz.2 _ (am li.1);generalize oy zs i=H at *;generalize hH:oy zs (i+1)=H2 at *
  repeat'(first|refine gD ?_|(conv=>whnf);first|with_reducible (first|refine Ix.nat (aa hx) ?_|refine Wr.mk e2 ?_|refine Wr.mk e3 ?_|refine Wr.mk e4 ?_|refine Wr.mk e5 ?_)|refine Rw.one rfl (aa hx) rfl ?_)
  ((conv=>whnf);refine Nx.mk (i+1) (by omega) (by omega) ?_)
  rw[hH];exact wC
 ·obtain rfl:i=min zs.length 4000:=by omega
  have e9:th zs = ⟨0,oy zs (min zs.length 4000)⟩:=rfl;rw[e9];generalize oy zs (min zs.length 4000)=H at *
  repeat'(first|refine gD ?_|(conv=>whnf);first|with_reducible refine Bf.D (fun hq=>?_) (fun hq=>?_))
  all_goals rfl
theorem vQ (zs:List Int) (hz:ja zs):ao Tryz.prog 16 false [.val none (Nr zs)] .agg (bI.enc .own (drawn zs)):=by
 have c1:=BO zs hz;have c2:=xF zs hz;refine fP 6 [(61,[2])] [] Tryz.func16 rfl ?_ (.inr (bI.enc_fr _))
 repeat'(first|refine gO ?_|(conv=>whnf);first|refine Cl.g c1 (.inr rfl) ?_|refine cu.mk (c2) (.inl rfl) ?_)
 rfl
set_option maxHeartbeats 2000000
set_option maxHeartbeats 2000000
set_option maxHeartbeats 2000000
set_option maxHeartbeats 2000000
set_option maxHeartbeats 2000000
set_option maxHeartbeats 2000000
theorem A5 (zs:List Int):iy (drawn zs).Heap.Kernel.Refuse:=by
 have h1:(th zs).i<=zs.length:=Q0 _;have:=DT (u6 h1).1 (m7 zs (eO zs)).1 (m7 zs (eO zs)).1.length;unfold rfs at this;show iy (A2 _ _ _).1.Heap.Kernel.Refuse;rw[this];exact BB zs _
theorem GD (zs:List Int):ab.sml (drawn zs).Heap/\ab.wf (drawn zs).Heap:=(Dr zs).fit (A5 zs)
theorem Mm (zs:List Int) (hl:zs.length<=9223372036854775807):ao Tryz.prog 15 false [.val none (Nr zs)] .one [B (decide ((zs.length:Int) > 1048576))]:=by
 refine fO 6 [] Tryz.func15 rfl ?_
 repeat'(first|refine gO ?_|fail)
 rfl
theorem Mj (a1 b1 c1 a2 b2 c2:Int):N9 Tryz.prog .neq 75 [.int .i64 a1,.int .i64 b1,.int .i64 c1] [.int .i64 a2,.int .i64 b2,.int .i64 c2] (!(a1 == a2&&(b1 == b2&&c1 == c2))):=by
 refine⟨fun x y w=>?_⟩;rw[Sem.run_bind,run_eqGuard_agg w .neq _ x y _ _ (by kernel_rfl)];simp only[Result.andThen_ok];rw[run_neq_struct,run_equalIn_agg w _ _ _ _ (by kernel_rfl) (by kernel_rfl)];simp only[Program.fieldsOf,Tryz.underlying75];simp only[Op.eqFields];simp[part,Sem.run_bind,run_equalIn_int _ _ _ _ _ _ _ Tryz.underlying3];by_cases h1:a1=a2<;>by_cases h2:b1=b2<;>by_cases h3:c1=c2<;>simp[h1,h2,h3]
theorem Al (a:List au) (hl:a.length<=1048576):ao Tryz.prog 37 false [.val none (b6 .imm a),.val none (b6 .imm a)] .one [B true]:=by
 refine fO 26 [(6,8,[17,18,19,20,21,22,23,24])] Tryz.func37 rfl ?_
 repeat'(first|refine gA ?_|fail)
 (conv=>whnf)
 refine Lp.mk (ι:=Nat) (fun i=>[(0,.hold .one (b6 .imm a)),(1,.hold .one (b6 .imm a)),(5,.hold .one [I ((i:Nat):Int)])]) (fun i=>i<=a.length) (fun i=>a.length - i) (0) ?_ (Q0 _) fun i hi=>?_
 ·exact wC
 by_cases li:i<a.length
 ·have hx:=ah li
  repeat'(first|refine gD ?_|(conv=>whnf);first|with_reducible refine Ix.nat (aa hx) ?_|refine Rw.one rfl (aa hx) rfl ?_|refine ML.mk (Mj _ _ _ _ _ _) ?_|refine Bf.t (by simp only[beq_self_eq_true,Bool.and_self]) ?_)
  ((conv=>whnf);refine Nx.mk (i+1) (by omega) (by omega) ?_;(exact wC))
 ·repeat'(first|refine gD ?_|fail)
  rfl
theorem xh (s t:au):meshable s t=meshable t s:=by
 unfold meshable;rw[Bool.and_comm (aY s) (aY t),Nat.and_comm s.Bits.toNat]
 congr 1
 exact decide_eq_decide.2 ⟨fun⟨h1,h2,h3⟩=>⟨h1.symm,h2.symm,h3⟩,fun⟨h1,h2,h3⟩=>⟨h1.symm,h2.symm,h3⟩⟩
theorem ri (h:ab):∀ n,∀ s∈gt h n,kR h s=true
 | 0,s,hs=>by cases hs
 | n+1,s,hs=>by
  simp only[gt]at hs;split at hs
  ·rename_i e
   rcases C2.1 hs with hs|hs
   ·exact ri h n s hs
   ·rw[X0.1 hs];exact e
  ·exact ri h n s hs
theorem Gj:p8 0 16=0:=by decide
theorem E0 {h:ab} (hi:bo h []) (h2:(started h).2=true):(started h).1.Meshing=true/\∃ a b:Nat,a<h.Spans.length/\b<h.Spans.length/\er h (started h).1.Job.Plan.Keep=(a:Nat)/\er h (started h).1.Job.Plan.Move=(b:Nat)/\meshable (nth h.Spans a) (nth h.Spans b)=true:=by
 have hn:=hi.nums;unfold bW at hn;rw[C0]at hn;have hpo:=jP (aX h) (show 0<=h.Seed/\h.Seed<=1073741823 by omega);cases hp:ig (aX h) h.Seed with
 | nil=>
  have hst:Ab.started h=({h with Seed:=(shuf (aX h).length h.Seed).2},false):=by unfold Ab.started;rw[hp]
  rw[hst]at h2;cases h2
 | cons q qs=>
  obtain⟨k1,k2,k3⟩:=hpo q (by rw[hp];exact I1 ..);have hst:Ab.started h=({h with Seed:=(shuf (aX h).length h.Seed).2,Meshing:=true,Job:=rK (cU (nth (aX h) q.A.toNat) (nth (aX h) q.B.toNat))},true):=by unfold Ab.started;rw[hp]
  rw[hst];have hmem:∀ s∈aX h,s∈h.Spans:=fun s hs=>kS h (I2 _) s (List.mem_of_mem_take hs)
  have ha:=hmem _ (am (xs:=aX h) (i:=q.A.toNat) (by omega));have hb:=hmem _ (am (xs:=aX h) (i:=q.B.toNat) (by omega));generalize nth (aX h) q.A.toNat=a at k3 ha |-;generalize nth (aX h) q.B.toNat=b at k3 hb |-;obtain⟨i,li,ei⟩:=List.getElem_of_mem ha;obtain⟨j,lj,ej⟩:=List.getElem_of_mem hb;have ei':nth h.Spans i=a:=by rw[bn (Q1 li)];exact ei
  have ej':nth h.Spans j=b:=by rw[bn (Q1 lj)];exact ej
  have si:=lc hi.L li;have sj:=lc hi.L lj;rw[ei']at si;rw[ej']at sj;refine⟨rfl,?_⟩;show ∃ a' b':Nat,a'<h.Spans.length/\b'<h.Spans.length/\er h (cU a b).Keep=(a':Nat)/\er h (cU a b).Move=(b':Nat)/\meshable (nth h.Spans a') (nth h.Spans b')=true
  unfold cU;split
  ·exact⟨j,i,lj,li,sj,si,by rw[ej',ei',xh];exact k3⟩
  ·exact⟨i,j,li,lj,si,sj,by rw[ei',ej'];exact k3⟩
theorem Ey {h:ab} (h2:(started h).2=false):(started h).1.Meshing=h.Meshing:=by
 unfold started at h2 |-;split
 ·rfl
 ·rename_i e;rw[e]at h2;cases h2
theorem Candidates_law (zs:List Int) (hw:zs.length<=9223372036854775807/\∀ y∈zs,0<=y/\y<=255):ao Tryz.prog 8 false [.val none (Nr zs)] .one [B true]:=by
 have c0:=Mm zs hw.1;by_cases hb:(zs.length:Int) > 1048576
 ·rw[O0 hb]at c0
  refine fO 105 [(10,13,[30,31,32,33,34,35,36,37,38,39,40,41,42]),(16,21,[78,79,80,81,82,83,84,85,86,87,88,89,90,91,92,93,94,95,96,97,98])] Tryz.func8 rfl ?_
  repeat'(first|refine gO ?_|(conv=>whnf);first|refine Cl.mk (c0) ?_)
  rfl
 rw[P0 hb]at c0;have hz:ja zs:=⟨by omega,hw.2⟩
 have cD:=vQ zs hz;have hi:=(Dr zs).inv;obtain⟨hs,hwf⟩:=GD zs;have hrf:=A5 zs;generalize drawn zs=w at *;have hh:=hi.to;have hst:tB w.Heap:=hs.1.1.2;have hlen:=hi.lens;have hbits:∀ s∈w.Heap.Spans,s.Bits<=9223372036854775807:=fun s hs=>(dC (hi.L.sok s hs)).2
 have hsl:w.Heap.Spans.length<=1000:=by have:=hlen.spans;omega
 have hpg:dQ w.Heap<=1000:=by have:=hlen.ents;unfold dQ;omega
 have c1:=mT w.Heap hst hsl hpg hbits;have c1s:=mG w.Heap hst hsl hpg hbits;have c2:=uQ w.Heap hs;have hml:=l7 w.Heap w.Heap.Spans.length;have hma:=ri w.Heap w.Heap.Spans.length;have hml2:(dl w.Heap).length<=1000:=by unfold dl;omega
 have cS:=Al (dl w.Heap) (by unfold dl;omega);have hx:bo (fF w.Heap).1 []/\(fF w.Heap).1.Kernel=w.Heap.Kernel/\(fF w.Heap).1.Mail=w.Heap.Mail/\((fF w.Heap).2=false->(fF w.Heap).1.Meshing=w.Heap.Meshing)/\((fF w.Heap).2=true->fF w.Heap=started w.Heap):=by
  unfold fF;split
  ·obtain⟨s1,s2,s3⟩:=sU hi
   exact⟨s1,s2,s3,Ey,fun _=>rfl⟩
  ·exact⟨hi,rfl,rfl,fun _=>rfl,fun e=>by cases e⟩
 obtain⟨x1,x2,x3,x4,x5⟩:=hx;have x6:(fF w.Heap).2=true->_:=fun e=>E0 hi (x5 e ▸ e)
 have x7:(fF w.Heap).2=true->(started w.Heap).1=(fF w.Heap).1:=fun e=>by rw[x5 e]
 have xf:=(x1.fit (by rw[x2];exact hrf) (by rw[x3];exact hs.2.2.2.2.2.2.1)).sml;have c3:=mV (fF w.Heap).1 xf;rw[ru,x1.to]at c3;have hfx:=KX (fF w.Heap).1;generalize hX:fF w.Heap=X at *;have hsp:w.Heap.Spans.length<=1048576:=by omega
 refine fO 105 [(10,13,[30,31,32,33,34,35,36,37,38,39,40,41,42]),(16,21,[78,79,80,81,82,83,84,85,86,87,88,89,90,91,92,93,94,95,96,97,98])] Tryz.func8 rfl ?_
 repeat'(first|refine gO ?_|(conv=>whnf);first|refine Cl.mk (c0) ?_|refine Cl.mk (cD) ?_|refine Cl.eq (c1) ⟨⟨rfl,ab.enc_fz _⟩,trivial⟩ ?_|refine Cl.eq (c2) ⟨⟨rfl,ab.enc_fz _⟩,trivial⟩ ?_)
 (conv=>whnf)
 refine Lp.mk (ι:=Nat) (fun k=>[(4,.hold .box (ab.enc .own w.Heap)),(5,.hold .one (b6 .own (dl w.Heap))),(6,.hold .box (wM X.1)),(7,.hold .one [B (X.2)]),(8,.hold .one [I ((k:Nat):Int)])]) (fun k=>k<=(dl w.Heap).length) (fun k=>(dl w.Heap).length - k) (0) ?_ (Q0 _) fun k hk=>?_
 ·exact wC
 by_cases lk:k<(dl w.Heap).length
 ·have hx:=ah lk
  have hb1:=hma _ (am lk);change kR w.Heap (nth (dl w.Heap) k)=true at hb1;unfold kR at hb1;rw[I0,C0,C0]at hb1;have hnz:(nth (dl w.Heap) k).Bits≠0:=fun e=>by
   have:=hb1.1;rw[e,Gj]at this;omega
  have hfl:=hb1.2;have c4:=fj w.Heap (nth (dl w.Heap) k).Page hst
  repeat'(first|refine gA ?_|(conv=>whnf);first|with_reducible refine Ix.nat (aa hx) ?_|refine Rw.one rfl (aa hx) rfl ?_|refine Cl.eq (c4) ⟨⟨rfl,ab.enc_fz _⟩,⟨rfl,rfl⟩,trivial⟩ ?_)
  ((conv=>whnf);refine Nx.mk (k+1) (by omega) (by omega) ?_;(exact wC))
 obtain rfl:k=(dl w.Heap).length:=by omega
 cases hok:X.2 with
 | false=>
  have hm4:=x4 hok;have hmm:((!X.1.Meshing) == (!w.Heap.Meshing))=true:=by rw[hm4];simp
  repeat'(first|refine gD ?_|(conv=>whnf);first|refine Bf.f hok ?_|refine Bf.t hmm ?_|refine Cl.eq (c3) ⟨⟨rfl,hfx⟩,trivial⟩ ?_|refine Cl.eq (c1s) ⟨⟨rfl,ab.enc_fz _⟩,trivial⟩ ?_|refine Cl.eq (cS) ⟨⟨rfl,jC _⟩,⟨rfl,jC _⟩,trivial⟩ ?_)
  rfl
 | true=>
  obtain⟨hm,a,b,la,lb,ea,eb,hab⟩:=x6 hok;rw[x7 hok]at hm ea eb;have c5:=fU w.Heap X.1.Job.Plan.Keep hsp;have c6:=fU w.Heap X.1.Job.Plan.Move hsp;rw[ea]at c5;rw[eb]at c6;have ha:=ah la;have hb:=ah lb;have c7:=iB (nth w.Heap.Spans a) (nth w.Heap.Spans b);rw[hab]at c7
  repeat'(first|refine gD ?_|(conv=>whnf);first|with_reducible (first|refine Ix.nat (aa ha) ?_|refine Ix.nat (aa hb) ?_)|refine Bf.t hok ?_|refine Bf.t hm ?_|refine Rw.one rfl (aa ha) rfl ?_|refine Rw.one rfl (aa hb) rfl ?_|refine Cl.eq (c3) ⟨⟨rfl,hfx⟩,trivial⟩ ?_|refine Cl.eq (c5) ⟨⟨rfl,ab.enc_fz _⟩,⟨rfl,rfl⟩,trivial⟩ ?_|refine Cl.eq (c6) ⟨⟨rfl,ab.enc_fz _⟩,⟨rfl,rfl⟩,trivial⟩ ?_|refine Cl.mk (c7) ?_)
  rfl
open Go.RowKit Go.ChangeShapes Go.WideShapes Go.Deep
def ALL (w:World):ac:=fun b _=>b<w.heap.size
def N7 {H:Type} (e:TypeId × Value->H) (P:Program) (w:World) (t n:Nat) {α:Type} (enc:α->List C) (wf:α->Prop):Prop:=
 ∀ (fuel:Nat) (cs:List Value) (x:DataW H × List MemPlace),DataW.trod e P w 0 (fun _=>true) true fuel t cs=some x->cs.length=n/\∃ a,wf a/\(enc a).length=n/\cF w (ALL w) NO (enc a) (fun j=>cs.getD j undef)
section
variable {H:Type} {e:TypeId × Value->H} {P:Program} {w:World}
theorem yV {S F:ac} {c:C} {u:Nat->Value} (h:dP w S F c (u 0)):cF w S F [c] u:=
 ⟨fun _=>F,fun j c' hj=>by cases j with
   | zero=>simp at hj;subst hj;exact h
   | succ j=>simp at hj,fun _ _ _ _ h=>h,fun j j' hj hj' hne=>by simp at hj hj';omega⟩
theorem pick {α β:Type} (n:Nat) {Q:Nat->β->Prop} (h:∀ i,i<n->∃ b,Q i b):∃ l:List β,l.length=n/\∀ i b,l[i]? = some b->Q i b:=by
 induction n with
 | zero=>exact⟨[],rfl,fun i b h=>by simp at h⟩
 | succ n ih=>
  obtain⟨l,h1,h2⟩:=ih fun i hi=>h i (by omega)
  obtain⟨b,hb⟩:=h n (by omega);refine⟨l++[b],by simp[h1],fun i b' hi=>?_⟩;by_cases hl:i<n
  ·rw[Q3 (by omega)]at hi;exact h2 i b' hi
  ·rw[R3 (by omega)]at hi
   have:i - l.length=0:=by
    have:=(R1.1 hi).1;simp at this;omega
   rw[this]at hi;simp at hi;subst hi;rw[show i=n by omega];exact hb
theorem Jx {t el n:Nat} {α:Type} {enc:α->List C} {wf:α->Prop} (hel:N7 e P w el n enc wf) (ht:P.underlying t=some (.slice el)) (hn:P.cellsOf el=n) (hpos:0<n) :
  N7 e P w t 1 (fun xs:List α=>[.s .imm (xs.map enc)]) (fun xs=>xs.length<=9223372036854775807/\∀ y∈xs,wf y):=by
 intro fuel cs x h;rcases open_slice ht h with⟨rfl,-⟩|⟨ad,len,cap,m,n',D,Pl,rfl,-,hl,hm,hmm,-,hi⟩
 ·exact⟨rfl,[],⟨by simp,by simp⟩,rfl,yV (.nil _ _ _ trivial)⟩
 ·simp only[if_true]at hmm
  subst hmm;have hsp:0<m->ad.spot=none:=fun hpm=>by
   obtain⟨cs',hc,htr⟩:=hi 0 hpm;rw[hn]at hc;obtain⟨_,hcl,hat⟩:=World.cells?_some hc;have:=hat 0 hpos;rw[Q1 (by omega)]at this;have:=World.cell?_spot this;simpa[Addr.add] using this
  have key:∀ i,i<len->∃ a,wf a/\(enc a).length=n/\(∀ d,d<n->∃ z,cel w ad.block (ad.off+(i*n+d))=some z)/\ad.spot=none/\cF w (ALL w) NO (enc a) (fun d=>(cel w ad.block (ad.off+(i*n+d))).getD undef):=fun i hil=>by
   have hspot:=hsp (by omega);obtain⟨cs',hc,htr⟩:=hi i (by omega);rw[hn]at hc;obtain⟨h1,a,h3,h4,h5⟩:=hel _ _ _ htr;obtain⟨_,hcl,hat⟩:=World.cells?_some hc;have hadd:∀ d,ad.add d = ⟨ad.block,ad.off+d,none⟩:=fun d=>by
    obtain⟨b,o,sp⟩:=ad;simp only at hspot;subst hspot;unfold Addr.add;split<;>simp_all
   have hcell:∀ d,d<n->cel w ad.block (ad.off+(i*n+d))=cs'[d]?:=fun d hd=>by
    have:=hat d hd;rw[Go.Deep.add_add,hadd]at this;exact this
   refine⟨a,h3,h4,fun d hd=>⟨_,by rw[hcell d hd,Q1 (by omega)]⟩,hspot,h5.congr fun d hd=>?_⟩;show(cel w ad.block (ad.off+(i*n+d))).getD undef=cs'.getD d undef;rw[hcell d (by omega),List.getD]
  obtain⟨l,hll,hlq⟩:=pick (α:=α) len key;refine⟨rfl,l,⟨by simp only[maxLen]at hm;omega,fun y hy=>?_⟩,rfl,yV ?_⟩
  ·obtain⟨i,hi'⟩:=List.mem_iff_getElem?.1 hy
   exact(hlq i y hi').1
  ·show dP w (ALL w) NO (.s .imm (l.map enc)) (.slice (some ad) len m)
   by_cases h0:len=0
   ·subst h0
    have:l=[]:=z5 hll;subst this;by_cases hc0:m=0
    ·subst hc0;exact .nil _ _ _ trivial
    ·have hspot:=hsp (by omega)
     obtain⟨b,o,sp⟩:=ad;simp only at hspot;subst hspot;exact .imm _ b o n 0 m [] (fun _=>undef) rfl (fun r hr=>by simp at hr) hl (fun q hq=>by simp at hq) (fun i j r c hi=>by simp at hi)
   ·obtain⟨y0,hy0⟩ : ∃ y,l[0]? = some y:=⟨_,Q1 (by omega)⟩
    have hspot:=(hlq 0 y0 hy0).2.2.2.1;obtain⟨b,o,sp⟩:=ad;simp only at hspot;subst hspot;refine .imm _ b o n len m (l.map enc) (fun q=>(cel w b (o+q)).getD undef) (by simpa using hll) (fun r hr=>?_) hl (fun q hq=>?_) (fun i j r c hi hj=>?_)
    ·obtain⟨y,hy,rfl⟩:=O3.1 hr
     obtain⟨i,hi'⟩:=List.mem_iff_getElem?.1 hy;exact(hlq i y hi').2.1
    ·have hqd:q / n<len:=(Nat.div_lt_iff_lt_mul hpos).2 hq
     obtain⟨y,hy⟩ : ∃ y,l[q / n]? = some y:=⟨_,Q1 (by omega)⟩
     obtain⟨z,hz⟩:=(hlq _ y hy).2.2.1 (q % n) (Nat.mod_lt _ hpos);have hd:q / n*n+q % n=q:=by rw[Nat.mul_comm];exact Nat.div_add_mod q n
     rw[hd]at hz;exact⟨MI hz,by simp only at hz |-;rw[hz];rfl⟩
    ·rw[O2]at hi
     cases hli:l[i]? with
     | none=>rw[hli]at hi;cases hi
     | some y=>
      rw[hli]at hi;simp only[Y3,T0]at hi;subst hi;obtain⟨f,h1,h2,-⟩:=(hlq i y hli).2.2.2.2;have hjl:=(R1.1 hj).1;exact(h1 j c hj).mono (fun _ _ h=>h) (h2 j hjl)
theorem row_val {S F:ac} {x:Value} {u:Nat->Value} (h:cF w S F [.v x] u):u 0=x:=by
 obtain⟨f,h1,-⟩:=h;have:=h1 0 _ rfl;cases this
 rfl
end
open Go.RowKit Go.ChangeShapes Go.WideShapes
section
variable {H:Type} {e:TypeId × Value->H} {P:Program} {w:World}
theorem KN {t:Nat} (ht:P.underlying t=some (.int .u8)):N7 e P w t 1 rU (fun z=>0<=z/\z<=255):=by
 intro fuel cs x h;obtain⟨n,rfl,-,hw⟩:=DataW.trod_int ht h;refine⟨rfl,n,?_,rfl,yV (.v _ _ rfl)⟩;simp only[Lit.wf,I0,C0]at hw;exact hw
theorem op_ByteS:N7 e Tryz.prog w 22 1 (fun zs:List Int=>[.s .imm (zs.map rU)]) (fun zs=>zs.length<=9223372036854775807/\∀ y∈zs,0<=y/\y<=255):=Jx (KN Tryz.underlying5) Tryz.underlying22 (by kernel_rfl) (by decide)
end
end Go.Proofs.YtembpgjjnioagaaGreat.Ab
