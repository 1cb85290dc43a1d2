/- Slots, ranges and caches taken: the reference's. No condition. -/
import Derived.Test.YtembpgjjnioagaaGreatFld
import Derived.Test.YtembpgjjnioagaaGreatFlg
import Derived.Test.YtembpgjjnioagaaGreatFle
import Derived.Test.YtembpgjjnioagaaGreatFlf
set_option linter.unusedVariables false
set_option linter.unusedSimpArgs false
set_option linter.constructorNameAsVariable false
namespace Go.Proofs.YtembpgjjnioagaaGreat.Ab
open Go.RowKit
set_option maxRecDepth 20000
set_option maxHeartbeats 4000000
theorem sG{xs:List bK}(h:∀o∈xs,0<=o.Size/\o.Size<=1000):∀k:Nat,k<=xs.length->0<=sT xs k/\sT xs k<=1000*k
 | 0,_=>⟨X4 _,X4 _⟩
 | k+1,a=>by
  have b:=sG h k ω;have c:=h _ (am (xs:=xs) (i:=k) ω);simp only[sT];omega
theorem vX(h:ab)(a:∀o∈h.Objs,0<=o.Size/\o.Size<=1000)(e:h.Objs.length<=1048576):ao Tryz.prog 51 false [.val (some 24) (ab.enc .imm h)] .one [I (xv h)]:=by
 refine fO 21 [] Tryz.func51 rfl ?_
 repeat'(first|refine gO ?_|fail)
 (conv=>whnf)
 refine CE (ι:=Nat) (λk=>[(1,.hold .box (ab.enc .imm h)),(3,.hold .one [I (sT h.Objs k)]),(4,.hold .one [I ((k:Nat):Int)])]) (λk=>k<=h.Objs.length) (λk=>h.Objs.length - k) (0) ?_ (U0 _) λk c=>?_
 ·exact wB
 have g:=sG a k c;by_cases b:k<h.Objs.length
 ·have d:=ah b
  have i:=a _ (am b)
  repeat'(first|refine gD ?_|(conv=>whnf);first|refine CB (aa d) ?_)
  ((conv=>whnf);refine CD (k+1) ω ω ?_;(exact wB))
 ·obtain rfl:k=h.Objs.length:=ω
  repeat'(first|refine gD ?_|fail)
  rfl
theorem xA(k b:Int)(h:b<=9223372036854775807):ao Tryz.prog 341 false [.val none [I (slots k)],.val none [I b]] .one (aF .own (qJ k b)):=by
 have c:=pW k b;have p:0<=slots k/\slots k<=16:=by unfold slots;repeat' split<;>omega
 unfold qJ;cases e:L2 k b<;>rw[e]at c
 ·rw[C8 (by simp)]
  refine fO 27 [] Tryz.func341 rfl ?_ (.inr (bJ _))
  repeat'(first|refine gO ?_|fail)
  (conv=>whnf)
  refine CE (ι:=Nat) (λj=>[(0,.hold .one [I (slots k)]),(1,.hold .one [I (b)]),(5,.hold .one (aF .own [])),(6,.hold .one [I ((j:Nat):Int)])]) (λj=>j=0) (λj=>1 - j) (0) ?_ (rfl) λj g=>?_
  ·exact wB
  subst g
  repeat'(first|refine gD ?_|(conv=>whnf);first|with_reducible refine Bf.D (λi=>?_) (λi=>?_)|refine C7 (c) ?_)
  all_goals rfl
 ·rw[C9 rfl]
  refine fO 27 [] Tryz.func341 rfl ?_ (.inr (bJ _))
  repeat'(first|refine gO ?_|fail)
  (conv=>whnf)
  refine CE (ι:=Nat) (λj=>[(0,.hold .one [I (slots k)]),(1,.hold .one [I (b)]),(5,.hold .one (aF .own (oc b j))),(6,.hold .one [I ((j:Nat):Int)])]) (λj=>j<=(slots k).toNat) (λj=>(slots k).toNat - j) (0) ?_ (U0 _) λj g=>?_
  ·exact wB
  have l:=t8 b j;by_cases q:j<(slots k).toNat
  ·have d:=gv b (j:Nat) h
   have a:oc b (j+1)=if aU b (j:Nat)=true then oc b j else oc b j++[((j:Nat):Int)]:=rfl
   cases n:aU b (j:Nat)<;>rw[n]at d a
   ·rw[C8 (by simp)]at a
    repeat'(first|refine gD ?_|(conv=>whnf);first|refine C7 (c) ?_|refine C7 (d) ?_|refine CQ co (λr o=>by rw[I1.1 o];rfl) (by simp[aX,dH]) (by simp;omega) (by simp only[Z0];exact vq (by simp;omega) (by decide)) rfl ?_)
    ((conv=>whnf);refine CD (j+1) ω ω ?_)
    rw[a]
    repeat'(first|exact trivial|rfl|exact CJ rfl (CJ (W0 (C.s d7.own) (by simp[rI])) trivial)|refine CJ ?_ ?_|(exact zw (by first|omega|(simp only;omega)|(simp;omega))))
   ·rw[C9 rfl]at a
    repeat'(first|refine gD ?_|(conv=>whnf);first|refine C7 (c) ?_|refine C7 (d) ?_)
    ((conv=>whnf);refine CD (j+1) ω ω ?_)
    rw[a];exact wB
  ·obtain rfl:j=(slots k).toNat:=ω
   repeat'(first|refine gD ?_|fail)
   rfl
theorem JD(b i:Int):bor b (2 ^ i.toNat)=gI b i:=by
 unfold bor gI;have:((2 ^ i.toNat:Nat):Int)=(2:Int) ^ i.toNat:=Int.natCast_pow 2 i.toNat;rw[<-this,X2]
theorem yk(b i:Int)(d:0<=b/\b<=65535)(a:0<=i/\i<=15):ao Tryz.prog 344 false [.val none [I b],.val none [I i]] .one [I (gI b i)]:=by
 have c:=po b i;rw[O0 ω]at c;have e:IntKind.u64.wrap i=i:=by unfold IntKind.wrap;simp[IntKind.signed,IntKind.bits];omega
 have h:=(shl64 a).2;have g:=(or64 (z1:=b) (z2:=2 ^ i.toNat) d ω).trans (JD b i);refine fO 15 [] Tryz.func344 rfl ?_
 repeat'(first|refine gO ?_|(conv=>whnf);first|refine C7 (c) ?_|refine CM ω ?_|refine CK e ?_|refine CK (shl64 a).1 ?_|refine CK g ?_)
 rfl
theorem M8{s:ar}(b:aY s=true){k:Int}(d:0<=k/\k<slots s.Class):0<=k*csz s.Class/\k*csz s.Class<=15:=by
 have a:=aC b;have c:=gE a.2.2;rcases bO a.2.2 with e|e|e|e<;>rw[e]at c |-<;>omega
theorem y7(s:ar)(k:Int)(a:aY s=true)(d:0<=k/\k<slots s.Class):ao Tryz.prog 345 false [.val (some 3) (ar.enc .imm s),.val none [I k]] .one [I (16*s.Page+k*csz s.Class)]:=by
 have e:=aC a;have i:=M8 a d;have j:=gE e.2.2;have b:=f6 s;rw[a]at b;have g:=nj s.Class;have c:=aG k 0 (slots s.Class - 1);rw[O0 ω]at c;have h:=de s.Class;refine fO 26 [(3,8,[17,18,19,20,21,22,23,24])] Tryz.func345 rfl ?_
 repeat'(first|refine gO ?_|(conv=>whnf);first|refine C7 (b) ?_|refine C7 (g) ?_|refine C7 (c) ?_|refine C7 (h) ?_|refine CA ?_)
 exact W0 (λz=>[I z]) ω
theorem Bh(f:aV)(g:f.Used.length<=1048576):ao Tryz.prog 346 false [.val (some 2) (aV.enc .imm f)] .one [I (dP (λu=>!u) f.Used)]:=by
 refine fO 18 [] Tryz.func346 rfl ?_
 repeat'(first|refine gO ?_|fail)
 (conv=>whnf)
 refine CE (ι:=Nat) (λi=>[(1,.hold .box (aV.enc .imm f)),(3,.hold .one [I ((i:Nat):Int)])]) (λi=>i<=f.Used.length/\∀(j:Nat)(z:Bool),j<i->f.Used[j]? = some z->(!z)=false) (λi=>f.Used.length - i) (0) ?_ (⟨U0 _,λj z h=>ω⟩) λi c=>?_
 ·exact wB
 obtain⟨c,b⟩:=c;by_cases d:i<f.Used.length
 ·have a:=ah d
  cases e:nth f.Used i<;>rw[e]at a
  ·repeat'(first|refine gD ?_|(conv=>whnf);first|with_reducible refine CB (aa a) ?_)
   exact W0 (λz=>[I z]) (eI a rfl b).symm
  ·repeat'(first|refine gD ?_|(conv=>whnf);first|with_reducible refine CB (aa a) ?_)
   ((conv=>whnf);refine CD (i+1) ⟨ω,dC a rfl b⟩ ω ?_;(exact wB))
 ·repeat'(first|refine gD ?_|fail)
  exact W0 (λz=>[I z]) (gk ω b).symm
theorem mF(m:aI):∀(n i:Nat),i<n->((nth m.Buffers i).length:Int)+(nth m.Inbox i).length<=br m n/\0<=br m n
 | 0,i,h=>absurd h (Nat.not_lt_zero i)
 | n+1,i,h=>by
  have a:0<=br m n:=by
   cases n with
   | zero=>exact X4 _
   | succ k=>exact(mF m (k+1) 0 ω).2
  simp only[br];by_cases e:i=n
  ·subst e;omega
  ·have:=(mF m n i ω).1;omega
structure lf(m:aI):Prop where
 b4:1<=m.Buffers.length/\m.Buffers.length<=4
 i4:m.Inbox.length=m.Buffers.length
 bl:∀i,i<m.Buffers.length->(nth m.Buffers i).length<=30
 il:∀i,i<m.Buffers.length->(nth m.Inbox i).length<=30
theorem lf.of{m:aI}(h:bI m=true):lf m:=by
 obtain⟨⟨b,c,d⟩,-,e⟩:=dE.1 h;exact⟨⟨b,c⟩,d,λi a=>by have:=(mF m m.Buffers.length i a).1;omega,λi a=>by have:=(mF m m.Buffers.length i a).1;omega⟩
theorem lf.sml{m:aI}(h:lf m):aI.sml m:=by
 have c:=h.b4;have d:=h.i4;refine⟨⟨ω,λl a=>?_⟩,⟨ω,λl a=>?_⟩⟩
 ·obtain⟨i,b,rfl⟩:=aW a
  have:=h.bl i b;exact⟨ω,λ_ _=>trivial⟩
 ·obtain⟨i,b,rfl⟩:=aW a
  have:=h.il i ω;show(nth m.Inbox i).length<=1048576;omega
theorem rH(m:aI)(k:Int)(a:aI.sml m):ao Tryz.prog 388 false [.val (some 2) (aI.enc .imm m),.val none [I k]] .one [B (bI m&&decide (0<=k/\k<=m.Buffers.length - 1))]:=by
 have b:=lb m a;have c:m.Buffers.length<=1048576:=a.1.1;cases e:bI m<;>rw[e]at b
 all_goals
  refine fO 15 [] Tryz.func388 rfl ?_
  repeat'(first|refine gO ?_|(conv=>whnf);first|refine CA ?_|refine C7 (b) ?_|refine C7 (aG k 0 (m.Buffers.length - 1:Int)) ?_)
  all_goals rfl
theorem Q2{m:aI}{f:Nat}(a:f<m.Buffers.length):m.Buffers[f]? = some (nth m.Buffers f):=ah a
theorem J7(m:aI)(f:Nat)(p:di):aI.enc .own (gT m f p)=[.s .own ((m.Buffers.map (cz .own)).set f (cz .own (nth m.Buffers f++[p]))),.s .own (m.Inbox.map (aF .own))]:=by simp[aI.enc,gT,W5]
theorem Ja{m:aI}(h:lf m){f:Nat}(c:f<m.Buffers.length)(p:di):aI.sml (gT m f p):=by
 have d:=h.b4;have b:=h.sml;refine⟨⟨by simp only[gT,O1];omega,λl a=>?_⟩,b.2⟩;rcases Z5 a with a|rfl
 ·exact b.1.2 l a
 ·have:=h.bl f c
  exact⟨by simp;omega,λ_ _=>trivial⟩
theorem JU(m:aI)(f:Nat)(p:di)(j:bI m=true)(g:f<m.Buffers.length):ao Tryz.prog 381 false [.val (some 2) (aI.enc .imm m),.val none [I (f:Nat)],.val (some 2) (di.enc .imm p)] (.tup [some 2,none]) (aI.enc .own (if bI (gT m f p)=true then gT m f p else m)++[B (bI (gT m f p))]):=by
 have c:=lf.of j;have k:=c.sml;have q:=c.b4;have h:=rH m f k;rw[j,O0 ω]at h;have l:=f7 m k;have b:=Ja c g p;have i:=lb (gT m f p) b;have n:=f7 (gT m f p) b;have a:=Q2 g;have o:=c.bl f g;have d:=aI.enc_fz (gT m f p);rw[J7]at d;cases e:bI (gT m f p)<;>rw[e]at i
 ·rw[C8 (by simp)]
  refine fO 35 [(4,267,[16,17,18,19,20,21,22,23,24,25,27,0,1,2,3,4,5,6,7,8,9,10,1000,1001,1002,11,12])] Tryz.func381 rfl ?_ (.inr (aS (aI.enc_fr _) ⟨trivial,trivial⟩))
  repeat'(first|refine gO ?_|(conv=>whnf);first|with_reducible refine CB (aa a) ?_|refine CA ?_|refine CB (gj a) ?_|refine CH rfl (gj a) rfl ?_|refine C7 (h) ?_|refine C7 (l) ?_|refine Lq.one rfl rfl (aa a) rfl (C1 rfl) rfl rfl ?_|refine CH rfl (aa a) rfl ?_|refine CN rfl rfl (gj a) rfl (C1 rfl) (show [C.s d7.own ((m.Buffers.map (cz .own)).set f (cz .own (nth m.Buffers f++[p]))),C.s .own (m.Inbox.map (aF .own))]=_ from by simp only[List.set_cons_zero,List.set_set,X2];rfl) ?_|refine Ap.sm (aM λ_=>rfl) rfl (by simp;omega) (by decide) (iK _ _ _) ?_|refine CG (i) ⟨⟨rfl,d⟩,trivial⟩ ?_)
  rfl
 ·rw[C9 rfl]
  refine fO 35 [(4,267,[16,17,18,19,20,21,22,23,24,25,27,0,1,2,3,4,5,6,7,8,9,10,1000,1001,1002,11,12])] Tryz.func381 rfl ?_ (.inr (aS (aI.enc_fr _) ⟨trivial,trivial⟩))
  repeat'(first|refine gO ?_|(conv=>whnf);first|with_reducible refine CB (aa a) ?_|refine CA ?_|refine CB (gj a) ?_|refine CH rfl (gj a) rfl ?_|refine C7 (h) ?_|refine C7 (l) ?_|refine Lq.one rfl rfl (aa a) rfl (C1 rfl) rfl rfl ?_|refine CH rfl (aa a) rfl ?_|refine CN rfl rfl (gj a) rfl (C1 rfl) (show [C.s d7.own ((m.Buffers.map (cz .own)).set f (cz .own (nth m.Buffers f++[p]))),C.s .own (m.Inbox.map (aF .own))]=_ from by simp only[List.set_cons_zero,List.set_set,X2];rfl) ?_|refine Ap.sm (aM λ_=>rfl) rfl (by simp;omega) (by decide) (iK _ _ _) ?_|refine CG (i) ⟨⟨rfl,d⟩,trivial⟩ ?_|refine CG (n) ⟨⟨rfl,d⟩,trivial⟩ ?_)
  rfl
theorem FN(m:aI)(f:Int)(a:bI m=true)(d:¬(0<=f/\f<=m.Buffers.length - 1)):ao Tryz.prog 360 false [.val (some 2) (aI.enc .imm m),.val none [I f]] (.tup [some 2,none]) (aI.enc .own m++[B false]):=by
 have e:=lf.of a;have b:=e.sml;have c:=rH m f b;rw[a,T0 d]at c;have g:=f7 m b;refine fO 60 [(5,267,[31,32,33,34,35,36,37,38,39,40,42,0,1,2,3,4,5,6,7,8,9,10,1000,1001,1002,11,12]),(6,270,[43,44,45,46,47,48,49,50,51,52,53,54,55,57,0,1,2,3,4,5,6,7,8,9,10,11,12,13,1000,1001,1002,1003,14,15])] Tryz.func360 rfl ?_ (.inr (aS (aI.enc_fr _) ⟨trivial,trivial⟩))
 repeat'(first|refine gO ?_|(conv=>whnf);first|refine CA ?_|refine C7 (c) ?_|refine C7 (g) ?_)
 rfl
theorem F4(m:aI)(f t:Nat)(a:(nth (nth m.Buffers f) 0).To=t):aI.enc .own (fR m f)=[.s .own ((m.Buffers.map (cz .own)).set f [.s .own (((nth m.Buffers f).drop 1).map (di.enc .imm))]),.s .own ((m.Inbox.map (aF .own)).set t (aF .own (nth m.Inbox t++[(nth (nth m.Buffers f) 0).Addr])))]:=by
 unfold aI.enc fR;simp only[W5,a,X2]
 rfl
theorem Dz(m:aI)(f:Nat)(h:bI m=true)(i:f<m.Buffers.length):ao Tryz.prog 360 false [.val (some 2) (aI.enc .imm m),.val none [I (f:Nat)]] (.tup [some 2,none]) (aI.enc .own (if 0<(nth m.Buffers f).length then fR m f else m)++[B (decide (0<(nth m.Buffers f).length))]):=by
 have d:=lf.of h;have u:=d.sml;have K:=d.b4;have D:=d.i4;have j:=rH m f u;rw[h,O0 ω]at j;have w:=f7 m u;have a:=Q2 i;have F:=d.bl f i;by_cases e:0<(nth m.Buffers f).length
 ·rw[C9 e,O0 e]
  have g:=((dE.1 h).2.1 f i).1 _ (am e);obtain⟨t,k⟩:=Z2 g.1;have l:t<m.Inbox.length:=ω
  have y:=ah e;have c:=ah l;have G:=d.il t ω;have n:=(lf.of (Du h i e)).sml;have H:=f7 (fR m f) n;have o:=aI.enc_fz (fR m f);rw[F4 m f t k]at o;have q:=aS (b:=[B true]) (aI.enc_fr (fR m f)) ⟨trivial,trivial⟩;generalize L:nth (nth m.Buffers f) 0=p at *;obtain⟨M,J⟩:=p;simp only at k g o;subst k;refine fO 60 [(5,267,[31,32,33,34,35,36,37,38,39,40,42,0,1,2,3,4,5,6,7,8,9,10,1000,1001,1002,11,12]),(6,270,[43,44,45,46,47,48,49,50,51,52,53,54,55,57,0,1,2,3,4,5,6,7,8,9,10,11,12,13,1000,1001,1002,1003,14,15])] Tryz.func360 rfl ?_ (.inr q)
  repeat'(first|refine gA ?_|(conv=>whnf);first|with_reducible (first|refine CB (aa a) ?_|refine CB (aa c) ?_|refine Bf.E (λr=>?_) (λr=>?_))|refine CA ?_|refine CL (by decide) (aa y) ?_|refine CB (gj a) ?_|refine CB (gj c) ?_|refine CH rfl (gj a) rfl ?_|refine CH rfl (gj c) rfl ?_|refine C7 (j) ?_|refine C7 (w) ?_|refine CH rfl (aa a) rfl ?_|refine CH rfl (aa c) rfl ?_|refine CH rfl (aa y) rfl ?_|refine Lq.one rfl rfl (aa c) rfl (C1 rfl) rfl rfl ?_|refine CW 1 rfl (by rw[Z0];omega) (aM λ_=>rfl) v4 ?_|refine CU (λ_=>rfl) (λ_=>rfl) (by rw[O3];omega) (by decide) ?_|refine CO (λ_=>rfl) (λ_=>rfl) (by rw[O3];omega) (by decide) ?_|refine CN rfl rfl (aa a) rfl (C1 rfl) rfl ?_|refine CN rfl rfl (gj c) rfl (C1 rfl) (show [C.s d7.own ((m.Buffers.map (cz .own)).set f [.s .own (((nth m.Buffers f).drop 1).map (di.enc .imm))]),C.s .own ((m.Inbox.map (aF .own)).set t (aF .own (nth m.Inbox t++[J])))]=_ from by simp only[List.set_cons_zero,List.set_cons_succ,List.set_set,X2];rfl) ?_|refine Ap.sm (aM λ_=>rfl) rfl (by simp;omega) (by decide) (iK _ _ _) ?_|refine CA ?_|refine CG (H) ⟨⟨rfl,o⟩,trivial⟩ ?_)
  rfl
 ·rw[C8 e,T0 e]
  refine fO 60 [(5,267,[31,32,33,34,35,36,37,38,39,40,42,0,1,2,3,4,5,6,7,8,9,10,1000,1001,1002,11,12]),(6,270,[43,44,45,46,47,48,49,50,51,52,53,54,55,57,0,1,2,3,4,5,6,7,8,9,10,11,12,13,1000,1001,1002,1003,14,15])] Tryz.func360 rfl ?_ (.inr (aS (aI.enc_fr _) ⟨trivial,trivial⟩))
  repeat'(first|refine gA ?_|(conv=>whnf);first|with_reducible (first|refine CB (aa a) ?_|refine Bf.E (λr=>?_) (λr=>?_))|refine CA ?_|refine C7 (j) ?_|refine C7 (w) ?_|refine CH rfl (aa a) rfl ?_)
  rfl
theorem Kk.set(rows:List (List C))(i:Nat){r n:List C}(h:L0 r n):Kk (.s .own (rows.set i r)) (.s .own (rows.set i n)):=by
 refine .own_ _ _ (by simp) (λj a b d f=>?_) (λj l a b c p d f o g=>?_)
 ·by_cases e:i=j
  ·subst e
   have k:i<rows.length:=by have:=(O2.1 d).1;simpa using this
   rw[U3 k]at d f;cases d;cases f;exact h.1
  ·rw[List.getElem?_set_ne e]at d f
   rw[d]at f;cases f;rfl
 ·by_cases e:i=j
  ·subst e
   have k:i<rows.length:=by have:=(O2.1 d).1;simpa using this
   rw[U3 k]at d f;cases d;cases f;exact h.2 l c p o g
  ·rw[List.getElem?_set_ne e]at d f
   rw[d]at f;cases f;rw[o]at g;cases g;exact .rfl_ _
theorem AX(m:aI)(t:Nat)(d:bI m=true)(h:t<m.Buffers.length):ao Tryz.prog 389 false [.val (some 2) (aI.enc .imm m),.val none [I (t:Nat)]] (.tup [some 2,none]) (aI.enc .own (kZ m t)++aF .own (nth m.Inbox t)):=by
 have b:=lf.of d;have e:=b.sml;have o:=b.b4;have j:=b.i4;have g:=rH m t e;rw[d,O0 ω]at g;have k:=f7 m e;have c:=ah (xs:=m.Inbox) (i:=t) ω;have l:=b.il t h;have a:=aS (aI.enc_fr (kZ m t)) (bJ (nth m.Inbox t));have n:aI.enc .own (kZ m t)=[.s .own (m.Buffers.map (cz .own)),.s .own ((m.Inbox.map (aF .own)).set t [.s .own []])]:=by simp[aI.enc,kZ,W5];rfl
 rw[n]at a |-;refine fO 28 [(5,263,[20,21,22,23,24,25,26,0,1,2,3,4,5,6,7,1000,8,9])] Tryz.func389 rfl ?_ (.inr a)
 repeat'((conv=>whnf);first|with_reducible (first|refine Lm ?_|refine Wm ω ?_|refine CB (aa c) ?_|refine Bn ?_|refine j9.dk rfl ?_)|refine Bt ?_|refine Bu ?_|refine CA ?_|refine C7 (g) ?_|refine C7 (k) ?_|refine CH rfl (aa c) rfl ?_|refine CN rfl rfl (aa c) rfl (C1 rfl) rfl ?_|refine CU (λ_=>rfl) (λ_=>rfl) ω (by decide) ?_|refine CO (λ_=>rfl) (λ_=>rfl) ω (by decide) ?_|refine CA ?_)
 exact .cons (.rfl_ _) (.cons (Kk.set _ _ (.cons .z_ .nil)) (.cons (.rfl_ _) .nil))
theorem Bc(now:Int):∀{l:List aK}{i:Nat},i<=l.length->(∀j,j<i->(nth l j).Since<now - 100)->(i<l.length->¬(nth l i).Since<now - 100)->kI now l=i
 | [],i,h,_,_=>by simp at h;subst h;rfl
 | x::xs,0,_,_,h=>by
  unfold kI;exact C8 (h (by simp))
 | x::xs,i+1,b,a,c=>by
  unfold kI;refine(C9 (a 0 ω)).trans ?_;rw[Bc now (l:=xs) (i:=i) (by simp at b;omega) (λj d=>a (j+1) ω) (λe=>c (by simp;omega))]
def BW(q:bu)(now:Int):List C:=bu.enc .own ⟨q.Room,q.Lst.drop (kI now q.Lst)⟩++cq .own (q.Lst.take (kI now q.Lst))
theorem uI(q:bu)(now:Int)(g:eQ q=true)(G:q.Lst.length<=4096)(u:0<=now/\now<=1000000):ao Tryz.prog 363 false [.val (some 2) (bu.enc .imm q),.val none [I now],.val none [I 100]] (.tup [some 2,none]) (BW q now):=by
 have w:bu.sml q:=⟨ω,λ_ _=>trivial⟩
 have n:=od q w;rw[g]at n;have o:=aG now 0 1000000;rw[O0 u]at o;have p:=aG 100 0 1000000;rw[O0 (by decide)]at p;have h:=(iA.1 g).1;have a:gH (BW q now):=aS (bu.enc_fr _) (lh _);have y:∀i,i<q.Lst.length->0<=(nth q.Lst i).Since:=λi b=>(h _ (am b)).2.2.2
 unfold BW at a |-;generalize B:kI now q.Lst=k at a |-;refine fO 59 [(6,270,[44,45,46,47,48,49,50,51,53,54,55,56,57,58,0,1,2,3,4,5,6,7,9,10,11,12,13,14,8,1009,1010,1011,1012,1013,1014,15,16])] Tryz.func363 rfl ?_ (.inr a)
 repeat'(first|refine gO ?_|(conv=>whnf);first|refine CA ?_|refine C7 (n) ?_|refine C7 (o) ?_|refine C7 (p) ?_)
 (conv=>whnf)
 refine CE (ι:=Nat) (λi=>[(1,.hold .one [I (now)]),(2,.hold .one [I (100)]),(3,.hold .box (bu.enc .imm q)),(6,.hold .box [I 0,.z]),(8,.hold .one [I ((i:Nat):Int)])]) (λi=>i<=q.Lst.length/\∀j,j<i->(nth q.Lst j).Since<now - 100) (λi=>q.Lst.length - i) (0) ?_ (⟨U0 _,λj C=>ω⟩) λi b=>?_
 ·exact wC
 obtain⟨b,r⟩:=b;by_cases l:i<q.Lst.length/\(nth q.Lst i).Since<now - 100
 ·have c:=ah l.1
  repeat'(first|refine gD ?_|(conv=>whnf);first|with_reducible refine CB (aa c) ?_|refine CA ?_|refine CH rfl (aa c) rfl ?_)
  ((conv=>whnf);refine CD (i+1) ⟨ω,λj C=>by by_cases e:j=i;(subst e;exact l.2);exact r j ω⟩ ω ?_;(exact wC))
 ·have d:=Bc now (i:=i) b r (λE F=>l ⟨E,F⟩)
  rw[B]at d;subst d;by_cases t:k<q.Lst.length
  ·have c:=ah t
   have:=y k t
   repeat'(first|refine gD ?_|(conv=>whnf);first|with_reducible (first|refine CB (aa c) ?_|refine Bf.D (λg=>?_) (λg=>?_))|refine CA ?_|refine CH rfl (aa c) rfl ?_|refine CT k rfl (by rw[Z0];omega) (aM λ_=>rfl) t4 ?_|refine CW k rfl (by rw[Z0];omega) (aM λ_=>rfl) v4 ?_|refine CU (λ_=>rfl) (λ_=>rfl) (by rw[U1];omega) (by decide) ?_|refine CU (λ_=>rfl) (λ_=>rfl) (by rw[O3];omega) (by decide) ?_|refine CO (λ_=>rfl) (λ_=>rfl) (by rw[O3];omega) (by decide) ?_|refine CA ?_)
   rfl
  ·repeat'(first|refine gD ?_|(conv=>whnf);first|refine CA ?_|refine CT k rfl (by rw[Z0];omega) (aM λ_=>rfl) t4 ?_|refine CW k rfl (by rw[Z0];omega) (aM λ_=>rfl) v4 ?_|refine CU (λ_=>rfl) (λ_=>rfl) (by rw[U1];omega) (by decide) ?_|refine CU (λ_=>rfl) (λ_=>rfl) (by rw[O3];omega) (by decide) ?_|refine CO (λ_=>rfl) (λ_=>rfl) (by rw[O3];omega) (by decide) ?_|refine CA ?_)
   rfl
theorem Bo(h:ab)(n:Int)(g:bm h [])(r:0<=n/\n<=1000)(p:h.Clock+n<=1000000):aO Tryz.prog 306 false [.ptr (bz h),.val none [I n]] [.ptr (bz (tick h n)),.val none [I n]] .one [I ((jf h n).length:Nat)]:=by
 have a:=g.nums;unfold bX at a;rw[C0]at a;have t:=g.lens.quar;have i:=uI h.Quar (h.Clock+n) g.quar ω ⟨ω,p⟩;have j:=g.aged r.1 p;unfold BW at i;unfold tick jf aged at *;have l:(h.Quar.Lst.take (kI (h.Clock+n) h.Quar.Lst)).length<=4096:=by rw[U1];omega
 rw[Z0];generalize h.Quar.Lst.take (kI (h.Clock+n) h.Quar.Lst)=out at i j l |-;generalize h.Quar.Lst.drop (kI (h.Clock+n) h.Quar.Lst)=rest at i j |-;refine fM 48 [(364,[2,0])] [(2,269,[18,19,20,21,22,23,24,25,26,17,27,28,5,0,1,2,3,4,5,6,7,8,9,10,11,12,13,1011,14])] [(0,0),(0,0)] Tryz.func306 rfl (λu q=>?_)
 repeat'(first|refine gO ?_|(conv=>whnf);first|refine CA ?_|refine CG (i) ⟨⟨rfl,bu.enc_fz h.Quar⟩,⟨rfl,rfl⟩,⟨rfl,rfl⟩,trivial⟩ ?_|refine CA ?_)
 (conv=>whnf)
 refine CE (ι:=Nat) (λk=>[(0,.hold .box (bz (freeAs {h with Clock:=h.Clock+n,Quar:=⟨h.Quar.Room,rest⟩} ((out.map (·.Addr)).take k)))),(6,.hold .one (cq .own out)),(7,.hold .one [I ((k:Nat):Int)])]) (λk=>k<=out.length) (λk=>out.length - k) (0) ?_ (U0 _) λk y=>?_
 ·exact wC
 by_cases o:k<out.length
 ·have b:=ah o
  have c:k<(out.map (·.Addr)).length:=by rw[Z0];exact o
  have d:nth (out.map (·.Addr)) k=(nth out k).Addr:=bq (by rw[C3,ah o];rfl);have e:bm (freeAs {h with Clock:=h.Clock+n,Quar:=⟨h.Quar.Room,rest⟩} ((out.map (·.Addr)).take k)) (nth (out.map (·.Addr)) k::(out.map (·.Addr)).drop (k+1)):=by
   refine bm.freeAs ?_;rw[<-gQ c,List.take_append_drop];rw[List.append_nil]at j;exact j
  rw[d]at e;have w:=m7 _ _ _ e
  repeat'(first|refine gD ?_|(conv=>whnf);first|refine CA ?_|refine CB (aa b) ?_|refine CH rfl (aa b) rfl ?_|refine CI (w) (.inl rfl) ?_)
  ((conv=>whnf);refine CD (k+1) ω ω ?_)
  rw[nS _ _ _ c,d];exact wC
 ·obtain rfl:k=out.length:=ω
  rw[V6 (by rw[Z0];omega)]
  repeat'(first|refine gD ?_|(conv=>whnf);first|refine CA ?_)
  refine CF rfl rfl ?_;exact wC
theorem Dx(t:Nat)(h:ab)(az:List Int)(k:Nat)(a:k<az.length):recycs t h (az.take (k+1))=recyc t (recycs t h (az.take k)) (nth az k):=by
 unfold recycs;rw[C5,ah a,Option.toList_some,List.foldl_append];rfl
theorem uY(h:ab)(t:Nat)(a:bm h [])(i:t<h.Caches.length):aO Tryz.prog 361 false [.ptr (bz h),.val none [I (t:Nat)]] [.ptr (bz (collect h t)),.val none [I (t:Nat)]] .one [I ((nth h.Mail.Inbox t).length:Nat)]:=by
 have l:=a.nc;have n:=(dE.1 a.mail).1.2.2;have j:=AX h.Mail t a.mail ω;have c:=(lf.of a.mail).il t ω;have d:=a.coll (t:=t) ω;rw[List.append_nil]at d;unfold collect;generalize nth h.Mail.Inbox t=out at j d c |-;refine fM 36 [(384,[2,0,0])] [] [(0,0),(0,0)] Tryz.func361 rfl (λu q=>?_)
 repeat'(first|refine gO ?_|(conv=>whnf);first|refine CA ?_|refine CG (j) ⟨⟨rfl,aI.enc_fz h.Mail⟩,⟨rfl,rfl⟩,trivial⟩ ?_)
 (conv=>whnf)
 refine CE (ι:=Nat) (λk=>[(0,.hold .box (bz (recycs t {h with Mail:=kZ h.Mail t} (out.take k)))),(1,.hold .one [I ((t:Nat):Int)]),(6,.hold .one (aF .own out)),(7,.hold .one [I ((k:Nat):Int)])]) (λk=>k<=out.length) (λk=>out.length - k) (0) ?_ (U0 _) λk p=>?_
 ·exact wC
 by_cases e:k<out.length
 ·have b:=ah e
  have g:bm (recycs t {h with Mail:=kZ h.Mail t} (out.take k)) (nth out k::out.drop (k+1)):=by
   refine bm.recycs ?_ i;rw[<-gQ e,List.take_append_drop];exact d
  have o:=nz _ _ t _ g (by rw[(eP t _ _).1];exact i)
  repeat'(first|refine gD ?_|(conv=>whnf);first|refine CA ?_|refine CB (aa b) ?_|refine CH rfl (aa b) rfl ?_|refine CI (o) (.inl rfl) ?_)
  ((conv=>whnf);refine CD (k+1) ω ω ?_)
  rw[Dx _ _ _ _ e];exact wC
 ·obtain rfl:k=out.length:=ω
  rw[Z4]
  repeat'(first|refine gD ?_|(conv=>whnf);first|refine CA ?_)
  refine CF rfl rfl ?_;exact wC
def M6(a:Int)(o:bK):Bool:=decide (o.Addr<=a/\a<o.Addr+o.Size)
theorem FH(h:ab)(E:List Int)(a:Int)(d:bm h E):aO Tryz.prog 126 false [.ptr (bz h),.val none [I a]] [.ptr (bz h),.val none [I a]] .one [I (dP (M6 a) h.Objs)]:=by
 have r:=d.lens.objs;refine fM 47 [] [(4,29,[15,16,17,18,19,20,21,22,23,24,25,26,27,28,29,30,31,32,33,34,35,36,37,38,39,40,41,42,43])] [(0,0),(0,0)] Tryz.func126 rfl (λu q=>?_)
 repeat'(first|refine gO ?_|(conv=>whnf);first|refine CA ?_)
 (conv=>whnf)
 refine CE (ι:=Nat) (λi=>[(0,.hold .box (bz h)),(1,.hold .one [I (a)]),(5,.hold .one [I ((i:Nat):Int)])]) (λi=>i<=h.Objs.length/\∀(j:Nat)(z:bK),j<i->h.Objs[j]? = some z->M6 a z=false) (λi=>h.Objs.length - i) (0) ?_ (⟨U0 _,λj z C=>ω⟩) λi d=>?_
 ·exact wC
 obtain⟨t,c⟩:=d;by_cases e:i<h.Objs.length
 ·have b:=ah e
  have w:=sD ‹bm h E› (am e);have y:0<=(nth h.Objs i).Size/\(nth h.Objs i).Size<=1000:=by
   rcases bm.oow ‹bm h E› _ (am e) with⟨s,B,F,G⟩|⟨l,g,k,o⟩
   ·have H:=aC ((bm.L ‹bm h E›).sok s B)
    have:=mZ (n:=(nth h.Objs i).Size) ω;omega
   ·have J:=bS ((bm.L ‹bm h E›).lok l g)
    omega
  by_cases k:(nth h.Objs i).Addr<=a
  ·by_cases o:a<(nth h.Objs i).Addr+(nth h.Objs i).Size
   ·repeat'(first|refine gD ?_|(conv=>whnf);first|with_reducible refine CB (aa b) ?_|refine CA ?_|refine CH rfl (aa b) rfl ?_|refine CA ?_)
    refine CF rfl (W0 (λz=>[I z]) (eI b (O0 ⟨k,o⟩) c).symm) ?_;exact wC
   ·repeat'(first|refine gD ?_|(conv=>whnf);first|with_reducible (first|refine CB (aa b) ?_|refine Bf.D (λp=>?_) (λp=>?_))|refine CA ?_|refine CH rfl (aa b) rfl ?_|refine CA ?_)
    ((conv=>whnf);refine CD (i+1) ⟨ω,dC b (T0 λx=>o x.2) c⟩ ω ?_;(exact wC))
  ·repeat'(first|refine gD ?_|(conv=>whnf);first|with_reducible (first|refine CB (aa b) ?_|refine Bf.D (λp=>?_) (λp=>?_))|refine CA ?_|refine CH rfl (aa b) rfl ?_|refine CA ?_)
   ((conv=>whnf);refine CD (i+1) ⟨ω,dC b (T0 λx=>k x.1) c⟩ ω ?_;(exact wC))
 ·repeat'(first|refine gD ?_|(conv=>whnf);first|refine CA ?_)
  refine CF rfl (W0 (λz=>[I z]) (gk ω c).symm) ?_;exact wC
theorem Hp(h:ab)(a v:Int):bz {h with Kernel:=ly h.Kernel a v} = (bz h).set 0 (.s .own ((h.Kernel.Machine.Frames.Cells.map (aF .own)).set (au h.Kernel.Machine.Table (a / 16)).Frame.toNat ((aF .own (nth h.Kernel.Machine.Frames.Cells (gi h.Kernel a))).set 0 (.s .own (((nth h.Kernel.Machine.Frames.Cells (gi h.Kernel a)).map (rI .own)).set (a % 16).toNat (splice (rI .own (nth (nth h.Kernel.Machine.Frames.Cells (gi h.Kernel a)) (a % 16).toNat)) 0 [I v])))))):=by
 simp[bz,ly,setCell,W5,aF,splice,gi,rI]
theorem Ee{α:Type}{p:α->Bool}{xs:List α}{x:α}(a:x∈xs)(b:p x=true):0<=dP p xs:=by
 have:=lX p xs;rw[show xs.any p=true from X3.2 ⟨x,a,b⟩,C0]at this;exact this
theorem yI(h:ab)(i:Nat)(j v:Int)(e:bm h [])(C:i<h.Objs.length)(D:0<=j/\j<=(nth h.Objs i).Size - 1):aO Tryz.prog 356 false [.ptr (bz h),.val none [I ((nth h.Objs i).Addr+j)],.val none [I v]]
  [.ptr (bz (if(au h.Kernel.Machine.Table (((nth h.Objs i).Addr+j) / 16)).Mode=1\/¬(0<=v/\v<=999) then h else {h with Kernel:=ly h.Kernel ((nth h.Objs i).Addr+j) v})),.val none [I ((nth h.Objs i).Addr+j)],.val none [I v]] .one [I (if(au h.Kernel.Machine.Table (((nth h.Objs i).Addr+j) / 16)).Mode=1 then 2 else if ¬(0<=v/\v<=999) then 3 else 0)]:=by
 obtain⟨E,J,K⟩:=mG e (am C) D;have F:0<=dP (M6 ((nth h.Objs i).Addr+j)) h.Objs:=Ee (am C) (O0 ω);have p:=FH h [] ((nth h.Objs i).Addr+j) e;have r:=bA e.ker;have t:=cY h.Kernel.Machine.Table (((nth h.Objs i).Addr+j) / 16) r.1.2;have n:=aG v 0 999;generalize L:(nth h.Objs i).Addr+j=a at *;have b:0<=a/\a<512:=ω
 obtain⟨-,-,-,G,M⟩:=cu e.ker E;have H:=(bc.1 (aD.1 e.ker).2.1).2.2.1;have k:gi h.Kernel a<h.Kernel.Machine.Frames.Cells.length:=by unfold gi;omega
 have d:h.Kernel.Machine.Frames.Cells[(au h.Kernel.Machine.Table (a / 16)).Frame.toNat]? = some (nth h.Kernel.Machine.Frames.Cells (gi h.Kernel a)):=ah k;have w:=e.lens.row _ (am k);have l:=ah (xs:=nth h.Kernel.Machine.Frames.Cells (gi h.Kernel a)) (i:=(a % 16).toNat) (by rw[w];omega);have B:a.tmod 16=a % 16:=gm b.1;refine fM 42 [(126,[2,0])] [(8,14,[27,28,29,30,31,32,33,34,35,36,37,38,39,40])] [(0,0),(0,0),(0,0)] Tryz.func356 rfl (λu q=>?_);by_cases o:(au h.Kernel.Machine.Table (a / 16)).Mode=1
 ·rw[C9 (Or.inl o),C9 o]
  repeat'(first|refine gA ?_|(conv=>whnf);first|refine CA ?_|refine CI (p) (.inl rfl) ?_|refine CG (t) ⟨⟨rfl,CY _⟩,⟨rfl,rfl⟩,trivial⟩ ?_|refine CM (by decide) ?_|refine CK (qe b) ?_)
  refine CF rfl rfl ?_;exact wC
 rw[C8 (c:=_=(1:Int)) o];by_cases g:0<=v/\v<=999
 ·rw[O0 g]at n
  rw[C8 (c:=¬(0<=v/\v<=999)) (Z3 g),C8 (c:=_\/¬(0<=v/\v<=999)) (λy=>y.elim o λy=>y g)]
  repeat'(first|refine gA ?_|(conv=>whnf);first|refine CA ?_|refine CI (p) (.inl rfl) ?_|refine CG (t) ⟨⟨rfl,CY _⟩,⟨rfl,rfl⟩,trivial⟩ ?_|refine C7 (n) ?_|refine CM (by decide) ?_|refine CK (qe b) ?_|refine CS B ?_|refine CL G (aa d) ?_|refine CH rfl (aa d) rfl ?_|refine CL ω (aa l) ?_|refine Pu.two rfl rfl (aa d) rfl rfl rfl (aa l) rfl (z3 _) (Hp h a v) ?_|refine CA ?_)
  refine CF rfl rfl ?_;exact wC
 ·rw[T0 g]at n
  rw[C9 (Or.inr g),C9 g]
  repeat'(first|refine gA ?_|(conv=>whnf);first|refine CA ?_|refine CI (p) (.inl rfl) ?_|refine CG (t) ⟨⟨rfl,CY _⟩,⟨rfl,rfl⟩,trivial⟩ ?_|refine C7 (n) ?_|refine CM (by decide) ?_|refine CK (qe b) ?_)
  refine CF rfl rfl ?_;exact wC
def xk(l:a7)(n:Int):ax:=if(n+15) / 16<l.Pages then⟨l.Page+(n+15) / 16,l.Pages - (n+15) / 16⟩ else⟨0,0⟩
theorem vK(l:a7)(n:Int)(d:bQ l=true):ao Tryz.prog 386 false [.val (some 3) (a7.enc .imm l),.val none [I n]] (.tup [some 3,some 2,none]) (if 9<=n/\n<=l.Size then a7.enc .own (trimL l n)++ax.enc .own (xk l n)++[B true] else a7.enc .own l++[I 0,I 0]++[B false]):=by
 have b:=nq l;rw[d]at b;have a:=aG n 9 l.Size;have g:=d;unfold bQ at g;rw[C0]at g;by_cases e:9<=n/\n<=l.Size
 ·rw[O0 e]at a
  rw[C9 e];have c:=lz n;rw[show fe n=(n+15) / 16 by unfold fe;rw[C9 ω]]at c;unfold xk;by_cases h:(n+15) / 16<l.Pages
  ·rw[C9 h]
   refine fO 43 [(7,261,[37,38,39,40,42,0,1,2,3,5,4,1005,6,1005,7,8])] Tryz.func386 rfl ?_ (.inr ⟨trivial,trivial,trivial,trivial,trivial,trivial,trivial⟩)
   repeat'(first|refine gD ?_|(conv=>whnf);first|refine CA ?_|refine C7 (b) ?_|refine C7 (a) ?_|refine C7 (c) ?_|refine CA ?_)
   rfl
  ·rw[C8 h]
   refine fO 43 [(7,261,[37,38,39,40,42,0,1,2,3,5,4,1005,6,1005,7,8])] Tryz.func386 rfl ?_ (.inr ⟨trivial,trivial,trivial,trivial,trivial,trivial,trivial⟩)
   repeat'(first|refine gD ?_|(conv=>whnf);first|refine CA ?_|refine C7 (b) ?_|refine C7 (a) ?_|refine C7 (c) ?_|refine CA ?_)
   rfl
 ·rw[T0 e]at a
  rw[C8 e];refine fO 43 [(7,261,[37,38,39,40,42,0,1,2,3,5,4,1005,6,1005,7,8])] Tryz.func386 rfl ?_ (.inr ⟨trivial,trivial,trivial,trivial,trivial,trivial,trivial⟩)
  repeat'(first|refine gO ?_|(conv=>whnf);first|refine CA ?_|refine C7 (b) ?_|refine C7 (a) ?_|refine CA ?_)
  rfl
theorem Be(h:ab)(t a:Int)(c:h.Caches.length<=4)(d:¬(0<=t/\t<=h.Caches.length - 1)):aO Tryz.prog 354 false [.ptr (bz h),.val none [I t],.val none [I a]] [.ptr (bz h),.val none [I t],.val none [I a]] .one [I 1]:=by
 have b:=aG t 0 (h.Caches.length - 1:Int);rw[T0 d]at b;refine fM 148 [(380,[2,0]),(382,[2,0]),(384,[2,0,0]),(379,[2,0])] [(15,269,[68,69,70,71,72,73,74,75,77,67,78,79,11,0,1,2,3,4,5,6,7,13,8,1000,1001,1002,1003,1004,1013,9,10,11,12,14,1012,15]),(22,15,[92,93,94,95,96,97,98,99,100,101,102,103,104,105,106]),(25,271,[116,117,118,119,120,121,122,123,124,125,127,115,128,129,14,0,1,2,3,4,5,6,7,8,9,15,10,1000,1001,1002,1003,1015,11,12,13,14,16,1014,17])] [(0,0),(0,0),(0,0)] Tryz.func354 rfl (λu q=>?_)
 repeat'(first|refine gO ?_|(conv=>whnf);first|refine CA ?_|refine C7 (b) ?_)
 refine CF rfl rfl ?_;exact wC
theorem DX(h:ab)(i t:Nat)(a:bm h [])(j:i<h.Objs.length)(U:t<h.Caches.length)(K:(nth h.Objs i).Thread≠t):aO Tryz.prog 354 false [.ptr (bz h),.val none [I (t:Nat)],.val none [I (nth h.Objs i).Addr]] [.ptr (bz (freeT h t i).1),.val none [I (t:Nat)],.val none [I (nth h.Objs i).Addr]] .one [I (freeT h t i).2]:=by
 have F:=am j;obtain⟨-,L,d⟩:=a.objAt F;have N:nK h (nth h.Objs i).Addr=i:=by
  have V:=(a.objAt F).1;exact gY (f:=(·.Addr)) (iq a.osr) V j (by rw[L])
 rw[N]at d;have b:=sD a F;have W:=a.onu _ F;have n:=a.lens;have X:=n.objs;have Y:=a.nc;have Z:=lf.of a.mail;have hb4:=Z.b4;have o:=aG (t:Nat) 0 (h.Caches.length - 1:Int);rw[O0 ω]at o;have p:=qu h (nth h.Objs i).Addr ω;rw[d]at p;have e:=ah j;have G:=jX (nth h.Objs i).Size;have O:=bA a.ker;have P:=cY h.Kernel.Machine.Table ((nth h.Objs i).Addr / 16) O.1.2;unfold freeT;by_cases H:aL (nth h.Objs i).Size<0
 ·rw[C9 H]
  have c3:=pZ h i a j H;refine fM 148 [(380,[2,0]),(382,[2,0]),(384,[2,0,0]),(379,[2,0])] [(15,269,[68,69,70,71,72,73,74,75,77,67,78,79,11,0,1,2,3,4,5,6,7,13,8,1000,1001,1002,1003,1004,1013,9,10,11,12,14,1012,15]),(22,15,[92,93,94,95,96,97,98,99,100,101,102,103,104,105,106]),(25,271,[116,117,118,119,120,121,122,123,124,125,127,115,128,129,14,0,1,2,3,4,5,6,7,8,9,15,10,1000,1001,1002,1003,1015,11,12,13,14,16,1014,17])] [(0,0),(0,0),(0,0)] Tryz.func354 rfl (λu q=>?_)
  repeat'(first|refine gD ?_|(conv=>whnf);first|with_reducible refine Bf.D (λc=>?_) (λc=>?_)|refine CA ?_|refine C7 (o) ?_|refine CG (p) ⟨⟨rfl,bC h⟩,⟨rfl,rfl⟩,trivial⟩ ?_|refine CB (aa e) ?_|refine CH rfl (aa e) rfl ?_|refine C7 (G) ?_|refine CI (c3) (.inl rfl) ?_)
  refine CF rfl rfl ?_;exact wC
 rw[C8 H];obtain⟨s1,s2,s3,s4⟩:=Ra.of a (am j) H;by_cases J:(au (tbl h) ((nth h.Objs i).Addr / 16)).Mode=1
 ·rw[C9 J]
  unfold tbl at J;refine fM 148 [(380,[2,0]),(382,[2,0]),(384,[2,0,0]),(379,[2,0])] [(15,269,[68,69,70,71,72,73,74,75,77,67,78,79,11,0,1,2,3,4,5,6,7,13,8,1000,1001,1002,1003,1004,1013,9,10,11,12,14,1012,15]),(22,15,[92,93,94,95,96,97,98,99,100,101,102,103,104,105,106]),(25,271,[116,117,118,119,120,121,122,123,124,125,127,115,128,129,14,0,1,2,3,4,5,6,7,8,9,15,10,1000,1001,1002,1003,1015,11,12,13,14,16,1014,17])] [(0,0),(0,0),(0,0)] Tryz.func354 rfl (λu q=>?_)
  repeat'(first|refine gA ?_|(conv=>whnf);first|with_reducible refine Bf.D (λc=>?_) (λc=>?_)|refine CA ?_|refine CM (by decide) ?_|refine CK (qe b) ?_|refine C7 (o) ?_|refine CG (p) ⟨⟨rfl,bC h⟩,⟨rfl,rfl⟩,trivial⟩ ?_|refine CB (aa e) ?_|refine CH rfl (aa e) rfl ?_|refine C7 (G) ?_|refine CG (P) ⟨⟨rfl,CY _⟩,⟨rfl,rfl⟩,trivial⟩ ?_)
  refine CF rfl rfl ?_;exact wC
 rw[C8 J,C8 K];unfold tbl at J;have r:=JU h.Mail t ⟨(nth h.Objs i).Thread,(nth h.Objs i).Addr⟩ a.mail ω;by_cases l:bI (gT h.Mail t ⟨(nth h.Objs i).Thread,(nth h.Objs i).Addr⟩)=true;rotate_left
 ·rw[C8 l]
  rw[C8 l,show bI (gT h.Mail t ⟨(nth h.Objs i).Thread,(nth h.Objs i).Addr⟩)=false by simpa using l]at r;refine fM 148 [(380,[2,0]),(382,[2,0]),(384,[2,0,0]),(379,[2,0])] [(15,269,[68,69,70,71,72,73,74,75,77,67,78,79,11,0,1,2,3,4,5,6,7,13,8,1000,1001,1002,1003,1004,1013,9,10,11,12,14,1012,15]),(22,15,[92,93,94,95,96,97,98,99,100,101,102,103,104,105,106]),(25,271,[116,117,118,119,120,121,122,123,124,125,127,115,128,129,14,0,1,2,3,4,5,6,7,8,9,15,10,1000,1001,1002,1003,1015,11,12,13,14,16,1014,17])] [(0,0),(0,0),(0,0)] Tryz.func354 rfl (λu q=>?_)
  repeat'(first|refine gA ?_|(conv=>whnf);first|with_reducible refine Bf.D (λc=>?_) (λc=>?_)|refine CA ?_|refine CM (by decide) ?_|refine CK (qe b) ?_|refine C7 (o) ?_|refine CG (p) ⟨⟨rfl,bC h⟩,⟨rfl,rfl⟩,trivial⟩ ?_|refine CB (aa e) ?_|refine CH rfl (aa e) rfl ?_|refine C7 (G) ?_|refine CG (P) ⟨⟨rfl,CY _⟩,⟨rfl,rfl⟩,trivial⟩ ?_|refine CG (r) ⟨⟨rfl,aI.enc_fz h.Mail⟩,⟨rfl,rfl⟩,⟨rfl,rfl⟩,trivial⟩ ?_|refine CA ?_)
  refine CF rfl rfl ?_;exact wC
 rw[C9 l];rw[C9 l,l]at r;have w:gi h.Kernel (nth h.Objs i).Addr<h.Kernel.Machine.Frames.Cells.length:=by unfold gi;omega
 have hcz:=Ku s1;have B:=de (aL (nth h.Objs i).Size);unfold Pz;generalize gT h.Mail t ⟨(nth h.Objs i).Thread,(nth h.Objs i).Addr⟩ = M at r;refine fM 148 [(380,[2,0]),(382,[2,0]),(384,[2,0,0]),(379,[2,0])] [(15,269,[68,69,70,71,72,73,74,75,77,67,78,79,11,0,1,2,3,4,5,6,7,13,8,1000,1001,1002,1003,1004,1013,9,10,11,12,14,1012,15]),(22,15,[92,93,94,95,96,97,98,99,100,101,102,103,104,105,106]),(25,271,[116,117,118,119,120,121,122,123,124,125,127,115,128,129,14,0,1,2,3,4,5,6,7,8,9,15,10,1000,1001,1002,1003,1015,11,12,13,14,16,1014,17])] [(0,0),(0,0),(0,0)] Tryz.func354 rfl (λu q=>?_)
 repeat'(first|refine gA ?_|(conv=>whnf);first|with_reducible refine Bf.D (λc=>?_) (λc=>?_)|refine CA ?_|refine CM (by decide) ?_|refine CK (qe b) ?_|refine C7 (o) ?_|refine CG (p) ⟨⟨rfl,bC h⟩,⟨rfl,rfl⟩,trivial⟩ ?_|refine CB (aa e) ?_|refine CH rfl (aa e) rfl ?_|refine C7 (G) ?_|refine CG (P) ⟨⟨rfl,CY _⟩,⟨rfl,rfl⟩,trivial⟩ ?_|refine CG (r) ⟨⟨rfl,aI.enc_fz h.Mail⟩,⟨rfl,rfl⟩,⟨rfl,rfl⟩,trivial⟩ ?_|refine CA ?_)
 have Q:({{h with Mail:=M} with Kernel:=gg h.Kernel (nth h.Objs i).Addr 0} : ab) = {h with Mail:=M}:=H0 {h with Mail:=M} _ w;have R:=W0 (λy:ab=>C.s .own (y.Kernel.Machine.Frames.Cells.map (aF .own))) Q
 (conv=>whnf)
 refine CE (ι:=Nat) (λk=>[(0,.hold .box (bz {{h with Mail:=M} with Kernel:=gg h.Kernel (nth h.Objs i).Addr k})),(1,.hold .one [I ((t:Nat):Int)]),(2,.hold .one [I ((nth h.Objs i).Addr)]),(7,.hold .one [I ((i:Nat):Int)]),(8,.hold .box (bK.enc .own (nth h.Objs i))),(9,.hold .one [I (aL (nth h.Objs i).Size)]),(10,.hold .box (bf.enc .own (au h.Kernel.Machine.Table ((nth h.Objs i).Addr / 16)))),(13,.hold .one [I ((k:Nat):Int)])]) (λk=>k<=(csz (aL (nth h.Objs i).Size)).toNat) (λk=>(csz (aL (nth h.Objs i).Size)).toNat - k) (0) ?_ (U0 _) λk hk=>?_
 ·repeat'(first|exact trivial|rfl |exact nh R|exact dN _|refine CJ ?_ ?_|(exact zw (by first|omega|(simp only;omega)|(simp;omega))))
 have T:IntKind.i64.wrap 0=0:=rfl;have S:(nth h.Objs i).Addr.tmod 16=(nth h.Objs i).Addr % 16:=gm b.1;have g:(gg h.Kernel (nth h.Objs i).Addr k).Machine.Frames.Cells[(au h.Kernel.Machine.Table ((nth h.Objs i).Addr / 16)).Frame.toNat]? = some (mh (nth h.Kernel.Machine.Frames.Cells (gi h.Kernel (nth h.Objs i).Addr)) ((nth h.Objs i).Addr % 16).toNat k):=U3 w;by_cases lk:k<(csz (aL (nth h.Objs i).Size)).toNat
 ·have E:=ah (xs:=mh (nth h.Kernel.Machine.Frames.Cells (gi h.Kernel (nth h.Objs i).Addr)) ((nth h.Objs i).Addr % 16).toNat k) (i:=((nth h.Objs i).Addr % 16+k).toNat) (by rw[pw,s4];omega)
  repeat'(first|refine gD ?_|(conv=>whnf);first|refine CA ?_|refine CM (by decide) ?_|refine CS S ?_|refine C7 (B) ?_|refine CL s2.1 (aa g) ?_|refine CH rfl (aa g) rfl ?_|refine CL ω (aa E) ?_|refine Pu.two rfl rfl (aa g) rfl rfl rfl (aa E) rfl (z3 _) (Eg {h with Mail:=M} _ k _ b.1) ?_)
  ((conv=>whnf);refine CD (k+1) ω ω ?_;(exact wC))
 ·obtain rfl:k=(csz (aL (nth h.Objs i).Size)).toNat:=ω
  have c6:=mP {{h with Mail:=M} with Kernel:=gg h.Kernel (nth h.Objs i).Addr (csz (aL (nth h.Objs i).Size)).toNat} i j (by show h.Objs.length<=_;omega)
  repeat'(first|refine gA ?_|(conv=>whnf);first|with_reducible refine Bf.D (λc=>?_) (λc=>?_)|refine CA ?_|refine C7 (B) ?_|refine CI (c6) (.inl rfl) ?_)
  refine CF rfl rfl ?_;exact wC
theorem NM(h:ab)(i:Nat)(t:Int)(a:bm h [])(d:i<h.Objs.length):aO Tryz.prog 354 false [.ptr (bz h),.val none [I t],.val none [I (nth h.Objs i).Addr]] [.ptr (bz (if 0<=t/\t<=h.Caches.length - 1 then(freeT h t.toNat i).1 else h)),.val none [I t],.val none [I (nth h.Objs i).Addr]] .one [I (if 0<=t/\t<=h.Caches.length - 1 then(freeT h t.toNat i).2 else 1)]:=by
 have c:h.Caches.length<=4:=by have:=(dE.1 a.mail).1.2.1;have:=a.nc;omega
 by_cases b:0<=t/\t<=h.Caches.length - 1
 ·rw[C9 b,C9 b]
  obtain⟨n,rfl⟩:=Z2 b.1;simp only[X2];by_cases e:(nth h.Objs i).Thread=n
  ·have:=Fx h (nth h.Objs i) n a (am d) e c
   have g:nK h (nth h.Objs i).Addr=i:=by
    obtain⟨k,j,-⟩:=a.objAt (am d);exact gY (f:=(·.Addr)) (iq a.osr) k d (by rw[j])
   rw[g,<-zI e]at this;exact this
  ·exact DX h i n a d ω e
 ·rw[C8 b,C8 b]
  exact Be h t _ c b
theorem M9(c:aA)(k:Nat):aA.enc .own (ri c k)=[.s .own ((c.Lists.map (aF .own)).set k (aF .own ((nth c.Lists k).take ((nth c.Lists k).length - 1))))]:=by simp[aA.enc,ri,W5]
theorem PL(xs:List Int)(n:Nat):(xs.take n).map (rI .imm)=(xs.map (rI .imm)).take n:=t4
def Q7(c:aA)(k:Nat):List C:=if 0<(nth c.Lists k).length then aA.enc .own (ri c k)++[I (nth (nth c.Lists k) ((nth c.Lists k).length - 1)),B true] else aA.enc .own c++[I (-1),B false]
theorem Qo(c:aA)(k:Nat):gH (Q7 c k):=by
 unfold Q7;split
 ·exact aS (aA.enc_fr _) ⟨trivial,trivial,trivial⟩
 ·exact aS (aA.enc_fr _) ⟨trivial,trivial,trivial⟩
theorem xl(c:aA)(k:Nat)(h:bn c=true)(u:k<=3):ao Tryz.prog 289 false [.val (some 1) (aA.enc .imm c),.val none [I (k:Nat)]] (.tup [some 1,none,none]) (Q7 c k):=by
 obtain⟨w,j⟩:=dq h;have n:aA.sml c:=⟨ω,λl r=>by have:=j l r;show l.length<=1048576;omega⟩
 have d:=xL c k n;rw[h,O0 ω]at d;have o:=i7 c n;have b:=pu (c:=c) (k:=k) ω;have t:=j _ (am (xs:=c.Lists) (i:=k) ω);have a:=Qo c k;unfold Q7 at a |-;by_cases p:0<(nth c.Lists k).length
 ·rw[C9 p]at a |-
  have q:=ah (xs:=nth c.Lists k) (i:=(nth c.Lists k).length - 1) ω;have e:(nth c.Lists k)[(((nth c.Lists k).length:Int) - 1).toNat]? = some (nth (nth c.Lists k) ((nth c.Lists k).length - 1)):=by rw[show(((nth c.Lists k).length:Int) - 1).toNat=(nth c.Lists k).length - 1 by omega];exact q
  have g:((((nth c.Lists k).length:Nat):Int) - 1)=(((nth c.Lists k).length - 1:Nat):Int):=ω
  rw[M9]at a |-;refine fO 54 [(5,268,[32,33,34,35,36,37,38,39,40,41,42,44,0,1,2,3,4,5,6,7,8,9,10,11,1000,1001,1002,12,13]),(6,265,[45,46,47,48,49,50,51,52,53,0,1,2,3,4,5,6,7,8,9,1001,1002,1003,1004,1005,1006,1007,1008,10,11])] Tryz.func289 rfl ?_ (.inr a)
  repeat'(first|refine gA ?_|(conv=>whnf);first|with_reducible refine CB (aa b) ?_|refine CA ?_|refine CH rfl (aa b) rfl ?_|refine C7 (d) ?_|refine C7 (o) ?_|refine CL ω (aa e) ?_|refine CB (aa q) ?_|refine CT ((nth c.Lists k).length - 1) g (by rw[Z0];omega) (aM λ_=>rfl) (PL _ _) ?_|refine CA ?_|refine CU (λ_=>rfl) (λ_=>rfl) (by rw[U1];omega) (by decide) ?_|refine CO (λ_=>rfl) (λ_=>rfl) (by rw[U1];omega) (by decide) ?_|refine CN rfl rfl (aa b) rfl (C1 rfl) rfl ?_)
  rfl
 ·rw[C8 p]at a |-
  refine fO 54 [(5,268,[32,33,34,35,36,37,38,39,40,41,42,44,0,1,2,3,4,5,6,7,8,9,10,11,1000,1001,1002,12,13]),(6,265,[45,46,47,48,49,50,51,52,53,0,1,2,3,4,5,6,7,8,9,1001,1002,1003,1004,1005,1006,1007,1008,10,11])] Tryz.func289 rfl ?_ (.inr a)
  repeat'(first|refine gA ?_|(conv=>whnf);first|with_reducible refine CB (aa b) ?_|refine CA ?_|refine CH rfl (aa b) rfl ?_|refine C7 (d) ?_|refine C7 (o) ?_)
  rfl
def QE(xs:List ax)(n:Int):List C:=b8 .own (a8 xs n).1++[I (a8 xs n).2.1,B (a8 xs n).2.2]
theorem Qn(xs:List ax)(n:Int):gH (QE xs n):=aS (kX _) ⟨trivial,trivial,trivial⟩
theorem oQ(pages:Int)(xs:List ax)(n:Int)(w:0<=pages/\pages<=1048576)(l:bt pages xs=true)(J:1<=n/\n<=1000)(K:xs.length<=4096):ao Tryz.prog 294 false [.val none [I pages],.val none (b8 .imm xs),.val none [I n]] (.tup [none,none,none]) (QE xs n):=by
 have o:=lI pages xs w ⟨ω,λ_ _=>trivial⟩;rw[l]at o;have p:=(vc l).2;refine fO 98 [(8,21,[31,32,33,34,35,36,37,38,39,40,41,42,43,44,45,46,47,48,49,50,51]),(14,265,[71,72,73,74,76,77,78,79,81,0,1,2,3,5,6,7,8,10,4,1005,1006,1007,1008,1010,9,1010,11,1010,12,13])] Tryz.func294 rfl ?_ (.inr (Qn xs n))
 repeat'(first|refine gD ?_|(conv=>whnf);first|refine CA ?_|refine C7 (o) ?_|refine CO (λ_=>rfl) (λ_=>rfl) ω (by decide) ?_)
 (conv=>whnf)
 refine CE (ι:=Nat) (λi=>[(1,.hold .one (b8 .imm xs)),(2,.hold .one [I (n)]),(9,.hold .one (b8 .own xs)),(10,.hold .one [I (iR xs n i)]),(11,.hold .one [I ((i:Nat):Int)])]) (λi=>i<=xs.length) (λi=>xs.length - i) (0) ?_ (U0 _) λi y=>?_
 ·exact wC
 have h:=wW xs n i y;by_cases q:i<xs.length
 ·have j:=ah q
  have E:=p _ (am q);have a:iR xs n (i+1)=if n<=(nth xs i).Len/\(iR xs n i<0\/(nth xs i).Len<(nth xs (iR xs n i).toNat).Len) then((i:Nat):Int) else iR xs n i:=rfl
  by_cases r:n<=(nth xs i).Len
  ·by_cases F:iR xs n i<0
   ·rw[C9 ⟨r,.inl F⟩]at a
    repeat'(first|refine gD ?_|(conv=>whnf);first|with_reducible (first|refine CB (aa j) ?_|refine Bf.D (λc=>?_) (λc=>?_))|refine CA ?_)
    ((conv=>whnf);refine CD (i+1) ω ω ?_)
    rw[a];exact wC
   ·have d:=ah (xs:=xs) (i:=(iR xs n i).toNat) ω
    by_cases G:(nth xs i).Len<(nth xs (iR xs n i).toNat).Len
    ·rw[C9 ⟨r,.inr G⟩]at a
     repeat'(first|refine gD ?_|(conv=>whnf);first|with_reducible (first|refine CB (aa j) ?_|refine CL ω (aa d) ?_|refine Bf.D (λc=>?_) (λc=>?_))|refine CA ?_)
     ((conv=>whnf);refine CD (i+1) ω ω ?_)
     rw[a];exact wC
    ·rw[C8 ω]at a
     repeat'(first|refine gD ?_|(conv=>whnf);first|with_reducible (first|refine CB (aa j) ?_|refine CL ω (aa d) ?_|refine Bf.D (λc=>?_) (λc=>?_))|refine CA ?_)
     ((conv=>whnf);refine CD (i+1) ω ω ?_)
     rw[a];exact wC
  ·rw[C8 ω]at a
   repeat'(first|refine gD ?_|(conv=>whnf);first|with_reducible (first|refine CB (aa j) ?_|refine Bf.D (λc=>?_) (λc=>?_))|refine CA ?_)
   ((conv=>whnf);refine CD (i+1) ω ω ?_)
   rw[a];exact wC
 ·obtain rfl:i=xs.length:=ω
  change gK xs n = -1\/_ at h;unfold QE a8;rw[show iR xs n xs.length=gK xs n from rfl];by_cases e:gK xs n<0
  ·rw[C9 e]
   rw[show gK xs n = -1 from h.resolve_right λg=>by have L:0<=gK xs n:=g.1;omega]
   repeat'(first|refine gD ?_|(conv=>whnf);first|with_reducible refine Bf.D (λc=>?_) (λc=>?_)|refine CA ?_)
   rfl
  ·rw[C8 e]
   obtain⟨H,t,M⟩:=h.resolve_left ω;change 0<=gK xs n at H;change gK xs n<xs.length at t;obtain⟨b,k⟩:=Z2 (show 0<=gK xs n by omega);rw[k]at t |-;simp only[X2];have d:=ah (xs:=xs) (i:=b) ω;have E:=p _ (am (xs:=xs) (i:=b) ω);by_cases u:(nth xs b).Len=n
   ·rw[C9 u]
    repeat'(first|refine gA ?_|(conv=>whnf);first|with_reducible (first|refine CB (aa d) ?_|refine Bf.D (λc=>?_) (λc=>?_))|refine CA ?_|refine CT b rfl (by rw[Z0];omega) (aM λ_=>rfl) t4 ?_|refine CW (b+1) rfl (by rw[Z0];omega) (aM λ_=>rfl) v4 ?_|refine CU (λ_=>rfl) (λ_=>rfl) (by rw[U1];omega) (by decide) ?_|refine Ap.dele (λ_=>rfl) (λ_=>rfl) ω (by decide) ?_|refine CO (λ_=>rfl) (λ_=>rfl) (by rw[U1];omega) (by decide) ?_|refine CA ?_)
    rfl
   ·rw[C8 u]
    repeat'(first|refine gA ?_|(conv=>whnf);first|with_reducible (first|refine CB (aa d) ?_|refine Bf.D (λc=>?_) (λc=>?_))|refine CA ?_|refine CN rfl rfl (aa d) rfl (C1 rfl) rfl ?_)
    exact W0 (λz=>z++[I (nth xs b).At,B true]) (show [C.s d7.own _]=_ from by simp[b8,W5];rfl)
theorem Ld(k:af)(p:Int)(f:Nat):af.enc .own (qD k p f)=((af.enc .own k).set 1 (.s .own ((k.Machine.Frames.Used.map (rB .own)).set f (rB .own true)))).set 2 (.s .own ((k.Machine.Table.Entries.map (bf.enc .own)).set p.toNat (bf.enc .own ⟨2,(f:Nat)⟩))):=by
 simp[af.enc,qD,W5]
theorem EB(k:af)(p:Int)(c:aB k=true)(y:k.Calls≠100000)(o:0<=p/\p<k.Machine.Table.Entries.length)(C:(nth k.Machine.Table.Entries p.toNat).Mode=0):aO Tryz.prog 296 false [.ptr (af.enc .own k),.val none [I p]] [.ptr (af.enc .own (gc k p).1),.val none [I p]] .one [B (gc k p).2]:=by
 have E:=bA c;have F:=bc.1 (aD.1 c).2.1;have G:=(bx.1 (aD.1 c).2.2.1).2.2;have H:(dx k).Machine.Table.Entries.length<=32:=G;have a:=Bh k.Machine.Frames ω;have d:=ns k c y;have g:=ef (dx k) p E.1.2;have l:au (dx k).Machine.Table p=nth k.Machine.Table.Entries p.toNat:=by unfold au;exact C9 o
 rw[l,C]at g;have h:=aG p 0 ((k.Machine.Table.Entries.length:Int) - 1);rw[O0 ω]at h;have r:=ah (xs:=k.Machine.Table.Entries) (i:=p.toNat) ω;change ao _ _ _ _ _ [I (sf k)]at a;unfold gc;cases e:refd k<;>rw[e]at d
 ·by_cases j:sf k<0
  ·rw[C9 (.inr j)]
   refine fM 56 [(347,[2])] [] [(0,0),(0,0)] Tryz.func296 rfl (λu q=>?_)
   repeat'(first|refine gA ?_|(conv=>whnf);first|with_reducible refine Bf.D (λb=>?_) (λb=>?_)|refine CG (a) ⟨⟨rfl,aV.enc_fz _⟩,trivial⟩ ?_|refine CI (d) (.inl rfl) ?_|refine C7 (h) ?_|refine CG (g) ⟨CP (dx k),⟨rfl,rfl⟩,trivial⟩ ?_)
   refine CF rfl ?_ ?_
   ·rfl
   ·exact wC
  ·rw[C8 (by simp[j])]
   obtain⟨n,t⟩:=Ds j;obtain⟨f,J⟩:=Z2 (show 0<=sf k by omega);rw[J]at a n t j |-;simp only[X2]at n t |-;have w:=ah (xs:=k.Machine.Frames.Used) (i:=f) n;rw[Ld];refine fM 56 [(347,[2])] [] [(0,0),(0,0)] Tryz.func296 rfl (λu q=>?_)
   repeat'(first|refine gA ?_|(conv=>whnf);first|with_reducible refine Bf.D (λb=>?_) (λb=>?_)|refine CG (a) ⟨⟨rfl,aV.enc_fz _⟩,trivial⟩ ?_|refine CI (d) (.inl rfl) ?_|refine C7 (h) ?_|refine CG (g) ⟨CP (dx k),⟨rfl,rfl⟩,trivial⟩ ?_|refine CB (aa w) ?_|refine CL o.1 (aa r) ?_|refine CN rfl rfl (aa w) rfl (C1 rfl) rfl ?_|refine CN rfl rfl (aa r) rfl (C1 rfl) rfl ?_)
   refine CF rfl ?_ ?_
   ·rfl
   ·exact wC
 ·rw[C9 (.inl rfl)]
  refine fM 56 [(347,[2])] [] [(0,0),(0,0)] Tryz.func296 rfl (λu q=>?_)
  repeat'(first|refine gA ?_|(conv=>whnf);first|with_reducible refine Bf.D (λb=>?_) (λb=>?_)|refine CG (a) ⟨⟨rfl,aV.enc_fz _⟩,trivial⟩ ?_|refine CI (d) (.inl rfl) ?_|refine C7 (h) ?_|refine CG (g) ⟨CP (dx k),⟨rfl,rfl⟩,trivial⟩ ?_)
  refine CF rfl ?_ ?_
  ·rfl
  ·exact wC
def Q3(h:ab):List C:=(bz h).drop 5
theorem Db(h:ab)(p:Int)(a:aB h.Kernel=true)(b:h.Kernel.Calls≠100000)(c:0<=p/\p<h.Kernel.Machine.Table.Entries.length)(d:(nth h.Kernel.Machine.Table.Entries p.toNat).Mode=0):aO Tryz.prog 296 false [.ptr (bz h),.val none [I p]] [.ptr (bz {h with Kernel:=(gc h.Kernel p).1}),.val none [I p]] .one [B (gc h.Kernel p).2]:=
 (EB h.Kernel p a b c d).frame (r:=Q3 h) rfl
theorem JP(h:ab)(i:Nat):bz (slotT h i)=((bz h).set 14 (I (GT h.Seed))).set 6 (.s .own ((h.Spans.map (ar.enc .own)).set i [I (nth h.Spans i).Page,I (nth h.Spans i).Class,I (gI (nth h.Spans i).Bits (pU h i))])):=by
 simp[bz,slotT,qr,W5,ar.enc]
theorem rA(h:ab)(E:List Int)(i:Nat)(c:bm h E)(k:i<h.Spans.length):aO Tryz.prog 291 false [.ptr (bz h),.val none [I (i:Nat)]] [.ptr (bz (lQ h i).1),.val none [I (i:Nat)]] .one [I (lQ h i).2]:=by
 have F:=c.lens;have G:=F.spans;have d:=ah k;have b:=c.L.sok _ (am k);have e:=en b;have a:=c.nums;unfold bX at a;rw[C0]at a;have t:=(bx.1 (aD.1 c.ker).2.2.1).2.2;have l:=rK c.L.sok (ps:=aT h (nth h.Spans i).Page) e (aT h (nth h.Spans i).Page).length;change 0<=gW h i/\gW h i<=65535 at l;have w:=nj (nth h.Spans i).Class;have y:=yd h i ⟨ω,λ_ _=>trivial⟩ ⟨by show h.Kernel.Machine.Table.Entries.length<=_;omega,λ_ _=>trivial⟩ c.L.sok k;have o:=xA (nth h.Spans i).Class (gW h i) ω;change ao _ _ _ _ _ (aF .own (nk h i)) at o;have p:=Ft (nth h.Spans i).Class (gW h i);change (nk h i).length<=16 at p;unfold lQ;by_cases B:(nk h i).length=0
 ·rw[C9 B]
  refine fM 68 [] [(2,7,[16,17,18,19,20,21,22]),(7,12,[42,43,44,45,46,47,48,49,50,51,52,53]),(8,11,[56,57,58,59,60,61,62,63,64,65,66])] [(0,0),(0,0)] Tryz.func291 rfl (λu q=>?_)
  repeat'(first|refine gA ?_|(conv=>whnf);first|refine CB (aa d) ?_|refine CH rfl (aa d) rfl ?_|refine C7 (w) ?_|refine CG (y) ⟨⟨rfl,bC h⟩,⟨rfl,rfl⟩,trivial⟩ ?_|refine C7 (o) ?_|refine CA ?_)
  refine CF rfl rfl ?_;exact wC
 ·rw[C8 B]
  have H:=zv (h:=h) (i:=i) ω;obtain⟨C,D,O⟩:=wj H;have J:=(gE (aC b).2.2).2.2.1;have r:=xa h.Seed (n:=((nk h i).length:Nat)) ω;have K:=uw h.Seed ((nk h i).length:Nat) ω ω;have M:=yk (nth h.Spans i).Bits (pU h i) e ω;have N:=y7 (qr (nth h.Spans i) (pU h i)) (pU h i) (BE b ⟨C,D⟩) ⟨C,D⟩;have g:(nk h i)[(Mc h.Seed ((nk h i).length:Nat)).toNat]? = some (pU h i):=ah ω;have j:((h.Spans.map (ar.enc .own)).set i [I (nth h.Spans i).Page,I (nth h.Spans i).Class,I (gI (nth h.Spans i).Bits (pU h i))])[i]? = some [I (nth h.Spans i).Page,I (nth h.Spans i).Class,I (gI (nth h.Spans i).Bits (pU h i))]:=m6 k;unfold uq;rw[JP];refine fM 68 [] [(2,7,[16,17,18,19,20,21,22]),(7,12,[42,43,44,45,46,47,48,49,50,51,52,53]),(8,11,[56,57,58,59,60,61,62,63,64,65,66])] [(0,0),(0,0)] Tryz.func291 rfl (λu q=>?_)
  repeat'(first|refine gA ?_|(conv=>whnf);first|refine CB (aa d) ?_|refine CB j ?_|refine CH rfl (aa g) rfl ?_|refine CH rfl (aa d) rfl ?_|refine CH rfl j rfl ?_|refine C7 (w) ?_|refine CG (y) ⟨⟨rfl,bC h⟩,⟨rfl,rfl⟩,trivial⟩ ?_|refine C7 (o) ?_|refine C7 (K) ?_|refine C7 (M) ?_|refine C7 (N) ?_|refine CL r.1 (aa g) ?_|refine CA ?_|refine CN rfl rfl (aa d) rfl (C1 rfl) rfl ?_)
  refine CF rfl ?_ ?_
  ·rfl
  ·exact wC
theorem Ap.ins{α:Type}{e:α->List C}{xs:List α}{y:α}{r:List C}{i sz by_:Nat}{K:List (List C)->Prop}(a:r=e y)(b:∀y,(e y).length=sz)(c:∀y,aX (e y)=true)(h:xs.length<=1048576)(d:by_<=1000)(f:K ((xs.take i++y::xs.drop i).map e)):Ap true ((xs.take i).map e++[r]) ((xs.drop i).map e) sz by_ K:=by
 subst a;have g:(xs.take i).length+1+(xs.drop i).length<=3145728:=by rw[U1,O3];omega
 refine CQ (λr a=>?_) (aM b) (λ_ r a=>by obtain⟨y,-,rfl⟩:=z4.1 a;exact c y) (by simp only[I3,Z0,List.length_singleton];omega) (by simp only[I3,Z0,List.length_singleton];exact V4 (Nat.mul_le_mul g d) (by decide)) ?_ f
 ·rcases v3.1 a with a|a
  ·exact aM b r a
  ·rw[I1.1 a];exact b y
 ·rw[O5,U5,I5];rfl
theorem vf{α:Type}{p:α->Bool}{xs:List α}{y:α}{i:Nat}(h:jY p xs=i):jv p xs y=xs.take i++y::xs.drop i:=by unfold jv;rw[h]
def HC(h:ab)(c:Int):ab × Int:=
 if(a8 h.Free 1).2.2=false then(h,-1)
 else if(gc h.Kernel (a8 h.Free 1).2.1).2=false then({h with Kernel:=(gc h.Kernel (a8 h.Free 1).2.1).1},-1)
 else(uJ h c,(uW h:Nat))
theorem BB(h:ab)(E:List Int)(c:Nat)(g:bm h E)(J:h.Kernel.Calls<=90000):aO Tryz.prog 292 false [.ptr (bz h),.val none [I (c:Nat)]] [.ptr (bz (HC h c).1),.val none [I (c:Nat)]] .one [I (HC h c).2]:=by
 have B:=g.lens;have K:=B.spans;have L:dS h<=32:=B.ents;have C:=gU h;have l:=oQ (dS h:Nat) h.Free 1 ⟨ω,ω⟩ g.rng (by decide) (by have:=B.free;omega);unfold QE at l;have d:=kU g (X4 1);unfold HC uJ uW;generalize a8 h.Free 1=r at l d |-;obtain⟨o,p,ok⟩:=r;simp only at l d |-;cases ok with
 | false=>
  rw[C9 rfl];refine fM 79 [(296,[2,0]),(2000010,[0,6])] [(1,267,[11,12,13,14,15,16,17,10,18,19,20,0,1,2,3,4,5,6,7,8,9,10,11,1009,1010,12,1010,13])] [(0,0),(0,0)] Tryz.func292 rfl (λu q=>?_)
  repeat'(first|refine gO ?_|(conv=>whnf);first|refine CA ?_|refine CG (C) ⟨bC h,trivial⟩ ?_|refine CG (l) ⟨⟨rfl,rfl⟩,⟨rfl,d8 h.Free⟩,⟨rfl,rfl⟩,trivial⟩ ?_|refine CA ?_)
  refine CF rfl rfl ?_;exact wC
 | true=>
  rw[C8 (by simp)];obtain⟨M,N,O,V⟩:=d rfl;have F:0<=p/\p<h.Kernel.Machine.Table.Entries.length:=⟨M,by have:p+1<=((tbl h).Entries.length:Nat):=N;unfold tbl at this;omega⟩
  have t:=Db h p g.ker ω F (O p.toNat ω ω);generalize gc h.Kernel p=w at t |-;obtain⟨k,b⟩:=w;simp only at t |-;cases b with
  | false=>
   rw[C9 rfl];refine fM 79 [(296,[2,0]),(2000010,[0,6])] [(1,267,[11,12,13,14,15,16,17,10,18,19,20,0,1,2,3,4,5,6,7,8,9,10,11,1009,1010,12,1010,13])] [(0,0),(0,0)] Tryz.func292 rfl (λu q=>?_)
   repeat'(first|refine gO ?_|(conv=>whnf);first|refine CA ?_|refine CG (C) ⟨bC h,trivial⟩ ?_|refine CG (l) ⟨⟨rfl,rfl⟩,⟨rfl,d8 h.Free⟩,⟨rfl,rfl⟩,trivial⟩ ?_|refine CI (t) (.inl rfl) ?_|refine CA ?_)
   refine CF rfl rfl ?_;exact wC
  | true=>
   rw[C8 (by simp)];refine fM 79 [(296,[2,0]),(2000010,[0,6])] [(1,267,[11,12,13,14,15,16,17,10,18,19,20,0,1,2,3,4,5,6,7,8,9,10,11,1009,1010,12,1010,13])] [(0,0),(0,0)] Tryz.func292 rfl (λu q=>?_)
   repeat'(first|refine gO ?_|(conv=>whnf);first|refine CA ?_|refine CG (C) ⟨bC h,trivial⟩ ?_|refine CG (l) ⟨⟨rfl,rfl⟩,⟨rfl,d8 h.Free⟩,⟨rfl,rfl⟩,trivial⟩ ?_|refine CI (t) (.inl rfl) ?_|refine CA ?_)
   (conv=>whnf)
   refine CE (ι:=Nat) (λi=>[(0,.hold .box (bz {h with Kernel:=k,Free:=o})),(1,.hold .one [I ((c:Nat):Int)]),(6,.hold .one [I (p)]),(8,.hold .one [I ((i:Nat):Int)])]) (λi=>i<=h.Spans.length/\∀(j:Nat)(z:ar),j<i->h.Spans[j]? = some z->J4 p z=false) (λi=>h.Spans.length - i) (0) ?_ (⟨U0 _,λj z W=>ω⟩) λi g=>?_
   ·exact wC
   obtain⟨P,G⟩:=g;have Q:({h with Kernel:=k,Free:=o} : ab).Spans.length=h.Spans.length:=rfl;by_cases R:i<h.Spans.length/\(nth h.Spans i).Page<p
   ·have n:=ah R.1
    repeat'(first|refine gD ?_|(conv=>whnf);first|with_reducible refine CB (aa n) ?_|refine CA ?_|refine CH rfl (aa n) rfl ?_)
    ((conv=>whnf);refine CD (i+1) ⟨ω,dC n (T0 ω) G⟩ ω ?_;(exact wC))
   ·have a:jY (J4 p) h.Spans=i:=vo ω G λz H=>by
     have S:=(O2.1 H).1;have:z=nth h.Spans i:=(bq H).symm;subst this;exact O0 ω
    have n:i<h.Spans.length->h.Spans[i]? = some (nth h.Spans i):=λT=>ah T
    rw[show addS h k o p (c:Nat) = {h with Kernel:=k,Free:=o,Spans:=h.Spans.take i++⟨p,(c:Nat),0⟩::h.Spans.drop i} by unfold addS;rw[vf a],a]
    repeat'(first|refine gD ?_|(conv=>whnf);first|with_reducible (first|refine CB (aa (n ω)) ?_|refine Bf.D (λU=>?_) (λU=>?_))|refine CA ?_|refine CH rfl (aa (n ω)) rfl ?_|refine CV rfl (x8 h.Spans) rfl ?_|refine CT i rfl (by rw[Z0];omega) (aM λ_=>rfl) t4 ?_|refine CW i rfl (by rw[Z0];omega) (aM λ_=>rfl) v4 ?_|refine CO (λ_=>rfl) (λ_=>rfl) (by rw[U1];omega) (by decide) ?_|refine Ap.sn (aM λ_=>rfl) rfl (by rw[Z0,U1];omega) (by decide) rfl ?_|refine Ap.ins (e:=ar.enc .imm) (y:=⟨p,(c:Nat),0⟩) rfl (λ_=>rfl) (λ_=>rfl) ω (by decide) ?_)
    all_goals
     refine CF rfl rfl ?_;exact wC
theorem Ei{h:ab}{c:Int}{i:Nat}(a:i<h.Spans.length)(b:tj h c i=true)(d:∀j,j<i->tj h c j=false):sF h c=some i:=
 List.find?_range_eq_some.2 ⟨b,List.mem_range.2 a,λj e=>by rw[d j e];rfl⟩
theorem Dl{h:ab}{c:Int}(a:∀j,j<h.Spans.length->tj h c j=false):sF h c=none:=
 List.find?_range_eq_none.2 λj b=>by rw[a j b];rfl
theorem th{h:ab}{c:Int}{i:Nat}(a:tj h c i=false)(b:∀j,j<i->tj h c j=false):∀j,j<i+1->tj h c j=false:=λj d=>by
 by_cases e:j=i
 ·rw[e];exact a
 ·exact b j ω
theorem Jg(h:ab)(t:Nat)(c:aA):bz {h with Caches:=h.Caches.set t c} = (bz h).set 9 (.s .own ((h.Caches.map (aA.enc .own)).set t (aA.enc .own c))):=by
 simp[bz,W5]
theorem Kr{h:ab}{c:Nat}(b:bm h [])(l:c<=3)(e:h.Kernel.Calls<=90000)(h1:¬(a8 h.Free 1).2.2=false)(f:¬(gc h.Kernel (a8 h.Free 1).2.1).2=false):bm (uJ h c) []/\uW h<(uJ h c).Spans.length:=by
 have a:(a8 h.Free 1).2.2=true:=by simpa using h1
 obtain⟨g,i,j,n⟩:=kU b (X4 1) a;have s:=Bd.of (p:=(a8 h.Free 1).2.1) b.ker ω ⟨g,by have:(a8 h.Free 1).2.1+1<=(h.Kernel.Machine.Table.Entries.length:Nat):=i;omega⟩ (j _ ω ω);have d:(gc h.Kernel (a8 h.Free 1).2.1).2=true:=by simpa using f
 have k:Bd h.Kernel (a8 h.Free 1).2.1 ((gc h.Kernel (a8 h.Free 1).2.1).1,true):=by rw[<-d];exact s
 exact⟨b.addS (c:=c) ⟨ω,ω⟩ a k,(Hv (J4 (a8 h.Free 1).2.1) h.Spans ⟨(a8 h.Free 1).2.1,c,0⟩).1⟩
theorem y6(h:ab)(t c:Nat)(o:bm h [])(M:t<h.Caches.length)(N:c<=3)(p:h.Kernel.Calls<=90000):aO Tryz.prog 234 false [.ptr (bz h),.val none [I (t:Nat)],.val none [I (c:Nat)]] [.ptr (bz (eG h t c).1),.val none [I (t:Nat)],.val none [I (c:Nat)]] .one [I (eG h t c).2]:=by
 have E:=o.cach _ (am M);have e:=ah M;have r:=xl (nth h.Caches t) c E N;have Q:=o.lens.spans;have B:=o;unfold Q7 at r;by_cases F:0<(nth (nth h.Caches t).Lists c).length
 ·unfold eG
  rw[C9 F]at r |-;simp only;rw[Jg];refine fM 80 [(291,[2,0]),(292,[2,0])] [(3,6,[27,28,29,30,31,32])] [(0,0),(0,0),(0,0)] Tryz.func234 rfl (λu q=>?_)
  repeat'(first|refine gO ?_|(conv=>whnf);first|with_reducible refine CB (aa e) ?_|refine CH rfl (aa e) rfl ?_|refine CG (r) ⟨⟨rfl,aA.enc_fz _⟩,⟨rfl,rfl⟩,trivial⟩ ?_|refine CA ?_|refine CN rfl rfl (aa e) rfl (C1 rfl) rfl ?_)
  refine CF rfl rfl ?_;exact wC
 ·rw[C8 F]at r
  have d:eG h t c=match sF h c with
   | some i=>(slotT h i,uq h i)
   | none=>if(a8 h.Free 1).2.2=false then(h,-1)
    else if(gc h.Kernel (a8 h.Free 1).2.1).2=false then({h with Kernel:=(gc h.Kernel (a8 h.Free 1).2.1).1},-1)
    else lQ (uJ h c) (uW h):=by unfold eG;exact C8 F
  refine fM 80 [(291,[2,0]),(292,[2,0])] [(3,6,[27,28,29,30,31,32])] [(0,0),(0,0),(0,0)] Tryz.func234 rfl (λu q=>?_)
  repeat'(first|refine gO ?_|(conv=>whnf);first|with_reducible refine CB (aa e) ?_|refine CH rfl (aa e) rfl ?_|refine CG (r) ⟨⟨rfl,aA.enc_fz _⟩,⟨rfl,rfl⟩,trivial⟩ ?_|refine CA ?_)
  (conv=>whnf)
  refine CE (ι:=Nat) (λi=>[(0,.hold .box (bz h)),(1,.hold .one [I ((t:Nat):Int)]),(2,.hold .one [I ((c:Nat):Int)]),(10,.hold .one [I ((i:Nat):Int)])]) (λi=>i<=h.Spans.length/\∀j,j<i->tj h c j=false) (λi=>h.Spans.length - i) (0) ?_ (⟨U0 _,λj W=>ω⟩) λi o=>?_
  ·exact wC
  obtain⟨R,w⟩:=o;by_cases C:i<h.Spans.length
  ·have l:=ah C
   by_cases O:(nth h.Spans i).Class=c
   ·have y:=u5 h (nth h.Spans i).Page
    cases D:fo h (nth h.Spans i).Page with
    | true=>
     rw[D]at y
     repeat'(first|refine gA ?_|(conv=>whnf);first|with_reducible refine CB (aa l) ?_|refine CH rfl (aa l) rfl ?_|refine CG (y) ⟨bC h,⟨rfl,rfl⟩,trivial⟩ ?_)
     ((conv=>whnf);refine CD (i+1) ⟨ω,th (by unfold tj;rw[D];simp) w⟩ ω ?_;(exact wC))
    | false=>
     rw[D]at y;have n:=rA h [] i B C;unfold lQ at n;by_cases P:(nk h i).length=0
     ·rw[C9 P]at n
      repeat'(first|refine gA ?_|(conv=>whnf);first|with_reducible refine CB (aa l) ?_|refine CH rfl (aa l) rfl ?_|refine CG (y) ⟨bC h,⟨rfl,rfl⟩,trivial⟩ ?_|refine CI (n) (.inl rfl) ?_)
      ((conv=>whnf);refine CD (i+1) ⟨ω,th (by unfold tj;rw[T0 (by omega:¬0<(nk h i).length)];simp) w⟩ ω ?_;(exact wC))
     ·rw[C8 P]at n
      have G:sF h c=some i:=Ei C (by unfold tj;rw[O0 O,D,O0 ω];rfl) w;rw[G]at d;simp only at d;obtain⟨S,T⟩:=B.slotT C (by omega:0<(nk h i).length);have H:=jj.nn S T;rw[d];generalize slotT h i=g at n |-;generalize uq h i=a at n H |-
      repeat'(first|refine gA ?_|(conv=>whnf);first|with_reducible refine CB (aa l) ?_|refine CH rfl (aa l) rfl ?_|refine CG (y) ⟨bC h,⟨rfl,rfl⟩,trivial⟩ ?_|refine CI (n) (.inl rfl) ?_)
      refine CF rfl rfl ?_;exact wC
   ·repeat'(first|refine gA ?_|(conv=>whnf);first|with_reducible refine CB (aa l) ?_|refine CH rfl (aa l) rfl ?_)
    ((conv=>whnf);refine CD (i+1) ⟨ω,th (by unfold tj;rw[T0 O];rfl) w⟩ ω ?_;(exact wC))
  ·obtain rfl:i=h.Spans.length:=ω
   have G:sF h c=none:=Dl w;rw[G]at d;simp only at d;have k:=BB h [] c B p;rw[d];unfold HC at k;by_cases J:(a8 h.Free 1).2.2=false
   ·rw[C9 J]at k |-
    repeat'(first|refine gD ?_|(conv=>whnf);first|refine CI (k) (.inl rfl) ?_)
    refine CF rfl rfl ?_;exact wC
   ·rw[C8 J]at k |-
    by_cases K:(gc h.Kernel (a8 h.Free 1).2.1).2=false
    ·rw[C9 K]at k |-
     repeat'(first|refine gD ?_|(conv=>whnf);first|refine CI (k) (.inl rfl) ?_)
     refine CF rfl rfl ?_;exact wC
    ·rw[C8 K]at k |-
     obtain⟨U,V⟩:=Kr B N p J K;have L:=rA (uJ h c) [] (uW h) U V;generalize uJ h c=g at k L |-;generalize uW h=b at k L |-
     repeat'(first|refine gD ?_|(conv=>whnf);first|refine CI (k) (.inl rfl) ?_|refine CI (L) (.inl rfl) ?_)
     refine CF rfl rfl ?_;exact wC
def Jr(h:ab)(size:Int):ab × Int:=
 if(a8 h.Free (kO size:Nat)).2.2=false then(h,-1)
 else if(iZ h size).2=kO size then({h with Kernel:=(iZ h size).1,Free:=(a8 h.Free (kO size:Nat)).1,Larges:=jv (PB (a8 h.Free (kO size:Nat)).2.1) h.Larges ⟨(a8 h.Free (kO size:Nat)).2.1,(kO size:Nat),size⟩},16*(a8 h.Free (kO size:Nat)).2.1)
 else({h with Kernel:=dO (iZ h size).1 (a8 h.Free (kO size:Nat)).2.1 (iZ h size).2},-1)
theorem wx(k:af)(p:Int)(i:Nat):cI k p (i+1)=if(cI k p i).2=i then((gc (cI k p i).1 (p+(i:Nat))).1,if(gc (cI k p i).1 (p+(i:Nat))).2=true then i+1 else i) else cI k p i:=rfl
theorem DO(k:af)(p:Int):∀i,(cI k p i).2<=i
 | 0=>z3 _
 | i+1=>by
  have b:=DO k p i;rw[wx];by_cases e:(cI k p i).2=i
  ·rw[C9 e]
   show(if _ then i+1 else i)<=i+1;by_cases a:(gc (cI k p i).1 (p+(i:Nat))).2=true
   ·rw[C9 a];exact z3 _
   ·rw[C8 a];exact Nat.le_succ _
  ·rw[C8 e];omega
theorem mQ{k:af}{p:Int}{i:Nat}(h:(cI k p i).2≠i):∀j,cI k p (i+j)=cI k p i/\(cI k p (i+j)).2<i+j
 | 0=>⟨rfl,by show(cI k p i).2<i;have:=DO k p i;omega⟩
 | j+1=>by
  have a:=mQ h j;have e:cI k p (i+(j+1))=cI k p (i+j):=by
   show cI k p (i+j+1)=_;rw[wx,C8 ω]
  exact⟨e.trans a.1,by rw[e];omega⟩
theorem yu(h:ab)(size:Int)(l:bm h [])(C:9<=size/\size<=1000)(V:h.Kernel.Calls<=90000):aO Tryz.prog 235 false [.ptr (bz h),.val none [I size]] [.ptr (bz (Jr h size).1),.val none [I size]] .one [I (Jr h size).2]:=by
 have E:=l.lens;have W:=E.larges;have Q:=l;have F:dS h<=32:=E.ents;have G:fe size=((kO size:Nat):Int):=by unfold fe kO;split<;>omega
 have hN:1<=kO size/\kO size<=63:=by unfold kO;omega
 have H:=lz size;rw[G]at H;have R:=gU h;have t:=oQ (dS h:Nat) h.Free (kO size:Nat) ⟨ω,ω⟩ l.rng ⟨ω,ω⟩ (by have:=E.free;omega);unfold QE at t;have b:=kU l (show(1:Int)<=(kO size:Nat) by omega);unfold Jr iZ;generalize kO size=N at *;generalize a8 h.Free (N:Nat)=r at t b |-;obtain⟨J,p,ok⟩:=r;simp only at t b |-;refine fM 105 [(296,[2,0]),(297,[2,0]),(2000018,[0,7])] [(2,268,[16,17,18,19,20,21,22,23,15,24,25,26,0,1,2,3,4,5,6,7,8,9,10,11,12,1010,1011,13,1011,14])] [(0,0),(0,0)] Tryz.func235 rfl (λu q=>?_);cases ok with
 | false=>
  rw[C9 rfl]
  repeat'(first|refine gO ?_|(conv=>whnf);first|refine CA ?_|refine C7 (H) ?_|refine CG (R) ⟨bC h,trivial⟩ ?_|refine CG (t) ⟨⟨rfl,rfl⟩,⟨rfl,d8 h.Free⟩,⟨rfl,rfl⟩,trivial⟩ ?_|refine CA ?_)
  refine CF rfl rfl ?_;exact wC
 | true=>
  rw[C8 (by simp)];obtain⟨S,K,B,u4⟩:=b rfl;change p+(N:Nat)<=(h.Kernel.Machine.Table.Entries.length:Nat) at K;change ∀q:Nat,p<=q->(q:Int)<p+(N:Nat)->(nth h.Kernel.Machine.Table.Entries q).Mode=0 at B
  have X:h.Kernel.Machine.Table.Entries.length<=32:=F
  repeat'(first|refine gO ?_|(conv=>whnf);first|refine CA ?_|refine C7 (H) ?_|refine CG (R) ⟨bC h,trivial⟩ ?_|refine CG (t) ⟨⟨rfl,rfl⟩,⟨rfl,d8 h.Free⟩,⟨rfl,rfl⟩,trivial⟩ ?_|refine CA ?_)
  (conv=>whnf)
  refine CE (ι:=Nat) (λi=>[(0,.hold .box (bz {h with Kernel:=(cI h.Kernel p i).1})),(1,.hold .one [I (size)]),(5,.hold .one [I ((N:Nat):Int)]),(6,.hold .one (b8 .own J)),(7,.hold .one [I (p)]),(9,.hold .one [I ((i:Nat):Int)])]) (λi=>i<=N/\(cI h.Kernel p i).2=i) (λi=>N - i) (0) ?_ (⟨U0 _,rfl⟩) λi l=>?_
  ·exact wC
  obtain⟨L,M⟩:=l;have s:=om.of (p:=p) (n:=N) Q.ker ω ⟨S,K⟩ B i L;have Y:=s.calls;have Z:=s.len;by_cases li:i<N
  ·have O:(nth (cI h.Kernel p i).1.Machine.Table.Entries (p+(i:Nat)).toNat).Mode=0:=by
    rw[s.out _ (by rw[M];omega)];exact B _ ω ω
   have c:=Db {h with Kernel:=(cI h.Kernel p i).1} (p+(i:Nat)) s.ker (by show(cI h.Kernel p i).1.Calls≠100000;omega) ⟨ω,by show p+(i:Nat)<((cI h.Kernel p i).1.Machine.Table.Entries.length:Nat);omega⟩ O;have a:cI h.Kernel p (i+1)=((gc (cI h.Kernel p i).1 (p+(i:Nat))).1,if(gc (cI h.Kernel p i).1 (p+(i:Nat))).2=true then i+1 else i):=by
    show(if(cI h.Kernel p i).2=i then _ else _)=_;rw[C9 M]
   simp only at c;cases e:(gc (cI h.Kernel p i).1 (p+(i:Nat))).2 with
   | true=>
    rw[e]at c a;rw[C9 rfl]at a;have P:(gc (cI h.Kernel p i).1 (p+(i:Nat))).1=(cI h.Kernel p (i+1)).1:=by rw[a]
    rw[P]at c
    repeat'(first|refine gD ?_|(conv=>whnf);first|refine CA ?_|refine CI (c) (.inl rfl) ?_)
    ((conv=>whnf);refine CD (i+1) ⟨ω,by rw[a]⟩ ω ?_;(exact wC))
   | false=>
    rw[e]at c a;rw[C8 (by simp)]at a;have d:=mQ (k:=h.Kernel) (p:=p) (i:=i+1) (by rw[a];simp only;omega) (N - (i+1));rw[show i+1+(N - (i+1))=N by omega]at d;rw[d.1]at d;have T:=om.of (p:=p) (n:=N) Q.ker ω ⟨S,K⟩ B (i+1) ω;rw[C8 (by have:=mQ (k:=h.Kernel) (p:=p) (i:=i+1) (by rw[a];simp only;omega) (N - (i+1));rw[show i+1+(N - (i+1))=N by omega]at this;omega)];rw[show cI h.Kernel p N=cI h.Kernel p (i+1) by have:=mQ (k:=h.Kernel) (p:=p) (i:=i+1) (by rw[a];simp only;omega) (N - (i+1));rw[show i+1+(N - (i+1))=N by omega]at this;exact this.1];rw[a]at T |-;have g:=T.ker;simp only at g |-;generalize (gc (cI h.Kernel p i).1 (p+(i:Nat))).1=k at c g |-
    repeat'(first|refine gD ?_|(conv=>whnf);first|refine CA ?_|refine CI (c) (.inl rfl) ?_)
    (conv=>whnf)
    refine CE (ι:=Nat) (λj=>[(0,.hold .box (bz {h with Kernel:=dO k p j})),(1,.hold .one [I (size)]),(5,.hold .one [I ((N:Nat):Int)]),(7,.hold .one [I (p)]),(9,.hold .one [I ((i:Nat):Int)]),(10,.hold .one [I ((j:Nat):Int)])]) (λj=>j<=i) (λj=>i - j) (0) ?_ (U0 _) λj hj=>?_
    ·exact wC
    have c4:=nv {h with Kernel:=dO k p j} (p+(j:Nat)) (jV g p j);by_cases lj:j<i
    ·repeat'(first|refine gD ?_|(conv=>whnf);first|refine CA ?_|refine CI (c4) (.inl rfl) ?_)
     ((conv=>whnf);refine CD (j+1) ω ω ?_;(exact wC))
    ·obtain rfl:j=i:=ω
     repeat'(first|refine gD ?_|(conv=>whnf);first|refine CA ?_)
     refine CF rfl rfl ?_;exact wC
  ·obtain rfl:i=N:=ω
   rw[C9 M];generalize (cI h.Kernel p i).1=k
   repeat'(first|refine gD ?_|(conv=>whnf);first|refine CA ?_)
   (conv=>whnf)
   refine CE (ι:=Nat) (λm=>[(0,.hold .box (bz {h with Kernel:=k,Free:=J})),(1,.hold .one [I (size)]),(5,.hold .one [I ((i:Nat):Int)]),(7,.hold .one [I (p)]),(11,.hold .one [I ((m:Nat):Int)])]) (λm=>m<=h.Larges.length/\∀(j:Nat)(z:a7),j<m->h.Larges[j]? = some z->PB p z=false) (λm=>h.Larges.length - m) (0) ?_ (⟨U0 _,λj z hj=>ω⟩) λm hm=>?_
   ·exact wC
   obtain⟨hm',U⟩:=hm;have hl2:({h with Kernel:=k,Free:=J} : ab).Larges.length=h.Larges.length:=rfl;by_cases go:m<h.Larges.length/\(nth h.Larges m).Page<p
   ·have o:=ah go.1
    repeat'(first|refine gD ?_|(conv=>whnf);first|with_reducible refine CB (aa o) ?_|refine CA ?_|refine CH rfl (aa o) rfl ?_)
    ((conv=>whnf);refine CD (m+1) ⟨ω,dC o (T0 ω) U⟩ ω ?_;(exact wC))
   ·have w:jY (PB p) h.Larges=m:=vo ω U λz C=>by
     have hlt:=(O2.1 C).1;have:z=nth h.Larges m:=(bq C).symm;subst this;exact O0 ω
    have o:m<h.Larges.length->h.Larges[m]? = some (nth h.Larges m):=λhh=>ah hh
    rw[vf w]
    repeat'(first|refine gD ?_|(conv=>whnf);first|with_reducible (first|refine CB (aa (o ω)) ?_|refine Bf.D (λhq=>?_) (λhq=>?_))|refine CA ?_|refine CH rfl (aa (o ω)) rfl ?_|refine CV rfl (tf h.Larges) rfl ?_|refine CT m rfl (by rw[Z0];omega) (aM λ_=>rfl) t4 ?_|refine CW m rfl (by rw[Z0];omega) (aM λ_=>rfl) v4 ?_|refine CO (λ_=>rfl) (λ_=>rfl) (by rw[U1];omega) (by decide) ?_|refine Ap.sn (aM λ_=>rfl) rfl (by rw[Z0,U1];omega) (by decide) rfl ?_|refine Ap.ins (e:=a7.enc .imm) (y:=⟨p,(i:Nat),size⟩) rfl (λ_=>rfl) (λ_=>rfl) ω (by decide) ?_)
    all_goals
     refine CF rfl ?_ ?_
     ·exact W0 (λz=>[I z]) ω
     ·exact wC
theorem Dh{k:af}(h:aB k=true)(b:ja k.Refuse):af.wf k:=by
 obtain⟨p,f,g,q,t⟩:=aD.1 h;obtain⟨u,w,y,A⟩:=bc.1 f;obtain⟨i,B,C⟩:=bx.1 g;refine⟨⟨⟨⟨ω,λr b=>?_⟩,⟨ω,λ_ _=>trivial⟩⟩,⟨ω,λe l=>?_⟩⟩,⟨ω,ω⟩,b⟩
 ·obtain⟨j,c,rfl⟩:=aW b
  obtain⟨D,n⟩:=AH h c;exact⟨ω,λv o=>by have:=n v o;exact⟨ω,ω⟩⟩
 ·obtain⟨j,c,rfl⟩:=aW l
  have a:=i j c;unfold ku at a;rw[C0]at a;by_cases d:(nth k.Machine.Table.Entries j).Mode=0
  ·have:=a.2.2.1 d;exact⟨⟨ω,ω⟩,⟨ω,ω⟩⟩
  ·have:=a.2.2.2 d;exact⟨⟨ω,ω⟩,⟨ω,ω⟩⟩
theorem H3{p:cv}(h:fj p=true):cv.wf p:=by
 have a:=λi b=>mn h (i:=i) b
 have e:p.Cells.length<=16:=mf h;unfold fj at h;simp only[I0,C0]at h;exact⟨⟨ω,ω⟩,⟨ω,ω⟩,⟨ω,λv c=>by
   obtain⟨j,d,rfl⟩:=aW c;have:=a j d;exact⟨ω,ω⟩⟩⟩
theorem bm.jobWf{h:ab}{E:List Int}(a:bm h E):cG.wf h.Job/\cG.sml h.Job:=by
 cases b:h.Meshing with
 | true=>
  obtain⟨c,f,g,i,j⟩:=fQ.1 (a.job b).1;have k:=mf c;exact⟨⟨H3 c,⟨ω,ω⟩,⟨ω,ω⟩⟩,by show h.Job.Plan.Cells.length<=1048576;omega⟩
 | false=>
  have:=a.noj b;unfold qX at this;rw[C0]at this;obtain⟨l,n,e,o,p⟩:=this;refine⟨⟨⟨⟨ω,ω⟩,⟨ω,ω⟩,⟨ω,λv d=>?_⟩⟩,⟨ω,ω⟩,⟨ω,ω⟩⟩,by show h.Job.Plan.Cells.length<=1048576;omega⟩;rw[X6 e]at d;cases d
theorem xy{n:Int}(h:0<=aL n):1<=n/\n<=8:=by
 unfold aL at h
 repeat' split at h
 all_goals omega
theorem jj.wf{h:ab}{E:List Int}(b:bm h E){a c:Int}(d:jj h.Spans a c):mr a:=by
 have:=d.bd b;exact⟨ω,ω⟩
theorem bm.wf{h:ab}{E:List Int}(d:bm h E)(M:ja h.Kernel.Refuse):ab.wf h:=by
 have q:=d.lens;have r:=d.L;have D:=d.nums;unfold bX at D;rw[C0]at D;obtain⟨X,N,Y⟩:=fD.1 d.rng;obtain⟨O,-,-,Z,q5,-⟩:=iA.1 d.quar;have w:=d.mail;have k:=d.hfl;unfold aE at k;rw[C9 w]at k;unfold bI at w;simp only[I0,C0,cn,gC,Y3,mL,Pe]at w;obtain⟨⟨⟨m1,m2,m3⟩,P⟩,m5⟩:=w;have A:=q.free;have Q:=q.spans;have h3:=q.larges;have h4:=q.objs;have h5:=q.caches;have h6:=q.quar;have t:∀n:Nat,br h.Mail n<=br h.Mail (n+1):=λn=>by simp only[br];omega
 have g:∀a b:Nat,a<=b->br h.Mail a<=br h.Mail b:=λa b u=>by
  induction u with
  | refl=>exact X4 _
  | step _ R=>exact W4 R (t _)
 have B:∀n:Nat,0<=br h.Mail n:=λn=>g 0 n (U0 _)
 have o:∀i,i<h.Mail.Buffers.length->(nth h.Mail.Buffers i).length<=30/\(nth h.Mail.Inbox i).length<=30:=λi f=>by
  have F:=g (i+1) h.Mail.Buffers.length ω;have S:=B i;simp only[br]at F;omega
 refine⟨Dh d.ker M,⟨ω,λx e=>?_⟩,⟨ω,λx e=>?_⟩,⟨ω,λx e=>?_⟩,⟨ω,λx e=>?_⟩,⟨ω,λx e=>?_⟩,⟨⟨ω,λl c=>?_⟩,⟨ω,λl c=>?_⟩⟩,⟨⟨ω,ω⟩,⟨ω,λx e=>?_⟩⟩,⟨ω,ω⟩,⟨ω,ω⟩,⟨ω,ω⟩,⟨ω,ω⟩,trivial,d.jobWf.1⟩
 ·have:=N x e;exact⟨⟨ω,ω⟩,⟨ω,ω⟩⟩
 ·have y:=r.sok x e
  have G:=en y;have T:=aC y;exact⟨⟨ω,ω⟩,⟨ω,ω⟩,⟨ω,ω⟩⟩
 ·have H:=aQ (r.lok x e)
  have J:=bS (r.lok x e);exact⟨⟨ω,ω⟩,⟨ω,ω⟩,⟨ω,ω⟩⟩
 ·obtain⟨o1,o2,o3,o4⟩:=d.onu x e
  have u:0<=x.Addr/\x.Addr<512/\-1000<=x.Size/\x.Size<=1000:=by
   rcases d.oow x e with⟨s,y,A,Q⟩|⟨l,c,F,S⟩
   ·have T:=aC (r.sok s y)
    have:=xy (n:=x.Size) ω;exact⟨by have:=A.1;omega,by have:=A.2.1;omega,ω,ω⟩
   ·have H:=aQ (r.lok l c)
    have J:=bS (r.lok l c);omega
  exact⟨⟨ω,ω⟩,⟨ω,ω⟩,⟨ω,ω⟩,⟨ω,ω⟩⟩
 ·obtain⟨c1,U⟩:=q.lists x e
  refine⟨ω,λl c=>⟨by have:=U l c;omega,λa C=>?_⟩⟩;obtain⟨j,V,rfl⟩:=aW c;exact jj.wf d (d.hca x e j V a C)
 ·obtain⟨i,f,rfl⟩:=aW c
  have G:=o i f;refine⟨ω,λp K=>?_⟩;have W:=(P i f).1 p K;exact⟨⟨ω,ω⟩,jj.wf d (k p.Addr (v3.2 (.inl (List.mem_flatMap.2 ⟨_,am f,z4.2 ⟨p,K,rfl⟩⟩))))⟩
 ·obtain⟨i,f,rfl⟩:=aW c
  have G:=o i ω;exact⟨ω,λa C=>jj.wf d (k a (v3.2 (.inr (List.mem_flatten.2 ⟨_,am f,C⟩))))⟩
 ·have H:=O x e
  have J:=d.snc x e;exact⟨jj.wf d (d.hqu x e),⟨ω,ω⟩,⟨ω,ω⟩⟩
structure Rz(h:ab):Prop where
 ker:aB h.Kernel=true
 wf:ab.wf h
 sml:ab.sml h
 lens:Nz h
theorem bm.fit{h:ab}{E:List Int}(a:bm h E)(b:ja h.Kernel.Refuse)(c:aI.sml h.Mail):Rz h:=⟨a.ker,a.wf b,a.lens.sml a.ker c a.jobWf.2,a.lens⟩
theorem xd{h:ab}(b:bm h [])(c:h.Meshing=true):aB (mStep h).Kernel=true/\(mStep h).Kernel.Calls<=h.Kernel.Calls+1/\(mStep h).Kernel.Refuse=h.Kernel.Refuse/\(mStep h).Mail=h.Mail/\(Dt h=true->(mStep h).Meshing=false)/\cG.wf (mStep h).Job/\cG.sml (mStep h).Job:=by
 have s:=JS.of b c;refine⟨s.ker,s.calls.2.1,s.calls.2.2,rfl,λa=>?_,?_⟩
 ·unfold Dt at a
  rw[C0]at a;show(if over _=true then false else h.Meshing)=false;rw[C9 (show over (jz h.Kernel h.Job).2=true from O0 (.inl a))]
 ·show cG.wf (if over _=true then _ else _)/\cG.sml (if over _=true then _ else _)
  split
  ·exact⟨⟨⟨⟨by decide,by decide⟩,⟨by decide,by decide⟩,⟨by decide,λv f=>by cases f⟩⟩,⟨by decide,by decide⟩,⟨by decide,by decide⟩⟩,by show(0:Nat)<=1048576;omega⟩
  ·have d:=(fQ.1 (b.job c).1).1
   have g:=mf d;obtain⟨j,k⟩:=s.ph;obtain⟨l,i⟩:=s.nxt;have e:=s.plan;refine⟨⟨by rw[e];exact H3 d,⟨ω,ω⟩,⟨ω,by rw[e]at i;omega⟩⟩,by show((jz h.Kernel h.Job).2.Plan.Cells).length<=1048576;rw[e];omega⟩
def uA(h:ab):Nat->ab × Bool
 | 0=>(h,false)
 | i+1=>if(uA h i).1.Meshing=true then(mStep (uA h i).1,Dt (uA h i).1) else uA h i
def fin(h:ab):ab × Bool:=uA h 100
theorem tV{h:ab}(hi:bm h []):bm (started h).1 []/\(started h).1.Kernel=h.Kernel/\(started h).1.Mail=h.Mail:=by
 have r:=hi.nums;unfold bX at r;rw[C0]at r;have t:=(me (bN h).length (show 0<=h.Seed/\h.Seed<=1073741823 by omega) ((bN h).length - 1)).2;have g:=qB (bN h) (show 0<=h.Seed/\h.Seed<=1073741823 by omega);have c:bX {h with Seed:=(shuf (bN h).length h.Seed).2} = true:=by
  unfold bX;rw[C0];unfold shuf;simp only;omega
 cases j:m8 (bN h) h.Seed with
 | nil=>
  have f:Ab.started h=({h with Seed:=(shuf (bN h).length h.Seed).2},false):=by unfold Ab.started;rw[j]
  rw[f];exact⟨{hi with nums:=c},rfl,rfl⟩
 | cons q y=>
  obtain⟨C,D,k⟩:=g q (by rw[j];exact V1 ..);have f:Ab.started h=({h with Seed:=(shuf (bN h).length h.Seed).2,Meshing:=true,Job:=xN (dU (nth (bN h) q.A.toNat) (nth (bN h) q.B.toNat))},true):=by unfold Ab.started;rw[j]
  rw[f];have d:∀s∈bN h,s∈h.Spans:=λs u=>pb h (z3 _) s (List.mem_of_mem_take u)
  have l:=d _ (am (xs:=bN h) (i:=q.A.toNat) ω);have n:=d _ (am (xs:=bN h) (i:=q.B.toNat) ω);generalize nth (bN h) q.A.toNat=a at k l |-;generalize nth (bN h) q.B.toNat=b at k n |-;obtain⟨w,E,F⟩:=ss k;have o:jx (xN (dU a b))=true:=fQ.2 ⟨w,by show(0:Int)<=0;omega,by show(0:Int)<=5;omega,by show(0:Int)<=0;omega,by show(0:Int)<=(((dU a b).Cells.length:Nat):Int);omega⟩;have p:(∃s∈h.Spans,s.Page=(dU a b).Keep)/\∃s∈h.Spans,s.Page=(dU a b).Move:=by
   unfold dU;split
   ·exact⟨⟨b,n,rfl⟩,⟨a,l,rfl⟩⟩
   ·exact⟨⟨a,l,rfl⟩,⟨b,n,rfl⟩⟩
  exact⟨{hi with nums:=c,job:=λ_=>⟨o,p⟩,noj:=λe=>by cases e},rfl,rfl⟩
theorem bm.objSz{h:ab}{E:List Int}(a:bm h E):∀o∈h.Objs,0<=o.Size/\o.Size<=1000:=λx c=>by
 rcases a.oow x c with⟨s,d,e,f⟩|⟨l,b,g,i⟩
 ·have j:=aC (a.L.sok s d)
  have:=xy (n:=x.Size) ω;omega
 ·have k:=bS (a.L.lok l b)
  omega
theorem JW{h:ab}(t:Int){size:Int}(c:bm h [])(d:9<=size/\size<=1000):mz h t size=if(Jr h size).2<0 then((Jr h size).1,-1,4) else(addO (Jr h size).1 (Jr h size).2 size t,(Jr h size).2,0):=by
 unfold mz Jr;by_cases a:(a8 h.Free (kO size:Nat)).2.2=false
 ·rw[C9 a,C9 a]
  exact(C9 (show(-1:Int)<0 by decide)).symm
 ·rw[C8 a,C8 a]
  obtain⟨e,-⟩:=kU c (show(1:Int)<=(kO size:Nat) by unfold kO;omega) (by simpa using a);by_cases b:(iZ h size).2=kO size
  ·rw[C9 b,C9 b]
   exact(C8 (show ¬16*(a8 h.Free (kO size:Nat)).2.1<0 by omega)).symm
  ·rw[C8 b,C8 b]
   exact(C9 (show(-1:Int)<0 by decide)).symm
theorem xX(h:ab)(t size:Int)(k:bm h []):aO Tryz.prog 143 false [.ptr (bz h),.val none [I t],.val none [I size]] [.ptr (bz (fk h t size).1),.val none [I t],.val none [I size]] (.tup [none,none]) [I (fk h t size).2.1,I (fk h t size).2.2]:=by
 have X:=k.lens;have hlc:=X.caches;have P:=X.objs;have p:=k.nums;unfold bX at p;rw[C0]at p;have Q:=sG k.objSz h.Objs.length (z3 _);change 0<=xv h/\xv h<=_ at Q;have n:=aG t 0 ((h.Caches.length:Int) - 1);have r:=aG size 1 1000;have E:=vX h k.objSz ω;have F:=jX size;refine fM 119 [(234,[2,0,0]),(235,[2,0])] [(7,10,[36,37,38,39,40,41,42,43,44,45]),(18,272,[81,82,83,84,85,86,87,89,90,91,92,93,94,95,96,97,0,1,2,3,4,5,6,8,9,10,11,12,13,14,15,16,1016,7,1008,1009,1010,1011,1012,1013,1014,1015,1016,17,18]),(1048594,0,[8])] [(0,0),(0,0),(0,0)] Tryz.func143 rfl (λu q=>?_) (.inr ⟨trivial,trivial,trivial⟩);unfold fk;by_cases h1:1000000<=h.Next
 ·rw[C9 (.inl h1)]
  repeat'(first|refine gD ?_|(conv=>whnf);first|refine CA ?_)
  refine CF rfl rfl ?_;exact wC
 by_cases h2:90000<h.Kernel.Calls
 ·rw[C9 (.inr h2)]
  repeat'(first|refine gD ?_|(conv=>whnf);first|with_reducible refine Bf.D (λb=>?_) (λb=>?_)|refine CA ?_)
  refine CF rfl rfl ?_;exact wC
 rw[C8 ω];by_cases C:¬(0<=t/\t<=h.Caches.length - 1)
 ·rw[C9 C]
  rw[T0 C]at n
  repeat'(first|refine gD ?_|(conv=>whnf);first|with_reducible refine Bf.D (λb=>?_) (λb=>?_)|refine CA ?_|refine C7 (n) ?_)
  refine CF rfl rfl ?_;exact wC
 rw[C8 C];replace C:=Decidable.not_not.1 C;rw[O0 C]at n;by_cases B:¬(1<=size/\size<=1000)
 ·rw[C9 B]
  rw[T0 B]at r
  repeat'(first|refine gD ?_|(conv=>whnf);first|with_reducible refine Bf.D (λb=>?_) (λb=>?_)|refine CA ?_|refine C7 (n) ?_|refine C7 (r) ?_)
  refine CF rfl rfl ?_;exact wC
 rw[C8 B];replace B:=Decidable.not_not.1 B;rw[O0 B]at r;by_cases Y:h.Limit<xv h+size
 ·rw[C9 Y]
  repeat'(first|refine gD ?_|(conv=>whnf);first|with_reducible refine Bf.D (λb=>?_) (λb=>?_)|refine CA ?_|refine C7 (n) ?_|refine C7 (r) ?_|refine CG (E) ⟨⟨rfl,bC h⟩,trivial⟩ ?_|refine CA ?_)
  refine CF rfl rfl ?_;exact wC
 rw[C8 Y];by_cases G:0<=aL size
 ·rw[C9 G]
  have hc3:aL size<=3:=by unfold aL;repeat' split<;>omega
  obtain⟨T,rfl⟩:=Z2 C.1;obtain⟨K,hK⟩:=Z2 G;have o:=y6 h T K k ω ω ω;have s:=zQ (t:=T) (c:=K) k ω ω ω;rw[hK]at F |-;simp only[X2];generalize eG h T K=w at o s |-;obtain⟨g,a⟩:=w;have H:g.Next=h.Next:=s.nx;simp only at o |-;by_cases J:a<0
  ·rw[C9 J]
   repeat'(first|refine gD ?_|(conv=>whnf);first|with_reducible refine Bf.D (λb=>?_) (λb=>?_)|refine CA ?_|refine C7 (n) ?_|refine C7 (r) ?_|refine CG (E) ⟨⟨rfl,bC h⟩,trivial⟩ ?_|refine CA ?_|refine C7 (F) ?_|refine CI (o) (.inl rfl) ?_)
   refine CF rfl rfl ?_;exact wC
  ·rw[C8 J]
   obtain⟨k1,k2⟩:=s.yes (show(0:Int)<=a by omega);have R:g.Objs.length<=512:=k1.lens.objs
   repeat'(first|refine gD ?_|(conv=>whnf);first|with_reducible refine Bf.D (λb=>?_) (λb=>?_)|refine CA ?_|refine C7 (n) ?_|refine C7 (r) ?_|refine CG (E) ⟨⟨rfl,bC h⟩,trivial⟩ ?_|refine CA ?_|refine C7 (F) ?_|refine CI (o) (.inl rfl) ?_)
   (conv=>whnf)
   refine CE (ι:=Nat) (λi=>[(0,.hold .box (bz g)),(1,.hold .one [I ((T:Nat):Int)]),(2,.hold .one [I (size)]),(8,.hold .one [I (a)]),(9,.hold .one [I ((i:Nat):Int)])]) (λi=>i<=g.Objs.length/\∀(j:Nat)(z:bK),j<i->g.Objs[j]? = some z->MR a z=false) (λi=>g.Objs.length - i) (0) ?_ (⟨U0 _,λj z hj=>ω⟩) λi k=>?_
   ·exact wC
   obtain⟨S,L⟩:=k;by_cases U:i<g.Objs.length/\(nth g.Objs i).Addr<a
   ·have d:=ah U.1
    repeat'(first|refine gD ?_|(conv=>whnf);first|with_reducible refine CB (aa d) ?_|refine CA ?_|refine CH rfl (aa d) rfl ?_)
    ((conv=>whnf);refine CD (i+1) ⟨ω,dC d (T0 ω) L⟩ ω ?_;(exact wC))
   ·have l:jY (MR a) g.Objs=i:=vo ω L λz M=>by
     have V:=(O2.1 M).1;have:z=nth g.Objs i:=(bq M).symm;subst this;exact O0 ω
    have d:i<g.Objs.length->g.Objs[i]? = some (nth g.Objs i):=λW=>ah W
    rw[show addO g a size (T:Nat) = {g with Objs:=g.Objs.take i++⟨g.Next,a,size,(T:Nat)⟩::g.Objs.drop i,Next:=g.Next+1} by unfold addO;rw[vf l]]
    repeat'(first|refine gD ?_|(conv=>whnf);first|with_reducible (first|refine CB (aa (d ω)) ?_|refine Bf.D (λb=>?_) (λb=>?_))|refine CA ?_|refine CH rfl (aa (d ω)) rfl ?_|refine CV rfl (vi g.Objs) rfl ?_|refine CT i rfl (by rw[Z0];omega) (aM λ_=>rfl) t4 ?_|refine CW i rfl (by rw[Z0];omega) (aM λ_=>rfl) v4 ?_|refine CO (λ_=>rfl) (λ_=>rfl) (by rw[U1];omega) (by decide) ?_|refine Ap.sn (aM λ_=>rfl) rfl (by rw[Z0,U1];omega) (by decide) rfl ?_|refine Ap.ins (e:=bK.enc .imm) (y:=⟨g.Next,a,size,(T:Nat)⟩) rfl (λ_=>rfl) (λ_=>rfl) ω (by decide) ?_|refine CA ?_)
    all_goals
     refine CF rfl rfl ?_;exact wC
 ·rw[C8 G]
  have N:9<=size:=by unfold aL at G;repeat' split at G<;>omega
  have o:=yu h size k ⟨N,B.2⟩ ω;rw[JW t k ⟨N,B.2⟩];have Z:(Jr h size).1.Next=h.Next/\(Jr h size).1.Objs=h.Objs:=by
   unfold Jr;split
   ·exact⟨rfl,rfl⟩
   ·split<;>exact⟨rfl,rfl⟩
  generalize Jr h size=w at o Z |-;obtain⟨g,a⟩:=w;obtain⟨H,O⟩:=Z;simp only at o H O |-;have R:g.Objs.length<=512:=by rw[O];exact P
  by_cases J:a<0
  ·rw[C9 J]
   repeat'(first|refine gD ?_|(conv=>whnf);first|with_reducible refine Bf.D (λb=>?_) (λb=>?_)|refine CA ?_|refine C7 (n) ?_|refine C7 (r) ?_|refine CG (E) ⟨⟨rfl,bC h⟩,trivial⟩ ?_|refine CA ?_|refine C7 (F) ?_|refine CI (o) (.inl rfl) ?_)
   refine CF rfl rfl ?_;exact wC
  ·rw[C8 J]
   repeat'(first|refine gD ?_|(conv=>whnf);first|with_reducible refine Bf.D (λb=>?_) (λb=>?_)|refine CA ?_|refine C7 (n) ?_|refine C7 (r) ?_|refine CG (E) ⟨⟨rfl,bC h⟩,trivial⟩ ?_|refine CA ?_|refine C7 (F) ?_|refine CI (o) (.inl rfl) ?_)
   (conv=>whnf)
   refine CE (ι:=Nat) (λi=>[(0,.hold .box (bz g)),(1,.hold .one [I (t)]),(2,.hold .one [I (size)]),(8,.hold .one [I (a)]),(9,.hold .one [I ((i:Nat):Int)])]) (λi=>i<=g.Objs.length/\∀(j:Nat)(z:bK),j<i->g.Objs[j]? = some z->MR a z=false) (λi=>g.Objs.length - i) (0) ?_ (⟨U0 _,λj z hj=>ω⟩) λi k=>?_
   ·exact wC
   obtain⟨S,L⟩:=k;by_cases U:i<g.Objs.length/\(nth g.Objs i).Addr<a
   ·have d:=ah U.1
    repeat'(first|refine gD ?_|(conv=>whnf);first|with_reducible refine CB (aa d) ?_|refine CA ?_|refine CH rfl (aa d) rfl ?_)
    ((conv=>whnf);refine CD (i+1) ⟨ω,dC d (T0 ω) L⟩ ω ?_;(exact wC))
   ·have l:jY (MR a) g.Objs=i:=vo ω L λz M=>by
     have V:=(O2.1 M).1;have:z=nth g.Objs i:=(bq M).symm;subst this;exact O0 ω
    have d:i<g.Objs.length->g.Objs[i]? = some (nth g.Objs i):=λW=>ah W
    rw[show addO g a size t = {g with Objs:=g.Objs.take i++⟨g.Next,a,size,t⟩::g.Objs.drop i,Next:=g.Next+1} by unfold addO;rw[vf l]]
    repeat'(first|refine gD ?_|(conv=>whnf);first|with_reducible (first|refine CB (aa (d ω)) ?_|refine Bf.D (λb=>?_) (λb=>?_))|refine CA ?_|refine CH rfl (aa (d ω)) rfl ?_|refine CV rfl (vi g.Objs) rfl ?_|refine CT i rfl (by rw[Z0];omega) (aM λ_=>rfl) t4 ?_|refine CW i rfl (by rw[Z0];omega) (aM λ_=>rfl) v4 ?_|refine CO (λ_=>rfl) (λ_=>rfl) (by rw[U1];omega) (by decide) ?_|refine Ap.sn (aM λ_=>rfl) rfl (by rw[Z0,U1];omega) (by decide) rfl ?_|refine Ap.ins (e:=bK.enc .imm) (y:=⟨g.Next,a,size,t⟩) rfl (λ_=>rfl) (λ_=>rfl) ω (by decide) ?_|refine CA ?_)
    all_goals
     refine CF rfl rfl ?_;exact wC
theorem GA(h:ab)(a n:Int)(t:h.Larges.length<=4096)(j:∀l∈h.Larges,bQ l=true)(o:yi h a<0):aO Tryz.prog 358 false [.ptr (bz h),.val none [I a],.val none [I n]] [.ptr (bz h),.val none [I a],.val none [I n]] .one [B false]:=by
 have b:∀l∈h.Larges,l.Page*16≠a:=λl c e=>by
  have:=Ee (p:=H4 a) c (O0 e);unfold yi at o;omega
 refine fM 136 [(297,[2,0])] [(8,6,[49,50,51,52,53,54]),(9,10,[56,57,58,59,60,61,62,63,64,65]),(20,270,[123,124,125,126,127,128,129,130,131,122,132,133,134,135,0,1,2,3,4,5,6,7,8,9,10,11,12,13,14,1011])] [(0,0),(0,0),(0,0)] Tryz.func358 rfl (λu q=>?_)
 repeat'(first|refine gO ?_|(conv=>whnf);first|refine CA ?_)
 (conv=>whnf)
 refine CE (ι:=Nat) (λk=>[(0,.hold .box (bz h)),(1,.hold .one [I (a)]),(2,.hold .one [I (n)]),(7,.hold .one [I ((k:Nat):Int)])]) (λk=>k<=h.Larges.length) (λk=>h.Larges.length - k) (0) ?_ (U0 _) λk w=>?_
 ·repeat'(first|exact trivial|rfl |exact nh r|exact nh g|exact dN _|refine CJ ?_ ?_|(exact zw (by first|omega|(simp only;omega)|(simp;omega))))
 by_cases d:k<h.Larges.length
 ·have i:=ah d
  have y:=b _ (am d);have C:=aQ (j _ (am d))
  repeat'(first|refine gA ?_|(conv=>whnf);first|with_reducible refine CB (aa i) ?_|refine CA ?_|refine CH rfl (aa i) rfl ?_)
  ((conv=>whnf);refine CD (k+1) ω ω ?_;(exact wC))
 ·repeat'(first|refine gD ?_|(conv=>whnf);first|refine CA ?_)
  refine CF rfl rfl ?_;exact wC
theorem Qb(h:ab)(a:Int)(m:Nat):bz {h with Kernel:=zK h.Kernel a (m+1)} = (bz {h with Kernel:=zK h.Kernel a m}).set 0 (.s .own (((zK h.Kernel a m).Machine.Frames.Cells.map (aF .own)).set (au (zK h.Kernel a m).Machine.Table ((a+m) / 16)).Frame.toNat ((aF .own (nth (zK h.Kernel a m).Machine.Frames.Cells (gi (zK h.Kernel a m) (a+m)))).set 0 (.s .own (((nth (zK h.Kernel a m).Machine.Frames.Cells (gi (zK h.Kernel a m) (a+m))).map (rI .own)).set ((a+m) % 16).toNat (splice (rI .own (nth (nth (zK h.Kernel a m).Machine.Frames.Cells (gi (zK h.Kernel a m) (a+m))) ((a+m) % 16).toNat)) 0 [I 0])))))):=
 Hp {h with Kernel:=zK h.Kernel a m} (a+m) 0
def lc(h:ab)(i k:Nat)(n:Int)(K:af):ab:={h with Kernel:=K,Larges:=h.Larges.set k (trimL (nth h.Larges k) n),Objs:=h.Objs.set i {nth h.Objs i with Size:=n}}
theorem JM(h:ab)(i k:Nat)(n:Int)(K:af):(lc h i k n K).Objs.map (bK.enc .own)=(h.Objs.map (bK.enc .own)).set i (splice (bK.enc .own (nth h.Objs i)) 2 [I n]):=by
 simp[lc,W5,bK.enc,splice]
theorem rZ(h:ab)(i:Nat)(n:Int)(j:bm h [])(H:i<h.Objs.length)(hg:0<=yi h (nth h.Objs i).Addr):aO Tryz.prog 358 false [.ptr (bz h),.val none [I (nth h.Objs i).Addr],.val none [I n]] [.ptr (bz (if ll h i n then trimH h i (yi h (nth h.Objs i).Addr).toNat n else h)),.val none [I (nth h.Objs i).Addr],.val none [I n]] .one [B (decide (ll h i n))]:=by
 have c:=j.lens;have hnl:=c.larges;have hno:=c.objs;have hpg:dS h<=32:=c.ents;obtain⟨f1,f2,f3⟩:=gq (H4 (nth h.Objs i).Addr) h.Larges hg;obtain⟨g,o⟩:=Z2 hg;have b:g<h.Larges.length:=by unfold yi at o;omega
 have Y:(nth h.Larges g).Page*16=(nth h.Objs i).Addr:=by
  have:=of_decide_eq_true f2;rw[show(dP (H4 (nth h.Objs i).Addr) h.Larges).toNat=g by unfold yi at o;omega]at this;exact this
 have J:∀k,k<g->(nth h.Larges k).Page*16≠(nth h.Objs i).Addr:=λk hk e=>by
  have N:k<h.Larges.length:=ω
  have hok1:=aQ (j.L.lok _ (am N));have hok2:=aQ (j.L.lok _ (am b));have:=j.L.one k g N b 0 0 ω ω ω;omega
 have p:ll h i n↔9<=n/\n<=(nth h.Larges g).Size:=by
  unfold ll;rw[o,X2];exact⟨λx=>x.2,λx=>⟨ω,x⟩⟩
 rw[o,X2];have hbd:=sD j (am H);obtain⟨-,Z,w⟩:=j.objAt (am H);have hii:nK h (nth h.Objs i).Addr=i:=by
  have h2:=(j.objAt (am H)).1;exact gY (f:=(·.Addr)) (iq j.osr) h2 H (by rw[Z])
 rw[hii]at w;have E:=ah H;have hxg:=ah b;have V:=vK (nth h.Larges g) n (j.L.lok _ (am b));have h8:=j.L.lok _ (am b);unfold bQ at h8;rw[C0]at h8;refine fM 136 [(297,[2,0])] [(8,6,[49,50,51,52,53,54]),(9,10,[56,57,58,59,60,61,62,63,64,65]),(20,270,[123,124,125,126,127,128,129,130,131,122,132,133,134,135,0,1,2,3,4,5,6,7,8,9,10,11,12,13,14,1011])] [(0,0),(0,0),(0,0)] Tryz.func358 rfl (λu q=>?_)
 repeat'(first|refine gO ?_|(conv=>whnf);first|refine CA ?_)
 (conv=>whnf)
 refine CE (ι:=Nat) (λk=>[(0,.hold .box (bz h)),(1,.hold .one [I ((nth h.Objs i).Addr)]),(2,.hold .one [I (n)]),(7,.hold .one [I ((k:Nat):Int)])]) (λk=>k<=g) (λk=>g - k) (0) ?_ (U0 _) λk hk=>?_
 ·repeat'(first|exact trivial|rfl |exact nh r|exact nh d|exact dN _|refine CJ ?_ ?_|(exact zw (by first|omega|(simp only;omega)|(simp;omega))))
 have l:=ah (xs:=h.Larges) (i:=k) ω;have hfk:=aQ (j.L.lok _ (am (xs:=h.Larges) (i:=k) ω));by_cases e:k=g;rotate_left
 ·have hne:=J k ω
  repeat'(first|refine gA ?_|(conv=>whnf);first|with_reducible refine CB (aa l) ?_|refine CA ?_|refine CH rfl (aa l) rfl ?_)
  ((conv=>whnf);refine CD (k+1) ω ω ?_;(exact wC))
 subst e;by_cases F:9<=n/\n<=(nth h.Larges k).Size;rotate_left
 ·rw[C8 (by rw[p];exact F),T0 (by rw[p];exact F)]
  rw[C8 F]at V
  repeat'(first|refine gA ?_|(conv=>whnf);first|with_reducible refine CB (aa l) ?_|refine CA ?_|refine CH rfl (aa l) rfl ?_|refine C7 (V) ?_)
  refine CF rfl rfl ?_;exact wC
 rw[C9 (by rw[p];exact F),O0 (by rw[p];exact F)];rw[C9 F]at V;have y:=λm hm=>DS j b F (m:=m) hm
 have D:=λm=>(tG h.Kernel (16*(nth h.Larges k).Page+n) m).1
 have O:=λa W=>og j b (a:=a) W
 have hsz:n<=16*(nth h.Larges k).Pages:=ω
 generalize hM:(16*((n+15) / 16) - n).toNat=M at *;have hfl:∀m,(zK h.Kernel (16*(nth h.Larges k).Page+n) m).Machine.Frames.Cells.length=h.Kernel.Machine.Frames.Cells.length:=λm=>by
  induction m with
  | zero=>rfl
  | succ m ih=>show(List.set _ _ _).length=_;rw[O1];exact ih
 have cO:=qu {h with Larges:=h.Larges.set k (trimL (nth h.Larges k) n)} (nth h.Objs i).Addr (by show h.Objs.length<=_;omega);change ao _ _ _ [.val (some 24) (ab.enc .imm {h with Larges:=h.Larges.set k (trimL (nth h.Larges k) n)}),_] _ [I (dP (l7 (nth h.Objs i).Addr) h.Objs)]at cO;rw[w]at cO;have Q:=bC {h with Larges:=h.Larges.set k (trimL (nth h.Larges k) n)};have heL:bz {h with Larges:=h.Larges.set k (trimL (nth h.Larges k) n)} = (bz h).set 7 (.s .own ((h.Larges.map (a7.enc .own)).set k (a7.enc .own (trimL (nth h.Larges k) n)))):=by simp[bz,W5]
 rw[heL]at Q
 repeat'(first|refine gA ?_|(conv=>whnf);first|with_reducible (first|refine CB (aa l) ?_|refine CB (aa E) ?_)|refine CA ?_|refine CH rfl (aa l) rfl ?_|refine C7 (V) ?_|refine CN rfl rfl (aa l) rfl (C1 rfl) rfl ?_|refine CG (cO) ⟨⟨rfl,Q⟩,⟨rfl,rfl⟩,trivial⟩ ?_|refine CN rfl rfl (aa E) rfl (C1 rfl) rfl ?_|refine CH rfl (aa E) rfl ?_|refine CA ?_)
 rw[<-Y];have e0:lc h i k n h.Kernel=lc h i k n (zK h.Kernel (16*(nth h.Larges k).Page+n) 0):=rfl;have r:C.s .own ((lc h i k n (zK h.Kernel (16*(nth h.Larges k).Page+n) 0)).Larges.map (a7.enc .own))=C.s .own ((h.Larges.map (a7.enc .own)).set k (a7.enc .own (trimL (nth h.Larges k) n))):=by simp[lc,W5]
 have d:C.s .own ((lc h i k n (zK h.Kernel (16*(nth h.Larges k).Page+n) 0)).Objs.map (bK.enc .own))=C.s .own ((h.Objs.map (bK.enc .own)).set i (splice (bK.enc .own (nth h.Objs i)) 2 [I n])):=W0 _ (JM h i k n _)
 (conv=>whnf)
 refine CE (ι:=Nat) (λm=>[(0,.hold .box (bz (lc h i k n (zK h.Kernel (16*(nth h.Larges k).Page+n) m)))),(1,.hold .one [I (((nth h.Larges k).Page*16))]),(8,.hold .box (a7.enc .own (trimL (nth h.Larges k) n))),(9,.hold .box (ax.enc .own (xk (nth h.Larges k) n))),(11,.hold .one [I (((16*(nth h.Larges k).Page+n)+(m:Nat)))])]) (λm=>m<=M) (λm=>M - m) (0) ?_ (U0 _) λm hm=>?_
 ·repeat'(first|exact trivial|rfl |exact nh r|exact nh d|exact dN _|refine CJ ?_ ?_|(exact zw (by first|omega|(simp only;omega)|(simp;omega))))
 have hmod:IntKind.i64.wrap 0=0:=rfl;by_cases lm:m<M
 ·have W:0<=(16*(nth h.Larges k).Page+n)+(m:Nat)/\(16*(nth h.Larges k).Page+n)+(m:Nat)<512:=ω
  have R:=O ((16*(nth h.Larges k).Page+n)+(m:Nat)) ω;have t:=y m hm;rw[<-D m]at R;have hks:=bA t;have c2:=cY (zK h.Kernel (16*(nth h.Larges k).Page+n) m).Machine.Table (((16*(nth h.Larges k).Page+n)+(m:Nat)) / 16) hks.1.2;obtain⟨-,-,-,q0,q1⟩:=cu t R;have hul:=(bc.1 (aD.1 t).2.1).2.2.1;have S:gi (zK h.Kernel (16*(nth h.Larges k).Page+n) m) ((16*(nth h.Larges k).Page+n)+(m:Nat))<(zK h.Kernel (16*(nth h.Larges k).Page+n) m).Machine.Frames.Cells.length:=by unfold gi;omega
  have G:(zK h.Kernel (16*(nth h.Larges k).Page+n) m).Machine.Frames.Cells[(au (zK h.Kernel (16*(nth h.Larges k).Page+n) m).Machine.Table (((16*(nth h.Larges k).Page+n)+(m:Nat)) / 16)).Frame.toNat]? = some _:=ah S;have h16:=(AH t S).1;have T:=ah (xs:=nth (zK h.Kernel (16*(nth h.Larges k).Page+n) m).Machine.Frames.Cells (gi (zK h.Kernel (16*(nth h.Larges k).Page+n) m) ((16*(nth h.Larges k).Page+n)+(m:Nat)))) (i:=(((16*(nth h.Larges k).Page+n)+(m:Nat)) % 16).toNat) (by rw[h16];omega);have htm:((16*(nth h.Larges k).Page+n)+(m:Nat)).tmod 16=((16*(nth h.Larges k).Page+n)+(m:Nat)) % 16:=gm W.1;have hpu:=Qb (lc h i k n h.Kernel) (16*(nth h.Larges k).Page+n) m;have hwr:=qe W;have hst:(trimL (nth h.Larges k) n).Pages=(n+15) / 16:=rfl
  repeat'(first|refine gD ?_|(conv=>whnf);first|refine CA ?_|refine CM (by decide) ?_|refine CK hwr ?_|refine CS htm ?_|refine CG (c2) ⟨⟨rfl,CY _⟩,⟨rfl,rfl⟩,trivial⟩ ?_|refine CL q0 (aa G) ?_|refine CH rfl (aa G) rfl ?_|refine CL ω (aa T) ?_|refine Pu.two rfl rfl (aa G) rfl rfl rfl (aa T) rfl (z3 _) hpu ?_)
  ((conv=>whnf);refine CD (m+1) ω ω ?_;(exact wC))
 obtain rfl:m=M:=ω
 have hst:(trimL (nth h.Larges k) n).Pages=(n+15) / 16:=rfl;have hkM:=y m (z3 _);have U:(zK h.Kernel (16*(nth h.Larges k).Page+n) m).Machine.Table.Entries.length=dS h:=by rw[D];rfl
 have hTK:tU h k n=zK h.Kernel (16*(nth h.Larges k).Page+n) m:=by unfold tU;rw[hM]
 unfold trimH GX;rw[hTK];generalize zK h.Kernel (16*(nth h.Larges k).Page+n) m=K at *;have hN:((dY (nth h.Larges k) n:Nat):Int)=(nth h.Larges k).Pages - (n+15) / 16:=by unfold dY;omega
 have hrA:0<dY (nth h.Larges k) n->xk (nth h.Larges k) n = ⟨(nth h.Larges k).Page+(n+15) / 16,(dY (nth h.Larges k) n:Nat)⟩:=λhp=>by unfold xk;rw[C9 ω,hN]
 have hrB:¬0<dY (nth h.Larges k) n->xk (nth h.Larges k) n = ⟨0,0⟩:=λhp=>by unfold xk;rw[C8 ω]
 generalize dY (nth h.Larges k) n=P at *;by_cases X:0<P
 ·rw[C9 X]
  have hr:=hrA X;rw[hr]
  repeat'(first|refine gD ?_|(conv=>whnf);first|refine CA ?_)
  (conv=>whnf)
  refine CE (ι:=Nat) (λx=>[(0,.hold .box (bz (lc h i k n (dO K ((nth h.Larges k).Page+(n+15) / 16) x)))),(9,.hold .box ([I ((nth h.Larges k).Page+(n+15) / 16),I (P:Nat)])),(13,.hold .one [I (((nth h.Larges k).Page+(n+15) / 16+(x:Nat)))])]) (λx=>x<=P) (λx=>P - x) (0) ?_ (U0 _) λx l=>?_
  ·repeat'(first|exact trivial|rfl |exact nh r|exact nh d|exact dN _|refine CJ ?_ ?_|(exact zw (by first|omega|(simp only;omega)|(simp;omega))))
  by_cases lx:x<P
  ·have c3:=nv (lc h i k n (dO K ((nth h.Larges k).Page+(n+15) / 16) x)) ((nth h.Larges k).Page+(n+15) / 16+(x:Nat)) (jV hkM _ _)
   repeat'(first|refine gD ?_|(conv=>whnf);first|refine CA ?_|refine CI (c3) (.inl rfl) ?_)
   ((conv=>whnf);refine CD (x+1) ω ω ?_;(exact wC))
  ·obtain rfl:x=P:=ω
   have c4:=gU (lc h i k n (dO K ((nth h.Larges k).Page+(n+15) / 16) x));rw[show dS (lc h i k n (dO K ((nth h.Larges k).Page+(n+15) / 16) x))=dS h from(gM _ _ _).1.trans U]at c4;have c5:=lK (dS h:Nat) h.Free ⟨(nth h.Larges k).Page+(n+15) / 16,(x:Nat)⟩ ⟨ω,ω⟩ ⟨by have:=c.free;omega,λ_ _=>trivial⟩
   repeat'(first|refine gD ?_|(conv=>whnf);first|refine CA ?_|refine CG (c4) ⟨bC _,trivial⟩ ?_|refine CG (c5) ⟨⟨rfl,rfl⟩,⟨rfl,d8 h.Free⟩,⟨rfl,rfl⟩,trivial⟩ ?_|refine CA ?_)
   refine CF rfl rfl ?_;exact wC
 ·rw[C8 X]
  obtain rfl:P=0:=ω
  have hr:=hrB X;rw[hr]
  repeat'(first|refine gD ?_|(conv=>whnf);first|refine CA ?_)
  (conv=>whnf)
  refine CE (ι:=Nat) (λx=>[(0,.hold .box (bz (lc h i k n K))),(9,.hold .box ([I 0,I 0])),(13,.hold .one [I (0)])]) (λx=>x=0) (λx=>0) (0) ?_ (rfl) λx l=>?_
  ·repeat'(first|exact trivial|rfl |exact nh r|exact nh d|exact dN _|refine CJ ?_ ?_|(exact zw (by first|omega|(simp only;omega)|(simp;omega))))
  subst l
  repeat'(first|refine gD ?_|(conv=>whnf);first|refine CA ?_)
  refine CF rfl rfl ?_;exact wC
theorem DG{α:Type}(a:α)(k:Nat):List.replicate (k+1) a=List.replicate k a++[a]:=List.replicate_succ' ..
theorem Gc(n k:Nat):aV.enc .own ⟨List.replicate k (List.replicate 16 0),List.replicate n false⟩ = [.s .own (List.replicate k [.s .own (List.replicate 16 [I 0])]),.s .own (List.replicate n [B false])]:=by
 simp[aV.enc,aF,rI,rB,List.map_replicate]
theorem Hu(n:Nat):L0 [.s .own (List.replicate n [.z]),.s .own (List.replicate n [.z]),B true] (aI.enc .own (dR n)++[B true]):=by
 have e:aI.enc .own (dR n)++[B true]=[.s .own (List.replicate n [.s .own []]),.s .own (List.replicate n [.s .own []]),B true]:=by simp[aI.enc,dR,cz,aF,List.map_replicate]
 rw[e];exact .cons (.rep (.cons .z_ .nil)) (.cons (.rep (.cons .z_ .nil)) (.cons (.rfl_ _) .nil))
theorem Pc(n:Nat)(b:1<=n/\n<=4):ao Tryz.prog 94 false [.val none [I (n:Nat)]] (.tup [some 2,none]) (aI.enc .own (dR n)++[B true]):=by
 have a:=aN ((n:Nat):Int) 1 4;rw[O0 ω]at a;refine fO 13 [(3,4,[8,9,10,11])] Tryz.func94 rfl ?_ (.inr (aS (aI.enc_fr _) ⟨trivial,trivial⟩))
 repeat'((conv=>whnf);first|with_reducible (first|refine Lm ?_|refine Wm ω ?_|refine Bn ?_|refine j9.dk rfl ?_)|refine Bt ?_|refine Bu ?_|refine CA ?_|refine C7 (a) ?_|refine Mk.mk n rfl rfl ω (vq ω (by decide)) rfl ?_)
 exact Hu n
theorem Bb(n:Nat)(b:1<=n/\n<=4):ao Tryz.prog 351 false [.val none [I (n:Nat)]] (.tup [some 2,none]) (aI.enc .own (dR n)++[B true]):=by
 have a:=aG ((n:Nat):Int) 1 4;rw[O0 ω]at a;refine fO 13 [(3,4,[8,9,10,11])] Tryz.func351 rfl ?_ (.inr (aS (aI.enc_fr _) ⟨trivial,trivial⟩))
 repeat'((conv=>whnf);first|with_reducible (first|refine Lm ?_|refine Wm ω ?_|refine Bn ?_|refine j9.dk rfl ?_)|refine Bt ?_|refine Bu ?_|refine CA ?_|refine C7 (a) ?_|refine Mk.mk n rfl rfl ω (vq ω (by decide)) rfl ?_)
 exact Hu n
theorem LU:L0 [.s .own (List.replicate 4 [.z])] (aA.enc .own eZ):=.cons (.rep (.cons .z_ .nil)) .nil
theorem y5:ao Tryz.prog 352 false [] .agg (aA.enc .own eZ):=by
 refine fO 3 [] Tryz.func352 rfl ?_ (.inr (aA.enc_fr _))
 repeat'((conv=>whnf);first|with_reducible (first|refine Lm ?_|refine Wm ω ?_|refine Bn ?_|refine j9.dk rfl ?_)|refine Bt ?_|refine Bu ?_|refine CA ?_|refine Mk.mk 4 rfl rfl (by decide) (by decide) rfl ?_)
 exact LU
theorem rk:ao Tryz.prog 353 false [.val none [I 16]] (.tup [some 2,none]) (bu.enc .own ⟨16,[]⟩++[B true]):=by
 refine fO 10 [] Tryz.func353 rfl ?_ (.inr (aS (bu.enc_fr _) ⟨trivial,trivial⟩))
 repeat'((conv=>whnf);first|with_reducible (first|refine Lm ?_|refine Wm ω ?_|refine Bn ?_|refine j9.wk rfl ?_)|refine Bt ?_|refine Bu ?_|refine CA ?_|refine C7 (aG 16 0 500) ?_)
 exact⟨rfl,rfl,rfl,trivial⟩
def caps(h:ab)(k:Nat):ab:={h with Caches:=List.replicate k eZ}
theorem Kb(k:Nat):(List.replicate (k+1) eZ).map (aA.enc .own)=(List.replicate k eZ).map (aA.enc .own)++[aA.enc .own eZ]:=by rw[DG,O5];rfl
theorem Lv{k:Nat} : ∀r∈(List.replicate k eZ).map (aA.enc .own),r.length=1:=aM λ_=>rfl
theorem N3(x:List b9):fz (.s .own (x.map (b9.enc .own)))=.s .imm (x.map (b9.enc .imm)):=(List.cons.inj (List.cons.inj (CZ ⟨0,x⟩)).2).1
theorem eR:∀a b:List C,dw (a++b)=dw a++dw b
 | [],_=>rfl
 | x::xs,b=>by show fz x::dw (xs++b)=fz x::(dw xs++dw b);rw[eR xs b]
theorem ee(r:ay)(c:ay.sml r):ao Tryz.prog 309 false [.val (some 2) (ay.enc .imm r)] .agg (ay.enc .own r):=by
 have e:r.Objs.length<=1048576:=c.1;refine fO 36 [(5,272,[15,16,17,18,19,20,21,22,23,24,25,26,27,28,29,34,0,1,2,3,4,5,6,7,8,9,10,11,12,13,14,15,1000,1001,1002,1003,1004,1005,1006,1007,16,1000,1001,17,1000,1001,18,19,20])] Tryz.func309 rfl ?_ (.inr (ay.enc_fr _))
 repeat'(first|refine gO ?_|(conv=>whnf);first|refine CA ?_)
 (conv=>whnf)
 refine CE (ι:=Nat) (λi=>[(1,.hold .box (ay.enc .imm r)),(2,.hold .box [I 0,.z]),(3,.hold .box [I r.Next,.s .own ((r.Objs.take i).map (b9.enc .own))]),(4,.hold .one [I ((i:Nat):Int)])]) (λi=>i<=r.Objs.length) (λi=>r.Objs.length - i) (0) ?_ (U0 _) λi g=>?_
 ·exact wC
 by_cases b:i<r.Objs.length
 ·have d:=ah b
  have a:(nth r.Objs i).Cells.length<=1048576:=c.2 _ (am b)
  repeat'(first|refine gD ?_|(conv=>whnf);first|with_reducible refine CB (aa d) ?_|refine CA ?_|refine CH rfl (aa d) rfl ?_|refine CU (λ_=>rfl) (λ_=>rfl) a (by decide) ?_|refine CO (λ_=>rfl) (λ_=>rfl) a (by decide) ?_|refine CA ?_|refine Ap.sn (aM λ_=>rfl) rfl (by simp;omega) (by decide) (fm b) ?_)
  ((conv=>whnf);refine CD (i+1) ω ω ?_;(exact wC))
 ·repeat'(first|refine gD ?_|(conv=>whnf);first|refine CA ?_)
  obtain rfl:i=r.Objs.length:=ω
  rw[Z4]
  rfl
theorem ic(r:ay)(id:Int)(g:r.Objs.length<=1048576):ao Tryz.prog 385 false [.val (some 2) (ay.enc .imm r),.val none [I id]] .one [I (oW r id)]:=by
 refine fO 22 [] Tryz.func385 rfl ?_
 repeat'(first|refine gO ?_|(conv=>whnf);first|refine CA ?_)
 (conv=>whnf)
 refine CE (ι:=Nat) (λi=>[(1,.hold .one [I (id)]),(2,.hold .box (ay.enc .imm r)),(5,.hold .one [I ((i:Nat):Int)])]) (λi=>i<=r.Objs.length/\∀(j:Nat)(z:b9),j<i->r.Objs[j]? = some z->ni id z=false) (λi=>r.Objs.length - i) (0) ?_ (⟨U0 _,λj z h=>ω⟩) λi c=>?_
 ·exact wC
 obtain⟨c,b⟩:=c;by_cases d:i<r.Objs.length
 ·have a:=ah d
  by_cases e:(nth r.Objs i).Id=id
  ·repeat'(first|refine gA ?_|(conv=>whnf);first|with_reducible refine CB (aa a) ?_|refine CA ?_|refine CH rfl (aa a) rfl ?_)
   exact W0 (λz=>[I z]) (eI a (O0 e) b).symm
  ·repeat'(first|refine gA ?_|(conv=>whnf);first|with_reducible refine CB (aa a) ?_|refine CA ?_|refine CH rfl (aa a) rfl ?_)
   ((conv=>whnf);refine CD (i+1) ⟨ω,dC a (T0 e) b⟩ ω ?_;(exact wC))
 ·repeat'(first|refine gD ?_|(conv=>whnf);first|refine CA ?_)
  exact W0 (λz=>[I z]) (gk ω b).symm
theorem mX(r:ay)(c:C)(h:Ql c):gH (ay.enc .own r++[c]):=aS (ay.enc_fr _) ⟨h,trivial⟩
theorem yj(r:ay)(n:Int)(m:Nat)(b:qU r m)(h:m<=1000)(c:1<=n/\n<=1000):ao Tryz.prog 301 false [.val (some 2) (ay.enc .imm r),.val none [I n]] (.tup [some 2,none]) (ay.enc .imm (kG r n)++[I r.Next]):=by
 have i:=b.sml h;have d:=b.len;have j:=b.nx;have k:=ee r i;have e:=aG n 1 1000;rw[O0 c]at e;have key:ao Tryz.prog 301 false [.val (some 2) (ay.enc .imm r),.val none [I n]] (.tup [some 2,none]) (ay.enc .own (kG r n)++[I r.Next]):=by
  have a:=mX (kG r n) (I r.Next) trivial;unfold kG at a |-;rw[C9 c]at a |-;have l:ay.enc .own {r with Next:=r.Next+1,Objs:=r.Objs++[⟨r.Next,List.replicate n.toNat 0⟩]} = [I (r.Next+1),.s .own (r.Objs.map (b9.enc .own)++[[I r.Next,.s .own (List.replicate n.toNat [I 0])]])]:=by
   simp[ay.enc,b9.enc,rI]
  rw[l]at a |-;refine fO 30 [(4,263,[13,14,15,16,17,18,22,0,1,2,3,4,5,6,1000,1001,7,1000,1001,8,9,10]),(6,259,[27,28,29,0,1,2,3,1001,1002,4])] Tryz.func301 rfl ?_ (.inr a)
  repeat'(first|refine gO ?_|(conv=>whnf);first|refine CA ?_|refine C7 (k) ?_|refine C7 (e) ?_|refine Mk.mk n.toNat ω ω ω (vq ω (by decide)) rfl ?_|refine CA ?_|refine Ap.sn (aM λ_=>rfl) rfl (by simp;omega) (by decide) rfl ?_)
  (conv=>whnf)
  rfl
 have g:=key.fzR;rw[eR,CZ]at g;exact g
theorem Bx(r:ay)(id:Int)(m:Nat)(d:qU r m)(k:m<=1000):ao Tryz.prog 355 true [.val (some 2) (ay.enc .imm r),.val none [I id]] (.tup [some 2,none]) (ay.enc .imm (kY r id)++[B (!decide (oW r id<0))]):=by
 have g:=d.sml k;have h:=d.len;have i:=ee r g;have b:=ic r id g.1;by_cases e:oW r id<0
 ·have key:ao Tryz.prog 355 true [.val (some 2) (ay.enc .imm r),.val none [I id]] (.tup [some 2,none]) (ay.enc .own r++[B false]):=by
   refine fO 30 [(5,267,[16,17,18,19,20,22,23,24,25,26,28,0,1,2,3,4,6,7,8,9,10,5,1006,1007,1008,1009,1010,11,12,13]),(1048581,6,[1])] Tryz.func355 rfl ?_ (.inl rfl)
   repeat'(first|refine gD ?_|(conv=>whnf);first|refine CA ?_|refine C7 (i) ?_|refine C7 (b) ?_)
   rfl
  have a:=key.fzR;rw[eR,CZ]at a;unfold kY;rw[C9 e,O0 e];exact a
 ·have n:kY r id = {r with Objs:=dele r.Objs (oW r id).toNat}:=by unfold kY;rw[C8 e]
  obtain⟨t,u,w⟩:=gq (ni id) r.Objs (by unfold oW at e;omega);obtain⟨j,c⟩:=Z2 (show 0<=oW r id by omega);have o:j<r.Objs.length:=by unfold oW at c;omega
  have key:ao Tryz.prog 355 true [.val (some 2) (ay.enc .imm r),.val none [I id]] (.tup [some 2,none]) ([I r.Next,.s .own ((dele r.Objs j).map (b9.enc .imm))]++[B true]):=by
   rw[c]at b;refine fO 30 [(5,267,[16,17,18,19,20,22,23,24,25,26,28,0,1,2,3,4,6,7,8,9,10,5,1006,1007,1008,1009,1010,11,12,13]),(1048581,6,[1])] Tryz.func355 rfl ?_ (.inl rfl)
   repeat'(first|refine gD ?_|(conv=>whnf);first|refine CA ?_|refine C7 (i) ?_|refine C7 (b) ?_|refine CV rfl (N3 r.Objs) rfl ?_|refine CT j rfl (by rw[Z0];omega) (aM λ_=>rfl) t4 ?_|refine CW (j+1) ω (by rw[Z0];omega) (aM λ_=>rfl) v4 ?_|refine CO (λ_=>rfl) (λ_=>rfl) (by rw[U1];omega) (by decide) ?_|refine CU (λ_=>rfl) (λ_=>rfl) (by rw[U1];omega) (by decide) ?_|refine Ap.dele (λ_=>rfl) (λ_=>rfl) ω (by decide) ?_|refine CA ?_)
   rfl
  have a:=key.fzR;have p:dw ([I r.Next,.s .own ((dele r.Objs j).map (b9.enc .imm))]++[B true])=ay.enc .imm (kY r id)++[B (!decide (oW r id<0))]:=by
   have:∀l:List b9,fzR (l.map (b9.enc .imm))=l.map (b9.enc .imm):=λl=>by
    induction l with
    | nil=>rfl
    | cons x xs q=>rw[U5,fzR,q,<-b9.enc_fz,rc]
   rw[n,c,T0 ω];simp[dw,fz,ay.enc,this]
  rw[p]at a;exact a
theorem yt(r:ay)(id a v:Int)(m:Nat)(o:qU r m)(D:m<=1000)(h:0<=oW r id)(c:0<=a/\a<=(nth r.Objs (oW r id).toNat).Cells.length - 1)(p:0<=v/\v<=999):ao Tryz.prog 357 false [.val (some 2) (ay.enc .imm r),.val none [I id],.val none [I a],.val none [I v]] (.tup [some 2,none]) (ay.enc .imm (fg r id a v)++[B true]):=by
 have k:=o.sml D;have q:=o.len;have E:=ee r k;have t:=ic r id k.1;obtain⟨J,K,L⟩:=gq (ni id) r.Objs h;obtain⟨j,l⟩:=Z2 h;have d:j<r.Objs.length:=by unfold oW at l;omega
 have e:=ah d;have F:(nth r.Objs j).Cells.length<=1048576:=k.2 _ (am d);obtain⟨b,g⟩:=Z2 c.1;have G:fg r id a v = {r with Objs:=r.Objs.set j ⟨(nth r.Objs j).Id,(nth r.Objs j).Cells.set b v⟩}:=by
  unfold fg;rw[C9 ⟨h,c,p⟩,l,g];rfl
 rw[l]at t c;rw[g]at c |-;simp only[X2]at c;have u:=ah (xs:=(nth r.Objs j).Cells) (i:=b) ω;have w:=aG (b:Nat) 0 (((nth r.Objs j).Cells.length:Nat) - 1:Int);rw[O0 ω]at w;have y:=aG v 0 999;rw[O0 p]at y;have key:ao Tryz.prog 357 false [.val (some 2) (ay.enc .imm r),.val none [I id],.val none [I (b:Nat)],.val none [I v]] (.tup [some 2,none]) (ay.enc .own (fg r id (b:Nat) v)++[B true]):=by
  have n:=mX (fg r id (b:Nat) v) (B true) trivial;rw[<-g,G]at n |-;have H:ay.enc .own {r with Objs:=r.Objs.set j ⟨(nth r.Objs j).Id,(nth r.Objs j).Cells.set b v⟩} = [I r.Next,.s .own ((r.Objs.map (b9.enc .own)).set j [I (nth r.Objs j).Id,.s .own (((nth r.Objs j).Cells.map (rI .own)).set b [I v])])]:=by
   simp[ay.enc,b9.enc,rI,W5]
  rw[H]at n |-;rw[g];refine fO 48 [] Tryz.func357 rfl ?_ (.inr n)
  repeat'(first|refine gD ?_|(conv=>whnf);first|with_reducible (first|refine CB (aa e) ?_|refine CB (aa u) ?_|refine CL ω (aa e) ?_)|refine CA ?_|refine C7 (E) ?_|refine C7 (t) ?_|refine C7 (w) ?_|refine C7 (y) ?_|refine CH rfl (aa e) rfl ?_|refine Pu.two rfl rfl (aa e) rfl rfl rfl (aa u) rfl (z3 _) rfl ?_)
  rfl
 have C:=key.fzR;rw[eR,CZ]at C;exact C
theorem AQ(r:ay)(id n:Int)(m:Nat)(l:qU r m)(u:m<=1000)(g:0<=oW r id)(c:1<=n/\n<=(nth r.Objs (oW r id).toNat).Cells.length):ao Tryz.prog 359 false [.val (some 2) (ay.enc .imm r),.val none [I id],.val none [I n]] (.tup [some 2,none]) (ay.enc .imm (gB r id n)++[B true]):=by
 have h:=l.sml u;have o:=l.len;have w:=ee r h;have p:=ic r id h.1;obtain⟨E,F,G⟩:=gq (ni id) r.Objs g;obtain⟨j,i⟩:=Z2 g;have a:j<r.Objs.length:=by unfold oW at i;omega
 have d:=ah a;have y:(nth r.Objs j).Cells.length<=1048576:=h.2 _ (am a);obtain⟨b,e⟩:=Z2 (show 0<=n by omega);have C:gB r id n = {r with Objs:=r.Objs.set j ⟨(nth r.Objs j).Id,(nth r.Objs j).Cells.take b⟩}:=by
  unfold gB;rw[C9 ⟨g,c⟩,i,e];rfl
 rw[i]at p c;rw[e]at c |-;simp only[X2]at c;have q:=aG (b:Nat) 1 (((nth r.Objs j).Cells.length:Nat):Int);rw[O0 ω]at q;have key:ao Tryz.prog 359 false [.val (some 2) (ay.enc .imm r),.val none [I id],.val none [I (b:Nat)]] (.tup [some 2,none]) (ay.enc .own (gB r id (b:Nat))++[B true]):=by
  have k:=mX (gB r id (b:Nat)) (B true) trivial;rw[<-e,C]at k |-;have D:ay.enc .own {r with Objs:=r.Objs.set j ⟨(nth r.Objs j).Id,(nth r.Objs j).Cells.take b⟩} = [I r.Next,.s .own ((r.Objs.map (b9.enc .own)).set j [I (nth r.Objs j).Id,.s .own (((nth r.Objs j).Cells.take b).map (rI .imm))])]:=by
   simp only[ay.enc,W5]
   rfl
  rw[D]at k |-;rw[e];refine fO 46 [(5,270,[30,31,32,33,34,35,36,37,38,39,40,41,43,44,0,1,2,3,4,5,6,7,8,9,10,11,12,1000,1001,1002,13,14,15])] Tryz.func359 rfl ?_ (.inr k)
  repeat'(first|refine gD ?_|(conv=>whnf);first|with_reducible (first|refine CB (aa d) ?_|refine CL ω (aa d) ?_)|refine CA ?_|refine C7 (w) ?_|refine C7 (p) ?_|refine C7 (q) ?_|refine CH rfl (aa d) rfl ?_|refine CT b rfl (by rw[Z0];omega) (aM λ_=>rfl) t4 ?_|refine CU (λ_=>rfl) (λ_=>rfl) (by rw[U1];omega) (by decide) ?_|refine CO (λ_=>rfl) (λ_=>rfl) (by rw[U1];omega) (by decide) ?_|refine CA ?_|refine CN rfl rfl (aa d) rfl (C1 rfl) rfl ?_)
  rfl
 have t:=key.fzR;rw[eR,CZ]at t;exact t
theorem BI(r:ay)(id a v:Int)(m:Nat)(h:qU r m)(l:m<=1000)(u:0<=v/\v<=999):∃b:Bool,ao Tryz.prog 357 false [.val (some 2) (ay.enc .imm r),.val none [I id],.val none [I a],.val none [I v]] (.tup [some 2,none]) (ay.enc .imm (fg r id a v)++[B b]):=by
 by_cases i:0<=oW r id
 ·by_cases d:0<=a/\a<=(nth r.Objs (oW r id).toNat).Cells.length - 1
  ·exact⟨true,yt r id a v m h l i d u⟩
  ·refine⟨false,?_⟩
   have c:=h.sml l;have o:=h.len;have n:=ee r c;have k:=ic r id c.1;obtain⟨C,D,E⟩:=gq (ni id) r.Objs i;obtain⟨j,p⟩:=Z2 i;have e:j<r.Objs.length:=by unfold oW at p;omega
   have q:=ah e;have w:(nth r.Objs j).Cells.length<=1048576:=c.2 _ (am e);have y:fg r id a v=r:=by unfold fg;rw[C8 (λx=>d x.2.1)]
   rw[p]at k d;simp only[X2]at d;have t:=aG a 0 (((nth r.Objs j).Cells.length:Nat) - 1:Int);rw[T0 d]at t;rw[y];have key:ao Tryz.prog 357 false [.val (some 2) (ay.enc .imm r),.val none [I id],.val none [I a],.val none [I v]] (.tup [some 2,none]) (ay.enc .own r++[B false]):=by
    refine fO 48 [] Tryz.func357 rfl ?_ (.inr (mX r (B false) trivial))
    repeat'(first|refine gD ?_|(conv=>whnf);first|with_reducible refine CB (aa q) ?_|refine CA ?_|refine C7 (n) ?_|refine C7 (k) ?_|refine C7 (t) ?_|refine CH rfl (aa q) rfl ?_)
    rfl
   have g:=key.fzR;rw[eR,CZ]at g;exact g
 ·refine⟨false,?_⟩
  have c:=h.sml l;have n:=ee r c;have k:=ic r id c.1;rw[show fg r id a v=r by unfold fg;rw[C8 (λx=>i x.1)]];have key:ao Tryz.prog 357 false [.val (some 2) (ay.enc .imm r),.val none [I id],.val none [I a],.val none [I v]] (.tup [some 2,none]) (ay.enc .own r++[B false]):=by
   refine fO 48 [] Tryz.func357 rfl ?_ (.inr (mX r (B false) trivial))
   repeat'(first|refine gD ?_|(conv=>whnf);first|refine CA ?_|refine C7 (n) ?_|refine C7 (k) ?_)
   rfl
  have g:=key.fzR;rw[eR,CZ]at g;exact g
theorem D4(r:ay)(id n:Int)(m:Nat)(g:qU r m)(k:m<=1000):∃b:Bool,ao Tryz.prog 359 false [.val (some 2) (ay.enc .imm r),.val none [I id],.val none [I n]] (.tup [some 2,none]) (ay.enc .imm (gB r id n)++[B b]):=by
 by_cases h:0<=oW r id
 ·by_cases c:1<=n/\n<=(nth r.Objs (oW r id).toNat).Cells.length
  ·exact⟨true,AQ r id n m g k h c⟩
  ·refine⟨false,?_⟩
   have a:=g.sml k;have o:=g.len;have l:=ee r a;have i:=ic r id a.1;obtain⟨y,C,D⟩:=gq (ni id) r.Objs h;obtain⟨j,p⟩:=Z2 h;have d:j<r.Objs.length:=by unfold oW at p;omega
   have q:=ah d;have u:(nth r.Objs j).Cells.length<=1048576:=a.2 _ (am d);have w:gB r id n=r:=by unfold gB;rw[C8 (λx=>c x.2)]
   rw[p]at i c;simp only[X2]at c;have t:=aG n 1 (((nth r.Objs j).Cells.length:Nat):Int);rw[T0 c]at t;rw[w];have key:ao Tryz.prog 359 false [.val (some 2) (ay.enc .imm r),.val none [I id],.val none [I n]] (.tup [some 2,none]) (ay.enc .own r++[B false]):=by
    refine fO 46 [(5,270,[30,31,32,33,34,35,36,37,38,39,40,41,43,44,0,1,2,3,4,5,6,7,8,9,10,11,12,1000,1001,1002,13,14,15])] Tryz.func359 rfl ?_ (.inr (mX r (B false) trivial))
    repeat'(first|refine gD ?_|(conv=>whnf);first|with_reducible refine CB (aa q) ?_|refine CA ?_|refine C7 (l) ?_|refine C7 (i) ?_|refine C7 (t) ?_|refine CH rfl (aa q) rfl ?_)
    rfl
   have e:=key.fzR;rw[eR,CZ]at e;exact e
 ·refine⟨false,?_⟩
  have a:=g.sml k;have l:=ee r a;have i:=ic r id a.1;rw[show gB r id n=r by unfold gB;rw[C8 (λx=>h x.1)]];have key:ao Tryz.prog 359 false [.val (some 2) (ay.enc .imm r),.val none [I id],.val none [I n]] (.tup [some 2,none]) (ay.enc .own r++[B false]):=by
   refine fO 46 [(5,270,[30,31,32,33,34,35,36,37,38,39,40,41,43,44,0,1,2,3,4,5,6,7,8,9,10,11,12,1000,1001,1002,13,14,15])] Tryz.func359 rfl ?_ (.inr (mX r (B false) trivial))
   repeat'(first|refine gD ?_|(conv=>whnf);first|refine CA ?_|refine C7 (l) ?_|refine C7 (i) ?_)
   rfl
  have e:=key.fzR;rw[eR,CZ]at e;exact e
structure ix where
 i:Nat
 h:Int
deriving Inhabited
def w64(x:Int):Int:=IntKind.i64.wrap x
def Q1(h:Int):Int:=w64 (w64 (h*6364136223846793005)+1442695040888963407)
def Qc(a b:Int):Int:=w64 ((BitVec.ofInt IntKind.i64.bits a ^^^ BitVec.ofInt IntKind.i64.bits b).toNat:Nat)
def and255(a:Int):Int:=w64 ((BitVec.ofInt IntKind.i64.bits a &&& BitVec.ofInt IntKind.i64.bits 255).toNat:Nat)
def MO(h:Int)(n:Nat):Int:=h.fdiv (2 ^ (min n IntKind.i64.bits))
def yU(h:Int):Int:=and255 (Qc (MO h 33) (MO h 45))
theorem yQ(a:Int):0<=and255 a/\and255 a<=255:=by
 have b:(BitVec.ofInt IntKind.i64.bits a &&& BitVec.ofInt IntKind.i64.bits 255).toNat<=255:=by
  rw[BitVec.toNat_and];exact V4 Nat.and_le_right (by decide)
 unfold and255 w64;rw[eM ω ω];omega
def dA(zs:List Int)(c:ix):Int × ix:=if c.i<zs.length then(and255 (yU (Q1 c.h)+nth zs c.i),⟨c.i+1,Q1 c.h⟩) else(yU (Q1 c.h),⟨c.i,Q1 c.h⟩)
theorem r7(zs:List Int)(c:ix):0<=(dA zs c).1/\(dA zs c).1<=255:=by
 unfold dA;split<;>exact yQ _
theorem iC{zs:List Int}{c:ix}(h:c.i<=zs.length):(dA zs c).2.i<=zs.length:=by
 unfold dA;split
 ·simp only;omega
 ·exact h
def zF(zs:List Int)(c:ix):Int × ix:=
 ((dA zs c).1*16777216+(dA zs (dA zs c).2).1*65536+(dA zs (dA zs (dA zs c).2).2).1*256+(dA zs (dA zs (dA zs (dA zs c).2).2).2).1,(dA zs (dA zs (dA zs (dA zs c).2).2).2).2)
def bw(zs:List Int)(c:ix)(n:Int):Int × ix:=if n<=256 then((dA zs c).1 % n,(dA zs c).2) else((zF zs c).1 % n,(zF zs c).2)
theorem bF(zs:List Int)(c:ix){n:Int}(h:1<=n):0<=(bw zs c n).1/\(bw zs c n).1<n:=by
 unfold bw;split<;>exact⟨Int.emod_nonneg _ ω,Int.emod_lt_of_pos _ ω⟩
theorem bP{zs:List Int}{c:ix}(h:c.i<=zs.length)(n:Int):(bw zs c n).2.i<=zs.length:=by
 unfold bw;split
 ·exact iC h
 ·exact iC (iC (iC (iC h)))
def kN(zs:List Int)(c:ix)(l:List Int):Int × ix:=(nth l (bw zs c (l.length:Nat)).1.toNat,(bw zs c (l.length:Nat)).2)
theorem pz(zs:List Int)(c:ix){l:List Int}(h:1<=l.length):(kN zs c l).1∈l:=by
 have:=bF zs c (n:=(l.length:Nat)) ω;exact am ω
def nL(zs:List Int):Nat->Nat->List Int->ix->List Int × ix
 | 0,_,out,c=>(out,(bw zs c 4).2)
 | f+1,i,out,c=>if(i:Int)<(bw zs c 4).1 then nL zs f (i+1) (out++[(bw zs (bw zs c 4).2 12).1]) (bw zs (bw zs c 4).2 12).2 else(out,(bw zs c 4).2)
def NJ(zs:List Int)(c:ix):List Int × ix:=nL zs 4 0 [] c
theorem H8(zs:List Int):∀(f i:Nat)(out:List Int)(c:ix),(∀x∈out,0<=x)->out.length+f<=4->c.i<=zs.length->(∀x∈(nL zs f i out c).1,0<=x)/\(nL zs f i out c).1.length<=4/\(nL zs f i out c).2.i<=zs.length
 | 0,_,out,c,b,e,d=>⟨b,by show out.length<=4;omega,bP d _⟩
 | f+1,i,out,c,b,e,d=>by
  unfold nL;split
  ·refine H8 zs f (i+1) _ _ (λx a=>?_) (by simp only[I3,List.length_singleton];omega) (bP (bP d _) _)
   rcases v3.1 a with a|a
   ·exact b x a
   ·rw[I1.1 a];exact(bF zs _ (by decide)).1
  ·exact⟨b,by show out.length<=4;omega,bP d _⟩
def yA(zs:List Int)(c:ix):Int × ix:=bw zs c 7
def BX(zs:List Int)(c:ix):Int × ix:=bw zs (yA zs c).2 3
def Gl(zs:List Int)(c:ix):Int × ix:=bw zs (BX zs c).2 100
def BH(zs:List Int)(c:ix):Int × ix:=bw zs (Gl zs c).2 4
def P9(zs:List Int)(c:ix):List Int × ix:=NJ zs (BH zs c).2
def nN(zs:List Int)(c:ix):cF:=⟨(6+(yA zs c).1).toNat,(6+(yA zs c).1 - (BH zs c).1).toNat,(1+(BX zs c).1).toNat,40+(Gl zs c).1,(P9 zs c).1⟩
theorem ow{zs:List Int}{c:ix}(h:c.i<=zs.length):Fd (nN zs c)/\(P9 zs c).2.i<=zs.length:=by
 have a:=bF zs c (n:=7) (by decide);have b:=bF zs (yA zs c).2 (n:=3) (by decide);have d:=bF zs (BX zs c).2 (n:=100) (by decide);have e:=bF zs (Gl zs c).2 (n:=4) (by decide);change 0<=(yA zs c).1/\(yA zs c).1<7 at a;change 0<=(BX zs c).1/\(BX zs c).1<3 at b;change 0<=(Gl zs c).1/\(Gl zs c).1<100 at d;change 0<=(BH zs c).1/\(BH zs c).1<4 at e;obtain⟨f,k,g⟩:=H8 zs 4 0 [] (BH zs c).2 (λx j=>by cases j) (by simp) (bP (bP (bP (bP h _) _) _) _);refine⟨⟨?_,?_,?_,?_,?_⟩,g⟩
 ·show 1<=(6+(yA zs c).1).toNat/\(6+(yA zs c).1).toNat<=32;omega
 ·show 1<=(6+(yA zs c).1 - (BH zs c).1).toNat/\(6+(yA zs c).1 - (BH zs c).1).toNat<=32;omega
 ·show 1<=(1+(BX zs c).1).toNat/\(1+(BX zs c).1).toNat<=4;omega
 ·show 0<=40+(Gl zs c).1/\40+(Gl zs c).1<=1000;omega
 ·exact⟨by show(nL zs 4 0 [] (BH zs c).2).1.length<=40;omega,f⟩
def zD(zs:List Int)(c:ix):Int × ix:=bw zs c 3
def Fc(zs:List Int)(c:ix)(ids:Int):Int × ix:=bw zs (zD zs c).2 ids
def kw(zs:List Int)(c:ix)(ids:Int):Int × ix:=bw zs (Fc zs c ids).2 20
def szs:List Int:=[1,1,2,2,3,4,4,5,8,9,20]
def rn(zs:List Int)(c:ix)(ids:Int):ew × ix:=
 if(kw zs c ids).1<=6 then(⟨1,(zD zs c).1,(kN zs (kw zs c ids).2 szs).1,0,0⟩,(kN zs (kw zs c ids).2 szs).2)
 else if(kw zs c ids).1<=9 then(⟨2,(zD zs c).1,1+(Fc zs c ids).1,0,0⟩,(kw zs c ids).2)
 else if(kw zs c ids).1<=12 then(⟨3,(zD zs c).1,1+(Fc zs c ids).1,(bw zs (kw zs c ids).2 4).1,1+(bw zs (bw zs (kw zs c ids).2 4).2 999).1⟩,(bw zs (bw zs (kw zs c ids).2 4).2 999).2)
 else if(kw zs c ids).1=13 then(⟨4,(zD zs c).1,1+(Fc zs c ids).1,0,9+(bw zs (kw zs c ids).2 10).1⟩,(bw zs (kw zs c ids).2 10).2)
 else if(kw zs c ids).1=14 then(⟨(kN zs (kw zs c ids).2 [5,6]).1,(zD zs c).1,1+(Fc zs c ids).1,0,0⟩,(kN zs (kw zs c ids).2 [5,6]).2)
 else if(kw zs c ids).1=15 then(⟨7,(zD zs c).1,1+(Fc zs c ids).1,0,0⟩,(kw zs c ids).2)
 else if(kw zs c ids).1=16 then(⟨8,(zD zs c).1,(kN zs (kw zs c ids).2 [1,30,60,120]).1,0,0⟩,(kN zs (kw zs c ids).2 [1,30,60,120]).2)
 else if(kw zs c ids).1=17 then(⟨9,(zD zs c).1,1+(Fc zs c ids).1,0,0⟩,(kw zs c ids).2)
 else(⟨10,(zD zs c).1,(kN zs (kw zs c ids).2 [1,2,3,10,30]).1,0,0⟩,(kN zs (kw zs c ids).2 [1,2,3,10,30]).2)
structure Mg(a:ew):Prop where
 k:1<=a.Kind/\a.Kind<=10
 t:0<=a.Thread/\a.Thread<=1000000
 n:0<=a.N/\a.N<=1000000
 p:0<=a.At/\a.At<=1000000
 v:0<=a.Value/\a.Value<=1000000
theorem Mr{zs:List Int}{c:ix}{ids:Int}(h:c.i<=zs.length)(b:1<=ids/\ids<=1000):Mg (rn zs c ids).1/\(rn zs c ids).2.i<=zs.length:=by
 have d:=bF zs c (n:=3) (by decide);have e:=bF zs (zD zs c).2 (n:=ids) b.1;change 0<=(zD zs c).1/\(zD zs c).1<3 at d;change 0<=(Fc zs c ids).1/\(Fc zs c ids).1<ids at e;have a:(kw zs c ids).2.i<=zs.length:=bP (bP (bP h _) _) _;have f:=pz zs (kw zs c ids).2 (l:=szs) (by decide);have g:=pz zs (kw zs c ids).2 (l:=[5,6]) (by decide);have j:=pz zs (kw zs c ids).2 (l:=[1,30,60,120]) (by decide);have k:=pz zs (kw zs c ids).2 (l:=[1,2,3,10,30]) (by decide);have o:=bF zs (kw zs c ids).2 (n:=4) (by decide);have p:=bF zs (bw zs (kw zs c ids).2 4).2 (n:=999) (by decide);have q:=bF zs (kw zs c ids).2 (n:=10) (by decide);simp only[szs,List.mem_cons,List.not_mem_nil,or_false]at f g j k;unfold rn
 repeat' split
 ·exact⟨⟨by simp only;omega,by simp only;omega,by simp only[szs];omega,by simp only;omega,by simp only;omega⟩,bP a _⟩
 ·exact⟨⟨by simp only;omega,by simp only;omega,by simp only;omega,by simp only;omega,by simp only;omega⟩,a⟩
 ·exact⟨⟨by simp only;omega,by simp only;omega,by simp only;omega,by simp only;omega,by simp only;omega⟩,bP (bP a _) _⟩
 ·exact⟨⟨by simp only;omega,by simp only;omega,by simp only;omega,by simp only;omega,by simp only;omega⟩,bP a _⟩
 ·exact⟨⟨by simp only;omega,by simp only;omega,by simp only;omega,by simp only;omega,by simp only;omega⟩,bP a _⟩
 ·exact⟨⟨by simp only;omega,by simp only;omega,by simp only;omega,by simp only;omega,by simp only;omega⟩,a⟩
 ·exact⟨⟨by simp only;omega,by simp only;omega,by simp only;omega,by simp only;omega,by simp only;omega⟩,bP a _⟩
 ·exact⟨⟨by simp only;omega,by simp only;omega,by simp only;omega,by simp only;omega,by simp only;omega⟩,a⟩
 ·exact⟨⟨by simp only;omega,by simp only;omega,by simp only;omega,by simp only;omega,by simp only;omega⟩,bP a _⟩
def kJ(zs:List Int)(c:ix):Nat->List ew × ix
 | 0=>([],(bw zs c 41).2)
 | i+1=>((kJ zs c i).1++[(rn zs (kJ zs c i).2 (1+(i:Int) / 2)).1],(rn zs (kJ zs c i).2 (1+(i:Int) / 2)).2)
def kM(zs:List Int)(c:ix):List ew × ix:=kJ zs c (bw zs c 41).1.toNat
theorem nY{zs:List Int}{c:ix}(h:c.i<=zs.length):∀{n:Nat},n<=100->(kJ zs c n).1.length=n/\(∀a∈(kJ zs c n).1,Mg a)/\(kJ zs c n).2.i<=zs.length
 | 0,_=>⟨rfl,λa b=>(by cases b),bP h _⟩
 | n+1,k=>by
  obtain⟨d,e,f⟩:=nY h (n:=n) ω;obtain⟨g,j⟩:=Mr (ids:=1+(n:Int) / 2) f ω;refine⟨by simp only[kJ,I3,List.length_singleton,d],λa b=>?_,j⟩;rcases v3.1 b with b|b
  ·exact e a b
  ·rw[I1.1 b];exact g
def pI(zs:List Int):Nat->Int
 | 0=>w64 (98801+(zs.length:Nat))
 | i+1=>w64 ((BitVec.ofInt IntKind.i64.bits (w64 (w64 (w64 (pI zs i*131)+nth zs i)+7)) &&& BitVec.ofInt IntKind.i64.bits 1073741823).toNat:Nat)
def rR(zs:List Int):ix:=⟨0,pI zs (min zs.length 4000)⟩
def dQ(zs:List Int):ix:=(P9 zs (rR zs)).2
def drawn(zs:List Int):bD:=(xV (nN zs (rR zs)) (kM zs (dQ zs)).1 (kM zs (dQ zs)).1.length).1
theorem EX(zs:List Int):sK (drawn zs) 40:=by
 have a:(rR zs).i<=zs.length:=U0 _;obtain⟨b,d⟩:=ow a;have f:=bF zs (dQ zs) (n:=41) (by decide);obtain⟨e,-,-⟩:=nY (zs:=zs) (c:=dQ zs) d (n:=(bw zs (dQ zs) 41).1.toNat) ω;refine(vP b _ _).more ?_;show(kJ zs (dQ zs) _).1.length<=40;rw[e];omega
def rU(z:Int):List C:=[.v (.int .u8 z)]
def iw(zs:List Int)(c:ix):List C:=[.s .imm (zs.map rU),I (c.i:Nat),I c.h]
def j8(zs:List Int):Prop:=zs.length<=1048576/\∀z∈zs,0<=z/\z<=255
theorem jH(zs:List Int)(c:ix)(e:j8 zs)(w:c.i<=zs.length):aO Tryz.prog 185 false [.ptr (iw zs c)] [.ptr (iw zs (dA zs c).2)] .one [I (dA zs c).1]:=by
 have g:IntKind.i64.wrap (c.h*6364136223846793005)=w64 (c.h*6364136223846793005):=rfl;have b:IntKind.i64.wrap (w64 (c.h*6364136223846793005)+1442695040888963407)=Q1 c.h:=rfl;have o:=e.1;generalize p:Q1 c.h=H at b;have j:H.fdiv (2 ^ (min (33:Int).toNat IntKind.i64.bits))=MO H 33:=rfl;have k:H.fdiv (2 ^ (min (45:Int).toNat IntKind.i64.bits))=MO H 45:=rfl;have l:IntKind.i64.wrap (BitVec.ofInt IntKind.i64.bits (MO H 33) ^^^ BitVec.ofInt IntKind.i64.bits (MO H 45)).toNat=Qc (MO H 33) (MO H 45):=rfl;have d:IntKind.i64.wrap (BitVec.ofInt IntKind.i64.bits (Qc (MO H 33) (MO H 45)) &&& BitVec.ofInt IntKind.i64.bits 255).toNat=yU H:=rfl;have r:0<=yU H/\yU H<=255:=yQ _;unfold dA;rw[p];generalize yU H=y at d r |-;refine fM 58 [] [(2,10,[13,14,15,16,17,18,19,20,21,22]),(3,9,[25,26,27,28,29,30,31,32,33]),(4,12,[35,36,37,38,39,40,41,42,43,44,45,46])] [(0,0)] Tryz.func185 rfl (λu q=>?_);by_cases a:c.i<zs.length
 ·rw[C9 a]
  have n:=ah a;have B:=e.2 _ (am a);have t:IntKind.i64.wrap (BitVec.ofInt IntKind.i64.bits (y+nth zs c.i) &&& BitVec.ofInt IntKind.i64.bits 255).toNat=and255 (y+nth zs c.i):=rfl
  repeat'(first|refine gD ?_|(conv=>whnf);first|with_reducible (first|refine CK g ?_|refine CK b ?_|refine CK l ?_|refine CK d ?_|refine CK t ?_|refine CB (aa n) ?_|refine CM (by decide) ?_|refine CS j ?_|refine CS k ?_)|refine CH rfl (aa n) rfl ?_|refine CA ?_)
  refine CF rfl rfl ?_;exact wB
 ·rw[C8 a]
  repeat'(first|refine gD ?_|(conv=>whnf);first|with_reducible (first|refine CK g ?_|refine CK b ?_|refine CK l ?_|refine CK d ?_|refine CM (by decide) ?_|refine CS j ?_|refine CS k ?_)|refine CA ?_)
  refine CF rfl rfl ?_;exact wB
theorem bT(zs:List Int)(c:ix)(n:Int)(b:j8 zs)(d:c.i<=zs.length)(p:1<=n):aO Tryz.prog 92 false [.ptr (iw zs c),.val none [I n]] [.ptr (iw zs (bw zs c n).2),.val none [I n]] .one [I (bw zs c n).1]:=by
 have j:=r7 zs c;have g:=jH zs c b d;unfold bw;refine fM 37 [(185,[2])] [] [(0,0),(0,0)] Tryz.func92 rfl (λu q=>?_);by_cases h:n<=256
 ·rw[C9 h]
  have a:(dA zs c).1.tmod n=(dA zs c).1 % n:=Int.tmod_eq_emod_of_nonneg j.1
  repeat'(first|refine gD ?_|(conv=>whnf);first|with_reducible (first|refine CS a ?_|refine Bf.D (λe=>?_) (λe=>?_))|refine CI (g) (.inl rfl) ?_|refine CM ω ?_)
  refine CF rfl rfl ?_;exact wB
 ·rw[C8 h]
  have r:=r7 zs (dA zs c).2;have t:=r7 zs (dA zs (dA zs c).2).2;have w:=r7 zs (dA zs (dA zs (dA zs c).2).2).2;have k:=jH zs (dA zs c).2 b (iC d);have l:=jH zs (dA zs (dA zs c).2).2 b (iC (iC d));have o:=jH zs (dA zs (dA zs (dA zs c).2).2).2 b (iC (iC (iC d)));have a:(zF zs c).1.tmod n=(zF zs c).1 % n:=Int.tmod_eq_emod_of_nonneg (by unfold zF;simp only;omega);unfold zF at a |-;simp only at a
  repeat'(first|refine gD ?_|(conv=>whnf);first|with_reducible (first|refine CS a ?_|refine Bf.D (λe=>?_) (λe=>?_))|refine CI (g) (.inl rfl) ?_|refine CI (k) (.inl rfl) ?_|refine CI (l) (.inl rfl) ?_|refine CI (o) (.inl rfl) ?_|refine CM ω ?_)
  refine CF rfl rfl ?_;exact wB
theorem Ko(zs:List Int)(c:ix)(l:List Int)(b:j8 zs)(d:c.i<=zs.length)(g:1<=l.length/\l.length<=1000):aO Tryz.prog 310 false [.ptr (iw zs c),.val none (aF .imm l)] [.ptr (iw zs (kN zs c l).2),.val none (aF .imm l)] .one [I (kN zs c l).1]:=by
 have e:=bT zs c (l.length:Nat) b d ω;have h:=bF zs c (n:=(l.length:Nat)) ω;have a:=ah (xs:=l) (i:=(bw zs c (l.length:Nat)).1.toNat) ω;unfold kN;refine fM 12 [(92,[2,0])] [] [(0,0),(0,0)] Tryz.func310 rfl (λu q=>?_)
 repeat'(first|refine gO ?_|(conv=>whnf);first|with_reducible refine CL ω (aa a) ?_|refine CI (e) (.inl rfl) ?_|refine CH rfl (aa a) rfl ?_)
 refine CF rfl rfl ?_;exact wC
theorem i6(zs:List Int)(c:ix)(l:List Int)(b:j8 zs)(d:c.i<=zs.length)(g:1<=l.length/\l.length<=1000):aO Tryz.prog 310 false [.ptr (iw zs c),.mut none (aF .own l)] [.ptr (iw zs (kN zs c l).2),.mut none (aF .own l)] .one [I (kN zs c l).1]:=by
 have e:=bT zs c (l.length:Nat) b d ω;have h:=bF zs c (n:=(l.length:Nat)) ω;have a:=ah (xs:=l) (i:=(bw zs c (l.length:Nat)).1.toNat) ω;unfold kN;refine fM 12 [(92,[2,0])] [] [(0,0),(1,0)] Tryz.func310 rfl (λu q=>?_)
 repeat'(first|refine gO ?_|(conv=>whnf);first|with_reducible refine CL ω (aa a) ?_|refine CI (e) (.inl rfl) ?_|refine CH rfl (aa a) rfl ?_)
 refine CF rfl rfl ?_;exact wC
theorem JT(zs:List Int):∀(f i:Nat)(out:List Int)(c:ix),(bw zs c 4).1<=i->nL zs f i out c=(out,(bw zs c 4).2)
 | 0,_,_,_,_=>rfl
 | f+1,i,out,c,h=>by unfold nL;rw[C8 ω]
theorem Po(zs:List Int)(f i:Nat)(out:List Int)(c:ix)(h:(i:Int)<(bw zs c 4).1):nL zs (f+1) i out c=nL zs f (i+1) (out++[(bw zs (bw zs c 4).2 12).1]) (bw zs (bw zs c 4).2 12).2:=by
 show(if _ then _ else _)=_;rw[C9 h]
structure Rq where
 i:Nat
 out:List Int
 c:ix
theorem xc(zs:List Int)(c:ix)(e:j8 zs)(j:c.i<=zs.length):aO Tryz.prog 242 false [.ptr (iw zs c)] [.ptr (iw zs (NJ zs c).2)] .one (aF .own (NJ zs c).1):=by
 refine fM 18 [(92,[2,0])] [] [(0,0)] Tryz.func242 rfl (λu q=>?_) (.inr (bJ _))
 repeat'(first|refine gO ?_|fail)
 (conv=>whnf)
 refine CE (ι:=Rq) (λx=>[(0,.hold .box (iw zs x.c)),(3,.hold .one (aF .own x.out)),(4,.hold .one [I ((x.i:Nat):Int)])]) (λx=>(x.i<=4/\x.out.length<=x.i/\x.c.i<=zs.length)/\nL zs (4 - x.i) x.i x.out x.c=NJ zs c) (λx=>4 - x.i) (⟨0,[],c⟩) ?_ (⟨⟨U0 _,U0 _,j⟩,rfl⟩) λx k=>?_
 ·exact wC
 obtain⟨i,out,d⟩:=x;obtain⟨⟨l,o,b⟩,a⟩:=k;simp only at l o b a |-;have B:=bF zs d (n:=4) (by decide);have g:=bT zs d 4 e b (by decide);have h:=bP b 4;have p:=bT zs (bw zs d 4).2 12 e h (by decide);have t:=bP h 12;by_cases w:(i:Int)<(bw zs d 4).1
 ·rw[show 4 - i=(4 - (i+1))+1 by omega,Po zs _ _ _ _ w]at a
  repeat'(first|refine gD ?_|(conv=>whnf);first|refine CI (g) (.inl rfl) ?_|refine CI (p) (.inl rfl) ?_|refine CQ co (λr y=>by rw[I1.1 y];rfl) (by simp[aX,dH]) (by simp;omega) (by simp only[Z0];exact vq (by simp;omega) (by decide)) rfl ?_)
  ((conv=>whnf);refine CD ⟨i+1,out++[(bw zs (bw zs d 4).2 12).1],(bw zs (bw zs d 4).2 12).2⟩ ⟨⟨by simp only;omega,by simp only[I3,List.length_singleton];omega,t⟩,a⟩ (by simp only;omega) ?_)
  repeat'(first|exact trivial|rfl| exact dN _ |exact CJ rfl (CJ (W0 (C.s d7.own) (by simp[rI])) trivial)|refine CJ ?_ ?_|(exact zw (by first|omega|(simp only;omega)|(simp;omega))))
 ·rw[JT zs _ _ _ _ ω]at a
  rw[<-a]
  repeat'(first|refine gD ?_|(conv=>whnf);first|refine CI (g) (.inl rfl) ?_)
  refine CF rfl rfl ?_;exact wC
def cF.enc(o:d7)(c:cF):List C:=[I (c.Pages:Nat),I (c.Frames:Nat),I (c.Threads:Nat),I c.Limit,.s o (c.Refuse.map (rI o))]
theorem cF.enc_fz(c:cF):dw (cF.enc .own c)=cF.enc .imm c:=by simp[dw,cF.enc,rI,<-bR,T5]
theorem cF.enc_fr(c:cF):gH (cF.enc .own c):=⟨trivial,trivial,trivial,trivial,⟨.inl λh=>(by cases h),bg _ _ λy _=>pL y⟩,trivial⟩
theorem wX(zs:List Int)(c:ix)(a:j8 zs)(h:c.i<=zs.length):aO Tryz.prog 150 false [.ptr (iw zs c)] [.ptr (iw zs (P9 zs c).2)] .agg (cF.enc .own (nN zs c)):=by
 have j:=bP h 7;have k:=bP j 3;have l:=bP k 100;have y:=bP l 4;have b:=bT zs c 7 a h (by decide);have d:=bT zs (yA zs c).2 3 a j (by decide);have e:=bT zs (BX zs c).2 100 a k (by decide);have g:=bT zs (Gl zs c).2 4 a l (by decide);have o:=xc zs (BH zs c).2 a y;have p:=bF zs c (n:=7) (by decide);have r:=bF zs (yA zs c).2 (n:=3) (by decide);have B:=bF zs (BX zs c).2 (n:=100) (by decide);have t:=bF zs (Gl zs c).2 (n:=4) (by decide);have w:=cF.enc_fr (nN zs c);have C:cF.enc .own (nN zs c)=[I (6+(yA zs c).1),I (6+(yA zs c).1 - (BH zs c).1),I (1+(BX zs c).1),I (40+(Gl zs c).1),.s .own ((P9 zs c).1.map (rI .own))]:=by
  have D:0<=(yA zs c).1/\(yA zs c).1<7:=p;have E:0<=(BX zs c).1/\(BX zs c).1<3:=r;have F:0<=(BH zs c).1/\(BH zs c).1<4:=t;unfold cF.enc nN;simp only;rw[Int.toNat_of_nonneg ω,Int.toNat_of_nonneg ω,Int.toNat_of_nonneg ω]
 rw[C]at w |-;change aO _ _ _ _ [.ptr (iw zs (yA zs c).2),_] _ _ at b;change aO _ _ _ _ [.ptr (iw zs (BX zs c).2),_] _ _ at d;change aO _ _ _ _ [.ptr (iw zs (Gl zs c).2),_] _ _ at e;change aO _ _ _ _ [.ptr (iw zs (BH zs c).2),_] _ _ at g;change aO _ _ _ _ [.ptr (iw zs (P9 zs c).2)] _ (aF .own (P9 zs c).1) at o;change aO _ _ _ _ _ _ [I (yA zs c).1]at b;change aO _ _ _ _ _ _ [I (BX zs c).1]at d;change aO _ _ _ _ _ _ [I (Gl zs c).1]at e;change aO _ _ _ _ _ _ [I (BH zs c).1]at g;change 0<=(yA zs c).1/\(yA zs c).1<7 at p;change 0<=(BX zs c).1/\(BX zs c).1<3 at r;change 0<=(Gl zs c).1/\(Gl zs c).1<100 at B;change 0<=(BH zs c).1/\(BH zs c).1<4 at t;generalize P9 zs c=r5 at *;generalize BH zs c=r4 at *;generalize Gl zs c=r3 at *;generalize BX zs c=r2 at *;generalize yA zs c=r1 at *;refine fM 24 [(92,[2,0]),(242,[2])] [(2,65536,[])] [(0,0)] Tryz.func150 rfl (λu q=>?_) (.inr w)
 repeat'(first|refine gO ?_|(conv=>whnf);first|refine CI (b) (.inl rfl) ?_|refine CI (d) (.inl rfl) ?_|refine CI (e) (.inl rfl) ?_|refine CI (g) (.inl rfl) ?_|refine CI (o) (.inl rfl) ?_|refine CJ ?_ ?_)
 all_goals
  refine CF rfl rfl ?_;exact wC
theorem vR(n:Nat)(e:1<=n/\n<=32):ao Tryz.prog 400 false [.val none [I (n:Nat)]] (.tup [some 2,none]) (aV.enc .own (fL n)++[B true]):=by
 have c:=aG ((n:Nat):Int) 1 32;rw[O0 ω]at c;have a:=aS (b:=[B true]) (aV.enc_fr (fL n)) ⟨trivial,trivial⟩;rw[show aV.enc .own (fL n)=_ from Gc n n]at a |-;refine fO 28 [(7,4,[16,17,18,19])] Tryz.func400 rfl ?_ (.inr a)
 repeat'(first|refine gO ?_|(conv=>whnf);first|refine CA ?_|refine C7 (c) ?_)
 (conv=>whnf)
 refine CE (ι:=Nat) (λk=>[(0,.hold .one [I ((n:Nat))]),(2,.hold .box [.z,.z]),(4,.hold .box [.s .own (List.replicate k [.s .own (List.replicate 16 [I 0])]),.s .own (List.replicate k [B false])]),(5,.hold .one [I ((k:Nat):Int)])]) (λk=>k<=n) (λk=>n - k) (0) ?_ (U0 _) λk g=>?_
 ·exact wB
 by_cases h:k<n
 ·repeat'(first|refine gD ?_|(conv=>whnf);first|refine CA ?_|refine Mk.mk 16 rfl rfl (by decide) (by decide) rfl ?_|refine Ap.sn (λr d=>by rw[(List.mem_replicate.1 d).2];rfl) rfl (by simp;omega) (by decide) (DG _ k) ?_)
  ((conv=>whnf);refine CD (k+1) ω ω ?_;(exact wB))
 ·obtain rfl:k=n:=ω
  repeat'(first|refine gD ?_|(conv=>whnf);first|refine CA ?_)
  rfl
theorem yD(n:Nat)(e:1<=n/\n<=32):ao Tryz.prog 401 false [.val none [I (n:Nat)]] (.tup [some 1,none]) (aH.enc .own (eA n)++[B true]):=by
 have c:=aG ((n:Nat):Int) 1 32;rw[O0 ω]at c;have a:=aS (b:=[B true]) (aH.enc_fr (eA n)) ⟨trivial,trivial⟩;have d:aH.enc .own (eA n)=[.s .own (List.replicate n [I 0,I 0])]:=by simp[aH.enc,eA,bf.enc,List.map_replicate]
 rw[d]at a |-;refine fO 11 [] Tryz.func401 rfl ?_ (.inr a)
 repeat'(first|refine gO ?_|(conv=>whnf);first|refine CA ?_|refine C7 (c) ?_|refine Mk.mk n rfl rfl ω (vq ω (by decide)) rfl ?_)
 rfl
theorem uQ(p f:Nat)(a:1<=p/\p<=32)(b:1<=f/\f<=32):ao Tryz.prog 378 false [.val none [I (p:Nat)],.val none [I (f:Nat)]] (.tup [some 3,none]) (aR.enc .own ⟨fL f,eA p⟩++[B true]):=by
 refine fO 30 [] Tryz.func378 rfl ?_ (.inr (aS (aR.enc_fr _) ⟨trivial,trivial⟩))
 repeat'(first|refine gO ?_|(conv=>whnf);first|refine CA ?_|refine C7 (vR f b) ?_|refine C7 (yD p a) ?_)
 rfl
theorem vL(p f:Nat)(a:List Int)(b:1<=p/\p<=32)(c:1<=f/\f<=32)(d:a.length<=40/\∀x∈a,0<=x):ao Tryz.prog 350 false [.val none [I (p:Nat)],.val none [I (f:Nat)],.val none (aF .imm a)] (.tup [some 5,none]) (af.enc .own (bG p f a)++[B true]):=by
 have e:=pR b c d;have h:=d.1;have g:=lO (bG p f a) (bA e);rw[e]at g;refine fO 31 [(2,260,[17,18,19,10,0,1,2,5,3,1000,1005,4,1005,6])] Tryz.func350 rfl ?_ (.inr (aS (af.enc_fr _) ⟨trivial,trivial⟩))
 repeat'(first|refine gO ?_|(conv=>whnf);first|refine CA ?_|refine C7 (uQ p f b c) ?_|refine CG (g) ⟨⟨rfl,CP (bG p f a)⟩,trivial⟩ ?_|refine CO (λ_=>rfl) (λ_=>rfl) ω (by decide) ?_|refine CU (λ_=>rfl) (λ_=>rfl) ω (by decide) ?_|refine CA ?_)
 rfl
def QR(p f t:Nat)(lim:Int)(a:List Int)(k:Nat):ab:={caps (va p f t lim a) k with Quar:=⟨0,[]⟩}
theorem AJ(p f t:Nat)(lim:Int)(a:List Int)(c:1<=p/\p<=32)(d:1<=f/\f<=32)(e:1<=t/\t<=4)(g:0<=lim/\lim<=1000)(h:a.length<=40/\∀x∈a,0<=x):ao Tryz.prog 299 false [.val none [I (p:Nat)],.val none [I (f:Nat)],.val none [I (t:Nat)],.val none [I lim],.val none (aF .imm a)] (.tup [some 24,none]) (ab.enc .own (va p f t lim a)++[B true]):=by
 have b:=aG lim 0 1000;rw[O0 g]at b;refine fO 66 [(9,4,[54,55,56,57])] Tryz.func299 rfl ?_ (.inr (aS (ab.enc_fr _) ⟨trivial,trivial⟩))
 repeat'(first|refine gO ?_|(conv=>whnf);first|refine CA ?_|refine C7 (vL p f a c d h) ?_|refine C7 (Bb t e) ?_|refine C7 (b) ?_|refine C7 (rk) ?_)
 (conv=>whnf)
 refine CE (ι:=Nat) (λk=>[(2,.hold .one [I ((t:Nat))]),(10,.hold .box [.z,.z,.z,I 0,.z,.z,.z,.z,.z,.z,.z,.z,I 0,.z,I 0,I 0,I 0,I 0,B false,I 0,I 0,.z,I 0,I 0]),(16,.hold .box (ab.enc .own (QR p f t lim a k))),(17,.hold .one [I ((k:Nat):Int)])]) (λk=>k<=t) (λk=>t - k) (0) ?_ (U0 _) λk i=>?_
 ·exact wB
 by_cases j:k<t
 ·repeat'(first|refine gD ?_|(conv=>whnf);first|refine CA ?_|refine C7 (y5) ?_|refine Ap.sn Lv rfl (by rw[Z0];show(List.replicate _ eZ).length+1<=_;rw[List.length_replicate];omega) (by decide) (Kb k) ?_)
  ((conv=>whnf);refine CD (k+1) ω ω ?_;(exact wB))
 ·obtain rfl:k=t:=ω
  repeat'(first|refine gD ?_|(conv=>whnf);first|refine CA ?_|refine C7 (rk) ?_)
  rfl
theorem Dj:ao Tryz.prog 300 false [] .agg (ay.enc .own ⟨1,[]⟩):=by
 refine fO 2 [] Tryz.func300 rfl ?_ (.inr (ay.enc_fr _))
 repeat'((conv=>whnf);first|with_reducible (first|refine Lm ?_|refine Wm ω ?_|refine Bn ?_|refine j9.wk rfl ?_)|refine Bt ?_|refine Bu ?_|refine CA ?_)
 exact⟨rfl,rfl,trivial⟩
theorem yG(c:cF)(h:Fd c):ao Tryz.prog 239 false [.val (some 5) (cF.enc .imm c)] (.tup [some 26,none]) (bD.enc .own (world0 c)++[B true]):=by
 have a:=AJ c.Pages c.Frames c.Threads c.Limit c.Refuse h.p h.f h.t h.l h.r;refine fO 26 [(4,2,[23,24])] Tryz.func239 rfl ?_ (.inr (aS (bD.enc_fr _) ⟨trivial,trivial⟩))
 repeat'(first|refine gO ?_|(conv=>whnf);first|refine CA ?_|refine C7 (a) ?_|refine C7 (Dj) ?_)
 rfl
def nZ(o:d7)(l:List ew):List C:=[.s o (l.map (ew.enc o))]
theorem ew.enc_fr(x:ew):gH (ew.enc .own x):=⟨trivial,trivial,trivial,trivial,trivial,trivial⟩
theorem JF(l:List ew):gH (nZ .own l):=⟨⟨.inl λh=>(by cases h),bg _ _ λy _=>ew.enc_fr y⟩,trivial⟩
theorem JE(l:List ew):dw (nZ .own l)=nZ .imm l:=by simp[dw,nZ,ew.enc,<-bR,T5]
theorem Dq(zs:List Int)(c:ix)(ids:Int)(b:j8 zs)(p:c.i<=zs.length)(r:1<=ids/\ids<=1000):aO Tryz.prog 243 false [.ptr (iw zs c),.val none [I ids]] [.ptr (iw zs (rn zs c ids).2),.val none [I ids]] .agg (ew.enc .own (rn zs c ids).1):=by
 have w:=bP p 3;have y:=bP w ids;have d:(kw zs c ids).2.i<=zs.length:=bP y 20;have B:=bT zs c 3 b p (by decide);have C:=bT zs (zD zs c).2 ids b w r.1;have j:=bT zs (Fc zs c ids).2 20 b y (by decide);have H:=bF zs c (n:=3) (by decide);have J:=bF zs (zD zs c).2 (n:=ids) r.1;have D:=bF zs (Fc zs c ids).2 (n:=20) (by decide);have e:=i6 zs (kw zs c ids).2 szs b d (by decide);have E:=i6 zs (kw zs c ids).2 [5,6] b d (by decide);have F:=i6 zs (kw zs c ids).2 [1,30,60,120] b d (by decide);have l:=i6 zs (kw zs c ids).2 [1,2,3,10,30] b d (by decide);have g:=bT zs (kw zs c ids).2 4 b d (by decide);have h:=bT zs (bw zs (kw zs c ids).2 4).2 999 b (bP d _) (by decide);have G:=bT zs (kw zs c ids).2 10 b d (by decide);have K:=bF zs (bw zs (kw zs c ids).2 4).2 (n:=999) (by decide);have L:=bF zs (kw zs c ids).2 (n:=10) (by decide);change aO _ _ _ _ [.ptr (iw zs (zD zs c).2),_] _ [I (zD zs c).1]at B;change aO _ _ _ _ [.ptr (iw zs (Fc zs c ids).2),_] _ [I (Fc zs c ids).1]at C;change aO _ _ _ _ [.ptr (iw zs (kw zs c ids).2),_] _ [I (kw zs c ids).1]at j;change 0<=(zD zs c).1/\(zD zs c).1<3 at H;change 0<=(Fc zs c ids).1/\(Fc zs c ids).1<ids at J;change 0<=(kw zs c ids).1/\(kw zs c ids).1<20 at D;have o:=ew.enc_fr (rn zs c ids).1;unfold rn at o |-;generalize kw zs c ids=k at *;generalize Fc zs c ids=n at *;generalize zD zs c=t at *;obtain⟨a,M⟩:=k;dsimp only at d e E F l g h G K L D j o |-;refine fM 77 [(92,[2,0]),(310,[2,1])] [] [(0,0),(0,0)] Tryz.func243 rfl (λu q=>?_) (.inr o)
 repeat'(first|refine gO ?_|(conv=>whnf);first|refine CI (B) (.inl rfl) ?_|refine CI (C) (.inl rfl) ?_|refine CI (j) (.inl rfl) ?_)
 obtain rfl|rfl|rfl|rfl|rfl|rfl|rfl|rfl|rfl|rfl|rfl|rfl|rfl|rfl|rfl|rfl|rfl|rfl|rfl|rfl:=(show a=0\/a=1\/a=2\/a=3\/a=4\/a=5\/a=6\/a=7\/a=8\/a=9\/a=10\/a=11\/a=12\/a=13\/a=14\/a=15\/a=16\/a=17\/a=18\/a=19 by omega)
 ·rw[C9 (show((0:Int))<=6 by decide)]
  repeat'(first|refine gO ?_|(conv=>whnf);first|refine CI (e) (.inl rfl) ?_)
  refine CF rfl rfl ?_;exact wC
 ·rw[C9 (show((1:Int))<=6 by decide)]
  repeat'(first|refine gO ?_|(conv=>whnf);first|refine CI (e) (.inl rfl) ?_)
  refine CF rfl rfl ?_;exact wC
 ·rw[C9 (show((2:Int))<=6 by decide)]
  repeat'(first|refine gO ?_|(conv=>whnf);first|refine CI (e) (.inl rfl) ?_)
  refine CF rfl rfl ?_;exact wC
 ·rw[C9 (show((3:Int))<=6 by decide)]
  repeat'(first|refine gO ?_|(conv=>whnf);first|refine CI (e) (.inl rfl) ?_)
  refine CF rfl rfl ?_;exact wC
 ·rw[C9 (show((4:Int))<=6 by decide)]
  repeat'(first|refine gO ?_|(conv=>whnf);first|refine CI (e) (.inl rfl) ?_)
  refine CF rfl rfl ?_;exact wC
 ·rw[C9 (show((5:Int))<=6 by decide)]
  repeat'(first|refine gO ?_|(conv=>whnf);first|refine CI (e) (.inl rfl) ?_)
  refine CF rfl rfl ?_;exact wC
 ·rw[C9 (show((6:Int))<=6 by decide)]
  repeat'(first|refine gO ?_|(conv=>whnf);first|refine CI (e) (.inl rfl) ?_)
  refine CF rfl rfl ?_;exact wC
 ·rw[C8 (show ¬((7:Int)<=6) by decide),C9 (show((7:Int))<=9 by decide)]
  repeat'(first|refine gO ?_|fail)
  refine CF rfl rfl ?_;exact wC
 ·rw[C8 (show ¬((8:Int)<=6) by decide),C9 (show((8:Int))<=9 by decide)]
  repeat'(first|refine gO ?_|fail)
  refine CF rfl rfl ?_;exact wC
 ·rw[C8 (show ¬((9:Int)<=6) by decide),C9 (show((9:Int))<=9 by decide)]
  repeat'(first|refine gO ?_|fail)
  refine CF rfl rfl ?_;exact wC
 ·rw[C8 (show ¬((10:Int)<=6) by decide),C8 (show ¬((10:Int)<=9) by decide),C9 (show((10:Int))<=12 by decide)]
  repeat'(first|refine gO ?_|(conv=>whnf);first|refine CI (g) (.inl rfl) ?_|refine CI (h) (.inl rfl) ?_)
  refine CF rfl rfl ?_;exact wC
 ·rw[C8 (show ¬((11:Int)<=6) by decide),C8 (show ¬((11:Int)<=9) by decide),C9 (show((11:Int))<=12 by decide)]
  repeat'(first|refine gO ?_|(conv=>whnf);first|refine CI (g) (.inl rfl) ?_|refine CI (h) (.inl rfl) ?_)
  refine CF rfl rfl ?_;exact wC
 ·rw[C8 (show ¬((12:Int)<=6) by decide),C8 (show ¬((12:Int)<=9) by decide),C9 (show((12:Int))<=12 by decide)]
  repeat'(first|refine gO ?_|(conv=>whnf);first|refine CI (g) (.inl rfl) ?_|refine CI (h) (.inl rfl) ?_)
  refine CF rfl rfl ?_;exact wC
 ·rw[C8 (show ¬((13:Int)<=6) by decide),C8 (show ¬((13:Int)<=9) by decide),C8 (show ¬((13:Int)<=12) by decide),C9 (show((13:Int))=13 by decide)]
  repeat'(first|refine gO ?_|(conv=>whnf);first|refine CI (G) (.inl rfl) ?_)
  refine CF rfl rfl ?_;exact wC
 ·rw[C8 (show ¬((14:Int)<=6) by decide),C8 (show ¬((14:Int)<=9) by decide),C8 (show ¬((14:Int)<=12) by decide),C8 (show ¬((14:Int)=13) by decide),C9 (show((14:Int))=14 by decide)]
  repeat'(first|refine gO ?_|(conv=>whnf);first|refine CI (E) (.inl rfl) ?_)
  refine CF rfl rfl ?_;exact wC
 ·rw[C8 (show ¬((15:Int)<=6) by decide),C8 (show ¬((15:Int)<=9) by decide),C8 (show ¬((15:Int)<=12) by decide),C8 (show ¬((15:Int)=13) by decide),C8 (show ¬((15:Int)=14) by decide),C9 (show((15:Int))=15 by decide)]
  repeat'(first|refine gO ?_|fail)
  refine CF rfl rfl ?_;exact wC
 ·rw[C8 (show ¬((16:Int)<=6) by decide),C8 (show ¬((16:Int)<=9) by decide),C8 (show ¬((16:Int)<=12) by decide),C8 (show ¬((16:Int)=13) by decide),C8 (show ¬((16:Int)=14) by decide),C8 (show ¬((16:Int)=15) by decide),C9 (show((16:Int))=16 by decide)]
  repeat'(first|refine gO ?_|(conv=>whnf);first|refine CI (F) (.inl rfl) ?_)
  refine CF rfl rfl ?_;exact wC
 ·rw[C8 (show ¬((17:Int)<=6) by decide),C8 (show ¬((17:Int)<=9) by decide),C8 (show ¬((17:Int)<=12) by decide),C8 (show ¬((17:Int)=13) by decide),C8 (show ¬((17:Int)=14) by decide),C8 (show ¬((17:Int)=15) by decide),C8 (show ¬((17:Int)=16) by decide),C9 (show((17:Int))=17 by decide)]
  repeat'(first|refine gO ?_|fail)
  refine CF rfl rfl ?_;exact wC
 ·rw[C8 (show ¬((18:Int)<=6) by decide),C8 (show ¬((18:Int)<=9) by decide),C8 (show ¬((18:Int)<=12) by decide),C8 (show ¬((18:Int)=13) by decide),C8 (show ¬((18:Int)=14) by decide),C8 (show ¬((18:Int)=15) by decide),C8 (show ¬((18:Int)=16) by decide),C8 (show ¬((18:Int)=17) by decide)]
  repeat'(first|refine gO ?_|(conv=>whnf);first|refine CI (l) (.inl rfl) ?_)
  refine CF rfl rfl ?_;exact wC
 ·rw[C8 (show ¬((19:Int)<=6) by decide),C8 (show ¬((19:Int)<=9) by decide),C8 (show ¬((19:Int)<=12) by decide),C8 (show ¬((19:Int)=13) by decide),C8 (show ¬((19:Int)=14) by decide),C8 (show ¬((19:Int)=15) by decide),C8 (show ¬((19:Int)=16) by decide),C8 (show ¬((19:Int)=17) by decide)]
  repeat'(first|refine gO ?_|(conv=>whnf);first|refine CI (l) (.inl rfl) ?_)
  refine CF rfl rfl ?_;exact wC
theorem Ak(zs:List Int)(c:ix)(b:j8 zs)(d:c.i<=zs.length):aO Tryz.prog 151 false [.ptr (iw zs c),.val none [I 40]] [.ptr (iw zs (kM zs c).2),.val none [I 40]] .one (nZ .own (kM zs c).1):=by
 have e:=bT zs c 41 b d (by decide);have g:=bF zs c (n:=41) (by decide);obtain⟨n,h⟩:=Z2 g.1;have a:(bw zs c 41).1.toNat=n:=by rw[h];rfl
 unfold kM;rw[a];rw[h]at e g;refine fM 27 [(92,[2,0]),(243,[2,0])] [] [(0,0),(0,0)] Tryz.func151 rfl (λu q=>?_) (.inr (JF _))
 repeat'(first|refine gO ?_|(conv=>whnf);first|refine CI (e) (.inl rfl) ?_)
 (conv=>whnf)
 refine CE (ι:=Nat) (λi=>[(0,.hold .box (iw zs (kJ zs c i).2)),(5,.hold .one (nZ .own (kJ zs c i).1)),(6,.hold .one [I ((n:Nat):Int)]),(7,.hold .one [I ((i:Nat):Int)])]) (λi=>i<=n) (λi=>n - i) (0) ?_ (U0 _) λi p=>?_
 ·exact wC
 obtain⟨t,-,j⟩:=nY (zs:=zs) (c:=c) d (n:=i) ω;by_cases w:i<n
 ·have k:=Dq zs (kJ zs c i).2 (1+(i:Int) / 2) b j ω
  have l:((i:Nat):Int).tdiv 2=(i:Int) / 2:=Int.tdiv_eq_ediv_of_nonneg ω
  repeat'(first|refine gD ?_|(conv=>whnf);first|with_reducible (first|refine CS l ?_|refine CM ω ?_)|refine CI (k) (.inl rfl) ?_|refine CQ (aM λ_=>rfl) (λr o=>by rw[I1.1 o];rfl) (by simp[aX,dH,ew.enc]) (by simp;omega) (by simp only[Z0];exact vq (by simp;omega) (by decide)) rfl ?_)
  ((conv=>whnf);refine CD (i+1) ω ω ?_)
  repeat'(first|exact trivial|rfl| exact dN _ |exact CJ rfl (CJ (W0 (C.s d7.own) (by simp[kJ];rfl)) trivial)|refine CJ ?_ ?_|(exact zw (by first|omega|(simp only;omega)|(simp;omega))))
 ·obtain rfl:i=n:=ω
  repeat'(first|refine gD ?_|fail)
  refine CF rfl rfl ?_;exact wC
def rfs(h:ab):List Int:=h.Kernel.Refuse
theorem AC(k:af)(p:Int):(gc k p).1.Refuse=k.Refuse:=by unfold gc;split<;>rfl
theorem rr(k:af)(p:Int):∀n,(cI k p n).1.Refuse=k.Refuse
 | 0=>rfl
 | n+1=>by
  unfold cI;split
  ·exact(AC _ _).trans (rr k p n)
  ·exact rr k p n
theorem K2(h:ab)(i:Nat):rfs (lQ h i).1=rfs h:=by unfold lQ;split<;>rfl
theorem zz(h:ab)(t c:Nat):rfs (eG h t c).1=rfs h:=by
 unfold eG;split
 ·rfl
 split
 ·rfl
 split
 ·rfl
 split
 ·exact AC _ _
 ·exact(K2 _ _).trans (AC _ _)
theorem HJ(h:ab)(t n:Int):rfs (fk h t n).1=rfs h:=by
 unfold fk;split
 ·rfl
 split
 ·rfl
 split
 ·rfl
 split
 ·rfl
 split
 ·split
  ·exact zz _ _ _
  ·exact zz _ _ _
 ·unfold mz
  split
  ·rfl
  split
  ·exact rr _ _ _
  ·exact((iU _ _ _).2).trans (rr _ _ _)
theorem KT(h:ab)(t i:Nat):rfs (freeT h t i).1=rfs h:=by
 unfold freeT;split
 ·exact(iU _ _ _).2
 split
 ·rfl
 split
 ·exact(eP t _ _).2.2.2.2.2.2.2
 split<;>rfl
theorem sL(t:Nat)(h:ab):∀k,rfs (flushN t h k).1=rfs h
 | 0=>rfl
 | k+1=>((dy _ (spilt (flushN t h k).1 t k)).2.2.2.2.2.2.2).trans (sL t h k)
theorem FA{h:ab}(a:bm h [])(b:JI h):∀n,rfs (ma h n).1=rfs h
 | 0=>rfl
 | n+1=>by
  obtain⟨c,d⟩:=wb a b n;unfold ma;split
  ·rename_i e
   unfold sJ at e;rw[I0]at e;exact((xd c e.1).2.2.1).trans (FA a b n)
  ·exact FA a b n
theorem Lo{w:bD}{m:Nat}(h:sK w m)(a:ew):rfs (lv w a).1.Heap=rfs w.Heap:=by
 unfold lv;split
 ·exact HJ _ _ _
 split
 ·split
  ·rfl
  unfold my;split
  ·unfold oY
   split
   ·rfl
   split
   ·exact KT _ _ _
   ·rfl
  split
  ·unfold ml
   split
   ·rfl
   split
   ·rfl
   split<;>rfl
  ·unfold pC
   split
   ·exact((iU _ _ _).2).trans (tG _ _ _).2.2
   ·rfl
 split
 ·unfold fI
  split
  ·split<;>rfl
  split
  ·rfl
  split
  ·exact(eP _ _ _).2.2.2.2.2.2.2
  ·exact sL _ _ _
 split
 ·unfold mC
  split
  ·exact(dy _ _).2.2.2.2.2.2.2
  ·rfl
 split
 ·unfold mt
  split
  ·rfl
  ·show rfs (started w.Heap).1=_
   unfold rfs;rw[(tV h.inv).2.1]
 split
 ·exact FA h.inv h.ji _
 ·rfl
theorem FB{c:cF}(h:Fd c)(acts:List ew):∀n,rfs (xV c acts n).1.Heap=c.Refuse
 | 0=>rfl
 | n+1=>(Lo (vP h acts n) _).trans (FB h acts n)
def qp(w:bD):List C:=bz w.Heap++ay.enc .imm w.Ref
theorem MY(w:bD):dw (qp w)=bD.enc .imm w:=by
 unfold qp;rw[eR,bC,<-CZ,rc,CZ]
 rfl
theorem EY(w:bD)(id:Int)(g:w.Heap.Objs.length<=1048576):aO Tryz.prog 302 false [.ptr (qp w),.val none [I id]] [.ptr (qp w),.val none [I id]] .one [I (rD w.Heap id)]:=by
 refine fM 28 [] [] [(0,0),(0,0)] Tryz.func302 rfl (λu q=>?_)
 repeat'(first|refine gO ?_|(conv=>whnf);first|refine CA ?_)
 (conv=>whnf)
 refine CE (ι:=Nat) (λi=>[(0,.hold .box (qp w)),(1,.hold .one [I (id)]),(5,.hold .one [I ((i:Nat):Int)])]) (λi=>i<=w.Heap.Objs.length/\∀(j:Nat)(z:bK),j<i->w.Heap.Objs[j]? = some z->LQ id z=false) (λi=>w.Heap.Objs.length - i) (0) ?_ (⟨U0 _,λj z h=>ω⟩) λi c=>?_
 ·exact wC
 obtain⟨c,b⟩:=c;by_cases d:i<w.Heap.Objs.length
 ·have a:=ah d
  by_cases e:(nth w.Heap.Objs i).Id=id
  ·repeat'(first|refine gA ?_|(conv=>whnf);first|with_reducible refine CB (aa a) ?_|refine CA ?_|refine CH rfl (aa a) rfl ?_)
   refine CF rfl (W0 (λz=>[I z]) (eI a (O0 e) b).symm) ?_;exact wC
  ·repeat'(first|refine gA ?_|(conv=>whnf);first|with_reducible refine CB (aa a) ?_|refine CA ?_|refine CH rfl (aa a) rfl ?_)
   ((conv=>whnf);refine CD (i+1) ⟨ω,dC a (T0 e) b⟩ ω ?_;(exact wC))
 ·repeat'(first|refine gD ?_|(conv=>whnf);first|refine CA ?_)
  refine CF rfl (W0 (λz=>[I z]) (gk ω b).symm) ?_;exact wC
theorem cT(y:ab):(bz y).length=24:=rfl
theorem yp(w:bD)(m n:Nat)(h:sK w m)(B:n<=50):aO Tryz.prog 308 false [.ptr (qp w),.val none [I (n:Nat)]] [.ptr (qp ⟨(ma w.Heap n).1,w.Ref⟩),.val none [I (n:Nat)]] .one [I ((ma w.Heap n).2:Nat)]:=by
 refine fM 35 [(368,[2])] [] [(0,0),(0,0)] Tryz.func308 rfl (λu q=>?_)
 repeat'(first|refine gO ?_|(conv=>whnf);first|refine CA ?_)
 (conv=>whnf)
 refine CE (ι:=Nat) (λi=>[(0,.hold .box (qp ⟨(ma w.Heap i).1,w.Ref⟩)),(1,.hold .one [I ((n:Nat):Int)]),(5,.hold .one [I (((ma w.Heap i).2:Nat):Int)]),(6,.hold .one [I ((i:Nat):Int)])]) (λi=>i<=n/\(ma w.Heap i).2=i) (λi=>n - i) (0) ?_ (⟨U0 _,rfl⟩) λi l=>?_
 ·exact wC
 obtain⟨l,C⟩:=l;obtain⟨o,D⟩:=wb h.inv h.ji i;have b:ma w.Heap (i+1)=if sJ (ma w.Heap i).1=true then(mStep (ma w.Heap i).1,(ma w.Heap i).2+1) else ma w.Heap i:=rfl
 have p:=(aD.1 o.ker).2.2.2.2;by_cases E:i<n
 ·cases c:(ma w.Heap i).1.Meshing with
  | true=>
   have y:=(Ad _ o c).frame (r:=ay.enc .imm w.Ref) ((cT _).trans (cT _).symm);by_cases g:(ma w.Heap i).1.Kernel.Calls<=99000
   ·have d:sJ (ma w.Heap i).1=true:=by unfold sJ;rw[c,O0 g];rfl
    rw[C9 d]at b;generalize ma w.Heap i=s at *
    repeat'(first|refine gD ?_|(conv=>whnf);first|refine CA ?_|refine Bf.t (O0 g) ?_|refine Bf.t c ?_|refine CI (y) (.inl rfl) ?_)
    ((conv=>whnf);refine CD (i+1) ⟨ω,by rw[b];simp only;omega⟩ ω ?_)
    rw[b];exact wC
   ·have d:sJ (ma w.Heap i).1=false:=by unfold sJ;rw[c,T0 g];rfl
    have a:∀k,ma w.Heap (i+k)=ma w.Heap i:=λk=>by
     induction k with
     | zero=>rfl
     | succ k j=>show(if sJ (ma w.Heap (i+k)).1=true then _ else ma w.Heap (i+k))=_;rw[j,d,C8 (by simp)]
    have e:=a (n - i);rw[show i+(n - i)=n by omega]at e;rw[e];generalize ma w.Heap i=s at *
    repeat'(first|refine gD ?_|(conv=>whnf);first|refine CA ?_|refine Bf.f (T0 g) ?_|refine Bf.t c ?_)
    refine CF rfl rfl ?_;exact wC
  | false=>
   have d:sJ (ma w.Heap i).1=false:=by unfold sJ;rw[c];rfl
   have a:∀k,ma w.Heap (i+k)=ma w.Heap i:=λk=>by
    induction k with
    | zero=>rfl
    | succ k j=>show(if sJ (ma w.Heap (i+k)).1=true then _ else ma w.Heap (i+k))=_;rw[j,d,C8 (by simp)]
   have e:=a (n - i);rw[show i+(n - i)=n by omega]at e;rw[e];generalize ma w.Heap i=s at *
   repeat'(first|refine gD ?_|(conv=>whnf);first|refine CA ?_|refine Bf.f c ?_)
   refine CF rfl rfl ?_;exact wC
 ·obtain rfl:i=n:=ω
  repeat'(first|refine gD ?_|(conv=>whnf);first|refine CA ?_)
  refine CF rfl rfl ?_;exact wC
theorem Fs{k:af}(a:aB k=true):(aB k&&decide (k.Calls<100000))=decide (k.Calls≠100000):=by
 have:=(aD.1 a).2.2.2.2;rw[a,Bool.true_and,U4,C0,C0];omega
theorem x5(w:bD)(a:ew)(m:Nat)(h:sK w m)(B:a.Kind=5\/a.Kind=6\/a.Kind=7):aO Tryz.prog 304 false [.ptr (qp w),.val (some 5) (ew.enc .imm a)] [.ptr (qp ⟨(fI w.Heap a).1,w.Ref⟩),.val (some 5) (ew.enc .imm a)] .one [I (fI w.Heap a).2]:=by
 have d:=h.inv;have o:=d.nc;have p:w.Heap.Caches.length<=4:=by have:=(dE.1 d.mail).1.2.1;omega
 have C:=lf.of d.mail;have i:=kS w.Heap.Kernel (bA d.ker);rw[Fs d.ker]at i;have j:=aG a.Thread 0 (w.Heap.Caches.length - 1:Int);unfold fI;refine fM 59 [(361,[2,0]),(362,[2,0])] [(3,267,[15,16,17,18,19,20,21,14,22,23,6,0,1,2,3,4,5,6,7,8,9,10,11,1009,12]),(8,15,[30,31,32,33,34,35,36,37,38,39,40,41,42,43,44])] [(0,0),(0,0)] Tryz.func304 rfl (λu q=>?_);by_cases l:a.Kind=5
 ·rw[C9 l]
  by_cases e:0<=a.Thread/\a.Thread<=w.Heap.Caches.length - 1
  ·have y:oX w.Heap a:=e
   obtain⟨t,g⟩:=Z2 e.1;have b:=Dz w.Heap.Mail t d.mail ω;rw[<-g]at b;rw[g]at e |-;simp only[X2];rw[g]at b;by_cases c:0<(nth w.Heap.Mail.Buffers t).length
   ·rw[C9 (show oX w.Heap a/\0<(nth w.Heap.Mail.Buffers t).length from⟨y,c⟩)]
    rw[C9 c,O0 c]at b;rw[<-g]at b
    repeat'(first|refine gA ?_|(conv=>whnf);first|with_reducible refine Bf.E (λk=>?_) (λk=>?_)|refine CA ?_|refine CG (b) ⟨⟨rfl,aI.enc_fz w.Heap.Mail⟩,⟨rfl,rfl⟩,trivial⟩ ?_|refine CA ?_)
    refine CF rfl rfl ?_;exact wC
   ·rw[C8 (show ¬(oX w.Heap a/\0<(nth w.Heap.Mail.Buffers t).length) from λx=>c x.2)]
    rw[C8 c,T0 c]at b;rw[<-g]at b
    repeat'(first|refine gA ?_|(conv=>whnf);first|with_reducible refine Bf.E (λk=>?_) (λk=>?_)|refine CA ?_|refine CG (b) ⟨⟨rfl,aI.enc_fz w.Heap.Mail⟩,⟨rfl,rfl⟩,trivial⟩ ?_|refine CA ?_)
    refine CF rfl rfl ?_;exact wC
  ·rw[C8 (show ¬(oX w.Heap a/\0<(nth w.Heap.Mail.Buffers a.Thread.toNat).length) from λx=>e x.1)]
   have b:=FN w.Heap.Mail a.Thread d.mail ω
   repeat'(first|refine gA ?_|(conv=>whnf);first|with_reducible refine Bf.E (λk=>?_) (λk=>?_)|refine CA ?_|refine CG (b) ⟨⟨rfl,aI.enc_fz w.Heap.Mail⟩,⟨rfl,rfl⟩,trivial⟩ ?_|refine CA ?_)
   refine CF rfl rfl ?_;exact wC
 rw[C8 l];by_cases e:w.Heap.Kernel.Calls≠100000;rotate_left
 ·rw[C9 (show ¬(w.Heap.Kernel.Calls≠100000/\oX w.Heap a) from λx=>e x.1)]
  rw[T0 e]at i
  repeat'(first|refine gA ?_|(conv=>whnf);first|refine CA ?_|refine CG (i) ⟨⟨rfl,CP _⟩,trivial⟩ ?_|refine CA ?_)
  refine CF rfl rfl ?_;exact wC
 rw[O0 e]at i;by_cases c:0<=a.Thread/\a.Thread<=w.Heap.Caches.length - 1;rotate_left
 ·rw[C9 (show ¬(w.Heap.Kernel.Calls≠100000/\oX w.Heap a) from λx=>c x.2)]
  rw[T0 c]at j
  repeat'(first|refine gA ?_|(conv=>whnf);first|refine CA ?_|refine CG (i) ⟨⟨rfl,CP _⟩,trivial⟩ ?_|refine C7 (j) ?_|refine CA ?_)
  refine CF rfl rfl ?_;exact wC
 rw[C8 (show ¬¬(w.Heap.Kernel.Calls≠100000/\oX w.Heap a) from Z3 ⟨e,c⟩)];rw[O0 c]at j;obtain⟨t,g⟩:=Z2 c.1;by_cases n:a.Kind=6
 ·rw[C9 n]
  have b:=(uY w.Heap t d ω).frame (r:=ay.enc .imm w.Ref) ((cT _).trans (cT _).symm);rw[show a.Thread.toNat=t by omega];rw[<-g]at b
  repeat'(first|refine gA ?_|(conv=>whnf);first|refine CA ?_|refine CG (i) ⟨⟨rfl,CP _⟩,trivial⟩ ?_|refine C7 (j) ?_|refine CI (b) (.inl rfl) ?_|refine CA ?_)
  refine CF rfl rfl ?_;exact wC
 ·rw[C8 n]
  have b:=(yB w.Heap t d ω).frame (r:=ay.enc .imm w.Ref) ((cT _).trans (cT _).symm);rw[show a.Thread.toNat=t by omega];rw[<-g]at b
  repeat'(first|refine gA ?_|(conv=>whnf);first|refine CA ?_|refine CG (i) ⟨⟨rfl,CP _⟩,trivial⟩ ?_|refine C7 (j) ?_|refine CI (b) (.inl rfl) ?_|refine CA ?_)
  refine CF rfl rfl ?_;exact wC
theorem vG(w:bD)(a:ew)(i m:Nat)(h:sK w m)(X:m<=900)(G:Mg a)(t:i<w.Heap.Objs.length):aO Tryz.prog 303 false [.ptr (qp w),.val (some 5) (ew.enc .imm a),.val none [I (i:Nat)]] [.ptr (qp (my w a i).1),.val (some 5) (ew.enc .imm a),.val none [I (i:Nat)]] .one [I (my w a i).2]:=by
 have e:=h.inv;have b:=ah t;have M:=sD e (am t);have N:=mG e (am t) (k:=0);have O:1<=(nth w.Heap.Objs i).Size/\(nth w.Heap.Objs i).Size<=1000:=by
  rcases e.oow _ (am t) with⟨s,P,Y,Z⟩|⟨l,H,d,c⟩
  ·have hc:=aC (e.L.sok s P)
   have:=mZ (n:=(nth w.Heap.Objs i).Size) ω;omega
  ·have h8:=bS (e.L.lok l H)
   omega
 have g:=kS w.Heap.Kernel (bA e.ker);rw[Fs e.ker]at g;have Q:=G.k;have R:=G.p;have S:=G.v;unfold my;refine fM 126 [(354,[2,0,0]),(356,[2,0,0]),(358,[2,0,0])] [(6,7,[29,30,31,32,33,34,35]),(8,269,[40,41,42,43,44,45,46,47,39,48,49,50,51,0,1,2,3,4,5,6,7,8,9,10,11,12,13,1010]),(13,10,[62,63,64,65,66,67,68,69,70,71]),(15,273,[76,77,78,79,80,81,82,83,84,85,86,87,75,88,89,90,91,0,1,2,3,4,5,6,7,8,9,10,11,12,13,14,15,16,17,1014]),(17,15,[93,94,95,96,97,98,99,100,101,102,103,104,105,106,107]),(19,271,[112,113,114,115,116,117,118,119,120,121,111,122,123,124,125,0,1,2,3,4,5,6,7,8,9,10,11,12,13,14,15,1012])] [(0,0),(0,0),(0,0)] Tryz.func303 rfl (λu q=>?_);by_cases J:a.Kind=2
 ·rw[C9 J]
  unfold oY;by_cases d:w.Heap.Kernel.Calls=100000
  ·rw[C9 d]
   rw[T0 (Z3 d)]at g
   repeat'(first|refine gA ?_|(conv=>whnf);first|with_reducible refine CB (aa b) ?_|refine CA ?_|refine CG (g) ⟨⟨rfl,CP _⟩,trivial⟩ ?_|refine CH rfl (aa b) rfl ?_|refine CA ?_)
   refine CF rfl rfl ?_;exact wC
  rw[C8 d];rw[O0 d]at g;have C:=(NM w.Heap i a.Thread e t).frame (r:=ay.enc .imm w.Ref) ((cT _).trans (cT _).symm);by_cases c:0<=a.Thread/\a.Thread<=w.Heap.Caches.length - 1
  ·rw[C9 (show oX w.Heap a from c)]
   rw[C9 c,C9 c]at C;have T:=Bx w.Ref (nth w.Heap.Objs i).Id m h.ref ω;generalize freeT w.Heap a.Thread.toNat i=f at C |-;by_cases o:f.2=0
   ·rw[C9 o]
    repeat'(first|refine gA ?_|(conv=>whnf);first|with_reducible (first|refine CB (aa b) ?_|refine Bf.E (λj=>?_) (λj=>?_))|refine CA ?_|refine CG (g) ⟨⟨rfl,CP _⟩,trivial⟩ ?_|refine CH rfl (aa b) rfl ?_|refine CI (C) (.inl rfl) ?_|refine Cl.sh T rfl ?_|refine CA ?_)
    refine CF rfl rfl ?_;exact wC
   ·rw[C8 o]
    repeat'(first|refine gA ?_|(conv=>whnf);first|with_reducible (first|refine CB (aa b) ?_|refine Bf.E (λj=>?_) (λj=>?_))|refine CA ?_|refine CG (g) ⟨⟨rfl,CP _⟩,trivial⟩ ?_|refine CH rfl (aa b) rfl ?_|refine CI (C) (.inl rfl) ?_|refine CA ?_)
    refine CF rfl rfl ?_;exact wC
  ·rw[C8 (show ¬oX w.Heap a from c)]
   rw[C8 c,C8 c]at C
   repeat'(first|refine gA ?_|(conv=>whnf);first|with_reducible (first|refine CB (aa b) ?_|refine Bf.E (λj=>?_) (λj=>?_))|refine CA ?_|refine CG (g) ⟨⟨rfl,CP _⟩,trivial⟩ ?_|refine CH rfl (aa b) rfl ?_|refine CI (C) (.inl rfl) ?_|refine CA ?_)
   refine CF rfl rfl ?_;exact wC
 rw[C8 J];by_cases K:a.Kind=3
 ·rw[C9 K]
  unfold ml;have D:=aG a.At 0 ((nth w.Heap.Objs i).Size - 1);by_cases d:0<=a.At/\a.At<=(nth w.Heap.Objs i).Size - 1;rotate_left
  ·rw[C9 d]
   rw[T0 d]at D
   repeat'(first|refine gA ?_|(conv=>whnf);first|with_reducible (first|refine CB (aa b) ?_|refine Bf.E (λj=>?_) (λj=>?_))|refine CA ?_|refine CH rfl (aa b) rfl ?_|refine C7 (D) ?_|refine CA ?_)
   refine CF rfl rfl ?_;exact wC
  rw[C8 (Z3 d)];rw[O0 d]at D;have F:=(yI w.Heap i a.At a.Value e t d).frame (r:=ay.enc .imm w.Ref) (by split<;>rfl);have U:=mG e (am t) d;by_cases c:(au w.Heap.Kernel.Machine.Table (((nth w.Heap.Objs i).Addr+a.At) / 16)).Mode=1
  ·rw[C9 c]
   rw[C9 (.inl c),C9 c]at F
   repeat'(first|refine gA ?_|(conv=>whnf);first|with_reducible (first|refine CB (aa b) ?_|refine Bf.E (λj=>?_) (λj=>?_))|refine CA ?_|refine CH rfl (aa b) rfl ?_|refine C7 (D) ?_|refine CI (F) (.inl rfl) ?_|refine CA ?_)
   refine CF rfl rfl ?_;exact wC
  rw[C8 c];by_cases o:0<=a.Value/\a.Value<=999;rotate_left
  ·rw[C9 o]
   rw[C9 (.inr o),C8 c,C9 o]at F
   repeat'(first|refine gA ?_|(conv=>whnf);first|with_reducible (first|refine CB (aa b) ?_|refine Bf.E (λj=>?_) (λj=>?_))|refine CA ?_|refine CH rfl (aa b) rfl ?_|refine C7 (D) ?_|refine CI (F) (.inl rfl) ?_|refine CA ?_)
   refine CF rfl rfl ?_;exact wC
  rw[C8 (Z3 o)];rw[C8 (λx=>x.elim c λy=>y o),C8 c,C8 (Z3 o)]at F;obtain⟨b5,V⟩:=BI w.Ref (nth w.Heap.Objs i).Id a.At a.Value m h.ref ω o
  repeat'(first|refine gA ?_|(conv=>whnf);first|with_reducible (first|refine CB (aa b) ?_|refine Bf.E (λj=>?_) (λj=>?_))|refine CA ?_|refine CH rfl (aa b) rfl ?_|refine C7 (D) ?_|refine CI (F) (.inl rfl) ?_|refine C7 (V) ?_|refine CA ?_)
  refine CF rfl rfl ?_;exact wC
 rw[C8 K];unfold pC;by_cases d:w.Heap.Kernel.Calls=100000
 ·rw[C8 (λx=>x.1 d)]
  rw[T0 (Z3 d)]at g
  repeat'(first|refine gA ?_|(conv=>whnf);first|with_reducible refine CB (aa b) ?_|refine CA ?_|refine CG (g) ⟨⟨rfl,CP _⟩,trivial⟩ ?_|refine CH rfl (aa b) rfl ?_|refine CA ?_)
  refine CF rfl rfl ?_;exact wC
 rw[O0 d]at g;by_cases c:ll w.Heap i a.Value
 ·rw[C9 ⟨d,c⟩]
  have B:=(rZ w.Heap i a.Value e t c.1).frame (r:=ay.enc .imm w.Ref) (by split<;>rfl);rw[C9 c,O0 c]at B;obtain⟨b7,W⟩:=D4 w.Ref (nth w.Heap.Objs i).Id a.Value m h.ref ω
  repeat'(first|refine gA ?_|(conv=>whnf);first|with_reducible refine CB (aa b) ?_|refine CA ?_|refine CG (g) ⟨⟨rfl,CP _⟩,trivial⟩ ?_|refine CH rfl (aa b) rfl ?_|refine CI (B) (.inl rfl) ?_|refine C7 (W) ?_|refine CA ?_)
  refine CF rfl rfl ?_;exact wC
 ·rw[C8 (λx=>c x.2)]
  by_cases o:yi w.Heap (nth w.Heap.Objs i).Addr<0
  ·have B:=(GA w.Heap (nth w.Heap.Objs i).Addr a.Value (by have:=e.lens.larges;omega) e.L.lok o).frame (r:=ay.enc .imm w.Ref) ((cT _).trans (cT _).symm)
   repeat'(first|refine gA ?_|(conv=>whnf);first|with_reducible refine CB (aa b) ?_|refine CA ?_|refine CG (g) ⟨⟨rfl,CP _⟩,trivial⟩ ?_|refine CH rfl (aa b) rfl ?_|refine CI (B) (.inl rfl) ?_|refine CA ?_)
   refine CF rfl rfl ?_;exact wC
  ·have B:=(rZ w.Heap i a.Value e t ω).frame (r:=ay.enc .imm w.Ref) (by split<;>rfl)
   rw[C8 c,T0 c]at B
   repeat'(first|refine gA ?_|(conv=>whnf);first|with_reducible refine CB (aa b) ?_|refine CA ?_|refine CG (g) ⟨⟨rfl,CP _⟩,trivial⟩ ?_|refine CH rfl (aa b) rfl ?_|refine CI (B) (.inl rfl) ?_|refine CA ?_)
   refine CF rfl rfl ?_;exact wC
theorem sK.fit{w:bD}{m:Nat}(h:sK w m)(a:ja w.Heap.Kernel.Refuse):ab.sml w.Heap/\ab.wf w.Heap:=
 ⟨(h.inv.fit a (lf.of h.inv.mail).sml).sml,h.inv.wf a⟩
theorem Gr(w:bD)(a:ew)(m:Nat)(h:sK w m)(K:m<=900)(L:ja w.Heap.Kernel.Refuse)(p:Mg a):aO Tryz.prog 240 false [.ptr (qp w),.val (some 5) (ew.enc .imm a)] [.ptr (qp (lv w a).1),.val (some 5) (ew.enc .imm a)] .one [I (lv w a).2]:=by
 have i:=h.inv;have M:=p.k;have O:=p.n;have j:=i.nums;unfold bX at j;rw[C0]at j;unfold lv;refine fM 123 [(143,[2,0,0]),(302,[2,0]),(303,[2,0,0]),(304,[2,0]),(306,[2,0]),(307,[2]),(308,[2,0])] [(3,265,[13,14,15,16,17,18,19,21,22,0,1,2,3,4,5,6,7,8,9,10,11,1010,12]),(5,269,[26,27,28,29,30,31,32,33,25,34,35,36,37,0,1,2,3,4,5,6,7,8,9,10,11,12,13,1010]),(19,21,[62,63,64,65,66,67,68,69,70,71,72,73,74,75,76,77,78,79,80,81,82]),(21,5,[86,87,88,89,90])] [(0,0),(0,0)] Tryz.func240 rfl (λu q=>?_);by_cases F:a.Kind=1
 ·rw[C9 F]
  have c:=(xX w.Heap a.Thread a.N i).frame (r:=ay.enc .imm w.Ref) ((cT _).trans (cT _).symm);by_cases e:(fk w.Heap a.Thread a.N).2.2=0
  ·rw[C9 e]
   have y:1<=a.N/\a.N<=1000:=by
    refine Classical.byContradiction λB=>?_
    unfold fk at e;rw[C9 B]at e;split at e
    ·exact absurd (show(5:Int)=0 from e) (by decide)
    split at e
    ·exact absurd (show(1:Int)=0 from e) (by decide)
    exact absurd (show(2:Int)=0 from e) (by decide)
   have o:=yj w.Ref a.N m h.ref ω y;generalize fk w.Heap a.Thread a.N=f at c e |-
   repeat'(first|refine gA ?_|(conv=>whnf);first|with_reducible refine Bf.E (λb=>?_) (λb=>?_)|refine CA ?_|refine CI (c) (.inl rfl) ?_|refine C7 (o) ?_|refine CA ?_)
   refine CF rfl rfl ?_;exact wC
  ·rw[C8 e]
   generalize fk w.Heap a.Thread a.N=f at c e |-
   repeat'(first|refine gA ?_|(conv=>whnf);first|with_reducible refine Bf.E (λb=>?_) (λb=>?_)|refine CA ?_|refine CI (c) (.inl rfl) ?_|refine CA ?_)
   refine CF rfl rfl ?_;exact wC
 rw[C8 F];by_cases G:a.Kind=2\/a.Kind=3\/a.Kind=4
 ·rw[C9 G]
  have c:=EY w a.N (by have:=i.lens.objs;omega);by_cases e:rD w.Heap a.N<0
  ·rw[C9 e]
   repeat'(first|refine gA ?_|(conv=>whnf);first|with_reducible refine Bf.E (λb=>?_) (λb=>?_)|refine CA ?_|refine CI (c) (.inl rfl) ?_)
   all_goals first|omega|skip
   all_goals
    refine CF rfl rfl ?_;exact wC
  ·rw[C8 e]
   obtain⟨P,S,T⟩:=gq (LQ a.N) w.Heap.Objs (by unfold rD at e;omega);have o:=vG w a (rD w.Heap a.N).toNat m h K p P;rw[show(((rD w.Heap a.N).toNat:Nat):Int)=rD w.Heap a.N by omega]at o
   repeat'(first|refine gA ?_|(conv=>whnf);first|with_reducible refine Bf.E (λb=>?_) (λb=>?_)|refine CA ?_|refine CI (c) (.inl rfl) ?_|refine CI (o) (.inl rfl) ?_)
   all_goals first|omega|skip
   all_goals
    refine CF rfl rfl ?_;exact wC
 rw[C8 G];by_cases C:a.Kind=5\/a.Kind=6\/a.Kind=7
 ·rw[C9 C]
  have c:=x5 w a m h C
  repeat'(first|refine gA ?_|(conv=>whnf);first|with_reducible refine Bf.E (λb=>?_) (λb=>?_)|refine CA ?_|refine CI (c) (.inl rfl) ?_)
  all_goals first|omega|skip
  all_goals
   refine CF rfl rfl ?_;exact wC
 rw[C8 C];by_cases H:a.Kind=8
 ·rw[C9 H]
  unfold mC;have d:=kS w.Heap.Kernel (bA i.ker);rw[Fs i.ker]at d;have c:=aG a.N 0 1000;by_cases g:w.Heap.Kernel.Calls≠100000;rotate_left
  ·rw[C8 (λx=>g x.1)]
   rw[T0 g]at d
   repeat'(first|refine gA ?_|(conv=>whnf);first|with_reducible refine Bf.E (λb=>?_) (λb=>?_)|refine CA ?_|refine CG (d) ⟨⟨rfl,CP _⟩,trivial⟩ ?_|refine CA ?_)
   refine CF rfl rfl ?_;exact wC
  rw[O0 g]at d;by_cases l:0<=a.N/\a.N<=1000;rotate_left
  ·rw[C8 (λx=>l x.2.1)]
   rw[T0 l]at c
   repeat'(first|refine gA ?_|(conv=>whnf);first|with_reducible refine Bf.E (λb=>?_) (λb=>?_)|refine CA ?_|refine CG (d) ⟨⟨rfl,CP _⟩,trivial⟩ ?_|refine C7 (c) ?_|refine CA ?_)
   refine CF rfl rfl ?_;exact wC
  rw[O0 l]at c;by_cases D:w.Heap.Clock+a.N<=1000000
  ·rw[C9 ⟨g,l,D⟩]
   have o:=(Bo w.Heap a.N i l D).frame (r:=ay.enc .imm w.Ref) ((cT _).trans (cT _).symm)
   repeat'(first|refine gA ?_|(conv=>whnf);first|with_reducible refine Bf.E (λb=>?_) (λb=>?_)|refine CA ?_|refine CG (d) ⟨⟨rfl,CP _⟩,trivial⟩ ?_|refine C7 (c) ?_|refine CI (o) (.inl rfl) ?_|refine CA ?_)
   refine CF rfl rfl ?_;exact wC
  ·rw[C8 (λx=>D x.2.2)]
   repeat'(first|refine gA ?_|(conv=>whnf);first|with_reducible refine Bf.E (λb=>?_) (λb=>?_)|refine CA ?_|refine CG (d) ⟨⟨rfl,CP _⟩,trivial⟩ ?_|refine C7 (c) ?_|refine CA ?_)
   refine CF rfl rfl ?_;exact wC
 rw[C8 H];by_cases J:a.Kind=9
 ·rw[C9 J]
  unfold mt;obtain⟨Q,R⟩:=h.fit L;have d:=EG w.Heap Q R;rw[show dM w.Heap=true from i.to]at d;cases g:w.Heap.Meshing with
  | true=>
   rw[C9 rfl]
   repeat'(first|refine gA ?_|(conv=>whnf);first|with_reducible refine Bf.E (λb=>?_) (λb=>?_)|refine CA ?_|refine Bf.t g ?_|refine CA ?_)
   refine CF rfl rfl ?_;exact wC
  | false=>
   rw[C8 (by simp)];have c:=(yb w.Heap i).frame (r:=ay.enc .imm w.Ref) ((cT _).trans (cT _).symm);cases l:(started w.Heap).2<;>rw[l]at c
   ·rw[C8 (by simp)]
    repeat'(first|refine gA ?_|(conv=>whnf);first|with_reducible refine Bf.E (λb=>?_) (λb=>?_)|refine CA ?_|refine Bf.f g ?_|refine CG (d) ⟨⟨rfl,bC w.Heap⟩,trivial⟩ ?_|refine CI (c) (.inl rfl) ?_|refine CA ?_)
    refine CF rfl rfl ?_;exact wC
   ·rw[C9 rfl]
    repeat'(first|refine gA ?_|(conv=>whnf);first|with_reducible refine Bf.E (λb=>?_) (λb=>?_)|refine CA ?_|refine Bf.f g ?_|refine CG (d) ⟨⟨rfl,bC w.Heap⟩,trivial⟩ ?_|refine CI (c) (.inl rfl) ?_|refine CA ?_)
    refine CF rfl rfl ?_;exact wC
 rw[C8 J];have k10:a.Kind=10:=ω
 have d:=aG a.N 0 50;by_cases g:0<=a.N/\a.N<=50
 ·rw[C9 ⟨k10,g⟩]
  rw[O0 g]at d;obtain⟨n,B⟩:=Z2 g.1;have c:=yp w m n h ω;rw[show a.N.toNat=n by omega];rw[<-B]at c
  repeat'(first|refine gA ?_|(conv=>whnf);first|with_reducible refine Bf.E (λb=>?_) (λb=>?_)|refine CA ?_|refine C7 (d) ?_|refine CI (c) (.inl rfl) ?_|refine CA ?_)
  refine CF rfl rfl ?_;exact wC
 ·rw[C8 (λx=>g x.2)]
  rw[T0 g]at d
  repeat'(first|refine gA ?_|(conv=>whnf);first|with_reducible refine Bf.E (λb=>?_) (λb=>?_)|refine CA ?_|refine C7 (d) ?_|refine CA ?_)
  refine CF rfl rfl ?_;exact wC
theorem A7(w:bD)(h1:ab.sml w.Heap)(a:ay.sml w.Ref):ao Tryz.prog 241 false [.val (some 26) (bD.enc .imm w)] .agg (bD.enc .own w):=by
 have b:=AG w.Heap h1;have c:=ee w.Ref a;refine fO 10 [(1,5,[3,4,5,6,7])] Tryz.func241 rfl ?_ (.inr (bD.enc_fr _))
 repeat'(first|refine gO ?_|(conv=>whnf);first|refine C7 (b) ?_|refine C7 (c) ?_|refine CA ?_)
 rfl
theorem AR(c:cF)(acts:List ew)(h:Fd c)(d:ja c.Refuse)(n:∀a∈acts,Mg a)(D:acts.length<=80):ao Tryz.prog 149 false [.val (some 5) (cF.enc .imm c),.val none (nZ .imm acts)] (.tup [some 26,none]) (bD.enc .own (xV c acts acts.length).1++aF .own (xV c acts acts.length).2):=by
 have o:=yG c h;refine fP 42 [(240,[2,0]),(2000005,[6,21,25])] [] Tryz.func149 rfl ?_ (.inr (aS (bD.enc_fr _) (bJ _)))
 repeat'(first|refine gD ?_|(conv=>whnf);first|refine C7 (o) ?_|refine CV rfl rfl rfl ?_)
 (conv=>whnf)
 refine CE (ι:=Nat) (λi=>[(1,.hold .one (nZ .imm acts)),(4,.hold .box [.z,.z,.z,I 0,.z,.z,.z,.z,.z,.z,.z,.z,I 0,.z,I 0,I 0,I 0,I 0,B false,I 0,I 0,.z,I 0,I 0,I 0,.z]),(6,.hold .box (qp (xV c acts i).1)),(8,.hold .one (aF .own (xV c acts i).2)),(9,.hold .one [I ((i:Nat):Int)])]) (λi=>i<=acts.length) (λi=>acts.length - i) (0) ?_ (U0 _) λi p=>?_
 ·repeat'(first|exact trivial|rfl |exact nh q|exact dN _|refine CJ ?_ ?_|(exact zw (by first|omega|(simp only;omega)|(simp;omega))))
 have e:=vP h acts i;have b:=FB h acts i;have g:(xV c acts i).2.length=i:=by
  clear e b p
  induction i with
  | zero=>rfl
  | succ k t=>show((xV c acts k).2++[_]).length=_;rw[I3,t];rfl
 by_cases j:i<acts.length
 ·have l:=ah j
  have u:=Gr (xV c acts i).1 (nth acts i) i e ω (by unfold rfs at b;rw[b];exact d) (n _ (am j))
  repeat'(first|refine gD ?_|(conv=>whnf);first|with_reducible refine CB (aa l) ?_|refine CH rfl (aa l) rfl ?_|refine CI (u) (.inl rfl) ?_|refine CQ co (λr d=>by rw[I1.1 d];rfl) (by simp[aX,dH]) (by simp;omega) (by simp only[Z0];exact vq (by simp;omega) (by decide)) rfl ?_)
  ((conv=>whnf);refine CD (i+1) ω ω ?_)
  repeat'(first|exact trivial|rfl| exact dN _ |exact CJ rfl (CJ (W0 (C.s d7.own) (by simp[xV,rI])) trivial)|refine CJ ?_ ?_|(exact zw (by first|omega|(simp only;omega)|(simp;omega))))
 ·obtain rfl:i=acts.length:=ω
  have w:=e.fit (by unfold rfs at b;rw[b];exact d);have y:=A7 (xV c acts acts.length).1 w.1 (e.ref.sml ω)
  repeat'(first|refine gD ?_|(conv=>whnf);first|refine CG (y) ⟨⟨rfl,MY _⟩,trivial⟩ ?_)
  rfl
theorem Em(zs:List Int)(c:ix):ja (nN zs c).Refuse:=by
 show ja (nL zs 4 0 [] (BH zs c).2).1;have key:∀(f i:Nat)(out:List Int)(c:ix),(∀x∈out,mr x)->∀x∈(nL zs f i out c).1,mr x:=by
  intro f
  induction f with
  | zero=>intro i out c h;exact h
  | succ f b=>
   intro i out c h;unfold nL;split
   ·refine b _ _ _ λx a=>?_
    rcases v3.1 a with a|a
    ·exact h x a
    ·rw[I1.1 a]
     have:=bF zs (bw zs c 4).2 (n:=12) (by decide);exact⟨ω,ω⟩
   ·exact h
 exact⟨by
   have d:∀(f i:Nat)(out:List Int)(c:ix),out.length+f<=4->(nL zs f i out c).1.length<=4:=by
     intro f
     induction f with
     | zero=>intro i out c h;exact h
     | succ f b=>
       intro i out c h;unfold nL;split
       · exact b _ _ _ (by simp only[I3,List.length_singleton];omega)
       · show out.length<=4;omega
   have:=d 4 0 [] (BH zs c).2 (z3 _);omega,key 4 0 [] _ (λx a=>by cases a)⟩
theorem yJ(zs:List Int)(a:j8 zs):aO Tryz.prog 61 false [.ptr (iw zs (rR zs))] [.ptr (iw zs (kM zs (dQ zs)).2)] .agg (bD.enc .own (drawn zs)):=by
 have b:(rR zs).i<=zs.length:=U0 _;obtain⟨g,d⟩:=ow b;have o:=bF zs (dQ zs) (n:=41) (by decide);obtain⟨p,h,-⟩:=nY (zs:=zs) (c:=dQ zs) d (n:=(bw zs (dQ zs) 41).1.toNat) ω;have e:=wX zs (rR zs) a b;have j:=Ak zs (dQ zs) a d;have k:=AR (nN zs (rR zs)) (kM zs (dQ zs)).1 g (Em zs _) h (by show(kJ zs (dQ zs) _).1.length<=80;omega);have l:drawn zs=(xV (nN zs (rR zs)) (kM zs (dQ zs)).1 (kM zs (dQ zs)).1.length).1:=rfl;rw[l];change aO _ _ _ _ [.ptr (iw zs (dQ zs))] _ _ at e;generalize nN zs (rR zs)=cf at *;generalize r:kM zs (dQ zs)=A at *;generalize t:xV cf A.1 A.1.length=R at *;refine fM 14 [(150,[2]),(151,[2,0])] [] [(0,0)] Tryz.func61 rfl (λu q=>?_) (.inr (bD.enc_fr _))
 repeat'(first|refine gO ?_|(conv=>whnf);first|refine CI (e) (.inl rfl) ?_|refine CI (j) (.inl rfl) ?_|refine CG (k) ⟨⟨rfl,cF.enc_fz _⟩,⟨rfl,JE _⟩,trivial⟩ ?_)
 refine CF rfl rfl ?_;exact wC
def QK(z:List Int):List C:=[.s .imm (z.map rU)]
theorem Ey(zs:List Int)(b:j8 zs):qt Tryz.prog 62 true [.val none (QK zs)] .box (iw zs (rR zs)):=by
 have r:=b.1;have e:IntKind.i64.wrap (98801+(zs.length:Nat))=w64 (98801+(zs.length:Nat)):=rfl;have g:pI zs 0=98801+(zs.length:Nat):=by show w64 _=_;rw[<-e];exact eM ω ω
 have a:=W0 I g;refine QD (n:=32) (t:=2) (mo:=[]) (tb:=[]) Tryz.func62 (by kernel_rfl) rfl (by kernel_rfl) (by rfl) rfl ?_
 repeat'(first|refine gO ?_|fail)
 (conv=>whnf)
 refine CE (ι:=Nat) (λi=>[(0,.hold .one (QK zs)),(3,.hold .one [I (pI zs i)]),(4,.hold .one [I ((i:Nat):Int)])]) (λi=>i<=min zs.length 4000) (λi=>min zs.length 4000 - i) (0) ?_ (U0 _) λi u=>?_
 ·repeat'(first|exact trivial|rfl |exact nh a|exact dN _|refine CJ ?_ ?_|(exact zw (by first|omega|(simp only;omega)|(simp;omega))))
 have h:IntKind.i64.wrap (pI zs i*131)=w64 (pI zs i*131):=rfl;have j:IntKind.i64.wrap (w64 (pI zs i*131)+nth zs i)=w64 (w64 (pI zs i*131)+nth zs i):=rfl;have k:IntKind.i64.wrap (w64 (w64 (pI zs i*131)+nth zs i)+7)=w64 (w64 (w64 (pI zs i*131)+nth zs i)+7):=rfl;have l:IntKind.i64.wrap (BitVec.ofInt IntKind.i64.bits (w64 (w64 (w64 (pI zs i*131)+nth zs i)+7)) &&& BitVec.ofInt IntKind.i64.bits 1073741823).toNat=pI zs (i+1):=rfl;by_cases c:i<zs.length/\i<4000
 ·have d:=ah c.1
  have w:=b.2 _ (am c.1);generalize pI zs i=H at *;generalize o:pI zs (i+1)=H2 at *
  repeat'(first|refine gD ?_|(conv=>whnf);first|with_reducible (first|refine CB (aa d) ?_|refine CK h ?_|refine CK j ?_|refine CK k ?_|refine CK l ?_)|refine CH rfl (aa d) rfl ?_)
  ((conv=>whnf);refine CD (i+1) ω ω ?_)
  rw[o];exact wC
 ·obtain rfl:i=min zs.length 4000:=ω
  have p:rR zs = ⟨0,pI zs (min zs.length 4000)⟩:=rfl;rw[p];generalize pI zs (min zs.length 4000)=H at *
  repeat'(first|refine gD ?_|(conv=>whnf);first|with_reducible refine Bf.D (λq=>?_) (λq=>?_))
  all_goals rfl
theorem wF(zs:List Int)(a:j8 zs):ao Tryz.prog 16 false [.val none (QK zs)] .agg (bD.enc .own (drawn zs)):=by
 have b:=Ey zs a;have c:=yJ zs a;refine fP 6 [(61,[2])] [] Tryz.func16 rfl ?_ (.inr (bD.enc_fr _))
 repeat'(first|refine gO ?_|(conv=>whnf);first|refine Cl.g b (.inr rfl) ?_|refine CI (c) (.inl rfl) ?_)
 rfl
end Go.Proofs.YtembpgjjnioagaaGreat.Ab
