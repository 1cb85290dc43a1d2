/- Messages and the quarantine: the reference's. No condition. -/
import Derived.Test.YtembpgjjnioagaaGreatJd
import Derived.Test.YtembpgjjnioagaaGreatJg
import Derived.Test.YtembpgjjnioagaaGreatJe
import Derived.Test.YtembpgjjnioagaaGreatJf
set_option linter.unusedVariables false
set_option linter.unusedSimpArgs false
set_option linter.constructorNameAsVariable false
namespace Go.Proofs.YtembpgjjnioagaaGreat.Ab
open Go.RowKit
set_option maxRecDepth 20000
set_option maxHeartbeats 4000000
theorem lW(m:aI):∀(n i:Nat),i<n->((nth m.Buffers i).length:Int)+(nth m.Inbox i).length<=br m n/\0<=br m n
 | 0,i,h=>absurd h (Nat.not_lt_zero i)
 | n+1,i,h=>by
  have a:0<=br m n:=by
   cases n with
   | zero=>exact T4 _
   | succ k=>exact(lW m (k+1) 0 ω).2
  simp only[br];by_cases e:i=n
  ·subst e;omega
  ·have:=(lW m n i ω).1;omega
structure k6(m:aI):Prop where
 b4:1<=m.Buffers.length/\m.Buffers.length<=4
 i4:m.Inbox.length=m.Buffers.length
 bl:∀i,i<m.Buffers.length->(nth m.Buffers i).length<=30
 il:∀i,i<m.Buffers.length->(nth m.Inbox i).length<=30
theorem k6.of{m:aI}(h:bI m=true):k6 m:=by
 obtain⟨⟨b,c,d⟩,-,e⟩:=dv.1 h;exact⟨⟨b,c⟩,d,λi a=>by have:=(lW m m.Buffers.length i a).1;omega,λi a=>by have:=(lW m m.Buffers.length i a).1;omega⟩
theorem k6.sml{m:aI}(h:k6 m):aI.sml m:=by
 have c:=h.b4;have d:=h.i4;refine⟨⟨ω,λl a=>?_⟩,⟨ω,λl a=>?_⟩⟩
 ·obtain⟨i,b,rfl⟩:=bf a
  have:=h.bl i b;exact⟨ω,λ_ _=>trivial⟩
 ·obtain⟨i,b,rfl⟩:=bf a
  have:=h.il i ω;show(nth m.Inbox i).length<=1048576;omega
theorem qX(m:aI)(k:Int)(a:aI.sml m):ao Tryz.prog 388 false [.val (some 2) (aI.enc .imm m),.val none [I k]] .one [B (bI m&&decide (0<=k/\k<=m.Buffers.length - 1))]:=by
 have b:=kN m a;have c:m.Buffers.length<=1048576:=a.1.1;cases e:bI m<;>rw[e]at b
 all_goals
  refine fO 15 [] Tryz.func388 rfl ?_
  repeat'(first|refine gO ?_|(conv=>whnf);first|refine CA ?_|refine C7 (b) ?_|refine C7 (aE k 0 (m.Buffers.length - 1:Int)) ?_)
  all_goals rfl
theorem PT{m:aI}{f:Nat}(a:f<m.Buffers.length):m.Buffers[f]? = some (nth m.Buffers f):=ah a
theorem Hq(m:aI)(f:Nat)(p:cZ):aI.enc .own (gB m f p)=[.s .own ((m.Buffers.map (cz .own)).set f (cz .own (nth m.Buffers f++[p]))),.s .own (m.Inbox.map (aD .own))]:=by simp[aI.enc,gB,O5]
theorem Jl{m:aI}(h:k6 m){f:Nat}(c:f<m.Buffers.length)(p:cZ):aI.sml (gB m f p):=by
 have d:=h.b4;have b:=h.sml;refine⟨⟨by simp only[gB,I1];omega,λl a=>?_⟩,b.2⟩;rcases U5 a with a|rfl
 ·exact b.1.2 l a
 ·have:=h.bl f c
  exact⟨by simp;omega,λ_ _=>trivial⟩
theorem Hf(m:aI)(f:Nat)(p:cZ)(j:bI m=true)(g:f<m.Buffers.length):ao Tryz.prog 381 false [.val (some 2) (aI.enc .imm m),.val none [I (f:Nat)],.val (some 2) (cZ.enc .imm p)] (.tup [some 2,none]) (aI.enc .own (if bI (gB m f p)=true then gB m f p else m)++[B (bI (gB m f p))]):=by
 have c:=k6.of j;have k:=c.sml;have q:=c.b4;have h:=qX m f k;rw[j,O0 ω]at h;have l:=fo m k;have b:=Jl c g p;have i:=kN (gB m f p) b;have n:=fo (gB m f p) b;have a:=PT g;have o:=c.bl f g;have d:=aI.enc_fz (gB m f p);rw[Hq]at d;cases e:bI (gB m f p)<;>rw[e]at i
 ·rw[C8 (by simp)]
  refine fO 35 [(4,267,[16,17,18,19,20,21,22,23,24,25,27,0,1,2,3,4,5,6,7,8,9,10,1000,1001,1002,11,12])] Tryz.func381 rfl ?_ (.inr (aP (aI.enc_fr _) ⟨trivial,trivial⟩))
  repeat'(first|refine gO ?_|(conv=>whnf);first|with_reducible refine CB (aa a) ?_|refine CA ?_|refine CB (dX a) ?_|refine CG rfl (dX a) rfl ?_|refine C7 (h) ?_|refine C7 (l) ?_|refine Lq.one rfl rfl (aa a) rfl (Z0 rfl) rfl rfl ?_|refine CG rfl (aa a) rfl ?_|refine CM rfl rfl (dX a) rfl (Z0 rfl) (show [C.s du.own ((m.Buffers.map (cz .own)).set f (cz .own (nth m.Buffers f++[p]))),C.s .own (m.Inbox.map (aD .own))]=_ from by simp only[List.set_cons_zero,List.set_set,R2];rfl) ?_|refine Ap.sm (aK λ_=>rfl) rfl (by simp;omega) (by decide) (fB _ _ _) ?_|refine CD (i) ⟨⟨rfl,d⟩,trivial⟩ ?_)
  rfl
 ·rw[C9 rfl]
  refine fO 35 [(4,267,[16,17,18,19,20,21,22,23,24,25,27,0,1,2,3,4,5,6,7,8,9,10,1000,1001,1002,11,12])] Tryz.func381 rfl ?_ (.inr (aP (aI.enc_fr _) ⟨trivial,trivial⟩))
  repeat'(first|refine gO ?_|(conv=>whnf);first|with_reducible refine CB (aa a) ?_|refine CA ?_|refine CB (dX a) ?_|refine CG rfl (dX a) rfl ?_|refine C7 (h) ?_|refine C7 (l) ?_|refine Lq.one rfl rfl (aa a) rfl (Z0 rfl) rfl rfl ?_|refine CG rfl (aa a) rfl ?_|refine CM rfl rfl (dX a) rfl (Z0 rfl) (show [C.s du.own ((m.Buffers.map (cz .own)).set f (cz .own (nth m.Buffers f++[p]))),C.s .own (m.Inbox.map (aD .own))]=_ from by simp only[List.set_cons_zero,List.set_set,R2];rfl) ?_|refine Ap.sm (aK λ_=>rfl) rfl (by simp;omega) (by decide) (fB _ _ _) ?_|refine CD (i) ⟨⟨rfl,d⟩,trivial⟩ ?_|refine CD (n) ⟨⟨rfl,d⟩,trivial⟩ ?_)
  rfl
theorem FF(m:aI)(f:Int)(a:bI m=true)(d:¬(0<=f/\f<=m.Buffers.length - 1)):ao Tryz.prog 360 false [.val (some 2) (aI.enc .imm m),.val none [I f]] (.tup [some 2,none]) (aI.enc .own m++[B false]):=by
 have e:=k6.of a;have b:=e.sml;have c:=qX m f b;rw[a,R0 d]at c;have g:=fo m b;refine fO 60 [(5,267,[31,32,33,34,35,36,37,38,39,40,42,0,1,2,3,4,5,6,7,8,9,10,1000,1001,1002,11,12]),(6,270,[43,44,45,46,47,48,49,50,51,52,53,54,55,57,0,1,2,3,4,5,6,7,8,9,10,11,12,13,1000,1001,1002,1003,14,15])] Tryz.func360 rfl ?_ (.inr (aP (aI.enc_fr _) ⟨trivial,trivial⟩))
 repeat'(first|refine gO ?_|(conv=>whnf);first|refine CA ?_|refine C7 (c) ?_|refine C7 (g) ?_)
 rfl
theorem FV(m:aI)(f t:Nat)(a:(nth (nth m.Buffers f) 0).To=t):aI.enc .own (fJ m f)=[.s .own ((m.Buffers.map (cz .own)).set f [.s .own (((nth m.Buffers f).drop 1).map (cZ.enc .imm))]),.s .own ((m.Inbox.map (aD .own)).set t (aD .own (nth m.Inbox t++[(nth (nth m.Buffers f) 0).Addr])))]:=by
 unfold aI.enc fJ;simp only[O5,a,R2]
 rfl
theorem D6(m:aI)(f:Nat)(h:bI m=true)(i:f<m.Buffers.length):ao Tryz.prog 360 false [.val (some 2) (aI.enc .imm m),.val none [I (f:Nat)]] (.tup [some 2,none]) (aI.enc .own (if 0<(nth m.Buffers f).length then fJ m f else m)++[B (decide (0<(nth m.Buffers f).length))]):=by
 have d:=k6.of h;have u:=d.sml;have K:=d.b4;have D:=d.i4;have j:=qX m f u;rw[h,O0 ω]at j;have w:=fo m u;have a:=PT i;have F:=d.bl f i;by_cases e:0<(nth m.Buffers f).length
 ·rw[C9 e,O0 e]
  have g:=((dv.1 h).2.1 f i).1 _ (am e);obtain⟨t,k⟩:=U2 g.1;have l:t<m.Inbox.length:=ω
  have y:=ah e;have c:=ah l;have G:=d.il t ω;have n:=(k6.of (Dh h i e)).sml;have H:=fo (fJ m f) n;have o:=aI.enc_fz (fJ m f);rw[FV m f t k]at o;have q:=aP (b:=[B true]) (aI.enc_fr (fJ m f)) ⟨trivial,trivial⟩;generalize L:nth (nth m.Buffers f) 0=p at *;obtain⟨M,J⟩:=p;simp only at k g o;subst k;refine fO 60 [(5,267,[31,32,33,34,35,36,37,38,39,40,42,0,1,2,3,4,5,6,7,8,9,10,1000,1001,1002,11,12]),(6,270,[43,44,45,46,47,48,49,50,51,52,53,54,55,57,0,1,2,3,4,5,6,7,8,9,10,11,12,13,1000,1001,1002,1003,14,15])] Tryz.func360 rfl ?_ (.inr q)
  repeat'(first|refine gA ?_|(conv=>whnf);first|with_reducible (first|refine CB (aa a) ?_|refine CB (aa c) ?_|refine Bf.E (λr=>?_) (λr=>?_))|refine CA ?_|refine CK (by decide) (aa y) ?_|refine CB (dX a) ?_|refine CB (dX c) ?_|refine CG rfl (dX a) rfl ?_|refine CG rfl (dX c) rfl ?_|refine C7 (j) ?_|refine C7 (w) ?_|refine CG rfl (aa a) rfl ?_|refine CG rfl (aa c) rfl ?_|refine CG rfl (aa y) rfl ?_|refine Lq.one rfl rfl (aa c) rfl (Z0 rfl) rfl rfl ?_|refine CU 1 rfl (by rw[X0];omega) (aK λ_=>rfl) Y3 ?_|refine CS (λ_=>rfl) (λ_=>rfl) (by rw[z3];omega) (by decide) ?_|refine CN (λ_=>rfl) (λ_=>rfl) (by rw[z3];omega) (by decide) ?_|refine CM rfl rfl (aa a) rfl (Z0 rfl) rfl ?_|refine CM rfl rfl (dX c) rfl (Z0 rfl) (show [C.s du.own ((m.Buffers.map (cz .own)).set f [.s .own (((nth m.Buffers f).drop 1).map (cZ.enc .imm))]),C.s .own ((m.Inbox.map (aD .own)).set t (aD .own (nth m.Inbox t++[J])))]=_ from by simp only[List.set_cons_zero,List.set_cons_succ,List.set_set,R2];rfl) ?_|refine Ap.sm (aK λ_=>rfl) rfl (by simp;omega) (by decide) (fB _ _ _) ?_|refine CA ?_|refine CD (H) ⟨⟨rfl,o⟩,trivial⟩ ?_)
  rfl
 ·rw[C8 e,R0 e]
  refine fO 60 [(5,267,[31,32,33,34,35,36,37,38,39,40,42,0,1,2,3,4,5,6,7,8,9,10,1000,1001,1002,11,12]),(6,270,[43,44,45,46,47,48,49,50,51,52,53,54,55,57,0,1,2,3,4,5,6,7,8,9,10,11,12,13,1000,1001,1002,1003,14,15])] Tryz.func360 rfl ?_ (.inr (aP (aI.enc_fr _) ⟨trivial,trivial⟩))
  repeat'(first|refine gA ?_|(conv=>whnf);first|with_reducible (first|refine CB (aa a) ?_|refine Bf.E (λr=>?_) (λr=>?_))|refine CA ?_|refine C7 (j) ?_|refine C7 (w) ?_|refine CG rfl (aa a) rfl ?_)
  rfl
theorem J0.set(rows:List (List C))(i:Nat){r n:List C}(h:Kf r n):J0 (.s .own (rows.set i r)) (.s .own (rows.set i n)):=by
 refine .own_ _ _ (by simp) (λj a b d f=>?_) (λj l a b c p d f o g=>?_)
 ·by_cases e:i=j
  ·subst e
   have k:i<rows.length:=by have:=(C2.1 d).1;simpa using this
   rw[I3 k]at d f;cases d;cases f;exact h.1
  ·rw[List.getElem?_set_ne e]at d f
   rw[d]at f;cases f;rfl
 ·by_cases e:i=j
  ·subst e
   have k:i<rows.length:=by have:=(C2.1 d).1;simpa using this
   rw[I3 k]at d f;cases d;cases f;exact h.2 l c p o g
  ·rw[List.getElem?_set_ne e]at d f
   rw[d]at f;cases f;rw[o]at g;cases g;exact .rfl_ _
theorem Az(m:aI)(t:Nat)(d:bI m=true)(h:t<m.Buffers.length):ao Tryz.prog 389 false [.val (some 2) (aI.enc .imm m),.val none [I (t:Nat)]] (.tup [some 2,none]) (aI.enc .own (jU m t)++aD .own (nth m.Inbox t)):=by
 have b:=k6.of d;have e:=b.sml;have o:=b.b4;have j:=b.i4;have g:=qX m t e;rw[d,O0 ω]at g;have k:=fo m e;have c:=ah (xs:=m.Inbox) (i:=t) ω;have l:=b.il t h;have a:=aP (aI.enc_fr (jU m t)) (bG (nth m.Inbox t));have n:aI.enc .own (jU m t)=[.s .own (m.Buffers.map (cz .own)),.s .own ((m.Inbox.map (aD .own)).set t [.s .own []])]:=by simp[aI.enc,jU,O5];rfl
 rw[n]at a |-;refine fO 28 [(5,263,[20,21,22,23,24,25,26,0,1,2,3,4,5,6,7,1000,8,9])] Tryz.func389 rfl ?_ (.inr a)
 repeat'((conv=>whnf);first|with_reducible (first|refine Lm ?_|refine Wm ω ?_|refine CB (aa c) ?_|refine Bn ?_|refine jn.dk rfl ?_)|refine Bt ?_|refine Bu ?_|refine CA ?_|refine C7 (g) ?_|refine C7 (k) ?_|refine CG rfl (aa c) rfl ?_|refine CM rfl rfl (aa c) rfl (Z0 rfl) rfl ?_|refine CS (λ_=>rfl) (λ_=>rfl) ω (by decide) ?_|refine CN (λ_=>rfl) (λ_=>rfl) ω (by decide) ?_|refine CA ?_)
 exact .cons (.rfl_ _) (.cons (J0.set _ _ (.cons .z_ .nil)) (.cons (.rfl_ _) .nil))
theorem Gw(now:Int):∀{l:List aL}{i:Nat},i<=l.length->(∀j,j<i->(nth l j).Since<now - 100)->(i<l.length->¬(nth l i).Since<now - 100)->q8 now l=i
 | [],i,h,_,_=>by simp at h;subst h;rfl
 | x::xs,0,_,_,h=>by
  unfold q8;exact C8 (h (by simp))
 | x::xs,i+1,b,a,c=>by
  unfold q8;refine(C9 (a 0 ω)).trans ?_;rw[Gw now (l:=xs) (i:=i) (by simp at b;omega) (λj d=>a (j+1) ω) (λe=>c (by simp;omega))]
def MW(q:bz)(now:Int):List C:=bz.enc .own ⟨q.Room,q.Lst.drop (q8 now q.Lst)⟩++ce .own (q.Lst.take (q8 now q.Lst))
theorem uv(q:bz)(now:Int)(g:fw q=true)(G:q.Lst.length<=4096)(u:0<=now/\now<=1000000):ao Tryz.prog 363 false [.val (some 2) (bz.enc .imm q),.val none [I now],.val none [I 100]] (.tup [some 2,none]) (MW q now):=by
 have w:bz.sml q:=⟨ω,λ_ _=>trivial⟩
 have n:=nX q w;rw[g]at n;have o:=aE now 0 1000000;rw[O0 u]at o;have p:=aE 100 0 1000000;rw[O0 (by decide)]at p;have h:=(ix.1 g).1;have a:gw (MW q now):=aP (bz.enc_fr _) (nl _);have y:∀i,i<q.Lst.length->0<=(nth q.Lst i).Since:=λi b=>(h _ (am b)).2.2.2
 unfold MW at a |-;generalize B:q8 now q.Lst=k at a |-;refine fO 59 [(6,270,[44,45,46,47,48,49,50,51,53,54,55,56,57,58,0,1,2,3,4,5,6,7,9,10,11,12,13,14,8,1009,1010,1011,1012,1013,1014,15,16])] Tryz.func363 rfl ?_ (.inr a)
 repeat'(first|refine gO ?_|(conv=>whnf);first|refine CA ?_|refine C7 (n) ?_|refine C7 (o) ?_|refine C7 (p) ?_)
 (conv=>whnf)
 refine CE (ι:=Nat) (λi=>[(1,.hold .one [I (now)]),(2,.hold .one [I (100)]),(3,.hold .box (bz.enc .imm q)),(6,.hold .box [I 0,.z]),(8,.hold .one [I ((i:Nat):Int)])]) (λi=>i<=q.Lst.length/\∀j,j<i->(nth q.Lst j).Since<now - 100) (λi=>q.Lst.length - i) (0) ?_ (⟨T0 _,λj C=>ω⟩) λi b=>?_
 ·exact wC
 obtain⟨b,r⟩:=b;by_cases l:i<q.Lst.length/\(nth q.Lst i).Since<now - 100
 ·have c:=ah l.1
  repeat'(first|refine gD ?_|(conv=>whnf);first|with_reducible refine CB (aa c) ?_|refine CA ?_|refine CG rfl (aa c) rfl ?_)
  ((conv=>whnf);refine CC (i+1) ⟨ω,λj C=>by by_cases e:j=i;(subst e;exact l.2);exact r j ω⟩ ω ?_;(exact wC))
 ·have d:=Gw now (i:=i) b r (λE F=>l ⟨E,F⟩)
  rw[B]at d;subst d;by_cases t:k<q.Lst.length
  ·have c:=ah t
   have:=y k t
   repeat'(first|refine gD ?_|(conv=>whnf);first|with_reducible (first|refine CB (aa c) ?_|refine Bf.D (λg=>?_) (λg=>?_))|refine CA ?_|refine CG rfl (aa c) rfl ?_|refine CT k rfl (by rw[X0];omega) (aK λ_=>rfl) X3 ?_|refine CU k rfl (by rw[X0];omega) (aK λ_=>rfl) Y3 ?_|refine CS (λ_=>rfl) (λ_=>rfl) (by rw[O1];omega) (by decide) ?_|refine CS (λ_=>rfl) (λ_=>rfl) (by rw[z3];omega) (by decide) ?_|refine CN (λ_=>rfl) (λ_=>rfl) (by rw[z3];omega) (by decide) ?_|refine CA ?_)
   rfl
  ·repeat'(first|refine gD ?_|(conv=>whnf);first|refine CA ?_|refine CT k rfl (by rw[X0];omega) (aK λ_=>rfl) X3 ?_|refine CU k rfl (by rw[X0];omega) (aK λ_=>rfl) Y3 ?_|refine CS (λ_=>rfl) (λ_=>rfl) (by rw[O1];omega) (by decide) ?_|refine CS (λ_=>rfl) (λ_=>rfl) (by rw[z3];omega) (by decide) ?_|refine CN (λ_=>rfl) (λ_=>rfl) (by rw[z3];omega) (by decide) ?_|refine CA ?_)
   rfl
theorem zS(h:ab)(n:Int)(g:bn h [])(r:0<=n/\n<=1000)(p:h.Clock+n<=1000000):aQ Tryz.prog 306 false [.ptr (b6 h),.val none [I n]] [.ptr (b6 (tick h n)),.val none [I n]] .one [I ((mb h n).length:Nat)]:=by
 have a:=g.nums;unfold cg at a;rw[C0]at a;have t:=g.lens.quar;have i:=uv h.Quar (h.Clock+n) g.quar ω ⟨ω,p⟩;have j:=g.aged r.1 p;unfold MW at i;unfold tick mb aged at *;have l:(h.Quar.Lst.take (q8 (h.Clock+n) h.Quar.Lst)).length<=4096:=by rw[O1];omega
 rw[X0];generalize h.Quar.Lst.take (q8 (h.Clock+n) h.Quar.Lst)=out at i j l |-;generalize h.Quar.Lst.drop (q8 (h.Clock+n) h.Quar.Lst)=rest at i j |-;refine fM 48 [(364,[2,0])] [(2,269,[18,19,20,21,22,23,24,25,26,17,27,28,5,0,1,2,3,4,5,6,7,8,9,10,11,12,13,1011,14])] [(0,0),(0,0)] Tryz.func306 rfl (λu q=>?_)
 repeat'(first|refine gO ?_|(conv=>whnf);first|refine CA ?_|refine CD (i) ⟨⟨rfl,bz.enc_fz h.Quar⟩,⟨rfl,rfl⟩,⟨rfl,rfl⟩,trivial⟩ ?_|refine CA ?_)
 (conv=>whnf)
 refine CE (ι:=Nat) (λk=>[(0,.hold .box (b6 (freeAs {h with Clock:=h.Clock+n,Quar:=⟨h.Quar.Room,rest⟩} ((out.map (·.Addr)).take k)))),(6,.hold .one (ce .own out)),(7,.hold .one [I ((k:Nat):Int)])]) (λk=>k<=out.length) (λk=>out.length - k) (0) ?_ (T0 _) λk y=>?_
 ·exact wC
 by_cases o:k<out.length
 ·have b:=ah o
  have c:k<(out.map (·.Addr)).length:=by rw[X0];exact o
  have d:nth (out.map (·.Addr)) k=(nth out k).Addr:=bu (by rw[Z2,ah o];rfl);have e:bn (freeAs {h with Clock:=h.Clock+n,Quar:=⟨h.Quar.Room,rest⟩} ((out.map (·.Addr)).take k)) (nth (out.map (·.Addr)) k::(out.map (·.Addr)).drop (k+1)):=by
   refine bn.freeAs ?_;rw[<-g9 c,List.take_append_drop];rw[List.append_nil]at j;exact j
  rw[d]at e;have w:=lS _ _ _ e
  repeat'(first|refine gD ?_|(conv=>whnf);first|refine CA ?_|refine CB (aa b) ?_|refine CG rfl (aa b) rfl ?_|refine CH (w) (.inl rfl) ?_)
  ((conv=>whnf);refine CC (k+1) ω ω ?_)
  rw[tt _ _ _ c,d];exact wC
 ·obtain rfl:k=out.length:=ω
  rw[C6 (by rw[X0];omega)]
  repeat'(first|refine gD ?_|(conv=>whnf);first|refine CA ?_)
  refine CF rfl rfl ?_;exact wC
theorem BB(t:Nat)(h:ab)(az:List Int)(k:Nat)(a:k<az.length):recycs t h (az.take (k+1))=recyc t (recycs t h (az.take k)) (nth az k):=by
 unfold recycs;rw[Z4,ah a,Option.toList_some,List.foldl_append];rfl
theorem tT(h:ab)(t:Nat)(a:bn h [])(i:t<h.Caches.length):aQ Tryz.prog 361 false [.ptr (b6 h),.val none [I (t:Nat)]] [.ptr (b6 (collect h t)),.val none [I (t:Nat)]] .one [I ((nth h.Mail.Inbox t).length:Nat)]:=by
 have l:=a.nc;have n:=(dv.1 a.mail).1.2.2;have j:=Az h.Mail t a.mail ω;have c:=(k6.of a.mail).il t ω;have d:=a.coll (t:=t) ω;rw[List.append_nil]at d;unfold collect;generalize nth h.Mail.Inbox t=out at j d c |-;refine fM 36 [(384,[2,0,0])] [] [(0,0),(0,0)] Tryz.func361 rfl (λu q=>?_)
 repeat'(first|refine gO ?_|(conv=>whnf);first|refine CA ?_|refine CD (j) ⟨⟨rfl,aI.enc_fz h.Mail⟩,⟨rfl,rfl⟩,trivial⟩ ?_)
 (conv=>whnf)
 refine CE (ι:=Nat) (λk=>[(0,.hold .box (b6 (recycs t {h with Mail:=jU h.Mail t} (out.take k)))),(1,.hold .one [I ((t:Nat):Int)]),(6,.hold .one (aD .own out)),(7,.hold .one [I ((k:Nat):Int)])]) (λk=>k<=out.length) (λk=>out.length - k) (0) ?_ (T0 _) λk p=>?_
 ·exact wC
 by_cases e:k<out.length
 ·have b:=ah e
  have g:bn (recycs t {h with Mail:=jU h.Mail t} (out.take k)) (nth out k::out.drop (k+1)):=by
   refine bn.recycs ?_ i;rw[<-g9 e,List.take_append_drop];exact d
  have o:=mR _ _ t _ g (by rw[(d4 t _ _).1];exact i)
  repeat'(first|refine gD ?_|(conv=>whnf);first|refine CA ?_|refine CB (aa b) ?_|refine CG rfl (aa b) rfl ?_|refine CH (o) (.inl rfl) ?_)
  ((conv=>whnf);refine CC (k+1) ω ω ?_)
  rw[BB _ _ _ _ e];exact wC
 ·obtain rfl:k=out.length:=ω
  rw[V4]
  repeat'(first|refine gD ?_|(conv=>whnf);first|refine CA ?_)
  refine CF rfl rfl ?_;exact wC
def J6(a:Int)(o:bm):Bool:=decide (o.Addr<=a/\a<o.Addr+o.Size)
theorem E0(h:ab)(E:List Int)(a:Int)(d:bn h E):aQ Tryz.prog 126 false [.ptr (b6 h),.val none [I a]] [.ptr (b6 h),.val none [I a]] .one [I (de (J6 a) h.Objs)]:=by
 have r:=d.lens.objs;refine fM 47 [] [(4,29,[15,16,17,18,19,20,21,22,23,24,25,26,27,28,29,30,31,32,33,34,35,36,37,38,39,40,41,42,43])] [(0,0),(0,0)] Tryz.func126 rfl (λu q=>?_)
 repeat'(first|refine gO ?_|(conv=>whnf);first|refine CA ?_)
 (conv=>whnf)
 refine CE (ι:=Nat) (λi=>[(0,.hold .box (b6 h)),(1,.hold .one [I (a)]),(5,.hold .one [I ((i:Nat):Int)])]) (λi=>i<=h.Objs.length/\∀(j:Nat)(z:bm),j<i->h.Objs[j]? = some z->J6 a z=false) (λi=>h.Objs.length - i) (0) ?_ (⟨T0 _,λj z C=>ω⟩) λi d=>?_
 ·exact wC
 obtain⟨t,c⟩:=d;by_cases e:i<h.Objs.length
 ·have b:=ah e
  have w:=pL ‹bn h E› (am e);have y:0<=(nth h.Objs i).Size/\(nth h.Objs i).Size<=1000:=by
   rcases bn.oow ‹bn h E› _ (am e) with⟨s,B,F,G⟩|⟨l,g,k,o⟩
   ·have H:=aF ((bn.L ‹bn h E›).sok s B)
    have:=pC (n:=(nth h.Objs i).Size) ω;omega
   ·have J:=cC ((bn.L ‹bn h E›).lok l g)
    omega
  by_cases k:(nth h.Objs i).Addr<=a
  ·by_cases o:a<(nth h.Objs i).Addr+(nth h.Objs i).Size
   ·repeat'(first|refine gD ?_|(conv=>whnf);first|with_reducible refine CB (aa b) ?_|refine CA ?_|refine CG rfl (aa b) rfl ?_|refine CA ?_)
    refine CF rfl (U0 (λz=>[I z]) (dM b (O0 ⟨k,o⟩) c).symm) ?_;exact wC
   ·repeat'(first|refine gD ?_|(conv=>whnf);first|with_reducible (first|refine CB (aa b) ?_|refine Bf.D (λp=>?_) (λp=>?_))|refine CA ?_|refine CG rfl (aa b) rfl ?_|refine CA ?_)
    ((conv=>whnf);refine CC (i+1) ⟨ω,dl b (R0 λx=>o x.2) c⟩ ω ?_;(exact wC))
  ·repeat'(first|refine gD ?_|(conv=>whnf);first|with_reducible (first|refine CB (aa b) ?_|refine Bf.D (λp=>?_) (λp=>?_))|refine CA ?_|refine CG rfl (aa b) rfl ?_|refine CA ?_)
   ((conv=>whnf);refine CC (i+1) ⟨ω,dl b (R0 λx=>k x.1) c⟩ ω ?_;(exact wC))
 ·repeat'(first|refine gD ?_|(conv=>whnf);first|refine CA ?_)
  refine CF rfl (U0 (λz=>[I z]) (fX ω c).symm) ?_;exact wC
theorem GH(h:ab)(a v:Int):b6 {h with Kernel:=kI h.Kernel a v} = (b6 h).set 0 (.s .own ((h.Kernel.Machine.Frames.Cells.map (aD .own)).set (ar h.Kernel.Machine.Table (a / 16)).Frame.toNat ((aD .own (nth h.Kernel.Machine.Frames.Cells (ed h.Kernel a))).set 0 (.s .own (((nth h.Kernel.Machine.Frames.Cells (ed h.Kernel a)).map (rI .own)).set (a % 16).toNat (splice (rI .own (nth (nth h.Kernel.Machine.Frames.Cells (ed h.Kernel a)) (a % 16).toNat)) 0 [I v])))))):=by
 simp[b6,kI,setCell,O5,aD,splice,ed,rI]
theorem BP{α:Type}{p:α->Bool}{xs:List α}{x:α}(a:x∈xs)(b:p x=true):0<=de p xs:=by
 have:=lD p xs;rw[show xs.any p=true from U3.2 ⟨x,a,b⟩,C0]at this;exact this
theorem yo(h:ab)(i:Nat)(j v:Int)(e:bn h [])(C:i<h.Objs.length)(D:0<=j/\j<=(nth h.Objs i).Size - 1):aQ Tryz.prog 356 false [.ptr (b6 h),.val none [I ((nth h.Objs i).Addr+j)],.val none [I v]]
  [.ptr (b6 (if(ar h.Kernel.Machine.Table (((nth h.Objs i).Addr+j) / 16)).Mode=1\/¬(0<=v/\v<=999) then h else {h with Kernel:=kI h.Kernel ((nth h.Objs i).Addr+j) v})),.val none [I ((nth h.Objs i).Addr+j)],.val none [I v]] .one [I (if(ar h.Kernel.Machine.Table (((nth h.Objs i).Addr+j) / 16)).Mode=1 then 2 else if ¬(0<=v/\v<=999) then 3 else 0)]:=by
 obtain⟨E,J,K⟩:=mj e (am C) D;have F:0<=de (J6 ((nth h.Objs i).Addr+j)) h.Objs:=BP (am C) (O0 ω);have p:=E0 h [] ((nth h.Objs i).Addr+j) e;have r:=bt e.ker;have t:=cT h.Kernel.Machine.Table (((nth h.Objs i).Addr+j) / 16) r.1.2;have n:=aE v 0 999;generalize L:(nth h.Objs i).Addr+j=a at *;have b:0<=a/\a<512:=ω
 obtain⟨-,-,-,G,M⟩:=cm e.ker E;have H:=(aY.1 (aC.1 e.ker).2.1).2.2.1;have k:ed h.Kernel a<h.Kernel.Machine.Frames.Cells.length:=by unfold ed;omega
 have d:h.Kernel.Machine.Frames.Cells[(ar h.Kernel.Machine.Table (a / 16)).Frame.toNat]? = some (nth h.Kernel.Machine.Frames.Cells (ed h.Kernel a)):=ah k;have w:=e.lens.row _ (am k);have l:=ah (xs:=nth h.Kernel.Machine.Frames.Cells (ed h.Kernel a)) (i:=(a % 16).toNat) (by rw[w];omega);have B:a.tmod 16=a % 16:=eS b.1;refine fM 42 [(126,[2,0])] [(8,14,[27,28,29,30,31,32,33,34,35,36,37,38,39,40])] [(0,0),(0,0),(0,0)] Tryz.func356 rfl (λu q=>?_);by_cases o:(ar h.Kernel.Machine.Table (a / 16)).Mode=1
 ·rw[C9 (Or.inl o),C9 o]
  repeat'(first|refine gA ?_|(conv=>whnf);first|refine CA ?_|refine CH (p) (.inl rfl) ?_|refine CD (t) ⟨⟨rfl,CV _⟩,⟨rfl,rfl⟩,trivial⟩ ?_|refine CL (by decide) ?_|refine CJ (lM b) ?_)
  refine CF rfl rfl ?_;exact wC
 rw[C8 (c:=_=(1:Int)) o];by_cases g:0<=v/\v<=999
 ·rw[O0 g]at n
  rw[C8 (c:=¬(0<=v/\v<=999)) (W3 g),C8 (c:=_\/¬(0<=v/\v<=999)) (λy=>y.elim o λy=>y g)]
  repeat'(first|refine gA ?_|(conv=>whnf);first|refine CA ?_|refine CH (p) (.inl rfl) ?_|refine CD (t) ⟨⟨rfl,CV _⟩,⟨rfl,rfl⟩,trivial⟩ ?_|refine C7 (n) ?_|refine CL (by decide) ?_|refine CJ (lM b) ?_|refine CR B ?_|refine CK G (aa d) ?_|refine CG rfl (aa d) rfl ?_|refine CK ω (aa l) ?_|refine Pu.two rfl rfl (aa d) rfl rfl rfl (aa l) rfl (X2 _) (GH h a v) ?_|refine CA ?_)
  refine CF rfl rfl ?_;exact wC
 ·rw[R0 g]at n
  rw[C9 (Or.inr g),C9 g]
  repeat'(first|refine gA ?_|(conv=>whnf);first|refine CA ?_|refine CH (p) (.inl rfl) ?_|refine CD (t) ⟨⟨rfl,CV _⟩,⟨rfl,rfl⟩,trivial⟩ ?_|refine C7 (n) ?_|refine CL (by decide) ?_|refine CJ (lM b) ?_)
  refine CF rfl rfl ?_;exact wC
def wc(l:ax)(n:Int):ay:=if(n+15) / 16<l.Pages then⟨l.Page+(n+15) / 16,l.Pages - (n+15) / 16⟩ else⟨0,0⟩
theorem wa(l:ax)(n:Int)(d:bS l=true):ao Tryz.prog 386 false [.val (some 3) (ax.enc .imm l),.val none [I n]] (.tup [some 3,some 2,none]) (if 9<=n/\n<=l.Size then ax.enc .own (trimL l n)++ay.enc .own (wc l n)++[B true] else ax.enc .own l++[I 0,I 0]++[B false]):=by
 have b:=lT l;rw[d]at b;have a:=aE n 9 l.Size;have g:=d;unfold bS at g;rw[C0]at g;by_cases e:9<=n/\n<=l.Size
 ·rw[O0 e]at a
  rw[C9 e];have c:=kS n;rw[show eJ n=(n+15) / 16 by unfold eJ;rw[C9 ω]]at c;unfold wc;by_cases h:(n+15) / 16<l.Pages
  ·rw[C9 h]
   refine fO 43 [(7,261,[37,38,39,40,42,0,1,2,3,5,4,1005,6,1005,7,8])] Tryz.func386 rfl ?_ (.inr ⟨trivial,trivial,trivial,trivial,trivial,trivial,trivial⟩)
   repeat'(first|refine gD ?_|(conv=>whnf);first|refine CA ?_|refine C7 (b) ?_|refine C7 (a) ?_|refine C7 (c) ?_|refine CA ?_)
   rfl
  ·rw[C8 h]
   refine fO 43 [(7,261,[37,38,39,40,42,0,1,2,3,5,4,1005,6,1005,7,8])] Tryz.func386 rfl ?_ (.inr ⟨trivial,trivial,trivial,trivial,trivial,trivial,trivial⟩)
   repeat'(first|refine gD ?_|(conv=>whnf);first|refine CA ?_|refine C7 (b) ?_|refine C7 (a) ?_|refine C7 (c) ?_|refine CA ?_)
   rfl
 ·rw[R0 e]at a
  rw[C8 e];refine fO 43 [(7,261,[37,38,39,40,42,0,1,2,3,5,4,1005,6,1005,7,8])] Tryz.func386 rfl ?_ (.inr ⟨trivial,trivial,trivial,trivial,trivial,trivial,trivial⟩)
  repeat'(first|refine gO ?_|(conv=>whnf);first|refine CA ?_|refine C7 (b) ?_|refine C7 (a) ?_|refine CA ?_)
  rfl
theorem Av(h:ab)(t a:Int)(c:h.Caches.length<=4)(d:¬(0<=t/\t<=h.Caches.length - 1)):aQ Tryz.prog 354 false [.ptr (b6 h),.val none [I t],.val none [I a]] [.ptr (b6 h),.val none [I t],.val none [I a]] .one [I 1]:=by
 have b:=aE t 0 (h.Caches.length - 1:Int);rw[R0 d]at b;refine fM 148 [(380,[2,0]),(382,[2,0]),(384,[2,0,0]),(379,[2,0])] [(15,269,[68,69,70,71,72,73,74,75,77,67,78,79,11,0,1,2,3,4,5,6,7,13,8,1000,1001,1002,1003,1004,1013,9,10,11,12,14,1012,15]),(22,15,[92,93,94,95,96,97,98,99,100,101,102,103,104,105,106]),(25,271,[116,117,118,119,120,121,122,123,124,125,127,115,128,129,14,0,1,2,3,4,5,6,7,8,9,15,10,1000,1001,1002,1003,1015,11,12,13,14,16,1014,17])] [(0,0),(0,0),(0,0)] Tryz.func354 rfl (λu q=>?_)
 repeat'(first|refine gO ?_|(conv=>whnf);first|refine CA ?_|refine C7 (b) ?_)
 refine CF rfl rfl ?_;exact wC
theorem Eh(h:ab)(i t:Nat)(a:bn h [])(j:i<h.Objs.length)(U:t<h.Caches.length)(K:(nth h.Objs i).Thread≠t):aQ Tryz.prog 354 false [.ptr (b6 h),.val none [I (t:Nat)],.val none [I (nth h.Objs i).Addr]] [.ptr (b6 (freeT h t i).1),.val none [I (t:Nat)],.val none [I (nth h.Objs i).Addr]] .one [I (freeT h t i).2]:=by
 have F:=am j;obtain⟨-,L,d⟩:=a.objAt F;have N:eX h (nth h.Objs i).Addr=i:=by
  have V:=(a.objAt F).1;exact gp (f:=(·.Addr)) (gj a.osr) V j (by rw[L])
 rw[N]at d;have b:=pL a F;have W:=a.onu _ F;have n:=a.lens;have X:=n.objs;have Y:=a.nc;have Z:=k6.of a.mail;have hb4:=Z.b4;have o:=aE (t:Nat) 0 (h.Caches.length - 1:Int);rw[O0 ω]at o;have p:=qm h (nth h.Objs i).Addr ω;rw[d]at p;have e:=ah j;have G:=jz (nth h.Objs i).Size;have O:=bt a.ker;have P:=cT h.Kernel.Machine.Table ((nth h.Objs i).Addr / 16) O.1.2;unfold freeT;by_cases H:aM (nth h.Objs i).Size<0
 ·rw[C9 H]
  have c3:=p7 h i a j H;refine fM 148 [(380,[2,0]),(382,[2,0]),(384,[2,0,0]),(379,[2,0])] [(15,269,[68,69,70,71,72,73,74,75,77,67,78,79,11,0,1,2,3,4,5,6,7,13,8,1000,1001,1002,1003,1004,1013,9,10,11,12,14,1012,15]),(22,15,[92,93,94,95,96,97,98,99,100,101,102,103,104,105,106]),(25,271,[116,117,118,119,120,121,122,123,124,125,127,115,128,129,14,0,1,2,3,4,5,6,7,8,9,15,10,1000,1001,1002,1003,1015,11,12,13,14,16,1014,17])] [(0,0),(0,0),(0,0)] Tryz.func354 rfl (λu q=>?_)
  repeat'(first|refine gD ?_|(conv=>whnf);first|with_reducible refine Bf.D (λc=>?_) (λc=>?_)|refine CA ?_|refine C7 (o) ?_|refine CD (p) ⟨⟨rfl,bB h⟩,⟨rfl,rfl⟩,trivial⟩ ?_|refine CB (aa e) ?_|refine CG rfl (aa e) rfl ?_|refine C7 (G) ?_|refine CH (c3) (.inl rfl) ?_)
  refine CF rfl rfl ?_;exact wC
 rw[C8 H];obtain⟨s1,s2,s3,s4⟩:=PA.of a (am j) H;by_cases J:(ar (tbl h) ((nth h.Objs i).Addr / 16)).Mode=1
 ·rw[C9 J]
  unfold tbl at J;refine fM 148 [(380,[2,0]),(382,[2,0]),(384,[2,0,0]),(379,[2,0])] [(15,269,[68,69,70,71,72,73,74,75,77,67,78,79,11,0,1,2,3,4,5,6,7,13,8,1000,1001,1002,1003,1004,1013,9,10,11,12,14,1012,15]),(22,15,[92,93,94,95,96,97,98,99,100,101,102,103,104,105,106]),(25,271,[116,117,118,119,120,121,122,123,124,125,127,115,128,129,14,0,1,2,3,4,5,6,7,8,9,15,10,1000,1001,1002,1003,1015,11,12,13,14,16,1014,17])] [(0,0),(0,0),(0,0)] Tryz.func354 rfl (λu q=>?_)
  repeat'(first|refine gA ?_|(conv=>whnf);first|with_reducible refine Bf.D (λc=>?_) (λc=>?_)|refine CA ?_|refine CL (by decide) ?_|refine CJ (lM b) ?_|refine C7 (o) ?_|refine CD (p) ⟨⟨rfl,bB h⟩,⟨rfl,rfl⟩,trivial⟩ ?_|refine CB (aa e) ?_|refine CG rfl (aa e) rfl ?_|refine C7 (G) ?_|refine CD (P) ⟨⟨rfl,CV _⟩,⟨rfl,rfl⟩,trivial⟩ ?_)
  refine CF rfl rfl ?_;exact wC
 rw[C8 J,C8 K];unfold tbl at J;have r:=Hf h.Mail t ⟨(nth h.Objs i).Thread,(nth h.Objs i).Addr⟩ a.mail ω;by_cases l:bI (gB h.Mail t ⟨(nth h.Objs i).Thread,(nth h.Objs i).Addr⟩)=true;rotate_left
 ·rw[C8 l]
  rw[C8 l,show bI (gB h.Mail t ⟨(nth h.Objs i).Thread,(nth h.Objs i).Addr⟩)=false by simpa using l]at r;refine fM 148 [(380,[2,0]),(382,[2,0]),(384,[2,0,0]),(379,[2,0])] [(15,269,[68,69,70,71,72,73,74,75,77,67,78,79,11,0,1,2,3,4,5,6,7,13,8,1000,1001,1002,1003,1004,1013,9,10,11,12,14,1012,15]),(22,15,[92,93,94,95,96,97,98,99,100,101,102,103,104,105,106]),(25,271,[116,117,118,119,120,121,122,123,124,125,127,115,128,129,14,0,1,2,3,4,5,6,7,8,9,15,10,1000,1001,1002,1003,1015,11,12,13,14,16,1014,17])] [(0,0),(0,0),(0,0)] Tryz.func354 rfl (λu q=>?_)
  repeat'(first|refine gA ?_|(conv=>whnf);first|with_reducible refine Bf.D (λc=>?_) (λc=>?_)|refine CA ?_|refine CL (by decide) ?_|refine CJ (lM b) ?_|refine C7 (o) ?_|refine CD (p) ⟨⟨rfl,bB h⟩,⟨rfl,rfl⟩,trivial⟩ ?_|refine CB (aa e) ?_|refine CG rfl (aa e) rfl ?_|refine C7 (G) ?_|refine CD (P) ⟨⟨rfl,CV _⟩,⟨rfl,rfl⟩,trivial⟩ ?_|refine CD (r) ⟨⟨rfl,aI.enc_fz h.Mail⟩,⟨rfl,rfl⟩,⟨rfl,rfl⟩,trivial⟩ ?_|refine CA ?_)
  refine CF rfl rfl ?_;exact wC
 rw[C9 l];rw[C9 l,l]at r;have w:ed h.Kernel (nth h.Objs i).Addr<h.Kernel.Machine.Frames.Cells.length:=by unfold ed;omega
 have hcz:=EF s1;have B:=d6 (aM (nth h.Objs i).Size);unfold NA;generalize gB h.Mail t ⟨(nth h.Objs i).Thread,(nth h.Objs i).Addr⟩ = M at r;refine fM 148 [(380,[2,0]),(382,[2,0]),(384,[2,0,0]),(379,[2,0])] [(15,269,[68,69,70,71,72,73,74,75,77,67,78,79,11,0,1,2,3,4,5,6,7,13,8,1000,1001,1002,1003,1004,1013,9,10,11,12,14,1012,15]),(22,15,[92,93,94,95,96,97,98,99,100,101,102,103,104,105,106]),(25,271,[116,117,118,119,120,121,122,123,124,125,127,115,128,129,14,0,1,2,3,4,5,6,7,8,9,15,10,1000,1001,1002,1003,1015,11,12,13,14,16,1014,17])] [(0,0),(0,0),(0,0)] Tryz.func354 rfl (λu q=>?_)
 repeat'(first|refine gA ?_|(conv=>whnf);first|with_reducible refine Bf.D (λc=>?_) (λc=>?_)|refine CA ?_|refine CL (by decide) ?_|refine CJ (lM b) ?_|refine C7 (o) ?_|refine CD (p) ⟨⟨rfl,bB h⟩,⟨rfl,rfl⟩,trivial⟩ ?_|refine CB (aa e) ?_|refine CG rfl (aa e) rfl ?_|refine C7 (G) ?_|refine CD (P) ⟨⟨rfl,CV _⟩,⟨rfl,rfl⟩,trivial⟩ ?_|refine CD (r) ⟨⟨rfl,aI.enc_fz h.Mail⟩,⟨rfl,rfl⟩,⟨rfl,rfl⟩,trivial⟩ ?_|refine CA ?_)
 have Q:({{h with Mail:=M} with Kernel:=dY h.Kernel (nth h.Objs i).Addr 0} : ab) = {h with Mail:=M}:=AG {h with Mail:=M} _ w;have R:=U0 (λy:ab=>C.s .own (y.Kernel.Machine.Frames.Cells.map (aD .own))) Q
 (conv=>whnf)
 refine CE (ι:=Nat) (λk=>[(0,.hold .box (b6 {{h with Mail:=M} with Kernel:=dY h.Kernel (nth h.Objs i).Addr k})),(1,.hold .one [I ((t:Nat):Int)]),(2,.hold .one [I ((nth h.Objs i).Addr)]),(7,.hold .one [I ((i:Nat):Int)]),(8,.hold .box (bm.enc .own (nth h.Objs i))),(9,.hold .one [I (aM (nth h.Objs i).Size)]),(10,.hold .box (bh.enc .own (ar h.Kernel.Machine.Table ((nth h.Objs i).Addr / 16)))),(13,.hold .one [I ((k:Nat):Int)])]) (λk=>k<=(csz (aM (nth h.Objs i).Size)).toNat) (λk=>(csz (aM (nth h.Objs i).Size)).toNat - k) (0) ?_ (T0 _) λk hk=>?_
 ·repeat'(first|exact trivial|rfl |exact jT R|exact dc _|refine CI ?_ ?_|(exact xv (by first|omega|(simp only;omega)|(simp;omega))))
 have T:IntKind.i64.wrap 0=0:=rfl;have S:(nth h.Objs i).Addr.tmod 16=(nth h.Objs i).Addr % 16:=eS b.1;have g:(dY h.Kernel (nth h.Objs i).Addr k).Machine.Frames.Cells[(ar h.Kernel.Machine.Table ((nth h.Objs i).Addr / 16)).Frame.toNat]? = some (iG (nth h.Kernel.Machine.Frames.Cells (ed h.Kernel (nth h.Objs i).Addr)) ((nth h.Objs i).Addr % 16).toNat k):=I3 w;by_cases lk:k<(csz (aM (nth h.Objs i).Size)).toNat
 ·have E:=ah (xs:=iG (nth h.Kernel.Machine.Frames.Cells (ed h.Kernel (nth h.Objs i).Addr)) ((nth h.Objs i).Addr % 16).toNat k) (i:=((nth h.Objs i).Addr % 16+k).toNat) (by rw[lI,s4];omega)
  repeat'(first|refine gD ?_|(conv=>whnf);first|refine CA ?_|refine CL (by decide) ?_|refine CR S ?_|refine C7 (B) ?_|refine CK s2.1 (aa g) ?_|refine CG rfl (aa g) rfl ?_|refine CK ω (aa E) ?_|refine Pu.two rfl rfl (aa g) rfl rfl rfl (aa E) rfl (X2 _) (B4 {h with Mail:=M} _ k _ b.1) ?_)
  ((conv=>whnf);refine CC (k+1) ω ω ?_;(exact wC))
 ·obtain rfl:k=(csz (aM (nth h.Objs i).Size)).toNat:=ω
  have c6:=my {{h with Mail:=M} with Kernel:=dY h.Kernel (nth h.Objs i).Addr (csz (aM (nth h.Objs i).Size)).toNat} i j (by show h.Objs.length<=_;omega)
  repeat'(first|refine gA ?_|(conv=>whnf);first|with_reducible refine Bf.D (λc=>?_) (λc=>?_)|refine CA ?_|refine C7 (B) ?_|refine CH (c6) (.inl rfl) ?_)
  refine CF rfl rfl ?_;exact wC
theorem Mn(h:ab)(i:Nat)(t:Int)(a:bn h [])(d:i<h.Objs.length):aQ Tryz.prog 354 false [.ptr (b6 h),.val none [I t],.val none [I (nth h.Objs i).Addr]] [.ptr (b6 (if 0<=t/\t<=h.Caches.length - 1 then(freeT h t.toNat i).1 else h)),.val none [I t],.val none [I (nth h.Objs i).Addr]] .one [I (if 0<=t/\t<=h.Caches.length - 1 then(freeT h t.toNat i).2 else 1)]:=by
 have c:h.Caches.length<=4:=by have:=(dv.1 a.mail).1.2.1;have:=a.nc;omega
 by_cases b:0<=t/\t<=h.Caches.length - 1
 ·rw[C9 b,C9 b]
  obtain⟨n,rfl⟩:=U2 b.1;simp only[R2];by_cases e:(nth h.Objs i).Thread=n
  ·have:=EY h (nth h.Objs i) n a (am d) e c
   have g:eX h (nth h.Objs i).Addr=i:=by
    obtain⟨k,j,-⟩:=a.objAt (am d);exact gp (f:=(·.Addr)) (gj a.osr) k d (by rw[j])
   rw[g,<-sv e]at this;exact this
  ·exact Eh h i n a d ω e
 ·rw[C8 b,C8 b]
  exact Av h t _ c b
theorem J5(c:aA)(k:Nat):aA.enc .own (q7 c k)=[.s .own ((c.Lists.map (aD .own)).set k (aD .own ((nth c.Lists k).take ((nth c.Lists k).length - 1))))]:=by simp[aA.enc,q7,O5]
theorem Ph(xs:List Int)(n:Nat):(xs.take n).map (rI .imm)=(xs.map (rI .imm)).take n:=X3
def PE(c:aA)(k:Nat):List C:=if 0<(nth c.Lists k).length then aA.enc .own (q7 c k)++[I (nth (nth c.Lists k) ((nth c.Lists k).length - 1)),B true] else aA.enc .own c++[I (-1),B false]
theorem Pb(c:aA)(k:Nat):gw (PE c k):=by
 unfold PE;split
 ·exact aP (aA.enc_fr _) ⟨trivial,trivial,trivial⟩
 ·exact aP (aA.enc_fr _) ⟨trivial,trivial,trivial⟩
theorem vb(c:aA)(k:Nat)(h:bo c=true)(u:k<=3):ao Tryz.prog 289 false [.val (some 1) (aA.enc .imm c),.val none [I (k:Nat)]] (.tup [some 1,none,none]) (PE c k):=by
 obtain⟨w,j⟩:=dL h;have n:aA.sml c:=⟨ω,λl r=>by have:=j l r;show l.length<=1048576;omega⟩
 have d:=xo c k n;rw[h,O0 ω]at d;have o:=iw c n;have b:=oQ (c:=c) (k:=k) ω;have t:=j _ (am (xs:=c.Lists) (i:=k) ω);have a:=Pb c k;unfold PE at a |-;by_cases p:0<(nth c.Lists k).length
 ·rw[C9 p]at a |-
  have q:=ah (xs:=nth c.Lists k) (i:=(nth c.Lists k).length - 1) ω;have e:(nth c.Lists k)[(((nth c.Lists k).length:Int) - 1).toNat]? = some (nth (nth c.Lists k) ((nth c.Lists k).length - 1)):=by rw[show(((nth c.Lists k).length:Int) - 1).toNat=(nth c.Lists k).length - 1 by omega];exact q
  have g:((((nth c.Lists k).length:Nat):Int) - 1)=(((nth c.Lists k).length - 1:Nat):Int):=ω
  rw[J5]at a |-;refine fO 54 [(5,268,[32,33,34,35,36,37,38,39,40,41,42,44,0,1,2,3,4,5,6,7,8,9,10,11,1000,1001,1002,12,13]),(6,265,[45,46,47,48,49,50,51,52,53,0,1,2,3,4,5,6,7,8,9,1001,1002,1003,1004,1005,1006,1007,1008,10,11])] Tryz.func289 rfl ?_ (.inr a)
  repeat'(first|refine gA ?_|(conv=>whnf);first|with_reducible refine CB (aa b) ?_|refine CA ?_|refine CG rfl (aa b) rfl ?_|refine C7 (d) ?_|refine C7 (o) ?_|refine CK ω (aa e) ?_|refine CB (aa q) ?_|refine CT ((nth c.Lists k).length - 1) g (by rw[X0];omega) (aK λ_=>rfl) (Ph _ _) ?_|refine CA ?_|refine CS (λ_=>rfl) (λ_=>rfl) (by rw[O1];omega) (by decide) ?_|refine CN (λ_=>rfl) (λ_=>rfl) (by rw[O1];omega) (by decide) ?_|refine CM rfl rfl (aa b) rfl (Z0 rfl) rfl ?_)
  rfl
 ·rw[C8 p]at a |-
  refine fO 54 [(5,268,[32,33,34,35,36,37,38,39,40,41,42,44,0,1,2,3,4,5,6,7,8,9,10,11,1000,1001,1002,12,13]),(6,265,[45,46,47,48,49,50,51,52,53,0,1,2,3,4,5,6,7,8,9,1001,1002,1003,1004,1005,1006,1007,1008,10,11])] Tryz.func289 rfl ?_ (.inr a)
  repeat'(first|refine gA ?_|(conv=>whnf);first|with_reducible refine CB (aa b) ?_|refine CA ?_|refine CG rfl (aa b) rfl ?_|refine C7 (d) ?_|refine C7 (o) ?_)
  rfl
def PR(xs:List ay)(n:Int):List C:=b8 .own (a8 xs n).1++[I (a8 xs n).2.1,B (a8 xs n).2.2]
theorem NZ(xs:List ay)(n:Int):gw (PR xs n):=aP (kJ _) ⟨trivial,trivial,trivial⟩
theorem nU(pages:Int)(xs:List ay)(n:Int)(w:0<=pages/\pages<=1048576)(l:bw pages xs=true)(J:1<=n/\n<=1000)(K:xs.length<=4096):ao Tryz.prog 294 false [.val none [I pages],.val none (b8 .imm xs),.val none [I n]] (.tup [none,none,none]) (PR xs n):=by
 have o:=kY pages xs w ⟨ω,λ_ _=>trivial⟩;rw[l]at o;have p:=(uE l).2;refine fO 98 [(8,21,[31,32,33,34,35,36,37,38,39,40,41,42,43,44,45,46,47,48,49,50,51]),(14,265,[71,72,73,74,76,77,78,79,81,0,1,2,3,5,6,7,8,10,4,1005,1006,1007,1008,1010,9,1010,11,1010,12,13])] Tryz.func294 rfl ?_ (.inr (NZ xs n))
 repeat'(first|refine gD ?_|(conv=>whnf);first|refine CA ?_|refine C7 (o) ?_|refine CN (λ_=>rfl) (λ_=>rfl) ω (by decide) ?_)
 (conv=>whnf)
 refine CE (ι:=Nat) (λi=>[(1,.hold .one (b8 .imm xs)),(2,.hold .one [I (n)]),(9,.hold .one (b8 .own xs)),(10,.hold .one [I (iF xs n i)]),(11,.hold .one [I ((i:Nat):Int)])]) (λi=>i<=xs.length) (λi=>xs.length - i) (0) ?_ (T0 _) λi y=>?_
 ·exact wC
 have h:=va xs n i y;by_cases q:i<xs.length
 ·have j:=ah q
  have E:=p _ (am q);have a:iF xs n (i+1)=if n<=(nth xs i).Len/\(iF xs n i<0\/(nth xs i).Len<(nth xs (iF xs n i).toNat).Len) then((i:Nat):Int) else iF xs n i:=rfl
  by_cases r:n<=(nth xs i).Len
  ·by_cases F:iF xs n i<0
   ·rw[C9 ⟨r,.inl F⟩]at a
    repeat'(first|refine gD ?_|(conv=>whnf);first|with_reducible (first|refine CB (aa j) ?_|refine Bf.D (λc=>?_) (λc=>?_))|refine CA ?_)
    ((conv=>whnf);refine CC (i+1) ω ω ?_)
    rw[a];exact wC
   ·have d:=ah (xs:=xs) (i:=(iF xs n i).toNat) ω
    by_cases G:(nth xs i).Len<(nth xs (iF xs n i).toNat).Len
    ·rw[C9 ⟨r,.inr G⟩]at a
     repeat'(first|refine gD ?_|(conv=>whnf);first|with_reducible (first|refine CB (aa j) ?_|refine CK ω (aa d) ?_|refine Bf.D (λc=>?_) (λc=>?_))|refine CA ?_)
     ((conv=>whnf);refine CC (i+1) ω ω ?_)
     rw[a];exact wC
    ·rw[C8 ω]at a
     repeat'(first|refine gD ?_|(conv=>whnf);first|with_reducible (first|refine CB (aa j) ?_|refine CK ω (aa d) ?_|refine Bf.D (λc=>?_) (λc=>?_))|refine CA ?_)
     ((conv=>whnf);refine CC (i+1) ω ω ?_)
     rw[a];exact wC
  ·rw[C8 ω]at a
   repeat'(first|refine gD ?_|(conv=>whnf);first|with_reducible (first|refine CB (aa j) ?_|refine Bf.D (λc=>?_) (λc=>?_))|refine CA ?_)
   ((conv=>whnf);refine CC (i+1) ω ω ?_)
   rw[a];exact wC
 ·obtain rfl:i=xs.length:=ω
  change gJ xs n = -1\/_ at h;unfold PR a8;rw[show iF xs n xs.length=gJ xs n from rfl];by_cases e:gJ xs n<0
  ·rw[C9 e]
   rw[show gJ xs n = -1 from h.resolve_right λg=>by have L:0<=gJ xs n:=g.1;omega]
   repeat'(first|refine gD ?_|(conv=>whnf);first|with_reducible refine Bf.D (λc=>?_) (λc=>?_)|refine CA ?_)
   rfl
  ·rw[C8 e]
   obtain⟨H,t,M⟩:=h.resolve_left ω;change 0<=gJ xs n at H;change gJ xs n<xs.length at t;obtain⟨b,k⟩:=U2 (show 0<=gJ xs n by omega);rw[k]at t |-;simp only[R2];have d:=ah (xs:=xs) (i:=b) ω;have E:=p _ (am (xs:=xs) (i:=b) ω);by_cases u:(nth xs b).Len=n
   ·rw[C9 u]
    repeat'(first|refine gA ?_|(conv=>whnf);first|with_reducible (first|refine CB (aa d) ?_|refine Bf.D (λc=>?_) (λc=>?_))|refine CA ?_|refine CT b rfl (by rw[X0];omega) (aK λ_=>rfl) X3 ?_|refine CU (b+1) rfl (by rw[X0];omega) (aK λ_=>rfl) Y3 ?_|refine CS (λ_=>rfl) (λ_=>rfl) (by rw[O1];omega) (by decide) ?_|refine Ap.dele (λ_=>rfl) (λ_=>rfl) ω (by decide) ?_|refine CN (λ_=>rfl) (λ_=>rfl) (by rw[O1];omega) (by decide) ?_|refine CA ?_)
    rfl
   ·rw[C8 u]
    repeat'(first|refine gA ?_|(conv=>whnf);first|with_reducible (first|refine CB (aa d) ?_|refine Bf.D (λc=>?_) (λc=>?_))|refine CA ?_|refine CM rfl rfl (aa d) rfl (Z0 rfl) rfl ?_)
    exact U0 (λz=>z++[I (nth xs b).At,B true]) (show [C.s du.own _]=_ from by simp[b8,O5];rfl)
theorem JY(k:af)(p:Int)(f:Nat):af.enc .own (pR k p f)=((af.enc .own k).set 1 (.s .own ((k.Machine.Frames.Used.map (rB .own)).set f (rB .own true)))).set 2 (.s .own ((k.Machine.Table.Entries.map (bh.enc .own)).set p.toNat (bh.enc .own ⟨2,(f:Nat)⟩))):=by
 simp[af.enc,pR,O5]
theorem Eb(k:af)(p:Int)(c:aB k=true)(y:k.Calls≠100000)(o:0<=p/\p<k.Machine.Table.Entries.length)(C:(nth k.Machine.Table.Entries p.toNat).Mode=0):aQ Tryz.prog 296 false [.ptr (af.enc .own k),.val none [I p]] [.ptr (af.enc .own (fC k p).1),.val none [I p]] .one [B (fC k p).2]:=by
 have E:=bt c;have F:=aY.1 (aC.1 c).2.1;have G:=(bx.1 (aC.1 c).2.2.1).2.2;have H:(cS k).Machine.Table.Entries.length<=32:=G;have a:=A6 k.Machine.Frames ω;have d:=lV k c y;have g:=dJ (cS k) p E.1.2;have l:ar (cS k).Machine.Table p=nth k.Machine.Table.Entries p.toNat:=by unfold ar;exact C9 o
 rw[l,C]at g;have h:=aE p 0 ((k.Machine.Table.Entries.length:Int) - 1);rw[O0 ω]at h;have r:=ah (xs:=k.Machine.Table.Entries) (i:=p.toNat) ω;change ao _ _ _ _ _ [I (qW k)]at a;unfold fC;cases e:refd k<;>rw[e]at d
 ·by_cases j:qW k<0
  ·rw[C9 (.inr j)]
   refine fM 56 [(347,[2])] [] [(0,0),(0,0)] Tryz.func296 rfl (λu q=>?_)
   repeat'(first|refine gA ?_|(conv=>whnf);first|with_reducible refine Bf.D (λb=>?_) (λb=>?_)|refine CD (a) ⟨⟨rfl,aZ.enc_fz _⟩,trivial⟩ ?_|refine CH (d) (.inl rfl) ?_|refine C7 (h) ?_|refine CD (g) ⟨CO (cS k),⟨rfl,rfl⟩,trivial⟩ ?_)
   refine CF rfl ?_ ?_
   ·rfl
   ·exact wC
  ·rw[C8 (by simp[j])]
   obtain⟨n,t⟩:=BG j;obtain⟨f,J⟩:=U2 (show 0<=qW k by omega);rw[J]at a n t j |-;simp only[R2]at n t |-;have w:=ah (xs:=k.Machine.Frames.Used) (i:=f) n;rw[JY];refine fM 56 [(347,[2])] [] [(0,0),(0,0)] Tryz.func296 rfl (λu q=>?_)
   repeat'(first|refine gA ?_|(conv=>whnf);first|with_reducible refine Bf.D (λb=>?_) (λb=>?_)|refine CD (a) ⟨⟨rfl,aZ.enc_fz _⟩,trivial⟩ ?_|refine CH (d) (.inl rfl) ?_|refine C7 (h) ?_|refine CD (g) ⟨CO (cS k),⟨rfl,rfl⟩,trivial⟩ ?_|refine CB (aa w) ?_|refine CK o.1 (aa r) ?_|refine CM rfl rfl (aa w) rfl (Z0 rfl) rfl ?_|refine CM rfl rfl (aa r) rfl (Z0 rfl) rfl ?_)
   refine CF rfl ?_ ?_
   ·rfl
   ·exact wC
 ·rw[C9 (.inl rfl)]
  refine fM 56 [(347,[2])] [] [(0,0),(0,0)] Tryz.func296 rfl (λu q=>?_)
  repeat'(first|refine gA ?_|(conv=>whnf);first|with_reducible refine Bf.D (λb=>?_) (λb=>?_)|refine CD (a) ⟨⟨rfl,aZ.enc_fz _⟩,trivial⟩ ?_|refine CH (d) (.inl rfl) ?_|refine C7 (h) ?_|refine CD (g) ⟨CO (cS k),⟨rfl,rfl⟩,trivial⟩ ?_)
  refine CF rfl ?_ ?_
  ·rfl
  ·exact wC
def PC(h:ab):List C:=(b6 h).drop 5
theorem B3(h:ab)(p:Int)(a:aB h.Kernel=true)(b:h.Kernel.Calls≠100000)(c:0<=p/\p<h.Kernel.Machine.Table.Entries.length)(d:(nth h.Kernel.Machine.Table.Entries p.toNat).Mode=0):aQ Tryz.prog 296 false [.ptr (b6 h),.val none [I p]] [.ptr (b6 {h with Kernel:=(fC h.Kernel p).1}),.val none [I p]] .one [B (fC h.Kernel p).2]:=
 (Eb h.Kernel p a b c d).frame (r:=PC h) rfl
theorem HF(h:ab)(i:Nat):b6 (slotT h i)=((b6 h).set 14 (I (G0 h.Seed))).set 6 (.s .own ((h.Spans.map (au.enc .own)).set i [I (nth h.Spans i).Page,I (nth h.Spans i).Class,I (gv (nth h.Spans i).Bits (oY h i))])):=by
 simp[b6,slotT,pQ,O5,au.enc]
theorem qu(h:ab)(E:List Int)(i:Nat)(c:bn h E)(k:i<h.Spans.length):aQ Tryz.prog 291 false [.ptr (b6 h),.val none [I (i:Nat)]] [.ptr (b6 (lC h i).1),.val none [I (i:Nat)]] .one [I (lC h i).2]:=by
 have F:=c.lens;have G:=F.spans;have d:=ah k;have b:=c.L.sok _ (am k);have e:=dU b;have a:=c.nums;unfold cg at a;rw[C0]at a;have t:=(bx.1 (aC.1 c.ker).2.2.1).2.2;have l:=rr c.L.sok (ps:=aT h (nth h.Spans i).Page) e (aT h (nth h.Spans i).Page).length;change 0<=gE h i/\gE h i<=65535 at l;have w:=mg (nth h.Spans i).Class;have y:=yc h i ⟨ω,λ_ _=>trivial⟩ ⟨by show h.Kernel.Machine.Table.Entries.length<=_;omega,λ_ _=>trivial⟩ c.L.sok k;have o:=wF (nth h.Spans i).Class (gE h i) ω;change ao _ _ _ _ _ (aD .own (mC h i)) at o;have p:=E9 (nth h.Spans i).Class (gE h i);change (mC h i).length<=16 at p;unfold lC;by_cases B:(mC h i).length=0
 ·rw[C9 B]
  refine fM 68 [] [(2,7,[16,17,18,19,20,21,22]),(7,12,[42,43,44,45,46,47,48,49,50,51,52,53]),(8,11,[56,57,58,59,60,61,62,63,64,65,66])] [(0,0),(0,0)] Tryz.func291 rfl (λu q=>?_)
  repeat'(first|refine gA ?_|(conv=>whnf);first|refine CB (aa d) ?_|refine CG rfl (aa d) rfl ?_|refine C7 (w) ?_|refine CD (y) ⟨⟨rfl,bB h⟩,⟨rfl,rfl⟩,trivial⟩ ?_|refine C7 (o) ?_|refine CA ?_)
  refine CF rfl rfl ?_;exact wC
 ·rw[C8 B]
  have H:=zn (h:=h) (i:=i) ω;obtain⟨C,D,O⟩:=uW H;have J:=(gm (aF b).2.2).2.2.1;have r:=w6 h.Seed (n:=((mC h i).length:Nat)) ω;have K:=tj h.Seed ((mC h i).length:Nat) ω ω;have M:=xy (nth h.Spans i).Bits (oY h i) e ω;have N:=xA (pQ (nth h.Spans i) (oY h i)) (oY h i) (Al b ⟨C,D⟩) ⟨C,D⟩;have g:(mC h i)[(K5 h.Seed ((mC h i).length:Nat)).toNat]? = some (oY h i):=ah ω;have j:((h.Spans.map (au.enc .own)).set i [I (nth h.Spans i).Page,I (nth h.Spans i).Class,I (gv (nth h.Spans i).Bits (oY h i))])[i]? = some [I (nth h.Spans i).Page,I (nth h.Spans i).Class,I (gv (nth h.Spans i).Bits (oY h i))]:=lY k;unfold td;rw[HF];refine fM 68 [] [(2,7,[16,17,18,19,20,21,22]),(7,12,[42,43,44,45,46,47,48,49,50,51,52,53]),(8,11,[56,57,58,59,60,61,62,63,64,65,66])] [(0,0),(0,0)] Tryz.func291 rfl (λu q=>?_)
  repeat'(first|refine gA ?_|(conv=>whnf);first|refine CB (aa d) ?_|refine CB j ?_|refine CG rfl (aa g) rfl ?_|refine CG rfl (aa d) rfl ?_|refine CG rfl j rfl ?_|refine C7 (w) ?_|refine CD (y) ⟨⟨rfl,bB h⟩,⟨rfl,rfl⟩,trivial⟩ ?_|refine C7 (o) ?_|refine C7 (K) ?_|refine C7 (M) ?_|refine C7 (N) ?_|refine CK r.1 (aa g) ?_|refine CA ?_|refine CM rfl rfl (aa d) rfl (Z0 rfl) rfl ?_)
  refine CF rfl ?_ ?_
  ·rfl
  ·exact wC
theorem Ap.ins{α:Type}{e:α->List C}{xs:List α}{y:α}{r:List C}{i sz by_:Nat}{K:List (List C)->Prop}(a:r=e y)(b:∀y,(e y).length=sz)(c:∀y,aV (e y)=true)(h:xs.length<=1048576)(d:by_<=1000)(f:K ((xs.take i++y::xs.drop i).map e)):Ap true ((xs.take i).map e++[r]) ((xs.drop i).map e) sz by_ K:=by
 subst a;have g:(xs.take i).length+1+(xs.drop i).length<=3145728:=by rw[O1,z3];omega
 refine CP (λr a=>?_) (aK b) (λ_ r a=>by obtain⟨y,-,rfl⟩:=Z3.1 a;exact c y) (by simp only[v3,X0,List.length_singleton];omega) (by simp only[v3,X0,List.length_singleton];exact O4 (Nat.mul_le_mul g d) (by decide)) ?_ f
 ·rcases W2.1 a with a|a
  ·exact aK b r a
  ·rw[C1.1 a];exact b y
 ·rw[v5,C5,t5];rfl
theorem uF{α:Type}{p:α->Bool}{xs:List α}{y:α}{i:Nat}(h:jC p xs=i):iY p xs y=xs.take i++y::xs.drop i:=by unfold iY;rw[h]
def Ge(h:ab)(c:Int):ab × Int:=
 if(a8 h.Free 1).2.2=false then(h,-1)
 else if(fC h.Kernel (a8 h.Free 1).2.1).2=false then({h with Kernel:=(fC h.Kernel (a8 h.Free 1).2.1).1},-1)
 else(ur h c,(uw h:Nat))
theorem Bg(h:ab)(E:List Int)(c:Nat)(g:bn h E)(J:h.Kernel.Calls<=90000):aQ Tryz.prog 292 false [.ptr (b6 h),.val none [I (c:Nat)]] [.ptr (b6 (Ge h c).1),.val none [I (c:Nat)]] .one [I (Ge h c).2]:=by
 have B:=g.lens;have K:=B.spans;have L:dQ h<=32:=B.ents;have C:=gH h;have l:=nU (dQ h:Nat) h.Free 1 ⟨ω,ω⟩ g.rng (by decide) (by have:=B.free;omega);unfold PR at l;have d:=kK g (T4 1);unfold Ge ur uw;generalize a8 h.Free 1=r at l d |-;obtain⟨o,p,ok⟩:=r;simp only at l d |-;cases ok with
 | false=>
  rw[C9 rfl];refine fM 79 [(296,[2,0]),(2000010,[0,6])] [(1,267,[11,12,13,14,15,16,17,10,18,19,20,0,1,2,3,4,5,6,7,8,9,10,11,1009,1010,12,1010,13])] [(0,0),(0,0)] Tryz.func292 rfl (λu q=>?_)
  repeat'(first|refine gO ?_|(conv=>whnf);first|refine CA ?_|refine CD (C) ⟨bB h,trivial⟩ ?_|refine CD (l) ⟨⟨rfl,rfl⟩,⟨rfl,d8 h.Free⟩,⟨rfl,rfl⟩,trivial⟩ ?_|refine CA ?_)
  refine CF rfl rfl ?_;exact wC
 | true=>
  rw[C8 (by simp)];obtain⟨M,N,O,V⟩:=d rfl;have F:0<=p/\p<h.Kernel.Machine.Table.Entries.length:=⟨M,by have:p+1<=((tbl h).Entries.length:Nat):=N;unfold tbl at this;omega⟩
  have t:=B3 h p g.ker ω F (O p.toNat ω ω);generalize fC h.Kernel p=w at t |-;obtain⟨k,b⟩:=w;simp only at t |-;cases b with
  | false=>
   rw[C9 rfl];refine fM 79 [(296,[2,0]),(2000010,[0,6])] [(1,267,[11,12,13,14,15,16,17,10,18,19,20,0,1,2,3,4,5,6,7,8,9,10,11,1009,1010,12,1010,13])] [(0,0),(0,0)] Tryz.func292 rfl (λu q=>?_)
   repeat'(first|refine gO ?_|(conv=>whnf);first|refine CA ?_|refine CD (C) ⟨bB h,trivial⟩ ?_|refine CD (l) ⟨⟨rfl,rfl⟩,⟨rfl,d8 h.Free⟩,⟨rfl,rfl⟩,trivial⟩ ?_|refine CH (t) (.inl rfl) ?_|refine CA ?_)
   refine CF rfl rfl ?_;exact wC
  | true=>
   rw[C8 (by simp)];refine fM 79 [(296,[2,0]),(2000010,[0,6])] [(1,267,[11,12,13,14,15,16,17,10,18,19,20,0,1,2,3,4,5,6,7,8,9,10,11,1009,1010,12,1010,13])] [(0,0),(0,0)] Tryz.func292 rfl (λu q=>?_)
   repeat'(first|refine gO ?_|(conv=>whnf);first|refine CA ?_|refine CD (C) ⟨bB h,trivial⟩ ?_|refine CD (l) ⟨⟨rfl,rfl⟩,⟨rfl,d8 h.Free⟩,⟨rfl,rfl⟩,trivial⟩ ?_|refine CH (t) (.inl rfl) ?_|refine CA ?_)
   (conv=>whnf)
   refine CE (ι:=Nat) (λi=>[(0,.hold .box (b6 {h with Kernel:=k,Free:=o})),(1,.hold .one [I ((c:Nat):Int)]),(6,.hold .one [I (p)]),(8,.hold .one [I ((i:Nat):Int)])]) (λi=>i<=h.Spans.length/\∀(j:Nat)(z:au),j<i->h.Spans[j]? = some z->HY p z=false) (λi=>h.Spans.length - i) (0) ?_ (⟨T0 _,λj z W=>ω⟩) λi g=>?_
   ·exact wC
   obtain⟨P,G⟩:=g;have Q:({h with Kernel:=k,Free:=o} : ab).Spans.length=h.Spans.length:=rfl;by_cases R:i<h.Spans.length/\(nth h.Spans i).Page<p
   ·have n:=ah R.1
    repeat'(first|refine gD ?_|(conv=>whnf);first|with_reducible refine CB (aa n) ?_|refine CA ?_|refine CG rfl (aa n) rfl ?_)
    ((conv=>whnf);refine CC (i+1) ⟨ω,dl n (R0 ω) G⟩ ω ?_;(exact wC))
   ·have a:jC (HY p) h.Spans=i:=uJ ω G λz H=>by
     have S:=(C2.1 H).1;have:z=nth h.Spans i:=(bu H).symm;subst this;exact O0 ω
    have n:i<h.Spans.length->h.Spans[i]? = some (nth h.Spans i):=λT=>ah T
    rw[show addS h k o p (c:Nat) = {h with Kernel:=k,Free:=o,Spans:=h.Spans.take i++⟨p,(c:Nat),0⟩::h.Spans.drop i} by unfold addS;rw[uF a],a]
    repeat'(first|refine gD ?_|(conv=>whnf);first|with_reducible (first|refine CB (aa (n ω)) ?_|refine Bf.D (λU=>?_) (λU=>?_))|refine CA ?_|refine CG rfl (aa (n ω)) rfl ?_|refine Ft.mk rfl (xa h.Spans) rfl ?_|refine CT i rfl (by rw[X0];omega) (aK λ_=>rfl) X3 ?_|refine CU i rfl (by rw[X0];omega) (aK λ_=>rfl) Y3 ?_|refine CN (λ_=>rfl) (λ_=>rfl) (by rw[O1];omega) (by decide) ?_|refine Ap.sn (aK λ_=>rfl) rfl (by rw[X0,O1];omega) (by decide) rfl ?_|refine Ap.ins (e:=au.enc .imm) (y:=⟨p,(c:Nat),0⟩) rfl (λ_=>rfl) (λ_=>rfl) ω (by decide) ?_)
    all_goals
     refine CF rfl rfl ?_;exact wC
theorem Bo{h:ab}{c:Int}{i:Nat}(a:i<h.Spans.length)(b:rL h c i=true)(d:∀j,j<i->rL h c j=false):rT h c=some i:=
 List.find?_range_eq_some.2 ⟨b,List.mem_range.2 a,λj e=>by rw[d j e];rfl⟩
theorem DW{h:ab}{c:Int}(a:∀j,j<h.Spans.length->rL h c j=false):rT h c=none:=
 List.find?_range_eq_none.2 λj b=>by rw[a j b];rfl
theorem sM{h:ab}{c:Int}{i:Nat}(a:rL h c i=false)(b:∀j,j<i->rL h c j=false):∀j,j<i+1->rL h c j=false:=λj d=>by
 by_cases e:j=i
 ·rw[e];exact a
 ·exact b j ω
theorem H5(h:ab)(t:Nat)(c:aA):b6 {h with Caches:=h.Caches.set t c} = (b6 h).set 9 (.s .own ((h.Caches.map (aA.enc .own)).set t (aA.enc .own c))):=by
 simp[b6,O5]
theorem J3{h:ab}{c:Nat}(b:bn h [])(l:c<=3)(e:h.Kernel.Calls<=90000)(h1:¬(a8 h.Free 1).2.2=false)(f:¬(fC h.Kernel (a8 h.Free 1).2.1).2=false):bn (ur h c) []/\uw h<(ur h c).Spans.length:=by
 have a:(a8 h.Free 1).2.2=true:=by simpa using h1
 obtain⟨g,i,j,n⟩:=kK b (T4 1) a;have s:=zA.of (p:=(a8 h.Free 1).2.1) b.ker ω ⟨g,by have:(a8 h.Free 1).2.1+1<=(h.Kernel.Machine.Table.Entries.length:Nat):=i;omega⟩ (j _ ω ω);have d:(fC h.Kernel (a8 h.Free 1).2.1).2=true:=by simpa using f
 have k:zA h.Kernel (a8 h.Free 1).2.1 ((fC h.Kernel (a8 h.Free 1).2.1).1,true):=by rw[<-d];exact s
 exact⟨b.addS (c:=c) ⟨ω,ω⟩ a k,(GD (HY (a8 h.Free 1).2.1) h.Spans ⟨(a8 h.Free 1).2.1,c,0⟩).1⟩
theorem xD(h:ab)(t c:Nat)(o:bn h [])(M:t<h.Caches.length)(N:c<=3)(p:h.Kernel.Calls<=90000):aQ Tryz.prog 234 false [.ptr (b6 h),.val none [I (t:Nat)],.val none [I (c:Nat)]] [.ptr (b6 (eg h t c).1),.val none [I (t:Nat)],.val none [I (c:Nat)]] .one [I (eg h t c).2]:=by
 have E:=o.cach _ (am M);have e:=ah M;have r:=vb (nth h.Caches t) c E N;have Q:=o.lens.spans;have B:=o;unfold PE at r;by_cases F:0<(nth (nth h.Caches t).Lists c).length
 ·unfold eg
  rw[C9 F]at r |-;simp only;rw[H5];refine fM 80 [(291,[2,0]),(292,[2,0])] [(3,6,[27,28,29,30,31,32])] [(0,0),(0,0),(0,0)] Tryz.func234 rfl (λu q=>?_)
  repeat'(first|refine gO ?_|(conv=>whnf);first|with_reducible refine CB (aa e) ?_|refine CG rfl (aa e) rfl ?_|refine CD (r) ⟨⟨rfl,CX _⟩,⟨rfl,rfl⟩,trivial⟩ ?_|refine CA ?_|refine CM rfl rfl (aa e) rfl (Z0 rfl) rfl ?_)
  refine CF rfl rfl ?_;exact wC
 ·rw[C8 F]at r
  have d:eg h t c=match rT h c with
   | some i=>(slotT h i,td h i)
   | none=>if(a8 h.Free 1).2.2=false then(h,-1)
    else if(fC h.Kernel (a8 h.Free 1).2.1).2=false then({h with Kernel:=(fC h.Kernel (a8 h.Free 1).2.1).1},-1)
    else lC (ur h c) (uw h):=by unfold eg;exact C8 F
  refine fM 80 [(291,[2,0]),(292,[2,0])] [(3,6,[27,28,29,30,31,32])] [(0,0),(0,0),(0,0)] Tryz.func234 rfl (λu q=>?_)
  repeat'(first|refine gO ?_|(conv=>whnf);first|with_reducible refine CB (aa e) ?_|refine CG rfl (aa e) rfl ?_|refine CD (r) ⟨⟨rfl,CX _⟩,⟨rfl,rfl⟩,trivial⟩ ?_|refine CA ?_)
  (conv=>whnf)
  refine CE (ι:=Nat) (λi=>[(0,.hold .box (b6 h)),(1,.hold .one [I ((t:Nat):Int)]),(2,.hold .one [I ((c:Nat):Int)]),(10,.hold .one [I ((i:Nat):Int)])]) (λi=>i<=h.Spans.length/\∀j,j<i->rL h c j=false) (λi=>h.Spans.length - i) (0) ?_ (⟨T0 _,λj W=>ω⟩) λi o=>?_
  ·exact wC
  obtain⟨R,w⟩:=o;by_cases C:i<h.Spans.length
  ·have l:=ah C
   by_cases O:(nth h.Spans i).Class=c
   ·have y:=tw h (nth h.Spans i).Page
    cases D:eZ h (nth h.Spans i).Page with
    | true=>
     rw[D]at y
     repeat'(first|refine gA ?_|(conv=>whnf);first|with_reducible refine CB (aa l) ?_|refine CG rfl (aa l) rfl ?_|refine CD (y) ⟨bB h,⟨rfl,rfl⟩,trivial⟩ ?_)
     ((conv=>whnf);refine CC (i+1) ⟨ω,sM (by unfold rL;rw[D];simp) w⟩ ω ?_;(exact wC))
    | false=>
     rw[D]at y;have n:=qu h [] i B C;unfold lC at n;by_cases P:(mC h i).length=0
     ·rw[C9 P]at n
      repeat'(first|refine gA ?_|(conv=>whnf);first|with_reducible refine CB (aa l) ?_|refine CG rfl (aa l) rfl ?_|refine CD (y) ⟨bB h,⟨rfl,rfl⟩,trivial⟩ ?_|refine CH (n) (.inl rfl) ?_)
      ((conv=>whnf);refine CC (i+1) ⟨ω,sM (by unfold rL;rw[R0 (by omega:¬0<(mC h i).length)];simp) w⟩ ω ?_;(exact wC))
     ·rw[C8 P]at n
      have G:rT h c=some i:=Bo C (by unfold rL;rw[O0 O,D,O0 ω];rfl) w;rw[G]at d;simp only at d;obtain⟨S,T⟩:=B.slotT C (by omega:0<(mC h i).length);have H:=iX.nn S T;rw[d];generalize slotT h i=g at n |-;generalize td h i=a at n H |-
      repeat'(first|refine gA ?_|(conv=>whnf);first|with_reducible refine CB (aa l) ?_|refine CG rfl (aa l) rfl ?_|refine CD (y) ⟨bB h,⟨rfl,rfl⟩,trivial⟩ ?_|refine CH (n) (.inl rfl) ?_)
      refine CF rfl rfl ?_;exact wC
   ·repeat'(first|refine gA ?_|(conv=>whnf);first|with_reducible refine CB (aa l) ?_|refine CG rfl (aa l) rfl ?_)
    ((conv=>whnf);refine CC (i+1) ⟨ω,sM (by unfold rL;rw[R0 O];rfl) w⟩ ω ?_;(exact wC))
  ·obtain rfl:i=h.Spans.length:=ω
   have G:rT h c=none:=DW w;rw[G]at d;simp only at d;have k:=Bg h [] c B p;rw[d];unfold Ge at k;by_cases J:(a8 h.Free 1).2.2=false
   ·rw[C9 J]at k |-
    repeat'(first|refine gD ?_|(conv=>whnf);first|refine CH (k) (.inl rfl) ?_)
    refine CF rfl rfl ?_;exact wC
   ·rw[C8 J]at k |-
    by_cases K:(fC h.Kernel (a8 h.Free 1).2.1).2=false
    ·rw[C9 K]at k |-
     repeat'(first|refine gD ?_|(conv=>whnf);first|refine CH (k) (.inl rfl) ?_)
     refine CF rfl rfl ?_;exact wC
    ·rw[C8 K]at k |-
     obtain⟨U,V⟩:=J3 B N p J K;have L:=qu (ur h c) [] (uw h) U V;generalize ur h c=g at k L |-;generalize uw h=b at k L |-
     repeat'(first|refine gD ?_|(conv=>whnf);first|refine CH (k) (.inl rfl) ?_|refine CH (L) (.inl rfl) ?_)
     refine CF rfl rfl ?_;exact wC
def Jn(h:ab)(size:Int):ab × Int:=
 if(a8 h.Free (ky size:Nat)).2.2=false then(h,-1)
 else if(iN h size).2=ky size then({h with Kernel:=(iN h size).1,Free:=(a8 h.Free (ky size:Nat)).1,Larges:=iY (N5 (a8 h.Free (ky size:Nat)).2.1) h.Larges ⟨(a8 h.Free (ky size:Nat)).2.1,(ky size:Nat),size⟩},16*(a8 h.Free (ky size:Nat)).2.1)
 else({h with Kernel:=d3 (iN h size).1 (a8 h.Free (ky size:Nat)).2.1 (iN h size).2},-1)
theorem wd(k:af)(p:Int)(i:Nat):cu k p (i+1)=if(cu k p i).2=i then((fC (cu k p i).1 (p+(i:Nat))).1,if(fC (cu k p i).1 (p+(i:Nat))).2=true then i+1 else i) else cu k p i:=rfl
theorem DO(k:af)(p:Int):∀i,(cu k p i).2<=i
 | 0=>X2 _
 | i+1=>by
  have b:=DO k p i;rw[wd];by_cases e:(cu k p i).2=i
  ·rw[C9 e]
   show(if _ then i+1 else i)<=i+1;by_cases a:(fC (cu k p i).1 (p+(i:Nat))).2=true
   ·rw[C9 a];exact X2 _
   ·rw[C8 a];exact Nat.le_succ _
  ·rw[C8 e];omega
theorem md{k:af}{p:Int}{i:Nat}(h:(cu k p i).2≠i):∀j,cu k p (i+j)=cu k p i/\(cu k p (i+j)).2<i+j
 | 0=>⟨rfl,by show(cu k p i).2<i;have:=DO k p i;omega⟩
 | j+1=>by
  have a:=md h j;have e:cu k p (i+(j+1))=cu k p (i+j):=by
   show cu k p (i+j+1)=_;rw[wd,C8 ω]
  exact⟨e.trans a.1,by rw[e];omega⟩
theorem yl(h:ab)(size:Int)(l:bn h [])(C:9<=size/\size<=1000)(V:h.Kernel.Calls<=90000):aQ Tryz.prog 235 false [.ptr (b6 h),.val none [I size]] [.ptr (b6 (Jn h size).1),.val none [I size]] .one [I (Jn h size).2]:=by
 have E:=l.lens;have W:=E.larges;have Q:=l;have F:dQ h<=32:=E.ents;have G:eJ size=((ky size:Nat):Int):=by unfold eJ ky;split<;>omega
 have hN:1<=ky size/\ky size<=63:=by unfold ky;omega
 have H:=kS size;rw[G]at H;have R:=gH h;have t:=nU (dQ h:Nat) h.Free (ky size:Nat) ⟨ω,ω⟩ l.rng ⟨ω,ω⟩ (by have:=E.free;omega);unfold PR at t;have b:=kK l (show(1:Int)<=(ky size:Nat) by omega);unfold Jn iN;generalize ky size=N at *;generalize a8 h.Free (N:Nat)=r at t b |-;obtain⟨J,p,ok⟩:=r;simp only at t b |-;refine fM 105 [(296,[2,0]),(297,[2,0]),(2000018,[0,7])] [(2,268,[16,17,18,19,20,21,22,23,15,24,25,26,0,1,2,3,4,5,6,7,8,9,10,11,12,1010,1011,13,1011,14])] [(0,0),(0,0)] Tryz.func235 rfl (λu q=>?_);cases ok with
 | false=>
  rw[C9 rfl]
  repeat'(first|refine gO ?_|(conv=>whnf);first|refine CA ?_|refine C7 (H) ?_|refine CD (R) ⟨bB h,trivial⟩ ?_|refine CD (t) ⟨⟨rfl,rfl⟩,⟨rfl,d8 h.Free⟩,⟨rfl,rfl⟩,trivial⟩ ?_|refine CA ?_)
  refine CF rfl rfl ?_;exact wC
 | true=>
  rw[C8 (by simp)];obtain⟨S,K,B,u4⟩:=b rfl;change p+(N:Nat)<=(h.Kernel.Machine.Table.Entries.length:Nat) at K;change ∀q:Nat,p<=q->(q:Int)<p+(N:Nat)->(nth h.Kernel.Machine.Table.Entries q).Mode=0 at B
  have X:h.Kernel.Machine.Table.Entries.length<=32:=F
  repeat'(first|refine gO ?_|(conv=>whnf);first|refine CA ?_|refine C7 (H) ?_|refine CD (R) ⟨bB h,trivial⟩ ?_|refine CD (t) ⟨⟨rfl,rfl⟩,⟨rfl,d8 h.Free⟩,⟨rfl,rfl⟩,trivial⟩ ?_|refine CA ?_)
  (conv=>whnf)
  refine CE (ι:=Nat) (λi=>[(0,.hold .box (b6 {h with Kernel:=(cu h.Kernel p i).1})),(1,.hold .one [I (size)]),(5,.hold .one [I ((N:Nat):Int)]),(6,.hold .one (b8 .own J)),(7,.hold .one [I (p)]),(9,.hold .one [I ((i:Nat):Int)])]) (λi=>i<=N/\(cu h.Kernel p i).2=i) (λi=>N - i) (0) ?_ (⟨T0 _,rfl⟩) λi l=>?_
  ·exact wC
  obtain⟨L,M⟩:=l;have s:=n7.of (p:=p) (n:=N) Q.ker ω ⟨S,K⟩ B i L;have Y:=s.calls;have Z:=s.len;by_cases li:i<N
  ·have O:(nth (cu h.Kernel p i).1.Machine.Table.Entries (p+(i:Nat)).toNat).Mode=0:=by
    rw[s.out _ (by rw[M];omega)];exact B _ ω ω
   have c:=B3 {h with Kernel:=(cu h.Kernel p i).1} (p+(i:Nat)) s.ker (by show(cu h.Kernel p i).1.Calls≠100000;omega) ⟨ω,by show p+(i:Nat)<((cu h.Kernel p i).1.Machine.Table.Entries.length:Nat);omega⟩ O;have a:cu h.Kernel p (i+1)=((fC (cu h.Kernel p i).1 (p+(i:Nat))).1,if(fC (cu h.Kernel p i).1 (p+(i:Nat))).2=true then i+1 else i):=by
    show(if(cu h.Kernel p i).2=i then _ else _)=_;rw[C9 M]
   simp only at c;cases e:(fC (cu h.Kernel p i).1 (p+(i:Nat))).2 with
   | true=>
    rw[e]at c a;rw[C9 rfl]at a;have P:(fC (cu h.Kernel p i).1 (p+(i:Nat))).1=(cu h.Kernel p (i+1)).1:=by rw[a]
    rw[P]at c
    repeat'(first|refine gD ?_|(conv=>whnf);first|refine CA ?_|refine CH (c) (.inl rfl) ?_)
    ((conv=>whnf);refine CC (i+1) ⟨ω,by rw[a]⟩ ω ?_;(exact wC))
   | false=>
    rw[e]at c a;rw[C8 (by simp)]at a;have d:=md (k:=h.Kernel) (p:=p) (i:=i+1) (by rw[a];simp only;omega) (N - (i+1));rw[show i+1+(N - (i+1))=N by omega]at d;rw[d.1]at d;have T:=n7.of (p:=p) (n:=N) Q.ker ω ⟨S,K⟩ B (i+1) ω;rw[C8 (by have:=md (k:=h.Kernel) (p:=p) (i:=i+1) (by rw[a];simp only;omega) (N - (i+1));rw[show i+1+(N - (i+1))=N by omega]at this;omega)];rw[show cu h.Kernel p N=cu h.Kernel p (i+1) by have:=md (k:=h.Kernel) (p:=p) (i:=i+1) (by rw[a];simp only;omega) (N - (i+1));rw[show i+1+(N - (i+1))=N by omega]at this;exact this.1];rw[a]at T |-;have g:=T.ker;simp only at g |-;generalize (fC (cu h.Kernel p i).1 (p+(i:Nat))).1=k at c g |-
    repeat'(first|refine gD ?_|(conv=>whnf);first|refine CA ?_|refine CH (c) (.inl rfl) ?_)
    (conv=>whnf)
    refine CE (ι:=Nat) (λj=>[(0,.hold .box (b6 {h with Kernel:=d3 k p j})),(1,.hold .one [I (size)]),(5,.hold .one [I ((N:Nat):Int)]),(7,.hold .one [I (p)]),(9,.hold .one [I ((i:Nat):Int)]),(10,.hold .one [I ((j:Nat):Int)])]) (λj=>j<=i) (λj=>i - j) (0) ?_ (T0 _) λj hj=>?_
    ·exact wC
    have c4:=mL {h with Kernel:=d3 k p j} (p+(j:Nat)) (jI g p j);by_cases lj:j<i
    ·repeat'(first|refine gD ?_|(conv=>whnf);first|refine CA ?_|refine CH (c4) (.inl rfl) ?_)
     ((conv=>whnf);refine CC (j+1) ω ω ?_;(exact wC))
    ·obtain rfl:j=i:=ω
     repeat'(first|refine gD ?_|(conv=>whnf);first|refine CA ?_)
     refine CF rfl rfl ?_;exact wC
  ·obtain rfl:i=N:=ω
   rw[C9 M];generalize (cu h.Kernel p i).1=k
   repeat'(first|refine gD ?_|(conv=>whnf);first|refine CA ?_)
   (conv=>whnf)
   refine CE (ι:=Nat) (λm=>[(0,.hold .box (b6 {h with Kernel:=k,Free:=J})),(1,.hold .one [I (size)]),(5,.hold .one [I ((i:Nat):Int)]),(7,.hold .one [I (p)]),(11,.hold .one [I ((m:Nat):Int)])]) (λm=>m<=h.Larges.length/\∀(j:Nat)(z:ax),j<m->h.Larges[j]? = some z->N5 p z=false) (λm=>h.Larges.length - m) (0) ?_ (⟨T0 _,λj z hj=>ω⟩) λm hm=>?_
   ·exact wC
   obtain⟨hm',U⟩:=hm;have hl2:({h with Kernel:=k,Free:=J} : ab).Larges.length=h.Larges.length:=rfl;by_cases go:m<h.Larges.length/\(nth h.Larges m).Page<p
   ·have o:=ah go.1
    repeat'(first|refine gD ?_|(conv=>whnf);first|with_reducible refine CB (aa o) ?_|refine CA ?_|refine CG rfl (aa o) rfl ?_)
    ((conv=>whnf);refine CC (m+1) ⟨ω,dl o (R0 ω) U⟩ ω ?_;(exact wC))
   ·have w:jC (N5 p) h.Larges=m:=uJ ω U λz C=>by
     have hlt:=(C2.1 C).1;have:z=nth h.Larges m:=(bu C).symm;subst this;exact O0 ω
    have o:m<h.Larges.length->h.Larges[m]? = some (nth h.Larges m):=λhh=>ah hh
    rw[uF w]
    repeat'(first|refine gD ?_|(conv=>whnf);first|with_reducible (first|refine CB (aa (o ω)) ?_|refine Bf.D (λhq=>?_) (λhq=>?_))|refine CA ?_|refine CG rfl (aa (o ω)) rfl ?_|refine Ft.mk rfl (sY h.Larges) rfl ?_|refine CT m rfl (by rw[X0];omega) (aK λ_=>rfl) X3 ?_|refine CU m rfl (by rw[X0];omega) (aK λ_=>rfl) Y3 ?_|refine CN (λ_=>rfl) (λ_=>rfl) (by rw[O1];omega) (by decide) ?_|refine Ap.sn (aK λ_=>rfl) rfl (by rw[X0,O1];omega) (by decide) rfl ?_|refine Ap.ins (e:=ax.enc .imm) (y:=⟨p,(i:Nat),size⟩) rfl (λ_=>rfl) (λ_=>rfl) ω (by decide) ?_)
    all_goals
     refine CF rfl ?_ ?_
     ·exact U0 (λz=>[I z]) ω
     ·exact wC
theorem Em{k:af}(h:aB k=true)(b:iK k.Refuse):af.wf k:=by
 obtain⟨p,f,g,q,t⟩:=aC.1 h;obtain⟨u,w,y,A⟩:=aY.1 f;obtain⟨i,B,C⟩:=bx.1 g;refine⟨⟨⟨⟨ω,λr b=>?_⟩,⟨ω,λ_ _=>trivial⟩⟩,⟨ω,λe l=>?_⟩⟩,⟨ω,ω⟩,b⟩
 ·obtain⟨j,c,rfl⟩:=bf b
  obtain⟨D,n⟩:=zU h c;exact⟨ω,λv o=>by have:=n v o;exact⟨ω,ω⟩⟩
 ·obtain⟨j,c,rfl⟩:=bf l
  have a:=i j c;unfold kb at a;rw[C0]at a;by_cases d:(nth k.Machine.Table.Entries j).Mode=0
  ·have:=a.2.2.1 d;exact⟨⟨ω,ω⟩,⟨ω,ω⟩⟩
  ·have:=a.2.2.2 d;exact⟨⟨ω,ω⟩,⟨ω,ω⟩⟩
theorem GC{p:co}(h:eG p=true):co.wf p:=by
 have a:=λi b=>lv h (i:=i) b
 have e:p.Cells.length<=16:=lE h;unfold eG at h;simp only[I0,C0]at h;exact⟨⟨ω,ω⟩,⟨ω,ω⟩,⟨ω,λv c=>by
   obtain⟨j,d,rfl⟩:=bf c;have:=a j d;exact⟨ω,ω⟩⟩⟩
theorem bn.jobWf{h:ab}{E:List Int}(a:bn h E):cn.wf h.Job/\cn.sml h.Job:=by
 cases b:h.Meshing with
 | true=>
  obtain⟨c,f,g,i,j⟩:=ek.1 (a.job b).1;have k:=lE c;exact⟨⟨GC c,⟨ω,ω⟩,⟨ω,ω⟩⟩,by show h.Job.Plan.Cells.length<=1048576;omega⟩
 | false=>
  have:=a.noj b;unfold qA at this;rw[C0]at this;obtain⟨l,n,e,o,p⟩:=this;refine⟨⟨⟨⟨ω,ω⟩,⟨ω,ω⟩,⟨ω,λv d=>?_⟩⟩,⟨ω,ω⟩,⟨ω,ω⟩⟩,by show h.Job.Plan.Cells.length<=1048576;omega⟩;rw[O6 e]at d;cases d
theorem uX{n:Int}(h:0<=aM n):1<=n/\n<=8:=by
 unfold aM at h
 repeat' split at h
 all_goals omega
theorem iX.wf{h:ab}{E:List Int}(b:bn h E){a c:Int}(d:iX h.Spans a c):lQ a:=by
 have:=d.bd b;exact⟨ω,ω⟩
theorem bn.wf{h:ab}{E:List Int}(d:bn h E)(M:iK h.Kernel.Refuse):ab.wf h:=by
 have q:=d.lens;have r:=d.L;have D:=d.nums;unfold cg at D;rw[C0]at D;obtain⟨X,N,Y⟩:=fp.1 d.rng;obtain⟨O,-,-,Z,q5,-⟩:=ix.1 d.quar;have w:=d.mail;have k:=d.hfl;unfold aN at k;rw[C9 w]at k;unfold bI at w;simp only[I0,C0,ch,gq,V3,ml,MM]at w;obtain⟨⟨⟨m1,m2,m3⟩,P⟩,m5⟩:=w;have A:=q.free;have Q:=q.spans;have h3:=q.larges;have h4:=q.objs;have h5:=q.caches;have h6:=q.quar;have t:∀n:Nat,br h.Mail n<=br h.Mail (n+1):=λn=>by simp only[br];omega
 have g:∀a b:Nat,a<=b->br h.Mail a<=br h.Mail b:=λa b u=>by
  induction u with
  | refl=>exact T4 _
  | step _ R=>exact R4 R (t _)
 have B:∀n:Nat,0<=br h.Mail n:=λn=>g 0 n (T0 _)
 have o:∀i,i<h.Mail.Buffers.length->(nth h.Mail.Buffers i).length<=30/\(nth h.Mail.Inbox i).length<=30:=λi f=>by
  have F:=g (i+1) h.Mail.Buffers.length ω;have S:=B i;simp only[br]at F;omega
 refine⟨Em d.ker M,⟨ω,λx e=>?_⟩,⟨ω,λx e=>?_⟩,⟨ω,λx e=>?_⟩,⟨ω,λx e=>?_⟩,⟨ω,λx e=>?_⟩,⟨⟨ω,λl c=>?_⟩,⟨ω,λl c=>?_⟩⟩,⟨⟨ω,ω⟩,⟨ω,λx e=>?_⟩⟩,⟨ω,ω⟩,⟨ω,ω⟩,⟨ω,ω⟩,⟨ω,ω⟩,trivial,d.jobWf.1⟩
 ·have:=N x e;exact⟨⟨ω,ω⟩,⟨ω,ω⟩⟩
 ·have y:=r.sok x e
  have G:=dU y;have T:=aF y;exact⟨⟨ω,ω⟩,⟨ω,ω⟩,⟨ω,ω⟩⟩
 ·have H:=aU (r.lok x e)
  have J:=cC (r.lok x e);exact⟨⟨ω,ω⟩,⟨ω,ω⟩,⟨ω,ω⟩⟩
 ·obtain⟨o1,o2,o3,o4⟩:=d.onu x e
  have u:0<=x.Addr/\x.Addr<512/\-1000<=x.Size/\x.Size<=1000:=by
   rcases d.oow x e with⟨s,y,A,Q⟩|⟨l,c,F,S⟩
   ·have T:=aF (r.sok s y)
    have:=uX (n:=x.Size) ω;exact⟨by have:=A.1;omega,by have:=A.2.1;omega,ω,ω⟩
   ·have H:=aU (r.lok l c)
    have J:=cC (r.lok l c);omega
  exact⟨⟨ω,ω⟩,⟨ω,ω⟩,⟨ω,ω⟩,⟨ω,ω⟩⟩
 ·obtain⟨c1,U⟩:=q.lists x e
  refine⟨ω,λl c=>⟨by have:=U l c;omega,λa C=>?_⟩⟩;obtain⟨j,V,rfl⟩:=bf c;exact iX.wf d (d.hca x e j V a C)
 ·obtain⟨i,f,rfl⟩:=bf c
  have G:=o i f;refine⟨ω,λp K=>?_⟩;have W:=(P i f).1 p K;exact⟨⟨ω,ω⟩,iX.wf d (k p.Addr (W2.2 (.inl (List.mem_flatMap.2 ⟨_,am f,Z3.2 ⟨p,K,rfl⟩⟩))))⟩
 ·obtain⟨i,f,rfl⟩:=bf c
  have G:=o i ω;exact⟨ω,λa C=>iX.wf d (k a (W2.2 (.inr (List.mem_flatten.2 ⟨_,am f,C⟩))))⟩
 ·have H:=O x e
  have J:=d.snc x e;exact⟨iX.wf d (d.hqu x e),⟨ω,ω⟩,⟨ω,ω⟩⟩
structure Q2(h:ab):Prop where
 ker:aB h.Kernel=true
 wf:ab.wf h
 sml:ab.sml h
 lens:M4 h
theorem bn.fit{h:ab}{E:List Int}(a:bn h E)(b:iK h.Kernel.Refuse)(c:aI.sml h.Mail):Q2 h:=⟨a.ker,a.wf b,a.lens.sml a.ker c a.jobWf.2,a.lens⟩
theorem uT{h:ab}(b:bn h [])(c:h.Meshing=true):aB (mStep h).Kernel=true/\(mStep h).Kernel.Calls<=h.Kernel.Calls+1/\(mStep h).Kernel.Refuse=h.Kernel.Refuse/\(mStep h).Mail=h.Mail/\(BQ h=true->(mStep h).Meshing=false)/\cn.wf (mStep h).Job/\cn.sml (mStep h).Job:=by
 have s:=JS.of b c;refine⟨s.ker,s.calls.2.1,s.calls.2.2,rfl,λa=>?_,?_⟩
 ·unfold BQ at a
  rw[C0]at a;show(if over _=true then false else h.Meshing)=false;rw[C9 (show over (iH h.Kernel h.Job).2=true from O0 (.inl a))]
 ·show cn.wf (if over _=true then _ else _)/\cn.sml (if over _=true then _ else _)
  split
  ·exact⟨⟨⟨⟨by decide,by decide⟩,⟨by decide,by decide⟩,⟨by decide,λv f=>by cases f⟩⟩,⟨by decide,by decide⟩,⟨by decide,by decide⟩⟩,by show(0:Nat)<=1048576;omega⟩
  ·have d:=(ek.1 (b.job c).1).1
   have g:=lE d;obtain⟨j,k⟩:=s.ph;obtain⟨l,i⟩:=s.nxt;have e:=s.plan;refine⟨⟨by rw[e];exact GC d,⟨ω,ω⟩,⟨ω,by rw[e]at i;omega⟩⟩,by show((iH h.Kernel h.Job).2.Plan.Cells).length<=1048576;rw[e];omega⟩
def um(h:ab):Nat->ab × Bool
 | 0=>(h,false)
 | i+1=>if(um h i).1.Meshing=true then(mStep (um h i).1,BQ (um h i).1) else um h i
def fin(h:ab):ab × Bool:=um h 100
theorem nM{h:ab}(hi:bn h []):bn (started h).1 []/\(started h).1.Kernel=h.Kernel/\(started h).1.Mail=h.Mail:=by
 have r:=hi.nums;unfold cg at r;rw[C0]at r;have t:=(lO (bN h).length (show 0<=h.Seed/\h.Seed<=1073741823 by omega) ((bN h).length - 1)).2;have g:=pH (bN h) (show 0<=h.Seed/\h.Seed<=1073741823 by omega);have c:cg {h with Seed:=(shuf (bN h).length h.Seed).2} = true:=by
  unfold cg;rw[C0];unfold shuf;simp only;omega
 cases j:lR (bN h) h.Seed with
 | nil=>
  have f:Ab.started h=({h with Seed:=(shuf (bN h).length h.Seed).2},false):=by unfold Ab.started;rw[j]
  rw[f];exact⟨{hi with nums:=c},rfl,rfl⟩
 | cons q y=>
  obtain⟨C,D,k⟩:=g q (by rw[j];exact R1 ..);have f:Ab.started h=({h with Seed:=(shuf (bN h).length h.Seed).2,Meshing:=true,Job:=vN (dB (nth (bN h) q.A.toNat) (nth (bN h) q.B.toNat))},true):=by unfold Ab.started;rw[j]
  rw[f];have d:∀s∈bN h,s∈h.Spans:=λs u=>ot h (X2 _) s (List.mem_of_mem_take u)
  have l:=d _ (am (xs:=bN h) (i:=q.A.toNat) ω);have n:=d _ (am (xs:=bN h) (i:=q.B.toNat) ω);generalize nth (bN h) q.A.toNat=a at k l |-;generalize nth (bN h) q.B.toNat=b at k n |-;obtain⟨w,E,F⟩:=sw k;have o:ja (vN (dB a b))=true:=ek.2 ⟨w,by show(0:Int)<=0;omega,by show(0:Int)<=5;omega,by show(0:Int)<=0;omega,by show(0:Int)<=(((dB a b).Cells.length:Nat):Int);omega⟩;have p:(∃s∈h.Spans,s.Page=(dB a b).Keep)/\∃s∈h.Spans,s.Page=(dB a b).Move:=by
   unfold dB;split
   ·exact⟨⟨b,n,rfl⟩,⟨a,l,rfl⟩⟩
   ·exact⟨⟨a,l,rfl⟩,⟨b,n,rfl⟩⟩
  exact⟨{hi with nums:=c,job:=λ_=>⟨o,p⟩,noj:=λe=>by cases e},rfl,rfl⟩
theorem bn.objSz{h:ab}{E:List Int}(a:bn h E):∀o∈h.Objs,0<=o.Size/\o.Size<=1000:=λx c=>by
 rcases a.oow x c with⟨s,d,e,f⟩|⟨l,b,g,i⟩
 ·have j:=aF (a.L.sok s d)
  have:=uX (n:=x.Size) ω;omega
 ·have k:=cC (a.L.lok l b)
  omega
theorem Hv{h:ab}(t:Int){size:Int}(c:bn h [])(d:9<=size/\size<=1000):mH h t size=if(Jn h size).2<0 then((Jn h size).1,-1,4) else(addO (Jn h size).1 (Jn h size).2 size t,(Jn h size).2,0):=by
 unfold mH Jn;by_cases a:(a8 h.Free (ky size:Nat)).2.2=false
 ·rw[C9 a,C9 a]
  exact(C9 (show(-1:Int)<0 by decide)).symm
 ·rw[C8 a,C8 a]
  obtain⟨e,-⟩:=kK c (show(1:Int)<=(ky size:Nat) by unfold ky;omega) (by simpa using a);by_cases b:(iN h size).2=ky size
  ·rw[C9 b,C9 b]
   exact(C8 (show ¬16*(a8 h.Free (ky size:Nat)).2.1<0 by omega)).symm
  ·rw[C8 b,C8 b]
   exact(C9 (show(-1:Int)<0 by decide)).symm
theorem xQ(h:ab)(t size:Int)(k:bn h []):aQ Tryz.prog 143 false [.ptr (b6 h),.val none [I t],.val none [I size]] [.ptr (b6 (eO h t size).1),.val none [I t],.val none [I size]] (.tup [none,none]) [I (eO h t size).2.1,I (eO h t size).2.2]:=by
 have X:=k.lens;have hlc:=X.caches;have P:=X.objs;have p:=k.nums;unfold cg at p;rw[C0]at p;have Q:=rW k.objSz h.Objs.length (X2 _);change 0<=vi h/\vi h<=_ at Q;have n:=aE t 0 ((h.Caches.length:Int) - 1);have r:=aE size 1 1000;have E:=vZ h k.objSz ω;have F:=jz size;refine fM 119 [(234,[2,0,0]),(235,[2,0])] [(7,10,[36,37,38,39,40,41,42,43,44,45]),(18,272,[81,82,83,84,85,86,87,89,90,91,92,93,94,95,96,97,0,1,2,3,4,5,6,8,9,10,11,12,13,14,15,16,1016,7,1008,1009,1010,1011,1012,1013,1014,1015,1016,17,18]),(1048594,0,[8])] [(0,0),(0,0),(0,0)] Tryz.func143 rfl (λu q=>?_) (.inr ⟨trivial,trivial,trivial⟩);unfold eO;by_cases h1:1000000<=h.Next
 ·rw[C9 (.inl h1)]
  repeat'(first|refine gD ?_|(conv=>whnf);first|refine CA ?_)
  refine CF rfl rfl ?_;exact wC
 by_cases h2:90000<h.Kernel.Calls
 ·rw[C9 (.inr h2)]
  repeat'(first|refine gD ?_|(conv=>whnf);first|with_reducible refine Bf.D (λb=>?_) (λb=>?_)|refine CA ?_)
  refine CF rfl rfl ?_;exact wC
 rw[C8 ω];by_cases C:¬(0<=t/\t<=h.Caches.length - 1)
 ·rw[C9 C]
  rw[R0 C]at n
  repeat'(first|refine gD ?_|(conv=>whnf);first|with_reducible refine Bf.D (λb=>?_) (λb=>?_)|refine CA ?_|refine C7 (n) ?_)
  refine CF rfl rfl ?_;exact wC
 rw[C8 C];replace C:=Decidable.not_not.1 C;rw[O0 C]at n;by_cases B:¬(1<=size/\size<=1000)
 ·rw[C9 B]
  rw[R0 B]at r
  repeat'(first|refine gD ?_|(conv=>whnf);first|with_reducible refine Bf.D (λb=>?_) (λb=>?_)|refine CA ?_|refine C7 (n) ?_|refine C7 (r) ?_)
  refine CF rfl rfl ?_;exact wC
 rw[C8 B];replace B:=Decidable.not_not.1 B;rw[O0 B]at r;by_cases Y:h.Limit<vi h+size
 ·rw[C9 Y]
  repeat'(first|refine gD ?_|(conv=>whnf);first|with_reducible refine Bf.D (λb=>?_) (λb=>?_)|refine CA ?_|refine C7 (n) ?_|refine C7 (r) ?_|refine CD (E) ⟨⟨rfl,bB h⟩,trivial⟩ ?_|refine CA ?_)
  refine CF rfl rfl ?_;exact wC
 rw[C8 Y];by_cases G:0<=aM size
 ·rw[C9 G]
  have hc3:aM size<=3:=by unfold aM;repeat' split<;>omega
  obtain⟨T,rfl⟩:=U2 C.1;obtain⟨K,hK⟩:=U2 G;have o:=xD h T K k ω ω ω;have s:=yA (t:=T) (c:=K) k ω ω ω;rw[hK]at F |-;simp only[R2];generalize eg h T K=w at o s |-;obtain⟨g,a⟩:=w;have H:g.Next=h.Next:=s.nx;simp only at o |-;by_cases J:a<0
  ·rw[C9 J]
   repeat'(first|refine gD ?_|(conv=>whnf);first|with_reducible refine Bf.D (λb=>?_) (λb=>?_)|refine CA ?_|refine C7 (n) ?_|refine C7 (r) ?_|refine CD (E) ⟨⟨rfl,bB h⟩,trivial⟩ ?_|refine CA ?_|refine C7 (F) ?_|refine CH (o) (.inl rfl) ?_)
   refine CF rfl rfl ?_;exact wC
  ·rw[C8 J]
   obtain⟨k1,k2⟩:=s.yes (show(0:Int)<=a by omega);have R:g.Objs.length<=512:=k1.lens.objs
   repeat'(first|refine gD ?_|(conv=>whnf);first|with_reducible refine Bf.D (λb=>?_) (λb=>?_)|refine CA ?_|refine C7 (n) ?_|refine C7 (r) ?_|refine CD (E) ⟨⟨rfl,bB h⟩,trivial⟩ ?_|refine CA ?_|refine C7 (F) ?_|refine CH (o) (.inl rfl) ?_)
   (conv=>whnf)
   refine CE (ι:=Nat) (λi=>[(0,.hold .box (b6 g)),(1,.hold .one [I ((T:Nat):Int)]),(2,.hold .one [I (size)]),(8,.hold .one [I (a)]),(9,.hold .one [I ((i:Nat):Int)])]) (λi=>i<=g.Objs.length/\∀(j:Nat)(z:bm),j<i->g.Objs[j]? = some z->LY a z=false) (λi=>g.Objs.length - i) (0) ?_ (⟨T0 _,λj z hj=>ω⟩) λi k=>?_
   ·exact wC
   obtain⟨S,L⟩:=k;by_cases U:i<g.Objs.length/\(nth g.Objs i).Addr<a
   ·have d:=ah U.1
    repeat'(first|refine gD ?_|(conv=>whnf);first|with_reducible refine CB (aa d) ?_|refine CA ?_|refine CG rfl (aa d) rfl ?_)
    ((conv=>whnf);refine CC (i+1) ⟨ω,dl d (R0 ω) L⟩ ω ?_;(exact wC))
   ·have l:jC (LY a) g.Objs=i:=uJ ω L λz M=>by
     have V:=(C2.1 M).1;have:z=nth g.Objs i:=(bu M).symm;subst this;exact O0 ω
    have d:i<g.Objs.length->g.Objs[i]? = some (nth g.Objs i):=λW=>ah W
    rw[show addO g a size (T:Nat) = {g with Objs:=g.Objs.take i++⟨g.Next,a,size,(T:Nat)⟩::g.Objs.drop i,Next:=g.Next+1} by unfold addO;rw[uF l]]
    repeat'(first|refine gD ?_|(conv=>whnf);first|with_reducible (first|refine CB (aa (d ω)) ?_|refine Bf.D (λb=>?_) (λb=>?_))|refine CA ?_|refine CG rfl (aa (d ω)) rfl ?_|refine Ft.mk rfl (u7 g.Objs) rfl ?_|refine CT i rfl (by rw[X0];omega) (aK λ_=>rfl) X3 ?_|refine CU i rfl (by rw[X0];omega) (aK λ_=>rfl) Y3 ?_|refine CN (λ_=>rfl) (λ_=>rfl) (by rw[O1];omega) (by decide) ?_|refine Ap.sn (aK λ_=>rfl) rfl (by rw[X0,O1];omega) (by decide) rfl ?_|refine Ap.ins (e:=bm.enc .imm) (y:=⟨g.Next,a,size,(T:Nat)⟩) rfl (λ_=>rfl) (λ_=>rfl) ω (by decide) ?_|refine CA ?_)
    all_goals
     refine CF rfl rfl ?_;exact wC
 ·rw[C8 G]
  have N:9<=size:=by unfold aM at G;repeat' split at G<;>omega
  have o:=yl h size k ⟨N,B.2⟩ ω;rw[Hv t k ⟨N,B.2⟩];have Z:(Jn h size).1.Next=h.Next/\(Jn h size).1.Objs=h.Objs:=by
   unfold Jn;split
   ·exact⟨rfl,rfl⟩
   ·split<;>exact⟨rfl,rfl⟩
  generalize Jn h size=w at o Z |-;obtain⟨g,a⟩:=w;obtain⟨H,O⟩:=Z;simp only at o H O |-;have R:g.Objs.length<=512:=by rw[O];exact P
  by_cases J:a<0
  ·rw[C9 J]
   repeat'(first|refine gD ?_|(conv=>whnf);first|with_reducible refine Bf.D (λb=>?_) (λb=>?_)|refine CA ?_|refine C7 (n) ?_|refine C7 (r) ?_|refine CD (E) ⟨⟨rfl,bB h⟩,trivial⟩ ?_|refine CA ?_|refine C7 (F) ?_|refine CH (o) (.inl rfl) ?_)
   refine CF rfl rfl ?_;exact wC
  ·rw[C8 J]
   repeat'(first|refine gD ?_|(conv=>whnf);first|with_reducible refine Bf.D (λb=>?_) (λb=>?_)|refine CA ?_|refine C7 (n) ?_|refine C7 (r) ?_|refine CD (E) ⟨⟨rfl,bB h⟩,trivial⟩ ?_|refine CA ?_|refine C7 (F) ?_|refine CH (o) (.inl rfl) ?_)
   (conv=>whnf)
   refine CE (ι:=Nat) (λi=>[(0,.hold .box (b6 g)),(1,.hold .one [I (t)]),(2,.hold .one [I (size)]),(8,.hold .one [I (a)]),(9,.hold .one [I ((i:Nat):Int)])]) (λi=>i<=g.Objs.length/\∀(j:Nat)(z:bm),j<i->g.Objs[j]? = some z->LY a z=false) (λi=>g.Objs.length - i) (0) ?_ (⟨T0 _,λj z hj=>ω⟩) λi k=>?_
   ·exact wC
   obtain⟨S,L⟩:=k;by_cases U:i<g.Objs.length/\(nth g.Objs i).Addr<a
   ·have d:=ah U.1
    repeat'(first|refine gD ?_|(conv=>whnf);first|with_reducible refine CB (aa d) ?_|refine CA ?_|refine CG rfl (aa d) rfl ?_)
    ((conv=>whnf);refine CC (i+1) ⟨ω,dl d (R0 ω) L⟩ ω ?_;(exact wC))
   ·have l:jC (LY a) g.Objs=i:=uJ ω L λz M=>by
     have V:=(C2.1 M).1;have:z=nth g.Objs i:=(bu M).symm;subst this;exact O0 ω
    have d:i<g.Objs.length->g.Objs[i]? = some (nth g.Objs i):=λW=>ah W
    rw[show addO g a size t = {g with Objs:=g.Objs.take i++⟨g.Next,a,size,t⟩::g.Objs.drop i,Next:=g.Next+1} by unfold addO;rw[uF l]]
    repeat'(first|refine gD ?_|(conv=>whnf);first|with_reducible (first|refine CB (aa (d ω)) ?_|refine Bf.D (λb=>?_) (λb=>?_))|refine CA ?_|refine CG rfl (aa (d ω)) rfl ?_|refine Ft.mk rfl (u7 g.Objs) rfl ?_|refine CT i rfl (by rw[X0];omega) (aK λ_=>rfl) X3 ?_|refine CU i rfl (by rw[X0];omega) (aK λ_=>rfl) Y3 ?_|refine CN (λ_=>rfl) (λ_=>rfl) (by rw[O1];omega) (by decide) ?_|refine Ap.sn (aK λ_=>rfl) rfl (by rw[X0,O1];omega) (by decide) rfl ?_|refine Ap.ins (e:=bm.enc .imm) (y:=⟨g.Next,a,size,t⟩) rfl (λ_=>rfl) (λ_=>rfl) ω (by decide) ?_|refine CA ?_)
    all_goals
     refine CF rfl rfl ?_;exact wC
theorem Fu(h:ab)(a n:Int)(t:h.Larges.length<=4096)(j:∀l∈h.Larges,bS l=true)(o:xI h a<0):aQ Tryz.prog 358 false [.ptr (b6 h),.val none [I a],.val none [I n]] [.ptr (b6 h),.val none [I a],.val none [I n]] .one [B false]:=by
 have b:∀l∈h.Larges,l.Page*16≠a:=λl c e=>by
  have:=BP (p:=GY a) c (O0 e);unfold xI at o;omega
 refine fM 136 [(297,[2,0])] [(8,6,[49,50,51,52,53,54]),(9,10,[56,57,58,59,60,61,62,63,64,65]),(20,270,[123,124,125,126,127,128,129,130,131,122,132,133,134,135,0,1,2,3,4,5,6,7,8,9,10,11,12,13,14,1011])] [(0,0),(0,0),(0,0)] Tryz.func358 rfl (λu q=>?_)
 repeat'(first|refine gO ?_|(conv=>whnf);first|refine CA ?_)
 (conv=>whnf)
 refine CE (ι:=Nat) (λk=>[(0,.hold .box (b6 h)),(1,.hold .one [I (a)]),(2,.hold .one [I (n)]),(7,.hold .one [I ((k:Nat):Int)])]) (λk=>k<=h.Larges.length) (λk=>h.Larges.length - k) (0) ?_ (T0 _) λk w=>?_
 ·repeat'(first|exact trivial|rfl |exact jT r|exact jT g|exact dc _|refine CI ?_ ?_|(exact xv (by first|omega|(simp only;omega)|(simp;omega))))
 by_cases d:k<h.Larges.length
 ·have i:=ah d
  have y:=b _ (am d);have C:=aU (j _ (am d))
  repeat'(first|refine gA ?_|(conv=>whnf);first|with_reducible refine CB (aa i) ?_|refine CA ?_|refine CG rfl (aa i) rfl ?_)
  ((conv=>whnf);refine CC (k+1) ω ω ?_;(exact wC))
 ·repeat'(first|refine gD ?_|(conv=>whnf);first|refine CA ?_)
  refine CF rfl rfl ?_;exact wC
theorem Pr(h:ab)(a:Int)(m:Nat):b6 {h with Kernel:=zK h.Kernel a (m+1)} = (b6 {h with Kernel:=zK h.Kernel a m}).set 0 (.s .own (((zK h.Kernel a m).Machine.Frames.Cells.map (aD .own)).set (ar (zK h.Kernel a m).Machine.Table ((a+m) / 16)).Frame.toNat ((aD .own (nth (zK h.Kernel a m).Machine.Frames.Cells (ed (zK h.Kernel a m) (a+m)))).set 0 (.s .own (((nth (zK h.Kernel a m).Machine.Frames.Cells (ed (zK h.Kernel a m) (a+m))).map (rI .own)).set ((a+m) % 16).toNat (splice (rI .own (nth (nth (zK h.Kernel a m).Machine.Frames.Cells (ed (zK h.Kernel a m) (a+m))) ((a+m) % 16).toNat)) 0 [I 0])))))):=
 GH {h with Kernel:=zK h.Kernel a m} (a+m) 0
def kQ(h:ab)(i k:Nat)(n:Int)(K:af):ab:={h with Kernel:=K,Larges:=h.Larges.set k (trimL (nth h.Larges k) n),Objs:=h.Objs.set i {nth h.Objs i with Size:=n}}
theorem HA(h:ab)(i k:Nat)(n:Int)(K:af):(kQ h i k n K).Objs.map (bm.enc .own)=(h.Objs.map (bm.enc .own)).set i (splice (bm.enc .own (nth h.Objs i)) 2 [I n]):=by
 simp[kQ,O5,bm.enc,splice]
theorem rj(h:ab)(i:Nat)(n:Int)(j:bn h [])(H:i<h.Objs.length)(hg:0<=xI h (nth h.Objs i).Addr):aQ Tryz.prog 358 false [.ptr (b6 h),.val none [I (nth h.Objs i).Addr],.val none [I n]] [.ptr (b6 (if kE h i n then trimH h i (xI h (nth h.Objs i).Addr).toNat n else h)),.val none [I (nth h.Objs i).Addr],.val none [I n]] .one [B (decide (kE h i n))]:=by
 have c:=j.lens;have hnl:=c.larges;have hno:=c.objs;have hpg:dQ h<=32:=c.ents;obtain⟨f1,f2,f3⟩:=fZ (GY (nth h.Objs i).Addr) h.Larges hg;obtain⟨g,o⟩:=U2 hg;have b:g<h.Larges.length:=by unfold xI at o;omega
 have Y:(nth h.Larges g).Page*16=(nth h.Objs i).Addr:=by
  have:=of_decide_eq_true f2;rw[show(de (GY (nth h.Objs i).Addr) h.Larges).toNat=g by unfold xI at o;omega]at this;exact this
 have J:∀k,k<g->(nth h.Larges k).Page*16≠(nth h.Objs i).Addr:=λk hk e=>by
  have N:k<h.Larges.length:=ω
  have hok1:=aU (j.L.lok _ (am N));have hok2:=aU (j.L.lok _ (am b));have:=j.L.one k g N b 0 0 ω ω ω;omega
 have p:kE h i n↔9<=n/\n<=(nth h.Larges g).Size:=by
  unfold kE;rw[o,R2];exact⟨λx=>x.2,λx=>⟨ω,x⟩⟩
 rw[o,R2];have hbd:=pL j (am H);obtain⟨-,Z,w⟩:=j.objAt (am H);have hii:eX h (nth h.Objs i).Addr=i:=by
  have h2:=(j.objAt (am H)).1;exact gp (f:=(·.Addr)) (gj j.osr) h2 H (by rw[Z])
 rw[hii]at w;have E:=ah H;have hxg:=ah b;have V:=wa (nth h.Larges g) n (j.L.lok _ (am b));have h8:=j.L.lok _ (am b);unfold bS at h8;rw[C0]at h8;refine fM 136 [(297,[2,0])] [(8,6,[49,50,51,52,53,54]),(9,10,[56,57,58,59,60,61,62,63,64,65]),(20,270,[123,124,125,126,127,128,129,130,131,122,132,133,134,135,0,1,2,3,4,5,6,7,8,9,10,11,12,13,14,1011])] [(0,0),(0,0),(0,0)] Tryz.func358 rfl (λu q=>?_)
 repeat'(first|refine gO ?_|(conv=>whnf);first|refine CA ?_)
 (conv=>whnf)
 refine CE (ι:=Nat) (λk=>[(0,.hold .box (b6 h)),(1,.hold .one [I ((nth h.Objs i).Addr)]),(2,.hold .one [I (n)]),(7,.hold .one [I ((k:Nat):Int)])]) (λk=>k<=g) (λk=>g - k) (0) ?_ (T0 _) λk hk=>?_
 ·repeat'(first|exact trivial|rfl |exact jT r|exact jT d|exact dc _|refine CI ?_ ?_|(exact xv (by first|omega|(simp only;omega)|(simp;omega))))
 have l:=ah (xs:=h.Larges) (i:=k) ω;have hfk:=aU (j.L.lok _ (am (xs:=h.Larges) (i:=k) ω));by_cases e:k=g;rotate_left
 ·have hne:=J k ω
  repeat'(first|refine gA ?_|(conv=>whnf);first|with_reducible refine CB (aa l) ?_|refine CA ?_|refine CG rfl (aa l) rfl ?_)
  ((conv=>whnf);refine CC (k+1) ω ω ?_;(exact wC))
 subst e;by_cases F:9<=n/\n<=(nth h.Larges k).Size;rotate_left
 ·rw[C8 (by rw[p];exact F),R0 (by rw[p];exact F)]
  rw[C8 F]at V
  repeat'(first|refine gA ?_|(conv=>whnf);first|with_reducible refine CB (aa l) ?_|refine CA ?_|refine CG rfl (aa l) rfl ?_|refine C7 (V) ?_)
  refine CF rfl rfl ?_;exact wC
 rw[C9 (by rw[p];exact F),O0 (by rw[p];exact F)];rw[C9 F]at V;have y:=λm hm=>BV j b F (m:=m) hm
 have D:=λm=>(ql h.Kernel (16*(nth h.Larges k).Page+n) m).1
 have O:=λa W=>nw j b (a:=a) W
 have hsz:n<=16*(nth h.Larges k).Pages:=ω
 generalize hM:(16*((n+15) / 16) - n).toNat=M at *;have hfl:∀m,(zK h.Kernel (16*(nth h.Larges k).Page+n) m).Machine.Frames.Cells.length=h.Kernel.Machine.Frames.Cells.length:=λm=>by
  induction m with
  | zero=>rfl
  | succ m ih=>show(List.set _ _ _).length=_;rw[I1];exact ih
 have cO:=qm {h with Larges:=h.Larges.set k (trimL (nth h.Larges k) n)} (nth h.Objs i).Addr (by show h.Objs.length<=_;omega);change ao _ _ _ [.val (some 24) (ab.enc .imm {h with Larges:=h.Larges.set k (trimL (nth h.Larges k) n)}),_] _ [I (de (gR (nth h.Objs i).Addr) h.Objs)]at cO;rw[w]at cO;have Q:=bB {h with Larges:=h.Larges.set k (trimL (nth h.Larges k) n)};have heL:b6 {h with Larges:=h.Larges.set k (trimL (nth h.Larges k) n)} = (b6 h).set 7 (.s .own ((h.Larges.map (ax.enc .own)).set k (ax.enc .own (trimL (nth h.Larges k) n)))):=by simp[b6,O5]
 rw[heL]at Q
 repeat'(first|refine gA ?_|(conv=>whnf);first|with_reducible (first|refine CB (aa l) ?_|refine CB (aa E) ?_)|refine CA ?_|refine CG rfl (aa l) rfl ?_|refine C7 (V) ?_|refine CM rfl rfl (aa l) rfl (Z0 rfl) rfl ?_|refine CD (cO) ⟨⟨rfl,Q⟩,⟨rfl,rfl⟩,trivial⟩ ?_|refine CM rfl rfl (aa E) rfl (Z0 rfl) rfl ?_|refine CG rfl (aa E) rfl ?_|refine CA ?_)
 rw[<-Y];have e0:kQ h i k n h.Kernel=kQ h i k n (zK h.Kernel (16*(nth h.Larges k).Page+n) 0):=rfl;have r:C.s .own ((kQ h i k n (zK h.Kernel (16*(nth h.Larges k).Page+n) 0)).Larges.map (ax.enc .own))=C.s .own ((h.Larges.map (ax.enc .own)).set k (ax.enc .own (trimL (nth h.Larges k) n))):=by simp[kQ,O5]
 have d:C.s .own ((kQ h i k n (zK h.Kernel (16*(nth h.Larges k).Page+n) 0)).Objs.map (bm.enc .own))=C.s .own ((h.Objs.map (bm.enc .own)).set i (splice (bm.enc .own (nth h.Objs i)) 2 [I n])):=U0 _ (HA h i k n _)
 (conv=>whnf)
 refine CE (ι:=Nat) (λm=>[(0,.hold .box (b6 (kQ h i k n (zK h.Kernel (16*(nth h.Larges k).Page+n) m)))),(1,.hold .one [I (((nth h.Larges k).Page*16))]),(8,.hold .box (ax.enc .own (trimL (nth h.Larges k) n))),(9,.hold .box (ay.enc .own (wc (nth h.Larges k) n))),(11,.hold .one [I (((16*(nth h.Larges k).Page+n)+(m:Nat)))])]) (λm=>m<=M) (λm=>M - m) (0) ?_ (T0 _) λm hm=>?_
 ·repeat'(first|exact trivial|rfl |exact jT r|exact jT d|exact dc _|refine CI ?_ ?_|(exact xv (by first|omega|(simp only;omega)|(simp;omega))))
 have hmod:IntKind.i64.wrap 0=0:=rfl;by_cases lm:m<M
 ·have W:0<=(16*(nth h.Larges k).Page+n)+(m:Nat)/\(16*(nth h.Larges k).Page+n)+(m:Nat)<512:=ω
  have R:=O ((16*(nth h.Larges k).Page+n)+(m:Nat)) ω;have t:=y m hm;rw[<-D m]at R;have hks:=bt t;have c2:=cT (zK h.Kernel (16*(nth h.Larges k).Page+n) m).Machine.Table (((16*(nth h.Larges k).Page+n)+(m:Nat)) / 16) hks.1.2;obtain⟨-,-,-,q0,q1⟩:=cm t R;have hul:=(aY.1 (aC.1 t).2.1).2.2.1;have S:ed (zK h.Kernel (16*(nth h.Larges k).Page+n) m) ((16*(nth h.Larges k).Page+n)+(m:Nat))<(zK h.Kernel (16*(nth h.Larges k).Page+n) m).Machine.Frames.Cells.length:=by unfold ed;omega
  have G:(zK h.Kernel (16*(nth h.Larges k).Page+n) m).Machine.Frames.Cells[(ar (zK h.Kernel (16*(nth h.Larges k).Page+n) m).Machine.Table (((16*(nth h.Larges k).Page+n)+(m:Nat)) / 16)).Frame.toNat]? = some _:=ah S;have h16:=(zU t S).1;have T:=ah (xs:=nth (zK h.Kernel (16*(nth h.Larges k).Page+n) m).Machine.Frames.Cells (ed (zK h.Kernel (16*(nth h.Larges k).Page+n) m) ((16*(nth h.Larges k).Page+n)+(m:Nat)))) (i:=(((16*(nth h.Larges k).Page+n)+(m:Nat)) % 16).toNat) (by rw[h16];omega);have htm:((16*(nth h.Larges k).Page+n)+(m:Nat)).tmod 16=((16*(nth h.Larges k).Page+n)+(m:Nat)) % 16:=eS W.1;have hpu:=Pr (kQ h i k n h.Kernel) (16*(nth h.Larges k).Page+n) m;have hwr:=lM W;have hst:(trimL (nth h.Larges k) n).Pages=(n+15) / 16:=rfl
  repeat'(first|refine gD ?_|(conv=>whnf);first|refine CA ?_|refine CL (by decide) ?_|refine CJ hwr ?_|refine CR htm ?_|refine CD (c2) ⟨⟨rfl,CV _⟩,⟨rfl,rfl⟩,trivial⟩ ?_|refine CK q0 (aa G) ?_|refine CG rfl (aa G) rfl ?_|refine CK ω (aa T) ?_|refine Pu.two rfl rfl (aa G) rfl rfl rfl (aa T) rfl (X2 _) hpu ?_)
  ((conv=>whnf);refine CC (m+1) ω ω ?_;(exact wC))
 obtain rfl:m=M:=ω
 have hst:(trimL (nth h.Larges k) n).Pages=(n+15) / 16:=rfl;have hkM:=y m (X2 _);have U:(zK h.Kernel (16*(nth h.Larges k).Page+n) m).Machine.Table.Entries.length=dQ h:=by rw[D];rfl
 have hTK:tP h k n=zK h.Kernel (16*(nth h.Larges k).Page+n) m:=by unfold tP;rw[hM]
 unfold trimH Gz;rw[hTK];generalize zK h.Kernel (16*(nth h.Larges k).Page+n) m=K at *;have hN:((dG (nth h.Larges k) n:Nat):Int)=(nth h.Larges k).Pages - (n+15) / 16:=by unfold dG;omega
 have hrA:0<dG (nth h.Larges k) n->wc (nth h.Larges k) n = ⟨(nth h.Larges k).Page+(n+15) / 16,(dG (nth h.Larges k) n:Nat)⟩:=λhp=>by unfold wc;rw[C9 ω,hN]
 have hrB:¬0<dG (nth h.Larges k) n->wc (nth h.Larges k) n = ⟨0,0⟩:=λhp=>by unfold wc;rw[C8 ω]
 generalize dG (nth h.Larges k) n=P at *;by_cases X:0<P
 ·rw[C9 X]
  have hr:=hrA X;rw[hr]
  repeat'(first|refine gD ?_|(conv=>whnf);first|refine CA ?_)
  (conv=>whnf)
  refine CE (ι:=Nat) (λx=>[(0,.hold .box (b6 (kQ h i k n (d3 K ((nth h.Larges k).Page+(n+15) / 16) x)))),(9,.hold .box ([I ((nth h.Larges k).Page+(n+15) / 16),I (P:Nat)])),(13,.hold .one [I (((nth h.Larges k).Page+(n+15) / 16+(x:Nat)))])]) (λx=>x<=P) (λx=>P - x) (0) ?_ (T0 _) λx l=>?_
  ·repeat'(first|exact trivial|rfl |exact jT r|exact jT d|exact dc _|refine CI ?_ ?_|(exact xv (by first|omega|(simp only;omega)|(simp;omega))))
  by_cases lx:x<P
  ·have c3:=mL (kQ h i k n (d3 K ((nth h.Larges k).Page+(n+15) / 16) x)) ((nth h.Larges k).Page+(n+15) / 16+(x:Nat)) (jI hkM _ _)
   repeat'(first|refine gD ?_|(conv=>whnf);first|refine CA ?_|refine CH (c3) (.inl rfl) ?_)
   ((conv=>whnf);refine CC (x+1) ω ω ?_;(exact wC))
  ·obtain rfl:x=P:=ω
   have c4:=gH (kQ h i k n (d3 K ((nth h.Larges k).Page+(n+15) / 16) x));rw[show dQ (kQ h i k n (d3 K ((nth h.Larges k).Page+(n+15) / 16) x))=dQ h from(gx _ _ _).1.trans U]at c4;have c5:=lf (dQ h:Nat) h.Free ⟨(nth h.Larges k).Page+(n+15) / 16,(x:Nat)⟩ ⟨ω,ω⟩ ⟨by have:=c.free;omega,λ_ _=>trivial⟩
   repeat'(first|refine gD ?_|(conv=>whnf);first|refine CA ?_|refine CD (c4) ⟨bB _,trivial⟩ ?_|refine CD (c5) ⟨⟨rfl,rfl⟩,⟨rfl,d8 h.Free⟩,⟨rfl,rfl⟩,trivial⟩ ?_|refine CA ?_)
   refine CF rfl rfl ?_;exact wC
 ·rw[C8 X]
  obtain rfl:P=0:=ω
  have hr:=hrB X;rw[hr]
  repeat'(first|refine gD ?_|(conv=>whnf);first|refine CA ?_)
  (conv=>whnf)
  refine CE (ι:=Nat) (λx=>[(0,.hold .box (b6 (kQ h i k n K))),(9,.hold .box ([I 0,I 0])),(13,.hold .one [I (0)])]) (λx=>x=0) (λx=>0) (0) ?_ (rfl) λx l=>?_
  ·repeat'(first|exact trivial|rfl |exact jT r|exact jT d|exact dc _|refine CI ?_ ?_|(exact xv (by first|omega|(simp only;omega)|(simp;omega))))
  subst l
  repeat'(first|refine gD ?_|(conv=>whnf);first|refine CA ?_)
  refine CF rfl rfl ?_;exact wC
theorem Dz{α:Type}(a:α)(k:Nat):List.replicate (k+1) a=List.replicate k a++[a]:=List.replicate_succ' ..
theorem EX(n k:Nat):aZ.enc .own ⟨List.replicate k (List.replicate 16 0),List.replicate n false⟩ = [.s .own (List.replicate k [.s .own (List.replicate 16 [I 0])]),.s .own (List.replicate n [B false])]:=by
 simp[aZ.enc,aD,rI,rB,List.map_replicate]
theorem GS(n:Nat):Kf [.s .own (List.replicate n [.z]),.s .own (List.replicate n [.z]),B true] (aI.enc .own (dA n)++[B true]):=by
 have e:aI.enc .own (dA n)++[B true]=[.s .own (List.replicate n [.s .own []]),.s .own (List.replicate n [.s .own []]),B true]:=by simp[aI.enc,dA,cz,aD,List.map_replicate]
 rw[e];exact .cons (.rep (.cons .z_ .nil)) (.cons (.rep (.cons .z_ .nil)) (.cons (.rfl_ _) .nil))
theorem Mi(n:Nat)(b:1<=n/\n<=4):ao Tryz.prog 94 false [.val none [I (n:Nat)]] (.tup [some 2,none]) (aI.enc .own (dA n)++[B true]):=by
 have a:=aO ((n:Nat):Int) 1 4;rw[O0 ω]at a;refine fO 13 [(3,4,[8,9,10,11])] Tryz.func94 rfl ?_ (.inr (aP (aI.enc_fr _) ⟨trivial,trivial⟩))
 repeat'((conv=>whnf);first|with_reducible (first|refine Lm ?_|refine Wm ω ?_|refine Bn ?_|refine jn.dk rfl ?_)|refine Bt ?_|refine Bu ?_|refine CA ?_|refine C7 (a) ?_|refine Mk.mk n rfl rfl ω (wi ω (by decide)) rfl ?_)
 exact GS n
theorem zO(n:Nat)(b:1<=n/\n<=4):ao Tryz.prog 351 false [.val none [I (n:Nat)]] (.tup [some 2,none]) (aI.enc .own (dA n)++[B true]):=by
 have a:=aE ((n:Nat):Int) 1 4;rw[O0 ω]at a;refine fO 13 [(3,4,[8,9,10,11])] Tryz.func351 rfl ?_ (.inr (aP (aI.enc_fr _) ⟨trivial,trivial⟩))
 repeat'((conv=>whnf);first|with_reducible (first|refine Lm ?_|refine Wm ω ?_|refine Bn ?_|refine jn.dk rfl ?_)|refine Bt ?_|refine Bu ?_|refine CA ?_|refine C7 (a) ?_|refine Mk.mk n rfl rfl ω (wi ω (by decide)) rfl ?_)
 exact GS n
theorem JE:Kf [.s .own (List.replicate 4 [.z])] (aA.enc .own eM):=.cons (.rep (.cons .z_ .nil)) .nil
theorem x6:ao Tryz.prog 352 false [] .agg (aA.enc .own eM):=by
 refine fO 3 [] Tryz.func352 rfl ?_ (.inr (aA.enc_fr _))
 repeat'((conv=>whnf);first|with_reducible (first|refine Lm ?_|refine Wm ω ?_|refine Bn ?_|refine jn.dk rfl ?_)|refine Bt ?_|refine Bu ?_|refine CA ?_|refine Mk.mk 4 rfl rfl (by decide) (by decide) rfl ?_)
 exact JE
theorem rm:ao Tryz.prog 353 false [.val none [I 16]] (.tup [some 2,none]) (bz.enc .own ⟨16,[]⟩++[B true]):=by
 refine fO 10 [] Tryz.func353 rfl ?_ (.inr (aP (bz.enc_fr _) ⟨trivial,trivial⟩))
 repeat'((conv=>whnf);first|with_reducible (first|refine Lm ?_|refine Wm ω ?_|refine Bn ?_|refine jn.wk rfl ?_)|refine Bt ?_|refine Bu ?_|refine CA ?_|refine C7 (aE 16 0 500) ?_)
 exact⟨rfl,rfl,rfl,trivial⟩
def caps(h:ab)(k:Nat):ab:={h with Caches:=List.replicate k eM}
theorem H3(k:Nat):(List.replicate (k+1) eM).map (aA.enc .own)=(List.replicate k eM).map (aA.enc .own)++[aA.enc .own eM]:=by rw[Dz,v5];rfl
theorem KT{k:Nat} : ∀r∈(List.replicate k eM).map (aA.enc .own),r.length=1:=aK λ_=>rfl
theorem MV(x:List bJ):fz (.s .own (x.map (bJ.enc .own)))=.s .imm (x.map (bJ.enc .imm)):=(List.cons.inj (List.cons.inj (CY ⟨0,x⟩)).2).1
theorem eH:∀a b:List C,d9 (a++b)=d9 a++d9 b
 | [],_=>rfl
 | x::xs,b=>by show fz x::d9 (xs++b)=fz x::(d9 xs++d9 b);rw[eH xs b]
theorem dK(r:a7)(c:a7.sml r):ao Tryz.prog 309 false [.val (some 2) (a7.enc .imm r)] .agg (a7.enc .own r):=by
 have e:r.Objs.length<=1048576:=c.1;refine fO 36 [(5,272,[15,16,17,18,19,20,21,22,23,24,25,26,27,28,29,34,0,1,2,3,4,5,6,7,8,9,10,11,12,13,14,15,1000,1001,1002,1003,1004,1005,1006,1007,16,1000,1001,17,1000,1001,18,19,20])] Tryz.func309 rfl ?_ (.inr (a7.enc_fr _))
 repeat'(first|refine gO ?_|(conv=>whnf);first|refine CA ?_)
 (conv=>whnf)
 refine CE (ι:=Nat) (λi=>[(1,.hold .box (a7.enc .imm r)),(2,.hold .box [I 0,.z]),(3,.hold .box [I r.Next,.s .own ((r.Objs.take i).map (bJ.enc .own))]),(4,.hold .one [I ((i:Nat):Int)])]) (λi=>i<=r.Objs.length) (λi=>r.Objs.length - i) (0) ?_ (T0 _) λi g=>?_
 ·exact wC
 by_cases b:i<r.Objs.length
 ·have d:=ah b
  have a:(nth r.Objs i).Cells.length<=1048576:=c.2 _ (am b)
  repeat'(first|refine gD ?_|(conv=>whnf);first|with_reducible refine CB (aa d) ?_|refine CA ?_|refine CG rfl (aa d) rfl ?_|refine CS (λ_=>rfl) (λ_=>rfl) a (by decide) ?_|refine CN (λ_=>rfl) (λ_=>rfl) a (by decide) ?_|refine CA ?_|refine Ap.sn (aK λ_=>rfl) rfl (by simp;omega) (by decide) (eP b) ?_)
  ((conv=>whnf);refine CC (i+1) ω ω ?_;(exact wC))
 ·repeat'(first|refine gD ?_|(conv=>whnf);first|refine CA ?_)
  obtain rfl:i=r.Objs.length:=ω
  rw[V4]
  rfl
theorem gP(r:a7)(id:Int)(g:r.Objs.length<=1048576):ao Tryz.prog 385 false [.val (some 2) (a7.enc .imm r),.val none [I id]] .one [I (nk r id)]:=by
 refine fO 22 [] Tryz.func385 rfl ?_
 repeat'(first|refine gO ?_|(conv=>whnf);first|refine CA ?_)
 (conv=>whnf)
 refine CE (ι:=Nat) (λi=>[(1,.hold .one [I (id)]),(2,.hold .box (a7.enc .imm r)),(5,.hold .one [I ((i:Nat):Int)])]) (λi=>i<=r.Objs.length/\∀(j:Nat)(z:bJ),j<i->r.Objs[j]? = some z->mq id z=false) (λi=>r.Objs.length - i) (0) ?_ (⟨T0 _,λj z h=>ω⟩) λi c=>?_
 ·exact wC
 obtain⟨c,b⟩:=c;by_cases d:i<r.Objs.length
 ·have a:=ah d
  by_cases e:(nth r.Objs i).Id=id
  ·repeat'(first|refine gA ?_|(conv=>whnf);first|with_reducible refine CB (aa a) ?_|refine CA ?_|refine CG rfl (aa a) rfl ?_)
   exact U0 (λz=>[I z]) (dM a (O0 e) b).symm
  ·repeat'(first|refine gA ?_|(conv=>whnf);first|with_reducible refine CB (aa a) ?_|refine CA ?_|refine CG rfl (aa a) rfl ?_)
   ((conv=>whnf);refine CC (i+1) ⟨ω,dl a (R0 e) b⟩ ω ?_;(exact wC))
 ·repeat'(first|refine gD ?_|(conv=>whnf);first|refine CA ?_)
  exact U0 (λz=>[I z]) (fX ω b).symm
theorem mE(r:a7)(c:C)(h:NU c):gw (a7.enc .own r++[c]):=aP (a7.enc_fr _) ⟨h,trivial⟩
theorem xM(r:a7)(n:Int)(m:Nat)(b:qI r m)(h:m<=1000)(c:1<=n/\n<=1000):ao Tryz.prog 301 false [.val (some 2) (a7.enc .imm r),.val none [I n]] (.tup [some 2,none]) (a7.enc .imm (ko r n)++[I r.Next]):=by
 have i:=b.sml h;have d:=b.len;have j:=b.nx;have k:=dK r i;have e:=aE n 1 1000;rw[O0 c]at e;have key:ao Tryz.prog 301 false [.val (some 2) (a7.enc .imm r),.val none [I n]] (.tup [some 2,none]) (a7.enc .own (ko r n)++[I r.Next]):=by
  have a:=mE (ko r n) (I r.Next) trivial;unfold ko at a |-;rw[C9 c]at a |-;have l:a7.enc .own {r with Next:=r.Next+1,Objs:=r.Objs++[⟨r.Next,List.replicate n.toNat 0⟩]} = [I (r.Next+1),.s .own (r.Objs.map (bJ.enc .own)++[[I r.Next,.s .own (List.replicate n.toNat [I 0])]])]:=by
   simp[a7.enc,bJ.enc,rI]
  rw[l]at a |-;refine fO 30 [(4,263,[13,14,15,16,17,18,22,0,1,2,3,4,5,6,1000,1001,7,1000,1001,8,9,10]),(6,259,[27,28,29,0,1,2,3,1001,1002,4])] Tryz.func301 rfl ?_ (.inr a)
  repeat'(first|refine gO ?_|(conv=>whnf);first|refine CA ?_|refine C7 (k) ?_|refine C7 (e) ?_|refine Mk.mk n.toNat ω ω ω (wi ω (by decide)) rfl ?_|refine CA ?_|refine Ap.sn (aK λ_=>rfl) rfl (by simp;omega) (by decide) rfl ?_)
  (conv=>whnf)
  rfl
 have g:=key.fzR;rw[eH,CY]at g;exact g
theorem AZ(r:a7)(id:Int)(m:Nat)(d:qI r m)(k:m<=1000):ao Tryz.prog 355 true [.val (some 2) (a7.enc .imm r),.val none [I id]] (.tup [some 2,none]) (a7.enc .imm (kz r id)++[B (!decide (nk r id<0))]):=by
 have g:=d.sml k;have h:=d.len;have i:=dK r g;have b:=gP r id g.1;by_cases e:nk r id<0
 ·have key:ao Tryz.prog 355 true [.val (some 2) (a7.enc .imm r),.val none [I id]] (.tup [some 2,none]) (a7.enc .own r++[B false]):=by
   refine fO 30 [(5,267,[16,17,18,19,20,22,23,24,25,26,28,0,1,2,3,4,6,7,8,9,10,5,1006,1007,1008,1009,1010,11,12,13]),(1048581,6,[1])] Tryz.func355 rfl ?_ (.inl rfl)
   repeat'(first|refine gD ?_|(conv=>whnf);first|refine CA ?_|refine C7 (i) ?_|refine C7 (b) ?_)
   rfl
  have a:=key.fzR;rw[eH,CY]at a;unfold kz;rw[C9 e,O0 e];exact a
 ·have n:kz r id = {r with Objs:=dele r.Objs (nk r id).toNat}:=by unfold kz;rw[C8 e]
  obtain⟨t,u,w⟩:=fZ (mq id) r.Objs (by unfold nk at e;omega);obtain⟨j,c⟩:=U2 (show 0<=nk r id by omega);have o:j<r.Objs.length:=by unfold nk at c;omega
  have key:ao Tryz.prog 355 true [.val (some 2) (a7.enc .imm r),.val none [I id]] (.tup [some 2,none]) ([I r.Next,.s .own ((dele r.Objs j).map (bJ.enc .imm))]++[B true]):=by
   rw[c]at b;refine fO 30 [(5,267,[16,17,18,19,20,22,23,24,25,26,28,0,1,2,3,4,6,7,8,9,10,5,1006,1007,1008,1009,1010,11,12,13]),(1048581,6,[1])] Tryz.func355 rfl ?_ (.inl rfl)
   repeat'(first|refine gD ?_|(conv=>whnf);first|refine CA ?_|refine C7 (i) ?_|refine C7 (b) ?_|refine Ft.mk rfl (MV r.Objs) rfl ?_|refine CT j rfl (by rw[X0];omega) (aK λ_=>rfl) X3 ?_|refine CU (j+1) ω (by rw[X0];omega) (aK λ_=>rfl) Y3 ?_|refine CN (λ_=>rfl) (λ_=>rfl) (by rw[O1];omega) (by decide) ?_|refine CS (λ_=>rfl) (λ_=>rfl) (by rw[O1];omega) (by decide) ?_|refine Ap.dele (λ_=>rfl) (λ_=>rfl) ω (by decide) ?_|refine CA ?_)
   rfl
  have a:=key.fzR;have p:d9 ([I r.Next,.s .own ((dele r.Objs j).map (bJ.enc .imm))]++[B true])=a7.enc .imm (kz r id)++[B (!decide (nk r id<0))]:=by
   have:∀l:List bJ,fzR (l.map (bJ.enc .imm))=l.map (bJ.enc .imm):=λl=>by
    induction l with
    | nil=>rfl
    | cons x xs q=>rw[C5,fzR,q,<-bJ.enc_fz,qt]
   rw[n,c,R0 ω];simp[d9,fz,a7.enc,this]
  rw[p]at a;exact a
theorem xW(r:a7)(id a v:Int)(m:Nat)(o:qI r m)(D:m<=1000)(h:0<=nk r id)(c:0<=a/\a<=(nth r.Objs (nk r id).toNat).Cells.length - 1)(p:0<=v/\v<=999):ao Tryz.prog 357 false [.val (some 2) (a7.enc .imm r),.val none [I id],.val none [I a],.val none [I v]] (.tup [some 2,none]) (a7.enc .imm (eN r id a v)++[B true]):=by
 have k:=o.sml D;have q:=o.len;have E:=dK r k;have t:=gP r id k.1;obtain⟨J,K,L⟩:=fZ (mq id) r.Objs h;obtain⟨j,l⟩:=U2 h;have d:j<r.Objs.length:=by unfold nk at l;omega
 have e:=ah d;have F:(nth r.Objs j).Cells.length<=1048576:=k.2 _ (am d);obtain⟨b,g⟩:=U2 c.1;have G:eN r id a v = {r with Objs:=r.Objs.set j ⟨(nth r.Objs j).Id,(nth r.Objs j).Cells.set b v⟩}:=by
  unfold eN;rw[C9 ⟨h,c,p⟩,l,g];rfl
 rw[l]at t c;rw[g]at c |-;simp only[R2]at c;have u:=ah (xs:=(nth r.Objs j).Cells) (i:=b) ω;have w:=aE (b:Nat) 0 (((nth r.Objs j).Cells.length:Nat) - 1:Int);rw[O0 ω]at w;have y:=aE v 0 999;rw[O0 p]at y;have key:ao Tryz.prog 357 false [.val (some 2) (a7.enc .imm r),.val none [I id],.val none [I (b:Nat)],.val none [I v]] (.tup [some 2,none]) (a7.enc .own (eN r id (b:Nat) v)++[B true]):=by
  have n:=mE (eN r id (b:Nat) v) (B true) trivial;rw[<-g,G]at n |-;have H:a7.enc .own {r with Objs:=r.Objs.set j ⟨(nth r.Objs j).Id,(nth r.Objs j).Cells.set b v⟩} = [I r.Next,.s .own ((r.Objs.map (bJ.enc .own)).set j [I (nth r.Objs j).Id,.s .own (((nth r.Objs j).Cells.map (rI .own)).set b [I v])])]:=by
   simp[a7.enc,bJ.enc,rI,O5]
  rw[H]at n |-;rw[g];refine fO 48 [] Tryz.func357 rfl ?_ (.inr n)
  repeat'(first|refine gD ?_|(conv=>whnf);first|with_reducible (first|refine CB (aa e) ?_|refine CB (aa u) ?_|refine CK ω (aa e) ?_)|refine CA ?_|refine C7 (E) ?_|refine C7 (t) ?_|refine C7 (w) ?_|refine C7 (y) ?_|refine CG rfl (aa e) rfl ?_|refine Pu.two rfl rfl (aa e) rfl rfl rfl (aa u) rfl (X2 _) rfl ?_)
  rfl
 have C:=key.fzR;rw[eH,CY]at C;exact C
theorem AR(r:a7)(id n:Int)(m:Nat)(l:qI r m)(u:m<=1000)(g:0<=nk r id)(c:1<=n/\n<=(nth r.Objs (nk r id).toNat).Cells.length):ao Tryz.prog 359 false [.val (some 2) (a7.enc .imm r),.val none [I id],.val none [I n]] (.tup [some 2,none]) (a7.enc .imm (gn r id n)++[B true]):=by
 have h:=l.sml u;have o:=l.len;have w:=dK r h;have p:=gP r id h.1;obtain⟨E,F,G⟩:=fZ (mq id) r.Objs g;obtain⟨j,i⟩:=U2 g;have a:j<r.Objs.length:=by unfold nk at i;omega
 have d:=ah a;have y:(nth r.Objs j).Cells.length<=1048576:=h.2 _ (am a);obtain⟨b,e⟩:=U2 (show 0<=n by omega);have C:gn r id n = {r with Objs:=r.Objs.set j ⟨(nth r.Objs j).Id,(nth r.Objs j).Cells.take b⟩}:=by
  unfold gn;rw[C9 ⟨g,c⟩,i,e];rfl
 rw[i]at p c;rw[e]at c |-;simp only[R2]at c;have q:=aE (b:Nat) 1 (((nth r.Objs j).Cells.length:Nat):Int);rw[O0 ω]at q;have key:ao Tryz.prog 359 false [.val (some 2) (a7.enc .imm r),.val none [I id],.val none [I (b:Nat)]] (.tup [some 2,none]) (a7.enc .own (gn r id (b:Nat))++[B true]):=by
  have k:=mE (gn r id (b:Nat)) (B true) trivial;rw[<-e,C]at k |-;have D:a7.enc .own {r with Objs:=r.Objs.set j ⟨(nth r.Objs j).Id,(nth r.Objs j).Cells.take b⟩} = [I r.Next,.s .own ((r.Objs.map (bJ.enc .own)).set j [I (nth r.Objs j).Id,.s .own (((nth r.Objs j).Cells.take b).map (rI .imm))])]:=by
   simp only[a7.enc,O5]
   rfl
  rw[D]at k |-;rw[e];refine fO 46 [(5,270,[30,31,32,33,34,35,36,37,38,39,40,41,43,44,0,1,2,3,4,5,6,7,8,9,10,11,12,1000,1001,1002,13,14,15])] Tryz.func359 rfl ?_ (.inr k)
  repeat'(first|refine gD ?_|(conv=>whnf);first|with_reducible (first|refine CB (aa d) ?_|refine CK ω (aa d) ?_)|refine CA ?_|refine C7 (w) ?_|refine C7 (p) ?_|refine C7 (q) ?_|refine CG rfl (aa d) rfl ?_|refine CT b rfl (by rw[X0];omega) (aK λ_=>rfl) X3 ?_|refine CS (λ_=>rfl) (λ_=>rfl) (by rw[O1];omega) (by decide) ?_|refine CN (λ_=>rfl) (λ_=>rfl) (by rw[O1];omega) (by decide) ?_|refine CA ?_|refine CM rfl rfl (aa d) rfl (Z0 rfl) rfl ?_)
  rfl
 have t:=key.fzR;rw[eH,CY]at t;exact t
theorem zH(r:a7)(id a v:Int)(m:Nat)(h:qI r m)(l:m<=1000)(u:0<=v/\v<=999):∃b:Bool,ao Tryz.prog 357 false [.val (some 2) (a7.enc .imm r),.val none [I id],.val none [I a],.val none [I v]] (.tup [some 2,none]) (a7.enc .imm (eN r id a v)++[B b]):=by
 by_cases i:0<=nk r id
 ·by_cases d:0<=a/\a<=(nth r.Objs (nk r id).toNat).Cells.length - 1
  ·exact⟨true,xW r id a v m h l i d u⟩
  ·refine⟨false,?_⟩
   have c:=h.sml l;have o:=h.len;have n:=dK r c;have k:=gP r id c.1;obtain⟨C,D,E⟩:=fZ (mq id) r.Objs i;obtain⟨j,p⟩:=U2 i;have e:j<r.Objs.length:=by unfold nk at p;omega
   have q:=ah e;have w:(nth r.Objs j).Cells.length<=1048576:=c.2 _ (am e);have y:eN r id a v=r:=by unfold eN;rw[C8 (λx=>d x.2.1)]
   rw[p]at k d;simp only[R2]at d;have t:=aE a 0 (((nth r.Objs j).Cells.length:Nat) - 1:Int);rw[R0 d]at t;rw[y];have key:ao Tryz.prog 357 false [.val (some 2) (a7.enc .imm r),.val none [I id],.val none [I a],.val none [I v]] (.tup [some 2,none]) (a7.enc .own r++[B false]):=by
    refine fO 48 [] Tryz.func357 rfl ?_ (.inr (mE r (B false) trivial))
    repeat'(first|refine gD ?_|(conv=>whnf);first|with_reducible refine CB (aa q) ?_|refine CA ?_|refine C7 (n) ?_|refine C7 (k) ?_|refine C7 (t) ?_|refine CG rfl (aa q) rfl ?_)
    rfl
   have g:=key.fzR;rw[eH,CY]at g;exact g
 ·refine⟨false,?_⟩
  have c:=h.sml l;have n:=dK r c;have k:=gP r id c.1;rw[show eN r id a v=r by unfold eN;rw[C8 (λx=>i x.1)]];have key:ao Tryz.prog 357 false [.val (some 2) (a7.enc .imm r),.val none [I id],.val none [I a],.val none [I v]] (.tup [some 2,none]) (a7.enc .own r++[B false]):=by
   refine fO 48 [] Tryz.func357 rfl ?_ (.inr (mE r (B false) trivial))
   repeat'(first|refine gD ?_|(conv=>whnf);first|refine CA ?_|refine C7 (n) ?_|refine C7 (k) ?_)
   rfl
  have g:=key.fzR;rw[eH,CY]at g;exact g
theorem BN(r:a7)(id n:Int)(m:Nat)(g:qI r m)(k:m<=1000):∃b:Bool,ao Tryz.prog 359 false [.val (some 2) (a7.enc .imm r),.val none [I id],.val none [I n]] (.tup [some 2,none]) (a7.enc .imm (gn r id n)++[B b]):=by
 by_cases h:0<=nk r id
 ·by_cases c:1<=n/\n<=(nth r.Objs (nk r id).toNat).Cells.length
  ·exact⟨true,AR r id n m g k h c⟩
  ·refine⟨false,?_⟩
   have a:=g.sml k;have o:=g.len;have l:=dK r a;have i:=gP r id a.1;obtain⟨y,C,D⟩:=fZ (mq id) r.Objs h;obtain⟨j,p⟩:=U2 h;have d:j<r.Objs.length:=by unfold nk at p;omega
   have q:=ah d;have u:(nth r.Objs j).Cells.length<=1048576:=a.2 _ (am d);have w:gn r id n=r:=by unfold gn;rw[C8 (λx=>c x.2)]
   rw[p]at i c;simp only[R2]at c;have t:=aE n 1 (((nth r.Objs j).Cells.length:Nat):Int);rw[R0 c]at t;rw[w];have key:ao Tryz.prog 359 false [.val (some 2) (a7.enc .imm r),.val none [I id],.val none [I n]] (.tup [some 2,none]) (a7.enc .own r++[B false]):=by
    refine fO 46 [(5,270,[30,31,32,33,34,35,36,37,38,39,40,41,43,44,0,1,2,3,4,5,6,7,8,9,10,11,12,1000,1001,1002,13,14,15])] Tryz.func359 rfl ?_ (.inr (mE r (B false) trivial))
    repeat'(first|refine gD ?_|(conv=>whnf);first|with_reducible refine CB (aa q) ?_|refine CA ?_|refine C7 (l) ?_|refine C7 (i) ?_|refine C7 (t) ?_|refine CG rfl (aa q) rfl ?_)
    rfl
   have e:=key.fzR;rw[eH,CY]at e;exact e
 ·refine⟨false,?_⟩
  have a:=g.sml k;have l:=dK r a;have i:=gP r id a.1;rw[show gn r id n=r by unfold gn;rw[C8 (λx=>h x.1)]];have key:ao Tryz.prog 359 false [.val (some 2) (a7.enc .imm r),.val none [I id],.val none [I n]] (.tup [some 2,none]) (a7.enc .own r++[B false]):=by
   refine fO 46 [(5,270,[30,31,32,33,34,35,36,37,38,39,40,41,43,44,0,1,2,3,4,5,6,7,8,9,10,11,12,1000,1001,1002,13,14,15])] Tryz.func359 rfl ?_ (.inr (mE r (B false) trivial))
   repeat'(first|refine gD ?_|(conv=>whnf);first|refine CA ?_|refine C7 (l) ?_|refine C7 (i) ?_)
   rfl
  have e:=key.fzR;rw[eH,CY]at e;exact e
structure ig where
 i:Nat
 h:Int
deriving Inhabited
def w64(x:Int):Int:=IntKind.i64.wrap x
def P3(h:Int):Int:=w64 (w64 (h*6364136223846793005)+1442695040888963407)
def Pj(a b:Int):Int:=w64 ((BitVec.ofInt IntKind.i64.bits a ^^^ BitVec.ofInt IntKind.i64.bits b).toNat:Nat)
def and255(a:Int):Int:=w64 ((BitVec.ofInt IntKind.i64.bits a &&& BitVec.ofInt IntKind.i64.bits 255).toNat:Nat)
def LS(h:Int)(n:Nat):Int:=h.fdiv (2 ^ (min n IntKind.i64.bits))
def yU(h:Int):Int:=and255 (Pj (LS h 33) (LS h 45))
theorem yK(a:Int):0<=and255 a/\and255 a<=255:=by
 have b:(BitVec.ofInt IntKind.i64.bits a &&& BitVec.ofInt IntKind.i64.bits 255).toNat<=255:=by
  rw[BitVec.toNat_and];exact O4 Nat.and_le_right (by decide)
 unfold and255 w64;rw[fg ω ω];omega
def dr(zs:List Int)(c:ig):Int × ig:=if c.i<zs.length then(and255 (yU (P3 c.h)+nth zs c.i),⟨c.i+1,P3 c.h⟩) else(yU (P3 c.h),⟨c.i,P3 c.h⟩)
theorem rk(zs:List Int)(c:ig):0<=(dr zs c).1/\(dr zs c).1<=255:=by
 unfold dr;split<;>exact yK _
theorem i6{zs:List Int}{c:ig}(h:c.i<=zs.length):(dr zs c).2.i<=zs.length:=by
 unfold dr;split
 ·simp only;omega
 ·exact h
def yZ(zs:List Int)(c:ig):Int × ig:=
 ((dr zs c).1*16777216+(dr zs (dr zs c).2).1*65536+(dr zs (dr zs (dr zs c).2).2).1*256+(dr zs (dr zs (dr zs (dr zs c).2).2).2).1,(dr zs (dr zs (dr zs (dr zs c).2).2).2).2)
def bq(zs:List Int)(c:ig)(n:Int):Int × ig:=if n<=256 then((dr zs c).1 % n,(dr zs c).2) else((yZ zs c).1 % n,(yZ zs c).2)
theorem bD(zs:List Int)(c:ig){n:Int}(h:1<=n):0<=(bq zs c n).1/\(bq zs c n).1<n:=by
 unfold bq;split<;>exact⟨Int.emod_nonneg _ ω,Int.emod_lt_of_pos _ ω⟩
theorem bL{zs:List Int}{c:ig}(h:c.i<=zs.length)(n:Int):(bq zs c n).2.i<=zs.length:=by
 unfold bq;split
 ·exact i6 h
 ·exact i6 (i6 (i6 (i6 h)))
def kf(zs:List Int)(c:ig)(l:List Int):Int × ig:=(nth l (bq zs c (l.length:Nat)).1.toNat,(bq zs c (l.length:Nat)).2)
theorem oM(zs:List Int)(c:ig){l:List Int}(h:1<=l.length):(kf zs c l).1∈l:=by
 have:=bD zs c (n:=(l.length:Nat)) ω;exact am ω
def nr(zs:List Int):Nat->Nat->List Int->ig->List Int × ig
 | 0,_,out,c=>(out,(bq zs c 4).2)
 | f+1,i,out,c=>if(i:Int)<(bq zs c 4).1 then nr zs f (i+1) (out++[(bq zs (bq zs c 4).2 12).1]) (bq zs (bq zs c 4).2 12).2 else(out,(bq zs c 4).2)
def MP(zs:List Int)(c:ig):List Int × ig:=nr zs 4 0 [] c
theorem GQ(zs:List Int):∀(f i:Nat)(out:List Int)(c:ig),(∀x∈out,0<=x)->out.length+f<=4->c.i<=zs.length->(∀x∈(nr zs f i out c).1,0<=x)/\(nr zs f i out c).1.length<=4/\(nr zs f i out c).2.i<=zs.length
 | 0,_,out,c,b,e,d=>⟨b,by show out.length<=4;omega,bL d _⟩
 | f+1,i,out,c,b,e,d=>by
  unfold nr;split
  ·refine GQ zs f (i+1) _ _ (λx a=>?_) (by simp only[v3,List.length_singleton];omega) (bL (bL d _) _)
   rcases W2.1 a with a|a
   ·exact b x a
   ·rw[C1.1 a];exact(bD zs _ (by decide)).1
  ·exact⟨b,by show out.length<=4;omega,bL d _⟩
def yg(zs:List Int)(c:ig):Int × ig:=bq zs c 7
def B1(zs:List Int)(c:ig):Int × ig:=bq zs (yg zs c).2 3
def FZ(zs:List Int)(c:ig):Int × ig:=bq zs (B1 zs c).2 100
def AO(zs:List Int)(c:ig):Int × ig:=bq zs (FZ zs c).2 4
def Nw(zs:List Int)(c:ig):List Int × ig:=MP zs (AO zs c).2
def pd(zs:List Int)(c:ig):cA:=⟨(6+(yg zs c).1).toNat,(6+(yg zs c).1 - (AO zs c).1).toNat,(1+(B1 zs c).1).toNat,40+(FZ zs c).1,(Nw zs c).1⟩
theorem oe{zs:List Int}{c:ig}(h:c.i<=zs.length):Db (pd zs c)/\(Nw zs c).2.i<=zs.length:=by
 have a:=bD zs c (n:=7) (by decide);have b:=bD zs (yg zs c).2 (n:=3) (by decide);have d:=bD zs (B1 zs c).2 (n:=100) (by decide);have e:=bD zs (FZ zs c).2 (n:=4) (by decide);change 0<=(yg zs c).1/\(yg zs c).1<7 at a;change 0<=(B1 zs c).1/\(B1 zs c).1<3 at b;change 0<=(FZ zs c).1/\(FZ zs c).1<100 at d;change 0<=(AO zs c).1/\(AO zs c).1<4 at e;obtain⟨f,k,g⟩:=GQ zs 4 0 [] (AO zs c).2 (λx j=>by cases j) (by simp) (bL (bL (bL (bL h _) _) _) _);refine⟨⟨?_,?_,?_,?_,?_⟩,g⟩
 ·show 1<=(6+(yg zs c).1).toNat/\(6+(yg zs c).1).toNat<=32;omega
 ·show 1<=(6+(yg zs c).1 - (AO zs c).1).toNat/\(6+(yg zs c).1 - (AO zs c).1).toNat<=32;omega
 ·show 1<=(1+(B1 zs c).1).toNat/\(1+(B1 zs c).1).toNat<=4;omega
 ·show 0<=40+(FZ zs c).1/\40+(FZ zs c).1<=1000;omega
 ·exact⟨by show(nr zs 4 0 [] (AO zs c).2).1.length<=40;omega,f⟩
def yz(zs:List Int)(c:ig):Int × ig:=bq zs c 3
def Ex(zs:List Int)(c:ig)(ids:Int):Int × ig:=bq zs (yz zs c).2 ids
def ki(zs:List Int)(c:ig)(ids:Int):Int × ig:=bq zs (Ex zs c ids).2 20
def szs:List Int:=[1,1,2,2,3,4,4,5,8,9,20]
def rh(zs:List Int)(c:ig)(ids:Int):dR × ig:=
 if(ki zs c ids).1<=6 then(⟨1,(yz zs c).1,(kf zs (ki zs c ids).2 szs).1,0,0⟩,(kf zs (ki zs c ids).2 szs).2)
 else if(ki zs c ids).1<=9 then(⟨2,(yz zs c).1,1+(Ex zs c ids).1,0,0⟩,(ki zs c ids).2)
 else if(ki zs c ids).1<=12 then(⟨3,(yz zs c).1,1+(Ex zs c ids).1,(bq zs (ki zs c ids).2 4).1,1+(bq zs (bq zs (ki zs c ids).2 4).2 999).1⟩,(bq zs (bq zs (ki zs c ids).2 4).2 999).2)
 else if(ki zs c ids).1=13 then(⟨4,(yz zs c).1,1+(Ex zs c ids).1,0,9+(bq zs (ki zs c ids).2 10).1⟩,(bq zs (ki zs c ids).2 10).2)
 else if(ki zs c ids).1=14 then(⟨(kf zs (ki zs c ids).2 [5,6]).1,(yz zs c).1,1+(Ex zs c ids).1,0,0⟩,(kf zs (ki zs c ids).2 [5,6]).2)
 else if(ki zs c ids).1=15 then(⟨7,(yz zs c).1,1+(Ex zs c ids).1,0,0⟩,(ki zs c ids).2)
 else if(ki zs c ids).1=16 then(⟨8,(yz zs c).1,(kf zs (ki zs c ids).2 [1,30,60,120]).1,0,0⟩,(kf zs (ki zs c ids).2 [1,30,60,120]).2)
 else if(ki zs c ids).1=17 then(⟨9,(yz zs c).1,1+(Ex zs c ids).1,0,0⟩,(ki zs c ids).2)
 else(⟨10,(yz zs c).1,(kf zs (ki zs c ids).2 [1,2,3,10,30]).1,0,0⟩,(kf zs (ki zs c ids).2 [1,2,3,10,30]).2)
structure Ke(a:dR):Prop where
 k:1<=a.Kind/\a.Kind<=10
 t:0<=a.Thread/\a.Thread<=1000000
 n:0<=a.N/\a.N<=1000000
 p:0<=a.At/\a.At<=1000000
 v:0<=a.Value/\a.Value<=1000000
theorem Lx{zs:List Int}{c:ig}{ids:Int}(h:c.i<=zs.length)(b:1<=ids/\ids<=1000):Ke (rh zs c ids).1/\(rh zs c ids).2.i<=zs.length:=by
 have d:=bD zs c (n:=3) (by decide);have e:=bD zs (yz zs c).2 (n:=ids) b.1;change 0<=(yz zs c).1/\(yz zs c).1<3 at d;change 0<=(Ex zs c ids).1/\(Ex zs c ids).1<ids at e;have a:(ki zs c ids).2.i<=zs.length:=bL (bL (bL h _) _) _;have f:=oM zs (ki zs c ids).2 (l:=szs) (by decide);have g:=oM zs (ki zs c ids).2 (l:=[5,6]) (by decide);have j:=oM zs (ki zs c ids).2 (l:=[1,30,60,120]) (by decide);have k:=oM zs (ki zs c ids).2 (l:=[1,2,3,10,30]) (by decide);have o:=bD zs (ki zs c ids).2 (n:=4) (by decide);have p:=bD zs (bq zs (ki zs c ids).2 4).2 (n:=999) (by decide);have q:=bD zs (ki zs c ids).2 (n:=10) (by decide);simp only[szs,List.mem_cons,List.not_mem_nil,or_false]at f g j k;unfold rh
 repeat' split
 ·exact⟨⟨by simp only;omega,by simp only;omega,by simp only[szs];omega,by simp only;omega,by simp only;omega⟩,bL a _⟩
 ·exact⟨⟨by simp only;omega,by simp only;omega,by simp only;omega,by simp only;omega,by simp only;omega⟩,a⟩
 ·exact⟨⟨by simp only;omega,by simp only;omega,by simp only;omega,by simp only;omega,by simp only;omega⟩,bL (bL a _) _⟩
 ·exact⟨⟨by simp only;omega,by simp only;omega,by simp only;omega,by simp only;omega,by simp only;omega⟩,bL a _⟩
 ·exact⟨⟨by simp only;omega,by simp only;omega,by simp only;omega,by simp only;omega,by simp only;omega⟩,bL a _⟩
 ·exact⟨⟨by simp only;omega,by simp only;omega,by simp only;omega,by simp only;omega,by simp only;omega⟩,a⟩
 ·exact⟨⟨by simp only;omega,by simp only;omega,by simp only;omega,by simp only;omega,by simp only;omega⟩,bL a _⟩
 ·exact⟨⟨by simp only;omega,by simp only;omega,by simp only;omega,by simp only;omega,by simp only;omega⟩,a⟩
 ·exact⟨⟨by simp only;omega,by simp only;omega,by simp only;omega,by simp only;omega,by simp only;omega⟩,bL a _⟩
def kM(zs:List Int)(c:ig):Nat->List dR × ig
 | 0=>([],(bq zs c 41).2)
 | i+1=>((kM zs c i).1++[(rh zs (kM zs c i).2 (1+(i:Int) / 2)).1],(rh zs (kM zs c i).2 (1+(i:Int) / 2)).2)
def mV(zs:List Int)(c:ig):List dR × ig:=kM zs c (bq zs c 41).1.toNat
theorem qY{zs:List Int}{c:ig}(h:c.i<=zs.length):∀{n:Nat},n<=100->(kM zs c n).1.length=n/\(∀a∈(kM zs c n).1,Ke a)/\(kM zs c n).2.i<=zs.length
 | 0,_=>⟨rfl,λa b=>(by cases b),bL h _⟩
 | n+1,k=>by
  obtain⟨d,e,f⟩:=qY h (n:=n) ω;obtain⟨g,j⟩:=Lx (ids:=1+(n:Int) / 2) f ω;refine⟨by simp only[kM,v3,List.length_singleton,d],λa b=>?_,j⟩;rcases W2.1 b with b|b
  ·exact e a b
  ·rw[C1.1 b];exact g
def oV(zs:List Int):Nat->Int
 | 0=>w64 (98801+(zs.length:Nat))
 | i+1=>w64 ((BitVec.ofInt IntKind.i64.bits (w64 (w64 (w64 (oV zs i*131)+nth zs i)+7)) &&& BitVec.ofInt IntKind.i64.bits 1073741823).toNat:Nat)
def sB(zs:List Int):ig:=⟨0,oV zs (min zs.length 4000)⟩
def fk(zs:List Int):ig:=(Nw zs (sB zs)).2
def drawn(zs:List Int):bH:=(yw (pd zs (sB zs)) (mV zs (fk zs)).1 (mV zs (fk zs)).1.length).1
theorem Br(zs:List Int):rD (drawn zs) 40:=by
 have a:(sB zs).i<=zs.length:=T0 _;obtain⟨b,d⟩:=oe a;have f:=bD zs (fk zs) (n:=41) (by decide);obtain⟨e,-,-⟩:=qY (zs:=zs) (c:=fk zs) d (n:=(bq zs (fk zs) 41).1.toNat) ω;refine(si b _ _).more ?_;show(kM zs (fk zs) _).1.length<=40;rw[e];omega
def rU(z:Int):List C:=[.v (.int .u8 z)]
def gN(zs:List Int)(c:ig):List C:=[.s .imm (zs.map rU),I (c.i:Nat),I c.h]
def iQ(zs:List Int):Prop:=zs.length<=1048576/\∀z∈zs,0<=z/\z<=255
theorem jG(zs:List Int)(c:ig)(e:iQ zs)(w:c.i<=zs.length):aQ Tryz.prog 185 false [.ptr (gN zs c)] [.ptr (gN zs (dr zs c).2)] .one [I (dr zs c).1]:=by
 have g:IntKind.i64.wrap (c.h*6364136223846793005)=w64 (c.h*6364136223846793005):=rfl;have b:IntKind.i64.wrap (w64 (c.h*6364136223846793005)+1442695040888963407)=P3 c.h:=rfl;have o:=e.1;generalize p:P3 c.h=H at b;have j:H.fdiv (2 ^ (min (33:Int).toNat IntKind.i64.bits))=LS H 33:=rfl;have k:H.fdiv (2 ^ (min (45:Int).toNat IntKind.i64.bits))=LS H 45:=rfl;have l:IntKind.i64.wrap (BitVec.ofInt IntKind.i64.bits (LS H 33) ^^^ BitVec.ofInt IntKind.i64.bits (LS H 45)).toNat=Pj (LS H 33) (LS H 45):=rfl;have d:IntKind.i64.wrap (BitVec.ofInt IntKind.i64.bits (Pj (LS H 33) (LS H 45)) &&& BitVec.ofInt IntKind.i64.bits 255).toNat=yU H:=rfl;have r:0<=yU H/\yU H<=255:=yK _;unfold dr;rw[p];generalize yU H=y at d r |-;refine fM 58 [] [(2,10,[13,14,15,16,17,18,19,20,21,22]),(3,9,[25,26,27,28,29,30,31,32,33]),(4,12,[35,36,37,38,39,40,41,42,43,44,45,46])] [(0,0)] Tryz.func185 rfl (λu q=>?_);by_cases a:c.i<zs.length
 ·rw[C9 a]
  have n:=ah a;have B:=e.2 _ (am a);have t:IntKind.i64.wrap (BitVec.ofInt IntKind.i64.bits (y+nth zs c.i) &&& BitVec.ofInt IntKind.i64.bits 255).toNat=and255 (y+nth zs c.i):=rfl
  repeat'(first|refine gD ?_|(conv=>whnf);first|with_reducible (first|refine CJ g ?_|refine CJ b ?_|refine CJ l ?_|refine CJ d ?_|refine CJ t ?_|refine CB (aa n) ?_|refine CL (by decide) ?_|refine CR j ?_|refine CR k ?_)|refine CG rfl (aa n) rfl ?_|refine CA ?_)
  refine CF rfl rfl ?_;exact wB
 ·rw[C8 a]
  repeat'(first|refine gD ?_|(conv=>whnf);first|with_reducible (first|refine CJ g ?_|refine CJ b ?_|refine CJ l ?_|refine CJ d ?_|refine CL (by decide) ?_|refine CR j ?_|refine CR k ?_)|refine CA ?_)
  refine CF rfl rfl ?_;exact wB
theorem bK(zs:List Int)(c:ig)(n:Int)(b:iQ zs)(d:c.i<=zs.length)(p:1<=n):aQ Tryz.prog 92 false [.ptr (gN zs c),.val none [I n]] [.ptr (gN zs (bq zs c n).2),.val none [I n]] .one [I (bq zs c n).1]:=by
 have j:=rk zs c;have g:=jG zs c b d;unfold bq;refine fM 37 [(185,[2])] [] [(0,0),(0,0)] Tryz.func92 rfl (λu q=>?_);by_cases h:n<=256
 ·rw[C9 h]
  have a:(dr zs c).1.tmod n=(dr zs c).1 % n:=Int.tmod_eq_emod_of_nonneg j.1
  repeat'(first|refine gD ?_|(conv=>whnf);first|with_reducible (first|refine CR a ?_|refine Bf.D (λe=>?_) (λe=>?_))|refine CH (g) (.inl rfl) ?_|refine CL ω ?_)
  refine CF rfl rfl ?_;exact wB
 ·rw[C8 h]
  have r:=rk zs (dr zs c).2;have t:=rk zs (dr zs (dr zs c).2).2;have w:=rk zs (dr zs (dr zs (dr zs c).2).2).2;have k:=jG zs (dr zs c).2 b (i6 d);have l:=jG zs (dr zs (dr zs c).2).2 b (i6 (i6 d));have o:=jG zs (dr zs (dr zs (dr zs c).2).2).2 b (i6 (i6 (i6 d)));have a:(yZ zs c).1.tmod n=(yZ zs c).1 % n:=Int.tmod_eq_emod_of_nonneg (by unfold yZ;simp only;omega);unfold yZ at a |-;simp only at a
  repeat'(first|refine gD ?_|(conv=>whnf);first|with_reducible (first|refine CR a ?_|refine Bf.D (λe=>?_) (λe=>?_))|refine CH (g) (.inl rfl) ?_|refine CH (k) (.inl rfl) ?_|refine CH (l) (.inl rfl) ?_|refine CH (o) (.inl rfl) ?_|refine CL ω ?_)
  refine CF rfl rfl ?_;exact wB
theorem Jz(zs:List Int)(c:ig)(l:List Int)(b:iQ zs)(d:c.i<=zs.length)(g:1<=l.length/\l.length<=1000):aQ Tryz.prog 310 false [.ptr (gN zs c),.val none (aD .imm l)] [.ptr (gN zs (kf zs c l).2),.val none (aD .imm l)] .one [I (kf zs c l).1]:=by
 have e:=bK zs c (l.length:Nat) b d ω;have h:=bD zs c (n:=(l.length:Nat)) ω;have a:=ah (xs:=l) (i:=(bq zs c (l.length:Nat)).1.toNat) ω;unfold kf;refine fM 12 [(92,[2,0])] [] [(0,0),(0,0)] Tryz.func310 rfl (λu q=>?_)
 repeat'(first|refine gO ?_|(conv=>whnf);first|with_reducible refine CK ω (aa a) ?_|refine CH (e) (.inl rfl) ?_|refine CG rfl (aa a) rfl ?_)
 refine CF rfl rfl ?_;exact wC
theorem iz(zs:List Int)(c:ig)(l:List Int)(b:iQ zs)(d:c.i<=zs.length)(g:1<=l.length/\l.length<=1000):aQ Tryz.prog 310 false [.ptr (gN zs c),.mut none (aD .own l)] [.ptr (gN zs (kf zs c l).2),.mut none (aD .own l)] .one [I (kf zs c l).1]:=by
 have e:=bK zs c (l.length:Nat) b d ω;have h:=bD zs c (n:=(l.length:Nat)) ω;have a:=ah (xs:=l) (i:=(bq zs c (l.length:Nat)).1.toNat) ω;unfold kf;refine fM 12 [(92,[2,0])] [] [(0,0),(1,0)] Tryz.func310 rfl (λu q=>?_)
 repeat'(first|refine gO ?_|(conv=>whnf);first|with_reducible refine CK ω (aa a) ?_|refine CH (e) (.inl rfl) ?_|refine CG rfl (aa a) rfl ?_)
 refine CF rfl rfl ?_;exact wC
theorem Jt(zs:List Int):∀(f i:Nat)(out:List Int)(c:ig),(bq zs c 4).1<=i->nr zs f i out c=(out,(bq zs c 4).2)
 | 0,_,_,_,_=>rfl
 | f+1,i,out,c,h=>by unfold nr;rw[C8 ω]
theorem Mo(zs:List Int)(f i:Nat)(out:List Int)(c:ig)(h:(i:Int)<(bq zs c 4).1):nr zs (f+1) i out c=nr zs f (i+1) (out++[(bq zs (bq zs c 4).2 12).1]) (bq zs (bq zs c 4).2 12).2:=by
 show(if _ then _ else _)=_;rw[C9 h]
structure Rq where
 i:Nat
 out:List Int
 c:ig
theorem wu(zs:List Int)(c:ig)(e:iQ zs)(j:c.i<=zs.length):aQ Tryz.prog 242 false [.ptr (gN zs c)] [.ptr (gN zs (MP zs c).2)] .one (aD .own (MP zs c).1):=by
 refine fM 18 [(92,[2,0])] [] [(0,0)] Tryz.func242 rfl (λu q=>?_) (.inr (bG _))
 repeat'(first|refine gO ?_|fail)
 (conv=>whnf)
 refine CE (ι:=Rq) (λx=>[(0,.hold .box (gN zs x.c)),(3,.hold .one (aD .own x.out)),(4,.hold .one [I ((x.i:Nat):Int)])]) (λx=>(x.i<=4/\x.out.length<=x.i/\x.c.i<=zs.length)/\nr zs (4 - x.i) x.i x.out x.c=MP zs c) (λx=>4 - x.i) (⟨0,[],c⟩) ?_ (⟨⟨T0 _,T0 _,j⟩,rfl⟩) λx k=>?_
 ·exact wC
 obtain⟨i,out,d⟩:=x;obtain⟨⟨l,o,b⟩,a⟩:=k;simp only at l o b a |-;have B:=bD zs d (n:=4) (by decide);have g:=bK zs d 4 e b (by decide);have h:=bL b 4;have p:=bK zs (bq zs d 4).2 12 e h (by decide);have t:=bL h 12;by_cases w:(i:Int)<(bq zs d 4).1
 ·rw[show 4 - i=(4 - (i+1))+1 by omega,Mo zs _ _ _ _ w]at a
  repeat'(first|refine gD ?_|(conv=>whnf);first|refine CH (g) (.inl rfl) ?_|refine CH (p) (.inl rfl) ?_|refine CP bV (λr y=>by rw[C1.1 y];rfl) (by simp[aV,dz]) (by simp;omega) (by simp only[X0];exact wi (by simp;omega) (by decide)) rfl ?_)
  ((conv=>whnf);refine CC ⟨i+1,out++[(bq zs (bq zs d 4).2 12).1],(bq zs (bq zs d 4).2 12).2⟩ ⟨⟨by simp only;omega,by simp only[v3,List.length_singleton];omega,t⟩,a⟩ (by simp only;omega) ?_)
  repeat'(first|exact trivial|rfl| exact dc _ |exact CI rfl (CI (U0 (C.s du.own) (by simp[rI])) trivial)|refine CI ?_ ?_|(exact xv (by first|omega|(simp only;omega)|(simp;omega))))
 ·rw[Jt zs _ _ _ _ ω]at a
  rw[<-a]
  repeat'(first|refine gD ?_|(conv=>whnf);first|refine CH (g) (.inl rfl) ?_)
  refine CF rfl rfl ?_;exact wC
def cA.enc(o:du)(c:cA):List C:=[I (c.Pages:Nat),I (c.Frames:Nat),I (c.Threads:Nat),I c.Limit,.s o (c.Refuse.map (rI o))]
theorem cA.enc_fz(c:cA):d9 (cA.enc .own c)=cA.enc .imm c:=by simp[d9,cA.enc,rI,<-bW,z5]
theorem cA.enc_fr(c:cA):gw (cA.enc .own c):=⟨trivial,trivial,trivial,trivial,⟨.inl λh=>(by cases h),bc _ _ λy _=>p9 y⟩,trivial⟩
theorem wI(zs:List Int)(c:ig)(a:iQ zs)(h:c.i<=zs.length):aQ Tryz.prog 150 false [.ptr (gN zs c)] [.ptr (gN zs (Nw zs c).2)] .agg (cA.enc .own (pd zs c)):=by
 have j:=bL h 7;have k:=bL j 3;have l:=bL k 100;have y:=bL l 4;have b:=bK zs c 7 a h (by decide);have d:=bK zs (yg zs c).2 3 a j (by decide);have e:=bK zs (B1 zs c).2 100 a k (by decide);have g:=bK zs (FZ zs c).2 4 a l (by decide);have o:=wu zs (AO zs c).2 a y;have p:=bD zs c (n:=7) (by decide);have r:=bD zs (yg zs c).2 (n:=3) (by decide);have B:=bD zs (B1 zs c).2 (n:=100) (by decide);have t:=bD zs (FZ zs c).2 (n:=4) (by decide);have w:=cA.enc_fr (pd zs c);have C:cA.enc .own (pd zs c)=[I (6+(yg zs c).1),I (6+(yg zs c).1 - (AO zs c).1),I (1+(B1 zs c).1),I (40+(FZ zs c).1),.s .own ((Nw zs c).1.map (rI .own))]:=by
  have D:0<=(yg zs c).1/\(yg zs c).1<7:=p;have E:0<=(B1 zs c).1/\(B1 zs c).1<3:=r;have F:0<=(AO zs c).1/\(AO zs c).1<4:=t;unfold cA.enc pd;simp only;rw[Int.toNat_of_nonneg ω,Int.toNat_of_nonneg ω,Int.toNat_of_nonneg ω]
 rw[C]at w |-;change aQ _ _ _ _ [.ptr (gN zs (yg zs c).2),_] _ _ at b;change aQ _ _ _ _ [.ptr (gN zs (B1 zs c).2),_] _ _ at d;change aQ _ _ _ _ [.ptr (gN zs (FZ zs c).2),_] _ _ at e;change aQ _ _ _ _ [.ptr (gN zs (AO zs c).2),_] _ _ at g;change aQ _ _ _ _ [.ptr (gN zs (Nw zs c).2)] _ (aD .own (Nw zs c).1) at o;change aQ _ _ _ _ _ _ [I (yg zs c).1]at b;change aQ _ _ _ _ _ _ [I (B1 zs c).1]at d;change aQ _ _ _ _ _ _ [I (FZ zs c).1]at e;change aQ _ _ _ _ _ _ [I (AO zs c).1]at g;change 0<=(yg zs c).1/\(yg zs c).1<7 at p;change 0<=(B1 zs c).1/\(B1 zs c).1<3 at r;change 0<=(FZ zs c).1/\(FZ zs c).1<100 at B;change 0<=(AO zs c).1/\(AO zs c).1<4 at t;generalize Nw zs c=r5 at *;generalize AO zs c=r4 at *;generalize FZ zs c=r3 at *;generalize B1 zs c=r2 at *;generalize yg zs c=r1 at *;refine fM 24 [(92,[2,0]),(242,[2])] [(2,65536,[])] [(0,0)] Tryz.func150 rfl (λu q=>?_) (.inr w)
 repeat'(first|refine gO ?_|(conv=>whnf);first|refine CH (b) (.inl rfl) ?_|refine CH (d) (.inl rfl) ?_|refine CH (e) (.inl rfl) ?_|refine CH (g) (.inl rfl) ?_|refine CH (o) (.inl rfl) ?_|refine CI ?_ ?_)
 all_goals
  refine CF rfl rfl ?_;exact wC
theorem vz(n:Nat)(e:1<=n/\n<=32):ao Tryz.prog 400 false [.val none [I (n:Nat)]] (.tup [some 2,none]) (aZ.enc .own (fG n)++[B true]):=by
 have c:=aE ((n:Nat):Int) 1 32;rw[O0 ω]at c;have a:=aP (b:=[B true]) (aZ.enc_fr (fG n)) ⟨trivial,trivial⟩;rw[show aZ.enc .own (fG n)=_ from EX n n]at a |-;refine fO 28 [(7,4,[16,17,18,19])] Tryz.func400 rfl ?_ (.inr a)
 repeat'(first|refine gO ?_|(conv=>whnf);first|refine CA ?_|refine C7 (c) ?_)
 (conv=>whnf)
 refine CE (ι:=Nat) (λk=>[(0,.hold .one [I ((n:Nat))]),(2,.hold .box [.z,.z]),(4,.hold .box [.s .own (List.replicate k [.s .own (List.replicate 16 [I 0])]),.s .own (List.replicate k [B false])]),(5,.hold .one [I ((k:Nat):Int)])]) (λk=>k<=n) (λk=>n - k) (0) ?_ (T0 _) λk g=>?_
 ·exact wB
 by_cases h:k<n
 ·repeat'(first|refine gD ?_|(conv=>whnf);first|refine CA ?_|refine Mk.mk 16 rfl rfl (by decide) (by decide) rfl ?_|refine Ap.sn (λr d=>by rw[(List.mem_replicate.1 d).2];rfl) rfl (by simp;omega) (by decide) (Dz _ k) ?_)
  ((conv=>whnf);refine CC (k+1) ω ω ?_;(exact wB))
 ·obtain rfl:k=n:=ω
  repeat'(first|refine gD ?_|(conv=>whnf);first|refine CA ?_)
  rfl
theorem xV(n:Nat)(e:1<=n/\n<=32):ao Tryz.prog 401 false [.val none [I (n:Nat)]] (.tup [some 1,none]) (aG.enc .own (dO n)++[B true]):=by
 have c:=aE ((n:Nat):Int) 1 32;rw[O0 ω]at c;have a:=aP (b:=[B true]) (aG.enc_fr (dO n)) ⟨trivial,trivial⟩;have d:aG.enc .own (dO n)=[.s .own (List.replicate n [I 0,I 0])]:=by simp[aG.enc,dO,bh.enc,List.map_replicate]
 rw[d]at a |-;refine fO 11 [] Tryz.func401 rfl ?_ (.inr a)
 repeat'(first|refine gO ?_|(conv=>whnf);first|refine CA ?_|refine C7 (c) ?_|refine Mk.mk n rfl rfl ω (wi ω (by decide)) rfl ?_)
 rfl
theorem ux(p f:Nat)(a:1<=p/\p<=32)(b:1<=f/\f<=32):ao Tryz.prog 378 false [.val none [I (p:Nat)],.val none [I (f:Nat)]] (.tup [some 3,none]) (aS.enc .own ⟨fG f,dO p⟩++[B true]):=by
 refine fO 30 [] Tryz.func378 rfl ?_ (.inr (aP (aS.enc_fr _) ⟨trivial,trivial⟩))
 repeat'(first|refine gO ?_|(conv=>whnf);first|refine CA ?_|refine C7 (vz f b) ?_|refine C7 (xV p a) ?_)
 rfl
theorem wh(p f:Nat)(a:List Int)(b:1<=p/\p<=32)(c:1<=f/\f<=32)(d:a.length<=40/\∀x∈a,0<=x):ao Tryz.prog 350 false [.val none [I (p:Nat)],.val none [I (f:Nat)],.val none (aD .imm a)] (.tup [some 5,none]) (af.enc .own (bE p f a)++[B true]):=by
 have e:=pv b c d;have h:=d.1;have g:=kZ (bE p f a) (bt e);rw[e]at g;refine fO 31 [(2,260,[17,18,19,10,0,1,2,5,3,1000,1005,4,1005,6])] Tryz.func350 rfl ?_ (.inr (aP (af.enc_fr _) ⟨trivial,trivial⟩))
 repeat'(first|refine gO ?_|(conv=>whnf);first|refine CA ?_|refine C7 (ux p f b c) ?_|refine CD (g) ⟨⟨rfl,CO (bE p f a)⟩,trivial⟩ ?_|refine CN (λ_=>rfl) (λ_=>rfl) ω (by decide) ?_|refine CS (λ_=>rfl) (λ_=>rfl) ω (by decide) ?_|refine CA ?_)
 rfl
def P8(p f t:Nat)(lim:Int)(a:List Int)(k:Nat):ab:={caps (uB p f t lim a) k with Quar:=⟨0,[]⟩}
theorem Ai(p f t:Nat)(lim:Int)(a:List Int)(c:1<=p/\p<=32)(d:1<=f/\f<=32)(e:1<=t/\t<=4)(g:0<=lim/\lim<=1000)(h:a.length<=40/\∀x∈a,0<=x):ao Tryz.prog 299 false [.val none [I (p:Nat)],.val none [I (f:Nat)],.val none [I (t:Nat)],.val none [I lim],.val none (aD .imm a)] (.tup [some 24,none]) (ab.enc .own (uB p f t lim a)++[B true]):=by
 have b:=aE lim 0 1000;rw[O0 g]at b;refine fO 66 [(9,4,[54,55,56,57])] Tryz.func299 rfl ?_ (.inr (aP (ab.enc_fr _) ⟨trivial,trivial⟩))
 repeat'(first|refine gO ?_|(conv=>whnf);first|refine CA ?_|refine C7 (wh p f a c d h) ?_|refine C7 (zO t e) ?_|refine C7 (b) ?_|refine C7 (rm) ?_)
 (conv=>whnf)
 refine CE (ι:=Nat) (λk=>[(2,.hold .one [I ((t:Nat))]),(10,.hold .box [.z,.z,.z,I 0,.z,.z,.z,.z,.z,.z,.z,.z,I 0,.z,I 0,I 0,I 0,I 0,B false,I 0,I 0,.z,I 0,I 0]),(16,.hold .box (ab.enc .own (P8 p f t lim a k))),(17,.hold .one [I ((k:Nat):Int)])]) (λk=>k<=t) (λk=>t - k) (0) ?_ (T0 _) λk i=>?_
 ·exact wB
 by_cases j:k<t
 ·repeat'(first|refine gD ?_|(conv=>whnf);first|refine CA ?_|refine C7 (x6) ?_|refine Ap.sn KT rfl (by rw[X0];show(List.replicate _ eM).length+1<=_;rw[O3];omega) (by decide) (H3 k) ?_)
  ((conv=>whnf);refine CC (k+1) ω ω ?_;(exact wB))
 ·obtain rfl:k=t:=ω
  repeat'(first|refine gD ?_|(conv=>whnf);first|refine CA ?_|refine C7 (rm) ?_)
  rfl
theorem Do:ao Tryz.prog 300 false [] .agg (a7.enc .own ⟨1,[]⟩):=by
 refine fO 2 [] Tryz.func300 rfl ?_ (.inr (a7.enc_fr _))
 repeat'((conv=>whnf);first|with_reducible (first|refine Lm ?_|refine Wm ω ?_|refine Bn ?_|refine jn.wk rfl ?_)|refine Bt ?_|refine Bu ?_|refine CA ?_)
 exact⟨rfl,rfl,trivial⟩
theorem xB(c:cA)(h:Db c):ao Tryz.prog 239 false [.val (some 5) (cA.enc .imm c)] (.tup [some 26,none]) (bH.enc .own (world0 c)++[B true]):=by
 have a:=Ai c.Pages c.Frames c.Threads c.Limit c.Refuse h.p h.f h.t h.l h.r;refine fO 26 [(4,2,[23,24])] Tryz.func239 rfl ?_ (.inr (aP (bH.enc_fr _) ⟨trivial,trivial⟩))
 repeat'(first|refine gO ?_|(conv=>whnf);first|refine CA ?_|refine C7 (a) ?_|refine C7 (Do) ?_)
 rfl
def nJ(o:du)(l:List dR):List C:=[.s o (l.map (dR.enc o))]
theorem dR.enc_fr(x:dR):gw (dR.enc .own x):=⟨trivial,trivial,trivial,trivial,trivial,trivial⟩
theorem HZ(l:List dR):gw (nJ .own l):=⟨⟨.inl λh=>(by cases h),bc _ _ λy _=>dR.enc_fr y⟩,trivial⟩
theorem Jb(l:List dR):d9 (nJ .own l)=nJ .imm l:=by simp[d9,nJ,dR.enc,<-bW,z5]
theorem En(zs:List Int)(c:ig)(ids:Int)(b:iQ zs)(p:c.i<=zs.length)(r:1<=ids/\ids<=1000):aQ Tryz.prog 243 false [.ptr (gN zs c),.val none [I ids]] [.ptr (gN zs (rh zs c ids).2),.val none [I ids]] .agg (dR.enc .own (rh zs c ids).1):=by
 have w:=bL p 3;have y:=bL w ids;have d:(ki zs c ids).2.i<=zs.length:=bL y 20;have B:=bK zs c 3 b p (by decide);have C:=bK zs (yz zs c).2 ids b w r.1;have j:=bK zs (Ex zs c ids).2 20 b y (by decide);have H:=bD zs c (n:=3) (by decide);have J:=bD zs (yz zs c).2 (n:=ids) r.1;have D:=bD zs (Ex zs c ids).2 (n:=20) (by decide);have e:=iz zs (ki zs c ids).2 szs b d (by decide);have E:=iz zs (ki zs c ids).2 [5,6] b d (by decide);have F:=iz zs (ki zs c ids).2 [1,30,60,120] b d (by decide);have l:=iz zs (ki zs c ids).2 [1,2,3,10,30] b d (by decide);have g:=bK zs (ki zs c ids).2 4 b d (by decide);have h:=bK zs (bq zs (ki zs c ids).2 4).2 999 b (bL d _) (by decide);have G:=bK zs (ki zs c ids).2 10 b d (by decide);have K:=bD zs (bq zs (ki zs c ids).2 4).2 (n:=999) (by decide);have L:=bD zs (ki zs c ids).2 (n:=10) (by decide);change aQ _ _ _ _ [.ptr (gN zs (yz zs c).2),_] _ [I (yz zs c).1]at B;change aQ _ _ _ _ [.ptr (gN zs (Ex zs c ids).2),_] _ [I (Ex zs c ids).1]at C;change aQ _ _ _ _ [.ptr (gN zs (ki zs c ids).2),_] _ [I (ki zs c ids).1]at j;change 0<=(yz zs c).1/\(yz zs c).1<3 at H;change 0<=(Ex zs c ids).1/\(Ex zs c ids).1<ids at J;change 0<=(ki zs c ids).1/\(ki zs c ids).1<20 at D;have o:=dR.enc_fr (rh zs c ids).1;unfold rh at o |-;generalize ki zs c ids=k at *;generalize Ex zs c ids=n at *;generalize yz zs c=t at *;obtain⟨a,M⟩:=k;dsimp only at d e E F l g h G K L D j o |-;refine fM 77 [(92,[2,0]),(310,[2,1])] [] [(0,0),(0,0)] Tryz.func243 rfl (λu q=>?_) (.inr o)
 repeat'(first|refine gO ?_|(conv=>whnf);first|refine CH (B) (.inl rfl) ?_|refine CH (C) (.inl rfl) ?_|refine CH (j) (.inl rfl) ?_)
 obtain rfl|rfl|rfl|rfl|rfl|rfl|rfl|rfl|rfl|rfl|rfl|rfl|rfl|rfl|rfl|rfl|rfl|rfl|rfl|rfl:=(show a=0\/a=1\/a=2\/a=3\/a=4\/a=5\/a=6\/a=7\/a=8\/a=9\/a=10\/a=11\/a=12\/a=13\/a=14\/a=15\/a=16\/a=17\/a=18\/a=19 by omega)
 ·rw[C9 (show((0:Int))<=6 by decide)]
  repeat'(first|refine gO ?_|(conv=>whnf);first|refine CH (e) (.inl rfl) ?_)
  refine CF rfl rfl ?_;exact wC
 ·rw[C9 (show((1:Int))<=6 by decide)]
  repeat'(first|refine gO ?_|(conv=>whnf);first|refine CH (e) (.inl rfl) ?_)
  refine CF rfl rfl ?_;exact wC
 ·rw[C9 (show((2:Int))<=6 by decide)]
  repeat'(first|refine gO ?_|(conv=>whnf);first|refine CH (e) (.inl rfl) ?_)
  refine CF rfl rfl ?_;exact wC
 ·rw[C9 (show((3:Int))<=6 by decide)]
  repeat'(first|refine gO ?_|(conv=>whnf);first|refine CH (e) (.inl rfl) ?_)
  refine CF rfl rfl ?_;exact wC
 ·rw[C9 (show((4:Int))<=6 by decide)]
  repeat'(first|refine gO ?_|(conv=>whnf);first|refine CH (e) (.inl rfl) ?_)
  refine CF rfl rfl ?_;exact wC
 ·rw[C9 (show((5:Int))<=6 by decide)]
  repeat'(first|refine gO ?_|(conv=>whnf);first|refine CH (e) (.inl rfl) ?_)
  refine CF rfl rfl ?_;exact wC
 ·rw[C9 (show((6:Int))<=6 by decide)]
  repeat'(first|refine gO ?_|(conv=>whnf);first|refine CH (e) (.inl rfl) ?_)
  refine CF rfl rfl ?_;exact wC
 ·rw[C8 (show ¬((7:Int)<=6) by decide),C9 (show((7:Int))<=9 by decide)]
  repeat'(first|refine gO ?_|fail)
  refine CF rfl rfl ?_;exact wC
 ·rw[C8 (show ¬((8:Int)<=6) by decide),C9 (show((8:Int))<=9 by decide)]
  repeat'(first|refine gO ?_|fail)
  refine CF rfl rfl ?_;exact wC
 ·rw[C8 (show ¬((9:Int)<=6) by decide),C9 (show((9:Int))<=9 by decide)]
  repeat'(first|refine gO ?_|fail)
  refine CF rfl rfl ?_;exact wC
 ·rw[C8 (show ¬((10:Int)<=6) by decide),C8 (show ¬((10:Int)<=9) by decide),C9 (show((10:Int))<=12 by decide)]
  repeat'(first|refine gO ?_|(conv=>whnf);first|refine CH (g) (.inl rfl) ?_|refine CH (h) (.inl rfl) ?_)
  refine CF rfl rfl ?_;exact wC
 ·rw[C8 (show ¬((11:Int)<=6) by decide),C8 (show ¬((11:Int)<=9) by decide),C9 (show((11:Int))<=12 by decide)]
  repeat'(first|refine gO ?_|(conv=>whnf);first|refine CH (g) (.inl rfl) ?_|refine CH (h) (.inl rfl) ?_)
  refine CF rfl rfl ?_;exact wC
 ·rw[C8 (show ¬((12:Int)<=6) by decide),C8 (show ¬((12:Int)<=9) by decide),C9 (show((12:Int))<=12 by decide)]
  repeat'(first|refine gO ?_|(conv=>whnf);first|refine CH (g) (.inl rfl) ?_|refine CH (h) (.inl rfl) ?_)
  refine CF rfl rfl ?_;exact wC
 ·rw[C8 (show ¬((13:Int)<=6) by decide),C8 (show ¬((13:Int)<=9) by decide),C8 (show ¬((13:Int)<=12) by decide),C9 (show((13:Int))=13 by decide)]
  repeat'(first|refine gO ?_|(conv=>whnf);first|refine CH (G) (.inl rfl) ?_)
  refine CF rfl rfl ?_;exact wC
 ·rw[C8 (show ¬((14:Int)<=6) by decide),C8 (show ¬((14:Int)<=9) by decide),C8 (show ¬((14:Int)<=12) by decide),C8 (show ¬((14:Int)=13) by decide),C9 (show((14:Int))=14 by decide)]
  repeat'(first|refine gO ?_|(conv=>whnf);first|refine CH (E) (.inl rfl) ?_)
  refine CF rfl rfl ?_;exact wC
 ·rw[C8 (show ¬((15:Int)<=6) by decide),C8 (show ¬((15:Int)<=9) by decide),C8 (show ¬((15:Int)<=12) by decide),C8 (show ¬((15:Int)=13) by decide),C8 (show ¬((15:Int)=14) by decide),C9 (show((15:Int))=15 by decide)]
  repeat'(first|refine gO ?_|fail)
  refine CF rfl rfl ?_;exact wC
 ·rw[C8 (show ¬((16:Int)<=6) by decide),C8 (show ¬((16:Int)<=9) by decide),C8 (show ¬((16:Int)<=12) by decide),C8 (show ¬((16:Int)=13) by decide),C8 (show ¬((16:Int)=14) by decide),C8 (show ¬((16:Int)=15) by decide),C9 (show((16:Int))=16 by decide)]
  repeat'(first|refine gO ?_|(conv=>whnf);first|refine CH (F) (.inl rfl) ?_)
  refine CF rfl rfl ?_;exact wC
 ·rw[C8 (show ¬((17:Int)<=6) by decide),C8 (show ¬((17:Int)<=9) by decide),C8 (show ¬((17:Int)<=12) by decide),C8 (show ¬((17:Int)=13) by decide),C8 (show ¬((17:Int)=14) by decide),C8 (show ¬((17:Int)=15) by decide),C8 (show ¬((17:Int)=16) by decide),C9 (show((17:Int))=17 by decide)]
  repeat'(first|refine gO ?_|fail)
  refine CF rfl rfl ?_;exact wC
 ·rw[C8 (show ¬((18:Int)<=6) by decide),C8 (show ¬((18:Int)<=9) by decide),C8 (show ¬((18:Int)<=12) by decide),C8 (show ¬((18:Int)=13) by decide),C8 (show ¬((18:Int)=14) by decide),C8 (show ¬((18:Int)=15) by decide),C8 (show ¬((18:Int)=16) by decide),C8 (show ¬((18:Int)=17) by decide)]
  repeat'(first|refine gO ?_|(conv=>whnf);first|refine CH (l) (.inl rfl) ?_)
  refine CF rfl rfl ?_;exact wC
 ·rw[C8 (show ¬((19:Int)<=6) by decide),C8 (show ¬((19:Int)<=9) by decide),C8 (show ¬((19:Int)<=12) by decide),C8 (show ¬((19:Int)=13) by decide),C8 (show ¬((19:Int)=14) by decide),C8 (show ¬((19:Int)=15) by decide),C8 (show ¬((19:Int)=16) by decide),C8 (show ¬((19:Int)=17) by decide)]
  repeat'(first|refine gO ?_|(conv=>whnf);first|refine CH (l) (.inl rfl) ?_)
  refine CF rfl rfl ?_;exact wC
theorem AA(zs:List Int)(c:ig)(b:iQ zs)(d:c.i<=zs.length):aQ Tryz.prog 151 false [.ptr (gN zs c),.val none [I 40]] [.ptr (gN zs (mV zs c).2),.val none [I 40]] .one (nJ .own (mV zs c).1):=by
 have e:=bK zs c 41 b d (by decide);have g:=bD zs c (n:=41) (by decide);obtain⟨n,h⟩:=U2 g.1;have a:(bq zs c 41).1.toNat=n:=by rw[h];rfl
 unfold mV;rw[a];rw[h]at e g;refine fM 27 [(92,[2,0]),(243,[2,0])] [] [(0,0),(0,0)] Tryz.func151 rfl (λu q=>?_) (.inr (HZ _))
 repeat'(first|refine gO ?_|(conv=>whnf);first|refine CH (e) (.inl rfl) ?_)
 (conv=>whnf)
 refine CE (ι:=Nat) (λi=>[(0,.hold .box (gN zs (kM zs c i).2)),(5,.hold .one (nJ .own (kM zs c i).1)),(6,.hold .one [I ((n:Nat):Int)]),(7,.hold .one [I ((i:Nat):Int)])]) (λi=>i<=n) (λi=>n - i) (0) ?_ (T0 _) λi p=>?_
 ·exact wC
 obtain⟨t,-,j⟩:=qY (zs:=zs) (c:=c) d (n:=i) ω;by_cases w:i<n
 ·have k:=En zs (kM zs c i).2 (1+(i:Int) / 2) b j ω
  have l:((i:Nat):Int).tdiv 2=(i:Int) / 2:=Int.tdiv_eq_ediv_of_nonneg ω
  repeat'(first|refine gD ?_|(conv=>whnf);first|with_reducible (first|refine CR l ?_|refine CL ω ?_)|refine CH (k) (.inl rfl) ?_|refine CP (aK λ_=>rfl) (λr o=>by rw[C1.1 o];rfl) (by simp[aV,dz,dR.enc]) (by simp;omega) (by simp only[X0];exact wi (by simp;omega) (by decide)) rfl ?_)
  ((conv=>whnf);refine CC (i+1) ω ω ?_)
  repeat'(first|exact trivial|rfl| exact dc _ |exact CI rfl (CI (U0 (C.s du.own) (by simp[kM];rfl)) trivial)|refine CI ?_ ?_|(exact xv (by first|omega|(simp only;omega)|(simp;omega))))
 ·obtain rfl:i=n:=ω
  repeat'(first|refine gD ?_|fail)
  refine CF rfl rfl ?_;exact wC
def rfs(h:ab):List Int:=h.Kernel.Refuse
theorem Aq(k:af)(p:Int):(fC k p).1.Refuse=k.Refuse:=by unfold fC;split<;>rfl
theorem qT(k:af)(p:Int):∀n,(cu k p n).1.Refuse=k.Refuse
 | 0=>rfl
 | n+1=>by
  unfold cu;split
  ·exact(Aq _ _).trans (qT k p n)
  ·exact qT k p n
theorem Kq(h:ab)(i:Nat):rfs (lC h i).1=rfs h:=by unfold lC;split<;>rfl
theorem zf(h:ab)(t c:Nat):rfs (eg h t c).1=rfs h:=by
 unfold eg;split
 ·rfl
 split
 ·rfl
 split
 ·rfl
 split
 ·exact Aq _ _
 ·exact(Kq _ _).trans (Aq _ _)
theorem Js(h:ab)(t n:Int):rfs (eO h t n).1=rfs h:=by
 unfold eO;split
 ·rfl
 split
 ·rfl
 split
 ·rfl
 split
 ·rfl
 split
 ·split
  ·exact zf _ _ _
  ·exact zf _ _ _
 ·unfold mH
  split
  ·rfl
  split
  ·exact qT _ _ _
  ·exact((ia _ _ _).2).trans (qT _ _ _)
theorem Km(h:ab)(t i:Nat):rfs (freeT h t i).1=rfs h:=by
 unfold freeT;split
 ·exact(ia _ _ _).2
 split
 ·rfl
 split
 ·exact(d4 t _ _).2.2.2.2.2.2.2
 split<;>rfl
theorem y7(t:Nat)(h:ab):∀k,rfs (flushN t h k).1=rfs h
 | 0=>rfl
 | k+1=>((gZ _ (spilt (flushN t h k).1 t k)).2.2.2.2.2.2.2).trans (y7 t h k)
theorem FM{h:ab}(a:bn h [])(b:JI h):∀n,rfs (l9 h n).1=rfs h
 | 0=>rfl
 | n+1=>by
  obtain⟨c,d⟩:=rZ a b n;unfold l9;split
  ·rename_i e
   unfold q9 at e;rw[I0]at e;exact((uT c e.1).2.2.1).trans (FM a b n)
  ·exact FM a b n
theorem L9{w:bH}{m:Nat}(h:rD w m)(a:dR):rfs (lH w a).1.Heap=rfs w.Heap:=by
 unfold lH;split
 ·exact Js _ _ _
 split
 ·split
  ·rfl
  unfold mB;split
  ·unfold ox
   split
   ·rfl
   split
   ·exact Km _ _ _
   ·rfl
  split
  ·unfold ll
   split
   ·rfl
   split
   ·rfl
   split<;>rfl
  ·unfold oG
   split
   ·exact((ia _ _ _).2).trans (ql _ _ _).2.2
   ·rfl
 split
 ·unfold fD
  split
  ·split<;>rfl
  split
  ·rfl
  split
  ·exact(d4 _ _ _).2.2.2.2.2.2.2
  ·exact y7 _ _ _
 split
 ·unfold m7
  split
  ·exact(gZ _ _).2.2.2.2.2.2.2
  ·rfl
 split
 ·unfold mG
  split
  ·rfl
  ·show rfs (started w.Heap).1=_
   unfold rfs;rw[(nM h.inv).2.1]
 split
 ·exact FM h.inv h.ji _
 ·rfl
theorem EO{c:cA}(h:Db c)(acts:List dR):∀n,rfs (yw c acts n).1.Heap=c.Refuse
 | 0=>rfl
 | n+1=>(L9 (si h acts n) _).trans (EO h acts n)
def pZ(w:bH):List C:=b6 w.Heap++a7.enc .imm w.Ref
theorem MH(w:bH):d9 (pZ w)=bH.enc .imm w:=by
 unfold pZ;rw[eH,bB,<-CY,qt,CY]
 rfl
theorem Bp(w:bH)(id:Int)(g:w.Heap.Objs.length<=1048576):aQ Tryz.prog 302 false [.ptr (pZ w),.val none [I id]] [.ptr (pZ w),.val none [I id]] .one [I (ro w.Heap id)]:=by
 refine fM 28 [] [] [(0,0),(0,0)] Tryz.func302 rfl (λu q=>?_)
 repeat'(first|refine gO ?_|(conv=>whnf);first|refine CA ?_)
 (conv=>whnf)
 refine CE (ι:=Nat) (λi=>[(0,.hold .box (pZ w)),(1,.hold .one [I (id)]),(5,.hold .one [I ((i:Nat):Int)])]) (λi=>i<=w.Heap.Objs.length/\∀(j:Nat)(z:bm),j<i->w.Heap.Objs[j]? = some z->LL id z=false) (λi=>w.Heap.Objs.length - i) (0) ?_ (⟨T0 _,λj z h=>ω⟩) λi c=>?_
 ·exact wC
 obtain⟨c,b⟩:=c;by_cases d:i<w.Heap.Objs.length
 ·have a:=ah d
  by_cases e:(nth w.Heap.Objs i).Id=id
  ·repeat'(first|refine gA ?_|(conv=>whnf);first|with_reducible refine CB (aa a) ?_|refine CA ?_|refine CG rfl (aa a) rfl ?_)
   refine CF rfl (U0 (λz=>[I z]) (dM a (O0 e) b).symm) ?_;exact wC
  ·repeat'(first|refine gA ?_|(conv=>whnf);first|with_reducible refine CB (aa a) ?_|refine CA ?_|refine CG rfl (aa a) rfl ?_)
   ((conv=>whnf);refine CC (i+1) ⟨ω,dl a (R0 e) b⟩ ω ?_;(exact wC))
 ·repeat'(first|refine gD ?_|(conv=>whnf);first|refine CA ?_)
  refine CF rfl (U0 (λz=>[I z]) (fX ω b).symm) ?_;exact wC
theorem cJ(y:ab):(b6 y).length=24:=rfl
theorem xT(w:bH)(m n:Nat)(h:rD w m)(B:n<=50):aQ Tryz.prog 308 false [.ptr (pZ w),.val none [I (n:Nat)]] [.ptr (pZ ⟨(l9 w.Heap n).1,w.Ref⟩),.val none [I (n:Nat)]] .one [I ((l9 w.Heap n).2:Nat)]:=by
 refine fM 35 [(368,[2])] [] [(0,0),(0,0)] Tryz.func308 rfl (λu q=>?_)
 repeat'(first|refine gO ?_|(conv=>whnf);first|refine CA ?_)
 (conv=>whnf)
 refine CE (ι:=Nat) (λi=>[(0,.hold .box (pZ ⟨(l9 w.Heap i).1,w.Ref⟩)),(1,.hold .one [I ((n:Nat):Int)]),(5,.hold .one [I (((l9 w.Heap i).2:Nat):Int)]),(6,.hold .one [I ((i:Nat):Int)])]) (λi=>i<=n/\(l9 w.Heap i).2=i) (λi=>n - i) (0) ?_ (⟨T0 _,rfl⟩) λi l=>?_
 ·exact wC
 obtain⟨l,C⟩:=l;obtain⟨o,D⟩:=rZ h.inv h.ji i;have b:l9 w.Heap (i+1)=if q9 (l9 w.Heap i).1=true then(mStep (l9 w.Heap i).1,(l9 w.Heap i).2+1) else l9 w.Heap i:=rfl
 have p:=(aC.1 o.ker).2.2.2.2;by_cases E:i<n
 ·cases c:(l9 w.Heap i).1.Meshing with
  | true=>
   have y:=(Bc _ o c).frame (r:=a7.enc .imm w.Ref) ((cJ _).trans (cJ _).symm);by_cases g:(l9 w.Heap i).1.Kernel.Calls<=99000
   ·have d:q9 (l9 w.Heap i).1=true:=by unfold q9;rw[c,O0 g];rfl
    rw[C9 d]at b;generalize l9 w.Heap i=s at *
    repeat'(first|refine gD ?_|(conv=>whnf);first|refine CA ?_|refine Bf.t (O0 g) ?_|refine Bf.t c ?_|refine CH (y) (.inl rfl) ?_)
    ((conv=>whnf);refine CC (i+1) ⟨ω,by rw[b];simp only;omega⟩ ω ?_)
    rw[b];exact wC
   ·have d:q9 (l9 w.Heap i).1=false:=by unfold q9;rw[c,R0 g];rfl
    have a:∀k,l9 w.Heap (i+k)=l9 w.Heap i:=λk=>by
     induction k with
     | zero=>rfl
     | succ k j=>show(if q9 (l9 w.Heap (i+k)).1=true then _ else l9 w.Heap (i+k))=_;rw[j,d,C8 (by simp)]
    have e:=a (n - i);rw[show i+(n - i)=n by omega]at e;rw[e];generalize l9 w.Heap i=s at *
    repeat'(first|refine gD ?_|(conv=>whnf);first|refine CA ?_|refine Bf.f (R0 g) ?_|refine Bf.t c ?_)
    refine CF rfl rfl ?_;exact wC
  | false=>
   have d:q9 (l9 w.Heap i).1=false:=by unfold q9;rw[c];rfl
   have a:∀k,l9 w.Heap (i+k)=l9 w.Heap i:=λk=>by
    induction k with
    | zero=>rfl
    | succ k j=>show(if q9 (l9 w.Heap (i+k)).1=true then _ else l9 w.Heap (i+k))=_;rw[j,d,C8 (by simp)]
   have e:=a (n - i);rw[show i+(n - i)=n by omega]at e;rw[e];generalize l9 w.Heap i=s at *
   repeat'(first|refine gD ?_|(conv=>whnf);first|refine CA ?_|refine Bf.f c ?_)
   refine CF rfl rfl ?_;exact wC
 ·obtain rfl:i=n:=ω
  repeat'(first|refine gD ?_|(conv=>whnf);first|refine CA ?_)
  refine CF rfl rfl ?_;exact wC
theorem EV{k:af}(a:aB k=true):(aB k&&decide (k.Calls<100000))=decide (k.Calls≠100000):=by
 have:=(aC.1 a).2.2.2.2;rw[a,Bool.true_and,I4,C0,C0];omega
theorem wL(w:bH)(a:dR)(m:Nat)(h:rD w m)(B:a.Kind=5\/a.Kind=6\/a.Kind=7):aQ Tryz.prog 304 false [.ptr (pZ w),.val (some 5) (dR.enc .imm a)] [.ptr (pZ ⟨(fD w.Heap a).1,w.Ref⟩),.val (some 5) (dR.enc .imm a)] .one [I (fD w.Heap a).2]:=by
 have d:=h.inv;have o:=d.nc;have p:w.Heap.Caches.length<=4:=by have:=(dv.1 d.mail).1.2.1;omega
 have C:=k6.of d.mail;have i:=kF w.Heap.Kernel (bt d.ker);rw[EV d.ker]at i;have j:=aE a.Thread 0 (w.Heap.Caches.length - 1:Int);unfold fD;refine fM 59 [(361,[2,0]),(362,[2,0])] [(3,267,[15,16,17,18,19,20,21,14,22,23,6,0,1,2,3,4,5,6,7,8,9,10,11,1009,12]),(8,15,[30,31,32,33,34,35,36,37,38,39,40,41,42,43,44])] [(0,0),(0,0)] Tryz.func304 rfl (λu q=>?_);by_cases l:a.Kind=5
 ·rw[C9 l]
  by_cases e:0<=a.Thread/\a.Thread<=w.Heap.Caches.length - 1
  ·have y:nD w.Heap a:=e
   obtain⟨t,g⟩:=U2 e.1;have b:=D6 w.Heap.Mail t d.mail ω;rw[<-g]at b;rw[g]at e |-;simp only[R2];rw[g]at b;by_cases c:0<(nth w.Heap.Mail.Buffers t).length
   ·rw[C9 (show nD w.Heap a/\0<(nth w.Heap.Mail.Buffers t).length from⟨y,c⟩)]
    rw[C9 c,O0 c]at b;rw[<-g]at b
    repeat'(first|refine gA ?_|(conv=>whnf);first|with_reducible refine Bf.E (λk=>?_) (λk=>?_)|refine CA ?_|refine CD (b) ⟨⟨rfl,aI.enc_fz w.Heap.Mail⟩,⟨rfl,rfl⟩,trivial⟩ ?_|refine CA ?_)
    refine CF rfl rfl ?_;exact wC
   ·rw[C8 (show ¬(nD w.Heap a/\0<(nth w.Heap.Mail.Buffers t).length) from λx=>c x.2)]
    rw[C8 c,R0 c]at b;rw[<-g]at b
    repeat'(first|refine gA ?_|(conv=>whnf);first|with_reducible refine Bf.E (λk=>?_) (λk=>?_)|refine CA ?_|refine CD (b) ⟨⟨rfl,aI.enc_fz w.Heap.Mail⟩,⟨rfl,rfl⟩,trivial⟩ ?_|refine CA ?_)
    refine CF rfl rfl ?_;exact wC
  ·rw[C8 (show ¬(nD w.Heap a/\0<(nth w.Heap.Mail.Buffers a.Thread.toNat).length) from λx=>e x.1)]
   have b:=FF w.Heap.Mail a.Thread d.mail ω
   repeat'(first|refine gA ?_|(conv=>whnf);first|with_reducible refine Bf.E (λk=>?_) (λk=>?_)|refine CA ?_|refine CD (b) ⟨⟨rfl,aI.enc_fz w.Heap.Mail⟩,⟨rfl,rfl⟩,trivial⟩ ?_|refine CA ?_)
   refine CF rfl rfl ?_;exact wC
 rw[C8 l];by_cases e:w.Heap.Kernel.Calls≠100000;rotate_left
 ·rw[C9 (show ¬(w.Heap.Kernel.Calls≠100000/\nD w.Heap a) from λx=>e x.1)]
  rw[R0 e]at i
  repeat'(first|refine gA ?_|(conv=>whnf);first|refine CA ?_|refine CD (i) ⟨⟨rfl,CO _⟩,trivial⟩ ?_|refine CA ?_)
  refine CF rfl rfl ?_;exact wC
 rw[O0 e]at i;by_cases c:0<=a.Thread/\a.Thread<=w.Heap.Caches.length - 1;rotate_left
 ·rw[C9 (show ¬(w.Heap.Kernel.Calls≠100000/\nD w.Heap a) from λx=>c x.2)]
  rw[R0 c]at j
  repeat'(first|refine gA ?_|(conv=>whnf);first|refine CA ?_|refine CD (i) ⟨⟨rfl,CO _⟩,trivial⟩ ?_|refine C7 (j) ?_|refine CA ?_)
  refine CF rfl rfl ?_;exact wC
 rw[C8 (show ¬¬(w.Heap.Kernel.Calls≠100000/\nD w.Heap a) from W3 ⟨e,c⟩)];rw[O0 c]at j;obtain⟨t,g⟩:=U2 c.1;by_cases n:a.Kind=6
 ·rw[C9 n]
  have b:=(tT w.Heap t d ω).frame (r:=a7.enc .imm w.Ref) ((cJ _).trans (cJ _).symm);rw[show a.Thread.toNat=t by omega];rw[<-g]at b
  repeat'(first|refine gA ?_|(conv=>whnf);first|refine CA ?_|refine CD (i) ⟨⟨rfl,CO _⟩,trivial⟩ ?_|refine C7 (j) ?_|refine CH (b) (.inl rfl) ?_|refine CA ?_)
  refine CF rfl rfl ?_;exact wC
 ·rw[C8 n]
  have b:=(yd w.Heap t d ω).frame (r:=a7.enc .imm w.Ref) ((cJ _).trans (cJ _).symm);rw[show a.Thread.toNat=t by omega];rw[<-g]at b
  repeat'(first|refine gA ?_|(conv=>whnf);first|refine CA ?_|refine CD (i) ⟨⟨rfl,CO _⟩,trivial⟩ ?_|refine C7 (j) ?_|refine CH (b) (.inl rfl) ?_|refine CA ?_)
  refine CF rfl rfl ?_;exact wC
theorem wW(w:bH)(a:dR)(i m:Nat)(h:rD w m)(X:m<=900)(G:Ke a)(t:i<w.Heap.Objs.length):aQ Tryz.prog 303 false [.ptr (pZ w),.val (some 5) (dR.enc .imm a),.val none [I (i:Nat)]] [.ptr (pZ (mB w a i).1),.val (some 5) (dR.enc .imm a),.val none [I (i:Nat)]] .one [I (mB w a i).2]:=by
 have e:=h.inv;have b:=ah t;have M:=pL e (am t);have N:=mj e (am t) (k:=0);have O:1<=(nth w.Heap.Objs i).Size/\(nth w.Heap.Objs i).Size<=1000:=by
  rcases e.oow _ (am t) with⟨s,P,Y,Z⟩|⟨l,H,d,c⟩
  ·have hc:=aF (e.L.sok s P)
   have:=pC (n:=(nth w.Heap.Objs i).Size) ω;omega
  ·have h8:=cC (e.L.lok l H)
   omega
 have g:=kF w.Heap.Kernel (bt e.ker);rw[EV e.ker]at g;have Q:=G.k;have R:=G.p;have S:=G.v;unfold mB;refine fM 126 [(354,[2,0,0]),(356,[2,0,0]),(358,[2,0,0])] [(6,7,[29,30,31,32,33,34,35]),(8,269,[40,41,42,43,44,45,46,47,39,48,49,50,51,0,1,2,3,4,5,6,7,8,9,10,11,12,13,1010]),(13,10,[62,63,64,65,66,67,68,69,70,71]),(15,273,[76,77,78,79,80,81,82,83,84,85,86,87,75,88,89,90,91,0,1,2,3,4,5,6,7,8,9,10,11,12,13,14,15,16,17,1014]),(17,15,[93,94,95,96,97,98,99,100,101,102,103,104,105,106,107]),(19,271,[112,113,114,115,116,117,118,119,120,121,111,122,123,124,125,0,1,2,3,4,5,6,7,8,9,10,11,12,13,14,15,1012])] [(0,0),(0,0),(0,0)] Tryz.func303 rfl (λu q=>?_);by_cases J:a.Kind=2
 ·rw[C9 J]
  unfold ox;by_cases d:w.Heap.Kernel.Calls=100000
  ·rw[C9 d]
   rw[R0 (W3 d)]at g
   repeat'(first|refine gA ?_|(conv=>whnf);first|with_reducible refine CB (aa b) ?_|refine CA ?_|refine CD (g) ⟨⟨rfl,CO _⟩,trivial⟩ ?_|refine CG rfl (aa b) rfl ?_|refine CA ?_)
   refine CF rfl rfl ?_;exact wC
  rw[C8 d];rw[O0 d]at g;have C:=(Mn w.Heap i a.Thread e t).frame (r:=a7.enc .imm w.Ref) ((cJ _).trans (cJ _).symm);by_cases c:0<=a.Thread/\a.Thread<=w.Heap.Caches.length - 1
  ·rw[C9 (show nD w.Heap a from c)]
   rw[C9 c,C9 c]at C;have T:=AZ w.Ref (nth w.Heap.Objs i).Id m h.ref ω;generalize freeT w.Heap a.Thread.toNat i=f at C |-;by_cases o:f.2=0
   ·rw[C9 o]
    repeat'(first|refine gA ?_|(conv=>whnf);first|with_reducible (first|refine CB (aa b) ?_|refine Bf.E (λj=>?_) (λj=>?_))|refine CA ?_|refine CD (g) ⟨⟨rfl,CO _⟩,trivial⟩ ?_|refine CG rfl (aa b) rfl ?_|refine CH (C) (.inl rfl) ?_|refine Cl.sh T rfl ?_|refine CA ?_)
    refine CF rfl rfl ?_;exact wC
   ·rw[C8 o]
    repeat'(first|refine gA ?_|(conv=>whnf);first|with_reducible (first|refine CB (aa b) ?_|refine Bf.E (λj=>?_) (λj=>?_))|refine CA ?_|refine CD (g) ⟨⟨rfl,CO _⟩,trivial⟩ ?_|refine CG rfl (aa b) rfl ?_|refine CH (C) (.inl rfl) ?_|refine CA ?_)
    refine CF rfl rfl ?_;exact wC
  ·rw[C8 (show ¬nD w.Heap a from c)]
   rw[C8 c,C8 c]at C
   repeat'(first|refine gA ?_|(conv=>whnf);first|with_reducible (first|refine CB (aa b) ?_|refine Bf.E (λj=>?_) (λj=>?_))|refine CA ?_|refine CD (g) ⟨⟨rfl,CO _⟩,trivial⟩ ?_|refine CG rfl (aa b) rfl ?_|refine CH (C) (.inl rfl) ?_|refine CA ?_)
   refine CF rfl rfl ?_;exact wC
 rw[C8 J];by_cases K:a.Kind=3
 ·rw[C9 K]
  unfold ll;have D:=aE a.At 0 ((nth w.Heap.Objs i).Size - 1);by_cases d:0<=a.At/\a.At<=(nth w.Heap.Objs i).Size - 1;rotate_left
  ·rw[C9 d]
   rw[R0 d]at D
   repeat'(first|refine gA ?_|(conv=>whnf);first|with_reducible (first|refine CB (aa b) ?_|refine Bf.E (λj=>?_) (λj=>?_))|refine CA ?_|refine CG rfl (aa b) rfl ?_|refine C7 (D) ?_|refine CA ?_)
   refine CF rfl rfl ?_;exact wC
  rw[C8 (W3 d)];rw[O0 d]at D;have F:=(yo w.Heap i a.At a.Value e t d).frame (r:=a7.enc .imm w.Ref) (by split<;>rfl);have U:=mj e (am t) d;by_cases c:(ar w.Heap.Kernel.Machine.Table (((nth w.Heap.Objs i).Addr+a.At) / 16)).Mode=1
  ·rw[C9 c]
   rw[C9 (.inl c),C9 c]at F
   repeat'(first|refine gA ?_|(conv=>whnf);first|with_reducible (first|refine CB (aa b) ?_|refine Bf.E (λj=>?_) (λj=>?_))|refine CA ?_|refine CG rfl (aa b) rfl ?_|refine C7 (D) ?_|refine CH (F) (.inl rfl) ?_|refine CA ?_)
   refine CF rfl rfl ?_;exact wC
  rw[C8 c];by_cases o:0<=a.Value/\a.Value<=999;rotate_left
  ·rw[C9 o]
   rw[C9 (.inr o),C8 c,C9 o]at F
   repeat'(first|refine gA ?_|(conv=>whnf);first|with_reducible (first|refine CB (aa b) ?_|refine Bf.E (λj=>?_) (λj=>?_))|refine CA ?_|refine CG rfl (aa b) rfl ?_|refine C7 (D) ?_|refine CH (F) (.inl rfl) ?_|refine CA ?_)
   refine CF rfl rfl ?_;exact wC
  rw[C8 (W3 o)];rw[C8 (λx=>x.elim c λy=>y o),C8 c,C8 (W3 o)]at F;obtain⟨b5,V⟩:=zH w.Ref (nth w.Heap.Objs i).Id a.At a.Value m h.ref ω o
  repeat'(first|refine gA ?_|(conv=>whnf);first|with_reducible (first|refine CB (aa b) ?_|refine Bf.E (λj=>?_) (λj=>?_))|refine CA ?_|refine CG rfl (aa b) rfl ?_|refine C7 (D) ?_|refine CH (F) (.inl rfl) ?_|refine C7 (V) ?_|refine CA ?_)
  refine CF rfl rfl ?_;exact wC
 rw[C8 K];unfold oG;by_cases d:w.Heap.Kernel.Calls=100000
 ·rw[C8 (λx=>x.1 d)]
  rw[R0 (W3 d)]at g
  repeat'(first|refine gA ?_|(conv=>whnf);first|with_reducible refine CB (aa b) ?_|refine CA ?_|refine CD (g) ⟨⟨rfl,CO _⟩,trivial⟩ ?_|refine CG rfl (aa b) rfl ?_|refine CA ?_)
  refine CF rfl rfl ?_;exact wC
 rw[O0 d]at g;by_cases c:kE w.Heap i a.Value
 ·rw[C9 ⟨d,c⟩]
  have B:=(rj w.Heap i a.Value e t c.1).frame (r:=a7.enc .imm w.Ref) (by split<;>rfl);rw[C9 c,O0 c]at B;obtain⟨b7,W⟩:=BN w.Ref (nth w.Heap.Objs i).Id a.Value m h.ref ω
  repeat'(first|refine gA ?_|(conv=>whnf);first|with_reducible refine CB (aa b) ?_|refine CA ?_|refine CD (g) ⟨⟨rfl,CO _⟩,trivial⟩ ?_|refine CG rfl (aa b) rfl ?_|refine CH (B) (.inl rfl) ?_|refine C7 (W) ?_|refine CA ?_)
  refine CF rfl rfl ?_;exact wC
 ·rw[C8 (λx=>c x.2)]
  by_cases o:xI w.Heap (nth w.Heap.Objs i).Addr<0
  ·have B:=(Fu w.Heap (nth w.Heap.Objs i).Addr a.Value (by have:=e.lens.larges;omega) e.L.lok o).frame (r:=a7.enc .imm w.Ref) ((cJ _).trans (cJ _).symm)
   repeat'(first|refine gA ?_|(conv=>whnf);first|with_reducible refine CB (aa b) ?_|refine CA ?_|refine CD (g) ⟨⟨rfl,CO _⟩,trivial⟩ ?_|refine CG rfl (aa b) rfl ?_|refine CH (B) (.inl rfl) ?_|refine CA ?_)
   refine CF rfl rfl ?_;exact wC
  ·have B:=(rj w.Heap i a.Value e t ω).frame (r:=a7.enc .imm w.Ref) (by split<;>rfl)
   rw[C8 c,R0 c]at B
   repeat'(first|refine gA ?_|(conv=>whnf);first|with_reducible refine CB (aa b) ?_|refine CA ?_|refine CD (g) ⟨⟨rfl,CO _⟩,trivial⟩ ?_|refine CG rfl (aa b) rfl ?_|refine CH (B) (.inl rfl) ?_|refine CA ?_)
   refine CF rfl rfl ?_;exact wC
theorem rD.fit{w:bH}{m:Nat}(h:rD w m)(a:iK w.Heap.Kernel.Refuse):ab.sml w.Heap/\ab.wf w.Heap:=
 ⟨(h.inv.fit a (k6.of h.inv.mail).sml).sml,h.inv.wf a⟩
theorem FO(w:bH)(a:dR)(m:Nat)(h:rD w m)(K:m<=900)(L:iK w.Heap.Kernel.Refuse)(p:Ke a):aQ Tryz.prog 240 false [.ptr (pZ w),.val (some 5) (dR.enc .imm a)] [.ptr (pZ (lH w a).1),.val (some 5) (dR.enc .imm a)] .one [I (lH w a).2]:=by
 have i:=h.inv;have M:=p.k;have O:=p.n;have j:=i.nums;unfold cg at j;rw[C0]at j;unfold lH;refine fM 123 [(143,[2,0,0]),(302,[2,0]),(303,[2,0,0]),(304,[2,0]),(306,[2,0]),(307,[2]),(308,[2,0])] [(3,265,[13,14,15,16,17,18,19,21,22,0,1,2,3,4,5,6,7,8,9,10,11,1010,12]),(5,269,[26,27,28,29,30,31,32,33,25,34,35,36,37,0,1,2,3,4,5,6,7,8,9,10,11,12,13,1010]),(19,21,[62,63,64,65,66,67,68,69,70,71,72,73,74,75,76,77,78,79,80,81,82]),(21,5,[86,87,88,89,90])] [(0,0),(0,0)] Tryz.func240 rfl (λu q=>?_);by_cases F:a.Kind=1
 ·rw[C9 F]
  have c:=(xQ w.Heap a.Thread a.N i).frame (r:=a7.enc .imm w.Ref) ((cJ _).trans (cJ _).symm);by_cases e:(eO w.Heap a.Thread a.N).2.2=0
  ·rw[C9 e]
   have y:1<=a.N/\a.N<=1000:=by
    refine Classical.byContradiction λB=>?_
    unfold eO at e;rw[C9 B]at e;split at e
    ·exact absurd (show(5:Int)=0 from e) (by decide)
    split at e
    ·exact absurd (show(1:Int)=0 from e) (by decide)
    exact absurd (show(2:Int)=0 from e) (by decide)
   have o:=xM w.Ref a.N m h.ref ω y;generalize eO w.Heap a.Thread a.N=f at c e |-
   repeat'(first|refine gA ?_|(conv=>whnf);first|with_reducible refine Bf.E (λb=>?_) (λb=>?_)|refine CA ?_|refine CH (c) (.inl rfl) ?_|refine C7 (o) ?_|refine CA ?_)
   refine CF rfl rfl ?_;exact wC
  ·rw[C8 e]
   generalize eO w.Heap a.Thread a.N=f at c e |-
   repeat'(first|refine gA ?_|(conv=>whnf);first|with_reducible refine Bf.E (λb=>?_) (λb=>?_)|refine CA ?_|refine CH (c) (.inl rfl) ?_|refine CA ?_)
   refine CF rfl rfl ?_;exact wC
 rw[C8 F];by_cases G:a.Kind=2\/a.Kind=3\/a.Kind=4
 ·rw[C9 G]
  have c:=Bp w a.N (by have:=i.lens.objs;omega);by_cases e:ro w.Heap a.N<0
  ·rw[C9 e]
   repeat'(first|refine gA ?_|(conv=>whnf);first|with_reducible refine Bf.E (λb=>?_) (λb=>?_)|refine CA ?_|refine CH (c) (.inl rfl) ?_)
   all_goals first|omega|skip
   all_goals
    refine CF rfl rfl ?_;exact wC
  ·rw[C8 e]
   obtain⟨P,S,T⟩:=fZ (LL a.N) w.Heap.Objs (by unfold ro at e;omega);have o:=wW w a (ro w.Heap a.N).toNat m h K p P;rw[show(((ro w.Heap a.N).toNat:Nat):Int)=ro w.Heap a.N by omega]at o
   repeat'(first|refine gA ?_|(conv=>whnf);first|with_reducible refine Bf.E (λb=>?_) (λb=>?_)|refine CA ?_|refine CH (c) (.inl rfl) ?_|refine CH (o) (.inl rfl) ?_)
   all_goals first|omega|skip
   all_goals
    refine CF rfl rfl ?_;exact wC
 rw[C8 G];by_cases C:a.Kind=5\/a.Kind=6\/a.Kind=7
 ·rw[C9 C]
  have c:=wL w a m h C
  repeat'(first|refine gA ?_|(conv=>whnf);first|with_reducible refine Bf.E (λb=>?_) (λb=>?_)|refine CA ?_|refine CH (c) (.inl rfl) ?_)
  all_goals first|omega|skip
  all_goals
   refine CF rfl rfl ?_;exact wC
 rw[C8 C];by_cases H:a.Kind=8
 ·rw[C9 H]
  unfold m7;have d:=kF w.Heap.Kernel (bt i.ker);rw[EV i.ker]at d;have c:=aE a.N 0 1000;by_cases g:w.Heap.Kernel.Calls≠100000;rotate_left
  ·rw[C8 (λx=>g x.1)]
   rw[R0 g]at d
   repeat'(first|refine gA ?_|(conv=>whnf);first|with_reducible refine Bf.E (λb=>?_) (λb=>?_)|refine CA ?_|refine CD (d) ⟨⟨rfl,CO _⟩,trivial⟩ ?_|refine CA ?_)
   refine CF rfl rfl ?_;exact wC
  rw[O0 g]at d;by_cases l:0<=a.N/\a.N<=1000;rotate_left
  ·rw[C8 (λx=>l x.2.1)]
   rw[R0 l]at c
   repeat'(first|refine gA ?_|(conv=>whnf);first|with_reducible refine Bf.E (λb=>?_) (λb=>?_)|refine CA ?_|refine CD (d) ⟨⟨rfl,CO _⟩,trivial⟩ ?_|refine C7 (c) ?_|refine CA ?_)
   refine CF rfl rfl ?_;exact wC
  rw[O0 l]at c;by_cases D:w.Heap.Clock+a.N<=1000000
  ·rw[C9 ⟨g,l,D⟩]
   have o:=(zS w.Heap a.N i l D).frame (r:=a7.enc .imm w.Ref) ((cJ _).trans (cJ _).symm)
   repeat'(first|refine gA ?_|(conv=>whnf);first|with_reducible refine Bf.E (λb=>?_) (λb=>?_)|refine CA ?_|refine CD (d) ⟨⟨rfl,CO _⟩,trivial⟩ ?_|refine C7 (c) ?_|refine CH (o) (.inl rfl) ?_|refine CA ?_)
   refine CF rfl rfl ?_;exact wC
  ·rw[C8 (λx=>D x.2.2)]
   repeat'(first|refine gA ?_|(conv=>whnf);first|with_reducible refine Bf.E (λb=>?_) (λb=>?_)|refine CA ?_|refine CD (d) ⟨⟨rfl,CO _⟩,trivial⟩ ?_|refine C7 (c) ?_|refine CA ?_)
   refine CF rfl rfl ?_;exact wC
 rw[C8 H];by_cases J:a.Kind=9
 ·rw[C9 J]
  unfold mG;obtain⟨Q,R⟩:=h.fit L;have d:=Dg w.Heap Q R;rw[show eR w.Heap=true from i.to]at d;cases g:w.Heap.Meshing with
  | true=>
   rw[C9 rfl]
   repeat'(first|refine gA ?_|(conv=>whnf);first|with_reducible refine Bf.E (λb=>?_) (λb=>?_)|refine CA ?_|refine Bf.t g ?_|refine CA ?_)
   refine CF rfl rfl ?_;exact wC
  | false=>
   rw[C8 (by simp)];have c:=(yf w.Heap i).frame (r:=a7.enc .imm w.Ref) ((cJ _).trans (cJ _).symm);cases l:(started w.Heap).2<;>rw[l]at c
   ·rw[C8 (by simp)]
    repeat'(first|refine gA ?_|(conv=>whnf);first|with_reducible refine Bf.E (λb=>?_) (λb=>?_)|refine CA ?_|refine Bf.f g ?_|refine CD (d) ⟨⟨rfl,bB w.Heap⟩,trivial⟩ ?_|refine CH (c) (.inl rfl) ?_|refine CA ?_)
    refine CF rfl rfl ?_;exact wC
   ·rw[C9 rfl]
    repeat'(first|refine gA ?_|(conv=>whnf);first|with_reducible refine Bf.E (λb=>?_) (λb=>?_)|refine CA ?_|refine Bf.f g ?_|refine CD (d) ⟨⟨rfl,bB w.Heap⟩,trivial⟩ ?_|refine CH (c) (.inl rfl) ?_|refine CA ?_)
    refine CF rfl rfl ?_;exact wC
 rw[C8 J];have k10:a.Kind=10:=ω
 have d:=aE a.N 0 50;by_cases g:0<=a.N/\a.N<=50
 ·rw[C9 ⟨k10,g⟩]
  rw[O0 g]at d;obtain⟨n,B⟩:=U2 g.1;have c:=xT w m n h ω;rw[show a.N.toNat=n by omega];rw[<-B]at c
  repeat'(first|refine gA ?_|(conv=>whnf);first|with_reducible refine Bf.E (λb=>?_) (λb=>?_)|refine CA ?_|refine C7 (d) ?_|refine CH (c) (.inl rfl) ?_|refine CA ?_)
  refine CF rfl rfl ?_;exact wC
 ·rw[C8 (λx=>g x.2)]
  rw[R0 g]at d
  repeat'(first|refine gA ?_|(conv=>whnf);first|with_reducible refine Bf.E (λb=>?_) (λb=>?_)|refine CA ?_|refine C7 (d) ?_|refine CA ?_)
  refine CF rfl rfl ?_;exact wC
theorem zu(w:bH)(h1:ab.sml w.Heap)(a:a7.sml w.Ref):ao Tryz.prog 241 false [.val (some 26) (bH.enc .imm w)] .agg (bH.enc .own w):=by
 have b:=AP w.Heap h1;have c:=dK w.Ref a;refine fO 10 [(1,5,[3,4,5,6,7])] Tryz.func241 rfl ?_ (.inr (bH.enc_fr _))
 repeat'(first|refine gO ?_|(conv=>whnf);first|refine C7 (b) ?_|refine C7 (c) ?_|refine CA ?_)
 rfl
theorem A7(c:cA)(acts:List dR)(h:Db c)(d:iK c.Refuse)(n:∀a∈acts,Ke a)(D:acts.length<=80):ao Tryz.prog 149 false [.val (some 5) (cA.enc .imm c),.val none (nJ .imm acts)] (.tup [some 26,none]) (bH.enc .own (yw c acts acts.length).1++aD .own (yw c acts acts.length).2):=by
 have o:=xB c h;refine fP 42 [(240,[2,0]),(2000005,[6,21,25])] [] Tryz.func149 rfl ?_ (.inr (aP (bH.enc_fr _) (bG _)))
 repeat'(first|refine gD ?_|(conv=>whnf);first|refine C7 (o) ?_|refine Ft.mk rfl rfl rfl ?_)
 (conv=>whnf)
 refine CE (ι:=Nat) (λi=>[(1,.hold .one (nJ .imm acts)),(4,.hold .box [.z,.z,.z,I 0,.z,.z,.z,.z,.z,.z,.z,.z,I 0,.z,I 0,I 0,I 0,I 0,B false,I 0,I 0,.z,I 0,I 0,I 0,.z]),(6,.hold .box (pZ (yw c acts i).1)),(8,.hold .one (aD .own (yw c acts i).2)),(9,.hold .one [I ((i:Nat):Int)])]) (λi=>i<=acts.length) (λi=>acts.length - i) (0) ?_ (T0 _) λi p=>?_
 ·repeat'(first|exact trivial|rfl |exact jT q|exact dc _|refine CI ?_ ?_|(exact xv (by first|omega|(simp only;omega)|(simp;omega))))
 have e:=si h acts i;have b:=EO h acts i;have g:(yw c acts i).2.length=i:=by
  clear e b p
  induction i with
  | zero=>rfl
  | succ k t=>show((yw c acts k).2++[_]).length=_;rw[v3,t];rfl
 by_cases j:i<acts.length
 ·have l:=ah j
  have u:=FO (yw c acts i).1 (nth acts i) i e ω (by unfold rfs at b;rw[b];exact d) (n _ (am j))
  repeat'(first|refine gD ?_|(conv=>whnf);first|with_reducible refine CB (aa l) ?_|refine CG rfl (aa l) rfl ?_|refine CH (u) (.inl rfl) ?_|refine CP bV (λr d=>by rw[C1.1 d];rfl) (by simp[aV,dz]) (by simp;omega) (by simp only[X0];exact wi (by simp;omega) (by decide)) rfl ?_)
  ((conv=>whnf);refine CC (i+1) ω ω ?_)
  repeat'(first|exact trivial|rfl| exact dc _ |exact CI rfl (CI (U0 (C.s du.own) (by simp[yw,rI])) trivial)|refine CI ?_ ?_|(exact xv (by first|omega|(simp only;omega)|(simp;omega))))
 ·obtain rfl:i=acts.length:=ω
  have w:=e.fit (by unfold rfs at b;rw[b];exact d);have y:=zu (yw c acts acts.length).1 w.1 (e.ref.sml ω)
  repeat'(first|refine gD ?_|(conv=>whnf);first|refine CD (y) ⟨⟨rfl,MH _⟩,trivial⟩ ?_)
  rfl
theorem BH(zs:List Int)(c:ig):iK (pd zs c).Refuse:=by
 show iK (nr zs 4 0 [] (AO zs c).2).1;have key:∀(f i:Nat)(out:List Int)(c:ig),(∀x∈out,lQ x)->∀x∈(nr zs f i out c).1,lQ x:=by
  intro f
  induction f with
  | zero=>intro i out c h;exact h
  | succ f b=>
   intro i out c h;unfold nr;split
   ·refine b _ _ _ λx a=>?_
    rcases W2.1 a with a|a
    ·exact h x a
    ·rw[C1.1 a]
     have:=bD zs (bq zs c 4).2 (n:=12) (by decide);exact⟨ω,ω⟩
   ·exact h
 exact⟨by
   have d:∀(f i:Nat)(out:List Int)(c:ig),out.length+f<=4->(nr zs f i out c).1.length<=4:=by
     intro f
     induction f with
     | zero=>intro i out c h;exact h
     | succ f b=>
       intro i out c h;unfold nr;split
       · exact b _ _ _ (by simp only[v3,List.length_singleton];omega)
       · show out.length<=4;omega
   have:=d 4 0 [] (AO zs c).2 (X2 _);omega,key 4 0 [] _ (λx a=>by cases a)⟩
theorem xL(zs:List Int)(a:iQ zs):aQ Tryz.prog 61 false [.ptr (gN zs (sB zs))] [.ptr (gN zs (mV zs (fk zs)).2)] .agg (bH.enc .own (drawn zs)):=by
 have b:(sB zs).i<=zs.length:=T0 _;obtain⟨g,d⟩:=oe b;have o:=bD zs (fk zs) (n:=41) (by decide);obtain⟨p,h,-⟩:=qY (zs:=zs) (c:=fk zs) d (n:=(bq zs (fk zs) 41).1.toNat) ω;have e:=wI zs (sB zs) a b;have j:=AA zs (fk zs) a d;have k:=A7 (pd zs (sB zs)) (mV zs (fk zs)).1 g (BH zs _) h (by show(kM zs (fk zs) _).1.length<=80;omega);have l:drawn zs=(yw (pd zs (sB zs)) (mV zs (fk zs)).1 (mV zs (fk zs)).1.length).1:=rfl;rw[l];change aQ _ _ _ _ [.ptr (gN zs (fk zs))] _ _ at e;generalize pd zs (sB zs)=cf at *;generalize r:mV zs (fk zs)=A at *;generalize t:yw cf A.1 A.1.length=R at *;refine fM 14 [(150,[2]),(151,[2,0])] [] [(0,0)] Tryz.func61 rfl (λu q=>?_) (.inr (bH.enc_fr _))
 repeat'(first|refine gO ?_|(conv=>whnf);first|refine CH (e) (.inl rfl) ?_|refine CH (j) (.inl rfl) ?_|refine CD (k) ⟨⟨rfl,cA.enc_fz _⟩,⟨rfl,Jb _⟩,trivial⟩ ?_)
 refine CF rfl rfl ?_;exact wC
def Pd(z:List Int):List C:=[.s .imm (z.map rU)]
theorem tD(zs:List Int)(b:iQ zs):pV Tryz.prog 62 true [.val none (Pd zs)] .box (gN zs (sB zs)):=by
 have r:=b.1;have e:IntKind.i64.wrap (98801+(zs.length:Nat))=w64 (98801+(zs.length:Nat)):=rfl;have g:oV zs 0=98801+(zs.length:Nat):=by show w64 _=_;rw[<-e];exact fg ω ω
 have a:=U0 I g;refine PI (n:=32) (t:=2) (mo:=[]) (tb:=[]) Tryz.func62 (by kernel_rfl) rfl (by kernel_rfl) (by rfl) rfl ?_
 repeat'(first|refine gO ?_|fail)
 (conv=>whnf)
 refine CE (ι:=Nat) (λi=>[(0,.hold .one (Pd zs)),(3,.hold .one [I (oV zs i)]),(4,.hold .one [I ((i:Nat):Int)])]) (λi=>i<=min zs.length 4000) (λi=>min zs.length 4000 - i) (0) ?_ (T0 _) λi u=>?_
 ·repeat'(first|exact trivial|rfl |exact jT a|exact dc _|refine CI ?_ ?_|(exact xv (by first|omega|(simp only;omega)|(simp;omega))))
 have h:IntKind.i64.wrap (oV zs i*131)=w64 (oV zs i*131):=rfl;have j:IntKind.i64.wrap (w64 (oV zs i*131)+nth zs i)=w64 (w64 (oV zs i*131)+nth zs i):=rfl;have k:IntKind.i64.wrap (w64 (w64 (oV zs i*131)+nth zs i)+7)=w64 (w64 (w64 (oV zs i*131)+nth zs i)+7):=rfl;have l:IntKind.i64.wrap (BitVec.ofInt IntKind.i64.bits (w64 (w64 (w64 (oV zs i*131)+nth zs i)+7)) &&& BitVec.ofInt IntKind.i64.bits 1073741823).toNat=oV zs (i+1):=rfl;by_cases c:i<zs.length/\i<4000
 ·have d:=ah c.1
  have w:=b.2 _ (am c.1);generalize oV zs i=H at *;generalize o:oV zs (i+1)=H2 at *
  repeat'(first|refine gD ?_|(conv=>whnf);first|with_reducible (first|refine CB (aa d) ?_|refine CJ h ?_|refine CJ j ?_|refine CJ k ?_|refine CJ l ?_)|refine CG rfl (aa d) rfl ?_)
  ((conv=>whnf);refine CC (i+1) ω ω ?_)
  rw[o];exact wC
 ·obtain rfl:i=min zs.length 4000:=ω
  have p:sB zs = ⟨0,oV zs (min zs.length 4000)⟩:=rfl;rw[p];generalize oV zs (min zs.length 4000)=H at *
  repeat'(first|refine gD ?_|(conv=>whnf);first|with_reducible refine Bf.D (λq=>?_) (λq=>?_))
  all_goals rfl
theorem wV(zs:List Int)(a:iQ zs):ao Tryz.prog 16 false [.val none (Pd zs)] .agg (bH.enc .own (drawn zs)):=by
 have b:=tD zs a;have c:=xL zs a;refine fP 6 [(61,[2])] [] Tryz.func16 rfl ?_ (.inr (bH.enc_fr _))
 repeat'(first|refine gO ?_|(conv=>whnf);first|refine Cl.g b (.inr rfl) ?_|refine CH (c) (.inl rfl) ?_)
 rfl
def cls(h:ab):Int:=h.Kernel.Calls
theorem zD(k:af)(p:Int):(fC k p).1.Calls=k.Calls+1:=by unfold fC;split<;>rfl
theorem DJ(k:af)(p:Int):∀n:Nat,(cu k p n).1.Calls<=k.Calls+n
 | 0=>by show k.Calls<=k.Calls+0;omega
 | n+1=>by
  have a:=DJ k p n;unfold cu;split
  ·refine R4 (U4 (zD (cu k p n).1 (p+(n:Nat)))) ?_
   omega
  ·omega
theorem K7(h:ab)(i:Nat):cls (lC h i).1=cls h:=by unfold lC;split<;>rfl
theorem HE(h:ab)(t c:Nat):cls (eg h t c).1<=cls h+1:=by
 unfold eg;split
 ·show cls h<=_;omega
 split
 ·show cls h<=_;omega
 split
 ·show cls h<=_;omega
 split
 ·exact U4 (zD _ _)
 ·exact U4 ((K7 _ _).trans (zD _ _))
theorem Hs(h:ab)(t n:Int)(a:cls h<=99001):cls (eO h t n).1<=99001:=by
 unfold eO;split
 ·exact a
 rename_i d;have c:cls h<=90000:=by unfold cls;omega
 split
 ·exact a
 split
 ·exact a
 rename_i e;split
 ·exact a
 split
 ·have:=HE h t.toNat (aM n).toNat
  split
  ·show cls (eg h t.toNat (aM n).toNat).1<=_;omega
  ·show cls (eg h t.toNat (aM n).toNat).1<=_;omega
 ·have f:(ky n:Int)<=63:=by unfold ky;omega
  unfold mH;split
  ·exact a
  have b:=DJ h.Kernel (a8 h.Free (ky n:Nat)).2.1 (ky n);unfold cls at c;split
  ·exact R4 b ω
  ·exact R4 (U4 (ia _ _ _).1) (R4 b ω)
theorem KA(h:ab)(t i:Nat):cls (freeT h t i).1=cls h:=by
 unfold freeT;split
 ·exact(ia _ _ _).1
 split
 ·rfl
 split
 ·exact(d4 t _ _).2.2.1
 split<;>rfl
theorem yX(t:Nat)(h:ab):∀k,cls (flushN t h k).1=cls h
 | 0=>rfl
 | k+1=>((gZ _ (spilt (flushN t h k).1 t k)).2.2.1).trans (yX t h k)
theorem LH{h:ab}(a:bn h [])(b:JI h)(c:cls h<=99001):∀n,cls (l9 h n).1<=99001
 | 0=>c
 | n+1=>by
  obtain⟨d,f⟩:=rZ a b n;unfold l9;split
  ·rename_i e
   unfold q9 at e;rw[I0,C0]at e;exact R4 ((uT d e.1).2.1) ω
  ·exact LH a b c n
theorem Lg{w:bH}{m:Nat}(h:rD w m)(a:dR)(b:cls w.Heap<=99001):cls (lH w a).1.Heap<=99001:=by
 unfold lH;split
 ·exact Hs _ _ _ b
 split
 ·split
  ·exact b
  unfold mB;split
  ·unfold ox
   split
   ·exact b
   split
   ·exact R4 (U4 (KA _ _ _)) b
   ·exact b
  split
  ·unfold ll
   split
   ·exact b
   split
   ·exact b
   split<;>exact b
  ·unfold oG
   split
   ·exact R4 (U4 (((ia _ _ _).1).trans (ql _ _ _).2.1)) b
   ·exact b
 split
 ·unfold fD
  split
  ·split<;>exact b
  split
  ·exact b
  split
  ·exact R4 (U4 (d4 _ _ _).2.2.1) b
  ·exact R4 (U4 (yX _ _ _)) b
 split
 ·unfold m7
  split
  ·exact R4 (U4 (gZ _ _).2.2.1) b
  ·exact b
 split
 ·unfold mG
  split
  ·exact b
  ·show cls (started w.Heap).1<=_
   unfold cls;rw[(nM h.inv).2.1];exact b
 split
 ·exact LH h.inv h.ji b _
 ·exact b
theorem Kx{c:cA}(h:Db c)(acts:List dR):∀n,cls (yw c acts n).1.Heap<=99001
 | 0=>by show(0:Int)<=99001;decide
 | n+1=>Lg (si h acts n) _ (Kx h acts n)
set_option maxHeartbeats 2000000
set_option maxHeartbeats 2000000
set_option maxHeartbeats 2000000
set_option maxHeartbeats 2000000
set_option maxHeartbeats 2000000
set_option maxHeartbeats 2000000
theorem JP(zs:List Int):iK (drawn zs).Heap.Kernel.Refuse:=by
 have a:(sB zs).i<=zs.length:=T0 _;have:=EO (oe a).1 (mV zs (fk zs)).1 (mV zs (fk zs)).1.length;unfold rfs at this;show iK (yw _ _ _).1.Heap.Kernel.Refuse;rw[this];exact BH zs _
theorem KE(zs:List Int):(drawn zs).Heap.Kernel.Calls<=99001:=Kx (oe (T0 _)).1 _ _
theorem Hk(zs:List Int):ab.sml (drawn zs).Heap/\ab.wf (drawn zs).Heap:=(Br zs).fit (JP zs)
theorem Pe(zs:List Int)(a:zs.length<=9223372036854775807):ao Tryz.prog 15 false [.val none (Pd zs)] .one [B (decide ((zs.length:Int) > 1048576))]:=by
 refine fO 6 [] Tryz.func15 rfl ?_
 repeat'(first|refine gO ?_|fail)
 rfl
end Go.Proofs.YtembpgjjnioagaaGreat.Ab
