/- Quarantine, ticks, messages collected, cells written, large objects trimmed: the reference's. No condition. -/
import Derived.Test.YtecefhjnejfheaaGreatKqd
import Derived.Test.YtecefhjnejfheaaGreatKqg
import Derived.Test.YtecefhjnejfheaaGreatKqf
import Derived.Test.YtecefhjnejfheaaGreatKqe
set_option linter.unusedVariables false
set_option linter.unusedSimpArgs false
set_option linter.constructorNameAsVariable false
namespace Go.Proofs.YtecefhjnejfheaaGreat.Ab
open Go.RowKit
set_option maxRecDepth 20000
set_option maxHeartbeats 4000000
theorem Hm(now:Int):∀{l:List aO}{i:Nat},i<=l.length->(∀j,j<i->(nth l j).b7<now - 100)->(i<l.length->¬(nth l i).b7<now - 100)->rM now l=i
 | [],i,h,_,_=>by simp at h;subst h;rfl
 | x::xs,0,_,_,h=>by
  unfold rM;exact C8 (h (by simp))
 | x::xs,i+1,b,a,c=>by
  unfold rM;refine(C9 (a 0 ω)).trans ?_;rw[Hm now (l:=xs) (i:=i) (by simp at b;omega) (λj d=>a (j+1) ω) (λe=>c (by simp;omega))]
def Po(q:bR)(now:Int):List C:=bR.enc .own ⟨q.c1,q.a6.drop (rM now q.a6)⟩++cS .own (q.a6.take (rM now q.a6))
theorem vd(q:bR)(now:Int)(g:fE q=true)(G:q.a6.length<=4096)(u:0<=now/\now<=1000000):ar Tryz.prog 535 false [.val (some 2) (bR.enc .V q),.val none [I now],.val none [I 100]] (.tup [some 2,none]) (Po q now):=by
 have w:bR.sml q:=⟨ω,λ_ _=>trivial⟩
 have n:=oN q w;rw[g]at n;have o:=aH now 0 1000000;rw[O0 u]at o;have p:=aH 100 0 1000000;rw[O0 (by decide)]at p;have h:=(jM.1 g).1;have a:gV (Po q now):=bf (bR.enc_fr _) (ux _);have y:∀i,i<q.a6.length->0<=(nth q.a6 i).b7:=λi b=>(h _ (am b)).2.2.2
 unfold Po at a |-;generalize B:rM now q.a6=k at a |-;refine fO 59 [(6,270,[44,45,46,47,48,49,50,51,53,54,55,56,57,58,0,1,2,3,4,5,6,7,9,10,11,12,13,14,8,1009,1010,1011,1012,1013,1014,15,16])] Tryz.func535 rfl ?_ (.inr a)
 repeat'(first|refine gO ?_|(conv=>whnf);first|refine CB ?_|refine C7 (n) ?_|refine C7 (o) ?_|refine C7 (p) ?_)
 (conv=>whnf)
 refine CF (ι:=Nat) (λi=>[(1,.H .one [I (now)]),(2,.H .one [I (100)]),(3,.H .box (bR.enc .V q)),(6,.H .box [I 0,.z]),(8,.H .one [I ((i:Nat):Int)])]) (λi=>i<=q.a6.length/\∀j,j<i->(nth q.a6 j).b7<now - 100) (λi=>q.a6.length - i) (0) ?_ (⟨U0 _,λj C=>ω⟩) λi b=>?_
 ·exact wC
 obtain⟨b,r⟩:=b;by_cases l:i<q.a6.length/\(nth q.a6 i).b7<now - 100
 ·have c:=ao l.1
  repeat'(first|refine gD ?_|(conv=>whnf);first|with_reducible refine CD (aa c) ?_|refine CB ?_|refine CJ rfl (aa c) rfl ?_)
  ((conv=>whnf);refine CE (i+1) ⟨ω,λj C=>by by_cases e:j=i;(subst e;exact l.2);exact r j ω⟩ ω ?_;(exact wC))
 have d:=Hm now (i:=i) b r (λE F=>l ⟨E,F⟩);rw[B]at d;subst d;by_cases t:k<q.a6.length
 ·have c:=ao t
  have:=y k t
  repeat'(first|refine gD ?_|(conv=>whnf);first|with_reducible (first|refine CD (aa c) ?_|refine Bf.D (λg=>?_) (λg=>?_))|refine CB ?_|refine CJ rfl (aa c) rfl ?_|refine CX k rfl (by rw[Z0];omega) (aT λ_=>rfl) Y3 ?_|refine Sl.suf k rfl (by rw[Z0];omega) (aT λ_=>rfl) Z3 ?_|refine CV (λ_=>rfl) (λ_=>rfl) (by rw[R1];omega) (by decide) ?_|refine CV (λ_=>rfl) (λ_=>rfl) (by rw[C3];omega) (by decide) ?_|refine CS (λ_=>rfl) (λ_=>rfl) (by rw[C3];omega) (by decide) ?_|refine CB ?_)
  rfl
 repeat'(first|refine gD ?_|(conv=>whnf);first|refine CB ?_|refine CX k rfl (by rw[Z0];omega) (aT λ_=>rfl) Y3 ?_|refine Sl.suf k rfl (by rw[Z0];omega) (aT λ_=>rfl) Z3 ?_|refine CV (λ_=>rfl) (λ_=>rfl) (by rw[R1];omega) (by decide) ?_|refine CV (λ_=>rfl) (λ_=>rfl) (by rw[C3];omega) (by decide) ?_|refine CS (λ_=>rfl) (λ_=>rfl) (by rw[C3];omega) (by decide) ?_|refine CB ?_)
 rfl
theorem Bx(h:ab)(n:Int)(g:aZ h [])(r:0<=n/\n<=1000)(p:h.b3+n<=1000000):aS Tryz.prog 456 false [.ptr (bx h),.val none [I n]] [.ptr (bx (tick h n)),.val none [I n]] .one [I ((nu h n).length:Nat)]:=by
 have a:=g.nums;unfold cn at a;rw[C0]at a;have t:=g.lens.quar;have i:=vd h.a9 (h.b3+n) g.quar ω ⟨ω,p⟩;have j:=g.aged r.1 p;unfold Po at i;unfold tick nu aged at *;have l:(h.a9.a6.take (rM (h.b3+n) h.a9.a6)).length<=4096:=by rw[R1];omega
 rw[Z0];generalize h.a9.a6.take (rM (h.b3+n) h.a9.a6)=out at i j l |-;generalize h.a9.a6.drop (rM (h.b3+n) h.a9.a6)=rest at i j |-;refine fM 48 [(511,[2,0])] [(2,269,[18,19,20,21,22,23,24,25,26,17,27,28,5,0,1,2,3,4,5,6,7,8,9,10,11,12,13,1011,14])] [(0,0),(0,0)] Tryz.func456 rfl (λu q=>?_)
 repeat'(first|refine gO ?_|(conv=>whnf);first|refine CB ?_|refine CH (i) ⟨⟨rfl,bR.enc_fz h.a9⟩,⟨rfl,rfl⟩,⟨rfl,rfl⟩,trivial⟩ ?_|refine CB ?_)
 (conv=>whnf)
 refine CF (ι:=Nat) (λk=>[(0,.H .box (bx (freeAs {h with b3:=h.b3+n,a9:=⟨h.a9.c1,rest⟩} ((out.map (·.Addr)).take k)))),(6,.H .one (cS .own out)),(7,.H .one [I ((k:Nat):Int)])]) (λk=>k<=out.length) (λk=>out.length - k) (0) ?_ (U0 _) λk y=>?_
 ·exact wC
 by_cases o:k<out.length
 ·have b:=ao o
  have c:k<(out.map (·.Addr)).length:=by rw[Z0];exact o
  have d:nth (out.map (·.Addr)) k=(nth out k).Addr:=bj (by rw[Z2,ao o];rfl);have e:aZ (freeAs {h with b3:=h.b3+n,a9:=⟨h.a9.c1,rest⟩} ((out.map (·.Addr)).take k)) (nth (out.map (·.Addr)) k::(out.map (·.Addr)).drop (k+1)):=by
   refine aZ.freeAs ?_;rw[<-jF c,List.take_append_drop];rw[List.append_nil]at j;exact j
  rw[d]at e;have w:=mX _ _ _ e
  repeat'(first|refine gD ?_|(conv=>whnf);first|refine CB ?_|refine CD (aa b) ?_|refine CJ rfl (aa b) rfl ?_|refine CK (w) (.inl rfl) ?_)
  ((conv=>whnf);refine CE (k+1) ω ω ?_)
  rw[uK _ _ _ c,d];exact wC
 obtain rfl:k=out.length:=ω
 rw[Z5 (by rw[Z0];omega)]
 repeat'(first|refine gD ?_|(conv=>whnf);first|refine CB ?_)
 refine CG rfl rfl ?_;exact wC
theorem D0(t:Nat)(h:ab)(az:List Int)(k:Nat)(a:k<az.length):recycs t h (az.take (k+1))=recyc t (recycs t h (az.take k)) (nth az k):=by
 unfold recycs;rw[Y4,ao a,Option.toList_some,List.foldl_append];rfl
theorem uX(h:ab)(t:Nat)(a:aZ h [])(i:t<h.S.length):aS Tryz.prog 534 false [.ptr (bx h),.val none [I (t:Nat)]] [.ptr (bx (collect h t)),.val none [I (t:Nat)]] .one [I ((nth h.q.a0 t).length:Nat)]:=by
 have l:=a.nc;have n:=(dH.1 a.mail).1.2.2;have j:=Bv h.q t a.mail ω;have c:=(lB.of a.mail).il t ω;have d:=a.coll (t:=t) ω;rw[List.append_nil]at d;unfold collect;generalize nth h.q.a0 t=out at j d c |-;refine fM 36 [(564,[2,0,0])] [] [(0,0),(0,0)] Tryz.func534 rfl (λu q=>?_)
 repeat'(first|refine gO ?_|(conv=>whnf);first|refine CB ?_|refine CH (j) ⟨⟨rfl,aL.enc_fz h.q⟩,⟨rfl,rfl⟩,trivial⟩ ?_)
 (conv=>whnf)
 refine CF (ι:=Nat) (λk=>[(0,.H .box (bx (recycs t {h with q:=kR h.q t} (out.take k)))),(1,.H .one [I ((t:Nat):Int)]),(6,.H .one (aG .own out)),(7,.H .one [I ((k:Nat):Int)])]) (λk=>k<=out.length) (λk=>out.length - k) (0) ?_ (U0 _) λk p=>?_
 ·exact wC
 by_cases e:k<out.length
 ·have b:=ao e
  have g:aZ (recycs t {h with q:=kR h.q t} (out.take k)) (nth out k::out.drop (k+1)):=by
   refine aZ.recycs ?_ i;rw[<-jF e,List.take_append_drop];exact d
  have o:=nR _ _ t _ g (by rw[(gm t _ _).1];exact i)
  repeat'(first|refine gD ?_|(conv=>whnf);first|refine CB ?_|refine CD (aa b) ?_|refine CJ rfl (aa b) rfl ?_|refine CK (o) (.inl rfl) ?_)
  ((conv=>whnf);refine CE (k+1) ω ω ?_)
  rw[D0 _ _ _ _ e];exact wC
 obtain rfl:k=out.length:=ω
 rw[U4]
 repeat'(first|refine gD ?_|(conv=>whnf);first|refine CB ?_)
 refine CG rfl rfl ?_;exact wC
def Mp(a:Int)(o:bz):Bool:=decide (o.Addr<=a/\a<o.Addr+o.o)
theorem EX(h:ab)(E:List Int)(a:Int)(d:aZ h E):aS Tryz.prog 566 false [.ptr (bx h),.val none [I a]] [.ptr (bx h),.val none [I a]] .one [I (dJ (Mp a) h.O)]:=by
 have r:=d.lens.objs;refine fM 47 [] [(4,29,[15,16,17,18,19,20,21,22,23,24,25,26,27,28,29,30,31,32,33,34,35,36,37,38,39,40,41,42,43])] [(0,0),(0,0)] Tryz.func566 rfl (λu q=>?_)
 repeat'(first|refine gO ?_|(conv=>whnf);first|refine CB ?_)
 (conv=>whnf)
 refine CF (ι:=Nat) (λi=>[(0,.H .box (bx h)),(1,.H .one [I (a)]),(5,.H .one [I ((i:Nat):Int)])]) (λi=>i<=h.O.length/\∀(j:Nat)(z:bz),j<i->h.O[j]? = some z->Mp a z=false) (λi=>h.O.length - i) (0) ?_ (⟨U0 _,λj z C=>ω⟩) λi d=>?_
 ·exact wC
 obtain⟨t,c⟩:=d;by_cases e:i<h.O.length
 ·have b:=ao e
  have w:=tJ ‹aZ h E› (am e);have y:0<=(nth h.O i).o/\(nth h.O i).o<=1000:=by
   rcases aZ.oow ‹aZ h E› _ (am e) with⟨s,B,F,G⟩|⟨l,g,k,o⟩
   ·have H:=aB ((aZ.L ‹aZ h E›).sok s B)
    have:=ik (n:=(nth h.O i).o) ω;omega
   have J:=cK ((aZ.L ‹aZ h E›).lok l g);omega
  by_cases k:(nth h.O i).Addr<=a
  ·by_cases o:a<(nth h.O i).Addr+(nth h.O i).o
   ·repeat'(first|refine gD ?_|(conv=>whnf);first|with_reducible refine CD (aa b) ?_|refine CB ?_|refine CJ rfl (aa b) rfl ?_|refine CB ?_)
    refine CG rfl (W0 (λz=>[I z]) (dX b (O0 ⟨k,o⟩) c).symm) ?_;exact wC
   repeat'(first|refine gD ?_|(conv=>whnf);first|with_reducible (first|refine CD (aa b) ?_|refine Bf.D (λp=>?_) (λp=>?_))|refine CB ?_|refine CJ rfl (aa b) rfl ?_|refine CB ?_)
   ((conv=>whnf);refine CE (i+1) ⟨ω,d8 b (T0 λx=>o x.2) c⟩ ω ?_;(exact wC))
  repeat'(first|refine gD ?_|(conv=>whnf);first|with_reducible (first|refine CD (aa b) ?_|refine Bf.D (λp=>?_) (λp=>?_))|refine CB ?_|refine CJ rfl (aa b) rfl ?_|refine CB ?_)
  ((conv=>whnf);refine CE (i+1) ⟨ω,d8 b (T0 λx=>k x.1) c⟩ ω ?_;(exact wC))
 repeat'(first|refine gD ?_|(conv=>whnf);first|refine CB ?_)
 refine CG rfl (W0 (λz=>[I z]) (gv ω c).symm) ?_;exact wC
theorem GW(h:ab)(a v:Int):bx {h with G:=dD h.G a v} = (bx h).set 0 (.s .own ((h.G.F.W.T.map (aG .own)).set (ac h.G.F.R (a / 16)).j.toNat ((aG .own (nth h.G.F.W.T (cN h.G a))).set 0 (.s .own (((nth h.G.F.W.T (cN h.G a)).map (rI .own)).set (a % 16).toNat (splice (rI .own (nth (nth h.G.F.W.T (cN h.G a)) (a % 16).toNat)) 0 [I v])))))):=by
 simp[bx,dD,setCell,I5,aG,splice,cN,rI]
theorem Dq{α:Type}{p:α->Bool}{xs:List α}{x:α}(a:x∈xs)(b:p x=true):0<=dJ p xs:=by
 have:=kN p xs;rw[show xs.any p=true from V3.2 ⟨x,a,b⟩,C0]at this;exact this
theorem yx(h:ab)(i:Nat)(j v:Int)(e:aZ h [])(C:i<h.O.length)(D:0<=j/\j<=(nth h.O i).o - 1):aS Tryz.prog 529 false [.ptr (bx h),.val none [I ((nth h.O i).Addr+j)],.val none [I v]]
  [.ptr (bx (if(ac h.G.F.R (((nth h.O i).Addr+j) / 16)).e=1\/¬(0<=v/\v<=999) then h else {h with G:=dD h.G ((nth h.O i).Addr+j) v})),.val none [I ((nth h.O i).Addr+j)],.val none [I v]] .one [I (if(ac h.G.F.R (((nth h.O i).Addr+j) / 16)).e=1 then 2 else if ¬(0<=v/\v<=999) then 3 else 0)]:=by
 obtain⟨E,J,K⟩:=cI e (am C) D;have F:0<=dJ (Mp ((nth h.O i).Addr+j)) h.O:=Dq (am C) (O0 ω);have p:=EX h [] ((nth h.O i).Addr+j) e;have r:=bP e.ker;have t:=dl h.G.F.R (((nth h.O i).Addr+j) / 16) r.1.2;have n:=aH v 0 999;generalize L:(nth h.O i).Addr+j=a at *;have b:0<=a/\a<512:=ω
 obtain⟨-,-,-,G,M⟩:=ce e.ker E;have H:=(aX.1 (aE.1 e.ker).2.1).2.2.1;have k:cN h.G a<h.G.F.W.T.length:=by unfold cN;omega
 have d:h.G.F.W.T[(ac h.G.F.R (a / 16)).j.toNat]? = some (nth h.G.F.W.T (cN h.G a)):=ao k;have w:=e.lens.row _ (am k);have l:=ao (xs:=nth h.G.F.W.T (cN h.G a)) (i:=(a % 16).toNat) (by rw[w];omega);have B:a.tmod 16=a % 16:=gw b.1;refine fM 42 [(566,[2,0])] [(8,14,[27,28,29,30,31,32,33,34,35,36,37,38,39,40])] [(0,0),(0,0),(0,0)] Tryz.func529 rfl (λu q=>?_);by_cases o:(ac h.G.F.R (a / 16)).e=1
 ·rw[C9 (Or.inl o),C9 o]
  repeat'(first|refine gA ?_|(conv=>whnf);first|refine CB ?_|refine CK (p) (.inl rfl) ?_|refine CH (t) ⟨⟨rfl,CZ _⟩,⟨rfl,rfl⟩,trivial⟩ ?_|refine CO (by decide) ?_|refine CM (qp b) ?_)
  refine CG rfl rfl ?_;exact wC
 rw[C8 (c:=_=(1:Int)) o];by_cases g:0<=v/\v<=999
 ·rw[O0 g]at n
  rw[C8 (c:=¬(0<=v/\v<=999)) (X3 g),C8 (c:=_\/¬(0<=v/\v<=999)) (λy=>y.elim o λy=>y g)]
  repeat'(first|refine gA ?_|(conv=>whnf);first|refine CB ?_|refine CK (p) (.inl rfl) ?_|refine CH (t) ⟨⟨rfl,CZ _⟩,⟨rfl,rfl⟩,trivial⟩ ?_|refine C7 (n) ?_|refine CO (by decide) ?_|refine CM (qp b) ?_|refine CU B ?_|refine CN G (aa d) ?_|refine CJ rfl (aa d) rfl ?_|refine CN ω (aa l) ?_|refine Pu.two rfl rfl (aa d) rfl rfl rfl (aa l) rfl (X2 _) (GW h a v) ?_|refine CB ?_)
  refine CG rfl rfl ?_;exact wC
 rw[T0 g]at n;rw[C9 (Or.inr g),C9 g]
 repeat'(first|refine gA ?_|(conv=>whnf);first|refine CB ?_|refine CK (p) (.inl rfl) ?_|refine CH (t) ⟨⟨rfl,CZ _⟩,⟨rfl,rfl⟩,trivial⟩ ?_|refine C7 (n) ?_|refine CO (by decide) ?_|refine CM (qp b) ?_)
 refine CG rfl rfl ?_;exact wC
def xT(l:a7)(n:Int):aA:=if(n+15) / 16<l.a2 then⟨l.Q+(n+15) / 16,l.a2 - (n+15) / 16⟩ else⟨0,0⟩
theorem vU(l:a7)(n:Int)(d:bC l=true):ar Tryz.prog 567 false [.val (some 3) (a7.enc .V l),.val none [I n]] (.tup [some 3,some 2,none]) (if 9<=n/\n<=l.o then a7.enc .own (trimL l n)++aA.enc .own (xT l n)++[B true] else a7.enc .own l++[I 0,I 0]++[B false]):=by
 have b:=nC l;rw[d]at b;have a:=aH n 9 l.o;have g:=d;unfold bC at g;rw[C0]at g;by_cases e:9<=n/\n<=l.o
 ·rw[O0 e]at a
  rw[C9 e];have c:=lZ n;rw[show f8 n=(n+15) / 16 by unfold f8;rw[C9 ω]]at c;unfold xT;by_cases h:(n+15) / 16<l.a2
  ·rw[C9 h]
   refine fO 43 [(7,261,[37,38,39,40,42,0,1,2,3,5,4,1005,6,1005,7,8])] Tryz.func567 rfl ?_ (.inr ⟨trivial,trivial,trivial,trivial,trivial,trivial,trivial⟩)
   repeat'(first|refine gD ?_|(conv=>whnf);first|refine CB ?_|refine C7 (b) ?_|refine C7 (a) ?_|refine C7 (c) ?_|refine CB ?_)
   rfl
  rw[C8 h];refine fO 43 [(7,261,[37,38,39,40,42,0,1,2,3,5,4,1005,6,1005,7,8])] Tryz.func567 rfl ?_ (.inr ⟨trivial,trivial,trivial,trivial,trivial,trivial,trivial⟩)
  repeat'(first|refine gD ?_|(conv=>whnf);first|refine CB ?_|refine C7 (b) ?_|refine C7 (a) ?_|refine C7 (c) ?_|refine CB ?_)
  rfl
 rw[T0 e]at a;rw[C8 e];refine fO 43 [(7,261,[37,38,39,40,42,0,1,2,3,5,4,1005,6,1005,7,8])] Tryz.func567 rfl ?_ (.inr ⟨trivial,trivial,trivial,trivial,trivial,trivial,trivial⟩)
 repeat'(first|refine gO ?_|(conv=>whnf);first|refine CB ?_|refine C7 (b) ?_|refine C7 (a) ?_|refine CB ?_)
 rfl
theorem B0(h:ab)(t a:Int)(c:h.S.length<=4)(d:¬(0<=t/\t<=h.S.length - 1)):aS Tryz.prog 527 false [.ptr (bx h),.val none [I t],.val none [I a]] [.ptr (bx h),.val none [I t],.val none [I a]] .one [I 1]:=by
 have b:=aH t 0 (h.S.length - 1:Int);rw[T0 d]at b;refine fM 148 [(560,[2,0]),(562,[2,0]),(564,[2,0,0]),(559,[2,0])] [(15,269,[68,69,70,71,72,73,74,75,77,67,78,79,11,0,1,2,3,4,5,6,7,13,8,1000,1001,1002,1003,1004,1013,9,10,11,12,14,1012,15]),(22,15,[92,93,94,95,96,97,98,99,100,101,102,103,104,105,106]),(25,271,[116,117,118,119,120,121,122,123,124,125,127,115,128,129,14,0,1,2,3,4,5,6,7,8,9,15,10,1000,1001,1002,1003,1015,11,12,13,14,16,1014,17])] [(0,0),(0,0),(0,0)] Tryz.func527 rfl (λu q=>?_)
 repeat'(first|refine gO ?_|(conv=>whnf);first|refine CB ?_|refine C7 (b) ?_)
 refine CG rfl rfl ?_;exact wC
theorem EE(h:ab)(i t:Nat)(a:aZ h [])(j:i<h.O.length)(U:t<h.S.length)(K:(nth h.O i).a4≠t):aS Tryz.prog 527 false [.ptr (bx h),.val none [I (t:Nat)],.val none [I (nth h.O i).Addr]] [.ptr (bx (freeT h t i).1),.val none [I (t:Nat)],.val none [I (nth h.O i).Addr]] .one [I (freeT h t i).2]:=by
 have F:=am j;obtain⟨-,L,d⟩:=a.objAt F;have N:oW h (nth h.O i).Addr=i:=by
  have V:=(a.objAt F).1;exact cG (f:=(·.Addr)) (dd a.osr) V j (by rw[L])
 rw[N]at d;have b:=tJ a F;have W:=a.onu _ F;have n:=a.lens;have X:=n.objs;have Y:=a.nc;have Z:=lB.of a.mail;have hb4:=Z.b4;have o:=aH (t:Nat) 0 (h.S.length - 1:Int);rw[O0 ω]at o;have p:=qA h (nth h.O i).Addr ω;rw[d]at p;have e:=ao j;have G:=kG (nth h.O i).o;have O:=bP a.ker;have P:=dl h.G.F.R ((nth h.O i).Addr / 16) O.1.2;unfold freeT;by_cases H:aJ (nth h.O i).o<0
 ·rw[C9 H]
  have c3:=qg h i a j H;refine fM 148 [(560,[2,0]),(562,[2,0]),(564,[2,0,0]),(559,[2,0])] [(15,269,[68,69,70,71,72,73,74,75,77,67,78,79,11,0,1,2,3,4,5,6,7,13,8,1000,1001,1002,1003,1004,1013,9,10,11,12,14,1012,15]),(22,15,[92,93,94,95,96,97,98,99,100,101,102,103,104,105,106]),(25,271,[116,117,118,119,120,121,122,123,124,125,127,115,128,129,14,0,1,2,3,4,5,6,7,8,9,15,10,1000,1001,1002,1003,1015,11,12,13,14,16,1014,17])] [(0,0),(0,0),(0,0)] Tryz.func527 rfl (λu q=>?_)
  repeat'(first|refine gD ?_|(conv=>whnf);first|with_reducible refine Bf.D (λc=>?_) (λc=>?_)|refine CB ?_|refine C7 (o) ?_|refine CH (p) ⟨⟨rfl,bG h⟩,⟨rfl,rfl⟩,trivial⟩ ?_|refine CD (aa e) ?_|refine CJ rfl (aa e) rfl ?_|refine C7 (G) ?_|refine CK (c3) (.inl rfl) ?_)
  refine CG rfl rfl ?_;exact wC
 rw[C8 H];obtain⟨s1,s2,s3,s4⟩:=QQ.of a (am j) H;by_cases J:(ac (tbl h) ((nth h.O i).Addr / 16)).e=1
 ·rw[C9 J]
  unfold tbl at J;refine fM 148 [(560,[2,0]),(562,[2,0]),(564,[2,0,0]),(559,[2,0])] [(15,269,[68,69,70,71,72,73,74,75,77,67,78,79,11,0,1,2,3,4,5,6,7,13,8,1000,1001,1002,1003,1004,1013,9,10,11,12,14,1012,15]),(22,15,[92,93,94,95,96,97,98,99,100,101,102,103,104,105,106]),(25,271,[116,117,118,119,120,121,122,123,124,125,127,115,128,129,14,0,1,2,3,4,5,6,7,8,9,15,10,1000,1001,1002,1003,1015,11,12,13,14,16,1014,17])] [(0,0),(0,0),(0,0)] Tryz.func527 rfl (λu q=>?_)
  repeat'(first|refine gA ?_|(conv=>whnf);first|with_reducible refine Bf.D (λc=>?_) (λc=>?_)|refine CB ?_|refine CO (by decide) ?_|refine CM (qp b) ?_|refine C7 (o) ?_|refine CH (p) ⟨⟨rfl,bG h⟩,⟨rfl,rfl⟩,trivial⟩ ?_|refine CD (aa e) ?_|refine CJ rfl (aa e) rfl ?_|refine C7 (G) ?_|refine CH (P) ⟨⟨rfl,CZ _⟩,⟨rfl,rfl⟩,trivial⟩ ?_)
  refine CG rfl rfl ?_;exact wC
 rw[C8 J,C8 K];unfold tbl at J;have r:=Je h.q t ⟨(nth h.O i).a4,(nth h.O i).Addr⟩ a.mail ω;by_cases l:bI (ia h.q t ⟨(nth h.O i).a4,(nth h.O i).Addr⟩)=true;rotate_left
 ·rw[C8 l]
  rw[C8 l,show bI (ia h.q t ⟨(nth h.O i).a4,(nth h.O i).Addr⟩)=false by simpa using l]at r;refine fM 148 [(560,[2,0]),(562,[2,0]),(564,[2,0,0]),(559,[2,0])] [(15,269,[68,69,70,71,72,73,74,75,77,67,78,79,11,0,1,2,3,4,5,6,7,13,8,1000,1001,1002,1003,1004,1013,9,10,11,12,14,1012,15]),(22,15,[92,93,94,95,96,97,98,99,100,101,102,103,104,105,106]),(25,271,[116,117,118,119,120,121,122,123,124,125,127,115,128,129,14,0,1,2,3,4,5,6,7,8,9,15,10,1000,1001,1002,1003,1015,11,12,13,14,16,1014,17])] [(0,0),(0,0),(0,0)] Tryz.func527 rfl (λu q=>?_)
  repeat'(first|refine gA ?_|(conv=>whnf);first|with_reducible refine Bf.D (λc=>?_) (λc=>?_)|refine CB ?_|refine CO (by decide) ?_|refine CM (qp b) ?_|refine C7 (o) ?_|refine CH (p) ⟨⟨rfl,bG h⟩,⟨rfl,rfl⟩,trivial⟩ ?_|refine CD (aa e) ?_|refine CJ rfl (aa e) rfl ?_|refine C7 (G) ?_|refine CH (P) ⟨⟨rfl,CZ _⟩,⟨rfl,rfl⟩,trivial⟩ ?_|refine CH (r) ⟨⟨rfl,aL.enc_fz h.q⟩,⟨rfl,rfl⟩,⟨rfl,rfl⟩,trivial⟩ ?_|refine CB ?_)
  refine CG rfl rfl ?_;exact wC
 rw[C9 l];rw[C9 l,l]at r;have w:cN h.G (nth h.O i).Addr<h.G.F.W.T.length:=by unfold cN;omega
 have hcz:=KJ s1;have B:=de (aJ (nth h.O i).o);unfold L9;generalize ia h.q t ⟨(nth h.O i).a4,(nth h.O i).Addr⟩ = M at r;refine fM 148 [(560,[2,0]),(562,[2,0]),(564,[2,0,0]),(559,[2,0])] [(15,269,[68,69,70,71,72,73,74,75,77,67,78,79,11,0,1,2,3,4,5,6,7,13,8,1000,1001,1002,1003,1004,1013,9,10,11,12,14,1012,15]),(22,15,[92,93,94,95,96,97,98,99,100,101,102,103,104,105,106]),(25,271,[116,117,118,119,120,121,122,123,124,125,127,115,128,129,14,0,1,2,3,4,5,6,7,8,9,15,10,1000,1001,1002,1003,1015,11,12,13,14,16,1014,17])] [(0,0),(0,0),(0,0)] Tryz.func527 rfl (λu q=>?_)
 repeat'(first|refine gA ?_|(conv=>whnf);first|with_reducible refine Bf.D (λc=>?_) (λc=>?_)|refine CB ?_|refine CO (by decide) ?_|refine CM (qp b) ?_|refine C7 (o) ?_|refine CH (p) ⟨⟨rfl,bG h⟩,⟨rfl,rfl⟩,trivial⟩ ?_|refine CD (aa e) ?_|refine CJ rfl (aa e) rfl ?_|refine C7 (G) ?_|refine CH (P) ⟨⟨rfl,CZ _⟩,⟨rfl,rfl⟩,trivial⟩ ?_|refine CH (r) ⟨⟨rfl,aL.enc_fz h.q⟩,⟨rfl,rfl⟩,⟨rfl,rfl⟩,trivial⟩ ?_|refine CB ?_)
 have Q:({{h with q:=M} with G:=eP h.G (nth h.O i).Addr 0} : ab) = {h with q:=M}:=Hd {h with q:=M} _ w;have R:=W0 (λy:ab=>C.s .own (y.G.F.W.T.map (aG .own))) Q
 (conv=>whnf)
 refine CF (ι:=Nat) (λk=>[(0,.H .box (bx {{h with q:=M} with G:=eP h.G (nth h.O i).Addr k})),(1,.H .one [I ((t:Nat):Int)]),(2,.H .one [I ((nth h.O i).Addr)]),(7,.H .one [I ((i:Nat):Int)]),(8,.H .box (bz.enc .own (nth h.O i))),(9,.H .one [I (aJ (nth h.O i).o)]),(10,.H .box (bi.enc .own (ac h.G.F.R ((nth h.O i).Addr / 16)))),(13,.H .one [I ((k:Nat):Int)])]) (λk=>k<=(csz (aJ (nth h.O i).o)).toNat) (λk=>(csz (aJ (nth h.O i).o)).toNat - k) (0) ?_ (U0 _) λk hk=>?_
 ·repeat'(first|exact trivial|rfl |exact o7 R|exact eJ _|refine CL ?_ ?_|(exact E4 (by first|omega|(simp only;omega)|(simp;omega))))
 have T:IntKind.i64.wrap 0=0:=rfl;have S:(nth h.O i).Addr.tmod 16=(nth h.O i).Addr % 16:=gw b.1;have g:(eP h.G (nth h.O i).Addr k).F.W.T[(ac h.G.F.R ((nth h.O i).Addr / 16)).j.toNat]? = some (lf (nth h.G.F.W.T (cN h.G (nth h.O i).Addr)) ((nth h.O i).Addr % 16).toNat k):=O3 w;by_cases lk:k<(csz (aJ (nth h.O i).o)).toNat
 ·have E:=ao (xs:=lf (nth h.G.F.W.T (cN h.G (nth h.O i).Addr)) ((nth h.O i).Addr % 16).toNat k) (i:=((nth h.O i).Addr % 16+k).toNat) (by rw[mr,s4];omega)
  repeat'(first|refine gD ?_|(conv=>whnf);first|refine CB ?_|refine CO (by decide) ?_|refine CU S ?_|refine C7 (B) ?_|refine CN s2.1 (aa g) ?_|refine CJ rfl (aa g) rfl ?_|refine CN ω (aa E) ?_|refine Pu.two rfl rfl (aa g) rfl rfl rfl (aa E) rfl (X2 _) (E9 {h with q:=M} _ k _ b.1) ?_)
  ((conv=>whnf);refine CE (k+1) ω ω ?_;(exact wC))
 obtain rfl:k=(csz (aJ (nth h.O i).o)).toNat:=ω
 have c6:=mN {{h with q:=M} with G:=eP h.G (nth h.O i).Addr (csz (aJ (nth h.O i).o)).toNat} i j (by show h.O.length<=_;omega)
 repeat'(first|refine gA ?_|(conv=>whnf);first|with_reducible refine Bf.D (λc=>?_) (λc=>?_)|refine CB ?_|refine C7 (B) ?_|refine CK (c6) (.inl rfl) ?_)
 refine CG rfl rfl ?_;exact wC
theorem Pd(h:ab)(i:Nat)(t:Int)(a:aZ h [])(d:i<h.O.length):aS Tryz.prog 527 false [.ptr (bx h),.val none [I t],.val none [I (nth h.O i).Addr]] [.ptr (bx (if 0<=t/\t<=h.S.length - 1 then(freeT h t.toNat i).1 else h)),.val none [I t],.val none [I (nth h.O i).Addr]] .one [I (if 0<=t/\t<=h.S.length - 1 then(freeT h t.toNat i).2 else 1)]:=by
 have c:h.S.length<=4:=by have:=(dH.1 a.mail).1.2.1;have:=a.nc;omega
 by_cases b:0<=t/\t<=h.S.length - 1
 ·rw[C9 b,C9 b]
  obtain⟨n,rfl⟩:=U2 b.1;simp only[R2];by_cases e:(nth h.O i).a4=n
  ·have:=FY h (nth h.O i) n a (am d) e c
   have g:oW h (nth h.O i).Addr=i:=by
    obtain⟨k,j,-⟩:=a.objAt (am d);exact cG (f:=(·.Addr)) (dd a.osr) k d (by rw[j])
   rw[g,<-Ad e]at this;exact this
  exact EE h i n a d ω e
 rw[C8 b,C8 b];exact B0 h t _ c b
theorem LS(c:aD)(k:Nat):aD.enc .own (rT c k)=[.s .own ((c.b.map (aG .own)).set k (aG .own ((nth c.b k).take ((nth c.b k).length - 1))))]:=by simp[aD.enc,rT,I5]
theorem Qk(xs:List Int)(n:Nat):(xs.take n).map (rI .V)=(xs.map (rI .V)).take n:=Y3
def QO(c:aD)(k:Nat):List C:=if 0<(nth c.b k).length then aD.enc .own (rT c k)++[I (nth (nth c.b k) ((nth c.b k).length - 1)),B true] else aD.enc .own c++[I (-1),B false]
theorem PF(c:aD)(k:Nat):gV (QO c k):=by
 unfold QO;split
 ·exact bf (aD.enc_fr _) ⟨trivial,trivial,trivial⟩
 exact bf (aD.enc_fr _) ⟨trivial,trivial,trivial⟩
theorem xo(c:aD)(k:Nat)(h:bp c=true)(u:k<=3):ar Tryz.prog 380 false [.val (some 1) (aD.enc .V c),.val none [I (k:Nat)]] (.tup [some 1,none,none]) (QO c k):=by
 obtain⟨w,j⟩:=eS h;have n:aD.sml c:=⟨ω,λl r=>by have:=j l r;show l.length<=1048576;omega⟩
 have d:=xm c k n;rw[h,O0 ω]at d;have o:=iS c n;have b:=tR (c:=c) (k:=k) ω;have t:=j _ (am (xs:=c.b) (i:=k) ω);have a:=PF c k;unfold QO at a |-;by_cases p:0<(nth c.b k).length
 ·rw[C9 p]at a |-
  have q:=ao (xs:=nth c.b k) (i:=(nth c.b k).length - 1) ω;have e:(nth c.b k)[(((nth c.b k).length:Int) - 1).toNat]? = some (nth (nth c.b k) ((nth c.b k).length - 1)):=by rw[show(((nth c.b k).length:Int) - 1).toNat=(nth c.b k).length - 1 by omega];exact q
  have g:((((nth c.b k).length:Nat):Int) - 1)=(((nth c.b k).length - 1:Nat):Int):=ω
  rw[LS]at a |-;refine fO 54 [(5,268,[32,33,34,35,36,37,38,39,40,41,42,44,0,1,2,3,4,5,6,7,8,9,10,11,1000,1001,1002,12,13]),(6,265,[45,46,47,48,49,50,51,52,53,0,1,2,3,4,5,6,7,8,9,1001,1002,1003,1004,1005,1006,1007,1008,10,11])] Tryz.func380 rfl ?_ (.inr a)
  repeat'(first|refine gA ?_|(conv=>whnf);first|with_reducible refine CD (aa b) ?_|refine CB ?_|refine CJ rfl (aa b) rfl ?_|refine C7 (d) ?_|refine C7 (o) ?_|refine CN ω (aa e) ?_|refine CD (aa q) ?_|refine CX ((nth c.b k).length - 1) g (by rw[Z0];omega) (aT λ_=>rfl) (Qk _ _) ?_|refine CB ?_|refine CV (λ_=>rfl) (λ_=>rfl) (by rw[R1];omega) (by decide) ?_|refine CS (λ_=>rfl) (λ_=>rfl) (by rw[R1];omega) (by decide) ?_|refine CP rfl rfl (aa b) rfl (C1 rfl) rfl ?_)
  rfl
 rw[C8 p]at a |-;refine fO 54 [(5,268,[32,33,34,35,36,37,38,39,40,41,42,44,0,1,2,3,4,5,6,7,8,9,10,11,1000,1001,1002,12,13]),(6,265,[45,46,47,48,49,50,51,52,53,0,1,2,3,4,5,6,7,8,9,1001,1002,1003,1004,1005,1006,1007,1008,10,11])] Tryz.func380 rfl ?_ (.inr a)
 repeat'(first|refine gA ?_|(conv=>whnf);first|with_reducible refine CD (aa b) ?_|refine CB ?_|refine CJ rfl (aa b) rfl ?_|refine C7 (d) ?_|refine C7 (o) ?_)
 rfl
def QI(xs:List aA)(n:Int):List C:=bQ .own (au xs n).1++[I (au xs n).2.1,B (au xs n).2.2]
theorem PK(xs:List aA)(n:Int):gV (QI xs n):=bf (oT _) ⟨trivial,trivial,trivial⟩
theorem po(pages:Int)(xs:List aA)(n:Int)(w:0<=pages/\pages<=1048576)(l:b8 pages xs=true)(J:1<=n/\n<=1000)(K:xs.length<=4096):ar Tryz.prog 385 false [.val none [I pages],.val none (bQ .V xs),.val none [I n]] (.tup [none,none,none]) (QI xs n):=by
 have o:=mc pages xs w ⟨ω,λ_ _=>trivial⟩;rw[l]at o;have p:=(Bl l).2;refine fO 98 [(8,21,[31,32,33,34,35,36,37,38,39,40,41,42,43,44,45,46,47,48,49,50,51]),(14,265,[71,72,73,74,76,77,78,79,81,0,1,2,3,5,6,7,8,10,4,1005,1006,1007,1008,1010,9,1010,11,1010,12,13])] Tryz.func385 rfl ?_ (.inr (PK xs n))
 repeat'(first|refine gD ?_|(conv=>whnf);first|refine CB ?_|refine C7 (o) ?_|refine CS (λ_=>rfl) (λ_=>rfl) ω (by decide) ?_)
 (conv=>whnf)
 refine CF (ι:=Nat) (λi=>[(1,.H .one (bQ .V xs)),(2,.H .one [I (n)]),(9,.H .one (bQ .own xs)),(10,.H .one [I (jb xs n i)]),(11,.H .one [I ((i:Nat):Int)])]) (λi=>i<=xs.length) (λi=>xs.length - i) (0) ?_ (U0 _) λi y=>?_
 ·exact wC
 have h:=wi xs n i y;by_cases q:i<xs.length
 ·have j:=ao q
  have E:=p _ (am q);have a:jb xs n (i+1)=if n<=(nth xs i).b0/\(jb xs n i<0\/(nth xs i).b0<(nth xs (jb xs n i).toNat).b0) then((i:Nat):Int) else jb xs n i:=rfl
  by_cases r:n<=(nth xs i).b0
  ·by_cases F:jb xs n i<0
   ·rw[C9 ⟨r,.inl F⟩]at a
    repeat'(first|refine gD ?_|(conv=>whnf);first|with_reducible (first|refine CD (aa j) ?_|refine Bf.D (λc=>?_) (λc=>?_))|refine CB ?_)
    ((conv=>whnf);refine CE (i+1) ω ω ?_)
    rw[a];exact wC
   have d:=ao (xs:=xs) (i:=(jb xs n i).toNat) ω;by_cases G:(nth xs i).b0<(nth xs (jb xs n i).toNat).b0
   ·rw[C9 ⟨r,.inr G⟩]at a
    repeat'(first|refine gD ?_|(conv=>whnf);first|with_reducible (first|refine CD (aa j) ?_|refine CN ω (aa d) ?_|refine Bf.D (λc=>?_) (λc=>?_))|refine CB ?_)
    ((conv=>whnf);refine CE (i+1) ω ω ?_)
    rw[a];exact wC
   rw[C8 ω]at a
   repeat'(first|refine gD ?_|(conv=>whnf);first|with_reducible (first|refine CD (aa j) ?_|refine CN ω (aa d) ?_|refine Bf.D (λc=>?_) (λc=>?_))|refine CB ?_)
   ((conv=>whnf);refine CE (i+1) ω ω ?_)
   rw[a];exact wC
  rw[C8 ω]at a
  repeat'(first|refine gD ?_|(conv=>whnf);first|with_reducible (first|refine CD (aa j) ?_|refine Bf.D (λc=>?_) (λc=>?_))|refine CB ?_)
  ((conv=>whnf);refine CE (i+1) ω ω ?_)
  rw[a];exact wC
 obtain rfl:i=xs.length:=ω
 change gY xs n = -1\/_ at h;unfold QI au;rw[show jb xs n xs.length=gY xs n from rfl];by_cases e:gY xs n<0
 ·rw[C9 e]
  rw[show gY xs n = -1 from h.resolve_right λg=>by have L:0<=gY xs n:=g.1;omega]
  repeat'(first|refine gD ?_|(conv=>whnf);first|with_reducible refine Bf.D (λc=>?_) (λc=>?_)|refine CB ?_)
  rfl
 rw[C8 e];obtain⟨H,t,M⟩:=h.resolve_left ω;change 0<=gY xs n at H;change gY xs n<xs.length at t;obtain⟨b,k⟩:=U2 (show 0<=gY xs n by omega);rw[k]at t |-;simp only[R2];have d:=ao (xs:=xs) (i:=b) ω;have E:=p _ (am (xs:=xs) (i:=b) ω);by_cases u:(nth xs b).b0=n
 ·rw[C9 u]
  repeat'(first|refine gA ?_|(conv=>whnf);first|with_reducible (first|refine CD (aa d) ?_|refine Bf.D (λc=>?_) (λc=>?_))|refine CB ?_|refine CX b rfl (by rw[Z0];omega) (aT λ_=>rfl) Y3 ?_|refine Sl.suf (b+1) rfl (by rw[Z0];omega) (aT λ_=>rfl) Z3 ?_|refine CV (λ_=>rfl) (λ_=>rfl) (by rw[R1];omega) (by decide) ?_|refine Ap.dele (λ_=>rfl) (λ_=>rfl) ω (by decide) ?_|refine CS (λ_=>rfl) (λ_=>rfl) (by rw[R1];omega) (by decide) ?_|refine CB ?_)
  rfl
 rw[C8 u]
 repeat'(first|refine gA ?_|(conv=>whnf);first|with_reducible (first|refine CD (aa d) ?_|refine Bf.D (λc=>?_) (λc=>?_))|refine CB ?_|refine CP rfl rfl (aa d) rfl (C1 rfl) rfl ?_)
 exact W0 (λz=>z++[I (nth xs b).At,B true]) (show [C.s dI.own _]=_ from by simp[bQ,I5];rfl)
theorem M1(k:ah)(p:Int)(f:Nat):ah.enc .own (qP k p f)=((ah.enc .own k).set 1 (.s .own ((k.F.W.a5.map (rB .own)).set f (rB .own true)))).set 2 (.s .own ((k.F.R.J.map (bi.enc .own)).set p.toNat (bi.enc .own ⟨2,(f:Nat)⟩))):=by
 simp[ah.enc,qP,I5]
theorem Dn(k:ah)(p:Int)(c:a8 k=true)(y:k.Calls≠100000)(o:0<=p/\p<k.F.R.J.length)(C:(nth k.F.R.J p.toNat).e=0):aS Tryz.prog 387 false [.ptr (ah.enc .own k),.val none [I p]] [.ptr (ah.enc .own (newK k p).1),.val none [I p]] .one [B (newK k p).2]:=by
 have E:=bP c;have F:=aX.1 (aE.1 c).2.1;have G:=(bv.1 (aE.1 c).2.2.1).2.2;have H:(bZ k).F.R.J.length<=32:=G;have a:=Bp k.F.W ω;have d:=mP k c y;have g:=eU (bZ k) p E.1.2;have l:ac (bZ k).F.R p=nth k.F.R.J p.toNat:=by unfold ac;exact C9 o
 rw[l,C]at g;have h:=aH p 0 ((k.F.R.J.length:Int) - 1);rw[O0 ω]at h;have r:=ao (xs:=k.F.R.J) (i:=p.toNat) ω;change ar _ _ _ _ _ [I (rr k)]at a;unfold newK;cases e:refd k<;>rw[e]at d
 ·by_cases j:rr k<0
  ·rw[C9 (.inr j)]
   refine fM 56 [(487,[2])] [] [(0,0),(0,0)] Tryz.func387 rfl (λu q=>?_)
   repeat'(first|refine gA ?_|(conv=>whnf);first|with_reducible refine Bf.D (λb=>?_) (λb=>?_)|refine CH (a) ⟨⟨rfl,aV.enc_fz _⟩,trivial⟩ ?_|refine CK (d) (.inl rfl) ?_|refine C7 (h) ?_|refine CH (g) ⟨CR (bZ k),⟨rfl,rfl⟩,trivial⟩ ?_)
   refine CG rfl ?_ ?_
   ·rfl
   exact wC
  rw[C8 (by simp[j])];obtain⟨n,t⟩:=Dh j;obtain⟨f,J⟩:=U2 (show 0<=rr k by omega);rw[J]at a n t j |-;simp only[R2]at n t |-;have w:=ao (xs:=k.F.W.a5) (i:=f) n;rw[M1];refine fM 56 [(487,[2])] [] [(0,0),(0,0)] Tryz.func387 rfl (λu q=>?_)
  repeat'(first|refine gA ?_|(conv=>whnf);first|with_reducible refine Bf.D (λb=>?_) (λb=>?_)|refine CH (a) ⟨⟨rfl,aV.enc_fz _⟩,trivial⟩ ?_|refine CK (d) (.inl rfl) ?_|refine C7 (h) ?_|refine CH (g) ⟨CR (bZ k),⟨rfl,rfl⟩,trivial⟩ ?_|refine CD (aa w) ?_|refine CN o.1 (aa r) ?_|refine CP rfl rfl (aa w) rfl (C1 rfl) rfl ?_|refine CP rfl rfl (aa r) rfl (C1 rfl) rfl ?_)
  refine CG rfl ?_ ?_
  ·rfl
  exact wC
 rw[C9 (.inl rfl)];refine fM 56 [(487,[2])] [] [(0,0),(0,0)] Tryz.func387 rfl (λu q=>?_)
 repeat'(first|refine gA ?_|(conv=>whnf);first|with_reducible refine Bf.D (λb=>?_) (λb=>?_)|refine CH (a) ⟨⟨rfl,aV.enc_fz _⟩,trivial⟩ ?_|refine CK (d) (.inl rfl) ?_|refine C7 (h) ?_|refine CH (g) ⟨CR (bZ k),⟨rfl,rfl⟩,trivial⟩ ?_)
 refine CG rfl ?_ ?_
 ·rfl
 exact wC
def QK(h:ab):List C:=(bx h).drop 5
theorem BJ(h:ab)(p:Int)(a:a8 h.G=true)(b:h.G.Calls≠100000)(c:0<=p/\p<h.G.F.R.J.length)(d:(nth h.G.F.R.J p.toNat).e=0):aS Tryz.prog 387 false [.ptr (bx h),.val none [I p]] [.ptr (bx {h with G:=(newK h.G p).1}),.val none [I p]] .one [B (newK h.G p).2]:=
 (Dn h.G p a b c d).frame (r:=QK h) rfl
theorem HT(h:ab)(i:Nat):bx (slotT h i)=((bx h).set 14 (I (H4 h.c0))).set 6 (.s .own ((h.K.map (ax.enc .own)).set i [I (nth h.K i).Q,I (nth h.K i).a,I (gS (nth h.K i).b1 (pZ h i))])):=by
 simp[bx,slotT,qQ,I5,ax.enc]
theorem sq(h:ab)(E:List Int)(i:Nat)(c:aZ h E)(k:i<h.K.length):aS Tryz.prog 382 false [.ptr (bx h),.val none [I (i:Nat)]] [.ptr (bx (qk h i).1),.val none [I (i:Nat)]] .one [I (qk h i).2]:=by
 have F:=c.lens;have G:=F.spans;have d:=ao k;have b:=c.L.sok _ (am k);have e:=eI b;have a:=c.nums;unfold cn at a;rw[C0]at a;have t:=(bv.1 (aE.1 c.ker).2.2.1).2.2;have l:=sA c.L.sok (ps:=aN h (nth h.K i).Q) e (aN h (nth h.K i).Q).length;change 0<=hB h i/\hB h i<=65535 at l;have w:=n7 (nth h.K i).a;have y:=yB h i ⟨ω,λ_ _=>trivial⟩ ⟨by show h.G.F.R.J.length<=_;omega,λ_ _=>trivial⟩ c.L.sok k;have o:=wb (nth h.K i).a (hB h i) ω;change ar _ _ _ _ _ (aG .own (nD h i)) at o;have p:=Gp (nth h.K i).a (hB h i);change (nD h i).length<=16 at p;unfold qk;by_cases B:(nD h i).length=0
 ·rw[C9 B]
  refine fM 68 [] [(2,7,[16,17,18,19,20,21,22]),(7,12,[42,43,44,45,46,47,48,49,50,51,52,53]),(8,11,[56,57,58,59,60,61,62,63,64,65,66])] [(0,0),(0,0)] Tryz.func382 rfl (λu q=>?_)
  repeat'(first|refine gA ?_|(conv=>whnf);first|refine CD (aa d) ?_|refine CJ rfl (aa d) rfl ?_|refine C7 (w) ?_|refine CH (y) ⟨⟨rfl,bG h⟩,⟨rfl,rfl⟩,trivial⟩ ?_|refine C7 (o) ?_|refine CB ?_)
  refine CG rfl rfl ?_;exact wC
 rw[C8 B];have H:=zM (h:=h) (i:=i) ω;obtain⟨C,D,O⟩:=xW H;have J:=(gz (aB b).2.2).2.2.1;have r:=xE h.c0 (n:=((nD h i).length:Nat)) ω;have K:=ul h.c0 ((nD h i).length:Nat) ω ω;have M:=ya (nth h.K i).b1 (pZ h i) e ω;have N:=yt (qQ (nth h.K i) (pZ h i)) (pZ h i) (By b ⟨C,D⟩) ⟨C,D⟩;have g:(nD h i)[(KD h.c0 ((nD h i).length:Nat)).toNat]? = some (pZ h i):=ao ω;have j:((h.K.map (ax.enc .own)).set i [I (nth h.K i).Q,I (nth h.K i).a,I (gS (nth h.K i).b1 (pZ h i))])[i]? = some [I (nth h.K i).Q,I (nth h.K i).a,I (gS (nth h.K i).b1 (pZ h i))]:=rh k;unfold uB;rw[HT];refine fM 68 [] [(2,7,[16,17,18,19,20,21,22]),(7,12,[42,43,44,45,46,47,48,49,50,51,52,53]),(8,11,[56,57,58,59,60,61,62,63,64,65,66])] [(0,0),(0,0)] Tryz.func382 rfl (λu q=>?_)
 repeat'(first|refine gA ?_|(conv=>whnf);first|refine CD (aa d) ?_|refine CD j ?_|refine CJ rfl (aa g) rfl ?_|refine CJ rfl (aa d) rfl ?_|refine CJ rfl j rfl ?_|refine C7 (w) ?_|refine CH (y) ⟨⟨rfl,bG h⟩,⟨rfl,rfl⟩,trivial⟩ ?_|refine C7 (o) ?_|refine C7 (K) ?_|refine C7 (M) ?_|refine C7 (N) ?_|refine CN r.1 (aa g) ?_|refine CB ?_|refine CP rfl rfl (aa d) rfl (C1 rfl) rfl ?_)
 refine CG rfl ?_ ?_
 ·rfl
 exact wC
theorem Ap.ins{α:Type}{e:α->List C}{xs:List α}{y:α}{r:List C}{i sz by_:Nat}{K:List (List C)->Prop}(a:r=e y)(b:∀y,(e y).length=sz)(c:∀y,aW (e y)=true)(h:xs.length<=1048576)(d:by_<=1000)(f:K ((xs.take i++y::xs.drop i).map e)):Ap true ((xs.take i).map e++[r]) ((xs.drop i).map e) sz by_ K:=by
 subst a;have g:(xs.take i).length+1+(xs.drop i).length<=3145728:=by rw[R1,C3];omega
 refine CT (λr a=>?_) (aT b) (λ_ r a=>by obtain⟨y,-,rfl⟩:=t4.1 a;exact c y) (by simp only[z3,Z0,List.length_singleton];omega) (by simp only[z3,Z0,List.length_singleton];exact R4 (Nat.mul_le_mul g d) (by decide)) ?_ f
 ·rcases W2.1 a with a|a
  ·exact aT b r a
  rw[I1.1 a];exact b y
 rw[t5,z5,Z4];rfl
theorem vw{α:Type}{p:α->Bool}{xs:List α}{y:α}{i:Nat}(h:kB p xs=i):jf p xs y=xs.take i++y::xs.drop i:=by unfold jf;rw[h]
def Hb(h:ab)(c:Int):ab × Int:=
 if(au h.w 1).2.2=false then(h,-1)
 else if(newK h.G (au h.w 1).2.1).2=false then({h with G:=(newK h.G (au h.w 1).2.1).1},-1)
 else(q8 h c,(rc h:Nat))
theorem Br(h:ab)(E:List Int)(c:Nat)(g:aZ h E)(J:h.G.Calls<=90000):aS Tryz.prog 383 false [.ptr (bx h),.val none [I (c:Nat)]] [.ptr (bx (Hb h c).1),.val none [I (c:Nat)]] .one [I (Hb h c).2]:=by
 have B:=g.lens;have K:=B.spans;have L:dC h<=32:=B.ents;have C:=gX h;have l:=po (dC h:Nat) h.w 1 ⟨ω,ω⟩ g.rng (by decide) (by have:=B.free;omega);unfold QI at l;have d:=jr g (T4 1);unfold Hb q8 rc;generalize au h.w 1=r at l d |-;obtain⟨o,p,ok⟩:=r;simp only at l d |-;cases ok with
 | false=>
  rw[C9 rfl];refine fM 79 [(387,[2,0]),(2000010,[0,6])] [(1,267,[11,12,13,14,15,16,17,10,18,19,20,0,1,2,3,4,5,6,7,8,9,10,11,1009,1010,12,1010,13])] [(0,0),(0,0)] Tryz.func383 rfl (λu q=>?_)
  repeat'(first|refine gO ?_|(conv=>whnf);first|refine CB ?_|refine CH (C) ⟨bG h,trivial⟩ ?_|refine CH (l) ⟨⟨rfl,rfl⟩,⟨rfl,eA h.w⟩,⟨rfl,rfl⟩,trivial⟩ ?_|refine CB ?_)
  refine CG rfl rfl ?_;exact wC
 | true=>
  rw[C8 (by simp)];obtain⟨M,N,O,V⟩:=d rfl;have F:0<=p/\p<h.G.F.R.J.length:=⟨M,by have:p+1<=((tbl h).J.length:Nat):=N;unfold tbl at this;omega⟩
  have t:=BJ h p g.ker ω F (O p.toNat ω ω);generalize newK h.G p=w at t |-;obtain⟨k,b⟩:=w;simp only at t |-;cases b with
  | false=>
   rw[C9 rfl];refine fM 79 [(387,[2,0]),(2000010,[0,6])] [(1,267,[11,12,13,14,15,16,17,10,18,19,20,0,1,2,3,4,5,6,7,8,9,10,11,1009,1010,12,1010,13])] [(0,0),(0,0)] Tryz.func383 rfl (λu q=>?_)
   repeat'(first|refine gO ?_|(conv=>whnf);first|refine CB ?_|refine CH (C) ⟨bG h,trivial⟩ ?_|refine CH (l) ⟨⟨rfl,rfl⟩,⟨rfl,eA h.w⟩,⟨rfl,rfl⟩,trivial⟩ ?_|refine CK (t) (.inl rfl) ?_|refine CB ?_)
   refine CG rfl rfl ?_;exact wC
  | true=>
   rw[C8 (by simp)];refine fM 79 [(387,[2,0]),(2000010,[0,6])] [(1,267,[11,12,13,14,15,16,17,10,18,19,20,0,1,2,3,4,5,6,7,8,9,10,11,1009,1010,12,1010,13])] [(0,0),(0,0)] Tryz.func383 rfl (λu q=>?_)
   repeat'(first|refine gO ?_|(conv=>whnf);first|refine CB ?_|refine CH (C) ⟨bG h,trivial⟩ ?_|refine CH (l) ⟨⟨rfl,rfl⟩,⟨rfl,eA h.w⟩,⟨rfl,rfl⟩,trivial⟩ ?_|refine CK (t) (.inl rfl) ?_|refine CB ?_)
   (conv=>whnf)
   refine CF (ι:=Nat) (λi=>[(0,.H .box (bx {h with G:=k,w:=o})),(1,.H .one [I ((c:Nat):Int)]),(6,.H .one [I (p)]),(8,.H .one [I ((i:Nat):Int)])]) (λi=>i<=h.K.length/\∀(j:Nat)(z:ax),j<i->h.K[j]? = some z->Gw p z=false) (λi=>h.K.length - i) (0) ?_ (⟨U0 _,λj z W=>ω⟩) λi g=>?_
   ·exact wC
   obtain⟨P,G⟩:=g;have Q:({h with G:=k,w:=o} : ab).K.length=h.K.length:=rfl;by_cases R:i<h.K.length/\(nth h.K i).Q<p
   ·have n:=ao R.1
    repeat'(first|refine gD ?_|(conv=>whnf);first|with_reducible refine CD (aa n) ?_|refine CB ?_|refine CJ rfl (aa n) rfl ?_)
    ((conv=>whnf);refine CE (i+1) ⟨ω,d8 n (T0 ω) G⟩ ω ?_;(exact wC))
   have a:kB (Gw p) h.K=i:=vA ω G λz H=>by
    have S:=(C2.1 H).1;have:z=nth h.K i:=(bj H).symm;subst this;exact O0 ω
   have n:i<h.K.length->h.K[i]? = some (nth h.K i):=λT=>ao T
   rw[show addS h k o p (c:Nat) = {h with G:=k,w:=o,K:=h.K.take i++⟨p,(c:Nat),0⟩::h.K.drop i} by unfold addS;rw[vw a],a]
   repeat'(first|refine gD ?_|(conv=>whnf);first|with_reducible (first|refine CD (aa (n ω)) ?_|refine Bf.D (λU=>?_) (λU=>?_))|refine CB ?_|refine CJ rfl (aa (n ω)) rfl ?_|refine FH.mk rfl (DW h.K) rfl ?_|refine CX i rfl (by rw[Z0];omega) (aT λ_=>rfl) Y3 ?_|refine Sl.suf i rfl (by rw[Z0];omega) (aT λ_=>rfl) Z3 ?_|refine CS (λ_=>rfl) (λ_=>rfl) (by rw[R1];omega) (by decide) ?_|refine Ap.sn (aT λ_=>rfl) rfl (by rw[Z0,R1];omega) (by decide) rfl ?_|refine Ap.ins (e:=ax.enc .V) (y:=⟨p,(c:Nat),0⟩) rfl (λ_=>rfl) (λ_=>rfl) ω (by decide) ?_)
   all_goals
    refine CG rfl rfl ?_;exact wC
theorem DN{h:ab}{c:Int}{i:Nat}(a:i<h.K.length)(b:so h c i=true)(d:∀j,j<i->so h c j=false):sS h c=some i:=
 List.find?_range_eq_some.2 ⟨b,List.mem_range.2 a,λj e=>by rw[d j e];rfl⟩
theorem D8{h:ab}{c:Int}(a:∀j,j<h.K.length->so h c j=false):sS h c=none:=
 List.find?_range_eq_none.2 λj b=>by rw[a j b];rfl
theorem ue{h:ab}{c:Int}{i:Nat}(a:so h c i=false)(b:∀j,j<i->so h c j=false):∀j,j<i+1->so h c j=false:=λj d=>by
 by_cases e:j=i
 ·rw[e];exact a
 exact b j ω
theorem HB(h:ab)(t:Nat)(c:aD):bx {h with S:=h.S.set t c} = (bx h).set 9 (.s .own ((h.S.map (aD.enc .own)).set t (aD.enc .own c))):=by
 simp[bx,I5]
theorem LY{h:ab}{c:Nat}(b:aZ h [])(l:c<=3)(e:h.G.Calls<=90000)(h1:¬(au h.w 1).2.2=false)(f:¬(newK h.G (au h.w 1).2.1).2=false):aZ (q8 h c) []/\rc h<(q8 h c).K.length:=by
 have a:(au h.w 1).2.2=true:=by simpa using h1
 obtain⟨g,i,j,n⟩:=jr b (T4 1) a;have s:=uT.of (p:=(au h.w 1).2.1) b.ker ω ⟨g,by have:(au h.w 1).2.1+1<=(h.G.F.R.J.length:Nat):=i;omega⟩ (j _ ω ω);have d:(newK h.G (au h.w 1).2.1).2=true:=by simpa using f
 have k:uT h.G (au h.w 1).2.1 ((newK h.G (au h.w 1).2.1).1,true):=by rw[<-d];exact s
 exact⟨b.addS (c:=c) ⟨ω,ω⟩ a k,(Au (Gw (au h.w 1).2.1) h.K ⟨(au h.w 1).2.1,c,0⟩).1⟩
theorem yd(h:ab)(t c:Nat)(o:aZ h [])(M:t<h.S.length)(N:c<=3)(p:h.G.Calls<=90000):aS Tryz.prog 236 false [.ptr (bx h),.val none [I (t:Nat)],.val none [I (c:Nat)]] [.ptr (bx (smallA h t c).1),.val none [I (t:Nat)],.val none [I (c:Nat)]] .one [I (smallA h t c).2]:=by
 have E:=o.cach _ (am M);have e:=ao M;have r:=xo (nth h.S t) c E N;have Q:=o.lens.spans;have B:=o;unfold QO at r;by_cases F:0<(nth (nth h.S t).b c).length
 ·unfold smallA
  rw[C9 F]at r |-;simp only;rw[HB];refine fM 80 [(382,[2,0]),(383,[2,0])] [(3,6,[27,28,29,30,31,32])] [(0,0),(0,0),(0,0)] Tryz.func236 rfl (λu q=>?_)
  repeat'(first|refine gO ?_|(conv=>whnf);first|with_reducible refine CD (aa e) ?_|refine CJ rfl (aa e) rfl ?_|refine CH (r) ⟨⟨rfl,aD.enc_fz _⟩,⟨rfl,rfl⟩,trivial⟩ ?_|refine CB ?_|refine CP rfl rfl (aa e) rfl (C1 rfl) rfl ?_)
  refine CG rfl rfl ?_;exact wC
 rw[C8 F]at r;have d:smallA h t c=match sS h c with
  | some i=>(slotT h i,uB h i)
  | none=>if(au h.w 1).2.2=false then(h,-1)
   else if(newK h.G (au h.w 1).2.1).2=false then({h with G:=(newK h.G (au h.w 1).2.1).1},-1)
   else qk (q8 h c) (rc h):=by unfold smallA;exact C8 F
 refine fM 80 [(382,[2,0]),(383,[2,0])] [(3,6,[27,28,29,30,31,32])] [(0,0),(0,0),(0,0)] Tryz.func236 rfl (λu q=>?_)
 repeat'(first|refine gO ?_|(conv=>whnf);first|with_reducible refine CD (aa e) ?_|refine CJ rfl (aa e) rfl ?_|refine CH (r) ⟨⟨rfl,aD.enc_fz _⟩,⟨rfl,rfl⟩,trivial⟩ ?_|refine CB ?_)
 (conv=>whnf)
 refine CF (ι:=Nat) (λi=>[(0,.H .box (bx h)),(1,.H .one [I ((t:Nat):Int)]),(2,.H .one [I ((c:Nat):Int)]),(10,.H .one [I ((i:Nat):Int)])]) (λi=>i<=h.K.length/\∀j,j<i->so h c j=false) (λi=>h.K.length - i) (0) ?_ (⟨U0 _,λj W=>ω⟩) λi o=>?_
 ·exact wC
 obtain⟨R,w⟩:=o;by_cases C:i<h.K.length
 ·have l:=ao C
  by_cases O:(nth h.K i).a=c
  ·have y:=uq h (nth h.K i).Q
   cases D:fT h (nth h.K i).Q with
   | true=>
    rw[D]at y
    repeat'(first|refine gA ?_|(conv=>whnf);first|with_reducible refine CD (aa l) ?_|refine CJ rfl (aa l) rfl ?_|refine CH (y) ⟨bG h,⟨rfl,rfl⟩,trivial⟩ ?_)
    ((conv=>whnf);refine CE (i+1) ⟨ω,ue (by unfold so;rw[D];simp) w⟩ ω ?_;(exact wC))
   | false=>
    rw[D]at y;have n:=sq h [] i B C;unfold qk at n;by_cases P:(nD h i).length=0
    ·rw[C9 P]at n
     repeat'(first|refine gA ?_|(conv=>whnf);first|with_reducible refine CD (aa l) ?_|refine CJ rfl (aa l) rfl ?_|refine CH (y) ⟨bG h,⟨rfl,rfl⟩,trivial⟩ ?_|refine CK (n) (.inl rfl) ?_)
     ((conv=>whnf);refine CE (i+1) ⟨ω,ue (by unfold so;rw[T0 (by omega:¬0<(nD h i).length)];simp) w⟩ ω ?_;(exact wC))
    rw[C8 P]at n;have G:sS h c=some i:=DN C (by unfold so;rw[O0 O,D,O0 ω];rfl) w;rw[G]at d;simp only at d;obtain⟨S,T⟩:=B.slotT C (by omega:0<(nD h i).length);have H:=jP.nn S T;rw[d];generalize slotT h i=g at n |-;generalize uB h i=a at n H |-
    repeat'(first|refine gA ?_|(conv=>whnf);first|with_reducible refine CD (aa l) ?_|refine CJ rfl (aa l) rfl ?_|refine CH (y) ⟨bG h,⟨rfl,rfl⟩,trivial⟩ ?_|refine CK (n) (.inl rfl) ?_)
    refine CG rfl rfl ?_;exact wC
  repeat'(first|refine gA ?_|(conv=>whnf);first|with_reducible refine CD (aa l) ?_|refine CJ rfl (aa l) rfl ?_)
  ((conv=>whnf);refine CE (i+1) ⟨ω,ue (by unfold so;rw[T0 O];rfl) w⟩ ω ?_;(exact wC))
 obtain rfl:i=h.K.length:=ω
 have G:sS h c=none:=D8 w;rw[G]at d;simp only at d;have k:=Br h [] c B p;rw[d];unfold Hb at k;by_cases J:(au h.w 1).2.2=false
 ·rw[C9 J]at k |-
  repeat'(first|refine gD ?_|(conv=>whnf);first|refine CK (k) (.inl rfl) ?_)
  refine CG rfl rfl ?_;exact wC
 rw[C8 J]at k |-;by_cases K:(newK h.G (au h.w 1).2.1).2=false
 ·rw[C9 K]at k |-
  repeat'(first|refine gD ?_|(conv=>whnf);first|refine CK (k) (.inl rfl) ?_)
  refine CG rfl rfl ?_;exact wC
 rw[C8 K]at k |-;obtain⟨U,V⟩:=LY B N p J K;have L:=sq (q8 h c) [] (rc h) U V;generalize q8 h c=g at k L |-;generalize rc h=b at k L |-
 repeat'(first|refine gD ?_|(conv=>whnf);first|refine CK (k) (.inl rfl) ?_|refine CK (L) (.inl rfl) ?_)
 refine CG rfl rfl ?_;exact wC
def HM(h:ab)(size:Int):ab × Int:=
 if(au h.w (gT size:Nat)).2.2=false then(h,-1)
 else if(dG h size).2=gT size then({h with G:=(dG h size).1,w:=(au h.w (gT size:Nat)).1,M:=jf (PA (au h.w (gT size:Nat)).2.1) h.M ⟨(au h.w (gT size:Nat)).2.1,(gT size:Nat),size⟩},16*(au h.w (gT size:Nat)).2.1)
 else({h with G:=unmN (dG h size).1 (au h.w (gT size:Nat)).2.1 (dG h size).2},-1)
theorem vV(k:ah)(p:Int)(i:Nat):newsK k p (i+1)=if(newsK k p i).2=i then((newK (newsK k p i).1 (p+(i:Nat))).1,if(newK (newsK k p i).1 (p+(i:Nat))).2=true then i+1 else i) else newsK k p i:=rfl
theorem Di(k:ah)(p:Int):∀i,(newsK k p i).2<=i
 | 0=>X2 _
 | i+1=>by
  have b:=Di k p i;rw[vV];by_cases e:(newsK k p i).2=i
  ·rw[C9 e]
   show(if _ then i+1 else i)<=i+1;by_cases a:(newK (newsK k p i).1 (p+(i:Nat))).2=true
   ·rw[C9 a];exact X2 _
   rw[C8 a];exact Nat.le_succ _
  rw[C8 e];omega
theorem mM{k:ah}{p:Int}{i:Nat}(h:(newsK k p i).2≠i):∀j,newsK k p (i+j)=newsK k p i/\(newsK k p (i+j)).2<i+j
 | 0=>⟨rfl,by show(newsK k p i).2<i;have:=Di k p i;omega⟩
 | j+1=>by
  have a:=mM h j;have e:newsK k p (i+(j+1))=newsK k p (i+j):=by
   show newsK k p (i+j+1)=_;rw[vV,C8 ω]
  exact⟨e.trans a.1,by rw[e];omega⟩
theorem yw(h:ab)(size:Int)(l:aZ h [])(C:9<=size/\size<=1000)(V:h.G.Calls<=90000):aS Tryz.prog 237 false [.ptr (bx h),.val none [I size]] [.ptr (bx (HM h size).1),.val none [I size]] .one [I (HM h size).2]:=by
 have E:=l.lens;have W:=E.larges;have Q:=l;have F:dC h<=32:=E.ents;have G:f8 size=((gT size:Nat):Int):=by unfold f8 gT;split<;>omega
 have hN:1<=gT size/\gT size<=63:=by unfold gT;omega
 have H:=lZ size;rw[G]at H;have R:=gX h;have t:=po (dC h:Nat) h.w (gT size:Nat) ⟨ω,ω⟩ l.rng ⟨ω,ω⟩ (by have:=E.free;omega);unfold QI at t;have b:=jr l (show(1:Int)<=(gT size:Nat) by omega);unfold HM dG;generalize gT size=N at *;generalize au h.w (N:Nat)=r at t b |-;obtain⟨J,p,ok⟩:=r;simp only at t b |-;refine fM 105 [(387,[2,0]),(388,[2,0]),(2000018,[0,7])] [(2,268,[16,17,18,19,20,21,22,23,15,24,25,26,0,1,2,3,4,5,6,7,8,9,10,11,12,1010,1011,13,1011,14])] [(0,0),(0,0)] Tryz.func237 rfl (λu q=>?_);cases ok with
 | false=>
  rw[C9 rfl]
  repeat'(first|refine gO ?_|(conv=>whnf);first|refine CB ?_|refine C7 (H) ?_|refine CH (R) ⟨bG h,trivial⟩ ?_|refine CH (t) ⟨⟨rfl,rfl⟩,⟨rfl,eA h.w⟩,⟨rfl,rfl⟩,trivial⟩ ?_|refine CB ?_)
  refine CG rfl rfl ?_;exact wC
 | true=>
  rw[C8 (by simp)];obtain⟨S,K,B,u4⟩:=b rfl;change p+(N:Nat)<=(h.G.F.R.J.length:Nat) at K;change ∀q:Nat,p<=q->(q:Int)<p+(N:Nat)->(nth h.G.F.R.J q).e=0 at B
  have X:h.G.F.R.J.length<=32:=F
  repeat'(first|refine gO ?_|(conv=>whnf);first|refine CB ?_|refine C7 (H) ?_|refine CH (R) ⟨bG h,trivial⟩ ?_|refine CH (t) ⟨⟨rfl,rfl⟩,⟨rfl,eA h.w⟩,⟨rfl,rfl⟩,trivial⟩ ?_|refine CB ?_)
  (conv=>whnf)
  refine CF (ι:=Nat) (λi=>[(0,.H .box (bx {h with G:=(newsK h.G p i).1})),(1,.H .one [I (size)]),(5,.H .one [I ((N:Nat):Int)]),(6,.H .one (bQ .own J)),(7,.H .one [I (p)]),(9,.H .one [I ((i:Nat):Int)])]) (λi=>i<=N/\(newsK h.G p i).2=i) (λi=>N - i) (0) ?_ (⟨U0 _,rfl⟩) λi l=>?_
  ·exact wC
  obtain⟨L,M⟩:=l;have s:=lR.of (p:=p) (n:=N) Q.ker ω ⟨S,K⟩ B i L;have Y:=s.calls;have Z:=s.len;by_cases li:i<N
  ·have O:(nth (newsK h.G p i).1.F.R.J (p+(i:Nat)).toNat).e=0:=by
    rw[s.out _ (by rw[M];omega)];exact B _ ω ω
   have c:=BJ {h with G:=(newsK h.G p i).1} (p+(i:Nat)) s.ker (by show(newsK h.G p i).1.Calls≠100000;omega) ⟨ω,by show p+(i:Nat)<((newsK h.G p i).1.F.R.J.length:Nat);omega⟩ O;have a:newsK h.G p (i+1)=((newK (newsK h.G p i).1 (p+(i:Nat))).1,if(newK (newsK h.G p i).1 (p+(i:Nat))).2=true then i+1 else i):=by
    show(if(newsK h.G p i).2=i then _ else _)=_;rw[C9 M]
   simp only at c;cases e:(newK (newsK h.G p i).1 (p+(i:Nat))).2 with
   | true=>
    rw[e]at c a;rw[C9 rfl]at a;have P:(newK (newsK h.G p i).1 (p+(i:Nat))).1=(newsK h.G p (i+1)).1:=by rw[a]
    rw[P]at c
    repeat'(first|refine gD ?_|(conv=>whnf);first|refine CB ?_|refine CK (c) (.inl rfl) ?_)
    ((conv=>whnf);refine CE (i+1) ⟨ω,by rw[a]⟩ ω ?_;(exact wC))
   | false=>
    rw[e]at c a;rw[C8 (by simp)]at a;have d:=mM (k:=h.G) (p:=p) (i:=i+1) (by rw[a];simp only;omega) (N - (i+1));rw[show i+1+(N - (i+1))=N by omega]at d;rw[d.1]at d;have T:=lR.of (p:=p) (n:=N) Q.ker ω ⟨S,K⟩ B (i+1) ω;rw[C8 (by have:=mM (k:=h.G) (p:=p) (i:=i+1) (by rw[a];simp only;omega) (N - (i+1));rw[show i+1+(N - (i+1))=N by omega]at this;omega)];rw[show newsK h.G p N=newsK h.G p (i+1) by have:=mM (k:=h.G) (p:=p) (i:=i+1) (by rw[a];simp only;omega) (N - (i+1));rw[show i+1+(N - (i+1))=N by omega]at this;exact this.1];rw[a]at T |-;have g:=T.ker;simp only at g |-;generalize (newK (newsK h.G p i).1 (p+(i:Nat))).1=k at c g |-
    repeat'(first|refine gD ?_|(conv=>whnf);first|refine CB ?_|refine CK (c) (.inl rfl) ?_)
    (conv=>whnf)
    refine CF (ι:=Nat) (λj=>[(0,.H .box (bx {h with G:=unmN k p j})),(1,.H .one [I (size)]),(5,.H .one [I ((N:Nat):Int)]),(7,.H .one [I (p)]),(9,.H .one [I ((i:Nat):Int)]),(10,.H .one [I ((j:Nat):Int)])]) (λj=>j<=i) (λj=>i - j) (0) ?_ (U0 _) λj hj=>?_
    ·exact wC
    have c4:=ni {h with G:=unmN k p j} (p+(j:Nat)) (iB g p j);by_cases lj:j<i
    ·repeat'(first|refine gD ?_|(conv=>whnf);first|refine CB ?_|refine CK (c4) (.inl rfl) ?_)
     ((conv=>whnf);refine CE (j+1) ω ω ?_;(exact wC))
    obtain rfl:j=i:=ω
    repeat'(first|refine gD ?_|(conv=>whnf);first|refine CB ?_)
    refine CG rfl rfl ?_;exact wC
  obtain rfl:i=N:=ω
  rw[C9 M];generalize (newsK h.G p i).1=k
  repeat'(first|refine gD ?_|(conv=>whnf);first|refine CB ?_)
  (conv=>whnf)
  refine CF (ι:=Nat) (λm=>[(0,.H .box (bx {h with G:=k,w:=J})),(1,.H .one [I (size)]),(5,.H .one [I ((i:Nat):Int)]),(7,.H .one [I (p)]),(11,.H .one [I ((m:Nat):Int)])]) (λm=>m<=h.M.length/\∀(j:Nat)(z:a7),j<m->h.M[j]? = some z->PA p z=false) (λm=>h.M.length - m) (0) ?_ (⟨U0 _,λj z hj=>ω⟩) λm hm=>?_
  ·exact wC
  obtain⟨hm',U⟩:=hm;have hl2:({h with G:=k,w:=J} : ab).M.length=h.M.length:=rfl;by_cases go:m<h.M.length/\(nth h.M m).Q<p
  ·have o:=ao go.1
   repeat'(first|refine gD ?_|(conv=>whnf);first|with_reducible refine CD (aa o) ?_|refine CB ?_|refine CJ rfl (aa o) rfl ?_)
   ((conv=>whnf);refine CE (m+1) ⟨ω,d8 o (T0 ω) U⟩ ω ?_;(exact wC))
  have w:kB (PA p) h.M=m:=vA ω U λz C=>by
   have hlt:=(C2.1 C).1;have:z=nth h.M m:=(bj C).symm;subst this;exact O0 ω
  have o:m<h.M.length->h.M[m]? = some (nth h.M m):=λhh=>ao hh
  rw[vw w]
  repeat'(first|refine gD ?_|(conv=>whnf);first|with_reducible (first|refine CD (aa (o ω)) ?_|refine Bf.D (λhq=>?_) (λhq=>?_))|refine CB ?_|refine CJ rfl (aa (o ω)) rfl ?_|refine FH.mk rfl (zB h.M) rfl ?_|refine CX m rfl (by rw[Z0];omega) (aT λ_=>rfl) Y3 ?_|refine Sl.suf m rfl (by rw[Z0];omega) (aT λ_=>rfl) Z3 ?_|refine CS (λ_=>rfl) (λ_=>rfl) (by rw[R1];omega) (by decide) ?_|refine Ap.sn (aT λ_=>rfl) rfl (by rw[Z0,R1];omega) (by decide) rfl ?_|refine Ap.ins (e:=a7.enc .V) (y:=⟨p,(i:Nat),size⟩) rfl (λ_=>rfl) (λ_=>rfl) ω (by decide) ?_)
  all_goals
   refine CG rfl ?_ ?_
   ·exact W0 (λz=>[I z]) ω
   exact wC
theorem DE{k:ah}(h:a8 k=true)(b:jo k.y):ah.wf k:=by
 obtain⟨p,f,g,q,t⟩:=aE.1 h;obtain⟨u,w,y,A⟩:=aX.1 f;obtain⟨i,B,C⟩:=bv.1 g;refine⟨⟨⟨⟨ω,λr b=>?_⟩,⟨ω,λ_ _=>trivial⟩⟩,⟨ω,λe l=>?_⟩⟩,⟨ω,ω⟩,b⟩
 ·obtain⟨j,c,rfl⟩:=aK b
  obtain⟨D,n⟩:=sZ h c;exact⟨ω,λv o=>by have:=n v o;exact⟨ω,ω⟩⟩
 obtain⟨j,c,rfl⟩:=aK l;have a:=i j c;unfold kj at a;rw[C0]at a;by_cases d:(nth k.F.R.J j).e=0
 ·have:=a.2.2.1 d;exact⟨⟨ω,ω⟩,⟨ω,ω⟩⟩
 have:=a.2.2.2 d;exact⟨⟨ω,ω⟩,⟨ω,ω⟩⟩
theorem GB{p:cP}(h:eH p=true):cP.wf p:=by
 have a:=λi b=>fW h (i:=i) b
 have e:p.T.length<=16:=mD h;unfold eH at h;simp only[I0,C0]at h;exact⟨⟨ω,ω⟩,⟨ω,ω⟩,⟨ω,λv c=>by
   obtain⟨j,d,rfl⟩:=aK c;have:=a j d;exact⟨ω,ω⟩⟩⟩
theorem aZ.jobWf{h:ab}{E:List Int}(a:aZ h E):cM.wf h.Z/\cM.sml h.Z:=by
 cases b:h.u with
 | true=>
  obtain⟨c,f,g,i,j⟩:=dw.1 (a.job b).1;have k:=mD c;exact⟨⟨GB c,⟨ω,ω⟩,⟨ω,ω⟩⟩,by show h.Z.X.T.length<=1048576;omega⟩
 | false=>
  have:=a.noj b;unfold ss at this;rw[C0]at this;obtain⟨l,n,e,o,p⟩:=this;refine⟨⟨⟨⟨ω,ω⟩,⟨ω,ω⟩,⟨ω,λv d=>?_⟩⟩,⟨ω,ω⟩,⟨ω,ω⟩⟩,by show h.Z.X.T.length<=1048576;omega⟩;rw[I6 e]at d;cases d
theorem wE{n:Int}(h:0<=aJ n):1<=n/\n<=8:=by
 unfold aJ at h
 repeat' split at h
 all_goals omega
theorem jP.wf{h:ab}{E:List Int}(b:aZ h E){a c:Int}(d:jP h.K a c):mI a:=by
 have:=d.bd b;exact⟨ω,ω⟩
theorem aZ.wf{h:ab}{E:List Int}(d:aZ h E)(M:jo h.G.y):ab.wf h:=by
 have q:=d.lens;have r:=d.L;have D:=d.nums;unfold cn at D;rw[C0]at D;obtain⟨X,N,Y⟩:=fC.1 d.rng;obtain⟨O,-,-,Z,q5,-⟩:=jM.1 d.quar;have w:=d.mail;have k:=d.hfl;unfold aF at k;rw[C9 w]at k;unfold bI at w;simp only[I0,C0,cz,gx,W3,np,NK]at w;obtain⟨⟨⟨m1,m2,m3⟩,P⟩,m5⟩:=w;have A:=q.free;have Q:=q.spans;have h3:=q.larges;have h4:=q.objs;have h5:=q.caches;have h6:=q.quar;have t:∀n:Nat,bt h.q n<=bt h.q (n+1):=λn=>by simp only[bt];omega
 have g:∀a b:Nat,a<=b->bt h.q a<=bt h.q b:=λa b u=>by
  induction u with
  | refl=>exact T4 _
  | step _ R=>exact Int.le_trans R (t _)
 have B:∀n:Nat,0<=bt h.q n:=λn=>g 0 n (U0 _)
 have o:∀i,i<h.q.U.length->(nth h.q.U i).length<=30/\(nth h.q.a0 i).length<=30:=λi f=>by
  have F:=g (i+1) h.q.U.length ω;have S:=B i;simp only[bt]at F;omega
 refine⟨DE d.ker M,⟨ω,λx e=>?_⟩,⟨ω,λx e=>?_⟩,⟨ω,λx e=>?_⟩,⟨ω,λx e=>?_⟩,⟨ω,λx e=>?_⟩,⟨⟨ω,λl c=>?_⟩,⟨ω,λl c=>?_⟩⟩,⟨⟨ω,ω⟩,⟨ω,λx e=>?_⟩⟩,⟨ω,ω⟩,⟨ω,ω⟩,⟨ω,ω⟩,⟨ω,ω⟩,trivial,d.jobWf.1⟩
 ·have:=N x e;exact⟨⟨ω,ω⟩,⟨ω,ω⟩⟩
 ·have y:=r.sok x e
  have G:=eI y;have T:=aB y;exact⟨⟨ω,ω⟩,⟨ω,ω⟩,⟨ω,ω⟩⟩
 ·have H:=aM (r.lok x e)
  have J:=cK (r.lok x e);exact⟨⟨ω,ω⟩,⟨ω,ω⟩,⟨ω,ω⟩⟩
 ·obtain⟨o1,o2,o3,o4⟩:=d.onu x e
  have u:0<=x.Addr/\x.Addr<512/\-1000<=x.o/\x.o<=1000:=by
   rcases d.oow x e with⟨s,y,A,Q⟩|⟨l,c,F,S⟩
   ·have T:=aB (r.sok s y)
    have:=wE (n:=x.o) ω;exact⟨by have:=A.1;omega,by have:=A.2.1;omega,ω,ω⟩
   have H:=aM (r.lok l c);have J:=cK (r.lok l c);omega
  exact⟨⟨ω,ω⟩,⟨ω,ω⟩,⟨ω,ω⟩,⟨ω,ω⟩⟩
 ·obtain⟨c1,U⟩:=q.lists x e
  refine⟨ω,λl c=>⟨by have:=U l c;omega,λa C=>?_⟩⟩;obtain⟨j,V,rfl⟩:=aK c;exact jP.wf d (d.hca x e j V a C)
 ·obtain⟨i,f,rfl⟩:=aK c
  have G:=o i f;refine⟨ω,λp K=>?_⟩;have W:=(P i f).1 p K;exact⟨⟨ω,ω⟩,jP.wf d (k p.Addr (W2.2 (.inl (List.mem_flatMap.2 ⟨_,am f,t4.2 ⟨p,K,rfl⟩⟩))))⟩
 ·obtain⟨i,f,rfl⟩:=aK c
  have G:=o i ω;exact⟨ω,λa C=>jP.wf d (k a (W2.2 (.inr (List.mem_flatten.2 ⟨_,am f,C⟩))))⟩
 have H:=O x e;have J:=d.snc x e;exact⟨jP.wf d (d.hqu x e),⟨ω,ω⟩,⟨ω,ω⟩⟩
structure Rt(h:ab):Prop where
 ker:a8 h.G=true
 wf:ab.wf h
 sml:ab.sml h
 lens:Pn h
theorem aZ.fit{h:ab}{E:List Int}(a:aZ h E)(b:jo h.G.y)(c:aL.sml h.q):Rt h:=⟨a.ker,a.wf b,a.lens.sml a.ker c a.jobWf.2,a.lens⟩
theorem FI{h:ab}(b:aZ h [])(c:h.u=true):a8 (mStep h).G=true/\(mStep h).G.Calls<=h.G.Calls+1/\(mStep h).G.y=h.G.y/\(mStep h).q=h.q/\(Ed h=true->(mStep h).u=false)/\cM.wf (mStep h).Z/\cM.sml (mStep h).Z:=by
 have s:=JS.of b c;refine⟨s.ker,s.calls.2.1,s.calls.2.2,rfl,λa=>?_,?_⟩
 ·unfold Ed at a
  rw[C0]at a;show(if over _=true then false else h.u)=false;rw[C9 (show over (gK h.G h.Z).2=true from O0 (.inl a))]
 show cM.wf (if over _=true then _ else _)/\cM.sml (if over _=true then _ else _);split
 ·exact⟨⟨⟨⟨by decide,by decide⟩,⟨by decide,by decide⟩,⟨by decide,λv f=>by cases f⟩⟩,⟨by decide,by decide⟩,⟨by decide,by decide⟩⟩,by show(0:Nat)<=1048576;omega⟩
 have d:=(dw.1 (b.job c).1).1;have g:=mD d;obtain⟨j,k⟩:=s.ph;obtain⟨l,i⟩:=s.nxt;have e:=s.plan;refine⟨⟨by rw[e];exact GB d,⟨ω,ω⟩,⟨ω,by rw[e]at i;omega⟩⟩,by show((gK h.G h.Z).2.X.T).length<=1048576;rw[e];omega⟩
def vm(h:ab):Nat->ab × Bool
 | 0=>(h,false)
 | i+1=>if(vm h i).1.u=true then(mStep (vm h i).1,Ed (vm h i).1) else vm h i
def fin(h:ab):ab × Bool:=vm h 100
theorem DM{h:ab}(g:aZ h []):aZ (started h).1 []/\(started h).1.G=h.G/\(started h).1.q=h.q:=by
 have t:=g.nums;unfold cn at t;rw[C0]at t;have u:=(mG (bA h).length (show 0<=h.c0/\h.c0<=1073741823 by omega) ((bA h).length - 1)).2;have j:=nt (bA h) (show 0<=h.c0/\h.c0<=1073741823 by omega);have c:cn {h with c0:=(shuf (bA h).length h.c0).2} = true:=by
  unfold cn;rw[C0];unfold shuf;simp only;omega
 cases k:lI (bA h) h.c0 with
 | nil=>
  have f:Ab.started h=({h with c0:=(shuf (bA h).length h.c0).2},false):=by unfold Ab.started;rw[k]
  rw[f];exact⟨{g with nums:=c},rfl,rfl⟩
 | cons q C=>
  obtain⟨D,E,l⟩:=j q (by rw[k];exact U1 ..);have f:Ab.started h=({h with c0:=(shuf (bA h).length h.c0).2,u:=true,Z:=t8 (df (nth (bA h) q.A.toNat) (nth (bA h) q.B.toNat))},true):=by unfold Ab.started;rw[k]
  rw[f];have d:∀s∈bA h,s∈h.K:=λs w=>m6 h (X2 _) s (List.mem_of_mem_take w)
  have n:=d _ (am (xs:=bA h) (i:=q.A.toNat) ω);have o:=d _ (am (xs:=bA h) (i:=q.B.toNat) ω);generalize nth (bA h) q.A.toNat=a at l n |-;generalize nth (bA h) q.B.toNat=b at l o |-;obtain⟨y,F,G⟩:=tZ l;have p:jH (t8 (df a b))=true:=dw.2 ⟨y,by show(0:Int)<=0;omega,by show(0:Int)<=5;omega,by show(0:Int)<=0;omega,by show(0:Int)<=(((df a b).T.length:Nat):Int);omega⟩;have r:(∃s∈h.K,s.Q=(df a b).a3)/\∃s∈h.K,s.Q=(df a b).a1:=by
   unfold df;split
   ·exact⟨⟨b,o,rfl⟩,⟨a,n,rfl⟩⟩
   exact⟨⟨a,n,rfl⟩,⟨b,o,rfl⟩⟩
  exact⟨{g with nums:=c,job:=λ_=>⟨p,r⟩,noj:=λe=>by cases e},rfl,rfl⟩
theorem aZ.objSz{h:ab}{E:List Int}(a:aZ h E):∀o∈h.O,0<=o.o/\o.o<=1000:=λx c=>by
 rcases a.oow x c with⟨s,d,e,f⟩|⟨l,b,g,i⟩
 ·have j:=aB (a.L.sok s d)
  have:=wE (n:=x.o) ω;omega
 have k:=cK (a.L.lok l b);omega
theorem Ji{h:ab}(t:Int){size:Int}(c:aZ h [])(d:9<=size/\size<=1000):largeA h t size=if(HM h size).2<0 then((HM h size).1,-1,4) else(addO (HM h size).1 (HM h size).2 size t,(HM h size).2,0):=by
 unfold largeA HM;by_cases a:(au h.w (gT size:Nat)).2.2=false
 ·rw[C9 a,C9 a]
  exact(C9 (show(-1:Int)<0 by decide)).symm
 rw[C8 a,C8 a];obtain⟨e,-⟩:=jr c (show(1:Int)<=(gT size:Nat) by unfold gT;omega) (by simpa using a);by_cases b:(dG h size).2=gT size
 ·rw[C9 b,C9 b]
  exact(C8 (show ¬16*(au h.w (gT size:Nat)).2.1<0 by omega)).symm
 rw[C8 b,C8 b];exact(C9 (show(-1:Int)<0 by decide)).symm
theorem yu(h:ab)(t size:Int)(k:aZ h []):aS Tryz.prog 71 false [.ptr (bx h),.val none [I t],.val none [I size]] [.ptr (bx (allocH h t size).1),.val none [I t],.val none [I size]] (.tup [none,none]) [I (allocH h t size).2.1,I (allocH h t size).2.2]:=by
 have X:=k.lens;have hlc:=X.caches;have P:=X.objs;have p:=k.nums;unfold cn at p;rw[C0]at p;have Q:=tH k.objSz h.O.length (X2 _);change 0<=tE h/\tE h<=_ at Q;have n:=aH t 0 ((h.S.length:Int) - 1);have r:=aH size 1 1000;have E:=vI h k.objSz ω;have F:=kG size;refine fM 119 [(236,[2,0,0]),(237,[2,0])] [(7,10,[36,37,38,39,40,41,42,43,44,45]),(18,272,[81,82,83,84,85,86,87,89,90,91,92,93,94,95,96,97,0,1,2,3,4,5,6,8,9,10,11,12,13,14,15,16,1016,7,1008,1009,1010,1011,1012,1013,1014,1015,1016,17,18]),(1048594,0,[8])] [(0,0),(0,0),(0,0)] Tryz.func71 rfl (λu q=>?_) (.inr ⟨trivial,trivial,trivial⟩);unfold allocH;by_cases h1:1000000<=h.d
 ·rw[C9 (.inl h1)]
  repeat'(first|refine gD ?_|(conv=>whnf);first|refine CB ?_)
  refine CG rfl rfl ?_;exact wC
 by_cases h2:90000<h.G.Calls
 ·rw[C9 (.inr h2)]
  repeat'(first|refine gD ?_|(conv=>whnf);first|with_reducible refine Bf.D (λb=>?_) (λb=>?_)|refine CB ?_)
  refine CG rfl rfl ?_;exact wC
 rw[C8 ω];by_cases C:¬(0<=t/\t<=h.S.length - 1)
 ·rw[C9 C]
  rw[T0 C]at n
  repeat'(first|refine gD ?_|(conv=>whnf);first|with_reducible refine Bf.D (λb=>?_) (λb=>?_)|refine CB ?_|refine C7 (n) ?_)
  refine CG rfl rfl ?_;exact wC
 rw[C8 C];replace C:=Decidable.not_not.1 C;rw[O0 C]at n;by_cases B:¬(1<=size/\size<=1000)
 ·rw[C9 B]
  rw[T0 B]at r
  repeat'(first|refine gD ?_|(conv=>whnf);first|with_reducible refine Bf.D (λb=>?_) (λb=>?_)|refine CB ?_|refine C7 (n) ?_|refine C7 (r) ?_)
  refine CG rfl rfl ?_;exact wC
 rw[C8 B];replace B:=Decidable.not_not.1 B;rw[O0 B]at r;by_cases Y:h.c3<tE h+size
 ·rw[C9 Y]
  repeat'(first|refine gD ?_|(conv=>whnf);first|with_reducible refine Bf.D (λb=>?_) (λb=>?_)|refine CB ?_|refine C7 (n) ?_|refine C7 (r) ?_|refine CH (E) ⟨⟨rfl,bG h⟩,trivial⟩ ?_|refine CB ?_)
  refine CG rfl rfl ?_;exact wC
 rw[C8 Y];by_cases G:0<=aJ size
 ·rw[C9 G]
  have hc3:aJ size<=3:=by unfold aJ;repeat' split<;>omega
  obtain⟨T,rfl⟩:=U2 C.1;obtain⟨K,hK⟩:=U2 G;have o:=yd h T K k ω ω ω;have s:=uj (t:=T) (c:=K) k ω ω ω;rw[hK]at F |-;simp only[R2];generalize smallA h T K=w at o s |-;obtain⟨g,a⟩:=w;have H:g.d=h.d:=s.nx;simp only at o |-;by_cases J:a<0
  ·rw[C9 J]
   repeat'(first|refine gD ?_|(conv=>whnf);first|with_reducible refine Bf.D (λb=>?_) (λb=>?_)|refine CB ?_|refine C7 (n) ?_|refine C7 (r) ?_|refine CH (E) ⟨⟨rfl,bG h⟩,trivial⟩ ?_|refine CB ?_|refine C7 (F) ?_|refine CK (o) (.inl rfl) ?_)
   refine CG rfl rfl ?_;exact wC
  rw[C8 J];obtain⟨k1,k2⟩:=s.yes (show(0:Int)<=a by omega);have R:g.O.length<=512:=k1.lens.objs
  repeat'(first|refine gD ?_|(conv=>whnf);first|with_reducible refine Bf.D (λb=>?_) (λb=>?_)|refine CB ?_|refine C7 (n) ?_|refine C7 (r) ?_|refine CH (E) ⟨⟨rfl,bG h⟩,trivial⟩ ?_|refine CB ?_|refine C7 (F) ?_|refine CK (o) (.inl rfl) ?_)
  (conv=>whnf)
  refine CF (ι:=Nat) (λi=>[(0,.H .box (bx g)),(1,.H .one [I ((T:Nat):Int)]),(2,.H .one [I (size)]),(8,.H .one [I (a)]),(9,.H .one [I ((i:Nat):Int)])]) (λi=>i<=g.O.length/\∀(j:Nat)(z:bz),j<i->g.O[j]? = some z->ML a z=false) (λi=>g.O.length - i) (0) ?_ (⟨U0 _,λj z hj=>ω⟩) λi k=>?_
  ·exact wC
  obtain⟨S,L⟩:=k;by_cases U:i<g.O.length/\(nth g.O i).Addr<a
  ·have d:=ao U.1
   repeat'(first|refine gD ?_|(conv=>whnf);first|with_reducible refine CD (aa d) ?_|refine CB ?_|refine CJ rfl (aa d) rfl ?_)
   ((conv=>whnf);refine CE (i+1) ⟨ω,d8 d (T0 ω) L⟩ ω ?_;(exact wC))
  have l:kB (ML a) g.O=i:=vA ω L λz M=>by
   have V:=(C2.1 M).1;have:z=nth g.O i:=(bj M).symm;subst this;exact O0 ω
  have d:i<g.O.length->g.O[i]? = some (nth g.O i):=λW=>ao W
  rw[show addO g a size (T:Nat) = {g with O:=g.O.take i++⟨g.d,a,size,(T:Nat)⟩::g.O.drop i,d:=g.d+1} by unfold addO;rw[vw l]]
  repeat'(first|refine gD ?_|(conv=>whnf);first|with_reducible (first|refine CD (aa (d ω)) ?_|refine Bf.D (λb=>?_) (λb=>?_))|refine CB ?_|refine CJ rfl (aa (d ω)) rfl ?_|refine FH.mk rfl (B7 g.O) rfl ?_|refine CX i rfl (by rw[Z0];omega) (aT λ_=>rfl) Y3 ?_|refine Sl.suf i rfl (by rw[Z0];omega) (aT λ_=>rfl) Z3 ?_|refine CS (λ_=>rfl) (λ_=>rfl) (by rw[R1];omega) (by decide) ?_|refine Ap.sn (aT λ_=>rfl) rfl (by rw[Z0,R1];omega) (by decide) rfl ?_|refine Ap.ins (e:=bz.enc .V) (y:=⟨g.d,a,size,(T:Nat)⟩) rfl (λ_=>rfl) (λ_=>rfl) ω (by decide) ?_|refine CB ?_)
  all_goals
   refine CG rfl rfl ?_;exact wC
 rw[C8 G];have N:9<=size:=by unfold aJ at G;repeat' split at G<;>omega
 have o:=yw h size k ⟨N,B.2⟩ ω;rw[Ji t k ⟨N,B.2⟩];have Z:(HM h size).1.d=h.d/\(HM h size).1.O=h.O:=by
  unfold HM;split
  ·exact⟨rfl,rfl⟩
  split<;>exact⟨rfl,rfl⟩
 generalize HM h size=w at o Z |-;obtain⟨g,a⟩:=w;obtain⟨H,O⟩:=Z;simp only at o H O |-;have R:g.O.length<=512:=by rw[O];exact P
 by_cases J:a<0
 ·rw[C9 J]
  repeat'(first|refine gD ?_|(conv=>whnf);first|with_reducible refine Bf.D (λb=>?_) (λb=>?_)|refine CB ?_|refine C7 (n) ?_|refine C7 (r) ?_|refine CH (E) ⟨⟨rfl,bG h⟩,trivial⟩ ?_|refine CB ?_|refine C7 (F) ?_|refine CK (o) (.inl rfl) ?_)
  refine CG rfl rfl ?_;exact wC
 rw[C8 J]
 repeat'(first|refine gD ?_|(conv=>whnf);first|with_reducible refine Bf.D (λb=>?_) (λb=>?_)|refine CB ?_|refine C7 (n) ?_|refine C7 (r) ?_|refine CH (E) ⟨⟨rfl,bG h⟩,trivial⟩ ?_|refine CB ?_|refine C7 (F) ?_|refine CK (o) (.inl rfl) ?_)
 (conv=>whnf)
 refine CF (ι:=Nat) (λi=>[(0,.H .box (bx g)),(1,.H .one [I (t)]),(2,.H .one [I (size)]),(8,.H .one [I (a)]),(9,.H .one [I ((i:Nat):Int)])]) (λi=>i<=g.O.length/\∀(j:Nat)(z:bz),j<i->g.O[j]? = some z->ML a z=false) (λi=>g.O.length - i) (0) ?_ (⟨U0 _,λj z hj=>ω⟩) λi k=>?_
 ·exact wC
 obtain⟨S,L⟩:=k;by_cases U:i<g.O.length/\(nth g.O i).Addr<a
 ·have d:=ao U.1
  repeat'(first|refine gD ?_|(conv=>whnf);first|with_reducible refine CD (aa d) ?_|refine CB ?_|refine CJ rfl (aa d) rfl ?_)
  ((conv=>whnf);refine CE (i+1) ⟨ω,d8 d (T0 ω) L⟩ ω ?_;(exact wC))
 have l:kB (ML a) g.O=i:=vA ω L λz M=>by
  have V:=(C2.1 M).1;have:z=nth g.O i:=(bj M).symm;subst this;exact O0 ω
 have d:i<g.O.length->g.O[i]? = some (nth g.O i):=λW=>ao W
 rw[show addO g a size t = {g with O:=g.O.take i++⟨g.d,a,size,t⟩::g.O.drop i,d:=g.d+1} by unfold addO;rw[vw l]]
 repeat'(first|refine gD ?_|(conv=>whnf);first|with_reducible (first|refine CD (aa (d ω)) ?_|refine Bf.D (λb=>?_) (λb=>?_))|refine CB ?_|refine CJ rfl (aa (d ω)) rfl ?_|refine FH.mk rfl (B7 g.O) rfl ?_|refine CX i rfl (by rw[Z0];omega) (aT λ_=>rfl) Y3 ?_|refine Sl.suf i rfl (by rw[Z0];omega) (aT λ_=>rfl) Z3 ?_|refine CS (λ_=>rfl) (λ_=>rfl) (by rw[R1];omega) (by decide) ?_|refine Ap.sn (aT λ_=>rfl) rfl (by rw[Z0,R1];omega) (by decide) rfl ?_|refine Ap.ins (e:=bz.enc .V) (y:=⟨g.d,a,size,t⟩) rfl (λ_=>rfl) (λ_=>rfl) ω (by decide) ?_|refine CB ?_)
 all_goals
  refine CG rfl rfl ?_;exact wC
theorem FW(h:ab)(a n:Int)(t:h.M.length<=4096)(j:∀l∈h.M,bC l=true)(o:yC h a<0):aS Tryz.prog 531 false [.ptr (bx h),.val none [I a],.val none [I n]] [.ptr (bx h),.val none [I a],.val none [I n]] .one [B false]:=by
 have b:∀l∈h.M,l.Q*16≠a:=λl c e=>by
  have:=Dq (p:=Hq a) c (O0 e);unfold yC at o;omega
 refine fM 136 [(388,[2,0])] [(8,6,[49,50,51,52,53,54]),(9,10,[56,57,58,59,60,61,62,63,64,65]),(20,270,[123,124,125,126,127,128,129,130,131,122,132,133,134,135,0,1,2,3,4,5,6,7,8,9,10,11,12,13,14,1011])] [(0,0),(0,0),(0,0)] Tryz.func531 rfl (λu q=>?_)
 repeat'(first|refine gO ?_|(conv=>whnf);first|refine CB ?_)
 (conv=>whnf)
 refine CF (ι:=Nat) (λk=>[(0,.H .box (bx h)),(1,.H .one [I (a)]),(2,.H .one [I (n)]),(7,.H .one [I ((k:Nat):Int)])]) (λk=>k<=h.M.length) (λk=>h.M.length - k) (0) ?_ (U0 _) λk w=>?_
 ·repeat'(first|exact trivial|rfl |exact o7 r|exact o7 g|exact eJ _|refine CL ?_ ?_|(exact E4 (by first|omega|(simp only;omega)|(simp;omega))))
 by_cases d:k<h.M.length
 ·have i:=ao d
  have y:=b _ (am d);have C:=aM (j _ (am d))
  repeat'(first|refine gA ?_|(conv=>whnf);first|with_reducible refine CD (aa i) ?_|refine CB ?_|refine CJ rfl (aa i) rfl ?_)
  ((conv=>whnf);refine CE (k+1) ω ω ?_;(exact wC))
 repeat'(first|refine gD ?_|(conv=>whnf);first|refine CB ?_)
 refine CG rfl rfl ?_;exact wC
theorem PP(h:ab)(a:Int)(m:Nat):bx {h with G:=zK h.G a (m+1)} = (bx {h with G:=zK h.G a m}).set 0 (.s .own (((zK h.G a m).F.W.T.map (aG .own)).set (ac (zK h.G a m).F.R ((a+m) / 16)).j.toNat ((aG .own (nth (zK h.G a m).F.W.T (cN (zK h.G a m) (a+m)))).set 0 (.s .own (((nth (zK h.G a m).F.W.T (cN (zK h.G a m) (a+m))).map (rI .own)).set ((a+m) % 16).toNat (splice (rI .own (nth (nth (zK h.G a m).F.W.T (cN (zK h.G a m) (a+m))) ((a+m) % 16).toNat)) 0 [I 0])))))):=
 GW {h with G:=zK h.G a m} (a+m) 0
def lC(h:ab)(i k:Nat)(n:Int)(K:ah):ab:={h with G:=K,M:=h.M.set k (trimL (nth h.M k) n),O:=h.O.set i {nth h.O i with o:=n}}
theorem Ju(h:ab)(i k:Nat)(n:Int)(K:ah):(lC h i k n K).O.map (bz.enc .own)=(h.O.map (bz.enc .own)).set i (splice (bz.enc .own (nth h.O i)) 2 [I n]):=by
 simp[lC,I5,bz.enc,splice]
theorem rJ(h:ab)(i:Nat)(n:Int)(j:aZ h [])(H:i<h.O.length)(hg:0<=yC h (nth h.O i).Addr):aS Tryz.prog 531 false [.ptr (bx h),.val none [I (nth h.O i).Addr],.val none [I n]] [.ptr (bx (if lD h i n then trimH h i (yC h (nth h.O i).Addr).toNat n else h)),.val none [I (nth h.O i).Addr],.val none [I n]] .one [B (decide (lD h i n))]:=by
 have c:=j.lens;have hnl:=c.larges;have hno:=c.objs;have hpg:dC h<=32:=c.ents;obtain⟨f1,f2,f3⟩:=fp (Hq (nth h.O i).Addr) h.M hg;obtain⟨g,o⟩:=U2 hg;have b:g<h.M.length:=by unfold yC at o;omega
 have Y:(nth h.M g).Q*16=(nth h.O i).Addr:=by
  have:=of_decide_eq_true f2;rw[show(dJ (Hq (nth h.O i).Addr) h.M).toNat=g by unfold yC at o;omega]at this;exact this
 have J:∀k,k<g->(nth h.M k).Q*16≠(nth h.O i).Addr:=λk hk e=>by
  have N:k<h.M.length:=ω
  have hok1:=aM (j.L.lok _ (am N));have hok2:=aM (j.L.lok _ (am b));have:=j.L.one k g N b 0 0 ω ω ω;omega
 have p:lD h i n↔9<=n/\n<=(nth h.M g).o:=by
  unfold lD;rw[o,R2];exact⟨λx=>x.2,λx=>⟨ω,x⟩⟩
 rw[o,R2];have hbd:=tJ j (am H);obtain⟨-,Z,w⟩:=j.objAt (am H);have hii:oW h (nth h.O i).Addr=i:=by
  have h2:=(j.objAt (am H)).1;exact cG (f:=(·.Addr)) (dd j.osr) h2 H (by rw[Z])
 rw[hii]at w;have E:=ao H;have hxg:=ao b;have V:=vU (nth h.M g) n (j.L.lok _ (am b));have h8:=j.L.lok _ (am b);unfold bC at h8;rw[C0]at h8;refine fM 136 [(388,[2,0])] [(8,6,[49,50,51,52,53,54]),(9,10,[56,57,58,59,60,61,62,63,64,65]),(20,270,[123,124,125,126,127,128,129,130,131,122,132,133,134,135,0,1,2,3,4,5,6,7,8,9,10,11,12,13,14,1011])] [(0,0),(0,0),(0,0)] Tryz.func531 rfl (λu q=>?_)
 repeat'(first|refine gO ?_|(conv=>whnf);first|refine CB ?_)
 (conv=>whnf)
 refine CF (ι:=Nat) (λk=>[(0,.H .box (bx h)),(1,.H .one [I ((nth h.O i).Addr)]),(2,.H .one [I (n)]),(7,.H .one [I ((k:Nat):Int)])]) (λk=>k<=g) (λk=>g - k) (0) ?_ (U0 _) λk hk=>?_
 ·repeat'(first|exact trivial|rfl |exact o7 r|exact o7 d|exact eJ _|refine CL ?_ ?_|(exact E4 (by first|omega|(simp only;omega)|(simp;omega))))
 have l:=ao (xs:=h.M) (i:=k) ω;have hfk:=aM (j.L.lok _ (am (xs:=h.M) (i:=k) ω));by_cases e:k=g;rotate_left
 ·have hne:=J k ω
  repeat'(first|refine gA ?_|(conv=>whnf);first|with_reducible refine CD (aa l) ?_|refine CB ?_|refine CJ rfl (aa l) rfl ?_)
  ((conv=>whnf);refine CE (k+1) ω ω ?_;(exact wC))
 subst e;by_cases F:9<=n/\n<=(nth h.M k).o;rotate_left
 ·rw[C8 (by rw[p];exact F),T0 (by rw[p];exact F)]
  rw[C8 F]at V
  repeat'(first|refine gA ?_|(conv=>whnf);first|with_reducible refine CD (aa l) ?_|refine CB ?_|refine CJ rfl (aa l) rfl ?_|refine C7 (V) ?_)
  refine CG rfl rfl ?_;exact wC
 rw[C9 (by rw[p];exact F),O0 (by rw[p];exact F)];rw[C9 F]at V;have y:=λm hm=>x9 j b F (m:=m) hm
 have D:=λm=>(ov h.G (16*(nth h.M k).Q+n) m).1
 have O:=λa W=>j8 j b (a:=a) W
 have hsz:n<=16*(nth h.M k).a2:=ω
 generalize hM:(16*((n+15) / 16) - n).toNat=M at *;have hfl:∀m,(zK h.G (16*(nth h.M k).Q+n) m).F.W.T.length=h.G.F.W.T.length:=λm=>by
  induction m with
  | zero=>rfl
  | succ m ih=>show(List.set _ _ _).length=_;rw[O1];exact ih
 have cO:=qA {h with M:=h.M.set k (trimL (nth h.M k) n)} (nth h.O i).Addr (by show h.O.length<=_;omega);change ar _ _ _ [.val (some 24) (ab.enc .V {h with M:=h.M.set k (trimL (nth h.M k) n)}),_] _ [I (dJ (ma (nth h.O i).Addr) h.O)]at cO;rw[w]at cO;have Q:=bG {h with M:=h.M.set k (trimL (nth h.M k) n)};have heL:bx {h with M:=h.M.set k (trimL (nth h.M k) n)} = (bx h).set 7 (.s .own ((h.M.map (a7.enc .own)).set k (a7.enc .own (trimL (nth h.M k) n)))):=by simp[bx,I5]
 rw[heL]at Q
 repeat'(first|refine gA ?_|(conv=>whnf);first|with_reducible (first|refine CD (aa l) ?_|refine CD (aa E) ?_)|refine CB ?_|refine CJ rfl (aa l) rfl ?_|refine C7 (V) ?_|refine CP rfl rfl (aa l) rfl (C1 rfl) rfl ?_|refine CH (cO) ⟨⟨rfl,Q⟩,⟨rfl,rfl⟩,trivial⟩ ?_|refine CP rfl rfl (aa E) rfl (C1 rfl) rfl ?_|refine CJ rfl (aa E) rfl ?_|refine CB ?_)
 rw[<-Y];have e0:lC h i k n h.G=lC h i k n (zK h.G (16*(nth h.M k).Q+n) 0):=rfl;have r:C.s .own ((lC h i k n (zK h.G (16*(nth h.M k).Q+n) 0)).M.map (a7.enc .own))=C.s .own ((h.M.map (a7.enc .own)).set k (a7.enc .own (trimL (nth h.M k) n))):=by simp[lC,I5]
 have d:C.s .own ((lC h i k n (zK h.G (16*(nth h.M k).Q+n) 0)).O.map (bz.enc .own))=C.s .own ((h.O.map (bz.enc .own)).set i (splice (bz.enc .own (nth h.O i)) 2 [I n])):=W0 _ (Ju h i k n _)
 (conv=>whnf)
 refine CF (ι:=Nat) (λm=>[(0,.H .box (bx (lC h i k n (zK h.G (16*(nth h.M k).Q+n) m)))),(1,.H .one [I (((nth h.M k).Q*16))]),(8,.H .box (a7.enc .own (trimL (nth h.M k) n))),(9,.H .box (aA.enc .own (xT (nth h.M k) n))),(11,.H .one [I (((16*(nth h.M k).Q+n)+(m:Nat)))])]) (λm=>m<=M) (λm=>M - m) (0) ?_ (U0 _) λm hm=>?_
 ·repeat'(first|exact trivial|rfl |exact o7 r|exact o7 d|exact eJ _|refine CL ?_ ?_|(exact E4 (by first|omega|(simp only;omega)|(simp;omega))))
 have hmod:IntKind.i64.wrap 0=0:=rfl;by_cases lm:m<M
 ·have W:0<=(16*(nth h.M k).Q+n)+(m:Nat)/\(16*(nth h.M k).Q+n)+(m:Nat)<512:=ω
  have R:=O ((16*(nth h.M k).Q+n)+(m:Nat)) ω;have t:=y m hm;rw[<-D m]at R;have hks:=bP t;have c2:=dl (zK h.G (16*(nth h.M k).Q+n) m).F.R (((16*(nth h.M k).Q+n)+(m:Nat)) / 16) hks.1.2;obtain⟨-,-,-,q0,q1⟩:=ce t R;have hul:=(aX.1 (aE.1 t).2.1).2.2.1;have S:cN (zK h.G (16*(nth h.M k).Q+n) m) ((16*(nth h.M k).Q+n)+(m:Nat))<(zK h.G (16*(nth h.M k).Q+n) m).F.W.T.length:=by unfold cN;omega
  have G:(zK h.G (16*(nth h.M k).Q+n) m).F.W.T[(ac (zK h.G (16*(nth h.M k).Q+n) m).F.R (((16*(nth h.M k).Q+n)+(m:Nat)) / 16)).j.toNat]? = some _:=ao S;have h16:=(sZ t S).1;have T:=ao (xs:=nth (zK h.G (16*(nth h.M k).Q+n) m).F.W.T (cN (zK h.G (16*(nth h.M k).Q+n) m) ((16*(nth h.M k).Q+n)+(m:Nat)))) (i:=(((16*(nth h.M k).Q+n)+(m:Nat)) % 16).toNat) (by rw[h16];omega);have htm:((16*(nth h.M k).Q+n)+(m:Nat)).tmod 16=((16*(nth h.M k).Q+n)+(m:Nat)) % 16:=gw W.1;have hpu:=PP (lC h i k n h.G) (16*(nth h.M k).Q+n) m;have hwr:=qp W;have hst:(trimL (nth h.M k) n).a2=(n+15) / 16:=rfl
  repeat'(first|refine gD ?_|(conv=>whnf);first|refine CB ?_|refine CO (by decide) ?_|refine CM hwr ?_|refine CU htm ?_|refine CH (c2) ⟨⟨rfl,CZ _⟩,⟨rfl,rfl⟩,trivial⟩ ?_|refine CN q0 (aa G) ?_|refine CJ rfl (aa G) rfl ?_|refine CN ω (aa T) ?_|refine Pu.two rfl rfl (aa G) rfl rfl rfl (aa T) rfl (X2 _) hpu ?_)
  ((conv=>whnf);refine CE (m+1) ω ω ?_;(exact wC))
 obtain rfl:m=M:=ω
 have hst:(trimL (nth h.M k) n).a2=(n+15) / 16:=rfl;have hkM:=y m (X2 _);have U:(zK h.G (16*(nth h.M k).Q+n) m).F.R.J.length=dC h:=by rw[D];rfl
 have hTK:kn h k n=zK h.G (16*(nth h.M k).Q+n) m:=by unfold kn;rw[hM]
 unfold trimH GV;rw[hTK];generalize zK h.G (16*(nth h.M k).Q+n) m=K at *;have hN:((d4 (nth h.M k) n:Nat):Int)=(nth h.M k).a2 - (n+15) / 16:=by unfold d4;omega
 have hrA:0<d4 (nth h.M k) n->xT (nth h.M k) n = ⟨(nth h.M k).Q+(n+15) / 16,(d4 (nth h.M k) n:Nat)⟩:=λhp=>by unfold xT;rw[C9 ω,hN]
 have hrB:¬0<d4 (nth h.M k) n->xT (nth h.M k) n = ⟨0,0⟩:=λhp=>by unfold xT;rw[C8 ω]
 generalize d4 (nth h.M k) n=P at *;by_cases X:0<P
 ·rw[C9 X]
  have hr:=hrA X;rw[hr]
  repeat'(first|refine gD ?_|(conv=>whnf);first|refine CB ?_)
  (conv=>whnf)
  refine CF (ι:=Nat) (λx=>[(0,.H .box (bx (lC h i k n (unmN K ((nth h.M k).Q+(n+15) / 16) x)))),(9,.H .box ([I ((nth h.M k).Q+(n+15) / 16),I (P:Nat)])),(13,.H .one [I (((nth h.M k).Q+(n+15) / 16+(x:Nat)))])]) (λx=>x<=P) (λx=>P - x) (0) ?_ (U0 _) λx l=>?_
  ·repeat'(first|exact trivial|rfl |exact o7 r|exact o7 d|exact eJ _|refine CL ?_ ?_|(exact E4 (by first|omega|(simp only;omega)|(simp;omega))))
  by_cases lx:x<P
  ·have c3:=ni (lC h i k n (unmN K ((nth h.M k).Q+(n+15) / 16) x)) ((nth h.M k).Q+(n+15) / 16+(x:Nat)) (iB hkM _ _)
   repeat'(first|refine gD ?_|(conv=>whnf);first|refine CB ?_|refine CK (c3) (.inl rfl) ?_)
   ((conv=>whnf);refine CE (x+1) ω ω ?_;(exact wC))
  obtain rfl:x=P:=ω
  have c4:=gX (lC h i k n (unmN K ((nth h.M k).Q+(n+15) / 16) x));rw[show dC (lC h i k n (unmN K ((nth h.M k).Q+(n+15) / 16) x))=dC h from(fx _ _ _).1.trans U]at c4;have c5:=lW (dC h:Nat) h.w ⟨(nth h.M k).Q+(n+15) / 16,(x:Nat)⟩ ⟨ω,ω⟩ ⟨by have:=c.free;omega,λ_ _=>trivial⟩
  repeat'(first|refine gD ?_|(conv=>whnf);first|refine CB ?_|refine CH (c4) ⟨bG _,trivial⟩ ?_|refine CH (c5) ⟨⟨rfl,rfl⟩,⟨rfl,eA h.w⟩,⟨rfl,rfl⟩,trivial⟩ ?_|refine CB ?_)
  refine CG rfl rfl ?_;exact wC
 rw[C8 X];obtain rfl:P=0:=ω
 have hr:=hrB X;rw[hr]
 repeat'(first|refine gD ?_|(conv=>whnf);first|refine CB ?_)
 (conv=>whnf)
 refine CF (ι:=Nat) (λx=>[(0,.H .box (bx (lC h i k n K))),(9,.H .box ([I 0,I 0])),(13,.H .one [I (0)])]) (λx=>x=0) (λx=>0) (0) ?_ (rfl) λx l=>?_
 ·repeat'(first|exact trivial|rfl |exact o7 r|exact o7 d|exact eJ _|refine CL ?_ ?_|(exact E4 (by first|omega|(simp only;omega)|(simp;omega))))
 subst l
 repeat'(first|refine gD ?_|(conv=>whnf);first|refine CB ?_)
 refine CG rfl rfl ?_;exact wC
theorem EG{α:Type}(a:α)(k:Nat):List.replicate (k+1) a=List.replicate k a++[a]:=List.replicate_succ' ..
theorem FE(n k:Nat):aV.enc .own ⟨List.replicate k (List.replicate 16 0),List.replicate n false⟩ = [.s .own (List.replicate k [.s .own (List.replicate 16 [I 0])]),.s .own (List.replicate n [B false])]:=by
 simp[aV.enc,aG,rI,rB,List.map_replicate]
theorem Hc(n:Nat):M7 [.s .own (List.replicate n [.z]),.s .own (List.replicate n [.z]),B true] (aL.enc .own (dU n)++[B true]):=by
 have e:aL.enc .own (dU n)++[B true]=[.s .own (List.replicate n [.s .own []]),.s .own (List.replicate n [.s .own []]),B true]:=by simp[aL.enc,dU,dm,aG,List.map_replicate]
 rw[e];exact .cons (.rep (.cons .z_ .nil)) (.cons (.rep (.cons .z_ .nil)) (.cons (.rfl_ _) .nil))
theorem Pv(n:Nat)(b:1<=n/\n<=4):ar Tryz.prog 215 false [.val none [I (n:Nat)]] (.tup [some 2,none]) (aL.enc .own (dU n)++[B true]):=by
 have a:=aP ((n:Nat):Int) 1 4;rw[O0 ω]at a;refine fO 13 [(3,4,[8,9,10,11])] Tryz.func215 rfl ?_ (.inr (bf (aL.enc_fr _) ⟨trivial,trivial⟩))
 repeat'((conv=>whnf);first|with_reducible (first|refine Lm ?_|refine Wm ω ?_|refine Bn ?_|refine kg.dk rfl ?_)|refine Bt ?_|refine Bu ?_|refine CB ?_|refine C7 (a) ?_|refine Mk.mk n rfl rfl ω (xY ω (by decide)) rfl ?_)
 exact Hc n
theorem Bk(n:Nat)(b:1<=n/\n<=4):ar Tryz.prog 524 false [.val none [I (n:Nat)]] (.tup [some 2,none]) (aL.enc .own (dU n)++[B true]):=by
 have a:=aH ((n:Nat):Int) 1 4;rw[O0 ω]at a;refine fO 13 [(3,4,[8,9,10,11])] Tryz.func524 rfl ?_ (.inr (bf (aL.enc_fr _) ⟨trivial,trivial⟩))
 repeat'((conv=>whnf);first|with_reducible (first|refine Lm ?_|refine Wm ω ?_|refine Bn ?_|refine kg.dk rfl ?_)|refine Bt ?_|refine Bu ?_|refine CB ?_|refine C7 (a) ?_|refine Mk.mk n rfl rfl ω (xY ω (by decide)) rfl ?_)
 exact Hc n
theorem Lj:M7 [.s .own (List.replicate 4 [.z])] (aD.enc .own fo):=.cons (.rep (.cons .z_ .nil)) .nil
theorem y2:ar Tryz.prog 525 false [] .agg (aD.enc .own fo):=by
 refine fO 3 [] Tryz.func525 rfl ?_ (.inr (aD.enc_fr _))
 repeat'((conv=>whnf);first|with_reducible (first|refine Lm ?_|refine Wm ω ?_|refine Bn ?_|refine kg.dk rfl ?_)|refine Bt ?_|refine Bu ?_|refine CB ?_|refine Mk.mk 4 rfl rfl (by decide) (by decide) rfl ?_)
 exact Lj
theorem rY:ar Tryz.prog 526 false [.val none [I 16]] (.tup [some 2,none]) (bR.enc .own ⟨16,[]⟩++[B true]):=by
 refine fO 10 [] Tryz.func526 rfl ?_ (.inr (bf (bR.enc_fr _) ⟨trivial,trivial⟩))
 repeat'((conv=>whnf);first|with_reducible (first|refine Lm ?_|refine Wm ω ?_|refine Bn ?_|refine kg.wk rfl ?_)|refine Bt ?_|refine Bu ?_|refine CB ?_|refine C7 (aH 16 0 500) ?_)
 exact⟨rfl,rfl,rfl,trivial⟩
def caps(h:ab)(k:Nat):ab:={h with S:=List.replicate k fo}
theorem Ja(k:Nat):(List.replicate (k+1) fo).map (aD.enc .own)=(List.replicate k fo).map (aD.enc .own)++[aD.enc .own fo]:=by rw[EG,t5];rfl
theorem My{k:Nat} : ∀r∈(List.replicate k fo).map (aD.enc .own),r.length=1:=aT λ_=>rfl
theorem NU(x:List b9):fz (.s .own (x.map (b9.enc .own)))=.s .V (x.map (b9.enc .V)):=(List.cons.inj (List.cons.inj (Cb ⟨0,x⟩)).2).1
theorem fg:∀a b:List C,ef (a++b)=ef a++ef b
 | [],_=>rfl
 | x::xs,b=>by show fz x::ef (xs++b)=fz x::(ef xs++ef b);rw[fg xs b]
theorem eg(r:ay)(c:ay.sml r):ar Tryz.prog 458 false [.val (some 2) (ay.enc .V r)] .agg (ay.enc .own r):=by
 have e:r.O.length<=1048576:=c.1;refine fO 36 [(5,272,[15,16,17,18,19,20,21,22,23,24,25,26,27,28,29,34,0,1,2,3,4,5,6,7,8,9,10,11,12,13,14,15,1000,1001,1002,1003,1004,1005,1006,1007,16,1000,1001,17,1000,1001,18,19,20])] Tryz.func458 rfl ?_ (.inr (ay.enc_fr _))
 repeat'(first|refine gO ?_|(conv=>whnf);first|refine CB ?_)
 (conv=>whnf)
 refine CF (ι:=Nat) (λi=>[(1,.H .box (ay.enc .V r)),(2,.H .box [I 0,.z]),(3,.H .box [I r.d,.s .own ((r.O.take i).map (b9.enc .own))]),(4,.H .one [I ((i:Nat):Int)])]) (λi=>i<=r.O.length) (λi=>r.O.length - i) (0) ?_ (U0 _) λi g=>?_
 ·exact wC
 by_cases b:i<r.O.length
 ·have d:=ao b
  have a:(nth r.O i).T.length<=1048576:=c.2 _ (am b)
  repeat'(first|refine gD ?_|(conv=>whnf);first|with_reducible refine CD (aa d) ?_|refine CB ?_|refine CJ rfl (aa d) rfl ?_|refine CV (λ_=>rfl) (λ_=>rfl) a (by decide) ?_|refine CS (λ_=>rfl) (λ_=>rfl) a (by decide) ?_|refine CB ?_|refine Ap.sn (aT λ_=>rfl) rfl (by simp;omega) (by decide) (kJ b) ?_)
  ((conv=>whnf);refine CE (i+1) ω ω ?_;(exact wC))
 repeat'(first|refine gD ?_|(conv=>whnf);first|refine CB ?_)
 obtain rfl:i=r.O.length:=ω
 rw[U4]
 rfl
theorem iq(r:ay)(id:Int)(g:r.O.length<=1048576):ar Tryz.prog 565 false [.val (some 2) (ay.enc .V r),.val none [I id]] .one [I (oo r id)]:=by
 refine fO 22 [] Tryz.func565 rfl ?_
 repeat'(first|refine gO ?_|(conv=>whnf);first|refine CB ?_)
 (conv=>whnf)
 refine CF (ι:=Nat) (λi=>[(1,.H .one [I (id)]),(2,.H .box (ay.enc .V r)),(5,.H .one [I ((i:Nat):Int)])]) (λi=>i<=r.O.length/\∀(j:Nat)(z:b9),j<i->r.O[j]? = some z->mW id z=false) (λi=>r.O.length - i) (0) ?_ (⟨U0 _,λj z h=>ω⟩) λi c=>?_
 ·exact wC
 obtain⟨c,b⟩:=c;by_cases d:i<r.O.length
 ·have a:=ao d
  by_cases e:(nth r.O i).Id=id
  ·repeat'(first|refine gA ?_|(conv=>whnf);first|with_reducible refine CD (aa a) ?_|refine CB ?_|refine CJ rfl (aa a) rfl ?_)
   exact W0 (λz=>[I z]) (dX a (O0 e) b).symm
  repeat'(first|refine gA ?_|(conv=>whnf);first|with_reducible refine CD (aa a) ?_|refine CB ?_|refine CJ rfl (aa a) rfl ?_)
  ((conv=>whnf);refine CE (i+1) ⟨ω,d8 a (T0 e) b⟩ ω ?_;(exact wC))
 repeat'(first|refine gD ?_|(conv=>whnf);first|refine CB ?_)
 exact W0 (λz=>[I z]) (gv ω b).symm
theorem nK(r:ay)(c:C)(h:Qx c):gV (ay.enc .own r++[c]):=bf (ay.enc_fr _) ⟨h,trivial⟩
theorem yj(r:ay)(n:Int)(m:Nat)(b:sj r m)(h:m<=1000)(c:1<=n/\n<=1000):ar Tryz.prog 451 false [.val (some 2) (ay.enc .V r),.val none [I n]] (.tup [some 2,none]) (ay.enc .V (iD r n)++[I r.d]):=by
 have i:=b.sml h;have d:=b.len;have j:=b.nx;have k:=eg r i;have e:=aH n 1 1000;rw[O0 c]at e;have key:ar Tryz.prog 451 false [.val (some 2) (ay.enc .V r),.val none [I n]] (.tup [some 2,none]) (ay.enc .own (iD r n)++[I r.d]):=by
  have a:=nK (iD r n) (I r.d) trivial;unfold iD at a |-;rw[C9 c]at a |-;have l:ay.enc .own {r with d:=r.d+1,O:=r.O++[⟨r.d,List.replicate n.toNat 0⟩]} = [I (r.d+1),.s .own (r.O.map (b9.enc .own)++[[I r.d,.s .own (List.replicate n.toNat [I 0])]])]:=by
   simp[ay.enc,b9.enc,rI]
  rw[l]at a |-;refine fO 30 [(4,263,[13,14,15,16,17,18,22,0,1,2,3,4,5,6,1000,1001,7,1000,1001,8,9,10]),(6,259,[27,28,29,0,1,2,3,1001,1002,4])] Tryz.func451 rfl ?_ (.inr a)
  repeat'(first|refine gO ?_|(conv=>whnf);first|refine CB ?_|refine C7 (k) ?_|refine C7 (e) ?_|refine Mk.mk n.toNat ω ω ω (xY ω (by decide)) rfl ?_|refine CB ?_|refine Ap.sn (aT λ_=>rfl) rfl (by simp;omega) (by decide) rfl ?_)
  (conv=>whnf)
  rfl
 have g:=key.fzR;rw[fg,Cb]at g;exact g
theorem AA(r:ay)(id:Int)(m:Nat)(d:sj r m)(k:m<=1000):ar Tryz.prog 528 true [.val (some 2) (ay.enc .V r),.val none [I id]] (.tup [some 2,none]) (ay.enc .V (js r id)++[B (!decide (oo r id<0))]):=by
 have g:=d.sml k;have h:=d.len;have i:=eg r g;have b:=iq r id g.1;by_cases e:oo r id<0
 ·have key:ar Tryz.prog 528 true [.val (some 2) (ay.enc .V r),.val none [I id]] (.tup [some 2,none]) (ay.enc .own r++[B false]):=by
   refine fO 30 [(5,267,[16,17,18,19,20,22,23,24,25,26,28,0,1,2,3,4,6,7,8,9,10,5,1006,1007,1008,1009,1010,11,12,13]),(1048581,6,[1])] Tryz.func528 rfl ?_ (.inl rfl)
   repeat'(first|refine gD ?_|(conv=>whnf);first|refine CB ?_|refine C7 (i) ?_|refine C7 (b) ?_)
   rfl
  have a:=key.fzR;rw[fg,Cb]at a;unfold js;rw[C9 e,O0 e];exact a
 have n:js r id = {r with O:=dele r.O (oo r id).toNat}:=by unfold js;rw[C8 e]
 obtain⟨t,u,w⟩:=fp (mW id) r.O (by unfold oo at e;omega);obtain⟨j,c⟩:=U2 (show 0<=oo r id by omega);have o:j<r.O.length:=by unfold oo at c;omega
 have key:ar Tryz.prog 528 true [.val (some 2) (ay.enc .V r),.val none [I id]] (.tup [some 2,none]) ([I r.d,.s .own ((dele r.O j).map (b9.enc .V))]++[B true]):=by
  rw[c]at b;refine fO 30 [(5,267,[16,17,18,19,20,22,23,24,25,26,28,0,1,2,3,4,6,7,8,9,10,5,1006,1007,1008,1009,1010,11,12,13]),(1048581,6,[1])] Tryz.func528 rfl ?_ (.inl rfl)
  repeat'(first|refine gD ?_|(conv=>whnf);first|refine CB ?_|refine C7 (i) ?_|refine C7 (b) ?_|refine FH.mk rfl (NU r.O) rfl ?_|refine CX j rfl (by rw[Z0];omega) (aT λ_=>rfl) Y3 ?_|refine Sl.suf (j+1) ω (by rw[Z0];omega) (aT λ_=>rfl) Z3 ?_|refine CS (λ_=>rfl) (λ_=>rfl) (by rw[R1];omega) (by decide) ?_|refine CV (λ_=>rfl) (λ_=>rfl) (by rw[R1];omega) (by decide) ?_|refine Ap.dele (λ_=>rfl) (λ_=>rfl) ω (by decide) ?_|refine CB ?_)
  rfl
 have a:=key.fzR;have p:ef ([I r.d,.s .own ((dele r.O j).map (b9.enc .V))]++[B true])=ay.enc .V (js r id)++[B (!decide (oo r id<0))]:=by
  have:∀l:List b9,fzR (l.map (b9.enc .V))=l.map (b9.enc .V):=λl=>by
   induction l with
   | nil=>rfl
   | cons x xs q=>rw[z5,fzR,q,<-b9.enc_fz,rV]
  rw[n,c,T0 ω];simp[ef,fz,ay.enc,this]
 rw[p]at a;exact a
theorem yk(r:ay)(id a v:Int)(m:Nat)(o:sj r m)(D:m<=1000)(h:0<=oo r id)(c:0<=a/\a<=(nth r.O (oo r id).toNat).T.length - 1)(p:0<=v/\v<=999):ar Tryz.prog 530 false [.val (some 2) (ay.enc .V r),.val none [I id],.val none [I a],.val none [I v]] (.tup [some 2,none]) (ay.enc .V (ee r id a v)++[B true]):=by
 have k:=o.sml D;have q:=o.len;have E:=eg r k;have t:=iq r id k.1;obtain⟨J,K,L⟩:=fp (mW id) r.O h;obtain⟨j,l⟩:=U2 h;have d:j<r.O.length:=by unfold oo at l;omega
 have e:=ao d;have F:(nth r.O j).T.length<=1048576:=k.2 _ (am d);obtain⟨b,g⟩:=U2 c.1;have G:ee r id a v = {r with O:=r.O.set j ⟨(nth r.O j).Id,(nth r.O j).T.set b v⟩}:=by
  unfold ee;rw[C9 ⟨h,c,p⟩,l,g];rfl
 rw[l]at t c;rw[g]at c |-;simp only[R2]at c;have u:=ao (xs:=(nth r.O j).T) (i:=b) ω;have w:=aH (b:Nat) 0 (((nth r.O j).T.length:Nat) - 1:Int);rw[O0 ω]at w;have y:=aH v 0 999;rw[O0 p]at y;have key:ar Tryz.prog 530 false [.val (some 2) (ay.enc .V r),.val none [I id],.val none [I (b:Nat)],.val none [I v]] (.tup [some 2,none]) (ay.enc .own (ee r id (b:Nat) v)++[B true]):=by
  have n:=nK (ee r id (b:Nat) v) (B true) trivial;rw[<-g,G]at n |-;have H:ay.enc .own {r with O:=r.O.set j ⟨(nth r.O j).Id,(nth r.O j).T.set b v⟩} = [I r.d,.s .own ((r.O.map (b9.enc .own)).set j [I (nth r.O j).Id,.s .own (((nth r.O j).T.map (rI .own)).set b [I v])])]:=by
   simp[ay.enc,b9.enc,rI,I5]
  rw[H]at n |-;rw[g];refine fO 48 [] Tryz.func530 rfl ?_ (.inr n)
  repeat'(first|refine gD ?_|(conv=>whnf);first|with_reducible (first|refine CD (aa e) ?_|refine CD (aa u) ?_|refine CN ω (aa e) ?_)|refine CB ?_|refine C7 (E) ?_|refine C7 (t) ?_|refine C7 (w) ?_|refine C7 (y) ?_|refine CJ rfl (aa e) rfl ?_|refine Pu.two rfl rfl (aa e) rfl rfl rfl (aa u) rfl (X2 _) rfl ?_)
  rfl
 have C:=key.fzR;rw[fg,Cb]at C;exact C
theorem B2(r:ay)(id n:Int)(m:Nat)(l:sj r m)(u:m<=1000)(g:0<=oo r id)(c:1<=n/\n<=(nth r.O (oo r id).toNat).T.length):ar Tryz.prog 532 false [.val (some 2) (ay.enc .V r),.val none [I id],.val none [I n]] (.tup [some 2,none]) (ay.enc .V (fm r id n)++[B true]):=by
 have h:=l.sml u;have o:=l.len;have w:=eg r h;have p:=iq r id h.1;obtain⟨E,F,G⟩:=fp (mW id) r.O g;obtain⟨j,i⟩:=U2 g;have a:j<r.O.length:=by unfold oo at i;omega
 have d:=ao a;have y:(nth r.O j).T.length<=1048576:=h.2 _ (am a);obtain⟨b,e⟩:=U2 (show 0<=n by omega);have C:fm r id n = {r with O:=r.O.set j ⟨(nth r.O j).Id,(nth r.O j).T.take b⟩}:=by
  unfold fm;rw[C9 ⟨g,c⟩,i,e];rfl
 rw[i]at p c;rw[e]at c |-;simp only[R2]at c;have q:=aH (b:Nat) 1 (((nth r.O j).T.length:Nat):Int);rw[O0 ω]at q;have key:ar Tryz.prog 532 false [.val (some 2) (ay.enc .V r),.val none [I id],.val none [I (b:Nat)]] (.tup [some 2,none]) (ay.enc .own (fm r id (b:Nat))++[B true]):=by
  have k:=nK (fm r id (b:Nat)) (B true) trivial;rw[<-e,C]at k |-;have D:ay.enc .own {r with O:=r.O.set j ⟨(nth r.O j).Id,(nth r.O j).T.take b⟩} = [I r.d,.s .own ((r.O.map (b9.enc .own)).set j [I (nth r.O j).Id,.s .own (((nth r.O j).T.take b).map (rI .V))])]:=by
   simp only[ay.enc,I5]
   rfl
  rw[D]at k |-;rw[e];refine fO 46 [(5,270,[30,31,32,33,34,35,36,37,38,39,40,41,43,44,0,1,2,3,4,5,6,7,8,9,10,11,12,1000,1001,1002,13,14,15])] Tryz.func532 rfl ?_ (.inr k)
  repeat'(first|refine gD ?_|(conv=>whnf);first|with_reducible (first|refine CD (aa d) ?_|refine CN ω (aa d) ?_)|refine CB ?_|refine C7 (w) ?_|refine C7 (p) ?_|refine C7 (q) ?_|refine CJ rfl (aa d) rfl ?_|refine CX b rfl (by rw[Z0];omega) (aT λ_=>rfl) Y3 ?_|refine CV (λ_=>rfl) (λ_=>rfl) (by rw[R1];omega) (by decide) ?_|refine CS (λ_=>rfl) (λ_=>rfl) (by rw[R1];omega) (by decide) ?_|refine CB ?_|refine CP rfl rfl (aa d) rfl (C1 rfl) rfl ?_)
  rfl
 have t:=key.fzR;rw[fg,Cb]at t;exact t
theorem BA(r:ay)(id a v:Int)(m:Nat)(h:sj r m)(l:m<=1000)(u:0<=v/\v<=999):∃b:Bool,ar Tryz.prog 530 false [.val (some 2) (ay.enc .V r),.val none [I id],.val none [I a],.val none [I v]] (.tup [some 2,none]) (ay.enc .V (ee r id a v)++[B b]):=by
 by_cases i:0<=oo r id
 ·by_cases d:0<=a/\a<=(nth r.O (oo r id).toNat).T.length - 1
  ·exact⟨true,yk r id a v m h l i d u⟩
  refine⟨false,?_⟩;have c:=h.sml l;have o:=h.len;have n:=eg r c;have k:=iq r id c.1;obtain⟨C,D,E⟩:=fp (mW id) r.O i;obtain⟨j,p⟩:=U2 i;have e:j<r.O.length:=by unfold oo at p;omega
  have q:=ao e;have w:(nth r.O j).T.length<=1048576:=c.2 _ (am e);have y:ee r id a v=r:=by unfold ee;rw[C8 (λx=>d x.2.1)]
  rw[p]at k d;simp only[R2]at d;have t:=aH a 0 (((nth r.O j).T.length:Nat) - 1:Int);rw[T0 d]at t;rw[y];have key:ar Tryz.prog 530 false [.val (some 2) (ay.enc .V r),.val none [I id],.val none [I a],.val none [I v]] (.tup [some 2,none]) (ay.enc .own r++[B false]):=by
   refine fO 48 [] Tryz.func530 rfl ?_ (.inr (nK r (B false) trivial))
   repeat'(first|refine gD ?_|(conv=>whnf);first|with_reducible refine CD (aa q) ?_|refine CB ?_|refine C7 (n) ?_|refine C7 (k) ?_|refine C7 (t) ?_|refine CJ rfl (aa q) rfl ?_)
   rfl
  have g:=key.fzR;rw[fg,Cb]at g;exact g
 refine⟨false,?_⟩;have c:=h.sml l;have n:=eg r c;have k:=iq r id c.1;rw[show ee r id a v=r by unfold ee;rw[C8 (λx=>i x.1)]];have key:ar Tryz.prog 530 false [.val (some 2) (ay.enc .V r),.val none [I id],.val none [I a],.val none [I v]] (.tup [some 2,none]) (ay.enc .own r++[B false]):=by
  refine fO 48 [] Tryz.func530 rfl ?_ (.inr (nK r (B false) trivial))
  repeat'(first|refine gD ?_|(conv=>whnf);first|refine CB ?_|refine C7 (n) ?_|refine C7 (k) ?_)
  rfl
 have g:=key.fzR;rw[fg,Cb]at g;exact g
theorem Er(r:ay)(id n:Int)(m:Nat)(g:sj r m)(k:m<=1000):∃b:Bool,ar Tryz.prog 532 false [.val (some 2) (ay.enc .V r),.val none [I id],.val none [I n]] (.tup [some 2,none]) (ay.enc .V (fm r id n)++[B b]):=by
 by_cases h:0<=oo r id
 ·by_cases c:1<=n/\n<=(nth r.O (oo r id).toNat).T.length
  ·exact⟨true,B2 r id n m g k h c⟩
  refine⟨false,?_⟩;have a:=g.sml k;have o:=g.len;have l:=eg r a;have i:=iq r id a.1;obtain⟨y,C,D⟩:=fp (mW id) r.O h;obtain⟨j,p⟩:=U2 h;have d:j<r.O.length:=by unfold oo at p;omega
  have q:=ao d;have u:(nth r.O j).T.length<=1048576:=a.2 _ (am d);have w:fm r id n=r:=by unfold fm;rw[C8 (λx=>c x.2)]
  rw[p]at i c;simp only[R2]at c;have t:=aH n 1 (((nth r.O j).T.length:Nat):Int);rw[T0 c]at t;rw[w];have key:ar Tryz.prog 532 false [.val (some 2) (ay.enc .V r),.val none [I id],.val none [I n]] (.tup [some 2,none]) (ay.enc .own r++[B false]):=by
   refine fO 46 [(5,270,[30,31,32,33,34,35,36,37,38,39,40,41,43,44,0,1,2,3,4,5,6,7,8,9,10,11,12,1000,1001,1002,13,14,15])] Tryz.func532 rfl ?_ (.inr (nK r (B false) trivial))
   repeat'(first|refine gD ?_|(conv=>whnf);first|with_reducible refine CD (aa q) ?_|refine CB ?_|refine C7 (l) ?_|refine C7 (i) ?_|refine C7 (t) ?_|refine CJ rfl (aa q) rfl ?_)
   rfl
  have e:=key.fzR;rw[fg,Cb]at e;exact e
 refine⟨false,?_⟩;have a:=g.sml k;have l:=eg r a;have i:=iq r id a.1;rw[show fm r id n=r by unfold fm;rw[C8 (λx=>h x.1)]];have key:ar Tryz.prog 532 false [.val (some 2) (ay.enc .V r),.val none [I id],.val none [I n]] (.tup [some 2,none]) (ay.enc .own r++[B false]):=by
  refine fO 46 [(5,270,[30,31,32,33,34,35,36,37,38,39,40,41,43,44,0,1,2,3,4,5,6,7,8,9,10,11,12,1000,1001,1002,13,14,15])] Tryz.func532 rfl ?_ (.inr (nK r (B false) trivial))
  repeat'(first|refine gD ?_|(conv=>whnf);first|refine CB ?_|refine C7 (l) ?_|refine C7 (i) ?_)
  rfl
 have e:=key.fzR;rw[fg,Cb]at e;exact e
structure iA where
 i:Nat
 h:Int
deriving Inhabited
def w64(x:Int):Int:=IntKind.i64.wrap x
def Qv(h:Int):Int:=w64 (w64 (h*6364136223846793005)+1442695040888963407)
def PX(a b:Int):Int:=w64 ((BitVec.ofInt IntKind.i64.bits a ^^^ BitVec.ofInt IntKind.i64.bits b).toNat:Nat)
def and255(a:Int):Int:=w64 ((BitVec.ofInt IntKind.i64.bits a &&& BitVec.ofInt IntKind.i64.bits 255).toNat:Nat)
def MQ(h:Int)(n:Nat):Int:=h.fdiv (2 ^ (min n IntKind.i64.bits))
def zW(h:Int):Int:=and255 (PX (MQ h 33) (MQ h 45))
theorem yY(a:Int):0<=and255 a/\and255 a<=255:=by
 have b:(BitVec.ofInt IntKind.i64.bits a &&& BitVec.ofInt IntKind.i64.bits 255).toNat<=255:=by
  rw[BitVec.toNat_and];exact R4 Nat.and_le_right (by decide)
 unfold and255 w64;rw[eQ ω ω];omega
def dB(zs:List Int)(c:iA):Int × iA:=if c.i<zs.length then(and255 (zW (Qv c.h)+nth zs c.i),⟨c.i+1,Qv c.h⟩) else(zW (Qv c.h),⟨c.i,Qv c.h⟩)
theorem sG(zs:List Int)(c:iA):0<=(dB zs c).1/\(dB zs c).1<=255:=by
 unfold dB;split<;>exact yY _
theorem iE{zs:List Int}{c:iA}(h:c.i<=zs.length):(dB zs c).2.i<=zs.length:=by
 unfold dB;split
 ·simp only;omega
 exact h
def yR(zs:List Int)(c:iA):Int × iA:=
 ((dB zs c).1*16777216+(dB zs (dB zs c).2).1*65536+(dB zs (dB zs (dB zs c).2).2).1*256+(dB zs (dB zs (dB zs (dB zs c).2).2).2).1,(dB zs (dB zs (dB zs (dB zs c).2).2).2).2)
def bw(zs:List Int)(c:iA)(n:Int):Int × iA:=if n<=256 then((dB zs c).1 % n,(dB zs c).2) else((yR zs c).1 % n,(yR zs c).2)
theorem bK(zs:List Int)(c:iA){n:Int}(h:1<=n):0<=(bw zs c n).1/\(bw zs c n).1<n:=by
 unfold bw;split<;>exact⟨Int.emod_nonneg _ ω,Int.emod_lt_of_pos _ ω⟩
theorem bU{zs:List Int}{c:iA}(h:c.i<=zs.length)(n:Int):(bw zs c n).2.i<=zs.length:=by
 unfold bw;split
 ·exact iE h
 exact iE (iE (iE (iE h)))
def lv(zs:List Int)(c:iA)(l:List Int):Int × iA:=(nth l (bw zs c (l.length:Nat)).1.toNat,(bw zs c (l.length:Nat)).2)
theorem pI(zs:List Int)(c:iA){l:List Int}(h:1<=l.length):(lv zs c l).1∈l:=by
 have:=bK zs c (n:=(l.length:Nat)) ω;exact am ω
def pp(zs:List Int):Nat->Nat->List Int->iA->List Int × iA
 | 0,_,out,c=>(out,(bw zs c 4).2)
 | f+1,i,out,c=>if(i:Int)<(bw zs c 4).1 then pp zs f (i+1) (out++[(bw zs (bw zs c 4).2 12).1]) (bw zs (bw zs c 4).2 12).2 else(out,(bw zs c 4).2)
def MV(zs:List Int)(c:iA):List Int × iA:=pp zs 4 0 [] c
theorem Hi(zs:List Int):∀(f i:Nat)(out:List Int)(c:iA),(∀x∈out,0<=x)->out.length+f<=4->c.i<=zs.length->(∀x∈(pp zs f i out c).1,0<=x)/\(pp zs f i out c).1.length<=4/\(pp zs f i out c).2.i<=zs.length
 | 0,_,out,c,b,e,d=>⟨b,by show out.length<=4;omega,bU d _⟩
 | f+1,i,out,c,b,e,d=>by
  unfold pp;split
  ·refine Hi zs f (i+1) _ _ (λx a=>?_) (by simp only[z3,List.length_singleton];omega) (bU (bU d _) _)
   rcases W2.1 a with a|a
   ·exact b x a
   rw[I1.1 a];exact(bK zs _ (by decide)).1
  exact⟨b,by show out.length<=4;omega,bU d _⟩
def y4(zs:List Int)(c:iA):Int × iA:=bw zs c 7
def EP(zs:List Int)(c:iA):Int × iA:=bw zs (y4 zs c).2 3
def FU(zs:List Int)(c:iA):Int × iA:=bw zs (EP zs c).2 100
def AH(zs:List Int)(c:iA):Int × iA:=bw zs (FU zs c).2 4
def P9(zs:List Int)(c:iA):List Int × iA:=MV zs (AH zs c).2
def qf(zs:List Int)(c:iA):cE:=⟨(6+(y4 zs c).1).toNat,(6+(y4 zs c).1 - (AH zs c).1).toNat,(1+(EP zs c).1).toNat,40+(FU zs c).1,(P9 zs c).1⟩
theorem rG{zs:List Int}{c:iA}(h:c.i<=zs.length):Fw (qf zs c)/\(P9 zs c).2.i<=zs.length:=by
 have a:=bK zs c (n:=7) (by decide);have b:=bK zs (y4 zs c).2 (n:=3) (by decide);have d:=bK zs (EP zs c).2 (n:=100) (by decide);have e:=bK zs (FU zs c).2 (n:=4) (by decide);change 0<=(y4 zs c).1/\(y4 zs c).1<7 at a;change 0<=(EP zs c).1/\(EP zs c).1<3 at b;change 0<=(FU zs c).1/\(FU zs c).1<100 at d;change 0<=(AH zs c).1/\(AH zs c).1<4 at e;obtain⟨f,k,g⟩:=Hi zs 4 0 [] (AH zs c).2 (λx j=>by cases j) (by simp) (bU (bU (bU (bU h _) _) _) _);refine⟨⟨?_,?_,?_,?_,?_⟩,g⟩
 ·show 1<=(6+(y4 zs c).1).toNat/\(6+(y4 zs c).1).toNat<=32;omega
 ·show 1<=(6+(y4 zs c).1 - (AH zs c).1).toNat/\(6+(y4 zs c).1 - (AH zs c).1).toNat<=32;omega
 ·show 1<=(1+(EP zs c).1).toNat/\(1+(EP zs c).1).toNat<=4;omega
 ·show 0<=40+(FU zs c).1/\40+(FU zs c).1<=1000;omega
 exact⟨by show(pp zs 4 0 [] (AH zs c).2).1.length<=40;omega,f⟩
def yS(zs:List Int)(c:iA):Int × iA:=bw zs c 3
def EU(zs:List Int)(c:iA)(ids:Int):Int × iA:=bw zs (yS zs c).2 ids
def kT(zs:List Int)(c:iA)(ids:Int):Int × iA:=bw zs (EU zs c ids).2 20
def szs:List Int:=[1,1,2,2,3,4,4,5,8,9,20]
def rN(zs:List Int)(c:iA)(ids:Int):eE × iA:=
 if(kT zs c ids).1<=6 then(⟨1,(yS zs c).1,(lv zs (kT zs c ids).2 szs).1,0,0⟩,(lv zs (kT zs c ids).2 szs).2)
 else if(kT zs c ids).1<=9 then(⟨2,(yS zs c).1,1+(EU zs c ids).1,0,0⟩,(kT zs c ids).2)
 else if(kT zs c ids).1<=12 then(⟨3,(yS zs c).1,1+(EU zs c ids).1,(bw zs (kT zs c ids).2 4).1,1+(bw zs (bw zs (kT zs c ids).2 4).2 999).1⟩,(bw zs (bw zs (kT zs c ids).2 4).2 999).2)
 else if(kT zs c ids).1=13 then(⟨4,(yS zs c).1,1+(EU zs c ids).1,0,9+(bw zs (kT zs c ids).2 10).1⟩,(bw zs (kT zs c ids).2 10).2)
 else if(kT zs c ids).1=14 then(⟨(lv zs (kT zs c ids).2 [5,6]).1,(yS zs c).1,1+(EU zs c ids).1,0,0⟩,(lv zs (kT zs c ids).2 [5,6]).2)
 else if(kT zs c ids).1=15 then(⟨7,(yS zs c).1,1+(EU zs c ids).1,0,0⟩,(kT zs c ids).2)
 else if(kT zs c ids).1=16 then(⟨8,(yS zs c).1,(lv zs (kT zs c ids).2 [1,30,60,120]).1,0,0⟩,(lv zs (kT zs c ids).2 [1,30,60,120]).2)
 else if(kT zs c ids).1=17 then(⟨9,(yS zs c).1,1+(EU zs c ids).1,0,0⟩,(kT zs c ids).2)
 else(⟨10,(yS zs c).1,(lv zs (kT zs c ids).2 [1,2,3,10,30]).1,0,0⟩,(lv zs (kT zs c ids).2 [1,2,3,10,30]).2)
structure Lc(a:eE):Prop where
 k:1<=a.b6/\a.b6<=10
 t:0<=a.a4/\a.a4<=1000000
 n:0<=a.N/\a.N<=1000000
 p:0<=a.At/\a.At<=1000000
 v:0<=a.Value/\a.Value<=1000000
theorem Kf{zs:List Int}{c:iA}{ids:Int}(h:c.i<=zs.length)(b:1<=ids/\ids<=1000):Lc (rN zs c ids).1/\(rN zs c ids).2.i<=zs.length:=by
 have d:=bK zs c (n:=3) (by decide);have e:=bK zs (yS zs c).2 (n:=ids) b.1;change 0<=(yS zs c).1/\(yS zs c).1<3 at d;change 0<=(EU zs c ids).1/\(EU zs c ids).1<ids at e;have a:(kT zs c ids).2.i<=zs.length:=bU (bU (bU h _) _) _;have f:=pI zs (kT zs c ids).2 (l:=szs) (by decide);have g:=pI zs (kT zs c ids).2 (l:=[5,6]) (by decide);have j:=pI zs (kT zs c ids).2 (l:=[1,30,60,120]) (by decide);have k:=pI zs (kT zs c ids).2 (l:=[1,2,3,10,30]) (by decide);have o:=bK zs (kT zs c ids).2 (n:=4) (by decide);have p:=bK zs (bw zs (kT zs c ids).2 4).2 (n:=999) (by decide);have q:=bK zs (kT zs c ids).2 (n:=10) (by decide);simp only[szs,List.mem_cons,List.not_mem_nil,or_false]at f g j k;unfold rN
 repeat' split
 ·exact⟨⟨by simp only;omega,by simp only;omega,by simp only[szs];omega,by simp only;omega,by simp only;omega⟩,bU a _⟩
 ·exact⟨⟨by simp only;omega,by simp only;omega,by simp only;omega,by simp only;omega,by simp only;omega⟩,a⟩
 ·exact⟨⟨by simp only;omega,by simp only;omega,by simp only;omega,by simp only;omega,by simp only;omega⟩,bU (bU a _) _⟩
 ·exact⟨⟨by simp only;omega,by simp only;omega,by simp only;omega,by simp only;omega,by simp only;omega⟩,bU a _⟩
 ·exact⟨⟨by simp only;omega,by simp only;omega,by simp only;omega,by simp only;omega,by simp only;omega⟩,bU a _⟩
 ·exact⟨⟨by simp only;omega,by simp only;omega,by simp only;omega,by simp only;omega,by simp only;omega⟩,a⟩
 ·exact⟨⟨by simp only;omega,by simp only;omega,by simp only;omega,by simp only;omega,by simp only;omega⟩,bU a _⟩
 ·exact⟨⟨by simp only;omega,by simp only;omega,by simp only;omega,by simp only;omega,by simp only;omega⟩,a⟩
 exact⟨⟨by simp only;omega,by simp only;omega,by simp only;omega,by simp only;omega,by simp only;omega⟩,bU a _⟩
def lN(zs:List Int)(c:iA):Nat->List eE × iA
 | 0=>([],(bw zs c 41).2)
 | i+1=>((lN zs c i).1++[(rN zs (lN zs c i).2 (1+(i:Int) / 2)).1],(rN zs (lN zs c i).2 (1+(i:Int) / 2)).2)
def nL(zs:List Int)(c:iA):List eE × iA:=lN zs c (bw zs c 41).1.toNat
theorem rp{zs:List Int}{c:iA}(h:c.i<=zs.length):∀{n:Nat},n<=100->(lN zs c n).1.length=n/\(∀a∈(lN zs c n).1,Lc a)/\(lN zs c n).2.i<=zs.length
 | 0,_=>⟨rfl,λa b=>(by cases b),bU h _⟩
 | n+1,k=>by
  obtain⟨d,e,f⟩:=rp h (n:=n) ω;obtain⟨g,j⟩:=Kf (ids:=1+(n:Int) / 2) f ω;refine⟨by simp only[lN,z3,List.length_singleton,d],λa b=>?_,j⟩;rcases W2.1 b with b|b
  ·exact e a b
  rw[I1.1 b];exact g
def pQ(zs:List Int):Nat->Int
 | 0=>w64 (98801+(zs.length:Nat))
 | i+1=>w64 ((BitVec.ofInt IntKind.i64.bits (w64 (w64 (w64 (pQ zs i*131)+nth zs i)+7)) &&& BitVec.ofInt IntKind.i64.bits 1073741823).toNat:Nat)
def vp(zs:List Int):iA:=⟨0,pQ zs (min zs.length 4000)⟩
def fF(zs:List Int):iA:=(P9 zs (vp zs)).2
def drawn(zs:List Int):bo:=(AX (qf zs (vp zs)) (nL zs (fF zs)).1 (nL zs (fF zs)).1.length).1
theorem Dj(zs:List Int):rz (drawn zs) 40:=by
 have a:(vp zs).i<=zs.length:=U0 _;obtain⟨b,d⟩:=rG a;have f:=bK zs (fF zs) (n:=41) (by decide);obtain⟨e,-,-⟩:=rp (zs:=zs) (c:=fF zs) d (n:=(bw zs (fF zs) 41).1.toNat) ω;refine(vS b _ _).more ?_;show(lN zs (fF zs) _).1.length<=40;rw[e];omega
def rU(z:Int):List C:=[.v (.int .u8 z)]
def i9(zs:List Int)(c:iA):List C:=[.s .V (zs.map rU),I (c.i:Nat),I c.h]
def jR(zs:List Int):Prop:=zs.length<=1048576/\∀z∈zs,0<=z/\z<=255
theorem kD(zs:List Int)(c:iA)(e:jR zs)(w:c.i<=zs.length):aS Tryz.prog 195 false [.ptr (i9 zs c)] [.ptr (i9 zs (dB zs c).2)] .one [I (dB zs c).1]:=by
 have g:IntKind.i64.wrap (c.h*6364136223846793005)=w64 (c.h*6364136223846793005):=rfl;have b:IntKind.i64.wrap (w64 (c.h*6364136223846793005)+1442695040888963407)=Qv c.h:=rfl;have o:=e.1;generalize p:Qv c.h=H at b;have j:H.fdiv (2 ^ (min (33:Int).toNat IntKind.i64.bits))=MQ H 33:=rfl;have k:H.fdiv (2 ^ (min (45:Int).toNat IntKind.i64.bits))=MQ H 45:=rfl;have l:IntKind.i64.wrap (BitVec.ofInt IntKind.i64.bits (MQ H 33) ^^^ BitVec.ofInt IntKind.i64.bits (MQ H 45)).toNat=PX (MQ H 33) (MQ H 45):=rfl;have d:IntKind.i64.wrap (BitVec.ofInt IntKind.i64.bits (PX (MQ H 33) (MQ H 45)) &&& BitVec.ofInt IntKind.i64.bits 255).toNat=zW H:=rfl;have r:0<=zW H/\zW H<=255:=yY _;unfold dB;rw[p];generalize zW H=y at d r |-;refine fM 58 [] [(2,10,[13,14,15,16,17,18,19,20,21,22]),(3,9,[25,26,27,28,29,30,31,32,33]),(4,12,[35,36,37,38,39,40,41,42,43,44,45,46])] [(0,0)] Tryz.func195 rfl (λu q=>?_);by_cases a:c.i<zs.length
 ·rw[C9 a]
  have n:=ao a;have B:=e.2 _ (am a);have t:IntKind.i64.wrap (BitVec.ofInt IntKind.i64.bits (y+nth zs c.i) &&& BitVec.ofInt IntKind.i64.bits 255).toNat=and255 (y+nth zs c.i):=rfl
  repeat'(first|refine gD ?_|(conv=>whnf);first|with_reducible (first|refine CM g ?_|refine CM b ?_|refine CM l ?_|refine CM d ?_|refine CM t ?_|refine CD (aa n) ?_|refine CO (by decide) ?_|refine CU j ?_|refine CU k ?_)|refine CJ rfl (aa n) rfl ?_|refine CB ?_)
  refine CG rfl rfl ?_;exact wB
 rw[C8 a]
 repeat'(first|refine gD ?_|(conv=>whnf);first|with_reducible (first|refine CM g ?_|refine CM b ?_|refine CM l ?_|refine CM d ?_|refine CO (by decide) ?_|refine CU j ?_|refine CU k ?_)|refine CB ?_)
 refine CG rfl rfl ?_;exact wB
theorem bW(zs:List Int)(c:iA)(n:Int)(b:jR zs)(d:c.i<=zs.length)(p:1<=n):aS Tryz.prog 58 false [.ptr (i9 zs c),.val none [I n]] [.ptr (i9 zs (bw zs c n).2),.val none [I n]] .one [I (bw zs c n).1]:=by
 have j:=sG zs c;have g:=kD zs c b d;unfold bw;refine fM 37 [(195,[2])] [] [(0,0),(0,0)] Tryz.func58 rfl (λu q=>?_);by_cases h:n<=256
 ·rw[C9 h]
  have a:(dB zs c).1.tmod n=(dB zs c).1 % n:=Int.tmod_eq_emod_of_nonneg j.1
  repeat'(first|refine gD ?_|(conv=>whnf);first|with_reducible (first|refine CU a ?_|refine Bf.D (λe=>?_) (λe=>?_))|refine CK (g) (.inl rfl) ?_|refine CO ω ?_)
  refine CG rfl rfl ?_;exact wB
 rw[C8 h];have r:=sG zs (dB zs c).2;have t:=sG zs (dB zs (dB zs c).2).2;have w:=sG zs (dB zs (dB zs (dB zs c).2).2).2;have k:=kD zs (dB zs c).2 b (iE d);have l:=kD zs (dB zs (dB zs c).2).2 b (iE (iE d));have o:=kD zs (dB zs (dB zs (dB zs c).2).2).2 b (iE (iE (iE d)));have a:(yR zs c).1.tmod n=(yR zs c).1 % n:=Int.tmod_eq_emod_of_nonneg (by unfold yR;simp only;omega);unfold yR at a |-;simp only at a
 repeat'(first|refine gD ?_|(conv=>whnf);first|with_reducible (first|refine CU a ?_|refine Bf.D (λe=>?_) (λe=>?_))|refine CK (g) (.inl rfl) ?_|refine CK (k) (.inl rfl) ?_|refine CK (l) (.inl rfl) ?_|refine CK (o) (.inl rfl) ?_|refine CO ω ?_)
 refine CG rfl rfl ?_;exact wB
theorem JT(zs:List Int)(c:iA)(l:List Int)(b:jR zs)(d:c.i<=zs.length)(g:1<=l.length/\l.length<=1000):aS Tryz.prog 459 false [.ptr (i9 zs c),.val none (aG .V l)] [.ptr (i9 zs (lv zs c l).2),.val none (aG .V l)] .one [I (lv zs c l).1]:=by
 have e:=bW zs c (l.length:Nat) b d ω;have h:=bK zs c (n:=(l.length:Nat)) ω;have a:=ao (xs:=l) (i:=(bw zs c (l.length:Nat)).1.toNat) ω;unfold lv;refine fM 12 [(58,[2,0])] [] [(0,0),(0,0)] Tryz.func459 rfl (λu q=>?_)
 repeat'(first|refine gO ?_|(conv=>whnf);first|with_reducible refine CN ω (aa a) ?_|refine CK (e) (.inl rfl) ?_|refine CJ rfl (aa a) rfl ?_)
 refine CG rfl rfl ?_;exact wC
theorem iI(zs:List Int)(c:iA)(l:List Int)(b:jR zs)(d:c.i<=zs.length)(g:1<=l.length/\l.length<=1000):aS Tryz.prog 459 false [.ptr (i9 zs c),.mut none (aG .own l)] [.ptr (i9 zs (lv zs c l).2),.mut none (aG .own l)] .one [I (lv zs c l).1]:=by
 have e:=bW zs c (l.length:Nat) b d ω;have h:=bK zs c (n:=(l.length:Nat)) ω;have a:=ao (xs:=l) (i:=(bw zs c (l.length:Nat)).1.toNat) ω;unfold lv;refine fM 12 [(58,[2,0])] [] [(0,0),(1,0)] Tryz.func459 rfl (λu q=>?_)
 repeat'(first|refine gO ?_|(conv=>whnf);first|with_reducible refine CN ω (aa a) ?_|refine CK (e) (.inl rfl) ?_|refine CJ rfl (aa a) rfl ?_)
 refine CG rfl rfl ?_;exact wC
theorem JD(zs:List Int):∀(f i:Nat)(out:List Int)(c:iA),(bw zs c 4).1<=i->pp zs f i out c=(out,(bw zs c 4).2)
 | 0,_,_,_,_=>rfl
 | f+1,i,out,c,h=>by unfold pp;rw[C8 ω]
theorem Ph(zs:List Int)(f i:Nat)(out:List Int)(c:iA)(h:(i:Int)<(bw zs c 4).1):pp zs (f+1) i out c=pp zs f (i+1) (out++[(bw zs (bw zs c 4).2 12).1]) (bw zs (bw zs c 4).2 12).2:=by
 show(if _ then _ else _)=_;rw[C9 h]
structure Rq where
 i:Nat
 out:List Int
 c:iA
theorem x5(zs:List Int)(c:iA)(e:jR zs)(j:c.i<=zs.length):aS Tryz.prog 345 false [.ptr (i9 zs c)] [.ptr (i9 zs (MV zs c).2)] .one (aG .own (MV zs c).1):=by
 refine fM 18 [(58,[2,0])] [] [(0,0)] Tryz.func345 rfl (λu q=>?_) (.inr (bM _))
 repeat'(first|refine gO ?_|fail)
 (conv=>whnf)
 refine CF (ι:=Rq) (λx=>[(0,.H .box (i9 zs x.c)),(3,.H .one (aG .own x.out)),(4,.H .one [I ((x.i:Nat):Int)])]) (λx=>(x.i<=4/\x.out.length<=x.i/\x.c.i<=zs.length)/\pp zs (4 - x.i) x.i x.out x.c=MV zs c) (λx=>4 - x.i) (⟨0,[],c⟩) ?_ (⟨⟨U0 _,U0 _,j⟩,rfl⟩) λx k=>?_
 ·exact wC
 obtain⟨i,out,d⟩:=x;obtain⟨⟨l,o,b⟩,a⟩:=k;simp only at l o b a |-;have B:=bK zs d (n:=4) (by decide);have g:=bW zs d 4 e b (by decide);have h:=bU b 4;have p:=bW zs (bw zs d 4).2 12 e h (by decide);have t:=bU h 12;by_cases w:(i:Int)<(bw zs d 4).1
 ·rw[show 4 - i=(4 - (i+1))+1 by omega,Ph zs _ _ _ _ w]at a
  repeat'(first|refine gD ?_|(conv=>whnf);first|refine CK (g) (.inl rfl) ?_|refine CK (p) (.inl rfl) ?_|refine CT cA (λr y=>by rw[I1.1 y];rfl) (by simp[aW,dP]) (by simp;omega) (by simp only[Z0];exact xY (by simp;omega) (by decide)) rfl ?_)
  ((conv=>whnf);refine CE ⟨i+1,out++[(bw zs (bw zs d 4).2 12).1],(bw zs (bw zs d 4).2 12).2⟩ ⟨⟨by simp only;omega,by simp only[z3,List.length_singleton];omega,t⟩,a⟩ (by simp only;omega) ?_)
  repeat'(first|exact trivial|rfl| exact eJ _ |exact CL rfl (CL (W0 (C.s dI.own) (by simp[rI])) trivial)|refine CL ?_ ?_|(exact E4 (by first|omega|(simp only;omega)|(simp;omega))))
 rw[JD zs _ _ _ _ ω]at a;rw[<-a]
 repeat'(first|refine gD ?_|(conv=>whnf);first|refine CK (g) (.inl rfl) ?_)
 refine CG rfl rfl ?_;exact wC
def cE.enc(o:dI)(c:cE):List C:=[I (c.a2:Nat),I (c.W:Nat),I (c.c7:Nat),I c.c3,.s o (c.y.map (rI o))]
theorem cE.enc_fz(c:cE):ef (cE.enc .own c)=cE.enc .V c:=by simp[ef,cE.enc,rI,<-cr,v5]
theorem cE.enc_fr(c:cE):gV (cE.enc .own c):=⟨trivial,trivial,trivial,trivial,⟨.inl λh=>(by cases h),bh _ _ λy _=>qq y⟩,trivial⟩
theorem wd(zs:List Int)(c:iA)(a:jR zs)(h:c.i<=zs.length):aS Tryz.prog 193 false [.ptr (i9 zs c)] [.ptr (i9 zs (P9 zs c).2)] .agg (cE.enc .own (qf zs c)):=by
 have j:=bU h 7;have k:=bU j 3;have l:=bU k 100;have y:=bU l 4;have b:=bW zs c 7 a h (by decide);have d:=bW zs (y4 zs c).2 3 a j (by decide);have e:=bW zs (EP zs c).2 100 a k (by decide);have g:=bW zs (FU zs c).2 4 a l (by decide);have o:=x5 zs (AH zs c).2 a y;have p:=bK zs c (n:=7) (by decide);have r:=bK zs (y4 zs c).2 (n:=3) (by decide);have B:=bK zs (EP zs c).2 (n:=100) (by decide);have t:=bK zs (FU zs c).2 (n:=4) (by decide);have w:=cE.enc_fr (qf zs c);have C:cE.enc .own (qf zs c)=[I (6+(y4 zs c).1),I (6+(y4 zs c).1 - (AH zs c).1),I (1+(EP zs c).1),I (40+(FU zs c).1),.s .own ((P9 zs c).1.map (rI .own))]:=by
  have D:0<=(y4 zs c).1/\(y4 zs c).1<7:=p;have E:0<=(EP zs c).1/\(EP zs c).1<3:=r;have F:0<=(AH zs c).1/\(AH zs c).1<4:=t;unfold cE.enc qf;simp only;rw[Int.toNat_of_nonneg ω,Int.toNat_of_nonneg ω,Int.toNat_of_nonneg ω]
 rw[C]at w |-;change aS _ _ _ _ [.ptr (i9 zs (y4 zs c).2),_] _ _ at b;change aS _ _ _ _ [.ptr (i9 zs (EP zs c).2),_] _ _ at d;change aS _ _ _ _ [.ptr (i9 zs (FU zs c).2),_] _ _ at e;change aS _ _ _ _ [.ptr (i9 zs (AH zs c).2),_] _ _ at g;change aS _ _ _ _ [.ptr (i9 zs (P9 zs c).2)] _ (aG .own (P9 zs c).1) at o;change aS _ _ _ _ _ _ [I (y4 zs c).1]at b;change aS _ _ _ _ _ _ [I (EP zs c).1]at d;change aS _ _ _ _ _ _ [I (FU zs c).1]at e;change aS _ _ _ _ _ _ [I (AH zs c).1]at g;change 0<=(y4 zs c).1/\(y4 zs c).1<7 at p;change 0<=(EP zs c).1/\(EP zs c).1<3 at r;change 0<=(FU zs c).1/\(FU zs c).1<100 at B;change 0<=(AH zs c).1/\(AH zs c).1<4 at t;generalize P9 zs c=r5 at *;generalize AH zs c=r4 at *;generalize FU zs c=r3 at *;generalize EP zs c=r2 at *;generalize y4 zs c=r1 at *;refine fM 24 [(58,[2,0]),(345,[2])] [(2,65536,[])] [(0,0)] Tryz.func193 rfl (λu q=>?_) (.inr w)
 repeat'(first|refine gO ?_|(conv=>whnf);first|refine CK (b) (.inl rfl) ?_|refine CK (d) (.inl rfl) ?_|refine CK (e) (.inl rfl) ?_|refine CK (g) (.inl rfl) ?_|refine CK (o) (.inl rfl) ?_|refine CL ?_ ?_)
 all_goals
  refine CG rfl rfl ?_;exact wC
theorem wl(n:Nat)(e:1<=n/\n<=32):ar Tryz.prog 580 false [.val none [I (n:Nat)]] (.tup [some 2,none]) (aV.enc .own (fV n)++[B true]):=by
 have c:=aH ((n:Nat):Int) 1 32;rw[O0 ω]at c;have a:=bf (b:=[B true]) (aV.enc_fr (fV n)) ⟨trivial,trivial⟩;rw[show aV.enc .own (fV n)=_ from FE n n]at a |-;refine fO 28 [(7,4,[16,17,18,19])] Tryz.func580 rfl ?_ (.inr a)
 repeat'(first|refine gO ?_|(conv=>whnf);first|refine CB ?_|refine C7 (c) ?_)
 (conv=>whnf)
 refine CF (ι:=Nat) (λk=>[(0,.H .one [I ((n:Nat))]),(2,.H .box [.z,.z]),(4,.H .box [.s .own (List.replicate k [.s .own (List.replicate 16 [I 0])]),.s .own (List.replicate k [B false])]),(5,.H .one [I ((k:Nat):Int)])]) (λk=>k<=n) (λk=>n - k) (0) ?_ (U0 _) λk g=>?_
 ·exact wB
 by_cases h:k<n
 ·repeat'(first|refine gD ?_|(conv=>whnf);first|refine CB ?_|refine Mk.mk 16 rfl rfl (by decide) (by decide) rfl ?_|refine Ap.sn (λr d=>by rw[(List.mem_replicate.1 d).2];rfl) rfl (by simp;omega) (by decide) (EG _ k) ?_)
  ((conv=>whnf);refine CE (k+1) ω ω ?_;(exact wB))
 obtain rfl:k=n:=ω
 repeat'(first|refine gD ?_|(conv=>whnf);first|refine CB ?_)
 rfl
theorem yE(n:Nat)(e:1<=n/\n<=32):ar Tryz.prog 581 false [.val none [I (n:Nat)]] (.tup [some 1,none]) (aI.enc .own (eK n)++[B true]):=by
 have c:=aH ((n:Nat):Int) 1 32;rw[O0 ω]at c;have a:=bf (b:=[B true]) (aI.enc_fr (eK n)) ⟨trivial,trivial⟩;have d:aI.enc .own (eK n)=[.s .own (List.replicate n [I 0,I 0])]:=by simp[aI.enc,eK,bi.enc,List.map_replicate]
 rw[d]at a |-;refine fO 11 [] Tryz.func581 rfl ?_ (.inr a)
 repeat'(first|refine gO ?_|(conv=>whnf);first|refine CB ?_|refine C7 (c) ?_|refine Mk.mk n rfl rfl ω (xY ω (by decide)) rfl ?_)
 rfl
theorem uS(p f:Nat)(a:1<=p/\p<=32)(b:1<=f/\f<=32):ar Tryz.prog 557 false [.val none [I (p:Nat)],.val none [I (f:Nat)]] (.tup [some 3,none]) (aU.enc .own ⟨fV f,eK p⟩++[B true]):=by
 refine fO 30 [] Tryz.func557 rfl ?_ (.inr (bf (aU.enc_fr _) ⟨trivial,trivial⟩))
 repeat'(first|refine gO ?_|(conv=>whnf);first|refine CB ?_|refine C7 (wl f b) ?_|refine C7 (yE p a) ?_)
 rfl
theorem wD(p f:Nat)(a:List Int)(b:1<=p/\p<=32)(c:1<=f/\f<=32)(d:a.length<=40/\∀x∈a,0<=x):ar Tryz.prog 523 false [.val none [I (p:Nat)],.val none [I (f:Nat)],.val none (aG .V a)] (.tup [some 5,none]) (ah.enc .own (bH p f a)++[B true]):=by
 have e:=qm b c d;have h:=d.1;have g:=lU (bH p f a) (bP e);rw[e]at g;refine fO 31 [(2,260,[17,18,19,10,0,1,2,5,3,1000,1005,4,1005,6])] Tryz.func523 rfl ?_ (.inr (bf (ah.enc_fr _) ⟨trivial,trivial⟩))
 repeat'(first|refine gO ?_|(conv=>whnf);first|refine CB ?_|refine C7 (uS p f b c) ?_|refine CH (g) ⟨⟨rfl,CR (bH p f a)⟩,trivial⟩ ?_|refine CS (λ_=>rfl) (λ_=>rfl) ω (by decide) ?_|refine CV (λ_=>rfl) (λ_=>rfl) ω (by decide) ?_|refine CB ?_)
 rfl
def Q1(p f t:Nat)(lim:Int)(a:List Int)(k:Nat):ab:={caps (newHeap p f t lim a) k with a9:=⟨0,[]⟩}
theorem AM(p f t:Nat)(lim:Int)(a:List Int)(c:1<=p/\p<=32)(d:1<=f/\f<=32)(e:1<=t/\t<=4)(g:0<=lim/\lim<=1000)(h:a.length<=40/\∀x∈a,0<=x):ar Tryz.prog 449 false [.val none [I (p:Nat)],.val none [I (f:Nat)],.val none [I (t:Nat)],.val none [I lim],.val none (aG .V a)] (.tup [some 24,none]) (ab.enc .own (newHeap p f t lim a)++[B true]):=by
 have b:=aH lim 0 1000;rw[O0 g]at b;refine fO 66 [(9,4,[54,55,56,57])] Tryz.func449 rfl ?_ (.inr (bf (ab.enc_fr _) ⟨trivial,trivial⟩))
 repeat'(first|refine gO ?_|(conv=>whnf);first|refine CB ?_|refine C7 (wD p f a c d h) ?_|refine C7 (Bk t e) ?_|refine C7 (b) ?_|refine C7 (rY) ?_)
 (conv=>whnf)
 refine CF (ι:=Nat) (λk=>[(2,.H .one [I ((t:Nat))]),(10,.H .box [.z,.z,.z,I 0,.z,.z,.z,.z,.z,.z,.z,.z,I 0,.z,I 0,I 0,I 0,I 0,B false,I 0,I 0,.z,I 0,I 0]),(16,.H .box (ab.enc .own (Q1 p f t lim a k))),(17,.H .one [I ((k:Nat):Int)])]) (λk=>k<=t) (λk=>t - k) (0) ?_ (U0 _) λk i=>?_
 ·exact wB
 by_cases j:k<t
 ·repeat'(first|refine gD ?_|(conv=>whnf);first|refine CB ?_|refine C7 (y2) ?_|refine Ap.sn My rfl (by rw[Z0];show(List.replicate _ fo).length+1<=_;rw[R3];omega) (by decide) (Ja k) ?_)
  ((conv=>whnf);refine CE (k+1) ω ω ?_;(exact wB))
 obtain rfl:k=t:=ω
 repeat'(first|refine gD ?_|(conv=>whnf);first|refine CB ?_|refine C7 (rY) ?_)
 rfl
theorem Ee:ar Tryz.prog 450 false [] .agg (ay.enc .own ⟨1,[]⟩):=by
 refine fO 2 [] Tryz.func450 rfl ?_ (.inr (ay.enc_fr _))
 repeat'((conv=>whnf);first|with_reducible (first|refine Lm ?_|refine Wm ω ?_|refine Bn ?_|refine kg.wk rfl ?_)|refine Bt ?_|refine Bu ?_|refine CB ?_)
 exact⟨rfl,rfl,trivial⟩
theorem yA(c:cE)(h:Fw c):ar Tryz.prog 342 false [.val (some 5) (cE.enc .V c)] (.tup [some 26,none]) (bo.enc .own (world0 c)++[B true]):=by
 have a:=AM c.a2 c.W c.c7 c.c3 c.y h.p h.f h.t h.l h.r;refine fO 26 [(4,2,[23,24])] Tryz.func342 rfl ?_ (.inr (bf (bo.enc_fr _) ⟨trivial,trivial⟩))
 repeat'(first|refine gO ?_|(conv=>whnf);first|refine CB ?_|refine C7 (a) ?_|refine C7 (Ee) ?_)
 rfl
def pk(o:dI)(l:List eE):List C:=[.s o (l.map (eE.enc o))]
theorem eE.enc_fr(x:eE):gV (eE.enc .own x):=⟨trivial,trivial,trivial,trivial,trivial,trivial⟩
theorem Jy(l:List eE):gV (pk .own l):=⟨⟨.inl λh=>(by cases h),bh _ _ λy _=>eE.enc_fr y⟩,trivial⟩
theorem Jn(l:List eE):ef (pk .own l)=pk .V l:=by simp[ef,pk,eE.enc,<-cr,v5]
theorem DA(zs:List Int)(c:iA)(ids:Int)(b:jR zs)(p:c.i<=zs.length)(r:1<=ids/\ids<=1000):aS Tryz.prog 346 false [.ptr (i9 zs c),.val none [I ids]] [.ptr (i9 zs (rN zs c ids).2),.val none [I ids]] .agg (eE.enc .own (rN zs c ids).1):=by
 have w:=bU p 3;have y:=bU w ids;have d:(kT zs c ids).2.i<=zs.length:=bU y 20;have B:=bW zs c 3 b p (by decide);have C:=bW zs (yS zs c).2 ids b w r.1;have j:=bW zs (EU zs c ids).2 20 b y (by decide);have H:=bK zs c (n:=3) (by decide);have J:=bK zs (yS zs c).2 (n:=ids) r.1;have D:=bK zs (EU zs c ids).2 (n:=20) (by decide);have e:=iI zs (kT zs c ids).2 szs b d (by decide);have E:=iI zs (kT zs c ids).2 [5,6] b d (by decide);have F:=iI zs (kT zs c ids).2 [1,30,60,120] b d (by decide);have l:=iI zs (kT zs c ids).2 [1,2,3,10,30] b d (by decide);have g:=bW zs (kT zs c ids).2 4 b d (by decide);have h:=bW zs (bw zs (kT zs c ids).2 4).2 999 b (bU d _) (by decide);have G:=bW zs (kT zs c ids).2 10 b d (by decide);have K:=bK zs (bw zs (kT zs c ids).2 4).2 (n:=999) (by decide);have L:=bK zs (kT zs c ids).2 (n:=10) (by decide);change aS _ _ _ _ [.ptr (i9 zs (yS zs c).2),_] _ [I (yS zs c).1]at B;change aS _ _ _ _ [.ptr (i9 zs (EU zs c ids).2),_] _ [I (EU zs c ids).1]at C;change aS _ _ _ _ [.ptr (i9 zs (kT zs c ids).2),_] _ [I (kT zs c ids).1]at j;change 0<=(yS zs c).1/\(yS zs c).1<3 at H;change 0<=(EU zs c ids).1/\(EU zs c ids).1<ids at J;change 0<=(kT zs c ids).1/\(kT zs c ids).1<20 at D;have o:=eE.enc_fr (rN zs c ids).1;unfold rN at o |-;generalize kT zs c ids=k at *;generalize EU zs c ids=n at *;generalize yS zs c=t at *;obtain⟨a,M⟩:=k;dsimp only at d e E F l g h G K L D j o |-;refine fM 77 [(58,[2,0]),(459,[2,1])] [] [(0,0),(0,0)] Tryz.func346 rfl (λu q=>?_) (.inr o)
 repeat'(first|refine gO ?_|(conv=>whnf);first|refine CK (B) (.inl rfl) ?_|refine CK (C) (.inl rfl) ?_|refine CK (j) (.inl rfl) ?_)
 obtain rfl|rfl|rfl|rfl|rfl|rfl|rfl|rfl|rfl|rfl|rfl|rfl|rfl|rfl|rfl|rfl|rfl|rfl|rfl|rfl:=(show a=0\/a=1\/a=2\/a=3\/a=4\/a=5\/a=6\/a=7\/a=8\/a=9\/a=10\/a=11\/a=12\/a=13\/a=14\/a=15\/a=16\/a=17\/a=18\/a=19 by omega)
 ·rw[C9 (show((0:Int))<=6 by decide)]
  repeat'(first|refine gO ?_|(conv=>whnf);first|refine CK (e) (.inl rfl) ?_)
  refine CG rfl rfl ?_;exact wC
 ·rw[C9 (show((1:Int))<=6 by decide)]
  repeat'(first|refine gO ?_|(conv=>whnf);first|refine CK (e) (.inl rfl) ?_)
  refine CG rfl rfl ?_;exact wC
 ·rw[C9 (show((2:Int))<=6 by decide)]
  repeat'(first|refine gO ?_|(conv=>whnf);first|refine CK (e) (.inl rfl) ?_)
  refine CG rfl rfl ?_;exact wC
 ·rw[C9 (show((3:Int))<=6 by decide)]
  repeat'(first|refine gO ?_|(conv=>whnf);first|refine CK (e) (.inl rfl) ?_)
  refine CG rfl rfl ?_;exact wC
 ·rw[C9 (show((4:Int))<=6 by decide)]
  repeat'(first|refine gO ?_|(conv=>whnf);first|refine CK (e) (.inl rfl) ?_)
  refine CG rfl rfl ?_;exact wC
 ·rw[C9 (show((5:Int))<=6 by decide)]
  repeat'(first|refine gO ?_|(conv=>whnf);first|refine CK (e) (.inl rfl) ?_)
  refine CG rfl rfl ?_;exact wC
 ·rw[C9 (show((6:Int))<=6 by decide)]
  repeat'(first|refine gO ?_|(conv=>whnf);first|refine CK (e) (.inl rfl) ?_)
  refine CG rfl rfl ?_;exact wC
 ·rw[C8 (show ¬((7:Int)<=6) by decide),C9 (show((7:Int))<=9 by decide)]
  repeat'(first|refine gO ?_|fail)
  refine CG rfl rfl ?_;exact wC
 ·rw[C8 (show ¬((8:Int)<=6) by decide),C9 (show((8:Int))<=9 by decide)]
  repeat'(first|refine gO ?_|fail)
  refine CG rfl rfl ?_;exact wC
 ·rw[C8 (show ¬((9:Int)<=6) by decide),C9 (show((9:Int))<=9 by decide)]
  repeat'(first|refine gO ?_|fail)
  refine CG rfl rfl ?_;exact wC
 ·rw[C8 (show ¬((10:Int)<=6) by decide),C8 (show ¬((10:Int)<=9) by decide),C9 (show((10:Int))<=12 by decide)]
  repeat'(first|refine gO ?_|(conv=>whnf);first|refine CK (g) (.inl rfl) ?_|refine CK (h) (.inl rfl) ?_)
  refine CG rfl rfl ?_;exact wC
 ·rw[C8 (show ¬((11:Int)<=6) by decide),C8 (show ¬((11:Int)<=9) by decide),C9 (show((11:Int))<=12 by decide)]
  repeat'(first|refine gO ?_|(conv=>whnf);first|refine CK (g) (.inl rfl) ?_|refine CK (h) (.inl rfl) ?_)
  refine CG rfl rfl ?_;exact wC
 ·rw[C8 (show ¬((12:Int)<=6) by decide),C8 (show ¬((12:Int)<=9) by decide),C9 (show((12:Int))<=12 by decide)]
  repeat'(first|refine gO ?_|(conv=>whnf);first|refine CK (g) (.inl rfl) ?_|refine CK (h) (.inl rfl) ?_)
  refine CG rfl rfl ?_;exact wC
 ·rw[C8 (show ¬((13:Int)<=6) by decide),C8 (show ¬((13:Int)<=9) by decide),C8 (show ¬((13:Int)<=12) by decide),C9 (show((13:Int))=13 by decide)]
  repeat'(first|refine gO ?_|(conv=>whnf);first|refine CK (G) (.inl rfl) ?_)
  refine CG rfl rfl ?_;exact wC
 ·rw[C8 (show ¬((14:Int)<=6) by decide),C8 (show ¬((14:Int)<=9) by decide),C8 (show ¬((14:Int)<=12) by decide),C8 (show ¬((14:Int)=13) by decide),C9 (show((14:Int))=14 by decide)]
  repeat'(first|refine gO ?_|(conv=>whnf);first|refine CK (E) (.inl rfl) ?_)
  refine CG rfl rfl ?_;exact wC
 ·rw[C8 (show ¬((15:Int)<=6) by decide),C8 (show ¬((15:Int)<=9) by decide),C8 (show ¬((15:Int)<=12) by decide),C8 (show ¬((15:Int)=13) by decide),C8 (show ¬((15:Int)=14) by decide),C9 (show((15:Int))=15 by decide)]
  repeat'(first|refine gO ?_|fail)
  refine CG rfl rfl ?_;exact wC
 ·rw[C8 (show ¬((16:Int)<=6) by decide),C8 (show ¬((16:Int)<=9) by decide),C8 (show ¬((16:Int)<=12) by decide),C8 (show ¬((16:Int)=13) by decide),C8 (show ¬((16:Int)=14) by decide),C8 (show ¬((16:Int)=15) by decide),C9 (show((16:Int))=16 by decide)]
  repeat'(first|refine gO ?_|(conv=>whnf);first|refine CK (F) (.inl rfl) ?_)
  refine CG rfl rfl ?_;exact wC
 ·rw[C8 (show ¬((17:Int)<=6) by decide),C8 (show ¬((17:Int)<=9) by decide),C8 (show ¬((17:Int)<=12) by decide),C8 (show ¬((17:Int)=13) by decide),C8 (show ¬((17:Int)=14) by decide),C8 (show ¬((17:Int)=15) by decide),C8 (show ¬((17:Int)=16) by decide),C9 (show((17:Int))=17 by decide)]
  repeat'(first|refine gO ?_|fail)
  refine CG rfl rfl ?_;exact wC
 ·rw[C8 (show ¬((18:Int)<=6) by decide),C8 (show ¬((18:Int)<=9) by decide),C8 (show ¬((18:Int)<=12) by decide),C8 (show ¬((18:Int)=13) by decide),C8 (show ¬((18:Int)=14) by decide),C8 (show ¬((18:Int)=15) by decide),C8 (show ¬((18:Int)=16) by decide),C8 (show ¬((18:Int)=17) by decide)]
  repeat'(first|refine gO ?_|(conv=>whnf);first|refine CK (l) (.inl rfl) ?_)
  refine CG rfl rfl ?_;exact wC
 rw[C8 (show ¬((19:Int)<=6) by decide),C8 (show ¬((19:Int)<=9) by decide),C8 (show ¬((19:Int)<=12) by decide),C8 (show ¬((19:Int)=13) by decide),C8 (show ¬((19:Int)=14) by decide),C8 (show ¬((19:Int)=15) by decide),C8 (show ¬((19:Int)=16) by decide),C8 (show ¬((19:Int)=17) by decide)]
 repeat'(first|refine gO ?_|(conv=>whnf);first|refine CK (l) (.inl rfl) ?_)
 refine CG rfl rfl ?_;exact wC
theorem BC(zs:List Int)(c:iA)(b:jR zs)(d:c.i<=zs.length):aS Tryz.prog 194 false [.ptr (i9 zs c),.val none [I 40]] [.ptr (i9 zs (nL zs c).2),.val none [I 40]] .one (pk .own (nL zs c).1):=by
 have e:=bW zs c 41 b d (by decide);have g:=bK zs c (n:=41) (by decide);obtain⟨n,h⟩:=U2 g.1;have a:(bw zs c 41).1.toNat=n:=by rw[h];rfl
 unfold nL;rw[a];rw[h]at e g;refine fM 27 [(58,[2,0]),(346,[2,0])] [] [(0,0),(0,0)] Tryz.func194 rfl (λu q=>?_) (.inr (Jy _))
 repeat'(first|refine gO ?_|(conv=>whnf);first|refine CK (e) (.inl rfl) ?_)
 (conv=>whnf)
 refine CF (ι:=Nat) (λi=>[(0,.H .box (i9 zs (lN zs c i).2)),(5,.H .one (pk .own (lN zs c i).1)),(6,.H .one [I ((n:Nat):Int)]),(7,.H .one [I ((i:Nat):Int)])]) (λi=>i<=n) (λi=>n - i) (0) ?_ (U0 _) λi p=>?_
 ·exact wC
 obtain⟨t,-,j⟩:=rp (zs:=zs) (c:=c) d (n:=i) ω;by_cases w:i<n
 ·have k:=DA zs (lN zs c i).2 (1+(i:Int) / 2) b j ω
  have l:((i:Nat):Int).tdiv 2=(i:Int) / 2:=Int.tdiv_eq_ediv_of_nonneg ω
  repeat'(first|refine gD ?_|(conv=>whnf);first|with_reducible (first|refine CU l ?_|refine CO ω ?_)|refine CK (k) (.inl rfl) ?_|refine CT (aT λ_=>rfl) (λr o=>by rw[I1.1 o];rfl) (by simp[aW,dP,eE.enc]) (by simp;omega) (by simp only[Z0];exact xY (by simp;omega) (by decide)) rfl ?_)
  ((conv=>whnf);refine CE (i+1) ω ω ?_)
  repeat'(first|exact trivial|rfl| exact eJ _ |exact CL rfl (CL (W0 (C.s dI.own) (by simp[lN];rfl)) trivial)|refine CL ?_ ?_|(exact E4 (by first|omega|(simp only;omega)|(simp;omega))))
 obtain rfl:i=n:=ω
 repeat'(first|refine gD ?_|fail)
 refine CG rfl rfl ?_;exact wC
def rfs(h:ab):List Int:=h.G.y
theorem Am(k:ah)(p:Int):(newK k p).1.y=k.y:=by unfold newK;split<;>rfl
theorem sr(k:ah)(p:Int):∀n,(newsK k p n).1.y=k.y
 | 0=>rfl
 | n+1=>by
  unfold newsK;split
  ·exact(Am _ _).trans (sr k p n)
  exact sr k p n
theorem LI(h:ab)(i:Nat):rfs (qk h i).1=rfs h:=by unfold qk;split<;>rfl
theorem zF(h:ab)(t c:Nat):rfs (smallA h t c).1=rfs h:=by
 unfold smallA;split
 ·rfl
 split
 ·rfl
 split
 ·rfl
 split
 ·exact Am _ _
 exact(LI _ _).trans (Am _ _)
theorem HY(h:ab)(t n:Int):rfs (allocH h t n).1=rfs h:=by
 unfold allocH;split
 ·rfl
 split
 ·rfl
 split
 ·rfl
 split
 ·rfl
 split
 ·split
  ·exact zF _ _ _
  exact zF _ _ _
 unfold largeA;split
 ·rfl
 split
 ·exact sr _ _ _
 exact((ug _ _ _).2).trans (sr _ _ _)
theorem Kx(h:ab)(t i:Nat):rfs (freeT h t i).1=rfs h:=by
 unfold freeT;split
 ·exact(ug _ _ _).2
 split
 ·rfl
 split
 ·exact(gm t _ _).2.2.2.2.2.2.2
 split<;>rfl
theorem Ae(t:Nat)(h:ab):∀k,rfs (flushN t h k).1=rfs h
 | 0=>rfl
 | k+1=>((iv _ (spilt (flushN t h k).1 t k)).2.2.2.2.2.2.2).trans (Ae t h k)
theorem Gd{h:ab}(a:aZ h [])(b:JI h):∀n,rfs (stN h n).1=rfs h
 | 0=>rfl
 | n+1=>by
  obtain⟨c,d⟩:=wm a b n;unfold stN;split
  ·rename_i e
   unfold tF at e;rw[I0]at e;exact((FI c e.1).2.2.1).trans (Gd a b n)
  exact Gd a b n
theorem Md{w:bo}{m:Nat}(h:rz w m)(a:eE):rfs (o9 w a).1.Y=rfs w.Y:=by
 unfold o9;split
 ·exact HY _ _ _
 split
 ·split
  ·rfl
  unfold mY;split
  ·unfold ro
   split
   ·rfl
   split
   ·exact Kx _ _ _
   rfl
  split
  ·unfold oP
   split
   ·rfl
   split
   ·rfl
   split<;>rfl
  unfold rL;split
  ·exact((ug _ _ _).2).trans (ov _ _ _).2.2
  rfl
 split
 ·unfold fU
  split
  ·split<;>rfl
  split
  ·rfl
  split
  ·exact(gm _ _ _).2.2.2.2.2.2.2
  exact Ae _ _ _
 split
 ·unfold pL
  split
  ·exact(iv _ _).2.2.2.2.2.2.2
  rfl
 split
 ·unfold pF
  split
  ·rfl
  show rfs (started w.Y).1=_;unfold rfs;rw[(DM h.inv).2.1]
 split
 ·exact Gd h.inv h.ji _
 rfl
theorem Gx{c:cE}(h:Fw c)(acts:List eE):∀n,rfs (AX c acts n).1.Y=c.y
 | 0=>rfl
 | n+1=>(Md (vS h acts n) _).trans (Gx h acts n)
def qI(w:bo):List C:=bx w.Y++ay.enc .V w.b5
theorem Nl(w:bo):ef (qI w)=bo.enc .V w:=by
 unfold qI;rw[fg,bG,<-Cb,rV,Cb]
 rfl
theorem BO(w:bo)(id:Int)(g:w.Y.O.length<=1048576):aS Tryz.prog 452 false [.ptr (qI w),.val none [I id]] [.ptr (qI w),.val none [I id]] .one [I (qr w.Y id)]:=by
 refine fM 28 [] [] [(0,0),(0,0)] Tryz.func452 rfl (λu q=>?_)
 repeat'(first|refine gO ?_|(conv=>whnf);first|refine CB ?_)
 (conv=>whnf)
 refine CF (ι:=Nat) (λi=>[(0,.H .box (qI w)),(1,.H .one [I (id)]),(5,.H .one [I ((i:Nat):Int)])]) (λi=>i<=w.Y.O.length/\∀(j:Nat)(z:bz),j<i->w.Y.O[j]? = some z->Kv id z=false) (λi=>w.Y.O.length - i) (0) ?_ (⟨U0 _,λj z h=>ω⟩) λi c=>?_
 ·exact wC
 obtain⟨c,b⟩:=c;by_cases d:i<w.Y.O.length
 ·have a:=ao d
  by_cases e:(nth w.Y.O i).Id=id
  ·repeat'(first|refine gA ?_|(conv=>whnf);first|with_reducible refine CD (aa a) ?_|refine CB ?_|refine CJ rfl (aa a) rfl ?_)
   refine CG rfl (W0 (λz=>[I z]) (dX a (O0 e) b).symm) ?_;exact wC
  repeat'(first|refine gA ?_|(conv=>whnf);first|with_reducible refine CD (aa a) ?_|refine CB ?_|refine CJ rfl (aa a) rfl ?_)
  ((conv=>whnf);refine CE (i+1) ⟨ω,d8 a (T0 e) b⟩ ω ?_;(exact wC))
 repeat'(first|refine gD ?_|(conv=>whnf);first|refine CB ?_)
 refine CG rfl (W0 (λz=>[I z]) (gv ω b).symm) ?_;exact wC
theorem cW(y:ab):(bx y).length=24:=rfl
theorem yr(w:bo)(m n:Nat)(h:rz w m)(B:n<=50):aS Tryz.prog 457 false [.ptr (qI w),.val none [I (n:Nat)]] [.ptr (qI ⟨(stN w.Y n).1,w.b5⟩),.val none [I (n:Nat)]] .one [I ((stN w.Y n).2:Nat)]:=by
 refine fM 35 [(536,[2])] [] [(0,0),(0,0)] Tryz.func457 rfl (λu q=>?_)
 repeat'(first|refine gO ?_|(conv=>whnf);first|refine CB ?_)
 (conv=>whnf)
 refine CF (ι:=Nat) (λi=>[(0,.H .box (qI ⟨(stN w.Y i).1,w.b5⟩)),(1,.H .one [I ((n:Nat):Int)]),(5,.H .one [I (((stN w.Y i).2:Nat):Int)]),(6,.H .one [I ((i:Nat):Int)])]) (λi=>i<=n/\(stN w.Y i).2=i) (λi=>n - i) (0) ?_ (⟨U0 _,rfl⟩) λi l=>?_
 ·exact wC
 obtain⟨l,C⟩:=l;obtain⟨o,D⟩:=wm h.inv h.ji i;have b:stN w.Y (i+1)=if tF (stN w.Y i).1=true then(mStep (stN w.Y i).1,(stN w.Y i).2+1) else stN w.Y i:=rfl
 have p:=(aE.1 o.ker).2.2.2.2;by_cases E:i<n
 ·cases c:(stN w.Y i).1.u with
  | true=>
   have y:=(BB _ o c).frame (r:=ay.enc .V w.b5) ((cW _).trans (cW _).symm);by_cases g:(stN w.Y i).1.G.Calls<=99000
   ·have d:tF (stN w.Y i).1=true:=by unfold tF;rw[c,O0 g];rfl
    rw[C9 d]at b;generalize stN w.Y i=s at *
    repeat'(first|refine gD ?_|(conv=>whnf);first|refine CB ?_|refine Bf.t (O0 g) ?_|refine Bf.t c ?_|refine CK (y) (.inl rfl) ?_)
    ((conv=>whnf);refine CE (i+1) ⟨ω,by rw[b];simp only;omega⟩ ω ?_)
    rw[b];exact wC
   have d:tF (stN w.Y i).1=false:=by unfold tF;rw[c,T0 g];rfl
   have a:∀k,stN w.Y (i+k)=stN w.Y i:=λk=>by
    induction k with
    | zero=>rfl
    | succ k j=>show(if tF (stN w.Y (i+k)).1=true then _ else stN w.Y (i+k))=_;rw[j,d,C8 (by simp)]
   have e:=a (n - i);rw[show i+(n - i)=n by omega]at e;rw[e];generalize stN w.Y i=s at *
   repeat'(first|refine gD ?_|(conv=>whnf);first|refine CB ?_|refine Bf.f (T0 g) ?_|refine Bf.t c ?_)
   refine CG rfl rfl ?_;exact wC
  | false=>
   have d:tF (stN w.Y i).1=false:=by unfold tF;rw[c];rfl
   have a:∀k,stN w.Y (i+k)=stN w.Y i:=λk=>by
    induction k with
    | zero=>rfl
    | succ k j=>show(if tF (stN w.Y (i+k)).1=true then _ else stN w.Y (i+k))=_;rw[j,d,C8 (by simp)]
   have e:=a (n - i);rw[show i+(n - i)=n by omega]at e;rw[e];generalize stN w.Y i=s at *
   repeat'(first|refine gD ?_|(conv=>whnf);first|refine CB ?_|refine Bf.f c ?_)
   refine CG rfl rfl ?_;exact wC
 obtain rfl:i=n:=ω
 repeat'(first|refine gD ?_|(conv=>whnf);first|refine CB ?_)
 refine CG rfl rfl ?_;exact wC
theorem FS{k:ah}(a:a8 k=true):(a8 k&&decide (k.Calls<100000))=decide (k.Calls≠100000):=by
 have:=(aE.1 a).2.2.2.2;rw[a,Bool.true_and,O4,C0,C0];omega
theorem x8(w:bo)(a:eE)(m:Nat)(h:rz w m)(B:a.b6=5\/a.b6=6\/a.b6=7):aS Tryz.prog 454 false [.ptr (qI w),.val (some 5) (eE.enc .V a)] [.ptr (qI ⟨(fU w.Y a).1,w.b5⟩),.val (some 5) (eE.enc .V a)] .one [I (fU w.Y a).2]:=by
 have d:=h.inv;have o:=d.nc;have p:w.Y.S.length<=4:=by have:=(dH.1 d.mail).1.2.1;omega
 have C:=lB.of d.mail;have i:=lP w.Y.G (bP d.ker);rw[FS d.ker]at i;have j:=aH a.a4 0 (w.Y.S.length - 1:Int);unfold fU;refine fM 59 [(534,[2,0]),(433,[2,0])] [(3,267,[15,16,17,18,19,20,21,14,22,23,6,0,1,2,3,4,5,6,7,8,9,10,11,1009,12]),(8,15,[30,31,32,33,34,35,36,37,38,39,40,41,42,43,44])] [(0,0),(0,0)] Tryz.func454 rfl (λu q=>?_);by_cases l:a.b6=5
 ·rw[C9 l]
  by_cases e:0<=a.a4/\a.a4<=w.Y.S.length - 1
  ·have y:mZ w.Y a:=e
   obtain⟨t,g⟩:=U2 e.1;have b:=Dv w.Y.q t d.mail ω;rw[<-g]at b;rw[g]at e |-;simp only[R2];rw[g]at b;by_cases c:0<(nth w.Y.q.U t).length
   ·rw[C9 (show mZ w.Y a/\0<(nth w.Y.q.U t).length from⟨y,c⟩)]
    rw[C9 c,O0 c]at b;rw[<-g]at b
    repeat'(first|refine gA ?_|(conv=>whnf);first|with_reducible refine Bf.E (λk=>?_) (λk=>?_)|refine CB ?_|refine CH (b) ⟨⟨rfl,aL.enc_fz w.Y.q⟩,⟨rfl,rfl⟩,trivial⟩ ?_|refine CB ?_)
    refine CG rfl rfl ?_;exact wC
   rw[C8 (show ¬(mZ w.Y a/\0<(nth w.Y.q.U t).length) from λx=>c x.2)];rw[C8 c,T0 c]at b;rw[<-g]at b
   repeat'(first|refine gA ?_|(conv=>whnf);first|with_reducible refine Bf.E (λk=>?_) (λk=>?_)|refine CB ?_|refine CH (b) ⟨⟨rfl,aL.enc_fz w.Y.q⟩,⟨rfl,rfl⟩,trivial⟩ ?_|refine CB ?_)
   refine CG rfl rfl ?_;exact wC
  rw[C8 (show ¬(mZ w.Y a/\0<(nth w.Y.q.U a.a4.toNat).length) from λx=>e x.1)];have b:=Gi w.Y.q a.a4 d.mail ω
  repeat'(first|refine gA ?_|(conv=>whnf);first|with_reducible refine Bf.E (λk=>?_) (λk=>?_)|refine CB ?_|refine CH (b) ⟨⟨rfl,aL.enc_fz w.Y.q⟩,⟨rfl,rfl⟩,trivial⟩ ?_|refine CB ?_)
  refine CG rfl rfl ?_;exact wC
 rw[C8 l];by_cases e:w.Y.G.Calls≠100000;rotate_left
 ·rw[C9 (show ¬(w.Y.G.Calls≠100000/\mZ w.Y a) from λx=>e x.1)]
  rw[T0 e]at i
  repeat'(first|refine gA ?_|(conv=>whnf);first|refine CB ?_|refine CH (i) ⟨⟨rfl,CR _⟩,trivial⟩ ?_|refine CB ?_)
  refine CG rfl rfl ?_;exact wC
 rw[O0 e]at i;by_cases c:0<=a.a4/\a.a4<=w.Y.S.length - 1;rotate_left
 ·rw[C9 (show ¬(w.Y.G.Calls≠100000/\mZ w.Y a) from λx=>c x.2)]
  rw[T0 c]at j
  repeat'(first|refine gA ?_|(conv=>whnf);first|refine CB ?_|refine CH (i) ⟨⟨rfl,CR _⟩,trivial⟩ ?_|refine C7 (j) ?_|refine CB ?_)
  refine CG rfl rfl ?_;exact wC
 rw[C8 (show ¬¬(w.Y.G.Calls≠100000/\mZ w.Y a) from X3 ⟨e,c⟩)];rw[O0 c]at j;obtain⟨t,g⟩:=U2 c.1;by_cases n:a.b6=6
 ·rw[C9 n]
  have b:=(uX w.Y t d ω).frame (r:=ay.enc .V w.b5) ((cW _).trans (cW _).symm);rw[show a.a4.toNat=t by omega];rw[<-g]at b
  repeat'(first|refine gA ?_|(conv=>whnf);first|refine CB ?_|refine CH (i) ⟨⟨rfl,CR _⟩,trivial⟩ ?_|refine C7 (j) ?_|refine CK (b) (.inl rfl) ?_|refine CB ?_)
  refine CG rfl rfl ?_;exact wC
 rw[C8 n];have b:=(y8 w.Y t d ω).frame (r:=ay.enc .V w.b5) ((cW _).trans (cW _).symm);rw[show a.a4.toNat=t by omega];rw[<-g]at b
 repeat'(first|refine gA ?_|(conv=>whnf);first|refine CB ?_|refine CH (i) ⟨⟨rfl,CR _⟩,trivial⟩ ?_|refine C7 (j) ?_|refine CK (b) (.inl rfl) ?_|refine CB ?_)
 refine CG rfl rfl ?_;exact wC
theorem xp(w:bo)(a:eE)(i m:Nat)(h:rz w m)(X:m<=900)(G:Lc a)(t:i<w.Y.O.length):aS Tryz.prog 453 false [.ptr (qI w),.val (some 5) (eE.enc .V a),.val none [I (i:Nat)]] [.ptr (qI (mY w a i).1),.val (some 5) (eE.enc .V a),.val none [I (i:Nat)]] .one [I (mY w a i).2]:=by
 have e:=h.inv;have b:=ao t;have M:=tJ e (am t);have N:=cI e (am t) (k:=0);have O:1<=(nth w.Y.O i).o/\(nth w.Y.O i).o<=1000:=by
  rcases e.oow _ (am t) with⟨s,P,Y,Z⟩|⟨l,H,d,c⟩
  ·have hc:=aB (e.L.sok s P)
   have:=ik (n:=(nth w.Y.O i).o) ω;omega
  have h8:=cK (e.L.lok l H);omega
 have g:=lP w.Y.G (bP e.ker);rw[FS e.ker]at g;have Q:=G.k;have R:=G.p;have S:=G.v;unfold mY;refine fM 126 [(527,[2,0,0]),(529,[2,0,0]),(531,[2,0,0])] [(6,7,[29,30,31,32,33,34,35]),(8,269,[40,41,42,43,44,45,46,47,39,48,49,50,51,0,1,2,3,4,5,6,7,8,9,10,11,12,13,1010]),(13,10,[62,63,64,65,66,67,68,69,70,71]),(15,273,[76,77,78,79,80,81,82,83,84,85,86,87,75,88,89,90,91,0,1,2,3,4,5,6,7,8,9,10,11,12,13,14,15,16,17,1014]),(17,15,[93,94,95,96,97,98,99,100,101,102,103,104,105,106,107]),(19,271,[112,113,114,115,116,117,118,119,120,121,111,122,123,124,125,0,1,2,3,4,5,6,7,8,9,10,11,12,13,14,15,1012])] [(0,0),(0,0),(0,0)] Tryz.func453 rfl (λu q=>?_);by_cases J:a.b6=2
 ·rw[C9 J]
  unfold ro;by_cases d:w.Y.G.Calls=100000
  ·rw[C9 d]
   rw[T0 (X3 d)]at g
   repeat'(first|refine gA ?_|(conv=>whnf);first|with_reducible refine CD (aa b) ?_|refine CB ?_|refine CH (g) ⟨⟨rfl,CR _⟩,trivial⟩ ?_|refine CJ rfl (aa b) rfl ?_|refine CB ?_)
   refine CG rfl rfl ?_;exact wC
  rw[C8 d];rw[O0 d]at g;have C:=(Pd w.Y i a.a4 e t).frame (r:=ay.enc .V w.b5) ((cW _).trans (cW _).symm);by_cases c:0<=a.a4/\a.a4<=w.Y.S.length - 1
  ·rw[C9 (show mZ w.Y a from c)]
   rw[C9 c,C9 c]at C;have T:=AA w.b5 (nth w.Y.O i).Id m h.ref ω;generalize freeT w.Y a.a4.toNat i=f at C |-;by_cases o:f.2=0
   ·rw[C9 o]
    repeat'(first|refine gA ?_|(conv=>whnf);first|with_reducible (first|refine CD (aa b) ?_|refine Bf.E (λj=>?_) (λj=>?_))|refine CB ?_|refine CH (g) ⟨⟨rfl,CR _⟩,trivial⟩ ?_|refine CJ rfl (aa b) rfl ?_|refine CK (C) (.inl rfl) ?_|refine Cl.sh T rfl ?_|refine CB ?_)
    refine CG rfl rfl ?_;exact wC
   rw[C8 o]
   repeat'(first|refine gA ?_|(conv=>whnf);first|with_reducible (first|refine CD (aa b) ?_|refine Bf.E (λj=>?_) (λj=>?_))|refine CB ?_|refine CH (g) ⟨⟨rfl,CR _⟩,trivial⟩ ?_|refine CJ rfl (aa b) rfl ?_|refine CK (C) (.inl rfl) ?_|refine CB ?_)
   refine CG rfl rfl ?_;exact wC
  rw[C8 (show ¬mZ w.Y a from c)];rw[C8 c,C8 c]at C
  repeat'(first|refine gA ?_|(conv=>whnf);first|with_reducible (first|refine CD (aa b) ?_|refine Bf.E (λj=>?_) (λj=>?_))|refine CB ?_|refine CH (g) ⟨⟨rfl,CR _⟩,trivial⟩ ?_|refine CJ rfl (aa b) rfl ?_|refine CK (C) (.inl rfl) ?_|refine CB ?_)
  refine CG rfl rfl ?_;exact wC
 rw[C8 J];by_cases K:a.b6=3
 ·rw[C9 K]
  unfold oP;have D:=aH a.At 0 ((nth w.Y.O i).o - 1);by_cases d:0<=a.At/\a.At<=(nth w.Y.O i).o - 1;rotate_left
  ·rw[C9 d]
   rw[T0 d]at D
   repeat'(first|refine gA ?_|(conv=>whnf);first|with_reducible (first|refine CD (aa b) ?_|refine Bf.E (λj=>?_) (λj=>?_))|refine CB ?_|refine CJ rfl (aa b) rfl ?_|refine C7 (D) ?_|refine CB ?_)
   refine CG rfl rfl ?_;exact wC
  rw[C8 (X3 d)];rw[O0 d]at D;have F:=(yx w.Y i a.At a.Value e t d).frame (r:=ay.enc .V w.b5) (by split<;>rfl);have U:=cI e (am t) d;by_cases c:(ac w.Y.G.F.R (((nth w.Y.O i).Addr+a.At) / 16)).e=1
  ·rw[C9 c]
   rw[C9 (.inl c),C9 c]at F
   repeat'(first|refine gA ?_|(conv=>whnf);first|with_reducible (first|refine CD (aa b) ?_|refine Bf.E (λj=>?_) (λj=>?_))|refine CB ?_|refine CJ rfl (aa b) rfl ?_|refine C7 (D) ?_|refine CK (F) (.inl rfl) ?_|refine CB ?_)
   refine CG rfl rfl ?_;exact wC
  rw[C8 c];by_cases o:0<=a.Value/\a.Value<=999;rotate_left
  ·rw[C9 o]
   rw[C9 (.inr o),C8 c,C9 o]at F
   repeat'(first|refine gA ?_|(conv=>whnf);first|with_reducible (first|refine CD (aa b) ?_|refine Bf.E (λj=>?_) (λj=>?_))|refine CB ?_|refine CJ rfl (aa b) rfl ?_|refine C7 (D) ?_|refine CK (F) (.inl rfl) ?_|refine CB ?_)
   refine CG rfl rfl ?_;exact wC
  rw[C8 (X3 o)];rw[C8 (λx=>x.elim c λy=>y o),C8 c,C8 (X3 o)]at F;obtain⟨b5,V⟩:=BA w.b5 (nth w.Y.O i).Id a.At a.Value m h.ref ω o
  repeat'(first|refine gA ?_|(conv=>whnf);first|with_reducible (first|refine CD (aa b) ?_|refine Bf.E (λj=>?_) (λj=>?_))|refine CB ?_|refine CJ rfl (aa b) rfl ?_|refine C7 (D) ?_|refine CK (F) (.inl rfl) ?_|refine C7 (V) ?_|refine CB ?_)
  refine CG rfl rfl ?_;exact wC
 rw[C8 K];unfold rL;by_cases d:w.Y.G.Calls=100000
 ·rw[C8 (λx=>x.1 d)]
  rw[T0 (X3 d)]at g
  repeat'(first|refine gA ?_|(conv=>whnf);first|with_reducible refine CD (aa b) ?_|refine CB ?_|refine CH (g) ⟨⟨rfl,CR _⟩,trivial⟩ ?_|refine CJ rfl (aa b) rfl ?_|refine CB ?_)
  refine CG rfl rfl ?_;exact wC
 rw[O0 d]at g;by_cases c:lD w.Y i a.Value
 ·rw[C9 ⟨d,c⟩]
  have B:=(rJ w.Y i a.Value e t c.1).frame (r:=ay.enc .V w.b5) (by split<;>rfl);rw[C9 c,O0 c]at B;obtain⟨b7,W⟩:=Er w.b5 (nth w.Y.O i).Id a.Value m h.ref ω
  repeat'(first|refine gA ?_|(conv=>whnf);first|with_reducible refine CD (aa b) ?_|refine CB ?_|refine CH (g) ⟨⟨rfl,CR _⟩,trivial⟩ ?_|refine CJ rfl (aa b) rfl ?_|refine CK (B) (.inl rfl) ?_|refine C7 (W) ?_|refine CB ?_)
  refine CG rfl rfl ?_;exact wC
 rw[C8 (λx=>c x.2)];by_cases o:yC w.Y (nth w.Y.O i).Addr<0
 ·have B:=(FW w.Y (nth w.Y.O i).Addr a.Value (by have:=e.lens.larges;omega) e.L.lok o).frame (r:=ay.enc .V w.b5) ((cW _).trans (cW _).symm)
  repeat'(first|refine gA ?_|(conv=>whnf);first|with_reducible refine CD (aa b) ?_|refine CB ?_|refine CH (g) ⟨⟨rfl,CR _⟩,trivial⟩ ?_|refine CJ rfl (aa b) rfl ?_|refine CK (B) (.inl rfl) ?_|refine CB ?_)
  refine CG rfl rfl ?_;exact wC
 have B:=(rJ w.Y i a.Value e t ω).frame (r:=ay.enc .V w.b5) (by split<;>rfl);rw[C8 c,T0 c]at B
 repeat'(first|refine gA ?_|(conv=>whnf);first|with_reducible refine CD (aa b) ?_|refine CB ?_|refine CH (g) ⟨⟨rfl,CR _⟩,trivial⟩ ?_|refine CJ rfl (aa b) rfl ?_|refine CK (B) (.inl rfl) ?_|refine CB ?_)
 refine CG rfl rfl ?_;exact wC
theorem rz.fit{w:bo}{m:Nat}(h:rz w m)(a:jo w.Y.G.y):ab.sml w.Y/\ab.wf w.Y:=
 ⟨(h.inv.fit a (lB.of h.inv.mail).sml).sml,h.inv.wf a⟩
theorem Gz(w:bo)(a:eE)(m:Nat)(h:rz w m)(K:m<=900)(L:jo w.Y.G.y)(p:Lc a):aS Tryz.prog 343 false [.ptr (qI w),.val (some 5) (eE.enc .V a)] [.ptr (qI (o9 w a).1),.val (some 5) (eE.enc .V a)] .one [I (o9 w a).2]:=by
 have i:=h.inv;have M:=p.k;have O:=p.n;have j:=i.nums;unfold cn at j;rw[C0]at j;unfold o9;refine fM 123 [(71,[2,0,0]),(452,[2,0]),(453,[2,0,0]),(454,[2,0]),(456,[2,0]),(130,[2]),(457,[2,0])] [(3,265,[13,14,15,16,17,18,19,21,22,0,1,2,3,4,5,6,7,8,9,10,11,1010,12]),(5,269,[26,27,28,29,30,31,32,33,25,34,35,36,37,0,1,2,3,4,5,6,7,8,9,10,11,12,13,1010]),(19,21,[62,63,64,65,66,67,68,69,70,71,72,73,74,75,76,77,78,79,80,81,82]),(21,5,[86,87,88,89,90])] [(0,0),(0,0)] Tryz.func343 rfl (λu q=>?_);by_cases F:a.b6=1
 ·rw[C9 F]
  have c:=(yu w.Y a.a4 a.N i).frame (r:=ay.enc .V w.b5) ((cW _).trans (cW _).symm);by_cases e:(allocH w.Y a.a4 a.N).2.2=0
  ·rw[C9 e]
   have y:1<=a.N/\a.N<=1000:=by
    refine Classical.byContradiction λB=>?_
    unfold allocH at e;rw[C9 B]at e;split at e
    ·exact absurd (show(5:Int)=0 from e) (by decide)
    split at e
    ·exact absurd (show(1:Int)=0 from e) (by decide)
    exact absurd (show(2:Int)=0 from e) (by decide)
   have o:=yj w.b5 a.N m h.ref ω y;generalize allocH w.Y a.a4 a.N=f at c e |-
   repeat'(first|refine gA ?_|(conv=>whnf);first|with_reducible refine Bf.E (λb=>?_) (λb=>?_)|refine CB ?_|refine CK (c) (.inl rfl) ?_|refine C7 (o) ?_|refine CB ?_)
   refine CG rfl rfl ?_;exact wC
  rw[C8 e];generalize allocH w.Y a.a4 a.N=f at c e |-
  repeat'(first|refine gA ?_|(conv=>whnf);first|with_reducible refine Bf.E (λb=>?_) (λb=>?_)|refine CB ?_|refine CK (c) (.inl rfl) ?_|refine CB ?_)
  refine CG rfl rfl ?_;exact wC
 rw[C8 F];by_cases G:a.b6=2\/a.b6=3\/a.b6=4
 ·rw[C9 G]
  have c:=BO w a.N (by have:=i.lens.objs;omega);by_cases e:qr w.Y a.N<0
  ·rw[C9 e]
   repeat'(first|refine gA ?_|(conv=>whnf);first|with_reducible refine Bf.E (λb=>?_) (λb=>?_)|refine CB ?_|refine CK (c) (.inl rfl) ?_)
   all_goals first|omega|skip
   all_goals
    refine CG rfl rfl ?_;exact wC
  rw[C8 e];obtain⟨P,S,T⟩:=fp (Kv a.N) w.Y.O (by unfold qr at e;omega);have o:=xp w a (qr w.Y a.N).toNat m h K p P;rw[show(((qr w.Y a.N).toNat:Nat):Int)=qr w.Y a.N by omega]at o
  repeat'(first|refine gA ?_|(conv=>whnf);first|with_reducible refine Bf.E (λb=>?_) (λb=>?_)|refine CB ?_|refine CK (c) (.inl rfl) ?_|refine CK (o) (.inl rfl) ?_)
  all_goals first|omega|skip
  all_goals
   refine CG rfl rfl ?_;exact wC
 rw[C8 G];by_cases C:a.b6=5\/a.b6=6\/a.b6=7
 ·rw[C9 C]
  have c:=x8 w a m h C
  repeat'(first|refine gA ?_|(conv=>whnf);first|with_reducible refine Bf.E (λb=>?_) (λb=>?_)|refine CB ?_|refine CK (c) (.inl rfl) ?_)
  all_goals first|omega|skip
  all_goals
   refine CG rfl rfl ?_;exact wC
 rw[C8 C];by_cases H:a.b6=8
 ·rw[C9 H]
  unfold pL;have d:=lP w.Y.G (bP i.ker);rw[FS i.ker]at d;have c:=aH a.N 0 1000;by_cases g:w.Y.G.Calls≠100000;rotate_left
  ·rw[C8 (λx=>g x.1)]
   rw[T0 g]at d
   repeat'(first|refine gA ?_|(conv=>whnf);first|with_reducible refine Bf.E (λb=>?_) (λb=>?_)|refine CB ?_|refine CH (d) ⟨⟨rfl,CR _⟩,trivial⟩ ?_|refine CB ?_)
   refine CG rfl rfl ?_;exact wC
  rw[O0 g]at d;by_cases l:0<=a.N/\a.N<=1000;rotate_left
  ·rw[C8 (λx=>l x.2.1)]
   rw[T0 l]at c
   repeat'(first|refine gA ?_|(conv=>whnf);first|with_reducible refine Bf.E (λb=>?_) (λb=>?_)|refine CB ?_|refine CH (d) ⟨⟨rfl,CR _⟩,trivial⟩ ?_|refine C7 (c) ?_|refine CB ?_)
   refine CG rfl rfl ?_;exact wC
  rw[O0 l]at c;by_cases D:w.Y.b3+a.N<=1000000
  ·rw[C9 ⟨g,l,D⟩]
   have o:=(Bx w.Y a.N i l D).frame (r:=ay.enc .V w.b5) ((cW _).trans (cW _).symm)
   repeat'(first|refine gA ?_|(conv=>whnf);first|with_reducible refine Bf.E (λb=>?_) (λb=>?_)|refine CB ?_|refine CH (d) ⟨⟨rfl,CR _⟩,trivial⟩ ?_|refine C7 (c) ?_|refine CK (o) (.inl rfl) ?_|refine CB ?_)
   refine CG rfl rfl ?_;exact wC
  rw[C8 (λx=>D x.2.2)]
  repeat'(first|refine gA ?_|(conv=>whnf);first|with_reducible refine Bf.E (λb=>?_) (λb=>?_)|refine CB ?_|refine CH (d) ⟨⟨rfl,CR _⟩,trivial⟩ ?_|refine C7 (c) ?_|refine CB ?_)
  refine CG rfl rfl ?_;exact wC
 rw[C8 H];by_cases J:a.b6=9
 ·rw[C9 J]
  unfold pF;obtain⟨Q,R⟩:=h.fit L;have d:=DI w.Y Q R;rw[show dM w.Y=true from i.to]at d;cases g:w.Y.u with
  | true=>
   rw[C9 rfl]
   repeat'(first|refine gA ?_|(conv=>whnf);first|with_reducible refine Bf.E (λb=>?_) (λb=>?_)|refine CB ?_|refine Bf.t g ?_|refine CB ?_)
   refine CG rfl rfl ?_;exact wC
  | false=>
   rw[C8 (by simp)];have c:=(yh w.Y i).frame (r:=ay.enc .V w.b5) ((cW _).trans (cW _).symm);cases l:(started w.Y).2<;>rw[l]at c
   ·rw[C8 (by simp)]
    repeat'(first|refine gA ?_|(conv=>whnf);first|with_reducible refine Bf.E (λb=>?_) (λb=>?_)|refine CB ?_|refine Bf.f g ?_|refine CH (d) ⟨⟨rfl,bG w.Y⟩,trivial⟩ ?_|refine CK (c) (.inl rfl) ?_|refine CB ?_)
    refine CG rfl rfl ?_;exact wC
   rw[C9 rfl]
   repeat'(first|refine gA ?_|(conv=>whnf);first|with_reducible refine Bf.E (λb=>?_) (λb=>?_)|refine CB ?_|refine Bf.f g ?_|refine CH (d) ⟨⟨rfl,bG w.Y⟩,trivial⟩ ?_|refine CK (c) (.inl rfl) ?_|refine CB ?_)
   refine CG rfl rfl ?_;exact wC
 rw[C8 J];have k10:a.b6=10:=ω
 have d:=aH a.N 0 50;by_cases g:0<=a.N/\a.N<=50
 ·rw[C9 ⟨k10,g⟩]
  rw[O0 g]at d;obtain⟨n,B⟩:=U2 g.1;have c:=yr w m n h ω;rw[show a.N.toNat=n by omega];rw[<-B]at c
  repeat'(first|refine gA ?_|(conv=>whnf);first|with_reducible refine Bf.E (λb=>?_) (λb=>?_)|refine CB ?_|refine C7 (d) ?_|refine CK (c) (.inl rfl) ?_|refine CB ?_)
  refine CG rfl rfl ?_;exact wC
 rw[C8 (λx=>g x.2)];rw[T0 g]at d
 repeat'(first|refine gA ?_|(conv=>whnf);first|with_reducible refine Bf.E (λb=>?_) (λb=>?_)|refine CB ?_|refine C7 (d) ?_|refine CB ?_)
 refine CG rfl rfl ?_;exact wC
theorem Bb(w:bo)(h1:ab.sml w.Y)(a:ay.sml w.b5):ar Tryz.prog 344 false [.val (some 26) (bo.enc .V w)] .agg (bo.enc .own w):=by
 have b:=A9 w.Y h1;have c:=eg w.b5 a;refine fO 10 [(1,5,[3,4,5,6,7])] Tryz.func344 rfl ?_ (.inr (bo.enc_fr _))
 repeat'(first|refine gO ?_|(conv=>whnf);first|refine C7 (b) ?_|refine C7 (c) ?_|refine CB ?_)
 rfl
theorem Ah(c:cE)(acts:List eE)(h:Fw c)(d:jo c.y)(n:∀a∈acts,Lc a)(D:acts.length<=80):ar Tryz.prog 192 false [.val (some 5) (cE.enc .V c),.val none (pk .V acts)] (.tup [some 26,none]) (bo.enc .own (AX c acts acts.length).1++aG .own (AX c acts acts.length).2):=by
 have o:=yA c h;refine fP 42 [(343,[2,0]),(2000005,[6,21,25])] [] Tryz.func192 rfl ?_ (.inr (bf (bo.enc_fr _) (bM _)))
 repeat'(first|refine gD ?_|(conv=>whnf);first|refine C7 (o) ?_|refine FH.mk rfl rfl rfl ?_)
 (conv=>whnf)
 refine CF (ι:=Nat) (λi=>[(1,.H .one (pk .V acts)),(4,.H .box [.z,.z,.z,I 0,.z,.z,.z,.z,.z,.z,.z,.z,I 0,.z,I 0,I 0,I 0,I 0,B false,I 0,I 0,.z,I 0,I 0,I 0,.z]),(6,.H .box (qI (AX c acts i).1)),(8,.H .one (aG .own (AX c acts i).2)),(9,.H .one [I ((i:Nat):Int)])]) (λi=>i<=acts.length) (λi=>acts.length - i) (0) ?_ (U0 _) λi p=>?_
 ·repeat'(first|exact trivial|rfl |exact o7 q|exact eJ _|refine CL ?_ ?_|(exact E4 (by first|omega|(simp only;omega)|(simp;omega))))
 have e:=vS h acts i;have b:=Gx h acts i;have g:(AX c acts i).2.length=i:=by
  clear e b p
  induction i with
  | zero=>rfl
  | succ k t=>show((AX c acts k).2++[_]).length=_;rw[z3,t];rfl
 by_cases j:i<acts.length
 ·have l:=ao j
  have u:=Gz (AX c acts i).1 (nth acts i) i e ω (by unfold rfs at b;rw[b];exact d) (n _ (am j))
  repeat'(first|refine gD ?_|(conv=>whnf);first|with_reducible refine CD (aa l) ?_|refine CJ rfl (aa l) rfl ?_|refine CK (u) (.inl rfl) ?_|refine CT cA (λr d=>by rw[I1.1 d];rfl) (by simp[aW,dP]) (by simp;omega) (by simp only[Z0];exact xY (by simp;omega) (by decide)) rfl ?_)
  ((conv=>whnf);refine CE (i+1) ω ω ?_)
  repeat'(first|exact trivial|rfl| exact eJ _ |exact CL rfl (CL (W0 (C.s dI.own) (by simp[AX,rI])) trivial)|refine CL ?_ ?_|(exact E4 (by first|omega|(simp only;omega)|(simp;omega))))
 obtain rfl:i=acts.length:=ω
 have w:=e.fit (by unfold rfs at b;rw[b];exact d);have y:=Bb (AX c acts acts.length).1 w.1 (e.ref.sml ω)
 repeat'(first|refine gD ?_|(conv=>whnf);first|refine CH (y) ⟨⟨rfl,Nl _⟩,trivial⟩ ?_)
 rfl
theorem Df(zs:List Int)(c:iA):jo (qf zs c).y:=by
 show jo (pp zs 4 0 [] (AH zs c).2).1;have key:∀(f i:Nat)(out:List Int)(c:iA),(∀x∈out,mI x)->∀x∈(pp zs f i out c).1,mI x:=by
  intro f
  induction f with
  | zero=>intro i out c h;exact h
  | succ f b=>
   intro i out c h;unfold pp;split
   ·refine b _ _ _ λx a=>?_
    rcases W2.1 a with a|a
    ·exact h x a
    rw[I1.1 a];have:=bK zs (bw zs c 4).2 (n:=12) (by decide);exact⟨ω,ω⟩
   exact h
 exact⟨by
   have d:∀(f i:Nat)(out:List Int)(c:iA),out.length+f<=4->(pp zs f i out c).1.length<=4:=by
     intro f
     induction f with
     | zero=>intro i out c h;exact h
     | succ f b=>
       intro i out c h;unfold pp;split
       · exact b _ _ _ (by simp only[z3,List.length_singleton];omega)
       show out.length<=4;omega
   have:=d 4 0 [] (AH zs c).2 (X2 _);omega,key 4 0 [] _ (λx a=>by cases a)⟩
theorem ym(zs:List Int)(a:jR zs):aS Tryz.prog 56 false [.ptr (i9 zs (vp zs))] [.ptr (i9 zs (nL zs (fF zs)).2)] .agg (bo.enc .own (drawn zs)):=by
 have b:(vp zs).i<=zs.length:=U0 _;obtain⟨g,d⟩:=rG b;have o:=bK zs (fF zs) (n:=41) (by decide);obtain⟨p,h,-⟩:=rp (zs:=zs) (c:=fF zs) d (n:=(bw zs (fF zs) 41).1.toNat) ω;have e:=wd zs (vp zs) a b;have j:=BC zs (fF zs) a d;have k:=Ah (qf zs (vp zs)) (nL zs (fF zs)).1 g (Df zs _) h (by show(lN zs (fF zs) _).1.length<=80;omega);have l:drawn zs=(AX (qf zs (vp zs)) (nL zs (fF zs)).1 (nL zs (fF zs)).1.length).1:=rfl;rw[l];change aS _ _ _ _ [.ptr (i9 zs (fF zs))] _ _ at e;generalize qf zs (vp zs)=cf at *;generalize r:nL zs (fF zs)=A at *;generalize t:AX cf A.1 A.1.length=R at *;refine fM 14 [(193,[2]),(194,[2,0])] [] [(0,0)] Tryz.func56 rfl (λu q=>?_) (.inr (bo.enc_fr _))
 repeat'(first|refine gO ?_|(conv=>whnf);first|refine CK (e) (.inl rfl) ?_|refine CK (j) (.inl rfl) ?_|refine CH (k) ⟨⟨rfl,cE.enc_fz _⟩,⟨rfl,Jn _⟩,trivial⟩ ?_)
 refine CG rfl rfl ?_;exact wC
def QL(z:List Int):List C:=[.s .V (z.map rU)]
theorem DZ(zs:List Int)(b:jR zs):qW Tryz.prog 57 true [.val none (QL zs)] .box (i9 zs (vp zs)):=by
 have r:=b.1;have e:IntKind.i64.wrap (98801+(zs.length:Nat))=w64 (98801+(zs.length:Nat)):=rfl;have g:pQ zs 0=98801+(zs.length:Nat):=by show w64 _=_;rw[<-e];exact eQ ω ω
 have a:=W0 I g;refine QC (n:=32) (t:=2) (mo:=[]) (tb:=[]) Tryz.func57 (by kernel_rfl) rfl (by kernel_rfl) (by rfl) rfl ?_
 repeat'(first|refine gO ?_|fail)
 (conv=>whnf)
 refine CF (ι:=Nat) (λi=>[(0,.H .one (QL zs)),(3,.H .one [I (pQ zs i)]),(4,.H .one [I ((i:Nat):Int)])]) (λi=>i<=min zs.length 4000) (λi=>min zs.length 4000 - i) (0) ?_ (U0 _) λi u=>?_
 ·repeat'(first|exact trivial|rfl |exact o7 a|exact eJ _|refine CL ?_ ?_|(exact E4 (by first|omega|(simp only;omega)|(simp;omega))))
 have h:IntKind.i64.wrap (pQ zs i*131)=w64 (pQ zs i*131):=rfl;have j:IntKind.i64.wrap (w64 (pQ zs i*131)+nth zs i)=w64 (w64 (pQ zs i*131)+nth zs i):=rfl;have k:IntKind.i64.wrap (w64 (w64 (pQ zs i*131)+nth zs i)+7)=w64 (w64 (w64 (pQ zs i*131)+nth zs i)+7):=rfl;have l:IntKind.i64.wrap (BitVec.ofInt IntKind.i64.bits (w64 (w64 (w64 (pQ zs i*131)+nth zs i)+7)) &&& BitVec.ofInt IntKind.i64.bits 1073741823).toNat=pQ zs (i+1):=rfl;by_cases c:i<zs.length/\i<4000
 ·have d:=ao c.1
  have w:=b.2 _ (am c.1);generalize pQ zs i=H at *;generalize o:pQ zs (i+1)=H2 at *
  repeat'(first|refine gD ?_|(conv=>whnf);first|with_reducible (first|refine CD (aa d) ?_|refine CM h ?_|refine CM j ?_|refine CM k ?_|refine CM l ?_)|refine CJ rfl (aa d) rfl ?_)
  ((conv=>whnf);refine CE (i+1) ω ω ?_)
  rw[o];exact wC
 obtain rfl:i=min zs.length 4000:=ω
 have p:vp zs = ⟨0,pQ zs (min zs.length 4000)⟩:=rfl;rw[p];generalize pQ zs (min zs.length 4000)=H at *
 repeat'(first|refine gD ?_|(conv=>whnf);first|with_reducible refine Bf.D (λq=>?_) (λq=>?_))
 all_goals rfl
theorem xC(zs:List Int)(a:jR zs):ar Tryz.prog 16 false [.val none (QL zs)] .agg (bo.enc .own (drawn zs)):=by
 have b:=DZ zs a;have c:=ym zs a;refine fP 6 [(56,[2])] [] Tryz.func16 rfl ?_ (.inr (bo.enc_fr _))
 repeat'(first|refine gO ?_|(conv=>whnf);first|refine Cl.g b (.inr rfl) ?_|refine CK (c) (.inl rfl) ?_)
 rfl
set_option maxHeartbeats 2000000
set_option maxHeartbeats 2000000
set_option maxHeartbeats 2000000
set_option maxHeartbeats 2000000
set_option maxHeartbeats 2000000
set_option maxHeartbeats 2000000
theorem KE(zs:List Int):jo (drawn zs).Y.G.y:=by
 have a:(vp zs).i<=zs.length:=U0 _;have:=Gx (rG a).1 (nL zs (fF zs)).1 (nL zs (fF zs)).1.length;unfold rfs at this;show jo (AX _ _ _).1.Y.G.y;rw[this];exact Df zs _
theorem HC(zs:List Int):ab.sml (drawn zs).Y/\ab.wf (drawn zs).Y:=(Dj zs).fit (KE zs)
theorem Qi(zs:List Int)(a:zs.length<=9223372036854775807):ar Tryz.prog 15 false [.val none (QL zs)] .one [B (decide ((zs.length:Int) > 1048576))]:=by
 refine fO 6 [] Tryz.func15 rfl ?_
 repeat'(first|refine gO ?_|fail)
 rfl
def cl(k:ah)(f c:Nat):Int:=nth (nth k.F.W.T f) c
structure At(k:ah)(a:Int)(f c:Nat):Prop where
 m:(ac k.F.R (a / 16)).e≠0
 f:(ac k.F.R (a / 16)).j=f
 c:a % 16=c
theorem At.cell{k:ah}{a:Int}{f c:Nat}(h:At k a f c):f7 k a=cl k f c:=by
 unfold f7 cl;rw[h.f,h.c,R2,R2]
theorem At.mk'{k:ah}(c:a8 k=true){a:Int}(b:(ac k.F.R (a / 16)).e≠0):At k a (cN k a) (a % 16).toNat:=by
 obtain⟨-,-,-,d,-⟩:=ce c b;exact⟨b,by unfold cN;omega,ω⟩
theorem At.uniq{k:ah}{a:Int}{f c b d:Nat}(h:At k a f c)(h':At k a b d):f=b/\c=d:=by
 have e:=h.f;have g:=h'.f;have i:=h.c;have j:=h'.c;omega
def La(h:ab)(a:Int)(f c:Nat):Prop:=
 (∃s∈h.K,ew s a/\(ac (tbl h) s.Q).j=f/\(c:Int) / csz s.a=d3 s a/\c<16)\/
 ∃l∈h.M,a=16*l.Q/\∃b:Int,16*l.Q<=b/\b<16*(l.Q+l.a2)/\At h.G b f c
theorem aZ.pe{h:ab}{E:List Int}(a:aZ h E){s:ax}(b:s∈h.K):ac (tbl h) s.Q=nth (tbl h).J s.Q.toNat:=by
 obtain⟨c,d,-⟩:=a.mapped b;unfold ac;rw[C9 ⟨c,d⟩]
theorem si{l:a7}(a:bC l=true){b:Int}(h1:16*l.Q<=b)(c:b<16*(l.Q+l.a2)):∃k:Nat,k<l.a2.toNat/\b / 16=l.Q+(k:Nat):=by
 have:=aM a;exact⟨(b / 16 - l.Q).toNat,ω,ω⟩
theorem kq{h:ab}{E:List Int}(e:aZ h E){l:a7}(i:l∈h.M){b:Int}(h1:16*l.Q<=b)(o:b<16*(l.Q+l.a2)){f c:Nat}(j:At h.G b f c){q:Int}(n:(ac (tbl h) q).e≠0)(g:(ac (tbl h) q).j=f):q=b / 16:=by
 obtain⟨k,p,u⟩:=si (e.L.lok l i) h1 o;obtain⟨w,y,r,-⟩:=ce e.ker j.m;obtain⟨A,B,t,-⟩:=ce e.ker n;have d:=j.f;rw[r]at d;have a:=n;change (ac h.G.F.R q).e≠0 at a;change (ac h.G.F.R q).j=f at g;rw[t]at a g;have:=e.pg.one l i (b / 16).toNat (dx.2 ⟨k,p,ω⟩) q.toNat (by show q.toNat<h.G.F.R.J.length;omega) a (by show _=(nth h.G.F.R.J _).j;rw[d];exact g);omega
theorem v6{h:ab}{E:List Int}(d:aZ h E){a b:Int}{f c:Nat}(T:La h a f c)(U:La h b f c):a=b:=by
 have G:∀s∈h.K,(ac (tbl h) s.Q).j=f->∀l∈h.M,∀x:Int,16*l.Q<=x->x<16*(l.Q+l.a2)->At h.G x f c->False:=λs g V l o x H J W=>by
  obtain⟨K,t,q⟩:=d.mapped g;obtain⟨k,w,X⟩:=si (d.L.lok l o) H J;have:=kq d o H J W (by rw[d.pe g];exact q) V;exact d.L.dis s g l o k w ω
 rcases T with⟨s,g,M,N,O,s4⟩|⟨l,o,Y,x,A,B,P⟩<;>rcases U with⟨u,r,Q,R,S,u4⟩|⟨m,p,K,y,t,q,C⟩
 ·by_cases e:s.Q=u.Q
  ·obtain⟨i,D,rfl⟩:=aK g
   obtain⟨j,F,rfl⟩:=aK r;have:=cG (f:=(·.Q)) d.L.nd D F e;subst this;exact wQ (d.L.sok _ g) M.2.2.1 Q.2.2.1 (O.symm.trans S)
  exfalso;have p:=d.pg.mesh s g u r e (by rw[<-d.pe g,<-d.pe r,N,R]);unfold meshable at p;simp only[I0,C0]at p;obtain⟨⟨o1,o2⟩,Z,-,e3⟩:=p;have b1:=(dO _ _).1 M.2.2.2;have b2:=(dO _ _).1 Q.2.2.2;have hn:(a - 16*s.Q) / csz s.a=(b - 16*u.Q) / csz u.a:=by
   have z1:d3 s a=d3 u b:=by rw[<-O,<-S,Z]
   exact z1
  have:=W0 (λn=>Nat.testBit n ((a - 16*s.Q) / csz s.a).toNat) e3;simp only[Nat.testBit_and,Nat.zero_testBit]at this;rw[b1.2.2.2,hn,b2.2.2.2]at this;cases this
 ·exact(G s g N m p y t q C).elim
 ·exact(G u r R l o x A B P).elim
 have hq:=kq d o A B P C.m C.f;obtain⟨i,D,rfl⟩:=aK o;obtain⟨j,F,rfl⟩:=aK p;obtain⟨k,w,X⟩:=si (d.L.lok _ o) A B;obtain⟨k',k3,k4⟩:=si (d.L.lok _ p) t q;have:=d.L.one i j D F k k' w k3 ω;subst this;rw[Y,K]
def qe(h:ab)(o:bz)(f c:Nat):Prop:=∃j:Int,0<=j/\j<o.o/\At h.G (o.Addr+j) f c
theorem iP{h:ab}{E:List Int}(i:aZ h E){o:bz}(B:o∈h.O){f c:Nat}(C:qe h o f c):La h o.Addr f c:=by
 obtain⟨k,J,K,a⟩:=C;rcases i.oow o B with⟨s,r,t,D⟩|⟨l,u,F,M⟩
 ·have b:=i.L.sok s r
  have j:=aB b;have d:=bE j.2.2;have p:=t;obtain⟨N,O,w,-⟩:=t;have g:o.o<=csz s.a:=by
   have P:=ik (n:=o.o) ω;rw[D];have:o.o=1\/o.o=2\/o.o=3\/o.o=4\/o.o=5\/o.o=6\/o.o=7\/o.o=8:=ω
   rcases this with e|e|e|e|e|e|e|e<;>rw[e]<;>decide
  have G:(o.Addr+k) / 16=s.Q:=by rcases d with e|e|e|e<;>rw[e]at w g<;>omega
  have y:=a.f;have H:=a.c;rw[G]at y;refine .inl ⟨s,r,p,y,?_,ω⟩;unfold d3;rcases d with e|e|e|e<;>rw[e]at w g |-<;>omega
 have q:=i.L.lok l u;have A:=q;unfold bC at A;rw[C0]at A;exact .inr ⟨l,u,F,o.Addr+k,ω,ω,a⟩
theorem GJ{h:ab}{E:List Int}(a:aZ h E){o u:bz}(b:o∈h.O)(d:u∈h.O){f c:Nat}(h1:qe h o f c)(g:qe h u f c):o=u:=by
 have e:=v6 a (iP a b h1) (iP a d g);obtain⟨i,k,rfl⟩:=aK b;obtain⟨j,l,rfl⟩:=aK d;rw[cG (f:=(·.Addr)) (dd a.osr) k l e]
def JX(h:ab)(f c:Nat):Prop:=h.u=true/\(ac (tbl h) h.Z.X.a3).j=f/\(c:Int)∈h.Z.X.T.take h.Z.d.toNat
structure CI(h:ab):Prop where
 z:∀f c:Nat,c<16->cl h.G f c≠0->(∃o∈h.O,qe h o f c)\/JX h f c
 jv:h.u=true->∀c:Nat,(c:Int)∈h.Z.X.T.take h.Z.d.toNat->cl h.G (bF h.G h.Z.X.a3) c=cl h.G (bF h.G h.Z.X.a1) c
 jd:h.u=true->∀s∈h.K,s.Q=h.Z.X.a3->∀c:Nat,c<16->(c:Int)∈h.Z.X.T->aQ s.b1 ((c:Int) / csz s.a)=false
 jc:h.u=true->∀s∈h.K,s.Q=h.Z.X.a1->∀c:Nat,c<16->aQ s.b1 ((c:Int) / csz s.a)=true->(c:Int)∈h.Z.X.T
 jn:h.u=true->(h.Z.b2=0->h.Z.d=0)/\(h.Z.b2=2->h.Z.d=h.Z.X.T.length)
 m1:∀q:Nat,(nth (tbl h).J q).e=1->h.u=true/\(q:Int)=h.Z.X.a1/\h.Z.b2≠0
 m2:h.u=true->h.Z.b2≠0->(ac (tbl h) h.Z.X.a1).e=1
theorem CI.keep{h h':ab}(j:CI h)(g:h'.Z=h.Z)(k:h'.u=h.u)(r:∀q:Nat,(nth (tbl h').J q).e=1->(nth (tbl h).J q).e=1)(l:h.u=true->ac (tbl h') h.Z.X.a3=ac (tbl h) h.Z.X.a3/\ac (tbl h') h.Z.X.a1=ac (tbl h) h.Z.X.a1)(t:∀f c:Nat,c<16->cl h'.G f c≠0->cl h.G f c=cl h'.G f c\/∃o∈h'.O,qe h' o f c)(n:∀o∈h.O,∀f c:Nat,c<16->qe h o f c->cl h'.G f c≠0->∃F∈h'.O,qe h' F f c)(u:h.u=true->∀c:Nat,(c:Int)∈h.Z.X.T.take h.Z.d.toNat->cl h'.G (bF h.G h.Z.X.a3) c=cl h.G (bF h.G h.Z.X.a3) c/\cl h'.G (bF h.G h.Z.X.a1) c=cl h.G (bF h.G h.Z.X.a1) c)(p:h.u=true->∀d∈h'.K,d.Q=h.Z.X.a3\/d.Q=h.Z.X.a1->∃s∈h.K,s.Q=d.Q/\s.a=d.a/\∀i,aQ d.b1 i=true->aQ s.b1 i=true):CI h' where
 z f c b w:=by
  rcases t f c b w with e|e
  ·rcases j.z f c b (by rw[e];exact w) with⟨o,G,y⟩|⟨E,H,J⟩
   ·exact .inl (n o G f c b y w)
   exact .inr ⟨by rw[k];exact E,by rw[g,(l E).1];exact H,by rw[g];exact J⟩
  exact .inl e
 jv a c h2:=by
  rw[k]at a;rw[g]at h2 |-;obtain⟨K,L⟩:=u a c h2;obtain⟨M,N⟩:=l a;have O:bF h'.G h.Z.X.a3=bF h.G h.Z.X.a3:=W0 (λe:bi=>e.j.toNat) M;have P:bF h'.G h.Z.X.a1=bF h.G h.Z.X.a1:=W0 (λe:bi=>e.j.toNat) N;rw[O,P,K,L];exact j.jv a c h2
 jd a d hs' hp c b hcm:=by
  rw[k]at a;rw[g]at hp hcm;obtain⟨s,A,B,C,D⟩:=p a d hs' (.inl hp);have:=j.jd a s A (B.trans hp) c b hcm;rw[<-C];rw[<-X4]at this |-;exact λe=>this (D _ e)
 jc a d hs' hp c b hb:=by
  rw[k]at a;rw[g]at hp |-;obtain⟨s,A,B,C,D⟩:=p a d hs' (.inr hp);exact j.jc a s A (B.trans hp) c b (by rw[C];exact D _ hb)
 jn a:=by rw[k]at a;rw[g];exact j.jn a
 m1 q Q:=by rw[k,g];exact j.m1 q (r q Q)
 m2 a h2:=by
  rw[k]at a;rw[g]at h2 |-;rw[(l a).2];exact j.m2 a h2
def Kp(h h':ab):Prop:=∀o∈h'.O,o∈h.O/\∀j:Int,0<=j->j<o.o->f7 h'.G (o.Addr+j)=f7 h.G (o.Addr+j)
theorem Kp.refl(h:ab):Kp h h:=λ_ a=>⟨a,λ_ _ _=>rfl⟩
theorem CY:type_of% @Kp.refl:=@Kp.refl
theorem Kp.trans{h h1 c:ab}(a:Kp h h1)(b:Kp h1 c):Kp h c:=λo f=>by
 obtain⟨g,i⟩:=b o f;obtain⟨k,l⟩:=a o g;exact⟨k,λj d e=>(i j d e).trans (l j d e)⟩
theorem aZ.jobM{h:ab}{E:List Int}(c:aZ h E)(f:h.u=true):(ac (tbl h) h.Z.X.a3).e≠0/\(ac (tbl h) h.Z.X.a1).e≠0:=by
 obtain⟨-,⟨a,d,g⟩,b,e,i⟩:=c.job f;rw[<-g,<-i,c.pe d,c.pe e];exact⟨(c.mapped d).2.2,(c.mapped e).2.2⟩
theorem jV{k:ah}(a:a8 k=true){p:Int}(b:(ac k.F.R p).e≠0):(ac k.F.R p).j=(bF k p:Nat):=by
 obtain⟨-,-,-,c,-⟩:=ce a b;unfold bF;omega
theorem CI.kern{h h':ab}{E:List Int}(A:aZ h E)(M:CI h)(n:∀o∈h'.O,o∈h.O)(N:h'.Z=h.Z)(B:h'.u=h.u)(b:∀o∈h.O,o∉h'.O->∀f c:Nat,c<16->qe h o f c->cl h'.G f c=0)(F:∀q:Nat,(nth (tbl h').J q).e=1->(nth (tbl h).J q).e=1)(d:h.u=true->ac (tbl h') h.Z.X.a3=ac (tbl h) h.Z.X.a3/\ac (tbl h') h.Z.X.a1=ac (tbl h) h.Z.X.a1)(r:∀o∈h'.O,∀j:Int,0<=j->j<o.o->ac (tbl h') ((o.Addr+j) / 16)=ac (tbl h) ((o.Addr+j) / 16))(t:∀f c:Nat,cl h'.G f c=cl h.G f c\/(cl h'.G f c=0/\∀p:Int,(ac (tbl h') p).e≠0->(ac (tbl h') p).j≠f))(G:h.u=true->∀u∈h'.K,u.Q=h.Z.X.a3\/u.Q=h.Z.X.a1->∃s∈h.K,s.Q=u.Q/\s.a=u.a/\∀i,aQ u.b1 i=true->aQ s.b1 i=true):CI h'/\Kp h h':=by
 have cov:∀o∈h'.O,∀f c:Nat,qe h o f c->qe h' o f c:=λo O f c ⟨j,w,C,l⟩=>by
  have e:=r o O j w C;unfold tbl at e;exact⟨j,w,C,by rw[e];exact l.m,by rw[e];exact l.f,l.c⟩
 have H:∀{p:Int},ac (tbl h') p=ac (tbl h) p->(ac (tbl h) p).e≠0->∀c,cl h'.G (bF h.G p) c=cl h.G (bF h.G p) c:=fun {p} e B c=>by
  rcases t (bF h.G p) c with g|⟨-,g⟩
  ·exact g
  refine absurd ?_ (g p (by rw[e];exact B));rw[e];exact jV A.ker B
 refine⟨M.keep N B F d (λf c _ J=>.inl ?_) (λo a f c K y J=>?_) (λD c _=>⟨H (d D).1 (A.jobM D).1 c,H (d D).2 (A.jobM D).2 c⟩) G,λo a=>⟨n o a,λj w C=>?_⟩⟩
 ·rcases t f c with g|g
  ·exact g.symm
  exact absurd g.1 J
 ·by_cases e:o∈h'.O
  ·exact⟨o,e,cov o e f c y⟩
  exact absurd (b o a e f c K y) J
 have e:=r o a j w C;have L:=(cI A (n o a) (k:=j) ⟨w,ω⟩).1;have:=H e L ((o.Addr+j) % 16).toNat;unfold f7;unfold tbl at e;rw[e];exact this
theorem xA{h:ab}{E:List Int}(d:aZ h E){a:Int}{f c:Nat}(y:La h a f c){s:ax}(n:s∈h.K)(g:oh (tbl h) s.Q)(r:(ac (tbl h) s.Q).j=f):ew s a/\(c:Int) / csz s.a=d3 s a/\a / 16=s.Q:=by
 obtain⟨K,M,A⟩:=d.mapped n;rcases y with⟨u,o,p,B,C,N⟩|⟨l,q,-,b,t,w,D⟩
 ·obtain⟨O,P,F⟩:=d.mapped o
  have:=g u.Q.toNat F (by rw[<-d.pe o,<-d.pe n,B,r]);obtain⟨i,G,rfl⟩:=aK n;obtain⟨j,H,rfl⟩:=aK o;have e:=cG (f:=(·.Q)) d.L.nd G H ω;subst e;exact⟨p,C,by have:=p.1;have:=p.2.1;omega⟩
 exfalso;obtain⟨k,J,Q⟩:=si (d.L.lok l q) t w;have:=kq d q t w D (by rw[d.pe n];exact A) r;exact d.L.dis s n l q k J ω
theorem rC{h:ab}{E:List Int}(n:aZ h E)(d:JI h)(o:CI h)(e:h.u=true){a:Int}{f c:Nat}(p:La h a f c)(g:c<16)(i:(c:Int)∈h.Z.X.T):(ac (tbl h) h.Z.X.a3).j≠f:=λq=>by
 obtain⟨s,k,b,-,j,-,-⟩:=d.sp e;obtain⟨r,t,-⟩:=xA n p k (by rw[j];exact d.sk e) (by rw[j];exact q);have:=o.jd e s k j c g i;rw[t]at this;have l:=r.2.2.2;unfold d3 at this;rw[this]at l;cases l
theorem Dl{h:ab}{E:List Int}(n:aZ h E)(d:JI h)(j:CI h)(g:h.u=true){a:Int}{f c:Nat}(o:La h a f c)(k:(ac (tbl h) (a / 16)).e≠1)(e:(c:Int)∈h.Z.X.T.take h.Z.d.toNat):(ac (tbl h) h.Z.X.a1).j≠f:=λp=>by
 obtain⟨-,-,b,q,-,i,-⟩:=d.sp g;obtain⟨-,-,r⟩:=xA n o q (by rw[i];exact d.sm g) (by rw[i];exact p);by_cases l:h.Z.b2=0
 ·rw[(j.jn g).1 l]at e;cases e
 have:=j.m2 g l;rw[r,i]at k;exact k this
end Go.Proofs.YtecefhjnejfheaaGreat.Ab
