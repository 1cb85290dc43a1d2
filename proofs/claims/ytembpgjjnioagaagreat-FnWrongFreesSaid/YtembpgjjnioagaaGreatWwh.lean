/- Quarantine, ticks, messages collected, cells written, large objects trimmed: the reference's. No condition. -/
import Derived.Test.YtembpgjjnioagaaGreatWwd
import Derived.Test.YtembpgjjnioagaaGreatWwg
import Derived.Test.YtembpgjjnioagaaGreatWwf
import Derived.Test.YtembpgjjnioagaaGreatWwe
set_option linter.unusedVariables false
set_option linter.unusedSimpArgs false
set_option linter.constructorNameAsVariable false
namespace Go.Proofs.YtembpgjjnioagaaGreat.Ab
open Go.RowKit
set_option maxRecDepth 20000
set_option maxHeartbeats 4000000
theorem Gt(now:Int):∀{l:List aL}{i:Nat},i<=l.length->(∀j,j<i->(nth l j).Since<now - 100)->(i<l.length->¬(nth l i).Since<now - 100)->q7 now l=i
 | [],i,h,_,_=>by simp at h;subst h;rfl
 | x::xs,0,_,_,h=>by
  unfold q7;exact C7 (h (by simp))
 | x::xs,i+1,b,a,c=>by
  unfold q7;refine(C8 (a 0 ω)).trans ?_;rw[Gt now (l:=xs) (i:=i) (by simp at b;omega) (λj d=>a (j+1) ω) (λe=>c (by simp;omega))]
def M4(q:bz)(now:Int):List C:=bz.enc .own ⟨q.Room,q.Lst.drop (q7 now q.Lst)⟩++bQ .own (q.Lst.take (q7 now q.Lst))
theorem tQ(q:bz)(now:Int)(g:fj q=true)(G:q.Lst.length<=4096)(u:0<=now/\now<=1000000):ao Tryz.prog 363 false [.val (some 2) (bz.enc .imm q),.val none [I now],.val none [I 100]] (.tup [some 2,none]) (M4 q now):=by
 have w:bz.sml q:=⟨ω,λ_ _=>trivial⟩
 have n:=nK q w;rw[g]at n;have o:=aE now 0 1000000;rw[O0 u]at o;have p:=aE 100 0 1000000;rw[O0 (by decide)]at p;have h:=(ij.1 g).1;have a:gr (M4 q now):=aM (bz.enc_fr _) (mZ _);have y:∀i,i<q.Lst.length->0<=(nth q.Lst i).Since:=λi b=>(h _ (am b)).2.2.2
 unfold M4 at a |-;generalize B:q7 now q.Lst=k at a |-;refine fO 59 [(6,270,[44,45,46,47,48,49,50,51,53,54,55,56,57,58,0,1,2,3,4,5,6,7,9,10,11,12,13,14,8,1009,1010,1011,1012,1013,1014,15,16])] Tryz.func363 rfl ?_ (.inr a)
 repeat'(first|refine gO ?_|(conv=>whnf);first|refine C9 ?_|refine C6 (n) ?_|refine C6 (o) ?_|refine C6 (p) ?_)
 (conv=>whnf)
 refine CC (ι:=Nat) (λi=>[(1,.hold .one [I (now)]),(2,.hold .one [I (100)]),(3,.hold .box (bz.enc .imm q)),(6,.hold .box [I 0,.z]),(8,.hold .one [I ((i:Nat):Int)])]) (λi=>i<=q.Lst.length/\∀j,j<i->(nth q.Lst j).Since<now - 100) (λi=>q.Lst.length - i) (0) ?_ (⟨R0 _,λj C=>ω⟩) λi b=>?_
 ·exact wC
 obtain⟨b,r⟩:=b;by_cases l:i<q.Lst.length/\(nth q.Lst i).Since<now - 100
 ·have c:=ah l.1
  repeat'(first|refine gD ?_|(conv=>whnf);first|with_reducible refine CA (aa c) ?_|refine C9 ?_|refine CF rfl (aa c) rfl ?_)
  ((conv=>whnf);refine CB (i+1) ⟨ω,λj C=>by by_cases e:j=i;(subst e;exact l.2);exact r j ω⟩ ω ?_;(exact wC))
 ·have d:=Gt now (i:=i) b r (λE F=>l ⟨E,F⟩)
  rw[B]at d;subst d;by_cases t:k<q.Lst.length
  ·have c:=ah t
   have:=y k t
   repeat'(first|refine gD ?_|(conv=>whnf);first|with_reducible (first|refine CA (aa c) ?_|refine Bf.D (λg=>?_) (λg=>?_))|refine C9 ?_|refine CF rfl (aa c) rfl ?_|refine CS k rfl (by rw[W0];omega) (aI λ_=>rfl) R3 ?_|refine CU k rfl (by rw[W0];omega) (aI λ_=>rfl) T3 ?_|refine CR (λ_=>rfl) (λ_=>rfl) (by rw[I1];omega) (by decide) ?_|refine CR (λ_=>rfl) (λ_=>rfl) (by rw[X2];omega) (by decide) ?_|refine CM (λ_=>rfl) (λ_=>rfl) (by rw[X2];omega) (by decide) ?_|refine C9 ?_)
   rfl
  ·repeat'(first|refine gD ?_|(conv=>whnf);first|refine C9 ?_|refine CS k rfl (by rw[W0];omega) (aI λ_=>rfl) R3 ?_|refine CU k rfl (by rw[W0];omega) (aI λ_=>rfl) T3 ?_|refine CR (λ_=>rfl) (λ_=>rfl) (by rw[I1];omega) (by decide) ?_|refine CR (λ_=>rfl) (λ_=>rfl) (by rw[X2];omega) (by decide) ?_|refine CM (λ_=>rfl) (λ_=>rfl) (by rw[X2];omega) (by decide) ?_|refine C9 ?_)
   rfl
theorem zJ(h:ab)(n:Int)(g:bn h [])(r:0<=n/\n<=1000)(p:h.Clock+n<=1000000):aP Tryz.prog 306 false [.ptr (b8 h),.val none [I n]] [.ptr (b8 (tick h n)),.val none [I n]] .one [I ((mI h n).length:Nat)]:=by
 have a:=g.nums;unfold cm at a;rw[C0]at a;have t:=g.lens.quar;have i:=tQ h.Quar (h.Clock+n) g.quar ω ⟨ω,p⟩;have j:=g.aged r.1 p;unfold M4 at i;unfold tick mI aged at *;have l:(h.Quar.Lst.take (q7 (h.Clock+n) h.Quar.Lst)).length<=4096:=by rw[I1];omega
 rw[W0];generalize h.Quar.Lst.take (q7 (h.Clock+n) h.Quar.Lst)=out at i j l |-;generalize h.Quar.Lst.drop (q7 (h.Clock+n) h.Quar.Lst)=rest at i j |-;refine fM 48 [(364,[2,0])] [(2,269,[18,19,20,21,22,23,24,25,26,17,27,28,5,0,1,2,3,4,5,6,7,8,9,10,11,12,13,1011,14])] [(0,0),(0,0)] Tryz.func306 rfl (λu q=>?_)
 repeat'(first|refine gO ?_|(conv=>whnf);first|refine C9 ?_|refine CD (i) ⟨⟨rfl,bz.enc_fz h.Quar⟩,⟨rfl,rfl⟩,⟨rfl,rfl⟩,trivial⟩ ?_|refine C9 ?_)
 (conv=>whnf)
 refine CC (ι:=Nat) (λk=>[(0,.hold .box (b8 (freeAs {h with Clock:=h.Clock+n,Quar:=⟨h.Quar.Room,rest⟩} ((out.map (·.Addr)).take k)))),(6,.hold .one (bQ .own out)),(7,.hold .one [I ((k:Nat):Int)])]) (λk=>k<=out.length) (λk=>out.length - k) (0) ?_ (R0 _) λk y=>?_
 ·exact wC
 by_cases o:k<out.length
 ·have b:=ah o
  have c:k<(out.map (·.Addr)).length:=by rw[W0];exact o
  have d:nth (out.map (·.Addr)) k=(nth out k).Addr:=bw (by rw[U2,ah o];rfl);have e:bn (freeAs {h with Clock:=h.Clock+n,Quar:=⟨h.Quar.Room,rest⟩} ((out.map (·.Addr)).take k)) (nth (out.map (·.Addr)) k::(out.map (·.Addr)).drop (k+1)):=by
   refine bn.freeAs ?_;rw[<-gB c,List.take_append_drop];rw[List.append_nil]at j;exact j
  rw[d]at e;have w:=lR _ _ _ e
  repeat'(first|refine gD ?_|(conv=>whnf);first|refine C9 ?_|refine CA (aa b) ?_|refine CF rfl (aa b) rfl ?_|refine CG (w) (.inl rfl) ?_)
  ((conv=>whnf);refine CB (k+1) ω ω ?_)
  rw[sV _ _ _ c,d];exact wC
 ·obtain rfl:k=out.length:=ω
  rw[T5 (by rw[W0];omega)]
  repeat'(first|refine gD ?_|(conv=>whnf);first|refine C9 ?_)
  refine CE rfl rfl ?_;exact wC
theorem DK(t:Nat)(h:ab)(az:List Int)(k:Nat)(a:k<az.length):recycs t h (az.take (k+1))=recyc t (recycs t h (az.take k)) (nth az k):=by
 unfold recycs;rw[T4,ah a,Option.toList_some,List.foldl_append];rfl
theorem tN(h:ab)(t:Nat)(a:bn h [])(i:t<h.Caches.length):aP Tryz.prog 361 false [.ptr (b8 h),.val none [I (t:Nat)]] [.ptr (b8 (collect h t)),.val none [I (t:Nat)]] .one [I ((nth h.Mail.Inbox t).length:Nat)]:=by
 have l:=a.nc;have n:=(dy.1 a.mail).1.2.2;have j:=A8 h.Mail t a.mail ω;have c:=(jt.of a.mail).il t ω;have d:=a.coll (t:=t) ω;rw[List.append_nil]at d;unfold collect;generalize nth h.Mail.Inbox t=out at j d c |-;refine fM 36 [(384,[2,0,0])] [] [(0,0),(0,0)] Tryz.func361 rfl (λu q=>?_)
 repeat'(first|refine gO ?_|(conv=>whnf);first|refine C9 ?_|refine CD (j) ⟨⟨rfl,aH.enc_fz h.Mail⟩,⟨rfl,rfl⟩,trivial⟩ ?_)
 (conv=>whnf)
 refine CC (ι:=Nat) (λk=>[(0,.hold .box (b8 (recycs t {h with Mail:=kI h.Mail t} (out.take k)))),(1,.hold .one [I ((t:Nat):Int)]),(6,.hold .one (aD .own out)),(7,.hold .one [I ((k:Nat):Int)])]) (λk=>k<=out.length) (λk=>out.length - k) (0) ?_ (R0 _) λk p=>?_
 ·exact wC
 by_cases e:k<out.length
 ·have b:=ah e
  have g:bn (recycs t {h with Mail:=kI h.Mail t} (out.take k)) (nth out k::out.drop (k+1)):=by
   refine bn.recycs ?_ i;rw[<-gB e,List.take_append_drop];exact d
  have o:=mW _ _ t _ g (by rw[(ek t _ _).1];exact i)
  repeat'(first|refine gD ?_|(conv=>whnf);first|refine C9 ?_|refine CA (aa b) ?_|refine CF rfl (aa b) rfl ?_|refine CG (o) (.inl rfl) ?_)
  ((conv=>whnf);refine CB (k+1) ω ω ?_)
  rw[DK _ _ _ _ e];exact wC
 ·obtain rfl:k=out.length:=ω
  rw[I4]
  repeat'(first|refine gD ?_|(conv=>whnf);first|refine C9 ?_)
  refine CE rfl rfl ?_;exact wC
def Lv(a:Int)(o:bm):Bool:=decide (o.Addr<=a/\a<o.Addr+o.Size)
theorem Ey(h:ab)(E:List Int)(a:Int)(d:bn h E):aP Tryz.prog 126 false [.ptr (b8 h),.val none [I a]] [.ptr (b8 h),.val none [I a]] .one [I (cX (Lv a) h.Objs)]:=by
 have r:=d.lens.objs;refine fM 47 [] [(4,29,[15,16,17,18,19,20,21,22,23,24,25,26,27,28,29,30,31,32,33,34,35,36,37,38,39,40,41,42,43])] [(0,0),(0,0)] Tryz.func126 rfl (λu q=>?_)
 repeat'(first|refine gO ?_|(conv=>whnf);first|refine C9 ?_)
 (conv=>whnf)
 refine CC (ι:=Nat) (λi=>[(0,.hold .box (b8 h)),(1,.hold .one [I (a)]),(5,.hold .one [I ((i:Nat):Int)])]) (λi=>i<=h.Objs.length/\∀(j:Nat)(z:bm),j<i->h.Objs[j]? = some z->Lv a z=false) (λi=>h.Objs.length - i) (0) ?_ (⟨R0 _,λj z C=>ω⟩) λi d=>?_
 ·exact wC
 obtain⟨t,c⟩:=d;by_cases e:i<h.Objs.length
 ·have b:=ah e
  have w:=nQ ‹bn h E› (am e);have y:0<=(nth h.Objs i).Size/\(nth h.Objs i).Size<=1000:=by
   rcases bn.oow ‹bn h E› _ (am e) with⟨s,B,F,G⟩|⟨l,g,k,o⟩
   ·have H:=aF ((bn.L ‹bn h E›).sok s B)
    have:=pB (n:=(nth h.Objs i).Size) ω;omega
   ·have J:=cz ((bn.L ‹bn h E›).lok l g)
    omega
  by_cases k:(nth h.Objs i).Addr<=a
  ·by_cases o:a<(nth h.Objs i).Addr+(nth h.Objs i).Size
   ·repeat'(first|refine gD ?_|(conv=>whnf);first|with_reducible refine CA (aa b) ?_|refine C9 ?_|refine CF rfl (aa b) rfl ?_|refine C9 ?_)
    refine CE rfl (T0 (λz=>[I z]) (dN b (O0 ⟨k,o⟩) c).symm) ?_;exact wC
   ·repeat'(first|refine gD ?_|(conv=>whnf);first|with_reducible (first|refine CA (aa b) ?_|refine Bf.D (λp=>?_) (λp=>?_))|refine C9 ?_|refine CF rfl (aa b) rfl ?_|refine C9 ?_)
    ((conv=>whnf);refine CB (i+1) ⟨ω,di b (Q0 λx=>o x.2) c⟩ ω ?_;(exact wC))
  ·repeat'(first|refine gD ?_|(conv=>whnf);first|with_reducible (first|refine CA (aa b) ?_|refine Bf.D (λp=>?_) (λp=>?_))|refine C9 ?_|refine CF rfl (aa b) rfl ?_|refine C9 ?_)
   ((conv=>whnf);refine CB (i+1) ⟨ω,di b (Q0 λx=>k x.1) c⟩ ω ?_;(exact wC))
 ·repeat'(first|refine gD ?_|(conv=>whnf);first|refine C9 ?_)
  refine CE rfl (T0 (λz=>[I z]) (fT ω c).symm) ?_;exact wC
theorem Gv(h:ab)(a v:Int):b8 {h with Kernel:=kA h.Kernel a v} = (b8 h).set 0 (.s .own ((h.Kernel.Machine.Frames.Cells.map (aD .own)).set (ar h.Kernel.Machine.Table (a / 16)).Frame.toNat ((aD .own (nth h.Kernel.Machine.Frames.Cells (dZ h.Kernel a))).set 0 (.s .own (((nth h.Kernel.Machine.Frames.Cells (dZ h.Kernel a)).map (rI .own)).set (a % 16).toNat (splice (rI .own (nth (nth h.Kernel.Machine.Frames.Cells (dZ h.Kernel a)) (a % 16).toNat)) 0 [I v])))))):=by
 simp[b8,kA,setCell,Z4,aD,splice,dZ,rI]
theorem Dt{α:Type}{p:α->Bool}{xs:List α}{x:α}(a:x∈xs)(b:p x=true):0<=cX p xs:=by
 have:=lG p xs;rw[show xs.any p=true from I3.2 ⟨x,a,b⟩,C0]at this;exact this
theorem x3(h:ab)(i:Nat)(j v:Int)(e:bn h [])(C:i<h.Objs.length)(D:0<=j/\j<=(nth h.Objs i).Size - 1):aP Tryz.prog 356 false [.ptr (b8 h),.val none [I ((nth h.Objs i).Addr+j)],.val none [I v]]
  [.ptr (b8 (if(ar h.Kernel.Machine.Table (((nth h.Objs i).Addr+j) / 16)).Mode=1\/¬(0<=v/\v<=999) then h else {h with Kernel:=kA h.Kernel ((nth h.Objs i).Addr+j) v})),.val none [I ((nth h.Objs i).Addr+j)],.val none [I v]] .one [I (if(ar h.Kernel.Machine.Table (((nth h.Objs i).Addr+j) / 16)).Mode=1 then 2 else if ¬(0<=v/\v<=999) then 3 else 0)]:=by
 obtain⟨E,J,K⟩:=me e (am C) D;have F:0<=cX (Lv ((nth h.Objs i).Addr+j)) h.Objs:=Dt (am C) (O0 ω);have p:=Ey h [] ((nth h.Objs i).Addr+j) e;have r:=bp e.ker;have t:=cT h.Kernel.Machine.Table (((nth h.Objs i).Addr+j) / 16) r.1.2;have n:=aE v 0 999;generalize L:(nth h.Objs i).Addr+j=a at *;have b:0<=a/\a<512:=ω
 obtain⟨-,-,-,G,M⟩:=ch e.ker E;have H:=(aY.1 (aC.1 e.ker).2.1).2.2.1;have k:dZ h.Kernel a<h.Kernel.Machine.Frames.Cells.length:=by unfold dZ;omega
 have d:h.Kernel.Machine.Frames.Cells[(ar h.Kernel.Machine.Table (a / 16)).Frame.toNat]? = some (nth h.Kernel.Machine.Frames.Cells (dZ h.Kernel a)):=ah k;have w:=e.lens.row _ (am k);have l:=ah (xs:=nth h.Kernel.Machine.Frames.Cells (dZ h.Kernel a)) (i:=(a % 16).toNat) (by rw[w];omega);have B:a.tmod 16=a % 16:=eM b.1;refine fM 42 [(126,[2,0])] [(8,14,[27,28,29,30,31,32,33,34,35,36,37,38,39,40])] [(0,0),(0,0),(0,0)] Tryz.func356 rfl (λu q=>?_);by_cases o:(ar h.Kernel.Machine.Table (a / 16)).Mode=1
 ·rw[C8 (Or.inl o),C8 o]
  repeat'(first|refine gA ?_|(conv=>whnf);first|refine C9 ?_|refine CG (p) (.inl rfl) ?_|refine CD (t) ⟨⟨rfl,CV _⟩,⟨rfl,rfl⟩,trivial⟩ ?_|refine CK (by decide) ?_|refine CI (js b) ?_)
  refine CE rfl rfl ?_;exact wC
 rw[C7 (c:=_=(1:Int)) o];by_cases g:0<=v/\v<=999
 ·rw[O0 g]at n
  rw[C7 (c:=¬(0<=v/\v<=999)) (Q3 g),C7 (c:=_\/¬(0<=v/\v<=999)) (λy=>y.elim o λy=>y g)]
  repeat'(first|refine gA ?_|(conv=>whnf);first|refine C9 ?_|refine CG (p) (.inl rfl) ?_|refine CD (t) ⟨⟨rfl,CV _⟩,⟨rfl,rfl⟩,trivial⟩ ?_|refine C6 (n) ?_|refine CK (by decide) ?_|refine CI (js b) ?_|refine CO B ?_|refine CJ G (aa d) ?_|refine CF rfl (aa d) rfl ?_|refine CJ ω (aa l) ?_|refine Pu.two rfl rfl (aa d) rfl rfl rfl (aa l) rfl (R2 _) (Gv h a v) ?_|refine C9 ?_)
  refine CE rfl rfl ?_;exact wC
 ·rw[Q0 g]at n
  rw[C8 (Or.inr g),C8 g]
  repeat'(first|refine gA ?_|(conv=>whnf);first|refine C9 ?_|refine CG (p) (.inl rfl) ?_|refine CD (t) ⟨⟨rfl,CV _⟩,⟨rfl,rfl⟩,trivial⟩ ?_|refine C6 (n) ?_|refine CK (by decide) ?_|refine CI (js b) ?_)
  refine CE rfl rfl ?_;exact wC
def va(l:ax)(n:Int):ay:=if(n+15) / 16<l.Pages then⟨l.Page+(n+15) / 16,l.Pages - (n+15) / 16⟩ else⟨0,0⟩
theorem uG(l:ax)(n:Int)(d:bV l=true):ao Tryz.prog 386 false [.val (some 3) (ax.enc .imm l),.val none [I n]] (.tup [some 3,some 2,none]) (if 9<=n/\n<=l.Size then ax.enc .own (trimL l n)++ay.enc .own (va l n)++[B true] else ax.enc .own l++[I 0,I 0]++[B false]):=by
 have b:=mf l;rw[d]at b;have a:=aE n 9 l.Size;have g:=d;unfold bV at g;rw[C0]at g;by_cases e:9<=n/\n<=l.Size
 ·rw[O0 e]at a
  rw[C8 e];have c:=kZ n;rw[show eO n=(n+15) / 16 by unfold eO;rw[C8 ω]]at c;unfold va;by_cases h:(n+15) / 16<l.Pages
  ·rw[C8 h]
   refine fO 43 [(7,261,[37,38,39,40,42,0,1,2,3,5,4,1005,6,1005,7,8])] Tryz.func386 rfl ?_ (.inr ⟨trivial,trivial,trivial,trivial,trivial,trivial,trivial⟩)
   repeat'(first|refine gD ?_|(conv=>whnf);first|refine C9 ?_|refine C6 (b) ?_|refine C6 (a) ?_|refine C6 (c) ?_|refine C9 ?_)
   rfl
  ·rw[C7 h]
   refine fO 43 [(7,261,[37,38,39,40,42,0,1,2,3,5,4,1005,6,1005,7,8])] Tryz.func386 rfl ?_ (.inr ⟨trivial,trivial,trivial,trivial,trivial,trivial,trivial⟩)
   repeat'(first|refine gD ?_|(conv=>whnf);first|refine C9 ?_|refine C6 (b) ?_|refine C6 (a) ?_|refine C6 (c) ?_|refine C9 ?_)
   rfl
 ·rw[Q0 e]at a
  rw[C7 e];refine fO 43 [(7,261,[37,38,39,40,42,0,1,2,3,5,4,1005,6,1005,7,8])] Tryz.func386 rfl ?_ (.inr ⟨trivial,trivial,trivial,trivial,trivial,trivial,trivial⟩)
  repeat'(first|refine gO ?_|(conv=>whnf);first|refine C9 ?_|refine C6 (b) ?_|refine C6 (a) ?_|refine C9 ?_)
  rfl
theorem Aa(h:ab)(t a:Int)(c:h.Caches.length<=4)(d:¬(0<=t/\t<=h.Caches.length - 1)):aP Tryz.prog 354 false [.ptr (b8 h),.val none [I t],.val none [I a]] [.ptr (b8 h),.val none [I t],.val none [I a]] .one [I 1]:=by
 have b:=aE t 0 (h.Caches.length - 1:Int);rw[Q0 d]at b;refine fM 148 [(380,[2,0]),(382,[2,0]),(384,[2,0,0]),(379,[2,0])] [(15,269,[68,69,70,71,72,73,74,75,77,67,78,79,11,0,1,2,3,4,5,6,7,13,8,1000,1001,1002,1003,1004,1013,9,10,11,12,14,1012,15]),(22,15,[92,93,94,95,96,97,98,99,100,101,102,103,104,105,106]),(25,271,[116,117,118,119,120,121,122,123,124,125,127,115,128,129,14,0,1,2,3,4,5,6,7,8,9,15,10,1000,1001,1002,1003,1015,11,12,13,14,16,1014,17])] [(0,0),(0,0),(0,0)] Tryz.func354 rfl (λu q=>?_)
 repeat'(first|refine gO ?_|(conv=>whnf);first|refine C9 ?_|refine C6 (b) ?_)
 refine CE rfl rfl ?_;exact wC
theorem BA(h:ab)(i t:Nat)(a:bn h [])(j:i<h.Objs.length)(U:t<h.Caches.length)(K:(nth h.Objs i).Thread≠t):aP Tryz.prog 354 false [.ptr (b8 h),.val none [I (t:Nat)],.val none [I (nth h.Objs i).Addr]] [.ptr (b8 (freeT h t i).1),.val none [I (t:Nat)],.val none [I (nth h.Objs i).Addr]] .one [I (freeT h t i).2]:=by
 have F:=am j;obtain⟨-,L,d⟩:=a.objAt F;have N:gX h (nth h.Objs i).Addr=i:=by
  have V:=(a.objAt F).1;exact gG (f:=(·.Addr)) (gY a.osr) V j (by rw[L])
 rw[N]at d;have b:=nQ a F;have W:=a.onu _ F;have n:=a.lens;have X:=n.objs;have Y:=a.nc;have Z:=jt.of a.mail;have hb4:=Z.b4;have o:=aE (t:Nat) 0 (h.Caches.length - 1:Int);rw[O0 ω]at o;have p:=mn h (nth h.Objs i).Addr ω;rw[d]at p;have e:=ah j;have G:=jy (nth h.Objs i).Size;have O:=bp a.ker;have P:=cT h.Kernel.Machine.Table ((nth h.Objs i).Addr / 16) O.1.2;unfold freeT;by_cases H:aK (nth h.Objs i).Size<0
 ·rw[C8 H]
  have c3:=pv h i a j H;refine fM 148 [(380,[2,0]),(382,[2,0]),(384,[2,0,0]),(379,[2,0])] [(15,269,[68,69,70,71,72,73,74,75,77,67,78,79,11,0,1,2,3,4,5,6,7,13,8,1000,1001,1002,1003,1004,1013,9,10,11,12,14,1012,15]),(22,15,[92,93,94,95,96,97,98,99,100,101,102,103,104,105,106]),(25,271,[116,117,118,119,120,121,122,123,124,125,127,115,128,129,14,0,1,2,3,4,5,6,7,8,9,15,10,1000,1001,1002,1003,1015,11,12,13,14,16,1014,17])] [(0,0),(0,0),(0,0)] Tryz.func354 rfl (λu q=>?_)
  repeat'(first|refine gD ?_|(conv=>whnf);first|with_reducible refine Bf.D (λc=>?_) (λc=>?_)|refine C9 ?_|refine C6 (o) ?_|refine CD (p) ⟨⟨rfl,bA h⟩,⟨rfl,rfl⟩,trivial⟩ ?_|refine CA (aa e) ?_|refine CF rfl (aa e) rfl ?_|refine C6 (G) ?_|refine CG (c3) (.inl rfl) ?_)
  refine CE rfl rfl ?_;exact wC
 rw[C7 H];obtain⟨s1,s2,s3,s4⟩:=Pr.of a (am j) H;by_cases J:(ar (tbl h) ((nth h.Objs i).Addr / 16)).Mode=1
 ·rw[C8 J]
  unfold tbl at J;refine fM 148 [(380,[2,0]),(382,[2,0]),(384,[2,0,0]),(379,[2,0])] [(15,269,[68,69,70,71,72,73,74,75,77,67,78,79,11,0,1,2,3,4,5,6,7,13,8,1000,1001,1002,1003,1004,1013,9,10,11,12,14,1012,15]),(22,15,[92,93,94,95,96,97,98,99,100,101,102,103,104,105,106]),(25,271,[116,117,118,119,120,121,122,123,124,125,127,115,128,129,14,0,1,2,3,4,5,6,7,8,9,15,10,1000,1001,1002,1003,1015,11,12,13,14,16,1014,17])] [(0,0),(0,0),(0,0)] Tryz.func354 rfl (λu q=>?_)
  repeat'(first|refine gA ?_|(conv=>whnf);first|with_reducible refine Bf.D (λc=>?_) (λc=>?_)|refine C9 ?_|refine CK (by decide) ?_|refine CI (js b) ?_|refine C6 (o) ?_|refine CD (p) ⟨⟨rfl,bA h⟩,⟨rfl,rfl⟩,trivial⟩ ?_|refine CA (aa e) ?_|refine CF rfl (aa e) rfl ?_|refine C6 (G) ?_|refine CD (P) ⟨⟨rfl,CV _⟩,⟨rfl,rfl⟩,trivial⟩ ?_)
  refine CE rfl rfl ?_;exact wC
 rw[C7 J,C7 K];unfold tbl at J;have r:=Hp h.Mail t ⟨(nth h.Objs i).Thread,(nth h.Objs i).Addr⟩ a.mail ω;by_cases l:b6 (eg h.Mail t ⟨(nth h.Objs i).Thread,(nth h.Objs i).Addr⟩)=true;rotate_left
 ·rw[C7 l]
  rw[C7 l,show b6 (eg h.Mail t ⟨(nth h.Objs i).Thread,(nth h.Objs i).Addr⟩)=false by simpa using l]at r;refine fM 148 [(380,[2,0]),(382,[2,0]),(384,[2,0,0]),(379,[2,0])] [(15,269,[68,69,70,71,72,73,74,75,77,67,78,79,11,0,1,2,3,4,5,6,7,13,8,1000,1001,1002,1003,1004,1013,9,10,11,12,14,1012,15]),(22,15,[92,93,94,95,96,97,98,99,100,101,102,103,104,105,106]),(25,271,[116,117,118,119,120,121,122,123,124,125,127,115,128,129,14,0,1,2,3,4,5,6,7,8,9,15,10,1000,1001,1002,1003,1015,11,12,13,14,16,1014,17])] [(0,0),(0,0),(0,0)] Tryz.func354 rfl (λu q=>?_)
  repeat'(first|refine gA ?_|(conv=>whnf);first|with_reducible refine Bf.D (λc=>?_) (λc=>?_)|refine C9 ?_|refine CK (by decide) ?_|refine CI (js b) ?_|refine C6 (o) ?_|refine CD (p) ⟨⟨rfl,bA h⟩,⟨rfl,rfl⟩,trivial⟩ ?_|refine CA (aa e) ?_|refine CF rfl (aa e) rfl ?_|refine C6 (G) ?_|refine CD (P) ⟨⟨rfl,CV _⟩,⟨rfl,rfl⟩,trivial⟩ ?_|refine CD (r) ⟨⟨rfl,aH.enc_fz h.Mail⟩,⟨rfl,rfl⟩,⟨rfl,rfl⟩,trivial⟩ ?_|refine C9 ?_)
  refine CE rfl rfl ?_;exact wC
 rw[C8 l];rw[C8 l,l]at r;have w:dZ h.Kernel (nth h.Objs i).Addr<h.Kernel.Machine.Frames.Cells.length:=by unfold dZ;omega
 have hcz:=Al s1;have B:=d4 (aK (nth h.Objs i).Size);unfold zf;generalize eg h.Mail t ⟨(nth h.Objs i).Thread,(nth h.Objs i).Addr⟩ = M at r;refine fM 148 [(380,[2,0]),(382,[2,0]),(384,[2,0,0]),(379,[2,0])] [(15,269,[68,69,70,71,72,73,74,75,77,67,78,79,11,0,1,2,3,4,5,6,7,13,8,1000,1001,1002,1003,1004,1013,9,10,11,12,14,1012,15]),(22,15,[92,93,94,95,96,97,98,99,100,101,102,103,104,105,106]),(25,271,[116,117,118,119,120,121,122,123,124,125,127,115,128,129,14,0,1,2,3,4,5,6,7,8,9,15,10,1000,1001,1002,1003,1015,11,12,13,14,16,1014,17])] [(0,0),(0,0),(0,0)] Tryz.func354 rfl (λu q=>?_)
 repeat'(first|refine gA ?_|(conv=>whnf);first|with_reducible refine Bf.D (λc=>?_) (λc=>?_)|refine C9 ?_|refine CK (by decide) ?_|refine CI (js b) ?_|refine C6 (o) ?_|refine CD (p) ⟨⟨rfl,bA h⟩,⟨rfl,rfl⟩,trivial⟩ ?_|refine CA (aa e) ?_|refine CF rfl (aa e) rfl ?_|refine C6 (G) ?_|refine CD (P) ⟨⟨rfl,CV _⟩,⟨rfl,rfl⟩,trivial⟩ ?_|refine CD (r) ⟨⟨rfl,aH.enc_fz h.Mail⟩,⟨rfl,rfl⟩,⟨rfl,rfl⟩,trivial⟩ ?_|refine C9 ?_)
 have Q:({{h with Mail:=M} with Kernel:=dP h.Kernel (nth h.Objs i).Addr 0} : ab) = {h with Mail:=M}:=AG {h with Mail:=M} _ w;have R:=T0 (λy:ab=>C.s .own (y.Kernel.Machine.Frames.Cells.map (aD .own))) Q
 (conv=>whnf)
 refine CC (ι:=Nat) (λk=>[(0,.hold .box (b8 {{h with Mail:=M} with Kernel:=dP h.Kernel (nth h.Objs i).Addr k})),(1,.hold .one [I ((t:Nat):Int)]),(2,.hold .one [I ((nth h.Objs i).Addr)]),(7,.hold .one [I ((i:Nat):Int)]),(8,.hold .box (bm.enc .own (nth h.Objs i))),(9,.hold .one [I (aK (nth h.Objs i).Size)]),(10,.hold .box (bi.enc .own (ar h.Kernel.Machine.Table ((nth h.Objs i).Addr / 16)))),(13,.hold .one [I ((k:Nat):Int)])]) (λk=>k<=(csz (aK (nth h.Objs i).Size)).toNat) (λk=>(csz (aK (nth h.Objs i).Size)).toNat - k) (0) ?_ (R0 _) λk hk=>?_
 ·repeat'(first|exact trivial|rfl |exact kP R|exact dx _|refine CH ?_ ?_|(exact yP (by first|omega|(simp only;omega)|(simp;omega))))
 have T:IntKind.i64.wrap 0=0:=rfl;have S:(nth h.Objs i).Addr.tmod 16=(nth h.Objs i).Addr % 16:=eM b.1;have g:(dP h.Kernel (nth h.Objs i).Addr k).Machine.Frames.Cells[(ar h.Kernel.Machine.Table ((nth h.Objs i).Addr / 16)).Frame.toNat]? = some (iB (nth h.Kernel.Machine.Frames.Cells (dZ h.Kernel (nth h.Objs i).Addr)) ((nth h.Objs i).Addr % 16).toNat k):=v3 w;by_cases lk:k<(csz (aK (nth h.Objs i).Size)).toNat
 ·have E:=ah (xs:=iB (nth h.Kernel.Machine.Frames.Cells (dZ h.Kernel (nth h.Objs i).Addr)) ((nth h.Objs i).Addr % 16).toNat k) (i:=((nth h.Objs i).Addr % 16+k).toNat) (by rw[lv,s4];omega)
  repeat'(first|refine gD ?_|(conv=>whnf);first|refine C9 ?_|refine CK (by decide) ?_|refine CO S ?_|refine C6 (B) ?_|refine CJ s2.1 (aa g) ?_|refine CF rfl (aa g) rfl ?_|refine CJ ω (aa E) ?_|refine Pu.two rfl rfl (aa g) rfl rfl rfl (aa E) rfl (R2 _) (Dz {h with Mail:=M} _ k _ b.1) ?_)
  ((conv=>whnf);refine CB (k+1) ω ω ?_;(exact wC))
 ·obtain rfl:k=(csz (aK (nth h.Objs i).Size)).toNat:=ω
  have c6:=mD {{h with Mail:=M} with Kernel:=dP h.Kernel (nth h.Objs i).Addr (csz (aK (nth h.Objs i).Size)).toNat} i j (by show h.Objs.length<=_;omega)
  repeat'(first|refine gA ?_|(conv=>whnf);first|with_reducible refine Bf.D (λc=>?_) (λc=>?_)|refine C9 ?_|refine C6 (B) ?_|refine CG (c6) (.inl rfl) ?_)
  refine CE rfl rfl ?_;exact wC
theorem Mp(h:ab)(i:Nat)(t:Int)(a:bn h [])(d:i<h.Objs.length):aP Tryz.prog 354 false [.ptr (b8 h),.val none [I t],.val none [I (nth h.Objs i).Addr]] [.ptr (b8 (if 0<=t/\t<=h.Caches.length - 1 then(freeT h t.toNat i).1 else h)),.val none [I t],.val none [I (nth h.Objs i).Addr]] .one [I (if 0<=t/\t<=h.Caches.length - 1 then(freeT h t.toNat i).2 else 1)]:=by
 have c:h.Caches.length<=4:=by have:=(dy.1 a.mail).1.2.1;have:=a.nc;omega
 by_cases b:0<=t/\t<=h.Caches.length - 1
 ·rw[C8 b,C8 b]
  obtain⟨n,rfl⟩:=O2 b.1;simp only[I2];by_cases e:(nth h.Objs i).Thread=n
  ·have:=EW h (nth h.Objs i) n a (am d) e c
   have g:gX h (nth h.Objs i).Addr=i:=by
    obtain⟨k,j,-⟩:=a.objAt (am d);exact gG (f:=(·.Addr)) (gY a.osr) k d (by rw[j])
   rw[g,<-sA e]at this;exact this
  ·exact BA h i n a d ω e
 ·rw[C7 b,C7 b]
  exact Aa h t _ c b
theorem KP(c:aA)(k:Nat):aA.enc .own (qB c k)=[.s .own ((c.Lists.map (aD .own)).set k (aD .own ((nth c.Lists k).take ((nth c.Lists k).length - 1))))]:=by simp[aA.enc,qB,Z4]
theorem NE(xs:List Int)(n:Nat):(xs.take n).map (rI .imm)=(xs.map (rI .imm)).take n:=R3
def PJ(c:aA)(k:Nat):List C:=if 0<(nth c.Lists k).length then aA.enc .own (qB c k)++[I (nth (nth c.Lists k) ((nth c.Lists k).length - 1)),B true] else aA.enc .own c++[I (-1),B false]
theorem Po(c:aA)(k:Nat):gr (PJ c k):=by
 unfold PJ;split
 ·exact aM (aA.enc_fr _) ⟨trivial,trivial,trivial⟩
 ·exact aM (aA.enc_fr _) ⟨trivial,trivial,trivial⟩
theorem vf(c:aA)(k:Nat)(h:bo c=true)(u:k<=3):ao Tryz.prog 289 false [.val (some 1) (aA.enc .imm c),.val none [I (k:Nat)]] (.tup [some 1,none,none]) (PJ c k):=by
 obtain⟨w,j⟩:=dL h;have n:aA.sml c:=⟨ω,λl r=>by have:=j l r;show l.length<=1048576;omega⟩
 have d:=uS c k n;rw[h,O0 ω]at d;have o:=ip c n;have b:=oz (c:=c) (k:=k) ω;have t:=j _ (am (xs:=c.Lists) (i:=k) ω);have a:=Po c k;unfold PJ at a |-;by_cases p:0<(nth c.Lists k).length
 ·rw[C8 p]at a |-
  have q:=ah (xs:=nth c.Lists k) (i:=(nth c.Lists k).length - 1) ω;have e:(nth c.Lists k)[(((nth c.Lists k).length:Int) - 1).toNat]? = some (nth (nth c.Lists k) ((nth c.Lists k).length - 1)):=by rw[show(((nth c.Lists k).length:Int) - 1).toNat=(nth c.Lists k).length - 1 by omega];exact q
  have g:((((nth c.Lists k).length:Nat):Int) - 1)=(((nth c.Lists k).length - 1:Nat):Int):=ω
  rw[KP]at a |-;refine fO 54 [(5,268,[32,33,34,35,36,37,38,39,40,41,42,44,0,1,2,3,4,5,6,7,8,9,10,11,1000,1001,1002,12,13]),(6,265,[45,46,47,48,49,50,51,52,53,0,1,2,3,4,5,6,7,8,9,1001,1002,1003,1004,1005,1006,1007,1008,10,11])] Tryz.func289 rfl ?_ (.inr a)
  repeat'(first|refine gA ?_|(conv=>whnf);first|with_reducible refine CA (aa b) ?_|refine C9 ?_|refine CF rfl (aa b) rfl ?_|refine C6 (d) ?_|refine C6 (o) ?_|refine CJ ω (aa e) ?_|refine CA (aa q) ?_|refine CS ((nth c.Lists k).length - 1) g (by rw[W0];omega) (aI λ_=>rfl) (NE _ _) ?_|refine C9 ?_|refine CR (λ_=>rfl) (λ_=>rfl) (by rw[I1];omega) (by decide) ?_|refine CM (λ_=>rfl) (λ_=>rfl) (by rw[I1];omega) (by decide) ?_|refine CL rfl rfl (aa b) rfl (X0 rfl) rfl ?_)
  rfl
 ·rw[C7 p]at a |-
  refine fO 54 [(5,268,[32,33,34,35,36,37,38,39,40,41,42,44,0,1,2,3,4,5,6,7,8,9,10,11,1000,1001,1002,12,13]),(6,265,[45,46,47,48,49,50,51,52,53,0,1,2,3,4,5,6,7,8,9,1001,1002,1003,1004,1005,1006,1007,1008,10,11])] Tryz.func289 rfl ?_ (.inr a)
  repeat'(first|refine gA ?_|(conv=>whnf);first|with_reducible refine CA (aa b) ?_|refine C9 ?_|refine CF rfl (aa b) rfl ?_|refine C6 (d) ?_|refine C6 (o) ?_)
  rfl
def P4(xs:List ay)(n:Int):List C:=bk .own (a8 xs n).1++[I (a8 xs n).2.1,B (a8 xs n).2.2]
theorem NK(xs:List ay)(n:Int):gr (P4 xs n):=aM (kJ _) ⟨trivial,trivial,trivial⟩
theorem nh(pages:Int)(xs:List ay)(n:Int)(w:0<=pages/\pages<=1048576)(l:bx pages xs=true)(J:1<=n/\n<=1000)(K:xs.length<=4096):ao Tryz.prog 294 false [.val none [I pages],.val none (bk .imm xs),.val none [I n]] (.tup [none,none,none]) (P4 xs n):=by
 have o:=kW pages xs w ⟨ω,λ_ _=>trivial⟩;rw[l]at o;have p:=(uo l).2;refine fO 98 [(8,21,[31,32,33,34,35,36,37,38,39,40,41,42,43,44,45,46,47,48,49,50,51]),(14,265,[71,72,73,74,76,77,78,79,81,0,1,2,3,5,6,7,8,10,4,1005,1006,1007,1008,1010,9,1010,11,1010,12,13])] Tryz.func294 rfl ?_ (.inr (NK xs n))
 repeat'(first|refine gD ?_|(conv=>whnf);first|refine C9 ?_|refine C6 (o) ?_|refine CM (λ_=>rfl) (λ_=>rfl) ω (by decide) ?_)
 (conv=>whnf)
 refine CC (ι:=Nat) (λi=>[(1,.hold .one (bk .imm xs)),(2,.hold .one [I (n)]),(9,.hold .one (bk .own xs)),(10,.hold .one [I (iF xs n i)]),(11,.hold .one [I ((i:Nat):Int)])]) (λi=>i<=xs.length) (λi=>xs.length - i) (0) ?_ (R0 _) λi y=>?_
 ·exact wC
 have h:=wx xs n i y;by_cases q:i<xs.length
 ·have j:=ah q
  have E:=p _ (am q);have a:iF xs n (i+1)=if n<=(nth xs i).Len/\(iF xs n i<0\/(nth xs i).Len<(nth xs (iF xs n i).toNat).Len) then((i:Nat):Int) else iF xs n i:=rfl
  by_cases r:n<=(nth xs i).Len
  ·by_cases F:iF xs n i<0
   ·rw[C8 ⟨r,.inl F⟩]at a
    repeat'(first|refine gD ?_|(conv=>whnf);first|with_reducible (first|refine CA (aa j) ?_|refine Bf.D (λc=>?_) (λc=>?_))|refine C9 ?_)
    ((conv=>whnf);refine CB (i+1) ω ω ?_)
    rw[a];exact wC
   ·have d:=ah (xs:=xs) (i:=(iF xs n i).toNat) ω
    by_cases G:(nth xs i).Len<(nth xs (iF xs n i).toNat).Len
    ·rw[C8 ⟨r,.inr G⟩]at a
     repeat'(first|refine gD ?_|(conv=>whnf);first|with_reducible (first|refine CA (aa j) ?_|refine CJ ω (aa d) ?_|refine Bf.D (λc=>?_) (λc=>?_))|refine C9 ?_)
     ((conv=>whnf);refine CB (i+1) ω ω ?_)
     rw[a];exact wC
    ·rw[C7 ω]at a
     repeat'(first|refine gD ?_|(conv=>whnf);first|with_reducible (first|refine CA (aa j) ?_|refine CJ ω (aa d) ?_|refine Bf.D (λc=>?_) (λc=>?_))|refine C9 ?_)
     ((conv=>whnf);refine CB (i+1) ω ω ?_)
     rw[a];exact wC
  ·rw[C7 ω]at a
   repeat'(first|refine gD ?_|(conv=>whnf);first|with_reducible (first|refine CA (aa j) ?_|refine Bf.D (λc=>?_) (λc=>?_))|refine C9 ?_)
   ((conv=>whnf);refine CB (i+1) ω ω ?_)
   rw[a];exact wC
 ·obtain rfl:i=xs.length:=ω
  change gt xs n = -1\/_ at h;unfold P4 a8;rw[show iF xs n xs.length=gt xs n from rfl];by_cases e:gt xs n<0
  ·rw[C8 e]
   rw[show gt xs n = -1 from h.resolve_right λg=>by have L:0<=gt xs n:=g.1;omega]
   repeat'(first|refine gD ?_|(conv=>whnf);first|with_reducible refine Bf.D (λc=>?_) (λc=>?_)|refine C9 ?_)
   rfl
  ·rw[C7 e]
   obtain⟨H,t,M⟩:=h.resolve_left ω;change 0<=gt xs n at H;change gt xs n<xs.length at t;obtain⟨b,k⟩:=O2 (show 0<=gt xs n by omega);rw[k]at t |-;simp only[I2];have d:=ah (xs:=xs) (i:=b) ω;have E:=p _ (am (xs:=xs) (i:=b) ω);by_cases u:(nth xs b).Len=n
   ·rw[C8 u]
    repeat'(first|refine gA ?_|(conv=>whnf);first|with_reducible (first|refine CA (aa d) ?_|refine Bf.D (λc=>?_) (λc=>?_))|refine C9 ?_|refine CS b rfl (by rw[W0];omega) (aI λ_=>rfl) R3 ?_|refine CU (b+1) rfl (by rw[W0];omega) (aI λ_=>rfl) T3 ?_|refine CR (λ_=>rfl) (λ_=>rfl) (by rw[I1];omega) (by decide) ?_|refine Ap.dele (λ_=>rfl) (λ_=>rfl) ω (by decide) ?_|refine CM (λ_=>rfl) (λ_=>rfl) (by rw[I1];omega) (by decide) ?_|refine C9 ?_)
    rfl
   ·rw[C7 u]
    repeat'(first|refine gA ?_|(conv=>whnf);first|with_reducible (first|refine CA (aa d) ?_|refine Bf.D (λc=>?_) (λc=>?_))|refine C9 ?_|refine CL rfl rfl (aa d) rfl (X0 rfl) rfl ?_)
    exact T0 (λz=>z++[I (nth xs b).At,B true]) (show [C.s dw.own _]=_ from by simp[bk,Z4];rfl)
theorem J8(k:af)(p:Int)(f:Nat):af.enc .own (pE k p f)=((af.enc .own k).set 1 (.s .own ((k.Machine.Frames.Used.map (rB .own)).set f (rB .own true)))).set 2 (.s .own ((k.Machine.Table.Entries.map (bi.enc .own)).set p.toNat (bi.enc .own ⟨2,(f:Nat)⟩))):=by
 simp[af.enc,pE,Z4]
theorem DW(k:af)(p:Int)(c:aB k=true)(y:k.Calls≠100000)(o:0<=p/\p<k.Machine.Table.Entries.length)(C:(nth k.Machine.Table.Entries p.toNat).Mode=0):aP Tryz.prog 296 false [.ptr (af.enc .own k),.val none [I p]] [.ptr (af.enc .own (fJ k p).1),.val none [I p]] .one [B (fJ k p).2]:=by
 have E:=bp c;have F:=aY.1 (aC.1 c).2.1;have G:=(br.1 (aC.1 c).2.2.1).2.2;have H:(du k).Machine.Table.Entries.length<=32:=G;have a:=A6 k.Machine.Frames ω;have d:=m8 k c y;have g:=dJ (du k) p E.1.2;have l:ar (du k).Machine.Table p=nth k.Machine.Table.Entries p.toNat:=by unfold ar;exact C8 o
 rw[l,C]at g;have h:=aE p 0 ((k.Machine.Table.Entries.length:Int) - 1);rw[O0 ω]at h;have r:=ah (xs:=k.Machine.Table.Entries) (i:=p.toNat) ω;change ao _ _ _ _ _ [I (qM k)]at a;unfold fJ;cases e:refd k<;>rw[e]at d
 ·by_cases j:qM k<0
  ·rw[C8 (.inr j)]
   refine fM 56 [(347,[2])] [] [(0,0),(0,0)] Tryz.func296 rfl (λu q=>?_)
   repeat'(first|refine gA ?_|(conv=>whnf);first|with_reducible refine Bf.D (λb=>?_) (λb=>?_)|refine CD (a) ⟨⟨rfl,aU.enc_fz _⟩,trivial⟩ ?_|refine CG (d) (.inl rfl) ?_|refine C6 (h) ?_|refine CD (g) ⟨CN (du k),⟨rfl,rfl⟩,trivial⟩ ?_)
   refine CE rfl ?_ ?_
   ·rfl
   ·exact wC
  ·rw[C7 (by simp[j])]
   obtain⟨n,t⟩:=DB j;obtain⟨f,J⟩:=O2 (show 0<=qM k by omega);rw[J]at a n t j |-;simp only[I2]at n t |-;have w:=ah (xs:=k.Machine.Frames.Used) (i:=f) n;rw[J8];refine fM 56 [(347,[2])] [] [(0,0),(0,0)] Tryz.func296 rfl (λu q=>?_)
   repeat'(first|refine gA ?_|(conv=>whnf);first|with_reducible refine Bf.D (λb=>?_) (λb=>?_)|refine CD (a) ⟨⟨rfl,aU.enc_fz _⟩,trivial⟩ ?_|refine CG (d) (.inl rfl) ?_|refine C6 (h) ?_|refine CD (g) ⟨CN (du k),⟨rfl,rfl⟩,trivial⟩ ?_|refine CA (aa w) ?_|refine CJ o.1 (aa r) ?_|refine CL rfl rfl (aa w) rfl (X0 rfl) rfl ?_|refine CL rfl rfl (aa r) rfl (X0 rfl) rfl ?_)
   refine CE rfl ?_ ?_
   ·rfl
   ·exact wC
 ·rw[C8 (.inl rfl)]
  refine fM 56 [(347,[2])] [] [(0,0),(0,0)] Tryz.func296 rfl (λu q=>?_)
  repeat'(first|refine gA ?_|(conv=>whnf);first|with_reducible refine Bf.D (λb=>?_) (λb=>?_)|refine CD (a) ⟨⟨rfl,aU.enc_fz _⟩,trivial⟩ ?_|refine CG (d) (.inl rfl) ?_|refine C6 (h) ?_|refine CD (g) ⟨CN (du k),⟨rfl,rfl⟩,trivial⟩ ?_)
  refine CE rfl ?_ ?_
  ·rfl
  ·exact wC
def P1(h:ab):List C:=(b8 h).drop 5
theorem D2(h:ab)(p:Int)(a:aB h.Kernel=true)(b:h.Kernel.Calls≠100000)(c:0<=p/\p<h.Kernel.Machine.Table.Entries.length)(d:(nth h.Kernel.Machine.Table.Entries p.toNat).Mode=0):aP Tryz.prog 296 false [.ptr (b8 h),.val none [I p]] [.ptr (b8 {h with Kernel:=(fJ h.Kernel p).1}),.val none [I p]] .one [B (fJ h.Kernel p).2]:=
 (DW h.Kernel p a b c d).frame (r:=P1 h) rfl
theorem Hi(h:ab)(i:Nat):b8 (slotT h i)=((b8 h).set 14 (I (Gz h.Seed))).set 6 (.s .own ((h.Spans.map (au.enc .own)).set i [I (nth h.Spans i).Page,I (nth h.Spans i).Class,I (gp (nth h.Spans i).Bits (pm h i))])):=by
 simp[b8,slotT,pC,Z4,au.enc]
theorem qX(h:ab)(E:List Int)(i:Nat)(c:bn h E)(k:i<h.Spans.length):aP Tryz.prog 291 false [.ptr (b8 h),.val none [I (i:Nat)]] [.ptr (b8 (nJ h i).1),.val none [I (i:Nat)]] .one [I (nJ h i).2]:=by
 have F:=c.lens;have G:=F.spans;have d:=ah k;have b:=c.L.sok _ (am k);have e:=dS b;have a:=c.nums;unfold cm at a;rw[C0]at a;have t:=(br.1 (aC.1 c.ker).2.2.1).2.2;have l:=qR c.L.sok (ps:=aT h (nth h.Spans i).Page) e (aT h (nth h.Spans i).Page).length;change 0<=gu h i/\gu h i<=65535 at l;have w:=mK (nth h.Spans i).Class;have y:=xy h i ⟨ω,λ_ _=>trivial⟩ ⟨by show h.Kernel.Machine.Table.Entries.length<=_;omega,λ_ _=>trivial⟩ c.L.sok k;have o:=vE (nth h.Spans i).Class (gu h i) ω;change ao _ _ _ _ _ (aD .own (mz h i)) at o;have p:=Ft (nth h.Spans i).Class (gu h i);change (mz h i).length<=16 at p;unfold nJ;by_cases B:(mz h i).length=0
 ·rw[C8 B]
  refine fM 68 [] [(2,7,[16,17,18,19,20,21,22]),(7,12,[42,43,44,45,46,47,48,49,50,51,52,53]),(8,11,[56,57,58,59,60,61,62,63,64,65,66])] [(0,0),(0,0)] Tryz.func291 rfl (λu q=>?_)
  repeat'(first|refine gA ?_|(conv=>whnf);first|refine CA (aa d) ?_|refine CF rfl (aa d) rfl ?_|refine C6 (w) ?_|refine CD (y) ⟨⟨rfl,bA h⟩,⟨rfl,rfl⟩,trivial⟩ ?_|refine C6 (o) ?_|refine C9 ?_)
  refine CE rfl rfl ?_;exact wC
 ·rw[C7 B]
  have H:=yS (h:=h) (i:=i) ω;obtain⟨C,D,O⟩:=wF H;have J:=(gh (aF b).2.2).2.2.1;have r:=vk h.Seed (n:=((mz h i).length:Nat)) ω;have K:=te h.Seed ((mz h i).length:Nat) ω ω;have M:=x6 (nth h.Spans i).Bits (pm h i) e ω;have N:=xL (pC (nth h.Spans i) (pm h i)) (pm h i) (A3 b ⟨C,D⟩) ⟨C,D⟩;have g:(mz h i)[(Ks h.Seed ((mz h i).length:Nat)).toNat]? = some (pm h i):=ah ω;have j:((h.Spans.map (au.enc .own)).set i [I (nth h.Spans i).Page,I (nth h.Spans i).Class,I (gp (nth h.Spans i).Bits (pm h i))])[i]? = some [I (nth h.Spans i).Page,I (nth h.Spans i).Class,I (gp (nth h.Spans i).Bits (pm h i))]:=lZ k;unfold tf;rw[Hi];refine fM 68 [] [(2,7,[16,17,18,19,20,21,22]),(7,12,[42,43,44,45,46,47,48,49,50,51,52,53]),(8,11,[56,57,58,59,60,61,62,63,64,65,66])] [(0,0),(0,0)] Tryz.func291 rfl (λu q=>?_)
  repeat'(first|refine gA ?_|(conv=>whnf);first|refine CA (aa d) ?_|refine CA j ?_|refine CF rfl (aa g) rfl ?_|refine CF rfl (aa d) rfl ?_|refine CF rfl j rfl ?_|refine C6 (w) ?_|refine CD (y) ⟨⟨rfl,bA h⟩,⟨rfl,rfl⟩,trivial⟩ ?_|refine C6 (o) ?_|refine C6 (K) ?_|refine C6 (M) ?_|refine C6 (N) ?_|refine CJ r.1 (aa g) ?_|refine C9 ?_|refine CL rfl rfl (aa d) rfl (X0 rfl) rfl ?_)
  refine CE rfl ?_ ?_
  ·rfl
  ·exact wC
theorem Ap.ins{α:Type}{e:α->List C}{xs:List α}{y:α}{r:List C}{i sz by_:Nat}{K:List (List C)->Prop}(a:r=e y)(b:∀y,(e y).length=sz)(c:∀y,aV (e y)=true)(h:xs.length<=1048576)(d:by_<=1000)(f:K ((xs.take i++y::xs.drop i).map e)):Ap true ((xs.take i).map e++[r]) ((xs.drop i).map e) sz by_ K:=by
 subst a;have g:(xs.take i).length+1+(xs.drop i).length<=3145728:=by rw[I1,X2];omega
 refine CQ (λr a=>?_) (aI b) (λ_ r a=>by obtain⟨y,-,rfl⟩:=U3.1 a;exact c y) (by simp only[W2,W0,List.length_singleton];omega) (by simp only[W2,W0,List.length_singleton];exact t4 (Nat.mul_le_mul g d) (by decide)) ?_ f
 ·rcases Q2.1 a with a|a
  ·exact aI b r a
  ·rw[Z0.1 a];exact b y
 ·rw[V4,X4,U4];rfl
theorem uv{α:Type}{p:α->Bool}{xs:List α}{y:α}{i:Nat}(h:jE p xs=i):je p xs y=xs.take i++y::xs.drop i:=by unfold je;rw[h]
def Gl(h:ab)(c:Int):ab × Int:=
 if(a8 h.Free 1).2.2=false then(h,-1)
 else if(fJ h.Kernel (a8 h.Free 1).2.1).2=false then({h with Kernel:=(fJ h.Kernel (a8 h.Free 1).2.1).1},-1)
 else(vW h c,(tO h:Nat))
theorem zZ(h:ab)(E:List Int)(c:Nat)(g:bn h E)(J:h.Kernel.Calls<=90000):aP Tryz.prog 292 false [.ptr (b8 h),.val none [I (c:Nat)]] [.ptr (b8 (Gl h c).1),.val none [I (c:Nat)]] .one [I (Gl h c).2]:=by
 have B:=g.lens;have K:=B.spans;have L:dU h<=32:=B.ents;have C:=gw h;have l:=nh (dU h:Nat) h.Free 1 ⟨ω,ω⟩ g.rng (by decide) (by have:=B.free;omega);unfold P4 at l;have d:=kz g (z4 1);unfold Gl vW tO;generalize a8 h.Free 1=r at l d |-;obtain⟨o,p,ok⟩:=r;simp only at l d |-;cases ok with
 | false=>
  rw[C8 rfl];refine fM 79 [(296,[2,0]),(2000010,[0,6])] [(1,267,[11,12,13,14,15,16,17,10,18,19,20,0,1,2,3,4,5,6,7,8,9,10,11,1009,1010,12,1010,13])] [(0,0),(0,0)] Tryz.func292 rfl (λu q=>?_)
  repeat'(first|refine gO ?_|(conv=>whnf);first|refine C9 ?_|refine CD (C) ⟨bA h,trivial⟩ ?_|refine CD (l) ⟨⟨rfl,rfl⟩,⟨rfl,d5 h.Free⟩,⟨rfl,rfl⟩,trivial⟩ ?_|refine C9 ?_)
  refine CE rfl rfl ?_;exact wC
 | true=>
  rw[C7 (by simp)];obtain⟨M,N,O,V⟩:=d rfl;have F:0<=p/\p<h.Kernel.Machine.Table.Entries.length:=⟨M,by have:p+1<=((tbl h).Entries.length:Nat):=N;unfold tbl at this;omega⟩
  have t:=D2 h p g.ker ω F (O p.toNat ω ω);generalize fJ h.Kernel p=w at t |-;obtain⟨k,b⟩:=w;simp only at t |-;cases b with
  | false=>
   rw[C8 rfl];refine fM 79 [(296,[2,0]),(2000010,[0,6])] [(1,267,[11,12,13,14,15,16,17,10,18,19,20,0,1,2,3,4,5,6,7,8,9,10,11,1009,1010,12,1010,13])] [(0,0),(0,0)] Tryz.func292 rfl (λu q=>?_)
   repeat'(first|refine gO ?_|(conv=>whnf);first|refine C9 ?_|refine CD (C) ⟨bA h,trivial⟩ ?_|refine CD (l) ⟨⟨rfl,rfl⟩,⟨rfl,d5 h.Free⟩,⟨rfl,rfl⟩,trivial⟩ ?_|refine CG (t) (.inl rfl) ?_|refine C9 ?_)
   refine CE rfl rfl ?_;exact wC
  | true=>
   rw[C7 (by simp)];refine fM 79 [(296,[2,0]),(2000010,[0,6])] [(1,267,[11,12,13,14,15,16,17,10,18,19,20,0,1,2,3,4,5,6,7,8,9,10,11,1009,1010,12,1010,13])] [(0,0),(0,0)] Tryz.func292 rfl (λu q=>?_)
   repeat'(first|refine gO ?_|(conv=>whnf);first|refine C9 ?_|refine CD (C) ⟨bA h,trivial⟩ ?_|refine CD (l) ⟨⟨rfl,rfl⟩,⟨rfl,d5 h.Free⟩,⟨rfl,rfl⟩,trivial⟩ ?_|refine CG (t) (.inl rfl) ?_|refine C9 ?_)
   (conv=>whnf)
   refine CC (ι:=Nat) (λi=>[(0,.hold .box (b8 {h with Kernel:=k,Free:=o})),(1,.hold .one [I ((c:Nat):Int)]),(6,.hold .one [I (p)]),(8,.hold .one [I ((i:Nat):Int)])]) (λi=>i<=h.Spans.length/\∀(j:Nat)(z:au),j<i->h.Spans[j]? = some z->Jn p z=false) (λi=>h.Spans.length - i) (0) ?_ (⟨R0 _,λj z W=>ω⟩) λi g=>?_
   ·exact wC
   obtain⟨P,G⟩:=g;have Q:({h with Kernel:=k,Free:=o} : ab).Spans.length=h.Spans.length:=rfl;by_cases R:i<h.Spans.length/\(nth h.Spans i).Page<p
   ·have n:=ah R.1
    repeat'(first|refine gD ?_|(conv=>whnf);first|with_reducible refine CA (aa n) ?_|refine C9 ?_|refine CF rfl (aa n) rfl ?_)
    ((conv=>whnf);refine CB (i+1) ⟨ω,di n (Q0 ω) G⟩ ω ?_;(exact wC))
   ·have a:jE (Jn p) h.Spans=i:=un ω G λz H=>by
     have S:=(V1.1 H).1;have:z=nth h.Spans i:=(bw H).symm;subst this;exact O0 ω
    have n:i<h.Spans.length->h.Spans[i]? = some (nth h.Spans i):=λT=>ah T
    rw[show addS h k o p (c:Nat) = {h with Kernel:=k,Free:=o,Spans:=h.Spans.take i++⟨p,(c:Nat),0⟩::h.Spans.drop i} by unfold addS;rw[uv a],a]
    repeat'(first|refine gD ?_|(conv=>whnf);first|with_reducible (first|refine CA (aa (n ω)) ?_|refine Bf.D (λU=>?_) (λU=>?_))|refine C9 ?_|refine CF rfl (aa (n ω)) rfl ?_|refine Fa.mk rfl (uD h.Spans) rfl ?_|refine CS i rfl (by rw[W0];omega) (aI λ_=>rfl) R3 ?_|refine CU i rfl (by rw[W0];omega) (aI λ_=>rfl) T3 ?_|refine CM (λ_=>rfl) (λ_=>rfl) (by rw[I1];omega) (by decide) ?_|refine Ap.sn (aI λ_=>rfl) rfl (by rw[W0,I1];omega) (by decide) rfl ?_|refine Ap.ins (e:=au.enc .imm) (y:=⟨p,(c:Nat),0⟩) rfl (λ_=>rfl) (λ_=>rfl) ω (by decide) ?_)
    all_goals
     refine CE rfl rfl ?_;exact wC
theorem DS{h:ab}{c:Int}{i:Nat}(a:i<h.Spans.length)(b:rJ h c i=true)(d:∀j,j<i->rJ h c j=false):rF h c=some i:=
 List.find?_range_eq_some.2 ⟨b,List.mem_range.2 a,λj e=>by rw[d j e];rfl⟩
theorem D0{h:ab}{c:Int}(a:∀j,j<h.Spans.length->rJ h c j=false):rF h c=none:=
 List.find?_range_eq_none.2 λj b=>by rw[a j b];rfl
theorem sg{h:ab}{c:Int}{i:Nat}(a:rJ h c i=false)(b:∀j,j<i->rJ h c j=false):∀j,j<i+1->rJ h c j=false:=λj d=>by
 by_cases e:j=i
 ·rw[e];exact a
 ·exact b j ω
theorem GS(h:ab)(t:Nat)(c:aA):b8 {h with Caches:=h.Caches.set t c} = (b8 h).set 9 (.s .own ((h.Caches.map (aA.enc .own)).set t (aA.enc .own c))):=by
 simp[b8,Z4]
theorem JN{h:ab}{c:Nat}(b:bn h [])(l:c<=3)(e:h.Kernel.Calls<=90000)(h1:¬(a8 h.Free 1).2.2=false)(f:¬(fJ h.Kernel (a8 h.Free 1).2.1).2=false):bn (vW h c) []/\tO h<(vW h c).Spans.length:=by
 have a:(a8 h.Free 1).2.2=true:=by simpa using h1
 obtain⟨g,i,j,n⟩:=kz b (z4 1) a;have s:=AP.of (p:=(a8 h.Free 1).2.1) b.ker ω ⟨g,by have:(a8 h.Free 1).2.1+1<=(h.Kernel.Machine.Table.Entries.length:Nat):=i;omega⟩ (j _ ω ω);have d:(fJ h.Kernel (a8 h.Free 1).2.1).2=true:=by simpa using f
 have k:AP h.Kernel (a8 h.Free 1).2.1 ((fJ h.Kernel (a8 h.Free 1).2.1).1,true):=by rw[<-d];exact s
 exact⟨b.addS (c:=c) ⟨ω,ω⟩ a k,(G7 (Jn (a8 h.Free 1).2.1) h.Spans ⟨(a8 h.Free 1).2.1,c,0⟩).1⟩
theorem xM(h:ab)(t c:Nat)(o:bn h [])(M:t<h.Caches.length)(N:c<=3)(p:h.Kernel.Calls<=90000):aP Tryz.prog 234 false [.ptr (b8 h),.val none [I (t:Nat)],.val none [I (c:Nat)]] [.ptr (b8 (eL h t c).1),.val none [I (t:Nat)],.val none [I (c:Nat)]] .one [I (eL h t c).2]:=by
 have E:=o.cach _ (am M);have e:=ah M;have r:=vf (nth h.Caches t) c E N;have Q:=o.lens.spans;have B:=o;unfold PJ at r;by_cases F:0<(nth (nth h.Caches t).Lists c).length
 ·unfold eL
  rw[C8 F]at r |-;simp only;rw[GS];refine fM 80 [(291,[2,0]),(292,[2,0])] [(3,6,[27,28,29,30,31,32])] [(0,0),(0,0),(0,0)] Tryz.func234 rfl (λu q=>?_)
  repeat'(first|refine gO ?_|(conv=>whnf);first|with_reducible refine CA (aa e) ?_|refine CF rfl (aa e) rfl ?_|refine CD (r) ⟨⟨rfl,CY _⟩,⟨rfl,rfl⟩,trivial⟩ ?_|refine C9 ?_|refine CL rfl rfl (aa e) rfl (X0 rfl) rfl ?_)
  refine CE rfl rfl ?_;exact wC
 ·rw[C7 F]at r
  have d:eL h t c=match rF h c with
   | some i=>(slotT h i,tf h i)
   | none=>if(a8 h.Free 1).2.2=false then(h,-1)
    else if(fJ h.Kernel (a8 h.Free 1).2.1).2=false then({h with Kernel:=(fJ h.Kernel (a8 h.Free 1).2.1).1},-1)
    else nJ (vW h c) (tO h):=by unfold eL;exact C7 F
  refine fM 80 [(291,[2,0]),(292,[2,0])] [(3,6,[27,28,29,30,31,32])] [(0,0),(0,0),(0,0)] Tryz.func234 rfl (λu q=>?_)
  repeat'(first|refine gO ?_|(conv=>whnf);first|with_reducible refine CA (aa e) ?_|refine CF rfl (aa e) rfl ?_|refine CD (r) ⟨⟨rfl,CY _⟩,⟨rfl,rfl⟩,trivial⟩ ?_|refine C9 ?_)
  (conv=>whnf)
  refine CC (ι:=Nat) (λi=>[(0,.hold .box (b8 h)),(1,.hold .one [I ((t:Nat):Int)]),(2,.hold .one [I ((c:Nat):Int)]),(10,.hold .one [I ((i:Nat):Int)])]) (λi=>i<=h.Spans.length/\∀j,j<i->rJ h c j=false) (λi=>h.Spans.length - i) (0) ?_ (⟨R0 _,λj W=>ω⟩) λi o=>?_
  ·exact wC
  obtain⟨R,w⟩:=o;by_cases C:i<h.Spans.length
  ·have l:=ah C
   by_cases O:(nth h.Spans i).Class=c
   ·have y:=t7 h (nth h.Spans i).Page
    cases D:eR h (nth h.Spans i).Page with
    | true=>
     rw[D]at y
     repeat'(first|refine gA ?_|(conv=>whnf);first|with_reducible refine CA (aa l) ?_|refine CF rfl (aa l) rfl ?_|refine CD (y) ⟨bA h,⟨rfl,rfl⟩,trivial⟩ ?_)
     ((conv=>whnf);refine CB (i+1) ⟨ω,sg (by unfold rJ;rw[D];simp) w⟩ ω ?_;(exact wC))
    | false=>
     rw[D]at y;have n:=qX h [] i B C;unfold nJ at n;by_cases P:(mz h i).length=0
     ·rw[C8 P]at n
      repeat'(first|refine gA ?_|(conv=>whnf);first|with_reducible refine CA (aa l) ?_|refine CF rfl (aa l) rfl ?_|refine CD (y) ⟨bA h,⟨rfl,rfl⟩,trivial⟩ ?_|refine CG (n) (.inl rfl) ?_)
      ((conv=>whnf);refine CB (i+1) ⟨ω,sg (by unfold rJ;rw[Q0 (by omega:¬0<(mz h i).length)];simp) w⟩ ω ?_;(exact wC))
     ·rw[C7 P]at n
      have G:rF h c=some i:=DS C (by unfold rJ;rw[O0 O,D,O0 ω];rfl) w;rw[G]at d;simp only at d;obtain⟨S,T⟩:=B.slotT C (by omega:0<(mz h i).length);have H:=jd.nn S T;rw[d];generalize slotT h i=g at n |-;generalize tf h i=a at n H |-
      repeat'(first|refine gA ?_|(conv=>whnf);first|with_reducible refine CA (aa l) ?_|refine CF rfl (aa l) rfl ?_|refine CD (y) ⟨bA h,⟨rfl,rfl⟩,trivial⟩ ?_|refine CG (n) (.inl rfl) ?_)
      refine CE rfl rfl ?_;exact wC
   ·repeat'(first|refine gA ?_|(conv=>whnf);first|with_reducible refine CA (aa l) ?_|refine CF rfl (aa l) rfl ?_)
    ((conv=>whnf);refine CB (i+1) ⟨ω,sg (by unfold rJ;rw[Q0 O];rfl) w⟩ ω ?_;(exact wC))
  ·obtain rfl:i=h.Spans.length:=ω
   have G:rF h c=none:=D0 w;rw[G]at d;simp only at d;have k:=zZ h [] c B p;rw[d];unfold Gl at k;by_cases J:(a8 h.Free 1).2.2=false
   ·rw[C8 J]at k |-
    repeat'(first|refine gD ?_|(conv=>whnf);first|refine CG (k) (.inl rfl) ?_)
    refine CE rfl rfl ?_;exact wC
   ·rw[C7 J]at k |-
    by_cases K:(fJ h.Kernel (a8 h.Free 1).2.1).2=false
    ·rw[C8 K]at k |-
     repeat'(first|refine gD ?_|(conv=>whnf);first|refine CG (k) (.inl rfl) ?_)
     refine CE rfl rfl ?_;exact wC
    ·rw[C7 K]at k |-
     obtain⟨U,V⟩:=JN B N p J K;have L:=qX (vW h c) [] (tO h) U V;generalize vW h c=g at k L |-;generalize tO h=b at k L |-
     repeat'(first|refine gD ?_|(conv=>whnf);first|refine CG (k) (.inl rfl) ?_|refine CG (L) (.inl rfl) ?_)
     refine CE rfl rfl ?_;exact wC
def HN(h:ab)(size:Int):ab × Int:=
 if(a8 h.Free (kw size:Nat)).2.2=false then(h,-1)
 else if(iN h size).2=kw size then({h with Kernel:=(iN h size).1,Free:=(a8 h.Free (kw size:Nat)).1,Larges:=je (Nv (a8 h.Free (kw size:Nat)).2.1) h.Larges ⟨(a8 h.Free (kw size:Nat)).2.1,(kw size:Nat),size⟩},16*(a8 h.Free (kw size:Nat)).2.1)
 else({h with Kernel:=d6 (iN h size).1 (a8 h.Free (kw size:Nat)).2.1 (iN h size).2},-1)
theorem uQ(k:af)(p:Int)(i:Nat):cy k p (i+1)=if(cy k p i).2=i then((fJ (cy k p i).1 (p+(i:Nat))).1,if(fJ (cy k p i).1 (p+(i:Nat))).2=true then i+1 else i) else cy k p i:=rfl
theorem B9(k:af)(p:Int):∀i,(cy k p i).2<=i
 | 0=>R2 _
 | i+1=>by
  have b:=B9 k p i;rw[uQ];by_cases e:(cy k p i).2=i
  ·rw[C8 e]
   show(if _ then i+1 else i)<=i+1;by_cases a:(fJ (cy k p i).1 (p+(i:Nat))).2=true
   ·rw[C8 a];exact R2 _
   ·rw[C7 a];exact Nat.le_succ _
  ·rw[C7 e];omega
theorem m9{k:af}{p:Int}{i:Nat}(h:(cy k p i).2≠i):∀j,cy k p (i+j)=cy k p i/\(cy k p (i+j)).2<i+j
 | 0=>⟨rfl,by show(cy k p i).2<i;have:=B9 k p i;omega⟩
 | j+1=>by
  have a:=m9 h j;have e:cy k p (i+(j+1))=cy k p (i+j):=by
   show cy k p (i+j+1)=_;rw[uQ,C7 ω]
  exact⟨e.trans a.1,by rw[e];omega⟩
theorem xZ(h:ab)(size:Int)(l:bn h [])(C:9<=size/\size<=1000)(V:h.Kernel.Calls<=90000):aP Tryz.prog 235 false [.ptr (b8 h),.val none [I size]] [.ptr (b8 (HN h size).1),.val none [I size]] .one [I (HN h size).2]:=by
 have E:=l.lens;have W:=E.larges;have Q:=l;have F:dU h<=32:=E.ents;have G:eO size=((kw size:Nat):Int):=by unfold eO kw;split<;>omega
 have hN:1<=kw size/\kw size<=63:=by unfold kw;omega
 have H:=kZ size;rw[G]at H;have R:=gw h;have t:=nh (dU h:Nat) h.Free (kw size:Nat) ⟨ω,ω⟩ l.rng ⟨ω,ω⟩ (by have:=E.free;omega);unfold P4 at t;have b:=kz l (show(1:Int)<=(kw size:Nat) by omega);unfold HN iN;generalize kw size=N at *;generalize a8 h.Free (N:Nat)=r at t b |-;obtain⟨J,p,ok⟩:=r;simp only at t b |-;refine fM 105 [(296,[2,0]),(297,[2,0]),(2000018,[0,7])] [(2,268,[16,17,18,19,20,21,22,23,15,24,25,26,0,1,2,3,4,5,6,7,8,9,10,11,12,1010,1011,13,1011,14])] [(0,0),(0,0)] Tryz.func235 rfl (λu q=>?_);cases ok with
 | false=>
  rw[C8 rfl]
  repeat'(first|refine gO ?_|(conv=>whnf);first|refine C9 ?_|refine C6 (H) ?_|refine CD (R) ⟨bA h,trivial⟩ ?_|refine CD (t) ⟨⟨rfl,rfl⟩,⟨rfl,d5 h.Free⟩,⟨rfl,rfl⟩,trivial⟩ ?_|refine C9 ?_)
  refine CE rfl rfl ?_;exact wC
 | true=>
  rw[C7 (by simp)];obtain⟨S,K,B,u4⟩:=b rfl;change p+(N:Nat)<=(h.Kernel.Machine.Table.Entries.length:Nat) at K;change ∀q:Nat,p<=q->(q:Int)<p+(N:Nat)->(nth h.Kernel.Machine.Table.Entries q).Mode=0 at B
  have X:h.Kernel.Machine.Table.Entries.length<=32:=F
  repeat'(first|refine gO ?_|(conv=>whnf);first|refine C9 ?_|refine C6 (H) ?_|refine CD (R) ⟨bA h,trivial⟩ ?_|refine CD (t) ⟨⟨rfl,rfl⟩,⟨rfl,d5 h.Free⟩,⟨rfl,rfl⟩,trivial⟩ ?_|refine C9 ?_)
  (conv=>whnf)
  refine CC (ι:=Nat) (λi=>[(0,.hold .box (b8 {h with Kernel:=(cy h.Kernel p i).1})),(1,.hold .one [I (size)]),(5,.hold .one [I ((N:Nat):Int)]),(6,.hold .one (bk .own J)),(7,.hold .one [I (p)]),(9,.hold .one [I ((i:Nat):Int)])]) (λi=>i<=N/\(cy h.Kernel p i).2=i) (λi=>N - i) (0) ?_ (⟨R0 _,rfl⟩) λi l=>?_
  ·exact wC
  obtain⟨L,M⟩:=l;have s:=n9.of (p:=p) (n:=N) Q.ker ω ⟨S,K⟩ B i L;have Y:=s.calls;have Z:=s.len;by_cases li:i<N
  ·have O:(nth (cy h.Kernel p i).1.Machine.Table.Entries (p+(i:Nat)).toNat).Mode=0:=by
    rw[s.out _ (by rw[M];omega)];exact B _ ω ω
   have c:=D2 {h with Kernel:=(cy h.Kernel p i).1} (p+(i:Nat)) s.ker (by show(cy h.Kernel p i).1.Calls≠100000;omega) ⟨ω,by show p+(i:Nat)<((cy h.Kernel p i).1.Machine.Table.Entries.length:Nat);omega⟩ O;have a:cy h.Kernel p (i+1)=((fJ (cy h.Kernel p i).1 (p+(i:Nat))).1,if(fJ (cy h.Kernel p i).1 (p+(i:Nat))).2=true then i+1 else i):=by
    show(if(cy h.Kernel p i).2=i then _ else _)=_;rw[C8 M]
   simp only at c;cases e:(fJ (cy h.Kernel p i).1 (p+(i:Nat))).2 with
   | true=>
    rw[e]at c a;rw[C8 rfl]at a;have P:(fJ (cy h.Kernel p i).1 (p+(i:Nat))).1=(cy h.Kernel p (i+1)).1:=by rw[a]
    rw[P]at c
    repeat'(first|refine gD ?_|(conv=>whnf);first|refine C9 ?_|refine CG (c) (.inl rfl) ?_)
    ((conv=>whnf);refine CB (i+1) ⟨ω,by rw[a]⟩ ω ?_;(exact wC))
   | false=>
    rw[e]at c a;rw[C7 (by simp)]at a;have d:=m9 (k:=h.Kernel) (p:=p) (i:=i+1) (by rw[a];simp only;omega) (N - (i+1));rw[show i+1+(N - (i+1))=N by omega]at d;rw[d.1]at d;have T:=n9.of (p:=p) (n:=N) Q.ker ω ⟨S,K⟩ B (i+1) ω;rw[C7 (by have:=m9 (k:=h.Kernel) (p:=p) (i:=i+1) (by rw[a];simp only;omega) (N - (i+1));rw[show i+1+(N - (i+1))=N by omega]at this;omega)];rw[show cy h.Kernel p N=cy h.Kernel p (i+1) by have:=m9 (k:=h.Kernel) (p:=p) (i:=i+1) (by rw[a];simp only;omega) (N - (i+1));rw[show i+1+(N - (i+1))=N by omega]at this;exact this.1];rw[a]at T |-;have g:=T.ker;simp only at g |-;generalize (fJ (cy h.Kernel p i).1 (p+(i:Nat))).1=k at c g |-
    repeat'(first|refine gD ?_|(conv=>whnf);first|refine C9 ?_|refine CG (c) (.inl rfl) ?_)
    (conv=>whnf)
    refine CC (ι:=Nat) (λj=>[(0,.hold .box (b8 {h with Kernel:=d6 k p j})),(1,.hold .one [I (size)]),(5,.hold .one [I ((N:Nat):Int)]),(7,.hold .one [I (p)]),(9,.hold .one [I ((i:Nat):Int)]),(10,.hold .one [I ((j:Nat):Int)])]) (λj=>j<=i) (λj=>i - j) (0) ?_ (R0 _) λj hj=>?_
    ·exact wC
    have c4:=lQ {h with Kernel:=d6 k p j} (p+(j:Nat)) (jB g p j);by_cases lj:j<i
    ·repeat'(first|refine gD ?_|(conv=>whnf);first|refine C9 ?_|refine CG (c4) (.inl rfl) ?_)
     ((conv=>whnf);refine CB (j+1) ω ω ?_;(exact wC))
    ·obtain rfl:j=i:=ω
     repeat'(first|refine gD ?_|(conv=>whnf);first|refine C9 ?_)
     refine CE rfl rfl ?_;exact wC
  ·obtain rfl:i=N:=ω
   rw[C8 M];generalize (cy h.Kernel p i).1=k
   repeat'(first|refine gD ?_|(conv=>whnf);first|refine C9 ?_)
   (conv=>whnf)
   refine CC (ι:=Nat) (λm=>[(0,.hold .box (b8 {h with Kernel:=k,Free:=J})),(1,.hold .one [I (size)]),(5,.hold .one [I ((i:Nat):Int)]),(7,.hold .one [I (p)]),(11,.hold .one [I ((m:Nat):Int)])]) (λm=>m<=h.Larges.length/\∀(j:Nat)(z:ax),j<m->h.Larges[j]? = some z->Nv p z=false) (λm=>h.Larges.length - m) (0) ?_ (⟨R0 _,λj z hj=>ω⟩) λm hm=>?_
   ·exact wC
   obtain⟨hm',U⟩:=hm;have hl2:({h with Kernel:=k,Free:=J} : ab).Larges.length=h.Larges.length:=rfl;by_cases go:m<h.Larges.length/\(nth h.Larges m).Page<p
   ·have o:=ah go.1
    repeat'(first|refine gD ?_|(conv=>whnf);first|with_reducible refine CA (aa o) ?_|refine C9 ?_|refine CF rfl (aa o) rfl ?_)
    ((conv=>whnf);refine CB (m+1) ⟨ω,di o (Q0 ω) U⟩ ω ?_;(exact wC))
   ·have w:jE (Nv p) h.Larges=m:=un ω U λz C=>by
     have hlt:=(V1.1 C).1;have:z=nth h.Larges m:=(bw C).symm;subst this;exact O0 ω
    have o:m<h.Larges.length->h.Larges[m]? = some (nth h.Larges m):=λhh=>ah hh
    rw[uv w]
    repeat'(first|refine gD ?_|(conv=>whnf);first|with_reducible (first|refine CA (aa (o ω)) ?_|refine Bf.D (λhq=>?_) (λhq=>?_))|refine C9 ?_|refine CF rfl (aa (o ω)) rfl ?_|refine Fa.mk rfl (rC h.Larges) rfl ?_|refine CS m rfl (by rw[W0];omega) (aI λ_=>rfl) R3 ?_|refine CU m rfl (by rw[W0];omega) (aI λ_=>rfl) T3 ?_|refine CM (λ_=>rfl) (λ_=>rfl) (by rw[I1];omega) (by decide) ?_|refine Ap.sn (aI λ_=>rfl) rfl (by rw[W0,I1];omega) (by decide) rfl ?_|refine Ap.ins (e:=ax.enc .imm) (y:=⟨p,(i:Nat),size⟩) rfl (λ_=>rfl) (λ_=>rfl) ω (by decide) ?_)
    all_goals
     refine CE rfl ?_ ?_
     ·exact T0 (λz=>[I z]) ω
     ·exact wC
theorem BV{k:af}(h:aB k=true)(b:iG k.Refuse):af.wf k:=by
 obtain⟨p,f,g,q,t⟩:=aC.1 h;obtain⟨u,w,y,A⟩:=aY.1 f;obtain⟨i,B,C⟩:=br.1 g;refine⟨⟨⟨⟨ω,λr b=>?_⟩,⟨ω,λ_ _=>trivial⟩⟩,⟨ω,λe l=>?_⟩⟩,⟨ω,ω⟩,b⟩
 ·obtain⟨j,c,rfl⟩:=bf b
  obtain⟨D,n⟩:=zx h c;exact⟨ω,λv o=>by have:=n v o;exact⟨ω,ω⟩⟩
 ·obtain⟨j,c,rfl⟩:=bf l
  have a:=i j c;unfold kj at a;rw[C0]at a;by_cases d:(nth k.Machine.Table.Entries j).Mode=0
  ·have:=a.2.2.1 d;exact⟨⟨ω,ω⟩,⟨ω,ω⟩⟩
  ·have:=a.2.2.2 d;exact⟨⟨ω,ω⟩,⟨ω,ω⟩⟩
theorem G3{p:ci}(h:eH p=true):ci.wf p:=by
 have a:=λi b=>l9 h (i:=i) b
 have e:p.Cells.length<=16:=lM h;unfold eH at h;simp only[I0,C0]at h;exact⟨⟨ω,ω⟩,⟨ω,ω⟩,⟨ω,λv c=>by
   obtain⟨j,d,rfl⟩:=bf c;have:=a j d;exact⟨ω,ω⟩⟩⟩
theorem bn.jobWf{h:ab}{E:List Int}(a:bn h E):cj.wf h.Job/\cj.sml h.Job:=by
 cases b:h.Meshing with
 | true=>
  obtain⟨c,f,g,i,j⟩:=f6.1 (a.job b).1;have k:=lM c;exact⟨⟨G3 c,⟨ω,ω⟩,⟨ω,ω⟩⟩,by show h.Job.Plan.Cells.length<=1048576;omega⟩
 | false=>
  have:=a.noj b;unfold qG at this;rw[C0]at this;obtain⟨l,n,e,o,p⟩:=this;refine⟨⟨⟨⟨ω,ω⟩,⟨ω,ω⟩,⟨ω,λv d=>?_⟩⟩,⟨ω,ω⟩,⟨ω,ω⟩⟩,by show h.Job.Plan.Cells.length<=1048576;omega⟩;rw[V5 e]at d;cases d
theorem uC{n:Int}(h:0<=aK n):1<=n/\n<=8:=by
 unfold aK at h
 repeat' split at h
 all_goals omega
theorem jd.wf{h:ab}{E:List Int}(b:bn h E){a c:Int}(d:jd h.Spans a c):lN a:=by
 have:=d.bd b;exact⟨ω,ω⟩
theorem bn.wf{h:ab}{E:List Int}(d:bn h E)(M:iG h.Kernel.Refuse):ab.wf h:=by
 have q:=d.lens;have r:=d.L;have D:=d.nums;unfold cm at D;rw[C0]at D;obtain⟨X,N,Y⟩:=fh.1 d.rng;obtain⟨O,-,-,Z,q5,-⟩:=ij.1 d.quar;have w:=d.mail;have k:=d.hfl;unfold aO at k;rw[C8 w]at k;unfold b6 at w;simp only[I0,C0,ce,gg,O3,mA,M5]at w;obtain⟨⟨⟨m1,m2,m3⟩,P⟩,m5⟩:=w;have A:=q.free;have Q:=q.spans;have h3:=q.larges;have h4:=q.objs;have h5:=q.caches;have h6:=q.quar;have t:∀n:Nat,bu h.Mail n<=bu h.Mail (n+1):=λn=>by simp only[bu];omega
 have g:∀a b:Nat,a<=b->bu h.Mail a<=bu h.Mail b:=λa b u=>by
  induction u with
  | refl=>exact z4 _
  | step _ R=>exact v4 R (t _)
 have B:∀n:Nat,0<=bu h.Mail n:=λn=>g 0 n (R0 _)
 have o:∀i,i<h.Mail.Buffers.length->(nth h.Mail.Buffers i).length<=30/\(nth h.Mail.Inbox i).length<=30:=λi f=>by
  have F:=g (i+1) h.Mail.Buffers.length ω;have S:=B i;simp only[bu]at F;omega
 refine⟨BV d.ker M,⟨ω,λx e=>?_⟩,⟨ω,λx e=>?_⟩,⟨ω,λx e=>?_⟩,⟨ω,λx e=>?_⟩,⟨ω,λx e=>?_⟩,⟨⟨ω,λl c=>?_⟩,⟨ω,λl c=>?_⟩⟩,⟨⟨ω,ω⟩,⟨ω,λx e=>?_⟩⟩,⟨ω,ω⟩,⟨ω,ω⟩,⟨ω,ω⟩,⟨ω,ω⟩,trivial,d.jobWf.1⟩
 ·have:=N x e;exact⟨⟨ω,ω⟩,⟨ω,ω⟩⟩
 ·have y:=r.sok x e
  have G:=dS y;have T:=aF y;exact⟨⟨ω,ω⟩,⟨ω,ω⟩,⟨ω,ω⟩⟩
 ·have H:=aS (r.lok x e)
  have J:=cz (r.lok x e);exact⟨⟨ω,ω⟩,⟨ω,ω⟩,⟨ω,ω⟩⟩
 ·obtain⟨o1,o2,o3,o4⟩:=d.onu x e
  have u:0<=x.Addr/\x.Addr<512/\-1000<=x.Size/\x.Size<=1000:=by
   rcases d.oow x e with⟨s,y,A,Q⟩|⟨l,c,F,S⟩
   ·have T:=aF (r.sok s y)
    have:=uC (n:=x.Size) ω;exact⟨by have:=A.1;omega,by have:=A.2.1;omega,ω,ω⟩
   ·have H:=aS (r.lok l c)
    have J:=cz (r.lok l c);omega
  exact⟨⟨ω,ω⟩,⟨ω,ω⟩,⟨ω,ω⟩,⟨ω,ω⟩⟩
 ·obtain⟨c1,U⟩:=q.lists x e
  refine⟨ω,λl c=>⟨by have:=U l c;omega,λa C=>?_⟩⟩;obtain⟨j,V,rfl⟩:=bf c;exact jd.wf d (d.hca x e j V a C)
 ·obtain⟨i,f,rfl⟩:=bf c
  have G:=o i f;refine⟨ω,λp K=>?_⟩;have W:=(P i f).1 p K;exact⟨⟨ω,ω⟩,jd.wf d (k p.Addr (Q2.2 (.inl (List.mem_flatMap.2 ⟨_,am f,U3.2 ⟨p,K,rfl⟩⟩))))⟩
 ·obtain⟨i,f,rfl⟩:=bf c
  have G:=o i ω;exact⟨ω,λa C=>jd.wf d (k a (Q2.2 (.inr (List.mem_flatten.2 ⟨_,am f,C⟩))))⟩
 ·have H:=O x e
  have J:=d.snc x e;exact⟨jd.wf d (d.hqu x e),⟨ω,ω⟩,⟨ω,ω⟩⟩
structure Qs(h:ab):Prop where
 ker:aB h.Kernel=true
 wf:ab.wf h
 sml:ab.sml h
 lens:MZ h
theorem bn.fit{h:ab}{E:List Int}(a:bn h E)(b:iG h.Kernel.Refuse)(c:aH.sml h.Mail):Qs h:=⟨a.ker,a.wf b,a.lens.sml a.ker c a.jobWf.2,a.lens⟩
theorem xd{h:ab}(b:bn h [])(c:h.Meshing=true):aB (mStep h).Kernel=true/\(mStep h).Kernel.Calls<=h.Kernel.Calls+1/\(mStep h).Kernel.Refuse=h.Kernel.Refuse/\(mStep h).Mail=h.Mail/\(B3 h=true->(mStep h).Meshing=false)/\cj.wf (mStep h).Job/\cj.sml (mStep h).Job:=by
 have s:=JS.of b c;refine⟨s.ker,s.calls.2.1,s.calls.2.2,rfl,λa=>?_,?_⟩
 ·unfold B3 at a
  rw[C0]at a;show(if over _=true then false else h.Meshing)=false;rw[C8 (show over (jg h.Kernel h.Job).2=true from O0 (.inl a))]
 ·show cj.wf (if over _=true then _ else _)/\cj.sml (if over _=true then _ else _)
  split
  ·exact⟨⟨⟨⟨by decide,by decide⟩,⟨by decide,by decide⟩,⟨by decide,λv f=>by cases f⟩⟩,⟨by decide,by decide⟩,⟨by decide,by decide⟩⟩,by show(0:Nat)<=1048576;omega⟩
  ·have d:=(f6.1 (b.job c).1).1
   have g:=lM d;obtain⟨j,k⟩:=s.ph;obtain⟨l,i⟩:=s.nxt;have e:=s.plan;refine⟨⟨by rw[e];exact G3 d,⟨ω,ω⟩,⟨ω,by rw[e]at i;omega⟩⟩,by show((jg h.Kernel h.Job).2.Plan.Cells).length<=1048576;rw[e];omega⟩
def uj(h:ab):Nat->ab × Bool
 | 0=>(h,false)
 | i+1=>if(uj h i).1.Meshing=true then(mStep (uj h i).1,B3 (uj h i).1) else uj h i
def fin(h:ab):ab × Bool:=uj h 100
theorem tI{h:ab}(hi:bn h []):bn (started h).1 []/\(started h).1.Kernel=h.Kernel/\(started h).1.Mail=h.Mail:=by
 have r:=hi.nums;unfold cm at r;rw[C0]at r;have t:=(lB (bO h).length (show 0<=h.Seed/\h.Seed<=1073741823 by omega) ((bO h).length - 1)).2;have g:=qb (bO h) (show 0<=h.Seed/\h.Seed<=1073741823 by omega);have c:cm {h with Seed:=(shuf (bO h).length h.Seed).2} = true:=by
  unfold cm;rw[C0];unfold shuf;simp only;omega
 cases j:mu (bO h) h.Seed with
 | nil=>
  have f:Ab.started h=({h with Seed:=(shuf (bO h).length h.Seed).2},false):=by unfold Ab.started;rw[j]
  rw[f];exact⟨{hi with nums:=c},rfl,rfl⟩
 | cons q y=>
  obtain⟨C,D,k⟩:=g q (by rw[j];exact O1 ..);have f:Ab.started h=({h with Seed:=(shuf (bO h).length h.Seed).2,Meshing:=true,Job:=vB (dD (nth (bO h) q.A.toNat) (nth (bO h) q.B.toNat))},true):=by unfold Ab.started;rw[j]
  rw[f];have d:∀s∈bO h,s∈h.Spans:=λs u=>oN h (R2 _) s (List.mem_of_mem_take u)
  have l:=d _ (am (xs:=bO h) (i:=q.A.toNat) ω);have n:=d _ (am (xs:=bO h) (i:=q.B.toNat) ω);generalize nth (bO h) q.A.toNat=a at k l |-;generalize nth (bO h) q.B.toNat=b at k n |-;obtain⟨w,E,F⟩:=sf k;have o:iY (vB (dD a b))=true:=f6.2 ⟨w,by show(0:Int)<=0;omega,by show(0:Int)<=5;omega,by show(0:Int)<=0;omega,by show(0:Int)<=(((dD a b).Cells.length:Nat):Int);omega⟩;have p:(∃s∈h.Spans,s.Page=(dD a b).Keep)/\∃s∈h.Spans,s.Page=(dD a b).Move:=by
   unfold dD;split
   ·exact⟨⟨b,n,rfl⟩,⟨a,l,rfl⟩⟩
   ·exact⟨⟨a,l,rfl⟩,⟨b,n,rfl⟩⟩
  exact⟨{hi with nums:=c,job:=λ_=>⟨o,p⟩,noj:=λe=>by cases e},rfl,rfl⟩
theorem bn.objSz{h:ab}{E:List Int}(a:bn h E):∀o∈h.Objs,0<=o.Size/\o.Size<=1000:=λx c=>by
 rcases a.oow x c with⟨s,d,e,f⟩|⟨l,b,g,i⟩
 ·have j:=aF (a.L.sok s d)
  have:=uC (n:=x.Size) ω;omega
 ·have k:=cz (a.L.lok l b)
  omega
theorem HH{h:ab}(t:Int){size:Int}(c:bn h [])(d:9<=size/\size<=1000):nI h t size=if(HN h size).2<0 then((HN h size).1,-1,4) else(addO (HN h size).1 (HN h size).2 size t,(HN h size).2,0):=by
 unfold nI HN;by_cases a:(a8 h.Free (kw size:Nat)).2.2=false
 ·rw[C8 a,C8 a]
  exact(C8 (show(-1:Int)<0 by decide)).symm
 ·rw[C7 a,C7 a]
  obtain⟨e,-⟩:=kz c (show(1:Int)<=(kw size:Nat) by unfold kw;omega) (by simpa using a);by_cases b:(iN h size).2=kw size
  ·rw[C8 b,C8 b]
   exact(C7 (show ¬16*(a8 h.Free (kw size:Nat)).2.1<0 by omega)).symm
  ·rw[C7 b,C7 b]
   exact(C8 (show(-1:Int)<0 by decide)).symm
theorem xY(h:ab)(t size:Int)(k:bn h []):aP Tryz.prog 143 false [.ptr (b8 h),.val none [I t],.val none [I size]] [.ptr (b8 (fB h t size).1),.val none [I t],.val none [I size]] (.tup [none,none]) [I (fB h t size).2.1,I (fB h t size).2.2]:=by
 have X:=k.lens;have hlc:=X.caches;have P:=X.objs;have p:=k.nums;unfold cm at p;rw[C0]at p;have Q:=rO k.objSz h.Objs.length (R2 _);change 0<=vZ h/\vZ h<=_ at Q;have n:=aE t 0 ((h.Caches.length:Int) - 1);have r:=aE size 1 1000;have E:=wR h k.objSz ω;have F:=jy size;refine fM 119 [(234,[2,0,0]),(235,[2,0])] [(7,10,[36,37,38,39,40,41,42,43,44,45]),(18,272,[81,82,83,84,85,86,87,89,90,91,92,93,94,95,96,97,0,1,2,3,4,5,6,8,9,10,11,12,13,14,15,16,1016,7,1008,1009,1010,1011,1012,1013,1014,1015,1016,17,18]),(1048594,0,[8])] [(0,0),(0,0),(0,0)] Tryz.func143 rfl (λu q=>?_) (.inr ⟨trivial,trivial,trivial⟩);unfold fB;by_cases h1:1000000<=h.Next
 ·rw[C8 (.inl h1)]
  repeat'(first|refine gD ?_|(conv=>whnf);first|refine C9 ?_)
  refine CE rfl rfl ?_;exact wC
 by_cases h2:90000<h.Kernel.Calls
 ·rw[C8 (.inr h2)]
  repeat'(first|refine gD ?_|(conv=>whnf);first|with_reducible refine Bf.D (λb=>?_) (λb=>?_)|refine C9 ?_)
  refine CE rfl rfl ?_;exact wC
 rw[C7 ω];by_cases C:¬(0<=t/\t<=h.Caches.length - 1)
 ·rw[C8 C]
  rw[Q0 C]at n
  repeat'(first|refine gD ?_|(conv=>whnf);first|with_reducible refine Bf.D (λb=>?_) (λb=>?_)|refine C9 ?_|refine C6 (n) ?_)
  refine CE rfl rfl ?_;exact wC
 rw[C7 C];replace C:=Decidable.not_not.1 C;rw[O0 C]at n;by_cases B:¬(1<=size/\size<=1000)
 ·rw[C8 B]
  rw[Q0 B]at r
  repeat'(first|refine gD ?_|(conv=>whnf);first|with_reducible refine Bf.D (λb=>?_) (λb=>?_)|refine C9 ?_|refine C6 (n) ?_|refine C6 (r) ?_)
  refine CE rfl rfl ?_;exact wC
 rw[C7 B];replace B:=Decidable.not_not.1 B;rw[O0 B]at r;by_cases Y:h.Limit<vZ h+size
 ·rw[C8 Y]
  repeat'(first|refine gD ?_|(conv=>whnf);first|with_reducible refine Bf.D (λb=>?_) (λb=>?_)|refine C9 ?_|refine C6 (n) ?_|refine C6 (r) ?_|refine CD (E) ⟨⟨rfl,bA h⟩,trivial⟩ ?_|refine C9 ?_)
  refine CE rfl rfl ?_;exact wC
 rw[C7 Y];by_cases G:0<=aK size
 ·rw[C8 G]
  have hc3:aK size<=3:=by unfold aK;repeat' split<;>omega
  obtain⟨T,rfl⟩:=O2 C.1;obtain⟨K,hK⟩:=O2 G;have o:=xM h T K k ω ω ω;have s:=zn (t:=T) (c:=K) k ω ω ω;rw[hK]at F |-;simp only[I2];generalize eL h T K=w at o s |-;obtain⟨g,a⟩:=w;have H:g.Next=h.Next:=s.nx;simp only at o |-;by_cases J:a<0
  ·rw[C8 J]
   repeat'(first|refine gD ?_|(conv=>whnf);first|with_reducible refine Bf.D (λb=>?_) (λb=>?_)|refine C9 ?_|refine C6 (n) ?_|refine C6 (r) ?_|refine CD (E) ⟨⟨rfl,bA h⟩,trivial⟩ ?_|refine C9 ?_|refine C6 (F) ?_|refine CG (o) (.inl rfl) ?_)
   refine CE rfl rfl ?_;exact wC
  ·rw[C7 J]
   obtain⟨k1,k2⟩:=s.yes (show(0:Int)<=a by omega);have R:g.Objs.length<=512:=k1.lens.objs
   repeat'(first|refine gD ?_|(conv=>whnf);first|with_reducible refine Bf.D (λb=>?_) (λb=>?_)|refine C9 ?_|refine C6 (n) ?_|refine C6 (r) ?_|refine CD (E) ⟨⟨rfl,bA h⟩,trivial⟩ ?_|refine C9 ?_|refine C6 (F) ?_|refine CG (o) (.inl rfl) ?_)
   (conv=>whnf)
   refine CC (ι:=Nat) (λi=>[(0,.hold .box (b8 g)),(1,.hold .one [I ((T:Nat):Int)]),(2,.hold .one [I (size)]),(8,.hold .one [I (a)]),(9,.hold .one [I ((i:Nat):Int)])]) (λi=>i<=g.Objs.length/\∀(j:Nat)(z:bm),j<i->g.Objs[j]? = some z->LT a z=false) (λi=>g.Objs.length - i) (0) ?_ (⟨R0 _,λj z hj=>ω⟩) λi k=>?_
   ·exact wC
   obtain⟨S,L⟩:=k;by_cases U:i<g.Objs.length/\(nth g.Objs i).Addr<a
   ·have d:=ah U.1
    repeat'(first|refine gD ?_|(conv=>whnf);first|with_reducible refine CA (aa d) ?_|refine C9 ?_|refine CF rfl (aa d) rfl ?_)
    ((conv=>whnf);refine CB (i+1) ⟨ω,di d (Q0 ω) L⟩ ω ?_;(exact wC))
   ·have l:jE (LT a) g.Objs=i:=un ω L λz M=>by
     have V:=(V1.1 M).1;have:z=nth g.Objs i:=(bw M).symm;subst this;exact O0 ω
    have d:i<g.Objs.length->g.Objs[i]? = some (nth g.Objs i):=λW=>ah W
    rw[show addO g a size (T:Nat) = {g with Objs:=g.Objs.take i++⟨g.Next,a,size,(T:Nat)⟩::g.Objs.drop i,Next:=g.Next+1} by unfold addO;rw[uv l]]
    repeat'(first|refine gD ?_|(conv=>whnf);first|with_reducible (first|refine CA (aa (d ω)) ?_|refine Bf.D (λb=>?_) (λb=>?_))|refine C9 ?_|refine CF rfl (aa (d ω)) rfl ?_|refine Fa.mk rfl (ul g.Objs) rfl ?_|refine CS i rfl (by rw[W0];omega) (aI λ_=>rfl) R3 ?_|refine CU i rfl (by rw[W0];omega) (aI λ_=>rfl) T3 ?_|refine CM (λ_=>rfl) (λ_=>rfl) (by rw[I1];omega) (by decide) ?_|refine Ap.sn (aI λ_=>rfl) rfl (by rw[W0,I1];omega) (by decide) rfl ?_|refine Ap.ins (e:=bm.enc .imm) (y:=⟨g.Next,a,size,(T:Nat)⟩) rfl (λ_=>rfl) (λ_=>rfl) ω (by decide) ?_|refine C9 ?_)
    all_goals
     refine CE rfl rfl ?_;exact wC
 ·rw[C7 G]
  have N:9<=size:=by unfold aK at G;repeat' split at G<;>omega
  have o:=xZ h size k ⟨N,B.2⟩ ω;rw[HH t k ⟨N,B.2⟩];have Z:(HN h size).1.Next=h.Next/\(HN h size).1.Objs=h.Objs:=by
   unfold HN;split
   ·exact⟨rfl,rfl⟩
   ·split<;>exact⟨rfl,rfl⟩
  generalize HN h size=w at o Z |-;obtain⟨g,a⟩:=w;obtain⟨H,O⟩:=Z;simp only at o H O |-;have R:g.Objs.length<=512:=by rw[O];exact P
  by_cases J:a<0
  ·rw[C8 J]
   repeat'(first|refine gD ?_|(conv=>whnf);first|with_reducible refine Bf.D (λb=>?_) (λb=>?_)|refine C9 ?_|refine C6 (n) ?_|refine C6 (r) ?_|refine CD (E) ⟨⟨rfl,bA h⟩,trivial⟩ ?_|refine C9 ?_|refine C6 (F) ?_|refine CG (o) (.inl rfl) ?_)
   refine CE rfl rfl ?_;exact wC
  ·rw[C7 J]
   repeat'(first|refine gD ?_|(conv=>whnf);first|with_reducible refine Bf.D (λb=>?_) (λb=>?_)|refine C9 ?_|refine C6 (n) ?_|refine C6 (r) ?_|refine CD (E) ⟨⟨rfl,bA h⟩,trivial⟩ ?_|refine C9 ?_|refine C6 (F) ?_|refine CG (o) (.inl rfl) ?_)
   (conv=>whnf)
   refine CC (ι:=Nat) (λi=>[(0,.hold .box (b8 g)),(1,.hold .one [I (t)]),(2,.hold .one [I (size)]),(8,.hold .one [I (a)]),(9,.hold .one [I ((i:Nat):Int)])]) (λi=>i<=g.Objs.length/\∀(j:Nat)(z:bm),j<i->g.Objs[j]? = some z->LT a z=false) (λi=>g.Objs.length - i) (0) ?_ (⟨R0 _,λj z hj=>ω⟩) λi k=>?_
   ·exact wC
   obtain⟨S,L⟩:=k;by_cases U:i<g.Objs.length/\(nth g.Objs i).Addr<a
   ·have d:=ah U.1
    repeat'(first|refine gD ?_|(conv=>whnf);first|with_reducible refine CA (aa d) ?_|refine C9 ?_|refine CF rfl (aa d) rfl ?_)
    ((conv=>whnf);refine CB (i+1) ⟨ω,di d (Q0 ω) L⟩ ω ?_;(exact wC))
   ·have l:jE (LT a) g.Objs=i:=un ω L λz M=>by
     have V:=(V1.1 M).1;have:z=nth g.Objs i:=(bw M).symm;subst this;exact O0 ω
    have d:i<g.Objs.length->g.Objs[i]? = some (nth g.Objs i):=λW=>ah W
    rw[show addO g a size t = {g with Objs:=g.Objs.take i++⟨g.Next,a,size,t⟩::g.Objs.drop i,Next:=g.Next+1} by unfold addO;rw[uv l]]
    repeat'(first|refine gD ?_|(conv=>whnf);first|with_reducible (first|refine CA (aa (d ω)) ?_|refine Bf.D (λb=>?_) (λb=>?_))|refine C9 ?_|refine CF rfl (aa (d ω)) rfl ?_|refine Fa.mk rfl (ul g.Objs) rfl ?_|refine CS i rfl (by rw[W0];omega) (aI λ_=>rfl) R3 ?_|refine CU i rfl (by rw[W0];omega) (aI λ_=>rfl) T3 ?_|refine CM (λ_=>rfl) (λ_=>rfl) (by rw[I1];omega) (by decide) ?_|refine Ap.sn (aI λ_=>rfl) rfl (by rw[W0,I1];omega) (by decide) rfl ?_|refine Ap.ins (e:=bm.enc .imm) (y:=⟨g.Next,a,size,t⟩) rfl (λ_=>rfl) (λ_=>rfl) ω (by decide) ?_|refine C9 ?_)
    all_goals
     refine CE rfl rfl ?_;exact wC
theorem Fj(h:ab)(a n:Int)(t:h.Larges.length<=4096)(j:∀l∈h.Larges,bV l=true)(o:xw h a<0):aP Tryz.prog 358 false [.ptr (b8 h),.val none [I a],.val none [I n]] [.ptr (b8 h),.val none [I a],.val none [I n]] .one [B false]:=by
 have b:∀l∈h.Larges,l.Page*16≠a:=λl c e=>by
  have:=Dt (p:=GP a) c (O0 e);unfold xw at o;omega
 refine fM 136 [(297,[2,0])] [(8,6,[49,50,51,52,53,54]),(9,10,[56,57,58,59,60,61,62,63,64,65]),(20,270,[123,124,125,126,127,128,129,130,131,122,132,133,134,135,0,1,2,3,4,5,6,7,8,9,10,11,12,13,14,1011])] [(0,0),(0,0),(0,0)] Tryz.func358 rfl (λu q=>?_)
 repeat'(first|refine gO ?_|(conv=>whnf);first|refine C9 ?_)
 (conv=>whnf)
 refine CC (ι:=Nat) (λk=>[(0,.hold .box (b8 h)),(1,.hold .one [I (a)]),(2,.hold .one [I (n)]),(7,.hold .one [I ((k:Nat):Int)])]) (λk=>k<=h.Larges.length) (λk=>h.Larges.length - k) (0) ?_ (R0 _) λk w=>?_
 ·repeat'(first|exact trivial|rfl |exact kP r|exact kP g|exact dx _|refine CH ?_ ?_|(exact yP (by first|omega|(simp only;omega)|(simp;omega))))
 by_cases d:k<h.Larges.length
 ·have i:=ah d
  have y:=b _ (am d);have C:=aS (j _ (am d))
  repeat'(first|refine gA ?_|(conv=>whnf);first|with_reducible refine CA (aa i) ?_|refine C9 ?_|refine CF rfl (aa i) rfl ?_)
  ((conv=>whnf);refine CB (k+1) ω ω ?_;(exact wC))
 ·repeat'(first|refine gD ?_|(conv=>whnf);first|refine C9 ?_)
  refine CE rfl rfl ?_;exact wC
theorem Pn(h:ab)(a:Int)(m:Nat):b8 {h with Kernel:=zK h.Kernel a (m+1)} = (b8 {h with Kernel:=zK h.Kernel a m}).set 0 (.s .own (((zK h.Kernel a m).Machine.Frames.Cells.map (aD .own)).set (ar (zK h.Kernel a m).Machine.Table ((a+m) / 16)).Frame.toNat ((aD .own (nth (zK h.Kernel a m).Machine.Frames.Cells (dZ (zK h.Kernel a m) (a+m)))).set 0 (.s .own (((nth (zK h.Kernel a m).Machine.Frames.Cells (dZ (zK h.Kernel a m) (a+m))).map (rI .own)).set ((a+m) % 16).toNat (splice (rI .own (nth (nth (zK h.Kernel a m).Machine.Frames.Cells (dZ (zK h.Kernel a m) (a+m))) ((a+m) % 16).toNat)) 0 [I 0])))))):=
 Gv {h with Kernel:=zK h.Kernel a m} (a+m) 0
def kF(h:ab)(i k:Nat)(n:Int)(K:af):ab:={h with Kernel:=K,Larges:=h.Larges.set k (trimL (nth h.Larges k) n),Objs:=h.Objs.set i {nth h.Objs i with Size:=n}}
theorem Hd(h:ab)(i k:Nat)(n:Int)(K:af):(kF h i k n K).Objs.map (bm.enc .own)=(h.Objs.map (bm.enc .own)).set i (splice (bm.enc .own (nth h.Objs i)) 2 [I n]):=by
 simp[kF,Z4,bm.enc,splice]
theorem qr(h:ab)(i:Nat)(n:Int)(j:bn h [])(H:i<h.Objs.length)(hg:0<=xw h (nth h.Objs i).Addr):aP Tryz.prog 358 false [.ptr (b8 h),.val none [I (nth h.Objs i).Addr],.val none [I n]] [.ptr (b8 (if kG h i n then trimH h i (xw h (nth h.Objs i).Addr).toNat n else h)),.val none [I (nth h.Objs i).Addr],.val none [I n]] .one [B (decide (kG h i n))]:=by
 have c:=j.lens;have hnl:=c.larges;have hno:=c.objs;have hpg:dU h<=32:=c.ents;obtain⟨f1,f2,f3⟩:=gc (GP (nth h.Objs i).Addr) h.Larges hg;obtain⟨g,o⟩:=O2 hg;have b:g<h.Larges.length:=by unfold xw at o;omega
 have Y:(nth h.Larges g).Page*16=(nth h.Objs i).Addr:=by
  have:=of_decide_eq_true f2;rw[show(cX (GP (nth h.Objs i).Addr) h.Larges).toNat=g by unfold xw at o;omega]at this;exact this
 have J:∀k,k<g->(nth h.Larges k).Page*16≠(nth h.Objs i).Addr:=λk hk e=>by
  have N:k<h.Larges.length:=ω
  have hok1:=aS (j.L.lok _ (am N));have hok2:=aS (j.L.lok _ (am b));have:=j.L.one k g N b 0 0 ω ω ω;omega
 have p:kG h i n↔9<=n/\n<=(nth h.Larges g).Size:=by
  unfold kG;rw[o,I2];exact⟨λx=>x.2,λx=>⟨ω,x⟩⟩
 rw[o,I2];have hbd:=nQ j (am H);obtain⟨-,Z,w⟩:=j.objAt (am H);have hii:gX h (nth h.Objs i).Addr=i:=by
  have h2:=(j.objAt (am H)).1;exact gG (f:=(·.Addr)) (gY j.osr) h2 H (by rw[Z])
 rw[hii]at w;have E:=ah H;have hxg:=ah b;have V:=uG (nth h.Larges g) n (j.L.lok _ (am b));have h8:=j.L.lok _ (am b);unfold bV at h8;rw[C0]at h8;refine fM 136 [(297,[2,0])] [(8,6,[49,50,51,52,53,54]),(9,10,[56,57,58,59,60,61,62,63,64,65]),(20,270,[123,124,125,126,127,128,129,130,131,122,132,133,134,135,0,1,2,3,4,5,6,7,8,9,10,11,12,13,14,1011])] [(0,0),(0,0),(0,0)] Tryz.func358 rfl (λu q=>?_)
 repeat'(first|refine gO ?_|(conv=>whnf);first|refine C9 ?_)
 (conv=>whnf)
 refine CC (ι:=Nat) (λk=>[(0,.hold .box (b8 h)),(1,.hold .one [I ((nth h.Objs i).Addr)]),(2,.hold .one [I (n)]),(7,.hold .one [I ((k:Nat):Int)])]) (λk=>k<=g) (λk=>g - k) (0) ?_ (R0 _) λk hk=>?_
 ·repeat'(first|exact trivial|rfl |exact kP r|exact kP d|exact dx _|refine CH ?_ ?_|(exact yP (by first|omega|(simp only;omega)|(simp;omega))))
 have l:=ah (xs:=h.Larges) (i:=k) ω;have hfk:=aS (j.L.lok _ (am (xs:=h.Larges) (i:=k) ω));by_cases e:k=g;rotate_left
 ·have hne:=J k ω
  repeat'(first|refine gA ?_|(conv=>whnf);first|with_reducible refine CA (aa l) ?_|refine C9 ?_|refine CF rfl (aa l) rfl ?_)
  ((conv=>whnf);refine CB (k+1) ω ω ?_;(exact wC))
 subst e;by_cases F:9<=n/\n<=(nth h.Larges k).Size;rotate_left
 ·rw[C7 (by rw[p];exact F),Q0 (by rw[p];exact F)]
  rw[C7 F]at V
  repeat'(first|refine gA ?_|(conv=>whnf);first|with_reducible refine CA (aa l) ?_|refine C9 ?_|refine CF rfl (aa l) rfl ?_|refine C6 (V) ?_)
  refine CE rfl rfl ?_;exact wC
 rw[C8 (by rw[p];exact F),O0 (by rw[p];exact F)];rw[C8 F]at V;have y:=λm hm=>Ed j b F (m:=m) hm
 have D:=λm=>(sM h.Kernel (16*(nth h.Larges k).Page+n) m).1
 have O:=λa W=>nr j b (a:=a) W
 have hsz:n<=16*(nth h.Larges k).Pages:=ω
 generalize hM:(16*((n+15) / 16) - n).toNat=M at *;have hfl:∀m,(zK h.Kernel (16*(nth h.Larges k).Page+n) m).Machine.Frames.Cells.length=h.Kernel.Machine.Frames.Cells.length:=λm=>by
  induction m with
  | zero=>rfl
  | succ m ih=>show(List.set _ _ _).length=_;rw[C1];exact ih
 have cO:=mn {h with Larges:=h.Larges.set k (trimL (nth h.Larges k) n)} (nth h.Objs i).Addr (by show h.Objs.length<=_;omega);change ao _ _ _ [.val (some 24) (ab.enc .imm {h with Larges:=h.Larges.set k (trimL (nth h.Larges k) n)}),_] _ [I (cX (fL (nth h.Objs i).Addr) h.Objs)]at cO;rw[w]at cO;have Q:=bA {h with Larges:=h.Larges.set k (trimL (nth h.Larges k) n)};have heL:b8 {h with Larges:=h.Larges.set k (trimL (nth h.Larges k) n)} = (b8 h).set 7 (.s .own ((h.Larges.map (ax.enc .own)).set k (ax.enc .own (trimL (nth h.Larges k) n)))):=by simp[b8,Z4]
 rw[heL]at Q
 repeat'(first|refine gA ?_|(conv=>whnf);first|with_reducible (first|refine CA (aa l) ?_|refine CA (aa E) ?_)|refine C9 ?_|refine CF rfl (aa l) rfl ?_|refine C6 (V) ?_|refine CL rfl rfl (aa l) rfl (X0 rfl) rfl ?_|refine CD (cO) ⟨⟨rfl,Q⟩,⟨rfl,rfl⟩,trivial⟩ ?_|refine CL rfl rfl (aa E) rfl (X0 rfl) rfl ?_|refine CF rfl (aa E) rfl ?_|refine C9 ?_)
 rw[<-Y];have e0:kF h i k n h.Kernel=kF h i k n (zK h.Kernel (16*(nth h.Larges k).Page+n) 0):=rfl;have r:C.s .own ((kF h i k n (zK h.Kernel (16*(nth h.Larges k).Page+n) 0)).Larges.map (ax.enc .own))=C.s .own ((h.Larges.map (ax.enc .own)).set k (ax.enc .own (trimL (nth h.Larges k) n))):=by simp[kF,Z4]
 have d:C.s .own ((kF h i k n (zK h.Kernel (16*(nth h.Larges k).Page+n) 0)).Objs.map (bm.enc .own))=C.s .own ((h.Objs.map (bm.enc .own)).set i (splice (bm.enc .own (nth h.Objs i)) 2 [I n])):=T0 _ (Hd h i k n _)
 (conv=>whnf)
 refine CC (ι:=Nat) (λm=>[(0,.hold .box (b8 (kF h i k n (zK h.Kernel (16*(nth h.Larges k).Page+n) m)))),(1,.hold .one [I (((nth h.Larges k).Page*16))]),(8,.hold .box (ax.enc .own (trimL (nth h.Larges k) n))),(9,.hold .box (ay.enc .own (va (nth h.Larges k) n))),(11,.hold .one [I (((16*(nth h.Larges k).Page+n)+(m:Nat)))])]) (λm=>m<=M) (λm=>M - m) (0) ?_ (R0 _) λm hm=>?_
 ·repeat'(first|exact trivial|rfl |exact kP r|exact kP d|exact dx _|refine CH ?_ ?_|(exact yP (by first|omega|(simp only;omega)|(simp;omega))))
 have hmod:IntKind.i64.wrap 0=0:=rfl;by_cases lm:m<M
 ·have W:0<=(16*(nth h.Larges k).Page+n)+(m:Nat)/\(16*(nth h.Larges k).Page+n)+(m:Nat)<512:=ω
  have R:=O ((16*(nth h.Larges k).Page+n)+(m:Nat)) ω;have t:=y m hm;rw[<-D m]at R;have hks:=bp t;have c2:=cT (zK h.Kernel (16*(nth h.Larges k).Page+n) m).Machine.Table (((16*(nth h.Larges k).Page+n)+(m:Nat)) / 16) hks.1.2;obtain⟨-,-,-,q0,q1⟩:=ch t R;have hul:=(aY.1 (aC.1 t).2.1).2.2.1;have S:dZ (zK h.Kernel (16*(nth h.Larges k).Page+n) m) ((16*(nth h.Larges k).Page+n)+(m:Nat))<(zK h.Kernel (16*(nth h.Larges k).Page+n) m).Machine.Frames.Cells.length:=by unfold dZ;omega
  have G:(zK h.Kernel (16*(nth h.Larges k).Page+n) m).Machine.Frames.Cells[(ar (zK h.Kernel (16*(nth h.Larges k).Page+n) m).Machine.Table (((16*(nth h.Larges k).Page+n)+(m:Nat)) / 16)).Frame.toNat]? = some _:=ah S;have h16:=(zx t S).1;have T:=ah (xs:=nth (zK h.Kernel (16*(nth h.Larges k).Page+n) m).Machine.Frames.Cells (dZ (zK h.Kernel (16*(nth h.Larges k).Page+n) m) ((16*(nth h.Larges k).Page+n)+(m:Nat)))) (i:=(((16*(nth h.Larges k).Page+n)+(m:Nat)) % 16).toNat) (by rw[h16];omega);have htm:((16*(nth h.Larges k).Page+n)+(m:Nat)).tmod 16=((16*(nth h.Larges k).Page+n)+(m:Nat)) % 16:=eM W.1;have hpu:=Pn (kF h i k n h.Kernel) (16*(nth h.Larges k).Page+n) m;have hwr:=js W;have hst:(trimL (nth h.Larges k) n).Pages=(n+15) / 16:=rfl
  repeat'(first|refine gD ?_|(conv=>whnf);first|refine C9 ?_|refine CK (by decide) ?_|refine CI hwr ?_|refine CO htm ?_|refine CD (c2) ⟨⟨rfl,CV _⟩,⟨rfl,rfl⟩,trivial⟩ ?_|refine CJ q0 (aa G) ?_|refine CF rfl (aa G) rfl ?_|refine CJ ω (aa T) ?_|refine Pu.two rfl rfl (aa G) rfl rfl rfl (aa T) rfl (R2 _) hpu ?_)
  ((conv=>whnf);refine CB (m+1) ω ω ?_;(exact wC))
 obtain rfl:m=M:=ω
 have hst:(trimL (nth h.Larges k) n).Pages=(n+15) / 16:=rfl;have hkM:=y m (R2 _);have U:(zK h.Kernel (16*(nth h.Larges k).Page+n) m).Machine.Table.Entries.length=dU h:=by rw[D];rfl
 have hTK:tt h k n=zK h.Kernel (16*(nth h.Larges k).Page+n) m:=by unfold tt;rw[hM]
 unfold trimH Gd;rw[hTK];generalize zK h.Kernel (16*(nth h.Larges k).Page+n) m=K at *;have hN:((dG (nth h.Larges k) n:Nat):Int)=(nth h.Larges k).Pages - (n+15) / 16:=by unfold dG;omega
 have hrA:0<dG (nth h.Larges k) n->va (nth h.Larges k) n = ⟨(nth h.Larges k).Page+(n+15) / 16,(dG (nth h.Larges k) n:Nat)⟩:=λhp=>by unfold va;rw[C8 ω,hN]
 have hrB:¬0<dG (nth h.Larges k) n->va (nth h.Larges k) n = ⟨0,0⟩:=λhp=>by unfold va;rw[C7 ω]
 generalize dG (nth h.Larges k) n=P at *;by_cases X:0<P
 ·rw[C8 X]
  have hr:=hrA X;rw[hr]
  repeat'(first|refine gD ?_|(conv=>whnf);first|refine C9 ?_)
  (conv=>whnf)
  refine CC (ι:=Nat) (λx=>[(0,.hold .box (b8 (kF h i k n (d6 K ((nth h.Larges k).Page+(n+15) / 16) x)))),(9,.hold .box ([I ((nth h.Larges k).Page+(n+15) / 16),I (P:Nat)])),(13,.hold .one [I (((nth h.Larges k).Page+(n+15) / 16+(x:Nat)))])]) (λx=>x<=P) (λx=>P - x) (0) ?_ (R0 _) λx l=>?_
  ·repeat'(first|exact trivial|rfl |exact kP r|exact kP d|exact dx _|refine CH ?_ ?_|(exact yP (by first|omega|(simp only;omega)|(simp;omega))))
  by_cases lx:x<P
  ·have c3:=lQ (kF h i k n (d6 K ((nth h.Larges k).Page+(n+15) / 16) x)) ((nth h.Larges k).Page+(n+15) / 16+(x:Nat)) (jB hkM _ _)
   repeat'(first|refine gD ?_|(conv=>whnf);first|refine C9 ?_|refine CG (c3) (.inl rfl) ?_)
   ((conv=>whnf);refine CB (x+1) ω ω ?_;(exact wC))
  ·obtain rfl:x=P:=ω
   have c4:=gw (kF h i k n (d6 K ((nth h.Larges k).Page+(n+15) / 16) x));rw[show dU (kF h i k n (d6 K ((nth h.Larges k).Page+(n+15) / 16) x))=dU h from(gz _ _ _).1.trans U]at c4;have c5:=kX (dU h:Nat) h.Free ⟨(nth h.Larges k).Page+(n+15) / 16,(x:Nat)⟩ ⟨ω,ω⟩ ⟨by have:=c.free;omega,λ_ _=>trivial⟩
   repeat'(first|refine gD ?_|(conv=>whnf);first|refine C9 ?_|refine CD (c4) ⟨bA _,trivial⟩ ?_|refine CD (c5) ⟨⟨rfl,rfl⟩,⟨rfl,d5 h.Free⟩,⟨rfl,rfl⟩,trivial⟩ ?_|refine C9 ?_)
   refine CE rfl rfl ?_;exact wC
 ·rw[C7 X]
  obtain rfl:P=0:=ω
  have hr:=hrB X;rw[hr]
  repeat'(first|refine gD ?_|(conv=>whnf);first|refine C9 ?_)
  (conv=>whnf)
  refine CC (ι:=Nat) (λx=>[(0,.hold .box (b8 (kF h i k n K))),(9,.hold .box ([I 0,I 0])),(13,.hold .one [I (0)])]) (λx=>x=0) (λx=>0) (0) ?_ (rfl) λx l=>?_
  ·repeat'(first|exact trivial|rfl |exact kP r|exact kP d|exact dx _|refine CH ?_ ?_|(exact yP (by first|omega|(simp only;omega)|(simp;omega))))
  subst l
  repeat'(first|refine gD ?_|(conv=>whnf);first|refine C9 ?_)
  refine CE rfl rfl ?_;exact wC
theorem B4{α:Type}(a:α)(k:Nat):List.replicate (k+1) a=List.replicate k a++[a]:=List.replicate_succ' ..
theorem FL(n k:Nat):aU.enc .own ⟨List.replicate k (List.replicate 16 0),List.replicate n false⟩ = [.s .own (List.replicate k [.s .own (List.replicate 16 [I 0])]),.s .own (List.replicate n [B false])]:=by
 simp[aU.enc,aD,rI,rB,List.map_replicate]
theorem GL(n:Nat):Lz [.s .own (List.replicate n [.z]),.s .own (List.replicate n [.z]),B true] (aH.enc .own (dB n)++[B true]):=by
 have e:aH.enc .own (dB n)++[B true]=[.s .own (List.replicate n [.s .own []]),.s .own (List.replicate n [.s .own []]),B true]:=by simp[aH.enc,dB,bN,aD,List.map_replicate]
 rw[e];exact .cons (.rep (.cons .z_ .nil)) (.cons (.rep (.cons .z_ .nil)) (.cons (.rfl_ _) .nil))
theorem ML(n:Nat)(b:1<=n/\n<=4):ao Tryz.prog 94 false [.val none [I (n:Nat)]] (.tup [some 2,none]) (aH.enc .own (dB n)++[B true]):=by
 have a:=aN ((n:Nat):Int) 1 4;rw[O0 ω]at a;refine fO 13 [(3,4,[8,9,10,11])] Tryz.func94 rfl ?_ (.inr (aM (CX _) ⟨trivial,trivial⟩))
 repeat'((conv=>whnf);first|with_reducible (first|refine Lm ?_|refine Wm ω ?_|refine Bn ?_|refine jl.dk rfl ?_)|refine Bt ?_|refine Bu ?_|refine C9 ?_|refine C6 (a) ?_|refine Mk.mk n rfl rfl ω (yk ω (by decide)) rfl ?_)
 exact GL n
theorem Bg(n:Nat)(b:1<=n/\n<=4):ao Tryz.prog 351 false [.val none [I (n:Nat)]] (.tup [some 2,none]) (aH.enc .own (dB n)++[B true]):=by
 have a:=aE ((n:Nat):Int) 1 4;rw[O0 ω]at a;refine fO 13 [(3,4,[8,9,10,11])] Tryz.func351 rfl ?_ (.inr (aM (CX _) ⟨trivial,trivial⟩))
 repeat'((conv=>whnf);first|with_reducible (first|refine Lm ?_|refine Wm ω ?_|refine Bn ?_|refine jl.dk rfl ?_)|refine Bt ?_|refine Bu ?_|refine C9 ?_|refine C6 (a) ?_|refine Mk.mk n rfl rfl ω (yk ω (by decide)) rfl ?_)
 exact GL n
theorem K8:Lz [.s .own (List.replicate 4 [.z])] (aA.enc .own eN):=.cons (.rep (.cons .z_ .nil)) .nil
theorem yd:ao Tryz.prog 352 false [] .agg (aA.enc .own eN):=by
 refine fO 3 [] Tryz.func352 rfl ?_ (.inr (aA.enc_fr _))
 repeat'((conv=>whnf);first|with_reducible (first|refine Lm ?_|refine Wm ω ?_|refine Bn ?_|refine jl.dk rfl ?_)|refine Bt ?_|refine Bu ?_|refine C9 ?_|refine Mk.mk 4 rfl rfl (by decide) (by decide) rfl ?_)
 exact K8
theorem rr:ao Tryz.prog 353 false [.val none [I 16]] (.tup [some 2,none]) (bz.enc .own ⟨16,[]⟩++[B true]):=by
 refine fO 10 [] Tryz.func353 rfl ?_ (.inr (aM (bz.enc_fr _) ⟨trivial,trivial⟩))
 repeat'((conv=>whnf);first|with_reducible (first|refine Lm ?_|refine Wm ω ?_|refine Bn ?_|refine jl.wk rfl ?_)|refine Bt ?_|refine Bu ?_|refine C9 ?_|refine C6 (aE 16 0 500) ?_)
 exact⟨rfl,rfl,rfl,trivial⟩
def caps(h:ab)(k:Nat):ab:={h with Caches:=List.replicate k eN}
theorem GU(k:Nat):(List.replicate (k+1) eN).map (aA.enc .own)=(List.replicate k eN).map (aA.enc .own)++[aA.enc .own eN]:=by rw[B4,V4];rfl
theorem JO{k:Nat} : ∀r∈(List.replicate k eN).map (aA.enc .own),r.length=1:=aI λ_=>rfl
theorem Mz(x:List bH):fz (.s .own (x.map (bH.enc .own)))=.s .imm (x.map (bH.enc .imm)):=(List.cons.inj (List.cons.inj (CZ ⟨0,x⟩)).2).1
theorem eA:∀a b:List C,dA (a++b)=dA a++dA b
 | [],_=>rfl
 | x::xs,b=>by show fz x::dA (xs++b)=fz x::(dA xs++dA b);rw[eA xs b]
theorem dK(r:a7)(c:a7.sml r):ao Tryz.prog 309 false [.val (some 2) (a7.enc .imm r)] .agg (a7.enc .own r):=by
 have e:r.Objs.length<=1048576:=c.1;refine fO 36 [(5,272,[15,16,17,18,19,20,21,22,23,24,25,26,27,28,29,34,0,1,2,3,4,5,6,7,8,9,10,11,12,13,14,15,1000,1001,1002,1003,1004,1005,1006,1007,16,1000,1001,17,1000,1001,18,19,20])] Tryz.func309 rfl ?_ (.inr (a7.enc_fr _))
 repeat'(first|refine gO ?_|(conv=>whnf);first|refine C9 ?_)
 (conv=>whnf)
 refine CC (ι:=Nat) (λi=>[(1,.hold .box (a7.enc .imm r)),(2,.hold .box [I 0,.z]),(3,.hold .box [I r.Next,.s .own ((r.Objs.take i).map (bH.enc .own))]),(4,.hold .one [I ((i:Nat):Int)])]) (λi=>i<=r.Objs.length) (λi=>r.Objs.length - i) (0) ?_ (R0 _) λi g=>?_
 ·exact wC
 by_cases b:i<r.Objs.length
 ·have d:=ah b
  have a:(nth r.Objs i).Cells.length<=1048576:=c.2 _ (am b)
  repeat'(first|refine gD ?_|(conv=>whnf);first|with_reducible refine CA (aa d) ?_|refine C9 ?_|refine CF rfl (aa d) rfl ?_|refine CR (λ_=>rfl) (λ_=>rfl) a (by decide) ?_|refine CM (λ_=>rfl) (λ_=>rfl) a (by decide) ?_|refine C9 ?_|refine Ap.sn (aI λ_=>rfl) rfl (by simp;omega) (by decide) (eJ b) ?_)
  ((conv=>whnf);refine CB (i+1) ω ω ?_;(exact wC))
 ·repeat'(first|refine gD ?_|(conv=>whnf);first|refine C9 ?_)
  obtain rfl:i=r.Objs.length:=ω
  rw[I4]
  rfl
theorem gP(r:a7)(id:Int)(g:r.Objs.length<=1048576):ao Tryz.prog 385 false [.val (some 2) (a7.enc .imm r),.val none [I id]] .one [I (nl r id)]:=by
 refine fO 22 [] Tryz.func385 rfl ?_
 repeat'(first|refine gO ?_|(conv=>whnf);first|refine C9 ?_)
 (conv=>whnf)
 refine CC (ι:=Nat) (λi=>[(1,.hold .one [I (id)]),(2,.hold .box (a7.enc .imm r)),(5,.hold .one [I ((i:Nat):Int)])]) (λi=>i<=r.Objs.length/\∀(j:Nat)(z:bH),j<i->r.Objs[j]? = some z->mg id z=false) (λi=>r.Objs.length - i) (0) ?_ (⟨R0 _,λj z h=>ω⟩) λi c=>?_
 ·exact wC
 obtain⟨c,b⟩:=c;by_cases d:i<r.Objs.length
 ·have a:=ah d
  by_cases e:(nth r.Objs i).Id=id
  ·repeat'(first|refine gA ?_|(conv=>whnf);first|with_reducible refine CA (aa a) ?_|refine C9 ?_|refine CF rfl (aa a) rfl ?_)
   exact T0 (λz=>[I z]) (dN a (O0 e) b).symm
  ·repeat'(first|refine gA ?_|(conv=>whnf);first|with_reducible refine CA (aa a) ?_|refine C9 ?_|refine CF rfl (aa a) rfl ?_)
   ((conv=>whnf);refine CB (i+1) ⟨ω,di a (Q0 e) b⟩ ω ?_;(exact wC))
 ·repeat'(first|refine gD ?_|(conv=>whnf);first|refine C9 ?_)
  exact T0 (λz=>[I z]) (fT ω b).symm
theorem mF(r:a7)(c:C)(h:NH c):gr (a7.enc .own r++[c]):=aM (a7.enc_fr _) ⟨h,trivial⟩
theorem xq(r:a7)(n:Int)(m:Nat)(b:qo r m)(h:m<=1000)(c:1<=n/\n<=1000):ao Tryz.prog 301 false [.val (some 2) (a7.enc .imm r),.val none [I n]] (.tup [some 2,none]) (a7.enc .imm (kb r n)++[I r.Next]):=by
 have i:=b.sml h;have d:=b.len;have j:=b.nx;have k:=dK r i;have e:=aE n 1 1000;rw[O0 c]at e;have key:ao Tryz.prog 301 false [.val (some 2) (a7.enc .imm r),.val none [I n]] (.tup [some 2,none]) (a7.enc .own (kb r n)++[I r.Next]):=by
  have a:=mF (kb r n) (I r.Next) trivial;unfold kb at a |-;rw[C8 c]at a |-;have l:a7.enc .own {r with Next:=r.Next+1,Objs:=r.Objs++[⟨r.Next,List.replicate n.toNat 0⟩]} = [I (r.Next+1),.s .own (r.Objs.map (bH.enc .own)++[[I r.Next,.s .own (List.replicate n.toNat [I 0])]])]:=by
   simp[a7.enc,bH.enc,rI]
  rw[l]at a |-;refine fO 30 [(4,263,[13,14,15,16,17,18,22,0,1,2,3,4,5,6,1000,1001,7,1000,1001,8,9,10]),(6,259,[27,28,29,0,1,2,3,1001,1002,4])] Tryz.func301 rfl ?_ (.inr a)
  repeat'(first|refine gO ?_|(conv=>whnf);first|refine C9 ?_|refine C6 (k) ?_|refine C6 (e) ?_|refine Mk.mk n.toNat ω ω ω (yk ω (by decide)) rfl ?_|refine C9 ?_|refine Ap.sn (aI λ_=>rfl) rfl (by simp;omega) (by decide) rfl ?_)
  (conv=>whnf)
  rfl
 have g:=key.fzR;rw[eA,CZ]at g;exact g
theorem zR(r:a7)(id:Int)(m:Nat)(d:qo r m)(k:m<=1000):ao Tryz.prog 355 true [.val (some 2) (a7.enc .imm r),.val none [I id]] (.tup [some 2,none]) (a7.enc .imm (kO r id)++[B (!decide (nl r id<0))]):=by
 have g:=d.sml k;have h:=d.len;have i:=dK r g;have b:=gP r id g.1;by_cases e:nl r id<0
 ·have key:ao Tryz.prog 355 true [.val (some 2) (a7.enc .imm r),.val none [I id]] (.tup [some 2,none]) (a7.enc .own r++[B false]):=by
   refine fO 30 [(5,267,[16,17,18,19,20,22,23,24,25,26,28,0,1,2,3,4,6,7,8,9,10,5,1006,1007,1008,1009,1010,11,12,13]),(1048581,6,[1])] Tryz.func355 rfl ?_ (.inl rfl)
   repeat'(first|refine gD ?_|(conv=>whnf);first|refine C9 ?_|refine C6 (i) ?_|refine C6 (b) ?_)
   rfl
  have a:=key.fzR;rw[eA,CZ]at a;unfold kO;rw[C8 e,O0 e];exact a
 ·have n:kO r id = {r with Objs:=dele r.Objs (nl r id).toNat}:=by unfold kO;rw[C7 e]
  obtain⟨t,u,w⟩:=gc (mg id) r.Objs (by unfold nl at e;omega);obtain⟨j,c⟩:=O2 (show 0<=nl r id by omega);have o:j<r.Objs.length:=by unfold nl at c;omega
  have key:ao Tryz.prog 355 true [.val (some 2) (a7.enc .imm r),.val none [I id]] (.tup [some 2,none]) ([I r.Next,.s .own ((dele r.Objs j).map (bH.enc .imm))]++[B true]):=by
   rw[c]at b;refine fO 30 [(5,267,[16,17,18,19,20,22,23,24,25,26,28,0,1,2,3,4,6,7,8,9,10,5,1006,1007,1008,1009,1010,11,12,13]),(1048581,6,[1])] Tryz.func355 rfl ?_ (.inl rfl)
   repeat'(first|refine gD ?_|(conv=>whnf);first|refine C9 ?_|refine C6 (i) ?_|refine C6 (b) ?_|refine Fa.mk rfl (Mz r.Objs) rfl ?_|refine CS j rfl (by rw[W0];omega) (aI λ_=>rfl) R3 ?_|refine CU (j+1) ω (by rw[W0];omega) (aI λ_=>rfl) T3 ?_|refine CM (λ_=>rfl) (λ_=>rfl) (by rw[I1];omega) (by decide) ?_|refine CR (λ_=>rfl) (λ_=>rfl) (by rw[I1];omega) (by decide) ?_|refine Ap.dele (λ_=>rfl) (λ_=>rfl) ω (by decide) ?_|refine C9 ?_)
   rfl
  have a:=key.fzR;have p:dA ([I r.Next,.s .own ((dele r.Objs j).map (bH.enc .imm))]++[B true])=a7.enc .imm (kO r id)++[B (!decide (nl r id<0))]:=by
   have:∀l:List bH,fzR (l.map (bH.enc .imm))=l.map (bH.enc .imm):=λl=>by
    induction l with
    | nil=>rfl
    | cons x xs q=>rw[X4,fzR,q,<-bH.enc_fz,qI]
   rw[n,c,Q0 ω];simp[dA,fz,a7.enc,this]
  rw[p]at a;exact a
theorem yj(r:a7)(id a v:Int)(m:Nat)(o:qo r m)(D:m<=1000)(h:0<=nl r id)(c:0<=a/\a<=(nth r.Objs (nl r id).toNat).Cells.length - 1)(p:0<=v/\v<=999):ao Tryz.prog 357 false [.val (some 2) (a7.enc .imm r),.val none [I id],.val none [I a],.val none [I v]] (.tup [some 2,none]) (a7.enc .imm (eG r id a v)++[B true]):=by
 have k:=o.sml D;have q:=o.len;have E:=dK r k;have t:=gP r id k.1;obtain⟨J,K,L⟩:=gc (mg id) r.Objs h;obtain⟨j,l⟩:=O2 h;have d:j<r.Objs.length:=by unfold nl at l;omega
 have e:=ah d;have F:(nth r.Objs j).Cells.length<=1048576:=k.2 _ (am d);obtain⟨b,g⟩:=O2 c.1;have G:eG r id a v = {r with Objs:=r.Objs.set j ⟨(nth r.Objs j).Id,(nth r.Objs j).Cells.set b v⟩}:=by
  unfold eG;rw[C8 ⟨h,c,p⟩,l,g];rfl
 rw[l]at t c;rw[g]at c |-;simp only[I2]at c;have u:=ah (xs:=(nth r.Objs j).Cells) (i:=b) ω;have w:=aE (b:Nat) 0 (((nth r.Objs j).Cells.length:Nat) - 1:Int);rw[O0 ω]at w;have y:=aE v 0 999;rw[O0 p]at y;have key:ao Tryz.prog 357 false [.val (some 2) (a7.enc .imm r),.val none [I id],.val none [I (b:Nat)],.val none [I v]] (.tup [some 2,none]) (a7.enc .own (eG r id (b:Nat) v)++[B true]):=by
  have n:=mF (eG r id (b:Nat) v) (B true) trivial;rw[<-g,G]at n |-;have H:a7.enc .own {r with Objs:=r.Objs.set j ⟨(nth r.Objs j).Id,(nth r.Objs j).Cells.set b v⟩} = [I r.Next,.s .own ((r.Objs.map (bH.enc .own)).set j [I (nth r.Objs j).Id,.s .own (((nth r.Objs j).Cells.map (rI .own)).set b [I v])])]:=by
   simp[a7.enc,bH.enc,rI,Z4]
  rw[H]at n |-;rw[g];refine fO 48 [] Tryz.func357 rfl ?_ (.inr n)
  repeat'(first|refine gD ?_|(conv=>whnf);first|with_reducible (first|refine CA (aa e) ?_|refine CA (aa u) ?_|refine CJ ω (aa e) ?_)|refine C9 ?_|refine C6 (E) ?_|refine C6 (t) ?_|refine C6 (w) ?_|refine C6 (y) ?_|refine CF rfl (aa e) rfl ?_|refine Pu.two rfl rfl (aa e) rfl rfl rfl (aa u) rfl (R2 _) rfl ?_)
  rfl
 have C:=key.fzR;rw[eA,CZ]at C;exact C
theorem Ae(r:a7)(id n:Int)(m:Nat)(l:qo r m)(u:m<=1000)(g:0<=nl r id)(c:1<=n/\n<=(nth r.Objs (nl r id).toNat).Cells.length):ao Tryz.prog 359 false [.val (some 2) (a7.enc .imm r),.val none [I id],.val none [I n]] (.tup [some 2,none]) (a7.enc .imm (gj r id n)++[B true]):=by
 have h:=l.sml u;have o:=l.len;have w:=dK r h;have p:=gP r id h.1;obtain⟨E,F,G⟩:=gc (mg id) r.Objs g;obtain⟨j,i⟩:=O2 g;have a:j<r.Objs.length:=by unfold nl at i;omega
 have d:=ah a;have y:(nth r.Objs j).Cells.length<=1048576:=h.2 _ (am a);obtain⟨b,e⟩:=O2 (show 0<=n by omega);have C:gj r id n = {r with Objs:=r.Objs.set j ⟨(nth r.Objs j).Id,(nth r.Objs j).Cells.take b⟩}:=by
  unfold gj;rw[C8 ⟨g,c⟩,i,e];rfl
 rw[i]at p c;rw[e]at c |-;simp only[I2]at c;have q:=aE (b:Nat) 1 (((nth r.Objs j).Cells.length:Nat):Int);rw[O0 ω]at q;have key:ao Tryz.prog 359 false [.val (some 2) (a7.enc .imm r),.val none [I id],.val none [I (b:Nat)]] (.tup [some 2,none]) (a7.enc .own (gj r id (b:Nat))++[B true]):=by
  have k:=mF (gj r id (b:Nat)) (B true) trivial;rw[<-e,C]at k |-;have D:a7.enc .own {r with Objs:=r.Objs.set j ⟨(nth r.Objs j).Id,(nth r.Objs j).Cells.take b⟩} = [I r.Next,.s .own ((r.Objs.map (bH.enc .own)).set j [I (nth r.Objs j).Id,.s .own (((nth r.Objs j).Cells.take b).map (rI .imm))])]:=by
   simp only[a7.enc,Z4]
   rfl
  rw[D]at k |-;rw[e];refine fO 46 [(5,270,[30,31,32,33,34,35,36,37,38,39,40,41,43,44,0,1,2,3,4,5,6,7,8,9,10,11,12,1000,1001,1002,13,14,15])] Tryz.func359 rfl ?_ (.inr k)
  repeat'(first|refine gD ?_|(conv=>whnf);first|with_reducible (first|refine CA (aa d) ?_|refine CJ ω (aa d) ?_)|refine C9 ?_|refine C6 (w) ?_|refine C6 (p) ?_|refine C6 (q) ?_|refine CF rfl (aa d) rfl ?_|refine CS b rfl (by rw[W0];omega) (aI λ_=>rfl) R3 ?_|refine CR (λ_=>rfl) (λ_=>rfl) (by rw[I1];omega) (by decide) ?_|refine CM (λ_=>rfl) (λ_=>rfl) (by rw[I1];omega) (by decide) ?_|refine C9 ?_|refine CL rfl rfl (aa d) rfl (X0 rfl) rfl ?_)
  rfl
 have t:=key.fzR;rw[eA,CZ]at t;exact t
theorem zt(r:a7)(id a v:Int)(m:Nat)(h:qo r m)(l:m<=1000)(u:0<=v/\v<=999):∃b:Bool,ao Tryz.prog 357 false [.val (some 2) (a7.enc .imm r),.val none [I id],.val none [I a],.val none [I v]] (.tup [some 2,none]) (a7.enc .imm (eG r id a v)++[B b]):=by
 by_cases i:0<=nl r id
 ·by_cases d:0<=a/\a<=(nth r.Objs (nl r id).toNat).Cells.length - 1
  ·exact⟨true,yj r id a v m h l i d u⟩
  ·refine⟨false,?_⟩
   have c:=h.sml l;have o:=h.len;have n:=dK r c;have k:=gP r id c.1;obtain⟨C,D,E⟩:=gc (mg id) r.Objs i;obtain⟨j,p⟩:=O2 i;have e:j<r.Objs.length:=by unfold nl at p;omega
   have q:=ah e;have w:(nth r.Objs j).Cells.length<=1048576:=c.2 _ (am e);have y:eG r id a v=r:=by unfold eG;rw[C7 (λx=>d x.2.1)]
   rw[p]at k d;simp only[I2]at d;have t:=aE a 0 (((nth r.Objs j).Cells.length:Nat) - 1:Int);rw[Q0 d]at t;rw[y];have key:ao Tryz.prog 357 false [.val (some 2) (a7.enc .imm r),.val none [I id],.val none [I a],.val none [I v]] (.tup [some 2,none]) (a7.enc .own r++[B false]):=by
    refine fO 48 [] Tryz.func357 rfl ?_ (.inr (mF r (B false) trivial))
    repeat'(first|refine gD ?_|(conv=>whnf);first|with_reducible refine CA (aa q) ?_|refine C9 ?_|refine C6 (n) ?_|refine C6 (k) ?_|refine C6 (t) ?_|refine CF rfl (aa q) rfl ?_)
    rfl
   have g:=key.fzR;rw[eA,CZ]at g;exact g
 ·refine⟨false,?_⟩
  have c:=h.sml l;have n:=dK r c;have k:=gP r id c.1;rw[show eG r id a v=r by unfold eG;rw[C7 (λx=>i x.1)]];have key:ao Tryz.prog 357 false [.val (some 2) (a7.enc .imm r),.val none [I id],.val none [I a],.val none [I v]] (.tup [some 2,none]) (a7.enc .own r++[B false]):=by
   refine fO 48 [] Tryz.func357 rfl ?_ (.inr (mF r (B false) trivial))
   repeat'(first|refine gD ?_|(conv=>whnf);first|refine C9 ?_|refine C6 (n) ?_|refine C6 (k) ?_)
   rfl
  have g:=key.fzR;rw[eA,CZ]at g;exact g
theorem D6(r:a7)(id n:Int)(m:Nat)(g:qo r m)(k:m<=1000):∃b:Bool,ao Tryz.prog 359 false [.val (some 2) (a7.enc .imm r),.val none [I id],.val none [I n]] (.tup [some 2,none]) (a7.enc .imm (gj r id n)++[B b]):=by
 by_cases h:0<=nl r id
 ·by_cases c:1<=n/\n<=(nth r.Objs (nl r id).toNat).Cells.length
  ·exact⟨true,Ae r id n m g k h c⟩
  ·refine⟨false,?_⟩
   have a:=g.sml k;have o:=g.len;have l:=dK r a;have i:=gP r id a.1;obtain⟨y,C,D⟩:=gc (mg id) r.Objs h;obtain⟨j,p⟩:=O2 h;have d:j<r.Objs.length:=by unfold nl at p;omega
   have q:=ah d;have u:(nth r.Objs j).Cells.length<=1048576:=a.2 _ (am d);have w:gj r id n=r:=by unfold gj;rw[C7 (λx=>c x.2)]
   rw[p]at i c;simp only[I2]at c;have t:=aE n 1 (((nth r.Objs j).Cells.length:Nat):Int);rw[Q0 c]at t;rw[w];have key:ao Tryz.prog 359 false [.val (some 2) (a7.enc .imm r),.val none [I id],.val none [I n]] (.tup [some 2,none]) (a7.enc .own r++[B false]):=by
    refine fO 46 [(5,270,[30,31,32,33,34,35,36,37,38,39,40,41,43,44,0,1,2,3,4,5,6,7,8,9,10,11,12,1000,1001,1002,13,14,15])] Tryz.func359 rfl ?_ (.inr (mF r (B false) trivial))
    repeat'(first|refine gD ?_|(conv=>whnf);first|with_reducible refine CA (aa q) ?_|refine C9 ?_|refine C6 (l) ?_|refine C6 (i) ?_|refine C6 (t) ?_|refine CF rfl (aa q) rfl ?_)
    rfl
   have e:=key.fzR;rw[eA,CZ]at e;exact e
 ·refine⟨false,?_⟩
  have a:=g.sml k;have l:=dK r a;have i:=gP r id a.1;rw[show gj r id n=r by unfold gj;rw[C7 (λx=>h x.1)]];have key:ao Tryz.prog 359 false [.val (some 2) (a7.enc .imm r),.val none [I id],.val none [I n]] (.tup [some 2,none]) (a7.enc .own r++[B false]):=by
   refine fO 46 [(5,270,[30,31,32,33,34,35,36,37,38,39,40,41,43,44,0,1,2,3,4,5,6,7,8,9,10,11,12,1000,1001,1002,13,14,15])] Tryz.func359 rfl ?_ (.inr (mF r (B false) trivial))
   repeat'(first|refine gD ?_|(conv=>whnf);first|refine C9 ?_|refine C6 (l) ?_|refine C6 (i) ?_)
   rfl
  have e:=key.fzR;rw[eA,CZ]at e;exact e
structure hC where
 i:Nat
 h:Int
deriving Inhabited
def w64(x:Int):Int:=IntKind.i64.wrap x
def Pq(h:Int):Int:=w64 (w64 (h*6364136223846793005)+1442695040888963407)
def NR(a b:Int):Int:=w64 ((BitVec.ofInt IntKind.i64.bits a ^^^ BitVec.ofInt IntKind.i64.bits b).toNat:Nat)
def and255(a:Int):Int:=w64 ((BitVec.ofInt IntKind.i64.bits a &&& BitVec.ofInt IntKind.i64.bits 255).toNat:Nat)
def LP(h:Int)(n:Nat):Int:=h.fdiv (2 ^ (min n IntKind.i64.bits))
def y3(h:Int):Int:=and255 (NR (LP h 33) (LP h 45))
theorem yy(a:Int):0<=and255 a/\and255 a<=255:=by
 have b:(BitVec.ofInt IntKind.i64.bits a &&& BitVec.ofInt IntKind.i64.bits 255).toNat<=255:=by
  rw[BitVec.toNat_and];exact t4 Nat.and_le_right (by decide)
 unfold and255 w64;rw[eS ω ω];omega
def dt(zs:List Int)(c:hC):Int × hC:=if c.i<zs.length then(and255 (y3 (Pq c.h)+nth zs c.i),⟨c.i+1,Pq c.h⟩) else(y3 (Pq c.h),⟨c.i,Pq c.h⟩)
theorem qz(zs:List Int)(c:hC):0<=(dt zs c).1/\(dt zs c).1<=255:=by
 unfold dt;split<;>exact yy _
theorem iy{zs:List Int}{c:hC}(h:c.i<=zs.length):(dt zs c).2.i<=zs.length:=by
 unfold dt;split
 ·simp only;omega
 ·exact h
def yI(zs:List Int)(c:hC):Int × hC:=
 ((dt zs c).1*16777216+(dt zs (dt zs c).2).1*65536+(dt zs (dt zs (dt zs c).2).2).1*256+(dt zs (dt zs (dt zs (dt zs c).2).2).2).1,(dt zs (dt zs (dt zs (dt zs c).2).2).2).2)
def bt(zs:List Int)(c:hC)(n:Int):Int × hC:=if n<=256 then((dt zs c).1 % n,(dt zs c).2) else((yI zs c).1 % n,(yI zs c).2)
theorem bG(zs:List Int)(c:hC){n:Int}(h:1<=n):0<=(bt zs c n).1/\(bt zs c n).1<n:=by
 unfold bt;split<;>exact⟨Int.emod_nonneg _ ω,Int.emod_lt_of_pos _ ω⟩
theorem bL{zs:List Int}{c:hC}(h:c.i<=zs.length)(n:Int):(bt zs c n).2.i<=zs.length:=by
 unfold bt;split
 ·exact iy h
 ·exact iy (iy (iy (iy h)))
def kf(zs:List Int)(c:hC)(l:List Int):Int × hC:=(nth l (bt zs c (l.length:Nat)).1.toNat,(bt zs c (l.length:Nat)).2)
theorem oI(zs:List Int)(c:hC){l:List Int}(h:1<=l.length):(kf zs c l).1∈l:=by
 have:=bG zs c (n:=(l.length:Nat)) ω;exact am ω
def nR(zs:List Int):Nat->Nat->List Int->hC->List Int × hC
 | 0,_,out,c=>(out,(bt zs c 4).2)
 | f+1,i,out,c=>if(i:Int)<(bt zs c 4).1 then nR zs f (i+1) (out++[(bt zs (bt zs c 4).2 12).1]) (bt zs (bt zs c 4).2 12).2 else(out,(bt zs c 4).2)
def MJ(zs:List Int)(c:hC):List Int × hC:=nR zs 4 0 [] c
theorem FW(zs:List Int):∀(f i:Nat)(out:List Int)(c:hC),(∀x∈out,0<=x)->out.length+f<=4->c.i<=zs.length->(∀x∈(nR zs f i out c).1,0<=x)/\(nR zs f i out c).1.length<=4/\(nR zs f i out c).2.i<=zs.length
 | 0,_,out,c,b,e,d=>⟨b,by show out.length<=4;omega,bL d _⟩
 | f+1,i,out,c,b,e,d=>by
  unfold nR;split
  ·refine FW zs f (i+1) _ _ (λx a=>?_) (by simp only[W2,List.length_singleton];omega) (bL (bL d _) _)
   rcases Q2.1 a with a|a
   ·exact b x a
   ·rw[Z0.1 a];exact(bG zs _ (by decide)).1
  ·exact⟨b,by show out.length<=4;omega,bL d _⟩
def xQ(zs:List Int)(c:hC):Int × hC:=bt zs c 7
def Bv(zs:List Int)(c:hC):Int × hC:=bt zs (xQ zs c).2 3
def Fh(zs:List Int)(c:hC):Int × hC:=bt zs (Bv zs c).2 100
def Bj(zs:List Int)(c:hC):Int × hC:=bt zs (Fh zs c).2 4
def N3(zs:List Int)(c:hC):List Int × hC:=MJ zs (Bj zs c).2
def pu(zs:List Int)(c:hC):cB:=⟨(6+(xQ zs c).1).toNat,(6+(xQ zs c).1 - (Bj zs c).1).toNat,(1+(Bv zs c).1).toNat,40+(Fh zs c).1,(N3 zs c).1⟩
theorem rp{zs:List Int}{c:hC}(h:c.i<=zs.length):FQ (pu zs c)/\(N3 zs c).2.i<=zs.length:=by
 have a:=bG zs c (n:=7) (by decide);have b:=bG zs (xQ zs c).2 (n:=3) (by decide);have d:=bG zs (Bv zs c).2 (n:=100) (by decide);have e:=bG zs (Fh zs c).2 (n:=4) (by decide);change 0<=(xQ zs c).1/\(xQ zs c).1<7 at a;change 0<=(Bv zs c).1/\(Bv zs c).1<3 at b;change 0<=(Fh zs c).1/\(Fh zs c).1<100 at d;change 0<=(Bj zs c).1/\(Bj zs c).1<4 at e;obtain⟨f,k,g⟩:=FW zs 4 0 [] (Bj zs c).2 (λx j=>by cases j) (by simp) (bL (bL (bL (bL h _) _) _) _);refine⟨⟨?_,?_,?_,?_,?_⟩,g⟩
 ·show 1<=(6+(xQ zs c).1).toNat/\(6+(xQ zs c).1).toNat<=32;omega
 ·show 1<=(6+(xQ zs c).1 - (Bj zs c).1).toNat/\(6+(xQ zs c).1 - (Bj zs c).1).toNat<=32;omega
 ·show 1<=(1+(Bv zs c).1).toNat/\(1+(Bv zs c).1).toNat<=4;omega
 ·show 0<=40+(Fh zs c).1/\40+(Fh zs c).1<=1000;omega
 ·exact⟨by show(nR zs 4 0 [] (Bj zs c).2).1.length<=40;omega,f⟩
def yZ(zs:List Int)(c:hC):Int × hC:=bt zs c 3
def Eu(zs:List Int)(c:hC)(ids:Int):Int × hC:=bt zs (yZ zs c).2 ids
def jW(zs:List Int)(c:hC)(ids:Int):Int × hC:=bt zs (Eu zs c ids).2 20
def szs:List Int:=[1,1,2,2,3,4,4,5,8,9,20]
def qV(zs:List Int)(c:hC)(ids:Int):ec × hC:=
 if(jW zs c ids).1<=6 then(⟨1,(yZ zs c).1,(kf zs (jW zs c ids).2 szs).1,0,0⟩,(kf zs (jW zs c ids).2 szs).2)
 else if(jW zs c ids).1<=9 then(⟨2,(yZ zs c).1,1+(Eu zs c ids).1,0,0⟩,(jW zs c ids).2)
 else if(jW zs c ids).1<=12 then(⟨3,(yZ zs c).1,1+(Eu zs c ids).1,(bt zs (jW zs c ids).2 4).1,1+(bt zs (bt zs (jW zs c ids).2 4).2 999).1⟩,(bt zs (bt zs (jW zs c ids).2 4).2 999).2)
 else if(jW zs c ids).1=13 then(⟨4,(yZ zs c).1,1+(Eu zs c ids).1,0,9+(bt zs (jW zs c ids).2 10).1⟩,(bt zs (jW zs c ids).2 10).2)
 else if(jW zs c ids).1=14 then(⟨(kf zs (jW zs c ids).2 [5,6]).1,(yZ zs c).1,1+(Eu zs c ids).1,0,0⟩,(kf zs (jW zs c ids).2 [5,6]).2)
 else if(jW zs c ids).1=15 then(⟨7,(yZ zs c).1,1+(Eu zs c ids).1,0,0⟩,(jW zs c ids).2)
 else if(jW zs c ids).1=16 then(⟨8,(yZ zs c).1,(kf zs (jW zs c ids).2 [1,30,60,120]).1,0,0⟩,(kf zs (jW zs c ids).2 [1,30,60,120]).2)
 else if(jW zs c ids).1=17 then(⟨9,(yZ zs c).1,1+(Eu zs c ids).1,0,0⟩,(jW zs c ids).2)
 else(⟨10,(yZ zs c).1,(kf zs (jW zs c ids).2 [1,2,3,10,30]).1,0,0⟩,(kf zs (jW zs c ids).2 [1,2,3,10,30]).2)
structure KB(a:ec):Prop where
 k:1<=a.Kind/\a.Kind<=10
 t:0<=a.Thread/\a.Thread<=1000000
 n:0<=a.N/\a.N<=1000000
 p:0<=a.At/\a.At<=1000000
 v:0<=a.Value/\a.Value<=1000000
theorem J3{zs:List Int}{c:hC}{ids:Int}(h:c.i<=zs.length)(b:1<=ids/\ids<=1000):KB (qV zs c ids).1/\(qV zs c ids).2.i<=zs.length:=by
 have d:=bG zs c (n:=3) (by decide);have e:=bG zs (yZ zs c).2 (n:=ids) b.1;change 0<=(yZ zs c).1/\(yZ zs c).1<3 at d;change 0<=(Eu zs c ids).1/\(Eu zs c ids).1<ids at e;have a:(jW zs c ids).2.i<=zs.length:=bL (bL (bL h _) _) _;have f:=oI zs (jW zs c ids).2 (l:=szs) (by decide);have g:=oI zs (jW zs c ids).2 (l:=[5,6]) (by decide);have j:=oI zs (jW zs c ids).2 (l:=[1,30,60,120]) (by decide);have k:=oI zs (jW zs c ids).2 (l:=[1,2,3,10,30]) (by decide);have o:=bG zs (jW zs c ids).2 (n:=4) (by decide);have p:=bG zs (bt zs (jW zs c ids).2 4).2 (n:=999) (by decide);have q:=bG zs (jW zs c ids).2 (n:=10) (by decide);simp only[szs,List.mem_cons,List.not_mem_nil,or_false]at f g j k;unfold qV
 repeat' split
 ·exact⟨⟨by simp only;omega,by simp only;omega,by simp only[szs];omega,by simp only;omega,by simp only;omega⟩,bL a _⟩
 ·exact⟨⟨by simp only;omega,by simp only;omega,by simp only;omega,by simp only;omega,by simp only;omega⟩,a⟩
 ·exact⟨⟨by simp only;omega,by simp only;omega,by simp only;omega,by simp only;omega,by simp only;omega⟩,bL (bL a _) _⟩
 ·exact⟨⟨by simp only;omega,by simp only;omega,by simp only;omega,by simp only;omega,by simp only;omega⟩,bL a _⟩
 ·exact⟨⟨by simp only;omega,by simp only;omega,by simp only;omega,by simp only;omega,by simp only;omega⟩,bL a _⟩
 ·exact⟨⟨by simp only;omega,by simp only;omega,by simp only;omega,by simp only;omega,by simp only;omega⟩,a⟩
 ·exact⟨⟨by simp only;omega,by simp only;omega,by simp only;omega,by simp only;omega,by simp only;omega⟩,bL a _⟩
 ·exact⟨⟨by simp only;omega,by simp only;omega,by simp only;omega,by simp only;omega,by simp only;omega⟩,a⟩
 ·exact⟨⟨by simp only;omega,by simp only;omega,by simp only;omega,by simp only;omega,by simp only;omega⟩,bL a _⟩
def ky(zs:List Int)(c:hC):Nat->List ec × hC
 | 0=>([],(bt zs c 41).2)
 | i+1=>((ky zs c i).1++[(qV zs (ky zs c i).2 (1+(i:Int) / 2)).1],(qV zs (ky zs c i).2 (1+(i:Int) / 2)).2)
def mQ(zs:List Int)(c:hC):List ec × hC:=ky zs c (bt zs c 41).1.toNat
theorem qA{zs:List Int}{c:hC}(h:c.i<=zs.length):∀{n:Nat},n<=100->(ky zs c n).1.length=n/\(∀a∈(ky zs c n).1,KB a)/\(ky zs c n).2.i<=zs.length
 | 0,_=>⟨rfl,λa b=>(by cases b),bL h _⟩
 | n+1,k=>by
  obtain⟨d,e,f⟩:=qA h (n:=n) ω;obtain⟨g,j⟩:=J3 (ids:=1+(n:Int) / 2) f ω;refine⟨by simp only[ky,W2,List.length_singleton,d],λa b=>?_,j⟩;rcases Q2.1 b with b|b
  ·exact e a b
  ·rw[Z0.1 b];exact g
def oQ(zs:List Int):Nat->Int
 | 0=>w64 (98801+(zs.length:Nat))
 | i+1=>w64 ((BitVec.ofInt IntKind.i64.bits (w64 (w64 (w64 (oQ zs i*131)+nth zs i)+7)) &&& BitVec.ofInt IntKind.i64.bits 1073741823).toNat:Nat)
def sD(zs:List Int):hC:=⟨0,oQ zs (min zs.length 4000)⟩
def eZ(zs:List Int):hC:=(N3 zs (sD zs)).2
def drawn(zs:List Int):bI:=(Aq (pu zs (sD zs)) (mQ zs (eZ zs)).1 (mQ zs (eZ zs)).1.length).1
theorem BS(zs:List Int):r6 (drawn zs) 40:=by
 have a:(sD zs).i<=zs.length:=R0 _;obtain⟨b,d⟩:=rp a;have f:=bG zs (eZ zs) (n:=41) (by decide);obtain⟨e,-,-⟩:=qA (zs:=zs) (c:=eZ zs) d (n:=(bt zs (eZ zs) 41).1.toNat) ω;refine(wn b _ _).more ?_;show(ky zs (eZ zs) _).1.length<=40;rw[e];omega
def rU(z:Int):List C:=[.v (.int .u8 z)]
def gL(zs:List Int)(c:hC):List C:=[.s .imm (zs.map rU),I (c.i:Nat),I c.h]
def iJ(zs:List Int):Prop:=zs.length<=1048576/\∀z∈zs,0<=z/\z<=255
theorem jH(zs:List Int)(c:hC)(e:iJ zs)(w:c.i<=zs.length):aP Tryz.prog 185 false [.ptr (gL zs c)] [.ptr (gL zs (dt zs c).2)] .one [I (dt zs c).1]:=by
 have g:IntKind.i64.wrap (c.h*6364136223846793005)=w64 (c.h*6364136223846793005):=rfl;have b:IntKind.i64.wrap (w64 (c.h*6364136223846793005)+1442695040888963407)=Pq c.h:=rfl;have o:=e.1;generalize p:Pq c.h=H at b;have j:H.fdiv (2 ^ (min (33:Int).toNat IntKind.i64.bits))=LP H 33:=rfl;have k:H.fdiv (2 ^ (min (45:Int).toNat IntKind.i64.bits))=LP H 45:=rfl;have l:IntKind.i64.wrap (BitVec.ofInt IntKind.i64.bits (LP H 33) ^^^ BitVec.ofInt IntKind.i64.bits (LP H 45)).toNat=NR (LP H 33) (LP H 45):=rfl;have d:IntKind.i64.wrap (BitVec.ofInt IntKind.i64.bits (NR (LP H 33) (LP H 45)) &&& BitVec.ofInt IntKind.i64.bits 255).toNat=y3 H:=rfl;have r:0<=y3 H/\y3 H<=255:=yy _;unfold dt;rw[p];generalize y3 H=y at d r |-;refine fM 58 [] [(2,10,[13,14,15,16,17,18,19,20,21,22]),(3,9,[25,26,27,28,29,30,31,32,33]),(4,12,[35,36,37,38,39,40,41,42,43,44,45,46])] [(0,0)] Tryz.func185 rfl (λu q=>?_);by_cases a:c.i<zs.length
 ·rw[C8 a]
  have n:=ah a;have B:=e.2 _ (am a);have t:IntKind.i64.wrap (BitVec.ofInt IntKind.i64.bits (y+nth zs c.i) &&& BitVec.ofInt IntKind.i64.bits 255).toNat=and255 (y+nth zs c.i):=rfl
  repeat'(first|refine gD ?_|(conv=>whnf);first|with_reducible (first|refine CI g ?_|refine CI b ?_|refine CI l ?_|refine CI d ?_|refine CI t ?_|refine CA (aa n) ?_|refine CK (by decide) ?_|refine CO j ?_|refine CO k ?_)|refine CF rfl (aa n) rfl ?_|refine C9 ?_)
  refine CE rfl rfl ?_;exact wB
 ·rw[C7 a]
  repeat'(first|refine gD ?_|(conv=>whnf);first|with_reducible (first|refine CI g ?_|refine CI b ?_|refine CI l ?_|refine CI d ?_|refine CK (by decide) ?_|refine CO j ?_|refine CO k ?_)|refine C9 ?_)
  refine CE rfl rfl ?_;exact wB
theorem bJ(zs:List Int)(c:hC)(n:Int)(b:iJ zs)(d:c.i<=zs.length)(p:1<=n):aP Tryz.prog 92 false [.ptr (gL zs c),.val none [I n]] [.ptr (gL zs (bt zs c n).2),.val none [I n]] .one [I (bt zs c n).1]:=by
 have j:=qz zs c;have g:=jH zs c b d;unfold bt;refine fM 37 [(185,[2])] [] [(0,0),(0,0)] Tryz.func92 rfl (λu q=>?_);by_cases h:n<=256
 ·rw[C8 h]
  have a:(dt zs c).1.tmod n=(dt zs c).1 % n:=Int.tmod_eq_emod_of_nonneg j.1
  repeat'(first|refine gD ?_|(conv=>whnf);first|with_reducible (first|refine CO a ?_|refine Bf.D (λe=>?_) (λe=>?_))|refine CG (g) (.inl rfl) ?_|refine CK ω ?_)
  refine CE rfl rfl ?_;exact wB
 ·rw[C7 h]
  have r:=qz zs (dt zs c).2;have t:=qz zs (dt zs (dt zs c).2).2;have w:=qz zs (dt zs (dt zs (dt zs c).2).2).2;have k:=jH zs (dt zs c).2 b (iy d);have l:=jH zs (dt zs (dt zs c).2).2 b (iy (iy d));have o:=jH zs (dt zs (dt zs (dt zs c).2).2).2 b (iy (iy (iy d)));have a:(yI zs c).1.tmod n=(yI zs c).1 % n:=Int.tmod_eq_emod_of_nonneg (by unfold yI;simp only;omega);unfold yI at a |-;simp only at a
  repeat'(first|refine gD ?_|(conv=>whnf);first|with_reducible (first|refine CO a ?_|refine Bf.D (λe=>?_) (λe=>?_))|refine CG (g) (.inl rfl) ?_|refine CG (k) (.inl rfl) ?_|refine CG (l) (.inl rfl) ?_|refine CG (o) (.inl rfl) ?_|refine CK ω ?_)
  refine CE rfl rfl ?_;exact wB
theorem Ju(zs:List Int)(c:hC)(l:List Int)(b:iJ zs)(d:c.i<=zs.length)(g:1<=l.length/\l.length<=1000):aP Tryz.prog 310 false [.ptr (gL zs c),.val none (aD .imm l)] [.ptr (gL zs (kf zs c l).2),.val none (aD .imm l)] .one [I (kf zs c l).1]:=by
 have e:=bJ zs c (l.length:Nat) b d ω;have h:=bG zs c (n:=(l.length:Nat)) ω;have a:=ah (xs:=l) (i:=(bt zs c (l.length:Nat)).1.toNat) ω;unfold kf;refine fM 12 [(92,[2,0])] [] [(0,0),(0,0)] Tryz.func310 rfl (λu q=>?_)
 repeat'(first|refine gO ?_|(conv=>whnf);first|with_reducible refine CJ ω (aa a) ?_|refine CG (e) (.inl rfl) ?_|refine CF rfl (aa a) rfl ?_)
 refine CE rfl rfl ?_;exact wC
theorem io(zs:List Int)(c:hC)(l:List Int)(b:iJ zs)(d:c.i<=zs.length)(g:1<=l.length/\l.length<=1000):aP Tryz.prog 310 false [.ptr (gL zs c),.mut none (aD .own l)] [.ptr (gL zs (kf zs c l).2),.mut none (aD .own l)] .one [I (kf zs c l).1]:=by
 have e:=bJ zs c (l.length:Nat) b d ω;have h:=bG zs c (n:=(l.length:Nat)) ω;have a:=ah (xs:=l) (i:=(bt zs c (l.length:Nat)).1.toNat) ω;unfold kf;refine fM 12 [(92,[2,0])] [] [(0,0),(1,0)] Tryz.func310 rfl (λu q=>?_)
 repeat'(first|refine gO ?_|(conv=>whnf);first|with_reducible refine CJ ω (aa a) ?_|refine CG (e) (.inl rfl) ?_|refine CF rfl (aa a) rfl ?_)
 refine CE rfl rfl ?_;exact wC
theorem HY(zs:List Int):∀(f i:Nat)(out:List Int)(c:hC),(bt zs c 4).1<=i->nR zs f i out c=(out,(bt zs c 4).2)
 | 0,_,_,_,_=>rfl
 | f+1,i,out,c,h=>by unfold nR;rw[C7 ω]
theorem Mm(zs:List Int)(f i:Nat)(out:List Int)(c:hC)(h:(i:Int)<(bt zs c 4).1):nR zs (f+1) i out c=nR zs f (i+1) (out++[(bt zs (bt zs c 4).2 12).1]) (bt zs (bt zs c 4).2 12).2:=by
 show(if _ then _ else _)=_;rw[C8 h]
structure Rq where
 i:Nat
 out:List Int
 c:hC
theorem uN(zs:List Int)(c:hC)(e:iJ zs)(j:c.i<=zs.length):aP Tryz.prog 242 false [.ptr (gL zs c)] [.ptr (gL zs (MJ zs c).2)] .one (aD .own (MJ zs c).1):=by
 refine fM 18 [(92,[2,0])] [] [(0,0)] Tryz.func242 rfl (λu q=>?_) (.inr (bK _))
 repeat'(first|refine gO ?_|fail)
 (conv=>whnf)
 refine CC (ι:=Rq) (λx=>[(0,.hold .box (gL zs x.c)),(3,.hold .one (aD .own x.out)),(4,.hold .one [I ((x.i:Nat):Int)])]) (λx=>(x.i<=4/\x.out.length<=x.i/\x.c.i<=zs.length)/\nR zs (4 - x.i) x.i x.out x.c=MJ zs c) (λx=>4 - x.i) (⟨0,[],c⟩) ?_ (⟨⟨R0 _,R0 _,j⟩,rfl⟩) λx k=>?_
 ·exact wC
 obtain⟨i,out,d⟩:=x;obtain⟨⟨l,o,b⟩,a⟩:=k;simp only at l o b a |-;have B:=bG zs d (n:=4) (by decide);have g:=bJ zs d 4 e b (by decide);have h:=bL b 4;have p:=bJ zs (bt zs d 4).2 12 e h (by decide);have t:=bL h 12;by_cases w:(i:Int)<(bt zs d 4).1
 ·rw[show 4 - i=(4 - (i+1))+1 by omega,Mm zs _ _ _ _ w]at a
  repeat'(first|refine gD ?_|(conv=>whnf);first|refine CG (g) (.inl rfl) ?_|refine CG (p) (.inl rfl) ?_|refine CQ cx (λr y=>by rw[Z0.1 y];rfl) (by simp[aV,dC]) (by simp;omega) (by simp only[W0];exact yk (by simp;omega) (by decide)) rfl ?_)
  ((conv=>whnf);refine CB ⟨i+1,out++[(bt zs (bt zs d 4).2 12).1],(bt zs (bt zs d 4).2 12).2⟩ ⟨⟨by simp only;omega,by simp only[W2,List.length_singleton];omega,t⟩,a⟩ (by simp only;omega) ?_)
  repeat'(first|exact trivial|rfl| exact dx _ |exact CH rfl (CH (T0 (C.s dw.own) (by simp[rI])) trivial)|refine CH ?_ ?_|(exact yP (by first|omega|(simp only;omega)|(simp;omega))))
 ·rw[HY zs _ _ _ _ ω]at a
  rw[<-a]
  repeat'(first|refine gD ?_|(conv=>whnf);first|refine CG (g) (.inl rfl) ?_)
  refine CE rfl rfl ?_;exact wC
def cB.enc(o:dw)(c:cB):List C:=[I (c.Pages:Nat),I (c.Frames:Nat),I (c.Threads:Nat),I c.Limit,.s o (c.Refuse.map (rI o))]
theorem cB.enc_fz(c:cB):dA (cB.enc .own c)=cB.enc .imm c:=by simp[dA,cB.enc,rI,<-ca,W4]
theorem cB.enc_fr(c:cB):gr (cB.enc .own c):=⟨trivial,trivial,trivial,trivial,⟨.inl λh=>(by cases h),aZ _ _ λy _=>oZ y⟩,trivial⟩
theorem wE(zs:List Int)(c:hC)(a:iJ zs)(h:c.i<=zs.length):aP Tryz.prog 150 false [.ptr (gL zs c)] [.ptr (gL zs (N3 zs c).2)] .agg (cB.enc .own (pu zs c)):=by
 have j:=bL h 7;have k:=bL j 3;have l:=bL k 100;have y:=bL l 4;have b:=bJ zs c 7 a h (by decide);have d:=bJ zs (xQ zs c).2 3 a j (by decide);have e:=bJ zs (Bv zs c).2 100 a k (by decide);have g:=bJ zs (Fh zs c).2 4 a l (by decide);have o:=uN zs (Bj zs c).2 a y;have p:=bG zs c (n:=7) (by decide);have r:=bG zs (xQ zs c).2 (n:=3) (by decide);have B:=bG zs (Bv zs c).2 (n:=100) (by decide);have t:=bG zs (Fh zs c).2 (n:=4) (by decide);have w:=cB.enc_fr (pu zs c);have C:cB.enc .own (pu zs c)=[I (6+(xQ zs c).1),I (6+(xQ zs c).1 - (Bj zs c).1),I (1+(Bv zs c).1),I (40+(Fh zs c).1),.s .own ((N3 zs c).1.map (rI .own))]:=by
  have D:0<=(xQ zs c).1/\(xQ zs c).1<7:=p;have E:0<=(Bv zs c).1/\(Bv zs c).1<3:=r;have F:0<=(Bj zs c).1/\(Bj zs c).1<4:=t;unfold cB.enc pu;simp only;rw[Int.toNat_of_nonneg ω,Int.toNat_of_nonneg ω,Int.toNat_of_nonneg ω]
 rw[C]at w |-;change aP _ _ _ _ [.ptr (gL zs (xQ zs c).2),_] _ _ at b;change aP _ _ _ _ [.ptr (gL zs (Bv zs c).2),_] _ _ at d;change aP _ _ _ _ [.ptr (gL zs (Fh zs c).2),_] _ _ at e;change aP _ _ _ _ [.ptr (gL zs (Bj zs c).2),_] _ _ at g;change aP _ _ _ _ [.ptr (gL zs (N3 zs c).2)] _ (aD .own (N3 zs c).1) at o;change aP _ _ _ _ _ _ [I (xQ zs c).1]at b;change aP _ _ _ _ _ _ [I (Bv zs c).1]at d;change aP _ _ _ _ _ _ [I (Fh zs c).1]at e;change aP _ _ _ _ _ _ [I (Bj zs c).1]at g;change 0<=(xQ zs c).1/\(xQ zs c).1<7 at p;change 0<=(Bv zs c).1/\(Bv zs c).1<3 at r;change 0<=(Fh zs c).1/\(Fh zs c).1<100 at B;change 0<=(Bj zs c).1/\(Bj zs c).1<4 at t;generalize N3 zs c=r5 at *;generalize Bj zs c=r4 at *;generalize Fh zs c=r3 at *;generalize Bv zs c=r2 at *;generalize xQ zs c=r1 at *;refine fM 24 [(92,[2,0]),(242,[2])] [(2,65536,[])] [(0,0)] Tryz.func150 rfl (λu q=>?_) (.inr w)
 repeat'(first|refine gO ?_|(conv=>whnf);first|refine CG (b) (.inl rfl) ?_|refine CG (d) (.inl rfl) ?_|refine CG (e) (.inl rfl) ?_|refine CG (g) (.inl rfl) ?_|refine CG (o) (.inl rfl) ?_|refine CH ?_ ?_)
 all_goals
  refine CE rfl rfl ?_;exact wC
theorem vi(n:Nat)(e:1<=n/\n<=32):ao Tryz.prog 400 false [.val none [I (n:Nat)]] (.tup [some 2,none]) (aU.enc .own (f7 n)++[B true]):=by
 have c:=aE ((n:Nat):Int) 1 32;rw[O0 ω]at c;have a:=aM (b:=[B true]) (aU.enc_fr (f7 n)) ⟨trivial,trivial⟩;rw[show aU.enc .own (f7 n)=_ from FL n n]at a |-;refine fO 28 [(7,4,[16,17,18,19])] Tryz.func400 rfl ?_ (.inr a)
 repeat'(first|refine gO ?_|(conv=>whnf);first|refine C9 ?_|refine C6 (c) ?_)
 (conv=>whnf)
 refine CC (ι:=Nat) (λk=>[(0,.hold .one [I ((n:Nat))]),(2,.hold .box [.z,.z]),(4,.hold .box [.s .own (List.replicate k [.s .own (List.replicate 16 [I 0])]),.s .own (List.replicate k [B false])]),(5,.hold .one [I ((k:Nat):Int)])]) (λk=>k<=n) (λk=>n - k) (0) ?_ (R0 _) λk g=>?_
 ·exact wB
 by_cases h:k<n
 ·repeat'(first|refine gD ?_|(conv=>whnf);first|refine C9 ?_|refine Mk.mk 16 rfl rfl (by decide) (by decide) rfl ?_|refine Ap.sn (λr d=>by rw[(List.mem_replicate.1 d).2];rfl) rfl (by simp;omega) (by decide) (B4 _ k) ?_)
  ((conv=>whnf);refine CB (k+1) ω ω ?_;(exact wB))
 ·obtain rfl:k=n:=ω
  repeat'(first|refine gD ?_|(conv=>whnf);first|refine C9 ?_)
  rfl
theorem xz(n:Nat)(e:1<=n/\n<=32):ao Tryz.prog 401 false [.val none [I (n:Nat)]] (.tup [some 1,none]) (aG.enc .own (dR n)++[B true]):=by
 have c:=aE ((n:Nat):Int) 1 32;rw[O0 ω]at c;have a:=aM (b:=[B true]) (aG.enc_fr (dR n)) ⟨trivial,trivial⟩;have d:aG.enc .own (dR n)=[.s .own (List.replicate n [I 0,I 0])]:=by simp[aG.enc,dR,bi.enc,List.map_replicate]
 rw[d]at a |-;refine fO 11 [] Tryz.func401 rfl ?_ (.inr a)
 repeat'(first|refine gO ?_|(conv=>whnf);first|refine C9 ?_|refine C6 (c) ?_|refine Mk.mk n rfl rfl ω (yk ω (by decide)) rfl ?_)
 rfl
theorem tP(p f:Nat)(a:1<=p/\p<=32)(b:1<=f/\f<=32):ao Tryz.prog 378 false [.val none [I (p:Nat)],.val none [I (f:Nat)]] (.tup [some 3,none]) (aQ.enc .own ⟨f7 f,dR p⟩++[B true]):=by
 refine fO 30 [] Tryz.func378 rfl ?_ (.inr (aM (aQ.enc_fr _) ⟨trivial,trivial⟩))
 repeat'(first|refine gO ?_|(conv=>whnf);first|refine C9 ?_|refine C6 (vi f b) ?_|refine C6 (xz p a) ?_)
 rfl
theorem vM(p f:Nat)(a:List Int)(b:1<=p/\p<=32)(c:1<=f/\f<=32)(d:a.length<=40/\∀x∈a,0<=x):ao Tryz.prog 350 false [.val none [I (p:Nat)],.val none [I (f:Nat)],.val none (aD .imm a)] (.tup [some 5,none]) (af.enc .own (bF p f a)++[B true]):=by
 have e:=pq b c d;have h:=d.1;have g:=kY (bF p f a) (bp e);rw[e]at g;refine fO 31 [(2,260,[17,18,19,10,0,1,2,5,3,1000,1005,4,1005,6])] Tryz.func350 rfl ?_ (.inr (aM (af.enc_fr _) ⟨trivial,trivial⟩))
 repeat'(first|refine gO ?_|(conv=>whnf);first|refine C9 ?_|refine C6 (tP p f b c) ?_|refine CD (g) ⟨⟨rfl,CN (bF p f a)⟩,trivial⟩ ?_|refine CM (λ_=>rfl) (λ_=>rfl) ω (by decide) ?_|refine CR (λ_=>rfl) (λ_=>rfl) ω (by decide) ?_|refine C9 ?_)
 rfl
def Pw(p f t:Nat)(lim:Int)(a:List Int)(k:Nat):ab:={caps (ux p f t lim a) k with Quar:=⟨0,[]⟩}
theorem AN(p f t:Nat)(lim:Int)(a:List Int)(c:1<=p/\p<=32)(d:1<=f/\f<=32)(e:1<=t/\t<=4)(g:0<=lim/\lim<=1000)(h:a.length<=40/\∀x∈a,0<=x):ao Tryz.prog 299 false [.val none [I (p:Nat)],.val none [I (f:Nat)],.val none [I (t:Nat)],.val none [I lim],.val none (aD .imm a)] (.tup [some 24,none]) (ab.enc .own (ux p f t lim a)++[B true]):=by
 have b:=aE lim 0 1000;rw[O0 g]at b;refine fO 66 [(9,4,[54,55,56,57])] Tryz.func299 rfl ?_ (.inr (aM (ab.enc_fr _) ⟨trivial,trivial⟩))
 repeat'(first|refine gO ?_|(conv=>whnf);first|refine C9 ?_|refine C6 (vM p f a c d h) ?_|refine C6 (Bg t e) ?_|refine C6 (b) ?_|refine C6 (rr) ?_)
 (conv=>whnf)
 refine CC (ι:=Nat) (λk=>[(2,.hold .one [I ((t:Nat))]),(10,.hold .box [.z,.z,.z,I 0,.z,.z,.z,.z,.z,.z,.z,.z,I 0,.z,I 0,I 0,I 0,I 0,B false,I 0,I 0,.z,I 0,I 0]),(16,.hold .box (ab.enc .own (Pw p f t lim a k))),(17,.hold .one [I ((k:Nat):Int)])]) (λk=>k<=t) (λk=>t - k) (0) ?_ (R0 _) λk i=>?_
 ·exact wB
 by_cases j:k<t
 ·repeat'(first|refine gD ?_|(conv=>whnf);first|refine C9 ?_|refine C6 (yd) ?_|refine Ap.sn JO rfl (by rw[W0];show(List.replicate _ eN).length+1<=_;rw[List.length_replicate];omega) (by decide) (GU k) ?_)
  ((conv=>whnf);refine CB (k+1) ω ω ?_;(exact wB))
 ·obtain rfl:k=t:=ω
  repeat'(first|refine gD ?_|(conv=>whnf);first|refine C9 ?_|refine C6 (rr) ?_)
  rfl
theorem Dp:ao Tryz.prog 300 false [] .agg (a7.enc .own ⟨1,[]⟩):=by
 refine fO 2 [] Tryz.func300 rfl ?_ (.inr (a7.enc_fr _))
 repeat'((conv=>whnf);first|with_reducible (first|refine Lm ?_|refine Wm ω ?_|refine Bn ?_|refine jl.wk rfl ?_)|refine Bt ?_|refine Bu ?_|refine C9 ?_)
 exact⟨rfl,rfl,trivial⟩
theorem yh(c:cB)(h:FQ c):ao Tryz.prog 239 false [.val (some 5) (cB.enc .imm c)] (.tup [some 26,none]) (bI.enc .own (world0 c)++[B true]):=by
 have a:=AN c.Pages c.Frames c.Threads c.Limit c.Refuse h.p h.f h.t h.l h.r;refine fO 26 [(4,2,[23,24])] Tryz.func239 rfl ?_ (.inr (aM (bI.enc_fr _) ⟨trivial,trivial⟩))
 repeat'(first|refine gO ?_|(conv=>whnf);first|refine C9 ?_|refine C6 (a) ?_|refine C6 (Dp) ?_)
 rfl
def oq(o:dw)(l:List ec):List C:=[.s o (l.map (ec.enc o))]
theorem ec.enc_fr(x:ec):gr (ec.enc .own x):=⟨trivial,trivial,trivial,trivial,trivial,trivial⟩
theorem HU(l:List ec):gr (oq .own l):=⟨⟨.inl λh=>(by cases h),aZ _ _ λy _=>ec.enc_fr y⟩,trivial⟩
theorem HS(l:List ec):dA (oq .own l)=oq .imm l:=by simp[dA,oq,ec.enc,<-ca,W4]
theorem DX(zs:List Int)(c:hC)(ids:Int)(b:iJ zs)(p:c.i<=zs.length)(r:1<=ids/\ids<=1000):aP Tryz.prog 243 false [.ptr (gL zs c),.val none [I ids]] [.ptr (gL zs (qV zs c ids).2),.val none [I ids]] .agg (ec.enc .own (qV zs c ids).1):=by
 have w:=bL p 3;have y:=bL w ids;have d:(jW zs c ids).2.i<=zs.length:=bL y 20;have B:=bJ zs c 3 b p (by decide);have C:=bJ zs (yZ zs c).2 ids b w r.1;have j:=bJ zs (Eu zs c ids).2 20 b y (by decide);have H:=bG zs c (n:=3) (by decide);have J:=bG zs (yZ zs c).2 (n:=ids) r.1;have D:=bG zs (Eu zs c ids).2 (n:=20) (by decide);have e:=io zs (jW zs c ids).2 szs b d (by decide);have E:=io zs (jW zs c ids).2 [5,6] b d (by decide);have F:=io zs (jW zs c ids).2 [1,30,60,120] b d (by decide);have l:=io zs (jW zs c ids).2 [1,2,3,10,30] b d (by decide);have g:=bJ zs (jW zs c ids).2 4 b d (by decide);have h:=bJ zs (bt zs (jW zs c ids).2 4).2 999 b (bL d _) (by decide);have G:=bJ zs (jW zs c ids).2 10 b d (by decide);have K:=bG zs (bt zs (jW zs c ids).2 4).2 (n:=999) (by decide);have L:=bG zs (jW zs c ids).2 (n:=10) (by decide);change aP _ _ _ _ [.ptr (gL zs (yZ zs c).2),_] _ [I (yZ zs c).1]at B;change aP _ _ _ _ [.ptr (gL zs (Eu zs c ids).2),_] _ [I (Eu zs c ids).1]at C;change aP _ _ _ _ [.ptr (gL zs (jW zs c ids).2),_] _ [I (jW zs c ids).1]at j;change 0<=(yZ zs c).1/\(yZ zs c).1<3 at H;change 0<=(Eu zs c ids).1/\(Eu zs c ids).1<ids at J;change 0<=(jW zs c ids).1/\(jW zs c ids).1<20 at D;have o:=ec.enc_fr (qV zs c ids).1;unfold qV at o |-;generalize jW zs c ids=k at *;generalize Eu zs c ids=n at *;generalize yZ zs c=t at *;obtain⟨a,M⟩:=k;dsimp only at d e E F l g h G K L D j o |-;refine fM 77 [(92,[2,0]),(310,[2,1])] [] [(0,0),(0,0)] Tryz.func243 rfl (λu q=>?_) (.inr o)
 repeat'(first|refine gO ?_|(conv=>whnf);first|refine CG (B) (.inl rfl) ?_|refine CG (C) (.inl rfl) ?_|refine CG (j) (.inl rfl) ?_)
 obtain rfl|rfl|rfl|rfl|rfl|rfl|rfl|rfl|rfl|rfl|rfl|rfl|rfl|rfl|rfl|rfl|rfl|rfl|rfl|rfl:=(show a=0\/a=1\/a=2\/a=3\/a=4\/a=5\/a=6\/a=7\/a=8\/a=9\/a=10\/a=11\/a=12\/a=13\/a=14\/a=15\/a=16\/a=17\/a=18\/a=19 by omega)
 ·rw[C8 (show((0:Int))<=6 by decide)]
  repeat'(first|refine gO ?_|(conv=>whnf);first|refine CG (e) (.inl rfl) ?_)
  refine CE rfl rfl ?_;exact wC
 ·rw[C8 (show((1:Int))<=6 by decide)]
  repeat'(first|refine gO ?_|(conv=>whnf);first|refine CG (e) (.inl rfl) ?_)
  refine CE rfl rfl ?_;exact wC
 ·rw[C8 (show((2:Int))<=6 by decide)]
  repeat'(first|refine gO ?_|(conv=>whnf);first|refine CG (e) (.inl rfl) ?_)
  refine CE rfl rfl ?_;exact wC
 ·rw[C8 (show((3:Int))<=6 by decide)]
  repeat'(first|refine gO ?_|(conv=>whnf);first|refine CG (e) (.inl rfl) ?_)
  refine CE rfl rfl ?_;exact wC
 ·rw[C8 (show((4:Int))<=6 by decide)]
  repeat'(first|refine gO ?_|(conv=>whnf);first|refine CG (e) (.inl rfl) ?_)
  refine CE rfl rfl ?_;exact wC
 ·rw[C8 (show((5:Int))<=6 by decide)]
  repeat'(first|refine gO ?_|(conv=>whnf);first|refine CG (e) (.inl rfl) ?_)
  refine CE rfl rfl ?_;exact wC
 ·rw[C8 (show((6:Int))<=6 by decide)]
  repeat'(first|refine gO ?_|(conv=>whnf);first|refine CG (e) (.inl rfl) ?_)
  refine CE rfl rfl ?_;exact wC
 ·rw[C7 (show ¬((7:Int)<=6) by decide),C8 (show((7:Int))<=9 by decide)]
  repeat'(first|refine gO ?_|fail)
  refine CE rfl rfl ?_;exact wC
 ·rw[C7 (show ¬((8:Int)<=6) by decide),C8 (show((8:Int))<=9 by decide)]
  repeat'(first|refine gO ?_|fail)
  refine CE rfl rfl ?_;exact wC
 ·rw[C7 (show ¬((9:Int)<=6) by decide),C8 (show((9:Int))<=9 by decide)]
  repeat'(first|refine gO ?_|fail)
  refine CE rfl rfl ?_;exact wC
 ·rw[C7 (show ¬((10:Int)<=6) by decide),C7 (show ¬((10:Int)<=9) by decide),C8 (show((10:Int))<=12 by decide)]
  repeat'(first|refine gO ?_|(conv=>whnf);first|refine CG (g) (.inl rfl) ?_|refine CG (h) (.inl rfl) ?_)
  refine CE rfl rfl ?_;exact wC
 ·rw[C7 (show ¬((11:Int)<=6) by decide),C7 (show ¬((11:Int)<=9) by decide),C8 (show((11:Int))<=12 by decide)]
  repeat'(first|refine gO ?_|(conv=>whnf);first|refine CG (g) (.inl rfl) ?_|refine CG (h) (.inl rfl) ?_)
  refine CE rfl rfl ?_;exact wC
 ·rw[C7 (show ¬((12:Int)<=6) by decide),C7 (show ¬((12:Int)<=9) by decide),C8 (show((12:Int))<=12 by decide)]
  repeat'(first|refine gO ?_|(conv=>whnf);first|refine CG (g) (.inl rfl) ?_|refine CG (h) (.inl rfl) ?_)
  refine CE rfl rfl ?_;exact wC
 ·rw[C7 (show ¬((13:Int)<=6) by decide),C7 (show ¬((13:Int)<=9) by decide),C7 (show ¬((13:Int)<=12) by decide),C8 (show((13:Int))=13 by decide)]
  repeat'(first|refine gO ?_|(conv=>whnf);first|refine CG (G) (.inl rfl) ?_)
  refine CE rfl rfl ?_;exact wC
 ·rw[C7 (show ¬((14:Int)<=6) by decide),C7 (show ¬((14:Int)<=9) by decide),C7 (show ¬((14:Int)<=12) by decide),C7 (show ¬((14:Int)=13) by decide),C8 (show((14:Int))=14 by decide)]
  repeat'(first|refine gO ?_|(conv=>whnf);first|refine CG (E) (.inl rfl) ?_)
  refine CE rfl rfl ?_;exact wC
 ·rw[C7 (show ¬((15:Int)<=6) by decide),C7 (show ¬((15:Int)<=9) by decide),C7 (show ¬((15:Int)<=12) by decide),C7 (show ¬((15:Int)=13) by decide),C7 (show ¬((15:Int)=14) by decide),C8 (show((15:Int))=15 by decide)]
  repeat'(first|refine gO ?_|fail)
  refine CE rfl rfl ?_;exact wC
 ·rw[C7 (show ¬((16:Int)<=6) by decide),C7 (show ¬((16:Int)<=9) by decide),C7 (show ¬((16:Int)<=12) by decide),C7 (show ¬((16:Int)=13) by decide),C7 (show ¬((16:Int)=14) by decide),C7 (show ¬((16:Int)=15) by decide),C8 (show((16:Int))=16 by decide)]
  repeat'(first|refine gO ?_|(conv=>whnf);first|refine CG (F) (.inl rfl) ?_)
  refine CE rfl rfl ?_;exact wC
 ·rw[C7 (show ¬((17:Int)<=6) by decide),C7 (show ¬((17:Int)<=9) by decide),C7 (show ¬((17:Int)<=12) by decide),C7 (show ¬((17:Int)=13) by decide),C7 (show ¬((17:Int)=14) by decide),C7 (show ¬((17:Int)=15) by decide),C7 (show ¬((17:Int)=16) by decide),C8 (show((17:Int))=17 by decide)]
  repeat'(first|refine gO ?_|fail)
  refine CE rfl rfl ?_;exact wC
 ·rw[C7 (show ¬((18:Int)<=6) by decide),C7 (show ¬((18:Int)<=9) by decide),C7 (show ¬((18:Int)<=12) by decide),C7 (show ¬((18:Int)=13) by decide),C7 (show ¬((18:Int)=14) by decide),C7 (show ¬((18:Int)=15) by decide),C7 (show ¬((18:Int)=16) by decide),C7 (show ¬((18:Int)=17) by decide)]
  repeat'(first|refine gO ?_|(conv=>whnf);first|refine CG (l) (.inl rfl) ?_)
  refine CE rfl rfl ?_;exact wC
 ·rw[C7 (show ¬((19:Int)<=6) by decide),C7 (show ¬((19:Int)<=9) by decide),C7 (show ¬((19:Int)<=12) by decide),C7 (show ¬((19:Int)=13) by decide),C7 (show ¬((19:Int)=14) by decide),C7 (show ¬((19:Int)=15) by decide),C7 (show ¬((19:Int)=16) by decide),C7 (show ¬((19:Int)=17) by decide)]
  repeat'(first|refine gO ?_|(conv=>whnf);first|refine CG (l) (.inl rfl) ?_)
  refine CE rfl rfl ?_;exact wC
theorem AW(zs:List Int)(c:hC)(b:iJ zs)(d:c.i<=zs.length):aP Tryz.prog 151 false [.ptr (gL zs c),.val none [I 40]] [.ptr (gL zs (mQ zs c).2),.val none [I 40]] .one (oq .own (mQ zs c).1):=by
 have e:=bJ zs c 41 b d (by decide);have g:=bG zs c (n:=41) (by decide);obtain⟨n,h⟩:=O2 g.1;have a:(bt zs c 41).1.toNat=n:=by rw[h];rfl
 unfold mQ;rw[a];rw[h]at e g;refine fM 27 [(92,[2,0]),(243,[2,0])] [] [(0,0),(0,0)] Tryz.func151 rfl (λu q=>?_) (.inr (HU _))
 repeat'(first|refine gO ?_|(conv=>whnf);first|refine CG (e) (.inl rfl) ?_)
 (conv=>whnf)
 refine CC (ι:=Nat) (λi=>[(0,.hold .box (gL zs (ky zs c i).2)),(5,.hold .one (oq .own (ky zs c i).1)),(6,.hold .one [I ((n:Nat):Int)]),(7,.hold .one [I ((i:Nat):Int)])]) (λi=>i<=n) (λi=>n - i) (0) ?_ (R0 _) λi p=>?_
 ·exact wC
 obtain⟨t,-,j⟩:=qA (zs:=zs) (c:=c) d (n:=i) ω;by_cases w:i<n
 ·have k:=DX zs (ky zs c i).2 (1+(i:Int) / 2) b j ω
  have l:((i:Nat):Int).tdiv 2=(i:Int) / 2:=Int.tdiv_eq_ediv_of_nonneg ω
  repeat'(first|refine gD ?_|(conv=>whnf);first|with_reducible (first|refine CO l ?_|refine CK ω ?_)|refine CG (k) (.inl rfl) ?_|refine CQ (aI λ_=>rfl) (λr o=>by rw[Z0.1 o];rfl) (by simp[aV,dC,ec.enc]) (by simp;omega) (by simp only[W0];exact yk (by simp;omega) (by decide)) rfl ?_)
  ((conv=>whnf);refine CB (i+1) ω ω ?_)
  repeat'(first|exact trivial|rfl| exact dx _ |exact CH rfl (CH (T0 (C.s dw.own) (by simp[ky];rfl)) trivial)|refine CH ?_ ?_|(exact yP (by first|omega|(simp only;omega)|(simp;omega))))
 ·obtain rfl:i=n:=ω
  repeat'(first|refine gD ?_|fail)
  refine CE rfl rfl ?_;exact wC
def rfs(h:ab):List Int:=h.Kernel.Refuse
theorem zE(k:af)(p:Int):(fJ k p).1.Refuse=k.Refuse:=by unfold fJ;split<;>rfl
theorem ql(k:af)(p:Int):∀n,(cy k p n).1.Refuse=k.Refuse
 | 0=>rfl
 | n+1=>by
  unfold cy;split
  ·exact(zE _ _).trans (ql k p n)
  ·exact ql k p n
theorem Kv(h:ab)(i:Nat):rfs (nJ h i).1=rfs h:=by unfold nJ;split<;>rfl
theorem zm(h:ab)(t c:Nat):rfs (eL h t c).1=rfs h:=by
 unfold eL;split
 ·rfl
 split
 ·rfl
 split
 ·rfl
 split
 ·exact zE _ _
 ·exact(Kv _ _).trans (zE _ _)
theorem Jj(h:ab)(t n:Int):rfs (fB h t n).1=rfs h:=by
 unfold fB;split
 ·rfl
 split
 ·rfl
 split
 ·rfl
 split
 ·rfl
 split
 ·split
  ·exact zm _ _ _
  ·exact zm _ _ _
 ·unfold nI
  split
  ·rfl
  split
  ·exact ql _ _ _
  ·exact((iO _ _ _).2).trans (ql _ _ _)
theorem Ep(h:ab)(t i:Nat):rfs (freeT h t i).1=rfs h:=by
 unfold freeT;split
 ·exact(iO _ _ _).2
 split
 ·rfl
 split
 ·exact(ek t _ _).2.2.2.2.2.2.2
 split<;>rfl
theorem yW(t:Nat)(h:ab):∀k,rfs (flushN t h k).1=rfs h
 | 0=>rfl
 | k+1=>((hB _ (spilt (flushN t h k).1 t k)).2.2.2.2.2.2.2).trans (yW t h k)
theorem EA{h:ab}(a:bn h [])(b:JI h):∀n,rfs (mE h n).1=rfs h
 | 0=>rfl
 | n+1=>by
  obtain⟨c,d⟩:=wy a b n;unfold mE;split
  ·rename_i e
   unfold sv at e;rw[I0]at e;exact((xd c e.1).2.2.1).trans (EA a b n)
  ·exact EA a b n
theorem KX{w:bI}{m:Nat}(h:r6 w m)(a:ec):rfs (ns w a).1.Heap=rfs w.Heap:=by
 unfold ns;split
 ·exact Jj _ _ _
 split
 ·split
  ·rfl
  unfold nU;split
  ·unfold ru
   split
   ·rfl
   split
   ·exact Ep _ _ _
   ·rfl
  split
  ·unfold nA
   split
   ·rfl
   split
   ·rfl
   split<;>rfl
  ·unfold qN
   split
   ·exact((iO _ _ _).2).trans (sM _ _ _).2.2
   ·rfl
 split
 ·unfold gl
  split
  ·split<;>rfl
  split
  ·rfl
  split
  ·exact(ek _ _ _).2.2.2.2.2.2.2
  ·exact yW _ _ _
 split
 ·unfold oK
  split
  ·exact(hB _ _).2.2.2.2.2.2.2
  ·rfl
 split
 ·unfold ot
  split
  ·rfl
  ·show rfs (started w.Heap).1=_
   unfold rfs;rw[(tI h.inv).2.1]
 split
 ·exact EA h.inv h.ji _
 ·rfl
theorem F7{c:cB}(h:FQ c)(acts:List ec):∀n,rfs (Aq c acts n).1.Heap=c.Refuse
 | 0=>rfl
 | n+1=>(KX (wn h acts n) _).trans (F7 h acts n)
def pX(w:bI):List C:=b8 w.Heap++a7.enc .imm w.Ref
theorem MW(w:bI):dA (pX w)=bI.enc .imm w:=by
 unfold pX;rw[eA,bA,<-CZ,qI,CZ]
 rfl
theorem Bp(w:bI)(id:Int)(g:w.Heap.Objs.length<=1048576):aP Tryz.prog 302 false [.ptr (pX w),.val none [I id]] [.ptr (pX w),.val none [I id]] .one [I (qp w.Heap id)]:=by
 refine fM 28 [] [] [(0,0),(0,0)] Tryz.func302 rfl (λu q=>?_)
 repeat'(first|refine gO ?_|(conv=>whnf);first|refine C9 ?_)
 (conv=>whnf)
 refine CC (ι:=Nat) (λi=>[(0,.hold .box (pX w)),(1,.hold .one [I (id)]),(5,.hold .one [I ((i:Nat):Int)])]) (λi=>i<=w.Heap.Objs.length/\∀(j:Nat)(z:bm),j<i->w.Heap.Objs[j]? = some z->Ki id z=false) (λi=>w.Heap.Objs.length - i) (0) ?_ (⟨R0 _,λj z h=>ω⟩) λi c=>?_
 ·exact wC
 obtain⟨c,b⟩:=c;by_cases d:i<w.Heap.Objs.length
 ·have a:=ah d
  by_cases e:(nth w.Heap.Objs i).Id=id
  ·repeat'(first|refine gA ?_|(conv=>whnf);first|with_reducible refine CA (aa a) ?_|refine C9 ?_|refine CF rfl (aa a) rfl ?_)
   refine CE rfl (T0 (λz=>[I z]) (dN a (O0 e) b).symm) ?_;exact wC
  ·repeat'(first|refine gA ?_|(conv=>whnf);first|with_reducible refine CA (aa a) ?_|refine C9 ?_|refine CF rfl (aa a) rfl ?_)
   ((conv=>whnf);refine CB (i+1) ⟨ω,di a (Q0 e) b⟩ ω ?_;(exact wC))
 ·repeat'(first|refine gD ?_|(conv=>whnf);first|refine C9 ?_)
  refine CE rfl (T0 (λz=>[I z]) (fT ω b).symm) ?_;exact wC
theorem cI(y:ab):(b8 y).length=24:=rfl
theorem yf(w:bI)(m n:Nat)(h:r6 w m)(B:n<=50):aP Tryz.prog 308 false [.ptr (pX w),.val none [I (n:Nat)]] [.ptr (pX ⟨(mE w.Heap n).1,w.Ref⟩),.val none [I (n:Nat)]] .one [I ((mE w.Heap n).2:Nat)]:=by
 refine fM 35 [(368,[2])] [] [(0,0),(0,0)] Tryz.func308 rfl (λu q=>?_)
 repeat'(first|refine gO ?_|(conv=>whnf);first|refine C9 ?_)
 (conv=>whnf)
 refine CC (ι:=Nat) (λi=>[(0,.hold .box (pX ⟨(mE w.Heap i).1,w.Ref⟩)),(1,.hold .one [I ((n:Nat):Int)]),(5,.hold .one [I (((mE w.Heap i).2:Nat):Int)]),(6,.hold .one [I ((i:Nat):Int)])]) (λi=>i<=n/\(mE w.Heap i).2=i) (λi=>n - i) (0) ?_ (⟨R0 _,rfl⟩) λi l=>?_
 ·exact wC
 obtain⟨l,C⟩:=l;obtain⟨o,D⟩:=wy h.inv h.ji i;have b:mE w.Heap (i+1)=if sv (mE w.Heap i).1=true then(mStep (mE w.Heap i).1,(mE w.Heap i).2+1) else mE w.Heap i:=rfl
 have p:=(aC.1 o.ker).2.2.2.2;by_cases E:i<n
 ·cases c:(mE w.Heap i).1.Meshing with
  | true=>
   have y:=(AO _ o c).frame (r:=a7.enc .imm w.Ref) ((cI _).trans (cI _).symm);by_cases g:(mE w.Heap i).1.Kernel.Calls<=99000
   ·have d:sv (mE w.Heap i).1=true:=by unfold sv;rw[c,O0 g];rfl
    rw[C8 d]at b;generalize mE w.Heap i=s at *
    repeat'(first|refine gD ?_|(conv=>whnf);first|refine C9 ?_|refine Bf.t (O0 g) ?_|refine Bf.t c ?_|refine CG (y) (.inl rfl) ?_)
    ((conv=>whnf);refine CB (i+1) ⟨ω,by rw[b];simp only;omega⟩ ω ?_)
    rw[b];exact wC
   ·have d:sv (mE w.Heap i).1=false:=by unfold sv;rw[c,Q0 g];rfl
    have a:∀k,mE w.Heap (i+k)=mE w.Heap i:=λk=>by
     induction k with
     | zero=>rfl
     | succ k j=>show(if sv (mE w.Heap (i+k)).1=true then _ else mE w.Heap (i+k))=_;rw[j,d,C7 (by simp)]
    have e:=a (n - i);rw[show i+(n - i)=n by omega]at e;rw[e];generalize mE w.Heap i=s at *
    repeat'(first|refine gD ?_|(conv=>whnf);first|refine C9 ?_|refine Bf.f (Q0 g) ?_|refine Bf.t c ?_)
    refine CE rfl rfl ?_;exact wC
  | false=>
   have d:sv (mE w.Heap i).1=false:=by unfold sv;rw[c];rfl
   have a:∀k,mE w.Heap (i+k)=mE w.Heap i:=λk=>by
    induction k with
    | zero=>rfl
    | succ k j=>show(if sv (mE w.Heap (i+k)).1=true then _ else mE w.Heap (i+k))=_;rw[j,d,C7 (by simp)]
   have e:=a (n - i);rw[show i+(n - i)=n by omega]at e;rw[e];generalize mE w.Heap i=s at *
   repeat'(first|refine gD ?_|(conv=>whnf);first|refine C9 ?_|refine Bf.f c ?_)
   refine CE rfl rfl ?_;exact wC
 ·obtain rfl:i=n:=ω
  repeat'(first|refine gD ?_|(conv=>whnf);first|refine C9 ?_)
  refine CE rfl rfl ?_;exact wC
theorem FA{k:af}(a:aB k=true):(aB k&&decide (k.Calls<100000))=decide (k.Calls≠100000):=by
 have:=(aC.1 a).2.2.2.2;rw[a,Bool.true_and,Z3,C0,C0];omega
theorem vT(w:bI)(a:ec)(m:Nat)(h:r6 w m)(B:a.Kind=5\/a.Kind=6\/a.Kind=7):aP Tryz.prog 304 false [.ptr (pX w),.val (some 5) (ec.enc .imm a)] [.ptr (pX ⟨(gl w.Heap a).1,w.Ref⟩),.val (some 5) (ec.enc .imm a)] .one [I (gl w.Heap a).2]:=by
 have d:=h.inv;have o:=d.nc;have p:w.Heap.Caches.length<=4:=by have:=(dy.1 d.mail).1.2.1;omega
 have C:=jt.of d.mail;have i:=kC w.Heap.Kernel (bp d.ker);rw[FA d.ker]at i;have j:=aE a.Thread 0 (w.Heap.Caches.length - 1:Int);unfold gl;refine fM 59 [(361,[2,0]),(362,[2,0])] [(3,267,[15,16,17,18,19,20,21,14,22,23,6,0,1,2,3,4,5,6,7,8,9,10,11,1009,12]),(8,15,[30,31,32,33,34,35,36,37,38,39,40,41,42,43,44])] [(0,0),(0,0)] Tryz.func304 rfl (λu q=>?_);by_cases l:a.Kind=5
 ·rw[C8 l]
  by_cases e:0<=a.Thread/\a.Thread<=w.Heap.Caches.length - 1
  ·have y:nq w.Heap a:=e
   obtain⟨t,g⟩:=O2 e.1;have b:=Do w.Heap.Mail t d.mail ω;rw[<-g]at b;rw[g]at e |-;simp only[I2];rw[g]at b;by_cases c:0<(nth w.Heap.Mail.Buffers t).length
   ·rw[C8 (show nq w.Heap a/\0<(nth w.Heap.Mail.Buffers t).length from⟨y,c⟩)]
    rw[C8 c,O0 c]at b;rw[<-g]at b
    repeat'(first|refine gA ?_|(conv=>whnf);first|with_reducible refine Bf.E (λk=>?_) (λk=>?_)|refine C9 ?_|refine CD (b) ⟨⟨rfl,aH.enc_fz w.Heap.Mail⟩,⟨rfl,rfl⟩,trivial⟩ ?_|refine C9 ?_)
    refine CE rfl rfl ?_;exact wC
   ·rw[C7 (show ¬(nq w.Heap a/\0<(nth w.Heap.Mail.Buffers t).length) from λx=>c x.2)]
    rw[C7 c,Q0 c]at b;rw[<-g]at b
    repeat'(first|refine gA ?_|(conv=>whnf);first|with_reducible refine Bf.E (λk=>?_) (λk=>?_)|refine C9 ?_|refine CD (b) ⟨⟨rfl,aH.enc_fz w.Heap.Mail⟩,⟨rfl,rfl⟩,trivial⟩ ?_|refine C9 ?_)
    refine CE rfl rfl ?_;exact wC
  ·rw[C7 (show ¬(nq w.Heap a/\0<(nth w.Heap.Mail.Buffers a.Thread.toNat).length) from λx=>e x.1)]
   have b:=F5 w.Heap.Mail a.Thread d.mail ω
   repeat'(first|refine gA ?_|(conv=>whnf);first|with_reducible refine Bf.E (λk=>?_) (λk=>?_)|refine C9 ?_|refine CD (b) ⟨⟨rfl,aH.enc_fz w.Heap.Mail⟩,⟨rfl,rfl⟩,trivial⟩ ?_|refine C9 ?_)
   refine CE rfl rfl ?_;exact wC
 rw[C7 l];by_cases e:w.Heap.Kernel.Calls≠100000;rotate_left
 ·rw[C8 (show ¬(w.Heap.Kernel.Calls≠100000/\nq w.Heap a) from λx=>e x.1)]
  rw[Q0 e]at i
  repeat'(first|refine gA ?_|(conv=>whnf);first|refine C9 ?_|refine CD (i) ⟨⟨rfl,CN _⟩,trivial⟩ ?_|refine C9 ?_)
  refine CE rfl rfl ?_;exact wC
 rw[O0 e]at i;by_cases c:0<=a.Thread/\a.Thread<=w.Heap.Caches.length - 1;rotate_left
 ·rw[C8 (show ¬(w.Heap.Kernel.Calls≠100000/\nq w.Heap a) from λx=>c x.2)]
  rw[Q0 c]at j
  repeat'(first|refine gA ?_|(conv=>whnf);first|refine C9 ?_|refine CD (i) ⟨⟨rfl,CN _⟩,trivial⟩ ?_|refine C6 (j) ?_|refine C9 ?_)
  refine CE rfl rfl ?_;exact wC
 rw[C7 (show ¬¬(w.Heap.Kernel.Calls≠100000/\nq w.Heap a) from Q3 ⟨e,c⟩)];rw[O0 c]at j;obtain⟨t,g⟩:=O2 c.1;by_cases n:a.Kind=6
 ·rw[C8 n]
  have b:=(tN w.Heap t d ω).frame (r:=a7.enc .imm w.Ref) ((cI _).trans (cI _).symm);rw[show a.Thread.toNat=t by omega];rw[<-g]at b
  repeat'(first|refine gA ?_|(conv=>whnf);first|refine C9 ?_|refine CD (i) ⟨⟨rfl,CN _⟩,trivial⟩ ?_|refine C6 (j) ?_|refine CG (b) (.inl rfl) ?_|refine C9 ?_)
  refine CE rfl rfl ?_;exact wC
 ·rw[C7 n]
  have b:=(x4 w.Heap t d ω).frame (r:=a7.enc .imm w.Ref) ((cI _).trans (cI _).symm);rw[show a.Thread.toNat=t by omega];rw[<-g]at b
  repeat'(first|refine gA ?_|(conv=>whnf);first|refine C9 ?_|refine CD (i) ⟨⟨rfl,CN _⟩,trivial⟩ ?_|refine C6 (j) ?_|refine CG (b) (.inl rfl) ?_|refine C9 ?_)
  refine CE rfl rfl ?_;exact wC
theorem wK(w:bI)(a:ec)(i m:Nat)(h:r6 w m)(X:m<=900)(G:KB a)(t:i<w.Heap.Objs.length):aP Tryz.prog 303 false [.ptr (pX w),.val (some 5) (ec.enc .imm a),.val none [I (i:Nat)]] [.ptr (pX (nU w a i).1),.val (some 5) (ec.enc .imm a),.val none [I (i:Nat)]] .one [I (nU w a i).2]:=by
 have e:=h.inv;have b:=ah t;have M:=nQ e (am t);have N:=me e (am t) (k:=0);have O:1<=(nth w.Heap.Objs i).Size/\(nth w.Heap.Objs i).Size<=1000:=by
  rcases e.oow _ (am t) with⟨s,P,Y,Z⟩|⟨l,H,d,c⟩
  ·have hc:=aF (e.L.sok s P)
   have:=pB (n:=(nth w.Heap.Objs i).Size) ω;omega
  ·have h8:=cz (e.L.lok l H)
   omega
 have g:=kC w.Heap.Kernel (bp e.ker);rw[FA e.ker]at g;have Q:=G.k;have R:=G.p;have S:=G.v;unfold nU;refine fM 126 [(354,[2,0,0]),(356,[2,0,0]),(358,[2,0,0])] [(6,7,[29,30,31,32,33,34,35]),(8,269,[40,41,42,43,44,45,46,47,39,48,49,50,51,0,1,2,3,4,5,6,7,8,9,10,11,12,13,1010]),(13,10,[62,63,64,65,66,67,68,69,70,71]),(15,273,[76,77,78,79,80,81,82,83,84,85,86,87,75,88,89,90,91,0,1,2,3,4,5,6,7,8,9,10,11,12,13,14,15,16,17,1014]),(17,15,[93,94,95,96,97,98,99,100,101,102,103,104,105,106,107]),(19,271,[112,113,114,115,116,117,118,119,120,121,111,122,123,124,125,0,1,2,3,4,5,6,7,8,9,10,11,12,13,14,15,1012])] [(0,0),(0,0),(0,0)] Tryz.func303 rfl (λu q=>?_);by_cases J:a.Kind=2
 ·rw[C8 J]
  unfold ru;by_cases d:w.Heap.Kernel.Calls=100000
  ·rw[C8 d]
   rw[Q0 (Q3 d)]at g
   repeat'(first|refine gA ?_|(conv=>whnf);first|with_reducible refine CA (aa b) ?_|refine C9 ?_|refine CD (g) ⟨⟨rfl,CN _⟩,trivial⟩ ?_|refine CF rfl (aa b) rfl ?_|refine C9 ?_)
   refine CE rfl rfl ?_;exact wC
  rw[C7 d];rw[O0 d]at g;have C:=(Mp w.Heap i a.Thread e t).frame (r:=a7.enc .imm w.Ref) ((cI _).trans (cI _).symm);by_cases c:0<=a.Thread/\a.Thread<=w.Heap.Caches.length - 1
  ·rw[C8 (show nq w.Heap a from c)]
   rw[C8 c,C8 c]at C;have T:=zR w.Ref (nth w.Heap.Objs i).Id m h.ref ω;generalize freeT w.Heap a.Thread.toNat i=f at C |-;by_cases o:f.2=0
   ·rw[C8 o]
    repeat'(first|refine gA ?_|(conv=>whnf);first|with_reducible (first|refine CA (aa b) ?_|refine Bf.E (λj=>?_) (λj=>?_))|refine C9 ?_|refine CD (g) ⟨⟨rfl,CN _⟩,trivial⟩ ?_|refine CF rfl (aa b) rfl ?_|refine CG (C) (.inl rfl) ?_|refine Cl.sh T rfl ?_|refine C9 ?_)
    refine CE rfl rfl ?_;exact wC
   ·rw[C7 o]
    repeat'(first|refine gA ?_|(conv=>whnf);first|with_reducible (first|refine CA (aa b) ?_|refine Bf.E (λj=>?_) (λj=>?_))|refine C9 ?_|refine CD (g) ⟨⟨rfl,CN _⟩,trivial⟩ ?_|refine CF rfl (aa b) rfl ?_|refine CG (C) (.inl rfl) ?_|refine C9 ?_)
    refine CE rfl rfl ?_;exact wC
  ·rw[C7 (show ¬nq w.Heap a from c)]
   rw[C7 c,C7 c]at C
   repeat'(first|refine gA ?_|(conv=>whnf);first|with_reducible (first|refine CA (aa b) ?_|refine Bf.E (λj=>?_) (λj=>?_))|refine C9 ?_|refine CD (g) ⟨⟨rfl,CN _⟩,trivial⟩ ?_|refine CF rfl (aa b) rfl ?_|refine CG (C) (.inl rfl) ?_|refine C9 ?_)
   refine CE rfl rfl ?_;exact wC
 rw[C7 J];by_cases K:a.Kind=3
 ·rw[C8 K]
  unfold nA;have D:=aE a.At 0 ((nth w.Heap.Objs i).Size - 1);by_cases d:0<=a.At/\a.At<=(nth w.Heap.Objs i).Size - 1;rotate_left
  ·rw[C8 d]
   rw[Q0 d]at D
   repeat'(first|refine gA ?_|(conv=>whnf);first|with_reducible (first|refine CA (aa b) ?_|refine Bf.E (λj=>?_) (λj=>?_))|refine C9 ?_|refine CF rfl (aa b) rfl ?_|refine C6 (D) ?_|refine C9 ?_)
   refine CE rfl rfl ?_;exact wC
  rw[C7 (Q3 d)];rw[O0 d]at D;have F:=(x3 w.Heap i a.At a.Value e t d).frame (r:=a7.enc .imm w.Ref) (by split<;>rfl);have U:=me e (am t) d;by_cases c:(ar w.Heap.Kernel.Machine.Table (((nth w.Heap.Objs i).Addr+a.At) / 16)).Mode=1
  ·rw[C8 c]
   rw[C8 (.inl c),C8 c]at F
   repeat'(first|refine gA ?_|(conv=>whnf);first|with_reducible (first|refine CA (aa b) ?_|refine Bf.E (λj=>?_) (λj=>?_))|refine C9 ?_|refine CF rfl (aa b) rfl ?_|refine C6 (D) ?_|refine CG (F) (.inl rfl) ?_|refine C9 ?_)
   refine CE rfl rfl ?_;exact wC
  rw[C7 c];by_cases o:0<=a.Value/\a.Value<=999;rotate_left
  ·rw[C8 o]
   rw[C8 (.inr o),C7 c,C8 o]at F
   repeat'(first|refine gA ?_|(conv=>whnf);first|with_reducible (first|refine CA (aa b) ?_|refine Bf.E (λj=>?_) (λj=>?_))|refine C9 ?_|refine CF rfl (aa b) rfl ?_|refine C6 (D) ?_|refine CG (F) (.inl rfl) ?_|refine C9 ?_)
   refine CE rfl rfl ?_;exact wC
  rw[C7 (Q3 o)];rw[C7 (λx=>x.elim c λy=>y o),C7 c,C7 (Q3 o)]at F;obtain⟨b5,V⟩:=zt w.Ref (nth w.Heap.Objs i).Id a.At a.Value m h.ref ω o
  repeat'(first|refine gA ?_|(conv=>whnf);first|with_reducible (first|refine CA (aa b) ?_|refine Bf.E (λj=>?_) (λj=>?_))|refine C9 ?_|refine CF rfl (aa b) rfl ?_|refine C6 (D) ?_|refine CG (F) (.inl rfl) ?_|refine C6 (V) ?_|refine C9 ?_)
  refine CE rfl rfl ?_;exact wC
 rw[C7 K];unfold qN;by_cases d:w.Heap.Kernel.Calls=100000
 ·rw[C7 (λx=>x.1 d)]
  rw[Q0 (Q3 d)]at g
  repeat'(first|refine gA ?_|(conv=>whnf);first|with_reducible refine CA (aa b) ?_|refine C9 ?_|refine CD (g) ⟨⟨rfl,CN _⟩,trivial⟩ ?_|refine CF rfl (aa b) rfl ?_|refine C9 ?_)
  refine CE rfl rfl ?_;exact wC
 rw[O0 d]at g;by_cases c:kG w.Heap i a.Value
 ·rw[C8 ⟨d,c⟩]
  have B:=(qr w.Heap i a.Value e t c.1).frame (r:=a7.enc .imm w.Ref) (by split<;>rfl);rw[C8 c,O0 c]at B;obtain⟨b7,W⟩:=D6 w.Ref (nth w.Heap.Objs i).Id a.Value m h.ref ω
  repeat'(first|refine gA ?_|(conv=>whnf);first|with_reducible refine CA (aa b) ?_|refine C9 ?_|refine CD (g) ⟨⟨rfl,CN _⟩,trivial⟩ ?_|refine CF rfl (aa b) rfl ?_|refine CG (B) (.inl rfl) ?_|refine C6 (W) ?_|refine C9 ?_)
  refine CE rfl rfl ?_;exact wC
 ·rw[C7 (λx=>c x.2)]
  by_cases o:xw w.Heap (nth w.Heap.Objs i).Addr<0
  ·have B:=(Fj w.Heap (nth w.Heap.Objs i).Addr a.Value (by have:=e.lens.larges;omega) e.L.lok o).frame (r:=a7.enc .imm w.Ref) ((cI _).trans (cI _).symm)
   repeat'(first|refine gA ?_|(conv=>whnf);first|with_reducible refine CA (aa b) ?_|refine C9 ?_|refine CD (g) ⟨⟨rfl,CN _⟩,trivial⟩ ?_|refine CF rfl (aa b) rfl ?_|refine CG (B) (.inl rfl) ?_|refine C9 ?_)
   refine CE rfl rfl ?_;exact wC
  ·have B:=(qr w.Heap i a.Value e t ω).frame (r:=a7.enc .imm w.Ref) (by split<;>rfl)
   rw[C7 c,Q0 c]at B
   repeat'(first|refine gA ?_|(conv=>whnf);first|with_reducible refine CA (aa b) ?_|refine C9 ?_|refine CD (g) ⟨⟨rfl,CN _⟩,trivial⟩ ?_|refine CF rfl (aa b) rfl ?_|refine CG (B) (.inl rfl) ?_|refine C9 ?_)
   refine CE rfl rfl ?_;exact wC
theorem r6.fit{w:bI}{m:Nat}(h:r6 w m)(a:iG w.Heap.Kernel.Refuse):ab.sml w.Heap/\ab.wf w.Heap:=
 ⟨(h.inv.fit a (jt.of h.inv.mail).sml).sml,h.inv.wf a⟩
theorem ER(w:bI)(a:ec)(m:Nat)(h:r6 w m)(K:m<=900)(L:iG w.Heap.Kernel.Refuse)(p:KB a):aP Tryz.prog 240 false [.ptr (pX w),.val (some 5) (ec.enc .imm a)] [.ptr (pX (ns w a).1),.val (some 5) (ec.enc .imm a)] .one [I (ns w a).2]:=by
 have i:=h.inv;have M:=p.k;have O:=p.n;have j:=i.nums;unfold cm at j;rw[C0]at j;unfold ns;refine fM 123 [(143,[2,0,0]),(302,[2,0]),(303,[2,0,0]),(304,[2,0]),(306,[2,0]),(307,[2]),(308,[2,0])] [(3,265,[13,14,15,16,17,18,19,21,22,0,1,2,3,4,5,6,7,8,9,10,11,1010,12]),(5,269,[26,27,28,29,30,31,32,33,25,34,35,36,37,0,1,2,3,4,5,6,7,8,9,10,11,12,13,1010]),(19,21,[62,63,64,65,66,67,68,69,70,71,72,73,74,75,76,77,78,79,80,81,82]),(21,5,[86,87,88,89,90])] [(0,0),(0,0)] Tryz.func240 rfl (λu q=>?_);by_cases F:a.Kind=1
 ·rw[C8 F]
  have c:=(xY w.Heap a.Thread a.N i).frame (r:=a7.enc .imm w.Ref) ((cI _).trans (cI _).symm);by_cases e:(fB w.Heap a.Thread a.N).2.2=0
  ·rw[C8 e]
   have y:1<=a.N/\a.N<=1000:=by
    refine Classical.byContradiction λB=>?_
    unfold fB at e;rw[C8 B]at e;split at e
    ·exact absurd (show(5:Int)=0 from e) (by decide)
    split at e
    ·exact absurd (show(1:Int)=0 from e) (by decide)
    exact absurd (show(2:Int)=0 from e) (by decide)
   have o:=xq w.Ref a.N m h.ref ω y;generalize fB w.Heap a.Thread a.N=f at c e |-
   repeat'(first|refine gA ?_|(conv=>whnf);first|with_reducible refine Bf.E (λb=>?_) (λb=>?_)|refine C9 ?_|refine CG (c) (.inl rfl) ?_|refine C6 (o) ?_|refine C9 ?_)
   refine CE rfl rfl ?_;exact wC
  ·rw[C7 e]
   generalize fB w.Heap a.Thread a.N=f at c e |-
   repeat'(first|refine gA ?_|(conv=>whnf);first|with_reducible refine Bf.E (λb=>?_) (λb=>?_)|refine C9 ?_|refine CG (c) (.inl rfl) ?_|refine C9 ?_)
   refine CE rfl rfl ?_;exact wC
 rw[C7 F];by_cases G:a.Kind=2\/a.Kind=3\/a.Kind=4
 ·rw[C8 G]
  have c:=Bp w a.N (by have:=i.lens.objs;omega);by_cases e:qp w.Heap a.N<0
  ·rw[C8 e]
   repeat'(first|refine gA ?_|(conv=>whnf);first|with_reducible refine Bf.E (λb=>?_) (λb=>?_)|refine C9 ?_|refine CG (c) (.inl rfl) ?_)
   all_goals first|omega|skip
   all_goals
    refine CE rfl rfl ?_;exact wC
  ·rw[C7 e]
   obtain⟨P,S,T⟩:=gc (Ki a.N) w.Heap.Objs (by unfold qp at e;omega);have o:=wK w a (qp w.Heap a.N).toNat m h K p P;rw[show(((qp w.Heap a.N).toNat:Nat):Int)=qp w.Heap a.N by omega]at o
   repeat'(first|refine gA ?_|(conv=>whnf);first|with_reducible refine Bf.E (λb=>?_) (λb=>?_)|refine C9 ?_|refine CG (c) (.inl rfl) ?_|refine CG (o) (.inl rfl) ?_)
   all_goals first|omega|skip
   all_goals
    refine CE rfl rfl ?_;exact wC
 rw[C7 G];by_cases C:a.Kind=5\/a.Kind=6\/a.Kind=7
 ·rw[C8 C]
  have c:=vT w a m h C
  repeat'(first|refine gA ?_|(conv=>whnf);first|with_reducible refine Bf.E (λb=>?_) (λb=>?_)|refine C9 ?_|refine CG (c) (.inl rfl) ?_)
  all_goals first|omega|skip
  all_goals
   refine CE rfl rfl ?_;exact wC
 rw[C7 C];by_cases H:a.Kind=8
 ·rw[C8 H]
  unfold oK;have d:=kC w.Heap.Kernel (bp i.ker);rw[FA i.ker]at d;have c:=aE a.N 0 1000;by_cases g:w.Heap.Kernel.Calls≠100000;rotate_left
  ·rw[C7 (λx=>g x.1)]
   rw[Q0 g]at d
   repeat'(first|refine gA ?_|(conv=>whnf);first|with_reducible refine Bf.E (λb=>?_) (λb=>?_)|refine C9 ?_|refine CD (d) ⟨⟨rfl,CN _⟩,trivial⟩ ?_|refine C9 ?_)
   refine CE rfl rfl ?_;exact wC
  rw[O0 g]at d;by_cases l:0<=a.N/\a.N<=1000;rotate_left
  ·rw[C7 (λx=>l x.2.1)]
   rw[Q0 l]at c
   repeat'(first|refine gA ?_|(conv=>whnf);first|with_reducible refine Bf.E (λb=>?_) (λb=>?_)|refine C9 ?_|refine CD (d) ⟨⟨rfl,CN _⟩,trivial⟩ ?_|refine C6 (c) ?_|refine C9 ?_)
   refine CE rfl rfl ?_;exact wC
  rw[O0 l]at c;by_cases D:w.Heap.Clock+a.N<=1000000
  ·rw[C8 ⟨g,l,D⟩]
   have o:=(zJ w.Heap a.N i l D).frame (r:=a7.enc .imm w.Ref) ((cI _).trans (cI _).symm)
   repeat'(first|refine gA ?_|(conv=>whnf);first|with_reducible refine Bf.E (λb=>?_) (λb=>?_)|refine C9 ?_|refine CD (d) ⟨⟨rfl,CN _⟩,trivial⟩ ?_|refine C6 (c) ?_|refine CG (o) (.inl rfl) ?_|refine C9 ?_)
   refine CE rfl rfl ?_;exact wC
  ·rw[C7 (λx=>D x.2.2)]
   repeat'(first|refine gA ?_|(conv=>whnf);first|with_reducible refine Bf.E (λb=>?_) (λb=>?_)|refine C9 ?_|refine CD (d) ⟨⟨rfl,CN _⟩,trivial⟩ ?_|refine C6 (c) ?_|refine C9 ?_)
   refine CE rfl rfl ?_;exact wC
 rw[C7 H];by_cases J:a.Kind=9
 ·rw[C8 J]
  unfold ot;obtain⟨Q,R⟩:=h.fit L;have d:=BX w.Heap Q R;rw[show fo w.Heap=true from i.to]at d;cases g:w.Heap.Meshing with
  | true=>
   rw[C8 rfl]
   repeat'(first|refine gA ?_|(conv=>whnf);first|with_reducible refine Bf.E (λb=>?_) (λb=>?_)|refine C9 ?_|refine Bf.t g ?_|refine C9 ?_)
   refine CE rfl rfl ?_;exact wC
  | false=>
   rw[C7 (by simp)];have c:=(x9 w.Heap i).frame (r:=a7.enc .imm w.Ref) ((cI _).trans (cI _).symm);cases l:(started w.Heap).2<;>rw[l]at c
   ·rw[C7 (by simp)]
    repeat'(first|refine gA ?_|(conv=>whnf);first|with_reducible refine Bf.E (λb=>?_) (λb=>?_)|refine C9 ?_|refine Bf.f g ?_|refine CD (d) ⟨⟨rfl,bA w.Heap⟩,trivial⟩ ?_|refine CG (c) (.inl rfl) ?_|refine C9 ?_)
    refine CE rfl rfl ?_;exact wC
   ·rw[C8 rfl]
    repeat'(first|refine gA ?_|(conv=>whnf);first|with_reducible refine Bf.E (λb=>?_) (λb=>?_)|refine C9 ?_|refine Bf.f g ?_|refine CD (d) ⟨⟨rfl,bA w.Heap⟩,trivial⟩ ?_|refine CG (c) (.inl rfl) ?_|refine C9 ?_)
    refine CE rfl rfl ?_;exact wC
 rw[C7 J];have k10:a.Kind=10:=ω
 have d:=aE a.N 0 50;by_cases g:0<=a.N/\a.N<=50
 ·rw[C8 ⟨k10,g⟩]
  rw[O0 g]at d;obtain⟨n,B⟩:=O2 g.1;have c:=yf w m n h ω;rw[show a.N.toNat=n by omega];rw[<-B]at c
  repeat'(first|refine gA ?_|(conv=>whnf);first|with_reducible refine Bf.E (λb=>?_) (λb=>?_)|refine C9 ?_|refine C6 (d) ?_|refine CG (c) (.inl rfl) ?_|refine C9 ?_)
  refine CE rfl rfl ?_;exact wC
 ·rw[C7 (λx=>g x.2)]
  rw[Q0 g]at d
  repeat'(first|refine gA ?_|(conv=>whnf);first|with_reducible refine Bf.E (λb=>?_) (λb=>?_)|refine C9 ?_|refine C6 (d) ?_|refine C9 ?_)
  refine CE rfl rfl ?_;exact wC
theorem zY(w:bI)(h1:ab.sml w.Heap)(a:a7.sml w.Ref):ao Tryz.prog 241 false [.val (some 26) (bI.enc .imm w)] .agg (bI.enc .own w):=by
 have b:=Ac w.Heap h1;have c:=dK w.Ref a;refine fO 10 [(1,5,[3,4,5,6,7])] Tryz.func241 rfl ?_ (.inr (bI.enc_fr _))
 repeat'(first|refine gO ?_|(conv=>whnf);first|refine C6 (b) ?_|refine C6 (c) ?_|refine C9 ?_)
 rfl
theorem AF(c:cB)(acts:List ec)(h:FQ c)(d:iG c.Refuse)(n:∀a∈acts,KB a)(D:acts.length<=80):ao Tryz.prog 149 false [.val (some 5) (cB.enc .imm c),.val none (oq .imm acts)] (.tup [some 26,none]) (bI.enc .own (Aq c acts acts.length).1++aD .own (Aq c acts acts.length).2):=by
 have o:=yh c h;refine fP 42 [(240,[2,0]),(2000005,[6,21,25])] [] Tryz.func149 rfl ?_ (.inr (aM (bI.enc_fr _) (bK _)))
 repeat'(first|refine gD ?_|(conv=>whnf);first|refine C6 (o) ?_|refine Fa.mk rfl rfl rfl ?_)
 (conv=>whnf)
 refine CC (ι:=Nat) (λi=>[(1,.hold .one (oq .imm acts)),(4,.hold .box [.z,.z,.z,I 0,.z,.z,.z,.z,.z,.z,.z,.z,I 0,.z,I 0,I 0,I 0,I 0,B false,I 0,I 0,.z,I 0,I 0,I 0,.z]),(6,.hold .box (pX (Aq c acts i).1)),(8,.hold .one (aD .own (Aq c acts i).2)),(9,.hold .one [I ((i:Nat):Int)])]) (λi=>i<=acts.length) (λi=>acts.length - i) (0) ?_ (R0 _) λi p=>?_
 ·repeat'(first|exact trivial|rfl |exact kP q|exact dx _|refine CH ?_ ?_|(exact yP (by first|omega|(simp only;omega)|(simp;omega))))
 have e:=wn h acts i;have b:=F7 h acts i;have g:(Aq c acts i).2.length=i:=by
  clear e b p
  induction i with
  | zero=>rfl
  | succ k t=>show((Aq c acts k).2++[_]).length=_;rw[W2,t];rfl
 by_cases j:i<acts.length
 ·have l:=ah j
  have u:=ER (Aq c acts i).1 (nth acts i) i e ω (by unfold rfs at b;rw[b];exact d) (n _ (am j))
  repeat'(first|refine gD ?_|(conv=>whnf);first|with_reducible refine CA (aa l) ?_|refine CF rfl (aa l) rfl ?_|refine CG (u) (.inl rfl) ?_|refine CQ cx (λr d=>by rw[Z0.1 d];rfl) (by simp[aV,dC]) (by simp;omega) (by simp only[W0];exact yk (by simp;omega) (by decide)) rfl ?_)
  ((conv=>whnf);refine CB (i+1) ω ω ?_)
  repeat'(first|exact trivial|rfl| exact dx _ |exact CH rfl (CH (T0 (C.s dw.own) (by simp[Aq,rI])) trivial)|refine CH ?_ ?_|(exact yP (by first|omega|(simp only;omega)|(simp;omega))))
 ·obtain rfl:i=acts.length:=ω
  have w:=e.fit (by unfold rfs at b;rw[b];exact d);have y:=zY (Aq c acts acts.length).1 w.1 (e.ref.sml ω)
  repeat'(first|refine gD ?_|(conv=>whnf);first|refine CD (y) ⟨⟨rfl,MW _⟩,trivial⟩ ?_)
  rfl
theorem DI(zs:List Int)(c:hC):iG (pu zs c).Refuse:=by
 show iG (nR zs 4 0 [] (Bj zs c).2).1;have key:∀(f i:Nat)(out:List Int)(c:hC),(∀x∈out,lN x)->∀x∈(nR zs f i out c).1,lN x:=by
  intro f
  induction f with
  | zero=>intro i out c h;exact h
  | succ f b=>
   intro i out c h;unfold nR;split
   ·refine b _ _ _ λx a=>?_
    rcases Q2.1 a with a|a
    ·exact h x a
    ·rw[Z0.1 a]
     have:=bG zs (bt zs c 4).2 (n:=12) (by decide);exact⟨ω,ω⟩
   ·exact h
 exact⟨by
   have d:∀(f i:Nat)(out:List Int)(c:hC),out.length+f<=4->(nR zs f i out c).1.length<=4:=by
     intro f
     induction f with
     | zero=>intro i out c h;exact h
     | succ f b=>
       intro i out c h;unfold nR;split
       · exact b _ _ _ (by simp only[W2,List.length_singleton];omega)
       · show out.length<=4;omega
   have:=d 4 0 [] (Bj zs c).2 (R2 _);omega,key 4 0 [] _ (λx a=>by cases a)⟩
theorem yb(zs:List Int)(a:iJ zs):aP Tryz.prog 61 false [.ptr (gL zs (sD zs))] [.ptr (gL zs (mQ zs (eZ zs)).2)] .agg (bI.enc .own (drawn zs)):=by
 have b:(sD zs).i<=zs.length:=R0 _;obtain⟨g,d⟩:=rp b;have o:=bG zs (eZ zs) (n:=41) (by decide);obtain⟨p,h,-⟩:=qA (zs:=zs) (c:=eZ zs) d (n:=(bt zs (eZ zs) 41).1.toNat) ω;have e:=wE zs (sD zs) a b;have j:=AW zs (eZ zs) a d;have k:=AF (pu zs (sD zs)) (mQ zs (eZ zs)).1 g (DI zs _) h (by show(ky zs (eZ zs) _).1.length<=80;omega);have l:drawn zs=(Aq (pu zs (sD zs)) (mQ zs (eZ zs)).1 (mQ zs (eZ zs)).1.length).1:=rfl;rw[l];change aP _ _ _ _ [.ptr (gL zs (eZ zs))] _ _ at e;generalize pu zs (sD zs)=cf at *;generalize r:mQ zs (eZ zs)=A at *;generalize t:Aq cf A.1 A.1.length=R at *;refine fM 14 [(150,[2]),(151,[2,0])] [] [(0,0)] Tryz.func61 rfl (λu q=>?_) (.inr (bI.enc_fr _))
 repeat'(first|refine gO ?_|(conv=>whnf);first|refine CG (e) (.inl rfl) ?_|refine CG (j) (.inl rfl) ?_|refine CD (k) ⟨⟨rfl,cB.enc_fz _⟩,⟨rfl,HS _⟩,trivial⟩ ?_)
 refine CE rfl rfl ?_;exact wC
def NW(z:List Int):List C:=[.s .imm (z.map rU)]
theorem tC(zs:List Int)(b:iJ zs):pP Tryz.prog 62 true [.val none (NW zs)] .box (gL zs (sD zs)):=by
 have r:=b.1;have e:IntKind.i64.wrap (98801+(zs.length:Nat))=w64 (98801+(zs.length:Nat)):=rfl;have g:oQ zs 0=98801+(zs.length:Nat):=by show w64 _=_;rw[<-e];exact eS ω ω
 have a:=T0 I g;refine PL (n:=32) (t:=2) (mo:=[]) (tb:=[]) Tryz.func62 (by kernel_rfl) rfl (by kernel_rfl) (by rfl) rfl ?_
 repeat'(first|refine gO ?_|fail)
 (conv=>whnf)
 refine CC (ι:=Nat) (λi=>[(0,.hold .one (NW zs)),(3,.hold .one [I (oQ zs i)]),(4,.hold .one [I ((i:Nat):Int)])]) (λi=>i<=min zs.length 4000) (λi=>min zs.length 4000 - i) (0) ?_ (R0 _) λi u=>?_
 ·repeat'(first|exact trivial|rfl |exact kP a|exact dx _|refine CH ?_ ?_|(exact yP (by first|omega|(simp only;omega)|(simp;omega))))
 have h:IntKind.i64.wrap (oQ zs i*131)=w64 (oQ zs i*131):=rfl;have j:IntKind.i64.wrap (w64 (oQ zs i*131)+nth zs i)=w64 (w64 (oQ zs i*131)+nth zs i):=rfl;have k:IntKind.i64.wrap (w64 (w64 (oQ zs i*131)+nth zs i)+7)=w64 (w64 (w64 (oQ zs i*131)+nth zs i)+7):=rfl;have l:IntKind.i64.wrap (BitVec.ofInt IntKind.i64.bits (w64 (w64 (w64 (oQ zs i*131)+nth zs i)+7)) &&& BitVec.ofInt IntKind.i64.bits 1073741823).toNat=oQ zs (i+1):=rfl;by_cases c:i<zs.length/\i<4000
 ·have d:=ah c.1
  have w:=b.2 _ (am c.1);generalize oQ zs i=H at *;generalize o:oQ zs (i+1)=H2 at *
  repeat'(first|refine gD ?_|(conv=>whnf);first|with_reducible (first|refine CA (aa d) ?_|refine CI h ?_|refine CI j ?_|refine CI k ?_|refine CI l ?_)|refine CF rfl (aa d) rfl ?_)
  ((conv=>whnf);refine CB (i+1) ω ω ?_)
  rw[o];exact wC
 ·obtain rfl:i=min zs.length 4000:=ω
  have p:sD zs = ⟨0,oQ zs (min zs.length 4000)⟩:=rfl;rw[p];generalize oQ zs (min zs.length 4000)=H at *
  repeat'(first|refine gD ?_|(conv=>whnf);first|with_reducible refine Bf.D (λq=>?_) (λq=>?_))
  all_goals rfl
theorem vJ(zs:List Int)(a:iJ zs):ao Tryz.prog 16 false [.val none (NW zs)] .agg (bI.enc .own (drawn zs)):=by
 have b:=tC zs a;have c:=yb zs a;refine fP 6 [(61,[2])] [] Tryz.func16 rfl ?_ (.inr (bI.enc_fr _))
 repeat'(first|refine gO ?_|(conv=>whnf);first|refine Cl.g b (.inr rfl) ?_|refine CG (c) (.inl rfl) ?_)
 rfl
def cls(h:ab):Int:=h.Kernel.Calls
theorem AZ(k:af)(p:Int):(fJ k p).1.Calls=k.Calls+1:=by unfold fJ;split<;>rfl
theorem BH(k:af)(p:Int):∀n:Nat,(cy k p n).1.Calls<=k.Calls+n
 | 0=>by show k.Calls<=k.Calls+0;omega
 | n+1=>by
  have a:=BH k p n;unfold cy;split
  ·refine v4 (C4 (AZ (cy k p n).1 (p+(n:Nat)))) ?_
   omega
  ·omega
theorem K2(h:ab)(i:Nat):cls (nJ h i).1=cls h:=by unfold nJ;split<;>rfl
theorem Hh(h:ab)(t c:Nat):cls (eL h t c).1<=cls h+1:=by
 unfold eL;split
 ·show cls h<=_;omega
 split
 ·show cls h<=_;omega
 split
 ·show cls h<=_;omega
 split
 ·exact C4 (AZ _ _)
 ·exact C4 ((K2 _ _).trans (AZ _ _))
theorem GY(h:ab)(t n:Int)(a:cls h<=99001):cls (fB h t n).1<=99001:=by
 unfold fB;split
 ·exact a
 rename_i d;have c:cls h<=90000:=by unfold cls;omega
 split
 ·exact a
 split
 ·exact a
 rename_i e;split
 ·exact a
 split
 ·have:=Hh h t.toNat (aK n).toNat
  split
  ·show cls (eL h t.toNat (aK n).toNat).1<=_;omega
  ·show cls (eL h t.toNat (aK n).toNat).1<=_;omega
 ·have f:(kw n:Int)<=63:=by unfold kw;omega
  unfold nI;split
  ·exact a
  have b:=BH h.Kernel (a8 h.Free (kw n:Nat)).2.1 (kw n);unfold cls at c;split
  ·exact v4 b ω
  ·exact v4 (C4 (iO _ _ _).1) (v4 b ω)
theorem JZ(h:ab)(t i:Nat):cls (freeT h t i).1=cls h:=by
 unfold freeT;split
 ·exact(iO _ _ _).1
 split
 ·rfl
 split
 ·exact(ek t _ _).2.2.1
 split<;>rfl
theorem zd(t:Nat)(h:ab):∀k,cls (flushN t h k).1=cls h
 | 0=>rfl
 | k+1=>((hB _ (spilt (flushN t h k).1 t k)).2.2.1).trans (zd t h k)
theorem Ke{h:ab}(a:bn h [])(b:JI h)(c:cls h<=99001):∀n,cls (mE h n).1<=99001
 | 0=>c
 | n+1=>by
  obtain⟨d,f⟩:=wy a b n;unfold mE;split
  ·rename_i e
   unfold sv at e;rw[I0,C0]at e;exact v4 ((xd d e.1).2.1) ω
  ·exact Ke a b c n
theorem Kq{w:bI}{m:Nat}(h:r6 w m)(a:ec)(b:cls w.Heap<=99001):cls (ns w a).1.Heap<=99001:=by
 unfold ns;split
 ·exact GY _ _ _ b
 split
 ·split
  ·exact b
  unfold nU;split
  ·unfold ru
   split
   ·exact b
   split
   ·exact v4 (C4 (JZ _ _ _)) b
   ·exact b
  split
  ·unfold nA
   split
   ·exact b
   split
   ·exact b
   split<;>exact b
  ·unfold qN
   split
   ·exact v4 (C4 (((iO _ _ _).1).trans (sM _ _ _).2.1)) b
   ·exact b
 split
 ·unfold gl
  split
  ·split<;>exact b
  split
  ·exact b
  split
  ·exact v4 (C4 (ek _ _ _).2.2.1) b
  ·exact v4 (C4 (zd _ _ _)) b
 split
 ·unfold oK
  split
  ·exact v4 (C4 (hB _ _).2.2.1) b
  ·exact b
 split
 ·unfold ot
  split
  ·exact b
  ·show cls (started w.Heap).1<=_
   unfold cls;rw[(tI h.inv).2.1];exact b
 split
 ·exact Ke h.inv h.ji b _
 ·exact b
theorem Lf{c:cB}(h:FQ c)(acts:List ec):∀n,cls (Aq c acts n).1.Heap<=99001
 | 0=>by show(0:Int)<=99001;decide
 | n+1=>Kq (wn h acts n) _ (Lf h acts n)
set_option maxHeartbeats 2000000
set_option maxHeartbeats 2000000
set_option maxHeartbeats 2000000
set_option maxHeartbeats 2000000
set_option maxHeartbeats 2000000
set_option maxHeartbeats 2000000
theorem Ej(zs:List Int):iG (drawn zs).Heap.Kernel.Refuse:=by
 have a:(sD zs).i<=zs.length:=R0 _;have:=F7 (rp a).1 (mQ zs (eZ zs)).1 (mQ zs (eZ zs)).1.length;unfold rfs at this;show iG (Aq _ _ _).1.Heap.Kernel.Refuse;rw[this];exact DI zs _
theorem KS(zs:List Int):(drawn zs).Heap.Kernel.Calls<=99001:=Lf (rp (R0 _)).1 _ _
theorem HW(zs:List Int):ab.sml (drawn zs).Heap/\ab.wf (drawn zs).Heap:=(BS zs).fit (Ej zs)
theorem Pi(zs:List Int)(a:zs.length<=9223372036854775807):ao Tryz.prog 15 false [.val none (NW zs)] .one [B (decide ((zs.length:Int) > 1048576))]:=by
 refine fO 6 [] Tryz.func15 rfl ?_
 repeat'(first|refine gO ?_|fail)
 rfl
def LO(a:Int)(l:ax):Bool:=decide (l.Page*16=a)
theorem kH(l:ax)(a:Int)(b:0<=l.Page/\l.Page<=32):ao Tryz.prog 133 false [.val (some 3) (ax.enc .imm l),.ptr [I a]] .one [B (LO a l)]:=by
 refine fO 9 [] Tryz.func133 rfl ?_
 repeat'(first|refine gO ?_|fail)
 exact T0 (λz=>[B z]) ((by unfold LO;rw[Z3];simp))
theorem vo(h:ab)(b:ab.sml h)(a:h.Objs≠[]):ao Tryz.prog 65 false [.val (some 24) (ab.enc .imm h)] .agg (cE h (oS h) (oL h) (.s .own (h.Objs.map (bm.enc .own)))):=by
 have c:=w7 h b
 rwa [show gq h=cE h (oS h) (oL h) (.s .own (h.Objs.map (bm.enc .own))) by unfold gq oO;rw[vb λe=>a (List.map_eq_nil_iff.1 e)]]at c
theorem x5(h:ab)(o:bm)(t:Nat)(S:ab.sml h)(e1:fo h=true)(hc:h.Kernel.Calls≠100000)(X:o∈h.Objs)(ht:o.Thread=t):ao Tryz.prog 52 false [.val (some 24) (ab.enc .imm h),.val none [I (t:Nat)],.val none [I o.Addr]] (.tup [some 24,none]) (gq (freeOb h t (gX h o.Addr)).1++[I (freeOb h t (gX h o.Addr)).2]):=by
 have b:=bn.of e1;have T:=jf h S;rw[lE,e1]at T;obtain⟨p,G,H⟩:=b.objAt X;have q:=nQ b X;have hon:=b.onu o X;have a:=b.lens;have hno:=a.objs;have hnl:=a.larges;have hlc:=a.caches;have J:t<h.Caches.length:=ω
 have U:=aN (t:Nat) 0 (h.Caches.length - 1:Int);rw[O0 ω]at U;have K:=pW h o.Addr ω;rw[H]at K;have V:=vo h S (fV p);generalize gX h o.Addr=i at p G K;subst G;have Y:=ah p;have Z:=m6 (nth h.Objs i).Size;have C:=uL h.Objs i p;have hks:=bp b.ker;have c6:=eK h.Kernel.Machine.Table ((nth h.Objs i).Addr / 16) hks.1.2;have M:gq h=cE h (oS h) (oL h) (.s .own (h.Objs.map (bm.enc .own))):=by unfold gq oO;rw[vb λe=>fV p (List.map_eq_nil_iff.1 e)]
 unfold freeOb;by_cases d:aK (nth h.Objs i).Size<0
 ·rw[C8 d]
  obtain⟨l,hl,h1,-⟩:=(d2 b (am p)).1 d;obtain⟨r,ea,-,hfi⟩:=q8 hl h1;have E:=mS h.Larges (LO (nth h.Objs i).Addr) ω;rw[show cX (LO (nth h.Objs i).Addr) h.Larges=(rj h (nth h.Objs i).Addr:Nat) by unfold cX LO;rw[hfi]]at E;generalize rj h (nth h.Objs i).Addr=g at r ea E;have hf:=aS (b.L.lok _ (am r));have hxl:=ah r;have N:=qZ h.Larges g r;have F:=ka {h with Objs:=dele h.Objs i,Larges:=dele h.Larges g} ⟨(nth h.Larges g).Page,(nth h.Larges g).Pages⟩ (nth h.Larges g).Pages.toNat b.ker hc (by show h.Free.length<=_;have:=a.free;omega) ⟨by show(nth h.Larges g).Pages=_;omega,by show 0<=(nth h.Larges g).Page;omega,by show(nth h.Larges g).Page<=_;omega,ω⟩;have hg:gq {h with Objs:=dele h.Objs i,Larges:=dele h.Larges g} = cE h (oS h) (oE ((dele h.Larges g).map (ax.enc .own))) (oE ((dele h.Objs i).map (bm.enc .own))):=rfl;have u:oL h=.s .own (h.Larges.map (ax.enc .own)):=by unfold oL;rw[vb λe=>fV r (List.map_eq_nil_iff.1 e)]
  rw[u]at V;rw[hg]at F;have hpg:∀y∈h.Larges,0<=y.Page/\y.Page<=32:=λy w=>by have:=aS (b.L.lok y w);omega
  rcases oV (rows:=(dele h.Objs i).map (bm.enc .own)) with e|⟨-,e⟩<;>rcases oV (rows:=(dele h.Larges g).map (ax.enc .own)) with e'|⟨-,e'⟩
  all_goals
   rw[e]at C F;rw[e']at N F;refine fP 163 [(131,[1,0,0]),(134,[1,0,0]),(135,[2,0]),(136,[2,0,0]),(139,[2,0,0])] [(20,12,[85,86,87,88,89,90,91,92,93,94,95,96]),(24,4,[111,112,113,114])] Tryz.func52 rfl ?_ (.inr (aM (iQ _) ⟨trivial,trivial⟩))
   repeat'(first|refine gA ?_|(conv=>whnf);first|with_reducible refine Bf.D (λO=>?_) (λO=>?_)|refine C6 (U) ?_|refine C6 (T) ?_|refine C6 (K) ?_|refine C6 (V) ?_|refine C6 (Z) ?_|refine CA (aa Y) ?_|refine CA (aa hxl) ?_|refine Cq.mk (xW (some 3) (ax.enc .imm) (LO (nth h.Objs i).Addr) h.Larges) (kH ⟨0,0,0⟩ (nth h.Objs i).Addr ⟨by decide,by decide⟩).has (λL k rcs hQ=>?_) ?_|refine C6 (E) ?_|refine CG (C) (.inl rfl) ?_|refine CG (N) (.inl rfl) ?_|refine CG (F) (.inl rfl) ?_)
   ·obtain⟨y,w,rfl,rfl,rfl⟩:=hQ
    exact kH y _ (hpg y w)
   ·rfl
 rw[C7 d];obtain⟨s1,s2,s3,s4⟩:=Pr.of b (am p) d;have hcz:=Al s1;by_cases W:(ar (tbl h) ((nth h.Objs i).Addr / 16)).Mode=1
 ·rw[C8 W]
  unfold tbl at W;have B:=iQ h;simp only;rw[M]at B |-;rcases oV (rows:=(dele h.Objs i).map (bm.enc .own)) with e|⟨-,e⟩
  all_goals
   rw[e]at C;refine fP 163 [(131,[1,0,0]),(134,[1,0,0]),(135,[2,0]),(136,[2,0,0]),(139,[2,0,0])] [(20,12,[85,86,87,88,89,90,91,92,93,94,95,96]),(24,4,[111,112,113,114])] Tryz.func52 rfl ?_ (.inr (aM B ⟨trivial,trivial⟩))
   repeat'(first|refine gA ?_|(conv=>whnf);first|with_reducible refine Bf.D (λO=>?_) (λO=>?_)|refine CK (by decide) ?_|refine CI (js q) ?_|refine C6 (U) ?_|refine C6 (T) ?_|refine C6 (K) ?_|refine C6 (V) ?_|refine C6 (Z) ?_|refine CA (aa Y) ?_|refine CG (C) (.inl rfl) ?_|refine C6 (c6) ?_)
   rfl
 rw[C7 W];unfold tbl at W;have B:dZ h.Kernel (nth h.Objs i).Addr<h.Kernel.Machine.Frames.Cells.length:=by unfold dZ;omega
 have j:=b.inQuar p d;have P:=d7 (aK (nth h.Objs i).Size);rw[show csz (aK (nth h.Objs i).Size)=((csz (aK (nth h.Objs i).Size)).toNat:Nat) by omega]at P;have n:=b.nums;unfold cm at n;rw[C0]at n;have Q:=(b.dropO p (jd.any (c:=aK (nth h.Objs i).Size) (by obtain⟨⟨s,S,k1,k2⟩,-⟩:=(d2 b (am p)).2 d;exact⟨s,S,k1,.inr k2⟩))).nd;rw[List.cons_append,List.nil_append]at Q;have E:=Aw h.Quar (ix h (nth h.Objs i)) (by have:=a.quar;omega) b.quar ⟨s1.1,s1.2,q.1,n.2.2.1⟩ (λy w=>b.snc y w) (λy w e=>(List.nodup_cons.1 Q).1 (by rw[show(nth h.Objs i).Addr=y.Addr from e.symm];unfold holders;simp only[Q2];exact .inl (.inr (U3.2 ⟨y,w,rfl⟩))));unfold JH at E;have u:(se h.Quar (ix h (nth h.Objs i))).length<=513:=by have:=a.quar;unfold se;rw[I1,W2];simp only[List.length_singleton];omega
 have hfq:G5 h t i=recycs t (inQuar h i) ((se h.Quar (ix h (nth h.Objs i))).map (·.Addr)):=rfl;have hqc:(inQuar h i).Kernel.Calls≠100000:=hc;rw[hfq];rcases oV (rows:=(dele h.Objs i).map (bm.enc .own)) with e|⟨-,e⟩
 all_goals
  have hoo:oO (inQuar h i)=_:=e;rw[e]at C;have N:=mN h (oS h) (oL h) (oE ((dele h.Objs i).map (bm.enc .own))) (nth h.Objs i).Addr (csz (aK (nth h.Objs i).Size)).toNat b.ker q s2 ω s4;rw[e]at N;refine fP 163 [(131,[1,0,0]),(134,[1,0,0]),(135,[2,0]),(136,[2,0,0]),(139,[2,0,0])] [(20,12,[85,86,87,88,89,90,91,92,93,94,95,96]),(24,4,[111,112,113,114])] Tryz.func52 rfl ?_ (.inr (aM (iQ _) ⟨trivial,trivial⟩))
  repeat'(first|refine gA ?_|(conv=>whnf);first|with_reducible refine Bf.D (λO=>?_) (λO=>?_)|refine CK (by decide) ?_|refine CI (js q) ?_|refine C6 (U) ?_|refine C6 (T) ?_|refine C6 (K) ?_|refine C6 (V) ?_|refine C6 (Z) ?_|refine CA (aa Y) ?_|refine CG (C) (.inl rfl) ?_|refine C6 (c6) ?_|refine C6 (P) ?_|refine CG (N) (.inl rfl) ?_|refine C6 (E) ?_)
  generalize se h.Quar (ix h (nth h.Objs i))=out at j u
  (conv=>whnf)
  refine CC (ι:=Nat) (λk=>[(1,.hold .one [I ((t:Nat):Int)]),(6,.hold .box KV),(8,.hold .box (gq (recycs t (inQuar h i) ((out.take k).map (·.Addr))))),(16,.hold .one (bQ .own out)),(151,.bor 16 0 [] none),(152,.hold .one [I (out.length)]),(153,.hold .one [I ((k:Nat):Int)])]) (λk=>k<=out.length) (λk=>out.length - k) (0) ?_ (R0 _) λk hk=>?_
  ·repeat'(first|exact trivial|rfl |exact kP hoo|exact dx _|refine CH ?_ ?_|(exact yP (by first|omega|(simp only;omega)|(simp;omega))))
  by_cases r:k<out.length
  ·have R:=ah r
   have hsp:out.map (·.Addr)=(out.take k).map (·.Addr)++(nth out k).Addr::(out.drop (k+1)).map (·.Addr):=by
    conv=>lhs;rw[<-List.take_append_drop k out,gB r]
    simp
   have hik:bn (recycs t (inQuar h i) ((out.take k).map (·.Addr))) ((nth out k).Addr::(out.drop (k+1)).map (·.Addr)):=bn.recycs (by rw[<-hsp];exact j) J;have F:=zw _ _ t _ hik (by rw[(ek t _ _).1];exact J) (by rw[(ek t _ _).2.2.1];exact hqc)
   repeat'(first|refine gD ?_|(conv=>whnf);first|refine CA (aa R) ?_|refine CF rfl (aa R) rfl ?_|refine CG (F) (.inl rfl) ?_)
   ((conv=>whnf);refine CB (k+1) ω ω ?_)
   rw[tl t _ out k r];exact wC
  ·obtain rfl:k=out.length:=ω
   rw[I4]
   repeat'(first|refine gD ?_|fail)
   rfl
end Go.Proofs.YtembpgjjnioagaaGreat.Ab
