/- Addresses in use, and that each has one holder: the contracts of LiveAddrs and l27Once, the reference's. No condition. -/
import Derived.Test.YtiopgblagimpmaaGreatKvd
import Derived.Test.YtiopgblagimpmaaGreatKvShelf
import Derived.WalkKit
import Derived.Lib.SliceRun
set_option linter.unusedVariables false
set_option linter.defProp false
set_option linter.unusedSimpArgs false
set_option linter.constructorNameAsVariable false
namespace Go.Proofs.YtiopgblagimpmaaGreat.Ab
open Go.RowKit
set_option maxRecDepth 20000
set_option maxHeartbeats 8000000
variable{n:Nat}{la:List ay}{sp:List ax}
theorem KM(h:ky sp la n=true):lZ sp la (n+1)=lZ sp la n++[(n:Int)]:=by grind [List.range_succ,lZ]
theorem NN(h:ky sp la n=false):lZ sp la (n+1)=lZ sp la n:=by grind [List.range_succ,lZ]
theorem Ae(sp:List ax)(la:List ay)(n:Nat):(lZ sp la n).length<=n:=by grind [lZ]
theorem sg{w:iv}(a:denotes sp la (n:Nat)=w):ky sp la n=(decide (w.c5=0)&&(decide (w.b5=1) || decide (w.b5=3))):=by grind [ky]
def Q6(h:n<=1048576):ni (n:Nat):=⟨ω,ω⟩
theorem xg(sp:List ax)(la:List ay)(c:d6 sp)(d:dx la)(a:bk sp la=true):zzA 364 false [.val none (cq .V sp),.val none (bU .V la)] .one (aF .own (k6 sp la)):=by
 have g:=m9 sp la c d;rw[a]at g;refine fO 40 [] Tryz.func364 rfl ?_ (.inr (bM _))
 repeat'(first|refine gP ?_|fail)
 (conv=>whnf)
 refine CG (ι:=Nat) (λn=>[(0,.H .one (cq .V sp)),(1,.H .one (bU .V la)),(5,.H .one (aF .own (lZ sp la n))),(6,.H .one [I ((n:Nat):Int)])]) (λn=>n<=512) (λn=>512 - n) (0) ?_ (W0 _) λn o=>?_
 ·exact wB
 have i:=Ae sp la n;by_cases p:n<512
 ·have h:=om sp la (n:Nat) c d a (Q6 ω)
  generalize j:denotes sp la (n:Nat)=w at h;have e:=sg j
  repeat'(first|refine gE ?_|(conv=>whnf);first|with_reducible refine Bf.E (λk=>?_) (λk=>?_)|refine C8 g ?_|refine C8 h ?_|refine CU cA (λr l=>by rw[O1.1 l];rfl) (by simp[bm,eH]) (by simp;omega) (by simp only[C1];exact yV (by simp;omega) (by decide)) rfl ?_)
  all_goals first
   |(have b:ky sp la n=true:=by rw[e];grind
     (conv=>whnf)
     refine CE (n+1) ω ω ?_;rw[KM b]
     (repeat'(first|exact trivial|rfl|exact CL rfl (CL (X0 (C.s dJ.own) (by simp[rI])) trivial)|refine CL ?_ ?_)))
   |(have b:ky sp la n=false:=by rw[e];grind
     (conv=>whnf)
     refine CE (n+1) ω ω ?_;rw[NN b]
     (exact wA))
 obtain rfl:n=512:=ω
 repeat'(first|refine gE ?_|(conv=>whnf);first|refine C8 g ?_)
 rfl
theorem qX(m:aJ)(a:m.y.length=m.T.length):∀i,i<=m.T.length->(((flight1 m i).length+(flight2 m i).length:Nat):Int)=br m i
 | 0,_=>rfl
 | i+1,h=>by
  have d:=qX m a i ω;have b:=ao (xs:=m.T) (i:=i) ω;have c:=ao (xs:=m.y) (i:=i) ω;rw[nN b,n7 c];simp only[U3,C1];show _=br m i+((nth m.T i).length+(nth m.y i).length);omega
theorem sB{m:aJ}(h:bu m=true):(aN m).length<=30:=by grind [qX,lW,bu]
def Fs{m:aJ}(d:aJ.wf m):∀a∈aN m,ni a:=by
 intro a b;unfold aN at b;split at b
 ·rcases C3.1 b with h|h
  ·obtain⟨l,c,h⟩:=List.mem_flatMap.1 h
   obtain⟨p,e,rfl⟩:=O4.1 h;exact((d.1.2 l c).2 p e).2
  obtain⟨l,c,h⟩:=List.mem_flatten.1 h;exact(d.2.2 l c).2 a h
 cases b
variable{h:ab}
theorem L1(h1:h.S.all (fj h)=false):kg h=false:=by grind [kg,jH]
theorem KW(h1:h.a6.a1.all (ia h)=false):kg h=false:=by grind [kg,jH]
theorem KS(h1:(aN h.w).all (kO h)=false):kg h=false:=by grind [kg,jH]
variable{i:Nat}
theorem Kx(a:i<(holders h).length)(b:nth (holders h) i∈(holders h).take i):kg h=false:=by
 have c:decide (holders h).Nodup=false:=LL (S:=(holders h).take i) (p:=nth (holders h) i) (by
   have:=ao a;have e:(holders h).take i++[nth (holders h) i]=(holders h).take (i+1):=by grind [V5]
   grind) b
 grind [kg]
variable{c:aB}
theorem vf(a:h.S[i]? = some c):((h.S.take (i+1)).flatMap λc=>c.a.flatten)=((h.S.take i).flatMap λc=>c.a.flatten)++c.a.flatten:=by grind [V5]
theorem xq{k:Nat}{l:List Int}(a:c.a[k]? = some l):(c.a.take (k+1)).flatten=(c.a.take k).flatten++l:=by grind [V5]
theorem Hd(h:ab)(hs:ab.sml h)(hw:ab.wf h)(t:bk h.K h.J=true)(w:bu h.w=true)(W:∀c∈h.S,bv c=true):zzA 216 false [.val (some 24) (ab.enc .V h)] .one [B (kg h)]:=by
 obtain⟨-,-,G,H,X,Y,Z,hsq,-⟩:=hs;obtain⟨-,-,-,-,-,hwc,hwm,hwq,-⟩:=hw;have hlo:h.M.length<=1048576:=X.1;have hlc:h.S.length<=1048576:=Y.1;have hlq:h.a6.a1.length<=1048576:=hsq.1;have hfl:=sB w;have hfw:=Fs hwm;have y:∀a c,ni a->zzA 363 false [.val (some 24) (ab.enc .V h),.val none [I a],.val none [I c]] .one [B (d3 h a c)]:=λa c ha=>Hf h a c G H t ha
 refine fO 159 [(16,8,[63,64,65,66,67,68,69,70]),(22,17,[86,87,88,89,90,91,92,93,94,95,96,97,98,99,100,101,102]),(29,7,[122,123,124,125,126,127,128]),(35,8,[142,143,144,145,146,147,148,149])] Tryz.func216 rfl ?_
 repeat'(first|refine gP ?_|fail)
 (conv=>whnf)
 refine CG (ι:=Nat × List Int) (λi=>[(1,.H .box (ab.enc .V h)),(3,.H .one (aF .own i.2)),(4,.H .one [I ((i.1:Nat):Int)])]) (λi=>i.1<=h.M.length/\i.2=(h.M.take i.1).map (·.Addr)) (λi=>h.M.length - i.1) ((0,[])) ?_ ψ λi u=>?_
 ·exact wB
 obtain⟨i,S⟩:=i;obtain⟨u,Q⟩:=u;simp only at u Q |-;have hSl:S.length=i:=ψ
 by_cases li:i<h.M.length
 ·have E:=ao li
  repeat'(first|refine gE ?_|(conv=>whnf);first|with_reducible refine CD (aa E) ?_|refine CU cA (λr l=>by rw[O1.1 l];rfl) (by simp[bm,eH]) (by simp;omega) (by simp only[C1];exact yV (by simp;omega) (by decide)) rfl ?_)
  ((conv=>whnf)
   refine CE (i+1,S++[(nth h.M i).Addr]) ⟨(by simp only;omega),(by grind [V5])⟩ (by simp only;omega) ?_
   (repeat'(first|exact trivial|rfl|exact CL rfl (CL (X0 (C.s dJ.own) (by simp[rI])) trivial)|refine CL ?_ ?_)))
 obtain rfl:i=h.M.length:=ω
 rw[C5]at Q
 repeat'(first|refine gE ?_|fail)
 (conv=>whnf)
 refine CG (ι:=Nat × List Int) (λi=>[(1,.H .box (ab.enc .V h)),(3,.H .one (aF .own i.2)),(5,.H .one [I ((i.1:Nat):Int)])]) (λi=>i.1<=h.S.length/\i.2=S++((h.S.take i.1).flatMap λc=>c.a.flatten)/\(h.S.take i.1).all (fj h)=true/\i.2.length<=1048576+32*i.1) (λi=>h.S.length - i.1) ((0,S)) ?_ ψ λi u=>?_
 ·exact wB
 obtain⟨i,S2⟩:=i;obtain⟨hi2,n,ai,J⟩:=u;simp only at hi2 n ai J |-;by_cases li2:i<h.S.length
 ·have E:=ao li2
  obtain⟨h4,h8⟩:=uO (W _ (am li2));have hwl:=hwc.2 _ (am li2)
  repeat'(first|refine gE ?_|(conv=>whnf);first|with_reducible refine CD (aa E) ?_)
  (conv=>whnf)
  refine CG (ι:=Nat × List Int) (λk=>[(1,.H .box (ab.enc .V h)),(3,.H .one (aF .own k.2)),(5,.H .one [I ((i:Nat):Int)]),(6,.H .one [I ((k.1:Nat):Int)])]) (λk=>k.1<=(nth h.S i).a.length/\k.2=S2++((nth h.S i).a.take k.1).flatten/\dn k.1 (tf h (nth h.S i))=true/\k.2.length<=S2.length+8*k.1) (λk=>(nth h.S i).a.length - k.1) ((0,S2)) ?_ (⟨W0 _,by simp,rfl,by simp⟩) λk hk=>?_
  ·exact wB
  obtain⟨k,R⟩:=k;obtain⟨hk,K,ak,hb3⟩:=hk;simp only at hk K ak hb3 |-;by_cases T:k<(nth h.S i).a.length
  ·have hy:=ao T
   have hl8:=h8 _ (am T);have hwa:=(hwl.2 _ (am T)).2
   repeat'(first|refine gE ?_|(conv=>whnf);first|with_reducible (first|refine CD (aa E) ?_|refine CD (aa hy) ?_))
   (conv=>whnf)
   refine CG (ι:=Nat × List Int) (λj=>[(1,.H .box (ab.enc .V h)),(3,.H .one (aF .own j.2)),(5,.H .one [I ((i:Nat):Int)]),(6,.H .one [I ((k:Nat):Int)]),(7,.H .one (aF .V (nth (nth h.S i).a k))),(8,.H .one [I ((j.1:Nat):Int)])]) (λj=>j.1<=(nth (nth h.S i).a k).length/\j.2=R++(nth (nth h.S i).a k).take j.1/\((nth (nth h.S i).a k).take j.1).all (λa=>d3 h a (k:Nat))=true) (λj=>(nth (nth h.S i).a k).length - j.1) ((0,R)) ?_ ψ λj hj=>?_
   ·exact wB
   obtain⟨j,S4⟩:=j;obtain⟨hj,L,U⟩:=hj;simp only at hj L U |-;have hl4:S4.length=R.length+j:=ψ
   by_cases lj:j<(nth (nth h.S i).a k).length
   ·have d:=ao lj
    have b:=y (nth (nth (nth h.S i).a k) j) (k:Nat) ψ;cases g:d3 h (nth (nth (nth h.S i).a k) j) (k:Nat)<;>rw[g]at b
    ·repeat'(first|refine gE ?_|(conv=>whnf);first|with_reducible refine CD (aa d) ?_|refine C8 b ?_)
     exact X0 (λz=>[B z]) ((L1 (gp E (by unfold fj;exact cI T (gp d g)))).symm)
    repeat'(first|refine gE ?_|(conv=>whnf);first|with_reducible refine CD (aa d) ?_|refine C8 b ?_|refine CU cA (λr l=>by rw[O1.1 l];rfl) (by simp[bm,eH]) (by simp;omega) (by show _*8<=_;simp;omega) rfl ?_)
    ((conv=>whnf)
     refine CE (j+1,S4++[nth (nth (nth h.S i).a k) j]) ⟨(by simp only;omega),(by grind [V5]),db d U g⟩ (by simp only;omega) ?_
     (repeat'(first|exact trivial|rfl|exact CL rfl (CL (X0 (C.s dJ.own) (by simp[rI])) trivial)|refine CL ?_ ?_)))
   obtain rfl:j=(nth (nth h.S i).a k).length:=ω
   rw[C5]at L U
   repeat'(first|refine gE ?_|fail)
   ((conv=>whnf);refine CE (k+1,S4) ⟨(by simp only;omega),(by grind [xq]),bQ ak U,(by simp only;omega)⟩ (by simp only;omega) ?_;(exact wB))
  obtain rfl:k=(nth h.S i).a.length:=ω
  rw[C5]at K
  repeat'(first|refine gE ?_|(conv=>whnf);first|with_reducible refine CD (aa E) ?_)
  ((conv=>whnf);refine CE (i+1,R) ⟨(by simp only;omega),(by grind [vf]),db E ai ak,(by simp only;omega)⟩ (by simp only;omega) ?_;(exact wB))
 obtain rfl:i=h.S.length:=ω
 rw[C5]at n ai
 repeat'(first|refine gE ?_|fail)
 (conv=>whnf)
 refine CG (ι:=Nat × List Int) (λq=>[(1,.H .box (ab.enc .V h)),(3,.H .one (aF .own q.2)),(9,.H .one [I ((q.1:Nat):Int)])]) (λq=>q.1<=h.a6.a1.length/\q.2=S2++(h.a6.a1.take q.1).map (·.Addr)/\(h.a6.a1.take q.1).all (ia h)=true) (λq=>h.a6.a1.length - q.1) ((0,S2)) ?_ ψ λq M=>?_
 ·exact wB
 obtain⟨q,N⟩:=q;obtain⟨F,o,aq⟩:=M;simp only at F o aq |-;have hl5:N.length=S2.length+q:=ψ
 by_cases V:q<h.a6.a1.length
 ·have d:=ao V
  have b:=y (nth h.a6.a1 q).Addr (nth h.a6.a1 q).d (hwq.2.2 _ (am V)).1;cases g:d3 h (nth h.a6.a1 q).Addr (nth h.a6.a1 q).d<;>rw[g]at b
  ·repeat'(first|refine gE ?_|(conv=>whnf);first|with_reducible refine CD (aa d) ?_|refine C8 b ?_)
   exact X0 (λz=>[B z]) ((KW (gp d g)).symm)
  repeat'(first|refine gE ?_|(conv=>whnf);first|with_reducible refine CD (aa d) ?_|refine C8 b ?_|refine CU cA (λr l=>by rw[O1.1 l];rfl) (by simp[bm,eH]) (by simp;omega) (by show _*8<=_;simp;omega) rfl ?_)
  ((conv=>whnf)
   refine CE (q+1,N++[(nth h.a6.a1 q).Addr]) ⟨(by simp only;omega),(by grind [V5]),db d aq g⟩ (by simp only;omega) ?_
   (repeat'(first|exact trivial|rfl|exact CL rfl (CL (X0 (C.s dJ.own) (by simp[rI])) trivial)|refine CL ?_ ?_)))
 obtain rfl:q=h.a6.a1.length:=ω
 rw[C5]at o aq
 repeat'(first|refine gE ?_|(conv=>whnf);first|refine C8 (qz h.w Z) ?_)
 (conv=>whnf)
 refine CG (ι:=Nat × List Int) (λq=>[(1,.H .box (ab.enc .V h)),(3,.H .one (aF .own q.2)),(10,.H .one (aF .own (aN h.w))),(11,.H .one [I ((q.1:Nat):Int)])]) (λq=>q.1<=(aN h.w).length/\q.2=N++(aN h.w).take q.1/\((aN h.w).take q.1).all (kO h)=true) (λq=>(aN h.w).length - q.1) ((0,N)) ?_ ψ λq M=>?_
 ·exact wB
 obtain⟨q,e⟩:=q;obtain⟨F,p,aq6⟩:=M;simp only at F p aq6 |-;have hl6:e.length=N.length+q:=ψ
 by_cases V:q<(aN h.w).length
 ·have d:=ao V
  have b:=y (nth (aN h.w) q) (-1) ψ;cases g:d3 h (nth (aN h.w) q) (-1)<;>rw[g]at b
  ·repeat'(first|refine gE ?_|(conv=>whnf);first|with_reducible refine CD (aa d) ?_|refine CH rfl (aa d) rfl ?_|refine C8 b ?_)
   exact X0 (λz=>[B z]) ((KS (gp d g)).symm)
  repeat'(first|refine gE ?_|(conv=>whnf);first|with_reducible refine CD (aa d) ?_|refine CH rfl (aa d) rfl ?_|refine C8 b ?_|refine CU cA (λr l=>by rw[O1.1 l];rfl) (by simp[bm,eH]) (by simp;omega) (by show _*8<=_;simp;omega) rfl ?_)
  ((conv=>whnf)
   refine CE (q+1,e++[nth (aN h.w) q]) ⟨(by simp only;omega),(by grind [V5]),db d aq6 g⟩ (by simp only;omega) ?_
   (repeat'(first|exact trivial|rfl|exact CL rfl (CL (X0 (C.s dJ.own) (by simp[rI])) trivial)|refine CL ?_ ?_)))
 obtain rfl:q=(aN h.w).length:=ω
 rw[C5]at p aq6;have O:e=holders h:=by rw[p,o,n,Q];rfl
 have hheld:jH h=true:=by grind [jH]
 have hbig:e.length<=100000000:=ω
 clear p o n Q hSl hl5 J hl6
 repeat'(first|refine gE ?_|fail)
 (conv=>whnf)
 refine Lp.fz 3 (ι:=Nat) (λi=>[(1,.H .box (ab.enc .V h)),(3,.H .one (aF .V e)),(12,.H .one [I ((i:Nat):Int)])]) (λi=>i<=e.length/\(e.take i).Nodup) (λi=>e.length - i) 0 ?_ ψ λi u=>?_
 ·(repeat'(first|exact trivial|rfl|exact CL rfl (show L9 (ef (aF .own e)) (aF .V e) by rw[eY];exact ly _)|refine CL ?_ ?_))
 obtain⟨u,P⟩:=u;by_cases lj:i<e.length
 ·have d:=ao lj
  have htl:(e.take i).length=i:=ψ
  repeat'(first|refine gE ?_|(conv=>whnf);first|with_reducible (first|refine CD (aa d) ?_|refine Bf.D (λM=>?_) (λM=>?_))|refine CX i rfl (by simp;omega) (λr l=>by obtain⟨z,-,rfl⟩:=O4.1 l;rfl) (C4 ..) ?_|refine C8 (mJ (e.take i) _ ω) ?_)
  all_goals first
   | exact X0 (λz=>[B z]) ((by rw[O]at *;exact(Kx (by assumption) (by assumption)).symm))
   | ((conv=>whnf);refine CE (i+1) ⟨ω,by rw[V5,d];exact lJ P (by assumption)⟩ ω ?_;(exact wB))
 obtain rfl:i=e.length:=ω
 rw[C5]at P;have hlv:=Ae h.K h.J 512
 repeat'(first|refine gE ?_|(conv=>whnf);first|refine C8 (xg h.K h.J G H t) ?_)
 exact X0 (λz=>[B z]) ((by grind [kg]))
set_option maxHeartbeats 8000000
def dA(h:ab):Bool:=(bu h.w&&decide (h.S.length=h.w.T.length))&&fR h.a6
def dM(h:ab):Bool:=((((((lh h&&uW h)&&dA h)&&lV h)&&h.S.all bv)&&cr h)&&(fU h&&kg h))&&rQ h
theorem vg(h:ab)(X:ab.sml h)(Y:ab.wf h):zzA 73 false [.val (some 24) (ab.enc .V h)] .one [B (dM h)]:=by
 have M:=X;have O:=Y;obtain⟨u,w,b,j,P,y,C,E,F⟩:=X;obtain⟨-,-,-,-,Q,hwc,hwm,hwq,-⟩:=Y;have l:zR h:=u.1.2;have hpn:fe h<=1048576:=l.1;have R:h.M.length<=1048576:=P.1;have S:h.S.length<=1048576:=y.1;have hlq:h.a6.a1.length<=1048576:=E.1;have hlb:h.w.T.length<=1048576:=C.1.1;have d:=mz h.G u;have e:=mH (fe h) h.q ω w;have g:=m9 h.K h.J b j;have r:=BC h b l;have G:=lQ h.w C;have T:=pi h.a6 E;cases Z:aA h.G<;>rw[Z]at d
 ·refine fO 150 [(8,10,[67,68,69,70,71,72,73,74,75,76])] Tryz.func73 rfl ?_
  repeat'(first|refine gP ?_|(conv=>whnf);first|with_reducible refine Bf.N (λa=>?_) (λa=>?_)|refine C8 d ?_)
  all_goals first
   | exact X0 (λz=>[B z]) ((by unfold dM lh;rw[Z];simp))
   |(exfalso;omega)
 cases e2:bC (fe h) h.q<;>rw[e2]at e
 ·refine fO 150 [(8,10,[67,68,69,70,71,72,73,74,75,76])] Tryz.func73 rfl ?_
  repeat'(first|refine gP ?_|(conv=>whnf);first|with_reducible refine Bf.N (λa=>?_) (λa=>?_)|refine C8 d ?_|refine C8 e ?_)
  all_goals first
   | exact X0 (λz=>[B z]) ((by unfold dM lh;rw[e2];simp))
   |(exfalso;omega)
 cases H:bk h.K h.J<;>rw[H]at g
 ·refine fO 150 [(8,10,[67,68,69,70,71,72,73,74,75,76])] Tryz.func73 rfl ?_
  repeat'(first|refine gP ?_|(conv=>whnf);first|with_reducible refine Bf.N (λa=>?_) (λa=>?_)|refine C8 d ?_|refine C8 e ?_|refine C8 g ?_)
  all_goals first
   | exact X0 (λz=>[B z]) ((by unfold dM lh;rw[H];simp))
   |(exfalso;omega)
 have n:=Fb h b j l w H;cases e4:pages0 h<;>rw[e4]at n
 ·refine fO 150 [(8,10,[67,68,69,70,71,72,73,74,75,76])] Tryz.func73 rfl ?_
  repeat'(first|refine gP ?_|(conv=>whnf);first|with_reducible refine Bf.N (λa=>?_) (λa=>?_)|refine C8 d ?_|refine C8 e ?_|refine C8 g ?_|refine C8 n ?_)
  all_goals first
   | exact X0 (λz=>[B z]) ((by unfold dM lh;rw[e4];simp))
   |(exfalso;omega)
 cases e5:uW h<;>rw[e5]at r
 ·refine fO 150 [(8,10,[67,68,69,70,71,72,73,74,75,76])] Tryz.func73 rfl ?_
  repeat'(first|refine gP ?_|(conv=>whnf);first|with_reducible refine Bf.N (λa=>?_) (λa=>?_)|refine C8 d ?_|refine C8 e ?_|refine C8 g ?_|refine C8 n ?_|refine C8 r ?_)
  all_goals first
   | exact X0 (λz=>[B z]) ((by unfold dM ;rw[e5];simp))
   |(exfalso;omega)
 cases U:bu h.w<;>rw[U]at G
 ·refine fO 150 [(8,10,[67,68,69,70,71,72,73,74,75,76])] Tryz.func73 rfl ?_
  repeat'(first|refine gP ?_|(conv=>whnf);first|with_reducible refine Bf.N (λa=>?_) (λa=>?_)|refine C8 d ?_|refine C8 e ?_|refine C8 g ?_|refine C8 n ?_|refine C8 r ?_|refine C8 G ?_)
  all_goals first
   | exact X0 (λz=>[B z]) ((by unfold dM dA;rw[U];simp))
   |(exfalso;omega)
 by_cases V:h.S.length=h.w.T.length;rotate_left
 ·refine fO 150 [(8,10,[67,68,69,70,71,72,73,74,75,76])] Tryz.func73 rfl ?_
  repeat'(first|refine gP ?_|(conv=>whnf);first|with_reducible refine Bf.N (λa=>?_) (λa=>?_)|refine C8 d ?_|refine C8 e ?_|refine C8 g ?_|refine C8 n ?_|refine C8 r ?_|refine C8 G ?_)
  all_goals first
   | exact X0 (λz=>[B z]) ((by unfold dM dA;rw[U0 V];simp))
   |(exfalso;omega)
 cases e7:fR h.a6<;>rw[e7]at T
 ·refine fO 150 [(8,10,[67,68,69,70,71,72,73,74,75,76])] Tryz.func73 rfl ?_
  repeat'(first|refine gP ?_|(conv=>whnf);first|with_reducible refine Bf.N (λa=>?_) (λa=>?_)|refine C8 d ?_|refine C8 e ?_|refine C8 g ?_|refine C8 n ?_|refine C8 r ?_|refine C8 G ?_|refine C8 T ?_)
  all_goals first
   | exact X0 (λz=>[B z]) ((by unfold dM dA;rw[e7];simp))
   |(exfalso;omega)
 have hlay:lh h=true:=by grind [lh]
 have hmc:dA h=true:=by grind [dA]
 refine fO 150 [(8,10,[67,68,69,70,71,72,73,74,75,76])] Tryz.func73 rfl ?_
 repeat'(first|refine gB ?_|(conv=>whnf);first|with_reducible refine Bf.N (λa=>?_) (λa=>?_)|refine C8 d ?_|refine C8 e ?_|refine C8 g ?_|refine C8 n ?_|refine C8 r ?_|refine C8 G ?_|refine C8 T ?_)
 all_goals try(exfalso;omega)
 (conv=>whnf)
 refine CG (ι:=Nat) (λi=>[(1,.H .box (ab.enc .V h)),(3,.H .one [I ((i:Nat):Int)])]) (λi=>i<=h.a6.a1.length/\(h.a6.a1.take i).all (λx=>decide (x.b6<=h.b3))=true) (λi=>h.a6.a1.length - i) (0) ?_ ψ λi hi=>?_
 ·exact wB
 obtain⟨hi,ai⟩:=hi;by_cases li:i<h.a6.a1.length
 ·have p:=ao li
  repeat'(first|refine gE ?_|(conv=>whnf);first|with_reducible (first|refine CD (aa p) ?_|refine Bf.D (λa=>?_) (λa=>?_)))
  all_goals first
   | exact X0 (λz=>[B z]) ((by unfold dM lV;rw[gp p (U0 ω)];simp))
   | ((conv=>whnf);refine CE (i+1) ⟨ω,db p ai (O0 ω)⟩ ω ?_;(exact wB))
 have hsi:lV h=true:=nE ω ai
 repeat'(first|refine gE ?_|fail)
 (conv=>whnf)
 refine CG (ι:=Nat) (λk=>[(1,.H .box (ab.enc .V h)),(4,.H .one [I ((k:Nat):Int)])]) (λk=>k<=h.S.length/\(h.S.take k).all bv=true) (λk=>h.S.length - k) (0) ?_ ψ λk hk=>?_
 ·exact wB
 obtain⟨hk,ak⟩:=hk;by_cases lk:k<h.S.length
 ·have p:=ao lk
  have W:=nt (nth h.S k) (y.2 _ (am lk));cases e8:bv (nth h.S k)<;>rw[e8]at W
  ·repeat'(first|refine gE ?_|(conv=>whnf);first|with_reducible refine CD (aa p) ?_|refine C8 W ?_)
   exact X0 (λz=>[B z]) ((by grind [dM]))
  repeat'(first|refine gE ?_|(conv=>whnf);first|with_reducible refine CD (aa p) ?_|refine C8 W ?_)
  ((conv=>whnf);refine CE (k+1) ⟨ω,db p ak e8⟩ ω ?_;(exact wB))
 have hca:h.S.all bv=true:=nE ω ak;have q:=G3 h b j H R S (λo ho=>(Q.2 o ho).2.1);have c10:=Hd h M O H U ψ;have c11:=KV h.Z F;have c12:=xC h.Z F;have c13:=jQ h h.Z.Y.a5 b.1;have c14:=jQ h h.Z.Y.a4 b.1;by_cases hn:cr h=true;rotate_left
 ·have J:cr h=false:=by simpa using hn
  have c:=J;unfold cr at c;rw[X4]at c;cases L:fU h<;>rw[L]at q<;>cases e10:kg h<;>rw[e10]at c10
  all_goals
   repeat'(first|refine gE ?_|(conv=>whnf);first|with_reducible refine Bf.D (λa=>?_) (λa=>?_)|refine C8 (aH _ _ _) ?_|refine C8 q ?_|refine C8 c10 ?_)
   all_goals first
    | exact X0 (λz=>[B z]) ((by unfold dM;rw[J];simp))
    |(exfalso;omega)
 have c:=hn;unfold cr at c;rw[C0]at c;cases L:fU h<;>rw[L]at q
 ·repeat'(first|refine gE ?_|(conv=>whnf);first|with_reducible refine Bf.D (λa=>?_) (λa=>?_)|refine C8 (aH _ _ _) ?_|refine C8 q ?_)
  all_goals first
   | exact X0 (λz=>[B z]) ((by unfold dM;rw[L];simp))
   |(exfalso;omega)
 cases e10:kg h<;>rw[e10]at c10
 ·repeat'(first|refine gE ?_|(conv=>whnf);first|with_reducible refine Bf.D (λa=>?_) (λa=>?_)|refine C8 (aH _ _ _) ?_|refine C8 q ?_|refine C8 c10 ?_)
  all_goals first
   | exact X0 (λz=>[B z]) ((by unfold dM;rw[e10];simp))
   |(exfalso;omega)
 have K:dM h=rQ h:=by grind [dM]
 rw[K];unfold rQ;cases em:h.u
 ·repeat'(first|refine gE ?_|(conv=>whnf);first|with_reducible refine Bf.D (λa=>?_) (λa=>?_)|refine C8 (aH _ _ _) ?_|refine C8 q ?_|refine C8 c10 ?_|refine C8 c11 ?_|refine Bf.f em ?_)
  grind
 cases e12:jN h.Z<;>rw[e12]at c12
 all_goals
  repeat'(first|refine gE ?_|(conv=>whnf);first|with_reducible (first|refine Bf.D (λa=>?_) (λa=>?_)|refine Bf.D (λa=>?_) (λa=>?_))|refine C8 (aH _ _ _) ?_|refine C8 q ?_|refine C8 c10 ?_|refine C8 c12 ?_|refine C8 c13 ?_|refine C8 c14 ?_|refine Bf.t em ?_)
  all_goals first
   | exact X0 (λz=>[B z]) (ψ)
   |(exfalso;omega)
set_option maxHeartbeats 4000000
def sorted(xs:List Int):List Int:=xs.mergeSort λx y=>decide (x<=y)
theorem ye(xs:List Int):(sorted xs).length=xs.length:=List.length_mergeSort ..
theorem GQ{w a:World}{g:Nat}{d:Array Int}{h:Array Obj}{c:Array Value}{e:TypeId}{i:Nat × Nat}(j:w.heap[g]? = some (.cells c e i))(k:a=Sort.grow (Sort.putRow (Value.int .i64) (Sort.ahead w n) g 0 d) h) :
  a.os=w.os/\a.tape=w.tape/\a.output=w.output/\w.heap.size<=a.heap.size/\(∀b,b<w.heap.size->b≠g->a.heap[b]? = w.heap[b]?)/\a.heap[g]? = some (.cells (Sort.putCells (Value.int .i64) 0 d c) e i):=by
 subst k;have f:g<w.heap.size:=ψ
 have l:∀b,b<w.heap.size->(Sort.grow (Sort.putRow (Value.int .i64) (Sort.ahead w n) g 0 d) h).heap[b]? = if g=b then(w.heap[b]?).map (Sort.onCells (Sort.putCells (Value.int .i64) 0 d)) else w.heap[b]?:=λb o=>by grind [Go.Sort.heap_grow_old,Go.Sort.putRow,Go.Sort.mapBlock,Go.Sort.ahead]
 refine⟨rfl,rfl,rfl,?_,λb o p=>?_,?_⟩
 ·grind
 ·grind
 rw[l g f,CC rfl,j];rfl
theorem Qy(d:Array Int)(c:Array Value)(q:Nat):(Sort.putCells (Value.int .i64) 0 d c)[q]? = if q<d.size then(c[q]?).map (λ_=>.int .i64 d[q]!) else c[q]?:=by grind [Go.Sort.putCells]
theorem row1{w:World}{S Y:af}{c:C}{v:Value}(h:eg w S Y c v):cY w S Y [c] (λ_=>v):=by
 refine⟨λ_=>Y,λj a b=>?_,λ_ _ _ _ h=>h,ψ⟩
 all_goals grind
def TT(Y:af):Nat->af
 | 0=>Y
 | _+1=>NO
variable{j:Nat}
theorem MC(xs:List Int)(a:j<xs.length):xs.toArray[j]! = xs[j]:=ψ
theorem PP(xs:List Int)(hl:xs.length<=1048576*64):zzB 383 false [.mut none (aF .own xs)] [.mut none (aF .own (sorted xs))] (.tup []) []:=by
 refine⟨⟨_,Tryz.func383,by kernel_rfl,by kernel_rfl⟩,λw S V vs hS hV hVV N=>?_⟩
 match vs,N with
 | [v],⟨N,_⟩=>
  have t:=bI.rep1 (show bI w S (V 0) none [C.s .own (xs.map (rI .own))] v from N);generalize F:C.s .own (xs.map (rI .own))=cc at t;cases t with
  | nil _ o a ho=>
   cases hcc0:xs with
   | cons x xs'=>grind
   | nil=>
    refine(Tryz.slices_Sort_int_none a 0 w).mono λe p ⟨O,B⟩=>?_
    subst B;refine⟨.tuple #[],O,Cc _ _,NO,λ_=>NO,NO,λ_ _ h=>h.elim,λ_ _ _ h=>h.elim,λ_ _ h=>h.elim,λ_ _ _ _ _ h=>h.elim,λ_ _ _ h=>h.elim,λ_ _ h=>h.elim,λ_ _ _ h=>h.elim,⟨#[],rfl,trivial,rfl⟩,cY.nil _ _ _ _,⟨⟨rfl,λ_=>.slice a 0 0,rfl,row1 (by rw[show sorted []=[] from List.mergeSort_nil ..];exact .nil _ .own _ trivial)⟩,trivial⟩⟩
  | own _ o g k n D rows u f ho hn hk G H hF hu hf hd hc=>
   cases F;have P:n=xs.length:=ψ
   have Q:0<xs.length:=ω
   have R:k=1:=by
    have:=hk (rI .own xs[0]) ψ;exact this.symm
   subst R P;have y:∀j (l:j<xs.length),cel w g j=some (.int .i64 xs[j]):=λj l=>by
    have h1:=hu j ω;have T:=hc j 0 (rI .own xs[j]) (I xs[j]) ψ rfl;rw[Nat.mul_one,Nat.add_zero]at T;rw[h1];generalize u j=z at T;cases T
    rfl
   have U:g<w.heap.size:=ψ
   obtain⟨c,e0,fr,hg,-⟩:=Sort.cells_of_cell? (y 0 Q);have hH:Sort.Holds (Value.int .i64) w g 0 xs.toArray:=λj l=>by
    have J:j<xs.length:=by simpa using l
    refine⟨?_,?_⟩
    ·rw[MC xs J,Z6];exact y j J
    rw[Z6];exact X0 Prod.fst (hF j ω).2.2
   refine(Tryz.slices_Sort_int g 0 D xs w hH U ω).mono λe p ⟨O,m,os,B⟩=>?_
   obtain⟨q1,q2,q3,q4,q5,q6⟩:=GQ hg B;have hsl:=ye xs;have hcel:∀q,cel w g q=c[q]?:=λq=>by grind [Go.World.cell?]
   have W:∀q,cel p g q=if q<xs.length then(c[q]?).map (λ_=>.int .i64 (sorted xs).toArray[q]!) else c[q]?:=λq=>by grind [Qy,Go.World.cell?,sorted]
   have d:∀q (X:q<xs.length),cel p g q=some (.int .i64 ((sorted xs)[q]'(ω))):=ψ
   have K:∀q,fro p g q=fro w g q:=λq=>by
    refine Prod.ext ?_ ?_
    ·grind [Go.World.frozen?]
    grind [mp,Go.Sort.putCells]
   have hother:∀b,b<w.heap.size->b≠g->∀o,cel p b o=cel w b o/\fro p b o=fro w b o:=λb hb L o=>by grind [Go.World.cell?,Go.World.frozen?,mp]
   have E:bK (λb o=>∃i,V i b o) w p:=by
    refine⟨q1,q2,q3,q4,ψ,λb o hb hn=>?_,λb o hb hn=>?_⟩
    all_goals grind
   refine⟨.tuple #[],O,E,NO,TT (V 0),NO,λ_ _ h=>h.elim,λi b o h=>?_,λ_ _ h=>h.elim,λi i' L b o h h'=>?_,λ_ _ _ h=>h.elim,λ_ _ h=>h.elim,λ_ _ _ _ h=>h.elim,⟨#[],rfl,trivial,rfl⟩,cY.nil _ _ _ _,⟨⟨rfl,λ_=>.slice (some ⟨g,0,none⟩) xs.length D,rfl,row1 ?_⟩,trivial⟩⟩
   ·cases i with
    | zero=>exact .inl ⟨0,h⟩
    | succ i=>exact h.elim
   ·cases i with
    | zero=>
     cases i' with
     | zero=>exact L rfl
     | succ i'=>exact h'.elim
    | succ i=>exact h.elim
   show eg p _ (V 0) _ _;refine .own _ .own g 1 xs.length D _ (λq=>(cel p g q).getD undef) (λ_=>NO) trivial ψ (λr hr=>by obtain⟨z,-,rfl⟩:=O4.1 hr;rfl) G H (λq X=>?_) (λq X=>?_) (λ_ _ _ _ h=>h.elim) (λ_ _ _ _ _ _ _ h=>h.elim) (λi j r c2 M l=>?_)
   ·obtain⟨a1,⟨z,a2,a3⟩,a4⟩:=hF q X
    refine⟨a1,?_,(K q).trans a4⟩;by_cases Y:q<xs.length
    ·exact⟨_,d q Y,rfl⟩
    grind
   ·grind
   rw[O3]at M;have Z:i<(sorted xs).length:=ψ
   rw[O2 Z]at M;simp only[I5,Z0]at M;subst M
   match j,l with
   | 0,l=>
    simp only[rI,List.getElem?_cons_zero,Z0]at l;subst l;simp only[Nat.mul_one,Nat.add_zero,d i ω,Option.getD_some];exact .v _ _ rfl
   | j+1,l=>simp[rI]at l
  | _=>cases F
set_option maxHeartbeats 8000000
def lg(s:ax)(k:Nat):Int:=16*s.Q+(k:Nat)*csz s.d
def eK(s:ax)(n:Nat):List Int:=((List.range n).filter λk=>aW s.b1 (k:Nat)).map (lg s)
variable{s:ax}
theorem DU(h:aW s.b1 (n:Nat)=true):eK s (n+1)=eK s n++[lg s n]:=by grind [List.range_succ,eK]
theorem E8(h:aW s.b1 (n:Nat)=false):eK s (n+1)=eK s n:=by grind [List.range_succ,eK]
theorem rH(s:ax)(n:Nat):(eK s n).length<=n:=by grind [eK]
def fH(sp:List ax):List Int:=sp.flatMap λs=>eK s (slots s.d).toNat
def live0(sp:List ax)(la:List ay):List Int:=fH sp++la.map λl=>16*l.Q
def oB(sp:List ax)(la:List ay):List Int:=sorted (live0 sp la)
theorem sZ(k:Int):0<=slots k/\slots k<=16:=by grind [slots]
def Bb{k:Int}(h:0<=k/\k<=3):slots k*csz k=16:=by
 obtain rfl|rfl|rfl|rfl:k=0\/k=1\/k=2\/k=3:=ω
 all_goals decide
theorem yu(h:sp[i]? = some s):fH (sp.take (i+1))=fH (sp.take i)++eK s (slots s.d).toNat:=by grind [V5,fH]
def yP(s:ax)(k:Nat)(a:bi s=true)(i:(k:Int)<slots s.d):zzA 339 false [.val (some 3) (ax.enc .V s),.val none [I (k:Nat)]] .one [I (lg s k)]:=by
 have b:=iA s;have c:=dU s.d;have g:=iX s.d;rw[a]at b;have d:=aE a;have j:=sZ s.d;rcases bW ⟨d.2.2.1,d.2.2.2⟩ with e|e|e|e<;>rw[e]at c
 all_goals
  refine fO 26 [(3,9,[17,18,19,20,21,22,23,24,25])] Tryz.func339 rfl ?_
  repeat'(first|refine gE ?_|(conv=>whnf);first|with_reducible refine Bf.D (λh=>?_) (λh=>?_)|refine C8 b ?_|refine C8 c ?_|refine C8 g ?_|refine C8 (aP _ 0 _) ?_)
  all_goals exact X0 (λz=>[I z]) (by unfold lg;rw[e];omega)
theorem xQ(sp:List ax)(la:List ay)(c:d6 sp)(d:dx la)(a:bk sp la=true):zzA 238 false [.val none (cq .V sp),.val none (bU .V la)] .one (aF .own (oB sp la)):=by
 have D:=c.1;have E:=d.1;have B:=mn sp la c d;rw[a]at B;obtain⟨o,F,-⟩:=dY a;refine fP 56 [(383,[1])] [] Tryz.func238 rfl ?_ (.inr (bM _))
 repeat'(first|refine gP ?_|(conv=>whnf);first|refine C8 B ?_)
 (conv=>whnf)
 refine CG (ι:=Nat × List Int) (λi=>[(1,.H .one (bU .V la)),(5,.H .one (aF .own i.2)),(16,.H .one (cq .V sp)),(17,.H .one [I (sp.length)]),(18,.H .one [I ((i.1:Nat):Int)])]) (λi=>i.1<=sp.length/\i.2=fH (sp.take i.1)/\i.2.length<=16*i.1) (λi=>sp.length - i.1) ((0,[])) ?_ (⟨W0 _,rfl,W0 _⟩) λi e=>?_
 ·exact wB
 obtain⟨i,S⟩:=i;obtain⟨e,p,G⟩:=e;simp only at e p G |-;by_cases j:i<sp.length
 ·have n:=ao j
  have g:bi (nth sp i)=true:=Q3 o j;have H:=sZ (nth sp i).d;have q:=fN g
  repeat'(first|refine gE ?_|(conv=>whnf);first|with_reducible refine CD (aa n) ?_)
  (conv=>whnf)
  refine CG (ι:=Nat × List Int) (λk=>[(1,.H .one (bU .V la)),(5,.H .one (aF .own k.2)),(7,.H .box (ax.enc .V (nth sp i))),(8,.H .one [I ((k.1:Nat):Int)]),(16,.H .one (cq .V sp)),(17,.H .one [I (sp.length)]),(18,.H .one [I ((i:Nat):Int)])]) (λk=>k.1<=(slots (nth sp i).d).toNat/\k.2=S++eK (nth sp i) k.1) (λk=>(slots (nth sp i).d).toNat - k.1) ((0,S)) ?_ (⟨W0 _,by simp[eK]⟩) λk t=>?_
  ·exact wB
  obtain⟨k,S2⟩:=k;obtain⟨t,b⟩:=t;simp only at t b |-;have J:=rH (nth sp i) k;have h:S2.length=S.length+(eK (nth sp i) k).length:=ψ
  by_cases M:k<(slots (nth sp i).d).toNat
  ·have u:=nw (nth sp i).b1 (k:Nat) q.2
   cases K:aW (nth sp i).b1 (k:Nat)<;>rw[K]at u
   ·repeat'(first|refine gE ?_|(conv=>whnf);first|refine C8 (iX _) ?_|refine C8 u ?_)
    ((conv=>whnf);refine CE (k+1,S2) ⟨(by simp only;omega),(by grind [E8])⟩ (by simp only;omega) ?_;(exact wB))
   repeat'(first|refine gE ?_|(conv=>whnf);first|refine C8 (iX _) ?_|refine C8 u ?_|refine C8 (yP (nth sp i) k g ω) ?_|refine CU cA (λr w=>by rw[O1.1 w];rfl) (by simp[bm,eH]) (by simp;omega) (by show _*8<=_;simp;omega) rfl ?_)
   ((conv=>whnf)
    refine CE (k+1,S2++[lg (nth sp i) k]) ⟨(by simp only;omega),(by grind [DU])⟩ (by simp only;omega) ?_
    (repeat'(first|exact trivial|rfl|exact CL rfl (CL (X0 (C.s dJ.own) (by simp[rI])) trivial)|refine CL ?_ ?_)))
  obtain rfl:k=(slots (nth sp i).d).toNat:=ω
  repeat'(first|refine gE ?_|(conv=>whnf);first|refine C8 (iX _) ?_)
  ((conv=>whnf);refine CE (i+1,S2) ⟨(by simp only;omega),(by grind [yu]),(by simp only;omega)⟩ (by simp only;omega) ?_;(exact wB))
 obtain rfl:i=sp.length:=ω
 rw[C5]at p
 repeat'(first|refine gE ?_|fail)
 (conv=>whnf)
 refine CG (ι:=Nat × List Int) (λi=>[(5,.H .one (aF .own i.2)),(40,.H .one (bU .V la)),(41,.H .one [I (la.length)]),(42,.H .one [I ((i.1:Nat):Int)])]) (λi=>i.1<=la.length/\i.2=S++(la.take i.1).map (λl=>16*l.Q)) (λi=>la.length - i.1) ((0,S)) ?_ ψ λi e=>?_
 ·exact wB
 obtain⟨i,S2⟩:=i;obtain⟨y,b⟩:=e;simp only at y b |-;have h:S2.length=S.length+i:=ψ
 by_cases j:i<la.length
 ·have n:=ao j
  have L:=uF a n
  repeat'(first|refine gE ?_|(conv=>whnf);first|with_reducible refine CD (aa n) ?_|refine CU cA (λr w=>by rw[O1.1 w];rfl) (by simp[bm,eH]) (by simp;omega) (by show _*8<=_;simp;omega) rfl ?_)
  ((conv=>whnf)
   refine CE (i+1,S2++[16*(nth la i).Q]) ⟨(by simp only;omega),(by grind [V5])⟩ (by simp only;omega) ?_
   (repeat'(first|exact trivial|rfl|exact CL rfl (CL (X0 (C.s dJ.own) (by simp[rI];omega)) trivial)|refine CL ?_ ?_)))
 obtain rfl:i=la.length:=ω
 rw[C5]at b
 repeat'(first|refine gE ?_|(conv=>whnf);first|refine CK (PP S2 ω) (.inl rfl) ?_)
 show _=aF .own (sorted (fH sp++la.map λl=>16*l.Q));rw[<-p,<-b];rfl
def qv(b:List (Int × Value))(L:List Int):Prop:=∀a,mlook b a (.int .i64 0)=.int .i64 (L.count a:Nat)
theorem Kl(c:List (Int × Value))(a b:Int)(v d:Value):mlook (mput c a v) b d=if a=b then v else mlook c b d:=by
 induction c with
 | nil=>grind [mput,mlook]
 | cons p c e=>
  grind [mput,mlook]
def inc(b:List (Int × Value))(L:List Int)(a:Int):List (Int × Value):=mput b a (.int .i64 ((L.count a:Nat)+1))
def KI:qv [] []:=λ_=>rfl
theorem qb{d:List (Int × Value)}{L:List Int}(h:qv d L)(a:Int):qv (inc d L a) (L++[a]):=λb=>by
 unfold inc;rw[Kl,C6];by_cases c:a=b
 ·grind
 rw[C9 c,h b,List.count_singleton,C9 (by simpa using c)];rfl
theorem DQ(h:ab)(d:d6 h.K)(e:dx h.J)(b:List (Int × Value))(L:List Int)(a c:Int)(g:qv b L)(n:L.length<=1000000000) :
  zzB 236 false [.val none [I a],.val none [I c],.ptr [.m b],.ptr (ab.enc .V h)] [.val none [I a],.val none [I c],.ptr [.m (inc b L a)],.ptr (ab.enc .V h)] .one [B (d3 h a c)]:=by
 have k:=iJ h.K h.J a d e;obtain⟨i,-⟩:=ou h.K h.J a;have l:L.count a<=L.length:=List.count_le_length;unfold d3;generalize denotes h.K h.J a=w at k i |-;refine fM 41 [] [] [(0,0),(0,0),(0,0),(0,0)] Tryz.func236 rfl (λu q=>?_)
 repeat'(first|refine gP ?_|(conv=>whnf);first|with_reducible (first|refine Bf.D (λj=>?_) (λj=>?_)|refine Bf.E (λj=>?_) (λj=>?_))|refine Ml.mk (g a) ?_|refine Mu.mk (es':=inc b L a) rfl ?_|refine C8 k ?_|refine CN (i (by assumption)).1 (aa (ao (i (by assumption)).2)) ?_)
 all_goals
  refine CJ rfl ?_ ?_
  ·exact X0 (λz=>[B z]) (ψ)
  exact wB
set_option maxHeartbeats 8000000
def sY(h:ab)(a:aO):Bool:=ia h a&&decide (a.b6<=h.b3)
def mN(h:ab):List Int:=((cK h++h.a6.a1.map (·.Addr))++aN h.w)++h.M.map (·.Addr)
def kj(h:ab):Bool:=((h.S.all (fj h)&&h.a6.a1.all (sY h))&&(aN h.w).all (kO h))&&(oB h.K h.J).all λa=>decide ((mN h).count a=1)
theorem P8(h1:h.S.all (fj h)=false):kj h=false:=by grind [kj]
theorem HU(h1:h.a6.a1.all (sY h)=false):kj h=false:=by grind [kj]
theorem Qz(h1:(aN h.w).all (kO h)=false):kj h=false:=by grind [kj]
theorem Qo(h1:((oB h.K h.J).all λa=>decide ((mN h).count a=1))=false):kj h=false:=by grind [kj]
theorem Ko(h1:sp.length<=1048576)(a:la.length<=1048576):(oB sp la).length<=100000000:=by
 have b:∀(l:List ax),(fH l).length<=16*l.length:=by
  intro l
  induction l with
  | nil=>exact W0 _
  | cons s l c=>
   have e:fH (s::l)=eK s (slots s.d).toNat++fH l:=by grind [fH]
   have d:=sZ s.d
   grind [rH]
 grind [ye,oB,live0]
theorem xR(h:ab)(hs:ab.sml h)(P:bk h.K h.J=true)(G:bu h.w=true)(Z:∀c∈h.S,bv c=true):zzA 82 false [.val (some 24) (ab.enc .V h)] .one [B (kj h)]:=by
 obtain⟨-,-,p,r,hso,hsc,hsm,hsq,-⟩:=hs;have hlo:h.M.length<=1048576:=hso.1;have hlc:h.S.length<=1048576:=hsc.1;have hlq:h.a6.a1.length<=1048576:=hsq.1;have hfl:=sB G;have t:kj h=false->[B false]=[B (kj h)]:=λe=>by rw[e]
 refine fP 114 [(236,[0,0,2,2])] [] Tryz.func82 rfl ?_
 repeat'(first|refine gP ?_|fail)
 (conv=>whnf)
 refine CG (ι:=Nat × List (Int × Value) × List Int) (λi=>[(1,.H .box (ab.enc .V h)),(3,.H .box [.m i.2.1]),(4,.fn 236 [3,1]),(22,.H .one (pm .V h.S)),(23,.H .one [I (h.S.length)]),(24,.H .one [I ((i.1:Nat):Int)])]) (λi=>i.1<=h.S.length/\qv i.2.1 i.2.2/\i.2.2=((h.S.take i.1).flatMap λc=>c.a.flatten)/\(h.S.take i.1).all (fj h)=true/\i.2.2.length<=32*i.1) (λi=>h.S.length - i.1) ((0,[],[])) ?_ (⟨W0 _,KI,rfl,rfl,W0 _⟩) λi hi=>?_
 ·exact wB
 obtain⟨i,es,L⟩:=i;obtain⟨hi,Q,hL,ai,hb⟩:=hi;simp only at hi Q hL ai hb |-;by_cases li:i<h.S.length
 ·have W:=ao li
  obtain⟨h4,h8⟩:=uO (Z _ (am li))
  repeat'(first|refine gE ?_|(conv=>whnf);first|with_reducible refine CD (aa W) ?_)
  (conv=>whnf)
  refine CG (ι:=Nat × List (Int × Value) × List Int) (λk=>[(1,.H .box (ab.enc .V h)),(3,.H .box [.m k.2.1]),(4,.fn 236 [3,1]),(22,.H .one (pm .V h.S)),(23,.H .one [I (h.S.length)]),(24,.H .one [I ((i:Nat):Int)]),(29,.H .one (jl .V (nth h.S i).a)),(30,.H .one [I ((nth h.S i).a.length)]),(31,.H .one [I ((k.1:Nat):Int)])]) (λk=>k.1<=(nth h.S i).a.length/\qv k.2.1 k.2.2/\k.2.2=L++((nth h.S i).a.take k.1).flatten/\dn k.1 (tf h (nth h.S i))=true/\k.2.2.length<=L.length+8*k.1) (λk=>(nth h.S i).a.length - k.1) ((0,es,L)) ?_ (⟨W0 _,Q,by simp,rfl,by simp⟩) λk hk=>?_
  ·exact wB
  obtain⟨k,es3,X⟩:=k;obtain⟨hk,F,R,ak,hb3⟩:=hk;simp only at hk F R ak hb3 |-;by_cases lk:k<(nth h.S i).a.length
  ·have hy:=ao lk
   have hl8:=h8 _ (am lk)
   repeat'(first|refine gE ?_|(conv=>whnf);first|with_reducible (first|refine CD (aa W) ?_|refine CD (aa hy) ?_))
   (conv=>whnf)
   refine CG (ι:=Nat × List (Int × Value) × List Int) (λj=>[(1,.H .box (ab.enc .V h)),(3,.H .box [.m j.2.1]),(4,.fn 236 [3,1]),(7,.H .one [I ((k:Nat):Int)]),(22,.H .one (pm .V h.S)),(23,.H .one [I (h.S.length)]),(24,.H .one [I ((i:Nat):Int)]),(29,.H .one (jl .V (nth h.S i).a)),(30,.H .one [I ((nth h.S i).a.length)]),(31,.H .one [I ((k:Nat):Int)]),(36,.H .one (aF .V (nth (nth h.S i).a k))),(37,.H .one [I ((nth (nth h.S i).a k).length)]),(38,.H .one [I ((j.1:Nat):Int)])]) (λj=>j.1<=(nth (nth h.S i).a k).length/\qv j.2.1 j.2.2/\j.2.2=X++(nth (nth h.S i).a k).take j.1/\((nth (nth h.S i).a k).take j.1).all (λa=>d3 h a (k:Nat))=true) (λj=>(nth (nth h.S i).a k).length - j.1) ((0,es3,X)) ?_ ψ λj hj=>?_
   ·exact wB
   obtain⟨j,es4,S⟩:=j;obtain⟨hj,l,T,Y⟩:=hj;simp only at hj l T Y |-;have hl4:S.length=X.length+j:=ψ
   by_cases lj:j<(nth (nth h.S i).a k).length
   ·have d:=ao lj
    have b:=DQ h p r es4 S (nth (nth (nth h.S i).a k) j) (k:Nat) l ω;cases o:d3 h (nth (nth (nth h.S i).a k) j) (k:Nat)<;>rw[o]at b
    ·repeat'(first|refine gE ?_|(conv=>whnf);first|with_reducible refine CD (aa d) ?_|refine CK (b) (.inl rfl) ?_)
     exact t (P8 (gp W (by unfold fj;exact cI lk (gp d o))))
    repeat'(first|refine gE ?_|(conv=>whnf);first|with_reducible refine CD (aa d) ?_|refine CK (b) (.inl rfl) ?_)
    ((conv=>whnf)
     refine CE (j+1,inc es4 S (nth (nth (nth h.S i).a k) j),S++[nth (nth (nth h.S i).a k) j]) ⟨(by simp only;omega),qb l _,(by grind [V5]),db d Y o⟩ (by simp only;omega) ?_
     (exact wA))
   obtain rfl:j=(nth (nth h.S i).a k).length:=ω
   rw[C5]at T Y
   repeat'(first|refine gE ?_|fail)
   ((conv=>whnf);refine CE (k+1,es4,S) ⟨(by simp only;omega),l,(by grind [xq]),bQ ak Y,(by simp only;omega)⟩ (by simp only;omega) ?_;(exact wB))
  obtain rfl:k=(nth h.S i).a.length:=ω
  rw[C5]at R
  repeat'(first|refine gE ?_|fail)
  ((conv=>whnf);refine CE (i+1,es3,X) ⟨(by simp only;omega),F,(by grind [vf]),db W ai ak,(by simp only;omega)⟩ (by simp only;omega) ?_;(exact wB))
 obtain rfl:i=h.S.length:=ω
 rw[C5]at hL ai
 repeat'(first|refine gE ?_|fail)
 (conv=>whnf)
 refine CG (ι:=Nat × List (Int × Value) × List Int) (λq=>[(1,.H .box (ab.enc .V h)),(3,.H .box [.m q.2.1]),(4,.fn 236 [3,1]),(52,.H .one (cB .V h.a6.a1)),(53,.H .one [I (h.a6.a1.length)]),(54,.H .one [I ((q.1:Nat):Int)])]) (λq=>q.1<=h.a6.a1.length/\qv q.2.1 q.2.2/\q.2.2=L++(h.a6.a1.take q.1).map (·.Addr)/\(h.a6.a1.take q.1).all (sY h)=true) (λq=>h.a6.a1.length - q.1) ((0,es,L)) ?_ ψ λq u=>?_
 ·exact wB
 obtain⟨q,es5,H⟩:=q;obtain⟨w,y,E,aq⟩:=u;simp only at w y E aq |-;have hl5:H.length=L.length+q:=ψ
 by_cases U:q<h.a6.a1.length
 ·have d:=ao U
  have b:=DQ h p r es5 H (nth h.a6.a1 q).Addr (nth h.a6.a1 q).d y ω;cases o:d3 h (nth h.a6.a1 q).Addr (nth h.a6.a1 q).d<;>rw[o]at b
  ·repeat'(first|refine gE ?_|(conv=>whnf);first|with_reducible (first|refine CD (aa d) ?_|refine Bf.D (λu=>?_) (λu=>?_))|refine CK (b) (.inl rfl) ?_)
   all_goals exact t (HU (gp d (by unfold sY ia;rw[o];rfl)))
  repeat'(first|refine gE ?_|(conv=>whnf);first|with_reducible (first|refine CD (aa d) ?_|refine Bf.D (λu=>?_) (λu=>?_))|refine CK (b) (.inl rfl) ?_)
  all_goals first
   |exact t (HU (gp d (by unfold sY ia;rw[o,U0 ω];rfl)))
   | ((conv=>whnf)
      refine CE (q+1,inc es5 H (nth h.a6.a1 q).Addr,H++[(nth h.a6.a1 q).Addr]) ⟨(by simp only;omega),qb y _,(by simp only;rw[E,V5,d,X5,W5];rfl),db d aq (by unfold sY ia;rw[o,O0 ω];rfl)⟩ (by simp only;omega) ?_
      (exact wA))
 obtain rfl:q=h.a6.a1.length:=ω
 rw[C5]at E aq
 repeat'(first|refine gE ?_|(conv=>whnf);first|refine C8 (zH h.w hsm) ?_)
 (conv=>whnf)
 refine CG (ι:=Nat × List (Int × Value) × List Int) (λq=>[(1,.H .box (ab.enc .V h)),(3,.H .box [.m q.2.1]),(4,.fn 236 [3,1]),(75,.H .one (aF .own (aN h.w))),(76,.H .one [I ((aN h.w).length)]),(77,.H .one [I ((q.1:Nat):Int)])]) (λq=>q.1<=(aN h.w).length/\qv q.2.1 q.2.2/\q.2.2=H++(aN h.w).take q.1/\((aN h.w).take q.1).all (kO h)=true) (λq=>(aN h.w).length - q.1) ((0,es5,H)) ?_ ψ λq u=>?_
 ·exact wB
 obtain⟨q,es6,J⟩:=q;obtain⟨w,C,K,aq6⟩:=u;simp only at w C K aq6 |-;have hl6:J.length=H.length+q:=ψ
 by_cases U:q<(aN h.w).length
 ·have d:=ao U
  have b:=DQ h p r es6 J (nth (aN h.w) q) (-1) C ω;cases o:d3 h (nth (aN h.w) q) (-1)<;>rw[o]at b
  ·repeat'(first|refine gE ?_|(conv=>whnf);first|with_reducible refine CD (aa d) ?_|refine CH rfl (aa d) rfl ?_|refine CK (b) (.inl rfl) ?_)
   exact t (Qz (gp d o))
  repeat'(first|refine gE ?_|(conv=>whnf);first|with_reducible refine CD (aa d) ?_|refine CH rfl (aa d) rfl ?_|refine CK (b) (.inl rfl) ?_)
  ((conv=>whnf)
   refine CE (q+1,inc es6 J (nth (aN h.w) q),J++[nth (aN h.w) q]) ⟨(by simp only;omega),qb C _,(by grind [V5]),db d aq6 o⟩ (by simp only;omega) ?_
   (exact wA))
 obtain rfl:q=(aN h.w).length:=ω
 rw[C5]at K aq6
 repeat'(first|refine gE ?_|fail)
 (conv=>whnf)
 refine CG (ι:=Nat × List (Int × Value) × List Int) (λq=>[(1,.H .box (ab.enc .V h)),(3,.H .box [.m q.2.1]),(87,.H .one (pG .V h.M)),(88,.H .one [I (h.M.length)]),(89,.H .one [I ((q.1:Nat):Int)])]) (λq=>q.1<=h.M.length/\qv q.2.1 q.2.2/\q.2.2=J++(h.M.take q.1).map (·.Addr)) (λq=>h.M.length - q.1) ((0,es6,J)) ?_ ψ λq u=>?_
 ·exact wB
 obtain⟨q,es7,M⟩:=q;obtain⟨w,g,O⟩:=u;simp only at w g O |-;have hl7:M.length=J.length+q:=ψ
 by_cases U:q<h.M.length
 ·have d:=ao U
  have hcl:M.count (nth h.M q).Addr<=M.length:=List.count_le_length
  repeat'(first|refine gE ?_|(conv=>whnf);first|with_reducible refine CD (aa d) ?_|refine Ml.mk (g _) ?_|refine Mu.mk (es':=inc es7 M (nth h.M q).Addr) rfl ?_)
  ((conv=>whnf)
   refine CE (q+1,inc es7 M (nth h.M q).Addr,M++[(nth h.M q).Addr]) ⟨(by simp only;omega),qb g _,(by grind [V5])⟩ (by simp only;omega) ?_
   (exact wA))
 obtain rfl:q=h.M.length:=ω
 rw[C5]at O;have V:M=mN h:=by rw[O,K,E,hL];rfl
 have hlv:=Ko p.1 r.1
 repeat'(first|refine gE ?_|(conv=>whnf);first|refine C8 (xQ h.K h.J p r P) ?_)
 (conv=>whnf)
 refine CG (ι:=Nat) (λn=>[(3,.H .box [.m es7]),(103,.H .one (aF .own (oB h.K h.J))),(104,.H .one [I ((oB h.K h.J).length)]),(105,.H .one [I ((n:Nat):Int)])]) (λn=>n<=(oB h.K h.J).length/\((oB h.K h.J).take n).all (λa=>decide ((mN h).count a=1))=true) (λn=>(oB h.K h.J).length - n) (0) ?_ ψ λn hn=>?_
 ·exact wB
 obtain⟨hn,an⟩:=hn;by_cases ln:n<(oB h.K h.J).length
 ·have d:=ao ln
  rw[V]at g
  repeat'(first|refine gE ?_|(conv=>whnf);first|with_reducible (first|refine CD (aa d) ?_|refine Bf.N (λu=>?_) (λu=>?_))|refine CH rfl (aa d) rfl ?_|refine Ml.mk (g _) ?_)
  all_goals first
   |exact t (Qo (gp d (U0 ω)))
   | ((conv=>whnf);refine CE (n+1) ⟨ω,db d an (O0 ω)⟩ ω ?_;(exact wB))
 repeat'(first|refine gE ?_|fail)
 exact X0 (λz=>[B z]) ((by grind [kj]))
set_option maxHeartbeats 8000000
def k7(h:ab):Bool:=(((((((aA h.G&&bC (fe h) h.q)&&bk h.K h.J)&&(pages0 h&&oJ h))&&dA h)&&h.S.all bv)&&(fU h&&kj h))&&cr h)&&rQ h
theorem ko(h:ab)(S:ab.sml h):zzA 23 false [.val (some 24) (ab.enc .V h)] .one [B (k7 h)]:=by
 have G:=S;obtain⟨n,o,b,g,H,p,q,J,r⟩:=S;have u:zR h:=n.1.2;have hpn:fe h<=1048576:=u.1;have K:h.M.length<=1048576:=H.1;have L:h.S.length<=1048576:=p.1;have hlb:h.w.T.length<=1048576:=q.1.1;have hlp:h.Z.Y.U.length<=1048576:=r;have d:=q7 h.G n;have e:=qu (fe h) h.q ω o;have i:=mn h.K h.J b g;have w:=lN h.w q;have M:=vw h.a6 J;cases T:aA h.G<;>rw[T]at d
 ·refine fO 154 [] Tryz.func23 rfl ?_
  repeat'(first|refine gP ?_|(conv=>whnf);first|with_reducible refine Bf.N (λa=>?_) (λa=>?_)|refine C8 d ?_)
  all_goals first
   | exact X0 (λz=>[B z]) ((by unfold k7 ;rw[T];simp))
   |(exfalso;omega)
 cases U:bC (fe h) h.q<;>rw[U]at e
 ·refine fO 154 [] Tryz.func23 rfl ?_
  repeat'(first|refine gP ?_|(conv=>whnf);first|with_reducible refine Bf.N (λa=>?_) (λa=>?_)|refine C8 d ?_|refine C8 e ?_)
  all_goals first
   | exact X0 (λz=>[B z]) ((by unfold k7 ;rw[U];simp))
   |(exfalso;omega)
 cases F:bk h.K h.J<;>rw[F]at i
 ·refine fO 154 [] Tryz.func23 rfl ?_
  repeat'(first|refine gP ?_|(conv=>whnf);first|with_reducible refine Bf.N (λa=>?_) (λa=>?_)|refine C8 d ?_|refine C8 e ?_|refine C8 i ?_)
  all_goals first
   | exact X0 (λz=>[B z]) ((by unfold k7 ;rw[F];simp))
   |(exfalso;omega)
 have j:=DE h b g u o F;cases V:(pages0 h&&oJ h)<;>rw[V]at j
 ·refine fO 154 [] Tryz.func23 rfl ?_
  repeat'(first|refine gP ?_|(conv=>whnf);first|with_reducible refine Bf.N (λa=>?_) (λa=>?_)|refine C8 d ?_|refine C8 e ?_|refine C8 i ?_|refine C8 j ?_)
  all_goals first
   | exact X0 (λz=>[B z]) ((by unfold k7 ;rw[V];simp))
   |(exfalso;omega)
 cases O:bu h.w<;>rw[O]at w
 ·refine fO 154 [] Tryz.func23 rfl ?_
  repeat'(first|refine gP ?_|(conv=>whnf);first|with_reducible refine Bf.N (λa=>?_) (λa=>?_)|refine C8 d ?_|refine C8 e ?_|refine C8 i ?_|refine C8 j ?_|refine C8 w ?_)
  all_goals first
   | exact X0 (λz=>[B z]) ((by unfold k7 dA;rw[O];simp))
   |(exfalso;omega)
 by_cases P:h.S.length=h.w.T.length;rotate_left
 ·refine fO 154 [] Tryz.func23 rfl ?_
  repeat'(first|refine gP ?_|(conv=>whnf);first|with_reducible refine Bf.N (λa=>?_) (λa=>?_)|refine C8 d ?_|refine C8 e ?_|refine C8 i ?_|refine C8 j ?_|refine C8 w ?_)
  all_goals first
   | exact X0 (λz=>[B z]) ((by unfold k7 dA;rw[U0 P];simp))
   |(exfalso;omega)
 cases W:fR h.a6<;>rw[W]at M
 ·refine fO 154 [] Tryz.func23 rfl ?_
  repeat'(first|refine gP ?_|(conv=>whnf);first|with_reducible refine Bf.N (λa=>?_) (λa=>?_)|refine C8 d ?_|refine C8 e ?_|refine C8 i ?_|refine C8 j ?_|refine C8 w ?_|refine C8 M ?_)
  all_goals first
   | exact X0 (λz=>[B z]) ((by unfold k7 dA;rw[W];simp))
   |(exfalso;omega)
 have hmc:dA h=true:=by grind [dA]
 refine fO 154 [] Tryz.func23 rfl ?_
 repeat'(first|refine gB ?_|(conv=>whnf);first|with_reducible refine Bf.N (λa=>?_) (λa=>?_)|refine C8 d ?_|refine C8 e ?_|refine C8 i ?_|refine C8 j ?_|refine C8 w ?_|refine C8 M ?_)
 all_goals try(exfalso;omega)
 (conv=>whnf)
 refine CG (ι:=Nat) (λk=>[(1,.H .box (ab.enc .V h)),(57,.H .one (pm .V h.S)),(58,.H .one [I (h.S.length)]),(59,.H .one [I ((k:Nat):Int)])]) (λk=>k<=h.S.length/\(h.S.take k).all bv=true) (λk=>h.S.length - k) (0) ?_ ψ λk X=>?_
 ·exact wB
 obtain⟨X,Y⟩:=X;by_cases Z:k<h.S.length
 ·have Q:=ao Z
  have R:=n8 (nth h.S k) (p.2 _ (am Z));cases e8:bv (nth h.S k)<;>rw[e8]at R
  ·repeat'(first|refine gE ?_|(conv=>whnf);first|with_reducible refine CD (aa Q) ?_|refine C8 R ?_)
   exact X0 (λz=>[B z]) ((by grind [k7]))
  repeat'(first|refine gE ?_|(conv=>whnf);first|with_reducible refine CD (aa Q) ?_|refine C8 R ?_)
  ((conv=>whnf);refine CE (k+1) ⟨ω,db Q Y e8⟩ ω ?_;(exact wB))
 have hca:h.S.all bv=true:=nE ω Y;have l:=Fi h b g K L;have c10:=xR h G F O ψ;have c12:=H1 h.Z r;have c13:=uU h h.Z.Y.a5 b.1;have c14:=uU h h.Z.Y.a4 b.1;cases e9:fU h<;>rw[e9]at l
 ·repeat'(first|refine gE ?_|(conv=>whnf);first|refine C8 l ?_)
  all_goals first
   | exact X0 (λz=>[B z]) ((by unfold k7;rw[e9];simp))
   |(exfalso;omega)
 cases e10:kj h<;>rw[e10]at c10
 ·repeat'(first|refine gE ?_|(conv=>whnf);first|refine C8 l ?_|refine C8 c10 ?_)
  all_goals first
   | exact X0 (λz=>[B z]) ((by unfold k7;rw[e10];simp))
   |(exfalso;omega)
 by_cases hn:cr h=true;rotate_left
 ·have y:cr h=false:=by simpa using hn
  have c:=y;unfold cr at c;rw[X4]at c
  repeat'(first|refine gE ?_|(conv=>whnf);first|with_reducible refine Bf.D (λa=>?_) (λa=>?_)|refine C8 (aP _ _ _) ?_|refine C8 (oZ _) ?_|refine C8 l ?_|refine C8 c10 ?_)
  all_goals first
   | exact X0 (λz=>[B z]) ((by unfold k7;rw[y];simp))
   |(exfalso;omega)
 have c:=hn;unfold cr at c;rw[C0]at c;have C:k7 h=rQ h:=by grind [k7]
 rw[C];unfold rQ;cases em:h.u
 ·repeat'(first|refine gE ?_|(conv=>whnf);first|with_reducible (first|refine Bf.D (λa=>?_) (λa=>?_)|refine Bf.E (λa=>?_) (λa=>?_))|refine C8 (aP _ _ _) ?_|refine C8 (oZ _) ?_|refine C8 l ?_|refine C8 c10 ?_|refine Bf.f em ?_)
  all_goals first
   | exact X0 (λz=>[B z]) ((by unfold sL;simp only[Bool.false_eq_true,if_false];first|(symm;exact U0 ω)|(rw[Y4,beq_iff_eq,C0];omega)))
   |(exfalso;omega)
 cases e12:jN h.Z<;>rw[e12]at c12
 all_goals
  repeat'(first|refine gE ?_|(conv=>whnf);first|with_reducible (first|refine Bf.D (λa=>?_) (λa=>?_)|refine Bf.D (λa=>?_) (λa=>?_))|refine C8 (aP _ _ _) ?_|refine C8 (oZ _) ?_|refine C8 l ?_|refine C8 c10 ?_|refine C8 c12 ?_|refine C8 c13 ?_|refine C8 c14 ?_|refine Bf.t em ?_)
  all_goals first
   | exact X0 (λz=>[B z]) (ψ)
   |(exfalso;omega)
variable{α:Type}
def ce[Inhabited α]{xs:List α}{f:α->Int}(e:(xs.map f).Nodup)(b:i<xs.length)(c:j<xs.length)(h:f (nth xs i)=f (nth xs j)):i=j:=by
 have d:=List.pairwise_iff_getElem.1 e;rcases Nat.lt_trichotomy i j with a|rfl|a
 ·have:=d i j (by simpa using b) (by simpa using c) a
  simp only[List.getElem_map]at this;rw[bg (O2 b),bg (O2 c)]at h;exact absurd h this
 ·rfl
 have:=d j i (by simpa using c) (by simpa using b) a;simp only[List.getElem_map]at this;rw[bg (O2 b),bg (O2 c)]at h;omega
theorem aM[Inhabited α]{xs:List α}{x:α}(h:x∈xs):∃i,i<xs.length/\nth xs i=x:=by
 obtain⟨i,a⟩:=List.mem_iff_getElem?.1 h
 grind [bg]
theorem re:∀{H L:List Int},H.Nodup->(∀x∈H,x∈L)->L.length<=H.length->∀x∈L,x∈H
 | [],L,_,_,b,x,c=>by grind
 | y::H,L,d,f,b,x,c=>by
  have g:y∈L:=ψ
  have a:=List.nodup_cons.1 d;by_cases e:x=y
  ·grind
  refine O5 _ (re (L:=L.erase y) a.2 (λz h=>?_) ?_ x ψ)
  all_goals grind
theorem Ld{H L:List Int}(b:L.Nodup)(c:∀x∈H,x∈L):(H.Nodup/\H.length=L.length)↔∀a∈L,H.count a=1:=by grind [re,List.Perm.length_eq]
variable{p:Int}{l:ay}
theorem dq : p∈lpgs l n↔∃k:Nat,k<n/\p=l.Q+(k:Nat):=by grind [lpgs]
structure oD(sp:List ax)(la:List ay):Prop where
 sok:∀s∈sp,bi s=true
 lok:∀l∈la,bH l=true
 nd:(sp.map (·.Q)).Nodup
 dis:∀s∈sp,∀l∈la,∀k:Nat,k<l.a2.toNat->s.Q≠l.Q+(k:Nat)
 one:∀i j,i<la.length->j<la.length->∀k k':Nat,k<(nth la i).a2.toNat->k'<(nth la j).a2.toNat->(nth la i).Q+(k:Nat)=(nth la j).Q+(k':Nat)->i=j
theorem oD.of(h:bk sp la=true):oD sp la:=by
 obtain⟨B,C,d⟩:=dY h;unfold pgs at d;rw[List.nodup_append]at d;obtain⟨q,r,t⟩:=d;have u:=List.pairwise_flatMap.1 r;refine⟨ψ,ψ,q,λs D l w k c e=>?_,λi j f g k o c a e=>?_⟩
 ·exact t _ ψ _ (List.mem_flatMap.2 ⟨l,w,dq.2 ⟨k,c,rfl⟩⟩) e
 have p:=List.pairwise_iff_getElem.1 u.2;have y:=bg (O2 f);have A:=bg (O2 g);rw[y]at c e;rw[A]at a e;rcases Nat.lt_trichotomy i j with b|n|b
 ·exact absurd e (p i j f g b _ (dq.2 ⟨k,c,rfl⟩) _ (dq.2 ⟨o,a,rfl⟩))
 ·exact n
 exact absurd e.symm (p j i g f b _ (dq.2 ⟨o,a,rfl⟩) _ (dq.2 ⟨k,c,rfl⟩))
variable{a:Int}
theorem fy(b:bi s=true):cW s a=true↔16*s.Q<=a/\a<=16*s.Q+15:=by grind [cW]
theorem ib(b:oD sp la)(c:i<sp.length)(h:16*(nth sp i).Q<=a/\a<=16*(nth sp i).Q+15):denotes sp la a=nX i (nth sp i) a:=by
 refine nl c ((fy (b.sok _ (am c))).2 h) λj z l k=>?_
 cases e:cW z a with
 | false=>rfl
 | true=>
  exfalso;have d:=(U2.1 k).1;have n:=(fy (b.sok z ψ)).1 e;have g:=bg k;subst g;have:=ce (f:=(·.Q)) b.nd c d ω;omega
theorem Rv(b:oD sp la)(h:∀i,i<sp.length->¬(16*(nth sp i).Q<=a/\a<=16*(nth sp i).Q+15)):∀(j:Nat)(z:ax),j<sp.length->sp[j]? = some z->cW z a=false:=by grind [fy,oD.sok,bg]
theorem MT(c:oD sp la)(a:Int):a∈live0 sp la↔a∈k6 sp la:=by
 have G:a∈k6 sp la↔∃n:Nat,n<512/\ky sp la n=true/\(n:Int)=a:=by grind [k6,lZ]
 rw[G];unfold live0 fH;rw[C3,List.mem_flatMap,O4];constructor
 ·rintro(⟨s,g,C⟩|⟨l,b,rfl⟩)
  ·obtain⟨i,d,rfl⟩:=aM g
   unfold eK at C;obtain⟨k,H,rfl⟩:=O4.1 C;obtain⟨h,J⟩:=U4.1 H;have h:=List.mem_range.1 h;have o:=aE (c.sok _ g);have t:=Bb ⟨o.2.2.1,o.2.2.2⟩;have K:=sZ (nth sp i).d;unfold lg;have L:0<=(k:Int)*csz (nth sp i).d/\(k:Int)*csz (nth sp i).d<=15:=by grind [bW]
   have f:=ib c d (a:=16*(nth sp i).Q+(k:Nat)*csz (nth sp i).d) ω;have O:(16*(nth sp i).Q+(k:Nat)*csz (nth sp i).d - 16*(nth sp i).Q) / csz (nth sp i).d=(k:Nat)/\(16*(nth sp i).Q+(k:Nat)*csz (nth sp i).d - 16*(nth sp i).Q) % csz (nth sp i).d=0:=by grind [bW]
   refine⟨(16*(nth sp i).Q+(k:Nat)*csz (nth sp i).d).toNat,ω,?_,ω⟩
   grind [ky,nX]
  obtain⟨i,d,rfl⟩:=aM b;have P:=aK (c.lok _ b);have M:=cX (c.lok _ b);have u:=Rv c (a:=16*(nth la i).Q) λj D Q=>c.dis _ (am D) _ b 0 ω ω
  have E:bp (nth la i) (16*(nth la i).Q)=true:=by grind [oD.lok,bp]
  have f:=mD (a:=16*(nth la i).Q) (I3 _) u d E λj z D r=>by
   cases e:bp z (16*(nth la i).Q) with
   | false=>rfl
   | true=>
    exfalso;have w:=(U2.1 r).1;have p:=C2 r;have y:=bg r;subst y;have N:=aK (c.lok _ p);have q:=c.lok _ p;unfold bH at q;rw[C0]at q;unfold bp at e;rw[I0,C0]at e;have:=c.one i j d w 0 ((nth la i).Q - (nth la j).Q).toNat ω ω ω;omega
  refine⟨(16*(nth la i).Q).toNat,ω,?_,ω⟩
  grind [ky]
 rintro⟨n,R,b,rfl⟩
 cases u:sp.findIdx? (cW · (n:Nat)) with
 | some i=>
  obtain⟨d,A,-⟩:=C7.1 u;have B:=bg (O2 d);rw[<-B]at A;have g:=c.sok _ (am d);have F:=(fy g).1 A;have o:=aE g;have t:=Bb ⟨o.2.2.1,o.2.2.2⟩;have f:denotes sp la (n:Nat)=nX i (nth sp i) (n:Nat):=by grind [denotes]
  rw[sg f]at b;simp only[I0,O6,C0]at b;simp only[nX]at b;cases E:aW (nth sp i).b1 (((n:Int) - 16*(nth sp i).Q) / csz (nth sp i).d) with
  | false=>grind
  | true=>
   have r:((n:Int) - 16*(nth sp i).Q) % csz (nth sp i).d=0:=b.1;refine .inl ⟨nth sp i,am d,?_⟩;unfold eK;refine O4.2 ⟨(((n:Int) - 16*(nth sp i).Q) / csz (nth sp i).d).toNat,U4.2 ⟨List.mem_range.2 ?_,?_⟩,?_⟩
   all_goals grind [bW,lg]
 | none=>
  cases F:la.findIdx? (bp · (n:Nat)) with
  | some i=>
   obtain⟨d,A,-⟩:=C7.1 F;have f:denotes sp la (n:Nat) = ⟨3,i,0,(n:Nat) - 16*(nth la i).Q⟩:=by grind [denotes]
   rw[sg f]at b
   grind [am]
  | none=>
   have f:denotes sp la (n:Nat) = ⟨0,0,0,0⟩:=by grind [denotes]
   rw[sg f]at b;simp at b
theorem wi(b:oD sp la)(c:(denotes sp la a).c5=0)(f:(denotes sp la a).b5=1\/(denotes sp la a).b5=3):a∈k6 sp la:=by
 have l:0<=a/\a<512:=by
  unfold denotes at c f;cases g:sp.findIdx? (cW · a) with
  | some i=>
   obtain⟨d,j,-⟩:=C7.1 g;have h:=List.getElem_mem d;have e:=(fy (b.sok _ h)).1 j;have k:=aE (b.sok _ h);omega
  | none=>
   rw[g]at c f;cases e:la.findIdx? (bp · a) with
   | some i=>
    obtain⟨d,-⟩:=C7.1 e;rw[e]at c;have n:=aK (b.lok _ (am d))
    grind
   | none=>grind
 have k:((a.toNat:Nat):Int)=a:=ω
 grind [k6,lZ,ky]
theorem vk(sp:List ax)(la:List ay):(k6 sp la).Nodup:=by
 unfold k6 lZ List.Nodup;rw[List.pairwise_map]
 grind [List.Pairwise.imp,List.nodup_range]
theorem uk(b:oD h.K h.J){c:Int}(d:d3 h a c=true):a∈k6 h.K h.J:=by grind [wi,d3]
variable{o:aY}
theorem N3(a:oD h.K h.J)(b:iI h o=true):o.Addr∈k6 h.K h.J:=by grind [wi,iI]
theorem Gw(h:ab)(a:Int):(mN h).count a=(holders h).count a:=by grind [mN,holders]
theorem pz(h:ab):jH h=true↔(h.S.all (fj h)=true/\h.a6.a1.all (ia h)=true)/\(aN h.w).all (kO h)=true:=by grind [jH]
theorem rO(f:oD h.K h.J)(g:fU h=true)(j:jH h=true):∀a∈holders h,a∈k6 h.K h.J:=by
 obtain⟨⟨n,p⟩,q⟩:=(pz h).1 j;intro a b;unfold holders at b;simp only[C3]at b;rcases b with((b|b)|b)|b
 ·obtain⟨o,d,rfl⟩:=O4.1 b
  obtain⟨i,r,rfl⟩:=aM d;have e:=eZ g r
  grind [N3,objAt]
 ·unfold cK at b
  obtain⟨c,t,b⟩:=List.mem_flatMap.1 b;obtain⟨l,u,b⟩:=List.mem_flatten.1 b;obtain⟨k,w,rfl⟩:=aM u;have e:=v4.1 n c t;unfold fj at e;have A:=v4.1 (show(nth c.a k).all _=true from eZ e w) a b
  grind [uk]
 ·obtain⟨x,y,rfl⟩:=O4.1 b
  exact uk f (v4.1 p x y)
 exact uk f (v4.1 q a b)
theorem KK(b:bk h.K h.J=true)(c:fU h=true):(lV h&&kg h)=kj h:=by
 have d:=oD.of b;have e:(lV h=true/\h.a6.a1.all (ia h)=true)↔h.a6.a1.all (sY h)=true:=by grind [lV,sY]
 have f:kj h=true↔((h.S.all (fj h)=true/\h.a6.a1.all (sY h)=true)/\(aN h.w).all (kO h)=true)/\∀a∈k6 h.K h.J,(holders h).count a=1:=by
  unfold kj;simp only[I0];refine and_congr Iff.rfl ?_;simp only[v4,C0,Gw]
  grind [List.mem_mergeSort,MT,oB,sorted]
 grind [pz,Ld,vk,rO,kg]
theorem gK(s t:ax):meshable s t=meshable t s:=by grind [meshable]
variable{f:Int}{t:aI}
theorem eP{p:Nat} : (p:Int)∈pagesOn t f↔p<t.O.length/\(nth t.O p).j≠0/\(nth t.O p).e=f:=by grind [pagesOn,jP,LT]
theorem vc{q:Int}(h:q∈pagesOn t f):∃p:Nat,q=(p:Nat):=by grind [pagesOn,jP]
theorem sr(a:pages0 h=true):(∀i,i<h.J.length->∀k:Nat,k<(nth h.J i).a2.toNat->(aV h ((nth h.J i).Q+(k:Nat))).length=1)/\(∀p∈pgs h.K h.J,p<fe h)/\∀p:Nat,p<fe h->((nth (tbl h).O p).j≠0↔(p:Int)∈pgs h.K h.J):=by grind [eZ,pages0,rG,xZ,v8]
theorem AX{p:Nat}(a:p<fe h):ac (tbl h) (p:Nat)=nth (tbl h).O p:=mB a
theorem f8{p:Nat}(a:p<fe h)(b:(nth (tbl h).O p).j≠0):aV h (p:Nat)=pagesOn (tbl h) (nth (tbl h).O p).e:=by grind [AX,aV,tbl]
theorem tJ(g:oD h.K h.J)(c:j<h.K.length):gq h (nth h.K j).Q=(j:Nat):=by
 unfold gq;refine dP (ao c) (by unfold mq;simp) λk z i d=>?_
 have a:=bg d;have b:=(U2.1 d).1;subst a;unfold mq;refine U0 λe=>?_
 have:=ce (f:=(·.Q)) g.nd b c e;omega
theorem u6(w:bk h.K h.J=true)(N:pages0 h=true):uW h=oJ h:=by
 have E:=oD.of w;obtain⟨O,P,Q⟩:=sr N;have o:∀i,i<h.K.length->∃p:Nat,(nth h.K i).Q=(p:Nat)/\p<fe h/\(nth (tbl h).O p).j≠0:=λi r=>by
  have Y:=aE (E.sok _ (am r));have R:(nth h.K i).Q∈pgs h.K h.J:=by grind [am,pgs]
  have c:=P _ R;refine⟨(nth h.K i).Q.toNat,ω,ω,?_⟩
  grind
 rw[Y4];unfold uW oJ;rw[cF,cF];constructor
 ·intro F i r
  rw[cF];intro j G;have y:j<h.K.length:=ω
  unfold m0;rw[O6,C0];by_cases d:(ac (tbl h) (nth h.K i).Q).e=(ac (tbl h) (nth h.K j).Q).e
  ·right
   obtain⟨p,e,a,f⟩:=o i r;obtain⟨q,A,b,g⟩:=o j y;have n:=v4.1 (F i r);rw[e,A,AX a,AX b]at d;have S:(q:Int)∈aV h (nth h.K i).Q:=by
    rw[e,f8 a f];exact eP.2 ⟨b,g,d.symm⟩
   have t:=n _ S;unfold mu at t;rw[<-A,tJ E y]at t;rw[O6,I0,C0]at t;rcases t with t|t
   ·omega
   simpa using t.2
  exact .inl d
 intro B i r;rw[v4];intro q C;obtain⟨p,e,a,f⟩:=o i r;have T:=C;rw[e,f8 a f]at C;obtain⟨D,rfl⟩:=vc C;obtain⟨b,g,H⟩:=eP.1 C;have u:=(Q D b).1 g;unfold pgs at u;rw[C3,O4,List.mem_flatMap]at u;rcases u with⟨s,F,J⟩|⟨l,U,K⟩
 ·obtain⟨j,G,rfl⟩:=aM F
  unfold mu;rw[<-J,tJ E G];rw[O6,I0,C0,C0];have d:(ac (tbl h) (nth h.K i).Q).e=(ac (tbl h) (nth h.K j).Q).e:=by grind [AX]
  rcases Nat.lt_trichotomy j i with c|V|c
  ·have n:=eZ (B i r) c
   unfold m0 at n
   simp_all
  ·omega
  have n:=eZ (B j G) c;unfold m0 at n;rw[O6,C0]at n;exact .inr ⟨ω,by rw[gK];simp_all⟩
 exfalso;obtain⟨W,L,rfl⟩:=aM U;obtain⟨k,X,M⟩:=dq.1 K;have n:=O W L k X;rw[<-M,f8 b g]at n;have Z:(D:Int)∈pagesOn (tbl h) (nth (tbl h).O D).e:=ψ
 have m2:(p:Int)∈pagesOn (tbl h) (nth (tbl h).O D).e:=eP.2 ⟨a,f,H.symm⟩
 grind [List.length_eq_one_iff,oD.dis,am]
theorem ng(h:ab):k7 h=dM h:=by grind [u6,KK,k7,dM,lh]
def ovl(y r:a7):Bool:=decide (y.At<r.At+r.b0/\r.At<y.At+y.b0)
def na(r:a7):List a7->Bool->Option (List a7)
 | [],put=>some (if put then [] else [r])
 | y::a,put=>if ovl y r then none else if !put&&decide (y.At > r.At) then(na r a true).map λt=>r::y::t else(na r a put).map λt=>y::t
def dv(out:List a7):List a7->List a7
 | []=>out
 | y::ys=>match out.getLast? with
  | some z=>if z.At+z.b0=y.At then dv (out.dropLast++[⟨z.At,z.b0+y.b0⟩]) ys else dv (out++[y]) ys
  | none=>dv (out++[y]) ys
def ja:List a7->a7->List a7->Bool->Option (List a7)
 | [],r,out,done=>some (if done then out else out++[r])
 | y::ys,r,out,done=>
  if ovl y r then none
  else if y.At+y.b0=r.At then ja ys ⟨y.At,y.b0+r.b0⟩ out done
  else if r.At+r.b0=y.At then ja ys ⟨r.At,r.b0+y.b0⟩ out done
  else if y.At > r.At/\done=false then ja ys r (out++[r,y]) true
  else ja ys r (out++[y]) done
def jo(xs:List a7):Prop:=xs.Pairwise (λa b=>a.At+a.b0<b.At)/\∀y∈xs,1<=y.b0
variable{y:a7}
theorem jo.tail{a:List a7}(h:jo (y::a)):jo a:=⟨(List.pairwise_cons.1 h.1).2,λz b=>h.2 z ψ⟩
theorem jo.head{a:List a7}(h:jo (y::a)):∀z∈a,y.At+y.b0<z.At:=(List.pairwise_cons.1 h.1).1
theorem j9:∀(a out:List a7),jo a->(∀z,out.getLast? = some z->∀y∈a,z.At+z.b0≠y.At)->dv out a=out++a
 | [],out,_,_=>by simp[dv]
 | y::a,out,d,e=>by
  have b:dv (out++[y]) a=out++y::a:=by
   rw[j9 a (out++[y]) d.tail λz c w f=>by
     simp at c;subst c;have:=d.head w f;omega]
   simp
  unfold dv;split
  ·rename_i z c
   rw[C9 (e z c y (Z1 ..))];exact b
  exact b
theorem xL{r:a7} : ∀{a:List a7},jo a->(∀y∈a,r.At+r.b0<=y.At)->na r a true=some a
 | [],_,_=>rfl
 | y::a,c,b=>by
  have e:=b y (Z1 ..);unfold na;rw[C9 (by unfold ovl;rw[C0];omega)];simp only[Bool.not_true,Bool.false_and,Bool.false_eq_true,if_false];rw[xL c.tail λz d=>b z (O5 _ d)]
  rfl
theorem va{r:a7}(h1:1<=r.b0){a:List a7}(b:jo a)(c:∀y∈a,r.At+r.b0<=y.At):na r a false=some (r::a):=by
 cases a with
 | nil=>rfl
 | cons y a=>
  grind [xL,jo.tail,na,ovl]
def pP{r:a7} : ∀{a out:List a7},jo a->1<=r.b0->(∀y∈a,r.At+r.b0<y.At)->ja a r out true=some (out++a)
 | [],out,_,_,_=>by simp[ja]
 | y::a,out,b,d,c=>by
  have f:=c y (Z1 ..);have g:=b.2 y (Z1 ..);unfold ja;rw[C9 (by unfold ovl;rw[C0];omega),C9 ω,C9 ω,C9 (by simp),pP b.tail d λz e=>c z (O5 _ e)];simp
variable{out:List a7}
theorem xY{r:a7}(h1:1<=r.b0){a:List a7}(b:jo a)(c:∀y∈a,r.At+r.b0<=y.At):ja a r out false=some (out++match a with|[]=>[r]|y::zs=>if r.At+r.b0=y.At then⟨r.At,r.b0+y.b0⟩::zs else r::y::zs):=by
 cases a with
 | nil=>simp[ja]
 | cons y a=>
  have g:=c y ψ;have h:=b.2 y ψ;unfold ja;rw[C9 (by grind [ovl]),C9 ω];by_cases e:r.At+r.b0=y.At
  ·rw[CC e]
   simp only[e,if_true];cases a with
   | nil=>simp[ja]
   | cons z a=>
    have i:=b.head z ψ;have j:=b.tail.2 z ψ;unfold ja;simp only;rw[C9 (by grind [ovl]),C9 ω,C9 ω,CC (by simp;omega),pP b.tail.tail (by simp only;omega) λw d=>by
      have:=b.tail.head w d;simp only;omega]
    simp
  rw[C9 e,CC (by simp;omega),pP b.tail h1 λz f=>by have:=b.head z f;omega];simp[e]
theorem AS{pages:Int} : ∀{a:List a7}{r:a7}{out:List a7},jo a->1<=r.b0->(∀z,out.getLast? = some z->(∀y∈a,z.At+z.b0<y.At)/\z.At+z.b0<r.At)->(na r a false).map (dv out)=ja a r out false
 | [],r,out,_,g,q=>by
  show some (dv out [r])=some (out++[r]);rw[j9 [r] out ⟨List.pairwise_singleton ..,λy u=>by rw[O1.1 u];exact g⟩ ψ]
 | y::a,r,out,c,g,q=>by
  have F:=c.2 y ψ;by_cases l:ovl y r=true
  ·grind [na,ja]
  ·have i:=l
   unfold ovl at i;rw[C0]at i;by_cases A:r.At+r.b0<=y.At
   ·-- all to the right
    have b:∀w∈y::a,r.At+r.b0<=w.At:=λw f=>by grind [jo.head]
    rw[va g c b,xY g c b];show some (dv out (r::y::a))=_;have hfirst:dv out (r::y::a)=dv (out++[r]) (y::a):=by
     conv=>lhs;unfold dv
     grind
    rw[hfirst];by_cases e:r.At+r.b0=y.At
    ·have:dv (out++[r]) (y::a)=dv (out++[⟨r.At,r.b0+y.b0⟩]) a:=by
      conv=>lhs;unfold dv
      simp[e]
     grind [j9,jo.tail,jo.head]
    grind [j9,jo.head]
   have B:y.At+y.b0<=r.At:=ω
   have n:∀t,dv out (y::t)=dv (out++[y]) t:=λt=>by
    conv=>lhs;unfold dv
    grind [Z1]
   have C:(na r (y::a) false).map (dv out)=(na r a false).map (dv (out++[y])):=by
    conv=>lhs;unfold na
    rw[C9 l,C9 (by simp;omega),Option.map_map]
    congr 1
    grind
   rw[C];unfold ja;rw[C9 l];by_cases e:y.At+y.b0=r.At
   ·rw[CC e]
    by_cases o:∃w,a.head? = some w/\ovl w r=true
    ·obtain⟨w,f,D⟩:=o
     cases a with
     | nil=>cases f
     | cons d h=>
      grind [ovl,na,ja]
    have b:∀w∈a,r.At+r.b0<=w.At:=by
     cases a with
     | nil=>grind
     | cons d h=>
      have G:=c.head d ψ;have H:=c.tail.2 d ψ
      grind [jo.head,jo.tail,ovl]
    rw[va g c.tail b,xY (r:=⟨y.At,y.b0+r.b0⟩) (by simp only;omega) c.tail ψ];show some (dv (out++[y]) (r::a))=_;have E:dv (out++[y]) (r::a)=dv (out++[⟨y.At,y.b0+r.b0⟩]) a:=by
     conv=>lhs;unfold dv
     simp[e]
    rw[E];cases a with
    | nil=>simp[dv]
    | cons d h=>
     by_cases j:y.At+(y.b0+r.b0)=d.At
     ·have p:dv (out++[⟨y.At,y.b0+r.b0⟩]) (d::h)=dv (out++[⟨y.At,y.b0+r.b0+d.b0⟩]) h:=by
       conv=>lhs;unfold dv
       simp[j]
      rw[p,j9 h _ c.tail.tail λz k w f=>by grind [jo.head,jo.tail]];simp[j]
     rw[j9 (d::h) _ c.tail λz k w f=>by
       simp at k;subst k;simp only;rcases List.mem_cons.1 f with rfl|f
       · exact j
       have:=c.tail.head w f;have:=b d ψ;have:=c.tail.2 d ψ;omega]
     simp[j]
   rw[C9 e,C9 ω,C9 ω];exact AS (pages:=pages) c.tail g λz k=>by grind [jo.head]
def fX(k:ah)(f:Int):ah:=if(pagesOn k.F.R f).length=0 then {k with F:=⟨⟨k.F.W.U.set f.toNat (List.replicate 16 0),k.F.W.a9.set f.toNat false⟩,k.F.R⟩} else k
def lC(k:ah)(p:Int):ah:={k with F:=⟨k.F.W,⟨k.F.R.O.set p.toNat ⟨0,0⟩⟩⟩}
def cy(k:ah)(p:Int):ah:=if(ac k.F.R p).j=0 then k else fX (lC k p) (ac k.F.R p).e
theorem bw[Inhabited α](xs:List α)(i j:Nat)(x:α):nth (xs.set i x) j=if i=j/\j<xs.length then x else nth xs j:=by grind [nth]
theorem mP(k:ah)(f:Int):(fX k f).F.R=k.F.R/\(fX k f).Calls=k.Calls/\(fX k f).a0=k.a0/\(fX k f).F.W.U.length=k.F.W.U.length/\(fX k f).F.W.a9.length=k.F.W.a9.length:=by grind [fX]
theorem jm(k:ah)(p:Int):(cy k p).F.R.O.length=k.F.R.O.length/\(cy k p).Calls=k.Calls/\(cy k p).a0=k.a0:=by grind [mP,cy,lC]
variable{k:ah}
theorem aD : aA k=true↔(∀j,j<k.a0.length->0<=nth k.a0 j)/\d9 k.F.W=true/\gg k.F.R k.F.W.a9.length=true/\(∀j,j<k.F.W.a9.length->nth k.F.W.a9 j=decide (0<(pagesOn k.F.R (j:Int)).length))/\0<=k.Calls/\k.Calls<=100000/\k.a0.length<=40:=by grind [cF,aA,dD,oR]
theorem aX{f:bf} : d9 f=true↔1<=f.U.length/\f.U.length<=32/\f.a9.length=f.U.length/\∀j,j<f.U.length->gQ (nth f.U j) (nth f.a9 j)=true:=by
 unfold d9;simp only[I0,C0,v4,and_assoc];refine and_congr Iff.rfl (and_congr Iff.rfl (and_congr_right λb=>⟨λh j a=>?_,λh q c=>?_⟩))
 ·exact h _ (C2 (vT (ao a) (ao ω)))
 grind [List.mem_iff_getElem?,List.getElem?_zip_eq_some,bg]
theorem bx : gg t a=true↔(∀j,j<t.O.length->kF a (nth t.O j)=true)/\1<=t.O.length/\t.O.length<=32:=by grind [cF,gg]
def dX : 0<(pagesOn t f).length↔∃q,q<t.O.length/\(nth t.O q).j≠0/\(nth t.O q).e=f:=by
 unfold pagesOn jP;rw[C1,List.length_pos_iff_exists_mem];simp[LT]
theorem bS(h:aA k=true)(a:(ac k.F.R p).j≠0):0<=p/\p<k.F.R.O.length/\ac k.F.R p=nth k.F.R.O p.toNat/\0<=(ac k.F.R p).e/\(ac k.F.R p).e<k.F.W.a9.length:=by
 obtain⟨-,-,b,-⟩:=aD.1 h
 grind [bx,ac,kF]
theorem yx(p:Int)(h:aA k=true):aA (cy k p)=true:=by
 unfold cy;split
 ·exact h
 rename_i r;obtain⟨C,D,E,i,l⟩:=bS h r;obtain⟨t,u,F,w,y,A,B⟩:=aD.1 h;obtain⟨G,H,J,L⟩:=aX.1 u;obtain⟨M,N,O⟩:=bx.1 F;rw[E]at r i l |-;generalize K:(nth k.F.R.O p.toNat).e=f at i l;have b:∀q,nth (k.F.R.O.set p.toNat ⟨0,0⟩) q=if p.toNat=q then⟨0,0⟩ else nth k.F.R.O q:=λq=>by grind [bw]
 have c:∀j:Int,0<(pagesOn (⟨k.F.R.O.set p.toNat ⟨0,0⟩⟩ : aI) j).length↔∃q,q<k.F.R.O.length/\q≠p.toNat/\(nth k.F.R.O q).j≠0/\(nth k.F.R.O q).e=j:=λj=>by
  rw[dX];simp only[U1,b]
  grind
 have d:∀j:Int,0<(pagesOn k.F.R j).length↔∃q,q<k.F.R.O.length/\(nth k.F.R.O q).j≠0/\(nth k.F.R.O q).e=j:=λj=>dX
 have g:gg ⟨k.F.R.O.set p.toNat ⟨0,0⟩⟩ k.F.W.a9.length=true:=by
  rw[bx];simp only[U1,b]
  grind [kF]
 unfold fX;split
 ·rename_i o
  rw[aD];simp only[lC,U1]at o |-;refine⟨t,?_,g,λj n=>?_,y,A,B⟩
  ·rw[aX]
   simp only[U1,bw];refine⟨G,H,J,λj n=>?_⟩;by_cases a:f.toNat=j
   ·rw[CC ⟨a,n⟩,CC ⟨a,ω⟩];decide
   grind
  rw[bw];by_cases a:f.toNat=j
  ·grind
  rw[C9 (λe=>a e.1),w j n];refine decide_eq_decide.2 ?_;rw[d,c]
  grind
 rename_i o;rw[aD];simp only[lC]at o |-;refine⟨t,u,g,λj n=>?_,y,A,B⟩;rw[w j n];refine decide_eq_decide.2 ?_;by_cases a:f=j
 ·grind
 rw[d,c];grind
def bj(h:aA k=true):ah.sml k:=by
 obtain⟨g,b,c,i,l,n,o⟩:=aD.1 h;obtain⟨p,q,t,d⟩:=aX.1 b;obtain⟨u,w,y⟩:=bx.1 c;refine⟨⟨⟨⟨ω,λr f=>?_⟩,(by omega:_<=1048576)⟩,⟨ω,λe _=>trivial⟩⟩,(by omega:_<=1048576)⟩;obtain⟨j,a⟩:=List.mem_iff_getElem?.1 f;have:=d j (U2.1 a).1;rw[bg a]at this;unfold gQ at this;simp only[I0,C0]at this;show r.length<=1048576;omega
theorem tj(a:dM h=true):aA h.G=true:=by grind [dM,lh]
variable{K:List (List C)->Prop}{sz by_:Nat}
theorem Ap.cp{e:α->List C}{xs:List α}(d:∀x,(e x).length=sz)(f:∀x,bm (e x)=true)(a:xs.length<=1048576)(b:by_<=1000)(c:K (xs.map e)):Ap true [] (xs.map e) sz by_ K:=
 CU ψ ψ ψ (by simp;omega) (by simp only[C1,List.length_nil,Z6];exact yV a b) rfl c
def CQ:type_of% @Ap.cp:=@Ap.cp
theorem Fl.cp{e:α->List C}{xs:List α}{X:Prop}(d:∀x,(e x).length=sz)(f:∀x,bm (e x)=true)(a:xs.length<=1048576)(b:by_<=1000)(c:X):Fl (xs.map e) sz by_ X:=
 Fl.mk ψ (by simp;omega) (by simp only[C1];exact yV a b) c
def CV:type_of% @Fl.cp:=@Fl.cp
variable{rows:List (List C)}
theorem Ap.sn{a:List (List C)}{r:List C}(h1:∀r∈rows,r.length=sz)(f:r.length=sz)(b:rows.length+1<=1048576)(c:by_<=1000)(d:a=rows++[r])(e:K a):Ap false rows [r] sz by_ K:=
 CU h1 ψ ψ (by simp;omega) (yV (by simpa using b) c) d e
def jD(xs:List Int)(a:xs.length<=1048576):zzA 196 false [.val none (aF .V xs)] .one (aF .own xs):=by
 refine fO 6 [] Tryz.func196 rfl ?_ (.inr (bM _))
 repeat'(first|refine gP ?_|(conv=>whnf);first|refine CQ (λ_=>rfl) (λ_=>rfl) a (by decide) ?_)
 rfl
def Bw(t:aI)(a:aI.sml t):zzA 468 false [.val (some 1) (aI.enc .V t)] .agg (aI.enc .own t):=by
 have b:=a.1;refine fO 8 [] Tryz.func468 rfl ?_ (.inr (aI.enc_fr _))
 repeat'(first|refine gP ?_|(conv=>whnf);first|refine CQ (λ_=>rfl) (λ_=>rfl) b (by decide) ?_)
 rfl
def wR(t:aI)(a:aI.sml t):zzA 347 false [.val (some 1) (aI.enc .V t)] .agg (aI.enc .own t):=by
 have b:=a.1;refine fO 8 [] Tryz.func347 rfl ?_ (.inr (aI.enc_fr _))
 repeat'(first|refine gP ?_|(conv=>whnf);first|refine CQ (λ_=>rfl) (λ_=>rfl) b (by decide) ?_)
 rfl
theorem aL{e:α->List C}{l:List α}(h:∀x,(e x).length=n):∀r∈l.map e,r.length=n:=(ψ)
variable{β:Type}
theorem fI[Inhabited α]{xs:List α}{f:α->β}(a:i<xs.length):(xs.take (i+1)).map f=(xs.take i).map f++[f (nth xs i)]:=by grind [V5,ao]
def Bq(f:bf)(a:bf.sml f):zzA 467 false [.val (some 2) (bf.enc .V f)] .agg (bf.enc .own f):=by
 have g:=a.1.1;have d:f.a9.length<=1048576:=a.2;refine fO 30 [(5,10,[17,18,19,20,21,22,23,24,25,26])] Tryz.func467 rfl ?_ (.inr (bf.enc_fr _))
 repeat'(first|refine gP ?_|(conv=>whnf);first|refine CQ (λ_=>rfl) (λ_=>rfl) d (by decide) ?_)
 (conv=>whnf)
 refine CG (ι:=Nat) (λi=>[(1,.H .box (bf.enc .V f)),(2,.H .box [.z,.z]),(3,.H .box [.s .own ((f.U.take i).map (aF .own)),.s .own (f.a9.map (rB .own))]),(4,.H .one [I ((i:Nat):Int)])]) (λi=>i<=f.U.length) (λi=>f.U.length - i) (0) ?_ (W0 _) λi h=>?_
 ·exact wB
 by_cases b:i<f.U.length
 ·have e:=ao b
  have c:(nth f.U i).length<=1048576:=a.1.2 _ (am b)
  repeat'(first|refine gE ?_|(conv=>whnf);first|with_reducible refine CD (aa e) ?_|refine CV (λ_=>rfl) (λ_=>rfl) c (by decide) ?_|refine Ap.sn (aL λ_=>rfl) rfl (by simp;omega) (by decide) (fI b) ?_)
  ((conv=>whnf);refine CE (i+1) ω ω ?_;(exact wB))
 repeat'(first|refine gE ?_|fail)
 obtain rfl:i=f.U.length:=ω
 rw[C5]
 rfl
def vC(f:bf)(a:bf.sml f):zzA 346 false [.val (some 2) (bf.enc .V f)] .agg (bf.enc .own f):=by
 have g:=a.1.1;have d:f.a9.length<=1048576:=a.2;refine fO 27 [(5,5,[18,19,20,21,22])] Tryz.func346 rfl ?_ (.inr (bf.enc_fr _))
 repeat'(first|refine gP ?_|(conv=>whnf);first|refine CQ (λ_=>rfl) (λ_=>rfl) d (by decide) ?_)
 (conv=>whnf)
 refine CG (ι:=Nat) (λi=>[(2,.H .box [.z,.z]),(3,.H .box [.s .own ((f.U.take i).map (aF .own)),.s .own (f.a9.map (rB .own))]),(12,.H .one (jl .V f.U)),(13,.H .one [I (f.U.length)]),(14,.H .one [I ((i:Nat):Int)])]) (λi=>i<=f.U.length) (λi=>f.U.length - i) (0) ?_ (W0 _) λi h=>?_
 ·exact wB
 by_cases b:i<f.U.length
 ·have e:=ao b
  have c:(nth f.U i).length<=1048576:=a.1.2 _ (am b)
  repeat'(first|refine gE ?_|(conv=>whnf);first|with_reducible refine CD (aa e) ?_|refine C8 (jD (nth f.U i) c) ?_|refine Ap.sn (aL λ_=>rfl) rfl (by simp;omega) (by decide) (fI b) ?_)
  ((conv=>whnf);refine CE (i+1) ω ω ?_;(exact wB))
 repeat'(first|refine gE ?_|fail)
 obtain rfl:i=f.U.length:=ω
 rw[C5]
 rfl
def sM(m:aU)(a:aU.sml m):zzA 349 false [.val (some 3) (aU.enc .V m)] .agg (aU.enc .own m):=by
 refine fO 10 [(1,5,[3,4,5,6,7])] Tryz.func349 rfl ?_ (.inr (aU.enc_fr _))
 repeat'(first|refine gP ?_|(conv=>whnf);first|refine C8 (Bq m.W a.1) ?_|refine C8 (Bw m.R a.2) ?_)
 rfl
def ue(m:aU)(a:aU.sml m):zzA 195 false [.val (some 3) (aU.enc .V m)] .agg (aU.enc .own m):=by
 refine fO 10 [(1,5,[3,4,5,6,7])] Tryz.func195 rfl ?_ (.inr (aU.enc_fr _))
 repeat'(first|refine gP ?_|(conv=>whnf);first|refine C8 (vC m.W a.1) ?_|refine C8 (wR m.R a.2) ?_)
 rfl
def BQ(k:ah)(a:ah.sml k):zzA 203 false [.val (some 5) (ah.enc .V k)] .agg (ah.enc .own k):=by
 have b:k.a0.length<=1048576:=a.2;refine fO 13 [(1,9,[3,4,5,6,7,8,9,10,11])] Tryz.func203 rfl ?_ (.inr (ah.enc_fr _))
 repeat'(first|refine gP ?_|(conv=>whnf);first|refine C8 (sM k.F a.1) ?_|refine CV (λ_=>rfl) (λ_=>rfl) b (by decide) ?_)
 rfl
def ox(k:ah)(a:ah.sml k):zzA 68 false [.val (some 5) (ah.enc .V k)] .agg (ah.enc .own k):=by
 refine fO 12 [(1,8,[3,4,5,6,7,8,9,10])] Tryz.func68 rfl ?_ (.inr (ah.enc_fr _))
 repeat'(first|refine gP ?_|(conv=>whnf);first|refine C8 (ue k.F a.1) ?_|refine C8 (jD k.a0 a.2) ?_)
 rfl
def eM(k:ah)(p:Int)(a:aI.sml k.F.R):zzA 485 false [.ptr (ah.enc .V k),.val none [I p]] .one [I (ac k.F.R p).j]:=by
 refine fO 13 [] Tryz.func485 rfl ?_
 repeat'(first|refine gP ?_|(conv=>whnf);first|refine C8 (cz k.F.R p a) ?_)
 rfl
def lP(k:ah)(b:ah.sml k):zzA 277 false [.val (some 5) (ah.enc .V k)] .one [B (aA k&&decide (k.Calls<100000))]:=by
 have a:=mz k b;cases e:aA k<;>rw[e]at a
 ·refine fO 10 [] Tryz.func277 rfl ?_
  repeat'(first|refine gP ?_|(conv=>whnf);first|with_reducible refine Bf.D (λc=>?_) (λc=>?_)|refine C8 (a) ?_)
  all_goals rfl
 refine fO 10 [] Tryz.func277 rfl ?_
 repeat'(first|refine gP ?_|(conv=>whnf);first|refine C8 (a) ?_)
 all_goals rfl
def B8(k:ah)(b:ah.sml k):zzA 197 false [.val (some 5) (ah.enc .V k)] .one [B (decide (k.Calls≠100000)&&aA k)]:=by
 have c:=q7 k b;refine fO 10 [] Tryz.func197 rfl ?_
 repeat'(first|refine gP ?_|(conv=>whnf);first|with_reducible (first|refine Bf.N (λa=>?_) (λa=>?_)|refine Bf.D (λa=>?_) (λa=>?_))|refine C8 (c) ?_)
 all_goals(exact X0 (λz=>[B z]) ((by simp[*])))
theorem tW(h:(pagesOn k.F.R f).length=0):ah.enc .own (fX k f)=[.s .own ((k.F.W.U.map (aF .own)).set f.toNat (aF .own (List.replicate 16 0))),.s .own ((k.F.W.a9.map (rB .own)).set f.toNat (rB .own false)),.s .own (k.F.R.O.map (bh.enc .own)),I k.Calls,.s .own (k.a0.map (rI .own))]:=by grind [I6,fX,ah.enc]
theorem yt(h:¬(pagesOn k.F.R f).length=0):ah.enc .own (fX k f)=ah.enc .own k:=by grind [fX]
def rC(k:ah)(f:Int)(a:aI.sml k.F.R)(b:0<=f/\f<k.F.W.U.length/\f<k.F.W.a9.length) :
  zzB 486 false [.ptr (ah.enc .own k),.val none [I f]] [.ptr (ah.enc .own (fX k f)),.val none [I f]] (.tup []) []:=by
 have c:=ao (xs:=k.F.W.U) (i:=f.toNat) ω;have d:=ao (xs:=k.F.W.a9) (i:=f.toNat) ω;by_cases e:(pagesOn k.F.R f).length=0
 ·rw[tW e]
  refine fM 30 [] [(2,8,[21,22,23,24,25,26,27,28])] [(0,0),(0,0)] Tryz.func486 rfl (λu q=>?_) (.inr trivial)
  repeat'(first|refine gB ?_|(conv=>whnf);first|with_reducible (first|refine CN b.1 (aa d) ?_|refine CN b.1 (aa c) ?_)|refine CF (gN k.F.R f a) ⟨⟨rfl,CZ k.F.R⟩,⟨rfl,rfl⟩,trivial⟩ ?_|refine CP rfl rfl (aa c) rfl (I1 rfl) rfl ?_|refine CP rfl rfl (aa d) rfl (I1 rfl) rfl ?_|refine Mk.mk 16 rfl rfl (by decide) (by decide) rfl ?_)
  refine CJ rfl rfl ?_;exact wB
 rw[yt e];refine fM 30 [] [(2,8,[21,22,23,24,25,26,27,28])] [(0,0),(0,0)] Tryz.func486 rfl (λu q=>?_) (.inr trivial)
 repeat'(first|refine gB ?_|(conv=>whnf);first|refine CF (gN k.F.R f a) ⟨⟨rfl,CZ k.F.R⟩,⟨rfl,rfl⟩,trivial⟩ ?_)
 refine CJ rfl rfl ?_;exact wB
def Df(k:ah)(f:Int)(a:aI.sml k.F.R)(b:0<=f/\f<k.F.W.U.length/\f<k.F.W.a9.length) :
  zzB 198 false [.ptr (ah.enc .own k),.val none [I f]] [.ptr (ah.enc .own (fX k f)),.val none [I f]] (.tup []) []:=by
 have c:=ao (xs:=k.F.W.U) (i:=f.toNat) ω;have d:=ao (xs:=k.F.W.a9) (i:=f.toNat) ω;by_cases e:(pagesOn k.F.R f).length=0
 ·rw[tW e]
  refine fM 30 [] [(2,8,[21,22,23,24,25,26,27,28])] [(0,0),(0,0)] Tryz.func198 rfl (λu q=>?_) (.inr trivial)
  repeat'(first|refine gB ?_|(conv=>whnf);first|with_reducible (first|refine CN b.1 (aa d) ?_|refine CN b.1 (aa c) ?_)|refine CF (kI k.F.R f a) ⟨⟨rfl,CZ k.F.R⟩,⟨rfl,rfl⟩,trivial⟩ ?_|refine CP rfl rfl (aa c) rfl (I1 rfl) rfl ?_|refine CP rfl rfl (aa d) rfl (I1 rfl) rfl ?_|refine Mk.mk 16 rfl rfl (by decide) (by decide) rfl ?_)
  refine CJ rfl rfl ?_;exact wB
 rw[yt e];refine fM 30 [] [(2,8,[21,22,23,24,25,26,27,28])] [(0,0),(0,0)] Tryz.func198 rfl (λu q=>?_) (.inr trivial)
 repeat'(first|refine gB ?_|(conv=>whnf);first|refine CF (kI k.F.R f a) ⟨⟨rfl,CZ k.F.R⟩,⟨rfl,rfl⟩,trivial⟩ ?_)
 refine CJ rfl rfl ?_;exact wB
theorem xW(k:ah)(p:Int):ah.enc .own (lC k p)=[.s .own (k.F.W.U.map (aF .own)),.s .own (k.F.W.a9.map (rB .own)),.s .own ((k.F.R.O.map (bh.enc .own)).set p.toNat (bh.enc .own ⟨0,0⟩)),I k.Calls,.s .own (k.a0.map (rI .own))]:=by grind [I6,lC,ah.enc]
theorem xp(h:aA k=true):aI.sml (lC k p).F.R:=by
 obtain⟨a,b,c⟩:=bx.1 (aD.1 h).2.2.1;exact⟨by grind [lC],λ_ _=>trivial⟩
theorem Px(k:ah)(p:Int)(b:aA k=true) :
  zzB 374 false [.ptr (ah.enc .own k),.val none [I p]] [.ptr (ah.enc .own (cy k p)),.val none [I p]] .one [B (decide ((ac k.F.R p).j≠0))]:=by
 have j:=bj b;have c:=eM k p j.1.2;by_cases a:(ac k.F.R p).j=0
 ·rw[show cy k p=k by unfold cy;rw[CC a]]
  refine fM 32 [(486,[2,0])] [] [(0,0),(0,0)] Tryz.func374 rfl (λu q=>?_)
  repeat'(first|refine gB ?_|(conv=>whnf);first|refine CF (c) ⟨CS k,⟨rfl,rfl⟩,trivial⟩ ?_)
  refine CJ rfl ?_ ?_
  ·exact X0 (λz=>[B z]) ((by simp[a]))
  exact wB
 obtain⟨l,r,n,d,o⟩:=bS b a;have h:=(aX.1 (aD.1 b).2.1).2.2.1;rw[show cy k p=fX (lC k p) (ac k.F.R p).e by unfold cy;rw[C9 a]];have e:=rC (lC k p) (ac k.F.R p).e (xp b) ⟨d,by grind [lC],by grind [lC]⟩;rw[xW]at e;have g:=ao (xs:=k.F.R.O) (i:=p.toNat) ω;rw[n]at c e a |-;refine fM 32 [(486,[2,0])] [] [(0,0),(0,0)] Tryz.func374 rfl (λu q=>?_)
 repeat'(first|refine gB ?_|(conv=>whnf);first|with_reducible refine CN l (aa g) ?_|refine CF (c) ⟨CS k,⟨rfl,rfl⟩,trivial⟩ ?_|refine CP rfl rfl (aa g) rfl (I1 rfl) rfl ?_|refine CH rfl (aa g) rfl ?_|refine CK (e) (.inl rfl) ?_)
 refine CJ rfl ?_ ?_
 ·exact X0 (λz=>[B z]) ((by simp[a]))
 exact wB
theorem EC(k:ah)(p:Int)(a:aA k=true)(o:k.Calls≠100000) :
  zzA 69 false [.val (some 5) (ah.enc .V k),.val none [I p]] (.tup [some 5,none]) (ah.enc .own (cy k p)++[B (decide ((ac k.F.R p).j≠0))]):=by
 have d:=bj a;have l:=ox k d;have e:=B8 k d;have c:=vq k p d.1.2;rw[a,O0 o]at e;by_cases b:(ac k.F.R p).j=0
 ·rw[show cy k p=k by unfold cy;rw[CC b]]
  rw[U0 (by simpa using b)]at c |-;refine fP 38 [(198,[2,0])] [] Tryz.func69 rfl ?_ (.inr (aQ (ah.enc_fr k) ⟨trivial,trivial⟩))
  repeat'(first|refine gP ?_|(conv=>whnf);first|refine C8 (l) ?_|refine C8 (e) ?_|refine C8 (c) ?_)
  all_goals rfl
 obtain⟨q,u,r,g,t⟩:=bS a b;have n:=(aX.1 (aD.1 a).2.1).2.2.1;rw[show cy k p=fX (lC k p) (ac k.F.R p).e by unfold cy;rw[C9 b]];have h:=Df (lC k p) (ac k.F.R p).e (xp a) ⟨g,by grind [lC],by grind [lC]⟩;rw[xW]at h;have j:=ao (xs:=k.F.R.O) (i:=p.toNat) ω;rw[O0 b]at c |-;rw[r]at h |-;refine fP 38 [(198,[2,0])] [] Tryz.func69 rfl ?_ (.inr (aQ (ah.enc_fr _) ⟨trivial,trivial⟩))
 repeat'(first|refine gP ?_|(conv=>whnf);first|with_reducible refine CN q (aa j) ?_|refine C8 (l) ?_|refine C8 (e) ?_|refine C8 (c) ?_|refine CP rfl rfl (aa j) rfl (I1 rfl) rfl ?_|refine CH rfl (aa j) rfl ?_|refine CK (h) (.inl rfl) ?_)
 all_goals rfl
def gd(n:Nat):bf:=⟨List.replicate n (List.replicate 16 0),List.replicate n false⟩
def eS(n:Nat):aI:=⟨List.replicate n ⟨0,0⟩⟩
def bV(p f:Nat)(a:List Int):ah:=⟨⟨gd f,eS p⟩,0,a⟩
def fF:aB:=⟨List.replicate 4 []⟩
def ew(n:Nat):aJ:=⟨List.replicate n [],List.replicate n []⟩
def newHeap(p f t:Nat)(lim:Int)(a:List Int):ab:=⟨bV p f a,[⟨0,p⟩],[],[],[],List.replicate t fF,ew t,⟨16,[]⟩,0,0,lim,1,false,⟨⟨0,0,[]⟩,0,0⟩⟩
theorem d8[Inhabited α]{y:α}(a:j<n):nth (List.replicate n y) j=y:=bg ψ
theorem MY(n:Nat)(f:Int):pagesOn (eS n) f=[]:=by grind [List.filter_eq_nil_iff,d8,pagesOn,jP,eS,LT]
theorem Bp{p f:Nat}(c:1<=p/\p<=32)(d:1<=f/\f<=32):aA (bV p f [])=true:=by
 rw[aD];refine⟨λj b=>by grind [bV],aX.2 ⟨by grind [bV,gd],by grind [bV,gd],by grind [bV,gd],λj b=>?_⟩,bx.2 ⟨λj b=>?_,by grind [bV,eS],by grind [bV,eS]⟩,λj b=>?_,by simp[bV],by simp[bV],by simp[bV]⟩
 ·have a:j<f:=by grind [bV,gd]
  rw[show nth (bV p f []).F.W.U j=List.replicate 16 0 from d8 a,show nth (bV p f []).F.W.a9 j=false from d8 a]
  decide
 all_goals grind [MY,bV,eS,nth,kF,gd]
theorem xX(w:World)(q:Nat)(a:Array Obj):bK NO w (Sort.grow (w.drewN q) a):=by
 have c:∀b,b<w.heap.size->(Sort.grow (w.drewN q) a).heap[b]? = w.heap[b]?:=λb c=>Sort.heap_grow_old (w.drewN q) a c
 refine⟨rfl,rfl,rfl,ψ,λb h _=>c b h,λb o h _=>?_,λb o h _=>?_⟩
 all_goals grind [Go.World.cell?,Go.World.frozen?,mp]
theorem KP(c:Nat)(W:World):Calls Tryz.prog 455 #[.slice none 0 c] W λe g=>∃B q h,e=.returned (.slice B 0 0)/\g=Sort.grow (W.drewN q) h:=by
 have q22:∀(w:World)(a:Option Addr)(n c b d:Nat),(binOp .eql 33 (.slice a n c) (.slice none b d)).run Tryz.prog w=.ok (.bool a.isNone) w:=λw a n c b d=>Lib.run_eql_slice_nil w _ _ a n c b d Tryz.underlying33
 go_enter Tryz.func455,Tryz.ntmps455
 go_wp2
 go_ret
 exact⟨none,0,#[],rfl,by simp[Sort.grow,World.drewN]⟩
theorem G2(a:Addr)(c:Nat)(W:World):Calls Tryz.prog 455 #[.slice (some a) 0 c] W λe g=>∃B q h,e=.returned (.slice B 0 0)/\g=Sort.grow (W.drewN q) h:=by
 have q22:∀(w:World)(a:Option Addr)(n c b d:Nat),(binOp .eql 33 (.slice a n c) (.slice none b d)).run Tryz.prog w=.ok (.bool a.isNone) w:=λw a n c b d=>Lib.run_eql_slice_nil w _ _ a n c b d Tryz.underlying33
 go_enter Tryz.func455,Tryz.ntmps455
 go_wp2
 go_ret
 exact⟨some ⟨W.heap.size,0,none⟩,0,#[.cells #[] 3],rfl,by rw[Sort.alloc_eq_grow];rfl⟩
theorem GF(xs:List Int)(o:xs.length<=1048576):zzA 455 false [.val none (aF .V xs)] .one (aF .own xs):=by
 by_cases c:xs=[]
 ·subst c
  refine⟨⟨_,Tryz.func455,by kernel_rfl,by kernel_rfl⟩,λw S p t d=>?_⟩
  match p,d with
  | [v],⟨d,_⟩=>
   have b:=bI.rep1 (show bI w S NO none [C.s .V []] v from d);obtain⟨l,g,rfl⟩:=b.slice;have r:Calls Tryz.prog 455 #[.slice l 0 g] w λe n=>∃B q i,e=.returned (.slice B 0 0)/\n=Sort.grow (w.drewN q) i:=by
    cases l with
    | none=>grind [KP]
    | some a=>grind [G2]
   refine r.mono λe n ⟨B,q,i,c,j⟩=>?_
   subst j;exact⟨.slice B 0 0,c,xX w q i,NO,NO,λ_ _ h=>h.elim,λ_ _ h=>h.elim,λ_ _ h=>h.elim,rfl,row1 (.nil _ .own B trivial)⟩
 have k:xs.map (rI .V)≠[]:=by simp_all
 refine fO 8 [] Tryz.func455 rfl ?_ (.inr (bM _))
 repeat'(first|refine gP ?_|(conv=>whnf);first|refine Nn.mk k ?_|refine CQ (λ_=>rfl) (λ_=>rfl) o (by decide) ?_)
 rfl
def zL(p:cC)(a:cC.sml p):zzA 332 false [.val (some 3) (cC.enc .V p)] .agg (cC.enc .own p):=by
 have b:p.U.length<=1048576:=a;refine fO 8 [] Tryz.func332 rfl ?_ (.inr (cC.enc_fr _))
 repeat'(first|refine gP ?_|(conv=>whnf);first|refine C8 (GF p.U b) ?_)
 rfl
def DW(j:cL)(a:cL.sml j):zzA 185 false [.val (some 5) (cL.enc .V j)] .agg (cL.enc .own j):=by
 refine fO 8 [] Tryz.func185 rfl ?_ (.inr (cL.enc_fr _))
 repeat'(first|refine gP ?_|(conv=>whnf);first|refine C8 (zL j.Y a) ?_)
 rfl
def iM(c:aB)(d:aB.sml c):zzA 204 false [.val (some 1) (aB.enc .V c)] .agg (aB.enc .own c):=by
 have g:=d.1;refine fO 26 [(5,10,[13,14,15,16,17,18,19,20,21,22])] Tryz.func204 rfl ?_ (.inr (aB.enc_fr _))
 repeat'(first|refine gP ?_|fail)
 (conv=>whnf)
 refine CG (ι:=Nat) (λi=>[(1,.H .box (aB.enc .V c)),(2,.H .box [.z]),(3,.H .box [.s .own ((c.a.take i).map (aF .own))]),(4,.H .one [I ((i:Nat):Int)])]) (λi=>i<=c.a.length) (λi=>c.a.length - i) (0) ?_ (W0 _) λi h=>?_
 ·exact wB
 by_cases a:i<c.a.length
 ·have e:=ao a
  have b:(nth c.a i).length<=1048576:=d.2 _ (am a)
  repeat'(first|refine gE ?_|(conv=>whnf);first|with_reducible refine CD (aa e) ?_|refine CV (λ_=>rfl) (λ_=>rfl) b (by decide) ?_|refine Ap.sn (aL λ_=>rfl) rfl (by simp;omega) (by decide) (fI a) ?_)
  ((conv=>whnf);refine CE (i+1) ω ω ?_;(exact wB))
 repeat'(first|refine gE ?_|fail)
 obtain rfl:i=c.a.length:=ω
 rw[C5]
 rfl
def oX(c:aB)(d:aB.sml c):zzA 182 false [.val (some 1) (aB.enc .V c)] .agg (aB.enc .own c):=by
 have g:=d.1;refine fO 23 [(5,5,[14,15,16,17,18])] Tryz.func182 rfl ?_ (.inr (aB.enc_fr _))
 repeat'(first|refine gP ?_|fail)
 (conv=>whnf)
 refine CG (ι:=Nat) (λi=>[(2,.H .box [.z]),(3,.H .box [.s .own ((c.a.take i).map (aF .own))]),(8,.H .one (jl .V c.a)),(9,.H .one [I (c.a.length)]),(10,.H .one [I ((i:Nat):Int)])]) (λi=>i<=c.a.length) (λi=>c.a.length - i) (0) ?_ (W0 _) λi h=>?_
 ·exact wB
 by_cases a:i<c.a.length
 ·have e:=ao a
  have b:(nth c.a i).length<=1048576:=d.2 _ (am a)
  repeat'(first|refine gE ?_|(conv=>whnf);first|with_reducible refine CD (aa e) ?_|refine C8 (jD (nth c.a i) b) ?_|refine Ap.sn (aL λ_=>rfl) rfl (by simp;omega) (by decide) (fI a) ?_)
  ((conv=>whnf);refine CE (i+1) ω ω ?_;(exact wB))
 repeat'(first|refine gE ?_|fail)
 obtain rfl:i=c.a.length:=ω
 rw[C5]
 rfl
def fT(m:aJ)(b:aJ.sml m):zzA 205 false [.val (some 2) (aJ.enc .V m)] .agg (aJ.enc .own m):=by
 have h:=b.1.1;have g:=b.2.1;refine fO 46 [(5,10,[14,15,16,17,18,19,20,21,22,23]),(9,10,[33,34,35,36,37,38,39,40,41,42])] Tryz.func205 rfl ?_ (.inr (Cf _))
 repeat'(first|refine gP ?_|fail)
 (conv=>whnf)
 refine CG (ι:=Nat) (λi=>[(1,.H .box (aJ.enc .V m)),(2,.H .box [.z,.z]),(3,.H .box [.s .own ((m.T.take i).map (cb .own)),.z]),(4,.H .one [I ((i:Nat):Int)])]) (λi=>i<=m.T.length) (λi=>m.T.length - i) (0) ?_ (W0 _) λi j=>?_
 ·exact wB
 by_cases c:i<m.T.length
 ·have d:=ao c
  have a:(nth m.T i).length<=1048576:=(b.1.2 _ (am c)).1
  repeat'(first|refine gE ?_|(conv=>whnf);first|with_reducible refine CD (aa d) ?_|refine CV (λ_=>rfl) (λ_=>rfl) a (by decide) ?_|refine Ap.sn (aL λ_=>rfl) rfl (by simp;omega) (by decide) (fI c) ?_)
  ((conv=>whnf);refine CE (i+1) ω ω ?_;(exact wB))
 obtain rfl:i=m.T.length:=ω
 rw[C5]
 repeat'(first|refine gE ?_|fail)
 (conv=>whnf)
 refine CG (ι:=Nat) (λk=>[(1,.H .box (aJ.enc .V m)),(2,.H .box [.z,.z]),(3,.H .box [.s .own (m.T.map (cb .own)),.s .own ((m.y.take k).map (aF .own))]),(5,.H .one [I ((k:Nat):Int)])]) (λk=>k<=m.y.length) (λk=>m.y.length - k) (0) ?_ (W0 _) λk l=>?_
 ·exact wB
 by_cases e:k<m.y.length
 ·have d:=ao e
  have a:(nth m.y k).length<=1048576:=b.2.2 _ (am e)
  repeat'(first|refine gE ?_|(conv=>whnf);first|with_reducible refine CD (aa d) ?_|refine CV (λ_=>rfl) (λ_=>rfl) a (by decide) ?_|refine Ap.sn (aL λ_=>rfl) rfl (by simp;omega) (by decide) (fI e) ?_)
  ((conv=>whnf);refine CE (k+1) ω ω ?_;(exact wB))
 repeat'(first|refine gE ?_|fail)
 obtain rfl:k=m.y.length:=ω
 rw[C5]
 rfl
def qy(m:aJ)(b:aJ.sml m):zzA 183 false [.val (some 2) (aJ.enc .V m)] .agg (aJ.enc .own m):=by
 have h:=b.1.1;have g:=b.2.1;refine fO 41 [(5,6,[16,17,18,19,20,21]),(10,5,[32,33,34,35,36])] Tryz.func183 rfl ?_ (.inr (Cf _))
 repeat'(first|refine gP ?_|fail)
 (conv=>whnf)
 refine CG (ι:=Nat) (λi=>[(1,.H .box (aJ.enc .V m)),(2,.H .box [.z,.z]),(3,.H .box [.s .own ((m.T.take i).map (cb .own)),.z]),(10,.H .one (yz .V m.T)),(11,.H .one [I (m.T.length)]),(12,.H .one [I ((i:Nat):Int)])]) (λi=>i<=m.T.length) (λi=>m.T.length - i) (0) ?_ (W0 _) λi j=>?_
 ·exact wB
 by_cases c:i<m.T.length
 ·have d:=ao c
  have a:(nth m.T i).length<=1048576:=(b.1.2 _ (am c)).1
  repeat'(first|refine gE ?_|(conv=>whnf);first|with_reducible refine CD (aa d) ?_|refine CV (λ_=>rfl) (λ_=>rfl) a (by decide) ?_|refine Ap.sn (aL λ_=>rfl) rfl (by simp;omega) (by decide) (fI c) ?_)
  ((conv=>whnf);refine CE (i+1) ω ω ?_;(exact wB))
 obtain rfl:i=m.T.length:=ω
 rw[C5]
 repeat'(first|refine gE ?_|fail)
 (conv=>whnf)
 refine CG (ι:=Nat) (λk=>[(2,.H .box [.z,.z]),(3,.H .box [.s .own (m.T.map (cb .own)),.s .own ((m.y.take k).map (aF .own))]),(26,.H .one (jl .V m.y)),(27,.H .one [I (m.y.length)]),(28,.H .one [I ((k:Nat):Int)])]) (λk=>k<=m.y.length) (λk=>m.y.length - k) (0) ?_ (W0 _) λk l=>?_
 ·exact wB
 by_cases e:k<m.y.length
 ·have d:=ao e
  have a:(nth m.y k).length<=1048576:=b.2.2 _ (am e)
  repeat'(first|refine gE ?_|(conv=>whnf);first|with_reducible refine CD (aa d) ?_|refine C8 (jD (nth m.y k) a) ?_|refine Ap.sn (aL λ_=>rfl) rfl (by simp;omega) (by decide) (fI e) ?_)
  ((conv=>whnf);refine CE (k+1) ω ω ?_;(exact wB))
 repeat'(first|refine gE ?_|fail)
 obtain rfl:k=m.y.length:=ω
 rw[C5]
 rfl
def rV(q:b8)(b:b8.sml q):zzA 206 false [.val (some 2) (b8.enc .V q)] .agg (b8.enc .own q):=by
 have a:q.a1.length<=1048576:=b.1;refine fO 10 [(1,6,[3,4,5,6,7,8])] Tryz.func206 rfl ?_ (.inr (b8.enc_fr _))
 repeat'(first|refine gP ?_|(conv=>whnf);first|refine CV (λ_=>rfl) (λ_=>rfl) a (by decide) ?_|refine CQ (λ_=>rfl) (λ_=>rfl) a (by decide) ?_)
 rfl
def qo(q:b8)(b:b8.sml q):zzA 184 false [.val (some 2) (b8.enc .V q)] .agg (b8.enc .own q):=by
 have a:q.a1.length<=1048576:=b.1;refine fO 10 [(1,6,[3,4,5,6,7,8])] Tryz.func184 rfl ?_ (.inr (b8.enc_fr _))
 repeat'(first|refine gP ?_|(conv=>whnf);first|refine CV (λ_=>rfl) (λ_=>rfl) a (by decide) ?_|refine CQ (λ_=>rfl) (λ_=>rfl) a (by decide) ?_)
 rfl
def sC(j:cL)(a:cL.sml j):zzA 207 false [.val (some 5) (cL.enc .V j)] .agg (cL.enc .own j):=by
 have b:j.Y.U.length<=1048576:=a;refine fO 11 [] Tryz.func207 rfl ?_ (.inr (cL.enc_fr _))
 repeat'(first|refine gP ?_|(conv=>whnf);first|refine CQ (λ_=>rfl) (λ_=>rfl) b (by decide) ?_)
 rfl
def o8(xs:List a7)(a:gu xs):zzA 181 false [.val none (bB .V xs)] .one (bB .own xs):=by
 have b:=a.1;refine fO 6 [] Tryz.func181 rfl ?_ (.inr (mh _))
 repeat'(first|refine gP ?_|(conv=>whnf);first|refine CQ (λ_=>rfl) (λ_=>rfl) b (by decide) ?_)
 rfl
def Tt(h:ab)(a:C):List C:=[.s .own (h.G.F.W.U.map (aF .own)),.s .own (h.G.F.W.a9.map (rB .own)),.s .own (h.G.F.R.O.map (bh.enc .own)),I h.G.Calls,.s .own (h.G.a0.map (rI .own)),.s .own (h.q.map (a7.enc .own)),.s .own (h.K.map (ax.enc .own)),.s .own (h.J.map (ay.enc .own)),.s .own (h.M.map (aY.enc .own)),a,.s .V (h.w.T.map (cb .V)),.s .V (h.w.y.map (aF .V)),I h.a6.c0,.s .V (h.a6.a1.map (aO.enc .V)),I h.c1,I h.b3,I h.c4,I h.b,B h.u,I h.Z.Y.a5,I h.Z.Y.a4,.s .V (h.Z.Y.U.map (rI .V)),I h.Z.b2,I h.Z.b]
def Nr:List C:=[.z,.z,.z,I 0,.z,.z,.z,.z,.z,.z,.z,.z,I 0,.z,I 0,I 0,I 0,I 0,B false,I 0,I 0,.z,I 0,I 0]
def Dt(h:ab)(c:ab.sml h):zzA 72 false [.val (some 24) (ab.enc .V h)] .agg (ab.enc .own h):=by
 obtain⟨d,e,g,j,k,b,l,n,o⟩:=c;have p:=e.1;have q:=g.1;have r:=j.1;have t:=k.1;have w:=b.1;refine fO 61 [] Tryz.func72 rfl ?_ (.inr (ab.enc_fr _))
 repeat'(first|refine gP ?_|(conv=>whnf);first|refine C8 (BQ h.G d) ?_|refine CQ (λ_=>rfl) (λ_=>rfl) p (by decide) ?_|refine CQ (λ_=>rfl) (λ_=>rfl) q (by decide) ?_|refine CQ (λ_=>rfl) (λ_=>rfl) r (by decide) ?_|refine CQ (λ_=>rfl) (λ_=>rfl) t (by decide) ?_)
 (conv=>whnf)
 refine CG (ι:=Nat) (λi=>[(1,.H .box (Tt h (.s .V (h.S.map (aB.enc .V))))),(2,.H .box Nr),(3,.H .one ([.s .own ((h.S.take i).map (aB.enc .own))])),(4,.H .one [I ((i:Nat):Int)])]) (λi=>i<=h.S.length) (λi=>h.S.length - i) (0) ?_ (W0 _) λi y=>?_
 ·exact wB
 by_cases a:i<h.S.length
 ·have u:=ao a
  repeat'(first|refine gE ?_|(conv=>whnf);first|with_reducible refine CD (aa u) ?_|refine C8 (iM (nth h.S i) (b.2 _ (am a))) ?_|refine Ap.sn (aL λ_=>rfl) rfl (by simp;omega) (by decide) (fI a) ?_)
  ((conv=>whnf);refine CE (i+1) ω ω ?_;(exact wB))
 obtain rfl:i=h.S.length:=ω
 rw[C5]
 repeat'(first|refine gE ?_|(conv=>whnf);first|refine C8 (fT h.w l) ?_|refine C8 (rV h.a6 n) ?_|refine C8 (sC h.Z o) ?_)
 rfl
def zl(h:ab)(c:ab.sml h):zzA 62 false [.val (some 24) (ab.enc .V h)] .agg (ab.enc .own h):=by
 obtain⟨d,e,g,j,k,b,l,n,o⟩:=c;have p:=g.1;have q:=j.1;have r:=k.1;have u:=b.1;refine fO 59 [(11,5,[38,39,40,41,42])] Tryz.func62 rfl ?_ (.inr (ab.enc_fr _))
 repeat'(first|refine gP ?_|(conv=>whnf);first|refine C8 (ox h.G d) ?_|refine C8 (o8 h.q e) ?_|refine CQ (λ_=>rfl) (λ_=>rfl) p (by decide) ?_|refine CQ (λ_=>rfl) (λ_=>rfl) q (by decide) ?_|refine CQ (λ_=>rfl) (λ_=>rfl) r (by decide) ?_)
 (conv=>whnf)
 refine CG (ι:=Nat) (λi=>[(1,.H .box (ab.enc .V h)),(2,.H .box Nr),(3,.H .box (Tt h (.s .own ((h.S.take i).map (aB.enc .own))))),(32,.H .one (pm .V h.S)),(33,.H .one [I (h.S.length)]),(34,.H .one [I ((i:Nat):Int)])]) (λi=>i<=h.S.length) (λi=>h.S.length - i) (0) ?_ (W0 _) λi w=>?_
 ·exact wB
 by_cases a:i<h.S.length
 ·have t:=ao a
  repeat'(first|refine gE ?_|(conv=>whnf);first|with_reducible refine CD (aa t) ?_|refine C8 (oX (nth h.S i) (b.2 _ (am a))) ?_|refine Ap.sn (aL λ_=>rfl) rfl (by simp;omega) (by decide) (fI a) ?_)
  ((conv=>whnf);refine CE (i+1) ω ω ?_;(exact wB))
 obtain rfl:i=h.S.length:=ω
 rw[C5]
 repeat'(first|refine gE ?_|(conv=>whnf);first|refine C8 (qy h.w l) ?_|refine C8 (qo h.a6 n) ?_|refine C8 (DW h.Z o) ?_)
 rfl
theorem Ap.sm{a:List (List C)}{r:List C}(h1:∀r∈rows,r.length=sz)(e:r.length=sz)(f:rows.length+1<=1073741824)(b:by_<=1000)(c:a=rows++[r])(d:K a):Ap false rows [r] sz by_ K:=
 CU h1 ψ ψ (by simp;omega) (Z4 (Nat.mul_le_mul ω b) (by decide)) c d
def CY:type_of% @Ap.sm:=@Ap.sm
theorem Ap.s2{c:List (List C)}{a b:List C}(h1:∀r∈rows,r.length=sz)(g:a.length=sz)(h:b.length=sz)(i:rows.length+2<=1073741824)(d:by_<=1000)(e:c=rows++[a,b])(f:K c):Ap false rows [a,b] sz by_ K:=
 CU h1 ψ ψ (by simp;omega) (Z4 (Nat.mul_le_mul ω d) (by decide)) e f
def uy(y:a7)(a:List a7)(r:a7)(out:List a7)(done:Bool):ja (y::a) r out done=if ovl y r then none
  else if y.At+y.b0=r.At then ja a ⟨y.At,y.b0+r.b0⟩ out done
  else if r.At+r.b0=y.At then ja a ⟨r.At,r.b0+y.b0⟩ out done
  else if y.At > r.At/\done=false then ja a r (out++[r,y]) true
  else ja a r (out++[y]) done:=by rw[ja]
variable{xs:List a7}{pages:Int}
theorem wl(h:bC pages xs=true):jo xs/\∀y∈xs,0<=y.At/\1<=y.b0/\y.At+y.b0<=pages:=by
 unfold bC at h;simp only[I0,C0]at h;have d:∀i,i<xs.length->1<=(nth xs i).b0/\0<=(nth xs i).At/\(nth xs i).At<=pages - (nth xs i).b0:=λi a=>by grind [eZ,gh,rangeIn]
 have e:∀i,i+1<xs.length->(nth xs i).At+(nth xs i).b0<(nth xs (i+1)).At:=λi a=>by grind [eZ,gh]
 have f:∀j i,i<j->j<xs.length->(nth xs i).At+(nth xs i).b0<(nth xs j).At:=λj=>by
  induction j with
  | zero=>intro i a;omega
  | succ j k=>
   grind
 refine⟨⟨?_,λy g=>?_⟩,λy g=>?_⟩
 ·rw[List.pairwise_iff_getElem]
  intro i j a c b;have:=f j i b c
  rwa [bg (O2 a),bg (O2 c)]at this
 all_goals grind [aM]
theorem gt[Inhabited α]{xs:List α}(a:i<xs.length):xs.drop i=nth xs i::xs.drop (i+1):=by
 rw[List.drop_eq_getElem_cons a,bg (O2 a)]
def cn(pages:Int)(xs:List a7)(r:a7):Option (List a7):=if bC pages xs=true/\rangeIn pages r=true then ja xs r [] false else none
def BE(xs:List a7)(o:Option (List a7)):List C:=bB .own (o.getD xs)++[B o.isSome]
def kV(xs:List a7)(o:Option (List a7)):gW (BE xs o):=aQ (mh _) ⟨trivial,trivial⟩
theorem zn(pages:Int)(xs:List a7)(r:a7)(w:0<=pages/\pages<=1048576)(l:gu xs):zzA 254 false [.val none [I pages],.val none (bB .V xs),.val (some 2) (a7.enc .V r)] (.tup [none,none]) (BE xs (cn pages xs r)):=by
 have L:=l.1;have j:=qu pages xs w l;have n:=y3 pages r w;have o:=o8 xs l;cases k:bC pages xs<;>rw[k]at j
 ·rw[show cn pages xs r=none by unfold cn;rw[C9 (by rw[k];simp)]]
  refine fO 111 [] Tryz.func254 rfl ?_ (.inr (kV _ _))
  repeat'(first|refine gP ?_|(conv=>whnf);first|refine C8 (j) ?_|refine C8 (o) ?_)
  rfl
 cases p:rangeIn pages r<;>rw[p]at n
 ·rw[show cn pages xs r=none by unfold cn;rw[C9 (by rw[p];simp)]]
  refine fO 111 [] Tryz.func254 rfl ?_ (.inr (kV _ _))
  repeat'(first|refine gP ?_|(conv=>whnf);first|refine C8 (j) ?_|refine C8 (n) ?_|refine C8 (o) ?_)
  rfl
 rw[show cn pages xs r=ja xs r [] false by unfold cn;rw[CC ⟨k,p⟩]];obtain⟨M,G⟩:=wl k;have H:0<=r.At/\1<=r.b0/\r.At+r.b0<=pages:=by grind [rangeIn]
 refine fO 111 [] Tryz.func254 rfl ?_ (.inr (kV _ _))
 repeat'(first|refine gP ?_|(conv=>whnf);first|refine C8 (j) ?_|refine C8 (n) ?_)
 (conv=>whnf)
 refine CG (ι:=Nat × a7 × List a7 × Bool) (λq=>[(1,.H .one (bB .V xs)),(5,.H .box (a7.enc .V q.2.1)),(8,.H .one (bB .own q.2.2.1)),(9,.H .one [B (q.2.2.2)]),(25,.H .one (bB .V xs)),(26,.H .one [I (xs.length)]),(27,.H .one [I ((q.1:Nat):Int)])]) (λq=>q.1<=xs.length/\ja (xs.drop q.1) q.2.1 q.2.2.1 q.2.2.2=ja xs r [] false/\(0<=q.2.1.At/\1<=q.2.1.b0/\q.2.1.At+q.2.1.b0<=pages)/\q.2.2.1.length<=2*q.1) (λq=>xs.length - q.1) ((0,r,[],false)) ?_ (⟨W0 _,rfl,H,W0 _⟩) λq c=>?_
 ·exact wB
 obtain⟨i,d,out,done⟩:=q;obtain⟨J,b,e,t⟩:=c;simp only at J b e t |-;by_cases u:i<xs.length
 ·have g:=ao u
  have N:=G _ (am u);rw[gt u]at b;by_cases h:ovl (nth xs i) d=true
  ·rw[<-b]
   rw[uy,CC h];unfold ovl at h;rw[C0]at h
   repeat'(first|refine gE ?_|(conv=>whnf);first|with_reducible (first|refine CD (aa g) ?_|refine Bf.D (λc=>?_) (λc=>?_))|refine C8 (o) ?_)
   rfl
  have a:=b;rw[uy,C9 h]at a;unfold ovl at h;rw[C0]at h;by_cases y:(nth xs i).At+(nth xs i).b0=d.At
  ·rw[CC y]at a
   repeat'(first|refine gB ?_|(conv=>whnf);first|with_reducible (first|refine CD (aa g) ?_|refine Bf.D (λc=>?_) (λc=>?_)))
   ((conv=>whnf);refine CE (i+1,⟨(nth xs i).At,(nth xs i).b0+d.b0⟩,out,done) ⟨(by simp only;omega),a,(by simp only;omega),(by simp only;omega)⟩ (by simp only;omega) ?_;(exact wB))
  rw[C9 y]at a;by_cases F:d.At+d.b0=(nth xs i).At
  ·rw[CC F]at a
   repeat'(first|refine gB ?_|(conv=>whnf);first|with_reducible (first|refine CD (aa g) ?_|refine Bf.D (λc=>?_) (λc=>?_)|refine Bf.E (λc=>?_) (λc=>?_)))
   ((conv=>whnf);refine CE (i+1,⟨d.At,d.b0+(nth xs i).b0⟩,out,done) ⟨(by simp only;omega),a,(by simp only;omega),(by simp only;omega)⟩ (by simp only;omega) ?_;(exact wB))
  rw[C9 F]at a;by_cases K:(nth xs i).At > d.At
  ·cases done with
   | false=>
    rw[CC ⟨K,rfl⟩]at a
    repeat'(first|refine gB ?_|(conv=>whnf);first|with_reducible (first|refine CD (aa g) ?_|refine Bf.D (λc=>?_) (λc=>?_)|refine Bf.E (λc=>?_) (λc=>?_))|refine Ap.s2 (aL λ_=>rfl) rfl rfl (by simp;omega) (by decide) rfl ?_)
    ((conv=>whnf)
     refine CE (i+1,d,out++[d,nth xs i],true) ⟨(by simp only;omega),a,e,(by simp;omega)⟩ (by simp only;omega) ?_
     (repeat'(first|exact trivial|rfl|exact CL rfl (CL (X0 (C.s dJ.own) (by simp[a7.enc])) trivial)|refine CL ?_ ?_)))
   | true=>
    rw[C9 (by simp)]at a
    repeat'(first|refine gB ?_|(conv=>whnf);first|with_reducible (first|refine CD (aa g) ?_|refine Bf.D (λc=>?_) (λc=>?_)|refine Bf.E (λc=>?_) (λc=>?_))|refine CY (aL λ_=>rfl) rfl (by simp;omega) (by decide) rfl ?_)
    ((conv=>whnf)
     refine CE (i+1,d,out++[nth xs i],true) ⟨(by simp only;omega),a,e,(by simp;omega)⟩ (by simp only;omega) ?_
     (repeat'(first|exact trivial|rfl|exact CL rfl (CL (X0 (C.s dJ.own) (by simp[a7.enc])) trivial)|refine CL ?_ ?_)))
  rw[C9 ω]at a
  repeat'(first|refine gB ?_|(conv=>whnf);first|with_reducible (first|refine CD (aa g) ?_|refine Bf.D (λc=>?_) (λc=>?_)|refine Bf.E (λc=>?_) (λc=>?_))|refine CY (aL λ_=>rfl) rfl (by simp;omega) (by decide) rfl ?_)
  ((conv=>whnf)
   refine CE (i+1,d,out++[nth xs i],done) ⟨(by simp only;omega),a,e,(by simp;omega)⟩ (by simp only;omega) ?_
   (repeat'(first|exact trivial|rfl|exact CL rfl (CL (X0 (C.s dJ.own) (by simp[a7.enc])) trivial)|refine CL ?_ ?_)))
 obtain rfl:i=xs.length:=ω
 rw[List.drop_length]at b;cases done with
 | false=>
  rw[<-b]
  repeat'(first|refine gE ?_|(conv=>whnf);first|refine CY (aL λ_=>rfl) rfl (by simp;omega) (by decide) rfl ?_)
  show [C.s dJ.own _,B true]=[C.s dJ.own _,B true]
  grind [ja,a7.enc]
 | true=>
  rw[<-b]
  repeat'(first|refine gE ?_|fail)
  rfl
theorem wj[Inhabited α](R:Int->Int->Prop)(n:∀a b c,R a b->R b c->R a c)(f:α->Int)(xs:List α):(∀i,i<xs.length->i=0\/R (f (nth xs (i - 1))) (f (nth xs i)))↔xs.Pairwise (λa b=>R (f a) (f b)):=by
 constructor
 ·intro h
  have l:∀j i,i<j->j<xs.length->R (f (nth xs i)) (f (nth xs j)):=λj=>by
   induction j with
   | zero=>intro i d;omega
   | succ j o=>
    grind
  rw[List.pairwise_iff_getElem];intro i j d k g;have:=l j i g k
  rwa [bg (O2 d),bg (O2 k)]at this
 intro h i d;by_cases e:i=0
 ·exact .inl e
 right
 have:=List.pairwise_iff_getElem.1 h (i - 1) i ω d ω
 rwa [<-bg (O2 (show i - 1<xs.length by omega)),<-bg (O2 d)]at this
theorem AJ[Inhabited α](f:α->Int)(xs:List α):(∀i,i<xs.length->∀o∈xs.take i,f o≠f (nth xs i))↔(xs.map f).Nodup:=by
 unfold List.Nodup;rw[List.pairwise_map,List.pairwise_iff_getElem];constructor
 ·intro h i j b a c
  have:=h j a xs[i] (List.mem_take_iff_getElem.2 ψ)
  rwa [bg (O2 a)]at this
 intro h i b o d;obtain⟨j,a,rfl⟩:=List.mem_take_iff_getElem.1 d;rw[bg (O2 b)]
 grind
def eC(s:ax)(a:Int):Prop:=16*s.Q<=a/\a<=16*s.Q+15/\(a - 16*s.Q) % csz s.d=0/\aW s.b1 ((a - 16*s.Q) / csz s.d)=true
def jF(sp:List ax)(a c:Int):Prop:=∃s∈sp,eC s a/\(c<0\/s.d=c)
def TN(la:List ay)(a z:Int):Prop:=∃l∈la,a=16*l.Q/\l.o=z
def Pn(sp:List ax)(la:List ay)(o:aY):Prop:=(∃s∈sp,eC s o.Addr/\s.d=aG o.o)\/TN la o.Addr o.o
def mU(sp:List ax)(la:List ay)(a:Int):Prop:=jF sp a (-1)\/∃l∈la,a=16*l.Q
theorem mO(f:oD sp la)(a:Int):(∃i,i<sp.length/\(16*(nth sp i).Q<=a/\a<=16*(nth sp i).Q+15)/\denotes sp la a=nX i (nth sp i) a)\/((∀s∈sp,¬(16*s.Q<=a/\a<=16*s.Q+15))/\((∃i,i<la.length/\bp (nth la i) a=true/\denotes sp la a = ⟨3,i,0,a - 16*(nth la i).Q⟩)\/((∀l∈la,bp l a=false)/\denotes sp la a = ⟨0,0,0,0⟩))):=by
 cases d:sp.findIdx? (cW · a) with
 | some i=>
  obtain⟨b,c,-⟩:=C7.1 d;rw[<-bg (O2 b)]at c
  grind [fy,oD.sok,am,denotes]
 | none=>
  have g:=List.findIdx?_eq_none_iff.1 d;refine .inr ⟨λs h j=>?_,?_⟩
  ·grind [fy,oD.sok]
  cases e:la.findIdx? (bp · a) with
  | some i=>
   obtain⟨b,c,-⟩:=C7.1 e;rw[<-bg (O2 b)]at c
   grind [denotes]
  | none=>grind [denotes]
theorem NV(l:oD h.K h.J){c:Int} : d3 h a c=true↔jF h.K a c:=by
 unfold d3;simp only[I0,O6,C0];constructor
 ·rintro⟨⟨b,f⟩,d⟩
  rcases mO l a with⟨i,j,k,g⟩|⟨-,⟨i,j,-,g⟩|⟨-,g⟩⟩
  ·rw[g]at b f d
   simp only[nX]at b f d;refine⟨_,am j,⟨k.1,k.2,f,?_⟩,by simpa using d⟩;cases e:aW (nth h.K i).b1 ((a - 16*(nth h.K i).Q) / csz (nth h.K i).d) with
   | true=>rfl
   | false=>rw[e]at b;simp at b
  all_goals grind
 rintro⟨s,n,⟨o,p,q,r⟩,d⟩
 grind [aM,ib,nX]
theorem xN(a:oD sp la)(c:l∈la):(∀s∈sp,¬(16*s.Q<=16*l.Q/\16*l.Q<=16*s.Q+15))/\bp l (16*l.Q)=true/\∀i,i<la.length->bp (nth la i) (16*l.Q)=true->nth la i=l:=by
 have k:=aK (a.lok _ c);have f:=cX (a.lok _ c);refine⟨λs g n=>?_,?_,λi d e=>?_⟩
 ·exact a.dis s g l c 0 ω ω
 ·grind [oD.lok,bp]
 obtain⟨j,h,rfl⟩:=aM c;have o:=aK (a.lok _ (am d));have b:=a.lok _ (am d);unfold bH at b;rw[C0]at b;unfold bp at e;rw[I0,C0]at e;rw[a.one i j d h ((nth la j).Q - (nth la i).Q).toNat 0 ω ω ω]
theorem Pc(f:oD h.K h.J) : iI h o=true↔Pn h.K h.J o:=by
 unfold iI;simp only[I0,O6,C0];constructor
 ·rintro⟨b,a⟩
  rcases mO f o.Addr with⟨i,d,g,c⟩|⟨-,⟨i,d,-,c⟩|⟨-,c⟩⟩
  ·rw[c]at a b
   simp only[nX]at a b;have e:aW (nth h.K i).b1 ((o.Addr - 16*(nth h.K i).Q) / csz (nth h.K i).d)=true:=ψ
   rw[e]at a;exact .inl ⟨_,am d,⟨g.1,g.2,b,e⟩,by simpa using a⟩
  ·rw[c]at a b
   simp only at a b;exact .inr ⟨_,am d,ω,by simpa using a⟩
  grind
 rintro(⟨s,e,⟨k,n,p,q⟩,r⟩|⟨l,j,t,u⟩)
 ·grind [aM,ib,nX]
 obtain⟨w,y,A⟩:=xN f j
 grind [mO,am]
theorem EX(j:oD sp la)(a:Int):a∈k6 sp la↔mU sp la a:=by
 constructor
 ·intro h
  unfold k6 lZ at h;obtain⟨n,o,rfl⟩:=O4.1 h;have c:=(U4.1 o).2;unfold ky at c;simp only[I0,O6,C0]at c;obtain⟨b,d⟩:=c;rcases mO j (n:Int) with⟨i,g,k,f⟩|⟨-,⟨i,g,-,f⟩|⟨-,f⟩⟩
  ·rw[f]at d b
   simp only[nX]at d b;refine .inl ⟨_,am g,⟨k.1,k.2,b,?_⟩,.inl ω⟩;cases e:aW (nth sp i).b1 (((n:Int) - 16*(nth sp i).Q) / csz (nth sp i).d) with
   | true=>rfl
   | false=>rw[e]at d;simp at d
  ·rw[f]at b
   simp only at b;exact .inr ⟨_,am g,ω⟩
  grind
 rintro(⟨s,q,⟨r,c,t,u⟩,-⟩|⟨l,p,rfl⟩)
 ·grind [aM,ib,wi,nX]
 obtain⟨w,y,A⟩:=xN j p
 grind [mO,am,wi]
def RH(xs:List a7)(p:Int):Prop:=∃r∈xs,r.At<=p/\p<r.At+r.b0
theorem fV : bC pages xs=true↔jo xs/\(∀y∈xs,0<=y.At/\1<=y.b0/\y.At+y.b0<=pages)/\1<=pages/\pages<=32:=by
 constructor
 ·grind [wl,bC]
 rintro⟨b,c,d⟩
 unfold bC;simp only[I0,C0];refine⟨cF.2 λi a=>?_,d⟩;have f:=c _ (am a);unfold gh rangeIn;simp only[I0,C0];refine⟨ω,?_⟩;by_cases e:i=0
 ·exact .inl e
 right
 have:=List.pairwise_iff_getElem.1 b.1 (i - 1) i ω a ω
 rwa [<-bg (O2 (show i - 1<xs.length by omega)),<-bg (O2 a)]at this
theorem FZ(h:bC pages xs=true)(p:Int):xs.any (vH p)=true↔RH xs p:=by
 obtain⟨-,c,d⟩:=fV.1 h;rw[t4];refine⟨λ⟨r,a,b⟩=>⟨r,a,?_⟩,λ⟨r,a,b⟩=>⟨r,a,?_⟩⟩
 all_goals grind [fo,vH]
theorem vY(i:Int):∀(f:List a7)(r:a7)(out:List a7),jo f->1<=r.b0->(∀y∈f,ovl y r=false)->(∀z∈out,z.At+z.b0<r.At/\∀y∈f,z.At+z.b0<y.At)->jo out->(∀y∈r::(out++f),0<=y.At/\y.At+y.b0<=i)->∃o,ja f r out false=some o/\jo o/\(∀y∈o,0<=y.At/\y.At+y.b0<=i)/\∀p,RH o p↔RH out p\/RH f p\/(r.At<=p/\p<r.At+r.b0)
 | [],r,out,_,l,_,D,g,j=>by
  refine⟨out++[r],by simp[ja],⟨List.pairwise_append.2 ⟨g.1,List.pairwise_singleton ..,ψ⟩,λy k=>?_⟩,ψ,λp=>by grind [RH]⟩;rcases C3.1 k with k|k
  ·exact g.2 y k
  grind
 | y::f,r,out,c,l,E,D,g,j=>by
  have M:=c.2 y ψ;have h:=E y ψ;have F:=c.head;have G:=j y (by simp);have H:=j r (by simp);have J:∀w∈f,¬(w.At<r.At+r.b0/\r.At<w.At+w.b0):=λw d=>by grind [ovl]
  have K:∀w∈f,1<=w.b0:=λw d=>c.2 w ψ
  rw[uy,C9 (by rw[h];simp)];unfold ovl at h;rw[X4]at h;by_cases n:y.At+y.b0=r.At
  ·rw[CC n]
   obtain⟨o,q,t,u,A⟩:=vY i f ⟨y.At,y.b0+r.b0⟩ out c.tail (by simp only;omega) (λw d=>by grind [ovl]) ψ g ψ
   grind [RH]
  rw[C9 n];by_cases B:r.At+r.b0=y.At
  ·rw[CC B]
   obtain⟨o,q,t,u,A⟩:=vY i f ⟨r.At,r.b0+y.b0⟩ out c.tail (by simp only;omega) (λw d=>by grind [ovl]) ψ g ψ
   grind [RH]
  rw[C9 B];by_cases C:y.At > r.At
  ·have L:r.At+r.b0<y.At:=ω
   rw[CC ⟨C,rfl⟩,pP c.tail l ψ];refine⟨_,rfl,⟨?_,λw d=>?_⟩,ψ,λp=>by grind [RH]⟩
   ·rw[W5]
    refine List.pairwise_append.2 ⟨g.1,?_,λa N b j=>?_⟩
    ·show(r::y::f).Pairwise _
     refine List.pairwise_cons.2 ⟨λw d=>?_,c.1⟩
     grind
    grind
   simp only[C3,List.mem_cons,List.not_mem_nil,or_false]at d;rcases d with(d|rfl|rfl)|d
   ·exact g.2 w d
   all_goals grind
  rw[C9 λe=>C e.1];obtain⟨o,q,t,u,A⟩:=vY i f r (out++[y]) c.tail l ψ ψ ⟨List.pairwise_append.2 ⟨g.1,List.pairwise_singleton ..,ψ⟩,λw d=>by
      rcases C3.1 d with d|d
      · exact g.2 w d
      grind⟩ ψ
  grind [RH]
theorem uN{r:a7}(h:bC pages xs=true)(i:0<=r.At/\1<=r.b0/\r.At+r.b0<=pages)(c:∀p,r.At<=p->p<r.At+r.b0->¬RH xs p):∃o,cn pages xs r=some o/\bC pages o=true/\∀p,RH o p↔RH xs p\/(r.At<=p/\p<r.At+r.b0):=by
 obtain⟨j,k,l⟩:=fV.1 h;have b:rangeIn pages r=true:=by grind [rangeIn]
 unfold cn;rw[CC ⟨h,b⟩];obtain⟨o,n,d,f,q⟩:=vY pages xs r [] j i.2.1 (λy a=>by
   have:=k y a;unfold ovl;rw[X4];intro g;by_cases e:r.At<=y.At
   · exact c y.At e g.1 ⟨y,a,ω,ω⟩
   exact c r.At ω ω ⟨y,a,ω,g.2⟩) ψ ⟨List.Pairwise.nil,ψ⟩ ψ
 refine⟨o,n,fV.2 ⟨d,λy a=>⟨(f y a).1,d.2 y a,(f y a).2⟩,l⟩,λp=>?_⟩
 grind [RH]
structure Pg(t:aI)(fr:List a7)(sp:List ax)(la:List ay):Prop where
 one:∀l∈la,∀p:Nat,(p:Int)∈lpgs l l.a2.toNat->∀q:Nat,q<t.O.length->(nth t.O q).j≠0->(nth t.O q).e=(nth t.O p).e->q=p
 bnd:∀p∈pgs sp la,p<t.O.length
 own:∀p:Nat,p<t.O.length->((nth t.O p).j≠0↔(p:Int)∈pgs sp la)
 fre:∀p:Nat,p<t.O.length->((nth t.O p).j≠0↔¬RH fr p)
 mesh:∀s∈sp,∀u∈sp,s.Q≠u.Q->(nth t.O s.Q.toNat).e=(nth t.O u.Q.toNat).e->meshable s u=true
structure aT(h:ab)(E:List Int):Prop where
 ker:aA h.G=true
 rng:bC (fe h) h.q=true
 lay:bk h.K h.J=true
 srs:h.K.Pairwise λa b=>a.Q<b.Q
 srl:h.J.Pairwise λa b=>a.Q<b.Q
 pg:Pg (tbl h) h.q h.K h.J
 mail:bu h.w=true
 nc:h.S.length=h.w.T.length
 quar:fR h.a6=true
 snc:∀x∈h.a6.a1,x.b6<=h.b3
 cach:∀c∈h.S,bv c=true
 nums:cr h=true
 osr:h.M.Pairwise λa b=>a.Addr<b.Addr
 onu:∀o∈h.M,1<=o.Id/\o.Id<=h.b - 1/\0<=o.a3/\o.a3<=h.S.length - 1
 oid:(h.M.map (·.Id)).Nodup
 oow:∀o∈h.M,Pn h.K h.J o
 hca:∀c∈h.S,∀k:Nat,k<c.a.length->∀a∈nth c.a k,jF h.K a k
 hqu:∀x∈h.a6.a1,jF h.K x.Addr x.d
 hfl:∀a∈aN h.w,jF h.K a (-1)
 hin:∀a∈E,jF h.K a (-1)
 nd:(E++holders h).Nodup
 mem:∀a,a∈E++holders h↔mU h.K h.J a
 job:h.u=true->jN h.Z=true/\(∃s∈h.K,s.Q=h.Z.Y.a5)/\∃s∈h.K,s.Q=h.Z.Y.a4
 noj:h.u=false->sL h.Z=true
variable{E:List Int}
theorem aT.L(a:aT h E):oD h.K h.J:=oD.of a.lay
theorem yQ(t:aI)(f:Int):(pagesOn t f).Nodup:=by grind [List.nodup_range,pagesOn,jP]
def Qa{l:List Int}(b:l.Nodup)(d:a∈l)(c:∀x∈l,x=a):l.length=1:=by
 match l with
 | []=>cases d
 | [_]=>rfl
 | x::y::r=>
  exfalso;have e:=c x (by simp);have f:=c y (by simp);rw[e,f]at b;simp at b
theorem d7(a:s∈sp):s.Q∈pgs sp la:=by grind [pgs]
theorem fC(a:l∈la)(b:p∈lpgs l l.a2.toNat):p∈pgs sp la:=by grind [pgs]
theorem Ts(b:bk h.K h.J=true)(N:bC (fe h) h.q=true)(A:pages0 h=true)(r:oJ h=true):Pg (tbl h) h.q h.K h.J:=by
 have B:=oD.of b;obtain⟨C,D,t⟩:=sr A;have E:∀p:Nat,p<fe h->((nth (tbl h).O p).j≠0↔¬RH h.q p):=λp a=>by grind [eZ,FZ,pages0,v8]
 refine⟨λl w p c q F e f=>?_,D,t,E,λs G u H J O=>?_⟩
 ·obtain⟨i,y,rfl⟩:=aM w
  obtain⟨k,g,n⟩:=dq.1 c;have a:p<fe h:=by grind [fC]
  have d:=(t p a).2 (fC w c);have K:=C i y k g;rw[<-n,f8 a d]at K;have P:(p:Int)∈pagesOn (tbl h) (nth (tbl h).O p).e:=eP.2 ⟨a,d,rfl⟩;have Q:(q:Int)∈pagesOn (tbl h) (nth (tbl h).O p).e:=eP.2 ⟨F,e,f⟩
  grind [List.length_eq_one_iff]
 obtain⟨i,y,rfl⟩:=aM G;obtain⟨j,R,rfl⟩:=aM H;have L:∀k,k<h.K.length->ac (tbl h) (nth h.K k).Q=nth (tbl h).O (nth h.K k).Q.toNat:=λk g=>by
  have S:=aE (B.sok _ (am g))
  grind [d7,AX,nth]
 unfold oJ at r;rw[cF]at r;rcases Nat.lt_trichotomy i j with o|M|o
 all_goals grind [eZ,gK,m0]
theorem Aw(sp:List ax):dn sp.length (xe sp)=true↔sp.Pairwise λa b=>a.Q<b.Q:=by
 rw[cF];refine Iff.trans ?_ (wj (λa b:Int=>a<b) ω (λs:ax=>s.Q) sp)
 grind [xe]
theorem Ad(la:List ay):dn la.length (wV la)=true↔la.Pairwise λa b=>a.Q<b.Q:=by
 rw[cF];refine Iff.trans ?_ (wj (λa b:Int=>a<b) ω (λs:ay=>s.Q) la)
 grind [wV]
theorem Te(o:bk h.K h.J=true)(C:bC (fe h) h.q=true)(h1:h.K.Pairwise λa b=>a.Q<b.Q)(A:h.J.Pairwise λa b=>a.Q<b.Q)(c:Pg (tbl h) h.q h.K h.J):pages0 h=true/\oJ h=true:=by
 have u:=oD.of o;constructor
 ·unfold pages0
  simp only[I0];refine⟨⟨⟨(Aw _).2 h1,cF.2 λi l=>?_⟩,v4.2 λp n=>O0 (c.bnd p n)⟩,cF.2 λp n=>?_⟩
  ·unfold rG
   rw[I0];refine⟨eZ ((Ad _).2 A) l,cF.2 λk w=>?_⟩;have y:=am l;have D:=aK (u.lok _ y);obtain⟨p,n⟩ : ∃p:Nat,(nth h.J i).Q+(k:Nat)=(p:Nat):=⟨((nth h.J i).Q+k).toNat,ω⟩
   have q:(p:Int)∈lpgs (nth h.J i) (nth h.J i).a2.toNat:=dq.2 ψ;have d:p<fe h:=by have:=c.bnd _ (fC (sp:=h.K) y q);exact Int.ofNat_lt.1 this
   have r:=(c.own p d).2 (fC y q);unfold xZ;rw[C0,n,f8 d r];refine Qa (yQ ..) (eP.2 ⟨d,r,rfl⟩) λx E=>?_
   grind [vc,eP,Pg.one]
  unfold v8;rw[I0,C0];refine⟨c.own p n,?_⟩;have F:=c.fre p n
  grind [FZ]
 unfold oJ;refine cF.2 λi l=>cF.2 λj G=>?_
 have g:j<h.K.length:=ω
 have t:∀k,k<h.K.length->ac (tbl h) (nth h.K k).Q=nth (tbl h).O (nth h.K k).Q.toNat:=λk w=>by
  have H:=aE (u.sok _ (am w));have J:=c.bnd _ (d7 (la:=h.J) (am w))
  grind [AX,fe,tbl]
 unfold m0;rw[t i l,t j g,O6,C0];by_cases e:(nth (tbl h).O (nth h.K i).Q.toNat).e=(nth (tbl h).O (nth h.K j).Q.toNat).e
 ·refine .inr (c.mesh _ (am l) _ (am g) (λB=>?_) e)
  have:=ce (f:=(·.Q)) u.nd l g B;omega
 exact .inl e
theorem Fw(c:cr h=true)(d:oD h.K h.J):fU h=true↔(h.M.Pairwise λa b=>a.Addr<b.Addr)/\(∀o∈h.M,1<=o.Id/\o.Id<=h.b - 1/\0<=o.a3/\o.a3<=h.S.length - 1)/\(h.M.map (·.Id)).Nodup/\∀o∈h.M,Pn h.K h.J o:=by
 unfold cr at c;rw[C0]at c;refine Iff.trans ?_ (and_congr (wj (λa b:Int=>a<b) ω (λo:aY=>o.Addr) h.M) (and_congr Iff.rfl (and_congr (AJ (λo:aY=>o.Id) h.M) Iff.rfl)));unfold fU;rw[fo ω ω,cF];have e:∀i,i<h.M.length->(objAt (h.b - 1) h i=true↔(i=0\/(nth h.M (i - 1)).Addr<(nth h.M i).Addr)/\(1<=(nth h.M i).Id/\(nth h.M i).Id<=h.b - 1/\0<=(nth h.M i).a3/\(nth h.M i).a3<=h.S.length - 1)/\(∀o∈h.M.take i,o.Id≠(nth h.M i).Id)/\Pn h.K h.J (nth h.M i)):=λi f=>by grind [Pc,objAt,gH,ee]
 grind [aM,am]
def xK(b:oD h.K h.J):jH h=true↔(∀c∈h.S,∀k:Nat,k<c.a.length->∀a∈nth c.a k,jF h.K a k)/\(∀x∈h.a6.a1,jF h.K x.Addr x.d)/\∀a∈aN h.w,jF h.K a (-1):=by
 rw[pz];simp only[v4,fj,cF,tf,ia,kO,NV b,and_assoc]
theorem Jq : 0<=gq h p↔∃s∈h.K,s.Q=p:=by grind [gq,dd,mq]
theorem aT.of(g:dM h=true):aT h []:=by
 unfold dM lh at g;simp only[I0]at g;obtain⟨⟨⟨⟨⟨⟨⟨⟨⟨⟨r,l⟩,e⟩,j⟩,n⟩,c⟩,t⟩,H⟩,o⟩,k,b⟩,d⟩:=g;have p:=oD.of e;rw[u6 e j]at n;have f:=j;unfold pages0 at f;simp only[I0]at f;unfold dA at c;simp only[I0,C0]at c;unfold kg at b;simp only[I0,C0]at b;obtain⟨⟨u,w⟩,J⟩:=b;obtain⟨y,A,B,C⟩:=(Fw o p).1 k;obtain⟨D,E,F⟩:=(xK p).1 u;unfold lV at t;have G:=cF.1 f.1.1.2;refine⟨r,l,e,(Aw _).1 f.1.1.1,(Ad _).1 (cF.2 λi K=>?_),Ts e l j n,c.1.1,c.1.2,c.2,ψ,ψ,o,y,A,B,C,D,E,F,ψ,(by simpa using w),λa=>?_,λq=>?_,λq=>?_⟩
 ·grind [rG]
 ·grind [EX,rO,re]
 ·unfold rQ at d
  rw[CC q]at d
  grind [Jq]
 grind [rQ]
theorem aT.to(b:aT h []):dM h=true:=by
 have c:=b.L;obtain⟨e,g⟩:=Te b.lay b.rng b.srs b.srl b.pg;have d:=(Fw b.nums c).2 ⟨b.osr,b.onu,b.oid,b.oow⟩;have f:=(xK c).2 ⟨b.hca,b.hqu,b.hfl⟩;unfold dM lh;simp only[I0];refine⟨⟨⟨⟨⟨⟨⟨⟨⟨⟨b.ker,b.rng⟩,b.lay⟩,e⟩,by grind [u6,aT.lay]⟩,?_⟩,?_⟩,v4.2 b.cach⟩,b.nums⟩,d,?_⟩,?_⟩
 ·grind [aT.mail,aT.quar,aT.nc,dA]
 ·grind [aT.snc,lV]
 ·unfold kg
  have i:(holders h).Nodup:=by simpa using b.nd
  have j:∀a,a∈holders h↔a∈k6 h.K h.J:=λa=>by rw[EX c,<-b.mem a];simp
  grind [vk,List.Perm.length_eq]
 grind [aT.job,Jq,aT.noj,rQ]
def dele(xs:List α)(i:Nat):List α:=xs.take i++xs.drop (i+1)
theorem eI(xs:List α)(i:Nat):(dele xs i).Sublist xs:=by
 unfold dele;rw[<-List.eraseIdx_eq_take_drop_succ];grind
theorem AU[Inhabited α]{xs:List α}(a:i<xs.length):xs.Perm (nth xs i::dele xs i):=by
 have:xs=xs.take i++nth xs i::xs.drop (i+1):=by grind [gt,List.take_append_drop]
 conv=>lhs;rw[this]
 exact List.perm_middle
theorem iO{α:Type}[Inhabited α](f:α->List Int)(a:Int):∀(xs:List α)(i:Nat)(y:α),i<xs.length->((xs.set i y).flatMap f).count a+(f (nth xs i)).count a=(xs.flatMap f).count a+(f y).count a
 | [],i,_,h=>by cases h
 | x::xs,0,y,_=>by
  show((y::xs).flatMap f).count a+(f x).count a=((x::xs).flatMap f).count a+(f y).count a
  grind
 | x::xs,i+1,y,h=>by
  have:=iO f a xs i y (by simpa using h);show((x::xs.set i y).flatMap f).count a+(f (nth xs i)).count a=((x::xs).flatMap f).count a+(f y).count a
  grind
theorem lK(a:List (List Int)):a.flatten=a.flatMap λx=>x:=by simp_all
theorem jF.any{c:Int}(h:jF sp a c):jF sp a (-1):=by
 obtain⟨s,b,d,-⟩:=h;exact⟨s,b,d,.inl (by decide)⟩
def aT.cells(a:aT h E)(c:aA k=true)(b:k.F.R=h.G.F.R):aT {h with G:=k} E:=
 {a with
   ker:=c
   rng:=by show bC ((k.F.R.O.length:Nat):Int) h.q=true;rw[b];exact a.rng
   pg:=by show Pg k.F.R h.q h.K h.J;rw[b];exact a.pg}
theorem aT.dropO(b:aT h E)(e:i<h.M.length)(j:jF h.K (nth h.M i).Addr (-1)):aT {h with M:=dele h.M i} ((nth h.M i).Addr::E):=by
 have f:(E++holders h).Perm (((nth h.M i).Addr::E)++holders {h with M:=dele h.M i}):=by
  have g:=(AU e).map (·.Addr);refine List.perm_iff_count.2 λa=>?_
  have k:=g.count_eq a
  grind [holders,cK]
 have c:(dele h.M i).Sublist h.M:=eI ..;exact {b with
   osr:=b.osr.sublist c
   onu:=λo d=>b.onu o (c.subset d)
   oid:=b.oid.sublist (c.map _)
   oow:=λo d=>b.oow o (c.subset d)
   hin:=λa l=>by grind [aT.hin]
   nd:=f.nodup_iff.1 b.nd
   mem:=λa=>by grind [aT.mem]}
def lz(c:aB)(k:Nat)(a:Int):aB:=⟨c.a.set k (nth c.a k++[a])⟩
theorem aT.put{t k:Nat}(e:aT h (a::E))(f:t<h.S.length)(g:k<(nth h.S t).a.length)(p:jF h.K a k)(q:bv (lz (nth h.S t) k a)=true):aT {h with S:=h.S.set t (lz (nth h.S t) k a)} E:=by
 have i:(a::E++holders h).Perm (E++holders {h with S:=h.S.set t (lz (nth h.S t) k a)}):=by
  refine List.perm_iff_count.2 λb=>?_
  have r:=iO (λc:aB=>c.a.flatten) b h.S t (lz (nth h.S t) k a) f;have l:=iO (λx:List Int=>x) b (nth h.S t).a k (nth (nth h.S t).a k++[a]) g;rw[<-lK,<-lK]at l
  grind [lz,holders,cK]
 exact {e with
   nc:=by grind [aT.nc]
   cach:=λc d=>by grind [aT.cach]
   onu:=by show ∀o∈h.M,1<=o.Id/\o.Id<=h.b - 1/\0<=o.a3/\o.a3<=(h.S.set t _).length - 1;rw[U1];exact e.onu
   hca:=λc d j u b n=>by
     rcases V6 d with d|rfl
     all_goals grind [aT.hca,bw,am,lz]
   hin:=λb n=>e.hin b ψ
   nd:=i.nodup_iff.1 e.nd
   mem:=λb=>by grind [aT.mem]}
theorem aT.toQuar{x:aO}{q:b8}{out:List aO}(c:aT h (x.Addr::E))(f:fR q=true)(d:h.a6.a1++[x]=out++q.a1)(j:x.b6<=h.b3)(k:jF h.K x.Addr x.d):aT {h with a6:=q} (out.map (·.Addr)++E):=by
 have e:∀y∈out++q.a1,y.b6<=h.b3/\jF h.K y.Addr y.d:=λy a=>by
  rw[<-d]at a;rcases C3.1 a with a|a
  ·exact⟨c.snc y a,c.hqu y a⟩
  grind
 have g:(x.Addr::E++holders h).Perm ((out.map (·.Addr)++E)++holders {h with a6:=q}):=by
  refine List.perm_iff_count.2 λb=>?_
  have i:=X0 (λl:List aO=>(l.map (·.Addr)).count b) d;simp only[X5,C6,Z5,List.map_nil,List.count_singleton]at i
  grind [holders,cK]
 exact {c with
   quar:=f
   snc:=(ψ)
   hqu:=(ψ)
   hin:=λb n=>by grind [jF.any,aT.hin]
   nd:=g.nodup_iff.1 c.nd
   mem:=λb=>by grind [aT.mem]}
def xJ(b i:Int):Int:=((BitVec.ofInt IntKind.i64.bits b &&& ~~~BitVec.ofInt IntKind.i64.bits (2 ^ i.toNat)).toNat:Nat)
def kq(s:ax)(i:Int):ax:={s with b1:=xJ s.b1 i}
theorem eO(b i:Int):aW b i=true↔0<=b/\0<=i/\i<=15/\b.toNat.testBit i.toNat=true:=by grind [aW]
variable{b:Int}
theorem FC{i:Int}(d:0<=b/\b<=65535)(a:0<=i/\i<=15)(j:Nat):(xJ b i).toNat.testBit j=(b.toNat.testBit j&&decide (i.toNat≠j)):=by
 have e:(2:Int) ^ i.toNat<=32768/\0<=(2:Int) ^ i.toNat:=by
  obtain⟨n,rfl⟩:=z3 a.1;rw[Z2];have:(2:Nat) ^ n<=2 ^ 15:=Nat.pow_le_pow_right (by decide) ω
  grind
 unfold xJ;rw[Z2,BitVec.testBit_toNat,BitVec.getLsbD_and,BitVec.getLsbD_not,<-BitVec.testBit_toNat,<-BitVec.testBit_toNat,pQ ω,pQ ω];rw[show((2:Int) ^ i.toNat).toNat=2 ^ i.toNat by rw[show(2:Int) ^ i.toNat=((2 ^ i.toNat:Nat):Int) by norm_cast,Z2],Nat.testBit_two_pow];by_cases c:j<64
 ·rw[show decide (j<IntKind.i64.bits)=true from O0 c,Bool.true_and]
  grind
 rw[Nat.testBit_lt_two_pow (x:=b.toNat) (i:=j) (Z3 (show b.toNat<2 ^ 16 by omega) (Nat.pow_le_pow_right (by decide) ω))]
 rfl
theorem D3{i:Int}(a:0<=b/\b<=65535):0<=xJ b i/\xJ b i<=b:=by grind [pQ,Nat.and_le_left,xJ]
theorem Ez{i:Int}(a:0<=b/\b<=65535)(c:0<=i/\i<=15)(j:Int):aW (xJ b i) j=true↔aW b j=true/\j≠i:=by grind [eO,FC,D3]
theorem eB(h:bi s=true):0<=s.b1/\s.b1<=65535:=by
 unfold bi at h;simp only[C0]at h;have:=HA s.d;omega
theorem Jp(h:bi s=true)(i:Int):bi (kq s i)=true:=by
 have b:=eB h;have a:=D3 (i:=i) b;unfold bi at h;rw[C0]at h;obtain⟨c,d,e,f,j,g⟩:=h;exact O0 ⟨c,d,e,f,a.1,t5 a.2 g⟩
theorem zZ{u:ax}(e:bi s=true){i:Int}(f:0<=i/\i<=15)(h:meshable s u=true):meshable (kq s i) u=true:=by
 unfold meshable at h |-;simp only[I0,C0]at h |-;obtain⟨⟨a,b⟩,c,d,g⟩:=h;refine⟨⟨Jp a i,b⟩,c,d,?_⟩;refine Nat.eq_of_testBit_eq λj=>?_
 grind [FC,eB,kq]
def cN(s:ax)(a:Int):Int:=(a - 16*s.Q) / csz s.d
theorem pS(h:bi s=true)(b:16*s.Q<=a/\a<=16*s.Q+15):0<=cN s a/\cN s a<=15:=by
 have c:=aE h
 grind [bW,cN]
theorem xt(h:bi s=true)(c:(a - 16*s.Q) % csz s.d=0)(d:(b - 16*s.Q) % csz s.d=0)(e:cN s a=cN s b):a=b:=by
 have f:=aE h
 grind [bW,cN]
theorem AP(h:bi s=true)(k:eC s a)(b:Int):eC (kq s (cN s a)) b↔eC s b/\b≠a:=by
 obtain⟨l,n,o,p⟩:=k;have c:=pS h ⟨l,n⟩;unfold eC;simp only[kq];rw[Ez (eB h) c];constructor
 ·rintro⟨g,i,d,j,f⟩
  exact⟨ψ,λe=>f (by rw[e];rfl)⟩
 rintro⟨⟨g,i,d,j⟩,f⟩
 exact⟨g,i,d,j,λe=>f (xt h d o e)⟩
theorem dH[Inhabited α]{xs:List α}{y z:α}(h:z∈xs.set i y):z=y\/∃j,j<xs.length/\j≠i/\nth xs j=z:=by
 obtain⟨j,a,rfl⟩:=List.mem_iff_getElem.1 h;rw[List.getElem_set];by_cases e:i=j
 ·subst e;simp
 rw[C9 e];rw[U1]at a;exact .inr ⟨j,a,λx=>e x.symm,bg ψ⟩
theorem jT[Inhabited α]{xs:List α}(y:α)(a:j<xs.length)(e:j≠i):nth xs j∈xs.set i y:=by
 have:nth (xs.set i y) j=nth xs j:=by grind [bw]
 grind [am]
theorem iP{xs:List α}(y:α)(a:i<xs.length):y∈xs.set i y:=by grind [List.mem_iff_getElem]
def Nc(k:Int)(a:i<sp.length):(sp.set i (kq (nth sp i) k)).map (·.Q)=sp.map (·.Q):=by
 rw[I6];refine List.ext_getElem (by simp) λj b c=>?_
 rw[List.getElem_set];split
 ·rename_i e;subst e
  rw[List.getElem_map];show(nth sp i).Q=_;rw[bg (O2 a)]
 rfl
def jF.set(q:oD sp la)(k:i<sp.length)(l:eC (nth sp i) a)(b c:Int):jF (sp.set i (kq (nth sp i) (cN (nth sp i) a))) b c↔jF sp b c/\b≠a:=by
 have g:=q.sok _ (am k);constructor
 ·rintro⟨s,o,d,h⟩
  rcases dH o with rfl|⟨j,n,r,rfl⟩
  ·have:=(AP g l b).1 d
   exact⟨⟨_,am k,this.1,h⟩,this.2⟩
  refine⟨⟨_,am n,d,h⟩,λe=>?_⟩;subst e;have:=ce (f:=(·.Q)) q.nd k n (by have t:=l.1;have u:=l.2.1;have w:=d.1;have y:=d.2.1;omega);omega
 rintro⟨⟨s,o,d,h⟩,p⟩
 obtain⟨j,n,rfl⟩:=aM o;by_cases e:j=i
 ·subst e
  exact⟨_,iP _ k,(AP g l b).2 ⟨d,p⟩,h⟩
 exact⟨_,jT _ n e,d,h⟩
theorem aT.give(d:aT h (a::E))(t:i<h.K.length)(w:eC (nth h.K i) a):aT {h with K:=h.K.set i (kq (nth h.K i) (cN (nth h.K i) a))} E:=by
 have B:=d.L;have G:=B.sok _ (am t);have O:=pS G ⟨w.1,w.2.1⟩;have f:=λb c=>jF.set B t w b c
 have H:=Nc (cN (nth h.K i) a) t;generalize J:h.K.set i (kq (nth h.K i) (cN (nth h.K i) a))=sp at f H;have p:pgs sp h.J=pgs h.K h.J:=by grind [pgs]
 have g:=d.nd;rw[List.cons_append]at g;obtain⟨P,g⟩:=List.nodup_cons.1 g;have y:∀b,b∈E++holders h->b≠a:=ψ
 have n:∀b,b∈holders h->b≠a:=ψ
 have Q:∀l∈h.J,16*l.Q≠a:=λl R e=>(xN B R).1 _ (am t) (by have a1:=w.1;have a2:=w.2.1;omega)
 have q:∀s∈sp,∃u∈h.K,u.Q=s.Q/\(s=u\/s=kq u (cN (nth h.K i) a)):=λs r=>by
  rw[<-J]at r;rcases dH r with rfl|⟨j,hj,S,rfl⟩
  ·exact⟨_,am t,rfl,.inr rfl⟩
  grind [am]
 have T:∀u∈h.K,∃s∈sp,s.Q=u.Q:=λu C=>by
  have:u.Q∈sp.map (·.Q):=ψ
  grind
 exact {d with
   lay:=by grind [aT.lay,Jp,bk]
   srs:=by
     have A:(h.K.map (·.Q)).Pairwise (λa b=>a<b):=List.pairwise_map.2 d.srs
     grind
   pg:=⟨d.pg.one,by rw[p];exact d.pg.bnd,by rw[p];exact d.pg.own,d.pg.fre,λs r u C y U=>by
     obtain⟨V,K,W,X⟩:=q s r;obtain⟨Y,M,Z,hu2⟩:=q u C;have A:=d.pg.mesh V K Y M ω (by rw[W,Z];exact U)
     grind [zZ,oD.sok,gK]⟩
   oow:=λo ho=>by
     have N:o.Addr≠a:=n _ (by grind [holders]);rcases d.oow o ho with⟨s,r,A,h2⟩|A
     · obtain⟨u,C,g1,D⟩:=(f o.Addr (aG o.o)).2 ⟨⟨s,r,A,.inr h2⟩,N⟩
       refine .inl ⟨u,C,g1,?_⟩;rcases D with D|D
       · have:=aE (B.sok _ r);omega
       exact D
     exact .inr A
   hca:=λc hc k hk b F=>(f b k).2 ⟨d.hca c hc k hk b F,n b (by
     unfold holders cK;grind [List.mem_flatten,am])⟩
   hqu:=λx hx=>(f _ _).2 ⟨d.hqu x hx,n _ (by grind [holders])⟩
   hfl:=λb F=>(f _ _).2 ⟨d.hfl b F,n _ (by grind [holders])⟩
   hin:=λb F=>(f _ _).2 ⟨d.hin b ψ,y b ψ⟩
   nd:=g
   mem:=λb=>by
     show b∈E++holders h↔mU sp h.J b
     grind [aT.mem,mU]
   job:=λhm=>by grind [aT.job]}
def unmN(k:ah)(p:Int):Nat->ah
 | 0=>k
 | n+1=>cy (unmN k p n) (p+n)
def ik{k:ah}(h:aA k=true)(p:Int):∀n,aA (unmN k p n)=true
 | 0=>h
 | n+1=>yx _ (ik h p n)
theorem dS(k:ah)(p:Int):∀n,(unmN k p n).F.R.O.length=k.F.R.O.length/\(unmN k p n).Calls=k.Calls/\(unmN k p n).a0=k.a0
 | 0=>⟨rfl,rfl,rfl⟩
 | n+1=>by
  obtain⟨a,b,c⟩:=dS k p n;obtain⟨d,e,f⟩:=jm (unmN k p n) (p+n);exact⟨d.trans a,e.trans b,f.trans c⟩
theorem qR(h:aA k=true)(g:0<=p/\p<k.F.R.O.length)(q:Nat):nth (cy k p).F.R.O q=if(q:Int)=p then⟨0,0⟩ else nth k.F.R.O q:=by
 have c:ac k.F.R p=nth k.F.R.O p.toNat:=by grind [ac]
 unfold cy;split
 ·rename_i a
  split
  ·rename_i i
   rw[c]at a;have b:=(bx.1 (aD.1 h).2.2.1).1 p.toNat ω;unfold kF at b;rw[C0]at b;have d:=b.2.2.1 a;rw[show q=p.toNat by omega];generalize nth k.F.R.O p.toNat=e at a d;obtain⟨m,f⟩:=e
   grind
  rfl
 grind [mP,bw,lC]
theorem mZ{k:ah}(h:aA k=true){p:Int}(a:0<=p):∀n:Nat,p+n<=k.F.R.O.length->∀q:Nat,nth (unmN k p n).F.R.O q=if p<=q/\(q:Int)<p+n then⟨0,0⟩ else nth k.F.R.O q
 | 0,_,q=>by rw[C9 ω];rfl
 | n+1,b,q=>by
  have c:=mZ h a n ω q;have d:=qR (ik h p n) (p:=p+n) ⟨ω,by grind [dS]⟩ q;show nth (cy (unmN k p n) (p+n)).F.R.O q=_
  grind
theorem FL(f:α->List β){xs b:List α}(h:xs.Sublist b):(xs.flatMap f).Sublist (b.flatMap f):=by
 induction h with
 | slnil=>grind
 | cons a _ c=>grind
 | cons_cons a _ c=>grind
theorem x4(c:aT h E)(Y:1<=n)(w:sp.Sublist h.K)(D:la.Sublist h.J)(j:∀q:Int,p<=q->q<p+n->q∈pgs h.K h.J)(K:0<=p)(F:∀q,q∈pgs sp la↔q∈pgs h.K h.J/\¬(p<=q/\q<p+n)) :
  ∃o,cn (fe h) h.q ⟨p,n⟩ = some o/\aA (unmN h.G p n)=true/\bC ((unmN h.G p n).F.R.O.length:Nat) o=true/\bk sp la=true/\Pg (unmN h.G p n).F.R o sp la:=by
 have t:=c.pg.bnd _ (j (p+n - 1) ω ω);have a:=(dS h.G p n).1;have y:p+n<=h.G.F.R.O.length:=by unfold tbl at t;omega
 have g:=mZ c.ker K n y;obtain⟨o,Q,R,S⟩:=uN (r:=⟨p,n⟩) c.rng ⟨K,by simp only;omega,y⟩ λq M N=>by
  simp only at M N;obtain⟨m,rfl⟩:=z3 (show 0<=q by omega);have A:m<(tbl h).O.length:=by unfold tbl;omega
  exact(c.pg.fre m A).1 ((c.pg.own m A).2 (j _ M N))
 refine⟨o,Q,ik c.ker p n,by rw[a];exact R,?_,?_⟩
 ·obtain⟨T,U,V⟩:=dY c.lay
  unfold bk;simp only[I0,C0];exact⟨⟨v4.2 λs d=>v4.1 T s (w.subset d),v4.2 λl d=>v4.1 U l (D.subset d)⟩,V.sublist ((w.map _).append (FL _ D))⟩
 have i:∀q:Nat,(q:Int)∈pgs sp la->nth (unmN h.G p n).F.R.O q=nth (tbl h).O q:=λq f=>by rw[g,C9 ((F q).1 f).2];rfl
 have b:∀q:Nat,(nth (unmN h.G p n).F.R.O q).j≠0↔(nth (tbl h).O q).j≠0/\¬(p<=q/\(q:Int)<p+n):=λq=>by
  rw[g];by_cases e:p<=q/\(q:Int)<p+n
  ·rw[CC e];exact⟨λx=>absurd rfl x,λx=>absurd e x.2⟩
  rw[C9 e];exact⟨λx=>⟨x,e⟩,λx=>x.1⟩
 refine⟨λl d q f r O G B=>?_,λq f=>?_,λq f=>?_,λq f=>?_,λs d u H J P=>?_⟩
 ·have C:=(b r).1 G
  rw[a]at O;rw[i q (fC d f),g,C9 C.2]at B;exact c.pg.one l (D.subset d) q f r O C.1 B
 ·rw[a];exact c.pg.bnd q ((F q).1 f).1
 ·rw[a]at f
  rw[b,F,c.pg.own q f]
 ·rw[a]at f
  rw[b,S,c.pg.fre q f];simp only
  grind
 have k:∀s∈sp,0<=s.Q:=λs d=>(aE (c.L.sok s (w.subset d))).1
 have W:=i s.Q.toNat (by rw[Int.toNat_of_nonneg (k s d)];exact d7 d);have X:=i u.Q.toNat (by rw[Int.toNat_of_nonneg (k u H)];exact d7 H);rw[W,X]at P;exact c.pg.mesh s (w.subset d) u (w.subset H) J P
theorem cV[Inhabited α]{xs:List α}{k:Nat}{z:α} : z∈dele xs k↔∃j,j<xs.length/\j≠k/\nth xs j=z:=by
 unfold dele;rw[C3];constructor
 ·rintro(h|h)
  ·obtain⟨j,a,rfl⟩:=List.mem_take_iff_getElem.1 h
   exact⟨j,ω,ω,bg ψ⟩
  obtain⟨j,a,rfl⟩:=List.mem_drop_iff_getElem.1 h;exact⟨k+1+j,ω,ω,bg ψ⟩
 rintro⟨j,a,b,rfl⟩
 rw[bg (O2 a)];by_cases e:j<k
 ·grind [List.mem_take_iff_getElem]
 refine .inr (List.mem_drop_iff_getElem.2 ⟨j - (k+1),ω,?_⟩)
 congr 1;omega
theorem qg{q:Int} : q∈pgs sp la↔(∃s∈sp,s.Q=q)\/∃l∈la,q∈lpgs l l.a2.toNat:=by grind [pgs]
def wc(h:s.b1=0)(a:Int):¬eC s a:=by
 rintro⟨-,-,-,b⟩
 rw[eO,h]at b;simp at b
theorem aT.giveSpan(d:aT h E)(C:i<h.K.length)(r:(nth h.K i).b1=0)(R:h.u=true->(nth h.K i).Q≠h.Z.Y.a5/\(nth h.K i).Q≠h.Z.Y.a4) :
  ∃o,cn (fe h) h.q ⟨(nth h.K i).Q,1⟩ = some o/\aT {h with G:=cy h.G (nth h.K i).Q,K:=dele h.K i,q:=o} E:=by
 have D:=d.L;have y:=aE (D.sok _ (am C));have w:∀q,q∈pgs (dele h.K i) h.J↔q∈pgs h.K h.J/\¬((nth h.K i).Q<=q/\q<(nth h.K i).Q+(1:Nat)):=λq=>by
  rw[qg,qg];constructor
  ·rintro(⟨s,u,rfl⟩|⟨l,S,T⟩)
   ·obtain⟨j,a,A,rfl⟩:=cV.1 u
    refine⟨.inl ⟨_,am a,rfl⟩,λe=>A (ce (f:=(·.Q)) D.nd a C ω)⟩
   grind [dq,oD.dis,am]
  grind [aM,cV]
 obtain⟨o,J,F,G,K,H⟩:=x4 d (sp:=dele h.K i) (la:=h.J) (p:=(nth h.K i).Q) (n:=1) (I3 _) (eI ..) ψ (λq U V=>by grind [d7,nth]) y.1 w;have M:unmN h.G (nth h.K i).Q 1=cy h.G (nth h.K i).Q:=by show cy h.G ((nth h.K i).Q+((0:Nat):Int))=_;grind
 rw[M]at F G H;have g:∀b c,jF (dele h.K i) b c↔jF h.K b c:=λb c=>by
  constructor
  ·rintro⟨s,u,t⟩;exact⟨s,(eI ..).subset u,t⟩
  rintro⟨s,u,t,B⟩
  obtain⟨j,a,rfl⟩:=aM u;exact⟨_,cV.2 ⟨j,a,λe=>wc r b ψ,rfl⟩,t,B⟩
 refine⟨o,J,{d with
   ker:=F
   rng:=G
   lay:=K
   srs:=d.srs.sublist (eI ..)
   pg:=H
   oow:=λN O=>?_
   hca:=λc y k P b r=>(g b k).2 (d.hca c y k P b r)
   hqu:=λx Q=>(g _ _).2 (d.hqu x Q)
   hfl:=λb r=>(g _ _).2 (d.hfl b r)
   hin:=λb r=>(g _ _).2 (d.hin b r)
   mem:=λb=>(d.mem b).trans ?_
   job:=λW=>?_}⟩
 ·rcases d.oow N O with⟨s,u,t,B⟩|t
  ·obtain⟨j,a,rfl⟩:=aM u
   exact .inl ⟨_,cV.2 ⟨j,a,λe=>wc r _ (by rw[<-e];exact t),rfl⟩,t,B⟩
  exact .inr t
 all_goals grind [aT.job,aM,cV,mU]
theorem aT.dropL{k:Nat}(d:aT h E)(N:i<h.M.length)(w:k<h.J.length)(F:(nth h.M i).Addr=16*(nth h.J k).Q) :
  ∃o,cn (fe h) h.q ⟨(nth h.J k).Q,(nth h.J k).a2⟩ = some o/\aT {h with G:=unmN h.G (nth h.J k).Q (nth h.J k).a2.toNat,J:=dele h.J k,q:=o,M:=dele h.M i} E:=by
 have y:=d.L;have O:=aK (y.lok _ (am w));have A:∀q,q∈pgs h.K (dele h.J k)↔q∈pgs h.K h.J/\¬((nth h.J k).Q<=q/\q<(nth h.J k).Q+((nth h.J k).a2.toNat:Nat)):=λq=>by
  rw[qg,qg];constructor
  ·rintro(⟨s,C,rfl⟩|⟨l,f,H⟩)
   ·refine⟨.inl ⟨s,C,rfl⟩,λe=>y.dis s C _ (am w) (s.Q - (nth h.J k).Q).toNat ω ω⟩
   obtain⟨j,c,g,rfl⟩:=cV.1 f;refine⟨.inr ⟨_,am c,H⟩,λe=>?_⟩;obtain⟨m,P,rfl⟩:=dq.1 H;exact g (y.one j k c w m ((nth h.J j).Q+(m:Int) - (nth h.J k).Q).toNat P ω ω)
  grind [aM,cV,dq]
 obtain⟨o,J,Q,R,S,T⟩:=x4 d (sp:=h.K) (la:=dele h.J k) (p:=(nth h.J k).Q) (n:=(nth h.J k).a2.toNat) ω ψ (eI ..) (λq Z q2=>fC (am w) (dq.2 ⟨(q - (nth h.J k).Q).toNat,ω,ω⟩)) O.2.2.1 A;rw[Int.toNat_of_nonneg ω]at J;have U:(E++holders h).Perm ((nth h.M i).Addr::(E++holders {h with M:=dele h.M i})):=by
  have V:=(AU N).map (·.Addr);refine List.perm_iff_count.2 λa=>?_
  have r:=V.count_eq a
  grind [holders,cK]
 have t:=U.nodup_iff.1 d.nd;obtain⟨W,t⟩:=List.nodup_cons.1 t;have u:∀b,(b=(nth h.M i).Addr\/b∈E++holders {h with M:=dele h.M i})↔mU h.K h.J b:=λb=>by grind [aT.mem]
 have B:∀b,b∈E++holders {h with M:=dele h.M i}->b≠(nth h.M i).Addr:=ψ
 refine⟨o,J,{d with
   ker:=Q
   rng:=R
   lay:=S
   srl:=d.srl.sublist (eI ..)
   pg:=T
   osr:=d.osr.sublist (eI ..)
   onu:=λD G=>d.onu D ((eI ..).subset G)
   oid:=d.oid.sublist ((eI ..).map _)
   oow:=λD G=>?_
   nd:=t
   mem:=λb=>?_}⟩
 ·rcases d.oow D ((eI ..).subset G) with r|⟨l,f,K,X⟩
  ·exact .inl r
  obtain⟨j,c,rfl⟩:=aM f;refine .inr ⟨_,cV.2 ⟨j,c,λe=>?_,rfl⟩,K,X⟩;subst e;refine B D.Addr (C3.2 (.inr ?_)) (by rw[F];exact K);unfold holders;grind
 constructor
 ·intro M
  rcases(u b).1 (.inr M) with r|⟨l,f,rfl⟩
  ·exact .inl r
  obtain⟨j,c,rfl⟩:=aM f;exact .inr ⟨_,cV.2 ⟨j,c,λe=>B _ M (by rw[F,e]),rfl⟩,rfl⟩
 rintro(r|⟨l,f,rfl⟩)
 ·refine((u b).2 (.inl r)).resolve_left λe=>?_
  obtain⟨s,C,⟨Y,g2,-⟩,-⟩:=r;exact(xN y (am w)).1 s C ω
 obtain⟨j,c,g,rfl⟩:=cV.1 f;refine((u _).2 (.inr ⟨_,am c,rfl⟩)).resolve_left λe=>g ?_
 have Y:=aK (y.lok _ (am c));rw[F]at e;exact y.one j k c w 0 0 ω ω ω
def fg(h:ab)(p:Int):Bool:=h.u&&(decide (p=h.Z.Y.a5) || decide (p=h.Z.Y.a4))
def giveP(h:ab)(i:Nat):ab:={h with G:=cy h.G (nth h.K i).Q,K:=dele h.K i,q:=(cn (fe h) h.q ⟨(nth h.K i).Q,1⟩).getD h.q}
def clrS(h:ab)(i:Nat)(a:Int):ab:={h with K:=h.K.set i (kq (nth h.K i) (cN (nth h.K i) a))}
def freeS(h:ab)(i:Nat)(a:Int):ab:=if(kq (nth h.K i) (cN (nth h.K i) a)).b1=0/\fg h (nth h.K i).Q=false then giveP (clrS h i a) i else clrS h i a
def se(h:ab)(a:Int):Nat:=(gq h (a / 16)).toNat
def freeA(h:ab)(a:Int):ab:=freeS h (se h a) a
def cput(c:aB)(k a:Int):Option aB:=if bv c=true/\0<=k/\k<=3/\bv (lz c k.toNat a)=true then some (lz c k.toNat a) else none
def recyc(t:Nat)(h:ab)(a:Int):ab:=match cput (nth h.S t) (nth h.K (se h a)).d a with
 | some c=>{h with S:=h.S.set t c}
 | none=>freeA h a
theorem aT.at(e:aT h E)(c:jF h.K a (-1)):se h a<h.K.length/\eC (nth h.K (se h a)) a/\gq h (a / 16)=(se h a:Nat):=by
 obtain⟨s,d,b,-⟩:=c;obtain⟨i,f,rfl⟩:=aM d;have g:(nth h.K i).Q=a / 16:=by have j:=b.1;have k:=b.2.1;omega
 grind [tJ,aT.L,se]
theorem wK(e:fg h p=false)(a:h.u=true):p≠h.Z.Y.a5/\p≠h.Z.Y.a4:=by grind [fg]
def aT.freeS{h:ab}{E:List Int}{a:Int}{i:Nat}(f:aT h (a::E))(b:i<h.K.length)(g:eC (nth h.K i) a):aT (freeS h i a) E:=by
 have c:=f.give b g;unfold Ab.freeS;split
 ·rename_i e
  have d:nth (clrS h i a).K i=kq (nth h.K i) (cN (nth h.K i) a):=by unfold clrS;simp only[bw,true_and];rw[CC b]
  obtain⟨o,j,k⟩:=aT.giveSpan (h:=clrS h i a) c (i:=i) (by unfold clrS;simp only[U1];exact b) (by rw[d];exact e.1) (λl=>by rw[d];exact wK e.2 l);unfold giveP;rw[j];exact k
 exact c
theorem aT.freeA{h:ab}{E:List Int}{a:Int}(b:aT h (a::E)):aT (freeA h a) E:=by
 obtain⟨c,d,-⟩:=b.at (b.hin a ψ);exact b.freeS c d
theorem po(h:bv c=true):c.a.length=4:=by grind [bv]
theorem aT.recyc{h:ab}{E:List Int}{a:Int}{t:Nat}(b:aT h (a::E))(f:t<h.S.length):aT (recyc t h a) E:=by
 obtain⟨g,i,-⟩:=b.at (b.hin a ψ);unfold Ab.recyc;split
 ·rename_i c d
  unfold cput at d;split at d
  ·rename_i e
   cases d;obtain⟨j,l,n,k⟩:=e;exact b.put f (by rw[po j];omega) ⟨_,am g,i,.inr ω⟩ k
  cases d
 exact b.freeA
def yg(h:ab)(i:Nat)(a:Int):(freeS h i a).S=h.S/\(freeS h i a).M=h.M/\(freeS h i a).G.Calls=h.G.Calls/\(freeS h i a).w=h.w/\(freeS h i a).Z=h.Z/\(freeS h i a).b3=h.b3/\(freeS h i a).a6=h.a6/\(freeS h i a).G.a0=h.G.a0:=by
 unfold freeS;split
 ·obtain⟨-,b,c⟩:=jm (clrS h i a).G (nth (clrS h i a).K i).Q
  exact⟨rfl,rfl,b,rfl,rfl,rfl,rfl,c⟩
 exact⟨rfl,rfl,rfl,rfl,rfl,rfl,rfl,rfl⟩
theorem lA(t:Nat)(h:ab)(a:Int):(recyc t h a).S.length=h.S.length/\(recyc t h a).M=h.M/\(recyc t h a).G.Calls=h.G.Calls/\(recyc t h a).w=h.w/\(recyc t h a).Z=h.Z/\(recyc t h a).b3=h.b3/\(recyc t h a).a6=h.a6/\(recyc t h a).G.a0=h.G.a0:=by
 unfold recyc;split
 ·grind
 obtain⟨b,c⟩:=yg h (se h a) a;exact⟨X0 _ b,c⟩
def recycs(t:Nat)(h:ab)(az:List Int):ab:=az.foldl (recyc t) h
def dE(t:Nat):∀(az:List Int)(h:ab),(recycs t h az).S.length=h.S.length/\(recycs t h az).M=h.M/\(recycs t h az).G.Calls=h.G.Calls/\(recycs t h az).w=h.w/\(recycs t h az).Z=h.Z/\(recycs t h az).b3=h.b3/\(recycs t h az).a6=h.a6/\(recycs t h az).G.a0=h.G.a0
 | [],h=>⟨rfl,rfl,rfl,rfl,rfl,rfl,rfl,rfl⟩
 | a::az,h=>by
  obtain⟨b,c,d,e,f,g,i,j⟩:=dE t az (recyc t h a);obtain⟨k,l,n,o,p,q,r,u⟩:=lA t h a;exact⟨b.trans k,c.trans l,d.trans n,e.trans o,f.trans p,g.trans q,i.trans r,j.trans u⟩
theorem aT.recycs{t:Nat}{E:List Int} : ∀{az:List Int}{h:ab},aT h (az++E)->t<h.S.length->aT (recycs t h az) E
 | [],h,b,_=>b
 | a::az,h,b,c=>aT.recycs (az:=az) (h:=Ab.recyc t h a) (b.recyc c) (by grind [lA])
def qc(l:List aO):Int:=quarCells l l.length
def iH(room:Int):List aO->Nat
 | []=>0
 | x::xs=>if room<qc (x::xs) then iH room xs+1 else 0
def KR(q:b8)(x:aO):b8:=⟨q.c0,(q.a1++[x]).drop (iH q.c0 (q.a1++[x]))⟩
def rn(q:b8)(x:aO):List aO:=(q.a1++[x]).take (iH q.c0 (q.a1++[x]))
def xy(room:Int):∀l,iH room l<=l.length
 | []=>I3 _
 | x::xs=>by unfold iH;split;(have:=xy room xs;simp only[List.length_cons];omega);omega
theorem vZ{room:Int}(a:0<=room):∀l:List aO,qc (l.drop (iH room l))<=room
 | []=>a
 | x::xs=>by
  unfold iH;split
  ·exact vZ a xs
  grind
theorem ur{room:Int} : ∀{l:List aO}{k:Nat},k<iH room l->room<qc (l.drop k)
 | [],k,h=>by cases h
 | x::xs,0,h=>by grind [iH]
 | x::xs,k+1,h=>by
  unfold iH at h;split at h
  ·exact ur (l:=xs) ω
  omega
theorem iW{q:b8} : fR q=true↔(∀x∈q.a1,0<=x.d/\x.d<=3/\0<=x.Addr/\0<=x.b6)/\(q.a1.Pairwise λa b=>a.b6<=b.b6)/\(q.a1.map (·.Addr)).Nodup/\0<=q.c0/\q.c0<=500/\qc q.a1<=q.c0:=by
 refine Iff.trans ?_ (and_congr Iff.rfl (and_congr (wj (λa b:Int=>a<=b) ω (λs:aO=>s.b6) q.a1) (and_congr (AJ (λs:aO=>s.Addr) q.a1) Iff.rfl)));unfold fR qc
 grind [cF,List.any_eq_false,aM,am,kP,dZ]
theorem P3{q:b8}{x:aO}(h:fR q=true)(e:0<=x.d/\x.d<=3/\0<=x.Addr/\0<=x.b6)(f:∀y∈q.a1,y.b6<=x.b6)(g:∀y∈q.a1,y.Addr≠x.Addr):fR (KR q x)=true:=by
 obtain⟨i,j,k,c,d,l⟩:=iW.1 h;have a:(KR q x).a1.Sublist (q.a1++[x]):=List.drop_sublist ..;refine iW.2 ⟨λy b=>?_,List.Pairwise.sublist a ?_,List.Nodup.sublist (a.map _) ?_,c,d,vZ c _⟩
 ·rcases C3.1 (a.subset b) with b|b
  all_goals grind
 ·grind
 grind
def iz(r:List Int)(o:Nat):Nat->List Int
 | 0=>r
 | n+1=>(iz r o n).set (o+n) 0
def co(k:ah)(a:Int):Nat:=(ac k.F.R (a / 16)).e.toNat
def dN(k:ah)(a:Int)(n:Nat):ah:={k with F:=⟨⟨k.F.W.U.set (co k a) (iz (nth k.F.W.U (co k a)) (a % 16).toNat n),k.F.W.a9⟩,k.F.R⟩}
theorem kW(r:List Int)(o:Nat):∀n,(iz r o n).length=r.length
 | 0=>rfl
 | n+1=>by unfold iz;rw[U1,kW r o n]
def Am{r:List Int}{o:Nat} : ∀{n:Nat}{v:Int},v∈iz r o n->v∈r\/v=0
 | 0,v,h=>.inl h
 | n+1,v,h=>by
  rcases V6 h with h|h
  ·exact Am h
  exact .inr h
theorem Eg(h:aA k=true)(a:Int)(n:Nat):aA (dN k a n)=true:=by
 obtain⟨g,i,l,o,p⟩:=aD.1 h;obtain⟨q,r,t,c⟩:=aX.1 i;refine aD.2 ⟨g,aX.2 ⟨?_,?_,?_,λj b=>?_⟩,l,o,p⟩
 ·grind [dN]
 ·grind [dN]
 ·grind [dN]
 simp only[dN,U1]at b |-;simp only[bw];split
 ·rename_i e
  have d:=c j b;unfold gQ at d |-;simp only[I0,C0,v4]at d |-;rw[e.1]at *;refine⟨by grind [kW],λv f=>?_⟩;rcases Am f with f|rfl
  all_goals grind [iB]
 exact c j b
def sI(h:ab)(a:Int):Nat:=(h.J.findIdx? λl=>decide (l.Q*16=a)).getD 0
def freeL(h:ab)(i k:Nat):ab:={h with G:=unmN h.G (nth h.J k).Q (nth h.J k).a2.toNat,J:=dele h.J k,q:=(cn (fe h) h.q ⟨(nth h.J k).Q,(nth h.J k).a2⟩).getD h.q,M:=dele h.M i}
def gT(h:ab)(o:aY):aO:=⟨o.Addr,aG o.o,h.b3⟩
def inQuar(h:ab)(i:Nat):ab:={h with G:=dN h.G (nth h.M i).Addr (csz (aG (nth h.M i).o)).toNat,M:=dele h.M i,a6:=KR h.a6 (gT h (nth h.M i))}
def vt(h:ab)(t i:Nat):ab:=recycs t (inQuar h i) ((rn h.a6 (gT h (nth h.M i))).map (·.Addr))
def freeOb(h:ab)(t i:Nat):ab × Int:=
 if aG (nth h.M i).o<0 then(freeL h i (sI h (nth h.M i).Addr),0)
 else if(ac (tbl h) ((nth h.M i).Addr / 16)).j=1 then(h,5)
 else(vt h t i,0)
theorem pU(n:l∈h.J)(e:a=16*l.Q):sI h a<h.J.length/\a=16*(nth h.J (sI h a)).Q/\(∀j,j<sI h a->(nth h.J j).Q*16≠a)/\h.J.findIdx? (λl=>decide (l.Q*16=a))=some (sI h a):=by
 cases c:h.J.findIdx? λl=>decide (l.Q*16=a) with
 | none=>
  grind
 | some k=>
  obtain⟨b,d,f⟩:=C7.1 c;have g:sI h a=k:=by grind [sI]
  rw[g];rw[<-bg (O2 b),C0]at d;refine⟨b,ω,λj i=>?_,rfl⟩;have:=f j i;rw[<-bg (O2 (show j<h.J.length by omega))]at this;simpa using this
theorem dc(a:aT h E)(f:o∈h.M):(aG o.o<0->TN h.J o.Addr o.o)/\(¬aG o.o<0->(∃s∈h.K,eC s o.Addr/\s.d=aG o.o)/\aG o.o<=3):=by
 rcases a.oow o f with⟨s,g,b,c⟩|⟨l,d,b,c⟩
 ·have i:=aE (a.L.sok s g)
  grind
 have j:=cX (a.L.lok l d);refine⟨λ_=>⟨l,d,b,c⟩,λe=>absurd ?_ e⟩
 grind [aG]
theorem aT.inQuar{h:ab}{i:Nat}(a:aT h [])(g:i<h.M.length)(r:¬aG (nth h.M i).o<0):aT (inQuar h i) ((rn h.a6 (gT h (nth h.M i))).map (·.Addr)):=by
 obtain⟨⟨s,j,l,t⟩,u⟩:=(dc a (am g)).2 r;have b:jF h.K (nth h.M i).Addr (aG (nth h.M i).o):=⟨s,j,l,.inr t⟩
 have c:=a.nums;unfold cr at c;rw[C0]at c;have w:=aE (a.L.sok s j);have n:=a.dropO g b.any;have A:=n.cells (k:=dN h.G (nth h.M i).Addr (csz (aG (nth h.M i).o)).toNat) (Eg a.ker _ _) rfl;have d:∀y∈h.a6.a1,y.Addr≠(nth h.M i).Addr:=λy o e=>by
  have f:=n.nd;rw[List.cons_append,List.nil_append]at f
  grind [holders]
 have p:=aT.toQuar (x:=gT h (nth h.M i)) (q:=KR h.a6 (gT h (nth h.M i))) (out:=rn h.a6 (gT h (nth h.M i))) A (P3 a.quar ⟨by show 0<=aG _;omega,u,by show 0<=(nth h.M i).Addr;have:=l.1;omega,c.2.2.1⟩ (λy o=>a.snc y o) d) (by grind [List.take_append_drop,rn,KR]) (v5 _) b;rw[List.append_nil]at p;exact p
theorem aT.freeOb{h:ab}{t i:Nat}(a:aT h [])(c:i<h.M.length)(e:t<h.S.length):aT (freeOb h t i).1 []:=by
 unfold Ab.freeOb;split
 ·rename_i b
  obtain⟨l,f,d,-⟩:=(dc a (am c)).1 b;obtain⟨g,j,-⟩:=pU f d
  grind [aT.dropL,freeL]
 rename_i b;split
 ·exact a
 have d:=a.inQuar c b;refine aT.recycs (E:=[]) ?_ e
 grind
theorem J6:∀{H L:List Int},H.Nodup->(∀x∈H,x∈L)->H.length<=L.length
 | [],L,_,_=>W0 _
 | y::H,L,b,c=>by
  have d:y∈L:=ψ
  have a:=List.nodup_cons.1 b;have:=J6 (L:=L.erase y) a.2 ψ
  grind
theorem wz{H:List Int}(a:H.Nodup)(b:∀x∈H,0<=x/\x<n):H.length<=n:=by
 have:=J6 (L:=(List.range n).map λ(i:Nat)=>(i:Int)) a λx c=>O4.2 ⟨x.toNat,List.mem_range.2 ψ,ψ⟩
 simpa using this
theorem cQ{f:α->Int}{xs:List α}(h:xs.Pairwise λa b=>f a<f b):(xs.map f).Nodup:=ψ
theorem Nz:∀(b:List (List Int))(k:Nat)(s:List Int),(gy k s b).isSome=true->∀l∈b,l.length<=8
 | [],_,_,_,l,a=>by cases a
 | x::b,k,s,h,l,a=>by
  simp only[gy]at h;cases e:f6 k s x with
  | none=>grind
  | some c=>
   rw[e]at h;rcases List.mem_cons.1 a with rfl|a
   ·grind [f6]
   exact Nz b (k+1) c h l a
theorem eL(h:bv c=true):c.a.length=4/\∀l∈c.a,l.length<=8:=by grind [Nz,bv]
structure tZ(h:ab):Prop where
 cells:h.G.F.W.U.length<=32
 row:∀r∈h.G.F.W.U,r.length=16
 used:h.G.F.W.a9.length<=32
 ents:h.G.F.R.O.length<=32
 ref:h.G.a0.length<=40
 free:h.q.length<=32
 spans:h.K.length<=32
 larges:h.J.length<=32
 objs:h.M.length<=512
 caches:h.S.length<=4
 lists:∀c∈h.S,c.a.length=4/\∀l∈c.a,l.length<=8
 quar:h.a6.a1.length<=512
def jF.bd(b:aT h E){c:Int}(d:jF h.K a c):0<=a/\a<512:=by
 obtain⟨s,e,⟨f,g,-⟩,-⟩:=d;have i:=aE (b.L.sok s e);omega
theorem aT.lens(a:aT h E):tZ h:=by
 obtain⟨G,k,p,J,K,M,q⟩:=aD.1 a.ker;obtain⟨N,t,O,P⟩:=aX.1 k;obtain⟨Q,R,u⟩:=bx.1 p;obtain⟨w,S,T⟩:=fV.1 a.rng;obtain⟨U,V,A,W⟩:=iW.1 a.quar;have g:=a.mail;unfold bu at g;simp only[I0,C0]at g;have B:=a.nc;refine⟨t,λr i=>?_,ω,u,q,?_,?_,?_,?_,ω,λc C=>eL (a.cach c C),?_⟩
 ·obtain⟨j,X,rfl⟩:=aM i
  grind [gQ]
 ·have:=wz (H:=h.q.map (·.At)) (n:=32) (cQ (w.1.imp_of_mem ψ)) λx b=>by
   obtain⟨r,i,rfl⟩:=O4.1 b
   grind
  simpa using this
 ·have:=wz (H:=h.K.map (·.Q)) (n:=32) a.L.nd λx b=>by
   obtain⟨s,d,rfl⟩:=O4.1 b;have:=aE (a.L.sok s d);omega
  simpa using this
 ·have:=wz (H:=h.J.map (·.Q)) (n:=32) (cQ a.srl) λx b=>by
   obtain⟨l,f,rfl⟩:=O4.1 b;have:=aK (a.L.lok l f);omega
  simpa using this
 ·have:=wz (H:=h.M.map (·.Addr)) (n:=512) (cQ a.osr) λx b=>by
   obtain⟨o,D,rfl⟩:=O4.1 b;rcases a.oow o D with⟨s,d,⟨Y,Z,-⟩,-⟩|⟨l,f,e,-⟩
   ·have:=aE (a.L.sok s d);omega
   have:=aK (a.L.lok l f);omega
  simpa using this
 have:=wz (H:=h.a6.a1.map (·.Addr)) (n:=512) A λx b=>by
  obtain⟨y,F,rfl⟩:=O4.1 b;exact(a.hqu y F).bd a
 simpa using this
theorem tZ.sml(a:tZ h)(b:aA h.G=true)(d:aJ.sml h.w)(e:cL.sml h.Z):ab.sml h:=
 ⟨bj b,⟨by grind [tZ.free],λ_ _=>trivial⟩,⟨by grind [tZ.spans],λ_ _=>trivial⟩,⟨by grind [tZ.larges],λ_ _=>trivial⟩,⟨by grind [tZ.objs],λ_ _=>trivial⟩,⟨by grind [tZ.caches],λc f=>⟨by grind [tZ.lists],λl g=>by have:=(a.lists c f).2 l g;show l.length<=1048576;omega⟩⟩,d,⟨by grind [tZ.quar],λ_ _=>trivial⟩,e⟩
def gf(a:Int)(o:aY):Bool:=decide (o.Addr=a)
def jS(h:ab)(a:Int):Nat:=(dd (gf a) h.M).toNat
theorem aT.objAt(g:aT h E)(k:o∈h.M):jS h o.Addr<h.M.length/\nth h.M (jS h o.Addr)=o/\dd (gf o.Addr) h.M=(jS h o.Addr:Nat):=by
 obtain⟨i,c,rfl⟩:=aM k;have l:dd (gf (nth h.M i).Addr) h.M=(i:Nat):=dP (ao c) (by unfold gf;simp) λj z n d=>by
  have a:=bg d;have b:=(U2.1 d).1;subst a;unfold gf;refine U0 λe=>?_
  have:=ce (f:=(·.Addr)) (cQ g.osr) b c e;omega
 grind [jS]
def jr(k:ah)(p:Int)(n:Nat):(unmN k p n).Calls=k.Calls/\(unmN k p n).a0=k.a0:=(dS k p n).2
def MZ(y:a7)(a:List a7):dv [] (y::a)=dv [y] a:=by rw[dv];rfl
theorem Fj[Inhabited α]{xs:List α}(h:xs≠[]):xs.getLast? = some (nth xs (xs.length - 1)):=by grind [List.length_pos_iff,ao]
theorem MG{xs:List α}(h:xs≠[])(v:α):xs.dropLast++[v]=xs.set (xs.length - 1) v:=by
 have a:0<xs.length:=ψ
 refine List.ext_getElem (by simp;omega) λi b c=>?_
 grind
theorem Pb{a:List a7}(h:out≠[])(e:(nth out (out.length - 1)).At+(nth out (out.length - 1)).b0=y.At):dv out (y::a)=dv (out.set (out.length - 1) ⟨(nth out (out.length - 1)).At,(nth out (out.length - 1)).b0+y.b0⟩) a:=by grind [Fj,MG,dv]
theorem Qv{a:List a7}(h:out≠[])(e:¬(nth out (out.length - 1)).At+(nth out (out.length - 1)).b0=y.At):dv out (y::a)=dv (out++[y]) a:=by grind [Fj,dv]
theorem rL(xs:List a7)(w:xs.length<=4194304)(n:∀y∈xs,0<=y.At/\1<=y.b0/\y.At+y.b0<=1048576):zzA 573 false [.val none (bB .V xs)] .one (bB .own (dv [] xs)):=by
 refine fO 63 [(6,21,[15,16,17,18,19,20,21,22,23,24,25,26,27,28,29,30,31,32,33,34,35]),(7,15,[38,39,40,41,42,43,44,45,46,47,48,49,50,51,52])] Tryz.func573 rfl ?_ (.inr (mh _))
 repeat'(first|refine gP ?_|fail)
 (conv=>whnf)
 refine CG (ι:=Nat × List a7) (λq=>[(0,.H .one (bB .V xs)),(3,.H .one (bB .own q.2)),(4,.H .one [I ((q.1:Nat):Int)])]) (λq=>q.1<=xs.length/\dv q.2 (xs.drop q.1)=dv [] xs/\q.2.length<=q.1/\∀y∈q.2,0<=y.At/\1<=y.b0/\y.At+y.b0<=1048576) (λq=>xs.length - q.1) ((0,[])) ?_ ψ λq o=>?_
 ·exact wB
 obtain⟨i,out⟩:=q;obtain⟨p,a,g,b⟩:=o;simp only at p a g b |-;by_cases h:i<xs.length
 ·have j:=ao h
  have B:=n _ (am h);rw[gt h]at a;by_cases k:out=[]
  ·subst k
   rw[MZ]at a;have D:([]:List a7).length=0:=rfl
   repeat'(first|refine gE ?_|(conv=>whnf);first|with_reducible refine CD (aa j) ?_|refine Ln.mk (show List.length _=0 from rfl) ?_|refine CY (λr t=>by cases t) rfl (by simp) (by decide) rfl ?_)
   ((conv=>whnf)
    refine CE (i+1,[nth xs i]) ψ (by simp only;omega) ?_
    (repeat'(first|exact trivial|rfl|exact CL rfl (CL (X0 (C.s dJ.own) (by simp[a7.enc])) trivial)|refine CL ?_ ?_)))
  have l:0<out.length:=ψ
  have d:out[((out.length:Int) - 1).toNat]? = some (nth out (out.length - 1)):=by
   rw[show((out.length:Int) - 1).toNat=out.length - 1 by omega];grind [ao]
  have u:=b _ (am (xs:=out) (i:=out.length - 1) ω);by_cases e:(nth out (out.length - 1)).At+(nth out (out.length - 1)).b0=(nth xs i).At
  ·rw[Pb k e]at a
   repeat'(first|refine gB ?_|(conv=>whnf);first|with_reducible refine CD (aa j) ?_|refine CN ω (aa d) ?_|refine CH rfl (aa d) rfl ?_|refine CP rfl rfl (aa d) rfl (I1 rfl) rfl ?_)
   ((conv=>whnf)
    refine CE (i+1,out.set (out.length - 1) ⟨(nth out (out.length - 1)).At,(nth out (out.length - 1)).b0+(nth xs i).b0⟩) ⟨(by simp only;omega),a,ψ,(λy c=>?_)⟩ (by simp only;omega) ?_)
   ·rcases V6 c with c|rfl
    ·exact b y c
    simp only;omega
   (repeat'(first|exact trivial|rfl|exact CL rfl (CL (X0 (C.s dJ.own) (by rw[show((out.length:Int) - 1).toNat=out.length - 1 by omega,I6];rfl)) trivial)|refine CL ?_ ?_))
  rw[Qv k e]at a
  repeat'(first|refine gB ?_|(conv=>whnf);first|with_reducible refine CD (aa j) ?_|refine CN ω (aa d) ?_|refine CH rfl (aa d) rfl ?_|refine CY (aL λ_=>rfl) rfl (by simp;omega) (by decide) rfl ?_)
  ((conv=>whnf)
   refine CE (i+1,out++[nth xs i]) ⟨(by simp only;omega),a,(by simp;omega),(λy c=>?_)⟩ (by simp only;omega) ?_)
  ·rcases C3.1 c with c|c
   all_goals simp_all
  (repeat'(first|exact trivial|rfl|exact CL rfl (CL (X0 (C.s dJ.own) (by simp[a7.enc])) trivial)|refine CL ?_ ?_))
 obtain rfl:i=xs.length:=ω
 rw[List.drop_length]at a
 repeat'(first|refine gE ?_|fail)
 rw[<-a];rfl
def zX(r y:a7)(a:List a7)(put:Bool):na r (y::a) put=if ovl y r then none else if !put&&decide (y.At > r.At) then(na r a true).map λt=>r::y::t else(na r a put).map λt=>y::t:=by rw[na]
theorem mA(pages:Int)(xs:List a7)(r:a7)(G:0<=pages/\pages<=1048576)(H:gu xs):zzA 519 false [.val none [I pages],.val none (bB .V xs),.val (some 2) (a7.enc .V r)] (.tup [none,none]) (BE xs (cn pages xs r)):=by
 have o:=H.1;have j:=mH pages xs G H;have p:=w9 pages r G;cases k:bC pages xs<;>rw[k]at j
 ·rw[show cn pages xs r=none by unfold cn;rw[C9 (by rw[k];simp)]]
  refine fO 82 [] Tryz.func519 rfl ?_ (.inr (kV _ _))
  repeat'(first|refine gP ?_|(conv=>whnf);first|refine C8 (j) ?_|refine CQ (λ_=>rfl) (λ_=>rfl) o (by decide) ?_)
  rfl
 cases u:rangeIn pages r<;>rw[u]at p
 ·rw[show cn pages xs r=none by unfold cn;rw[C9 (by rw[u];simp)]]
  refine fO 82 [] Tryz.func519 rfl ?_ (.inr (kV _ _))
  repeat'(first|refine gP ?_|(conv=>whnf);first|refine C8 (j) ?_|refine C8 (p) ?_|refine CQ (λ_=>rfl) (λ_=>rfl) o (by decide) ?_)
  rfl
 obtain⟨J,K⟩:=wl k;have l:0<=r.At/\1<=r.b0/\r.At+r.b0<=pages:=by grind [rangeIn]
 rw[show cn pages xs r=(na r xs false).map (dv []) by unfold cn;rw[CC ⟨k,u⟩,AS (pages:=pages) J l.2.1 ψ]];refine fO 82 [] Tryz.func519 rfl ?_ (.inr (kV _ _))
 repeat'(first|refine gP ?_|(conv=>whnf);first|refine C8 (j) ?_|refine C8 (p) ?_|refine CQ (λ_=>rfl) (λ_=>rfl) o (by decide) ?_)
 (conv=>whnf)
 refine CG (ι:=Nat × List a7 × Bool) (λq=>[(1,.H .one (bB .V xs)),(5,.H .box (a7.enc .V r)),(8,.H .one (bB .own xs)),(9,.H .one (bB .own q.2.1)),(10,.H .one [B (q.2.2)]),(11,.H .one [I ((q.1:Nat):Int)])]) (λq=>q.1<=xs.length/\(na r (xs.drop q.1) q.2.2).map (q.2.1++·)=na r xs false/\q.2.1.length<=q.1+q.2.2.toNat/\(∀y∈q.2.1,0<=y.At/\1<=y.b0/\y.At+y.b0<=1048576)) (λq=>xs.length - q.1) ((0,[],false)) ?_ (⟨W0 _,by simp,by simp,by simp⟩) λq d=>?_
 ·exact wB
 obtain⟨i,out,put⟩:=q;obtain⟨L,b,c,e⟩:=d;simp only at L b c e |-;have M:0<=r.At/\1<=r.b0/\r.At+r.b0<=1048576:=ω
 by_cases w:i<xs.length
 ·have n:=ao w
  have N:=K _ (am w);have E:0<=(nth xs i).At/\1<=(nth xs i).b0/\(nth xs i).At+(nth xs i).b0<=1048576:=ω
  rw[gt w]at b;by_cases h:ovl (nth xs i) r=true
  ·rw[<-b]
   rw[zX,CC h];unfold ovl at h;rw[C0]at h
   repeat'(first|refine gE ?_|(conv=>whnf);first|with_reducible (first|refine CD (aa n) ?_|refine Bf.D (λd=>?_) (λd=>?_)))
   rfl
  rw[zX,C9 h]at b;unfold ovl at h;rw[C0]at h;cases put with
  | false=>
   have c:out.length<=i:=by simpa using c
   by_cases O:(nth xs i).At > r.At
   ·rw[CC (by simp;omega),Option.map_map]at b
    repeat'(first|refine gE ?_|(conv=>whnf);first|with_reducible (first|refine CD (aa n) ?_|refine Bf.D (λd=>?_) (λd=>?_))|refine CY (aL λ_=>rfl) rfl (by simp;omega) (by decide) rfl ?_|refine CY (λr l=>by simp at l;rcases l with⟨a,_,rfl⟩|rfl<;>rfl) rfl (by simp;omega) (by decide) rfl ?_)
    ((conv=>whnf)
     refine CE (i+1,out++[r,nth xs i],true) ⟨(by simp only;omega),(by rw[<-b];congr 1;funext t;simp),(by simp;omega),(λy g=>?_)⟩ (by simp only;omega) ?_)
    ·grind
    (repeat'(first|exact trivial|rfl|exact CL rfl (CL (X0 (C.s dJ.own) (by simp[a7.enc])) trivial)|refine CL ?_ ?_))
   rw[C9 (by simp;omega),Option.map_map]at b
   repeat'(first|refine gE ?_|(conv=>whnf);first|with_reducible (first|refine CD (aa n) ?_|refine Bf.D (λd=>?_) (λd=>?_))|refine CY (aL λ_=>rfl) rfl (by simp;omega) (by decide) rfl ?_)
   ((conv=>whnf)
    refine CE (i+1,out++[nth xs i],false) ⟨(by simp only;omega),(by rw[<-b];congr 1;funext t;simp),(by simp;omega),(λy g=>?_)⟩ (by simp only;omega) ?_)
   ·grind
   (repeat'(first|exact trivial|rfl|exact CL rfl (CL (X0 (C.s dJ.own) (by simp[a7.enc])) trivial)|refine CL ?_ ?_))
  | true=>
   have c:out.length<=i+1:=c;rw[C9 (by simp),Option.map_map]at b;by_cases P:(nth xs i).At<r.At+r.b0
   all_goals
    repeat'(first|refine gE ?_|(conv=>whnf);first|with_reducible (first|refine CD (aa n) ?_|refine Bf.D (λd=>?_) (λd=>?_))|refine CY (aL λ_=>rfl) rfl (by simp;omega) (by decide) rfl ?_)
    ((conv=>whnf)
     refine CE (i+1,out++[nth xs i],true) ⟨(by simp only;omega),(by rw[<-b];congr 1;funext t;simp),(by simp;omega),(λy g=>?_)⟩ (by simp only;omega) ?_)
    ·rcases C3.1 g with g|g
     ·exact e y g
     rw[O1.1 g];exact E
    (repeat'(first|exact trivial|rfl|exact CL rfl (CL (X0 (C.s dJ.own) (by simp[a7.enc])) trivial)|refine CL ?_ ?_))
 obtain rfl:i=xs.length:=ω
 rw[List.drop_length]at b;cases put with
 | false=>
  have c:out.length<=xs.length:=by simpa using c
  rw[<-b];have F:=rL (out++[r]) (by simp;omega) ψ
  repeat'(first|refine gE ?_|(conv=>whnf);first|refine CY (aL λ_=>rfl) rfl (by simp;omega) (by decide) (show(out++[r]).map (a7.enc .own)=_ by simp[a7.enc]) ?_|refine CF (F) ⟨⟨rfl,dR _⟩,trivial⟩ ?_)
  rfl
 | true=>
  have c:out.length<=xs.length+1:=c;rw[<-b];have F:=rL out ω e
  repeat'(first|refine gE ?_|(conv=>whnf);first|refine CF (F) ⟨⟨rfl,dR _⟩,trivial⟩ ?_)
  simp[na,BE]
  rfl
theorem shl64{i:Int}(a:0<=i/\i<=15):IntKind.i64.wrap (1*2 ^ min i.toNat IntKind.i64.bits)=2 ^ i.toNat/\0<=(2:Int) ^ i.toNat/\(2:Int) ^ i.toNat<=32768:=by
 have b:min i.toNat IntKind.i64.bits=i.toNat:=Nat.min_eq_left (show i.toNat<=64 by omega);have c:(0:Int)<=2 ^ i.toNat/\(2:Int) ^ i.toNat<=32768:=by
  have:(2:Nat) ^ i.toNat<=2 ^ 15:=Nat.pow_le_pow_right (by decide) ω
  grind
 grind [fo]
theorem clr64{i:Int}(a:0<=b/\b<=65535):IntKind.i64.wrap ((BitVec.ofInt IntKind.i64.bits b &&& ~~~BitVec.ofInt IntKind.i64.bits (2 ^ i.toNat)).toNat:Nat)=xJ b i:=by
 have:=D3 (i:=i) a
 grind [fo,xJ]
theorem tN(b i:Int)(c:0<=b/\b<=65535)(d:0<=i/\i<=15):zzA 574 false [.val none [I b],.val none [I i]] .one [I (xJ b i)]:=by
 have a:=pZ b i;rw[O0 ω]at a;have e:IntKind.u64.wrap i=i:=by grind [Go.IntKind.wrap,Go.IntKind.bits]
 refine fO 15 [] Tryz.func574 rfl ?_
 repeat'(first|refine gP ?_|(conv=>whnf);first|refine CB ?_|refine C8 (a) ?_|refine CO ω ?_|refine CM e ?_|refine CM (shl64 d).1 ?_|refine CM (clr64 c) ?_)
 rfl
def tC(b i:Int)(c:0<=b/\b<=65535)(d:0<=i/\i<=15):zzA 491 false [.val none [I b],.val none [I i]] .one [I (xJ b i)]:=by
 have a:=tF b i;rw[O0 ω]at a;refine fO 14 [] Tryz.func491 rfl ?_
 repeat'(first|refine gP ?_|(conv=>whnf);first|refine CB ?_|refine C8 (a) ?_|refine CO ω ?_|refine CM (shl64 d).1 ?_|refine CM (clr64 c) ?_)
 rfl
theorem HR{k:Int}(a:aW s.b1 k=true):0<=k/\k<=15:=by grind [eO]
def zF(s:ax)(k:Int)(a:bi s=true)(b:aW s.b1 k=true):zzA 523 false [.val (some 3) (ax.enc .V s),.val none [I k]] (.tup [some 3,none]) (ax.enc .own (kq s k)++[B true]):=by
 have e:=eB a;have g:=HR b;have c:=gv s;have d:=iN s.b1 k ω;rw[a]at c;rw[b]at d;refine fO 23 [] Tryz.func523 rfl ?_ (.inr (aQ (ax.enc_fr _) ⟨trivial,trivial⟩))
 repeat'(first|refine gP ?_|(conv=>whnf);first|refine CB ?_|refine C8 (c) ?_|refine C8 (d) ?_|refine C8 (tN s.b1 k e g) ?_)
 rfl
def yZ(s:ax)(k:Int)(a:bi s=true)(b:aW s.b1 k=true):zzA 385 false [.val (some 3) (ax.enc .V s),.val none [I k]] (.tup [some 3,none]) (ax.enc .own (kq s k)++[B true]):=by
 have e:=eB a;have g:=HR b;have c:=iA s;have d:=nw s.b1 k ω;rw[a]at c;rw[b]at d;refine fO 23 [] Tryz.func385 rfl ?_ (.inr (aQ (ax.enc_fr _) ⟨trivial,trivial⟩))
 repeat'(first|refine gP ?_|(conv=>whnf);first|refine CB ?_|refine C8 (c) ?_|refine C8 (d) ?_|refine C8 (tC s.b1 k e g) ?_)
 rfl
def x5(c:aB)(k:Int)(b:aB.sml c):zzA 477 false [.val (some 1) (aB.enc .V c),.val none [I k]] .one [B (bv c&&decide (0<=k/\k<=3))]:=by
 have a:=nt c b;cases e:bv c<;>rw[e]at a
 all_goals
  refine fO 11 [] Tryz.func477 rfl ?_
  repeat'(first|refine gP ?_|(conv=>whnf);first|refine CB ?_|refine C8 (a) ?_|refine C8 (aH k 0 3) ?_)
  all_goals rfl
def H3(c:aB)(k:Int)(a:aB.sml c):zzA 333 false [.val (some 1) (aB.enc .V c),.val none [I k]] .one [B (decide (0<=k/\k<=3)&&bv c)]:=by
 have b:=n8 c a;refine fO 11 [] Tryz.func333 rfl ?_
 repeat'(first|refine gP ?_|(conv=>whnf);first|with_reducible refine Bf.D (λd=>?_) (λd=>?_)|refine CB ?_|refine C8 (b) ?_|refine C8 (f7 k) ?_)
 all_goals exact X0 (λz=>[B z]) ((by simp[*]))
def pJ{k:Nat}(a:k<c.a.length):c.a[k]? = some (nth c.a k):=ao a
theorem Fp(h:bv c=true)(k:Nat)(a:Int):aB.sml (lz c k a):=by
 obtain⟨e,d⟩:=eL h;refine⟨by grind [lz],λl b=>?_⟩;rcases V6 b with b|rfl
 ·have:=d l b;show l.length<=1048576;omega
 show(nth c.a k++[a]).length<=1048576;by_cases f:k<c.a.length
 ·grind [am]
 have:nth c.a k=[]:=by unfold nth;rw[X2,W2 ω];rfl
 rw[this];simp
theorem w7(c:aB)(k:Nat)(a:Int):aB.enc .own (lz c k a)=[.s .own ((c.a.map (aF .own)).set k (aF .own (nth c.a k++[a])))]:=by grind [I6,aB.enc,lz]
theorem dC{f:α->List C}{xs:List α}{k:Nat}{y:α}{r:List C}(h:xs[k]? = some y):((xs.map f).set k r)[k]? = some r:=ψ
def fp(f:α->β)(xs:List α)(y:α):(xs++[y]).map f=xs.map f++[f y]:=by simp
def yh(c:aB)(k a:Int):List C:=aB.enc .own ((cput c k a).getD c)++[B (cput c k a).isSome]
def Er(c:aB)(k a:Int):gW (yh c k a):=aQ (aB.enc_fr _) ⟨trivial,trivial⟩
theorem z7(c:aB)(k:Nat)(a:Int)(j:bv c=true)(B:k<=3):zzA 572 false [.val (some 1) (aB.enc .V c),.val none [I (k:Nat)],.val none [I a]] (.tup [some 1,none]) (yh c k a):=by
 obtain⟨D,q⟩:=eL j;have r:aB.sml c:=⟨ω,λl u=>by have:=q l u;show l.length<=1048576;omega⟩
 have n:=x5 c k r;rw[j,O0 ω]at n;have t:=iM c r;have d:=Fp j k a;have o:=nt (lz c k a) d;have w:=iM (lz c k a) d;have b:=pJ (c:=c) (k:=k) ω;have y:=q _ (am (xs:=c.a) (i:=k) ω);have h:=Cg (lz c k a);rw[w7]at h;have g:=Er c k a;unfold yh at g |-;cases e:bv (lz c k a)<;>rw[e]at o
 ·have p:cput c k a=none:=by grind [cput]
  rw[p]at g |-;refine fO 35 [(4,267,[16,17,18,19,20,21,22,23,24,25,27,0,1,2,3,4,5,6,7,8,9,10,1000,1001,1002,11,12])] Tryz.func572 rfl ?_ (.inr g)
  repeat'(first|refine gP ?_|(conv=>whnf);first|with_reducible refine CD (aa b) ?_|refine CB ?_|refine CD (dC b) ?_|refine CH rfl (dC b) rfl ?_|refine C8 (n) ?_|refine C8 (t) ?_|refine Lq.one rfl rfl (aa b) rfl (I1 rfl) rfl rfl ?_|refine CH rfl (aa b) rfl ?_|refine CP rfl rfl (dC b) rfl (I1 rfl) (show [C.s dJ.own ((c.a.map (aF .own)).set k (aF .own (nth c.a k++[a])))]=_ from by simp only[List.set_cons_zero,List.set_set,Z2];rfl) ?_|refine CY (aL λ_=>rfl) rfl (by simp;omega) (by decide) (fp _ _ _) ?_|refine CF (o) ⟨⟨rfl,h⟩,trivial⟩ ?_)
  rfl
 have p:cput c k a=some (lz c k a):=by grind [cput]
 rw[p]at g |-;refine fO 35 [(4,267,[16,17,18,19,20,21,22,23,24,25,27,0,1,2,3,4,5,6,7,8,9,10,1000,1001,1002,11,12])] Tryz.func572 rfl ?_ (.inr g)
 repeat'(first|refine gP ?_|(conv=>whnf);first|with_reducible refine CD (aa b) ?_|refine CB ?_|refine CD (dC b) ?_|refine CH rfl (dC b) rfl ?_|refine C8 (n) ?_|refine C8 (t) ?_|refine Lq.one rfl rfl (aa b) rfl (I1 rfl) rfl rfl ?_|refine CH rfl (aa b) rfl ?_|refine CP rfl rfl (dC b) rfl (I1 rfl) (show [C.s dJ.own ((c.a.map (aF .own)).set k (aF .own (nth c.a k++[a])))]=_ from by simp only[List.set_cons_zero,List.set_set,Z2];rfl) ?_|refine CY (aL λ_=>rfl) rfl (by simp;omega) (by decide) (fp _ _ _) ?_|refine CF (o) ⟨⟨rfl,h⟩,trivial⟩ ?_|refine CF (w) ⟨⟨rfl,h⟩,trivial⟩ ?_)
 rfl
theorem ET(o:aY)(a:Int):zzA 252 false [.val (some 4) (aY.enc .V o),.ptr [I a]] .one [B (gf a o)]:=by
 refine fO 8 [] Tryz.func252 rfl ?_
 repeat'(first|refine gP ?_|(conv=>whnf);first|refine CB ?_)
 grind [gf]
def qS(h:ab)(a:Int)(c:h.M.length<=1048576):zzA 97 false [.val (some 24) (ab.enc .V h),.val none [I a]] .one [I (dd (gf a) h.M)]:=by
 refine fO 9 [] Tryz.func97 rfl ?_
 repeat'(first|refine gP ?_|(conv=>whnf);first|refine CB ?_|refine Cq.mk (xI (some 4) (aY.enc .V) (gf a) h.M) (ET default a).has (λL k rcs b=>?_) ?_|refine C8 (jG h.M (gf a) ω) ?_)
 ·obtain⟨y,-,rfl,rfl,rfl⟩:=b
  exact ET y a
 rfl
theorem oC(xs:List ay)(pr:ay->Bool)(g:xs.length<=9223372036854775807):zzA 100 false [.val none (bU .V xs),.fn (oV Tryz.prog (xI (some 3) (ay.enc .V) pr xs))] .one [I (dd pr xs)]:=by
 refine fO 19 [] Tryz.func100 rfl ?_
 repeat'(first|refine gP ?_|(conv=>whnf);first|refine CB ?_)
 (conv=>whnf)
 refine CG (ι:=Nat) (λi=>[(0,.H .one (bU .V xs)),(1,.fv (oV Tryz.prog (xI (some 3) (ay.enc .V) pr xs))),(7,.H .one [I xs.length]),(8,.H .one [I (i:Nat)])]) (λi=>i<=xs.length/\∀(j:Nat)(z:ay),j<i->xs[j]? = some z->pr z=false) (λi=>xs.length - i) 0 ?_ ψ λi b=>?_
 ·exact wB
 obtain⟨b,d⟩:=b;by_cases a:i<xs.length
 ·obtain⟨y,c⟩ : ∃y,xs[i]? = some y:=⟨_,O2 a⟩
  repeat'(first|refine gE ?_|(conv=>whnf);first|with_reducible refine CD (aa c) ?_|refine CB ?_|refine Fv.mk (k:=.one) (rcs:=[B (pr y)]) ⟨y,C2 c,rfl,rfl,rfl⟩ ?_|refine Bf.P (λe=>?_) (λe=>?_))
  ·grind [dP]
  (conv=>whnf)
  refine CE (i+1) ψ ω ?_;exact wB
 repeat'(first|refine gE ?_|(conv=>whnf);first|refine CB ?_)
 exact X0 (λz=>[I z]) (g9 ω d).symm
def bA(x:ab):List C:=[.s .own (x.G.F.W.U.map (aF .own)),.s .own (x.G.F.W.a9.map (rB .own)),.s .own (x.G.F.R.O.map (bh.enc .own)),I x.G.Calls,.s .own (x.G.a0.map (rI .own)),.s .own (x.q.map (a7.enc .own)),.s .own (x.K.map (ax.enc .own)),.s .own (x.J.map (ay.enc .own)),.s .own (x.M.map (aY.enc .own)),.s .own (x.S.map (aB.enc .own)),.s .own (x.w.T.map (cb .own)),.s .own (x.w.y.map (aF .own)),I x.a6.c0,.s .own (x.a6.a1.map (aO.enc .own)),I x.c1,I x.b3,I x.c4,I x.b,B x.u,I x.Z.Y.a5,I x.Z.Y.a4,.s .V (x.Z.Y.U.map (rI .V)),I x.Z.b2,I x.Z.b]
def bJ(x:ab):ef (bA x)=ab.enc .V x:=by simp[ef,bA,ab.enc,Cg,bh.enc_fz,ay.enc_fz,aY.enc_fz,a7.enc_fz,ax.enc_fz,aO.enc_fz,rB,qM,rI,eY,<-cw,Y5]
def yF(x:cL):List C:=[I x.Y.a5,I x.Y.a4,.s .V (x.Y.U.map (rI .V)),I x.b2,I x.b]
end Go.Proofs.YtiopgblagimpmaaGreat.Ab
