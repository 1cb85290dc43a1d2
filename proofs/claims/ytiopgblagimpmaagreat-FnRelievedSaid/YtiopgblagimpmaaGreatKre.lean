/- Addresses in use, and that each has one holder: the contracts of LiveAddrs and l27Once, the reference's. No condition. -/
import Derived.Test.YtiopgblagimpmaaGreatKrd
import Derived.Test.YtiopgblagimpmaaGreatKrShelf
import Derived.WalkKit
import Derived.Lib.SliceRun
set_option linter.unusedVariables false
set_option linter.defProp false
set_option linter.unusedSimpArgs false
set_option linter.constructorNameAsVariable false
namespace Go.Proofs.YtiopgblagimpmaaGreat.Ab
open Go.RowKit
set_option maxRecDepth 20000
set_option maxHeartbeats 8000000
variable{n:Nat}{la:List aB}{sp:List au}
theorem Li(h:kN sp la n=true):mh sp la (n+1)=mh sp la n++[(n:Int)]:=by grind [List.range_succ,mh]
theorem PY(h:kN sp la n=false):mh sp la (n+1)=mh sp la n:=by grind [List.range_succ,mh]
theorem Bv(sp:List au)(la:List aB)(n:Nat):(mh sp la n).length<=n:=by grind [mh]
theorem sG{w:jW}(a:denotes sp la (n:Nat)=w):kN sp la n=(decide (w.c4=0)&&(decide (w.b6=1) || decide (w.b6=3))):=by grind [kN]
def QM(h:n<=1048576):n7 (n:Nat):=⟨ω,ω⟩
theorem zc(sp:List au)(la:List aB)(c:dX sp)(d:dR la)(a:bp sp la=true):zzA 364 false [.val none (bX .W sp),.val none (cC .W la)] .one (aF .own (kU sp la)):=by
 have g:=mH sp la c d;rw[a]at g;refine fO 40 [] Tryz.func364 rfl ?_ (.inr (bM _))
 repeat'(first|refine gP ?_|fail)
 (conv=>whnf)
 refine CG (ι:=Nat) (λn=>[(0,.H .one (bX .W sp)),(1,.H .one (cC .W la)),(5,.H .one (aF .own (mh sp la n))),(6,.H .one [I ((n:Nat):Int)])]) (λn=>n<=512) (λn=>512 - n) (0) ?_ (X0 _) λn o=>?_
 ·exact wB
 have i:=Bv sp la n;by_cases p:n<512
 ·have h:=oe sp la (n:Nat) c d a (QM ω)
  generalize j:denotes sp la (n:Nat)=w at h;have e:=sG j
  repeat'(first|refine gE ?_|(conv=>whnf);first|with_reducible refine Bf.E (λk=>?_) (λk=>?_)|refine C9 g ?_|refine C9 h ?_|refine CU cz (λr l=>by rw[V1.1 l];rfl) (by simp[bk,eG]) (by simp;omega) (by simp only[I1];exact zE (by simp;omega) (by decide)) rfl ?_)
  all_goals first
   |(have b:kN sp la n=true:=by rw[e];grind
     (conv=>whnf)
     refine CF (n+1) ω ω ?_;rw[Li b]
     (repeat'(first|exact trivial|rfl|exact CM rfl (CM (Z0 (C.s dM.own) (by simp[rI])) trivial)|refine CM ?_ ?_)))
   |(have b:kN sp la n=false:=by rw[e];grind
     (conv=>whnf)
     refine CF (n+1) ω ω ?_;rw[PY b]
     (exact wA))
 obtain rfl:n=512:=ω
 repeat'(first|refine gE ?_|(conv=>whnf);first|refine C9 g ?_)
 rfl
theorem zm(m:aJ)(a:m.a1.length=m.V.length):∀i,i<=m.V.length->(((flight1 m i).length+(flight2 m i).length:Nat):Int)=bC m i
 | 0,_=>rfl
 | i+1,h=>by
  have d:=zm m a i ω;have b:=ao (xs:=m.V) (i:=i) ω;have c:=ao (xs:=m.a1) (i:=i) ω;rw[o8 b,oh c];simp only[Z3,I1];show _=bC m i+((nth m.V i).length+(nth m.a1 i).length);omega
theorem tl{m:aJ}(h:bQ m=true):(aP m).length<=30:=by grind [zm,pO,bQ]
def Gk{m:aJ}(d:aJ.wf m):∀a∈aP m,n7 a:=by
 intro a b;unfold aP at b;split at b
 ·rcases W3.1 b with h|h
  ·obtain⟨l,c,h⟩:=List.mem_flatMap.1 h
   obtain⟨p,e,rfl⟩:=O5.1 h;exact((d.1.2 l c).2 p e).2
  obtain⟨l,c,h⟩:=List.mem_flatten.1 h;exact(d.2.2 l c).2 a h
 cases b
variable{h:ab}
theorem Lh(h1:h.S.all (f9 h)=false):kw h=false:=by grind [kw,jZ]
theorem Mg(h1:h.a9.a6.all (iF h)=false):kw h=false:=by grind [kw,jZ]
theorem Mo(h1:(aP h.y).all (kX h)=false):kw h=false:=by grind [kw,jZ]
variable{i:Nat}
theorem LA(a:i<(holders h).length)(b:nth (holders h) i∈(holders h).take i):kw h=false:=by
 have c:decide (holders h).Nodup=false:=Nw (S:=(holders h).take i) (p:=nth (holders h) i) (by
   have:=ao a;have e:(holders h).take i++[nth (holders h) i]=(holders h).take (i+1):=by grind [Y6]
   grind) b
 grind [kw]
variable{c:aC}
theorem wg(a:h.S[i]? = some c):((h.S.take (i+1)).flatMap λc=>c.a.flatten)=((h.S.take i).flatMap λc=>c.a.flatten)++c.a.flatten:=by grind [Y6]
theorem xQ{k:Nat}{l:List Int}(a:c.a[k]? = some l):(c.a.take (k+1)).flatten=(c.a.take k).flatten++l:=by grind [Y6]
theorem Jn(h:ab)(hs:ab.sml h)(hw:ab.wf h)(t:bp h.J h.M=true)(w:bQ h.y=true)(W:∀c∈h.S,bz c=true):zzA 216 false [.val (some 24) (ab.enc .W h)] .one [B (kw h)]:=by
 obtain⟨-,-,G,H,X,Y,Z,hsq,-⟩:=hs;obtain⟨-,-,-,-,-,hwc,hwm,hwq,-⟩:=hw;have hlo:h.O.length<=1048576:=X.1;have hlc:h.S.length<=1048576:=Y.1;have hlq:h.a9.a6.length<=1048576:=hsq.1;have hfl:=tl w;have hfw:=Gk hwm;have y:∀a c,n7 a->zzA 363 false [.val (some 24) (ab.enc .W h),.val none [I a],.val none [I c]] .one [B (dD h a c)]:=λa c ha=>J9 h a c G H t ha
 refine fO 159 [(16,8,[63,64,65,66,67,68,69,70]),(22,17,[86,87,88,89,90,91,92,93,94,95,96,97,98,99,100,101,102]),(29,7,[122,123,124,125,126,127,128]),(35,8,[142,143,144,145,146,147,148,149])] Tryz.func216 rfl ?_
 repeat'(first|refine gP ?_|fail)
 (conv=>whnf)
 refine CG (ι:=Nat × List Int) (λi=>[(1,.H .box (ab.enc .W h)),(3,.H .one (aF .own i.2)),(4,.H .one [I ((i.1:Nat):Int)])]) (λi=>i.1<=h.O.length/\i.2=(h.O.take i.1).map (·.Addr)) (λi=>h.O.length - i.1) ((0,[])) ?_ ψ λi u=>?_
 ·exact wB
 obtain⟨i,S⟩:=i;obtain⟨u,Q⟩:=u;simp only at u Q |-;have hSl:S.length=i:=ψ
 by_cases li:i<h.O.length
 ·have E:=ao li
  repeat'(first|refine gE ?_|(conv=>whnf);first|with_reducible refine CE (aa E) ?_|refine CU cz (λr l=>by rw[V1.1 l];rfl) (by simp[bk,eG]) (by simp;omega) (by simp only[I1];exact zE (by simp;omega) (by decide)) rfl ?_)
  ((conv=>whnf)
   refine CF (i+1,S++[(nth h.O i).Addr]) ⟨(by simp only;omega),(by grind [Y6])⟩ (by simp only;omega) ?_
   (repeat'(first|exact trivial|rfl|exact CM rfl (CM (Z0 (C.s dM.own) (by simp[rI])) trivial)|refine CM ?_ ?_)))
 obtain rfl:i=h.O.length:=ω
 rw[O6]at Q
 repeat'(first|refine gE ?_|fail)
 (conv=>whnf)
 refine CG (ι:=Nat × List Int) (λi=>[(1,.H .box (ab.enc .W h)),(3,.H .one (aF .own i.2)),(5,.H .one [I ((i.1:Nat):Int)])]) (λi=>i.1<=h.S.length/\i.2=S++((h.S.take i.1).flatMap λc=>c.a.flatten)/\(h.S.take i.1).all (f9 h)=true/\i.2.length<=1048576+32*i.1) (λi=>h.S.length - i.1) ((0,S)) ?_ ψ λi u=>?_
 ·exact wB
 obtain⟨i,S2⟩:=i;obtain⟨hi2,n,ai,J⟩:=u;simp only at hi2 n ai J |-;by_cases li2:i<h.S.length
 ·have E:=ao li2
  obtain⟨h4,h8⟩:=wd (W _ (am li2));have hwl:=hwc.2 _ (am li2)
  repeat'(first|refine gE ?_|(conv=>whnf);first|with_reducible refine CE (aa E) ?_)
  (conv=>whnf)
  refine CG (ι:=Nat × List Int) (λk=>[(1,.H .box (ab.enc .W h)),(3,.H .one (aF .own k.2)),(5,.H .one [I ((i:Nat):Int)]),(6,.H .one [I ((k.1:Nat):Int)])]) (λk=>k.1<=(nth h.S i).a.length/\k.2=S2++((nth h.S i).a.take k.1).flatten/\dr k.1 (tV h (nth h.S i))=true/\k.2.length<=S2.length+8*k.1) (λk=>(nth h.S i).a.length - k.1) ((0,S2)) ?_ (⟨X0 _,by simp,rfl,by simp⟩) λk hk=>?_
  ·exact wB
  obtain⟨k,R⟩:=k;obtain⟨hk,K,ak,hb3⟩:=hk;simp only at hk K ak hb3 |-;by_cases T:k<(nth h.S i).a.length
  ·have hy:=ao T
   have hl8:=h8 _ (am T);have hwa:=(hwl.2 _ (am T)).2
   repeat'(first|refine gE ?_|(conv=>whnf);first|with_reducible (first|refine CE (aa E) ?_|refine CE (aa hy) ?_))
   (conv=>whnf)
   refine CG (ι:=Nat × List Int) (λj=>[(1,.H .box (ab.enc .W h)),(3,.H .one (aF .own j.2)),(5,.H .one [I ((i:Nat):Int)]),(6,.H .one [I ((k:Nat):Int)]),(7,.H .one (aF .W (nth (nth h.S i).a k))),(8,.H .one [I ((j.1:Nat):Int)])]) (λj=>j.1<=(nth (nth h.S i).a k).length/\j.2=R++(nth (nth h.S i).a k).take j.1/\((nth (nth h.S i).a k).take j.1).all (λa=>dD h a (k:Nat))=true) (λj=>(nth (nth h.S i).a k).length - j.1) ((0,R)) ?_ ψ λj hj=>?_
   ·exact wB
   obtain⟨j,S4⟩:=j;obtain⟨hj,L,U⟩:=hj;simp only at hj L U |-;have hl4:S4.length=R.length+j:=ψ
   by_cases lj:j<(nth (nth h.S i).a k).length
   ·have d:=ao lj
    have b:=y (nth (nth (nth h.S i).a k) j) (k:Nat) ψ;cases g:dD h (nth (nth (nth h.S i).a k) j) (k:Nat)<;>rw[g]at b
    ·repeat'(first|refine gE ?_|(conv=>whnf);first|with_reducible refine CE (aa d) ?_|refine C9 b ?_)
     exact Z0 (λz=>[B z]) ((Lh (ik E (by unfold f9;exact cF T (ik d g)))).symm)
    repeat'(first|refine gE ?_|(conv=>whnf);first|with_reducible refine CE (aa d) ?_|refine C9 b ?_|refine CU cz (λr l=>by rw[V1.1 l];rfl) (by simp[bk,eG]) (by simp;omega) (by show _*8<=_;simp;omega) rfl ?_)
    ((conv=>whnf)
     refine CF (j+1,S4++[nth (nth (nth h.S i).a k) j]) ⟨(by simp only;omega),(by grind [Y6]),dd d U g⟩ (by simp only;omega) ?_
     (repeat'(first|exact trivial|rfl|exact CM rfl (CM (Z0 (C.s dM.own) (by simp[rI])) trivial)|refine CM ?_ ?_)))
   obtain rfl:j=(nth (nth h.S i).a k).length:=ω
   rw[O6]at L U
   repeat'(first|refine gE ?_|fail)
   ((conv=>whnf);refine CF (k+1,S4) ⟨(by simp only;omega),(by grind [xQ]),bU ak U,(by simp only;omega)⟩ (by simp only;omega) ?_;(exact wB))
  obtain rfl:k=(nth h.S i).a.length:=ω
  rw[O6]at K
  repeat'(first|refine gE ?_|(conv=>whnf);first|with_reducible refine CE (aa E) ?_)
  ((conv=>whnf);refine CF (i+1,R) ⟨(by simp only;omega),(by grind [wg]),dd E ai ak,(by simp only;omega)⟩ (by simp only;omega) ?_;(exact wB))
 obtain rfl:i=h.S.length:=ω
 rw[O6]at n ai
 repeat'(first|refine gE ?_|fail)
 (conv=>whnf)
 refine CG (ι:=Nat × List Int) (λq=>[(1,.H .box (ab.enc .W h)),(3,.H .one (aF .own q.2)),(9,.H .one [I ((q.1:Nat):Int)])]) (λq=>q.1<=h.a9.a6.length/\q.2=S2++(h.a9.a6.take q.1).map (·.Addr)/\(h.a9.a6.take q.1).all (iF h)=true) (λq=>h.a9.a6.length - q.1) ((0,S2)) ?_ ψ λq M=>?_
 ·exact wB
 obtain⟨q,N⟩:=q;obtain⟨F,o,aq⟩:=M;simp only at F o aq |-;have hl5:N.length=S2.length+q:=ψ
 by_cases V:q<h.a9.a6.length
 ·have d:=ao V
  have b:=y (nth h.a9.a6 q).Addr (nth h.a9.a6 q).e (hwq.2.2 _ (am V)).1;cases g:dD h (nth h.a9.a6 q).Addr (nth h.a9.a6 q).e<;>rw[g]at b
  ·repeat'(first|refine gE ?_|(conv=>whnf);first|with_reducible refine CE (aa d) ?_|refine C9 b ?_)
   exact Z0 (λz=>[B z]) ((Mg (ik d g)).symm)
  repeat'(first|refine gE ?_|(conv=>whnf);first|with_reducible refine CE (aa d) ?_|refine C9 b ?_|refine CU cz (λr l=>by rw[V1.1 l];rfl) (by simp[bk,eG]) (by simp;omega) (by show _*8<=_;simp;omega) rfl ?_)
  ((conv=>whnf)
   refine CF (q+1,N++[(nth h.a9.a6 q).Addr]) ⟨(by simp only;omega),(by grind [Y6]),dd d aq g⟩ (by simp only;omega) ?_
   (repeat'(first|exact trivial|rfl|exact CM rfl (CM (Z0 (C.s dM.own) (by simp[rI])) trivial)|refine CM ?_ ?_)))
 obtain rfl:q=h.a9.a6.length:=ω
 rw[O6]at o aq
 repeat'(first|refine gE ?_|(conv=>whnf);first|refine C9 (Ad h.y Z) ?_)
 (conv=>whnf)
 refine CG (ι:=Nat × List Int) (λq=>[(1,.H .box (ab.enc .W h)),(3,.H .one (aF .own q.2)),(10,.H .one (aF .own (aP h.y))),(11,.H .one [I ((q.1:Nat):Int)])]) (λq=>q.1<=(aP h.y).length/\q.2=N++(aP h.y).take q.1/\((aP h.y).take q.1).all (kX h)=true) (λq=>(aP h.y).length - q.1) ((0,N)) ?_ ψ λq M=>?_
 ·exact wB
 obtain⟨q,e⟩:=q;obtain⟨F,p,aq6⟩:=M;simp only at F p aq6 |-;have hl6:e.length=N.length+q:=ψ
 by_cases V:q<(aP h.y).length
 ·have d:=ao V
  have b:=y (nth (aP h.y) q) (-1) ψ;cases g:dD h (nth (aP h.y) q) (-1)<;>rw[g]at b
  ·repeat'(first|refine gE ?_|(conv=>whnf);first|with_reducible refine CE (aa d) ?_|refine CK rfl (aa d) rfl ?_|refine C9 b ?_)
   exact Z0 (λz=>[B z]) ((Mo (ik d g)).symm)
  repeat'(first|refine gE ?_|(conv=>whnf);first|with_reducible refine CE (aa d) ?_|refine CK rfl (aa d) rfl ?_|refine C9 b ?_|refine CU cz (λr l=>by rw[V1.1 l];rfl) (by simp[bk,eG]) (by simp;omega) (by show _*8<=_;simp;omega) rfl ?_)
  ((conv=>whnf)
   refine CF (q+1,e++[nth (aP h.y) q]) ⟨(by simp only;omega),(by grind [Y6]),dd d aq6 g⟩ (by simp only;omega) ?_
   (repeat'(first|exact trivial|rfl|exact CM rfl (CM (Z0 (C.s dM.own) (by simp[rI])) trivial)|refine CM ?_ ?_)))
 obtain rfl:q=(aP h.y).length:=ω
 rw[O6]at p aq6;have O:e=holders h:=by rw[p,o,n,Q];rfl
 have hheld:jZ h=true:=by grind [jZ]
 have hbig:e.length<=100000000:=ω
 clear p o n Q hSl hl5 J hl6
 repeat'(first|refine gE ?_|fail)
 (conv=>whnf)
 refine Lp.fz 3 (ι:=Nat) (λi=>[(1,.H .box (ab.enc .W h)),(3,.H .one (aF .W e)),(12,.H .one [I ((i:Nat):Int)])]) (λi=>i<=e.length/\(e.take i).Nodup) (λi=>e.length - i) 0 ?_ ψ λi u=>?_
 ·(repeat'(first|exact trivial|rfl|exact CM rfl (show NH (eg (aF .own e)) (aF .W e) by rw[eM];exact nh _)|refine CM ?_ ?_))
 obtain⟨u,P⟩:=u;by_cases lj:i<e.length
 ·have d:=ao lj
  have htl:(e.take i).length=i:=ψ
  repeat'(first|refine gE ?_|(conv=>whnf);first|with_reducible (first|refine CE (aa d) ?_|refine Bf.D (λM=>?_) (λM=>?_))|refine CX i rfl (by simp;omega) (λr l=>by obtain⟨z,-,rfl⟩:=O5.1 l;rfl) (C5 ..) ?_|refine C9 (nq (e.take i) _ ω) ?_)
  all_goals first
   | exact Z0 (λz=>[B z]) ((by rw[O]at *;exact(LA (by assumption) (by assumption)).symm))
   | ((conv=>whnf);refine CF (i+1) ⟨ω,by rw[Y6,d];exact lO P (by assumption)⟩ ω ?_;(exact wB))
 obtain rfl:i=e.length:=ω
 rw[O6]at P;have hlv:=Bv h.J h.M 512
 repeat'(first|refine gE ?_|(conv=>whnf);first|refine C9 (zc h.J h.M G H t) ?_)
 exact Z0 (λz=>[B z]) ((by grind [kw]))
set_option maxHeartbeats 8000000
def dJ(h:ab):Bool:=(bQ h.y&&decide (h.S.length=h.y.V.length))&&gK h.a9
def cJ(h:ab):Bool:=((((((kM h&&vC h)&&dJ h)&&mi h)&&h.S.all bz)&&cu h)&&(gt h&&kw h))&&tn h
theorem FM(h:ab)(X:ab.sml h)(Y:ab.wf h):zzA 73 false [.val (some 24) (ab.enc .W h)] .one [B (cJ h)]:=by
 have M:=X;have O:=Y;obtain⟨u,w,b,j,P,y,C,E,F⟩:=X;obtain⟨-,-,-,-,Q,hwc,hwm,hwq,-⟩:=Y;have l:zf h:=u.1.2;have hpn:eZ h<=1048576:=l.1;have R:h.O.length<=1048576:=P.1;have S:h.S.length<=1048576:=y.1;have hlq:h.a9.a6.length<=1048576:=E.1;have hlb:h.y.V.length<=1048576:=C.1.1;have d:=mF h.G u;have e:=mI (eZ h) h.w ω w;have g:=mH h.J h.M b j;have r:=E1 h b l;have G:=mz h.y C;have T:=pq h.a9 E;cases Z:ay h.G<;>rw[Z]at d
 ·refine fO 150 [(8,10,[67,68,69,70,71,72,73,74,75,76])] Tryz.func73 rfl ?_
  repeat'(first|refine gP ?_|(conv=>whnf);first|with_reducible refine Bf.N (λa=>?_) (λa=>?_)|refine C9 d ?_)
  all_goals first
   | exact Z0 (λz=>[B z]) ((by unfold cJ kM;rw[Z];simp))
   |(exfalso;omega)
 cases e2:bG (eZ h) h.w<;>rw[e2]at e
 ·refine fO 150 [(8,10,[67,68,69,70,71,72,73,74,75,76])] Tryz.func73 rfl ?_
  repeat'(first|refine gP ?_|(conv=>whnf);first|with_reducible refine Bf.N (λa=>?_) (λa=>?_)|refine C9 d ?_|refine C9 e ?_)
  all_goals first
   | exact Z0 (λz=>[B z]) ((by unfold cJ kM;rw[e2];simp))
   |(exfalso;omega)
 cases H:bp h.J h.M<;>rw[H]at g
 ·refine fO 150 [(8,10,[67,68,69,70,71,72,73,74,75,76])] Tryz.func73 rfl ?_
  repeat'(first|refine gP ?_|(conv=>whnf);first|with_reducible refine Bf.N (λa=>?_) (λa=>?_)|refine C9 d ?_|refine C9 e ?_|refine C9 g ?_)
  all_goals first
   | exact Z0 (λz=>[B z]) ((by unfold cJ kM;rw[H];simp))
   |(exfalso;omega)
 have n:=Ha h b j l w H;cases e4:pages0 h<;>rw[e4]at n
 ·refine fO 150 [(8,10,[67,68,69,70,71,72,73,74,75,76])] Tryz.func73 rfl ?_
  repeat'(first|refine gP ?_|(conv=>whnf);first|with_reducible refine Bf.N (λa=>?_) (λa=>?_)|refine C9 d ?_|refine C9 e ?_|refine C9 g ?_|refine C9 n ?_)
  all_goals first
   | exact Z0 (λz=>[B z]) ((by unfold cJ kM;rw[e4];simp))
   |(exfalso;omega)
 cases e5:vC h<;>rw[e5]at r
 ·refine fO 150 [(8,10,[67,68,69,70,71,72,73,74,75,76])] Tryz.func73 rfl ?_
  repeat'(first|refine gP ?_|(conv=>whnf);first|with_reducible refine Bf.N (λa=>?_) (λa=>?_)|refine C9 d ?_|refine C9 e ?_|refine C9 g ?_|refine C9 n ?_|refine C9 r ?_)
  all_goals first
   | exact Z0 (λz=>[B z]) ((by unfold cJ ;rw[e5];simp))
   |(exfalso;omega)
 cases U:bQ h.y<;>rw[U]at G
 ·refine fO 150 [(8,10,[67,68,69,70,71,72,73,74,75,76])] Tryz.func73 rfl ?_
  repeat'(first|refine gP ?_|(conv=>whnf);first|with_reducible refine Bf.N (λa=>?_) (λa=>?_)|refine C9 d ?_|refine C9 e ?_|refine C9 g ?_|refine C9 n ?_|refine C9 r ?_|refine C9 G ?_)
  all_goals first
   | exact Z0 (λz=>[B z]) ((by unfold cJ dJ;rw[U];simp))
   |(exfalso;omega)
 by_cases V:h.S.length=h.y.V.length;rotate_left
 ·refine fO 150 [(8,10,[67,68,69,70,71,72,73,74,75,76])] Tryz.func73 rfl ?_
  repeat'(first|refine gP ?_|(conv=>whnf);first|with_reducible refine Bf.N (λa=>?_) (λa=>?_)|refine C9 d ?_|refine C9 e ?_|refine C9 g ?_|refine C9 n ?_|refine C9 r ?_|refine C9 G ?_)
  all_goals first
   | exact Z0 (λz=>[B z]) ((by unfold cJ dJ;rw[W0 V];simp))
   |(exfalso;omega)
 cases e7:gK h.a9<;>rw[e7]at T
 ·refine fO 150 [(8,10,[67,68,69,70,71,72,73,74,75,76])] Tryz.func73 rfl ?_
  repeat'(first|refine gP ?_|(conv=>whnf);first|with_reducible refine Bf.N (λa=>?_) (λa=>?_)|refine C9 d ?_|refine C9 e ?_|refine C9 g ?_|refine C9 n ?_|refine C9 r ?_|refine C9 G ?_|refine C9 T ?_)
  all_goals first
   | exact Z0 (λz=>[B z]) ((by unfold cJ dJ;rw[e7];simp))
   |(exfalso;omega)
 have hlay:kM h=true:=by grind [kM]
 have hmc:dJ h=true:=by grind [dJ]
 refine fO 150 [(8,10,[67,68,69,70,71,72,73,74,75,76])] Tryz.func73 rfl ?_
 repeat'(first|refine gB ?_|(conv=>whnf);first|with_reducible refine Bf.N (λa=>?_) (λa=>?_)|refine C9 d ?_|refine C9 e ?_|refine C9 g ?_|refine C9 n ?_|refine C9 r ?_|refine C9 G ?_|refine C9 T ?_)
 all_goals try(exfalso;omega)
 (conv=>whnf)
 refine CG (ι:=Nat) (λi=>[(1,.H .box (ab.enc .W h)),(3,.H .one [I ((i:Nat):Int)])]) (λi=>i<=h.a9.a6.length/\(h.a9.a6.take i).all (λx=>decide (x.b7<=h.b3))=true) (λi=>h.a9.a6.length - i) (0) ?_ ψ λi hi=>?_
 ·exact wB
 obtain⟨hi,ai⟩:=hi;by_cases li:i<h.a9.a6.length
 ·have p:=ao li
  repeat'(first|refine gE ?_|(conv=>whnf);first|with_reducible (first|refine CE (aa p) ?_|refine Bf.D (λa=>?_) (λa=>?_)))
  all_goals first
   | exact Z0 (λz=>[B z]) ((by unfold cJ mi;rw[ik p (W0 ω)];simp))
   | ((conv=>whnf);refine CF (i+1) ⟨ω,dd p ai (O0 ω)⟩ ω ?_;(exact wB))
 have hsi:mi h=true:=nL ω ai
 repeat'(first|refine gE ?_|fail)
 (conv=>whnf)
 refine CG (ι:=Nat) (λk=>[(1,.H .box (ab.enc .W h)),(4,.H .one [I ((k:Nat):Int)])]) (λk=>k<=h.S.length/\(h.S.take k).all bz=true) (λk=>h.S.length - k) (0) ?_ ψ λk hk=>?_
 ·exact wB
 obtain⟨hk,ak⟩:=hk;by_cases lk:k<h.S.length
 ·have p:=ao lk
  have W:=og (nth h.S k) (y.2 _ (am lk));cases e8:bz (nth h.S k)<;>rw[e8]at W
  ·repeat'(first|refine gE ?_|(conv=>whnf);first|with_reducible refine CE (aa p) ?_|refine C9 W ?_)
   exact Z0 (λz=>[B z]) ((by grind [cJ]))
  repeat'(first|refine gE ?_|(conv=>whnf);first|with_reducible refine CE (aa p) ?_|refine C9 W ?_)
  ((conv=>whnf);refine CF (k+1) ⟨ω,dd p ak e8⟩ ω ?_;(exact wB))
 have hca:h.S.all bz=true:=nL ω ak;have q:=HS h b j H R S (λo ho=>(Q.2 o ho).2.1);have c10:=Jn h M O H U ψ;have c11:=LH h.Y F;have c12:=xz h.Y F;have c13:=kH h h.Y.X.a2 b.1;have c14:=kH h h.Y.X.a0 b.1;by_cases hn:cu h=true;rotate_left
 ·have J:cu h=false:=by simpa using hn
  have c:=J;unfold cu at c;rw[Y5]at c;cases L:gt h<;>rw[L]at q<;>cases e10:kw h<;>rw[e10]at c10
  all_goals
   repeat'(first|refine gE ?_|(conv=>whnf);first|with_reducible refine Bf.D (λa=>?_) (λa=>?_)|refine C9 (aH _ _ _) ?_|refine C9 q ?_|refine C9 c10 ?_)
   all_goals first
    | exact Z0 (λz=>[B z]) ((by unfold cJ;rw[J];simp))
    |(exfalso;omega)
 have c:=hn;unfold cu at c;rw[C0]at c;cases L:gt h<;>rw[L]at q
 ·repeat'(first|refine gE ?_|(conv=>whnf);first|with_reducible refine Bf.D (λa=>?_) (λa=>?_)|refine C9 (aH _ _ _) ?_|refine C9 q ?_)
  all_goals first
   | exact Z0 (λz=>[B z]) ((by unfold cJ;rw[L];simp))
   |(exfalso;omega)
 cases e10:kw h<;>rw[e10]at c10
 ·repeat'(first|refine gE ?_|(conv=>whnf);first|with_reducible refine Bf.D (λa=>?_) (λa=>?_)|refine C9 (aH _ _ _) ?_|refine C9 q ?_|refine C9 c10 ?_)
  all_goals first
   | exact Z0 (λz=>[B z]) ((by unfold cJ;rw[e10];simp))
   |(exfalso;omega)
 have K:cJ h=tn h:=by grind [cJ]
 rw[K];unfold tn;cases em:h.o
 ·repeat'(first|refine gE ?_|(conv=>whnf);first|with_reducible refine Bf.D (λa=>?_) (λa=>?_)|refine C9 (aH _ _ _) ?_|refine C9 q ?_|refine C9 c10 ?_|refine C9 c11 ?_|refine Bf.f em ?_)
  grind
 cases e12:jH h.Y<;>rw[e12]at c12
 all_goals
  repeat'(first|refine gE ?_|(conv=>whnf);first|with_reducible (first|refine Bf.D (λa=>?_) (λa=>?_)|refine Bf.D (λa=>?_) (λa=>?_))|refine C9 (aH _ _ _) ?_|refine C9 q ?_|refine C9 c10 ?_|refine C9 c12 ?_|refine C9 c13 ?_|refine C9 c14 ?_|refine Bf.t em ?_)
  all_goals first
   | exact Z0 (λz=>[B z]) (ψ)
   |(exfalso;omega)
set_option maxHeartbeats 4000000
def sorted(xs:List Int):List Int:=xs.mergeSort λx y=>decide (x<=y)
theorem yF(xs:List Int):(sorted xs).length=xs.length:=List.length_mergeSort ..
theorem Ji{w a:World}{g:Nat}{d:Array Int}{h:Array Obj}{c:Array Value}{e:TypeId}{i:Nat × Nat}(j:w.heap[g]? = some (.cells c e i))(k:a=Sort.grow (Sort.putRow (Value.int .i64) (Sort.ahead w n) g 0 d) h) :
  a.os=w.os/\a.tape=w.tape/\a.output=w.output/\w.heap.size<=a.heap.size/\(∀b,b<w.heap.size->b≠g->a.heap[b]? = w.heap[b]?)/\a.heap[g]? = some (.cells (Sort.putCells (Value.int .i64) 0 d c) e i):=by
 subst k;have f:g<w.heap.size:=ψ
 have l:∀b,b<w.heap.size->(Sort.grow (Sort.putRow (Value.int .i64) (Sort.ahead w n) g 0 d) h).heap[b]? = if g=b then(w.heap[b]?).map (Sort.onCells (Sort.putCells (Value.int .i64) 0 d)) else w.heap[b]?:=λb o=>by grind [Go.Sort.heap_grow_old,Go.Sort.putRow,Go.Sort.mapBlock,Go.Sort.ahead]
 refine⟨rfl,rfl,rfl,?_,λb o p=>?_,?_⟩
 ·grind
 ·grind
 rw[l g f,CD rfl,j];rfl
theorem RB(d:Array Int)(c:Array Value)(q:Nat):(Sort.putCells (Value.int .i64) 0 d c)[q]? = if q<d.size then(c[q]?).map (λ_=>.int .i64 d[q]!) else c[q]?:=by grind [Go.Sort.putCells]
theorem row1{w:World}{S Y:ah}{c:C}{v:Value}(h:dY w S Y c v):cL w S Y [c] (λ_=>v):=by
 refine⟨λ_=>Y,λj a b=>?_,λ_ _ _ _ h=>h,ψ⟩
 all_goals grind
def Va(Y:ah):Nat->ah
 | 0=>Y
 | _+1=>NO
variable{j:Nat}
theorem PV(xs:List Int)(a:j<xs.length):xs.toArray[j]! = xs[j]:=ψ
theorem Q7(xs:List Int)(hl:xs.length<=1048576*64):zzB 383 false [.mut none (aF .own xs)] [.mut none (aF .own (sorted xs))] (.tup []) []:=by
 refine⟨⟨_,Tryz.func383,by kernel_rfl,by kernel_rfl⟩,λw S V vs hS hV hVV N=>?_⟩
 match vs,N with
 | [v],⟨N,_⟩=>
  have t:=bv.rep1 (show bv w S (V 0) none [C.s .own (xs.map (rI .own))] v from N);generalize F:C.s .own (xs.map (rI .own))=cc at t;cases t with
  | nil _ o a ho=>
   cases hcc0:xs with
   | cons x xs'=>grind
   | nil=>
    refine(Tryz.slices_Sort_int_none a 0 w).mono λe p ⟨O,B⟩=>?_
    subst B;refine⟨.tuple #[],O,Ca _ _,NO,λ_=>NO,NO,λ_ _ h=>h.elim,λ_ _ _ h=>h.elim,λ_ _ h=>h.elim,λ_ _ _ _ _ h=>h.elim,λ_ _ _ h=>h.elim,λ_ _ h=>h.elim,λ_ _ _ h=>h.elim,⟨#[],rfl,trivial,rfl⟩,cL.nil _ _ _ _,⟨⟨rfl,λ_=>.slice a 0 0,rfl,row1 (by rw[show sorted []=[] from List.mergeSort_nil ..];exact .nil _ .own _ trivial)⟩,trivial⟩⟩
  | own _ o g k n D rows u f ho hn hk G H hF hu hf hd hc=>
   cases F;have P:n=xs.length:=ψ
   have Q:0<xs.length:=ω
   have R:k=1:=by
    have:=hk (rI .own xs[0]) ψ;exact this.symm
   subst R P;have y:∀j (l:j<xs.length),cel w g j=some (.int .i64 xs[j]):=λj l=>by
    have h1:=hu j ω;have T:=hc j 0 (rI .own xs[j]) (I xs[j]) ψ rfl;rw[Nat.mul_one,Nat.add_zero]at T;rw[h1];generalize u j=z at T;cases T
    rfl
   have U:g<w.heap.size:=ψ
   obtain⟨c,e0,fr,hg,-⟩:=Sort.cells_of_cell? (y 0 Q);have hH:Sort.Holds (Value.int .i64) w g 0 xs.toArray:=λj l=>by
    have J:j<xs.length:=by simpa using l
    refine⟨?_,?_⟩
    ·rw[PV xs J,O8];exact y j J
    rw[O8];exact Z0 Prod.fst (hF j ω).2.2
   refine(Tryz.slices_Sort_int g 0 D xs w hH U ω).mono λe p ⟨O,m,os,B⟩=>?_
   obtain⟨q1,q2,q3,q4,q5,q6⟩:=Ji hg B;have hsl:=yF xs;have hcel:∀q,cel w g q=c[q]?:=λq=>by grind [Go.World.cell?]
   have W:∀q,cel p g q=if q<xs.length then(c[q]?).map (λ_=>.int .i64 (sorted xs).toArray[q]!) else c[q]?:=λq=>by grind [RB,Go.World.cell?,sorted]
   have d:∀q (X:q<xs.length),cel p g q=some (.int .i64 ((sorted xs)[q]'(ω))):=ψ
   have K:∀q,fro p g q=fro w g q:=λq=>by
    refine Prod.ext ?_ ?_
    ·grind [Go.World.frozen?]
    grind [mp,Go.Sort.putCells]
   have hother:∀b,b<w.heap.size->b≠g->∀o,cel p b o=cel w b o/\fro p b o=fro w b o:=λb hb L o=>by grind [Go.World.cell?,Go.World.frozen?,mp]
   have E:bA (λb o=>∃i,V i b o) w p:=by
    refine⟨q1,q2,q3,q4,ψ,λb o hb hn=>?_,λb o hb hn=>?_⟩
    all_goals grind
   refine⟨.tuple #[],O,E,NO,Va (V 0),NO,λ_ _ h=>h.elim,λi b o h=>?_,λ_ _ h=>h.elim,λi i' L b o h h'=>?_,λ_ _ _ h=>h.elim,λ_ _ h=>h.elim,λ_ _ _ _ h=>h.elim,⟨#[],rfl,trivial,rfl⟩,cL.nil _ _ _ _,⟨⟨rfl,λ_=>.slice (some ⟨g,0,none⟩) xs.length D,rfl,row1 ?_⟩,trivial⟩⟩
   ·cases i with
    | zero=>exact .inl ⟨0,h⟩
    | succ i=>exact h.elim
   ·cases i with
    | zero=>
     cases i' with
     | zero=>exact L rfl
     | succ i'=>exact h'.elim
    | succ i=>exact h.elim
   show dY p _ (V 0) _ _;refine .own _ .own g 1 xs.length D _ (λq=>(cel p g q).getD undef) (λ_=>NO) trivial ψ (λr hr=>by obtain⟨z,-,rfl⟩:=O5.1 hr;rfl) G H (λq X=>?_) (λq X=>?_) (λ_ _ _ _ h=>h.elim) (λ_ _ _ _ _ _ _ h=>h.elim) (λi j r c2 M l=>?_)
   ·obtain⟨a1,⟨z,a2,a3⟩,a4⟩:=hF q X
    refine⟨a1,?_,(K q).trans a4⟩;by_cases Y:q<xs.length
    ·exact⟨_,d q Y,rfl⟩
    grind
   ·grind
   rw[Y3]at M;have Z:i<(sorted xs).length:=ψ
   rw[X2 Z]at M;simp only[V6,C1]at M;subst M
   match j,l with
   | 0,l=>
    simp only[rI,List.getElem?_cons_zero,C1]at l;subst l;simp only[Nat.mul_one,Nat.add_zero,d i ω,Option.getD_some];exact .v _ _ rfl
   | j+1,l=>simp[rI]at l
  | _=>cases F
set_option maxHeartbeats 8000000
def lN(s:au)(k:Nat):Int:=16*s.R+(k:Nat)*csz s.e
def eN(s:au)(n:Nat):List Int:=((List.range n).filter λk=>aX s.b2 (k:Nat)).map (lN s)
variable{s:au}
theorem D0(h:aX s.b2 (n:Nat)=true):eN s (n+1)=eN s n++[lN s n]:=by grind [List.range_succ,eN]
theorem Gg(h:aX s.b2 (n:Nat)=false):eN s (n+1)=eN s n:=by grind [List.range_succ,eN]
theorem sH(s:au)(n:Nat):(eN s n).length<=n:=by grind [eN]
def gg(sp:List au):List Int:=sp.flatMap λs=>eN s (slots s.e).toNat
def live0(sp:List au)(la:List aB):List Int:=gg sp++la.map λl=>16*l.R
def oJ(sp:List au)(la:List aB):List Int:=sorted (live0 sp la)
theorem tG(k:Int):0<=slots k/\slots k<=16:=by grind [slots]
def Dc{k:Int}(h:0<=k/\k<=3):slots k*csz k=16:=by
 obtain rfl|rfl|rfl|rfl:k=0\/k=1\/k=2\/k=3:=ω
 all_goals decide
theorem yz(h:sp[i]? = some s):gg (sp.take (i+1))=gg (sp.take i)++eN s (slots s.e).toNat:=by grind [Y6,gg]
def AB(s:au)(k:Nat)(a:bf s=true)(i:(k:Int)<slots s.e):zzA 339 false [.val (some 3) (au.enc .W s),.val none [I (k:Nat)]] .one [I (lN s k)]:=by
 have b:=gV s;have c:=ew s.e;have g:=jl s.e;rw[a]at b;have d:=aE a;have j:=tG s.e;rcases bV ⟨d.2.2.1,d.2.2.2⟩ with e|e|e|e<;>rw[e]at c
 all_goals
  refine fO 26 [(3,9,[17,18,19,20,21,22,23,24,25])] Tryz.func339 rfl ?_
  repeat'(first|refine gE ?_|(conv=>whnf);first|with_reducible refine Bf.D (λh=>?_) (λh=>?_)|refine C9 b ?_|refine C9 c ?_|refine C9 g ?_|refine C9 (aK _ 0 _) ?_)
  all_goals exact Z0 (λz=>[I z]) (by unfold lN;rw[e];omega)
theorem yy(sp:List au)(la:List aB)(c:dX sp)(d:dR la)(a:bp sp la=true):zzA 238 false [.val none (bX .W sp),.val none (cC .W la)] .one (aF .own (oJ sp la)):=by
 have D:=c.1;have E:=d.1;have B:=rn sp la c d;rw[a]at B;obtain⟨o,F,-⟩:=eE a;refine fP 56 [(383,[1])] [] Tryz.func238 rfl ?_ (.inr (bM _))
 repeat'(first|refine gP ?_|(conv=>whnf);first|refine C9 B ?_)
 (conv=>whnf)
 refine CG (ι:=Nat × List Int) (λi=>[(1,.H .one (cC .W la)),(5,.H .one (aF .own i.2)),(16,.H .one (bX .W sp)),(17,.H .one [I (sp.length)]),(18,.H .one [I ((i.1:Nat):Int)])]) (λi=>i.1<=sp.length/\i.2=gg (sp.take i.1)/\i.2.length<=16*i.1) (λi=>sp.length - i.1) ((0,[])) ?_ (⟨X0 _,rfl,X0 _⟩) λi e=>?_
 ·exact wB
 obtain⟨i,S⟩:=i;obtain⟨e,p,G⟩:=e;simp only at e p G |-;by_cases j:i<sp.length
 ·have n:=ao j
  have g:bf (nth sp i)=true:=QD o j;have H:=tG (nth sp i).e;have q:=fG g
  repeat'(first|refine gE ?_|(conv=>whnf);first|with_reducible refine CE (aa n) ?_)
  (conv=>whnf)
  refine CG (ι:=Nat × List Int) (λk=>[(1,.H .one (cC .W la)),(5,.H .one (aF .own k.2)),(7,.H .box (au.enc .W (nth sp i))),(8,.H .one [I ((k.1:Nat):Int)]),(16,.H .one (bX .W sp)),(17,.H .one [I (sp.length)]),(18,.H .one [I ((i:Nat):Int)])]) (λk=>k.1<=(slots (nth sp i).e).toNat/\k.2=S++eN (nth sp i) k.1) (λk=>(slots (nth sp i).e).toNat - k.1) ((0,S)) ?_ (⟨X0 _,by simp[eN]⟩) λk t=>?_
  ·exact wB
  obtain⟨k,S2⟩:=k;obtain⟨t,b⟩:=t;simp only at t b |-;have J:=sH (nth sp i) k;have h:S2.length=S.length+(eN (nth sp i) k).length:=ψ
  by_cases M:k<(slots (nth sp i).e).toNat
  ·have u:=jE (nth sp i).b2 (k:Nat) q.2
   cases K:aX (nth sp i).b2 (k:Nat)<;>rw[K]at u
   ·repeat'(first|refine gE ?_|(conv=>whnf);first|refine C9 (jl _) ?_|refine C9 u ?_)
    ((conv=>whnf);refine CF (k+1,S2) ⟨(by simp only;omega),(by grind [Gg])⟩ (by simp only;omega) ?_;(exact wB))
   repeat'(first|refine gE ?_|(conv=>whnf);first|refine C9 (jl _) ?_|refine C9 u ?_|refine C9 (AB (nth sp i) k g ω) ?_|refine CU cz (λr w=>by rw[V1.1 w];rfl) (by simp[bk,eG]) (by simp;omega) (by show _*8<=_;simp;omega) rfl ?_)
   ((conv=>whnf)
    refine CF (k+1,S2++[lN (nth sp i) k]) ⟨(by simp only;omega),(by grind [D0])⟩ (by simp only;omega) ?_
    (repeat'(first|exact trivial|rfl|exact CM rfl (CM (Z0 (C.s dM.own) (by simp[rI])) trivial)|refine CM ?_ ?_)))
  obtain rfl:k=(slots (nth sp i).e).toNat:=ω
  repeat'(first|refine gE ?_|(conv=>whnf);first|refine C9 (jl _) ?_)
  ((conv=>whnf);refine CF (i+1,S2) ⟨(by simp only;omega),(by grind [yz]),(by simp only;omega)⟩ (by simp only;omega) ?_;(exact wB))
 obtain rfl:i=sp.length:=ω
 rw[O6]at p
 repeat'(first|refine gE ?_|fail)
 (conv=>whnf)
 refine CG (ι:=Nat × List Int) (λi=>[(5,.H .one (aF .own i.2)),(40,.H .one (cC .W la)),(41,.H .one [I (la.length)]),(42,.H .one [I ((i.1:Nat):Int)])]) (λi=>i.1<=la.length/\i.2=S++(la.take i.1).map (λl=>16*l.R)) (λi=>la.length - i.1) ((0,S)) ?_ ψ λi e=>?_
 ·exact wB
 obtain⟨i,S2⟩:=i;obtain⟨y,b⟩:=e;simp only at y b |-;have h:S2.length=S.length+i:=ψ
 by_cases j:i<la.length
 ·have n:=ao j
  have L:=uj a n
  repeat'(first|refine gE ?_|(conv=>whnf);first|with_reducible refine CE (aa n) ?_|refine CU cz (λr w=>by rw[V1.1 w];rfl) (by simp[bk,eG]) (by simp;omega) (by show _*8<=_;simp;omega) rfl ?_)
  ((conv=>whnf)
   refine CF (i+1,S2++[16*(nth la i).R]) ⟨(by simp only;omega),(by grind [Y6])⟩ (by simp only;omega) ?_
   (repeat'(first|exact trivial|rfl|exact CM rfl (CM (Z0 (C.s dM.own) (by simp[rI];omega)) trivial)|refine CM ?_ ?_)))
 obtain rfl:i=la.length:=ω
 rw[O6]at b
 repeat'(first|refine gE ?_|(conv=>whnf);first|refine CL (Q7 S2 ω) (.inl rfl) ?_)
 show _=aF .own (sorted (gg sp++la.map λl=>16*l.R));rw[<-p,<-b];rfl
def qY(b:List (Int × Value))(L:List Int):Prop:=∀a,mlook b a (.int .i64 0)=.int .i64 (L.count a:Nat)
theorem LD(c:List (Int × Value))(a b:Int)(v d:Value):mlook (mput c a v) b d=if a=b then v else mlook c b d:=by
 induction c with
 | nil=>grind [mput,mlook]
 | cons p c e=>
  grind [mput,mlook]
def inc(b:List (Int × Value))(L:List Int)(a:Int):List (Int × Value):=mput b a (.int .i64 ((L.count a:Nat)+1))
def Mm:qY [] []:=λ_=>rfl
theorem qB{d:List (Int × Value)}{L:List Int}(h:qY d L)(a:Int):qY (inc d L a) (L++[a]):=λb=>by
 unfold inc;rw[LD,S7];by_cases c:a=b
 ·grind
 rw[CB c,h b,List.count_singleton,CB (by simpa using c)];rfl
theorem EI(h:ab)(d:dX h.J)(e:dR h.M)(b:List (Int × Value))(L:List Int)(a c:Int)(g:qY b L)(n:L.length<=1000000000) :
  zzB 236 false [.val none [I a],.val none [I c],.ptr [.m b],.ptr (ab.enc .W h)] [.val none [I a],.val none [I c],.ptr [.m (inc b L a)],.ptr (ab.enc .W h)] .one [B (dD h a c)]:=by
 have k:=nU h.J h.M a d e;obtain⟨i,-⟩:=nC h.J h.M a;have l:L.count a<=L.length:=List.count_le_length;unfold dD;generalize denotes h.J h.M a=w at k i |-;refine fM 41 [] [] [(0,0),(0,0),(0,0),(0,0)] Tryz.func236 rfl (λu q=>?_)
 repeat'(first|refine gP ?_|(conv=>whnf);first|with_reducible (first|refine Bf.D (λj=>?_) (λj=>?_)|refine Bf.E (λj=>?_) (λj=>?_))|refine Ml.mk (g a) ?_|refine Mu.mk (es':=inc b L a) rfl ?_|refine C9 k ?_|refine CN (i (by assumption)).1 (aa (ao (i (by assumption)).2)) ?_)
 all_goals
  refine CJ rfl ?_ ?_
  ·exact Z0 (λz=>[B z]) (ψ)
  exact wB
set_option maxHeartbeats 8000000
def tP(h:ab)(a:aR):Bool:=iF h a&&decide (a.b7<=h.b3)
def nk(h:ab):List Int:=((cI h++h.a9.a6.map (·.Addr))++aP h.y)++h.O.map (·.Addr)
def kG(h:ab):Bool:=((h.S.all (f9 h)&&h.a9.a6.all (tP h))&&(aP h.y).all (kX h))&&(oJ h.J h.M).all λa=>decide ((nk h).count a=1)
theorem Rp(h1:h.S.all (f9 h)=false):kG h=false:=by grind [kG]
theorem JY(h1:h.a9.a6.all (tP h)=false):kG h=false:=by grind [kG]
theorem Rn(h1:(aP h.y).all (kX h)=false):kG h=false:=by grind [kG]
theorem QG(h1:((oJ h.J h.M).all λa=>decide ((nk h).count a=1))=false):kG h=false:=by grind [kG]
theorem L9(h1:sp.length<=1048576)(a:la.length<=1048576):(oJ sp la).length<=100000000:=by
 have b:∀(l:List au),(gg l).length<=16*l.length:=by
  intro l
  induction l with
  | nil=>exact X0 _
  | cons s l c=>
   have e:gg (s::l)=eN s (slots s.e).toNat++gg l:=by grind [gg]
   have d:=tG s.e
   grind [sH]
 grind [yF,oJ,live0]
theorem z6(h:ab)(hs:ab.sml h)(P:bp h.J h.M=true)(G:bQ h.y=true)(Z:∀c∈h.S,bz c=true):zzA 82 false [.val (some 24) (ab.enc .W h)] .one [B (kG h)]:=by
 obtain⟨-,-,p,r,hso,hsc,hsm,hsq,-⟩:=hs;have hlo:h.O.length<=1048576:=hso.1;have hlc:h.S.length<=1048576:=hsc.1;have hlq:h.a9.a6.length<=1048576:=hsq.1;have hfl:=tl G;have t:kG h=false->[B false]=[B (kG h)]:=λe=>by rw[e]
 refine fP 114 [(236,[0,0,2,2])] [] Tryz.func82 rfl ?_
 repeat'(first|refine gP ?_|fail)
 (conv=>whnf)
 refine CG (ι:=Nat × List (Int × Value) × List Int) (λi=>[(1,.H .box (ab.enc .W h)),(3,.H .box [.m i.2.1]),(4,.fn 236 [3,1]),(22,.H .one (pi .W h.S)),(23,.H .one [I (h.S.length)]),(24,.H .one [I ((i.1:Nat):Int)])]) (λi=>i.1<=h.S.length/\qY i.2.1 i.2.2/\i.2.2=((h.S.take i.1).flatMap λc=>c.a.flatten)/\(h.S.take i.1).all (f9 h)=true/\i.2.2.length<=32*i.1) (λi=>h.S.length - i.1) ((0,[],[])) ?_ (⟨X0 _,Mm,rfl,rfl,X0 _⟩) λi hi=>?_
 ·exact wB
 obtain⟨i,es,L⟩:=i;obtain⟨hi,Q,hL,ai,hb⟩:=hi;simp only at hi Q hL ai hb |-;by_cases li:i<h.S.length
 ·have W:=ao li
  obtain⟨h4,h8⟩:=wd (Z _ (am li))
  repeat'(first|refine gE ?_|(conv=>whnf);first|with_reducible refine CE (aa W) ?_)
  (conv=>whnf)
  refine CG (ι:=Nat × List (Int × Value) × List Int) (λk=>[(1,.H .box (ab.enc .W h)),(3,.H .box [.m k.2.1]),(4,.fn 236 [3,1]),(22,.H .one (pi .W h.S)),(23,.H .one [I (h.S.length)]),(24,.H .one [I ((i:Nat):Int)]),(29,.H .one (jQ .W (nth h.S i).a)),(30,.H .one [I ((nth h.S i).a.length)]),(31,.H .one [I ((k.1:Nat):Int)])]) (λk=>k.1<=(nth h.S i).a.length/\qY k.2.1 k.2.2/\k.2.2=L++((nth h.S i).a.take k.1).flatten/\dr k.1 (tV h (nth h.S i))=true/\k.2.2.length<=L.length+8*k.1) (λk=>(nth h.S i).a.length - k.1) ((0,es,L)) ?_ (⟨X0 _,Q,by simp,rfl,by simp⟩) λk hk=>?_
  ·exact wB
  obtain⟨k,es3,X⟩:=k;obtain⟨hk,F,R,ak,hb3⟩:=hk;simp only at hk F R ak hb3 |-;by_cases lk:k<(nth h.S i).a.length
  ·have hy:=ao lk
   have hl8:=h8 _ (am lk)
   repeat'(first|refine gE ?_|(conv=>whnf);first|with_reducible (first|refine CE (aa W) ?_|refine CE (aa hy) ?_))
   (conv=>whnf)
   refine CG (ι:=Nat × List (Int × Value) × List Int) (λj=>[(1,.H .box (ab.enc .W h)),(3,.H .box [.m j.2.1]),(4,.fn 236 [3,1]),(7,.H .one [I ((k:Nat):Int)]),(22,.H .one (pi .W h.S)),(23,.H .one [I (h.S.length)]),(24,.H .one [I ((i:Nat):Int)]),(29,.H .one (jQ .W (nth h.S i).a)),(30,.H .one [I ((nth h.S i).a.length)]),(31,.H .one [I ((k:Nat):Int)]),(36,.H .one (aF .W (nth (nth h.S i).a k))),(37,.H .one [I ((nth (nth h.S i).a k).length)]),(38,.H .one [I ((j.1:Nat):Int)])]) (λj=>j.1<=(nth (nth h.S i).a k).length/\qY j.2.1 j.2.2/\j.2.2=X++(nth (nth h.S i).a k).take j.1/\((nth (nth h.S i).a k).take j.1).all (λa=>dD h a (k:Nat))=true) (λj=>(nth (nth h.S i).a k).length - j.1) ((0,es3,X)) ?_ ψ λj hj=>?_
   ·exact wB
   obtain⟨j,es4,S⟩:=j;obtain⟨hj,l,T,Y⟩:=hj;simp only at hj l T Y |-;have hl4:S.length=X.length+j:=ψ
   by_cases lj:j<(nth (nth h.S i).a k).length
   ·have d:=ao lj
    have b:=EI h p r es4 S (nth (nth (nth h.S i).a k) j) (k:Nat) l ω;cases o:dD h (nth (nth (nth h.S i).a k) j) (k:Nat)<;>rw[o]at b
    ·repeat'(first|refine gE ?_|(conv=>whnf);first|with_reducible refine CE (aa d) ?_|refine CL (b) (.inl rfl) ?_)
     exact t (Rp (ik W (by unfold f9;exact cF lk (ik d o))))
    repeat'(first|refine gE ?_|(conv=>whnf);first|with_reducible refine CE (aa d) ?_|refine CL (b) (.inl rfl) ?_)
    ((conv=>whnf)
     refine CF (j+1,inc es4 S (nth (nth (nth h.S i).a k) j),S++[nth (nth (nth h.S i).a k) j]) ⟨(by simp only;omega),qB l _,(by grind [Y6]),dd d Y o⟩ (by simp only;omega) ?_
     (exact wA))
   obtain rfl:j=(nth (nth h.S i).a k).length:=ω
   rw[O6]at T Y
   repeat'(first|refine gE ?_|fail)
   ((conv=>whnf);refine CF (k+1,es4,S) ⟨(by simp only;omega),l,(by grind [xQ]),bU ak Y,(by simp only;omega)⟩ (by simp only;omega) ?_;(exact wB))
  obtain rfl:k=(nth h.S i).a.length:=ω
  rw[O6]at R
  repeat'(first|refine gE ?_|fail)
  ((conv=>whnf);refine CF (i+1,es3,X) ⟨(by simp only;omega),F,(by grind [wg]),dd W ai ak,(by simp only;omega)⟩ (by simp only;omega) ?_;(exact wB))
 obtain rfl:i=h.S.length:=ω
 rw[O6]at hL ai
 repeat'(first|refine gE ?_|fail)
 (conv=>whnf)
 refine CG (ι:=Nat × List (Int × Value) × List Int) (λq=>[(1,.H .box (ab.enc .W h)),(3,.H .box [.m q.2.1]),(4,.fn 236 [3,1]),(52,.H .one (de .W h.a9.a6)),(53,.H .one [I (h.a9.a6.length)]),(54,.H .one [I ((q.1:Nat):Int)])]) (λq=>q.1<=h.a9.a6.length/\qY q.2.1 q.2.2/\q.2.2=L++(h.a9.a6.take q.1).map (·.Addr)/\(h.a9.a6.take q.1).all (tP h)=true) (λq=>h.a9.a6.length - q.1) ((0,es,L)) ?_ ψ λq u=>?_
 ·exact wB
 obtain⟨q,es5,H⟩:=q;obtain⟨w,y,E,aq⟩:=u;simp only at w y E aq |-;have hl5:H.length=L.length+q:=ψ
 by_cases U:q<h.a9.a6.length
 ·have d:=ao U
  have b:=EI h p r es5 H (nth h.a9.a6 q).Addr (nth h.a9.a6 q).e y ω;cases o:dD h (nth h.a9.a6 q).Addr (nth h.a9.a6 q).e<;>rw[o]at b
  ·repeat'(first|refine gE ?_|(conv=>whnf);first|with_reducible (first|refine CE (aa d) ?_|refine Bf.D (λu=>?_) (λu=>?_))|refine CL (b) (.inl rfl) ?_)
   all_goals exact t (JY (ik d (by unfold tP iF;rw[o];rfl)))
  repeat'(first|refine gE ?_|(conv=>whnf);first|with_reducible (first|refine CE (aa d) ?_|refine Bf.D (λu=>?_) (λu=>?_))|refine CL (b) (.inl rfl) ?_)
  all_goals first
   |exact t (JY (ik d (by unfold tP iF;rw[o,W0 ω];rfl)))
   | ((conv=>whnf)
      refine CF (q+1,inc es5 H (nth h.a9.a6 q).Addr,H++[(nth h.a9.a6 q).Addr]) ⟨(by simp only;omega),qB y _,(by simp only;rw[E,Y6,d,C7,Z6];rfl),dd d aq (by unfold tP iF;rw[o,O0 ω];rfl)⟩ (by simp only;omega) ?_
      (exact wA))
 obtain rfl:q=h.a9.a6.length:=ω
 rw[O6]at E aq
 repeat'(first|refine gE ?_|(conv=>whnf);first|refine C9 (zV h.y hsm) ?_)
 (conv=>whnf)
 refine CG (ι:=Nat × List (Int × Value) × List Int) (λq=>[(1,.H .box (ab.enc .W h)),(3,.H .box [.m q.2.1]),(4,.fn 236 [3,1]),(75,.H .one (aF .own (aP h.y))),(76,.H .one [I ((aP h.y).length)]),(77,.H .one [I ((q.1:Nat):Int)])]) (λq=>q.1<=(aP h.y).length/\qY q.2.1 q.2.2/\q.2.2=H++(aP h.y).take q.1/\((aP h.y).take q.1).all (kX h)=true) (λq=>(aP h.y).length - q.1) ((0,es5,H)) ?_ ψ λq u=>?_
 ·exact wB
 obtain⟨q,es6,J⟩:=q;obtain⟨w,C,K,aq6⟩:=u;simp only at w C K aq6 |-;have hl6:J.length=H.length+q:=ψ
 by_cases U:q<(aP h.y).length
 ·have d:=ao U
  have b:=EI h p r es6 J (nth (aP h.y) q) (-1) C ω;cases o:dD h (nth (aP h.y) q) (-1)<;>rw[o]at b
  ·repeat'(first|refine gE ?_|(conv=>whnf);first|with_reducible refine CE (aa d) ?_|refine CK rfl (aa d) rfl ?_|refine CL (b) (.inl rfl) ?_)
   exact t (Rn (ik d o))
  repeat'(first|refine gE ?_|(conv=>whnf);first|with_reducible refine CE (aa d) ?_|refine CK rfl (aa d) rfl ?_|refine CL (b) (.inl rfl) ?_)
  ((conv=>whnf)
   refine CF (q+1,inc es6 J (nth (aP h.y) q),J++[nth (aP h.y) q]) ⟨(by simp only;omega),qB C _,(by grind [Y6]),dd d aq6 o⟩ (by simp only;omega) ?_
   (exact wA))
 obtain rfl:q=(aP h.y).length:=ω
 rw[O6]at K aq6
 repeat'(first|refine gE ?_|fail)
 (conv=>whnf)
 refine CG (ι:=Nat × List (Int × Value) × List Int) (λq=>[(1,.H .box (ab.enc .W h)),(3,.H .box [.m q.2.1]),(87,.H .one (mJ .W h.O)),(88,.H .one [I (h.O.length)]),(89,.H .one [I ((q.1:Nat):Int)])]) (λq=>q.1<=h.O.length/\qY q.2.1 q.2.2/\q.2.2=J++(h.O.take q.1).map (·.Addr)) (λq=>h.O.length - q.1) ((0,es6,J)) ?_ ψ λq u=>?_
 ·exact wB
 obtain⟨q,es7,M⟩:=q;obtain⟨w,g,O⟩:=u;simp only at w g O |-;have hl7:M.length=J.length+q:=ψ
 by_cases U:q<h.O.length
 ·have d:=ao U
  have hcl:M.count (nth h.O q).Addr<=M.length:=List.count_le_length
  repeat'(first|refine gE ?_|(conv=>whnf);first|with_reducible refine CE (aa d) ?_|refine Ml.mk (g _) ?_|refine Mu.mk (es':=inc es7 M (nth h.O q).Addr) rfl ?_)
  ((conv=>whnf)
   refine CF (q+1,inc es7 M (nth h.O q).Addr,M++[(nth h.O q).Addr]) ⟨(by simp only;omega),qB g _,(by grind [Y6])⟩ (by simp only;omega) ?_
   (exact wA))
 obtain rfl:q=h.O.length:=ω
 rw[O6]at O;have V:M=nk h:=by rw[O,K,E,hL];rfl
 have hlv:=L9 p.1 r.1
 repeat'(first|refine gE ?_|(conv=>whnf);first|refine C9 (yy h.J h.M p r P) ?_)
 (conv=>whnf)
 refine CG (ι:=Nat) (λn=>[(3,.H .box [.m es7]),(103,.H .one (aF .own (oJ h.J h.M))),(104,.H .one [I ((oJ h.J h.M).length)]),(105,.H .one [I ((n:Nat):Int)])]) (λn=>n<=(oJ h.J h.M).length/\((oJ h.J h.M).take n).all (λa=>decide ((nk h).count a=1))=true) (λn=>(oJ h.J h.M).length - n) (0) ?_ ψ λn hn=>?_
 ·exact wB
 obtain⟨hn,an⟩:=hn;by_cases ln:n<(oJ h.J h.M).length
 ·have d:=ao ln
  rw[V]at g
  repeat'(first|refine gE ?_|(conv=>whnf);first|with_reducible (first|refine CE (aa d) ?_|refine Bf.N (λu=>?_) (λu=>?_))|refine CK rfl (aa d) rfl ?_|refine Ml.mk (g _) ?_)
  all_goals first
   |exact t (QG (ik d (W0 ω)))
   | ((conv=>whnf);refine CF (n+1) ⟨ω,dd d an (O0 ω)⟩ ω ?_;(exact wB))
 repeat'(first|refine gE ?_|fail)
 exact Z0 (λz=>[B z]) ((by grind [kG]))
set_option maxHeartbeats 8000000
def kT(h:ab):Bool:=(((((((ay h.G&&bG (eZ h) h.w)&&bp h.J h.M)&&(pages0 h&&pR h))&&dJ h)&&h.S.all bz)&&(gt h&&kG h))&&cu h)&&tn h
theorem fI(h:ab)(S:ab.sml h):zzA 23 false [.val (some 24) (ab.enc .W h)] .one [B (kT h)]:=by
 have G:=S;obtain⟨n,o,b,g,H,p,q,J,r⟩:=S;have u:zf h:=n.1.2;have hpn:eZ h<=1048576:=u.1;have K:h.O.length<=1048576:=H.1;have L:h.S.length<=1048576:=p.1;have hlb:h.y.V.length<=1048576:=q.1.1;have hlp:h.Y.X.T.length<=1048576:=r;have d:=rr h.G n;have e:=qR (eZ h) h.w ω o;have i:=rn h.J h.M b g;have w:=vY h.y q;have M:=Ho h.a9 J;cases T:ay h.G<;>rw[T]at d
 ·refine fO 154 [] Tryz.func23 rfl ?_
  repeat'(first|refine gP ?_|(conv=>whnf);first|with_reducible refine Bf.N (λa=>?_) (λa=>?_)|refine C9 d ?_)
  all_goals first
   | exact Z0 (λz=>[B z]) ((by unfold kT ;rw[T];simp))
   |(exfalso;omega)
 cases U:bG (eZ h) h.w<;>rw[U]at e
 ·refine fO 154 [] Tryz.func23 rfl ?_
  repeat'(first|refine gP ?_|(conv=>whnf);first|with_reducible refine Bf.N (λa=>?_) (λa=>?_)|refine C9 d ?_|refine C9 e ?_)
  all_goals first
   | exact Z0 (λz=>[B z]) ((by unfold kT ;rw[U];simp))
   |(exfalso;omega)
 cases F:bp h.J h.M<;>rw[F]at i
 ·refine fO 154 [] Tryz.func23 rfl ?_
  repeat'(first|refine gP ?_|(conv=>whnf);first|with_reducible refine Bf.N (λa=>?_) (λa=>?_)|refine C9 d ?_|refine C9 e ?_|refine C9 i ?_)
  all_goals first
   | exact Z0 (λz=>[B z]) ((by unfold kT ;rw[F];simp))
   |(exfalso;omega)
 have j:=Ep h b g u o F;cases V:(pages0 h&&pR h)<;>rw[V]at j
 ·refine fO 154 [] Tryz.func23 rfl ?_
  repeat'(first|refine gP ?_|(conv=>whnf);first|with_reducible refine Bf.N (λa=>?_) (λa=>?_)|refine C9 d ?_|refine C9 e ?_|refine C9 i ?_|refine C9 j ?_)
  all_goals first
   | exact Z0 (λz=>[B z]) ((by unfold kT ;rw[V];simp))
   |(exfalso;omega)
 cases O:bQ h.y<;>rw[O]at w
 ·refine fO 154 [] Tryz.func23 rfl ?_
  repeat'(first|refine gP ?_|(conv=>whnf);first|with_reducible refine Bf.N (λa=>?_) (λa=>?_)|refine C9 d ?_|refine C9 e ?_|refine C9 i ?_|refine C9 j ?_|refine C9 w ?_)
  all_goals first
   | exact Z0 (λz=>[B z]) ((by unfold kT dJ;rw[O];simp))
   |(exfalso;omega)
 by_cases P:h.S.length=h.y.V.length;rotate_left
 ·refine fO 154 [] Tryz.func23 rfl ?_
  repeat'(first|refine gP ?_|(conv=>whnf);first|with_reducible refine Bf.N (λa=>?_) (λa=>?_)|refine C9 d ?_|refine C9 e ?_|refine C9 i ?_|refine C9 j ?_|refine C9 w ?_)
  all_goals first
   | exact Z0 (λz=>[B z]) ((by unfold kT dJ;rw[W0 P];simp))
   |(exfalso;omega)
 cases W:gK h.a9<;>rw[W]at M
 ·refine fO 154 [] Tryz.func23 rfl ?_
  repeat'(first|refine gP ?_|(conv=>whnf);first|with_reducible refine Bf.N (λa=>?_) (λa=>?_)|refine C9 d ?_|refine C9 e ?_|refine C9 i ?_|refine C9 j ?_|refine C9 w ?_|refine C9 M ?_)
  all_goals first
   | exact Z0 (λz=>[B z]) ((by unfold kT dJ;rw[W];simp))
   |(exfalso;omega)
 have hmc:dJ h=true:=by grind [dJ]
 refine fO 154 [] Tryz.func23 rfl ?_
 repeat'(first|refine gB ?_|(conv=>whnf);first|with_reducible refine Bf.N (λa=>?_) (λa=>?_)|refine C9 d ?_|refine C9 e ?_|refine C9 i ?_|refine C9 j ?_|refine C9 w ?_|refine C9 M ?_)
 all_goals try(exfalso;omega)
 (conv=>whnf)
 refine CG (ι:=Nat) (λk=>[(1,.H .box (ab.enc .W h)),(57,.H .one (pi .W h.S)),(58,.H .one [I (h.S.length)]),(59,.H .one [I ((k:Nat):Int)])]) (λk=>k<=h.S.length/\(h.S.take k).all bz=true) (λk=>h.S.length - k) (0) ?_ ψ λk X=>?_
 ·exact wB
 obtain⟨X,Y⟩:=X;by_cases Z:k<h.S.length
 ·have Q:=ao Z
  have R:=tZ (nth h.S k) (p.2 _ (am Z));cases e8:bz (nth h.S k)<;>rw[e8]at R
  ·repeat'(first|refine gE ?_|(conv=>whnf);first|with_reducible refine CE (aa Q) ?_|refine C9 R ?_)
   exact Z0 (λz=>[B z]) ((by grind [kT]))
  repeat'(first|refine gE ?_|(conv=>whnf);first|with_reducible refine CE (aa Q) ?_|refine C9 R ?_)
  ((conv=>whnf);refine CF (k+1) ⟨ω,dd Q Y e8⟩ ω ?_;(exact wB))
 have hca:h.S.all bz=true:=nL ω Y;have l:=Gc h b g K L;have c10:=z6 h G F O ψ;have c12:=zw h.Y r;have c13:=vN h h.Y.X.a2 b.1;have c14:=vN h h.Y.X.a0 b.1;cases e9:gt h<;>rw[e9]at l
 ·repeat'(first|refine gE ?_|(conv=>whnf);first|refine C9 l ?_)
  all_goals first
   | exact Z0 (λz=>[B z]) ((by unfold kT;rw[e9];simp))
   |(exfalso;omega)
 cases e10:kG h<;>rw[e10]at c10
 ·repeat'(first|refine gE ?_|(conv=>whnf);first|refine C9 l ?_|refine C9 c10 ?_)
  all_goals first
   | exact Z0 (λz=>[B z]) ((by unfold kT;rw[e10];simp))
   |(exfalso;omega)
 by_cases hn:cu h=true;rotate_left
 ·have y:cu h=false:=by simpa using hn
  have c:=y;unfold cu at c;rw[Y5]at c
  repeat'(first|refine gE ?_|(conv=>whnf);first|with_reducible refine Bf.D (λa=>?_) (λa=>?_)|refine C9 (aK _ _ _) ?_|refine C9 (pA _) ?_|refine C9 l ?_|refine C9 c10 ?_)
  all_goals first
   | exact Z0 (λz=>[B z]) ((by unfold kT;rw[y];simp))
   |(exfalso;omega)
 have c:=hn;unfold cu at c;rw[C0]at c;have C:kT h=tn h:=by grind [kT]
 rw[C];unfold tn;cases em:h.o
 ·repeat'(first|refine gE ?_|(conv=>whnf);first|with_reducible (first|refine Bf.D (λa=>?_) (λa=>?_)|refine Bf.E (λa=>?_) (λa=>?_))|refine C9 (aK _ _ _) ?_|refine C9 (pA _) ?_|refine C9 l ?_|refine C9 c10 ?_|refine Bf.f em ?_)
  all_goals first
   | exact Z0 (λz=>[B z]) ((by unfold re;simp only[Bool.false_eq_true,if_false];first|(symm;exact W0 ω)|(rw[Z5,beq_iff_eq,C0];omega)))
   |(exfalso;omega)
 cases e12:jH h.Y<;>rw[e12]at c12
 all_goals
  repeat'(first|refine gE ?_|(conv=>whnf);first|with_reducible (first|refine Bf.D (λa=>?_) (λa=>?_)|refine Bf.D (λa=>?_) (λa=>?_))|refine C9 (aK _ _ _) ?_|refine C9 (pA _) ?_|refine C9 l ?_|refine C9 c10 ?_|refine C9 c12 ?_|refine C9 c13 ?_|refine C9 c14 ?_|refine Bf.t em ?_)
  all_goals first
   | exact Z0 (λz=>[B z]) (ψ)
   |(exfalso;omega)
variable{α:Type}
def cR[Inhabited α]{xs:List α}{f:α->Int}(e:(xs.map f).Nodup)(b:i<xs.length)(c:j<xs.length)(h:f (nth xs i)=f (nth xs j)):i=j:=by
 have d:=List.pairwise_iff_getElem.1 e;rcases Nat.lt_trichotomy i j with a|rfl|a
 ·have:=d i j (by simpa using b) (by simpa using c) a
  simp only[List.getElem_map]at this;rw[bh (X2 b),bh (X2 c)]at h;exact absurd h this
 ·rfl
 have:=d j i (by simpa using c) (by simpa using b) a;simp only[List.getElem_map]at this;rw[bh (X2 b),bh (X2 c)]at h;omega
theorem aN[Inhabited α]{xs:List α}{x:α}(h:x∈xs):∃i,i<xs.length/\nth xs i=x:=by
 obtain⟨i,a⟩:=List.mem_iff_getElem?.1 h
 grind [bh]
theorem sj:∀{H L:List Int},H.Nodup->(∀x∈H,x∈L)->L.length<=H.length->∀x∈L,x∈H
 | [],L,_,_,b,x,c=>by grind
 | y::H,L,d,f,b,x,c=>by
  have g:y∈L:=ψ
  have a:=List.nodup_cons.1 d;by_cases e:x=y
  ·grind
  refine W6 _ (sj (L:=L.erase y) a.2 (λz h=>?_) ?_ x ψ)
  all_goals grind
theorem Mb{H L:List Int}(b:L.Nodup)(c:∀x∈H,x∈L):(H.Nodup/\H.length=L.length)↔∀a∈L,H.count a=1:=by grind [sj,List.Perm.length_eq]
variable{p:Int}{l:aB}
theorem dC : p∈lpgs l n↔∃k:Nat,k<n/\p=l.R+(k:Nat):=by grind [lpgs]
structure oT(sp:List au)(la:List aB):Prop where
 sok:∀s∈sp,bf s=true
 lok:∀l∈la,bL l=true
 nd:(sp.map (·.R)).Nodup
 dis:∀s∈sp,∀l∈la,∀k:Nat,k<l.a4.toNat->s.R≠l.R+(k:Nat)
 one:∀i j,i<la.length->j<la.length->∀k k':Nat,k<(nth la i).a4.toNat->k'<(nth la j).a4.toNat->(nth la i).R+(k:Nat)=(nth la j).R+(k':Nat)->i=j
theorem oT.of(h:bp sp la=true):oT sp la:=by
 obtain⟨B,C,d⟩:=eE h;unfold pgs at d;rw[List.nodup_append]at d;obtain⟨q,r,t⟩:=d;have u:=List.pairwise_flatMap.1 r;refine⟨ψ,ψ,q,λs D l w k c e=>?_,λi j f g k o c a e=>?_⟩
 ·exact t _ ψ _ (List.mem_flatMap.2 ⟨l,w,dC.2 ⟨k,c,rfl⟩⟩) e
 have p:=List.pairwise_iff_getElem.1 u.2;have y:=bh (X2 f);have A:=bh (X2 g);rw[y]at c e;rw[A]at a e;rcases Nat.lt_trichotomy i j with b|n|b
 ·exact absurd e (p i j f g b _ (dC.2 ⟨k,c,rfl⟩) _ (dC.2 ⟨o,a,rfl⟩))
 ·exact n
 exact absurd e.symm (p j i g f b _ (dC.2 ⟨o,a,rfl⟩) _ (dC.2 ⟨k,c,rfl⟩))
variable{a:Int}
theorem gZ(b:bf s=true):di s a=true↔16*s.R<=a/\a<=16*s.R+15:=by grind [di]
theorem iK(b:oT sp la)(c:i<sp.length)(h:16*(nth sp i).R<=a/\a<=16*(nth sp i).R+15):denotes sp la a=nI i (nth sp i) a:=by
 refine oz c ((gZ (b.sok _ (am c))).2 h) λj z l k=>?_
 cases e:di z a with
 | false=>rfl
 | true=>
  exfalso;have d:=(Z2.1 k).1;have n:=(gZ (b.sok z ψ)).1 e;have g:=bh k;subst g;have:=cR (f:=(·.R)) b.nd c d ω;omega
theorem TG(b:oT sp la)(h:∀i,i<sp.length->¬(16*(nth sp i).R<=a/\a<=16*(nth sp i).R+15)):∀(j:Nat)(z:au),j<sp.length->sp[j]? = some z->di z a=false:=by grind [gZ,oT.sok,bh]
theorem Qm(c:oT sp la)(a:Int):a∈live0 sp la↔a∈kU sp la:=by
 have G:a∈kU sp la↔∃n:Nat,n<512/\kN sp la n=true/\(n:Int)=a:=by grind [kU,mh]
 rw[G];unfold live0 gg;rw[W3,List.mem_flatMap,O5];constructor
 ·rintro(⟨s,g,C⟩|⟨l,b,rfl⟩)
  ·obtain⟨i,d,rfl⟩:=aN g
   unfold eN at C;obtain⟨k,H,rfl⟩:=O5.1 C;obtain⟨h,J⟩:=V5.1 H;have h:=List.mem_range.1 h;have o:=aE (c.sok _ g);have t:=Dc ⟨o.2.2.1,o.2.2.2⟩;have K:=tG (nth sp i).e;unfold lN;have L:0<=(k:Int)*csz (nth sp i).e/\(k:Int)*csz (nth sp i).e<=15:=by grind [bV]
   have f:=iK c d (a:=16*(nth sp i).R+(k:Nat)*csz (nth sp i).e) ω;have O:(16*(nth sp i).R+(k:Nat)*csz (nth sp i).e - 16*(nth sp i).R) / csz (nth sp i).e=(k:Nat)/\(16*(nth sp i).R+(k:Nat)*csz (nth sp i).e - 16*(nth sp i).R) % csz (nth sp i).e=0:=by grind [bV]
   refine⟨(16*(nth sp i).R+(k:Nat)*csz (nth sp i).e).toNat,ω,?_,ω⟩
   grind [kN,nI]
  obtain⟨i,d,rfl⟩:=aN b;have P:=aQ (c.lok _ b);have M:=cX (c.lok _ b);have u:=TG c (a:=16*(nth la i).R) λj D Q=>c.dis _ (am D) _ b 0 ω ω
  have E:bH (nth la i) (16*(nth la i).R)=true:=by grind [oT.lok,bH]
  have f:=mO (a:=16*(nth la i).R) (X3 _) u d E λj z D r=>by
   cases e:bH z (16*(nth la i).R) with
   | false=>rfl
   | true=>
    exfalso;have w:=(Z2.1 r).1;have p:=O2 r;have y:=bh r;subst y;have N:=aQ (c.lok _ p);have q:=c.lok _ p;unfold bL at q;rw[C0]at q;unfold bH at e;rw[I0,C0]at e;have:=c.one i j d w 0 ((nth la i).R - (nth la j).R).toNat ω ω ω;omega
  refine⟨(16*(nth la i).R).toNat,ω,?_,ω⟩
  grind [kN]
 rintro⟨n,R,b,rfl⟩
 cases u:sp.findIdx? (di · (n:Nat)) with
 | some i=>
  obtain⟨d,A,-⟩:=S8.1 u;have B:=bh (X2 d);rw[<-B]at A;have g:=c.sok _ (am d);have F:=(gZ g).1 A;have o:=aE g;have t:=Dc ⟨o.2.2.1,o.2.2.2⟩;have f:denotes sp la (n:Nat)=nI i (nth sp i) (n:Nat):=by grind [denotes]
  rw[sG f]at b;simp only[I0,W7,C0]at b;simp only[nI]at b;cases E:aX (nth sp i).b2 (((n:Int) - 16*(nth sp i).R) / csz (nth sp i).e) with
  | false=>grind
  | true=>
   have r:((n:Int) - 16*(nth sp i).R) % csz (nth sp i).e=0:=b.1;refine .inl ⟨nth sp i,am d,?_⟩;unfold eN;refine O5.2 ⟨(((n:Int) - 16*(nth sp i).R) / csz (nth sp i).e).toNat,V5.2 ⟨List.mem_range.2 ?_,?_⟩,?_⟩
   all_goals grind [bV,lN]
 | none=>
  cases F:la.findIdx? (bH · (n:Nat)) with
  | some i=>
   obtain⟨d,A,-⟩:=S8.1 F;have f:denotes sp la (n:Nat) = ⟨3,i,0,(n:Nat) - 16*(nth la i).R⟩:=by grind [denotes]
   rw[sG f]at b
   grind [am]
  | none=>
   have f:denotes sp la (n:Nat) = ⟨0,0,0,0⟩:=by grind [denotes]
   rw[sG f]at b;simp at b
theorem wQ(b:oT sp la)(c:(denotes sp la a).c4=0)(f:(denotes sp la a).b6=1\/(denotes sp la a).b6=3):a∈kU sp la:=by
 have l:0<=a/\a<512:=by
  unfold denotes at c f;cases g:sp.findIdx? (di · a) with
  | some i=>
   obtain⟨d,j,-⟩:=S8.1 g;have h:=List.getElem_mem d;have e:=(gZ (b.sok _ h)).1 j;have k:=aE (b.sok _ h);omega
  | none=>
   rw[g]at c f;cases e:la.findIdx? (bH · a) with
   | some i=>
    obtain⟨d,-⟩:=S8.1 e;rw[e]at c;have n:=aQ (b.lok _ (am d))
    grind
   | none=>grind
 have k:((a.toNat:Nat):Int)=a:=ω
 grind [kU,mh,kN]
theorem vT(sp:List au)(la:List aB):(kU sp la).Nodup:=by
 unfold kU mh List.Nodup;rw[List.pairwise_map]
 grind [List.Pairwise.imp,List.nodup_range]
theorem ug(b:oT h.J h.M){c:Int}(d:dD h a c=true):a∈kU h.J h.M:=by grind [wQ,dD]
variable{o:bu}
theorem MH(a:oT h.J h.M)(b:ju h o=true):o.Addr∈kU h.J h.M:=by grind [wQ,ju]
theorem Jz(h:ab)(a:Int):(nk h).count a=(holders h).count a:=by grind [nk,holders]
theorem pM(h:ab):jZ h=true↔(h.S.all (f9 h)=true/\h.a9.a6.all (iF h)=true)/\(aP h.y).all (kX h)=true:=by grind [jZ]
theorem sY(f:oT h.J h.M)(g:gt h=true)(j:jZ h=true):∀a∈holders h,a∈kU h.J h.M:=by
 obtain⟨⟨n,p⟩,q⟩:=(pM h).1 j;intro a b;unfold holders at b;simp only[W3]at b;rcases b with((b|b)|b)|b
 ·obtain⟨o,d,rfl⟩:=O5.1 b
  obtain⟨i,r,rfl⟩:=aN d;have e:=fk g r
  grind [MH,objAt]
 ·unfold cI at b
  obtain⟨c,t,b⟩:=List.mem_flatMap.1 b;obtain⟨l,u,b⟩:=List.mem_flatten.1 b;obtain⟨k,w,rfl⟩:=aN u;have e:=Y4.1 n c t;unfold f9 at e;have A:=Y4.1 (show(nth c.a k).all _=true from fk e w) a b
  grind [ug]
 ·obtain⟨x,y,rfl⟩:=O5.1 b
  exact ug f (Y4.1 p x y)
 exact ug f (Y4.1 q a b)
theorem Mw(b:bp h.J h.M=true)(c:gt h=true):(mi h&&kw h)=kG h:=by
 have d:=oT.of b;have e:(mi h=true/\h.a9.a6.all (iF h)=true)↔h.a9.a6.all (tP h)=true:=by grind [mi,tP]
 have f:kG h=true↔((h.S.all (f9 h)=true/\h.a9.a6.all (tP h)=true)/\(aP h.y).all (kX h)=true)/\∀a∈kU h.J h.M,(holders h).count a=1:=by
  unfold kG;simp only[I0];refine and_congr Iff.rfl ?_;simp only[Y4,C0,Jz]
  grind [List.mem_mergeSort,Qm,oJ,sorted]
 grind [pM,Mb,vT,sY,kw]
theorem iy(s t:au):meshable s t=meshable t s:=by grind [meshable]
variable{f:Int}{t:aI}
theorem eY{p:Nat} : (p:Int)∈pagesOn t f↔p<t.K.length/\(nth t.K p).j≠0/\(nth t.K p).d=f:=by grind [pagesOn,kv,N5]
theorem vJ{q:Int}(h:q∈pagesOn t f):∃p:Nat,q=(p:Nat):=by grind [pagesOn,kv]
theorem tE(a:pages0 h=true):(∀i,i<h.M.length->∀k:Nat,k<(nth h.M i).a4.toNat->(aY h ((nth h.M i).R+(k:Nat))).length=1)/\(∀p∈pgs h.J h.M,p<eZ h)/\∀p:Nat,p<eZ h->((nth (tbl h).K p).j≠0↔(p:Int)∈pgs h.J h.M):=by grind [fk,pages0,tz,yI,wo]
theorem BE{p:Nat}(a:p<eZ h):ac (tbl h) (p:Nat)=nth (tbl h).K p:=mS a
theorem fJ{p:Nat}(a:p<eZ h)(b:(nth (tbl h).K p).j≠0):aY h (p:Nat)=pagesOn (tbl h) (nth (tbl h).K p).d:=by grind [BE,aY,tbl]
theorem va(g:oT h.J h.M)(c:j<h.J.length):gX h (nth h.J j).R=(j:Nat):=by
 unfold gX;refine dS (ao c) (by unfold mM;simp) λk z i d=>?_
 have a:=bh d;have b:=(Z2.1 d).1;subst a;unfold mM;refine W0 λe=>?_
 have:=cR (f:=(·.R)) g.nd b c e;omega
theorem uN(w:bp h.J h.M=true)(N:pages0 h=true):vC h=pR h:=by
 have E:=oT.of w;obtain⟨O,P,Q⟩:=tE N;have o:∀i,i<h.J.length->∃p:Nat,(nth h.J i).R=(p:Nat)/\p<eZ h/\(nth (tbl h).K p).j≠0:=λi r=>by
  have Y:=aE (E.sok _ (am r));have R:(nth h.J i).R∈pgs h.J h.M:=by grind [am,pgs]
  have c:=P _ R;refine⟨(nth h.J i).R.toNat,ω,ω,?_⟩
  grind
 rw[Z5];unfold vC pR;rw[cA,cA];constructor
 ·intro F i r
  rw[cA];intro j G;have y:j<h.J.length:=ω
  unfold mL;rw[W7,C0];by_cases d:(ac (tbl h) (nth h.J i).R).d=(ac (tbl h) (nth h.J j).R).d
  ·right
   obtain⟨p,e,a,f⟩:=o i r;obtain⟨q,A,b,g⟩:=o j y;have n:=Y4.1 (F i r);rw[e,A,BE a,BE b]at d;have S:(q:Int)∈aY h (nth h.J i).R:=by
    rw[e,fJ a f];exact eY.2 ⟨b,g,d.symm⟩
   have t:=n _ S;unfold mC at t;rw[<-A,va E y]at t;rw[W7,I0,C0]at t;rcases t with t|t
   ·omega
   simpa using t.2
  exact .inl d
 intro B i r;rw[Y4];intro q C;obtain⟨p,e,a,f⟩:=o i r;have T:=C;rw[e,fJ a f]at C;obtain⟨D,rfl⟩:=vJ C;obtain⟨b,g,H⟩:=eY.1 C;have u:=(Q D b).1 g;unfold pgs at u;rw[W3,O5,List.mem_flatMap]at u;rcases u with⟨s,F,J⟩|⟨l,U,K⟩
 ·obtain⟨j,G,rfl⟩:=aN F
  unfold mC;rw[<-J,va E G];rw[W7,I0,C0,C0];have d:(ac (tbl h) (nth h.J i).R).d=(ac (tbl h) (nth h.J j).R).d:=by grind [BE]
  rcases Nat.lt_trichotomy j i with c|V|c
  ·have n:=fk (B i r) c
   unfold mL at n
   simp_all
  ·omega
  have n:=fk (B j G) c;unfold mL at n;rw[W7,C0]at n;exact .inr ⟨ω,by rw[iy];simp_all⟩
 exfalso;obtain⟨W,L,rfl⟩:=aN U;obtain⟨k,X,M⟩:=dC.1 K;have n:=O W L k X;rw[<-M,fJ b g]at n;have Z:(D:Int)∈pagesOn (tbl h) (nth (tbl h).K D).d:=ψ
 have m2:(p:Int)∈pagesOn (tbl h) (nth (tbl h).K D).d:=eY.2 ⟨a,f,H.symm⟩
 grind [List.length_eq_one_iff,oT.dis,am]
theorem iw(h:ab):kT h=cJ h:=by grind [uN,Mw,kT,cJ,kM]
def ovl(y r:a8):Bool:=decide (y.At<r.At+r.b0/\r.At<y.At+y.b0)
def nl(r:a8):List a8->Bool->Option (List a8)
 | [],put=>some (if put then [] else [r])
 | y::a,put=>if ovl y r then none else if !put&&decide (y.At > r.At) then(nl r a true).map λt=>r::y::t else(nl r a put).map λt=>y::t
def dy(out:List a8):List a8->List a8
 | []=>out
 | y::ys=>match out.getLast? with
  | some z=>if z.At+z.b0=y.At then dy (out.dropLast++[⟨z.At,z.b0+y.b0⟩]) ys else dy (out++[y]) ys
  | none=>dy (out++[y]) ys
def jz:List a8->a8->List a8->Bool->Option (List a8)
 | [],r,out,done=>some (if done then out else out++[r])
 | y::ys,r,out,done=>
  if ovl y r then none
  else if y.At+y.b0=r.At then jz ys ⟨y.At,y.b0+r.b0⟩ out done
  else if r.At+r.b0=y.At then jz ys ⟨r.At,r.b0+y.b0⟩ out done
  else if y.At > r.At/\done=false then jz ys r (out++[r,y]) true
  else jz ys r (out++[y]) done
def jJ(xs:List a8):Prop:=xs.Pairwise (λa b=>a.At+a.b0<b.At)/\∀y∈xs,1<=y.b0
variable{y:a8}
theorem jJ.tail{a:List a8}(h:jJ (y::a)):jJ a:=⟨(List.pairwise_cons.1 h.1).2,λz b=>h.2 z ψ⟩
theorem jJ.head{a:List a8}(h:jJ (y::a)):∀z∈a,y.At+y.b0<z.At:=(List.pairwise_cons.1 h.1).1
theorem jU:∀(a out:List a8),jJ a->(∀z,out.getLast? = some z->∀y∈a,z.At+z.b0≠y.At)->dy out a=out++a
 | [],out,_,_=>by simp[dy]
 | y::a,out,d,e=>by
  have b:dy (out++[y]) a=out++y::a:=by
   rw[jU a (out++[y]) d.tail λz c w f=>by
     simp at c;subst c;have:=d.head w f;omega]
   simp
  unfold dy;split
  ·rename_i z c
   rw[CB (e z c y (I2 ..))];exact b
  exact b
theorem yJ{r:a8} : ∀{a:List a8},jJ a->(∀y∈a,r.At+r.b0<=y.At)->nl r a true=some a
 | [],_,_=>rfl
 | y::a,c,b=>by
  have e:=b y (I2 ..);unfold nl;rw[CB (by unfold ovl;rw[C0];omega)];simp only[Bool.not_true,Bool.false_and,Bool.false_eq_true,if_false];rw[yJ c.tail λz d=>b z (W6 _ d)]
  rfl
theorem wi{r:a8}(h1:1<=r.b0){a:List a8}(b:jJ a)(c:∀y∈a,r.At+r.b0<=y.At):nl r a false=some (r::a):=by
 cases a with
 | nil=>rfl
 | cons y a=>
  grind [yJ,jJ.tail,nl,ovl]
def qi{r:a8} : ∀{a out:List a8},jJ a->1<=r.b0->(∀y∈a,r.At+r.b0<y.At)->jz a r out true=some (out++a)
 | [],out,_,_,_=>by simp[jz]
 | y::a,out,b,d,c=>by
  have f:=c y (I2 ..);have g:=b.2 y (I2 ..);unfold jz;rw[CB (by unfold ovl;rw[C0];omega),CB ω,CB ω,CB (by simp),qi b.tail d λz e=>c z (W6 _ e)];simp
variable{out:List a8}
theorem yO{r:a8}(h1:1<=r.b0){a:List a8}(b:jJ a)(c:∀y∈a,r.At+r.b0<=y.At):jz a r out false=some (out++match a with|[]=>[r]|y::zs=>if r.At+r.b0=y.At then⟨r.At,r.b0+y.b0⟩::zs else r::y::zs):=by
 cases a with
 | nil=>simp[jz]
 | cons y a=>
  have g:=c y ψ;have h:=b.2 y ψ;unfold jz;rw[CB (by grind [ovl]),CB ω];by_cases e:r.At+r.b0=y.At
  ·rw[CD e]
   simp only[e,if_true];cases a with
   | nil=>simp[jz]
   | cons z a=>
    have i:=b.head z ψ;have j:=b.tail.2 z ψ;unfold jz;simp only;rw[CB (by grind [ovl]),CB ω,CB ω,CD (by simp;omega),qi b.tail.tail (by simp only;omega) λw d=>by
      have:=b.tail.head w d;simp only;omega]
    simp
  rw[CB e,CD (by simp;omega),qi b.tail h1 λz f=>by have:=b.head z f;omega];simp[e]
theorem BC{pages:Int} : ∀{a:List a8}{r:a8}{out:List a8},jJ a->1<=r.b0->(∀z,out.getLast? = some z->(∀y∈a,z.At+z.b0<y.At)/\z.At+z.b0<r.At)->(nl r a false).map (dy out)=jz a r out false
 | [],r,out,_,g,q=>by
  show some (dy out [r])=some (out++[r]);rw[jU [r] out ⟨List.pairwise_singleton ..,λy u=>by rw[V1.1 u];exact g⟩ ψ]
 | y::a,r,out,c,g,q=>by
  have F:=c.2 y ψ;by_cases l:ovl y r=true
  ·grind [nl,jz]
  ·have i:=l
   unfold ovl at i;rw[C0]at i;by_cases A:r.At+r.b0<=y.At
   ·-- all to the right
    have b:∀w∈y::a,r.At+r.b0<=w.At:=λw f=>by grind [jJ.head]
    rw[wi g c b,yO g c b];show some (dy out (r::y::a))=_;have hfirst:dy out (r::y::a)=dy (out++[r]) (y::a):=by
     conv=>lhs;unfold dy
     grind
    rw[hfirst];by_cases e:r.At+r.b0=y.At
    ·have:dy (out++[r]) (y::a)=dy (out++[⟨r.At,r.b0+y.b0⟩]) a:=by
      conv=>lhs;unfold dy
      simp[e]
     grind [jU,jJ.tail,jJ.head]
    grind [jU,jJ.head]
   have B:y.At+y.b0<=r.At:=ω
   have n:∀t,dy out (y::t)=dy (out++[y]) t:=λt=>by
    conv=>lhs;unfold dy
    grind [I2]
   have C:(nl r (y::a) false).map (dy out)=(nl r a false).map (dy (out++[y])):=by
    conv=>lhs;unfold nl
    rw[CB l,CB (by simp;omega),Option.map_map]
    congr 1
    grind
   rw[C];unfold jz;rw[CB l];by_cases e:y.At+y.b0=r.At
   ·rw[CD e]
    by_cases o:∃w,a.head? = some w/\ovl w r=true
    ·obtain⟨w,f,D⟩:=o
     cases a with
     | nil=>cases f
     | cons d h=>
      grind [ovl,nl,jz]
    have b:∀w∈a,r.At+r.b0<=w.At:=by
     cases a with
     | nil=>grind
     | cons d h=>
      have G:=c.head d ψ;have H:=c.tail.2 d ψ
      grind [jJ.head,jJ.tail,ovl]
    rw[wi g c.tail b,yO (r:=⟨y.At,y.b0+r.b0⟩) (by simp only;omega) c.tail ψ];show some (dy (out++[y]) (r::a))=_;have E:dy (out++[y]) (r::a)=dy (out++[⟨y.At,y.b0+r.b0⟩]) a:=by
     conv=>lhs;unfold dy
     simp[e]
    rw[E];cases a with
    | nil=>simp[dy]
    | cons d h=>
     by_cases j:y.At+(y.b0+r.b0)=d.At
     ·have p:dy (out++[⟨y.At,y.b0+r.b0⟩]) (d::h)=dy (out++[⟨y.At,y.b0+r.b0+d.b0⟩]) h:=by
       conv=>lhs;unfold dy
       simp[j]
      rw[p,jU h _ c.tail.tail λz k w f=>by grind [jJ.head,jJ.tail]];simp[j]
     rw[jU (d::h) _ c.tail λz k w f=>by
       simp at k;subst k;simp only;rcases List.mem_cons.1 f with rfl|f
       · exact j
       have:=c.tail.head w f;have:=b d ψ;have:=c.tail.2 d ψ;omega]
     simp[j]
   rw[CB e,CB ω,CB ω];exact BC (pages:=pages) c.tail g λz k=>by grind [jJ.head]
def fE(k:af)(f:Int):af:=if(pagesOn k.F.Q f).length=0 then {k with F:=⟨⟨k.F.U.T.set f.toNat (List.replicate 16 0),k.F.U.a3.set f.toNat false⟩,k.F.Q⟩} else k
def lh(k:af)(p:Int):af:={k with F:=⟨k.F.U,⟨k.F.Q.K.set p.toNat ⟨0,0⟩⟩⟩}
def cg(k:af)(p:Int):af:=if(ac k.F.Q p).j=0 then k else fE (lh k p) (ac k.F.Q p).d
theorem bt[Inhabited α](xs:List α)(i j:Nat)(x:α):nth (xs.set i x) j=if i=j/\j<xs.length then x else nth xs j:=by grind [nth]
theorem mZ(k:af)(f:Int):(fE k f).F.Q=k.F.Q/\(fE k f).Calls=k.Calls/\(fE k f).u=k.u/\(fE k f).F.U.T.length=k.F.U.T.length/\(fE k f).F.U.a3.length=k.F.U.a3.length:=by grind [fE]
theorem jT(k:af)(p:Int):(cg k p).F.Q.K.length=k.F.Q.K.length/\(cg k p).Calls=k.Calls/\(cg k p).u=k.u:=by grind [mZ,cg,lh]
variable{k:af}
theorem a7 : ay k=true↔(∀j,j<k.u.length->0<=nth k.u j)/\cW k.F.U=true/\gR k.F.Q k.F.U.a3.length=true/\(∀j,j<k.F.U.a3.length->nth k.F.U.a3 j=decide (0<(pagesOn k.F.Q (j:Int)).length))/\0<=k.Calls/\k.Calls<=100000/\k.u.length<=40:=by grind [cA,ay,cZ,pZ]
theorem aO{f:aW} : cW f=true↔1<=f.T.length/\f.T.length<=32/\f.a3.length=f.T.length/\∀j,j<f.T.length->gT (nth f.T j) (nth f.a3 j)=true:=by
 unfold cW;simp only[I0,C0,Y4,and_assoc];refine and_congr Iff.rfl (and_congr Iff.rfl (and_congr_right λb=>⟨λh j a=>?_,λh q c=>?_⟩))
 ·exact h _ (O2 (wO (ao a) (ao ω)))
 grind [List.mem_iff_getElem?,List.getElem?_zip_eq_some,bh]
theorem bo : gR t a=true↔(∀j,j<t.K.length->kV a (nth t.K j)=true)/\1<=t.K.length/\t.K.length<=32:=by grind [cA,gR]
def dn : 0<(pagesOn t f).length↔∃q,q<t.K.length/\(nth t.K q).j≠0/\(nth t.K q).d=f:=by
 unfold pagesOn kv;rw[I1,List.length_pos_iff_exists_mem];simp[N5]
theorem bD(h:ay k=true)(a:(ac k.F.Q p).j≠0):0<=p/\p<k.F.Q.K.length/\ac k.F.Q p=nth k.F.Q.K p.toNat/\0<=(ac k.F.Q p).d/\(ac k.F.Q p).d<k.F.U.a3.length:=by
 obtain⟨-,-,b,-⟩:=a7.1 h
 grind [bo,ac,kV]
theorem xK(p:Int)(h:ay k=true):ay (cg k p)=true:=by
 unfold cg;split
 ·exact h
 rename_i r;obtain⟨C,D,E,i,l⟩:=bD h r;obtain⟨t,u,F,w,y,A,B⟩:=a7.1 h;obtain⟨G,H,J,L⟩:=aO.1 u;obtain⟨M,N,O⟩:=bo.1 F;rw[E]at r i l |-;generalize K:(nth k.F.Q.K p.toNat).d=f at i l;have b:∀q,nth (k.F.Q.K.set p.toNat ⟨0,0⟩) q=if p.toNat=q then⟨0,0⟩ else nth k.F.Q.K q:=λq=>by grind [bt]
 have c:∀j:Int,0<(pagesOn (⟨k.F.Q.K.set p.toNat ⟨0,0⟩⟩ : aI) j).length↔∃q,q<k.F.Q.K.length/\q≠p.toNat/\(nth k.F.Q.K q).j≠0/\(nth k.F.Q.K q).d=j:=λj=>by
  rw[dn];simp only[Z1,b]
  grind
 have d:∀j:Int,0<(pagesOn k.F.Q j).length↔∃q,q<k.F.Q.K.length/\(nth k.F.Q.K q).j≠0/\(nth k.F.Q.K q).d=j:=λj=>dn
 have g:gR ⟨k.F.Q.K.set p.toNat ⟨0,0⟩⟩ k.F.U.a3.length=true:=by
  rw[bo];simp only[Z1,b]
  grind [kV]
 unfold fE;split
 ·rename_i o
  rw[a7];simp only[lh,Z1]at o |-;refine⟨t,?_,g,λj n=>?_,y,A,B⟩
  ·rw[aO]
   simp only[Z1,bt];refine⟨G,H,J,λj n=>?_⟩;by_cases a:f.toNat=j
   ·rw[CD ⟨a,n⟩,CD ⟨a,ω⟩];decide
   grind
  rw[bt];by_cases a:f.toNat=j
  ·grind
  rw[CB (λe=>a e.1),w j n];refine decide_eq_decide.2 ?_;rw[d,c]
  grind
 rename_i o;rw[a7];simp only[lh]at o |-;refine⟨t,u,g,λj n=>?_,y,A,B⟩;rw[w j n];refine decide_eq_decide.2 ?_;by_cases a:f=j
 ·grind
 rw[d,c];grind
def bj(h:ay k=true):af.sml k:=by
 obtain⟨g,b,c,i,l,n,o⟩:=a7.1 h;obtain⟨p,q,t,d⟩:=aO.1 b;obtain⟨u,w,y⟩:=bo.1 c;refine⟨⟨⟨⟨ω,λr f=>?_⟩,(by omega:_<=1048576)⟩,⟨ω,λe _=>trivial⟩⟩,(by omega:_<=1048576)⟩;obtain⟨j,a⟩:=List.mem_iff_getElem?.1 f;have:=d j (Z2.1 a).1;rw[bh a]at this;unfold gT at this;simp only[I0,C0]at this;show r.length<=1048576;omega
theorem E5(a:cJ h=true):ay h.G=true:=by grind [cJ,kM]
variable{K:List (List C)->Prop}{sz by_:Nat}
theorem Ap.cp{e:α->List C}{xs:List α}(d:∀x,(e x).length=sz)(f:∀x,bk (e x)=true)(a:xs.length<=1048576)(b:by_<=1000)(c:K (xs.map e)):Ap true [] (xs.map e) sz by_ K:=
 CU ψ ψ ψ (by simp;omega) (by simp only[I1,List.length_nil,O8];exact zE a b) rfl c
def CR:type_of% @Ap.cp:=@Ap.cp
theorem Fl.cp{e:α->List C}{xs:List α}{X:Prop}(d:∀x,(e x).length=sz)(f:∀x,bk (e x)=true)(a:xs.length<=1048576)(b:by_<=1000)(c:X):Fl (xs.map e) sz by_ X:=
 Fl.mk ψ (by simp;omega) (by simp only[I1];exact zE a b) c
def CY:type_of% @Fl.cp:=@Fl.cp
variable{rows:List (List C)}
theorem Ap.sn{a:List (List C)}{r:List C}(h1:∀r∈rows,r.length=sz)(f:r.length=sz)(b:rows.length+1<=1048576)(c:by_<=1000)(d:a=rows++[r])(e:K a):Ap false rows [r] sz by_ K:=
 CU h1 ψ ψ (by simp;omega) (zE (by simpa using b) c) d e
def gH(xs:List Int)(a:xs.length<=1048576):zzA 196 false [.val none (aF .W xs)] .one (aF .own xs):=by
 refine fO 6 [] Tryz.func196 rfl ?_ (.inr (bM _))
 repeat'(first|refine gP ?_|(conv=>whnf);first|refine CR (λ_=>rfl) (λ_=>rfl) a (by decide) ?_)
 rfl
def DA(t:aI)(a:aI.sml t):zzA 468 false [.val (some 1) (aI.enc .W t)] .agg (aI.enc .own t):=by
 have b:=a.1;refine fO 8 [] Tryz.func468 rfl ?_ (.inr (aI.enc_fr _))
 repeat'(first|refine gP ?_|(conv=>whnf);first|refine CR (λ_=>rfl) (λ_=>rfl) b (by decide) ?_)
 rfl
def zl(t:aI)(a:aI.sml t):zzA 347 false [.val (some 1) (aI.enc .W t)] .agg (aI.enc .own t):=by
 have b:=a.1;refine fO 8 [] Tryz.func347 rfl ?_ (.inr (aI.enc_fr _))
 repeat'(first|refine gP ?_|(conv=>whnf);first|refine CR (λ_=>rfl) (λ_=>rfl) b (by decide) ?_)
 rfl
theorem aM{e:α->List C}{l:List α}(h:∀x,(e x).length=n):∀r∈l.map e,r.length=n:=(ψ)
variable{β:Type}
theorem fB[Inhabited α]{xs:List α}{f:α->β}(a:i<xs.length):(xs.take (i+1)).map f=(xs.take i).map f++[f (nth xs i)]:=by grind [Y6,ao]
def Ds(f:aW)(a:aW.sml f):zzA 467 false [.val (some 2) (aW.enc .W f)] .agg (aW.enc .own f):=by
 have g:=a.1.1;have d:f.a3.length<=1048576:=a.2;refine fO 30 [(5,10,[17,18,19,20,21,22,23,24,25,26])] Tryz.func467 rfl ?_ (.inr (aW.enc_fr _))
 repeat'(first|refine gP ?_|(conv=>whnf);first|refine CR (λ_=>rfl) (λ_=>rfl) d (by decide) ?_)
 (conv=>whnf)
 refine CG (ι:=Nat) (λi=>[(1,.H .box (aW.enc .W f)),(2,.H .box [.z,.z]),(3,.H .box [.s .own ((f.T.take i).map (aF .own)),.s .own (f.a3.map (rB .own))]),(4,.H .one [I ((i:Nat):Int)])]) (λi=>i<=f.T.length) (λi=>f.T.length - i) (0) ?_ (X0 _) λi h=>?_
 ·exact wB
 by_cases b:i<f.T.length
 ·have e:=ao b
  have c:(nth f.T i).length<=1048576:=a.1.2 _ (am b)
  repeat'(first|refine gE ?_|(conv=>whnf);first|with_reducible refine CE (aa e) ?_|refine CY (λ_=>rfl) (λ_=>rfl) c (by decide) ?_|refine Ap.sn (aM λ_=>rfl) rfl (by simp;omega) (by decide) (fB b) ?_)
  ((conv=>whnf);refine CF (i+1) ω ω ?_;(exact wB))
 repeat'(first|refine gE ?_|fail)
 obtain rfl:i=f.T.length:=ω
 rw[O6]
 rfl
def ww(f:aW)(a:aW.sml f):zzA 346 false [.val (some 2) (aW.enc .W f)] .agg (aW.enc .own f):=by
 have g:=a.1.1;have d:f.a3.length<=1048576:=a.2;refine fO 27 [(5,5,[18,19,20,21,22])] Tryz.func346 rfl ?_ (.inr (aW.enc_fr _))
 repeat'(first|refine gP ?_|(conv=>whnf);first|refine CR (λ_=>rfl) (λ_=>rfl) d (by decide) ?_)
 (conv=>whnf)
 refine CG (ι:=Nat) (λi=>[(2,.H .box [.z,.z]),(3,.H .box [.s .own ((f.T.take i).map (aF .own)),.s .own (f.a3.map (rB .own))]),(12,.H .one (jQ .W f.T)),(13,.H .one [I (f.T.length)]),(14,.H .one [I ((i:Nat):Int)])]) (λi=>i<=f.T.length) (λi=>f.T.length - i) (0) ?_ (X0 _) λi h=>?_
 ·exact wB
 by_cases b:i<f.T.length
 ·have e:=ao b
  have c:(nth f.T i).length<=1048576:=a.1.2 _ (am b)
  repeat'(first|refine gE ?_|(conv=>whnf);first|with_reducible refine CE (aa e) ?_|refine C9 (gH (nth f.T i) c) ?_|refine Ap.sn (aM λ_=>rfl) rfl (by simp;omega) (by decide) (fB b) ?_)
  ((conv=>whnf);refine CF (i+1) ω ω ?_;(exact wB))
 repeat'(first|refine gE ?_|fail)
 obtain rfl:i=f.T.length:=ω
 rw[O6]
 rfl
def tp(m:aS)(a:aS.sml m):zzA 349 false [.val (some 3) (aS.enc .W m)] .agg (aS.enc .own m):=by
 refine fO 10 [(1,5,[3,4,5,6,7])] Tryz.func349 rfl ?_ (.inr (aS.enc_fr _))
 repeat'(first|refine gP ?_|(conv=>whnf);first|refine C9 (Ds m.U a.1) ?_|refine C9 (DA m.Q a.2) ?_)
 rfl
def na(m:aS)(a:aS.sml m):zzA 195 false [.val (some 3) (aS.enc .W m)] .agg (aS.enc .own m):=by
 refine fO 10 [(1,5,[3,4,5,6,7])] Tryz.func195 rfl ?_ (.inr (aS.enc_fr _))
 repeat'(first|refine gP ?_|(conv=>whnf);first|refine C9 (ww m.U a.1) ?_|refine C9 (zl m.Q a.2) ?_)
 rfl
def DP(k:af)(a:af.sml k):zzA 203 false [.val (some 5) (af.enc .W k)] .agg (af.enc .own k):=by
 have b:k.u.length<=1048576:=a.2;refine fO 13 [(1,9,[3,4,5,6,7,8,9,10,11])] Tryz.func203 rfl ?_ (.inr (Cf _))
 repeat'(first|refine gP ?_|(conv=>whnf);first|refine C9 (tp k.F a.1) ?_|refine CY (λ_=>rfl) (λ_=>rfl) b (by decide) ?_)
 rfl
def gC(k:af)(a:af.sml k):zzA 68 false [.val (some 5) (af.enc .W k)] .agg (af.enc .own k):=by
 refine fO 12 [(1,8,[3,4,5,6,7,8,9,10])] Tryz.func68 rfl ?_ (.inr (Cf _))
 repeat'(first|refine gP ?_|(conv=>whnf);first|refine C9 (na k.F a.1) ?_|refine C9 (gH k.u a.2) ?_)
 rfl
def eP(k:af)(p:Int)(a:aI.sml k.F.Q):zzA 485 false [.ptr (af.enc .W k),.val none [I p]] .one [I (ac k.F.Q p).j]:=by
 refine fO 13 [] Tryz.func485 rfl ?_
 repeat'(first|refine gP ?_|(conv=>whnf);first|refine C9 (du k.F.Q p a) ?_)
 rfl
def m6(k:af)(b:af.sml k):zzA 277 false [.val (some 5) (af.enc .W k)] .one [B (ay k&&decide (k.Calls<100000))]:=by
 have a:=mF k b;cases e:ay k<;>rw[e]at a
 ·refine fO 10 [] Tryz.func277 rfl ?_
  repeat'(first|refine gP ?_|(conv=>whnf);first|with_reducible refine Bf.D (λc=>?_) (λc=>?_)|refine C9 (a) ?_)
  all_goals rfl
 refine fO 10 [] Tryz.func277 rfl ?_
 repeat'(first|refine gP ?_|(conv=>whnf);first|refine C9 (a) ?_)
 all_goals rfl
def j8(k:af)(b:af.sml k):zzA 197 false [.val (some 5) (af.enc .W k)] .one [B (decide (k.Calls≠100000)&&ay k)]:=by
 have c:=rr k b;refine fO 10 [] Tryz.func197 rfl ?_
 repeat'(first|refine gP ?_|(conv=>whnf);first|with_reducible (first|refine Bf.N (λa=>?_) (λa=>?_)|refine Bf.D (λa=>?_) (λa=>?_))|refine C9 (c) ?_)
 all_goals(exact Z0 (λz=>[B z]) ((by simp[*])))
theorem uD(h:(pagesOn k.F.Q f).length=0):af.enc .own (fE k f)=[.s .own ((k.F.U.T.map (aF .own)).set f.toNat (aF .own (List.replicate 16 0))),.s .own ((k.F.U.a3.map (rB .own)).set f.toNat (rB .own false)),.s .own (k.F.Q.K.map (bi.enc .own)),I k.Calls,.s .own (k.u.map (rI .own))]:=by grind [V7,fE,af.enc]
theorem xy(h:¬(pagesOn k.F.Q f).length=0):af.enc .own (fE k f)=af.enc .own k:=by grind [fE]
def tw(k:af)(f:Int)(a:aI.sml k.F.Q)(b:0<=f/\f<k.F.U.T.length/\f<k.F.U.a3.length) :
  zzB 486 false [.ptr (af.enc .own k),.val none [I f]] [.ptr (af.enc .own (fE k f)),.val none [I f]] (.tup []) []:=by
 have c:=ao (xs:=k.F.U.T) (i:=f.toNat) ω;have d:=ao (xs:=k.F.U.a3) (i:=f.toNat) ω;by_cases e:(pagesOn k.F.Q f).length=0
 ·rw[uD e]
  refine fM 30 [] [(2,8,[21,22,23,24,25,26,27,28])] [(0,0),(0,0)] Tryz.func486 rfl (λu q=>?_) (.inr trivial)
  repeat'(first|refine gB ?_|(conv=>whnf);first|with_reducible (first|refine CN b.1 (aa d) ?_|refine CN b.1 (aa c) ?_)|refine CH (iv k.F.Q f a) ⟨⟨rfl,Cc k.F.Q⟩,⟨rfl,rfl⟩,trivial⟩ ?_|refine CQ rfl rfl (aa c) rfl (O1 rfl) rfl ?_|refine CQ rfl rfl (aa d) rfl (O1 rfl) rfl ?_|refine Mk.mk 16 rfl rfl (by decide) (by decide) rfl ?_)
  refine CJ rfl rfl ?_;exact wB
 rw[xy e];refine fM 30 [] [(2,8,[21,22,23,24,25,26,27,28])] [(0,0),(0,0)] Tryz.func486 rfl (λu q=>?_) (.inr trivial)
 repeat'(first|refine gB ?_|(conv=>whnf);first|refine CH (iv k.F.Q f a) ⟨⟨rfl,Cc k.F.Q⟩,⟨rfl,rfl⟩,trivial⟩ ?_)
 refine CJ rfl rfl ?_;exact wB
def t8(k:af)(f:Int)(a:aI.sml k.F.Q)(b:0<=f/\f<k.F.U.T.length/\f<k.F.U.a3.length) :
  zzB 198 false [.ptr (af.enc .own k),.val none [I f]] [.ptr (af.enc .own (fE k f)),.val none [I f]] (.tup []) []:=by
 have c:=ao (xs:=k.F.U.T) (i:=f.toNat) ω;have d:=ao (xs:=k.F.U.a3) (i:=f.toNat) ω;by_cases e:(pagesOn k.F.Q f).length=0
 ·rw[uD e]
  refine fM 30 [] [(2,8,[21,22,23,24,25,26,27,28])] [(0,0),(0,0)] Tryz.func198 rfl (λu q=>?_) (.inr trivial)
  repeat'(first|refine gB ?_|(conv=>whnf);first|with_reducible (first|refine CN b.1 (aa d) ?_|refine CN b.1 (aa c) ?_)|refine CH (ll k.F.Q f a) ⟨⟨rfl,Cc k.F.Q⟩,⟨rfl,rfl⟩,trivial⟩ ?_|refine CQ rfl rfl (aa c) rfl (O1 rfl) rfl ?_|refine CQ rfl rfl (aa d) rfl (O1 rfl) rfl ?_|refine Mk.mk 16 rfl rfl (by decide) (by decide) rfl ?_)
  refine CJ rfl rfl ?_;exact wB
 rw[xy e];refine fM 30 [] [(2,8,[21,22,23,24,25,26,27,28])] [(0,0),(0,0)] Tryz.func198 rfl (λu q=>?_) (.inr trivial)
 repeat'(first|refine gB ?_|(conv=>whnf);first|refine CH (ll k.F.Q f a) ⟨⟨rfl,Cc k.F.Q⟩,⟨rfl,rfl⟩,trivial⟩ ?_)
 refine CJ rfl rfl ?_;exact wB
theorem xd(k:af)(p:Int):af.enc .own (lh k p)=[.s .own (k.F.U.T.map (aF .own)),.s .own (k.F.U.a3.map (rB .own)),.s .own ((k.F.Q.K.map (bi.enc .own)).set p.toNat (bi.enc .own ⟨0,0⟩)),I k.Calls,.s .own (k.u.map (rI .own))]:=by grind [V7,lh,af.enc]
theorem x4(h:ay k=true):aI.sml (lh k p).F.Q:=by
 obtain⟨a,b,c⟩:=bo.1 (a7.1 h).2.2.1;exact⟨by grind [lh],λ_ _=>trivial⟩
theorem Qv(k:af)(p:Int)(b:ay k=true) :
  zzB 374 false [.ptr (af.enc .own k),.val none [I p]] [.ptr (af.enc .own (cg k p)),.val none [I p]] .one [B (decide ((ac k.F.Q p).j≠0))]:=by
 have j:=bj b;have c:=eP k p j.1.2;by_cases a:(ac k.F.Q p).j=0
 ·rw[show cg k p=k by unfold cg;rw[CD a]]
  refine fM 32 [(486,[2,0])] [] [(0,0),(0,0)] Tryz.func374 rfl (λu q=>?_)
  repeat'(first|refine gB ?_|(conv=>whnf);first|refine CH (c) ⟨CT k,⟨rfl,rfl⟩,trivial⟩ ?_)
  refine CJ rfl ?_ ?_
  ·exact Z0 (λz=>[B z]) ((by simp[a]))
  exact wB
 obtain⟨l,r,n,d,o⟩:=bD b a;have h:=(aO.1 (a7.1 b).2.1).2.2.1;rw[show cg k p=fE (lh k p) (ac k.F.Q p).d by unfold cg;rw[CB a]];have e:=tw (lh k p) (ac k.F.Q p).d (x4 b) ⟨d,by grind [lh],by grind [lh]⟩;rw[xd]at e;have g:=ao (xs:=k.F.Q.K) (i:=p.toNat) ω;rw[n]at c e a |-;refine fM 32 [(486,[2,0])] [] [(0,0),(0,0)] Tryz.func374 rfl (λu q=>?_)
 repeat'(first|refine gB ?_|(conv=>whnf);first|with_reducible refine CN l (aa g) ?_|refine CH (c) ⟨CT k,⟨rfl,rfl⟩,trivial⟩ ?_|refine CQ rfl rfl (aa g) rfl (O1 rfl) rfl ?_|refine CK rfl (aa g) rfl ?_|refine CL (e) (.inl rfl) ?_)
 refine CJ rfl ?_ ?_
 ·exact Z0 (λz=>[B z]) ((by simp[a]))
 exact wB
theorem GU(k:af)(p:Int)(a:ay k=true)(o:k.Calls≠100000) :
  zzA 69 false [.val (some 5) (af.enc .W k),.val none [I p]] (.tup [some 5,none]) (af.enc .own (cg k p)++[B (decide ((ac k.F.Q p).j≠0))]):=by
 have d:=bj a;have l:=gC k d;have e:=j8 k d;have c:=fD k p d.1.2;rw[a,O0 o]at e;by_cases b:(ac k.F.Q p).j=0
 ·rw[show cg k p=k by unfold cg;rw[CD b]]
  rw[W0 (by simpa using b)]at c |-;refine fP 38 [(198,[2,0])] [] Tryz.func69 rfl ?_ (.inr (aG (Cf k) ⟨trivial,trivial⟩))
  repeat'(first|refine gP ?_|(conv=>whnf);first|refine C9 (l) ?_|refine C9 (e) ?_|refine C9 (c) ?_)
  all_goals rfl
 obtain⟨q,u,r,g,t⟩:=bD a b;have n:=(aO.1 (a7.1 a).2.1).2.2.1;rw[show cg k p=fE (lh k p) (ac k.F.Q p).d by unfold cg;rw[CB b]];have h:=t8 (lh k p) (ac k.F.Q p).d (x4 a) ⟨g,by grind [lh],by grind [lh]⟩;rw[xd]at h;have j:=ao (xs:=k.F.Q.K) (i:=p.toNat) ω;rw[O0 b]at c |-;rw[r]at h |-;refine fP 38 [(198,[2,0])] [] Tryz.func69 rfl ?_ (.inr (aG (Cf _) ⟨trivial,trivial⟩))
 repeat'(first|refine gP ?_|(conv=>whnf);first|with_reducible refine CN q (aa j) ?_|refine C9 (l) ?_|refine C9 (e) ?_|refine C9 (c) ?_|refine CQ rfl rfl (aa j) rfl (O1 rfl) rfl ?_|refine CK rfl (aa j) rfl ?_|refine CL (h) (.inl rfl) ?_)
 all_goals rfl
def gJ(n:Nat):aW:=⟨List.replicate n (List.replicate 16 0),List.replicate n false⟩
def gf(n:Nat):aI:=⟨List.replicate n ⟨0,0⟩⟩
def bZ(p f:Nat)(a:List Int):af:=⟨⟨gJ f,gf p⟩,0,a⟩
def fZ:aC:=⟨List.replicate 4 []⟩
def eH(n:Nat):aJ:=⟨List.replicate n [],List.replicate n []⟩
def newHeap(p f t:Nat)(lim:Int)(a:List Int):ab:=⟨bZ p f a,[⟨0,p⟩],[],[],[],List.replicate t fZ,eH t,⟨16,[]⟩,0,0,lim,1,false,⟨⟨0,0,[]⟩,0,0⟩⟩
theorem dG[Inhabited α]{y:α}(a:j<n):nth (List.replicate n y) j=y:=bh ψ
theorem NZ(n:Nat)(f:Int):pagesOn (gf n) f=[]:=by grind [List.filter_eq_nil_iff,dG,pagesOn,kv,gf,N5]
theorem EC{p f:Nat}(c:1<=p/\p<=32)(d:1<=f/\f<=32):ay (bZ p f [])=true:=by
 rw[a7];refine⟨λj b=>by grind [bZ],aO.2 ⟨by grind [bZ,gJ],by grind [bZ,gJ],by grind [bZ,gJ],λj b=>?_⟩,bo.2 ⟨λj b=>?_,by grind [bZ,gf],by grind [bZ,gf]⟩,λj b=>?_,by simp[bZ],by simp[bZ],by simp[bZ]⟩
 ·have a:j<f:=by grind [bZ,gJ]
  rw[show nth (bZ p f []).F.U.T j=List.replicate 16 0 from dG a,show nth (bZ p f []).F.U.a3 j=false from dG a]
  decide
 all_goals grind [NZ,bZ,gf,nth,kV,gJ]
theorem HN(w:World)(q:Nat)(a:Array Obj):bA NO w (Sort.grow (w.drewN q) a):=by
 have c:∀b,b<w.heap.size->(Sort.grow (w.drewN q) a).heap[b]? = w.heap[b]?:=λb c=>Sort.heap_grow_old (w.drewN q) a c
 refine⟨rfl,rfl,rfl,ψ,λb h _=>c b h,λb o h _=>?_,λb o h _=>?_⟩
 all_goals grind [Go.World.cell?,Go.World.frozen?,mp]
theorem M5(c:Nat)(W:World):Calls Tryz.prog 455 #[.slice none 0 c] W λe g=>∃B q h,e=.returned (.slice B 0 0)/\g=Sort.grow (W.drewN q) h:=by
 have q22:∀(w:World)(a:Option Addr)(n c b d:Nat),(binOp .eql 33 (.slice a n c) (.slice none b d)).run Tryz.prog w=.ok (.bool a.isNone) w:=λw a n c b d=>Lib.run_eql_slice_nil w _ _ a n c b d Tryz.underlying33
 go_enter Tryz.func455,Tryz.ntmps455
 go_wp2
 go_ret
 exact⟨none,0,#[],rfl,by simp[Sort.grow,World.drewN]⟩
theorem H0(a:Addr)(c:Nat)(W:World):Calls Tryz.prog 455 #[.slice (some a) 0 c] W λe g=>∃B q h,e=.returned (.slice B 0 0)/\g=Sort.grow (W.drewN q) h:=by
 have q22:∀(w:World)(a:Option Addr)(n c b d:Nat),(binOp .eql 33 (.slice a n c) (.slice none b d)).run Tryz.prog w=.ok (.bool a.isNone) w:=λw a n c b d=>Lib.run_eql_slice_nil w _ _ a n c b d Tryz.underlying33
 go_enter Tryz.func455,Tryz.ntmps455
 go_wp2
 go_ret
 exact⟨some ⟨W.heap.size,0,none⟩,0,#[.cells #[] 3],rfl,by rw[Sort.alloc_eq_grow];rfl⟩
theorem H7(xs:List Int)(o:xs.length<=1048576):zzA 455 false [.val none (aF .W xs)] .one (aF .own xs):=by
 by_cases c:xs=[]
 ·subst c
  refine⟨⟨_,Tryz.func455,by kernel_rfl,by kernel_rfl⟩,λw S p t d=>?_⟩
  match p,d with
  | [v],⟨d,_⟩=>
   have b:=bv.rep1 (show bv w S NO none [C.s .W []] v from d);obtain⟨l,g,rfl⟩:=b.slice;have r:Calls Tryz.prog 455 #[.slice l 0 g] w λe n=>∃B q i,e=.returned (.slice B 0 0)/\n=Sort.grow (w.drewN q) i:=by
    cases l with
    | none=>grind [M5]
    | some a=>grind [H0]
   refine r.mono λe n ⟨B,q,i,c,j⟩=>?_
   subst j;exact⟨.slice B 0 0,c,HN w q i,NO,NO,λ_ _ h=>h.elim,λ_ _ h=>h.elim,λ_ _ h=>h.elim,rfl,row1 (.nil _ .own B trivial)⟩
 have k:xs.map (rI .W)≠[]:=by simp_all
 refine fO 8 [] Tryz.func455 rfl ?_ (.inr (bM _))
 repeat'(first|refine gP ?_|(conv=>whnf);first|refine Nn.mk k ?_|refine CR (λ_=>rfl) (λ_=>rfl) o (by decide) ?_)
 rfl
def rg(p:bY)(a:bY.sml p):zzA 332 false [.val (some 3) (bY.enc .W p)] .agg (bY.enc .own p):=by
 have b:p.T.length<=1048576:=a;refine fO 8 [] Tryz.func332 rfl ?_ (.inr (bY.enc_fr _))
 repeat'(first|refine gP ?_|(conv=>whnf);first|refine C9 (H7 p.T b) ?_)
 rfl
def sF(j:co)(a:co.sml j):zzA 185 false [.val (some 5) (co.enc .W j)] .agg (co.enc .own j):=by
 refine fO 8 [] Tryz.func185 rfl ?_ (.inr (co.enc_fr _))
 repeat'(first|refine gP ?_|(conv=>whnf);first|refine C9 (rg j.X a) ?_)
 rfl
def js(c:aC)(d:aC.sml c):zzA 204 false [.val (some 1) (aC.enc .W c)] .agg (aC.enc .own c):=by
 have g:=d.1;refine fO 26 [(5,10,[13,14,15,16,17,18,19,20,21,22])] Tryz.func204 rfl ?_ (.inr (aC.enc_fr _))
 repeat'(first|refine gP ?_|fail)
 (conv=>whnf)
 refine CG (ι:=Nat) (λi=>[(1,.H .box (aC.enc .W c)),(2,.H .box [.z]),(3,.H .box [.s .own ((c.a.take i).map (aF .own))]),(4,.H .one [I ((i:Nat):Int)])]) (λi=>i<=c.a.length) (λi=>c.a.length - i) (0) ?_ (X0 _) λi h=>?_
 ·exact wB
 by_cases a:i<c.a.length
 ·have e:=ao a
  have b:(nth c.a i).length<=1048576:=d.2 _ (am a)
  repeat'(first|refine gE ?_|(conv=>whnf);first|with_reducible refine CE (aa e) ?_|refine CY (λ_=>rfl) (λ_=>rfl) b (by decide) ?_|refine Ap.sn (aM λ_=>rfl) rfl (by simp;omega) (by decide) (fB a) ?_)
  ((conv=>whnf);refine CF (i+1) ω ω ?_;(exact wB))
 repeat'(first|refine gE ?_|fail)
 obtain rfl:i=c.a.length:=ω
 rw[O6]
 rfl
def pP(c:aC)(d:aC.sml c):zzA 182 false [.val (some 1) (aC.enc .W c)] .agg (aC.enc .own c):=by
 have g:=d.1;refine fO 23 [(5,5,[14,15,16,17,18])] Tryz.func182 rfl ?_ (.inr (aC.enc_fr _))
 repeat'(first|refine gP ?_|fail)
 (conv=>whnf)
 refine CG (ι:=Nat) (λi=>[(2,.H .box [.z]),(3,.H .box [.s .own ((c.a.take i).map (aF .own))]),(8,.H .one (jQ .W c.a)),(9,.H .one [I (c.a.length)]),(10,.H .one [I ((i:Nat):Int)])]) (λi=>i<=c.a.length) (λi=>c.a.length - i) (0) ?_ (X0 _) λi h=>?_
 ·exact wB
 by_cases a:i<c.a.length
 ·have e:=ao a
  have b:(nth c.a i).length<=1048576:=d.2 _ (am a)
  repeat'(first|refine gE ?_|(conv=>whnf);first|with_reducible refine CE (aa e) ?_|refine C9 (gH (nth c.a i) b) ?_|refine Ap.sn (aM λ_=>rfl) rfl (by simp;omega) (by decide) (fB a) ?_)
  ((conv=>whnf);refine CF (i+1) ω ω ?_;(exact wB))
 repeat'(first|refine gE ?_|fail)
 obtain rfl:i=c.a.length:=ω
 rw[O6]
 rfl
def gp(m:aJ)(b:aJ.sml m):zzA 205 false [.val (some 2) (aJ.enc .W m)] .agg (aJ.enc .own m):=by
 have h:=b.1.1;have g:=b.2.1;refine fO 46 [(5,10,[14,15,16,17,18,19,20,21,22,23]),(9,10,[33,34,35,36,37,38,39,40,41,42])] Tryz.func205 rfl ?_ (.inr (aJ.enc_fr _))
 repeat'(first|refine gP ?_|fail)
 (conv=>whnf)
 refine CG (ι:=Nat) (λi=>[(1,.H .box (aJ.enc .W m)),(2,.H .box [.z,.z]),(3,.H .box [.s .own ((m.V.take i).map (cS .own)),.z]),(4,.H .one [I ((i:Nat):Int)])]) (λi=>i<=m.V.length) (λi=>m.V.length - i) (0) ?_ (X0 _) λi j=>?_
 ·exact wB
 by_cases c:i<m.V.length
 ·have d:=ao c
  have a:(nth m.V i).length<=1048576:=(b.1.2 _ (am c)).1
  repeat'(first|refine gE ?_|(conv=>whnf);first|with_reducible refine CE (aa d) ?_|refine CY (λ_=>rfl) (λ_=>rfl) a (by decide) ?_|refine Ap.sn (aM λ_=>rfl) rfl (by simp;omega) (by decide) (fB c) ?_)
  ((conv=>whnf);refine CF (i+1) ω ω ?_;(exact wB))
 obtain rfl:i=m.V.length:=ω
 rw[O6]
 repeat'(first|refine gE ?_|fail)
 (conv=>whnf)
 refine CG (ι:=Nat) (λk=>[(1,.H .box (aJ.enc .W m)),(2,.H .box [.z,.z]),(3,.H .box [.s .own (m.V.map (cS .own)),.s .own ((m.a1.take k).map (aF .own))]),(5,.H .one [I ((k:Nat):Int)])]) (λk=>k<=m.a1.length) (λk=>m.a1.length - k) (0) ?_ (X0 _) λk l=>?_
 ·exact wB
 by_cases e:k<m.a1.length
 ·have d:=ao e
  have a:(nth m.a1 k).length<=1048576:=b.2.2 _ (am e)
  repeat'(first|refine gE ?_|(conv=>whnf);first|with_reducible refine CE (aa d) ?_|refine CY (λ_=>rfl) (λ_=>rfl) a (by decide) ?_|refine Ap.sn (aM λ_=>rfl) rfl (by simp;omega) (by decide) (fB e) ?_)
  ((conv=>whnf);refine CF (k+1) ω ω ?_;(exact wB))
 repeat'(first|refine gE ?_|fail)
 obtain rfl:k=m.a1.length:=ω
 rw[O6]
 rfl
def Ag(m:aJ)(b:aJ.sml m):zzA 183 false [.val (some 2) (aJ.enc .W m)] .agg (aJ.enc .own m):=by
 have h:=b.1.1;have g:=b.2.1;refine fO 41 [(5,6,[16,17,18,19,20,21]),(10,5,[32,33,34,35,36])] Tryz.func183 rfl ?_ (.inr (aJ.enc_fr _))
 repeat'(first|refine gP ?_|fail)
 (conv=>whnf)
 refine CG (ι:=Nat) (λi=>[(1,.H .box (aJ.enc .W m)),(2,.H .box [.z,.z]),(3,.H .box [.s .own ((m.V.take i).map (cS .own)),.z]),(10,.H .one (yP .W m.V)),(11,.H .one [I (m.V.length)]),(12,.H .one [I ((i:Nat):Int)])]) (λi=>i<=m.V.length) (λi=>m.V.length - i) (0) ?_ (X0 _) λi j=>?_
 ·exact wB
 by_cases c:i<m.V.length
 ·have d:=ao c
  have a:(nth m.V i).length<=1048576:=(b.1.2 _ (am c)).1
  repeat'(first|refine gE ?_|(conv=>whnf);first|with_reducible refine CE (aa d) ?_|refine CY (λ_=>rfl) (λ_=>rfl) a (by decide) ?_|refine Ap.sn (aM λ_=>rfl) rfl (by simp;omega) (by decide) (fB c) ?_)
  ((conv=>whnf);refine CF (i+1) ω ω ?_;(exact wB))
 obtain rfl:i=m.V.length:=ω
 rw[O6]
 repeat'(first|refine gE ?_|fail)
 (conv=>whnf)
 refine CG (ι:=Nat) (λk=>[(2,.H .box [.z,.z]),(3,.H .box [.s .own (m.V.map (cS .own)),.s .own ((m.a1.take k).map (aF .own))]),(26,.H .one (jQ .W m.a1)),(27,.H .one [I (m.a1.length)]),(28,.H .one [I ((k:Nat):Int)])]) (λk=>k<=m.a1.length) (λk=>m.a1.length - k) (0) ?_ (X0 _) λk l=>?_
 ·exact wB
 by_cases e:k<m.a1.length
 ·have d:=ao e
  have a:(nth m.a1 k).length<=1048576:=b.2.2 _ (am e)
  repeat'(first|refine gE ?_|(conv=>whnf);first|with_reducible refine CE (aa d) ?_|refine C9 (gH (nth m.a1 k) a) ?_|refine Ap.sn (aM λ_=>rfl) rfl (by simp;omega) (by decide) (fB e) ?_)
  ((conv=>whnf);refine CF (k+1) ω ω ?_;(exact wB))
 repeat'(first|refine gE ?_|fail)
 obtain rfl:k=m.a1.length:=ω
 rw[O6]
 rfl
def sC(q:bO)(b:bO.sml q):zzA 206 false [.val (some 2) (bO.enc .W q)] .agg (bO.enc .own q):=by
 have a:q.a6.length<=1048576:=b.1;refine fO 10 [(1,6,[3,4,5,6,7,8])] Tryz.func206 rfl ?_ (.inr (bO.enc_fr _))
 repeat'(first|refine gP ?_|(conv=>whnf);first|refine CY (λ_=>rfl) (λ_=>rfl) a (by decide) ?_|refine CR (λ_=>rfl) (λ_=>rfl) a (by decide) ?_)
 rfl
def Aw(q:bO)(b:bO.sml q):zzA 184 false [.val (some 2) (bO.enc .W q)] .agg (bO.enc .own q):=by
 have a:q.a6.length<=1048576:=b.1;refine fO 10 [(1,6,[3,4,5,6,7,8])] Tryz.func184 rfl ?_ (.inr (bO.enc_fr _))
 repeat'(first|refine gP ?_|(conv=>whnf);first|refine CY (λ_=>rfl) (λ_=>rfl) a (by decide) ?_|refine CR (λ_=>rfl) (λ_=>rfl) a (by decide) ?_)
 rfl
def sE(j:co)(a:co.sml j):zzA 207 false [.val (some 5) (co.enc .W j)] .agg (co.enc .own j):=by
 have b:j.X.T.length<=1048576:=a;refine fO 11 [] Tryz.func207 rfl ?_ (.inr (co.enc_fr _))
 repeat'(first|refine gP ?_|(conv=>whnf);first|refine CR (λ_=>rfl) (λ_=>rfl) b (by decide) ?_)
 rfl
def oA(xs:List a8)(a:gY xs):zzA 181 false [.val none (bF .W xs)] .one (bF .own xs):=by
 have b:=a.1;refine fO 6 [] Tryz.func181 rfl ?_ (.inr (my _))
 repeat'(first|refine gP ?_|(conv=>whnf);first|refine CR (λ_=>rfl) (λ_=>rfl) b (by decide) ?_)
 rfl
def Uo(h:ab)(a:C):List C:=[.s .own (h.G.F.U.T.map (aF .own)),.s .own (h.G.F.U.a3.map (rB .own)),.s .own (h.G.F.Q.K.map (bi.enc .own)),I h.G.Calls,.s .own (h.G.u.map (rI .own)),.s .own (h.w.map (a8.enc .own)),.s .own (h.J.map (au.enc .own)),.s .own (h.M.map (aB.enc .own)),.s .own (h.O.map (bu.enc .own)),a,.s .W (h.y.V.map (cS .W)),.s .W (h.y.a1.map (aF .W)),I h.a9.c0,.s .W (h.a9.a6.map (aR.enc .W)),I h.b8,I h.b3,I h.c2,I h.b,B h.o,I h.Y.X.a2,I h.Y.X.a0,.s .W (h.Y.X.T.map (rI .W)),I h.Y.b1,I h.Y.b]
def xC:List C:=[.z,.z,.z,I 0,.z,.z,.z,.z,.z,.z,.z,.z,I 0,.z,I 0,I 0,I 0,I 0,B false,I 0,I 0,.z,I 0,I 0]
def El(h:ab)(c:ab.sml h):zzA 72 false [.val (some 24) (ab.enc .W h)] .agg (ab.enc .own h):=by
 obtain⟨d,e,g,j,k,b,l,n,o⟩:=c;have p:=e.1;have q:=g.1;have r:=j.1;have t:=k.1;have w:=b.1;refine fO 61 [] Tryz.func72 rfl ?_ (.inr (ab.enc_fr _))
 repeat'(first|refine gP ?_|(conv=>whnf);first|refine C9 (DP h.G d) ?_|refine CR (λ_=>rfl) (λ_=>rfl) p (by decide) ?_|refine CR (λ_=>rfl) (λ_=>rfl) q (by decide) ?_|refine CR (λ_=>rfl) (λ_=>rfl) r (by decide) ?_|refine CR (λ_=>rfl) (λ_=>rfl) t (by decide) ?_)
 (conv=>whnf)
 refine CG (ι:=Nat) (λi=>[(1,.H .box (Uo h (.s .W (h.S.map (aC.enc .W))))),(2,.H .box xC),(3,.H .one ([.s .own ((h.S.take i).map (aC.enc .own))])),(4,.H .one [I ((i:Nat):Int)])]) (λi=>i<=h.S.length) (λi=>h.S.length - i) (0) ?_ (X0 _) λi y=>?_
 ·exact wB
 by_cases a:i<h.S.length
 ·have u:=ao a
  repeat'(first|refine gE ?_|(conv=>whnf);first|with_reducible refine CE (aa u) ?_|refine C9 (js (nth h.S i) (b.2 _ (am a))) ?_|refine Ap.sn (aM λ_=>rfl) rfl (by simp;omega) (by decide) (fB a) ?_)
  ((conv=>whnf);refine CF (i+1) ω ω ?_;(exact wB))
 obtain rfl:i=h.S.length:=ω
 rw[O6]
 repeat'(first|refine gE ?_|(conv=>whnf);first|refine C9 (gp h.y l) ?_|refine C9 (sC h.a9 n) ?_|refine C9 (sE h.Y o) ?_)
 rfl
def rq(h:ab)(c:ab.sml h):zzA 62 false [.val (some 24) (ab.enc .W h)] .agg (ab.enc .own h):=by
 obtain⟨d,e,g,j,k,b,l,n,o⟩:=c;have p:=g.1;have q:=j.1;have r:=k.1;have u:=b.1;refine fO 59 [(11,5,[38,39,40,41,42])] Tryz.func62 rfl ?_ (.inr (ab.enc_fr _))
 repeat'(first|refine gP ?_|(conv=>whnf);first|refine C9 (gC h.G d) ?_|refine C9 (oA h.w e) ?_|refine CR (λ_=>rfl) (λ_=>rfl) p (by decide) ?_|refine CR (λ_=>rfl) (λ_=>rfl) q (by decide) ?_|refine CR (λ_=>rfl) (λ_=>rfl) r (by decide) ?_)
 (conv=>whnf)
 refine CG (ι:=Nat) (λi=>[(1,.H .box (ab.enc .W h)),(2,.H .box xC),(3,.H .box (Uo h (.s .own ((h.S.take i).map (aC.enc .own))))),(32,.H .one (pi .W h.S)),(33,.H .one [I (h.S.length)]),(34,.H .one [I ((i:Nat):Int)])]) (λi=>i<=h.S.length) (λi=>h.S.length - i) (0) ?_ (X0 _) λi w=>?_
 ·exact wB
 by_cases a:i<h.S.length
 ·have t:=ao a
  repeat'(first|refine gE ?_|(conv=>whnf);first|with_reducible refine CE (aa t) ?_|refine C9 (pP (nth h.S i) (b.2 _ (am a))) ?_|refine Ap.sn (aM λ_=>rfl) rfl (by simp;omega) (by decide) (fB a) ?_)
  ((conv=>whnf);refine CF (i+1) ω ω ?_;(exact wB))
 obtain rfl:i=h.S.length:=ω
 rw[O6]
 repeat'(first|refine gE ?_|(conv=>whnf);first|refine C9 (Ag h.y l) ?_|refine C9 (Aw h.a9 n) ?_|refine C9 (sF h.Y o) ?_)
 rfl
theorem Ap.sm{a:List (List C)}{r:List C}(h1:∀r∈rows,r.length=sz)(e:r.length=sz)(f:rows.length+1<=1073741824)(b:by_<=1000)(c:a=rows++[r])(d:K a):Ap false rows [r] sz by_ K:=
 CU h1 ψ ψ (by simp;omega) (C6 (Nat.mul_le_mul ω b) (by decide)) c d
theorem Ap.s2{c:List (List C)}{a b:List C}(h1:∀r∈rows,r.length=sz)(g:a.length=sz)(h:b.length=sz)(i:rows.length+2<=1073741824)(d:by_<=1000)(e:c=rows++[a,b])(f:K c):Ap false rows [a,b] sz by_ K:=
 CU h1 ψ ψ (by simp;omega) (C6 (Nat.mul_le_mul ω d) (by decide)) e f
def uB(y:a8)(a:List a8)(r:a8)(out:List a8)(done:Bool):jz (y::a) r out done=if ovl y r then none
  else if y.At+y.b0=r.At then jz a ⟨y.At,y.b0+r.b0⟩ out done
  else if r.At+r.b0=y.At then jz a ⟨r.At,r.b0+y.b0⟩ out done
  else if y.At > r.At/\done=false then jz a r (out++[r,y]) true
  else jz a r (out++[y]) done:=by rw[jz]
variable{xs:List a8}{pages:Int}
theorem wI(h:bG pages xs=true):jJ xs/\∀y∈xs,0<=y.At/\1<=y.b0/\y.At+y.b0<=pages:=by
 unfold bG at h;simp only[I0,C0]at h;have d:∀i,i<xs.length->1<=(nth xs i).b0/\0<=(nth xs i).At/\(nth xs i).At<=pages - (nth xs i).b0:=λi a=>by grind [fk,gM,rangeIn]
 have e:∀i,i+1<xs.length->(nth xs i).At+(nth xs i).b0<(nth xs (i+1)).At:=λi a=>by grind [fk,gM]
 have f:∀j i,i<j->j<xs.length->(nth xs i).At+(nth xs i).b0<(nth xs j).At:=λj=>by
  induction j with
  | zero=>intro i a;omega
  | succ j k=>
   grind
 refine⟨⟨?_,λy g=>?_⟩,λy g=>?_⟩
 ·rw[List.pairwise_iff_getElem]
  intro i j a c b;have:=f j i b c
  rwa [bh (X2 a),bh (X2 c)]at this
 all_goals grind [aN]
theorem iD[Inhabited α]{xs:List α}(a:i<xs.length):xs.drop i=nth xs i::xs.drop (i+1):=by
 rw[List.drop_eq_getElem_cons a,bh (X2 a)]
def cr(pages:Int)(xs:List a8)(r:a8):Option (List a8):=if bG pages xs=true/\rangeIn pages r=true then jz xs r [] false else none
def EQ(xs:List a8)(o:Option (List a8)):List C:=bF .own (o.getD xs)++[B o.isSome]
def lz(xs:List a8)(o:Option (List a8)):hO (EQ xs o):=aG (my _) ⟨trivial,trivial⟩
theorem Ar(pages:Int)(xs:List a8)(r:a8)(w:0<=pages/\pages<=1048576)(l:gY xs):zzA 254 false [.val none [I pages],.val none (bF .W xs),.val (some 2) (a8.enc .W r)] (.tup [none,none]) (EQ xs (cr pages xs r)):=by
 have L:=l.1;have j:=qR pages xs w l;have n:=zh pages r w;have o:=oA xs l;cases k:bG pages xs<;>rw[k]at j
 ·rw[show cr pages xs r=none by unfold cr;rw[CB (by rw[k];simp)]]
  refine fO 111 [] Tryz.func254 rfl ?_ (.inr (lz _ _))
  repeat'(first|refine gP ?_|(conv=>whnf);first|refine C9 (j) ?_|refine C9 (o) ?_)
  rfl
 cases p:rangeIn pages r<;>rw[p]at n
 ·rw[show cr pages xs r=none by unfold cr;rw[CB (by rw[p];simp)]]
  refine fO 111 [] Tryz.func254 rfl ?_ (.inr (lz _ _))
  repeat'(first|refine gP ?_|(conv=>whnf);first|refine C9 (j) ?_|refine C9 (n) ?_|refine C9 (o) ?_)
  rfl
 rw[show cr pages xs r=jz xs r [] false by unfold cr;rw[CD ⟨k,p⟩]];obtain⟨M,G⟩:=wI k;have H:0<=r.At/\1<=r.b0/\r.At+r.b0<=pages:=by grind [rangeIn]
 refine fO 111 [] Tryz.func254 rfl ?_ (.inr (lz _ _))
 repeat'(first|refine gP ?_|(conv=>whnf);first|refine C9 (j) ?_|refine C9 (n) ?_)
 (conv=>whnf)
 refine CG (ι:=Nat × a8 × List a8 × Bool) (λq=>[(1,.H .one (bF .W xs)),(5,.H .box (a8.enc .W q.2.1)),(8,.H .one (bF .own q.2.2.1)),(9,.H .one [B (q.2.2.2)]),(25,.H .one (bF .W xs)),(26,.H .one [I (xs.length)]),(27,.H .one [I ((q.1:Nat):Int)])]) (λq=>q.1<=xs.length/\jz (xs.drop q.1) q.2.1 q.2.2.1 q.2.2.2=jz xs r [] false/\(0<=q.2.1.At/\1<=q.2.1.b0/\q.2.1.At+q.2.1.b0<=pages)/\q.2.2.1.length<=2*q.1) (λq=>xs.length - q.1) ((0,r,[],false)) ?_ (⟨X0 _,rfl,H,X0 _⟩) λq c=>?_
 ·exact wB
 obtain⟨i,d,out,done⟩:=q;obtain⟨J,b,e,t⟩:=c;simp only at J b e t |-;by_cases u:i<xs.length
 ·have g:=ao u
  have N:=G _ (am u);rw[iD u]at b;by_cases h:ovl (nth xs i) d=true
  ·rw[<-b]
   rw[uB,CD h];unfold ovl at h;rw[C0]at h
   repeat'(first|refine gE ?_|(conv=>whnf);first|with_reducible (first|refine CE (aa g) ?_|refine Bf.D (λc=>?_) (λc=>?_))|refine C9 (o) ?_)
   rfl
  have a:=b;rw[uB,CB h]at a;unfold ovl at h;rw[C0]at h;by_cases y:(nth xs i).At+(nth xs i).b0=d.At
  ·rw[CD y]at a
   repeat'(first|refine gB ?_|(conv=>whnf);first|with_reducible (first|refine CE (aa g) ?_|refine Bf.D (λc=>?_) (λc=>?_)))
   ((conv=>whnf);refine CF (i+1,⟨(nth xs i).At,(nth xs i).b0+d.b0⟩,out,done) ⟨(by simp only;omega),a,(by simp only;omega),(by simp only;omega)⟩ (by simp only;omega) ?_;(exact wB))
  rw[CB y]at a;by_cases F:d.At+d.b0=(nth xs i).At
  ·rw[CD F]at a
   repeat'(first|refine gB ?_|(conv=>whnf);first|with_reducible (first|refine CE (aa g) ?_|refine Bf.D (λc=>?_) (λc=>?_)|refine Bf.E (λc=>?_) (λc=>?_)))
   ((conv=>whnf);refine CF (i+1,⟨d.At,d.b0+(nth xs i).b0⟩,out,done) ⟨(by simp only;omega),a,(by simp only;omega),(by simp only;omega)⟩ (by simp only;omega) ?_;(exact wB))
  rw[CB F]at a;by_cases K:(nth xs i).At > d.At
  ·cases done with
   | false=>
    rw[CD ⟨K,rfl⟩]at a
    repeat'(first|refine gB ?_|(conv=>whnf);first|with_reducible (first|refine CE (aa g) ?_|refine Bf.D (λc=>?_) (λc=>?_)|refine Bf.E (λc=>?_) (λc=>?_))|refine Ap.s2 (aM λ_=>rfl) rfl rfl (by simp;omega) (by decide) rfl ?_)
    ((conv=>whnf)
     refine CF (i+1,d,out++[d,nth xs i],true) ⟨(by simp only;omega),a,e,(by simp;omega)⟩ (by simp only;omega) ?_
     (repeat'(first|exact trivial|rfl|exact CM rfl (CM (Z0 (C.s dM.own) (by simp[a8.enc])) trivial)|refine CM ?_ ?_)))
   | true=>
    rw[CB (by simp)]at a
    repeat'(first|refine gB ?_|(conv=>whnf);first|with_reducible (first|refine CE (aa g) ?_|refine Bf.D (λc=>?_) (λc=>?_)|refine Bf.E (λc=>?_) (λc=>?_))|refine Ap.sm (aM λ_=>rfl) rfl (by simp;omega) (by decide) rfl ?_)
    ((conv=>whnf)
     refine CF (i+1,d,out++[nth xs i],true) ⟨(by simp only;omega),a,e,(by simp;omega)⟩ (by simp only;omega) ?_
     (repeat'(first|exact trivial|rfl|exact CM rfl (CM (Z0 (C.s dM.own) (by simp[a8.enc])) trivial)|refine CM ?_ ?_)))
  rw[CB ω]at a
  repeat'(first|refine gB ?_|(conv=>whnf);first|with_reducible (first|refine CE (aa g) ?_|refine Bf.D (λc=>?_) (λc=>?_)|refine Bf.E (λc=>?_) (λc=>?_))|refine Ap.sm (aM λ_=>rfl) rfl (by simp;omega) (by decide) rfl ?_)
  ((conv=>whnf)
   refine CF (i+1,d,out++[nth xs i],done) ⟨(by simp only;omega),a,e,(by simp;omega)⟩ (by simp only;omega) ?_
   (repeat'(first|exact trivial|rfl|exact CM rfl (CM (Z0 (C.s dM.own) (by simp[a8.enc])) trivial)|refine CM ?_ ?_)))
 obtain rfl:i=xs.length:=ω
 rw[List.drop_length]at b;cases done with
 | false=>
  rw[<-b]
  repeat'(first|refine gE ?_|(conv=>whnf);first|refine Ap.sm (aM λ_=>rfl) rfl (by simp;omega) (by decide) rfl ?_)
  show [C.s dM.own _,B true]=[C.s dM.own _,B true]
  grind [jz,a8.enc]
 | true=>
  rw[<-b]
  repeat'(first|refine gE ?_|fail)
  rfl
theorem wN[Inhabited α](R:Int->Int->Prop)(n:∀a b c,R a b->R b c->R a c)(f:α->Int)(xs:List α):(∀i,i<xs.length->i=0\/R (f (nth xs (i - 1))) (f (nth xs i)))↔xs.Pairwise (λa b=>R (f a) (f b)):=by
 constructor
 ·intro h
  have l:∀j i,i<j->j<xs.length->R (f (nth xs i)) (f (nth xs j)):=λj=>by
   induction j with
   | zero=>intro i d;omega
   | succ j o=>
    grind
  rw[List.pairwise_iff_getElem];intro i j d k g;have:=l j i g k
  rwa [bh (X2 d),bh (X2 k)]at this
 intro h i d;by_cases e:i=0
 ·exact .inl e
 right
 have:=List.pairwise_iff_getElem.1 h (i - 1) i ω d ω
 rwa [<-bh (X2 (show i - 1<xs.length by omega)),<-bh (X2 d)]at this
theorem Bz[Inhabited α](f:α->Int)(xs:List α):(∀i,i<xs.length->∀o∈xs.take i,f o≠f (nth xs i))↔(xs.map f).Nodup:=by
 unfold List.Nodup;rw[List.pairwise_map,List.pairwise_iff_getElem];constructor
 ·intro h i j b a c
  have:=h j a xs[i] (List.mem_take_iff_getElem.2 ψ)
  rwa [bh (X2 a)]at this
 intro h i b o d;obtain⟨j,a,rfl⟩:=List.mem_take_iff_getElem.1 d;rw[bh (X2 b)]
 grind
def eJ(s:au)(a:Int):Prop:=16*s.R<=a/\a<=16*s.R+15/\(a - 16*s.R) % csz s.e=0/\aX s.b2 ((a - 16*s.R) / csz s.e)=true
def ku(sp:List au)(a c:Int):Prop:=∃s∈sp,eJ s a/\(c<0\/s.e=c)
def UZ(la:List aB)(a z:Int):Prop:=∃l∈la,a=16*l.R/\l.q=z
def NT(sp:List au)(la:List aB)(o:bu):Prop:=(∃s∈sp,eJ s o.Addr/\s.e=aL o.q)\/UZ la o.Addr o.q
def nt(sp:List au)(la:List aB)(a:Int):Prop:=ku sp a (-1)\/∃l∈la,a=16*l.R
theorem nj(f:oT sp la)(a:Int):(∃i,i<sp.length/\(16*(nth sp i).R<=a/\a<=16*(nth sp i).R+15)/\denotes sp la a=nI i (nth sp i) a)\/((∀s∈sp,¬(16*s.R<=a/\a<=16*s.R+15))/\((∃i,i<la.length/\bH (nth la i) a=true/\denotes sp la a = ⟨3,i,0,a - 16*(nth la i).R⟩)\/((∀l∈la,bH l a=false)/\denotes sp la a = ⟨0,0,0,0⟩))):=by
 cases d:sp.findIdx? (di · a) with
 | some i=>
  obtain⟨b,c,-⟩:=S8.1 d;rw[<-bh (X2 b)]at c
  grind [gZ,oT.sok,am,denotes]
 | none=>
  have g:=List.findIdx?_eq_none_iff.1 d;refine .inr ⟨λs h j=>?_,?_⟩
  ·grind [gZ,oT.sok]
  cases e:la.findIdx? (bH · a) with
  | some i=>
   obtain⟨b,c,-⟩:=S8.1 e;rw[<-bh (X2 b)]at c
   grind [denotes]
  | none=>grind [denotes]
theorem ML(l:oT h.J h.M){c:Int} : dD h a c=true↔ku h.J a c:=by
 unfold dD;simp only[I0,W7,C0];constructor
 ·rintro⟨⟨b,f⟩,d⟩
  rcases nj l a with⟨i,j,k,g⟩|⟨-,⟨i,j,-,g⟩|⟨-,g⟩⟩
  ·rw[g]at b f d
   simp only[nI]at b f d;refine⟨_,am j,⟨k.1,k.2,f,?_⟩,by simpa using d⟩;cases e:aX (nth h.J i).b2 ((a - 16*(nth h.J i).R) / csz (nth h.J i).e) with
   | true=>rfl
   | false=>rw[e]at b;simp at b
  all_goals grind
 rintro⟨s,n,⟨o,p,q,r⟩,d⟩
 grind [aN,iK,nI]
theorem yk(a:oT sp la)(c:l∈la):(∀s∈sp,¬(16*s.R<=16*l.R/\16*l.R<=16*s.R+15))/\bH l (16*l.R)=true/\∀i,i<la.length->bH (nth la i) (16*l.R)=true->nth la i=l:=by
 have k:=aQ (a.lok _ c);have f:=cX (a.lok _ c);refine⟨λs g n=>?_,?_,λi d e=>?_⟩
 ·exact a.dis s g l c 0 ω ω
 ·grind [oT.lok,bH]
 obtain⟨j,h,rfl⟩:=aN c;have o:=aQ (a.lok _ (am d));have b:=a.lok _ (am d);unfold bL at b;rw[C0]at b;unfold bH at e;rw[I0,C0]at e;rw[a.one i j d h ((nth la j).R - (nth la i).R).toNat 0 ω ω ω]
theorem PM(f:oT h.J h.M) : ju h o=true↔NT h.J h.M o:=by
 unfold ju;simp only[I0,W7,C0];constructor
 ·rintro⟨b,a⟩
  rcases nj f o.Addr with⟨i,d,g,c⟩|⟨-,⟨i,d,-,c⟩|⟨-,c⟩⟩
  ·rw[c]at a b
   simp only[nI]at a b;have e:aX (nth h.J i).b2 ((o.Addr - 16*(nth h.J i).R) / csz (nth h.J i).e)=true:=ψ
   rw[e]at a;exact .inl ⟨_,am d,⟨g.1,g.2,b,e⟩,by simpa using a⟩
  ·rw[c]at a b
   simp only at a b;exact .inr ⟨_,am d,ω,by simpa using a⟩
  grind
 rintro(⟨s,e,⟨k,n,p,q⟩,r⟩|⟨l,j,t,u⟩)
 ·grind [aN,iK,nI]
 obtain⟨w,y,A⟩:=yk f j
 grind [nj,am]
theorem FF(j:oT sp la)(a:Int):a∈kU sp la↔nt sp la a:=by
 constructor
 ·intro h
  unfold kU mh at h;obtain⟨n,o,rfl⟩:=O5.1 h;have c:=(V5.1 o).2;unfold kN at c;simp only[I0,W7,C0]at c;obtain⟨b,d⟩:=c;rcases nj j (n:Int) with⟨i,g,k,f⟩|⟨-,⟨i,g,-,f⟩|⟨-,f⟩⟩
  ·rw[f]at d b
   simp only[nI]at d b;refine .inl ⟨_,am g,⟨k.1,k.2,b,?_⟩,.inl ω⟩;cases e:aX (nth sp i).b2 (((n:Int) - 16*(nth sp i).R) / csz (nth sp i).e) with
   | true=>rfl
   | false=>rw[e]at d;simp at d
  ·rw[f]at b
   simp only at b;exact .inr ⟨_,am g,ω⟩
  grind
 rintro(⟨s,q,⟨r,c,t,u⟩,-⟩|⟨l,p,rfl⟩)
 ·grind [aN,iK,wQ,nI]
 obtain⟨w,y,A⟩:=yk j p
 grind [nj,am,wQ]
def RH(xs:List a8)(p:Int):Prop:=∃r∈xs,r.At<=p/\p<r.At+r.b0
theorem gr : bG pages xs=true↔jJ xs/\(∀y∈xs,0<=y.At/\1<=y.b0/\y.At+y.b0<=pages)/\1<=pages/\pages<=32:=by
 constructor
 ·grind [wI,bG]
 rintro⟨b,c,d⟩
 unfold bG;simp only[I0,C0];refine⟨cA.2 λi a=>?_,d⟩;have f:=c _ (am a);unfold gM rangeIn;simp only[I0,C0];refine⟨ω,?_⟩;by_cases e:i=0
 ·exact .inl e
 right
 have:=List.pairwise_iff_getElem.1 b.1 (i - 1) i ω a ω
 rwa [<-bh (X2 (show i - 1<xs.length by omega)),<-bh (X2 a)]at this
theorem GZ(h:bG pages xs=true)(p:Int):xs.any (wy p)=true↔RH xs p:=by
 obtain⟨-,c,d⟩:=gr.1 h;rw[X4];refine⟨λ⟨r,a,b⟩=>⟨r,a,?_⟩,λ⟨r,a,b⟩=>⟨r,a,?_⟩⟩
 all_goals grind [eX,wy]
theorem wM(i:Int):∀(f:List a8)(r:a8)(out:List a8),jJ f->1<=r.b0->(∀y∈f,ovl y r=false)->(∀z∈out,z.At+z.b0<r.At/\∀y∈f,z.At+z.b0<y.At)->jJ out->(∀y∈r::(out++f),0<=y.At/\y.At+y.b0<=i)->∃o,jz f r out false=some o/\jJ o/\(∀y∈o,0<=y.At/\y.At+y.b0<=i)/\∀p,RH o p↔RH out p\/RH f p\/(r.At<=p/\p<r.At+r.b0)
 | [],r,out,_,l,_,D,g,j=>by
  refine⟨out++[r],by simp[jz],⟨List.pairwise_append.2 ⟨g.1,List.pairwise_singleton ..,ψ⟩,λy k=>?_⟩,ψ,λp=>by grind [RH]⟩;rcases W3.1 k with k|k
  ·exact g.2 y k
  grind
 | y::f,r,out,c,l,E,D,g,j=>by
  have M:=c.2 y ψ;have h:=E y ψ;have F:=c.head;have G:=j y (by simp);have H:=j r (by simp);have J:∀w∈f,¬(w.At<r.At+r.b0/\r.At<w.At+w.b0):=λw d=>by grind [ovl]
  have K:∀w∈f,1<=w.b0:=λw d=>c.2 w ψ
  rw[uB,CB (by rw[h];simp)];unfold ovl at h;rw[Y5]at h;by_cases n:y.At+y.b0=r.At
  ·rw[CD n]
   obtain⟨o,q,t,u,A⟩:=wM i f ⟨y.At,y.b0+r.b0⟩ out c.tail (by simp only;omega) (λw d=>by grind [ovl]) ψ g ψ
   grind [RH]
  rw[CB n];by_cases B:r.At+r.b0=y.At
  ·rw[CD B]
   obtain⟨o,q,t,u,A⟩:=wM i f ⟨r.At,r.b0+y.b0⟩ out c.tail (by simp only;omega) (λw d=>by grind [ovl]) ψ g ψ
   grind [RH]
  rw[CB B];by_cases C:y.At > r.At
  ·have L:r.At+r.b0<y.At:=ω
   rw[CD ⟨C,rfl⟩,qi c.tail l ψ];refine⟨_,rfl,⟨?_,λw d=>?_⟩,ψ,λp=>by grind [RH]⟩
   ·rw[Z6]
    refine List.pairwise_append.2 ⟨g.1,?_,λa N b j=>?_⟩
    ·show(r::y::f).Pairwise _
     refine List.pairwise_cons.2 ⟨λw d=>?_,c.1⟩
     grind
    grind
   simp only[W3,List.mem_cons,List.not_mem_nil,or_false]at d;rcases d with(d|rfl|rfl)|d
   ·exact g.2 w d
   all_goals grind
  rw[CB λe=>C e.1];obtain⟨o,q,t,u,A⟩:=wM i f r (out++[y]) c.tail l ψ ψ ⟨List.pairwise_append.2 ⟨g.1,List.pairwise_singleton ..,ψ⟩,λw d=>by
      rcases W3.1 d with d|d
      · exact g.2 w d
      grind⟩ ψ
  grind [RH]
theorem vz{r:a8}(h:bG pages xs=true)(i:0<=r.At/\1<=r.b0/\r.At+r.b0<=pages)(c:∀p,r.At<=p->p<r.At+r.b0->¬RH xs p):∃o,cr pages xs r=some o/\bG pages o=true/\∀p,RH o p↔RH xs p\/(r.At<=p/\p<r.At+r.b0):=by
 obtain⟨j,k,l⟩:=gr.1 h;have b:rangeIn pages r=true:=by grind [rangeIn]
 unfold cr;rw[CD ⟨h,b⟩];obtain⟨o,n,d,f,q⟩:=wM pages xs r [] j i.2.1 (λy a=>by
   have:=k y a;unfold ovl;rw[Y5];intro g;by_cases e:r.At<=y.At
   · exact c y.At e g.1 ⟨y,a,ω,ω⟩
   exact c r.At ω ω ⟨y,a,ω,g.2⟩) ψ ⟨List.Pairwise.nil,ψ⟩ ψ
 refine⟨o,n,gr.2 ⟨d,λy a=>⟨(f y a).1,d.2 y a,(f y a).2⟩,l⟩,λp=>?_⟩
 grind [RH]
structure Pg(t:aI)(fr:List a8)(sp:List au)(la:List aB):Prop where
 one:∀l∈la,∀p:Nat,(p:Int)∈lpgs l l.a4.toNat->∀q:Nat,q<t.K.length->(nth t.K q).j≠0->(nth t.K q).d=(nth t.K p).d->q=p
 bnd:∀p∈pgs sp la,p<t.K.length
 own:∀p:Nat,p<t.K.length->((nth t.K p).j≠0↔(p:Int)∈pgs sp la)
 fre:∀p:Nat,p<t.K.length->((nth t.K p).j≠0↔¬RH fr p)
 mesh:∀s∈sp,∀u∈sp,s.R≠u.R->(nth t.K s.R.toNat).d=(nth t.K u.R.toNat).d->meshable s u=true
structure aU(h:ab)(E:List Int):Prop where
 ker:ay h.G=true
 rng:bG (eZ h) h.w=true
 lay:bp h.J h.M=true
 srs:h.J.Pairwise λa b=>a.R<b.R
 srl:h.M.Pairwise λa b=>a.R<b.R
 pg:Pg (tbl h) h.w h.J h.M
 mail:bQ h.y=true
 nc:h.S.length=h.y.V.length
 quar:gK h.a9=true
 snc:∀x∈h.a9.a6,x.b7<=h.b3
 cach:∀c∈h.S,bz c=true
 nums:cu h=true
 osr:h.O.Pairwise λa b=>a.Addr<b.Addr
 onu:∀o∈h.O,1<=o.Id/\o.Id<=h.b - 1/\0<=o.a5/\o.a5<=h.S.length - 1
 oid:(h.O.map (·.Id)).Nodup
 oow:∀o∈h.O,NT h.J h.M o
 hca:∀c∈h.S,∀k:Nat,k<c.a.length->∀a∈nth c.a k,ku h.J a k
 hqu:∀x∈h.a9.a6,ku h.J x.Addr x.e
 hfl:∀a∈aP h.y,ku h.J a (-1)
 hin:∀a∈E,ku h.J a (-1)
 nd:(E++holders h).Nodup
 mem:∀a,a∈E++holders h↔nt h.J h.M a
 job:h.o=true->jH h.Y=true/\(∃s∈h.J,s.R=h.Y.X.a2)/\∃s∈h.J,s.R=h.Y.X.a0
 noj:h.o=false->re h.Y=true
variable{E:List Int}
theorem aU.L(a:aU h E):oT h.J h.M:=oT.of a.lay
theorem zH(t:aI)(f:Int):(pagesOn t f).Nodup:=by grind [List.nodup_range,pagesOn,kv]
def R6{l:List Int}(b:l.Nodup)(d:a∈l)(c:∀x∈l,x=a):l.length=1:=by
 match l with
 | []=>cases d
 | [_]=>rfl
 | x::y::r=>
  exfalso;have e:=c x (by simp);have f:=c y (by simp);rw[e,f]at b;simp at b
theorem dH(a:s∈sp):s.R∈pgs sp la:=by grind [pgs]
theorem gw(a:l∈la)(b:p∈lpgs l l.a4.toNat):p∈pgs sp la:=by grind [pgs]
theorem Uw(b:bp h.J h.M=true)(N:bG (eZ h) h.w=true)(A:pages0 h=true)(r:pR h=true):Pg (tbl h) h.w h.J h.M:=by
 have B:=oT.of b;obtain⟨C,D,t⟩:=tE A;have E:∀p:Nat,p<eZ h->((nth (tbl h).K p).j≠0↔¬RH h.w p):=λp a=>by grind [fk,GZ,pages0,wo]
 refine⟨λl w p c q F e f=>?_,D,t,E,λs G u H J O=>?_⟩
 ·obtain⟨i,y,rfl⟩:=aN w
  obtain⟨k,g,n⟩:=dC.1 c;have a:p<eZ h:=by grind [gw]
  have d:=(t p a).2 (gw w c);have K:=C i y k g;rw[<-n,fJ a d]at K;have P:(p:Int)∈pagesOn (tbl h) (nth (tbl h).K p).d:=eY.2 ⟨a,d,rfl⟩;have Q:(q:Int)∈pagesOn (tbl h) (nth (tbl h).K p).d:=eY.2 ⟨F,e,f⟩
  grind [List.length_eq_one_iff]
 obtain⟨i,y,rfl⟩:=aN G;obtain⟨j,R,rfl⟩:=aN H;have L:∀k,k<h.J.length->ac (tbl h) (nth h.J k).R=nth (tbl h).K (nth h.J k).R.toNat:=λk g=>by
  have S:=aE (B.sok _ (am g))
  grind [dH,BE,nth]
 unfold pR at r;rw[cA]at r;rcases Nat.lt_trichotomy i j with o|M|o
 all_goals grind [fk,iy,mL]
theorem B0(sp:List au):dr sp.length (xO sp)=true↔sp.Pairwise λa b=>a.R<b.R:=by
 rw[cA];refine Iff.trans ?_ (wN (λa b:Int=>a<b) ω (λs:au=>s.R) sp)
 grind [xO]
theorem AQ(la:List aB):dr la.length (xp la)=true↔la.Pairwise λa b=>a.R<b.R:=by
 rw[cA];refine Iff.trans ?_ (wN (λa b:Int=>a<b) ω (λs:aB=>s.R) la)
 grind [xp]
theorem Ud(o:bp h.J h.M=true)(C:bG (eZ h) h.w=true)(h1:h.J.Pairwise λa b=>a.R<b.R)(A:h.M.Pairwise λa b=>a.R<b.R)(c:Pg (tbl h) h.w h.J h.M):pages0 h=true/\pR h=true:=by
 have u:=oT.of o;constructor
 ·unfold pages0
  simp only[I0];refine⟨⟨⟨(B0 _).2 h1,cA.2 λi l=>?_⟩,Y4.2 λp n=>O0 (c.bnd p n)⟩,cA.2 λp n=>?_⟩
  ·unfold tz
   rw[I0];refine⟨fk ((AQ _).2 A) l,cA.2 λk w=>?_⟩;have y:=am l;have D:=aQ (u.lok _ y);obtain⟨p,n⟩ : ∃p:Nat,(nth h.M i).R+(k:Nat)=(p:Nat):=⟨((nth h.M i).R+k).toNat,ω⟩
   have q:(p:Int)∈lpgs (nth h.M i) (nth h.M i).a4.toNat:=dC.2 ψ;have d:p<eZ h:=by have:=c.bnd _ (gw (sp:=h.J) y q);exact Int.ofNat_lt.1 this
   have r:=(c.own p d).2 (gw y q);unfold yI;rw[C0,n,fJ d r];refine R6 (zH ..) (eY.2 ⟨d,r,rfl⟩) λx E=>?_
   grind [vJ,eY,Pg.one]
  unfold wo;rw[I0,C0];refine⟨c.own p n,?_⟩;have F:=c.fre p n
  grind [GZ]
 unfold pR;refine cA.2 λi l=>cA.2 λj G=>?_
 have g:j<h.J.length:=ω
 have t:∀k,k<h.J.length->ac (tbl h) (nth h.J k).R=nth (tbl h).K (nth h.J k).R.toNat:=λk w=>by
  have H:=aE (u.sok _ (am w));have J:=c.bnd _ (dH (la:=h.M) (am w))
  grind [BE,eZ,tbl]
 unfold mL;rw[t i l,t j g,W7,C0];by_cases e:(nth (tbl h).K (nth h.J i).R.toNat).d=(nth (tbl h).K (nth h.J j).R.toNat).d
 ·refine .inr (c.mesh _ (am l) _ (am g) (λB=>?_) e)
  have:=cR (f:=(·.R)) u.nd l g B;omega
 exact .inl e
theorem G3(c:cu h=true)(d:oT h.J h.M):gt h=true↔(h.O.Pairwise λa b=>a.Addr<b.Addr)/\(∀o∈h.O,1<=o.Id/\o.Id<=h.b - 1/\0<=o.a5/\o.a5<=h.S.length - 1)/\(h.O.map (·.Id)).Nodup/\∀o∈h.O,NT h.J h.M o:=by
 unfold cu at c;rw[C0]at c;refine Iff.trans ?_ (and_congr (wN (λa b:Int=>a<b) ω (λo:bu=>o.Addr) h.O) (and_congr Iff.rfl (and_congr (Bz (λo:bu=>o.Id) h.O) Iff.rfl)));unfold gt;rw[eX ω ω,cA];have e:∀i,i<h.O.length->(objAt (h.b - 1) h i=true↔(i=0\/(nth h.O (i - 1)).Addr<(nth h.O i).Addr)/\(1<=(nth h.O i).Id/\(nth h.O i).Id<=h.b - 1/\0<=(nth h.O i).a5/\(nth h.O i).a5<=h.S.length - 1)/\(∀o∈h.O.take i,o.Id≠(nth h.O i).Id)/\NT h.J h.M (nth h.O i)):=λi f=>by grind [PM,objAt,io,gd]
 grind [aN,am]
def xe(b:oT h.J h.M):jZ h=true↔(∀c∈h.S,∀k:Nat,k<c.a.length->∀a∈nth c.a k,ku h.J a k)/\(∀x∈h.a9.a6,ku h.J x.Addr x.e)/\∀a∈aP h.y,ku h.J a (-1):=by
 rw[pM];simp only[Y4,f9,cA,tV,iF,kX,ML b,and_assoc]
theorem K9 : 0<=gX h p↔∃s∈h.J,s.R=p:=by grind [gX,ee,mM]
theorem aU.of(g:cJ h=true):aU h []:=by
 unfold cJ kM at g;simp only[I0]at g;obtain⟨⟨⟨⟨⟨⟨⟨⟨⟨⟨r,l⟩,e⟩,j⟩,n⟩,c⟩,t⟩,H⟩,o⟩,k,b⟩,d⟩:=g;have p:=oT.of e;rw[uN e j]at n;have f:=j;unfold pages0 at f;simp only[I0]at f;unfold dJ at c;simp only[I0,C0]at c;unfold kw at b;simp only[I0,C0]at b;obtain⟨⟨u,w⟩,J⟩:=b;obtain⟨y,A,B,C⟩:=(G3 o p).1 k;obtain⟨D,E,F⟩:=(xe p).1 u;unfold mi at t;have G:=cA.1 f.1.1.2;refine⟨r,l,e,(B0 _).1 f.1.1.1,(AQ _).1 (cA.2 λi K=>?_),Uw e l j n,c.1.1,c.1.2,c.2,ψ,ψ,o,y,A,B,C,D,E,F,ψ,(by simpa using w),λa=>?_,λq=>?_,λq=>?_⟩
 ·grind [tz]
 ·grind [FF,sY,sj]
 ·unfold tn at d
  rw[CD q]at d
  grind [K9]
 grind [tn]
theorem aU.to(b:aU h []):cJ h=true:=by
 have c:=b.L;obtain⟨e,g⟩:=Ud b.lay b.rng b.srs b.srl b.pg;have d:=(G3 b.nums c).2 ⟨b.osr,b.onu,b.oid,b.oow⟩;have f:=(xe c).2 ⟨b.hca,b.hqu,b.hfl⟩;unfold cJ kM;simp only[I0];refine⟨⟨⟨⟨⟨⟨⟨⟨⟨⟨b.ker,b.rng⟩,b.lay⟩,e⟩,by grind [uN,aU.lay]⟩,?_⟩,?_⟩,Y4.2 b.cach⟩,b.nums⟩,d,?_⟩,?_⟩
 ·grind [aU.mail,aU.quar,aU.nc,dJ]
 ·grind [aU.snc,mi]
 ·unfold kw
  have i:(holders h).Nodup:=by simpa using b.nd
  have j:∀a,a∈holders h↔a∈kU h.J h.M:=λa=>by rw[FF c,<-b.mem a];simp
  grind [vT,List.Perm.length_eq]
 grind [aU.job,K9,aU.noj,tn]
def dele(xs:List α)(i:Nat):List α:=xs.take i++xs.drop (i+1)
theorem fh(xs:List α)(i:Nat):(dele xs i).Sublist xs:=by
 unfold dele;rw[<-List.eraseIdx_eq_take_drop_succ];grind
theorem BA[Inhabited α]{xs:List α}(a:i<xs.length):xs.Perm (nth xs i::dele xs i):=by
 have:xs=xs.take i++nth xs i::xs.drop (i+1):=by grind [iD,List.take_append_drop]
 conv=>lhs;rw[this]
 exact List.perm_middle
theorem jh{α:Type}[Inhabited α](f:α->List Int)(a:Int):∀(xs:List α)(i:Nat)(y:α),i<xs.length->((xs.set i y).flatMap f).count a+(f (nth xs i)).count a=(xs.flatMap f).count a+(f y).count a
 | [],i,_,h=>by cases h
 | x::xs,0,y,_=>by
  show((y::xs).flatMap f).count a+(f x).count a=((x::xs).flatMap f).count a+(f y).count a
  grind
 | x::xs,i+1,y,h=>by
  have:=jh f a xs i y (by simpa using h);show((x::xs.set i y).flatMap f).count a+(f (nth xs i)).count a=((x::xs).flatMap f).count a+(f y).count a
  grind
theorem lJ(a:List (List Int)):a.flatten=a.flatMap λx=>x:=by simp_all
theorem ku.any{c:Int}(h:ku sp a c):ku sp a (-1):=by
 obtain⟨s,b,d,-⟩:=h;exact⟨s,b,d,.inl (by decide)⟩
def aU.cells(a:aU h E)(c:ay k=true)(b:k.F.Q=h.G.F.Q):aU {h with G:=k} E:=
 {a with
   ker:=c
   rng:=by show bG ((k.F.Q.K.length:Nat):Int) h.w=true;rw[b];exact a.rng
   pg:=by show Pg k.F.Q h.w h.J h.M;rw[b];exact a.pg}
theorem aU.dropO(b:aU h E)(e:i<h.O.length)(j:ku h.J (nth h.O i).Addr (-1)):aU {h with O:=dele h.O i} ((nth h.O i).Addr::E):=by
 have f:(E++holders h).Perm (((nth h.O i).Addr::E)++holders {h with O:=dele h.O i}):=by
  have g:=(BA e).map (·.Addr);refine List.perm_iff_count.2 λa=>?_
  have k:=g.count_eq a
  grind [holders,cI]
 have c:(dele h.O i).Sublist h.O:=fh ..;exact {b with
   osr:=b.osr.sublist c
   onu:=λo d=>b.onu o (c.subset d)
   oid:=b.oid.sublist (c.map _)
   oow:=λo d=>b.oow o (c.subset d)
   hin:=λa l=>by grind [aU.hin]
   nd:=f.nodup_iff.1 b.nd
   mem:=λa=>by grind [aU.mem]}
def pS(c:aC)(k:Nat)(a:Int):aC:=⟨c.a.set k (nth c.a k++[a])⟩
theorem aU.put{t k:Nat}(e:aU h (a::E))(f:t<h.S.length)(g:k<(nth h.S t).a.length)(p:ku h.J a k)(q:bz (pS (nth h.S t) k a)=true):aU {h with S:=h.S.set t (pS (nth h.S t) k a)} E:=by
 have i:(a::E++holders h).Perm (E++holders {h with S:=h.S.set t (pS (nth h.S t) k a)}):=by
  refine List.perm_iff_count.2 λb=>?_
  have r:=jh (λc:aC=>c.a.flatten) b h.S t (pS (nth h.S t) k a) f;have l:=jh (λx:List Int=>x) b (nth h.S t).a k (nth (nth h.S t).a k++[a]) g;rw[<-lJ,<-lJ]at l
  grind [pS,holders,cI]
 exact {e with
   nc:=by grind [aU.nc]
   cach:=λc d=>by grind [aU.cach]
   onu:=by show ∀o∈h.O,1<=o.Id/\o.Id<=h.b - 1/\0<=o.a5/\o.a5<=(h.S.set t _).length - 1;rw[Z1];exact e.onu
   hca:=λc d j u b n=>by
     rcases Y7 d with d|rfl
     all_goals grind [aU.hca,bt,am,pS]
   hin:=λb n=>e.hin b ψ
   nd:=i.nodup_iff.1 e.nd
   mem:=λb=>by grind [aU.mem]}
theorem aU.toQuar{x:aR}{q:bO}{out:List aR}(c:aU h (x.Addr::E))(f:gK q=true)(d:h.a9.a6++[x]=out++q.a6)(j:x.b7<=h.b3)(k:ku h.J x.Addr x.e):aU {h with a9:=q} (out.map (·.Addr)++E):=by
 have e:∀y∈out++q.a6,y.b7<=h.b3/\ku h.J y.Addr y.e:=λy a=>by
  rw[<-d]at a;rcases W3.1 a with a|a
  ·exact⟨c.snc y a,c.hqu y a⟩
  grind
 have g:(x.Addr::E++holders h).Perm ((out.map (·.Addr)++E)++holders {h with a9:=q}):=by
  refine List.perm_iff_count.2 λb=>?_
  have i:=Z0 (λl:List aR=>(l.map (·.Addr)).count b) d;simp only[C7,S7,O7,List.map_nil,List.count_singleton]at i
  grind [holders,cI]
 exact {c with
   quar:=f
   snc:=(ψ)
   hqu:=(ψ)
   hin:=λb n=>by grind [ku.any,aU.hin]
   nd:=g.nodup_iff.1 c.nd
   mem:=λb=>by grind [aU.mem]}
def xw(b i:Int):Int:=((BitVec.ofInt IntKind.i64.bits b &&& ~~~BitVec.ofInt IntKind.i64.bits (2 ^ i.toNat)).toNat:Nat)
def kL(s:au)(i:Int):au:={s with b2:=xw s.b2 i}
theorem eS(b i:Int):aX b i=true↔0<=b/\0<=i/\i<=15/\b.toNat.testBit i.toNat=true:=by grind [aX]
variable{b:Int}
theorem GN{i:Int}(d:0<=b/\b<=65535)(a:0<=i/\i<=15)(j:Nat):(xw b i).toNat.testBit j=(b.toNat.testBit j&&decide (i.toNat≠j)):=by
 have e:(2:Int) ^ i.toNat<=32768/\0<=(2:Int) ^ i.toNat:=by
  obtain⟨n,rfl⟩:=V3 a.1;rw[O3];have:(2:Nat) ^ n<=2 ^ 15:=Nat.pow_le_pow_right (by decide) ω
  grind
 unfold xw;rw[O3,BitVec.testBit_toNat,BitVec.getLsbD_and,BitVec.getLsbD_not,<-BitVec.testBit_toNat,<-BitVec.testBit_toNat,qw ω,qw ω];rw[show((2:Int) ^ i.toNat).toNat=2 ^ i.toNat by rw[show(2:Int) ^ i.toNat=((2 ^ i.toNat:Nat):Int) by norm_cast,O3],Nat.testBit_two_pow];by_cases c:j<64
 ·rw[show decide (j<IntKind.i64.bits)=true from O0 c,Bool.true_and]
  grind
 rw[Nat.testBit_lt_two_pow (x:=b.toNat) (i:=j) (W4 (show b.toNat<2 ^ 16 by omega) (Nat.pow_le_pow_right (by decide) ω))]
 rfl
theorem Dn{i:Int}(a:0<=b/\b<=65535):0<=xw b i/\xw b i<=b:=by grind [qw,Nat.and_le_left,xw]
theorem Fc{i:Int}(a:0<=b/\b<=65535)(c:0<=i/\i<=15)(j:Int):aX (xw b i) j=true↔aX b j=true/\j≠i:=by grind [eS,GN,Dn]
theorem eK(h:bf s=true):0<=s.b2/\s.b2<=65535:=by
 unfold bf at h;simp only[C0]at h;have:=Jb s.e;omega
theorem Kh(h:bf s=true)(i:Int):bf (kL s i)=true:=by
 have b:=eK h;have a:=Dn (i:=i) b;unfold bf at h;rw[C0]at h;obtain⟨c,d,e,f,j,g⟩:=h;exact O0 ⟨c,d,e,f,a.1,Int.le_trans a.2 g⟩
theorem BF{u:au}(e:bf s=true){i:Int}(f:0<=i/\i<=15)(h:meshable s u=true):meshable (kL s i) u=true:=by
 unfold meshable at h |-;simp only[I0,C0]at h |-;obtain⟨⟨a,b⟩,c,d,g⟩:=h;refine⟨⟨Kh a i,b⟩,c,d,?_⟩;refine Nat.eq_of_testBit_eq λj=>?_
 grind [GN,eK,kL]
def cM(s:au)(a:Int):Int:=(a - 16*s.R) / csz s.e
theorem qr(h:bf s=true)(b:16*s.R<=a/\a<=16*s.R+15):0<=cM s a/\cM s a<=15:=by
 have c:=aE h
 grind [bV,cM]
theorem yv(h:bf s=true)(c:(a - 16*s.R) % csz s.e=0)(d:(b - 16*s.R) % csz s.e=0)(e:cM s a=cM s b):a=b:=by
 have f:=aE h
 grind [bV,cM]
theorem BR(h:bf s=true)(k:eJ s a)(b:Int):eJ (kL s (cM s a)) b↔eJ s b/\b≠a:=by
 obtain⟨l,n,o,p⟩:=k;have c:=qr h ⟨l,n⟩;unfold eJ;simp only[kL];rw[Fc (eK h) c];constructor
 ·rintro⟨g,i,d,j,f⟩
  exact⟨ψ,λe=>f (by rw[e];rfl)⟩
 rintro⟨⟨g,i,d,j⟩,f⟩
 exact⟨g,i,d,j,λe=>f (yv h d o e)⟩
theorem eA[Inhabited α]{xs:List α}{y z:α}(h:z∈xs.set i y):z=y\/∃j,j<xs.length/\j≠i/\nth xs j=z:=by
 obtain⟨j,a,rfl⟩:=List.mem_iff_getElem.1 h;rw[List.getElem_set];by_cases e:i=j
 ·subst e;simp
 rw[CB e];rw[Z1]at a;exact .inr ⟨j,a,λx=>e x.symm,bh ψ⟩
theorem ky[Inhabited α]{xs:List α}(y:α)(a:j<xs.length)(e:j≠i):nth xs j∈xs.set i y:=by
 have:nth (xs.set i y) j=nth xs j:=by grind [bt]
 grind [am]
theorem jj{xs:List α}(y:α)(a:i<xs.length):y∈xs.set i y:=by grind [List.mem_iff_getElem]
def Nr(k:Int)(a:i<sp.length):(sp.set i (kL (nth sp i) k)).map (·.R)=sp.map (·.R):=by
 rw[V7];refine List.ext_getElem (by simp) λj b c=>?_
 rw[List.getElem_set];split
 ·rename_i e;subst e
  rw[List.getElem_map];show(nth sp i).R=_;rw[bh (X2 a)]
 rfl
def ku.set(q:oT sp la)(k:i<sp.length)(l:eJ (nth sp i) a)(b c:Int):ku (sp.set i (kL (nth sp i) (cM (nth sp i) a))) b c↔ku sp b c/\b≠a:=by
 have g:=q.sok _ (am k);constructor
 ·rintro⟨s,o,d,h⟩
  rcases eA o with rfl|⟨j,n,r,rfl⟩
  ·have:=(BR g l b).1 d
   exact⟨⟨_,am k,this.1,h⟩,this.2⟩
  refine⟨⟨_,am n,d,h⟩,λe=>?_⟩;subst e;have:=cR (f:=(·.R)) q.nd k n (by have t:=l.1;have u:=l.2.1;have w:=d.1;have y:=d.2.1;omega);omega
 rintro⟨⟨s,o,d,h⟩,p⟩
 obtain⟨j,n,rfl⟩:=aN o;by_cases e:j=i
 ·subst e
  exact⟨_,jj _ k,(BR g l b).2 ⟨d,p⟩,h⟩
 exact⟨_,ky _ n e,d,h⟩
theorem aU.give(d:aU h (a::E))(t:i<h.J.length)(w:eJ (nth h.J i) a):aU {h with J:=h.J.set i (kL (nth h.J i) (cM (nth h.J i) a))} E:=by
 have B:=d.L;have G:=B.sok _ (am t);have O:=qr G ⟨w.1,w.2.1⟩;have f:=λb c=>ku.set B t w b c
 have H:=Nr (cM (nth h.J i) a) t;generalize J:h.J.set i (kL (nth h.J i) (cM (nth h.J i) a))=sp at f H;have p:pgs sp h.M=pgs h.J h.M:=by grind [pgs]
 have g:=d.nd;rw[List.cons_append]at g;obtain⟨P,g⟩:=List.nodup_cons.1 g;have y:∀b,b∈E++holders h->b≠a:=ψ
 have n:∀b,b∈holders h->b≠a:=ψ
 have Q:∀l∈h.M,16*l.R≠a:=λl R e=>(yk B R).1 _ (am t) (by have a1:=w.1;have a2:=w.2.1;omega)
 have q:∀s∈sp,∃u∈h.J,u.R=s.R/\(s=u\/s=kL u (cM (nth h.J i) a)):=λs r=>by
  rw[<-J]at r;rcases eA r with rfl|⟨j,hj,S,rfl⟩
  ·exact⟨_,am t,rfl,.inr rfl⟩
  grind [am]
 have T:∀u∈h.J,∃s∈sp,s.R=u.R:=λu C=>by
  have:u.R∈sp.map (·.R):=ψ
  grind
 exact {d with
   lay:=by grind [aU.lay,Kh,bp]
   srs:=by
     have A:(h.J.map (·.R)).Pairwise (λa b=>a<b):=List.pairwise_map.2 d.srs
     grind
   pg:=⟨d.pg.one,by rw[p];exact d.pg.bnd,by rw[p];exact d.pg.own,d.pg.fre,λs r u C y U=>by
     obtain⟨V,K,W,X⟩:=q s r;obtain⟨Y,M,Z,hu2⟩:=q u C;have A:=d.pg.mesh V K Y M ω (by rw[W,Z];exact U)
     grind [BF,oT.sok,iy]⟩
   oow:=λo ho=>by
     have N:o.Addr≠a:=n _ (by grind [holders]);rcases d.oow o ho with⟨s,r,A,h2⟩|A
     · obtain⟨u,C,g1,D⟩:=(f o.Addr (aL o.q)).2 ⟨⟨s,r,A,.inr h2⟩,N⟩
       refine .inl ⟨u,C,g1,?_⟩;rcases D with D|D
       · have:=aE (B.sok _ r);omega
       exact D
     exact .inr A
   hca:=λc hc k hk b F=>(f b k).2 ⟨d.hca c hc k hk b F,n b (by
     unfold holders cI;grind [List.mem_flatten,am])⟩
   hqu:=λx hx=>(f _ _).2 ⟨d.hqu x hx,n _ (by grind [holders])⟩
   hfl:=λb F=>(f _ _).2 ⟨d.hfl b F,n _ (by grind [holders])⟩
   hin:=λb F=>(f _ _).2 ⟨d.hin b ψ,y b ψ⟩
   nd:=g
   mem:=λb=>by
     show b∈E++holders h↔nt sp h.M b
     grind [aU.mem,nt]
   job:=λhm=>by grind [aU.job]}
def unmN(k:af)(p:Int):Nat->af
 | 0=>k
 | n+1=>cg (unmN k p n) (p+n)
def iM{k:af}(h:ay k=true)(p:Int):∀n,ay (unmN k p n)=true
 | 0=>h
 | n+1=>xK _ (iM h p n)
theorem fF(k:af)(p:Int):∀n,(unmN k p n).F.Q.K.length=k.F.Q.K.length/\(unmN k p n).Calls=k.Calls/\(unmN k p n).u=k.u
 | 0=>⟨rfl,rfl,rfl⟩
 | n+1=>by
  obtain⟨a,b,c⟩:=fF k p n;obtain⟨d,e,f⟩:=jT (unmN k p n) (p+n);exact⟨d.trans a,e.trans b,f.trans c⟩
theorem rQ(h:ay k=true)(g:0<=p/\p<k.F.Q.K.length)(q:Nat):nth (cg k p).F.Q.K q=if(q:Int)=p then⟨0,0⟩ else nth k.F.Q.K q:=by
 have c:ac k.F.Q p=nth k.F.Q.K p.toNat:=by grind [ac]
 unfold cg;split
 ·rename_i a
  split
  ·rename_i i
   rw[c]at a;have b:=(bo.1 (a7.1 h).2.2.1).1 p.toNat ω;unfold kV at b;rw[C0]at b;have d:=b.2.2.1 a;rw[show q=p.toNat by omega];generalize nth k.F.Q.K p.toNat=e at a d;obtain⟨m,f⟩:=e
   grind
  rfl
 grind [mZ,bt,lh]
theorem np{k:af}(h:ay k=true){p:Int}(a:0<=p):∀n:Nat,p+n<=k.F.Q.K.length->∀q:Nat,nth (unmN k p n).F.Q.K q=if p<=q/\(q:Int)<p+n then⟨0,0⟩ else nth k.F.Q.K q
 | 0,_,q=>by rw[CB ω];rfl
 | n+1,b,q=>by
  have c:=np h a n ω q;have d:=rQ (iM h p n) (p:=p+n) ⟨ω,by grind [fF]⟩ q;show nth (cg (unmN k p n) (p+n)).F.Q.K q=_
  grind
theorem Fh(f:α->List β){xs b:List α}(h:xs.Sublist b):(xs.flatMap f).Sublist (b.flatMap f):=by
 induction h with
 | slnil=>grind
 | cons a _ c=>grind
 | cons_cons a _ c=>grind
theorem xh(c:aU h E)(Y:1<=n)(w:sp.Sublist h.J)(D:la.Sublist h.M)(j:∀q:Int,p<=q->q<p+n->q∈pgs h.J h.M)(K:0<=p)(F:∀q,q∈pgs sp la↔q∈pgs h.J h.M/\¬(p<=q/\q<p+n)) :
  ∃o,cr (eZ h) h.w ⟨p,n⟩ = some o/\ay (unmN h.G p n)=true/\bG ((unmN h.G p n).F.Q.K.length:Nat) o=true/\bp sp la=true/\Pg (unmN h.G p n).F.Q o sp la:=by
 have t:=c.pg.bnd _ (j (p+n - 1) ω ω);have a:=(fF h.G p n).1;have y:p+n<=h.G.F.Q.K.length:=by unfold tbl at t;omega
 have g:=np c.ker K n y;obtain⟨o,Q,R,S⟩:=vz (r:=⟨p,n⟩) c.rng ⟨K,by simp only;omega,y⟩ λq M N=>by
  simp only at M N;obtain⟨m,rfl⟩:=V3 (show 0<=q by omega);have A:m<(tbl h).K.length:=by unfold tbl;omega
  exact(c.pg.fre m A).1 ((c.pg.own m A).2 (j _ M N))
 refine⟨o,Q,iM c.ker p n,by rw[a];exact R,?_,?_⟩
 ·obtain⟨T,U,V⟩:=eE c.lay
  unfold bp;simp only[I0,C0];exact⟨⟨Y4.2 λs d=>Y4.1 T s (w.subset d),Y4.2 λl d=>Y4.1 U l (D.subset d)⟩,V.sublist ((w.map _).append (Fh _ D))⟩
 have i:∀q:Nat,(q:Int)∈pgs sp la->nth (unmN h.G p n).F.Q.K q=nth (tbl h).K q:=λq f=>by rw[g,CB ((F q).1 f).2];rfl
 have b:∀q:Nat,(nth (unmN h.G p n).F.Q.K q).j≠0↔(nth (tbl h).K q).j≠0/\¬(p<=q/\(q:Int)<p+n):=λq=>by
  rw[g];by_cases e:p<=q/\(q:Int)<p+n
  ·rw[CD e];exact⟨λx=>absurd rfl x,λx=>absurd e x.2⟩
  rw[CB e];exact⟨λx=>⟨x,e⟩,λx=>x.1⟩
 refine⟨λl d q f r O G B=>?_,λq f=>?_,λq f=>?_,λq f=>?_,λs d u H J P=>?_⟩
 ·have C:=(b r).1 G
  rw[a]at O;rw[i q (gw d f),g,CB C.2]at B;exact c.pg.one l (D.subset d) q f r O C.1 B
 ·rw[a];exact c.pg.bnd q ((F q).1 f).1
 ·rw[a]at f
  rw[b,F,c.pg.own q f]
 ·rw[a]at f
  rw[b,S,c.pg.fre q f];simp only
  grind
 have k:∀s∈sp,0<=s.R:=λs d=>(aE (c.L.sok s (w.subset d))).1
 have W:=i s.R.toNat (by rw[Int.toNat_of_nonneg (k s d)];exact dH d);have X:=i u.R.toNat (by rw[Int.toNat_of_nonneg (k u H)];exact dH H);rw[W,X]at P;exact c.pg.mesh s (w.subset d) u (w.subset H) J P
theorem dv[Inhabited α]{xs:List α}{k:Nat}{z:α} : z∈dele xs k↔∃j,j<xs.length/\j≠k/\nth xs j=z:=by
 unfold dele;rw[W3];constructor
 ·rintro(h|h)
  ·obtain⟨j,a,rfl⟩:=List.mem_take_iff_getElem.1 h
   exact⟨j,ω,ω,bh ψ⟩
  obtain⟨j,a,rfl⟩:=List.mem_drop_iff_getElem.1 h;exact⟨k+1+j,ω,ω,bh ψ⟩
 rintro⟨j,a,b,rfl⟩
 rw[bh (X2 a)];by_cases e:j<k
 ·grind [List.mem_take_iff_getElem]
 refine .inr (List.mem_drop_iff_getElem.2 ⟨j - (k+1),ω,?_⟩)
 congr 1;omega
theorem qm{q:Int} : q∈pgs sp la↔(∃s∈sp,s.R=q)\/∃l∈la,q∈lpgs l l.a4.toNat:=by grind [pgs]
def wT(h:s.b2=0)(a:Int):¬eJ s a:=by
 rintro⟨-,-,-,b⟩
 rw[eS,h]at b;simp at b
theorem aU.giveSpan(d:aU h E)(C:i<h.J.length)(r:(nth h.J i).b2=0)(R:h.o=true->(nth h.J i).R≠h.Y.X.a2/\(nth h.J i).R≠h.Y.X.a0) :
  ∃o,cr (eZ h) h.w ⟨(nth h.J i).R,1⟩ = some o/\aU {h with G:=cg h.G (nth h.J i).R,J:=dele h.J i,w:=o} E:=by
 have D:=d.L;have y:=aE (D.sok _ (am C));have w:∀q,q∈pgs (dele h.J i) h.M↔q∈pgs h.J h.M/\¬((nth h.J i).R<=q/\q<(nth h.J i).R+(1:Nat)):=λq=>by
  rw[qm,qm];constructor
  ·rintro(⟨s,u,rfl⟩|⟨l,S,T⟩)
   ·obtain⟨j,a,A,rfl⟩:=dv.1 u
    refine⟨.inl ⟨_,am a,rfl⟩,λe=>A (cR (f:=(·.R)) D.nd a C ω)⟩
   grind [dC,oT.dis,am]
  grind [aN,dv]
 obtain⟨o,J,F,G,K,H⟩:=xh d (sp:=dele h.J i) (la:=h.M) (p:=(nth h.J i).R) (n:=1) (X3 _) (fh ..) ψ (λq U V=>by grind [dH,nth]) y.1 w;have M:unmN h.G (nth h.J i).R 1=cg h.G (nth h.J i).R:=by show cg h.G ((nth h.J i).R+((0:Nat):Int))=_;grind
 rw[M]at F G H;have g:∀b c,ku (dele h.J i) b c↔ku h.J b c:=λb c=>by
  constructor
  ·rintro⟨s,u,t⟩;exact⟨s,(fh ..).subset u,t⟩
  rintro⟨s,u,t,B⟩
  obtain⟨j,a,rfl⟩:=aN u;exact⟨_,dv.2 ⟨j,a,λe=>wT r b ψ,rfl⟩,t,B⟩
 refine⟨o,J,{d with
   ker:=F
   rng:=G
   lay:=K
   srs:=d.srs.sublist (fh ..)
   pg:=H
   oow:=λN O=>?_
   hca:=λc y k P b r=>(g b k).2 (d.hca c y k P b r)
   hqu:=λx Q=>(g _ _).2 (d.hqu x Q)
   hfl:=λb r=>(g _ _).2 (d.hfl b r)
   hin:=λb r=>(g _ _).2 (d.hin b r)
   mem:=λb=>(d.mem b).trans ?_
   job:=λW=>?_}⟩
 ·rcases d.oow N O with⟨s,u,t,B⟩|t
  ·obtain⟨j,a,rfl⟩:=aN u
   exact .inl ⟨_,dv.2 ⟨j,a,λe=>wT r _ (by rw[<-e];exact t),rfl⟩,t,B⟩
  exact .inr t
 all_goals grind [aU.job,aN,dv,nt]
theorem aU.dropL{k:Nat}(d:aU h E)(N:i<h.O.length)(w:k<h.M.length)(F:(nth h.O i).Addr=16*(nth h.M k).R) :
  ∃o,cr (eZ h) h.w ⟨(nth h.M k).R,(nth h.M k).a4⟩ = some o/\aU {h with G:=unmN h.G (nth h.M k).R (nth h.M k).a4.toNat,M:=dele h.M k,w:=o,O:=dele h.O i} E:=by
 have y:=d.L;have O:=aQ (y.lok _ (am w));have A:∀q,q∈pgs h.J (dele h.M k)↔q∈pgs h.J h.M/\¬((nth h.M k).R<=q/\q<(nth h.M k).R+((nth h.M k).a4.toNat:Nat)):=λq=>by
  rw[qm,qm];constructor
  ·rintro(⟨s,C,rfl⟩|⟨l,f,H⟩)
   ·refine⟨.inl ⟨s,C,rfl⟩,λe=>y.dis s C _ (am w) (s.R - (nth h.M k).R).toNat ω ω⟩
   obtain⟨j,c,g,rfl⟩:=dv.1 f;refine⟨.inr ⟨_,am c,H⟩,λe=>?_⟩;obtain⟨m,P,rfl⟩:=dC.1 H;exact g (y.one j k c w m ((nth h.M j).R+(m:Int) - (nth h.M k).R).toNat P ω ω)
  grind [aN,dv,dC]
 obtain⟨o,J,Q,R,S,T⟩:=xh d (sp:=h.J) (la:=dele h.M k) (p:=(nth h.M k).R) (n:=(nth h.M k).a4.toNat) ω ψ (fh ..) (λq Z q2=>gw (am w) (dC.2 ⟨(q - (nth h.M k).R).toNat,ω,ω⟩)) O.2.2.1 A;rw[Int.toNat_of_nonneg ω]at J;have U:(E++holders h).Perm ((nth h.O i).Addr::(E++holders {h with O:=dele h.O i})):=by
  have V:=(BA N).map (·.Addr);refine List.perm_iff_count.2 λa=>?_
  have r:=V.count_eq a
  grind [holders,cI]
 have t:=U.nodup_iff.1 d.nd;obtain⟨W,t⟩:=List.nodup_cons.1 t;have u:∀b,(b=(nth h.O i).Addr\/b∈E++holders {h with O:=dele h.O i})↔nt h.J h.M b:=λb=>by grind [aU.mem]
 have B:∀b,b∈E++holders {h with O:=dele h.O i}->b≠(nth h.O i).Addr:=ψ
 refine⟨o,J,{d with
   ker:=Q
   rng:=R
   lay:=S
   srl:=d.srl.sublist (fh ..)
   pg:=T
   osr:=d.osr.sublist (fh ..)
   onu:=λD G=>d.onu D ((fh ..).subset G)
   oid:=d.oid.sublist ((fh ..).map _)
   oow:=λD G=>?_
   nd:=t
   mem:=λb=>?_}⟩
 ·rcases d.oow D ((fh ..).subset G) with r|⟨l,f,K,X⟩
  ·exact .inl r
  obtain⟨j,c,rfl⟩:=aN f;refine .inr ⟨_,dv.2 ⟨j,c,λe=>?_,rfl⟩,K,X⟩;subst e;refine B D.Addr (W3.2 (.inr ?_)) (by rw[F];exact K);unfold holders;grind
 constructor
 ·intro M
  rcases(u b).1 (.inr M) with r|⟨l,f,rfl⟩
  ·exact .inl r
  obtain⟨j,c,rfl⟩:=aN f;exact .inr ⟨_,dv.2 ⟨j,c,λe=>B _ M (by rw[F,e]),rfl⟩,rfl⟩
 rintro(r|⟨l,f,rfl⟩)
 ·refine((u b).2 (.inl r)).resolve_left λe=>?_
  obtain⟨s,C,⟨Y,g2,-⟩,-⟩:=r;exact(yk y (am w)).1 s C ω
 obtain⟨j,c,g,rfl⟩:=dv.1 f;refine((u _).2 (.inr ⟨_,am c,rfl⟩)).resolve_left λe=>g ?_
 have Y:=aQ (y.lok _ (am c));rw[F]at e;exact y.one j k c w 0 0 ω ω ω
def fx(h:ab)(p:Int):Bool:=h.o&&(decide (p=h.Y.X.a2) || decide (p=h.Y.X.a0))
def giveP(h:ab)(i:Nat):ab:={h with G:=cg h.G (nth h.J i).R,J:=dele h.J i,w:=(cr (eZ h) h.w ⟨(nth h.J i).R,1⟩).getD h.w}
def clrS(h:ab)(i:Nat)(a:Int):ab:={h with J:=h.J.set i (kL (nth h.J i) (cM (nth h.J i) a))}
def freeS(h:ab)(i:Nat)(a:Int):ab:=if(kL (nth h.J i) (cM (nth h.J i) a)).b2=0/\fx h (nth h.J i).R=false then giveP (clrS h i a) i else clrS h i a
def uI(h:ab)(a:Int):Nat:=(gX h (a / 16)).toNat
def freeA(h:ab)(a:Int):ab:=freeS h (uI h a) a
def cput(c:aC)(k a:Int):Option aC:=if bz c=true/\0<=k/\k<=3/\bz (pS c k.toNat a)=true then some (pS c k.toNat a) else none
def recyc(t:Nat)(h:ab)(a:Int):ab:=match cput (nth h.S t) (nth h.J (uI h a)).e a with
 | some c=>{h with S:=h.S.set t c}
 | none=>freeA h a
theorem aU.at(e:aU h E)(c:ku h.J a (-1)):uI h a<h.J.length/\eJ (nth h.J (uI h a)) a/\gX h (a / 16)=(uI h a:Nat):=by
 obtain⟨s,d,b,-⟩:=c;obtain⟨i,f,rfl⟩:=aN d;have g:(nth h.J i).R=a / 16:=by have j:=b.1;have k:=b.2.1;omega
 grind [va,aU.L,uI]
theorem yQ(e:fx h p=false)(a:h.o=true):p≠h.Y.X.a2/\p≠h.Y.X.a0:=by grind [fx]
def aU.freeS{h:ab}{E:List Int}{a:Int}{i:Nat}(f:aU h (a::E))(b:i<h.J.length)(g:eJ (nth h.J i) a):aU (freeS h i a) E:=by
 have c:=f.give b g;unfold Ab.freeS;split
 ·rename_i e
  have d:nth (clrS h i a).J i=kL (nth h.J i) (cM (nth h.J i) a):=by unfold clrS;simp only[bt,true_and];rw[CD b]
  obtain⟨o,j,k⟩:=aU.giveSpan (h:=clrS h i a) c (i:=i) (by unfold clrS;simp only[Z1];exact b) (by rw[d];exact e.1) (λl=>by rw[d];exact yQ e.2 l);unfold giveP;rw[j];exact k
 exact c
theorem aU.freeA{h:ab}{E:List Int}{a:Int}(b:aU h (a::E)):aU (freeA h a) E:=by
 obtain⟨c,d,-⟩:=b.at (b.hin a ψ);exact b.freeS c d
theorem mw(h:bz c=true):c.a.length=4:=by grind [bz]
theorem aU.recyc{h:ab}{E:List Int}{a:Int}{t:Nat}(b:aU h (a::E))(f:t<h.S.length):aU (recyc t h a) E:=by
 obtain⟨g,i,-⟩:=b.at (b.hin a ψ);unfold Ab.recyc;split
 ·rename_i c d
  unfold cput at d;split at d
  ·rename_i e
   cases d;obtain⟨j,l,n,k⟩:=e;exact b.put f (by rw[mw j];omega) ⟨_,am g,i,.inr ω⟩ k
  cases d
 exact b.freeA
def yu(h:ab)(i:Nat)(a:Int):(freeS h i a).S=h.S/\(freeS h i a).O=h.O/\(freeS h i a).G.Calls=h.G.Calls/\(freeS h i a).y=h.y/\(freeS h i a).Y=h.Y/\(freeS h i a).b3=h.b3/\(freeS h i a).a9=h.a9/\(freeS h i a).G.u=h.G.u:=by
 unfold freeS;split
 ·obtain⟨-,b,c⟩:=jT (clrS h i a).G (nth (clrS h i a).J i).R
  exact⟨rfl,rfl,b,rfl,rfl,rfl,rfl,c⟩
 exact⟨rfl,rfl,rfl,rfl,rfl,rfl,rfl,rfl⟩
theorem nG(t:Nat)(h:ab)(a:Int):(recyc t h a).S.length=h.S.length/\(recyc t h a).O=h.O/\(recyc t h a).G.Calls=h.G.Calls/\(recyc t h a).y=h.y/\(recyc t h a).Y=h.Y/\(recyc t h a).b3=h.b3/\(recyc t h a).a9=h.a9/\(recyc t h a).G.u=h.G.u:=by
 unfold recyc;split
 ·grind
 obtain⟨b,c⟩:=yu h (uI h a) a;exact⟨Z0 _ b,c⟩
def recycs(t:Nat)(h:ab)(az:List Int):ab:=az.foldl (recyc t) h
theorem ia(t:Nat):∀(az:List Int)(h:ab),(recycs t h az).S.length=h.S.length/\(recycs t h az).O=h.O/\(recycs t h az).G.Calls=h.G.Calls/\(recycs t h az).y=h.y/\(recycs t h az).Y=h.Y/\(recycs t h az).b3=h.b3/\(recycs t h az).a9=h.a9/\(recycs t h az).G.u=h.G.u
 | [],h=>⟨rfl,rfl,rfl,rfl,rfl,rfl,rfl,rfl⟩
 | a::az,h=>by
  obtain⟨b,c,d,e,f,g,i,j⟩:=ia t az (recyc t h a);obtain⟨k,l,n,o,p,q,r,u⟩:=nG t h a;exact⟨b.trans k,c.trans l,d.trans n,e.trans o,f.trans p,g.trans q,i.trans r,j.trans u⟩
theorem aU.recycs{t:Nat}{E:List Int} : ∀{az:List Int}{h:ab},aU h (az++E)->t<h.S.length->aU (recycs t h az) E
 | [],h,b,_=>b
 | a::az,h,b,c=>aU.recycs (az:=az) (h:=Ab.recyc t h a) (b.recyc c) (by grind [nG])
def qc(l:List aR):Int:=quarCells l l.length
def oW(room:Int):List aR->Nat
 | []=>0
 | x::xs=>if room<qc (x::xs) then oW room xs+1 else 0
def LJ(q:bO)(x:aR):bO:=⟨q.c0,(q.a6++[x]).drop (oW q.c0 (q.a6++[x]))⟩
def Aj(q:bO)(x:aR):List aR:=(q.a6++[x]).take (oW q.c0 (q.a6++[x]))
def Hc(room:Int):∀l,oW room l<=l.length
 | []=>X3 _
 | x::xs=>by unfold oW;split;(have:=Hc room xs;simp only[List.length_cons];omega);omega
theorem Ey{room:Int}(a:0<=room):∀l:List aR,qc (l.drop (oW room l))<=room
 | []=>a
 | x::xs=>by
  unfold oW;split
  ·exact Ey a xs
  grind
theorem BJ{room:Int} : ∀{l:List aR}{k:Nat},k<oW room l->room<qc (l.drop k)
 | [],k,h=>by cases h
 | x::xs,0,h=>by grind [oW]
 | x::xs,k+1,h=>by
  unfold oW at h;split at h
  ·exact BJ (l:=xs) ω
  omega
theorem k6{q:bO} : gK q=true↔(∀x∈q.a6,0<=x.e/\x.e<=3/\0<=x.Addr/\0<=x.b7)/\(q.a6.Pairwise λa b=>a.b7<=b.b7)/\(q.a6.map (·.Addr)).Nodup/\0<=q.c0/\q.c0<=500/\qc q.a6<=q.c0:=by
 refine Iff.trans ?_ (and_congr Iff.rfl (and_congr (wN (λa b:Int=>a<=b) ω (λs:aR=>s.b7) q.a6) (and_congr (Bz (λs:aR=>s.Addr) q.a6) Iff.rfl)));unfold gK qc
 grind [cA,List.any_eq_false,aN,am,ly,fj]
theorem R2{q:bO}{x:aR}(h:gK q=true)(e:0<=x.e/\x.e<=3/\0<=x.Addr/\0<=x.b7)(f:∀y∈q.a6,y.b7<=x.b7)(g:∀y∈q.a6,y.Addr≠x.Addr):gK (LJ q x)=true:=by
 obtain⟨i,j,k,c,d,l⟩:=k6.1 h;have a:(LJ q x).a6.Sublist (q.a6++[x]):=List.drop_sublist ..;refine k6.2 ⟨λy b=>?_,List.Pairwise.sublist a ?_,List.Nodup.sublist (a.map _) ?_,c,d,Ey c _⟩
 ·rcases W3.1 (a.subset b) with b|b
  all_goals grind
 ·grind
 grind
def lF(r:List Int)(o:Nat):Nat->List Int
 | 0=>r
 | n+1=>(lF r o n).set (o+n) 0
def cY(k:af)(a:Int):Nat:=(ac k.F.Q (a / 16)).d.toNat
def fH(k:af)(a:Int)(n:Nat):af:={k with F:=⟨⟨k.F.U.T.set (cY k a) (lF (nth k.F.U.T (cY k a)) (a % 16).toNat n),k.F.U.a3⟩,k.F.Q⟩}
theorem nu(r:List Int)(o:Nat):∀n,(lF r o n).length=r.length
 | 0=>rfl
 | n+1=>by unfold lF;rw[Z1,nu r o n]
def B7{r:List Int}{o:Nat} : ∀{n:Nat}{v:Int},v∈lF r o n->v∈r\/v=0
 | 0,v,h=>.inl h
 | n+1,v,h=>by
  rcases Y7 h with h|h
  ·exact B7 h
  exact .inr h
theorem Hb(h:ay k=true)(a:Int)(n:Nat):ay (fH k a n)=true:=by
 obtain⟨g,i,l,o,p⟩:=a7.1 h;obtain⟨q,r,t,c⟩:=aO.1 i;refine a7.2 ⟨g,aO.2 ⟨?_,?_,?_,λj b=>?_⟩,l,o,p⟩
 ·grind [fH]
 ·grind [fH]
 ·grind [fH]
 simp only[fH,Z1]at b |-;simp only[bt];split
 ·rename_i e
  have d:=c j b;unfold gT at d |-;simp only[I0,C0,Y4]at d |-;rw[e.1]at *;refine⟨by grind [nu],λv f=>?_⟩;rcases B7 f with f|rfl
  all_goals grind [iZ]
 exact c j b
def Au(h:ab)(a:Int):Nat:=(h.M.findIdx? λl=>decide (l.R*16=a)).getD 0
def freeL(h:ab)(i k:Nat):ab:={h with G:=unmN h.G (nth h.M k).R (nth h.M k).a4.toNat,M:=dele h.M k,w:=(cr (eZ h) h.w ⟨(nth h.M k).R,(nth h.M k).a4⟩).getD h.w,O:=dele h.O i}
def lU(h:ab)(o:bu):aR:=⟨o.Addr,aL o.q,h.b3⟩
def inQuar(h:ab)(i:Nat):ab:={h with G:=fH h.G (nth h.O i).Addr (csz (aL (nth h.O i).q)).toNat,O:=dele h.O i,a9:=LJ h.a9 (lU h (nth h.O i))}
def Gm(h:ab)(t i:Nat):ab:=recycs t (inQuar h i) ((Aj h.a9 (lU h (nth h.O i))).map (·.Addr))
def freeOb(h:ab)(t i:Nat):ab × Int:=
 if aL (nth h.O i).q<0 then(freeL h i (Au h (nth h.O i).Addr),0)
 else if(ac (tbl h) ((nth h.O i).Addr / 16)).j=1 then(h,5)
 else(Gm h t i,0)
theorem wK(n:l∈h.M)(e:a=16*l.R):Au h a<h.M.length/\a=16*(nth h.M (Au h a)).R/\(∀j,j<Au h a->(nth h.M j).R*16≠a)/\h.M.findIdx? (λl=>decide (l.R*16=a))=some (Au h a):=by
 cases c:h.M.findIdx? λl=>decide (l.R*16=a) with
 | none=>
  grind
 | some k=>
  obtain⟨b,d,f⟩:=S8.1 c;have g:Au h a=k:=by grind [Au]
  rw[g];rw[<-bh (X2 b),C0]at d;refine⟨b,ω,λj i=>?_,rfl⟩;have:=f j i;rw[<-bh (X2 (show j<h.M.length by omega))]at this;simpa using this
theorem ef(a:aU h E)(f:o∈h.O):(aL o.q<0->UZ h.M o.Addr o.q)/\(¬aL o.q<0->(∃s∈h.J,eJ s o.Addr/\s.e=aL o.q)/\aL o.q<=3):=by
 rcases a.oow o f with⟨s,g,b,c⟩|⟨l,d,b,c⟩
 ·have i:=aE (a.L.sok s g)
  grind
 have j:=cX (a.L.lok l d);refine⟨λ_=>⟨l,d,b,c⟩,λe=>absurd ?_ e⟩
 grind [aL]
theorem aU.inQuar{h:ab}{i:Nat}(a:aU h [])(g:i<h.O.length)(r:¬aL (nth h.O i).q<0):aU (inQuar h i) ((Aj h.a9 (lU h (nth h.O i))).map (·.Addr)):=by
 obtain⟨⟨s,j,l,t⟩,u⟩:=(ef a (am g)).2 r;have b:ku h.J (nth h.O i).Addr (aL (nth h.O i).q):=⟨s,j,l,.inr t⟩
 have c:=a.nums;unfold cu at c;rw[C0]at c;have w:=aE (a.L.sok s j);have n:=a.dropO g b.any;have A:=n.cells (k:=fH h.G (nth h.O i).Addr (csz (aL (nth h.O i).q)).toNat) (Hb a.ker _ _) rfl;have d:∀y∈h.a9.a6,y.Addr≠(nth h.O i).Addr:=λy o e=>by
  have f:=n.nd;rw[List.cons_append,List.nil_append]at f
  grind [holders]
 have p:=aU.toQuar (x:=lU h (nth h.O i)) (q:=LJ h.a9 (lU h (nth h.O i))) (out:=Aj h.a9 (lU h (nth h.O i))) A (R2 a.quar ⟨by show 0<=aL _;omega,u,by show 0<=(nth h.O i).Addr;have:=l.1;omega,c.2.2.1⟩ (λy o=>a.snc y o) d) (by grind [List.take_append_drop,Aj,LJ]) (I6 _) b;rw[List.append_nil]at p;exact p
theorem aU.freeOb{h:ab}{t i:Nat}(a:aU h [])(c:i<h.O.length)(e:t<h.S.length):aU (freeOb h t i).1 []:=by
 unfold Ab.freeOb;split
 ·rename_i b
  obtain⟨l,f,d,-⟩:=(ef a (am c)).1 b;obtain⟨g,j,-⟩:=wK f d
  grind [aU.dropL,freeL]
 rename_i b;split
 ·exact a
 have d:=a.inQuar c b;refine aU.recycs (E:=[]) ?_ e
 grind
theorem Ky:∀{H L:List Int},H.Nodup->(∀x∈H,x∈L)->H.length<=L.length
 | [],L,_,_=>X0 _
 | y::H,L,b,c=>by
  have d:y∈L:=ψ
  have a:=List.nodup_cons.1 b;have:=Ky (L:=L.erase y) a.2 ψ
  grind
theorem xM{H:List Int}(a:H.Nodup)(b:∀x∈H,0<=x/\x<n):H.length<=n:=by
 have:=Ky (L:=(List.range n).map λ(i:Nat)=>(i:Int)) a λx c=>O5.2 ⟨x.toNat,List.mem_range.2 ψ,ψ⟩
 simpa using this
theorem dt{f:α->Int}{xs:List α}(h:xs.Pairwise λa b=>f a<f b):(xs.map f).Nodup:=ψ
theorem NY:∀(b:List (List Int))(k:Nat)(s:List Int),(im k s b).isSome=true->∀l∈b,l.length<=8
 | [],_,_,_,l,a=>by cases a
 | x::b,k,s,h,l,a=>by
  simp only[im]at h;cases e:fL k s x with
  | none=>grind
  | some c=>
   rw[e]at h;rcases List.mem_cons.1 a with rfl|a
   ·grind [fL]
   exact NY b (k+1) c h l a
theorem eQ(h:bz c=true):c.a.length=4/\∀l∈c.a,l.length<=8:=by grind [NY,bz]
structure oX(h:ab):Prop where
 cells:h.G.F.U.T.length<=32
 row:∀r∈h.G.F.U.T,r.length=16
 used:h.G.F.U.a3.length<=32
 ents:h.G.F.Q.K.length<=32
 ref:h.G.u.length<=40
 free:h.w.length<=32
 spans:h.J.length<=32
 larges:h.M.length<=32
 objs:h.O.length<=512
 caches:h.S.length<=4
 lists:∀c∈h.S,c.a.length=4/\∀l∈c.a,l.length<=8
 quar:h.a9.a6.length<=512
def ku.bd(b:aU h E){c:Int}(d:ku h.J a c):0<=a/\a<512:=by
 obtain⟨s,e,⟨f,g,-⟩,-⟩:=d;have i:=aE (b.L.sok s e);omega
theorem aU.lens(a:aU h E):oX h:=by
 obtain⟨G,k,p,J,K,M,q⟩:=a7.1 a.ker;obtain⟨N,t,O,P⟩:=aO.1 k;obtain⟨Q,R,u⟩:=bo.1 p;obtain⟨w,S,T⟩:=gr.1 a.rng;obtain⟨U,V,A,W⟩:=k6.1 a.quar;have g:=a.mail;unfold bQ at g;simp only[I0,C0]at g;have B:=a.nc;refine⟨t,λr i=>?_,ω,u,q,?_,?_,?_,?_,ω,λc C=>eQ (a.cach c C),?_⟩
 ·obtain⟨j,X,rfl⟩:=aN i
  grind [gT]
 ·have:=xM (H:=h.w.map (·.At)) (n:=32) (dt (w.1.imp_of_mem ψ)) λx b=>by
   obtain⟨r,i,rfl⟩:=O5.1 b
   grind
  simpa using this
 ·have:=xM (H:=h.J.map (·.R)) (n:=32) a.L.nd λx b=>by
   obtain⟨s,d,rfl⟩:=O5.1 b;have:=aE (a.L.sok s d);omega
  simpa using this
 ·have:=xM (H:=h.M.map (·.R)) (n:=32) (dt a.srl) λx b=>by
   obtain⟨l,f,rfl⟩:=O5.1 b;have:=aQ (a.L.lok l f);omega
  simpa using this
 ·have:=xM (H:=h.O.map (·.Addr)) (n:=512) (dt a.osr) λx b=>by
   obtain⟨o,D,rfl⟩:=O5.1 b;rcases a.oow o D with⟨s,d,⟨Y,Z,-⟩,-⟩|⟨l,f,e,-⟩
   ·have:=aE (a.L.sok s d);omega
   have:=aQ (a.L.lok l f);omega
  simpa using this
 have:=xM (H:=h.a9.a6.map (·.Addr)) (n:=512) A λx b=>by
  obtain⟨y,F,rfl⟩:=O5.1 b;exact(a.hqu y F).bd a
 simpa using this
theorem oX.sml(a:oX h)(b:ay h.G=true)(d:aJ.sml h.y)(e:co.sml h.Y):ab.sml h:=
 ⟨bj b,⟨by grind [oX.free],λ_ _=>trivial⟩,⟨by grind [oX.spans],λ_ _=>trivial⟩,⟨by grind [oX.larges],λ_ _=>trivial⟩,⟨by grind [oX.objs],λ_ _=>trivial⟩,⟨by grind [oX.caches],λc f=>⟨by grind [oX.lists],λl g=>by have:=(a.lists c f).2 l g;show l.length<=1048576;omega⟩⟩,d,⟨by grind [oX.quar],λ_ _=>trivial⟩,e⟩
def mN(a:Int)(o:bu):Bool:=decide (o.Addr=a)
def qL(h:ab)(a:Int):Nat:=(ee (mN a) h.O).toNat
theorem aU.objAt(g:aU h E)(k:o∈h.O):qL h o.Addr<h.O.length/\nth h.O (qL h o.Addr)=o/\ee (mN o.Addr) h.O=(qL h o.Addr:Nat):=by
 obtain⟨i,c,rfl⟩:=aN k;have l:ee (mN (nth h.O i).Addr) h.O=(i:Nat):=dS (ao c) (by unfold mN;simp) λj z n d=>by
  have a:=bh d;have b:=(Z2.1 d).1;subst a;unfold mN;refine W0 λe=>?_
  have:=cR (f:=(·.Addr)) (dt g.osr) b c e;omega
 grind [qL]
theorem qq(k:af)(p:Int)(n:Nat):(unmN k p n).Calls=k.Calls/\(unmN k p n).u=k.u:=(fF k p n).2
def P3(y:a8)(a:List a8):dy [] (y::a)=dy [y] a:=by rw[dy];rfl
theorem G6[Inhabited α]{xs:List α}(h:xs≠[]):xs.getLast? = some (nth xs (xs.length - 1)):=by grind [List.length_pos_iff,ao]
theorem Nv{xs:List α}(h:xs≠[])(v:α):xs.dropLast++[v]=xs.set (xs.length - 1) v:=by
 have a:0<xs.length:=ψ
 refine List.ext_getElem (by simp;omega) λi b c=>?_
 grind
theorem Qb{a:List a8}(h:out≠[])(e:(nth out (out.length - 1)).At+(nth out (out.length - 1)).b0=y.At):dy out (y::a)=dy (out.set (out.length - 1) ⟨(nth out (out.length - 1)).At,(nth out (out.length - 1)).b0+y.b0⟩) a:=by grind [G6,Nv,dy]
theorem RD{a:List a8}(h:out≠[])(e:¬(nth out (out.length - 1)).At+(nth out (out.length - 1)).b0=y.At):dy out (y::a)=dy (out++[y]) a:=by grind [G6,dy]
theorem tC(xs:List a8)(w:xs.length<=4194304)(n:∀y∈xs,0<=y.At/\1<=y.b0/\y.At+y.b0<=1048576):zzA 573 false [.val none (bF .W xs)] .one (bF .own (dy [] xs)):=by
 refine fO 63 [(6,21,[15,16,17,18,19,20,21,22,23,24,25,26,27,28,29,30,31,32,33,34,35]),(7,15,[38,39,40,41,42,43,44,45,46,47,48,49,50,51,52])] Tryz.func573 rfl ?_ (.inr (my _))
 repeat'(first|refine gP ?_|fail)
 (conv=>whnf)
 refine CG (ι:=Nat × List a8) (λq=>[(0,.H .one (bF .W xs)),(3,.H .one (bF .own q.2)),(4,.H .one [I ((q.1:Nat):Int)])]) (λq=>q.1<=xs.length/\dy q.2 (xs.drop q.1)=dy [] xs/\q.2.length<=q.1/\∀y∈q.2,0<=y.At/\1<=y.b0/\y.At+y.b0<=1048576) (λq=>xs.length - q.1) ((0,[])) ?_ ψ λq o=>?_
 ·exact wB
 obtain⟨i,out⟩:=q;obtain⟨p,a,g,b⟩:=o;simp only at p a g b |-;by_cases h:i<xs.length
 ·have j:=ao h
  have B:=n _ (am h);rw[iD h]at a;by_cases k:out=[]
  ·subst k
   rw[P3]at a;have D:([]:List a8).length=0:=rfl
   repeat'(first|refine gE ?_|(conv=>whnf);first|with_reducible refine CE (aa j) ?_|refine Ln.mk (show List.length _=0 from rfl) ?_|refine Ap.sm (λr t=>by cases t) rfl (by simp) (by decide) rfl ?_)
   ((conv=>whnf)
    refine CF (i+1,[nth xs i]) ψ (by simp only;omega) ?_
    (repeat'(first|exact trivial|rfl|exact CM rfl (CM (Z0 (C.s dM.own) (by simp[a8.enc])) trivial)|refine CM ?_ ?_)))
  have l:0<out.length:=ψ
  have d:out[((out.length:Int) - 1).toNat]? = some (nth out (out.length - 1)):=by
   rw[show((out.length:Int) - 1).toNat=out.length - 1 by omega];grind [ao]
  have u:=b _ (am (xs:=out) (i:=out.length - 1) ω);by_cases e:(nth out (out.length - 1)).At+(nth out (out.length - 1)).b0=(nth xs i).At
  ·rw[Qb k e]at a
   repeat'(first|refine gB ?_|(conv=>whnf);first|with_reducible refine CE (aa j) ?_|refine CN ω (aa d) ?_|refine CK rfl (aa d) rfl ?_|refine CQ rfl rfl (aa d) rfl (O1 rfl) rfl ?_)
   ((conv=>whnf)
    refine CF (i+1,out.set (out.length - 1) ⟨(nth out (out.length - 1)).At,(nth out (out.length - 1)).b0+(nth xs i).b0⟩) ⟨(by simp only;omega),a,ψ,(λy c=>?_)⟩ (by simp only;omega) ?_)
   ·rcases Y7 c with c|rfl
    ·exact b y c
    simp only;omega
   (repeat'(first|exact trivial|rfl|exact CM rfl (CM (Z0 (C.s dM.own) (by rw[show((out.length:Int) - 1).toNat=out.length - 1 by omega,V7];rfl)) trivial)|refine CM ?_ ?_))
  rw[RD k e]at a
  repeat'(first|refine gB ?_|(conv=>whnf);first|with_reducible refine CE (aa j) ?_|refine CN ω (aa d) ?_|refine CK rfl (aa d) rfl ?_|refine Ap.sm (aM λ_=>rfl) rfl (by simp;omega) (by decide) rfl ?_)
  ((conv=>whnf)
   refine CF (i+1,out++[nth xs i]) ⟨(by simp only;omega),a,(by simp;omega),(λy c=>?_)⟩ (by simp only;omega) ?_)
  ·rcases W3.1 c with c|c
   all_goals simp_all
  (repeat'(first|exact trivial|rfl|exact CM rfl (CM (Z0 (C.s dM.own) (by simp[a8.enc])) trivial)|refine CM ?_ ?_))
 obtain rfl:i=xs.length:=ω
 rw[List.drop_length]at a
 repeat'(first|refine gE ?_|fail)
 rw[<-a];rfl
def Bc(r y:a8)(a:List a8)(put:Bool):nl r (y::a) put=if ovl y r then none else if !put&&decide (y.At > r.At) then(nl r a true).map λt=>r::y::t else(nl r a put).map λt=>y::t:=by rw[nl]
theorem mT(pages:Int)(xs:List a8)(r:a8)(G:0<=pages/\pages<=1048576)(H:gY xs):zzA 519 false [.val none [I pages],.val none (bF .W xs),.val (some 2) (a8.enc .W r)] (.tup [none,none]) (EQ xs (cr pages xs r)):=by
 have o:=H.1;have j:=mI pages xs G H;have p:=yf pages r G;cases k:bG pages xs<;>rw[k]at j
 ·rw[show cr pages xs r=none by unfold cr;rw[CB (by rw[k];simp)]]
  refine fO 82 [] Tryz.func519 rfl ?_ (.inr (lz _ _))
  repeat'(first|refine gP ?_|(conv=>whnf);first|refine C9 (j) ?_|refine CR (λ_=>rfl) (λ_=>rfl) o (by decide) ?_)
  rfl
 cases u:rangeIn pages r<;>rw[u]at p
 ·rw[show cr pages xs r=none by unfold cr;rw[CB (by rw[u];simp)]]
  refine fO 82 [] Tryz.func519 rfl ?_ (.inr (lz _ _))
  repeat'(first|refine gP ?_|(conv=>whnf);first|refine C9 (j) ?_|refine C9 (p) ?_|refine CR (λ_=>rfl) (λ_=>rfl) o (by decide) ?_)
  rfl
 obtain⟨J,K⟩:=wI k;have l:0<=r.At/\1<=r.b0/\r.At+r.b0<=pages:=by grind [rangeIn]
 rw[show cr pages xs r=(nl r xs false).map (dy []) by unfold cr;rw[CD ⟨k,u⟩,BC (pages:=pages) J l.2.1 ψ]];refine fO 82 [] Tryz.func519 rfl ?_ (.inr (lz _ _))
 repeat'(first|refine gP ?_|(conv=>whnf);first|refine C9 (j) ?_|refine C9 (p) ?_|refine CR (λ_=>rfl) (λ_=>rfl) o (by decide) ?_)
 (conv=>whnf)
 refine CG (ι:=Nat × List a8 × Bool) (λq=>[(1,.H .one (bF .W xs)),(5,.H .box (a8.enc .W r)),(8,.H .one (bF .own xs)),(9,.H .one (bF .own q.2.1)),(10,.H .one [B (q.2.2)]),(11,.H .one [I ((q.1:Nat):Int)])]) (λq=>q.1<=xs.length/\(nl r (xs.drop q.1) q.2.2).map (q.2.1++·)=nl r xs false/\q.2.1.length<=q.1+q.2.2.toNat/\(∀y∈q.2.1,0<=y.At/\1<=y.b0/\y.At+y.b0<=1048576)) (λq=>xs.length - q.1) ((0,[],false)) ?_ (⟨X0 _,by simp,by simp,by simp⟩) λq d=>?_
 ·exact wB
 obtain⟨i,out,put⟩:=q;obtain⟨L,b,c,e⟩:=d;simp only at L b c e |-;have M:0<=r.At/\1<=r.b0/\r.At+r.b0<=1048576:=ω
 by_cases w:i<xs.length
 ·have n:=ao w
  have N:=K _ (am w);have E:0<=(nth xs i).At/\1<=(nth xs i).b0/\(nth xs i).At+(nth xs i).b0<=1048576:=ω
  rw[iD w]at b;by_cases h:ovl (nth xs i) r=true
  ·rw[<-b]
   rw[Bc,CD h];unfold ovl at h;rw[C0]at h
   repeat'(first|refine gE ?_|(conv=>whnf);first|with_reducible (first|refine CE (aa n) ?_|refine Bf.D (λd=>?_) (λd=>?_)))
   rfl
  rw[Bc,CB h]at b;unfold ovl at h;rw[C0]at h;cases put with
  | false=>
   have c:out.length<=i:=by simpa using c
   by_cases O:(nth xs i).At > r.At
   ·rw[CD (by simp;omega),Option.map_map]at b
    repeat'(first|refine gE ?_|(conv=>whnf);first|with_reducible (first|refine CE (aa n) ?_|refine Bf.D (λd=>?_) (λd=>?_))|refine Ap.sm (aM λ_=>rfl) rfl (by simp;omega) (by decide) rfl ?_|refine Ap.sm (λr l=>by simp at l;rcases l with⟨a,_,rfl⟩|rfl<;>rfl) rfl (by simp;omega) (by decide) rfl ?_)
    ((conv=>whnf)
     refine CF (i+1,out++[r,nth xs i],true) ⟨(by simp only;omega),(by rw[<-b];congr 1;funext t;simp),(by simp;omega),(λy g=>?_)⟩ (by simp only;omega) ?_)
    ·grind
    (repeat'(first|exact trivial|rfl|exact CM rfl (CM (Z0 (C.s dM.own) (by simp[a8.enc])) trivial)|refine CM ?_ ?_))
   rw[CB (by simp;omega),Option.map_map]at b
   repeat'(first|refine gE ?_|(conv=>whnf);first|with_reducible (first|refine CE (aa n) ?_|refine Bf.D (λd=>?_) (λd=>?_))|refine Ap.sm (aM λ_=>rfl) rfl (by simp;omega) (by decide) rfl ?_)
   ((conv=>whnf)
    refine CF (i+1,out++[nth xs i],false) ⟨(by simp only;omega),(by rw[<-b];congr 1;funext t;simp),(by simp;omega),(λy g=>?_)⟩ (by simp only;omega) ?_)
   ·grind
   (repeat'(first|exact trivial|rfl|exact CM rfl (CM (Z0 (C.s dM.own) (by simp[a8.enc])) trivial)|refine CM ?_ ?_))
  | true=>
   have c:out.length<=i+1:=c;rw[CB (by simp),Option.map_map]at b;by_cases P:(nth xs i).At<r.At+r.b0
   all_goals
    repeat'(first|refine gE ?_|(conv=>whnf);first|with_reducible (first|refine CE (aa n) ?_|refine Bf.D (λd=>?_) (λd=>?_))|refine Ap.sm (aM λ_=>rfl) rfl (by simp;omega) (by decide) rfl ?_)
    ((conv=>whnf)
     refine CF (i+1,out++[nth xs i],true) ⟨(by simp only;omega),(by rw[<-b];congr 1;funext t;simp),(by simp;omega),(λy g=>?_)⟩ (by simp only;omega) ?_)
    ·rcases W3.1 g with g|g
     ·exact e y g
     rw[V1.1 g];exact E
    (repeat'(first|exact trivial|rfl|exact CM rfl (CM (Z0 (C.s dM.own) (by simp[a8.enc])) trivial)|refine CM ?_ ?_))
 obtain rfl:i=xs.length:=ω
 rw[List.drop_length]at b;cases put with
 | false=>
  have c:out.length<=xs.length:=by simpa using c
  rw[<-b];have F:=tC (out++[r]) (by simp;omega) ψ
  repeat'(first|refine gE ?_|(conv=>whnf);first|refine Ap.sm (aM λ_=>rfl) rfl (by simp;omega) (by decide) (show(out++[r]).map (a8.enc .own)=_ by simp[a8.enc]) ?_|refine CH (F) ⟨⟨rfl,eD _⟩,trivial⟩ ?_)
  rfl
 | true=>
  have c:out.length<=xs.length+1:=c;rw[<-b];have F:=tC out ω e
  repeat'(first|refine gE ?_|(conv=>whnf);first|refine CH (F) ⟨⟨rfl,eD _⟩,trivial⟩ ?_)
  simp[nl,EQ]
  rfl
theorem shl64{i:Int}(a:0<=i/\i<=15):IntKind.i64.wrap (1*2 ^ min i.toNat IntKind.i64.bits)=2 ^ i.toNat/\0<=(2:Int) ^ i.toNat/\(2:Int) ^ i.toNat<=32768:=by
 have b:min i.toNat IntKind.i64.bits=i.toNat:=Nat.min_eq_left (show i.toNat<=64 by omega);have c:(0:Int)<=2 ^ i.toNat/\(2:Int) ^ i.toNat<=32768:=by
  have:(2:Nat) ^ i.toNat<=2 ^ 15:=Nat.pow_le_pow_right (by decide) ω
  grind
 grind [eX]
theorem clr64{i:Int}(a:0<=b/\b<=65535):IntKind.i64.wrap ((BitVec.ofInt IntKind.i64.bits b &&& ~~~BitVec.ofInt IntKind.i64.bits (2 ^ i.toNat)).toNat:Nat)=xw b i:=by
 have:=Dn (i:=i) a
 grind [eX,xw]
theorem uy(b i:Int)(c:0<=b/\b<=65535)(d:0<=i/\i<=15):zzA 574 false [.val none [I b],.val none [I i]] .one [I (xw b i)]:=by
 have a:=qj b i;rw[O0 ω]at a;have e:IntKind.u64.wrap i=i:=by grind [Go.IntKind.wrap,Go.IntKind.bits]
 refine fO 15 [] Tryz.func574 rfl ?_
 repeat'(first|refine gP ?_|(conv=>whnf);first|refine CC ?_|refine C9 (a) ?_|refine CP ω ?_|refine CO e ?_|refine CO (shl64 d).1 ?_|refine CO (clr64 c) ?_)
 rfl
def ur(b i:Int)(c:0<=b/\b<=65535)(d:0<=i/\i<=15):zzA 491 false [.val none [I b],.val none [I i]] .one [I (xw b i)]:=by
 have a:=vh b i;rw[O0 ω]at a;refine fO 14 [] Tryz.func491 rfl ?_
 repeat'(first|refine gP ?_|(conv=>whnf);first|refine CC ?_|refine C9 (a) ?_|refine CP ω ?_|refine CO (shl64 d).1 ?_|refine CO (clr64 c) ?_)
 rfl
theorem K8{k:Int}(a:aX s.b2 k=true):0<=k/\k<=15:=by grind [eS]
def A9(s:au)(k:Int)(a:bf s=true)(b:aX s.b2 k=true):zzA 523 false [.val (some 3) (au.enc .W s),.val none [I k]] (.tup [some 3,none]) (au.enc .own (kL s k)++[B true]):=by
 have e:=eK a;have g:=K8 b;have c:=ic s;have d:=j9 s.b2 k ω;rw[a]at c;rw[b]at d;refine fO 23 [] Tryz.func523 rfl ?_ (.inr (aG (au.enc_fr _) ⟨trivial,trivial⟩))
 repeat'(first|refine gP ?_|(conv=>whnf);first|refine CC ?_|refine C9 (c) ?_|refine C9 (d) ?_|refine C9 (uy s.b2 k e g) ?_)
 rfl
def AG(s:au)(k:Int)(a:bf s=true)(b:aX s.b2 k=true):zzA 385 false [.val (some 3) (au.enc .W s),.val none [I k]] (.tup [some 3,none]) (au.enc .own (kL s k)++[B true]):=by
 have e:=eK a;have g:=K8 b;have c:=gV s;have d:=jE s.b2 k ω;rw[a]at c;rw[b]at d;refine fO 23 [] Tryz.func385 rfl ?_ (.inr (aG (au.enc_fr _) ⟨trivial,trivial⟩))
 repeat'(first|refine gP ?_|(conv=>whnf);first|refine CC ?_|refine C9 (c) ?_|refine C9 (d) ?_|refine C9 (ur s.b2 k e g) ?_)
 rfl
def yL(c:aC)(k:Int)(b:aC.sml c):zzA 477 false [.val (some 1) (aC.enc .W c),.val none [I k]] .one [B (bz c&&decide (0<=k/\k<=3))]:=by
 have a:=og c b;cases e:bz c<;>rw[e]at a
 all_goals
  refine fO 11 [] Tryz.func477 rfl ?_
  repeat'(first|refine gP ?_|(conv=>whnf);first|refine CC ?_|refine C9 (a) ?_|refine C9 (aH k 0 3) ?_)
  all_goals rfl
def HY(c:aC)(k:Int)(a:aC.sml c):zzA 333 false [.val (some 1) (aC.enc .W c),.val none [I k]] .one [B (decide (0<=k/\k<=3)&&bz c)]:=by
 have b:=tZ c a;refine fO 11 [] Tryz.func333 rfl ?_
 repeat'(first|refine gP ?_|(conv=>whnf);first|with_reducible refine Bf.D (λd=>?_) (λd=>?_)|refine CC ?_|refine C9 (b) ?_|refine C9 (fR k) ?_)
 all_goals exact Z0 (λz=>[B z]) ((by simp[*]))
def qf{k:Nat}(a:k<c.a.length):c.a[k]? = some (nth c.a k):=ao a
theorem NJ(h:bz c=true)(k:Nat)(a:Int):aC.sml (pS c k a):=by
 obtain⟨e,d⟩:=eQ h;refine⟨by grind [pS],λl b=>?_⟩;rcases Y7 b with b|rfl
 ·have:=d l b;show l.length<=1048576;omega
 show(nth c.a k++[a]).length<=1048576;by_cases f:k<c.a.length
 ·grind [am]
 have:nth c.a k=[]:=by unfold nth;rw[I3,C3 ω];rfl
 rw[this];simp
theorem NR(c:aC)(k:Nat)(a:Int):aC.enc .own (pS c k a)=[.s .own ((c.a.map (aF .own)).set k (aF .own (nth c.a k++[a])))]:=by grind [V7,aC.enc,pS]
theorem gW{f:α->List C}{xs:List α}{k:Nat}{y:α}{r:List C}(h:xs[k]? = some y):((xs.map f).set k r)[k]? = some r:=ψ
def gy(f:α->β)(xs:List α)(y:α):(xs++[y]).map f=xs.map f++[f y]:=by simp
def K7(c:aC)(k a:Int):List C:=aC.enc .own ((cput c k a).getD c)++[B (cput c k a).isSome]
def Pn(c:aC)(k a:Int):hO (K7 c k a):=aG (aC.enc_fr _) ⟨trivial,trivial⟩
theorem AM(c:aC)(k:Nat)(a:Int)(j:bz c=true)(B:k<=3):zzA 572 false [.val (some 1) (aC.enc .W c),.val none [I (k:Nat)],.val none [I a]] (.tup [some 1,none]) (K7 c k a):=by
 obtain⟨D,q⟩:=eQ j;have r:aC.sml c:=⟨ω,λl u=>by have:=q l u;show l.length<=1048576;omega⟩
 have n:=yL c k r;rw[j,O0 ω]at n;have t:=js c r;have d:=NJ j k a;have o:=og (pS c k a) d;have w:=js (pS c k a) d;have b:=qf (c:=c) (k:=k) ω;have y:=q _ (am (xs:=c.a) (i:=k) ω);have h:=aC.enc_fz (pS c k a);rw[NR]at h;have g:=Pn c k a;unfold K7 at g |-;cases e:bz (pS c k a)<;>rw[e]at o
 ·have p:cput c k a=none:=by grind [cput]
  rw[p]at g |-;refine fO 35 [(4,267,[16,17,18,19,20,21,22,23,24,25,27,0,1,2,3,4,5,6,7,8,9,10,1000,1001,1002,11,12])] Tryz.func572 rfl ?_ (.inr g)
  repeat'(first|refine gP ?_|(conv=>whnf);first|with_reducible refine CE (aa b) ?_|refine CC ?_|refine CE (gW b) ?_|refine CK rfl (gW b) rfl ?_|refine C9 (n) ?_|refine C9 (t) ?_|refine Lq.one rfl rfl (aa b) rfl (O1 rfl) rfl rfl ?_|refine CK rfl (aa b) rfl ?_|refine CQ rfl rfl (gW b) rfl (O1 rfl) (show [C.s dM.own ((c.a.map (aF .own)).set k (aF .own (nth c.a k++[a])))]=_ from by simp only[List.set_cons_zero,List.set_set,O3];rfl) ?_|refine Ap.sm (aM λ_=>rfl) rfl (by simp;omega) (by decide) (gy _ _ _) ?_|refine CH (o) ⟨⟨rfl,h⟩,trivial⟩ ?_)
  rfl
 have p:cput c k a=some (pS c k a):=by grind [cput]
 rw[p]at g |-;refine fO 35 [(4,267,[16,17,18,19,20,21,22,23,24,25,27,0,1,2,3,4,5,6,7,8,9,10,1000,1001,1002,11,12])] Tryz.func572 rfl ?_ (.inr g)
 repeat'(first|refine gP ?_|(conv=>whnf);first|with_reducible refine CE (aa b) ?_|refine CC ?_|refine CE (gW b) ?_|refine CK rfl (gW b) rfl ?_|refine C9 (n) ?_|refine C9 (t) ?_|refine Lq.one rfl rfl (aa b) rfl (O1 rfl) rfl rfl ?_|refine CK rfl (aa b) rfl ?_|refine CQ rfl rfl (gW b) rfl (O1 rfl) (show [C.s dM.own ((c.a.map (aF .own)).set k (aF .own (nth c.a k++[a])))]=_ from by simp only[List.set_cons_zero,List.set_set,O3];rfl) ?_|refine Ap.sm (aM λ_=>rfl) rfl (by simp;omega) (by decide) (gy _ _ _) ?_|refine CH (o) ⟨⟨rfl,h⟩,trivial⟩ ?_|refine CH (w) ⟨⟨rfl,h⟩,trivial⟩ ?_)
 rfl
def bE(x:ab):List C:=[.s .own (x.G.F.U.T.map (aF .own)),.s .own (x.G.F.U.a3.map (rB .own)),.s .own (x.G.F.Q.K.map (bi.enc .own)),I x.G.Calls,.s .own (x.G.u.map (rI .own)),.s .own (x.w.map (a8.enc .own)),.s .own (x.J.map (au.enc .own)),.s .own (x.M.map (aB.enc .own)),.s .own (x.O.map (bu.enc .own)),.s .own (x.S.map (aC.enc .own)),.s .own (x.y.V.map (cS .own)),.s .own (x.y.a1.map (aF .own)),I x.a9.c0,.s .own (x.a9.a6.map (aR.enc .own)),I x.b8,I x.b3,I x.c2,I x.b,B x.o,I x.Y.X.a2,I x.Y.X.a0,.s .W (x.Y.X.T.map (rI .W)),I x.Y.b1,I x.Y.b]
def bK(x:ab):eg (bE x)=ab.enc .W x:=by simp[eg,bE,ab.enc,aC.enc_fz,bi.enc_fz,aB.enc_fz,bu.enc_fz,a8.enc_fz,au.enc_fz,aR.enc_fz,rB,rV,rI,eM,<-cn,I7]
def zA(x:co):List C:=[I x.X.a2,I x.X.a0,.s .W (x.X.T.map (rI .W)),I x.b1,I x.b]
end Go.Proofs.YtiopgblagimpmaaGreat.Ab
