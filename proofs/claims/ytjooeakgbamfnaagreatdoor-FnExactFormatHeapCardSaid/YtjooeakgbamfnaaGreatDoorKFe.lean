/- The pages of a heap: the contracts of l27Pages, l27Meshed (the reference's) and pagesOk (the program's). No condition. -/
import Derived.Test.YtjooeakgbamfnaaGreatDoorKFd
import Derived.Test.YtjooeakgbamfnaaGreatDoorKFShelf
import Derived.Test.YtjooeakgbamfnaaGreatDoorKFc
import Derived.Test.YtjooeakgbamfnaaGreatDoorAcc
import Derived.WalkKit
import Derived.Lib.SliceRun
import Derived.Deep.LoopGhost
import Derived.Deep.RegionLaw
import Derived.Lib.Walk
import Derived.Sort.WalkB12
import Derived.Shelf.RegionOpenPlain
set_option linter.unusedVariables false
set_option linter.defProp false
set_option linter.unusedSimpArgs false
set_option linter.constructorNameAsVariable false
namespace Go.Proofs.YtjooeakgbamfnaaGreatDoor.Ab
open Go.RowKit
set_option maxRecDepth 20000
set_option maxHeartbeats 8000000
theorem eB{sp:List ah}{la:List am}(h:bb sp la=true):sp.all bn=true/\la.all bU=true/\(pgs sp la).Nodup:=by grind [bb]
def FK{α:Type}[Inhabited α]{xs:List α}{p:α->Bool}{i:Nat}(h:xs.all p=true)(a:i<xs.length):p (nth xs i)=true:=W1.1 h _ (aF a)
theorem xT{h:ac}(a:cB h.G.length (rr h.G)=false):pages0 h=false:=by grind [pages0]
theorem oh{h:ac}(a:cB h.J.length (oV h)=false):pages0 h=false:=by grind [pages0]
theorem yb{h:ac}{p:Int}(a:p∈pgs h.G h.J)(b:¬p<fe h):pages0 h=false:=by grind [pages0]
theorem xu{h:ac}(a:cB (fe h) (qM h)=false):pages0 h=false:=by grind [pages0]
theorem ta{h:ac}(a:cB h.G.length (rr h.G)=true)(b:cB h.J.length (oV h)=true)(c:∀p∈pgs h.G h.J,p<fe h)(d:cB (fe h) (qM h)=true):pages0 h=true:=by grind [pages0]
theorem DI{h:ac}{i:Nat}(a:rJ h.J i=false):oV h i=false:=by grind [oV]
theorem Fw{h:ac}{i k:Nat}(a:k<(nth h.J i).i.toNat)(b:rT h (nth h.J i) k=false):oV h i=false:=by grind [bC,oV]
theorem y7{h:ac}{i:Nat}(a:rJ h.J i=true)(b:cB (nth h.J i).i.toNat (rT h (nth h.J i))=true):oV h i=true:=by grind [oV]
def eR(h:ac)(p:Int):(aG h p).length<=fe h:=by
 unfold aG;split
 ·simp
 exact ny ..
theorem pj{sp:List ah}{la:List am}(h:bb sp la=true){i:Nat}{l:am}(a:la[i]? = some l):1<=l.i/\l.i<=63/\0<=l.M/\l.M<=31:=
 bq (W1.1 (eB h).2.1 l ψ)
theorem yJ(h:ac)(y:bJ h.G)(E:bw h.J)(g:vB h)(F:dQ h.p)(l:bb h.G h.J=true):af Tryz.prog 91 false [.val (some 24) (ac.enc .H h)] .one [B (pages0 h)]:=by
 have Y:=y.1;have Z:=E.1;have hl3:fe h<=1048576:=g.1;have hl4:=F.1;refine fO 144 [(7,18,[28,29,30,31,32,33,34,35,36,37,38,39,40,41,42,43,44,45]),(13,18,[62,63,64,65,66,67,68,69,70,71,72,73,74,75,76,77,78,79])] Tryz.func91 rfl ?_
 repeat'(first|refine gP ?_|fail)
 (conv=>whnf)
 refine C8 (ι:=Nat × List Int) (λi=>[(1,.F .box (ac.enc .H h)),(3,.F .box (az.enc .H (tbl h))),(4,.F .one [I (fe h)]),(5,.F .one (aK .own i.2)),(6,.F .one [I ((i.1:Nat):Int)])]) (λi=>i.1<=h.G.length/\i.2=(h.G.take i.1).map (·.M)/\cB i.1 (rr h.G)=true) (λi=>h.G.length - i.1) ((0,[])) ?_ (⟨N0 _,rfl,rfl⟩) λi G=>?_
 ·exact wB
 obtain⟨i,S⟩:=i;obtain⟨G,H,J⟩:=G;simp only at G H J |-;have hSl:S.length=i:=ψ
 by_cases K:i<h.G.length
 ·have b:=ao K
  repeat'(first|refine gE ?_|(conv=>whnf);first|with_reducible (first|refine C6 (ab b) ?_|refine Bf.D (λa=>?_) (λa=>?_))|refine CJ ω (ab (eo ω K)) ?_|refine CI cJ (λr n=>by rw[T0.1 n];rfl) (by simp[aQ,cW]) (by simp;omega) (by simp only[Q0];exact tp (by simp;omega) (by decide)) rfl ?_)
  all_goals first
   | exact O0 (λz=>[B z]) ((xT (bC K (M0 ω))).symm)
   | ((conv=>whnf)
      refine C7 (i+1,S++[(nth h.G i).M]) ⟨(by simp only;omega),(by simp only;rw[H,U2,b];simp),bm J (L0 ω)⟩ (by simp only;omega) ?_
      (repeat'(first|exact trivial|rfl|exact C5 rfl (C5 (O0 (C.s dm.own) (by simp[rI])) trivial)|refine C5 ?_ ?_)))
 obtain rfl:i=h.G.length:=ω
 rw[P2]at H
 repeat'(first|refine gE ?_|fail)
 (conv=>whnf)
 refine C8 (ι:=Nat × List Int) (λk=>[(1,.F .box (ac.enc .H h)),(3,.F .box (az.enc .H (tbl h))),(4,.F .one [I (fe h)]),(5,.F .one (aK .own k.2)),(7,.F .one [I ((k.1:Nat):Int)])]) (λk=>k.1<=h.J.length/\k.2=pgs h.G (h.J.take k.1)/\cB k.1 (oV h)=true/\k.2.length<=1048576+64*k.1) (λk=>h.J.length - k.1) ((0,S)) ?_ (⟨N0 _,by grind [pgs],rfl,by simp only;omega⟩) λk L=>?_
 ·exact wB
 obtain⟨k,S2⟩:=k;obtain⟨L,c,M,O⟩:=L;simp only at L c M O |-;by_cases u:k<h.J.length
 ·have b:=ao u
  have hpg:=pj l b
  repeat'(first|refine gE ?_|(conv=>whnf);first|with_reducible (first|refine C6 (ab b) ?_|refine Bf.D (λa=>?_) (λa=>?_))|refine CJ ω (ab (eo ω u)) ?_)
  all_goals first
   | exact O0 (λz=>[B z]) ((oh (bC u (DI (M0 ω)))).symm)
   |have e:rJ h.J k=true:=L0 ω
    (conv=>whnf)
    refine C8 (ι:=Nat × List Int) (λq=>[(1,.F .box (ac.enc .H h)),(3,.F .box (az.enc .H (tbl h))),(4,.F .one [I (fe h)]),(5,.F .one (aK .own q.2)),(7,.F .one [I ((k:Nat):Int)]),(8,.F .one [I ((q.1:Nat):Int)])]) (λq=>q.1<=(nth h.J k).i.toNat/\q.2=S2++lpgs (nth h.J k) q.1/\cB q.1 (rT h (nth h.J k))=true) (λq=>(nth h.J k).i.toNat - q.1) ((0,S2)) ?_ (⟨N0 _,by simp[lpgs],rfl⟩) λq a=>?_
    ·exact wB
    obtain⟨q,Q⟩:=q;obtain⟨R,d,o⟩:=a;simp only at R d o |-;have U:Q.length=S2.length+q:=by rw[d,Q1,xn]
    by_cases w:q<(nth h.J k).i.toNat
    ·have hfl:=eR h ((nth h.J k).M+(q:Nat))
     repeat'(first|refine gE ?_|(conv=>whnf);first|with_reducible (first|refine C6 (ab b) ?_|refine Bf.N (λa=>?_) (λa=>?_))|refine C4 (gQ h _ g) ?_|refine CI cJ (λr n=>by rw[T0.1 n];rfl) (by simp[aQ,cW]) (by simp;omega) (by show _*8<=_;simp;omega) rfl ?_)
     all_goals first
      | exact O0 (λz=>[B z]) ((oh (bC u (Fw w (M0 ω)))).symm)
      | ((conv=>whnf)
         refine C7 (q+1,Q++[(nth h.J k).M+(q:Nat)]) ⟨(by simp only;omega),(by simp only;rw[d,im,W2]),bm o (L0 ω)⟩ (by simp only;omega) ?_
         (repeat'(first|exact trivial|rfl|exact C5 rfl (C5 (O0 (C.s dm.own) (by simp[rI])) trivial)|refine C5 ?_ ?_)))
    obtain rfl:q=(nth h.J k).i.toNat:=ω
    repeat'(first|refine gE ?_|(conv=>whnf);first|with_reducible refine C6 (ab b) ?_)
    ((conv=>whnf);refine C7 (k+1,Q) ⟨(by simp only;omega),(by simp only;rw[d,c,<-lu _ b]),bm M (y7 e o),(by simp only;omega)⟩ (by simp only;omega) ?_;(exact wB))
 obtain rfl:k=h.J.length:=ω
 rw[P2]at c
 repeat'(first|refine gE ?_|fail)
 (conv=>whnf)
 refine C8 (ι:=Nat) (λq=>[(1,.F .box (ac.enc .H h)),(3,.F .box (az.enc .H (tbl h))),(4,.F .one [I (fe h)]),(5,.F .one (aK .own S2)),(10,.F .one [I ((q:Nat):Int)])]) (λq=>q<=S2.length/\∀j,j<q->nth S2 j<fe h) (λq=>S2.length - q) (0) ?_ ψ λq a=>?_
 ·exact wB
 obtain⟨a,o⟩:=a;by_cases w:q<S2.length
 ·have b:=ao w
  repeat'(first|refine gE ?_|(conv=>whnf);first|with_reducible (first|refine C6 (ab b) ?_|refine Bf.D (λa=>?_) (λa=>?_))|refine CM rfl (ab b) rfl ?_)
  all_goals first
   | exact O0 (λz=>[B z]) ((yb (by rw[<-c];exact aF w) ω).symm)
   | ((conv=>whnf);refine C7 (q+1) ⟨ω,λj hj=>by rcases Nat.lt_or_ge j q with V|V;exact o j V;(obtain rfl:j=q:=ω);omega⟩ ω ?_;(exact wB))
 have t:∀p∈pgs h.G h.J,p<fe h:=λp T=>by grind [List.mem_iff_getElem?,bS]
 repeat'(first|refine gE ?_|fail)
 (conv=>whnf)
 refine C8 (ι:=Nat) (λp=>[(1,.F .box (ac.enc .H h)),(3,.F .box (az.enc .H (tbl h))),(4,.F .one [I (fe h)]),(5,.F .one (aK .own S2)),(11,.F .one [I ((p:Nat):Int)])]) (λp=>p<=fe h/\cB p (qM h)=true) (λp=>fe h - p) 0 ?_ ⟨N0 _,rfl⟩ λp T=>?_
 ·exact wB
 obtain⟨T,W⟩:=T;by_cases X:p<fe h
 ·have b:=ao (xs:=(tbl h).K) X
  have n:=tF h.p (p:Nat) ω
  repeat'(first|refine gE ?_|(conv=>whnf);first|with_reducible (first|refine C6 (ab b) ?_|refine Bf.D (λa=>?_) (λa=>?_)|refine Bf.NB (λa=>?_) (λa=>?_))|refine Cl.eq (j7 S2 _ ω) ⟨⟨rfl,gl _⟩,⟨rfl,rfl⟩,trivial⟩ ?_|refine C4 n ?_|refine Bf.P (λa=>?_) (λa=>?_))
  all_goals first
   | exact O0 (λz=>[B z]) ((xu (bC X (by unfold qM;rw[<-c];grind))).symm)
   | ((conv=>whnf);refine C7 (p+1) ⟨ω,bm W (by unfold qM;rw[<-c];grind)⟩ ω ?_;(exact wB))
 repeat'(first|refine gE ?_|fail)
 obtain rfl:p=fe h:=ω
 exact O0 (λz=>[B z]) ((ta J M t W).symm)
set_option maxHeartbeats 8000000
def GO{a b:Int}(h:a=b):FF (I a) (I b):=by subst h;rfl
theorem AE{S:List Int}{p z:Int} : z∈ins S p↔z∈S\/z=p:=by grind [ins]
theorem sj(S:List Int):(dP S).map (·.1)=S:=by unfold dP;rw[List.map_map];simp[Z2]
theorem nl{t:az}{p:Nat}(a:p<t.K.length):aZ t (p:Nat)=nth t.K p:=by grind [aZ]
theorem vk(h:ac)(G:bJ h.G)(H:bw h.J)(d:vB h)(J:dQ h.p)(u:bb h.G h.J=true):af Tryz.prog 130 false [.val (some 24) (ac.enc .H h)] .one [B (pages0 h&&lI h)]:=by
 have hl1:=G.1;have hl2:=H.1;have hl3:fe h<=1048576:=d.1;have hl4:=J.1;have b:pages0 h=false->[B false]=[B (pages0 h&&lI h)]:=ψ
 refine fO 177 [(4,14,[25,26,27,28,29,30,31,32,33,34,35,36,37,38]),(16,14,[60,61,62,63,64,65,66,67,68,69,70,71,72,73]),(28,18,[102,103,104,105,106,107,108,109,110,111,112,113,114,115,116,117,118,119]),(42,23,[152,153,154,155,156,157,158,159,160,161,162,163,164,165,166,167,168,169,170,171,172,173,174])] Tryz.func130 rfl ?_
 repeat'(first|refine gP ?_|fail)
 (conv=>whnf)
 refine C8 (ι:=Nat) (λi=>[(1,.F .box (ac.enc .H h)),(18,.F .one (bi .H h.G)),(19,.F .one [I (h.G.length)]),(20,.F .one [I ((i:Nat):Int)])]) (λi=>i<=h.G.length/\cB i (rr h.G)=true) (λi=>h.G.length - i) 0 ?_ ⟨N0 _,rfl⟩ λi g=>?_
 ·exact wB
 obtain⟨g,C⟩:=g;by_cases o:i<h.G.length
 ·have e:=ao o
  repeat'(first|refine gE ?_|(conv=>whnf);first|with_reducible (first|refine C6 (ab e) ?_|refine Bf.D (λa=>?_) (λa=>?_))|refine CJ ω (ab (eo ω o)) ?_)
  all_goals first
   |exact b (xT (bC o (M0 ω)))
   | ((conv=>whnf);refine C7 (i+1) ⟨ω,bm C (L0 ω)⟩ ω ?_;(exact wB))
 obtain rfl:i=h.G.length:=ω
 repeat'(first|refine gE ?_|fail)
 (conv=>whnf)
 refine C8 (ι:=Nat × List Int) (λi=>[(1,.F .box (ac.enc .H h)),(5,.F .one [.m (dP i.2)]),(42,.F .one (bi .H h.G)),(43,.F .one [I (h.G.length)]),(44,.F .one [I ((i.1:Nat):Int)])]) (λi=>i.1<=h.G.length/\∀z,z∈i.2↔z∈(h.G.take i.1).map (·.M)) (λi=>h.G.length - i.1) ((0,[])) ?_ ψ λi g=>?_
 ·exact wB
 obtain⟨i,S⟩:=i;obtain⟨K,Z⟩:=g;simp only at K Z |-;by_cases li2:i<h.G.length
 ·have e:=ao li2
  repeat'(first|refine gE ?_|(conv=>whnf);first|with_reducible refine C6 (ab e) ?_|refine Mu.mk (rz S _) ?_)
  ((conv=>whnf);refine C7 (i+1,ins S (nth h.G i).M) ⟨(by simp only;omega),λz=>by grind [AE,U2]⟩ (by simp only;omega) ?_;(exact wB))
 obtain rfl:i=h.G.length:=ω
 rw[P2]at Z
 repeat'(first|refine gE ?_|fail)
 (conv=>whnf)
 refine C8 (ι:=Nat × List Int) (λk=>[(1,.F .box (ac.enc .H h)),(5,.F .one [.m (dP k.2)]),(53,.F .one (aP .H h.J)),(54,.F .one [I (h.J.length)]),(55,.F .one [I ((k.1:Nat):Int)])]) (λk=>k.1<=h.J.length/\(∀z,z∈k.2↔z∈pgs h.G (h.J.take k.1))/\cB k.1 (oV h)=true) (λk=>h.J.length - k.1) ((0,S)) ?_ (⟨N0 _,λz=>by grind [pgs],rfl⟩) λk L=>?_
 ·exact wB
 obtain⟨k,S2⟩:=k;obtain⟨L,c,M⟩:=L;simp only at L c M |-;by_cases F:k<h.J.length
 ·have e:=ao F
  have hpg:=pj u e
  repeat'(first|refine gE ?_|(conv=>whnf);first|with_reducible (first|refine C6 (ab e) ?_|refine Bf.D (λa=>?_) (λa=>?_))|refine CJ ω (ab (eo ω F)) ?_)
  all_goals first
   |exact b (oh (bC F (DI (M0 ω))))
   |have l:rJ h.J k=true:=L0 ω
    (conv=>whnf)
    refine C8 (ι:=Nat × List Int) (λq=>[(1,.F .box (ac.enc .H h)),(5,.F .one [.m (dP q.2)]),(9,.F .box (am.enc .H (nth h.J k))),(10,.F .one [I ((nth h.J k).M+(q.1:Nat))]),(53,.F .one (aP .H h.J)),(54,.F .one [I (h.J.length)]),(55,.F .one [I ((k:Nat):Int)])]) (λq=>q.1<=(nth h.J k).i.toNat/\(∀z,z∈q.2↔z∈S2++lpgs (nth h.J k) q.1)/\cB q.1 (rT h (nth h.J k))=true) (λq=>(nth h.J k).i.toNat - q.1) ((0,S2)) ?_ (⟨N0 _,λz=>by simp[lpgs],rfl⟩) λq a=>?_
    ·exact wB
    obtain⟨q,O⟩:=q;obtain⟨Q,n,R⟩:=a;simp only at Q n R |-;by_cases lq:q<(nth h.J k).i.toNat
    ·have hfl:=eR h ((nth h.J k).M+(q:Nat))
     repeat'(first|refine gE ?_|(conv=>whnf);first|with_reducible refine Bf.N (λa=>?_) (λa=>?_)|refine C4 (km h _ d) ?_|refine Mu.mk (rz O _) ?_)
     all_goals first
      |exact b (oh (bC F (Fw lq (M0 ω))))
      | ((conv=>whnf)
         refine C7 (q+1,ins O ((nth h.J k).M+(q:Nat))) ⟨(by simp only;omega),λz=>by simp only[AE,n];rw[im];simp[or_assoc],bm R (L0 ω)⟩ (by simp only;omega) ?_
         (repeat'(first|exact trivial|rfl|refine C5 ?_ ?_|exact GO (by simp;omega))))
    obtain rfl:q=(nth h.J k).i.toNat:=ω
    repeat'(first|refine gE ?_|fail)
    ((conv=>whnf);refine C7 (k+1,O) ⟨(by simp only;omega),(λz=>by simp only[n];rw[lu _ e];simp[c]),bm M (y7 l R)⟩ (by simp only;omega) ?_;(exact wB))
 obtain rfl:k=h.J.length:=ω
 rw[P2]at c
 repeat'(first|refine gE ?_|fail)
 (conv=>whnf)
 refine C8 (ι:=Nat) (λp=>[(1,.F .box (ac.enc .H h)),(5,.F .one [.m (dP S2)]),(98,.F .one [I (fe h)]),(99,.F .one [I ((p:Nat):Int)])]) (λp=>p<=fe h/\cB p (qM h)=true) (λp=>fe h - p) 0 ?_ ⟨N0 _,rfl⟩ λp hp=>?_
 ·exact wB
 obtain⟨hp,ap⟩:=hp;by_cases lp:p<fe h
 ·have T:=t4 h.p (p:Nat) ω
  have w:=y6 h.X (p:Nat) d;rw[nl lp]at w
  repeat'(first|refine gE ?_|(conv=>whnf);first|with_reducible (first|refine Bf.D (λa=>?_) (λa=>?_)|refine Bf.NB (λa=>?_) (λa=>?_))|refine C4 w ?_|refine Ml.mk (jM (p:Nat) S2) ?_|refine C4 T ?_|refine Bf.P (λa=>?_) (λa=>?_))
  all_goals first
   |exact b (xu (bC lp (by unfold qM tbl;have:=c (p:Nat);grind)))
   | ((conv=>whnf);refine C7 (p+1) ⟨ω,bm ap (by unfold qM tbl;have:=c (p:Nat);grind)⟩ ω ?_;(exact wB))
 obtain rfl:p=fe h:=ω
 repeat'(first|refine gE ?_|fail)
 have hpn:fe h=h.X.R.a.K.length:=rfl
 (conv=>whnf)
 refine C8 (ι:=Option Int × List Int) (λt=>[(1,.F .box (ac.enc .H h)),(122,.F .one [.it t.1 t.2])]) (λt=>(∀z∈S2,z∈t.2\/z<fe h)/\∀z∈t.2,z∈S2) (λt=>t.2.length) ((none,(dP S2).map (·.1))) ?_ (⟨λz hz=>.inl (by grind [sj]),λz hz=>by grind [sj]⟩) λt ht=>?_
 ·exact wB
 obtain⟨cur,left⟩:=t;obtain⟨U,V⟩:=ht;simp only at U V |-
 repeat'(first|refine gP ?_|(conv=>whnf);first|with_reducible refine Bf.D (λa=>?_) (λa=>?_)|refine Nt.mk (λa=>?_) (λl1 k l2 a=>?_))
 rotate_left
 ·exact b (yb (p:=k) ψ ω)
 ·((conv=>whnf);refine C7 (some k,l1++l2) ψ (by subst left;simp) ?_;(exact wB))
 have y:∀p∈pgs h.G h.J,p<fe h:=ψ
 have h0:pages0 h=true:=ta C M y ap;rw[h0,Bool.true_and]
 (conv=>whnf)
 refine C8 (ι:=Nat) (λi=>[(1,.F .box (ac.enc .H h)),(136,.F .one (bi .H h.G)),(137,.F .one [I (h.G.length)]),(138,.F .one [I ((i:Nat):Int)])]) (λi=>i<=h.G.length/\cB i (λi=>cB i (jn h i))=true) (λi=>h.G.length - i) 0 ?_ ⟨N0 _,rfl⟩ λi g=>?_
 ·exact wB
 obtain⟨g,C⟩:=g;by_cases o:i<h.G.length
 ·have e:=ao o
  have W:(h.G.take i).length=i:=ψ
  repeat'(first|refine gE ?_|(conv=>whnf);first|with_reducible refine C6 (ab e) ?_|refine Sl.pre i rfl (by simp;omega) (λr T=>by obtain⟨z,-,rfl⟩:=C2.1 T;rfl) (Z1 ..) ?_)
  (conv=>whnf)
  refine C8 (ι:=Nat) (λj=>[(1,.F .box (ac.enc .H h)),(14,.F .box (ah.enc .H (nth h.G i))),(136,.F .one (bi .H h.G)),(137,.F .one [I (h.G.length)]),(138,.F .one [I ((i:Nat):Int)]),(146,.F .one (bi .H (h.G.take i))),(147,.F .one [I ((h.G.take i).length)]),(148,.F .one [I ((j:Nat):Int)])]) (λj=>j<=(h.G.take i).length/\cB j (jn h i)=true) (λj=>(h.G.take i).length - j) 0 ?_ ⟨N0 _,rfl⟩ λj hj=>?_
  ·exact wB
  obtain⟨hj,X⟩:=hj;by_cases lj:j<(h.G.take i).length
  ·have hy:=ao lj
   have he:nth (h.G.take i) j=nth h.G j:=bS (by grind [ao]);rw[he]at hy;have w:=tI (nth h.G i) (nth h.G j);cases Y:meshable (nth h.G i) (nth h.G j)<;>rw[Y]at w
   all_goals
    repeat'(first|refine gE ?_|(conv=>whnf);first|with_reducible (first|refine C6 (ab hy) ?_|refine Bf.E (λa=>?_) (λa=>?_))|refine C4 (iG (tbl h) _ d) ?_|refine C4 w ?_)
    all_goals first
     | exact O0 (λz=>[B z]) ((by symm;exact bC o (bC (i:=j) ω (by unfold jn;rw[Y];grind))))
     | ((conv=>whnf);refine C7 (j+1) ⟨ω,bm X (by unfold jn;rw[Y];grind)⟩ ω ?_;(exact wB))
  obtain rfl:j=(h.G.take i).length:=ω
  rw[W]at X
  repeat'(first|refine gE ?_|fail)
  ((conv=>whnf);refine C7 (i+1) ⟨ω,bm C X⟩ ω ?_;(exact wB))
 obtain rfl:i=h.G.length:=ω
 repeat'(first|refine gE ?_|fail)
 exact O0 (λz=>[B z]) ((by grind [lI]))
set_option maxHeartbeats 8000000
def xv{α:Type}[Inhabited α](pr:α->Bool)(xs:List α):gW pr xs = -1\/∃n,n<xs.length/\gW pr xs=(n:Nat)/\pr (nth xs n)=true:=by
 unfold gW;cases h:xs.findIdx? pr with
 | none=>exact .inl rfl
 | some i=>
  obtain⟨a,b,-⟩:=P3.1 h;exact .inr ⟨i,a,rfl,by rw[bS (C1 a)];exact b⟩
def xI{h:ac}{i k:Nat}(a:i<h.G.length)(b:k<(aG h (nth h.G i).M).length)(c:jh h i (nth (aG h (nth h.G i).M) k)=false):oF h=false:=by
 unfold oF;exact bC a (eD (ao b) c)
theorem vD(h:ac)(j:bJ h.G)(c:vB h):af Tryz.prog 92 false [.val (some 24) (ac.enc .H h)] .one [B (oF h)]:=by
 have l:=j.1;have E:fe h<=1048576:=c.1;refine fO 55 [(4,8,[14,15,16,17,18,19,20,21]),(8,6,[28,29,30,31,32,33]),(9,21,[34,35,36,37,38,39,40,41,42,43,44,45,46,47,48,49,50,51,52,53,54])] Tryz.func92 rfl ?_
 repeat'(first|refine gP ?_|fail)
 (conv=>whnf)
 refine C8 (ι:=Nat) (λi=>[(1,.F .box (ac.enc .H h)),(3,.F .one [I ((i:Nat):Int)])]) (λi=>i<=h.G.length/\cB i (λi=>(aG h (nth h.G i).M).all (jh h i))=true) (λi=>h.G.length - i) 0 ?_ ⟨N0 _,rfl⟩ λi w=>?_
 ·exact wB
 obtain⟨w,F⟩:=w;by_cases o:i<h.G.length
 ·have q:=ao o
  have G:=eR h (nth h.G i).M
  repeat'(first|refine gE ?_|(conv=>whnf);first|with_reducible refine C6 (ab q) ?_|refine C4 (gQ h _ c) ?_)
  (conv=>whnf)
  refine C8 (ι:=Nat) (λk=>[(1,.F .box (ac.enc .H h)),(3,.F .one [I ((i:Nat):Int)]),(4,.F .one (aK .own (aG h (nth h.G i).M))),(5,.F .one [I ((k:Nat):Int)])]) (λk=>k<=(aG h (nth h.G i).M).length/\((aG h (nth h.G i).M).take k).all (jh h i)=true) (λk=>(aG h (nth h.G i).M).length - k) (0) ?_ ψ λk y=>?_
  ·exact wB
  obtain⟨y,H⟩:=y;by_cases r:k<(aG h (nth h.G i).M).length
  ·have d:=ao r
   have a:=jb h (nth (aG h (nth h.G i).M) k) l;rcases xv (i9 (nth (aG h (nth h.G i).M) k)) h.G with g|⟨n,J,g,-⟩
   ·rw[show dE h (nth (aG h (nth h.G i).M) k) = -1 from g]at a
    have t:jh h i (nth (aG h (nth h.G i).M) k)=false:=by grind [jh,dE]
    repeat'(first|refine gE ?_|(conv=>whnf);first|with_reducible (first|refine C6 (ab q) ?_|refine C6 (ab d) ?_|refine Bf.D (λb=>?_) (λb=>?_)|refine Bf.N (λb=>?_) (λb=>?_))|refine CM rfl (ab d) rfl ?_|refine C4 a ?_)
    all_goals first
     | exact O0 (λz=>[B z]) ((xI o r t).symm)
     |(exfalso;omega)
   rw[show dE h (nth (aG h (nth h.G i).M) k)=(n:Nat) from g]at a;have K:=ao J;have C:=tA (nth h.G i) (nth h.G n);have e:jh h i (nth (aG h (nth h.G i).M) k)=(decide ((n:Int)=(i:Nat)) || meshable (nth h.G i) (nth h.G n)):=by
    unfold jh;rw[show dE h (nth (aG h (nth h.G i).M) k)=(n:Nat) from g,L0 (p:=(0:Int)<=(n:Nat)) ω];simp
   cases u:meshable (nth h.G i) (nth h.G n)<;>rw[u]at C
   all_goals
    repeat'(first|refine gE ?_|(conv=>whnf);first|with_reducible (first|refine C6 (ab q) ?_|refine C6 (ab K) ?_|refine C6 (ab d) ?_|refine Bf.D (λb=>?_) (λb=>?_)|refine Bf.N (λb=>?_) (λb=>?_))|refine CM rfl (ab d) rfl ?_|refine C4 a ?_|refine C4 C ?_)
    all_goals first
     | exact O0 (λz=>[B z]) ((xI o r (by rw[e,u];grind)).symm)
     | ((conv=>whnf);refine C7 (k+1) ⟨ω,bT d H (by rw[e,u];grind)⟩ ω ?_;(exact wB))
     |(exfalso;omega)
  repeat'(first|refine gE ?_|fail)
  ((conv=>whnf);refine C7 (i+1) ⟨ω,bm F ψ⟩ ω ?_;(exact wB))
 obtain rfl:i=h.G.length:=ω
 repeat'(first|refine gE ?_|fail)
 exact O0 (λz=>[B z]) ((by grind [oF]))
def B0(j:bA)(b:bA.sml j):af Tryz.prog 99 false [.val (some 5) (bA.enc .H j)] .one [B (xc j)]:=by
 have c:j.h.V.length<=1048576:=b;refine fO 30 [] Tryz.func99 rfl ?_
 repeat'(first|refine gP ?_|(conv=>whnf);first|with_reducible (first|refine Bf.E (λa=>?_) (λa=>?_)|refine Bf.D (λa=>?_) (λa=>?_)))
 all_goals exact O0 (λz=>[B z]) ((by unfold xc;first|(symm;exact M0 ω)|(rw[N2,beq_iff_eq,C0];omega)))
theorem jL(sp:List ah)(la:List am)(a:Int):((denotes sp la a).a7=1->0<=(denotes sp la a).a5/\(denotes sp la a).a5.toNat<sp.length)/\((denotes sp la a).a7=3->0<=(denotes sp la a).a5/\(denotes sp la a).a5.toNat<la.length):=by grind [P3,denotes,kR]
theorem Ai(h:ac)(a c:Int)(d:bJ h.G)(e:bw h.J)(b:bb h.G h.J=true)(k:gS a):af Tryz.prog 186 false [.val (some 24) (ac.enc .H h),.val none [I a],.val none [I c]] .one [B (ct h a c)]:=by
 have j:=kf h.G h.J a d e b k;obtain⟨g,-⟩:=jL h.G h.J a;unfold ct;generalize denotes h.G h.J a=w at j g |-;refine fO 37 [] Tryz.func186 rfl ?_
 repeat'(first|refine gP ?_|(conv=>whnf);first|with_reducible (first|refine Bf.D (λi=>?_) (λi=>?_)|refine Bf.E (λi=>?_) (λi=>?_))|refine C4 j ?_|refine CJ (g (by assumption)).1 (ab (ao (g (by assumption)).2)) ?_)
 all_goals exact O0 (λz=>[B z]) (ψ)
theorem vc(h:ac)(o:bg)(w:fU)(a:denotes h.G h.J o.Z=w):fJ h o=(decide (w.b3=0)&&((decide (w.a7=1)&&decide ((nth h.G w.a5.toNat).T=cO o.g)) || (decide (w.a7=3)&&decide ((nth h.J w.a5.toNat).g=o.g)))):=by grind [fJ]
def fW{h:ac}{i:Nat}(a:i<h.S.length)(b:gU (IntKind.i64.wrap (h.q - 1)) h i=false):dK h=false:=bC a b
theorem Ax{a:Int}{h:ac}{i:Nat}(b:eG a h i=false):gU a h i=false:=by grind [gU]
theorem Bl{a:Int}{h:ac}{i:Nat}(b:(h.S.take i).any (gG (nth h.S i).Id)=true):gU a h i=false:=by grind [gU]
theorem A5{a:Int}{h:ac}{i:Nat}(b:fJ h (nth h.S i)=false):gU a h i=false:=by grind [gU]
theorem uo{a:Int}{h:ac}{i:Nat}(b:eG a h i=true)(c:(h.S.take i).any (gG (nth h.S i).Id)=false)(d:fJ h (nth h.S i)=true):gU a h i=true:=by grind [gU]
theorem zS(h:ac)(l:bJ h.G)(n:bw h.J)(g:bb h.G h.J=true)(K:h.S.length<=1048576)(L:h.O.length<=1048576)(H:∀o∈h.S,gS o.Z):af Tryz.prog 97 false [.val (some 24) (ac.enc .H h)] .one [B (dK h)]:=by
 refine fO 117 [(5,33,[21,22,23,24,25,26,27,28,29,30,31,32,33,34,35,36,37,38,39,40,41,42,43,44,45,46,47,48,49,50,51,52,53]),(10,9,[59,60,61,62,63,64,65,66,67]),(13,16,[75,76,77,78,79,80,81,82,83,84,85,86,87,88,89,90]),(14,15,[91,92,93,94,95,96,97,98,99,100,101,102,103,104,105])] Tryz.func97 rfl ?_
 repeat'(first|refine gP ?_|fail)
 (conv=>whnf)
 refine C8 (ι:=Nat) (λi=>[(1,.F .box (ac.enc .H h)),(3,.F .one [I ((i:Nat):Int)])]) (λi=>i<=h.S.length/\cB i (gU (IntKind.i64.wrap (h.q - 1)) h)=true) (λi=>h.S.length - i) 0 ?_ ⟨N0 _,rfl⟩ λi t=>?_
 ·exact wB
 obtain⟨t,u⟩:=t;by_cases e:i<h.S.length
 ·have y:=ao e
  have C:=kf h.G h.J (nth h.S i).Z l n g (H _ (aF e));obtain⟨p,q⟩:=jL h.G h.J (nth h.S i).Z;have b:=vc h (nth h.S i) _ rfl;generalize denotes h.G h.J (nth h.S i).Z=w at C p q b;by_cases c:eG (IntKind.i64.wrap (h.q - 1)) h i=true
  ·have a:=c
   unfold eG at a;rw[C0]at a
   repeat'(first|refine gE ?_|(conv=>whnf);first|with_reducible (first|refine C6 (ab y) ?_|refine Bf.D (λd=>?_) (λd=>?_))|refine CJ ω (ab (eo ω e)) ?_|refine C4 (aN _ _ _) ?_|refine CB rfl ?_)
   all_goals
    (conv=>whnf)
    refine C8 (ι:=Nat) (λk=>[(1,.F .box (ac.enc .H h)),(3,.F .one [I ((i:Nat):Int)]),(4,.F .box (bg.enc .H (nth h.S i))),(5,.F .one [I ((k:Nat):Int)])]) (λk=>k<=i/\(h.S.take k).any (gG (nth h.S i).Id)=false) (λk=>i - k) (0) ?_ (⟨N0 _,rfl⟩) λk F=>?_
    ·exact wB
    obtain⟨F,G⟩:=F;by_cases J:k<i
    ·have r:=ao (xs:=h.S) (i:=k) ω
     repeat'(first|refine gE ?_|(conv=>whnf);first|with_reducible (first|refine C6 (ab r) ?_|refine Bf.E (λd=>?_) (λd=>?_)))
     all_goals first
      | exact O0 (λz=>[B z]) ((fW e (Bl (v8 (i:=k) (by rw[List.getElem?_take_of_lt J];exact r) (L0 (by assumption))))).symm)
      | ((conv=>whnf);refine C7 (k+1) ⟨ω,te r G (M0 (by assumption))⟩ ω ?_;(exact wB))
    obtain rfl:k=i:=ω
    repeat'(first|refine gE ?_|(conv=>whnf);first|with_reducible (first|refine Bf.D (λd=>?_) (λd=>?_)|refine Bf.E (λd=>?_) (λd=>?_)|refine Bf.N (λd=>?_) (λd=>?_))|refine C4 C ?_|refine CJ (p (by assumption)).1 (ab (ao (p (by assumption)).2)) ?_|refine CJ (q (by assumption)).1 (ab (ao (q (by assumption)).2)) ?_|refine C4 (jI _) ?_)
    all_goals first
     | exact O0 (λz=>[B z]) ((fW e (A5 (by rw[b];grind))).symm)
     | ((conv=>whnf);refine C7 (k+1) ⟨ω,bm u (uo c G (by rw[b];grind))⟩ ω ?_;(exact wB))
     |(exfalso;omega)
  have j:eG (IntKind.i64.wrap (h.q - 1)) h i=false:=by simpa using c
  have a:=j;unfold eG at a;rw[decide_eq_false_iff_not]at a
  repeat'(first|refine gE ?_|(conv=>whnf);first|with_reducible (first|refine C6 (ab y) ?_|refine Bf.D (λd=>?_) (λd=>?_))|refine CJ ω (ab (eo ω e)) ?_|refine C4 (aN _ _ _) ?_|refine CB rfl ?_)
  all_goals first
   | exact O0 (λz=>[B z]) ((fW e (Ax j)).symm)
   |(exfalso;omega)
 obtain rfl:i=h.S.length:=ω
 repeat'(first|refine gE ?_|fail)
 exact O0 (λz=>[B z]) ((show true=dK h from u.symm))
theorem mw(o a:bg):af Tryz.prog 206 false [.val (some 4) (bg.enc .H o),.ptr (bg.enc .H a)] .one [B (gG a.Id o)]:=by
 refine fO 9 [] Tryz.func206 rfl ?_
 repeat'(first|refine gP ?_|fail)
 grind [gG]
theorem xe(h:ac)(n:bJ h.G)(o:bw h.J)(J:h.S.length<=1048576)(K:h.O.length<=1048576):af Tryz.prog 134 false [.val (some 24) (ac.enc .H h)] .one [B (dK h)]:=by
 refine fO 105 [(4,33,[16,17,18,19,20,21,22,23,24,25,26,27,28,29,30,31,32,33,34,35,36,37,38,39,40,41,42,43,44,45,46,47,48]),(9,16,[62,63,64,65,66,67,68,69,70,71,72,73,74,75,76,77]),(10,15,[78,79,80,81,82,83,84,85,86,87,88,89,90,91,92])] Tryz.func134 rfl ?_
 repeat'(first|refine gP ?_|fail)
 (conv=>whnf)
 refine C8 (ι:=Nat) (λi=>[(1,.F .box (ac.enc .H h)),(9,.F .one (ee .H h.S)),(10,.F .one [I (h.S.length)]),(11,.F .one [I ((i:Nat):Int)])]) (λi=>i<=h.S.length/\cB i (gU (IntKind.i64.wrap (h.q - 1)) h)=true) (λi=>h.S.length - i) 0 ?_ ⟨N0 _,rfl⟩ λi F=>?_
 ·exact wB
 obtain⟨F,G⟩:=F;by_cases g:i<h.S.length
 ·have p:=ao g
  have H:=jU h.G h.J (nth h.S i).Z n o;obtain⟨q,t⟩:=jL h.G h.J (nth h.S i).Z;have b:=vc h (nth h.S i) _ rfl;generalize denotes h.G h.J (nth h.S i).Z=w at H q t b;have j:=pL (h.S.take i) (gG (nth h.S i).Id) ψ;by_cases c:eG (IntKind.i64.wrap (h.q - 1)) h i=true
  ·have a:=c
   unfold eG at a;rw[C0]at a;cases d:(h.S.take i).any (gG (nth h.S i).Id)<;>rw[d]at j
   ·repeat'(first|refine gE ?_|(conv=>whnf);first|with_reducible (first|refine C6 (ab p) ?_|refine Bf.D (λe=>?_) (λe=>?_)|refine Bf.E (λe=>?_) (λe=>?_)|refine Bf.N (λe=>?_) (λe=>?_))|refine CJ ω (ab (eo ω g)) ?_|refine C4 (aE _ _ _) ?_|refine Sl.pre i rfl (by simp;omega) (λr u=>by obtain⟨z,-,rfl⟩:=C2.1 u;rfl) (Z1 ..) ?_|refine Cq.mk (yL (some 4) (bg.enc .H) (gG (nth h.S i).Id) (h.S.take i)) (mw default (nth h.S i)).has (λL k rcs C=>by obtain⟨y,-,rfl,rfl,rfl⟩:=C;exact mw y (nth h.S i)) ?_|refine C4 j ?_|refine C4 H ?_|refine CJ (q (by assumption)).1 (ab (ao (q (by assumption)).2)) ?_|refine CJ (t (by assumption)).1 (ab (ao (t (by assumption)).2)) ?_|refine C4 (jZ _) ?_|refine CB rfl ?_)
    all_goals first
     | exact O0 (λz=>[B z]) ((fW g (A5 (by rw[b];grind))).symm)
     | ((conv=>whnf);refine C7 (i+1) ⟨ω,bm G (uo c d (by rw[b];grind))⟩ ω ?_;(exact wB))
     |(exfalso;omega)
   repeat'(first|refine gE ?_|(conv=>whnf);first|with_reducible (first|refine C6 (ab p) ?_|refine Bf.D (λe=>?_) (λe=>?_))|refine CJ ω (ab (eo ω g)) ?_|refine C4 (aE _ _ _) ?_|refine Sl.pre i rfl (by simp;omega) (λr u=>by obtain⟨z,-,rfl⟩:=C2.1 u;rfl) (Z1 ..) ?_|refine Cq.mk (yL (some 4) (bg.enc .H) (gG (nth h.S i).Id) (h.S.take i)) (mw default (nth h.S i)).has (λL k rcs C=>by obtain⟨y,-,rfl,rfl,rfl⟩:=C;exact mw y (nth h.S i)) ?_|refine C4 j ?_|refine CB rfl ?_)
   all_goals first
    | exact O0 (λz=>[B z]) ((fW g (Bl d)).symm)
    |(exfalso;omega)
  have l:eG (IntKind.i64.wrap (h.q - 1)) h i=false:=by simpa using c
  have a:=l;unfold eG at a;rw[decide_eq_false_iff_not]at a
  repeat'(first|refine gE ?_|(conv=>whnf);first|with_reducible (first|refine C6 (ab p) ?_|refine Bf.D (λe=>?_) (λe=>?_))|refine CJ ω (ab (eo ω g)) ?_|refine C4 (aE _ _ _) ?_|refine CB rfl ?_)
  all_goals first
   | exact O0 (λz=>[B z]) ((fW g (Ax l)).symm)
   |(exfalso;omega)
 obtain rfl:i=h.S.length:=ω
 repeat'(first|refine gE ?_|fail)
 exact O0 (λz=>[B z]) ((show true=dK h from G.symm))
set_option maxHeartbeats 8000000
theorem BF{sp:List ah}{la:List am}{n:Nat}(h:gL sp la n=true):iW sp la (n+1)=iW sp la n++[(n:Int)]:=by grind [List.range_succ,iW]
theorem El{sp:List ah}{la:List am}{n:Nat}(h:gL sp la n=false):iW sp la (n+1)=iW sp la n:=by grind [List.range_succ,iW]
theorem un(sp:List ah)(la:List am)(n:Nat):(iW sp la n).length<=n:=by grind [iW]
theorem oy{sp:List ah}{la:List am}{n:Nat}{w:fU}(a:denotes sp la (n:Nat)=w):gL sp la n=(decide (w.b3=0)&&(decide (w.a7=1) || decide (w.a7=3))):=by grind [gL]
def Gg{n:Nat}(h:n<=1048576):gS (n:Nat):=⟨ω,ω⟩
theorem sD(sp:List ah)(la:List am)(c:bJ sp)(d:bw la)(a:bb sp la=true):af Tryz.prog 187 false [.val none (bi .H sp),.val none (aP .H la)] .one (aK .own (gr sp la)):=by
 have g:=gk sp la c d;rw[a]at g;refine fO 40 [] Tryz.func187 rfl ?_ (.inr (cu _))
 repeat'(first|refine gP ?_|fail)
 (conv=>whnf)
 refine C8 (ι:=Nat) (λn=>[(0,.F .one (bi .H sp)),(1,.F .one (aP .H la)),(5,.F .one (aK .own (iW sp la n))),(6,.F .one [I ((n:Nat):Int)])]) (λn=>n<=512) (λn=>512 - n) (0) ?_ (N0 _) λn o=>?_
 ·exact wB
 have i:=un sp la n;by_cases p:n<512
 ·have h:=kf sp la (n:Nat) c d a (Gg ω)
  generalize j:denotes sp la (n:Nat)=w at h;have e:=oy j
  repeat'(first|refine gE ?_|(conv=>whnf);first|with_reducible refine Bf.E (λk=>?_) (λk=>?_)|refine C4 g ?_|refine C4 h ?_|refine CI cJ (λr l=>by rw[T0.1 l];rfl) (by simp[aQ,cW]) (by simp;omega) (by simp only[Q0];exact tp (by simp;omega) (by decide)) rfl ?_)
  all_goals first
   |(have b:gL sp la n=true:=by rw[e];grind
     (conv=>whnf)
     refine C7 (n+1) ω ω ?_;rw[BF b]
     (repeat'(first|exact trivial|rfl|exact C5 rfl (C5 (O0 (C.s dm.own) (by simp[rI])) trivial)|refine C5 ?_ ?_)))
   |(have b:gL sp la n=false:=by rw[e];grind
     (conv=>whnf)
     refine C7 (n+1) ω ω ?_;rw[El b]
     (exact wA))
 obtain rfl:n=512:=ω
 repeat'(first|refine gE ?_|(conv=>whnf);first|refine C4 g ?_)
 rfl
theorem rv(m:aI)(a:m.e.length=m.Q.length):∀i,i<=m.Q.length->(((flight1 m i).length+(flight2 m i).length:Nat):Int)=cx m i
 | 0,_=>rfl
 | i+1,h=>by
  have d:=rv m a i ω;have b:=ao (xs:=m.Q) (i:=i) ω;have c:=ao (xs:=m.e) (i:=i) ω;rw[jT b,ka c];simp only[Q1,Q0];show _=cx m i+((nth m.Q i).length+(nth m.e i).length);omega
theorem ig{m:aI}(h:de m=true):(ax m).length<=30:=by grind [rv,lR,de]
def wO{m:aI}(d:aI.wf m):∀a∈ax m,gS a:=by
 intro a b;unfold ax at b;split at b
 ·rcases N1.1 b with h|h
  ·obtain⟨l,c,h⟩:=List.mem_flatMap.1 h
   obtain⟨p,e,rfl⟩:=C2.1 h;exact((d.1.2 l c).2 p e).2
  obtain⟨l,c,h⟩:=List.mem_flatten.1 h;exact(d.2.2 l c).2 a h
 cases b
theorem BC{h:ac}(a:h.O.all (d8 h)=false):fS h=false:=by grind [fS,fQ]
theorem B2{h:ac}(a:h.b.d.all (eS h)=false):fS h=false:=by grind [fS,fQ]
theorem B1{h:ac}(a:(ax h.Y).all (gh h)=false):fS h=false:=by grind [fS,fQ]
theorem B7{h:ac}{i:Nat}(a:i<(holders h).length)(b:nth (holders h) i∈(holders h).take i):fS h=false:=by
 have c:decide (holders h).Nodup=false:=Ek (S:=(holders h).take i) (p:=nth (holders h) i) (by
   have:=ao a;have e:(holders h).take i++[nth (holders h) i]=(holders h).take (i+1):=by grind [U2]
   grind) b
 grind [fS]
theorem qi{h:ac}{i:Nat}{c:ar}(a:h.O[i]? = some c):((h.O.take (i+1)).flatMap λc=>c.W.flatten)=((h.O.take i).flatMap λc=>c.W.flatten)++c.W.flatten:=by grind [U2]
theorem sw{c:ar}{k:Nat}{l:List Int}(a:c.W[k]? = some l):(c.W.take (k+1)).flatten=(c.W.take k).flatten++l:=by grind [U2]
theorem yO(h:ac)(hs:ac.sml h)(hw:ac.wf h)(t:bb h.G h.J=true)(w:de h.Y=true)(W:∀c∈h.O,bL c=true):af Tryz.prog 98 false [.val (some 24) (ac.enc .H h)] .one [B (fS h)]:=by
 obtain⟨-,-,G,H,X,Y,Z,hsq,-⟩:=hs;obtain⟨-,-,-,-,-,hwc,hwm,hwq,-⟩:=hw;have hlo:h.S.length<=1048576:=X.1;have hlc:h.O.length<=1048576:=Y.1;have hlq:h.b.d.length<=1048576:=hsq.1;have hfl:=ig w;have hfw:=wO hwm;have y:∀a c,gS a->af Tryz.prog 186 false [.val (some 24) (ac.enc .H h),.val none [I a],.val none [I c]] .one [B (ct h a c)]:=λa c ha=>Ai h a c G H t ha
 refine fO 159 [(16,8,[63,64,65,66,67,68,69,70]),(22,17,[86,87,88,89,90,91,92,93,94,95,96,97,98,99,100,101,102]),(29,7,[122,123,124,125,126,127,128]),(35,8,[142,143,144,145,146,147,148,149])] Tryz.func98 rfl ?_
 repeat'(first|refine gP ?_|fail)
 (conv=>whnf)
 refine C8 (ι:=Nat × List Int) (λi=>[(1,.F .box (ac.enc .H h)),(3,.F .one (aK .own i.2)),(4,.F .one [I ((i.1:Nat):Int)])]) (λi=>i.1<=h.S.length/\i.2=(h.S.take i.1).map (·.Z)) (λi=>h.S.length - i.1) ((0,[])) ?_ ψ λi u=>?_
 ·exact wB
 obtain⟨i,S⟩:=i;obtain⟨u,Q⟩:=u;simp only at u Q |-;have hSl:S.length=i:=ψ
 by_cases li:i<h.S.length
 ·have E:=ao li
  repeat'(first|refine gE ?_|(conv=>whnf);first|with_reducible refine C6 (ab E) ?_|refine CI cJ (λr l=>by rw[T0.1 l];rfl) (by simp[aQ,cW]) (by simp;omega) (by simp only[Q0];exact tp (by simp;omega) (by decide)) rfl ?_)
  ((conv=>whnf)
   refine C7 (i+1,S++[(nth h.S i).Z]) ⟨(by simp only;omega),(by grind [U2])⟩ (by simp only;omega) ?_
   (repeat'(first|exact trivial|rfl|exact C5 rfl (C5 (O0 (C.s dm.own) (by simp[rI])) trivial)|refine C5 ?_ ?_)))
 obtain rfl:i=h.S.length:=ω
 rw[P2]at Q
 repeat'(first|refine gE ?_|fail)
 (conv=>whnf)
 refine C8 (ι:=Nat × List Int) (λi=>[(1,.F .box (ac.enc .H h)),(3,.F .one (aK .own i.2)),(5,.F .one [I ((i.1:Nat):Int)])]) (λi=>i.1<=h.O.length/\i.2=S++((h.O.take i.1).flatMap λc=>c.W.flatten)/\(h.O.take i.1).all (d8 h)=true/\i.2.length<=1048576+32*i.1) (λi=>h.O.length - i.1) ((0,S)) ?_ ψ λi u=>?_
 ·exact wB
 obtain⟨i,S2⟩:=i;obtain⟨hi2,n,ai,J⟩:=u;simp only at hi2 n ai J |-;by_cases li2:i<h.O.length
 ·have E:=ao li2
  obtain⟨h4,h8⟩:=gw (W _ (aF li2));have hwl:=hwc.2 _ (aF li2)
  repeat'(first|refine gE ?_|(conv=>whnf);first|with_reducible refine C6 (ab E) ?_)
  (conv=>whnf)
  refine C8 (ι:=Nat × List Int) (λk=>[(1,.F .box (ac.enc .H h)),(3,.F .one (aK .own k.2)),(5,.F .one [I ((i:Nat):Int)]),(6,.F .one [I ((k.1:Nat):Int)])]) (λk=>k.1<=(nth h.O i).W.length/\k.2=S2++((nth h.O i).W.take k.1).flatten/\cB k.1 (oW h (nth h.O i))=true/\k.2.length<=S2.length+8*k.1) (λk=>(nth h.O i).W.length - k.1) ((0,S2)) ?_ (⟨N0 _,by simp,rfl,by simp⟩) λk hk=>?_
  ·exact wB
  obtain⟨k,R⟩:=k;obtain⟨hk,K,ak,hb3⟩:=hk;simp only at hk K ak hb3 |-;by_cases T:k<(nth h.O i).W.length
  ·have hy:=ao T
   have hl8:=h8 _ (aF T);have hwa:=(hwl.2 _ (aF T)).2
   repeat'(first|refine gE ?_|(conv=>whnf);first|with_reducible (first|refine C6 (ab E) ?_|refine C6 (ab hy) ?_))
   (conv=>whnf)
   refine C8 (ι:=Nat × List Int) (λj=>[(1,.F .box (ac.enc .H h)),(3,.F .one (aK .own j.2)),(5,.F .one [I ((i:Nat):Int)]),(6,.F .one [I ((k:Nat):Int)]),(7,.F .one (aK .H (nth (nth h.O i).W k))),(8,.F .one [I ((j.1:Nat):Int)])]) (λj=>j.1<=(nth (nth h.O i).W k).length/\j.2=R++(nth (nth h.O i).W k).take j.1/\((nth (nth h.O i).W k).take j.1).all (λa=>ct h a (k:Nat))=true) (λj=>(nth (nth h.O i).W k).length - j.1) ((0,R)) ?_ ψ λj hj=>?_
   ·exact wB
   obtain⟨j,S4⟩:=j;obtain⟨hj,L,U⟩:=hj;simp only at hj L U |-;have hl4:S4.length=R.length+j:=ψ
   by_cases lj:j<(nth (nth h.O i).W k).length
   ·have d:=ao lj
    have b:=y (nth (nth (nth h.O i).W k) j) (k:Nat) ψ;cases g:ct h (nth (nth (nth h.O i).W k) j) (k:Nat)<;>rw[g]at b
    ·repeat'(first|refine gE ?_|(conv=>whnf);first|with_reducible refine C6 (ab d) ?_|refine C4 b ?_)
     exact O0 (λz=>[B z]) ((BC (eD E (by unfold d8;exact bC T (eD d g)))).symm)
    repeat'(first|refine gE ?_|(conv=>whnf);first|with_reducible refine C6 (ab d) ?_|refine C4 b ?_|refine CI cJ (λr l=>by rw[T0.1 l];rfl) (by simp[aQ,cW]) (by simp;omega) (by show _*8<=_;simp;omega) rfl ?_)
    ((conv=>whnf)
     refine C7 (j+1,S4++[nth (nth (nth h.O i).W k) j]) ⟨(by simp only;omega),(by grind [U2]),bT d U g⟩ (by simp only;omega) ?_
     (repeat'(first|exact trivial|rfl|exact C5 rfl (C5 (O0 (C.s dm.own) (by simp[rI])) trivial)|refine C5 ?_ ?_)))
   obtain rfl:j=(nth (nth h.O i).W k).length:=ω
   rw[P2]at L U
   repeat'(first|refine gE ?_|fail)
   ((conv=>whnf);refine C7 (k+1,S4) ⟨(by simp only;omega),(by grind [sw]),bm ak U,(by simp only;omega)⟩ (by simp only;omega) ?_;(exact wB))
  obtain rfl:k=(nth h.O i).W.length:=ω
  rw[P2]at K
  repeat'(first|refine gE ?_|(conv=>whnf);first|with_reducible refine C6 (ab E) ?_)
  ((conv=>whnf);refine C7 (i+1,R) ⟨(by simp only;omega),(by grind [qi]),bT E ai ak,(by simp only;omega)⟩ (by simp only;omega) ?_;(exact wB))
 obtain rfl:i=h.O.length:=ω
 rw[P2]at n ai
 repeat'(first|refine gE ?_|fail)
 (conv=>whnf)
 refine C8 (ι:=Nat × List Int) (λq=>[(1,.F .box (ac.enc .H h)),(3,.F .one (aK .own q.2)),(9,.F .one [I ((q.1:Nat):Int)])]) (λq=>q.1<=h.b.d.length/\q.2=S2++(h.b.d.take q.1).map (·.Z)/\(h.b.d.take q.1).all (eS h)=true) (λq=>h.b.d.length - q.1) ((0,S2)) ?_ ψ λq M=>?_
 ·exact wB
 obtain⟨q,N⟩:=q;obtain⟨F,o,aq⟩:=M;simp only at F o aq |-;have hl5:N.length=S2.length+q:=ψ
 by_cases V:q<h.b.d.length
 ·have d:=ao V
  have b:=y (nth h.b.d q).Z (nth h.b.d q).T (hwq.2.2 _ (aF V)).1;cases g:ct h (nth h.b.d q).Z (nth h.b.d q).T<;>rw[g]at b
  ·repeat'(first|refine gE ?_|(conv=>whnf);first|with_reducible refine C6 (ab d) ?_|refine C4 b ?_)
   exact O0 (λz=>[B z]) ((B2 (eD d g)).symm)
  repeat'(first|refine gE ?_|(conv=>whnf);first|with_reducible refine C6 (ab d) ?_|refine C4 b ?_|refine CI cJ (λr l=>by rw[T0.1 l];rfl) (by simp[aQ,cW]) (by simp;omega) (by show _*8<=_;simp;omega) rfl ?_)
  ((conv=>whnf)
   refine C7 (q+1,N++[(nth h.b.d q).Z]) ⟨(by simp only;omega),(by grind [U2]),bT d aq g⟩ (by simp only;omega) ?_
   (repeat'(first|exact trivial|rfl|exact C5 rfl (C5 (O0 (C.s dm.own) (by simp[rI])) trivial)|refine C5 ?_ ?_)))
 obtain rfl:q=h.b.d.length:=ω
 rw[P2]at o aq
 repeat'(first|refine gE ?_|(conv=>whnf);first|refine C4 (mT h.Y Z) ?_)
 (conv=>whnf)
 refine C8 (ι:=Nat × List Int) (λq=>[(1,.F .box (ac.enc .H h)),(3,.F .one (aK .own q.2)),(10,.F .one (aK .own (ax h.Y))),(11,.F .one [I ((q.1:Nat):Int)])]) (λq=>q.1<=(ax h.Y).length/\q.2=N++(ax h.Y).take q.1/\((ax h.Y).take q.1).all (gh h)=true) (λq=>(ax h.Y).length - q.1) ((0,N)) ?_ ψ λq M=>?_
 ·exact wB
 obtain⟨q,e⟩:=q;obtain⟨F,p,aq6⟩:=M;simp only at F p aq6 |-;have hl6:e.length=N.length+q:=ψ
 by_cases V:q<(ax h.Y).length
 ·have d:=ao V
  have b:=y (nth (ax h.Y) q) (-1) ψ;cases g:ct h (nth (ax h.Y) q) (-1)<;>rw[g]at b
  ·repeat'(first|refine gE ?_|(conv=>whnf);first|with_reducible refine C6 (ab d) ?_|refine CM rfl (ab d) rfl ?_|refine C4 b ?_)
   exact O0 (λz=>[B z]) ((B1 (eD d g)).symm)
  repeat'(first|refine gE ?_|(conv=>whnf);first|with_reducible refine C6 (ab d) ?_|refine CM rfl (ab d) rfl ?_|refine C4 b ?_|refine CI cJ (λr l=>by rw[T0.1 l];rfl) (by simp[aQ,cW]) (by simp;omega) (by show _*8<=_;simp;omega) rfl ?_)
  ((conv=>whnf)
   refine C7 (q+1,e++[nth (ax h.Y) q]) ⟨(by simp only;omega),(by grind [U2]),bT d aq6 g⟩ (by simp only;omega) ?_
   (repeat'(first|exact trivial|rfl|exact C5 rfl (C5 (O0 (C.s dm.own) (by simp[rI])) trivial)|refine C5 ?_ ?_)))
 obtain rfl:q=(ax h.Y).length:=ω
 rw[P2]at p aq6;have O:e=holders h:=by rw[p,o,n,Q];rfl
 have hheld:fQ h=true:=by grind [fQ]
 have hbig:e.length<=100000000:=ω
 clear p o n Q hSl hl5 J hl6
 repeat'(first|refine gE ?_|fail)
 (conv=>whnf)
 refine Lp.fz 3 (ι:=Nat) (λi=>[(1,.F .box (ac.enc .H h)),(3,.F .one (aK .H e)),(12,.F .one [I ((i:Nat):Int)])]) (λi=>i<=e.length/\(e.take i).Nodup) (λi=>e.length - i) 0 ?_ ψ λi u=>?_
 ·(repeat'(first|exact trivial|rfl|exact C5 rfl (show GS (gV (aK .own e)) (aK .H e) by rw[gl];exact lx _)|refine C5 ?_ ?_))
 obtain⟨u,P⟩:=u;by_cases lj:i<e.length
 ·have d:=ao lj
  have htl:(e.take i).length=i:=ψ
  repeat'(first|refine gE ?_|(conv=>whnf);first|with_reducible (first|refine C6 (ab d) ?_|refine Bf.D (λM=>?_) (λM=>?_))|refine Sl.pre i rfl (by simp;omega) (λr l=>by obtain⟨z,-,rfl⟩:=C2.1 l;rfl) (Z1 ..) ?_|refine C4 (j7 (e.take i) _ ω) ?_)
  all_goals first
   | exact O0 (λz=>[B z]) ((by rw[O]at *;exact(B7 (by assumption) (by assumption)).symm))
   | ((conv=>whnf);refine C7 (i+1) ⟨ω,by rw[U2,d];exact iF P (by assumption)⟩ ω ?_;(exact wB))
 obtain rfl:i=e.length:=ω
 rw[P2]at P;have hlv:=un h.G h.J 512
 repeat'(first|refine gE ?_|(conv=>whnf);first|refine C4 (sD h.G h.J G H t) ?_)
 exact O0 (λz=>[B z]) ((by grind [fS]))
set_option maxHeartbeats 8000000
def cC(h:ac):Bool:=(de h.Y&&decide (h.O.length=h.Y.Q.length))&&fm h.b
def cQ(h:ac):Bool:=((((((iv h&&oF h)&&cC h)&&iX h)&&h.O.all bL)&&fp h)&&(dK h&&fS h))&&o6 h
theorem qs(h:ac)(X:ac.sml h)(Y:ac.wf h):af Tryz.prog 28 false [.val (some 24) (ac.enc .H h)] .one [B (cQ h)]:=by
 have M:=X;have O:=Y;obtain⟨u,w,b,j,P,y,C,E,F⟩:=X;obtain⟨-,-,-,-,Q,hwc,hwm,hwq,-⟩:=Y;have l:vB h:=u.1.2;have hpn:fe h<=1048576:=l.1;have R:h.S.length<=1048576:=P.1;have S:h.O.length<=1048576:=y.1;have hlq:h.b.d.length<=1048576:=E.1;have hlb:h.Y.Q.length<=1048576:=C.1.1;have d:=ug h.X u;have e:=tB (fe h) h.p ω w;have g:=gk h.G h.J b j;have r:=vD h b l;have G:=qw h.Y C;have T:=xL h.b E;cases Z:dh h.X<;>rw[Z]at d
 ·refine fO 150 [(8,10,[67,68,69,70,71,72,73,74,75,76])] Tryz.func28 rfl ?_
  repeat'(first|refine gP ?_|(conv=>whnf);first|with_reducible refine Bf.N (λa=>?_) (λa=>?_)|refine C4 d ?_)
  all_goals first
   | exact O0 (λz=>[B z]) ((by unfold cQ iv;rw[Z];simp))
   |(exfalso;omega)
 cases e2:cr (fe h) h.p<;>rw[e2]at e
 ·refine fO 150 [(8,10,[67,68,69,70,71,72,73,74,75,76])] Tryz.func28 rfl ?_
  repeat'(first|refine gP ?_|(conv=>whnf);first|with_reducible refine Bf.N (λa=>?_) (λa=>?_)|refine C4 d ?_|refine C4 e ?_)
  all_goals first
   | exact O0 (λz=>[B z]) ((by unfold cQ iv;rw[e2];simp))
   |(exfalso;omega)
 cases H:bb h.G h.J<;>rw[H]at g
 ·refine fO 150 [(8,10,[67,68,69,70,71,72,73,74,75,76])] Tryz.func28 rfl ?_
  repeat'(first|refine gP ?_|(conv=>whnf);first|with_reducible refine Bf.N (λa=>?_) (λa=>?_)|refine C4 d ?_|refine C4 e ?_|refine C4 g ?_)
  all_goals first
   | exact O0 (λz=>[B z]) ((by unfold cQ iv;rw[H];simp))
   |(exfalso;omega)
 have n:=yJ h b j l w H;cases e4:pages0 h<;>rw[e4]at n
 ·refine fO 150 [(8,10,[67,68,69,70,71,72,73,74,75,76])] Tryz.func28 rfl ?_
  repeat'(first|refine gP ?_|(conv=>whnf);first|with_reducible refine Bf.N (λa=>?_) (λa=>?_)|refine C4 d ?_|refine C4 e ?_|refine C4 g ?_|refine C4 n ?_)
  all_goals first
   | exact O0 (λz=>[B z]) ((by unfold cQ iv;rw[e4];simp))
   |(exfalso;omega)
 cases e5:oF h<;>rw[e5]at r
 ·refine fO 150 [(8,10,[67,68,69,70,71,72,73,74,75,76])] Tryz.func28 rfl ?_
  repeat'(first|refine gP ?_|(conv=>whnf);first|with_reducible refine Bf.N (λa=>?_) (λa=>?_)|refine C4 d ?_|refine C4 e ?_|refine C4 g ?_|refine C4 n ?_|refine C4 r ?_)
  all_goals first
   | exact O0 (λz=>[B z]) ((by unfold cQ ;rw[e5];simp))
   |(exfalso;omega)
 cases U:de h.Y<;>rw[U]at G
 ·refine fO 150 [(8,10,[67,68,69,70,71,72,73,74,75,76])] Tryz.func28 rfl ?_
  repeat'(first|refine gP ?_|(conv=>whnf);first|with_reducible refine Bf.N (λa=>?_) (λa=>?_)|refine C4 d ?_|refine C4 e ?_|refine C4 g ?_|refine C4 n ?_|refine C4 r ?_|refine C4 G ?_)
  all_goals first
   | exact O0 (λz=>[B z]) ((by unfold cQ cC;rw[U];simp))
   |(exfalso;omega)
 by_cases V:h.O.length=h.Y.Q.length;rotate_left
 ·refine fO 150 [(8,10,[67,68,69,70,71,72,73,74,75,76])] Tryz.func28 rfl ?_
  repeat'(first|refine gP ?_|(conv=>whnf);first|with_reducible refine Bf.N (λa=>?_) (λa=>?_)|refine C4 d ?_|refine C4 e ?_|refine C4 g ?_|refine C4 n ?_|refine C4 r ?_|refine C4 G ?_)
  all_goals first
   | exact O0 (λz=>[B z]) ((by unfold cQ cC;rw[M0 V];simp))
   |(exfalso;omega)
 cases e7:fm h.b<;>rw[e7]at T
 ·refine fO 150 [(8,10,[67,68,69,70,71,72,73,74,75,76])] Tryz.func28 rfl ?_
  repeat'(first|refine gP ?_|(conv=>whnf);first|with_reducible refine Bf.N (λa=>?_) (λa=>?_)|refine C4 d ?_|refine C4 e ?_|refine C4 g ?_|refine C4 n ?_|refine C4 r ?_|refine C4 G ?_|refine C4 T ?_)
  all_goals first
   | exact O0 (λz=>[B z]) ((by unfold cQ cC;rw[e7];simp))
   |(exfalso;omega)
 have hlay:iv h=true:=by grind [iv]
 have hmc:cC h=true:=by grind [cC]
 refine fO 150 [(8,10,[67,68,69,70,71,72,73,74,75,76])] Tryz.func28 rfl ?_
 repeat'(first|refine gB ?_|(conv=>whnf);first|with_reducible refine Bf.N (λa=>?_) (λa=>?_)|refine C4 d ?_|refine C4 e ?_|refine C4 g ?_|refine C4 n ?_|refine C4 r ?_|refine C4 G ?_|refine C4 T ?_)
 all_goals try(exfalso;omega)
 (conv=>whnf)
 refine C8 (ι:=Nat) (λi=>[(1,.F .box (ac.enc .H h)),(3,.F .one [I ((i:Nat):Int)])]) (λi=>i<=h.b.d.length/\(h.b.d.take i).all (λx=>decide (x.y<=h.b0))=true) (λi=>h.b.d.length - i) (0) ?_ ψ λi hi=>?_
 ·exact wB
 obtain⟨hi,ai⟩:=hi;by_cases li:i<h.b.d.length
 ·have p:=ao li
  repeat'(first|refine gE ?_|(conv=>whnf);first|with_reducible (first|refine C6 (ab p) ?_|refine Bf.D (λa=>?_) (λa=>?_)))
  all_goals first
   | exact O0 (λz=>[B z]) ((by unfold cQ iX;rw[eD p (M0 ω)];simp))
   | ((conv=>whnf);refine C7 (i+1) ⟨ω,bT p ai (L0 ω)⟩ ω ?_;(exact wB))
 have hsi:iX h=true:=jF ω ai
 repeat'(first|refine gE ?_|fail)
 (conv=>whnf)
 refine C8 (ι:=Nat) (λk=>[(1,.F .box (ac.enc .H h)),(4,.F .one [I ((k:Nat):Int)])]) (λk=>k<=h.O.length/\(h.O.take k).all bL=true) (λk=>h.O.length - k) (0) ?_ ψ λk hk=>?_
 ·exact wB
 obtain⟨hk,ak⟩:=hk;by_cases lk:k<h.O.length
 ·have p:=ao lk
  have W:=hP (nth h.O k) (y.2 _ (aF lk));cases e8:bL (nth h.O k)<;>rw[e8]at W
  ·repeat'(first|refine gE ?_|(conv=>whnf);first|with_reducible refine C6 (ab p) ?_|refine C4 W ?_)
   exact O0 (λz=>[B z]) ((by grind [cQ]))
  repeat'(first|refine gE ?_|(conv=>whnf);first|with_reducible refine C6 (ab p) ?_|refine C4 W ?_)
  ((conv=>whnf);refine C7 (k+1) ⟨ω,bT p ak e8⟩ ω ?_;(exact wB))
 have hca:h.O.all bL=true:=jF ω ak;have q:=zS h b j H R S (λo ho=>(Q.2 o ho).2.1);have c10:=yO h M O H U ψ;have c11:=B0 h.r F;have c12:=z7 h.r F;have c13:=jb h h.r.h.a4 b.1;have c14:=jb h h.r.h.a1 b.1;by_cases hn:fp h=true;rotate_left
 ·have J:fp h=false:=by simpa using hn
  have c:=J;unfold fp at c;rw[decide_eq_false_iff_not]at c;cases L:dK h<;>rw[L]at q<;>cases e10:fS h<;>rw[e10]at c10
  all_goals
   repeat'(first|refine gE ?_|(conv=>whnf);first|with_reducible refine Bf.D (λa=>?_) (λa=>?_)|refine C4 (aN _ _ _) ?_|refine C4 q ?_|refine C4 c10 ?_)
   all_goals first
    | exact O0 (λz=>[B z]) ((by unfold cQ;rw[J];simp))
    |(exfalso;omega)
 have c:=hn;unfold fp at c;rw[C0]at c;cases L:dK h<;>rw[L]at q
 ·repeat'(first|refine gE ?_|(conv=>whnf);first|with_reducible refine Bf.D (λa=>?_) (λa=>?_)|refine C4 (aN _ _ _) ?_|refine C4 q ?_)
  all_goals first
   | exact O0 (λz=>[B z]) ((by unfold cQ;rw[L];simp))
   |(exfalso;omega)
 cases e10:fS h<;>rw[e10]at c10
 ·repeat'(first|refine gE ?_|(conv=>whnf);first|with_reducible refine Bf.D (λa=>?_) (λa=>?_)|refine C4 (aN _ _ _) ?_|refine C4 q ?_|refine C4 c10 ?_)
  all_goals first
   | exact O0 (λz=>[B z]) ((by unfold cQ;rw[e10];simp))
   |(exfalso;omega)
 have K:cQ h=o6 h:=by grind [cQ]
 rw[K];unfold o6;cases em:h.a0
 ·repeat'(first|refine gE ?_|(conv=>whnf);first|with_reducible refine Bf.D (λa=>?_) (λa=>?_)|refine C4 (aN _ _ _) ?_|refine C4 q ?_|refine C4 c10 ?_|refine C4 c11 ?_|refine Bf.f em ?_)
  grind
 cases e12:oE h.r<;>rw[e12]at c12
 all_goals
  repeat'(first|refine gE ?_|(conv=>whnf);first|with_reducible (first|refine Bf.D (λa=>?_) (λa=>?_)|refine Bf.D (λa=>?_) (λa=>?_))|refine C4 (aN _ _ _) ?_|refine C4 q ?_|refine C4 c10 ?_|refine C4 c12 ?_|refine C4 c13 ?_|refine C4 c14 ?_|refine Bf.t em ?_)
  all_goals first
   | exact O0 (λz=>[B z]) (ψ)
   |(exfalso;omega)
set_option maxHeartbeats 4000000
def sorted(xs:List Int):List Int:=xs.mergeSort λx y=>decide (x<=y)
theorem rF(xs:List Int):(sorted xs).length=xs.length:=List.length_mergeSort ..
theorem yN{w a:World}{g n:Nat}{d:Array Int}{os:Array Obj}{c:Array Value}{e:TypeId}{h:Nat × Nat}(i:w.heap[g]? = some (.cells c e h))(j:a=Sort.grow (Sort.putRow (Value.int .i64) (Sort.ahead w n) g 0 d) os) :
  a.os=w.os/\a.tape=w.tape/\a.output=w.output/\w.heap.size<=a.heap.size/\(∀b,b<w.heap.size->b≠g->a.heap[b]? = w.heap[b]?)/\a.heap[g]? = some (.cells (Sort.putCells (Value.int .i64) 0 d c) e h):=by
 subst j;have f:g<w.heap.size:=ψ
 have k:∀b,b<w.heap.size->(Sort.grow (Sort.putRow (Value.int .i64) (Sort.ahead w n) g 0 d) os).heap[b]? = if g=b then(w.heap[b]?).map (Sort.onCells (Sort.putCells (Value.int .i64) 0 d)) else w.heap[b]?:=λb l=>by grind [Go.Sort.heap_grow_old,Go.Sort.putRow,Go.Sort.mapBlock,Go.Sort.ahead]
 refine⟨rfl,rfl,rfl,?_,λb l o=>?_,?_⟩
 ·grind
 ·grind
 rw[k g f,CA rfl,i];rfl
theorem FQ(d:Array Int)(c:Array Value)(q:Nat):(Sort.putCells (Value.int .i64) 0 d c)[q]? = if q<d.size then(c[q]?).map (λ_=>.int .i64 d[q]!) else c[q]?:=by grind [Go.Sort.putCells]
theorem row1{w:World}{S Y:aa}{c:C}{v:Value}(h:cF w S Y c v):bH w S Y [c] (λ_=>v):=by
 refine⟨λ_=>Y,λj a b=>?_,λ_ _ _ _ h=>h,ψ⟩
 all_goals grind
def Kb(Y:aa):Nat->aa
 | 0=>Y
 | _+1=>NO
theorem EZ(xs:List Int){j:Nat}(a:j<xs.length):xs.toArray[j]! = xs[j]:=ψ
theorem FW(xs:List Int)(hl:xs.length<=1048576*64):bR Tryz.prog 247 false [.mut none (aK .own xs)] [.mut none (aK .own (sorted xs))] (.tup []) []:=by
 refine⟨⟨_,Tryz.func247,by kernel_rfl,by kernel_rfl⟩,λw S V vs hS hV hVV O=>?_⟩
 match vs,O with
 | [v],⟨O,_⟩=>
  have y:=aX.rep1 (show aX w S (V 0) none [C.s .own (xs.map (rI .own))] v from O);generalize D:C.s .own (xs.map (rI .own))=cc at y;cases y with
  | nil _ o a P=>
   cases hcc0:xs with
   | cons x xs'=>grind
   | nil=>
    refine(Tryz.slices_Sort_int_none a 0 w).mono λe p ⟨Q,E⟩=>?_
    subst E;refine⟨.tuple #[],Q,CN _ _,NO,λ_=>NO,NO,λ_ _ h=>h.elim,λ_ _ _ h=>h.elim,λ_ _ h=>h.elim,λ_ _ _ _ _ h=>h.elim,λ_ _ _ h=>h.elim,λ_ _ h=>h.elim,λ_ _ _ h=>h.elim,⟨#[],rfl,trivial,rfl⟩,bH.nil _ _ _ _,⟨⟨rfl,λ_=>.slice a 0 0,rfl,row1 (by rw[show sorted []=[] from List.mergeSort_nil ..];exact .nil _ .own _ trivial)⟩,trivial⟩⟩
  | suf _ o g off k n t G u f P=>cases D;exact P.elim
  | own _ o g k n t G u f P hn hk H J hF hu hf hd hc=>
   cases D;have R:n=xs.length:=ψ
   have T:0<xs.length:=ω
   have U:k=1:=by
    have:=hk (rI .own xs[0]) ψ;exact this.symm
   subst U R;have B:∀j (l:j<xs.length),cel w g j=some (.int .i64 xs[j]):=λj l=>by
    have h1:=hu j ω;have W:=hc j 0 (rI .own xs[j]) (I xs[j]) ψ rfl;rw[Nat.mul_one,Nat.add_zero]at W;rw[h1];generalize u j=z at W;cases W
    rfl
   have X:g<w.heap.size:=ψ
   obtain⟨c,e0,fr,hg,-⟩:=Sort.cells_of_cell? (B 0 T);have hH:Sort.Holds (Value.int .i64) w g 0 xs.toArray:=λj l=>by
    have K:j<xs.length:=by simpa using l
    refine⟨?_,?_⟩
    ·rw[EZ xs K,O3];exact B j K
    rw[O3];exact O0 Prod.fst (hF j ω).2.2
   refine(Tryz.slices_Sort_int g 0 t xs w hH X ω).mono λe p ⟨Q,m,os,E⟩=>?_
   obtain⟨q1,q2,q3,q4,q5,q6⟩:=yN hg E;have hsl:=rF xs;have hcel:∀q,cel w g q=c[q]?:=λq=>by grind [Go.World.cell?]
   have Y:∀q,cel p g q=if q<xs.length then(c[q]?).map (λ_=>.int .i64 (sorted xs).toArray[q]!) else c[q]?:=λq=>by grind [FQ,Go.World.cell?,sorted]
   have d:∀q (Z:q<xs.length),cel p g q=some (.int .i64 ((sorted xs)[q]'(ω))):=ψ
   have L:∀q,fro p g q=fro w g q:=λq=>by
    refine Prod.ext ?_ ?_
    ·grind [Go.World.frozen?]
    grind [mp,Go.Sort.putCells]
   have hother:∀b,b<w.heap.size->b≠g->∀o,cel p b o=cel w b o/\fro p b o=fro w b o:=λb hb M o=>by grind [Go.World.cell?,Go.World.frozen?,mp]
   have F:bk (λb o=>∃i,V i b o) w p:=by
    refine⟨q1,q2,q3,q4,ψ,λb o hb hn=>?_,λb o hb hn=>?_⟩
    all_goals grind
   refine⟨.tuple #[],Q,F,NO,Kb (V 0),NO,λ_ _ h=>h.elim,λi b o h=>?_,λ_ _ h=>h.elim,λi i' M b o h h'=>?_,λ_ _ _ h=>h.elim,λ_ _ h=>h.elim,λ_ _ _ _ h=>h.elim,⟨#[],rfl,trivial,rfl⟩,bH.nil _ _ _ _,⟨⟨rfl,λ_=>.slice (some ⟨g,0,none⟩) xs.length t,rfl,row1 ?_⟩,trivial⟩⟩
   ·cases i with
    | zero=>exact .inl ⟨0,h⟩
    | succ i=>exact h.elim
   ·cases i with
    | zero=>
     cases i' with
     | zero=>exact M rfl
     | succ i'=>exact h'.elim
    | succ i=>exact h.elim
   show cF p _ (V 0) _ _;refine .own _ .own g 1 xs.length t _ (λq=>(cel p g q).getD undef) (λ_=>NO) trivial ψ (λr hr=>by obtain⟨z,-,rfl⟩:=C2.1 hr;rfl) H J (λq Z=>?_) (λq Z=>?_) (λ_ _ _ _ h=>h.elim) (λ_ _ _ _ _ _ _ h=>h.elim) (λi j r c2 N l=>?_)
   ·obtain⟨a1,⟨z,a2,a3⟩,a4⟩:=hF q Z
    refine⟨a1,?_,(L q).trans a4⟩;by_cases hqx:q<xs.length
    ·exact⟨_,d q hqx,rfl⟩
    grind
   ·grind
   rw[P1]at N;have hil:i<(sorted xs).length:=ψ
   rw[C1 hil]at N;simp only[Q2,P0]at N;subst N
   match j,l with
   | 0,l=>
    simp only[rI,List.getElem?_cons_zero,P0]at l;subst l;simp only[Nat.mul_one,Nat.add_zero,d i ω,Option.getD_some];exact .v _ _ rfl
   | j+1,l=>simp[rI]at l
  | _=>cases D
set_option maxHeartbeats 8000000
def iw(s:ah)(k:Nat):Int:=16*s.M+(k:Nat)*csz s.T
def dk(s:ah)(n:Nat):List Int:=((List.range n).filter λk=>bp s.l (k:Nat)).map (iw s)
theorem we{s:ah}{n:Nat}(h:bp s.l (n:Nat)=true):dk s (n+1)=dk s n++[iw s n]:=by grind [List.range_succ,dk]
theorem wF{s:ah}{n:Nat}(h:bp s.l (n:Nat)=false):dk s (n+1)=dk s n:=by grind [List.range_succ,dk]
theorem o5(s:ah)(n:Nat):(dk s n).length<=n:=by grind [dk]
def dO(sp:List ah):List Int:=sp.flatMap λs=>dk s (slots s.T).toNat
def live0(sp:List ah)(la:List am):List Int:=dO sp++la.map λl=>16*l.M
def ku(sp:List ah)(la:List am):List Int:=sorted (live0 sp la)
theorem oJ(k:Int):0<=slots k/\slots k<=16:=by grind [slots]
def uG{k:Int}(h:0<=k/\k<=3):slots k*csz k=16:=by
 obtain rfl|rfl|rfl|rfl:k=0\/k=1\/k=2\/k=3:=ω
 all_goals decide
theorem sC{sp:List ah}{i:Nat}{s:ah}(h:sp[i]? = some s):dO (sp.take (i+1))=dO (sp.take i)++dk s (slots s.T).toNat:=by grind [U2,dO]
def tT(s:ah)(k:Nat)(a:bn s=true)(i:(k:Int)<slots s.T):af Tryz.prog 246 false [.val (some 3) (ah.enc .H s),.val none [I (k:Nat)]] .one [I (iw s k)]:=by
 have b:=f8 s;have c:=bN s.T;have g:=fN s.T;rw[a]at b;have d:=aR a;have j:=oJ s.T;rcases cS ⟨d.2.2.1,d.2.2.2⟩ with e|e|e|e<;>rw[e]at c
 all_goals
  refine fO 26 [(3,9,[17,18,19,20,21,22,23,24,25])] Tryz.func246 rfl ?_
  repeat'(first|refine gE ?_|(conv=>whnf);first|with_reducible refine Bf.D (λh=>?_) (λh=>?_)|refine C4 b ?_|refine C4 c ?_|refine C4 g ?_|refine C4 (aE _ 0 _) ?_)
  all_goals exact O0 (λz=>[I z]) (by unfold iw;rw[e];omega)
theorem rn(sp:List ah)(la:List am)(c:bJ sp)(d:bw la)(a:bb sp la=true):af Tryz.prog 208 false [.val none (bi .H sp),.val none (aP .H la)] .one (aK .own (ku sp la)):=by
 have D:=c.1;have E:=d.1;have B:=ji sp la c d;rw[a]at B;obtain⟨o,F,-⟩:=eB a;refine fP 56 [(247,[1])] [] Tryz.func208 rfl ?_ (.inr (cu _))
 repeat'(first|refine gP ?_|(conv=>whnf);first|refine C4 B ?_)
 (conv=>whnf)
 refine C8 (ι:=Nat × List Int) (λi=>[(1,.F .one (aP .H la)),(5,.F .one (aK .own i.2)),(16,.F .one (bi .H sp)),(17,.F .one [I (sp.length)]),(18,.F .one [I ((i.1:Nat):Int)])]) (λi=>i.1<=sp.length/\i.2=dO (sp.take i.1)/\i.2.length<=16*i.1) (λi=>sp.length - i.1) ((0,[])) ?_ (⟨N0 _,rfl,N0 _⟩) λi e=>?_
 ·exact wB
 obtain⟨i,S⟩:=i;obtain⟨e,p,G⟩:=e;simp only at e p G |-;by_cases j:i<sp.length
 ·have n:=ao j
  have g:bn (nth sp i)=true:=FK o j;have H:=oJ (nth sp i).T;have q:=dB g
  repeat'(first|refine gE ?_|(conv=>whnf);first|with_reducible refine C6 (ab n) ?_)
  (conv=>whnf)
  refine C8 (ι:=Nat × List Int) (λk=>[(1,.F .one (aP .H la)),(5,.F .one (aK .own k.2)),(7,.F .box (ah.enc .H (nth sp i))),(8,.F .one [I ((k.1:Nat):Int)]),(16,.F .one (bi .H sp)),(17,.F .one [I (sp.length)]),(18,.F .one [I ((i:Nat):Int)])]) (λk=>k.1<=(slots (nth sp i).T).toNat/\k.2=S++dk (nth sp i) k.1) (λk=>(slots (nth sp i).T).toNat - k.1) ((0,S)) ?_ (⟨N0 _,by simp[dk]⟩) λk t=>?_
  ·exact wB
  obtain⟨k,S2⟩:=k;obtain⟨t,b⟩:=t;simp only at t b |-;have J:=o5 (nth sp i) k;have h:S2.length=S.length+(dk (nth sp i) k).length:=ψ
  by_cases M:k<(slots (nth sp i).T).toNat
  ·have u:=jH (nth sp i).l (k:Nat) q.2
   cases K:bp (nth sp i).l (k:Nat)<;>rw[K]at u
   ·repeat'(first|refine gE ?_|(conv=>whnf);first|refine C4 (fN _) ?_|refine C4 u ?_)
    ((conv=>whnf);refine C7 (k+1,S2) ⟨(by simp only;omega),(by grind [wF])⟩ (by simp only;omega) ?_;(exact wB))
   repeat'(first|refine gE ?_|(conv=>whnf);first|refine C4 (fN _) ?_|refine C4 u ?_|refine C4 (tT (nth sp i) k g ω) ?_|refine CI cJ (λr w=>by rw[T0.1 w];rfl) (by simp[aQ,cW]) (by simp;omega) (by show _*8<=_;simp;omega) rfl ?_)
   ((conv=>whnf)
    refine C7 (k+1,S2++[iw (nth sp i) k]) ⟨(by simp only;omega),(by grind [we])⟩ (by simp only;omega) ?_
    (repeat'(first|exact trivial|rfl|exact C5 rfl (C5 (O0 (C.s dm.own) (by simp[rI])) trivial)|refine C5 ?_ ?_)))
  obtain rfl:k=(slots (nth sp i).T).toNat:=ω
  repeat'(first|refine gE ?_|(conv=>whnf);first|refine C4 (fN _) ?_)
  ((conv=>whnf);refine C7 (i+1,S2) ⟨(by simp only;omega),(by grind [sC]),(by simp only;omega)⟩ (by simp only;omega) ?_;(exact wB))
 obtain rfl:i=sp.length:=ω
 rw[P2]at p
 repeat'(first|refine gE ?_|fail)
 (conv=>whnf)
 refine C8 (ι:=Nat × List Int) (λi=>[(5,.F .one (aK .own i.2)),(40,.F .one (aP .H la)),(41,.F .one [I (la.length)]),(42,.F .one [I ((i.1:Nat):Int)])]) (λi=>i.1<=la.length/\i.2=S++(la.take i.1).map (λl=>16*l.M)) (λi=>la.length - i.1) ((0,S)) ?_ ψ λi e=>?_
 ·exact wB
 obtain⟨i,S2⟩:=i;obtain⟨y,b⟩:=e;simp only at y b |-;have h:S2.length=S.length+i:=ψ
 by_cases j:i<la.length
 ·have n:=ao j
  have L:=pj a n
  repeat'(first|refine gE ?_|(conv=>whnf);first|with_reducible refine C6 (ab n) ?_|refine CI cJ (λr w=>by rw[T0.1 w];rfl) (by simp[aQ,cW]) (by simp;omega) (by show _*8<=_;simp;omega) rfl ?_)
  ((conv=>whnf)
   refine C7 (i+1,S2++[16*(nth la i).M]) ⟨(by simp only;omega),(by grind [U2])⟩ (by simp only;omega) ?_
   (repeat'(first|exact trivial|rfl|exact C5 rfl (C5 (O0 (C.s dm.own) (by simp[rI];omega)) trivial)|refine C5 ?_ ?_)))
 obtain rfl:i=la.length:=ω
 rw[P2]at b
 repeat'(first|refine gE ?_|(conv=>whnf);first|refine CE (FW S2 ω) (.inl rfl) ?_)
 show _=aK .own (sorted (dO sp++la.map λl=>16*l.M));rw[<-p,<-b];rfl
def ne(b:List (Int × Value))(L:List Int):Prop:=∀a,mlook b a (.int .i64 0)=.int .i64 (L.count a:Nat)
theorem Df(c:List (Int × Value))(a b:Int)(v d:Value):mlook (mput c a v) b d=if a=b then v else mlook c b d:=by
 induction c with
 | nil=>grind [mput,mlook]
 | cons p c e=>
  grind [mput,mlook]
def inc(b:List (Int × Value))(L:List Int)(a:Int):List (Int × Value):=mput b a (.int .i64 ((L.count a:Nat)+1))
def Dg:ne [] []:=λ_=>rfl
theorem mj{d:List (Int × Value)}{L:List Int}(h:ne d L)(a:Int):ne (inc d L a) (L++[a]):=λb=>by
 unfold inc;rw[Df,List.count_append];by_cases c:a=b
 ·grind
 rw[C9 c,h b,List.count_singleton,C9 (by simpa using c)];rfl
theorem ws(h:ac)(d:bJ h.G)(e:bw h.J)(b:List (Int × Value))(L:List Int)(a c:Int)(g:ne b L)(n:L.length<=1000000000) :
  bR Tryz.prog 207 false [.val none [I a],.val none [I c],.ptr [.m b],.ptr (ac.enc .H h)] [.val none [I a],.val none [I c],.ptr [.m (inc b L a)],.ptr (ac.enc .H h)] .one [B (ct h a c)]:=by
 have k:=jU h.G h.J a d e;obtain⟨i,-⟩:=jL h.G h.J a;have l:L.count a<=L.length:=List.count_le_length;unfold ct;generalize denotes h.G h.J a=w at k i |-;refine fM 41 [] [] [(0,0),(0,0),(0,0),(0,0)] Tryz.func207 rfl (λu q=>?_)
 repeat'(first|refine gP ?_|(conv=>whnf);first|with_reducible (first|refine Bf.D (λj=>?_) (λj=>?_)|refine Bf.E (λj=>?_) (λj=>?_))|refine Ml.mk (g a) ?_|refine Mu.mk (es':=inc b L a) rfl ?_|refine C4 k ?_|refine CJ (i (by assumption)).1 (ab (ao (i (by assumption)).2)) ?_)
 all_goals
  refine CL rfl ?_ ?_
  ·exact O0 (λz=>[B z]) (ψ)
  exact wB
set_option maxHeartbeats 8000000
def om(h:ac)(a:ay):Bool:=eS h a&&decide (a.y<=h.b0)
def jA(h:ac):List Int:=((i6 h++h.b.d.map (·.Z))++ax h.Y)++h.S.map (·.Z)
def gm(h:ac):Bool:=((h.O.all (d8 h)&&h.b.d.all (om h))&&(ax h.Y).all (gh h))&&(ku h.G h.J).all λa=>decide ((jA h).count a=1)
theorem Gi{h:ac}(a:h.O.all (d8 h)=false):gm h=false:=by grind [gm]
theorem A9{h:ac}(a:h.b.d.all (om h)=false):gm h=false:=by grind [gm]
theorem FA{h:ac}(a:(ax h.Y).all (gh h)=false):gm h=false:=by grind [gm]
theorem Gr{h:ac}(b:((ku h.G h.J).all λa=>decide ((jA h).count a=1))=false):gm h=false:=by grind [gm]
theorem Dk{sp:List ah}{la:List am}(a:sp.length<=1048576)(b:la.length<=1048576):(ku sp la).length<=100000000:=by
 have c:∀(l:List ah),(dO l).length<=16*l.length:=by
  intro l
  induction l with
  | nil=>exact N0 _
  | cons s l d=>
   have e:dO (s::l)=dk s (slots s.T).toNat++dO l:=by grind [dO]
   have f:=oJ s.T
   grind [o5]
 grind [rF,ku,live0]
theorem tn(h:ac)(hs:ac.sml h)(P:bb h.G h.J=true)(G:de h.Y=true)(Z:∀c∈h.O,bL c=true):af Tryz.prog 135 false [.val (some 24) (ac.enc .H h)] .one [B (gm h)]:=by
 obtain⟨-,-,p,r,hso,hsc,hsm,hsq,-⟩:=hs;have hlo:h.S.length<=1048576:=hso.1;have hlc:h.O.length<=1048576:=hsc.1;have hlq:h.b.d.length<=1048576:=hsq.1;have hfl:=ig G;have t:gm h=false->[B false]=[B (gm h)]:=λe=>by rw[e]
 refine fP 114 [(207,[0,0,2,2])] [] Tryz.func135 rfl ?_
 repeat'(first|refine gP ?_|fail)
 (conv=>whnf)
 refine C8 (ι:=Nat × List (Int × Value) × List Int) (λi=>[(1,.F .box (ac.enc .H h)),(3,.F .box [.m i.2.1]),(4,.fn 207 [3,1]),(22,.F .one (cP .H h.O)),(23,.F .one [I (h.O.length)]),(24,.F .one [I ((i.1:Nat):Int)])]) (λi=>i.1<=h.O.length/\ne i.2.1 i.2.2/\i.2.2=((h.O.take i.1).flatMap λc=>c.W.flatten)/\(h.O.take i.1).all (d8 h)=true/\i.2.2.length<=32*i.1) (λi=>h.O.length - i.1) ((0,[],[])) ?_ (⟨N0 _,Dg,rfl,rfl,N0 _⟩) λi hi=>?_
 ·exact wB
 obtain⟨i,es,L⟩:=i;obtain⟨hi,Q,hL,ai,hb⟩:=hi;simp only at hi Q hL ai hb |-;by_cases li:i<h.O.length
 ·have W:=ao li
  obtain⟨h4,h8⟩:=gw (Z _ (aF li))
  repeat'(first|refine gE ?_|(conv=>whnf);first|with_reducible refine C6 (ab W) ?_)
  (conv=>whnf)
  refine C8 (ι:=Nat × List (Int × Value) × List Int) (λk=>[(1,.F .box (ac.enc .H h)),(3,.F .box [.m k.2.1]),(4,.fn 207 [3,1]),(22,.F .one (cP .H h.O)),(23,.F .one [I (h.O.length)]),(24,.F .one [I ((i:Nat):Int)]),(29,.F .one (dn .H (nth h.O i).W)),(30,.F .one [I ((nth h.O i).W.length)]),(31,.F .one [I ((k.1:Nat):Int)])]) (λk=>k.1<=(nth h.O i).W.length/\ne k.2.1 k.2.2/\k.2.2=L++((nth h.O i).W.take k.1).flatten/\cB k.1 (oW h (nth h.O i))=true/\k.2.2.length<=L.length+8*k.1) (λk=>(nth h.O i).W.length - k.1) ((0,es,L)) ?_ (⟨N0 _,Q,by simp,rfl,by simp⟩) λk hk=>?_
  ·exact wB
  obtain⟨k,es3,X⟩:=k;obtain⟨hk,F,R,ak,hb3⟩:=hk;simp only at hk F R ak hb3 |-;by_cases lk:k<(nth h.O i).W.length
  ·have hy:=ao lk
   have hl8:=h8 _ (aF lk)
   repeat'(first|refine gE ?_|(conv=>whnf);first|with_reducible (first|refine C6 (ab W) ?_|refine C6 (ab hy) ?_))
   (conv=>whnf)
   refine C8 (ι:=Nat × List (Int × Value) × List Int) (λj=>[(1,.F .box (ac.enc .H h)),(3,.F .box [.m j.2.1]),(4,.fn 207 [3,1]),(7,.F .one [I ((k:Nat):Int)]),(22,.F .one (cP .H h.O)),(23,.F .one [I (h.O.length)]),(24,.F .one [I ((i:Nat):Int)]),(29,.F .one (dn .H (nth h.O i).W)),(30,.F .one [I ((nth h.O i).W.length)]),(31,.F .one [I ((k:Nat):Int)]),(36,.F .one (aK .H (nth (nth h.O i).W k))),(37,.F .one [I ((nth (nth h.O i).W k).length)]),(38,.F .one [I ((j.1:Nat):Int)])]) (λj=>j.1<=(nth (nth h.O i).W k).length/\ne j.2.1 j.2.2/\j.2.2=X++(nth (nth h.O i).W k).take j.1/\((nth (nth h.O i).W k).take j.1).all (λa=>ct h a (k:Nat))=true) (λj=>(nth (nth h.O i).W k).length - j.1) ((0,es3,X)) ?_ ψ λj hj=>?_
   ·exact wB
   obtain⟨j,es4,S⟩:=j;obtain⟨hj,l,T,Y⟩:=hj;simp only at hj l T Y |-;have hl4:S.length=X.length+j:=ψ
   by_cases lj:j<(nth (nth h.O i).W k).length
   ·have d:=ao lj
    have b:=ws h p r es4 S (nth (nth (nth h.O i).W k) j) (k:Nat) l ω;cases o:ct h (nth (nth (nth h.O i).W k) j) (k:Nat)<;>rw[o]at b
    ·repeat'(first|refine gE ?_|(conv=>whnf);first|with_reducible refine C6 (ab d) ?_|refine CE (b) (.inl rfl) ?_)
     exact t (Gi (eD W (by unfold d8;exact bC lk (eD d o))))
    repeat'(first|refine gE ?_|(conv=>whnf);first|with_reducible refine C6 (ab d) ?_|refine CE (b) (.inl rfl) ?_)
    ((conv=>whnf)
     refine C7 (j+1,inc es4 S (nth (nth (nth h.O i).W k) j),S++[nth (nth (nth h.O i).W k) j]) ⟨(by simp only;omega),mj l _,(by grind [U2]),bT d Y o⟩ (by simp only;omega) ?_
     (exact wA))
   obtain rfl:j=(nth (nth h.O i).W k).length:=ω
   rw[P2]at T Y
   repeat'(first|refine gE ?_|fail)
   ((conv=>whnf);refine C7 (k+1,es4,S) ⟨(by simp only;omega),l,(by grind [sw]),bm ak Y,(by simp only;omega)⟩ (by simp only;omega) ?_;(exact wB))
  obtain rfl:k=(nth h.O i).W.length:=ω
  rw[P2]at R
  repeat'(first|refine gE ?_|fail)
  ((conv=>whnf);refine C7 (i+1,es3,X) ⟨(by simp only;omega),F,(by grind [qi]),bT W ai ak,(by simp only;omega)⟩ (by simp only;omega) ?_;(exact wB))
 obtain rfl:i=h.O.length:=ω
 rw[P2]at hL ai
 repeat'(first|refine gE ?_|fail)
 (conv=>whnf)
 refine C8 (ι:=Nat × List (Int × Value) × List Int) (λq=>[(1,.F .box (ac.enc .H h)),(3,.F .box [.m q.2.1]),(4,.fn 207 [3,1]),(52,.F .one (bO .H h.b.d)),(53,.F .one [I (h.b.d.length)]),(54,.F .one [I ((q.1:Nat):Int)])]) (λq=>q.1<=h.b.d.length/\ne q.2.1 q.2.2/\q.2.2=L++(h.b.d.take q.1).map (·.Z)/\(h.b.d.take q.1).all (om h)=true) (λq=>h.b.d.length - q.1) ((0,es,L)) ?_ ψ λq u=>?_
 ·exact wB
 obtain⟨q,es5,H⟩:=q;obtain⟨w,y,E,aq⟩:=u;simp only at w y E aq |-;have hl5:H.length=L.length+q:=ψ
 by_cases U:q<h.b.d.length
 ·have d:=ao U
  have b:=ws h p r es5 H (nth h.b.d q).Z (nth h.b.d q).T y ω;cases o:ct h (nth h.b.d q).Z (nth h.b.d q).T<;>rw[o]at b
  ·repeat'(first|refine gE ?_|(conv=>whnf);first|with_reducible (first|refine C6 (ab d) ?_|refine Bf.D (λu=>?_) (λu=>?_))|refine CE (b) (.inl rfl) ?_)
   all_goals exact t (A9 (eD d (by unfold om eS;rw[o];rfl)))
  repeat'(first|refine gE ?_|(conv=>whnf);first|with_reducible (first|refine C6 (ab d) ?_|refine Bf.D (λu=>?_) (λu=>?_))|refine CE (b) (.inl rfl) ?_)
  all_goals first
   |exact t (A9 (eD d (by unfold om eS;rw[o,M0 ω];rfl)))
   | ((conv=>whnf)
      refine C7 (q+1,inc es5 H (nth h.b.d q).Z,H++[(nth h.b.d q).Z]) ⟨(by simp only;omega),mj y _,(by simp only;rw[E,U2,d,X2,W2];rfl),bT d aq (by unfold om eS;rw[o,L0 ω];rfl)⟩ (by simp only;omega) ?_
      (exact wA))
 obtain rfl:q=h.b.d.length:=ω
 rw[P2]at E aq
 repeat'(first|refine gE ?_|(conv=>whnf);first|refine C4 (mX h.Y hsm) ?_)
 (conv=>whnf)
 refine C8 (ι:=Nat × List (Int × Value) × List Int) (λq=>[(1,.F .box (ac.enc .H h)),(3,.F .box [.m q.2.1]),(4,.fn 207 [3,1]),(75,.F .one (aK .own (ax h.Y))),(76,.F .one [I ((ax h.Y).length)]),(77,.F .one [I ((q.1:Nat):Int)])]) (λq=>q.1<=(ax h.Y).length/\ne q.2.1 q.2.2/\q.2.2=H++(ax h.Y).take q.1/\((ax h.Y).take q.1).all (gh h)=true) (λq=>(ax h.Y).length - q.1) ((0,es5,H)) ?_ ψ λq u=>?_
 ·exact wB
 obtain⟨q,es6,J⟩:=q;obtain⟨w,C,K,aq6⟩:=u;simp only at w C K aq6 |-;have hl6:J.length=H.length+q:=ψ
 by_cases U:q<(ax h.Y).length
 ·have d:=ao U
  have b:=ws h p r es6 J (nth (ax h.Y) q) (-1) C ω;cases o:ct h (nth (ax h.Y) q) (-1)<;>rw[o]at b
  ·repeat'(first|refine gE ?_|(conv=>whnf);first|with_reducible refine C6 (ab d) ?_|refine CM rfl (ab d) rfl ?_|refine CE (b) (.inl rfl) ?_)
   exact t (FA (eD d o))
  repeat'(first|refine gE ?_|(conv=>whnf);first|with_reducible refine C6 (ab d) ?_|refine CM rfl (ab d) rfl ?_|refine CE (b) (.inl rfl) ?_)
  ((conv=>whnf)
   refine C7 (q+1,inc es6 J (nth (ax h.Y) q),J++[nth (ax h.Y) q]) ⟨(by simp only;omega),mj C _,(by grind [U2]),bT d aq6 o⟩ (by simp only;omega) ?_
   (exact wA))
 obtain rfl:q=(ax h.Y).length:=ω
 rw[P2]at K aq6
 repeat'(first|refine gE ?_|fail)
 (conv=>whnf)
 refine C8 (ι:=Nat × List (Int × Value) × List Int) (λq=>[(1,.F .box (ac.enc .H h)),(3,.F .box [.m q.2.1]),(87,.F .one (ee .H h.S)),(88,.F .one [I (h.S.length)]),(89,.F .one [I ((q.1:Nat):Int)])]) (λq=>q.1<=h.S.length/\ne q.2.1 q.2.2/\q.2.2=J++(h.S.take q.1).map (·.Z)) (λq=>h.S.length - q.1) ((0,es6,J)) ?_ ψ λq u=>?_
 ·exact wB
 obtain⟨q,es7,M⟩:=q;obtain⟨w,g,O⟩:=u;simp only at w g O |-;have hl7:M.length=J.length+q:=ψ
 by_cases U:q<h.S.length
 ·have d:=ao U
  have hcl:M.count (nth h.S q).Z<=M.length:=List.count_le_length
  repeat'(first|refine gE ?_|(conv=>whnf);first|with_reducible refine C6 (ab d) ?_|refine Ml.mk (g _) ?_|refine Mu.mk (es':=inc es7 M (nth h.S q).Z) rfl ?_)
  ((conv=>whnf)
   refine C7 (q+1,inc es7 M (nth h.S q).Z,M++[(nth h.S q).Z]) ⟨(by simp only;omega),mj g _,(by grind [U2])⟩ (by simp only;omega) ?_
   (exact wA))
 obtain rfl:q=h.S.length:=ω
 rw[P2]at O;have V:M=jA h:=by rw[O,K,E,hL];rfl
 have hlv:=Dk p.1 r.1
 repeat'(first|refine gE ?_|(conv=>whnf);first|refine C4 (rn h.G h.J p r P) ?_)
 (conv=>whnf)
 refine C8 (ι:=Nat) (λn=>[(3,.F .box [.m es7]),(103,.F .one (aK .own (ku h.G h.J))),(104,.F .one [I ((ku h.G h.J).length)]),(105,.F .one [I ((n:Nat):Int)])]) (λn=>n<=(ku h.G h.J).length/\((ku h.G h.J).take n).all (λa=>decide ((jA h).count a=1))=true) (λn=>(ku h.G h.J).length - n) (0) ?_ ψ λn hn=>?_
 ·exact wB
 obtain⟨hn,an⟩:=hn;by_cases ln:n<(ku h.G h.J).length
 ·have d:=ao ln
  rw[V]at g
  repeat'(first|refine gE ?_|(conv=>whnf);first|with_reducible (first|refine C6 (ab d) ?_|refine Bf.N (λu=>?_) (λu=>?_))|refine CM rfl (ab d) rfl ?_|refine Ml.mk (g _) ?_)
  all_goals first
   |exact t (Gr (eD d (M0 ω)))
   | ((conv=>whnf);refine C7 (n+1) ⟨ω,bT d an (L0 ω)⟩ ω ?_;(exact wB))
 repeat'(first|refine gE ?_|fail)
 exact O0 (λz=>[B z]) ((by grind [gm]))
set_option maxHeartbeats 8000000
def gT(h:ac):Bool:=(((((((dh h.X&&cr (fe h) h.p)&&bb h.G h.J)&&(pages0 h&&lI h))&&cC h)&&h.O.all bL)&&(dK h&&gm h))&&fp h)&&o6 h
theorem qv(h:ac)(S:ac.sml h):af Tryz.prog 43 false [.val (some 24) (ac.enc .H h)] .one [B (gT h)]:=by
 have G:=S;obtain⟨n,o,b,g,H,p,q,J,r⟩:=S;have u:vB h:=n.1.2;have hpn:fe h<=1048576:=u.1;have K:h.S.length<=1048576:=H.1;have L:h.O.length<=1048576:=p.1;have hlb:h.Y.Q.length<=1048576:=q.1.1;have hlp:h.r.h.V.length<=1048576:=r;have d:=tL h.X n;have e:=tK (fe h) h.p ω o;have i:=ji h.G h.J b g;have w:=qB h.Y q;have M:=yg h.b J;cases T:dh h.X<;>rw[T]at d
 ·refine fO 154 [] Tryz.func43 rfl ?_
  repeat'(first|refine gP ?_|(conv=>whnf);first|with_reducible refine Bf.N (λa=>?_) (λa=>?_)|refine C4 d ?_)
  all_goals first
   | exact O0 (λz=>[B z]) ((by unfold gT ;rw[T];simp))
   |(exfalso;omega)
 cases U:cr (fe h) h.p<;>rw[U]at e
 ·refine fO 154 [] Tryz.func43 rfl ?_
  repeat'(first|refine gP ?_|(conv=>whnf);first|with_reducible refine Bf.N (λa=>?_) (λa=>?_)|refine C4 d ?_|refine C4 e ?_)
  all_goals first
   | exact O0 (λz=>[B z]) ((by unfold gT ;rw[U];simp))
   |(exfalso;omega)
 cases F:bb h.G h.J<;>rw[F]at i
 ·refine fO 154 [] Tryz.func43 rfl ?_
  repeat'(first|refine gP ?_|(conv=>whnf);first|with_reducible refine Bf.N (λa=>?_) (λa=>?_)|refine C4 d ?_|refine C4 e ?_|refine C4 i ?_)
  all_goals first
   | exact O0 (λz=>[B z]) ((by unfold gT ;rw[F];simp))
   |(exfalso;omega)
 have j:=vk h b g u o F;cases V:(pages0 h&&lI h)<;>rw[V]at j
 ·refine fO 154 [] Tryz.func43 rfl ?_
  repeat'(first|refine gP ?_|(conv=>whnf);first|with_reducible refine Bf.N (λa=>?_) (λa=>?_)|refine C4 d ?_|refine C4 e ?_|refine C4 i ?_|refine C4 j ?_)
  all_goals first
   | exact O0 (λz=>[B z]) ((by unfold gT ;rw[V];simp))
   |(exfalso;omega)
 cases O:de h.Y<;>rw[O]at w
 ·refine fO 154 [] Tryz.func43 rfl ?_
  repeat'(first|refine gP ?_|(conv=>whnf);first|with_reducible refine Bf.N (λa=>?_) (λa=>?_)|refine C4 d ?_|refine C4 e ?_|refine C4 i ?_|refine C4 j ?_|refine C4 w ?_)
  all_goals first
   | exact O0 (λz=>[B z]) ((by unfold gT cC;rw[O];simp))
   |(exfalso;omega)
 by_cases P:h.O.length=h.Y.Q.length;rotate_left
 ·refine fO 154 [] Tryz.func43 rfl ?_
  repeat'(first|refine gP ?_|(conv=>whnf);first|with_reducible refine Bf.N (λa=>?_) (λa=>?_)|refine C4 d ?_|refine C4 e ?_|refine C4 i ?_|refine C4 j ?_|refine C4 w ?_)
  all_goals first
   | exact O0 (λz=>[B z]) ((by unfold gT cC;rw[M0 P];simp))
   |(exfalso;omega)
 cases W:fm h.b<;>rw[W]at M
 ·refine fO 154 [] Tryz.func43 rfl ?_
  repeat'(first|refine gP ?_|(conv=>whnf);first|with_reducible refine Bf.N (λa=>?_) (λa=>?_)|refine C4 d ?_|refine C4 e ?_|refine C4 i ?_|refine C4 j ?_|refine C4 w ?_|refine C4 M ?_)
  all_goals first
   | exact O0 (λz=>[B z]) ((by unfold gT cC;rw[W];simp))
   |(exfalso;omega)
 have hmc:cC h=true:=by grind [cC]
 refine fO 154 [] Tryz.func43 rfl ?_
 repeat'(first|refine gB ?_|(conv=>whnf);first|with_reducible refine Bf.N (λa=>?_) (λa=>?_)|refine C4 d ?_|refine C4 e ?_|refine C4 i ?_|refine C4 j ?_|refine C4 w ?_|refine C4 M ?_)
 all_goals try(exfalso;omega)
 (conv=>whnf)
 refine C8 (ι:=Nat) (λk=>[(1,.F .box (ac.enc .H h)),(57,.F .one (cP .H h.O)),(58,.F .one [I (h.O.length)]),(59,.F .one [I ((k:Nat):Int)])]) (λk=>k<=h.O.length/\(h.O.take k).all bL=true) (λk=>h.O.length - k) (0) ?_ ψ λk X=>?_
 ·exact wB
 obtain⟨X,Y⟩:=X;by_cases Z:k<h.O.length
 ·have Q:=ao Z
  have R:=jO (nth h.O k) (p.2 _ (aF Z));cases e8:bL (nth h.O k)<;>rw[e8]at R
  ·repeat'(first|refine gE ?_|(conv=>whnf);first|with_reducible refine C6 (ab Q) ?_|refine C4 R ?_)
   exact O0 (λz=>[B z]) ((by grind [gT]))
  repeat'(first|refine gE ?_|(conv=>whnf);first|with_reducible refine C6 (ab Q) ?_|refine C4 R ?_)
  ((conv=>whnf);refine C7 (k+1) ⟨ω,bT Q Y e8⟩ ω ?_;(exact wB))
 have hca:h.O.all bL=true:=jF ω Y;have l:=xe h b g K L;have c10:=tn h G F O ψ;have c12:=Af h.r r;have c13:=qp h h.r.h.a4 b.1;have c14:=qp h h.r.h.a1 b.1;cases e9:dK h<;>rw[e9]at l
 ·repeat'(first|refine gE ?_|(conv=>whnf);first|refine C4 l ?_)
  all_goals first
   | exact O0 (λz=>[B z]) ((by unfold gT;rw[e9];simp))
   |(exfalso;omega)
 cases e10:gm h<;>rw[e10]at c10
 ·repeat'(first|refine gE ?_|(conv=>whnf);first|refine C4 l ?_|refine C4 c10 ?_)
  all_goals first
   | exact O0 (λz=>[B z]) ((by unfold gT;rw[e10];simp))
   |(exfalso;omega)
 by_cases hn:fp h=true;rotate_left
 ·have y:fp h=false:=by simpa using hn
  have c:=y;unfold fp at c;rw[decide_eq_false_iff_not]at c
  repeat'(first|refine gE ?_|(conv=>whnf);first|with_reducible refine Bf.D (λa=>?_) (λa=>?_)|refine C4 (aE _ _ _) ?_|refine C4 (lU _) ?_|refine C4 l ?_|refine C4 c10 ?_)
  all_goals first
   | exact O0 (λz=>[B z]) ((by unfold gT;rw[y];simp))
   |(exfalso;omega)
 have c:=hn;unfold fp at c;rw[C0]at c;have C:gT h=o6 h:=by grind [gT]
 rw[C];unfold o6;cases em:h.a0
 ·repeat'(first|refine gE ?_|(conv=>whnf);first|with_reducible (first|refine Bf.D (λa=>?_) (λa=>?_)|refine Bf.E (λa=>?_) (λa=>?_))|refine C4 (aE _ _ _) ?_|refine C4 (lU _) ?_|refine C4 l ?_|refine C4 c10 ?_|refine Bf.f em ?_)
  all_goals first
   | exact O0 (λz=>[B z]) ((by unfold xc;simp only[Bool.false_eq_true,if_false];first|(symm;exact M0 ω)|(rw[N2,beq_iff_eq,C0];omega)))
   |(exfalso;omega)
 cases e12:oE h.r<;>rw[e12]at c12
 all_goals
  repeat'(first|refine gE ?_|(conv=>whnf);first|with_reducible (first|refine Bf.D (λa=>?_) (λa=>?_)|refine Bf.D (λa=>?_) (λa=>?_))|refine C4 (aE _ _ _) ?_|refine C4 (lU _) ?_|refine C4 l ?_|refine C4 c10 ?_|refine C4 c12 ?_|refine C4 c13 ?_|refine C4 c14 ?_|refine Bf.t em ?_)
  all_goals first
   | exact O0 (λz=>[B z]) (ψ)
   |(exfalso;omega)
def ol{α:Type}[Inhabited α]{xs:List α}{f:α->Int}(e:(xs.map f).Nodup){i j:Nat}(b:i<xs.length)(c:j<xs.length)(h:f (nth xs i)=f (nth xs j)):i=j:=by
 have d:=List.pairwise_iff_getElem.1 e;rcases Nat.lt_trichotomy i j with a|rfl|a
 ·have:=d i j (by simpa using b) (by simpa using c) a
  simp only[List.getElem_map]at this;rw[bS (C1 b),bS (C1 c)]at h;exact absurd h this
 ·rfl
 have:=d j i (by simpa using c) (by simpa using b) a;simp only[List.getElem_map]at this;rw[bS (C1 b),bS (C1 c)]at h;omega
theorem cz{α:Type}[Inhabited α]{xs:List α}{x:α}(h:x∈xs):∃i,i<xs.length/\nth xs i=x:=by
 obtain⟨i,a⟩:=List.mem_iff_getElem?.1 h
 grind [bS]
theorem nP:∀{H L:List Int},H.Nodup->(∀x∈H,x∈L)->L.length<=H.length->∀x∈L,x∈H
 | [],L,_,_,b,x,c=>by grind
 | y::H,L,d,f,b,x,c=>by
  have g:y∈L:=ψ
  have a:=List.nodup_cons.1 d;by_cases e:x=y
  ·grind
  refine R2 _ (nP (L:=L.erase y) a.2 (λz h=>?_) ?_ x ψ)
  all_goals grind
theorem Dw{H L:List Int}(b:L.Nodup)(c:∀x∈H,x∈L):(H.Nodup/\H.length=L.length)↔∀a∈L,H.count a=1:=by grind [nP,List.Perm.length_eq]
theorem gz{l:am}{n:Nat}{p:Int} : p∈lpgs l n↔∃k:Nat,k<n/\p=l.M+(k:Nat):=by grind [lpgs]
structure jC(sp:List ah)(la:List am):Prop where
 sok:∀s∈sp,bn s=true
 lok:∀l∈la,bU l=true
 nd:(sp.map (·.M)).Nodup
 dis:∀s∈sp,∀l∈la,∀k:Nat,k<l.i.toNat->s.M≠l.M+(k:Nat)
 one:∀i j,i<la.length->j<la.length->∀k k':Nat,k<(nth la i).i.toNat->k'<(nth la j).i.toNat->(nth la i).M+(k:Nat)=(nth la j).M+(k':Nat)->i=j
theorem jC.of{sp:List ah}{la:List am}(h:bb sp la=true):jC sp la:=by
 obtain⟨B,C,d⟩:=eB h;unfold pgs at d;rw[List.nodup_append]at d;obtain⟨q,r,t⟩:=d;have u:=List.pairwise_flatMap.1 r;refine⟨ψ,ψ,q,λs D l w k c e=>?_,λi j f g k o c a e=>?_⟩
 ·exact t _ ψ _ (List.mem_flatMap.2 ⟨l,w,gz.2 ⟨k,c,rfl⟩⟩) e
 have p:=List.pairwise_iff_getElem.1 u.2;have y:=bS (C1 f);have A:=bS (C1 g);rw[y]at c e;rw[A]at a e;rcases Nat.lt_trichotomy i j with b|n|b
 ·exact absurd e (p i j f g b _ (gz.2 ⟨k,c,rfl⟩) _ (gz.2 ⟨o,a,rfl⟩))
 ·exact n
 exact absurd e.symm (p j i g f b _ (gz.2 ⟨o,a,rfl⟩) _ (gz.2 ⟨k,c,rfl⟩))
theorem ez{s:ah}{a:Int}(b:bn s=true):ch s a=true↔16*s.M<=a/\a<=16*s.M+15:=by grind [ch]
theorem gg{sp:List ah}{la:List am}(b:jC sp la){a:Int}{i:Nat}(c:i<sp.length)(h:16*(nth sp i).M<=a/\a<=16*(nth sp i).M+15):denotes sp la a=kR i (nth sp i) a:=by
 refine jE c ((ez (b.sok _ (aF c))).2 h) λj z l k=>?_
 cases e:ch z a with
 | false=>rfl
 | true=>
  exfalso;have d:=(I1.1 k).1;have n:=(ez (b.sok z ψ)).1 e;have g:=bS k;subst g;have:=ol (f:=(·.M)) b.nd c d ω;omega
theorem Hd{sp:List ah}{la:List am}(b:jC sp la){a:Int}(h:∀i,i<sp.length->¬(16*(nth sp i).M<=a/\a<=16*(nth sp i).M+15)):∀(j:Nat)(z:ah),j<sp.length->sp[j]? = some z->ch z a=false:=by grind [ez,jC.sok,bS]
theorem Fp{sp:List ah}{la:List am}(c:jC sp la)(a:Int):a∈live0 sp la↔a∈gr sp la:=by
 have G:a∈gr sp la↔∃n:Nat,n<512/\gL sp la n=true/\(n:Int)=a:=by grind [gr,iW]
 rw[G];unfold live0 dO;rw[N1,List.mem_flatMap,C2];constructor
 ·rintro(⟨s,g,C⟩|⟨l,b,rfl⟩)
  ·obtain⟨i,d,rfl⟩:=cz g
   unfold dk at C;obtain⟨k,H,rfl⟩:=C2.1 C;obtain⟨h,J⟩:=I2.1 H;have h:=List.mem_range.1 h;have o:=aR (c.sok _ g);have t:=uG ⟨o.2.2.1,o.2.2.2⟩;have K:=oJ (nth sp i).T;unfold iw;have L:0<=(k:Int)*csz (nth sp i).T/\(k:Int)*csz (nth sp i).T<=15:=by grind [cS]
   have f:=gg c d (a:=16*(nth sp i).M+(k:Nat)*csz (nth sp i).T) ω;have O:(16*(nth sp i).M+(k:Nat)*csz (nth sp i).T - 16*(nth sp i).M) / csz (nth sp i).T=(k:Nat)/\(16*(nth sp i).M+(k:Nat)*csz (nth sp i).T - 16*(nth sp i).M) % csz (nth sp i).T=0:=by grind [cS]
   refine⟨(16*(nth sp i).M+(k:Nat)*csz (nth sp i).T).toNat,ω,?_,ω⟩
   grind [gL,kR]
  obtain⟨i,d,rfl⟩:=cz b;have P:=bq (c.lok _ b);have M:=cV (c.lok _ b);have u:=Hd c (a:=16*(nth la i).M) λj D Q=>c.dis _ (aF D) _ b 0 ω ω
  have E:ba (nth la i) (16*(nth la i).M)=true:=by grind [jC.lok,ba]
  have f:=jf (a:=16*(nth la i).M) (O1 _) u d E λj z D r=>by
   cases e:ba z (16*(nth la i).M) with
   | false=>rfl
   | true=>
    exfalso;have w:=(I1.1 r).1;have p:=X0 r;have y:=bS r;subst y;have N:=bq (c.lok _ p);have q:=c.lok _ p;unfold bU at q;rw[C0]at q;unfold ba at e;rw[I0,C0]at e;have:=c.one i j d w 0 ((nth la i).M - (nth la j).M).toNat ω ω ω;omega
  refine⟨(16*(nth la i).M).toNat,ω,?_,ω⟩
  grind [gL]
 rintro⟨n,R,b,rfl⟩
 cases u:sp.findIdx? (ch · (n:Nat)) with
 | some i=>
  obtain⟨d,A,-⟩:=P3.1 u;have B:=bS (C1 d);rw[<-B]at A;have g:=c.sok _ (aF d);have F:=(ez g).1 A;have o:=aR g;have t:=uG ⟨o.2.2.1,o.2.2.2⟩;have f:denotes sp la (n:Nat)=kR i (nth sp i) (n:Nat):=by grind [denotes]
  rw[oy f]at b;simp only[I0,I3,C0]at b;simp only[kR]at b;cases E:bp (nth sp i).l (((n:Int) - 16*(nth sp i).M) / csz (nth sp i).T) with
  | false=>grind
  | true=>
   have r:((n:Int) - 16*(nth sp i).M) % csz (nth sp i).T=0:=b.1;refine .inl ⟨nth sp i,aF d,?_⟩;unfold dk;refine C2.2 ⟨(((n:Int) - 16*(nth sp i).M) / csz (nth sp i).T).toNat,I2.2 ⟨List.mem_range.2 ?_,?_⟩,?_⟩
   all_goals grind [cS,iw]
 | none=>
  cases F:la.findIdx? (ba · (n:Nat)) with
  | some i=>
   obtain⟨d,A,-⟩:=P3.1 F;have f:denotes sp la (n:Nat) = ⟨3,i,0,(n:Nat) - 16*(nth la i).M⟩:=by grind [denotes]
   rw[oy f]at b
   grind [aF]
  | none=>
   have f:denotes sp la (n:Nat) = ⟨0,0,0,0⟩:=by grind [denotes]
   rw[oy f]at b;simp at b
theorem qS{sp:List ah}{la:List am}(b:jC sp la){a:Int}(c:(denotes sp la a).b3=0)(f:(denotes sp la a).a7=1\/(denotes sp la a).a7=3):a∈gr sp la:=by
 have l:0<=a/\a<512:=by
  unfold denotes at c f;cases g:sp.findIdx? (ch · a) with
  | some i=>
   obtain⟨d,j,-⟩:=P3.1 g;have h:=List.getElem_mem d;have e:=(ez (b.sok _ h)).1 j;have k:=aR (b.sok _ h);omega
  | none=>
   rw[g]at c f;cases e:la.findIdx? (ba · a) with
   | some i=>
    obtain⟨d,-⟩:=P3.1 e;rw[e]at c;have n:=bq (b.lok _ (aF d))
    grind
   | none=>grind
 have k:((a.toNat:Nat):Int)=a:=ω
 grind [gr,iW,gL]
theorem ql(sp:List ah)(la:List am):(gr sp la).Nodup:=by
 unfold gr iW List.Nodup;rw[List.pairwise_map]
 grind [List.Pairwise.imp,List.nodup_range]
theorem pb{h:ac}(b:jC h.G h.J){a c:Int}(d:ct h a c=true):a∈gr h.G h.J:=by grind [qS,ct]
theorem Ey{h:ac}(a:jC h.G h.J){o:bg}(b:fJ h o=true):o.Z∈gr h.G h.J:=by grind [qS,fJ]
theorem z8(h:ac)(a:Int):(jA h).count a=(holders h).count a:=by grind [jA,holders]
theorem iY(h:ac):fQ h=true↔(h.O.all (d8 h)=true/\h.b.d.all (eS h)=true)/\(ax h.Y).all (gh h)=true:=by grind [fQ]
theorem nZ{h:ac}(f:jC h.G h.J)(g:dK h=true)(j:fQ h=true):∀a∈holders h,a∈gr h.G h.J:=by
 obtain⟨⟨n,p⟩,q⟩:=(iY h).1 j;intro a b;unfold holders at b;simp only[N1]at b;rcases b with((b|b)|b)|b
 ·obtain⟨o,d,rfl⟩:=C2.1 b
  obtain⟨i,r,rfl⟩:=cz d;have e:=eJ g r
  grind [Ey,gU]
 ·unfold i6 at b
  obtain⟨c,t,b⟩:=List.mem_flatMap.1 b;obtain⟨l,u,b⟩:=List.mem_flatten.1 b;obtain⟨k,w,rfl⟩:=cz u;have e:=W1.1 n c t;unfold d8 at e;have A:=W1.1 (show(nth c.W k).all _=true from eJ e w) a b
  grind [pb]
 ·obtain⟨x,y,rfl⟩:=C2.1 b
  exact pb f (W1.1 p x y)
 exact pb f (W1.1 q a b)
theorem Ds{h:ac}(b:bb h.G h.J=true)(c:dK h=true):(iX h&&fS h)=gm h:=by
 have d:=jC.of b;have e:(iX h=true/\h.b.d.all (eS h)=true)↔h.b.d.all (om h)=true:=by grind [iX,om]
 have f:gm h=true↔((h.O.all (d8 h)=true/\h.b.d.all (om h)=true)/\(ax h.Y).all (gh h)=true)/\∀a∈gr h.G h.J,(holders h).count a=1:=by
  unfold gm;simp only[I0];refine and_congr Iff.rfl ?_;simp only[W1,C0,z8]
  grind [List.mem_mergeSort,Fp,ku,sorted]
 grind [iY,Dw,ql,nZ,fS]
theorem p8(s t:ah):meshable s t=meshable t s:=by grind [meshable]
theorem dD{t:az}{f:Int}{p:Nat} : (p:Int)∈cZ t f↔p<t.K.length/\(nth t.K p).o≠0/\(nth t.K p).j=f:=by grind [cZ,ja,GJ]
theorem lC{t:az}{f q:Int}(h:q∈cZ t f):∃p:Nat,q=(p:Nat):=by grind [cZ,ja]
theorem ou{h:ac}(a:pages0 h=true):(∀i,i<h.J.length->∀k:Nat,k<(nth h.J i).i.toNat->(aG h ((nth h.J i).M+(k:Nat))).length=1)/\(∀p∈pgs h.G h.J,p<fe h)/\∀p:Nat,p<fe h->((nth (tbl h).K p).o≠0↔(p:Int)∈pgs h.G h.J):=by grind [eJ,pages0,oV,rT,qM]
theorem uZ{h:ac}{p:Nat}(a:p<fe h):aZ (tbl h) (p:Nat)=nth (tbl h).K p:=nl a
theorem eU{h:ac}{p:Nat}(a:p<fe h)(b:(nth (tbl h).K p).o≠0):aG h (p:Nat)=cZ (tbl h) (nth (tbl h).K p).j:=by grind [uZ,aG,tbl]
theorem j9{h:ac}(g:jC h.G h.J){j:Nat}(c:j<h.G.length):dE h (nth h.G j).M=(j:Nat):=by
 unfold dE;refine il (ao c) (by unfold i9;simp) λk z i d=>?_
 have a:=bS d;have b:=(I1.1 d).1;subst a;unfold i9;refine M0 λe=>?_
 have:=ol (f:=(·.M)) g.nd b c e;omega
theorem pz{h:ac}(w:bb h.G h.J=true)(N:pages0 h=true):oF h=lI h:=by
 have E:=jC.of w;obtain⟨O,P,Q⟩:=ou N;have o:∀i,i<h.G.length->∃p:Nat,(nth h.G i).M=(p:Nat)/\p<fe h/\(nth (tbl h).K p).o≠0:=λi r=>by
  have Y:=aR (E.sok _ (aF r));have R:(nth h.G i).M∈pgs h.G h.J:=by grind [aF,pgs]
  have c:=P _ R;refine⟨(nth h.G i).M.toNat,ω,ω,?_⟩
  grind
 rw[N2];unfold oF lI;rw[bW,bW];constructor
 ·intro F i r
  rw[bW];intro j G;have y:j<h.G.length:=ω
  unfold jn;rw[I3,C0];by_cases d:(aZ (tbl h) (nth h.G i).M).j=(aZ (tbl h) (nth h.G j).M).j
  ·right
   obtain⟨p,e,a,f⟩:=o i r;obtain⟨q,A,b,g⟩:=o j y;have n:=W1.1 (F i r);rw[e,A,uZ a,uZ b]at d;have S:(q:Int)∈aG h (nth h.G i).M:=by
    rw[e,eU a f];exact dD.2 ⟨b,g,d.symm⟩
   have t:=n _ S;unfold jh at t;rw[<-A,j9 E y]at t;rw[I3,I0,C0]at t;rcases t with t|t
   ·omega
   simpa using t.2
  exact .inl d
 intro B i r;rw[W1];intro q C;obtain⟨p,e,a,f⟩:=o i r;have T:=C;rw[e,eU a f]at C;obtain⟨D,rfl⟩:=lC C;obtain⟨b,g,H⟩:=dD.1 C;have u:=(Q D b).1 g;unfold pgs at u;rw[N1,C2,List.mem_flatMap]at u;rcases u with⟨s,F,J⟩|⟨l,U,K⟩
 ·obtain⟨j,G,rfl⟩:=cz F
  unfold jh;rw[<-J,j9 E G];rw[I3,I0,C0,C0];have d:(aZ (tbl h) (nth h.G i).M).j=(aZ (tbl h) (nth h.G j).M).j:=by grind [uZ]
  rcases Nat.lt_trichotomy j i with c|V|c
  ·have n:=eJ (B i r) c
   unfold jn at n
   simp_all
  ·omega
  have n:=eJ (B j G) c;unfold jn at n;rw[I3,C0]at n;exact .inr ⟨ω,by rw[p8];simp_all⟩
 exfalso;obtain⟨W,L,rfl⟩:=cz U;obtain⟨k,X,M⟩:=gz.1 K;have n:=O W L k X;rw[<-M,eU b g]at n;have Z:(D:Int)∈cZ (tbl h) (nth (tbl h).K D).j:=ψ
 have m2:(p:Int)∈cZ (tbl h) (nth (tbl h).K D).j:=dD.2 ⟨a,f,H.symm⟩
 grind [List.length_eq_one_iff,jC.dis,aF]
theorem uy(h:ac):gT h=cQ h:=by grind [pz,Ds,gT,cQ,iv]
def Je(k:au)(f:Int):au:=if(cZ k.R.a f).length=0 then {k with R:=⟨⟨k.R.U.V.set f.toNat (List.replicate 16 0),k.R.U.c.set f.toNat false⟩,k.R.a⟩} else k
theorem Gn{α:Type}[Inhabited α](xs:List α)(i j:Nat)(x:α):nth (xs.set i x) j=if i=j/\j<xs.length then x else nth xs j:=by grind [nth]
theorem oR{k:au} : dh k=true↔(∀j,j<k.k.length->0<=nth k.k j)/\cv k.R.U=true/\eY k.R.a k.R.U.c.length=true/\(∀j,j<k.R.U.c.length->nth k.R.U.c j=decide (0<(cZ k.R.a (j:Int)).length))/\0<=k.a8/\k.a8<=100000/\k.k.length<=40:=by grind [bW,dh,cY,mh]
theorem vC{f:aC} : cv f=true↔1<=f.V.length/\f.V.length<=32/\f.c.length=f.V.length/\∀j,j<f.V.length->j6 (nth f.V j) (nth f.c j)=true:=by
 unfold cv;simp only[I0,C0,W1,and_assoc];refine and_congr Iff.rfl (and_congr Iff.rfl (and_congr_right λb=>⟨λh j a=>?_,λh q c=>?_⟩))
 ·exact h _ (X0 (qV (ao a) (ao ω)))
 grind [List.mem_iff_getElem?,List.getElem?_zip_eq_some,bS]
theorem xO{t:az}{a:Int} : eY t a=true↔(∀j,j<t.K.length->A6 a (nth t.K j)=true)/\1<=t.K.length/\t.K.length<=32:=by grind [bW,eY]
theorem Ap.cp{α:Type}{e:α->List C}{xs:List α}{sz by_:Nat}{K:List (List C)->Prop}(d:∀x,(e x).length=sz)(f:∀x,aQ (e x)=true)(a:xs.length<=1048576)(b:by_<=1000)(c:K (xs.map e)):Ap true [] (xs.map e) sz by_ K:=
 CI ψ ψ ψ (by simp;omega) (by simp only[Q0,List.length_nil,O3];exact tp a b) rfl c
theorem oB{α:Type}{e:α->List C}{l:List α}{n:Nat}(h:∀x,(e x).length=n):∀r∈l.map e,r.length=n:=(ψ)
def GX(k:au)(a:Int):Int:=nth (nth k.R.U.V (aZ k.R.a (a / 16)).j.toNat) (a % 16).toNat
def cellsOf(k:au)(a:Int)(n:Nat):List Int:=(List.range n).map λ(i:Nat)=>GX k (a+i)
theorem o8{sp:List ah}{la:List am}{a:Int}(h:(denotes sp la a).a7=1):∃i:Nat,i<sp.length/\(denotes sp la a).a5=i/\ch (nth sp i) a=true/\denotes sp la a=kR i (nth sp i) a:=by
 unfold denotes at h |-;cases e:sp.findIdx? (ch · a) with
 | some i=>
  obtain⟨b,c,-⟩:=P3.1 e;refine⟨i,b,rfl,?_,rfl⟩;rw[bS (C1 b)];exact c
 | none=>
  grind
theorem xy{sp:List ah}{la:List am}{a:Int}(h:(denotes sp la a).a7=3):∃i:Nat,i<la.length/\(denotes sp la a).a5=i/\ba (nth la i) a=true/\denotes sp la a = ⟨3,i,0,a - 16*(nth la i).M⟩:=by
 unfold denotes at h |-;cases e:sp.findIdx? (ch · a) with
 | some i=>
  grind [kR]
 | none=>
  rw[e]at h;simp only at h |-;cases c:la.findIdx? (ba · a) with
  | some i=>
   obtain⟨b,d,-⟩:=P3.1 c;refine⟨i,b,rfl,?_,rfl⟩;rw[bS (C1 b)];exact d
  | none=>grind
theorem yP{n:Int}(h:0<=cO n):1<=n/\n<=8:=by grind [cO]
theorem FR{h:ac}{o:bg}(a:fJ h o=true):0<=o.Z/\o.Z<=2000/\1<=o.g/\o.g<=1000:=by
 unfold fJ at a;simp only[I0,I3,C0]at a;obtain⟨-,⟨c,d⟩|⟨c,d⟩⟩:=a
 ·obtain⟨i,f,b,e,-⟩:=o8 c
  rw[b,M1]at d;unfold ch bn at e;simp only[I0,C0]at e;have:=yP (n:=o.g) ω;omega
 grind [xy,ba,bU]
theorem rS{h:ac}(a:cQ h=true):fp h=true/\dK h=true:=by grind [cQ]
theorem FL{h:ac}(a:cQ h=true):1<=h.q/\h.q<=1000000:=by
 have:=(rS a).1
 grind [fp]
theorem G9{h:ac}(c:cQ h=true){i:Nat}(f:i<h.S.length):1<=(nth h.S i).Id/\(nth h.S i).Id<h.q/\0<=(nth h.S i).Z/\(nth h.S i).Z<=2000/\1<=(nth h.S i).g/\(nth h.S i).g<=1000/\∀j,j<i->(nth h.S j).Id≠(nth h.S i).Id:=by
 obtain⟨-,g⟩:=rS c;obtain⟨n,o⟩:=FL c;have a:=eJ g f;rw[iy ω ω]at a;unfold gU eG at a;simp only[I0,C0,Bool.not_eq_true']at a;obtain⟨⟨k,d⟩,l⟩:=a;have b:=FR l;refine⟨k.2.1,ω,b.1,b.2.1,b.2.2.1,b.2.2.2,λj p e=>?_⟩;rw[List.any_eq_false]at d;refine d (nth h.S j) ?_ (by grind [gG]);have:(h.S.take i)[j]? = some (nth h.S j):=by grind [ao]
 grind
theorem pu{h:ac}(a:cQ h=true):dh h.X=true/\bb h.G h.J=true/\pages0 h=true/\oF h=true/\de h.Y=true/\(h.O.all bL=true/\h.O.length=h.Y.Q.length)/\fm h.b=true/\dK h=true/\fQ h=true/\(holders h).Nodup/\(holders h).length=(gr h.G h.J).length:=by grind [cQ,iv,cC,fS]
def bD{α:Type}[Inhabited α](f:α->Int)(xs:List α):Nat->Int
 | 0=>0
 | i+1=>bD f xs i+f (nth xs i)
theorem dU{α:Type}[Inhabited α]{f:α->Int}{xs:List α}{b:Int}(h:∀y∈xs,0<=f y/\f y<=b):∀i:Nat,i<=xs.length->0<=bD f xs i/\bD f xs i<=b*i
 | 0,_=>by simp[bD]
 | i+1,a=>by
  have c:=dU h i ω
  grind [aF,bD]
def bt(e:aD):Int:=if e.o≠0 then 1 else 0
theorem pV(e:aD):0<=bt e/\bt e<=1:=by grind [bt]
def dC(t:az):Int:=bD bt t.K t.K.length
def jV(s:ah)(c:Nat):Bool:=bp s.l (((c:Nat):Int) / csz s.T)
def m8(s:ah)(n:Nat):List Int:=((List.range n).filter (jV s)).map λ(i:Nat)=>(i:Int)
theorem x9{s:ah}{n:Nat}(h:jV s n=true):m8 s (n+1)=m8 s n++[(n:Int)]:=by grind [List.range_succ,m8]
theorem Av{s:ah}{n:Nat}(h:jV s n=false):m8 s (n+1)=m8 s n:=by grind [List.range_succ,m8]
theorem kV(s:ah)(n:Nat):(m8 s n).length<=n:=by grind [m8]
def wz(s:ah):Int:=((m8 s 16).length:Nat)
theorem zr(s:ah):0<=wz s/\wz s<=16:=by grind [kV,wz]
def f6(sp:List ah)(la:List am):Int:=bD wz sp sp.length+bD (·.g) la la.length
theorem AA{la:List am}(h:la.all bU=true):∀l∈la,0<=l.g/\l.g<=1000:=λl a=>by grind [bU]
def bK(o:bg):Int:=if 0<=cO o.g then csz (cO o.g) else o.g
def nY{h:ac}(a:cQ h=true):∀o∈h.S,1<=o.g/\o.g<=1000:=λo b=>by
 obtain⟨i,c,rfl⟩:=cz b;obtain⟨f,g,j,k,d,e,-⟩:=G9 a c;exact⟨d,e⟩
def csz8(k:Int):0<=csz k/\csz k<=8:=kc k
theorem sB{h:ac}(a:cQ h=true):∀o∈h.S,0<=bK o/\bK o<=1000:=λo b=>by
 have c:=nY a o b;have d:=csz8 (cO o.g)
 grind [bK]
theorem qt:∀(a:List (List Int))(k:Nat),(∀l∈a,l.length<=8)->0<=bo k a/\bo k a<=64*a.length
 | [],_,_=>by simp[bo]
 | l::a,k,h=>by
  have c:=qt a (k+1) ψ;have b:=zy k;have d:=vi (h l (W0 ..)) b.1 b.2
  grind [bo]
def gf(c:ar):0<=aS c/\aS c<=256:=by
 unfold aS;split
 ·rename_i h
  obtain⟨b,a⟩:=gw h;have:=qt c.W 0 a;omega
 omega
def bG(h:ac)(a:Int):Int:=csz (nth h.G (dE h (a / 16)).toNat).T
def bu(h:ac):bB:=
 ⟨fe h,dC h.X.R.a,cT h.X.R.U,f6 h.G h.J,bD bK h.S h.S.length,bD aS h.O h.O.length,quarCells h.b.d h.b.d.length,bD (bG h) (ax h.Y) (ax h.Y).length⟩
theorem DS{h:ac}(c:cQ h=true){a:Int}(d:a∈ax h.Y):∃i:Nat,i<h.G.length/\(denotes h.G h.J a).a5=i/\dE h (a / 16)=i/\0<=a/\a<=600:=by
 obtain⟨-,e,-,-,-,-,-,-,f,-⟩:=pu c;have b:=W1.1 ((iY h).1 f).2 a d;unfold gh ct at b;simp only[I0,C0]at b;obtain⟨i,g,k,l,-⟩:=o8 b.1.1;have j:=jC.of e;have n:=aR (j.sok _ (aF g))
 grind [ez,jC.sok,j9,nth]
def wd(a:bB):Bool:=decide ((0<=a.i/\a.i<=100000)/\(0<=a.b1/\a.b1<=100000)/\(0<=a.U/\a.U<=100000)/\(0<=a.b5/\a.b5<=100000)/\(0<=a.b6/\a.b6<=100000)/\(0<=a.a9/\a.a9<=100000)/\(0<=a.u/\a.u<=100000)/\(0<=a.b2/\a.b2<=100000)/\a.b5=a.b6+a.a9+a.u+a.b2/\a.U<=a.b1/\a.b1<=a.i)
def bor(n m:Int):Int:=((n.toNat ||| m.toNat:Nat):Int)
theorem xz{s:ah}(a:bn s=true){c:Nat}(b:c<16):0<=((c:Nat):Int) / csz s.T/\((c:Nat):Int) / csz s.T<=15:=by
 have d:=aR a
 grind [cS]
def pf(t:az)(d:az.sml t):af Tryz.prog 102 false [.val (some 1) (az.enc .H t)] .one [I (dC t)]:=by
 have k:t.K.length<=1048576:=d.1;refine fO 22 [] Tryz.func102 rfl ?_
 repeat'(first|refine gP ?_|fail)
 (conv=>whnf)
 refine C8 (ι:=Nat) (λi=>[(1,.F .box (az.enc .H t)),(3,.F .one [I (bD bt t.K i)]),(4,.F .one [I ((i:Nat):Int)])]) (λi=>i<=t.K.length) (λi=>t.K.length - i) (0) ?_ (N0 _) λi g=>?_
 ·exact wB
 have h:=dU (f:=bt) (xs:=t.K) (b:=1) (λe _=>pV e) i g;by_cases j:i<t.K.length
 ·have c:=ao j
  have a:bD bt t.K (i+1)=bD bt t.K i+bt (nth t.K i):=rfl;by_cases e:(nth t.K i).o=0
  ·rw[show bt (nth t.K i)=0 by unfold bt;rw[C9 (by simpa using e)]]at a
   repeat'(first|refine gB ?_|(conv=>whnf);first|with_reducible refine C6 (ab c) ?_)
   ((conv=>whnf);refine C7 (i+1) ω ω ?_;(exact wB))
  rw[show bt (nth t.K i)=1 by unfold bt;rw[CA e]]at a
  repeat'(first|refine gB ?_|(conv=>whnf);first|with_reducible refine C6 (ab c) ?_)
  ((conv=>whnf);refine C7 (i+1) ω ω ?_;(exact wB))
 obtain rfl:i=t.K.length:=ω
 repeat'(first|refine gE ?_|fail)
 rfl
def p6(t:az)(d:az.sml t):af Tryz.prog 69 false [.val (some 1) (az.enc .H t)] .one [I (dC t)]:=by
 have k:t.K.length<=1048576:=d.1;refine fO 20 [] Tryz.func69 rfl ?_
 repeat'(first|refine gP ?_|fail)
 (conv=>whnf)
 refine C8 (ι:=Nat) (λi=>[(3,.F .one [I (bD bt t.K i)]),(7,.F .one (d4 .H t.K)),(8,.F .one [I (t.K.length)]),(9,.F .one [I ((i:Nat):Int)])]) (λi=>i<=t.K.length) (λi=>t.K.length - i) (0) ?_ (N0 _) λi g=>?_
 ·exact wB
 have h:=dU (f:=bt) (xs:=t.K) (b:=1) (λe _=>pV e) i g;by_cases j:i<t.K.length
 ·have c:=ao j
  have a:bD bt t.K (i+1)=bD bt t.K i+bt (nth t.K i):=rfl;by_cases e:(nth t.K i).o=0
  ·rw[show bt (nth t.K i)=0 by unfold bt;rw[C9 (by simpa using e)]]at a
   repeat'(first|refine gB ?_|(conv=>whnf);first|with_reducible refine C6 (ab c) ?_)
   ((conv=>whnf);refine C7 (i+1) ω ω ?_;(exact wB))
  rw[show bt (nth t.K i)=1 by unfold bt;rw[CA e]]at a
  repeat'(first|refine gB ?_|(conv=>whnf);first|with_reducible refine C6 (ab c) ?_)
  ((conv=>whnf);refine C7 (i+1) ω ω ?_;(exact wB))
 obtain rfl:i=t.K.length:=ω
 repeat'(first|refine gE ?_|fail)
 rfl
def qK(s:ah)(a:bn s=true):af Tryz.prog 190 false [.val (some 3) (ah.enc .H s)] .one (aK .own (m8 s 16)):=by
 have b:=gv s;rw[a]at b;have g:=aR a;have n:=cS g.2.2;refine fO 27 [(5,7,[14,15,16,17,18,19,20])] Tryz.func190 rfl ?_ (.inr (cu _))
 repeat'(first|refine gP ?_|fail)
 (conv=>whnf)
 refine C8 (ι:=Nat) (λi=>[(1,.F .box (ah.enc .H s)),(3,.F .one (aK .own (m8 s i))),(4,.F .one [I ((i:Nat):Int)])]) (λi=>i<=16) (λi=>16 - i) (0) ?_ (N0 _) λi o=>?_
 ·exact wB
 have h:=kV s i;by_cases j:i<16
 ·have k:=xz a j
  have d:IntKind.i64.wrap (((i:Nat):Int).tdiv (csz s.T))=((i:Nat):Int) / csz s.T:=by rw[iQ ω];exact iy ω ω
  have c:=oL s.l (((i:Nat):Int) / csz s.T) (dB a).2;cases e:jV s i
  ·rw[show bp s.l (((i:Nat):Int) / csz s.T)=false from e]at c
   repeat'(first|refine gE ?_|(conv=>whnf);first|refine C4 (b) ?_|refine C4 (cX _) ?_|refine CD ω ?_|refine CB d ?_|refine C4 (c) ?_)
   ((conv=>whnf);refine C7 (i+1) ω ω ?_)
   rw[Av e];exact wB
  rw[show bp s.l (((i:Nat):Int) / csz s.T)=true from e]at c
  repeat'(first|refine gE ?_|(conv=>whnf);first|refine C4 (b) ?_|refine C4 (cX _) ?_|refine CD ω ?_|refine CB d ?_|refine C4 (c) ?_|refine CI cJ (λr l=>by rw[T0.1 l];rfl) (by simp[aQ,cW]) (by simp;omega) (by simp only[Q0];exact tp (by simp;omega) (by decide)) rfl ?_)
  ((conv=>whnf);refine C7 (i+1) ω ω ?_)
  rw[x9 e]
  (repeat'(first|exact trivial|rfl|exact C5 rfl (C5 (O0 (C.s dm.own) (by simp[rI])) trivial)|refine C5 ?_ ?_))
 obtain rfl:i=16:=ω
 repeat'(first|refine gE ?_|(conv=>whnf);first|refine C4 (b) ?_)
 rfl
def qD(s:ah)(a:bn s=true):af Tryz.prog 167 false [.val (some 3) (ah.enc .H s)] .one (aK .own (m8 s 16)):=by
 have c:=f8 s;rw[a]at c;have g:=aR a;have n:=cS g.2.2;refine fO 26 [(7,7,[13,14,15,16,17,18,19])] Tryz.func167 rfl ?_ (.inr (cu _))
 repeat'(first|refine gP ?_|(conv=>whnf);first|refine C4 (c) ?_)
 (conv=>whnf)
 refine C8 (ι:=Nat) (λi=>[(1,.F .box (ah.enc .H s)),(3,.F .one (aK .own (m8 s i))),(4,.F .one [I ((i:Nat):Int)])]) (λi=>i<=16) (λi=>16 - i) (0) ?_ (N0 _) λi o=>?_
 ·exact wB
 have h:=kV s i;by_cases j:i<16
 ·have k:=xz a j
  have d:IntKind.i64.wrap (((i:Nat):Int).tdiv (csz s.T))=((i:Nat):Int) / csz s.T:=by rw[iQ ω];exact iy ω ω
  have b:=jH s.l (((i:Nat):Int) / csz s.T) (dB a).2;cases e:jV s i
  ·rw[show bp s.l (((i:Nat):Int) / csz s.T)=false from e]at b
   repeat'(first|refine gE ?_|(conv=>whnf);first|refine C4 (bN _) ?_|refine CD ω ?_|refine CB d ?_|refine C4 (b) ?_)
   ((conv=>whnf);refine C7 (i+1) ω ω ?_)
   rw[Av e];exact wB
  rw[show bp s.l (((i:Nat):Int) / csz s.T)=true from e]at b
  repeat'(first|refine gE ?_|(conv=>whnf);first|refine C4 (bN _) ?_|refine CD ω ?_|refine CB d ?_|refine C4 (b) ?_|refine CI cJ (λr l=>by rw[T0.1 l];rfl) (by simp[aQ,cW]) (by simp;omega) (by simp only[Q0];exact tp (by simp;omega) (by decide)) rfl ?_)
  ((conv=>whnf);refine C7 (i+1) ω ω ?_)
  rw[x9 e]
  (repeat'(first|exact trivial|rfl|exact C5 rfl (C5 (O0 (C.s dm.own) (by simp[rI])) trivial)|refine C5 ?_ ?_))
 obtain rfl:i=16:=ω
 repeat'(first|refine gE ?_|fail)
 rfl
def sU(sp:List ah)(la:List am)(c:bJ sp)(d:bw la)(a:bb sp la=true):af Tryz.prog 104 false [.val none (bi .H sp),.val none (aP .H la)] .one [I (f6 sp la)]:=by
 have o:=c.1;have p:=d.1;have j:=gk sp la c d;rw[a]at j;have q:=jC.of a;have e:=AA (eB a).2.1;refine fO 40 [] Tryz.func104 rfl ?_
 repeat'(first|refine gP ?_|(conv=>whnf);first|refine C4 (j) ?_)
 (conv=>whnf)
 refine C8 (ι:=Nat) (λi=>[(0,.F .one (bi .H sp)),(1,.F .one (aP .H la)),(5,.F .one [I (bD wz sp i)]),(6,.F .one [I ((i:Nat):Int)])]) (λi=>i<=sp.length) (λi=>sp.length - i) (0) ?_ (N0 _) λi r=>?_
 ·exact wB
 have t:=dU (f:=wz) (xs:=sp) (b:=16) (λs _=>zr s) i r;by_cases l:i<sp.length
 ·have g:=ao l
  have h:bD wz sp (i+1)=bD wz sp i+((m8 (nth sp i) 16).length:Nat):=rfl;have u:=kV (nth sp i) 16
  repeat'(first|refine gE ?_|(conv=>whnf);first|with_reducible refine C6 (ab g) ?_|refine C4 (qK (nth sp i) (q.sok _ (aF l))) ?_)
  ((conv=>whnf);refine C7 (i+1) ω ω ?_;(exact wB))
 obtain rfl:i=sp.length:=ω
 have w:bD (·.g) la 0=0:=rfl
 repeat'(first|refine gE ?_|fail)
 (conv=>whnf)
 refine C8 (ι:=Nat) (λk=>[(1,.F .one (aP .H la)),(5,.F .one [I (bD wz sp sp.length+bD (·.g) la k)]),(7,.F .one [I ((k:Nat):Int)])]) (λk=>k<=la.length) (λk=>la.length - k) (0) ?_ (N0 _) λk y=>?_
 ·exact wB
 have B:=dU (f:=(·.g)) (xs:=la) (b:=1000) e k y;by_cases n:k<la.length
 ·have g:=ao n
  have C:=e _ (aF n);have h:bD (·.g) la (k+1)=bD (·.g) la k+(nth la k).g:=rfl
  repeat'(first|refine gE ?_|(conv=>whnf);first|with_reducible refine C6 (ab g) ?_)
  ((conv=>whnf);refine C7 (k+1) ω ω ?_;(exact wB))
 obtain rfl:k=la.length:=ω
 repeat'(first|refine gE ?_|fail)
 rfl
def si(sp:List ah)(la:List am)(c:bJ sp)(d:bw la)(a:bb sp la=true):af Tryz.prog 71 false [.val none (bi .H sp),.val none (aP .H la)] .one [I (f6 sp la)]:=by
 have o:=c.1;have p:=d.1;have j:=ji sp la c d;rw[a]at j;have q:=jC.of a;have e:=AA (eB a).2.1;refine fO 38 [] Tryz.func71 rfl ?_
 repeat'(first|refine gP ?_|(conv=>whnf);first|refine C4 (j) ?_)
 (conv=>whnf)
 refine C8 (ι:=Nat) (λi=>[(1,.F .one (aP .H la)),(5,.F .one [I (bD wz sp i)]),(14,.F .one (bi .H sp)),(15,.F .one [I (sp.length)]),(16,.F .one [I ((i:Nat):Int)])]) (λi=>i<=sp.length) (λi=>sp.length - i) (0) ?_ (N0 _) λi r=>?_
 ·exact wB
 have t:=dU (f:=wz) (xs:=sp) (b:=16) (λs _=>zr s) i r;by_cases l:i<sp.length
 ·have g:=ao l
  have h:bD wz sp (i+1)=bD wz sp i+((m8 (nth sp i) 16).length:Nat):=rfl;have u:=kV (nth sp i) 16
  repeat'(first|refine gE ?_|(conv=>whnf);first|with_reducible refine C6 (ab g) ?_|refine C4 (qD (nth sp i) (q.sok _ (aF l))) ?_)
  ((conv=>whnf);refine C7 (i+1) ω ω ?_;(exact wB))
 obtain rfl:i=sp.length:=ω
 have w:bD (·.g) la 0=0:=rfl
 repeat'(first|refine gE ?_|fail)
 (conv=>whnf)
 refine C8 (ι:=Nat) (λk=>[(5,.F .one [I (bD wz sp sp.length+bD (·.g) la k)]),(26,.F .one (aP .H la)),(27,.F .one [I (la.length)]),(28,.F .one [I ((k:Nat):Int)])]) (λk=>k<=la.length) (λk=>la.length - k) (0) ?_ (N0 _) λk y=>?_
 ·exact wB
 have B:=dU (f:=(·.g)) (xs:=la) (b:=1000) e k y;by_cases n:k<la.length
 ·have g:=ao n
  have C:=e _ (aF n);have h:bD (·.g) la (k+1)=bD (·.g) la k+(nth la k).g:=rfl
  repeat'(first|refine gE ?_|(conv=>whnf);first|with_reducible refine C6 (ab g) ?_)
  ((conv=>whnf);refine C7 (k+1) ω ω ?_;(exact wB))
 obtain rfl:k=la.length:=ω
 repeat'(first|refine gE ?_|fail)
 rfl
def uk(h:ac):af Tryz.prog 68 false [.val (some 24) (ac.enc .H h)] .one [I (fe h:Nat)]:=by
 refine fO 9 [] Tryz.func68 rfl ?_
 repeat'(first|refine gP ?_|fail)
 rfl
def qQ(c:ar)(j:ar.sml c):af Tryz.prog 107 false [.val (some 1) (ar.enc .H c)] .one [I (aS c)]:=by
 have w:=j.1;refine fO 28 [(5,11,[16,17,18,19,20,21,22,23,24,25,26])] Tryz.func107 rfl ?_
 repeat'(first|refine gP ?_|fail)
 (conv=>whnf)
 refine C8 (ι:=Nat) (λi=>[(1,.F .box (ar.enc .H c)),(3,.F .one [I (bo 0 (c.W.take i))]),(4,.F .one [I (i:Nat)])]) (λi=>i<=c.W.length/\(0<i->bL c=true)/\0<=bo 0 (c.W.take i)/\bo 0 (c.W.take i)<=64*(i:Nat)) (λi=>c.W.length - i) 0 ?_ ⟨N0 _,λh=>ω,by simp[bo],by simp[bo]⟩ λi p=>?_
 ·exact wB
 obtain⟨p,g,r,t⟩:=p;by_cases k:i<c.W.length
 ·obtain⟨l,d⟩ : ∃l,c.W[i]? = some l:=⟨_,C1 k⟩
  cases b:bL c with
  | false=>
   have e:i=0:=by
    rcases Nat.eq_zero_or_pos i with h|h
    ·exact h
    rw[g h]at b;cases b
   subst e;have a:=hP c j;rw[b]at a
   repeat'(first|refine gE ?_|(conv=>whnf);first|refine C4 a ?_)
   exact O0 (λz=>[I z]) (by unfold aS;rw[b];simp[bo])
  | true=>
   obtain⟨u,n⟩:=gw b;have o:=n l (X0 d);have q:=zy i;have y:=vi o q.1 q.2;have a:=hP c j;rw[b]at a
   repeat'(first|refine gE ?_|(conv=>whnf);first|with_reducible refine C6 (ab d) ?_|refine C4 a ?_|refine C4 (cX (i:Nat)) ?_)
   (conv=>whnf)
   refine C7 (i+1) ⟨ω,λ_=>rfl,by rw[dZ d];omega,by rw[dZ d];omega⟩ ω ?_;rw[dZ d];exact wB
 cases b:bL c with
 | false=>
  have a:=hP c j;rw[b]at a
  repeat'(first|refine gE ?_|(conv=>whnf);first|refine C4 a ?_)
  have e:i=0:=by
   rcases Nat.eq_zero_or_pos i with h|h
   ·exact h
   rw[g h]at b;cases b
  subst e;exact O0 (λz=>[I z]) (by unfold aS;rw[b];simp[bo])
 | true=>
  repeat'(first|refine gE ?_|fail)
  rw[Q3 ω];exact O0 (λz=>[I z]) (by unfold aS;rw[b];rfl)
def qI(c:ar)(e:ar.sml c):af Tryz.prog 75 false [.val (some 1) (ar.enc .H c)] .one [I (aS c)]:=by
 have r:=e.1;cases d:bL c with
 | false=>
  have a:=jO c e;rw[d]at a;refine fO 26 [] Tryz.func75 rfl ?_
  repeat'(first|refine gP ?_|(conv=>whnf);first|refine C4 a ?_)
  exact O0 (λz=>[I z]) (by unfold aS;rw[d];rfl)
 | true=>
  obtain⟨o,g⟩:=gw d;have a:=jO c e;rw[d]at a;refine fO 26 [] Tryz.func75 rfl ?_
  repeat'(first|refine gP ?_|(conv=>whnf);first|refine C4 a ?_)
  (conv=>whnf)
  refine C8 (ι:=Nat) (λi=>[(1,.F .box (ar.enc .H c)),(3,.F .one [I (bo 0 (c.W.take i))]),(10,.F .one (dn .H c.W)),(11,.F .one [I c.W.length]),(12,.F .one [I (i:Nat)])]) (λi=>i<=c.W.length/\0<=bo 0 (c.W.take i)/\bo 0 (c.W.take i)<=64*(i:Nat)) (λi=>c.W.length - i) 0 ?_ ⟨N0 _,by simp[bo],by simp[bo]⟩ λi k=>?_
  ·exact wB
  obtain⟨k,p,q⟩:=k;by_cases h:i<c.W.length
  ·obtain⟨l,b⟩ : ∃l,c.W[i]? = some l:=⟨_,C1 h⟩
   have j:=g l (X0 b);have n:=zy i;have t:=vi j n.1 n.2
   repeat'(first|refine gE ?_|(conv=>whnf);first|with_reducible refine C6 (ab b) ?_|refine C4 (bN (i:Nat)) ?_)
   (conv=>whnf)
   refine C7 (i+1) ⟨ω,by rw[dZ b];omega,by rw[dZ b];omega⟩ ω ?_;rw[dZ b];exact wB
  repeat'(first|refine gE ?_|fail)
  rw[Q3 ω];exact O0 (λz=>[I z]) (by unfold aS;rw[d];rfl)
def zT(a:bB):List Int:=[a.i,a.b1,a.U,a.b5,a.b6,a.a9,a.u,a.b2]
def qy{o:bg}(h:0<=cO o.g):bK o=csz (cO o.g):=by unfold bK;rw[CA h]
def rM{o:bg}(h:¬0<=cO o.g):bK o=o.g:=by unfold bK;rw[C9 h]
def sP(h:ac)(F:ac.sml h)(R:ac.wf h)(l:cQ h=true):af Tryz.prog 30 false [.val (some 24) (ac.enc .H h)] .agg (bB.enc .own (bu h)):=by
 have cH:=qs h F R;rw[l]at cH;obtain⟨k1,S,-,-,G,⟨k6,k6b⟩,-⟩:=pu l;have T:=ib G;have V:=ig G;have u:=nY l;have w:=sB l;obtain⟨n,-,o,y,⟨W,-⟩,⟨X,p⟩,B,q,-⟩:=F;have Y:h.b.d.length<=1048576:=q.1;have H:=pf h.X.R.a n.1.2;have J:=qE h.X.R.U n.1.1;have K:=sU h.G h.J o y S;have N:=qm h.b.d q;have Z:=mT h.Y B;have ho0:bD bK h.S 0=0:=rfl;have hc0:bD aS h.O 0=0:=rfl;have hp0:bD (bG h) (ax h.Y) 0=0:=rfl;generalize hM:dC h.X.R.a=M at H;generalize hU:cT h.X.R.U=U at J;generalize hL:f6 h.G h.J=L at K;generalize hQ:quarCells h.b.d h.b.d.length=Q at N;refine fO 114 [(4,17,[17,18,19,20,21,22,23,24,25,26,27,28,29,30,31,32,4]),(10,4,[49,50,51,52]),(11,8,[55,56,57,58,59,60,61,62]),(15,8,[72,73,74,75,76,77,78,79]),(21,15,[96,97,98,99,100,101,102,103,104,105,106,107,108,109,110])] Tryz.func30 rfl ?_ (.inr (bB.enc_fr _))
 repeat'(first|refine gP ?_|(conv=>whnf);first|refine C4 (cH) ?_|refine C4 (H) ?_|refine C4 (J) ?_|refine C4 (K) ?_)
 (conv=>whnf)
 refine C8 (ι:=Nat) (λi=>[(1,.F .box (ac.enc .H h)),(2,.F .box ([I 0,I 0,I 0,I 0,I 0,I 0,I 0,I 0])),(4,.F .box ([I (fe h:Nat),I M,I U,I L,I (bD bK h.S i),I 0,I 0,I 0])),(5,.F .one [I ((i:Nat):Int)])]) (λi=>i<=h.S.length) (λi=>h.S.length - i) (0) ?_ (N0 _) λi r=>?_
 ·exact wB
 have hb:=dU (f:=bK) (xs:=h.S) (b:=1000) w i r;by_cases g:i<h.S.length
 ·have k:=ao g
  have hsz:=u _ (aF g);have d:bD bK h.S (i+1)=bD bK h.S i+bK (nth h.S i):=rfl;have C:=kc (cO (nth h.S i).g);by_cases e:0<=cO (nth h.S i).g
  ·rw[qy e]at d
   repeat'(first|refine gE ?_|(conv=>whnf);first|with_reducible refine C6 (ab k) ?_|refine C4 (jI _) ?_|refine C4 (cX _) ?_)
   ((conv=>whnf);refine C7 (i+1) ω ω ?_;(exact wB))
  rw[rM e]at d
  repeat'(first|refine gE ?_|(conv=>whnf);first|with_reducible (first|refine C6 (ab k) ?_|refine Bf.D (λhq=>?_) (λhq=>?_))|refine C4 (jI _) ?_)
  ((conv=>whnf);refine C7 (i+1) ω ω ?_;(exact wB))
 obtain rfl:i=h.S.length:=ω
 generalize hO:bD bK h.S h.S.length=O at hb
 repeat'(first|refine gE ?_|fail)
 (conv=>whnf)
 refine C8 (ι:=Nat) (λi=>[(1,.F .box (ac.enc .H h)),(2,.F .box ([I 0,I 0,I 0,I 0,I 0,I 0,I 0,I 0])),(4,.F .box ([I (fe h:Nat),I M,I U,I L,I O,I (bD aS h.O i),I 0,I 0])),(7,.F .one [I ((i:Nat):Int)])]) (λi=>i<=h.O.length) (λi=>h.O.length - i) (0) ?_ (N0 _) λi r=>?_
 ·exact wB
 have E:=dU (f:=aS) (xs:=h.O) (b:=256) (λc _=>gf c) i r;by_cases g:i<h.O.length
 ·have k:=ao g
  have hcb:=gf (nth h.O i);have d:bD aS h.O (i+1)=bD aS h.O i+aS (nth h.O i):=rfl
  repeat'(first|refine gE ?_|(conv=>whnf);first|with_reducible refine C6 (ab k) ?_|refine C4 (qQ (nth h.O i) (p _ (aF g))) ?_)
  ((conv=>whnf);refine C7 (i+1) ω ω ?_;(exact wB))
 obtain rfl:i=h.O.length:=ω
 generalize hC:bD aS h.O h.O.length=CC at E
 repeat'(first|refine gE ?_|(conv=>whnf);first|refine C4 (N) ?_|refine C4 (Z) ?_)
 (conv=>whnf)
 refine C8 (ι:=Nat) (λi=>[(1,.F .box (ac.enc .H h)),(2,.F .box ([I 0,I 0,I 0,I 0,I 0,I 0,I 0,I 0])),(4,.F .box ([I (fe h:Nat),I M,I U,I L,I O,I CC,I Q,I (bD (bG h) (ax h.Y) i)])),(8,.F .one (aK .own (ax h.Y))),(9,.F .one [I ((i:Nat):Int)])]) (λi=>i<=(ax h.Y).length) (λi=>(ax h.Y).length - i) (0) ?_ (N0 _) λi r=>?_
 ·exact wB
 have hb3:=dU (f:=bG h) (xs:=ax h.Y) (b:=8) (λa _=>kc _) i r;by_cases g:i<(ax h.Y).length
 ·have k:=ao g
  obtain⟨j,hj,-,t,ha0,ha1⟩:=DS l (aF g);have d:bD (bG h) (ax h.Y) (i+1)=bD (bG h) (ax h.Y) i+bG h (nth (ax h.Y) i):=rfl;rw[show bG h (nth (ax h.Y) i)=csz (nth h.G j).T by unfold bG;rw[t,M1]]at d;have hy:=ao hj;have C:=kc (nth h.G j).T;have q1:IntKind.i64.wrap ((nth (ax h.Y) i).tdiv 16)=nth (ax h.Y) i / 16:=by rw[iQ ω];exact iy ω ω
  have P:=jb h (nth (ax h.Y) i / 16) o.1;rw[t]at P
  repeat'(first|refine gE ?_|(conv=>whnf);first|with_reducible (first|refine C6 (ab k) ?_|refine C6 (ab hy) ?_)|refine CD (by decide) ?_|refine CB q1 ?_|refine CM rfl (ab k) rfl ?_|refine C4 (P) ?_|refine C4 (cX _) ?_)
  ((conv=>whnf);refine C7 (i+1) ω ω ?_;(exact wB))
 obtain rfl:i=(ax h.Y).length:=ω
 repeat'(first|refine gE ?_|fail)
 unfold bu;rw[hM,hU,hL,hO,hC,hQ]
 rfl
def sy(h:ac)(G:ac.sml h)(l:cQ h=true):af Tryz.prog 17 false [.val (some 24) (ac.enc .H h)] .agg (bB.enc .own (bu h)):=by
 have cH:=qv h G;rw[uy,l]at cH;obtain⟨k1,R,-,-,H,⟨k6,k6b⟩,-⟩:=pu l;have S:=ib H;have T:=ig H;have u:=nY l;have w:=sB l;obtain⟨n,-,o,p,⟨V,-⟩,⟨W,q⟩,y,r,-⟩:=G;have X:h.b.d.length<=1048576:=r.1;have J:=p6 h.X.R.a n.1.2;have K:=qP h.X.R.U n.1.1;have N:=si h.G h.J o p R;have P:=lv h.b.d r;have Y:=mX h.Y y;have Z:bD bK h.S 0=0:=rfl;have hc0:bD aS h.O 0=0:=rfl;have hp0:bD (bG h) (ax h.Y) 0=0:=rfl;generalize hM:dC h.X.R.a=M at J;generalize hU:cT h.X.R.U=U at K;generalize hL:f6 h.G h.J=L at N;generalize hQ:quarCells h.b.d h.b.d.length=Q at P;refine fO 103 [(3,23,[15,16,17,18,19,20,21,22,23,24,25,26,27,28,29,30,31,32,33,34,35,36,3]),(9,4,[49,50,51,52]),(15,4,[69,70,71,72]),(20,15,[84,85,86,87,88,89,90,91,92,93,94,95,96,97,98])] Tryz.func17 rfl ?_ (.inr (bB.enc_fr _))
 repeat'(first|refine gP ?_|(conv=>whnf);first|refine C4 (cH) ?_|refine C4 (uk h) ?_|refine C4 (J) ?_|refine C4 (K) ?_|refine C4 (N) ?_|refine C4 (P) ?_)
 (conv=>whnf)
 refine C8 (ι:=Nat) (λi=>[(1,.F .box (ac.enc .H h)),(2,.F .box ([I 0,I 0,I 0,I 0,I 0,I 0,I 0,I 0])),(3,.F .box ([I (fe h:Nat),I M,I U,I L,I (bD bK h.S i),I 0,I Q,I 0])),(38,.F .one (ee .H h.S)),(39,.F .one [I (h.S.length)]),(40,.F .one [I ((i:Nat):Int)])]) (λi=>i<=h.S.length) (λi=>h.S.length - i) (0) ?_ (N0 _) λi t=>?_
 ·exact wB
 have hb:=dU (f:=bK) (xs:=h.S) (b:=1000) w i t;by_cases g:i<h.S.length
 ·have k:=ao g
  have hsz:=u _ (aF g);have d:bD bK h.S (i+1)=bD bK h.S i+bK (nth h.S i):=rfl;have B:=kc (cO (nth h.S i).g);by_cases e:0<=cO (nth h.S i).g
  ·rw[qy e]at d
   repeat'(first|refine gE ?_|(conv=>whnf);first|with_reducible refine C6 (ab k) ?_|refine C4 (jZ _) ?_|refine C4 (bN _) ?_)
   ((conv=>whnf);refine C7 (i+1) ω ω ?_;(exact wB))
  rw[rM e]at d
  repeat'(first|refine gE ?_|(conv=>whnf);first|with_reducible (first|refine C6 (ab k) ?_|refine Bf.D (λhq=>?_) (λhq=>?_))|refine C4 (jZ _) ?_)
  ((conv=>whnf);refine C7 (i+1) ω ω ?_;(exact wB))
 obtain rfl:i=h.S.length:=ω
 generalize hO:bD bK h.S h.S.length=O at hb
 repeat'(first|refine gE ?_|fail)
 (conv=>whnf)
 refine C8 (ι:=Nat) (λi=>[(1,.F .box (ac.enc .H h)),(2,.F .box ([I 0,I 0,I 0,I 0,I 0,I 0,I 0,I 0])),(3,.F .box ([I (fe h:Nat),I M,I U,I L,I O,I (bD aS h.O i),I Q,I 0])),(63,.F .one (cP .H h.O)),(64,.F .one [I (h.O.length)]),(65,.F .one [I ((i:Nat):Int)])]) (λi=>i<=h.O.length) (λi=>h.O.length - i) (0) ?_ (N0 _) λi t=>?_
 ·exact wB
 have C:=dU (f:=aS) (xs:=h.O) (b:=256) (λc _=>gf c) i t;by_cases g:i<h.O.length
 ·have k:=ao g
  have hcb:=gf (nth h.O i);have d:bD aS h.O (i+1)=bD aS h.O i+aS (nth h.O i):=rfl
  repeat'(first|refine gE ?_|(conv=>whnf);first|with_reducible refine C6 (ab k) ?_|refine C4 (qI (nth h.O i) (q _ (aF g))) ?_)
  ((conv=>whnf);refine C7 (i+1) ω ω ?_;(exact wB))
 obtain rfl:i=h.O.length:=ω
 generalize hC:bD aS h.O h.O.length=CC at C
 repeat'(first|refine gE ?_|(conv=>whnf);first|refine C4 (Y) ?_)
 (conv=>whnf)
 refine C8 (ι:=Nat) (λi=>[(1,.F .box (ac.enc .H h)),(2,.F .box ([I 0,I 0,I 0,I 0,I 0,I 0,I 0,I 0])),(3,.F .box ([I (fe h:Nat),I M,I U,I L,I O,I CC,I Q,I (bD (bG h) (ax h.Y) i)])),(78,.F .one (aK .own (ax h.Y))),(79,.F .one [I ((ax h.Y).length)]),(80,.F .one [I ((i:Nat):Int)])]) (λi=>i<=(ax h.Y).length) (λi=>(ax h.Y).length - i) (0) ?_ (N0 _) λi t=>?_
 ·exact wB
 have hb3:=dU (f:=bG h) (xs:=ax h.Y) (b:=8) (λa _=>kc _) i t;by_cases g:i<(ax h.Y).length
 ·have k:=ao g
  obtain⟨j,hj,E,F,ha0,ha1⟩:=DS l (aF g);have d:bD (bG h) (ax h.Y) (i+1)=bD (bG h) (ax h.Y) i+bG h (nth (ax h.Y) i):=rfl;rw[show bG h (nth (ax h.Y) i)=csz (nth h.G j).T by unfold bG;rw[F,M1]]at d;have hy:h.G[(denotes h.G h.J (nth (ax h.Y) i)).a5.toNat]? = some (nth h.G j):=by rw[E,M1];exact ao hj
  have B:=kc (nth h.G j).T
  repeat'(first|refine gE ?_|(conv=>whnf);first|with_reducible refine C6 (ab k) ?_|refine CM rfl (ab k) rfl ?_|refine C4 (jU h.G h.J (nth (ax h.Y) i) o p) ?_|refine CJ ω (ab hy) ?_|refine C4 (bN _) ?_)
  ((conv=>whnf);refine C7 (i+1) ω ω ?_;(exact wB))
 obtain rfl:i=(ax h.Y).length:=ω
 repeat'(first|refine gE ?_|fail)
 unfold bu;rw[hM,hU,hL,hO,hC,hQ]
 rfl
def tC(s:ByteArray):C:=.v (.string s)
def y5(_:dm)(s:ByteArray):List C:=[tC s]
def fI(o:dm)(x:List ByteArray):List C:=[.s o (x.map (y5 o))]
def af.plain{P:Program}{f:Nat}{A:List RA}{x:Value}(k:x.oneCell'=true)(l:BD P f)(h:∀(w:World)(S:aa)(d:List Value),(∀b o,S b o->b<w.heap.size)->Tb w S->rE w S A d->Calls P f d.toArray w λe w1=>e=.returned x/\Below w.heap.size w w1):af P f false A .one [.v x]:=
 ⟨l,λw S d i n=>(h w S d i.1 i.2 n).mono λe w1 ⟨p,q⟩=>⟨x,p,bk.of_below q NO,NO,NO,λ_ _ h=>h.elim,λ_ _ h=>h.elim,λ_ _ h=>h.elim,rfl,
   λ_=>NO,λj c a=>by
     cases j with
     | zero=>simp at a;subst a;exact .v _ _ k
     | succ j=>simp at a,
   λ_ _ _ _ h=>h,λj t a g r=>by simp at a g;omega⟩⟩
def val_v{w:World}{S Y:aa}{x v:Value}(h:aX w S Y none [.v x] v):v=x:=by
 have a:=h.rep1;cases a
 rfl
def pi(n:Int)(h:gS n):af Tryz.prog 45 false [.val none [I n]] .one [tC (Bt.It n)]:=
 .plain rfl ⟨_,Tryz.func45,by kernel_rfl,by kernel_rfl⟩ λw S b d c a=>by
  match b,a with
  | [v],⟨a,_⟩=>
   obtain rfl:=val_v (show aX w S NO none [.v (.int .i64 n)] v from a);exact Bt.it_impl n w h.1 h.2 c.tab
def pc(n:Int)(h:gS n):af Tryz.prog 33 false [.val none [I n]] .one [tC (Bt.It n)]:=
 .plain rfl ⟨_,Tryz.func33,by kernel_rfl,by kernel_rfl⟩ λw S b c d a=>by
  match b,a with
  | [v],⟨a,_⟩=>
   obtain rfl:=val_v (show aX w S NO none [.v (.int .i64 n)] v from a);exact Bt.it_spec n w h.1 h.2
def zm(s:ah):af Tryz.prog 18 false [.val (some 3) (ah.enc .H s)] .one [tC (Bt.spText s.M s.T s.l)]:=
 .plain rfl ⟨_,Tryz.func18,by kernel_rfl,by kernel_rfl⟩ λw S b d c a=>by
  match b,a with
  | [v],⟨a,_⟩=>
   obtain rfl:=pk (l:=[.int .i64 s.M,.int .i64 s.T,.int .i64 s.l]) (show aX w S NO (some 3) (List.map C.v _) v from a);exact Bt.fs_impl s.M s.T s.l w c.tab
def zA(s:ah):af Tryz.prog 31 false [.val (some 3) (ah.enc .H s)] .one [tC (Bt.spText s.M s.T s.l)]:=
 .plain rfl ⟨_,Tryz.func31,by kernel_rfl,by kernel_rfl⟩ λw S b c d a=>by
  match b,a with
  | [v],⟨a,_⟩=>
   obtain rfl:=pk (l:=[.int .i64 s.M,.int .i64 s.T,.int .i64 s.l]) (show aX w S NO (some 3) (List.map C.v _) v from a);exact Bt.fs_spec s.M s.T s.l w
def HY(a:bB):List Value:=[.int .i64 a.i,.int .i64 a.b1,.int .i64 a.U,.int .i64 a.b5,.int .i64 a.b6,.int .i64 a.a9,.int .i64 a.u,.int .i64 a.b2]
def Hv(a:bB):ByteArray:=Fa.acS (zT a) 8
def BX(a:bB)(h:∀j,gS (Mm.gI (zT a) j)):af Tryz.prog 16 false [.val (some 8) (bB.enc .H a)] .one [tC (Hv a)]:=
 .plain rfl ⟨_,Tryz.func16,by kernel_rfl,by kernel_rfl⟩ λw S c e d b=>by
  match c,b with
  | [v],⟨b,_⟩=>
   obtain rfl:=pk (l:=HY a) (show aX w S NO (some 8) (List.map C.v _) v from b);exact Fa.accImpl_any (zT a) w h d.tab
def BA(a:bB)(h:∀j,gS (Mm.gI (zT a) j)):af Tryz.prog 29 false [.val (some 8) (bB.enc .H a)] .one [tC (Hv a)]:=
 .plain rfl ⟨_,Tryz.func29,by kernel_rfl,by kernel_rfl⟩ λw S c d e b=>by
  match c,b with
  | [v],⟨b,_⟩=>
   obtain rfl:=pk (l:=HY a) (show aX w S NO (some 8) (List.map C.v _) v from b);exact Fa.accSpec_any (zT a) w h
def DY(xs:List ByteArray)(sep:ByteArray):ByteArray:=⟨(Lib.join (xs.map (·.data.toList)) sep.data.toList).toArray⟩
def Gd(xs:List ByteArray)(sep:ByteArray)(X:xs.length<=1048576)(N:(DY xs sep).size<=140737488355328):af Tryz.prog 46 false [.val none (fI .H xs),.val none [tC sep]] .one [tC (DY xs sep)]:=
 .plain rfl ⟨_,Tryz.func46,by kernel_rfl,by kernel_rfl⟩ λw S O P Y D=>by
  match O,D with
  | [v,Q],⟨D,R,_⟩=>
   obtain rfl:=val_v (show aX w S NO none [.v (.string sep)] Q from R);have d:=aX.rep1 (show aX w S NO none [C.s .H (xs.map (y5 .H))] v from D);generalize b:C.s .H (xs.map (y5 .H))=cc at d;have none_:∀(a:Option Addr)(c:Nat),xs=[]->Calls Tryz.prog 46 #[.slice a 0 c,.string sep] w λe w1=>e=.returned (.string (DY xs sep))/\Below w.heap.size w w1:=λa c e=>by
    subst e;exact(Tryz.strings_Join_none a c sep w).mono λe w1 ⟨T,U⟩=>by subst U;exact⟨T,Below.refl _ _⟩
   cases d with
   | v=>cases b
   | x=>cases b
   | z=>cases b
   | nil _ o a t=>
    simp only[C.s.injEq,List.map_eq_nil_iff]at b;exact none_ a 0 b.2
   | suf _ o g l k n p h u f t=>cases b;exact t.elim
   | own _ o g k n p h u f t E J i Z hF hu hf hd K=>cases b;exact absurd t (by simp[dm.ok])
   | H _ g l k n p h u E J i q K=>
    simp only[C.s.injEq,true_and]at b;subst b;cases xs with
    | nil=>subst E;exact none_ _ _ rfl
    | cons r B=>
     have F:k=1:=by
      have:=J (y5 .H r) (List.mem_map_of_mem (W0 ..));rw[<-this];rfl
     subst F;have G:(r::B).length=n:=by rw[<-E,Q0]
     subst G;have V:=q 0 (by simp);refine Tryz.strings_Join g l p (r::B) sep w (λj x L=>?_) (P g (l+0) V.1) ω (by simpa using i) (by
       have:(DY (r::B) sep).size=(Lib.join ((r::B).map (·.data.toList)) sep.data.toList).length:=by show(List.toArray _).size=_;simp
       omega)
     have N:=(I1.1 L).1;have H:=K j 0 (y5 .H x) (tC x) (by rw[P1,L];rfl) rfl;have M:=(q j ω).2;rw[show j*1+0=j by omega]at H;have W:u j=.string x:=by
      generalize u j=y at H;cases H
      rfl
     rw[W]at M;exact M
   | _=>cases b
def vf(out:List aA):List aA->List aA
 | []=>out
 | y::ys=>match out.getLast? with
  | some z=>if z.At+z.a2=y.At then vf (out.dropLast++[⟨z.At,z.a2+y.a2⟩]) ys else vf (out++[y]) ys
  | none=>vf (out++[y]) ys
def HZ(xs:List aA):Prop:=xs.Pairwise (λa b=>a.At+a.a2<b.At)/\∀y∈xs,1<=y.a2
theorem GA{pages:Int}{xs:List aA}(h:cr pages xs=true):HZ xs/\∀y∈xs,0<=y.At/\1<=y.a2/\y.At+y.a2<=pages:=by
 unfold cr at h;simp only[I0,C0]at h;have d:∀i,i<xs.length->1<=(nth xs i).a2/\0<=(nth xs i).At/\(nth xs i).At<=pages - (nth xs i).a2:=λi a=>by grind [eJ,eg,rangeIn]
 have e:∀i,i+1<xs.length->(nth xs i).At+(nth xs i).a2<(nth xs (i+1)).At:=λi a=>by grind [eJ,eg]
 have f:∀j i,i<j->j<xs.length->(nth xs i).At+(nth xs i).a2<(nth xs j).At:=λj=>by
  induction j with
  | zero=>intro i a;omega
  | succ j k=>
   grind
 refine⟨⟨?_,λy g=>?_⟩,λy g=>?_⟩
 ·rw[List.pairwise_iff_getElem]
  intro i j a c b;have:=f j i b c
  rwa [bS (C1 a),bS (C1 c)]at this
 all_goals grind [cz]
theorem qW{α:Type}[Inhabited α](R:Int->Int->Prop)(n:∀a b c,R a b->R b c->R a c)(f:α->Int)(xs:List α):(∀i,i<xs.length->i=0\/R (f (nth xs (i - 1))) (f (nth xs i)))↔xs.Pairwise (λa b=>R (f a) (f b)):=by
 constructor
 ·intro h
  have l:∀j i,i<j->j<xs.length->R (f (nth xs i)) (f (nth xs j)):=λj=>by
   induction j with
   | zero=>intro i d;omega
   | succ j o=>
    grind
  rw[List.pairwise_iff_getElem];intro i j d k g;have:=l j i g k
  rwa [bS (C1 d),bS (C1 k)]at this
 intro h i d;by_cases e:i=0
 ·exact .inl e
 right
 have:=List.pairwise_iff_getElem.1 h (i - 1) i ω d ω
 rwa [<-bS (C1 (show i - 1<xs.length by omega)),<-bS (C1 d)]at this
theorem up{α:Type}[Inhabited α](f:α->Int)(xs:List α):(∀i,i<xs.length->∀o∈xs.take i,f o≠f (nth xs i))↔(xs.map f).Nodup:=by
 unfold List.Nodup;rw[List.pairwise_map,List.pairwise_iff_getElem];constructor
 ·intro h i j b a c
  have:=h j a xs[i] (List.mem_take_iff_getElem.2 ψ)
  rwa [bS (C1 a)]at this
 intro h i b o d;obtain⟨j,a,rfl⟩:=List.mem_take_iff_getElem.1 d;rw[bS (C1 b)]
 grind
def jJ(s:ah)(a:Int):Prop:=16*s.M<=a/\a<=16*s.M+15/\(a - 16*s.M) % csz s.T=0/\bp s.l ((a - 16*s.M) / csz s.T)=true
def rZ(sp:List ah)(a c:Int):Prop:=∃s∈sp,jJ s a/\(c<0\/s.T=c)
def JR(la:List am)(a z:Int):Prop:=∃l∈la,a=16*l.M/\l.g=z
def GG(sp:List ah)(la:List am)(o:bg):Prop:=(∃s∈sp,jJ s o.Z/\s.T=cO o.g)\/JR la o.Z o.g
def Live(sp:List ah)(la:List am)(a:Int):Prop:=rZ sp a (-1)\/∃l∈la,a=16*l.M
theorem jr{sp:List ah}{la:List am}(f:jC sp la)(a:Int):(∃i,i<sp.length/\(16*(nth sp i).M<=a/\a<=16*(nth sp i).M+15)/\denotes sp la a=kR i (nth sp i) a)\/((∀s∈sp,¬(16*s.M<=a/\a<=16*s.M+15))/\((∃i,i<la.length/\ba (nth la i) a=true/\denotes sp la a = ⟨3,i,0,a - 16*(nth la i).M⟩)\/((∀l∈la,ba l a=false)/\denotes sp la a = ⟨0,0,0,0⟩))):=by
 cases d:sp.findIdx? (ch · a) with
 | some i=>
  obtain⟨b,c,-⟩:=P3.1 d;rw[<-bS (C1 b)]at c
  grind [ez,jC.sok,aF,denotes]
 | none=>
  have g:=List.findIdx?_eq_none_iff.1 d;refine .inr ⟨λs h j=>?_,?_⟩
  ·grind [ez,jC.sok]
  cases e:la.findIdx? (ba · a) with
  | some i=>
   obtain⟨b,c,-⟩:=P3.1 e;rw[<-bS (C1 b)]at c
   grind [denotes]
  | none=>grind [denotes]
theorem DK{h:ac}(l:jC h.G h.J){a c:Int} : ct h a c=true↔rZ h.G a c:=by
 unfold ct;simp only[I0,I3,C0];constructor
 ·rintro⟨⟨b,f⟩,d⟩
  rcases jr l a with⟨i,j,k,g⟩|⟨-,⟨i,j,-,g⟩|⟨-,g⟩⟩
  ·rw[g]at b f d
   simp only[kR]at b f d;refine⟨_,aF j,⟨k.1,k.2,f,?_⟩,by simpa using d⟩;cases e:bp (nth h.G i).l ((a - 16*(nth h.G i).M) / csz (nth h.G i).T) with
   | true=>rfl
   | false=>rw[e]at b;simp at b
  all_goals grind
 rintro⟨s,n,⟨o,p,q,r⟩,d⟩
 grind [cz,gg,kR]
theorem Em{sp:List ah}{la:List am}(a:jC sp la){l:am}(c:l∈la):(∀s∈sp,¬(16*s.M<=16*l.M/\16*l.M<=16*s.M+15))/\ba l (16*l.M)=true/\∀i,i<la.length->ba (nth la i) (16*l.M)=true->nth la i=l:=by
 have k:=bq (a.lok _ c);have f:=cV (a.lok _ c);refine⟨λs g n=>?_,?_,λi d e=>?_⟩
 ·exact a.dis s g l c 0 ω ω
 ·grind [jC.lok,ba]
 obtain⟨j,h,rfl⟩:=cz c;have o:=bq (a.lok _ (aF d));have b:=a.lok _ (aF d);unfold bU at b;rw[C0]at b;unfold ba at e;rw[I0,C0]at e;rw[a.one i j d h ((nth la j).M - (nth la i).M).toNat 0 ω ω ω]
theorem EI{h:ac}(f:jC h.G h.J){o:bg} : fJ h o=true↔GG h.G h.J o:=by
 unfold fJ;simp only[I0,I3,C0];constructor
 ·rintro⟨b,a⟩
  rcases jr f o.Z with⟨i,d,g,c⟩|⟨-,⟨i,d,-,c⟩|⟨-,c⟩⟩
  ·rw[c]at a b
   simp only[kR]at a b;have e:bp (nth h.G i).l ((o.Z - 16*(nth h.G i).M) / csz (nth h.G i).T)=true:=ψ
   rw[e]at a;exact .inl ⟨_,aF d,⟨g.1,g.2,b,e⟩,by simpa using a⟩
  ·rw[c]at a b
   simp only at a b;exact .inr ⟨_,aF d,ω,by simpa using a⟩
  grind
 rintro(⟨s,e,⟨k,n,p,q⟩,r⟩|⟨l,j,t,u⟩)
 ·grind [cz,gg,kR]
 obtain⟨w,y,A⟩:=Em f j
 grind [jr,aF]
theorem yr{sp:List ah}{la:List am}(j:jC sp la)(a:Int):a∈gr sp la↔Live sp la a:=by
 constructor
 ·intro h
  unfold gr iW at h;obtain⟨n,o,rfl⟩:=C2.1 h;have c:=(I2.1 o).2;unfold gL at c;simp only[I0,I3,C0]at c;obtain⟨b,d⟩:=c;rcases jr j (n:Int) with⟨i,g,k,f⟩|⟨-,⟨i,g,-,f⟩|⟨-,f⟩⟩
  ·rw[f]at d b
   simp only[kR]at d b;refine .inl ⟨_,aF g,⟨k.1,k.2,b,?_⟩,.inl ω⟩;cases e:bp (nth sp i).l (((n:Int) - 16*(nth sp i).M) / csz (nth sp i).T) with
   | true=>rfl
   | false=>rw[e]at d;simp at d
  ·rw[f]at b
   simp only at b;exact .inr ⟨_,aF g,ω⟩
  grind
 rintro(⟨s,q,⟨r,c,t,u⟩,-⟩|⟨l,p,rfl⟩)
 ·grind [cz,gg,qS,kR]
 obtain⟨w,y,A⟩:=Em j p
 grind [jr,aF,qS]
def RH(xs:List aA)(p:Int):Prop:=∃r∈xs,r.At<=p/\p<r.At+r.a2
theorem sT{pages:Int}{xs:List aA} : cr pages xs=true↔HZ xs/\(∀y∈xs,0<=y.At/\1<=y.a2/\y.At+y.a2<=pages)/\1<=pages/\pages<=32:=by
 constructor
 ·grind [GA,cr]
 rintro⟨b,c,d⟩
 unfold cr;simp only[I0,C0];refine⟨bW.2 λi a=>?_,d⟩;have f:=c _ (aF a);unfold eg rangeIn;simp only[I0,C0];refine⟨ω,?_⟩;by_cases e:i=0
 ·exact .inl e
 right
 have:=List.pairwise_iff_getElem.1 b.1 (i - 1) i ω a ω
 rwa [<-bS (C1 (show i - 1<xs.length by omega)),<-bS (C1 a)]at this
theorem xV{pages:Int}{xs:List aA}(h:cr pages xs=true)(p:Int):xs.any (qC p)=true↔RH xs p:=by
 obtain⟨-,c,d⟩:=sT.1 h;rw[V1];refine⟨λ⟨r,a,b⟩=>⟨r,a,?_⟩,λ⟨r,a,b⟩=>⟨r,a,?_⟩⟩
 all_goals grind [iy,qC]
structure Pg(t:az)(fr:List aA)(sp:List ah)(la:List am):Prop where
 one:∀l∈la,∀p:Nat,(p:Int)∈lpgs l l.i.toNat->∀q:Nat,q<t.K.length->(nth t.K q).o≠0->(nth t.K q).j=(nth t.K p).j->q=p
 bnd:∀p∈pgs sp la,p<t.K.length
 own:∀p:Nat,p<t.K.length->((nth t.K p).o≠0↔(p:Int)∈pgs sp la)
 fre:∀p:Nat,p<t.K.length->((nth t.K p).o≠0↔¬RH fr p)
 mesh:∀s∈sp,∀u∈sp,s.M≠u.M->(nth t.K s.M.toNat).j=(nth t.K u.M.toNat).j->meshable s u=true
structure jB(h:ac)(E:List Int):Prop where
 ker:dh h.X=true
 rng:cr (fe h) h.p=true
 lay:bb h.G h.J=true
 srs:h.G.Pairwise λa b=>a.M<b.M
 srl:h.J.Pairwise λa b=>a.M<b.M
 pg:Pg (tbl h) h.p h.G h.J
 mail:de h.Y=true
 nc:h.O.length=h.Y.Q.length
 quar:fm h.b=true
 snc:∀x∈h.b.d,x.y<=h.b0
 cach:∀c∈h.O,bL c=true
 nums:fp h=true
 osr:h.S.Pairwise λa b=>a.Z<b.Z
 onu:∀o∈h.S,1<=o.Id/\o.Id<=h.q - 1/\0<=o.a3/\o.a3<=h.O.length - 1
 oid:(h.S.map (·.Id)).Nodup
 oow:∀o∈h.S,GG h.G h.J o
 hca:∀c∈h.O,∀k:Nat,k<c.W.length->∀a∈nth c.W k,rZ h.G a k
 hqu:∀x∈h.b.d,rZ h.G x.Z x.T
 hfl:∀a∈ax h.Y,rZ h.G a (-1)
 hin:∀a∈E,rZ h.G a (-1)
 nd:(E++holders h).Nodup
 mem:∀a,a∈E++holders h↔Live h.G h.J a
 job:h.a0=true->oE h.r=true/\(∃s∈h.G,s.M=h.r.h.a4)/\∃s∈h.G,s.M=h.r.h.a1
 noj:h.a0=false->xc h.r=true
theorem jB.L{h:ac}{E:List Int}(a:jB h E):jC h.G h.J:=jC.of a.lay
theorem tX(t:az)(f:Int):(cZ t f).Nodup:=by grind [List.nodup_range,cZ,ja]
def Gc{l:List Int}{a:Int}(b:l.Nodup)(d:a∈l)(c:∀x∈l,x=a):l.length=1:=by
 match l with
 | []=>cases d
 | [_]=>rfl
 | x::y::r=>
  exfalso;have e:=c x (by simp);have f:=c y (by simp);rw[e,f]at b;simp at b
theorem iV{sp:List ah}{la:List am}{s:ah}(a:s∈sp):s.M∈pgs sp la:=by grind [pgs]
theorem lN{sp:List ah}{la:List am}{l:am}(a:l∈la){p:Int}(b:p∈lpgs l l.i.toNat):p∈pgs sp la:=by grind [pgs]
theorem HK{h:ac}(b:bb h.G h.J=true)(N:cr (fe h) h.p=true)(A:pages0 h=true)(r:lI h=true):Pg (tbl h) h.p h.G h.J:=by
 have B:=jC.of b;obtain⟨C,D,t⟩:=ou A;have E:∀p:Nat,p<fe h->((nth (tbl h).K p).o≠0↔¬RH h.p p):=λp a=>by grind [eJ,xV,pages0,qM]
 refine⟨λl w p c q F e f=>?_,D,t,E,λs G u H J O=>?_⟩
 ·obtain⟨i,y,rfl⟩:=cz w
  obtain⟨k,g,n⟩:=gz.1 c;have a:p<fe h:=by grind [lN]
  have d:=(t p a).2 (lN w c);have K:=C i y k g;rw[<-n,eU a d]at K;have P:(p:Int)∈cZ (tbl h) (nth (tbl h).K p).j:=dD.2 ⟨a,d,rfl⟩;have Q:(q:Int)∈cZ (tbl h) (nth (tbl h).K p).j:=dD.2 ⟨F,e,f⟩
  grind [List.length_eq_one_iff]
 obtain⟨i,y,rfl⟩:=cz G;obtain⟨j,R,rfl⟩:=cz H;have L:∀k,k<h.G.length->aZ (tbl h) (nth h.G k).M=nth (tbl h).K (nth h.G k).M.toNat:=λk g=>by
  have S:=aR (B.sok _ (aF g))
  grind [iV,uZ,nth]
 unfold lI at r;rw[bW]at r;rcases Nat.lt_trichotomy i j with o|M|o
 all_goals grind [eJ,p8,jn]
theorem ux(sp:List ah):cB sp.length (rr sp)=true↔sp.Pairwise λa b=>a.M<b.M:=by
 rw[bW];refine Iff.trans ?_ (qW (λa b:Int=>a<b) ω (λs:ah=>s.M) sp)
 grind [rr]
theorem uO(la:List am):cB la.length (rJ la)=true↔la.Pairwise λa b=>a.M<b.M:=by
 rw[bW];refine Iff.trans ?_ (qW (λa b:Int=>a<b) ω (λs:am=>s.M) la)
 grind [rJ]
theorem Ja{h:ac}(o:bb h.G h.J=true)(D:cr (fe h) h.p=true)(A:h.G.Pairwise λa b=>a.M<b.M)(B:h.J.Pairwise λa b=>a.M<b.M)(c:Pg (tbl h) h.p h.G h.J):pages0 h=true/\lI h=true:=by
 have u:=jC.of o;constructor
 ·unfold pages0
  simp only[I0];refine⟨⟨⟨(ux _).2 A,bW.2 λi l=>?_⟩,W1.2 λp n=>L0 (c.bnd p n)⟩,bW.2 λp n=>?_⟩
  ·unfold oV
   rw[I0];refine⟨eJ ((uO _).2 B) l,bW.2 λk w=>?_⟩;have y:=aF l;have E:=bq (u.lok _ y);obtain⟨p,n⟩ : ∃p:Nat,(nth h.J i).M+(k:Nat)=(p:Nat):=⟨((nth h.J i).M+k).toNat,ω⟩
   have q:(p:Int)∈lpgs (nth h.J i) (nth h.J i).i.toNat:=gz.2 ψ;have d:p<fe h:=by have:=c.bnd _ (lN (sp:=h.G) y q);exact Int.ofNat_lt.1 this
   have r:=(c.own p d).2 (lN y q);unfold rT;rw[C0,n,eU d r];refine Gc (tX ..) (dD.2 ⟨d,r,rfl⟩) λx F=>?_
   grind [lC,dD,Pg.one]
  unfold qM;rw[I0,C0];refine⟨c.own p n,?_⟩;have G:=c.fre p n
  grind [xV]
 unfold lI;refine bW.2 λi l=>bW.2 λj H=>?_
 have g:j<h.G.length:=ω
 have t:∀k,k<h.G.length->aZ (tbl h) (nth h.G k).M=nth (tbl h).K (nth h.G k).M.toNat:=λk w=>by
  have J:=aR (u.sok _ (aF w));have K:=c.bnd _ (iV (la:=h.J) (aF w))
  grind [uZ,fe,tbl]
 unfold jn;rw[t i l,t j g,I3,C0];by_cases e:(nth (tbl h).K (nth h.G i).M.toNat).j=(nth (tbl h).K (nth h.G j).M.toNat).j
 ·refine .inr (c.mesh _ (aF l) _ (aF g) (λC=>?_) e)
  have:=ol (f:=(·.M)) u.nd l g C;omega
 exact .inl e
theorem xG{h:ac}(c:fp h=true)(d:jC h.G h.J):dK h=true↔(h.S.Pairwise λa b=>a.Z<b.Z)/\(∀o∈h.S,1<=o.Id/\o.Id<=h.q - 1/\0<=o.a3/\o.a3<=h.O.length - 1)/\(h.S.map (·.Id)).Nodup/\∀o∈h.S,GG h.G h.J o:=by
 unfold fp at c;rw[C0]at c;refine Iff.trans ?_ (and_congr (qW (λa b:Int=>a<b) ω (λo:bg=>o.Z) h.S) (and_congr Iff.rfl (and_congr (up (λo:bg=>o.Id) h.S) Iff.rfl)));unfold dK;rw[iy ω ω,bW];have e:∀i,i<h.S.length->(gU (h.q - 1) h i=true↔(i=0\/(nth h.S (i - 1)).Z<(nth h.S i).Z)/\(1<=(nth h.S i).Id/\(nth h.S i).Id<=h.q - 1/\0<=(nth h.S i).a3/\(nth h.S i).a3<=h.O.length - 1)/\(∀o∈h.S.take i,o.Id≠(nth h.S i).Id)/\GG h.G h.J (nth h.S i)):=λi f=>by grind [EI,gU,eG,gG]
 grind [cz,aF]
def sn{h:ac}(b:jC h.G h.J):fQ h=true↔(∀c∈h.O,∀k:Nat,k<c.W.length->∀a∈nth c.W k,rZ h.G a k)/\(∀x∈h.b.d,rZ h.G x.Z x.T)/\∀a∈ax h.Y,rZ h.G a (-1):=by
 rw[iY];simp only[W1,d8,bW,oW,eS,gh,DK b,and_assoc]
theorem Ba{p:Int}{h:ac} : 0<=dE h p↔∃s∈h.G,s.M=p:=by grind [dE,gW,i9]
theorem jB.of{h:ac}(g:cQ h=true):jB h []:=by
 unfold cQ iv at g;simp only[I0]at g;obtain⟨⟨⟨⟨⟨⟨⟨⟨⟨⟨r,l⟩,e⟩,j⟩,n⟩,c⟩,t⟩,H⟩,o⟩,k,b⟩,d⟩:=g;have p:=jC.of e;rw[pz e j]at n;have f:=j;unfold pages0 at f;simp only[I0]at f;unfold cC at c;simp only[I0,C0]at c;unfold fS at b;simp only[I0,C0]at b;obtain⟨⟨u,w⟩,J⟩:=b;obtain⟨y,A,B,C⟩:=(xG o p).1 k;obtain⟨D,E,F⟩:=(sn p).1 u;unfold iX at t;have G:=bW.1 f.1.1.2;refine⟨r,l,e,(ux _).1 f.1.1.1,(uO _).1 (bW.2 λi K=>?_),HK e l j n,c.1.1,c.1.2,c.2,ψ,ψ,o,y,A,B,C,D,E,F,ψ,(by simpa using w),λa=>?_,λq=>?_,λq=>?_⟩
 ·grind [oV]
 ·grind [yr,nZ,nP]
 ·unfold o6 at d
  rw[CA q]at d
  grind [Ba]
 grind [o6]
theorem jB.to{h:ac}(b:jB h []):cQ h=true:=by
 have c:=b.L;obtain⟨e,g⟩:=Ja b.lay b.rng b.srs b.srl b.pg;have d:=(xG b.nums c).2 ⟨b.osr,b.onu,b.oid,b.oow⟩;have f:=(sn c).2 ⟨b.hca,b.hqu,b.hfl⟩;unfold cQ iv;simp only[I0];refine⟨⟨⟨⟨⟨⟨⟨⟨⟨⟨b.ker,b.rng⟩,b.lay⟩,e⟩,by grind [pz,jB.lay]⟩,?_⟩,?_⟩,W1.2 b.cach⟩,b.nums⟩,d,?_⟩,?_⟩
 ·grind [jB.mail,jB.quar,jB.nc,cC]
 ·grind [jB.snc,iX]
 ·unfold fS
  have i:(holders h).Nodup:=by simpa using b.nd
  have j:∀a,a∈holders h↔a∈gr h.G h.J:=λa=>by rw[yr c,<-b.mem a];simp
  grind [ql,List.Perm.length_eq]
 grind [jB.job,Ba,jB.noj,o6]
theorem rZ.any{sp:List ah}{a c:Int}(h:rZ sp a c):rZ sp a (-1):=by
 obtain⟨s,b,d,-⟩:=h;exact⟨s,b,d,.inl (by decide)⟩
theorem jB.toQuar{h:ac}{E:List Int}{x:ay}{q:aT}{out:List ay}(c:jB h (x.Z::E))(f:fm q=true)(d:h.b.d++[x]=out++q.d)(j:x.y<=h.b0)(k:rZ h.G x.Z x.T):jB {h with b:=q} (out.map (·.Z)++E):=by
 have e:∀y∈out++q.d,y.y<=h.b0/\rZ h.G y.Z y.T:=λy a=>by
  rw[<-d]at a;rcases N1.1 a with a|a
  ·exact⟨c.snc y a,c.hqu y a⟩
  grind
 have g:(x.Z::E++holders h).Perm ((out.map (·.Z)++E)++holders {h with b:=q}):=by
  refine List.perm_iff_count.2 λb=>?_
  have i:=O0 (λl:List ay=>(l.map (·.Z)).count b) d;simp only[X2,List.count_append,C3,List.map_nil,List.count_singleton]at i
  grind [holders,i6]
 exact {c with
   quar:=f
   snc:=(ψ)
   hqu:=(ψ)
   hin:=λb n=>by grind [rZ.any,jB.hin]
   nd:=g.nodup_iff.1 c.nd
   mem:=λb=>by grind [jB.mem]}
def yZ(b i:Int):Int:=((BitVec.ofInt IntKind.i64.bits b &&& ~~~BitVec.ofInt IntKind.i64.bits (2 ^ i.toNat)).toNat:Nat)
def Hk(s:ah)(i:Int):ah:={s with l:=yZ s.l i}
theorem xg(b i:Int):bp b i=true↔0<=b/\0<=i/\i<=15/\b.toNat.testBit i.toNat=true:=by grind [bp]
theorem DZ{b i:Int}(d:0<=b/\b<=65535)(a:0<=i/\i<=15)(j:Nat):(yZ b i).toNat.testBit j=(b.toNat.testBit j&&decide (i.toNat≠j)):=by
 have e:(2:Int) ^ i.toNat<=32768/\0<=(2:Int) ^ i.toNat:=by
  obtain⟨n,rfl⟩:=Int.eq_ofNat_of_zero_le a.1;rw[M1];have:(2:Nat) ^ n<=2 ^ 15:=Nat.pow_le_pow_right (by decide) ω
  grind
 unfold yZ;rw[M1,BitVec.testBit_toNat,BitVec.getLsbD_and,BitVec.getLsbD_not,<-BitVec.testBit_toNat,<-BitVec.testBit_toNat,qU ω,qU ω];rw[show((2:Int) ^ i.toNat).toNat=2 ^ i.toNat by rw[show(2:Int) ^ i.toNat=((2 ^ i.toNat:Nat):Int) by norm_cast,M1],Nat.testBit_two_pow];by_cases c:j<64
 ·rw[show decide (j<IntKind.i64.bits)=true from L0 c,Bool.true_and]
  grind
 rw[Nat.testBit_lt_two_pow (x:=b.toNat) (i:=j) (U1 (show b.toNat<2 ^ 16 by omega) (Nat.pow_le_pow_right (by decide) ω))]
 rfl
theorem FN{b i:Int}(a:0<=b/\b<=65535):0<=yZ b i/\yZ b i<=b:=by grind [qU,Nat.and_le_left,yZ]
theorem ED{b i:Int}(a:0<=b/\b<=65535)(c:0<=i/\i<=15)(j:Int):bp (yZ b i) j=true↔bp b j=true/\j≠i:=by grind [xg,DZ,FN]
def zX{s:ah}(h:bn s=true):0<=s.l/\s.l<=65535:=by
 unfold bn at h;simp only[C0]at h;have:=Ex s.T;omega
def md(s:ah)(a:Int):Int:=(a - 16*s.M) / csz s.T
theorem Di{s:ah}(h:bn s=true){a:Int}(b:16*s.M<=a/\a<=16*s.M+15):0<=md s a/\md s a<=15:=by
 have c:=aR h
 grind [cS,md]
theorem zn{s:ah}(h:bn s=true){a b:Int}(c:(a - 16*s.M) % csz s.T=0)(d:(b - 16*s.M) % csz s.T=0)(e:md s a=md s b):a=b:=by
 have f:=aR h
 grind [cS,md]
theorem u9{s:ah}(h:bn s=true){a:Int}(k:jJ s a)(b:Int):jJ (Hk s (md s a)) b↔jJ s b/\b≠a:=by
 obtain⟨l,n,o,p⟩:=k;have c:=Di h ⟨l,n⟩;unfold jJ;simp only[Hk];rw[ED (zX h) c];constructor
 ·rintro⟨g,i,d,j,f⟩
  exact⟨ψ,λe=>f (by rw[e];rfl)⟩
 rintro⟨⟨g,i,d,j⟩,f⟩
 exact⟨g,i,d,j,λe=>f (zn h d o e)⟩
theorem yH{α:Type}[Inhabited α]{xs:List α}{i:Nat}{y z:α}(h:z∈xs.set i y):z=y\/∃j,j<xs.length/\j≠i/\nth xs j=z:=by
 obtain⟨j,a,rfl⟩:=List.mem_iff_getElem.1 h;rw[List.getElem_set];by_cases e:i=j
 ·subst e;simp
 rw[C9 e];rw[List.length_set]at a;exact .inr ⟨j,a,λx=>e x.symm,bS ψ⟩
theorem xW{α:Type}[Inhabited α]{xs:List α}{i j:Nat}(y:α)(a:j<xs.length)(e:j≠i):nth xs j∈xs.set i y:=by
 have:nth (xs.set i y) j=nth xs j:=by grind [Gn]
 grind [aF]
theorem vX{α:Type}{xs:List α}{i:Nat}(y:α)(a:i<xs.length):y∈xs.set i y:=by grind [List.mem_iff_getElem]
def rZ.set{sp:List ah}{la:List am}(q:jC sp la){i:Nat}(k:i<sp.length){a:Int}(l:jJ (nth sp i) a)(b c:Int):rZ (sp.set i (Hk (nth sp i) (md (nth sp i) a))) b c↔rZ sp b c/\b≠a:=by
 have g:=q.sok _ (aF k);constructor
 ·rintro⟨s,o,d,h⟩
  rcases yH o with rfl|⟨j,n,r,rfl⟩
  ·have:=(u9 g l b).1 d
   exact⟨⟨_,aF k,this.1,h⟩,this.2⟩
  refine⟨⟨_,aF n,d,h⟩,λe=>?_⟩;subst e;have:=ol (f:=(·.M)) q.nd k n (by have t:=l.1;have u:=l.2.1;have w:=d.1;have y:=d.2.1;omega);omega
 rintro⟨⟨s,o,d,h⟩,p⟩
 obtain⟨j,n,rfl⟩:=cz o;by_cases e:j=i
 ·subst e
  exact⟨_,vX _ k,(u9 g l b).2 ⟨d,p⟩,h⟩
 exact⟨_,xW _ n e,d,h⟩
def Jb(h:ac)(p:Int):Bool:=h.a0&&(decide (p=h.r.h.a4) || decide (p=h.r.h.a1))
def qc(l:List ay):Int:=quarCells l l.length
theorem EO{q:aT} : fm q=true↔(∀x∈q.d,0<=x.T/\x.T<=3/\0<=x.Z/\0<=x.y)/\(q.d.Pairwise λa b=>a.y<=b.y)/\(q.d.map (·.Z)).Nodup/\0<=q.b4/\q.b4<=500/\qc q.d<=q.b4:=by
 refine Iff.trans ?_ (and_congr Iff.rfl (and_congr (qW (λa b:Int=>a<=b) ω (λs:ay=>s.y) q.d) (and_congr (up (λs:ay=>s.Z) q.d) Iff.rfl)));unfold fm qc
 grind [bW,List.any_eq_false,cz,aF,ge,dL]
def wP(h:ac)(a:Int):Nat:=(h.J.findIdx? λl=>decide (l.M*16=a)).getD 0
theorem Ga{h:ac}{l:am}(n:l∈h.J){a:Int}(e:a=16*l.M):wP h a<h.J.length/\a=16*(nth h.J (wP h a)).M/\(∀j,j<wP h a->(nth h.J j).M*16≠a)/\h.J.findIdx? (λl=>decide (l.M*16=a))=some (wP h a):=by
 cases c:h.J.findIdx? λl=>decide (l.M*16=a) with
 | none=>
  grind
 | some k=>
  obtain⟨b,d,f⟩:=P3.1 c;have g:wP h a=k:=by grind [wP]
  rw[g];rw[<-bS (C1 b),C0]at d;refine⟨b,ω,λj i=>?_,rfl⟩;have:=f j i;rw[<-bS (C1 (show j<h.J.length by omega))]at this;simpa using this
theorem AB:∀{H L:List Int},H.Nodup->(∀x∈H,x∈L)->H.length<=L.length
 | [],L,_,_=>N0 _
 | y::H,L,b,c=>by
  have d:y∈L:=ψ
  have a:=List.nodup_cons.1 b;have:=AB (L:=L.erase y) a.2 ψ
  grind
theorem tl{H:List Int}{n:Nat}(a:H.Nodup)(b:∀x∈H,0<=x/\x<n):H.length<=n:=by
 have:=AB (L:=(List.range n).map λ(i:Nat)=>(i:Int)) a λx c=>C2.2 ⟨x.toNat,List.mem_range.2 ψ,ψ⟩
 simpa using this
theorem pG{α:Type}{f:α->Int}{xs:List α}(h:xs.Pairwise λa b=>f a<f b):(xs.map f).Nodup:=ψ
theorem EQ:∀(b:List (List Int))(k:Nat)(s:List Int),(jl k s b).isSome=true->∀l∈b,l.length<=8
 | [],_,_,_,l,a=>by cases a
 | x::b,k,s,h,l,a=>by
  simp only[jl]at h;cases e:fE k s x with
  | none=>grind
  | some c=>
   rw[e]at h;rcases List.mem_cons.1 a with rfl|a
   ·grind [fE]
   exact EQ b (k+1) c h l a
theorem vP{c:ar}(h:bL c=true):c.W.length=4/\∀l∈c.W,l.length<=8:=by grind [EQ,bL]
structure Hj(h:ac):Prop where
 cells:h.X.R.U.V.length<=32
 row:∀r∈h.X.R.U.V,r.length=16
 used:h.X.R.U.c.length<=32
 ents:h.X.R.a.K.length<=32
 ref:h.X.k.length<=40
 free:h.p.length<=32
 spans:h.G.length<=32
 larges:h.J.length<=32
 objs:h.S.length<=512
 caches:h.O.length<=4
 lists:∀c∈h.O,c.W.length=4/\∀l∈c.W,l.length<=8
 quar:h.b.d.length<=512
def rZ.bd{h:ac}{E:List Int}(b:jB h E){a c:Int}(d:rZ h.G a c):0<=a/\a<512:=by
 obtain⟨s,e,⟨f,g,-⟩,-⟩:=d;have i:=aR (b.L.sok s e);omega
theorem jB.lens{h:ac}{E:List Int}(a:jB h E):Hj h:=by
 obtain⟨G,k,p,J,K,M,q⟩:=oR.1 a.ker;obtain⟨N,t,O,P⟩:=vC.1 k;obtain⟨Q,R,u⟩:=xO.1 p;obtain⟨w,S,T⟩:=sT.1 a.rng;obtain⟨U,V,A,W⟩:=EO.1 a.quar;have g:=a.mail;unfold de at g;simp only[I0,C0]at g;have B:=a.nc;refine⟨t,λr i=>?_,ω,u,q,?_,?_,?_,?_,ω,λc C=>vP (a.cach c C),?_⟩
 ·obtain⟨j,X,rfl⟩:=cz i
  grind [j6]
 ·have:=tl (H:=h.p.map (·.At)) (n:=32) (pG (w.1.imp_of_mem ψ)) λx b=>by
   obtain⟨r,i,rfl⟩:=C2.1 b
   grind
  simpa using this
 ·have:=tl (H:=h.G.map (·.M)) (n:=32) a.L.nd λx b=>by
   obtain⟨s,d,rfl⟩:=C2.1 b;have:=aR (a.L.sok s d);omega
  simpa using this
 ·have:=tl (H:=h.J.map (·.M)) (n:=32) (pG a.srl) λx b=>by
   obtain⟨l,f,rfl⟩:=C2.1 b;have:=bq (a.L.lok l f);omega
  simpa using this
 ·have:=tl (H:=h.S.map (·.Z)) (n:=512) (pG a.osr) λx b=>by
   obtain⟨o,D,rfl⟩:=C2.1 b;rcases a.oow o D with⟨s,d,⟨Y,Z,-⟩,-⟩|⟨l,f,e,-⟩
   ·have:=aR (a.L.sok s d);omega
   have:=bq (a.L.lok l f);omega
  simpa using this
 have:=tl (H:=h.b.d.map (·.Z)) (n:=512) A λx b=>by
  obtain⟨y,F,rfl⟩:=C2.1 b;exact(a.hqu y F).bd a
 simpa using this
def join_nil(y:aA)(a:List aA):vf [] (y::a)=vf [y] a:=by rw[vf];rfl
set_option maxRecDepth 100000
theorem g8(c:C):FF c c:=(lx [c]).1
theorem Ka{c a:C}(h:a=c):FF c a:=by grind [g8]
def JZ(c:ar)(k:Nat):ar:=⟨c.W.set k []⟩
def spilt(h:ac)(t k:Nat):ac:={h with O:=h.O.set t (JZ (nth h.O t) k)}
def JG(s:Int):Int:=(1103515245*s+12345) % 1073741824
def JO(s n:Int):Int:=JG s / 1024 % n
def HI(n:Nat):List Int:=(List.range n).map λ(i:Nat)=>(i:Int)
def HV(xs:List Int)(i k:Nat):List Int:=(xs.set i (nth xs k)).set k (nth xs i)
def Bc(n:Nat)(s:Int):Nat->List Int × Int
 | 0=>(HI n,s)
 | j+1=>(HV (Bc n s j).1 (n - 1 - j) (JO (Bc n s j).2 ((n - 1 - j:Nat)+1:Int)).toNat,JG (Bc n s j).2)
def shuf(n:Nat)(s:Int):List Int × Int:=Bc n s (n - 1)
def HU(b:Int):Nat->Nat
 | 0=>0
 | n+1=>HU b n+(if bp b (n:Nat)=true then 1 else 0)
def Jn(h:ac)(s:ah):Bool:=decide (0<HU s.l 16)&&decide ((aG h s.M).length=1)
def DO(h:ac):Nat->List ah
 | 0=>[]
 | n+1=>if Jn h (nth h.G n)=true then DO h n++[nth h.G n] else DO h n
def Ha(h:ac):List ah:=DO h h.G.length
def Ht(s:ah)(c:Nat):Bool:=bp s.l (((c:Nat):Int) / csz s.T)
def Jr(s:ah)(n:Nat):List Int:=((List.range n).filter (Ht s)).map λ(i:Nat)=>(i:Int)
structure qz where
 A:Int
 B:Int
deriving DecidableEq,Inhabited
def J1(i:Int)(p:qz):Bool:=decide (p.A=i) || decide (p.B=i)
def Hs(a b:ah):bf:=if(Jr a 16).length<(Jr b 16).length then⟨b.M,a.M,Jr a 16⟩ else⟨a.M,b.M,Jr b 16⟩
def J2(p:bf):bA:=⟨p,0,0⟩
def tkn(out:List qz)(a:Int):Bool:=out.any (J1 a)
def stp(a:List ah)(p:List Int)(t i:Nat)(out:List qz):List qz:=
 if tkn out (nth p i)=false/\tkn out (nth p (p.length / 2+(i+t) % (p.length - p.length / 2)))=false/\meshable (nth a (nth p i).toNat) (nth a (nth p (p.length / 2+(i+t) % (p.length - p.length / 2))).toNat)=true then out++[⟨nth p i,nth p (p.length / 2+(i+t) % (p.length - p.length / 2))⟩] else out
def HR(a:List ah)(p:List Int)(t:Nat)(out:List qz):Nat->List qz
 | 0=>out
 | i+1=>stp a p t i (HR a p t out i)
def HM(a:List ah)(p:List Int):Nat->List qz
 | 0=>[]
 | t+1=>HR a p t (HM a p t) (p.length / 2)
def Gm(a:List ah)(s:Int):List qz:=HM a (shuf a.length s).1 3
def sN(h:ac):List ah:=(Ha h).take 16
def started(h:ac):ac × Bool:=match Gm (sN h) h.c0 with
 | []=>({h with c0:=(shuf (sN h).length h.c0).2},false)
 | q::_=>({h with c0:=(shuf (sN h).length h.c0).2,a0:=true,r:=J2 (Hs (nth (sN h) q.A.toNat) (nth (sN h) q.B.toNat))},true)
def AK(k:au):au:={k with a8:=k.a8+1}
def refd(k:au):Bool:=decide (k.a8∈k.k)
def HH(k:au)(p:Int)(m:Int):au:={k with R:=⟨k.R.U,⟨k.R.a.K.set p.toNat {nth k.R.a.K p.toNat with o:=m}⟩⟩}
def AO(k:au)(p m:Int):au × Bool:=if refd k=true then(AK k,false) else(HH (AK k) p m,true)
def setCell(k:au)(f:Nat)(c v:Int):au:={k with R:=⟨⟨k.R.U.V.set f ((nth k.R.U.V f).set c.toNat v),k.R.U.c⟩,k.R.a⟩}
def Jh(k:au)(p:Int):Nat:=(aZ k.R.a p).j.toNat
def HW(k:au)(a b c:Int):au:=setCell k (Jh k b) c (nth (nth k.R.U.V (Jh k a)) c.toNat)
def J4(k:au)(p:Nat)(e:aD):au:={k with R:=⟨k.R.U,⟨k.R.a.K.set p e⟩⟩}
def JM(k:au)(p o:Int):au × Bool:=if refd k=true then(AK k,false) else(Je (J4 (AK k) p.toNat ⟨2,(nth k.R.a.K o.toNat).j⟩) (nth k.R.a.K p.toNat).j,true)
def GZ(m:aB)(a v:Int):aB × Int:=
 if(aZ m.a (a / 16)).o=0 then(m,1) else if(aZ m.a (a / 16)).o=1 then(m,2) else
 (⟨⟨m.U.V.set (aZ m.a (a / 16)).j.toNat ((nth m.U.V (aZ m.a (a / 16)).j.toNat).set (a % 16).toNat v),m.U.c⟩,m.a⟩,0)
def jmay(k:au)(j:bA):Bool:=(dh k&&decide (k.a8≠100000))&&(oE j&&decide ((aZ k.R.a j.h.a4).o≠0/\(aZ k.R.a j.h.a1).o≠0/\(aZ k.R.a j.h.a4).j≠(aZ k.R.a j.h.a1).j))
def jstep(k:au)(j:bA):au × bA:=
 if j.a6=0 then((AO k j.h.a1 1).1,{j with a6:=if(AO k j.h.a1 1).2=true then 1 else 5})
 else if j.a6=1 then(if j.q=j.h.V.length then(k,{j with a6:=2}) else(HW k j.h.a1 j.h.a4 (nth j.h.V j.q.toNat),{j with q:=j.q+1}))
 else if j.a6=2 then((JM k j.h.a1 j.h.a4).1,{j with a6:=if(JM k j.h.a1 j.h.a4).2=true then 4 else 3})
 else if j.a6=3 then(if 0<j.q then({k with R:=(GZ k.R (j.h.a4*16+nth j.h.V (j.q - 1).toNat) 0).1},{j with q:=j.q - 1}) else((AO k j.h.a1 2).1,{j with a6:=if(AO k j.h.a1 2).2=true then 5 else 3}))
 else(k,j)
def J9(t:az)(p:Int):Prop:=∀q:Nat,(nth t.K q).o≠0->(nth t.K q).j=(nth t.K p.toNat).j->(q:Int)=p
theorem jC.apart{sp:List ah}{la:List am}(a:jC sp la){s:ah}(b:s∈sp){l:am}(c:l∈la){p:Int}(d:p∈lpgs l l.i.toNat):s.M≠p:=by grind [jC.dis,lpgs]
theorem Pg.on{t w:az}{F:List aA}{sp:List ah}{la:List am}(g:Pg t F sp la)(k:jC sp la){a b:ah}(G:a∈sp)(N:b∈sp)(hm:meshable a b=true)(o:J9 t a.M)(C:(nth t.K a.M.toNat).o≠0)(O:(nth t.K b.M.toNat).o≠0)(P:0<=b.M)(Q:w.K.length=t.K.length)(A:∀q:Nat,nth w.K q=if(q:Int)=b.M then⟨2,(nth t.K a.M.toNat).j⟩ else nth t.K q):Pg w F sp la:=by
 have c:∀q:Nat,(nth w.K q).o≠0↔(nth t.K q).o≠0:=ψ
 have R:0<=a.M:=by have:=k.sok a G;grind [bn]
 refine⟨λl r p n q hq S D=>?_,λp n=>by rw[Q];exact g.bnd p n,λp n=>(c p).trans (g.own p ω),λp n=>(c p).trans (g.fre p ω),λs H u J T h=>?_⟩
 ·have E:¬(p:Int)=b.M:=λe=>k.apart N r n e.symm
  rw[A p,C9 E,A q]at D;rw[c]at S;by_cases e:(q:Int)=b.M
  ·rw[CA e]at D
   have K:=g.one l r p n a.M.toNat (by have:=g.bnd _ (iV (la:=la) G);omega) C D
   grind [jC.apart]
  grind [Pg.one]
 have U:0<=s.M:=by have:=k.sok s H;grind [bn]
 have V:0<=u.M:=by have:=k.sok u J;grind [bn]
 have L:∀x∈sp,∀y∈sp,x.M=y.M->x=y:=λx B y W e=>by
  obtain⟨i,X,rfl⟩:=cz B;obtain⟨j,Y,rfl⟩:=cz W;rw[ol (f:=(·.M)) k.nd X Y e]
 have d:∀x∈sp,(nth t.K x.M.toNat).o≠0:=λx B=>by
  have Z:0<=x.M:=by have:=k.sok x B;grind [bn]
  refine(g.own x.M.toNat (by have:=g.bnd _ (iV (la:=la) B);omega)).2 ?_
  grind [iV]
 rw[A,A]at h;simp only[show((s.M.toNat:Nat):Int)=s.M by omega,show((u.M.toNat:Nat):Int)=u.M by omega]at h;by_cases M:s.M=b.M
 ·rw[CA M,C9 ω]at h
  have K:=o u.M.toNat (d u J) h.symm
  grind [p8]
 rw[C9 M]at h;by_cases eu:u.M=b.M
 ·rw[CA eu]at h
  have K:=o s.M.toNat (d s H) h
  grind
 grind [Pg.mesh]
def over(j:bA):Bool:=decide (j.a6=4\/j.a6=5)
def yu(k:au)(j:bA):au × bA:=if jmay k j=true then jstep k j else(k,j)
def HQ(h:ac):ac:={h with X:=(yu h.X h.r).1,a0:=if over (yu h.X h.r).2=true then false else h.a0,r:=if over (yu h.X h.r).2=true then⟨⟨0,0,[]⟩,0,0⟩ else(yu h.X h.r).2}
def Jm(h:ac):Bool:=decide ((yu h.X h.r).2.a6=4)
theorem Pg.add{t c:az}{B f:List aA}{sp a:List ah}{la b:List am}{p:Int}{n:Nat}(o:Pg t B sp la)(C:c.K.length=t.K.length)(H:p+n<=t.K.length)(R:0<=p)(S:∀q:Nat,¬(p<=q/\(q:Int)<p+n)->nth c.K q=nth t.K q)(D:∀q:Nat,p<=q->(q:Int)<p+n->(nth c.K q).o=2/\∀u:Nat,u<t.K.length->(nth c.K u).o≠0->(nth c.K u).j=(nth c.K q).j->u=q)(J:∀q,RH f q↔RH B q/\¬(p<=q/\q<p+n))(r:∀q,q∈pgs a b↔q∈pgs sp la\/(p<=q/\q<p+n))(g:∀s∈a,0<=s.M/\(s∈sp\/(p<=s.M/\s.M<p+n)))(w:∀l∈b,l∈la\/∀q∈lpgs l l.i.toNat,p<=q/\q<p+n):Pg c f a b:=by
 have E:∀q:Nat,q<t.K.length->((nth c.K q).o≠0↔(q:Int)∈pgs a b):=λq h=>by grind [Pg.own]
 refine⟨λl i q h u k T U=>?_,λq h=>?_,ψ,λq h=>?_,λs F u k K V=>?_⟩
 ·rw[C]at k
  have A:=lN (sp:=a) i h;have L:q<t.K.length:=by
   rcases(r _).1 A with d|d
   ·have:=o.bnd _ d;omega
   omega
  by_cases e:p<=q/\(q:Int)<p+n
  ·grind
  have M:=(w l i).resolve_right ψ
  grind [Pg.one]
 ·rw[C]
  rcases(r _).1 h with d|d
  ·exact o.bnd _ d
  omega
 ·grind [Pg.fre]
 obtain⟨N,W⟩:=g s F;obtain⟨O,X⟩:=g u k;have j:∀y∈a,0<=y.M->y.M.toNat<t.K.length/\((y.M.toNat:Nat):Int)=y.M/\(nth c.K y.M.toNat).o≠0:=λy P Q=>by
  have d:=iV (la:=b) P;have Y:y.M.toNat<t.K.length:=by
   rcases(r _).1 d with G|G
   ·have:=o.bnd _ G;omega
   omega
  grind
 obtain⟨Z,sc,sd⟩:=j s F N;obtain⟨ub,uc,ud⟩:=j u k O;by_cases es:p<=s.M/\s.M<p+n
 ·grind
 by_cases eu:p<=u.M/\u.M<p+n
 all_goals grind [Pg.mesh]
structure JK(h h':ac):Prop where
 job:h'.r=h.r
 msh:h'.a0=h.a0
 sp:∀s∈h.G,Jb h s.M=true->∃s'∈h'.G,s'.M=s.M/\∀u,meshable s u=true->meshable s' u=true
 ent:∀q:Nat,(nth (tbl h').K q).o≠0->((nth (tbl h).K q).o≠0/\(nth (tbl h').K q).j=(nth (tbl h).K q).j)\/∀u:Nat,(nth (tbl h').K u).o≠0->(nth (tbl h').K u).j=(nth (tbl h').K q).j->u=q
theorem jB.mapped{h:ac}{E:List Int}(a:jB h E){s:ah}(b:s∈h.G):0<=s.M/\s.M<(tbl h).K.length/\(nth (tbl h).K s.M.toNat).o≠0:=by
 have c:=(aR (a.L.sok s b)).1;have d:=a.pg.bnd _ (iV (la:=h.J) b);refine⟨c,d,(a.pg.own s.M.toNat ω).2 ?_⟩
 grind [iV]
structure Kh(h:ac)(c:Int)(r:ac × Int):Prop where
 no:r.2<0->jB r.1 []
 yes:0<=r.2->jB r.1 [r.2]/\rZ r.1.G r.2 c
 jk:JK h r.1
 nx:r.1.q=h.q
 cl:r.1.O.length=h.O.length
structure HN where
 a7:Int
 a3:Int
 N:Int
 At:Int
 Value:Int
deriving DecidableEq,Inhabited
structure Jy(r:sv)(m:Nat):Prop where
 len:r.S.length<=m
 cel:∀o∈r.S,o.V.length<=1000
 nx:0<=r.q/\r.q<=m+1
theorem Jy.set{r:sv}{m i:Nat}{x:Aw}(h:Jy r m)(a:x.V.length<=1000):Jy {r with S:=r.S.set i x} m:=
 ⟨by simp only[List.length_set];exact h.len,λo b=>by grind [Jy.cel],h.nx⟩
def HL(a:Int)(l:am):Bool:=decide (l.M*16=a)
def Jc(h:ac)(a:Int):Int:=gW (HL a) h.J
def Jf(h:ac)(a:HN):Prop:=0<=a.a3/\a.a3<=h.O.length - 1
instance (h:ac) (a:HN):Decidable (Jf h a):=by unfold Jf;infer_instance
def AG(h:ac)(i:Nat)(n:Int):Prop:=0<=Jc h (nth h.S i).Z/\9<=n/\n<=(nth h.J (Jc h (nth h.S i).Z).toNat).g
instance (h:ac) (i:Nat) (n:Int):Decidable (AG h i n):=by unfold AG;infer_instance
def tG(h:ac):Nat->ac × Bool
 | 0=>(h,false)
 | i+1=>if(tG h i).1.a0=true then(HQ (tG h i).1,Jm (tG h i).1) else tG h i
def fin(h:ac):ac × Bool:=tG h 100
end Go.Proofs.YtjooeakgbamfnaaGreatDoor.Ab
