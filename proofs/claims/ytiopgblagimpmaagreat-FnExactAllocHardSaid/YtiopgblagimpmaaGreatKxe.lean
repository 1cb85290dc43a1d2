/- The pages of a heap: the contracts of l27Pages, l27Meshed (the reference's) and pagesOk (the program's). No condition. -/
import Derived.Test.YtiopgblagimpmaaGreatKxd
import Derived.Test.YtiopgblagimpmaaGreatKxShelf
import Derived.WalkKit
import Derived.Lib.SliceRun
set_option linter.unusedVariables false
set_option linter.defProp false
set_option linter.unusedSimpArgs false
set_option linter.constructorNameAsVariable false
namespace Go.Proofs.YtiopgblagimpmaaGreat.Ab
open Go.RowKit
set_option maxRecDepth 20000
set_option maxHeartbeats 8000000
variable{la:List aB}{sp:List au}
theorem fe(h:bA sp la=true):sp.all bc=true/\la.all dz=true/\(pgs sp la).Nodup:=by grind [bA]
variable{i:Nat}{α:Type}
def Ua[Inhabited α]{xs:List α}{p:α->Bool}(h:xs.all p=true)(a:i<xs.length):p (nth xs i)=true:=I5.1 h _ (aE a)
variable{h:ac}
theorem Gz(a:db h.H.length (A2 h.H)=false):pages0 h=false:=by grind [pages0]
theorem tN(a:db h.S.length (uS h)=false):pages0 h=false:=by grind [pages0]
variable{p:Int}
theorem Gi(a:p∈pgs h.H h.S)(b:¬p<gr h):pages0 h=false:=by grind [pages0]
theorem J9(a:db (gr h) (x4 h)=false):pages0 h=false:=by grind [pages0]
theorem zL(a:db h.H.length (A2 h.H)=true)(b:db h.S.length (uS h)=true)(c:∀p∈pgs h.H h.S,p<gr h)(d:db (gr h) (x4 h)=true):pages0 h=true:=by grind [pages0]
theorem QY(a:Ay h.S i=false):uS h i=false:=by grind [uS]
theorem PN{k:Nat}(a:k<(nth h.S i).a0.toNat)(b:yF h (nth h.S i) k=false):uS h i=false:=by grind [cv,uS]
theorem HX(a:Ay h.S i=true)(b:db (nth h.S i).a0.toNat (yF h (nth h.S i))=true):uS h i=true:=by grind [uS]
def fG(h:ac)(p:Int):(aQ h p).length<=gr h:=by
 unfold aQ;split
 ·simp
 exact tq ..
variable{l:aB}
theorem wh(h:bA sp la=true)(a:la[i]? = some l):1<=l.a0/\l.a0<=63/\0<=l.R/\l.R<=31:=
 cf (I5.1 (fe h).2.1 l ψ)
theorem Gl(h:ac)(y:cx h.H)(E:cB h.S)(g:x8 h)(F:dD h.a)(l:bA h.H h.S=true):zzA 211 false [.val (some 24) (ac.enc .O h)] .one [B (pages0 h)]:=by
 have Y:=y.1;have Z:=E.1;have hl3:gr h<=1048576:=g.1;have hl4:=F.1;refine fO 144 [(7,18,[28,29,30,31,32,33,34,35,36,37,38,39,40,41,42,43,44,45]),(13,18,[62,63,64,65,66,67,68,69,70,71,72,73,74,75,76,77,78,79])] Tryz.func211 rfl ?_
 refine ZP ?_
 refine CH (ι:=Nat × List Int) (λi=>[(1,.F .box (ac.enc .O h)),(3,.F .box (aG.enc .O (tbl h))),(4,.F .one [I (gr h)]),(5,.F .one (aH .own i.2)),(6,.F .one [I ((i.1:Nat):Int)])]) (λi=>i.1<=h.H.length/\i.2=(h.H.take i.1).map (·.R)/\db i.1 (A2 h.H)=true) (λi=>h.H.length - i.1) ((0,[])) ?_ (⟨C1 _,rfl,rfl⟩) λi G=>?_
 ·exact wB
 obtain⟨i,S⟩:=i;obtain⟨G,H,J⟩:=G;simp only at G H J |-;have hSl:S.length=i:=ψ
 by_cases K:i<h.H.length
 ·have b:=ar K
  repeat'(first|refine gE ?_|with_reducible refine Bf.D (λa=>?_) (λa=>?_)|refine CM ω (aa (gW ω K)) ?_|refine CS cR (λr n=>by rw[I2.1 n];rfl) (by simp[bm,eX]) (by simp;omega) (by simp only[Z1];exact v8 (by simp;omega) (by decide)) rfl ?_)
  all_goals first
   | exact I1 (λz=>[B z]) ((Gz (cv K (Z0 ω))).symm)
   | ((conv=>whnf)
      refine CF (i+1,S++[(nth h.H i).R]) ⟨(by simp only;omega),(by simp only;rw[H,X7,b];simp),bT J (O0 ω)⟩ (by simp only;omega) ?_
      (repeat'(first|exact trivial|rfl|exact CC rfl (CC (I1 (C.s dY.own) (by simp[rI])) trivial)|refine CC ?_ ?_)))
 obtain rfl:i=h.H.length:=ω
 rw[C7]at H
 refine ZE ?_
 refine CH (ι:=Nat × List Int) (λk=>[(1,.F .box (ac.enc .O h)),(3,.F .box (aG.enc .O (tbl h))),(4,.F .one [I (gr h)]),(5,.F .one (aH .own k.2)),(7,.F .one [I ((k.1:Nat):Int)])]) (λk=>k.1<=h.S.length/\k.2=pgs h.H (h.S.take k.1)/\db k.1 (uS h)=true/\k.2.length<=1048576+64*k.1) (λk=>h.S.length - k.1) ((0,S)) ?_ (⟨C1 _,by grind [pgs],rfl,by simp only;omega⟩) λk L=>?_
 ·exact wB
 obtain⟨k,S2⟩:=k;obtain⟨L,c,M,O⟩:=L;simp only at L c M O |-;by_cases u:k<h.S.length
 ·have b:=ar u
  have hpg:=wh l b
  repeat'(first|refine gE ?_|with_reducible refine Bf.D (λa=>?_) (λa=>?_)|refine CM ω (aa (gW ω u)) ?_)
  all_goals first
   | exact I1 (λz=>[B z]) ((tN (cv u (QY (Z0 ω)))).symm)
   |have e:Ay h.S k=true:=O0 ω
    (conv=>whnf)
    refine CH (ι:=Nat × List Int) (λq=>[(1,.F .box (ac.enc .O h)),(3,.F .box (aG.enc .O (tbl h))),(4,.F .one [I (gr h)]),(5,.F .one (aH .own q.2)),(7,.F .one [I ((k:Nat):Int)]),(8,.F .one [I ((q.1:Nat):Int)])]) (λq=>q.1<=(nth h.S k).a0.toNat/\q.2=S2++lpgs (nth h.S k) q.1/\db q.1 (yF h (nth h.S k))=true) (λq=>(nth h.S k).a0.toNat - q.1) ((0,S2)) ?_ (⟨C1 _,by simp[lpgs],rfl⟩) λq a=>?_
    ·exact wB
    obtain⟨q,Q⟩:=q;obtain⟨R,d,o⟩:=a;simp only at R d o |-;have U:Q.length=S2.length+q:=by rw[d,X4,HR]
    by_cases w:q<(nth h.S k).a0.toNat
    ·have hfl:=fG h ((nth h.S k).R+(q:Nat))
     repeat'(first|refine gE ?_|with_reducible refine Bf.N (λa=>?_) (λa=>?_)|refine CA (iN h _ g) ?_|refine CS cR (λr n=>by rw[I2.1 n];rfl) (by simp[bm,eX]) (by simp;omega) (by show _*8<=_;simp;omega) rfl ?_)
     all_goals first
      | exact I1 (λz=>[B z]) ((tN (cv u (PN w (Z0 ω)))).symm)
      | ((conv=>whnf)
         refine CF (q+1,Q++[(nth h.S k).R+(q:Nat)]) ⟨(by simp only;omega),(by simp only;rw[d,lO,Y7]),bT o (O0 ω)⟩ (by simp only;omega) ?_
         (repeat'(first|exact trivial|rfl|exact CC rfl (CC (I1 (C.s dY.own) (by simp[rI])) trivial)|refine CC ?_ ?_)))
    obtain rfl:q=(nth h.S k).a0.toNat:=ω
    refine ZE ?_
    (refine CF (k+1,Q) ⟨(by simp only;omega),(by simp only;rw[d,c,<-qH _ b]),bT M (HX e o),(by simp only;omega)⟩ (by simp only;omega) ?_;(exact wB))
 obtain rfl:k=h.S.length:=ω
 rw[C7]at c
 refine ZE ?_
 refine CH (ι:=Nat) (λq=>[(1,.F .box (ac.enc .O h)),(3,.F .box (aG.enc .O (tbl h))),(4,.F .one [I (gr h)]),(5,.F .one (aH .own S2)),(10,.F .one [I ((q:Nat):Int)])]) (λq=>q<=S2.length/\∀j,j<q->nth S2 j<gr h) (λq=>S2.length - q) (0) ?_ ψ λq a=>?_
 ·exact wB
 obtain⟨a,o⟩:=a;by_cases w:q<S2.length
 ·have b:=ar w
  repeat'(first|refine gE ?_|with_reducible refine Bf.D (λa=>?_) (λa=>?_))
  all_goals first
   | exact I1 (λz=>[B z]) ((Gi (by rw[<-c];exact aE w) ω).symm)
   | ((conv=>whnf);refine CF (q+1) ⟨ω,λj hj=>by rcases Nat.lt_or_ge j q with V|V;exact o j V;(obtain rfl:j=q:=ω);omega⟩ ω ?_;(exact wB))
 have t:∀p∈pgs h.H h.S,p<gr h:=λp T=>by grind [List.mem_iff_getElem?,b6]
 refine ZE ?_
 refine CH (ι:=Nat) (λp=>[(1,.F .box (ac.enc .O h)),(3,.F .box (aG.enc .O (tbl h))),(4,.F .one [I (gr h)]),(5,.F .one (aH .own S2)),(11,.F .one [I ((p:Nat):Int)])]) (λp=>p<=gr h/\db p (x4 h)=true) (λp=>gr h - p) 0 ?_ ⟨C1 _,rfl⟩ λp T=>?_
 ·exact wB
 obtain⟨T,W⟩:=T;by_cases X:p<gr h
 ·have b:=ar (xs:=(tbl h).J) X
  have n:=BO h.a (p:Nat) ω
  repeat'(first|refine gE ?_|with_reducible (first|refine Bf.D (λa=>?_) (λa=>?_)|refine Bf.NB (λa=>?_) (λa=>?_))|refine CJ (oA S2 _ ω) ⟨⟨rfl,dK _⟩,⟨rfl,rfl⟩,trivial⟩ ?_|refine Bf.P (λa=>?_) (λa=>?_))
  all_goals first
   | exact I1 (λz=>[B z]) ((J9 (cv X (by unfold x4;rw[<-c];grind))).symm)
   | ((conv=>whnf);refine CF (p+1) ⟨ω,bT W (by unfold x4;rw[<-c];grind)⟩ ω ?_;(exact wB))
 refine ZE ?_
 obtain rfl:p=gr h:=ω
 exact I1 (λz=>[B z]) ((zL J M t W).symm)
set_option maxHeartbeats 8000000
def TF{z1 z2:Int}(h:z1=z2):Tt (I z1) (I z2):=by subst h;rfl
theorem Ms{S:List Int}{z:Int} : z∈ins S p↔z∈S\/z=p:=by grind [ins]
theorem Ak(S:List Int):(gg S).map (·.1)=S:=by unfold gg;rw[List.map_map];simp[C8]
variable{t:aG}
theorem sC{p:Nat}(a:p<t.J.length):aC t (p:Nat)=nth t.J p:=by grind [aC]
theorem E8(h:ac)(G:cx h.H)(H:cB h.S)(d:x8 h)(J:dD h.a)(u:bA h.H h.S=true):zzA 77 false [.val (some 24) (ac.enc .O h)] .one [B (pages0 h&&qj h)]:=by
 have hl1:=G.1;have hl2:=H.1;have hl3:gr h<=1048576:=d.1;have hl4:=J.1;have b:pages0 h=false->[B false]=[B (pages0 h&&qj h)]:=ψ
 refine fO 177 [(4,14,[25,26,27,28,29,30,31,32,33,34,35,36,37,38]),(16,14,[60,61,62,63,64,65,66,67,68,69,70,71,72,73]),(28,18,[102,103,104,105,106,107,108,109,110,111,112,113,114,115,116,117,118,119]),(42,23,[152,153,154,155,156,157,158,159,160,161,162,163,164,165,166,167,168,169,170,171,172,173,174])] Tryz.func77 rfl ?_
 refine ZP ?_
 refine CH (ι:=Nat) (λi=>[(1,.F .box (ac.enc .O h)),(18,.F .one (bt .O h.H)),(19,.F .one [I (h.H.length)]),(20,.F .one [I ((i:Nat):Int)])]) (λi=>i<=h.H.length/\db i (A2 h.H)=true) (λi=>h.H.length - i) 0 ?_ ⟨C1 _,rfl⟩ λi g=>?_
 ·exact wB
 obtain⟨g,C⟩:=g;by_cases o:i<h.H.length
 ·have e:=ar o
  repeat'(first|refine gE ?_|with_reducible refine Bf.D (λa=>?_) (λa=>?_)|refine CM ω (aa (gW ω o)) ?_)
  all_goals first
   |exact b (Gz (cv o (Z0 ω)))
   | ((conv=>whnf);refine CF (i+1) ⟨ω,bT C (O0 ω)⟩ ω ?_;(exact wB))
 obtain rfl:i=h.H.length:=ω
 refine ZE ?_
 refine CH (ι:=Nat × List Int) (λi=>[(1,.F .box (ac.enc .O h)),(5,.F .one [.m (gg i.2)]),(42,.F .one (bt .O h.H)),(43,.F .one [I (h.H.length)]),(44,.F .one [I ((i.1:Nat):Int)])]) (λi=>i.1<=h.H.length/\∀z,z∈i.2↔z∈(h.H.take i.1).map (·.R)) (λi=>h.H.length - i.1) ((0,[])) ?_ ψ λi g=>?_
 ·exact wB
 obtain⟨i,S⟩:=i;obtain⟨K,Z⟩:=g;simp only at K Z |-;by_cases li2:i<h.H.length
 ·have e:=ar li2
  repeat'(first|refine gE ?_|refine Mu.mk (zn S _) ?_)
  (refine CF (i+1,ins S (nth h.H i).R) ⟨(by simp only;omega),λz=>by grind [Ms,X7]⟩ (by simp only;omega) ?_;(exact wB))
 obtain rfl:i=h.H.length:=ω
 rw[C7]at Z
 refine ZE ?_
 refine CH (ι:=Nat × List Int) (λk=>[(1,.F .box (ac.enc .O h)),(5,.F .one [.m (gg k.2)]),(53,.F .one (bz .O h.S)),(54,.F .one [I (h.S.length)]),(55,.F .one [I ((k.1:Nat):Int)])]) (λk=>k.1<=h.S.length/\(∀z,z∈k.2↔z∈pgs h.H (h.S.take k.1))/\db k.1 (uS h)=true) (λk=>h.S.length - k.1) ((0,S)) ?_ (⟨C1 _,λz=>by grind [pgs],rfl⟩) λk L=>?_
 ·exact wB
 obtain⟨k,S2⟩:=k;obtain⟨L,c,M⟩:=L;simp only at L c M |-;by_cases F:k<h.S.length
 ·have e:=ar F
  have hpg:=wh u e
  repeat'(first|refine gE ?_|with_reducible refine Bf.D (λa=>?_) (λa=>?_)|refine CM ω (aa (gW ω F)) ?_)
  all_goals first
   |exact b (tN (cv F (QY (Z0 ω))))
   |have l:Ay h.S k=true:=O0 ω
    (conv=>whnf)
    refine CH (ι:=Nat × List Int) (λq=>[(1,.F .box (ac.enc .O h)),(5,.F .one [.m (gg q.2)]),(9,.F .box (aB.enc .O (nth h.S k))),(10,.F .one [I ((nth h.S k).R+(q.1:Nat))]),(53,.F .one (bz .O h.S)),(54,.F .one [I (h.S.length)]),(55,.F .one [I ((k:Nat):Int)])]) (λq=>q.1<=(nth h.S k).a0.toNat/\(∀z,z∈q.2↔z∈S2++lpgs (nth h.S k) q.1)/\db q.1 (yF h (nth h.S k))=true) (λq=>(nth h.S k).a0.toNat - q.1) ((0,S2)) ?_ (⟨C1 _,λz=>by simp[lpgs],rfl⟩) λq a=>?_
    ·exact wB
    obtain⟨q,O⟩:=q;obtain⟨Q,n,R⟩:=a;simp only at Q n R |-;by_cases lq:q<(nth h.S k).a0.toNat
    ·have hfl:=fG h ((nth h.S k).R+(q:Nat))
     repeat'(first|refine gE ?_|with_reducible refine Bf.N (λa=>?_) (λa=>?_)|refine CA (kM h _ d) ?_|refine Mu.mk (zn O _) ?_)
     all_goals first
      |exact b (tN (cv F (PN lq (Z0 ω))))
      | ((conv=>whnf)
         refine CF (q+1,ins O ((nth h.S k).R+(q:Nat))) ⟨(by simp only;omega),λz=>by simp only[Ms,n];rw[lO];simp[or_assoc],bT R (O0 ω)⟩ (by simp only;omega) ?_
         (repeat'(first|exact trivial|rfl|refine CC ?_ ?_|exact TF (by simp;omega))))
    obtain rfl:q=(nth h.S k).a0.toNat:=ω
    refine ZE ?_
    (refine CF (k+1,O) ⟨(by simp only;omega),(λz=>by simp only[n];rw[qH _ e];simp[c]),bT M (HX l R)⟩ (by simp only;omega) ?_;(exact wB))
 obtain rfl:k=h.S.length:=ω
 rw[C7]at c
 refine ZE ?_
 refine CH (ι:=Nat) (λp=>[(1,.F .box (ac.enc .O h)),(5,.F .one [.m (gg S2)]),(98,.F .one [I (gr h)]),(99,.F .one [I ((p:Nat):Int)])]) (λp=>p<=gr h/\db p (x4 h)=true) (λp=>gr h - p) 0 ?_ ⟨C1 _,rfl⟩ λp hp=>?_
 ·exact wB
 obtain⟨hp,ap⟩:=hp;by_cases lp:p<gr h
 ·have T:=BA h.a (p:Nat) ω
  have w:=eU h.K (p:Nat) d;rw[sC lp]at w
  repeat'(first|refine gE ?_|with_reducible (first|refine Bf.D (λa=>?_) (λa=>?_)|refine Bf.NB (λa=>?_) (λa=>?_))|refine Ml.mk (pn (p:Nat) S2) ?_|refine Bf.P (λa=>?_) (λa=>?_))
  all_goals first
   |exact b (J9 (cv lp (by unfold x4 tbl;have:=c (p:Nat);grind)))
   | ((conv=>whnf);refine CF (p+1) ⟨ω,bT ap (by unfold x4 tbl;have:=c (p:Nat);grind)⟩ ω ?_;(exact wB))
 obtain rfl:p=gr h:=ω
 refine ZE ?_
 have hpn:gr h=h.K.G.Q.J.length:=rfl
 (conv=>whnf)
 refine CH (ι:=Option Int × List Int) (λt=>[(1,.F .box (ac.enc .O h)),(122,.F .one [.it t.1 t.2])]) (λt=>(∀z∈S2,z∈t.2\/z<gr h)/\∀z∈t.2,z∈S2) (λt=>t.2.length) ((none,(gg S2).map (·.1))) ?_ (⟨λz hz=>.inl (by grind [Ak]),λz hz=>by grind [Ak]⟩) λt ht=>?_
 ·exact wB
 obtain⟨cur,left⟩:=t;obtain⟨U,V⟩:=ht;simp only at U V |-
 repeat'(first|refine gP ?_|with_reducible refine Bf.D (λa=>?_) (λa=>?_)|refine Nt.mk (λa=>?_) (λl1 k l2 a=>?_))
 rotate_left
 ·exact b (Gi (p:=k) ψ ω)
 ·((conv=>whnf);refine CF (some k,l1++l2) ψ (by subst left;simp) ?_;(exact wB))
 have y:∀p∈pgs h.H h.S,p<gr h:=ψ
 have h0:pages0 h=true:=zL C M y ap;rw[h0,Bool.true_and]
 (conv=>whnf)
 refine CH (ι:=Nat) (λi=>[(1,.F .box (ac.enc .O h)),(136,.F .one (bt .O h.H)),(137,.F .one [I (h.H.length)]),(138,.F .one [I ((i:Nat):Int)])]) (λi=>i<=h.H.length/\db i (λi=>db i (ny h i))=true) (λi=>h.H.length - i) 0 ?_ ⟨C1 _,rfl⟩ λi g=>?_
 ·exact wB
 obtain⟨g,C⟩:=g;by_cases o:i<h.H.length
 ·have e:=ar o
  have W:(h.H.take i).length=i:=ψ
  repeat'(first|refine gE ?_|refine CX i rfl (by simp;omega) (λr T=>by obtain⟨z,-,rfl⟩:=Y5.1 T;rfl) (O5 ..) ?_)
  refine CH (ι:=Nat) (λj=>[(1,.F .box (ac.enc .O h)),(14,.F .box (au.enc .O (nth h.H i))),(136,.F .one (bt .O h.H)),(137,.F .one [I (h.H.length)]),(138,.F .one [I ((i:Nat):Int)]),(146,.F .one (bt .O (h.H.take i))),(147,.F .one [I ((h.H.take i).length)]),(148,.F .one [I ((j:Nat):Int)])]) (λj=>j<=(h.H.take i).length/\db j (ny h i)=true) (λj=>(h.H.take i).length - j) 0 ?_ ⟨C1 _,rfl⟩ λj hj=>?_
  ·exact wB
  obtain⟨hj,X⟩:=hj;by_cases lj:j<(h.H.take i).length
  ·have hy:=ar lj
   have he:nth (h.H.take i) j=nth h.H j:=b6 (by grind [ar]);rw[he]at hy;have w:=nA (nth h.H i) (nth h.H j);cases Y:meshable (nth h.H i) (nth h.H j)<;>rw[Y]at w
   all_goals
    repeat'(first|refine gE ?_|with_reducible refine Bf.E (λa=>?_) (λa=>?_)|refine CA (eE (tbl h) _ d) ?_)
    all_goals first
     | exact I1 (λz=>[B z]) ((by symm;exact cv o (cv (i:=j) ω (by unfold ny;rw[Y];grind))))
     | ((conv=>whnf);refine CF (j+1) ⟨ω,bT X (by unfold ny;rw[Y];grind)⟩ ω ?_;(exact wB))
  obtain rfl:j=(h.H.take i).length:=ω
  rw[W]at X
  refine ZE ?_
  (refine CF (i+1) ⟨ω,bT C X⟩ ω ?_;(exact wB))
 obtain rfl:i=h.H.length:=ω
 refine ZE ?_
 exact I1 (λz=>[B z]) ((by grind [qj]))
set_option maxHeartbeats 8000000
def wP[Inhabited α](pr:α->Bool)(xs:List α):eP pr xs = -1\/∃n,n<xs.length/\eP pr xs=(n:Nat)/\pr (nth xs n)=true:=by
 unfold eP;cases h:xs.findIdx? pr with
 | none=>exact .inl rfl
 | some i=>
  obtain⟨a,b,-⟩:=C9.1 h;exact .inr ⟨i,a,rfl,by rw[b6 (X3 a)];exact b⟩
def HP{k:Nat}(a:i<h.H.length)(b:k<(aQ h (nth h.H i).R).length)(c:nS h i (nth (aQ h (nth h.H i).R) k)=false):wW h=false:=by
 unfold wW;exact cv a (io (ar b) c)
theorem FV(h:ac)(j:cx h.H)(c:x8 h):zzA 212 false [.val (some 24) (ac.enc .O h)] .one [B (wW h)]:=by
 have l:=j.1;have E:gr h<=1048576:=c.1;refine fO 55 [(4,8,[14,15,16,17,18,19,20,21]),(8,6,[28,29,30,31,32,33]),(9,21,[34,35,36,37,38,39,40,41,42,43,44,45,46,47,48,49,50,51,52,53,54])] Tryz.func212 rfl ?_
 refine ZP ?_
 refine CH (ι:=Nat) (λi=>[(1,.F .box (ac.enc .O h)),(3,.F .one [I ((i:Nat):Int)])]) (λi=>i<=h.H.length/\db i (λi=>(aQ h (nth h.H i).R).all (nS h i))=true) (λi=>h.H.length - i) 0 ?_ ⟨C1 _,rfl⟩ λi w=>?_
 ·exact wB
 obtain⟨w,F⟩:=w;by_cases o:i<h.H.length
 ·have q:=ar o
  have G:=fG h (nth h.H i).R
  repeat'(first|refine gE ?_|refine CA (iN h _ c) ?_)
  refine CH (ι:=Nat) (λk=>[(1,.F .box (ac.enc .O h)),(3,.F .one [I ((i:Nat):Int)]),(4,.F .one (aH .own (aQ h (nth h.H i).R))),(5,.F .one [I ((k:Nat):Int)])]) (λk=>k<=(aQ h (nth h.H i).R).length/\((aQ h (nth h.H i).R).take k).all (nS h i)=true) (λk=>(aQ h (nth h.H i).R).length - k) (0) ?_ ψ λk y=>?_
  ·exact wB
  obtain⟨y,H⟩:=y;by_cases r:k<(aQ h (nth h.H i).R).length
  ·have d:=ar r
   have a:=mZ h (nth (aQ h (nth h.H i).R) k) l;rcases wP (nC (nth (aQ h (nth h.H i).R) k)) h.H with g|⟨n,J,g,-⟩
   ·rw[show ic h (nth (aQ h (nth h.H i).R) k) = -1 from g]at a
    have t:nS h i (nth (aQ h (nth h.H i).R) k)=false:=by grind [nS,ic]
    repeat'(first|refine gE ?_|with_reducible (first|refine Bf.D (λb=>?_) (λb=>?_)|refine Bf.N (λb=>?_) (λb=>?_)))
    all_goals first
     | exact I1 (λz=>[B z]) ((HP o r t).symm)
     |(exfalso;omega)
   rw[show ic h (nth (aQ h (nth h.H i).R) k)=(n:Nat) from g]at a;have K:=ar J;have C:=ns (nth h.H i) (nth h.H n);have e:nS h i (nth (aQ h (nth h.H i).R) k)=(decide ((n:Int)=(i:Nat)) || meshable (nth h.H i) (nth h.H n)):=by
    unfold nS;rw[show ic h (nth (aQ h (nth h.H i).R) k)=(n:Nat) from g,O0 (p:=(0:Int)<=(n:Nat)) ω];simp
   cases u:meshable (nth h.H i) (nth h.H n)<;>rw[u]at C
   all_goals
    repeat'(first|refine gE ?_|with_reducible (first|refine Bf.D (λb=>?_) (λb=>?_)|refine Bf.N (λb=>?_) (λb=>?_)))
    all_goals first
     | exact I1 (λz=>[B z]) ((HP o r (by rw[e,u];grind)).symm)
     | ((conv=>whnf);refine CF (k+1) ⟨ω,cO d H (by rw[e,u];grind)⟩ ω ?_;(exact wB))
     |(exfalso;omega)
  refine ZE ?_
  (refine CF (i+1) ⟨ω,bT F ψ⟩ ω ?_;(exact wB))
 obtain rfl:i=h.H.length:=ω
 refine ZE ?_
 exact I1 (λz=>[B z]) ((by grind [wW]))
def Nw(j:bk)(b:bk.sml j):zzA 217 false [.val (some 5) (bk.enc .O j)] .one [B (xa j)]:=by
 have c:j.Y.W.length<=1048576:=b;refine fO 30 [] Tryz.func217 rfl ?_
 repeat'(first|refine gP ?_|with_reducible (first|refine Bf.E (λa=>?_) (λa=>?_)|refine Bf.D (λa=>?_) (λa=>?_)))
 all_goals exact I1 (λz=>[B z]) ((by unfold xa;first|(symm;exact Z0 ω)|(rw[X6,beq_iff_eq,C0];omega)))
theorem oK(sp:List au)(la:List aB)(a:Int):((denotes sp la a).a6=1->0<=(denotes sp la a).b2/\(denotes sp la a).b2.toNat<sp.length)/\((denotes sp la a).a6=3->0<=(denotes sp la a).b2/\(denotes sp la a).b2.toNat<la.length):=by grind [C9,denotes,re]
theorem La(h:ac)(a c:Int)(d:cx h.H)(e:cB h.S)(b:bA h.H h.S=true)(k:oh a):zzA 363 false [.val (some 24) (ac.enc .O h),.val none [I a],.val none [I c]] .one [B (dy h a c)]:=by
 have j:=pj h.H h.S a d e b k;obtain⟨g,-⟩:=oK h.H h.S a;unfold dy;generalize denotes h.H h.S a=w at j g |-;refine fO 37 [] Tryz.func363 rfl ?_
 repeat'(first|refine gP ?_|with_reducible (first|refine Bf.D (λi=>?_) (λi=>?_)|refine Bf.E (λi=>?_) (λi=>?_))|refine CM (g (by assumption)).1 (aa (ar (g (by assumption)).2)) ?_)
 all_goals exact I1 (λz=>[B z]) (ψ)
theorem DS(h:ac)(o:bf)(w:jL)(a:denotes h.H h.S o.Addr=w):lm h o=(decide (w.b3=0)&&((decide (w.a6=1)&&decide ((nth h.H w.b2.toNat).Z=bQ o.a3)) || (decide (w.a6=3)&&decide ((nth h.S w.b2.toNat).a3=o.a3)))):=by grind [lm]
def jH(a:i<h.X.length)(b:md (IntKind.i64.wrap (h.g - 1)) h i=false):gT h=false:=cv a b
variable{a:Int}
theorem M7(b:iQ a h i=false):md a h i=false:=by grind [md]
theorem MJ(b:(h.X.take i).any (m9 (nth h.X i).Id)=true):md a h i=false:=by grind [md]
theorem LI(b:lm h (nth h.X i)=false):md a h i=false:=by grind [md]
theorem DL(b:iQ a h i=true)(c:(h.X.take i).any (m9 (nth h.X i).Id)=false)(d:lm h (nth h.X i)=true):md a h i=true:=by grind [md]
theorem Kb(h:ac)(l:cx h.H)(n:cB h.S)(g:bA h.H h.S=true)(K:h.X.length<=1048576)(L:h.M.length<=1048576)(H:∀o∈h.X,oh o.Addr):zzA 215 false [.val (some 24) (ac.enc .O h)] .one [B (gT h)]:=by
 refine fO 117 [(5,33,[21,22,23,24,25,26,27,28,29,30,31,32,33,34,35,36,37,38,39,40,41,42,43,44,45,46,47,48,49,50,51,52,53]),(10,9,[59,60,61,62,63,64,65,66,67]),(13,16,[75,76,77,78,79,80,81,82,83,84,85,86,87,88,89,90]),(14,15,[91,92,93,94,95,96,97,98,99,100,101,102,103,104,105])] Tryz.func215 rfl ?_
 refine ZP ?_
 refine CH (ι:=Nat) (λi=>[(1,.F .box (ac.enc .O h)),(3,.F .one [I ((i:Nat):Int)])]) (λi=>i<=h.X.length/\db i (md (IntKind.i64.wrap (h.g - 1)) h)=true) (λi=>h.X.length - i) 0 ?_ ⟨C1 _,rfl⟩ λi t=>?_
 ·exact wB
 obtain⟨t,u⟩:=t;by_cases e:i<h.X.length
 ·have y:=ar e
  have C:=pj h.H h.S (nth h.X i).Addr l n g (H _ (aE e));obtain⟨p,q⟩:=oK h.H h.S (nth h.X i).Addr;have b:=DS h (nth h.X i) _ rfl;generalize denotes h.H h.S (nth h.X i).Addr=w at C p q b;by_cases c:iQ (IntKind.i64.wrap (h.g - 1)) h i=true
  ·have a:=c
   unfold iQ at a;rw[C0]at a
   repeat'(first|refine gE ?_|with_reducible refine Bf.D (λd=>?_) (λd=>?_)|refine CM ω (aa (gW ω e)) ?_|refine CA (aS _ _ _) ?_|refine CO rfl ?_)
   all_goals
    (conv=>whnf)
    refine CH (ι:=Nat) (λk=>[(1,.F .box (ac.enc .O h)),(3,.F .one [I ((i:Nat):Int)]),(4,.F .box (bf.enc .O (nth h.X i))),(5,.F .one [I ((k:Nat):Int)])]) (λk=>k<=i/\(h.X.take k).any (m9 (nth h.X i).Id)=false) (λk=>i - k) (0) ?_ (⟨C1 _,rfl⟩) λk F=>?_
    ·exact wB
    obtain⟨F,G⟩:=F;by_cases J:k<i
    ·have r:=ar (xs:=h.X) (i:=k) ω
     repeat'(first|refine gE ?_|with_reducible refine Bf.E (λd=>?_) (λd=>?_))
     all_goals first
      | exact I1 (λz=>[B z]) ((jH e (MJ (FP (i:=k) (by rw[List.getElem?_take_of_lt J];exact r) (O0 (by assumption))))).symm)
      | ((conv=>whnf);refine CF (k+1) ⟨ω,zF r G (Z0 (by assumption))⟩ ω ?_;(exact wB))
    obtain rfl:k=i:=ω
    repeat'(first|refine gE ?_|with_reducible (first|refine Bf.D (λd=>?_) (λd=>?_)|refine Bf.E (λd=>?_) (λd=>?_)|refine Bf.N (λd=>?_) (λd=>?_))|refine CM (p (by assumption)).1 (aa (ar (p (by assumption)).2)) ?_|refine CM (q (by assumption)).1 (aa (ar (q (by assumption)).2)) ?_|refine CA (ve _) ?_)
    all_goals first
     | exact I1 (λz=>[B z]) ((jH e (LI (by rw[b];grind))).symm)
     | ((conv=>whnf);refine CF (k+1) ⟨ω,bT u (DL c G (by rw[b];grind))⟩ ω ?_;(exact wB))
     |(exfalso;omega)
  have j:iQ (IntKind.i64.wrap (h.g - 1)) h i=false:=by simpa using c
  have a:=j;unfold iQ at a;rw[O6]at a
  repeat'(first|refine gE ?_|with_reducible refine Bf.D (λd=>?_) (λd=>?_)|refine CM ω (aa (gW ω e)) ?_|refine CA (aS _ _ _) ?_|refine CO rfl ?_)
  all_goals first
   | exact I1 (λz=>[B z]) ((jH e (M7 j)).symm)
   |(exfalso;omega)
 obtain rfl:i=h.X.length:=ω
 refine ZE ?_
 exact I1 (λz=>[B z]) ((show true=gT h from u.symm))
theorem ry(o a:bf):zzA 234 false [.val (some 4) (bf.enc .O o),.ptr (bf.enc .O a)] .one [B (m9 a.Id o)]:=by
 refine fO 9 [] Tryz.func234 rfl ?_
 refine ZP ?_
 grind [m9]
theorem Gn(h:ac)(n:cx h.H)(o:cB h.S)(J:h.X.length<=1048576)(K:h.M.length<=1048576):zzA 81 false [.val (some 24) (ac.enc .O h)] .one [B (gT h)]:=by
 refine fO 105 [(4,33,[16,17,18,19,20,21,22,23,24,25,26,27,28,29,30,31,32,33,34,35,36,37,38,39,40,41,42,43,44,45,46,47,48]),(9,16,[62,63,64,65,66,67,68,69,70,71,72,73,74,75,76,77]),(10,15,[78,79,80,81,82,83,84,85,86,87,88,89,90,91,92])] Tryz.func81 rfl ?_
 refine ZP ?_
 refine CH (ι:=Nat) (λi=>[(1,.F .box (ac.enc .O h)),(9,.F .one (fg .O h.X)),(10,.F .one [I (h.X.length)]),(11,.F .one [I ((i:Nat):Int)])]) (λi=>i<=h.X.length/\db i (md (IntKind.i64.wrap (h.g - 1)) h)=true) (λi=>h.X.length - i) 0 ?_ ⟨C1 _,rfl⟩ λi F=>?_
 ·exact wB
 obtain⟨F,G⟩:=F;by_cases g:i<h.X.length
 ·have p:=ar g
  have H:=oW h.H h.S (nth h.X i).Addr n o;obtain⟨q,t⟩:=oK h.H h.S (nth h.X i).Addr;have b:=DS h (nth h.X i) _ rfl;generalize denotes h.H h.S (nth h.X i).Addr=w at H q t b;have j:=vz (h.X.take i) (m9 (nth h.X i).Id) ψ;by_cases c:iQ (IntKind.i64.wrap (h.g - 1)) h i=true
  ·have a:=c
   unfold iQ at a;rw[C0]at a;cases d:(h.X.take i).any (m9 (nth h.X i).Id)<;>rw[d]at j
   ·repeat'(first|refine gE ?_|with_reducible (first|refine Bf.D (λe=>?_) (λe=>?_)|refine Bf.E (λe=>?_) (λe=>?_)|refine Bf.N (λe=>?_) (λe=>?_))|refine CM ω (aa (gW ω g)) ?_|refine CA (aO _ _ _) ?_|refine CX i rfl (by simp;omega) (λr u=>by obtain⟨z,-,rfl⟩:=Y5.1 u;rfl) (O5 ..) ?_|refine Cq.mk (Dp (some 4) (bf.enc .O) (m9 (nth h.X i).Id) (h.X.take i)) (ry default (nth h.X i)).has (λL k rcs C=>by obtain⟨y,-,rfl,rfl,rfl⟩:=C;exact ry y (nth h.X i)) ?_|refine CM (q (by assumption)).1 (aa (ar (q (by assumption)).2)) ?_|refine CM (t (by assumption)).1 (aa (ar (t (by assumption)).2)) ?_|refine CA (uW _) ?_|refine CO rfl ?_)
    all_goals first
     | exact I1 (λz=>[B z]) ((jH g (LI (by rw[b];grind))).symm)
     | ((conv=>whnf);refine CF (i+1) ⟨ω,bT G (DL c d (by rw[b];grind))⟩ ω ?_;(exact wB))
     |(exfalso;omega)
   repeat'(first|refine gE ?_|with_reducible refine Bf.D (λe=>?_) (λe=>?_)|refine CM ω (aa (gW ω g)) ?_|refine CA (aO _ _ _) ?_|refine CX i rfl (by simp;omega) (λr u=>by obtain⟨z,-,rfl⟩:=Y5.1 u;rfl) (O5 ..) ?_|refine Cq.mk (Dp (some 4) (bf.enc .O) (m9 (nth h.X i).Id) (h.X.take i)) (ry default (nth h.X i)).has (λL k rcs C=>by obtain⟨y,-,rfl,rfl,rfl⟩:=C;exact ry y (nth h.X i)) ?_|refine CO rfl ?_)
   all_goals first
    | exact I1 (λz=>[B z]) ((jH g (MJ d)).symm)
    |(exfalso;omega)
  have l:iQ (IntKind.i64.wrap (h.g - 1)) h i=false:=by simpa using c
  have a:=l;unfold iQ at a;rw[O6]at a
  repeat'(first|refine gE ?_|with_reducible refine Bf.D (λe=>?_) (λe=>?_)|refine CM ω (aa (gW ω g)) ?_|refine CA (aO _ _ _) ?_|refine CO rfl ?_)
  all_goals first
   | exact I1 (λz=>[B z]) ((jH g (M7 l)).symm)
   |(exfalso;omega)
 obtain rfl:i=h.X.length:=ω
 refine ZE ?_
 exact I1 (λz=>[B z]) ((show true=gT h from G.symm))
set_option maxHeartbeats 8000000
variable{n:Nat}
theorem MW(h:kF sp la n=true):ne sp la (n+1)=ne sp la n++[(n:Int)]:=by grind [List.range_succ,ne]
theorem RM(h:kF sp la n=false):ne sp la (n+1)=ne sp la n:=by grind [List.range_succ,ne]
theorem BX(sp:List au)(la:List aB)(n:Nat):(ne sp la n).length<=n:=by grind [ne]
theorem tV{w:jL}(a:denotes sp la (n:Nat)=w):kF sp la n=(decide (w.b3=0)&&(decide (w.a6=1) || decide (w.a6=3))):=by grind [kF]
def TU(h:n<=1048576):oh (n:Nat):=⟨ω,ω⟩
theorem yp(sp:List au)(la:List aB)(c:cx sp)(d:cB la)(a:bA sp la=true):zzA 364 false [.val none (bt .O sp),.val none (bz .O la)] .one (aH .own (lh sp la)):=by
 have g:=nL sp la c d;rw[a]at g;refine fO 40 [] Tryz.func364 rfl ?_ (.inr (bM _))
 refine ZP ?_
 refine CH (ι:=Nat) (λn=>[(0,.F .one (bt .O sp)),(1,.F .one (bz .O la)),(5,.F .one (aH .own (ne sp la n))),(6,.F .one [I ((n:Nat):Int)])]) (λn=>n<=512) (λn=>512 - n) (0) ?_ (C1 _) λn o=>?_
 ·exact wB
 have i:=BX sp la n;by_cases p:n<512
 ·have h:=pj sp la (n:Nat) c d a (TU ω)
  generalize j:denotes sp la (n:Nat)=w at h;have e:=tV j
  repeat'(first|refine gE ?_|with_reducible refine Bf.E (λk=>?_) (λk=>?_)|refine CS cR (λr l=>by rw[I2.1 l];rfl) (by simp[bm,eX]) (by simp;omega) (by simp only[Z1];exact v8 (by simp;omega) (by decide)) rfl ?_)
  all_goals first
   |(have b:kF sp la n=true:=by rw[e];grind
     (conv=>whnf)
     refine CF (n+1) ω ω ?_;rw[MW b]
     (repeat'(first|exact trivial|rfl|exact CC rfl (CC (I1 (C.s dY.own) (by simp[rI])) trivial)|refine CC ?_ ?_)))
   |(have b:kF sp la n=false:=by rw[e];grind
     (conv=>whnf)
     refine CF (n+1) ω ω ?_;rw[RM b]
     (exact wA))
 obtain rfl:n=512:=ω
 refine ZE ?_
 rfl
theorem zX(m:aM)(a:m.k.length=m.V.length):∀i,i<=m.V.length->(((flight1 m i).length+(flight2 m i).length:Nat):Int)=bP m i
 | 0,_=>rfl
 | i+1,h=>by
  have d:=zX m a i ω;have b:=ar (xs:=m.V) (i:=i) ω;have c:=ar (xs:=m.k) (i:=i) ω;rw[pz b,oX c];simp only[X4,Z1];show _=bP m i+((nth m.V i).length+(nth m.k i).length);omega
theorem uI{m:aM}(h:dE m=true):(bp m).length<=30:=by grind [zX,qi,dE]
def G5{m:aM}(d:aM.wf m):∀a∈bp m,oh a:=by
 intro a b;unfold bp at b;split at b
 ·rcases C4.1 b with h|h
  ·obtain⟨l,c,h⟩:=List.mem_flatMap.1 h
   obtain⟨p,e,rfl⟩:=Y5.1 h;exact((d.1.2 l c).2 p e).2
  obtain⟨l,c,h⟩:=List.mem_flatten.1 h;exact(d.2.2 l c).2 a h
 cases b
theorem Pm(a:h.M.all (fw h)=false):kq h=false:=by grind [kq,jU]
theorem NP(a:h.q.u.all (iD h)=false):kq h=false:=by grind [kq,jU]
theorem MP(a:(bp h.e).all (lG h)=false):kq h=false:=by grind [kq,jU]
theorem N3(a:i<(holders h).length)(b:nth (holders h) i∈(holders h).take i):kq h=false:=by
 have c:decide (holders h).Nodup=false:=PO (S:=(holders h).take i) (p:=nth (holders h) i) (by
   have:=ar a;have e:(holders h).take i++[nth (holders h) i]=(holders h).take (i+1):=by grind [X7]
   grind) b
 grind [kq]
variable{c:ax}
theorem wL(a:h.M[i]? = some c):((h.M.take (i+1)).flatMap λc=>c.T.flatten)=((h.M.take i).flatMap λc=>c.T.flatten)++c.T.flatten:=by grind [X7]
theorem zp{k:Nat}{l:List Int}(a:c.T[k]? = some l):(c.T.take (k+1)).flatten=(c.T.take k).flatten++l:=by grind [X7]
theorem Ku(h:ac)(hs:ac.sml h)(hw:ac.wf h)(t:bA h.H h.S=true)(w:dE h.e=true)(W:∀c∈h.M,bH c=true):zzA 216 false [.val (some 24) (ac.enc .O h)] .one [B (kq h)]:=by
 obtain⟨-,-,G,H,X,Y,Z,hsq,-⟩:=hs;obtain⟨-,-,-,-,-,hwc,hwm,hwq,-⟩:=hw;have hlo:h.X.length<=1048576:=X.1;have hlc:h.M.length<=1048576:=Y.1;have hlq:h.q.u.length<=1048576:=hsq.1;have hfl:=uI w;have hfw:=G5 hwm;have y:∀a c,oh a->zzA 363 false [.val (some 24) (ac.enc .O h),.val none [I a],.val none [I c]] .one [B (dy h a c)]:=λa c ha=>La h a c G H t ha
 refine fO 159 [(16,8,[63,64,65,66,67,68,69,70]),(22,17,[86,87,88,89,90,91,92,93,94,95,96,97,98,99,100,101,102]),(29,7,[122,123,124,125,126,127,128]),(35,8,[142,143,144,145,146,147,148,149])] Tryz.func216 rfl ?_
 refine ZP ?_
 refine CH (ι:=Nat × List Int) (λi=>[(1,.F .box (ac.enc .O h)),(3,.F .one (aH .own i.2)),(4,.F .one [I ((i.1:Nat):Int)])]) (λi=>i.1<=h.X.length/\i.2=(h.X.take i.1).map (·.Addr)) (λi=>h.X.length - i.1) ((0,[])) ?_ ψ λi u=>?_
 ·exact wB
 obtain⟨i,S⟩:=i;obtain⟨u,Q⟩:=u;simp only at u Q |-;have hSl:S.length=i:=ψ
 by_cases li:i<h.X.length
 ·have E:=ar li
  repeat'(first|refine gE ?_|refine CS cR (λr l=>by rw[I2.1 l];rfl) (by simp[bm,eX]) (by simp;omega) (by simp only[Z1];exact v8 (by simp;omega) (by decide)) rfl ?_)
  ((conv=>whnf)
   refine CF (i+1,S++[(nth h.X i).Addr]) ⟨(by simp only;omega),(by grind [X7])⟩ (by simp only;omega) ?_
   (repeat'(first|exact trivial|rfl|exact CC rfl (CC (I1 (C.s dY.own) (by simp[rI])) trivial)|refine CC ?_ ?_)))
 obtain rfl:i=h.X.length:=ω
 rw[C7]at Q
 refine ZE ?_
 refine CH (ι:=Nat × List Int) (λi=>[(1,.F .box (ac.enc .O h)),(3,.F .one (aH .own i.2)),(5,.F .one [I ((i.1:Nat):Int)])]) (λi=>i.1<=h.M.length/\i.2=S++((h.M.take i.1).flatMap λc=>c.T.flatten)/\(h.M.take i.1).all (fw h)=true/\i.2.length<=1048576+32*i.1) (λi=>h.M.length - i.1) ((0,S)) ?_ ψ λi u=>?_
 ·exact wB
 obtain⟨i,S2⟩:=i;obtain⟨hi2,n,ai,J⟩:=u;simp only at hi2 n ai J |-;by_cases li2:i<h.M.length
 ·have E:=ar li2
  obtain⟨h4,h8⟩:=xg (W _ (aE li2));have hwl:=hwc.2 _ (aE li2)
  refine ZE ?_
  refine CH (ι:=Nat × List Int) (λk=>[(1,.F .box (ac.enc .O h)),(3,.F .one (aH .own k.2)),(5,.F .one [I ((i:Nat):Int)]),(6,.F .one [I ((k.1:Nat):Int)])]) (λk=>k.1<=(nth h.M i).T.length/\k.2=S2++((nth h.M i).T.take k.1).flatten/\db k.1 (tQ h (nth h.M i))=true/\k.2.length<=S2.length+8*k.1) (λk=>(nth h.M i).T.length - k.1) ((0,S2)) ?_ (⟨C1 _,by simp,rfl,by simp⟩) λk hk=>?_
  ·exact wB
  obtain⟨k,R⟩:=k;obtain⟨hk,K,ak,hb3⟩:=hk;simp only at hk K ak hb3 |-;by_cases T:k<(nth h.M i).T.length
  ·have hy:=ar T
   have hl8:=h8 _ (aE T);have hwa:=(hwl.2 _ (aE T)).2
   refine ZE ?_
   refine CH (ι:=Nat × List Int) (λj=>[(1,.F .box (ac.enc .O h)),(3,.F .one (aH .own j.2)),(5,.F .one [I ((i:Nat):Int)]),(6,.F .one [I ((k:Nat):Int)]),(7,.F .one (aH .O (nth (nth h.M i).T k))),(8,.F .one [I ((j.1:Nat):Int)])]) (λj=>j.1<=(nth (nth h.M i).T k).length/\j.2=R++(nth (nth h.M i).T k).take j.1/\((nth (nth h.M i).T k).take j.1).all (λa=>dy h a (k:Nat))=true) (λj=>(nth (nth h.M i).T k).length - j.1) ((0,R)) ?_ ψ λj hj=>?_
   ·exact wB
   obtain⟨j,S4⟩:=j;obtain⟨hj,L,U⟩:=hj;simp only at hj L U |-;have hl4:S4.length=R.length+j:=ψ
   by_cases lj:j<(nth (nth h.M i).T k).length
   ·have d:=ar lj
    have b:=y (nth (nth (nth h.M i).T k) j) (k:Nat) ψ;cases g:dy h (nth (nth (nth h.M i).T k) j) (k:Nat)<;>rw[g]at b
    ·refine ZE ?_
     exact I1 (λz=>[B z]) ((Pm (io E (by unfold fw;exact cv T (io d g)))).symm)
    repeat'(first|refine gE ?_|refine CS cR (λr l=>by rw[I2.1 l];rfl) (by simp[bm,eX]) (by simp;omega) (by show _*8<=_;simp;omega) rfl ?_)
    ((conv=>whnf)
     refine CF (j+1,S4++[nth (nth (nth h.M i).T k) j]) ⟨(by simp only;omega),(by grind [X7]),cO d U g⟩ (by simp only;omega) ?_
     (repeat'(first|exact trivial|rfl|exact CC rfl (CC (I1 (C.s dY.own) (by simp[rI])) trivial)|refine CC ?_ ?_)))
   obtain rfl:j=(nth (nth h.M i).T k).length:=ω
   rw[C7]at L U
   refine ZE ?_
   (refine CF (k+1,S4) ⟨(by simp only;omega),(by grind [zp]),bT ak U,(by simp only;omega)⟩ (by simp only;omega) ?_;(exact wB))
  obtain rfl:k=(nth h.M i).T.length:=ω
  rw[C7]at K
  refine ZE ?_
  (refine CF (i+1,R) ⟨(by simp only;omega),(by grind [wL]),cO E ai ak,(by simp only;omega)⟩ (by simp only;omega) ?_;(exact wB))
 obtain rfl:i=h.M.length:=ω
 rw[C7]at n ai
 refine ZE ?_
 refine CH (ι:=Nat × List Int) (λq=>[(1,.F .box (ac.enc .O h)),(3,.F .one (aH .own q.2)),(9,.F .one [I ((q.1:Nat):Int)])]) (λq=>q.1<=h.q.u.length/\q.2=S2++(h.q.u.take q.1).map (·.Addr)/\(h.q.u.take q.1).all (iD h)=true) (λq=>h.q.u.length - q.1) ((0,S2)) ?_ ψ λq M=>?_
 ·exact wB
 obtain⟨q,N⟩:=q;obtain⟨F,o,aq⟩:=M;simp only at F o aq |-;have hl5:N.length=S2.length+q:=ψ
 by_cases V:q<h.q.u.length
 ·have d:=ar V
  have b:=y (nth h.q.u q).Addr (nth h.q.u q).Z (hwq.2.2 _ (aE V)).1;cases g:dy h (nth h.q.u q).Addr (nth h.q.u q).Z<;>rw[g]at b
  ·refine ZE ?_
   exact I1 (λz=>[B z]) ((NP (io d g)).symm)
  repeat'(first|refine gE ?_|refine CS cR (λr l=>by rw[I2.1 l];rfl) (by simp[bm,eX]) (by simp;omega) (by show _*8<=_;simp;omega) rfl ?_)
  ((conv=>whnf)
   refine CF (q+1,N++[(nth h.q.u q).Addr]) ⟨(by simp only;omega),(by grind [X7]),cO d aq g⟩ (by simp only;omega) ?_
   (repeat'(first|exact trivial|rfl|exact CC rfl (CC (I1 (C.s dY.own) (by simp[rI])) trivial)|refine CC ?_ ?_)))
 obtain rfl:q=h.q.u.length:=ω
 rw[C7]at o aq
 repeat'(first|refine gE ?_|refine CA (Bo h.e Z) ?_)
 refine CH (ι:=Nat × List Int) (λq=>[(1,.F .box (ac.enc .O h)),(3,.F .one (aH .own q.2)),(10,.F .one (aH .own (bp h.e))),(11,.F .one [I ((q.1:Nat):Int)])]) (λq=>q.1<=(bp h.e).length/\q.2=N++(bp h.e).take q.1/\((bp h.e).take q.1).all (lG h)=true) (λq=>(bp h.e).length - q.1) ((0,N)) ?_ ψ λq M=>?_
 ·exact wB
 obtain⟨q,e⟩:=q;obtain⟨F,p,aq6⟩:=M;simp only at F p aq6 |-;have hl6:e.length=N.length+q:=ψ
 by_cases V:q<(bp h.e).length
 ·have d:=ar V
  have b:=y (nth (bp h.e) q) (-1) ψ;cases g:dy h (nth (bp h.e) q) (-1)<;>rw[g]at b
  ·refine ZE ?_
   exact I1 (λz=>[B z]) ((MP (io d g)).symm)
  repeat'(first|refine gE ?_|refine CS cR (λr l=>by rw[I2.1 l];rfl) (by simp[bm,eX]) (by simp;omega) (by show _*8<=_;simp;omega) rfl ?_)
  ((conv=>whnf)
   refine CF (q+1,e++[nth (bp h.e) q]) ⟨(by simp only;omega),(by grind [X7]),cO d aq6 g⟩ (by simp only;omega) ?_
   (repeat'(first|exact trivial|rfl|exact CC rfl (CC (I1 (C.s dY.own) (by simp[rI])) trivial)|refine CC ?_ ?_)))
 obtain rfl:q=(bp h.e).length:=ω
 rw[C7]at p aq6;have O:e=holders h:=by rw[p,o,n,Q];rfl
 have hheld:jU h=true:=by grind [jU]
 have hbig:e.length<=100000000:=ω
 clear p o n Q hSl hl5 J hl6
 refine ZE ?_
 refine Lp.fz 3 (ι:=Nat) (λi=>[(1,.F .box (ac.enc .O h)),(3,.F .one (aH .O e)),(12,.F .one [I ((i:Nat):Int)])]) (λi=>i<=e.length/\(e.take i).Nodup) (λi=>e.length - i) 0 ?_ ψ λi u=>?_
 ·(repeat'(first|exact trivial|rfl|exact CC rfl (show RP (fo (aH .own e)) (aH .O e) by rw[dK];exact qt _)|refine CC ?_ ?_))
 obtain⟨u,P⟩:=u;by_cases lj:i<e.length
 ·have d:=ar lj
  have htl:(e.take i).length=i:=ψ
  repeat'(first|refine gE ?_|with_reducible refine Bf.D (λM=>?_) (λM=>?_)|refine CX i rfl (by simp;omega) (λr l=>by obtain⟨z,-,rfl⟩:=Y5.1 l;rfl) (O5 ..) ?_|refine CA (oA (e.take i) _ ω) ?_)
  all_goals first
   | exact I1 (λz=>[B z]) ((by rw[O]at *;exact(N3 (by assumption) (by assumption)).symm))
   | ((conv=>whnf);refine CF (i+1) ⟨ω,by rw[X7,d];exact mH P (by assumption)⟩ ω ?_;(exact wB))
 obtain rfl:i=e.length:=ω
 rw[C7]at P;have hlv:=BX h.H h.S 512
 repeat'(first|refine gE ?_|refine CA (yp h.H h.S G H t) ?_)
 exact I1 (λz=>[B z]) ((by grind [kq]))
set_option maxHeartbeats 8000000
def dL(h:ac):Bool:=(dE h.e&&decide (h.M.length=h.e.V.length))&&jQ h.q
def ec(h:ac):Bool:=((((((nl h&&wW h)&&dL h)&&ni h)&&h.M.all bH)&&dU h)&&(gT h&&kq h))&&uB h
theorem qg(h:ac)(X:ac.sml h)(Y:ac.wf h):zzA 73 false [.val (some 24) (ac.enc .O h)] .one [B (ec h)]:=by
 have M:=X;have O:=Y;obtain⟨u,w,b,j,P,y,C,E,F⟩:=X;obtain⟨-,-,-,-,Q,hwc,hwm,hwq,-⟩:=Y;have l:x8 h:=u.1.2;have hpn:gr h<=1048576:=l.1;have R:h.X.length<=1048576:=P.1;have S:h.M.length<=1048576:=y.1;have hlq:h.q.u.length<=1048576:=E.1;have hlb:h.e.V.length<=1048576:=C.1.1;have d:=sN h.K u;have e:=n6 (gr h) h.a ω w;have g:=nL h.H h.S b j;have r:=FV h b l;have G:=wZ h.e C;have T:=Hk h.q E;cases Z:aK h.K<;>rw[Z]at d
 ·refine fO 150 [(8,10,[67,68,69,70,71,72,73,74,75,76])] Tryz.func73 rfl ?_
  repeat'(first|refine gP ?_|with_reducible refine Bf.N (λa=>?_) (λa=>?_))
  all_goals first
   | exact I1 (λz=>[B z]) ((by unfold ec nl;rw[Z];simp))
   |(exfalso;omega)
 cases e2:bI (gr h) h.a<;>rw[e2]at e
 ·refine fO 150 [(8,10,[67,68,69,70,71,72,73,74,75,76])] Tryz.func73 rfl ?_
  repeat'(first|refine gP ?_|with_reducible refine Bf.N (λa=>?_) (λa=>?_))
  all_goals first
   | exact I1 (λz=>[B z]) ((by unfold ec nl;rw[e2];simp))
   |(exfalso;omega)
 cases H:bA h.H h.S<;>rw[H]at g
 ·refine fO 150 [(8,10,[67,68,69,70,71,72,73,74,75,76])] Tryz.func73 rfl ?_
  repeat'(first|refine gP ?_|with_reducible refine Bf.N (λa=>?_) (λa=>?_))
  all_goals first
   | exact I1 (λz=>[B z]) ((by unfold ec nl;rw[H];simp))
   |(exfalso;omega)
 have n:=Gl h b j l w H;cases e4:pages0 h<;>rw[e4]at n
 ·refine fO 150 [(8,10,[67,68,69,70,71,72,73,74,75,76])] Tryz.func73 rfl ?_
  repeat'(first|refine gP ?_|with_reducible refine Bf.N (λa=>?_) (λa=>?_))
  all_goals first
   | exact I1 (λz=>[B z]) ((by unfold ec nl;rw[e4];simp))
   |(exfalso;omega)
 cases e5:wW h<;>rw[e5]at r
 ·refine fO 150 [(8,10,[67,68,69,70,71,72,73,74,75,76])] Tryz.func73 rfl ?_
  repeat'(first|refine gP ?_|with_reducible refine Bf.N (λa=>?_) (λa=>?_))
  all_goals first
   | exact I1 (λz=>[B z]) ((by unfold ec ;rw[e5];simp))
   |(exfalso;omega)
 cases U:dE h.e<;>rw[U]at G
 ·refine fO 150 [(8,10,[67,68,69,70,71,72,73,74,75,76])] Tryz.func73 rfl ?_
  repeat'(first|refine gP ?_|with_reducible refine Bf.N (λa=>?_) (λa=>?_))
  all_goals first
   | exact I1 (λz=>[B z]) ((by unfold ec dL;rw[U];simp))
   |(exfalso;omega)
 by_cases V:h.M.length=h.e.V.length;rotate_left
 ·refine fO 150 [(8,10,[67,68,69,70,71,72,73,74,75,76])] Tryz.func73 rfl ?_
  repeat'(first|refine gP ?_|with_reducible refine Bf.N (λa=>?_) (λa=>?_))
  all_goals first
   | exact I1 (λz=>[B z]) ((by unfold ec dL;rw[Z0 V];simp))
   |(exfalso;omega)
 cases e7:jQ h.q<;>rw[e7]at T
 ·refine fO 150 [(8,10,[67,68,69,70,71,72,73,74,75,76])] Tryz.func73 rfl ?_
  repeat'(first|refine gP ?_|with_reducible refine Bf.N (λa=>?_) (λa=>?_))
  all_goals first
   | exact I1 (λz=>[B z]) ((by unfold ec dL;rw[e7];simp))
   |(exfalso;omega)
 have hlay:nl h=true:=by grind [nl]
 have hmc:dL h=true:=by grind [dL]
 refine fO 150 [(8,10,[67,68,69,70,71,72,73,74,75,76])] Tryz.func73 rfl ?_
 repeat'(first|refine gB ?_|with_reducible refine Bf.N (λa=>?_) (λa=>?_))
 all_goals try(exfalso;omega)
 (conv=>whnf)
 refine CH (ι:=Nat) (λi=>[(1,.F .box (ac.enc .O h)),(3,.F .one [I ((i:Nat):Int)])]) (λi=>i<=h.q.u.length/\(h.q.u.take i).all (λx=>decide (x.a8<=h.a5))=true) (λi=>h.q.u.length - i) (0) ?_ ψ λi hi=>?_
 ·exact wB
 obtain⟨hi,ai⟩:=hi;by_cases li:i<h.q.u.length
 ·have p:=ar li
  repeat'(first|refine gE ?_|with_reducible refine Bf.D (λa=>?_) (λa=>?_))
  all_goals first
   | exact I1 (λz=>[B z]) ((by unfold ec ni;rw[io p (Z0 ω)];simp))
   | ((conv=>whnf);refine CF (i+1) ⟨ω,cO p ai (O0 ω)⟩ ω ?_;(exact wB))
 have hsi:ni h=true:=oR ω ai
 refine ZE ?_
 refine CH (ι:=Nat) (λk=>[(1,.F .box (ac.enc .O h)),(4,.F .one [I ((k:Nat):Int)])]) (λk=>k<=h.M.length/\(h.M.take k).all bH=true) (λk=>h.M.length - k) (0) ?_ ψ λk hk=>?_
 ·exact wB
 obtain⟨hk,ak⟩:=hk;by_cases lk:k<h.M.length
 ·have p:=ar lk
  have W:=ug (nth h.M k) (y.2 _ (aE lk));cases e8:bH (nth h.M k)<;>rw[e8]at W
  ·refine ZE ?_
   exact I1 (λz=>[B z]) ((by grind [ec]))
  refine ZE ?_
  (refine CF (k+1) ⟨ω,cO p ak e8⟩ ω ?_;(exact wB))
 have hca:h.M.all bH=true:=oR ω ak;have q:=Kb h b j H R S (λo ho=>(Q.2 o ho).2.1);have c10:=Ku h M O H U ψ;have c11:=Nw h.p F;have c12:=Aa h.p F;have c13:=mZ h h.p.Y.w b.1;have c14:=mZ h h.p.Y.y b.1;by_cases hn:dU h=true;rotate_left
 ·have J:dU h=false:=by simpa using hn
  have c:=J;unfold dU at c;rw[O6]at c;cases L:gT h<;>rw[L]at q<;>cases e10:kq h<;>rw[e10]at c10
  all_goals
   repeat'(first|refine gE ?_|with_reducible refine Bf.D (λa=>?_) (λa=>?_)|refine CA (aS _ _ _) ?_)
   all_goals first
    | exact I1 (λz=>[B z]) ((by unfold ec;rw[J];simp))
    |(exfalso;omega)
 have c:=hn;unfold dU at c;rw[C0]at c;cases L:gT h<;>rw[L]at q
 ·repeat'(first|refine gE ?_|with_reducible refine Bf.D (λa=>?_) (λa=>?_)|refine CA (aS _ _ _) ?_)
  all_goals first
   | exact I1 (λz=>[B z]) ((by unfold ec;rw[L];simp))
   |(exfalso;omega)
 cases e10:kq h<;>rw[e10]at c10
 ·repeat'(first|refine gE ?_|with_reducible refine Bf.D (λa=>?_) (λa=>?_)|refine CA (aS _ _ _) ?_)
  all_goals first
   | exact I1 (λz=>[B z]) ((by unfold ec;rw[e10];simp))
   |(exfalso;omega)
 have K:ec h=uB h:=by grind [ec]
 rw[K];unfold uB;cases em:h.j
 ·repeat'(first|refine gE ?_|with_reducible refine Bf.D (λa=>?_) (λa=>?_)|refine CA (aS _ _ _) ?_|refine Bf.f em ?_)
  grind
 cases e12:kg h.p<;>rw[e12]at c12
 all_goals
  repeat'(first|refine gE ?_|with_reducible (first|refine Bf.D (λa=>?_) (λa=>?_)|refine Bf.D (λa=>?_) (λa=>?_))|refine CA (aS _ _ _) ?_|refine Bf.t em ?_)
  all_goals first
   | exact I1 (λz=>[B z]) (ψ)
   |(exfalso;omega)
set_option maxHeartbeats 4000000
def sorted(xs:List Int):List Int:=xs.mergeSort λx y=>decide (x<=y)
theorem Av(xs:List Int):(sorted xs).length=xs.length:=List.length_mergeSort ..
theorem KC{w a:World}{g:Nat}{d:Array Int}{h:Array Obj}{c:Array Value}{e:TypeId}{i:Nat × Nat}(j:w.heap[g]? = some (.cells c e i))(k:a=Sort.grow (Sort.putRow (Value.int .i64) (Sort.ahead w n) g 0 d) h) :
  a.os=w.os/\a.tape=w.tape/\a.output=w.output/\w.heap.size<=a.heap.size/\(∀b,b<w.heap.size->b≠g->a.heap[b]? = w.heap[b]?)/\a.heap[g]? = some (.cells (Sort.putCells (Value.int .i64) 0 d c) e i):=by
 subst k;have f:g<w.heap.size:=ψ
 have l:∀b,b<w.heap.size->(Sort.grow (Sort.putRow (Value.int .i64) (Sort.ahead w n) g 0 d) h).heap[b]? = if g=b then(w.heap[b]?).map (Sort.onCells (Sort.putCells (Value.int .i64) 0 d)) else w.heap[b]?:=λb o=>by grind [Go.Sort.heap_grow_old,Go.Sort.putRow,Go.Sort.mapBlock,Go.Sort.ahead]
 refine⟨rfl,rfl,rfl,?_,λb o p=>?_,?_⟩
 ·grind
 ·grind
 rw[l g f,CG rfl,j];rfl
theorem Tl(d:Array Int)(c:Array Value)(q:Nat):(Sort.putCells (Value.int .i64) 0 d c)[q]? = if q<d.size then(c[q]?).map (λ_=>.int .i64 d[q]!) else c[q]?:=by grind [Go.Sort.putCells]
theorem row1{w:World}{S Y:ah}{c:C}{v:Value}(h:ef w S Y c v):cy w S Y [c] (λ_=>v):=by
 refine⟨λ_=>Y,λj a b=>?_,λ_ _ _ _ h=>h,ψ⟩
 all_goals grind
def Xz(Y:ah):Nat->ah
 | 0=>Y
 | _+1=>NO
variable{j:Nat}
theorem Q1(xs:List Int)(a:j<xs.length):xs.toArray[j]! = xs[j]:=ψ
theorem Ug(xs:List Int)(hl:xs.length<=1048576*64):zzB 383 false [.mut none (aH .own xs)] [.mut none (aH .own (sorted xs))] (.tup []) []:=by
 refine⟨⟨_,Tryz.func383,by kernel_rfl,by kernel_rfl⟩,λw S V vs hS hV hVV N=>?_⟩
 match vs,N with
 | [v],⟨N,_⟩=>
  have t:=bw.rep1 (show bw w S (V 0) none [C.s .own (xs.map (rI .own))] v from N);generalize F:C.s .own (xs.map (rI .own))=cc at t;cases t with
  | nil _ o a ho=>
   cases hcc0:xs with
   | cons x xs'=>grind
   | nil=>
    refine(Tryz.slices_Sort_int_none a 0 w).mono λe p ⟨O,B⟩=>?_
    subst B;refine⟨.tuple #[],O,CZ _ _,NO,λ_=>NO,NO,λ_ _ h=>h.elim,λ_ _ _ h=>h.elim,λ_ _ h=>h.elim,λ_ _ _ _ _ h=>h.elim,λ_ _ _ h=>h.elim,λ_ _ h=>h.elim,λ_ _ _ h=>h.elim,⟨#[],rfl,trivial,rfl⟩,cy.nil _ _ _ _,⟨⟨rfl,λ_=>.slice a 0 0,rfl,row1 (by rw[show sorted []=[] from List.mergeSort_nil ..];exact .nil _ .own _ trivial)⟩,trivial⟩⟩
  | own _ o g k n D rows u f ho hn hk G H hF hu hf hd hc=>
   cases F;have P:n=xs.length:=ψ
   have Q:0<xs.length:=ω
   have R:k=1:=by
    have:=hk (rI .own xs[0]) ψ;exact this.symm
   subst R P;have y:∀j (l:j<xs.length),cel w g j=some (.int .i64 xs[j]):=λj l=>by
    have h1:=hu j ω;have T:=hc j 0 (rI .own xs[j]) (I xs[j]) ψ rfl;rw[Nat.mul_one,Nat.add_zero]at T;rw[h1];generalize u j=z at T;cases T
    rfl
   have U:g<w.heap.size:=ψ
   obtain⟨c,e0,fr,hg,-⟩:=Sort.cells_of_cell? (y 0 Q);have hH:Sort.Holds (Value.int .i64) w g 0 xs.toArray:=λj l=>by
    have J:j<xs.length:=by simpa using l
    refine⟨?_,?_⟩
    ·rw[Q1 xs J,z9];exact y j J
    rw[z9];exact I1 Prod.fst (hF j ω).2.2
   refine(Tryz.slices_Sort_int g 0 D xs w hH U ω).mono λe p ⟨O,m,os,B⟩=>?_
   obtain⟨q1,q2,q3,q4,q5,q6⟩:=KC hg B;have hsl:=Av xs;have hcel:∀q,cel w g q=c[q]?:=λq=>by grind [Go.World.cell?]
   have W:∀q,cel p g q=if q<xs.length then(c[q]?).map (λ_=>.int .i64 (sorted xs).toArray[q]!) else c[q]?:=λq=>by grind [Tl,Go.World.cell?,sorted]
   have d:∀q (X:q<xs.length),cel p g q=some (.int .i64 ((sorted xs)[q]'(ω))):=ψ
   have K:∀q,fro p g q=fro w g q:=λq=>by
    refine Prod.ext ?_ ?_
    ·grind [Go.World.frozen?]
    grind [mp,Go.Sort.putCells]
   have hother:∀b,b<w.heap.size->b≠g->∀o,cel p b o=cel w b o/\fro p b o=fro w b o:=λb hb L o=>by grind [Go.World.cell?,Go.World.frozen?,mp]
   have E:bC (λb o=>∃i,V i b o) w p:=by
    refine⟨q1,q2,q3,q4,ψ,λb o hb hn=>?_,λb o hb hn=>?_⟩
    all_goals grind
   refine⟨.tuple #[],O,E,NO,Xz (V 0),NO,λ_ _ h=>h.elim,λi b o h=>?_,λ_ _ h=>h.elim,λi i' L b o h h'=>?_,λ_ _ _ h=>h.elim,λ_ _ h=>h.elim,λ_ _ _ _ h=>h.elim,⟨#[],rfl,trivial,rfl⟩,cy.nil _ _ _ _,⟨⟨rfl,λ_=>.slice (some ⟨g,0,none⟩) xs.length D,rfl,row1 ?_⟩,trivial⟩⟩
   ·cases i with
    | zero=>exact .inl ⟨0,h⟩
    | succ i=>exact h.elim
   ·cases i with
    | zero=>
     cases i' with
     | zero=>exact L rfl
     | succ i'=>exact h'.elim
    | succ i=>exact h.elim
   show ef p _ (V 0) _ _;refine .own _ .own g 1 xs.length D _ (λq=>(cel p g q).getD undef) (λ_=>NO) trivial ψ (λr hr=>by obtain⟨z,-,rfl⟩:=Y5.1 hr;rfl) G H (λq X=>?_) (λq X=>?_) (λ_ _ _ _ h=>h.elim) (λ_ _ _ _ _ _ _ h=>h.elim) (λi j r c2 M l=>?_)
   ·obtain⟨a1,⟨z,a2,a3⟩,a4⟩:=hF q X
    refine⟨a1,?_,(K q).trans a4⟩;by_cases Y:q<xs.length
    ·exact⟨_,d q Y,rfl⟩
    grind
   ·grind
   rw[O4]at M;have Z:i<(sorted xs).length:=ψ
   rw[X3 Z]at M;simp only[I7,O1]at M;subst M
   match j,l with
   | 0,l=>
    simp only[rI,List.getElem?_cons_zero,O1]at l;subst l;simp only[Nat.mul_one,Nat.add_zero,d i ω,Option.getD_some];exact .v _ _ rfl
   | j+1,l=>simp[rI]at l
  | _=>cases F
set_option maxHeartbeats 8000000
def kh(s:au)(k:Nat):Int:=16*s.R+(k:Nat)*csz s.Z
def eM(s:au)(n:Nat):List Int:=((List.range n).filter λk=>aX s.r (k:Nat)).map (kh s)
variable{s:au}
theorem Eh(h:aX s.r (n:Nat)=true):eM s (n+1)=eM s n++[kh s n]:=by grind [List.range_succ,eM]
theorem GI(h:aX s.r (n:Nat)=false):eM s (n+1)=eM s n:=by grind [List.range_succ,eM]
theorem u9(s:au)(n:Nat):(eM s n).length<=n:=by grind [eM]
def fW(sp:List au):List Int:=sp.flatMap λs=>eM s (slots s.Z).toNat
def live0(sp:List au)(la:List aB):List Int:=fW sp++la.map λl=>16*l.R
def pK(sp:List au)(la:List aB):List Int:=sorted (live0 sp la)
theorem uy(k:Int):0<=slots k/\slots k<=16:=by grind [slots]
def Ef{k:Int}(h:0<=k/\k<=3):slots k*csz k=16:=by
 obtain rfl|rfl|rfl|rfl:k=0\/k=1\/k=2\/k=3:=ω
 all_goals decide
theorem y8(h:sp[i]? = some s):fW (sp.take (i+1))=fW (sp.take i)++eM s (slots s.Z).toNat:=by grind [X7,fW]
def sD(s:au)(k:Nat)(a:bc s=true)(i:(k:Int)<slots s.Z):zzA 339 false [.val (some 3) (au.enc .O s),.val none [I (k:Nat)]] .one [I (kh s k)]:=by
 have b:=hM s;have c:=eC s.Z;have g:=gm s.Z;rw[a]at b;have d:=aP a;have j:=uy s.Z;rcases dN ⟨d.2.2.1,d.2.2.2⟩ with e|e|e|e<;>rw[e]at c
 all_goals
  refine fO 26 [(3,9,[17,18,19,20,21,22,23,24,25])] Tryz.func339 rfl ?_
  repeat'(first|refine gE ?_|with_reducible refine Bf.D (λh=>?_) (λh=>?_)|refine CA (aO _ 0 _) ?_)
  all_goals exact I1 (λz=>[I z]) (by unfold kh;rw[e];omega)
theorem Al(sp:List au)(la:List aB)(c:cx sp)(d:cB la)(a:bA sp la=true):zzA 238 false [.val none (bt .O sp),.val none (bz .O la)] .one (aH .own (pK sp la)):=by
 have D:=c.1;have E:=d.1;have B:=rY sp la c d;rw[a]at B;obtain⟨o,F,-⟩:=fe a;refine fP 56 [(383,[1])] [] Tryz.func238 rfl ?_ (.inr (bM _))
 refine ZP ?_
 refine CH (ι:=Nat × List Int) (λi=>[(1,.F .one (bz .O la)),(5,.F .one (aH .own i.2)),(16,.F .one (bt .O sp)),(17,.F .one [I (sp.length)]),(18,.F .one [I ((i.1:Nat):Int)])]) (λi=>i.1<=sp.length/\i.2=fW (sp.take i.1)/\i.2.length<=16*i.1) (λi=>sp.length - i.1) ((0,[])) ?_ (⟨C1 _,rfl,C1 _⟩) λi e=>?_
 ·exact wB
 obtain⟨i,S⟩:=i;obtain⟨e,p,G⟩:=e;simp only at e p G |-;by_cases j:i<sp.length
 ·have n:=ar j
  have g:bc (nth sp i)=true:=Ua o j;have H:=uy (nth sp i).Z;have q:=fD g
  refine ZE ?_
  refine CH (ι:=Nat × List Int) (λk=>[(1,.F .one (bz .O la)),(5,.F .one (aH .own k.2)),(7,.F .box (au.enc .O (nth sp i))),(8,.F .one [I ((k.1:Nat):Int)]),(16,.F .one (bt .O sp)),(17,.F .one [I (sp.length)]),(18,.F .one [I ((i:Nat):Int)])]) (λk=>k.1<=(slots (nth sp i).Z).toNat/\k.2=S++eM (nth sp i) k.1) (λk=>(slots (nth sp i).Z).toNat - k.1) ((0,S)) ?_ (⟨C1 _,by simp[eM]⟩) λk t=>?_
  ·exact wB
  obtain⟨k,S2⟩:=k;obtain⟨t,b⟩:=t;simp only at t b |-;have J:=u9 (nth sp i) k;have h:S2.length=S.length+(eM (nth sp i) k).length:=ψ
  by_cases M:k<(slots (nth sp i).Z).toNat
  ·have u:=ip (nth sp i).r (k:Nat) q.2
   cases K:aX (nth sp i).r (k:Nat)<;>rw[K]at u
   ·repeat'(first|refine gE ?_|refine CA (gm _) ?_)
    (refine CF (k+1,S2) ⟨(by simp only;omega),(by grind [GI])⟩ (by simp only;omega) ?_;(exact wB))
   repeat'(first|refine gE ?_|refine CA (gm _) ?_|refine CA (sD (nth sp i) k g ω) ?_|refine CS cR (λr w=>by rw[I2.1 w];rfl) (by simp[bm,eX]) (by simp;omega) (by show _*8<=_;simp;omega) rfl ?_)
   ((conv=>whnf)
    refine CF (k+1,S2++[kh (nth sp i) k]) ⟨(by simp only;omega),(by grind [Eh])⟩ (by simp only;omega) ?_
    (repeat'(first|exact trivial|rfl|exact CC rfl (CC (I1 (C.s dY.own) (by simp[rI])) trivial)|refine CC ?_ ?_)))
  obtain rfl:k=(slots (nth sp i).Z).toNat:=ω
  repeat'(first|refine gE ?_|refine CA (gm _) ?_)
  (refine CF (i+1,S2) ⟨(by simp only;omega),(by grind [y8]),(by simp only;omega)⟩ (by simp only;omega) ?_;(exact wB))
 obtain rfl:i=sp.length:=ω
 rw[C7]at p
 refine ZE ?_
 refine CH (ι:=Nat × List Int) (λi=>[(5,.F .one (aH .own i.2)),(40,.F .one (bz .O la)),(41,.F .one [I (la.length)]),(42,.F .one [I ((i.1:Nat):Int)])]) (λi=>i.1<=la.length/\i.2=S++(la.take i.1).map (λl=>16*l.R)) (λi=>la.length - i.1) ((0,S)) ?_ ψ λi e=>?_
 ·exact wB
 obtain⟨i,S2⟩:=i;obtain⟨y,b⟩:=e;simp only at y b |-;have h:S2.length=S.length+i:=ψ
 by_cases j:i<la.length
 ·have n:=ar j
  have L:=wh a n
  repeat'(first|refine gE ?_|refine CS cR (λr w=>by rw[I2.1 w];rfl) (by simp[bm,eX]) (by simp;omega) (by show _*8<=_;simp;omega) rfl ?_)
  ((conv=>whnf)
   refine CF (i+1,S2++[16*(nth la i).R]) ⟨(by simp only;omega),(by grind [X7])⟩ (by simp only;omega) ?_
   (repeat'(first|exact trivial|rfl|exact CC rfl (CC (I1 (C.s dY.own) (by simp[rI];omega)) trivial)|refine CC ?_ ?_)))
 obtain rfl:i=la.length:=ω
 rw[C7]at b
 repeat'(first|refine gE ?_|refine CI (Ug S2 ω) (.inl rfl) ?_)
 show _=aH .own (sorted (fW sp++la.map λl=>16*l.R));rw[<-p,<-b];rfl
def sM(b:List (Int × Value))(L:List Int):Prop:=∀a,mlook b a (.int .i64 0)=.int .i64 (L.count a:Nat)
theorem Pi(c:List (Int × Value))(a b:Int)(v d:Value):mlook (mput c a v) b d=if a=b then v else mlook c b d:=by
 induction c with
 | nil=>grind [mput,mlook]
 | cons p c e=>
  grind [mput,mlook]
def inc(b:List (Int × Value))(L:List Int)(a:Int):List (Int × Value):=mput b a (.int .i64 ((L.count a:Nat)+1))
def NK:sM [] []:=λ_=>rfl
theorem rq{d:List (Int × Value)}{L:List Int}(h:sM d L)(a:Int):sM (inc d L a) (L++[a]):=λb=>by
 unfold inc;rw[Pi,O8];by_cases c:a=b
 ·grind
 rw[CD c,h b,List.count_singleton,CD (by simpa using c)];rfl
theorem Fr(h:ac)(d:cx h.H)(e:cB h.S)(b:List (Int × Value))(L:List Int)(a c:Int)(g:sM b L)(n:L.length<=1000000000) :
  zzB 236 false [.val none [I a],.val none [I c],.ptr [.m b],.ptr (ac.enc .O h)] [.val none [I a],.val none [I c],.ptr [.m (inc b L a)],.ptr (ac.enc .O h)] .one [B (dy h a c)]:=by
 have k:=oW h.H h.S a d e;obtain⟨i,-⟩:=oK h.H h.S a;have l:L.count a<=L.length:=List.count_le_length;unfold dy;generalize denotes h.H h.S a=w at k i |-;refine fM 41 [] [] [(0,0),(0,0),(0,0),(0,0)] Tryz.func236 rfl (λu q=>?_)
 repeat'(first|refine gP ?_|with_reducible (first|refine Bf.D (λj=>?_) (λj=>?_)|refine Bf.E (λj=>?_) (λj=>?_))|refine Ml.mk (g a) ?_|refine Mu.mk (es':=inc b L a) rfl ?_|refine CM (i (by assumption)).1 (aa (ar (i (by assumption)).2)) ?_)
 all_goals
  refine CL rfl ?_ ?_
  ·exact I1 (λz=>[B z]) (ψ)
  exact wB
set_option maxHeartbeats 8000000
def uD(h:ac)(a:aL):Bool:=iD h a&&decide (a.a8<=h.a5)
def om(h:ac):List Int:=((gj h++h.q.u.map (·.Addr))++bp h.e)++h.X.map (·.Addr)
def kx(h:ac):Bool:=((h.M.all (fw h)&&h.q.u.all (uD h))&&(bp h.e).all (lG h))&&(pK h.H h.S).all λa=>decide ((om h).count a=1)
theorem TZ(a:h.M.all (fw h)=false):kx h=false:=by grind [kx]
theorem LN(a:h.q.u.all (uD h)=false):kx h=false:=by grind [kx]
theorem TL(a:(bp h.e).all (lG h)=false):kx h=false:=by grind [kx]
theorem Ui(b:((pK h.H h.S).all λa=>decide ((om h).count a=1))=false):kx h=false:=by grind [kx]
theorem Pd(a:sp.length<=1048576)(b:la.length<=1048576):(pK sp la).length<=100000000:=by
 have c:∀(l:List au),(fW l).length<=16*l.length:=by
  intro l
  induction l with
  | nil=>exact C1 _
  | cons s l d=>
   have e:fW (s::l)=eM s (slots s.Z).toNat++fW l:=by grind [fW]
   have f:=uy s.Z
   grind [u9]
 grind [Av,pK,live0]
theorem yv(h:ac)(hs:ac.sml h)(P:bA h.H h.S=true)(G:dE h.e=true)(Z:∀c∈h.M,bH c=true):zzA 82 false [.val (some 24) (ac.enc .O h)] .one [B (kx h)]:=by
 obtain⟨-,-,p,r,hso,hsc,hsm,hsq,-⟩:=hs;have hlo:h.X.length<=1048576:=hso.1;have hlc:h.M.length<=1048576:=hsc.1;have hlq:h.q.u.length<=1048576:=hsq.1;have hfl:=uI G;have t:kx h=false->[B false]=[B (kx h)]:=λe=>by rw[e]
 refine fP 114 [(236,[0,0,2,2])] [] Tryz.func82 rfl ?_
 refine ZP ?_
 refine CH (ι:=Nat × List (Int × Value) × List Int) (λi=>[(1,.F .box (ac.enc .O h)),(3,.F .box [.m i.2.1]),(4,.fn 236 [3,1]),(22,.F .one (dv .O h.M)),(23,.F .one [I (h.M.length)]),(24,.F .one [I ((i.1:Nat):Int)])]) (λi=>i.1<=h.M.length/\sM i.2.1 i.2.2/\i.2.2=((h.M.take i.1).flatMap λc=>c.T.flatten)/\(h.M.take i.1).all (fw h)=true/\i.2.2.length<=32*i.1) (λi=>h.M.length - i.1) ((0,[],[])) ?_ (⟨C1 _,NK,rfl,rfl,C1 _⟩) λi hi=>?_
 ·exact wB
 obtain⟨i,es,L⟩:=i;obtain⟨hi,Q,hL,ai,hb⟩:=hi;simp only at hi Q hL ai hb |-;by_cases li:i<h.M.length
 ·have W:=ar li
  obtain⟨h4,h8⟩:=xg (Z _ (aE li))
  refine ZE ?_
  refine CH (ι:=Nat × List (Int × Value) × List Int) (λk=>[(1,.F .box (ac.enc .O h)),(3,.F .box [.m k.2.1]),(4,.fn 236 [3,1]),(22,.F .one (dv .O h.M)),(23,.F .one [I (h.M.length)]),(24,.F .one [I ((i:Nat):Int)]),(29,.F .one (dX .O (nth h.M i).T)),(30,.F .one [I ((nth h.M i).T.length)]),(31,.F .one [I ((k.1:Nat):Int)])]) (λk=>k.1<=(nth h.M i).T.length/\sM k.2.1 k.2.2/\k.2.2=L++((nth h.M i).T.take k.1).flatten/\db k.1 (tQ h (nth h.M i))=true/\k.2.2.length<=L.length+8*k.1) (λk=>(nth h.M i).T.length - k.1) ((0,es,L)) ?_ (⟨C1 _,Q,by simp,rfl,by simp⟩) λk hk=>?_
  ·exact wB
  obtain⟨k,es3,X⟩:=k;obtain⟨hk,F,R,ak,hb3⟩:=hk;simp only at hk F R ak hb3 |-;by_cases lk:k<(nth h.M i).T.length
  ·have hy:=ar lk
   have hl8:=h8 _ (aE lk)
   refine ZE ?_
   refine CH (ι:=Nat × List (Int × Value) × List Int) (λj=>[(1,.F .box (ac.enc .O h)),(3,.F .box [.m j.2.1]),(4,.fn 236 [3,1]),(7,.F .one [I ((k:Nat):Int)]),(22,.F .one (dv .O h.M)),(23,.F .one [I (h.M.length)]),(24,.F .one [I ((i:Nat):Int)]),(29,.F .one (dX .O (nth h.M i).T)),(30,.F .one [I ((nth h.M i).T.length)]),(31,.F .one [I ((k:Nat):Int)]),(36,.F .one (aH .O (nth (nth h.M i).T k))),(37,.F .one [I ((nth (nth h.M i).T k).length)]),(38,.F .one [I ((j.1:Nat):Int)])]) (λj=>j.1<=(nth (nth h.M i).T k).length/\sM j.2.1 j.2.2/\j.2.2=X++(nth (nth h.M i).T k).take j.1/\((nth (nth h.M i).T k).take j.1).all (λa=>dy h a (k:Nat))=true) (λj=>(nth (nth h.M i).T k).length - j.1) ((0,es3,X)) ?_ ψ λj hj=>?_
   ·exact wB
   obtain⟨j,es4,S⟩:=j;obtain⟨hj,l,T,Y⟩:=hj;simp only at hj l T Y |-;have hl4:S.length=X.length+j:=ψ
   by_cases lj:j<(nth (nth h.M i).T k).length
   ·have d:=ar lj
    have b:=Fr h p r es4 S (nth (nth (nth h.M i).T k) j) (k:Nat) l ω;cases o:dy h (nth (nth (nth h.M i).T k) j) (k:Nat)<;>rw[o]at b
    ·refine ZE ?_
     exact t (TZ (io W (by unfold fw;exact cv lk (io d o))))
    refine ZE ?_
    ((conv=>whnf)
     refine CF (j+1,inc es4 S (nth (nth (nth h.M i).T k) j),S++[nth (nth (nth h.M i).T k) j]) ⟨(by simp only;omega),rq l _,(by grind [X7]),cO d Y o⟩ (by simp only;omega) ?_
     (exact wA))
   obtain rfl:j=(nth (nth h.M i).T k).length:=ω
   rw[C7]at T Y
   refine ZE ?_
   (refine CF (k+1,es4,S) ⟨(by simp only;omega),l,(by grind [zp]),bT ak Y,(by simp only;omega)⟩ (by simp only;omega) ?_;(exact wB))
  obtain rfl:k=(nth h.M i).T.length:=ω
  rw[C7]at R
  refine ZE ?_
  (refine CF (i+1,es3,X) ⟨(by simp only;omega),F,(by grind [wL]),cO W ai ak,(by simp only;omega)⟩ (by simp only;omega) ?_;(exact wB))
 obtain rfl:i=h.M.length:=ω
 rw[C7]at hL ai
 refine ZE ?_
 refine CH (ι:=Nat × List (Int × Value) × List Int) (λq=>[(1,.F .box (ac.enc .O h)),(3,.F .box [.m q.2.1]),(4,.fn 236 [3,1]),(52,.F .one (ct .O h.q.u)),(53,.F .one [I (h.q.u.length)]),(54,.F .one [I ((q.1:Nat):Int)])]) (λq=>q.1<=h.q.u.length/\sM q.2.1 q.2.2/\q.2.2=L++(h.q.u.take q.1).map (·.Addr)/\(h.q.u.take q.1).all (uD h)=true) (λq=>h.q.u.length - q.1) ((0,es,L)) ?_ ψ λq u=>?_
 ·exact wB
 obtain⟨q,es5,H⟩:=q;obtain⟨w,y,E,aq⟩:=u;simp only at w y E aq |-;have hl5:H.length=L.length+q:=ψ
 by_cases U:q<h.q.u.length
 ·have d:=ar U
  have b:=Fr h p r es5 H (nth h.q.u q).Addr (nth h.q.u q).Z y ω;cases o:dy h (nth h.q.u q).Addr (nth h.q.u q).Z<;>rw[o]at b
  ·repeat'(first|refine gE ?_|with_reducible refine Bf.D (λu=>?_) (λu=>?_))
   all_goals exact t (LN (io d (by unfold uD iD;rw[o];rfl)))
  repeat'(first|refine gE ?_|with_reducible refine Bf.D (λu=>?_) (λu=>?_))
  all_goals first
   |exact t (LN (io d (by unfold uD iD;rw[o,Z0 ω];rfl)))
   | ((conv=>whnf)
      refine CF (q+1,inc es5 H (nth h.q.u q).Addr,H++[(nth h.q.u q).Addr]) ⟨(by simp only;omega),rq y _,(by simp only;rw[E,X7,d,Z7,Y7];rfl),cO d aq (by unfold uD iD;rw[o,O0 ω];rfl)⟩ (by simp only;omega) ?_
      (exact wA))
 obtain rfl:q=h.q.u.length:=ω
 rw[C7]at E aq
 repeat'(first|refine gE ?_|refine CA (B5 h.e hsm) ?_)
 refine CH (ι:=Nat × List (Int × Value) × List Int) (λq=>[(1,.F .box (ac.enc .O h)),(3,.F .box [.m q.2.1]),(4,.fn 236 [3,1]),(75,.F .one (aH .own (bp h.e))),(76,.F .one [I ((bp h.e).length)]),(77,.F .one [I ((q.1:Nat):Int)])]) (λq=>q.1<=(bp h.e).length/\sM q.2.1 q.2.2/\q.2.2=H++(bp h.e).take q.1/\((bp h.e).take q.1).all (lG h)=true) (λq=>(bp h.e).length - q.1) ((0,es5,H)) ?_ ψ λq u=>?_
 ·exact wB
 obtain⟨q,es6,J⟩:=q;obtain⟨w,C,K,aq6⟩:=u;simp only at w C K aq6 |-;have hl6:J.length=H.length+q:=ψ
 by_cases U:q<(bp h.e).length
 ·have d:=ar U
  have b:=Fr h p r es6 J (nth (bp h.e) q) (-1) C ω;cases o:dy h (nth (bp h.e) q) (-1)<;>rw[o]at b
  ·refine ZE ?_
   exact t (TL (io d o))
  refine ZE ?_
  ((conv=>whnf)
   refine CF (q+1,inc es6 J (nth (bp h.e) q),J++[nth (bp h.e) q]) ⟨(by simp only;omega),rq C _,(by grind [X7]),cO d aq6 o⟩ (by simp only;omega) ?_
   (exact wA))
 obtain rfl:q=(bp h.e).length:=ω
 rw[C7]at K aq6
 refine ZE ?_
 refine CH (ι:=Nat × List (Int × Value) × List Int) (λq=>[(1,.F .box (ac.enc .O h)),(3,.F .box [.m q.2.1]),(87,.F .one (fg .O h.X)),(88,.F .one [I (h.X.length)]),(89,.F .one [I ((q.1:Nat):Int)])]) (λq=>q.1<=h.X.length/\sM q.2.1 q.2.2/\q.2.2=J++(h.X.take q.1).map (·.Addr)) (λq=>h.X.length - q.1) ((0,es6,J)) ?_ ψ λq u=>?_
 ·exact wB
 obtain⟨q,es7,M⟩:=q;obtain⟨w,g,O⟩:=u;simp only at w g O |-;have hl7:M.length=J.length+q:=ψ
 by_cases U:q<h.X.length
 ·have d:=ar U
  have hcl:M.count (nth h.X q).Addr<=M.length:=List.count_le_length
  repeat'(first|refine gE ?_|refine Ml.mk (g _) ?_|refine Mu.mk (es':=inc es7 M (nth h.X q).Addr) rfl ?_)
  ((conv=>whnf)
   refine CF (q+1,inc es7 M (nth h.X q).Addr,M++[(nth h.X q).Addr]) ⟨(by simp only;omega),rq g _,(by grind [X7])⟩ (by simp only;omega) ?_
   (exact wA))
 obtain rfl:q=h.X.length:=ω
 rw[C7]at O;have V:M=om h:=by rw[O,K,E,hL];rfl
 have hlv:=Pd p.1 r.1
 repeat'(first|refine gE ?_|refine CA (Al h.H h.S p r P) ?_)
 refine CH (ι:=Nat) (λn=>[(3,.F .box [.m es7]),(103,.F .one (aH .own (pK h.H h.S))),(104,.F .one [I ((pK h.H h.S).length)]),(105,.F .one [I ((n:Nat):Int)])]) (λn=>n<=(pK h.H h.S).length/\((pK h.H h.S).take n).all (λa=>decide ((om h).count a=1))=true) (λn=>(pK h.H h.S).length - n) (0) ?_ ψ λn hn=>?_
 ·exact wB
 obtain⟨hn,an⟩:=hn;by_cases ln:n<(pK h.H h.S).length
 ·have d:=ar ln
  rw[V]at g
  repeat'(first|refine gE ?_|with_reducible refine Bf.N (λu=>?_) (λu=>?_)|refine Ml.mk (g _) ?_)
  all_goals first
   |exact t (Ui (io d (Z0 ω)))
   | ((conv=>whnf);refine CF (n+1) ⟨ω,cO d an (O0 ω)⟩ ω ?_;(exact wB))
 refine ZE ?_
 exact I1 (λz=>[B z]) ((by grind [kx]))
set_option maxHeartbeats 8000000
def ko(h:ac):Bool:=(((((((aK h.K&&bI (gr h) h.a)&&bA h.H h.S)&&(pages0 h&&qj h))&&dL h)&&h.M.all bH)&&(gT h&&kx h))&&dU h)&&uB h
theorem gh(h:ac)(S:ac.sml h):zzA 23 false [.val (some 24) (ac.enc .O h)] .one [B (ko h)]:=by
 have G:=S;obtain⟨n,o,b,g,H,p,q,J,r⟩:=S;have u:x8 h:=n.1.2;have hpn:gr h<=1048576:=u.1;have K:h.X.length<=1048576:=H.1;have L:h.M.length<=1048576:=p.1;have hlb:h.e.V.length<=1048576:=q.1.1;have hlp:h.p.Y.W.length<=1048576:=r;have d:=sv h.K n;have e:=nI (gr h) h.a ω o;have i:=rY h.H h.S b g;have w:=wK h.e q;have M:=HJ h.q J;cases T:aK h.K<;>rw[T]at d
 ·refine fO 154 [] Tryz.func23 rfl ?_
  repeat'(first|refine gP ?_|with_reducible refine Bf.N (λa=>?_) (λa=>?_))
  all_goals first
   | exact I1 (λz=>[B z]) ((by unfold ko ;rw[T];simp))
   |(exfalso;omega)
 cases U:bI (gr h) h.a<;>rw[U]at e
 ·refine fO 154 [] Tryz.func23 rfl ?_
  repeat'(first|refine gP ?_|with_reducible refine Bf.N (λa=>?_) (λa=>?_))
  all_goals first
   | exact I1 (λz=>[B z]) ((by unfold ko ;rw[U];simp))
   |(exfalso;omega)
 cases F:bA h.H h.S<;>rw[F]at i
 ·refine fO 154 [] Tryz.func23 rfl ?_
  repeat'(first|refine gP ?_|with_reducible refine Bf.N (λa=>?_) (λa=>?_))
  all_goals first
   | exact I1 (λz=>[B z]) ((by unfold ko ;rw[F];simp))
   |(exfalso;omega)
 have j:=E8 h b g u o F;cases V:(pages0 h&&qj h)<;>rw[V]at j
 ·refine fO 154 [] Tryz.func23 rfl ?_
  repeat'(first|refine gP ?_|with_reducible refine Bf.N (λa=>?_) (λa=>?_))
  all_goals first
   | exact I1 (λz=>[B z]) ((by unfold ko ;rw[V];simp))
   |(exfalso;omega)
 cases O:dE h.e<;>rw[O]at w
 ·refine fO 154 [] Tryz.func23 rfl ?_
  repeat'(first|refine gP ?_|with_reducible refine Bf.N (λa=>?_) (λa=>?_))
  all_goals first
   | exact I1 (λz=>[B z]) ((by unfold ko dL;rw[O];simp))
   |(exfalso;omega)
 by_cases P:h.M.length=h.e.V.length;rotate_left
 ·refine fO 154 [] Tryz.func23 rfl ?_
  repeat'(first|refine gP ?_|with_reducible refine Bf.N (λa=>?_) (λa=>?_))
  all_goals first
   | exact I1 (λz=>[B z]) ((by unfold ko dL;rw[Z0 P];simp))
   |(exfalso;omega)
 cases W:jQ h.q<;>rw[W]at M
 ·refine fO 154 [] Tryz.func23 rfl ?_
  repeat'(first|refine gP ?_|with_reducible refine Bf.N (λa=>?_) (λa=>?_))
  all_goals first
   | exact I1 (λz=>[B z]) ((by unfold ko dL;rw[W];simp))
   |(exfalso;omega)
 have hmc:dL h=true:=by grind [dL]
 refine fO 154 [] Tryz.func23 rfl ?_
 repeat'(first|refine gB ?_|with_reducible refine Bf.N (λa=>?_) (λa=>?_))
 all_goals try(exfalso;omega)
 (conv=>whnf)
 refine CH (ι:=Nat) (λk=>[(1,.F .box (ac.enc .O h)),(57,.F .one (dv .O h.M)),(58,.F .one [I (h.M.length)]),(59,.F .one [I ((k:Nat):Int)])]) (λk=>k<=h.M.length/\(h.M.take k).all bH=true) (λk=>h.M.length - k) (0) ?_ ψ λk X=>?_
 ·exact wB
 obtain⟨X,Y⟩:=X;by_cases Z:k<h.M.length
 ·have Q:=ar Z
  have R:=uN (nth h.M k) (p.2 _ (aE Z));cases e8:bH (nth h.M k)<;>rw[e8]at R
  ·refine ZE ?_
   exact I1 (λz=>[B z]) ((by grind [ko]))
  refine ZE ?_
  (refine CF (k+1) ⟨ω,cO Q Y e8⟩ ω ?_;(exact wB))
 have hca:h.M.all bH=true:=oR ω Y;have l:=Gn h b g K L;have c10:=yv h G F O ψ;have c12:=z7 h.p r;have c13:=wx h h.p.Y.w b.1;have c14:=wx h h.p.Y.y b.1;cases e9:gT h<;>rw[e9]at l
 ·refine ZE ?_
  all_goals first
   | exact I1 (λz=>[B z]) ((by unfold ko;rw[e9];simp))
   |(exfalso;omega)
 cases e10:kx h<;>rw[e10]at c10
 ·refine ZE ?_
  all_goals first
   | exact I1 (λz=>[B z]) ((by unfold ko;rw[e10];simp))
   |(exfalso;omega)
 by_cases hn:dU h=true;rotate_left
 ·have y:dU h=false:=by simpa using hn
  have c:=y;unfold dU at c;rw[O6]at c
  repeat'(first|refine gE ?_|with_reducible refine Bf.D (λa=>?_) (λa=>?_)|refine CA (aO _ _ _) ?_|refine CA (qq _) ?_)
  all_goals first
   | exact I1 (λz=>[B z]) ((by unfold ko;rw[y];simp))
   |(exfalso;omega)
 have c:=hn;unfold dU at c;rw[C0]at c;have C:ko h=uB h:=by grind [ko]
 rw[C];unfold uB;cases em:h.j
 ·repeat'(first|refine gE ?_|with_reducible (first|refine Bf.D (λa=>?_) (λa=>?_)|refine Bf.E (λa=>?_) (λa=>?_))|refine CA (aO _ _ _) ?_|refine CA (qq _) ?_|refine Bf.f em ?_)
  all_goals first
   | exact I1 (λz=>[B z]) ((by unfold xa;simp only[Bool.false_eq_true,if_false];first|(symm;exact Z0 ω)|(rw[X6,beq_iff_eq,C0];omega)))
   |(exfalso;omega)
 cases e12:kg h.p<;>rw[e12]at c12
 all_goals
  repeat'(first|refine gE ?_|with_reducible (first|refine Bf.D (λa=>?_) (λa=>?_)|refine Bf.D (λa=>?_) (λa=>?_))|refine CA (aO _ _ _) ?_|refine CA (qq _) ?_|refine Bf.t em ?_)
  all_goals first
   | exact I1 (λz=>[B z]) (ψ)
   |(exfalso;omega)
def pc[Inhabited α]{xs:List α}{f:α->Int}(e:(xs.map f).Nodup)(b:i<xs.length)(c:j<xs.length)(h:f (nth xs i)=f (nth xs j)):i=j:=by
 have d:=List.pairwise_iff_getElem.1 e;rcases Nat.lt_trichotomy i j with a|rfl|a
 ·have:=d i j (by simpa using b) (by simpa using c) a
  simp only[List.getElem_map]at this;rw[b6 (X3 b),b6 (X3 c)]at h;exact absurd h this
 ·rfl
 have:=d j i (by simpa using c) (by simpa using b) a;simp only[List.getElem_map]at this;rw[b6 (X3 b),b6 (X3 c)]at h;omega
theorem bJ[Inhabited α]{xs:List α}{x:α}(h:x∈xs):∃i,i<xs.length/\nth xs i=x:=by
 obtain⟨i,a⟩:=List.mem_iff_getElem?.1 h
 grind [b6]
theorem tG:∀{H L:List Int},H.Nodup->(∀x∈H,x∈L)->L.length<=H.length->∀x∈L,x∈H
 | [],L,_,_,b,x,c=>by grind
 | y::H,L,d,f,b,x,c=>by
  have g:y∈L:=ψ
  have a:=List.nodup_cons.1 d;by_cases e:x=y
  ·grind
  refine O7 _ (tG (L:=L.erase y) a.2 (λz h=>?_) ?_ x ψ)
  all_goals grind
theorem Ns{H L:List Int}(b:L.Nodup)(c:∀x∈H,x∈L):(H.Nodup/\H.length=L.length)↔∀a∈L,H.count a=1:=by grind [tG,List.Perm.length_eq]
theorem hP : p∈lpgs l n↔∃k:Nat,k<n/\p=l.R+(k:Nat):=by grind [lpgs]
structure qd(sp:List au)(la:List aB):Prop where
 sok:∀s∈sp,bc s=true
 lok:∀l∈la,dz l=true
 nd:(sp.map (·.R)).Nodup
 dis:∀s∈sp,∀l∈la,∀k:Nat,k<l.a0.toNat->s.R≠l.R+(k:Nat)
 one:∀i j,i<la.length->j<la.length->∀k k':Nat,k<(nth la i).a0.toNat->k'<(nth la j).a0.toNat->(nth la i).R+(k:Nat)=(nth la j).R+(k':Nat)->i=j
theorem qd.of(h:bA sp la=true):qd sp la:=by
 obtain⟨B,C,d⟩:=fe h;unfold pgs at d;rw[List.nodup_append]at d;obtain⟨q,r,t⟩:=d;have u:=List.pairwise_flatMap.1 r;refine⟨ψ,ψ,q,λs D l w k c e=>?_,λi j f g k o c a e=>?_⟩
 ·exact t _ ψ _ (List.mem_flatMap.2 ⟨l,w,hP.2 ⟨k,c,rfl⟩⟩) e
 have p:=List.pairwise_iff_getElem.1 u.2;have y:=b6 (X3 f);have A:=b6 (X3 g);rw[y]at c e;rw[A]at a e;rcases Nat.lt_trichotomy i j with b|n|b
 ·exact absurd e (p i j f g b _ (hP.2 ⟨k,c,rfl⟩) _ (hP.2 ⟨o,a,rfl⟩))
 ·exact n
 exact absurd e.symm (p j i g f b _ (hP.2 ⟨o,a,rfl⟩) _ (hP.2 ⟨k,c,rfl⟩))
theorem gY(b:bc s=true):dG s a=true↔16*s.R<=a/\a<=16*s.R+15:=by grind [dG]
theorem iK(b:qd sp la)(c:i<sp.length)(h:16*(nth sp i).R<=a/\a<=16*(nth sp i).R+15):denotes sp la a=re i (nth sp i) a:=by
 refine pG c ((gY (b.sok _ (aE c))).2 h) λj z l k=>?_
 cases e:dG z a with
 | false=>rfl
 | true=>
  exfalso;have d:=(Y3.1 k).1;have n:=(gY (b.sok z ψ)).1 e;have g:=b6 k;subst g;have:=pc (f:=(·.R)) b.nd c d ω;omega
theorem Vl(b:qd sp la)(h:∀i,i<sp.length->¬(16*(nth sp i).R<=a/\a<=16*(nth sp i).R+15)):∀(j:Nat)(z:au),j<sp.length->sp[j]? = some z->dG z a=false:=by grind [gY,qd.sok,b6]
theorem QP(c:qd sp la)(a:Int):a∈live0 sp la↔a∈lh sp la:=by
 have G:a∈lh sp la↔∃n:Nat,n<512/\kF sp la n=true/\(n:Int)=a:=by grind [lh,ne]
 rw[G];unfold live0 fW;rw[C4,List.mem_flatMap,Y5];constructor
 ·rintro(⟨s,g,C⟩|⟨l,b,rfl⟩)
  ·obtain⟨i,d,rfl⟩:=bJ g
   unfold eM at C;obtain⟨k,H,rfl⟩:=Y5.1 C;obtain⟨h,J⟩:=Z5.1 H;have h:=List.mem_range.1 h;have o:=aP (c.sok _ g);have t:=Ef ⟨o.2.2.1,o.2.2.2⟩;have K:=uy (nth sp i).Z;unfold kh;have L:0<=(k:Int)*csz (nth sp i).Z/\(k:Int)*csz (nth sp i).Z<=15:=by grind [dN]
   have f:=iK c d (a:=16*(nth sp i).R+(k:Nat)*csz (nth sp i).Z) ω;have O:(16*(nth sp i).R+(k:Nat)*csz (nth sp i).Z - 16*(nth sp i).R) / csz (nth sp i).Z=(k:Nat)/\(16*(nth sp i).R+(k:Nat)*csz (nth sp i).Z - 16*(nth sp i).R) % csz (nth sp i).Z=0:=by grind [dN]
   refine⟨(16*(nth sp i).R+(k:Nat)*csz (nth sp i).Z).toNat,ω,?_,ω⟩
   grind [kF,re]
  obtain⟨i,d,rfl⟩:=bJ b;have P:=cf (c.lok _ b);have M:=eA (c.lok _ b);have u:=Vl c (a:=16*(nth la i).R) λj D Q=>c.dis _ (aE D) _ b 0 ω ω
  have E:bN (nth la i) (16*(nth la i).R)=true:=by grind [qd.lok,bN]
  have f:=nN (a:=16*(nth la i).R) (I4 _) u d E λj z D r=>by
   cases e:bN z (16*(nth la i).R) with
   | false=>rfl
   | true=>
    exfalso;have w:=(Y3.1 r).1;have p:=I3 r;have y:=b6 r;subst y;have N:=cf (c.lok _ p);have q:=c.lok _ p;unfold dz at q;rw[C0]at q;unfold bN at e;rw[I0,C0]at e;have:=c.one i j d w 0 ((nth la i).R - (nth la j).R).toNat ω ω ω;omega
  refine⟨(16*(nth la i).R).toNat,ω,?_,ω⟩
  grind [kF]
 rintro⟨n,R,b,rfl⟩
 cases u:sp.findIdx? (dG · (n:Nat)) with
 | some i=>
  obtain⟨d,A,-⟩:=C9.1 u;have B:=b6 (X3 d);rw[<-B]at A;have g:=c.sok _ (aE d);have F:=(gY g).1 A;have o:=aP g;have t:=Ef ⟨o.2.2.1,o.2.2.2⟩;have f:denotes sp la (n:Nat)=re i (nth sp i) (n:Nat):=by grind [denotes]
  rw[tV f]at b;simp only[I0,X8,C0]at b;simp only[re]at b;cases E:aX (nth sp i).r (((n:Int) - 16*(nth sp i).R) / csz (nth sp i).Z) with
  | false=>grind
  | true=>
   have r:((n:Int) - 16*(nth sp i).R) % csz (nth sp i).Z=0:=b.1;refine .inl ⟨nth sp i,aE d,?_⟩;unfold eM;refine Y5.2 ⟨(((n:Int) - 16*(nth sp i).R) / csz (nth sp i).Z).toNat,Z5.2 ⟨List.mem_range.2 ?_,?_⟩,?_⟩
   all_goals grind [dN,kh]
 | none=>
  cases F:la.findIdx? (bN · (n:Nat)) with
  | some i=>
   obtain⟨d,A,-⟩:=C9.1 F;have f:denotes sp la (n:Nat) = ⟨3,i,0,(n:Nat) - 16*(nth la i).R⟩:=by grind [denotes]
   rw[tV f]at b
   grind [aE]
  | none=>
   have f:denotes sp la (n:Nat) = ⟨0,0,0,0⟩:=by grind [denotes]
   rw[tV f]at b;simp at b
theorem xX(b:qd sp la)(c:(denotes sp la a).b3=0)(f:(denotes sp la a).a6=1\/(denotes sp la a).a6=3):a∈lh sp la:=by
 have l:0<=a/\a<512:=by
  unfold denotes at c f;cases g:sp.findIdx? (dG · a) with
  | some i=>
   obtain⟨d,j,-⟩:=C9.1 g;have h:=List.getElem_mem d;have e:=(gY (b.sok _ h)).1 j;have k:=aP (b.sok _ h);omega
  | none=>
   rw[g]at c f;cases e:la.findIdx? (bN · a) with
   | some i=>
    obtain⟨d,-⟩:=C9.1 e;rw[e]at c;have n:=cf (b.lok _ (aE d))
    grind
   | none=>grind
 have k:((a.toNat:Nat):Int)=a:=ω
 grind [lh,ne,kF]
theorem xn(sp:List au)(la:List aB):(lh sp la).Nodup:=by
 unfold lh ne List.Nodup;rw[List.pairwise_map]
 grind [List.Pairwise.imp,List.nodup_range]
theorem vk(b:qd h.H h.S){c:Int}(d:dy h a c=true):a∈lh h.H h.S:=by grind [xX,dy]
theorem PC(a:qd h.H h.S){o:bf}(b:lm h o=true):o.Addr∈lh h.H h.S:=by grind [xX,lm]
theorem KZ(h:ac)(a:Int):(om h).count a=(holders h).count a:=by grind [om,holders]
theorem rh(h:ac):jU h=true↔(h.M.all (fw h)=true/\h.q.u.all (iD h)=true)/\(bp h.e).all (lG h)=true:=by grind [jU]
theorem tZ(f:qd h.H h.S)(g:gT h=true)(j:jU h=true):∀a∈holders h,a∈lh h.H h.S:=by
 obtain⟨⟨n,p⟩,q⟩:=(rh h).1 j;intro a b;unfold holders at b;simp only[C4]at b;rcases b with((b|b)|b)|b
 ·obtain⟨o,d,rfl⟩:=Y5.1 b
  obtain⟨i,r,rfl⟩:=bJ d;have e:=fS g r
  grind [PC,md]
 ·unfold gj at b
  obtain⟨c,t,b⟩:=List.mem_flatMap.1 b;obtain⟨l,u,b⟩:=List.mem_flatten.1 b;obtain⟨k,w,rfl⟩:=bJ u;have e:=I5.1 n c t;unfold fw at e;have A:=I5.1 (show(nth c.T k).all _=true from fS e w) a b
  grind [vk]
 ·obtain⟨x,y,rfl⟩:=Y5.1 b
  exact vk f (I5.1 p x y)
 exact vk f (I5.1 q a b)
theorem Pp(b:bA h.H h.S=true)(c:gT h=true):(ni h&&kq h)=kx h:=by
 have d:=qd.of b;have e:(ni h=true/\h.q.u.all (iD h)=true)↔h.q.u.all (uD h)=true:=by grind [ni,uD]
 have f:kx h=true↔((h.M.all (fw h)=true/\h.q.u.all (uD h)=true)/\(bp h.e).all (lG h)=true)/\∀a∈lh h.H h.S,(holders h).count a=1:=by
  unfold kx;simp only[I0];refine and_congr Iff.rfl ?_;simp only[I5,C0,KZ]
  grind [List.mem_mergeSort,QP,pK,sorted]
 grind [rh,Ns,xn,tZ,kq]
theorem oo(s t:au):meshable s t=meshable t s:=by grind [meshable]
variable{f:Int}
theorem gf{p:Nat} : (p:Int)∈pagesOn t f↔p<t.J.length/\(nth t.J p).l≠0/\(nth t.J p).d=f:=by grind [pagesOn,lf,RS]
theorem wD{q:Int}(h:q∈pagesOn t f):∃p:Nat,q=(p:Nat):=by grind [pagesOn,lf]
theorem uT(a:pages0 h=true):(∀i,i<h.S.length->∀k:Nat,k<(nth h.S i).a0.toNat->(aQ h ((nth h.S i).R+(k:Nat))).length=1)/\(∀p∈pgs h.H h.S,p<gr h)/\∀p:Nat,p<gr h->((nth (tbl h).J p).l≠0↔(p:Int)∈pgs h.H h.S):=by grind [fS,pages0,uS,yF,x4]
theorem DE{p:Nat}(a:p<gr h):aC (tbl h) (p:Nat)=nth (tbl h).J p:=sC a
theorem g9{p:Nat}(a:p<gr h)(b:(nth (tbl h).J p).l≠0):aQ h (p:Nat)=pagesOn (tbl h) (nth (tbl h).J p).d:=by grind [DE,aQ,tbl]
theorem wj(g:qd h.H h.S)(c:j<h.H.length):ic h (nth h.H j).R=(j:Nat):=by
 unfold ic;refine gd (ar c) (by unfold nC;simp) λk z i d=>?_
 have a:=b6 d;have b:=(Y3.1 d).1;subst a;unfold nC;refine Z0 λe=>?_
 have:=pc (f:=(·.R)) g.nd b c e;omega
theorem vF(w:bA h.H h.S=true)(N:pages0 h=true):wW h=qj h:=by
 have E:=qd.of w;obtain⟨O,P,Q⟩:=uT N;have o:∀i,i<h.H.length->∃p:Nat,(nth h.H i).R=(p:Nat)/\p<gr h/\(nth (tbl h).J p).l≠0:=λi r=>by
  have Y:=aP (E.sok _ (aE r));have R:(nth h.H i).R∈pgs h.H h.S:=by grind [aE,pgs]
  have c:=P _ R;refine⟨(nth h.H i).R.toNat,ω,ω,?_⟩
  grind
 rw[X6];unfold wW qj;rw[cq,cq];constructor
 ·intro F i r
  rw[cq];intro j G;have y:j<h.H.length:=ω
  unfold ny;rw[X8,C0];by_cases d:(aC (tbl h) (nth h.H i).R).d=(aC (tbl h) (nth h.H j).R).d
  ·right
   obtain⟨p,e,a,f⟩:=o i r;obtain⟨q,A,b,g⟩:=o j y;have n:=I5.1 (F i r);rw[e,A,DE a,DE b]at d;have S:(q:Int)∈aQ h (nth h.H i).R:=by
    rw[e,g9 a f];exact gf.2 ⟨b,g,d.symm⟩
   have t:=n _ S;unfold nS at t;rw[<-A,wj E y]at t;rw[X8,I0,C0]at t;rcases t with t|t
   ·omega
   simpa using t.2
  exact .inl d
 intro B i r;rw[I5];intro q C;obtain⟨p,e,a,f⟩:=o i r;have T:=C;rw[e,g9 a f]at C;obtain⟨D,rfl⟩:=wD C;obtain⟨b,g,H⟩:=gf.1 C;have u:=(Q D b).1 g;unfold pgs at u;rw[C4,Y5,List.mem_flatMap]at u;rcases u with⟨s,F,J⟩|⟨l,U,K⟩
 ·obtain⟨j,G,rfl⟩:=bJ F
  unfold nS;rw[<-J,wj E G];rw[X8,I0,C0,C0];have d:(aC (tbl h) (nth h.H i).R).d=(aC (tbl h) (nth h.H j).R).d:=by grind [DE]
  rcases Nat.lt_trichotomy j i with c|V|c
  ·have n:=fS (B i r) c
   unfold ny at n
   simp_all
  ·omega
  have n:=fS (B j G) c;unfold ny at n;rw[X8,C0]at n;exact .inr ⟨ω,by rw[oo];simp_all⟩
 exfalso;obtain⟨W,L,rfl⟩:=bJ U;obtain⟨k,X,M⟩:=hP.1 K;have n:=O W L k X;rw[<-M,g9 b g]at n;have Z:(D:Int)∈pagesOn (tbl h) (nth (tbl h).J D).d:=ψ
 have m2:(p:Int)∈pagesOn (tbl h) (nth (tbl h).J D).d:=gf.2 ⟨a,f,H.symm⟩
 grind [List.length_eq_one_iff,qd.dis,aE]
theorem jd(h:ac):ko h=ec h:=by grind [vF,Pp,ko,ec,nl]
def ovl(y r:ay):Bool:=decide (y.At<r.At+r.o/\r.At<y.At+y.o)
def og(r:ay):List ay->Bool->Option (List ay)
 | [],put=>some (if put then [] else [r])
 | y::a,put=>if ovl y r then none else if !put&&decide (y.At > r.At) then(og r a true).map λt=>r::y::t else(og r a put).map λt=>y::t
def dk(out:List ay):List ay->List ay
 | []=>out
 | y::ys=>match out.getLast? with
  | some z=>if z.At+z.o=y.At then dk (out.dropLast++[⟨z.At,z.o+y.o⟩]) ys else dk (out++[y]) ys
  | none=>dk (out++[y]) ys
def jn:List ay->ay->List ay->Bool->Option (List ay)
 | [],r,out,done=>some (if done then out else out++[r])
 | y::ys,r,out,done=>
  if ovl y r then none
  else if y.At+y.o=r.At then jn ys ⟨y.At,y.o+r.o⟩ out done
  else if r.At+r.o=y.At then jn ys ⟨r.At,r.o+y.o⟩ out done
  else if y.At > r.At/\done=false then jn ys r (out++[r,y]) true
  else jn ys r (out++[y]) done
def jS(xs:List ay):Prop:=xs.Pairwise (λa b=>a.At+a.o<b.At)/\∀y∈xs,1<=y.o
theorem jS.tail{y:ay}{a:List ay}(h:jS (y::a)):jS a:=⟨(List.pairwise_cons.1 h.1).2,λz b=>h.2 z ψ⟩
theorem jS.head{y:ay}{a:List ay}(h:jS (y::a)):∀z∈a,y.At+y.o<z.At:=(List.pairwise_cons.1 h.1).1
theorem jK:∀(a out:List ay),jS a->(∀z,out.getLast? = some z->∀y∈a,z.At+z.o≠y.At)->dk out a=out++a
 | [],out,_,_=>by simp[dk]
 | y::a,out,d,e=>by
  have b:dk (out++[y]) a=out++y::a:=by
   rw[jK a (out++[y]) d.tail λz c w f=>by
     simp at c;subst c;have:=d.head w f;omega]
   simp
  unfold dk;split
  ·rename_i z c
   rw[CD (e z c y (C3 ..))];exact b
  exact b
theorem zM{r:ay} : ∀{a:List ay},jS a->(∀y∈a,r.At+r.o<=y.At)->og r a true=some a
 | [],_,_=>rfl
 | y::a,c,b=>by
  have e:=b y (C3 ..);unfold og;rw[CD (by unfold ovl;rw[C0];omega)];simp only[Bool.not_true,Bool.false_and,Bool.false_eq_true,if_false];rw[zM c.tail λz d=>b z (O7 _ d)]
  rfl
theorem xi{r:ay}(b:1<=r.o){a:List ay}(c:jS a)(d:∀y∈a,r.At+r.o<=y.At):og r a false=some (r::a):=by
 cases a with
 | nil=>rfl
 | cons y a=>
  grind [zM,jS.tail,og,ovl]
def rP{r:ay} : ∀{a out:List ay},jS a->1<=r.o->(∀y∈a,r.At+r.o<y.At)->jn a r out true=some (out++a)
 | [],out,_,_,_=>by simp[jn]
 | y::a,out,b,d,c=>by
  have f:=c y (C3 ..);have g:=b.2 y (C3 ..);unfold jn;rw[CD (by unfold ovl;rw[C0];omega),CD ω,CD ω,CD (by simp),rP b.tail d λz e=>c z (O7 _ e)];simp
theorem zG{r:ay}(c:1<=r.o){a out:List ay}(b:jS a)(d:∀y∈a,r.At+r.o<=y.At):jn a r out false=some (out++match a with|[]=>[r]|y::zs=>if r.At+r.o=y.At then⟨r.At,r.o+y.o⟩::zs else r::y::zs):=by
 cases a with
 | nil=>simp[jn]
 | cons y a=>
  have h:=d y ψ;have i:=b.2 y ψ;unfold jn;rw[CD (by grind [ovl]),CD ω];by_cases e:r.At+r.o=y.At
  ·rw[CG e]
   simp only[e,if_true];cases a with
   | nil=>simp[jn]
   | cons z a=>
    have j:=b.head z ψ;have k:=b.tail.2 z ψ;unfold jn;simp only;rw[CD (by grind [ovl]),CD ω,CD ω,CG (by simp;omega),rP b.tail.tail (by simp only;omega) λw f=>by
      have:=b.tail.head w f;simp only;omega]
    simp
  rw[CD e,CG (by simp;omega),rP b.tail c λz g=>by have:=b.head z g;omega];simp[e]
theorem D8{pages:Int} : ∀{a:List ay}{r:ay}{out:List ay},jS a->1<=r.o->(∀z,out.getLast? = some z->(∀y∈a,z.At+z.o<y.At)/\z.At+z.o<r.At)->(og r a false).map (dk out)=jn a r out false
 | [],r,out,_,g,q=>by
  show some (dk out [r])=some (out++[r]);rw[jK [r] out ⟨List.pairwise_singleton ..,λy u=>by rw[I2.1 u];exact g⟩ ψ]
 | y::a,r,out,c,g,q=>by
  have F:=c.2 y ψ;by_cases l:ovl y r=true
  ·grind [og,jn]
  ·have i:=l
   unfold ovl at i;rw[C0]at i;by_cases A:r.At+r.o<=y.At
   ·-- all to the right
    have b:∀w∈y::a,r.At+r.o<=w.At:=λw f=>by grind [jS.head]
    rw[xi g c b,zG g c b];show some (dk out (r::y::a))=_;have hfirst:dk out (r::y::a)=dk (out++[r]) (y::a):=by
     conv=>lhs;unfold dk
     grind
    rw[hfirst];by_cases e:r.At+r.o=y.At
    ·have:dk (out++[r]) (y::a)=dk (out++[⟨r.At,r.o+y.o⟩]) a:=by
      conv=>lhs;unfold dk
      simp[e]
     grind [jK,jS.tail,jS.head]
    grind [jK,jS.head]
   have B:y.At+y.o<=r.At:=ω
   have n:∀t,dk out (y::t)=dk (out++[y]) t:=λt=>by
    conv=>lhs;unfold dk
    grind [C3]
   have C:(og r (y::a) false).map (dk out)=(og r a false).map (dk (out++[y])):=by
    conv=>lhs;unfold og
    rw[CD l,CD (by simp;omega),Option.map_map]
    congr 1
    grind
   rw[C];unfold jn;rw[CD l];by_cases e:y.At+y.o=r.At
   ·rw[CG e]
    by_cases o:∃w,a.head? = some w/\ovl w r=true
    ·obtain⟨w,f,D⟩:=o
     cases a with
     | nil=>cases f
     | cons d h=>
      grind [ovl,og,jn]
    have b:∀w∈a,r.At+r.o<=w.At:=by
     cases a with
     | nil=>grind
     | cons d h=>
      have G:=c.head d ψ;have H:=c.tail.2 d ψ
      grind [jS.head,jS.tail,ovl]
    rw[xi g c.tail b,zG (r:=⟨y.At,y.o+r.o⟩) (by simp only;omega) c.tail ψ];show some (dk (out++[y]) (r::a))=_;have E:dk (out++[y]) (r::a)=dk (out++[⟨y.At,y.o+r.o⟩]) a:=by
     conv=>lhs;unfold dk
     simp[e]
    rw[E];cases a with
    | nil=>simp[dk]
    | cons d h=>
     by_cases j:y.At+(y.o+r.o)=d.At
     ·have p:dk (out++[⟨y.At,y.o+r.o⟩]) (d::h)=dk (out++[⟨y.At,y.o+r.o+d.o⟩]) h:=by
       conv=>lhs;unfold dk
       simp[j]
      rw[p,jK h _ c.tail.tail λz k w f=>by grind [jS.head,jS.tail]];simp[j]
     rw[jK (d::h) _ c.tail λz k w f=>by
       simp at k;subst k;simp only;rcases List.mem_cons.1 f with rfl|f
       · exact j
       have:=c.tail.head w f;have:=b d ψ;have:=c.tail.2 d ψ;omega]
     simp[j]
   rw[CD e,CD ω,CD ω];exact D8 (pages:=pages) c.tail g λz k=>by grind [jS.head]
def ix(k:af)(f:Int):af:=if(pagesOn k.G.Q f).length=0 then {k with G:=⟨⟨k.G.U.W.set f.toNat (List.replicate 16 0),k.G.U.c.set f.toNat false⟩,k.G.Q⟩} else k
def mM(k:af)(p:Int):af:={k with G:=⟨k.G.U,⟨k.G.Q.J.set p.toNat ⟨0,0⟩⟩⟩}
def cQ(k:af)(p:Int):af:=if(aC k.G.Q p).l=0 then k else ix (mM k p) (aC k.G.Q p).d
theorem eB[Inhabited α](xs:List α)(i j:Nat)(x:α):nth (xs.set i x) j=if i=j/\j<xs.length then x else nth xs j:=by grind [nth]
theorem rA(k:af)(f:Int):(ix k f).G.Q=k.G.Q/\(ix k f).Calls=k.Calls/\(ix k f).b=k.b/\(ix k f).G.U.W.length=k.G.U.W.length/\(ix k f).G.U.c.length=k.G.U.c.length:=by grind [ix]
theorem sU(k:af)(p:Int):(cQ k p).G.Q.J.length=k.G.Q.J.length/\(cQ k p).Calls=k.Calls/\(cQ k p).b=k.b:=by grind [rA,cQ,mM]
variable{k:af}
theorem aI : aK k=true↔(∀j,j<k.b.length->0<=nth k.b j)/\cK k.G.U=true/\gU k.G.Q k.G.U.c.length=true/\(∀j,j<k.G.U.c.length->nth k.G.U.c j=decide (0<(pagesOn k.G.Q (j:Int)).length))/\0<=k.Calls/\k.Calls<=100000/\k.b.length<=40:=by grind [cq,aK,dd,qm]
theorem bh{f:aF} : cK f=true↔1<=f.W.length/\f.W.length<=32/\f.c.length=f.W.length/\∀j,j<f.W.length->jh (nth f.W j) (nth f.c j)=true:=by
 unfold cK;simp only[I0,C0,I5,and_assoc];refine and_congr Iff.rfl (and_congr Iff.rfl (and_congr_right λb=>⟨λh j a=>?_,λh q c=>?_⟩))
 ·exact h _ (I3 (xV (ar a) (ar ω)))
 grind [List.mem_iff_getElem?,List.getElem?_zip_eq_some,b6]
theorem br : gU t a=true↔(∀j,j<t.J.length->mS a (nth t.J j)=true)/\1<=t.J.length/\t.J.length<=32:=by grind [cq,gU]
def fA : 0<(pagesOn t f).length↔∃q,q<t.J.length/\(nth t.J q).l≠0/\(nth t.J q).d=f:=by
 unfold pagesOn lf;rw[Z1,List.length_pos_iff_exists_mem];simp[RS]
theorem bY(h:aK k=true)(a:(aC k.G.Q p).l≠0):0<=p/\p<k.G.Q.J.length/\aC k.G.Q p=nth k.G.Q.J p.toNat/\0<=(aC k.G.Q p).d/\(aC k.G.Q p).d<k.G.U.c.length:=by
 obtain⟨-,-,b,-⟩:=aI.1 h
 grind [br,aC,mS]
theorem A5(p:Int)(h:aK k=true):aK (cQ k p)=true:=by
 unfold cQ;split
 ·exact h
 rename_i r;obtain⟨C,D,E,i,l⟩:=bY h r;obtain⟨t,u,F,w,y,A,B⟩:=aI.1 h;obtain⟨G,H,J,L⟩:=bh.1 u;obtain⟨M,N,O⟩:=br.1 F;rw[E]at r i l |-;generalize K:(nth k.G.Q.J p.toNat).d=f at i l;have b:∀q,nth (k.G.Q.J.set p.toNat ⟨0,0⟩) q=if p.toNat=q then⟨0,0⟩ else nth k.G.Q.J q:=λq=>by grind [eB]
 have c:∀j:Int,0<(pagesOn (⟨k.G.Q.J.set p.toNat ⟨0,0⟩⟩ : aG) j).length↔∃q,q<k.G.Q.J.length/\q≠p.toNat/\(nth k.G.Q.J q).l≠0/\(nth k.G.Q.J q).d=j:=λj=>by
  rw[fA];simp only[O2,b]
  grind
 have d:∀j:Int,0<(pagesOn k.G.Q j).length↔∃q,q<k.G.Q.J.length/\(nth k.G.Q.J q).l≠0/\(nth k.G.Q.J q).d=j:=λj=>fA
 have g:gU ⟨k.G.Q.J.set p.toNat ⟨0,0⟩⟩ k.G.U.c.length=true:=by
  rw[br];simp only[O2,b]
  grind [mS]
 unfold ix;split
 ·rename_i o
  rw[aI];simp only[mM,O2]at o |-;refine⟨t,?_,g,λj n=>?_,y,A,B⟩
  ·rw[bh]
   simp only[O2,eB];refine⟨G,H,J,λj n=>?_⟩;by_cases a:f.toNat=j
   ·rw[CG ⟨a,n⟩,CG ⟨a,ω⟩];decide
   grind
  rw[eB];by_cases a:f.toNat=j
  ·grind
  rw[CD (λe=>a e.1),w j n];refine decide_eq_decide.2 ?_;rw[d,c]
  grind
 rename_i o;rw[aI];simp only[mM]at o |-;refine⟨t,u,g,λj n=>?_,y,A,B⟩;rw[w j n];refine decide_eq_decide.2 ?_;by_cases a:f=j
 ·grind
 rw[d,c];grind
def bS(h:aK k=true):af.sml k:=by
 obtain⟨g,b,c,i,l,n,o⟩:=aI.1 h;obtain⟨p,q,t,d⟩:=bh.1 b;obtain⟨u,w,y⟩:=br.1 c;refine⟨⟨⟨⟨ω,λr f=>?_⟩,(by omega:_<=1048576)⟩,⟨ω,λe _=>trivial⟩⟩,(by omega:_<=1048576)⟩;obtain⟨j,a⟩:=List.mem_iff_getElem?.1 f;have:=d j (Y3.1 a).1;rw[b6 a]at this;unfold jh at this;simp only[I0,C0]at this;show r.length<=1048576;omega
variable{K:List (List C)->Prop}{sz by_:Nat}
theorem Ap.cp{e:α->List C}{xs:List α}(d:∀x,(e x).length=sz)(f:∀x,bm (e x)=true)(a:xs.length<=1048576)(b:by_<=1000)(c:K (xs.map e)):Ap true [] (xs.map e) sz by_ K:=
 CS ψ ψ ψ (by simp;omega) (by simp only[Z1,List.length_nil,z9];exact v8 a b) rfl c
def CT:type_of% @Ap.cp:=@Ap.cp
theorem Fl.cp{e:α->List C}{xs:List α}{X:Prop}(d:∀x,(e x).length=sz)(f:∀x,bm (e x)=true)(a:xs.length<=1048576)(b:by_<=1000)(c:X):Fl (xs.map e) sz by_ X:=
 Fl.mk ψ (by simp;omega) (by simp only[Z1];exact v8 a b) c
variable{rows:List (List C)}
theorem Ap.sn{a:List (List C)}{r:List C}(b:∀r∈rows,r.length=sz)(g:r.length=sz)(c:rows.length+1<=1048576)(d:by_<=1000)(e:a=rows++[r])(f:K a):Ap false rows [r] sz by_ K:=
 CS b ψ ψ (by simp;omega) (v8 (by simpa using c) d) e f
def gy(xs:List Int)(a:xs.length<=1048576):zzA 196 false [.val none (aH .O xs)] .one (aH .own xs):=by
 refine fO 6 [] Tryz.func196 rfl ?_ (.inr (bM _))
 repeat'(first|refine gP ?_|refine CT (λ_=>rfl) (λ_=>rfl) a (by decide) ?_)
 rfl
def E9(t:aG)(a:aG.sml t):zzA 468 false [.val (some 1) (aG.enc .O t)] .agg (aG.enc .own t):=by
 have b:=a.1;refine fO 8 [] Tryz.func468 rfl ?_ (.inr (aG.enc_fr _))
 repeat'(first|refine gP ?_|refine CT (λ_=>rfl) (λ_=>rfl) b (by decide) ?_)
 rfl
def Ag(t:aG)(a:aG.sml t):zzA 347 false [.val (some 1) (aG.enc .O t)] .agg (aG.enc .own t):=by
 have b:=a.1;refine fO 8 [] Tryz.func347 rfl ?_ (.inr (aG.enc_fr _))
 repeat'(first|refine gP ?_|refine CT (λ_=>rfl) (λ_=>rfl) b (by decide) ?_)
 rfl
theorem aW{e:α->List C}{l:List α}(h:∀x,(e x).length=n):∀r∈l.map e,r.length=n:=(ψ)
theorem g0{β:Type}[Inhabited α]{xs:List α}{f:α->β}(a:i<xs.length):(xs.take (i+1)).map f=(xs.take i).map f++[f (nth xs i)]:=by grind [X7,ar]
def Fa(f:aF)(a:aF.sml f):zzA 467 false [.val (some 2) (aF.enc .O f)] .agg (aF.enc .own f):=by
 have g:=a.1.1;have d:f.c.length<=1048576:=a.2;refine fO 30 [(5,10,[17,18,19,20,21,22,23,24,25,26])] Tryz.func467 rfl ?_ (.inr (aF.enc_fr _))
 repeat'(first|refine gP ?_|refine CT (λ_=>rfl) (λ_=>rfl) d (by decide) ?_)
 refine CH (ι:=Nat) (λi=>[(1,.F .box (aF.enc .O f)),(2,.F .box [.z,.z]),(3,.F .box [.s .own ((f.W.take i).map (aH .own)),.s .own (f.c.map (rB .own))]),(4,.F .one [I ((i:Nat):Int)])]) (λi=>i<=f.W.length) (λi=>f.W.length - i) (0) ?_ (C1 _) λi h=>?_
 ·exact wB
 by_cases b:i<f.W.length
 ·have e:=ar b
  have c:(nth f.W i).length<=1048576:=a.1.2 _ (aE b)
  repeat'(first|refine gE ?_|refine Fl.cp (λ_=>rfl) (λ_=>rfl) c (by decide) ?_|refine Ap.sn (aW λ_=>rfl) rfl (by simp;omega) (by decide) (g0 b) ?_)
  (refine CF (i+1) ω ω ?_;(exact wB))
 refine ZE ?_
 obtain rfl:i=f.W.length:=ω
 rw[C7]
 rfl
def pT(f:aF)(a:aF.sml f):zzA 346 false [.val (some 2) (aF.enc .O f)] .agg (aF.enc .own f):=by
 have g:=a.1.1;have d:f.c.length<=1048576:=a.2;refine fO 27 [(5,5,[18,19,20,21,22])] Tryz.func346 rfl ?_ (.inr (aF.enc_fr _))
 repeat'(first|refine gP ?_|refine CT (λ_=>rfl) (λ_=>rfl) d (by decide) ?_)
 refine CH (ι:=Nat) (λi=>[(2,.F .box [.z,.z]),(3,.F .box [.s .own ((f.W.take i).map (aH .own)),.s .own (f.c.map (rB .own))]),(12,.F .one (dX .O f.W)),(13,.F .one [I (f.W.length)]),(14,.F .one [I ((i:Nat):Int)])]) (λi=>i<=f.W.length) (λi=>f.W.length - i) (0) ?_ (C1 _) λi h=>?_
 ·exact wB
 by_cases b:i<f.W.length
 ·have e:=ar b
  have c:(nth f.W i).length<=1048576:=a.1.2 _ (aE b)
  repeat'(first|refine gE ?_|refine CA (gy (nth f.W i) c) ?_|refine Ap.sn (aW λ_=>rfl) rfl (by simp;omega) (by decide) (g0 b) ?_)
  (refine CF (i+1) ω ω ?_;(exact wB))
 refine ZE ?_
 obtain rfl:i=f.W.length:=ω
 rw[C7]
 rfl
def uQ(m:aD)(a:aD.sml m):zzA 349 false [.val (some 3) (aD.enc .O m)] .agg (aD.enc .own m):=by
 refine fO 10 [(1,5,[3,4,5,6,7])] Tryz.func349 rfl ?_ (.inr (aD.enc_fr _))
 repeat'(first|refine gP ?_|refine CA (Fa m.U a.1) ?_|refine CA (E9 m.Q a.2) ?_)
 rfl
def o8(m:aD)(a:aD.sml m):zzA 195 false [.val (some 3) (aD.enc .O m)] .agg (aD.enc .own m):=by
 refine fO 10 [(1,5,[3,4,5,6,7])] Tryz.func195 rfl ?_ (.inr (aD.enc_fr _))
 repeat'(first|refine gP ?_|refine CA (pT m.U a.1) ?_|refine CA (Ag m.Q a.2) ?_)
 rfl
def Ek(k:af)(a:af.sml k):zzA 203 false [.val (some 5) (af.enc .O k)] .agg (af.enc .own k):=by
 have b:k.b.length<=1048576:=a.2;refine fO 13 [(1,9,[3,4,5,6,7,8,9,10,11])] Tryz.func203 rfl ?_ (.inr (CY _))
 repeat'(first|refine gP ?_|refine CA (uQ k.G a.1) ?_|refine Fl.cp (λ_=>rfl) (λ_=>rfl) b (by decide) ?_)
 rfl
def gn(k:af)(a:af.sml k):zzA 68 false [.val (some 5) (af.enc .O k)] .agg (af.enc .own k):=by
 refine fO 12 [(1,8,[3,4,5,6,7,8,9,10])] Tryz.func68 rfl ?_ (.inr (CY _))
 repeat'(first|refine gP ?_|refine CA (o8 k.G a.1) ?_|refine CA (gy k.b a.2) ?_)
 rfl
def eS(k:af)(p:Int)(a:aG.sml k.G.Q):zzA 485 false [.ptr (af.enc .O k),.val none [I p]] .one [I (aC k.G.Q p).l]:=by
 refine fO 13 [] Tryz.func485 rfl ?_
 repeat'(first|refine gP ?_|refine CA (fZ k.G.Q p a) ?_)
 rfl
def HK(k:af)(b:af.sml k):zzA 277 false [.val (some 5) (af.enc .O k)] .one [B (aK k&&decide (k.Calls<100000))]:=by
 have a:=sN k b;cases e:aK k<;>rw[e]at a
 ·refine fO 10 [] Tryz.func277 rfl ?_
  repeat'(first|refine gP ?_|with_reducible refine Bf.D (λc=>?_) (λc=>?_))
  all_goals rfl
 refine fO 10 [] Tryz.func277 rfl ?_
 refine ZP ?_
 all_goals rfl
def ir(k:af)(b:af.sml k):zzA 197 false [.val (some 5) (af.enc .O k)] .one [B (decide (k.Calls≠100000)&&aK k)]:=by
 have c:=sv k b;refine fO 10 [] Tryz.func197 rfl ?_
 repeat'(first|refine gP ?_|with_reducible (first|refine Bf.N (λa=>?_) (λa=>?_)|refine Bf.D (λa=>?_) (λa=>?_)))
 all_goals(exact I1 (λz=>[B z]) ((by simp[*])))
theorem wi(h:(pagesOn k.G.Q f).length=0):af.enc .own (ix k f)=[.s .own ((k.G.U.W.map (aH .own)).set f.toNat (aH .own (List.replicate 16 0))),.s .own ((k.G.U.c.map (rB .own)).set f.toNat (rB .own false)),.s .own (k.G.Q.J.map (aN.enc .own)),I k.Calls,.s .own (k.b.map (rI .own))]:=by grind [S8,ix,af.enc]
theorem zq(h:¬(pagesOn k.G.Q f).length=0):af.enc .own (ix k f)=af.enc .own k:=by grind [ix]
def uH(k:af)(f:Int)(a:aG.sml k.G.Q)(b:0<=f/\f<k.G.U.W.length/\f<k.G.U.c.length) :
  zzB 486 false [.ptr (af.enc .own k),.val none [I f]] [.ptr (af.enc .own (ix k f)),.val none [I f]] (.tup []) []:=by
 have c:=ar (xs:=k.G.U.W) (i:=f.toNat) ω;have d:=ar (xs:=k.G.U.c) (i:=f.toNat) ω;by_cases e:(pagesOn k.G.Q f).length=0
 ·rw[wi e]
  refine fM 30 [] [(2,8,[21,22,23,24,25,26,27,28])] [(0,0),(0,0)] Tryz.func486 rfl (λu q=>?_) (.inr trivial)
  repeat'(first|refine gB ?_|with_reducible (first|refine CM b.1 (aa d) ?_|refine CM b.1 (aa c) ?_)|refine CJ (iu k.G.Q f a) ⟨⟨rfl,aG.enc_fz k.G.Q⟩,⟨rfl,rfl⟩,trivial⟩ ?_|refine CN rfl rfl (aa c) rfl (C2 rfl) rfl ?_|refine CN rfl rfl (aa d) rfl (C2 rfl) rfl ?_|refine Mk.mk 16 rfl rfl (by decide) (by decide) rfl ?_)
  refine CL rfl rfl ?_;exact wB
 rw[zq e];refine fM 30 [] [(2,8,[21,22,23,24,25,26,27,28])] [(0,0),(0,0)] Tryz.func486 rfl (λu q=>?_) (.inr trivial)
 repeat'(first|refine gB ?_|refine CJ (iu k.G.Q f a) ⟨⟨rfl,aG.enc_fz k.G.Q⟩,⟨rfl,rfl⟩,trivial⟩ ?_)
 refine CL rfl rfl ?_;exact wB
def ue(k:af)(f:Int)(a:aG.sml k.G.Q)(b:0<=f/\f<k.G.U.W.length/\f<k.G.U.c.length) :
  zzB 198 false [.ptr (af.enc .own k),.val none [I f]] [.ptr (af.enc .own (ix k f)),.val none [I f]] (.tup []) []:=by
 have c:=ar (xs:=k.G.U.W) (i:=f.toNat) ω;have d:=ar (xs:=k.G.U.c) (i:=f.toNat) ω;by_cases e:(pagesOn k.G.Q f).length=0
 ·rw[wi e]
  refine fM 30 [] [(2,8,[21,22,23,24,25,26,27,28])] [(0,0),(0,0)] Tryz.func198 rfl (λu q=>?_) (.inr trivial)
  repeat'(first|refine gB ?_|with_reducible (first|refine CM b.1 (aa d) ?_|refine CM b.1 (aa c) ?_)|refine CJ (lA k.G.Q f a) ⟨⟨rfl,aG.enc_fz k.G.Q⟩,⟨rfl,rfl⟩,trivial⟩ ?_|refine CN rfl rfl (aa c) rfl (C2 rfl) rfl ?_|refine CN rfl rfl (aa d) rfl (C2 rfl) rfl ?_|refine Mk.mk 16 rfl rfl (by decide) (by decide) rfl ?_)
  refine CL rfl rfl ?_;exact wB
 rw[zq e];refine fM 30 [] [(2,8,[21,22,23,24,25,26,27,28])] [(0,0),(0,0)] Tryz.func198 rfl (λu q=>?_) (.inr trivial)
 repeat'(first|refine gB ?_|refine CJ (lA k.G.Q f a) ⟨⟨rfl,aG.enc_fz k.G.Q⟩,⟨rfl,rfl⟩,trivial⟩ ?_)
 refine CL rfl rfl ?_;exact wB
theorem zh(k:af)(p:Int):af.enc .own (mM k p)=[.s .own (k.G.U.W.map (aH .own)),.s .own (k.G.U.c.map (rB .own)),.s .own ((k.G.Q.J.map (aN.enc .own)).set p.toNat (aN.enc .own ⟨0,0⟩)),I k.Calls,.s .own (k.b.map (rI .own))]:=by grind [S8,mM,af.enc]
theorem Ax(h:aK k=true):aG.sml (mM k p).G.Q:=by
 obtain⟨a,b,c⟩:=br.1 (aI.1 h).2.2.1;exact⟨by grind [mM],λ_ _=>trivial⟩
theorem RQ(k:af)(p:Int)(b:aK k=true) :
  zzB 374 false [.ptr (af.enc .own k),.val none [I p]] [.ptr (af.enc .own (cQ k p)),.val none [I p]] .one [B (decide ((aC k.G.Q p).l≠0))]:=by
 have j:=bS b;have c:=eS k p j.1.2;by_cases a:(aC k.G.Q p).l=0
 ·rw[show cQ k p=k by unfold cQ;rw[CG a]]
  refine fM 32 [(486,[2,0])] [] [(0,0),(0,0)] Tryz.func374 rfl (λu q=>?_)
  repeat'(first|refine gB ?_|refine CJ (c) ⟨CW k,⟨rfl,rfl⟩,trivial⟩ ?_)
  refine CL rfl ?_ ?_
  ·exact I1 (λz=>[B z]) ((by simp[a]))
  exact wB
 obtain⟨l,r,n,d,o⟩:=bY b a;have h:=(bh.1 (aI.1 b).2.1).2.2.1;rw[show cQ k p=ix (mM k p) (aC k.G.Q p).d by unfold cQ;rw[CD a]];have e:=uH (mM k p) (aC k.G.Q p).d (Ax b) ⟨d,by grind [mM],by grind [mM]⟩;rw[zh]at e;have g:=ar (xs:=k.G.Q.J) (i:=p.toNat) ω;rw[n]at c e a |-;refine fM 32 [(486,[2,0])] [] [(0,0),(0,0)] Tryz.func374 rfl (λu q=>?_)
 repeat'(first|refine gB ?_|with_reducible refine CM l (aa g) ?_|refine CJ (c) ⟨CW k,⟨rfl,rfl⟩,trivial⟩ ?_|refine CN rfl rfl (aa g) rfl (C2 rfl) rfl ?_)
 refine CL rfl ?_ ?_
 ·exact I1 (λz=>[B z]) ((by simp[a]))
 exact wB
theorem qC(k:af)(p:Int)(a:aK k=true)(o:k.Calls≠100000) :
  zzA 69 false [.val (some 5) (af.enc .O k),.val none [I p]] (.tup [some 5,none]) (af.enc .own (cQ k p)++[B (decide ((aC k.G.Q p).l≠0))]):=by
 have d:=bS a;have l:=gn k d;have e:=ir k d;have c:=eU k p d.1.2;rw[a,O0 o]at e;by_cases b:(aC k.G.Q p).l=0
 ·rw[show cQ k p=k by unfold cQ;rw[CG b]]
  rw[Z0 (by simpa using b)]at c |-;refine fP 38 [(198,[2,0])] [] Tryz.func69 rfl ?_ (.inr (aJ (CY k) ⟨trivial,trivial⟩))
  refine ZP ?_
  all_goals rfl
 obtain⟨q,u,r,g,t⟩:=bY a b;have n:=(bh.1 (aI.1 a).2.1).2.2.1;rw[show cQ k p=ix (mM k p) (aC k.G.Q p).d by unfold cQ;rw[CD b]];have h:=ue (mM k p) (aC k.G.Q p).d (Ax a) ⟨g,by grind [mM],by grind [mM]⟩;rw[zh]at h;have j:=ar (xs:=k.G.Q.J) (i:=p.toNat) ω;rw[O0 b]at c |-;rw[r]at h |-;refine fP 38 [(198,[2,0])] [] Tryz.func69 rfl ?_ (.inr (aJ (CY _) ⟨trivial,trivial⟩))
 repeat'(first|refine gP ?_|with_reducible refine CM q (aa j) ?_|refine CN rfl rfl (aa j) rfl (C2 rfl) rfl ?_)
 all_goals rfl
def Pj(n:Nat):aF:=⟨List.replicate n (List.replicate 16 0),List.replicate n false⟩
def Rk(n:Nat):aG:=⟨List.replicate n ⟨0,0⟩⟩
def Pk(p f:Nat)(a:List Int):af:=⟨⟨Pj f,Rk p⟩,0,a⟩
def HO:ax:=⟨List.replicate 4 []⟩
def Ts(n:Nat):aM:=⟨List.replicate n [],List.replicate n []⟩
def Tg(p f t:Nat)(lim:Int)(a:List Int):ac:=⟨Pk p f a,[⟨0,p⟩],[],[],[],List.replicate t HO,Ts t,⟨16,[]⟩,0,0,lim,1,false,⟨⟨0,0,[]⟩,0,0⟩⟩
theorem Ks(w:World)(q:Nat)(a:Array Obj):bC NO w (Sort.grow (w.drewN q) a):=by
 have c:∀b,b<w.heap.size->(Sort.grow (w.drewN q) a).heap[b]? = w.heap[b]?:=λb c=>Sort.heap_grow_old (w.drewN q) a c
 refine⟨rfl,rfl,rfl,ψ,λb h _=>c b h,λb o h _=>?_,λb o h _=>?_⟩
 all_goals grind [Go.World.cell?,Go.World.frozen?,mp]
theorem Ph(c:Nat)(W:World):Calls Tryz.prog 455 #[.slice none 0 c] W λe g=>∃B q h,e=.returned (.slice B 0 0)/\g=Sort.grow (W.drewN q) h:=by
 have q22:∀(w:World)(a:Option Addr)(n c b d:Nat),(binOp .eql 33 (.slice a n c) (.slice none b d)).run Tryz.prog w=.ok (.bool a.isNone) w:=λw a n c b d=>Lib.run_eql_slice_nil w _ _ a n c b d Tryz.underlying33
 go_enter Tryz.func455,Tryz.ntmps455
 go_wp2
 go_ret
 exact⟨none,0,#[],rfl,by simp[Sort.grow,World.drewN]⟩
theorem Ls(a:Addr)(c:Nat)(W:World):Calls Tryz.prog 455 #[.slice (some a) 0 c] W λe g=>∃B q h,e=.returned (.slice B 0 0)/\g=Sort.grow (W.drewN q) h:=by
 have q22:∀(w:World)(a:Option Addr)(n c b d:Nat),(binOp .eql 33 (.slice a n c) (.slice none b d)).run Tryz.prog w=.ok (.bool a.isNone) w:=λw a n c b d=>Lib.run_eql_slice_nil w _ _ a n c b d Tryz.underlying33
 go_enter Tryz.func455,Tryz.ntmps455
 go_wp2
 go_ret
 exact⟨some ⟨W.heap.size,0,none⟩,0,#[.cells #[] 3],rfl,by rw[Sort.alloc_eq_grow];rfl⟩
theorem KX(xs:List Int)(o:xs.length<=1048576):zzA 455 false [.val none (aH .O xs)] .one (aH .own xs):=by
 by_cases c:xs=[]
 ·subst c
  refine⟨⟨_,Tryz.func455,by kernel_rfl,by kernel_rfl⟩,λw S p t d=>?_⟩
  match p,d with
  | [v],⟨d,_⟩=>
   have b:=bw.rep1 (show bw w S NO none [C.s .O []] v from d);obtain⟨l,g,rfl⟩:=b.slice;have r:Calls Tryz.prog 455 #[.slice l 0 g] w λe n=>∃B q i,e=.returned (.slice B 0 0)/\n=Sort.grow (w.drewN q) i:=by
    cases l with
    | none=>grind [Ph]
    | some a=>grind [Ls]
   refine r.mono λe n ⟨B,q,i,c,j⟩=>?_
   subst j;exact⟨.slice B 0 0,c,Ks w q i,NO,NO,λ_ _ h=>h.elim,λ_ _ h=>h.elim,λ_ _ h=>h.elim,rfl,row1 (.nil _ .own B trivial)⟩
 have k:xs.map (rI .O)≠[]:=by simp_all
 refine fO 8 [] Tryz.func455 rfl ?_ (.inr (bM _))
 repeat'(first|refine gP ?_|refine Nn.mk k ?_|refine CT (λ_=>rfl) (λ_=>rfl) o (by decide) ?_)
 rfl
def sr(p:aV)(a:aV.sml p):zzA 332 false [.val (some 3) (aV.enc .O p)] .agg (aV.enc .own p):=by
 have b:p.W.length<=1048576:=a;refine fO 8 [] Tryz.func332 rfl ?_ (.inr (aV.enc_fr _))
 repeat'(first|refine gP ?_|refine CA (KX p.W b) ?_)
 rfl
def tT(j:bk)(a:bk.sml j):zzA 185 false [.val (some 5) (bk.enc .O j)] .agg (bk.enc .own j):=by
 refine fO 8 [] Tryz.func185 rfl ?_ (.inr (bk.enc_fr _))
 repeat'(first|refine gP ?_|refine CA (sr j.Y a) ?_)
 rfl
def pI(c:ax)(d:ax.sml c):zzA 204 false [.val (some 1) (ax.enc .O c)] .agg (ax.enc .own c):=by
 have g:=d.1;refine fO 26 [(5,10,[13,14,15,16,17,18,19,20,21,22])] Tryz.func204 rfl ?_ (.inr (Cc _))
 refine ZP ?_
 refine CH (ι:=Nat) (λi=>[(1,.F .box (ax.enc .O c)),(2,.F .box [.z]),(3,.F .box [.s .own ((c.T.take i).map (aH .own))]),(4,.F .one [I ((i:Nat):Int)])]) (λi=>i<=c.T.length) (λi=>c.T.length - i) (0) ?_ (C1 _) λi h=>?_
 ·exact wB
 by_cases a:i<c.T.length
 ·have e:=ar a
  have b:(nth c.T i).length<=1048576:=d.2 _ (aE a)
  repeat'(first|refine gE ?_|refine Fl.cp (λ_=>rfl) (λ_=>rfl) b (by decide) ?_|refine Ap.sn (aW λ_=>rfl) rfl (by simp;omega) (by decide) (g0 a) ?_)
  (refine CF (i+1) ω ω ?_;(exact wB))
 refine ZE ?_
 obtain rfl:i=c.T.length:=ω
 rw[C7]
 rfl
def me(c:ax)(d:ax.sml c):zzA 182 false [.val (some 1) (ax.enc .O c)] .agg (ax.enc .own c):=by
 have g:=d.1;refine fO 23 [(5,5,[14,15,16,17,18])] Tryz.func182 rfl ?_ (.inr (Cc _))
 refine ZP ?_
 refine CH (ι:=Nat) (λi=>[(2,.F .box [.z]),(3,.F .box [.s .own ((c.T.take i).map (aH .own))]),(8,.F .one (dX .O c.T)),(9,.F .one [I (c.T.length)]),(10,.F .one [I ((i:Nat):Int)])]) (λi=>i<=c.T.length) (λi=>c.T.length - i) (0) ?_ (C1 _) λi h=>?_
 ·exact wB
 by_cases a:i<c.T.length
 ·have e:=ar a
  have b:(nth c.T i).length<=1048576:=d.2 _ (aE a)
  repeat'(first|refine gE ?_|refine CA (gy (nth c.T i) b) ?_|refine Ap.sn (aW λ_=>rfl) rfl (by simp;omega) (by decide) (g0 a) ?_)
  (refine CF (i+1) ω ω ?_;(exact wB))
 refine ZE ?_
 obtain rfl:i=c.T.length:=ω
 rw[C7]
 rfl
def En(m:aM)(b:aM.sml m):zzA 205 false [.val (some 2) (aM.enc .O m)] .agg (aM.enc .own m):=by
 have h:=b.1.1;have g:=b.2.1;refine fO 46 [(5,10,[14,15,16,17,18,19,20,21,22,23]),(9,10,[33,34,35,36,37,38,39,40,41,42])] Tryz.func205 rfl ?_ (.inr (aM.enc_fr _))
 refine ZP ?_
 refine CH (ι:=Nat) (λi=>[(1,.F .box (aM.enc .O m)),(2,.F .box [.z,.z]),(3,.F .box [.s .own ((m.V.take i).map (bK .own)),.z]),(4,.F .one [I ((i:Nat):Int)])]) (λi=>i<=m.V.length) (λi=>m.V.length - i) (0) ?_ (C1 _) λi j=>?_
 ·exact wB
 by_cases c:i<m.V.length
 ·have d:=ar c
  have a:(nth m.V i).length<=1048576:=(b.1.2 _ (aE c)).1
  repeat'(first|refine gE ?_|refine Fl.cp (λ_=>rfl) (λ_=>rfl) a (by decide) ?_|refine Ap.sn (aW λ_=>rfl) rfl (by simp;omega) (by decide) (g0 c) ?_)
  (refine CF (i+1) ω ω ?_;(exact wB))
 obtain rfl:i=m.V.length:=ω
 rw[C7]
 refine ZE ?_
 refine CH (ι:=Nat) (λk=>[(1,.F .box (aM.enc .O m)),(2,.F .box [.z,.z]),(3,.F .box [.s .own (m.V.map (bK .own)),.s .own ((m.k.take k).map (aH .own))]),(5,.F .one [I ((k:Nat):Int)])]) (λk=>k<=m.k.length) (λk=>m.k.length - k) (0) ?_ (C1 _) λk l=>?_
 ·exact wB
 by_cases e:k<m.k.length
 ·have d:=ar e
  have a:(nth m.k k).length<=1048576:=b.2.2 _ (aE e)
  repeat'(first|refine gE ?_|refine Fl.cp (λ_=>rfl) (λ_=>rfl) a (by decide) ?_|refine Ap.sn (aW λ_=>rfl) rfl (by simp;omega) (by decide) (g0 e) ?_)
  (refine CF (k+1) ω ω ?_;(exact wB))
 refine ZE ?_
 obtain rfl:k=m.k.length:=ω
 rw[C7]
 rfl
def Bx(m:aM)(b:aM.sml m):zzA 183 false [.val (some 2) (aM.enc .O m)] .agg (aM.enc .own m):=by
 have h:=b.1.1;have g:=b.2.1;refine fO 41 [(5,6,[16,17,18,19,20,21]),(10,5,[32,33,34,35,36])] Tryz.func183 rfl ?_ (.inr (aM.enc_fr _))
 refine ZP ?_
 refine CH (ι:=Nat) (λi=>[(1,.F .box (aM.enc .O m)),(2,.F .box [.z,.z]),(3,.F .box [.s .own ((m.V.take i).map (bK .own)),.z]),(10,.F .one (dZ .O m.V)),(11,.F .one [I (m.V.length)]),(12,.F .one [I ((i:Nat):Int)])]) (λi=>i<=m.V.length) (λi=>m.V.length - i) (0) ?_ (C1 _) λi j=>?_
 ·exact wB
 by_cases c:i<m.V.length
 ·have d:=ar c
  have a:(nth m.V i).length<=1048576:=(b.1.2 _ (aE c)).1
  repeat'(first|refine gE ?_|refine Fl.cp (λ_=>rfl) (λ_=>rfl) a (by decide) ?_|refine Ap.sn (aW λ_=>rfl) rfl (by simp;omega) (by decide) (g0 c) ?_)
  (refine CF (i+1) ω ω ?_;(exact wB))
 obtain rfl:i=m.V.length:=ω
 rw[C7]
 refine ZE ?_
 refine CH (ι:=Nat) (λk=>[(2,.F .box [.z,.z]),(3,.F .box [.s .own (m.V.map (bK .own)),.s .own ((m.k.take k).map (aH .own))]),(26,.F .one (dX .O m.k)),(27,.F .one [I (m.k.length)]),(28,.F .one [I ((k:Nat):Int)])]) (λk=>k<=m.k.length) (λk=>m.k.length - k) (0) ?_ (C1 _) λk l=>?_
 ·exact wB
 by_cases e:k<m.k.length
 ·have d:=ar e
  have a:(nth m.k k).length<=1048576:=b.2.2 _ (aE e)
  repeat'(first|refine gE ?_|refine CA (gy (nth m.k k) a) ?_|refine Ap.sn (aW λ_=>rfl) rfl (by simp;omega) (by decide) (g0 e) ?_)
  (refine CF (k+1) ω ω ?_;(exact wB))
 refine ZE ?_
 obtain rfl:k=m.k.length:=ω
 rw[C7]
 rfl
def FB(q:aZ)(b:aZ.sml q):zzA 206 false [.val (some 2) (aZ.enc .O q)] .agg (aZ.enc .own q):=by
 have a:q.u.length<=1048576:=b.1;refine fO 10 [(1,6,[3,4,5,6,7,8])] Tryz.func206 rfl ?_ (.inr (aZ.enc_fr _))
 repeat'(first|refine gP ?_|refine Fl.cp (λ_=>rfl) (λ_=>rfl) a (by decide) ?_|refine CT (λ_=>rfl) (λ_=>rfl) a (by decide) ?_)
 rfl
def BR(q:aZ)(b:aZ.sml q):zzA 184 false [.val (some 2) (aZ.enc .O q)] .agg (aZ.enc .own q):=by
 have a:q.u.length<=1048576:=b.1;refine fO 10 [(1,6,[3,4,5,6,7,8])] Tryz.func184 rfl ?_ (.inr (aZ.enc_fr _))
 repeat'(first|refine gP ?_|refine Fl.cp (λ_=>rfl) (λ_=>rfl) a (by decide) ?_|refine CT (λ_=>rfl) (λ_=>rfl) a (by decide) ?_)
 rfl
def uA(j:bk)(a:bk.sml j):zzA 207 false [.val (some 5) (bk.enc .O j)] .agg (bk.enc .own j):=by
 have b:j.Y.W.length<=1048576:=a;refine fO 11 [] Tryz.func207 rfl ?_ (.inr (bk.enc_fr _))
 repeat'(first|refine gP ?_|refine CT (λ_=>rfl) (λ_=>rfl) b (by decide) ?_)
 rfl
def kR(xs:List ay)(a:dD xs):zzA 181 false [.val none (aU .O xs)] .one (aU .own xs):=by
 have b:=a.1;refine fO 6 [] Tryz.func181 rfl ?_ (.inr (hC _))
 repeat'(first|refine gP ?_|refine CT (λ_=>rfl) (λ_=>rfl) b (by decide) ?_)
 rfl
def VP(h:ac)(a:C):List C:=[.s .own (h.K.G.U.W.map (aH .own)),.s .own (h.K.G.U.c.map (rB .own)),.s .own (h.K.G.Q.J.map (aN.enc .own)),I h.K.Calls,.s .own (h.K.b.map (rI .own)),.s .own (h.a.map (ay.enc .own)),.s .own (h.H.map (au.enc .own)),.s .own (h.S.map (aB.enc .own)),.s .own (h.X.map (bf.enc .own)),a,.s .O (h.e.V.map (bK .O)),.s .O (h.e.k.map (aH .O)),I h.q.b1,.s .O (h.q.u.map (aL.enc .O)),I h.a4,I h.a5,I h.a9,I h.g,B h.j,I h.p.Y.w,I h.p.Y.y,.s .O (h.p.Y.W.map (rI .O)),I h.p.a1,I h.p.g]
def uP:List C:=[.z,.z,.z,I 0,.z,.z,.z,.z,.z,.z,.z,.z,I 0,.z,I 0,I 0,I 0,I 0,B false,I 0,I 0,.z,I 0,I 0]
def lD(h:ac)(c:ac.sml h):zzA 72 false [.val (some 24) (ac.enc .O h)] .agg (ac.enc .own h):=by
 obtain⟨d,e,g,j,k,b,l,n,o⟩:=c;have p:=e.1;have q:=g.1;have r:=j.1;have t:=k.1;have w:=b.1;refine fO 61 [] Tryz.func72 rfl ?_ (.inr (Cb _))
 repeat'(first|refine gP ?_|refine CA (Ek h.K d) ?_|refine CT (λ_=>rfl) (λ_=>rfl) p (by decide) ?_|refine CT (λ_=>rfl) (λ_=>rfl) q (by decide) ?_|refine CT (λ_=>rfl) (λ_=>rfl) r (by decide) ?_|refine CT (λ_=>rfl) (λ_=>rfl) t (by decide) ?_)
 refine CH (ι:=Nat) (λi=>[(1,.F .box (VP h (.s .O (h.M.map (ax.enc .O))))),(2,.F .box uP),(3,.F .one ([.s .own ((h.M.take i).map (ax.enc .own))])),(4,.F .one [I ((i:Nat):Int)])]) (λi=>i<=h.M.length) (λi=>h.M.length - i) (0) ?_ (C1 _) λi y=>?_
 ·exact wB
 by_cases a:i<h.M.length
 ·have u:=ar a
  repeat'(first|refine gE ?_|refine CA (pI (nth h.M i) (b.2 _ (aE a))) ?_|refine Ap.sn (aW λ_=>rfl) rfl (by simp;omega) (by decide) (g0 a) ?_)
  (refine CF (i+1) ω ω ?_;(exact wB))
 obtain rfl:i=h.M.length:=ω
 rw[C7]
 repeat'(first|refine gE ?_|refine CA (En h.e l) ?_|refine CA (FB h.q n) ?_|refine CA (uA h.p o) ?_)
 rfl
def nu(h:ac)(c:ac.sml h):zzA 62 false [.val (some 24) (ac.enc .O h)] .agg (ac.enc .own h):=by
 obtain⟨d,e,g,j,k,b,l,n,o⟩:=c;have p:=g.1;have q:=j.1;have r:=k.1;have u:=b.1;refine fO 59 [(11,5,[38,39,40,41,42])] Tryz.func62 rfl ?_ (.inr (Cb _))
 repeat'(first|refine gP ?_|refine CA (gn h.K d) ?_|refine CA (kR h.a e) ?_|refine CT (λ_=>rfl) (λ_=>rfl) p (by decide) ?_|refine CT (λ_=>rfl) (λ_=>rfl) q (by decide) ?_|refine CT (λ_=>rfl) (λ_=>rfl) r (by decide) ?_)
 refine CH (ι:=Nat) (λi=>[(1,.F .box (ac.enc .O h)),(2,.F .box uP),(3,.F .box (VP h (.s .own ((h.M.take i).map (ax.enc .own))))),(32,.F .one (dv .O h.M)),(33,.F .one [I (h.M.length)]),(34,.F .one [I ((i:Nat):Int)])]) (λi=>i<=h.M.length) (λi=>h.M.length - i) (0) ?_ (C1 _) λi w=>?_
 ·exact wB
 by_cases a:i<h.M.length
 ·have t:=ar a
  repeat'(first|refine gE ?_|refine CA (me (nth h.M i) (b.2 _ (aE a))) ?_|refine Ap.sn (aW λ_=>rfl) rfl (by simp;omega) (by decide) (g0 a) ?_)
  (refine CF (i+1) ω ω ?_;(exact wB))
 obtain rfl:i=h.M.length:=ω
 rw[C7]
 repeat'(first|refine gE ?_|refine CA (Bx h.e l) ?_|refine CA (BR h.q n) ?_|refine CA (tT h.p o) ?_)
 rfl
theorem Ap.sm{a:List (List C)}{r:List C}(b:∀r∈rows,r.length=sz)(f:r.length=sz)(g:rows.length+1<=1073741824)(c:by_<=1000)(d:a=rows++[r])(e:K a):Ap false rows [r] sz by_ K:=
 CS b ψ ψ (by simp;omega) (Y6 (Nat.mul_le_mul ω c) (by decide)) d e
theorem Ap.s2{c:List (List C)}{a b:List C}(d:∀r∈rows,r.length=sz)(h:a.length=sz)(i:b.length=sz)(j:rows.length+2<=1073741824)(e:by_<=1000)(f:c=rows++[a,b])(g:K c):Ap false rows [a,b] sz by_ K:=
 CS d ψ ψ (by simp;omega) (Y6 (Nat.mul_le_mul ω e) (by decide)) f g
def vE(y:ay)(a:List ay)(r:ay)(out:List ay)(done:Bool):jn (y::a) r out done=if ovl y r then none
  else if y.At+y.o=r.At then jn a ⟨y.At,y.o+r.o⟩ out done
  else if r.At+r.o=y.At then jn a ⟨r.At,r.o+y.o⟩ out done
  else if y.At > r.At/\done=false then jn a r (out++[r,y]) true
  else jn a r (out++[y]) done:=by rw[jn]
variable{xs:List ay}{pages:Int}
theorem tO(h:bI pages xs=true):jS xs/\∀y∈xs,0<=y.At/\1<=y.o/\y.At+y.o<=pages:=by
 unfold bI at h;simp only[I0,C0]at h;have d:∀i,i<xs.length->1<=(nth xs i).o/\0<=(nth xs i).At/\(nth xs i).At<=pages - (nth xs i).o:=λi a=>by grind [fS,gQ,rangeIn]
 have e:∀i,i+1<xs.length->(nth xs i).At+(nth xs i).o<(nth xs (i+1)).At:=λi a=>by grind [fS,gQ]
 have f:∀j i,i<j->j<xs.length->(nth xs i).At+(nth xs i).o<(nth xs j).At:=λj=>by
  induction j with
  | zero=>intro i a;omega
  | succ j k=>
   grind
 refine⟨⟨?_,λy g=>?_⟩,λy g=>?_⟩
 ·rw[List.pairwise_iff_getElem]
  intro i j a c b;have:=f j i b c
  rwa [b6 (X3 a),b6 (X3 c)]at this
 all_goals grind [bJ]
theorem nZ[Inhabited α]{xs:List α}(a:i<xs.length):xs.drop i=nth xs i::xs.drop (i+1):=by
 rw[List.drop_eq_getElem_cons a,b6 (X3 a)]
def cS(pages:Int)(xs:List ay)(r:ay):Option (List ay):=if bI pages xs=true/\rangeIn pages r=true then jn xs r [] false else none
def Fg(xs:List ay)(o:Option (List ay)):List C:=aU .own (o.getD xs)++[B o.isSome]
def lM(xs:List ay)(o:Option (List ay)):gk (Fg xs o):=aJ (hC _) ⟨trivial,trivial⟩
theorem Bz(pages:Int)(xs:List ay)(r:ay)(w:0<=pages/\pages<=1048576)(l:dD xs):zzA 254 false [.val none [I pages],.val none (aU .O xs),.val (some 2) (ay.enc .O r)] (.tup [none,none]) (Fg xs (cS pages xs r)):=by
 have L:=l.1;have j:=nI pages xs w l;have n:=Au pages r w;have o:=kR xs l;cases k:bI pages xs<;>rw[k]at j
 ·rw[show cS pages xs r=none by unfold cS;rw[CD (by rw[k];simp)]]
  refine fO 111 [] Tryz.func254 rfl ?_ (.inr (lM _ _))
  refine ZP ?_
  rfl
 cases p:rangeIn pages r<;>rw[p]at n
 ·rw[show cS pages xs r=none by unfold cS;rw[CD (by rw[p];simp)]]
  refine fO 111 [] Tryz.func254 rfl ?_ (.inr (lM _ _))
  refine ZP ?_
  rfl
 rw[show cS pages xs r=jn xs r [] false by unfold cS;rw[CG ⟨k,p⟩]];obtain⟨M,G⟩:=tO k;have H:0<=r.At/\1<=r.o/\r.At+r.o<=pages:=by grind [rangeIn]
 refine fO 111 [] Tryz.func254 rfl ?_ (.inr (lM _ _))
 refine ZP ?_
 refine CH (ι:=Nat × ay × List ay × Bool) (λq=>[(1,.F .one (aU .O xs)),(5,.F .box (ay.enc .O q.2.1)),(8,.F .one (aU .own q.2.2.1)),(9,.F .one [B (q.2.2.2)]),(25,.F .one (aU .O xs)),(26,.F .one [I (xs.length)]),(27,.F .one [I ((q.1:Nat):Int)])]) (λq=>q.1<=xs.length/\jn (xs.drop q.1) q.2.1 q.2.2.1 q.2.2.2=jn xs r [] false/\(0<=q.2.1.At/\1<=q.2.1.o/\q.2.1.At+q.2.1.o<=pages)/\q.2.2.1.length<=2*q.1) (λq=>xs.length - q.1) ((0,r,[],false)) ?_ (⟨C1 _,rfl,H,C1 _⟩) λq c=>?_
 ·exact wB
 obtain⟨i,d,out,done⟩:=q;obtain⟨J,b,e,t⟩:=c;simp only at J b e t |-;by_cases u:i<xs.length
 ·have g:=ar u
  have N:=G _ (aE u);rw[nZ u]at b;by_cases h:ovl (nth xs i) d=true
  ·rw[<-b]
   rw[vE,CG h];unfold ovl at h;rw[C0]at h
   repeat'(first|refine gE ?_|with_reducible refine Bf.D (λc=>?_) (λc=>?_))
   rfl
  have a:=b;rw[vE,CD h]at a;unfold ovl at h;rw[C0]at h;by_cases y:(nth xs i).At+(nth xs i).o=d.At
  ·rw[CG y]at a
   repeat'(first|refine gB ?_|with_reducible refine Bf.D (λc=>?_) (λc=>?_))
   (refine CF (i+1,⟨(nth xs i).At,(nth xs i).o+d.o⟩,out,done) ⟨(by simp only;omega),a,(by simp only;omega),(by simp only;omega)⟩ (by simp only;omega) ?_;(exact wB))
  rw[CD y]at a;by_cases F:d.At+d.o=(nth xs i).At
  ·rw[CG F]at a
   repeat'(first|refine gB ?_|with_reducible (first|refine Bf.D (λc=>?_) (λc=>?_)|refine Bf.E (λc=>?_) (λc=>?_)))
   (refine CF (i+1,⟨d.At,d.o+(nth xs i).o⟩,out,done) ⟨(by simp only;omega),a,(by simp only;omega),(by simp only;omega)⟩ (by simp only;omega) ?_;(exact wB))
  rw[CD F]at a;by_cases K:(nth xs i).At > d.At
  ·cases done with
   | false=>
    rw[CG ⟨K,rfl⟩]at a
    repeat'(first|refine gB ?_|with_reducible (first|refine Bf.D (λc=>?_) (λc=>?_)|refine Bf.E (λc=>?_) (λc=>?_))|refine Ap.s2 (aW λ_=>rfl) rfl rfl (by simp;omega) (by decide) rfl ?_)
    ((conv=>whnf)
     refine CF (i+1,d,out++[d,nth xs i],true) ⟨(by simp only;omega),a,e,(by simp;omega)⟩ (by simp only;omega) ?_
     (repeat'(first|exact trivial|rfl|exact CC rfl (CC (I1 (C.s dY.own) (by simp[ay.enc])) trivial)|refine CC ?_ ?_)))
   | true=>
    rw[CD (by simp)]at a
    repeat'(first|refine gB ?_|with_reducible (first|refine Bf.D (λc=>?_) (λc=>?_)|refine Bf.E (λc=>?_) (λc=>?_))|refine Ap.sm (aW λ_=>rfl) rfl (by simp;omega) (by decide) rfl ?_)
    ((conv=>whnf)
     refine CF (i+1,d,out++[nth xs i],true) ⟨(by simp only;omega),a,e,(by simp;omega)⟩ (by simp only;omega) ?_
     (repeat'(first|exact trivial|rfl|exact CC rfl (CC (I1 (C.s dY.own) (by simp[ay.enc])) trivial)|refine CC ?_ ?_)))
  rw[CD ω]at a
  repeat'(first|refine gB ?_|with_reducible (first|refine Bf.D (λc=>?_) (λc=>?_)|refine Bf.E (λc=>?_) (λc=>?_))|refine Ap.sm (aW λ_=>rfl) rfl (by simp;omega) (by decide) rfl ?_)
  ((conv=>whnf)
   refine CF (i+1,d,out++[nth xs i],done) ⟨(by simp only;omega),a,e,(by simp;omega)⟩ (by simp only;omega) ?_
   (repeat'(first|exact trivial|rfl|exact CC rfl (CC (I1 (C.s dY.own) (by simp[ay.enc])) trivial)|refine CC ?_ ?_)))
 obtain rfl:i=xs.length:=ω
 rw[List.drop_length]at b;cases done with
 | false=>
  rw[<-b]
  repeat'(first|refine gE ?_|refine Ap.sm (aW λ_=>rfl) rfl (by simp;omega) (by decide) rfl ?_)
  show [C.s dY.own _,B true]=[C.s dY.own _,B true]
  grind [jn,ay.enc]
 | true=>
  rw[<-b]
  refine ZE ?_
  rfl
theorem xR[Inhabited α](R:Int->Int->Prop)(n:∀a b c,R a b->R b c->R a c)(f:α->Int)(xs:List α):(∀i,i<xs.length->i=0\/R (f (nth xs (i - 1))) (f (nth xs i)))↔xs.Pairwise (λa b=>R (f a) (f b)):=by
 constructor
 ·intro h
  have l:∀j i,i<j->j<xs.length->R (f (nth xs i)) (f (nth xs j)):=λj=>by
   induction j with
   | zero=>intro i d;omega
   | succ j o=>
    grind
  rw[List.pairwise_iff_getElem];intro i j d k g;have:=l j i g k
  rwa [b6 (X3 d),b6 (X3 k)]at this
 intro h i d;by_cases e:i=0
 ·exact .inl e
 right
 have:=List.pairwise_iff_getElem.1 h (i - 1) i ω d ω
 rwa [<-b6 (X3 (show i - 1<xs.length by omega)),<-b6 (X3 d)]at this
theorem D5[Inhabited α](f:α->Int)(xs:List α):(∀i,i<xs.length->∀o∈xs.take i,f o≠f (nth xs i))↔(xs.map f).Nodup:=by
 unfold List.Nodup;rw[List.pairwise_map,List.pairwise_iff_getElem];constructor
 ·intro h i j b a c
  have:=h j a xs[i] (List.mem_take_iff_getElem.2 ψ)
  rwa [b6 (X3 a)]at this
 intro h i b o d;obtain⟨j,a,rfl⟩:=List.mem_take_iff_getElem.1 d;rw[b6 (X3 b)]
 grind
def ik(s:au)(a:Int):Prop:=16*s.R<=a/\a<=16*s.R+15/\(a - 16*s.R) % csz s.Z=0/\aX s.r ((a - 16*s.R) / csz s.Z)=true
def lr(sp:List au)(a c:Int):Prop:=∃s∈sp,ik s a/\(c<0\/s.Z=c)
def Xv(la:List aB)(a z:Int):Prop:=∃l∈la,a=16*l.R/\l.a3=z
def Q7(sp:List au)(la:List aB)(o:bf):Prop:=(∃s∈sp,ik s o.Addr/\s.Z=bQ o.a3)\/Xv la o.Addr o.a3
def sY(sp:List au)(la:List aB)(a:Int):Prop:=lr sp a (-1)\/∃l∈la,a=16*l.R
theorem oy(f:qd sp la)(a:Int):(∃i,i<sp.length/\(16*(nth sp i).R<=a/\a<=16*(nth sp i).R+15)/\denotes sp la a=re i (nth sp i) a)\/((∀s∈sp,¬(16*s.R<=a/\a<=16*s.R+15))/\((∃i,i<la.length/\bN (nth la i) a=true/\denotes sp la a = ⟨3,i,0,a - 16*(nth la i).R⟩)\/((∀l∈la,bN l a=false)/\denotes sp la a = ⟨0,0,0,0⟩))):=by
 cases d:sp.findIdx? (dG · a) with
 | some i=>
  obtain⟨b,c,-⟩:=C9.1 d;rw[<-b6 (X3 b)]at c
  grind [gY,qd.sok,aE,denotes]
 | none=>
  have g:=List.findIdx?_eq_none_iff.1 d;refine .inr ⟨λs h j=>?_,?_⟩
  ·grind [gY,qd.sok]
  cases e:la.findIdx? (bN · a) with
  | some i=>
   obtain⟨b,c,-⟩:=C9.1 e;rw[<-b6 (X3 b)]at c
   grind [denotes]
  | none=>grind [denotes]
theorem RI(l:qd h.H h.S){c:Int} : dy h a c=true↔lr h.H a c:=by
 unfold dy;simp only[I0,X8,C0];constructor
 ·rintro⟨⟨b,f⟩,d⟩
  rcases oy l a with⟨i,j,k,g⟩|⟨-,⟨i,j,-,g⟩|⟨-,g⟩⟩
  ·rw[g]at b f d
   simp only[re]at b f d;refine⟨_,aE j,⟨k.1,k.2,f,?_⟩,by simpa using d⟩;cases e:aX (nth h.H i).r ((a - 16*(nth h.H i).R) / csz (nth h.H i).Z) with
   | true=>rfl
   | false=>rw[e]at b;simp at b
  all_goals grind
 rintro⟨s,n,⟨o,p,q,r⟩,d⟩
 grind [bJ,iK,re]
theorem FK(a:qd sp la)(c:l∈la):(∀s∈sp,¬(16*s.R<=16*l.R/\16*l.R<=16*s.R+15))/\bN l (16*l.R)=true/\∀i,i<la.length->bN (nth la i) (16*l.R)=true->nth la i=l:=by
 have k:=cf (a.lok _ c);have f:=eA (a.lok _ c);refine⟨λs g n=>?_,?_,λi d e=>?_⟩
 ·exact a.dis s g l c 0 ω ω
 ·grind [qd.lok,bN]
 obtain⟨j,h,rfl⟩:=bJ c;have o:=cf (a.lok _ (aE d));have b:=a.lok _ (aE d);unfold dz at b;rw[C0]at b;unfold bN at e;rw[I0,C0]at e;rw[a.one i j d h ((nth la j).R - (nth la i).R).toNat 0 ω ω ω]
theorem Ry(f:qd h.H h.S){o:bf} : lm h o=true↔Q7 h.H h.S o:=by
 unfold lm;simp only[I0,X8,C0];constructor
 ·rintro⟨b,a⟩
  rcases oy f o.Addr with⟨i,d,g,c⟩|⟨-,⟨i,d,-,c⟩|⟨-,c⟩⟩
  ·rw[c]at a b
   simp only[re]at a b;have e:aX (nth h.H i).r ((o.Addr - 16*(nth h.H i).R) / csz (nth h.H i).Z)=true:=ψ
   rw[e]at a;exact .inl ⟨_,aE d,⟨g.1,g.2,b,e⟩,by simpa using a⟩
  ·rw[c]at a b
   simp only at a b;exact .inr ⟨_,aE d,ω,by simpa using a⟩
  grind
 rintro(⟨s,e,⟨k,n,p,q⟩,r⟩|⟨l,j,t,u⟩)
 ·grind [bJ,iK,re]
 obtain⟨w,y,A⟩:=FK f j
 grind [oy,aE]
theorem Hm(j:qd sp la)(a:Int):a∈lh sp la↔sY sp la a:=by
 constructor
 ·intro h
  unfold lh ne at h;obtain⟨n,o,rfl⟩:=Y5.1 h;have c:=(Z5.1 o).2;unfold kF at c;simp only[I0,X8,C0]at c;obtain⟨b,d⟩:=c;rcases oy j (n:Int) with⟨i,g,k,f⟩|⟨-,⟨i,g,-,f⟩|⟨-,f⟩⟩
  ·rw[f]at d b
   simp only[re]at d b;refine .inl ⟨_,aE g,⟨k.1,k.2,b,?_⟩,.inl ω⟩;cases e:aX (nth sp i).r (((n:Int) - 16*(nth sp i).R) / csz (nth sp i).Z) with
   | true=>rfl
   | false=>rw[e]at d;simp at d
  ·rw[f]at b
   simp only at b;exact .inr ⟨_,aE g,ω⟩
  grind
 rintro(⟨s,q,⟨r,c,t,u⟩,-⟩|⟨l,p,rfl⟩)
 ·grind [bJ,iK,xX,re]
 obtain⟨w,y,A⟩:=FK j p
 grind [oy,aE,xX]
def RH(xs:List ay)(p:Int):Prop:=∃r∈xs,r.At<=p/\p<r.At+r.o
theorem ig : bI pages xs=true↔jS xs/\(∀y∈xs,0<=y.At/\1<=y.o/\y.At+y.o<=pages)/\1<=pages/\pages<=32:=by
 constructor
 ·grind [tO,bI]
 rintro⟨b,c,d⟩
 unfold bI;simp only[I0,C0];refine⟨cq.2 λi a=>?_,d⟩;have f:=c _ (aE a);unfold gQ rangeIn;simp only[I0,C0];refine⟨ω,?_⟩;by_cases e:i=0
 ·exact .inl e
 right
 have:=List.pairwise_iff_getElem.1 b.1 (i - 1) i ω a ω
 rwa [<-b6 (X3 (show i - 1<xs.length by omega)),<-b6 (X3 a)]at this
theorem Jf(h:bI pages xs=true)(p:Int):xs.any (xB p)=true↔RH xs p:=by
 obtain⟨-,c,d⟩:=ig.1 h;rw[C5];refine⟨λ⟨r,a,b⟩=>⟨r,a,?_⟩,λ⟨r,a,b⟩=>⟨r,a,?_⟩⟩
 all_goals grind [gV,xB]
theorem xZ(i:Int):∀(f:List ay)(r:ay)(out:List ay),jS f->1<=r.o->(∀y∈f,ovl y r=false)->(∀z∈out,z.At+z.o<r.At/\∀y∈f,z.At+z.o<y.At)->jS out->(∀y∈r::(out++f),0<=y.At/\y.At+y.o<=i)->∃o,jn f r out false=some o/\jS o/\(∀y∈o,0<=y.At/\y.At+y.o<=i)/\∀p,RH o p↔RH out p\/RH f p\/(r.At<=p/\p<r.At+r.o)
 | [],r,out,_,l,_,D,g,j=>by
  refine⟨out++[r],by simp[jn],⟨List.pairwise_append.2 ⟨g.1,List.pairwise_singleton ..,ψ⟩,λy k=>?_⟩,ψ,λp=>by grind [RH]⟩;rcases C4.1 k with k|k
  ·exact g.2 y k
  grind
 | y::f,r,out,c,l,E,D,g,j=>by
  have M:=c.2 y ψ;have h:=E y ψ;have F:=c.head;have G:=j y (by simp);have H:=j r (by simp);have J:∀w∈f,¬(w.At<r.At+r.o/\r.At<w.At+w.o):=λw d=>by grind [ovl]
  have K:∀w∈f,1<=w.o:=λw d=>c.2 w ψ
  rw[vE,CD (by rw[h];simp)];unfold ovl at h;rw[O6]at h;by_cases n:y.At+y.o=r.At
  ·rw[CG n]
   obtain⟨o,q,t,u,A⟩:=xZ i f ⟨y.At,y.o+r.o⟩ out c.tail (by simp only;omega) (λw d=>by grind [ovl]) ψ g ψ
   grind [RH]
  rw[CD n];by_cases B:r.At+r.o=y.At
  ·rw[CG B]
   obtain⟨o,q,t,u,A⟩:=xZ i f ⟨r.At,r.o+y.o⟩ out c.tail (by simp only;omega) (λw d=>by grind [ovl]) ψ g ψ
   grind [RH]
  rw[CD B];by_cases C:y.At > r.At
  ·have L:r.At+r.o<y.At:=ω
   rw[CG ⟨C,rfl⟩,rP c.tail l ψ];refine⟨_,rfl,⟨?_,λw d=>?_⟩,ψ,λp=>by grind [RH]⟩
   ·rw[Y7]
    refine List.pairwise_append.2 ⟨g.1,?_,λa N b j=>?_⟩
    ·show(r::y::f).Pairwise _
     refine List.pairwise_cons.2 ⟨λw d=>?_,c.1⟩
     grind
    grind
   simp only[C4,List.mem_cons,List.not_mem_nil,or_false]at d;rcases d with(d|rfl|rfl)|d
   ·exact g.2 w d
   all_goals grind
  rw[CD λe=>C e.1];obtain⟨o,q,t,u,A⟩:=xZ i f r (out++[y]) c.tail l ψ ψ ⟨List.pairwise_append.2 ⟨g.1,List.pairwise_singleton ..,ψ⟩,λw d=>by
      rcases C4.1 d with d|d
      · exact g.2 w d
      grind⟩ ψ
  grind [RH]
theorem HI{r:ay}(h:bI pages xs=true)(i:0<=r.At/\1<=r.o/\r.At+r.o<=pages)(c:∀p,r.At<=p->p<r.At+r.o->¬RH xs p):∃o,cS pages xs r=some o/\bI pages o=true/\∀p,RH o p↔RH xs p\/(r.At<=p/\p<r.At+r.o):=by
 obtain⟨j,k,l⟩:=ig.1 h;have b:rangeIn pages r=true:=by grind [rangeIn]
 unfold cS;rw[CG ⟨h,b⟩];obtain⟨o,n,d,f,q⟩:=xZ pages xs r [] j i.2.1 (λy a=>by
   have:=k y a;unfold ovl;rw[O6];intro g;by_cases e:r.At<=y.At
   · exact c y.At e g.1 ⟨y,a,ω,ω⟩
   exact c r.At ω ω ⟨y,a,ω,g.2⟩) ψ ⟨List.Pairwise.nil,ψ⟩ ψ
 refine⟨o,n,ig.2 ⟨d,λy a=>⟨(f y a).1,d.2 y a,(f y a).2⟩,l⟩,λp=>?_⟩
 grind [RH]
structure Pg(t:aG)(fr:List ay)(sp:List au)(la:List aB):Prop where
 one:∀l∈la,∀p:Nat,(p:Int)∈lpgs l l.a0.toNat->∀q:Nat,q<t.J.length->(nth t.J q).l≠0->(nth t.J q).d=(nth t.J p).d->q=p
 bnd:∀p∈pgs sp la,p<t.J.length
 own:∀p:Nat,p<t.J.length->((nth t.J p).l≠0↔(p:Int)∈pgs sp la)
 fre:∀p:Nat,p<t.J.length->((nth t.J p).l≠0↔¬RH fr p)
 mesh:∀s∈sp,∀u∈sp,s.R≠u.R->(nth t.J s.R.toNat).d=(nth t.J u.R.toNat).d->meshable s u=true
structure cm(h:ac)(E:List Int):Prop where
 ker:aK h.K=true
 rng:bI (gr h) h.a=true
 lay:bA h.H h.S=true
 srs:h.H.Pairwise λa b=>a.R<b.R
 srl:h.S.Pairwise λa b=>a.R<b.R
 pg:Pg (tbl h) h.a h.H h.S
 mail:dE h.e=true
 nc:h.M.length=h.e.V.length
 quar:jQ h.q=true
 snc:∀x∈h.q.u,x.a8<=h.a5
 cach:∀c∈h.M,bH c=true
 nums:dU h=true
 osr:h.X.Pairwise λa b=>a.Addr<b.Addr
 onu:∀o∈h.X,1<=o.Id/\o.Id<=h.g - 1/\0<=o.a2/\o.a2<=h.M.length - 1
 oid:(h.X.map (·.Id)).Nodup
 oow:∀o∈h.X,Q7 h.H h.S o
 hca:∀c∈h.M,∀k:Nat,k<c.T.length->∀a∈nth c.T k,lr h.H a k
 hqu:∀x∈h.q.u,lr h.H x.Addr x.Z
 hfl:∀a∈bp h.e,lr h.H a (-1)
 hin:∀a∈E,lr h.H a (-1)
 nd:(E++holders h).Nodup
 mem:∀a,a∈E++holders h↔sY h.H h.S a
 job:h.j=true->kg h.p=true/\(∃s∈h.H,s.R=h.p.Y.w)/\∃s∈h.H,s.R=h.p.Y.y
 noj:h.j=false->xa h.p=true
variable{E:List Int}
theorem cm.L(a:cm h E):qd h.H h.S:=qd.of a.lay
theorem Bi(t:aG)(f:Int):(pagesOn t f).Nodup:=by grind [List.nodup_range,pagesOn,lf]
def T4{l:List Int}(b:l.Nodup)(d:a∈l)(c:∀x∈l,x=a):l.length=1:=by
 match l with
 | []=>cases d
 | [_]=>rfl
 | x::y::r=>
  exfalso;have e:=c x (by simp);have f:=c y (by simp);rw[e,f]at b;simp at b
theorem f9(a:s∈sp):s.R∈pgs sp la:=by grind [pgs]
theorem mb(a:l∈la)(b:p∈lpgs l l.a0.toNat):p∈pgs sp la:=by grind [pgs]
theorem VH(b:bA h.H h.S=true)(N:bI (gr h) h.a=true)(A:pages0 h=true)(r:qj h=true):Pg (tbl h) h.a h.H h.S:=by
 have B:=qd.of b;obtain⟨C,D,t⟩:=uT A;have E:∀p:Nat,p<gr h->((nth (tbl h).J p).l≠0↔¬RH h.a p):=λp a=>by grind [fS,Jf,pages0,x4]
 refine⟨λl w p c q F e f=>?_,D,t,E,λs G u H J O=>?_⟩
 ·obtain⟨i,y,rfl⟩:=bJ w
  obtain⟨k,g,n⟩:=hP.1 c;have a:p<gr h:=by grind [mb]
  have d:=(t p a).2 (mb w c);have K:=C i y k g;rw[<-n,g9 a d]at K;have P:(p:Int)∈pagesOn (tbl h) (nth (tbl h).J p).d:=gf.2 ⟨a,d,rfl⟩;have Q:(q:Int)∈pagesOn (tbl h) (nth (tbl h).J p).d:=gf.2 ⟨F,e,f⟩
  grind [List.length_eq_one_iff]
 obtain⟨i,y,rfl⟩:=bJ G;obtain⟨j,R,rfl⟩:=bJ H;have L:∀k,k<h.H.length->aC (tbl h) (nth h.H k).R=nth (tbl h).J (nth h.H k).R.toNat:=λk g=>by
  have S:=aP (B.sok _ (aE g))
  grind [f9,DE,nth]
 unfold qj at r;rw[cq]at r;rcases Nat.lt_trichotomy i j with o|M|o
 all_goals grind [fS,oo,ny]
theorem DP(sp:List au):db sp.length (A2 sp)=true↔sp.Pairwise λa b=>a.R<b.R:=by
 rw[cq];refine Iff.trans ?_ (xR (λa b:Int=>a<b) ω (λs:au=>s.R) sp)
 grind [A2]
theorem D2(la:List aB):db la.length (Ay la)=true↔la.Pairwise λa b=>a.R<b.R:=by
 rw[cq];refine Iff.trans ?_ (xR (λa b:Int=>a<b) ω (λs:aB=>s.R) la)
 grind [Ay]
theorem We(o:bA h.H h.S=true)(D:bI (gr h) h.a=true)(A:h.H.Pairwise λa b=>a.R<b.R)(B:h.S.Pairwise λa b=>a.R<b.R)(c:Pg (tbl h) h.a h.H h.S):pages0 h=true/\qj h=true:=by
 have u:=qd.of o;constructor
 ·unfold pages0
  simp only[I0];refine⟨⟨⟨(DP _).2 A,cq.2 λi l=>?_⟩,I5.2 λp n=>O0 (c.bnd p n)⟩,cq.2 λp n=>?_⟩
  ·unfold uS
   rw[I0];refine⟨fS ((D2 _).2 B) l,cq.2 λk w=>?_⟩;have y:=aE l;have E:=cf (u.lok _ y);obtain⟨p,n⟩ : ∃p:Nat,(nth h.S i).R+(k:Nat)=(p:Nat):=⟨((nth h.S i).R+k).toNat,ω⟩
   have q:(p:Int)∈lpgs (nth h.S i) (nth h.S i).a0.toNat:=hP.2 ψ;have d:p<gr h:=by have:=c.bnd _ (mb (sp:=h.H) y q);exact Int.ofNat_lt.1 this
   have r:=(c.own p d).2 (mb y q);unfold yF;rw[C0,n,g9 d r];refine T4 (Bi ..) (gf.2 ⟨d,r,rfl⟩) λx F=>?_
   grind [wD,gf,Pg.one]
  unfold x4;rw[I0,C0];refine⟨c.own p n,?_⟩;have G:=c.fre p n
  grind [Jf]
 unfold qj;refine cq.2 λi l=>cq.2 λj H=>?_
 have g:j<h.H.length:=ω
 have t:∀k,k<h.H.length->aC (tbl h) (nth h.H k).R=nth (tbl h).J (nth h.H k).R.toNat:=λk w=>by
  have J:=aP (u.sok _ (aE w));have K:=c.bnd _ (f9 (la:=h.S) (aE w))
  grind [DE,gr,tbl]
 unfold ny;rw[t i l,t j g,X8,C0];by_cases e:(nth (tbl h).J (nth h.H i).R.toNat).d=(nth (tbl h).J (nth h.H j).R.toNat).d
 ·refine .inr (c.mesh _ (aE l) _ (aE g) (λC=>?_) e)
  have:=pc (f:=(·.R)) u.nd l g C;omega
 exact .inl e
theorem Jr(c:dU h=true)(d:qd h.H h.S):gT h=true↔(h.X.Pairwise λa b=>a.Addr<b.Addr)/\(∀o∈h.X,1<=o.Id/\o.Id<=h.g - 1/\0<=o.a2/\o.a2<=h.M.length - 1)/\(h.X.map (·.Id)).Nodup/\∀o∈h.X,Q7 h.H h.S o:=by
 unfold dU at c;rw[C0]at c;refine Iff.trans ?_ (and_congr (xR (λa b:Int=>a<b) ω (λo:bf=>o.Addr) h.X) (and_congr Iff.rfl (and_congr (D5 (λo:bf=>o.Id) h.X) Iff.rfl)));unfold gT;rw[gV ω ω,cq];have e:∀i,i<h.X.length->(md (h.g - 1) h i=true↔(i=0\/(nth h.X (i - 1)).Addr<(nth h.X i).Addr)/\(1<=(nth h.X i).Id/\(nth h.X i).Id<=h.g - 1/\0<=(nth h.X i).a2/\(nth h.X i).a2<=h.M.length - 1)/\(∀o∈h.X.take i,o.Id≠(nth h.X i).Id)/\Q7 h.H h.S (nth h.X i)):=λi f=>by grind [Ry,md,iQ,m9]
 grind [bJ,aE]
def zg(b:qd h.H h.S):jU h=true↔(∀c∈h.M,∀k:Nat,k<c.T.length->∀a∈nth c.T k,lr h.H a k)/\(∀x∈h.q.u,lr h.H x.Addr x.Z)/\∀a∈bp h.e,lr h.H a (-1):=by
 rw[rh];simp only[I5,fw,cq,tQ,iD,lG,RI b,and_assoc]
theorem MH : 0<=ic h p↔∃s∈h.H,s.R=p:=by grind [ic,eP,nC]
theorem cm.of(g:ec h=true):cm h []:=by
 unfold ec nl at g;simp only[I0]at g;obtain⟨⟨⟨⟨⟨⟨⟨⟨⟨⟨r,l⟩,e⟩,j⟩,n⟩,c⟩,t⟩,H⟩,o⟩,k,b⟩,d⟩:=g;have p:=qd.of e;rw[vF e j]at n;have f:=j;unfold pages0 at f;simp only[I0]at f;unfold dL at c;simp only[I0,C0]at c;unfold kq at b;simp only[I0,C0]at b;obtain⟨⟨u,w⟩,J⟩:=b;obtain⟨y,A,B,C⟩:=(Jr o p).1 k;obtain⟨D,E,F⟩:=(zg p).1 u;unfold ni at t;have G:=cq.1 f.1.1.2;refine⟨r,l,e,(DP _).1 f.1.1.1,(D2 _).1 (cq.2 λi K=>?_),VH e l j n,c.1.1,c.1.2,c.2,ψ,ψ,o,y,A,B,C,D,E,F,ψ,(by simpa using w),λa=>?_,λq=>?_,λq=>?_⟩
 ·grind [uS]
 ·grind [Hm,tZ,tG]
 ·unfold uB at d
  rw[CG q]at d
  grind [MH]
 grind [uB]
theorem cm.to(b:cm h []):ec h=true:=by
 have c:=b.L;obtain⟨e,g⟩:=We b.lay b.rng b.srs b.srl b.pg;have d:=(Jr b.nums c).2 ⟨b.osr,b.onu,b.oid,b.oow⟩;have f:=(zg c).2 ⟨b.hca,b.hqu,b.hfl⟩;unfold ec nl;simp only[I0];refine⟨⟨⟨⟨⟨⟨⟨⟨⟨⟨b.ker,b.rng⟩,b.lay⟩,e⟩,by grind [vF,cm.lay]⟩,?_⟩,?_⟩,I5.2 b.cach⟩,b.nums⟩,d,?_⟩,?_⟩
 ·grind [cm.mail,cm.quar,cm.nc,dL]
 ·grind [cm.snc,ni]
 ·unfold kq
  have i:(holders h).Nodup:=by simpa using b.nd
  have j:∀a,a∈holders h↔a∈lh h.H h.S:=λa=>by rw[Hm c,<-b.mem a];simp
  grind [xn,List.Perm.length_eq]
 grind [cm.job,MH,cm.noj,uB]
def dele(xs:List α)(i:Nat):List α:=xs.take i++xs.drop (i+1)
theorem oC(xs:List α)(i:Nat):(dele xs i).Sublist xs:=by
 unfold dele;rw[<-List.eraseIdx_eq_take_drop_succ];grind
theorem ux{α:Type}[Inhabited α](f:α->List Int)(a:Int):∀(xs:List α)(i:Nat)(y:α),i<xs.length->((xs.set i y).flatMap f).count a+(f (nth xs i)).count a=(xs.flatMap f).count a+(f y).count a
 | [],i,_,h=>by cases h
 | x::xs,0,y,_=>by
  show((y::xs).flatMap f).count a+(f x).count a=((x::xs).flatMap f).count a+(f y).count a
  grind
 | x::xs,i+1,y,h=>by
  have:=ux f a xs i y (by simpa using h);show((x::xs.set i y).flatMap f).count a+(f (nth xs i)).count a=((x::xs).flatMap f).count a+(f y).count a
  grind
theorem uj(a:List (List Int)):a.flatten=a.flatMap λx=>x:=by simp_all
theorem lr.any{c:Int}(h:lr sp a c):lr sp a (-1):=by
 obtain⟨s,b,d,-⟩:=h;exact⟨s,b,d,.inl (by decide)⟩
def VZ(c:ax)(k:Nat)(a:Int):ax:=⟨c.T.set k (nth c.T k++[a])⟩
theorem cm.toQuar{x:aL}{q:aZ}{out:List aL}(c:cm h (x.Addr::E))(f:jQ q=true)(d:h.q.u++[x]=out++q.u)(j:x.a8<=h.a5)(k:lr h.H x.Addr x.Z):cm {h with q:=q} (out.map (·.Addr)++E):=by
 have e:∀y∈out++q.u,y.a8<=h.a5/\lr h.H y.Addr y.Z:=λy a=>by
  rw[<-d]at a;rcases C4.1 a with a|a
  ·exact⟨c.snc y a,c.hqu y a⟩
  grind
 have g:(x.Addr::E++holders h).Perm ((out.map (·.Addr)++E)++holders {h with q:=q}):=by
  refine List.perm_iff_count.2 λb=>?_
  have i:=I1 (λl:List aL=>(l.map (·.Addr)).count b) d;simp only[Z7,O8,I8,List.map_nil,List.count_singleton]at i
  grind [holders,gj]
 exact {c with
   quar:=f
   snc:=(ψ)
   hqu:=(ψ)
   hin:=λb n=>by grind [lr.any,cm.hin]
   nd:=g.nodup_iff.1 c.nd
   mem:=λb=>by grind [cm.mem]}
def ye(b i:Int):Int:=((BitVec.ofInt IntKind.i64.bits b &&& ~~~BitVec.ofInt IntKind.i64.bits (2 ^ i.toNat)).toNat:Nat)
def mc(s:au)(i:Int):au:={s with r:=ye s.r i}
theorem jb(b i:Int):aX b i=true↔0<=b/\0<=i/\i<=15/\b.toNat.testBit i.toNat=true:=by grind [aX]
variable{b:Int}
theorem H0{i:Int}(d:0<=b/\b<=65535)(a:0<=i/\i<=15)(j:Nat):(ye b i).toNat.testBit j=(b.toNat.testBit j&&decide (i.toNat≠j)):=by
 have e:(2:Int) ^ i.toNat<=32768/\0<=(2:Int) ^ i.toNat:=by
  obtain⟨n,rfl⟩:=v4 a.1;rw[t4];have:(2:Nat) ^ n<=2 ^ 15:=Nat.pow_le_pow_right (by decide) ω
  grind
 unfold ye;rw[t4,BitVec.testBit_toNat,BitVec.getLsbD_and,BitVec.getLsbD_not,<-BitVec.testBit_toNat,<-BitVec.testBit_toNat,rR ω,rR ω];rw[show((2:Int) ^ i.toNat).toNat=2 ^ i.toNat by rw[show(2:Int) ^ i.toNat=((2 ^ i.toNat:Nat):Int) by norm_cast,t4],Nat.testBit_two_pow];by_cases c:j<64
 ·rw[show decide (j<IntKind.i64.bits)=true from O0 c,Bool.true_and]
  grind
 rw[Nat.testBit_lt_two_pow (x:=b.toNat) (i:=j) (v5 (show b.toNat<2 ^ 16 by omega) (Nat.pow_le_pow_right (by decide) ω))]
 rfl
theorem FJ{i:Int}(a:0<=b/\b<=65535):0<=ye b i/\ye b i<=b:=by grind [rR,Nat.and_le_left,ye]
theorem QT{i:Int}(a:0<=b/\b<=65535)(c:0<=i/\i<=15)(j:Int):aX (ye b i) j=true↔aX b j=true/\j≠i:=by grind [jb,H0,FJ]
theorem ek(h:bc s=true):0<=s.r/\s.r<=65535:=by
 unfold bc at h;simp only[C0]at h;have:=Lr s.Z;omega
theorem Mi(h:bc s=true)(i:Int):bc (mc s i)=true:=by
 have b:=ek h;have a:=FJ (i:=i) b;unfold bc at h;rw[C0]at h;obtain⟨c,d,e,f,j,g⟩:=h;exact O0 ⟨c,d,e,f,a.1,Int.le_trans a.2 g⟩
theorem NE{u:au}(e:bc s=true){i:Int}(f:0<=i/\i<=15)(h:meshable s u=true):meshable (mc s i) u=true:=by
 unfold meshable at h |-;simp only[I0,C0]at h |-;obtain⟨⟨a,b⟩,c,d,g⟩:=h;refine⟨⟨Mi a i,b⟩,c,d,?_⟩;refine Nat.eq_of_testBit_eq λj=>?_
 grind [H0,ek,mc]
def eg(s:au)(a:Int):Int:=(a - 16*s.R) / csz s.Z
theorem DX(h:bc s=true)(b:16*s.R<=a/\a<=16*s.R+15):0<=eg s a/\eg s a<=15:=by
 have c:=aP h
 grind [dN,eg]
theorem K7(h:bc s=true)(c:(a - 16*s.R) % csz s.Z=0)(d:(b - 16*s.R) % csz s.Z=0)(e:eg s a=eg s b):a=b:=by
 have f:=aP h
 grind [dN,eg]
theorem DI(h:bc s=true)(k:ik s a)(b:Int):ik (mc s (eg s a)) b↔ik s b/\b≠a:=by
 obtain⟨l,n,o,p⟩:=k;have c:=DX h ⟨l,n⟩;unfold ik;simp only[mc];rw[QT (ek h) c];constructor
 ·rintro⟨g,i,d,j,f⟩
  exact⟨ψ,λe=>f (by rw[e];rfl)⟩
 rintro⟨⟨g,i,d,j⟩,f⟩
 exact⟨g,i,d,j,λe=>f (K7 h d o e)⟩
theorem je[Inhabited α]{xs:List α}{y z:α}(h:z∈xs.set i y):z=y\/∃j,j<xs.length/\j≠i/\nth xs j=z:=by
 obtain⟨j,a,rfl⟩:=List.mem_iff_getElem.1 h;rw[List.getElem_set];by_cases e:i=j
 ·subst e;simp
 rw[CD e];rw[O2]at a;exact .inr ⟨j,a,λx=>e x.symm,b6 ψ⟩
theorem qO[Inhabited α]{xs:List α}(y:α)(a:j<xs.length)(e:j≠i):nth xs j∈xs.set i y:=by
 have:nth (xs.set i y) j=nth xs j:=by grind [eB]
 grind [aE]
theorem pA{xs:List α}(y:α)(a:i<xs.length):y∈xs.set i y:=by grind [List.mem_iff_getElem]
def P9(k:Int)(a:i<sp.length):(sp.set i (mc (nth sp i) k)).map (·.R)=sp.map (·.R):=by
 rw[S8];refine List.ext_getElem (by simp) λj b c=>?_
 rw[List.getElem_set];split
 ·rename_i e;subst e
  rw[List.getElem_map];show(nth sp i).R=_;rw[b6 (X3 a)]
 rfl
def lr.set(q:qd sp la)(k:i<sp.length)(l:ik (nth sp i) a)(b c:Int):lr (sp.set i (mc (nth sp i) (eg (nth sp i) a))) b c↔lr sp b c/\b≠a:=by
 have g:=q.sok _ (aE k);constructor
 ·rintro⟨s,o,d,h⟩
  rcases je o with rfl|⟨j,n,r,rfl⟩
  ·have:=(DI g l b).1 d
   exact⟨⟨_,aE k,this.1,h⟩,this.2⟩
  refine⟨⟨_,aE n,d,h⟩,λe=>?_⟩;subst e;have:=pc (f:=(·.R)) q.nd k n (by have t:=l.1;have u:=l.2.1;have w:=d.1;have y:=d.2.1;omega);omega
 rintro⟨⟨s,o,d,h⟩,p⟩
 obtain⟨j,n,rfl⟩:=bJ o;by_cases e:j=i
 ·subst e
  exact⟨_,pA _ k,(DI g l b).2 ⟨d,p⟩,h⟩
 exact⟨_,qO _ n e,d,h⟩
theorem cm.give(d:cm h (a::E))(t:i<h.H.length)(w:ik (nth h.H i) a):cm {h with H:=h.H.set i (mc (nth h.H i) (eg (nth h.H i) a))} E:=by
 have B:=d.L;have G:=B.sok _ (aE t);have O:=DX G ⟨w.1,w.2.1⟩;have f:=λb c=>lr.set B t w b c
 have H:=P9 (eg (nth h.H i) a) t;generalize J:h.H.set i (mc (nth h.H i) (eg (nth h.H i) a))=sp at f H;have p:pgs sp h.S=pgs h.H h.S:=by grind [pgs]
 have g:=d.nd;rw[List.cons_append]at g;obtain⟨P,g⟩:=List.nodup_cons.1 g;have y:∀b,b∈E++holders h->b≠a:=ψ
 have n:∀b,b∈holders h->b≠a:=ψ
 have Q:∀l∈h.S,16*l.R≠a:=λl R e=>(FK B R).1 _ (aE t) (by have a1:=w.1;have a2:=w.2.1;omega)
 have q:∀s∈sp,∃u∈h.H,u.R=s.R/\(s=u\/s=mc u (eg (nth h.H i) a)):=λs r=>by
  rw[<-J]at r;rcases je r with rfl|⟨j,hj,S,rfl⟩
  ·exact⟨_,aE t,rfl,.inr rfl⟩
  grind [aE]
 have T:∀u∈h.H,∃s∈sp,s.R=u.R:=λu C=>by
  have:u.R∈sp.map (·.R):=ψ
  grind
 exact {d with
   lay:=by grind [cm.lay,Mi,bA]
   srs:=by
     have A:(h.H.map (·.R)).Pairwise (λa b=>a<b):=List.pairwise_map.2 d.srs
     grind
   pg:=⟨d.pg.one,by rw[p];exact d.pg.bnd,by rw[p];exact d.pg.own,d.pg.fre,λs r u C y U=>by
     obtain⟨V,K,W,X⟩:=q s r;obtain⟨Y,M,Z,hu2⟩:=q u C;have A:=d.pg.mesh V K Y M ω (by rw[W,Z];exact U)
     grind [NE,qd.sok,oo]⟩
   oow:=λo ho=>by
     have N:o.Addr≠a:=n _ (by grind [holders]);rcases d.oow o ho with⟨s,r,A,h2⟩|A
     · obtain⟨u,C,g1,D⟩:=(f o.Addr (bQ o.a3)).2 ⟨⟨s,r,A,.inr h2⟩,N⟩
       refine .inl ⟨u,C,g1,?_⟩;rcases D with D|D
       · have:=aP (B.sok _ r);omega
       exact D
     exact .inr A
   hca:=λc hc k hk b F=>(f b k).2 ⟨d.hca c hc k hk b F,n b (by
     unfold holders gj;grind [List.mem_flatten,aE])⟩
   hqu:=λx hx=>(f _ _).2 ⟨d.hqu x hx,n _ (by grind [holders])⟩
   hfl:=λb F=>(f _ _).2 ⟨d.hfl b F,n _ (by grind [holders])⟩
   hin:=λb F=>(f _ _).2 ⟨d.hin b ψ,y b ψ⟩
   nd:=g
   mem:=λb=>by
     show b∈E++holders h↔sY sp h.S b
     grind [cm.mem,sY]
   job:=λhm=>by grind [cm.job]}
def gH(k:af)(p:Int):Nat->af
 | 0=>k
 | n+1=>cQ (gH k p n) (p+n)
def mX{k:af}(h:aK k=true)(p:Int):∀n,aK (gH k p n)=true
 | 0=>h
 | n+1=>A5 _ (mX h p n)
theorem kj(k:af)(p:Int):∀n,(gH k p n).G.Q.J.length=k.G.Q.J.length/\(gH k p n).Calls=k.Calls/\(gH k p n).b=k.b
 | 0=>⟨rfl,rfl,rfl⟩
 | n+1=>by
  obtain⟨a,b,c⟩:=kj k p n;obtain⟨d,e,f⟩:=sU (gH k p n) (p+n);exact⟨d.trans a,e.trans b,f.trans c⟩
theorem JW(h:aK k=true)(g:0<=p/\p<k.G.Q.J.length)(q:Nat):nth (cQ k p).G.Q.J q=if(q:Int)=p then⟨0,0⟩ else nth k.G.Q.J q:=by
 have c:aC k.G.Q p=nth k.G.Q.J p.toNat:=by grind [aC]
 unfold cQ;split
 ·rename_i a
  split
  ·rename_i i
   rw[c]at a;have b:=(br.1 (aI.1 h).2.2.1).1 p.toNat ω;unfold mS at b;rw[C0]at b;have d:=b.2.2.1 a;rw[show q=p.toNat by omega];generalize nth k.G.Q.J p.toNat=e at a d;obtain⟨m,f⟩:=e
   grind
  rfl
 grind [rA,eB,mM]
theorem za{k:af}(h:aK k=true){p:Int}(a:0<=p):∀n:Nat,p+n<=k.G.Q.J.length->∀q:Nat,nth (gH k p n).G.Q.J q=if p<=q/\(q:Int)<p+n then⟨0,0⟩ else nth k.G.Q.J q
 | 0,_,q=>by rw[CD ω];rfl
 | n+1,b,q=>by
  have c:=za h a n ω q;have d:=JW (mX h p n) (p:=p+n) ⟨ω,by grind [kj]⟩ q;show nth (cQ (gH k p n) (p+n)).G.Q.J q=_
  grind
theorem H9{β:Type}(f:α->List β){xs b:List α}(h:xs.Sublist b):(xs.flatMap f).Sublist (b.flatMap f):=by
 induction h with
 | slnil=>grind
 | cons a _ c=>grind
 | cons_cons a _ c=>grind
theorem KP(c:cm h E)(Y:1<=n)(w:sp.Sublist h.H)(D:la.Sublist h.S)(j:∀q:Int,p<=q->q<p+n->q∈pgs h.H h.S)(K:0<=p)(F:∀q,q∈pgs sp la↔q∈pgs h.H h.S/\¬(p<=q/\q<p+n)) :
  ∃o,cS (gr h) h.a ⟨p,n⟩ = some o/\aK (gH h.K p n)=true/\bI ((gH h.K p n).G.Q.J.length:Nat) o=true/\bA sp la=true/\Pg (gH h.K p n).G.Q o sp la:=by
 have t:=c.pg.bnd _ (j (p+n - 1) ω ω);have a:=(kj h.K p n).1;have y:p+n<=h.K.G.Q.J.length:=by unfold tbl at t;omega
 have g:=za c.ker K n y;obtain⟨o,Q,R,S⟩:=HI (r:=⟨p,n⟩) c.rng ⟨K,by simp only;omega,y⟩ λq M N=>by
  simp only at M N;obtain⟨m,rfl⟩:=v4 (show 0<=q by omega);have A:m<(tbl h).J.length:=by unfold tbl;omega
  exact(c.pg.fre m A).1 ((c.pg.own m A).2 (j _ M N))
 refine⟨o,Q,mX c.ker p n,by rw[a];exact R,?_,?_⟩
 ·obtain⟨T,U,V⟩:=fe c.lay
  unfold bA;simp only[I0,C0];exact⟨⟨I5.2 λs d=>I5.1 T s (w.subset d),I5.2 λl d=>I5.1 U l (D.subset d)⟩,V.sublist ((w.map _).append (H9 _ D))⟩
 have i:∀q:Nat,(q:Int)∈pgs sp la->nth (gH h.K p n).G.Q.J q=nth (tbl h).J q:=λq f=>by rw[g,CD ((F q).1 f).2];rfl
 have b:∀q:Nat,(nth (gH h.K p n).G.Q.J q).l≠0↔(nth (tbl h).J q).l≠0/\¬(p<=q/\(q:Int)<p+n):=λq=>by
  rw[g];by_cases e:p<=q/\(q:Int)<p+n
  ·rw[CG e];exact⟨λx=>absurd rfl x,λx=>absurd e x.2⟩
  rw[CD e];exact⟨λx=>⟨x,e⟩,λx=>x.1⟩
 refine⟨λl d q f r O G B=>?_,λq f=>?_,λq f=>?_,λq f=>?_,λs d u H J P=>?_⟩
 ·have C:=(b r).1 G
  rw[a]at O;rw[i q (mb d f),g,CD C.2]at B;exact c.pg.one l (D.subset d) q f r O C.1 B
 ·rw[a];exact c.pg.bnd q ((F q).1 f).1
 ·rw[a]at f
  rw[b,F,c.pg.own q f]
 ·rw[a]at f
  rw[b,S,c.pg.fre q f];simp only
  grind
 have k:∀s∈sp,0<=s.R:=λs d=>(aP (c.L.sok s (w.subset d))).1
 have W:=i s.R.toNat (by rw[Int.toNat_of_nonneg (k s d)];exact f9 d);have X:=i u.R.toNat (by rw[Int.toNat_of_nonneg (k u H)];exact f9 H);rw[W,X]at P;exact c.pg.mesh s (w.subset d) u (w.subset H) J P
theorem mj[Inhabited α]{xs:List α}{k:Nat}{z:α} : z∈dele xs k↔∃j,j<xs.length/\j≠k/\nth xs j=z:=by
 unfold dele;rw[C4];constructor
 ·rintro(h|h)
  ·obtain⟨j,a,rfl⟩:=List.mem_take_iff_getElem.1 h
   exact⟨j,ω,ω,b6 ψ⟩
  obtain⟨j,a,rfl⟩:=List.mem_drop_iff_getElem.1 h;exact⟨k+1+j,ω,ω,b6 ψ⟩
 rintro⟨j,a,b,rfl⟩
 rw[b6 (X3 a)];by_cases e:j<k
 ·grind [List.mem_take_iff_getElem]
 refine .inr (List.mem_drop_iff_getElem.2 ⟨j - (k+1),ω,?_⟩)
 congr 1;omega
theorem LS{q:Int} : q∈pgs sp la↔(∃s∈sp,s.R=q)\/∃l∈la,q∈lpgs l l.a0.toNat:=by grind [pgs]
def Er(h:s.r=0)(a:Int):¬ik s a:=by
 rintro⟨-,-,-,b⟩
 rw[jb,h]at b;simp at b
theorem cm.giveSpan(d:cm h E)(C:i<h.H.length)(r:(nth h.H i).r=0)(R:h.j=true->(nth h.H i).R≠h.p.Y.w/\(nth h.H i).R≠h.p.Y.y) :
  ∃o,cS (gr h) h.a ⟨(nth h.H i).R,1⟩ = some o/\cm {h with K:=cQ h.K (nth h.H i).R,H:=dele h.H i,a:=o} E:=by
 have D:=d.L;have y:=aP (D.sok _ (aE C));have w:∀q,q∈pgs (dele h.H i) h.S↔q∈pgs h.H h.S/\¬((nth h.H i).R<=q/\q<(nth h.H i).R+(1:Nat)):=λq=>by
  rw[LS,LS];constructor
  ·rintro(⟨s,u,rfl⟩|⟨l,S,T⟩)
   ·obtain⟨j,a,A,rfl⟩:=mj.1 u
    refine⟨.inl ⟨_,aE a,rfl⟩,λe=>A (pc (f:=(·.R)) D.nd a C ω)⟩
   grind [hP,qd.dis,aE]
  grind [bJ,mj]
 obtain⟨o,J,F,G,K,H⟩:=KP d (sp:=dele h.H i) (la:=h.S) (p:=(nth h.H i).R) (n:=1) (I4 _) (oC ..) ψ (λq U V=>by grind [f9,nth]) y.1 w;have M:gH h.K (nth h.H i).R 1=cQ h.K (nth h.H i).R:=by show cQ h.K ((nth h.H i).R+((0:Nat):Int))=_;grind
 rw[M]at F G H;have g:∀b c,lr (dele h.H i) b c↔lr h.H b c:=λb c=>by
  constructor
  ·rintro⟨s,u,t⟩;exact⟨s,(oC ..).subset u,t⟩
  rintro⟨s,u,t,B⟩
  obtain⟨j,a,rfl⟩:=bJ u;exact⟨_,mj.2 ⟨j,a,λe=>Er r b ψ,rfl⟩,t,B⟩
 refine⟨o,J,{d with
   ker:=F
   rng:=G
   lay:=K
   srs:=d.srs.sublist (oC ..)
   pg:=H
   oow:=λN O=>?_
   hca:=λc y k P b r=>(g b k).2 (d.hca c y k P b r)
   hqu:=λx Q=>(g _ _).2 (d.hqu x Q)
   hfl:=λb r=>(g _ _).2 (d.hfl b r)
   hin:=λb r=>(g _ _).2 (d.hin b r)
   mem:=λb=>(d.mem b).trans ?_
   job:=λW=>?_}⟩
 ·rcases d.oow N O with⟨s,u,t,B⟩|t
  ·obtain⟨j,a,rfl⟩:=bJ u
   exact .inl ⟨_,mj.2 ⟨j,a,λe=>Er r _ (by rw[<-e];exact t),rfl⟩,t,B⟩
  exact .inr t
 all_goals grind [cm.job,bJ,mj,sY]
def gS(h:ac)(p:Int):Bool:=h.j&&(decide (p=h.p.Y.w) || decide (p=h.p.Y.y))
def LR(h:ac)(i:Nat):ac:={h with K:=cQ h.K (nth h.H i).R,H:=dele h.H i,a:=(cS (gr h) h.a ⟨(nth h.H i).R,1⟩).getD h.a}
def kW(h:ac)(i:Nat)(a:Int):ac:={h with H:=h.H.set i (mc (nth h.H i) (eg (nth h.H i) a))}
def freeS(h:ac)(i:Nat)(a:Int):ac:=if(mc (nth h.H i) (eg (nth h.H i) a)).r=0/\gS h (nth h.H i).R=false then LR (kW h i a) i else kW h i a
def ER(h:ac)(a:Int):Nat:=(ic h (a / 16)).toNat
def freeA(h:ac)(a:Int):ac:=freeS h (ER h a) a
def cput(c:ax)(k a:Int):Option ax:=if bH c=true/\0<=k/\k<=3/\bH (VZ c k.toNat a)=true then some (VZ c k.toNat a) else none
def recyc(t:Nat)(h:ac)(a:Int):ac:=match cput (nth h.M t) (nth h.H (ER h a)).Z a with
 | some c=>{h with M:=h.M.set t c}
 | none=>freeA h a
theorem cm.at(e:cm h E)(c:lr h.H a (-1)):ER h a<h.H.length/\ik (nth h.H (ER h a)) a/\ic h (a / 16)=(ER h a:Nat):=by
 obtain⟨s,d,b,-⟩:=c;obtain⟨i,f,rfl⟩:=bJ d;have g:(nth h.H i).R=a / 16:=by have j:=b.1;have k:=b.2.1;omega
 grind [wj,cm.L,ER]
theorem RE(e:gS h p=false)(a:h.j=true):p≠h.p.Y.w/\p≠h.p.Y.y:=by grind [gS]
def cm.freeS{h:ac}{E:List Int}{a:Int}{i:Nat}(f:cm h (a::E))(b:i<h.H.length)(g:ik (nth h.H i) a):cm (freeS h i a) E:=by
 have c:=f.give b g;unfold Ab.freeS;split
 ·rename_i e
  have d:nth (kW h i a).H i=mc (nth h.H i) (eg (nth h.H i) a):=by unfold kW;simp only[eB,true_and];rw[CG b]
  obtain⟨o,j,k⟩:=cm.giveSpan (h:=kW h i a) c (i:=i) (by unfold kW;simp only[O2];exact b) (by rw[d];exact e.1) (λl=>by rw[d];exact RE e.2 l);unfold LR;rw[j];exact k
 exact c
theorem cm.freeA{h:ac}{E:List Int}{a:Int}(b:cm h (a::E)):cm (freeA h a) E:=by
 obtain⟨c,d,-⟩:=b.at (b.hin a ψ);exact b.freeS c d
theorem wG(h:bH c=true):c.T.length=4:=by grind [bH]
def Ki(h:ac)(i:Nat)(a:Int):(freeS h i a).M=h.M/\(freeS h i a).X=h.X/\(freeS h i a).K.Calls=h.K.Calls/\(freeS h i a).e=h.e/\(freeS h i a).p=h.p/\(freeS h i a).a5=h.a5/\(freeS h i a).q=h.q/\(freeS h i a).K.b=h.K.b:=by
 unfold freeS;split
 ·obtain⟨-,b,c⟩:=sU (kW h i a).K (nth (kW h i a).H i).R
  exact⟨rfl,rfl,b,rfl,rfl,rfl,rfl,c⟩
 exact⟨rfl,rfl,rfl,rfl,rfl,rfl,rfl,rfl⟩
def recycs(t:Nat)(h:ac)(az:List Int):ac:=az.foldl (recyc t) h
def qc(l:List aL):Int:=quarCells l l.length
def Vm(room:Int):List aL->Nat
 | []=>0
 | x::xs=>if room<qc (x::xs) then Vm room xs+1 else 0
def WR(q:aZ)(x:aL):aZ:=⟨q.b1,(q.u++[x]).drop (Vm q.b1 (q.u++[x]))⟩
def Xc(q:aZ)(x:aL):List aL:=(q.u++[x]).take (Vm q.b1 (q.u++[x]))
theorem Hd{q:aZ} : jQ q=true↔(∀x∈q.u,0<=x.Z/\x.Z<=3/\0<=x.Addr/\0<=x.a8)/\(q.u.Pairwise λa b=>a.a8<=b.a8)/\(q.u.map (·.Addr)).Nodup/\0<=q.b1/\q.b1<=500/\qc q.u<=q.b1:=by
 refine Iff.trans ?_ (and_congr Iff.rfl (and_congr (xR (λa b:Int=>a<=b) ω (λs:aL=>s.a8) q.u) (and_congr (D5 (λs:aL=>s.Addr) q.u) Iff.rfl)));unfold jQ qc
 grind [cq,List.any_eq_false,bJ,aE,lH,fU]
def Um(r:List Int)(o:Nat):Nat->List Int
 | 0=>r
 | n+1=>(Um r o n).set (o+n) 0
def US(k:af)(a:Int):Nat:=(aC k.G.Q (a / 16)).d.toNat
def U0(k:af)(a:Int)(n:Nat):af:={k with G:=⟨⟨k.G.U.W.set (US k a) (Um (nth k.G.U.W (US k a)) (a % 16).toNat n),k.G.U.c⟩,k.G.Q⟩}
def Xe(h:ac)(a:Int):Nat:=(h.S.findIdx? λl=>decide (l.R*16=a)).getD 0
def Wn(h:ac)(i k:Nat):ac:={h with K:=gH h.K (nth h.S k).R (nth h.S k).a0.toNat,S:=dele h.S k,a:=(cS (gr h) h.a ⟨(nth h.S k).R,(nth h.S k).a0⟩).getD h.a,X:=dele h.X i}
def PM(h:ac)(o:bf):aL:=⟨o.Addr,bQ o.a3,h.a5⟩
def Vs(h:ac)(i:Nat):ac:={h with K:=U0 h.K (nth h.X i).Addr (csz (bQ (nth h.X i).a3)).toNat,X:=dele h.X i,q:=WR h.q (PM h (nth h.X i))}
def VO(h:ac)(t i:Nat):ac:=recycs t (Vs h i) ((Xc h.q (PM h (nth h.X i))).map (·.Addr))
theorem LD:∀{H L:List Int},H.Nodup->(∀x∈H,x∈L)->H.length<=L.length
 | [],L,_,_=>C1 _
 | y::H,L,b,c=>by
  have d:y∈L:=ψ
  have a:=List.nodup_cons.1 b;have:=LD (L:=L.erase y) a.2 ψ
  grind
theorem yK{H:List Int}(a:H.Nodup)(b:∀x∈H,0<=x/\x<n):H.length<=n:=by
 have:=LD (L:=(List.range n).map λ(i:Nat)=>(i:Int)) a λx c=>Y5.2 ⟨x.toNat,List.mem_range.2 ψ,ψ⟩
 simpa using this
theorem vO{f:α->Int}{xs:List α}(h:xs.Pairwise λa b=>f a<f b):(xs.map f).Nodup:=ψ
theorem QO:∀(b:List (List Int))(k:Nat)(s:List Int),(hB k s b).isSome=true->∀l∈b,l.length<=8
 | [],_,_,_,l,a=>by cases a
 | x::b,k,s,h,l,a=>by
  simp only[hB]at h;cases e:fN k s x with
  | none=>grind
  | some c=>
   rw[e]at h;rcases List.mem_cons.1 a with rfl|a
   ·grind [fN]
   exact QO b (k+1) c h l a
theorem gi(h:bH c=true):c.T.length=4/\∀l∈c.T,l.length<=8:=by grind [QO,bH]
structure pa(h:ac):Prop where
 cells:h.K.G.U.W.length<=32
 row:∀r∈h.K.G.U.W,r.length=16
 used:h.K.G.U.c.length<=32
 ents:h.K.G.Q.J.length<=32
 ref:h.K.b.length<=40
 free:h.a.length<=32
 spans:h.H.length<=32
 larges:h.S.length<=32
 objs:h.X.length<=512
 caches:h.M.length<=4
 lists:∀c∈h.M,c.T.length=4/\∀l∈c.T,l.length<=8
 quar:h.q.u.length<=512
def lr.bd(b:cm h E){c:Int}(d:lr h.H a c):0<=a/\a<512:=by
 obtain⟨s,e,⟨f,g,-⟩,-⟩:=d;have i:=aP (b.L.sok s e);omega
theorem cm.lens(a:cm h E):pa h:=by
 obtain⟨G,k,p,J,K,M,q⟩:=aI.1 a.ker;obtain⟨N,t,O,P⟩:=bh.1 k;obtain⟨Q,R,u⟩:=br.1 p;obtain⟨w,S,T⟩:=ig.1 a.rng;obtain⟨U,V,A,W⟩:=Hd.1 a.quar;have g:=a.mail;unfold dE at g;simp only[I0,C0]at g;have B:=a.nc;refine⟨t,λr i=>?_,ω,u,q,?_,?_,?_,?_,ω,λc C=>gi (a.cach c C),?_⟩
 ·obtain⟨j,X,rfl⟩:=bJ i
  grind [jh]
 ·have:=yK (H:=h.a.map (·.At)) (n:=32) (vO (w.1.imp_of_mem ψ)) λx b=>by
   obtain⟨r,i,rfl⟩:=Y5.1 b
   grind
  simpa using this
 ·have:=yK (H:=h.H.map (·.R)) (n:=32) a.L.nd λx b=>by
   obtain⟨s,d,rfl⟩:=Y5.1 b;have:=aP (a.L.sok s d);omega
  simpa using this
 ·have:=yK (H:=h.S.map (·.R)) (n:=32) (vO a.srl) λx b=>by
   obtain⟨l,f,rfl⟩:=Y5.1 b;have:=cf (a.L.lok l f);omega
  simpa using this
 ·have:=yK (H:=h.X.map (·.Addr)) (n:=512) (vO a.osr) λx b=>by
   obtain⟨o,D,rfl⟩:=Y5.1 b;rcases a.oow o D with⟨s,d,⟨Y,Z,-⟩,-⟩|⟨l,f,e,-⟩
   ·have:=aP (a.L.sok s d);omega
   have:=cf (a.L.lok l f);omega
  simpa using this
 have:=yK (H:=h.q.u.map (·.Addr)) (n:=512) A λx b=>by
  obtain⟨y,F,rfl⟩:=Y5.1 b;exact(a.hqu y F).bd a
 simpa using this
theorem pa.sml(a:pa h)(b:aK h.K=true)(d:aM.sml h.e)(e:bk.sml h.p):ac.sml h:=
 ⟨bS b,⟨by grind [pa.free],λ_ _=>trivial⟩,⟨by grind [pa.spans],λ_ _=>trivial⟩,⟨by grind [pa.larges],λ_ _=>trivial⟩,⟨by grind [pa.objs],λ_ _=>trivial⟩,⟨by grind [pa.caches],λc f=>⟨by grind [pa.lists],λl g=>by have:=(a.lists c f).2 l g;show l.length<=1048576;omega⟩⟩,d,⟨by grind [pa.quar],λ_ _=>trivial⟩,e⟩
theorem Wv:∀(x:List ay),bL x=2*x.length
 | []=>rfl
 | x::xs=>by simp only[bL,Wv xs,List.length_cons,ay.cnt];omega
theorem W8:∀(x:List au),cz x=3*x.length
 | []=>rfl
 | x::xs=>by simp only[cz,W8 xs,List.length_cons,au.cnt];omega
theorem VU:∀(x:List aB),ce x=3*x.length
 | []=>rfl
 | x::xs=>by simp only[ce,VU xs,List.length_cons,aB.cnt];omega
theorem VD:∀(x:List bf),dJ x=4*x.length
 | []=>rfl
 | x::xs=>by simp only[dJ,VD xs,List.length_cons,bf.cnt];omega
theorem W4:∀(x:List aL),dr x=3*x.length
 | []=>rfl
 | x::xs=>by simp only[dr,W4 xs,List.length_cons,aL.cnt];omega
theorem VK:∀(x:List aN),dl x=2*x.length
 | []=>rfl
 | x::xs=>by simp only[dl,VK xs,List.length_cons,aN.cnt];omega
theorem UO{m:Nat} : ∀(x:List (List Int)),(∀y∈x,y.length<=m)->de x<=m*x.length
 | [],_=>C1 _
 | x::xs,h=>by
  have b:=UO xs λy a=>h y (O7 _ a)
  grind [Nat.mul_add,de,er]
theorem Wh:∀(x:List ax),(∀c∈x,c.T.length=4/\∀l∈c.T,l.length<=8)->bW x<=32*x.length
 | [],_=>C1 _
 | c::xs,h=>by
  have b:=Wh xs ψ;obtain⟨d,a⟩:=h c ψ;have e:=UO c.T a
  grind [bW,ax.cnt]
theorem pa.cnt(a:pa h):ac.cnt h<=6000+aM.cnt h.e+bk.cnt h.p:=by
 have b:=UO (m:=16) h.K.G.U.W λr c=>by grind [pa.row]
 have d:=Wh h.M a.lists;obtain⟨e,f,g,i,j,k,l,n,o,l10,l11,l12⟩:=a;unfold ac.cnt af.cnt aD.cnt aF.cnt aG.cnt aZ.cnt gt er
 grind [Wv,W8,VU,VD,W4,VK]
def FF(a:Int)(o:bf):Bool:=decide (o.Addr=a)
theorem Eg(k:af)(p:Int)(n:Nat):(gH k p n).Calls=k.Calls/\(gH k p n).b=k.b:=(kj k p n).2
end Go.Proofs.YtiopgblagimpmaaGreat.Ab
