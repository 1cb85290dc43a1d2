/- The pages of a heap, as the program asks it: the contract of pagesOk; spans on one frame, as the reference asks it: l27Meshed. No condition. -/
import Derived.Test.YtcblmfpcekokjaaGreatKDd
import Derived.Test.YtcblmfpcekokjaaGreatKDShelf
import Derived.WalkKit
import Derived.Lib.SliceRun
set_option linter.unusedVariables false
set_option linter.defProp false
set_option linter.unusedSimpArgs false
set_option linter.constructorNameAsVariable false
namespace Go.Proofs.YtcblmfpcekokjaaGreat.Ab
open Go.RowKit
set_option maxRecDepth 20000
set_option maxHeartbeats 8000000
def wkI{z1 z2:Int}(h:z1=z2):WW (I z1) (I z2):=by subst h;rfl
variable{p:Int}
theorem QT{S:List Int}{z:Int} : z∈ins S p↔z∈S\/z=p:=by grind [ins]
theorem EC(S:List Int):(io S).map (·.1)=S:=by unfold io;rw[List.map_map];simp[OB]
variable{t:aL}
theorem pY{p:Nat}(a:p<t.M.length):ax t (p:Nat)=nth t.M p:=by grind [ax]
theorem HG(h:ac)(E:cP h.J)(F:cV h.H)(d:AA h)(G:eJ h.a)(u:bK h.J h.H=true):zzA 90 false [.val (some 24) (ac.enc .O h)] .one [B (pages0 h&&tp h)]:=by
 have hl1:=E.1;have hl2:=F.1;have hl3:ge h<=1048576:=d.1;have hl4:=G.1;have b:pages0 h=false->[B false]=[B (pages0 h&&tp h)]:=ψ
 refine fO 177 [(4,14,[25,26,27,28,29,30,31,32,33,34,35,36,37,38]),(16,14,[60,61,62,63,64,65,66,67,68,69,70,71,72,73]),(28,18,[102,103,104,105,106,107,108,109,110,111,112,113,114,115,116,117,118,119]),(42,23,[152,153,154,155,156,157,158,159,160,161,162,163,164,165,166,167,168,169,170,171,172,173,174])] Tryz.func90 rfl ?_
 refine σP ?_
 refine g0 h.J.length (λi=>[(1,bX (ac.enc .O h)),(18,b8 (bH .O h.J)),(19,fI h.J.length),(20,fN i)]) (λi=>dK i (B9 h.J)=true) rfl λi g=>?_
 obtain⟨g,C⟩:=g;by_cases o:i<h.J.length
 ·have e:=au o
  repeat'(first|refine gE ?_|refine gS (λa=>?_) (λa=>?_)|refine CS ω (aa (iV ω o)) ?_)
  all_goals first
   |exact b (M4 (cM o (C1 ω)))
   | ((conv=>whnf);exact dL (i+1) ⟨ω,co C (O0 ω)⟩)
 obtain rfl:i=h.J.length:=ω
 refine σE ?_
 refine pe (ι:=Nat × List Int) (λi=>[(1,bX (ac.enc .O h)),(5,b8 [.m (io i.2)]),(42,b8 (bH .O h.J)),(43,fI h.J.length),(44,fN (i.1))]) (λi=>i.1<=h.J.length/\∀z,z∈i.2↔z∈(h.J.take i.1).map (·.S)) (λi=>h.J.length - i.1) ((0,[])) ψ λi g=>?_
 obtain⟨i,S⟩:=i;obtain⟨H,W⟩:=g;simp only at H W |-;by_cases li2:i<h.J.length
 ·have e:=au li2
  repeat'(first|refine gE ?_|refine Mu.mk (E1 S _) ?_)
  (exact dL (i+1,ins S (nth h.J i).S) ⟨(by simp only;omega),λz=>by grind [QT,SA]⟩)
 obtain rfl:i=h.J.length:=ω
 rw[S9]at W
 refine σE ?_
 refine pe (ι:=Nat × List Int) (λk=>[(1,bX (ac.enc .O h)),(5,b8 [.m (io k.2)]),(53,b8 (bG .O h.H)),(54,fI h.H.length),(55,fN (k.1))]) (λk=>k.1<=h.H.length/\(∀z,z∈k.2↔z∈pgs h.J (h.H.take k.1))/\dK k.1 (xW h)=true) (λk=>h.H.length - k.1) ((0,S)) (⟨I1 _,λz=>by grind [pgs],rfl⟩) λk J=>?_
 obtain⟨k,S2⟩:=k;obtain⟨J,c,K⟩:=J;simp only at J c K |-;by_cases D:k<h.H.length
 ·have e:=au D
  have hpg:=zj u e
  repeat'(first|refine gE ?_|refine gS (λa=>?_) (λa=>?_)|refine CS ω (aa (iV ω D)) ?_)
  all_goals first
   |exact b (xw (cM D (Ws (C1 ω))))
   |have l:Dv h.H k=true:=O0 ω
    (conv=>whnf)
    refine pe (ι:=Nat × List Int) (λq=>[(1,bX (ac.enc .O h)),(5,b8 [.m (io q.2)]),(9,bX (aA.enc .O (nth h.H k))),(10,fI ((nth h.H k).S+(q.1:Nat))),(53,b8 (bG .O h.H)),(54,fI h.H.length),(55,fN k)]) (λq=>q.1<=(nth h.H k).a0.toNat/\(∀z,z∈q.2↔z∈S2++lpgs (nth h.H k) q.1)/\dK q.1 (DI h (nth h.H k))=true) (λq=>(nth h.H k).a0.toNat - q.1) ((0,S2)) (⟨I1 _,λz=>by simp[lpgs],rfl⟩) λq a=>?_
    obtain⟨q,L⟩:=q;obtain⟨M,n,N⟩:=a;simp only at M n N |-;by_cases lq:q<(nth h.H k).a0.toNat
    ·have hfl:=gR h ((nth h.H k).S+(q:Nat))
     repeat'(first|refine gE ?_|refine gS (λa=>?_) (λa=>?_)|refine CG (mM h _ d) ?_|refine Mu.mk (E1 L _) ?_)
     all_goals first
      |exact b (xw (cM D (We lq (C1 ω))))
      | ((conv=>whnf)
         refine CQ (q+1,ins L ((nth h.H k).S+(q:Nat))) ⟨(by simp only;omega),λz=>by simp only[QT,n];rw[nR];simp[or_assoc],co N (O0 ω)⟩ (by simp only;omega) ?_
         (repeat'(first|exact tV1|rfl|refine CL ?_ ?_|exact wkI kd)))
    obtain rfl:q=(nth h.H k).a0.toNat:=ω
    refine σE ?_
    (exact dL (k+1,L) ⟨(by simp only;omega),(λz=>by simp only[n];rw[tt _ e];simp[c]),co K (KF l N)⟩)
 obtain rfl:k=h.H.length:=ω
 rw[S9]at c
 refine σE ?_
 refine g0 (ge h) (λp=>[(1,bX (ac.enc .O h)),(5,b8 [.m (io S2)]),(98,fI (ge h)),(99,fN p)]) (λp=>dK p (AH h)=true) rfl λp X=>?_
 obtain⟨X,Y⟩:=X;by_cases Z:p<ge h
 ·have O:=Fb h.a (p:Nat) ω
  have w:=gh h.G (p:Nat) d;rw[pY Z]at w
  repeat'(first|refine gE ?_|refine gS (λa=>?_) (λa=>?_)|refine Ml.mk (rW (p:Nat) S2) ?_|refine Bf.P (λa=>?_) (λa=>?_))
  all_goals first
   |exact b (LB (cM Z (by unfold AH tbl;have:=c (p:Nat);grind)))
   | ((conv=>whnf);exact dL (p+1) ⟨ω,co Y (by unfold AH tbl;have:=c (p:Nat);grind)⟩)
 obtain rfl:p=ge h:=ω
 refine σE ?_
 have hpn:ge h=h.G.F.R.M.length:=rfl
 (conv=>whnf)
 refine pe (ι:=Option Int × List Int) (λt=>[(1,bX (ac.enc .O h)),(122,b8 [.it t.1 t.2])]) (λt=>(∀z∈S2,z∈t.2\/z<ge h)/\∀z∈t.2,z∈S2) (λt=>t.2.length) ((none,(io S2).map (·.1))) (⟨λz hz=>.inl (by grind [EC]),λz hz=>by grind [EC]⟩) λt ht=>?_
 obtain⟨cur,left⟩:=t;obtain⟨Q,R⟩:=ht;simp only at Q R |-
 repeat'(first|refine gP ?_|refine gS (λa=>?_) (λa=>?_)|refine Nt.mk (λa=>?_) (λl1 k l2 a=>?_))
 rotate_left
 ·exact b (MG (p:=k) ψ ω)
 ·((conv=>whnf);exact dL (some k,l1++l2) ψ (h2:=(by subst left;simp)))
 have y:∀p∈pgs h.J h.H,p<ge h:=ψ
 have h0:pages0 h=true:=BG C K y Y;rw[h0,Bool.true_and]
 (conv=>whnf)
 refine g0 h.J.length (λi=>[(1,bX (ac.enc .O h)),(136,b8 (bH .O h.J)),(137,fI h.J.length),(138,fN i)]) (λi=>dK i (λi=>dK i (pJ h i))=true) rfl λi g=>?_
 obtain⟨g,C⟩:=g;by_cases o:i<h.J.length
 ·have e:=au o
  have T:(h.J.take i).length=i:=ψ
  repeat'(first|refine gE ?_|refine CZ i rfl kd (λr O=>by obtain⟨z,-,rfl⟩:=O8.1 O;rfl) (C8 ..) ?_)
  refine g0 ((h.J.take i).length) (λj=>[(1,bX (ac.enc .O h)),(14,bX (aC.enc .O (nth h.J i))),(136,b8 (bH .O h.J)),(137,fI h.J.length),(138,fN i),(146,b8 (bH .O (h.J.take i))),(147,fI ((h.J.take i).length)),(148,fN j)]) (λj=>dK j (pJ h i)=true) rfl λj hj=>?_
  obtain⟨hj,U⟩:=hj;by_cases lj:j<(h.J.take i).length
  ·have hy:=au lj
   have he:nth (h.J.take i) j=nth h.J j:=bI (by grind [au]);rw[he]at hy;have w:=pM (nth h.J i) (nth h.J j);cases V:meshable (nth h.J i) (nth h.J j)<;>rw[V]at w
   all_goals
    repeat'(first|refine gE ?_|refine gS (λa=>?_) (λa=>?_)|refine CG (dl (tbl h) _ d) ?_)
    all_goals first
     | exact bE ((by symm;exact cM o (cM (i:=j) ω (by unfold pJ;rw[V];grind))))
     | ((conv=>whnf);exact dL (j+1) ⟨ω,co U (by unfold pJ;rw[V];grind)⟩)
  obtain rfl:j=(h.J.take i).length:=ω
  rw[T]at U
  refine σE ?_
  (exact dL (i+1) ⟨ω,co C U⟩)
 obtain rfl:i=h.J.length:=ω
 refine σE ?_
 exact bE ((by grind [tp]))
set_option maxHeartbeats 8000000
variable{α:Type}
theorem tE[Inhabited α](pr:α->Bool)(xs:List α):cC pr xs = -1\/∃n,n<xs.length/\cC pr xs=(n:Nat)/\pr (nth xs n)=true:=by
 unfold cC;cases h:xs.findIdx? pr with
 | none=>exact .inl rfl
 | some i=>
  obtain⟨a,b,-⟩:=IE.1 h;exact .inr ⟨i,a,rfl,by rw[bI (z4 a)];exact b⟩
variable{i:Nat}{h:ac}
def M7{k:Nat}(a:i<h.J.length)(b:k<(bh h (nth h.J i).S).length)(c:qp h i (nth (bh h (nth h.J i).S) k)=false):zB h=false:=by
 unfold zB;exact cM a (ja (au b) c)
theorem JG(h:ac)(g:cP h.J)(b:AA h):zzA 56 false [.val (some 24) (ac.enc .O h)] .one [B (zB h)]:=by
 have j:=g.1;have D:ge h<=1048576:=b.1;refine fO 55 [(4,8,[14,15,16,17,18,19,20,21]),(8,6,[28,29,30,31,32,33]),(9,21,[34,35,36,37,38,39,40,41,42,43,44,45,46,47,48,49,50,51,52,53,54])] Tryz.func56 rfl ?_
 refine σP ?_
 refine g0 h.J.length (λi=>[(1,bX (ac.enc .O h)),(3,fN i)]) (λi=>dK i (λi=>(bh h (nth h.J i).S).all (qp h i))=true) rfl λi w=>?_
 obtain⟨w,E⟩:=w;by_cases l:i<h.J.length
 ·have o:=au l
  have F:=gR h (nth h.J i).S
  repeat'(first|refine gE ?_|refine CG (jQ h _ b) ?_)
  refine g0 ((bh h (nth h.J i).S).length) (λk=>[(1,bX (ac.enc .O h)),(3,fN i),(4,b8 (aI .own (bh h (nth h.J i).S))),(5,fN k)]) (λk=>((bh h (nth h.J i).S).take k).all (qp h i)=true) ψ λk y=>?_
  obtain⟨y,G⟩:=y;by_cases q:k<(bh h (nth h.J i).S).length
  ·have c:=au q
   have a:=mg h (nth (bh h (nth h.J i).S) k) j;rcases tE (qx (nth (bh h (nth h.J i).S) k)) h.J with e|⟨n,H,e,-⟩
   ·rw[show jf h (nth (bh h (nth h.J i).S) k) = -1 from e]at a
    have r:qp h i (nth (bh h (nth h.J i).S) k)=false:=by grind [qp,jf]
    repeat'(first|refine gE ?_|refine gS (λt=>?_) (λt=>?_)|fail)
    all_goals first
     | exact bE ((M7 l q r).symm)
     |(exfalso;omega)
   rw[show jf h (nth (bh h (nth h.J i).S) k)=(n:Nat) from e]at a;have J:=au H;have C:=qz (nth h.J i) (nth h.J n);have d:qp h i (nth (bh h (nth h.J i).S) k)=(decide ((n:Int)=(i:Nat)) || meshable (nth h.J i) (nth h.J n)):=by
    unfold qp;rw[show jf h (nth (bh h (nth h.J i).S) k)=(n:Nat) from e,O0 (p:=(0:Int)<=(n:Nat)) ω];simp
   cases u:meshable (nth h.J i) (nth h.J n)<;>rw[u]at C
   all_goals
    repeat'(first|refine gE ?_|refine gS (λt=>?_) (λt=>?_)|fail)
    all_goals first
     | exact bE ((M7 l q (by rw[d,u];grind)).symm)
     | ((conv=>whnf);exact dL (k+1) ⟨ω,dy c G (by rw[d,u];grind)⟩)
     |(exfalso;omega)
  refine σE ?_
  (exact dL (i+1) ⟨ω,co E ψ⟩)
 obtain rfl:i=h.J.length:=ω
 refine σE ?_
 exact bE ((by grind [zB]))
def T9(j:bz)(a:bz.sml j):zzA 63 false [.val (some 5) (bz.enc .O j)] .one [B (Ar j)]:=by
 have c:j.d.U.length<=1048576:=a;refine fO 30 [] Tryz.func63 rfl ?_
 repeat'(first|refine gP ?_|refine gS (λb=>?_) (λb=>?_)|fail)
 all_goals exact bE ((by unfold Ar;first|(symm;exact C1 ω)|(rw[C9,beq_iff_eq,C0];omega)))
theorem si(sp:List aC)(la:List aA)(a:Int):((denotes sp la a).a6=1->0<=(denotes sp la a).c0/\(denotes sp la a).c0.toNat<sp.length)/\((denotes sp la a).a6=3->0<=(denotes sp la a).c0/\(denotes sp la a).c0.toNat<la.length):=by grind [IE,denotes,uv]
theorem Pa(h:ac)(a c:Int)(d:cP h.J)(e:cV h.H)(b:bK h.J h.H=true)(j:nM a):zzA 179 false [.val (some 24) (ac.enc .O h),.vI a,.vI c] .one [B (ep h a c)]:=by
 have i:=rc h.J h.H a d e b j;obtain⟨g,-⟩:=si h.J h.H a;unfold ep;generalize denotes h.J h.H a=w at i g |-;refine fO 37 [] Tryz.func179 rfl ?_
 repeat'(first|refine gP ?_|refine gS (λk=>?_) (λk=>?_)|refine CS (g (by assumption)).1 (aa (au (g (by assumption)).2)) ?_)
 all_goals exact bE (ψ)
theorem GT(h:ac)(o:aW)(w:ll)(a:denotes h.J h.H o.Addr=w):nw h o=(decide (w.c1=0)&&((decide (w.a6=1)&&decide ((nth h.J w.c0.toNat).Z=aZ o.q)) || (decide (w.a6=3)&&decide ((nth h.H w.c0.toNat).q=o.q)))):=by grind [nw]
def lD(a:i<h.K.length)(b:objAt (IntKind.i64.wrap (h.j - 1)) h i=false):iS h=false:=cM a b
variable{a:Int}
theorem Q5(h1:jS a h i=false):objAt a h i=false:=by grind [objAt]
theorem RE(h1:(h.K.take i).any (jC (nth h.K i).Id)=true):objAt a h i=false:=by grind [objAt]
theorem R4(h1:nw h (nth h.K i)=false):objAt a h i=false:=by grind [objAt]
theorem GN(h1:jS a h i=true)(h2:(h.K.take i).any (jC (nth h.K i).Id)=false)(b:nw h (nth h.K i)=true):objAt a h i=true:=by grind [objAt]
theorem PY(h:ac)(l:cP h.J)(n:cV h.H)(g:bK h.J h.H=true)(H:h.K.length<=1048576)(J:h.Q.length<=1048576)(F:∀o∈h.K,nM o.Addr):zzA 61 false [.val (some 24) (ac.enc .O h)] .one [B (iS h)]:=by
 refine fO 117 [(5,33,[21,22,23,24,25,26,27,28,29,30,31,32,33,34,35,36,37,38,39,40,41,42,43,44,45,46,47,48,49,50,51,52,53]),(10,9,[59,60,61,62,63,64,65,66,67]),(13,16,[75,76,77,78,79,80,81,82,83,84,85,86,87,88,89,90]),(14,15,[91,92,93,94,95,96,97,98,99,100,101,102,103,104,105])] Tryz.func61 rfl ?_
 refine σP ?_
 refine g0 h.K.length (λi=>[(1,bX (ac.enc .O h)),(3,fN i)]) (λi=>dK i (objAt (IntKind.i64.wrap (h.j - 1)) h)=true) rfl λi t=>?_
 obtain⟨t,u⟩:=t;by_cases d:i<h.K.length
 ·have y:=au d
  have C:=rc h.J h.H (nth h.K i).Addr l n g (F _ (ay d));obtain⟨p,q⟩:=si h.J h.H (nth h.K i).Addr;have b:=GT h (nth h.K i) _ rfl;generalize denotes h.J h.H (nth h.K i).Addr=w at C p q b;by_cases c:jS (IntKind.i64.wrap (h.j - 1)) h i=true
  ·have a:=c
   unfold jS at a;rw[C0]at a
   repeat'(first|refine gE ?_|refine gS (λe=>?_) (λe=>?_)|refine CS ω (aa (iV ω d)) ?_|refine CG (aU _ _ _) ?_|refine CT rfl ?_)
   all_goals
    (conv=>whnf)
    refine g0 i (λk=>[(1,bX (ac.enc .O h)),(3,fN i),(4,bX (aW.enc .O (nth h.K i))),(5,fN k)]) (λk=>(h.K.take k).any (jC (nth h.K i).Id)=false) rfl λk D=>?_
    obtain⟨D,E⟩:=D;by_cases G:k<i
    ·have r:=au (xs:=h.K) (i:=k) ω
     repeat'(first|refine gE ?_|refine gS (λe=>?_) (λe=>?_)|fail)
     all_goals first
      | exact bE ((lD d (RE (JB (i:=k) (by rw[List.getElem?_take_of_lt G];exact r) (O0 (by assumption))))).symm)
      | ((conv=>whnf);exact dL (k+1) ⟨ω,EJ r E (C1 (by assumption))⟩)
    obtain rfl:k=i:=ω
    repeat'(first|refine gE ?_|refine gS (λe=>?_) (λe=>?_)|refine CS (p (by assumption)).1 (aa (au (p (by assumption)).2)) ?_|refine CS (q (by assumption)).1 (aa (au (q (by assumption)).2)) ?_|refine CG (ny _) ?_)
    all_goals first
     | exact bE ((lD d (R4 (by rw[b];grind))).symm)
     | ((conv=>whnf);exact dL (k+1) ⟨ω,co u (GN c E (by rw[b];grind))⟩)
     |(exfalso;omega)
  have j:jS (IntKind.i64.wrap (h.j - 1)) h i=false:=by simpa using c
  have a:=j;unfold jS at a;rw[z9]at a
  repeat'(first|refine gE ?_|refine gS (λe=>?_) (λe=>?_)|refine CS ω (aa (iV ω d)) ?_|refine CG (aU _ _ _) ?_|refine CT rfl ?_)
  all_goals first
   | exact bE ((lD d (Q5 j)).symm)
   |(exfalso;omega)
 obtain rfl:i=h.K.length:=ω
 refine σE ?_
 exact bE ((show true=iS h from u.symm))
theorem uK(o a:aW):zzA 236 false [.val (some 4) (aW.enc .O o),.ptr (aW.enc .O a)] .one [B (jC a.Id o)]:=by
 refine fO 9 [] Tryz.func236 rfl ?_
 refine σP ?_
 grind [jC]
theorem KI(h:ac)(n:cP h.J)(o:cV h.H)(G:h.K.length<=1048576)(H:h.Q.length<=1048576):zzA 94 false [.val (some 24) (ac.enc .O h)] .one [B (iS h)]:=by
 refine fO 105 [(4,33,[16,17,18,19,20,21,22,23,24,25,26,27,28,29,30,31,32,33,34,35,36,37,38,39,40,41,42,43,44,45,46,47,48]),(9,16,[62,63,64,65,66,67,68,69,70,71,72,73,74,75,76,77]),(10,15,[78,79,80,81,82,83,84,85,86,87,88,89,90,91,92])] Tryz.func94 rfl ?_
 refine σP ?_
 refine g0 h.K.length (λi=>[(1,bX (ac.enc .O h)),(9,b8 (gn .O h.K)),(10,fI h.K.length),(11,fN i)]) (λi=>dK i (objAt (IntKind.i64.wrap (h.j - 1)) h)=true) rfl λi D=>?_
 obtain⟨D,E⟩:=D;by_cases e:i<h.K.length
 ·have p:=au e
  have F:=n6 h.J h.H (nth h.K i).Addr n o;obtain⟨q,t⟩:=si h.J h.H (nth h.K i).Addr;have b:=GT h (nth h.K i) _ rfl;generalize denotes h.J h.H (nth h.K i).Addr=w at F q t b;have g:=yw (h.K.take i) (jC (nth h.K i).Id) ψ;by_cases c:jS (IntKind.i64.wrap (h.j - 1)) h i=true
  ·have a:=c
   unfold jS at a;rw[C0]at a;cases d:(h.K.take i).any (jC (nth h.K i).Id)<;>rw[d]at g
   ·repeat'(first|refine gE ?_|refine gS (λj=>?_) (λj=>?_)|refine CS ω (aa (iV ω e)) ?_|refine CG (aQ _ _ _) ?_|refine CZ i rfl kd (λr u=>by obtain⟨z,-,rfl⟩:=O8.1 u;rfl) (C8 ..) ?_|refine Cq.mk (sQ (some 4) (aW.enc .O) (jC (nth h.K i).Id) (h.K.take i)) (uK default (nth h.K i)).has (λL k rcs C=>by obtain⟨y,-,rfl,rfl,rfl⟩:=C;exact uK y (nth h.K i)) ?_|refine CS (q (by assumption)).1 (aa (au (q (by assumption)).2)) ?_|refine CS (t (by assumption)).1 (aa (au (t (by assumption)).2)) ?_|refine CG (n9 _) ?_|refine CT rfl ?_)
    all_goals first
     | exact bE ((lD e (R4 (by rw[b];grind))).symm)
     | ((conv=>whnf);exact dL (i+1) ⟨ω,co E (GN c d (by rw[b];grind))⟩)
     |(exfalso;omega)
   repeat'(first|refine gE ?_|refine gS (λj=>?_) (λj=>?_)|refine CS ω (aa (iV ω e)) ?_|refine CG (aQ _ _ _) ?_|refine CZ i rfl kd (λr u=>by obtain⟨z,-,rfl⟩:=O8.1 u;rfl) (C8 ..) ?_|refine Cq.mk (sQ (some 4) (aW.enc .O) (jC (nth h.K i).Id) (h.K.take i)) (uK default (nth h.K i)).has (λL k rcs C=>by obtain⟨y,-,rfl,rfl,rfl⟩:=C;exact uK y (nth h.K i)) ?_|refine CT rfl ?_)
   all_goals first
    | exact bE ((lD e (RE d)).symm)
    |(exfalso;omega)
  have l:jS (IntKind.i64.wrap (h.j - 1)) h i=false:=by simpa using c
  have a:=l;unfold jS at a;rw[z9]at a
  repeat'(first|refine gE ?_|refine gS (λj=>?_) (λj=>?_)|refine CS ω (aa (iV ω e)) ?_|refine CG (aQ _ _ _) ?_|refine CT rfl ?_)
  all_goals first
   | exact bE ((lD e (Q5 l)).symm)
   |(exfalso;omega)
 obtain rfl:i=h.K.length:=ω
 refine σE ?_
 exact bE ((show true=iS h from E.symm))
set_option maxHeartbeats 8000000
variable{n:Nat}{la:List aA}{sp:List aC}
theorem Un(h:mW sp la n=true):pG sp la (n+1)=pG sp la n++[(n:Int)]:=by grind [List.range_succ,pG]
theorem Vs(h:mW sp la n=false):pG sp la (n+1)=pG sp la n:=by grind [List.range_succ,pG]
theorem Hl(sp:List aC)(la:List aA)(n:Nat):(pG sp la n).length<=n:=by grind [pG]
theorem wX{w:ll}(a:denotes sp la (n:Nat)=w):mW sp la n=(decide (w.c1=0)&&(decide (w.a6=1) || decide (w.a6=3))):=by grind [mW]
def Yw(h:n<=1048576):nM (n:Nat):=⟨ω,ω⟩
theorem En(sp:List aC)(la:List aA)(c:cP sp)(d:cV la)(a:bK sp la=true):zzA 181 false [.val none (bH .O sp),.val none (bG .O la)] .one (aI .own (np sp la)):=by
 have g:=qg sp la c d;rw[a]at g;refine fO 40 [] Tryz.func181 rfl ?_ (.inr (bO _))
 refine σP ?_
 refine lp0 512 (λn=>[(0,b8 (bH .O sp)),(1,b8 (bG .O la)),(5,b8 (aI .own (pG sp la n))),(6,fN n)]) λn o=>?_
 have i:=Hl sp la n;by_cases p:n<512
 ·have h:=rc sp la (n:Nat) c d a (Yw ω)
  generalize j:denotes sp la (n:Nat)=w at h;have e:=wX j
  repeat'(first|refine gE ?_|refine gS (λk=>?_) (λk=>?_)|refine Ce dz (λr l=>by rw[z3.1 l];rfl) (by simp[b6,gj]) kd (by simp only[I2];exact wT kd qs) rfl ?_)
  all_goals first
   |(have b:mW sp la n=true:=by rw[e];grind
     (conv=>whnf)
     refine CQ (n+1) ω ω ?_;rw[Un b]
     (exact wD))
   |(have b:mW sp la n=false:=by rw[e];grind
     (conv=>whnf)
     refine CQ (n+1) ω ω ?_;rw[Vs b]
     (exact wA))
 obtain rfl:n=512:=ω
 refine σE ?_
 rfl
theorem BH(m:aJ)(a:m.e.length=m.T.length):∀i,i<=m.T.length->(((flight1 m i).length+(flight2 m i).length:Nat):Int)=bW m i
 | 0,_=>rfl
 | i+1,h=>by
  have d:=BH m a i ω;have b:=au (xs:=m.T) (i:=i) ω;have c:=au (xs:=m.e) (i:=i) ω;rw[rZ b,rq c];simp only[I5,I2];show _=bW m i+((nth m.T i).length+(nth m.e i).length);omega
theorem wY{m:aJ}(h:bN m=true):(bi m).length<=30:=by grind [BH,tN,bN]
def MF{m:aJ}(d:aJ.wf m):∀a∈bi m,nM a:=by
 intro a b;unfold bi at b;split at b
 ·rcases v5.1 b with h|h
  ·obtain⟨l,c,h⟩:=List.mem_flatMap.1 h
   obtain⟨p,e,rfl⟩:=O8.1 h;exact((d.1.2 l c).2 p e).2
  obtain⟨l,c,h⟩:=List.mem_flatten.1 h;exact(d.2.2 l c).2 a h
 cases b
theorem U1(h1:h.Q.all (gz h)=false):mf h=false:=by grind [mf,lO]
theorem RQ(h1:h.r.l.all (jG h)=false):mf h=false:=by grind [mf,lO]
theorem Tv(h1:(bi h.b).all (nI h)=false):mf h=false:=by grind [mf,lO]
theorem T5(a:i<(holders h).length)(b:nth (holders h) i∈(holders h).take i):mf h=false:=by
 have c:decide (holders h).Nodup=false:=Wi (S:=(holders h).take i) (p:=nth (holders h) i) (by
   have:=au a;have e:(holders h).take i++[nth (holders h) i]=(holders h).take (i+1):=by grind [SA]
   grind) b
 grind [mf]
variable{c:aB}
theorem Ah(a:h.Q[i]? = some c):((h.Q.take (i+1)).flatMap λc=>c.X.flatten)=((h.Q.take i).flatMap λc=>c.X.flatten)++c.X.flatten:=by grind [SA]
theorem Dd{k:Nat}{l:List Int}(a:c.X[k]? = some l):(c.X.take (k+1)).flatten=(c.X.take k).flatten++l:=by grind [SA]
theorem NJ(h:ac)(hs:ac.sml h)(hw:ac.wf h)(t:bK h.J h.H=true)(w:bN h.b=true)(U:∀c∈h.Q,bL c=true):zzA 62 false [.val (some 24) (ac.enc .O h)] .one [B (mf h)]:=by
 obtain⟨-,-,E,F,V,W,X,Y,-⟩:=hs;obtain⟨-,-,-,-,-,Z,hwm,hwq,-⟩:=hw;have hlo:h.K.length<=1048576:=V.1;have hlc:h.Q.length<=1048576:=W.1;have hlq:h.r.l.length<=1048576:=Y.1;have hfl:=wY w;have hfw:=MF hwm;have y:∀a c,nM a->zzA 179 false [.val (some 24) (ac.enc .O h),.vI a,.vI c] .one [B (ep h a c)]:=λa c ha=>Pa h a c E F t ha
 refine fO 159 [(16,8,[63,64,65,66,67,68,69,70]),(22,17,[86,87,88,89,90,91,92,93,94,95,96,97,98,99,100,101,102]),(29,7,[122,123,124,125,126,127,128]),(35,8,[142,143,144,145,146,147,148,149])] Tryz.func62 rfl ?_
 refine σP ?_
 refine pe (ι:=Nat × List Int) (λi=>[(1,bX (ac.enc .O h)),(3,b8 (aI .own i.2)),(4,fN (i.1))]) (λi=>i.1<=h.K.length/\i.2=(h.K.take i.1).map (·.Addr)) (λi=>h.K.length - i.1) ((0,[])) ψ λi u=>?_
 obtain⟨i,S⟩:=i;obtain⟨u,O⟩:=u;simp only at u O |-;have hSl:S.length=i:=ψ
 by_cases li:i<h.K.length
 ·have C:=au li
  repeat'(first|refine gE ?_|refine Ce dz (λr l=>by rw[z3.1 l];rfl) (by simp[b6,gj]) kd (by simp only[I2];exact wT kd qs) rfl ?_)
  ((conv=>whnf)
   refine CQ (i+1,S++[(nth h.K i).Addr]) ⟨(by simp only;omega),(by grind [SA])⟩ (by simp only;omega) ?_
   (exact wD))
 obtain rfl:i=h.K.length:=ω
 rw[S9]at O
 refine σE ?_
 refine pe (ι:=Nat × List Int) (λi=>[(1,bX (ac.enc .O h)),(3,b8 (aI .own i.2)),(5,fN (i.1))]) (λi=>i.1<=h.Q.length/\i.2=S++((h.Q.take i.1).flatMap λc=>c.X.flatten)/\(h.Q.take i.1).all (gz h)=true/\i.2.length<=1048576+32*i.1) (λi=>h.Q.length - i.1) ((0,S)) ψ λi u=>?_
 obtain⟨i,S2⟩:=i;obtain⟨hi2,n,ai,G⟩:=u;simp only at hi2 n ai G |-;by_cases li2:i<h.Q.length
 ·have C:=au li2
  obtain⟨h4,h8⟩:=zO (U _ (ay li2));have hwl:=Z.2 _ (ay li2)
  refine σE ?_
  refine pe (ι:=Nat × List Int) (λk=>[(1,bX (ac.enc .O h)),(3,b8 (aI .own k.2)),(5,fN i),(6,fN (k.1))]) (λk=>k.1<=(nth h.Q i).X.length/\k.2=S2++((nth h.Q i).X.take k.1).flatten/\dK k.1 (yf h (nth h.Q i))=true/\k.2.length<=S2.length+8*k.1) (λk=>(nth h.Q i).X.length - k.1) ((0,S2)) (⟨I1 _,by simp,rfl,by simp⟩) λk hk=>?_
  obtain⟨k,P⟩:=k;obtain⟨hk,H,ak,hb3⟩:=hk;simp only at hk H ak hb3 |-;by_cases Q:k<(nth h.Q i).X.length
  ·have hy:=au Q
   have hl8:=h8 _ (ay Q);have hwa:=(hwl.2 _ (ay Q)).2
   refine σE ?_
   refine pe (ι:=Nat × List Int) (λj=>[(1,bX (ac.enc .O h)),(3,b8 (aI .own j.2)),(5,fN i),(6,fN k),(7,b8 (aI .O (nth (nth h.Q i).X k))),(8,fN (j.1))]) (λj=>j.1<=(nth (nth h.Q i).X k).length/\j.2=P++(nth (nth h.Q i).X k).take j.1/\((nth (nth h.Q i).X k).take j.1).all (λa=>ep h a (k:Nat))=true) (λj=>(nth (nth h.Q i).X k).length - j.1) ((0,P)) ψ λj hj=>?_
   obtain⟨j,S4⟩:=j;obtain⟨hj,J,R⟩:=hj;simp only at hj J R |-;have hl4:S4.length=P.length+j:=ψ
   by_cases lj:j<(nth (nth h.Q i).X k).length
   ·have d:=au lj
    have b:=y (nth (nth (nth h.Q i).X k) j) (k:Nat) ψ;cases g:ep h (nth (nth (nth h.Q i).X k) j) (k:Nat)<;>rw[g]at b
    ·refine σE ?_
     exact bE ((U1 (ja C (by unfold gz;exact cM Q (ja d g)))).symm)
    repeat'(first|refine gE ?_|refine Ce dz (λr l=>by rw[z3.1 l];rfl) (by simp[b6,gj]) kd (by show _*8<=_;simp;omega) rfl ?_)
    ((conv=>whnf)
     refine CQ (j+1,S4++[nth (nth (nth h.Q i).X k) j]) ⟨(by simp only;omega),(by grind [SA]),dy d R g⟩ (by simp only;omega) ?_
     (exact wD))
   obtain rfl:j=(nth (nth h.Q i).X k).length:=ω
   rw[S9]at J R
   refine σE ?_
   (exact dL (k+1,S4) ⟨(by simp only;omega),(by grind [Dd]),co ak R,(by simp only;omega)⟩)
  obtain rfl:k=(nth h.Q i).X.length:=ω
  rw[S9]at H
  refine σE ?_
  (exact dL (i+1,P) ⟨(by simp only;omega),(by grind [Ah]),dy C ai ak,(by simp only;omega)⟩)
 obtain rfl:i=h.Q.length:=ω
 rw[S9]at n ai
 refine σE ?_
 refine pe (ι:=Nat × List Int) (λq=>[(1,bX (ac.enc .O h)),(3,b8 (aI .own q.2)),(9,fN (q.1))]) (λq=>q.1<=h.r.l.length/\q.2=S2++(h.r.l.take q.1).map (·.Addr)/\(h.r.l.take q.1).all (jG h)=true) (λq=>h.r.l.length - q.1) ((0,S2)) ψ λq K=>?_
 obtain⟨q,L⟩:=q;obtain⟨D,o,aq⟩:=K;simp only at D o aq |-;have hl5:L.length=S2.length+q:=ψ
 by_cases T:q<h.r.l.length
 ·have d:=au T
  have b:=y (nth h.r.l q).Addr (nth h.r.l q).Z (hwq.2.2 _ (ay T)).1;cases g:ep h (nth h.r.l q).Addr (nth h.r.l q).Z<;>rw[g]at b
  ·refine σE ?_
   exact bE ((RQ (ja d g)).symm)
  repeat'(first|refine gE ?_|refine Ce dz (λr l=>by rw[z3.1 l];rfl) (by simp[b6,gj]) kd (by show _*8<=_;simp;omega) rfl ?_)
  ((conv=>whnf)
   refine CQ (q+1,L++[(nth h.r.l q).Addr]) ⟨(by simp only;omega),(by grind [SA]),dy d aq g⟩ (by simp only;omega) ?_
   (exact wD))
 obtain rfl:q=h.r.l.length:=ω
 rw[S9]at o aq
 repeat'(first|refine gE ?_|refine CG (FJ h.b X) ?_)
 refine pe (ι:=Nat × List Int) (λq=>[(1,bX (ac.enc .O h)),(3,b8 (aI .own q.2)),(10,b8 (aI .own (bi h.b))),(11,fN (q.1))]) (λq=>q.1<=(bi h.b).length/\q.2=L++(bi h.b).take q.1/\((bi h.b).take q.1).all (nI h)=true) (λq=>(bi h.b).length - q.1) ((0,L)) ψ λq K=>?_
 obtain⟨q,e⟩:=q;obtain⟨D,p,aq6⟩:=K;simp only at D p aq6 |-;have hl6:e.length=L.length+q:=ψ
 by_cases T:q<(bi h.b).length
 ·have d:=au T
  have b:=y (nth (bi h.b) q) (-1) ψ;cases g:ep h (nth (bi h.b) q) (-1)<;>rw[g]at b
  ·refine σE ?_
   exact bE ((Tv (ja d g)).symm)
  repeat'(first|refine gE ?_|refine Ce dz (λr l=>by rw[z3.1 l];rfl) (by simp[b6,gj]) kd (by show _*8<=_;simp;omega) rfl ?_)
  ((conv=>whnf)
   refine CQ (q+1,e++[nth (bi h.b) q]) ⟨(by simp only;omega),(by grind [SA]),dy d aq6 g⟩ (by simp only;omega) ?_
   (exact wD))
 obtain rfl:q=(bi h.b).length:=ω
 rw[S9]at p aq6;have M:e=holders h:=by rw[p,o,n,O];rfl
 have hheld:lO h=true:=by grind [lO]
 have hbig:e.length<=100000000:=ω
 clear p o n O hSl hl5 G hl6
 refine σE ?_
 refine Lp.fz 3 (ι:=Nat) (λi=>[(1,bX (ac.enc .O h)),(3,b8 (aI .O e)),(12,fN i)]) (λi=>i<=e.length/\(e.take i).Nodup) (λi=>e.length - i) 0 ?_ ψ λi u=>?_
 ·(repeat'(first|exact tV1|rfl|exact CL rfl (show Tl (du (aI .own e)) (aI .O e) by rw[eI];exact lX _)|refine CL ?_ ?_))
 obtain⟨u,N⟩:=u;by_cases lj:i<e.length
 ·have d:=au lj
  have htl:(e.take i).length=i:=ψ
  repeat'(first|refine gE ?_|refine gS (λK=>?_) (λK=>?_)|refine CZ i rfl kd (λr l=>by obtain⟨z,-,rfl⟩:=O8.1 l;rfl) (C8 ..) ?_|refine CG (qX (e.take i) _ ω) ?_)
  all_goals first
   | exact bE ((by rw[M]at *;exact(T5 (by assumption) (by assumption)).symm))
   | ((conv=>whnf);exact dL (i+1) ⟨ω,by rw[SA,d];exact oQ N (by assumption)⟩)
 obtain rfl:i=e.length:=ω
 rw[S9]at N;have hlv:=Hl h.J h.H 512
 repeat'(first|refine gE ?_|refine CG (En h.J h.H E F t) ?_)
 exact bE ((by grind [mf]))
set_option maxHeartbeats 8000000
def eP(h:ac):Bool:=(bN h.b&&decide (h.Q.length=h.b.T.length))&&ir h.r
def dQ(h:ac):Bool:=((((((pc h&&zB h)&&eP h)&&pu h)&&h.Q.all bL)&&cU h)&&(iS h&&mf h))&&xe h
theorem zD(h:ac)(V:ac.sml h)(W:ac.wf h):zzA 15 false [.val (some 24) (ac.enc .O h)] .one [B (dQ h)]:=by
 have L:=V;have M:=W;obtain⟨u,w,b,j,N,y,C,D,E⟩:=V;obtain⟨-,-,-,-,O,hwc,hwm,hwq,-⟩:=W;have l:AA h:=u.1.2;have hpn:ge h<=1048576:=l.1;have P:h.K.length<=1048576:=N.1;have Q:h.Q.length<=1048576:=y.1;have hlq:h.r.l.length<=1048576:=D.1;have hlb:h.b.T.length<=1048576:=C.1.1;have d:=vF h.G u;have e:=pZ (ge h) h.a ω w;have g:=qg h.J h.H b j;have r:=JG h b l;have F:=pA h.b C;have R:=u5 h.r D;cases X:aN h.G<;>rw[X]at d
 ·refine fO 150 [(8,10,[67,68,69,70,71,72,73,74,75,76])] Tryz.func15 rfl ?_
  repeat'(first|refine gP ?_|refine gS (λa=>?_) (λa=>?_)|fail)
  all_goals first
   | exact bE ((by unfold dQ pc;rw[X];simp))
   |(exfalso;omega)
 cases Y:bR (ge h) h.a<;>rw[Y]at e
 ·refine fO 150 [(8,10,[67,68,69,70,71,72,73,74,75,76])] Tryz.func15 rfl ?_
  repeat'(first|refine gP ?_|refine gS (λa=>?_) (λa=>?_)|fail)
  all_goals first
   | exact bE ((by unfold dQ pc;rw[Y];simp))
   |(exfalso;omega)
 cases G:bK h.J h.H<;>rw[G]at g
 ·refine fO 150 [(8,10,[67,68,69,70,71,72,73,74,75,76])] Tryz.func15 rfl ?_
  repeat'(first|refine gP ?_|refine gS (λa=>?_) (λa=>?_)|fail)
  all_goals first
   | exact bE ((by unfold dQ pc;rw[G];simp))
   |(exfalso;omega)
 have n:=M0 h b j l w G;cases Z:pages0 h<;>rw[Z]at n
 ·refine fO 150 [(8,10,[67,68,69,70,71,72,73,74,75,76])] Tryz.func15 rfl ?_
  repeat'(first|refine gP ?_|refine gS (λa=>?_) (λa=>?_)|fail)
  all_goals first
   | exact bE ((by unfold dQ pc;rw[Z];simp))
   |(exfalso;omega)
 cases e5:zB h<;>rw[e5]at r
 ·refine fO 150 [(8,10,[67,68,69,70,71,72,73,74,75,76])] Tryz.func15 rfl ?_
  repeat'(first|refine gP ?_|refine gS (λa=>?_) (λa=>?_)|fail)
  all_goals first
   | exact bE ((by unfold dQ ;rw[e5];simp))
   |(exfalso;omega)
 cases S:bN h.b<;>rw[S]at F
 ·refine fO 150 [(8,10,[67,68,69,70,71,72,73,74,75,76])] Tryz.func15 rfl ?_
  repeat'(first|refine gP ?_|refine gS (λa=>?_) (λa=>?_)|fail)
  all_goals first
   | exact bE ((by unfold dQ eP;rw[S];simp))
   |(exfalso;omega)
 by_cases T:h.Q.length=h.b.T.length;rotate_left
 ·refine fO 150 [(8,10,[67,68,69,70,71,72,73,74,75,76])] Tryz.func15 rfl ?_
  repeat'(first|refine gP ?_|refine gS (λa=>?_) (λa=>?_)|fail)
  all_goals first
   | exact bE ((by unfold dQ eP;rw[C1 T];simp))
   |(exfalso;omega)
 cases e7:ir h.r<;>rw[e7]at R
 ·refine fO 150 [(8,10,[67,68,69,70,71,72,73,74,75,76])] Tryz.func15 rfl ?_
  repeat'(first|refine gP ?_|refine gS (λa=>?_) (λa=>?_)|fail)
  all_goals first
   | exact bE ((by unfold dQ eP;rw[e7];simp))
   |(exfalso;omega)
 have hlay:pc h=true:=by grind [pc]
 have hmc:eP h=true:=by grind [eP]
 refine fO 150 [(8,10,[67,68,69,70,71,72,73,74,75,76])] Tryz.func15 rfl ?_
 repeat'(first|refine gB ?_|refine gS (λa=>?_) (λa=>?_)|fail)
 all_goals try(exfalso;omega)
 (conv=>whnf)
 refine g0 h.r.l.length (λi=>[(1,bX (ac.enc .O h)),(3,fN i)]) (λi=>(h.r.l.take i).all (λx=>decide (x.a9<=h.a4))=true) ψ λi hi=>?_
 obtain⟨hi,ai⟩:=hi;by_cases li:i<h.r.l.length
 ·have p:=au li
  repeat'(first|refine gE ?_|refine gS (λa=>?_) (λa=>?_)|fail)
  all_goals first
   | exact bE ((by unfold dQ pu;rw[ja p (C1 ω)];simp))
   | ((conv=>whnf);exact dL (i+1) ⟨ω,dy p ai (O0 ω)⟩)
 have hsi:pu h=true:=rY ω ai
 refine σE ?_
 refine g0 h.Q.length (λk=>[(1,bX (ac.enc .O h)),(4,fN k)]) (λk=>(h.Q.take k).all bL=true) ψ λk hk=>?_
 obtain⟨hk,ak⟩:=hk;by_cases lk:k<h.Q.length
 ·have p:=au lk
  have U:=rA (nth h.Q k) (y.2 _ (ay lk));cases e8:bL (nth h.Q k)<;>rw[e8]at U
  ·refine σE ?_
   exact bE ((by grind [dQ]))
  refine σE ?_
  (exact dL (k+1) ⟨ω,dy p ak e8⟩)
 have hca:h.Q.all bL=true:=rY ω ak;have q:=PY h b j G P Q (λo ho=>(O.2 o ho).2.1);have c10:=NJ h L M G S ψ;have c11:=T9 h.a2 E;have c12:=BS h.a2 E;have c13:=mg h h.a2.d.a5 b.1;have c14:=mg h h.a2.d.a7 b.1;by_cases hn:cU h=true;rotate_left
 ·have H:cU h=false:=by simpa using hn
  have c:=H;unfold cU at c;rw[z9]at c;cases K:iS h<;>rw[K]at q<;>cases e10:mf h<;>rw[e10]at c10
  all_goals
   repeat'(first|refine gE ?_|refine gS (λa=>?_) (λa=>?_)|refine CG (aU _ _ _) ?_)
   all_goals first
    | exact bE ((by unfold dQ;rw[H];simp))
    |(exfalso;omega)
 have c:=hn;unfold cU at c;rw[C0]at c;cases K:iS h<;>rw[K]at q
 ·repeat'(first|refine gE ?_|refine gS (λa=>?_) (λa=>?_)|refine CG (aU _ _ _) ?_)
  all_goals first
   | exact bE ((by unfold dQ;rw[K];simp))
   |(exfalso;omega)
 cases e10:mf h<;>rw[e10]at c10
 ·repeat'(first|refine gE ?_|refine gS (λa=>?_) (λa=>?_)|refine CG (aU _ _ _) ?_)
  all_goals first
   | exact bE ((by unfold dQ;rw[e10];simp))
   |(exfalso;omega)
 have J:dQ h=xe h:=by grind [dQ]
 rw[J];unfold xe;cases em:h.w
 ·repeat'(first|refine gE ?_|refine gS (λa=>?_) (λa=>?_)|refine CG (aU _ _ _) ?_|refine Bf.f em ?_)
  grind
 cases e12:md h.a2<;>rw[e12]at c12
 all_goals
  repeat'(first|refine gE ?_|refine gS (λa=>?_) (λa=>?_)|refine CG (aU _ _ _) ?_|refine Bf.t em ?_)
  all_goals first
   | exact bE (ψ)
   |(exfalso;omega)
set_option maxHeartbeats 4000000
def sorted(xs:List Int):List Int:=xs.mergeSort λx y=>decide (x<=y)
theorem E2(xs:List Int):(sorted xs).length=xs.length:=List.length_mergeSort ..
theorem NN{w a:World}{g:Nat}{d:Array Int}{h:Array Obj}{c:Array Value}{e:TypeId}{i:Nat × Nat}(j:w.heap[g]? = some (.cells c e i))(k:a=Sort.grow (Sort.putRow (Value.int .i64) (Sort.ahead w n) g 0 d) h) :
  a.os=w.os/\a.tape=w.tape/\a.output=w.output/\w.heap.size<=a.heap.size/\(∀b,b<w.heap.size->b≠g->a.heap[b]? = w.heap[b]?)/\a.heap[g]? = some (.cells (Sort.putCells (Value.int .i64) 0 d c) e i):=by
 subst k;have f:g<w.heap.size:=ψ
 have l:∀b,b<w.heap.size->(Sort.grow (Sort.putRow (Value.int .i64) (Sort.ahead w n) g 0 d) h).heap[b]? = if g=b then(w.heap[b]?).map (Sort.onCells (Sort.putCells (Value.int .i64) 0 d)) else w.heap[b]?:=λb o=>by grind [Go.Sort.heap_grow_old,Go.Sort.putRow,Go.Sort.mapBlock,Go.Sort.ahead]
 refine⟨rfl,rfl,rfl,?_,λb o p=>?_,?_⟩
 ·grind
 ·grind
 rw[l g f,CK rfl,j];rfl
theorem Xk(d:Array Int)(c:Array Value)(q:Nat):(Sort.putCells (Value.int .i64) 0 d c)[q]? = if q<d.size then(c[q]?).map (λ_=>.int .i64 d[q]!) else c[q]?:=by grind [Go.Sort.putCells]
theorem row1{w:World}{S Y:am}{c:C}{v:Value}(h:dw w S Y c v):cD w S Y [c] (λ_=>v):=by
 refine⟨λ_=>Y,λj a b=>?_,λ_ _ _ _ h=>h,ψ⟩
 all_goals grind
def atZ(Y:am):Nat->am
 | 0=>Y
 | _+1=>NO
variable{j:Nat}
theorem Wd(xs:List Int)(a:j<xs.length):xs.toArray[j]! = xs[j]:=ψ
theorem Yu(xs:List Int)(hl:xs.length<=1048576*64):zzB 368 false [.mut none (aI .own xs)] [.mut none (aI .own (sorted xs))] (.tup []) []:=by
 refine⟨⟨_,Tryz.func368,by kernel_rfl,by kernel_rfl⟩,λw S V vs hS hV hVV O=>?_⟩
 match vs,O with
 | [v],⟨O,_⟩=>
  have y:=bD.rep1 (show bD w S (V 0) none [C.s .own (xs.map (rI .own))] v from O);generalize D:C.s .own (xs.map (rI .own))=cc at y;cases y with
  | nil _ o a P=>
   cases hcc0:xs with
   | cons x xs'=>grind
   | nil=>
    refine(Tryz.slices_Sort_int_none a 0 w).mono λe p ⟨Q,E⟩=>?_
    subst E;refine⟨.tuple #[],Q,Cn _ _,NO,λ_=>NO,NO,λ_ _ h=>h.elim,λ_ _ _ h=>h.elim,λ_ _ h=>h.elim,λ_ _ _ _ _ h=>h.elim,λ_ _ _ h=>h.elim,λ_ _ h=>h.elim,λ_ _ _ h=>h.elim,⟨#[],rfl,tV1,rfl⟩,cD.nil _ _ _ _,⟨⟨rfl,λ_=>.slice a 0 0,rfl,row1 (by rw[show sorted []=[] from List.mergeSort_nil ..];exact .nil _ .own _ tV1)⟩,tV1⟩⟩
  | suf _ o g off k n t G u f P=>cases D;exact P.elim
  | own _ o g k n t G u f P hn hk H J hF hu hf hd hc=>
   cases D;have R:n=xs.length:=ψ
   have T:0<xs.length:=ω
   have U:k=1:=by
    have:=hk (rI .own xs[0]) ψ;exact this.symm
   subst U R;have B:∀j (l:j<xs.length),cel w g j=some (.int .i64 xs[j]):=λj l=>by
    have h1:=hu j ω;have W:=hc j 0 (rI .own xs[j]) (I xs[j]) ψ rfl;rw[Nat.mul_one,Nat.add_zero]at W;rw[h1];generalize u j=z at W;cases W
    rfl
   have X:g<w.heap.size:=ψ
   obtain⟨c,e0,fr,hg,-⟩:=Sort.cells_of_cell? (B 0 T);have hH:Sort.Holds (Value.int .i64) w g 0 xs.toArray:=λj l=>by
    have K:j<xs.length:=by simpa using l
    refine⟨?_,?_⟩
    ·rw[Wd xs K,CE];exact B j K
    rw[CE];exact O1 Prod.fst (hF j ω).2.2
   refine(Tryz.slices_Sort_int g 0 t xs w hH X ω).mono λe p ⟨Q,m,os,E⟩=>?_
   obtain⟨q1,q2,q3,q4,q5,q6⟩:=NN hg E;have hsl:=E2 xs;have hcel:∀q,cel w g q=c[q]?:=λq=>by grind [Go.World.cell?]
   have Y:∀q,cel p g q=if q<xs.length then(c[q]?).map (λ_=>.int .i64 (sorted xs).toArray[q]!) else c[q]?:=λq=>by grind [Xk,Go.World.cell?,sorted]
   have d:∀q (Z:q<xs.length),cel p g q=some (.int .i64 ((sorted xs)[q]'(ω))):=ψ
   have L:∀q,fro p g q=fro w g q:=λq=>by
    refine Prod.ext ?_ ?_
    ·grind [Go.World.frozen?]
    grind [mp,Go.Sort.putCells]
   have hother:∀b,b<w.heap.size->b≠g->∀o,cel p b o=cel w b o/\fro p b o=fro w b o:=λb hb M o=>by grind [Go.World.cell?,Go.World.frozen?,mp]
   have F:bM (λb o=>∃i,V i b o) w p:=by
    refine⟨q1,q2,q3,q4,ψ,λb o hb hn=>?_,λb o hb hn=>?_⟩
    all_goals grind
   refine⟨.tuple #[],Q,F,NO,atZ (V 0),NO,λ_ _ h=>h.elim,λi b o h=>?_,λ_ _ h=>h.elim,λi i' M b o h h'=>?_,λ_ _ _ h=>h.elim,λ_ _ h=>h.elim,λ_ _ _ _ h=>h.elim,⟨#[],rfl,tV1,rfl⟩,cD.nil _ _ _ _,⟨⟨rfl,λ_=>.slice (some ⟨g,0,none⟩) xs.length t,rfl,row1 ?_⟩,tV1⟩⟩
   ·cases i with
    | zero=>exact .inl ⟨0,h⟩
    | succ i=>exact h.elim
   ·cases i with
    | zero=>
     cases i' with
     | zero=>exact M rfl
     | succ i'=>exact h'.elim
    | succ i=>exact h.elim
   show dw p _ (V 0) _ _;refine .own _ .own g 1 xs.length t _ (λq=>(cel p g q).getD undef) (λ_=>NO) tV1 ψ (λr hr=>by obtain⟨z,-,rfl⟩:=O8.1 hr;rfl) H J (λq Z=>?_) (λq Z=>?_) (λ_ _ _ _ h=>h.elim) (λ_ _ _ _ _ _ _ h=>h.elim) (λi j r c2 N l=>?_)
   ·obtain⟨a1,⟨z,a2,a3⟩,a4⟩:=hF q Z
    refine⟨a1,?_,(L q).trans a4⟩;by_cases hqx:q<xs.length
    ·exact⟨_,d q hqx,rfl⟩
    grind
   ·grind
   rw[C5]at N;have hil:i<(sorted xs).length:=ψ
   rw[z4 hil]at N;simp only[CA,C2]at N;subst N
   match j,l with
   | 0,l=>
    simp only[rI,List.getElem?_cons_zero,C2]at l;subst l;simp only[Nat.mul_one,Nat.add_zero,d i ω,Option.getD_some];exact .v _ _ rfl
   | j+1,l=>simp[rI]at l
  | _=>cases D
set_option maxHeartbeats 8000000
def me(s:aC)(k:Nat):Int:=16*s.S+(k:Nat)*csz s.Z
def fZ(s:aC)(n:Nat):List Int:=((List.range n).filter λk=>br s.a3 (k:Nat)).map (me s)
variable{s:aC}
theorem HK(h:br s.a3 (n:Nat)=true):fZ s (n+1)=fZ s n++[me s n]:=by grind [List.range_succ,fZ]
theorem KN(h:br s.a3 (n:Nat)=false):fZ s (n+1)=fZ s n:=by grind [List.range_succ,fZ]
theorem yj(s:aC)(n:Nat):(fZ s n).length<=n:=by grind [fZ]
def ib(sp:List aC):List Int:=sp.flatMap λs=>fZ s (slots s.Z).toNat
def live0(sp:List aC)(la:List aA):List Int:=ib sp++la.map λl=>16*l.S
def tL(sp:List aC)(la:List aA):List Int:=sorted (live0 sp la)
theorem xt(k:Int):0<=slots k/\slots k<=16:=by grind [slots]
def GV{k:Int}(h:0<=k/\k<=3):slots k*csz k=16:=by
 obtain rfl|rfl|rfl|rfl:k=0\/k=1\/k=2\/k=3:=ω
 all_goals decide
theorem Em(h:sp[i]? = some s):ib (sp.take (i+1))=ib (sp.take i)++fZ s (slots s.Z).toNat:=by grind [SA,ib]
def vK(s:aC)(k:Nat)(a:bu s=true)(i:(k:Int)<slots s.Z):zzA 367 false [.val (some 3) (aC.enc .O s),.vI (k:Nat)] .one [I (me s k)]:=by
 have b:=jm s;have c:=dN s.Z;have g:=iu s.Z;rw[a]at b;have d:=aT a;have j:=xt s.Z;rcases dx ⟨d.2.2.1,d.2.2.2⟩ with e|e|e|e<;>rw[e]at c
 all_goals
  refine fO 26 [(3,9,[17,18,19,20,21,22,23,24,25])] Tryz.func367 rfl ?_
  repeat'(first|refine gE ?_|refine gS (λh=>?_) (λh=>?_)|refine CG (aQ _ 0 _) ?_)
  all_goals exact eE (by unfold me;rw[e];omega)
theorem B7(sp:List aC)(la:List aA)(c:cP sp)(d:cV la)(a:bK sp la=true):zzA 240 false [.val none (bH .O sp),.val none (bG .O la)] .one (aI .own (tL sp la)):=by
 have D:=c.1;have E:=d.1;have B:=vC sp la c d;rw[a]at B;obtain⟨o,F,-⟩:=gq a;refine fP 56 [(368,[1])] [] Tryz.func240 rfl ?_ (.inr (bO _))
 refine σP ?_
 refine pe (ι:=Nat × List Int) (λi=>[(1,b8 (bG .O la)),(5,b8 (aI .own i.2)),(16,b8 (bH .O sp)),(17,fI sp.length),(18,fN (i.1))]) (λi=>i.1<=sp.length/\i.2=ib (sp.take i.1)/\i.2.length<=16*i.1) (λi=>sp.length - i.1) ((0,[])) (⟨I1 _,rfl,I1 _⟩) λi e=>?_
 obtain⟨i,S⟩:=i;obtain⟨e,p,G⟩:=e;simp only at e p G |-;by_cases j:i<sp.length
 ·have n:=au j
  have g:bu (nth sp i)=true:=Y4 o j;have H:=xt (nth sp i).Z;have q:=gF g
  refine σE ?_
  refine pe (ι:=Nat × List Int) (λk=>[(1,b8 (bG .O la)),(5,b8 (aI .own k.2)),(7,bX (aC.enc .O (nth sp i))),(8,fN (k.1)),(16,b8 (bH .O sp)),(17,fI sp.length),(18,fN i)]) (λk=>k.1<=(slots (nth sp i).Z).toNat/\k.2=S++fZ (nth sp i) k.1) (λk=>(slots (nth sp i).Z).toNat - k.1) ((0,S)) (⟨I1 _,by simp[fZ]⟩) λk t=>?_
  obtain⟨k,S2⟩:=k;obtain⟨t,b⟩:=t;simp only at t b |-;have J:=yj (nth sp i) k;have h:S2.length=S.length+(fZ (nth sp i) k).length:=ψ
  by_cases M:k<(slots (nth sp i).Z).toNat
  ·have u:=jn (nth sp i).a3 (k:Nat) q.2
   cases K:br (nth sp i).a3 (k:Nat)<;>rw[K]at u
   ·repeat'(first|refine gE ?_|refine CG (iu _) ?_)
    (exact dL (k+1,S2) ⟨(by simp only;omega),(by grind [KN])⟩)
   repeat'(first|refine gE ?_|refine CG (iu _) ?_|refine CG (vK (nth sp i) k g ω) ?_|refine Ce dz (λr w=>by rw[z3.1 w];rfl) (by simp[b6,gj]) kd (by show _*8<=_;simp;omega) rfl ?_)
   ((conv=>whnf)
    refine CQ (k+1,S2++[me (nth sp i) k]) ⟨(by simp only;omega),(by grind [HK])⟩ (by simp only;omega) ?_
    (exact wD))
  obtain rfl:k=(slots (nth sp i).Z).toNat:=ω
  repeat'(first|refine gE ?_|refine CG (iu _) ?_)
  (exact dL (i+1,S2) ⟨(by simp only;omega),(by grind [Em]),(by simp only;omega)⟩)
 obtain rfl:i=sp.length:=ω
 rw[S9]at p
 refine σE ?_
 refine pe (ι:=Nat × List Int) (λi=>[(5,b8 (aI .own i.2)),(40,b8 (bG .O la)),(41,fI la.length),(42,fN (i.1))]) (λi=>i.1<=la.length/\i.2=S++(la.take i.1).map (λl=>16*l.S)) (λi=>la.length - i.1) ((0,S)) ψ λi e=>?_
 obtain⟨i,S2⟩:=i;obtain⟨y,b⟩:=e;simp only at y b |-;have h:S2.length=S.length+i:=ψ
 by_cases j:i<la.length
 ·have n:=au j
  have L:=zj a n
  repeat'(first|refine gE ?_|refine Ce dz (λr w=>by rw[z3.1 w];rfl) (by simp[b6,gj]) kd (by show _*8<=_;simp;omega) rfl ?_)
  ((conv=>whnf)
   refine CQ (i+1,S2++[16*(nth la i).S]) ⟨(by simp only;omega),(by grind [SA])⟩ (by simp only;omega) ?_
   (repeat'(first|exact tV1|rfl|exact CL rfl (CL (O1 (C.s eS.own) (by simp[rI];omega)) tV1)|refine CL ?_ ?_)))
 obtain rfl:i=la.length:=ω
 rw[S9]at b
 repeat'(first|refine gE ?_|refine CP (Yu S2 ω) (.inl rfl) ?_)
 show _=aI .own (sorted (ib sp++la.map λl=>16*l.S));rw[<-p,<-b];rfl
def vP(b:List (Int × Value))(L:List Int):Prop:=∀a,mlook b a (.int .i64 0)=.int .i64 (L.count a:Nat)
theorem Td(c:List (Int × Value))(a b:Int)(v d:Value):mlook (mput c a v) b d=if a=b then v else mlook c b d:=by
 induction c with
 | nil=>grind [mput,mlook]
 | cons p c e=>
  grind [mput,mlook]
def inc(b:List (Int × Value))(L:List Int)(a:Int):List (Int × Value):=mput b a (.int .i64 ((L.count a:Nat)+1))
def T8:vP [] []:=λ_=>rfl
theorem uY{d:List (Int × Value)}{L:List Int}(h:vP d L)(a:Int):vP (inc d L a) (L++[a]):=λb=>by
 unfold inc;rw[Td,CC];by_cases c:a=b
 ·grind
 rw[CJ c,h b,List.count_singleton,CJ (by simpa using c)];rfl
theorem JQ(h:ac)(d:cP h.J)(e:cV h.H)(b:List (Int × Value))(L:List Int)(a c:Int)(g:vP b L)(n:L.length<=1000000000) :
  zzB 238 false [.vI a,.vI c,.ptr [.m b],.ptr (ac.enc .O h)] [.vI a,.vI c,.ptr [.m (inc b L a)],.ptr (ac.enc .O h)] .one [B (ep h a c)]:=by
 have j:=n6 h.J h.H a d e;obtain⟨i,-⟩:=si h.J h.H a;have k:L.count a<=L.length:=List.count_le_length;unfold ep;generalize denotes h.J h.H a=w at j i |-;refine fM 41 [] [] [(0,0),(0,0),(0,0),(0,0)] Tryz.func238 rfl (λu q=>?_)
 repeat'(first|refine gP ?_|refine gS (λl=>?_) (λl=>?_)|refine Ml.mk (g a) ?_|refine Mu.mk (es':=inc b L a) rfl ?_|refine CS (i (by assumption)).1 (aa (au (i (by assumption)).2)) ?_)
 all_goals
  refine CO rfl ?_ ?_
  ·exact bE (ψ)
  exact wB
set_option maxHeartbeats 8000000
def xJ(h:ac)(a:aK):Bool:=jG h a&&decide (a.a9<=h.a4)
def qD(h:ac):List Int:=((dB h++h.r.l.map (·.Addr))++bi h.b)++h.K.map (·.Addr)
def ma(h:ac):Bool:=((h.Q.all (gz h)&&h.r.l.all (xJ h))&&(bi h.b).all (nI h))&&(tL h.J h.H).all λa=>decide ((qD h).count a=1)
theorem Yr(h1:h.Q.all (gz h)=false):ma h=false:=by grind [ma]
theorem RJ(h1:h.r.l.all (xJ h)=false):ma h=false:=by grind [ma]
theorem XS(h1:(bi h.b).all (nI h)=false):ma h=false:=by grind [ma]
theorem Yg(h1:((tL h.J h.H).all λa=>decide ((qD h).count a=1))=false):ma h=false:=by grind [ma]
theorem Tf(h1:sp.length<=1048576)(h2:la.length<=1048576):(tL sp la).length<=100000000:=by
 have a:∀(l:List aC),(ib l).length<=16*l.length:=by
  intro l
  induction l with
  | nil=>exact I1 _
  | cons s l b=>
   have e:ib (s::l)=fZ s (slots s.Z).toNat++ib l:=by grind [ib]
   have c:=xt s.Z
   grind [yj]
 grind [E2,tL,live0]
theorem Bo(h:ac)(hs:ac.sml h)(N:bK h.J h.H=true)(F:bN h.b=true)(X:∀c∈h.Q,bL c=true):zzA 95 false [.val (some 24) (ac.enc .O h)] .one [B (ma h)]:=by
 obtain⟨-,-,p,r,Y,Z,hsm,hsq,-⟩:=hs;have hlo:h.K.length<=1048576:=Y.1;have hlc:h.Q.length<=1048576:=Z.1;have hlq:h.r.l.length<=1048576:=hsq.1;have hfl:=wY F;have t:ma h=false->[B false]=[B (ma h)]:=λe=>by rw[e]
 refine fP 114 [(238,[0,0,2,2])] [] Tryz.func95 rfl ?_
 refine σP ?_
 refine pe (ι:=Nat × List (Int × Value) × List Int) (λi=>[(1,bX (ac.enc .O h)),(3,bX [.m i.2.1]),(4,.fn 238 [3,1]),(22,b8 (er .O h.Q)),(23,fI h.Q.length),(24,fN (i.1))]) (λi=>i.1<=h.Q.length/\vP i.2.1 i.2.2/\i.2.2=((h.Q.take i.1).flatMap λc=>c.X.flatten)/\(h.Q.take i.1).all (gz h)=true/\i.2.2.length<=32*i.1) (λi=>h.Q.length - i.1) ((0,[],[])) (⟨I1 _,T8,rfl,rfl,I1 _⟩) λi hi=>?_
 obtain⟨i,es,L⟩:=i;obtain⟨hi,O,hL,ai,hb⟩:=hi;simp only at hi O hL ai hb |-;by_cases li:i<h.Q.length
 ·have U:=au li
  obtain⟨h4,h8⟩:=zO (X _ (ay li))
  refine σE ?_
  refine pe (ι:=Nat × List (Int × Value) × List Int) (λk=>[(1,bX (ac.enc .O h)),(3,bX [.m k.2.1]),(4,.fn 238 [3,1]),(22,b8 (er .O h.Q)),(23,fI h.Q.length),(24,fN i),(29,b8 (fk .O (nth h.Q i).X)),(30,fI ((nth h.Q i).X.length)),(31,fN (k.1))]) (λk=>k.1<=(nth h.Q i).X.length/\vP k.2.1 k.2.2/\k.2.2=L++((nth h.Q i).X.take k.1).flatten/\dK k.1 (yf h (nth h.Q i))=true/\k.2.2.length<=L.length+8*k.1) (λk=>(nth h.Q i).X.length - k.1) ((0,es,L)) (⟨I1 _,O,by simp,rfl,by simp⟩) λk hk=>?_
  obtain⟨k,es3,V⟩:=k;obtain⟨hk,E,P,ak,hb3⟩:=hk;simp only at hk E P ak hb3 |-;by_cases lk:k<(nth h.Q i).X.length
  ·have hy:=au lk
   have hl8:=h8 _ (ay lk)
   refine σE ?_
   refine pe (ι:=Nat × List (Int × Value) × List Int) (λj=>[(1,bX (ac.enc .O h)),(3,bX [.m j.2.1]),(4,.fn 238 [3,1]),(7,fN k),(22,b8 (er .O h.Q)),(23,fI h.Q.length),(24,fN i),(29,b8 (fk .O (nth h.Q i).X)),(30,fI ((nth h.Q i).X.length)),(31,fN k),(36,b8 (aI .O (nth (nth h.Q i).X k))),(37,fI ((nth (nth h.Q i).X k).length)),(38,fN (j.1))]) (λj=>j.1<=(nth (nth h.Q i).X k).length/\vP j.2.1 j.2.2/\j.2.2=V++(nth (nth h.Q i).X k).take j.1/\((nth (nth h.Q i).X k).take j.1).all (λa=>ep h a (k:Nat))=true) (λj=>(nth (nth h.Q i).X k).length - j.1) ((0,es3,V)) ψ λj hj=>?_
   obtain⟨j,es4,Q⟩:=j;obtain⟨hj,l,R,W⟩:=hj;simp only at hj l R W |-;have hl4:Q.length=V.length+j:=ψ
   by_cases lj:j<(nth (nth h.Q i).X k).length
   ·have d:=au lj
    have b:=JQ h p r es4 Q (nth (nth (nth h.Q i).X k) j) (k:Nat) l ω;cases o:ep h (nth (nth (nth h.Q i).X k) j) (k:Nat)<;>rw[o]at b
    ·refine σE ?_
     exact t (Yr (ja U (by unfold gz;exact cM lk (ja d o))))
    refine σE ?_
    ((conv=>whnf)
     refine CQ (j+1,inc es4 Q (nth (nth (nth h.Q i).X k) j),Q++[nth (nth (nth h.Q i).X k) j]) ⟨(by simp only;omega),uY l _,(by grind [SA]),dy d W o⟩ (by simp only;omega) ?_
     (exact wA))
   obtain rfl:j=(nth (nth h.Q i).X k).length:=ω
   rw[S9]at R W
   refine σE ?_
   (exact dL (k+1,es4,Q) ⟨(by simp only;omega),l,(by grind [Dd]),co ak W,(by simp only;omega)⟩)
  obtain rfl:k=(nth h.Q i).X.length:=ω
  rw[S9]at P
  refine σE ?_
  (exact dL (i+1,es3,V) ⟨(by simp only;omega),E,(by grind [Ah]),dy U ai ak,(by simp only;omega)⟩)
 obtain rfl:i=h.Q.length:=ω
 rw[S9]at hL ai
 refine σE ?_
 refine pe (ι:=Nat × List (Int × Value) × List Int) (λq=>[(1,bX (ac.enc .O h)),(3,bX [.m q.2.1]),(4,.fn 238 [3,1]),(52,b8 (bJ .O h.r.l)),(53,fI h.r.l.length),(54,fN (q.1))]) (λq=>q.1<=h.r.l.length/\vP q.2.1 q.2.2/\q.2.2=L++(h.r.l.take q.1).map (·.Addr)/\(h.r.l.take q.1).all (xJ h)=true) (λq=>h.r.l.length - q.1) ((0,es,L)) ψ λq u=>?_
 obtain⟨q,es5,G⟩:=q;obtain⟨w,y,D,aq⟩:=u;simp only at w y D aq |-;have hl5:G.length=L.length+q:=ψ
 by_cases S:q<h.r.l.length
 ·have d:=au S
  have b:=JQ h p r es5 G (nth h.r.l q).Addr (nth h.r.l q).Z y ω;cases o:ep h (nth h.r.l q).Addr (nth h.r.l q).Z<;>rw[o]at b
  ·repeat'(first|refine gE ?_|refine gS (λu=>?_) (λu=>?_)|fail)
   all_goals exact t (RJ (ja d (by unfold xJ jG;rw[o];rfl)))
  repeat'(first|refine gE ?_|refine gS (λu=>?_) (λu=>?_)|fail)
  all_goals first
   |exact t (RJ (ja d (by unfold xJ jG;rw[o,C1 ω];rfl)))
   | ((conv=>whnf)
      refine CQ (q+1,inc es5 G (nth h.r.l q).Addr,G++[(nth h.r.l q).Addr]) ⟨(by simp only;omega),uY y _,(by simp only;rw[D,SA,d,IB,CB];rfl),dy d aq (by unfold xJ jG;rw[o,O0 ω];rfl)⟩ (by simp only;omega) ?_
      (exact wA))
 obtain rfl:q=h.r.l.length:=ω
 rw[S9]at D aq
 repeat'(first|refine gE ?_|refine CG (G1 h.b hsm) ?_)
 refine pe (ι:=Nat × List (Int × Value) × List Int) (λq=>[(1,bX (ac.enc .O h)),(3,bX [.m q.2.1]),(4,.fn 238 [3,1]),(75,b8 (aI .own (bi h.b))),(76,fI ((bi h.b).length)),(77,fN (q.1))]) (λq=>q.1<=(bi h.b).length/\vP q.2.1 q.2.2/\q.2.2=G++(bi h.b).take q.1/\((bi h.b).take q.1).all (nI h)=true) (λq=>(bi h.b).length - q.1) ((0,es5,G)) ψ λq u=>?_
 obtain⟨q,es6,H⟩:=q;obtain⟨w,C,J,aq6⟩:=u;simp only at w C J aq6 |-;have hl6:H.length=G.length+q:=ψ
 by_cases S:q<(bi h.b).length
 ·have d:=au S
  have b:=JQ h p r es6 H (nth (bi h.b) q) (-1) C ω;cases o:ep h (nth (bi h.b) q) (-1)<;>rw[o]at b
  ·refine σE ?_
   exact t (XS (ja d o))
  refine σE ?_
  ((conv=>whnf)
   refine CQ (q+1,inc es6 H (nth (bi h.b) q),H++[nth (bi h.b) q]) ⟨(by simp only;omega),uY C _,(by grind [SA]),dy d aq6 o⟩ (by simp only;omega) ?_
   (exact wA))
 obtain rfl:q=(bi h.b).length:=ω
 rw[S9]at J aq6
 refine σE ?_
 refine pe (ι:=Nat × List (Int × Value) × List Int) (λq=>[(1,bX (ac.enc .O h)),(3,bX [.m q.2.1]),(87,b8 (gn .O h.K)),(88,fI h.K.length),(89,fN (q.1))]) (λq=>q.1<=h.K.length/\vP q.2.1 q.2.2/\q.2.2=H++(h.K.take q.1).map (·.Addr)) (λq=>h.K.length - q.1) ((0,es6,H)) ψ λq u=>?_
 obtain⟨q,es7,K⟩:=q;obtain⟨w,g,M⟩:=u;simp only at w g M |-;have hl7:K.length=H.length+q:=ψ
 by_cases S:q<h.K.length
 ·have d:=au S
  have hcl:K.count (nth h.K q).Addr<=K.length:=List.count_le_length
  repeat'(first|refine gE ?_|refine Ml.mk (g _) ?_|refine Mu.mk (es':=inc es7 K (nth h.K q).Addr) rfl ?_)
  ((conv=>whnf)
   refine CQ (q+1,inc es7 K (nth h.K q).Addr,K++[(nth h.K q).Addr]) ⟨(by simp only;omega),uY g _,(by grind [SA])⟩ (by simp only;omega) ?_
   (exact wA))
 obtain rfl:q=h.K.length:=ω
 rw[S9]at M;have T:K=qD h:=by rw[M,J,D,hL];rfl
 have hlv:=Tf p.1 r.1
 repeat'(first|refine gE ?_|refine CG (B7 h.J h.H p r N) ?_)
 refine g0 ((tL h.J h.H).length) (λn=>[(3,bX [.m es7]),(103,b8 (aI .own (tL h.J h.H))),(104,fI ((tL h.J h.H).length)),(105,fN n)]) (λn=>((tL h.J h.H).take n).all (λa=>decide ((qD h).count a=1))=true) ψ λn hn=>?_
 obtain⟨hn,an⟩:=hn;by_cases ln:n<(tL h.J h.H).length
 ·have d:=au ln
  rw[T]at g
  repeat'(first|refine gE ?_|refine gS (λu=>?_) (λu=>?_)|refine Ml.mk (g _) ?_)
  all_goals first
   |exact t (Yg (ja d (C1 ω)))
   | ((conv=>whnf);exact dL (n+1) ⟨ω,dy d an (O0 ω)⟩)
 refine σE ?_
 exact bE ((by grind [ma]))
set_option maxHeartbeats 8000000
def mw(h:ac):Bool:=(((((((aN h.G&&bR (ge h) h.a)&&bK h.J h.H)&&(pages0 h&&tp h))&&eP h)&&h.Q.all bL)&&(iS h&&ma h))&&cU h)&&xe h
theorem cR(h:ac)(P:ac.sml h):zzA 20 false [.val (some 24) (ac.enc .O h)] .one [B (mw h)]:=by
 have E:=P;obtain⟨n,o,b,g,F,p,q,G,r⟩:=P;have u:AA h:=n.1.2;have hpn:ge h<=1048576:=u.1;have H:h.K.length<=1048576:=F.1;have J:h.Q.length<=1048576:=p.1;have hlb:h.b.T.length<=1048576:=q.1.1;have hlp:h.a2.d.U.length<=1048576:=r;have d:=vw h.G n;have e:=qo (ge h) h.a ω o;have i:=vC h.J h.H b g;have w:=pH h.b q;have K:=uy h.r G;cases Q:aN h.G<;>rw[Q]at d
 ·refine fO 154 [] Tryz.func20 rfl ?_
  repeat'(first|refine gP ?_|refine gS (λa=>?_) (λa=>?_)|fail)
  all_goals first
   | exact bE ((by unfold mw ;rw[Q];simp))
   |(exfalso;omega)
 cases R:bR (ge h) h.a<;>rw[R]at e
 ·refine fO 154 [] Tryz.func20 rfl ?_
  repeat'(first|refine gP ?_|refine gS (λa=>?_) (λa=>?_)|fail)
  all_goals first
   | exact bE ((by unfold mw ;rw[R];simp))
   |(exfalso;omega)
 cases D:bK h.J h.H<;>rw[D]at i
 ·refine fO 154 [] Tryz.func20 rfl ?_
  repeat'(first|refine gP ?_|refine gS (λa=>?_) (λa=>?_)|fail)
  all_goals first
   | exact bE ((by unfold mw ;rw[D];simp))
   |(exfalso;omega)
 have j:=HG h b g u o D;cases S:(pages0 h&&tp h)<;>rw[S]at j
 ·refine fO 154 [] Tryz.func20 rfl ?_
  repeat'(first|refine gP ?_|refine gS (λa=>?_) (λa=>?_)|fail)
  all_goals first
   | exact bE ((by unfold mw ;rw[S];simp))
   |(exfalso;omega)
 cases L:bN h.b<;>rw[L]at w
 ·refine fO 154 [] Tryz.func20 rfl ?_
  repeat'(first|refine gP ?_|refine gS (λa=>?_) (λa=>?_)|fail)
  all_goals first
   | exact bE ((by unfold mw eP;rw[L];simp))
   |(exfalso;omega)
 by_cases M:h.Q.length=h.b.T.length;rotate_left
 ·refine fO 154 [] Tryz.func20 rfl ?_
  repeat'(first|refine gP ?_|refine gS (λa=>?_) (λa=>?_)|fail)
  all_goals first
   | exact bE ((by unfold mw eP;rw[C1 M];simp))
   |(exfalso;omega)
 cases T:ir h.r<;>rw[T]at K
 ·refine fO 154 [] Tryz.func20 rfl ?_
  repeat'(first|refine gP ?_|refine gS (λa=>?_) (λa=>?_)|fail)
  all_goals first
   | exact bE ((by unfold mw eP;rw[T];simp))
   |(exfalso;omega)
 have hmc:eP h=true:=by grind [eP]
 refine fO 154 [] Tryz.func20 rfl ?_
 repeat'(first|refine gB ?_|refine gS (λa=>?_) (λa=>?_)|fail)
 all_goals try(exfalso;omega)
 (conv=>whnf)
 refine g0 h.Q.length (λk=>[(1,bX (ac.enc .O h)),(57,b8 (er .O h.Q)),(58,fI h.Q.length),(59,fN k)]) (λk=>(h.Q.take k).all bL=true) ψ λk U=>?_
 obtain⟨U,V⟩:=U;by_cases W:k<h.Q.length
 ·have N:=au W
  have O:=rm (nth h.Q k) (p.2 _ (ay W));cases X:bL (nth h.Q k)<;>rw[X]at O
  ·refine σE ?_
   exact bE ((by grind [mw]))
  refine σE ?_
  (exact dL (k+1) ⟨ω,dy N V X⟩)
 have hca:h.Q.all bL=true:=rY ω V;have l:=KI h b g H J;have c10:=Bo h E D L ψ;have c12:=BB h.a2 r;have c13:=zF h h.a2.d.a5 b.1;have c14:=zF h h.a2.d.a7 b.1;cases Y:iS h<;>rw[Y]at l
 ·refine σE ?_
  all_goals first
   | exact bE ((by unfold mw;rw[Y];simp))
   |(exfalso;omega)
 cases e10:ma h<;>rw[e10]at c10
 ·refine σE ?_
  all_goals first
   | exact bE ((by unfold mw;rw[e10];simp))
   |(exfalso;omega)
 by_cases Z:cU h=true;rotate_left
 ·have y:cU h=false:=by simpa using Z
  have c:=y;unfold cU at c;rw[z9]at c
  repeat'(first|refine gE ?_|refine gS (λa=>?_) (λa=>?_)|refine CG (aQ _ _ _) ?_|refine CG (uq _) ?_)
  all_goals first
   | exact bE ((by unfold mw;rw[y];simp))
   |(exfalso;omega)
 have c:=Z;unfold cU at c;rw[C0]at c;have C:mw h=xe h:=by grind [mw]
 rw[C];unfold xe;cases em:h.w
 ·repeat'(first|refine gE ?_|refine gS (λa=>?_) (λa=>?_)|refine CG (aQ _ _ _) ?_|refine CG (uq _) ?_|refine Bf.f em ?_)
  all_goals first
   | exact bE ((by unfold Ar;simp only[Bool.false_eq_true,if_false];first|(symm;exact C1 ω)|(rw[C9,beq_iff_eq,C0];omega)))
   |(exfalso;omega)
 cases e12:md h.a2<;>rw[e12]at c12
 all_goals
  repeat'(first|refine gE ?_|refine gS (λa=>?_) (λa=>?_)|refine CG (aQ _ _ _) ?_|refine CG (uq _) ?_|refine Bf.t em ?_)
  all_goals first
   | exact bE (ψ)
   |(exfalso;omega)
def iO[Inhabited α]{xs:List α}{f:α->Int}(e:(xs.map f).Nodup)(b:i<xs.length)(c:j<xs.length)(h:f (nth xs i)=f (nth xs j)):i=j:=by
 have d:=List.pairwise_iff_getElem.1 e;rcases Nat.lt_trichotomy i j with a|rfl|a
 ·have:=d i j (by simpa using b) (by simpa using c) a
  simp only[List.getElem_map]at this;rw[bI (z4 b),bI (z4 c)]at h;exact absurd h this
 ·rfl
 have:=d j i (by simpa using c) (by simpa using b) a;simp only[List.getElem_map]at this;rw[bI (z4 b),bI (z4 c)]at h;omega
theorem b9[Inhabited α]{xs:List α}{x:α}(h:x∈xs):∃i,i<xs.length/\nth xs i=x:=by
 obtain⟨i,a⟩:=List.mem_iff_getElem?.1 h
 grind [bI]
theorem wK:∀{H L:List Int},H.Nodup->(∀x∈H,x∈L)->L.length<=H.length->∀x∈L,x∈H
 | [],L,_,_,b,x,c=>by grind
 | y::H,L,d,f,b,x,c=>by
  have g:y∈L:=ψ
  have a:=List.nodup_cons.1 d;by_cases e:x=y
  ·grind
  refine IA _ (wK (L:=L.erase y) a.2 (λz h=>?_) ?_ x ψ)
  all_goals grind
theorem U4{H L:List Int}(b:L.Nodup)(c:∀x∈H,x∈L):(H.Nodup/\H.length=L.length)↔∀a∈L,H.count a=1:=by grind [wK,List.Perm.length_eq]
variable{l:aA}
theorem eM : p∈lpgs l n↔∃k:Nat,k<n/\p=l.S+(k:Nat):=by grind [lpgs]
structure sj(sp:List aC)(la:List aA):Prop where
 sok:∀s∈sp,bu s=true
 lok:∀l∈la,cv l=true
 nd:(sp.map (·.S)).Nodup
 dis:∀s∈sp,∀l∈la,∀k:Nat,k<l.a0.toNat->s.S≠l.S+(k:Nat)
 one:∀i j,i<la.length->j<la.length->∀k k':Nat,k<(nth la i).a0.toNat->k'<(nth la j).a0.toNat->(nth la i).S+(k:Nat)=(nth la j).S+(k':Nat)->i=j
theorem sj.of(h:bK sp la=true):sj sp la:=by
 obtain⟨B,C,d⟩:=gq h;unfold pgs at d;rw[List.nodup_append]at d;obtain⟨q,r,t⟩:=d;have u:=List.pairwise_flatMap.1 r;refine⟨ψ,ψ,q,λs D l w k c e=>?_,λi j f g k o c a e=>?_⟩
 ·exact t _ ψ _ (List.mem_flatMap.2 ⟨l,w,eM.2 ⟨k,c,rfl⟩⟩) e
 have p:=List.pairwise_iff_getElem.1 u.2;have y:=bI (z4 f);have A:=bI (z4 g);rw[y]at c e;rw[A]at a e;rcases Nat.lt_trichotomy i j with b|n|b
 ·exact absurd e (p i j f g b _ (eM.2 ⟨k,c,rfl⟩) _ (eM.2 ⟨o,a,rfl⟩))
 ·exact n
 exact absurd e.symm (p j i g f b _ (eM.2 ⟨o,a,rfl⟩) _ (eM.2 ⟨k,c,rfl⟩))
theorem jh(b:bu s=true):eH s a=true↔16*s.S<=a/\a<=16*s.S+15:=by grind [eH]
theorem jM(b:sj sp la)(c:i<sp.length)(h:16*(nth sp i).S<=a/\a<=16*(nth sp i).S+15):denotes sp la a=uv i (nth sp i) a:=by
 refine rD c ((jh (b.sok _ (ay c))).2 h) λj z l k=>?_
 cases e:eH z a with
 | false=>rfl
 | true=>
  exfalso;have d:=(C4.1 k).1;have n:=(jh (b.sok z ψ)).1 e;have g:=bI k;subst g;have:=iO (f:=(·.S)) b.nd c d ω;omega
theorem Zv(b:sj sp la)(h:∀i,i<sp.length->¬(16*(nth sp i).S<=a/\a<=16*(nth sp i).S+15)):∀(j:Nat)(z:aC),j<sp.length->sp[j]? = some z->eH z a=false:=by grind [jh,sj.sok,bI]
theorem Wu(c:sj sp la)(a:Int):a∈live0 sp la↔a∈np sp la:=by
 have G:a∈np sp la↔∃n:Nat,n<512/\mW sp la n=true/\(n:Int)=a:=by grind [np,pG]
 rw[G];unfold live0 ib;rw[v5,List.mem_flatMap,O8];constructor
 ·rintro(⟨s,g,C⟩|⟨l,b,rfl⟩)
  ·obtain⟨i,d,rfl⟩:=b9 g
   unfold fZ at C;obtain⟨k,H,rfl⟩:=O8.1 C;obtain⟨h,J⟩:=S8.1 H;have h:=List.mem_range.1 h;have o:=aT (c.sok _ g);have t:=GV ⟨o.2.2.1,o.2.2.2⟩;have K:=xt (nth sp i).Z;unfold me;have L:0<=(k:Int)*csz (nth sp i).Z/\(k:Int)*csz (nth sp i).Z<=15:=by grind [dx]
   have f:=jM c d (a:=16*(nth sp i).S+(k:Nat)*csz (nth sp i).Z) ω;have O:(16*(nth sp i).S+(k:Nat)*csz (nth sp i).Z - 16*(nth sp i).S) / csz (nth sp i).Z=(k:Nat)/\(16*(nth sp i).S+(k:Nat)*csz (nth sp i).Z - 16*(nth sp i).S) % csz (nth sp i).Z=0:=by grind [dx]
   refine⟨(16*(nth sp i).S+(k:Nat)*csz (nth sp i).Z).toNat,ω,?_,ω⟩
   grind [mW,uv]
  obtain⟨i,d,rfl⟩:=b9 b;have P:=bj (c.lok _ b);have M:=cQ (c.lok _ b);have u:=Zv c (a:=16*(nth la i).S) λj D Q=>c.dis _ (ay D) _ b 0 ω ω
  have E:cg (nth la i) (16*(nth la i).S)=true:=by grind [sj.lok,cg]
  have f:=pI (a:=16*(nth la i).S) (z5 _) u d E λj z D r=>by
   cases e:cg z (16*(nth la i).S) with
   | false=>rfl
   | true=>
    exfalso;have w:=(C4.1 r).1;have p:=t4 r;have y:=bI r;subst y;have N:=bj (c.lok _ p);have q:=c.lok _ p;unfold cv at q;rw[C0]at q;unfold cg at e;rw[I0,C0]at e;have:=c.one i j d w 0 ((nth la i).S - (nth la j).S).toNat ω ω ω;omega
  refine⟨(16*(nth la i).S).toNat,ω,?_,ω⟩
  grind [mW]
 rintro⟨n,R,b,rfl⟩
 cases u:sp.findIdx? (eH · (n:Nat)) with
 | some i=>
  obtain⟨d,A,-⟩:=IE.1 u;have B:=bI (z4 d);rw[<-B]at A;have g:=c.sok _ (ay d);have F:=(jh g).1 A;have o:=aT g;have t:=GV ⟨o.2.2.1,o.2.2.2⟩;have f:denotes sp la (n:Nat)=uv i (nth sp i) (n:Nat):=by grind [denotes]
  rw[wX f]at b;simp only[I0,OC,C0]at b;simp only[uv]at b;cases E:br (nth sp i).a3 (((n:Int) - 16*(nth sp i).S) / csz (nth sp i).Z) with
  | false=>grind
  | true=>
   have r:((n:Int) - 16*(nth sp i).S) % csz (nth sp i).Z=0:=b.1;refine .inl ⟨nth sp i,ay d,?_⟩;unfold fZ;refine O8.2 ⟨(((n:Int) - 16*(nth sp i).S) / csz (nth sp i).Z).toNat,S8.2 ⟨List.mem_range.2 ?_,?_⟩,?_⟩
   all_goals grind [dx,me]
 | none=>
  cases F:la.findIdx? (cg · (n:Nat)) with
  | some i=>
   obtain⟨d,A,-⟩:=IE.1 F;have f:denotes sp la (n:Nat) = ⟨3,i,0,(n:Nat) - 16*(nth la i).S⟩:=by grind [denotes]
   rw[wX f]at b
   grind [ay]
  | none=>
   have f:denotes sp la (n:Nat) = ⟨0,0,0,0⟩:=by grind [denotes]
   rw[wX f]at b;simp at b
theorem AY(b:sj sp la)(c:(denotes sp la a).c1=0)(f:(denotes sp la a).a6=1\/(denotes sp la a).a6=3):a∈np sp la:=by
 have l:0<=a/\a<512:=by
  unfold denotes at c f;cases g:sp.findIdx? (eH · a) with
  | some i=>
   obtain⟨d,j,-⟩:=IE.1 g;have h:=List.getElem_mem d;have e:=(jh (b.sok _ h)).1 j;have k:=aT (b.sok _ h);omega
  | none=>
   rw[g]at c f;cases e:la.findIdx? (cg · a) with
   | some i=>
    obtain⟨d,-⟩:=IE.1 e;rw[e]at c;have n:=bj (b.lok _ (ay d))
    grind
   | none=>grind
 have k:((a.toNat:Nat):Int)=a:=ω
 grind [np,pG,mW]
theorem zA(sp:List aC)(la:List aA):(np sp la).Nodup:=by
 unfold np pG List.Nodup;rw[List.pairwise_map]
 grind [List.Pairwise.imp,List.nodup_range]
theorem yK(b:sj h.J h.H){c:Int}(d:ep h a c=true):a∈np h.J h.H:=by grind [AY,ep]
variable{o:aW}
theorem Vc(a:sj h.J h.H)(b:nw h o=true):o.Addr∈np h.J h.H:=by grind [AY,nw]
theorem NR(h:ac)(a:Int):(qD h).count a=(holders h).count a:=by grind [qD,holders]
theorem tV(h:ac):lO h=true↔(h.Q.all (gz h)=true/\h.r.l.all (jG h)=true)/\(bi h.b).all (nI h)=true:=by grind [lO]
theorem xB(f:sj h.J h.H)(g:iS h=true)(j:lO h=true):∀a∈holders h,a∈np h.J h.H:=by
 obtain⟨⟨n,p⟩,q⟩:=(tV h).1 j;intro a b;unfold holders at b;simp only[v5]at b;rcases b with((b|b)|b)|b
 ·obtain⟨o,d,rfl⟩:=O8.1 b
  obtain⟨i,r,rfl⟩:=b9 d;have e:=gY g r
  grind [Vc,objAt]
 ·unfold dB at b
  obtain⟨c,t,b⟩:=List.mem_flatMap.1 b;obtain⟨l,u,b⟩:=List.mem_flatten.1 b;obtain⟨k,w,rfl⟩:=b9 u;have e:=O7.1 n c t;unfold gz at e;have A:=O7.1 (show(nth c.X k).all _=true from gY e w) a b
  grind [yK]
 ·obtain⟨x,y,rfl⟩:=O8.1 b
  exact yK f (O7.1 p x y)
 exact yK f (O7.1 q a b)
theorem RL(b:bK h.J h.H=true)(c:iS h=true):(pu h&&mf h)=ma h:=by
 have d:=sj.of b;have e:(pu h=true/\h.r.l.all (jG h)=true)↔h.r.l.all (xJ h)=true:=by grind [pu,xJ]
 have f:ma h=true↔((h.Q.all (gz h)=true/\h.r.l.all (xJ h)=true)/\(bi h.b).all (nI h)=true)/\∀a∈np h.J h.H,(holders h).count a=1:=by
  unfold ma;simp only[I0];refine and_congr Iff.rfl ?_;simp only[O7,C0,NR]
  grind [List.mem_mergeSort,Wu,tL,sorted]
 grind [tV,U4,zA,xB,mf]
theorem qL(s t:aC):meshable s t=meshable t s:=by grind [meshable]
variable{f:Int}
theorem ik{p:Nat} : (p:Int)∈pagesOn t f↔p<t.M.length/\(nth t.M p).o≠0/\(nth t.M p).g=f:=by grind [pagesOn,ns,Xe]
theorem zV{q:Int}(h:q∈pagesOn t f):∃p:Nat,q=(p:Nat):=by grind [pagesOn,ns]
theorem xX(a:pages0 h=true):(∀i,i<h.H.length->∀k:Nat,k<(nth h.H i).a0.toNat->(bh h ((nth h.H i).S+(k:Nat))).length=1)/\(∀p∈pgs h.J h.H,p<ge h)/\∀p:Nat,p<ge h->((nth (tbl h).M p).o≠0↔(p:Int)∈pgs h.J h.H):=by grind [gY,pages0,xW,DI,AH]
theorem GQ{p:Nat}(a:p<ge h):ax (tbl h) (p:Nat)=nth (tbl h).M p:=pY a
theorem iD{p:Nat}(a:p<ge h)(b:(nth (tbl h).M p).o≠0):bh h (p:Nat)=pagesOn (tbl h) (nth (tbl h).M p).g:=by grind [GQ,bh,tbl]
theorem yG(g:sj h.J h.H)(c:j<h.J.length):jf h (nth h.J j).S=(j:Nat):=by
 unfold jf;refine eA (au c) (by unfold qx;simp) λk z i d=>?_
 have a:=bI d;have b:=(C4.1 d).1;subst a;unfold qx;refine C1 λe=>?_
 have:=iO (f:=(·.S)) g.nd b c e;omega
theorem yW(w:bK h.J h.H=true)(N:pages0 h=true):zB h=tp h:=by
 have E:=sj.of w;obtain⟨O,P,Q⟩:=xX N;have o:∀i,i<h.J.length->∃p:Nat,(nth h.J i).S=(p:Nat)/\p<ge h/\(nth (tbl h).M p).o≠0:=λi r=>by
  have Y:=aT (E.sok _ (ay r));have R:(nth h.J i).S∈pgs h.J h.H:=by grind [ay,pgs]
  have c:=P _ R;refine⟨(nth h.J i).S.toNat,ω,ω,?_⟩
  grind
 rw[C9];unfold zB tp;rw[cK,cK];constructor
 ·intro F i r
  rw[cK];intro j G;have y:j<h.J.length:=ω
  unfold pJ;rw[OC,C0];by_cases d:(ax (tbl h) (nth h.J i).S).g=(ax (tbl h) (nth h.J j).S).g
  ·right
   obtain⟨p,e,a,f⟩:=o i r;obtain⟨q,A,b,g⟩:=o j y;have n:=O7.1 (F i r);rw[e,A,GQ a,GQ b]at d;have S:(q:Int)∈bh h (nth h.J i).S:=by
    rw[e,iD a f];exact ik.2 ⟨b,g,d.symm⟩
   have t:=n _ S;unfold qp at t;rw[<-A,yG E y]at t;rw[OC,I0,C0]at t;rcases t with t|t
   ·omega
   simpa using t.2
  exact .inl d
 intro B i r;rw[O7];intro q C;obtain⟨p,e,a,f⟩:=o i r;have T:=C;rw[e,iD a f]at C;obtain⟨D,rfl⟩:=zV C;obtain⟨b,g,H⟩:=ik.1 C;have u:=(Q D b).1 g;unfold pgs at u;rw[v5,O8,List.mem_flatMap]at u;rcases u with⟨s,F,J⟩|⟨l,U,K⟩
 ·obtain⟨j,G,rfl⟩:=b9 F
  unfold qp;rw[<-J,yG E G];rw[OC,I0,C0,C0];have d:(ax (tbl h) (nth h.J i).S).g=(ax (tbl h) (nth h.J j).S).g:=by grind [GQ]
  rcases Nat.lt_trichotomy j i with c|V|c
  ·have n:=gY (B i r) c
   unfold pJ at n
   simp_all
  ·omega
  have n:=gY (B j G) c;unfold pJ at n;rw[OC,C0]at n;exact .inr ⟨ω,by rw[qL];simp_all⟩
 exfalso;obtain⟨W,L,rfl⟩:=b9 U;obtain⟨k,X,M⟩:=eM.1 K;have n:=O W L k X;rw[<-M,iD b g]at n;have Z:(D:Int)∈pagesOn (tbl h) (nth (tbl h).M D).g:=ψ
 have m2:(p:Int)∈pagesOn (tbl h) (nth (tbl h).M D).g:=ik.2 ⟨a,f,H.symm⟩
 grind [List.length_eq_one_iff,sj.dis,ay]
theorem eR(h:ac):mw h=dQ h:=by grind [yW,RL,mw,dQ,pc]
def ovl(y r:aD):Bool:=decide (y.At<r.At+r.a1/\r.At<y.At+y.a1)
def qK(r:aD):List aD->Bool->Option (List aD)
 | [],put=>some (if put then [] else [r])
 | y::a,put=>if ovl y r then none else if !put&&decide (y.At > r.At) then(qK r a true).map λt=>r::y::t else(qK r a put).map λt=>y::t
def dR(out:List aD):List aD->List aD
 | []=>out
 | y::ys=>match out.getLast? with
  | some z=>if z.At+z.a1=y.At then dR (out.dropLast++[⟨z.At,z.a1+y.a1⟩]) ys else dR (out++[y]) ys
  | none=>dR (out++[y]) ys
def kH:List aD->aD->List aD->Bool->Option (List aD)
 | [],r,out,done=>some (if done then out else out++[r])
 | y::ys,r,out,done=>
  if ovl y r then none
  else if y.At+y.a1=r.At then kH ys ⟨y.At,y.a1+r.a1⟩ out done
  else if r.At+r.a1=y.At then kH ys ⟨r.At,r.a1+y.a1⟩ out done
  else if y.At > r.At/\done=false then kH ys r (out++[r,y]) true
  else kH ys r (out++[y]) done
def lh(xs:List aD):Prop:=xs.Pairwise (λa b=>a.At+a.a1<b.At)/\∀y∈xs,1<=y.a1
variable{y:aD}
theorem lh.tail{a:List aD}(h:lh (y::a)):lh a:=⟨(List.pairwise_cons.1 h.1).2,λz b=>h.2 z ψ⟩
theorem lh.head{a:List aD}(h:lh (y::a)):∀z∈a,y.At+y.a1<z.At:=(List.pairwise_cons.1 h.1).1
theorem lF:∀(a out:List aD),lh a->(∀z,out.getLast? = some z->∀y∈a,z.At+z.a1≠y.At)->dR out a=out++a
 | [],out,_,_=>by simp[dR]
 | y::a,out,d,e=>by
  have b:dR (out++[y]) a=out++y::a:=by
   rw[lF a (out++[y]) d.tail λz c w f=>by
     simp at c;subst c;have:=d.head w f;omega]
   simp
  unfold dR;split
  ·rename_i z c
   rw[CJ (e z c y (O3 ..))];exact b
  exact b
theorem Bm{r:aD} : ∀{a:List aD},lh a->(∀y∈a,r.At+r.a1<=y.At)->qK r a true=some a
 | [],_,_=>rfl
 | y::a,c,b=>by
  have e:=b y (O3 ..);unfold qK;rw[CJ (by unfold ovl;rw[C0];omega)];simp only[Bool.not_true,Bool.false_and,Bool.false_eq_true,if_false];rw[Bm c.tail λz d=>b z (IA _ d)]
  rfl
theorem z7{r:aD}(h1:1<=r.a1){a:List aD}(b:lh a)(c:∀y∈a,r.At+r.a1<=y.At):qK r a false=some (r::a):=by
 cases a with
 | nil=>rfl
 | cons y a=>
  grind [Bm,lh.tail,qK,ovl]
def uU{r:aD} : ∀{a out:List aD},lh a->1<=r.a1->(∀y∈a,r.At+r.a1<y.At)->kH a r out true=some (out++a)
 | [],out,_,_,_=>by simp[kH]
 | y::a,out,b,d,c=>by
  have f:=c y (O3 ..);have g:=b.2 y (O3 ..);unfold kH;rw[CJ (by unfold ovl;rw[C0];omega),CJ ω,CJ ω,CJ (by simp),uU b.tail d λz e=>c z (IA _ e)];simp
variable{out:List aD}
theorem BC{r:aD}(h1:1<=r.a1){a:List aD}(b:lh a)(c:∀y∈a,r.At+r.a1<=y.At):kH a r out false=some (out++match a with|[]=>[r]|y::zs=>if r.At+r.a1=y.At then⟨r.At,r.a1+y.a1⟩::zs else r::y::zs):=by
 cases a with
 | nil=>simp[kH]
 | cons y a=>
  have g:=c y ψ;have h:=b.2 y ψ;unfold kH;rw[CJ (by grind [ovl]),CJ ω];by_cases e:r.At+r.a1=y.At
  ·rw[CK e]
   simp only[e,if_true];cases a with
   | nil=>simp[kH]
   | cons z a=>
    have i:=b.head z ψ;have j:=b.tail.2 z ψ;unfold kH;simp only;rw[CJ (by grind [ovl]),CJ ω,CJ ω,CK kd,uU b.tail.tail (by simp only;omega) λw d=>by
      have:=b.tail.head w d;simp only;omega]
    simp
  rw[CJ e,CK kd,uU b.tail h1 λz f=>by have:=b.head z f;omega];simp[e]
theorem Hp{pages:Int} : ∀{a:List aD}{r:aD}{out:List aD},lh a->1<=r.a1->(∀z,out.getLast? = some z->(∀y∈a,z.At+z.a1<y.At)/\z.At+z.a1<r.At)->(qK r a false).map (dR out)=kH a r out false
 | [],r,out,_,g,q=>by
  show some (dR out [r])=some (out++[r]);rw[lF [r] out ⟨List.pairwise_singleton ..,λy u=>by rw[z3.1 u];exact g⟩ ψ]
 | y::a,r,out,c,g,q=>by
  have F:=c.2 y ψ;by_cases l:ovl y r=true
  ·grind [qK,kH]
  ·have i:=l
   unfold ovl at i;rw[C0]at i;by_cases A:r.At+r.a1<=y.At
   ·-- all to the right
    have b:∀w∈y::a,r.At+r.a1<=w.At:=λw f=>by grind [lh.head]
    rw[z7 g c b,BC g c b];show some (dR out (r::y::a))=_;have hfirst:dR out (r::y::a)=dR (out++[r]) (y::a):=by
     conv=>lhs;unfold dR
     grind
    rw[hfirst];by_cases e:r.At+r.a1=y.At
    ·have:dR (out++[r]) (y::a)=dR (out++[⟨r.At,r.a1+y.a1⟩]) a:=by
      conv=>lhs;unfold dR
      simp[e]
     grind [lF,lh.tail,lh.head]
    grind [lF,lh.head]
   have B:y.At+y.a1<=r.At:=ω
   have n:∀t,dR out (y::t)=dR (out++[y]) t:=λt=>by
    conv=>lhs;unfold dR
    grind [O3]
   have C:(qK r (y::a) false).map (dR out)=(qK r a false).map (dR (out++[y])):=by
    conv=>lhs;unfold qK
    rw[CJ l,CJ kd,Option.map_map]
    congr 1
    grind
   rw[C];unfold kH;rw[CJ l];by_cases e:y.At+y.a1=r.At
   ·rw[CK e]
    by_cases o:∃w,a.head? = some w/\ovl w r=true
    ·obtain⟨w,f,D⟩:=o
     cases a with
     | nil=>cases f
     | cons d h=>
      grind [ovl,qK,kH]
    have b:∀w∈a,r.At+r.a1<=w.At:=by
     cases a with
     | nil=>grind
     | cons d h=>
      have G:=c.head d ψ;have H:=c.tail.2 d ψ
      grind [lh.head,lh.tail,ovl]
    rw[z7 g c.tail b,BC (r:=⟨y.At,y.a1+r.a1⟩) (by simp only;omega) c.tail ψ];show some (dR (out++[y]) (r::a))=_;have E:dR (out++[y]) (r::a)=dR (out++[⟨y.At,y.a1+r.a1⟩]) a:=by
     conv=>lhs;unfold dR
     simp[e]
    rw[E];cases a with
    | nil=>simp[dR]
    | cons d h=>
     by_cases j:y.At+(y.a1+r.a1)=d.At
     ·have p:dR (out++[⟨y.At,y.a1+r.a1⟩]) (d::h)=dR (out++[⟨y.At,y.a1+r.a1+d.a1⟩]) h:=by
       conv=>lhs;unfold dR
       simp[j]
      rw[p,lF h _ c.tail.tail λz k w f=>by grind [lh.head,lh.tail]];simp[j]
     rw[lF (d::h) _ c.tail λz k w f=>by
       simp at k;subst k;simp only;rcases List.mem_cons.1 f with rfl|f
       · exact j
       have:=c.tail.head w f;have:=b d ψ;have:=c.tail.2 d ψ;omega]
     simp[j]
   rw[CJ e,CJ ω,CJ ω];exact Hp (pages:=pages) c.tail g λz k=>by grind [lh.head]
def j9(k:af)(f:Int):af:=if(pagesOn k.F.R f).length=0 then {k with F:=⟨⟨k.F.V.U.set f.toNat (List.replicate 16 0),k.F.V.y.set f.toNat false⟩,k.F.R⟩} else k
def pf(k:af)(p:Int):af:={k with F:=⟨k.F.V,⟨k.F.R.M.set p.toNat ⟨0,0⟩⟩⟩}
def cY(k:af)(p:Int):af:=if(ax k.F.R p).o=0 then k else j9 (pf k p) (ax k.F.R p).g
theorem dd[Inhabited α](xs:List α)(i j:Nat)(x:α):nth (xs.set i x) j=if i=j/\j<xs.length then x else nth xs j:=by grind [nth]
theorem uV(k:af)(f:Int):(j9 k f).F.R=k.F.R/\(j9 k f).Calls=k.Calls/\(j9 k f).k=k.k/\(j9 k f).F.V.U.length=k.F.V.U.length/\(j9 k f).F.V.y.length=k.F.V.y.length:=by grind [j9]
theorem wQ(k:af)(p:Int):(cY k p).F.R.M.length=k.F.R.M.length/\(cY k p).Calls=k.Calls/\(cY k p).k=k.k:=by grind [uV,cY,pf]
variable{k:af}
theorem aM : aN k=true↔(∀j,j<k.k.length->0<=nth k.k j)/\dM k.F.V=true/\iM k.F.R k.F.V.y.length=true/\(∀j,j<k.F.V.y.length->nth k.F.V.y j=decide (0<(pagesOn k.F.R (j:Int)).length))/\0<=k.Calls/\k.Calls<=100000/\k.k.length<=40:=by grind [cK,aN,db,td]
theorem bk{f:aO} : dM f=true↔1<=f.U.length/\f.U.length<=32/\f.y.length=f.U.length/\∀j,j<f.U.length->jH (nth f.U j) (nth f.y j)=true:=by
 unfold dM;simp only[I0,C0,O7,and_assoc];refine and_congr Iff.rfl (and_congr Iff.rfl (and_congr_right λb=>⟨λh j a=>?_,λh q c=>?_⟩))
 ·exact h _ (t4 (Bd (au a) (au ω)))
 grind [List.mem_iff_getElem?,List.getElem?_zip_eq_some,bI]
theorem bF : iM t a=true↔(∀j,j<t.M.length->qY a (nth t.M j)=true)/\1<=t.M.length/\t.M.length<=32:=by grind [cK,iM]
theorem gH : 0<(pagesOn t f).length↔∃q,q<t.M.length/\(nth t.M q).o≠0/\(nth t.M q).g=f:=by
 unfold pagesOn ns;rw[I2,List.length_pos_iff_exists_mem];simp[Xe]
theorem bV(h:aN k=true)(a:(ax k.F.R p).o≠0):0<=p/\p<k.F.R.M.length/\ax k.F.R p=nth k.F.R.M p.toNat/\0<=(ax k.F.R p).g/\(ax k.F.R p).g<k.F.V.y.length:=by
 obtain⟨-,-,b,-⟩:=aM.1 h
 grind [bF,ax,qY]
theorem Ef(p:Int)(h:aN k=true):aN (cY k p)=true:=by
 unfold cY;split
 ·exact h
 rename_i r;obtain⟨C,D,E,i,l⟩:=bV h r;obtain⟨t,u,F,w,y,A,B⟩:=aM.1 h;obtain⟨G,H,J,L⟩:=bk.1 u;obtain⟨M,N,O⟩:=bF.1 F;rw[E]at r i l |-;generalize K:(nth k.F.R.M p.toNat).g=f at i l;have b:∀q,nth (k.F.R.M.set p.toNat ⟨0,0⟩) q=if p.toNat=q then⟨0,0⟩ else nth k.F.R.M q:=λq=>by grind [dd]
 have c:∀j:Int,0<(pagesOn (⟨k.F.R.M.set p.toNat ⟨0,0⟩⟩ : aL) j).length↔∃q,q<k.F.R.M.length/\q≠p.toNat/\(nth k.F.R.M q).o≠0/\(nth k.F.R.M q).g=j:=λj=>by
  rw[gH];simp only[C3,b]
  grind
 have d:∀j:Int,0<(pagesOn k.F.R j).length↔∃q,q<k.F.R.M.length/\(nth k.F.R.M q).o≠0/\(nth k.F.R.M q).g=j:=λj=>gH
 have g:iM ⟨k.F.R.M.set p.toNat ⟨0,0⟩⟩ k.F.V.y.length=true:=by
  rw[bF];simp only[C3,b]
  grind [qY]
 unfold j9;split
 ·rename_i o
  rw[aM];simp only[pf,C3]at o |-;refine⟨t,?_,g,λj n=>?_,y,A,B⟩
  ·rw[bk]
   simp only[C3,dd];refine⟨G,H,J,λj n=>?_⟩;by_cases a:f.toNat=j
   ·rw[CK ⟨a,n⟩,CK ⟨a,ω⟩];decide
   grind
  rw[dd];by_cases a:f.toNat=j
  ·grind
  rw[CJ (λe=>a e.1),w j n];refine decide_eq_decide.2 ?_;rw[d,c]
  grind
 rename_i o;rw[aM];simp only[pf]at o |-;refine⟨t,u,g,λj n=>?_,y,A,B⟩;rw[w j n];refine decide_eq_decide.2 ?_;by_cases a:f=j
 ·grind
 rw[d,c];grind
def bq(h:aN k=true):af.sml k:=by
 obtain⟨g,b,c,i,l,n,o⟩:=aM.1 h;obtain⟨p,q,t,d⟩:=bk.1 b;obtain⟨u,w,y⟩:=bF.1 c;refine⟨⟨⟨⟨ω,λr f=>?_⟩,(by omega:_<=1048576)⟩,⟨ω,λe _=>tV1⟩⟩,(by omega:_<=1048576)⟩;obtain⟨j,a⟩:=List.mem_iff_getElem?.1 f;have:=d j (C4.1 a).1;rw[bI a]at this;unfold jH at this;simp only[I0,C0]at this;show r.length<=1048576;omega
variable{K:List (List C)->Prop}{sz by_:Nat}
theorem Ap.cp{e:α->List C}{xs:List α}(h2:∀x,(e x).length=sz)(d:∀x,b6 (e x)=true)(a:xs.length<=1048576)(b:by_<=1000)(c:K (xs.map e)):Ap true [] (xs.map e) sz by_ K:=
 Ce ψ ψ ψ kd (by simp only[I2,List.length_nil,CE];exact wT a b) rfl c
def CX:type_of% @Ap.cp:=@Ap.cp
theorem Fl.cp{e:α->List C}{xs:List α}{X:Prop}(h2:∀x,(e x).length=sz)(d:∀x,b6 (e x)=true)(a:xs.length<=1048576)(b:by_<=1000)(c:X):Fl (xs.map e) sz by_ X:=
 Fl.mk ψ kd (by simp only[I2];exact wT a b) c
def Cg:type_of% @Fl.cp:=@Fl.cp
variable{rows:List (List C)}
theorem Ap.sn{a:List (List C)}{r:List C}(h1:∀r∈rows,r.length=sz)(h2:r.length=sz)(b:rows.length+1<=1048576)(c:by_<=1000)(d:a=rows++[r])(e:K a):Ap false rows [r] sz by_ K:=
 Ce h1 ψ ψ kd (wT (by simpa using b) c) d e
def gi(xs:List Int)(a:xs.length<=1048576):zzA 220 false [.val none (aI .O xs)] .one (aI .own xs):=by
 refine fO 6 [] Tryz.func220 rfl ?_ (.inr (bO _))
 repeat'(first|refine gP ?_|refine CX (λ_=>rfl) (λ_=>rfl) a qs ?_)
 rfl
def Kh(t:aL)(a:aL.sml t):zzA 411 false [.val (some 1) (aL.enc .O t)] .agg (aL.enc .own t):=by
 have b:=a.1;refine fO 8 [] Tryz.func411 rfl ?_ (.inr (aL.enc_fr _))
 repeat'(first|refine gP ?_|refine CX (λ_=>rfl) (λ_=>rfl) b qs ?_)
 rfl
def Bx(t:aL)(a:aL.sml t):zzA 435 false [.val (some 1) (aL.enc .O t)] .agg (aL.enc .own t):=by
 have b:=a.1;refine fO 8 [] Tryz.func435 rfl ?_ (.inr (aL.enc_fr _))
 repeat'(first|refine gP ?_|refine CX (λ_=>rfl) (λ_=>rfl) b qs ?_)
 rfl
theorem aR{e:α->List C}{l:List α}(h:∀x,(e x).length=n):∀r∈l.map e,r.length=n:=(ψ)
theorem gx{β:Type}[Inhabited α]{xs:List α}{f:α->β}(a:i<xs.length):(xs.take (i+1)).map f=(xs.take i).map f++[f (nth xs i)]:=by grind [SA,au]
def JZ(f:aO)(a:aO.sml f):zzA 410 false [.val (some 2) (aO.enc .O f)] .agg (aO.enc .own f):=by
 have g:=a.1.1;have d:f.y.length<=1048576:=a.2;refine fO 30 [(5,10,[17,18,19,20,21,22,23,24,25,26])] Tryz.func410 rfl ?_ (.inr (aO.enc_fr _))
 repeat'(first|refine gP ?_|refine CX (λ_=>rfl) (λ_=>rfl) d qs ?_)
 refine lp0 f.U.length (λi=>[(1,bX (aO.enc .O f)),(2,bX [.z,.z]),(3,bX [.s .own ((f.U.take i).map (aI .own)),.s .own (f.y.map (rB .own))]),(4,fN i)]) λi h=>?_
 by_cases b:i<f.U.length
 ·have e:=au b
  have c:(nth f.U i).length<=1048576:=a.1.2 _ (ay b)
  repeat'(first|refine gE ?_|refine Cg (λ_=>rfl) (λ_=>rfl) c qs ?_|refine Ap.sn (aR λ_=>rfl) rfl kd qs (gx b) ?_)
  (exact dL (i+1) ω)
 refine σE ?_
 obtain rfl:i=f.U.length:=ω
 rw[S9]
 rfl
def sL(f:aO)(a:aO.sml f):zzA 434 false [.val (some 2) (aO.enc .O f)] .agg (aO.enc .own f):=by
 have g:=a.1.1;have d:f.y.length<=1048576:=a.2;refine fO 27 [(5,5,[18,19,20,21,22])] Tryz.func434 rfl ?_ (.inr (aO.enc_fr _))
 repeat'(first|refine gP ?_|refine CX (λ_=>rfl) (λ_=>rfl) d qs ?_)
 refine lp0 f.U.length (λi=>[(2,bX [.z,.z]),(3,bX [.s .own ((f.U.take i).map (aI .own)),.s .own (f.y.map (rB .own))]),(12,b8 (fk .O f.U)),(13,fI f.U.length),(14,fN i)]) λi h=>?_
 by_cases b:i<f.U.length
 ·have e:=au b
  have c:(nth f.U i).length<=1048576:=a.1.2 _ (ay b)
  repeat'(first|refine gE ?_|refine CG (gi (nth f.U i) c) ?_|refine Ap.sn (aR λ_=>rfl) rfl kd qs (gx b) ?_)
  (exact dL (i+1) ω)
 refine σE ?_
 obtain rfl:i=f.U.length:=ω
 rw[S9]
 rfl
def xH(m:aH)(a:aH.sml m):zzA 308 false [.val (some 3) (aH.enc .O m)] .agg (aH.enc .own m):=by
 refine fO 10 [(1,5,[3,4,5,6,7])] Tryz.func308 rfl ?_ (.inr (aH.enc_fr _))
 repeat'(first|refine gP ?_|refine CG (JZ m.V a.1) ?_|refine CG (Kh m.R a.2) ?_)
 rfl
def lw(m:aH)(a:aH.sml m):zzA 354 false [.val (some 3) (aH.enc .O m)] .agg (aH.enc .own m):=by
 refine fO 10 [(1,5,[3,4,5,6,7])] Tryz.func354 rfl ?_ (.inr (aH.enc_fr _))
 repeat'(first|refine gP ?_|refine CG (sL m.V a.1) ?_|refine CG (Bx m.R a.2) ?_)
 rfl
def HM(k:af)(a:af.sml k):zzA 160 false [.val (some 5) (af.enc .O k)] .agg (af.enc .own k):=by
 have b:k.k.length<=1048576:=a.2;refine fO 13 [(1,9,[3,4,5,6,7,8,9,10,11])] Tryz.func160 rfl ?_ (.inr (Ck _))
 repeat'(first|refine gP ?_|refine CG (xH k.F a.1) ?_|refine Cg (λ_=>rfl) (λ_=>rfl) b qs ?_)
 rfl
def i7(k:af)(a:af.sml k):zzA 214 false [.val (some 5) (af.enc .O k)] .agg (af.enc .own k):=by
 refine fO 12 [(1,8,[3,4,5,6,7,8,9,10])] Tryz.func214 rfl ?_ (.inr (Ck _))
 repeat'(first|refine gP ?_|refine CG (lw k.F a.1) ?_|refine CG (gi k.k a.2) ?_)
 rfl
def gf(k:af)(p:Int)(a:aL.sml k.F.R):zzA 421 false [.ptr (af.enc .O k),.vI p] .one [I (ax k.F.R p).o]:=by
 refine fO 13 [] Tryz.func421 rfl ?_
 repeat'(first|refine gP ?_|refine CG (dO k.F.R p a) ?_)
 rfl
def pm(k:af)(b:af.sml k):zzA 71 false [.val (some 5) (af.enc .O k)] .one [B (aN k&&decide (k.Calls<100000))]:=by
 have a:=vF k b;cases e:aN k<;>rw[e]at a
 ·refine fO 10 [] Tryz.func71 rfl ?_
  repeat'(first|refine gP ?_|refine gS (λc=>?_) (λc=>?_)|fail)
  all_goals rfl
 refine fO 10 [] Tryz.func71 rfl ?_
 refine σP ?_
 all_goals rfl
def jp(k:af)(a:af.sml k):zzA 394 false [.val (some 5) (af.enc .O k)] .one [B (decide (k.Calls≠100000)&&aN k)]:=by
 have b:=vw k a;refine fO 10 [] Tryz.func394 rfl ?_
 repeat'(first|refine gP ?_|refine gS (λc=>?_) (λc=>?_)|fail)
 all_goals(exact bE ((by simp[*])))
theorem yt(h:(pagesOn k.F.R f).length=0):af.enc .own (j9 k f)=[.s .own ((k.F.V.U.map (aI .own)).set f.toNat (aI .own (List.replicate 16 0))),.s .own ((k.F.V.y.map (rB .own)).set f.toNat (rB .own false)),.s .own (k.F.R.M.map (aS.enc .own)),I k.Calls,.s .own (k.k.map (rI .own))]:=by grind [IC,j9,af.enc]
theorem B6(h:¬(pagesOn k.F.R f).length=0):af.enc .own (j9 k f)=af.enc .own k:=by grind [j9]
def ym(k:af)(f:Int)(a:aL.sml k.F.R)(b:0<=f/\f<k.F.V.U.length/\f<k.F.V.y.length) :
  zzB 422 false [.ptr (af.enc .own k),.vI f] [.ptr (af.enc .own (j9 k f)),.vI f] (.tup []) []:=by
 have c:=au (xs:=k.F.V.U) (i:=f.toNat) ω;have d:=au (xs:=k.F.V.y) (i:=f.toNat) ω;by_cases e:(pagesOn k.F.R f).length=0
 ·rw[yt e]
  refine fM 30 [] [(2,8,[21,22,23,24,25,26,27,28])] [(0,0),(0,0)] Tryz.func422 rfl (λu q=>?_) (.inr tV1)
  repeat'(first|refine gB ?_|with_reducible (first|refine CS b.1 (aa d) ?_|refine CS b.1 (aa c) ?_)|refine CN (jq k.F.R f a) ⟨⟨rfl,Cm k.F.R⟩,⟨rfl,rfl⟩,tV1⟩ ?_|refine CR rfl rfl (aa c) rfl (O2 rfl) rfl ?_|refine CR rfl rfl (aa d) rfl (O2 rfl) rfl ?_|refine Mk.mk 16 rfl rfl qs qs rfl ?_)
  exact ks
 rw[B6 e];refine fM 30 [] [(2,8,[21,22,23,24,25,26,27,28])] [(0,0),(0,0)] Tryz.func422 rfl (λu q=>?_) (.inr tV1)
 repeat'(first|refine gB ?_|refine CN (jq k.F.R f a) ⟨⟨rfl,Cm k.F.R⟩,⟨rfl,rfl⟩,tV1⟩ ?_)
 exact ks
def yb(k:af)(f:Int)(a:aL.sml k.F.R)(b:0<=f/\f<k.F.V.U.length/\f<k.F.V.y.length) :
  zzB 447 false [.ptr (af.enc .own k),.vI f] [.ptr (af.enc .own (j9 k f)),.vI f] (.tup []) []:=by
 have c:=au (xs:=k.F.V.U) (i:=f.toNat) ω;have d:=au (xs:=k.F.V.y) (i:=f.toNat) ω;by_cases e:(pagesOn k.F.R f).length=0
 ·rw[yt e]
  refine fM 30 [] [(2,8,[21,22,23,24,25,26,27,28])] [(0,0),(0,0)] Tryz.func447 rfl (λu q=>?_) (.inr tV1)
  repeat'(first|refine gB ?_|with_reducible (first|refine CS b.1 (aa d) ?_|refine CS b.1 (aa c) ?_)|refine CN (nE k.F.R f a) ⟨⟨rfl,Cm k.F.R⟩,⟨rfl,rfl⟩,tV1⟩ ?_|refine CR rfl rfl (aa c) rfl (O2 rfl) rfl ?_|refine CR rfl rfl (aa d) rfl (O2 rfl) rfl ?_|refine Mk.mk 16 rfl rfl qs qs rfl ?_)
  exact ks
 rw[B6 e];refine fM 30 [] [(2,8,[21,22,23,24,25,26,27,28])] [(0,0),(0,0)] Tryz.func447 rfl (λu q=>?_) (.inr tV1)
 repeat'(first|refine gB ?_|refine CN (nE k.F.R f a) ⟨⟨rfl,Cm k.F.R⟩,⟨rfl,rfl⟩,tV1⟩ ?_)
 exact ks
theorem B8(k:af)(p:Int):af.enc .own (pf k p)=[.s .own (k.F.V.U.map (aI .own)),.s .own (k.F.V.y.map (rB .own)),.s .own ((k.F.R.M.map (aS.enc .own)).set p.toNat (aS.enc .own ⟨0,0⟩)),I k.Calls,.s .own (k.k.map (rI .own))]:=by grind [IC,pf,af.enc]
theorem DU(h:aN k=true):aL.sml (pf k p).F.R:=by
 obtain⟨a,b,c⟩:=bF.1 (aM.1 h).2.2.1;exact⟨by grind [pf],λ_ _=>tV1⟩
theorem WX(k:af)(p:Int)(b:aN k=true) :
  zzB 327 false [.ptr (af.enc .own k),.vI p] [.ptr (af.enc .own (cY k p)),.vI p] .one [B (decide ((ax k.F.R p).o≠0))]:=by
 have j:=bq b;have c:=gf k p j.1.2;by_cases a:(ax k.F.R p).o=0
 ·rw[show cY k p=k by unfold cY;rw[CK a]]
  refine fM 32 [(422,[2,0])] [] [(0,0),(0,0)] Tryz.func327 rfl (λu q=>?_)
  repeat'(first|refine gB ?_|refine CN (c) ⟨CW k,⟨rfl,rfl⟩,tV1⟩ ?_)
  refine CO rfl ?_ ?_
  ·exact bE ((by simp[a]))
  exact wB
 obtain⟨l,r,n,d,o⟩:=bV b a;have h:=(bk.1 (aM.1 b).2.1).2.2.1;rw[show cY k p=j9 (pf k p) (ax k.F.R p).g by unfold cY;rw[CJ a]];have e:=ym (pf k p) (ax k.F.R p).g (DU b) ⟨d,by grind [pf],by grind [pf]⟩;rw[B8]at e;have g:=au (xs:=k.F.R.M) (i:=p.toNat) ω;rw[n]at c e a |-;refine fM 32 [(422,[2,0])] [] [(0,0),(0,0)] Tryz.func327 rfl (λu q=>?_)
 repeat'(first|refine gB ?_|with_reducible refine CS l (aa g) ?_|refine CN (c) ⟨CW k,⟨rfl,rfl⟩,tV1⟩ ?_|refine CR rfl rfl (aa g) rfl (O2 rfl) rfl ?_)
 refine CO rfl ?_ ?_
 ·exact bE ((by simp[a]))
 exact wB
theorem tl(k:af)(p:Int)(a:aN k=true)(o:k.Calls≠100000) :
  zzA 377 false [.val (some 5) (af.enc .O k),.vI p] (.tup [some 5,none]) (af.enc .own (cY k p)++[B (decide ((ax k.F.R p).o≠0))]):=by
 have d:=bq a;have l:=i7 k d;have e:=jp k d;have c:=gh k p d.1.2;rw[a,O0 o]at e;by_cases b:(ax k.F.R p).o=0
 ·rw[show cY k p=k by unfold cY;rw[CK b]]
  rw[C1 (by simpa using b)]at c |-;refine fP 38 [(447,[2,0])] [] Tryz.func377 rfl ?_ (.inr (aE (Ck k) ⟨tV1,tV1⟩))
  refine σP ?_
  all_goals rfl
 obtain⟨q,u,r,g,t⟩:=bV a b;have n:=(bk.1 (aM.1 a).2.1).2.2.1;rw[show cY k p=j9 (pf k p) (ax k.F.R p).g by unfold cY;rw[CJ b]];have h:=yb (pf k p) (ax k.F.R p).g (DU a) ⟨g,by grind [pf],by grind [pf]⟩;rw[B8]at h;have j:=au (xs:=k.F.R.M) (i:=p.toNat) ω;rw[O0 b]at c |-;rw[r]at h |-;refine fP 38 [(447,[2,0])] [] Tryz.func377 rfl ?_ (.inr (aE (Ck _) ⟨tV1,tV1⟩))
 repeat'(first|refine gP ?_|with_reducible refine CS q (aa j) ?_|refine CR rfl rfl (aa j) rfl (O2 rfl) rfl ?_)
 all_goals rfl
def TZ(n:Nat):aO:=⟨List.replicate n (List.replicate 16 0),List.replicate n false⟩
def UY(n:Nat):aL:=⟨List.replicate n ⟨0,0⟩⟩
def T6(p f:Nat)(a:List Int):af:=⟨⟨TZ f,UY p⟩,0,a⟩
def MC:aB:=⟨List.replicate 4 []⟩
def Ym(n:Nat):aJ:=⟨List.replicate n [],List.replicate n []⟩
def Xm(p f t:Nat)(lim:Int)(a:List Int):ac:=⟨T6 p f a,[⟨0,p⟩],[],[],[],List.replicate t MC,Ym t,⟨16,[]⟩,0,0,lim,1,false,⟨⟨0,0,[]⟩,0,0⟩⟩
theorem Dg(w:World)(q:Nat)(a:Array Obj):bM NO w (Sort.grow (w.drewN q) a):=by
 have c:∀b,b<w.heap.size->(Sort.grow (w.drewN q) a).heap[b]? = w.heap[b]?:=λb c=>Sort.heap_grow_old (w.drewN q) a c
 refine⟨rfl,rfl,rfl,ψ,λb h _=>c b h,λb o h _=>?_,λb o h _=>?_⟩
 all_goals grind [Go.World.cell?,Go.World.frozen?,mp]
theorem Ut(c:Nat)(W:World):Calls Tryz.prog 393 #[.slice none 0 c] W λe g=>∃B q h,e=.returned (.slice B 0 0)/\g=Sort.grow (W.drewN q) h:=by
 have q22:∀(w:World)(a:Option Addr)(n c b d:Nat),(binOp .eql 31 (.slice a n c) (.slice none b d)).run Tryz.prog w=.ok (.bool a.isNone) w:=λw a n c b d=>Lib.run_eql_slice_nil w _ _ a n c b d Tryz.underlying31
 go_enter Tryz.func393,Tryz.ntmps393
 go_wp2
 go_ret
 exact⟨none,0,#[],rfl,by simp[Sort.grow,World.drewN]⟩
theorem Qj(a:Addr)(c:Nat)(W:World):Calls Tryz.prog 393 #[.slice (some a) 0 c] W λe g=>∃B q h,e=.returned (.slice B 0 0)/\g=Sort.grow (W.drewN q) h:=by
 have q22:∀(w:World)(a:Option Addr)(n c b d:Nat),(binOp .eql 31 (.slice a n c) (.slice none b d)).run Tryz.prog w=.ok (.bool a.isNone) w:=λw a n c b d=>Lib.run_eql_slice_nil w _ _ a n c b d Tryz.underlying31
 go_enter Tryz.func393,Tryz.ntmps393
 go_wp2
 go_ret
 exact⟨some ⟨W.heap.size,0,none⟩,0,#[.cells #[] 3],rfl,by rw[Sort.alloc_eq_grow];rfl⟩
theorem NH(xs:List Int)(o:xs.length<=1048576):zzA 393 false [.val none (aI .O xs)] .one (aI .own xs):=by
 by_cases c:xs=[]
 ·subst c
  refine⟨⟨_,Tryz.func393,by kernel_rfl,by kernel_rfl⟩,λw S p t d=>?_⟩
  match p,d with
  | [v],⟨d,_⟩=>
   have b:=bD.rep1 (show bD w S NO none [C.s .O []] v from d);obtain⟨l,g,rfl⟩:=b.slice;have r:Calls Tryz.prog 393 #[.slice l 0 g] w λe n=>∃B q i,e=.returned (.slice B 0 0)/\n=Sort.grow (w.drewN q) i:=by
    cases l with
    | none=>grind [Ut]
    | some a=>grind [Qj]
   refine r.mono λe n ⟨B,q,i,c,j⟩=>?_
   subst j;exact⟨.slice B 0 0,c,Dg w q i,NO,NO,λ_ _ h=>h.elim,λ_ _ h=>h.elim,λ_ _ h=>h.elim,rfl,row1 (.nil _ .own B tV1)⟩
 have k:xs.map (rI .O)≠[]:=by simp_all
 refine fO 8 [] Tryz.func393 rfl ?_ (.inr (bO _))
 repeat'(first|refine gP ?_|refine Nn.mk k ?_|refine CX (λ_=>rfl) (λ_=>rfl) o qs ?_)
 rfl
def vz(p:bn)(a:bn.sml p):zzA 279 false [.val (some 3) (bn.enc .O p)] .agg (bn.enc .own p):=by
 have b:p.U.length<=1048576:=a;refine fO 8 [] Tryz.func279 rfl ?_ (.inr (bn.enc_fr _))
 repeat'(first|refine gP ?_|refine CG (NH p.U b) ?_)
 rfl
def x5(j:bz)(a:bz.sml j):zzA 219 false [.val (some 5) (bz.enc .O j)] .agg (bz.enc .own j):=by
 refine fO 8 [] Tryz.func219 rfl ?_ (.inr (bz.enc_fr _))
 repeat'(first|refine gP ?_|refine CG (vz j.d a) ?_)
 rfl
def kU(c:aB)(d:aB.sml c):zzA 161 false [.val (some 1) (aB.enc .O c)] .agg (aB.enc .own c):=by
 have g:=d.1;refine fO 26 [(5,10,[13,14,15,16,17,18,19,20,21,22])] Tryz.func161 rfl ?_ (.inr (Cs _))
 refine σP ?_
 refine lp0 c.X.length (λi=>[(1,bX (aB.enc .O c)),(2,bX [.z]),(3,bX [.s .own ((c.X.take i).map (aI .own))]),(4,fN i)]) λi h=>?_
 by_cases a:i<c.X.length
 ·have e:=au a
  have b:(nth c.X i).length<=1048576:=d.2 _ (ay a)
  repeat'(first|refine gE ?_|refine Cg (λ_=>rfl) (λ_=>rfl) b qs ?_|refine Ap.sn (aR λ_=>rfl) rfl kd qs (gx a) ?_)
  (exact dL (i+1) ω)
 refine σE ?_
 obtain rfl:i=c.X.length:=ω
 rw[S9]
 rfl
def kF(c:aB)(d:aB.sml c):zzA 216 false [.val (some 1) (aB.enc .O c)] .agg (aB.enc .own c):=by
 have g:=d.1;refine fO 23 [(5,5,[14,15,16,17,18])] Tryz.func216 rfl ?_ (.inr (Cs _))
 refine σP ?_
 refine lp0 c.X.length (λi=>[(2,bX [.z]),(3,bX [.s .own ((c.X.take i).map (aI .own))]),(8,b8 (fk .O c.X)),(9,fI c.X.length),(10,fN i)]) λi h=>?_
 by_cases a:i<c.X.length
 ·have e:=au a
  have b:(nth c.X i).length<=1048576:=d.2 _ (ay a)
  repeat'(first|refine gE ?_|refine CG (gi (nth c.X i) b) ?_|refine Ap.sn (aR λ_=>rfl) rfl kd qs (gx a) ?_)
  (exact dL (i+1) ω)
 refine σE ?_
 obtain rfl:i=c.X.length:=ω
 rw[S9]
 rfl
def iv(m:aJ)(b:aJ.sml m):zzA 162 false [.val (some 2) (aJ.enc .O m)] .agg (aJ.enc .own m):=by
 have h:=b.1.1;have g:=b.2.1;refine fO 46 [(5,10,[14,15,16,17,18,19,20,21,22,23]),(9,10,[33,34,35,36,37,38,39,40,41,42])] Tryz.func162 rfl ?_ (.inr (Cr _))
 refine σP ?_
 refine lp0 m.T.length (λi=>[(1,bX (aJ.enc .O m)),(2,bX [.z,.z]),(3,bX [.s .own ((m.T.take i).map (bf .own)),.z]),(4,fN i)]) λi j=>?_
 by_cases c:i<m.T.length
 ·have d:=au c
  have a:(nth m.T i).length<=1048576:=(b.1.2 _ (ay c)).1
  repeat'(first|refine gE ?_|refine Cg (λ_=>rfl) (λ_=>rfl) a qs ?_|refine Ap.sn (aR λ_=>rfl) rfl kd qs (gx c) ?_)
  (exact dL (i+1) ω)
 obtain rfl:i=m.T.length:=ω
 rw[S9]
 refine σE ?_
 refine lp0 m.e.length (λk=>[(1,bX (aJ.enc .O m)),(2,bX [.z,.z]),(3,bX [.s .own (m.T.map (bf .own)),.s .own ((m.e.take k).map (aI .own))]),(5,fN k)]) λk l=>?_
 by_cases e:k<m.e.length
 ·have d:=au e
  have a:(nth m.e k).length<=1048576:=b.2.2 _ (ay e)
  repeat'(first|refine gE ?_|refine Cg (λ_=>rfl) (λ_=>rfl) a qs ?_|refine Ap.sn (aR λ_=>rfl) rfl kd qs (gx e) ?_)
  (exact dL (k+1) ω)
 refine σE ?_
 obtain rfl:k=m.e.length:=ω
 rw[S9]
 rfl
def gQ(m:aJ)(b:aJ.sml m):zzA 217 false [.val (some 2) (aJ.enc .O m)] .agg (aJ.enc .own m):=by
 have h:=b.1.1;have g:=b.2.1;refine fO 41 [(5,6,[16,17,18,19,20,21]),(10,5,[32,33,34,35,36])] Tryz.func217 rfl ?_ (.inr (Cr _))
 refine σP ?_
 refine lp0 m.T.length (λi=>[(1,bX (aJ.enc .O m)),(2,bX [.z,.z]),(3,bX [.s .own ((m.T.take i).map (bf .own)),.z]),(10,b8 (fw .O m.T)),(11,fI m.T.length),(12,fN i)]) λi j=>?_
 by_cases c:i<m.T.length
 ·have d:=au c
  have a:(nth m.T i).length<=1048576:=(b.1.2 _ (ay c)).1
  repeat'(first|refine gE ?_|refine Cg (λ_=>rfl) (λ_=>rfl) a qs ?_|refine Ap.sn (aR λ_=>rfl) rfl kd qs (gx c) ?_)
  (exact dL (i+1) ω)
 obtain rfl:i=m.T.length:=ω
 rw[S9]
 refine σE ?_
 refine lp0 m.e.length (λk=>[(2,bX [.z,.z]),(3,bX [.s .own (m.T.map (bf .own)),.s .own ((m.e.take k).map (aI .own))]),(26,b8 (fk .O m.e)),(27,fI m.e.length),(28,fN k)]) λk l=>?_
 by_cases e:k<m.e.length
 ·have d:=au e
  have a:(nth m.e k).length<=1048576:=b.2.2 _ (ay e)
  repeat'(first|refine gE ?_|refine CG (gi (nth m.e k) a) ?_|refine Ap.sn (aR λ_=>rfl) rfl kd qs (gx e) ?_)
  (exact dL (k+1) ω)
 refine σE ?_
 obtain rfl:k=m.e.length:=ω
 rw[S9]
 rfl
def x6(q:aY)(b:aY.sml q):zzA 163 false [.val (some 2) (aY.enc .O q)] .agg (aY.enc .own q):=by
 have a:q.l.length<=1048576:=b.1;refine fO 10 [(1,6,[3,4,5,6,7,8])] Tryz.func163 rfl ?_ (.inr (aY.enc_fr _))
 repeat'(first|refine gP ?_|refine Cg (λ_=>rfl) (λ_=>rfl) a qs ?_|refine CX (λ_=>rfl) (λ_=>rfl) a qs ?_)
 rfl
def pN(q:aY)(b:aY.sml q):zzA 218 false [.val (some 2) (aY.enc .O q)] .agg (aY.enc .own q):=by
 have a:q.l.length<=1048576:=b.1;refine fO 10 [(1,6,[3,4,5,6,7,8])] Tryz.func218 rfl ?_ (.inr (aY.enc_fr _))
 repeat'(first|refine gP ?_|refine Cg (λ_=>rfl) (λ_=>rfl) a qs ?_|refine CX (λ_=>rfl) (λ_=>rfl) a qs ?_)
 rfl
def x7(j:bz)(a:bz.sml j):zzA 164 false [.val (some 5) (bz.enc .O j)] .agg (bz.enc .own j):=by
 have b:j.d.U.length<=1048576:=a;refine fO 11 [] Tryz.func164 rfl ?_ (.inr (bz.enc_fr _))
 repeat'(first|refine gP ?_|refine CX (λ_=>rfl) (λ_=>rfl) b qs ?_)
 rfl
def ng(xs:List aD)(a:eJ xs):zzA 215 false [.val none (bm .O xs)] .one (bm .own xs):=by
 have b:=a.1;refine fO 6 [] Tryz.func215 rfl ?_ (.inr (ji _))
 repeat'(first|refine gP ?_|refine CX (λ_=>rfl) (λ_=>rfl) b qs ?_)
 rfl
def a0c(h:ac)(a:C):List C:=[.s .own (h.G.F.V.U.map (aI .own)),.s .own (h.G.F.V.y.map (rB .own)),.s .own (h.G.F.R.M.map (aS.enc .own)),I h.G.Calls,.s .own (h.G.k.map (rI .own)),.s .own (h.a.map (aD.enc .own)),.s .own (h.J.map (aC.enc .own)),.s .own (h.H.map (aA.enc .own)),.s .own (h.K.map (aW.enc .own)),a,.s .O (h.b.T.map (bf .O)),.s .O (h.b.e.map (aI .O)),I h.r.b2,.s .O (h.r.l.map (aK.enc .O)),I h.b3,I h.a4,I h.b7,I h.j,B h.w,I h.a2.d.a5,I h.a2.d.a7,.s .O (h.a2.d.U.map (rI .O)),I h.a2.a8,I h.a2.j]
def xv:List C:=[.z,.z,.z,I 0,.z,.z,.z,.z,.z,.z,.z,.z,I 0,.z,I 0,I 0,I 0,I 0,B false,I 0,I 0,.z,I 0,I 0]
def HH(h:ac)(c:ac.sml h):zzA 50 false [.val (some 24) (ac.enc .O h)] .agg (ac.enc .own h):=by
 obtain⟨d,e,g,j,k,b,l,n,o⟩:=c;have p:=e.1;have q:=g.1;have r:=j.1;have t:=k.1;have w:=b.1;refine fO 61 [] Tryz.func50 rfl ?_ (.inr (ac.enc_fr _))
 repeat'(first|refine gP ?_|refine CG (HM h.G d) ?_|refine CX (λ_=>rfl) (λ_=>rfl) p qs ?_|refine CX (λ_=>rfl) (λ_=>rfl) q qs ?_|refine CX (λ_=>rfl) (λ_=>rfl) r qs ?_|refine CX (λ_=>rfl) (λ_=>rfl) t qs ?_)
 refine lp0 h.Q.length (λi=>[(1,bX (a0c h (.s .O (h.Q.map (aB.enc .O))))),(2,.Y .box xv),(3,b8 ([.s .own ((h.Q.take i).map (aB.enc .own))])),(4,fN i)]) λi y=>?_
 by_cases a:i<h.Q.length
 ·have u:=au a
  repeat'(first|refine gE ?_|refine CG (kU (nth h.Q i) (b.2 _ (ay a))) ?_|refine Ap.sn (aR λ_=>rfl) rfl kd qs (gx a) ?_)
  (exact dL (i+1) ω)
 obtain rfl:i=h.Q.length:=ω
 rw[S9]
 repeat'(first|refine gE ?_|refine CG (iv h.b l) ?_|refine CG (x6 h.r n) ?_|refine CG (x7 h.a2 o) ?_)
 rfl
def jN(h:ac)(c:ac.sml h):zzA 85 false [.val (some 24) (ac.enc .O h)] .agg (ac.enc .own h):=by
 obtain⟨d,e,g,j,k,b,l,n,o⟩:=c;have p:=g.1;have q:=j.1;have r:=k.1;have u:=b.1;refine fO 59 [(11,5,[38,39,40,41,42])] Tryz.func85 rfl ?_ (.inr (ac.enc_fr _))
 repeat'(first|refine gP ?_|refine CG (i7 h.G d) ?_|refine CG (ng h.a e) ?_|refine CX (λ_=>rfl) (λ_=>rfl) p qs ?_|refine CX (λ_=>rfl) (λ_=>rfl) q qs ?_|refine CX (λ_=>rfl) (λ_=>rfl) r qs ?_)
 refine lp0 h.Q.length (λi=>[(1,bX (ac.enc .O h)),(2,.Y .box xv),(3,bX (a0c h (.s .own ((h.Q.take i).map (aB.enc .own))))),(32,b8 (er .O h.Q)),(33,fI h.Q.length),(34,fN i)]) λi w=>?_
 by_cases a:i<h.Q.length
 ·have t:=au a
  repeat'(first|refine gE ?_|refine CG (kF (nth h.Q i) (b.2 _ (ay a))) ?_|refine Ap.sn (aR λ_=>rfl) rfl kd qs (gx a) ?_)
  (exact dL (i+1) ω)
 obtain rfl:i=h.Q.length:=ω
 rw[S9]
 repeat'(first|refine gE ?_|refine CG (gQ h.b l) ?_|refine CG (pN h.r n) ?_|refine CG (x5 h.a2 o) ?_)
 rfl
theorem Ap.sm{a:List (List C)}{r:List C}(h1:∀r∈rows,r.length=sz)(h2:r.length=sz)(e:rows.length+1<=1073741824)(b:by_<=1000)(c:a=rows++[r])(d:K a):Ap false rows [r] sz by_ K:=
 Ce h1 ψ ψ kd (I9 (Nat.mul_le_mul ω b) qs) c d
def Cf:type_of% @Ap.sm:=@Ap.sm
theorem Ap.s2{c:List (List C)}{a b:List C}(h1:∀r∈rows,r.length=sz)(h2:a.length=sz)(g:b.length=sz)(h:rows.length+2<=1073741824)(d:by_<=1000)(e:c=rows++[a,b])(f:K c):Ap false rows [a,b] sz by_ K:=
 Ce h1 ψ ψ kd (I9 (Nat.mul_le_mul ω d) qs) e f
def zk(y:aD)(a:List aD)(r:aD)(out:List aD)(done:Bool):kH (y::a) r out done=if ovl y r then none
  else if y.At+y.a1=r.At then kH a ⟨y.At,y.a1+r.a1⟩ out done
  else if r.At+r.a1=y.At then kH a ⟨r.At,r.a1+y.a1⟩ out done
  else if y.At > r.At/\done=false then kH a r (out++[r,y]) true
  else kH a r (out++[y]) done:=by rw[kH]
variable{xs:List aD}{pages:Int}
theorem xP(h:bR pages xs=true):lh xs/\∀y∈xs,0<=y.At/\1<=y.a1/\y.At+y.a1<=pages:=by
 unfold bR at h;simp only[I0,C0]at h;have d:∀i,i<xs.length->1<=(nth xs i).a1/\0<=(nth xs i).At/\(nth xs i).At<=pages - (nth xs i).a1:=λi a=>by grind [gY,iT,rangeIn]
 have e:∀i,i+1<xs.length->(nth xs i).At+(nth xs i).a1<(nth xs (i+1)).At:=λi a=>by grind [gY,iT]
 have f:∀j i,i<j->j<xs.length->(nth xs i).At+(nth xs i).a1<(nth xs j).At:=λj=>by
  induction j with
  | zero=>intro i a;omega
  | succ j k=>
   grind
 refine⟨⟨?_,λy g=>?_⟩,λy g=>?_⟩
 ·rw[List.pairwise_iff_getElem]
  intro i j a c b;have:=f j i b c
  rwa [bI (z4 a),bI (z4 c)]at this
 all_goals grind [b9]
theorem hB[Inhabited α]{xs:List α}(a:i<xs.length):xs.drop i=nth xs i::xs.drop (i+1):=by
 rw[List.drop_eq_getElem_cons a,bI (z4 a)]
def cw(pages:Int)(xs:List aD)(r:aD):Option (List aD):=if bR pages xs=true/\rangeIn pages r=true then kH xs r [] false else none
def JA(xs:List aD)(o:Option (List aD)):List C:=bm .own (o.getD xs)++[B o.isSome]
def nO(xs:List aD)(o:Option (List aD)):gl (JA xs o):=aE (ji _) ⟨tV1,tV1⟩
theorem FN(pages:Int)(xs:List aD)(r:aD)(w:0<=pages/\pages<=1048576)(l:eJ xs):zzA 384 false [.vI pages,.val none (bm .O xs),.val (some 2) (aD.enc .O r)] (.tup [none,none]) (JA xs (cw pages xs r)):=by
 have J:=l.1;have j:=qo pages xs w l;have n:=BQ pages r w;have o:=ng xs l;cases k:bR pages xs<;>rw[k]at j
 ·rw[show cw pages xs r=none by unfold cw;rw[CJ (by rw[k];simp)]]
  refine fO 111 [] Tryz.func384 rfl ?_ (.inr (nO _ _))
  refine σP ?_
  rfl
 cases p:rangeIn pages r<;>rw[p]at n
 ·rw[show cw pages xs r=none by unfold cw;rw[CJ (by rw[p];simp)]]
  refine fO 111 [] Tryz.func384 rfl ?_ (.inr (nO _ _))
  refine σP ?_
  rfl
 rw[show cw pages xs r=kH xs r [] false by unfold cw;rw[CK ⟨k,p⟩]];obtain⟨K,E⟩:=xP k;have F:0<=r.At/\1<=r.a1/\r.At+r.a1<=pages:=by grind [rangeIn]
 refine fO 111 [] Tryz.func384 rfl ?_ (.inr (nO _ _))
 refine σP ?_
 refine pe (ι:=Nat × aD × List aD × Bool) (λq=>[(1,b8 (bm .O xs)),(5,bX (aD.enc .O q.2.1)),(8,b8 (bm .own q.2.2.1)),(9,fB (q.2.2.2)),(25,b8 (bm .O xs)),(26,fI xs.length),(27,fN (q.1))]) (λq=>q.1<=xs.length/\kH (xs.drop q.1) q.2.1 q.2.2.1 q.2.2.2=kH xs r [] false/\(0<=q.2.1.At/\1<=q.2.1.a1/\q.2.1.At+q.2.1.a1<=pages)/\q.2.2.1.length<=2*q.1) (λq=>xs.length - q.1) ((0,r,[],false)) (⟨I1 _,rfl,F,I1 _⟩) λq c=>?_
 obtain⟨i,d,out,done⟩:=q;obtain⟨G,b,e,t⟩:=c;simp only at G b e t |-;by_cases u:i<xs.length
 ·have g:=au u
  have L:=E _ (ay u);rw[hB u]at b;by_cases h:ovl (nth xs i) d=true
  ·rw[<-b]
   rw[zk,CK h];unfold ovl at h;rw[C0]at h
   repeat'(first|refine gE ?_|refine gS (λc=>?_) (λc=>?_)|fail)
   rfl
  have a:=b;rw[zk,CJ h]at a;unfold ovl at h;rw[C0]at h;by_cases y:(nth xs i).At+(nth xs i).a1=d.At
  ·rw[CK y]at a
   repeat'(first|refine gB ?_|refine gS (λc=>?_) (λc=>?_)|fail)
   (exact dL (i+1,⟨(nth xs i).At,(nth xs i).a1+d.a1⟩,out,done) ⟨(by simp only;omega),a,(by simp only;omega),(by simp only;omega)⟩)
  rw[CJ y]at a;by_cases D:d.At+d.a1=(nth xs i).At
  ·rw[CK D]at a
   repeat'(first|refine gB ?_|refine gS (λc=>?_) (λc=>?_)|fail)
   (exact dL (i+1,⟨d.At,d.a1+(nth xs i).a1⟩,out,done) ⟨(by simp only;omega),a,(by simp only;omega),(by simp only;omega)⟩)
  rw[CJ D]at a;by_cases H:(nth xs i).At > d.At
  ·cases done with
   | false=>
    rw[CK ⟨H,rfl⟩]at a
    repeat'(first|refine gB ?_|refine gS (λc=>?_) (λc=>?_)|refine Ap.s2 (aR λ_=>rfl) rfl rfl kd qs rfl ?_)
    ((conv=>whnf)
     refine CQ (i+1,d,out++[d,nth xs i],true) ⟨(by simp only;omega),a,e,kd⟩ (by simp only;omega) ?_
     (exact wR))
   | true=>
    rw[CJ (by simp)]at a
    repeat'(first|refine gB ?_|refine gS (λc=>?_) (λc=>?_)|refine Cf (aR λ_=>rfl) rfl kd qs rfl ?_)
    ((conv=>whnf)
     refine CQ (i+1,d,out++[nth xs i],true) ⟨(by simp only;omega),a,e,kd⟩ (by simp only;omega) ?_
     (exact wR))
  rw[CJ ω]at a
  repeat'(first|refine gB ?_|refine gS (λc=>?_) (λc=>?_)|refine Cf (aR λ_=>rfl) rfl kd qs rfl ?_)
  ((conv=>whnf)
   refine CQ (i+1,d,out++[nth xs i],done) ⟨(by simp only;omega),a,e,kd⟩ (by simp only;omega) ?_
   (exact wR))
 obtain rfl:i=xs.length:=ω
 rw[List.drop_length]at b;cases done with
 | false=>
  rw[<-b]
  repeat'(first|refine gE ?_|refine Cf (aR λ_=>rfl) rfl kd qs rfl ?_)
  show [C.s eS.own _,B true]=[C.s eS.own _,B true]
  grind [kH,aD.enc]
 | true=>
  rw[<-b]
  refine σE ?_
  rfl
theorem Be[Inhabited α](R:Int->Int->Prop)(n:∀a b c,R a b->R b c->R a c)(f:α->Int)(xs:List α):(∀i,i<xs.length->i=0\/R (f (nth xs (i - 1))) (f (nth xs i)))↔xs.Pairwise (λa b=>R (f a) (f b)):=by
 constructor
 ·intro h
  have l:∀j i,i<j->j<xs.length->R (f (nth xs i)) (f (nth xs j)):=λj=>by
   induction j with
   | zero=>intro i d;omega
   | succ j o=>
    grind
  rw[List.pairwise_iff_getElem];intro i j d k g;have:=l j i g k
  rwa [bI (z4 d),bI (z4 k)]at this
 intro h i d;by_cases e:i=0
 ·exact .inl e
 right
 have:=List.pairwise_iff_getElem.1 h (i - 1) i ω d ω
 rwa [<-bI (z4 (show i - 1<xs.length by omega)),<-bI (z4 d)]at this
theorem Hi[Inhabited α](f:α->Int)(xs:List α):(∀i,i<xs.length->∀o∈xs.take i,f o≠f (nth xs i))↔(xs.map f).Nodup:=by
 unfold List.Nodup;rw[List.pairwise_map,List.pairwise_iff_getElem];constructor
 ·intro h i j b a c
  have:=h j a xs[i] (List.mem_take_iff_getElem.2 ψ)
  rwa [bI (z4 a)]at this
 intro h i b o d;obtain⟨j,a,rfl⟩:=List.mem_take_iff_getElem.1 d;rw[bI (z4 b)]
 grind
def hO(s:aC)(a:Int):Prop:=16*s.S<=a/\a<=16*s.S+15/\(a - 16*s.S) % csz s.Z=0/\br s.a3 ((a - 16*s.S) / csz s.Z)=true
def kX(sp:List aC)(a c:Int):Prop:=∃s∈sp,hO s a/\(c<0\/s.Z=c)
def LgO(la:List aA)(a z:Int):Prop:=∃l∈la,a=16*l.S/\l.q=z
def Wo(sp:List aC)(la:List aA)(o:aW):Prop:=(∃s∈sp,hO s o.Addr/\s.Z=aZ o.q)\/LgO la o.Addr o.q
def sv(sp:List aC)(la:List aA)(a:Int):Prop:=kX sp a (-1)\/∃l∈la,a=16*l.S
theorem qC(f:sj sp la)(a:Int):(∃i,i<sp.length/\(16*(nth sp i).S<=a/\a<=16*(nth sp i).S+15)/\denotes sp la a=uv i (nth sp i) a)\/((∀s∈sp,¬(16*s.S<=a/\a<=16*s.S+15))/\((∃i,i<la.length/\cg (nth la i) a=true/\denotes sp la a = ⟨3,i,0,a - 16*(nth la i).S⟩)\/((∀l∈la,cg l a=false)/\denotes sp la a = ⟨0,0,0,0⟩))):=by
 cases d:sp.findIdx? (eH · a) with
 | some i=>
  obtain⟨b,c,-⟩:=IE.1 d;rw[<-bI (z4 b)]at c
  grind [jh,sj.sok,ay,denotes]
 | none=>
  have g:=List.findIdx?_eq_none_iff.1 d;refine .inr ⟨λs h j=>?_,?_⟩
  ·grind [jh,sj.sok]
  cases e:la.findIdx? (cg · a) with
  | some i=>
   obtain⟨b,c,-⟩:=IE.1 e;rw[<-bI (z4 b)]at c
   grind [denotes]
  | none=>grind [denotes]
theorem UO(l:sj h.J h.H){c:Int} : ep h a c=true↔kX h.J a c:=by
 unfold ep;simp only[I0,OC,C0];constructor
 ·rintro⟨⟨b,f⟩,d⟩
  rcases qC l a with⟨i,j,k,g⟩|⟨-,⟨i,j,-,g⟩|⟨-,g⟩⟩
  ·rw[g]at b f d
   simp only[uv]at b f d;refine⟨_,ay j,⟨k.1,k.2,f,?_⟩,by simpa using d⟩;cases e:br (nth h.J i).a3 ((a - 16*(nth h.J i).S) / csz (nth h.J i).Z) with
   | true=>rfl
   | false=>rw[e]at b;simp at b
  all_goals grind
 rintro⟨s,n,⟨o,p,q,r⟩,d⟩
 grind [b9,jM,uv]
theorem Dm(a:sj sp la)(c:l∈la):(∀s∈sp,¬(16*s.S<=16*l.S/\16*l.S<=16*s.S+15))/\cg l (16*l.S)=true/\∀i,i<la.length->cg (nth la i) (16*l.S)=true->nth la i=l:=by
 have k:=bj (a.lok _ c);have f:=cQ (a.lok _ c);refine⟨λs g n=>?_,?_,λi d e=>?_⟩
 ·exact a.dis s g l c 0 ω ω
 ·grind [sj.lok,cg]
 obtain⟨j,h,rfl⟩:=b9 c;have o:=bj (a.lok _ (ay d));have b:=a.lok _ (ay d);unfold cv at b;rw[C0]at b;unfold cg at e;rw[I0,C0]at e;rw[a.one i j d h ((nth la j).S - (nth la i).S).toNat 0 ω ω ω]
theorem VW(f:sj h.J h.H) : nw h o=true↔Wo h.J h.H o:=by
 unfold nw;simp only[I0,OC,C0];constructor
 ·rintro⟨b,a⟩
  rcases qC f o.Addr with⟨i,d,g,c⟩|⟨-,⟨i,d,-,c⟩|⟨-,c⟩⟩
  ·rw[c]at a b
   simp only[uv]at a b;have e:br (nth h.J i).a3 ((o.Addr - 16*(nth h.J i).S) / csz (nth h.J i).Z)=true:=ψ
   rw[e]at a;exact .inl ⟨_,ay d,⟨g.1,g.2,b,e⟩,by simpa using a⟩
  ·rw[c]at a b
   simp only at a b;exact .inr ⟨_,ay d,ω,by simpa using a⟩
  grind
 rintro(⟨s,e,⟨k,n,p,q⟩,r⟩|⟨l,j,t,u⟩)
 ·grind [b9,jM,uv]
 obtain⟨w,y,A⟩:=Dm f j
 grind [qC,ay]
theorem K5(j:sj sp la)(a:Int):a∈np sp la↔sv sp la a:=by
 constructor
 ·intro h
  unfold np pG at h;obtain⟨n,o,rfl⟩:=O8.1 h;have c:=(S8.1 o).2;unfold mW at c;simp only[I0,OC,C0]at c;obtain⟨b,d⟩:=c;rcases qC j (n:Int) with⟨i,g,k,f⟩|⟨-,⟨i,g,-,f⟩|⟨-,f⟩⟩
  ·rw[f]at d b
   simp only[uv]at d b;refine .inl ⟨_,ay g,⟨k.1,k.2,b,?_⟩,.inl ω⟩;cases e:br (nth sp i).a3 (((n:Int) - 16*(nth sp i).S) / csz (nth sp i).Z) with
   | true=>rfl
   | false=>rw[e]at d;simp at d
  ·rw[f]at b
   simp only at b;exact .inr ⟨_,ay g,ω⟩
  grind
 rintro(⟨s,q,⟨r,c,t,u⟩,-⟩|⟨l,p,rfl⟩)
 ·grind [b9,jM,AY,uv]
 obtain⟨w,y,A⟩:=Dm j p
 grind [qC,ay,AY]
def RH(xs:List aD)(p:Int):Prop:=∃r∈xs,r.At<=p/\p<r.At+r.a1
theorem jl : bR pages xs=true↔lh xs/\(∀y∈xs,0<=y.At/\1<=y.a1/\y.At+y.a1<=pages)/\1<=pages/\pages<=32:=by
 constructor
 ·grind [xP,bR]
 rintro⟨b,c,d⟩
 unfold bR;simp only[I0,C0];refine⟨cK.2 λi a=>?_,d⟩;have f:=c _ (ay a);unfold iT rangeIn;simp only[I0,C0];refine⟨ω,?_⟩;by_cases e:i=0
 ·exact .inl e
 right
 have:=List.pairwise_iff_getElem.1 b.1 (i - 1) i ω a ω
 rwa [<-bI (z4 (show i - 1<xs.length by omega)),<-bI (z4 a)]at this
theorem MD(h:bR pages xs=true)(p:Int):xs.any (AJ p)=true↔RH xs p:=by
 obtain⟨-,c,d⟩:=jl.1 h;rw[I7];refine⟨λ⟨r,a,b⟩=>⟨r,a,?_⟩,λ⟨r,a,b⟩=>⟨r,a,?_⟩⟩
 all_goals grind [ij,AJ]
theorem AO(i:Int):∀(f:List aD)(r:aD)(out:List aD),lh f->1<=r.a1->(∀y∈f,ovl y r=false)->(∀z∈out,z.At+z.a1<r.At/\∀y∈f,z.At+z.a1<y.At)->lh out->(∀y∈r::(out++f),0<=y.At/\y.At+y.a1<=i)->∃o,kH f r out false=some o/\lh o/\(∀y∈o,0<=y.At/\y.At+y.a1<=i)/\∀p,RH o p↔RH out p\/RH f p\/(r.At<=p/\p<r.At+r.a1)
 | [],r,out,_,l,_,D,g,j=>by
  refine⟨out++[r],by simp[kH],⟨List.pairwise_append.2 ⟨g.1,List.pairwise_singleton ..,ψ⟩,λy k=>?_⟩,ψ,λp=>by grind [RH]⟩;rcases v5.1 k with k|k
  ·exact g.2 y k
  grind
 | y::f,r,out,c,l,E,D,g,j=>by
  have M:=c.2 y ψ;have h:=E y ψ;have F:=c.head;have G:=j y (by simp);have H:=j r (by simp);have J:∀w∈f,¬(w.At<r.At+r.a1/\r.At<w.At+w.a1):=λw d=>by grind [ovl]
  have K:∀w∈f,1<=w.a1:=λw d=>c.2 w ψ
  rw[zk,CJ (by rw[h];simp)];unfold ovl at h;rw[z9]at h;by_cases n:y.At+y.a1=r.At
  ·rw[CK n]
   obtain⟨o,q,t,u,A⟩:=AO i f ⟨y.At,y.a1+r.a1⟩ out c.tail (by simp only;omega) (λw d=>by grind [ovl]) ψ g ψ
   grind [RH]
  rw[CJ n];by_cases B:r.At+r.a1=y.At
  ·rw[CK B]
   obtain⟨o,q,t,u,A⟩:=AO i f ⟨r.At,r.a1+y.a1⟩ out c.tail (by simp only;omega) (λw d=>by grind [ovl]) ψ g ψ
   grind [RH]
  rw[CJ B];by_cases C:y.At > r.At
  ·have L:r.At+r.a1<y.At:=ω
   rw[CK ⟨C,rfl⟩,uU c.tail l ψ];refine⟨_,rfl,⟨?_,λw d=>?_⟩,ψ,λp=>by grind [RH]⟩
   ·rw[CB]
    refine List.pairwise_append.2 ⟨g.1,?_,λa N b j=>?_⟩
    ·show(r::y::f).Pairwise _
     refine List.pairwise_cons.2 ⟨λw d=>?_,c.1⟩
     grind
    grind
   simp only[v5,List.mem_cons,List.not_mem_nil,or_false]at d;rcases d with(d|rfl|rfl)|d
   ·exact g.2 w d
   all_goals grind
  rw[CJ λe=>C e.1];obtain⟨o,q,t,u,A⟩:=AO i f r (out++[y]) c.tail l ψ ψ ⟨List.pairwise_append.2 ⟨g.1,List.pairwise_singleton ..,ψ⟩,λw d=>by
      rcases v5.1 d with d|d
      · exact g.2 w d
      grind⟩ ψ
  grind [RH]
theorem zX{r:aD}(h:bR pages xs=true)(i:0<=r.At/\1<=r.a1/\r.At+r.a1<=pages)(c:∀p,r.At<=p->p<r.At+r.a1->¬RH xs p):∃o,cw pages xs r=some o/\bR pages o=true/\∀p,RH o p↔RH xs p\/(r.At<=p/\p<r.At+r.a1):=by
 obtain⟨j,k,l⟩:=jl.1 h;have b:rangeIn pages r=true:=by grind [rangeIn]
 unfold cw;rw[CK ⟨h,b⟩];obtain⟨o,n,d,f,q⟩:=AO pages xs r [] j i.2.1 (λy a=>by
   have:=k y a;unfold ovl;rw[z9];intro g;by_cases e:r.At<=y.At
   · exact c y.At e g.1 ⟨y,a,ω,ω⟩
   exact c r.At ω ω ⟨y,a,ω,g.2⟩) ψ ⟨List.Pairwise.nil,ψ⟩ ψ
 refine⟨o,n,jl.2 ⟨d,λy a=>⟨(f y a).1,d.2 y a,(f y a).2⟩,l⟩,λp=>?_⟩
 grind [RH]
structure Pg(t:aL)(fr:List aD)(sp:List aC)(la:List aA):Prop where
 one:∀l∈la,∀p:Nat,(p:Int)∈lpgs l l.a0.toNat->∀q:Nat,q<t.M.length->(nth t.M q).o≠0->(nth t.M q).g=(nth t.M p).g->q=p
 bnd:∀p∈pgs sp la,p<t.M.length
 own:∀p:Nat,p<t.M.length->((nth t.M p).o≠0↔(p:Int)∈pgs sp la)
 fre:∀p:Nat,p<t.M.length->((nth t.M p).o≠0↔¬RH fr p)
 mesh:∀s∈sp,∀u∈sp,s.S≠u.S->(nth t.M s.S.toNat).g=(nth t.M u.S.toNat).g->meshable s u=true
structure bo(h:ac)(E:List Int):Prop where
 ker:aN h.G=true
 rng:bR (ge h) h.a=true
 lay:bK h.J h.H=true
 srs:h.J.Pairwise λa b=>a.S<b.S
 srl:h.H.Pairwise λa b=>a.S<b.S
 pg:Pg (tbl h) h.a h.J h.H
 mail:bN h.b=true
 nc:h.Q.length=h.b.T.length
 quar:ir h.r=true
 snc:∀x∈h.r.l,x.a9<=h.a4
 cach:∀c∈h.Q,bL c=true
 nums:cU h=true
 osr:h.K.Pairwise λa b=>a.Addr<b.Addr
 onu:∀o∈h.K,1<=o.Id/\o.Id<=h.j - 1/\0<=o.p/\o.p<=h.Q.length - 1
 oid:(h.K.map (·.Id)).Nodup
 oow:∀o∈h.K,Wo h.J h.H o
 hca:∀c∈h.Q,∀k:Nat,k<c.X.length->∀a∈nth c.X k,kX h.J a k
 hqu:∀x∈h.r.l,kX h.J x.Addr x.Z
 hfl:∀a∈bi h.b,kX h.J a (-1)
 hin:∀a∈E,kX h.J a (-1)
 nd:(E++holders h).Nodup
 mem:∀a,a∈E++holders h↔sv h.J h.H a
 job:h.w=true->md h.a2=true/\(∃s∈h.J,s.S=h.a2.d.a5)/\∃s∈h.J,s.S=h.a2.d.a7
 noj:h.w=false->Ar h.a2=true
variable{E:List Int}
theorem bo.L(a:bo h E):sj h.J h.H:=sj.of a.lay
theorem F8(t:aL)(f:Int):(pagesOn t f).Nodup:=by grind [List.nodup_range,pagesOn,ns]
def Yj{l:List Int}(b:l.Nodup)(d:a∈l)(c:∀x∈l,x=a):l.length=1:=by
 match l with
 | []=>cases d
 | [_]=>rfl
 | x::y::r=>
  exfalso;have e:=c x (by simp);have f:=c y (by simp);rw[e,f]at b;simp at b
theorem fR(a:s∈sp):s.S∈pgs sp la:=by grind [pgs]
theorem iz(a:l∈la)(b:p∈lpgs l l.a0.toNat):p∈pgs sp la:=by grind [pgs]
theorem a0x(b:bK h.J h.H=true)(N:bR (ge h) h.a=true)(A:pages0 h=true)(r:tp h=true):Pg (tbl h) h.a h.J h.H:=by
 have B:=sj.of b;obtain⟨C,D,t⟩:=xX A;have E:∀p:Nat,p<ge h->((nth (tbl h).M p).o≠0↔¬RH h.a p):=λp a=>by grind [gY,MD,pages0,AH]
 refine⟨λl w p c q F e f=>?_,D,t,E,λs G u H J O=>?_⟩
 ·obtain⟨i,y,rfl⟩:=b9 w
  obtain⟨k,g,n⟩:=eM.1 c;have a:p<ge h:=by grind [iz]
  have d:=(t p a).2 (iz w c);have K:=C i y k g;rw[<-n,iD a d]at K;have P:(p:Int)∈pagesOn (tbl h) (nth (tbl h).M p).g:=ik.2 ⟨a,d,rfl⟩;have Q:(q:Int)∈pagesOn (tbl h) (nth (tbl h).M p).g:=ik.2 ⟨F,e,f⟩
  grind [List.length_eq_one_iff]
 obtain⟨i,y,rfl⟩:=b9 G;obtain⟨j,R,rfl⟩:=b9 H;have L:∀k,k<h.J.length->ax (tbl h) (nth h.J k).S=nth (tbl h).M (nth h.J k).S.toNat:=λk g=>by
  have S:=aT (B.sok _ (ay g))
  grind [fR,GQ,nth]
 unfold tp at r;rw[cK]at r;rcases Nat.lt_trichotomy i j with o|M|o
 all_goals grind [gY,qL,pJ]
theorem Hf(sp:List aC):dK sp.length (B9 sp)=true↔sp.Pairwise λa b=>a.S<b.S:=by
 rw[cK];refine Iff.trans ?_ (Be (λa b:Int=>a<b) ω (λs:aC=>s.S) sp)
 grind [B9]
theorem GP(la:List aA):dK la.length (Dv la)=true↔la.Pairwise λa b=>a.S<b.S:=by
 rw[cK];refine Iff.trans ?_ (Be (λa b:Int=>a<b) ω (λs:aA=>s.S) la)
 grind [Dv]
theorem a0s(o:bK h.J h.H=true)(B:bR (ge h) h.a=true)(h1:h.J.Pairwise λa b=>a.S<b.S)(h2:h.H.Pairwise λa b=>a.S<b.S)(c:Pg (tbl h) h.a h.J h.H):pages0 h=true/\tp h=true:=by
 have u:=sj.of o;constructor
 ·unfold pages0
  simp only[I0];refine⟨⟨⟨(Hf _).2 h1,cK.2 λi l=>?_⟩,O7.2 λp n=>O0 (c.bnd p n)⟩,cK.2 λp n=>?_⟩
  ·unfold xW
   rw[I0];refine⟨gY ((GP _).2 h2) l,cK.2 λk w=>?_⟩;have y:=ay l;have C:=bj (u.lok _ y);obtain⟨p,n⟩ : ∃p:Nat,(nth h.H i).S+(k:Nat)=(p:Nat):=⟨((nth h.H i).S+k).toNat,ω⟩
   have q:(p:Int)∈lpgs (nth h.H i) (nth h.H i).a0.toNat:=eM.2 ψ;have d:p<ge h:=by have:=c.bnd _ (iz (sp:=h.J) y q);exact Int.ofNat_lt.1 this
   have r:=(c.own p d).2 (iz y q);unfold DI;rw[C0,n,iD d r];refine Yj (F8 ..) (ik.2 ⟨d,r,rfl⟩) λx D=>?_
   grind [zV,ik,Pg.one]
  unfold AH;rw[I0,C0];refine⟨c.own p n,?_⟩;have E:=c.fre p n
  grind [MD]
 unfold tp;refine cK.2 λi l=>cK.2 λj F=>?_
 have g:j<h.J.length:=ω
 have t:∀k,k<h.J.length->ax (tbl h) (nth h.J k).S=nth (tbl h).M (nth h.J k).S.toNat:=λk w=>by
  have G:=aT (u.sok _ (ay w));have H:=c.bnd _ (fR (la:=h.H) (ay w))
  grind [GQ,ge,tbl]
 unfold pJ;rw[t i l,t j g,OC,C0];by_cases e:(nth (tbl h).M (nth h.J i).S.toNat).g=(nth (tbl h).M (nth h.J j).S.toNat).g
 ·refine .inr (c.mesh _ (ay l) _ (ay g) (λA=>?_) e)
  have:=iO (f:=(·.S)) u.nd l g A;omega
 exact .inl e
theorem Ng(c:cU h=true)(d:sj h.J h.H):iS h=true↔(h.K.Pairwise λa b=>a.Addr<b.Addr)/\(∀o∈h.K,1<=o.Id/\o.Id<=h.j - 1/\0<=o.p/\o.p<=h.Q.length - 1)/\(h.K.map (·.Id)).Nodup/\∀o∈h.K,Wo h.J h.H o:=by
 unfold cU at c;rw[C0]at c;refine Iff.trans ?_ (and_congr (Be (λa b:Int=>a<b) ω (λo:aW=>o.Addr) h.K) (and_congr Iff.rfl (and_congr (Hi (λo:aW=>o.Id) h.K) Iff.rfl)));unfold iS;rw[ij ω ω,cK];have e:∀i,i<h.K.length->(objAt (h.j - 1) h i=true↔(i=0\/(nth h.K (i - 1)).Addr<(nth h.K i).Addr)/\(1<=(nth h.K i).Id/\(nth h.K i).Id<=h.j - 1/\0<=(nth h.K i).p/\(nth h.K i).p<=h.Q.length - 1)/\(∀o∈h.K.take i,o.Id≠(nth h.K i).Id)/\Wo h.J h.H (nth h.K i)):=λi f=>by grind [VW,objAt,jS,jC]
 grind [b9,ay]
def DM(b:sj h.J h.H):lO h=true↔(∀c∈h.Q,∀k:Nat,k<c.X.length->∀a∈nth c.X k,kX h.J a k)/\(∀x∈h.r.l,kX h.J x.Addr x.Z)/\∀a∈bi h.b,kX h.J a (-1):=by
 rw[tV];simp only[O7,gz,cK,yf,jG,nI,UO b,and_assoc]
theorem Rg : 0<=jf h p↔∃s∈h.J,s.S=p:=by grind [jf,cC,qx]
theorem bo.of(g:dQ h=true):bo h []:=by
 unfold dQ pc at g;simp only[I0]at g;obtain⟨⟨⟨⟨⟨⟨⟨⟨⟨⟨r,l⟩,e⟩,j⟩,n⟩,c⟩,t⟩,H⟩,o⟩,k,b⟩,d⟩:=g;have p:=sj.of e;rw[yW e j]at n;have f:=j;unfold pages0 at f;simp only[I0]at f;unfold eP at c;simp only[I0,C0]at c;unfold mf at b;simp only[I0,C0]at b;obtain⟨⟨u,w⟩,J⟩:=b;obtain⟨y,A,B,C⟩:=(Ng o p).1 k;obtain⟨D,E,F⟩:=(DM p).1 u;unfold pu at t;have G:=cK.1 f.1.1.2;refine⟨r,l,e,(Hf _).1 f.1.1.1,(GP _).1 (cK.2 λi K=>?_),a0x e l j n,c.1.1,c.1.2,c.2,ψ,ψ,o,y,A,B,C,D,E,F,ψ,(by simpa using w),λa=>?_,λq=>?_,λq=>?_⟩
 ·grind [xW]
 ·grind [K5,xB,wK]
 ·unfold xe at d
  rw[CK q]at d
  grind [Rg]
 grind [xe]
theorem bo.to(b:bo h []):dQ h=true:=by
 have c:=b.L;obtain⟨e,g⟩:=a0s b.lay b.rng b.srs b.srl b.pg;have d:=(Ng b.nums c).2 ⟨b.osr,b.onu,b.oid,b.oow⟩;have f:=(DM c).2 ⟨b.hca,b.hqu,b.hfl⟩;unfold dQ pc;simp only[I0];refine⟨⟨⟨⟨⟨⟨⟨⟨⟨⟨b.ker,b.rng⟩,b.lay⟩,e⟩,by grind [yW,bo.lay]⟩,?_⟩,?_⟩,O7.2 b.cach⟩,b.nums⟩,d,?_⟩,?_⟩
 ·grind [bo.mail,bo.quar,bo.nc,eP]
 ·grind [bo.snc,pu]
 ·unfold mf
  have i:(holders h).Nodup:=by simpa using b.nd
  have j:∀a,a∈holders h↔a∈np h.J h.H:=λa=>by rw[K5 c,<-b.mem a];simp
  grind [zA,List.Perm.length_eq]
 grind [bo.job,Rg,bo.noj,xe]
def dele(xs:List α)(i:Nat):List α:=xs.take i++xs.drop (i+1)
theorem gC(xs:List α)(i:Nat):(dele xs i).Sublist xs:=by
 unfold dele;rw[<-List.eraseIdx_eq_take_drop_succ];grind
theorem G7[Inhabited α]{xs:List α}(a:i<xs.length):xs.Perm (nth xs i::dele xs i):=by
 have:xs=xs.take i++nth xs i::xs.drop (i+1):=by grind [hB,List.take_append_drop]
 conv=>lhs;rw[this]
 exact List.perm_middle
theorem kV{α:Type}[Inhabited α](f:α->List Int)(a:Int):∀(xs:List α)(i:Nat)(y:α),i<xs.length->((xs.set i y).flatMap f).count a+(f (nth xs i)).count a=(xs.flatMap f).count a+(f y).count a
 | [],i,_,h=>by cases h
 | x::xs,0,y,_=>by
  show((y::xs).flatMap f).count a+(f x).count a=((x::xs).flatMap f).count a+(f y).count a
  grind
 | x::xs,i+1,y,h=>by
  have:=kV f a xs i y (by simpa using h);show((x::xs.set i y).flatMap f).count a+(f (nth xs i)).count a=((x::xs).flatMap f).count a+(f y).count a
  grind
theorem oe(a:List (List Int)):a.flatten=a.flatMap λx=>x:=by simp_all
theorem kX.any{c:Int}(h:kX sp a c):kX sp a (-1):=by
 obtain⟨s,b,d,-⟩:=h;exact⟨s,b,d,.inl qs⟩
def bo.cells(a:bo h E)(c:aN k=true)(b:k.F.R=h.G.F.R):bo {h with G:=k} E:=
 {a with
   ker:=c
   rng:=by show bR ((k.F.R.M.length:Nat):Int) h.a=true;rw[b];exact a.rng
   pg:=by show Pg k.F.R h.a h.J h.H;rw[b];exact a.pg}
theorem bo.dropO(b:bo h E)(e:i<h.K.length)(j:kX h.J (nth h.K i).Addr (-1)):bo {h with K:=dele h.K i} ((nth h.K i).Addr::E):=by
 have f:(E++holders h).Perm (((nth h.K i).Addr::E)++holders {h with K:=dele h.K i}):=by
  have g:=(G7 e).map (·.Addr);refine List.perm_iff_count.2 λa=>?_
  have k:=g.count_eq a
  grind [holders,dB]
 have c:(dele h.K i).Sublist h.K:=gC ..;exact {b with
   osr:=b.osr.sublist c
   onu:=λo d=>b.onu o (c.subset d)
   oid:=b.oid.sublist (c.map _)
   oow:=λo d=>b.oow o (c.subset d)
   hin:=λa l=>by grind [bo.hin]
   nd:=f.nodup_iff.1 b.nd
   mem:=λa=>by grind [bo.mem]}
def oI(c:aB)(k:Nat)(a:Int):aB:=⟨c.X.set k (nth c.X k++[a])⟩
theorem bo.put{t k:Nat}(e:bo h (a::E))(f:t<h.Q.length)(g:k<(nth h.Q t).X.length)(p:kX h.J a k)(q:bL (oI (nth h.Q t) k a)=true):bo {h with Q:=h.Q.set t (oI (nth h.Q t) k a)} E:=by
 have i:(a::E++holders h).Perm (E++holders {h with Q:=h.Q.set t (oI (nth h.Q t) k a)}):=by
  refine List.perm_iff_count.2 λb=>?_
  have r:=kV (λc:aB=>c.X.flatten) b h.Q t (oI (nth h.Q t) k a) f;have l:=kV (λx:List Int=>x) b (nth h.Q t).X k (nth (nth h.Q t).X k++[a]) g;rw[<-oe,<-oe]at l
  grind [oI,holders,dB]
 exact {e with
   nc:=by grind [bo.nc]
   cach:=λc d=>by grind [bo.cach]
   onu:=by show ∀o∈h.K,1<=o.Id/\o.Id<=h.j - 1/\0<=o.p/\o.p<=(h.Q.set t _).length - 1;rw[C3];exact e.onu
   hca:=λc d j u b n=>by
     rcases CD d with d|rfl
     all_goals grind [bo.hca,dd,ay,oI]
   hin:=λb n=>e.hin b ψ
   nd:=i.nodup_iff.1 e.nd
   mem:=λb=>by grind [bo.mem]}
theorem bo.toQuar{x:aK}{q:aY}{out:List aK}(c:bo h (x.Addr::E))(f:ir q=true)(d:h.r.l++[x]=out++q.l)(j:x.a9<=h.a4)(k:kX h.J x.Addr x.Z):bo {h with r:=q} (out.map (·.Addr)++E):=by
 have e:∀y∈out++q.l,y.a9<=h.a4/\kX h.J y.Addr y.Z:=λy a=>by
  rw[<-d]at a;rcases v5.1 a with a|a
  ·exact⟨c.snc y a,c.hqu y a⟩
  grind
 have g:(x.Addr::E++holders h).Perm ((out.map (·.Addr)++E)++holders {h with r:=q}):=by
  refine List.perm_iff_count.2 λb=>?_
  have i:=O1 (λl:List aK=>(l.map (·.Addr)).count b) d;simp only[IB,CC,SB,List.map_nil,List.count_singleton]at i
  grind [holders,dB]
 exact {c with
   quar:=f
   snc:=(ψ)
   hqu:=(ψ)
   hin:=λb n=>by grind [kX.any,bo.hin]
   nd:=g.nodup_iff.1 c.nd
   mem:=λb=>by grind [bo.mem]}
def E8(b i:Int):Int:=((BitVec.ofInt IntKind.i64.bits b &&& ~~~BitVec.ofInt IntKind.i64.bits (2 ^ i.toNat)).toNat:Nat)
def nz(s:aC)(i:Int):aC:={s with a3:=E8 s.a3 i}
theorem lW(b i:Int):br b i=true↔0<=b/\0<=i/\i<=15/\b.toNat.testBit i.toNat=true:=by grind [br]
variable{b:Int}
theorem LQ{i:Int}(d:0<=b/\b<=65535)(a:0<=i/\i<=15)(j:Nat):(E8 b i).toNat.testBit j=(b.toNat.testBit j&&decide (i.toNat≠j)):=by
 have e:(2:Int) ^ i.toNat<=32768/\0<=(2:Int) ^ i.toNat:=by
  obtain⟨n,rfl⟩:=t5 a.1;rw[O4];have:(2:Nat) ^ n<=2 ^ 15:=Nat.pow_le_pow_right qs ω
  grind
 unfold E8;rw[O4,BitVec.testBit_toNat,BitVec.getLsbD_and,BitVec.getLsbD_not,<-BitVec.testBit_toNat,<-BitVec.testBit_toNat,vf ω,vf ω];rw[show((2:Int) ^ i.toNat).toNat=2 ^ i.toNat by rw[show(2:Int) ^ i.toNat=((2 ^ i.toNat:Nat):Int) by norm_cast,O4],Nat.testBit_two_pow];by_cases c:j<64
 ·rw[show decide (j<IntKind.i64.bits)=true from O0 c,Bool.true_and]
  grind
 rw[Nat.testBit_lt_two_pow (x:=b.toNat) (i:=j) (C7 (show b.toNat<2 ^ 16 by omega) (Nat.pow_le_pow_right qs ω))]
 rfl
theorem Jn{i:Int}(a:0<=b/\b<=65535):0<=E8 b i/\E8 b i<=b:=by grind [vf,Nat.and_le_left,E8]
theorem WH{i:Int}(a:0<=b/\b<=65535)(c:0<=i/\i<=15)(j:Int):br (E8 b i) j=true↔br b j=true/\j≠i:=by grind [lW,LQ,Jn]
theorem f8(h:bu s=true):0<=s.a3/\s.a3<=65535:=by
 unfold bu at h;simp only[C0]at h;have:=Qr s.Z;omega
theorem Rn(h:bu s=true)(i:Int):bu (nz s i)=true:=by
 have b:=f8 h;have a:=Jn (i:=i) b;unfold bu at h;rw[C0]at h;obtain⟨c,d,e,f,j,g⟩:=h;exact O0 ⟨c,d,e,f,a.1,Int.le_trans a.2 g⟩
theorem Hy{u:aC}(e:bu s=true){i:Int}(f:0<=i/\i<=15)(h:meshable s u=true):meshable (nz s i) u=true:=by
 unfold meshable at h |-;simp only[I0,C0]at h |-;obtain⟨⟨a,b⟩,c,d,g⟩:=h;refine⟨⟨Rn a i,b⟩,c,d,?_⟩;refine Nat.eq_of_testBit_eq λj=>?_
 grind [LQ,f8,nz]
def fo(s:aC)(a:Int):Int:=(a - 16*s.S) / csz s.Z
theorem yL(h:bu s=true)(b:16*s.S<=a/\a<=16*s.S+15):0<=fo s a/\fo s a<=15:=by
 have c:=aT h
 grind [dx,fo]
theorem N6(h:bu s=true)(c:(a - 16*s.S) % csz s.Z=0)(d:(b - 16*s.S) % csz s.Z=0)(e:fo s a=fo s b):a=b:=by
 have f:=aT h
 grind [dx,fo]
theorem GS(h:bu s=true)(k:hO s a)(b:Int):hO (nz s (fo s a)) b↔hO s b/\b≠a:=by
 obtain⟨l,n,o,p⟩:=k;have c:=yL h ⟨l,n⟩;unfold hO;simp only[nz];rw[WH (f8 h) c];constructor
 ·rintro⟨g,i,d,j,f⟩
  exact⟨ψ,λe=>f (by rw[e];rfl)⟩
 rintro⟨⟨g,i,d,j⟩,f⟩
 exact⟨g,i,d,j,λe=>f (N6 h d o e)⟩
theorem kg[Inhabited α]{xs:List α}{y z:α}(h:z∈xs.set i y):z=y\/∃j,j<xs.length/\j≠i/\nth xs j=z:=by
 obtain⟨j,a,rfl⟩:=List.mem_iff_getElem.1 h;rw[List.getElem_set];by_cases e:i=j
 ·subst e;simp
 rw[CJ e];rw[C3]at a;exact .inr ⟨j,a,λx=>e x.symm,bI ψ⟩
theorem lZ[Inhabited α]{xs:List α}(y:α)(a:j<xs.length)(e:j≠i):nth xs j∈xs.set i y:=by
 have:nth (xs.set i y) j=nth xs j:=by grind [dd]
 grind [ay]
theorem k4{xs:List α}(y:α)(a:i<xs.length):y∈xs.set i y:=by grind [List.mem_iff_getElem]
def VC(k:Int)(a:i<sp.length):(sp.set i (nz (nth sp i) k)).map (·.S)=sp.map (·.S):=by
 rw[IC];refine List.ext_getElem (by simp) λj b c=>?_
 rw[List.getElem_set];split
 ·rename_i e;subst e
  rw[List.getElem_map];show(nth sp i).S=_;rw[bI (z4 a)]
 rfl
def kX.set(q:sj sp la)(k:i<sp.length)(l:hO (nth sp i) a)(b c:Int):kX (sp.set i (nz (nth sp i) (fo (nth sp i) a))) b c↔kX sp b c/\b≠a:=by
 have g:=q.sok _ (ay k);constructor
 ·rintro⟨s,o,d,h⟩
  rcases kg o with rfl|⟨j,n,r,rfl⟩
  ·have:=(GS g l b).1 d
   exact⟨⟨_,ay k,this.1,h⟩,this.2⟩
  refine⟨⟨_,ay n,d,h⟩,λe=>?_⟩;subst e;have:=iO (f:=(·.S)) q.nd k n (by have t:=l.1;have u:=l.2.1;have w:=d.1;have y:=d.2.1;omega);omega
 rintro⟨⟨s,o,d,h⟩,p⟩
 obtain⟨j,n,rfl⟩:=b9 o;by_cases e:j=i
 ·subst e
  exact⟨_,k4 _ k,(GS g l b).2 ⟨d,p⟩,h⟩
 exact⟨_,lZ _ n e,d,h⟩
theorem bo.give(d:bo h (a::E))(t:i<h.J.length)(w:hO (nth h.J i) a):bo {h with J:=h.J.set i (nz (nth h.J i) (fo (nth h.J i) a))} E:=by
 have B:=d.L;have G:=B.sok _ (ay t);have O:=yL G ⟨w.1,w.2.1⟩;have f:=λb c=>kX.set B t w b c
 have H:=VC (fo (nth h.J i) a) t;generalize J:h.J.set i (nz (nth h.J i) (fo (nth h.J i) a))=sp at f H;have p:pgs sp h.H=pgs h.J h.H:=by grind [pgs]
 have g:=d.nd;rw[List.cons_append]at g;obtain⟨P,g⟩:=List.nodup_cons.1 g;have y:∀b,b∈E++holders h->b≠a:=ψ
 have n:∀b,b∈holders h->b≠a:=ψ
 have Q:∀l∈h.H,16*l.S≠a:=λl R e=>(Dm B R).1 _ (ay t) (by have a1:=w.1;have a2:=w.2.1;omega)
 have q:∀s∈sp,∃u∈h.J,u.S=s.S/\(s=u\/s=nz u (fo (nth h.J i) a)):=λs r=>by
  rw[<-J]at r;rcases kg r with rfl|⟨j,hj,S,rfl⟩
  ·exact⟨_,ay t,rfl,.inr rfl⟩
  grind [ay]
 have T:∀u∈h.J,∃s∈sp,s.S=u.S:=λu C=>by
  have:u.S∈sp.map (·.S):=ψ
  grind
 exact {d with
   lay:=by grind [bo.lay,Rn,bK]
   srs:=by
     have A:(h.J.map (·.S)).Pairwise (λa b=>a<b):=List.pairwise_map.2 d.srs
     grind
   pg:=⟨d.pg.one,by rw[p];exact d.pg.bnd,by rw[p];exact d.pg.own,d.pg.fre,λs r u C y U=>by
     obtain⟨V,K,W,X⟩:=q s r;obtain⟨Y,M,Z,hu2⟩:=q u C;have A:=d.pg.mesh V K Y M ω (by rw[W,Z];exact U)
     grind [Hy,sj.sok,qL]⟩
   oow:=λo ho=>by
     have N:o.Addr≠a:=n _ (by grind [holders]);rcases d.oow o ho with⟨s,r,A,h2⟩|A
     · obtain⟨u,C,g1,D⟩:=(f o.Addr (aZ o.q)).2 ⟨⟨s,r,A,.inr h2⟩,N⟩
       refine .inl ⟨u,C,g1,?_⟩;rcases D with D|D
       · have:=aT (B.sok _ r);omega
       exact D
     exact .inr A
   hca:=λc hc k hk b F=>(f b k).2 ⟨d.hca c hc k hk b F,n b (by
     unfold holders dB;grind [List.mem_flatten,ay])⟩
   hqu:=λx hx=>(f _ _).2 ⟨d.hqu x hx,n _ (by grind [holders])⟩
   hfl:=λb F=>(f _ _).2 ⟨d.hfl b F,n _ (by grind [holders])⟩
   hin:=λb F=>(f _ _).2 ⟨d.hin b ψ,y b ψ⟩
   nd:=g
   mem:=λb=>by
     show b∈E++holders h↔sv sp h.H b
     grind [bo.mem,sv]
   job:=λhm=>by grind [bo.job]}
def dX(k:af)(p:Int):Nat->af
 | 0=>k
 | n+1=>cY (dX k p n) (p+n)
def kz{k:af}(h:aN k=true)(p:Int):∀n,aN (dX k p n)=true
 | 0=>h
 | n+1=>Ef _ (kz h p n)
theorem iy(k:af)(p:Int):∀n,(dX k p n).F.R.M.length=k.F.R.M.length/\(dX k p n).Calls=k.Calls/\(dX k p n).k=k.k
 | 0=>⟨rfl,rfl,rfl⟩
 | n+1=>by
  obtain⟨a,b,c⟩:=iy k p n;obtain⟨d,e,f⟩:=wQ (dX k p n) (p+n);exact⟨d.trans a,e.trans b,f.trans c⟩
theorem Ej(h:aN k=true)(g:0<=p/\p<k.F.R.M.length)(q:Nat):nth (cY k p).F.R.M q=if(q:Int)=p then⟨0,0⟩ else nth k.F.R.M q:=by
 have c:ax k.F.R p=nth k.F.R.M p.toNat:=by grind [ax]
 unfold cY;split
 ·rename_i a
  split
  ·rename_i i
   rw[c]at a;have b:=(bF.1 (aM.1 h).2.2.1).1 p.toNat ω;unfold qY at b;rw[C0]at b;have d:=b.2.2.1 a;rw[show q=p.toNat by omega];generalize nth k.F.R.M p.toNat=e at a d;obtain⟨m,f⟩:=e
   grind
  rfl
 grind [uV,dd,pf]
theorem qU{k:af}(h:aN k=true){p:Int}(a:0<=p):∀n:Nat,p+n<=k.F.R.M.length->∀q:Nat,nth (dX k p n).F.R.M q=if p<=q/\(q:Int)<p+n then⟨0,0⟩ else nth k.F.R.M q
 | 0,_,q=>by rw[CJ ω];rfl
 | n+1,b,q=>by
  have c:=qU h a n ω q;have d:=Ej (kz h p n) (p:=p+n) ⟨ω,by grind [iy]⟩ q;show nth (cY (dX k p n) (p+n)).F.R.M q=_
  grind
theorem Nv{β:Type}(f:α->List β){xs b:List α}(h:xs.Sublist b):(xs.flatMap f).Sublist (b.flatMap f):=by
 induction h with
 | slnil=>grind
 | cons a _ c=>grind
 | cons_cons a _ c=>grind
theorem DR(c:bo h E)(Y:1<=n)(w:sp.Sublist h.J)(D:la.Sublist h.H)(j:∀q:Int,p<=q->q<p+n->q∈pgs h.J h.H)(K:0<=p)(F:∀q,q∈pgs sp la↔q∈pgs h.J h.H/\¬(p<=q/\q<p+n)) :
  ∃o,cw (ge h) h.a ⟨p,n⟩ = some o/\aN (dX h.G p n)=true/\bR ((dX h.G p n).F.R.M.length:Nat) o=true/\bK sp la=true/\Pg (dX h.G p n).F.R o sp la:=by
 have t:=c.pg.bnd _ (j (p+n - 1) ω ω);have a:=(iy h.G p n).1;have y:p+n<=h.G.F.R.M.length:=by unfold tbl at t;omega
 have g:=qU c.ker K n y;obtain⟨o,Q,R,S⟩:=zX (r:=⟨p,n⟩) c.rng ⟨K,by simp only;omega,y⟩ λq M N=>by
  simp only at M N;obtain⟨m,rfl⟩:=t5 (show 0<=q by omega);have A:m<(tbl h).M.length:=by unfold tbl;omega
  exact(c.pg.fre m A).1 ((c.pg.own m A).2 (j _ M N))
 refine⟨o,Q,kz c.ker p n,by rw[a];exact R,?_,?_⟩
 ·obtain⟨T,U,V⟩:=gq c.lay
  unfold bK;simp only[I0,C0];exact⟨⟨O7.2 λs d=>O7.1 T s (w.subset d),O7.2 λl d=>O7.1 U l (D.subset d)⟩,V.sublist ((w.map _).append (Nv _ D))⟩
 have i:∀q:Nat,(q:Int)∈pgs sp la->nth (dX h.G p n).F.R.M q=nth (tbl h).M q:=λq f=>by rw[g,CJ ((F q).1 f).2];rfl
 have b:∀q:Nat,(nth (dX h.G p n).F.R.M q).o≠0↔(nth (tbl h).M q).o≠0/\¬(p<=q/\(q:Int)<p+n):=λq=>by
  rw[g];by_cases e:p<=q/\(q:Int)<p+n
  ·rw[CK e];exact⟨λx=>absurd rfl x,λx=>absurd e x.2⟩
  rw[CJ e];exact⟨λx=>⟨x,e⟩,λx=>x.1⟩
 refine⟨λl d q f r O G B=>?_,λq f=>?_,λq f=>?_,λq f=>?_,λs d u H J P=>?_⟩
 ·have C:=(b r).1 G
  rw[a]at O;rw[i q (iz d f),g,CJ C.2]at B;exact c.pg.one l (D.subset d) q f r O C.1 B
 ·rw[a];exact c.pg.bnd q ((F q).1 f).1
 ·rw[a]at f
  rw[b,F,c.pg.own q f]
 ·rw[a]at f
  rw[b,S,c.pg.fre q f];simp only
  grind
 have k:∀s∈sp,0<=s.S:=λs d=>(aT (c.L.sok s (w.subset d))).1
 have W:=i s.S.toNat (by rw[Int.toNat_of_nonneg (k s d)];exact fR d);have X:=i u.S.toNat (by rw[Int.toNat_of_nonneg (k u H)];exact fR H);rw[W,X]at P;exact c.pg.mesh s (w.subset d) u (w.subset H) J P
theorem ig[Inhabited α]{xs:List α}{k:Nat}{z:α} : z∈dele xs k↔∃j,j<xs.length/\j≠k/\nth xs j=z:=by
 unfold dele;rw[v5];constructor
 ·rintro(h|h)
  ·obtain⟨j,a,rfl⟩:=List.mem_take_iff_getElem.1 h
   exact⟨j,ω,ω,bI ψ⟩
  obtain⟨j,a,rfl⟩:=List.mem_drop_iff_getElem.1 h;exact⟨k+1+j,ω,ω,bI ψ⟩
 rintro⟨j,a,b,rfl⟩
 rw[bI (z4 a)];by_cases e:j<k
 ·grind [List.mem_take_iff_getElem]
 refine .inr (List.mem_drop_iff_getElem.2 ⟨j - (k+1),ω,?_⟩)
 congr 1;omega
theorem uJ{q:Int} : q∈pgs sp la↔(∃s∈sp,s.S=q)\/∃l∈la,q∈lpgs l l.a0.toNat:=by grind [pgs]
theorem JD(h:s.a3=0)(a:Int):¬hO s a:=by
 rintro⟨-,-,-,b⟩
 rw[lW,h]at b;simp at b
theorem bo.giveSpan(d:bo h E)(C:i<h.J.length)(r:(nth h.J i).a3=0)(R:h.w=true->(nth h.J i).S≠h.a2.d.a5/\(nth h.J i).S≠h.a2.d.a7) :
  ∃o,cw (ge h) h.a ⟨(nth h.J i).S,1⟩ = some o/\bo {h with G:=cY h.G (nth h.J i).S,J:=dele h.J i,a:=o} E:=by
 have D:=d.L;have y:=aT (D.sok _ (ay C));have w:∀q,q∈pgs (dele h.J i) h.H↔q∈pgs h.J h.H/\¬((nth h.J i).S<=q/\q<(nth h.J i).S+(1:Nat)):=λq=>by
  rw[uJ,uJ];constructor
  ·rintro(⟨s,u,rfl⟩|⟨l,S,T⟩)
   ·obtain⟨j,a,A,rfl⟩:=ig.1 u
    refine⟨.inl ⟨_,ay a,rfl⟩,λe=>A (iO (f:=(·.S)) D.nd a C ω)⟩
   grind [eM,sj.dis,ay]
  grind [b9,ig]
 obtain⟨o,J,F,G,K,H⟩:=DR d (sp:=dele h.J i) (la:=h.H) (p:=(nth h.J i).S) (n:=1) (z5 _) (gC ..) ψ (λq U V=>by grind [fR,nth]) y.1 w;have M:dX h.G (nth h.J i).S 1=cY h.G (nth h.J i).S:=by show cY h.G ((nth h.J i).S+((0:Nat):Int))=_;grind
 rw[M]at F G H;have g:∀b c,kX (dele h.J i) b c↔kX h.J b c:=λb c=>by
  constructor
  ·rintro⟨s,u,t⟩;exact⟨s,(gC ..).subset u,t⟩
  rintro⟨s,u,t,B⟩
  obtain⟨j,a,rfl⟩:=b9 u;exact⟨_,ig.2 ⟨j,a,λe=>JD r b ψ,rfl⟩,t,B⟩
 refine⟨o,J,{d with
   ker:=F
   rng:=G
   lay:=K
   srs:=d.srs.sublist (gC ..)
   pg:=H
   oow:=λN O=>?_
   hca:=λc y k P b r=>(g b k).2 (d.hca c y k P b r)
   hqu:=λx Q=>(g _ _).2 (d.hqu x Q)
   hfl:=λb r=>(g _ _).2 (d.hfl b r)
   hin:=λb r=>(g _ _).2 (d.hin b r)
   mem:=λb=>(d.mem b).trans ?_
   job:=λW=>?_}⟩
 ·rcases d.oow N O with⟨s,u,t,B⟩|t
  ·obtain⟨j,a,rfl⟩:=b9 u
   exact .inl ⟨_,ig.2 ⟨j,a,λe=>JD r _ (by rw[<-e];exact t),rfl⟩,t,B⟩
  exact .inr t
 all_goals grind [bo.job,b9,ig,sv]
theorem bo.dropL{k:Nat}(d:bo h E)(N:i<h.K.length)(w:k<h.H.length)(F:(nth h.K i).Addr=16*(nth h.H k).S) :
  ∃o,cw (ge h) h.a ⟨(nth h.H k).S,(nth h.H k).a0⟩ = some o/\bo {h with G:=dX h.G (nth h.H k).S (nth h.H k).a0.toNat,H:=dele h.H k,a:=o,K:=dele h.K i} E:=by
 have y:=d.L;have O:=bj (y.lok _ (ay w));have A:∀q,q∈pgs h.J (dele h.H k)↔q∈pgs h.J h.H/\¬((nth h.H k).S<=q/\q<(nth h.H k).S+((nth h.H k).a0.toNat:Nat)):=λq=>by
  rw[uJ,uJ];constructor
  ·rintro(⟨s,C,rfl⟩|⟨l,f,H⟩)
   ·refine⟨.inl ⟨s,C,rfl⟩,λe=>y.dis s C _ (ay w) (s.S - (nth h.H k).S).toNat ω ω⟩
   obtain⟨j,c,g,rfl⟩:=ig.1 f;refine⟨.inr ⟨_,ay c,H⟩,λe=>?_⟩;obtain⟨m,P,rfl⟩:=eM.1 H;exact g (y.one j k c w m ((nth h.H j).S+(m:Int) - (nth h.H k).S).toNat P ω ω)
  grind [b9,ig,eM]
 obtain⟨o,J,Q,R,S,T⟩:=DR d (sp:=h.J) (la:=dele h.H k) (p:=(nth h.H k).S) (n:=(nth h.H k).a0.toNat) ω ψ (gC ..) (λq Z q2=>iz (ay w) (eM.2 ⟨(q - (nth h.H k).S).toNat,ω,ω⟩)) O.2.2.1 A;rw[Int.toNat_of_nonneg ω]at J;have U:(E++holders h).Perm ((nth h.K i).Addr::(E++holders {h with K:=dele h.K i})):=by
  have V:=(G7 N).map (·.Addr);refine List.perm_iff_count.2 λa=>?_
  have r:=V.count_eq a
  grind [holders,dB]
 have t:=U.nodup_iff.1 d.nd;obtain⟨W,t⟩:=List.nodup_cons.1 t;have u:∀b,(b=(nth h.K i).Addr\/b∈E++holders {h with K:=dele h.K i})↔sv h.J h.H b:=λb=>by grind [bo.mem]
 have B:∀b,b∈E++holders {h with K:=dele h.K i}->b≠(nth h.K i).Addr:=ψ
 refine⟨o,J,{d with
   ker:=Q
   rng:=R
   lay:=S
   srl:=d.srl.sublist (gC ..)
   pg:=T
   osr:=d.osr.sublist (gC ..)
   onu:=λD G=>d.onu D ((gC ..).subset G)
   oid:=d.oid.sublist ((gC ..).map _)
   oow:=λD G=>?_
   nd:=t
   mem:=λb=>?_}⟩
 ·rcases d.oow D ((gC ..).subset G) with r|⟨l,f,K,X⟩
  ·exact .inl r
  obtain⟨j,c,rfl⟩:=b9 f;refine .inr ⟨_,ig.2 ⟨j,c,λe=>?_,rfl⟩,K,X⟩;subst e;refine B D.Addr (v5.2 (.inr ?_)) (by rw[F];exact K);unfold holders;grind
 constructor
 ·intro M
  rcases(u b).1 (.inr M) with r|⟨l,f,rfl⟩
  ·exact .inl r
  obtain⟨j,c,rfl⟩:=b9 f;exact .inr ⟨_,ig.2 ⟨j,c,λe=>B _ M (by rw[F,e]),rfl⟩,rfl⟩
 rintro(r|⟨l,f,rfl⟩)
 ·refine((u b).2 (.inl r)).resolve_left λe=>?_
  obtain⟨s,C,⟨Y,g2,-⟩,-⟩:=r;exact(Dm y (ay w)).1 s C ω
 obtain⟨j,c,g,rfl⟩:=ig.1 f;refine((u _).2 (.inr ⟨_,ay c,rfl⟩)).resolve_left λe=>g ?_
 have Y:=bj (y.lok _ (ay c));rw[F]at e;exact y.one j k c w 0 0 ω ω ω
def iw(h:ac)(p:Int):Bool:=h.w&&(decide (p=h.a2.d.a5) || decide (p=h.a2.d.a7))
def giveP(h:ac)(i:Nat):ac:={h with G:=cY h.G (nth h.J i).S,J:=dele h.J i,a:=(cw (ge h) h.a ⟨(nth h.J i).S,1⟩).getD h.a}
def clrS(h:ac)(i:Nat)(a:Int):ac:={h with J:=h.J.set i (nz (nth h.J i) (fo (nth h.J i) a))}
def freeS(h:ac)(i:Nat)(a:Int):ac:=if(nz (nth h.J i) (fo (nth h.J i) a)).a3=0/\iw h (nth h.J i).S=false then giveP (clrS h i a) i else clrS h i a
def A2(h:ac)(a:Int):Nat:=(jf h (a / 16)).toNat
def freeA(h:ac)(a:Int):ac:=freeS h (A2 h a) a
def cput(c:aB)(k a:Int):Option aB:=if bL c=true/\0<=k/\k<=3/\bL (oI c k.toNat a)=true then some (oI c k.toNat a) else none
def recyc(t:Nat)(h:ac)(a:Int):ac:=match cput (nth h.Q t) (nth h.J (A2 h a)).Z a with
 | some c=>{h with Q:=h.Q.set t c}
 | none=>freeA h a
theorem bo.at(e:bo h E)(c:kX h.J a (-1)):A2 h a<h.J.length/\hO (nth h.J (A2 h a)) a/\jf h (a / 16)=(A2 h a:Nat):=by
 obtain⟨s,d,b,-⟩:=c;obtain⟨i,f,rfl⟩:=b9 d;have g:(nth h.J i).S=a / 16:=by have j:=b.1;have k:=b.2.1;omega
 grind [yG,bo.L,A2]
theorem UX(e:iw h p=false)(a:h.w=true):p≠h.a2.d.a5/\p≠h.a2.d.a7:=by grind [iw]
def bo.freeS{h:ac}{E:List Int}{a:Int}{i:Nat}(f:bo h (a::E))(b:i<h.J.length)(g:hO (nth h.J i) a):bo (freeS h i a) E:=by
 have c:=f.give b g;unfold Ab.freeS;split
 ·rename_i e
  have d:nth (clrS h i a).J i=nz (nth h.J i) (fo (nth h.J i) a):=by unfold clrS;simp only[dd,true_and];rw[CK b]
  obtain⟨o,j,k⟩:=bo.giveSpan (h:=clrS h i a) c (i:=i) (by unfold clrS;simp only[C3];exact b) (by rw[d];exact e.1) (λl=>by rw[d];exact UX e.2 l);unfold giveP;rw[j];exact k
 exact c
theorem bo.freeA{h:ac}{E:List Int}{a:Int}(b:bo h (a::E)):bo (freeA h a) E:=by
 obtain⟨c,d,-⟩:=b.at (b.hin a ψ);exact b.freeS c d
theorem tj(h:bL c=true):c.X.length=4:=by grind [bL]
theorem bo.recyc{h:ac}{E:List Int}{a:Int}{t:Nat}(b:bo h (a::E))(f:t<h.Q.length):bo (recyc t h a) E:=by
 obtain⟨g,i,-⟩:=b.at (b.hin a ψ);unfold Ab.recyc;split
 ·rename_i c d
  unfold cput at d;split at d
  ·rename_i e
   cases d;obtain⟨j,l,n,k⟩:=e;exact b.put f (by rw[tj j];omega) ⟨_,ay g,i,.inr ω⟩ k
  cases d
 exact b.freeA
def DP(h:ac)(i:Nat)(a:Int):(freeS h i a).Q=h.Q/\(freeS h i a).K=h.K/\(freeS h i a).G.Calls=h.G.Calls/\(freeS h i a).b=h.b/\(freeS h i a).a2=h.a2/\(freeS h i a).a4=h.a4/\(freeS h i a).r=h.r/\(freeS h i a).G.k=h.G.k:=by
 unfold freeS;split
 ·obtain⟨-,b,c⟩:=wQ (clrS h i a).G (nth (clrS h i a).J i).S
  exact⟨rfl,rfl,b,rfl,rfl,rfl,rfl,c⟩
 exact⟨rfl,rfl,rfl,rfl,rfl,rfl,rfl,rfl⟩
theorem wP(t:Nat)(h:ac)(a:Int):(recyc t h a).Q.length=h.Q.length/\(recyc t h a).K=h.K/\(recyc t h a).G.Calls=h.G.Calls/\(recyc t h a).b=h.b/\(recyc t h a).a2=h.a2/\(recyc t h a).a4=h.a4/\(recyc t h a).r=h.r/\(recyc t h a).G.k=h.G.k:=by
 unfold recyc;split
 ·grind
 obtain⟨b,c⟩:=DP h (A2 h a) a;exact⟨O1 _ b,c⟩
def recycs(t:Nat)(h:ac)(az:List Int):ac:=az.foldl (recyc t) h
theorem gJ(t:Nat):∀(az:List Int)(h:ac),(recycs t h az).Q.length=h.Q.length/\(recycs t h az).K=h.K/\(recycs t h az).G.Calls=h.G.Calls/\(recycs t h az).b=h.b/\(recycs t h az).a2=h.a2/\(recycs t h az).a4=h.a4/\(recycs t h az).r=h.r/\(recycs t h az).G.k=h.G.k
 | [],h=>⟨rfl,rfl,rfl,rfl,rfl,rfl,rfl,rfl⟩
 | a::az,h=>by
  obtain⟨b,c,d,e,f,g,i,j⟩:=gJ t az (recyc t h a);obtain⟨k,l,n,o,p,q,r,u⟩:=wP t h a;exact⟨b.trans k,c.trans l,d.trans n,e.trans o,f.trans p,g.trans q,i.trans r,j.trans u⟩
theorem bo.recycs{t:Nat}{E:List Int} : ∀{az:List Int}{h:ac},bo h (az++E)->t<h.Q.length->bo (recycs t h az) E
 | [],h,b,_=>b
 | a::az,h,b,c=>bo.recycs (az:=az) (h:=Ab.recyc t h a) (b.recyc c) (by grind [wP])
def qc(l:List aK):Int:=quarCells l l.length
def kw(room:Int):List aK->Nat
 | []=>0
 | x::xs=>if room<qc (x::xs) then kw room xs+1 else 0
def Uj(q:aY)(x:aK):aY:=⟨q.b2,(q.l++[x]).drop (kw q.b2 (q.l++[x]))⟩
def y6(q:aY)(x:aK):List aK:=(q.l++[x]).take (kw q.b2 (q.l++[x]))
def Dt(room:Int):∀l,kw room l<=l.length
 | []=>z5 _
 | x::xs=>by unfold kw;split;(have:=Dt room xs;simp only[List.length_cons];omega);omega
theorem Bg{room:Int}(a:0<=room):∀l:List aK,qc (l.drop (kw room l))<=room
 | []=>a
 | x::xs=>by
  unfold kw;split
  ·exact Bg a xs
  grind
theorem yC{room:Int} : ∀{l:List aK}{k:Nat},k<kw room l->room<qc (l.drop k)
 | [],k,h=>by cases h
 | x::xs,0,h=>by grind [kw]
 | x::xs,k+1,h=>by
  unfold kw at h;split at h
  ·exact yC (l:=xs) ω
  omega
theorem jO{q:aY} : ir q=true↔(∀x∈q.l,0<=x.Z/\x.Z<=3/\0<=x.Addr/\0<=x.a9)/\(q.l.Pairwise λa b=>a.a9<=b.a9)/\(q.l.map (·.Addr)).Nodup/\0<=q.b2/\q.b2<=500/\qc q.l<=q.b2:=by
 refine Iff.trans ?_ (and_congr Iff.rfl (and_congr (Be (λa b:Int=>a<=b) ω (λs:aK=>s.a9) q.l) (and_congr (Hi (λs:aK=>s.Addr) q.l) Iff.rfl)));unfold ir qc
 grind [cK,List.any_eq_false,b9,ay,nv,fY]
theorem XX{q:aY}{x:aK}(h:ir q=true)(e:0<=x.Z/\x.Z<=3/\0<=x.Addr/\0<=x.a9)(f:∀y∈q.l,y.a9<=x.a9)(g:∀y∈q.l,y.Addr≠x.Addr):ir (Uj q x)=true:=by
 obtain⟨i,j,k,c,d,l⟩:=jO.1 h;have a:(Uj q x).l.Sublist (q.l++[x]):=List.drop_sublist ..;refine jO.2 ⟨λy b=>?_,List.Pairwise.sublist a ?_,List.Nodup.sublist (a.map _) ?_,c,d,Bg c _⟩
 ·rcases v5.1 (a.subset b) with b|b
  all_goals grind
 ·grind
 grind
def kh(r:List Int)(o:Nat):Nat->List Int
 | 0=>r
 | n+1=>(kh r o n).set (o+n) 0
def gc(k:af)(a:Int):Nat:=(ax k.F.R (a / 16)).g.toNat
def fG(k:af)(a:Int)(n:Nat):af:={k with F:=⟨⟨k.F.V.U.set (gc k a) (kh (nth k.F.V.U (gc k a)) (a % 16).toNat n),k.F.V.y⟩,k.F.R⟩}
theorem q9(r:List Int)(o:Nat):∀n,(kh r o n).length=r.length
 | 0=>rfl
 | n+1=>by unfold kh;rw[C3,q9 r o n]
def Hk{r:List Int}{o:Nat} : ∀{n:Nat}{v:Int},v∈kh r o n->v∈r\/v=0
 | 0,v,h=>.inl h
 | n+1,v,h=>by
  rcases CD h with h|h
  ·exact Hk h
  exact .inr h
theorem LG(h:aN k=true)(a:Int)(n:Nat):aN (fG k a n)=true:=by
 obtain⟨g,i,l,o,p⟩:=aM.1 h;obtain⟨q,r,t,c⟩:=bk.1 i;refine aM.2 ⟨g,bk.2 ⟨?_,?_,?_,λj b=>?_⟩,l,o,p⟩
 ·grind [fG]
 ·grind [fG]
 ·grind [fG]
 simp only[fG,C3]at b |-;simp only[dd];split
 ·rename_i e
  have d:=c j b;unfold jH at d |-;simp only[I0,C0,O7]at d |-;rw[e.1]at *;refine⟨by grind [q9],λv f=>?_⟩;rcases Hk f with f|rfl
  all_goals grind [kY]
 exact c j b
def xf(h:ac)(a:Int):Nat:=(h.H.findIdx? λl=>decide (l.S*16=a)).getD 0
def freeL(h:ac)(i k:Nat):ac:={h with G:=dX h.G (nth h.H k).S (nth h.H k).a0.toNat,H:=dele h.H k,a:=(cw (ge h) h.a ⟨(nth h.H k).S,(nth h.H k).a0⟩).getD h.a,K:=dele h.K i}
def kN(h:ac)(o:aW):aK:=⟨o.Addr,aZ o.q,h.a4⟩
def inQuar(h:ac)(i:Nat):ac:={h with G:=fG h.G (nth h.K i).Addr (csz (aZ (nth h.K i).q)).toNat,K:=dele h.K i,r:=Uj h.r (kN h (nth h.K i))}
def Q2(h:ac)(t i:Nat):ac:=recycs t (inQuar h i) ((y6 h.r (kN h (nth h.K i))).map (·.Addr))
def freeOb(h:ac)(t i:Nat):ac × Int:=
 if aZ (nth h.K i).q<0 then(freeL h i (xf h (nth h.K i).Addr),0)
 else if(ax (tbl h) ((nth h.K i).Addr / 16)).o=1 then(h,5)
 else(Q2 h t i,0)
theorem yn(n:l∈h.H)(e:a=16*l.S):xf h a<h.H.length/\a=16*(nth h.H (xf h a)).S/\(∀j,j<xf h a->(nth h.H j).S*16≠a)/\h.H.findIdx? (λl=>decide (l.S*16=a))=some (xf h a):=by
 cases c:h.H.findIdx? λl=>decide (l.S*16=a) with
 | none=>
  grind
 | some k=>
  obtain⟨b,d,f⟩:=IE.1 c;have g:xf h a=k:=by grind [xf]
  rw[g];rw[<-bI (z4 b),C0]at d;refine⟨b,ω,λj i=>?_,rfl⟩;have:=f j i;rw[<-bI (z4 (show j<h.H.length by omega))]at this;simpa using this
theorem fA(a:bo h E)(f:o∈h.K):(aZ o.q<0->LgO h.H o.Addr o.q)/\(¬aZ o.q<0->(∃s∈h.J,hO s o.Addr/\s.Z=aZ o.q)/\aZ o.q<=3):=by
 rcases a.oow o f with⟨s,g,b,c⟩|⟨l,d,b,c⟩
 ·have i:=aT (a.L.sok s g)
  grind
 have j:=cQ (a.L.lok l d);refine⟨λ_=>⟨l,d,b,c⟩,λe=>absurd ?_ e⟩
 grind [aZ]
theorem bo.inQuar{h:ac}{i:Nat}(a:bo h [])(g:i<h.K.length)(r:¬aZ (nth h.K i).q<0):bo (inQuar h i) ((y6 h.r (kN h (nth h.K i))).map (·.Addr)):=by
 obtain⟨⟨s,j,l,t⟩,u⟩:=(fA a (ay g)).2 r;have b:kX h.J (nth h.K i).Addr (aZ (nth h.K i).q):=⟨s,j,l,.inr t⟩
 have c:=a.nums;unfold cU at c;rw[C0]at c;have w:=aT (a.L.sok s j);have n:=a.dropO g b.any;have A:=n.cells (k:=fG h.G (nth h.K i).Addr (csz (aZ (nth h.K i).q)).toNat) (LG a.ker _ _) rfl;have d:∀y∈h.r.l,y.Addr≠(nth h.K i).Addr:=λy o e=>by
  have f:=n.nd;rw[List.cons_append,List.nil_append]at f
  grind [holders]
 have p:=bo.toQuar (x:=kN h (nth h.K i)) (q:=Uj h.r (kN h (nth h.K i))) (out:=y6 h.r (kN h (nth h.K i))) A (XX a.quar ⟨by show 0<=aZ _;omega,u,by show 0<=(nth h.K i).Addr;have:=l.1;omega,c.2.2.1⟩ (λy o=>a.snc y o) d) (by grind [List.take_append_drop,y6,Uj]) (O9 _) b;rw[List.append_nil]at p;exact p
theorem bo.freeOb{h:ac}{t i:Nat}(a:bo h [])(c:i<h.K.length)(e:t<h.Q.length):bo (freeOb h t i).1 []:=by
 unfold Ab.freeOb;split
 ·rename_i b
  obtain⟨l,f,d,-⟩:=(fA a (ay c)).1 b;obtain⟨g,j,-⟩:=yn f d
  grind [bo.dropL,freeL]
 rename_i b;split
 ·exact a
 have d:=a.inQuar c b;refine bo.recycs (E:=[]) ?_ e
 grind
theorem Rs:∀{H L:List Int},H.Nodup->(∀x∈H,x∈L)->H.length<=L.length
 | [],L,_,_=>I1 _
 | y::H,L,b,c=>by
  have d:y∈L:=ψ
  have a:=List.nodup_cons.1 b;have:=Rs (L:=L.erase y) a.2 ψ
  grind
theorem E7{H:List Int}(a:H.Nodup)(b:∀x∈H,0<=x/\x<n):H.length<=n:=by
 have:=Rs (L:=(List.range n).map λ(i:Nat)=>(i:Int)) a λx c=>O8.2 ⟨x.toNat,List.mem_range.2 ψ,ψ⟩
 simpa using this
theorem iE{f:α->Int}{xs:List α}(h:xs.Pairwise λa b=>f a<f b):(xs.map f).Nodup:=ψ
theorem Vf:∀(b:List (List Int))(k:Nat)(s:List Int),(jy k s b).isSome=true->∀l∈b,l.length<=8
 | [],_,_,_,l,a=>by cases a
 | x::b,k,s,h,l,a=>by
  simp only[jy]at h;cases e:gU k s x with
  | none=>grind
  | some c=>
   rw[e]at h;rcases List.mem_cons.1 a with rfl|a
   ·grind [gU]
   exact Vf b (k+1) c h l a
theorem f9(h:bL c=true):c.X.length=4/\∀l∈c.X,l.length<=8:=by grind [Vf,bL]
structure nB(h:ac):Prop where
 cells:h.G.F.V.U.length<=32
 row:∀r∈h.G.F.V.U,r.length=16
 used:h.G.F.V.y.length<=32
 ents:h.G.F.R.M.length<=32
 ref:h.G.k.length<=40
 free:h.a.length<=32
 spans:h.J.length<=32
 larges:h.H.length<=32
 objs:h.K.length<=512
 caches:h.Q.length<=4
 lists:∀c∈h.Q,c.X.length=4/\∀l∈c.X,l.length<=8
 quar:h.r.l.length<=512
def kX.bd(b:bo h E){c:Int}(d:kX h.J a c):0<=a/\a<512:=by
 obtain⟨s,e,⟨f,g,-⟩,-⟩:=d;have i:=aT (b.L.sok s e);omega
theorem bo.lens(a:bo h E):nB h:=by
 obtain⟨G,k,p,J,K,M,q⟩:=aM.1 a.ker;obtain⟨N,t,O,P⟩:=bk.1 k;obtain⟨Q,R,u⟩:=bF.1 p;obtain⟨w,S,T⟩:=jl.1 a.rng;obtain⟨U,V,A,W⟩:=jO.1 a.quar;have g:=a.mail;unfold bN at g;simp only[I0,C0]at g;have B:=a.nc;refine⟨t,λr i=>?_,ω,u,q,?_,?_,?_,?_,ω,λc C=>f9 (a.cach c C),?_⟩
 ·obtain⟨j,X,rfl⟩:=b9 i
  grind [jH]
 ·have:=E7 (H:=h.a.map (·.At)) (n:=32) (iE (w.1.imp_of_mem ψ)) λx b=>by
   obtain⟨r,i,rfl⟩:=O8.1 b
   grind
  simpa using this
 ·have:=E7 (H:=h.J.map (·.S)) (n:=32) a.L.nd λx b=>by
   obtain⟨s,d,rfl⟩:=O8.1 b;have:=aT (a.L.sok s d);omega
  simpa using this
 ·have:=E7 (H:=h.H.map (·.S)) (n:=32) (iE a.srl) λx b=>by
   obtain⟨l,f,rfl⟩:=O8.1 b;have:=bj (a.L.lok l f);omega
  simpa using this
 ·have:=E7 (H:=h.K.map (·.Addr)) (n:=512) (iE a.osr) λx b=>by
   obtain⟨o,D,rfl⟩:=O8.1 b;rcases a.oow o D with⟨s,d,⟨Y,Z,-⟩,-⟩|⟨l,f,e,-⟩
   ·have:=aT (a.L.sok s d);omega
   have:=bj (a.L.lok l f);omega
  simpa using this
 have:=E7 (H:=h.r.l.map (·.Addr)) (n:=512) A λx b=>by
  obtain⟨y,F,rfl⟩:=O8.1 b;exact(a.hqu y F).bd a
 simpa using this
theorem nB.sml(a:nB h)(b:aN h.G=true)(d:aJ.sml h.b)(e:bz.sml h.a2):ac.sml h:=
 ⟨bq b,⟨by grind [nB.free],λ_ _=>tV1⟩,⟨by grind [nB.spans],λ_ _=>tV1⟩,⟨by grind [nB.larges],λ_ _=>tV1⟩,⟨by grind [nB.objs],λ_ _=>tV1⟩,⟨by grind [nB.caches],λc f=>⟨by grind [nB.lists],λl g=>by have:=(a.lists c f).2 l g;show l.length<=1048576;omega⟩⟩,d,⟨by grind [nB.quar],λ_ _=>tV1⟩,e⟩
theorem a1a:∀(x:List aD),cr x=2*x.length
 | []=>rfl
 | x::xs=>by simp only[cr,a1a xs,List.length_cons,aD.cnt];omega
theorem a0z:∀(x:List aC),cN x=3*x.length
 | []=>rfl
 | x::xs=>by simp only[cN,a0z xs,List.length_cons,aC.cnt];omega
theorem a0m:∀(x:List aA),cy x=3*x.length
 | []=>rfl
 | x::xs=>by simp only[cy,a0m xs,List.length_cons,aA.cnt];omega
theorem ZZ:∀(x:List aW),eK x=4*x.length
 | []=>rfl
 | x::xs=>by simp only[eK,ZZ xs,List.length_cons,aW.cnt];omega
theorem a0o:∀(x:List aK),ed x=3*x.length
 | []=>rfl
 | x::xs=>by simp only[ed,a0o xs,List.length_cons,aK.cnt];omega
theorem a0p:∀(x:List aS),dZ x=2*x.length
 | []=>rfl
 | x::xs=>by simp only[dZ,a0p xs,List.length_cons,aS.cnt];omega
theorem XD{m:Nat} : ∀(x:List (List Int)),(∀y∈x,y.length<=m)->eN x<=m*x.length
 | [],_=>I1 _
 | x::xs,h=>by
  have b:=XD xs λy a=>h y (IA _ a)
  grind [Nat.mul_add,eN,eB]
theorem ZP:∀(x:List aB),(∀c∈x,c.X.length=4/\∀l∈c.X,l.length<=8)->cH x<=32*x.length
 | [],_=>I1 _
 | c::xs,h=>by
  have b:=ZP xs ψ;obtain⟨d,a⟩:=h c ψ;have e:=XD c.X a
  grind [cH,aB.cnt]
theorem nB.cnt(a:nB h):ac.cnt h<=6000+aJ.cnt h.b+bz.cnt h.a2:=by
 have b:=XD (m:=16) h.G.F.V.U λr c=>by grind [nB.row]
 have d:=ZP h.Q a.lists;obtain⟨e,f,g,i,j,k,l,n,o,l10,l11,l12⟩:=a;unfold ac.cnt af.cnt aH.cnt aO.cnt aL.cnt aY.cnt i6 eB
 grind [a1a,a0z,a0m,ZZ,a0o,a0p]
def ka(a:Int)(o:aW):Bool:=decide (o.Addr=a)
def lf(h:ac)(a:Int):Nat:=(cC (ka a) h.K).toNat
theorem bo.objAt(g:bo h E)(k:o∈h.K):lf h o.Addr<h.K.length/\nth h.K (lf h o.Addr)=o/\cC (ka o.Addr) h.K=(lf h o.Addr:Nat):=by
 obtain⟨i,c,rfl⟩:=b9 k;have l:cC (ka (nth h.K i).Addr) h.K=(i:Nat):=eA (au c) (by unfold ka;simp) λj z n d=>by
  have a:=bI d;have b:=(C4.1 d).1;subst a;unfold ka;refine C1 λe=>?_
  have:=iO (f:=(·.Addr)) (iE g.osr) b c e;omega
 grind [lf]
theorem ve(k:af)(p:Int)(n:Nat):(dX k p n).Calls=k.Calls/\(dX k p n).k=k.k:=(iy k p n).2
def UZ(y:aD)(a:List aD):dR [] (y::a)=dR [y] a:=by rw[dR];rfl
theorem LN[Inhabited α]{xs:List α}(h:xs≠[]):xs.getLast? = some (nth xs (xs.length - 1)):=by grind [List.length_pos_iff,au]
theorem WO{xs:List α}(h:xs≠[])(v:α):xs.dropLast++[v]=xs.set (xs.length - 1) v:=by
 have a:0<xs.length:=ψ
 refine List.ext_getElem kd λi b c=>?_
 grind
theorem WI{a:List aD}(h:out≠[])(e:(nth out (out.length - 1)).At+(nth out (out.length - 1)).a1=y.At):dR out (y::a)=dR (out.set (out.length - 1) ⟨(nth out (out.length - 1)).At,(nth out (out.length - 1)).a1+y.a1⟩) a:=by grind [LN,WO,dR]
theorem X2{a:List aD}(h:out≠[])(e:¬(nth out (out.length - 1)).At+(nth out (out.length - 1)).a1=y.At):dR out (y::a)=dR (out++[y]) a:=by grind [LN,dR]
theorem xi(xs:List aD)(w:xs.length<=4194304)(n:∀y∈xs,0<=y.At/\1<=y.a1/\y.At+y.a1<=1048576):zzA 425 false [.val none (bm .O xs)] .one (bm .own (dR [] xs)):=by
 refine fO 63 [(6,21,[15,16,17,18,19,20,21,22,23,24,25,26,27,28,29,30,31,32,33,34,35]),(7,15,[38,39,40,41,42,43,44,45,46,47,48,49,50,51,52])] Tryz.func425 rfl ?_ (.inr (ji _))
 refine σP ?_
 refine pe (ι:=Nat × List aD) (λq=>[(0,b8 (bm .O xs)),(3,b8 (bm .own q.2)),(4,fN (q.1))]) (λq=>q.1<=xs.length/\dR q.2 (xs.drop q.1)=dR [] xs/\q.2.length<=q.1/\∀y∈q.2,0<=y.At/\1<=y.a1/\y.At+y.a1<=1048576) (λq=>xs.length - q.1) ((0,[])) ψ λq o=>?_
 obtain⟨i,out⟩:=q;obtain⟨p,a,g,b⟩:=o;simp only at p a g b |-;by_cases h:i<xs.length
 ·have j:=au h
  have B:=n _ (ay h);rw[hB h]at a;by_cases k:out=[]
  ·subst k
   rw[UZ]at a;have D:([]:List aD).length=0:=rfl
   repeat'(first|refine gE ?_|refine Cc (show List.length _=0 from rfl) ?_|refine Cf (λr t=>by cases t) rfl (by simp) qs rfl ?_)
   ((conv=>whnf)
    refine CQ (i+1,[nth xs i]) ψ (by simp only;omega) ?_
    (exact wR))
  have l:0<out.length:=ψ
  have d:out[((out.length:Int) - 1).toNat]? = some (nth out (out.length - 1)):=by
   rw[show((out.length:Int) - 1).toNat=out.length - 1 by omega];grind [au]
  have u:=b _ (ay (xs:=out) (i:=out.length - 1) ω);by_cases e:(nth out (out.length - 1)).At+(nth out (out.length - 1)).a1=(nth xs i).At
  ·rw[WI k e]at a
   repeat'(first|refine gB ?_|refine CS ω (aa d) ?_|refine CR rfl rfl (aa d) rfl (O2 rfl) rfl ?_)
   ((conv=>whnf)
    refine CQ (i+1,out.set (out.length - 1) ⟨(nth out (out.length - 1)).At,(nth out (out.length - 1)).a1+(nth xs i).a1⟩) ⟨(by simp only;omega),a,ψ,(λy c=>?_)⟩ (by simp only;omega) ?_)
   ·rcases CD c with c|rfl
    ·exact b y c
    simp only;omega
   (repeat'(first|exact tV1|rfl|exact CL rfl (CL (O1 (C.s eS.own) (by rw[show((out.length:Int) - 1).toNat=out.length - 1 by omega,IC];rfl)) tV1)|refine CL ?_ ?_))
  rw[X2 k e]at a
  repeat'(first|refine gB ?_|refine CS ω (aa d) ?_|refine Cf (aR λ_=>rfl) rfl kd qs rfl ?_)
  ((conv=>whnf)
   refine CQ (i+1,out++[nth xs i]) ⟨(by simp only;omega),a,kd,(λy c=>?_)⟩ (by simp only;omega) ?_)
  ·rcases v5.1 c with c|c
   all_goals simp_all
  (exact wR)
 obtain rfl:i=xs.length:=ω
 rw[List.drop_length]at a
 refine σE ?_
 rw[<-a];rfl
def GG(r y:aD)(a:List aD)(put:Bool):qK r (y::a) put=if ovl y r then none else if !put&&decide (y.At > r.At) then(qK r a true).map λt=>r::y::t else(qK r a put).map λt=>y::t:=by rw[qK]
theorem pL(pages:Int)(xs:List aD)(r:aD)(D:0<=pages/\pages<=1048576)(E:eJ xs):zzA 338 false [.vI pages,.val none (bm .O xs),.val (some 2) (aD.enc .O r)] (.tup [none,none]) (JA xs (cw pages xs r)):=by
 have o:=E.1;have j:=pZ pages xs D E;have p:=BN pages r D;cases k:bR pages xs<;>rw[k]at j
 ·rw[show cw pages xs r=none by unfold cw;rw[CJ (by rw[k];simp)]]
  refine fO 82 [] Tryz.func338 rfl ?_ (.inr (nO _ _))
  repeat'(first|refine gP ?_|refine CX (λ_=>rfl) (λ_=>rfl) o qs ?_)
  rfl
 cases u:rangeIn pages r<;>rw[u]at p
 ·rw[show cw pages xs r=none by unfold cw;rw[CJ (by rw[u];simp)]]
  refine fO 82 [] Tryz.func338 rfl ?_ (.inr (nO _ _))
  repeat'(first|refine gP ?_|refine CX (λ_=>rfl) (λ_=>rfl) o qs ?_)
  rfl
 obtain⟨F,G⟩:=xP k;have l:0<=r.At/\1<=r.a1/\r.At+r.a1<=pages:=by grind [rangeIn]
 rw[show cw pages xs r=(qK r xs false).map (dR []) by unfold cw;rw[CK ⟨k,u⟩,Hp (pages:=pages) F l.2.1 ψ]];refine fO 82 [] Tryz.func338 rfl ?_ (.inr (nO _ _))
 repeat'(first|refine gP ?_|refine CX (λ_=>rfl) (λ_=>rfl) o qs ?_)
 refine pe (ι:=Nat × List aD × Bool) (λq=>[(1,b8 (bm .O xs)),(5,bX (aD.enc .O r)),(8,b8 (bm .own xs)),(9,b8 (bm .own q.2.1)),(10,fB (q.2.2)),(11,fN (q.1))]) (λq=>q.1<=xs.length/\(qK r (xs.drop q.1) q.2.2).map (q.2.1++·)=qK r xs false/\q.2.1.length<=q.1+q.2.2.toNat/\(∀y∈q.2.1,0<=y.At/\1<=y.a1/\y.At+y.a1<=1048576)) (λq=>xs.length - q.1) ((0,[],false)) (⟨I1 _,by simp,by simp,by simp⟩) λq d=>?_
 obtain⟨i,out,put⟩:=q;obtain⟨H,b,c,e⟩:=d;simp only at H b c e |-;have J:0<=r.At/\1<=r.a1/\r.At+r.a1<=1048576:=ω
 by_cases w:i<xs.length
 ·have n:=au w
  have K:=G _ (ay w);have B:0<=(nth xs i).At/\1<=(nth xs i).a1/\(nth xs i).At+(nth xs i).a1<=1048576:=ω
  rw[hB w]at b;by_cases h:ovl (nth xs i) r=true
  ·rw[<-b]
   rw[GG,CK h];unfold ovl at h;rw[C0]at h
   repeat'(first|refine gE ?_|refine gS (λd=>?_) (λd=>?_)|fail)
   rfl
  rw[GG,CJ h]at b;unfold ovl at h;rw[C0]at h;cases put with
  | false=>
   have c:out.length<=i:=by simpa using c
   by_cases L:(nth xs i).At > r.At
   ·rw[CK kd,Option.map_map]at b
    repeat'(first|refine gE ?_|refine gS (λd=>?_) (λd=>?_)|refine Cf (aR λ_=>rfl) rfl kd qs rfl ?_|refine Cf (λr l=>by simp at l;rcases l with⟨a,_,rfl⟩|rfl<;>rfl) rfl kd qs rfl ?_)
    ((conv=>whnf)
     refine CQ (i+1,out++[r,nth xs i],true) ⟨(by simp only;omega),(by rw[<-b];congr 1;funext t;simp),kd,(λy g=>?_)⟩ (by simp only;omega) ?_)
    ·grind
    (exact wR)
   rw[CJ kd,Option.map_map]at b
   repeat'(first|refine gE ?_|refine gS (λd=>?_) (λd=>?_)|refine Cf (aR λ_=>rfl) rfl kd qs rfl ?_)
   ((conv=>whnf)
    refine CQ (i+1,out++[nth xs i],false) ⟨(by simp only;omega),(by rw[<-b];congr 1;funext t;simp),kd,(λy g=>?_)⟩ (by simp only;omega) ?_)
   ·grind
   (exact wR)
  | true=>
   have c:out.length<=i+1:=c;rw[CJ (by simp),Option.map_map]at b;by_cases M:(nth xs i).At<r.At+r.a1
   all_goals
    repeat'(first|refine gE ?_|refine gS (λd=>?_) (λd=>?_)|refine Cf (aR λ_=>rfl) rfl kd qs rfl ?_)
    ((conv=>whnf)
     refine CQ (i+1,out++[nth xs i],true) ⟨(by simp only;omega),(by rw[<-b];congr 1;funext t;simp),kd,(λy g=>?_)⟩ (by simp only;omega) ?_)
    ·rcases v5.1 g with g|g
     ·exact e y g
     rw[z3.1 g];exact B
    (exact wR)
 obtain rfl:i=xs.length:=ω
 rw[List.drop_length]at b;cases put with
 | false=>
  have c:out.length<=xs.length:=by simpa using c
  rw[<-b];have C:=xi (out++[r]) kd ψ
  repeat'(first|refine gE ?_|refine Cf (aR λ_=>rfl) rfl kd qs (show(out++[r]).map (aD.enc .own)=_ by simp[aD.enc]) ?_|refine CN (C) ⟨⟨rfl,fe _⟩,tV1⟩ ?_)
  rfl
 | true=>
  have c:out.length<=xs.length+1:=c;rw[<-b];have C:=xi out ω e
  repeat'(first|refine gE ?_|refine CN (C) ⟨⟨rfl,fe _⟩,tV1⟩ ?_)
  simp[qK,JA]
  rfl
end Go.Proofs.YtcblmfpcekokjaaGreat.Ab
