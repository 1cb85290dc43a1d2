/- The pages of a heap: the contracts of l27Pages, l27Meshed (the reference's) and pagesOk (the program's). No condition. -/
import Derived.Test.YtembpgjjnioagaaGreatId
import Derived.Test.YtembpgjjnioagaaGreatIShelf
import Derived.WalkKit
import Derived.Lib.SliceRun
set_option linter.unusedVariables false
set_option linter.unusedSimpArgs false
set_option linter.constructorNameAsVariable false
namespace Go.Proofs.YtembpgjjnioagaaGreat.Ab
open Go.RowKit
set_option maxRecDepth 20000
set_option maxHeartbeats 8000000
theorem cT{sp:List au}{la:List a8}(h:bi sp la=true):sp.all aX=true/\la.all bP=true/\(pgs sp la).Nodup:=by
 unfold bi at h;simp only[I0,C0]at h;exact⟨h.1.1,h.1.2,h.2⟩
theorem Kv{α:Type}[Inhabited α]{xs:List α}{p:α->Bool}{i:Nat}(h:xs.all p=true)(a:i<xs.length):p (nth xs i)=true:=X2.1 h _ (am a)
theorem zN{h:ac}(h1:cw h.Spans.length (ui h.Spans)=false):pages0 h=false:=by unfold pages0;rw[h1];rfl
theorem qw{h:ac}(h1:cw h.Larges.length (qZ h)=false):pages0 h=false:=by unfold pages0;rw[h1];simp
theorem B0{h:ac}{p:Int}(h1:p∈pgs h.Spans h.Larges)(a:¬p<dG h):pages0 h=false:=by
 have:((pgs h.Spans h.Larges).all λp=>decide (p<dG h))=false:=List.all_eq_false.2 ⟨p,h1,by simpa using a⟩;unfold pages0;rw[this];simp
theorem BA{h:ac}(h1:cw (dG h) (sM h)=false):pages0 h=false:=by unfold pages0;rw[h1];simp
theorem tH{h:ac}(h1:cw h.Spans.length (ui h.Spans)=true)(a:cw h.Larges.length (qZ h)=true)(b:∀p∈pgs h.Spans h.Larges,p<dG h)(c:cw (dG h) (sM h)=true):pages0 h=true:=by
 have:((pgs h.Spans h.Larges).all λp=>decide (p<dG h))=true:=X2.2 λp d=>N0 (b p d)
 unfold pages0;rw[h1,a,c,this];rfl
theorem HQ{h:ac}{i:Nat}(h1:u6 h.Larges i=false):qZ h i=false:=by unfold qZ;rw[h1];rfl
theorem Hw{h:ac}{i k:Nat}(a:k<(nth h.Larges i).Pages.toNat)(h1:u7 h (nth h.Larges i) k=false):qZ h i=false:=by unfold qZ;rw[bW a h1];simp
theorem BF{h:ac}{i:Nat}(h1:u6 h.Larges i=true)(a:cw (nth h.Larges i).Pages.toNat (u7 h (nth h.Larges i))=true):qZ h i=true:=by unfold qZ;rw[h1,a];rfl
theorem eS(h:ac)(p:Int):(aK h p).length<=dG h:=by
 unfold aK;split
 ·simp
 ·exact pf ..
theorem qQ{sp:List au}{la:List a8}(h:bi sp la=true){i:Nat}{l:a8}(a:la[i]? = some l):1<=l.Pages/\l.Pages<=63/\0<=l.Page/\l.Page<=31:=
 aT (X2.1 (cT h).2.1 l (I1 a))
theorem Ag(h:ac)(G:dc h.Spans)(H:dm h.Larges)(l:sI h)(J:gw h.Free)(n:bi h.Spans h.Larges=true):ao Tryz.prog 204 false [.val (some 24) (ac.enc .imm h)] .one [B (pages0 h)]:=by
 have Z:=G.1;have hl2:=H.1;have hl3:dG h<=1048576:=l.1;have hl4:=J.1;refine fO 144 [(7,18,[28,29,30,31,32,33,34,35,36,37,38,39,40,41,42,43,44,45]),(13,18,[62,63,64,65,66,67,68,69,70,71,72,73,74,75,76,77,78,79])] Tryz.func204 rfl ?_
 repeat'(first|refine gO ?_|fail)
 (conv=>whnf)
 refine CB (ι:=Nat × List Int) (λi=>[(1,.hold .box (ac.enc .imm h)),(3,.hold .box (aG.enc .imm (tbl h))),(4,.hold .one [I (dG h)]),(5,.hold .one (aF .own i.2)),(6,.hold .one [I ((i.1:Nat):Int)])]) (λi=>i.1<=h.Spans.length/\i.2=(h.Spans.take i.1).map (·.Page)/\cw i.1 (ui h.Spans)=true) (λi=>h.Spans.length - i.1) ((0,[])) ?_ (⟨P0 _,rfl,rfl⟩) λi K=>?_
 ·exact wB
 obtain⟨i,S⟩:=i;obtain⟨K,o,L⟩:=K;simp only at K o L |-;have hSl:S.length=i:=by rw[o,T0,Z0];omega
 by_cases M:i<h.Spans.length
 ·have c:=ah M
  repeat'(first|refine gD ?_|(conv=>whnf);first|with_reducible (first|refine C9 (aa c) ?_|refine Bf.D (λa=>?_) (λa=>?_))|refine CI ω (aa (fg ω M)) ?_|refine CO cv (λr t=>by rw[W0.1 t];rfl) (by simp[aU,dx]) (by simp;omega) (by simp only[T0];exact vL (by simp;omega) (by decide)) rfl ?_)
  all_goals first
   | exact Q0 (λz=>[B z]) ((zN (bW M (O0 ω))).symm)
   | ((conv=>whnf)
      refine CA (i+1,S++[(nth h.Spans i).Page]) ⟨(by simp only;omega),(by simp only;rw[o,Y3,c];simp),bH L (N0 ω)⟩ (by simp only;omega) ?_
      (repeat'(first|exact trivial|rfl|exact CG rfl (CG (Q0 (C.s du.own) (by simp[rI])) trivial)|refine CG ?_ ?_)))
 ·obtain rfl:i=h.Spans.length:=ω
  rw[U3]at o
  repeat'(first|refine gD ?_|fail)
  (conv=>whnf)
  refine CB (ι:=Nat × List Int) (λk=>[(1,.hold .box (ac.enc .imm h)),(3,.hold .box (aG.enc .imm (tbl h))),(4,.hold .one [I (dG h)]),(5,.hold .one (aF .own k.2)),(7,.hold .one [I ((k.1:Nat):Int)])]) (λk=>k.1<=h.Larges.length/\k.2=pgs h.Spans (h.Larges.take k.1)/\cw k.1 (qZ h)=true/\k.2.length<=1048576+64*k.1) (λk=>h.Larges.length - k.1) ((0,S)) ?_ (⟨P0 _,by rw[o];unfold pgs;simp,rfl,by simp only;omega⟩) λk O=>?_
  ·exact wB
  obtain⟨k,S2⟩:=k;obtain⟨O,b,Q,R⟩:=O;simp only at O b Q R |-;by_cases y:k<h.Larges.length
  ·have c:=ah y
   have hpg:=qQ n c
   repeat'(first|refine gD ?_|(conv=>whnf);first|with_reducible (first|refine C9 (aa c) ?_|refine Bf.D (λa=>?_) (λa=>?_))|refine CI ω (aa (fg ω y)) ?_)
   all_goals first
    | exact Q0 (λz=>[B z]) ((qw (bW y (HQ (O0 ω)))).symm)
    |have e:u6 h.Larges k=true:=N0 ω
     (conv=>whnf)
     refine CB (ι:=Nat × List Int) (λq=>[(1,.hold .box (ac.enc .imm h)),(3,.hold .box (aG.enc .imm (tbl h))),(4,.hold .one [I (dG h)]),(5,.hold .one (aF .own q.2)),(7,.hold .one [I ((k:Nat):Int)]),(8,.hold .one [I ((q.1:Nat):Int)])]) (λq=>q.1<=(nth h.Larges k).Pages.toNat/\q.2=S2++lpgs (nth h.Larges k) q.1/\cw q.1 (u7 h (nth h.Larges k))=true) (λq=>(nth h.Larges k).Pages.toNat - q.1) ((0,S2)) ?_ (⟨P0 _,by simp[lpgs],rfl⟩) λq a=>?_
     ·exact wB
     obtain⟨q,T⟩:=q;obtain⟨U,d,g⟩:=a;simp only at U d g |-;have W:T.length=S2.length+q:=by rw[d,I2,A7]
     by_cases E:q<(nth h.Larges k).Pages.toNat
     ·have hfl:=eS h ((nth h.Larges k).Page+(q:Nat))
      repeat'(first|refine gD ?_|(conv=>whnf);first|with_reducible (first|refine C9 (aa c) ?_|refine Bf.N (λa=>?_) (λa=>?_))|refine C5 (gk h _ l) ?_|refine CO cv (λr t=>by rw[W0.1 t];rfl) (by simp[aU,dx]) (by simp;omega) (by show _*8<=_;simp;omega) rfl ?_)
      all_goals first
       | exact Q0 (λz=>[B z]) ((qw (bW y (Hw E (O0 ω)))).symm)
       | ((conv=>whnf)
          refine CA (q+1,T++[(nth h.Larges k).Page+(q:Nat)]) ⟨(by simp only;omega),(by simp only;rw[d,jn,Z3]),bH g (N0 ω)⟩ (by simp only;omega) ?_
          (repeat'(first|exact trivial|rfl|exact CG rfl (CG (Q0 (C.s du.own) (by simp[rI])) trivial)|refine CG ?_ ?_)))
     ·obtain rfl:q=(nth h.Larges k).Pages.toNat:=ω
      repeat'(first|refine gD ?_|(conv=>whnf);first|with_reducible refine C9 (aa c) ?_)
      ((conv=>whnf);refine CA (k+1,T) ⟨(by simp only;omega),(by simp only;rw[d,b,<-mW _ c]),bH Q (BF e g),(by simp only;omega)⟩ (by simp only;omega) ?_;(exact wB))
  ·obtain rfl:k=h.Larges.length:=ω
   rw[U3]at b
   repeat'(first|refine gD ?_|fail)
   (conv=>whnf)
   refine CB (ι:=Nat) (λq=>[(1,.hold .box (ac.enc .imm h)),(3,.hold .box (aG.enc .imm (tbl h))),(4,.hold .one [I (dG h)]),(5,.hold .one (aF .own S2)),(10,.hold .one [I ((q:Nat):Int)])]) (λq=>q<=S2.length/\∀j,j<q->nth S2 j<dG h) (λq=>S2.length - q) (0) ?_ (⟨P0 _,λj F=>ω⟩) λq a=>?_
   ·exact wB
   obtain⟨a,g⟩:=a;by_cases E:q<S2.length
   ·have c:=ah E
    repeat'(first|refine gD ?_|(conv=>whnf);first|with_reducible (first|refine C9 (aa c) ?_|refine Bf.D (λa=>?_) (λa=>?_))|refine CE rfl (aa c) rfl ?_)
    all_goals first
     | exact Q0 (λz=>[B z]) ((B0 (by rw[<-b];exact am E) ω).symm)
     | ((conv=>whnf);refine CA (q+1) ⟨ω,λj F=>by rcases Nat.lt_or_ge j q with V|V;exact g j V;(obtain rfl:j=q:=ω);omega⟩ ω ?_;(exact wB))
   ·have u:∀p∈pgs h.Spans h.Larges,p<dG h:=λp w=>by
     rw[<-b]at w;obtain⟨j,F⟩:=List.mem_iff_getElem?.1 w;have V:=(P1.1 F).1;have:=g j ω
     rwa [bp F]at this
    repeat'(first|refine gD ?_|fail)
    (conv=>whnf)
    refine CB (ι:=Nat) (λp=>[(1,.hold .box (ac.enc .imm h)),(3,.hold .box (aG.enc .imm (tbl h))),(4,.hold .one [I (dG h)]),(5,.hold .one (aF .own S2)),(11,.hold .one [I ((p:Nat):Int)])]) (λp=>p<=dG h/\cw p (sM h)=true) (λp=>dG h - p) 0 ?_ ⟨P0 _,rfl⟩ λp w=>?_
    ·exact wB
    obtain⟨w,X⟩:=w;by_cases Y:p<dG h
    ·have c:=ah (xs:=(tbl h).Entries) Y
     have t:=vO h.Free (p:Nat) ω
     repeat'(first|refine gD ?_|(conv=>whnf);first|with_reducible (first|refine C9 (aa c) ?_|refine Bf.D (λa=>?_) (λa=>?_)|refine Bf.NB (λa=>?_) (λa=>?_))|refine CD (kO S2 _ ω) ⟨⟨rfl,dz _⟩,⟨rfl,rfl⟩,trivial⟩ ?_|refine C5 t ?_|refine Bf.P (λa=>?_) (λa=>?_))
     all_goals first
      | exact Q0 (λz=>[B z]) ((BA (bW Y (by unfold sM;rw[<-b];grind))).symm)
      | ((conv=>whnf);refine CA (p+1) ⟨ω,bH X (by unfold sM;rw[<-b];grind)⟩ ω ?_;(exact wB))
    ·repeat'(first|refine gD ?_|fail)
     obtain rfl:p=dG h:=ω
     exact Q0 (λz=>[B z]) ((tH L Q u X).symm)
set_option maxHeartbeats 8000000
theorem AQ{z1 z2:Int}(h:z1=z2):Kf (I z1) (I z2):=by subst h;rfl
theorem Ez{S:List Int}{p z:Int} : z∈ins S p↔z∈S\/z=p:=by
 unfold ins;split
 ·rename_i a
  exact⟨.inl,λh=>h.elim id λe=>e ▸ a⟩
 ·simp
theorem uX(S:List Int):(eA S).map (·.1)=S:=by unfold eA;rw[List.map_map];simp[v4]
theorem kx{t:aG}{p:Nat}(a:p<t.Entries.length):ar t (p:Nat)=nth t.Entries p:=by
 unfold ar;rw[C7 ω];simp
theorem yj(h:ac)(Q:dc h.Spans)(R:dm h.Larges)(l:sI h)(T:gw h.Free)(G:bi h.Spans h.Larges=true):ao Tryz.prog 69 false [.val (some 24) (ac.enc .imm h)] .one [B (pages0 h&&mg h)]:=by
 have hl1:=Q.1;have hl2:=R.1;have hl3:dG h<=1048576:=l.1;have hl4:=T.1;have d:pages0 h=false->[B false]=[B (pages0 h&&mg h)]:=λe=>by rw[e];rfl
 refine fO 177 [(4,14,[25,26,27,28,29,30,31,32,33,34,35,36,37,38]),(16,14,[60,61,62,63,64,65,66,67,68,69,70,71,72,73]),(28,18,[102,103,104,105,106,107,108,109,110,111,112,113,114,115,116,117,118,119]),(42,23,[152,153,154,155,156,157,158,159,160,161,162,163,164,165,166,167,168,169,170,171,172,173,174])] Tryz.func69 rfl ?_
 repeat'(first|refine gO ?_|fail)
 (conv=>whnf)
 refine CB (ι:=Nat) (λi=>[(1,.hold .box (ac.enc .imm h)),(18,.hold .one (bX .imm h.Spans)),(19,.hold .one [I (h.Spans.length)]),(20,.hold .one [I ((i:Nat):Int)])]) (λi=>i<=h.Spans.length/\cw i (ui h.Spans)=true) (λi=>h.Spans.length - i) 0 ?_ ⟨P0 _,rfl⟩ λi o=>?_
 ·exact wB
 obtain⟨o,H⟩:=o;by_cases F:i<h.Spans.length
 ·have g:=ah F
  repeat'(first|refine gD ?_|(conv=>whnf);first|with_reducible (first|refine C9 (aa g) ?_|refine Bf.D (λa=>?_) (λa=>?_))|refine CI ω (aa (fg ω F)) ?_)
  all_goals first
   |exact d (zN (bW F (O0 ω)))
   | ((conv=>whnf);refine CA (i+1) ⟨ω,bH H (N0 ω)⟩ ω ?_;(exact wB))
 obtain rfl:i=h.Spans.length:=ω
 repeat'(first|refine gD ?_|fail)
 (conv=>whnf)
 refine CB (ι:=Nat × List Int) (λi=>[(1,.hold .box (ac.enc .imm h)),(5,.hold .one [.m (eA i.2)]),(42,.hold .one (bX .imm h.Spans)),(43,.hold .one [I (h.Spans.length)]),(44,.hold .one [I ((i.1:Nat):Int)])]) (λi=>i.1<=h.Spans.length/\∀z,z∈i.2↔z∈(h.Spans.take i.1).map (·.Page)) (λi=>h.Spans.length - i.1) ((0,[])) ?_ (⟨P0 _,λz=>Iff.rfl⟩) λi o=>?_
 ·exact wB
 obtain⟨i,S⟩:=i;obtain⟨U,L⟩:=o;simp only at U L |-;by_cases li2:i<h.Spans.length
 ·have g:=ah li2
  repeat'(first|refine gD ?_|(conv=>whnf);first|with_reducible refine C9 (aa g) ?_|refine Mu.mk (tQ S _) ?_)
  ((conv=>whnf);refine CA (i+1,ins S (nth h.Spans i).Page) ⟨(by simp only;omega),λz=>by simp only[Ez,L];rw[Y3,g];simp⟩ (by simp only;omega) ?_;(exact wB))
 obtain rfl:i=h.Spans.length:=ω
 rw[U3]at L
 repeat'(first|refine gD ?_|fail)
 (conv=>whnf)
 refine CB (ι:=Nat × List Int) (λk=>[(1,.hold .box (ac.enc .imm h)),(5,.hold .one [.m (eA k.2)]),(53,.hold .one (bV .imm h.Larges)),(54,.hold .one [I (h.Larges.length)]),(55,.hold .one [I ((k.1:Nat):Int)])]) (λk=>k.1<=h.Larges.length/\(∀z,z∈k.2↔z∈pgs h.Spans (h.Larges.take k.1))/\cw k.1 (qZ h)=true) (λk=>h.Larges.length - k.1) ((0,S)) ?_ (⟨P0 _,λz=>by simp only[L];unfold pgs;simp,rfl⟩) λk V=>?_
 ·exact wB
 obtain⟨k,S2⟩:=k;obtain⟨V,b,W⟩:=V;simp only at V b W |-;by_cases M:k<h.Larges.length
 ·have g:=ah M
  have hpg:=qQ G g
  repeat'(first|refine gD ?_|(conv=>whnf);first|with_reducible (first|refine C9 (aa g) ?_|refine Bf.D (λa=>?_) (λa=>?_))|refine CI ω (aa (fg ω M)) ?_)
  all_goals first
   |exact d (qw (bW M (HQ (O0 ω))))
   |have u:u6 h.Larges k=true:=N0 ω
    (conv=>whnf)
    refine CB (ι:=Nat × List Int) (λq=>[(1,.hold .box (ac.enc .imm h)),(5,.hold .one [.m (eA q.2)]),(9,.hold .box (a8.enc .imm (nth h.Larges k))),(10,.hold .one [I ((nth h.Larges k).Page+(q.1:Nat))]),(53,.hold .one (bV .imm h.Larges)),(54,.hold .one [I (h.Larges.length)]),(55,.hold .one [I ((k:Nat):Int)])]) (λq=>q.1<=(nth h.Larges k).Pages.toNat/\(∀z,z∈q.2↔z∈S2++lpgs (nth h.Larges k) q.1)/\cw q.1 (u7 h (nth h.Larges k))=true) (λq=>(nth h.Larges k).Pages.toNat - q.1) ((0,S2)) ?_ (⟨P0 _,λz=>by simp[lpgs],rfl⟩) λq a=>?_
    ·exact wB
    obtain⟨q,X⟩:=q;obtain⟨Y,w,Z⟩:=a;simp only at Y w Z |-;by_cases lq:q<(nth h.Larges k).Pages.toNat
    ·have hfl:=eS h ((nth h.Larges k).Page+(q:Nat))
     repeat'(first|refine gD ?_|(conv=>whnf);first|with_reducible refine Bf.N (λa=>?_) (λa=>?_)|refine C5 (iM h _ l) ?_|refine Mu.mk (tQ X _) ?_)
     all_goals first
      |exact d (qw (bW M (Hw lq (O0 ω))))
      | ((conv=>whnf)
         refine CA (q+1,ins X ((nth h.Larges k).Page+(q:Nat))) ⟨(by simp only;omega),λz=>by simp only[Ez,w];rw[jn];simp[or_assoc],bH Z (N0 ω)⟩ (by simp only;omega) ?_
         (repeat'(first|exact trivial|rfl|refine CG ?_ ?_|exact AQ (by simp;omega))))
    ·obtain rfl:q=(nth h.Larges k).Pages.toNat:=ω
     repeat'(first|refine gD ?_|fail)
     ((conv=>whnf);refine CA (k+1,X) ⟨(by simp only;omega),(λz=>by simp only[w];rw[mW _ g];simp[b]),bH W (BF u Z)⟩ (by simp only;omega) ?_;(exact wB))
 obtain rfl:k=h.Larges.length:=ω
 rw[U3]at b
 repeat'(first|refine gD ?_|fail)
 (conv=>whnf)
 refine CB (ι:=Nat) (λp=>[(1,.hold .box (ac.enc .imm h)),(5,.hold .one [.m (eA S2)]),(98,.hold .one [I (dG h)]),(99,.hold .one [I ((p:Nat):Int)])]) (λp=>p<=dG h/\cw p (sM h)=true) (λp=>dG h - p) 0 ?_ ⟨P0 _,rfl⟩ λp O=>?_
 ·exact wB
 obtain⟨O,ap⟩:=O;by_cases lp:p<dG h
 ·have hr:=vS h.Free (p:Nat) ω
  have J:=Ba h.Kernel (p:Nat) l;rw[kx lp]at J
  repeat'(first|refine gD ?_|(conv=>whnf);first|with_reducible (first|refine Bf.D (λa=>?_) (λa=>?_)|refine Bf.NB (λa=>?_) (λa=>?_))|refine C5 J ?_|refine Ml.mk (lc (p:Nat) S2) ?_|refine C5 hr ?_|refine Bf.P (λa=>?_) (λa=>?_))
  all_goals first
   |exact d (BA (bW lp (by unfold sM tbl;have:=b (p:Nat);grind)))
   | ((conv=>whnf);refine CA (p+1) ⟨ω,bH ap (by unfold sM tbl;have:=b (p:Nat);grind)⟩ ω ?_;(exact wB))
 obtain rfl:p=dG h:=ω
 repeat'(first|refine gD ?_|fail)
 have hpn:dG h=h.Kernel.Machine.Table.Entries.length:=rfl
 (conv=>whnf)
 refine CB (ι:=Option Int × List Int) (λt=>[(1,.hold .box (ac.enc .imm h)),(122,.hold .one [.it t.1 t.2])]) (λt=>(∀z∈S2,z∈t.2\/z<dG h)/\∀z∈t.2,z∈S2) (λt=>t.2.length) ((none,(eA S2).map (·.1))) ?_ (⟨λz n=>.inl (by rw[uX];exact n),λz n=>by rw[uX]at n;exact n⟩) λt ht=>?_
 ·exact wB
 obtain⟨cur,left⟩:=t;obtain⟨y,C⟩:=ht;simp only at y C |-
 repeat'(first|refine gO ?_|(conv=>whnf);first|with_reducible refine Bf.D (λa=>?_) (λa=>?_)|refine Nt.mk (λa=>?_) (λl1 k l2 a=>?_))
 rotate_left
 ·exact d (B0 (p:=k) ((b k).1 (C k (by subst left;simp))) ω)
 ·((conv=>whnf);refine CA (some k,l1++l2) ⟨λz n=>by have c:=y z n;subst left;simp only[W1,List.mem_cons]at c |-;rcases c with(c|c|c)|c;exact .inl (.inl c);(subst c;exact .inr ω);exact .inl (.inr c);exact .inr c,λz n=>C z (by subst left;simp only[W1,List.mem_cons]at n |-;grind)⟩ (by subst left;simp) ?_;(exact wB))
 have K:∀p∈pgs h.Spans h.Larges,p<dG h:=λp O=>by
  have c:=y p ((b p).2 O);subst left;simpa using c
 have h0:pages0 h=true:=tH H W K ap;rw[h0,Bool.true_and]
 (conv=>whnf)
 refine CB (ι:=Nat) (λi=>[(1,.hold .box (ac.enc .imm h)),(136,.hold .one (bX .imm h.Spans)),(137,.hold .one [I (h.Spans.length)]),(138,.hold .one [I ((i:Nat):Int)])]) (λi=>i<=h.Spans.length/\cw i (λi=>cw i (jv h i))=true) (λi=>h.Spans.length - i) 0 ?_ ⟨P0 _,rfl⟩ λi o=>?_
 ·exact wB
 obtain⟨o,H⟩:=o;by_cases F:i<h.Spans.length
 ·have g:=ah F
  have htl:(h.Spans.take i).length=i:=by rw[Z0];omega
  repeat'(first|refine gD ?_|(conv=>whnf);first|with_reducible refine C9 (aa g) ?_|refine CR i rfl (by simp;omega) (λr hr=>by obtain⟨z,-,rfl⟩:=C3.1 hr;rfl) (v3 ..) ?_)
  (conv=>whnf)
  refine CB (ι:=Nat) (λj=>[(1,.hold .box (ac.enc .imm h)),(14,.hold .box (au.enc .imm (nth h.Spans i))),(136,.hold .one (bX .imm h.Spans)),(137,.hold .one [I (h.Spans.length)]),(138,.hold .one [I ((i:Nat):Int)]),(146,.hold .one (bX .imm (h.Spans.take i))),(147,.hold .one [I ((h.Spans.take i).length)]),(148,.hold .one [I ((j:Nat):Int)])]) (λj=>j<=(h.Spans.take i).length/\cw j (jv h i)=true) (λj=>(h.Spans.take i).length - j) 0 ?_ ⟨P0 _,rfl⟩ λj hj=>?_
  ·exact wB
  obtain⟨hj,aj⟩:=hj;by_cases lj:j<(h.Spans.take i).length
  ·have hy:=ah lj
   have he:nth (h.Spans.take i) j=nth h.Spans j:=bp (by rw[List.getElem?_take_of_lt ω];exact ah ω);rw[he]at hy;have J:=wF (nth h.Spans i) (nth h.Spans j);cases em:meshable (nth h.Spans i) (nth h.Spans j)<;>rw[em]at J
   all_goals
    repeat'(first|refine gD ?_|(conv=>whnf);first|with_reducible (first|refine C9 (aa hy) ?_|refine Bf.E (λa=>?_) (λa=>?_))|refine C5 (jD (tbl h) _ l) ?_|refine C5 J ?_)
    all_goals first
     | exact Q0 (λz=>[B z]) ((by symm;exact bW F (bW (i:=j) ω (by unfold jv;rw[em];grind))))
     | ((conv=>whnf);refine CA (j+1) ⟨ω,bH aj (by unfold jv;rw[em];grind)⟩ ω ?_;(exact wB))
  ·obtain rfl:j=(h.Spans.take i).length:=ω
   rw[htl]at aj
   repeat'(first|refine gD ?_|fail)
   ((conv=>whnf);refine CA (i+1) ⟨ω,bH H aj⟩ ω ?_;(exact wB))
 obtain rfl:i=h.Spans.length:=ω
 repeat'(first|refine gD ?_|fail)
 exact Q0 (λz=>[B z]) ((by unfold mg;rw[H]))
set_option maxHeartbeats 8000000
theorem jR{α:Type}[Inhabited α](pr:α->Bool)(xs:List α):cQ pr xs = -1\/∃n,n<xs.length/\cQ pr xs=(n:Nat)/\pr (nth xs n)=true:=by
 unfold cQ;cases h:xs.findIdx? pr with
 | none=>exact .inl rfl
 | some i=>
  obtain⟨a,b,-⟩:=V4.1 h;exact .inr ⟨i,a,rfl,by rw[bp (O1 a)];exact b⟩
theorem zS{h:ac}{i k:Nat}(a:i<h.Spans.length)(b:k<(aK h (nth h.Spans i).Page).length)(c:k6 h i (nth (aK h (nth h.Spans i).Page) k)=false):r6 h=false:=by
 unfold r6;exact bW a (dJ (ah b) c)
theorem zn(h:ac)(j:dc h.Spans)(c:sI h):ao Tryz.prog 205 false [.val (some 24) (ac.enc .imm h)] .one [B (r6 h)]:=by
 have l:=j.1;have G:dG h<=1048576:=c.1;refine fO 55 [(4,8,[14,15,16,17,18,19,20,21]),(8,6,[28,29,30,31,32,33]),(9,21,[34,35,36,37,38,39,40,41,42,43,44,45,46,47,48,49,50,51,52,53,54])] Tryz.func205 rfl ?_
 repeat'(first|refine gO ?_|fail)
 (conv=>whnf)
 refine CB (ι:=Nat) (λi=>[(1,.hold .box (ac.enc .imm h)),(3,.hold .one [I ((i:Nat):Int)])]) (λi=>i<=h.Spans.length/\cw i (λi=>(aK h (nth h.Spans i).Page).all (k6 h i))=true) (λi=>h.Spans.length - i) 0 ?_ ⟨P0 _,rfl⟩ λi w=>?_
 ·exact wB
 obtain⟨w,y⟩:=w;by_cases o:i<h.Spans.length
 ·have q:=ah o
  have H:=eS h (nth h.Spans i).Page
  repeat'(first|refine gD ?_|(conv=>whnf);first|with_reducible refine C9 (aa q) ?_|refine C5 (gk h _ c) ?_)
  (conv=>whnf)
  refine CB (ι:=Nat) (λk=>[(1,.hold .box (ac.enc .imm h)),(3,.hold .one [I ((i:Nat):Int)]),(4,.hold .one (aF .own (aK h (nth h.Spans i).Page))),(5,.hold .one [I ((k:Nat):Int)])]) (λk=>k<=(aK h (nth h.Spans i).Page).length/\((aK h (nth h.Spans i).Page).take k).all (k6 h i)=true) (λk=>(aK h (nth h.Spans i).Page).length - k) (0) ?_ (⟨P0 _,rfl⟩) λk C=>?_
  ·exact wB
  obtain⟨C,E⟩:=C;by_cases r:k<(aK h (nth h.Spans i).Page).length
  ·have d:=ah r
   have a:=iJ h (nth (aK h (nth h.Spans i).Page) k) l;rcases jR (iN (nth (aK h (nth h.Spans i).Page) k)) h.Spans with e|⟨n,J,e,-⟩
   ·rw[show fw h (nth (aK h (nth h.Spans i).Page) k) = -1 from e]at a
    have t:k6 h i (nth (aK h (nth h.Spans i).Page) k)=false:=by
     unfold k6;rw[show fw h (nth (aK h (nth h.Spans i).Page) k) = -1 from e,O0 ω,O0 ω];rfl
    repeat'(first|refine gD ?_|(conv=>whnf);first|with_reducible (first|refine C9 (aa q) ?_|refine C9 (aa d) ?_|refine Bf.D (λb=>?_) (λb=>?_)|refine Bf.N (λb=>?_) (λb=>?_))|refine CE rfl (aa d) rfl ?_|refine C5 a ?_)
    all_goals first
     | exact Q0 (λz=>[B z]) ((zS o r t).symm)
     |(exfalso;omega)
   ·rw[show fw h (nth (aK h (nth h.Spans i).Page) k)=(n:Nat) from e]at a
    have K:=ah J;have F:=kn (nth h.Spans i) (nth h.Spans n);have g:k6 h i (nth (aK h (nth h.Spans i).Page) k)=(decide ((n:Int)=(i:Nat)) || meshable (nth h.Spans i) (nth h.Spans n)):=by
     unfold k6;rw[show fw h (nth (aK h (nth h.Spans i).Page) k)=(n:Nat) from e,N0 (p:=(0:Int)<=(n:Nat)) ω];simp
    cases u:meshable (nth h.Spans i) (nth h.Spans n)<;>rw[u]at F
    all_goals
     repeat'(first|refine gD ?_|(conv=>whnf);first|with_reducible (first|refine C9 (aa q) ?_|refine C9 (aa K) ?_|refine C9 (aa d) ?_|refine Bf.D (λb=>?_) (λb=>?_)|refine Bf.N (λb=>?_) (λb=>?_))|refine CE rfl (aa d) rfl ?_|refine C5 a ?_|refine C5 F ?_)
     all_goals first
      | exact Q0 (λz=>[B z]) ((zS o r (by rw[g,u];grind)).symm)
      | ((conv=>whnf);refine CA (k+1) ⟨ω,cm d E (by rw[g,u];grind)⟩ ω ?_;(exact wB))
      |(exfalso;omega)
  ·repeat'(first|refine gD ?_|fail)
   ((conv=>whnf);refine CA (i+1) ⟨ω,bH y (fS ω E)⟩ ω ?_;(exact wB))
 ·obtain rfl:i=h.Spans.length:=ω
  repeat'(first|refine gD ?_|fail)
  exact Q0 (λz=>[B z]) ((by unfold r6;rw[y]))
theorem FL(j:cF)(b:cF.sml j):ao Tryz.prog 211 false [.val (some 5) (cF.enc .imm j)] .one [B (p7 j)]:=by
 have c:j.Plan.Cells.length<=1048576:=b;refine fO 30 [] Tryz.func211 rfl ?_
 repeat'(first|refine gO ?_|(conv=>whnf);first|with_reducible (first|refine Bf.E (λa=>?_) (λa=>?_)|refine Bf.D (λa=>?_) (λa=>?_)))
 all_goals exact Q0 (λz=>[B z]) ((by unfold p7;first|(symm;exact O0 ω)|(rw[Q3,beq_iff_eq,C0];omega)))
theorem lv(sp:List au)(la:List a8)(a:Int):((denotes sp la a).Kind=1->0<=(denotes sp la a).Index/\(denotes sp la a).Index.toNat<sp.length)/\((denotes sp la a).Kind=3->0<=(denotes sp la a).Index/\(denotes sp la a).Index.toNat<la.length):=by
 unfold denotes;cases c:sp.findIdx? (cn · a) with
 | some i=>
  obtain⟨b,-⟩:=V4.1 c;simp only[nL];refine⟨λ_=>⟨ω,by simpa using b⟩,λe=>?_⟩;split at e<;>cases e
 | none=>
  cases d:la.findIdx? (bv · a) with
  | some i=>
   obtain⟨b,-⟩:=V4.1 d;exact⟨λe=>(by cases e),λ_=>⟨by simp,by simpa using b⟩⟩
  | none=>exact⟨λe=>(by cases e),λe=>(by cases e)⟩
theorem Dm(h:ac)(a c:Int)(d:dc h.Spans)(e:dm h.Larges)(b:bi h.Spans h.Larges=true)(k:kX a):ao Tryz.prog 276 false [.val (some 24) (ac.enc .imm h),.val none [I a],.val none [I c]] .one [B (cS h a c)]:=by
 have j:=lR h.Spans h.Larges a d e b k;obtain⟨g,-⟩:=lv h.Spans h.Larges a;unfold cS;generalize denotes h.Spans h.Larges a=w at j g |-;refine fO 37 [] Tryz.func276 rfl ?_
 repeat'(first|refine gO ?_|(conv=>whnf);first|with_reducible (first|refine Bf.D (λi=>?_) (λi=>?_)|refine Bf.E (λi=>?_) (λi=>?_))|refine C5 j ?_|refine CI (g (by assumption)).1 (aa (ah (g (by assumption)).2)) ?_)
 all_goals exact Q0 (λz=>[B z]) ((by grind))
theorem xM(h:ac)(o:bG)(w:ip)(a:denotes h.Spans h.Larges o.Addr=w):ja h o=(decide (w.Offset=0)&&((decide (w.Kind=1)&&decide ((nth h.Spans w.Index.toNat).Class=aN o.Size)) || (decide (w.Kind=3)&&decide ((nth h.Larges w.Index.toNat).Size=o.Size)))):=by
 unfold ja;rw[a]
theorem ig{h:ac}{i:Nat}(a:i<h.Objs.length)(b:objAt (IntKind.i64.wrap (h.Next - 1)) h i=false):eK h=false:=bW a b
theorem Ei{a:Int}{h:ac}{i:Nat}(h1:gl a h i=false):objAt a h i=false:=by unfold objAt;rw[h1];rfl
theorem EN{a:Int}{h:ac}{i:Nat}(h1:(h.Objs.take i).any (jz (nth h.Objs i).Id)=true):objAt a h i=false:=by unfold objAt;rw[h1];simp
theorem Ej{a:Int}{h:ac}{i:Nat}(h1:ja h (nth h.Objs i)=false):objAt a h i=false:=by unfold objAt;rw[h1];simp
theorem xE{a:Int}{h:ac}{i:Nat}(h1:gl a h i=true)(b:(h.Objs.take i).any (jz (nth h.Objs i).Id)=false)(c:ja h (nth h.Objs i)=true):objAt a h i=true:=by unfold objAt;rw[h1,b,c];rfl
theorem DR(h:ac)(l:dc h.Spans)(n:dm h.Larges)(g:bi h.Spans h.Larges=true)(K:h.Objs.length<=1048576)(L:h.Caches.length<=1048576)(H:∀o∈h.Objs,kX o.Addr):ao Tryz.prog 209 false [.val (some 24) (ac.enc .imm h)] .one [B (eK h)]:=by
 refine fO 117 [(5,33,[21,22,23,24,25,26,27,28,29,30,31,32,33,34,35,36,37,38,39,40,41,42,43,44,45,46,47,48,49,50,51,52,53]),(10,9,[59,60,61,62,63,64,65,66,67]),(13,16,[75,76,77,78,79,80,81,82,83,84,85,86,87,88,89,90]),(14,15,[91,92,93,94,95,96,97,98,99,100,101,102,103,104,105])] Tryz.func209 rfl ?_
 repeat'(first|refine gO ?_|fail)
 (conv=>whnf)
 refine CB (ι:=Nat) (λi=>[(1,.hold .box (ac.enc .imm h)),(3,.hold .one [I ((i:Nat):Int)])]) (λi=>i<=h.Objs.length/\cw i (objAt (IntKind.i64.wrap (h.Next - 1)) h)=true) (λi=>h.Objs.length - i) 0 ?_ ⟨P0 _,rfl⟩ λi t=>?_
 ·exact wB
 obtain⟨t,u⟩:=t;by_cases e:i<h.Objs.length
 ·have y:=ah e
  have C:=lR h.Spans h.Larges (nth h.Objs i).Addr l n g (H _ (am e));obtain⟨p,q⟩:=lv h.Spans h.Larges (nth h.Objs i).Addr;have b:=xM h (nth h.Objs i) _ rfl;generalize denotes h.Spans h.Larges (nth h.Objs i).Addr=w at C p q b;by_cases c:gl (IntKind.i64.wrap (h.Next - 1)) h i=true
  ·have a:=c
   unfold gl at a;rw[C0]at a
   repeat'(first|refine gD ?_|(conv=>whnf);first|with_reducible (first|refine C9 (aa y) ?_|refine Bf.D (λd=>?_) (λd=>?_))|refine CI ω (aa (fg ω e)) ?_|refine C5 (aD _ _ _) ?_|refine CH rfl ?_)
   all_goals
    (conv=>whnf)
    refine CB (ι:=Nat) (λk=>[(1,.hold .box (ac.enc .imm h)),(3,.hold .one [I ((i:Nat):Int)]),(4,.hold .box (bG.enc .imm (nth h.Objs i))),(5,.hold .one [I ((k:Nat):Int)])]) (λk=>k<=i/\(h.Objs.take k).any (jz (nth h.Objs i).Id)=false) (λk=>i - k) (0) ?_ (⟨P0 _,rfl⟩) λk F=>?_
    ·exact wB
    obtain⟨F,G⟩:=F;by_cases J:k<i
    ·have r:=ah (xs:=h.Objs) (i:=k) ω
     repeat'(first|refine gD ?_|(conv=>whnf);first|with_reducible (first|refine C9 (aa r) ?_|refine Bf.E (λd=>?_) (λd=>?_)))
     all_goals first
      | exact Q0 (λz=>[B z]) ((ig e (EN (yp (i:=k) (by rw[List.getElem?_take_of_lt J];exact r) (N0 (by assumption))))).symm)
      | ((conv=>whnf);refine CA (k+1) ⟨ω,tq r G (O0 (by assumption))⟩ ω ?_;(exact wB))
    ·obtain rfl:k=i:=ω
     repeat'(first|refine gD ?_|(conv=>whnf);first|with_reducible (first|refine Bf.D (λd=>?_) (λd=>?_)|refine Bf.E (λd=>?_) (λd=>?_)|refine Bf.N (λd=>?_) (λd=>?_))|refine C5 C ?_|refine CI (p (by assumption)).1 (aa (ah (p (by assumption)).2)) ?_|refine CI (q (by assumption)).1 (aa (ah (q (by assumption)).2)) ?_|refine C5 (je _) ?_)
     all_goals first
      | exact Q0 (λz=>[B z]) ((ig e (Ej (by rw[b];grind))).symm)
      | ((conv=>whnf);refine CA (k+1) ⟨ω,bH u (xE c G (by rw[b];grind))⟩ ω ?_;(exact wB))
      |(exfalso;omega)
  ·have j:gl (IntKind.i64.wrap (h.Next - 1)) h i=false:=by simpa using c
   have a:=j;unfold gl at a;rw[P3]at a
   repeat'(first|refine gD ?_|(conv=>whnf);first|with_reducible (first|refine C9 (aa y) ?_|refine Bf.D (λd=>?_) (λd=>?_))|refine CI ω (aa (fg ω e)) ?_|refine C5 (aD _ _ _) ?_|refine CH rfl ?_)
   all_goals first
    | exact Q0 (λz=>[B z]) ((ig e (Ei j)).symm)
    |(exfalso;omega)
 ·obtain rfl:i=h.Objs.length:=ω
  repeat'(first|refine gD ?_|fail)
  exact Q0 (λz=>[B z]) ((show true=eK h from u.symm))
theorem nv(o a:bG):ao Tryz.prog 169 false [.val (some 4) (bG.enc .imm o),.ptr (bG.enc .imm a)] .one [B (jz a.Id o)]:=by
 refine fO 9 [] Tryz.func169 rfl ?_
 repeat'(first|refine gO ?_|fail)
 exact Q0 (λz=>[B z]) ((by unfold jz;rw[Q3];simp))
theorem AM(h:ac)(n:dc h.Spans)(o:dm h.Larges)(J:h.Objs.length<=1048576)(K:h.Caches.length<=1048576):ao Tryz.prog 73 false [.val (some 24) (ac.enc .imm h)] .one [B (eK h)]:=by
 refine fO 105 [(4,33,[16,17,18,19,20,21,22,23,24,25,26,27,28,29,30,31,32,33,34,35,36,37,38,39,40,41,42,43,44,45,46,47,48]),(9,16,[62,63,64,65,66,67,68,69,70,71,72,73,74,75,76,77]),(10,15,[78,79,80,81,82,83,84,85,86,87,88,89,90,91,92])] Tryz.func73 rfl ?_
 repeat'(first|refine gO ?_|fail)
 (conv=>whnf)
 refine CB (ι:=Nat) (λi=>[(1,.hold .box (ac.enc .imm h)),(9,.hold .one (mN .imm h.Objs)),(10,.hold .one [I (h.Objs.length)]),(11,.hold .one [I ((i:Nat):Int)])]) (λi=>i<=h.Objs.length/\cw i (objAt (IntKind.i64.wrap (h.Next - 1)) h)=true) (λi=>h.Objs.length - i) 0 ?_ ⟨P0 _,rfl⟩ λi F=>?_
 ·exact wB
 obtain⟨F,G⟩:=F;by_cases g:i<h.Objs.length
 ·have p:=ah g
  have H:=pH h.Spans h.Larges (nth h.Objs i).Addr n o;obtain⟨q,t⟩:=lv h.Spans h.Larges (nth h.Objs i).Addr;have b:=xM h (nth h.Objs i) _ rfl;generalize denotes h.Spans h.Larges (nth h.Objs i).Addr=w at H q t b;have j:=qM (h.Objs.take i) (jz (nth h.Objs i).Id) (by rw[Z0];omega);by_cases c:gl (IntKind.i64.wrap (h.Next - 1)) h i=true
  ·have a:=c
   unfold gl at a;rw[C0]at a;cases d:(h.Objs.take i).any (jz (nth h.Objs i).Id)<;>rw[d]at j
   ·repeat'(first|refine gD ?_|(conv=>whnf);first|with_reducible (first|refine C9 (aa p) ?_|refine Bf.D (λe=>?_) (λe=>?_)|refine Bf.E (λe=>?_) (λe=>?_)|refine Bf.N (λe=>?_) (λe=>?_))|refine CI ω (aa (fg ω g)) ?_|refine C5 (aI _ _ _) ?_|refine CR i rfl (by simp;omega) (λr u=>by obtain⟨z,-,rfl⟩:=C3.1 u;rfl) (v3 ..) ?_|refine Cq.mk (zX (some 4) (bG.enc .imm) (jz (nth h.Objs i).Id) (h.Objs.take i)) (nv default (nth h.Objs i)).has (λL k rcs C=>by obtain⟨y,-,rfl,rfl,rfl⟩:=C;exact nv y (nth h.Objs i)) ?_|refine C5 j ?_|refine C5 H ?_|refine CI (q (by assumption)).1 (aa (ah (q (by assumption)).2)) ?_|refine CI (t (by assumption)).1 (aa (ah (t (by assumption)).2)) ?_|refine C5 (yq _) ?_|refine CH rfl ?_)
    all_goals first
     | exact Q0 (λz=>[B z]) ((ig g (Ej (by rw[b];grind))).symm)
     | ((conv=>whnf);refine CA (i+1) ⟨ω,bH G (xE c d (by rw[b];grind))⟩ ω ?_;(exact wB))
     |(exfalso;omega)
   ·repeat'(first|refine gD ?_|(conv=>whnf);first|with_reducible (first|refine C9 (aa p) ?_|refine Bf.D (λe=>?_) (λe=>?_))|refine CI ω (aa (fg ω g)) ?_|refine C5 (aI _ _ _) ?_|refine CR i rfl (by simp;omega) (λr u=>by obtain⟨z,-,rfl⟩:=C3.1 u;rfl) (v3 ..) ?_|refine Cq.mk (zX (some 4) (bG.enc .imm) (jz (nth h.Objs i).Id) (h.Objs.take i)) (nv default (nth h.Objs i)).has (λL k rcs C=>by obtain⟨y,-,rfl,rfl,rfl⟩:=C;exact nv y (nth h.Objs i)) ?_|refine C5 j ?_|refine CH rfl ?_)
    all_goals first
     | exact Q0 (λz=>[B z]) ((ig g (EN d)).symm)
     |(exfalso;omega)
  ·have l:gl (IntKind.i64.wrap (h.Next - 1)) h i=false:=by simpa using c
   have a:=l;unfold gl at a;rw[P3]at a
   repeat'(first|refine gD ?_|(conv=>whnf);first|with_reducible (first|refine C9 (aa p) ?_|refine Bf.D (λe=>?_) (λe=>?_))|refine CI ω (aa (fg ω g)) ?_|refine C5 (aI _ _ _) ?_|refine CH rfl ?_)
   all_goals first
    | exact Q0 (λz=>[B z]) ((ig g (Ei l)).symm)
    |(exfalso;omega)
 ·obtain rfl:i=h.Objs.length:=ω
  repeat'(first|refine gD ?_|fail)
  exact Q0 (λz=>[B z]) ((show true=eK h from G.symm))
set_option maxHeartbeats 8000000
theorem Gx{sp:List au}{la:List a8}{n:Nat}(h:iQ sp la n=true):jN sp la (n+1)=jN sp la n++[(n:Int)]:=by
 unfold jN;rw[List.range_succ,List.filter_append,t4];simp[h]
theorem Jd{sp:List au}{la:List a8}{n:Nat}(h:iQ sp la n=false):jN sp la (n+1)=jN sp la n:=by
 unfold jN;rw[List.range_succ,List.filter_append,t4];simp[h]
theorem xK(sp:List au)(la:List a8)(n:Nat):(jN sp la n).length<=n:=by
 unfold jN;rw[T0];exact R3 (List.length_filter_le ..) (by simp)
theorem ql{sp:List au}{la:List a8}{n:Nat}{w:ip}(a:denotes sp la (n:Nat)=w):iQ sp la n=(decide (w.Offset=0)&&(decide (w.Kind=1) || decide (w.Kind=3))):=by
 unfold iQ;rw[a]
theorem K5{n:Nat}(h:n<=1048576):kX (n:Nat):=⟨ω,ω⟩
theorem vf(sp:List au)(la:List a8)(c:dc sp)(d:dm la)(a:bi sp la=true):ao Tryz.prog 278 false [.val none (bX .imm sp),.val none (bV .imm la)] .one (aF .own (gQ sp la)):=by
 have g:=kA sp la c d;rw[a]at g;refine fO 40 [] Tryz.func278 rfl ?_ (.inr (bM _))
 repeat'(first|refine gO ?_|fail)
 (conv=>whnf)
 refine CB (ι:=Nat) (λn=>[(0,.hold .one (bX .imm sp)),(1,.hold .one (bV .imm la)),(5,.hold .one (aF .own (jN sp la n))),(6,.hold .one [I ((n:Nat):Int)])]) (λn=>n<=512) (λn=>512 - n) (0) ?_ (P0 _) λn o=>?_
 ·exact wB
 have i:=xK sp la n;by_cases p:n<512
 ·have h:=lR sp la (n:Nat) c d a (K5 ω)
  generalize j:denotes sp la (n:Nat)=w at h;have e:=ql j
  repeat'(first|refine gD ?_|(conv=>whnf);first|with_reducible refine Bf.E (λk=>?_) (λk=>?_)|refine C5 g ?_|refine C5 h ?_|refine CO cv (λr l=>by rw[W0.1 l];rfl) (by simp[aU,dx]) (by simp;omega) (by simp only[T0];exact vL (by simp;omega) (by decide)) rfl ?_)
  all_goals first
   |(have b:iQ sp la n=true:=by rw[e];grind
     (conv=>whnf)
     refine CA (n+1) ω ω ?_;rw[Gx b]
     (repeat'(first|exact trivial|rfl|exact CG rfl (CG (Q0 (C.s du.own) (by simp[rI])) trivial)|refine CG ?_ ?_)))
   |(have b:iQ sp la n=false:=by rw[e];grind
     (conv=>whnf)
     refine CA (n+1) ω ω ?_;rw[Jd b]
     (exact wA))
 ·obtain rfl:n=512:=ω
  repeat'(first|refine gD ?_|(conv=>whnf);first|refine C5 g ?_)
  rfl
theorem up(m:aJ)(a:m.Inbox.length=m.Buffers.length):∀i,i<=m.Buffers.length->(((flight1 m i).length+(flight2 m i).length:Nat):Int)=bm m i
 | 0,_=>rfl
 | i+1,h=>by
  have d:=up m a i ω;have b:=ah (xs:=m.Buffers) (i:=i) ω;have c:=ah (xs:=m.Inbox) (i:=i) ω;rw[lC b,lg c];simp only[I2,T0];show _=bm m i+((nth m.Buffers i).length+(nth m.Inbox i).length);omega
theorem pV{m:aJ}(h:b9 m=true):(aL m).length<=30:=by
 have a:=lI h;have b:=up m a.2.2 m.Buffers.length (Z1 _);have c:bm m m.Buffers.length<=30:=by
  unfold b9 at h;simp only[I0,C0]at h;exact h.2
 rw[mM h,I2,a.2.2];omega
theorem zQ{m:aJ}(d:aJ.wf m):∀a∈aL m,kX a:=by
 intro a b;unfold aL at b;split at b
 ·rcases W1.1 b with h|h
  ·obtain⟨l,c,h⟩:=List.mem_flatMap.1 h
   obtain⟨p,e,rfl⟩:=C3.1 h;exact((d.1.2 l c).2 p e).2
  ·obtain⟨l,c,h⟩:=List.mem_flatten.1 h
   exact(d.2.2 l c).2 a h
 ·cases b
theorem Gv{h:ac}(h1:h.Caches.all (dM h)=false):hB h=false:=by unfold hB gm;rw[h1];rfl
theorem Fj{h:ac}(h1:h.Quar.Lst.all (gd h)=false):hB h=false:=by unfold hB gm;rw[h1];simp
theorem FY{h:ac}(h1:(aL h.Mail).all (iY h)=false):hB h=false:=by unfold hB gm;rw[h1];simp
theorem FA{h:ac}{i:Nat}(a:i<(holders h).length)(b:nth (holders h) i∈(holders h).take i):hB h=false:=by
 have c:decide (holders h).Nodup=false:=Jx (S:=(holders h).take i) (p:=nth (holders h) i) (by
   have:=ah a;have e:(holders h).take i++[nth (holders h) i]=(holders h).take (i+1):=by rw[Y3,this];rfl
   rw[e];exact List.take_prefix ..) b
 unfold hB;rw[c];simp
theorem rQ{h:ac}{i:Nat}{c:aB}(a:h.Caches[i]? = some c):((h.Caches.take (i+1)).flatMap λc=>c.Lists.flatten)=((h.Caches.take i).flatMap λc=>c.Lists.flatten)++c.Lists.flatten:=by
 rw[Y3,a,List.flatMap_append];simp
theorem vc{c:aB}{k:Nat}{l:List Int}(a:c.Lists[k]? = some l):(c.Lists.take (k+1)).flatten=(c.Lists.take k).flatten++l:=by
 rw[Y3,a,List.flatten_append];simp
theorem BV(h:ac)(hs:ac.sml h)(hw:ac.wf h)(y:bi h.Spans h.Larges=true)(G:b9 h.Mail=true)(hco:∀c∈h.Caches,bq c=true):ao Tryz.prog 210 false [.val (some 24) (ac.enc .imm h)] .one [B (hB h)]:=by
 obtain⟨-,-,N,O,hso,hsc,hsm,hsq,-⟩:=hs;obtain⟨-,-,-,-,-,hwc,hwm,hwq,-⟩:=hw;have hlo:h.Objs.length<=1048576:=hso.1;have hlc:h.Caches.length<=1048576:=hsc.1;have hlq:h.Quar.Lst.length<=1048576:=hsq.1;have hfl:=pV G;have hfw:=zQ hwm;have H:∀a c,kX a->ao Tryz.prog 276 false [.val (some 24) (ac.enc .imm h),.val none [I a],.val none [I c]] .one [B (cS h a c)]:=λa c ha=>Dm h a c N O y ha
 refine fO 159 [(16,8,[63,64,65,66,67,68,69,70]),(22,17,[86,87,88,89,90,91,92,93,94,95,96,97,98,99,100,101,102]),(29,7,[122,123,124,125,126,127,128]),(35,8,[142,143,144,145,146,147,148,149])] Tryz.func210 rfl ?_
 repeat'(first|refine gO ?_|fail)
 (conv=>whnf)
 refine CB (ι:=Nat × List Int) (λi=>[(1,.hold .box (ac.enc .imm h)),(3,.hold .one (aF .own i.2)),(4,.hold .one [I ((i.1:Nat):Int)])]) (λi=>i.1<=h.Objs.length/\i.2=(h.Objs.take i.1).map (·.Addr)) (λi=>h.Objs.length - i.1) ((0,[])) ?_ (⟨P0 _,rfl⟩) λi E=>?_
 ·exact wB
 obtain⟨i,S⟩:=i;obtain⟨E,M⟩:=E;simp only at E M |-;have hSl:S.length=i:=by rw[M,T0,Z0];omega
 by_cases li:i<h.Objs.length
 ·have t:=ah li
  repeat'(first|refine gD ?_|(conv=>whnf);first|with_reducible refine C9 (aa t) ?_|refine CO cv (λr u=>by rw[W0.1 u];rfl) (by simp[aU,dx]) (by simp;omega) (by simp only[T0];exact vL (by simp;omega) (by decide)) rfl ?_)
  ((conv=>whnf)
   refine CA (i+1,S++[(nth h.Objs i).Addr]) ⟨(by simp only;omega),(by simp only;rw[M,Y3,t];simp)⟩ (by simp only;omega) ?_
   (repeat'(first|exact trivial|rfl|exact CG rfl (CG (Q0 (C.s du.own) (by simp[rI])) trivial)|refine CG ?_ ?_)))
 obtain rfl:i=h.Objs.length:=ω
 rw[U3]at M
 repeat'(first|refine gD ?_|fail)
 (conv=>whnf)
 refine CB (ι:=Nat × List Int) (λi=>[(1,.hold .box (ac.enc .imm h)),(3,.hold .one (aF .own i.2)),(5,.hold .one [I ((i.1:Nat):Int)])]) (λi=>i.1<=h.Caches.length/\i.2=S++((h.Caches.take i.1).flatMap λc=>c.Lists.flatten)/\(h.Caches.take i.1).all (dM h)=true/\i.2.length<=1048576+32*i.1) (λi=>h.Caches.length - i.1) ((0,S)) ?_ (⟨P0 _,by simp,rfl,by simp only;omega⟩) λi E=>?_
 ·exact wB
 obtain⟨i,S2⟩:=i;obtain⟨hi2,n,U,P⟩:=E;simp only at hi2 n U P |-;by_cases li2:i<h.Caches.length
 ·have t:=ah li2
  obtain⟨h4,h8⟩:=rV (hco _ (am li2));have hwl:=hwc.2 _ (am li2)
  repeat'(first|refine gD ?_|(conv=>whnf);first|with_reducible refine C9 (aa t) ?_)
  (conv=>whnf)
  refine CB (ι:=Nat × List Int) (λk=>[(1,.hold .box (ac.enc .imm h)),(3,.hold .one (aF .own k.2)),(5,.hold .one [I ((i:Nat):Int)]),(6,.hold .one [I ((k.1:Nat):Int)])]) (λk=>k.1<=(nth h.Caches i).Lists.length/\k.2=S2++((nth h.Caches i).Lists.take k.1).flatten/\cw k.1 (pz h (nth h.Caches i))=true/\k.2.length<=S2.length+8*k.1) (λk=>(nth h.Caches i).Lists.length - k.1) ((0,S2)) ?_ (⟨P0 _,by simp,rfl,by simp⟩) λk hk=>?_
  ·exact wB
  obtain⟨k,V⟩:=k;obtain⟨hk,w,ak,hb3⟩:=hk;simp only at hk w ak hb3 |-;by_cases W:k<(nth h.Caches i).Lists.length
  ·have hy:=ah W
   have hl8:=h8 _ (am W);have hwa:=(hwl.2 _ (am W)).2
   repeat'(first|refine gD ?_|(conv=>whnf);first|with_reducible (first|refine C9 (aa t) ?_|refine C9 (aa hy) ?_))
   (conv=>whnf)
   refine CB (ι:=Nat × List Int) (λj=>[(1,.hold .box (ac.enc .imm h)),(3,.hold .one (aF .own j.2)),(5,.hold .one [I ((i:Nat):Int)]),(6,.hold .one [I ((k:Nat):Int)]),(7,.hold .one (aF .imm (nth (nth h.Caches i).Lists k))),(8,.hold .one [I ((j.1:Nat):Int)])]) (λj=>j.1<=(nth (nth h.Caches i).Lists k).length/\j.2=V++(nth (nth h.Caches i).Lists k).take j.1/\((nth (nth h.Caches i).Lists k).take j.1).all (λa=>cS h a (k:Nat))=true) (λj=>(nth (nth h.Caches i).Lists k).length - j.1) ((0,V)) ?_ (⟨P0 _,by simp,rfl⟩) λj hj=>?_
   ·exact wB
   obtain⟨j,S4⟩:=j;obtain⟨hj,o,X⟩:=hj;simp only at hj o X |-;have hl4:S4.length=V.length+j:=by rw[o,I2,Z0];omega
   by_cases Y:j<(nth (nth h.Caches i).Lists k).length
   ·have d:=ah Y
    have b:=H (nth (nth (nth h.Caches i).Lists k) j) (k:Nat) (hwa _ (am Y));cases p:cS h (nth (nth (nth h.Caches i).Lists k) j) (k:Nat)<;>rw[p]at b
    ·repeat'(first|refine gD ?_|(conv=>whnf);first|with_reducible refine C9 (aa d) ?_|refine C5 b ?_)
     exact Q0 (λz=>[B z]) ((Gv (dJ t (by unfold dM;exact bW W (dJ d p)))).symm)
    ·repeat'(first|refine gD ?_|(conv=>whnf);first|with_reducible refine C9 (aa d) ?_|refine C5 b ?_|refine CO cv (λr u=>by rw[W0.1 u];rfl) (by simp[aU,dx]) (by simp;omega) (by show _*8<=_;simp;omega) rfl ?_)
     ((conv=>whnf)
      refine CA (j+1,S4++[nth (nth (nth h.Caches i).Lists k) j]) ⟨(by simp only;omega),(by simp only;rw[o,Y3,d,Z3];rfl),cm d X p⟩ (by simp only;omega) ?_
      (repeat'(first|exact trivial|rfl|exact CG rfl (CG (Q0 (C.s du.own) (by simp[rI])) trivial)|refine CG ?_ ?_)))
   ·obtain rfl:j=(nth (nth h.Caches i).Lists k).length:=ω
    rw[U3]at o X
    repeat'(first|refine gD ?_|fail)
    ((conv=>whnf);refine CA (k+1,S4) ⟨(by simp only;omega),(by simp only;rw[o,w,vc hy,Z3]),bH ak X,(by simp only;omega)⟩ (by simp only;omega) ?_;(exact wB))
  ·obtain rfl:k=(nth h.Caches i).Lists.length:=ω
   rw[U3]at w
   repeat'(first|refine gD ?_|(conv=>whnf);first|with_reducible refine C9 (aa t) ?_)
   ((conv=>whnf);refine CA (i+1,V) ⟨(by simp only;omega),(by simp only;rw[w,n,rQ t,Z3]),cm t U ak,(by simp only;omega)⟩ (by simp only;omega) ?_;(exact wB))
 obtain rfl:i=h.Caches.length:=ω
 rw[U3]at n U
 repeat'(first|refine gD ?_|fail)
 (conv=>whnf)
 refine CB (ι:=Nat × List Int) (λq=>[(1,.hold .box (ac.enc .imm h)),(3,.hold .one (aF .own q.2)),(9,.hold .one [I ((q.1:Nat):Int)])]) (λq=>q.1<=h.Quar.Lst.length/\q.2=S2++(h.Quar.Lst.take q.1).map (·.Addr)/\(h.Quar.Lst.take q.1).all (gd h)=true) (λq=>h.Quar.Lst.length - q.1) ((0,S2)) ?_ (⟨P0 _,by simp,rfl⟩) λq Q=>?_
 ·exact wB
 obtain⟨q,R⟩:=q;obtain⟨J,g,Z⟩:=Q;simp only at J g Z |-;have hl5:R.length=S2.length+q:=by rw[g,I2,T0,Z0];omega
 by_cases T:q<h.Quar.Lst.length
 ·have d:=ah T
  have b:=H (nth h.Quar.Lst q).Addr (nth h.Quar.Lst q).Class (hwq.2.2 _ (am T)).1;cases p:cS h (nth h.Quar.Lst q).Addr (nth h.Quar.Lst q).Class<;>rw[p]at b
  ·repeat'(first|refine gD ?_|(conv=>whnf);first|with_reducible refine C9 (aa d) ?_|refine C5 b ?_)
   exact Q0 (λz=>[B z]) ((Fj (dJ d p)).symm)
  ·repeat'(first|refine gD ?_|(conv=>whnf);first|with_reducible refine C9 (aa d) ?_|refine C5 b ?_|refine CO cv (λr u=>by rw[W0.1 u];rfl) (by simp[aU,dx]) (by simp;omega) (by show _*8<=_;simp;omega) rfl ?_)
   ((conv=>whnf)
    refine CA (q+1,R++[(nth h.Quar.Lst q).Addr]) ⟨(by simp only;omega),(by simp only;rw[g,Y3,d,t4,Z3];rfl),cm d Z p⟩ (by simp only;omega) ?_
    (repeat'(first|exact trivial|rfl|exact CG rfl (CG (Q0 (C.s du.own) (by simp[rI])) trivial)|refine CG ?_ ?_)))
 obtain rfl:q=h.Quar.Lst.length:=ω
 rw[U3]at g Z
 repeat'(first|refine gD ?_|(conv=>whnf);first|refine C5 (wD h.Mail hsm) ?_)
 (conv=>whnf)
 refine CB (ι:=Nat × List Int) (λq=>[(1,.hold .box (ac.enc .imm h)),(3,.hold .one (aF .own q.2)),(10,.hold .one (aF .own (aL h.Mail))),(11,.hold .one [I ((q.1:Nat):Int)])]) (λq=>q.1<=(aL h.Mail).length/\q.2=R++(aL h.Mail).take q.1/\((aL h.Mail).take q.1).all (iY h)=true) (λq=>(aL h.Mail).length - q.1) ((0,R)) ?_ (⟨P0 _,by simp,rfl⟩) λq Q=>?_
 ·exact wB
 obtain⟨q,e⟩:=q;obtain⟨J,l,aq6⟩:=Q;simp only at J l aq6 |-;have hl6:e.length=R.length+q:=by rw[l,I2,Z0];omega
 by_cases T:q<(aL h.Mail).length
 ·have d:=ah T
  have b:=H (nth (aL h.Mail) q) (-1) (hfw _ (am T));cases p:cS h (nth (aL h.Mail) q) (-1)<;>rw[p]at b
  ·repeat'(first|refine gD ?_|(conv=>whnf);first|with_reducible refine C9 (aa d) ?_|refine CE rfl (aa d) rfl ?_|refine C5 b ?_)
   exact Q0 (λz=>[B z]) ((FY (dJ d p)).symm)
  ·repeat'(first|refine gD ?_|(conv=>whnf);first|with_reducible refine C9 (aa d) ?_|refine CE rfl (aa d) rfl ?_|refine C5 b ?_|refine CO cv (λr u=>by rw[W0.1 u];rfl) (by simp[aU,dx]) (by simp;omega) (by show _*8<=_;simp;omega) rfl ?_)
   ((conv=>whnf)
    refine CA (q+1,e++[nth (aL h.Mail) q]) ⟨(by simp only;omega),(by simp only;rw[l,Y3,d,Z3];rfl),cm d aq6 p⟩ (by simp only;omega) ?_
    (repeat'(first|exact trivial|rfl|exact CG rfl (CG (Q0 (C.s du.own) (by simp[rI])) trivial)|refine CG ?_ ?_)))
 obtain rfl:q=(aL h.Mail).length:=ω
 rw[U3]at l aq6;have F:e=holders h:=by rw[l,g,n,M];rfl
 have K:gm h=true:=by unfold gm;rw[U,Z,aq6];rfl
 have hbig:e.length<=100000000:=ω
 clear l g n M hSl hl5 P hl6
 repeat'(first|refine gD ?_|fail)
 (conv=>whnf)
 refine Lp.fz 3 (ι:=Nat) (λi=>[(1,.hold .box (ac.enc .imm h)),(3,.hold .one (aF .imm e)),(12,.hold .one [I ((i:Nat):Int)])]) (λi=>i<=e.length/\(e.take i).Nodup) (λi=>e.length - i) 0 ?_ ⟨P0 _,by simp⟩ λi E=>?_
 ·(repeat'(first|exact trivial|rfl|exact CG rfl (show HZ (d5 (aF .own e)) (aF .imm e) by rw[dz];exact kS _)|refine CG ?_ ?_))
 obtain⟨E,L⟩:=E;by_cases Y:i<e.length
 ·have d:=ah Y
  have htl:(e.take i).length=i:=by rw[Z0];omega
  repeat'(first|refine gD ?_|(conv=>whnf);first|with_reducible (first|refine C9 (aa d) ?_|refine Bf.D (λQ=>?_) (λQ=>?_))|refine CR i rfl (by simp;omega) (λr u=>by obtain⟨z,-,rfl⟩:=C3.1 u;rfl) (v3 ..) ?_|refine C5 (kO (e.take i) _ ω) ?_)
  all_goals first
   | exact Q0 (λz=>[B z]) ((by rw[F]at *;exact(FA (by assumption) (by assumption)).symm))
   | ((conv=>whnf);refine CA (i+1) ⟨ω,by rw[Y3,d];exact jB L (by assumption)⟩ ω ?_;(exact wB))
 ·obtain rfl:i=e.length:=ω
  rw[U3]at L;have hlv:=xK h.Spans h.Larges 512
  repeat'(first|refine gD ?_|(conv=>whnf);first|refine C5 (vf h.Spans h.Larges N O y) ?_)
  exact Q0 (λz=>[B z]) ((by unfold hB;rw[K,<-F,N0 L,Bool.true_and,Bool.true_and];rw[Q3,beq_iff_eq,C0];unfold gQ at *;omega))
set_option maxHeartbeats 8000000
def cX(h:ac):Bool:=(b9 h.Mail&&decide (h.Caches.length=h.Mail.Buffers.length))&&eX h.Quar
def gh(h:ac):Bool:=((((((lL h&&r6 h)&&cX h)&&kg h)&&h.Caches.all bq)&&ca h)&&(eK h&&hB h))&&r9 h
theorem Ar(h:ac)(hs:ac.sml h)(hw:ac.wf h):ao Tryz.prog 125 false [.val (some 24) (ac.enc .imm h)] .one [B (gh h)]:=by
 have R:=hs;have S:=hw;obtain⟨w,y,b,l,T,C,E,F,G⟩:=hs;obtain⟨-,-,-,-,U,hwc,hwm,hwq,-⟩:=hw;have n:sI h:=w.1.2;have hpn:dG h<=1048576:=n.1;have V:h.Objs.length<=1048576:=T.1;have W:h.Caches.length<=1048576:=C.1;have hlq:h.Quar.Lst.length<=1048576:=F.1;have hlb:h.Mail.Buffers.length<=1048576:=E.1.1;have d:=kz h.Kernel w;have e:=kr (dG h) h.Free ⟨ω,ω⟩ y;have g:=kA h.Spans h.Larges b l;have r:=zn h b n;have H:=jY h.Mail E;have X:=na h.Quar F;cases Y:aA h.Kernel<;>rw[Y]at d
 ·refine fO 150 [(8,10,[67,68,69,70,71,72,73,74,75,76])] Tryz.func125 rfl ?_
  repeat'(first|refine gO ?_|(conv=>whnf);first|with_reducible refine Bf.N (λa=>?_) (λa=>?_)|refine C5 d ?_)
  all_goals first
   | exact Q0 (λz=>[B z]) ((by unfold gh lL;rw[Y];simp))
   |(exfalso;omega)
 cases Z:bw (dG h) h.Free<;>rw[Z]at e
 ·refine fO 150 [(8,10,[67,68,69,70,71,72,73,74,75,76])] Tryz.func125 rfl ?_
  repeat'(first|refine gO ?_|(conv=>whnf);first|with_reducible refine Bf.N (λa=>?_) (λa=>?_)|refine C5 d ?_|refine C5 e ?_)
  all_goals first
   | exact Q0 (λz=>[B z]) ((by unfold gh lL;rw[Z];simp))
   |(exfalso;omega)
 cases u:bi h.Spans h.Larges<;>rw[u]at g
 ·refine fO 150 [(8,10,[67,68,69,70,71,72,73,74,75,76])] Tryz.func125 rfl ?_
  repeat'(first|refine gO ?_|(conv=>whnf);first|with_reducible refine Bf.N (λa=>?_) (λa=>?_)|refine C5 d ?_|refine C5 e ?_|refine C5 g ?_)
  all_goals first
   | exact Q0 (λz=>[B z]) ((by unfold gh lL;rw[u];simp))
   |(exfalso;omega)
 have p:=Ag h b l n y u;cases e4:pages0 h<;>rw[e4]at p
 ·refine fO 150 [(8,10,[67,68,69,70,71,72,73,74,75,76])] Tryz.func125 rfl ?_
  repeat'(first|refine gO ?_|(conv=>whnf);first|with_reducible refine Bf.N (λa=>?_) (λa=>?_)|refine C5 d ?_|refine C5 e ?_|refine C5 g ?_|refine C5 p ?_)
  all_goals first
   | exact Q0 (λz=>[B z]) ((by unfold gh lL;rw[e4];simp))
   |(exfalso;omega)
 cases e5:r6 h<;>rw[e5]at r
 ·refine fO 150 [(8,10,[67,68,69,70,71,72,73,74,75,76])] Tryz.func125 rfl ?_
  repeat'(first|refine gO ?_|(conv=>whnf);first|with_reducible refine Bf.N (λa=>?_) (λa=>?_)|refine C5 d ?_|refine C5 e ?_|refine C5 g ?_|refine C5 p ?_|refine C5 r ?_)
  all_goals first
   | exact Q0 (λz=>[B z]) ((by unfold gh ;rw[e5];simp))
   |(exfalso;omega)
 cases Q:b9 h.Mail<;>rw[Q]at H
 ·refine fO 150 [(8,10,[67,68,69,70,71,72,73,74,75,76])] Tryz.func125 rfl ?_
  repeat'(first|refine gO ?_|(conv=>whnf);first|with_reducible refine Bf.N (λa=>?_) (λa=>?_)|refine C5 d ?_|refine C5 e ?_|refine C5 g ?_|refine C5 p ?_|refine C5 r ?_|refine C5 H ?_)
  all_goals first
   | exact Q0 (λz=>[B z]) ((by unfold gh cX;rw[Q];simp))
   |(exfalso;omega)
 by_cases J:h.Caches.length=h.Mail.Buffers.length;rotate_left
 ·refine fO 150 [(8,10,[67,68,69,70,71,72,73,74,75,76])] Tryz.func125 rfl ?_
  repeat'(first|refine gO ?_|(conv=>whnf);first|with_reducible refine Bf.N (λa=>?_) (λa=>?_)|refine C5 d ?_|refine C5 e ?_|refine C5 g ?_|refine C5 p ?_|refine C5 r ?_|refine C5 H ?_)
  all_goals first
   | exact Q0 (λz=>[B z]) ((by unfold gh cX;rw[O0 J];simp))
   |(exfalso;omega)
 cases e7:eX h.Quar<;>rw[e7]at X
 ·refine fO 150 [(8,10,[67,68,69,70,71,72,73,74,75,76])] Tryz.func125 rfl ?_
  repeat'(first|refine gO ?_|(conv=>whnf);first|with_reducible refine Bf.N (λa=>?_) (λa=>?_)|refine C5 d ?_|refine C5 e ?_|refine C5 g ?_|refine C5 p ?_|refine C5 r ?_|refine C5 H ?_|refine C5 X ?_)
  all_goals first
   | exact Q0 (λz=>[B z]) ((by unfold gh cX;rw[e7];simp))
   |(exfalso;omega)
 have K:lL h=true:=by unfold lL;rw[Y,Z,u,e4];rfl
 have hmc:cX h=true:=by unfold cX;rw[Q,N0 J,e7];rfl
 refine fO 150 [(8,10,[67,68,69,70,71,72,73,74,75,76])] Tryz.func125 rfl ?_
 repeat'(first|refine gA ?_|(conv=>whnf);first|with_reducible refine Bf.N (λa=>?_) (λa=>?_)|refine C5 d ?_|refine C5 e ?_|refine C5 g ?_|refine C5 p ?_|refine C5 r ?_|refine C5 H ?_|refine C5 X ?_)
 all_goals try(exfalso;omega)
 (conv=>whnf)
 refine CB (ι:=Nat) (λi=>[(1,.hold .box (ac.enc .imm h)),(3,.hold .one [I ((i:Nat):Int)])]) (λi=>i<=h.Quar.Lst.length/\(h.Quar.Lst.take i).all (λx=>decide (x.Since<=h.Clock))=true) (λi=>h.Quar.Lst.length - i) (0) ?_ (⟨P0 _,rfl⟩) λi hi=>?_
 ·exact wB
 obtain⟨hi,ai⟩:=hi;by_cases li:i<h.Quar.Lst.length
 ·have j:=ah li
  repeat'(first|refine gD ?_|(conv=>whnf);first|with_reducible (first|refine C9 (aa j) ?_|refine Bf.D (λa=>?_) (λa=>?_)))
  all_goals first
   | exact Q0 (λz=>[B z]) ((by unfold gh kg;rw[dJ j (O0 ω)];simp))
   | ((conv=>whnf);refine CA (i+1) ⟨ω,cm j ai (N0 ω)⟩ ω ?_;(exact wB))
 have hsi:kg h=true:=fS ω ai
 repeat'(first|refine gD ?_|fail)
 (conv=>whnf)
 refine CB (ι:=Nat) (λk=>[(1,.hold .box (ac.enc .imm h)),(4,.hold .one [I ((k:Nat):Int)])]) (λk=>k<=h.Caches.length/\(h.Caches.take k).all bq=true) (λk=>h.Caches.length - k) (0) ?_ (⟨P0 _,rfl⟩) λk hk=>?_
 ·exact wB
 obtain⟨hk,ak⟩:=hk;by_cases lk:k<h.Caches.length
 ·have j:=ah lk
  have c8:=lZ (nth h.Caches k) (C.2 _ (am lk));cases e8:bq (nth h.Caches k)<;>rw[e8]at c8
  ·repeat'(first|refine gD ?_|(conv=>whnf);first|with_reducible refine C9 (aa j) ?_|refine C5 c8 ?_)
   exact Q0 (λz=>[B z]) ((by unfold gh;rw[dJ j e8];simp))
  ·repeat'(first|refine gD ?_|(conv=>whnf);first|with_reducible refine C9 (aa j) ?_|refine C5 c8 ?_)
   ((conv=>whnf);refine CA (k+1) ⟨ω,cm j ak e8⟩ ω ?_;(exact wB))
 have L:h.Caches.all bq=true:=fS ω ak;have q:=DR h b l u V W (λo ho=>(U.2 o ho).2.1);have c10:=BV h R S u Q (X2.1 L);have c11:=FL h.Job G;have c12:=tz h.Job G;have c13:=iJ h h.Job.Plan.Keep b.1;have c14:=iJ h h.Job.Plan.Move b.1;by_cases hn:ca h=true;rotate_left
 ·have M:ca h=false:=by simpa using hn
  have c:=M;unfold ca at c;rw[P3]at c;cases O:eK h<;>rw[O]at q<;>cases e10:hB h<;>rw[e10]at c10
  all_goals
   repeat'(first|refine gD ?_|(conv=>whnf);first|with_reducible refine Bf.D (λa=>?_) (λa=>?_)|refine C5 (aD _ _ _) ?_|refine C5 q ?_|refine C5 c10 ?_)
   all_goals first
    | exact Q0 (λz=>[B z]) ((by unfold gh;rw[M];simp))
    |(exfalso;omega)
 have c:=hn;unfold ca at c;rw[C0]at c;cases O:eK h<;>rw[O]at q
 ·repeat'(first|refine gD ?_|(conv=>whnf);first|with_reducible refine Bf.D (λa=>?_) (λa=>?_)|refine C5 (aD _ _ _) ?_|refine C5 q ?_)
  all_goals first
   | exact Q0 (λz=>[B z]) ((by unfold gh;rw[O];simp))
   |(exfalso;omega)
 cases e10:hB h<;>rw[e10]at c10
 ·repeat'(first|refine gD ?_|(conv=>whnf);first|with_reducible refine Bf.D (λa=>?_) (λa=>?_)|refine C5 (aD _ _ _) ?_|refine C5 q ?_|refine C5 c10 ?_)
  all_goals first
   | exact Q0 (λz=>[B z]) ((by unfold gh;rw[e10];simp))
   |(exfalso;omega)
 have P:gh h=r9 h:=by unfold gh;rw[K,e5,hmc,hsi,L,hn,O,e10];rfl
 rw[P];unfold r9;cases em:h.Meshing
 ·repeat'(first|refine gD ?_|(conv=>whnf);first|with_reducible refine Bf.D (λa=>?_) (λa=>?_)|refine C5 (aD _ _ _) ?_|refine C5 q ?_|refine C5 c10 ?_|refine C5 c11 ?_|refine Bf.f em ?_)
  all_goals first
   |rfl
   | exact Q0 (λz=>[B z]) ((by simp;done))
   |(exfalso;omega)
 ·cases e12:iB h.Job<;>rw[e12]at c12
  all_goals
   repeat'(first|refine gD ?_|(conv=>whnf);first|with_reducible (first|refine Bf.D (λa=>?_) (λa=>?_)|refine Bf.D (λa=>?_) (λa=>?_))|refine C5 (aD _ _ _) ?_|refine C5 q ?_|refine C5 c10 ?_|refine C5 c12 ?_|refine C5 c13 ?_|refine C5 c14 ?_|refine Bf.t em ?_)
   all_goals first
    | exact Q0 (λz=>[B z]) ((by grind))
    |(exfalso;omega)
set_option maxHeartbeats 4000000
def sorted(xs:List Int):List Int:=xs.mergeSort λx y=>decide (x<=y)
theorem uE(xs:List Int):(sorted xs).length=xs.length:=List.length_mergeSort ..
theorem Du{w a:World}{g n:Nat}{d:Array Int}{f:Array Obj}{c:Array Value}{e:TypeId}{k:Nat × Nat}(l:w.heap[g]? = some (.cells c e k))(p:a=Sort.grow (Sort.putRow (Value.int .i64) (Sort.ahead w n) g 0 d) f) :
  a.os=w.os/\a.tape=w.tape/\a.output=w.output/\w.heap.size<=a.heap.size/\(∀b,b<w.heap.size->b≠g->a.heap[b]? = w.heap[b]?)/\a.heap[g]? = some (.cells (Sort.putCells (Value.int .i64) 0 d c) e k):=by
 subst p;have h:g<w.heap.size:=(O2.1 l).1;have o:∀b,b<w.heap.size->(Sort.grow (Sort.putRow (Value.int .i64) (Sort.ahead w n) g 0 d) f).heap[b]? = if g=b then(w.heap[b]?).map (Sort.onCells (Sort.putCells (Value.int .i64) 0 d)) else w.heap[b]?:=λb i=>by
  rw[Sort.heap_grow_old _ _ (by simpa[Sort.putRow,Sort.mapBlock,Sort.ahead] using i)];show(w.heap.modify g _)[b]? = _;rw[Array.getElem?_modify]
 refine⟨rfl,rfl,rfl,?_,λb i j=>?_,?_⟩
 ·show w.heap.size<=((w.heap.modify g _)++f).size
  simp
 ·rw[o b i,C6 λe=>j e.symm]
 ·rw[o g h,C7 rfl,l];rfl
theorem Ke(d:Array Int)(c:Array Value)(q:Nat):(Sort.putCells (Value.int .i64) 0 d c)[q]? = if q<d.size then(c[q]?).map (λ_=>.int .i64 d[q]!) else c[q]?:=by
 unfold Sort.putCells;rw[Array.getElem?_mapIdx];by_cases h:q<d.size
 ·rw[C7 h]
  cases c[q]? with
  | none=>rfl
  | some y=>simp[h]
 ·rw[C6 h]
  cases c[q]? with
  | none=>rfl
  | some y=>simp[h]
theorem row1{w:World}{S Y:ab}{c:C}{v:Value}(h:dL w S Y c v):cG w S Y [c] (λ_=>v):=by
 refine⟨λ_=>Y,λj e a=>?_,λ_ _ _ _ h=>h,λj f a b d=>?_⟩
 ·cases j with
  | zero=>simp at a;subst a;exact h
  | succ j=>simp at a
 ·simp at a b;omega
def Ni(Y:ab):Nat->ab
 | 0=>Y
 | _+1=>NO
theorem Af(xs:List Int){j:Nat}(a:j<xs.length):xs.toArray[j]! = xs[j]:=by
 rw[getElem!_pos xs.toArray j (by simpa using a)];simp
theorem JU(xs:List Int)(hl:xs.length<=1048576*64):aQ Tryz.prog 175 false [.mut none (aF .own xs)] [.mut none (aF .own (sorted xs))] (.tup []) []:=by
 refine⟨⟨_,Tryz.func175,by kernel_rfl,by kernel_rfl⟩,λw S V vs hS hV hVV hA=>?_⟩
 match vs,hA with
 | [v],⟨hA,_⟩=>
  have E:=bN.rep1 (show bN w S (V 0) none [C.s .own (xs.map (rI .own))] v from hA);generalize D:C.s .own (xs.map (rI .own))=cc at E;cases E with
  | nil _ o a ho=>
   cases R:xs with
   | cons x xs'=>rw[R]at D;cases D
   | nil=>
    refine(Tryz.slices_Sort_int_none a 0 w).mono λe d ⟨he,G⟩=>?_
    subst G;refine⟨.tuple #[],he,CS _ _,NO,λ_=>NO,NO,λ_ _ h=>h.elim,λ_ _ _ h=>h.elim,λ_ _ h=>h.elim,λ_ _ _ _ _ h=>h.elim,λ_ _ _ h=>h.elim,λ_ _ h=>h.elim,λ_ _ _ h=>h.elim,⟨#[],rfl,trivial,rfl⟩,cG.nil _ _ _ _,⟨⟨rfl,λ_=>.slice a 0 0,rfl,row1 (by rw[show sorted []=[] from List.mergeSort_nil ..];exact .nil _ .own _ trivial)⟩,trivial⟩⟩
  | own _ o g k n H rows u f ho O hk T U W hu hf hd hc=>
   cases D;have hnx:n=xs.length:=by rw[<-O,T0]
   have X:0<xs.length:=ω
   have hk1:k=1:=by
    have:=hk (rI .own xs[0]) (C3.2 ⟨_,List.getElem_mem X,rfl⟩);exact this.symm
   subst hk1 hnx;have t:∀j (y:j<xs.length),cel w g j=some (.int .i64 xs[j]):=λj y=>by
    have J:=hu j ω;have Y:=hc j 0 (rI .own xs[j]) (I xs[j]) (by rw[C2,O1 y];rfl) rfl;rw[Nat.mul_one,Nat.add_zero]at Y;rw[J];generalize u j=z at Y;cases Y
    rfl
   have hgs:g<w.heap.size:=(hV 0 g 0 (W 0 ω).1).1;obtain⟨c,e0,fr,hg,-⟩:=Sort.cells_of_cell? (t 0 X);have hH:Sort.Holds (Value.int .i64) w g 0 xs.toArray:=λj y=>by
    have Z:j<xs.length:=by simpa using y
    refine⟨?_,?_⟩
    ·rw[Af xs Z,U4];exact t j Z
    ·rw[U4];exact Q0 Prod.fst (W j ω).2.2
   refine(Tryz.slices_Sort_int g 0 H xs w hH hgs ω).mono λe d ⟨he,m,os,G⟩=>?_
   obtain⟨q1,q2,q3,q4,q5,q6⟩:=Du hg G;have hsl:=uE xs;have B:∀q,cel w g q=c[q]?:=λq=>by show World.cell? w _=_;unfold World.cell?;simp[hg]
   have l:∀q,cel d g q=if q<xs.length then(c[q]?).map (λ_=>.int .i64 (sorted xs).toArray[q]!) else c[q]?:=λq=>by
    have J:=Ke (sorted xs).toArray c q;have Y:(sorted xs).toArray.size=xs.length:=by simpa using hsl
    rw[Y]at J;rw[<-J];show World.cell? d _=_;unfold World.cell?;simp[q6,sorted]
   have p:∀q (P:q<xs.length),cel d g q=some (.int .i64 ((sorted xs)[q]'(ω))):=λq P=>by
    have J:=t q P;rw[B]at J;rw[l,C7 P,J,V3,Af (sorted xs) ω]
   have F:∀q,fro d g q=fro w g q:=λq=>by
    refine Prod.ext ?_ ?_
    ·show World.frozen? d _=World.frozen? w _
     unfold World.frozen?;simp[q6,hg]
    ·show mp d g=mp w g
     unfold mp;rw[q6,hg]
   have hother:∀b,b<w.heap.size->b≠g->∀o,cel d b o=cel w b o/\fro d b o=fro w b o:=λb K L o=>by
    have M:=q5 b K L;refine⟨?_,Prod.ext ?_ ?_⟩
    ·show World.cell? d _=World.cell? w _
     unfold World.cell?;simp only[M]
    ·show World.frozen? d _=World.frozen? w _
     unfold World.frozen?;simp only[M]
    ·show mp d b=mp w b
     unfold mp;rw[M]
   have N:bE (λb o=>∃i,V i b o) w d:=by
    refine⟨q1,q2,q3,q4,λb K O=>q5 b K λe=>?_,λb o K O=>?_,λb o K O=>?_⟩
    ·subst e;exact O 0 ⟨0,(W 0 ω).1⟩
    ·by_cases e:b=g
     ·subst e
      have ho:¬o<xs.length:=λh=>O ⟨0,(W o ω).1⟩
      rw[l,C6 ho,B]
     ·exact(hother b K e o).1
    ·by_cases e:b=g
     ·subst e;exact F o
     ·exact(hother b K e o).2
   refine⟨.tuple #[],he,N,NO,Ni (V 0),NO,λ_ _ h=>h.elim,λi b o h=>?_,λ_ _ h=>h.elim,λi i' L b o h h'=>?_,λ_ _ _ h=>h.elim,λ_ _ h=>h.elim,λ_ _ _ _ h=>h.elim,⟨#[],rfl,trivial,rfl⟩,cG.nil _ _ _ _,⟨⟨rfl,λ_=>.slice (some ⟨g,0,none⟩) xs.length H,rfl,row1 ?_⟩,trivial⟩⟩
   ·cases i with
    | zero=>exact .inl ⟨0,h⟩
    | succ i=>exact h.elim
   ·cases i with
    | zero=>
     cases i' with
     | zero=>exact L rfl
     | succ i'=>exact h'.elim
    | succ i=>exact h.elim
   ·show dL d _ (V 0) _ _
    refine .own _ .own g 1 xs.length H _ (λq=>(cel d g q).getD undef) (λ_=>NO) trivial (by rw[T0,hsl]) (λr hr=>by obtain⟨z,-,rfl⟩:=C3.1 hr;rfl) T U (λq P=>?_) (λq P=>?_) (λ_ _ _ _ h=>h.elim) (λ_ _ _ _ _ _ _ h=>h.elim) (λi j r c2 Q y=>?_)
    ·obtain⟨a1,⟨z,a2,a3⟩,a4⟩:=W q P
     refine⟨a1,?_,(F q).trans a4⟩;by_cases hqx:q<xs.length
     ·exact⟨_,p q hqx,rfl⟩
     ·rw[l,C6 hqx,<-B];exact⟨z,a2,a3⟩
    ·rw[p q ω];rfl
    ·rw[C2]at Q
     have hil:i<(sorted xs).length:=by
      rcases Nat.lt_or_ge i (sorted xs).length with h|h
      ·exact h
      ·rw[Q1 h]at Q;cases Q
     rw[O1 hil]at Q;simp only[V3,R0]at Q;subst Q
     match j,y with
     | 0,y=>
      simp only[rI,List.getElem?_cons_zero,R0]at y;subst y;simp only[Nat.mul_one,Nat.add_zero,p i ω,Option.getD_some];exact .v _ _ rfl
     | j+1,y=>simp[rI]at y
  | _=>cases D
set_option maxHeartbeats 8000000
def jC(s:au)(k:Nat):Int:=16*s.Page+(k:Nat)*csz s.Class
def d4(s:au)(n:Nat):List Int:=((List.range n).filter λk=>aW s.Bits (k:Nat)).map (jC s)
theorem yK{s:au}{n:Nat}(h:aW s.Bits (n:Nat)=true):d4 s (n+1)=d4 s n++[jC s n]:=by
 unfold d4;rw[List.range_succ,List.filter_append,t4];simp[h]
theorem Ac{s:au}{n:Nat}(h:aW s.Bits (n:Nat)=false):d4 s (n+1)=d4 s n:=by
 unfold d4;rw[List.range_succ,List.filter_append,t4];simp[h]
theorem qg(s:au)(n:Nat):(d4 s n).length<=n:=by
 unfold d4;rw[T0];exact R3 (List.length_filter_le ..) (by simp)
def ek(sp:List au):List Int:=sp.flatMap λs=>d4 s (slots s.Class).toNat
def live0(sp:List au)(la:List a8):List Int:=ek sp++la.map λl=>16*l.Page
def mh(sp:List au)(la:List a8):List Int:=sorted (live0 sp la)
theorem pC(k:Int):0<=slots k/\slots k<=16:=by
 unfold slots;(repeat' split)<;>decide
theorem xO{k:Int}(h:0<=k/\k<=3):slots k*csz k=16:=by
 obtain rfl|rfl|rfl|rfl:k=0\/k=1\/k=2\/k=3:=ω
 all_goals decide
theorem uQ{sp:List au}{i:Nat}{s:au}(h:sp[i]? = some s):ek (sp.take (i+1))=ek (sp.take i)++d4 s (slots s.Class).toNat:=by
 unfold ek;rw[Y3,h,List.flatMap_append];simp
theorem wx(s:au)(k:Nat)(a:aX s=true)(i:(k:Int)<slots s.Class):ao Tryz.prog 174 false [.val (some 3) (au.enc .imm s),.val none [I (k:Nat)]] .one [I (jC s k)]:=by
 have b:=iz s;have c:=ee s.Class;have g:=gU s.Class;rw[a]at b;have d:=aE a;have j:=pC s.Class;rcases ce ⟨d.2.2.1,d.2.2.2⟩ with e|e|e|e<;>rw[e]at c
 all_goals
  refine fO 26 [(3,9,[17,18,19,20,21,22,23,24,25])] Tryz.func174 rfl ?_
  repeat'(first|refine gD ?_|(conv=>whnf);first|with_reducible refine Bf.D (λh=>?_) (λh=>?_)|refine C5 b ?_|refine C5 c ?_|refine C5 g ?_|refine C5 (aI _ 0 _) ?_)
  all_goals exact Q0 (λz=>[I z]) (by unfold jC;rw[e];omega)
theorem tB(sp:List au)(la:List a8)(d:dc sp)(e:dm la)(b:bi sp la=true):ao Tryz.prog 79 false [.val none (bX .imm sp),.val none (bV .imm la)] .one (aF .own (mh sp la)):=by
 have E:=d.1;have F:=e.1;have D:=nZ sp la d e;rw[b]at D;obtain⟨p,G,-⟩:=cT b;refine fP 56 [(175,[1])] [] Tryz.func79 rfl ?_ (.inr (bM _))
 repeat'(first|refine gO ?_|(conv=>whnf);first|refine C5 D ?_)
 (conv=>whnf)
 refine CB (ι:=Nat × List Int) (λi=>[(1,.hold .one (bV .imm la)),(5,.hold .one (aF .own i.2)),(16,.hold .one (bX .imm sp)),(17,.hold .one [I (sp.length)]),(18,.hold .one [I ((i.1:Nat):Int)])]) (λi=>i.1<=sp.length/\i.2=ek (sp.take i.1)/\i.2.length<=16*i.1) (λi=>sp.length - i.1) ((0,[])) ?_ (⟨P0 _,rfl,P0 _⟩) λi g=>?_
 ·exact wB
 obtain⟨i,S⟩:=i;obtain⟨g,n,H⟩:=g;simp only at g n H |-;by_cases o:i<sp.length
 ·have c:=ah o
  have h:aX (nth sp i)=true:=Kv p o;have J:=pC (nth sp i).Class;have q:=ep h
  repeat'(first|refine gD ?_|(conv=>whnf);first|with_reducible refine C9 (aa c) ?_)
  (conv=>whnf)
  refine CB (ι:=Nat × List Int) (λk=>[(1,.hold .one (bV .imm la)),(5,.hold .one (aF .own k.2)),(7,.hold .box (au.enc .imm (nth sp i))),(8,.hold .one [I ((k.1:Nat):Int)]),(16,.hold .one (bX .imm sp)),(17,.hold .one [I (sp.length)]),(18,.hold .one [I ((i:Nat):Int)])]) (λk=>k.1<=(slots (nth sp i).Class).toNat/\k.2=S++d4 (nth sp i) k.1) (λk=>(slots (nth sp i).Class).toNat - k.1) ((0,S)) ?_ (⟨P0 _,by simp[d4]⟩) λk t=>?_
  ·exact wB
  obtain⟨k,S2⟩:=k;obtain⟨t,a⟩:=t;simp only at t a |-;have K:=qg (nth sp i) k;have j:S2.length=S.length+(d4 (nth sp i) k).length:=by rw[a,I2]
  by_cases M:k<(slots (nth sp i).Class).toNat
  ·have u:=pX (nth sp i).Bits (k:Nat) q.2
   cases w:aW (nth sp i).Bits (k:Nat)<;>rw[w]at u
   ·repeat'(first|refine gD ?_|(conv=>whnf);first|refine C5 (gU _) ?_|refine C5 u ?_)
    ((conv=>whnf);refine CA (k+1,S2) ⟨(by simp only;omega),(by simp only;rw[Ac w];exact a)⟩ (by simp only;omega) ?_;(exact wB))
   ·repeat'(first|refine gD ?_|(conv=>whnf);first|refine C5 (gU _) ?_|refine C5 u ?_|refine C5 (wx (nth sp i) k h ω) ?_|refine CO cv (λr y=>by rw[W0.1 y];rfl) (by simp[aU,dx]) (by simp;omega) (by show _*8<=_;simp;omega) rfl ?_)
    ((conv=>whnf)
     refine CA (k+1,S2++[jC (nth sp i) k]) ⟨(by simp only;omega),(by simp only;rw[yK w,a,Z3])⟩ (by simp only;omega) ?_
     (repeat'(first|exact trivial|rfl|exact CG rfl (CG (Q0 (C.s du.own) (by simp[rI])) trivial)|refine CG ?_ ?_)))
  ·obtain rfl:k=(slots (nth sp i).Class).toNat:=ω
   repeat'(first|refine gD ?_|(conv=>whnf);first|refine C5 (gU _) ?_)
   ((conv=>whnf);refine CA (i+1,S2) ⟨(by simp only;omega),(by simp only;rw[uQ c,<-n,a]),(by simp only;omega)⟩ (by simp only;omega) ?_;(exact wB))
 obtain rfl:i=sp.length:=ω
 rw[U3]at n
 repeat'(first|refine gD ?_|fail)
 (conv=>whnf)
 refine CB (ι:=Nat × List Int) (λi=>[(5,.hold .one (aF .own i.2)),(40,.hold .one (bV .imm la)),(41,.hold .one [I (la.length)]),(42,.hold .one [I ((i.1:Nat):Int)])]) (λi=>i.1<=la.length/\i.2=S++(la.take i.1).map (λl=>16*l.Page)) (λi=>la.length - i.1) ((0,S)) ?_ (⟨P0 _,by simp⟩) λi g=>?_
 ·exact wB
 obtain⟨i,S2⟩:=i;obtain⟨B,a⟩:=g;simp only at B a |-;have j:S2.length=S.length+i:=by rw[a,I2,T0,Z0];omega
 by_cases o:i<la.length
 ·have c:=ah o
  have L:=qQ b c
  repeat'(first|refine gD ?_|(conv=>whnf);first|with_reducible refine C9 (aa c) ?_|refine CO cv (λr y=>by rw[W0.1 y];rfl) (by simp[aU,dx]) (by simp;omega) (by show _*8<=_;simp;omega) rfl ?_)
  ((conv=>whnf)
   refine CA (i+1,S2++[16*(nth la i).Page]) ⟨(by simp only;omega),(by simp only;rw[a,Y3,c];simp)⟩ (by simp only;omega) ?_
   (repeat'(first|exact trivial|rfl|exact CG rfl (CG (Q0 (C.s du.own) (by simp[rI];omega)) trivial)|refine CG ?_ ?_)))
 obtain rfl:i=la.length:=ω
 rw[U3]at a
 repeat'(first|refine gD ?_|(conv=>whnf);first|refine CF (JU S2 ω) (.inl rfl) ?_)
 show _=aF .own (sorted (ek sp++la.map λl=>16*l.Page));rw[<-n,<-a];rfl
def oq(b:List (Int × Value))(L:List Int):Prop:=∀a,mlook b a (.int .i64 0)=.int .i64 (L.count a:Nat)
theorem Gh(f:List (Int × Value))(a b:Int)(v d:Value):mlook (mput f a v) b d=if a=b then v else mlook f b d:=by
 induction f with
 | nil=>simp only[mput,mlook]
 | cons p f g=>
  simp only[mput];by_cases h:p.1=a
  ·rw[C7 h]
   simp only[mlook];by_cases c:a=b
   ·rw[C7 c,C7 c]
   ·rw[C6 c,C6 c,C6 (by rw[h];exact c)]
  ·rw[C6 h]
   simp only[mlook];by_cases c:p.1=b
   ·rw[C7 c,C7 c,C6 (λe=>h (c.trans e.symm))]
   ·rw[C6 c,C6 c,g]
def inc(b:List (Int × Value))(L:List Int)(a:Int):List (Int × Value):=mput b a (.int .i64 ((L.count a:Nat)+1))
theorem FP:oq [] []:=λ_=>rfl
theorem nt{d:List (Int × Value)}{L:List Int}(h:oq d L)(a:Int):oq (inc d L a) (L++[a]):=λb=>by
 unfold inc;rw[Gh,C4];by_cases c:a=b
 ·subst c;rw[C7 rfl,List.count_singleton_self];simp
 ·rw[C6 c,h b,List.count_singleton,C6 (by simpa using c)];rfl
theorem yH(h:ac)(d:dc h.Spans)(e:dm h.Larges)(b:List (Int × Value))(L:List Int)(a c:Int)(g:oq b L)(n:L.length<=1000000000) :
  aQ Tryz.prog 170 false [.val none [I a],.val none [I c],.ptr [.m b],.ptr (ac.enc .imm h)] [.val none [I a],.val none [I c],.ptr [.m (inc b L a)],.ptr (ac.enc .imm h)] .one [B (cS h a c)]:=by
 have k:=pH h.Spans h.Larges a d e;obtain⟨i,-⟩:=lv h.Spans h.Larges a;have l:L.count a<=L.length:=List.count_le_length;unfold cS;generalize denotes h.Spans h.Larges a=w at k i |-;refine fM 41 [] [] [(0,0),(0,0),(0,0),(0,0)] Tryz.func170 rfl (λu q=>?_)
 repeat'(first|refine gO ?_|(conv=>whnf);first|with_reducible (first|refine Bf.D (λj=>?_) (λj=>?_)|refine Bf.E (λj=>?_) (λj=>?_))|refine Ml.mk (g a) ?_|refine Mu.mk (es':=inc b L a) rfl ?_|refine C5 k ?_|refine CI (i (by assumption)).1 (aa (ah (i (by assumption)).2)) ?_)
 all_goals
  refine CC rfl ?_ ?_
  ·exact Q0 (λz=>[B z]) ((by grind))
  ·exact wB
set_option maxHeartbeats 8000000
def po(h:ac)(a:aM):Bool:=gd h a&&decide (a.Since<=h.Clock)
def kK(h:ac):List Int:=((bY h++h.Quar.Lst.map (·.Addr))++aL h.Mail)++h.Objs.map (·.Addr)
def iI(h:ac):Bool:=((h.Caches.all (dM h)&&h.Quar.Lst.all (po h))&&(aL h.Mail).all (iY h))&&(mh h.Spans h.Larges).all λa=>decide ((kK h).count a=1)
theorem JY{h:ac}(h1:h.Caches.all (dM h)=false):iI h=false:=by unfold iI;rw[h1];rfl
theorem ES{h:ac}(h1:h.Quar.Lst.all (po h)=false):iI h=false:=by unfold iI;rw[h1];simp
theorem JZ{h:ac}(h1:(aL h.Mail).all (iY h)=false):iI h=false:=by unfold iI;rw[h1];simp
theorem JV{h:ac}(h1:((mh h.Spans h.Larges).all λa=>decide ((kK h).count a=1))=false):iI h=false:=by unfold iI;rw[h1];simp
theorem FS{sp:List au}{la:List a8}(h1:sp.length<=1048576)(b:la.length<=1048576):(mh sp la).length<=100000000:=by
 have a:∀(l:List au),(ek l).length<=16*l.length:=by
  intro l
  induction l with
  | nil=>exact P0 _
  | cons s l c=>
   have e:ek (s::l)=d4 s (slots s.Class).toNat++ek l:=by unfold ek;rw[R4]
   have d:=pC s.Class;have f:=qg s (slots s.Class).toNat;rw[e,I2,List.length_cons];omega
 have g:=a sp;unfold mh live0;rw[uE,I2,T0];omega
theorem uS(h:ac)(hs:ac.sml h)(S:bi h.Spans h.Larges=true)(M:b9 h.Mail=true)(hco:∀c∈h.Caches,bq c=true):ao Tryz.prog 74 false [.val (some 24) (ac.enc .imm h)] .one [B (iI h)]:=by
 obtain⟨-,-,t,u,hso,hsc,hsm,hsq,-⟩:=hs;have hlo:h.Objs.length<=1048576:=hso.1;have hlc:h.Caches.length<=1048576:=hsc.1;have hlq:h.Quar.Lst.length<=1048576:=hsq.1;have hfl:=pV M;have w:iI h=false->[B false]=[B (iI h)]:=λe=>by rw[e]
 refine fP 114 [(170,[0,0,2,2])] [] Tryz.func74 rfl ?_
 repeat'(first|refine gO ?_|fail)
 (conv=>whnf)
 refine CB (ι:=Nat × List (Int × Value) × List Int) (λi=>[(1,.hold .box (ac.enc .imm h)),(3,.hold .box [.m i.2.1]),(4,.fn 170 [3,1]),(22,.hold .one (pI .imm h.Caches)),(23,.hold .one [I (h.Caches.length)]),(24,.hold .one [I ((i.1:Nat):Int)])]) (λi=>i.1<=h.Caches.length/\oq i.2.1 i.2.2/\i.2.2=((h.Caches.take i.1).flatMap λc=>c.Lists.flatten)/\(h.Caches.take i.1).all (dM h)=true/\i.2.2.length<=32*i.1) (λi=>h.Caches.length - i.1) ((0,[],[])) ?_ (⟨P0 _,FP,rfl,rfl,P0 _⟩) λi hi=>?_
 ·exact wB
 obtain⟨i,es,L⟩:=i;obtain⟨hi,O,X,Y,hb⟩:=hi;simp only at hi O X Y hb |-;by_cases li:i<h.Caches.length
 ·have T:=ah li
  obtain⟨h4,h8⟩:=rV (hco _ (am li))
  repeat'(first|refine gD ?_|(conv=>whnf);first|with_reducible refine C9 (aa T) ?_)
  (conv=>whnf)
  refine CB (ι:=Nat × List (Int × Value) × List Int) (λk=>[(1,.hold .box (ac.enc .imm h)),(3,.hold .box [.m k.2.1]),(4,.fn 170 [3,1]),(22,.hold .one (pI .imm h.Caches)),(23,.hold .one [I (h.Caches.length)]),(24,.hold .one [I ((i:Nat):Int)]),(29,.hold .one (k7 .imm (nth h.Caches i).Lists)),(30,.hold .one [I ((nth h.Caches i).Lists.length)]),(31,.hold .one [I ((k.1:Nat):Int)])]) (λk=>k.1<=(nth h.Caches i).Lists.length/\oq k.2.1 k.2.2/\k.2.2=L++((nth h.Caches i).Lists.take k.1).flatten/\cw k.1 (pz h (nth h.Caches i))=true/\k.2.2.length<=L.length+8*k.1) (λk=>(nth h.Caches i).Lists.length - k.1) ((0,es,L)) ?_ (⟨P0 _,O,by simp,rfl,by simp⟩) λk hk=>?_
  ·exact wB
  obtain⟨k,es3,Z⟩:=k;obtain⟨hk,y,K,ak,hb3⟩:=hk;simp only at hk y K ak hb3 |-;by_cases lk:k<(nth h.Caches i).Lists.length
  ·have hy:=ah lk
   have hl8:=h8 _ (am lk)
   repeat'(first|refine gD ?_|(conv=>whnf);first|with_reducible (first|refine C9 (aa T) ?_|refine C9 (aa hy) ?_))
   (conv=>whnf)
   refine CB (ι:=Nat × List (Int × Value) × List Int) (λj=>[(1,.hold .box (ac.enc .imm h)),(3,.hold .box [.m j.2.1]),(4,.fn 170 [3,1]),(7,.hold .one [I ((k:Nat):Int)]),(22,.hold .one (pI .imm h.Caches)),(23,.hold .one [I (h.Caches.length)]),(24,.hold .one [I ((i:Nat):Int)]),(29,.hold .one (k7 .imm (nth h.Caches i).Lists)),(30,.hold .one [I ((nth h.Caches i).Lists.length)]),(31,.hold .one [I ((k:Nat):Int)]),(36,.hold .one (aF .imm (nth (nth h.Caches i).Lists k))),(37,.hold .one [I ((nth (nth h.Caches i).Lists k).length)]),(38,.hold .one [I ((j.1:Nat):Int)])]) (λj=>j.1<=(nth (nth h.Caches i).Lists k).length/\oq j.2.1 j.2.2/\j.2.2=Z++(nth (nth h.Caches i).Lists k).take j.1/\((nth (nth h.Caches i).Lists k).take j.1).all (λa=>cS h a (k:Nat))=true) (λj=>(nth (nth h.Caches i).Lists k).length - j.1) ((0,es3,Z)) ?_ (⟨P0 _,y,by simp,rfl⟩) λj hj=>?_
   ·exact wB
   obtain⟨j,es4,U⟩:=j;obtain⟨hj,l,C,aj⟩:=hj;simp only at hj l C aj |-;have hl4:U.length=Z.length+j:=by rw[C,I2,Z0];omega
   by_cases lj:j<(nth (nth h.Caches i).Lists k).length
   ·have d:=ah lj
    have b:=yH h t u es4 U (nth (nth (nth h.Caches i).Lists k) j) (k:Nat) l ω;cases r:cS h (nth (nth (nth h.Caches i).Lists k) j) (k:Nat)<;>rw[r]at b
    ·repeat'(first|refine gD ?_|(conv=>whnf);first|with_reducible refine C9 (aa d) ?_|refine CF (b) (.inl rfl) ?_)
     exact w (JY (dJ T (by unfold dM;exact bW lk (dJ d r))))
    ·repeat'(first|refine gD ?_|(conv=>whnf);first|with_reducible refine C9 (aa d) ?_|refine CF (b) (.inl rfl) ?_)
     ((conv=>whnf)
      refine CA (j+1,inc es4 U (nth (nth (nth h.Caches i).Lists k) j),U++[nth (nth (nth h.Caches i).Lists k) j]) ⟨(by simp only;omega),nt l _,(by simp only;rw[C,Y3,d,Z3];rfl),cm d aj r⟩ (by simp only;omega) ?_
      (exact wA))
   ·obtain rfl:j=(nth (nth h.Caches i).Lists k).length:=ω
    rw[U3]at C aj
    repeat'(first|refine gD ?_|fail)
    ((conv=>whnf);refine CA (k+1,es4,U) ⟨(by simp only;omega),l,(by simp only;rw[C,K,vc hy,Z3]),bH ak aj,(by simp only;omega)⟩ (by simp only;omega) ?_;(exact wB))
  ·obtain rfl:k=(nth h.Caches i).Lists.length:=ω
   rw[U3]at K
   repeat'(first|refine gD ?_|fail)
   ((conv=>whnf);refine CA (i+1,es3,Z) ⟨(by simp only;omega),y,(by simp only;rw[K,X,rQ T]),cm T Y ak,(by simp only;omega)⟩ (by simp only;omega) ?_;(exact wB))
 obtain rfl:i=h.Caches.length:=ω
 rw[U3]at X Y
 repeat'(first|refine gD ?_|fail)
 (conv=>whnf)
 refine CB (ι:=Nat × List (Int × Value) × List Int) (λq=>[(1,.hold .box (ac.enc .imm h)),(3,.hold .box [.m q.2.1]),(4,.fn 170 [3,1]),(52,.hold .one (cu .imm h.Quar.Lst)),(53,.hold .one [I (h.Quar.Lst.length)]),(54,.hold .one [I ((q.1:Nat):Int)])]) (λq=>q.1<=h.Quar.Lst.length/\oq q.2.1 q.2.2/\q.2.2=L++(h.Quar.Lst.take q.1).map (·.Addr)/\(h.Quar.Lst.take q.1).all (po h)=true) (λq=>h.Quar.Lst.length - q.1) ((0,es,L)) ?_ (⟨P0 _,O,by simp,rfl⟩) λq E=>?_
 ·exact wB
 obtain⟨q,es5,P⟩:=q;obtain⟨F,o,G,aq⟩:=E;simp only at F o G aq |-;have hl5:P.length=L.length+q:=by rw[G,I2,T0,Z0];omega
 by_cases V:q<h.Quar.Lst.length
 ·have d:=ah V
  have b:=yH h t u es5 P (nth h.Quar.Lst q).Addr (nth h.Quar.Lst q).Class o ω;cases r:cS h (nth h.Quar.Lst q).Addr (nth h.Quar.Lst q).Class<;>rw[r]at b
  ·repeat'(first|refine gD ?_|(conv=>whnf);first|with_reducible (first|refine C9 (aa d) ?_|refine Bf.D (λE=>?_) (λE=>?_))|refine CF (b) (.inl rfl) ?_)
   all_goals exact w (ES (dJ d (by unfold po gd;rw[r];rfl)))
  ·repeat'(first|refine gD ?_|(conv=>whnf);first|with_reducible (first|refine C9 (aa d) ?_|refine Bf.D (λE=>?_) (λE=>?_))|refine CF (b) (.inl rfl) ?_)
   all_goals first
    |exact w (ES (dJ d (by unfold po gd;rw[r,O0 ω];rfl)))
    | ((conv=>whnf)
       refine CA (q+1,inc es5 P (nth h.Quar.Lst q).Addr,P++[(nth h.Quar.Lst q).Addr]) ⟨(by simp only;omega),nt o _,(by simp only;rw[G,Y3,d,t4,Z3];rfl),cm d aq (by unfold po gd;rw[r,N0 ω];rfl)⟩ (by simp only;omega) ?_
       (exact wA))
 obtain rfl:q=h.Quar.Lst.length:=ω
 rw[U3]at G aq
 repeat'(first|refine gD ?_|(conv=>whnf);first|refine C5 (wg h.Mail hsm) ?_)
 (conv=>whnf)
 refine CB (ι:=Nat × List (Int × Value) × List Int) (λq=>[(1,.hold .box (ac.enc .imm h)),(3,.hold .box [.m q.2.1]),(4,.fn 170 [3,1]),(75,.hold .one (aF .own (aL h.Mail))),(76,.hold .one [I ((aL h.Mail).length)]),(77,.hold .one [I ((q.1:Nat):Int)])]) (λq=>q.1<=(aL h.Mail).length/\oq q.2.1 q.2.2/\q.2.2=P++(aL h.Mail).take q.1/\((aL h.Mail).take q.1).all (iY h)=true) (λq=>(aL h.Mail).length - q.1) ((0,es5,P)) ?_ (⟨P0 _,o,by simp,rfl⟩) λq E=>?_
 ·exact wB
 obtain⟨q,es6,Q⟩:=q;obtain⟨F,p,H,aq6⟩:=E;simp only at F p H aq6 |-;have hl6:Q.length=P.length+q:=by rw[H,I2,Z0];omega
 by_cases V:q<(aL h.Mail).length
 ·have d:=ah V
  have b:=yH h t u es6 Q (nth (aL h.Mail) q) (-1) p ω;cases r:cS h (nth (aL h.Mail) q) (-1)<;>rw[r]at b
  ·repeat'(first|refine gD ?_|(conv=>whnf);first|with_reducible refine C9 (aa d) ?_|refine CE rfl (aa d) rfl ?_|refine CF (b) (.inl rfl) ?_)
   exact w (JZ (dJ d r))
  ·repeat'(first|refine gD ?_|(conv=>whnf);first|with_reducible refine C9 (aa d) ?_|refine CE rfl (aa d) rfl ?_|refine CF (b) (.inl rfl) ?_)
   ((conv=>whnf)
    refine CA (q+1,inc es6 Q (nth (aL h.Mail) q),Q++[nth (aL h.Mail) q]) ⟨(by simp only;omega),nt p _,(by simp only;rw[H,Y3,d,Z3];rfl),cm d aq6 r⟩ (by simp only;omega) ?_
    (exact wA))
 obtain rfl:q=(aL h.Mail).length:=ω
 rw[U3]at H aq6
 repeat'(first|refine gD ?_|fail)
 (conv=>whnf)
 refine CB (ι:=Nat × List (Int × Value) × List Int) (λq=>[(1,.hold .box (ac.enc .imm h)),(3,.hold .box [.m q.2.1]),(87,.hold .one (mN .imm h.Objs)),(88,.hold .one [I (h.Objs.length)]),(89,.hold .one [I ((q.1:Nat):Int)])]) (λq=>q.1<=h.Objs.length/\oq q.2.1 q.2.2/\q.2.2=Q++(h.Objs.take q.1).map (·.Addr)) (λq=>h.Objs.length - q.1) ((0,es6,Q)) ?_ (⟨P0 _,p,by simp⟩) λq E=>?_
 ·exact wB
 obtain⟨q,es7,R⟩:=q;obtain⟨F,g,J⟩:=E;simp only at F g J |-;have hl7:R.length=Q.length+q:=by rw[J,I2,T0,Z0];omega
 by_cases V:q<h.Objs.length
 ·have d:=ah V
  have hcl:R.count (nth h.Objs q).Addr<=R.length:=List.count_le_length
  repeat'(first|refine gD ?_|(conv=>whnf);first|with_reducible refine C9 (aa d) ?_|refine Ml.mk (g _) ?_|refine Mu.mk (es':=inc es7 R (nth h.Objs q).Addr) rfl ?_)
  ((conv=>whnf)
   refine CA (q+1,inc es7 R (nth h.Objs q).Addr,R++[(nth h.Objs q).Addr]) ⟨(by simp only;omega),nt g _,(by simp only;rw[J,Y3,d,t4,Z3];rfl)⟩ (by simp only;omega) ?_
   (exact wA))
 obtain rfl:q=h.Objs.length:=ω
 rw[U3]at J;have W:R=kK h:=by rw[J,H,G,X];rfl
 have hlv:=FS t.1 u.1
 repeat'(first|refine gD ?_|(conv=>whnf);first|refine C5 (tB h.Spans h.Larges t u S) ?_)
 (conv=>whnf)
 refine CB (ι:=Nat) (λn=>[(3,.hold .box [.m es7]),(103,.hold .one (aF .own (mh h.Spans h.Larges))),(104,.hold .one [I ((mh h.Spans h.Larges).length)]),(105,.hold .one [I ((n:Nat):Int)])]) (λn=>n<=(mh h.Spans h.Larges).length/\((mh h.Spans h.Larges).take n).all (λa=>decide ((kK h).count a=1))=true) (λn=>(mh h.Spans h.Larges).length - n) (0) ?_ (⟨P0 _,rfl⟩) λn hn=>?_
 ·exact wB
 obtain⟨hn,an⟩:=hn;by_cases ln:n<(mh h.Spans h.Larges).length
 ·have d:=ah ln
  rw[W]at g
  repeat'(first|refine gD ?_|(conv=>whnf);first|with_reducible (first|refine C9 (aa d) ?_|refine Bf.N (λE=>?_) (λE=>?_))|refine CE rfl (aa d) rfl ?_|refine Ml.mk (g _) ?_)
  all_goals first
   |exact w (JV (dJ d (O0 ω)))
   | ((conv=>whnf);refine CA (n+1) ⟨ω,cm d an (N0 ω)⟩ ω ?_;(exact wB))
 ·repeat'(first|refine gD ?_|fail)
  exact Q0 (λz=>[B z]) ((by unfold iI;rw[Y,aq,aq6,fS ω an];rfl))
set_option maxHeartbeats 8000000
def iT(h:ac):Bool:=(((((((aA h.Kernel&&bw (dG h) h.Free)&&bi h.Spans h.Larges)&&(pages0 h&&mg h))&&cX h)&&h.Caches.all bq)&&(eK h&&iI h))&&ca h)&&r9 h
theorem rC(h:ac)(hs:ac.sml h):ao Tryz.prog 20 false [.val (some 24) (ac.enc .imm h)] .one [B (iT h)]:=by
 have L:=hs;obtain⟨n,o,b,g,M,p,q,O,r⟩:=hs;have u:sI h:=n.1.2;have hpn:dG h<=1048576:=u.1;have P:h.Objs.length<=1048576:=M.1;have Q:h.Caches.length<=1048576:=p.1;have hlb:h.Mail.Buffers.length<=1048576:=q.1.1;have hlp:h.Job.Plan.Cells.length<=1048576:=r;have d:=oh h.Kernel n;have e:=wo (dG h) h.Free ⟨ω,ω⟩ o;have i:=nZ h.Spans h.Larges b g;have w:=r8 h.Mail q;have R:=BL h.Quar O;cases S:aA h.Kernel<;>rw[S]at d
 ·refine fO 154 [] Tryz.func20 rfl ?_
  repeat'(first|refine gO ?_|(conv=>whnf);first|with_reducible refine Bf.N (λa=>?_) (λa=>?_)|refine C5 d ?_)
  all_goals first
   | exact Q0 (λz=>[B z]) ((by unfold iT ;rw[S];simp))
   |(exfalso;omega)
 cases T:bw (dG h) h.Free<;>rw[T]at e
 ·refine fO 154 [] Tryz.func20 rfl ?_
  repeat'(first|refine gO ?_|(conv=>whnf);first|with_reducible refine Bf.N (λa=>?_) (λa=>?_)|refine C5 d ?_|refine C5 e ?_)
  all_goals first
   | exact Q0 (λz=>[B z]) ((by unfold iT ;rw[T];simp))
   |(exfalso;omega)
 cases y:bi h.Spans h.Larges<;>rw[y]at i
 ·refine fO 154 [] Tryz.func20 rfl ?_
  repeat'(first|refine gO ?_|(conv=>whnf);first|with_reducible refine Bf.N (λa=>?_) (λa=>?_)|refine C5 d ?_|refine C5 e ?_|refine C5 i ?_)
  all_goals first
   | exact Q0 (λz=>[B z]) ((by unfold iT ;rw[y];simp))
   |(exfalso;omega)
 have j:=yj h b g u o y;cases U:(pages0 h&&mg h)<;>rw[U]at j
 ·refine fO 154 [] Tryz.func20 rfl ?_
  repeat'(first|refine gO ?_|(conv=>whnf);first|with_reducible refine Bf.N (λa=>?_) (λa=>?_)|refine C5 d ?_|refine C5 e ?_|refine C5 i ?_|refine C5 j ?_)
  all_goals first
   | exact Q0 (λz=>[B z]) ((by unfold iT ;rw[U];simp))
   |(exfalso;omega)
 cases J:b9 h.Mail<;>rw[J]at w
 ·refine fO 154 [] Tryz.func20 rfl ?_
  repeat'(first|refine gO ?_|(conv=>whnf);first|with_reducible refine Bf.N (λa=>?_) (λa=>?_)|refine C5 d ?_|refine C5 e ?_|refine C5 i ?_|refine C5 j ?_|refine C5 w ?_)
  all_goals first
   | exact Q0 (λz=>[B z]) ((by unfold iT cX;rw[J];simp))
   |(exfalso;omega)
 by_cases C:h.Caches.length=h.Mail.Buffers.length;rotate_left
 ·refine fO 154 [] Tryz.func20 rfl ?_
  repeat'(first|refine gO ?_|(conv=>whnf);first|with_reducible refine Bf.N (λa=>?_) (λa=>?_)|refine C5 d ?_|refine C5 e ?_|refine C5 i ?_|refine C5 j ?_|refine C5 w ?_)
  all_goals first
   | exact Q0 (λz=>[B z]) ((by unfold iT cX;rw[O0 C];simp))
   |(exfalso;omega)
 cases V:eX h.Quar<;>rw[V]at R
 ·refine fO 154 [] Tryz.func20 rfl ?_
  repeat'(first|refine gO ?_|(conv=>whnf);first|with_reducible refine Bf.N (λa=>?_) (λa=>?_)|refine C5 d ?_|refine C5 e ?_|refine C5 i ?_|refine C5 j ?_|refine C5 w ?_|refine C5 R ?_)
  all_goals first
   | exact Q0 (λz=>[B z]) ((by unfold iT cX;rw[V];simp))
   |(exfalso;omega)
 have W:cX h=true:=by unfold cX;rw[J,N0 C,V];rfl
 refine fO 154 [] Tryz.func20 rfl ?_
 repeat'(first|refine gA ?_|(conv=>whnf);first|with_reducible refine Bf.N (λa=>?_) (λa=>?_)|refine C5 d ?_|refine C5 e ?_|refine C5 i ?_|refine C5 j ?_|refine C5 w ?_|refine C5 R ?_)
 all_goals try(exfalso;omega)
 (conv=>whnf)
 refine CB (ι:=Nat) (λk=>[(1,.hold .box (ac.enc .imm h)),(57,.hold .one (pI .imm h.Caches)),(58,.hold .one [I (h.Caches.length)]),(59,.hold .one [I ((k:Nat):Int)])]) (λk=>k<=h.Caches.length/\(h.Caches.take k).all bq=true) (λk=>h.Caches.length - k) (0) ?_ (⟨P0 _,rfl⟩) λk hk=>?_
 ·exact wB
 obtain⟨hk,ak⟩:=hk;by_cases lk:k<h.Caches.length
 ·have K:=ah lk
  have X:=zu (nth h.Caches k) (p.2 _ (am lk));cases Y:bq (nth h.Caches k)<;>rw[Y]at X
  ·repeat'(first|refine gD ?_|(conv=>whnf);first|with_reducible refine C9 (aa K) ?_|refine C5 X ?_)
   exact Q0 (λz=>[B z]) ((by unfold iT;rw[dJ K Y];simp))
  ·repeat'(first|refine gD ?_|(conv=>whnf);first|with_reducible refine C9 (aa K) ?_|refine C5 X ?_)
   ((conv=>whnf);refine CA (k+1) ⟨ω,cm K ak Y⟩ ω ?_;(exact wB))
 have F:h.Caches.all bq=true:=fS ω ak;have l:=AM h b g P Q;have c10:=uS h L y J (X2.1 F);have c12:=BR h.Job r;have c13:=nl h h.Job.Plan.Keep b.1;have c14:=nl h h.Job.Plan.Move b.1;cases Z:eK h<;>rw[Z]at l
 ·repeat'(first|refine gD ?_|(conv=>whnf);first|refine C5 l ?_)
  all_goals first
   | exact Q0 (λz=>[B z]) ((by unfold iT;rw[Z];simp))
   |(exfalso;omega)
 cases e10:iI h<;>rw[e10]at c10
 ·repeat'(first|refine gD ?_|(conv=>whnf);first|refine C5 l ?_|refine C5 c10 ?_)
  all_goals first
   | exact Q0 (λz=>[B z]) ((by unfold iT;rw[e10];simp))
   |(exfalso;omega)
 by_cases hn:ca h=true;rotate_left
 ·have G:ca h=false:=by simpa using hn
  have c:=G;unfold ca at c;rw[P3]at c
  repeat'(first|refine gD ?_|(conv=>whnf);first|with_reducible refine Bf.D (λa=>?_) (λa=>?_)|refine C5 (aI _ _ _) ?_|refine C5 (m0 _) ?_|refine C5 l ?_|refine C5 c10 ?_)
  all_goals first
   | exact Q0 (λz=>[B z]) ((by unfold iT;rw[G];simp))
   |(exfalso;omega)
 have c:=hn;unfold ca at c;rw[C0]at c;have H:iT h=r9 h:=by unfold iT;rw[S,T,y,U,W,F,hn,Z,e10];rfl
 rw[H];unfold r9;cases em:h.Meshing
 ·repeat'(first|refine gD ?_|(conv=>whnf);first|with_reducible (first|refine Bf.D (λa=>?_) (λa=>?_)|refine Bf.E (λa=>?_) (λa=>?_))|refine C5 (aI _ _ _) ?_|refine C5 (m0 _) ?_|refine C5 l ?_|refine C5 c10 ?_|refine Bf.f em ?_)
  all_goals first
   | exact Q0 (λz=>[B z]) ((by unfold p7;simp only[Bool.false_eq_true,if_false];first|(symm;exact O0 ω)|(rw[Q3,beq_iff_eq,C0];omega)))
   |(exfalso;omega)
 ·cases e12:iB h.Job<;>rw[e12]at c12
  all_goals
   repeat'(first|refine gD ?_|(conv=>whnf);first|with_reducible (first|refine Bf.D (λa=>?_) (λa=>?_)|refine Bf.D (λa=>?_) (λa=>?_))|refine C5 (aI _ _ _) ?_|refine C5 (m0 _) ?_|refine C5 l ?_|refine C5 c10 ?_|refine C5 c12 ?_|refine C5 c13 ?_|refine C5 c14 ?_|refine Bf.t em ?_)
   all_goals first
    | exact Q0 (λz=>[B z]) ((by grind))
    |(exfalso;omega)
theorem fG{α:Type}[Inhabited α]{xs:List α}{f:α->Int}(e:(xs.map f).Nodup){i j:Nat}(b:i<xs.length)(c:j<xs.length)(h:f (nth xs i)=f (nth xs j)):i=j:=by
 have d:=List.pairwise_iff_getElem.1 e;rcases Nat.lt_trichotomy i j with a|rfl|a
 ·have:=d i j (by simpa using b) (by simpa using c) a
  simp only[List.getElem_map]at this;rw[bp (O1 b),bp (O1 c)]at h;exact absurd h this
 ·rfl
 ·have:=d j i (by simpa using c) (by simpa using b) a
  simp only[List.getElem_map]at this;rw[bp (O1 b),bp (O1 c)]at h;exact absurd h.symm this
theorem bc{α:Type}[Inhabited α]{xs:List α}{x:α}(h:x∈xs):∃i,i<xs.length/\nth xs i=x:=by
 obtain⟨i,a⟩:=List.mem_iff_getElem?.1 h;exact⟨i,(P1.1 a).1,bp a⟩
theorem tR:∀{H L:List Int},H.Nodup->(∀x∈H,x∈L)->L.length<=H.length->∀x∈L,x∈H
 | [],L,_,_,c,x,d=>by
  have:L=[]:=Y4 (by simpa using c);subst this;exact d
 | y::H,L,h,f,c,x,d=>by
  have i:y∈L:=f y (C1 ..);have a:=List.nodup_cons.1 h;by_cases b:x=y
  ·subst b;exact C1 ..
  ·refine W3 _ (tR (L:=L.erase y) a.2 (λz g=>?_) ?_ x ((List.mem_erase_of_ne b).2 d))
   ·exact(List.mem_erase_of_ne (λe:z=y=>a.1 (by rw[<-e];exact g))).2 (f z (W3 _ g))
   ·rw[List.length_erase_of_mem i]
    simp only[List.length_cons]at c;omega
theorem wN{H L:List Int}(f:L.Nodup)(d:∀x∈H,x∈L):(H.Nodup/\H.length=L.length)↔∀a∈L,H.count a=1:=by
 constructor
 ·rintro⟨c,k⟩ a b
  have g:=tR c d ω a b;have i:=List.nodup_iff_count.1 c a;have j:=List.count_pos_iff.2 g;omega
 ·intro e
  have c:H.Nodup:=List.nodup_iff_count.2 λa=>by
   by_cases b:a∈H
   ·rw[e a (d a b)];exact Z1 1
   ·rw[List.count_eq_zero_of_not_mem b];exact P0 _
  refine⟨c,?_⟩;have:H.Perm L:=List.perm_iff_count.2 λa=>by
   by_cases b:a∈L
   ·rw[e a b]
    have i:=List.nodup_iff_count.1 f a;have j:=List.count_pos_iff.2 b;omega
   ·rw[List.count_eq_zero_of_not_mem b,List.count_eq_zero_of_not_mem λh=>b (d a h)]
  exact this.length_eq
theorem cZ{l:a8}{n:Nat}{p:Int} : p∈lpgs l n↔∃k:Nat,k<n/\p=l.Page+(k:Nat):=by
 unfold lpgs;simp only[C3,List.mem_range];constructor
 ·rintro⟨k,a,rfl⟩;exact⟨k,a,rfl⟩
 ·rintro⟨k,a,rfl⟩;exact⟨k,a,rfl⟩
structure qy(sp:List au)(la:List a8):Prop where
 sok:∀s∈sp,aX s=true
 lok:∀l∈la,bP l=true
 nd:(sp.map (·.Page)).Nodup
 dis:∀s∈sp,∀l∈la,∀k:Nat,k<l.Pages.toNat->s.Page≠l.Page+(k:Nat)
 one:∀i j,i<la.length->j<la.length->∀k k':Nat,k<(nth la i).Pages.toNat->k'<(nth la j).Pages.toNat->(nth la i).Page+(k:Nat)=(nth la j).Page+(k':Nat)->i=j
theorem qy.of{sp:List au}{la:List a8}(h:bi sp la=true):qy sp la:=by
 obtain⟨t,u,d⟩:=cT h;unfold pgs at d;rw[List.nodup_append]at d;obtain⟨w,y,A⟩:=d;have B:=List.pairwise_flatMap.1 y;refine⟨λs f=>X2.1 t s f,λl g=>X2.1 u l g,w,λs f l g k c e=>?_,λi j n o k q c a e=>?_⟩
 ·exact A _ (C3.2 ⟨s,f,rfl⟩) _ (List.mem_flatMap.2 ⟨l,g,cZ.2 ⟨k,c,rfl⟩⟩) e
 ·have r:=List.pairwise_iff_getElem.1 B.2
  have C:=bp (O1 n);have D:=bp (O1 o);rw[C]at c e;rw[D]at a e;rcases Nat.lt_trichotomy i j with b|p|b
  ·exact absurd e (r i j n o b _ (cZ.2 ⟨k,c,rfl⟩) _ (cZ.2 ⟨q,a,rfl⟩))
  ·exact p
  ·exact absurd e.symm (r j i o n b _ (cZ.2 ⟨q,a,rfl⟩) _ (cZ.2 ⟨k,c,rfl⟩))
theorem fB{s:au}{a:Int}(b:aX s=true):cn s a=true↔16*s.Page<=a/\a<=16*s.Page+15:=by
 unfold cn;rw[b];simp
theorem iq{sp:List au}{la:List a8}(b:qy sp la){a:Int}{i:Nat}(c:i<sp.length)(h:16*(nth sp i).Page<=a/\a<=16*(nth sp i).Page+15):denotes sp la a=nL i (nth sp i) a:=by
 refine kZ c ((fB (b.sok _ (am c))).2 h) λj z l d=>?_
 cases e:cn z a with
 | false=>rfl
 | true=>
  exfalso;have g:=(P1.1 d).1;have n:=(fB (b.sok z (I1 d))).1 e;have k:=bp d;subst k;have:=fG (f:=(·.Page)) b.nd c g ω;omega
theorem L2{sp:List au}{la:List a8}(d:qy sp la){a:Int}(h:∀i,i<sp.length->¬(16*(nth sp i).Page<=a/\a<=16*(nth sp i).Page+15)):∀(j:Nat)(z:au),j<sp.length->sp[j]? = some z->cn z a=false:=by
 intro j z f c;cases e:cn z a with
 | false=>rfl
 | true=>
  have g:=(fB (d.sok z (I1 c))).1 e;have b:=bp c;subst b;exact absurd g (h j f)
theorem Jr{sp:List au}{la:List a8}(f:qy sp la)(a:Int):a∈live0 sp la↔a∈gQ sp la:=by
 have L:a∈gQ sp la↔∃n:Nat,n<512/\iQ sp la n=true/\(n:Int)=a:=by
  unfold gQ jN;simp only[C3,I3,List.mem_range];constructor
  ·rintro⟨n,⟨g,p⟩,B⟩;exact⟨n,g,p,B⟩
  ·rintro⟨n,g,p,B⟩;exact⟨n,⟨g,p⟩,B⟩
 rw[L];unfold live0 ek;rw[W1,List.mem_flatMap,C3];constructor
 ·rintro(⟨s,t,H⟩|⟨l,b,rfl⟩)
  ·obtain⟨i,h,rfl⟩:=bc t
   unfold d4 at H;obtain⟨k,M,rfl⟩:=C3.1 H;obtain⟨u,C⟩:=I3.1 M;have u:=List.mem_range.1 u;have c:=aE (f.sok _ t);have q:=xO ⟨c.2.2.1,c.2.2.2⟩;have N:=pC (nth sp i).Class;unfold jC;have O:0<=(k:Int)*csz (nth sp i).Class/\(k:Int)*csz (nth sp i).Class<=15:=by
    rcases ce ⟨c.2.2.1,c.2.2.2⟩ with e|e|e|e<;>rw[e]at q |-<;>omega
   have o:=iq f h (a:=16*(nth sp i).Page+(k:Nat)*csz (nth sp i).Class) ω;have J:(16*(nth sp i).Page+(k:Nat)*csz (nth sp i).Class - 16*(nth sp i).Page) / csz (nth sp i).Class=(k:Nat)/\(16*(nth sp i).Page+(k:Nat)*csz (nth sp i).Class - 16*(nth sp i).Page) % csz (nth sp i).Class=0:=by
    rcases ce ⟨c.2.2.1,c.2.2.2⟩ with e|e|e|e<;>rw[e]<;>omega
   refine⟨(16*(nth sp i).Page+(k:Nat)*csz (nth sp i).Class).toNat,ω,?_,ω⟩;have d:(((16*(nth sp i).Page+(k:Nat)*csz (nth sp i).Class).toNat:Nat):Int)=16*(nth sp i).Page+(k:Nat)*csz (nth sp i).Class:=ω
   unfold iQ;rw[d,o];simp only[nL,J.1,J.2,C]
   rfl
  ·obtain⟨i,h,rfl⟩:=bc b
   have R:=aT (f.lok _ b);have P:=ci (f.lok _ b);have g:=L2 f (a:=16*(nth la i).Page) λj K S=>f.dis _ (am K) _ b 0 ω ω
   have A:bv (nth la i) (16*(nth la i).Page)=true:=by
    unfold bv;rw[f.lok _ b,N0 ω];rfl
   have o:=ku (a:=16*(nth la i).Page) (Z1 _) g h A λj z K r=>by
    cases e:bv z (16*(nth la i).Page) with
    | false=>rfl
    | true=>
     exfalso;have D:=(P1.1 r).1;have w:=I1 r;have E:=bp r;subst E;have Q:=aT (f.lok _ w);have y:=f.lok _ w;unfold bP at y;rw[C0]at y;unfold bv at e;rw[I0,C0]at e;have:=f.one i j h D 0 ((nth la i).Page - (nth la j).Page).toNat ω ω ω;omega
   refine⟨(16*(nth la i).Page).toNat,ω,?_,ω⟩;have d:(((16*(nth la i).Page).toNat:Nat):Int)=16*(nth la i).Page:=ω
   unfold iQ;rw[d,o];simp
 ·rintro⟨n,T,b,rfl⟩
  cases g:sp.findIdx? (cn · (n:Nat)) with
  | some i=>
   obtain⟨h,F,-⟩:=V4.1 g;have G:=bp (O1 h);rw[<-G]at F;have t:=f.sok _ (am h);have p:=(fB t).1 F;have c:=aE t;have q:=xO ⟨c.2.2.1,c.2.2.2⟩;have o:denotes sp la (n:Nat)=nL i (nth sp i) (n:Nat):=by unfold denotes;rw[g]
   rw[ql o]at b;simp only[I0,N4,C0]at b;simp only[nL]at b;cases A:aW (nth sp i).Bits (((n:Int) - 16*(nth sp i).Page) / csz (nth sp i).Class) with
   | false=>rw[A]at b;simp at b
   | true=>
    have r:((n:Int) - 16*(nth sp i).Page) % csz (nth sp i).Class=0:=b.1;refine .inl ⟨nth sp i,am h,?_⟩;unfold d4;refine C3.2 ⟨(((n:Int) - 16*(nth sp i).Page) / csz (nth sp i).Class).toNat,I3.2 ⟨List.mem_range.2 ?_,?_⟩,?_⟩
    ·rcases ce ⟨c.2.2.1,c.2.2.2⟩ with e|e|e|e<;>rw[e]at q r |-<;>omega
    ·have:((((n:Int) - 16*(nth sp i).Page) / csz (nth sp i).Class).toNat:Int)=((n:Int) - 16*(nth sp i).Page) / csz (nth sp i).Class:=by
      rcases ce ⟨c.2.2.1,c.2.2.2⟩ with e|e|e|e<;>rw[e]<;>omega
     rw[this];exact A
    ·unfold jC
     rcases ce ⟨c.2.2.1,c.2.2.2⟩ with e|e|e|e<;>rw[e]at r |-<;>omega
  | none=>
   cases p:la.findIdx? (bv · (n:Nat)) with
   | some i=>
    obtain⟨h,F,-⟩:=V4.1 p;have o:denotes sp la (n:Nat) = ⟨3,i,0,(n:Nat) - 16*(nth la i).Page⟩:=by unfold denotes;rw[g,p]
    rw[ql o]at b;simp only[I0,C0]at b;exact .inr ⟨nth la i,am h,by have:=b.1;omega⟩
   | none=>
    have o:denotes sp la (n:Nat) = ⟨0,0,0,0⟩:=by unfold denotes;rw[g,p]
    rw[ql o]at b;simp at b
theorem sW{sp:List au}{la:List a8}(e:qy sp la){a:Int}(b:(denotes sp la a).Offset=0)(c:(denotes sp la a).Kind=1\/(denotes sp la a).Kind=3):a∈gQ sp la:=by
 have l:0<=a/\a<512:=by
  unfold denotes at b c;cases h:sp.findIdx? (cn · a) with
  | some i=>
   obtain⟨f,k,-⟩:=V4.1 h;have j:=List.getElem_mem f;have d:=(fB (e.sok _ j)).1 k;have g:=aE (e.sok _ j);omega
  | none=>
   rw[h]at b c;cases d:la.findIdx? (bv · a) with
   | some i=>
    obtain⟨f,-⟩:=V4.1 d;rw[d]at b;have n:=aT (e.lok _ (am f));simp only at b;omega
   | none=>rw[d]at c;simp at c
 have g:((a.toNat:Nat):Int)=a:=ω
 unfold gQ jN;refine C3.2 ⟨a.toNat,I3.2 ⟨List.mem_range.2 ω,?_⟩,g⟩;unfold iQ;rw[g];simp only[I0,N4,C0];exact⟨b,c⟩
theorem mA(sp:List au)(la:List a8):(gQ sp la).Nodup:=by
 unfold gQ jN List.Nodup;rw[List.pairwise_map];exact(List.nodup_range.sublist List.filter_sublist).imp λh e=>h ω
theorem rx{h:ac}(d:qy h.Spans h.Larges){a c:Int}(b:cS h a c=true):a∈gQ h.Spans h.Larges:=by
 unfold cS at b;simp only[I0,C0]at b;exact sW d b.1.2 (.inl b.1.1)
theorem J0{h:ac}(b:qy h.Spans h.Larges){o:bG}(a:ja h o=true):o.Addr∈gQ h.Spans h.Larges:=by
 unfold ja at a;simp only[I0,N4,C0]at a;exact sW b a.1 (a.2.elim (λe=>.inl e.1) (λe=>.inr e.1))
theorem Eb(h:ac)(a:Int):(kK h).count a=(holders h).count a:=by
 unfold kK holders;simp only[C4];omega
theorem jL(h:ac):gm h=true↔(h.Caches.all (dM h)=true/\h.Quar.Lst.all (gd h)=true)/\(aL h.Mail).all (iY h)=true:=by
 unfold gm;simp only[I0]
theorem p9{h:ac}(e:qy h.Spans h.Larges)(g:eK h=true)(j:gm h=true):∀a∈holders h,a∈gQ h.Spans h.Larges:=by
 obtain⟨⟨n,p⟩,q⟩:=(jL h).1 j;intro a b;unfold holders at b;simp only[W1]at b;rcases b with((b|b)|b)|b
 ·obtain⟨o,f,rfl⟩:=C3.1 b
  obtain⟨i,r,rfl⟩:=bc f;have d:=d6 g r;unfold objAt at d;rw[I0]at d;exact J0 e d.2
 ·unfold bY at b
  obtain⟨c,t,b⟩:=List.mem_flatMap.1 b;obtain⟨l,u,b⟩:=List.mem_flatten.1 b;obtain⟨k,w,rfl⟩:=bc u;have d:=X2.1 n c t;unfold dM at d;have y:=X2.1 (show(nth c.Lists k).all _=true from d6 d w) a b;exact rx e y
 ·obtain⟨x,A,rfl⟩:=C3.1 b
  exact rx e (X2.1 p x A)
 ·exact rx e (X2.1 q a b)
theorem Gp{h:ac}(c:bi h.Spans h.Larges=true)(o:eK h=true):(kg h&&hB h)=iI h:=by
 have f:=qy.of c;have p:(kg h=true/\h.Quar.Lst.all (gd h)=true)↔h.Quar.Lst.all (po h)=true:=by
  unfold kg po;simp only[X2,I0];exact⟨λe x b=>⟨e.2 x b,e.1 x b⟩,λe=>⟨λx b=>(e x b).2,λx b=>(e x b).1⟩⟩
 have r:iI h=true↔((h.Caches.all (dM h)=true/\h.Quar.Lst.all (po h)=true)/\(aL h.Mail).all (iY h)=true)/\∀a∈gQ h.Spans h.Larges,(holders h).count a=1:=by
  unfold iI;simp only[I0];refine and_congr Iff.rfl ?_;simp only[X2,C0,Eb];unfold mh sorted;simp only[List.mem_mergeSort,Jr f]
 have g:hB h=true↔gm h=true/\((holders h).Nodup/\(holders h).length=(gQ h.Spans h.Larges).length):=by
  unfold hB;simp only[I0,C0,and_assoc]
 rw[Q3,I0,r,g];constructor
 ·rintro⟨i,d,j⟩
  obtain⟨⟨k,l⟩,n⟩:=(jL h).1 d;exact⟨⟨⟨k,p.1 ⟨i,l⟩⟩,n⟩,(wN (mA ..) (p9 f o d)).1 j⟩
 ·rintro⟨⟨⟨i,d⟩,j⟩,k⟩
  obtain⟨l,n⟩:=p.2 d;have q:gm h=true:=(jL h).2 ⟨⟨i,n⟩,j⟩;exact⟨l,q,(wN (mA ..) (p9 f o q)).2 k⟩
theorem ia(s t:au):meshable s t=meshable t s:=by
 unfold meshable;rw[Bool.and_comm (aX s)]
 congr 1
 refine decide_eq_decide.2 ?_;rw[Nat.and_comm];exact⟨λh=>⟨h.1.symm,λe=>h.2.1 e.symm,h.2.2⟩,λh=>⟨h.1.symm,λe=>h.2.1 e.symm,h.2.2⟩⟩
theorem df{t:aG}{f:Int}{p:Nat} : (p:Int)∈pagesOn t f↔p<t.Entries.length/\(nth t.Entries p).Mode≠0/\(nth t.Entries p).Frame=f:=by
 unfold pagesOn i7;simp only[C3,I3,List.mem_range];constructor
 ·rintro⟨n,⟨b,a⟩,c⟩
  obtain rfl:n=p:=ω
  unfold G7 at a;rw[C0]at a;exact⟨b,a⟩
 ·rintro⟨b,a⟩
  exact⟨p,⟨b,by unfold G7;rw[C0];exact a⟩,rfl⟩
theorem rR{t:aG}{f q:Int}(h:q∈pagesOn t f):∃p:Nat,q=(p:Nat):=by
 unfold pagesOn i7 at h;obtain⟨n,-,rfl⟩:=C3.1 h;exact⟨n,rfl⟩
theorem qu{h:ac}(a:pages0 h=true):(∀i,i<h.Larges.length->∀k:Nat,k<(nth h.Larges i).Pages.toNat->(aK h ((nth h.Larges i).Page+(k:Nat))).length=1)/\(∀p∈pgs h.Spans h.Larges,p<dG h)/\∀p:Nat,p<dG h->((nth (tbl h).Entries p).Mode≠0↔(p:Int)∈pgs h.Spans h.Larges):=by
 unfold pages0 at a;simp only[I0]at a;obtain⟨⟨⟨-,d⟩,e⟩,f⟩:=a;refine⟨λi g k j=>?_,λp a=>?_,λp a=>?_⟩
 ·have b:=d6 d g
  unfold qZ at b;rw[I0]at b;have c:=d6 b.2 j;unfold u7 at c;rw[C0]at c;exact c
 ·have:=X2.1 e p a
  rw[C0]at this;exact this
 ·have b:=d6 f a
  unfold sM at b;rw[I0,C0]at b;exact b.1
theorem tp{h:ac}{p:Nat}(a:p<dG h):ar (tbl h) (p:Nat)=nth (tbl h).Entries p:=kx a
theorem dY{h:ac}{p:Nat}(a:p<dG h)(b:(nth (tbl h).Entries p).Mode≠0):aK h (p:Nat)=pagesOn (tbl h) (nth (tbl h).Entries p).Frame:=by
 unfold aK;rw[show h.Kernel.Machine.Table=tbl h from rfl,tp a,C6 b]
theorem nJ{h:ac}(g:qy h.Spans h.Larges){j:Nat}(c:j<h.Spans.length):fw h (nth h.Spans j).Page=(j:Nat):=by
 unfold fw;refine d9 (ah c) (by unfold iN;simp) λk z i d=>?_
 have a:=bp d;have b:=(P1.1 d).1;subst a;unfold iN;refine O0 λe=>?_
 have:=fG (f:=(·.Page)) g.nd b c e;omega
theorem xx{h:ac}(y:bi h.Spans h.Larges=true)(T:pages0 h=true):r6 h=mg h:=by
 have G:=qy.of y;obtain⟨U,V,O⟩:=qu T;have t:∀i,i<h.Spans.length->∃p:Nat,(nth h.Spans i).Page=(p:Nat)/\p<dG h/\(nth (tbl h).Entries p).Mode≠0:=λi n=>by
  have hc:=aE (G.sok _ (am n));have P:(nth h.Spans i).Page∈pgs h.Spans h.Larges:=by
   unfold pgs;exact W1.2 (.inl (C3.2 ⟨_,am n,rfl⟩))
  have o:=V _ P;refine⟨(nth h.Spans i).Page.toNat,ω,ω,?_⟩;refine(O _ ω).2 ?_;rw[show(((nth h.Spans i).Page.toNat:Nat):Int)=(nth h.Spans i).Page by omega];exact P
 rw[Q3];unfold r6 mg;rw[ch,ch];constructor
 ·intro K i n
  rw[ch];intro j L;have A:j<h.Spans.length:=ω
  unfold jv;rw[N4,C0];by_cases b:(ar (tbl h) (nth h.Spans i).Page).Frame=(ar (tbl h) (nth h.Spans j).Page).Frame
  ·right
   obtain⟨p,f,c,r⟩:=t i n;obtain⟨q,B,a,g⟩:=t j A;have d:=X2.1 (K i n);rw[f,B,tp c,tp a]at b;have W:(q:Int)∈aK h (nth h.Spans i).Page:=by
    rw[f,dY c r];exact df.2 ⟨a,g,b.symm⟩
   have u:=d _ W;unfold k6 at u;rw[<-B,nJ G A]at u;rw[N4,I0,C0]at u;rcases u with u|u
   ·omega
   ·simpa using u.2
  ·exact .inl b
 ·intro C i n
  rw[X2];intro q H;obtain⟨p,f,c,r⟩:=t i n;have X:=H;rw[f,dY c r]at H;obtain⟨J,rfl⟩:=rR H;obtain⟨a,g,D⟩:=df.1 H;have w:=(O J a).1 g;unfold pgs at w;rw[W1,C3,List.mem_flatMap]at w;rcases w with⟨s,K,E⟩|⟨l,Y,M⟩
  ·obtain⟨j,L,rfl⟩:=bc K
   unfold k6;rw[<-E,nJ G L];rw[N4,I0,C0,C0];have b:(ar (tbl h) (nth h.Spans i).Page).Frame=(ar (tbl h) (nth h.Spans j).Page).Frame:=by
    rw[f,E,tp c,tp a,D]
   rcases Nat.lt_trichotomy j i with o|Z|o
   ·have d:=d6 (C i n) o
    unfold jv at d;rw[N4,C0]at d;exact .inr ⟨ω,by simpa using d.resolve_left λe=>e b⟩
   ·exact .inl ω
   ·have d:=d6 (C j L) o
    unfold jv at d;rw[N4,C0]at d;exact .inr ⟨ω,by rw[ia];simpa using d.resolve_left λe=>e b.symm⟩
  ·exfalso
   obtain⟨i2,F,rfl⟩:=bc Y;obtain⟨k,Q,N⟩:=cZ.1 M;have d:=U i2 F k Q;rw[<-N,dY a g]at d;have R:(J:Int)∈pagesOn (tbl h) (nth (tbl h).Entries J).Frame:=df.2 ⟨a,g,rfl⟩;have S:(p:Int)∈pagesOn (tbl h) (nth (tbl h).Entries J).Frame:=df.2 ⟨c,r,D.symm⟩;obtain⟨z,hz⟩:=List.length_eq_one_iff.1 d;rw[hz]at R S;simp only[W0]at R S;have:=G.dis _ (am n) _ (am F) k Q;omega
theorem wX(h:ac):iT h=gh h:=by
 unfold iT gh lL;cases d:aA h.Kernel with
 | false=>rfl
 | true=>
  cases e:bw (dG h) h.Free with
  | false=>rfl
  | true=>
   cases a:bi h.Spans h.Larges with
   | false=>rfl
   | true=>
    cases b:pages0 h with
    | false=>rfl
    | true=>
     rw[xx a b];cases c:eK h with
     | false=>simp
     | true=>
      have:=Gp a c;rw[<-this];cases mg h<;>cases cX h<;>cases kg h<;>cases h.Caches.all bq<;>cases ca h<;>cases hB h<;>cases r9 h<;>rfl
def ovl(y r:a7):Bool:=decide (y.At<r.At+r.Len/\r.At<y.At+y.Len)
def kC(r:a7):List a7->Bool->Option (List a7)
 | [],put=>some (if put then [] else [r])
 | y::a,put=>if ovl y r then none else if !put&&decide (y.At > r.At) then(kC r a true).map λt=>r::y::t else(kC r a put).map λt=>y::t
def cN(out:List a7):List a7->List a7
 | []=>out
 | y::ys=>match out.getLast? with
  | some z=>if z.At+z.Len=y.At then cN (out.dropLast++[⟨z.At,z.Len+y.Len⟩]) ys else cN (out++[y]) ys
  | none=>cN (out++[y]) ys
def iP:List a7->a7->List a7->Bool->Option (List a7)
 | [],r,out,done=>some (if done then out else out++[r])
 | y::ys,r,out,done=>
  if ovl y r then none
  else if y.At+y.Len=r.At then iP ys ⟨y.At,y.Len+r.Len⟩ out done
  else if r.At+r.Len=y.At then iP ys ⟨r.At,r.Len+y.Len⟩ out done
  else if y.At > r.At/\done=false then iP ys r (out++[r,y]) true
  else iP ys r (out++[y]) done
def mQ(xs:List a7):Prop:=xs.Pairwise (λa b=>a.At+a.Len<b.At)/\∀y∈xs,1<=y.Len
theorem mQ.tail{y:a7}{a:List a7}(h:mQ (y::a)):mQ a:=⟨(List.pairwise_cons.1 h.1).2,λz b=>h.2 z (W3 _ b)⟩
theorem mQ.head{y:a7}{a:List a7}(h:mQ (y::a)):∀z∈a,y.At+y.Len<z.At:=(List.pairwise_cons.1 h.1).1
theorem ib:∀(a out:List a7),mQ a->(∀z,out.getLast? = some z->∀y∈a,z.At+z.Len≠y.At)->cN out a=out++a
 | [],out,_,_=>by simp[cN]
 | y::a,out,d,e=>by
  have b:cN (out++[y]) a=out++y::a:=by
   rw[ib a (out++[y]) d.tail λz c w f=>by
     simp at c;subst c;have:=d.head w f;omega]
   simp
  unfold cN;split
  ·rename_i z c
   rw[C6 (e z c y (C1 ..))];exact b
  ·exact b
theorem uB{r:a7} : ∀{a:List a7},mQ a->(∀y∈a,r.At+r.Len<=y.At)->kC r a true=some a
 | [],_,_=>rfl
 | y::a,c,b=>by
  have e:=b y (C1 ..);unfold kC;rw[C6 (by unfold ovl;rw[C0];omega)];simp only[Bool.not_true,Bool.false_and,Bool.false_eq_true,if_false];rw[uB c.tail λz d=>b z (W3 _ d)]
  rfl
theorem rG{r:a7}(h1:1<=r.Len){a:List a7}(c:mQ a)(b:∀y∈a,r.At+r.Len<=y.At):kC r a false=some (r::a):=by
 cases a with
 | nil=>rfl
 | cons y a=>
  have e:=b y (C1 ..);unfold kC;rw[C6 (by unfold ovl;rw[C0];omega),C7 (by simp;omega),uB c.tail λz d=>b z (W3 _ d)]
  rfl
theorem nz{r:a7} : ∀{a out:List a7},mQ a->1<=r.Len->(∀y∈a,r.At+r.Len<y.At)->iP a r out true=some (out++a)
 | [],out,_,_,_=>by simp[iP]
 | y::a,out,b,d,c=>by
  have f:=c y (C1 ..);have g:=b.2 y (C1 ..);unfold iP;rw[C6 (by unfold ovl;rw[C0];omega),C6 ω,C6 ω,C6 (by simp),nz b.tail d λz e=>c z (W3 _ e)];simp
theorem tX{r:a7}(h1:1<=r.Len){a out:List a7}(b:mQ a)(c:∀y∈a,r.At+r.Len<=y.At):iP a r out false=some (out++match a with|[]=>[r]|y::zs=>if r.At+r.Len=y.At then⟨r.At,r.Len+y.Len⟩::zs else r::y::zs):=by
 cases a with
 | nil=>simp[iP]
 | cons y a=>
  have g:=c y (C1 ..);have h:=b.2 y (C1 ..);unfold iP;rw[C6 (by unfold ovl;rw[C0];omega),C6 ω];by_cases e:r.At+r.Len=y.At
  ·rw[C7 e]
   simp only[e,if_true];cases a with
   | nil=>simp[iP]
   | cons z a=>
    have i:=b.head z (C1 ..);have j:=b.tail.2 z (C1 ..);unfold iP;simp only;rw[C6 (by unfold ovl;rw[C0];simp only;omega),C6 ω,C6 ω,C7 (by simp;omega),nz b.tail.tail (by simp only;omega) λw d=>by
      have:=b.tail.head w d;simp only;omega]
    simp
  ·rw[C6 e,C7 (by simp;omega),nz b.tail h1 λz f=>by have:=b.head z f;omega]
   simp[e]
theorem wS{pages:Int} : ∀{b:List a7}{r:a7}{out:List a7},mQ b->1<=r.Len->(∀z,out.getLast? = some z->(∀y∈b,z.At+z.Len<y.At)/\z.At+z.Len<r.At)->(kC r b false).map (cN out)=iP b r out false
 | [],r,out,_,j,u=>by
  show some (cN out [r])=some (out++[r]);rw[ib [r] out ⟨List.pairwise_singleton ..,λy B=>by rw[W0.1 B];exact j⟩ λz d y B=>by rw[W0.1 B];have:=(u z d).2;omega]
 | y::b,r,out,c,j,u=>by
  have L:=c.2 y (C1 ..);by_cases l:ovl y r=true
  ·unfold kC iP
   rw[C7 l,C7 l];rfl
  ·have n:=l
   unfold ovl at n;rw[C0]at n;by_cases C:r.At+r.Len<=y.At
   ·-- all to the right
    have f:∀w∈y::b,r.At+r.Len<=w.At:=λw a=>by
     rcases List.mem_cons.1 a with rfl|a
     ·exact C
     ·have:=c.head w a;omega
    rw[rG j c f,tX j c f];show some (cN out (r::y::b))=_;have hfirst:cN out (r::y::b)=cN (out++[r]) (y::b):=by
     conv=>lhs;unfold cN
     split
     ·rename_i z d;rw[C6 (by have:=(u z d).2;omega)]
     ·rfl
    rw[hfirst];by_cases e:r.At+r.Len=y.At
    ·have:cN (out++[r]) (y::b)=cN (out++[⟨r.At,r.Len+y.Len⟩]) b:=by
      conv=>lhs;unfold cN
      simp[e]
     rw[this,ib b _ c.tail λz d w a=>by
       simp at d;subst d;have:=c.head w a;simp only;omega]
     simp[e]
    ·rw[ib (y::b) (out++[r]) c λz d w a=>by
       simp at d;subst d;rcases List.mem_cons.1 a with rfl|a
       · exact e
       · have:=c.head w a;omega]
     simp[e]
   ·have F:y.At+y.Len<=r.At:=ω
    have i:∀t,cN out (y::t)=cN (out++[y]) t:=λt=>by
     conv=>lhs;unfold cN
     split
     ·rename_i z d;rw[C6 (by have:=(u z d).1 y (C1 ..);omega)]
     ·rfl
    have G:(kC r (y::b) false).map (cN out)=(kC r b false).map (cN (out++[y])):=by
     conv=>lhs;unfold kC
     rw[C6 l,C6 (by simp;omega),Option.map_map]
     congr 1
     funext t
     exact i t
    rw[G];unfold iP;rw[C6 l];by_cases e:y.At+y.Len=r.At
    ·rw[C7 e]
     by_cases o:∃w,b.head? = some w/\ovl w r=true
     ·obtain⟨w,a,p⟩:=o
      cases b with
      | nil=>cases a
      | cons g k=>
       obtain rfl:g=w:=by simpa using a
       have H:=c.head g (C1 ..);have J:=c.tail.2 g (C1 ..);have q:=p;unfold ovl at q;rw[C0]at q;unfold kC iP;rw[C7 p,C7 (by unfold ovl;rw[C0];simp only;omega)]
       rfl
     ·have f:∀w∈b,r.At+r.Len<=w.At:=by
       cases b with
       | nil=>intro w a;cases a
       | cons g k=>
        have H:=c.head g (C1 ..);have J:=c.tail.2 g (C1 ..);have E:¬ovl g r=true:=λh=>o ⟨g,rfl,h⟩
        unfold ovl at E;rw[C0]at E;intro w a;rcases List.mem_cons.1 a with rfl|a
        ·omega
        ·have:=c.tail.head w a;omega
      rw[rG j c.tail f,tX (r:=⟨y.At,y.Len+r.Len⟩) (by simp only;omega) c.tail λw a=>by have:=f w a;simp only;omega];show some (cN (out++[y]) (r::b))=_;have K:cN (out++[y]) (r::b)=cN (out++[⟨y.At,y.Len+r.Len⟩]) b:=by
       conv=>lhs;unfold cN
       simp[e]
      rw[K];cases b with
      | nil=>simp[cN]
      | cons g k=>
       by_cases A:y.At+(y.Len+r.Len)=g.At
       ·have D:cN (out++[⟨y.At,y.Len+r.Len⟩]) (g::k)=cN (out++[⟨y.At,y.Len+r.Len+g.Len⟩]) k:=by
         conv=>lhs;unfold cN
         simp[A]
        rw[D,ib k _ c.tail.tail λz d w a=>by
          simp at d;subst d;have:=c.tail.head w a;simp only;omega]
        simp[A]
       ·rw[ib (g::k) _ c.tail λz d w a=>by
          simp at d;subst d;simp only;rcases List.mem_cons.1 a with rfl|a
          · exact A
          · have:=c.tail.head w a
            have:=f g (C1 ..);have:=c.tail.2 g (C1 ..);omega]
        simp[A]
    ·rw[C6 e,C6 ω,C6 ω]
     exact wS (pages:=pages) c.tail j λz d=>by
      simp at d;subst d;exact⟨c.head,ω⟩
def gI(k:af)(f:Int):af:=if(pagesOn k.Machine.Table f).length=0 then {k with Machine:=⟨⟨k.Machine.Frames.Cells.set f.toNat (List.replicate 16 0),k.Machine.Frames.Used.set f.toNat false⟩,k.Machine.Table⟩} else k
def oW(k:af)(p:Int):af:={k with Machine:=⟨k.Machine.Frames,⟨k.Machine.Table.Entries.set p.toNat ⟨0,0⟩⟩⟩}
def dB(k:af)(p:Int):af:=if(ar k.Machine.Table p).Mode=0 then k else gI (oW k p) (ar k.Machine.Table p).Frame
theorem cq{α:Type}[Inhabited α](xs:List α)(i j:Nat)(x:α):nth (xs.set i x) j=if i=j/\j<xs.length then x else nth xs j:=by
 unfold nth;rw[R1,R1,U2];by_cases h:i=j
 ·subst h
  by_cases a:i<xs.length
  ·simp[a]
  ·simp[a]
 ·simp[h]
theorem n7(k:af)(f:Int):(gI k f).Machine.Table=k.Machine.Table/\(gI k f).Calls=k.Calls/\(gI k f).Refuse=k.Refuse/\(gI k f).Machine.Frames.Cells.length=k.Machine.Frames.Cells.length/\(gI k f).Machine.Frames.Used.length=k.Machine.Frames.Used.length:=by
 unfold gI;split<;>simp
theorem ox(k:af)(p:Int):(dB k p).Machine.Table.Entries.length=k.Machine.Table.Entries.length/\(dB k p).Calls=k.Calls/\(dB k p).Refuse=k.Refuse:=by
 unfold dB;split
 ·exact⟨rfl,rfl,rfl⟩
 ·obtain⟨a,b,c,-⟩:=n7 (oW k p) (ar k.Machine.Table p).Frame
  rw[a,b,c];simp[oW]
theorem aC{k:af} : aA k=true↔(∀j,j<k.Refuse.length->0<=nth k.Refuse j)/\cV k.Machine.Frames=true/\fk k.Machine.Table k.Machine.Frames.Used.length=true/\(∀j,j<k.Machine.Frames.Used.length->nth k.Machine.Frames.Used j=decide (0<(pagesOn k.Machine.Table (j:Int)).length))/\0<=k.Calls/\k.Calls<=100000/\k.Refuse.length<=40:=by
 unfold aA db;simp only[I0,ch,C0,mO,beq_iff_eq,and_assoc]
theorem bf{f:aZ} : cV f=true↔1<=f.Cells.length/\f.Cells.length<=32/\f.Used.length=f.Cells.length/\∀j,j<f.Cells.length->gz (nth f.Cells j) (nth f.Used j)=true:=by
 unfold cV;simp only[I0,C0,X2,and_assoc];refine and_congr Iff.rfl (and_congr Iff.rfl (and_congr_right λe=>⟨λh j a=>?_,λh q c=>?_⟩))
 ·exact h _ (I1 (sR (ah a) (ah ω)))
 ·obtain⟨j,a⟩:=List.mem_iff_getElem?.1 c
  obtain⟨b,d⟩:=List.getElem?_zip_eq_some.1 a;have:=h j (P1.1 b).1
  rwa [bp b,bp d]at this
theorem bx{t:aG}{a:Int} : fk t a=true↔(∀j,j<t.Entries.length->j8 a (nth t.Entries j)=true)/\1<=t.Entries.length/\t.Entries.length<=32:=by
 unfold fk;simp only[I0,ch,C0]
theorem dN{t:aG}{f:Int} : 0<(pagesOn t f).length↔∃q,q<t.Entries.length/\(nth t.Entries q).Mode≠0/\(nth t.Entries q).Frame=f:=by
 unfold pagesOn i7;rw[T0,List.length_pos_iff_exists_mem];simp[G7]
theorem co{k:af}{p:Int}(h:aA k=true)(b:(ar k.Machine.Table p).Mode≠0):0<=p/\p<k.Machine.Table.Entries.length/\ar k.Machine.Table p=nth k.Machine.Table.Entries p.toNat/\0<=(ar k.Machine.Table p).Frame/\(ar k.Machine.Table p).Frame<k.Machine.Frames.Used.length:=by
 obtain⟨-,-,c,-⟩:=aC.1 h;have a:0<=p/\p<k.Machine.Table.Entries.length:=by
  by_cases a:0<=p/\p<k.Machine.Table.Entries.length
  ·exact a
  ·unfold ar at b;rw[C6 a]at b;exact absurd rfl b
 have d:ar k.Machine.Table p=nth k.Machine.Table.Entries p.toNat:=by unfold ar;rw[C7 a]
 have:=(bx.1 c).1 p.toNat ω;rw[d]at b |-;unfold j8 at this;rw[C0]at this;exact⟨a.1,a.2,rfl,this.2.2.2 b⟩
theorem vD{k:af}(p:Int)(h:aA k=true):aA (dB k p)=true:=by
 unfold dB;split
 ·exact h
 rename_i t;obtain⟨E,F,G,l,n⟩:=co h t;obtain⟨u,w,H,y,A,B,C⟩:=aC.1 h;obtain⟨J,K,L,M⟩:=bf.1 w;obtain⟨N,O,P⟩:=bx.1 H;rw[G]at t l n |-;generalize Q:(nth k.Machine.Table.Entries p.toNat).Frame=f at l n;have g:∀q,nth (k.Machine.Table.Entries.set p.toNat ⟨0,0⟩) q=if p.toNat=q then⟨0,0⟩ else nth k.Machine.Table.Entries q:=λq=>by
  rw[cq];by_cases r:p.toNat=q
  ·rw[C7 ⟨r,ω⟩,C7 r]
  ·rw[C6 (λe=>r e.1),C6 r]
 have b:∀j:Int,0<(pagesOn (⟨k.Machine.Table.Entries.set p.toNat ⟨0,0⟩⟩ : aG) j).length↔∃q,q<k.Machine.Table.Entries.length/\q≠p.toNat/\(nth k.Machine.Table.Entries q).Mode≠0/\(nth k.Machine.Table.Entries q).Frame=j:=λj=>by
  rw[dN];simp only[X0,g]
  grind
 have c:∀j:Int,0<(pagesOn k.Machine.Table j).length↔∃q,q<k.Machine.Table.Entries.length/\(nth k.Machine.Table.Entries q).Mode≠0/\(nth k.Machine.Table.Entries q).Frame=j:=λj=>dN
 have i:fk ⟨k.Machine.Table.Entries.set p.toNat ⟨0,0⟩⟩ k.Machine.Frames.Used.length=true:=by
  rw[bx];simp only[X0,g];refine⟨λj d=>?_,O,P⟩;split
  ·unfold j8;simp
  ·exact N j d
 unfold gI;split
 ·rename_i o
  rw[aC];simp only[oW,X0]at o |-;refine⟨u,?_,i,λj d=>?_,A,B,C⟩
  ·rw[bf]
   simp only[X0,cq];refine⟨J,K,L,λj d=>?_⟩;by_cases a:f.toNat=j
   ·rw[C7 ⟨a,d⟩,C7 ⟨a,ω⟩];decide
   ·rw[C6 (λe=>a e.1),C6 (λe=>a e.1)];exact M j d
  ·rw[cq]
   by_cases a:f.toNat=j
   ·rw[C7 ⟨a,d⟩]
    have:(j:Int)=f:=ω
    rw[this];exact(O0 λR=>absurd o (Nat.ne_of_gt R)).symm
   ·rw[C6 (λe=>a e.1),y j d]
    refine decide_eq_decide.2 ?_;rw[c,b]
    grind
 ·rename_i o
  rw[aC];simp only[oW]at o |-;refine⟨u,w,i,λj d=>?_,A,B,C⟩;rw[y j d];refine decide_eq_decide.2 ?_;by_cases a:f=j
  ·have D:0<(pagesOn (⟨k.Machine.Table.Entries.set p.toNat ⟨0,0⟩⟩ : aG) j).length:=by rw[<-a];exact Nat.pos_of_ne_zero o
   have:=(b j).1 D;constructor
   ·intro _;exact D
   ·intro _;rw[c];grind
  ·rw[c,b];grind
theorem b8{k:af}(h:aA k=true):af.sml k:=by
 obtain⟨g,b,c,i,l,n,o⟩:=aC.1 h;obtain⟨p,q,t,d⟩:=bf.1 b;obtain⟨u,w,y⟩:=bx.1 c;refine⟨⟨⟨⟨ω,λr f=>?_⟩,(by omega:_<=1048576)⟩,⟨ω,λe _=>trivial⟩⟩,(by omega:_<=1048576)⟩;obtain⟨j,a⟩:=List.mem_iff_getElem?.1 f;have:=d j (P1.1 a).1;rw[bp a]at this;unfold gz at this;simp only[I0,C0]at this;show r.length<=1048576;omega
theorem Ap.cp{α:Type}{e:α->List C}{xs:List α}{sz by_:Nat}{K:List (List C)->Prop}(b:∀x,(e x).length=sz)(c:∀x,aU (e x)=true)(d:xs.length<=1048576)(f:by_<=1000)(g:K (xs.map e)):Ap true [] (xs.map e) sz by_ K:=
 CO (λr a=>by cases a) (λr a=>by obtain⟨y,-,rfl⟩:=C3.1 a;exact b y) (λ_ r a=>by obtain⟨y,-,rfl⟩:=C3.1 a;exact c y) (by simp;omega) (by simp only[T0,List.length_nil,U4];exact vL d f) rfl g
theorem CN:type_of% @Ap.cp:=@Ap.cp
theorem Fl.cp{α:Type}{e:α->List C}{xs:List α}{sz by_:Nat}{X:Prop}(a:∀x,(e x).length=sz)(b:∀x,aU (e x)=true)(c:xs.length<=1048576)(d:by_<=1000)(f:X):Fl (xs.map e) sz by_ X:=
 Fl.mk (λr g=>by obtain⟨y,-,rfl⟩:=C3.1 g;exact⟨a y,b y⟩) (by simp;omega) (by simp only[T0];exact vL c d) f
theorem CQ:type_of% @Fl.cp:=@Fl.cp
theorem Ap.sn{rows b:List (List C)}{r:List C}{sz by_:Nat}{K:List (List C)->Prop}(h1:∀r∈rows,r.length=sz)(c:r.length=sz)(d:rows.length+1<=1048576)(e:by_<=1000)(a:b=rows++[r])(f:K b):Ap false rows [r] sz by_ K:=
 CO h1 (λg a=>by rw[W0.1 a];exact c) (λh=>by cases h) (by simp;omega) (vL (by simpa using d) e) a f
theorem yO(t:aG)(a:aG.sml t):ao Tryz.prog 339 false [.val (some 1) (aG.enc .imm t)] .agg (aG.enc .own t):=by
 have b:=a.1;refine fO 8 [] Tryz.func339 rfl ?_ (.inr (aG.enc_fr _))
 repeat'(first|refine gO ?_|(conv=>whnf);first|refine CN (λ_=>rfl) (λ_=>rfl) b (by decide) ?_)
 rfl
theorem aR{α:Type}{e:α->List C}{l:List α}{n:Nat}(h:∀x,(e x).length=n):∀r∈l.map e,r.length=n:=λr a=>by
 obtain⟨y,-,rfl⟩:=C3.1 a;exact h y
theorem jq{α β:Type}[Inhabited α]{xs:List α}{f:α->β}{i:Nat}(a:i<xs.length):(xs.take (i+1)).map f=(xs.take i).map f++[f (nth xs i)]:=by
 rw[Y3,ah a];simp
theorem yA(f:aZ)(a:aZ.sml f):ao Tryz.prog 338 false [.val (some 2) (aZ.enc .imm f)] .agg (aZ.enc .own f):=by
 have g:=a.1.1;have d:f.Used.length<=1048576:=a.2;refine fO 30 [(5,10,[17,18,19,20,21,22,23,24,25,26])] Tryz.func338 rfl ?_ (.inr (aZ.enc_fr _))
 repeat'(first|refine gO ?_|(conv=>whnf);first|refine CN (λ_=>rfl) (λ_=>rfl) d (by decide) ?_)
 (conv=>whnf)
 refine CB (ι:=Nat) (λi=>[(1,.hold .box (aZ.enc .imm f)),(2,.hold .box [.z,.z]),(3,.hold .box [.s .own ((f.Cells.take i).map (aF .own)),.s .own (f.Used.map (rB .own))]),(4,.hold .one [I ((i:Nat):Int)])]) (λi=>i<=f.Cells.length) (λi=>f.Cells.length - i) (0) ?_ (P0 _) λi h=>?_
 ·exact wB
 by_cases b:i<f.Cells.length
 ·have e:=ah b
  have c:(nth f.Cells i).length<=1048576:=a.1.2 _ (am b)
  repeat'(first|refine gD ?_|(conv=>whnf);first|with_reducible refine C9 (aa e) ?_|refine CQ (λ_=>rfl) (λ_=>rfl) c (by decide) ?_|refine Ap.sn (aR λ_=>rfl) rfl (by simp;omega) (by decide) (jq b) ?_)
  ((conv=>whnf);refine CA (i+1) ω ω ?_;(exact wB))
 ·repeat'(first|refine gD ?_|fail)
  obtain rfl:i=f.Cells.length:=ω
  rw[U3]
  rfl
theorem pD(m:aS)(a:aS.sml m):ao Tryz.prog 288 false [.val (some 3) (aS.enc .imm m)] .agg (aS.enc .own m):=by
 refine fO 10 [(1,5,[3,4,5,6,7])] Tryz.func288 rfl ?_ (.inr (aS.enc_fr _))
 repeat'(first|refine gO ?_|(conv=>whnf);first|refine C5 (yA m.Frames a.1) ?_|refine C5 (yO m.Table a.2) ?_)
 rfl
theorem za(k:af)(a:af.sml k):ao Tryz.prog 228 false [.val (some 5) (af.enc .imm k)] .agg (af.enc .own k):=by
 have b:k.Refuse.length<=1048576:=a.2;refine fO 13 [(1,9,[3,4,5,6,7,8,9,10,11])] Tryz.func228 rfl ?_ (.inr (af.enc_fr _))
 repeat'(first|refine gO ?_|(conv=>whnf);first|refine C5 (pD k.Machine a.1) ?_|refine CQ (λ_=>rfl) (λ_=>rfl) b (by decide) ?_)
 rfl
theorem dO(k:af)(p:Int)(a:aG.sml k.Machine.Table):ao Tryz.prog 348 false [.ptr (af.enc .imm k),.val none [I p]] .one [I (ar k.Machine.Table p).Mode]:=by
 refine fO 13 [] Tryz.func348 rfl ?_
 repeat'(first|refine gO ?_|(conv=>whnf);first|refine C5 (cH k.Machine.Table p a) ?_)
 rfl
theorem kh(k:af)(b:af.sml k):ao Tryz.prog 305 false [.val (some 5) (af.enc .imm k)] .one [B (aA k&&decide (k.Calls<100000))]:=by
 have a:=kz k b;cases e:aA k<;>rw[e]at a
 ·refine fO 10 [] Tryz.func305 rfl ?_
  repeat'(first|refine gO ?_|(conv=>whnf);first|with_reducible refine Bf.D (λc=>?_) (λc=>?_)|refine C5 (a) ?_)
  all_goals rfl
 ·refine fO 10 [] Tryz.func305 rfl ?_
  repeat'(first|refine gO ?_|(conv=>whnf);first|refine C5 (a) ?_)
  all_goals rfl
theorem xu{k:af}{f:Int}(h:(pagesOn k.Machine.Table f).length=0):af.enc .own (gI k f)=[.s .own ((k.Machine.Frames.Cells.map (aF .own)).set f.toNat (aF .own (List.replicate 16 0))),.s .own ((k.Machine.Frames.Used.map (rB .own)).set f.toNat (rB .own false)),.s .own (k.Machine.Table.Entries.map (bj.enc .own)),I k.Calls,.s .own (k.Refuse.map (rI .own))]:=by
 unfold gI;rw[C7 h];simp only[af.enc,I4]
theorem Ah{k:af}{f:Int}(h:¬(pagesOn k.Machine.Table f).length=0):af.enc .own (gI k f)=af.enc .own k:=by
 unfold gI;rw[C6 h]
theorem yF(k:af)(f:Int)(a:aG.sml k.Machine.Table)(b:0<=f/\f<k.Machine.Frames.Cells.length/\f<k.Machine.Frames.Used.length) :
  aQ Tryz.prog 349 false [.ptr (af.enc .own k),.val none [I f]] [.ptr (af.enc .own (gI k f)),.val none [I f]] (.tup []) []:=by
 have c:=ah (xs:=k.Machine.Frames.Cells) (i:=f.toNat) ω;have d:=ah (xs:=k.Machine.Frames.Used) (i:=f.toNat) ω;by_cases e:(pagesOn k.Machine.Table f).length=0
 ·rw[xu e]
  refine fM 30 [] [(2,8,[21,22,23,24,25,26,27,28])] [(0,0),(0,0)] Tryz.func349 rfl (λu q=>?_) (.inr trivial)
  repeat'(first|refine gA ?_|(conv=>whnf);first|with_reducible (first|refine CI b.1 (aa d) ?_|refine CI b.1 (aa c) ?_)|refine CD (fJ k.Machine.Table f a) ⟨⟨rfl,CT k.Machine.Table⟩,⟨rfl,rfl⟩,trivial⟩ ?_|refine CK rfl rfl (aa c) rfl (U0 rfl) rfl ?_|refine CK rfl rfl (aa d) rfl (U0 rfl) rfl ?_|refine Mk.mk 16 rfl rfl (by decide) (by decide) rfl ?_)
  refine CC rfl rfl ?_;exact wB
 ·rw[Ah e]
  refine fM 30 [] [(2,8,[21,22,23,24,25,26,27,28])] [(0,0),(0,0)] Tryz.func349 rfl (λu q=>?_) (.inr trivial)
  repeat'(first|refine gA ?_|(conv=>whnf);first|refine CD (fJ k.Machine.Table f a) ⟨⟨rfl,CT k.Machine.Table⟩,⟨rfl,rfl⟩,trivial⟩ ?_)
  refine CC rfl rfl ?_;exact wB
theorem GD(k:af)(p:Int):af.enc .own (oW k p)=[.s .own (k.Machine.Frames.Cells.map (aF .own)),.s .own (k.Machine.Frames.Used.map (rB .own)),.s .own ((k.Machine.Table.Entries.map (bj.enc .own)).set p.toNat (bj.enc .own ⟨0,0⟩)),I k.Calls,.s .own (k.Refuse.map (rI .own))]:=by
 unfold oW;simp only[af.enc,I4]
theorem GH{k:af}{p:Int}(h:aA k=true):aG.sml (oW k p).Machine.Table:=by
 obtain⟨a,b,c⟩:=bx.1 (aC.1 h).2.2.1;exact⟨by simp only[oW,X0];omega,λ_ _=>trivial⟩
def dr(n:Nat):aZ:=⟨List.replicate n (List.replicate 16 0),List.replicate n false⟩
def cR(n:Nat):aG:=⟨List.replicate n ⟨0,0⟩⟩
def br(p f:Nat)(rf:List Int):af:=⟨⟨dr f,cR p⟩,0,rf⟩
def d2:aB:=⟨List.replicate 4 []⟩
def dt(n:Nat):aJ:=⟨List.replicate n [],List.replicate n []⟩
def iu(p f t:Nat)(lim:Int)(rf:List Int):ac:=⟨br p f rf,[⟨0,p⟩],[],[],[],List.replicate t d2,dt t,⟨16,[]⟩,0,0,lim,1,false,⟨⟨0,0,[]⟩,0,0⟩⟩
theorem cI{α:Type}[Inhabited α]{n j:Nat}{y:α}(a:j<n):nth (List.replicate n y) j=y:=bp (by rw[List.getElem?_replicate,C7 a])
theorem GR(n:Nat)(f:Int):pagesOn (cR n) f=[]:=by
 unfold pagesOn i7;rw[List.map_eq_nil_iff,List.filter_eq_nil_iff];intro i b;have a:i<n:=by simpa[cR] using b
 unfold G7;rw[show nth (cR n).Entries i = ⟨0,0⟩ from cI a];simp
theorem qd{p f:Nat}(c:1<=p/\p<=32)(d:1<=f/\f<=32):aA (br p f [])=true:=by
 rw[aC];refine⟨λj b=>by simp[br]at b,bf.2 ⟨by simp[br,dr];omega,by simp[br,dr];omega,by simp[br,dr],λj b=>?_⟩,bx.2 ⟨λj b=>?_,by simp[br,cR];omega,by simp[br,cR];omega⟩,λj b=>?_,by simp[br],by simp[br],by simp[br]⟩
 ·have a:j<f:=by simpa[br,dr] using b
  rw[show nth (br p f []).Machine.Frames.Cells j=List.replicate 16 0 from cI a,show nth (br p f []).Machine.Frames.Used j=false from cI a]
  decide
 ·have a:j<p:=by simpa[br,cR] using b
  rw[show nth (br p f []).Machine.Table.Entries j = ⟨0,0⟩ from cI a];unfold j8;rw[C0];exact⟨by decide,by decide,λ_=>rfl,λh=>absurd rfl h⟩
 ·have a:j<f:=by simpa[br,dr] using b
  rw[show nth (br p f []).Machine.Frames.Used j=false from cI a,show(br p f []).Machine.Table=cR p from rfl,GR]
  rfl
theorem B7{p f t:Nat}{lim:Int}(q:p<=32)(r:f<=32)(u:t<=4):ac.sml (iu p f t lim []):=by
 have b:∀n:Nat,n<=1048576->∀{α:Type}(a:α),(List.replicate n a).length<=1048576:=λn d α a=>by rw[Q2];exact d
 have e:kV (List.replicate f (List.replicate 16 (0:Int))):=⟨b _ ω _,λy c=>by rw[(List.mem_replicate.1 c).2];exact b 16 (by decide) _⟩
 have g:kV (List.replicate 4 ([]:List Int)):=⟨b _ (by decide) _,λy c=>by rw[(List.mem_replicate.1 c).2];exact P0 _⟩
 have h:kV (List.replicate t ([]:List Int)):=⟨b _ ω _,λy c=>by rw[(List.mem_replicate.1 c).2];exact P0 _⟩
 have i:AR (List.replicate f false):=b _ ω _;have j:uT (List.replicate p ⟨0,0⟩):=⟨b _ ω _,λ_ _=>trivial⟩
 have k:gw [⟨0,p⟩]:=⟨by show 1<=1048576;decide,λ_ _=>trivial⟩
 have l:va (List.replicate t d2):=⟨b _ ω _,λy c=>by rw[(List.mem_replicate.1 c).2];exact g⟩
 have o:v6 (List.replicate t ([]:List cP)):=⟨b _ ω _,λy c=>by rw[(List.mem_replicate.1 c).2];exact⟨P0 _,λ_ _=>trivial⟩⟩
 exact⟨⟨⟨⟨e,i⟩,j⟩,P0 _⟩,k,⟨P0 _,λ_ _=>trivial⟩,⟨P0 _,λ_ _=>trivial⟩,⟨P0 _,λ_ _=>trivial⟩,l,⟨o,h⟩,⟨P0 _,λ_ _=>trivial⟩,P0 _⟩
theorem gX(c:aB)(d:aB.sml c):ao Tryz.prog 229 false [.val (some 1) (aB.enc .imm c)] .agg (aB.enc .own c):=by
 have g:=d.1;refine fO 26 [(5,10,[13,14,15,16,17,18,19,20,21,22])] Tryz.func229 rfl ?_ (.inr (aB.enc_fr _))
 repeat'(first|refine gO ?_|fail)
 (conv=>whnf)
 refine CB (ι:=Nat) (λi=>[(1,.hold .box (aB.enc .imm c)),(2,.hold .box [.z]),(3,.hold .box [.s .own ((c.Lists.take i).map (aF .own))]),(4,.hold .one [I ((i:Nat):Int)])]) (λi=>i<=c.Lists.length) (λi=>c.Lists.length - i) (0) ?_ (P0 _) λi h=>?_
 ·exact wB
 by_cases a:i<c.Lists.length
 ·have e:=ah a
  have b:(nth c.Lists i).length<=1048576:=d.2 _ (am a)
  repeat'(first|refine gD ?_|(conv=>whnf);first|with_reducible refine C9 (aa e) ?_|refine CQ (λ_=>rfl) (λ_=>rfl) b (by decide) ?_|refine Ap.sn (aR λ_=>rfl) rfl (by simp;omega) (by decide) (jq a) ?_)
  ((conv=>whnf);refine CA (i+1) ω ω ?_;(exact wB))
 ·repeat'(first|refine gD ?_|fail)
  obtain rfl:i=c.Lists.length:=ω
  rw[U3]
  rfl
theorem eE(m:aJ)(b:aJ.sml m):ao Tryz.prog 230 false [.val (some 2) (aJ.enc .imm m)] .agg (aJ.enc .own m):=by
 have h:=b.1.1;have g:=b.2.1;refine fO 46 [(5,10,[14,15,16,17,18,19,20,21,22,23]),(9,10,[33,34,35,36,37,38,39,40,41,42])] Tryz.func230 rfl ?_ (.inr (aJ.enc_fr _))
 repeat'(first|refine gO ?_|fail)
 (conv=>whnf)
 refine CB (ι:=Nat) (λi=>[(1,.hold .box (aJ.enc .imm m)),(2,.hold .box [.z,.z]),(3,.hold .box [.s .own ((m.Buffers.take i).map (cL .own)),.z]),(4,.hold .one [I ((i:Nat):Int)])]) (λi=>i<=m.Buffers.length) (λi=>m.Buffers.length - i) (0) ?_ (P0 _) λi j=>?_
 ·exact wB
 by_cases c:i<m.Buffers.length
 ·have d:=ah c
  have a:(nth m.Buffers i).length<=1048576:=(b.1.2 _ (am c)).1
  repeat'(first|refine gD ?_|(conv=>whnf);first|with_reducible refine C9 (aa d) ?_|refine CQ (λ_=>rfl) (λ_=>rfl) a (by decide) ?_|refine Ap.sn (aR λ_=>rfl) rfl (by simp;omega) (by decide) (jq c) ?_)
  ((conv=>whnf);refine CA (i+1) ω ω ?_;(exact wB))
 obtain rfl:i=m.Buffers.length:=ω
 rw[U3]
 repeat'(first|refine gD ?_|fail)
 (conv=>whnf)
 refine CB (ι:=Nat) (λk=>[(1,.hold .box (aJ.enc .imm m)),(2,.hold .box [.z,.z]),(3,.hold .box [.s .own (m.Buffers.map (cL .own)),.s .own ((m.Inbox.take k).map (aF .own))]),(5,.hold .one [I ((k:Nat):Int)])]) (λk=>k<=m.Inbox.length) (λk=>m.Inbox.length - k) (0) ?_ (P0 _) λk l=>?_
 ·exact wB
 by_cases e:k<m.Inbox.length
 ·have d:=ah e
  have a:(nth m.Inbox k).length<=1048576:=b.2.2 _ (am e)
  repeat'(first|refine gD ?_|(conv=>whnf);first|with_reducible refine C9 (aa d) ?_|refine CQ (λ_=>rfl) (λ_=>rfl) a (by decide) ?_|refine Ap.sn (aR λ_=>rfl) rfl (by simp;omega) (by decide) (jq e) ?_)
  ((conv=>whnf);refine CA (k+1) ω ω ?_;(exact wB))
 ·repeat'(first|refine gD ?_|fail)
  obtain rfl:k=m.Inbox.length:=ω
  rw[U3]
  rfl
theorem p6(q:bC)(b:bC.sml q):ao Tryz.prog 231 false [.val (some 2) (bC.enc .imm q)] .agg (bC.enc .own q):=by
 have a:q.Lst.length<=1048576:=b.1;refine fO 10 [(1,6,[3,4,5,6,7,8])] Tryz.func231 rfl ?_ (.inr (bC.enc_fr _))
 repeat'(first|refine gO ?_|(conv=>whnf);first|refine CQ (λ_=>rfl) (λ_=>rfl) a (by decide) ?_|refine CN (λ_=>rfl) (λ_=>rfl) a (by decide) ?_)
 rfl
theorem pp(j:cF)(a:cF.sml j):ao Tryz.prog 232 false [.val (some 5) (cF.enc .imm j)] .agg (cF.enc .own j):=by
 have b:j.Plan.Cells.length<=1048576:=a;refine fO 11 [] Tryz.func232 rfl ?_ (.inr (cF.enc_fr _))
 repeat'(first|refine gO ?_|(conv=>whnf);first|refine CN (λ_=>rfl) (λ_=>rfl) b (by decide) ?_)
 rfl
def MR(h:ac)(a:C):List C:=[.s .own (h.Kernel.Machine.Frames.Cells.map (aF .own)),.s .own (h.Kernel.Machine.Frames.Used.map (rB .own)),.s .own (h.Kernel.Machine.Table.Entries.map (bj.enc .own)),I h.Kernel.Calls,.s .own (h.Kernel.Refuse.map (rI .own)),.s .own (h.Free.map (a7.enc .own)),.s .own (h.Spans.map (au.enc .own)),.s .own (h.Larges.map (a8.enc .own)),.s .own (h.Objs.map (bG.enc .own)),a,.s .imm (h.Mail.Buffers.map (cL .imm)),.s .imm (h.Mail.Inbox.map (aF .imm)),I h.Quar.Room,.s .imm (h.Quar.Lst.map (aM.enc .imm)),I h.Seed,I h.Clock,I h.Limit,I h.Next,B h.Meshing,I h.Job.Plan.Keep,I h.Job.Plan.Move,.s .imm (h.Job.Plan.Cells.map (rI .imm)),I h.Job.Phase,I h.Job.Next]
def M2:List C:=[.z,.z,.z,I 0,.z,.z,.z,.z,.z,.z,.z,.z,I 0,.z,I 0,I 0,I 0,I 0,B false,I 0,I 0,.z,I 0,I 0]
theorem yr(h:ac)(c:ac.sml h):ao Tryz.prog 142 false [.val (some 24) (ac.enc .imm h)] .agg (ac.enc .own h):=by
 obtain⟨d,e,g,j,k,b,l,n,o⟩:=c;have p:=e.1;have q:=g.1;have r:=j.1;have t:=k.1;have w:=b.1;refine fO 61 [] Tryz.func142 rfl ?_ (.inr (ac.enc_fr _))
 repeat'(first|refine gO ?_|(conv=>whnf);first|refine C5 (za h.Kernel d) ?_|refine CN (λ_=>rfl) (λ_=>rfl) p (by decide) ?_|refine CN (λ_=>rfl) (λ_=>rfl) q (by decide) ?_|refine CN (λ_=>rfl) (λ_=>rfl) r (by decide) ?_|refine CN (λ_=>rfl) (λ_=>rfl) t (by decide) ?_)
 (conv=>whnf)
 refine CB (ι:=Nat) (λi=>[(1,.hold .box (MR h (.s .imm (h.Caches.map (aB.enc .imm))))),(2,.hold .box M2),(3,.hold .one ([.s .own ((h.Caches.take i).map (aB.enc .own))])),(4,.hold .one [I ((i:Nat):Int)])]) (λi=>i<=h.Caches.length) (λi=>h.Caches.length - i) (0) ?_ (P0 _) λi y=>?_
 ·exact wB
 by_cases a:i<h.Caches.length
 ·have u:=ah a
  repeat'(first|refine gD ?_|(conv=>whnf);first|with_reducible refine C9 (aa u) ?_|refine C5 (gX (nth h.Caches i) (b.2 _ (am a))) ?_|refine Ap.sn (aR λ_=>rfl) rfl (by simp;omega) (by decide) (jq a) ?_)
  ((conv=>whnf);refine CA (i+1) ω ω ?_;(exact wB))
 ·obtain rfl:i=h.Caches.length:=ω
  rw[U3]
  repeat'(first|refine gD ?_|(conv=>whnf);first|refine C5 (eE h.Mail l) ?_|refine C5 (p6 h.Quar n) ?_|refine C5 (pp h.Job o) ?_)
  rfl
theorem Ap.sm{rows b:List (List C)}{r:List C}{sz by_:Nat}{K:List (List C)->Prop}(h1:∀r∈rows,r.length=sz)(c:r.length=sz)(d:rows.length+1<=1073741824)(e:by_<=1000)(a:b=rows++[r])(f:K b):Ap false rows [r] sz by_ K:=
 CO h1 (λg a=>by rw[W0.1 a];exact c) (λh=>by cases h) (by simp;omega) (R3 (Nat.mul_le_mul (show rows.length+[r].length<=1073741824 by simpa using d) e) (by decide)) a f
theorem FR(y:a7)(a:List a7)(r:a7)(out:List a7)(done:Bool):iP (y::a) r out done=if ovl y r then none
  else if y.At+y.Len=r.At then iP a ⟨y.At,y.Len+r.Len⟩ out done
  else if r.At+r.Len=y.At then iP a ⟨r.At,r.Len+y.Len⟩ out done
  else if y.At > r.At/\done=false then iP a r (out++[r,y]) true
  else iP a r (out++[y]) done:=by rw[iP]
theorem yu{pages:Int}{xs:List a7}(h:bw pages xs=true):mQ xs/\∀y∈xs,0<=y.At/\1<=y.Len/\y.At+y.Len<=pages:=by
 unfold bw at h;simp only[I0,C0]at h;have b:∀i,i<xs.length->1<=(nth xs i).Len/\0<=(nth xs i).At/\(nth xs i).At<=pages - (nth xs i).Len:=λi a=>by
  have:=d6 h.1 a;unfold fj rangeIn at this;simp only[I0,C0]at this;omega
 have d:∀i,i+1<xs.length->(nth xs i).At+(nth xs i).Len<(nth xs (i+1)).At:=λi a=>by
  have:=d6 h.1 a;unfold fj at this;simp only[I0,C0]at this;have:=this.2.resolve_left ω;simpa using this
 have k:∀j i,i<j->j<xs.length->(nth xs i).At+(nth xs i).Len<(nth xs j).At:=λj=>by
  induction j with
  | zero=>intro i a;omega
  | succ j l=>
   intro i a c;have n:=d j c;by_cases e:i=j
   ·subst e;exact n
   ·have o:=l i ω ω
    have p:=b j ω;omega
 refine⟨⟨?_,λy f=>?_⟩,λy f=>?_⟩
 ·rw[List.pairwise_iff_getElem]
  intro i j a c g;have:=k j i g c
  rwa [bp (O1 a),bp (O1 c)]at this
 ·obtain⟨i,a,rfl⟩:=bc f
  exact(b i a).1
 ·obtain⟨i,a,rfl⟩:=bc f
  have:=b i a;omega
theorem iH{α:Type}[Inhabited α]{xs:List α}{i:Nat}(a:i<xs.length):xs.drop i=nth xs i::xs.drop (i+1):=by
 rw[List.drop_eq_getElem_cons a,bp (O1 a)]
def dl(pages:Int)(xs:List a7)(r:a7):Option (List a7):=if bw pages xs=true/\rangeIn pages r=true then iP xs r [] false else none
def Do(xs:List a7)(o:Option (List a7)):List C:=bF .own (o.getD xs)++[B o.isSome]
theorem qN(xs:List a7)(o:Option (List a7)):gv (Do xs o):=aO (mG _) ⟨trivial,trivial⟩
theorem td{α:Type}[Inhabited α](R:Int->Int->Prop)(n:∀a b c,R a b->R b c->R a c)(f:α->Int)(xs:List α):(∀i,i<xs.length->i=0\/R (f (nth xs (i - 1))) (f (nth xs i)))↔xs.Pairwise (λa b=>R (f a) (f b)):=by
 constructor
 ·intro h
  have o:∀j i,i<j->j<xs.length->R (f (nth xs i)) (f (nth xs j)):=λj=>by
   induction j with
   | zero=>intro i d;omega
   | succ j p=>
    intro i d g;have k:=(h (j+1) g).resolve_left ω;rw[show j+1 - 1=j from rfl]at k;by_cases e:i=j
    ·subst e;exact k
    ·exact n _ _ _ (p i ω ω) k
  rw[List.pairwise_iff_getElem];intro i j d g l;have:=o j i l g
  rwa [bp (O1 d),bp (O1 g)]at this
 ·intro h i d
  by_cases e:i=0
  ·exact .inl e
  ·right
   have:=List.pairwise_iff_getElem.1 h (i - 1) i ω d ω
   rwa [<-bp (O1 (show i - 1<xs.length by omega)),<-bp (O1 d)]at this
theorem xR{α:Type}[Inhabited α](f:α->Int)(xs:List α):(∀i,i<xs.length->∀o∈xs.take i,f o≠f (nth xs i))↔(xs.map f).Nodup:=by
 unfold List.Nodup;rw[List.pairwise_map,List.pairwise_iff_getElem];constructor
 ·intro h i j a b c
  have:=h j b xs[i] (List.mem_take_iff_getElem.2 ⟨i,ω,rfl⟩)
  rwa [bp (O1 b)]at this
 ·intro h i a o d
  obtain⟨j,b,rfl⟩:=List.mem_take_iff_getElem.1 d;rw[bp (O1 a)];exact h j i ω a ω
def eJ(s:au)(a:Int):Prop:=16*s.Page<=a/\a<=16*s.Page+15/\(a - 16*s.Page) % csz s.Class=0/\aW s.Bits ((a - 16*s.Page) / csz s.Class)=true
def iK(sp:List au)(a c:Int):Prop:=∃s∈sp,eJ s a/\(c<0\/s.Class=c)
def Na(la:List a8)(a z:Int):Prop:=∃l∈la,a=16*l.Page/\l.Size=z
def J1(sp:List au)(la:List a8)(o:bG):Prop:=(∃s∈sp,eJ s o.Addr/\s.Class=aN o.Size)\/Na la o.Addr o.Size
def kG(sp:List au)(la:List a8)(a:Int):Prop:=iK sp a (-1)\/∃l∈la,a=16*l.Page
theorem kE{sp:List au}{la:List a8}(f:qy sp la)(a:Int):(∃i,i<sp.length/\(16*(nth sp i).Page<=a/\a<=16*(nth sp i).Page+15)/\denotes sp la a=nL i (nth sp i) a)\/((∀s∈sp,¬(16*s.Page<=a/\a<=16*s.Page+15))/\((∃i,i<la.length/\bv (nth la i) a=true/\denotes sp la a = ⟨3,i,0,a - 16*(nth la i).Page⟩)\/((∀l∈la,bv l a=false)/\denotes sp la a = ⟨0,0,0,0⟩))):=by
 cases c:sp.findIdx? (cn · a) with
 | some i=>
  obtain⟨b,d,-⟩:=V4.1 c;rw[<-bp (O1 b)]at d;exact .inl ⟨i,b,(fB (f.sok _ (am b))).1 d,by unfold denotes;rw[c]⟩
 | none=>
  have h:=List.findIdx?_eq_none_iff.1 c;refine .inr ⟨λs g j=>?_,?_⟩
  ·have:=h s g
   rw[(fB (f.sok _ g)).2 j]at this;cases this
  cases e:la.findIdx? (bv · a) with
  | some i=>
   obtain⟨b,d,-⟩:=V4.1 e;rw[<-bp (O1 b)]at d;exact .inl ⟨i,b,d,by unfold denotes;rw[c,e]⟩
  | none=>exact .inr ⟨List.findIdx?_eq_none_iff.1 e,by unfold denotes;rw[c,e]⟩
theorem H9{h:ac}(k:qy h.Spans h.Larges){a c:Int} : cS h a c=true↔iK h.Spans a c:=by
 unfold cS;simp only[I0,N4,C0];constructor
 ·rintro⟨⟨b,j⟩,d⟩
  rcases kE k a with⟨i,g,l,f⟩|⟨-,⟨i,g,-,f⟩|⟨-,f⟩⟩
  ·rw[f]at b j d
   simp only[nL]at b j d;refine⟨_,am g,⟨l.1,l.2,j,?_⟩,by simpa using d⟩;cases e:aW (nth h.Spans i).Bits ((a - 16*(nth h.Spans i).Page) / csz (nth h.Spans i).Class) with
   | true=>rfl
   | false=>rw[e]at b;simp at b
  ·rw[f]at b;simp at b
  ·rw[f]at b;simp at b
 ·rintro⟨s,n,⟨o,p,q,r⟩,d⟩
  obtain⟨i,g,rfl⟩:=bc n;rw[iq k g ⟨o,p⟩];simp only[nL,q,r,if_true,true_and];simpa using d
theorem tE{sp:List au}{la:List a8}(a:qy sp la){l:a8}(b:l∈la):(∀s∈sp,¬(16*s.Page<=16*l.Page/\16*l.Page<=16*s.Page+15))/\bv l (16*l.Page)=true/\∀i,i<la.length->bv (nth la i) (16*l.Page)=true->nth la i=l:=by
 have k:=aT (a.lok _ b);have f:=ci (a.lok _ b);refine⟨λs g n=>?_,?_,λi d e=>?_⟩
 ·exact a.dis s g l b 0 ω ω
 ·unfold bv;rw[a.lok _ b,N0 ω];rfl
 ·obtain⟨j,h,rfl⟩:=bc b
  have o:=aT (a.lok _ (am d));have c:=a.lok _ (am d);unfold bP at c;rw[C0]at c;unfold bv at e;rw[I0,C0]at e;rw[a.one i j d h ((nth la j).Page - (nth la i).Page).toNat 0 ω ω ω]
theorem Hv{h:ac}(f:qy h.Spans h.Larges){o:bG} : ja h o=true↔J1 h.Spans h.Larges o:=by
 unfold ja;simp only[I0,N4,C0];constructor
 ·rintro⟨d,a⟩
  rcases kE f o.Addr with⟨i,b,g,c⟩|⟨-,⟨i,b,-,c⟩|⟨-,c⟩⟩
  ·rw[c]at a d
   simp only[nL]at a d;have j:aW (nth h.Spans i).Bits ((o.Addr - 16*(nth h.Spans i).Page) / csz (nth h.Spans i).Class)=true:=by
    cases e:aW (nth h.Spans i).Bits ((o.Addr - 16*(nth h.Spans i).Page) / csz (nth h.Spans i).Class) with
    | true=>rfl
    | false=>rw[e]at a;simp at a
   rw[j]at a;exact .inl ⟨_,am b,⟨g.1,g.2,d,j⟩,by simpa using a⟩
  ·rw[c]at a d
   simp only at a d;exact .inr ⟨_,am b,ω,by simpa using a⟩
  ·rw[c]at a;simp at a
 ·rintro(⟨s,j,⟨p,q,r,t⟩,u⟩|⟨l,k,w,y⟩)
  ·obtain⟨i,b,rfl⟩:=bc j
   rw[iq f b ⟨p,q⟩];simp only[nL,r,t,if_true,true_and];simp[u]
  ·obtain⟨A,n,B⟩:=tE f k
   rw[w];rcases kE f (16*l.Page) with⟨i,b,g,c⟩|⟨-,⟨i,b,C,c⟩|⟨D,c⟩⟩
   ·exact absurd g (A _ (am b))
   ·rw[c]
    have:=B i b C;simp only[this,U1];exact⟨ω,.inr ⟨trivial,y⟩⟩
   ·rw[D l k]at n;cases n
theorem Hr{sp:List au}{la:List a8}(d:qy sp la)(a:Int):a∈gQ sp la↔kG sp la a:=by
 constructor
 ·intro h
  unfold gQ jN at h;obtain⟨n,o,rfl⟩:=C3.1 h;have g:=(I3.1 o).2;unfold iQ at g;simp only[I0,N4,C0]at g;obtain⟨j,f⟩:=g;rcases kE d (n:Int) with⟨i,c,k,b⟩|⟨-,⟨i,c,-,b⟩|⟨-,b⟩⟩
  ·rw[b]at f j
   simp only[nL]at f j;refine .inl ⟨_,am c,⟨k.1,k.2,j,?_⟩,.inl ω⟩;cases e:aW (nth sp i).Bits (((n:Int) - 16*(nth sp i).Page) / csz (nth sp i).Class) with
   | true=>rfl
   | false=>rw[e]at f;simp at f
  ·rw[b]at j
   simp only at j;exact .inr ⟨_,am c,ω⟩
  ·rw[b]at f;simp at f
 ·rintro(⟨s,r,⟨t,g,u,w⟩,-⟩|⟨l,p,rfl⟩)
  ·obtain⟨i,c,rfl⟩:=bc r
   have b:=iq d c ⟨t,g⟩;exact sW d (by rw[b];exact u) (.inl (by rw[b];simp only[nL,w,if_true]))
  ·obtain⟨y,q,A⟩:=tE d p
   rcases kE d (16*l.Page) with⟨i,c,k,b⟩|⟨-,⟨i,c,B,b⟩|⟨o,b⟩⟩
   ·exact absurd k (y _ (am c))
   ·have:=A i c B
    exact sW d (by rw[b];simp only[this];omega) (.inr (by rw[b]))
   ·rw[o l p]at q;cases q
def RH(xs:List a7)(p:Int):Prop:=∃r∈xs,r.At<=p/\p<r.At+r.Len
theorem eI{pages:Int}{xs:List a7} : bw pages xs=true↔mQ xs/\(∀y∈xs,0<=y.At/\1<=y.Len/\y.At+y.Len<=pages)/\1<=pages/\pages<=32:=by
 constructor
 ·intro h
  obtain⟨a,b⟩:=yu h;unfold bw at h;simp only[I0,C0]at h;exact⟨a,b,h.2⟩
 ·rintro⟨a,b,d⟩
  unfold bw;simp only[I0,C0];refine⟨ch.2 λi c=>?_,d⟩;have f:=b _ (am c);unfold fj rangeIn;simp only[I0,C0];refine⟨ω,?_⟩;by_cases e:i=0
  ·exact .inl e
  ·right
   have:=List.pairwise_iff_getElem.1 a.1 (i - 1) i ω c ω
   rwa [<-bp (O1 (show i - 1<xs.length by omega)),<-bp (O1 c)]at this
theorem Am{pages:Int}{xs:List a7}(h:bw pages xs=true)(p:Int):xs.any (oU p)=true↔RH xs p:=by
 obtain⟨-,c,d⟩:=eI.1 h;rw[W2];refine⟨λ⟨r,a,b⟩=>⟨r,a,?_⟩,λ⟨r,a,b⟩=>⟨r,a,?_⟩⟩
 ·have:=c r a
  unfold oU at b;rw[er ω ω]at b;simpa using b
 ·have:=c r a
  unfold oU;rw[er ω ω];simpa using b
theorem sY(u:Int):∀(h:List a7)(r:a7)(out:List a7),mQ h->1<=r.Len->(∀y∈h,ovl y r=false)->(∀z∈out,z.At+z.Len<r.At/\∀y∈h,z.At+z.Len<y.At)->mQ out->(∀y∈r::(out++h),0<=y.At/\y.At+y.Len<=u)->∃o,iP h r out false=some o/\mQ o/\(∀y∈o,0<=y.At/\y.At+y.Len<=u)/\∀p,RH o p↔RH out p\/RH h p\/(r.At<=p/\p<r.At+r.Len)
 | [],r,out,_,A,_,k,l,f=>by
  refine⟨out++[r],by simp[iP],⟨List.pairwise_append.2 ⟨l.1,List.pairwise_singleton ..,λa B b f=>by rw[W0.1 f];exact(k a B).1⟩,λy n=>?_⟩,λy n=>f y (by simp at n |-;grind),λp=>by unfold RH;simp[or_and_right,exists_or]⟩;rcases W1.1 n with n|n
  ·exact l.2 y n
  ·rw[W0.1 n];exact A
 | y::h,r,out,g,A,H,k,l,f=>by
  have K:=g.2 y (C1 ..);have q:=H y (C1 ..);have j:=g.head;have O:=f y (by simp);have P:=f r (by simp);have C:∀w∈h,¬(w.At<r.At+r.Len/\r.At<w.At+w.Len):=λw d=>by
   have:=H w (W3 _ d);unfold ovl at this;simpa using this
  have t:∀w∈h,1<=w.Len:=λw d=>g.2 w (W3 _ d)
  rw[FR,C6 (by rw[q];simp)];unfold ovl at q;rw[P3]at q;by_cases L:y.At+y.Len=r.At
  ·rw[C7 L]
   obtain⟨o,D,E,F,G⟩:=sY u h ⟨y.At,y.Len+r.Len⟩ out g.tail (by simp only;omega) (λw d=>by
     have a:=j w d;have b:=C w d;have c:=t w d;unfold ovl;rw[P3];simp only;omega) (λz i=>⟨(k z i).2 y (C1 ..),λw d=>(k z i).2 w (W3 _ d)⟩) l (λw d=>by
     rcases List.mem_cons.1 d with rfl|d
     · simp only;omega
     · exact f w (by simp at d |-;grind))
   refine⟨o,D,E,F,λp=>?_⟩;rw[G];unfold RH;simp only[List.mem_cons,exists_eq_or_imp]
   grind
  rw[C6 L];by_cases M:r.At+r.Len=y.At
  ·rw[C7 M]
   obtain⟨o,D,E,F,G⟩:=sY u h ⟨r.At,r.Len+y.Len⟩ out g.tail (by simp only;omega) (λw d=>by
     have a:=j w d;have b:=C w d;have c:=t w d;unfold ovl;rw[P3];simp only;omega) (λz i=>⟨(k z i).1,λw d=>(k z i).2 w (W3 _ d)⟩) l (λw d=>by
     rcases List.mem_cons.1 d with rfl|d
     · simp only;omega
     · exact f w (by simp at d |-;grind))
   refine⟨o,D,E,F,λp=>?_⟩;rw[G];unfold RH;simp only[List.mem_cons,exists_eq_or_imp]
   grind
  rw[C6 M];by_cases N:y.At > r.At
  ·have J:r.At+r.Len<y.At:=ω
   rw[C7 ⟨N,rfl⟩,nz g.tail A λw d=>by have:=j w d;omega];refine⟨_,rfl,⟨?_,λw d=>?_⟩,λw d=>f w (by simp at d |-;grind),λp=>by unfold RH;simp[or_and_right,exists_or];grind⟩
   ·rw[Z3]
    refine List.pairwise_append.2 ⟨l.1,?_,λa B b f=>?_⟩
    ·show(r::y::h).Pairwise _
     refine List.pairwise_cons.2 ⟨λw d=>?_,g.1⟩;rcases List.mem_cons.1 d with rfl|d
     ·exact J
     ·have:=j w d;omega
    ·obtain⟨Q,R⟩:=k a B
     have f:b∈r::y::h:=f;rcases List.mem_cons.1 f with rfl|f
     ·exact Q
     ·exact R b f
   ·simp only[W1,List.mem_cons,List.not_mem_nil,or_false]at d
    rcases d with(d|rfl|rfl)|d
    ·exact l.2 w d
    ·exact A
    ·exact K
    ·exact t w d
  rw[C6 λe=>N e.1];obtain⟨o,D,E,F,G⟩:=sY u h r (out++[y]) g.tail A (λw d=>H w (W3 _ d)) (λz i=>by
    rcases W1.1 i with i|i
    · exact⟨(k z i).1,λw d=>(k z i).2 w (W3 _ d)⟩
    · rw[W0.1 i];exact⟨ω,j⟩) ⟨List.pairwise_append.2 ⟨l.1,List.pairwise_singleton ..,λa B b f=>by rw[W0.1 f];exact(k a B).2 y (C1 ..)⟩,λw d=>by
      rcases W1.1 d with d|d
      · exact l.2 w d
      · rw[W0.1 d];exact K⟩ (λw d=>f w (by simp at d |-;grind))
  refine⟨o,D,E,F,λp=>?_⟩;rw[G];unfold RH;simp[or_and_right,exists_or]
  grind
theorem rE{pages:Int}{xs:List a7}{r:a7}(h:bw pages xs=true)(j:0<=r.At/\1<=r.Len/\r.At+r.Len<=pages)(c:∀p,r.At<=p->p<r.At+r.Len->¬RH xs p):∃o,dl pages xs r=some o/\bw pages o=true/\∀p,RH o p↔RH xs p\/(r.At<=p/\p<r.At+r.Len):=by
 obtain⟨k,d,l⟩:=eI.1 h;have b:rangeIn pages r=true:=by unfold rangeIn;rw[C0];omega
 unfold dl;rw[C7 ⟨h,b⟩];obtain⟨o,n,f,g,q⟩:=sY pages xs r [] k j.2.1 (λy a=>by
   have:=d y a;unfold ovl;rw[P3];intro i;by_cases e:r.At<=y.At
   · exact c y.At e i.1 ⟨y,a,ω,ω⟩
   · exact c r.At ω ω ⟨y,a,ω,i.2⟩) (λz t=>by cases t) ⟨List.Pairwise.nil,λy a=>by cases a⟩ (λy a=>by
   rcases List.mem_cons.1 a with rfl|a
   · omega
   · have:=d y (by simpa using a);omega)
 refine⟨o,n,eI.2 ⟨f,λy a=>⟨(g y a).1,f.2 y a,(g y a).2⟩,l⟩,λp=>?_⟩;rw[q];unfold RH;simp
structure Pg(t:aG)(fr:List a7)(sp:List au)(la:List a8):Prop where
 one:∀l∈la,∀p:Nat,(p:Int)∈lpgs l l.Pages.toNat->∀q:Nat,q<t.Entries.length->(nth t.Entries q).Mode≠0->(nth t.Entries q).Frame=(nth t.Entries p).Frame->q=p
 bnd:∀p∈pgs sp la,p<t.Entries.length
 own:∀p:Nat,p<t.Entries.length->((nth t.Entries p).Mode≠0↔(p:Int)∈pgs sp la)
 fre:∀p:Nat,p<t.Entries.length->((nth t.Entries p).Mode≠0↔¬RH fr p)
 mesh:∀s∈sp,∀u∈sp,s.Page≠u.Page->(nth t.Entries s.Page.toNat).Frame=(nth t.Entries u.Page.toNat).Frame->meshable s u=true
structure bn(h:ac)(E:List Int):Prop where
 ker:aA h.Kernel=true
 rng:bw (dG h) h.Free=true
 lay:bi h.Spans h.Larges=true
 srs:h.Spans.Pairwise λa b=>a.Page<b.Page
 srl:h.Larges.Pairwise λa b=>a.Page<b.Page
 pg:Pg (tbl h) h.Free h.Spans h.Larges
 mail:b9 h.Mail=true
 nc:h.Caches.length=h.Mail.Buffers.length
 quar:eX h.Quar=true
 snc:∀x∈h.Quar.Lst,x.Since<=h.Clock
 cach:∀c∈h.Caches,bq c=true
 nums:ca h=true
 osr:h.Objs.Pairwise λa b=>a.Addr<b.Addr
 onu:∀o∈h.Objs,1<=o.Id/\o.Id<=h.Next - 1/\0<=o.Thread/\o.Thread<=h.Caches.length - 1
 oid:(h.Objs.map (·.Id)).Nodup
 oow:∀o∈h.Objs,J1 h.Spans h.Larges o
 hca:∀c∈h.Caches,∀k:Nat,k<c.Lists.length->∀a∈nth c.Lists k,iK h.Spans a k
 hqu:∀x∈h.Quar.Lst,iK h.Spans x.Addr x.Class
 hfl:∀a∈aL h.Mail,iK h.Spans a (-1)
 hin:∀a∈E,iK h.Spans a (-1)
 nd:(E++holders h).Nodup
 mem:∀a,a∈E++holders h↔kG h.Spans h.Larges a
 job:h.Meshing=true->iB h.Job=true/\(∃s∈h.Spans,s.Page=h.Job.Plan.Keep)/\∃s∈h.Spans,s.Page=h.Job.Plan.Move
 noj:h.Meshing=false->p7 h.Job=true
theorem bn.L{h:ac}{E:List Int}(a:bn h E):qy h.Spans h.Larges:=qy.of a.lay
theorem vW(t:aG)(f:Int):(pagesOn t f).Nodup:=by
 unfold pagesOn i7 List.Nodup;rw[List.pairwise_map];exact(List.nodup_range.sublist List.filter_sublist).imp λh e=>h ω
theorem JT{l:List Int}{a:Int}(b:l.Nodup)(d:a∈l)(c:∀x∈l,x=a):l.length=1:=by
 match l with
 | []=>cases d
 | [_]=>rfl
 | x::y::r=>
  exfalso;have e:=c x (by simp);have f:=c y (by simp);rw[e,f]at b;simp at b
theorem di{sp:List au}{la:List a8}{s:au}(a:s∈sp):s.Page∈pgs sp la:=by
 unfold pgs;exact W1.2 (.inl (C3.2 ⟨s,a,rfl⟩))
theorem eO{sp:List au}{la:List a8}{l:a8}(a:l∈la){p:Int}(b:p∈lpgs l l.Pages.toNat):p∈pgs sp la:=by
 unfold pgs;exact W1.2 (.inr (List.mem_flatMap.2 ⟨l,a,b⟩))
theorem Nb{h:ac}(n:bi h.Spans h.Larges=true)(P:bw (dG h) h.Free=true)(J:pages0 h=true)(t:mg h=true):Pg (tbl h) h.Free h.Spans h.Larges:=by
 have Q:=qy.of n;obtain⟨R,y,K⟩:=qu J;have S:∀p:Nat,p<dG h->((nth (tbl h).Entries p).Mode≠0↔¬RH h.Free p):=λp a=>by
  have d:=J;unfold pages0 at d;simp only[I0]at d;have A:=d6 d.2 a;unfold sM at A;rw[I0]at A;have L:=A.2;rw[<-Am P];cases e:h.Free.any (oU (p:Int))<;>rw[e]at L<;>simpa using L
 refine⟨λl B p f q T C D=>?_,y,K,S,λs U u V E M=>?_⟩
 ·obtain⟨i,o,rfl⟩:=bc B
  obtain⟨k,w,F⟩:=cZ.1 f;have a:p<dG h:=by have:=y _ (eO (sp:=h.Spans) B f);omega
  have r:=(K p a).2 (eO B f);have b:=R i o k w;rw[<-F,dY a r]at b;have N:(p:Int)∈pagesOn (tbl h) (nth (tbl h).Entries p).Frame:=df.2 ⟨a,r,rfl⟩;have O:(q:Int)∈pagesOn (tbl h) (nth (tbl h).Entries p).Frame:=df.2 ⟨T,C,D⟩;obtain⟨z,W⟩:=List.length_eq_one_iff.1 b;rw[W]at N O;simp only[W0]at N O;omega
 ·obtain⟨i,o,rfl⟩:=bc U
  obtain⟨j,G,rfl⟩:=bc V;have c:∀k,k<h.Spans.length->ar (tbl h) (nth h.Spans k).Page=nth (tbl h).Entries (nth h.Spans k).Page.toNat:=λk w=>by
   have X:=aE (Q.sok _ (am w));have Y:=y _ (di (la:=h.Larges) (am w));rw[show(nth h.Spans k).Page=(((nth h.Spans k).Page.toNat:Nat):Int) by omega];exact tp ω
  unfold mg at t;rw[ch]at t;rcases Nat.lt_trichotomy i j with g|H|g
  ·have b:=d6 (t j G) g
   unfold jv at b;rw[c i o,c j G,N4,C0]at b;rw[ia];exact b.resolve_left λe=>e M.symm
  ·subst H;exact absurd rfl E
  ·have b:=d6 (t i o) g
   unfold jv at b;rw[c i o,c j G,N4,C0]at b;exact b.resolve_left λe=>e M
theorem Ge(sp:List au):cw sp.length (ui sp)=true↔sp.Pairwise λa b=>a.Page<b.Page:=by
 rw[ch];refine Iff.trans ?_ (td (λa b:Int=>a<b) (λa b c=>Int.lt_trans) (λs:au=>s.Page) sp);unfold ui;simp only[C0]
theorem Ft(la:List a8):cw la.length (u6 la)=true↔la.Pairwise λa b=>a.Page<b.Page:=by
 rw[ch];refine Iff.trans ?_ (td (λa b:Int=>a<b) (λa b c=>Int.lt_trans) (λs:a8=>s.Page) la);unfold u6;simp only[C0]
theorem Mh{h:ac}(r:bi h.Spans h.Larges=true)(D:bw (dG h) h.Free=true)(h1:h.Spans.Pairwise λa b=>a.Page<b.Page)(E:h.Larges.Pairwise λa b=>a.Page<b.Page)(c:Pg (tbl h) h.Free h.Spans h.Larges):pages0 h=true/\mg h=true:=by
 have A:=qy.of r;constructor
 ·unfold pages0
  simp only[I0];refine⟨⟨⟨(Ge _).2 h1,ch.2 λi o=>?_⟩,X2.2 λp d=>N0 (c.bnd p d)⟩,ch.2 λp d=>?_⟩
  ·unfold qZ
   rw[I0];refine⟨d6 ((Ft _).2 E) o,ch.2 λk w=>?_⟩;have y:=am o;have L:=aT (A.lok _ y);obtain⟨p,d⟩ : ∃p:Nat,(nth h.Larges i).Page+(k:Nat)=(p:Nat):=⟨((nth h.Larges i).Page+k).toNat,ω⟩
   have g:(p:Int)∈lpgs (nth h.Larges i) (nth h.Larges i).Pages.toNat:=cZ.2 ⟨k,w,d.symm⟩;have l:p<dG h:=by have:=c.bnd _ (eO (sp:=h.Spans) y g);exact Int.ofNat_lt.1 this
   have t:=(c.own p l).2 (eO y g);unfold u7;rw[C0,d,dY l t];refine JT (vW ..) (df.2 ⟨l,t,rfl⟩) λx C=>?_
   obtain⟨q,rfl⟩:=rR C;obtain⟨F,G,H⟩:=df.1 C;rw[c.one _ y p g q F G H]
  ·unfold sM
   rw[I0,C0];refine⟨c.own p d,?_⟩;have B:=c.fre p d;rw[<-Am D]at B;cases e:h.Free.any (oU (p:Int))<;>rw[e]at B<;>simpa using B
 ·unfold mg
  refine ch.2 λi o=>ch.2 λj M=>?_
  have n:j<h.Spans.length:=ω
  have u:∀k,k<h.Spans.length->ar (tbl h) (nth h.Spans k).Page=nth (tbl h).Entries (nth h.Spans k).Page.toNat:=λk w=>by
   have N:=aE (A.sok _ (am w));have J:=c.bnd _ (di (la:=h.Larges) (am w));rw[show(nth h.Spans k).Page=(((nth h.Spans k).Page.toNat:Nat):Int) by omega];exact tp (by unfold dG;unfold tbl at J;omega)
  unfold jv;rw[u i o,u j n,N4,C0];by_cases e:(nth (tbl h).Entries (nth h.Spans i).Page.toNat).Frame=(nth (tbl h).Entries (nth h.Spans j).Page.toNat).Frame
  ·refine .inr (c.mesh _ (am o) _ (am n) (λK=>?_) e)
   have:=fG (f:=(·.Page)) A.nd o n K;omega
  ·exact .inl e
theorem GX{h:ac}(n:ca h=true)(q:qy h.Spans h.Larges):eK h=true↔(h.Objs.Pairwise λa b=>a.Addr<b.Addr)/\(∀o∈h.Objs,1<=o.Id/\o.Id<=h.Next - 1/\0<=o.Thread/\o.Thread<=h.Caches.length - 1)/\(h.Objs.map (·.Id)).Nodup/\∀o∈h.Objs,J1 h.Spans h.Larges o:=by
 unfold ca at n;rw[C0]at n;refine Iff.trans ?_ (and_congr (td (λa b:Int=>a<b) (λa b c=>Int.lt_trans) (λo:bG=>o.Addr) h.Objs) (and_congr Iff.rfl (and_congr (xR (λo:bG=>o.Id) h.Objs) Iff.rfl)));unfold eK;rw[er ω ω,ch];have p:∀i,i<h.Objs.length->(objAt (h.Next - 1) h i=true↔(i=0\/(nth h.Objs (i - 1)).Addr<(nth h.Objs i).Addr)/\(1<=(nth h.Objs i).Id/\(nth h.Objs i).Id<=h.Next - 1/\0<=(nth h.Objs i).Thread/\(nth h.Objs i).Thread<=h.Caches.length - 1)/\(∀o∈h.Objs.take i,o.Id≠(nth h.Objs i).Id)/\J1 h.Spans h.Larges (nth h.Objs i)):=λi d=>by
  unfold objAt gl;rw[I0,I0,C0,Hv q,Bool.not_eq_true',List.any_eq_false];simp only[jz,C0];constructor
  ·rintro⟨⟨⟨e,f⟩,g⟩,j⟩;exact⟨e,f,g,j⟩
  ·rintro⟨e,f,g,j⟩;exact⟨⟨⟨e,f⟩,g⟩,j⟩
 constructor
 ·intro r
  have k:=λi d=>(p i d).1 (r i d)
  refine⟨λi d=>(k i d).1,λo l=>?_,λi d=>(k i d).2.2.1,λo l=>?_⟩
  ·obtain⟨i,d,rfl⟩:=bc l;exact(k i d).2.1
  ·obtain⟨i,d,rfl⟩:=bc l;exact(k i d).2.2.2
 ·rintro⟨e,f,g,j⟩ i d
  exact(p i d).2 ⟨e i d,f _ (am d),g i d,j _ (am d)⟩
theorem DL{h:ac}(b:qy h.Spans h.Larges):gm h=true↔(∀c∈h.Caches,∀k:Nat,k<c.Lists.length->∀a∈nth c.Lists k,iK h.Spans a k)/\(∀x∈h.Quar.Lst,iK h.Spans x.Addr x.Class)/\∀a∈aL h.Mail,iK h.Spans a (-1):=by
 rw[jL];simp only[X2,dM,ch,pz,gd,iY,H9 b,and_assoc]
theorem Et{p:Int}{h:ac} : 0<=fw h p↔∃s∈h.Spans,s.Page=p:=by
 unfold fw;rw[show(0<=cQ (iN p) h.Spans)↔(decide (cQ (iN p) h.Spans≥0)=true) by simp,jl,W2];simp[iN]
theorem bn.to{h:ac}(b:bn h []):gh h=true:=by
 have d:=b.L;obtain⟨g,j⟩:=Mh b.lay b.rng b.srs b.srl b.pg;have e:=(GX b.nums d).2 ⟨b.osr,b.onu,b.oid,b.oow⟩;have f:=(DL d).2 ⟨b.hca,b.hqu,b.hfl⟩;unfold gh lL;simp only[I0];refine⟨⟨⟨⟨⟨⟨⟨⟨⟨⟨b.ker,b.rng⟩,b.lay⟩,g⟩,by rw[xx b.lay g];exact j⟩,?_⟩,?_⟩,X2.2 b.cach⟩,b.nums⟩,e,?_⟩,?_⟩
 ·unfold cX
  rw[b.mail,b.quar,N0 b.nc];rfl
 ·unfold kg
  exact X2.2 λx k=>N0 (b.snc x k)
 ·unfold hB
  have i:(holders h).Nodup:=by simpa using b.nd
  have c:∀a,a∈holders h↔a∈gQ h.Spans h.Larges:=λa=>by rw[Hr d,<-b.mem a];simp
  have l:(holders h).Perm (gQ h.Spans h.Larges):=(List.perm_ext_iff_of_nodup i (mA ..)).2 c;rw[f,N0 i,N0 l.length_eq];rfl
 ·unfold r9
  cases c:h.Meshing with
  | true=>
   obtain⟨n,o,p⟩:=b.job c;rw[C7 rfl,n,N0 (Et.2 o),N0 (Et.2 p)];rfl
  | false=>rw[C6 (by simp)];exact b.noj c
def dele{α:Type}(xs:List α)(i:Nat):List α:=xs.take i++xs.drop (i+1)
theorem eM{α:Type}(xs:List α)(i:Nat):(dele xs i).Sublist xs:=by
 unfold dele;rw[<-List.eraseIdx_eq_take_drop_succ];exact List.eraseIdx_sublist ..
theorem x6{α:Type}[Inhabited α]{xs:List α}{i:Nat}(a:i<xs.length):xs.Perm (nth xs i::dele xs i):=by
 have:xs=xs.take i++nth xs i::xs.drop (i+1):=by rw[<-iH a,List.take_append_drop]
 conv=>lhs;rw[this]
 exact List.perm_middle
theorem gJ{α:Type}[Inhabited α](f:α->List Int)(a:Int):∀(xs:List α)(i:Nat)(y:α),i<xs.length->((xs.set i y).flatMap f).count a+(f (nth xs i)).count a=(xs.flatMap f).count a+(f y).count a
 | [],i,_,h=>by cases h
 | x::xs,0,y,_=>by
  show((y::xs).flatMap f).count a+(f x).count a=((x::xs).flatMap f).count a+(f y).count a;rw[R4,R4,C4,C4];omega
 | x::xs,i+1,y,h=>by
  have:=gJ f a xs i y (by simpa using h);show((x::xs.set i y).flatMap f).count a+(f (nth xs i)).count a=((x::xs).flatMap f).count a+(f y).count a;rw[R4,R4,C4,C4];omega
theorem js(a:List (List Int)):a.flatten=a.flatMap λx=>x:=by
 induction a with
 | nil=>rfl
 | cons x xs b=>rw[List.flatten_cons,R4,b]
theorem iK.any{sp:List au}{a c:Int}(h:iK sp a c):iK sp a (-1):=by
 obtain⟨s,b,d,-⟩:=h;exact⟨s,b,d,.inl (by decide)⟩
theorem bn.cells{h:ac}{E:List Int}(a:bn h E){k:af}(c:aA k=true)(b:k.Machine.Table=h.Kernel.Machine.Table):bn {h with Kernel:=k} E:=
 {a with
   ker:=c
   rng:=by show bw ((k.Machine.Table.Entries.length:Nat):Int) h.Free=true;rw[b];exact a.rng
   pg:=by show Pg k.Machine.Table h.Free h.Spans h.Larges;rw[b];exact a.pg}
theorem bn.dropO{h:ac}{E:List Int}{i:Nat}(b:bn h E)(g:i<h.Objs.length)(j:iK h.Spans (nth h.Objs i).Addr (-1)):bn {h with Objs:=dele h.Objs i} ((nth h.Objs i).Addr::E):=by
 have f:(E++holders h).Perm (((nth h.Objs i).Addr::E)++holders {h with Objs:=dele h.Objs i}):=by
  have k:=(x6 g).map (·.Addr);refine List.perm_iff_count.2 λa=>?_
  have l:=k.count_eq a;simp only[z4,List.count_cons]at l;simp only[holders,bY,C4,List.cons_append,List.count_cons];omega
 have c:(dele h.Objs i).Sublist h.Objs:=eM ..;exact {b with
   osr:=b.osr.sublist c
   onu:=λo d=>b.onu o (c.subset d)
   oid:=b.oid.sublist (c.map _)
   oow:=λo d=>b.oow o (c.subset d)
   hin:=λa e=>by
     rcases List.mem_cons.1 e with rfl|e
     · exact j
     · exact b.hin a e
   nd:=f.nodup_iff.1 b.nd
   mem:=λa=>by rw[<-f.mem_iff];exact b.mem a}
def lH(c:aB)(k:Nat)(a:Int):aB:=⟨c.Lists.set k (nth c.Lists k++[a])⟩
theorem bn.put{h:ac}{E:List Int}{a:Int}{t k:Nat}(g:bn h (a::E))(l:t<h.Caches.length)(q:k<(nth h.Caches t).Lists.length)(r:iK h.Spans a k)(u:bq (lH (nth h.Caches t) k a)=true):bn {h with Caches:=h.Caches.set t (lH (nth h.Caches t) k a)} E:=by
 have n:(a::E++holders h).Perm (E++holders {h with Caches:=h.Caches.set t (lH (nth h.Caches t) k a)}):=by
  refine List.perm_iff_count.2 λb=>?_
  have w:=gJ (λc:aB=>c.Lists.flatten) b h.Caches t (lH (nth h.Caches t) k a) l;have p:=gJ (λx:List Int=>x) b (nth h.Caches t).Lists k (nth (nth h.Caches t).Lists k++[a]) q;rw[<-js,<-js]at p;simp only[C4,List.count_singleton]at p;simp only[lH]at w;simp only[holders,bY,lH,C4,List.cons_append,List.count_cons];omega
 exact {g with
   nc:=by show(h.Caches.set ..).length=_;rw[X0];exact g.nc
   cach:=λc d=>by
     rcases P4 d with d|rfl
     · exact g.cach c d
     · exact u
   onu:=by show ∀o∈h.Objs,1<=o.Id/\o.Id<=h.Next - 1/\0<=o.Thread/\o.Thread<=(h.Caches.set t _).length - 1;rw[X0];exact g.onu
   hca:=λc d j i b f=>by
     rcases P4 d with d|rfl
     · exact g.hca c d j i b f
     · simp only[lH,X0]at i
       simp only[lH,cq]at f;by_cases e:k=j
       · subst e
         rw[C7 ⟨rfl,i⟩]at f;rcases W1.1 f with f|f
         · exact g.hca _ (am l) _ i b f
         · rw[W0.1 f];exact r
       · rw[C6 λx=>e x.1]at f
         exact g.hca _ (am l) _ i b f
   hin:=λb f=>g.hin b (W3 _ f)
   nd:=n.nodup_iff.1 g.nd
   mem:=λb=>by rw[<-n.mem_iff];exact g.mem b}
theorem bn.toQuar{h:ac}{E:List Int}{x:aM}{q:bC}{out:List aM}(d:bn h (x.Addr::E))(i:eX q=true)(f:h.Quar.Lst++[x]=out++q.Lst)(j:x.Since<=h.Clock)(k:iK h.Spans x.Addr x.Class):bn {h with Quar:=q} (out.map (·.Addr)++E):=by
 have c:∀y∈out++q.Lst,y.Since<=h.Clock/\iK h.Spans y.Addr y.Class:=λy a=>by
  rw[<-f]at a;rcases W1.1 a with a|a
  ·exact⟨d.snc y a,d.hqu y a⟩
  ·rw[W0.1 a];exact⟨j,k⟩
 have g:(x.Addr::E++holders h).Perm ((out.map (·.Addr)++E)++holders {h with Quar:=q}):=by
  refine List.perm_iff_count.2 λb=>?_
  have n:=Q0 (λl:List aM=>(l.map (·.Addr)).count b) f;simp only[t4,C4,z4,List.map_nil,List.count_singleton]at n;simp only[holders,bY,C4,List.cons_append,List.count_cons];omega
 exact {d with
   quar:=i
   snc:=λy a=>(c y (W1.2 (.inr a))).1
   hqu:=λy a=>(c y (W1.2 (.inr a))).2
   hin:=λb e=>by
     rcases W1.1 e with e|e
     · obtain⟨y,a,rfl⟩:=C3.1 e
       exact(c y (W1.2 (.inl a))).2.any
     · exact d.hin b (W3 _ e)
   nd:=g.nodup_iff.1 d.nd
   mem:=λb=>by rw[<-g.mem_iff];exact d.mem b}
def w8(b i:Int):Int:=((BitVec.ofInt IntKind.i64.bits b &&& ~~~BitVec.ofInt IntKind.i64.bits (2 ^ i.toNat)).toNat:Nat)
def lw(s:au)(i:Int):au:={s with Bits:=w8 s.Bits i}
theorem fy(b i:Int):aW b i=true↔0<=b/\0<=i/\i<=15/\b.toNat.testBit i.toNat=true:=by
 unfold aW;rw[C0];refine and_congr_right λa=>and_congr_right λc=>and_congr_right λ_=>?_
 obtain⟨n,rfl⟩:=V1 a;rw[Nat.testBit_eq_decide_div_mod_eq,C0,U1]
 norm_cast
theorem Ai{b i:Int}(f:0<=b/\b<=65535)(a:0<=i/\i<=15)(j:Nat):(w8 b i).toNat.testBit j=(b.toNat.testBit j&&decide (i.toNat≠j)):=by
 have g:(2:Int) ^ i.toNat<=32768/\0<=(2:Int) ^ i.toNat:=by
  obtain⟨n,rfl⟩:=V1 a.1;rw[U1];have:(2:Nat) ^ n<=2 ^ 15:=Nat.pow_le_pow_right (by decide) ω;have c:((2 ^ n:Nat):Int)=(2:Int) ^ n:=Int.natCast_pow 2 n;rw[<-c];exact⟨Int.ofNat_le.2 this,Int.natCast_nonneg _⟩
 unfold w8;rw[U1,BitVec.testBit_toNat,BitVec.getLsbD_and,BitVec.getLsbD_not,<-BitVec.testBit_toNat,<-BitVec.testBit_toNat,lA ω,lA ω];rw[show((2:Int) ^ i.toNat).toNat=2 ^ i.toNat by rw[show(2:Int) ^ i.toNat=((2 ^ i.toNat:Nat):Int) by norm_cast,U1],Nat.testBit_two_pow];by_cases d:j<64
 ·rw[show decide (j<IntKind.i64.bits)=true from N0 d,Bool.true_and]
  congr 1
  by_cases e:i.toNat=j
  ·rw[N0 e,O0 (λx=>x e)];rfl
  ·rw[O0 e,N0 e];rfl
 ·rw[Nat.testBit_lt_two_pow (x:=b.toNat) (i:=j) (R2 (show b.toNat<2 ^ 16 by omega) (Nat.pow_le_pow_right (by decide) ω))]
  rfl
theorem yI{b i:Int}(a:0<=b/\b<=65535):0<=w8 b i/\w8 b i<=b:=by
 unfold w8;refine⟨ω,?_⟩;rw[BitVec.toNat_and,lA ω];have:=Nat.and_le_left (n:=b.toNat) (m:=(~~~BitVec.ofInt IntKind.i64.bits (2 ^ i.toNat)).toNat);omega
theorem GU{b i:Int}(a:0<=b/\b<=65535)(h:0<=i/\i<=15)(j:Int):aW (w8 b i) j=true↔aW b j=true/\j≠i:=by
 rw[fy,fy,Ai a h,I0,C0];have:=yI (i:=i) a;constructor
 ·rintro⟨k,c,d,f,g⟩;exact⟨⟨a.1,c,d,f⟩,λe=>g (by rw[e])⟩
 ·rintro⟨⟨k,c,d,f⟩,g⟩;exact⟨this.1,c,d,f,λe=>g ω⟩
theorem dZ{s:au}(h:aX s=true):0<=s.Bits/\s.Bits<=65535:=by
 unfold aX at h;simp only[C0]at h;have:=Eg s.Class;omega
theorem EF{s:au}(h:aX s=true)(i:Int):aX (lw s i)=true:=by
 have b:=dZ h;have a:=yI (i:=i) b;unfold aX at h;rw[C0]at h;obtain⟨c,d,e,f,j,g⟩:=h;exact N0 ⟨c,d,e,f,a.1,Int.le_trans a.2 g⟩
theorem qz{s u:au}(a:aX s=true){i:Int}(b:0<=i/\i<=15)(h:meshable s u=true):meshable (lw s i) u=true:=by
 unfold meshable at h |-;simp only[I0,C0]at h |-;obtain⟨⟨c,d⟩,e,f,g⟩:=h;refine⟨⟨EF c i,d⟩,e,f,?_⟩;refine Nat.eq_of_testBit_eq λj=>?_
 have:=Q0 (λn=>Nat.testBit n j) g;simp only[Nat.testBit_and,Nat.zero_testBit,lw,Ai (dZ a) b]at this |-;cases k:s.Bits.toNat.testBit j<;>cases l:u.Bits.toNat.testBit j<;>rw[k,l]at this<;>simp_all
def dI(s:au)(a:Int):Int:=(a - 16*s.Page) / csz s.Class
theorem qW{s:au}(h:aX s=true){a:Int}(c:16*s.Page<=a/\a<=16*s.Page+15):0<=dI s a/\dI s a<=15:=by
 have b:=aE h;unfold dI;rcases ce ⟨b.2.2.1,b.2.2.2⟩ with e|e|e|e<;>rw[e]<;>omega
theorem BS{s:au}(h:aX s=true){a b:Int}(d:(a - 16*s.Page) % csz s.Class=0)(f:(b - 16*s.Page) % csz s.Class=0)(e:dI s a=dI s b):a=b:=by
 have c:=aE h;unfold dI at e;rcases ce ⟨c.2.2.1,c.2.2.2⟩ with z|z|z|z<;>rw[z]at d f e<;>omega
theorem wU{s:au}(h:aX s=true){a:Int}(k:eJ s a)(b:Int):eJ (lw s (dI s a)) b↔eJ s b/\b≠a:=by
 obtain⟨l,n,o,p⟩:=k;have d:=qW h ⟨l,n⟩;unfold eJ;simp only[lw];rw[GU (dZ h) d];constructor
 ·rintro⟨f,g,c,i,j⟩
  exact⟨⟨f,g,c,i⟩,λe=>j (by rw[e];rfl)⟩
 ·rintro⟨⟨f,g,c,i⟩,j⟩
  exact⟨f,g,c,i,λe=>j (BS h c o e)⟩
theorem en{α:Type}[Inhabited α]{xs:List α}{i:Nat}{y z:α}(h:z∈xs.set i y):z=y\/∃j,j<xs.length/\j≠i/\nth xs j=z:=by
 obtain⟨j,a,rfl⟩:=List.mem_iff_getElem.1 h;rw[List.getElem_set];by_cases e:i=j
 ·subst e;simp
 ·rw[C6 e]
  rw[X0]at a;exact .inr ⟨j,a,λx=>e x.symm,bp (O1 a)⟩
theorem iy{α:Type}[Inhabited α]{xs:List α}{i j:Nat}(y:α)(a:j<xs.length)(e:j≠i):nth xs j∈xs.set i y:=by
 have:nth (xs.set i y) j=nth xs j:=by rw[cq,C6 λx=>e x.1.symm]
 rw[<-this];exact am (by rw[X0];exact a)
theorem gT{α:Type}{xs:List α}{i:Nat}(y:α)(a:i<xs.length):y∈xs.set i y:=by
 refine List.mem_iff_getElem.2 ⟨i,by rw[X0];exact a,by simp⟩
theorem H3{sp:List au}{i:Nat}(k:Int)(a:i<sp.length):(sp.set i (lw (nth sp i) k)).map (·.Page)=sp.map (·.Page):=by
 rw[I4];refine List.ext_getElem (by simp) λj b c=>?_
 rw[List.getElem_set];split
 ·rename_i e;subst e
  rw[List.getElem_map];show(nth sp i).Page=_;rw[bp (O1 a)]
 ·rfl
theorem iK.set{sp:List au}{la:List a8}(q:qy sp la){i:Nat}(k:i<sp.length){a:Int}(l:eJ (nth sp i) a)(b c:Int):iK (sp.set i (lw (nth sp i) (dI (nth sp i) a))) b c↔iK sp b c/\b≠a:=by
 have g:=q.sok _ (am k);constructor
 ·rintro⟨s,o,d,h⟩
  rcases en o with rfl|⟨j,n,r,rfl⟩
  ·have:=(wU g l b).1 d
   exact⟨⟨_,am k,this.1,h⟩,this.2⟩
  ·refine⟨⟨_,am n,d,h⟩,λe=>?_⟩
   subst e;have:=fG (f:=(·.Page)) q.nd k n (by have t:=l.1;have u:=l.2.1;have w:=d.1;have y:=d.2.1;omega);omega
 ·rintro⟨⟨s,o,d,h⟩,p⟩
  obtain⟨j,n,rfl⟩:=bc o;by_cases e:j=i
  ·subst e
   exact⟨_,gT _ k,(wU g l b).2 ⟨d,p⟩,h⟩
  ·exact⟨_,iy _ n e,d,h⟩
theorem bn.give{h:ac}{E:List Int}{a:Int}{i:Nat}(d:bn h (a::E))(J:i<h.Spans.length)(K:eJ (nth h.Spans i) a):bn {h with Spans:=h.Spans.set i (lw (nth h.Spans i) (dI (nth h.Spans i) a))} E:=by
 have G:=d.L;have Q:=G.sok _ (am J);have M:=qW Q ⟨K.1,K.2.1⟩;have f:=λb c=>iK.set G J K b c
 have A:=H3 (dI (nth h.Spans i) a) J;generalize R:h.Spans.set i (lw (nth h.Spans i) (dI (nth h.Spans i) a))=sp at f A;have q:pgs sp h.Larges=pgs h.Spans h.Larges:=by unfold pgs;rw[A]
 have B:=d.nd;rw[List.cons_append]at B;obtain⟨S,B⟩:=List.nodup_cons.1 B;have r:∀b,b∈E++holders h->b≠a:=λb g e=>S (by rw[<-e];exact g)
 have C:∀b,b∈holders h->b≠a:=λb g=>r b (W1.2 (.inr g))
 have T:∀l∈h.Larges,16*l.Page≠a:=λl O e=>(tE G O).1 _ (am J) (by have a1:=K.1;have a2:=K.2.1;omega)
 have t:∀s∈sp,∃u∈h.Spans,u.Page=s.Page/\(s=u\/s=lw u (dI (nth h.Spans i) a)):=λs p=>by
  rw[<-R]at p;rcases en p with rfl|⟨j,hj,hji,rfl⟩
  ·exact⟨_,am J,rfl,.inr rfl⟩
  ·exact⟨_,am hj,rfl,.inl rfl⟩
 have N:∀u∈h.Spans,∃s∈sp,s.Page=u.Page:=λu y=>by
  have:u.Page∈sp.map (·.Page):=by rw[A];exact C3.2 ⟨u,y,rfl⟩
  obtain⟨s,p,e⟩:=C3.1 this;exact⟨s,p,e⟩
 exact {d with
   lay:=by
     obtain⟨l1,l2,l3⟩:=cT d.lay;unfold bi;simp only[I0,C0];refine⟨⟨X2.2 λs p=>?_,l2⟩,by rw[q];exact l3⟩;obtain⟨u,y,-,rfl|rfl⟩:=t s p
     · exact G.sok _ y
     · exact EF (G.sok _ y) _
   srs:=by
     have n:(h.Spans.map (·.Page)).Pairwise (λa b=>a<b):=List.pairwise_map.2 d.srs;rw[<-A]at n;exact List.pairwise_map.1 n
   pg:=⟨d.pg.one,by rw[q];exact d.pg.bnd,by rw[q];exact d.pg.own,d.pg.fre,λs p u y r hf=>by
     obtain⟨U,D,Z,V⟩:=t s p;obtain⟨P,F,eu,W⟩:=t u y;have n:=d.pg.mesh U D P F (by rw[Z,eu];exact r) (by rw[Z,eu];exact hf);have w:meshable s P=true:=by
       rcases V with rfl|rfl
       · exact n
       · exact qz (G.sok _ D) M n
     rcases W with rfl|rfl
     · exact w
     · rw[ia]at w |-;exact qz (G.sok _ F) M w⟩
   oow:=λo ho=>by
     have X:o.Addr≠a:=C _ (by unfold holders;simp only[W1];exact .inl (.inl (.inl (C3.2 ⟨o,ho,rfl⟩))));rcases d.oow o ho with⟨s,p,n,w⟩|n
     · obtain⟨u,y,Y,H⟩:=(f o.Addr (aN o.Size)).2 ⟨⟨s,p,n,.inr w⟩,X⟩
       refine .inl ⟨u,y,Y,?_⟩;rcases H with H|H
       · have:=aE (G.sok _ p);omega
       · exact H
     · exact .inr n
   hca:=λc hc k hk b g=>(f b k).2 ⟨d.hca c hc k hk b g,C b (by
     unfold holders bY;simp only[W1];exact .inl (.inl (.inr (List.mem_flatMap.2 ⟨c,hc,List.mem_flatten.2 ⟨_,am hk,g⟩⟩))))⟩
   hqu:=λx hx=>(f _ _).2 ⟨d.hqu x hx,C _ (by unfold holders;simp only[W1];exact .inl (.inr (C3.2 ⟨x,hx,rfl⟩)))⟩
   hfl:=λb g=>(f _ _).2 ⟨d.hfl b g,C _ (by unfold holders;simp only[W1];exact .inr g)⟩
   hin:=λb g=>(f _ _).2 ⟨d.hin b (W3 _ g),r b (W1.2 (.inl g))⟩
   nd:=B
   mem:=λb=>by
     show b∈E++holders h↔kG sp h.Larges b;have n:=d.mem b;rw[List.cons_append,List.mem_cons]at n;unfold kG at n |-;rw[f];constructor
     · intro g
       rcases n.1 (.inr g) with w|w
       · exact .inl ⟨w,r b g⟩
       · exact .inr w
     · rintro(⟨w,h3⟩|⟨l,O,rfl⟩)
       · exact(n.2 (.inl w)).resolve_left h3
       · exact(n.2 (.inr ⟨l,O,rfl⟩)).resolve_left (T l O)
   job:=λhm=>by
     obtain⟨j1,⟨s,p,e1⟩,⟨u,y,e2⟩⟩:=d.job hm;obtain⟨U,D,Y⟩:=N s p;obtain⟨P,F,H⟩:=N u y;exact⟨j1,⟨U,D,Y.trans e1⟩,⟨P,F,H.trans e2⟩⟩}
def dH(k:af)(p:Int):Nat->af
 | 0=>k
 | n+1=>dB (dH k p n) (p+n)
theorem jM{k:af}(h:aA k=true)(p:Int):∀n,aA (dH k p n)=true
 | 0=>h
 | n+1=>vD _ (jM h p n)
theorem gS(k:af)(p:Int):∀n,(dH k p n).Machine.Table.Entries.length=k.Machine.Table.Entries.length/\(dH k p n).Calls=k.Calls/\(dH k p n).Refuse=k.Refuse
 | 0=>⟨rfl,rfl,rfl⟩
 | n+1=>by
  obtain⟨a,b,c⟩:=gS k p n;obtain⟨d,e,f⟩:=ox (dH k p n) (p+n);exact⟨d.trans a,e.trans b,f.trans c⟩
theorem ug{k:af}(h:aA k=true){p:Int}(d:0<=p/\p<k.Machine.Table.Entries.length)(q:Nat):nth (dB k p).Machine.Table.Entries q=if(q:Int)=p then⟨0,0⟩ else nth k.Machine.Table.Entries q:=by
 have g:ar k.Machine.Table p=nth k.Machine.Table.Entries p.toNat:=by unfold ar;rw[C7 d]
 unfold dB;split
 ·rename_i a
  split
  ·rename_i i
   rw[g]at a;have b:=(bx.1 (aC.1 h).2.2.1).1 p.toNat ω;unfold j8 at b;rw[C0]at b;have c:=b.2.2.1 a;rw[show q=p.toNat by omega];generalize nth k.Machine.Table.Entries p.toNat=e at a c;obtain⟨m,f⟩:=e;simp only at a c;rw[a,c]
  ·rfl
 ·rw[(n7 _ _).1]
  simp only[oW,cq];by_cases e:(q:Int)=p
  ·rw[C7 ⟨ω,ω⟩,C7 e]
  ·rw[C6 λx=>e ω,C6 e]
theorem kR{k:af}(h:aA k=true){p:Int}(b:0<=p):∀n:Nat,p+n<=k.Machine.Table.Entries.length->∀q:Nat,nth (dH k p n).Machine.Table.Entries q=if p<=q/\(q:Int)<p+n then⟨0,0⟩ else nth k.Machine.Table.Entries q
 | 0,_,q=>by rw[C6 ω];rfl
 | n+1,f,q=>by
  have c:=kR h b n ω q;have d:=ug (jM h p n) (p:=p+n) ⟨ω,by rw[(gS k p n).1];omega⟩ q;show nth (dB (dH k p n) (p+n)).Machine.Table.Entries q=_;rw[d,c];by_cases e:(q:Int)=p+n
  ·rw[C7 e,C7 ⟨ω,ω⟩]
  ·rw[C6 e]
   by_cases a:p<=q/\(q:Int)<p+n
   ·rw[C7 a,C7 ⟨ω,ω⟩]
   ·rw[C6 a,C6 ω]
theorem Bg{α β:Type}(f:α->List β){xs c:List α}(h:xs.Sublist c):(xs.flatMap f).Sublist (c.flatMap f):=by
 induction h with
 | slnil=>exact List.Sublist.refl _
 | cons a _ b=>rw[R4];exact b.trans (List.sublist_append_right ..)
 | cons_cons a _ b=>rw[R4,R4];exact List.Sublist.append (List.Sublist.refl _) b
theorem tO{h:ac}{E:List Int}(c:bn h E){sp:List au}{la:List a8}{p:Int}{n:Nat}(Y:1<=n)(w:sp.Sublist h.Spans)(D:la.Sublist h.Larges)(j:∀q:Int,p<=q->q<p+n->q∈pgs h.Spans h.Larges)(K:0<=p)(F:∀q,q∈pgs sp la↔q∈pgs h.Spans h.Larges/\¬(p<=q/\q<p+n)) :
  ∃o,dl (dG h) h.Free ⟨p,n⟩ = some o/\aA (dH h.Kernel p n)=true/\bw ((dH h.Kernel p n).Machine.Table.Entries.length:Nat) o=true/\bi sp la=true/\Pg (dH h.Kernel p n).Machine.Table o sp la:=by
 have t:=c.pg.bnd _ (j (p+n - 1) ω ω);have a:=(gS h.Kernel p n).1;have y:p+n<=h.Kernel.Machine.Table.Entries.length:=by unfold tbl at t;omega
 have g:=kR c.ker K n y;obtain⟨o,Q,R,S⟩:=rE (r:=⟨p,n⟩) c.rng ⟨K,by simp only;omega,y⟩ λq M N=>by
  simp only at M N;obtain⟨m,rfl⟩:=V1 (show 0<=q by omega);have A:m<(tbl h).Entries.length:=by unfold tbl;omega
  exact(c.pg.fre m A).1 ((c.pg.own m A).2 (j _ M N))
 refine⟨o,Q,jM c.ker p n,by rw[a];exact R,?_,?_⟩
 ·obtain⟨T,U,V⟩:=cT c.lay
  unfold bi;simp only[I0,C0];exact⟨⟨X2.2 λs d=>X2.1 T s (w.subset d),X2.2 λl d=>X2.1 U l (D.subset d)⟩,V.sublist ((w.map _).append (Bg _ D))⟩
 ·have i:∀q:Nat,(q:Int)∈pgs sp la->nth (dH h.Kernel p n).Machine.Table.Entries q=nth (tbl h).Entries q:=λq f=>by rw[g,C6 ((F q).1 f).2];rfl
  have b:∀q:Nat,(nth (dH h.Kernel p n).Machine.Table.Entries q).Mode≠0↔(nth (tbl h).Entries q).Mode≠0/\¬(p<=q/\(q:Int)<p+n):=λq=>by
   rw[g];by_cases e:p<=q/\(q:Int)<p+n
   ·rw[C7 e];exact⟨λx=>absurd rfl x,λx=>absurd e x.2⟩
   ·rw[C6 e];exact⟨λx=>⟨x,e⟩,λx=>x.1⟩
  refine⟨λl d q f r O G B=>?_,λq f=>?_,λq f=>?_,λq f=>?_,λs d u H J P=>?_⟩
  ·have C:=(b r).1 G
   rw[a]at O;rw[i q (eO d f),g,C6 C.2]at B;exact c.pg.one l (D.subset d) q f r O C.1 B
  ·rw[a];exact c.pg.bnd q ((F q).1 f).1
  ·rw[a]at f
   rw[b,F,c.pg.own q f]
  ·rw[a]at f
   rw[b,S,c.pg.fre q f];simp only
   grind
  ·have k:∀s∈sp,0<=s.Page:=λs d=>(aE (c.L.sok s (w.subset d))).1
   have W:=i s.Page.toNat (by rw[Int.toNat_of_nonneg (k s d)];exact di d);have X:=i u.Page.toNat (by rw[Int.toNat_of_nonneg (k u H)];exact di H);rw[W,X]at P;exact c.pg.mesh s (w.subset d) u (w.subset H) J P
theorem dP{α:Type}[Inhabited α]{xs:List α}{k:Nat}{z:α} : z∈dele xs k↔∃j,j<xs.length/\j≠k/\nth xs j=z:=by
 unfold dele;rw[W1];constructor
 ·rintro(h|h)
  ·obtain⟨j,a,rfl⟩:=List.mem_take_iff_getElem.1 h
   exact⟨j,ω,ω,bp (O1 ω)⟩
  ·obtain⟨j,a,rfl⟩:=List.mem_drop_iff_getElem.1 h
   exact⟨k+1+j,ω,ω,bp (O1 ω)⟩
 ·rintro⟨j,a,b,rfl⟩
  rw[bp (O1 a)];by_cases e:j<k
  ·exact .inl (List.mem_take_iff_getElem.2 ⟨j,ω,rfl⟩)
  ·refine .inr (List.mem_drop_iff_getElem.2 ⟨j - (k+1),ω,?_⟩)
   congr 1;omega
theorem nB{sp:List au}{la:List a8}{q:Int} : q∈pgs sp la↔(∃s∈sp,s.Page=q)\/∃l∈la,q∈lpgs l l.Pages.toNat:=by
 unfold pgs;simp only[W1,C3,List.mem_flatMap]
theorem zk{s:au}(h:s.Bits=0)(a:Int):¬eJ s a:=by
 rintro⟨-,-,-,b⟩
 rw[fy,h]at b;simp at b
theorem bn.giveSpan{h:ac}{E:List Int}{i:Nat}(g:bn h E)(B:i<h.Spans.length)(y:(nth h.Spans i).Bits=0)(W:h.Meshing=true->(nth h.Spans i).Page≠h.Job.Plan.Keep/\(nth h.Spans i).Page≠h.Job.Plan.Move) :
  ∃o,dl (dG h) h.Free ⟨(nth h.Spans i).Page,1⟩ = some o/\bn {h with Kernel:=dB h.Kernel (nth h.Spans i).Page,Spans:=dele h.Spans i,Free:=o} E:=by
 have F:=g.L;have G:=aE (F.sok _ (am B));have A:∀q,q∈pgs (dele h.Spans i) h.Larges↔q∈pgs h.Spans h.Larges/\¬((nth h.Spans i).Page<=q/\q<(nth h.Spans i).Page+(1:Nat)):=λq=>by
  rw[nB,nB];constructor
  ·rintro(⟨s,r,rfl⟩|⟨l,C,D⟩)
   ·obtain⟨j,d,H,rfl⟩:=dP.1 r
    refine⟨.inl ⟨_,am d,rfl⟩,λe=>H (fG (f:=(·.Page)) F.nd d B ω)⟩
   ·refine⟨.inr ⟨l,C,D⟩,λe=>?_⟩
    obtain⟨k,J,rfl⟩:=cZ.1 D;exact F.dis _ (am B) l C k J ω
  ·rintro⟨⟨s,r,rfl⟩|⟨l,C,D⟩,K⟩
   ·obtain⟨j,d,rfl⟩:=bc r
    refine .inl ⟨_,dP.2 ⟨j,d,λe=>K (by subst e;omega),rfl⟩,rfl⟩
   ·exact .inr ⟨l,C,D⟩
 obtain⟨o,X,Q,R,Y,S⟩:=tO g (sp:=dele h.Spans i) (la:=h.Larges) (p:=(nth h.Spans i).Page) (n:=1) (Z1 _) (eM ..) (List.Sublist.refl _) (λq q1 q2=>by rw[show q=(nth h.Spans i).Page by omega];exact di (am B)) G.1 A;have M:dH h.Kernel (nth h.Spans i).Page 1=dB h.Kernel (nth h.Spans i).Page:=by show dB h.Kernel ((nth h.Spans i).Page+((0:Nat):Int))=_;rw[show(nth h.Spans i).Page+((0:Nat):Int)=(nth h.Spans i).Page by omega]
 rw[M]at Q R S;have t:∀b c,iK (dele h.Spans i) b c↔iK h.Spans b c:=λb c=>by
  constructor
  ·rintro⟨s,r,w⟩;exact⟨s,(eM ..).subset r,w⟩
  ·rintro⟨s,r,w,N⟩
   obtain⟨j,d,rfl⟩:=bc r;exact⟨_,dP.2 ⟨j,d,λe=>zk y b (by rw[<-e];exact w),rfl⟩,w,N⟩
 refine⟨o,X,{g with
   ker:=Q
   rng:=R
   lay:=Y
   srs:=g.srs.sublist (eM ..)
   pg:=S
   oow:=λZ ho=>?_
   hca:=λc G k J b y=>(t b k).2 (g.hca c G k J b y)
   hqu:=λx hx=>(t _ _).2 (g.hqu x hx)
   hfl:=λb y=>(t _ _).2 (g.hfl b y)
   hin:=λb y=>(t _ _).2 (g.hin b y)
   mem:=λb=>(g.mem b).trans ?_
   job:=λT=>?_}⟩
 ·rcases g.oow Z ho with⟨s,r,w,N⟩|w
  ·obtain⟨j,d,rfl⟩:=bc r
   exact .inl ⟨_,dP.2 ⟨j,d,λe=>zk y _ (by rw[<-e];exact w),rfl⟩,w,N⟩
  ·exact .inr w
 ·unfold kG;rw[t]
 ·obtain⟨j1,⟨s,r,U⟩,⟨u,M,V⟩⟩:=g.job T
  obtain⟨n1,n2⟩:=W T;obtain⟨a,O,rfl⟩:=bc r;obtain⟨b,P,rfl⟩:=bc M;exact⟨j1,⟨_,dP.2 ⟨a,O,λe=>n1 (by rw[<-e];exact U),rfl⟩,U⟩,⟨_,dP.2 ⟨b,P,λe=>n2 (by rw[<-e];exact V),rfl⟩,V⟩⟩
theorem bn.dropL{h:ac}{E:List Int}{i k:Nat}(d:bn h E)(S:i<h.Objs.length)(y:k<h.Larges.length)(G:(nth h.Objs i).Addr=16*(nth h.Larges k).Page) :
  ∃o,dl (dG h) h.Free ⟨(nth h.Larges k).Page,(nth h.Larges k).Pages⟩ = some o/\bn {h with Kernel:=dH h.Kernel (nth h.Larges k).Page (nth h.Larges k).Pages.toNat,Larges:=dele h.Larges k,Free:=o,Objs:=dele h.Objs i} E:=by
 have A:=d.L;have T:=aT (A.lok _ (am y));have C:∀q,q∈pgs h.Spans (dele h.Larges k)↔q∈pgs h.Spans h.Larges/\¬((nth h.Larges k).Page<=q/\q<(nth h.Larges k).Page+((nth h.Larges k).Pages.toNat:Nat)):=λq=>by
  rw[nB,nB];constructor
  ·rintro(⟨s,B,rfl⟩|⟨l,f,D⟩)
   ·refine⟨.inl ⟨s,B,rfl⟩,λe=>A.dis s B _ (am y) (s.Page - (nth h.Larges k).Page).toNat ω ω⟩
   ·obtain⟨j,c,t,rfl⟩:=dP.1 f
    refine⟨.inr ⟨_,am c,D⟩,λe=>?_⟩;obtain⟨m,N,rfl⟩:=cZ.1 D;exact t (A.one j k c y m ((nth h.Larges j).Page+(m:Int) - (nth h.Larges k).Page).toNat N ω ω)
  ·rintro⟨⟨s,B,rfl⟩|⟨l,f,D⟩,g⟩
   ·exact .inl ⟨s,B,rfl⟩
   ·obtain⟨j,c,rfl⟩:=bc f
    refine .inr ⟨_,dP.2 ⟨j,c,λe=>g ?_,rfl⟩,D⟩;subst e;obtain⟨m,N,rfl⟩:=cZ.1 D;omega
 obtain⟨o,O,U,V,W,X⟩:=tO d (sp:=h.Spans) (la:=dele h.Larges k) (p:=(nth h.Larges k).Page) (n:=(nth h.Larges k).Pages.toNat) ω (List.Sublist.refl _) (eM ..) (λq q1 q2=>eO (am y) (cZ.2 ⟨(q - (nth h.Larges k).Page).toNat,ω,ω⟩)) T.2.2.1 C;rw[Int.toNat_of_nonneg ω]at O;have P:(E++holders h).Perm ((nth h.Objs i).Addr::(E++holders {h with Objs:=dele h.Objs i})):=by
  have Y:=(x6 S).map (·.Addr);refine List.perm_iff_count.2 λa=>?_
  have r:=Y.count_eq a;simp only[z4,List.count_cons]at r;simp only[holders,bY,C4,List.count_cons];omega
 have u:=P.nodup_iff.1 d.nd;obtain⟨K,u⟩:=List.nodup_cons.1 u;have w:∀b,(b=(nth h.Objs i).Addr\/b∈E++holders {h with Objs:=dele h.Objs i})↔kG h.Spans h.Larges b:=λb=>by rw[<-d.mem b,P.mem_iff,List.mem_cons]
 have g:∀b,b∈E++holders {h with Objs:=dele h.Objs i}->b≠(nth h.Objs i).Addr:=λb H e=>K (by rw[<-e];exact H)
 refine⟨o,O,{d with
   ker:=U
   rng:=V
   lay:=W
   srl:=d.srl.sublist (eM ..)
   pg:=X
   osr:=d.osr.sublist (eM ..)
   onu:=λF J=>d.onu F ((eM ..).subset J)
   oid:=d.oid.sublist ((eM ..).map _)
   oow:=λF J=>?_
   nd:=u
   mem:=λb=>?_}⟩
 ·rcases d.oow F ((eM ..).subset J) with r|⟨l,f,Q,Z⟩
  ·exact .inl r
  ·obtain⟨j,c,rfl⟩:=bc f
   refine .inr ⟨_,dP.2 ⟨j,c,λe=>?_,rfl⟩,Q,Z⟩;subst e;refine g F.Addr (W1.2 (.inr ?_)) (by rw[G];exact Q);unfold holders;simp only[W1];exact .inl (.inl (.inl (C3.2 ⟨F,J,rfl⟩)))
 ·constructor
  ·intro H
   rcases(w b).1 (.inr H) with r|⟨l,f,rfl⟩
   ·exact .inl r
   ·obtain⟨j,c,rfl⟩:=bc f
    exact .inr ⟨_,dP.2 ⟨j,c,λe=>g _ H (by rw[G,e]),rfl⟩,rfl⟩
  ·rintro(r|⟨l,f,rfl⟩)
   ·refine((w b).2 (.inl r)).resolve_left λe=>?_
    obtain⟨s,B,⟨M,R,-⟩,-⟩:=r;exact(tE A (am y)).1 s B (by rw[e,G]at M R;exact⟨M,R⟩)
   ·obtain⟨j,c,t,rfl⟩:=dP.1 f
    refine((w _).2 (.inr ⟨_,am c,rfl⟩)).resolve_left λe=>t ?_
    have M:=aT (A.lok _ (am c));rw[G]at e;exact A.one j k c y 0 0 ω ω ω
end Go.Proofs.YtembpgjjnioagaaGreat.Ab
