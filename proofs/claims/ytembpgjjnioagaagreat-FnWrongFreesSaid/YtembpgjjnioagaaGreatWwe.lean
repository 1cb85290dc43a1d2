/- The pages of a heap: the contracts of l27Pages, l27Meshed (the reference's) and pagesOk (the program's). No condition. -/
import Derived.Test.YtembpgjjnioagaaGreatWwd
import Derived.Test.YtembpgjjnioagaaGreatWwShelf
import Derived.WalkKit
import Derived.Lib.SliceRun
set_option linter.unusedVariables false
set_option linter.unusedSimpArgs false
set_option linter.constructorNameAsVariable false
namespace Go.Proofs.YtembpgjjnioagaaGreat.Ab
open Go.RowKit
set_option maxRecDepth 20000
set_option maxHeartbeats 8000000
theorem dm{sp:List au}{la:List ax}(h:bg sp la=true):sp.all bc=true/\la.all bV=true/\(pgs sp la).Nodup:=by
 unfold bg at h;simp only[I0,C0]at h;exact⟨h.1.1,h.1.2,h.2⟩
theorem MU{α:Type}[Inhabited α]{xs:List α}{p:α->Bool}{i:Nat}(h:xs.all p=true)(a:i<xs.length):p (nth xs i)=true:=O3.1 h _ (am a)
theorem BI{h:ab}(h1:cL h.Spans.length (uV h.Spans)=false):pages0 h=false:=by unfold pages0;rw[h1];rfl
theorem rk{h:ab}(h1:cL h.Larges.length (qk h)=false):pages0 h=false:=by unfold pages0;rw[h1];simp
theorem Eb{h:ab}{p:Int}(h1:p∈pgs h.Spans h.Larges)(a:¬p<dU h):pages0 h=false:=by
 have:((pgs h.Spans h.Larges).all λp=>decide (p<dU h))=false:=List.all_eq_false.2 ⟨p,h1,by simpa using a⟩;unfold pages0;rw[this];simp
theorem Ef{h:ab}(h1:cL (dU h) (ue h)=false):pages0 h=false:=by unfold pages0;rw[h1];simp
theorem we{h:ab}(h1:cL h.Spans.length (uV h.Spans)=true)(a:cL h.Larges.length (qk h)=true)(b:∀p∈pgs h.Spans h.Larges,p<dU h)(c:cL (dU h) (ue h)=true):pages0 h=true:=by
 have:((pgs h.Spans h.Larges).all λp=>decide (p<dU h))=true:=O3.2 λp d=>O0 (b p d)
 unfold pages0;rw[h1,a,c,this];rfl
theorem KI{h:ab}{i:Nat}(h1:v8 h.Larges i=false):qk h i=false:=by unfold qk;rw[h1];rfl
theorem KK{h:ab}{i k:Nat}(a:k<(nth h.Larges i).Pages.toNat)(h1:vG h (nth h.Larges i) k=false):qk h i=false:=by unfold qk;rw[cg a h1];simp
theorem BN{h:ab}{i:Nat}(h1:v8 h.Larges i=true)(a:cL (nth h.Larges i).Pages.toNat (vG h (nth h.Larges i))=true):qk h i=true:=by unfold qk;rw[h1,a];rfl
theorem g9(h:ab)(p:Int):(aT h p).length<=dU h:=by
 unfold aT;split
 ·simp
 ·exact pJ ..
theorem sU{sp:List au}{la:List ax}(h:bg sp la=true){i:Nat}{l:ax}(a:la[i]? = some l):1<=l.Pages/\l.Pages<=63/\0<=l.Page/\l.Page<=31:=
 aS (O3.1 (dm h).2.1 l (Q1 a))
theorem Bw(h:ab)(G:dd h.Spans)(H:db h.Larges)(l:x8 h)(J:gd h.Free)(n:bg h.Spans h.Larges=true):ao Tryz.prog 204 false [.val (some 24) (ab.enc .imm h)] .one [B (pages0 h)]:=by
 have Z:=G.1;have hl2:=H.1;have hl3:dU h<=1048576:=l.1;have hl4:=J.1;refine fO 144 [(7,18,[28,29,30,31,32,33,34,35,36,37,38,39,40,41,42,43,44,45]),(13,18,[62,63,64,65,66,67,68,69,70,71,72,73,74,75,76,77,78,79])] Tryz.func204 rfl ?_
 repeat'(first|refine gO ?_|fail)
 (conv=>whnf)
 refine CC (ι:=Nat × List Int) (λi=>[(1,.hold .box (ab.enc .imm h)),(3,.hold .box (aG.enc .imm (tbl h))),(4,.hold .one [I (dU h)]),(5,.hold .one (aD .own i.2)),(6,.hold .one [I ((i.1:Nat):Int)])]) (λi=>i.1<=h.Spans.length/\i.2=(h.Spans.take i.1).map (·.Page)/\cL i.1 (uV h.Spans)=true) (λi=>h.Spans.length - i.1) ((0,[])) ?_ (⟨R0 _,rfl,rfl⟩) λi K=>?_
 ·exact wB
 obtain⟨i,S⟩:=i;obtain⟨K,o,L⟩:=K;simp only at K o L |-;have hSl:S.length=i:=by rw[o,W0,I1];omega
 by_cases M:i<h.Spans.length
 ·have c:=ah M
  repeat'(first|refine gD ?_|(conv=>whnf);first|with_reducible (first|refine CA (aa c) ?_|refine Bf.D (λa=>?_) (λa=>?_))|refine CJ ω (aa (fH ω M)) ?_|refine CQ cx (λr t=>by rw[Z0.1 t];rfl) (by simp[aV,dC]) (by simp;omega) (by simp only[W0];exact yk (by simp;omega) (by decide)) rfl ?_)
  all_goals first
   | exact T0 (λz=>[B z]) ((BI (cg M (Q0 ω))).symm)
   | ((conv=>whnf)
      refine CB (i+1,S++[(nth h.Spans i).Page]) ⟨(by simp only;omega),(by simp only;rw[o,T4,c];simp),bM L (O0 ω)⟩ (by simp only;omega) ?_
      (repeat'(first|exact trivial|rfl|exact CH rfl (CH (T0 (C.s dw.own) (by simp[rI])) trivial)|refine CH ?_ ?_)))
 ·obtain rfl:i=h.Spans.length:=ω
  rw[I4]at o
  repeat'(first|refine gD ?_|fail)
  (conv=>whnf)
  refine CC (ι:=Nat × List Int) (λk=>[(1,.hold .box (ab.enc .imm h)),(3,.hold .box (aG.enc .imm (tbl h))),(4,.hold .one [I (dU h)]),(5,.hold .one (aD .own k.2)),(7,.hold .one [I ((k.1:Nat):Int)])]) (λk=>k.1<=h.Larges.length/\k.2=pgs h.Spans (h.Larges.take k.1)/\cL k.1 (qk h)=true/\k.2.length<=1048576+64*k.1) (λk=>h.Larges.length - k.1) ((0,S)) ?_ (⟨R0 _,by rw[o];unfold pgs;simp,rfl,by simp only;omega⟩) λk O=>?_
  ·exact wB
  obtain⟨k,S2⟩:=k;obtain⟨O,b,Q,R⟩:=O;simp only at O b Q R |-;by_cases y:k<h.Larges.length
  ·have c:=ah y
   have hpg:=sU n c
   repeat'(first|refine gD ?_|(conv=>whnf);first|with_reducible (first|refine CA (aa c) ?_|refine Bf.D (λa=>?_) (λa=>?_))|refine CJ ω (aa (fH ω y)) ?_)
   all_goals first
    | exact T0 (λz=>[B z]) ((rk (cg y (KI (Q0 ω)))).symm)
    |have e:v8 h.Larges k=true:=O0 ω
     (conv=>whnf)
     refine CC (ι:=Nat × List Int) (λq=>[(1,.hold .box (ab.enc .imm h)),(3,.hold .box (aG.enc .imm (tbl h))),(4,.hold .one [I (dU h)]),(5,.hold .one (aD .own q.2)),(7,.hold .one [I ((k:Nat):Int)]),(8,.hold .one [I ((q.1:Nat):Int)])]) (λq=>q.1<=(nth h.Larges k).Pages.toNat/\q.2=S2++lpgs (nth h.Larges k) q.1/\cL q.1 (vG h (nth h.Larges k))=true) (λq=>(nth h.Larges k).Pages.toNat - q.1) ((0,S2)) ?_ (⟨R0 _,by simp[lpgs],rfl⟩) λq a=>?_
     ·exact wB
     obtain⟨q,T⟩:=q;obtain⟨U,d,g⟩:=a;simp only at U d g |-;have W:T.length=S2.length+q:=by rw[d,W2,Df]
     by_cases E:q<(nth h.Larges k).Pages.toNat
     ·have hfl:=g9 h ((nth h.Larges k).Page+(q:Nat))
      repeat'(first|refine gD ?_|(conv=>whnf);first|with_reducible (first|refine CA (aa c) ?_|refine Bf.N (λa=>?_) (λa=>?_))|refine C6 (gE h _ l) ?_|refine CQ cx (λr t=>by rw[Z0.1 t];rfl) (by simp[aV,dC]) (by simp;omega) (by show _*8<=_;simp;omega) rfl ?_)
      all_goals first
       | exact T0 (λz=>[B z]) ((rk (cg y (KK E (Q0 ω)))).symm)
       | ((conv=>whnf)
          refine CB (q+1,T++[(nth h.Larges k).Page+(q:Nat)]) ⟨(by simp only;omega),(by simp only;rw[d,jN,U4]),bM g (O0 ω)⟩ (by simp only;omega) ?_
          (repeat'(first|exact trivial|rfl|exact CH rfl (CH (T0 (C.s dw.own) (by simp[rI])) trivial)|refine CH ?_ ?_)))
     ·obtain rfl:q=(nth h.Larges k).Pages.toNat:=ω
      repeat'(first|refine gD ?_|(conv=>whnf);first|with_reducible refine CA (aa c) ?_)
      ((conv=>whnf);refine CB (k+1,T) ⟨(by simp only;omega),(by simp only;rw[d,b,<-n6 _ c]),bM Q (BN e g),(by simp only;omega)⟩ (by simp only;omega) ?_;(exact wB))
  ·obtain rfl:k=h.Larges.length:=ω
   rw[I4]at b
   repeat'(first|refine gD ?_|fail)
   (conv=>whnf)
   refine CC (ι:=Nat) (λq=>[(1,.hold .box (ab.enc .imm h)),(3,.hold .box (aG.enc .imm (tbl h))),(4,.hold .one [I (dU h)]),(5,.hold .one (aD .own S2)),(10,.hold .one [I ((q:Nat):Int)])]) (λq=>q<=S2.length/\∀j,j<q->nth S2 j<dU h) (λq=>S2.length - q) (0) ?_ (⟨R0 _,λj F=>ω⟩) λq a=>?_
   ·exact wB
   obtain⟨a,g⟩:=a;by_cases E:q<S2.length
   ·have c:=ah E
    repeat'(first|refine gD ?_|(conv=>whnf);first|with_reducible (first|refine CA (aa c) ?_|refine Bf.D (λa=>?_) (λa=>?_))|refine CF rfl (aa c) rfl ?_)
    all_goals first
     | exact T0 (λz=>[B z]) ((Eb (by rw[<-b];exact am E) ω).symm)
     | ((conv=>whnf);refine CB (q+1) ⟨ω,λj F=>by rcases Nat.lt_or_ge j q with V|V;exact g j V;(obtain rfl:j=q:=ω);omega⟩ ω ?_;(exact wB))
   ·have u:∀p∈pgs h.Spans h.Larges,p<dU h:=λp w=>by
     rw[<-b]at w;obtain⟨j,F⟩:=List.mem_iff_getElem?.1 w;have V:=(V1.1 F).1;have:=g j ω
     rwa [bw F]at this
    repeat'(first|refine gD ?_|fail)
    (conv=>whnf)
    refine CC (ι:=Nat) (λp=>[(1,.hold .box (ab.enc .imm h)),(3,.hold .box (aG.enc .imm (tbl h))),(4,.hold .one [I (dU h)]),(5,.hold .one (aD .own S2)),(11,.hold .one [I ((p:Nat):Int)])]) (λp=>p<=dU h/\cL p (ue h)=true) (λp=>dU h - p) 0 ?_ ⟨R0 _,rfl⟩ λp w=>?_
    ·exact wB
    obtain⟨w,X⟩:=w;by_cases Y:p<dU h
    ·have c:=ah (xs:=(tbl h).Entries) Y
     have t:=ye h.Free (p:Nat) ω
     repeat'(first|refine gD ?_|(conv=>whnf);first|with_reducible (first|refine CA (aa c) ?_|refine Bf.D (λa=>?_) (λa=>?_)|refine Bf.NB (λa=>?_) (λa=>?_))|refine CD (lD S2 _ ω) ⟨⟨rfl,en _⟩,⟨rfl,rfl⟩,trivial⟩ ?_|refine C6 t ?_|refine Bf.P (λa=>?_) (λa=>?_))
     all_goals first
      | exact T0 (λz=>[B z]) ((Ef (cg Y (by unfold ue;rw[<-b];grind))).symm)
      | ((conv=>whnf);refine CB (p+1) ⟨ω,bM X (by unfold ue;rw[<-b];grind)⟩ ω ?_;(exact wB))
    ·repeat'(first|refine gD ?_|fail)
     obtain rfl:p=dU h:=ω
     exact T0 (λz=>[B z]) ((we L Q u X).symm)
set_option maxHeartbeats 8000000
theorem yP{z1 z2:Int}(h:z1=z2):LZ (I z1) (I z2):=by subst h;rfl
theorem GD{S:List Int}{p z:Int} : z∈ins S p↔z∈S\/z=p:=by
 unfold ins;split
 ·rename_i a
  exact⟨.inl,λh=>h.elim id λe=>e ▸ a⟩
 ·simp
theorem wX(S:List Int):(eY S).map (·.1)=S:=by unfold eY;rw[List.map_map];simp[W4]
theorem lh{t:aG}{p:Nat}(a:p<t.Entries.length):ar t (p:Nat)=nth t.Entries p:=by
 unfold ar;rw[C8 ω];simp
theorem Ba(h:ab)(Q:dd h.Spans)(R:db h.Larges)(l:x8 h)(T:gd h.Free)(G:bg h.Spans h.Larges=true):ao Tryz.prog 69 false [.val (some 24) (ab.enc .imm h)] .one [B (pages0 h&&mT h)]:=by
 have hl1:=Q.1;have hl2:=R.1;have hl3:dU h<=1048576:=l.1;have hl4:=T.1;have d:pages0 h=false->[B false]=[B (pages0 h&&mT h)]:=λe=>by rw[e];rfl
 refine fO 177 [(4,14,[25,26,27,28,29,30,31,32,33,34,35,36,37,38]),(16,14,[60,61,62,63,64,65,66,67,68,69,70,71,72,73]),(28,18,[102,103,104,105,106,107,108,109,110,111,112,113,114,115,116,117,118,119]),(42,23,[152,153,154,155,156,157,158,159,160,161,162,163,164,165,166,167,168,169,170,171,172,173,174])] Tryz.func69 rfl ?_
 repeat'(first|refine gO ?_|fail)
 (conv=>whnf)
 refine CC (ι:=Nat) (λi=>[(1,.hold .box (ab.enc .imm h)),(18,.hold .one (bR .imm h.Spans)),(19,.hold .one [I (h.Spans.length)]),(20,.hold .one [I ((i:Nat):Int)])]) (λi=>i<=h.Spans.length/\cL i (uV h.Spans)=true) (λi=>h.Spans.length - i) 0 ?_ ⟨R0 _,rfl⟩ λi o=>?_
 ·exact wB
 obtain⟨o,H⟩:=o;by_cases F:i<h.Spans.length
 ·have g:=ah F
  repeat'(first|refine gD ?_|(conv=>whnf);first|with_reducible (first|refine CA (aa g) ?_|refine Bf.D (λa=>?_) (λa=>?_))|refine CJ ω (aa (fH ω F)) ?_)
  all_goals first
   |exact d (BI (cg F (Q0 ω)))
   | ((conv=>whnf);refine CB (i+1) ⟨ω,bM H (O0 ω)⟩ ω ?_;(exact wB))
 obtain rfl:i=h.Spans.length:=ω
 repeat'(first|refine gD ?_|fail)
 (conv=>whnf)
 refine CC (ι:=Nat × List Int) (λi=>[(1,.hold .box (ab.enc .imm h)),(5,.hold .one [.m (eY i.2)]),(42,.hold .one (bR .imm h.Spans)),(43,.hold .one [I (h.Spans.length)]),(44,.hold .one [I ((i.1:Nat):Int)])]) (λi=>i.1<=h.Spans.length/\∀z,z∈i.2↔z∈(h.Spans.take i.1).map (·.Page)) (λi=>h.Spans.length - i.1) ((0,[])) ?_ (⟨R0 _,λz=>Iff.rfl⟩) λi o=>?_
 ·exact wB
 obtain⟨i,S⟩:=i;obtain⟨U,L⟩:=o;simp only at U L |-;by_cases li2:i<h.Spans.length
 ·have g:=ah li2
  repeat'(first|refine gD ?_|(conv=>whnf);first|with_reducible refine CA (aa g) ?_|refine Mu.mk (wb S _) ?_)
  ((conv=>whnf);refine CB (i+1,ins S (nth h.Spans i).Page) ⟨(by simp only;omega),λz=>by simp only[GD,L];rw[T4,g];simp⟩ (by simp only;omega) ?_;(exact wB))
 obtain rfl:i=h.Spans.length:=ω
 rw[I4]at L
 repeat'(first|refine gD ?_|fail)
 (conv=>whnf)
 refine CC (ι:=Nat × List Int) (λk=>[(1,.hold .box (ab.enc .imm h)),(5,.hold .one [.m (eY k.2)]),(53,.hold .one (bC .imm h.Larges)),(54,.hold .one [I (h.Larges.length)]),(55,.hold .one [I ((k.1:Nat):Int)])]) (λk=>k.1<=h.Larges.length/\(∀z,z∈k.2↔z∈pgs h.Spans (h.Larges.take k.1))/\cL k.1 (qk h)=true) (λk=>h.Larges.length - k.1) ((0,S)) ?_ (⟨R0 _,λz=>by simp only[L];unfold pgs;simp,rfl⟩) λk V=>?_
 ·exact wB
 obtain⟨k,S2⟩:=k;obtain⟨V,b,W⟩:=V;simp only at V b W |-;by_cases M:k<h.Larges.length
 ·have g:=ah M
  have hpg:=sU G g
  repeat'(first|refine gD ?_|(conv=>whnf);first|with_reducible (first|refine CA (aa g) ?_|refine Bf.D (λa=>?_) (λa=>?_))|refine CJ ω (aa (fH ω M)) ?_)
  all_goals first
   |exact d (rk (cg M (KI (Q0 ω))))
   |have u:v8 h.Larges k=true:=O0 ω
    (conv=>whnf)
    refine CC (ι:=Nat × List Int) (λq=>[(1,.hold .box (ab.enc .imm h)),(5,.hold .one [.m (eY q.2)]),(9,.hold .box (ax.enc .imm (nth h.Larges k))),(10,.hold .one [I ((nth h.Larges k).Page+(q.1:Nat))]),(53,.hold .one (bC .imm h.Larges)),(54,.hold .one [I (h.Larges.length)]),(55,.hold .one [I ((k:Nat):Int)])]) (λq=>q.1<=(nth h.Larges k).Pages.toNat/\(∀z,z∈q.2↔z∈S2++lpgs (nth h.Larges k) q.1)/\cL q.1 (vG h (nth h.Larges k))=true) (λq=>(nth h.Larges k).Pages.toNat - q.1) ((0,S2)) ?_ (⟨R0 _,λz=>by simp[lpgs],rfl⟩) λq a=>?_
    ·exact wB
    obtain⟨q,X⟩:=q;obtain⟨Y,w,Z⟩:=a;simp only at Y w Z |-;by_cases lq:q<(nth h.Larges k).Pages.toNat
    ·have hfl:=g9 h ((nth h.Larges k).Page+(q:Nat))
     repeat'(first|refine gD ?_|(conv=>whnf);first|with_reducible refine Bf.N (λa=>?_) (λa=>?_)|refine C6 (tY h _ l) ?_|refine Mu.mk (wb X _) ?_)
     all_goals first
      |exact d (rk (cg M (KK lq (Q0 ω))))
      | ((conv=>whnf)
         refine CB (q+1,ins X ((nth h.Larges k).Page+(q:Nat))) ⟨(by simp only;omega),λz=>by simp only[GD,w];rw[jN];simp[or_assoc],bM Z (O0 ω)⟩ (by simp only;omega) ?_
         (repeat'(first|exact trivial|rfl|refine CH ?_ ?_|exact yP (by simp;omega))))
    ·obtain rfl:q=(nth h.Larges k).Pages.toNat:=ω
     repeat'(first|refine gD ?_|fail)
     ((conv=>whnf);refine CB (k+1,X) ⟨(by simp only;omega),(λz=>by simp only[w];rw[n6 _ g];simp[b]),bM W (BN u Z)⟩ (by simp only;omega) ?_;(exact wB))
 obtain rfl:k=h.Larges.length:=ω
 rw[I4]at b
 repeat'(first|refine gD ?_|fail)
 (conv=>whnf)
 refine CC (ι:=Nat) (λp=>[(1,.hold .box (ab.enc .imm h)),(5,.hold .one [.m (eY S2)]),(98,.hold .one [I (dU h)]),(99,.hold .one [I ((p:Nat):Int)])]) (λp=>p<=dU h/\cL p (ue h)=true) (λp=>dU h - p) 0 ?_ ⟨R0 _,rfl⟩ λp O=>?_
 ·exact wB
 obtain⟨O,ap⟩:=O;by_cases lp:p<dU h
 ·have hr:=xA h.Free (p:Nat) ω
  have J:=ta h.Kernel (p:Nat) l;rw[lh lp]at J
  repeat'(first|refine gD ?_|(conv=>whnf);first|with_reducible (first|refine Bf.D (λa=>?_) (λa=>?_)|refine Bf.NB (λa=>?_) (λa=>?_))|refine C6 J ?_|refine Ml.mk (lV (p:Nat) S2) ?_|refine C6 hr ?_|refine Bf.P (λa=>?_) (λa=>?_))
  all_goals first
   |exact d (Ef (cg lp (by unfold ue tbl;have:=b (p:Nat);grind)))
   | ((conv=>whnf);refine CB (p+1) ⟨ω,bM ap (by unfold ue tbl;have:=b (p:Nat);grind)⟩ ω ?_;(exact wB))
 obtain rfl:p=dU h:=ω
 repeat'(first|refine gD ?_|fail)
 have hpn:dU h=h.Kernel.Machine.Table.Entries.length:=rfl
 (conv=>whnf)
 refine CC (ι:=Option Int × List Int) (λt=>[(1,.hold .box (ab.enc .imm h)),(122,.hold .one [.it t.1 t.2])]) (λt=>(∀z∈S2,z∈t.2\/z<dU h)/\∀z∈t.2,z∈S2) (λt=>t.2.length) ((none,(eY S2).map (·.1))) ?_ (⟨λz n=>.inl (by rw[wX];exact n),λz n=>by rw[wX]at n;exact n⟩) λt ht=>?_
 ·exact wB
 obtain⟨cur,left⟩:=t;obtain⟨y,C⟩:=ht;simp only at y C |-
 repeat'(first|refine gO ?_|(conv=>whnf);first|with_reducible refine Bf.D (λa=>?_) (λa=>?_)|refine Nt.mk (λa=>?_) (λl1 k l2 a=>?_))
 rotate_left
 ·exact d (Eb (p:=k) ((b k).1 (C k (by subst left;simp))) ω)
 ·((conv=>whnf);refine CB (some k,l1++l2) ⟨λz n=>by have c:=y z n;subst left;simp only[Q2,List.mem_cons]at c |-;rcases c with(c|c|c)|c;exact .inl (.inl c);(subst c;exact .inr ω);exact .inl (.inr c);exact .inr c,λz n=>C z (by subst left;simp only[Q2,List.mem_cons]at n |-;grind)⟩ (by subst left;simp) ?_;(exact wB))
 have K:∀p∈pgs h.Spans h.Larges,p<dU h:=λp O=>by
  have c:=y p ((b p).2 O);subst left;simpa using c
 have h0:pages0 h=true:=we H W K ap;rw[h0,Bool.true_and]
 (conv=>whnf)
 refine CC (ι:=Nat) (λi=>[(1,.hold .box (ab.enc .imm h)),(136,.hold .one (bR .imm h.Spans)),(137,.hold .one [I (h.Spans.length)]),(138,.hold .one [I ((i:Nat):Int)])]) (λi=>i<=h.Spans.length/\cL i (λi=>cL i (ke h i))=true) (λi=>h.Spans.length - i) 0 ?_ ⟨R0 _,rfl⟩ λi o=>?_
 ·exact wB
 obtain⟨o,H⟩:=o;by_cases F:i<h.Spans.length
 ·have g:=ah F
  have htl:(h.Spans.take i).length=i:=by rw[I1];omega
  repeat'(first|refine gD ?_|(conv=>whnf);first|with_reducible refine CA (aa g) ?_|refine CS i rfl (by simp;omega) (λr hr=>by obtain⟨z,-,rfl⟩:=U3.1 hr;rfl) (R3 ..) ?_)
  (conv=>whnf)
  refine CC (ι:=Nat) (λj=>[(1,.hold .box (ab.enc .imm h)),(14,.hold .box (au.enc .imm (nth h.Spans i))),(136,.hold .one (bR .imm h.Spans)),(137,.hold .one [I (h.Spans.length)]),(138,.hold .one [I ((i:Nat):Int)]),(146,.hold .one (bR .imm (h.Spans.take i))),(147,.hold .one [I ((h.Spans.take i).length)]),(148,.hold .one [I ((j:Nat):Int)])]) (λj=>j<=(h.Spans.take i).length/\cL j (ke h i)=true) (λj=>(h.Spans.take i).length - j) 0 ?_ ⟨R0 _,rfl⟩ λj hj=>?_
  ·exact wB
  obtain⟨hj,aj⟩:=hj;by_cases lj:j<(h.Spans.take i).length
  ·have hy:=ah lj
   have he:nth (h.Spans.take i) j=nth h.Spans j:=bw (by rw[List.getElem?_take_of_lt ω];exact ah ω);rw[he]at hy;have J:=xH (nth h.Spans i) (nth h.Spans j);cases em:meshable (nth h.Spans i) (nth h.Spans j)<;>rw[em]at J
   all_goals
    repeat'(first|refine gD ?_|(conv=>whnf);first|with_reducible (first|refine CA (aa hy) ?_|refine Bf.E (λa=>?_) (λa=>?_))|refine C6 (eK (tbl h) _ l) ?_|refine C6 J ?_)
    all_goals first
     | exact T0 (λz=>[B z]) ((by symm;exact cg F (cg (i:=j) ω (by unfold ke;rw[em];grind))))
     | ((conv=>whnf);refine CB (j+1) ⟨ω,bM aj (by unfold ke;rw[em];grind)⟩ ω ?_;(exact wB))
  ·obtain rfl:j=(h.Spans.take i).length:=ω
   rw[htl]at aj
   repeat'(first|refine gD ?_|fail)
   ((conv=>whnf);refine CB (i+1) ⟨ω,bM H aj⟩ ω ?_;(exact wB))
 obtain rfl:i=h.Spans.length:=ω
 repeat'(first|refine gD ?_|fail)
 exact T0 (λz=>[B z]) ((by unfold mT;rw[H]))
set_option maxHeartbeats 8000000
theorem kx{α:Type}[Inhabited α](pr:α->Bool)(xs:List α):cX pr xs = -1\/∃n,n<xs.length/\cX pr xs=(n:Nat)/\pr (nth xs n)=true:=by
 unfold cX;cases h:xs.findIdx? pr with
 | none=>exact .inl rfl
 | some i=>
  obtain⟨a,b,-⟩:=R5.1 h;exact .inr ⟨i,a,rfl,by rw[bw (U1 a)];exact b⟩
theorem Dw{h:ab}{i k:Nat}(a:i<h.Spans.length)(b:k<(aT h (nth h.Spans i).Page).length)(c:kQ h i (nth (aT h (nth h.Spans i).Page) k)=false):tn h=false:=by
 unfold tn;exact cg a (ed (ah b) c)
theorem Aj(h:ab)(j:dd h.Spans)(c:x8 h):ao Tryz.prog 205 false [.val (some 24) (ab.enc .imm h)] .one [B (tn h)]:=by
 have l:=j.1;have G:dU h<=1048576:=c.1;refine fO 55 [(4,8,[14,15,16,17,18,19,20,21]),(8,6,[28,29,30,31,32,33]),(9,21,[34,35,36,37,38,39,40,41,42,43,44,45,46,47,48,49,50,51,52,53,54])] Tryz.func205 rfl ?_
 repeat'(first|refine gO ?_|fail)
 (conv=>whnf)
 refine CC (ι:=Nat) (λi=>[(1,.hold .box (ab.enc .imm h)),(3,.hold .one [I ((i:Nat):Int)])]) (λi=>i<=h.Spans.length/\cL i (λi=>(aT h (nth h.Spans i).Page).all (kQ h i))=true) (λi=>h.Spans.length - i) 0 ?_ ⟨R0 _,rfl⟩ λi w=>?_
 ·exact wB
 obtain⟨w,y⟩:=w;by_cases o:i<h.Spans.length
 ·have q:=ah o
  have H:=g9 h (nth h.Spans i).Page
  repeat'(first|refine gD ?_|(conv=>whnf);first|with_reducible refine CA (aa q) ?_|refine C6 (gE h _ c) ?_)
  (conv=>whnf)
  refine CC (ι:=Nat) (λk=>[(1,.hold .box (ab.enc .imm h)),(3,.hold .one [I ((i:Nat):Int)]),(4,.hold .one (aD .own (aT h (nth h.Spans i).Page))),(5,.hold .one [I ((k:Nat):Int)])]) (λk=>k<=(aT h (nth h.Spans i).Page).length/\((aT h (nth h.Spans i).Page).take k).all (kQ h i)=true) (λk=>(aT h (nth h.Spans i).Page).length - k) (0) ?_ (⟨R0 _,rfl⟩) λk C=>?_
  ·exact wB
  obtain⟨C,E⟩:=C;by_cases r:k<(aT h (nth h.Spans i).Page).length
  ·have d:=ah r
   have a:=jb h (nth (aT h (nth h.Spans i).Page) k) l;rcases kx (jm (nth (aT h (nth h.Spans i).Page) k)) h.Spans with e|⟨n,J,e,-⟩
   ·rw[show fY h (nth (aT h (nth h.Spans i).Page) k) = -1 from e]at a
    have t:kQ h i (nth (aT h (nth h.Spans i).Page) k)=false:=by
     unfold kQ;rw[show fY h (nth (aT h (nth h.Spans i).Page) k) = -1 from e,Q0 ω,Q0 ω];rfl
    repeat'(first|refine gD ?_|(conv=>whnf);first|with_reducible (first|refine CA (aa q) ?_|refine CA (aa d) ?_|refine Bf.D (λb=>?_) (λb=>?_)|refine Bf.N (λb=>?_) (λb=>?_))|refine CF rfl (aa d) rfl ?_|refine C6 a ?_)
    all_goals first
     | exact T0 (λz=>[B z]) ((Dw o r t).symm)
     |(exfalso;omega)
   ·rw[show fY h (nth (aT h (nth h.Spans i).Page) k)=(n:Nat) from e]at a
    have K:=ah J;have F:=lb (nth h.Spans i) (nth h.Spans n);have g:kQ h i (nth (aT h (nth h.Spans i).Page) k)=(decide ((n:Int)=(i:Nat)) || meshable (nth h.Spans i) (nth h.Spans n)):=by
     unfold kQ;rw[show fY h (nth (aT h (nth h.Spans i).Page) k)=(n:Nat) from e,O0 (p:=(0:Int)<=(n:Nat)) ω];simp
    cases u:meshable (nth h.Spans i) (nth h.Spans n)<;>rw[u]at F
    all_goals
     repeat'(first|refine gD ?_|(conv=>whnf);first|with_reducible (first|refine CA (aa q) ?_|refine CA (aa K) ?_|refine CA (aa d) ?_|refine Bf.D (λb=>?_) (λb=>?_)|refine Bf.N (λb=>?_) (λb=>?_))|refine CF rfl (aa d) rfl ?_|refine C6 a ?_|refine C6 F ?_)
     all_goals first
      | exact T0 (λz=>[B z]) ((Dw o r (by rw[g,u];grind)).symm)
      | ((conv=>whnf);refine CB (k+1) ⟨ω,cF d E (by rw[g,u];grind)⟩ ω ?_;(exact wB))
      |(exfalso;omega)
  ·repeat'(first|refine gD ?_|fail)
   ((conv=>whnf);refine CB (i+1) ⟨ω,bM y (gf ω E)⟩ ω ?_;(exact wB))
 ·obtain rfl:i=h.Spans.length:=ω
  repeat'(first|refine gD ?_|fail)
  exact T0 (λz=>[B z]) ((by unfold tn;rw[y]))
theorem H7(j:cj)(b:cj.sml j):ao Tryz.prog 211 false [.val (some 5) (cj.enc .imm j)] .one [B (qG j)]:=by
 have c:j.Plan.Cells.length<=1048576:=b;refine fO 30 [] Tryz.func211 rfl ?_
 repeat'(first|refine gO ?_|(conv=>whnf);first|with_reducible (first|refine Bf.E (λa=>?_) (λa=>?_)|refine Bf.D (λa=>?_) (λa=>?_)))
 all_goals exact T0 (λz=>[B z]) ((by unfold qG;first|(symm;exact Q0 ω)|(rw[Z3,beq_iff_eq,C0];omega)))
theorem m7(sp:List au)(la:List ax)(a:Int):((denotes sp la a).Kind=1->0<=(denotes sp la a).Index/\(denotes sp la a).Index.toNat<sp.length)/\((denotes sp la a).Kind=3->0<=(denotes sp la a).Index/\(denotes sp la a).Index.toNat<la.length):=by
 unfold denotes;cases c:sp.findIdx? (cA · a) with
 | some i=>
  obtain⟨b,-⟩:=R5.1 c;simp only[oh];refine⟨λ_=>⟨ω,by simpa using b⟩,λe=>?_⟩;split at e<;>cases e
 | none=>
  cases d:la.findIdx? (b9 · a) with
  | some i=>
   obtain⟨b,-⟩:=R5.1 d;exact⟨λe=>(by cases e),λ_=>⟨by simp,by simpa using b⟩⟩
  | none=>exact⟨λe=>(by cases e),λe=>(by cases e)⟩
theorem Fe(h:ab)(a c:Int)(d:dd h.Spans)(e:db h.Larges)(b:bg h.Spans h.Larges=true)(k:lN a):ao Tryz.prog 276 false [.val (some 24) (ab.enc .imm h),.val none [I a],.val none [I c]] .one [B (dc h a c)]:=by
 have j:=lT h.Spans h.Larges a d e b k;obtain⟨g,-⟩:=m7 h.Spans h.Larges a;unfold dc;generalize denotes h.Spans h.Larges a=w at j g |-;refine fO 37 [] Tryz.func276 rfl ?_
 repeat'(first|refine gO ?_|(conv=>whnf);first|with_reducible (first|refine Bf.D (λi=>?_) (λi=>?_)|refine Bf.E (λi=>?_) (λi=>?_))|refine C6 j ?_|refine CJ (g (by assumption)).1 (aa (ah (g (by assumption)).2)) ?_)
 all_goals exact T0 (λz=>[B z]) ((by grind))
theorem yA(h:ab)(o:bm)(w:gJ)(a:denotes h.Spans h.Larges o.Addr=w):jC h o=(decide (w.Offset=0)&&((decide (w.Kind=1)&&decide ((nth h.Spans w.Index.toNat).Class=aK o.Size)) || (decide (w.Kind=3)&&decide ((nth h.Larges w.Index.toNat).Size=o.Size)))):=by
 unfold jC;rw[a]
theorem iH{h:ab}{i:Nat}(a:i<h.Objs.length)(b:objAt (IntKind.i64.wrap (h.Next - 1)) h i=false):fe h=false:=cg a b
theorem GQ{a:Int}{h:ab}{i:Nat}(h1:gH a h i=false):objAt a h i=false:=by unfold objAt;rw[h1];rfl
theorem GJ{a:Int}{h:ab}{i:Nat}(h1:(h.Objs.take i).any (ku (nth h.Objs i).Id)=true):objAt a h i=false:=by unfold objAt;rw[h1];simp
theorem G9{a:Int}{h:ab}{i:Nat}(h1:jC h (nth h.Objs i)=false):objAt a h i=false:=by unfold objAt;rw[h1];simp
theorem y7{a:Int}{h:ab}{i:Nat}(h1:gH a h i=true)(b:(h.Objs.take i).any (ku (nth h.Objs i).Id)=false)(c:jC h (nth h.Objs i)=true):objAt a h i=true:=by unfold objAt;rw[h1,b,c];rfl
theorem FK(h:ab)(l:dd h.Spans)(n:db h.Larges)(g:bg h.Spans h.Larges=true)(K:h.Objs.length<=1048576)(L:h.Caches.length<=1048576)(H:∀o∈h.Objs,lN o.Addr):ao Tryz.prog 209 false [.val (some 24) (ab.enc .imm h)] .one [B (fe h)]:=by
 refine fO 117 [(5,33,[21,22,23,24,25,26,27,28,29,30,31,32,33,34,35,36,37,38,39,40,41,42,43,44,45,46,47,48,49,50,51,52,53]),(10,9,[59,60,61,62,63,64,65,66,67]),(13,16,[75,76,77,78,79,80,81,82,83,84,85,86,87,88,89,90]),(14,15,[91,92,93,94,95,96,97,98,99,100,101,102,103,104,105])] Tryz.func209 rfl ?_
 repeat'(first|refine gO ?_|fail)
 (conv=>whnf)
 refine CC (ι:=Nat) (λi=>[(1,.hold .box (ab.enc .imm h)),(3,.hold .one [I ((i:Nat):Int)])]) (λi=>i<=h.Objs.length/\cL i (objAt (IntKind.i64.wrap (h.Next - 1)) h)=true) (λi=>h.Objs.length - i) 0 ?_ ⟨R0 _,rfl⟩ λi t=>?_
 ·exact wB
 obtain⟨t,u⟩:=t;by_cases e:i<h.Objs.length
 ·have y:=ah e
  have C:=lT h.Spans h.Larges (nth h.Objs i).Addr l n g (H _ (am e));obtain⟨p,q⟩:=m7 h.Spans h.Larges (nth h.Objs i).Addr;have b:=yA h (nth h.Objs i) _ rfl;generalize denotes h.Spans h.Larges (nth h.Objs i).Addr=w at C p q b;by_cases c:gH (IntKind.i64.wrap (h.Next - 1)) h i=true
  ·have a:=c
   unfold gH at a;rw[C0]at a
   repeat'(first|refine gD ?_|(conv=>whnf);first|with_reducible (first|refine CA (aa y) ?_|refine Bf.D (λd=>?_) (λd=>?_))|refine CJ ω (aa (fH ω e)) ?_|refine C6 (aE _ _ _) ?_|refine CI rfl ?_)
   all_goals
    (conv=>whnf)
    refine CC (ι:=Nat) (λk=>[(1,.hold .box (ab.enc .imm h)),(3,.hold .one [I ((i:Nat):Int)]),(4,.hold .box (bm.enc .imm (nth h.Objs i))),(5,.hold .one [I ((k:Nat):Int)])]) (λk=>k<=i/\(h.Objs.take k).any (ku (nth h.Objs i).Id)=false) (λk=>i - k) (0) ?_ (⟨R0 _,rfl⟩) λk F=>?_
    ·exact wB
    obtain⟨F,G⟩:=F;by_cases J:k<i
    ·have r:=ah (xs:=h.Objs) (i:=k) ω
     repeat'(first|refine gD ?_|(conv=>whnf);first|with_reducible (first|refine CA (aa r) ?_|refine Bf.E (λd=>?_) (λd=>?_)))
     all_goals first
      | exact T0 (λz=>[B z]) ((iH e (GJ (AY (i:=k) (by rw[List.getElem?_take_of_lt J];exact r) (O0 (by assumption))))).symm)
      | ((conv=>whnf);refine CB (k+1) ⟨ω,wu r G (Q0 (by assumption))⟩ ω ?_;(exact wB))
    ·obtain rfl:k=i:=ω
     repeat'(first|refine gD ?_|(conv=>whnf);first|with_reducible (first|refine Bf.D (λd=>?_) (λd=>?_)|refine Bf.E (λd=>?_) (λd=>?_)|refine Bf.N (λd=>?_) (λd=>?_))|refine C6 C ?_|refine CJ (p (by assumption)).1 (aa (ah (p (by assumption)).2)) ?_|refine CJ (q (by assumption)).1 (aa (ah (q (by assumption)).2)) ?_|refine C6 (jy _) ?_)
     all_goals first
      | exact T0 (λz=>[B z]) ((iH e (G9 (by rw[b];grind))).symm)
      | ((conv=>whnf);refine CB (k+1) ⟨ω,bM u (y7 c G (by rw[b];grind))⟩ ω ?_;(exact wB))
      |(exfalso;omega)
  ·have j:gH (IntKind.i64.wrap (h.Next - 1)) h i=false:=by simpa using c
   have a:=j;unfold gH at a;rw[Y3]at a
   repeat'(first|refine gD ?_|(conv=>whnf);first|with_reducible (first|refine CA (aa y) ?_|refine Bf.D (λd=>?_) (λd=>?_))|refine CJ ω (aa (fH ω e)) ?_|refine C6 (aE _ _ _) ?_|refine CI rfl ?_)
   all_goals first
    | exact T0 (λz=>[B z]) ((iH e (GQ j)).symm)
    |(exfalso;omega)
 ·obtain rfl:i=h.Objs.length:=ω
  repeat'(first|refine gD ?_|fail)
  exact T0 (λz=>[B z]) ((show true=fe h from u.symm))
theorem oG(o a:bm):ao Tryz.prog 169 false [.val (some 4) (bm.enc .imm o),.ptr (bm.enc .imm a)] .one [B (ku a.Id o)]:=by
 refine fO 9 [] Tryz.func169 rfl ?_
 repeat'(first|refine gO ?_|fail)
 exact T0 (λz=>[B z]) ((by unfold ku;rw[Z3];simp))
theorem DL(h:ab)(n:dd h.Spans)(o:db h.Larges)(J:h.Objs.length<=1048576)(K:h.Caches.length<=1048576):ao Tryz.prog 73 false [.val (some 24) (ab.enc .imm h)] .one [B (fe h)]:=by
 refine fO 105 [(4,33,[16,17,18,19,20,21,22,23,24,25,26,27,28,29,30,31,32,33,34,35,36,37,38,39,40,41,42,43,44,45,46,47,48]),(9,16,[62,63,64,65,66,67,68,69,70,71,72,73,74,75,76,77]),(10,15,[78,79,80,81,82,83,84,85,86,87,88,89,90,91,92])] Tryz.func73 rfl ?_
 repeat'(first|refine gO ?_|fail)
 (conv=>whnf)
 refine CC (ι:=Nat) (λi=>[(1,.hold .box (ab.enc .imm h)),(9,.hold .one (jn .imm h.Objs)),(10,.hold .one [I (h.Objs.length)]),(11,.hold .one [I ((i:Nat):Int)])]) (λi=>i<=h.Objs.length/\cL i (objAt (IntKind.i64.wrap (h.Next - 1)) h)=true) (λi=>h.Objs.length - i) 0 ?_ ⟨R0 _,rfl⟩ λi F=>?_
 ·exact wB
 obtain⟨F,G⟩:=F;by_cases g:i<h.Objs.length
 ·have p:=ah g
  have H:=i7 h.Spans h.Larges (nth h.Objs i).Addr n o;obtain⟨q,t⟩:=m7 h.Spans h.Larges (nth h.Objs i).Addr;have b:=yA h (nth h.Objs i) _ rfl;generalize denotes h.Spans h.Larges (nth h.Objs i).Addr=w at H q t b;have j:=rV (h.Objs.take i) (ku (nth h.Objs i).Id) (by rw[I1];omega);by_cases c:gH (IntKind.i64.wrap (h.Next - 1)) h i=true
  ·have a:=c
   unfold gH at a;rw[C0]at a;cases d:(h.Objs.take i).any (ku (nth h.Objs i).Id)<;>rw[d]at j
   ·repeat'(first|refine gD ?_|(conv=>whnf);first|with_reducible (first|refine CA (aa p) ?_|refine Bf.D (λe=>?_) (λe=>?_)|refine Bf.E (λe=>?_) (λe=>?_)|refine Bf.N (λe=>?_) (λe=>?_))|refine CJ ω (aa (fH ω g)) ?_|refine C6 (aN _ _ _) ?_|refine CS i rfl (by simp;omega) (λr u=>by obtain⟨z,-,rfl⟩:=U3.1 u;rfl) (R3 ..) ?_|refine Cq.mk (xW (some 4) (bm.enc .imm) (ku (nth h.Objs i).Id) (h.Objs.take i)) (oG default (nth h.Objs i)).has (λL k rcs C=>by obtain⟨y,-,rfl,rfl,rfl⟩:=C;exact oG y (nth h.Objs i)) ?_|refine C6 j ?_|refine C6 H ?_|refine CJ (q (by assumption)).1 (aa (ah (q (by assumption)).2)) ?_|refine CJ (t (by assumption)).1 (aa (ah (t (by assumption)).2)) ?_|refine C6 (m6 _) ?_|refine CI rfl ?_)
    all_goals first
     | exact T0 (λz=>[B z]) ((iH g (G9 (by rw[b];grind))).symm)
     | ((conv=>whnf);refine CB (i+1) ⟨ω,bM G (y7 c d (by rw[b];grind))⟩ ω ?_;(exact wB))
     |(exfalso;omega)
   ·repeat'(first|refine gD ?_|(conv=>whnf);first|with_reducible (first|refine CA (aa p) ?_|refine Bf.D (λe=>?_) (λe=>?_))|refine CJ ω (aa (fH ω g)) ?_|refine C6 (aN _ _ _) ?_|refine CS i rfl (by simp;omega) (λr u=>by obtain⟨z,-,rfl⟩:=U3.1 u;rfl) (R3 ..) ?_|refine Cq.mk (xW (some 4) (bm.enc .imm) (ku (nth h.Objs i).Id) (h.Objs.take i)) (oG default (nth h.Objs i)).has (λL k rcs C=>by obtain⟨y,-,rfl,rfl,rfl⟩:=C;exact oG y (nth h.Objs i)) ?_|refine C6 j ?_|refine CI rfl ?_)
    all_goals first
     | exact T0 (λz=>[B z]) ((iH g (GJ d)).symm)
     |(exfalso;omega)
  ·have l:gH (IntKind.i64.wrap (h.Next - 1)) h i=false:=by simpa using c
   have a:=l;unfold gH at a;rw[Y3]at a
   repeat'(first|refine gD ?_|(conv=>whnf);first|with_reducible (first|refine CA (aa p) ?_|refine Bf.D (λe=>?_) (λe=>?_))|refine CJ ω (aa (fH ω g)) ?_|refine C6 (aN _ _ _) ?_|refine CI rfl ?_)
   all_goals first
    | exact T0 (λz=>[B z]) ((iH g (GQ l)).symm)
    |(exfalso;omega)
 ·obtain rfl:i=h.Objs.length:=ω
  repeat'(first|refine gD ?_|fail)
  exact T0 (λz=>[B z]) ((show true=fe h from G.symm))
set_option maxHeartbeats 8000000
theorem HP{sp:List au}{la:List ax}{n:Nat}(h:jj sp la n=true):kN sp la (n+1)=kN sp la n++[(n:Int)]:=by
 unfold kN;rw[List.range_succ,List.filter_append,V4];simp[h]
theorem Kf{sp:List au}{la:List ax}{n:Nat}(h:jj sp la n=false):kN sp la (n+1)=kN sp la n:=by
 unfold kN;rw[List.range_succ,List.filter_append,V4];simp[h]
theorem yu(sp:List au)(la:List ax)(n:Nat):(kN sp la n).length<=n:=by
 unfold kN;rw[W0];exact t4 (List.length_filter_le ..) (by simp)
theorem qw{sp:List au}{la:List ax}{n:Nat}{w:gJ}(a:denotes sp la (n:Nat)=w):jj sp la n=(decide (w.Offset=0)&&(decide (w.Kind=1) || decide (w.Kind=3))):=by
 unfold jj;rw[a]
theorem M2{n:Nat}(h:n<=1048576):lN (n:Nat):=⟨ω,ω⟩
theorem uU(sp:List au)(la:List ax)(c:dd sp)(d:db la)(a:bg sp la=true):ao Tryz.prog 278 false [.val none (bR .imm sp),.val none (bC .imm la)] .one (aD .own (im sp la)):=by
 have g:=kV sp la c d;rw[a]at g;refine fO 40 [] Tryz.func278 rfl ?_ (.inr (bK _))
 repeat'(first|refine gO ?_|fail)
 (conv=>whnf)
 refine CC (ι:=Nat) (λn=>[(0,.hold .one (bR .imm sp)),(1,.hold .one (bC .imm la)),(5,.hold .one (aD .own (kN sp la n))),(6,.hold .one [I ((n:Nat):Int)])]) (λn=>n<=512) (λn=>512 - n) (0) ?_ (R0 _) λn o=>?_
 ·exact wB
 have i:=yu sp la n;by_cases p:n<512
 ·have h:=lT sp la (n:Nat) c d a (M2 ω)
  generalize j:denotes sp la (n:Nat)=w at h;have e:=qw j
  repeat'(first|refine gD ?_|(conv=>whnf);first|with_reducible refine Bf.E (λk=>?_) (λk=>?_)|refine C6 g ?_|refine C6 h ?_|refine CQ cx (λr l=>by rw[Z0.1 l];rfl) (by simp[aV,dC]) (by simp;omega) (by simp only[W0];exact yk (by simp;omega) (by decide)) rfl ?_)
  all_goals first
   |(have b:jj sp la n=true:=by rw[e];grind
     (conv=>whnf)
     refine CB (n+1) ω ω ?_;rw[HP b]
     (repeat'(first|exact trivial|rfl|exact CH rfl (CH (T0 (C.s dw.own) (by simp[rI])) trivial)|refine CH ?_ ?_)))
   |(have b:jj sp la n=false:=by rw[e];grind
     (conv=>whnf)
     refine CB (n+1) ω ω ?_;rw[Kf b]
     (exact wA))
 ·obtain rfl:n=512:=ω
  repeat'(first|refine gD ?_|(conv=>whnf);first|refine C6 g ?_)
  rfl
theorem wl(m:aH)(a:m.Inbox.length=m.Buffers.length):∀i,i<=m.Buffers.length->(((flight1 m i).length+(flight2 m i).length:Nat):Int)=bu m i
 | 0,_=>rfl
 | i+1,h=>by
  have d:=wl m a i ω;have b:=ah (xs:=m.Buffers) (i:=i) ω;have c:=ah (xs:=m.Inbox) (i:=i) ω;rw[mh b,mr c];simp only[W2,W0];show _=bu m i+((nth m.Buffers i).length+(nth m.Inbox i).length);omega
theorem q9{m:aH}(h:b6 m=true):(aO m).length<=30:=by
 have a:=mj h;have b:=wl m a.2.2 m.Buffers.length (R2 _);have c:bu m m.Buffers.length<=30:=by
  unfold b6 at h;simp only[I0,C0]at h;exact h.2
 rw[nj h,W2,a.2.2];omega
theorem DP{m:aH}(d:aH.wf m):∀a∈aO m,lN a:=by
 intro a b;unfold aO at b;split at b
 ·rcases Q2.1 b with h|h
  ·obtain⟨l,c,h⟩:=List.mem_flatMap.1 h
   obtain⟨p,e,rfl⟩:=U3.1 h;exact((d.1.2 l c).2 p e).2
  ·obtain⟨l,c,h⟩:=List.mem_flatten.1 h
   exact(d.2.2 l c).2 a h
 ·cases b
theorem Jt{h:ab}(h1:h.Caches.all (ee h)=false):iz h=false:=by unfold iz gF;rw[h1];rfl
theorem Hw{h:ab}(h1:h.Quar.Lst.all (gv h)=false):iz h=false:=by unfold iz gF;rw[h1];simp
theorem H3{h:ab}(h1:(aO h.Mail).all (jw h)=false):iz h=false:=by unfold iz gF;rw[h1];simp
theorem Jo{h:ab}{i:Nat}(a:i<(holders h).length)(b:nth (holders h) i∈(holders h).take i):iz h=false:=by
 have c:decide (holders h).Nodup=false:=LI (S:=(holders h).take i) (p:=nth (holders h) i) (by
   have:=ah a;have e:(holders h).take i++[nth (holders h) i]=(holders h).take (i+1):=by rw[T4,this];rfl
   rw[e];exact List.take_prefix ..) b
 unfold iz;rw[c];simp
theorem tG{h:ab}{i:Nat}{c:aA}(a:h.Caches[i]? = some c):((h.Caches.take (i+1)).flatMap λc=>c.Lists.flatten)=((h.Caches.take i).flatMap λc=>c.Lists.flatten)++c.Lists.flatten:=by
 rw[T4,a,List.flatMap_append];simp
theorem wc{c:aA}{k:Nat}{l:List Int}(a:c.Lists[k]? = some l):(c.Lists.take (k+1)).flatten=(c.Lists.take k).flatten++l:=by
 rw[T4,a,List.flatten_append];simp
theorem EM(h:ab)(hs:ab.sml h)(hw:ab.wf h)(y:bg h.Spans h.Larges=true)(G:b6 h.Mail=true)(hco:∀c∈h.Caches,bo c=true):ao Tryz.prog 210 false [.val (some 24) (ab.enc .imm h)] .one [B (iz h)]:=by
 obtain⟨-,-,N,O,hso,hsc,hsm,hsq,-⟩:=hs;obtain⟨-,-,-,-,-,hwc,hwm,hwq,-⟩:=hw;have hlo:h.Objs.length<=1048576:=hso.1;have hlc:h.Caches.length<=1048576:=hsc.1;have hlq:h.Quar.Lst.length<=1048576:=hsq.1;have hfl:=q9 G;have hfw:=DP hwm;have H:∀a c,lN a->ao Tryz.prog 276 false [.val (some 24) (ab.enc .imm h),.val none [I a],.val none [I c]] .one [B (dc h a c)]:=λa c ha=>Fe h a c N O y ha
 refine fO 159 [(16,8,[63,64,65,66,67,68,69,70]),(22,17,[86,87,88,89,90,91,92,93,94,95,96,97,98,99,100,101,102]),(29,7,[122,123,124,125,126,127,128]),(35,8,[142,143,144,145,146,147,148,149])] Tryz.func210 rfl ?_
 repeat'(first|refine gO ?_|fail)
 (conv=>whnf)
 refine CC (ι:=Nat × List Int) (λi=>[(1,.hold .box (ab.enc .imm h)),(3,.hold .one (aD .own i.2)),(4,.hold .one [I ((i.1:Nat):Int)])]) (λi=>i.1<=h.Objs.length/\i.2=(h.Objs.take i.1).map (·.Addr)) (λi=>h.Objs.length - i.1) ((0,[])) ?_ (⟨R0 _,rfl⟩) λi E=>?_
 ·exact wB
 obtain⟨i,S⟩:=i;obtain⟨E,M⟩:=E;simp only at E M |-;have hSl:S.length=i:=by rw[M,W0,I1];omega
 by_cases li:i<h.Objs.length
 ·have t:=ah li
  repeat'(first|refine gD ?_|(conv=>whnf);first|with_reducible refine CA (aa t) ?_|refine CQ cx (λr u=>by rw[Z0.1 u];rfl) (by simp[aV,dC]) (by simp;omega) (by simp only[W0];exact yk (by simp;omega) (by decide)) rfl ?_)
  ((conv=>whnf)
   refine CB (i+1,S++[(nth h.Objs i).Addr]) ⟨(by simp only;omega),(by simp only;rw[M,T4,t];simp)⟩ (by simp only;omega) ?_
   (repeat'(first|exact trivial|rfl|exact CH rfl (CH (T0 (C.s dw.own) (by simp[rI])) trivial)|refine CH ?_ ?_)))
 obtain rfl:i=h.Objs.length:=ω
 rw[I4]at M
 repeat'(first|refine gD ?_|fail)
 (conv=>whnf)
 refine CC (ι:=Nat × List Int) (λi=>[(1,.hold .box (ab.enc .imm h)),(3,.hold .one (aD .own i.2)),(5,.hold .one [I ((i.1:Nat):Int)])]) (λi=>i.1<=h.Caches.length/\i.2=S++((h.Caches.take i.1).flatMap λc=>c.Lists.flatten)/\(h.Caches.take i.1).all (ee h)=true/\i.2.length<=1048576+32*i.1) (λi=>h.Caches.length - i.1) ((0,S)) ?_ (⟨R0 _,by simp,rfl,by simp only;omega⟩) λi E=>?_
 ·exact wB
 obtain⟨i,S2⟩:=i;obtain⟨hi2,n,U,P⟩:=E;simp only at hi2 n U P |-;by_cases li2:i<h.Caches.length
 ·have t:=ah li2
  obtain⟨h4,h8⟩:=t8 (hco _ (am li2));have hwl:=hwc.2 _ (am li2)
  repeat'(first|refine gD ?_|(conv=>whnf);first|with_reducible refine CA (aa t) ?_)
  (conv=>whnf)
  refine CC (ι:=Nat × List Int) (λk=>[(1,.hold .box (ab.enc .imm h)),(3,.hold .one (aD .own k.2)),(5,.hold .one [I ((i:Nat):Int)]),(6,.hold .one [I ((k.1:Nat):Int)])]) (λk=>k.1<=(nth h.Caches i).Lists.length/\k.2=S2++((nth h.Caches i).Lists.take k.1).flatten/\cL k.1 (qS h (nth h.Caches i))=true/\k.2.length<=S2.length+8*k.1) (λk=>(nth h.Caches i).Lists.length - k.1) ((0,S2)) ?_ (⟨R0 _,by simp,rfl,by simp⟩) λk hk=>?_
  ·exact wB
  obtain⟨k,V⟩:=k;obtain⟨hk,w,ak,hb3⟩:=hk;simp only at hk w ak hb3 |-;by_cases W:k<(nth h.Caches i).Lists.length
  ·have hy:=ah W
   have hl8:=h8 _ (am W);have hwa:=(hwl.2 _ (am W)).2
   repeat'(first|refine gD ?_|(conv=>whnf);first|with_reducible (first|refine CA (aa t) ?_|refine CA (aa hy) ?_))
   (conv=>whnf)
   refine CC (ι:=Nat × List Int) (λj=>[(1,.hold .box (ab.enc .imm h)),(3,.hold .one (aD .own j.2)),(5,.hold .one [I ((i:Nat):Int)]),(6,.hold .one [I ((k:Nat):Int)]),(7,.hold .one (aD .imm (nth (nth h.Caches i).Lists k))),(8,.hold .one [I ((j.1:Nat):Int)])]) (λj=>j.1<=(nth (nth h.Caches i).Lists k).length/\j.2=V++(nth (nth h.Caches i).Lists k).take j.1/\((nth (nth h.Caches i).Lists k).take j.1).all (λa=>dc h a (k:Nat))=true) (λj=>(nth (nth h.Caches i).Lists k).length - j.1) ((0,V)) ?_ (⟨R0 _,by simp,rfl⟩) λj hj=>?_
   ·exact wB
   obtain⟨j,S4⟩:=j;obtain⟨hj,o,X⟩:=hj;simp only at hj o X |-;have hl4:S4.length=V.length+j:=by rw[o,W2,I1];omega
   by_cases Y:j<(nth (nth h.Caches i).Lists k).length
   ·have d:=ah Y
    have b:=H (nth (nth (nth h.Caches i).Lists k) j) (k:Nat) (hwa _ (am Y));cases p:dc h (nth (nth (nth h.Caches i).Lists k) j) (k:Nat)<;>rw[p]at b
    ·repeat'(first|refine gD ?_|(conv=>whnf);first|with_reducible refine CA (aa d) ?_|refine C6 b ?_)
     exact T0 (λz=>[B z]) ((Jt (ed t (by unfold ee;exact cg W (ed d p)))).symm)
    ·repeat'(first|refine gD ?_|(conv=>whnf);first|with_reducible refine CA (aa d) ?_|refine C6 b ?_|refine CQ cx (λr u=>by rw[Z0.1 u];rfl) (by simp[aV,dC]) (by simp;omega) (by show _*8<=_;simp;omega) rfl ?_)
     ((conv=>whnf)
      refine CB (j+1,S4++[nth (nth (nth h.Caches i).Lists k) j]) ⟨(by simp only;omega),(by simp only;rw[o,T4,d,U4];rfl),cF d X p⟩ (by simp only;omega) ?_
      (repeat'(first|exact trivial|rfl|exact CH rfl (CH (T0 (C.s dw.own) (by simp[rI])) trivial)|refine CH ?_ ?_)))
   ·obtain rfl:j=(nth (nth h.Caches i).Lists k).length:=ω
    rw[I4]at o X
    repeat'(first|refine gD ?_|fail)
    ((conv=>whnf);refine CB (k+1,S4) ⟨(by simp only;omega),(by simp only;rw[o,w,wc hy,U4]),bM ak X,(by simp only;omega)⟩ (by simp only;omega) ?_;(exact wB))
  ·obtain rfl:k=(nth h.Caches i).Lists.length:=ω
   rw[I4]at w
   repeat'(first|refine gD ?_|(conv=>whnf);first|with_reducible refine CA (aa t) ?_)
   ((conv=>whnf);refine CB (i+1,V) ⟨(by simp only;omega),(by simp only;rw[w,n,tG t,U4]),cF t U ak,(by simp only;omega)⟩ (by simp only;omega) ?_;(exact wB))
 obtain rfl:i=h.Caches.length:=ω
 rw[I4]at n U
 repeat'(first|refine gD ?_|fail)
 (conv=>whnf)
 refine CC (ι:=Nat × List Int) (λq=>[(1,.hold .box (ab.enc .imm h)),(3,.hold .one (aD .own q.2)),(9,.hold .one [I ((q.1:Nat):Int)])]) (λq=>q.1<=h.Quar.Lst.length/\q.2=S2++(h.Quar.Lst.take q.1).map (·.Addr)/\(h.Quar.Lst.take q.1).all (gv h)=true) (λq=>h.Quar.Lst.length - q.1) ((0,S2)) ?_ (⟨R0 _,by simp,rfl⟩) λq Q=>?_
 ·exact wB
 obtain⟨q,R⟩:=q;obtain⟨J,g,Z⟩:=Q;simp only at J g Z |-;have hl5:R.length=S2.length+q:=by rw[g,W2,W0,I1];omega
 by_cases T:q<h.Quar.Lst.length
 ·have d:=ah T
  have b:=H (nth h.Quar.Lst q).Addr (nth h.Quar.Lst q).Class (hwq.2.2 _ (am T)).1;cases p:dc h (nth h.Quar.Lst q).Addr (nth h.Quar.Lst q).Class<;>rw[p]at b
  ·repeat'(first|refine gD ?_|(conv=>whnf);first|with_reducible refine CA (aa d) ?_|refine C6 b ?_)
   exact T0 (λz=>[B z]) ((Hw (ed d p)).symm)
  ·repeat'(first|refine gD ?_|(conv=>whnf);first|with_reducible refine CA (aa d) ?_|refine C6 b ?_|refine CQ cx (λr u=>by rw[Z0.1 u];rfl) (by simp[aV,dC]) (by simp;omega) (by show _*8<=_;simp;omega) rfl ?_)
   ((conv=>whnf)
    refine CB (q+1,R++[(nth h.Quar.Lst q).Addr]) ⟨(by simp only;omega),(by simp only;rw[g,T4,d,V4,U4];rfl),cF d Z p⟩ (by simp only;omega) ?_
    (repeat'(first|exact trivial|rfl|exact CH rfl (CH (T0 (C.s dw.own) (by simp[rI])) trivial)|refine CH ?_ ?_)))
 obtain rfl:q=h.Quar.Lst.length:=ω
 rw[I4]at g Z
 repeat'(first|refine gD ?_|(conv=>whnf);first|refine C6 (xE h.Mail hsm) ?_)
 (conv=>whnf)
 refine CC (ι:=Nat × List Int) (λq=>[(1,.hold .box (ab.enc .imm h)),(3,.hold .one (aD .own q.2)),(10,.hold .one (aD .own (aO h.Mail))),(11,.hold .one [I ((q.1:Nat):Int)])]) (λq=>q.1<=(aO h.Mail).length/\q.2=R++(aO h.Mail).take q.1/\((aO h.Mail).take q.1).all (jw h)=true) (λq=>(aO h.Mail).length - q.1) ((0,R)) ?_ (⟨R0 _,by simp,rfl⟩) λq Q=>?_
 ·exact wB
 obtain⟨q,e⟩:=q;obtain⟨J,l,aq6⟩:=Q;simp only at J l aq6 |-;have hl6:e.length=R.length+q:=by rw[l,W2,I1];omega
 by_cases T:q<(aO h.Mail).length
 ·have d:=ah T
  have b:=H (nth (aO h.Mail) q) (-1) (hfw _ (am T));cases p:dc h (nth (aO h.Mail) q) (-1)<;>rw[p]at b
  ·repeat'(first|refine gD ?_|(conv=>whnf);first|with_reducible refine CA (aa d) ?_|refine CF rfl (aa d) rfl ?_|refine C6 b ?_)
   exact T0 (λz=>[B z]) ((H3 (ed d p)).symm)
  ·repeat'(first|refine gD ?_|(conv=>whnf);first|with_reducible refine CA (aa d) ?_|refine CF rfl (aa d) rfl ?_|refine C6 b ?_|refine CQ cx (λr u=>by rw[Z0.1 u];rfl) (by simp[aV,dC]) (by simp;omega) (by show _*8<=_;simp;omega) rfl ?_)
   ((conv=>whnf)
    refine CB (q+1,e++[nth (aO h.Mail) q]) ⟨(by simp only;omega),(by simp only;rw[l,T4,d,U4];rfl),cF d aq6 p⟩ (by simp only;omega) ?_
    (repeat'(first|exact trivial|rfl|exact CH rfl (CH (T0 (C.s dw.own) (by simp[rI])) trivial)|refine CH ?_ ?_)))
 obtain rfl:q=(aO h.Mail).length:=ω
 rw[I4]at l aq6;have F:e=holders h:=by rw[l,g,n,M];rfl
 have K:gF h=true:=by unfold gF;rw[U,Z,aq6];rfl
 have hbig:e.length<=100000000:=ω
 clear l g n M hSl hl5 P hl6
 repeat'(first|refine gD ?_|fail)
 (conv=>whnf)
 refine Lp.fz 3 (ι:=Nat) (λi=>[(1,.hold .box (ab.enc .imm h)),(3,.hold .one (aD .imm e)),(12,.hold .one [I ((i:Nat):Int)])]) (λi=>i<=e.length/\(e.take i).Nodup) (λi=>e.length - i) 0 ?_ ⟨R0 _,by simp⟩ λi E=>?_
 ·(repeat'(first|exact trivial|rfl|exact CH rfl (show Jx (dA (aD .own e)) (aD .imm e) by rw[en];exact jZ _)|refine CH ?_ ?_))
 obtain⟨E,L⟩:=E;by_cases Y:i<e.length
 ·have d:=ah Y
  have htl:(e.take i).length=i:=by rw[I1];omega
  repeat'(first|refine gD ?_|(conv=>whnf);first|with_reducible (first|refine CA (aa d) ?_|refine Bf.D (λQ=>?_) (λQ=>?_))|refine CS i rfl (by simp;omega) (λr u=>by obtain⟨z,-,rfl⟩:=U3.1 u;rfl) (R3 ..) ?_|refine C6 (lD (e.take i) _ ω) ?_)
  all_goals first
   | exact T0 (λz=>[B z]) ((by rw[F]at *;exact(Jo (by assumption) (by assumption)).symm))
   | ((conv=>whnf);refine CB (i+1) ⟨ω,by rw[T4,d];exact kg L (by assumption)⟩ ω ?_;(exact wB))
 ·obtain rfl:i=e.length:=ω
  rw[I4]at L;have hlv:=yu h.Spans h.Larges 512
  repeat'(first|refine gD ?_|(conv=>whnf);first|refine C6 (uU h.Spans h.Larges N O y) ?_)
  exact T0 (λz=>[B z]) ((by unfold iz;rw[K,<-F,O0 L,Bool.true_and,Bool.true_and];rw[Z3,beq_iff_eq,C0];unfold im at *;omega))
set_option maxHeartbeats 8000000
def cZ(h:ab):Bool:=(b6 h.Mail&&decide (h.Caches.length=h.Mail.Buffers.length))&&fj h.Quar
def fo(h:ab):Bool:=((((((kR h&&tn h)&&cZ h)&&jI h)&&h.Caches.all bo)&&cm h)&&(fe h&&iz h))&&pz h
theorem BX(h:ab)(hs:ab.sml h)(hw:ab.wf h):ao Tryz.prog 125 false [.val (some 24) (ab.enc .imm h)] .one [B (fo h)]:=by
 have R:=hs;have S:=hw;obtain⟨w,y,b,l,T,C,E,F,G⟩:=hs;obtain⟨-,-,-,-,U,hwc,hwm,hwq,-⟩:=hw;have n:x8 h:=w.1.2;have hpn:dU h<=1048576:=n.1;have V:h.Objs.length<=1048576:=T.1;have W:h.Caches.length<=1048576:=C.1;have hlq:h.Quar.Lst.length<=1048576:=F.1;have hlb:h.Mail.Buffers.length<=1048576:=E.1.1;have d:=kY h.Kernel w;have e:=kW (dU h) h.Free ⟨ω,ω⟩ y;have g:=kV h.Spans h.Larges b l;have r:=Aj h b n;have H:=kK h.Mail E;have X:=nK h.Quar F;cases Y:aB h.Kernel<;>rw[Y]at d
 ·refine fO 150 [(8,10,[67,68,69,70,71,72,73,74,75,76])] Tryz.func125 rfl ?_
  repeat'(first|refine gO ?_|(conv=>whnf);first|with_reducible refine Bf.N (λa=>?_) (λa=>?_)|refine C6 d ?_)
  all_goals first
   | exact T0 (λz=>[B z]) ((by unfold fo kR;rw[Y];simp))
   |(exfalso;omega)
 cases Z:bx (dU h) h.Free<;>rw[Z]at e
 ·refine fO 150 [(8,10,[67,68,69,70,71,72,73,74,75,76])] Tryz.func125 rfl ?_
  repeat'(first|refine gO ?_|(conv=>whnf);first|with_reducible refine Bf.N (λa=>?_) (λa=>?_)|refine C6 d ?_|refine C6 e ?_)
  all_goals first
   | exact T0 (λz=>[B z]) ((by unfold fo kR;rw[Z];simp))
   |(exfalso;omega)
 cases u:bg h.Spans h.Larges<;>rw[u]at g
 ·refine fO 150 [(8,10,[67,68,69,70,71,72,73,74,75,76])] Tryz.func125 rfl ?_
  repeat'(first|refine gO ?_|(conv=>whnf);first|with_reducible refine Bf.N (λa=>?_) (λa=>?_)|refine C6 d ?_|refine C6 e ?_|refine C6 g ?_)
  all_goals first
   | exact T0 (λz=>[B z]) ((by unfold fo kR;rw[u];simp))
   |(exfalso;omega)
 have p:=Bw h b l n y u;cases e4:pages0 h<;>rw[e4]at p
 ·refine fO 150 [(8,10,[67,68,69,70,71,72,73,74,75,76])] Tryz.func125 rfl ?_
  repeat'(first|refine gO ?_|(conv=>whnf);first|with_reducible refine Bf.N (λa=>?_) (λa=>?_)|refine C6 d ?_|refine C6 e ?_|refine C6 g ?_|refine C6 p ?_)
  all_goals first
   | exact T0 (λz=>[B z]) ((by unfold fo kR;rw[e4];simp))
   |(exfalso;omega)
 cases e5:tn h<;>rw[e5]at r
 ·refine fO 150 [(8,10,[67,68,69,70,71,72,73,74,75,76])] Tryz.func125 rfl ?_
  repeat'(first|refine gO ?_|(conv=>whnf);first|with_reducible refine Bf.N (λa=>?_) (λa=>?_)|refine C6 d ?_|refine C6 e ?_|refine C6 g ?_|refine C6 p ?_|refine C6 r ?_)
  all_goals first
   | exact T0 (λz=>[B z]) ((by unfold fo ;rw[e5];simp))
   |(exfalso;omega)
 cases Q:b6 h.Mail<;>rw[Q]at H
 ·refine fO 150 [(8,10,[67,68,69,70,71,72,73,74,75,76])] Tryz.func125 rfl ?_
  repeat'(first|refine gO ?_|(conv=>whnf);first|with_reducible refine Bf.N (λa=>?_) (λa=>?_)|refine C6 d ?_|refine C6 e ?_|refine C6 g ?_|refine C6 p ?_|refine C6 r ?_|refine C6 H ?_)
  all_goals first
   | exact T0 (λz=>[B z]) ((by unfold fo cZ;rw[Q];simp))
   |(exfalso;omega)
 by_cases J:h.Caches.length=h.Mail.Buffers.length;rotate_left
 ·refine fO 150 [(8,10,[67,68,69,70,71,72,73,74,75,76])] Tryz.func125 rfl ?_
  repeat'(first|refine gO ?_|(conv=>whnf);first|with_reducible refine Bf.N (λa=>?_) (λa=>?_)|refine C6 d ?_|refine C6 e ?_|refine C6 g ?_|refine C6 p ?_|refine C6 r ?_|refine C6 H ?_)
  all_goals first
   | exact T0 (λz=>[B z]) ((by unfold fo cZ;rw[Q0 J];simp))
   |(exfalso;omega)
 cases e7:fj h.Quar<;>rw[e7]at X
 ·refine fO 150 [(8,10,[67,68,69,70,71,72,73,74,75,76])] Tryz.func125 rfl ?_
  repeat'(first|refine gO ?_|(conv=>whnf);first|with_reducible refine Bf.N (λa=>?_) (λa=>?_)|refine C6 d ?_|refine C6 e ?_|refine C6 g ?_|refine C6 p ?_|refine C6 r ?_|refine C6 H ?_|refine C6 X ?_)
  all_goals first
   | exact T0 (λz=>[B z]) ((by unfold fo cZ;rw[e7];simp))
   |(exfalso;omega)
 have K:kR h=true:=by unfold kR;rw[Y,Z,u,e4];rfl
 have hmc:cZ h=true:=by unfold cZ;rw[Q,O0 J,e7];rfl
 refine fO 150 [(8,10,[67,68,69,70,71,72,73,74,75,76])] Tryz.func125 rfl ?_
 repeat'(first|refine gA ?_|(conv=>whnf);first|with_reducible refine Bf.N (λa=>?_) (λa=>?_)|refine C6 d ?_|refine C6 e ?_|refine C6 g ?_|refine C6 p ?_|refine C6 r ?_|refine C6 H ?_|refine C6 X ?_)
 all_goals try(exfalso;omega)
 (conv=>whnf)
 refine CC (ι:=Nat) (λi=>[(1,.hold .box (ab.enc .imm h)),(3,.hold .one [I ((i:Nat):Int)])]) (λi=>i<=h.Quar.Lst.length/\(h.Quar.Lst.take i).all (λx=>decide (x.Since<=h.Clock))=true) (λi=>h.Quar.Lst.length - i) (0) ?_ (⟨R0 _,rfl⟩) λi hi=>?_
 ·exact wB
 obtain⟨hi,ai⟩:=hi;by_cases li:i<h.Quar.Lst.length
 ·have j:=ah li
  repeat'(first|refine gD ?_|(conv=>whnf);first|with_reducible (first|refine CA (aa j) ?_|refine Bf.D (λa=>?_) (λa=>?_)))
  all_goals first
   | exact T0 (λz=>[B z]) ((by unfold fo jI;rw[ed j (Q0 ω)];simp))
   | ((conv=>whnf);refine CB (i+1) ⟨ω,cF j ai (O0 ω)⟩ ω ?_;(exact wB))
 have hsi:jI h=true:=gf ω ai
 repeat'(first|refine gD ?_|fail)
 (conv=>whnf)
 refine CC (ι:=Nat) (λk=>[(1,.hold .box (ab.enc .imm h)),(4,.hold .one [I ((k:Nat):Int)])]) (λk=>k<=h.Caches.length/\(h.Caches.take k).all bo=true) (λk=>h.Caches.length - k) (0) ?_ (⟨R0 _,rfl⟩) λk hk=>?_
 ·exact wB
 obtain⟨hk,ak⟩:=hk;by_cases lk:k<h.Caches.length
 ·have j:=ah lk
  have c8:=mw (nth h.Caches k) (C.2 _ (am lk));cases e8:bo (nth h.Caches k)<;>rw[e8]at c8
  ·repeat'(first|refine gD ?_|(conv=>whnf);first|with_reducible refine CA (aa j) ?_|refine C6 c8 ?_)
   exact T0 (λz=>[B z]) ((by unfold fo;rw[ed j e8];simp))
  ·repeat'(first|refine gD ?_|(conv=>whnf);first|with_reducible refine CA (aa j) ?_|refine C6 c8 ?_)
   ((conv=>whnf);refine CB (k+1) ⟨ω,cF j ak e8⟩ ω ?_;(exact wB))
 have L:h.Caches.all bo=true:=gf ω ak;have q:=FK h b l u V W (λo ho=>(U.2 o ho).2.1);have c10:=EM h R S u Q (O3.1 L);have c11:=H7 h.Job G;have c12:=vL h.Job G;have c13:=jb h h.Job.Plan.Keep b.1;have c14:=jb h h.Job.Plan.Move b.1;by_cases hn:cm h=true;rotate_left
 ·have M:cm h=false:=by simpa using hn
  have c:=M;unfold cm at c;rw[Y3]at c;cases O:fe h<;>rw[O]at q<;>cases e10:iz h<;>rw[e10]at c10
  all_goals
   repeat'(first|refine gD ?_|(conv=>whnf);first|with_reducible refine Bf.D (λa=>?_) (λa=>?_)|refine C6 (aE _ _ _) ?_|refine C6 q ?_|refine C6 c10 ?_)
   all_goals first
    | exact T0 (λz=>[B z]) ((by unfold fo;rw[M];simp))
    |(exfalso;omega)
 have c:=hn;unfold cm at c;rw[C0]at c;cases O:fe h<;>rw[O]at q
 ·repeat'(first|refine gD ?_|(conv=>whnf);first|with_reducible refine Bf.D (λa=>?_) (λa=>?_)|refine C6 (aE _ _ _) ?_|refine C6 q ?_)
  all_goals first
   | exact T0 (λz=>[B z]) ((by unfold fo;rw[O];simp))
   |(exfalso;omega)
 cases e10:iz h<;>rw[e10]at c10
 ·repeat'(first|refine gD ?_|(conv=>whnf);first|with_reducible refine Bf.D (λa=>?_) (λa=>?_)|refine C6 (aE _ _ _) ?_|refine C6 q ?_|refine C6 c10 ?_)
  all_goals first
   | exact T0 (λz=>[B z]) ((by unfold fo;rw[e10];simp))
   |(exfalso;omega)
 have P:fo h=pz h:=by unfold fo;rw[K,e5,hmc,hsi,L,hn,O,e10];rfl
 rw[P];unfold pz;cases em:h.Meshing
 ·repeat'(first|refine gD ?_|(conv=>whnf);first|with_reducible refine Bf.D (λa=>?_) (λa=>?_)|refine C6 (aE _ _ _) ?_|refine C6 q ?_|refine C6 c10 ?_|refine C6 c11 ?_|refine Bf.f em ?_)
  all_goals first
   |rfl
   | exact T0 (λz=>[B z]) ((by simp;done))
   |(exfalso;omega)
 ·cases e12:iY h.Job<;>rw[e12]at c12
  all_goals
   repeat'(first|refine gD ?_|(conv=>whnf);first|with_reducible (first|refine Bf.D (λa=>?_) (λa=>?_)|refine Bf.D (λa=>?_) (λa=>?_))|refine C6 (aE _ _ _) ?_|refine C6 q ?_|refine C6 c10 ?_|refine C6 c12 ?_|refine C6 c13 ?_|refine C6 c14 ?_|refine Bf.t em ?_)
   all_goals first
    | exact T0 (λz=>[B z]) ((by grind))
    |(exfalso;omega)
set_option maxHeartbeats 4000000
def sorted(xs:List Int):List Int:=xs.mergeSort λx y=>decide (x<=y)
theorem wG(xs:List Int):(sorted xs).length=xs.length:=List.length_mergeSort ..
theorem FP{w a:World}{g n:Nat}{d:Array Int}{f:Array Obj}{c:Array Value}{e:TypeId}{k:Nat × Nat}(l:w.heap[g]? = some (.cells c e k))(p:a=Sort.grow (Sort.putRow (Value.int .i64) (Sort.ahead w n) g 0 d) f) :
  a.os=w.os/\a.tape=w.tape/\a.output=w.output/\w.heap.size<=a.heap.size/\(∀b,b<w.heap.size->b≠g->a.heap[b]? = w.heap[b]?)/\a.heap[g]? = some (.cells (Sort.putCells (Value.int .i64) 0 d c) e k):=by
 subst p;have h:g<w.heap.size:=(Z2.1 l).1;have o:∀b,b<w.heap.size->(Sort.grow (Sort.putRow (Value.int .i64) (Sort.ahead w n) g 0 d) f).heap[b]? = if g=b then(w.heap[b]?).map (Sort.onCells (Sort.putCells (Value.int .i64) 0 d)) else w.heap[b]?:=λb i=>by
  rw[Sort.heap_grow_old _ _ (by simpa[Sort.putRow,Sort.mapBlock,Sort.ahead] using i)];show(w.heap.modify g _)[b]? = _;rw[Array.getElem?_modify]
 refine⟨rfl,rfl,rfl,?_,λb i j=>?_,?_⟩
 ·show w.heap.size<=((w.heap.modify g _)++f).size
  simp
 ·rw[o b i,C7 λe=>j e.symm]
 ·rw[o g h,C8 rfl,l];rfl
theorem MR(d:Array Int)(c:Array Value)(q:Nat):(Sort.putCells (Value.int .i64) 0 d c)[q]? = if q<d.size then(c[q]?).map (λ_=>.int .i64 d[q]!) else c[q]?:=by
 unfold Sort.putCells;rw[Array.getElem?_mapIdx];by_cases h:q<d.size
 ·rw[C8 h]
  cases c[q]? with
  | none=>rfl
  | some y=>simp[h]
 ·rw[C7 h]
  cases c[q]? with
  | none=>rfl
  | some y=>simp[h]
theorem row1{w:World}{S Y:ac}{c:C}{v:Value}(h:dX w S Y c v):cH w S Y [c] (λ_=>v):=by
 refine⟨λ_=>Y,λj e a=>?_,λ_ _ _ _ h=>h,λj f a b d=>?_⟩
 ·cases j with
  | zero=>simp at a;subst a;exact h
  | succ j=>simp at a
 ·simp at a b;omega
def Qv(Y:ac):Nat->ac
 | 0=>Y
 | _+1=>NO
theorem BB(xs:List Int){j:Nat}(a:j<xs.length):xs.toArray[j]! = xs[j]:=by
 rw[getElem!_pos xs.toArray j (by simpa using a)];simp
theorem Nc(xs:List Int)(hl:xs.length<=1048576*64):aP Tryz.prog 175 false [.mut none (aD .own xs)] [.mut none (aD .own (sorted xs))] (.tup []) []:=by
 refine⟨⟨_,Tryz.func175,by kernel_rfl,by kernel_rfl⟩,λw S V vs hS hV hVV hA=>?_⟩
 match vs,hA with
 | [v],⟨hA,_⟩=>
  have E:=bD.rep1 (show bD w S (V 0) none [C.s .own (xs.map (rI .own))] v from hA);generalize D:C.s .own (xs.map (rI .own))=cc at E;cases E with
  | nil _ o a ho=>
   cases R:xs with
   | cons x xs'=>rw[R]at D;cases D
   | nil=>
    refine(Tryz.slices_Sort_int_none a 0 w).mono λe d ⟨he,G⟩=>?_
    subst G;refine⟨.tuple #[],he,CW _ _,NO,λ_=>NO,NO,λ_ _ h=>h.elim,λ_ _ _ h=>h.elim,λ_ _ h=>h.elim,λ_ _ _ _ _ h=>h.elim,λ_ _ _ h=>h.elim,λ_ _ h=>h.elim,λ_ _ _ h=>h.elim,⟨#[],rfl,trivial,rfl⟩,cH.nil _ _ _ _,⟨⟨rfl,λ_=>.slice a 0 0,rfl,row1 (by rw[show sorted []=[] from List.mergeSort_nil ..];exact .nil _ .own _ trivial)⟩,trivial⟩⟩
  | own _ o g k n H rows u f ho O hk T U W hu hf hd hc=>
   cases D;have hnx:n=xs.length:=by rw[<-O,W0]
   have X:0<xs.length:=ω
   have hk1:k=1:=by
    have:=hk (rI .own xs[0]) (U3.2 ⟨_,List.getElem_mem X,rfl⟩);exact this.symm
   subst hk1 hnx;have t:∀j (y:j<xs.length),cel w g j=some (.int .i64 xs[j]):=λj y=>by
    have J:=hu j ω;have Y:=hc j 0 (rI .own xs[j]) (I xs[j]) (by rw[U2,U1 y];rfl) rfl;rw[Nat.mul_one,Nat.add_zero]at Y;rw[J];generalize u j=z at Y;cases Y
    rfl
   have hgs:g<w.heap.size:=(hV 0 g 0 (W 0 ω).1).1;obtain⟨c,e0,fr,hg,-⟩:=Sort.cells_of_cell? (t 0 X);have hH:Sort.Holds (Value.int .i64) w g 0 xs.toArray:=λj y=>by
    have Z:j<xs.length:=by simpa using y
    refine⟨?_,?_⟩
    ·rw[BB xs Z,Q5];exact t j Z
    ·rw[Q5];exact T0 Prod.fst (W j ω).2.2
   refine(Tryz.slices_Sort_int g 0 H xs w hH hgs ω).mono λe d ⟨he,m,os,G⟩=>?_
   obtain⟨q1,q2,q3,q4,q5,q6⟩:=FP hg G;have hsl:=wG xs;have B:∀q,cel w g q=c[q]?:=λq=>by show World.cell? w _=_;unfold World.cell?;simp[hg]
   have l:∀q,cel d g q=if q<xs.length then(c[q]?).map (λ_=>.int .i64 (sorted xs).toArray[q]!) else c[q]?:=λq=>by
    have J:=MR (sorted xs).toArray c q;have Y:(sorted xs).toArray.size=xs.length:=by simpa using hsl
    rw[Y]at J;rw[<-J];show World.cell? d _=_;unfold World.cell?;simp[q6,sorted]
   have p:∀q (P:q<xs.length),cel d g q=some (.int .i64 ((sorted xs)[q]'(ω))):=λq P=>by
    have J:=t q P;rw[B]at J;rw[l,C8 P,J,O4,BB (sorted xs) ω]
   have F:∀q,fro d g q=fro w g q:=λq=>by
    refine Prod.ext ?_ ?_
    ·show World.frozen? d _=World.frozen? w _
     unfold World.frozen?;simp[q6,hg]
    ·show mp d g=mp w g
     unfold mp;rw[q6,hg]
   have hother:∀b,b<w.heap.size->b≠g->∀o,cel d b o=cel w b o/\fro d b o=fro w b o:=λb K L o=>by
    have M:=q5 b K L;refine⟨?_,Prod.ext ?_ ?_⟩
    ·show World.cell? d _=World.cell? w _
     unfold World.cell?;simp only[M]
    ·show World.frozen? d _=World.frozen? w _
     unfold World.frozen?;simp only[M]
    ·show mp d b=mp w b
     unfold mp;rw[M]
   have N:bB (λb o=>∃i,V i b o) w d:=by
    refine⟨q1,q2,q3,q4,λb K O=>q5 b K λe=>?_,λb o K O=>?_,λb o K O=>?_⟩
    ·subst e;exact O 0 ⟨0,(W 0 ω).1⟩
    ·by_cases e:b=g
     ·subst e
      have ho:¬o<xs.length:=λh=>O ⟨0,(W o ω).1⟩
      rw[l,C7 ho,B]
     ·exact(hother b K e o).1
    ·by_cases e:b=g
     ·subst e;exact F o
     ·exact(hother b K e o).2
   refine⟨.tuple #[],he,N,NO,Qv (V 0),NO,λ_ _ h=>h.elim,λi b o h=>?_,λ_ _ h=>h.elim,λi i' L b o h h'=>?_,λ_ _ _ h=>h.elim,λ_ _ h=>h.elim,λ_ _ _ _ h=>h.elim,⟨#[],rfl,trivial,rfl⟩,cH.nil _ _ _ _,⟨⟨rfl,λ_=>.slice (some ⟨g,0,none⟩) xs.length H,rfl,row1 ?_⟩,trivial⟩⟩
   ·cases i with
    | zero=>exact .inl ⟨0,h⟩
    | succ i=>exact h.elim
   ·cases i with
    | zero=>
     cases i' with
     | zero=>exact L rfl
     | succ i'=>exact h'.elim
    | succ i=>exact h.elim
   ·show dX d _ (V 0) _ _
    refine .own _ .own g 1 xs.length H _ (λq=>(cel d g q).getD undef) (λ_=>NO) trivial (by rw[W0,hsl]) (λr hr=>by obtain⟨z,-,rfl⟩:=U3.1 hr;rfl) T U (λq P=>?_) (λq P=>?_) (λ_ _ _ _ h=>h.elim) (λ_ _ _ _ _ _ _ h=>h.elim) (λi j r c2 Q y=>?_)
    ·obtain⟨a1,⟨z,a2,a3⟩,a4⟩:=W q P
     refine⟨a1,?_,(F q).trans a4⟩;by_cases hqx:q<xs.length
     ·exact⟨_,p q hqx,rfl⟩
     ·rw[l,C7 hqx,<-B];exact⟨z,a2,a3⟩
    ·rw[p q ω];rfl
    ·rw[U2]at Q
     have hil:i<(sorted xs).length:=by
      rcases Nat.lt_or_ge i (sorted xs).length with h|h
      ·exact h
      ·rw[Z1 h]at Q;cases Q
     rw[U1 hil]at Q;simp only[O4,U0]at Q;subst Q
     match j,y with
     | 0,y=>
      simp only[rI,List.getElem?_cons_zero,U0]at y;subst y;simp only[Nat.mul_one,Nat.add_zero,p i ω,Option.getD_some];exact .v _ _ rfl
     | j+1,y=>simp[rI]at y
  | _=>cases D
set_option maxHeartbeats 8000000
def km(s:au)(k:Nat):Int:=16*s.Page+(k:Nat)*csz s.Class
def dI(s:au)(n:Nat):List Int:=((List.range n).filter λk=>aX s.Bits (k:Nat)).map (km s)
theorem z6{s:au}{n:Nat}(h:aX s.Bits (n:Nat)=true):dI s (n+1)=dI s n++[km s n]:=by
 unfold dI;rw[List.range_succ,List.filter_append,V4];simp[h]
theorem DG{s:au}{n:Nat}(h:aX s.Bits (n:Nat)=false):dI s (n+1)=dI s n:=by
 unfold dI;rw[List.range_succ,List.filter_append,V4];simp[h]
theorem ro(s:au)(n:Nat):(dI s n).length<=n:=by
 unfold dI;rw[W0];exact t4 (List.length_filter_le ..) (by simp)
def eP(sp:List au):List Int:=sp.flatMap λs=>dI s (slots s.Class).toNat
def live0(sp:List au)(la:List ax):List Int:=eP sp++la.map λl=>16*l.Page
def mO(sp:List au)(la:List ax):List Int:=sorted (live0 sp la)
theorem rm(k:Int):0<=slots k/\slots k<=16:=by
 unfold slots;(repeat' split)<;>decide
theorem zg{k:Int}(h:0<=k/\k<=3):slots k*csz k=16:=by
 obtain rfl|rfl|rfl|rfl:k=0\/k=1\/k=2\/k=3:=ω
 all_goals decide
theorem vV{sp:List au}{i:Nat}{s:au}(h:sp[i]? = some s):eP (sp.take (i+1))=eP (sp.take i)++dI s (slots s.Class).toNat:=by
 unfold eP;rw[T4,h,List.flatMap_append];simp
theorem xX(s:au)(k:Nat)(a:bc s=true)(i:(k:Int)<slots s.Class):ao Tryz.prog 174 false [.val (some 3) (au.enc .imm s),.val none [I (k:Nat)]] .one [I (km s k)]:=by
 have b:=gS s;have c:=d7 s.Class;have g:=ik s.Class;rw[a]at b;have d:=aF a;have j:=rm s.Class;rcases cv ⟨d.2.2.1,d.2.2.2⟩ with e|e|e|e<;>rw[e]at c
 all_goals
  refine fO 26 [(3,9,[17,18,19,20,21,22,23,24,25])] Tryz.func174 rfl ?_
  repeat'(first|refine gD ?_|(conv=>whnf);first|with_reducible refine Bf.D (λh=>?_) (λh=>?_)|refine C6 b ?_|refine C6 c ?_|refine C6 g ?_|refine C6 (aN _ 0 _) ?_)
  all_goals exact T0 (λz=>[I z]) (by unfold km;rw[e];omega)
theorem vF(sp:List au)(la:List ax)(d:dd sp)(e:db la)(b:bg sp la=true):ao Tryz.prog 79 false [.val none (bR .imm sp),.val none (bC .imm la)] .one (aD .own (mO sp la)):=by
 have E:=d.1;have F:=e.1;have D:=lc sp la d e;rw[b]at D;obtain⟨p,G,-⟩:=dm b;refine fP 56 [(175,[1])] [] Tryz.func79 rfl ?_ (.inr (bK _))
 repeat'(first|refine gO ?_|(conv=>whnf);first|refine C6 D ?_)
 (conv=>whnf)
 refine CC (ι:=Nat × List Int) (λi=>[(1,.hold .one (bC .imm la)),(5,.hold .one (aD .own i.2)),(16,.hold .one (bR .imm sp)),(17,.hold .one [I (sp.length)]),(18,.hold .one [I ((i.1:Nat):Int)])]) (λi=>i.1<=sp.length/\i.2=eP (sp.take i.1)/\i.2.length<=16*i.1) (λi=>sp.length - i.1) ((0,[])) ?_ (⟨R0 _,rfl,R0 _⟩) λi g=>?_
 ·exact wB
 obtain⟨i,S⟩:=i;obtain⟨g,n,H⟩:=g;simp only at g n H |-;by_cases o:i<sp.length
 ·have c:=ah o
  have h:bc (nth sp i)=true:=MU p o;have J:=rm (nth sp i).Class;have q:=eX h
  repeat'(first|refine gD ?_|(conv=>whnf);first|with_reducible refine CA (aa c) ?_)
  (conv=>whnf)
  refine CC (ι:=Nat × List Int) (λk=>[(1,.hold .one (bC .imm la)),(5,.hold .one (aD .own k.2)),(7,.hold .box (au.enc .imm (nth sp i))),(8,.hold .one [I ((k.1:Nat):Int)]),(16,.hold .one (bR .imm sp)),(17,.hold .one [I (sp.length)]),(18,.hold .one [I ((i:Nat):Int)])]) (λk=>k.1<=(slots (nth sp i).Class).toNat/\k.2=S++dI (nth sp i) k.1) (λk=>(slots (nth sp i).Class).toNat - k.1) ((0,S)) ?_ (⟨R0 _,by simp[dI]⟩) λk t=>?_
  ·exact wB
  obtain⟨k,S2⟩:=k;obtain⟨t,a⟩:=t;simp only at t a |-;have K:=ro (nth sp i) k;have j:S2.length=S.length+(dI (nth sp i) k).length:=by rw[a,W2]
  by_cases M:k<(slots (nth sp i).Class).toNat
  ·have u:=lW (nth sp i).Bits (k:Nat) q.2
   cases w:aX (nth sp i).Bits (k:Nat)<;>rw[w]at u
   ·repeat'(first|refine gD ?_|(conv=>whnf);first|refine C6 (ik _) ?_|refine C6 u ?_)
    ((conv=>whnf);refine CB (k+1,S2) ⟨(by simp only;omega),(by simp only;rw[DG w];exact a)⟩ (by simp only;omega) ?_;(exact wB))
   ·repeat'(first|refine gD ?_|(conv=>whnf);first|refine C6 (ik _) ?_|refine C6 u ?_|refine C6 (xX (nth sp i) k h ω) ?_|refine CQ cx (λr y=>by rw[Z0.1 y];rfl) (by simp[aV,dC]) (by simp;omega) (by show _*8<=_;simp;omega) rfl ?_)
    ((conv=>whnf)
     refine CB (k+1,S2++[km (nth sp i) k]) ⟨(by simp only;omega),(by simp only;rw[z6 w,a,U4])⟩ (by simp only;omega) ?_
     (repeat'(first|exact trivial|rfl|exact CH rfl (CH (T0 (C.s dw.own) (by simp[rI])) trivial)|refine CH ?_ ?_)))
  ·obtain rfl:k=(slots (nth sp i).Class).toNat:=ω
   repeat'(first|refine gD ?_|(conv=>whnf);first|refine C6 (ik _) ?_)
   ((conv=>whnf);refine CB (i+1,S2) ⟨(by simp only;omega),(by simp only;rw[vV c,<-n,a]),(by simp only;omega)⟩ (by simp only;omega) ?_;(exact wB))
 obtain rfl:i=sp.length:=ω
 rw[I4]at n
 repeat'(first|refine gD ?_|fail)
 (conv=>whnf)
 refine CC (ι:=Nat × List Int) (λi=>[(5,.hold .one (aD .own i.2)),(40,.hold .one (bC .imm la)),(41,.hold .one [I (la.length)]),(42,.hold .one [I ((i.1:Nat):Int)])]) (λi=>i.1<=la.length/\i.2=S++(la.take i.1).map (λl=>16*l.Page)) (λi=>la.length - i.1) ((0,S)) ?_ (⟨R0 _,by simp⟩) λi g=>?_
 ·exact wB
 obtain⟨i,S2⟩:=i;obtain⟨B,a⟩:=g;simp only at B a |-;have j:S2.length=S.length+i:=by rw[a,W2,W0,I1];omega
 by_cases o:i<la.length
 ·have c:=ah o
  have L:=sU b c
  repeat'(first|refine gD ?_|(conv=>whnf);first|with_reducible refine CA (aa c) ?_|refine CQ cx (λr y=>by rw[Z0.1 y];rfl) (by simp[aV,dC]) (by simp;omega) (by show _*8<=_;simp;omega) rfl ?_)
  ((conv=>whnf)
   refine CB (i+1,S2++[16*(nth la i).Page]) ⟨(by simp only;omega),(by simp only;rw[a,T4,c];simp)⟩ (by simp only;omega) ?_
   (repeat'(first|exact trivial|rfl|exact CH rfl (CH (T0 (C.s dw.own) (by simp[rI];omega)) trivial)|refine CH ?_ ?_)))
 obtain rfl:i=la.length:=ω
 rw[I4]at a
 repeat'(first|refine gD ?_|(conv=>whnf);first|refine CG (Nc S2 ω) (.inl rfl) ?_)
 show _=aD .own (sorted (eP sp++la.map λl=>16*l.Page));rw[<-n,<-a];rfl
def pw(b:List (Int × Value))(L:List Int):Prop:=∀a,mlook b a (.int .i64 0)=.int .i64 (L.count a:Nat)
theorem HC(f:List (Int × Value))(a b:Int)(v d:Value):mlook (mput f a v) b d=if a=b then v else mlook f b d:=by
 induction f with
 | nil=>simp only[mput,mlook]
 | cons p f g=>
  simp only[mput];by_cases h:p.1=a
  ·rw[C8 h]
   simp only[mlook];by_cases c:a=b
   ·rw[C8 c,C8 c]
   ·rw[C7 c,C7 c,C7 (by rw[h];exact c)]
  ·rw[C7 h]
   simp only[mlook];by_cases c:p.1=b
   ·rw[C8 c,C8 c,C7 (λe=>h (c.trans e.symm))]
   ·rw[C7 c,C7 c,g]
def inc(b:List (Int × Value))(L:List Int)(a:Int):List (Int × Value):=mput b a (.int .i64 ((L.count a:Nat)+1))
theorem HD:pw [] []:=λ_=>rfl
theorem o8{d:List (Int × Value)}{L:List Int}(h:pw d L)(a:Int):pw (inc d L a) (L++[a]):=λb=>by
 unfold inc;rw[HC,Y4];by_cases c:a=b
 ·subst c;rw[C8 rfl,List.count_singleton_self];simp
 ·rw[C7 c,h b,List.count_singleton,C7 (by simpa using c)];rfl
theorem Ah(h:ab)(d:dd h.Spans)(e:db h.Larges)(b:List (Int × Value))(L:List Int)(a c:Int)(g:pw b L)(n:L.length<=1000000000) :
  aP Tryz.prog 170 false [.val none [I a],.val none [I c],.ptr [.m b],.ptr (ab.enc .imm h)] [.val none [I a],.val none [I c],.ptr [.m (inc b L a)],.ptr (ab.enc .imm h)] .one [B (dc h a c)]:=by
 have k:=i7 h.Spans h.Larges a d e;obtain⟨i,-⟩:=m7 h.Spans h.Larges a;have l:L.count a<=L.length:=List.count_le_length;unfold dc;generalize denotes h.Spans h.Larges a=w at k i |-;refine fM 41 [] [] [(0,0),(0,0),(0,0),(0,0)] Tryz.func170 rfl (λu q=>?_)
 repeat'(first|refine gO ?_|(conv=>whnf);first|with_reducible (first|refine Bf.D (λj=>?_) (λj=>?_)|refine Bf.E (λj=>?_) (λj=>?_))|refine Ml.mk (g a) ?_|refine Mu.mk (es':=inc b L a) rfl ?_|refine C6 k ?_|refine CJ (i (by assumption)).1 (aa (ah (i (by assumption)).2)) ?_)
 all_goals
  refine CE rfl ?_ ?_
  ·exact T0 (λz=>[B z]) ((by grind))
  ·exact wB
set_option maxHeartbeats 8000000
def qE(h:ab)(a:aL):Bool:=gv h a&&decide (a.Since<=h.Clock)
def ly(h:ab):List Int:=((cn h++h.Quar.Lst.map (·.Addr))++aO h.Mail)++h.Objs.map (·.Addr)
def jh(h:ab):Bool:=((h.Caches.all (ee h)&&h.Quar.Lst.all (qE h))&&(aO h.Mail).all (jw h))&&(mO h.Spans h.Larges).all λa=>decide ((ly h).count a=1)
theorem My{h:ab}(h1:h.Caches.all (ee h)=false):jh h=false:=by unfold jh;rw[h1];rfl
theorem Gm{h:ab}(h1:h.Quar.Lst.all (qE h)=false):jh h=false:=by unfold jh;rw[h1];simp
theorem MH{h:ab}(h1:(aO h.Mail).all (jw h)=false):jh h=false:=by unfold jh;rw[h1];simp
theorem M0{h:ab}(h1:((mO h.Spans h.Larges).all λa=>decide ((ly h).count a=1))=false):jh h=false:=by unfold jh;rw[h1];simp
theorem Ji{sp:List au}{la:List ax}(h1:sp.length<=1048576)(b:la.length<=1048576):(mO sp la).length<=100000000:=by
 have a:∀(l:List au),(eP l).length<=16*l.length:=by
  intro l
  induction l with
  | nil=>exact R0 _
  | cons s l c=>
   have e:eP (s::l)=dI s (slots s.Class).toNat++eP l:=by unfold eP;rw[I5]
   have d:=rm s.Class;have f:=ro s (slots s.Class).toNat;rw[e,W2,List.length_cons];omega
 have g:=a sp;unfold mO live0;rw[wG,W2,W0];omega
theorem wY(h:ab)(hs:ab.sml h)(S:bg h.Spans h.Larges=true)(M:b6 h.Mail=true)(hco:∀c∈h.Caches,bo c=true):ao Tryz.prog 74 false [.val (some 24) (ab.enc .imm h)] .one [B (jh h)]:=by
 obtain⟨-,-,t,u,hso,hsc,hsm,hsq,-⟩:=hs;have hlo:h.Objs.length<=1048576:=hso.1;have hlc:h.Caches.length<=1048576:=hsc.1;have hlq:h.Quar.Lst.length<=1048576:=hsq.1;have hfl:=q9 M;have w:jh h=false->[B false]=[B (jh h)]:=λe=>by rw[e]
 refine fP 114 [(170,[0,0,2,2])] [] Tryz.func74 rfl ?_
 repeat'(first|refine gO ?_|fail)
 (conv=>whnf)
 refine CC (ι:=Nat × List (Int × Value) × List Int) (λi=>[(1,.hold .box (ab.enc .imm h)),(3,.hold .box [.m i.2.1]),(4,.fn 170 [3,1]),(22,.hold .one (iu .imm h.Caches)),(23,.hold .one [I (h.Caches.length)]),(24,.hold .one [I ((i.1:Nat):Int)])]) (λi=>i.1<=h.Caches.length/\pw i.2.1 i.2.2/\i.2.2=((h.Caches.take i.1).flatMap λc=>c.Lists.flatten)/\(h.Caches.take i.1).all (ee h)=true/\i.2.2.length<=32*i.1) (λi=>h.Caches.length - i.1) ((0,[],[])) ?_ (⟨R0 _,HD,rfl,rfl,R0 _⟩) λi hi=>?_
 ·exact wB
 obtain⟨i,es,L⟩:=i;obtain⟨hi,O,X,Y,hb⟩:=hi;simp only at hi O X Y hb |-;by_cases li:i<h.Caches.length
 ·have T:=ah li
  obtain⟨h4,h8⟩:=t8 (hco _ (am li))
  repeat'(first|refine gD ?_|(conv=>whnf);first|with_reducible refine CA (aa T) ?_)
  (conv=>whnf)
  refine CC (ι:=Nat × List (Int × Value) × List Int) (λk=>[(1,.hold .box (ab.enc .imm h)),(3,.hold .box [.m k.2.1]),(4,.fn 170 [3,1]),(22,.hold .one (iu .imm h.Caches)),(23,.hold .one [I (h.Caches.length)]),(24,.hold .one [I ((i:Nat):Int)]),(29,.hold .one (fX .imm (nth h.Caches i).Lists)),(30,.hold .one [I ((nth h.Caches i).Lists.length)]),(31,.hold .one [I ((k.1:Nat):Int)])]) (λk=>k.1<=(nth h.Caches i).Lists.length/\pw k.2.1 k.2.2/\k.2.2=L++((nth h.Caches i).Lists.take k.1).flatten/\cL k.1 (qS h (nth h.Caches i))=true/\k.2.2.length<=L.length+8*k.1) (λk=>(nth h.Caches i).Lists.length - k.1) ((0,es,L)) ?_ (⟨R0 _,O,by simp,rfl,by simp⟩) λk hk=>?_
  ·exact wB
  obtain⟨k,es3,Z⟩:=k;obtain⟨hk,y,K,ak,hb3⟩:=hk;simp only at hk y K ak hb3 |-;by_cases lk:k<(nth h.Caches i).Lists.length
  ·have hy:=ah lk
   have hl8:=h8 _ (am lk)
   repeat'(first|refine gD ?_|(conv=>whnf);first|with_reducible (first|refine CA (aa T) ?_|refine CA (aa hy) ?_))
   (conv=>whnf)
   refine CC (ι:=Nat × List (Int × Value) × List Int) (λj=>[(1,.hold .box (ab.enc .imm h)),(3,.hold .box [.m j.2.1]),(4,.fn 170 [3,1]),(7,.hold .one [I ((k:Nat):Int)]),(22,.hold .one (iu .imm h.Caches)),(23,.hold .one [I (h.Caches.length)]),(24,.hold .one [I ((i:Nat):Int)]),(29,.hold .one (fX .imm (nth h.Caches i).Lists)),(30,.hold .one [I ((nth h.Caches i).Lists.length)]),(31,.hold .one [I ((k:Nat):Int)]),(36,.hold .one (aD .imm (nth (nth h.Caches i).Lists k))),(37,.hold .one [I ((nth (nth h.Caches i).Lists k).length)]),(38,.hold .one [I ((j.1:Nat):Int)])]) (λj=>j.1<=(nth (nth h.Caches i).Lists k).length/\pw j.2.1 j.2.2/\j.2.2=Z++(nth (nth h.Caches i).Lists k).take j.1/\((nth (nth h.Caches i).Lists k).take j.1).all (λa=>dc h a (k:Nat))=true) (λj=>(nth (nth h.Caches i).Lists k).length - j.1) ((0,es3,Z)) ?_ (⟨R0 _,y,by simp,rfl⟩) λj hj=>?_
   ·exact wB
   obtain⟨j,es4,U⟩:=j;obtain⟨hj,l,C,aj⟩:=hj;simp only at hj l C aj |-;have hl4:U.length=Z.length+j:=by rw[C,W2,I1];omega
   by_cases lj:j<(nth (nth h.Caches i).Lists k).length
   ·have d:=ah lj
    have b:=Ah h t u es4 U (nth (nth (nth h.Caches i).Lists k) j) (k:Nat) l ω;cases r:dc h (nth (nth (nth h.Caches i).Lists k) j) (k:Nat)<;>rw[r]at b
    ·repeat'(first|refine gD ?_|(conv=>whnf);first|with_reducible refine CA (aa d) ?_|refine CG (b) (.inl rfl) ?_)
     exact w (My (ed T (by unfold ee;exact cg lk (ed d r))))
    ·repeat'(first|refine gD ?_|(conv=>whnf);first|with_reducible refine CA (aa d) ?_|refine CG (b) (.inl rfl) ?_)
     ((conv=>whnf)
      refine CB (j+1,inc es4 U (nth (nth (nth h.Caches i).Lists k) j),U++[nth (nth (nth h.Caches i).Lists k) j]) ⟨(by simp only;omega),o8 l _,(by simp only;rw[C,T4,d,U4];rfl),cF d aj r⟩ (by simp only;omega) ?_
      (exact wA))
   ·obtain rfl:j=(nth (nth h.Caches i).Lists k).length:=ω
    rw[I4]at C aj
    repeat'(first|refine gD ?_|fail)
    ((conv=>whnf);refine CB (k+1,es4,U) ⟨(by simp only;omega),l,(by simp only;rw[C,K,wc hy,U4]),bM ak aj,(by simp only;omega)⟩ (by simp only;omega) ?_;(exact wB))
  ·obtain rfl:k=(nth h.Caches i).Lists.length:=ω
   rw[I4]at K
   repeat'(first|refine gD ?_|fail)
   ((conv=>whnf);refine CB (i+1,es3,Z) ⟨(by simp only;omega),y,(by simp only;rw[K,X,tG T]),cF T Y ak,(by simp only;omega)⟩ (by simp only;omega) ?_;(exact wB))
 obtain rfl:i=h.Caches.length:=ω
 rw[I4]at X Y
 repeat'(first|refine gD ?_|fail)
 (conv=>whnf)
 refine CC (ι:=Nat × List (Int × Value) × List Int) (λq=>[(1,.hold .box (ab.enc .imm h)),(3,.hold .box [.m q.2.1]),(4,.fn 170 [3,1]),(52,.hold .one (bQ .imm h.Quar.Lst)),(53,.hold .one [I (h.Quar.Lst.length)]),(54,.hold .one [I ((q.1:Nat):Int)])]) (λq=>q.1<=h.Quar.Lst.length/\pw q.2.1 q.2.2/\q.2.2=L++(h.Quar.Lst.take q.1).map (·.Addr)/\(h.Quar.Lst.take q.1).all (qE h)=true) (λq=>h.Quar.Lst.length - q.1) ((0,es,L)) ?_ (⟨R0 _,O,by simp,rfl⟩) λq E=>?_
 ·exact wB
 obtain⟨q,es5,P⟩:=q;obtain⟨F,o,G,aq⟩:=E;simp only at F o G aq |-;have hl5:P.length=L.length+q:=by rw[G,W2,W0,I1];omega
 by_cases V:q<h.Quar.Lst.length
 ·have d:=ah V
  have b:=Ah h t u es5 P (nth h.Quar.Lst q).Addr (nth h.Quar.Lst q).Class o ω;cases r:dc h (nth h.Quar.Lst q).Addr (nth h.Quar.Lst q).Class<;>rw[r]at b
  ·repeat'(first|refine gD ?_|(conv=>whnf);first|with_reducible (first|refine CA (aa d) ?_|refine Bf.D (λE=>?_) (λE=>?_))|refine CG (b) (.inl rfl) ?_)
   all_goals exact w (Gm (ed d (by unfold qE gv;rw[r];rfl)))
  ·repeat'(first|refine gD ?_|(conv=>whnf);first|with_reducible (first|refine CA (aa d) ?_|refine Bf.D (λE=>?_) (λE=>?_))|refine CG (b) (.inl rfl) ?_)
   all_goals first
    |exact w (Gm (ed d (by unfold qE gv;rw[r,Q0 ω];rfl)))
    | ((conv=>whnf)
       refine CB (q+1,inc es5 P (nth h.Quar.Lst q).Addr,P++[(nth h.Quar.Lst q).Addr]) ⟨(by simp only;omega),o8 o _,(by simp only;rw[G,T4,d,V4,U4];rfl),cF d aq (by unfold qE gv;rw[r,O0 ω];rfl)⟩ (by simp only;omega) ?_
       (exact wA))
 obtain rfl:q=h.Quar.Lst.length:=ω
 rw[I4]at G aq
 repeat'(first|refine gD ?_|(conv=>whnf);first|refine C6 (xu h.Mail hsm) ?_)
 (conv=>whnf)
 refine CC (ι:=Nat × List (Int × Value) × List Int) (λq=>[(1,.hold .box (ab.enc .imm h)),(3,.hold .box [.m q.2.1]),(4,.fn 170 [3,1]),(75,.hold .one (aD .own (aO h.Mail))),(76,.hold .one [I ((aO h.Mail).length)]),(77,.hold .one [I ((q.1:Nat):Int)])]) (λq=>q.1<=(aO h.Mail).length/\pw q.2.1 q.2.2/\q.2.2=P++(aO h.Mail).take q.1/\((aO h.Mail).take q.1).all (jw h)=true) (λq=>(aO h.Mail).length - q.1) ((0,es5,P)) ?_ (⟨R0 _,o,by simp,rfl⟩) λq E=>?_
 ·exact wB
 obtain⟨q,es6,Q⟩:=q;obtain⟨F,p,H,aq6⟩:=E;simp only at F p H aq6 |-;have hl6:Q.length=P.length+q:=by rw[H,W2,I1];omega
 by_cases V:q<(aO h.Mail).length
 ·have d:=ah V
  have b:=Ah h t u es6 Q (nth (aO h.Mail) q) (-1) p ω;cases r:dc h (nth (aO h.Mail) q) (-1)<;>rw[r]at b
  ·repeat'(first|refine gD ?_|(conv=>whnf);first|with_reducible refine CA (aa d) ?_|refine CF rfl (aa d) rfl ?_|refine CG (b) (.inl rfl) ?_)
   exact w (MH (ed d r))
  ·repeat'(first|refine gD ?_|(conv=>whnf);first|with_reducible refine CA (aa d) ?_|refine CF rfl (aa d) rfl ?_|refine CG (b) (.inl rfl) ?_)
   ((conv=>whnf)
    refine CB (q+1,inc es6 Q (nth (aO h.Mail) q),Q++[nth (aO h.Mail) q]) ⟨(by simp only;omega),o8 p _,(by simp only;rw[H,T4,d,U4];rfl),cF d aq6 r⟩ (by simp only;omega) ?_
    (exact wA))
 obtain rfl:q=(aO h.Mail).length:=ω
 rw[I4]at H aq6
 repeat'(first|refine gD ?_|fail)
 (conv=>whnf)
 refine CC (ι:=Nat × List (Int × Value) × List Int) (λq=>[(1,.hold .box (ab.enc .imm h)),(3,.hold .box [.m q.2.1]),(87,.hold .one (jn .imm h.Objs)),(88,.hold .one [I (h.Objs.length)]),(89,.hold .one [I ((q.1:Nat):Int)])]) (λq=>q.1<=h.Objs.length/\pw q.2.1 q.2.2/\q.2.2=Q++(h.Objs.take q.1).map (·.Addr)) (λq=>h.Objs.length - q.1) ((0,es6,Q)) ?_ (⟨R0 _,p,by simp⟩) λq E=>?_
 ·exact wB
 obtain⟨q,es7,R⟩:=q;obtain⟨F,g,J⟩:=E;simp only at F g J |-;have hl7:R.length=Q.length+q:=by rw[J,W2,W0,I1];omega
 by_cases V:q<h.Objs.length
 ·have d:=ah V
  have hcl:R.count (nth h.Objs q).Addr<=R.length:=List.count_le_length
  repeat'(first|refine gD ?_|(conv=>whnf);first|with_reducible refine CA (aa d) ?_|refine Ml.mk (g _) ?_|refine Mu.mk (es':=inc es7 R (nth h.Objs q).Addr) rfl ?_)
  ((conv=>whnf)
   refine CB (q+1,inc es7 R (nth h.Objs q).Addr,R++[(nth h.Objs q).Addr]) ⟨(by simp only;omega),o8 g _,(by simp only;rw[J,T4,d,V4,U4];rfl)⟩ (by simp only;omega) ?_
   (exact wA))
 obtain rfl:q=h.Objs.length:=ω
 rw[I4]at J;have W:R=ly h:=by rw[J,H,G,X];rfl
 have hlv:=Ji t.1 u.1
 repeat'(first|refine gD ?_|(conv=>whnf);first|refine C6 (vF h.Spans h.Larges t u S) ?_)
 (conv=>whnf)
 refine CC (ι:=Nat) (λn=>[(3,.hold .box [.m es7]),(103,.hold .one (aD .own (mO h.Spans h.Larges))),(104,.hold .one [I ((mO h.Spans h.Larges).length)]),(105,.hold .one [I ((n:Nat):Int)])]) (λn=>n<=(mO h.Spans h.Larges).length/\((mO h.Spans h.Larges).take n).all (λa=>decide ((ly h).count a=1))=true) (λn=>(mO h.Spans h.Larges).length - n) (0) ?_ (⟨R0 _,rfl⟩) λn hn=>?_
 ·exact wB
 obtain⟨hn,an⟩:=hn;by_cases ln:n<(mO h.Spans h.Larges).length
 ·have d:=ah ln
  rw[W]at g
  repeat'(first|refine gD ?_|(conv=>whnf);first|with_reducible (first|refine CA (aa d) ?_|refine Bf.N (λE=>?_) (λE=>?_))|refine CF rfl (aa d) rfl ?_|refine Ml.mk (g _) ?_)
  all_goals first
   |exact w (M0 (ed d (Q0 ω)))
   | ((conv=>whnf);refine CB (n+1) ⟨ω,cF d an (O0 ω)⟩ ω ?_;(exact wB))
 ·repeat'(first|refine gD ?_|fail)
  exact T0 (λz=>[B z]) ((by unfold jh;rw[Y,aq,aq6,gf ω an];rfl))
set_option maxHeartbeats 8000000
def jq(h:ab):Bool:=(((((((aB h.Kernel&&bx (dU h) h.Free)&&bg h.Spans h.Larges)&&(pages0 h&&mT h))&&cZ h)&&h.Caches.all bo)&&(fe h&&jh h))&&cm h)&&pz h
theorem jf(h:ab)(hs:ab.sml h):ao Tryz.prog 20 false [.val (some 24) (ab.enc .imm h)] .one [B (jq h)]:=by
 have L:=hs;obtain⟨n,o,b,g,M,p,q,O,r⟩:=hs;have u:x8 h:=n.1.2;have hpn:dU h<=1048576:=u.1;have P:h.Objs.length<=1048576:=M.1;have Q:h.Caches.length<=1048576:=p.1;have hlb:h.Mail.Buffers.length<=1048576:=q.1.1;have hlp:h.Job.Plan.Cells.length<=1048576:=r;have d:=oY h.Kernel n;have e:=pe (dU h) h.Free ⟨ω,ω⟩ o;have i:=lc h.Spans h.Larges b g;have w:=k4 h.Mail q;have R:=sW h.Quar O;cases S:aB h.Kernel<;>rw[S]at d
 ·refine fO 154 [] Tryz.func20 rfl ?_
  repeat'(first|refine gO ?_|(conv=>whnf);first|with_reducible refine Bf.N (λa=>?_) (λa=>?_)|refine C6 d ?_)
  all_goals first
   | exact T0 (λz=>[B z]) ((by unfold jq ;rw[S];simp))
   |(exfalso;omega)
 cases T:bx (dU h) h.Free<;>rw[T]at e
 ·refine fO 154 [] Tryz.func20 rfl ?_
  repeat'(first|refine gO ?_|(conv=>whnf);first|with_reducible refine Bf.N (λa=>?_) (λa=>?_)|refine C6 d ?_|refine C6 e ?_)
  all_goals first
   | exact T0 (λz=>[B z]) ((by unfold jq ;rw[T];simp))
   |(exfalso;omega)
 cases y:bg h.Spans h.Larges<;>rw[y]at i
 ·refine fO 154 [] Tryz.func20 rfl ?_
  repeat'(first|refine gO ?_|(conv=>whnf);first|with_reducible refine Bf.N (λa=>?_) (λa=>?_)|refine C6 d ?_|refine C6 e ?_|refine C6 i ?_)
  all_goals first
   | exact T0 (λz=>[B z]) ((by unfold jq ;rw[y];simp))
   |(exfalso;omega)
 have j:=Ba h b g u o y;cases U:(pages0 h&&mT h)<;>rw[U]at j
 ·refine fO 154 [] Tryz.func20 rfl ?_
  repeat'(first|refine gO ?_|(conv=>whnf);first|with_reducible refine Bf.N (λa=>?_) (λa=>?_)|refine C6 d ?_|refine C6 e ?_|refine C6 i ?_|refine C6 j ?_)
  all_goals first
   | exact T0 (λz=>[B z]) ((by unfold jq ;rw[U];simp))
   |(exfalso;omega)
 cases J:b6 h.Mail<;>rw[J]at w
 ·refine fO 154 [] Tryz.func20 rfl ?_
  repeat'(first|refine gO ?_|(conv=>whnf);first|with_reducible refine Bf.N (λa=>?_) (λa=>?_)|refine C6 d ?_|refine C6 e ?_|refine C6 i ?_|refine C6 j ?_|refine C6 w ?_)
  all_goals first
   | exact T0 (λz=>[B z]) ((by unfold jq cZ;rw[J];simp))
   |(exfalso;omega)
 by_cases C:h.Caches.length=h.Mail.Buffers.length;rotate_left
 ·refine fO 154 [] Tryz.func20 rfl ?_
  repeat'(first|refine gO ?_|(conv=>whnf);first|with_reducible refine Bf.N (λa=>?_) (λa=>?_)|refine C6 d ?_|refine C6 e ?_|refine C6 i ?_|refine C6 j ?_|refine C6 w ?_)
  all_goals first
   | exact T0 (λz=>[B z]) ((by unfold jq cZ;rw[Q0 C];simp))
   |(exfalso;omega)
 cases V:fj h.Quar<;>rw[V]at R
 ·refine fO 154 [] Tryz.func20 rfl ?_
  repeat'(first|refine gO ?_|(conv=>whnf);first|with_reducible refine Bf.N (λa=>?_) (λa=>?_)|refine C6 d ?_|refine C6 e ?_|refine C6 i ?_|refine C6 j ?_|refine C6 w ?_|refine C6 R ?_)
  all_goals first
   | exact T0 (λz=>[B z]) ((by unfold jq cZ;rw[V];simp))
   |(exfalso;omega)
 have W:cZ h=true:=by unfold cZ;rw[J,O0 C,V];rfl
 refine fO 154 [] Tryz.func20 rfl ?_
 repeat'(first|refine gA ?_|(conv=>whnf);first|with_reducible refine Bf.N (λa=>?_) (λa=>?_)|refine C6 d ?_|refine C6 e ?_|refine C6 i ?_|refine C6 j ?_|refine C6 w ?_|refine C6 R ?_)
 all_goals try(exfalso;omega)
 (conv=>whnf)
 refine CC (ι:=Nat) (λk=>[(1,.hold .box (ab.enc .imm h)),(57,.hold .one (iu .imm h.Caches)),(58,.hold .one [I (h.Caches.length)]),(59,.hold .one [I ((k:Nat):Int)])]) (λk=>k<=h.Caches.length/\(h.Caches.take k).all bo=true) (λk=>h.Caches.length - k) (0) ?_ (⟨R0 _,rfl⟩) λk hk=>?_
 ·exact wB
 obtain⟨hk,ak⟩:=hk;by_cases lk:k<h.Caches.length
 ·have K:=ah lk
  have X:=lY (nth h.Caches k) (p.2 _ (am lk));cases Y:bo (nth h.Caches k)<;>rw[Y]at X
  ·repeat'(first|refine gD ?_|(conv=>whnf);first|with_reducible refine CA (aa K) ?_|refine C6 X ?_)
   exact T0 (λz=>[B z]) ((by unfold jq;rw[ed K Y];simp))
  ·repeat'(first|refine gD ?_|(conv=>whnf);first|with_reducible refine CA (aa K) ?_|refine C6 X ?_)
   ((conv=>whnf);refine CB (k+1) ⟨ω,cF K ak Y⟩ ω ?_;(exact wB))
 have F:h.Caches.all bo=true:=gf ω ak;have l:=DL h b g P Q;have c10:=wY h L y J (O3.1 F);have c12:=Fz h.Job r;have c13:=tF h h.Job.Plan.Keep b.1;have c14:=tF h h.Job.Plan.Move b.1;cases Z:fe h<;>rw[Z]at l
 ·repeat'(first|refine gD ?_|(conv=>whnf);first|refine C6 l ?_)
  all_goals first
   | exact T0 (λz=>[B z]) ((by unfold jq;rw[Z];simp))
   |(exfalso;omega)
 cases e10:jh h<;>rw[e10]at c10
 ·repeat'(first|refine gD ?_|(conv=>whnf);first|refine C6 l ?_|refine C6 c10 ?_)
  all_goals first
   | exact T0 (λz=>[B z]) ((by unfold jq;rw[e10];simp))
   |(exfalso;omega)
 by_cases hn:cm h=true;rotate_left
 ·have G:cm h=false:=by simpa using hn
  have c:=G;unfold cm at c;rw[Y3]at c
  repeat'(first|refine gD ?_|(conv=>whnf);first|with_reducible refine Bf.D (λa=>?_) (λa=>?_)|refine C6 (aN _ _ _) ?_|refine C6 (nw _) ?_|refine C6 l ?_|refine C6 c10 ?_)
  all_goals first
   | exact T0 (λz=>[B z]) ((by unfold jq;rw[G];simp))
   |(exfalso;omega)
 have c:=hn;unfold cm at c;rw[C0]at c;have H:jq h=pz h:=by unfold jq;rw[S,T,y,U,W,F,hn,Z,e10];rfl
 rw[H];unfold pz;cases em:h.Meshing
 ·repeat'(first|refine gD ?_|(conv=>whnf);first|with_reducible (first|refine Bf.D (λa=>?_) (λa=>?_)|refine Bf.E (λa=>?_) (λa=>?_))|refine C6 (aN _ _ _) ?_|refine C6 (nw _) ?_|refine C6 l ?_|refine C6 c10 ?_|refine Bf.f em ?_)
  all_goals first
   | exact T0 (λz=>[B z]) ((by unfold qG;simp only[Bool.false_eq_true,if_false];first|(symm;exact Q0 ω)|(rw[Z3,beq_iff_eq,C0];omega)))
   |(exfalso;omega)
 ·cases e12:iY h.Job<;>rw[e12]at c12
  all_goals
   repeat'(first|refine gD ?_|(conv=>whnf);first|with_reducible (first|refine Bf.D (λa=>?_) (λa=>?_)|refine Bf.D (λa=>?_) (λa=>?_))|refine C6 (aN _ _ _) ?_|refine C6 (nw _) ?_|refine C6 l ?_|refine C6 c10 ?_|refine C6 c12 ?_|refine C6 c13 ?_|refine C6 c14 ?_|refine Bf.t em ?_)
   all_goals first
    | exact T0 (λz=>[B z]) ((by grind))
    |(exfalso;omega)
theorem gG{α:Type}[Inhabited α]{xs:List α}{f:α->Int}(e:(xs.map f).Nodup){i j:Nat}(b:i<xs.length)(c:j<xs.length)(h:f (nth xs i)=f (nth xs j)):i=j:=by
 have d:=List.pairwise_iff_getElem.1 e;rcases Nat.lt_trichotomy i j with a|rfl|a
 ·have:=d i j (by simpa using b) (by simpa using c) a
  simp only[List.getElem_map]at this;rw[bw (U1 b),bw (U1 c)]at h;exact absurd h this
 ·rfl
 ·have:=d j i (by simpa using c) (by simpa using b) a
  simp only[List.getElem_map]at this;rw[bw (U1 b),bw (U1 c)]at h;exact absurd h.symm this
theorem bf{α:Type}[Inhabited α]{xs:List α}{x:α}(h:x∈xs):∃i,i<xs.length/\nth xs i=x:=by
 obtain⟨i,a⟩:=List.mem_iff_getElem?.1 h;exact⟨i,(V1.1 a).1,bw a⟩
theorem pD:∀{H L:List Int},H.Nodup->(∀x∈H,x∈L)->L.length<=H.length->∀x∈L,x∈H
 | [],L,_,_,c,x,d=>by
  have:L=[]:=V5 (by simpa using c);subst this;exact d
 | y::H,L,h,f,c,x,d=>by
  have i:y∈L:=f y (O1 ..);have a:=List.nodup_cons.1 h;by_cases b:x=y
  ·subst b;exact O1 ..
  ·refine Q4 _ (pD (L:=L.erase y) a.2 (λz g=>?_) ?_ x ((List.mem_erase_of_ne b).2 d))
   ·exact(List.mem_erase_of_ne (λe:z=y=>a.1 (by rw[<-e];exact g))).2 (f z (Q4 _ g))
   ·rw[List.length_erase_of_mem i]
    simp only[List.length_cons]at c;omega
theorem ze{H L:List Int}(f:L.Nodup)(d:∀x∈H,x∈L):(H.Nodup/\H.length=L.length)↔∀a∈L,H.count a=1:=by
 constructor
 ·rintro⟨c,k⟩ a b
  have g:=pD c d ω a b;have i:=List.nodup_iff_count.1 c a;have j:=List.count_pos_iff.2 g;omega
 ·intro e
  have c:H.Nodup:=List.nodup_iff_count.2 λa=>by
   by_cases b:a∈H
   ·rw[e a (d a b)];exact R2 1
   ·rw[List.count_eq_zero_of_not_mem b];exact R0 _
  refine⟨c,?_⟩;have:H.Perm L:=List.perm_iff_count.2 λa=>by
   by_cases b:a∈L
   ·rw[e a b]
    have i:=List.nodup_iff_count.1 f a;have j:=List.count_pos_iff.2 b;omega
   ·rw[List.count_eq_zero_of_not_mem b,List.count_eq_zero_of_not_mem λh=>b (d a h)]
  exact this.length_eq
theorem df{l:ax}{n:Nat}{p:Int} : p∈lpgs l n↔∃k:Nat,k<n/\p=l.Page+(k:Nat):=by
 unfold lpgs;simp only[U3,List.mem_range];constructor
 ·rintro⟨k,a,rfl⟩;exact⟨k,a,rfl⟩
 ·rintro⟨k,a,rfl⟩;exact⟨k,a,rfl⟩
structure ri(sp:List au)(la:List ax):Prop where
 sok:∀s∈sp,bc s=true
 lok:∀l∈la,bV l=true
 nd:(sp.map (·.Page)).Nodup
 dis:∀s∈sp,∀l∈la,∀k:Nat,k<l.Pages.toNat->s.Page≠l.Page+(k:Nat)
 one:∀i j,i<la.length->j<la.length->∀k k':Nat,k<(nth la i).Pages.toNat->k'<(nth la j).Pages.toNat->(nth la i).Page+(k:Nat)=(nth la j).Page+(k':Nat)->i=j
theorem ri.of{sp:List au}{la:List ax}(h:bg sp la=true):ri sp la:=by
 obtain⟨t,u,d⟩:=dm h;unfold pgs at d;rw[List.nodup_append]at d;obtain⟨w,y,A⟩:=d;have B:=List.pairwise_flatMap.1 y;refine⟨λs f=>O3.1 t s f,λl g=>O3.1 u l g,w,λs f l g k c e=>?_,λi j n o k q c a e=>?_⟩
 ·exact A _ (U3.2 ⟨s,f,rfl⟩) _ (List.mem_flatMap.2 ⟨l,g,df.2 ⟨k,c,rfl⟩⟩) e
 ·have r:=List.pairwise_iff_getElem.1 B.2
  have C:=bw (U1 n);have D:=bw (U1 o);rw[C]at c e;rw[D]at a e;rcases Nat.lt_trichotomy i j with b|p|b
  ·exact absurd e (r i j n o b _ (df.2 ⟨k,c,rfl⟩) _ (df.2 ⟨q,a,rfl⟩))
  ·exact p
  ·exact absurd e.symm (r j i o n b _ (df.2 ⟨q,a,rfl⟩) _ (df.2 ⟨k,c,rfl⟩))
theorem fU{s:au}{a:Int}(b:bc s=true):cA s a=true↔16*s.Page<=a/\a<=16*s.Page+15:=by
 unfold cA;rw[b];simp
theorem gC{sp:List au}{la:List ax}(b:ri sp la){a:Int}{i:Nat}(c:i<sp.length)(h:16*(nth sp i).Page<=a/\a<=16*(nth sp i).Page+15):denotes sp la a=oh i (nth sp i) a:=by
 refine md c ((fU (b.sok _ (am c))).2 h) λj z l d=>?_
 cases e:cA z a with
 | false=>rfl
 | true=>
  exfalso;have g:=(V1.1 d).1;have n:=(fU (b.sok z (Q1 d))).1 e;have k:=bw d;subst k;have:=gG (f:=(·.Page)) b.nd c g ω;omega
theorem NS{sp:List au}{la:List ax}(d:ri sp la){a:Int}(h:∀i,i<sp.length->¬(16*(nth sp i).Page<=a/\a<=16*(nth sp i).Page+15)):∀(j:Nat)(z:au),j<sp.length->sp[j]? = some z->cA z a=false:=by
 intro j z f c;cases e:cA z a with
 | false=>rfl
 | true=>
  have g:=(fU (d.sok z (Q1 c))).1 e;have b:=bw c;subst b;exact absurd g (h j f)
theorem JB{sp:List au}{la:List ax}(f:ri sp la)(a:Int):a∈live0 sp la↔a∈im sp la:=by
 have L:a∈im sp la↔∃n:Nat,n<512/\jj sp la n=true/\(n:Int)=a:=by
  unfold im kN;simp only[U3,V3,List.mem_range];constructor
  ·rintro⟨n,⟨g,p⟩,B⟩;exact⟨n,g,p,B⟩
  ·rintro⟨n,g,p,B⟩;exact⟨n,⟨g,p⟩,B⟩
 rw[L];unfold live0 eP;rw[Q2,List.mem_flatMap,U3];constructor
 ·rintro(⟨s,t,H⟩|⟨l,b,rfl⟩)
  ·obtain⟨i,h,rfl⟩:=bf t
   unfold dI at H;obtain⟨k,M,rfl⟩:=U3.1 H;obtain⟨u,C⟩:=V3.1 M;have u:=List.mem_range.1 u;have c:=aF (f.sok _ t);have q:=zg ⟨c.2.2.1,c.2.2.2⟩;have N:=rm (nth sp i).Class;unfold km;have O:0<=(k:Int)*csz (nth sp i).Class/\(k:Int)*csz (nth sp i).Class<=15:=by
    rcases cv ⟨c.2.2.1,c.2.2.2⟩ with e|e|e|e<;>rw[e]at q |-<;>omega
   have o:=gC f h (a:=16*(nth sp i).Page+(k:Nat)*csz (nth sp i).Class) ω;have J:(16*(nth sp i).Page+(k:Nat)*csz (nth sp i).Class - 16*(nth sp i).Page) / csz (nth sp i).Class=(k:Nat)/\(16*(nth sp i).Page+(k:Nat)*csz (nth sp i).Class - 16*(nth sp i).Page) % csz (nth sp i).Class=0:=by
    rcases cv ⟨c.2.2.1,c.2.2.2⟩ with e|e|e|e<;>rw[e]<;>omega
   refine⟨(16*(nth sp i).Page+(k:Nat)*csz (nth sp i).Class).toNat,ω,?_,ω⟩;have d:(((16*(nth sp i).Page+(k:Nat)*csz (nth sp i).Class).toNat:Nat):Int)=16*(nth sp i).Page+(k:Nat)*csz (nth sp i).Class:=ω
   unfold jj;rw[d,o];simp only[oh,J.1,J.2,C]
   rfl
  ·obtain⟨i,h,rfl⟩:=bf b
   have R:=aS (f.lok _ b);have P:=cz (f.lok _ b);have g:=NS f (a:=16*(nth la i).Page) λj K S=>f.dis _ (am K) _ b 0 ω ω
   have A:b9 (nth la i) (16*(nth la i).Page)=true:=by
    unfold b9;rw[f.lok _ b,O0 ω];rfl
   have o:=lg (a:=16*(nth la i).Page) (R2 _) g h A λj z K r=>by
    cases e:b9 z (16*(nth la i).Page) with
    | false=>rfl
    | true=>
     exfalso;have D:=(V1.1 r).1;have w:=Q1 r;have E:=bw r;subst E;have Q:=aS (f.lok _ w);have y:=f.lok _ w;unfold bV at y;rw[C0]at y;unfold b9 at e;rw[I0,C0]at e;have:=f.one i j h D 0 ((nth la i).Page - (nth la j).Page).toNat ω ω ω;omega
   refine⟨(16*(nth la i).Page).toNat,ω,?_,ω⟩;have d:(((16*(nth la i).Page).toNat:Nat):Int)=16*(nth la i).Page:=ω
   unfold jj;rw[d,o];simp
 ·rintro⟨n,T,b,rfl⟩
  cases g:sp.findIdx? (cA · (n:Nat)) with
  | some i=>
   obtain⟨h,F,-⟩:=R5.1 g;have G:=bw (U1 h);rw[<-G]at F;have t:=f.sok _ (am h);have p:=(fU t).1 F;have c:=aF t;have q:=zg ⟨c.2.2.1,c.2.2.2⟩;have o:denotes sp la (n:Nat)=oh i (nth sp i) (n:Nat):=by unfold denotes;rw[g]
   rw[qw o]at b;simp only[I0,t5,C0]at b;simp only[oh]at b;cases A:aX (nth sp i).Bits (((n:Int) - 16*(nth sp i).Page) / csz (nth sp i).Class) with
   | false=>rw[A]at b;simp at b
   | true=>
    have r:((n:Int) - 16*(nth sp i).Page) % csz (nth sp i).Class=0:=b.1;refine .inl ⟨nth sp i,am h,?_⟩;unfold dI;refine U3.2 ⟨(((n:Int) - 16*(nth sp i).Page) / csz (nth sp i).Class).toNat,V3.2 ⟨List.mem_range.2 ?_,?_⟩,?_⟩
    ·rcases cv ⟨c.2.2.1,c.2.2.2⟩ with e|e|e|e<;>rw[e]at q r |-<;>omega
    ·have:((((n:Int) - 16*(nth sp i).Page) / csz (nth sp i).Class).toNat:Int)=((n:Int) - 16*(nth sp i).Page) / csz (nth sp i).Class:=by
      rcases cv ⟨c.2.2.1,c.2.2.2⟩ with e|e|e|e<;>rw[e]<;>omega
     rw[this];exact A
    ·unfold km
     rcases cv ⟨c.2.2.1,c.2.2.2⟩ with e|e|e|e<;>rw[e]at r |-<;>omega
  | none=>
   cases p:la.findIdx? (b9 · (n:Nat)) with
   | some i=>
    obtain⟨h,F,-⟩:=R5.1 p;have o:denotes sp la (n:Nat) = ⟨3,i,0,(n:Nat) - 16*(nth la i).Page⟩:=by unfold denotes;rw[g,p]
    rw[qw o]at b;simp only[I0,C0]at b;exact .inr ⟨nth la i,am h,by have:=b.1;omega⟩
   | none=>
    have o:denotes sp la (n:Nat) = ⟨0,0,0,0⟩:=by unfold denotes;rw[g,p]
    rw[qw o]at b;simp at b
theorem uA{sp:List au}{la:List ax}(e:ri sp la){a:Int}(b:(denotes sp la a).Offset=0)(c:(denotes sp la a).Kind=1\/(denotes sp la a).Kind=3):a∈im sp la:=by
 have l:0<=a/\a<512:=by
  unfold denotes at b c;cases h:sp.findIdx? (cA · a) with
  | some i=>
   obtain⟨f,k,-⟩:=R5.1 h;have j:=List.getElem_mem f;have d:=(fU (e.sok _ j)).1 k;have g:=aF (e.sok _ j);omega
  | none=>
   rw[h]at b c;cases d:la.findIdx? (b9 · a) with
   | some i=>
    obtain⟨f,-⟩:=R5.1 d;rw[d]at b;have n:=aS (e.lok _ (am f));simp only at b;omega
   | none=>rw[d]at c;simp at c
 have g:((a.toNat:Nat):Int)=a:=ω
 unfold im kN;refine U3.2 ⟨a.toNat,V3.2 ⟨List.mem_range.2 ω,?_⟩,g⟩;unfold jj;rw[g];simp only[I0,t5,C0];exact⟨b,c⟩
theorem n8(sp:List au)(la:List ax):(im sp la).Nodup:=by
 unfold im kN List.Nodup;rw[List.pairwise_map];exact(List.nodup_range.sublist List.filter_sublist).imp λh e=>h ω
theorem r8{h:ab}(d:ri h.Spans h.Larges){a c:Int}(b:dc h a c=true):a∈im h.Spans h.Larges:=by
 unfold dc at b;simp only[I0,C0]at b;exact uA d b.1.2 (.inl b.1.1)
theorem Li{h:ab}(b:ri h.Spans h.Larges){o:bm}(a:jC h o=true):o.Addr∈im h.Spans h.Larges:=by
 unfold jC at a;simp only[I0,t5,C0]at a;exact uA b a.1 (a.2.elim (λe=>.inl e.1) (λe=>.inr e.1))
theorem Fk(h:ab)(a:Int):(ly h).count a=(holders h).count a:=by
 unfold ly holders;simp only[Y4];omega
theorem k6(h:ab):gF h=true↔(h.Caches.all (ee h)=true/\h.Quar.Lst.all (gv h)=true)/\(aO h.Mail).all (jw h)=true:=by
 unfold gF;simp only[I0]
theorem jA{h:ab}(e:ri h.Spans h.Larges)(g:fe h=true)(j:gF h=true):∀a∈holders h,a∈im h.Spans h.Larges:=by
 obtain⟨⟨n,p⟩,q⟩:=(k6 h).1 j;intro a b;unfold holders at b;simp only[Q2]at b;rcases b with((b|b)|b)|b
 ·obtain⟨o,f,rfl⟩:=U3.1 b
  obtain⟨i,r,rfl⟩:=bf f;have d:=dM g r;unfold objAt at d;rw[I0]at d;exact Li e d.2
 ·unfold cn at b
  obtain⟨c,t,b⟩:=List.mem_flatMap.1 b;obtain⟨l,u,b⟩:=List.mem_flatten.1 b;obtain⟨k,w,rfl⟩:=bf u;have d:=O3.1 n c t;unfold ee at d;have y:=O3.1 (show(nth c.Lists k).all _=true from dM d w) a b;exact r8 e y
 ·obtain⟨x,A,rfl⟩:=U3.1 b
  exact r8 e (O3.1 p x A)
 ·exact r8 e (O3.1 q a b)
theorem Hu{h:ab}(c:bg h.Spans h.Larges=true)(o:fe h=true):(jI h&&iz h)=jh h:=by
 have f:=ri.of c;have p:(jI h=true/\h.Quar.Lst.all (gv h)=true)↔h.Quar.Lst.all (qE h)=true:=by
  unfold jI qE;simp only[O3,I0];exact⟨λe x b=>⟨e.2 x b,e.1 x b⟩,λe=>⟨λx b=>(e x b).2,λx b=>(e x b).1⟩⟩
 have r:jh h=true↔((h.Caches.all (ee h)=true/\h.Quar.Lst.all (qE h)=true)/\(aO h.Mail).all (jw h)=true)/\∀a∈im h.Spans h.Larges,(holders h).count a=1:=by
  unfold jh;simp only[I0];refine and_congr Iff.rfl ?_;simp only[O3,C0,Fk];unfold mO sorted;simp only[List.mem_mergeSort,JB f]
 have g:iz h=true↔gF h=true/\((holders h).Nodup/\(holders h).length=(im h.Spans h.Larges).length):=by
  unfold iz;simp only[I0,C0,and_assoc]
 rw[Z3,I0,r,g];constructor
 ·rintro⟨i,d,j⟩
  obtain⟨⟨k,l⟩,n⟩:=(k6 h).1 d;exact⟨⟨⟨k,p.1 ⟨i,l⟩⟩,n⟩,(ze (n8 ..) (jA f o d)).1 j⟩
 ·rintro⟨⟨⟨i,d⟩,j⟩,k⟩
  obtain⟨l,n⟩:=p.2 d;have q:gF h=true:=(k6 h).2 ⟨⟨i,n⟩,j⟩;exact⟨l,q,(ze (n8 ..) (jA f o q)).2 k⟩
theorem iM(s t:au):meshable s t=meshable t s:=by
 unfold meshable;rw[Bool.and_comm (bc s)]
 congr 1
 refine decide_eq_decide.2 ?_;rw[Nat.and_comm];exact⟨λh=>⟨h.1.symm,λe=>h.2.1 e.symm,h.2.2⟩,λh=>⟨h.1.symm,λe=>h.2.1 e.symm,h.2.2⟩⟩
theorem d8{t:aG}{f:Int}{p:Nat} : (p:Int)∈pagesOn t f↔p<t.Entries.length/\(nth t.Entries p).Mode≠0/\(nth t.Entries p).Frame=f:=by
 unfold pagesOn jc;simp only[U3,V3,List.mem_range];constructor
 ·rintro⟨n,⟨b,a⟩,c⟩
  obtain rfl:n=p:=ω
  unfold Jw at a;rw[C0]at a;exact⟨b,a⟩
 ·rintro⟨b,a⟩
  exact⟨p,⟨b,by unfold Jw;rw[C0];exact a⟩,rfl⟩
theorem t6{t:aG}{f q:Int}(h:q∈pagesOn t f):∃p:Nat,q=(p:Nat):=by
 unfold pagesOn jc at h;obtain⟨n,-,rfl⟩:=U3.1 h;exact⟨n,rfl⟩
theorem ry{h:ab}(a:pages0 h=true):(∀i,i<h.Larges.length->∀k:Nat,k<(nth h.Larges i).Pages.toNat->(aT h ((nth h.Larges i).Page+(k:Nat))).length=1)/\(∀p∈pgs h.Spans h.Larges,p<dU h)/\∀p:Nat,p<dU h->((nth (tbl h).Entries p).Mode≠0↔(p:Int)∈pgs h.Spans h.Larges):=by
 unfold pages0 at a;simp only[I0]at a;obtain⟨⟨⟨-,d⟩,e⟩,f⟩:=a;refine⟨λi g k j=>?_,λp a=>?_,λp a=>?_⟩
 ·have b:=dM d g
  unfold qk at b;rw[I0]at b;have c:=dM b.2 j;unfold vG at c;rw[C0]at c;exact c
 ·have:=O3.1 e p a
  rw[C0]at this;exact this
 ·have b:=dM f a
  unfold ue at b;rw[I0,C0]at b;exact b.1
theorem wN{h:ab}{p:Nat}(a:p<dU h):ar (tbl h) (p:Nat)=nth (tbl h).Entries p:=lh a
theorem eD{h:ab}{p:Nat}(a:p<dU h)(b:(nth (tbl h).Entries p).Mode≠0):aT h (p:Nat)=pagesOn (tbl h) (nth (tbl h).Entries p).Frame:=by
 unfold aT;rw[show h.Kernel.Machine.Table=tbl h from rfl,wN a,C7 b]
theorem sH{h:ab}(g:ri h.Spans h.Larges){j:Nat}(c:j<h.Spans.length):fY h (nth h.Spans j).Page=(j:Nat):=by
 unfold fY;refine dN (ah c) (by unfold jm;simp) λk z i d=>?_
 have a:=bw d;have b:=(V1.1 d).1;subst a;unfold jm;refine Q0 λe=>?_
 have:=gG (f:=(·.Page)) g.nd b c e;omega
theorem rZ{h:ab}(y:bg h.Spans h.Larges=true)(T:pages0 h=true):tn h=mT h:=by
 have G:=ri.of y;obtain⟨U,V,O⟩:=ry T;have t:∀i,i<h.Spans.length->∃p:Nat,(nth h.Spans i).Page=(p:Nat)/\p<dU h/\(nth (tbl h).Entries p).Mode≠0:=λi n=>by
  have hc:=aF (G.sok _ (am n));have P:(nth h.Spans i).Page∈pgs h.Spans h.Larges:=by
   unfold pgs;exact Q2.2 (.inl (U3.2 ⟨_,am n,rfl⟩))
  have o:=V _ P;refine⟨(nth h.Spans i).Page.toNat,ω,ω,?_⟩;refine(O _ ω).2 ?_;rw[show(((nth h.Spans i).Page.toNat:Nat):Int)=(nth h.Spans i).Page by omega];exact P
 rw[Z3];unfold tn mT;rw[ce,ce];constructor
 ·intro K i n
  rw[ce];intro j L;have A:j<h.Spans.length:=ω
  unfold ke;rw[t5,C0];by_cases b:(ar (tbl h) (nth h.Spans i).Page).Frame=(ar (tbl h) (nth h.Spans j).Page).Frame
  ·right
   obtain⟨p,f,c,r⟩:=t i n;obtain⟨q,B,a,g⟩:=t j A;have d:=O3.1 (K i n);rw[f,B,wN c,wN a]at b;have W:(q:Int)∈aT h (nth h.Spans i).Page:=by
    rw[f,eD c r];exact d8.2 ⟨a,g,b.symm⟩
   have u:=d _ W;unfold kQ at u;rw[<-B,sH G A]at u;rw[t5,I0,C0]at u;rcases u with u|u
   ·omega
   ·simpa using u.2
  ·exact .inl b
 ·intro C i n
  rw[O3];intro q H;obtain⟨p,f,c,r⟩:=t i n;have X:=H;rw[f,eD c r]at H;obtain⟨J,rfl⟩:=t6 H;obtain⟨a,g,D⟩:=d8.1 H;have w:=(O J a).1 g;unfold pgs at w;rw[Q2,U3,List.mem_flatMap]at w;rcases w with⟨s,K,E⟩|⟨l,Y,M⟩
  ·obtain⟨j,L,rfl⟩:=bf K
   unfold kQ;rw[<-E,sH G L];rw[t5,I0,C0,C0];have b:(ar (tbl h) (nth h.Spans i).Page).Frame=(ar (tbl h) (nth h.Spans j).Page).Frame:=by
    rw[f,E,wN c,wN a,D]
   rcases Nat.lt_trichotomy j i with o|Z|o
   ·have d:=dM (C i n) o
    unfold ke at d;rw[t5,C0]at d;exact .inr ⟨ω,by simpa using d.resolve_left λe=>e b⟩
   ·exact .inl ω
   ·have d:=dM (C j L) o
    unfold ke at d;rw[t5,C0]at d;exact .inr ⟨ω,by rw[iM];simpa using d.resolve_left λe=>e b.symm⟩
  ·exfalso
   obtain⟨i2,F,rfl⟩:=bf Y;obtain⟨k,Q,N⟩:=df.1 M;have d:=U i2 F k Q;rw[<-N,eD a g]at d;have R:(J:Int)∈pagesOn (tbl h) (nth (tbl h).Entries J).Frame:=d8.2 ⟨a,g,rfl⟩;have S:(p:Int)∈pagesOn (tbl h) (nth (tbl h).Entries J).Frame:=d8.2 ⟨c,r,D.symm⟩;obtain⟨z,hz⟩:=List.length_eq_one_iff.1 d;rw[hz]at R S;simp only[Z0]at R S;have:=G.dis _ (am n) _ (am F) k Q;omega
theorem lE(h:ab):jq h=fo h:=by
 unfold jq fo kR;cases d:aB h.Kernel with
 | false=>rfl
 | true=>
  cases e:bx (dU h) h.Free with
  | false=>rfl
  | true=>
   cases a:bg h.Spans h.Larges with
   | false=>rfl
   | true=>
    cases b:pages0 h with
    | false=>rfl
    | true=>
     rw[rZ a b];cases c:fe h with
     | false=>simp
     | true=>
      have:=Hu a c;rw[<-this];cases mT h<;>cases cZ h<;>cases jI h<;>cases h.Caches.all bo<;>cases cm h<;>cases iz h<;>cases pz h<;>rfl
def ovl(y r:ay):Bool:=decide (y.At<r.At+r.Len/\r.At<y.At+y.Len)
def l8(r:ay):List ay->Bool->Option (List ay)
 | [],put=>some (if put then [] else [r])
 | y::a,put=>if ovl y r then none else if !put&&decide (y.At > r.At) then(l8 r a true).map λt=>r::y::t else(l8 r a put).map λt=>y::t
def cY(out:List ay):List ay->List ay
 | []=>out
 | y::ys=>match out.getLast? with
  | some z=>if z.At+z.Len=y.At then cY (out.dropLast++[⟨z.At,z.Len+y.Len⟩]) ys else cY (out++[y]) ys
  | none=>cY (out++[y]) ys
def iq:List ay->ay->List ay->Bool->Option (List ay)
 | [],r,out,done=>some (if done then out else out++[r])
 | y::ys,r,out,done=>
  if ovl y r then none
  else if y.At+y.Len=r.At then iq ys ⟨y.At,y.Len+r.Len⟩ out done
  else if r.At+r.Len=y.At then iq ys ⟨r.At,r.Len+y.Len⟩ out done
  else if y.At > r.At/\done=false then iq ys r (out++[r,y]) true
  else iq ys r (out++[y]) done
def nG(xs:List ay):Prop:=xs.Pairwise (λa b=>a.At+a.Len<b.At)/\∀y∈xs,1<=y.Len
theorem nG.tail{y:ay}{a:List ay}(h:nG (y::a)):nG a:=⟨(List.pairwise_cons.1 h.1).2,λz b=>h.2 z (Q4 _ b)⟩
theorem nG.head{y:ay}{a:List ay}(h:nG (y::a)):∀z∈a,y.At+y.Len<z.At:=(List.pairwise_cons.1 h.1).1
theorem iL:∀(a out:List ay),nG a->(∀z,out.getLast? = some z->∀y∈a,z.At+z.Len≠y.At)->cY out a=out++a
 | [],out,_,_=>by simp[cY]
 | y::a,out,d,e=>by
  have b:cY (out++[y]) a=out++y::a:=by
   rw[iL a (out++[y]) d.tail λz c w f=>by
     simp at c;subst c;have:=d.head w f;omega]
   simp
  unfold cY;split
  ·rename_i z c
   rw[C7 (e z c y (O1 ..))];exact b
  ·exact b
theorem wJ{r:ay} : ∀{a:List ay},nG a->(∀y∈a,r.At+r.Len<=y.At)->l8 r a true=some a
 | [],_,_=>rfl
 | y::a,c,b=>by
  have e:=b y (O1 ..);unfold l8;rw[C7 (by unfold ovl;rw[C0];omega)];simp only[Bool.not_true,Bool.false_and,Bool.false_eq_true,if_false];rw[wJ c.tail λz d=>b z (Q4 _ d)]
  rfl
theorem tp{r:ay}(h1:1<=r.Len){a:List ay}(c:nG a)(b:∀y∈a,r.At+r.Len<=y.At):l8 r a false=some (r::a):=by
 cases a with
 | nil=>rfl
 | cons y a=>
  have e:=b y (O1 ..);unfold l8;rw[C7 (by unfold ovl;rw[C0];omega),C8 (by simp;omega),wJ c.tail λz d=>b z (Q4 _ d)]
  rfl
theorem ov{r:ay} : ∀{a out:List ay},nG a->1<=r.Len->(∀y∈a,r.At+r.Len<y.At)->iq a r out true=some (out++a)
 | [],out,_,_,_=>by simp[iq]
 | y::a,out,b,d,c=>by
  have f:=c y (O1 ..);have g:=b.2 y (O1 ..);unfold iq;rw[C7 (by unfold ovl;rw[C0];omega),C7 ω,C7 ω,C7 (by simp),ov b.tail d λz e=>c z (Q4 _ e)];simp
theorem wg{r:ay}(h1:1<=r.Len){a out:List ay}(b:nG a)(c:∀y∈a,r.At+r.Len<=y.At):iq a r out false=some (out++match a with|[]=>[r]|y::zs=>if r.At+r.Len=y.At then⟨r.At,r.Len+y.Len⟩::zs else r::y::zs):=by
 cases a with
 | nil=>simp[iq]
 | cons y a=>
  have g:=c y (O1 ..);have h:=b.2 y (O1 ..);unfold iq;rw[C7 (by unfold ovl;rw[C0];omega),C7 ω];by_cases e:r.At+r.Len=y.At
  ·rw[C8 e]
   simp only[e,if_true];cases a with
   | nil=>simp[iq]
   | cons z a=>
    have i:=b.head z (O1 ..);have j:=b.tail.2 z (O1 ..);unfold iq;simp only;rw[C7 (by unfold ovl;rw[C0];simp only;omega),C7 ω,C7 ω,C8 (by simp;omega),ov b.tail.tail (by simp only;omega) λw d=>by
      have:=b.tail.head w d;simp only;omega]
    simp
  ·rw[C7 e,C8 (by simp;omega),ov b.tail h1 λz f=>by have:=b.head z f;omega]
   simp[e]
theorem yJ{pages:Int} : ∀{b:List ay}{r:ay}{out:List ay},nG b->1<=r.Len->(∀z,out.getLast? = some z->(∀y∈b,z.At+z.Len<y.At)/\z.At+z.Len<r.At)->(l8 r b false).map (cY out)=iq b r out false
 | [],r,out,_,j,u=>by
  show some (cY out [r])=some (out++[r]);rw[iL [r] out ⟨List.pairwise_singleton ..,λy B=>by rw[Z0.1 B];exact j⟩ λz d y B=>by rw[Z0.1 B];have:=(u z d).2;omega]
 | y::b,r,out,c,j,u=>by
  have L:=c.2 y (O1 ..);by_cases l:ovl y r=true
  ·unfold l8 iq
   rw[C8 l,C8 l];rfl
  ·have n:=l
   unfold ovl at n;rw[C0]at n;by_cases C:r.At+r.Len<=y.At
   ·-- all to the right
    have f:∀w∈y::b,r.At+r.Len<=w.At:=λw a=>by
     rcases List.mem_cons.1 a with rfl|a
     ·exact C
     ·have:=c.head w a;omega
    rw[tp j c f,wg j c f];show some (cY out (r::y::b))=_;have hfirst:cY out (r::y::b)=cY (out++[r]) (y::b):=by
     conv=>lhs;unfold cY
     split
     ·rename_i z d;rw[C7 (by have:=(u z d).2;omega)]
     ·rfl
    rw[hfirst];by_cases e:r.At+r.Len=y.At
    ·have:cY (out++[r]) (y::b)=cY (out++[⟨r.At,r.Len+y.Len⟩]) b:=by
      conv=>lhs;unfold cY
      simp[e]
     rw[this,iL b _ c.tail λz d w a=>by
       simp at d;subst d;have:=c.head w a;simp only;omega]
     simp[e]
    ·rw[iL (y::b) (out++[r]) c λz d w a=>by
       simp at d;subst d;rcases List.mem_cons.1 a with rfl|a
       · exact e
       · have:=c.head w a;omega]
     simp[e]
   ·have F:y.At+y.Len<=r.At:=ω
    have i:∀t,cY out (y::t)=cY (out++[y]) t:=λt=>by
     conv=>lhs;unfold cY
     split
     ·rename_i z d;rw[C7 (by have:=(u z d).1 y (O1 ..);omega)]
     ·rfl
    have G:(l8 r (y::b) false).map (cY out)=(l8 r b false).map (cY (out++[y])):=by
     conv=>lhs;unfold l8
     rw[C7 l,C7 (by simp;omega),Option.map_map]
     congr 1
     funext t
     exact i t
    rw[G];unfold iq;rw[C7 l];by_cases e:y.At+y.Len=r.At
    ·rw[C8 e]
     by_cases o:∃w,b.head? = some w/\ovl w r=true
     ·obtain⟨w,a,p⟩:=o
      cases b with
      | nil=>cases a
      | cons g k=>
       obtain rfl:g=w:=by simpa using a
       have H:=c.head g (O1 ..);have J:=c.tail.2 g (O1 ..);have q:=p;unfold ovl at q;rw[C0]at q;unfold l8 iq;rw[C8 p,C8 (by unfold ovl;rw[C0];simp only;omega)]
       rfl
     ·have f:∀w∈b,r.At+r.Len<=w.At:=by
       cases b with
       | nil=>intro w a;cases a
       | cons g k=>
        have H:=c.head g (O1 ..);have J:=c.tail.2 g (O1 ..);have E:¬ovl g r=true:=λh=>o ⟨g,rfl,h⟩
        unfold ovl at E;rw[C0]at E;intro w a;rcases List.mem_cons.1 a with rfl|a
        ·omega
        ·have:=c.tail.head w a;omega
      rw[tp j c.tail f,wg (r:=⟨y.At,y.Len+r.Len⟩) (by simp only;omega) c.tail λw a=>by have:=f w a;simp only;omega];show some (cY (out++[y]) (r::b))=_;have K:cY (out++[y]) (r::b)=cY (out++[⟨y.At,y.Len+r.Len⟩]) b:=by
       conv=>lhs;unfold cY
       simp[e]
      rw[K];cases b with
      | nil=>simp[cY]
      | cons g k=>
       by_cases A:y.At+(y.Len+r.Len)=g.At
       ·have D:cY (out++[⟨y.At,y.Len+r.Len⟩]) (g::k)=cY (out++[⟨y.At,y.Len+r.Len+g.Len⟩]) k:=by
         conv=>lhs;unfold cY
         simp[A]
        rw[D,iL k _ c.tail.tail λz d w a=>by
          simp at d;subst d;have:=c.tail.head w a;simp only;omega]
        simp[A]
       ·rw[iL (g::k) _ c.tail λz d w a=>by
          simp at d;subst d;simp only;rcases List.mem_cons.1 a with rfl|a
          · exact A
          · have:=c.tail.head w a
            have:=f g (O1 ..);have:=c.tail.2 g (O1 ..);omega]
        simp[A]
    ·rw[C7 e,C7 ω,C7 ω]
     exact yJ (pages:=pages) c.tail j λz d=>by
      simp at d;subst d;exact⟨c.head,ω⟩
def gn(k:af)(f:Int):af:=if(pagesOn k.Machine.Table f).length=0 then {k with Machine:=⟨⟨k.Machine.Frames.Cells.set f.toNat (List.replicate 16 0),k.Machine.Frames.Used.set f.toNat false⟩,k.Machine.Table⟩} else k
def jS(k:af)(p:Int):af:={k with Machine:=⟨k.Machine.Frames,⟨k.Machine.Table.Entries.set p.toNat ⟨0,0⟩⟩⟩}
def cr(k:af)(p:Int):af:=if(ar k.Machine.Table p).Mode=0 then k else gn (jS k p) (ar k.Machine.Table p).Frame
theorem cw{α:Type}[Inhabited α](xs:List α)(i j:Nat)(x:α):nth (xs.set i x) j=if i=j/\j<xs.length then x else nth xs j:=by
 unfold nth;rw[C2,C2,C3];by_cases h:i=j
 ·subst h
  by_cases a:i<xs.length
  ·simp[a]
  ·simp[a]
 ·simp[h]
theorem ou(k:af)(f:Int):(gn k f).Machine.Table=k.Machine.Table/\(gn k f).Calls=k.Calls/\(gn k f).Refuse=k.Refuse/\(gn k f).Machine.Frames.Cells.length=k.Machine.Frames.Cells.length/\(gn k f).Machine.Frames.Used.length=k.Machine.Frames.Used.length:=by
 unfold gn;split<;>simp
theorem pL(k:af)(p:Int):(cr k p).Machine.Table.Entries.length=k.Machine.Table.Entries.length/\(cr k p).Calls=k.Calls/\(cr k p).Refuse=k.Refuse:=by
 unfold cr;split
 ·exact⟨rfl,rfl,rfl⟩
 ·obtain⟨a,b,c,-⟩:=ou (jS k p) (ar k.Machine.Table p).Frame
  rw[a,b,c];simp[jS]
theorem aC{k:af} : aB k=true↔(∀j,j<k.Refuse.length->0<=nth k.Refuse j)/\dl k.Machine.Frames=true/\fE k.Machine.Table k.Machine.Frames.Used.length=true/\(∀j,j<k.Machine.Frames.Used.length->nth k.Machine.Frames.Used j=decide (0<(pagesOn k.Machine.Table (j:Int)).length))/\0<=k.Calls/\k.Calls<=100000/\k.Refuse.length<=40:=by
 unfold aB dq;simp only[I0,ce,C0,nM,beq_iff_eq,and_assoc]
theorem aY{f:aU} : dl f=true↔1<=f.Cells.length/\f.Cells.length<=32/\f.Used.length=f.Cells.length/\∀j,j<f.Cells.length->hJ (nth f.Cells j) (nth f.Used j)=true:=by
 unfold dl;simp only[I0,C0,O3,and_assoc];refine and_congr Iff.rfl (and_congr Iff.rfl (and_congr_right λe=>⟨λh j a=>?_,λh q c=>?_⟩))
 ·exact h _ (Q1 (uz (ah a) (ah ω)))
 ·obtain⟨j,a⟩:=List.mem_iff_getElem?.1 c
  obtain⟨b,d⟩:=List.getElem?_zip_eq_some.1 a;have:=h j (V1.1 b).1
  rwa [bw b,bw d]at this
theorem br{t:aG}{a:Int} : fE t a=true↔(∀j,j<t.Entries.length->kj a (nth t.Entries j)=true)/\1<=t.Entries.length/\t.Entries.length<=32:=by
 unfold fE;simp only[I0,ce,C0]
theorem ef{t:aG}{f:Int} : 0<(pagesOn t f).length↔∃q,q<t.Entries.length/\(nth t.Entries q).Mode≠0/\(nth t.Entries q).Frame=f:=by
 unfold pagesOn jc;rw[W0,List.length_pos_iff_exists_mem];simp[Jw]
theorem ch{k:af}{p:Int}(h:aB k=true)(b:(ar k.Machine.Table p).Mode≠0):0<=p/\p<k.Machine.Table.Entries.length/\ar k.Machine.Table p=nth k.Machine.Table.Entries p.toNat/\0<=(ar k.Machine.Table p).Frame/\(ar k.Machine.Table p).Frame<k.Machine.Frames.Used.length:=by
 obtain⟨-,-,c,-⟩:=aC.1 h;have a:0<=p/\p<k.Machine.Table.Entries.length:=by
  by_cases a:0<=p/\p<k.Machine.Table.Entries.length
  ·exact a
  ·unfold ar at b;rw[C7 a]at b;exact absurd rfl b
 have d:ar k.Machine.Table p=nth k.Machine.Table.Entries p.toNat:=by unfold ar;rw[C8 a]
 have:=(br.1 c).1 p.toNat ω;rw[d]at b |-;unfold kj at this;rw[C0]at this;exact⟨a.1,a.2,rfl,this.2.2.2 b⟩
theorem v6{k:af}(p:Int)(h:aB k=true):aB (cr k p)=true:=by
 unfold cr;split
 ·exact h
 rename_i t;obtain⟨E,F,G,l,n⟩:=ch h t;obtain⟨u,w,H,y,A,B,C⟩:=aC.1 h;obtain⟨J,K,L,M⟩:=aY.1 w;obtain⟨N,O,P⟩:=br.1 H;rw[G]at t l n |-;generalize Q:(nth k.Machine.Table.Entries p.toNat).Frame=f at l n;have g:∀q,nth (k.Machine.Table.Entries.set p.toNat ⟨0,0⟩) q=if p.toNat=q then⟨0,0⟩ else nth k.Machine.Table.Entries q:=λq=>by
  rw[cw];by_cases r:p.toNat=q
  ·rw[C8 ⟨r,ω⟩,C8 r]
  ·rw[C7 (λe=>r e.1),C7 r]
 have b:∀j:Int,0<(pagesOn (⟨k.Machine.Table.Entries.set p.toNat ⟨0,0⟩⟩ : aG) j).length↔∃q,q<k.Machine.Table.Entries.length/\q≠p.toNat/\(nth k.Machine.Table.Entries q).Mode≠0/\(nth k.Machine.Table.Entries q).Frame=j:=λj=>by
  rw[ef];simp only[C1,g]
  grind
 have c:∀j:Int,0<(pagesOn k.Machine.Table j).length↔∃q,q<k.Machine.Table.Entries.length/\(nth k.Machine.Table.Entries q).Mode≠0/\(nth k.Machine.Table.Entries q).Frame=j:=λj=>ef
 have i:fE ⟨k.Machine.Table.Entries.set p.toNat ⟨0,0⟩⟩ k.Machine.Frames.Used.length=true:=by
  rw[br];simp only[C1,g];refine⟨λj d=>?_,O,P⟩;split
  ·unfold kj;simp
  ·exact N j d
 unfold gn;split
 ·rename_i o
  rw[aC];simp only[jS,C1]at o |-;refine⟨u,?_,i,λj d=>?_,A,B,C⟩
  ·rw[aY]
   simp only[C1,cw];refine⟨J,K,L,λj d=>?_⟩;by_cases a:f.toNat=j
   ·rw[C8 ⟨a,d⟩,C8 ⟨a,ω⟩];decide
   ·rw[C7 (λe=>a e.1),C7 (λe=>a e.1)];exact M j d
  ·rw[cw]
   by_cases a:f.toNat=j
   ·rw[C8 ⟨a,d⟩]
    have:(j:Int)=f:=ω
    rw[this];exact(Q0 λR=>absurd o (Nat.ne_of_gt R)).symm
   ·rw[C7 (λe=>a e.1),y j d]
    refine decide_eq_decide.2 ?_;rw[c,b]
    grind
 ·rename_i o
  rw[aC];simp only[jS]at o |-;refine⟨u,w,i,λj d=>?_,A,B,C⟩;rw[y j d];refine decide_eq_decide.2 ?_;by_cases a:f=j
  ·have D:0<(pagesOn (⟨k.Machine.Table.Entries.set p.toNat ⟨0,0⟩⟩ : aG) j).length:=by rw[<-a];exact Nat.pos_of_ne_zero o
   have:=(b j).1 D;constructor
   ·intro _;exact D
   ·intro _;rw[c];grind
  ·rw[c,b];grind
theorem bp{k:af}(h:aB k=true):af.sml k:=by
 obtain⟨g,b,c,i,l,n,o⟩:=aC.1 h;obtain⟨p,q,t,d⟩:=aY.1 b;obtain⟨u,w,y⟩:=br.1 c;refine⟨⟨⟨⟨ω,λr f=>?_⟩,(by omega:_<=1048576)⟩,⟨ω,λe _=>trivial⟩⟩,(by omega:_<=1048576)⟩;obtain⟨j,a⟩:=List.mem_iff_getElem?.1 f;have:=d j (V1.1 a).1;rw[bw a]at this;unfold hJ at this;simp only[I0,C0]at this;show r.length<=1048576;omega
theorem Ap.cp{α:Type}{e:α->List C}{xs:List α}{sz by_:Nat}{K:List (List C)->Prop}(b:∀x,(e x).length=sz)(c:∀x,aV (e x)=true)(d:xs.length<=1048576)(f:by_<=1000)(g:K (xs.map e)):Ap true [] (xs.map e) sz by_ K:=
 CQ (λr a=>by cases a) (λr a=>by obtain⟨y,-,rfl⟩:=U3.1 a;exact b y) (λ_ r a=>by obtain⟨y,-,rfl⟩:=U3.1 a;exact c y) (by simp;omega) (by simp only[W0,List.length_nil,Q5];exact yk d f) rfl g
theorem CM:type_of% @Ap.cp:=@Ap.cp
theorem Fl.cp{α:Type}{e:α->List C}{xs:List α}{sz by_:Nat}{X:Prop}(a:∀x,(e x).length=sz)(b:∀x,aV (e x)=true)(c:xs.length<=1048576)(d:by_<=1000)(f:X):Fl (xs.map e) sz by_ X:=
 Fl.mk (λr g=>by obtain⟨y,-,rfl⟩:=U3.1 g;exact⟨a y,b y⟩) (by simp;omega) (by simp only[W0];exact yk c d) f
theorem CR:type_of% @Fl.cp:=@Fl.cp
theorem Ap.sn{rows b:List (List C)}{r:List C}{sz by_:Nat}{K:List (List C)->Prop}(h1:∀r∈rows,r.length=sz)(c:r.length=sz)(d:rows.length+1<=1048576)(e:by_<=1000)(a:b=rows++[r])(f:K b):Ap false rows [r] sz by_ K:=
 CQ h1 (λg a=>by rw[Z0.1 a];exact c) (λh=>by cases h) (by simp;omega) (yk (by simpa using d) e) a f
theorem iS(xs:List Int)(a:xs.length<=1048576):ao Tryz.prog 187 false [.val none (aD .imm xs)] .one (aD .own xs):=by
 refine fO 6 [] Tryz.func187 rfl ?_ (.inr (bK _))
 repeat'(first|refine gO ?_|(conv=>whnf);first|refine CM (λ_=>rfl) (λ_=>rfl) a (by decide) ?_)
 rfl
theorem Av(t:aG)(a:aG.sml t):ao Tryz.prog 339 false [.val (some 1) (aG.enc .imm t)] .agg (aG.enc .own t):=by
 have b:=a.1;refine fO 8 [] Tryz.func339 rfl ?_ (.inr (aG.enc_fr _))
 repeat'(first|refine gO ?_|(conv=>whnf);first|refine CM (λ_=>rfl) (λ_=>rfl) b (by decide) ?_)
 rfl
theorem vn(t:aG)(a:aG.sml t):ao Tryz.prog 262 false [.val (some 1) (aG.enc .imm t)] .agg (aG.enc .own t):=by
 have b:=a.1;refine fO 8 [] Tryz.func262 rfl ?_ (.inr (aG.enc_fr _))
 repeat'(first|refine gO ?_|(conv=>whnf);first|refine CM (λ_=>rfl) (λ_=>rfl) b (by decide) ?_)
 rfl
theorem aI{α:Type}{e:α->List C}{l:List α}{n:Nat}(h:∀x,(e x).length=n):∀r∈l.map e,r.length=n:=λr a=>by
 obtain⟨y,-,rfl⟩:=U3.1 a;exact h y
theorem eJ{α β:Type}[Inhabited α]{xs:List α}{f:α->β}{i:Nat}(a:i<xs.length):(xs.take (i+1)).map f=(xs.take i).map f++[f (nth xs i)]:=by
 rw[T4,ah a];simp
theorem zu(f:aU)(a:aU.sml f):ao Tryz.prog 338 false [.val (some 2) (aU.enc .imm f)] .agg (aU.enc .own f):=by
 have g:=a.1.1;have d:f.Used.length<=1048576:=a.2;refine fO 30 [(5,10,[17,18,19,20,21,22,23,24,25,26])] Tryz.func338 rfl ?_ (.inr (aU.enc_fr _))
 repeat'(first|refine gO ?_|(conv=>whnf);first|refine CM (λ_=>rfl) (λ_=>rfl) d (by decide) ?_)
 (conv=>whnf)
 refine CC (ι:=Nat) (λi=>[(1,.hold .box (aU.enc .imm f)),(2,.hold .box [.z,.z]),(3,.hold .box [.s .own ((f.Cells.take i).map (aD .own)),.s .own (f.Used.map (rB .own))]),(4,.hold .one [I ((i:Nat):Int)])]) (λi=>i<=f.Cells.length) (λi=>f.Cells.length - i) (0) ?_ (R0 _) λi h=>?_
 ·exact wB
 by_cases b:i<f.Cells.length
 ·have e:=ah b
  have c:(nth f.Cells i).length<=1048576:=a.1.2 _ (am b)
  repeat'(first|refine gD ?_|(conv=>whnf);first|with_reducible refine CA (aa e) ?_|refine CR (λ_=>rfl) (λ_=>rfl) c (by decide) ?_|refine Ap.sn (aI λ_=>rfl) rfl (by simp;omega) (by decide) (eJ b) ?_)
  ((conv=>whnf);refine CB (i+1) ω ω ?_;(exact wB))
 ·repeat'(first|refine gD ?_|fail)
  obtain rfl:i=f.Cells.length:=ω
  rw[I4]
  rfl
theorem uf(f:aU)(a:aU.sml f):ao Tryz.prog 261 false [.val (some 2) (aU.enc .imm f)] .agg (aU.enc .own f):=by
 have g:=a.1.1;have d:f.Used.length<=1048576:=a.2;refine fO 27 [(5,5,[18,19,20,21,22])] Tryz.func261 rfl ?_ (.inr (aU.enc_fr _))
 repeat'(first|refine gO ?_|(conv=>whnf);first|refine CM (λ_=>rfl) (λ_=>rfl) d (by decide) ?_)
 (conv=>whnf)
 refine CC (ι:=Nat) (λi=>[(2,.hold .box [.z,.z]),(3,.hold .box [.s .own ((f.Cells.take i).map (aD .own)),.s .own (f.Used.map (rB .own))]),(12,.hold .one (fX .imm f.Cells)),(13,.hold .one [I (f.Cells.length)]),(14,.hold .one [I ((i:Nat):Int)])]) (λi=>i<=f.Cells.length) (λi=>f.Cells.length - i) (0) ?_ (R0 _) λi h=>?_
 ·exact wB
 by_cases b:i<f.Cells.length
 ·have e:=ah b
  have c:(nth f.Cells i).length<=1048576:=a.1.2 _ (am b)
  repeat'(first|refine gD ?_|(conv=>whnf);first|with_reducible refine CA (aa e) ?_|refine C6 (iS (nth f.Cells i) c) ?_|refine Ap.sn (aI λ_=>rfl) rfl (by simp;omega) (by decide) (eJ b) ?_)
  ((conv=>whnf);refine CB (i+1) ω ω ?_;(exact wB))
 ·repeat'(first|refine gD ?_|fail)
  obtain rfl:i=f.Cells.length:=ω
  rw[I4]
  rfl
theorem qy(m:aQ)(a:aQ.sml m):ao Tryz.prog 288 false [.val (some 3) (aQ.enc .imm m)] .agg (aQ.enc .own m):=by
 refine fO 10 [(1,5,[3,4,5,6,7])] Tryz.func288 rfl ?_ (.inr (aQ.enc_fr _))
 repeat'(first|refine gO ?_|(conv=>whnf);first|refine C6 (zu m.Frames a.1) ?_|refine C6 (Av m.Table a.2) ?_)
 rfl
theorem rK(m:aQ)(a:aQ.sml m):ao Tryz.prog 197 false [.val (some 3) (aQ.enc .imm m)] .agg (aQ.enc .own m):=by
 refine fO 10 [(1,5,[3,4,5,6,7])] Tryz.func197 rfl ?_ (.inr (aQ.enc_fr _))
 repeat'(first|refine gO ?_|(conv=>whnf);first|refine C6 (uf m.Frames a.1) ?_|refine C6 (vn m.Table a.2) ?_)
 rfl
theorem AQ(k:af)(a:af.sml k):ao Tryz.prog 228 false [.val (some 5) (af.enc .imm k)] .agg (af.enc .own k):=by
 have b:k.Refuse.length<=1048576:=a.2;refine fO 13 [(1,9,[3,4,5,6,7,8,9,10,11])] Tryz.func228 rfl ?_ (.inr (af.enc_fr _))
 repeat'(first|refine gO ?_|(conv=>whnf);first|refine C6 (qy k.Machine a.1) ?_|refine CR (λ_=>rfl) (λ_=>rfl) b (by decide) ?_)
 rfl
theorem mP(k:af)(a:af.sml k):ao Tryz.prog 140 false [.val (some 5) (af.enc .imm k)] .agg (af.enc .own k):=by
 refine fO 12 [(1,8,[3,4,5,6,7,8,9,10])] Tryz.func140 rfl ?_ (.inr (af.enc_fr _))
 repeat'(first|refine gO ?_|(conv=>whnf);first|refine C6 (rK k.Machine a.1) ?_|refine C6 (iS k.Refuse a.2) ?_)
 rfl
theorem dJ(k:af)(p:Int)(a:aG.sml k.Machine.Table):ao Tryz.prog 348 false [.ptr (af.enc .imm k),.val none [I p]] .one [I (ar k.Machine.Table p).Mode]:=by
 refine fO 13 [] Tryz.func348 rfl ?_
 repeat'(first|refine gO ?_|(conv=>whnf);first|refine C6 (cT k.Machine.Table p a) ?_)
 rfl
theorem kC(k:af)(b:af.sml k):ao Tryz.prog 305 false [.val (some 5) (af.enc .imm k)] .one [B (aB k&&decide (k.Calls<100000))]:=by
 have a:=kY k b;cases e:aB k<;>rw[e]at a
 ·refine fO 10 [] Tryz.func305 rfl ?_
  repeat'(first|refine gO ?_|(conv=>whnf);first|with_reducible refine Bf.D (λc=>?_) (λc=>?_)|refine C6 (a) ?_)
  all_goals rfl
 ·refine fO 10 [] Tryz.func305 rfl ?_
  repeat'(first|refine gO ?_|(conv=>whnf);first|refine C6 (a) ?_)
  all_goals rfl
theorem Ad(k:af)(b:af.sml k):ao Tryz.prog 226 false [.val (some 5) (af.enc .imm k)] .one [B (decide (k.Calls≠100000)&&aB k)]:=by
 have c:=oY k b;refine fO 10 [] Tryz.func226 rfl ?_
 repeat'(first|refine gO ?_|(conv=>whnf);first|with_reducible (first|refine Bf.N (λa=>?_) (λa=>?_)|refine Bf.D (λa=>?_) (λa=>?_))|refine C6 (c) ?_)
 all_goals(exact T0 (λz=>[B z]) ((by simp[*])))
theorem sr{k:af}{f:Int}(h:(pagesOn k.Machine.Table f).length=0):af.enc .own (gn k f)=[.s .own ((k.Machine.Frames.Cells.map (aD .own)).set f.toNat (aD .own (List.replicate 16 0))),.s .own ((k.Machine.Frames.Used.map (rB .own)).set f.toNat (rB .own false)),.s .own (k.Machine.Table.Entries.map (bi.enc .own)),I k.Calls,.s .own (k.Refuse.map (rI .own))]:=by
 unfold gn;rw[C8 h];simp only[af.enc,Z4]
theorem vQ{k:af}{f:Int}(h:¬(pagesOn k.Machine.Table f).length=0):af.enc .own (gn k f)=af.enc .own k:=by
 unfold gn;rw[C7 h]
theorem qq(k:af)(f:Int)(a:aG.sml k.Machine.Table)(b:0<=f/\f<k.Machine.Frames.Cells.length/\f<k.Machine.Frames.Used.length) :
  aP Tryz.prog 349 false [.ptr (af.enc .own k),.val none [I f]] [.ptr (af.enc .own (gn k f)),.val none [I f]] (.tup []) []:=by
 have c:=ah (xs:=k.Machine.Frames.Cells) (i:=f.toNat) ω;have d:=ah (xs:=k.Machine.Frames.Used) (i:=f.toNat) ω;by_cases e:(pagesOn k.Machine.Table f).length=0
 ·rw[sr e]
  refine fM 30 [] [(2,8,[21,22,23,24,25,26,27,28])] [(0,0),(0,0)] Tryz.func349 rfl (λu q=>?_) (.inr trivial)
  repeat'(first|refine gA ?_|(conv=>whnf);first|with_reducible (first|refine CJ b.1 (aa d) ?_|refine CJ b.1 (aa c) ?_)|refine CD (gi k.Machine.Table f a) ⟨⟨rfl,CV k.Machine.Table⟩,⟨rfl,rfl⟩,trivial⟩ ?_|refine CL rfl rfl (aa c) rfl (X0 rfl) rfl ?_|refine CL rfl rfl (aa d) rfl (X0 rfl) rfl ?_|refine Mk.mk 16 rfl rfl (by decide) (by decide) rfl ?_)
  refine CE rfl rfl ?_;exact wB
 ·rw[vQ e]
  refine fM 30 [] [(2,8,[21,22,23,24,25,26,27,28])] [(0,0),(0,0)] Tryz.func349 rfl (λu q=>?_) (.inr trivial)
  repeat'(first|refine gA ?_|(conv=>whnf);first|refine CD (gi k.Machine.Table f a) ⟨⟨rfl,CV k.Machine.Table⟩,⟨rfl,rfl⟩,trivial⟩ ?_)
  refine CE rfl rfl ?_;exact wB
theorem Bd(k:af)(f:Int)(a:aG.sml k.Machine.Table)(b:0<=f/\f<k.Machine.Frames.Cells.length/\f<k.Machine.Frames.Used.length) :
  aP Tryz.prog 227 false [.ptr (af.enc .own k),.val none [I f]] [.ptr (af.enc .own (gn k f)),.val none [I f]] (.tup []) []:=by
 have c:=ah (xs:=k.Machine.Frames.Cells) (i:=f.toNat) ω;have d:=ah (xs:=k.Machine.Frames.Used) (i:=f.toNat) ω;by_cases e:(pagesOn k.Machine.Table f).length=0
 ·rw[sr e]
  refine fM 30 [] [(2,8,[21,22,23,24,25,26,27,28])] [(0,0),(0,0)] Tryz.func227 rfl (λu q=>?_) (.inr trivial)
  repeat'(first|refine gA ?_|(conv=>whnf);first|with_reducible (first|refine CJ b.1 (aa d) ?_|refine CJ b.1 (aa c) ?_)|refine CD (j7 k.Machine.Table f a) ⟨⟨rfl,CV k.Machine.Table⟩,⟨rfl,rfl⟩,trivial⟩ ?_|refine CL rfl rfl (aa c) rfl (X0 rfl) rfl ?_|refine CL rfl rfl (aa d) rfl (X0 rfl) rfl ?_|refine Mk.mk 16 rfl rfl (by decide) (by decide) rfl ?_)
  refine CE rfl rfl ?_;exact wB
 ·rw[vQ e]
  refine fM 30 [] [(2,8,[21,22,23,24,25,26,27,28])] [(0,0),(0,0)] Tryz.func227 rfl (λu q=>?_) (.inr trivial)
  repeat'(first|refine gA ?_|(conv=>whnf);first|refine CD (j7 k.Machine.Table f a) ⟨⟨rfl,CV k.Machine.Table⟩,⟨rfl,rfl⟩,trivial⟩ ?_)
  refine CE rfl rfl ?_;exact wB
theorem vj(k:af)(p:Int):af.enc .own (jS k p)=[.s .own (k.Machine.Frames.Cells.map (aD .own)),.s .own (k.Machine.Frames.Used.map (rB .own)),.s .own ((k.Machine.Table.Entries.map (bi.enc .own)).set p.toNat (bi.enc .own ⟨0,0⟩)),I k.Calls,.s .own (k.Refuse.map (rI .own))]:=by
 unfold jS;simp only[af.enc,Z4]
theorem wi{k:af}{p:Int}(h:aB k=true):aG.sml (jS k p).Machine.Table:=by
 obtain⟨a,b,c⟩:=br.1 (aC.1 h).2.2.1;exact⟨by simp only[jS,C1];omega,λ_ _=>trivial⟩
theorem LW(k:af)(p:Int)(b:aB k=true) :
  aP Tryz.prog 297 false [.ptr (af.enc .own k),.val none [I p]] [.ptr (af.enc .own (cr k p)),.val none [I p]] .one [B (decide ((ar k.Machine.Table p).Mode≠0))]:=by
 have j:=bp b;have c:=dJ k p j.1.2;by_cases a:(ar k.Machine.Table p).Mode=0
 ·rw[show cr k p=k by unfold cr;rw[C8 a]]
  refine fM 32 [(349,[2,0])] [] [(0,0),(0,0)] Tryz.func297 rfl (λu q=>?_)
  repeat'(first|refine gA ?_|(conv=>whnf);first|refine CD (c) ⟨CN k,⟨rfl,rfl⟩,trivial⟩ ?_)
  refine CE rfl ?_ ?_
  ·exact T0 (λz=>[B z]) ((by simp[a]))
  ·exact wB
 ·obtain⟨l,r,n,d,o⟩:=ch b a
  have h:=(aY.1 (aC.1 b).2.1).2.2.1;rw[show cr k p=gn (jS k p) (ar k.Machine.Table p).Frame by unfold cr;rw[C7 a]];have e:=qq (jS k p) (ar k.Machine.Table p).Frame (wi b) ⟨d,by simp only[jS];omega,by simp only[jS];omega⟩;rw[vj]at e;have g:=ah (xs:=k.Machine.Table.Entries) (i:=p.toNat) ω;rw[n]at c e a |-;refine fM 32 [(349,[2,0])] [] [(0,0),(0,0)] Tryz.func297 rfl (λu q=>?_)
  repeat'(first|refine gA ?_|(conv=>whnf);first|with_reducible refine CJ l (aa g) ?_|refine CD (c) ⟨CN k,⟨rfl,rfl⟩,trivial⟩ ?_|refine CL rfl rfl (aa g) rfl (X0 rfl) rfl ?_|refine CF rfl (aa g) rfl ?_|refine CG (e) (.inl rfl) ?_)
  refine CE rfl ?_ ?_
  ·exact T0 (λz=>[B z]) ((by simp[a]))
  ·exact wB
theorem BM(k:af)(p:Int)(a:aB k=true)(o:k.Calls≠100000) :
  ao Tryz.prog 141 false [.val (some 5) (af.enc .imm k),.val none [I p]] (.tup [some 5,none]) (af.enc .own (cr k p)++[B (decide ((ar k.Machine.Table p).Mode≠0))]):=by
 have d:=bp a;have l:=mP k d;have e:=Ad k d;have c:=ta k p d.1.2;rw[a,O0 o]at e;by_cases b:(ar k.Machine.Table p).Mode=0
 ·rw[show cr k p=k by unfold cr;rw[C8 b]]
  rw[Q0 (by simpa using b)]at c |-;refine fP 38 [(227,[2,0])] [] Tryz.func141 rfl ?_ (.inr (aM (af.enc_fr k) ⟨trivial,trivial⟩))
  repeat'(first|refine gO ?_|(conv=>whnf);first|refine C6 (l) ?_|refine C6 (e) ?_|refine C6 (c) ?_)
  all_goals rfl
 ·obtain⟨q,u,r,g,t⟩:=ch a b
  have n:=(aY.1 (aC.1 a).2.1).2.2.1;rw[show cr k p=gn (jS k p) (ar k.Machine.Table p).Frame by unfold cr;rw[C7 b]];have h:=Bd (jS k p) (ar k.Machine.Table p).Frame (wi a) ⟨g,by simp only[jS];omega,by simp only[jS];omega⟩;rw[vj]at h;have j:=ah (xs:=k.Machine.Table.Entries) (i:=p.toNat) ω;rw[O0 b]at c |-;rw[r]at h |-;refine fP 38 [(227,[2,0])] [] Tryz.func141 rfl ?_ (.inr (aM (af.enc_fr _) ⟨trivial,trivial⟩))
  repeat'(first|refine gO ?_|(conv=>whnf);first|with_reducible refine CJ q (aa j) ?_|refine C6 (l) ?_|refine C6 (e) ?_|refine C6 (c) ?_|refine CL rfl rfl (aa j) rfl (X0 rfl) rfl ?_|refine CF rfl (aa j) rfl ?_|refine CG (h) (.inl rfl) ?_)
  all_goals rfl
def f7(n:Nat):aU:=⟨List.replicate n (List.replicate 16 0),List.replicate n false⟩
def dR(n:Nat):aG:=⟨List.replicate n ⟨0,0⟩⟩
def bF(p f:Nat)(a:List Int):af:=⟨⟨f7 f,dR p⟩,0,a⟩
def eN:aA:=⟨List.replicate 4 []⟩
def dB(n:Nat):aH:=⟨List.replicate n [],List.replicate n []⟩
def ux(p f t:Nat)(lim:Int)(a:List Int):ab:=⟨bF p f a,[⟨0,p⟩],[],[],[],List.replicate t eN,dB t,⟨16,[]⟩,0,0,lim,1,false,⟨⟨0,0,[]⟩,0,0⟩⟩
theorem cU{α:Type}[Inhabited α]{n j:Nat}{y:α}(a:j<n):nth (List.replicate n y) j=y:=bw (by rw[List.getElem?_replicate,C8 a])
theorem LK(n:Nat)(f:Int):pagesOn (dR n) f=[]:=by
 unfold pagesOn jc;rw[List.map_eq_nil_iff,List.filter_eq_nil_iff];intro i b;have a:i<n:=by simpa[dR] using b
 unfold Jw;rw[show nth (dR n).Entries i = ⟨0,0⟩ from cU a];simp
theorem zU{p f:Nat}(c:1<=p/\p<=32)(d:1<=f/\f<=32):aB (bF p f [])=true:=by
 rw[aC];refine⟨λj b=>by simp[bF]at b,aY.2 ⟨by simp[bF,f7];omega,by simp[bF,f7];omega,by simp[bF,f7],λj b=>?_⟩,br.2 ⟨λj b=>?_,by simp[bF,dR];omega,by simp[bF,dR];omega⟩,λj b=>?_,by simp[bF],by simp[bF],by simp[bF]⟩
 ·have a:j<f:=by simpa[bF,f7] using b
  rw[show nth (bF p f []).Machine.Frames.Cells j=List.replicate 16 0 from cU a,show nth (bF p f []).Machine.Frames.Used j=false from cU a]
  decide
 ·have a:j<p:=by simpa[bF,dR] using b
  rw[show nth (bF p f []).Machine.Table.Entries j = ⟨0,0⟩ from cU a];unfold kj;rw[C0];exact⟨by decide,by decide,λ_=>rfl,λh=>absurd rfl h⟩
 ·have a:j<f:=by simpa[bF,f7] using b
  rw[show nth (bF p f []).Machine.Frames.Used j=false from cU a,show(bF p f []).Machine.Table=dR p from rfl,LK]
  rfl
theorem vI(w:World)(q:Nat)(c:Array Obj):bB NO w (Sort.grow (w.drewN q) c):=by
 have a:∀b,b<w.heap.size->(Sort.grow (w.drewN q) c).heap[b]? = w.heap[b]?:=λb a=>Sort.heap_grow_old (w.drewN q) c a
 refine⟨rfl,rfl,rfl,by show w.heap.size<=(w.heap++c).size;simp,λb h _=>a b h,λb o h _=>?_,λb o h _=>?_⟩
 ·show World.cell? _ _=World.cell? w _
  unfold World.cell?;simp only[a b h]
 ·refine Prod.ext ?_ ?_
  ·show World.frozen? _ _=World.frozen? w _
   unfold World.frozen?;simp only[a b h]
  ·show mp _ b=mp w b
   unfold mp;rw[a b h]
theorem HR(c:Nat)(W:World):Calls Tryz.prog 259 #[.slice none 0 c] W λe g=>∃B q h,e=.returned (.slice B 0 0)/\g=Sort.grow (W.drewN q) h:=by
 have q22:∀(w:World)(a:Option Addr)(n c b d:Nat),(binOp .eql 33 (.slice a n c) (.slice none b d)).run Tryz.prog w=.ok (.bool a.isNone) w:=λw a n c b d=>Lib.run_eql_slice_nil w _ _ a n c b d Tryz.underlying33
 go_enter Tryz.func259,Tryz.ntmps259
 go_wp2
 go_ret
 exact⟨none,0,#[],rfl,by simp[Sort.grow,World.drewN]⟩
theorem ES(a:Addr)(c:Nat)(W:World):Calls Tryz.prog 259 #[.slice (some a) 0 c] W λe g=>∃B q h,e=.returned (.slice B 0 0)/\g=Sort.grow (W.drewN q) h:=by
 have q22:∀(w:World)(a:Option Addr)(n c b d:Nat),(binOp .eql 33 (.slice a n c) (.slice none b d)).run Tryz.prog w=.ok (.bool a.isNone) w:=λw a n c b d=>Lib.run_eql_slice_nil w _ _ a n c b d Tryz.underlying33
 go_enter Tryz.func259,Tryz.ntmps259
 go_wp2
 go_ret
 exact⟨some ⟨W.heap.size,0,none⟩,0,#[.cells #[] 3],rfl,by rw[Sort.alloc_eq_grow];rfl⟩
theorem ED(xs:List Int)(o:xs.length<=1048576):ao Tryz.prog 259 false [.val none (aD .imm xs)] .one (aD .own xs):=by
 by_cases d:xs=[]
 ·subst d
  refine⟨⟨_,Tryz.func259,by kernel_rfl,by kernel_rfl⟩,λw S p t g=>?_⟩
  match p,g with
  | [v],⟨g,_⟩=>
   have c:=bD.rep1 (show bD w S NO none [C.s .imm []] v from g);obtain⟨l,b,rfl⟩:=c.slice;have r:Calls Tryz.prog 259 #[.slice l 0 b] w λe n=>∃B q i,e=.returned (.slice B 0 0)/\n=Sort.grow (w.drewN q) i:=by
    cases l with
    | none=>exact HR b w
    | some a=>exact ES a b w
   refine r.mono λe n ⟨B,q,i,d,j⟩=>?_
   subst j;exact⟨.slice B 0 0,d,vI w q i,NO,NO,λ_ _ h=>h.elim,λ_ _ h=>h.elim,λ_ _ h=>h.elim,rfl,row1 (.nil _ .own B trivial)⟩
 ·have k:xs.map (rI .imm)≠[]:=λe=>d (List.map_eq_nil_iff.1 e)
  refine fO 8 [] Tryz.func259 rfl ?_ (.inr (bK _))
  repeat'(first|refine gO ?_|(conv=>whnf);first|refine Nn.mk k ?_|refine CM (λ_=>rfl) (λ_=>rfl) o (by decide) ?_)
  rfl
theorem yg(p:ci)(a:ci.sml p):ao Tryz.prog 191 false [.val (some 3) (ci.enc .imm p)] .agg (ci.enc .own p):=by
 have b:p.Cells.length<=1048576:=a;refine fO 8 [] Tryz.func191 rfl ?_ (.inr (ci.enc_fr _))
 repeat'(first|refine gO ?_|(conv=>whnf);first|refine C6 (ED p.Cells b) ?_)
 rfl
theorem zz(j:cj)(a:cj.sml j):ao Tryz.prog 158 false [.val (some 5) (cj.enc .imm j)] .agg (cj.enc .own j):=by
 refine fO 8 [] Tryz.func158 rfl ?_ (.inr (cj.enc_fr _))
 repeat'(first|refine gO ?_|(conv=>whnf);first|refine C6 (yg j.Plan a) ?_)
 rfl
theorem ip(c:aA)(d:aA.sml c):ao Tryz.prog 229 false [.val (some 1) (aA.enc .imm c)] .agg (aA.enc .own c):=by
 have g:=d.1;refine fO 26 [(5,10,[13,14,15,16,17,18,19,20,21,22])] Tryz.func229 rfl ?_ (.inr (aA.enc_fr _))
 repeat'(first|refine gO ?_|fail)
 (conv=>whnf)
 refine CC (ι:=Nat) (λi=>[(1,.hold .box (aA.enc .imm c)),(2,.hold .box [.z]),(3,.hold .box [.s .own ((c.Lists.take i).map (aD .own))]),(4,.hold .one [I ((i:Nat):Int)])]) (λi=>i<=c.Lists.length) (λi=>c.Lists.length - i) (0) ?_ (R0 _) λi h=>?_
 ·exact wB
 by_cases a:i<c.Lists.length
 ·have e:=ah a
  have b:(nth c.Lists i).length<=1048576:=d.2 _ (am a)
  repeat'(first|refine gD ?_|(conv=>whnf);first|with_reducible refine CA (aa e) ?_|refine CR (λ_=>rfl) (λ_=>rfl) b (by decide) ?_|refine Ap.sn (aI λ_=>rfl) rfl (by simp;omega) (by decide) (eJ a) ?_)
  ((conv=>whnf);refine CB (i+1) ω ω ?_;(exact wB))
 ·repeat'(first|refine gD ?_|fail)
  obtain rfl:i=c.Lists.length:=ω
  rw[I4]
  rfl
theorem nz(c:aA)(d:aA.sml c):ao Tryz.prog 155 false [.val (some 1) (aA.enc .imm c)] .agg (aA.enc .own c):=by
 have g:=d.1;refine fO 23 [(5,5,[14,15,16,17,18])] Tryz.func155 rfl ?_ (.inr (aA.enc_fr _))
 repeat'(first|refine gO ?_|fail)
 (conv=>whnf)
 refine CC (ι:=Nat) (λi=>[(2,.hold .box [.z]),(3,.hold .box [.s .own ((c.Lists.take i).map (aD .own))]),(8,.hold .one (fX .imm c.Lists)),(9,.hold .one [I (c.Lists.length)]),(10,.hold .one [I ((i:Nat):Int)])]) (λi=>i<=c.Lists.length) (λi=>c.Lists.length - i) (0) ?_ (R0 _) λi h=>?_
 ·exact wB
 by_cases a:i<c.Lists.length
 ·have e:=ah a
  have b:(nth c.Lists i).length<=1048576:=d.2 _ (am a)
  repeat'(first|refine gD ?_|(conv=>whnf);first|with_reducible refine CA (aa e) ?_|refine C6 (iS (nth c.Lists i) b) ?_|refine Ap.sn (aI λ_=>rfl) rfl (by simp;omega) (by decide) (eJ a) ?_)
  ((conv=>whnf);refine CB (i+1) ω ω ?_;(exact wB))
 ·repeat'(first|refine gD ?_|fail)
  obtain rfl:i=c.Lists.length:=ω
  rw[I4]
  rfl
theorem fg(m:aH)(b:aH.sml m):ao Tryz.prog 230 false [.val (some 2) (aH.enc .imm m)] .agg (aH.enc .own m):=by
 have h:=b.1.1;have g:=b.2.1;refine fO 46 [(5,10,[14,15,16,17,18,19,20,21,22,23]),(9,10,[33,34,35,36,37,38,39,40,41,42])] Tryz.func230 rfl ?_ (.inr (CX _))
 repeat'(first|refine gO ?_|fail)
 (conv=>whnf)
 refine CC (ι:=Nat) (λi=>[(1,.hold .box (aH.enc .imm m)),(2,.hold .box [.z,.z]),(3,.hold .box [.s .own ((m.Buffers.take i).map (bN .own)),.z]),(4,.hold .one [I ((i:Nat):Int)])]) (λi=>i<=m.Buffers.length) (λi=>m.Buffers.length - i) (0) ?_ (R0 _) λi j=>?_
 ·exact wB
 by_cases c:i<m.Buffers.length
 ·have d:=ah c
  have a:(nth m.Buffers i).length<=1048576:=(b.1.2 _ (am c)).1
  repeat'(first|refine gD ?_|(conv=>whnf);first|with_reducible refine CA (aa d) ?_|refine CR (λ_=>rfl) (λ_=>rfl) a (by decide) ?_|refine Ap.sn (aI λ_=>rfl) rfl (by simp;omega) (by decide) (eJ c) ?_)
  ((conv=>whnf);refine CB (i+1) ω ω ?_;(exact wB))
 obtain rfl:i=m.Buffers.length:=ω
 rw[I4]
 repeat'(first|refine gD ?_|fail)
 (conv=>whnf)
 refine CC (ι:=Nat) (λk=>[(1,.hold .box (aH.enc .imm m)),(2,.hold .box [.z,.z]),(3,.hold .box [.s .own (m.Buffers.map (bN .own)),.s .own ((m.Inbox.take k).map (aD .own))]),(5,.hold .one [I ((k:Nat):Int)])]) (λk=>k<=m.Inbox.length) (λk=>m.Inbox.length - k) (0) ?_ (R0 _) λk l=>?_
 ·exact wB
 by_cases e:k<m.Inbox.length
 ·have d:=ah e
  have a:(nth m.Inbox k).length<=1048576:=b.2.2 _ (am e)
  repeat'(first|refine gD ?_|(conv=>whnf);first|with_reducible refine CA (aa d) ?_|refine CR (λ_=>rfl) (λ_=>rfl) a (by decide) ?_|refine Ap.sn (aI λ_=>rfl) rfl (by simp;omega) (by decide) (eJ e) ?_)
  ((conv=>whnf);refine CB (k+1) ω ω ?_;(exact wB))
 ·repeat'(first|refine gD ?_|fail)
  obtain rfl:k=m.Inbox.length:=ω
  rw[I4]
  rfl
theorem pk(m:aH)(b:aH.sml m):ao Tryz.prog 156 false [.val (some 2) (aH.enc .imm m)] .agg (aH.enc .own m):=by
 have h:=b.1.1;have g:=b.2.1;refine fO 41 [(5,6,[16,17,18,19,20,21]),(10,5,[32,33,34,35,36])] Tryz.func156 rfl ?_ (.inr (CX _))
 repeat'(first|refine gO ?_|fail)
 (conv=>whnf)
 refine CC (ι:=Nat) (λi=>[(1,.hold .box (aH.enc .imm m)),(2,.hold .box [.z,.z]),(3,.hold .box [.s .own ((m.Buffers.take i).map (bN .own)),.z]),(10,.hold .one (jU .imm m.Buffers)),(11,.hold .one [I (m.Buffers.length)]),(12,.hold .one [I ((i:Nat):Int)])]) (λi=>i<=m.Buffers.length) (λi=>m.Buffers.length - i) (0) ?_ (R0 _) λi j=>?_
 ·exact wB
 by_cases c:i<m.Buffers.length
 ·have d:=ah c
  have a:(nth m.Buffers i).length<=1048576:=(b.1.2 _ (am c)).1
  repeat'(first|refine gD ?_|(conv=>whnf);first|with_reducible refine CA (aa d) ?_|refine CR (λ_=>rfl) (λ_=>rfl) a (by decide) ?_|refine Ap.sn (aI λ_=>rfl) rfl (by simp;omega) (by decide) (eJ c) ?_)
  ((conv=>whnf);refine CB (i+1) ω ω ?_;(exact wB))
 obtain rfl:i=m.Buffers.length:=ω
 rw[I4]
 repeat'(first|refine gD ?_|fail)
 (conv=>whnf)
 refine CC (ι:=Nat) (λk=>[(2,.hold .box [.z,.z]),(3,.hold .box [.s .own (m.Buffers.map (bN .own)),.s .own ((m.Inbox.take k).map (aD .own))]),(26,.hold .one (fX .imm m.Inbox)),(27,.hold .one [I (m.Inbox.length)]),(28,.hold .one [I ((k:Nat):Int)])]) (λk=>k<=m.Inbox.length) (λk=>m.Inbox.length - k) (0) ?_ (R0 _) λk l=>?_
 ·exact wB
 by_cases e:k<m.Inbox.length
 ·have d:=ah e
  have a:(nth m.Inbox k).length<=1048576:=b.2.2 _ (am e)
  repeat'(first|refine gD ?_|(conv=>whnf);first|with_reducible refine CA (aa d) ?_|refine C6 (iS (nth m.Inbox k) a) ?_|refine Ap.sn (aI λ_=>rfl) rfl (by simp;omega) (by decide) (eJ e) ?_)
  ((conv=>whnf);refine CB (k+1) ω ω ?_;(exact wB))
 ·repeat'(first|refine gD ?_|fail)
  obtain rfl:k=m.Inbox.length:=ω
  rw[I4]
  rfl
theorem qY(q:bz)(b:bz.sml q):ao Tryz.prog 231 false [.val (some 2) (bz.enc .imm q)] .agg (bz.enc .own q):=by
 have a:q.Lst.length<=1048576:=b.1;refine fO 10 [(1,6,[3,4,5,6,7,8])] Tryz.func231 rfl ?_ (.inr (bz.enc_fr _))
 repeat'(first|refine gO ?_|(conv=>whnf);first|refine CR (λ_=>rfl) (λ_=>rfl) a (by decide) ?_|refine CM (λ_=>rfl) (λ_=>rfl) a (by decide) ?_)
 rfl
theorem pd(q:bz)(b:bz.sml q):ao Tryz.prog 157 false [.val (some 2) (bz.enc .imm q)] .agg (bz.enc .own q):=by
 have a:q.Lst.length<=1048576:=b.1;refine fO 10 [(1,6,[3,4,5,6,7,8])] Tryz.func157 rfl ?_ (.inr (bz.enc_fr _))
 repeat'(first|refine gO ?_|(conv=>whnf);first|refine CR (λ_=>rfl) (λ_=>rfl) a (by decide) ?_|refine CM (λ_=>rfl) (λ_=>rfl) a (by decide) ?_)
 rfl
theorem qL(j:cj)(a:cj.sml j):ao Tryz.prog 232 false [.val (some 5) (cj.enc .imm j)] .agg (cj.enc .own j):=by
 have b:j.Plan.Cells.length<=1048576:=a;refine fO 11 [] Tryz.func232 rfl ?_ (.inr (cj.enc_fr _))
 repeat'(first|refine gO ?_|(conv=>whnf);first|refine CM (λ_=>rfl) (λ_=>rfl) b (by decide) ?_)
 rfl
theorem mU(xs:List ay)(a:gd xs):ao Tryz.prog 154 false [.val none (bk .imm xs)] .one (bk .own xs):=by
 have b:=a.1;refine fO 6 [] Tryz.func154 rfl ?_ (.inr (kJ _))
 repeat'(first|refine gO ?_|(conv=>whnf);first|refine CM (λ_=>rfl) (λ_=>rfl) b (by decide) ?_)
 rfl
def PN(h:ab)(a:C):List C:=[.s .own (h.Kernel.Machine.Frames.Cells.map (aD .own)),.s .own (h.Kernel.Machine.Frames.Used.map (rB .own)),.s .own (h.Kernel.Machine.Table.Entries.map (bi.enc .own)),I h.Kernel.Calls,.s .own (h.Kernel.Refuse.map (rI .own)),.s .own (h.Free.map (ay.enc .own)),.s .own (h.Spans.map (au.enc .own)),.s .own (h.Larges.map (ax.enc .own)),.s .own (h.Objs.map (bm.enc .own)),a,.s .imm (h.Mail.Buffers.map (bN .imm)),.s .imm (h.Mail.Inbox.map (aD .imm)),I h.Quar.Room,.s .imm (h.Quar.Lst.map (aL.enc .imm)),I h.Seed,I h.Clock,I h.Limit,I h.Next,B h.Meshing,I h.Job.Plan.Keep,I h.Job.Plan.Move,.s .imm (h.Job.Plan.Cells.map (rI .imm)),I h.Job.Phase,I h.Job.Next]
def KV:List C:=[.z,.z,.z,I 0,.z,.z,.z,.z,.z,.z,.z,.z,I 0,.z,I 0,I 0,I 0,I 0,B false,I 0,I 0,.z,I 0,I 0]
theorem Ac(h:ab)(c:ab.sml h):ao Tryz.prog 142 false [.val (some 24) (ab.enc .imm h)] .agg (ab.enc .own h):=by
 obtain⟨d,e,g,j,k,b,l,n,o⟩:=c;have p:=e.1;have q:=g.1;have r:=j.1;have t:=k.1;have w:=b.1;refine fO 61 [] Tryz.func142 rfl ?_ (.inr (ab.enc_fr _))
 repeat'(first|refine gO ?_|(conv=>whnf);first|refine C6 (AQ h.Kernel d) ?_|refine CM (λ_=>rfl) (λ_=>rfl) p (by decide) ?_|refine CM (λ_=>rfl) (λ_=>rfl) q (by decide) ?_|refine CM (λ_=>rfl) (λ_=>rfl) r (by decide) ?_|refine CM (λ_=>rfl) (λ_=>rfl) t (by decide) ?_)
 (conv=>whnf)
 refine CC (ι:=Nat) (λi=>[(1,.hold .box (PN h (.s .imm (h.Caches.map (aA.enc .imm))))),(2,.hold .box KV),(3,.hold .one ([.s .own ((h.Caches.take i).map (aA.enc .own))])),(4,.hold .one [I ((i:Nat):Int)])]) (λi=>i<=h.Caches.length) (λi=>h.Caches.length - i) (0) ?_ (R0 _) λi y=>?_
 ·exact wB
 by_cases a:i<h.Caches.length
 ·have u:=ah a
  repeat'(first|refine gD ?_|(conv=>whnf);first|with_reducible refine CA (aa u) ?_|refine C6 (ip (nth h.Caches i) (b.2 _ (am a))) ?_|refine Ap.sn (aI λ_=>rfl) rfl (by simp;omega) (by decide) (eJ a) ?_)
  ((conv=>whnf);refine CB (i+1) ω ω ?_;(exact wB))
 ·obtain rfl:i=h.Caches.length:=ω
  rw[I4]
  repeat'(first|refine gD ?_|(conv=>whnf);first|refine C6 (fg h.Mail l) ?_|refine C6 (qY h.Quar n) ?_|refine C6 (qL h.Job o) ?_)
  rfl
theorem yl(h:ab)(c:ab.sml h):ao Tryz.prog 65 false [.val (some 24) (ab.enc .imm h)] .agg (ab.enc .own h):=by
 obtain⟨d,e,g,j,k,b,l,n,o⟩:=c;have p:=g.1;have q:=j.1;have r:=k.1;have u:=b.1;refine fO 59 [(11,5,[38,39,40,41,42])] Tryz.func65 rfl ?_ (.inr (ab.enc_fr _))
 repeat'(first|refine gO ?_|(conv=>whnf);first|refine C6 (mP h.Kernel d) ?_|refine C6 (mU h.Free e) ?_|refine CM (λ_=>rfl) (λ_=>rfl) p (by decide) ?_|refine CM (λ_=>rfl) (λ_=>rfl) q (by decide) ?_|refine CM (λ_=>rfl) (λ_=>rfl) r (by decide) ?_)
 (conv=>whnf)
 refine CC (ι:=Nat) (λi=>[(1,.hold .box (ab.enc .imm h)),(2,.hold .box KV),(3,.hold .box (PN h (.s .own ((h.Caches.take i).map (aA.enc .own))))),(32,.hold .one (iu .imm h.Caches)),(33,.hold .one [I (h.Caches.length)]),(34,.hold .one [I ((i:Nat):Int)])]) (λi=>i<=h.Caches.length) (λi=>h.Caches.length - i) (0) ?_ (R0 _) λi w=>?_
 ·exact wB
 by_cases a:i<h.Caches.length
 ·have t:=ah a
  repeat'(first|refine gD ?_|(conv=>whnf);first|with_reducible refine CA (aa t) ?_|refine C6 (nz (nth h.Caches i) (b.2 _ (am a))) ?_|refine Ap.sn (aI λ_=>rfl) rfl (by simp;omega) (by decide) (eJ a) ?_)
  ((conv=>whnf);refine CB (i+1) ω ω ?_;(exact wB))
 ·obtain rfl:i=h.Caches.length:=ω
  rw[I4]
  repeat'(first|refine gD ?_|(conv=>whnf);first|refine C6 (pk h.Mail l) ?_|refine C6 (pd h.Quar n) ?_|refine C6 (zz h.Job o) ?_)
  rfl
theorem Ap.sm{rows b:List (List C)}{r:List C}{sz by_:Nat}{K:List (List C)->Prop}(h1:∀r∈rows,r.length=sz)(c:r.length=sz)(d:rows.length+1<=1073741824)(e:by_<=1000)(a:b=rows++[r])(f:K b):Ap false rows [r] sz by_ K:=
 CQ h1 (λg a=>by rw[Z0.1 a];exact c) (λh=>by cases h) (by simp;omega) (t4 (Nat.mul_le_mul (show rows.length+[r].length<=1073741824 by simpa using d) e) (by decide)) a f
theorem CT:type_of% @Ap.sm:=@Ap.sm
theorem Ap.s2{rows d:List (List C)}{a b:List C}{sz by_:Nat}{K:List (List C)->Prop}(h1:∀r∈rows,r.length=sz)(i:a.length=sz)(j:b.length=sz)(e:rows.length+2<=1073741824)(f:by_<=1000)(c:d=rows++[a,b])(g:K d):Ap false rows [a,b] sz by_ K:=
 CQ h1 (λk c=>by simp at c;rcases c with rfl|rfl<;>assumption) (λh=>by cases h) (by simp;omega) (t4 (Nat.mul_le_mul (show rows.length+[a,b].length<=1073741824 by simpa using e) f) (by decide)) c g
theorem sB(y:ay)(a:List ay)(r:ay)(out:List ay)(done:Bool):iq (y::a) r out done=if ovl y r then none
  else if y.At+y.Len=r.At then iq a ⟨y.At,y.Len+r.Len⟩ out done
  else if r.At+r.Len=y.At then iq a ⟨r.At,r.Len+y.Len⟩ out done
  else if y.At > r.At/\done=false then iq a r (out++[r,y]) true
  else iq a r (out++[y]) done:=by rw[iq]
theorem uo{pages:Int}{xs:List ay}(h:bx pages xs=true):nG xs/\∀y∈xs,0<=y.At/\1<=y.Len/\y.At+y.Len<=pages:=by
 unfold bx at h;simp only[I0,C0]at h;have b:∀i,i<xs.length->1<=(nth xs i).Len/\0<=(nth xs i).At/\(nth xs i).At<=pages - (nth xs i).Len:=λi a=>by
  have:=dM h.1 a;unfold fG rangeIn at this;simp only[I0,C0]at this;omega
 have d:∀i,i+1<xs.length->(nth xs i).At+(nth xs i).Len<(nth xs (i+1)).At:=λi a=>by
  have:=dM h.1 a;unfold fG at this;simp only[I0,C0]at this;have:=this.2.resolve_left ω;simpa using this
 have k:∀j i,i<j->j<xs.length->(nth xs i).At+(nth xs i).Len<(nth xs j).At:=λj=>by
  induction j with
  | zero=>intro i a;omega
  | succ j l=>
   intro i a c;have n:=d j c;by_cases e:i=j
   ·subst e;exact n
   ·have o:=l i ω ω
    have p:=b j ω;omega
 refine⟨⟨?_,λy f=>?_⟩,λy f=>?_⟩
 ·rw[List.pairwise_iff_getElem]
  intro i j a c g;have:=k j i g c
  rwa [bw (U1 a),bw (U1 c)]at this
 ·obtain⟨i,a,rfl⟩:=bf f
  exact(b i a).1
 ·obtain⟨i,a,rfl⟩:=bf f
  have:=b i a;omega
theorem gB{α:Type}[Inhabited α]{xs:List α}{i:Nat}(a:i<xs.length):xs.drop i=nth xs i::xs.drop (i+1):=by
 rw[List.drop_eq_getElem_cons a,bw (U1 a)]
def bX(pages:Int)(xs:List ay)(r:ay):Option (List ay):=if bx pages xs=true/\rangeIn pages r=true then iq xs r [] false else none
def zC(xs:List ay)(o:Option (List ay)):List C:=bk .own (o.getD xs)++[B o.isSome]
theorem jL(xs:List ay)(o:Option (List ay)):gr (zC xs o):=aM (kJ _) ⟨trivial,trivial⟩
theorem xB(pages:Int)(xs:List ay)(r:ay)(w:0<=pages/\pages<=1048576)(n:gd xs):ao Tryz.prog 222 false [.val none [I pages],.val none (bk .imm xs),.val (some 2) (ay.enc .imm r)] (.tup [none,none]) (zC xs (bX pages xs r)):=by
 have L:=n.1;have k:=pe pages xs w n;have o:=wO pages r w;have p:=mU xs n;cases l:bx pages xs<;>rw[l]at k
 ·rw[show bX pages xs r=none by unfold bX;rw[C7 (by rw[l];simp)]]
  refine fO 111 [] Tryz.func222 rfl ?_ (.inr (jL _ _))
  repeat'(first|refine gO ?_|(conv=>whnf);first|refine C6 (k) ?_|refine C6 (p) ?_)
  rfl
 cases j:rangeIn pages r<;>rw[j]at o
 ·rw[show bX pages xs r=none by unfold bX;rw[C7 (by rw[j];simp)]]
  refine fO 111 [] Tryz.func222 rfl ?_ (.inr (jL _ _))
  repeat'(first|refine gO ?_|(conv=>whnf);first|refine C6 (k) ?_|refine C6 (o) ?_|refine C6 (p) ?_)
  rfl
 rw[show bX pages xs r=iq xs r [] false by unfold bX;rw[C8 ⟨l,j⟩]];obtain⟨M,G⟩:=uo l;have H:0<=r.At/\1<=r.Len/\r.At+r.Len<=pages:=by
  unfold rangeIn at j;rw[C0]at j;omega
 refine fO 111 [] Tryz.func222 rfl ?_ (.inr (jL _ _))
 repeat'(first|refine gO ?_|(conv=>whnf);first|refine C6 (k) ?_|refine C6 (o) ?_)
 (conv=>whnf)
 refine CC (ι:=Nat × ay × List ay × Bool) (λq=>[(1,.hold .one (bk .imm xs)),(5,.hold .box (ay.enc .imm q.2.1)),(8,.hold .one (bk .own q.2.2.1)),(9,.hold .one [B (q.2.2.2)]),(25,.hold .one (bk .imm xs)),(26,.hold .one [I (xs.length)]),(27,.hold .one [I ((q.1:Nat):Int)])]) (λq=>q.1<=xs.length/\iq (xs.drop q.1) q.2.1 q.2.2.1 q.2.2.2=iq xs r [] false/\(0<=q.2.1.At/\1<=q.2.1.Len/\q.2.1.At+q.2.1.Len<=pages)/\q.2.2.1.length<=2*q.1) (λq=>xs.length - q.1) ((0,r,[],false)) ?_ (⟨R0 _,rfl,H,R0 _⟩) λq c=>?_
 ·exact wB
 obtain⟨i,d,out,done⟩:=q;obtain⟨J,b,e,t⟩:=c;simp only at J b e t |-;by_cases u:i<xs.length
 ·have g:=ah u
  have N:=G _ (am u);rw[gB u]at b;by_cases h:ovl (nth xs i) d=true
  ·rw[<-b]
   rw[sB,C8 h];unfold ovl at h;rw[C0]at h
   repeat'(first|refine gD ?_|(conv=>whnf);first|with_reducible (first|refine CA (aa g) ?_|refine Bf.D (λc=>?_) (λc=>?_))|refine C6 (p) ?_)
   rfl
  ·have a:=b
   rw[sB,C7 h]at a;unfold ovl at h;rw[C0]at h;by_cases y:(nth xs i).At+(nth xs i).Len=d.At
   ·rw[C8 y]at a
    repeat'(first|refine gA ?_|(conv=>whnf);first|with_reducible (first|refine CA (aa g) ?_|refine Bf.D (λc=>?_) (λc=>?_)))
    ((conv=>whnf);refine CB (i+1,⟨(nth xs i).At,(nth xs i).Len+d.Len⟩,out,done) ⟨(by simp only;omega),a,(by simp only;omega),(by simp only;omega)⟩ (by simp only;omega) ?_;(exact wB))
   ·rw[C7 y]at a
    by_cases F:d.At+d.Len=(nth xs i).At
    ·rw[C8 F]at a
     repeat'(first|refine gA ?_|(conv=>whnf);first|with_reducible (first|refine CA (aa g) ?_|refine Bf.D (λc=>?_) (λc=>?_)|refine Bf.E (λc=>?_) (λc=>?_)))
     ((conv=>whnf);refine CB (i+1,⟨d.At,d.Len+(nth xs i).Len⟩,out,done) ⟨(by simp only;omega),a,(by simp only;omega),(by simp only;omega)⟩ (by simp only;omega) ?_;(exact wB))
    ·rw[C7 F]at a
     by_cases K:(nth xs i).At > d.At
     ·cases done with
      | false=>
       rw[C8 ⟨K,rfl⟩]at a
       repeat'(first|refine gA ?_|(conv=>whnf);first|with_reducible (first|refine CA (aa g) ?_|refine Bf.D (λc=>?_) (λc=>?_)|refine Bf.E (λc=>?_) (λc=>?_))|refine Ap.s2 (aI λ_=>rfl) rfl rfl (by simp;omega) (by decide) rfl ?_)
       ((conv=>whnf)
        refine CB (i+1,d,out++[d,nth xs i],true) ⟨(by simp only;omega),a,e,(by simp;omega)⟩ (by simp only;omega) ?_
        (repeat'(first|exact trivial|rfl|exact CH rfl (CH (T0 (C.s dw.own) (by simp[ay.enc])) trivial)|refine CH ?_ ?_)))
      | true=>
       rw[C7 (by simp)]at a
       repeat'(first|refine gA ?_|(conv=>whnf);first|with_reducible (first|refine CA (aa g) ?_|refine Bf.D (λc=>?_) (λc=>?_)|refine Bf.E (λc=>?_) (λc=>?_))|refine CT (aI λ_=>rfl) rfl (by simp;omega) (by decide) rfl ?_)
       ((conv=>whnf)
        refine CB (i+1,d,out++[nth xs i],true) ⟨(by simp only;omega),a,e,(by simp;omega)⟩ (by simp only;omega) ?_
        (repeat'(first|exact trivial|rfl|exact CH rfl (CH (T0 (C.s dw.own) (by simp[ay.enc])) trivial)|refine CH ?_ ?_)))
     ·rw[C7 ω]at a
      repeat'(first|refine gA ?_|(conv=>whnf);first|with_reducible (first|refine CA (aa g) ?_|refine Bf.D (λc=>?_) (λc=>?_)|refine Bf.E (λc=>?_) (λc=>?_))|refine CT (aI λ_=>rfl) rfl (by simp;omega) (by decide) rfl ?_)
      ((conv=>whnf)
       refine CB (i+1,d,out++[nth xs i],done) ⟨(by simp only;omega),a,e,(by simp;omega)⟩ (by simp only;omega) ?_
       (repeat'(first|exact trivial|rfl|exact CH rfl (CH (T0 (C.s dw.own) (by simp[ay.enc])) trivial)|refine CH ?_ ?_)))
 ·obtain rfl:i=xs.length:=ω
  rw[List.drop_length]at b;cases done with
  | false=>
   rw[<-b]
   repeat'(first|refine gD ?_|(conv=>whnf);first|refine CT (aI λ_=>rfl) rfl (by simp;omega) (by decide) rfl ?_)
   show [C.s dw.own _,B true]=[C.s dw.own _,B true];simp[iq,ay.enc]
  | true=>
   rw[<-b]
   repeat'(first|refine gD ?_|fail)
   rfl
theorem ur{α:Type}[Inhabited α](R:Int->Int->Prop)(n:∀a b c,R a b->R b c->R a c)(f:α->Int)(xs:List α):(∀i,i<xs.length->i=0\/R (f (nth xs (i - 1))) (f (nth xs i)))↔xs.Pairwise (λa b=>R (f a) (f b)):=by
 constructor
 ·intro h
  have o:∀j i,i<j->j<xs.length->R (f (nth xs i)) (f (nth xs j)):=λj=>by
   induction j with
   | zero=>intro i d;omega
   | succ j p=>
    intro i d g;have k:=(h (j+1) g).resolve_left ω;rw[show j+1 - 1=j from rfl]at k;by_cases e:i=j
    ·subst e;exact k
    ·exact n _ _ _ (p i ω ω) k
  rw[List.pairwise_iff_getElem];intro i j d g l;have:=o j i l g
  rwa [bw (U1 d),bw (U1 g)]at this
 ·intro h i d
  by_cases e:i=0
  ·exact .inl e
  ·right
   have:=List.pairwise_iff_getElem.1 h (i - 1) i ω d ω
   rwa [<-bw (U1 (show i - 1<xs.length by omega)),<-bw (U1 d)]at this
theorem yq{α:Type}[Inhabited α](f:α->Int)(xs:List α):(∀i,i<xs.length->∀o∈xs.take i,f o≠f (nth xs i))↔(xs.map f).Nodup:=by
 unfold List.Nodup;rw[List.pairwise_map,List.pairwise_iff_getElem];constructor
 ·intro h i j a b c
  have:=h j b xs[i] (List.mem_take_iff_getElem.2 ⟨i,ω,rfl⟩)
  rwa [bw (U1 b)]at this
 ·intro h i a o d
  obtain⟨j,b,rfl⟩:=List.mem_take_iff_getElem.1 d;rw[bw (U1 a)];exact h j i ω a ω
def eI(s:au)(a:Int):Prop:=16*s.Page<=a/\a<=16*s.Page+15/\(a - 16*s.Page) % csz s.Class=0/\aX s.Bits ((a - 16*s.Page) / csz s.Class)=true
def jd(sp:List au)(a c:Int):Prop:=∃s∈sp,eI s a/\(c<0\/s.Class=c)
def Qj(la:List ax)(a z:Int):Prop:=∃l∈la,a=16*l.Page/\l.Size=z
def KE(sp:List au)(la:List ax)(o:bm):Prop:=(∃s∈sp,eI s o.Addr/\s.Class=aK o.Size)\/Qj la o.Addr o.Size
def lr(sp:List au)(la:List ax)(a:Int):Prop:=jd sp a (-1)\/∃l∈la,a=16*l.Page
theorem lA{sp:List au}{la:List ax}(f:ri sp la)(a:Int):(∃i,i<sp.length/\(16*(nth sp i).Page<=a/\a<=16*(nth sp i).Page+15)/\denotes sp la a=oh i (nth sp i) a)\/((∀s∈sp,¬(16*s.Page<=a/\a<=16*s.Page+15))/\((∃i,i<la.length/\b9 (nth la i) a=true/\denotes sp la a = ⟨3,i,0,a - 16*(nth la i).Page⟩)\/((∀l∈la,b9 l a=false)/\denotes sp la a = ⟨0,0,0,0⟩))):=by
 cases c:sp.findIdx? (cA · a) with
 | some i=>
  obtain⟨b,d,-⟩:=R5.1 c;rw[<-bw (U1 b)]at d;exact .inl ⟨i,b,(fU (f.sok _ (am b))).1 d,by unfold denotes;rw[c]⟩
 | none=>
  have h:=List.findIdx?_eq_none_iff.1 c;refine .inr ⟨λs g j=>?_,?_⟩
  ·have:=h s g
   rw[(fU (f.sok _ g)).2 j]at this;cases this
  cases e:la.findIdx? (b9 · a) with
  | some i=>
   obtain⟨b,d,-⟩:=R5.1 e;rw[<-bw (U1 b)]at d;exact .inl ⟨i,b,d,by unfold denotes;rw[c,e]⟩
  | none=>exact .inr ⟨List.findIdx?_eq_none_iff.1 e,by unfold denotes;rw[c,e]⟩
theorem J0{h:ab}(k:ri h.Spans h.Larges){a c:Int} : dc h a c=true↔jd h.Spans a c:=by
 unfold dc;simp only[I0,t5,C0];constructor
 ·rintro⟨⟨b,j⟩,d⟩
  rcases lA k a with⟨i,g,l,f⟩|⟨-,⟨i,g,-,f⟩|⟨-,f⟩⟩
  ·rw[f]at b j d
   simp only[oh]at b j d;refine⟨_,am g,⟨l.1,l.2,j,?_⟩,by simpa using d⟩;cases e:aX (nth h.Spans i).Bits ((a - 16*(nth h.Spans i).Page) / csz (nth h.Spans i).Class) with
   | true=>rfl
   | false=>rw[e]at b;simp at b
  ·rw[f]at b;simp at b
  ·rw[f]at b;simp at b
 ·rintro⟨s,n,⟨o,p,q,r⟩,d⟩
  obtain⟨i,g,rfl⟩:=bf n;rw[gC k g ⟨o,p⟩];simp only[oh,q,r,if_true,true_and];simpa using d
theorem wt{sp:List au}{la:List ax}(a:ri sp la){l:ax}(b:l∈la):(∀s∈sp,¬(16*s.Page<=16*l.Page/\16*l.Page<=16*s.Page+15))/\b9 l (16*l.Page)=true/\∀i,i<la.length->b9 (nth la i) (16*l.Page)=true->nth la i=l:=by
 have k:=aS (a.lok _ b);have f:=cz (a.lok _ b);refine⟨λs g n=>?_,?_,λi d e=>?_⟩
 ·exact a.dis s g l b 0 ω ω
 ·unfold b9;rw[a.lok _ b,O0 ω];rfl
 ·obtain⟨j,h,rfl⟩:=bf b
  have o:=aS (a.lok _ (am d));have c:=a.lok _ (am d);unfold bV at c;rw[C0]at c;unfold b9 at e;rw[I0,C0]at e;rw[a.one i j d h ((nth la j).Page - (nth la i).Page).toNat 0 ω ω ω]
theorem Le{h:ab}(f:ri h.Spans h.Larges){o:bm} : jC h o=true↔KE h.Spans h.Larges o:=by
 unfold jC;simp only[I0,t5,C0];constructor
 ·rintro⟨d,a⟩
  rcases lA f o.Addr with⟨i,b,g,c⟩|⟨-,⟨i,b,-,c⟩|⟨-,c⟩⟩
  ·rw[c]at a d
   simp only[oh]at a d;have j:aX (nth h.Spans i).Bits ((o.Addr - 16*(nth h.Spans i).Page) / csz (nth h.Spans i).Class)=true:=by
    cases e:aX (nth h.Spans i).Bits ((o.Addr - 16*(nth h.Spans i).Page) / csz (nth h.Spans i).Class) with
    | true=>rfl
    | false=>rw[e]at a;simp at a
   rw[j]at a;exact .inl ⟨_,am b,⟨g.1,g.2,d,j⟩,by simpa using a⟩
  ·rw[c]at a d
   simp only at a d;exact .inr ⟨_,am b,ω,by simpa using a⟩
  ·rw[c]at a;simp at a
 ·rintro(⟨s,j,⟨p,q,r,t⟩,u⟩|⟨l,k,w,y⟩)
  ·obtain⟨i,b,rfl⟩:=bf j
   rw[gC f b ⟨p,q⟩];simp only[oh,r,t,if_true,true_and];simp[u]
  ·obtain⟨A,n,B⟩:=wt f k
   rw[w];rcases lA f (16*l.Page) with⟨i,b,g,c⟩|⟨-,⟨i,b,C,c⟩|⟨D,c⟩⟩
   ·exact absurd g (A _ (am b))
   ·rw[c]
    have:=B i b C;simp only[this,I2];exact⟨ω,.inr ⟨trivial,y⟩⟩
   ·rw[D l k]at n;cases n
theorem Dl{sp:List au}{la:List ax}(d:ri sp la)(a:Int):a∈im sp la↔lr sp la a:=by
 constructor
 ·intro h
  unfold im kN at h;obtain⟨n,o,rfl⟩:=U3.1 h;have g:=(V3.1 o).2;unfold jj at g;simp only[I0,t5,C0]at g;obtain⟨j,f⟩:=g;rcases lA d (n:Int) with⟨i,c,k,b⟩|⟨-,⟨i,c,-,b⟩|⟨-,b⟩⟩
  ·rw[b]at f j
   simp only[oh]at f j;refine .inl ⟨_,am c,⟨k.1,k.2,j,?_⟩,.inl ω⟩;cases e:aX (nth sp i).Bits (((n:Int) - 16*(nth sp i).Page) / csz (nth sp i).Class) with
   | true=>rfl
   | false=>rw[e]at f;simp at f
  ·rw[b]at j
   simp only at j;exact .inr ⟨_,am c,ω⟩
  ·rw[b]at f;simp at f
 ·rintro(⟨s,r,⟨t,g,u,w⟩,-⟩|⟨l,p,rfl⟩)
  ·obtain⟨i,c,rfl⟩:=bf r
   have b:=gC d c ⟨t,g⟩;exact uA d (by rw[b];exact u) (.inl (by rw[b];simp only[oh,w,if_true]))
  ·obtain⟨y,q,A⟩:=wt d p
   rcases lA d (16*l.Page) with⟨i,c,k,b⟩|⟨-,⟨i,c,B,b⟩|⟨o,b⟩⟩
   ·exact absurd k (y _ (am c))
   ·have:=A i c B
    exact uA d (by rw[b];simp only[this];omega) (.inr (by rw[b]))
   ·rw[o l p]at q;cases q
def RH(xs:List ay)(p:Int):Prop:=∃r∈xs,r.At<=p/\p<r.At+r.Len
theorem fh{pages:Int}{xs:List ay} : bx pages xs=true↔nG xs/\(∀y∈xs,0<=y.At/\1<=y.Len/\y.At+y.Len<=pages)/\1<=pages/\pages<=32:=by
 constructor
 ·intro h
  obtain⟨a,b⟩:=uo h;unfold bx at h;simp only[I0,C0]at h;exact⟨a,b,h.2⟩
 ·rintro⟨a,b,d⟩
  unfold bx;simp only[I0,C0];refine⟨ce.2 λi c=>?_,d⟩;have f:=b _ (am c);unfold fG rangeIn;simp only[I0,C0];refine⟨ω,?_⟩;by_cases e:i=0
  ·exact .inl e
  ·right
   have:=List.pairwise_iff_getElem.1 a.1 (i - 1) i ω c ω
   rwa [<-bw (U1 (show i - 1<xs.length by omega)),<-bw (U1 c)]at this
theorem B0{pages:Int}{xs:List ay}(h:bx pages xs=true)(p:Int):xs.any (pV p)=true↔RH xs p:=by
 obtain⟨-,c,d⟩:=fh.1 h;rw[I3];refine⟨λ⟨r,a,b⟩=>⟨r,a,?_⟩,λ⟨r,a,b⟩=>⟨r,a,?_⟩⟩
 ·have:=c r a
  unfold pV at b;rw[eS ω ω]at b;simpa using b
 ·have:=c r a
  unfold pV;rw[eS ω ω];simpa using b
theorem uq(u:Int):∀(h:List ay)(r:ay)(out:List ay),nG h->1<=r.Len->(∀y∈h,ovl y r=false)->(∀z∈out,z.At+z.Len<r.At/\∀y∈h,z.At+z.Len<y.At)->nG out->(∀y∈r::(out++h),0<=y.At/\y.At+y.Len<=u)->∃o,iq h r out false=some o/\nG o/\(∀y∈o,0<=y.At/\y.At+y.Len<=u)/\∀p,RH o p↔RH out p\/RH h p\/(r.At<=p/\p<r.At+r.Len)
 | [],r,out,_,A,_,k,l,f=>by
  refine⟨out++[r],by simp[iq],⟨List.pairwise_append.2 ⟨l.1,List.pairwise_singleton ..,λa B b f=>by rw[Z0.1 f];exact(k a B).1⟩,λy n=>?_⟩,λy n=>f y (by simp at n |-;grind),λp=>by unfold RH;simp[or_and_right,exists_or]⟩;rcases Q2.1 n with n|n
  ·exact l.2 y n
  ·rw[Z0.1 n];exact A
 | y::h,r,out,g,A,H,k,l,f=>by
  have K:=g.2 y (O1 ..);have q:=H y (O1 ..);have j:=g.head;have O:=f y (by simp);have P:=f r (by simp);have C:∀w∈h,¬(w.At<r.At+r.Len/\r.At<w.At+w.Len):=λw d=>by
   have:=H w (Q4 _ d);unfold ovl at this;simpa using this
  have t:∀w∈h,1<=w.Len:=λw d=>g.2 w (Q4 _ d)
  rw[sB,C7 (by rw[q];simp)];unfold ovl at q;rw[Y3]at q;by_cases L:y.At+y.Len=r.At
  ·rw[C8 L]
   obtain⟨o,D,E,F,G⟩:=uq u h ⟨y.At,y.Len+r.Len⟩ out g.tail (by simp only;omega) (λw d=>by
     have a:=j w d;have b:=C w d;have c:=t w d;unfold ovl;rw[Y3];simp only;omega) (λz i=>⟨(k z i).2 y (O1 ..),λw d=>(k z i).2 w (Q4 _ d)⟩) l (λw d=>by
     rcases List.mem_cons.1 d with rfl|d
     · simp only;omega
     · exact f w (by simp at d |-;grind))
   refine⟨o,D,E,F,λp=>?_⟩;rw[G];unfold RH;simp only[List.mem_cons,exists_eq_or_imp]
   grind
  rw[C7 L];by_cases M:r.At+r.Len=y.At
  ·rw[C8 M]
   obtain⟨o,D,E,F,G⟩:=uq u h ⟨r.At,r.Len+y.Len⟩ out g.tail (by simp only;omega) (λw d=>by
     have a:=j w d;have b:=C w d;have c:=t w d;unfold ovl;rw[Y3];simp only;omega) (λz i=>⟨(k z i).1,λw d=>(k z i).2 w (Q4 _ d)⟩) l (λw d=>by
     rcases List.mem_cons.1 d with rfl|d
     · simp only;omega
     · exact f w (by simp at d |-;grind))
   refine⟨o,D,E,F,λp=>?_⟩;rw[G];unfold RH;simp only[List.mem_cons,exists_eq_or_imp]
   grind
  rw[C7 M];by_cases N:y.At > r.At
  ·have J:r.At+r.Len<y.At:=ω
   rw[C8 ⟨N,rfl⟩,ov g.tail A λw d=>by have:=j w d;omega];refine⟨_,rfl,⟨?_,λw d=>?_⟩,λw d=>f w (by simp at d |-;grind),λp=>by unfold RH;simp[or_and_right,exists_or];grind⟩
   ·rw[U4]
    refine List.pairwise_append.2 ⟨l.1,?_,λa B b f=>?_⟩
    ·show(r::y::h).Pairwise _
     refine List.pairwise_cons.2 ⟨λw d=>?_,g.1⟩;rcases List.mem_cons.1 d with rfl|d
     ·exact J
     ·have:=j w d;omega
    ·obtain⟨Q,R⟩:=k a B
     have f:b∈r::y::h:=f;rcases List.mem_cons.1 f with rfl|f
     ·exact Q
     ·exact R b f
   ·simp only[Q2,List.mem_cons,List.not_mem_nil,or_false]at d
    rcases d with(d|rfl|rfl)|d
    ·exact l.2 w d
    ·exact A
    ·exact K
    ·exact t w d
  rw[C7 λe=>N e.1];obtain⟨o,D,E,F,G⟩:=uq u h r (out++[y]) g.tail A (λw d=>H w (Q4 _ d)) (λz i=>by
    rcases Q2.1 i with i|i
    · exact⟨(k z i).1,λw d=>(k z i).2 w (Q4 _ d)⟩
    · rw[Z0.1 i];exact⟨ω,j⟩) ⟨List.pairwise_append.2 ⟨l.1,List.pairwise_singleton ..,λa B b f=>by rw[Z0.1 f];exact(k a B).2 y (O1 ..)⟩,λw d=>by
      rcases Q2.1 d with d|d
      · exact l.2 w d
      · rw[Z0.1 d];exact K⟩ (λw d=>f w (by simp at d |-;grind))
  refine⟨o,D,E,F,λp=>?_⟩;rw[G];unfold RH;simp[or_and_right,exists_or]
  grind
theorem tw{pages:Int}{xs:List ay}{r:ay}(h:bx pages xs=true)(j:0<=r.At/\1<=r.Len/\r.At+r.Len<=pages)(c:∀p,r.At<=p->p<r.At+r.Len->¬RH xs p):∃o,bX pages xs r=some o/\bx pages o=true/\∀p,RH o p↔RH xs p\/(r.At<=p/\p<r.At+r.Len):=by
 obtain⟨k,d,l⟩:=fh.1 h;have b:rangeIn pages r=true:=by unfold rangeIn;rw[C0];omega
 unfold bX;rw[C8 ⟨h,b⟩];obtain⟨o,n,f,g,q⟩:=uq pages xs r [] k j.2.1 (λy a=>by
   have:=d y a;unfold ovl;rw[Y3];intro i;by_cases e:r.At<=y.At
   · exact c y.At e i.1 ⟨y,a,ω,ω⟩
   · exact c r.At ω ω ⟨y,a,ω,i.2⟩) (λz t=>by cases t) ⟨List.Pairwise.nil,λy a=>by cases a⟩ (λy a=>by
   rcases List.mem_cons.1 a with rfl|a
   · omega
   · have:=d y (by simpa using a);omega)
 refine⟨o,n,fh.2 ⟨f,λy a=>⟨(g y a).1,f.2 y a,(g y a).2⟩,l⟩,λp=>?_⟩;rw[q];unfold RH;simp
structure Pg(t:aG)(fr:List ay)(sp:List au)(la:List ax):Prop where
 one:∀l∈la,∀p:Nat,(p:Int)∈lpgs l l.Pages.toNat->∀q:Nat,q<t.Entries.length->(nth t.Entries q).Mode≠0->(nth t.Entries q).Frame=(nth t.Entries p).Frame->q=p
 bnd:∀p∈pgs sp la,p<t.Entries.length
 own:∀p:Nat,p<t.Entries.length->((nth t.Entries p).Mode≠0↔(p:Int)∈pgs sp la)
 fre:∀p:Nat,p<t.Entries.length->((nth t.Entries p).Mode≠0↔¬RH fr p)
 mesh:∀s∈sp,∀u∈sp,s.Page≠u.Page->(nth t.Entries s.Page.toNat).Frame=(nth t.Entries u.Page.toNat).Frame->meshable s u=true
structure bn(h:ab)(E:List Int):Prop where
 ker:aB h.Kernel=true
 rng:bx (dU h) h.Free=true
 lay:bg h.Spans h.Larges=true
 srs:h.Spans.Pairwise λa b=>a.Page<b.Page
 srl:h.Larges.Pairwise λa b=>a.Page<b.Page
 pg:Pg (tbl h) h.Free h.Spans h.Larges
 mail:b6 h.Mail=true
 nc:h.Caches.length=h.Mail.Buffers.length
 quar:fj h.Quar=true
 snc:∀x∈h.Quar.Lst,x.Since<=h.Clock
 cach:∀c∈h.Caches,bo c=true
 nums:cm h=true
 osr:h.Objs.Pairwise λa b=>a.Addr<b.Addr
 onu:∀o∈h.Objs,1<=o.Id/\o.Id<=h.Next - 1/\0<=o.Thread/\o.Thread<=h.Caches.length - 1
 oid:(h.Objs.map (·.Id)).Nodup
 oow:∀o∈h.Objs,KE h.Spans h.Larges o
 hca:∀c∈h.Caches,∀k:Nat,k<c.Lists.length->∀a∈nth c.Lists k,jd h.Spans a k
 hqu:∀x∈h.Quar.Lst,jd h.Spans x.Addr x.Class
 hfl:∀a∈aO h.Mail,jd h.Spans a (-1)
 hin:∀a∈E,jd h.Spans a (-1)
 nd:(E++holders h).Nodup
 mem:∀a,a∈E++holders h↔lr h.Spans h.Larges a
 job:h.Meshing=true->iY h.Job=true/\(∃s∈h.Spans,s.Page=h.Job.Plan.Keep)/\∃s∈h.Spans,s.Page=h.Job.Plan.Move
 noj:h.Meshing=false->qG h.Job=true
theorem bn.L{h:ab}{E:List Int}(a:bn h E):ri h.Spans h.Larges:=ri.of a.lay
theorem xn(t:aG)(f:Int):(pagesOn t f).Nodup:=by
 unfold pagesOn jc List.Nodup;rw[List.pairwise_map];exact(List.nodup_range.sublist List.filter_sublist).imp λh e=>h ω
theorem Mc{l:List Int}{a:Int}(b:l.Nodup)(d:a∈l)(c:∀x∈l,x=a):l.length=1:=by
 match l with
 | []=>cases d
 | [_]=>rfl
 | x::y::r=>
  exfalso;have e:=c x (by simp);have f:=c y (by simp);rw[e,f]at b;simp at b
theorem d3{sp:List au}{la:List ax}{s:au}(a:s∈sp):s.Page∈pgs sp la:=by
 unfold pgs;exact Q2.2 (.inl (U3.2 ⟨s,a,rfl⟩))
theorem fw{sp:List au}{la:List ax}{l:ax}(a:l∈la){p:Int}(b:p∈lpgs l l.Pages.toNat):p∈pgs sp la:=by
 unfold pgs;exact Q2.2 (.inr (List.mem_flatMap.2 ⟨l,a,b⟩))
theorem PB{h:ab}(n:bg h.Spans h.Larges=true)(P:bx (dU h) h.Free=true)(J:pages0 h=true)(t:mT h=true):Pg (tbl h) h.Free h.Spans h.Larges:=by
 have Q:=ri.of n;obtain⟨R,y,K⟩:=ry J;have S:∀p:Nat,p<dU h->((nth (tbl h).Entries p).Mode≠0↔¬RH h.Free p):=λp a=>by
  have d:=J;unfold pages0 at d;simp only[I0]at d;have A:=dM d.2 a;unfold ue at A;rw[I0]at A;have L:=A.2;rw[<-B0 P];cases e:h.Free.any (pV (p:Int))<;>rw[e]at L<;>simpa using L
 refine⟨λl B p f q T C D=>?_,y,K,S,λs U u V E M=>?_⟩
 ·obtain⟨i,o,rfl⟩:=bf B
  obtain⟨k,w,F⟩:=df.1 f;have a:p<dU h:=by have:=y _ (fw (sp:=h.Spans) B f);omega
  have r:=(K p a).2 (fw B f);have b:=R i o k w;rw[<-F,eD a r]at b;have N:(p:Int)∈pagesOn (tbl h) (nth (tbl h).Entries p).Frame:=d8.2 ⟨a,r,rfl⟩;have O:(q:Int)∈pagesOn (tbl h) (nth (tbl h).Entries p).Frame:=d8.2 ⟨T,C,D⟩;obtain⟨z,W⟩:=List.length_eq_one_iff.1 b;rw[W]at N O;simp only[Z0]at N O;omega
 ·obtain⟨i,o,rfl⟩:=bf U
  obtain⟨j,G,rfl⟩:=bf V;have c:∀k,k<h.Spans.length->ar (tbl h) (nth h.Spans k).Page=nth (tbl h).Entries (nth h.Spans k).Page.toNat:=λk w=>by
   have X:=aF (Q.sok _ (am w));have Y:=y _ (d3 (la:=h.Larges) (am w));rw[show(nth h.Spans k).Page=(((nth h.Spans k).Page.toNat:Nat):Int) by omega];exact wN ω
  unfold mT at t;rw[ce]at t;rcases Nat.lt_trichotomy i j with g|H|g
  ·have b:=dM (t j G) g
   unfold ke at b;rw[c i o,c j G,t5,C0]at b;rw[iM];exact b.resolve_left λe=>e M.symm
  ·subst H;exact absurd rfl E
  ·have b:=dM (t i o) g
   unfold ke at b;rw[c i o,c j G,t5,C0]at b;exact b.resolve_left λe=>e M
theorem yH(sp:List au):cL sp.length (uV sp)=true↔sp.Pairwise λa b=>a.Page<b.Page:=by
 rw[ce];refine Iff.trans ?_ (ur (λa b:Int=>a<b) (λa b c=>Int.lt_trans) (λs:au=>s.Page) sp);unfold uV;simp only[C0]
theorem yK(la:List ax):cL la.length (v8 la)=true↔la.Pairwise λa b=>a.Page<b.Page:=by
 rw[ce];refine Iff.trans ?_ (ur (λa b:Int=>a<b) (λa b c=>Int.lt_trans) (λs:ax=>s.Page) la);unfold v8;simp only[C0]
theorem P6{h:ab}(r:bg h.Spans h.Larges=true)(D:bx (dU h) h.Free=true)(h1:h.Spans.Pairwise λa b=>a.Page<b.Page)(E:h.Larges.Pairwise λa b=>a.Page<b.Page)(c:Pg (tbl h) h.Free h.Spans h.Larges):pages0 h=true/\mT h=true:=by
 have A:=ri.of r;constructor
 ·unfold pages0
  simp only[I0];refine⟨⟨⟨(yH _).2 h1,ce.2 λi o=>?_⟩,O3.2 λp d=>O0 (c.bnd p d)⟩,ce.2 λp d=>?_⟩
  ·unfold qk
   rw[I0];refine⟨dM ((yK _).2 E) o,ce.2 λk w=>?_⟩;have y:=am o;have L:=aS (A.lok _ y);obtain⟨p,d⟩ : ∃p:Nat,(nth h.Larges i).Page+(k:Nat)=(p:Nat):=⟨((nth h.Larges i).Page+k).toNat,ω⟩
   have g:(p:Int)∈lpgs (nth h.Larges i) (nth h.Larges i).Pages.toNat:=df.2 ⟨k,w,d.symm⟩;have l:p<dU h:=by have:=c.bnd _ (fw (sp:=h.Spans) y g);exact Int.ofNat_lt.1 this
   have t:=(c.own p l).2 (fw y g);unfold vG;rw[C0,d,eD l t];refine Mc (xn ..) (d8.2 ⟨l,t,rfl⟩) λx C=>?_
   obtain⟨q,rfl⟩:=t6 C;obtain⟨F,G,H⟩:=d8.1 C;rw[c.one _ y p g q F G H]
  ·unfold ue
   rw[I0,C0];refine⟨c.own p d,?_⟩;have B:=c.fre p d;rw[<-B0 D]at B;cases e:h.Free.any (pV (p:Int))<;>rw[e]at B<;>simpa using B
 ·unfold mT
  refine ce.2 λi o=>ce.2 λj M=>?_
  have n:j<h.Spans.length:=ω
  have u:∀k,k<h.Spans.length->ar (tbl h) (nth h.Spans k).Page=nth (tbl h).Entries (nth h.Spans k).Page.toNat:=λk w=>by
   have N:=aF (A.sok _ (am w));have J:=c.bnd _ (d3 (la:=h.Larges) (am w));rw[show(nth h.Spans k).Page=(((nth h.Spans k).Page.toNat:Nat):Int) by omega];exact wN (by unfold dU;unfold tbl at J;omega)
  unfold ke;rw[u i o,u j n,t5,C0];by_cases e:(nth (tbl h).Entries (nth h.Spans i).Page.toNat).Frame=(nth (tbl h).Entries (nth h.Spans j).Page.toNat).Frame
  ·refine .inr (c.mesh _ (am o) _ (am n) (λK=>?_) e)
   have:=gG (f:=(·.Page)) A.nd o n K;omega
  ·exact .inl e
theorem B1{h:ab}(n:cm h=true)(q:ri h.Spans h.Larges):fe h=true↔(h.Objs.Pairwise λa b=>a.Addr<b.Addr)/\(∀o∈h.Objs,1<=o.Id/\o.Id<=h.Next - 1/\0<=o.Thread/\o.Thread<=h.Caches.length - 1)/\(h.Objs.map (·.Id)).Nodup/\∀o∈h.Objs,KE h.Spans h.Larges o:=by
 unfold cm at n;rw[C0]at n;refine Iff.trans ?_ (and_congr (ur (λa b:Int=>a<b) (λa b c=>Int.lt_trans) (λo:bm=>o.Addr) h.Objs) (and_congr Iff.rfl (and_congr (yq (λo:bm=>o.Id) h.Objs) Iff.rfl)));unfold fe;rw[eS ω ω,ce];have p:∀i,i<h.Objs.length->(objAt (h.Next - 1) h i=true↔(i=0\/(nth h.Objs (i - 1)).Addr<(nth h.Objs i).Addr)/\(1<=(nth h.Objs i).Id/\(nth h.Objs i).Id<=h.Next - 1/\0<=(nth h.Objs i).Thread/\(nth h.Objs i).Thread<=h.Caches.length - 1)/\(∀o∈h.Objs.take i,o.Id≠(nth h.Objs i).Id)/\KE h.Spans h.Larges (nth h.Objs i)):=λi d=>by
  unfold objAt gH;rw[I0,I0,C0,Le q,Bool.not_eq_true',List.any_eq_false];simp only[ku,C0];constructor
  ·rintro⟨⟨⟨e,f⟩,g⟩,j⟩;exact⟨e,f,g,j⟩
  ·rintro⟨e,f,g,j⟩;exact⟨⟨⟨e,f⟩,g⟩,j⟩
 constructor
 ·intro r
  have k:=λi d=>(p i d).1 (r i d)
  refine⟨λi d=>(k i d).1,λo l=>?_,λi d=>(k i d).2.2.1,λo l=>?_⟩
  ·obtain⟨i,d,rfl⟩:=bf l;exact(k i d).2.1
  ·obtain⟨i,d,rfl⟩:=bf l;exact(k i d).2.2.2
 ·rintro⟨e,f,g,j⟩ i d
  exact(p i d).2 ⟨e i d,f _ (am d),g i d,j _ (am d)⟩
theorem wI{h:ab}(b:ri h.Spans h.Larges):gF h=true↔(∀c∈h.Caches,∀k:Nat,k<c.Lists.length->∀a∈nth c.Lists k,jd h.Spans a k)/\(∀x∈h.Quar.Lst,jd h.Spans x.Addr x.Class)/\∀a∈aO h.Mail,jd h.Spans a (-1):=by
 rw[k6];simp only[O3,ee,ce,qS,gv,jw,J0 b,and_assoc]
theorem zO{p:Int}{h:ab} : 0<=fY h p↔∃s∈h.Spans,s.Page=p:=by
 unfold fY;rw[show(0<=cX (jm p) h.Spans)↔(decide (cX (jm p) h.Spans≥0)=true) by simp,lG,I3];simp[jm]
theorem bn.of{h:ab}(n:fo h=true):bn h []:=by
 unfold fo kR at n;simp only[I0]at n;obtain⟨⟨⟨⟨⟨⟨⟨⟨⟨⟨B,t⟩,k⟩,o⟩,u⟩,f⟩,w⟩,C⟩,y⟩,d,e⟩,b⟩:=n;have g:=ri.of k;rw[rZ k o]at u;have l:=o;unfold pages0 at l;simp only[I0]at l;unfold cZ at f;simp only[I0,C0]at f;unfold iz at e;simp only[I0,C0]at e;obtain⟨⟨p,A⟩,O⟩:=e;obtain⟨D,E,F,G⟩:=(B1 y g).1 d;obtain⟨H,J,K⟩:=(wI g).1 p;unfold jI at w;have q:=ce.1 l.1.1.2;refine⟨B,t,k,(yH _).1 l.1.1.1,(yK _).1 (ce.2 λi L=>?_),PB k t o u,f.1.1,f.1.2,f.2,λx M=>by simpa using O3.1 w x M,λc N=>O3.1 C c N,y,D,E,F,G,H,J,K,λa j=>(by cases j),(by simpa using A),λa=>?_,λr=>?_,λr=>?_⟩
 ·have:=q i L
  unfold qk at this;rw[I0]at this;exact this.1
 ·rw[List.nil_append,<-Dl g]
  exact⟨λj=>jA g d p a j,λj=>pD A (jA g d p) ω a j⟩
 ·unfold pz at b
  rw[C8 r]at b;simp only[I0,C0,zO]at b;exact⟨b.1.1,b.1.2,b.2⟩
 ·unfold pz at b
  rw[C7 (by rw[r];simp)]at b;exact b
theorem bn.to{h:ab}(b:bn h []):fo h=true:=by
 have d:=b.L;obtain⟨g,j⟩:=P6 b.lay b.rng b.srs b.srl b.pg;have e:=(B1 b.nums d).2 ⟨b.osr,b.onu,b.oid,b.oow⟩;have f:=(wI d).2 ⟨b.hca,b.hqu,b.hfl⟩;unfold fo kR;simp only[I0];refine⟨⟨⟨⟨⟨⟨⟨⟨⟨⟨b.ker,b.rng⟩,b.lay⟩,g⟩,by rw[rZ b.lay g];exact j⟩,?_⟩,?_⟩,O3.2 b.cach⟩,b.nums⟩,e,?_⟩,?_⟩
 ·unfold cZ
  rw[b.mail,b.quar,O0 b.nc];rfl
 ·unfold jI
  exact O3.2 λx k=>O0 (b.snc x k)
 ·unfold iz
  have i:(holders h).Nodup:=by simpa using b.nd
  have c:∀a,a∈holders h↔a∈im h.Spans h.Larges:=λa=>by rw[Dl d,<-b.mem a];simp
  have l:(holders h).Perm (im h.Spans h.Larges):=(List.perm_ext_iff_of_nodup i (n8 ..)).2 c;rw[f,O0 i,O0 l.length_eq];rfl
 ·unfold pz
  cases c:h.Meshing with
  | true=>
   obtain⟨n,o,p⟩:=b.job c;rw[C8 rfl,n,O0 (zO.2 o),O0 (zO.2 p)];rfl
  | false=>rw[C7 (by simp)];exact b.noj c
end Go.Proofs.YtembpgjjnioagaaGreat.Ab
