/- The pages of a heap: the contracts of l27Pages, l27Meshed (the reference's) and pagesOk (the program's). No condition. -/
import Derived.Test.YtembpgjjnioagaaGreatJd
import Derived.Test.YtembpgjjnioagaaGreatJShelf
import Derived.WalkKit
import Derived.Lib.SliceRun
set_option linter.unusedVariables false
set_option linter.unusedSimpArgs false
set_option linter.constructorNameAsVariable false
namespace Go.Proofs.YtembpgjjnioagaaGreat.Ab
open Go.RowKit
set_option maxRecDepth 20000
set_option maxHeartbeats 8000000
theorem di{sp:List au}{la:List ax}(h:bj sp la=true):sp.all bg=true/\la.all bS=true/\(pgs sp la).Nodup:=by
 unfold bj at h;simp only[I0,C0]at h;exact⟨h.1.1,h.1.2,h.2⟩
theorem M7{α:Type}[Inhabited α]{xs:List α}{p:α->Bool}{i:Nat}(h:xs.all p=true)(a:i<xs.length):p (nth xs i)=true:=V3.1 h _ (am a)
theorem Da{h:ab}(h1:cK h.Spans.length (vX h.Spans)=false):pages0 h=false:=by unfold pages0;rw[h1];rfl
theorem rq{h:ab}(h1:cK h.Larges.length (qr h)=false):pages0 h=false:=by unfold pages0;rw[h1];simp
theorem D0{h:ab}{p:Int}(h1:p∈pgs h.Spans h.Larges)(a:¬p<dQ h):pages0 h=false:=by
 have:((pgs h.Spans h.Larges).all λp=>decide (p<dQ h))=false:=List.all_eq_false.2 ⟨p,h1,by simpa using a⟩;unfold pages0;rw[this];simp
theorem BC{h:ab}(h1:cK (dQ h) (ue h)=false):pages0 h=false:=by unfold pages0;rw[h1];simp
theorem vC{h:ab}(h1:cK h.Spans.length (vX h.Spans)=true)(a:cK h.Larges.length (qr h)=true)(b:∀p∈pgs h.Spans h.Larges,p<dQ h)(c:cK (dQ h) (ue h)=true):pages0 h=true:=by
 have:((pgs h.Spans h.Larges).all λp=>decide (p<dQ h))=true:=V3.2 λp d=>O0 (b p d)
 unfold pages0;rw[h1,a,c,this];rfl
theorem LR{h:ab}{i:Nat}(h1:xh h.Larges i=false):qr h i=false:=by unfold qr;rw[h1];rfl
theorem K3{h:ab}{i k:Nat}(a:k<(nth h.Larges i).Pages.toNat)(h1:vJ h (nth h.Larges i) k=false):qr h i=false:=by unfold qr;rw[cj a h1];simp
theorem BT{h:ab}{i:Nat}(h1:xh h.Larges i=true)(a:cK (nth h.Larges i).Pages.toNat (vJ h (nth h.Larges i))=true):qr h i=true:=by unfold qr;rw[h1,a];rfl
theorem gz(h:ab)(p:Int):(aT h p).length<=dQ h:=by
 unfold aT;split
 ·simp
 ·exact pY ..
theorem rH{sp:List au}{la:List ax}(h:bj sp la=true){i:Nat}{l:ax}(a:la[i]? = some l):1<=l.Pages/\l.Pages<=63/\0<=l.Page/\l.Page<=31:=
 aU (V3.1 (di h).2.1 l (U1 a))
theorem Dk(h:ab)(G:dy h.Spans)(H:dx h.Larges)(l:yb h)(J:fW h.Free)(n:bj h.Spans h.Larges=true):ao Tryz.prog 204 false [.val (some 24) (ab.enc .imm h)] .one [B (pages0 h)]:=by
 have Z:=G.1;have hl2:=H.1;have hl3:dQ h<=1048576:=l.1;have hl4:=J.1;refine fO 144 [(7,18,[28,29,30,31,32,33,34,35,36,37,38,39,40,41,42,43,44,45]),(13,18,[62,63,64,65,66,67,68,69,70,71,72,73,74,75,76,77,78,79])] Tryz.func204 rfl ?_
 repeat'(first|refine gO ?_|fail)
 (conv=>whnf)
 refine CE (ι:=Nat × List Int) (λi=>[(1,.hold .box (ab.enc .imm h)),(3,.hold .box (aG.enc .imm (tbl h))),(4,.hold .one [I (dQ h)]),(5,.hold .one (aD .own i.2)),(6,.hold .one [I ((i.1:Nat):Int)])]) (λi=>i.1<=h.Spans.length/\i.2=(h.Spans.take i.1).map (·.Page)/\cK i.1 (vX h.Spans)=true) (λi=>h.Spans.length - i.1) ((0,[])) ?_ (⟨T0 _,rfl,rfl⟩) λi K=>?_
 ·exact wB
 obtain⟨i,S⟩:=i;obtain⟨K,o,L⟩:=K;simp only at K o L |-;have hSl:S.length=i:=by rw[o,X0,O1];omega
 by_cases M:i<h.Spans.length
 ·have c:=ah M
  repeat'(first|refine gD ?_|(conv=>whnf);first|with_reducible (first|refine CB (aa c) ?_|refine Bf.D (λa=>?_) (λa=>?_))|refine CK ω (aa (fT ω M)) ?_|refine CP bV (λr t=>by rw[C1.1 t];rfl) (by simp[aV,dz]) (by simp;omega) (by simp only[X0];exact wi (by simp;omega) (by decide)) rfl ?_)
  all_goals first
   | exact U0 (λz=>[B z]) ((Da (cj M (R0 ω))).symm)
   | ((conv=>whnf)
      refine CC (i+1,S++[(nth h.Spans i).Page]) ⟨(by simp only;omega),(by simp only;rw[o,Z4,c];simp),bM L (O0 ω)⟩ (by simp only;omega) ?_
      (repeat'(first|exact trivial|rfl|exact CI rfl (CI (U0 (C.s du.own) (by simp[rI])) trivial)|refine CI ?_ ?_)))
 ·obtain rfl:i=h.Spans.length:=ω
  rw[V4]at o
  repeat'(first|refine gD ?_|fail)
  (conv=>whnf)
  refine CE (ι:=Nat × List Int) (λk=>[(1,.hold .box (ab.enc .imm h)),(3,.hold .box (aG.enc .imm (tbl h))),(4,.hold .one [I (dQ h)]),(5,.hold .one (aD .own k.2)),(7,.hold .one [I ((k.1:Nat):Int)])]) (λk=>k.1<=h.Larges.length/\k.2=pgs h.Spans (h.Larges.take k.1)/\cK k.1 (qr h)=true/\k.2.length<=1048576+64*k.1) (λk=>h.Larges.length - k.1) ((0,S)) ?_ (⟨T0 _,by rw[o];unfold pgs;simp,rfl,by simp only;omega⟩) λk O=>?_
  ·exact wB
  obtain⟨k,S2⟩:=k;obtain⟨O,b,Q,R⟩:=O;simp only at O b Q R |-;by_cases y:k<h.Larges.length
  ·have c:=ah y
   have hpg:=rH n c
   repeat'(first|refine gD ?_|(conv=>whnf);first|with_reducible (first|refine CB (aa c) ?_|refine Bf.D (λa=>?_) (λa=>?_))|refine CK ω (aa (fT ω y)) ?_)
   all_goals first
    | exact U0 (λz=>[B z]) ((rq (cj y (LR (R0 ω)))).symm)
    |have e:xh h.Larges k=true:=O0 ω
     (conv=>whnf)
     refine CE (ι:=Nat × List Int) (λq=>[(1,.hold .box (ab.enc .imm h)),(3,.hold .box (aG.enc .imm (tbl h))),(4,.hold .one [I (dQ h)]),(5,.hold .one (aD .own q.2)),(7,.hold .one [I ((k:Nat):Int)]),(8,.hold .one [I ((q.1:Nat):Int)])]) (λq=>q.1<=(nth h.Larges k).Pages.toNat/\q.2=S2++lpgs (nth h.Larges k) q.1/\cK q.1 (vJ h (nth h.Larges k))=true) (λq=>(nth h.Larges k).Pages.toNat - q.1) ((0,S2)) ?_ (⟨T0 _,by simp[lpgs],rfl⟩) λq a=>?_
     ·exact wB
     obtain⟨q,T⟩:=q;obtain⟨U,d,g⟩:=a;simp only at U d g |-;have W:T.length=S2.length+q:=by rw[d,v3,DY]
     by_cases E:q<(nth h.Larges k).Pages.toNat
     ·have hfl:=gz h ((nth h.Larges k).Page+(q:Nat))
      repeat'(first|refine gD ?_|(conv=>whnf);first|with_reducible (first|refine CB (aa c) ?_|refine Bf.N (λa=>?_) (λa=>?_))|refine C7 (gK h _ l) ?_|refine CP bV (λr t=>by rw[C1.1 t];rfl) (by simp[aV,dz]) (by simp;omega) (by show _*8<=_;simp;omega) rfl ?_)
      all_goals first
       | exact U0 (λz=>[B z]) ((rq (cj y (K3 E (R0 ω)))).symm)
       | ((conv=>whnf)
          refine CC (q+1,T++[(nth h.Larges k).Page+(q:Nat)]) ⟨(by simp only;omega),(by simp only;rw[d,jS,t5]),bM g (O0 ω)⟩ (by simp only;omega) ?_
          (repeat'(first|exact trivial|rfl|exact CI rfl (CI (U0 (C.s du.own) (by simp[rI])) trivial)|refine CI ?_ ?_)))
     ·obtain rfl:q=(nth h.Larges k).Pages.toNat:=ω
      repeat'(first|refine gD ?_|(conv=>whnf);first|with_reducible refine CB (aa c) ?_)
      ((conv=>whnf);refine CC (k+1,T) ⟨(by simp only;omega),(by simp only;rw[d,b,<-nS _ c]),bM Q (BT e g),(by simp only;omega)⟩ (by simp only;omega) ?_;(exact wB))
  ·obtain rfl:k=h.Larges.length:=ω
   rw[V4]at b
   repeat'(first|refine gD ?_|fail)
   (conv=>whnf)
   refine CE (ι:=Nat) (λq=>[(1,.hold .box (ab.enc .imm h)),(3,.hold .box (aG.enc .imm (tbl h))),(4,.hold .one [I (dQ h)]),(5,.hold .one (aD .own S2)),(10,.hold .one [I ((q:Nat):Int)])]) (λq=>q<=S2.length/\∀j,j<q->nth S2 j<dQ h) (λq=>S2.length - q) (0) ?_ (⟨T0 _,λj F=>ω⟩) λq a=>?_
   ·exact wB
   obtain⟨a,g⟩:=a;by_cases E:q<S2.length
   ·have c:=ah E
    repeat'(first|refine gD ?_|(conv=>whnf);first|with_reducible (first|refine CB (aa c) ?_|refine Bf.D (λa=>?_) (λa=>?_))|refine CG rfl (aa c) rfl ?_)
    all_goals first
     | exact U0 (λz=>[B z]) ((D0 (by rw[<-b];exact am E) ω).symm)
     | ((conv=>whnf);refine CC (q+1) ⟨ω,λj F=>by rcases Nat.lt_or_ge j q with V|V;exact g j V;(obtain rfl:j=q:=ω);omega⟩ ω ?_;(exact wB))
   ·have u:∀p∈pgs h.Spans h.Larges,p<dQ h:=λp w=>by
     rw[<-b]at w;obtain⟨j,F⟩:=List.mem_iff_getElem?.1 w;have V:=(C2.1 F).1;have:=g j ω
     rwa [bu F]at this
    repeat'(first|refine gD ?_|fail)
    (conv=>whnf)
    refine CE (ι:=Nat) (λp=>[(1,.hold .box (ab.enc .imm h)),(3,.hold .box (aG.enc .imm (tbl h))),(4,.hold .one [I (dQ h)]),(5,.hold .one (aD .own S2)),(11,.hold .one [I ((p:Nat):Int)])]) (λp=>p<=dQ h/\cK p (ue h)=true) (λp=>dQ h - p) 0 ?_ ⟨T0 _,rfl⟩ λp w=>?_
    ·exact wB
    obtain⟨w,X⟩:=w;by_cases Y:p<dQ h
    ·have c:=ah (xs:=(tbl h).Entries) Y
     have t:=xN h.Free (p:Nat) ω
     repeat'(first|refine gD ?_|(conv=>whnf);first|with_reducible (first|refine CB (aa c) ?_|refine Bf.D (λa=>?_) (λa=>?_)|refine Bf.NB (λa=>?_) (λa=>?_))|refine CD (lw S2 _ ω) ⟨⟨rfl,eB _⟩,⟨rfl,rfl⟩,trivial⟩ ?_|refine C7 t ?_|refine Bf.P (λa=>?_) (λa=>?_))
     all_goals first
      | exact U0 (λz=>[B z]) ((BC (cj Y (by unfold ue;rw[<-b];grind))).symm)
      | ((conv=>whnf);refine CC (p+1) ⟨ω,bM X (by unfold ue;rw[<-b];grind)⟩ ω ?_;(exact wB))
    ·repeat'(first|refine gD ?_|fail)
     obtain rfl:p=dQ h:=ω
     exact U0 (λz=>[B z]) ((vC L Q u X).symm)
set_option maxHeartbeats 8000000
theorem xv{z1 z2:Int}(h:z1=z2):M6 (I z1) (I z2):=by subst h;rfl
theorem GW{S:List Int}{p z:Int} : z∈ins S p↔z∈S\/z=p:=by
 unfold ins;split
 ·rename_i a
  exact⟨.inl,λh=>h.elim id λe=>e ▸ a⟩
 ·simp
theorem w7(S:List Int):(eU S).map (·.1)=S:=by unfold eU;rw[List.map_map];simp[z5]
theorem kW{t:aG}{p:Nat}(a:p<t.Entries.length):ar t (p:Nat)=nth t.Entries p:=by
 unfold ar;rw[C9 ω];simp
theorem AB(h:ab)(Q:dy h.Spans)(R:dx h.Larges)(l:yb h)(T:fW h.Free)(G:bj h.Spans h.Larges=true):ao Tryz.prog 69 false [.val (some 24) (ab.enc .imm h)] .one [B (pages0 h&&mW h)]:=by
 have hl1:=Q.1;have hl2:=R.1;have hl3:dQ h<=1048576:=l.1;have hl4:=T.1;have d:pages0 h=false->[B false]=[B (pages0 h&&mW h)]:=λe=>by rw[e];rfl
 refine fO 177 [(4,14,[25,26,27,28,29,30,31,32,33,34,35,36,37,38]),(16,14,[60,61,62,63,64,65,66,67,68,69,70,71,72,73]),(28,18,[102,103,104,105,106,107,108,109,110,111,112,113,114,115,116,117,118,119]),(42,23,[152,153,154,155,156,157,158,159,160,161,162,163,164,165,166,167,168,169,170,171,172,173,174])] Tryz.func69 rfl ?_
 repeat'(first|refine gO ?_|fail)
 (conv=>whnf)
 refine CE (ι:=Nat) (λi=>[(1,.hold .box (ab.enc .imm h)),(18,.hold .one (cr .imm h.Spans)),(19,.hold .one [I (h.Spans.length)]),(20,.hold .one [I ((i:Nat):Int)])]) (λi=>i<=h.Spans.length/\cK i (vX h.Spans)=true) (λi=>h.Spans.length - i) 0 ?_ ⟨T0 _,rfl⟩ λi o=>?_
 ·exact wB
 obtain⟨o,H⟩:=o;by_cases F:i<h.Spans.length
 ·have g:=ah F
  repeat'(first|refine gD ?_|(conv=>whnf);first|with_reducible (first|refine CB (aa g) ?_|refine Bf.D (λa=>?_) (λa=>?_))|refine CK ω (aa (fT ω F)) ?_)
  all_goals first
   |exact d (Da (cj F (R0 ω)))
   | ((conv=>whnf);refine CC (i+1) ⟨ω,bM H (O0 ω)⟩ ω ?_;(exact wB))
 obtain rfl:i=h.Spans.length:=ω
 repeat'(first|refine gD ?_|fail)
 (conv=>whnf)
 refine CE (ι:=Nat × List Int) (λi=>[(1,.hold .box (ab.enc .imm h)),(5,.hold .one [.m (eU i.2)]),(42,.hold .one (cr .imm h.Spans)),(43,.hold .one [I (h.Spans.length)]),(44,.hold .one [I ((i.1:Nat):Int)])]) (λi=>i.1<=h.Spans.length/\∀z,z∈i.2↔z∈(h.Spans.take i.1).map (·.Page)) (λi=>h.Spans.length - i.1) ((0,[])) ?_ (⟨T0 _,λz=>Iff.rfl⟩) λi o=>?_
 ·exact wB
 obtain⟨i,S⟩:=i;obtain⟨U,L⟩:=o;simp only at U L |-;by_cases li2:i<h.Spans.length
 ·have g:=ah li2
  repeat'(first|refine gD ?_|(conv=>whnf);first|with_reducible refine CB (aa g) ?_|refine Mu.mk (xt S _) ?_)
  ((conv=>whnf);refine CC (i+1,ins S (nth h.Spans i).Page) ⟨(by simp only;omega),λz=>by simp only[GW,L];rw[Z4,g];simp⟩ (by simp only;omega) ?_;(exact wB))
 obtain rfl:i=h.Spans.length:=ω
 rw[V4]at L
 repeat'(first|refine gD ?_|fail)
 (conv=>whnf)
 refine CE (ι:=Nat × List Int) (λk=>[(1,.hold .box (ab.enc .imm h)),(5,.hold .one [.m (eU k.2)]),(53,.hold .one (bQ .imm h.Larges)),(54,.hold .one [I (h.Larges.length)]),(55,.hold .one [I ((k.1:Nat):Int)])]) (λk=>k.1<=h.Larges.length/\(∀z,z∈k.2↔z∈pgs h.Spans (h.Larges.take k.1))/\cK k.1 (qr h)=true) (λk=>h.Larges.length - k.1) ((0,S)) ?_ (⟨T0 _,λz=>by simp only[L];unfold pgs;simp,rfl⟩) λk V=>?_
 ·exact wB
 obtain⟨k,S2⟩:=k;obtain⟨V,b,W⟩:=V;simp only at V b W |-;by_cases M:k<h.Larges.length
 ·have g:=ah M
  have hpg:=rH G g
  repeat'(first|refine gD ?_|(conv=>whnf);first|with_reducible (first|refine CB (aa g) ?_|refine Bf.D (λa=>?_) (λa=>?_))|refine CK ω (aa (fT ω M)) ?_)
  all_goals first
   |exact d (rq (cj M (LR (R0 ω))))
   |have u:xh h.Larges k=true:=O0 ω
    (conv=>whnf)
    refine CE (ι:=Nat × List Int) (λq=>[(1,.hold .box (ab.enc .imm h)),(5,.hold .one [.m (eU q.2)]),(9,.hold .box (ax.enc .imm (nth h.Larges k))),(10,.hold .one [I ((nth h.Larges k).Page+(q.1:Nat))]),(53,.hold .one (bQ .imm h.Larges)),(54,.hold .one [I (h.Larges.length)]),(55,.hold .one [I ((k:Nat):Int)])]) (λq=>q.1<=(nth h.Larges k).Pages.toNat/\(∀z,z∈q.2↔z∈S2++lpgs (nth h.Larges k) q.1)/\cK q.1 (vJ h (nth h.Larges k))=true) (λq=>(nth h.Larges k).Pages.toNat - q.1) ((0,S2)) ?_ (⟨T0 _,λz=>by simp[lpgs],rfl⟩) λq a=>?_
    ·exact wB
    obtain⟨q,X⟩:=q;obtain⟨Y,w,Z⟩:=a;simp only at Y w Z |-;by_cases lq:q<(nth h.Larges k).Pages.toNat
    ·have hfl:=gz h ((nth h.Larges k).Page+(q:Nat))
     repeat'(first|refine gD ?_|(conv=>whnf);first|with_reducible refine Bf.N (λa=>?_) (λa=>?_)|refine C7 (uf h _ l) ?_|refine Mu.mk (xt X _) ?_)
     all_goals first
      |exact d (rq (cj M (K3 lq (R0 ω))))
      | ((conv=>whnf)
         refine CC (q+1,ins X ((nth h.Larges k).Page+(q:Nat))) ⟨(by simp only;omega),λz=>by simp only[GW,w];rw[jS];simp[or_assoc],bM Z (O0 ω)⟩ (by simp only;omega) ?_
         (repeat'(first|exact trivial|rfl|refine CI ?_ ?_|exact xv (by simp;omega))))
    ·obtain rfl:q=(nth h.Larges k).Pages.toNat:=ω
     repeat'(first|refine gD ?_|fail)
     ((conv=>whnf);refine CC (k+1,X) ⟨(by simp only;omega),(λz=>by simp only[w];rw[nS _ g];simp[b]),bM W (BT u Z)⟩ (by simp only;omega) ?_;(exact wB))
 obtain rfl:k=h.Larges.length:=ω
 rw[V4]at b
 repeat'(first|refine gD ?_|fail)
 (conv=>whnf)
 refine CE (ι:=Nat) (λp=>[(1,.hold .box (ab.enc .imm h)),(5,.hold .one [.m (eU S2)]),(98,.hold .one [I (dQ h)]),(99,.hold .one [I ((p:Nat):Int)])]) (λp=>p<=dQ h/\cK p (ue h)=true) (λp=>dQ h - p) 0 ?_ ⟨T0 _,rfl⟩ λp O=>?_
 ·exact wB
 obtain⟨O,ap⟩:=O;by_cases lp:p<dQ h
 ·have hr:=yj h.Free (p:Nat) ω
  have J:=tz h.Kernel (p:Nat) l;rw[kW lp]at J
  repeat'(first|refine gD ?_|(conv=>whnf);first|with_reducible (first|refine Bf.D (λa=>?_) (λa=>?_)|refine Bf.NB (λa=>?_) (λa=>?_))|refine C7 J ?_|refine Ml.mk (mf (p:Nat) S2) ?_|refine C7 hr ?_|refine Bf.P (λa=>?_) (λa=>?_))
  all_goals first
   |exact d (BC (cj lp (by unfold ue tbl;have:=b (p:Nat);grind)))
   | ((conv=>whnf);refine CC (p+1) ⟨ω,bM ap (by unfold ue tbl;have:=b (p:Nat);grind)⟩ ω ?_;(exact wB))
 obtain rfl:p=dQ h:=ω
 repeat'(first|refine gD ?_|fail)
 have hpn:dQ h=h.Kernel.Machine.Table.Entries.length:=rfl
 (conv=>whnf)
 refine CE (ι:=Option Int × List Int) (λt=>[(1,.hold .box (ab.enc .imm h)),(122,.hold .one [.it t.1 t.2])]) (λt=>(∀z∈S2,z∈t.2\/z<dQ h)/\∀z∈t.2,z∈S2) (λt=>t.2.length) ((none,(eU S2).map (·.1))) ?_ (⟨λz n=>.inl (by rw[w7];exact n),λz n=>by rw[w7]at n;exact n⟩) λt ht=>?_
 ·exact wB
 obtain⟨cur,left⟩:=t;obtain⟨y,C⟩:=ht;simp only at y C |-
 repeat'(first|refine gO ?_|(conv=>whnf);first|with_reducible refine Bf.D (λa=>?_) (λa=>?_)|refine Nt.mk (λa=>?_) (λl1 k l2 a=>?_))
 rotate_left
 ·exact d (D0 (p:=k) ((b k).1 (C k (by subst left;simp))) ω)
 ·((conv=>whnf);refine CC (some k,l1++l2) ⟨λz n=>by have c:=y z n;subst left;simp only[W2,List.mem_cons]at c |-;rcases c with(c|c|c)|c;exact .inl (.inl c);(subst c;exact .inr ω);exact .inl (.inr c);exact .inr c,λz n=>C z (by subst left;simp only[W2,List.mem_cons]at n |-;grind)⟩ (by subst left;simp) ?_;(exact wB))
 have K:∀p∈pgs h.Spans h.Larges,p<dQ h:=λp O=>by
  have c:=y p ((b p).2 O);subst left;simpa using c
 have h0:pages0 h=true:=vC H W K ap;rw[h0,Bool.true_and]
 (conv=>whnf)
 refine CE (ι:=Nat) (λi=>[(1,.hold .box (ab.enc .imm h)),(136,.hold .one (cr .imm h.Spans)),(137,.hold .one [I (h.Spans.length)]),(138,.hold .one [I ((i:Nat):Int)])]) (λi=>i<=h.Spans.length/\cK i (λi=>cK i (kw h i))=true) (λi=>h.Spans.length - i) 0 ?_ ⟨T0 _,rfl⟩ λi o=>?_
 ·exact wB
 obtain⟨o,H⟩:=o;by_cases F:i<h.Spans.length
 ·have g:=ah F
  have htl:(h.Spans.take i).length=i:=by rw[O1];omega
  repeat'(first|refine gD ?_|(conv=>whnf);first|with_reducible refine CB (aa g) ?_|refine CT i rfl (by simp;omega) (λr hr=>by obtain⟨z,-,rfl⟩:=Z3.1 hr;rfl) (X3 ..) ?_)
  (conv=>whnf)
  refine CE (ι:=Nat) (λj=>[(1,.hold .box (ab.enc .imm h)),(14,.hold .box (au.enc .imm (nth h.Spans i))),(136,.hold .one (cr .imm h.Spans)),(137,.hold .one [I (h.Spans.length)]),(138,.hold .one [I ((i:Nat):Int)]),(146,.hold .one (cr .imm (h.Spans.take i))),(147,.hold .one [I ((h.Spans.take i).length)]),(148,.hold .one [I ((j:Nat):Int)])]) (λj=>j<=(h.Spans.take i).length/\cK j (kw h i)=true) (λj=>(h.Spans.take i).length - j) 0 ?_ ⟨T0 _,rfl⟩ λj hj=>?_
  ·exact wB
  obtain⟨hj,aj⟩:=hj;by_cases lj:j<(h.Spans.take i).length
  ·have hy:=ah lj
   have he:nth (h.Spans.take i) j=nth h.Spans j:=bu (by rw[List.getElem?_take_of_lt ω];exact ah ω);rw[he]at hy;have J:=xO (nth h.Spans i) (nth h.Spans j);cases em:meshable (nth h.Spans i) (nth h.Spans j)<;>rw[em]at J
   all_goals
    repeat'(first|refine gD ?_|(conv=>whnf);first|with_reducible (first|refine CB (aa hy) ?_|refine Bf.E (λa=>?_) (λa=>?_))|refine C7 (gi (tbl h) _ l) ?_|refine C7 J ?_)
    all_goals first
     | exact U0 (λz=>[B z]) ((by symm;exact cj F (cj (i:=j) ω (by unfold kw;rw[em];grind))))
     | ((conv=>whnf);refine CC (j+1) ⟨ω,bM aj (by unfold kw;rw[em];grind)⟩ ω ?_;(exact wB))
  ·obtain rfl:j=(h.Spans.take i).length:=ω
   rw[htl]at aj
   repeat'(first|refine gD ?_|fail)
   ((conv=>whnf);refine CC (i+1) ⟨ω,bM H aj⟩ ω ?_;(exact wB))
 obtain rfl:i=h.Spans.length:=ω
 repeat'(first|refine gD ?_|fail)
 exact U0 (λz=>[B z]) ((by unfold mW;rw[H]))
set_option maxHeartbeats 8000000
theorem nz{α:Type}[Inhabited α](pr:α->Bool)(xs:List α):de pr xs = -1\/∃n,n<xs.length/\de pr xs=(n:Nat)/\pr (nth xs n)=true:=by
 unfold de;cases h:xs.findIdx? pr with
 | none=>exact .inl rfl
 | some i=>
  obtain⟨a,b,-⟩:=Z5.1 h;exact .inr ⟨i,a,rfl,by rw[bu (Z1 a)];exact b⟩
theorem Dm{h:ab}{i k:Nat}(a:i<h.Spans.length)(b:k<(aT h (nth h.Spans i).Page).length)(c:lc h i (nth (aT h (nth h.Spans i).Page) k)=false):tO h=false:=by
 unfold tO;exact cj a (ee (ah b) c)
theorem Ba(h:ab)(j:dy h.Spans)(c:yb h):ao Tryz.prog 205 false [.val (some 24) (ab.enc .imm h)] .one [B (tO h)]:=by
 have l:=j.1;have G:dQ h<=1048576:=c.1;refine fO 55 [(4,8,[14,15,16,17,18,19,20,21]),(8,6,[28,29,30,31,32,33]),(9,21,[34,35,36,37,38,39,40,41,42,43,44,45,46,47,48,49,50,51,52,53,54])] Tryz.func205 rfl ?_
 repeat'(first|refine gO ?_|fail)
 (conv=>whnf)
 refine CE (ι:=Nat) (λi=>[(1,.hold .box (ab.enc .imm h)),(3,.hold .one [I ((i:Nat):Int)])]) (λi=>i<=h.Spans.length/\cK i (λi=>(aT h (nth h.Spans i).Page).all (lc h i))=true) (λi=>h.Spans.length - i) 0 ?_ ⟨T0 _,rfl⟩ λi w=>?_
 ·exact wB
 obtain⟨w,y⟩:=w;by_cases o:i<h.Spans.length
 ·have q:=ah o
  have H:=gz h (nth h.Spans i).Page
  repeat'(first|refine gD ?_|(conv=>whnf);first|with_reducible refine CB (aa q) ?_|refine C7 (gK h _ c) ?_)
  (conv=>whnf)
  refine CE (ι:=Nat) (λk=>[(1,.hold .box (ab.enc .imm h)),(3,.hold .one [I ((i:Nat):Int)]),(4,.hold .one (aD .own (aT h (nth h.Spans i).Page))),(5,.hold .one [I ((k:Nat):Int)])]) (λk=>k<=(aT h (nth h.Spans i).Page).length/\((aT h (nth h.Spans i).Page).take k).all (lc h i)=true) (λk=>(aT h (nth h.Spans i).Page).length - k) (0) ?_ (⟨T0 _,rfl⟩) λk C=>?_
  ·exact wB
  obtain⟨C,E⟩:=C;by_cases r:k<(aT h (nth h.Spans i).Page).length
  ·have d:=ah r
   have a:=je h (nth (aT h (nth h.Spans i).Page) k) l;rcases nz (jq (nth (aT h (nth h.Spans i).Page) k)) h.Spans with e|⟨n,J,e,-⟩
   ·rw[show fV h (nth (aT h (nth h.Spans i).Page) k) = -1 from e]at a
    have t:lc h i (nth (aT h (nth h.Spans i).Page) k)=false:=by
     unfold lc;rw[show fV h (nth (aT h (nth h.Spans i).Page) k) = -1 from e,R0 ω,R0 ω];rfl
    repeat'(first|refine gD ?_|(conv=>whnf);first|with_reducible (first|refine CB (aa q) ?_|refine CB (aa d) ?_|refine Bf.D (λb=>?_) (λb=>?_)|refine Bf.N (λb=>?_) (λb=>?_))|refine CG rfl (aa d) rfl ?_|refine C7 a ?_)
    all_goals first
     | exact U0 (λz=>[B z]) ((Dm o r t).symm)
     |(exfalso;omega)
   ·rw[show fV h (nth (aT h (nth h.Spans i).Page) k)=(n:Nat) from e]at a
    have K:=ah J;have F:=kX (nth h.Spans i) (nth h.Spans n);have g:lc h i (nth (aT h (nth h.Spans i).Page) k)=(decide ((n:Int)=(i:Nat)) || meshable (nth h.Spans i) (nth h.Spans n)):=by
     unfold lc;rw[show fV h (nth (aT h (nth h.Spans i).Page) k)=(n:Nat) from e,O0 (p:=(0:Int)<=(n:Nat)) ω];simp
    cases u:meshable (nth h.Spans i) (nth h.Spans n)<;>rw[u]at F
    all_goals
     repeat'(first|refine gD ?_|(conv=>whnf);first|with_reducible (first|refine CB (aa q) ?_|refine CB (aa K) ?_|refine CB (aa d) ?_|refine Bf.D (λb=>?_) (λb=>?_)|refine Bf.N (λb=>?_) (λb=>?_))|refine CG rfl (aa d) rfl ?_|refine C7 a ?_|refine C7 F ?_)
     all_goals first
      | exact U0 (λz=>[B z]) ((Dm o r (by rw[g,u];grind)).symm)
      | ((conv=>whnf);refine CC (k+1) ⟨ω,cH d E (by rw[g,u];grind)⟩ ω ?_;(exact wB))
      |(exfalso;omega)
  ·repeat'(first|refine gD ?_|fail)
   ((conv=>whnf);refine CC (i+1) ⟨ω,bM y (gt ω E)⟩ ω ?_;(exact wB))
 ·obtain rfl:i=h.Spans.length:=ω
  repeat'(first|refine gD ?_|fail)
  exact U0 (λz=>[B z]) ((by unfold tO;rw[y]))
theorem Jq(j:cn)(b:cn.sml j):ao Tryz.prog 211 false [.val (some 5) (cn.enc .imm j)] .one [B (qA j)]:=by
 have c:j.Plan.Cells.length<=1048576:=b;refine fO 30 [] Tryz.func211 rfl ?_
 repeat'(first|refine gO ?_|(conv=>whnf);first|with_reducible (first|refine Bf.E (λa=>?_) (λa=>?_)|refine Bf.D (λa=>?_) (λa=>?_)))
 all_goals exact U0 (λz=>[B z]) ((by unfold qA;first|(symm;exact R0 ω)|(rw[I4,beq_iff_eq,C0];omega)))
theorem mh(sp:List au)(la:List ax)(a:Int):((denotes sp la a).Kind=1->0<=(denotes sp la a).Index/\(denotes sp la a).Index.toNat<sp.length)/\((denotes sp la a).Kind=3->0<=(denotes sp la a).Index/\(denotes sp la a).Index.toNat<la.length):=by
 unfold denotes;cases c:sp.findIdx? (cF · a) with
 | some i=>
  obtain⟨b,-⟩:=Z5.1 c;simp only[ns];refine⟨λ_=>⟨ω,by simpa using b⟩,λe=>?_⟩;split at e<;>cases e
 | none=>
  cases d:la.findIdx? (b9 · a) with
  | some i=>
   obtain⟨b,-⟩:=Z5.1 d;exact⟨λe=>(by cases e),λ_=>⟨by simp,by simpa using b⟩⟩
  | none=>exact⟨λe=>(by cases e),λe=>(by cases e)⟩
theorem FR(h:ab)(a c:Int)(d:dy h.Spans)(e:dx h.Larges)(b:bj h.Spans h.Larges=true)(k:lQ a):ao Tryz.prog 276 false [.val (some 24) (ab.enc .imm h),.val none [I a],.val none [I c]] .one [B (db h a c)]:=by
 have j:=mD h.Spans h.Larges a d e b k;obtain⟨g,-⟩:=mh h.Spans h.Larges a;unfold db;generalize denotes h.Spans h.Larges a=w at j g |-;refine fO 37 [] Tryz.func276 rfl ?_
 repeat'(first|refine gO ?_|(conv=>whnf);first|with_reducible (first|refine Bf.D (λi=>?_) (λi=>?_)|refine Bf.E (λi=>?_) (λi=>?_))|refine C7 j ?_|refine CK (g (by assumption)).1 (aa (ah (g (by assumption)).2)) ?_)
 all_goals exact U0 (λz=>[B z]) ((by grind))
theorem yG(h:ab)(o:bm)(w:iM)(a:denotes h.Spans h.Larges o.Addr=w):jK h o=(decide (w.Offset=0)&&((decide (w.Kind=1)&&decide ((nth h.Spans w.Index.toNat).Class=aM o.Size)) || (decide (w.Kind=3)&&decide ((nth h.Larges w.Index.toNat).Size=o.Size)))):=by
 unfold jK;rw[a]
theorem iL{h:ab}{i:Nat}(a:i<h.Objs.length)(b:objAt (IntKind.i64.wrap (h.Next - 1)) h i=false):fm h=false:=cj a b
theorem GN{a:Int}{h:ab}{i:Nat}(h1:gL a h i=false):objAt a h i=false:=by unfold objAt;rw[h1];rfl
theorem GF{a:Int}{h:ab}{i:Nat}(h1:(h.Objs.take i).any (jW (nth h.Objs i).Id)=true):objAt a h i=false:=by unfold objAt;rw[h1];simp
theorem Gt{a:Int}{h:ab}{i:Nat}(h1:jK h (nth h.Objs i)=false):objAt a h i=false:=by unfold objAt;rw[h1];simp
theorem yr{a:Int}{h:ab}{i:Nat}(h1:gL a h i=true)(b:(h.Objs.take i).any (jW (nth h.Objs i).Id)=false)(c:jK h (nth h.Objs i)=true):objAt a h i=true:=by unfold objAt;rw[h1,b,c];rfl
theorem EU(h:ab)(l:dy h.Spans)(n:dx h.Larges)(g:bj h.Spans h.Larges=true)(K:h.Objs.length<=1048576)(L:h.Caches.length<=1048576)(H:∀o∈h.Objs,lQ o.Addr):ao Tryz.prog 209 false [.val (some 24) (ab.enc .imm h)] .one [B (fm h)]:=by
 refine fO 117 [(5,33,[21,22,23,24,25,26,27,28,29,30,31,32,33,34,35,36,37,38,39,40,41,42,43,44,45,46,47,48,49,50,51,52,53]),(10,9,[59,60,61,62,63,64,65,66,67]),(13,16,[75,76,77,78,79,80,81,82,83,84,85,86,87,88,89,90]),(14,15,[91,92,93,94,95,96,97,98,99,100,101,102,103,104,105])] Tryz.func209 rfl ?_
 repeat'(first|refine gO ?_|fail)
 (conv=>whnf)
 refine CE (ι:=Nat) (λi=>[(1,.hold .box (ab.enc .imm h)),(3,.hold .one [I ((i:Nat):Int)])]) (λi=>i<=h.Objs.length/\cK i (objAt (IntKind.i64.wrap (h.Next - 1)) h)=true) (λi=>h.Objs.length - i) 0 ?_ ⟨T0 _,rfl⟩ λi t=>?_
 ·exact wB
 obtain⟨t,u⟩:=t;by_cases e:i<h.Objs.length
 ·have y:=ah e
  have C:=mD h.Spans h.Larges (nth h.Objs i).Addr l n g (H _ (am e));obtain⟨p,q⟩:=mh h.Spans h.Larges (nth h.Objs i).Addr;have b:=yG h (nth h.Objs i) _ rfl;generalize denotes h.Spans h.Larges (nth h.Objs i).Addr=w at C p q b;by_cases c:gL (IntKind.i64.wrap (h.Next - 1)) h i=true
  ·have a:=c
   unfold gL at a;rw[C0]at a
   repeat'(first|refine gD ?_|(conv=>whnf);first|with_reducible (first|refine CB (aa y) ?_|refine Bf.D (λd=>?_) (λd=>?_))|refine CK ω (aa (fT ω e)) ?_|refine C7 (aE _ _ _) ?_|refine CJ rfl ?_)
   all_goals
    (conv=>whnf)
    refine CE (ι:=Nat) (λk=>[(1,.hold .box (ab.enc .imm h)),(3,.hold .one [I ((i:Nat):Int)]),(4,.hold .box (bm.enc .imm (nth h.Objs i))),(5,.hold .one [I ((k:Nat):Int)])]) (λk=>k<=i/\(h.Objs.take k).any (jW (nth h.Objs i).Id)=false) (λk=>i - k) (0) ?_ (⟨T0 _,rfl⟩) λk F=>?_
    ·exact wB
    obtain⟨F,G⟩:=F;by_cases J:k<i
    ·have r:=ah (xs:=h.Objs) (i:=k) ω
     repeat'(first|refine gD ?_|(conv=>whnf);first|with_reducible (first|refine CB (aa r) ?_|refine Bf.E (λd=>?_) (λd=>?_)))
     all_goals first
      | exact U0 (λz=>[B z]) ((iL e (GF (AS (i:=k) (by rw[List.getElem?_take_of_lt J];exact r) (O0 (by assumption))))).symm)
      | ((conv=>whnf);refine CC (k+1) ⟨ω,wK r G (R0 (by assumption))⟩ ω ?_;(exact wB))
    ·obtain rfl:k=i:=ω
     repeat'(first|refine gD ?_|(conv=>whnf);first|with_reducible (first|refine Bf.D (λd=>?_) (λd=>?_)|refine Bf.E (λd=>?_) (λd=>?_)|refine Bf.N (λd=>?_) (λd=>?_))|refine C7 C ?_|refine CK (p (by assumption)).1 (aa (ah (p (by assumption)).2)) ?_|refine CK (q (by assumption)).1 (aa (ah (q (by assumption)).2)) ?_|refine C7 (jz _) ?_)
     all_goals first
      | exact U0 (λz=>[B z]) ((iL e (Gt (by rw[b];grind))).symm)
      | ((conv=>whnf);refine CC (k+1) ⟨ω,bM u (yr c G (by rw[b];grind))⟩ ω ?_;(exact wB))
      |(exfalso;omega)
  ·have j:gL (IntKind.i64.wrap (h.Next - 1)) h i=false:=by simpa using c
   have a:=j;unfold gL at a;rw[C4]at a
   repeat'(first|refine gD ?_|(conv=>whnf);first|with_reducible (first|refine CB (aa y) ?_|refine Bf.D (λd=>?_) (λd=>?_))|refine CK ω (aa (fT ω e)) ?_|refine C7 (aE _ _ _) ?_|refine CJ rfl ?_)
   all_goals first
    | exact U0 (λz=>[B z]) ((iL e (GN j)).symm)
    |(exfalso;omega)
 ·obtain rfl:i=h.Objs.length:=ω
  repeat'(first|refine gD ?_|fail)
  exact U0 (λz=>[B z]) ((show true=fm h from u.symm))
theorem oP(o a:bm):ao Tryz.prog 169 false [.val (some 4) (bm.enc .imm o),.ptr (bm.enc .imm a)] .one [B (jW a.Id o)]:=by
 refine fO 9 [] Tryz.func169 rfl ?_
 repeat'(first|refine gO ?_|fail)
 exact U0 (λz=>[B z]) ((by unfold jW;rw[I4];simp))
theorem Dl(h:ab)(n:dy h.Spans)(o:dx h.Larges)(J:h.Objs.length<=1048576)(K:h.Caches.length<=1048576):ao Tryz.prog 73 false [.val (some 24) (ab.enc .imm h)] .one [B (fm h)]:=by
 refine fO 105 [(4,33,[16,17,18,19,20,21,22,23,24,25,26,27,28,29,30,31,32,33,34,35,36,37,38,39,40,41,42,43,44,45,46,47,48]),(9,16,[62,63,64,65,66,67,68,69,70,71,72,73,74,75,76,77]),(10,15,[78,79,80,81,82,83,84,85,86,87,88,89,90,91,92])] Tryz.func73 rfl ?_
 repeat'(first|refine gO ?_|fail)
 (conv=>whnf)
 refine CE (ι:=Nat) (λi=>[(1,.hold .box (ab.enc .imm h)),(9,.hold .one (kh .imm h.Objs)),(10,.hold .one [I (h.Objs.length)]),(11,.hold .one [I ((i:Nat):Int)])]) (λi=>i<=h.Objs.length/\cK i (objAt (IntKind.i64.wrap (h.Next - 1)) h)=true) (λi=>h.Objs.length - i) 0 ?_ ⟨T0 _,rfl⟩ λi F=>?_
 ·exact wB
 obtain⟨F,G⟩:=F;by_cases g:i<h.Objs.length
 ·have p:=ah g
  have H:=jE h.Spans h.Larges (nth h.Objs i).Addr n o;obtain⟨q,t⟩:=mh h.Spans h.Larges (nth h.Objs i).Addr;have b:=yG h (nth h.Objs i) _ rfl;generalize denotes h.Spans h.Larges (nth h.Objs i).Addr=w at H q t b;have j:=sr (h.Objs.take i) (jW (nth h.Objs i).Id) (by rw[O1];omega);by_cases c:gL (IntKind.i64.wrap (h.Next - 1)) h i=true
  ·have a:=c
   unfold gL at a;rw[C0]at a;cases d:(h.Objs.take i).any (jW (nth h.Objs i).Id)<;>rw[d]at j
   ·repeat'(first|refine gD ?_|(conv=>whnf);first|with_reducible (first|refine CB (aa p) ?_|refine Bf.D (λe=>?_) (λe=>?_)|refine Bf.E (λe=>?_) (λe=>?_)|refine Bf.N (λe=>?_) (λe=>?_))|refine CK ω (aa (fT ω g)) ?_|refine C7 (aO _ _ _) ?_|refine CT i rfl (by simp;omega) (λr u=>by obtain⟨z,-,rfl⟩:=Z3.1 u;rfl) (X3 ..) ?_|refine Cq.mk (yR (some 4) (bm.enc .imm) (jW (nth h.Objs i).Id) (h.Objs.take i)) (oP default (nth h.Objs i)).has (λL k rcs C=>by obtain⟨y,-,rfl,rfl,rfl⟩:=C;exact oP y (nth h.Objs i)) ?_|refine C7 j ?_|refine C7 H ?_|refine CK (q (by assumption)).1 (aa (ah (q (by assumption)).2)) ?_|refine CK (t (by assumption)).1 (aa (ah (t (by assumption)).2)) ?_|refine C7 (qF _) ?_|refine CJ rfl ?_)
    all_goals first
     | exact U0 (λz=>[B z]) ((iL g (Gt (by rw[b];grind))).symm)
     | ((conv=>whnf);refine CC (i+1) ⟨ω,bM G (yr c d (by rw[b];grind))⟩ ω ?_;(exact wB))
     |(exfalso;omega)
   ·repeat'(first|refine gD ?_|(conv=>whnf);first|with_reducible (first|refine CB (aa p) ?_|refine Bf.D (λe=>?_) (λe=>?_))|refine CK ω (aa (fT ω g)) ?_|refine C7 (aO _ _ _) ?_|refine CT i rfl (by simp;omega) (λr u=>by obtain⟨z,-,rfl⟩:=Z3.1 u;rfl) (X3 ..) ?_|refine Cq.mk (yR (some 4) (bm.enc .imm) (jW (nth h.Objs i).Id) (h.Objs.take i)) (oP default (nth h.Objs i)).has (λL k rcs C=>by obtain⟨y,-,rfl,rfl,rfl⟩:=C;exact oP y (nth h.Objs i)) ?_|refine C7 j ?_|refine CJ rfl ?_)
    all_goals first
     | exact U0 (λz=>[B z]) ((iL g (GF d)).symm)
     |(exfalso;omega)
  ·have l:gL (IntKind.i64.wrap (h.Next - 1)) h i=false:=by simpa using c
   have a:=l;unfold gL at a;rw[C4]at a
   repeat'(first|refine gD ?_|(conv=>whnf);first|with_reducible (first|refine CB (aa p) ?_|refine Bf.D (λe=>?_) (λe=>?_))|refine CK ω (aa (fT ω g)) ?_|refine C7 (aO _ _ _) ?_|refine CJ rfl ?_)
   all_goals first
    | exact U0 (λz=>[B z]) ((iL g (GN l)).symm)
    |(exfalso;omega)
 ·obtain rfl:i=h.Objs.length:=ω
  repeat'(first|refine gD ?_|fail)
  exact U0 (λz=>[B z]) ((show true=fm h from G.symm))
set_option maxHeartbeats 8000000
theorem Hx{sp:List au}{la:List ax}{n:Nat}(h:jr sp la n=true):kP sp la (n+1)=kP sp la n++[(n:Int)]:=by
 unfold kP;rw[List.range_succ,List.filter_append,v5];simp[h]
theorem K8{sp:List au}{la:List ax}{n:Nat}(h:jr sp la n=false):kP sp la (n+1)=kP sp la n:=by
 unfold kP;rw[List.range_succ,List.filter_append,v5];simp[h]
theorem yI(sp:List au)(la:List ax)(n:Nat):(kP sp la n).length<=n:=by
 unfold kP;rw[X0];exact O4 (List.length_filter_le ..) (by simp)
theorem qq{sp:List au}{la:List ax}{n:Nat}{w:iM}(a:denotes sp la (n:Nat)=w):jr sp la n=(decide (w.Offset=0)&&(decide (w.Kind=1) || decide (w.Kind=3))):=by
 unfold jr;rw[a]
theorem Mx{n:Nat}(h:n<=1048576):lQ (n:Nat):=⟨ω,ω⟩
theorem ww(sp:List au)(la:List ax)(c:dy sp)(d:dx la)(a:bj sp la=true):ao Tryz.prog 278 false [.val none (cr .imm sp),.val none (bQ .imm la)] .one (aD .own (im sp la)):=by
 have g:=kT sp la c d;rw[a]at g;refine fO 40 [] Tryz.func278 rfl ?_ (.inr (bG _))
 repeat'(first|refine gO ?_|fail)
 (conv=>whnf)
 refine CE (ι:=Nat) (λn=>[(0,.hold .one (cr .imm sp)),(1,.hold .one (bQ .imm la)),(5,.hold .one (aD .own (kP sp la n))),(6,.hold .one [I ((n:Nat):Int)])]) (λn=>n<=512) (λn=>512 - n) (0) ?_ (T0 _) λn o=>?_
 ·exact wB
 have i:=yI sp la n;by_cases p:n<512
 ·have h:=mD sp la (n:Nat) c d a (Mx ω)
  generalize j:denotes sp la (n:Nat)=w at h;have e:=qq j
  repeat'(first|refine gD ?_|(conv=>whnf);first|with_reducible refine Bf.E (λk=>?_) (λk=>?_)|refine C7 g ?_|refine C7 h ?_|refine CP bV (λr l=>by rw[C1.1 l];rfl) (by simp[aV,dz]) (by simp;omega) (by simp only[X0];exact wi (by simp;omega) (by decide)) rfl ?_)
  all_goals first
   |(have b:jr sp la n=true:=by rw[e];grind
     (conv=>whnf)
     refine CC (n+1) ω ω ?_;rw[Hx b]
     (repeat'(first|exact trivial|rfl|exact CI rfl (CI (U0 (C.s du.own) (by simp[rI])) trivial)|refine CI ?_ ?_)))
   |(have b:jr sp la n=false:=by rw[e];grind
     (conv=>whnf)
     refine CC (n+1) ω ω ?_;rw[K8 b]
     (exact wA))
 ·obtain rfl:n=512:=ω
  repeat'(first|refine gD ?_|(conv=>whnf);first|refine C7 g ?_)
  rfl
theorem uP(m:aI)(a:m.Inbox.length=m.Buffers.length):∀i,i<=m.Buffers.length->(((flight1 m i).length+(flight2 m i).length:Nat):Int)=br m i
 | 0,_=>rfl
 | i+1,h=>by
  have d:=uP m a i ω;have b:=ah (xs:=m.Buffers) (i:=i) ω;have c:=ah (xs:=m.Inbox) (i:=i) ω;rw[me b,lU c];simp only[v3,X0];show _=br m i+((nth m.Buffers i).length+(nth m.Inbox i).length);omega
theorem qS{m:aI}(h:bI m=true):(aN m).length<=30:=by
 have a:=mr h;have b:=uP m a.2.2 m.Buffers.length (X2 _);have c:br m m.Buffers.length<=30:=by
  unfold bI at h;simp only[I0,C0]at h;exact h.2
 rw[nH h,v3,a.2.2];omega
theorem DZ{m:aI}(d:aI.wf m):∀a∈aN m,lQ a:=by
 intro a b;unfold aN at b;split at b
 ·rcases W2.1 b with h|h
  ·obtain⟨l,c,h⟩:=List.mem_flatMap.1 h
   obtain⟨p,e,rfl⟩:=Z3.1 h;exact((d.1.2 l c).2 p e).2
  ·obtain⟨l,c,h⟩:=List.mem_flatten.1 h
   exact(d.2.2 l c).2 a h
 ·cases b
theorem HW{h:ab}(h1:h.Caches.all (en h)=false):iB h=false:=by unfold iB gM;rw[h1];rfl
theorem Jo{h:ab}(h1:h.Quar.Lst.all (gC h)=false):iB h=false:=by unfold iB gM;rw[h1];simp
theorem Ht{h:ab}(h1:(aN h.Mail).all (jw h)=false):iB h=false:=by unfold iB gM;rw[h1];simp
theorem Ja{h:ab}{i:Nat}(a:i<(holders h).length)(b:nth (holders h) i∈(holders h).take i):iB h=false:=by
 have c:decide (holders h).Nodup=false:=Kk (S:=(holders h).take i) (p:=nth (holders h) i) (by
   have:=ah a;have e:(holders h).take i++[nth (holders h) i]=(holders h).take (i+1):=by rw[Z4,this];rfl
   rw[e];exact List.take_prefix ..) b
 unfold iB;rw[c];simp
theorem tJ{h:ab}{i:Nat}{c:aA}(a:h.Caches[i]? = some c):((h.Caches.take (i+1)).flatMap λc=>c.Lists.flatten)=((h.Caches.take i).flatMap λc=>c.Lists.flatten)++c.Lists.flatten:=by
 rw[Z4,a,List.flatMap_append];simp
theorem vG{c:aA}{k:Nat}{l:List Int}(a:c.Lists[k]? = some l):(c.Lists.take (k+1)).flatten=(c.Lists.take k).flatten++l:=by
 rw[Z4,a,List.flatten_append];simp
theorem FG(h:ab)(hs:ab.sml h)(hw:ab.wf h)(y:bj h.Spans h.Larges=true)(G:bI h.Mail=true)(hco:∀c∈h.Caches,bo c=true):ao Tryz.prog 210 false [.val (some 24) (ab.enc .imm h)] .one [B (iB h)]:=by
 obtain⟨-,-,N,O,hso,hsc,hsm,hsq,-⟩:=hs;obtain⟨-,-,-,-,-,hwc,hwm,hwq,-⟩:=hw;have hlo:h.Objs.length<=1048576:=hso.1;have hlc:h.Caches.length<=1048576:=hsc.1;have hlq:h.Quar.Lst.length<=1048576:=hsq.1;have hfl:=qS G;have hfw:=DZ hwm;have H:∀a c,lQ a->ao Tryz.prog 276 false [.val (some 24) (ab.enc .imm h),.val none [I a],.val none [I c]] .one [B (db h a c)]:=λa c ha=>FR h a c N O y ha
 refine fO 159 [(16,8,[63,64,65,66,67,68,69,70]),(22,17,[86,87,88,89,90,91,92,93,94,95,96,97,98,99,100,101,102]),(29,7,[122,123,124,125,126,127,128]),(35,8,[142,143,144,145,146,147,148,149])] Tryz.func210 rfl ?_
 repeat'(first|refine gO ?_|fail)
 (conv=>whnf)
 refine CE (ι:=Nat × List Int) (λi=>[(1,.hold .box (ab.enc .imm h)),(3,.hold .one (aD .own i.2)),(4,.hold .one [I ((i.1:Nat):Int)])]) (λi=>i.1<=h.Objs.length/\i.2=(h.Objs.take i.1).map (·.Addr)) (λi=>h.Objs.length - i.1) ((0,[])) ?_ (⟨T0 _,rfl⟩) λi E=>?_
 ·exact wB
 obtain⟨i,S⟩:=i;obtain⟨E,M⟩:=E;simp only at E M |-;have hSl:S.length=i:=by rw[M,X0,O1];omega
 by_cases li:i<h.Objs.length
 ·have t:=ah li
  repeat'(first|refine gD ?_|(conv=>whnf);first|with_reducible refine CB (aa t) ?_|refine CP bV (λr u=>by rw[C1.1 u];rfl) (by simp[aV,dz]) (by simp;omega) (by simp only[X0];exact wi (by simp;omega) (by decide)) rfl ?_)
  ((conv=>whnf)
   refine CC (i+1,S++[(nth h.Objs i).Addr]) ⟨(by simp only;omega),(by simp only;rw[M,Z4,t];simp)⟩ (by simp only;omega) ?_
   (repeat'(first|exact trivial|rfl|exact CI rfl (CI (U0 (C.s du.own) (by simp[rI])) trivial)|refine CI ?_ ?_)))
 obtain rfl:i=h.Objs.length:=ω
 rw[V4]at M
 repeat'(first|refine gD ?_|fail)
 (conv=>whnf)
 refine CE (ι:=Nat × List Int) (λi=>[(1,.hold .box (ab.enc .imm h)),(3,.hold .one (aD .own i.2)),(5,.hold .one [I ((i.1:Nat):Int)])]) (λi=>i.1<=h.Caches.length/\i.2=S++((h.Caches.take i.1).flatMap λc=>c.Lists.flatten)/\(h.Caches.take i.1).all (en h)=true/\i.2.length<=1048576+32*i.1) (λi=>h.Caches.length - i.1) ((0,S)) ?_ (⟨T0 _,by simp,rfl,by simp only;omega⟩) λi E=>?_
 ·exact wB
 obtain⟨i,S2⟩:=i;obtain⟨hi2,n,U,P⟩:=E;simp only at hi2 n U P |-;by_cases li2:i<h.Caches.length
 ·have t:=ah li2
  obtain⟨h4,h8⟩:=tQ (hco _ (am li2));have hwl:=hwc.2 _ (am li2)
  repeat'(first|refine gD ?_|(conv=>whnf);first|with_reducible refine CB (aa t) ?_)
  (conv=>whnf)
  refine CE (ι:=Nat × List Int) (λk=>[(1,.hold .box (ab.enc .imm h)),(3,.hold .one (aD .own k.2)),(5,.hold .one [I ((i:Nat):Int)]),(6,.hold .one [I ((k.1:Nat):Int)])]) (λk=>k.1<=(nth h.Caches i).Lists.length/\k.2=S2++((nth h.Caches i).Lists.take k.1).flatten/\cK k.1 (qQ h (nth h.Caches i))=true/\k.2.length<=S2.length+8*k.1) (λk=>(nth h.Caches i).Lists.length - k.1) ((0,S2)) ?_ (⟨T0 _,by simp,rfl,by simp⟩) λk hk=>?_
  ·exact wB
  obtain⟨k,V⟩:=k;obtain⟨hk,w,ak,hb3⟩:=hk;simp only at hk w ak hb3 |-;by_cases W:k<(nth h.Caches i).Lists.length
  ·have hy:=ah W
   have hl8:=h8 _ (am W);have hwa:=(hwl.2 _ (am W)).2
   repeat'(first|refine gD ?_|(conv=>whnf);first|with_reducible (first|refine CB (aa t) ?_|refine CB (aa hy) ?_))
   (conv=>whnf)
   refine CE (ι:=Nat × List Int) (λj=>[(1,.hold .box (ab.enc .imm h)),(3,.hold .one (aD .own j.2)),(5,.hold .one [I ((i:Nat):Int)]),(6,.hold .one [I ((k:Nat):Int)]),(7,.hold .one (aD .imm (nth (nth h.Caches i).Lists k))),(8,.hold .one [I ((j.1:Nat):Int)])]) (λj=>j.1<=(nth (nth h.Caches i).Lists k).length/\j.2=V++(nth (nth h.Caches i).Lists k).take j.1/\((nth (nth h.Caches i).Lists k).take j.1).all (λa=>db h a (k:Nat))=true) (λj=>(nth (nth h.Caches i).Lists k).length - j.1) ((0,V)) ?_ (⟨T0 _,by simp,rfl⟩) λj hj=>?_
   ·exact wB
   obtain⟨j,S4⟩:=j;obtain⟨hj,o,X⟩:=hj;simp only at hj o X |-;have hl4:S4.length=V.length+j:=by rw[o,v3,O1];omega
   by_cases Y:j<(nth (nth h.Caches i).Lists k).length
   ·have d:=ah Y
    have b:=H (nth (nth (nth h.Caches i).Lists k) j) (k:Nat) (hwa _ (am Y));cases p:db h (nth (nth (nth h.Caches i).Lists k) j) (k:Nat)<;>rw[p]at b
    ·repeat'(first|refine gD ?_|(conv=>whnf);first|with_reducible refine CB (aa d) ?_|refine C7 b ?_)
     exact U0 (λz=>[B z]) ((HW (ee t (by unfold en;exact cj W (ee d p)))).symm)
    ·repeat'(first|refine gD ?_|(conv=>whnf);first|with_reducible refine CB (aa d) ?_|refine C7 b ?_|refine CP bV (λr u=>by rw[C1.1 u];rfl) (by simp[aV,dz]) (by simp;omega) (by show _*8<=_;simp;omega) rfl ?_)
     ((conv=>whnf)
      refine CC (j+1,S4++[nth (nth (nth h.Caches i).Lists k) j]) ⟨(by simp only;omega),(by simp only;rw[o,Z4,d,t5];rfl),cH d X p⟩ (by simp only;omega) ?_
      (repeat'(first|exact trivial|rfl|exact CI rfl (CI (U0 (C.s du.own) (by simp[rI])) trivial)|refine CI ?_ ?_)))
   ·obtain rfl:j=(nth (nth h.Caches i).Lists k).length:=ω
    rw[V4]at o X
    repeat'(first|refine gD ?_|fail)
    ((conv=>whnf);refine CC (k+1,S4) ⟨(by simp only;omega),(by simp only;rw[o,w,vG hy,t5]),bM ak X,(by simp only;omega)⟩ (by simp only;omega) ?_;(exact wB))
  ·obtain rfl:k=(nth h.Caches i).Lists.length:=ω
   rw[V4]at w
   repeat'(first|refine gD ?_|(conv=>whnf);first|with_reducible refine CB (aa t) ?_)
   ((conv=>whnf);refine CC (i+1,V) ⟨(by simp only;omega),(by simp only;rw[w,n,tJ t,t5]),cH t U ak,(by simp only;omega)⟩ (by simp only;omega) ?_;(exact wB))
 obtain rfl:i=h.Caches.length:=ω
 rw[V4]at n U
 repeat'(first|refine gD ?_|fail)
 (conv=>whnf)
 refine CE (ι:=Nat × List Int) (λq=>[(1,.hold .box (ab.enc .imm h)),(3,.hold .one (aD .own q.2)),(9,.hold .one [I ((q.1:Nat):Int)])]) (λq=>q.1<=h.Quar.Lst.length/\q.2=S2++(h.Quar.Lst.take q.1).map (·.Addr)/\(h.Quar.Lst.take q.1).all (gC h)=true) (λq=>h.Quar.Lst.length - q.1) ((0,S2)) ?_ (⟨T0 _,by simp,rfl⟩) λq Q=>?_
 ·exact wB
 obtain⟨q,R⟩:=q;obtain⟨J,g,Z⟩:=Q;simp only at J g Z |-;have hl5:R.length=S2.length+q:=by rw[g,v3,X0,O1];omega
 by_cases T:q<h.Quar.Lst.length
 ·have d:=ah T
  have b:=H (nth h.Quar.Lst q).Addr (nth h.Quar.Lst q).Class (hwq.2.2 _ (am T)).1;cases p:db h (nth h.Quar.Lst q).Addr (nth h.Quar.Lst q).Class<;>rw[p]at b
  ·repeat'(first|refine gD ?_|(conv=>whnf);first|with_reducible refine CB (aa d) ?_|refine C7 b ?_)
   exact U0 (λz=>[B z]) ((Jo (ee d p)).symm)
  ·repeat'(first|refine gD ?_|(conv=>whnf);first|with_reducible refine CB (aa d) ?_|refine C7 b ?_|refine CP bV (λr u=>by rw[C1.1 u];rfl) (by simp[aV,dz]) (by simp;omega) (by show _*8<=_;simp;omega) rfl ?_)
   ((conv=>whnf)
    refine CC (q+1,R++[(nth h.Quar.Lst q).Addr]) ⟨(by simp only;omega),(by simp only;rw[g,Z4,d,v5,t5];rfl),cH d Z p⟩ (by simp only;omega) ?_
    (repeat'(first|exact trivial|rfl|exact CI rfl (CI (U0 (C.s du.own) (by simp[rI])) trivial)|refine CI ?_ ?_)))
 obtain rfl:q=h.Quar.Lst.length:=ω
 rw[V4]at g Z
 repeat'(first|refine gD ?_|(conv=>whnf);first|refine C7 (yh h.Mail hsm) ?_)
 (conv=>whnf)
 refine CE (ι:=Nat × List Int) (λq=>[(1,.hold .box (ab.enc .imm h)),(3,.hold .one (aD .own q.2)),(10,.hold .one (aD .own (aN h.Mail))),(11,.hold .one [I ((q.1:Nat):Int)])]) (λq=>q.1<=(aN h.Mail).length/\q.2=R++(aN h.Mail).take q.1/\((aN h.Mail).take q.1).all (jw h)=true) (λq=>(aN h.Mail).length - q.1) ((0,R)) ?_ (⟨T0 _,by simp,rfl⟩) λq Q=>?_
 ·exact wB
 obtain⟨q,e⟩:=q;obtain⟨J,l,aq6⟩:=Q;simp only at J l aq6 |-;have hl6:e.length=R.length+q:=by rw[l,v3,O1];omega
 by_cases T:q<(aN h.Mail).length
 ·have d:=ah T
  have b:=H (nth (aN h.Mail) q) (-1) (hfw _ (am T));cases p:db h (nth (aN h.Mail) q) (-1)<;>rw[p]at b
  ·repeat'(first|refine gD ?_|(conv=>whnf);first|with_reducible refine CB (aa d) ?_|refine CG rfl (aa d) rfl ?_|refine C7 b ?_)
   exact U0 (λz=>[B z]) ((Ht (ee d p)).symm)
  ·repeat'(first|refine gD ?_|(conv=>whnf);first|with_reducible refine CB (aa d) ?_|refine CG rfl (aa d) rfl ?_|refine C7 b ?_|refine CP bV (λr u=>by rw[C1.1 u];rfl) (by simp[aV,dz]) (by simp;omega) (by show _*8<=_;simp;omega) rfl ?_)
   ((conv=>whnf)
    refine CC (q+1,e++[nth (aN h.Mail) q]) ⟨(by simp only;omega),(by simp only;rw[l,Z4,d,t5];rfl),cH d aq6 p⟩ (by simp only;omega) ?_
    (repeat'(first|exact trivial|rfl|exact CI rfl (CI (U0 (C.s du.own) (by simp[rI])) trivial)|refine CI ?_ ?_)))
 obtain rfl:q=(aN h.Mail).length:=ω
 rw[V4]at l aq6;have F:e=holders h:=by rw[l,g,n,M];rfl
 have K:gM h=true:=by unfold gM;rw[U,Z,aq6];rfl
 have hbig:e.length<=100000000:=ω
 clear l g n M hSl hl5 P hl6
 repeat'(first|refine gD ?_|fail)
 (conv=>whnf)
 refine Lp.fz 3 (ι:=Nat) (λi=>[(1,.hold .box (ab.enc .imm h)),(3,.hold .one (aD .imm e)),(12,.hold .one [I ((i:Nat):Int)])]) (λi=>i<=e.length/\(e.take i).Nodup) (λi=>e.length - i) 0 ?_ ⟨T0 _,by simp⟩ λi E=>?_
 ·(repeat'(first|exact trivial|rfl|exact CI rfl (show Jy (d9 (aD .own e)) (aD .imm e) by rw[eB];exact jY _)|refine CI ?_ ?_))
 obtain⟨E,L⟩:=E;by_cases Y:i<e.length
 ·have d:=ah Y
  have htl:(e.take i).length=i:=by rw[O1];omega
  repeat'(first|refine gD ?_|(conv=>whnf);first|with_reducible (first|refine CB (aa d) ?_|refine Bf.D (λQ=>?_) (λQ=>?_))|refine CT i rfl (by simp;omega) (λr u=>by obtain⟨z,-,rfl⟩:=Z3.1 u;rfl) (X3 ..) ?_|refine C7 (lw (e.take i) _ ω) ?_)
  all_goals first
   | exact U0 (λz=>[B z]) ((by rw[F]at *;exact(Ja (by assumption) (by assumption)).symm))
   | ((conv=>whnf);refine CC (i+1) ⟨ω,by rw[Z4,d];exact kn L (by assumption)⟩ ω ?_;(exact wB))
 ·obtain rfl:i=e.length:=ω
  rw[V4]at L;have hlv:=yI h.Spans h.Larges 512
  repeat'(first|refine gD ?_|(conv=>whnf);first|refine C7 (ww h.Spans h.Larges N O y) ?_)
  exact U0 (λz=>[B z]) ((by unfold iB;rw[K,<-F,O0 L,Bool.true_and,Bool.true_and];rw[I4,beq_iff_eq,C0];unfold im at *;omega))
set_option maxHeartbeats 8000000
def cY(h:ab):Bool:=(bI h.Mail&&decide (h.Caches.length=h.Mail.Buffers.length))&&fw h.Quar
def eR(h:ab):Bool:=((((((lb h&&tO h)&&cY h)&&jH h)&&h.Caches.all bo)&&cg h)&&(fm h&&iB h))&&pu h
theorem Dg(h:ab)(hs:ab.sml h)(hw:ab.wf h):ao Tryz.prog 125 false [.val (some 24) (ab.enc .imm h)] .one [B (eR h)]:=by
 have R:=hs;have S:=hw;obtain⟨w,y,b,l,T,C,E,F,G⟩:=hs;obtain⟨-,-,-,-,U,hwc,hwm,hwq,-⟩:=hw;have n:yb h:=w.1.2;have hpn:dQ h<=1048576:=n.1;have V:h.Objs.length<=1048576:=T.1;have W:h.Caches.length<=1048576:=C.1;have hlq:h.Quar.Lst.length<=1048576:=F.1;have hlb:h.Mail.Buffers.length<=1048576:=E.1.1;have d:=kZ h.Kernel w;have e:=kY (dQ h) h.Free ⟨ω,ω⟩ y;have g:=kT h.Spans h.Larges b l;have r:=Ba h b n;have H:=kN h.Mail E;have X:=nX h.Quar F;cases Y:aB h.Kernel<;>rw[Y]at d
 ·refine fO 150 [(8,10,[67,68,69,70,71,72,73,74,75,76])] Tryz.func125 rfl ?_
  repeat'(first|refine gO ?_|(conv=>whnf);first|with_reducible refine Bf.N (λa=>?_) (λa=>?_)|refine C7 d ?_)
  all_goals first
   | exact U0 (λz=>[B z]) ((by unfold eR lb;rw[Y];simp))
   |(exfalso;omega)
 cases Z:bw (dQ h) h.Free<;>rw[Z]at e
 ·refine fO 150 [(8,10,[67,68,69,70,71,72,73,74,75,76])] Tryz.func125 rfl ?_
  repeat'(first|refine gO ?_|(conv=>whnf);first|with_reducible refine Bf.N (λa=>?_) (λa=>?_)|refine C7 d ?_|refine C7 e ?_)
  all_goals first
   | exact U0 (λz=>[B z]) ((by unfold eR lb;rw[Z];simp))
   |(exfalso;omega)
 cases u:bj h.Spans h.Larges<;>rw[u]at g
 ·refine fO 150 [(8,10,[67,68,69,70,71,72,73,74,75,76])] Tryz.func125 rfl ?_
  repeat'(first|refine gO ?_|(conv=>whnf);first|with_reducible refine Bf.N (λa=>?_) (λa=>?_)|refine C7 d ?_|refine C7 e ?_|refine C7 g ?_)
  all_goals first
   | exact U0 (λz=>[B z]) ((by unfold eR lb;rw[u];simp))
   |(exfalso;omega)
 have p:=Dk h b l n y u;cases e4:pages0 h<;>rw[e4]at p
 ·refine fO 150 [(8,10,[67,68,69,70,71,72,73,74,75,76])] Tryz.func125 rfl ?_
  repeat'(first|refine gO ?_|(conv=>whnf);first|with_reducible refine Bf.N (λa=>?_) (λa=>?_)|refine C7 d ?_|refine C7 e ?_|refine C7 g ?_|refine C7 p ?_)
  all_goals first
   | exact U0 (λz=>[B z]) ((by unfold eR lb;rw[e4];simp))
   |(exfalso;omega)
 cases e5:tO h<;>rw[e5]at r
 ·refine fO 150 [(8,10,[67,68,69,70,71,72,73,74,75,76])] Tryz.func125 rfl ?_
  repeat'(first|refine gO ?_|(conv=>whnf);first|with_reducible refine Bf.N (λa=>?_) (λa=>?_)|refine C7 d ?_|refine C7 e ?_|refine C7 g ?_|refine C7 p ?_|refine C7 r ?_)
  all_goals first
   | exact U0 (λz=>[B z]) ((by unfold eR ;rw[e5];simp))
   |(exfalso;omega)
 cases Q:bI h.Mail<;>rw[Q]at H
 ·refine fO 150 [(8,10,[67,68,69,70,71,72,73,74,75,76])] Tryz.func125 rfl ?_
  repeat'(first|refine gO ?_|(conv=>whnf);first|with_reducible refine Bf.N (λa=>?_) (λa=>?_)|refine C7 d ?_|refine C7 e ?_|refine C7 g ?_|refine C7 p ?_|refine C7 r ?_|refine C7 H ?_)
  all_goals first
   | exact U0 (λz=>[B z]) ((by unfold eR cY;rw[Q];simp))
   |(exfalso;omega)
 by_cases J:h.Caches.length=h.Mail.Buffers.length;rotate_left
 ·refine fO 150 [(8,10,[67,68,69,70,71,72,73,74,75,76])] Tryz.func125 rfl ?_
  repeat'(first|refine gO ?_|(conv=>whnf);first|with_reducible refine Bf.N (λa=>?_) (λa=>?_)|refine C7 d ?_|refine C7 e ?_|refine C7 g ?_|refine C7 p ?_|refine C7 r ?_|refine C7 H ?_)
  all_goals first
   | exact U0 (λz=>[B z]) ((by unfold eR cY;rw[R0 J];simp))
   |(exfalso;omega)
 cases e7:fw h.Quar<;>rw[e7]at X
 ·refine fO 150 [(8,10,[67,68,69,70,71,72,73,74,75,76])] Tryz.func125 rfl ?_
  repeat'(first|refine gO ?_|(conv=>whnf);first|with_reducible refine Bf.N (λa=>?_) (λa=>?_)|refine C7 d ?_|refine C7 e ?_|refine C7 g ?_|refine C7 p ?_|refine C7 r ?_|refine C7 H ?_|refine C7 X ?_)
  all_goals first
   | exact U0 (λz=>[B z]) ((by unfold eR cY;rw[e7];simp))
   |(exfalso;omega)
 have K:lb h=true:=by unfold lb;rw[Y,Z,u,e4];rfl
 have hmc:cY h=true:=by unfold cY;rw[Q,O0 J,e7];rfl
 refine fO 150 [(8,10,[67,68,69,70,71,72,73,74,75,76])] Tryz.func125 rfl ?_
 repeat'(first|refine gA ?_|(conv=>whnf);first|with_reducible refine Bf.N (λa=>?_) (λa=>?_)|refine C7 d ?_|refine C7 e ?_|refine C7 g ?_|refine C7 p ?_|refine C7 r ?_|refine C7 H ?_|refine C7 X ?_)
 all_goals try(exfalso;omega)
 (conv=>whnf)
 refine CE (ι:=Nat) (λi=>[(1,.hold .box (ab.enc .imm h)),(3,.hold .one [I ((i:Nat):Int)])]) (λi=>i<=h.Quar.Lst.length/\(h.Quar.Lst.take i).all (λx=>decide (x.Since<=h.Clock))=true) (λi=>h.Quar.Lst.length - i) (0) ?_ (⟨T0 _,rfl⟩) λi hi=>?_
 ·exact wB
 obtain⟨hi,ai⟩:=hi;by_cases li:i<h.Quar.Lst.length
 ·have j:=ah li
  repeat'(first|refine gD ?_|(conv=>whnf);first|with_reducible (first|refine CB (aa j) ?_|refine Bf.D (λa=>?_) (λa=>?_)))
  all_goals first
   | exact U0 (λz=>[B z]) ((by unfold eR jH;rw[ee j (R0 ω)];simp))
   | ((conv=>whnf);refine CC (i+1) ⟨ω,cH j ai (O0 ω)⟩ ω ?_;(exact wB))
 have hsi:jH h=true:=gt ω ai
 repeat'(first|refine gD ?_|fail)
 (conv=>whnf)
 refine CE (ι:=Nat) (λk=>[(1,.hold .box (ab.enc .imm h)),(4,.hold .one [I ((k:Nat):Int)])]) (λk=>k<=h.Caches.length/\(h.Caches.take k).all bo=true) (λk=>h.Caches.length - k) (0) ?_ (⟨T0 _,rfl⟩) λk hk=>?_
 ·exact wB
 obtain⟨hk,ak⟩:=hk;by_cases lk:k<h.Caches.length
 ·have j:=ah lk
  have c8:=mu (nth h.Caches k) (C.2 _ (am lk));cases e8:bo (nth h.Caches k)<;>rw[e8]at c8
  ·repeat'(first|refine gD ?_|(conv=>whnf);first|with_reducible refine CB (aa j) ?_|refine C7 c8 ?_)
   exact U0 (λz=>[B z]) ((by unfold eR;rw[ee j e8];simp))
  ·repeat'(first|refine gD ?_|(conv=>whnf);first|with_reducible refine CB (aa j) ?_|refine C7 c8 ?_)
   ((conv=>whnf);refine CC (k+1) ⟨ω,cH j ak e8⟩ ω ?_;(exact wB))
 have L:h.Caches.all bo=true:=gt ω ak;have q:=EU h b l u V W (λo ho=>(U.2 o ho).2.1);have c10:=FG h R S u Q (V3.1 L);have c11:=Jq h.Job G;have c12:=v6 h.Job G;have c13:=je h h.Job.Plan.Keep b.1;have c14:=je h h.Job.Plan.Move b.1;by_cases hn:cg h=true;rotate_left
 ·have M:cg h=false:=by simpa using hn
  have c:=M;unfold cg at c;rw[C4]at c;cases O:fm h<;>rw[O]at q<;>cases e10:iB h<;>rw[e10]at c10
  all_goals
   repeat'(first|refine gD ?_|(conv=>whnf);first|with_reducible refine Bf.D (λa=>?_) (λa=>?_)|refine C7 (aE _ _ _) ?_|refine C7 q ?_|refine C7 c10 ?_)
   all_goals first
    | exact U0 (λz=>[B z]) ((by unfold eR;rw[M];simp))
    |(exfalso;omega)
 have c:=hn;unfold cg at c;rw[C0]at c;cases O:fm h<;>rw[O]at q
 ·repeat'(first|refine gD ?_|(conv=>whnf);first|with_reducible refine Bf.D (λa=>?_) (λa=>?_)|refine C7 (aE _ _ _) ?_|refine C7 q ?_)
  all_goals first
   | exact U0 (λz=>[B z]) ((by unfold eR;rw[O];simp))
   |(exfalso;omega)
 cases e10:iB h<;>rw[e10]at c10
 ·repeat'(first|refine gD ?_|(conv=>whnf);first|with_reducible refine Bf.D (λa=>?_) (λa=>?_)|refine C7 (aE _ _ _) ?_|refine C7 q ?_|refine C7 c10 ?_)
  all_goals first
   | exact U0 (λz=>[B z]) ((by unfold eR;rw[e10];simp))
   |(exfalso;omega)
 have P:eR h=pu h:=by unfold eR;rw[K,e5,hmc,hsi,L,hn,O,e10];rfl
 rw[P];unfold pu;cases em:h.Meshing
 ·repeat'(first|refine gD ?_|(conv=>whnf);first|with_reducible refine Bf.D (λa=>?_) (λa=>?_)|refine C7 (aE _ _ _) ?_|refine C7 q ?_|refine C7 c10 ?_|refine C7 c11 ?_|refine Bf.f em ?_)
  all_goals first
   |rfl
   | exact U0 (λz=>[B z]) ((by simp;done))
   |(exfalso;omega)
 ·cases e12:ja h.Job<;>rw[e12]at c12
  all_goals
   repeat'(first|refine gD ?_|(conv=>whnf);first|with_reducible (first|refine Bf.D (λa=>?_) (λa=>?_)|refine Bf.D (λa=>?_) (λa=>?_))|refine C7 (aE _ _ _) ?_|refine C7 q ?_|refine C7 c10 ?_|refine C7 c12 ?_|refine C7 c13 ?_|refine C7 c14 ?_|refine Bf.t em ?_)
   all_goals first
    | exact U0 (λz=>[B z]) ((by grind))
    |(exfalso;omega)
set_option maxHeartbeats 4000000
def sorted(xs:List Int):List Int:=xs.mergeSort λx y=>decide (x<=y)
theorem wJ(xs:List Int):(sorted xs).length=xs.length:=List.length_mergeSort ..
theorem E6{w a:World}{g n:Nat}{d:Array Int}{f:Array Obj}{c:Array Value}{e:TypeId}{k:Nat × Nat}(l:w.heap[g]? = some (.cells c e k))(p:a=Sort.grow (Sort.putRow (Value.int .i64) (Sort.ahead w n) g 0 d) f) :
  a.os=w.os/\a.tape=w.tape/\a.output=w.output/\w.heap.size<=a.heap.size/\(∀b,b<w.heap.size->b≠g->a.heap[b]? = w.heap[b]?)/\a.heap[g]? = some (.cells (Sort.putCells (Value.int .i64) 0 d c) e k):=by
 subst p;have h:g<w.heap.size:=(C3.1 l).1;have o:∀b,b<w.heap.size->(Sort.grow (Sort.putRow (Value.int .i64) (Sort.ahead w n) g 0 d) f).heap[b]? = if g=b then(w.heap[b]?).map (Sort.onCells (Sort.putCells (Value.int .i64) 0 d)) else w.heap[b]?:=λb i=>by
  rw[Sort.heap_grow_old _ _ (by simpa[Sort.putRow,Sort.mapBlock,Sort.ahead] using i)];show(w.heap.modify g _)[b]? = _;rw[Array.getElem?_modify]
 refine⟨rfl,rfl,rfl,?_,λb i j=>?_,?_⟩
 ·show w.heap.size<=((w.heap.modify g _)++f).size
  simp
 ·rw[o b i,C8 λe=>j e.symm]
 ·rw[o g h,C9 rfl,l];rfl
theorem Me(d:Array Int)(c:Array Value)(q:Nat):(Sort.putCells (Value.int .i64) 0 d c)[q]? = if q<d.size then(c[q]?).map (λ_=>.int .i64 d[q]!) else c[q]?:=by
 unfold Sort.putCells;rw[Array.getElem?_mapIdx];by_cases h:q<d.size
 ·rw[C9 h]
  cases c[q]? with
  | none=>rfl
  | some y=>simp[h]
 ·rw[C8 h]
  cases c[q]? with
  | none=>rfl
  | some y=>simp[h]
theorem row1{w:World}{S Y:ac}{c:C}{v:Value}(h:ec w S Y c v):cI w S Y [c] (λ_=>v):=by
 refine⟨λ_=>Y,λj e a=>?_,λ_ _ _ _ h=>h,λj f a b d=>?_⟩
 ·cases j with
  | zero=>simp at a;subst a;exact h
  | succ j=>simp at a
 ·simp at a b;omega
def Q3(Y:ac):Nat->ac
 | 0=>Y
 | _+1=>NO
theorem Ep(xs:List Int){j:Nat}(a:j<xs.length):xs.toArray[j]! = xs[j]:=by
 rw[getElem!_pos xs.toArray j (by simpa using a)];simp
theorem Mw(xs:List Int)(hl:xs.length<=1048576*64):aQ Tryz.prog 175 false [.mut none (aD .own xs)] [.mut none (aD .own (sorted xs))] (.tup []) []:=by
 refine⟨⟨_,Tryz.func175,by kernel_rfl,by kernel_rfl⟩,λw S V vs hS hV hVV hA=>?_⟩
 match vs,hA with
 | [v],⟨hA,_⟩=>
  have E:=bC.rep1 (show bC w S (V 0) none [C.s .own (xs.map (rI .own))] v from hA);generalize D:C.s .own (xs.map (rI .own))=cc at E;cases E with
  | nil _ o a ho=>
   cases R:xs with
   | cons x xs'=>rw[R]at D;cases D
   | nil=>
    refine(Tryz.slices_Sort_int_none a 0 w).mono λe d ⟨he,G⟩=>?_
    subst G;refine⟨.tuple #[],he,CW _ _,NO,λ_=>NO,NO,λ_ _ h=>h.elim,λ_ _ _ h=>h.elim,λ_ _ h=>h.elim,λ_ _ _ _ _ h=>h.elim,λ_ _ _ h=>h.elim,λ_ _ h=>h.elim,λ_ _ _ h=>h.elim,⟨#[],rfl,trivial,rfl⟩,cI.nil _ _ _ _,⟨⟨rfl,λ_=>.slice a 0 0,rfl,row1 (by rw[show sorted []=[] from List.mergeSort_nil ..];exact .nil _ .own _ trivial)⟩,trivial⟩⟩
  | own _ o g k n H rows u f ho O hk T U W hu hf hd hc=>
   cases D;have hnx:n=xs.length:=by rw[<-O,X0]
   have X:0<xs.length:=ω
   have hk1:k=1:=by
    have:=hk (rI .own xs[0]) (Z3.2 ⟨_,List.getElem_mem X,rfl⟩);exact this.symm
   subst hk1 hnx;have t:∀j (y:j<xs.length),cel w g j=some (.int .i64 xs[j]):=λj y=>by
    have J:=hu j ω;have Y:=hc j 0 (rI .own xs[j]) (I xs[j]) (by rw[Z2,Z1 y];rfl) rfl;rw[Nat.mul_one,Nat.add_zero]at Y;rw[J];generalize u j=z at Y;cases Y
    rfl
   have hgs:g<w.heap.size:=(hV 0 g 0 (W 0 ω).1).1;obtain⟨c,e0,fr,hg,-⟩:=Sort.cells_of_cell? (t 0 X);have hH:Sort.Holds (Value.int .i64) w g 0 xs.toArray:=λj y=>by
    have Z:j<xs.length:=by simpa using y
    refine⟨?_,?_⟩
    ·rw[Ep xs Z,Y5];exact t j Z
    ·rw[Y5];exact U0 Prod.fst (W j ω).2.2
   refine(Tryz.slices_Sort_int g 0 H xs w hH hgs ω).mono λe d ⟨he,m,os,G⟩=>?_
   obtain⟨q1,q2,q3,q4,q5,q6⟩:=E6 hg G;have hsl:=wJ xs;have B:∀q,cel w g q=c[q]?:=λq=>by show World.cell? w _=_;unfold World.cell?;simp[hg]
   have l:∀q,cel d g q=if q<xs.length then(c[q]?).map (λ_=>.int .i64 (sorted xs).toArray[q]!) else c[q]?:=λq=>by
    have J:=Me (sorted xs).toArray c q;have Y:(sorted xs).toArray.size=xs.length:=by simpa using hsl
    rw[Y]at J;rw[<-J];show World.cell? d _=_;unfold World.cell?;simp[q6,sorted]
   have p:∀q (P:q<xs.length),cel d g q=some (.int .i64 ((sorted xs)[q]'(ω))):=λq P=>by
    have J:=t q P;rw[B]at J;rw[l,C9 P,J,W4,Ep (sorted xs) ω]
   have F:∀q,fro d g q=fro w g q:=λq=>by
    refine Prod.ext ?_ ?_
    ·show World.frozen? d _=World.frozen? w _
     unfold World.frozen?;simp[q6,hg]
    ·show mp d g=mp w g
     unfold mp;rw[q6,hg]
   have hother:∀b,b<w.heap.size->b≠g->∀o,cel d b o=cel w b o/\fro d b o=fro w b o:=λb K L o=>by
    have M:=q5 b K L;refine⟨?_,Prod.ext ?_ ?_⟩
    ·show World.cell? d _=World.cell? w _
     unfold World.cell?;simp only[M]
    ·show World.frozen? d _=World.frozen? w _
     unfold World.frozen?;simp only[M]
    ·show mp d b=mp w b
     unfold mp;rw[M]
   have N:bA (λb o=>∃i,V i b o) w d:=by
    refine⟨q1,q2,q3,q4,λb K O=>q5 b K λe=>?_,λb o K O=>?_,λb o K O=>?_⟩
    ·subst e;exact O 0 ⟨0,(W 0 ω).1⟩
    ·by_cases e:b=g
     ·subst e
      have ho:¬o<xs.length:=λh=>O ⟨0,(W o ω).1⟩
      rw[l,C8 ho,B]
     ·exact(hother b K e o).1
    ·by_cases e:b=g
     ·subst e;exact F o
     ·exact(hother b K e o).2
   refine⟨.tuple #[],he,N,NO,Q3 (V 0),NO,λ_ _ h=>h.elim,λi b o h=>?_,λ_ _ h=>h.elim,λi i' L b o h h'=>?_,λ_ _ _ h=>h.elim,λ_ _ h=>h.elim,λ_ _ _ _ h=>h.elim,⟨#[],rfl,trivial,rfl⟩,cI.nil _ _ _ _,⟨⟨rfl,λ_=>.slice (some ⟨g,0,none⟩) xs.length H,rfl,row1 ?_⟩,trivial⟩⟩
   ·cases i with
    | zero=>exact .inl ⟨0,h⟩
    | succ i=>exact h.elim
   ·cases i with
    | zero=>
     cases i' with
     | zero=>exact L rfl
     | succ i'=>exact h'.elim
    | succ i=>exact h.elim
   ·show ec d _ (V 0) _ _
    refine .own _ .own g 1 xs.length H _ (λq=>(cel d g q).getD undef) (λ_=>NO) trivial (by rw[X0,hsl]) (λr hr=>by obtain⟨z,-,rfl⟩:=Z3.1 hr;rfl) T U (λq P=>?_) (λq P=>?_) (λ_ _ _ _ h=>h.elim) (λ_ _ _ _ _ _ _ h=>h.elim) (λi j r c2 Q y=>?_)
    ·obtain⟨a1,⟨z,a2,a3⟩,a4⟩:=W q P
     refine⟨a1,?_,(F q).trans a4⟩;by_cases hqx:q<xs.length
     ·exact⟨_,p q hqx,rfl⟩
     ·rw[l,C8 hqx,<-B];exact⟨z,a2,a3⟩
    ·rw[p q ω];rfl
    ·rw[Z2]at Q
     have hil:i<(sorted xs).length:=by
      rcases Nat.lt_or_ge i (sorted xs).length with h|h
      ·exact h
      ·rw[I2 h]at Q;cases Q
     rw[Z1 hil]at Q;simp only[W4,W0]at Q;subst Q
     match j,y with
     | 0,y=>
      simp only[rI,List.getElem?_cons_zero,W0]at y;subst y;simp only[Nat.mul_one,Nat.add_zero,p i ω,Option.getD_some];exact .v _ _ rfl
     | j+1,y=>simp[rI]at y
  | _=>cases D
set_option maxHeartbeats 8000000
def kr(s:au)(k:Nat):Int:=16*s.Page+(k:Nat)*csz s.Class
def dE(s:au)(n:Nat):List Int:=((List.range n).filter λk=>aX s.Bits (k:Nat)).map (kr s)
theorem zw{s:au}{n:Nat}(h:aX s.Bits (n:Nat)=true):dE s (n+1)=dE s n++[kr s n]:=by
 unfold dE;rw[List.range_succ,List.filter_append,v5];simp[h]
theorem Dt{s:au}{n:Nat}(h:aX s.Bits (n:Nat)=false):dE s (n+1)=dE s n:=by
 unfold dE;rw[List.range_succ,List.filter_append,v5];simp[h]
theorem qE(s:au)(n:Nat):(dE s n).length<=n:=by
 unfold dE;rw[X0];exact O4 (List.length_filter_le ..) (by simp)
def eK(sp:List au):List Int:=sp.flatMap λs=>dE s (slots s.Class).toNat
def live0(sp:List au)(la:List ax):List Int:=eK sp++la.map λl=>16*l.Page
def mT(sp:List au)(la:List ax):List Int:=sorted (live0 sp la)
theorem qJ(k:Int):0<=slots k/\slots k<=16:=by
 unfold slots;(repeat' split)<;>decide
theorem y3{k:Int}(h:0<=k/\k<=3):slots k*csz k=16:=by
 obtain rfl|rfl|rfl|rfl:k=0\/k=1\/k=2\/k=3:=ω
 all_goals decide
theorem xq{sp:List au}{i:Nat}{s:au}(h:sp[i]? = some s):eK (sp.take (i+1))=eK (sp.take i)++dE s (slots s.Class).toNat:=by
 unfold eK;rw[Z4,h,List.flatMap_append];simp
theorem xX(s:au)(k:Nat)(a:bg s=true)(i:(k:Int)<slots s.Class):ao Tryz.prog 174 false [.val (some 3) (au.enc .imm s),.val none [I (k:Nat)]] .one [I (kr s k)]:=by
 have b:=ic s;have c:=dP s.Class;have g:=iq s.Class;rw[a]at b;have d:=aF a;have j:=qJ s.Class;rcases cx ⟨d.2.2.1,d.2.2.2⟩ with e|e|e|e<;>rw[e]at c
 all_goals
  refine fO 26 [(3,9,[17,18,19,20,21,22,23,24,25])] Tryz.func174 rfl ?_
  repeat'(first|refine gD ?_|(conv=>whnf);first|with_reducible refine Bf.D (λh=>?_) (λh=>?_)|refine C7 b ?_|refine C7 c ?_|refine C7 g ?_|refine C7 (aO _ 0 _) ?_)
  all_goals exact U0 (λz=>[I z]) (by unfold kr;rw[e];omega)
theorem wQ(sp:List au)(la:List ax)(d:dy sp)(e:dx la)(b:bj sp la=true):ao Tryz.prog 79 false [.val none (cr .imm sp),.val none (bQ .imm la)] .one (aD .own (mT sp la)):=by
 have E:=d.1;have F:=e.1;have D:=pw sp la d e;rw[b]at D;obtain⟨p,G,-⟩:=di b;refine fP 56 [(175,[1])] [] Tryz.func79 rfl ?_ (.inr (bG _))
 repeat'(first|refine gO ?_|(conv=>whnf);first|refine C7 D ?_)
 (conv=>whnf)
 refine CE (ι:=Nat × List Int) (λi=>[(1,.hold .one (bQ .imm la)),(5,.hold .one (aD .own i.2)),(16,.hold .one (cr .imm sp)),(17,.hold .one [I (sp.length)]),(18,.hold .one [I ((i.1:Nat):Int)])]) (λi=>i.1<=sp.length/\i.2=eK (sp.take i.1)/\i.2.length<=16*i.1) (λi=>sp.length - i.1) ((0,[])) ?_ (⟨T0 _,rfl,T0 _⟩) λi g=>?_
 ·exact wB
 obtain⟨i,S⟩:=i;obtain⟨g,n,H⟩:=g;simp only at g n H |-;by_cases o:i<sp.length
 ·have c:=ah o
  have h:bg (nth sp i)=true:=M7 p o;have J:=qJ (nth sp i).Class;have q:=fe h
  repeat'(first|refine gD ?_|(conv=>whnf);first|with_reducible refine CB (aa c) ?_)
  (conv=>whnf)
  refine CE (ι:=Nat × List Int) (λk=>[(1,.hold .one (bQ .imm la)),(5,.hold .one (aD .own k.2)),(7,.hold .box (au.enc .imm (nth sp i))),(8,.hold .one [I ((k.1:Nat):Int)]),(16,.hold .one (cr .imm sp)),(17,.hold .one [I (sp.length)]),(18,.hold .one [I ((i:Nat):Int)])]) (λk=>k.1<=(slots (nth sp i).Class).toNat/\k.2=S++dE (nth sp i) k.1) (λk=>(slots (nth sp i).Class).toNat - k.1) ((0,S)) ?_ (⟨T0 _,by simp[dE]⟩) λk t=>?_
  ·exact wB
  obtain⟨k,S2⟩:=k;obtain⟨t,a⟩:=t;simp only at t a |-;have K:=qE (nth sp i) k;have j:S2.length=S.length+(dE (nth sp i) k).length:=by rw[a,v3]
  by_cases M:k<(slots (nth sp i).Class).toNat
  ·have u:=m8 (nth sp i).Bits (k:Nat) q.2
   cases w:aX (nth sp i).Bits (k:Nat)<;>rw[w]at u
   ·repeat'(first|refine gD ?_|(conv=>whnf);first|refine C7 (iq _) ?_|refine C7 u ?_)
    ((conv=>whnf);refine CC (k+1,S2) ⟨(by simp only;omega),(by simp only;rw[Dt w];exact a)⟩ (by simp only;omega) ?_;(exact wB))
   ·repeat'(first|refine gD ?_|(conv=>whnf);first|refine C7 (iq _) ?_|refine C7 u ?_|refine C7 (xX (nth sp i) k h ω) ?_|refine CP bV (λr y=>by rw[C1.1 y];rfl) (by simp[aV,dz]) (by simp;omega) (by show _*8<=_;simp;omega) rfl ?_)
    ((conv=>whnf)
     refine CC (k+1,S2++[kr (nth sp i) k]) ⟨(by simp only;omega),(by simp only;rw[zw w,a,t5])⟩ (by simp only;omega) ?_
     (repeat'(first|exact trivial|rfl|exact CI rfl (CI (U0 (C.s du.own) (by simp[rI])) trivial)|refine CI ?_ ?_)))
  ·obtain rfl:k=(slots (nth sp i).Class).toNat:=ω
   repeat'(first|refine gD ?_|(conv=>whnf);first|refine C7 (iq _) ?_)
   ((conv=>whnf);refine CC (i+1,S2) ⟨(by simp only;omega),(by simp only;rw[xq c,<-n,a]),(by simp only;omega)⟩ (by simp only;omega) ?_;(exact wB))
 obtain rfl:i=sp.length:=ω
 rw[V4]at n
 repeat'(first|refine gD ?_|fail)
 (conv=>whnf)
 refine CE (ι:=Nat × List Int) (λi=>[(5,.hold .one (aD .own i.2)),(40,.hold .one (bQ .imm la)),(41,.hold .one [I (la.length)]),(42,.hold .one [I ((i.1:Nat):Int)])]) (λi=>i.1<=la.length/\i.2=S++(la.take i.1).map (λl=>16*l.Page)) (λi=>la.length - i.1) ((0,S)) ?_ (⟨T0 _,by simp⟩) λi g=>?_
 ·exact wB
 obtain⟨i,S2⟩:=i;obtain⟨B,a⟩:=g;simp only at B a |-;have j:S2.length=S.length+i:=by rw[a,v3,X0,O1];omega
 by_cases o:i<la.length
 ·have c:=ah o
  have L:=rH b c
  repeat'(first|refine gD ?_|(conv=>whnf);first|with_reducible refine CB (aa c) ?_|refine CP bV (λr y=>by rw[C1.1 y];rfl) (by simp[aV,dz]) (by simp;omega) (by show _*8<=_;simp;omega) rfl ?_)
  ((conv=>whnf)
   refine CC (i+1,S2++[16*(nth la i).Page]) ⟨(by simp only;omega),(by simp only;rw[a,Z4,c];simp)⟩ (by simp only;omega) ?_
   (repeat'(first|exact trivial|rfl|exact CI rfl (CI (U0 (C.s du.own) (by simp[rI];omega)) trivial)|refine CI ?_ ?_)))
 obtain rfl:i=la.length:=ω
 rw[V4]at a
 repeat'(first|refine gD ?_|(conv=>whnf);first|refine CH (Mw S2 ω) (.inl rfl) ?_)
 show _=aD .own (sorted (eK sp++la.map λl=>16*l.Page));rw[<-n,<-a];rfl
def pn(b:List (Int × Value))(L:List Int):Prop:=∀a,mlook b a (.int .i64 0)=.int .i64 (L.count a:Nat)
theorem Hb(f:List (Int × Value))(a b:Int)(v d:Value):mlook (mput f a v) b d=if a=b then v else mlook f b d:=by
 induction f with
 | nil=>simp only[mput,mlook]
 | cons p f g=>
  simp only[mput];by_cases h:p.1=a
  ·rw[C9 h]
   simp only[mlook];by_cases c:a=b
   ·rw[C9 c,C9 c]
   ·rw[C8 c,C8 c,C8 (by rw[h];exact c)]
  ·rw[C8 h]
   simp only[mlook];by_cases c:p.1=b
   ·rw[C9 c,C9 c,C8 (λe=>h (c.trans e.symm))]
   ·rw[C8 c,C8 c,g]
def inc(b:List (Int × Value))(L:List Int)(a:Int):List (Int × Value):=mput b a (.int .i64 ((L.count a:Nat)+1))
theorem Hr:pn [] []:=λ_=>rfl
theorem oq{d:List (Int × Value)}{L:List Int}(h:pn d L)(a:Int):pn (inc d L a) (L++[a]):=λb=>by
 unfold inc;rw[Hb,I5];by_cases c:a=b
 ·subst c;rw[C9 rfl,List.count_singleton_self];simp
 ·rw[C8 c,h b,List.count_singleton,C8 (by simpa using c)];rfl
theorem Be(h:ab)(d:dy h.Spans)(e:dx h.Larges)(b:List (Int × Value))(L:List Int)(a c:Int)(g:pn b L)(n:L.length<=1000000000) :
  aQ Tryz.prog 170 false [.val none [I a],.val none [I c],.ptr [.m b],.ptr (ab.enc .imm h)] [.val none [I a],.val none [I c],.ptr [.m (inc b L a)],.ptr (ab.enc .imm h)] .one [B (db h a c)]:=by
 have k:=jE h.Spans h.Larges a d e;obtain⟨i,-⟩:=mh h.Spans h.Larges a;have l:L.count a<=L.length:=List.count_le_length;unfold db;generalize denotes h.Spans h.Larges a=w at k i |-;refine fM 41 [] [] [(0,0),(0,0),(0,0),(0,0)] Tryz.func170 rfl (λu q=>?_)
 repeat'(first|refine gO ?_|(conv=>whnf);first|with_reducible (first|refine Bf.D (λj=>?_) (λj=>?_)|refine Bf.E (λj=>?_) (λj=>?_))|refine Ml.mk (g a) ?_|refine Mu.mk (es':=inc b L a) rfl ?_|refine C7 k ?_|refine CK (i (by assumption)).1 (aa (ah (i (by assumption)).2)) ?_)
 all_goals
  refine CF rfl ?_ ?_
  ·exact U0 (λz=>[B z]) ((by grind))
  ·exact wB
set_option maxHeartbeats 8000000
def qD(h:ab)(a:aL):Bool:=gC h a&&decide (a.Since<=h.Clock)
def lL(h:ab):List Int:=((cq h++h.Quar.Lst.map (·.Addr))++aN h.Mail)++h.Objs.map (·.Addr)
def jm(h:ab):Bool:=((h.Caches.all (en h)&&h.Quar.Lst.all (qD h))&&(aN h.Mail).all (jw h))&&(mT h.Spans h.Larges).all λa=>decide ((lL h).count a=1)
theorem MI{h:ab}(h1:h.Caches.all (en h)=false):jm h=false:=by unfold jm;rw[h1];rfl
theorem G8{h:ab}(h1:h.Quar.Lst.all (qD h)=false):jm h=false:=by unfold jm;rw[h1];simp
theorem Nf{h:ab}(h1:(aN h.Mail).all (jw h)=false):jm h=false:=by unfold jm;rw[h1];simp
theorem Nb{h:ab}(h1:((mT h.Spans h.Larges).all λa=>decide ((lL h).count a=1))=false):jm h=false:=by unfold jm;rw[h1];simp
theorem Hm{sp:List au}{la:List ax}(h1:sp.length<=1048576)(b:la.length<=1048576):(mT sp la).length<=100000000:=by
 have a:∀(l:List au),(eK l).length<=16*l.length:=by
  intro l
  induction l with
  | nil=>exact T0 _
  | cons s l c=>
   have e:eK (s::l)=dE s (slots s.Class).toNat++eK l:=by unfold eK;rw[W5]
   have d:=qJ s.Class;have f:=qE s (slots s.Class).toNat;rw[e,v3,List.length_cons];omega
 have g:=a sp;unfold mT live0;rw[wJ,v3,X0];omega
theorem vu(h:ab)(hs:ab.sml h)(S:bj h.Spans h.Larges=true)(M:bI h.Mail=true)(hco:∀c∈h.Caches,bo c=true):ao Tryz.prog 74 false [.val (some 24) (ab.enc .imm h)] .one [B (jm h)]:=by
 obtain⟨-,-,t,u,hso,hsc,hsm,hsq,-⟩:=hs;have hlo:h.Objs.length<=1048576:=hso.1;have hlc:h.Caches.length<=1048576:=hsc.1;have hlq:h.Quar.Lst.length<=1048576:=hsq.1;have hfl:=qS M;have w:jm h=false->[B false]=[B (jm h)]:=λe=>by rw[e]
 refine fP 114 [(170,[0,0,2,2])] [] Tryz.func74 rfl ?_
 repeat'(first|refine gO ?_|fail)
 (conv=>whnf)
 refine CE (ι:=Nat × List (Int × Value) × List Int) (λi=>[(1,.hold .box (ab.enc .imm h)),(3,.hold .box [.m i.2.1]),(4,.fn 170 [3,1]),(22,.hold .one (nN .imm h.Caches)),(23,.hold .one [I (h.Caches.length)]),(24,.hold .one [I ((i.1:Nat):Int)])]) (λi=>i.1<=h.Caches.length/\pn i.2.1 i.2.2/\i.2.2=((h.Caches.take i.1).flatMap λc=>c.Lists.flatten)/\(h.Caches.take i.1).all (en h)=true/\i.2.2.length<=32*i.1) (λi=>h.Caches.length - i.1) ((0,[],[])) ?_ (⟨T0 _,Hr,rfl,rfl,T0 _⟩) λi hi=>?_
 ·exact wB
 obtain⟨i,es,L⟩:=i;obtain⟨hi,O,X,Y,hb⟩:=hi;simp only at hi O X Y hb |-;by_cases li:i<h.Caches.length
 ·have T:=ah li
  obtain⟨h4,h8⟩:=tQ (hco _ (am li))
  repeat'(first|refine gD ?_|(conv=>whnf);first|with_reducible refine CB (aa T) ?_)
  (conv=>whnf)
  refine CE (ι:=Nat × List (Int × Value) × List Int) (λk=>[(1,.hold .box (ab.enc .imm h)),(3,.hold .box [.m k.2.1]),(4,.fn 170 [3,1]),(22,.hold .one (nN .imm h.Caches)),(23,.hold .one [I (h.Caches.length)]),(24,.hold .one [I ((i:Nat):Int)]),(29,.hold .one (iR .imm (nth h.Caches i).Lists)),(30,.hold .one [I ((nth h.Caches i).Lists.length)]),(31,.hold .one [I ((k.1:Nat):Int)])]) (λk=>k.1<=(nth h.Caches i).Lists.length/\pn k.2.1 k.2.2/\k.2.2=L++((nth h.Caches i).Lists.take k.1).flatten/\cK k.1 (qQ h (nth h.Caches i))=true/\k.2.2.length<=L.length+8*k.1) (λk=>(nth h.Caches i).Lists.length - k.1) ((0,es,L)) ?_ (⟨T0 _,O,by simp,rfl,by simp⟩) λk hk=>?_
  ·exact wB
  obtain⟨k,es3,Z⟩:=k;obtain⟨hk,y,K,ak,hb3⟩:=hk;simp only at hk y K ak hb3 |-;by_cases lk:k<(nth h.Caches i).Lists.length
  ·have hy:=ah lk
   have hl8:=h8 _ (am lk)
   repeat'(first|refine gD ?_|(conv=>whnf);first|with_reducible (first|refine CB (aa T) ?_|refine CB (aa hy) ?_))
   (conv=>whnf)
   refine CE (ι:=Nat × List (Int × Value) × List Int) (λj=>[(1,.hold .box (ab.enc .imm h)),(3,.hold .box [.m j.2.1]),(4,.fn 170 [3,1]),(7,.hold .one [I ((k:Nat):Int)]),(22,.hold .one (nN .imm h.Caches)),(23,.hold .one [I (h.Caches.length)]),(24,.hold .one [I ((i:Nat):Int)]),(29,.hold .one (iR .imm (nth h.Caches i).Lists)),(30,.hold .one [I ((nth h.Caches i).Lists.length)]),(31,.hold .one [I ((k:Nat):Int)]),(36,.hold .one (aD .imm (nth (nth h.Caches i).Lists k))),(37,.hold .one [I ((nth (nth h.Caches i).Lists k).length)]),(38,.hold .one [I ((j.1:Nat):Int)])]) (λj=>j.1<=(nth (nth h.Caches i).Lists k).length/\pn j.2.1 j.2.2/\j.2.2=Z++(nth (nth h.Caches i).Lists k).take j.1/\((nth (nth h.Caches i).Lists k).take j.1).all (λa=>db h a (k:Nat))=true) (λj=>(nth (nth h.Caches i).Lists k).length - j.1) ((0,es3,Z)) ?_ (⟨T0 _,y,by simp,rfl⟩) λj hj=>?_
   ·exact wB
   obtain⟨j,es4,U⟩:=j;obtain⟨hj,l,C,aj⟩:=hj;simp only at hj l C aj |-;have hl4:U.length=Z.length+j:=by rw[C,v3,O1];omega
   by_cases lj:j<(nth (nth h.Caches i).Lists k).length
   ·have d:=ah lj
    have b:=Be h t u es4 U (nth (nth (nth h.Caches i).Lists k) j) (k:Nat) l ω;cases r:db h (nth (nth (nth h.Caches i).Lists k) j) (k:Nat)<;>rw[r]at b
    ·repeat'(first|refine gD ?_|(conv=>whnf);first|with_reducible refine CB (aa d) ?_|refine CH (b) (.inl rfl) ?_)
     exact w (MI (ee T (by unfold en;exact cj lk (ee d r))))
    ·repeat'(first|refine gD ?_|(conv=>whnf);first|with_reducible refine CB (aa d) ?_|refine CH (b) (.inl rfl) ?_)
     ((conv=>whnf)
      refine CC (j+1,inc es4 U (nth (nth (nth h.Caches i).Lists k) j),U++[nth (nth (nth h.Caches i).Lists k) j]) ⟨(by simp only;omega),oq l _,(by simp only;rw[C,Z4,d,t5];rfl),cH d aj r⟩ (by simp only;omega) ?_
      (exact wA))
   ·obtain rfl:j=(nth (nth h.Caches i).Lists k).length:=ω
    rw[V4]at C aj
    repeat'(first|refine gD ?_|fail)
    ((conv=>whnf);refine CC (k+1,es4,U) ⟨(by simp only;omega),l,(by simp only;rw[C,K,vG hy,t5]),bM ak aj,(by simp only;omega)⟩ (by simp only;omega) ?_;(exact wB))
  ·obtain rfl:k=(nth h.Caches i).Lists.length:=ω
   rw[V4]at K
   repeat'(first|refine gD ?_|fail)
   ((conv=>whnf);refine CC (i+1,es3,Z) ⟨(by simp only;omega),y,(by simp only;rw[K,X,tJ T]),cH T Y ak,(by simp only;omega)⟩ (by simp only;omega) ?_;(exact wB))
 obtain rfl:i=h.Caches.length:=ω
 rw[V4]at X Y
 repeat'(first|refine gD ?_|fail)
 (conv=>whnf)
 refine CE (ι:=Nat × List (Int × Value) × List Int) (λq=>[(1,.hold .box (ab.enc .imm h)),(3,.hold .box [.m q.2.1]),(4,.fn 170 [3,1]),(52,.hold .one (ce .imm h.Quar.Lst)),(53,.hold .one [I (h.Quar.Lst.length)]),(54,.hold .one [I ((q.1:Nat):Int)])]) (λq=>q.1<=h.Quar.Lst.length/\pn q.2.1 q.2.2/\q.2.2=L++(h.Quar.Lst.take q.1).map (·.Addr)/\(h.Quar.Lst.take q.1).all (qD h)=true) (λq=>h.Quar.Lst.length - q.1) ((0,es,L)) ?_ (⟨T0 _,O,by simp,rfl⟩) λq E=>?_
 ·exact wB
 obtain⟨q,es5,P⟩:=q;obtain⟨F,o,G,aq⟩:=E;simp only at F o G aq |-;have hl5:P.length=L.length+q:=by rw[G,v3,X0,O1];omega
 by_cases V:q<h.Quar.Lst.length
 ·have d:=ah V
  have b:=Be h t u es5 P (nth h.Quar.Lst q).Addr (nth h.Quar.Lst q).Class o ω;cases r:db h (nth h.Quar.Lst q).Addr (nth h.Quar.Lst q).Class<;>rw[r]at b
  ·repeat'(first|refine gD ?_|(conv=>whnf);first|with_reducible (first|refine CB (aa d) ?_|refine Bf.D (λE=>?_) (λE=>?_))|refine CH (b) (.inl rfl) ?_)
   all_goals exact w (G8 (ee d (by unfold qD gC;rw[r];rfl)))
  ·repeat'(first|refine gD ?_|(conv=>whnf);first|with_reducible (first|refine CB (aa d) ?_|refine Bf.D (λE=>?_) (λE=>?_))|refine CH (b) (.inl rfl) ?_)
   all_goals first
    |exact w (G8 (ee d (by unfold qD gC;rw[r,R0 ω];rfl)))
    | ((conv=>whnf)
       refine CC (q+1,inc es5 P (nth h.Quar.Lst q).Addr,P++[(nth h.Quar.Lst q).Addr]) ⟨(by simp only;omega),oq o _,(by simp only;rw[G,Z4,d,v5,t5];rfl),cH d aq (by unfold qD gC;rw[r,O0 ω];rfl)⟩ (by simp only;omega) ?_
       (exact wA))
 obtain rfl:q=h.Quar.Lst.length:=ω
 rw[V4]at G aq
 repeat'(first|refine gD ?_|(conv=>whnf);first|refine C7 (xZ h.Mail hsm) ?_)
 (conv=>whnf)
 refine CE (ι:=Nat × List (Int × Value) × List Int) (λq=>[(1,.hold .box (ab.enc .imm h)),(3,.hold .box [.m q.2.1]),(4,.fn 170 [3,1]),(75,.hold .one (aD .own (aN h.Mail))),(76,.hold .one [I ((aN h.Mail).length)]),(77,.hold .one [I ((q.1:Nat):Int)])]) (λq=>q.1<=(aN h.Mail).length/\pn q.2.1 q.2.2/\q.2.2=P++(aN h.Mail).take q.1/\((aN h.Mail).take q.1).all (jw h)=true) (λq=>(aN h.Mail).length - q.1) ((0,es5,P)) ?_ (⟨T0 _,o,by simp,rfl⟩) λq E=>?_
 ·exact wB
 obtain⟨q,es6,Q⟩:=q;obtain⟨F,p,H,aq6⟩:=E;simp only at F p H aq6 |-;have hl6:Q.length=P.length+q:=by rw[H,v3,O1];omega
 by_cases V:q<(aN h.Mail).length
 ·have d:=ah V
  have b:=Be h t u es6 Q (nth (aN h.Mail) q) (-1) p ω;cases r:db h (nth (aN h.Mail) q) (-1)<;>rw[r]at b
  ·repeat'(first|refine gD ?_|(conv=>whnf);first|with_reducible refine CB (aa d) ?_|refine CG rfl (aa d) rfl ?_|refine CH (b) (.inl rfl) ?_)
   exact w (Nf (ee d r))
  ·repeat'(first|refine gD ?_|(conv=>whnf);first|with_reducible refine CB (aa d) ?_|refine CG rfl (aa d) rfl ?_|refine CH (b) (.inl rfl) ?_)
   ((conv=>whnf)
    refine CC (q+1,inc es6 Q (nth (aN h.Mail) q),Q++[nth (aN h.Mail) q]) ⟨(by simp only;omega),oq p _,(by simp only;rw[H,Z4,d,t5];rfl),cH d aq6 r⟩ (by simp only;omega) ?_
    (exact wA))
 obtain rfl:q=(aN h.Mail).length:=ω
 rw[V4]at H aq6
 repeat'(first|refine gD ?_|fail)
 (conv=>whnf)
 refine CE (ι:=Nat × List (Int × Value) × List Int) (λq=>[(1,.hold .box (ab.enc .imm h)),(3,.hold .box [.m q.2.1]),(87,.hold .one (kh .imm h.Objs)),(88,.hold .one [I (h.Objs.length)]),(89,.hold .one [I ((q.1:Nat):Int)])]) (λq=>q.1<=h.Objs.length/\pn q.2.1 q.2.2/\q.2.2=Q++(h.Objs.take q.1).map (·.Addr)) (λq=>h.Objs.length - q.1) ((0,es6,Q)) ?_ (⟨T0 _,p,by simp⟩) λq E=>?_
 ·exact wB
 obtain⟨q,es7,R⟩:=q;obtain⟨F,g,J⟩:=E;simp only at F g J |-;have hl7:R.length=Q.length+q:=by rw[J,v3,X0,O1];omega
 by_cases V:q<h.Objs.length
 ·have d:=ah V
  have hcl:R.count (nth h.Objs q).Addr<=R.length:=List.count_le_length
  repeat'(first|refine gD ?_|(conv=>whnf);first|with_reducible refine CB (aa d) ?_|refine Ml.mk (g _) ?_|refine Mu.mk (es':=inc es7 R (nth h.Objs q).Addr) rfl ?_)
  ((conv=>whnf)
   refine CC (q+1,inc es7 R (nth h.Objs q).Addr,R++[(nth h.Objs q).Addr]) ⟨(by simp only;omega),oq g _,(by simp only;rw[J,Z4,d,v5,t5];rfl)⟩ (by simp only;omega) ?_
   (exact wA))
 obtain rfl:q=h.Objs.length:=ω
 rw[V4]at J;have W:R=lL h:=by rw[J,H,G,X];rfl
 have hlv:=Hm t.1 u.1
 repeat'(first|refine gD ?_|(conv=>whnf);first|refine C7 (wQ h.Spans h.Larges t u S) ?_)
 (conv=>whnf)
 refine CE (ι:=Nat) (λn=>[(3,.hold .box [.m es7]),(103,.hold .one (aD .own (mT h.Spans h.Larges))),(104,.hold .one [I ((mT h.Spans h.Larges).length)]),(105,.hold .one [I ((n:Nat):Int)])]) (λn=>n<=(mT h.Spans h.Larges).length/\((mT h.Spans h.Larges).take n).all (λa=>decide ((lL h).count a=1))=true) (λn=>(mT h.Spans h.Larges).length - n) (0) ?_ (⟨T0 _,rfl⟩) λn hn=>?_
 ·exact wB
 obtain⟨hn,an⟩:=hn;by_cases ln:n<(mT h.Spans h.Larges).length
 ·have d:=ah ln
  rw[W]at g
  repeat'(first|refine gD ?_|(conv=>whnf);first|with_reducible (first|refine CB (aa d) ?_|refine Bf.N (λE=>?_) (λE=>?_))|refine CG rfl (aa d) rfl ?_|refine Ml.mk (g _) ?_)
  all_goals first
   |exact w (Nb (ee d (R0 ω)))
   | ((conv=>whnf);refine CC (n+1) ⟨ω,cH d an (O0 ω)⟩ ω ?_;(exact wB))
 ·repeat'(first|refine gD ?_|fail)
  exact U0 (λz=>[B z]) ((by unfold jm;rw[Y,aq,aq6,gt ω an];rfl))
set_option maxHeartbeats 8000000
def ju(h:ab):Bool:=(((((((aB h.Kernel&&bw (dQ h) h.Free)&&bj h.Spans h.Larges)&&(pages0 h&&mW h))&&cY h)&&h.Caches.all bo)&&(fm h&&jm h))&&cg h)&&pu h
theorem kC(h:ab)(hs:ab.sml h):ao Tryz.prog 20 false [.val (some 24) (ab.enc .imm h)] .one [B (ju h)]:=by
 have L:=hs;obtain⟨n,o,b,g,M,p,q,O,r⟩:=hs;have u:yb h:=n.1.2;have hpn:dQ h<=1048576:=u.1;have P:h.Objs.length<=1048576:=M.1;have Q:h.Caches.length<=1048576:=p.1;have hlb:h.Mail.Buffers.length<=1048576:=q.1.1;have hlp:h.Job.Plan.Cells.length<=1048576:=r;have d:=pk h.Kernel n;have e:=p6 (dQ h) h.Free ⟨ω,ω⟩ o;have i:=pw h.Spans h.Larges b g;have w:=t6 h.Mail q;have R:=tp h.Quar O;cases S:aB h.Kernel<;>rw[S]at d
 ·refine fO 154 [] Tryz.func20 rfl ?_
  repeat'(first|refine gO ?_|(conv=>whnf);first|with_reducible refine Bf.N (λa=>?_) (λa=>?_)|refine C7 d ?_)
  all_goals first
   | exact U0 (λz=>[B z]) ((by unfold ju ;rw[S];simp))
   |(exfalso;omega)
 cases T:bw (dQ h) h.Free<;>rw[T]at e
 ·refine fO 154 [] Tryz.func20 rfl ?_
  repeat'(first|refine gO ?_|(conv=>whnf);first|with_reducible refine Bf.N (λa=>?_) (λa=>?_)|refine C7 d ?_|refine C7 e ?_)
  all_goals first
   | exact U0 (λz=>[B z]) ((by unfold ju ;rw[T];simp))
   |(exfalso;omega)
 cases y:bj h.Spans h.Larges<;>rw[y]at i
 ·refine fO 154 [] Tryz.func20 rfl ?_
  repeat'(first|refine gO ?_|(conv=>whnf);first|with_reducible refine Bf.N (λa=>?_) (λa=>?_)|refine C7 d ?_|refine C7 e ?_|refine C7 i ?_)
  all_goals first
   | exact U0 (λz=>[B z]) ((by unfold ju ;rw[y];simp))
   |(exfalso;omega)
 have j:=AB h b g u o y;cases U:(pages0 h&&mW h)<;>rw[U]at j
 ·refine fO 154 [] Tryz.func20 rfl ?_
  repeat'(first|refine gO ?_|(conv=>whnf);first|with_reducible refine Bf.N (λa=>?_) (λa=>?_)|refine C7 d ?_|refine C7 e ?_|refine C7 i ?_|refine C7 j ?_)
  all_goals first
   | exact U0 (λz=>[B z]) ((by unfold ju ;rw[U];simp))
   |(exfalso;omega)
 cases J:bI h.Mail<;>rw[J]at w
 ·refine fO 154 [] Tryz.func20 rfl ?_
  repeat'(first|refine gO ?_|(conv=>whnf);first|with_reducible refine Bf.N (λa=>?_) (λa=>?_)|refine C7 d ?_|refine C7 e ?_|refine C7 i ?_|refine C7 j ?_|refine C7 w ?_)
  all_goals first
   | exact U0 (λz=>[B z]) ((by unfold ju cY;rw[J];simp))
   |(exfalso;omega)
 by_cases C:h.Caches.length=h.Mail.Buffers.length;rotate_left
 ·refine fO 154 [] Tryz.func20 rfl ?_
  repeat'(first|refine gO ?_|(conv=>whnf);first|with_reducible refine Bf.N (λa=>?_) (λa=>?_)|refine C7 d ?_|refine C7 e ?_|refine C7 i ?_|refine C7 j ?_|refine C7 w ?_)
  all_goals first
   | exact U0 (λz=>[B z]) ((by unfold ju cY;rw[R0 C];simp))
   |(exfalso;omega)
 cases V:fw h.Quar<;>rw[V]at R
 ·refine fO 154 [] Tryz.func20 rfl ?_
  repeat'(first|refine gO ?_|(conv=>whnf);first|with_reducible refine Bf.N (λa=>?_) (λa=>?_)|refine C7 d ?_|refine C7 e ?_|refine C7 i ?_|refine C7 j ?_|refine C7 w ?_|refine C7 R ?_)
  all_goals first
   | exact U0 (λz=>[B z]) ((by unfold ju cY;rw[V];simp))
   |(exfalso;omega)
 have W:cY h=true:=by unfold cY;rw[J,O0 C,V];rfl
 refine fO 154 [] Tryz.func20 rfl ?_
 repeat'(first|refine gA ?_|(conv=>whnf);first|with_reducible refine Bf.N (λa=>?_) (λa=>?_)|refine C7 d ?_|refine C7 e ?_|refine C7 i ?_|refine C7 j ?_|refine C7 w ?_|refine C7 R ?_)
 all_goals try(exfalso;omega)
 (conv=>whnf)
 refine CE (ι:=Nat) (λk=>[(1,.hold .box (ab.enc .imm h)),(57,.hold .one (nN .imm h.Caches)),(58,.hold .one [I (h.Caches.length)]),(59,.hold .one [I ((k:Nat):Int)])]) (λk=>k<=h.Caches.length/\(h.Caches.take k).all bo=true) (λk=>h.Caches.length - k) (0) ?_ (⟨T0 _,rfl⟩) λk hk=>?_
 ·exact wB
 obtain⟨hk,ak⟩:=hk;by_cases lk:k<h.Caches.length
 ·have K:=ah lk
  have X:=m0 (nth h.Caches k) (p.2 _ (am lk));cases Y:bo (nth h.Caches k)<;>rw[Y]at X
  ·repeat'(first|refine gD ?_|(conv=>whnf);first|with_reducible refine CB (aa K) ?_|refine C7 X ?_)
   exact U0 (λz=>[B z]) ((by unfold ju;rw[ee K Y];simp))
  ·repeat'(first|refine gD ?_|(conv=>whnf);first|with_reducible refine CB (aa K) ?_|refine C7 X ?_)
   ((conv=>whnf);refine CC (k+1) ⟨ω,cH K ak Y⟩ ω ?_;(exact wB))
 have F:h.Caches.all bo=true:=gt ω ak;have l:=Dl h b g P Q;have c10:=vu h L y J (V3.1 F);have c12:=Fp h.Job r;have c13:=tl h h.Job.Plan.Keep b.1;have c14:=tl h h.Job.Plan.Move b.1;cases Z:fm h<;>rw[Z]at l
 ·repeat'(first|refine gD ?_|(conv=>whnf);first|refine C7 l ?_)
  all_goals first
   | exact U0 (λz=>[B z]) ((by unfold ju;rw[Z];simp))
   |(exfalso;omega)
 cases e10:jm h<;>rw[e10]at c10
 ·repeat'(first|refine gD ?_|(conv=>whnf);first|refine C7 l ?_|refine C7 c10 ?_)
  all_goals first
   | exact U0 (λz=>[B z]) ((by unfold ju;rw[e10];simp))
   |(exfalso;omega)
 by_cases hn:cg h=true;rotate_left
 ·have G:cg h=false:=by simpa using hn
  have c:=G;unfold cg at c;rw[C4]at c
  repeat'(first|refine gD ?_|(conv=>whnf);first|with_reducible refine Bf.D (λa=>?_) (λa=>?_)|refine C7 (aO _ _ _) ?_|refine C7 (nh _) ?_|refine C7 l ?_|refine C7 c10 ?_)
  all_goals first
   | exact U0 (λz=>[B z]) ((by unfold ju;rw[G];simp))
   |(exfalso;omega)
 have c:=hn;unfold cg at c;rw[C0]at c;have H:ju h=pu h:=by unfold ju;rw[S,T,y,U,W,F,hn,Z,e10];rfl
 rw[H];unfold pu;cases em:h.Meshing
 ·repeat'(first|refine gD ?_|(conv=>whnf);first|with_reducible (first|refine Bf.D (λa=>?_) (λa=>?_)|refine Bf.E (λa=>?_) (λa=>?_))|refine C7 (aO _ _ _) ?_|refine C7 (nh _) ?_|refine C7 l ?_|refine C7 c10 ?_|refine Bf.f em ?_)
  all_goals first
   | exact U0 (λz=>[B z]) ((by unfold qA;simp only[Bool.false_eq_true,if_false];first|(symm;exact R0 ω)|(rw[I4,beq_iff_eq,C0];omega)))
   |(exfalso;omega)
 ·cases e12:ja h.Job<;>rw[e12]at c12
  all_goals
   repeat'(first|refine gD ?_|(conv=>whnf);first|with_reducible (first|refine Bf.D (λa=>?_) (λa=>?_)|refine Bf.D (λa=>?_) (λa=>?_))|refine C7 (aO _ _ _) ?_|refine C7 (nh _) ?_|refine C7 l ?_|refine C7 c10 ?_|refine C7 c12 ?_|refine C7 c13 ?_|refine C7 c14 ?_|refine Bf.t em ?_)
   all_goals first
    | exact U0 (λz=>[B z]) ((by grind))
    |(exfalso;omega)
theorem gp{α:Type}[Inhabited α]{xs:List α}{f:α->Int}(e:(xs.map f).Nodup){i j:Nat}(b:i<xs.length)(c:j<xs.length)(h:f (nth xs i)=f (nth xs j)):i=j:=by
 have d:=List.pairwise_iff_getElem.1 e;rcases Nat.lt_trichotomy i j with a|rfl|a
 ·have:=d i j (by simpa using b) (by simpa using c) a
  simp only[List.getElem_map]at this;rw[bu (Z1 b),bu (Z1 c)]at h;exact absurd h this
 ·rfl
 ·have:=d j i (by simpa using c) (by simpa using b) a
  simp only[List.getElem_map]at this;rw[bu (Z1 b),bu (Z1 c)]at h;exact absurd h.symm this
theorem bf{α:Type}[Inhabited α]{xs:List α}{x:α}(h:x∈xs):∃i,i<xs.length/\nth xs i=x:=by
 obtain⟨i,a⟩:=List.mem_iff_getElem?.1 h;exact⟨i,(C2.1 a).1,bu a⟩
theorem pD:∀{H L:List Int},H.Nodup->(∀x∈H,x∈L)->L.length<=H.length->∀x∈L,x∈H
 | [],L,_,_,c,x,d=>by
  have:L=[]:=O6 (by simpa using c);subst this;exact d
 | y::H,L,h,f,c,x,d=>by
  have i:y∈L:=f y (R1 ..);have a:=List.nodup_cons.1 h;by_cases b:x=y
  ·subst b;exact R1 ..
  ·refine X4 _ (pD (L:=L.erase y) a.2 (λz g=>?_) ?_ x ((List.mem_erase_of_ne b).2 d))
   ·exact(List.mem_erase_of_ne (λe:z=y=>a.1 (by rw[<-e];exact g))).2 (f z (X4 _ g))
   ·rw[List.length_erase_of_mem i]
    simp only[List.length_cons]at c;omega
theorem y8{H L:List Int}(f:L.Nodup)(d:∀x∈H,x∈L):(H.Nodup/\H.length=L.length)↔∀a∈L,H.count a=1:=by
 constructor
 ·rintro⟨c,k⟩ a b
  have g:=pD c d ω a b;have i:=List.nodup_iff_count.1 c a;have j:=List.count_pos_iff.2 g;omega
 ·intro e
  have c:H.Nodup:=List.nodup_iff_count.2 λa=>by
   by_cases b:a∈H
   ·rw[e a (d a b)];exact X2 1
   ·rw[List.count_eq_zero_of_not_mem b];exact T0 _
  refine⟨c,?_⟩;have:H.Perm L:=List.perm_iff_count.2 λa=>by
   by_cases b:a∈L
   ·rw[e a b]
    have i:=List.nodup_iff_count.1 f a;have j:=List.count_pos_iff.2 b;omega
   ·rw[List.count_eq_zero_of_not_mem b,List.count_eq_zero_of_not_mem λh=>b (d a h)]
  exact this.length_eq
theorem dd{l:ax}{n:Nat}{p:Int} : p∈lpgs l n↔∃k:Nat,k<n/\p=l.Page+(k:Nat):=by
 unfold lpgs;simp only[Z3,List.mem_range];constructor
 ·rintro⟨k,a,rfl⟩;exact⟨k,a,rfl⟩
 ·rintro⟨k,a,rfl⟩;exact⟨k,a,rfl⟩
structure qx(sp:List au)(la:List ax):Prop where
 sok:∀s∈sp,bg s=true
 lok:∀l∈la,bS l=true
 nd:(sp.map (·.Page)).Nodup
 dis:∀s∈sp,∀l∈la,∀k:Nat,k<l.Pages.toNat->s.Page≠l.Page+(k:Nat)
 one:∀i j,i<la.length->j<la.length->∀k k':Nat,k<(nth la i).Pages.toNat->k'<(nth la j).Pages.toNat->(nth la i).Page+(k:Nat)=(nth la j).Page+(k':Nat)->i=j
theorem qx.of{sp:List au}{la:List ax}(h:bj sp la=true):qx sp la:=by
 obtain⟨t,u,d⟩:=di h;unfold pgs at d;rw[List.nodup_append]at d;obtain⟨w,y,A⟩:=d;have B:=List.pairwise_flatMap.1 y;refine⟨λs f=>V3.1 t s f,λl g=>V3.1 u l g,w,λs f l g k c e=>?_,λi j n o k q c a e=>?_⟩
 ·exact A _ (Z3.2 ⟨s,f,rfl⟩) _ (List.mem_flatMap.2 ⟨l,g,dd.2 ⟨k,c,rfl⟩⟩) e
 ·have r:=List.pairwise_iff_getElem.1 B.2
  have C:=bu (Z1 n);have D:=bu (Z1 o);rw[C]at c e;rw[D]at a e;rcases Nat.lt_trichotomy i j with b|p|b
  ·exact absurd e (r i j n o b _ (dd.2 ⟨k,c,rfl⟩) _ (dd.2 ⟨q,a,rfl⟩))
  ·exact p
  ·exact absurd e.symm (r j i o n b _ (dd.2 ⟨q,a,rfl⟩) _ (dd.2 ⟨k,c,rfl⟩))
theorem ge{s:au}{a:Int}(b:bg s=true):cF s a=true↔16*s.Page<=a/\a<=16*s.Page+15:=by
 unfold cF;rw[b];simp
theorem gF{sp:List au}{la:List ax}(b:qx sp la){a:Int}{i:Nat}(c:i<sp.length)(h:16*(nth sp i).Page<=a/\a<=16*(nth sp i).Page+15):denotes sp la a=ns i (nth sp i) a:=by
 refine mc c ((ge (b.sok _ (am c))).2 h) λj z l d=>?_
 cases e:cF z a with
 | false=>rfl
 | true=>
  exfalso;have g:=(C2.1 d).1;have n:=(ge (b.sok z (U1 d))).1 e;have k:=bu d;subst k;have:=gp (f:=(·.Page)) b.nd c g ω;omega
theorem Pf{sp:List au}{la:List ax}(d:qx sp la){a:Int}(h:∀i,i<sp.length->¬(16*(nth sp i).Page<=a/\a<=16*(nth sp i).Page+15)):∀(j:Nat)(z:au),j<sp.length->sp[j]? = some z->cF z a=false:=by
 intro j z f c;cases e:cF z a with
 | false=>rfl
 | true=>
  have g:=(ge (d.sok z (U1 c))).1 e;have b:=bu c;subst b;exact absurd g (h j f)
theorem LA{sp:List au}{la:List ax}(f:qx sp la)(a:Int):a∈live0 sp la↔a∈im sp la:=by
 have L:a∈im sp la↔∃n:Nat,n<512/\jr sp la n=true/\(n:Int)=a:=by
  unfold im kP;simp only[Z3,t4,List.mem_range];constructor
  ·rintro⟨n,⟨g,p⟩,B⟩;exact⟨n,g,p,B⟩
  ·rintro⟨n,g,p,B⟩;exact⟨n,⟨g,p⟩,B⟩
 rw[L];unfold live0 eK;rw[W2,List.mem_flatMap,Z3];constructor
 ·rintro(⟨s,t,H⟩|⟨l,b,rfl⟩)
  ·obtain⟨i,h,rfl⟩:=bf t
   unfold dE at H;obtain⟨k,M,rfl⟩:=Z3.1 H;obtain⟨u,C⟩:=t4.1 M;have u:=List.mem_range.1 u;have c:=aF (f.sok _ t);have q:=y3 ⟨c.2.2.1,c.2.2.2⟩;have N:=qJ (nth sp i).Class;unfold kr;have O:0<=(k:Int)*csz (nth sp i).Class/\(k:Int)*csz (nth sp i).Class<=15:=by
    rcases cx ⟨c.2.2.1,c.2.2.2⟩ with e|e|e|e<;>rw[e]at q |-<;>omega
   have o:=gF f h (a:=16*(nth sp i).Page+(k:Nat)*csz (nth sp i).Class) ω;have J:(16*(nth sp i).Page+(k:Nat)*csz (nth sp i).Class - 16*(nth sp i).Page) / csz (nth sp i).Class=(k:Nat)/\(16*(nth sp i).Page+(k:Nat)*csz (nth sp i).Class - 16*(nth sp i).Page) % csz (nth sp i).Class=0:=by
    rcases cx ⟨c.2.2.1,c.2.2.2⟩ with e|e|e|e<;>rw[e]<;>omega
   refine⟨(16*(nth sp i).Page+(k:Nat)*csz (nth sp i).Class).toNat,ω,?_,ω⟩;have d:(((16*(nth sp i).Page+(k:Nat)*csz (nth sp i).Class).toNat:Nat):Int)=16*(nth sp i).Page+(k:Nat)*csz (nth sp i).Class:=ω
   unfold jr;rw[d,o];simp only[ns,J.1,J.2,C]
   rfl
  ·obtain⟨i,h,rfl⟩:=bf b
   have R:=aU (f.lok _ b);have P:=cC (f.lok _ b);have g:=Pf f (a:=16*(nth la i).Page) λj K S=>f.dis _ (am K) _ b 0 ω ω
   have A:b9 (nth la i) (16*(nth la i).Page)=true:=by
    unfold b9;rw[f.lok _ b,O0 ω];rfl
   have o:=kR (a:=16*(nth la i).Page) (X2 _) g h A λj z K r=>by
    cases e:b9 z (16*(nth la i).Page) with
    | false=>rfl
    | true=>
     exfalso;have D:=(C2.1 r).1;have w:=U1 r;have E:=bu r;subst E;have Q:=aU (f.lok _ w);have y:=f.lok _ w;unfold bS at y;rw[C0]at y;unfold b9 at e;rw[I0,C0]at e;have:=f.one i j h D 0 ((nth la i).Page - (nth la j).Page).toNat ω ω ω;omega
   refine⟨(16*(nth la i).Page).toNat,ω,?_,ω⟩;have d:(((16*(nth la i).Page).toNat:Nat):Int)=16*(nth la i).Page:=ω
   unfold jr;rw[d,o];simp
 ·rintro⟨n,T,b,rfl⟩
  cases g:sp.findIdx? (cF · (n:Nat)) with
  | some i=>
   obtain⟨h,F,-⟩:=Z5.1 g;have G:=bu (Z1 h);rw[<-G]at F;have t:=f.sok _ (am h);have p:=(ge t).1 F;have c:=aF t;have q:=y3 ⟨c.2.2.1,c.2.2.2⟩;have o:denotes sp la (n:Nat)=ns i (nth sp i) (n:Nat):=by unfold denotes;rw[g]
   rw[qq o]at b;simp only[I0,R5,C0]at b;simp only[ns]at b;cases A:aX (nth sp i).Bits (((n:Int) - 16*(nth sp i).Page) / csz (nth sp i).Class) with
   | false=>rw[A]at b;simp at b
   | true=>
    have r:((n:Int) - 16*(nth sp i).Page) % csz (nth sp i).Class=0:=b.1;refine .inl ⟨nth sp i,am h,?_⟩;unfold dE;refine Z3.2 ⟨(((n:Int) - 16*(nth sp i).Page) / csz (nth sp i).Class).toNat,t4.2 ⟨List.mem_range.2 ?_,?_⟩,?_⟩
    ·rcases cx ⟨c.2.2.1,c.2.2.2⟩ with e|e|e|e<;>rw[e]at q r |-<;>omega
    ·have:((((n:Int) - 16*(nth sp i).Page) / csz (nth sp i).Class).toNat:Int)=((n:Int) - 16*(nth sp i).Page) / csz (nth sp i).Class:=by
      rcases cx ⟨c.2.2.1,c.2.2.2⟩ with e|e|e|e<;>rw[e]<;>omega
     rw[this];exact A
    ·unfold kr
     rcases cx ⟨c.2.2.1,c.2.2.2⟩ with e|e|e|e<;>rw[e]at r |-<;>omega
  | none=>
   cases p:la.findIdx? (b9 · (n:Nat)) with
   | some i=>
    obtain⟨h,F,-⟩:=Z5.1 p;have o:denotes sp la (n:Nat) = ⟨3,i,0,(n:Nat) - 16*(nth la i).Page⟩:=by unfold denotes;rw[g,p]
    rw[qq o]at b;simp only[I0,C0]at b;exact .inr ⟨nth la i,am h,by have:=b.1;omega⟩
   | none=>
    have o:denotes sp la (n:Nat) = ⟨0,0,0,0⟩:=by unfold denotes;rw[g,p]
    rw[qq o]at b;simp at b
theorem u5{sp:List au}{la:List ax}(e:qx sp la){a:Int}(b:(denotes sp la a).Offset=0)(c:(denotes sp la a).Kind=1\/(denotes sp la a).Kind=3):a∈im sp la:=by
 have l:0<=a/\a<512:=by
  unfold denotes at b c;cases h:sp.findIdx? (cF · a) with
  | some i=>
   obtain⟨f,k,-⟩:=Z5.1 h;have j:=List.getElem_mem f;have d:=(ge (e.sok _ j)).1 k;have g:=aF (e.sok _ j);omega
  | none=>
   rw[h]at b c;cases d:la.findIdx? (b9 · a) with
   | some i=>
    obtain⟨f,-⟩:=Z5.1 d;rw[d]at b;have n:=aU (e.lok _ (am f));simp only at b;omega
   | none=>rw[d]at c;simp at c
 have g:((a.toNat:Nat):Int)=a:=ω
 unfold im kP;refine Z3.2 ⟨a.toNat,t4.2 ⟨List.mem_range.2 ω,?_⟩,g⟩;unfold jr;rw[g];simp only[I0,R5,C0];exact⟨b,c⟩
theorem oc(sp:List au)(la:List ax):(im sp la).Nodup:=by
 unfold im kP List.Nodup;rw[List.pairwise_map];exact(List.nodup_range.sublist List.filter_sublist).imp λh e=>h ω
theorem rP{h:ab}(d:qx h.Spans h.Larges){a c:Int}(b:db h a c=true):a∈im h.Spans h.Larges:=by
 unfold db at b;simp only[I0,C0]at b;exact u5 d b.1.2 (.inl b.1.1)
theorem JZ{h:ab}(b:qx h.Spans h.Larges){o:bm}(a:jK h o=true):o.Addr∈im h.Spans h.Larges:=by
 unfold jK at a;simp only[I0,R5,C0]at a;exact u5 b a.1 (a.2.elim (λe=>.inl e.1) (λe=>.inr e.1))
theorem FK(h:ab)(a:Int):(lL h).count a=(holders h).count a:=by
 unfold lL holders;simp only[I5];omega
theorem kO(h:ab):gM h=true↔(h.Caches.all (en h)=true/\h.Quar.Lst.all (gC h)=true)/\(aN h.Mail).all (jw h)=true:=by
 unfold gM;simp only[I0]
theorem jy{h:ab}(e:qx h.Spans h.Larges)(g:fm h=true)(j:gM h=true):∀a∈holders h,a∈im h.Spans h.Larges:=by
 obtain⟨⟨n,p⟩,q⟩:=(kO h).1 j;intro a b;unfold holders at b;simp only[W2]at b;rcases b with((b|b)|b)|b
 ·obtain⟨o,f,rfl⟩:=Z3.1 b
  obtain⟨i,r,rfl⟩:=bf f;have d:=dH g r;unfold objAt at d;rw[I0]at d;exact JZ e d.2
 ·unfold cq at b
  obtain⟨c,t,b⟩:=List.mem_flatMap.1 b;obtain⟨l,u,b⟩:=List.mem_flatten.1 b;obtain⟨k,w,rfl⟩:=bf u;have d:=V3.1 n c t;unfold en at d;have y:=V3.1 (show(nth c.Lists k).all _=true from dH d w) a b;exact rP e y
 ·obtain⟨x,A,rfl⟩:=Z3.1 b
  exact rP e (V3.1 p x A)
 ·exact rP e (V3.1 q a b)
theorem Je{h:ab}(c:bj h.Spans h.Larges=true)(o:fm h=true):(jH h&&iB h)=jm h:=by
 have f:=qx.of c;have p:(jH h=true/\h.Quar.Lst.all (gC h)=true)↔h.Quar.Lst.all (qD h)=true:=by
  unfold jH qD;simp only[V3,I0];exact⟨λe x b=>⟨e.2 x b,e.1 x b⟩,λe=>⟨λx b=>(e x b).2,λx b=>(e x b).1⟩⟩
 have r:jm h=true↔((h.Caches.all (en h)=true/\h.Quar.Lst.all (qD h)=true)/\(aN h.Mail).all (jw h)=true)/\∀a∈im h.Spans h.Larges,(holders h).count a=1:=by
  unfold jm;simp only[I0];refine and_congr Iff.rfl ?_;simp only[V3,C0,FK];unfold mT sorted;simp only[List.mem_mergeSort,LA f]
 have g:iB h=true↔gM h=true/\((holders h).Nodup/\(holders h).length=(im h.Spans h.Larges).length):=by
  unfold iB;simp only[I0,C0,and_assoc]
 rw[I4,I0,r,g];constructor
 ·rintro⟨i,d,j⟩
  obtain⟨⟨k,l⟩,n⟩:=(kO h).1 d;exact⟨⟨⟨k,p.1 ⟨i,l⟩⟩,n⟩,(y8 (oc ..) (jy f o d)).1 j⟩
 ·rintro⟨⟨⟨i,d⟩,j⟩,k⟩
  obtain⟨l,n⟩:=p.2 d;have q:gM h=true:=(kO h).2 ⟨⟨i,n⟩,j⟩;exact⟨l,q,(y8 (oc ..) (jy f o q)).2 k⟩
theorem iO(s t:au):meshable s t=meshable t s:=by
 unfold meshable;rw[Bool.and_comm (bg s)]
 congr 1
 refine decide_eq_decide.2 ?_;rw[Nat.and_comm];exact⟨λh=>⟨h.1.symm,λe=>h.2.1 e.symm,h.2.2⟩,λh=>⟨h.1.symm,λe=>h.2.1 e.symm,h.2.2⟩⟩
theorem d7{t:aG}{f:Int}{p:Nat} : (p:Int)∈pagesOn t f↔p<t.Entries.length/\(nth t.Entries p).Mode≠0/\(nth t.Entries p).Frame=f:=by
 unfold pagesOn jb;simp only[Z3,t4,List.mem_range];constructor
 ·rintro⟨n,⟨b,a⟩,c⟩
  obtain rfl:n=p:=ω
  unfold Jx at a;rw[C0]at a;exact⟨b,a⟩
 ·rintro⟨b,a⟩
  exact⟨p,⟨b,by unfold Jx;rw[C0];exact a⟩,rfl⟩
theorem tg{t:aG}{f q:Int}(h:q∈pagesOn t f):∃p:Nat,q=(p:Nat):=by
 unfold pagesOn jb at h;obtain⟨n,-,rfl⟩:=Z3.1 h;exact⟨n,rfl⟩
theorem qO{h:ab}(a:pages0 h=true):(∀i,i<h.Larges.length->∀k:Nat,k<(nth h.Larges i).Pages.toNat->(aT h ((nth h.Larges i).Page+(k:Nat))).length=1)/\(∀p∈pgs h.Spans h.Larges,p<dQ h)/\∀p:Nat,p<dQ h->((nth (tbl h).Entries p).Mode≠0↔(p:Int)∈pgs h.Spans h.Larges):=by
 unfold pages0 at a;simp only[I0]at a;obtain⟨⟨⟨-,d⟩,e⟩,f⟩:=a;refine⟨λi g k j=>?_,λp a=>?_,λp a=>?_⟩
 ·have b:=dH d g
  unfold qr at b;rw[I0]at b;have c:=dH b.2 j;unfold vJ at c;rw[C0]at c;exact c
 ·have:=V3.1 e p a
  rw[C0]at this;exact this
 ·have b:=dH f a
  unfold ue at b;rw[I0,C0]at b;exact b.1
theorem wE{h:ab}{p:Nat}(a:p<dQ h):ar (tbl h) (p:Nat)=nth (tbl h).Entries p:=kW a
theorem eE{h:ab}{p:Nat}(a:p<dQ h)(b:(nth (tbl h).Entries p).Mode≠0):aT h (p:Nat)=pagesOn (tbl h) (nth (tbl h).Entries p).Frame:=by
 unfold aT;rw[show h.Kernel.Machine.Table=tbl h from rfl,wE a,C8 b]
theorem sH{h:ab}(g:qx h.Spans h.Larges){j:Nat}(c:j<h.Spans.length):fV h (nth h.Spans j).Page=(j:Nat):=by
 unfold fV;refine dM (ah c) (by unfold jq;simp) λk z i d=>?_
 have a:=bu d;have b:=(C2.1 d).1;subst a;unfold jq;refine R0 λe=>?_
 have:=gp (f:=(·.Page)) g.nd b c e;omega
theorem sX{h:ab}(y:bj h.Spans h.Larges=true)(T:pages0 h=true):tO h=mW h:=by
 have G:=qx.of y;obtain⟨U,V,O⟩:=qO T;have t:∀i,i<h.Spans.length->∃p:Nat,(nth h.Spans i).Page=(p:Nat)/\p<dQ h/\(nth (tbl h).Entries p).Mode≠0:=λi n=>by
  have hc:=aF (G.sok _ (am n));have P:(nth h.Spans i).Page∈pgs h.Spans h.Larges:=by
   unfold pgs;exact W2.2 (.inl (Z3.2 ⟨_,am n,rfl⟩))
  have o:=V _ P;refine⟨(nth h.Spans i).Page.toNat,ω,ω,?_⟩;refine(O _ ω).2 ?_;rw[show(((nth h.Spans i).Page.toNat:Nat):Int)=(nth h.Spans i).Page by omega];exact P
 rw[I4];unfold tO mW;rw[ch,ch];constructor
 ·intro K i n
  rw[ch];intro j L;have A:j<h.Spans.length:=ω
  unfold kw;rw[R5,C0];by_cases b:(ar (tbl h) (nth h.Spans i).Page).Frame=(ar (tbl h) (nth h.Spans j).Page).Frame
  ·right
   obtain⟨p,f,c,r⟩:=t i n;obtain⟨q,B,a,g⟩:=t j A;have d:=V3.1 (K i n);rw[f,B,wE c,wE a]at b;have W:(q:Int)∈aT h (nth h.Spans i).Page:=by
    rw[f,eE c r];exact d7.2 ⟨a,g,b.symm⟩
   have u:=d _ W;unfold lc at u;rw[<-B,sH G A]at u;rw[R5,I0,C0]at u;rcases u with u|u
   ·omega
   ·simpa using u.2
  ·exact .inl b
 ·intro C i n
  rw[V3];intro q H;obtain⟨p,f,c,r⟩:=t i n;have X:=H;rw[f,eE c r]at H;obtain⟨J,rfl⟩:=tg H;obtain⟨a,g,D⟩:=d7.1 H;have w:=(O J a).1 g;unfold pgs at w;rw[W2,Z3,List.mem_flatMap]at w;rcases w with⟨s,K,E⟩|⟨l,Y,M⟩
  ·obtain⟨j,L,rfl⟩:=bf K
   unfold lc;rw[<-E,sH G L];rw[R5,I0,C0,C0];have b:(ar (tbl h) (nth h.Spans i).Page).Frame=(ar (tbl h) (nth h.Spans j).Page).Frame:=by
    rw[f,E,wE c,wE a,D]
   rcases Nat.lt_trichotomy j i with o|Z|o
   ·have d:=dH (C i n) o
    unfold kw at d;rw[R5,C0]at d;exact .inr ⟨ω,by simpa using d.resolve_left λe=>e b⟩
   ·exact .inl ω
   ·have d:=dH (C j L) o
    unfold kw at d;rw[R5,C0]at d;exact .inr ⟨ω,by rw[iO];simpa using d.resolve_left λe=>e b.symm⟩
  ·exfalso
   obtain⟨i2,F,rfl⟩:=bf Y;obtain⟨k,Q,N⟩:=dd.1 M;have d:=U i2 F k Q;rw[<-N,eE a g]at d;have R:(J:Int)∈pagesOn (tbl h) (nth (tbl h).Entries J).Frame:=d7.2 ⟨a,g,rfl⟩;have S:(p:Int)∈pagesOn (tbl h) (nth (tbl h).Entries J).Frame:=d7.2 ⟨c,r,D.symm⟩;obtain⟨z,hz⟩:=List.length_eq_one_iff.1 d;rw[hz]at R S;simp only[C1]at R S;have:=G.dis _ (am n) _ (am F) k Q;omega
theorem oR(h:ab):ju h=eR h:=by
 unfold ju eR lb;cases d:aB h.Kernel with
 | false=>rfl
 | true=>
  cases e:bw (dQ h) h.Free with
  | false=>rfl
  | true=>
   cases a:bj h.Spans h.Larges with
   | false=>rfl
   | true=>
    cases b:pages0 h with
    | false=>rfl
    | true=>
     rw[sX a b];cases c:fm h with
     | false=>simp
     | true=>
      have:=Je a c;rw[<-this];cases mW h<;>cases cY h<;>cases jH h<;>cases h.Caches.all bo<;>cases cg h<;>cases iB h<;>cases pu h<;>rfl
def ovl(y r:ay):Bool:=decide (y.At<r.At+r.Len/\r.At<y.At+y.Len)
def l7(r:ay):List ay->Bool->Option (List ay)
 | [],put=>some (if put then [] else [r])
 | y::a,put=>if ovl y r then none else if !put&&decide (y.At > r.At) then(l7 r a true).map λt=>r::y::t else(l7 r a put).map λt=>y::t
def cX(out:List ay):List ay->List ay
 | []=>out
 | y::ys=>match out.getLast? with
  | some z=>if z.At+z.Len=y.At then cX (out.dropLast++[⟨z.At,z.Len+y.Len⟩]) ys else cX (out++[y]) ys
  | none=>cX (out++[y]) ys
def ip:List ay->ay->List ay->Bool->Option (List ay)
 | [],r,out,done=>some (if done then out else out++[r])
 | y::ys,r,out,done=>
  if ovl y r then none
  else if y.At+y.Len=r.At then ip ys ⟨y.At,y.Len+r.Len⟩ out done
  else if r.At+r.Len=y.At then ip ys ⟨r.At,r.Len+y.Len⟩ out done
  else if y.At > r.At/\done=false then ip ys r (out++[r,y]) true
  else ip ys r (out++[y]) done
def nq(xs:List ay):Prop:=xs.Pairwise (λa b=>a.At+a.Len<b.At)/\∀y∈xs,1<=y.Len
theorem nq.tail{y:ay}{a:List ay}(h:nq (y::a)):nq a:=⟨(List.pairwise_cons.1 h.1).2,λz b=>h.2 z (X4 _ b)⟩
theorem nq.head{y:ay}{a:List ay}(h:nq (y::a)):∀z∈a,y.At+y.Len<z.At:=(List.pairwise_cons.1 h.1).1
theorem iJ:∀(a out:List ay),nq a->(∀z,out.getLast? = some z->∀y∈a,z.At+z.Len≠y.At)->cX out a=out++a
 | [],out,_,_=>by simp[cX]
 | y::a,out,d,e=>by
  have b:cX (out++[y]) a=out++y::a:=by
   rw[iJ a (out++[y]) d.tail λz c w f=>by
     simp at c;subst c;have:=d.head w f;omega]
   simp
  unfold cX;split
  ·rename_i z c
   rw[C8 (e z c y (R1 ..))];exact b
  ·exact b
theorem vf{r:ay} : ∀{a:List ay},nq a->(∀y∈a,r.At+r.Len<=y.At)->l7 r a true=some a
 | [],_,_=>rfl
 | y::a,c,b=>by
  have e:=b y (R1 ..);unfold l7;rw[C8 (by unfold ovl;rw[C0];omega)];simp only[Bool.not_true,Bool.false_and,Bool.false_eq_true,if_false];rw[vf c.tail λz d=>b z (X4 _ d)]
  rfl
theorem tq{r:ay}(h1:1<=r.Len){a:List ay}(c:nq a)(b:∀y∈a,r.At+r.Len<=y.At):l7 r a false=some (r::a):=by
 cases a with
 | nil=>rfl
 | cons y a=>
  have e:=b y (R1 ..);unfold l7;rw[C8 (by unfold ovl;rw[C0];omega),C9 (by simp;omega),vf c.tail λz d=>b z (X4 _ d)]
  rfl
theorem ou{r:ay} : ∀{a out:List ay},nq a->1<=r.Len->(∀y∈a,r.At+r.Len<y.At)->ip a r out true=some (out++a)
 | [],out,_,_,_=>by simp[ip]
 | y::a,out,b,d,c=>by
  have f:=c y (R1 ..);have g:=b.2 y (R1 ..);unfold ip;rw[C8 (by unfold ovl;rw[C0];omega),C8 ω,C8 ω,C8 (by simp),ou b.tail d λz e=>c z (X4 _ e)];simp
theorem wO{r:ay}(h1:1<=r.Len){a out:List ay}(b:nq a)(c:∀y∈a,r.At+r.Len<=y.At):ip a r out false=some (out++match a with|[]=>[r]|y::zs=>if r.At+r.Len=y.At then⟨r.At,r.Len+y.Len⟩::zs else r::y::zs):=by
 cases a with
 | nil=>simp[ip]
 | cons y a=>
  have g:=c y (R1 ..);have h:=b.2 y (R1 ..);unfold ip;rw[C8 (by unfold ovl;rw[C0];omega),C8 ω];by_cases e:r.At+r.Len=y.At
  ·rw[C9 e]
   simp only[e,if_true];cases a with
   | nil=>simp[ip]
   | cons z a=>
    have i:=b.head z (R1 ..);have j:=b.tail.2 z (R1 ..);unfold ip;simp only;rw[C8 (by unfold ovl;rw[C0];simp only;omega),C8 ω,C8 ω,C9 (by simp;omega),ou b.tail.tail (by simp only;omega) λw d=>by
      have:=b.tail.head w d;simp only;omega]
    simp
  ·rw[C8 e,C9 (by simp;omega),ou b.tail h1 λz f=>by have:=b.head z f;omega]
   simp[e]
theorem zi{pages:Int} : ∀{b:List ay}{r:ay}{out:List ay},nq b->1<=r.Len->(∀z,out.getLast? = some z->(∀y∈b,z.At+z.Len<y.At)/\z.At+z.Len<r.At)->(l7 r b false).map (cX out)=ip b r out false
 | [],r,out,_,j,u=>by
  show some (cX out [r])=some (out++[r]);rw[iJ [r] out ⟨List.pairwise_singleton ..,λy B=>by rw[C1.1 B];exact j⟩ λz d y B=>by rw[C1.1 B];have:=(u z d).2;omega]
 | y::b,r,out,c,j,u=>by
  have L:=c.2 y (R1 ..);by_cases l:ovl y r=true
  ·unfold l7 ip
   rw[C9 l,C9 l];rfl
  ·have n:=l
   unfold ovl at n;rw[C0]at n;by_cases C:r.At+r.Len<=y.At
   ·-- all to the right
    have f:∀w∈y::b,r.At+r.Len<=w.At:=λw a=>by
     rcases List.mem_cons.1 a with rfl|a
     ·exact C
     ·have:=c.head w a;omega
    rw[tq j c f,wO j c f];show some (cX out (r::y::b))=_;have hfirst:cX out (r::y::b)=cX (out++[r]) (y::b):=by
     conv=>lhs;unfold cX
     split
     ·rename_i z d;rw[C8 (by have:=(u z d).2;omega)]
     ·rfl
    rw[hfirst];by_cases e:r.At+r.Len=y.At
    ·have:cX (out++[r]) (y::b)=cX (out++[⟨r.At,r.Len+y.Len⟩]) b:=by
      conv=>lhs;unfold cX
      simp[e]
     rw[this,iJ b _ c.tail λz d w a=>by
       simp at d;subst d;have:=c.head w a;simp only;omega]
     simp[e]
    ·rw[iJ (y::b) (out++[r]) c λz d w a=>by
       simp at d;subst d;rcases List.mem_cons.1 a with rfl|a
       · exact e
       · have:=c.head w a;omega]
     simp[e]
   ·have F:y.At+y.Len<=r.At:=ω
    have i:∀t,cX out (y::t)=cX (out++[y]) t:=λt=>by
     conv=>lhs;unfold cX
     split
     ·rename_i z d;rw[C8 (by have:=(u z d).1 y (R1 ..);omega)]
     ·rfl
    have G:(l7 r (y::b) false).map (cX out)=(l7 r b false).map (cX (out++[y])):=by
     conv=>lhs;unfold l7
     rw[C8 l,C8 (by simp;omega),Option.map_map]
     congr 1
     funext t
     exact i t
    rw[G];unfold ip;rw[C8 l];by_cases e:y.At+y.Len=r.At
    ·rw[C9 e]
     by_cases o:∃w,b.head? = some w/\ovl w r=true
     ·obtain⟨w,a,p⟩:=o
      cases b with
      | nil=>cases a
      | cons g k=>
       obtain rfl:g=w:=by simpa using a
       have H:=c.head g (R1 ..);have J:=c.tail.2 g (R1 ..);have q:=p;unfold ovl at q;rw[C0]at q;unfold l7 ip;rw[C9 p,C9 (by unfold ovl;rw[C0];simp only;omega)]
       rfl
     ·have f:∀w∈b,r.At+r.Len<=w.At:=by
       cases b with
       | nil=>intro w a;cases a
       | cons g k=>
        have H:=c.head g (R1 ..);have J:=c.tail.2 g (R1 ..);have E:¬ovl g r=true:=λh=>o ⟨g,rfl,h⟩
        unfold ovl at E;rw[C0]at E;intro w a;rcases List.mem_cons.1 a with rfl|a
        ·omega
        ·have:=c.tail.head w a;omega
      rw[tq j c.tail f,wO (r:=⟨y.At,y.Len+r.Len⟩) (by simp only;omega) c.tail λw a=>by have:=f w a;simp only;omega];show some (cX (out++[y]) (r::b))=_;have K:cX (out++[y]) (r::b)=cX (out++[⟨y.At,y.Len+r.Len⟩]) b:=by
       conv=>lhs;unfold cX
       simp[e]
      rw[K];cases b with
      | nil=>simp[cX]
      | cons g k=>
       by_cases A:y.At+(y.Len+r.Len)=g.At
       ·have D:cX (out++[⟨y.At,y.Len+r.Len⟩]) (g::k)=cX (out++[⟨y.At,y.Len+r.Len+g.Len⟩]) k:=by
         conv=>lhs;unfold cX
         simp[A]
        rw[D,iJ k _ c.tail.tail λz d w a=>by
          simp at d;subst d;have:=c.tail.head w a;simp only;omega]
        simp[A]
       ·rw[iJ (g::k) _ c.tail λz d w a=>by
          simp at d;subst d;simp only;rcases List.mem_cons.1 a with rfl|a
          · exact A
          · have:=c.tail.head w a
            have:=f g (R1 ..);have:=c.tail.2 g (R1 ..);omega]
        simp[A]
    ·rw[C8 e,C8 ω,C8 ω]
     exact zi (pages:=pages) c.tail j λz d=>by
      simp at d;subst d;exact⟨c.head,ω⟩
def fQ(k:af)(f:Int):af:=if(pagesOn k.Machine.Table f).length=0 then {k with Machine:=⟨⟨k.Machine.Frames.Cells.set f.toNat (List.replicate 16 0),k.Machine.Frames.Used.set f.toNat false⟩,k.Machine.Table⟩} else k
def j7(k:af)(p:Int):af:={k with Machine:=⟨k.Machine.Frames,⟨k.Machine.Table.Entries.set p.toNat ⟨0,0⟩⟩⟩}
def cb(k:af)(p:Int):af:=if(ar k.Machine.Table p).Mode=0 then k else fQ (j7 k p) (ar k.Machine.Table p).Frame
theorem ci{α:Type}[Inhabited α](xs:List α)(i j:Nat)(x:α):nth (xs.set i x) j=if i=j/\j<xs.length then x else nth xs j:=by
 unfold nth;rw[O2,O2,T3];by_cases h:i=j
 ·subst h
  by_cases a:i<xs.length
  ·simp[a]
  ·simp[a]
 ·simp[h]
theorem oN(k:af)(f:Int):(fQ k f).Machine.Table=k.Machine.Table/\(fQ k f).Calls=k.Calls/\(fQ k f).Refuse=k.Refuse/\(fQ k f).Machine.Frames.Cells.length=k.Machine.Frames.Cells.length/\(fQ k f).Machine.Frames.Used.length=k.Machine.Frames.Used.length:=by
 unfold fQ;split<;>simp
theorem qd(k:af)(p:Int):(cb k p).Machine.Table.Entries.length=k.Machine.Table.Entries.length/\(cb k p).Calls=k.Calls/\(cb k p).Refuse=k.Refuse:=by
 unfold cb;split
 ·exact⟨rfl,rfl,rfl⟩
 ·obtain⟨a,b,c,-⟩:=oN (j7 k p) (ar k.Machine.Table p).Frame
  rw[a,b,c];simp[j7]
theorem aC{k:af} : aB k=true↔(∀j,j<k.Refuse.length->0<=nth k.Refuse j)/\df k.Machine.Frames=true/\fL k.Machine.Table k.Machine.Frames.Used.length=true/\(∀j,j<k.Machine.Frames.Used.length->nth k.Machine.Frames.Used j=decide (0<(pagesOn k.Machine.Table (j:Int)).length))/\0<=k.Calls/\k.Calls<=100000/\k.Refuse.length<=40:=by
 unfold aB dn;simp only[I0,ch,C0,ne,beq_iff_eq,and_assoc]
theorem aY{f:aZ} : df f=true↔1<=f.Cells.length/\f.Cells.length<=32/\f.Used.length=f.Cells.length/\∀j,j<f.Cells.length->gX (nth f.Cells j) (nth f.Used j)=true:=by
 unfold df;simp only[I0,C0,V3,and_assoc];refine and_congr Iff.rfl (and_congr Iff.rfl (and_congr_right λe=>⟨λh j a=>?_,λh q c=>?_⟩))
 ·exact h _ (U1 (uC (ah a) (ah ω)))
 ·obtain⟨j,a⟩:=List.mem_iff_getElem?.1 c
  obtain⟨b,d⟩:=List.getElem?_zip_eq_some.1 a;have:=h j (C2.1 b).1
  rwa [bu b,bu d]at this
theorem bx{t:aG}{a:Int} : fL t a=true↔(∀j,j<t.Entries.length->kb a (nth t.Entries j)=true)/\1<=t.Entries.length/\t.Entries.length<=32:=by
 unfold fL;simp only[I0,ch,C0]
theorem ew{t:aG}{f:Int} : 0<(pagesOn t f).length↔∃q,q<t.Entries.length/\(nth t.Entries q).Mode≠0/\(nth t.Entries q).Frame=f:=by
 unfold pagesOn jb;rw[X0,List.length_pos_iff_exists_mem];simp[Jx]
theorem cm{k:af}{p:Int}(h:aB k=true)(b:(ar k.Machine.Table p).Mode≠0):0<=p/\p<k.Machine.Table.Entries.length/\ar k.Machine.Table p=nth k.Machine.Table.Entries p.toNat/\0<=(ar k.Machine.Table p).Frame/\(ar k.Machine.Table p).Frame<k.Machine.Frames.Used.length:=by
 obtain⟨-,-,c,-⟩:=aC.1 h;have a:0<=p/\p<k.Machine.Table.Entries.length:=by
  by_cases a:0<=p/\p<k.Machine.Table.Entries.length
  ·exact a
  ·unfold ar at b;rw[C8 a]at b;exact absurd rfl b
 have d:ar k.Machine.Table p=nth k.Machine.Table.Entries p.toNat:=by unfold ar;rw[C9 a]
 have:=(bx.1 c).1 p.toNat ω;rw[d]at b |-;unfold kb at this;rw[C0]at this;exact⟨a.1,a.2,rfl,this.2.2.2 b⟩
theorem wl{k:af}(p:Int)(h:aB k=true):aB (cb k p)=true:=by
 unfold cb;split
 ·exact h
 rename_i t;obtain⟨E,F,G,l,n⟩:=cm h t;obtain⟨u,w,H,y,A,B,C⟩:=aC.1 h;obtain⟨J,K,L,M⟩:=aY.1 w;obtain⟨N,O,P⟩:=bx.1 H;rw[G]at t l n |-;generalize Q:(nth k.Machine.Table.Entries p.toNat).Frame=f at l n;have g:∀q,nth (k.Machine.Table.Entries.set p.toNat ⟨0,0⟩) q=if p.toNat=q then⟨0,0⟩ else nth k.Machine.Table.Entries q:=λq=>by
  rw[ci];by_cases r:p.toNat=q
  ·rw[C9 ⟨r,ω⟩,C9 r]
  ·rw[C8 (λe=>r e.1),C8 r]
 have b:∀j:Int,0<(pagesOn (⟨k.Machine.Table.Entries.set p.toNat ⟨0,0⟩⟩ : aG) j).length↔∃q,q<k.Machine.Table.Entries.length/\q≠p.toNat/\(nth k.Machine.Table.Entries q).Mode≠0/\(nth k.Machine.Table.Entries q).Frame=j:=λj=>by
  rw[ew];simp only[I1,g]
  grind
 have c:∀j:Int,0<(pagesOn k.Machine.Table j).length↔∃q,q<k.Machine.Table.Entries.length/\(nth k.Machine.Table.Entries q).Mode≠0/\(nth k.Machine.Table.Entries q).Frame=j:=λj=>ew
 have i:fL ⟨k.Machine.Table.Entries.set p.toNat ⟨0,0⟩⟩ k.Machine.Frames.Used.length=true:=by
  rw[bx];simp only[I1,g];refine⟨λj d=>?_,O,P⟩;split
  ·unfold kb;simp
  ·exact N j d
 unfold fQ;split
 ·rename_i o
  rw[aC];simp only[j7,I1]at o |-;refine⟨u,?_,i,λj d=>?_,A,B,C⟩
  ·rw[aY]
   simp only[I1,ci];refine⟨J,K,L,λj d=>?_⟩;by_cases a:f.toNat=j
   ·rw[C9 ⟨a,d⟩,C9 ⟨a,ω⟩];decide
   ·rw[C8 (λe=>a e.1),C8 (λe=>a e.1)];exact M j d
  ·rw[ci]
   by_cases a:f.toNat=j
   ·rw[C9 ⟨a,d⟩]
    have:(j:Int)=f:=ω
    rw[this];exact(R0 λR=>absurd o (Nat.ne_of_gt R)).symm
   ·rw[C8 (λe=>a e.1),y j d]
    refine decide_eq_decide.2 ?_;rw[c,b]
    grind
 ·rename_i o
  rw[aC];simp only[j7]at o |-;refine⟨u,w,i,λj d=>?_,A,B,C⟩;rw[y j d];refine decide_eq_decide.2 ?_;by_cases a:f=j
  ·have D:0<(pagesOn (⟨k.Machine.Table.Entries.set p.toNat ⟨0,0⟩⟩ : aG) j).length:=by rw[<-a];exact Nat.pos_of_ne_zero o
   have:=(b j).1 D;constructor
   ·intro _;exact D
   ·intro _;rw[c];grind
  ·rw[c,b];grind
theorem bt{k:af}(h:aB k=true):af.sml k:=by
 obtain⟨g,b,c,i,l,n,o⟩:=aC.1 h;obtain⟨p,q,t,d⟩:=aY.1 b;obtain⟨u,w,y⟩:=bx.1 c;refine⟨⟨⟨⟨ω,λr f=>?_⟩,(by omega:_<=1048576)⟩,⟨ω,λe _=>trivial⟩⟩,(by omega:_<=1048576)⟩;obtain⟨j,a⟩:=List.mem_iff_getElem?.1 f;have:=d j (C2.1 a).1;rw[bu a]at this;unfold gX at this;simp only[I0,C0]at this;show r.length<=1048576;omega
theorem Ap.cp{α:Type}{e:α->List C}{xs:List α}{sz by_:Nat}{K:List (List C)->Prop}(b:∀x,(e x).length=sz)(c:∀x,aV (e x)=true)(d:xs.length<=1048576)(f:by_<=1000)(g:K (xs.map e)):Ap true [] (xs.map e) sz by_ K:=
 CP (λr a=>by cases a) (λr a=>by obtain⟨y,-,rfl⟩:=Z3.1 a;exact b y) (λ_ r a=>by obtain⟨y,-,rfl⟩:=Z3.1 a;exact c y) (by simp;omega) (by simp only[X0,List.length_nil,Y5];exact wi d f) rfl g
theorem CN:type_of% @Ap.cp:=@Ap.cp
theorem Fl.cp{α:Type}{e:α->List C}{xs:List α}{sz by_:Nat}{X:Prop}(a:∀x,(e x).length=sz)(b:∀x,aV (e x)=true)(c:xs.length<=1048576)(d:by_<=1000)(f:X):Fl (xs.map e) sz by_ X:=
 Fl.mk (λr g=>by obtain⟨y,-,rfl⟩:=Z3.1 g;exact⟨a y,b y⟩) (by simp;omega) (by simp only[X0];exact wi c d) f
theorem CS:type_of% @Fl.cp:=@Fl.cp
theorem Ap.sn{rows b:List (List C)}{r:List C}{sz by_:Nat}{K:List (List C)->Prop}(h1:∀r∈rows,r.length=sz)(c:r.length=sz)(d:rows.length+1<=1048576)(e:by_<=1000)(a:b=rows++[r])(f:K b):Ap false rows [r] sz by_ K:=
 CP h1 (λg a=>by rw[C1.1 a];exact c) (λh=>by cases h) (by simp;omega) (wi (by simpa using d) e) a f
theorem iV(xs:List Int)(a:xs.length<=1048576):ao Tryz.prog 187 false [.val none (aD .imm xs)] .one (aD .own xs):=by
 refine fO 6 [] Tryz.func187 rfl ?_ (.inr (bG _))
 repeat'(first|refine gO ?_|(conv=>whnf);first|refine CN (λ_=>rfl) (λ_=>rfl) a (by decide) ?_)
 rfl
theorem Aa(t:aG)(a:aG.sml t):ao Tryz.prog 339 false [.val (some 1) (aG.enc .imm t)] .agg (aG.enc .own t):=by
 have b:=a.1;refine fO 8 [] Tryz.func339 rfl ?_ (.inr (aG.enc_fr _))
 repeat'(first|refine gO ?_|(conv=>whnf);first|refine CN (λ_=>rfl) (λ_=>rfl) b (by decide) ?_)
 rfl
theorem w5(t:aG)(a:aG.sml t):ao Tryz.prog 262 false [.val (some 1) (aG.enc .imm t)] .agg (aG.enc .own t):=by
 have b:=a.1;refine fO 8 [] Tryz.func262 rfl ?_ (.inr (aG.enc_fr _))
 repeat'(first|refine gO ?_|(conv=>whnf);first|refine CN (λ_=>rfl) (λ_=>rfl) b (by decide) ?_)
 rfl
theorem aK{α:Type}{e:α->List C}{l:List α}{n:Nat}(h:∀x,(e x).length=n):∀r∈l.map e,r.length=n:=λr a=>by
 obtain⟨y,-,rfl⟩:=Z3.1 a;exact h y
theorem eP{α β:Type}[Inhabited α]{xs:List α}{f:α->β}{i:Nat}(a:i<xs.length):(xs.take (i+1)).map f=(xs.take i).map f++[f (nth xs i)]:=by
 rw[Z4,ah a];simp
theorem zR(f:aZ)(a:aZ.sml f):ao Tryz.prog 338 false [.val (some 2) (aZ.enc .imm f)] .agg (aZ.enc .own f):=by
 have g:=a.1.1;have d:f.Used.length<=1048576:=a.2;refine fO 30 [(5,10,[17,18,19,20,21,22,23,24,25,26])] Tryz.func338 rfl ?_ (.inr (aZ.enc_fr _))
 repeat'(first|refine gO ?_|(conv=>whnf);first|refine CN (λ_=>rfl) (λ_=>rfl) d (by decide) ?_)
 (conv=>whnf)
 refine CE (ι:=Nat) (λi=>[(1,.hold .box (aZ.enc .imm f)),(2,.hold .box [.z,.z]),(3,.hold .box [.s .own ((f.Cells.take i).map (aD .own)),.s .own (f.Used.map (rB .own))]),(4,.hold .one [I ((i:Nat):Int)])]) (λi=>i<=f.Cells.length) (λi=>f.Cells.length - i) (0) ?_ (T0 _) λi h=>?_
 ·exact wB
 by_cases b:i<f.Cells.length
 ·have e:=ah b
  have c:(nth f.Cells i).length<=1048576:=a.1.2 _ (am b)
  repeat'(first|refine gD ?_|(conv=>whnf);first|with_reducible refine CB (aa e) ?_|refine CS (λ_=>rfl) (λ_=>rfl) c (by decide) ?_|refine Ap.sn (aK λ_=>rfl) rfl (by simp;omega) (by decide) (eP b) ?_)
  ((conv=>whnf);refine CC (i+1) ω ω ?_;(exact wB))
 ·repeat'(first|refine gD ?_|fail)
  obtain rfl:i=f.Cells.length:=ω
  rw[V4]
  rfl
theorem uk(f:aZ)(a:aZ.sml f):ao Tryz.prog 261 false [.val (some 2) (aZ.enc .imm f)] .agg (aZ.enc .own f):=by
 have g:=a.1.1;have d:f.Used.length<=1048576:=a.2;refine fO 27 [(5,5,[18,19,20,21,22])] Tryz.func261 rfl ?_ (.inr (aZ.enc_fr _))
 repeat'(first|refine gO ?_|(conv=>whnf);first|refine CN (λ_=>rfl) (λ_=>rfl) d (by decide) ?_)
 (conv=>whnf)
 refine CE (ι:=Nat) (λi=>[(2,.hold .box [.z,.z]),(3,.hold .box [.s .own ((f.Cells.take i).map (aD .own)),.s .own (f.Used.map (rB .own))]),(12,.hold .one (iR .imm f.Cells)),(13,.hold .one [I (f.Cells.length)]),(14,.hold .one [I ((i:Nat):Int)])]) (λi=>i<=f.Cells.length) (λi=>f.Cells.length - i) (0) ?_ (T0 _) λi h=>?_
 ·exact wB
 by_cases b:i<f.Cells.length
 ·have e:=ah b
  have c:(nth f.Cells i).length<=1048576:=a.1.2 _ (am b)
  repeat'(first|refine gD ?_|(conv=>whnf);first|with_reducible refine CB (aa e) ?_|refine C7 (iV (nth f.Cells i) c) ?_|refine Ap.sn (aK λ_=>rfl) rfl (by simp;omega) (by decide) (eP b) ?_)
  ((conv=>whnf);refine CC (i+1) ω ω ?_;(exact wB))
 ·repeat'(first|refine gD ?_|fail)
  obtain rfl:i=f.Cells.length:=ω
  rw[V4]
  rfl
theorem qP(m:aS)(a:aS.sml m):ao Tryz.prog 288 false [.val (some 3) (aS.enc .imm m)] .agg (aS.enc .own m):=by
 refine fO 10 [(1,5,[3,4,5,6,7])] Tryz.func288 rfl ?_ (.inr (aS.enc_fr _))
 repeat'(first|refine gO ?_|(conv=>whnf);first|refine C7 (zR m.Frames a.1) ?_|refine C7 (Aa m.Table a.2) ?_)
 rfl
theorem se(m:aS)(a:aS.sml m):ao Tryz.prog 197 false [.val (some 3) (aS.enc .imm m)] .agg (aS.enc .own m):=by
 refine fO 10 [(1,5,[3,4,5,6,7])] Tryz.func197 rfl ?_ (.inr (aS.enc_fr _))
 repeat'(first|refine gO ?_|(conv=>whnf);first|refine C7 (uk m.Frames a.1) ?_|refine C7 (w5 m.Table a.2) ?_)
 rfl
theorem Bh(k:af)(a:af.sml k):ao Tryz.prog 228 false [.val (some 5) (af.enc .imm k)] .agg (af.enc .own k):=by
 have b:k.Refuse.length<=1048576:=a.2;refine fO 13 [(1,9,[3,4,5,6,7,8,9,10,11])] Tryz.func228 rfl ?_ (.inr (af.enc_fr _))
 repeat'(first|refine gO ?_|(conv=>whnf);first|refine C7 (qP k.Machine a.1) ?_|refine CS (λ_=>rfl) (λ_=>rfl) b (by decide) ?_)
 rfl
theorem mU(k:af)(a:af.sml k):ao Tryz.prog 140 false [.val (some 5) (af.enc .imm k)] .agg (af.enc .own k):=by
 refine fO 12 [(1,8,[3,4,5,6,7,8,9,10])] Tryz.func140 rfl ?_ (.inr (af.enc_fr _))
 repeat'(first|refine gO ?_|(conv=>whnf);first|refine C7 (se k.Machine a.1) ?_|refine C7 (iV k.Refuse a.2) ?_)
 rfl
theorem dJ(k:af)(p:Int)(a:aG.sml k.Machine.Table):ao Tryz.prog 348 false [.ptr (af.enc .imm k),.val none [I p]] .one [I (ar k.Machine.Table p).Mode]:=by
 refine fO 13 [] Tryz.func348 rfl ?_
 repeat'(first|refine gO ?_|(conv=>whnf);first|refine C7 (cT k.Machine.Table p a) ?_)
 rfl
theorem kF(k:af)(b:af.sml k):ao Tryz.prog 305 false [.val (some 5) (af.enc .imm k)] .one [B (aB k&&decide (k.Calls<100000))]:=by
 have a:=kZ k b;cases e:aB k<;>rw[e]at a
 ·refine fO 10 [] Tryz.func305 rfl ?_
  repeat'(first|refine gO ?_|(conv=>whnf);first|with_reducible refine Bf.D (λc=>?_) (λc=>?_)|refine C7 (a) ?_)
  all_goals rfl
 ·refine fO 10 [] Tryz.func305 rfl ?_
  repeat'(first|refine gO ?_|(conv=>whnf);first|refine C7 (a) ?_)
  all_goals rfl
theorem Ag(k:af)(b:af.sml k):ao Tryz.prog 226 false [.val (some 5) (af.enc .imm k)] .one [B (decide (k.Calls≠100000)&&aB k)]:=by
 have c:=pk k b;refine fO 10 [] Tryz.func226 rfl ?_
 repeat'(first|refine gO ?_|(conv=>whnf);first|with_reducible (first|refine Bf.N (λa=>?_) (λa=>?_)|refine Bf.D (λa=>?_) (λa=>?_))|refine C7 (c) ?_)
 all_goals(exact U0 (λz=>[B z]) ((by simp[*])))
theorem rK{k:af}{f:Int}(h:(pagesOn k.Machine.Table f).length=0):af.enc .own (fQ k f)=[.s .own ((k.Machine.Frames.Cells.map (aD .own)).set f.toNat (aD .own (List.replicate 16 0))),.s .own ((k.Machine.Frames.Used.map (rB .own)).set f.toNat (rB .own false)),.s .own (k.Machine.Table.Entries.map (bh.enc .own)),I k.Calls,.s .own (k.Refuse.map (rI .own))]:=by
 unfold fQ;rw[C9 h];simp only[af.enc,O5]
theorem vT{k:af}{f:Int}(h:¬(pagesOn k.Machine.Table f).length=0):af.enc .own (fQ k f)=af.enc .own k:=by
 unfold fQ;rw[C8 h]
theorem qz(k:af)(f:Int)(a:aG.sml k.Machine.Table)(b:0<=f/\f<k.Machine.Frames.Cells.length/\f<k.Machine.Frames.Used.length) :
  aQ Tryz.prog 349 false [.ptr (af.enc .own k),.val none [I f]] [.ptr (af.enc .own (fQ k f)),.val none [I f]] (.tup []) []:=by
 have c:=ah (xs:=k.Machine.Frames.Cells) (i:=f.toNat) ω;have d:=ah (xs:=k.Machine.Frames.Used) (i:=f.toNat) ω;by_cases e:(pagesOn k.Machine.Table f).length=0
 ·rw[rK e]
  refine fM 30 [] [(2,8,[21,22,23,24,25,26,27,28])] [(0,0),(0,0)] Tryz.func349 rfl (λu q=>?_) (.inr trivial)
  repeat'(first|refine gA ?_|(conv=>whnf);first|with_reducible (first|refine CK b.1 (aa d) ?_|refine CK b.1 (aa c) ?_)|refine CD (gl k.Machine.Table f a) ⟨⟨rfl,CV k.Machine.Table⟩,⟨rfl,rfl⟩,trivial⟩ ?_|refine CM rfl rfl (aa c) rfl (Z0 rfl) rfl ?_|refine CM rfl rfl (aa d) rfl (Z0 rfl) rfl ?_|refine Mk.mk 16 rfl rfl (by decide) (by decide) rfl ?_)
  refine CF rfl rfl ?_;exact wB
 ·rw[vT e]
  refine fM 30 [] [(2,8,[21,22,23,24,25,26,27,28])] [(0,0),(0,0)] Tryz.func349 rfl (λu q=>?_) (.inr trivial)
  repeat'(first|refine gA ?_|(conv=>whnf);first|refine CD (gl k.Machine.Table f a) ⟨⟨rfl,CV k.Machine.Table⟩,⟨rfl,rfl⟩,trivial⟩ ?_)
  refine CF rfl rfl ?_;exact wB
theorem AE(k:af)(f:Int)(a:aG.sml k.Machine.Table)(b:0<=f/\f<k.Machine.Frames.Cells.length/\f<k.Machine.Frames.Used.length) :
  aQ Tryz.prog 227 false [.ptr (af.enc .own k),.val none [I f]] [.ptr (af.enc .own (fQ k f)),.val none [I f]] (.tup []) []:=by
 have c:=ah (xs:=k.Machine.Frames.Cells) (i:=f.toNat) ω;have d:=ah (xs:=k.Machine.Frames.Used) (i:=f.toNat) ω;by_cases e:(pagesOn k.Machine.Table f).length=0
 ·rw[rK e]
  refine fM 30 [] [(2,8,[21,22,23,24,25,26,27,28])] [(0,0),(0,0)] Tryz.func227 rfl (λu q=>?_) (.inr trivial)
  repeat'(first|refine gA ?_|(conv=>whnf);first|with_reducible (first|refine CK b.1 (aa d) ?_|refine CK b.1 (aa c) ?_)|refine CD (jM k.Machine.Table f a) ⟨⟨rfl,CV k.Machine.Table⟩,⟨rfl,rfl⟩,trivial⟩ ?_|refine CM rfl rfl (aa c) rfl (Z0 rfl) rfl ?_|refine CM rfl rfl (aa d) rfl (Z0 rfl) rfl ?_|refine Mk.mk 16 rfl rfl (by decide) (by decide) rfl ?_)
  refine CF rfl rfl ?_;exact wB
 ·rw[vT e]
  refine fM 30 [] [(2,8,[21,22,23,24,25,26,27,28])] [(0,0),(0,0)] Tryz.func227 rfl (λu q=>?_) (.inr trivial)
  repeat'(first|refine gA ?_|(conv=>whnf);first|refine CD (jM k.Machine.Table f a) ⟨⟨rfl,CV k.Machine.Table⟩,⟨rfl,rfl⟩,trivial⟩ ?_)
  refine CF rfl rfl ?_;exact wB
theorem xe(k:af)(p:Int):af.enc .own (j7 k p)=[.s .own (k.Machine.Frames.Cells.map (aD .own)),.s .own (k.Machine.Frames.Used.map (rB .own)),.s .own ((k.Machine.Table.Entries.map (bh.enc .own)).set p.toNat (bh.enc .own ⟨0,0⟩)),I k.Calls,.s .own (k.Refuse.map (rI .own))]:=by
 unfold j7;simp only[af.enc,O5]
theorem vE{k:af}{p:Int}(h:aB k=true):aG.sml (j7 k p).Machine.Table:=by
 obtain⟨a,b,c⟩:=bx.1 (aC.1 h).2.2.1;exact⟨by simp only[j7,I1];omega,λ_ _=>trivial⟩
theorem LV(k:af)(p:Int)(b:aB k=true) :
  aQ Tryz.prog 297 false [.ptr (af.enc .own k),.val none [I p]] [.ptr (af.enc .own (cb k p)),.val none [I p]] .one [B (decide ((ar k.Machine.Table p).Mode≠0))]:=by
 have j:=bt b;have c:=dJ k p j.1.2;by_cases a:(ar k.Machine.Table p).Mode=0
 ·rw[show cb k p=k by unfold cb;rw[C9 a]]
  refine fM 32 [(349,[2,0])] [] [(0,0),(0,0)] Tryz.func297 rfl (λu q=>?_)
  repeat'(first|refine gA ?_|(conv=>whnf);first|refine CD (c) ⟨CO k,⟨rfl,rfl⟩,trivial⟩ ?_)
  refine CF rfl ?_ ?_
  ·exact U0 (λz=>[B z]) ((by simp[a]))
  ·exact wB
 ·obtain⟨l,r,n,d,o⟩:=cm b a
  have h:=(aY.1 (aC.1 b).2.1).2.2.1;rw[show cb k p=fQ (j7 k p) (ar k.Machine.Table p).Frame by unfold cb;rw[C8 a]];have e:=qz (j7 k p) (ar k.Machine.Table p).Frame (vE b) ⟨d,by simp only[j7];omega,by simp only[j7];omega⟩;rw[xe]at e;have g:=ah (xs:=k.Machine.Table.Entries) (i:=p.toNat) ω;rw[n]at c e a |-;refine fM 32 [(349,[2,0])] [] [(0,0),(0,0)] Tryz.func297 rfl (λu q=>?_)
  repeat'(first|refine gA ?_|(conv=>whnf);first|with_reducible refine CK l (aa g) ?_|refine CD (c) ⟨CO k,⟨rfl,rfl⟩,trivial⟩ ?_|refine CM rfl rfl (aa g) rfl (Z0 rfl) rfl ?_|refine CG rfl (aa g) rfl ?_|refine CH (e) (.inl rfl) ?_)
  refine CF rfl ?_ ?_
  ·exact U0 (λz=>[B z]) ((by simp[a]))
  ·exact wB
theorem Dj(k:af)(p:Int)(a:aB k=true)(o:k.Calls≠100000) :
  ao Tryz.prog 141 false [.val (some 5) (af.enc .imm k),.val none [I p]] (.tup [some 5,none]) (af.enc .own (cb k p)++[B (decide ((ar k.Machine.Table p).Mode≠0))]):=by
 have d:=bt a;have l:=mU k d;have e:=Ag k d;have c:=tz k p d.1.2;rw[a,O0 o]at e;by_cases b:(ar k.Machine.Table p).Mode=0
 ·rw[show cb k p=k by unfold cb;rw[C9 b]]
  rw[R0 (by simpa using b)]at c |-;refine fP 38 [(227,[2,0])] [] Tryz.func141 rfl ?_ (.inr (aP (af.enc_fr k) ⟨trivial,trivial⟩))
  repeat'(first|refine gO ?_|(conv=>whnf);first|refine C7 (l) ?_|refine C7 (e) ?_|refine C7 (c) ?_)
  all_goals rfl
 ·obtain⟨q,u,r,g,t⟩:=cm a b
  have n:=(aY.1 (aC.1 a).2.1).2.2.1;rw[show cb k p=fQ (j7 k p) (ar k.Machine.Table p).Frame by unfold cb;rw[C8 b]];have h:=AE (j7 k p) (ar k.Machine.Table p).Frame (vE a) ⟨g,by simp only[j7];omega,by simp only[j7];omega⟩;rw[xe]at h;have j:=ah (xs:=k.Machine.Table.Entries) (i:=p.toNat) ω;rw[O0 b]at c |-;rw[r]at h |-;refine fP 38 [(227,[2,0])] [] Tryz.func141 rfl ?_ (.inr (aP (af.enc_fr _) ⟨trivial,trivial⟩))
  repeat'(first|refine gO ?_|(conv=>whnf);first|with_reducible refine CK q (aa j) ?_|refine C7 (l) ?_|refine C7 (e) ?_|refine C7 (c) ?_|refine CM rfl rfl (aa j) rfl (Z0 rfl) rfl ?_|refine CG rfl (aa j) rfl ?_|refine CH (h) (.inl rfl) ?_)
  all_goals rfl
def fG(n:Nat):aZ:=⟨List.replicate n (List.replicate 16 0),List.replicate n false⟩
def dO(n:Nat):aG:=⟨List.replicate n ⟨0,0⟩⟩
def bE(p f:Nat)(a:List Int):af:=⟨⟨fG f,dO p⟩,0,a⟩
def eM:aA:=⟨List.replicate 4 []⟩
def dA(n:Nat):aI:=⟨List.replicate n [],List.replicate n []⟩
def uB(p f t:Nat)(lim:Int)(a:List Int):ab:=⟨bE p f a,[⟨0,p⟩],[],[],[],List.replicate t eM,dA t,⟨16,[]⟩,0,0,lim,1,false,⟨⟨0,0,[]⟩,0,0⟩⟩
theorem cB{α:Type}[Inhabited α]{n j:Nat}{y:α}(a:j<n):nth (List.replicate n y) j=y:=bu (by rw[List.getElem?_replicate,C9 a])
theorem J9(n:Nat)(f:Int):pagesOn (dO n) f=[]:=by
 unfold pagesOn jb;rw[List.map_eq_nil_iff,List.filter_eq_nil_iff];intro i b;have a:i<n:=by simpa[dO] using b
 unfold Jx;rw[show nth (dO n).Entries i = ⟨0,0⟩ from cB a];simp
theorem AW{p f:Nat}(c:1<=p/\p<=32)(d:1<=f/\f<=32):aB (bE p f [])=true:=by
 rw[aC];refine⟨λj b=>by simp[bE]at b,aY.2 ⟨by simp[bE,fG];omega,by simp[bE,fG];omega,by simp[bE,fG],λj b=>?_⟩,bx.2 ⟨λj b=>?_,by simp[bE,dO];omega,by simp[bE,dO];omega⟩,λj b=>?_,by simp[bE],by simp[bE],by simp[bE]⟩
 ·have a:j<f:=by simpa[bE,fG] using b
  rw[show nth (bE p f []).Machine.Frames.Cells j=List.replicate 16 0 from cB a,show nth (bE p f []).Machine.Frames.Used j=false from cB a]
  decide
 ·have a:j<p:=by simpa[bE,dO] using b
  rw[show nth (bE p f []).Machine.Table.Entries j = ⟨0,0⟩ from cB a];unfold kb;rw[C0];exact⟨by decide,by decide,λ_=>rfl,λh=>absurd rfl h⟩
 ·have a:j<f:=by simpa[bE,fG] using b
  rw[show nth (bE p f []).Machine.Frames.Used j=false from cB a,show(bE p f []).Machine.Table=dO p from rfl,J9]
  rfl
theorem wY(w:World)(q:Nat)(c:Array Obj):bA NO w (Sort.grow (w.drewN q) c):=by
 have a:∀b,b<w.heap.size->(Sort.grow (w.drewN q) c).heap[b]? = w.heap[b]?:=λb a=>Sort.heap_grow_old (w.drewN q) c a
 refine⟨rfl,rfl,rfl,by show w.heap.size<=(w.heap++c).size;simp,λb h _=>a b h,λb o h _=>?_,λb o h _=>?_⟩
 ·show World.cell? _ _=World.cell? w _
  unfold World.cell?;simp only[a b h]
 ·refine Prod.ext ?_ ?_
  ·show World.frozen? _ _=World.frozen? w _
   unfold World.frozen?;simp only[a b h]
  ·show mp _ b=mp w b
   unfold mp;rw[a b h]
theorem Hl(c:Nat)(W:World):Calls Tryz.prog 259 #[.slice none 0 c] W λe g=>∃B q h,e=.returned (.slice B 0 0)/\g=Sort.grow (W.drewN q) h:=by
 have q22:∀(w:World)(a:Option Addr)(n c b d:Nat),(binOp .eql 33 (.slice a n c) (.slice none b d)).run Tryz.prog w=.ok (.bool a.isNone) w:=λw a n c b d=>Lib.run_eql_slice_nil w _ _ a n c b d Tryz.underlying33
 go_enter Tryz.func259,Tryz.ntmps259
 go_wp2
 go_ret
 exact⟨none,0,#[],rfl,by simp[Sort.grow,World.drewN]⟩
theorem FU(a:Addr)(c:Nat)(W:World):Calls Tryz.prog 259 #[.slice (some a) 0 c] W λe g=>∃B q h,e=.returned (.slice B 0 0)/\g=Sort.grow (W.drewN q) h:=by
 have q22:∀(w:World)(a:Option Addr)(n c b d:Nat),(binOp .eql 33 (.slice a n c) (.slice none b d)).run Tryz.prog w=.ok (.bool a.isNone) w:=λw a n c b d=>Lib.run_eql_slice_nil w _ _ a n c b d Tryz.underlying33
 go_enter Tryz.func259,Tryz.ntmps259
 go_wp2
 go_ret
 exact⟨some ⟨W.heap.size,0,none⟩,0,#[.cells #[] 3],rfl,by rw[Sort.alloc_eq_grow];rfl⟩
theorem EK(xs:List Int)(o:xs.length<=1048576):ao Tryz.prog 259 false [.val none (aD .imm xs)] .one (aD .own xs):=by
 by_cases d:xs=[]
 ·subst d
  refine⟨⟨_,Tryz.func259,by kernel_rfl,by kernel_rfl⟩,λw S p t g=>?_⟩
  match p,g with
  | [v],⟨g,_⟩=>
   have c:=bC.rep1 (show bC w S NO none [C.s .imm []] v from g);obtain⟨l,b,rfl⟩:=c.slice;have r:Calls Tryz.prog 259 #[.slice l 0 b] w λe n=>∃B q i,e=.returned (.slice B 0 0)/\n=Sort.grow (w.drewN q) i:=by
    cases l with
    | none=>exact Hl b w
    | some a=>exact FU a b w
   refine r.mono λe n ⟨B,q,i,d,j⟩=>?_
   subst j;exact⟨.slice B 0 0,d,wY w q i,NO,NO,λ_ _ h=>h.elim,λ_ _ h=>h.elim,λ_ _ h=>h.elim,rfl,row1 (.nil _ .own B trivial)⟩
 ·have k:xs.map (rI .imm)≠[]:=λe=>d (List.map_eq_nil_iff.1 e)
  refine fO 8 [] Tryz.func259 rfl ?_ (.inr (bG _))
  repeat'(first|refine gO ?_|(conv=>whnf);first|refine Nn.mk k ?_|refine CN (λ_=>rfl) (λ_=>rfl) o (by decide) ?_)
  rfl
theorem xK(p:co)(a:co.sml p):ao Tryz.prog 191 false [.val (some 3) (co.enc .imm p)] .agg (co.enc .own p):=by
 have b:p.Cells.length<=1048576:=a;refine fO 8 [] Tryz.func191 rfl ?_ (.inr (co.enc_fr _))
 repeat'(first|refine gO ?_|(conv=>whnf);first|refine C7 (EK p.Cells b) ?_)
 rfl
theorem Ay(j:cn)(a:cn.sml j):ao Tryz.prog 158 false [.val (some 5) (cn.enc .imm j)] .agg (cn.enc .own j):=by
 refine fO 8 [] Tryz.func158 rfl ?_ (.inr (cn.enc_fr _))
 repeat'(first|refine gO ?_|(conv=>whnf);first|refine C7 (xK j.Plan a) ?_)
 rfl
theorem iw(c:aA)(d:aA.sml c):ao Tryz.prog 229 false [.val (some 1) (aA.enc .imm c)] .agg (aA.enc .own c):=by
 have g:=d.1;refine fO 26 [(5,10,[13,14,15,16,17,18,19,20,21,22])] Tryz.func229 rfl ?_ (.inr (aA.enc_fr _))
 repeat'(first|refine gO ?_|fail)
 (conv=>whnf)
 refine CE (ι:=Nat) (λi=>[(1,.hold .box (aA.enc .imm c)),(2,.hold .box [.z]),(3,.hold .box [.s .own ((c.Lists.take i).map (aD .own))]),(4,.hold .one [I ((i:Nat):Int)])]) (λi=>i<=c.Lists.length) (λi=>c.Lists.length - i) (0) ?_ (T0 _) λi h=>?_
 ·exact wB
 by_cases a:i<c.Lists.length
 ·have e:=ah a
  have b:(nth c.Lists i).length<=1048576:=d.2 _ (am a)
  repeat'(first|refine gD ?_|(conv=>whnf);first|with_reducible refine CB (aa e) ?_|refine CS (λ_=>rfl) (λ_=>rfl) b (by decide) ?_|refine Ap.sn (aK λ_=>rfl) rfl (by simp;omega) (by decide) (eP a) ?_)
  ((conv=>whnf);refine CC (i+1) ω ω ?_;(exact wB))
 ·repeat'(first|refine gD ?_|fail)
  obtain rfl:i=c.Lists.length:=ω
  rw[V4]
  rfl
theorem og(c:aA)(d:aA.sml c):ao Tryz.prog 155 false [.val (some 1) (aA.enc .imm c)] .agg (aA.enc .own c):=by
 have g:=d.1;refine fO 23 [(5,5,[14,15,16,17,18])] Tryz.func155 rfl ?_ (.inr (aA.enc_fr _))
 repeat'(first|refine gO ?_|fail)
 (conv=>whnf)
 refine CE (ι:=Nat) (λi=>[(2,.hold .box [.z]),(3,.hold .box [.s .own ((c.Lists.take i).map (aD .own))]),(8,.hold .one (iR .imm c.Lists)),(9,.hold .one [I (c.Lists.length)]),(10,.hold .one [I ((i:Nat):Int)])]) (λi=>i<=c.Lists.length) (λi=>c.Lists.length - i) (0) ?_ (T0 _) λi h=>?_
 ·exact wB
 by_cases a:i<c.Lists.length
 ·have e:=ah a
  have b:(nth c.Lists i).length<=1048576:=d.2 _ (am a)
  repeat'(first|refine gD ?_|(conv=>whnf);first|with_reducible refine CB (aa e) ?_|refine C7 (iV (nth c.Lists i) b) ?_|refine Ap.sn (aK λ_=>rfl) rfl (by simp;omega) (by decide) (eP a) ?_)
  ((conv=>whnf);refine CC (i+1) ω ω ?_;(exact wB))
 ·repeat'(first|refine gD ?_|fail)
  obtain rfl:i=c.Lists.length:=ω
  rw[V4]
  rfl
theorem fo(m:aI)(b:aI.sml m):ao Tryz.prog 230 false [.val (some 2) (aI.enc .imm m)] .agg (aI.enc .own m):=by
 have h:=b.1.1;have g:=b.2.1;refine fO 46 [(5,10,[14,15,16,17,18,19,20,21,22,23]),(9,10,[33,34,35,36,37,38,39,40,41,42])] Tryz.func230 rfl ?_ (.inr (aI.enc_fr _))
 repeat'(first|refine gO ?_|fail)
 (conv=>whnf)
 refine CE (ι:=Nat) (λi=>[(1,.hold .box (aI.enc .imm m)),(2,.hold .box [.z,.z]),(3,.hold .box [.s .own ((m.Buffers.take i).map (cz .own)),.z]),(4,.hold .one [I ((i:Nat):Int)])]) (λi=>i<=m.Buffers.length) (λi=>m.Buffers.length - i) (0) ?_ (T0 _) λi j=>?_
 ·exact wB
 by_cases c:i<m.Buffers.length
 ·have d:=ah c
  have a:(nth m.Buffers i).length<=1048576:=(b.1.2 _ (am c)).1
  repeat'(first|refine gD ?_|(conv=>whnf);first|with_reducible refine CB (aa d) ?_|refine CS (λ_=>rfl) (λ_=>rfl) a (by decide) ?_|refine Ap.sn (aK λ_=>rfl) rfl (by simp;omega) (by decide) (eP c) ?_)
  ((conv=>whnf);refine CC (i+1) ω ω ?_;(exact wB))
 obtain rfl:i=m.Buffers.length:=ω
 rw[V4]
 repeat'(first|refine gD ?_|fail)
 (conv=>whnf)
 refine CE (ι:=Nat) (λk=>[(1,.hold .box (aI.enc .imm m)),(2,.hold .box [.z,.z]),(3,.hold .box [.s .own (m.Buffers.map (cz .own)),.s .own ((m.Inbox.take k).map (aD .own))]),(5,.hold .one [I ((k:Nat):Int)])]) (λk=>k<=m.Inbox.length) (λk=>m.Inbox.length - k) (0) ?_ (T0 _) λk l=>?_
 ·exact wB
 by_cases e:k<m.Inbox.length
 ·have d:=ah e
  have a:(nth m.Inbox k).length<=1048576:=b.2.2 _ (am e)
  repeat'(first|refine gD ?_|(conv=>whnf);first|with_reducible refine CB (aa d) ?_|refine CS (λ_=>rfl) (λ_=>rfl) a (by decide) ?_|refine Ap.sn (aK λ_=>rfl) rfl (by simp;omega) (by decide) (eP e) ?_)
  ((conv=>whnf);refine CC (k+1) ω ω ?_;(exact wB))
 ·repeat'(first|refine gD ?_|fail)
  obtain rfl:k=m.Inbox.length:=ω
  rw[V4]
  rfl
theorem yk(m:aI)(b:aI.sml m):ao Tryz.prog 156 false [.val (some 2) (aI.enc .imm m)] .agg (aI.enc .own m):=by
 have h:=b.1.1;have g:=b.2.1;refine fO 41 [(5,6,[16,17,18,19,20,21]),(10,5,[32,33,34,35,36])] Tryz.func156 rfl ?_ (.inr (aI.enc_fr _))
 repeat'(first|refine gO ?_|fail)
 (conv=>whnf)
 refine CE (ι:=Nat) (λi=>[(1,.hold .box (aI.enc .imm m)),(2,.hold .box [.z,.z]),(3,.hold .box [.s .own ((m.Buffers.take i).map (cz .own)),.z]),(10,.hold .one (xj .imm m.Buffers)),(11,.hold .one [I (m.Buffers.length)]),(12,.hold .one [I ((i:Nat):Int)])]) (λi=>i<=m.Buffers.length) (λi=>m.Buffers.length - i) (0) ?_ (T0 _) λi j=>?_
 ·exact wB
 by_cases c:i<m.Buffers.length
 ·have d:=ah c
  have a:(nth m.Buffers i).length<=1048576:=(b.1.2 _ (am c)).1
  repeat'(first|refine gD ?_|(conv=>whnf);first|with_reducible refine CB (aa d) ?_|refine CS (λ_=>rfl) (λ_=>rfl) a (by decide) ?_|refine Ap.sn (aK λ_=>rfl) rfl (by simp;omega) (by decide) (eP c) ?_)
  ((conv=>whnf);refine CC (i+1) ω ω ?_;(exact wB))
 obtain rfl:i=m.Buffers.length:=ω
 rw[V4]
 repeat'(first|refine gD ?_|fail)
 (conv=>whnf)
 refine CE (ι:=Nat) (λk=>[(2,.hold .box [.z,.z]),(3,.hold .box [.s .own (m.Buffers.map (cz .own)),.s .own ((m.Inbox.take k).map (aD .own))]),(26,.hold .one (iR .imm m.Inbox)),(27,.hold .one [I (m.Inbox.length)]),(28,.hold .one [I ((k:Nat):Int)])]) (λk=>k<=m.Inbox.length) (λk=>m.Inbox.length - k) (0) ?_ (T0 _) λk l=>?_
 ·exact wB
 by_cases e:k<m.Inbox.length
 ·have d:=ah e
  have a:(nth m.Inbox k).length<=1048576:=b.2.2 _ (am e)
  repeat'(first|refine gD ?_|(conv=>whnf);first|with_reducible refine CB (aa d) ?_|refine C7 (iV (nth m.Inbox k) a) ?_|refine Ap.sn (aK λ_=>rfl) rfl (by simp;omega) (by decide) (eP e) ?_)
  ((conv=>whnf);refine CC (k+1) ω ω ?_;(exact wB))
 ·repeat'(first|refine gD ?_|fail)
  obtain rfl:k=m.Inbox.length:=ω
  rw[V4]
  rfl
theorem qv(q:bz)(b:bz.sml q):ao Tryz.prog 231 false [.val (some 2) (bz.enc .imm q)] .agg (bz.enc .own q):=by
 have a:q.Lst.length<=1048576:=b.1;refine fO 10 [(1,6,[3,4,5,6,7,8])] Tryz.func231 rfl ?_ (.inr (bz.enc_fr _))
 repeat'(first|refine gO ?_|(conv=>whnf);first|refine CS (λ_=>rfl) (λ_=>rfl) a (by decide) ?_|refine CN (λ_=>rfl) (λ_=>rfl) a (by decide) ?_)
 rfl
theorem pA(q:bz)(b:bz.sml q):ao Tryz.prog 157 false [.val (some 2) (bz.enc .imm q)] .agg (bz.enc .own q):=by
 have a:q.Lst.length<=1048576:=b.1;refine fO 10 [(1,6,[3,4,5,6,7,8])] Tryz.func157 rfl ?_ (.inr (bz.enc_fr _))
 repeat'(first|refine gO ?_|(conv=>whnf);first|refine CS (λ_=>rfl) (λ_=>rfl) a (by decide) ?_|refine CN (λ_=>rfl) (λ_=>rfl) a (by decide) ?_)
 rfl
theorem qZ(j:cn)(a:cn.sml j):ao Tryz.prog 232 false [.val (some 5) (cn.enc .imm j)] .agg (cn.enc .own j):=by
 have b:j.Plan.Cells.length<=1048576:=a;refine fO 11 [] Tryz.func232 rfl ?_ (.inr (cn.enc_fr _))
 repeat'(first|refine gO ?_|(conv=>whnf);first|refine CN (λ_=>rfl) (λ_=>rfl) b (by decide) ?_)
 rfl
theorem mX(xs:List ay)(a:fW xs):ao Tryz.prog 154 false [.val none (b8 .imm xs)] .one (b8 .own xs):=by
 have b:=a.1;refine fO 6 [] Tryz.func154 rfl ?_ (.inr (kJ _))
 repeat'(first|refine gO ?_|(conv=>whnf);first|refine CN (λ_=>rfl) (λ_=>rfl) b (by decide) ?_)
 rfl
def P5(h:ab)(a:C):List C:=[.s .own (h.Kernel.Machine.Frames.Cells.map (aD .own)),.s .own (h.Kernel.Machine.Frames.Used.map (rB .own)),.s .own (h.Kernel.Machine.Table.Entries.map (bh.enc .own)),I h.Kernel.Calls,.s .own (h.Kernel.Refuse.map (rI .own)),.s .own (h.Free.map (ay.enc .own)),.s .own (h.Spans.map (au.enc .own)),.s .own (h.Larges.map (ax.enc .own)),.s .own (h.Objs.map (bm.enc .own)),a,.s .imm (h.Mail.Buffers.map (cz .imm)),.s .imm (h.Mail.Inbox.map (aD .imm)),I h.Quar.Room,.s .imm (h.Quar.Lst.map (aL.enc .imm)),I h.Seed,I h.Clock,I h.Limit,I h.Next,B h.Meshing,I h.Job.Plan.Keep,I h.Job.Plan.Move,.s .imm (h.Job.Plan.Cells.map (rI .imm)),I h.Job.Phase,I h.Job.Next]
def BR:List C:=[.z,.z,.z,I 0,.z,.z,.z,.z,.z,.z,.z,.z,I 0,.z,I 0,I 0,I 0,I 0,B false,I 0,I 0,.z,I 0,I 0]
theorem AP(h:ab)(c:ab.sml h):ao Tryz.prog 142 false [.val (some 24) (ab.enc .imm h)] .agg (ab.enc .own h):=by
 obtain⟨d,e,g,j,k,b,l,n,o⟩:=c;have p:=e.1;have q:=g.1;have r:=j.1;have t:=k.1;have w:=b.1;refine fO 61 [] Tryz.func142 rfl ?_ (.inr (ab.enc_fr _))
 repeat'(first|refine gO ?_|(conv=>whnf);first|refine C7 (Bh h.Kernel d) ?_|refine CN (λ_=>rfl) (λ_=>rfl) p (by decide) ?_|refine CN (λ_=>rfl) (λ_=>rfl) q (by decide) ?_|refine CN (λ_=>rfl) (λ_=>rfl) r (by decide) ?_|refine CN (λ_=>rfl) (λ_=>rfl) t (by decide) ?_)
 (conv=>whnf)
 refine CE (ι:=Nat) (λi=>[(1,.hold .box (P5 h (.s .imm (h.Caches.map (aA.enc .imm))))),(2,.hold .box BR),(3,.hold .one ([.s .own ((h.Caches.take i).map (aA.enc .own))])),(4,.hold .one [I ((i:Nat):Int)])]) (λi=>i<=h.Caches.length) (λi=>h.Caches.length - i) (0) ?_ (T0 _) λi y=>?_
 ·exact wB
 by_cases a:i<h.Caches.length
 ·have u:=ah a
  repeat'(first|refine gD ?_|(conv=>whnf);first|with_reducible refine CB (aa u) ?_|refine C7 (iw (nth h.Caches i) (b.2 _ (am a))) ?_|refine Ap.sn (aK λ_=>rfl) rfl (by simp;omega) (by decide) (eP a) ?_)
  ((conv=>whnf);refine CC (i+1) ω ω ?_;(exact wB))
 ·obtain rfl:i=h.Caches.length:=ω
  rw[V4]
  repeat'(first|refine gD ?_|(conv=>whnf);first|refine C7 (fo h.Mail l) ?_|refine C7 (qv h.Quar n) ?_|refine C7 (qZ h.Job o) ?_)
  rfl
theorem yi(h:ab)(c:ab.sml h):ao Tryz.prog 65 false [.val (some 24) (ab.enc .imm h)] .agg (ab.enc .own h):=by
 obtain⟨d,e,g,j,k,b,l,n,o⟩:=c;have p:=g.1;have q:=j.1;have r:=k.1;have u:=b.1;refine fO 59 [(11,5,[38,39,40,41,42])] Tryz.func65 rfl ?_ (.inr (ab.enc_fr _))
 repeat'(first|refine gO ?_|(conv=>whnf);first|refine C7 (mU h.Kernel d) ?_|refine C7 (mX h.Free e) ?_|refine CN (λ_=>rfl) (λ_=>rfl) p (by decide) ?_|refine CN (λ_=>rfl) (λ_=>rfl) q (by decide) ?_|refine CN (λ_=>rfl) (λ_=>rfl) r (by decide) ?_)
 (conv=>whnf)
 refine CE (ι:=Nat) (λi=>[(1,.hold .box (ab.enc .imm h)),(2,.hold .box BR),(3,.hold .box (P5 h (.s .own ((h.Caches.take i).map (aA.enc .own))))),(32,.hold .one (nN .imm h.Caches)),(33,.hold .one [I (h.Caches.length)]),(34,.hold .one [I ((i:Nat):Int)])]) (λi=>i<=h.Caches.length) (λi=>h.Caches.length - i) (0) ?_ (T0 _) λi w=>?_
 ·exact wB
 by_cases a:i<h.Caches.length
 ·have t:=ah a
  repeat'(first|refine gD ?_|(conv=>whnf);first|with_reducible refine CB (aa t) ?_|refine C7 (og (nth h.Caches i) (b.2 _ (am a))) ?_|refine Ap.sn (aK λ_=>rfl) rfl (by simp;omega) (by decide) (eP a) ?_)
  ((conv=>whnf);refine CC (i+1) ω ω ?_;(exact wB))
 ·obtain rfl:i=h.Caches.length:=ω
  rw[V4]
  repeat'(first|refine gD ?_|(conv=>whnf);first|refine C7 (yk h.Mail l) ?_|refine C7 (pA h.Quar n) ?_|refine C7 (Ay h.Job o) ?_)
  rfl
theorem Ap.sm{rows b:List (List C)}{r:List C}{sz by_:Nat}{K:List (List C)->Prop}(h1:∀r∈rows,r.length=sz)(c:r.length=sz)(d:rows.length+1<=1073741824)(e:by_<=1000)(a:b=rows++[r])(f:K b):Ap false rows [r] sz by_ K:=
 CP h1 (λg a=>by rw[C1.1 a];exact c) (λh=>by cases h) (by simp;omega) (O4 (Nat.mul_le_mul (show rows.length+[r].length<=1073741824 by simpa using d) e) (by decide)) a f
theorem Ap.s2{rows d:List (List C)}{a b:List C}{sz by_:Nat}{K:List (List C)->Prop}(h1:∀r∈rows,r.length=sz)(i:a.length=sz)(j:b.length=sz)(e:rows.length+2<=1073741824)(f:by_<=1000)(c:d=rows++[a,b])(g:K d):Ap false rows [a,b] sz by_ K:=
 CP h1 (λk c=>by simp at c;rcases c with rfl|rfl<;>assumption) (λh=>by cases h) (by simp;omega) (O4 (Nat.mul_le_mul (show rows.length+[a,b].length<=1073741824 by simpa using e) f) (by decide)) c g
theorem rQ(y:ay)(a:List ay)(r:ay)(out:List ay)(done:Bool):ip (y::a) r out done=if ovl y r then none
  else if y.At+y.Len=r.At then ip a ⟨y.At,y.Len+r.Len⟩ out done
  else if r.At+r.Len=y.At then ip a ⟨r.At,r.Len+y.Len⟩ out done
  else if y.At > r.At/\done=false then ip a r (out++[r,y]) true
  else ip a r (out++[y]) done:=by rw[ip]
theorem uE{pages:Int}{xs:List ay}(h:bw pages xs=true):nq xs/\∀y∈xs,0<=y.At/\1<=y.Len/\y.At+y.Len<=pages:=by
 unfold bw at h;simp only[I0,C0]at h;have b:∀i,i<xs.length->1<=(nth xs i).Len/\0<=(nth xs i).At/\(nth xs i).At<=pages - (nth xs i).Len:=λi a=>by
  have:=dH h.1 a;unfold fR rangeIn at this;simp only[I0,C0]at this;omega
 have d:∀i,i+1<xs.length->(nth xs i).At+(nth xs i).Len<(nth xs (i+1)).At:=λi a=>by
  have:=dH h.1 a;unfold fR at this;simp only[I0,C0]at this;have:=this.2.resolve_left ω;simpa using this
 have k:∀j i,i<j->j<xs.length->(nth xs i).At+(nth xs i).Len<(nth xs j).At:=λj=>by
  induction j with
  | zero=>intro i a;omega
  | succ j l=>
   intro i a c;have n:=d j c;by_cases e:i=j
   ·subst e;exact n
   ·have o:=l i ω ω
    have p:=b j ω;omega
 refine⟨⟨?_,λy f=>?_⟩,λy f=>?_⟩
 ·rw[List.pairwise_iff_getElem]
  intro i j a c g;have:=k j i g c
  rwa [bu (Z1 a),bu (Z1 c)]at this
 ·obtain⟨i,a,rfl⟩:=bf f
  exact(b i a).1
 ·obtain⟨i,a,rfl⟩:=bf f
  have:=b i a;omega
theorem g9{α:Type}[Inhabited α]{xs:List α}{i:Nat}(a:i<xs.length):xs.drop i=nth xs i::xs.drop (i+1):=by
 rw[List.drop_eq_getElem_cons a,bu (Z1 a)]
def bU(pages:Int)(xs:List ay)(r:ay):Option (List ay):=if bw pages xs=true/\rangeIn pages r=true then ip xs r [] false else none
def Ac(xs:List ay)(o:Option (List ay)):List C:=b8 .own (o.getD xs)++[B o.isSome]
theorem jQ(xs:List ay)(o:Option (List ay)):gw (Ac xs o):=aP (kJ _) ⟨trivial,trivial⟩
theorem xz(pages:Int)(xs:List ay)(r:ay)(w:0<=pages/\pages<=1048576)(n:fW xs):ao Tryz.prog 222 false [.val none [I pages],.val none (b8 .imm xs),.val (some 2) (ay.enc .imm r)] (.tup [none,none]) (Ac xs (bU pages xs r)):=by
 have L:=n.1;have k:=p6 pages xs w n;have o:=vo pages r w;have p:=mX xs n;cases l:bw pages xs<;>rw[l]at k
 ·rw[show bU pages xs r=none by unfold bU;rw[C8 (by rw[l];simp)]]
  refine fO 111 [] Tryz.func222 rfl ?_ (.inr (jQ _ _))
  repeat'(first|refine gO ?_|(conv=>whnf);first|refine C7 (k) ?_|refine C7 (p) ?_)
  rfl
 cases j:rangeIn pages r<;>rw[j]at o
 ·rw[show bU pages xs r=none by unfold bU;rw[C8 (by rw[j];simp)]]
  refine fO 111 [] Tryz.func222 rfl ?_ (.inr (jQ _ _))
  repeat'(first|refine gO ?_|(conv=>whnf);first|refine C7 (k) ?_|refine C7 (o) ?_|refine C7 (p) ?_)
  rfl
 rw[show bU pages xs r=ip xs r [] false by unfold bU;rw[C9 ⟨l,j⟩]];obtain⟨M,G⟩:=uE l;have H:0<=r.At/\1<=r.Len/\r.At+r.Len<=pages:=by
  unfold rangeIn at j;rw[C0]at j;omega
 refine fO 111 [] Tryz.func222 rfl ?_ (.inr (jQ _ _))
 repeat'(first|refine gO ?_|(conv=>whnf);first|refine C7 (k) ?_|refine C7 (o) ?_)
 (conv=>whnf)
 refine CE (ι:=Nat × ay × List ay × Bool) (λq=>[(1,.hold .one (b8 .imm xs)),(5,.hold .box (ay.enc .imm q.2.1)),(8,.hold .one (b8 .own q.2.2.1)),(9,.hold .one [B (q.2.2.2)]),(25,.hold .one (b8 .imm xs)),(26,.hold .one [I (xs.length)]),(27,.hold .one [I ((q.1:Nat):Int)])]) (λq=>q.1<=xs.length/\ip (xs.drop q.1) q.2.1 q.2.2.1 q.2.2.2=ip xs r [] false/\(0<=q.2.1.At/\1<=q.2.1.Len/\q.2.1.At+q.2.1.Len<=pages)/\q.2.2.1.length<=2*q.1) (λq=>xs.length - q.1) ((0,r,[],false)) ?_ (⟨T0 _,rfl,H,T0 _⟩) λq c=>?_
 ·exact wB
 obtain⟨i,d,out,done⟩:=q;obtain⟨J,b,e,t⟩:=c;simp only at J b e t |-;by_cases u:i<xs.length
 ·have g:=ah u
  have N:=G _ (am u);rw[g9 u]at b;by_cases h:ovl (nth xs i) d=true
  ·rw[<-b]
   rw[rQ,C9 h];unfold ovl at h;rw[C0]at h
   repeat'(first|refine gD ?_|(conv=>whnf);first|with_reducible (first|refine CB (aa g) ?_|refine Bf.D (λc=>?_) (λc=>?_))|refine C7 (p) ?_)
   rfl
  ·have a:=b
   rw[rQ,C8 h]at a;unfold ovl at h;rw[C0]at h;by_cases y:(nth xs i).At+(nth xs i).Len=d.At
   ·rw[C9 y]at a
    repeat'(first|refine gA ?_|(conv=>whnf);first|with_reducible (first|refine CB (aa g) ?_|refine Bf.D (λc=>?_) (λc=>?_)))
    ((conv=>whnf);refine CC (i+1,⟨(nth xs i).At,(nth xs i).Len+d.Len⟩,out,done) ⟨(by simp only;omega),a,(by simp only;omega),(by simp only;omega)⟩ (by simp only;omega) ?_;(exact wB))
   ·rw[C8 y]at a
    by_cases F:d.At+d.Len=(nth xs i).At
    ·rw[C9 F]at a
     repeat'(first|refine gA ?_|(conv=>whnf);first|with_reducible (first|refine CB (aa g) ?_|refine Bf.D (λc=>?_) (λc=>?_)|refine Bf.E (λc=>?_) (λc=>?_)))
     ((conv=>whnf);refine CC (i+1,⟨d.At,d.Len+(nth xs i).Len⟩,out,done) ⟨(by simp only;omega),a,(by simp only;omega),(by simp only;omega)⟩ (by simp only;omega) ?_;(exact wB))
    ·rw[C8 F]at a
     by_cases K:(nth xs i).At > d.At
     ·cases done with
      | false=>
       rw[C9 ⟨K,rfl⟩]at a
       repeat'(first|refine gA ?_|(conv=>whnf);first|with_reducible (first|refine CB (aa g) ?_|refine Bf.D (λc=>?_) (λc=>?_)|refine Bf.E (λc=>?_) (λc=>?_))|refine Ap.s2 (aK λ_=>rfl) rfl rfl (by simp;omega) (by decide) rfl ?_)
       ((conv=>whnf)
        refine CC (i+1,d,out++[d,nth xs i],true) ⟨(by simp only;omega),a,e,(by simp;omega)⟩ (by simp only;omega) ?_
        (repeat'(first|exact trivial|rfl|exact CI rfl (CI (U0 (C.s du.own) (by simp[ay.enc])) trivial)|refine CI ?_ ?_)))
      | true=>
       rw[C8 (by simp)]at a
       repeat'(first|refine gA ?_|(conv=>whnf);first|with_reducible (first|refine CB (aa g) ?_|refine Bf.D (λc=>?_) (λc=>?_)|refine Bf.E (λc=>?_) (λc=>?_))|refine Ap.sm (aK λ_=>rfl) rfl (by simp;omega) (by decide) rfl ?_)
       ((conv=>whnf)
        refine CC (i+1,d,out++[nth xs i],true) ⟨(by simp only;omega),a,e,(by simp;omega)⟩ (by simp only;omega) ?_
        (repeat'(first|exact trivial|rfl|exact CI rfl (CI (U0 (C.s du.own) (by simp[ay.enc])) trivial)|refine CI ?_ ?_)))
     ·rw[C8 ω]at a
      repeat'(first|refine gA ?_|(conv=>whnf);first|with_reducible (first|refine CB (aa g) ?_|refine Bf.D (λc=>?_) (λc=>?_)|refine Bf.E (λc=>?_) (λc=>?_))|refine Ap.sm (aK λ_=>rfl) rfl (by simp;omega) (by decide) rfl ?_)
      ((conv=>whnf)
       refine CC (i+1,d,out++[nth xs i],done) ⟨(by simp only;omega),a,e,(by simp;omega)⟩ (by simp only;omega) ?_
       (repeat'(first|exact trivial|rfl|exact CI rfl (CI (U0 (C.s du.own) (by simp[ay.enc])) trivial)|refine CI ?_ ?_)))
 ·obtain rfl:i=xs.length:=ω
  rw[List.drop_length]at b;cases done with
  | false=>
   rw[<-b]
   repeat'(first|refine gD ?_|(conv=>whnf);first|refine Ap.sm (aK λ_=>rfl) rfl (by simp;omega) (by decide) rfl ?_)
   show [C.s du.own _,B true]=[C.s du.own _,B true];simp[ip,ay.enc]
  | true=>
   rw[<-b]
   repeat'(first|refine gD ?_|fail)
   rfl
theorem uI{α:Type}[Inhabited α](R:Int->Int->Prop)(n:∀a b c,R a b->R b c->R a c)(f:α->Int)(xs:List α):(∀i,i<xs.length->i=0\/R (f (nth xs (i - 1))) (f (nth xs i)))↔xs.Pairwise (λa b=>R (f a) (f b)):=by
 constructor
 ·intro h
  have o:∀j i,i<j->j<xs.length->R (f (nth xs i)) (f (nth xs j)):=λj=>by
   induction j with
   | zero=>intro i d;omega
   | succ j p=>
    intro i d g;have k:=(h (j+1) g).resolve_left ω;rw[show j+1 - 1=j from rfl]at k;by_cases e:i=j
    ·subst e;exact k
    ·exact n _ _ _ (p i ω ω) k
  rw[List.pairwise_iff_getElem];intro i j d g l;have:=o j i l g
  rwa [bu (Z1 d),bu (Z1 g)]at this
 ·intro h i d
  by_cases e:i=0
  ·exact .inl e
  ·right
   have:=List.pairwise_iff_getElem.1 h (i - 1) i ω d ω
   rwa [<-bu (Z1 (show i - 1<xs.length by omega)),<-bu (Z1 d)]at this
theorem yJ{α:Type}[Inhabited α](f:α->Int)(xs:List α):(∀i,i<xs.length->∀o∈xs.take i,f o≠f (nth xs i))↔(xs.map f).Nodup:=by
 unfold List.Nodup;rw[List.pairwise_map,List.pairwise_iff_getElem];constructor
 ·intro h i j a b c
  have:=h j b xs[i] (List.mem_take_iff_getElem.2 ⟨i,ω,rfl⟩)
  rwa [bu (Z1 b)]at this
 ·intro h i a o d
  obtain⟨j,b,rfl⟩:=List.mem_take_iff_getElem.1 d;rw[bu (Z1 a)];exact h j i ω a ω
def eL(s:au)(a:Int):Prop:=16*s.Page<=a/\a<=16*s.Page+15/\(a - 16*s.Page) % csz s.Class=0/\aX s.Bits ((a - 16*s.Page) / csz s.Class)=true
def iX(sp:List au)(a c:Int):Prop:=∃s∈sp,eL s a/\(c<0\/s.Class=c)
def Qu(la:List ax)(a z:Int):Prop:=∃l∈la,a=16*l.Page/\l.Size=z
def La(sp:List au)(la:List ax)(o:bm):Prop:=(∃s∈sp,eL s o.Addr/\s.Class=aM o.Size)\/Qu la o.Addr o.Size
def lK(sp:List au)(la:List ax)(a:Int):Prop:=iX sp a (-1)\/∃l∈la,a=16*l.Page
theorem lB{sp:List au}{la:List ax}(f:qx sp la)(a:Int):(∃i,i<sp.length/\(16*(nth sp i).Page<=a/\a<=16*(nth sp i).Page+15)/\denotes sp la a=ns i (nth sp i) a)\/((∀s∈sp,¬(16*s.Page<=a/\a<=16*s.Page+15))/\((∃i,i<la.length/\b9 (nth la i) a=true/\denotes sp la a = ⟨3,i,0,a - 16*(nth la i).Page⟩)\/((∀l∈la,b9 l a=false)/\denotes sp la a = ⟨0,0,0,0⟩))):=by
 cases c:sp.findIdx? (cF · a) with
 | some i=>
  obtain⟨b,d,-⟩:=Z5.1 c;rw[<-bu (Z1 b)]at d;exact .inl ⟨i,b,(ge (f.sok _ (am b))).1 d,by unfold denotes;rw[c]⟩
 | none=>
  have h:=List.findIdx?_eq_none_iff.1 c;refine .inr ⟨λs g j=>?_,?_⟩
  ·have:=h s g
   rw[(ge (f.sok _ g)).2 j]at this;cases this
  cases e:la.findIdx? (b9 · a) with
  | some i=>
   obtain⟨b,d,-⟩:=Z5.1 e;rw[<-bu (Z1 b)]at d;exact .inl ⟨i,b,d,by unfold denotes;rw[c,e]⟩
  | none=>exact .inr ⟨List.findIdx?_eq_none_iff.1 e,by unfold denotes;rw[c,e]⟩
theorem Ki{h:ab}(k:qx h.Spans h.Larges){a c:Int} : db h a c=true↔iX h.Spans a c:=by
 unfold db;simp only[I0,R5,C0];constructor
 ·rintro⟨⟨b,j⟩,d⟩
  rcases lB k a with⟨i,g,l,f⟩|⟨-,⟨i,g,-,f⟩|⟨-,f⟩⟩
  ·rw[f]at b j d
   simp only[ns]at b j d;refine⟨_,am g,⟨l.1,l.2,j,?_⟩,by simpa using d⟩;cases e:aX (nth h.Spans i).Bits ((a - 16*(nth h.Spans i).Page) / csz (nth h.Spans i).Class) with
   | true=>rfl
   | false=>rw[e]at b;simp at b
  ·rw[f]at b;simp at b
  ·rw[f]at b;simp at b
 ·rintro⟨s,n,⟨o,p,q,r⟩,d⟩
  obtain⟨i,g,rfl⟩:=bf n;rw[gF k g ⟨o,p⟩];simp only[ns,q,r,if_true,true_and];simpa using d
theorem wN{sp:List au}{la:List ax}(a:qx sp la){l:ax}(b:l∈la):(∀s∈sp,¬(16*s.Page<=16*l.Page/\16*l.Page<=16*s.Page+15))/\b9 l (16*l.Page)=true/\∀i,i<la.length->b9 (nth la i) (16*l.Page)=true->nth la i=l:=by
 have k:=aU (a.lok _ b);have f:=cC (a.lok _ b);refine⟨λs g n=>?_,?_,λi d e=>?_⟩
 ·exact a.dis s g l b 0 ω ω
 ·unfold b9;rw[a.lok _ b,O0 ω];rfl
 ·obtain⟨j,h,rfl⟩:=bf b
  have o:=aU (a.lok _ (am d));have c:=a.lok _ (am d);unfold bS at c;rw[C0]at c;unfold b9 at e;rw[I0,C0]at e;rw[a.one i j d h ((nth la j).Page - (nth la i).Page).toNat 0 ω ω ω]
theorem Li{h:ab}(f:qx h.Spans h.Larges){o:bm} : jK h o=true↔La h.Spans h.Larges o:=by
 unfold jK;simp only[I0,R5,C0];constructor
 ·rintro⟨d,a⟩
  rcases lB f o.Addr with⟨i,b,g,c⟩|⟨-,⟨i,b,-,c⟩|⟨-,c⟩⟩
  ·rw[c]at a d
   simp only[ns]at a d;have j:aX (nth h.Spans i).Bits ((o.Addr - 16*(nth h.Spans i).Page) / csz (nth h.Spans i).Class)=true:=by
    cases e:aX (nth h.Spans i).Bits ((o.Addr - 16*(nth h.Spans i).Page) / csz (nth h.Spans i).Class) with
    | true=>rfl
    | false=>rw[e]at a;simp at a
   rw[j]at a;exact .inl ⟨_,am b,⟨g.1,g.2,d,j⟩,by simpa using a⟩
  ·rw[c]at a d
   simp only at a d;exact .inr ⟨_,am b,ω,by simpa using a⟩
  ·rw[c]at a;simp at a
 ·rintro(⟨s,j,⟨p,q,r,t⟩,u⟩|⟨l,k,w,y⟩)
  ·obtain⟨i,b,rfl⟩:=bf j
   rw[gF f b ⟨p,q⟩];simp only[ns,r,t,if_true,true_and];simp[u]
  ·obtain⟨A,n,B⟩:=wN f k
   rw[w];rcases lB f (16*l.Page) with⟨i,b,g,c⟩|⟨-,⟨i,b,C,c⟩|⟨D,c⟩⟩
   ·exact absurd g (A _ (am b))
   ·rw[c]
    have:=B i b C;simp only[this,R2];exact⟨ω,.inr ⟨trivial,y⟩⟩
   ·rw[D l k]at n;cases n
theorem DP{sp:List au}{la:List ax}(d:qx sp la)(a:Int):a∈im sp la↔lK sp la a:=by
 constructor
 ·intro h
  unfold im kP at h;obtain⟨n,o,rfl⟩:=Z3.1 h;have g:=(t4.1 o).2;unfold jr at g;simp only[I0,R5,C0]at g;obtain⟨j,f⟩:=g;rcases lB d (n:Int) with⟨i,c,k,b⟩|⟨-,⟨i,c,-,b⟩|⟨-,b⟩⟩
  ·rw[b]at f j
   simp only[ns]at f j;refine .inl ⟨_,am c,⟨k.1,k.2,j,?_⟩,.inl ω⟩;cases e:aX (nth sp i).Bits (((n:Int) - 16*(nth sp i).Page) / csz (nth sp i).Class) with
   | true=>rfl
   | false=>rw[e]at f;simp at f
  ·rw[b]at j
   simp only at j;exact .inr ⟨_,am c,ω⟩
  ·rw[b]at f;simp at f
 ·rintro(⟨s,r,⟨t,g,u,w⟩,-⟩|⟨l,p,rfl⟩)
  ·obtain⟨i,c,rfl⟩:=bf r
   have b:=gF d c ⟨t,g⟩;exact u5 d (by rw[b];exact u) (.inl (by rw[b];simp only[ns,w,if_true]))
  ·obtain⟨y,q,A⟩:=wN d p
   rcases lB d (16*l.Page) with⟨i,c,k,b⟩|⟨-,⟨i,c,B,b⟩|⟨o,b⟩⟩
   ·exact absurd k (y _ (am c))
   ·have:=A i c B
    exact u5 d (by rw[b];simp only[this];omega) (.inr (by rw[b]))
   ·rw[o l p]at q;cases q
def RH(xs:List ay)(p:Int):Prop:=∃r∈xs,r.At<=p/\p<r.At+r.Len
theorem fp{pages:Int}{xs:List ay} : bw pages xs=true↔nq xs/\(∀y∈xs,0<=y.At/\1<=y.Len/\y.At+y.Len<=pages)/\1<=pages/\pages<=32:=by
 constructor
 ·intro h
  obtain⟨a,b⟩:=uE h;unfold bw at h;simp only[I0,C0]at h;exact⟨a,b,h.2⟩
 ·rintro⟨a,b,d⟩
  unfold bw;simp only[I0,C0];refine⟨ch.2 λi c=>?_,d⟩;have f:=b _ (am c);unfold fR rangeIn;simp only[I0,C0];refine⟨ω,?_⟩;by_cases e:i=0
  ·exact .inl e
  ·right
   have:=List.pairwise_iff_getElem.1 a.1 (i - 1) i ω c ω
   rwa [<-bu (Z1 (show i - 1<xs.length by omega)),<-bu (Z1 c)]at this
theorem Dv{pages:Int}{xs:List ay}(h:bw pages xs=true)(p:Int):xs.any (pI p)=true↔RH xs p:=by
 obtain⟨-,c,d⟩:=fp.1 h;rw[U3];refine⟨λ⟨r,a,b⟩=>⟨r,a,?_⟩,λ⟨r,a,b⟩=>⟨r,a,?_⟩⟩
 ·have:=c r a
  unfold pI at b;rw[fg ω ω]at b;simpa using b
 ·have:=c r a
  unfold pI;rw[fg ω ω];simpa using b
theorem u9(u:Int):∀(h:List ay)(r:ay)(out:List ay),nq h->1<=r.Len->(∀y∈h,ovl y r=false)->(∀z∈out,z.At+z.Len<r.At/\∀y∈h,z.At+z.Len<y.At)->nq out->(∀y∈r::(out++h),0<=y.At/\y.At+y.Len<=u)->∃o,ip h r out false=some o/\nq o/\(∀y∈o,0<=y.At/\y.At+y.Len<=u)/\∀p,RH o p↔RH out p\/RH h p\/(r.At<=p/\p<r.At+r.Len)
 | [],r,out,_,A,_,k,l,f=>by
  refine⟨out++[r],by simp[ip],⟨List.pairwise_append.2 ⟨l.1,List.pairwise_singleton ..,λa B b f=>by rw[C1.1 f];exact(k a B).1⟩,λy n=>?_⟩,λy n=>f y (by simp at n |-;grind),λp=>by unfold RH;simp[or_and_right,exists_or]⟩;rcases W2.1 n with n|n
  ·exact l.2 y n
  ·rw[C1.1 n];exact A
 | y::h,r,out,g,A,H,k,l,f=>by
  have K:=g.2 y (R1 ..);have q:=H y (R1 ..);have j:=g.head;have O:=f y (by simp);have P:=f r (by simp);have C:∀w∈h,¬(w.At<r.At+r.Len/\r.At<w.At+w.Len):=λw d=>by
   have:=H w (X4 _ d);unfold ovl at this;simpa using this
  have t:∀w∈h,1<=w.Len:=λw d=>g.2 w (X4 _ d)
  rw[rQ,C8 (by rw[q];simp)];unfold ovl at q;rw[C4]at q;by_cases L:y.At+y.Len=r.At
  ·rw[C9 L]
   obtain⟨o,D,E,F,G⟩:=u9 u h ⟨y.At,y.Len+r.Len⟩ out g.tail (by simp only;omega) (λw d=>by
     have a:=j w d;have b:=C w d;have c:=t w d;unfold ovl;rw[C4];simp only;omega) (λz i=>⟨(k z i).2 y (R1 ..),λw d=>(k z i).2 w (X4 _ d)⟩) l (λw d=>by
     rcases List.mem_cons.1 d with rfl|d
     · simp only;omega
     · exact f w (by simp at d |-;grind))
   refine⟨o,D,E,F,λp=>?_⟩;rw[G];unfold RH;simp only[List.mem_cons,exists_eq_or_imp]
   grind
  rw[C8 L];by_cases M:r.At+r.Len=y.At
  ·rw[C9 M]
   obtain⟨o,D,E,F,G⟩:=u9 u h ⟨r.At,r.Len+y.Len⟩ out g.tail (by simp only;omega) (λw d=>by
     have a:=j w d;have b:=C w d;have c:=t w d;unfold ovl;rw[C4];simp only;omega) (λz i=>⟨(k z i).1,λw d=>(k z i).2 w (X4 _ d)⟩) l (λw d=>by
     rcases List.mem_cons.1 d with rfl|d
     · simp only;omega
     · exact f w (by simp at d |-;grind))
   refine⟨o,D,E,F,λp=>?_⟩;rw[G];unfold RH;simp only[List.mem_cons,exists_eq_or_imp]
   grind
  rw[C8 M];by_cases N:y.At > r.At
  ·have J:r.At+r.Len<y.At:=ω
   rw[C9 ⟨N,rfl⟩,ou g.tail A λw d=>by have:=j w d;omega];refine⟨_,rfl,⟨?_,λw d=>?_⟩,λw d=>f w (by simp at d |-;grind),λp=>by unfold RH;simp[or_and_right,exists_or];grind⟩
   ·rw[t5]
    refine List.pairwise_append.2 ⟨l.1,?_,λa B b f=>?_⟩
    ·show(r::y::h).Pairwise _
     refine List.pairwise_cons.2 ⟨λw d=>?_,g.1⟩;rcases List.mem_cons.1 d with rfl|d
     ·exact J
     ·have:=j w d;omega
    ·obtain⟨Q,R⟩:=k a B
     have f:b∈r::y::h:=f;rcases List.mem_cons.1 f with rfl|f
     ·exact Q
     ·exact R b f
   ·simp only[W2,List.mem_cons,List.not_mem_nil,or_false]at d
    rcases d with(d|rfl|rfl)|d
    ·exact l.2 w d
    ·exact A
    ·exact K
    ·exact t w d
  rw[C8 λe=>N e.1];obtain⟨o,D,E,F,G⟩:=u9 u h r (out++[y]) g.tail A (λw d=>H w (X4 _ d)) (λz i=>by
    rcases W2.1 i with i|i
    · exact⟨(k z i).1,λw d=>(k z i).2 w (X4 _ d)⟩
    · rw[C1.1 i];exact⟨ω,j⟩) ⟨List.pairwise_append.2 ⟨l.1,List.pairwise_singleton ..,λa B b f=>by rw[C1.1 f];exact(k a B).2 y (R1 ..)⟩,λw d=>by
      rcases W2.1 d with d|d
      · exact l.2 w d
      · rw[C1.1 d];exact K⟩ (λw d=>f w (by simp at d |-;grind))
  refine⟨o,D,E,F,λp=>?_⟩;rw[G];unfold RH;simp[or_and_right,exists_or]
  grind
theorem tB{pages:Int}{xs:List ay}{r:ay}(h:bw pages xs=true)(j:0<=r.At/\1<=r.Len/\r.At+r.Len<=pages)(c:∀p,r.At<=p->p<r.At+r.Len->¬RH xs p):∃o,bU pages xs r=some o/\bw pages o=true/\∀p,RH o p↔RH xs p\/(r.At<=p/\p<r.At+r.Len):=by
 obtain⟨k,d,l⟩:=fp.1 h;have b:rangeIn pages r=true:=by unfold rangeIn;rw[C0];omega
 unfold bU;rw[C9 ⟨h,b⟩];obtain⟨o,n,f,g,q⟩:=u9 pages xs r [] k j.2.1 (λy a=>by
   have:=d y a;unfold ovl;rw[C4];intro i;by_cases e:r.At<=y.At
   · exact c y.At e i.1 ⟨y,a,ω,ω⟩
   · exact c r.At ω ω ⟨y,a,ω,i.2⟩) (λz t=>by cases t) ⟨List.Pairwise.nil,λy a=>by cases a⟩ (λy a=>by
   rcases List.mem_cons.1 a with rfl|a
   · omega
   · have:=d y (by simpa using a);omega)
 refine⟨o,n,fp.2 ⟨f,λy a=>⟨(g y a).1,f.2 y a,(g y a).2⟩,l⟩,λp=>?_⟩;rw[q];unfold RH;simp
structure Pg(t:aG)(fr:List ay)(sp:List au)(la:List ax):Prop where
 one:∀l∈la,∀p:Nat,(p:Int)∈lpgs l l.Pages.toNat->∀q:Nat,q<t.Entries.length->(nth t.Entries q).Mode≠0->(nth t.Entries q).Frame=(nth t.Entries p).Frame->q=p
 bnd:∀p∈pgs sp la,p<t.Entries.length
 own:∀p:Nat,p<t.Entries.length->((nth t.Entries p).Mode≠0↔(p:Int)∈pgs sp la)
 fre:∀p:Nat,p<t.Entries.length->((nth t.Entries p).Mode≠0↔¬RH fr p)
 mesh:∀s∈sp,∀u∈sp,s.Page≠u.Page->(nth t.Entries s.Page.toNat).Frame=(nth t.Entries u.Page.toNat).Frame->meshable s u=true
structure bn(h:ab)(E:List Int):Prop where
 ker:aB h.Kernel=true
 rng:bw (dQ h) h.Free=true
 lay:bj h.Spans h.Larges=true
 srs:h.Spans.Pairwise λa b=>a.Page<b.Page
 srl:h.Larges.Pairwise λa b=>a.Page<b.Page
 pg:Pg (tbl h) h.Free h.Spans h.Larges
 mail:bI h.Mail=true
 nc:h.Caches.length=h.Mail.Buffers.length
 quar:fw h.Quar=true
 snc:∀x∈h.Quar.Lst,x.Since<=h.Clock
 cach:∀c∈h.Caches,bo c=true
 nums:cg h=true
 osr:h.Objs.Pairwise λa b=>a.Addr<b.Addr
 onu:∀o∈h.Objs,1<=o.Id/\o.Id<=h.Next - 1/\0<=o.Thread/\o.Thread<=h.Caches.length - 1
 oid:(h.Objs.map (·.Id)).Nodup
 oow:∀o∈h.Objs,La h.Spans h.Larges o
 hca:∀c∈h.Caches,∀k:Nat,k<c.Lists.length->∀a∈nth c.Lists k,iX h.Spans a k
 hqu:∀x∈h.Quar.Lst,iX h.Spans x.Addr x.Class
 hfl:∀a∈aN h.Mail,iX h.Spans a (-1)
 hin:∀a∈E,iX h.Spans a (-1)
 nd:(E++holders h).Nodup
 mem:∀a,a∈E++holders h↔lK h.Spans h.Larges a
 job:h.Meshing=true->ja h.Job=true/\(∃s∈h.Spans,s.Page=h.Job.Plan.Keep)/\∃s∈h.Spans,s.Page=h.Job.Plan.Move
 noj:h.Meshing=false->qA h.Job=true
theorem bn.L{h:ab}{E:List Int}(a:bn h E):qx h.Spans h.Larges:=qx.of a.lay
theorem yp(t:aG)(f:Int):(pagesOn t f).Nodup:=by
 unfold pagesOn jb List.Nodup;rw[List.pairwise_map];exact(List.nodup_range.sublist List.filter_sublist).imp λh e=>h ω
theorem LZ{l:List Int}{a:Int}(b:l.Nodup)(d:a∈l)(c:∀x∈l,x=a):l.length=1:=by
 match l with
 | []=>cases d
 | [_]=>rfl
 | x::y::r=>
  exfalso;have e:=c x (by simp);have f:=c y (by simp);rw[e,f]at b;simp at b
theorem d2{sp:List au}{la:List ax}{s:au}(a:s∈sp):s.Page∈pgs sp la:=by
 unfold pgs;exact W2.2 (.inl (Z3.2 ⟨s,a,rfl⟩))
theorem fA{sp:List au}{la:List ax}{l:ax}(a:l∈la){p:Int}(b:p∈lpgs l l.Pages.toNat):p∈pgs sp la:=by
 unfold pgs;exact W2.2 (.inr (List.mem_flatMap.2 ⟨l,a,b⟩))
theorem PB{h:ab}(n:bj h.Spans h.Larges=true)(P:bw (dQ h) h.Free=true)(J:pages0 h=true)(t:mW h=true):Pg (tbl h) h.Free h.Spans h.Larges:=by
 have Q:=qx.of n;obtain⟨R,y,K⟩:=qO J;have S:∀p:Nat,p<dQ h->((nth (tbl h).Entries p).Mode≠0↔¬RH h.Free p):=λp a=>by
  have d:=J;unfold pages0 at d;simp only[I0]at d;have A:=dH d.2 a;unfold ue at A;rw[I0]at A;have L:=A.2;rw[<-Dv P];cases e:h.Free.any (pI (p:Int))<;>rw[e]at L<;>simpa using L
 refine⟨λl B p f q T C D=>?_,y,K,S,λs U u V E M=>?_⟩
 ·obtain⟨i,o,rfl⟩:=bf B
  obtain⟨k,w,F⟩:=dd.1 f;have a:p<dQ h:=by have:=y _ (fA (sp:=h.Spans) B f);omega
  have r:=(K p a).2 (fA B f);have b:=R i o k w;rw[<-F,eE a r]at b;have N:(p:Int)∈pagesOn (tbl h) (nth (tbl h).Entries p).Frame:=d7.2 ⟨a,r,rfl⟩;have O:(q:Int)∈pagesOn (tbl h) (nth (tbl h).Entries p).Frame:=d7.2 ⟨T,C,D⟩;obtain⟨z,W⟩:=List.length_eq_one_iff.1 b;rw[W]at N O;simp only[C1]at N O;omega
 ·obtain⟨i,o,rfl⟩:=bf U
  obtain⟨j,G,rfl⟩:=bf V;have c:∀k,k<h.Spans.length->ar (tbl h) (nth h.Spans k).Page=nth (tbl h).Entries (nth h.Spans k).Page.toNat:=λk w=>by
   have X:=aF (Q.sok _ (am w));have Y:=y _ (d2 (la:=h.Larges) (am w));rw[show(nth h.Spans k).Page=(((nth h.Spans k).Page.toNat:Nat):Int) by omega];exact wE ω
  unfold mW at t;rw[ch]at t;rcases Nat.lt_trichotomy i j with g|H|g
  ·have b:=dH (t j G) g
   unfold kw at b;rw[c i o,c j G,R5,C0]at b;rw[iO];exact b.resolve_left λe=>e M.symm
  ·subst H;exact absurd rfl E
  ·have b:=dH (t i o) g
   unfold kw at b;rw[c i o,c j G,R5,C0]at b;exact b.resolve_left λe=>e M
theorem yq(sp:List au):cK sp.length (vX sp)=true↔sp.Pairwise λa b=>a.Page<b.Page:=by
 rw[ch];refine Iff.trans ?_ (uI (λa b:Int=>a<b) (λa b c=>Int.lt_trans) (λs:au=>s.Page) sp);unfold vX;simp only[C0]
theorem yC(la:List ax):cK la.length (xh la)=true↔la.Pairwise λa b=>a.Page<b.Page:=by
 rw[ch];refine Iff.trans ?_ (uI (λa b:Int=>a<b) (λa b c=>Int.lt_trans) (λs:ax=>s.Page) la);unfold xh;simp only[C0]
theorem PG{h:ab}(r:bj h.Spans h.Larges=true)(D:bw (dQ h) h.Free=true)(h1:h.Spans.Pairwise λa b=>a.Page<b.Page)(E:h.Larges.Pairwise λa b=>a.Page<b.Page)(c:Pg (tbl h) h.Free h.Spans h.Larges):pages0 h=true/\mW h=true:=by
 have A:=qx.of r;constructor
 ·unfold pages0
  simp only[I0];refine⟨⟨⟨(yq _).2 h1,ch.2 λi o=>?_⟩,V3.2 λp d=>O0 (c.bnd p d)⟩,ch.2 λp d=>?_⟩
  ·unfold qr
   rw[I0];refine⟨dH ((yC _).2 E) o,ch.2 λk w=>?_⟩;have y:=am o;have L:=aU (A.lok _ y);obtain⟨p,d⟩ : ∃p:Nat,(nth h.Larges i).Page+(k:Nat)=(p:Nat):=⟨((nth h.Larges i).Page+k).toNat,ω⟩
   have g:(p:Int)∈lpgs (nth h.Larges i) (nth h.Larges i).Pages.toNat:=dd.2 ⟨k,w,d.symm⟩;have l:p<dQ h:=by have:=c.bnd _ (fA (sp:=h.Spans) y g);exact Int.ofNat_lt.1 this
   have t:=(c.own p l).2 (fA y g);unfold vJ;rw[C0,d,eE l t];refine LZ (yp ..) (d7.2 ⟨l,t,rfl⟩) λx C=>?_
   obtain⟨q,rfl⟩:=tg C;obtain⟨F,G,H⟩:=d7.1 C;rw[c.one _ y p g q F G H]
  ·unfold ue
   rw[I0,C0];refine⟨c.own p d,?_⟩;have B:=c.fre p d;rw[<-Dv D]at B;cases e:h.Free.any (pI (p:Int))<;>rw[e]at B<;>simpa using B
 ·unfold mW
  refine ch.2 λi o=>ch.2 λj M=>?_
  have n:j<h.Spans.length:=ω
  have u:∀k,k<h.Spans.length->ar (tbl h) (nth h.Spans k).Page=nth (tbl h).Entries (nth h.Spans k).Page.toNat:=λk w=>by
   have N:=aF (A.sok _ (am w));have J:=c.bnd _ (d2 (la:=h.Larges) (am w));rw[show(nth h.Spans k).Page=(((nth h.Spans k).Page.toNat:Nat):Int) by omega];exact wE (by unfold dQ;unfold tbl at J;omega)
  unfold kw;rw[u i o,u j n,R5,C0];by_cases e:(nth (tbl h).Entries (nth h.Spans i).Page.toNat).Frame=(nth (tbl h).Entries (nth h.Spans j).Page.toNat).Frame
  ·refine .inr (c.mesh _ (am o) _ (am n) (λK=>?_) e)
   have:=gp (f:=(·.Page)) A.nd o n K;omega
  ·exact .inl e
theorem BK{h:ab}(n:cg h=true)(q:qx h.Spans h.Larges):fm h=true↔(h.Objs.Pairwise λa b=>a.Addr<b.Addr)/\(∀o∈h.Objs,1<=o.Id/\o.Id<=h.Next - 1/\0<=o.Thread/\o.Thread<=h.Caches.length - 1)/\(h.Objs.map (·.Id)).Nodup/\∀o∈h.Objs,La h.Spans h.Larges o:=by
 unfold cg at n;rw[C0]at n;refine Iff.trans ?_ (and_congr (uI (λa b:Int=>a<b) (λa b c=>Int.lt_trans) (λo:bm=>o.Addr) h.Objs) (and_congr Iff.rfl (and_congr (yJ (λo:bm=>o.Id) h.Objs) Iff.rfl)));unfold fm;rw[fg ω ω,ch];have p:∀i,i<h.Objs.length->(objAt (h.Next - 1) h i=true↔(i=0\/(nth h.Objs (i - 1)).Addr<(nth h.Objs i).Addr)/\(1<=(nth h.Objs i).Id/\(nth h.Objs i).Id<=h.Next - 1/\0<=(nth h.Objs i).Thread/\(nth h.Objs i).Thread<=h.Caches.length - 1)/\(∀o∈h.Objs.take i,o.Id≠(nth h.Objs i).Id)/\La h.Spans h.Larges (nth h.Objs i)):=λi d=>by
  unfold objAt gL;rw[I0,I0,C0,Li q,Bool.not_eq_true',List.any_eq_false];simp only[jW,C0];constructor
  ·rintro⟨⟨⟨e,f⟩,g⟩,j⟩;exact⟨e,f,g,j⟩
  ·rintro⟨e,f,g,j⟩;exact⟨⟨⟨e,f⟩,g⟩,j⟩
 constructor
 ·intro r
  have k:=λi d=>(p i d).1 (r i d)
  refine⟨λi d=>(k i d).1,λo l=>?_,λi d=>(k i d).2.2.1,λo l=>?_⟩
  ·obtain⟨i,d,rfl⟩:=bf l;exact(k i d).2.1
  ·obtain⟨i,d,rfl⟩:=bf l;exact(k i d).2.2.2
 ·rintro⟨e,f,g,j⟩ i d
  exact(p i d).2 ⟨e i d,f _ (am d),g i d,j _ (am d)⟩
theorem vd{h:ab}(b:qx h.Spans h.Larges):gM h=true↔(∀c∈h.Caches,∀k:Nat,k<c.Lists.length->∀a∈nth c.Lists k,iX h.Spans a k)/\(∀x∈h.Quar.Lst,iX h.Spans x.Addr x.Class)/\∀a∈aN h.Mail,iX h.Spans a (-1):=by
 rw[kO];simp only[V3,en,ch,qQ,gC,jw,Ki b,and_assoc]
theorem Af{p:Int}{h:ab} : 0<=fV h p↔∃s∈h.Spans,s.Page=p:=by
 unfold fV;rw[show(0<=de (jq p) h.Spans)↔(decide (de (jq p) h.Spans≥0)=true) by simp,lD,U3];simp[jq]
theorem bn.of{h:ab}(n:eR h=true):bn h []:=by
 unfold eR lb at n;simp only[I0]at n;obtain⟨⟨⟨⟨⟨⟨⟨⟨⟨⟨B,t⟩,k⟩,o⟩,u⟩,f⟩,w⟩,C⟩,y⟩,d,e⟩,b⟩:=n;have g:=qx.of k;rw[sX k o]at u;have l:=o;unfold pages0 at l;simp only[I0]at l;unfold cY at f;simp only[I0,C0]at f;unfold iB at e;simp only[I0,C0]at e;obtain⟨⟨p,A⟩,O⟩:=e;obtain⟨D,E,F,G⟩:=(BK y g).1 d;obtain⟨H,J,K⟩:=(vd g).1 p;unfold jH at w;have q:=ch.1 l.1.1.2;refine⟨B,t,k,(yq _).1 l.1.1.1,(yC _).1 (ch.2 λi L=>?_),PB k t o u,f.1.1,f.1.2,f.2,λx M=>by simpa using V3.1 w x M,λc N=>V3.1 C c N,y,D,E,F,G,H,J,K,λa j=>(by cases j),(by simpa using A),λa=>?_,λr=>?_,λr=>?_⟩
 ·have:=q i L
  unfold qr at this;rw[I0]at this;exact this.1
 ·rw[List.nil_append,<-DP g]
  exact⟨λj=>jy g d p a j,λj=>pD A (jy g d p) ω a j⟩
 ·unfold pu at b
  rw[C9 r]at b;simp only[I0,C0,Af]at b;exact⟨b.1.1,b.1.2,b.2⟩
 ·unfold pu at b
  rw[C8 (by rw[r];simp)]at b;exact b
theorem bn.to{h:ab}(b:bn h []):eR h=true:=by
 have d:=b.L;obtain⟨g,j⟩:=PG b.lay b.rng b.srs b.srl b.pg;have e:=(BK b.nums d).2 ⟨b.osr,b.onu,b.oid,b.oow⟩;have f:=(vd d).2 ⟨b.hca,b.hqu,b.hfl⟩;unfold eR lb;simp only[I0];refine⟨⟨⟨⟨⟨⟨⟨⟨⟨⟨b.ker,b.rng⟩,b.lay⟩,g⟩,by rw[sX b.lay g];exact j⟩,?_⟩,?_⟩,V3.2 b.cach⟩,b.nums⟩,e,?_⟩,?_⟩
 ·unfold cY
  rw[b.mail,b.quar,O0 b.nc];rfl
 ·unfold jH
  exact V3.2 λx k=>O0 (b.snc x k)
 ·unfold iB
  have i:(holders h).Nodup:=by simpa using b.nd
  have c:∀a,a∈holders h↔a∈im h.Spans h.Larges:=λa=>by rw[DP d,<-b.mem a];simp
  have l:(holders h).Perm (im h.Spans h.Larges):=(List.perm_ext_iff_of_nodup i (oc ..)).2 c;rw[f,O0 i,O0 l.length_eq];rfl
 ·unfold pu
  cases c:h.Meshing with
  | true=>
   obtain⟨n,o,p⟩:=b.job c;rw[C9 rfl,n,O0 (Af.2 o),O0 (Af.2 p)];rfl
  | false=>rw[C8 (by simp)];exact b.noj c
end Go.Proofs.YtembpgjjnioagaaGreat.Ab
