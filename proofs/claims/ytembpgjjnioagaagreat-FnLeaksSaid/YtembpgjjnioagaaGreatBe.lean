/- When a heap is valid, as plain functions over its data: as the reference asks it, and as the program does. No condition. -/
import Derived.Test.YtembpgjjnioagaaGreatBd
import Derived.Test.YtembpgjjnioagaaGreatBShelf
import Derived.WalkKit
import Derived.Lib.SliceRun
set_option linter.unusedVariables false
set_option linter.unusedSimpArgs false
set_option linter.constructorNameAsVariable false
namespace Go.Proofs.YtembpgjjnioagaaGreat.Ab
def tbl(h:ab):aH:=h.Kernel.Machine.Table
def dQ(h:ab):Nat:=h.Kernel.Machine.Table.Entries.length
def vQ(xs:List au)(i:Nat):Bool:=decide (i=0\/(nth xs (i - 1)).Page<(nth xs i).Page)
def vz(xs:List a8)(i:Nat):Bool:=decide (i=0\/(nth xs (i - 1)).Page<(nth xs i).Page)
def vT(h:ab)(l:a8)(k:Nat):Bool:=decide ((aO h (l.Page+(k:Nat))).length=1)
def sB(h:ab)(i:Nat):Bool:=vz h.Larges i&&cE (nth h.Larges i).Pages.toNat (vT h (nth h.Larges i))
def tP(h:ab)(p:Nat):Bool:=decide ((nth (tbl h).Entries p).Mode≠0↔(p:Int)∈pgs h.Spans h.Larges)&&(decide ((nth (tbl h).Entries p).Mode≠0) != h.Free.any (pF (p:Nat)))
def pages0(h:ab):Bool:=((cE h.Spans.length (vQ h.Spans)&&cE h.Larges.length (sB h))&&(pgs h.Spans h.Larges).all λp=>decide (p<dQ h))&&cE (dQ h) (tP h)
def lh(h:ab)(i:Nat)(q:Int):Bool:=decide (eU h q=(i:Nat)) || (decide (0<=eU h q)&&meshable (nth h.Spans i) (nth h.Spans (eU h q).toNat))
def rk(h:ab):Bool:=cE h.Spans.length λi=>(aO h (nth h.Spans i).Page).all (lh h i)
def jU(h:ab)(i j:Nat):Bool:=decide ((ar (tbl h) (nth h.Spans i).Page).Frame≠(ar (tbl h) (nth h.Spans j).Page).Frame) || meshable (nth h.Spans i) (nth h.Spans j)
def mS(h:ab):Bool:=cE h.Spans.length λi=>cE i (jU h i)
def js(z:Int)(o:bB):Bool:=decide (o.Id=z)
def ix(h:ab)(o:bB):Bool:=
 let w:=denotes h.Spans h.Larges o.Addr
 decide (w.Offset=0)&&((decide (w.Kind=1)&&decide ((nth h.Spans w.Index.toNat).Class=aK o.Size)) || (decide (w.Kind=3)&&decide ((nth h.Larges w.Index.toNat).Size=o.Size)))
def fZ(a:Int)(h:ab)(i:Nat):Bool:=decide ((i=0\/(nth h.Objs (i - 1)).Addr<(nth h.Objs i).Addr)/\1<=(nth h.Objs i).Id/\(nth h.Objs i).Id<=a/\0<=(nth h.Objs i).Thread/\(nth h.Objs i).Thread<=h.Caches.length - 1)
def objAt(a:Int)(h:ab)(i:Nat):Bool:=(fZ a h i&&!(h.Objs.take i).any (js (nth h.Objs i).Id))&&ix h (nth h.Objs i)
def ee(h:ab):Bool:=cE h.Objs.length (objAt (IntKind.i64.wrap (h.Next - 1)) h)
def cU(h:ab)(a c:Int):Bool:=
 let w:=denotes h.Spans h.Larges a
 (decide (w.Kind=1)&&decide (w.Offset=0))&&(decide (c<0) || decide ((nth h.Spans w.Index.toNat).Class=c))
def qr(h:ab)(c:ay)(k:Nat):Bool:=(nth c.Lists k).all λa=>cU h a (k:Nat)
def ec(h:ab)(c:ay):Bool:=cE c.Lists.length (qr h c)
def gB(h:ab)(x:aL):Bool:=cU h x.Addr x.Class
def iP(h:ab)(a:Int):Bool:=cU h a (-1)
def bQ(h:ab):List Int:=h.Caches.flatMap λc=>c.Lists.flatten
def gh(h:ab):Bool:=((h.Caches.all (ec h))&&h.Quar.Lst.all (gB h))&&(aC h.Mail).all (iP h)
def holders(h:ab):List Int:=((h.Objs.map (·.Addr)++bQ h)++h.Quar.Lst.map (·.Addr))++aC h.Mail
def jn(sp:List au)(la:List a8)(a:Nat):Bool:=
 let w:=denotes sp la (a:Nat)
 decide (w.Offset=0)&&(decide (w.Kind=1) || decide (w.Kind=3))
def kj(sp:List au)(la:List a8)(n:Nat):List Int:=((List.range n).filter (jn sp la)).map λ(i:Nat)=>(i:Int)
def fI(sp:List au)(la:List a8):List Int:=kj sp la 512
def ik(h:ab):Bool:=(gh h&&decide (holders h).Nodup)&&decide ((holders h).length=(fI h.Spans h.Larges).length)
def kM(h:ab):Bool:=h.Quar.Lst.all λx=>decide (x.Since<=h.Clock)
def cb(h:ab):Bool:=decide (0<=h.Seed/\h.Seed<=1073741823/\0<=h.Clock/\h.Clock<=1000000/\0<=h.Limit/\h.Limit<=1000/\1<=h.Next/\h.Next<=1000000)
def tF(h:ab):Bool:=if h.Meshing then(jf h.Job&&decide (0<=eU h h.Job.Plan.Keep))&&decide (0<=eU h h.Job.Plan.Move) else qK h.Job
def lf(h:ab):Bool:=((aB h.Kernel&&bv (dQ h) h.Free)&&bc h.Spans h.Larges)&&pages0 h
open Go.RowKit
set_option maxRecDepth 20000
set_option maxHeartbeats 8000000
theorem cZ{sp:List au}{la:List a8}(h:bc sp la=true):sp.all aX=true/\la.all bP=true/\(pgs sp la).Nodup:=by
 unfold bc at h;simp only[I0,C0]at h;exact⟨h.1.1,h.1.2,h.2⟩
theorem M1{α:Type}[Inhabited α]{xs:List α}{p:α->Bool}{i:Nat}(h:xs.all p=true)(a:i<xs.length):p (nth xs i)=true:=I3.1 h _ (am a)
theorem AE{h:ab}(h1:cE h.Spans.length (vQ h.Spans)=false):pages0 h=false:=by unfold pages0;rw[h1];rfl
theorem qG{h:ab}(h1:cE h.Larges.length (sB h)=false):pages0 h=false:=by unfold pages0;rw[h1];simp
theorem Dw{h:ab}{p:Int}(h1:p∈pgs h.Spans h.Larges)(a:¬p<dQ h):pages0 h=false:=by
 have:((pgs h.Spans h.Larges).all λp=>decide (p<dQ h))=false:=List.all_eq_false.2 ⟨p,h1,by simpa using a⟩;unfold pages0;rw[this];simp
theorem Bc{h:ab}(h1:cE (dQ h) (tP h)=false):pages0 h=false:=by unfold pages0;rw[h1];simp
theorem vA{h:ab}(h1:cE h.Spans.length (vQ h.Spans)=true)(a:cE h.Larges.length (sB h)=true)(b:∀p∈pgs h.Spans h.Larges,p<dQ h)(c:cE (dQ h) (tP h)=true):pages0 h=true:=by
 have:((pgs h.Spans h.Larges).all λp=>decide (p<dQ h))=true:=I3.2 λp d=>O0 (b p d)
 unfold pages0;rw[h1,a,c,this];rfl
theorem HR{h:ab}{i:Nat}(h1:vz h.Larges i=false):sB h i=false:=by unfold sB;rw[h1];rfl
theorem K8{h:ab}{i k:Nat}(a:k<(nth h.Larges i).Pages.toNat)(h1:vT h (nth h.Larges i) k=false):sB h i=false:=by unfold sB;rw[cg a h1];simp
theorem D6{h:ab}{i:Nat}(h1:vz h.Larges i=true)(a:cE (nth h.Larges i).Pages.toNat (vT h (nth h.Larges i))=true):sB h i=true:=by unfold sB;rw[h1,a];rfl
theorem g9(h:ab)(p:Int):(aO h p).length<=dQ h:=by
 unfold aO;split
 ·simp
 ·exact p9 ..
theorem sA{sp:List au}{la:List a8}(h:bc sp la=true){i:Nat}{l:a8}(a:la[i]? = some l):1<=l.Pages/\l.Pages<=63/\0<=l.Page/\l.Page<=31:=
 aR (I3.1 (cZ h).2.1 l (Q1 a))
theorem Bd(h:ab)(G:du h.Spans)(H:dr h.Larges)(l:xl h)(J:iL h.Free)(n:bc h.Spans h.Larges=true):ao Tryz.prog 204 false [.val (some 24) (ab.enc .imm h)] .one [B (pages0 h)]:=by
 have Z:=G.1;have hl2:=H.1;have hl3:dQ h<=1048576:=l.1;have hl4:=J.1;refine fO 144 [(7,18,[28,29,30,31,32,33,34,35,36,37,38,39,40,41,42,43,44,45]),(13,18,[62,63,64,65,66,67,68,69,70,71,72,73,74,75,76,77,78,79])] Tryz.func204 rfl ?_
 repeat'(first|refine gO ?_|fail)
 (conv=>whnf)
 refine CD (ι:=Nat × List Int) (λi=>[(1,.hold .box (ab.enc .imm h)),(3,.hold .box (aH.enc .imm (tbl h))),(4,.hold .one [I (dQ h)]),(5,.hold .one (aD .own i.2)),(6,.hold .one [I ((i.1:Nat):Int)])]) (λi=>i.1<=h.Spans.length/\i.2=(h.Spans.take i.1).map (·.Page)/\cE i.1 (vQ h.Spans)=true) (λi=>h.Spans.length - i.1) ((0,[])) ?_ (⟨R0 _,rfl,rfl⟩) λi K=>?_
 ·exact wB
 obtain⟨i,S⟩:=i;obtain⟨K,o,L⟩:=K;simp only at K o L |-;have hSl:S.length=i:=by rw[o,W0,I1];omega
 by_cases M:i<h.Spans.length
 ·have c:=ah M
  repeat'(first|refine gD ?_|(conv=>whnf);first|with_reducible (first|refine CA (aa c) ?_|refine Bf.D (λa=>?_) (λa=>?_))|refine CK ω (aa (fD ω M)) ?_|refine CN bW (λr t=>by rw[Z0.1 t];rfl) (by simp[aU,d4]) (by simp;omega) (by simp only[W0];exact up (by simp;omega) (by decide)) rfl ?_)
  all_goals first
   | exact T0 (λz=>[B z]) ((AE (cg M (Q0 ω))).symm)
   | ((conv=>whnf)
      refine CB (i+1,S++[(nth h.Spans i).Page]) ⟨(by simp only;omega),(by simp only;rw[o,O4,c];simp),bL L (O0 ω)⟩ (by simp only;omega) ?_
      (repeat'(first|exact trivial|rfl|exact CI rfl (CI (T0 (C.s d7.own) (by simp[rI])) trivial)|refine CI ?_ ?_)))
 ·obtain rfl:i=h.Spans.length:=ω
  rw[v4]at o
  repeat'(first|refine gD ?_|fail)
  (conv=>whnf)
  refine CD (ι:=Nat × List Int) (λk=>[(1,.hold .box (ab.enc .imm h)),(3,.hold .box (aH.enc .imm (tbl h))),(4,.hold .one [I (dQ h)]),(5,.hold .one (aD .own k.2)),(7,.hold .one [I ((k.1:Nat):Int)])]) (λk=>k.1<=h.Larges.length/\k.2=pgs h.Spans (h.Larges.take k.1)/\cE k.1 (sB h)=true/\k.2.length<=1048576+64*k.1) (λk=>h.Larges.length - k.1) ((0,S)) ?_ (⟨R0 _,by rw[o];unfold pgs;simp,rfl,by simp only;omega⟩) λk O=>?_
  ·exact wB
  obtain⟨k,S2⟩:=k;obtain⟨O,b,Q,R⟩:=O;simp only at O b Q R |-;by_cases y:k<h.Larges.length
  ·have c:=ah y
   have hpg:=sA n c
   repeat'(first|refine gD ?_|(conv=>whnf);first|with_reducible (first|refine CA (aa c) ?_|refine Bf.D (λa=>?_) (λa=>?_))|refine CK ω (aa (fD ω y)) ?_)
   all_goals first
    | exact T0 (λz=>[B z]) ((qG (cg y (HR (Q0 ω)))).symm)
    |have e:vz h.Larges k=true:=O0 ω
     (conv=>whnf)
     refine CD (ι:=Nat × List Int) (λq=>[(1,.hold .box (ab.enc .imm h)),(3,.hold .box (aH.enc .imm (tbl h))),(4,.hold .one [I (dQ h)]),(5,.hold .one (aD .own q.2)),(7,.hold .one [I ((k:Nat):Int)]),(8,.hold .one [I ((q.1:Nat):Int)])]) (λq=>q.1<=(nth h.Larges k).Pages.toNat/\q.2=S2++lpgs (nth h.Larges k) q.1/\cE q.1 (vT h (nth h.Larges k))=true) (λq=>(nth h.Larges k).Pages.toNat - q.1) ((0,S2)) ?_ (⟨R0 _,by simp[lpgs],rfl⟩) λq a=>?_
     ·exact wB
     obtain⟨q,T⟩:=q;obtain⟨U,d,g⟩:=a;simp only at U d g |-;have W:T.length=S2.length+q:=by rw[d,U2,AD]
     by_cases E:q<(nth h.Larges k).Pages.toNat
     ·have hfl:=g9 h ((nth h.Larges k).Page+(q:Nat))
      repeat'(first|refine gD ?_|(conv=>whnf);first|with_reducible (first|refine CA (aa c) ?_|refine Bf.N (λa=>?_) (λa=>?_))|refine C6 (gC h _ l) ?_|refine CN bW (λr t=>by rw[Z0.1 t];rfl) (by simp[aU,d4]) (by simp;omega) (by show _*8<=_;simp;omega) rfl ?_)
      all_goals first
       | exact T0 (λz=>[B z]) ((qG (cg y (K8 E (Q0 ω)))).symm)
       | ((conv=>whnf)
          refine CB (q+1,T++[(nth h.Larges k).Page+(q:Nat)]) ⟨(by simp only;omega),(by simp only;rw[d,jF,Q4]),bL g (O0 ω)⟩ (by simp only;omega) ?_
          (repeat'(first|exact trivial|rfl|exact CI rfl (CI (T0 (C.s d7.own) (by simp[rI])) trivial)|refine CI ?_ ?_)))
     ·obtain rfl:q=(nth h.Larges k).Pages.toNat:=ω
      repeat'(first|refine gD ?_|(conv=>whnf);first|with_reducible refine CA (aa c) ?_)
      ((conv=>whnf);refine CB (k+1,T) ⟨(by simp only;omega),(by simp only;rw[d,b,<-nt _ c]),bL Q (D6 e g),(by simp only;omega)⟩ (by simp only;omega) ?_;(exact wB))
  ·obtain rfl:k=h.Larges.length:=ω
   rw[v4]at b
   repeat'(first|refine gD ?_|fail)
   (conv=>whnf)
   refine CD (ι:=Nat) (λq=>[(1,.hold .box (ab.enc .imm h)),(3,.hold .box (aH.enc .imm (tbl h))),(4,.hold .one [I (dQ h)]),(5,.hold .one (aD .own S2)),(10,.hold .one [I ((q:Nat):Int)])]) (λq=>q<=S2.length/\∀j,j<q->nth S2 j<dQ h) (λq=>S2.length - q) (0) ?_ (⟨R0 _,λj F=>ω⟩) λq a=>?_
   ·exact wB
   obtain⟨a,g⟩:=a;by_cases E:q<S2.length
   ·have c:=ah E
    repeat'(first|refine gD ?_|(conv=>whnf);first|with_reducible (first|refine CA (aa c) ?_|refine Bf.D (λa=>?_) (λa=>?_))|refine CG rfl (aa c) rfl ?_)
    all_goals first
     | exact T0 (λz=>[B z]) ((Dw (by rw[<-b];exact am E) ω).symm)
     | ((conv=>whnf);refine CB (q+1) ⟨ω,λj F=>by rcases Nat.lt_or_ge j q with V|V;exact g j V;(obtain rfl:j=q:=ω);omega⟩ ω ?_;(exact wB))
   ·have u:∀p∈pgs h.Spans h.Larges,p<dQ h:=λp w=>by
     rw[<-b]at w;obtain⟨j,F⟩:=List.mem_iff_getElem?.1 w;have V:=(V1.1 F).1;have:=g j ω
     rwa [bo F]at this
    repeat'(first|refine gD ?_|fail)
    (conv=>whnf)
    refine CD (ι:=Nat) (λp=>[(1,.hold .box (ab.enc .imm h)),(3,.hold .box (aH.enc .imm (tbl h))),(4,.hold .one [I (dQ h)]),(5,.hold .one (aD .own S2)),(11,.hold .one [I ((p:Nat):Int)])]) (λp=>p<=dQ h/\cE p (tP h)=true) (λp=>dQ h - p) 0 ?_ ⟨R0 _,rfl⟩ λp w=>?_
    ·exact wB
    obtain⟨w,X⟩:=w;by_cases Y:p<dQ h
    ·have c:=ah (xs:=(tbl h).Entries) Y
     have t:=xI h.Free (p:Nat) ω
     repeat'(first|refine gD ?_|(conv=>whnf);first|with_reducible (first|refine CA (aa c) ?_|refine Bf.D (λa=>?_) (λa=>?_)|refine Bf.NB (λa=>?_) (λa=>?_))|refine CF (lB S2 _ ω) ⟨⟨rfl,cW _⟩,⟨rfl,rfl⟩,trivial⟩ ?_|refine C6 t ?_|refine Bf.P (λa=>?_) (λa=>?_))
     all_goals first
      | exact T0 (λz=>[B z]) ((Bc (cg Y (by unfold tP;rw[<-b];grind))).symm)
      | ((conv=>whnf);refine CB (p+1) ⟨ω,bL X (by unfold tP;rw[<-b];grind)⟩ ω ?_;(exact wB))
    ·repeat'(first|refine gD ?_|fail)
     obtain rfl:p=dQ h:=ω
     exact T0 (λz=>[B z]) ((vA L Q u X).symm)
set_option maxHeartbeats 8000000
theorem xL{z1 z2:Int}(h:z1=z2):Mc (I z1) (I z2):=by subst h;rfl
theorem FO{S:List Int}{p z:Int} : z∈ins S p↔z∈S\/z=p:=by
 unfold ins;split
 ·rename_i a
  exact⟨.inl,λh=>h.elim id λe=>e ▸ a⟩
 ·simp
theorem v8(S:List Int):(eJ S).map (·.1)=S:=by unfold eJ;rw[List.map_map];simp[T4]
theorem lg{t:aH}{p:Nat}(a:p<t.Entries.length):ar t (p:Nat)=nth t.Entries p:=by
 unfold ar;rw[C8 ω];simp
theorem zm(h:ab)(Q:du h.Spans)(R:dr h.Larges)(l:xl h)(T:iL h.Free)(G:bc h.Spans h.Larges=true):ao Tryz.prog 69 false [.val (some 24) (ab.enc .imm h)] .one [B (pages0 h&&mS h)]:=by
 have hl1:=Q.1;have hl2:=R.1;have hl3:dQ h<=1048576:=l.1;have hl4:=T.1;have d:pages0 h=false->[B false]=[B (pages0 h&&mS h)]:=λe=>by rw[e];rfl
 refine fO 177 [(4,14,[25,26,27,28,29,30,31,32,33,34,35,36,37,38]),(16,14,[60,61,62,63,64,65,66,67,68,69,70,71,72,73]),(28,18,[102,103,104,105,106,107,108,109,110,111,112,113,114,115,116,117,118,119]),(42,23,[152,153,154,155,156,157,158,159,160,161,162,163,164,165,166,167,168,169,170,171,172,173,174])] Tryz.func69 rfl ?_
 repeat'(first|refine gO ?_|fail)
 (conv=>whnf)
 refine CD (ι:=Nat) (λi=>[(1,.hold .box (ab.enc .imm h)),(18,.hold .one (bX .imm h.Spans)),(19,.hold .one [I (h.Spans.length)]),(20,.hold .one [I ((i:Nat):Int)])]) (λi=>i<=h.Spans.length/\cE i (vQ h.Spans)=true) (λi=>h.Spans.length - i) 0 ?_ ⟨R0 _,rfl⟩ λi o=>?_
 ·exact wB
 obtain⟨o,H⟩:=o;by_cases F:i<h.Spans.length
 ·have g:=ah F
  repeat'(first|refine gD ?_|(conv=>whnf);first|with_reducible (first|refine CA (aa g) ?_|refine Bf.D (λa=>?_) (λa=>?_))|refine CK ω (aa (fD ω F)) ?_)
  all_goals first
   |exact d (AE (cg F (Q0 ω)))
   | ((conv=>whnf);refine CB (i+1) ⟨ω,bL H (O0 ω)⟩ ω ?_;(exact wB))
 obtain rfl:i=h.Spans.length:=ω
 repeat'(first|refine gD ?_|fail)
 (conv=>whnf)
 refine CD (ι:=Nat × List Int) (λi=>[(1,.hold .box (ab.enc .imm h)),(5,.hold .one [.m (eJ i.2)]),(42,.hold .one (bX .imm h.Spans)),(43,.hold .one [I (h.Spans.length)]),(44,.hold .one [I ((i.1:Nat):Int)])]) (λi=>i.1<=h.Spans.length/\∀z,z∈i.2↔z∈(h.Spans.take i.1).map (·.Page)) (λi=>h.Spans.length - i.1) ((0,[])) ?_ (⟨R0 _,λz=>Iff.rfl⟩) λi o=>?_
 ·exact wB
 obtain⟨i,S⟩:=i;obtain⟨U,L⟩:=o;simp only at U L |-;by_cases li2:i<h.Spans.length
 ·have g:=ah li2
  repeat'(first|refine gD ?_|(conv=>whnf);first|with_reducible refine CA (aa g) ?_|refine Mu.mk (vr S _) ?_)
  ((conv=>whnf);refine CB (i+1,ins S (nth h.Spans i).Page) ⟨(by simp only;omega),λz=>by simp only[FO,L];rw[O4,g];simp⟩ (by simp only;omega) ?_;(exact wB))
 obtain rfl:i=h.Spans.length:=ω
 rw[v4]at L
 repeat'(first|refine gD ?_|fail)
 (conv=>whnf)
 refine CD (ι:=Nat × List Int) (λk=>[(1,.hold .box (ab.enc .imm h)),(5,.hold .one [.m (eJ k.2)]),(53,.hold .one (bS .imm h.Larges)),(54,.hold .one [I (h.Larges.length)]),(55,.hold .one [I ((k.1:Nat):Int)])]) (λk=>k.1<=h.Larges.length/\(∀z,z∈k.2↔z∈pgs h.Spans (h.Larges.take k.1))/\cE k.1 (sB h)=true) (λk=>h.Larges.length - k.1) ((0,S)) ?_ (⟨R0 _,λz=>by simp only[L];unfold pgs;simp,rfl⟩) λk V=>?_
 ·exact wB
 obtain⟨k,S2⟩:=k;obtain⟨V,b,W⟩:=V;simp only at V b W |-;by_cases M:k<h.Larges.length
 ·have g:=ah M
  have hpg:=sA G g
  repeat'(first|refine gD ?_|(conv=>whnf);first|with_reducible (first|refine CA (aa g) ?_|refine Bf.D (λa=>?_) (λa=>?_))|refine CK ω (aa (fD ω M)) ?_)
  all_goals first
   |exact d (qG (cg M (HR (Q0 ω))))
   |have u:vz h.Larges k=true:=O0 ω
    (conv=>whnf)
    refine CD (ι:=Nat × List Int) (λq=>[(1,.hold .box (ab.enc .imm h)),(5,.hold .one [.m (eJ q.2)]),(9,.hold .box (a8.enc .imm (nth h.Larges k))),(10,.hold .one [I ((nth h.Larges k).Page+(q.1:Nat))]),(53,.hold .one (bS .imm h.Larges)),(54,.hold .one [I (h.Larges.length)]),(55,.hold .one [I ((k:Nat):Int)])]) (λq=>q.1<=(nth h.Larges k).Pages.toNat/\(∀z,z∈q.2↔z∈S2++lpgs (nth h.Larges k) q.1)/\cE q.1 (vT h (nth h.Larges k))=true) (λq=>(nth h.Larges k).Pages.toNat - q.1) ((0,S2)) ?_ (⟨R0 _,λz=>by simp[lpgs],rfl⟩) λq a=>?_
    ·exact wB
    obtain⟨q,X⟩:=q;obtain⟨Y,w,Z⟩:=a;simp only at Y w Z |-;by_cases lq:q<(nth h.Larges k).Pages.toNat
    ·have hfl:=g9 h ((nth h.Larges k).Page+(q:Nat))
     repeat'(first|refine gD ?_|(conv=>whnf);first|with_reducible refine Bf.N (λa=>?_) (λa=>?_)|refine C6 (ug h _ l) ?_|refine Mu.mk (vr X _) ?_)
     all_goals first
      |exact d (qG (cg M (K8 lq (Q0 ω))))
      | ((conv=>whnf)
         refine CB (q+1,ins X ((nth h.Larges k).Page+(q:Nat))) ⟨(by simp only;omega),λz=>by simp only[FO,w];rw[jF];simp[or_assoc],bL Z (O0 ω)⟩ (by simp only;omega) ?_
         (repeat'(first|exact trivial|rfl|refine CI ?_ ?_|exact xL (by simp;omega))))
    ·obtain rfl:q=(nth h.Larges k).Pages.toNat:=ω
     repeat'(first|refine gD ?_|fail)
     ((conv=>whnf);refine CB (k+1,X) ⟨(by simp only;omega),(λz=>by simp only[w];rw[nt _ g];simp[b]),bL W (D6 u Z)⟩ (by simp only;omega) ?_;(exact wB))
 obtain rfl:k=h.Larges.length:=ω
 rw[v4]at b
 repeat'(first|refine gD ?_|fail)
 (conv=>whnf)
 refine CD (ι:=Nat) (λp=>[(1,.hold .box (ab.enc .imm h)),(5,.hold .one [.m (eJ S2)]),(98,.hold .one [I (dQ h)]),(99,.hold .one [I ((p:Nat):Int)])]) (λp=>p<=dQ h/\cE p (tP h)=true) (λp=>dQ h - p) 0 ?_ ⟨R0 _,rfl⟩ λp O=>?_
 ·exact wB
 obtain⟨O,ap⟩:=O;by_cases lp:p<dQ h
 ·have hr:=xM h.Free (p:Nat) ω
  have J:=Dn h.Kernel (p:Nat) l;rw[lg lp]at J
  repeat'(first|refine gD ?_|(conv=>whnf);first|with_reducible (first|refine Bf.D (λa=>?_) (λa=>?_)|refine Bf.NB (λa=>?_) (λa=>?_))|refine C6 J ?_|refine Ml.mk (m6 (p:Nat) S2) ?_|refine C6 hr ?_|refine Bf.P (λa=>?_) (λa=>?_))
  all_goals first
   |exact d (Bc (cg lp (by unfold tP tbl;have:=b (p:Nat);grind)))
   | ((conv=>whnf);refine CB (p+1) ⟨ω,bL ap (by unfold tP tbl;have:=b (p:Nat);grind)⟩ ω ?_;(exact wB))
 obtain rfl:p=dQ h:=ω
 repeat'(first|refine gD ?_|fail)
 have hpn:dQ h=h.Kernel.Machine.Table.Entries.length:=rfl
 (conv=>whnf)
 refine CD (ι:=Option Int × List Int) (λt=>[(1,.hold .box (ab.enc .imm h)),(122,.hold .one [.it t.1 t.2])]) (λt=>(∀z∈S2,z∈t.2\/z<dQ h)/\∀z∈t.2,z∈S2) (λt=>t.2.length) ((none,(eJ S2).map (·.1))) ?_ (⟨λz n=>.inl (by rw[v8];exact n),λz n=>by rw[v8]at n;exact n⟩) λt ht=>?_
 ·exact wB
 obtain⟨cur,left⟩:=t;obtain⟨y,C⟩:=ht;simp only at y C |-
 repeat'(first|refine gO ?_|(conv=>whnf);first|with_reducible refine Bf.D (λa=>?_) (λa=>?_)|refine Nt.mk (λa=>?_) (λl1 k l2 a=>?_))
 rotate_left
 ·exact d (Dw (p:=k) ((b k).1 (C k (by subst left;simp))) ω)
 ·((conv=>whnf);refine CB (some k,l1++l2) ⟨λz n=>by have c:=y z n;subst left;simp only[O2,List.mem_cons]at c |-;rcases c with(c|c|c)|c;exact .inl (.inl c);(subst c;exact .inr ω);exact .inl (.inr c);exact .inr c,λz n=>C z (by subst left;simp only[O2,List.mem_cons]at n |-;grind)⟩ (by subst left;simp) ?_;(exact wB))
 have K:∀p∈pgs h.Spans h.Larges,p<dQ h:=λp O=>by
  have c:=y p ((b p).2 O);subst left;simpa using c
 have h0:pages0 h=true:=vA H W K ap;rw[h0,Bool.true_and]
 (conv=>whnf)
 refine CD (ι:=Nat) (λi=>[(1,.hold .box (ab.enc .imm h)),(136,.hold .one (bX .imm h.Spans)),(137,.hold .one [I (h.Spans.length)]),(138,.hold .one [I ((i:Nat):Int)])]) (λi=>i<=h.Spans.length/\cE i (λi=>cE i (jU h i))=true) (λi=>h.Spans.length - i) 0 ?_ ⟨R0 _,rfl⟩ λi o=>?_
 ·exact wB
 obtain⟨o,H⟩:=o;by_cases F:i<h.Spans.length
 ·have g:=ah F
  have htl:(h.Spans.take i).length=i:=by rw[I1];omega
  repeat'(first|refine gD ?_|(conv=>whnf);first|with_reducible refine CA (aa g) ?_|refine CS i rfl (by simp;omega) (λr hr=>by obtain⟨z,-,rfl⟩:=T3.1 hr;rfl) (Q3 ..) ?_)
  (conv=>whnf)
  refine CD (ι:=Nat) (λj=>[(1,.hold .box (ab.enc .imm h)),(14,.hold .box (au.enc .imm (nth h.Spans i))),(136,.hold .one (bX .imm h.Spans)),(137,.hold .one [I (h.Spans.length)]),(138,.hold .one [I ((i:Nat):Int)]),(146,.hold .one (bX .imm (h.Spans.take i))),(147,.hold .one [I ((h.Spans.take i).length)]),(148,.hold .one [I ((j:Nat):Int)])]) (λj=>j<=(h.Spans.take i).length/\cE j (jU h i)=true) (λj=>(h.Spans.take i).length - j) 0 ?_ ⟨R0 _,rfl⟩ λj hj=>?_
  ·exact wB
  obtain⟨hj,aj⟩:=hj;by_cases lj:j<(h.Spans.take i).length
  ·have hy:=ah lj
   have he:nth (h.Spans.take i) j=nth h.Spans j:=bo (by rw[List.getElem?_take_of_lt ω];exact ah ω);rw[he]at hy;have J:=xa (nth h.Spans i) (nth h.Spans j);cases em:meshable (nth h.Spans i) (nth h.Spans j)<;>rw[em]at J
   all_goals
    repeat'(first|refine gD ?_|(conv=>whnf);first|with_reducible (first|refine CA (aa hy) ?_|refine Bf.E (λa=>?_) (λa=>?_))|refine C6 (kb (tbl h) _ l) ?_|refine C6 J ?_)
    all_goals first
     | exact T0 (λz=>[B z]) ((by symm;exact cg F (cg (i:=j) ω (by unfold jU;rw[em];grind))))
     | ((conv=>whnf);refine CB (j+1) ⟨ω,bL aj (by unfold jU;rw[em];grind)⟩ ω ?_;(exact wB))
  ·obtain rfl:j=(h.Spans.take i).length:=ω
   rw[htl]at aj
   repeat'(first|refine gD ?_|fail)
   ((conv=>whnf);refine CB (i+1) ⟨ω,bL H aj⟩ ω ?_;(exact wB))
 obtain rfl:i=h.Spans.length:=ω
 repeat'(first|refine gD ?_|fail)
 exact T0 (λz=>[B z]) ((by unfold mS;rw[H]))
set_option maxHeartbeats 8000000
theorem n6{α:Type}[Inhabited α](pr:α->Bool)(xs:List α):cy pr xs = -1\/∃n,n<xs.length/\cy pr xs=(n:Nat)/\pr (nth xs n)=true:=by
 unfold cy;cases h:xs.findIdx? pr with
 | none=>exact .inl rfl
 | some i=>
  obtain⟨a,b,-⟩:=I5.1 h;exact .inr ⟨i,a,rfl,by rw[bo (U1 a)];exact b⟩
theorem Ds{h:ab}{i k:Nat}(a:i<h.Spans.length)(b:k<(aO h (nth h.Spans i).Page).length)(c:lh h i (nth (aO h (nth h.Spans i).Page) k)=false):rk h=false:=by
 unfold rk;exact cg a (dU (ah b) c)
theorem An(h:ab)(j:du h.Spans)(c:xl h):ao Tryz.prog 205 false [.val (some 24) (ab.enc .imm h)] .one [B (rk h)]:=by
 have l:=j.1;have G:dQ h<=1048576:=c.1;refine fO 55 [(4,8,[14,15,16,17,18,19,20,21]),(8,6,[28,29,30,31,32,33]),(9,21,[34,35,36,37,38,39,40,41,42,43,44,45,46,47,48,49,50,51,52,53,54])] Tryz.func205 rfl ?_
 repeat'(first|refine gO ?_|fail)
 (conv=>whnf)
 refine CD (ι:=Nat) (λi=>[(1,.hold .box (ab.enc .imm h)),(3,.hold .one [I ((i:Nat):Int)])]) (λi=>i<=h.Spans.length/\cE i (λi=>(aO h (nth h.Spans i).Page).all (lh h i))=true) (λi=>h.Spans.length - i) 0 ?_ ⟨R0 _,rfl⟩ λi w=>?_
 ·exact wB
 obtain⟨w,y⟩:=w;by_cases o:i<h.Spans.length
 ·have q:=ah o
  have H:=g9 h (nth h.Spans i).Page
  repeat'(first|refine gD ?_|(conv=>whnf);first|with_reducible refine CA (aa q) ?_|refine C6 (gC h _ c) ?_)
  (conv=>whnf)
  refine CD (ι:=Nat) (λk=>[(1,.hold .box (ab.enc .imm h)),(3,.hold .one [I ((i:Nat):Int)]),(4,.hold .one (aD .own (aO h (nth h.Spans i).Page))),(5,.hold .one [I ((k:Nat):Int)])]) (λk=>k<=(aO h (nth h.Spans i).Page).length/\((aO h (nth h.Spans i).Page).take k).all (lh h i)=true) (λk=>(aO h (nth h.Spans i).Page).length - k) (0) ?_ (⟨R0 _,rfl⟩) λk C=>?_
  ·exact wB
  obtain⟨C,E⟩:=C;by_cases r:k<(aO h (nth h.Spans i).Page).length
  ·have d:=ah r
   have a:=jd h (nth (aO h (nth h.Spans i).Page) k) l;rcases n6 (jr (nth (aO h (nth h.Spans i).Page) k)) h.Spans with e|⟨n,J,e,-⟩
   ·rw[show eU h (nth (aO h (nth h.Spans i).Page) k) = -1 from e]at a
    have t:lh h i (nth (aO h (nth h.Spans i).Page) k)=false:=by
     unfold lh;rw[show eU h (nth (aO h (nth h.Spans i).Page) k) = -1 from e,Q0 ω,Q0 ω];rfl
    repeat'(first|refine gD ?_|(conv=>whnf);first|with_reducible (first|refine CA (aa q) ?_|refine CA (aa d) ?_|refine Bf.D (λb=>?_) (λb=>?_)|refine Bf.N (λb=>?_) (λb=>?_))|refine CG rfl (aa d) rfl ?_|refine C6 a ?_)
    all_goals first
     | exact T0 (λz=>[B z]) ((Ds o r t).symm)
     |(exfalso;omega)
   ·rw[show eU h (nth (aO h (nth h.Spans i).Page) k)=(n:Nat) from e]at a
    have K:=ah J;have F:=lc (nth h.Spans i) (nth h.Spans n);have g:lh h i (nth (aO h (nth h.Spans i).Page) k)=(decide ((n:Int)=(i:Nat)) || meshable (nth h.Spans i) (nth h.Spans n)):=by
     unfold lh;rw[show eU h (nth (aO h (nth h.Spans i).Page) k)=(n:Nat) from e,O0 (p:=(0:Int)<=(n:Nat)) ω];simp
    cases u:meshable (nth h.Spans i) (nth h.Spans n)<;>rw[u]at F
    all_goals
     repeat'(first|refine gD ?_|(conv=>whnf);first|with_reducible (first|refine CA (aa q) ?_|refine CA (aa K) ?_|refine CA (aa d) ?_|refine Bf.D (λb=>?_) (λb=>?_)|refine Bf.N (λb=>?_) (λb=>?_))|refine CG rfl (aa d) rfl ?_|refine C6 a ?_|refine C6 F ?_)
     all_goals first
      | exact T0 (λz=>[B z]) ((Ds o r (by rw[g,u];grind)).symm)
      | ((conv=>whnf);refine CB (k+1) ⟨ω,cv d E (by rw[g,u];grind)⟩ ω ?_;(exact wB))
      |(exfalso;omega)
  ·repeat'(first|refine gD ?_|fail)
   ((conv=>whnf);refine CB (i+1) ⟨ω,bL y (gk ω E)⟩ ω ?_;(exact wB))
 ·obtain rfl:i=h.Spans.length:=ω
  repeat'(first|refine gD ?_|fail)
  exact T0 (λz=>[B z]) ((by unfold rk;rw[y]))
theorem Hu(j:cN)(b:cN.sml j):ao Tryz.prog 211 false [.val (some 5) (cN.enc .imm j)] .one [B (qK j)]:=by
 have c:j.Plan.Cells.length<=1048576:=b;refine fO 30 [] Tryz.func211 rfl ?_
 repeat'(first|refine gO ?_|(conv=>whnf);first|with_reducible (first|refine Bf.E (λa=>?_) (λa=>?_)|refine Bf.D (λa=>?_) (λa=>?_)))
 all_goals exact T0 (λz=>[B z]) ((by unfold qK;first|(symm;exact Q0 ω)|(rw[Y3,beq_iff_eq,C0];omega)))
theorem mg(sp:List au)(la:List a8)(a:Int):((denotes sp la a).Kind=1->0<=(denotes sp la a).Index/\(denotes sp la a).Index.toNat<sp.length)/\((denotes sp la a).Kind=3->0<=(denotes sp la a).Index/\(denotes sp la a).Index.toNat<la.length):=by
 unfold denotes;cases c:sp.findIdx? (ca · a) with
 | some i=>
  obtain⟨b,-⟩:=I5.1 c;simp only[mX];refine⟨λ_=>⟨ω,by simpa using b⟩,λe=>?_⟩;split at e<;>cases e
 | none=>
  cases d:la.findIdx? (bk · a) with
  | some i=>
   obtain⟨b,-⟩:=I5.1 d;exact⟨λe=>(by cases e),λ_=>⟨by simp,by simpa using b⟩⟩
  | none=>exact⟨λe=>(by cases e),λe=>(by cases e)⟩
theorem DR(h:ab)(a c:Int)(d:du h.Spans)(e:dr h.Larges)(b:bc h.Spans h.Larges=true)(k:lP a):ao Tryz.prog 276 false [.val (some 24) (ab.enc .imm h),.val none [I a],.val none [I c]] .one [B (cU h a c)]:=by
 have j:=lU h.Spans h.Larges a d e b k;obtain⟨g,-⟩:=mg h.Spans h.Larges a;unfold cU;generalize denotes h.Spans h.Larges a=w at j g |-;refine fO 37 [] Tryz.func276 rfl ?_
 repeat'(first|refine gO ?_|(conv=>whnf);first|with_reducible (first|refine Bf.D (λi=>?_) (λi=>?_)|refine Bf.E (λi=>?_) (λi=>?_))|refine C6 j ?_|refine CK (g (by assumption)).1 (aa (ah (g (by assumption)).2)) ?_)
 all_goals exact T0 (λz=>[B z]) ((by grind))
theorem ym(h:ab)(o:bB)(w:iG)(a:denotes h.Spans h.Larges o.Addr=w):ix h o=(decide (w.Offset=0)&&((decide (w.Kind=1)&&decide ((nth h.Spans w.Index.toNat).Class=aK o.Size)) || (decide (w.Kind=3)&&decide ((nth h.Larges w.Index.toNat).Size=o.Size)))):=by
 unfold ix;rw[a]
theorem iC{h:ab}{i:Nat}(a:i<h.Objs.length)(b:objAt (IntKind.i64.wrap (h.Next - 1)) h i=false):ee h=false:=cg a b
theorem Gj{a:Int}{h:ab}{i:Nat}(h1:fZ a h i=false):objAt a h i=false:=by unfold objAt;rw[h1];rfl
theorem Fz{a:Int}{h:ab}{i:Nat}(h1:(h.Objs.take i).any (js (nth h.Objs i).Id)=true):objAt a h i=false:=by unfold objAt;rw[h1];simp
theorem Fs{a:Int}{h:ab}{i:Nat}(h1:ix h (nth h.Objs i)=false):objAt a h i=false:=by unfold objAt;rw[h1];simp
theorem xR{a:Int}{h:ab}{i:Nat}(h1:fZ a h i=true)(b:(h.Objs.take i).any (js (nth h.Objs i).Id)=false)(c:ix h (nth h.Objs i)=true):objAt a h i=true:=by unfold objAt;rw[h1,b,c];rfl
theorem Ew(h:ab)(l:du h.Spans)(n:dr h.Larges)(g:bc h.Spans h.Larges=true)(K:h.Objs.length<=1048576)(L:h.Caches.length<=1048576)(H:∀o∈h.Objs,lP o.Addr):ao Tryz.prog 209 false [.val (some 24) (ab.enc .imm h)] .one [B (ee h)]:=by
 refine fO 117 [(5,33,[21,22,23,24,25,26,27,28,29,30,31,32,33,34,35,36,37,38,39,40,41,42,43,44,45,46,47,48,49,50,51,52,53]),(10,9,[59,60,61,62,63,64,65,66,67]),(13,16,[75,76,77,78,79,80,81,82,83,84,85,86,87,88,89,90]),(14,15,[91,92,93,94,95,96,97,98,99,100,101,102,103,104,105])] Tryz.func209 rfl ?_
 repeat'(first|refine gO ?_|fail)
 (conv=>whnf)
 refine CD (ι:=Nat) (λi=>[(1,.hold .box (ab.enc .imm h)),(3,.hold .one [I ((i:Nat):Int)])]) (λi=>i<=h.Objs.length/\cE i (objAt (IntKind.i64.wrap (h.Next - 1)) h)=true) (λi=>h.Objs.length - i) 0 ?_ ⟨R0 _,rfl⟩ λi t=>?_
 ·exact wB
 obtain⟨t,u⟩:=t;by_cases e:i<h.Objs.length
 ·have y:=ah e
  have C:=lU h.Spans h.Larges (nth h.Objs i).Addr l n g (H _ (am e));obtain⟨p,q⟩:=mg h.Spans h.Larges (nth h.Objs i).Addr;have b:=ym h (nth h.Objs i) _ rfl;generalize denotes h.Spans h.Larges (nth h.Objs i).Addr=w at C p q b;by_cases c:fZ (IntKind.i64.wrap (h.Next - 1)) h i=true
  ·have a:=c
   unfold fZ at a;rw[C0]at a
   repeat'(first|refine gD ?_|(conv=>whnf);first|with_reducible (first|refine CA (aa y) ?_|refine Bf.D (λd=>?_) (λd=>?_))|refine CK ω (aa (fD ω e)) ?_|refine C6 (aG _ _ _) ?_|refine CJ rfl ?_)
   all_goals
    (conv=>whnf)
    refine CD (ι:=Nat) (λk=>[(1,.hold .box (ab.enc .imm h)),(3,.hold .one [I ((i:Nat):Int)]),(4,.hold .box (bB.enc .imm (nth h.Objs i))),(5,.hold .one [I ((k:Nat):Int)])]) (λk=>k<=i/\(h.Objs.take k).any (js (nth h.Objs i).Id)=false) (λk=>i - k) (0) ?_ (⟨R0 _,rfl⟩) λk F=>?_
    ·exact wB
    obtain⟨F,G⟩:=F;by_cases J:k<i
    ·have r:=ah (xs:=h.Objs) (i:=k) ω
     repeat'(first|refine gD ?_|(conv=>whnf);first|with_reducible (first|refine CA (aa r) ?_|refine Bf.E (λd=>?_) (λd=>?_)))
     all_goals first
      | exact T0 (λz=>[B z]) ((iC e (Fz (zS (i:=k) (by rw[List.getElem?_take_of_lt J];exact r) (O0 (by assumption))))).symm)
      | ((conv=>whnf);refine CB (k+1) ⟨ω,vK r G (Q0 (by assumption))⟩ ω ?_;(exact wB))
    ·obtain rfl:k=i:=ω
     repeat'(first|refine gD ?_|(conv=>whnf);first|with_reducible (first|refine Bf.D (λd=>?_) (λd=>?_)|refine Bf.E (λd=>?_) (λd=>?_)|refine Bf.N (λd=>?_) (λd=>?_))|refine C6 C ?_|refine CK (p (by assumption)).1 (aa (ah (p (by assumption)).2)) ?_|refine CK (q (by assumption)).1 (aa (ah (q (by assumption)).2)) ?_|refine C6 (j8 _) ?_)
     all_goals first
      | exact T0 (λz=>[B z]) ((iC e (Fs (by rw[b];grind))).symm)
      | ((conv=>whnf);refine CB (k+1) ⟨ω,bL u (xR c G (by rw[b];grind))⟩ ω ?_;(exact wB))
      |(exfalso;omega)
  ·have j:fZ (IntKind.i64.wrap (h.Next - 1)) h i=false:=by simpa using c
   have a:=j;unfold fZ at a;rw[X3]at a
   repeat'(first|refine gD ?_|(conv=>whnf);first|with_reducible (first|refine CA (aa y) ?_|refine Bf.D (λd=>?_) (λd=>?_))|refine CK ω (aa (fD ω e)) ?_|refine C6 (aG _ _ _) ?_|refine CJ rfl ?_)
   all_goals first
    | exact T0 (λz=>[B z]) ((iC e (Gj j)).symm)
    |(exfalso;omega)
 ·obtain rfl:i=h.Objs.length:=ω
  repeat'(first|refine gD ?_|fail)
  exact T0 (λz=>[B z]) ((show true=ee h from u.symm))
theorem oN(o a:bB):ao Tryz.prog 169 false [.val (some 4) (bB.enc .imm o),.ptr (bB.enc .imm a)] .one [B (js a.Id o)]:=by
 refine fO 9 [] Tryz.func169 rfl ?_
 repeat'(first|refine gO ?_|fail)
 exact T0 (λz=>[B z]) ((by unfold js;rw[Y3];simp))
theorem Dx(h:ab)(n:du h.Spans)(o:dr h.Larges)(J:h.Objs.length<=1048576)(K:h.Caches.length<=1048576):ao Tryz.prog 73 false [.val (some 24) (ab.enc .imm h)] .one [B (ee h)]:=by
 refine fO 105 [(4,33,[16,17,18,19,20,21,22,23,24,25,26,27,28,29,30,31,32,33,34,35,36,37,38,39,40,41,42,43,44,45,46,47,48]),(9,16,[62,63,64,65,66,67,68,69,70,71,72,73,74,75,76,77]),(10,15,[78,79,80,81,82,83,84,85,86,87,88,89,90,91,92])] Tryz.func73 rfl ?_
 repeat'(first|refine gO ?_|fail)
 (conv=>whnf)
 refine CD (ι:=Nat) (λi=>[(1,.hold .box (ab.enc .imm h)),(9,.hold .one (mN .imm h.Objs)),(10,.hold .one [I (h.Objs.length)]),(11,.hold .one [I ((i:Nat):Int)])]) (λi=>i<=h.Objs.length/\cE i (objAt (IntKind.i64.wrap (h.Next - 1)) h)=true) (λi=>h.Objs.length - i) 0 ?_ ⟨R0 _,rfl⟩ λi F=>?_
 ·exact wB
 obtain⟨F,G⟩:=F;by_cases g:i<h.Objs.length
 ·have p:=ah g
  have H:=lR h.Spans h.Larges (nth h.Objs i).Addr n o;obtain⟨q,t⟩:=mg h.Spans h.Larges (nth h.Objs i).Addr;have b:=ym h (nth h.Objs i) _ rfl;generalize denotes h.Spans h.Larges (nth h.Objs i).Addr=w at H q t b;have j:=rS (h.Objs.take i) (js (nth h.Objs i).Id) (by rw[I1];omega);by_cases c:fZ (IntKind.i64.wrap (h.Next - 1)) h i=true
  ·have a:=c
   unfold fZ at a;rw[C0]at a;cases d:(h.Objs.take i).any (js (nth h.Objs i).Id)<;>rw[d]at j
   ·repeat'(first|refine gD ?_|(conv=>whnf);first|with_reducible (first|refine CA (aa p) ?_|refine Bf.D (λe=>?_) (λe=>?_)|refine Bf.E (λe=>?_) (λe=>?_)|refine Bf.N (λe=>?_) (λe=>?_))|refine CK ω (aa (fD ω g)) ?_|refine C6 (aM _ _ _) ?_|refine CS i rfl (by simp;omega) (λr u=>by obtain⟨z,-,rfl⟩:=T3.1 u;rfl) (Q3 ..) ?_|refine Cq.mk (oQ (some 4) (bB.enc .imm) (js (nth h.Objs i).Id) (h.Objs.take i)) (oN default (nth h.Objs i)).has (λL k rcs C=>by obtain⟨y,-,rfl,rfl,rfl⟩:=C;exact oN y (nth h.Objs i)) ?_|refine C6 j ?_|refine C6 H ?_|refine CK (q (by assumption)).1 (aa (ah (q (by assumption)).2)) ?_|refine CK (t (by assumption)).1 (aa (ah (t (by assumption)).2)) ?_|refine C6 (mG _) ?_|refine CJ rfl ?_)
    all_goals first
     | exact T0 (λz=>[B z]) ((iC g (Fs (by rw[b];grind))).symm)
     | ((conv=>whnf);refine CB (i+1) ⟨ω,bL G (xR c d (by rw[b];grind))⟩ ω ?_;(exact wB))
     |(exfalso;omega)
   ·repeat'(first|refine gD ?_|(conv=>whnf);first|with_reducible (first|refine CA (aa p) ?_|refine Bf.D (λe=>?_) (λe=>?_))|refine CK ω (aa (fD ω g)) ?_|refine C6 (aM _ _ _) ?_|refine CS i rfl (by simp;omega) (λr u=>by obtain⟨z,-,rfl⟩:=T3.1 u;rfl) (Q3 ..) ?_|refine Cq.mk (oQ (some 4) (bB.enc .imm) (js (nth h.Objs i).Id) (h.Objs.take i)) (oN default (nth h.Objs i)).has (λL k rcs C=>by obtain⟨y,-,rfl,rfl,rfl⟩:=C;exact oN y (nth h.Objs i)) ?_|refine C6 j ?_|refine CJ rfl ?_)
    all_goals first
     | exact T0 (λz=>[B z]) ((iC g (Fz d)).symm)
     |(exfalso;omega)
  ·have l:fZ (IntKind.i64.wrap (h.Next - 1)) h i=false:=by simpa using c
   have a:=l;unfold fZ at a;rw[X3]at a
   repeat'(first|refine gD ?_|(conv=>whnf);first|with_reducible (first|refine CA (aa p) ?_|refine Bf.D (λe=>?_) (λe=>?_))|refine CK ω (aa (fD ω g)) ?_|refine C6 (aM _ _ _) ?_|refine CJ rfl ?_)
   all_goals first
    | exact T0 (λz=>[B z]) ((iC g (Gj l)).symm)
    |(exfalso;omega)
 ·obtain rfl:i=h.Objs.length:=ω
  repeat'(first|refine gD ?_|fail)
  exact T0 (λz=>[B z]) ((show true=ee h from G.symm))
set_option maxHeartbeats 8000000
theorem GU{sp:List au}{la:List a8}{n:Nat}(h:jn sp la n=true):kj sp la (n+1)=kj sp la n++[(n:Int)]:=by
 unfold kj;rw[List.range_succ,List.filter_append,R4];simp[h]
theorem Jv{sp:List au}{la:List a8}{n:Nat}(h:jn sp la n=false):kj sp la (n+1)=kj sp la n:=by
 unfold kj;rw[List.range_succ,List.filter_append,R4];simp[h]
theorem xT(sp:List au)(la:List a8)(n:Nat):(kj sp la n).length<=n:=by
 unfold kj;rw[W0];exact Z3 (List.length_filter_le ..) (by simp)
theorem qN{sp:List au}{la:List a8}{n:Nat}{w:iG}(a:denotes sp la (n:Nat)=w):jn sp la n=(decide (w.Offset=0)&&(decide (w.Kind=1) || decide (w.Kind=3))):=by
 unfold jn;rw[a]
theorem Mm{n:Nat}(h:n<=1048576):lP (n:Nat):=⟨ω,ω⟩
theorem wl(sp:List au)(la:List a8)(c:du sp)(d:dr la)(a:bc sp la=true):ao Tryz.prog 278 false [.val none (bX .imm sp),.val none (bS .imm la)] .one (aD .own (fI sp la)):=by
 have g:=kP sp la c d;rw[a]at g;refine fO 40 [] Tryz.func278 rfl ?_ (.inr (bC _))
 repeat'(first|refine gO ?_|fail)
 (conv=>whnf)
 refine CD (ι:=Nat) (λn=>[(0,.hold .one (bX .imm sp)),(1,.hold .one (bS .imm la)),(5,.hold .one (aD .own (kj sp la n))),(6,.hold .one [I ((n:Nat):Int)])]) (λn=>n<=512) (λn=>512 - n) (0) ?_ (R0 _) λn o=>?_
 ·exact wB
 have i:=xT sp la n;by_cases p:n<512
 ·have h:=lU sp la (n:Nat) c d a (Mm ω)
  generalize j:denotes sp la (n:Nat)=w at h;have e:=qN j
  repeat'(first|refine gD ?_|(conv=>whnf);first|with_reducible refine Bf.E (λk=>?_) (λk=>?_)|refine C6 g ?_|refine C6 h ?_|refine CN bW (λr l=>by rw[Z0.1 l];rfl) (by simp[aU,d4]) (by simp;omega) (by simp only[W0];exact up (by simp;omega) (by decide)) rfl ?_)
  all_goals first
   |(have b:jn sp la n=true:=by rw[e];grind
     (conv=>whnf)
     refine CB (n+1) ω ω ?_;rw[GU b]
     (repeat'(first|exact trivial|rfl|exact CI rfl (CI (T0 (C.s d7.own) (by simp[rI])) trivial)|refine CI ?_ ?_)))
   |(have b:jn sp la n=false:=by rw[e];grind
     (conv=>whnf)
     refine CB (n+1) ω ω ?_;rw[Jv b]
     (exact wA))
 ·obtain rfl:n=512:=ω
  repeat'(first|refine gD ?_|(conv=>whnf);first|refine C6 g ?_)
  rfl
theorem wv(m:aJ)(a:m.Inbox.length=m.Buffers.length):∀i,i<=m.Buffers.length->(((flight1 m i).length+(flight2 m i).length:Nat):Int)=br m i
 | 0,_=>rfl
 | i+1,h=>by
  have d:=wv m a i ω;have b:=ah (xs:=m.Buffers) (i:=i) ω;have c:=ah (xs:=m.Inbox) (i:=i) ω;rw[mi b,mI c];simp only[U2,W0];show _=br m i+((nth m.Buffers i).length+(nth m.Inbox i).length);omega
theorem io{m:aJ}(h:bz m=true):(aC m).length<=30:=by
 have a:=jD h;have b:=wv m a.2.2 m.Buffers.length (Q2 _);have c:br m m.Buffers.length<=30:=by
  unfold bz at h;simp only[I0,C0]at h;exact h.2
 rw[nu h,U2,a.2.2];omega
theorem BO{m:aJ}(d:aJ.wf m):∀a∈aC m,lP a:=by
 intro a b;unfold aC at b;split at b
 ·rcases O2.1 b with h|h
  ·obtain⟨l,c,h⟩:=List.mem_flatMap.1 h
   obtain⟨p,e,rfl⟩:=T3.1 h;exact((d.1.2 l c).2 p e).2
  ·obtain⟨l,c,h⟩:=List.mem_flatten.1 h
   exact(d.2.2 l c).2 a h
 ·cases b
theorem G9{h:ab}(h1:h.Caches.all (ec h)=false):ik h=false:=by unfold ik gh;rw[h1];rfl
theorem Hj{h:ab}(h1:h.Quar.Lst.all (gB h)=false):ik h=false:=by unfold ik gh;rw[h1];simp
theorem Gw{h:ab}(h1:(aC h.Mail).all (iP h)=false):ik h=false:=by unfold ik gh;rw[h1];simp
theorem GN{h:ab}{i:Nat}(a:i<(holders h).length)(b:nth (holders h) i∈(holders h).take i):ik h=false:=by
 have c:decide (holders h).Nodup=false:=K3 (S:=(holders h).take i) (p:=nth (holders h) i) (by
   have:=ah a;have e:(holders h).take i++[nth (holders h) i]=(holders h).take (i+1):=by rw[O4,this];rfl
   rw[e];exact List.take_prefix ..) b
 unfold ik;rw[c];simp
theorem tz{h:ab}{i:Nat}{c:ay}(a:h.Caches[i]? = some c):((h.Caches.take (i+1)).flatMap λc=>c.Lists.flatten)=((h.Caches.take i).flatMap λc=>c.Lists.flatten)++c.Lists.flatten:=by
 rw[O4,a,List.flatMap_append];simp
theorem vt{c:ay}{k:Nat}{l:List Int}(a:c.Lists[k]? = some l):(c.Lists.take (k+1)).flatten=(c.Lists.take k).flatten++l:=by
 rw[O4,a,List.flatten_append];simp
theorem Ea(h:ab)(hs:ab.sml h)(hw:ab.wf h)(y:bc h.Spans h.Larges=true)(G:bz h.Mail=true)(hco:∀c∈h.Caches,bm c=true):ao Tryz.prog 210 false [.val (some 24) (ab.enc .imm h)] .one [B (ik h)]:=by
 obtain⟨-,-,N,O,hso,hsc,hsm,hsq,-⟩:=hs;obtain⟨-,-,-,-,-,hwc,hwm,hwq,-⟩:=hw;have hlo:h.Objs.length<=1048576:=hso.1;have hlc:h.Caches.length<=1048576:=hsc.1;have hlq:h.Quar.Lst.length<=1048576:=hsq.1;have hfl:=io G;have hfw:=BO hwm;have H:∀a c,lP a->ao Tryz.prog 276 false [.val (some 24) (ab.enc .imm h),.val none [I a],.val none [I c]] .one [B (cU h a c)]:=λa c ha=>DR h a c N O y ha
 refine fO 159 [(16,8,[63,64,65,66,67,68,69,70]),(22,17,[86,87,88,89,90,91,92,93,94,95,96,97,98,99,100,101,102]),(29,7,[122,123,124,125,126,127,128]),(35,8,[142,143,144,145,146,147,148,149])] Tryz.func210 rfl ?_
 repeat'(first|refine gO ?_|fail)
 (conv=>whnf)
 refine CD (ι:=Nat × List Int) (λi=>[(1,.hold .box (ab.enc .imm h)),(3,.hold .one (aD .own i.2)),(4,.hold .one [I ((i.1:Nat):Int)])]) (λi=>i.1<=h.Objs.length/\i.2=(h.Objs.take i.1).map (·.Addr)) (λi=>h.Objs.length - i.1) ((0,[])) ?_ (⟨R0 _,rfl⟩) λi E=>?_
 ·exact wB
 obtain⟨i,S⟩:=i;obtain⟨E,M⟩:=E;simp only at E M |-;have hSl:S.length=i:=by rw[M,W0,I1];omega
 by_cases li:i<h.Objs.length
 ·have t:=ah li
  repeat'(first|refine gD ?_|(conv=>whnf);first|with_reducible refine CA (aa t) ?_|refine CN bW (λr u=>by rw[Z0.1 u];rfl) (by simp[aU,d4]) (by simp;omega) (by simp only[W0];exact up (by simp;omega) (by decide)) rfl ?_)
  ((conv=>whnf)
   refine CB (i+1,S++[(nth h.Objs i).Addr]) ⟨(by simp only;omega),(by simp only;rw[M,O4,t];simp)⟩ (by simp only;omega) ?_
   (repeat'(first|exact trivial|rfl|exact CI rfl (CI (T0 (C.s d7.own) (by simp[rI])) trivial)|refine CI ?_ ?_)))
 obtain rfl:i=h.Objs.length:=ω
 rw[v4]at M
 repeat'(first|refine gD ?_|fail)
 (conv=>whnf)
 refine CD (ι:=Nat × List Int) (λi=>[(1,.hold .box (ab.enc .imm h)),(3,.hold .one (aD .own i.2)),(5,.hold .one [I ((i.1:Nat):Int)])]) (λi=>i.1<=h.Caches.length/\i.2=S++((h.Caches.take i.1).flatMap λc=>c.Lists.flatten)/\(h.Caches.take i.1).all (ec h)=true/\i.2.length<=1048576+32*i.1) (λi=>h.Caches.length - i.1) ((0,S)) ?_ (⟨R0 _,by simp,rfl,by simp only;omega⟩) λi E=>?_
 ·exact wB
 obtain⟨i,S2⟩:=i;obtain⟨hi2,n,U,P⟩:=E;simp only at hi2 n U P |-;by_cases li2:i<h.Caches.length
 ·have t:=ah li2
  obtain⟨h4,h8⟩:=kv (hco _ (am li2));have hwl:=hwc.2 _ (am li2)
  repeat'(first|refine gD ?_|(conv=>whnf);first|with_reducible refine CA (aa t) ?_)
  (conv=>whnf)
  refine CD (ι:=Nat × List Int) (λk=>[(1,.hold .box (ab.enc .imm h)),(3,.hold .one (aD .own k.2)),(5,.hold .one [I ((i:Nat):Int)]),(6,.hold .one [I ((k.1:Nat):Int)])]) (λk=>k.1<=(nth h.Caches i).Lists.length/\k.2=S2++((nth h.Caches i).Lists.take k.1).flatten/\cE k.1 (qr h (nth h.Caches i))=true/\k.2.length<=S2.length+8*k.1) (λk=>(nth h.Caches i).Lists.length - k.1) ((0,S2)) ?_ (⟨R0 _,by simp,rfl,by simp⟩) λk hk=>?_
  ·exact wB
  obtain⟨k,V⟩:=k;obtain⟨hk,w,ak,hb3⟩:=hk;simp only at hk w ak hb3 |-;by_cases W:k<(nth h.Caches i).Lists.length
  ·have hy:=ah W
   have hl8:=h8 _ (am W);have hwa:=(hwl.2 _ (am W)).2
   repeat'(first|refine gD ?_|(conv=>whnf);first|with_reducible (first|refine CA (aa t) ?_|refine CA (aa hy) ?_))
   (conv=>whnf)
   refine CD (ι:=Nat × List Int) (λj=>[(1,.hold .box (ab.enc .imm h)),(3,.hold .one (aD .own j.2)),(5,.hold .one [I ((i:Nat):Int)]),(6,.hold .one [I ((k:Nat):Int)]),(7,.hold .one (aD .imm (nth (nth h.Caches i).Lists k))),(8,.hold .one [I ((j.1:Nat):Int)])]) (λj=>j.1<=(nth (nth h.Caches i).Lists k).length/\j.2=V++(nth (nth h.Caches i).Lists k).take j.1/\((nth (nth h.Caches i).Lists k).take j.1).all (λa=>cU h a (k:Nat))=true) (λj=>(nth (nth h.Caches i).Lists k).length - j.1) ((0,V)) ?_ (⟨R0 _,by simp,rfl⟩) λj hj=>?_
   ·exact wB
   obtain⟨j,S4⟩:=j;obtain⟨hj,o,X⟩:=hj;simp only at hj o X |-;have hl4:S4.length=V.length+j:=by rw[o,U2,I1];omega
   by_cases Y:j<(nth (nth h.Caches i).Lists k).length
   ·have d:=ah Y
    have b:=H (nth (nth (nth h.Caches i).Lists k) j) (k:Nat) (hwa _ (am Y));cases p:cU h (nth (nth (nth h.Caches i).Lists k) j) (k:Nat)<;>rw[p]at b
    ·repeat'(first|refine gD ?_|(conv=>whnf);first|with_reducible refine CA (aa d) ?_|refine C6 b ?_)
     exact T0 (λz=>[B z]) ((G9 (dU t (by unfold ec;exact cg W (dU d p)))).symm)
    ·repeat'(first|refine gD ?_|(conv=>whnf);first|with_reducible refine CA (aa d) ?_|refine C6 b ?_|refine CN bW (λr u=>by rw[Z0.1 u];rfl) (by simp[aU,d4]) (by simp;omega) (by show _*8<=_;simp;omega) rfl ?_)
     ((conv=>whnf)
      refine CB (j+1,S4++[nth (nth (nth h.Caches i).Lists k) j]) ⟨(by simp only;omega),(by simp only;rw[o,O4,d,Q4];rfl),cv d X p⟩ (by simp only;omega) ?_
      (repeat'(first|exact trivial|rfl|exact CI rfl (CI (T0 (C.s d7.own) (by simp[rI])) trivial)|refine CI ?_ ?_)))
   ·obtain rfl:j=(nth (nth h.Caches i).Lists k).length:=ω
    rw[v4]at o X
    repeat'(first|refine gD ?_|fail)
    ((conv=>whnf);refine CB (k+1,S4) ⟨(by simp only;omega),(by simp only;rw[o,w,vt hy,Q4]),bL ak X,(by simp only;omega)⟩ (by simp only;omega) ?_;(exact wB))
  ·obtain rfl:k=(nth h.Caches i).Lists.length:=ω
   rw[v4]at w
   repeat'(first|refine gD ?_|(conv=>whnf);first|with_reducible refine CA (aa t) ?_)
   ((conv=>whnf);refine CB (i+1,V) ⟨(by simp only;omega),(by simp only;rw[w,n,tz t,Q4]),cv t U ak,(by simp only;omega)⟩ (by simp only;omega) ?_;(exact wB))
 obtain rfl:i=h.Caches.length:=ω
 rw[v4]at n U
 repeat'(first|refine gD ?_|fail)
 (conv=>whnf)
 refine CD (ι:=Nat × List Int) (λq=>[(1,.hold .box (ab.enc .imm h)),(3,.hold .one (aD .own q.2)),(9,.hold .one [I ((q.1:Nat):Int)])]) (λq=>q.1<=h.Quar.Lst.length/\q.2=S2++(h.Quar.Lst.take q.1).map (·.Addr)/\(h.Quar.Lst.take q.1).all (gB h)=true) (λq=>h.Quar.Lst.length - q.1) ((0,S2)) ?_ (⟨R0 _,by simp,rfl⟩) λq Q=>?_
 ·exact wB
 obtain⟨q,R⟩:=q;obtain⟨J,g,Z⟩:=Q;simp only at J g Z |-;have hl5:R.length=S2.length+q:=by rw[g,U2,W0,I1];omega
 by_cases T:q<h.Quar.Lst.length
 ·have d:=ah T
  have b:=H (nth h.Quar.Lst q).Addr (nth h.Quar.Lst q).Class (hwq.2.2 _ (am T)).1;cases p:cU h (nth h.Quar.Lst q).Addr (nth h.Quar.Lst q).Class<;>rw[p]at b
  ·repeat'(first|refine gD ?_|(conv=>whnf);first|with_reducible refine CA (aa d) ?_|refine C6 b ?_)
   exact T0 (λz=>[B z]) ((Hj (dU d p)).symm)
  ·repeat'(first|refine gD ?_|(conv=>whnf);first|with_reducible refine CA (aa d) ?_|refine C6 b ?_|refine CN bW (λr u=>by rw[Z0.1 u];rfl) (by simp[aU,d4]) (by simp;omega) (by show _*8<=_;simp;omega) rfl ?_)
   ((conv=>whnf)
    refine CB (q+1,R++[(nth h.Quar.Lst q).Addr]) ⟨(by simp only;omega),(by simp only;rw[g,O4,d,R4,Q4];rfl),cv d Z p⟩ (by simp only;omega) ?_
    (repeat'(first|exact trivial|rfl|exact CI rfl (CI (T0 (C.s d7.own) (by simp[rI])) trivial)|refine CI ?_ ?_)))
 obtain rfl:q=h.Quar.Lst.length:=ω
 rw[v4]at g Z
 repeat'(first|refine gD ?_|(conv=>whnf);first|refine C6 (xA h.Mail hsm) ?_)
 (conv=>whnf)
 refine CD (ι:=Nat × List Int) (λq=>[(1,.hold .box (ab.enc .imm h)),(3,.hold .one (aD .own q.2)),(10,.hold .one (aD .own (aC h.Mail))),(11,.hold .one [I ((q.1:Nat):Int)])]) (λq=>q.1<=(aC h.Mail).length/\q.2=R++(aC h.Mail).take q.1/\((aC h.Mail).take q.1).all (iP h)=true) (λq=>(aC h.Mail).length - q.1) ((0,R)) ?_ (⟨R0 _,by simp,rfl⟩) λq Q=>?_
 ·exact wB
 obtain⟨q,e⟩:=q;obtain⟨J,l,aq6⟩:=Q;simp only at J l aq6 |-;have hl6:e.length=R.length+q:=by rw[l,U2,I1];omega
 by_cases T:q<(aC h.Mail).length
 ·have d:=ah T
  have b:=H (nth (aC h.Mail) q) (-1) (hfw _ (am T));cases p:cU h (nth (aC h.Mail) q) (-1)<;>rw[p]at b
  ·repeat'(first|refine gD ?_|(conv=>whnf);first|with_reducible refine CA (aa d) ?_|refine CG rfl (aa d) rfl ?_|refine C6 b ?_)
   exact T0 (λz=>[B z]) ((Gw (dU d p)).symm)
  ·repeat'(first|refine gD ?_|(conv=>whnf);first|with_reducible refine CA (aa d) ?_|refine CG rfl (aa d) rfl ?_|refine C6 b ?_|refine CN bW (λr u=>by rw[Z0.1 u];rfl) (by simp[aU,d4]) (by simp;omega) (by show _*8<=_;simp;omega) rfl ?_)
   ((conv=>whnf)
    refine CB (q+1,e++[nth (aC h.Mail) q]) ⟨(by simp only;omega),(by simp only;rw[l,O4,d,Q4];rfl),cv d aq6 p⟩ (by simp only;omega) ?_
    (repeat'(first|exact trivial|rfl|exact CI rfl (CI (T0 (C.s d7.own) (by simp[rI])) trivial)|refine CI ?_ ?_)))
 obtain rfl:q=(aC h.Mail).length:=ω
 rw[v4]at l aq6;have F:e=holders h:=by rw[l,g,n,M];rfl
 have K:gh h=true:=by unfold gh;rw[U,Z,aq6];rfl
 have hbig:e.length<=100000000:=ω
 clear l g n M hSl hl5 P hl6
 repeat'(first|refine gD ?_|fail)
 (conv=>whnf)
 refine Lp.fz 3 (ι:=Nat) (λi=>[(1,.hold .box (ab.enc .imm h)),(3,.hold .one (aD .imm e)),(12,.hold .one [I ((i:Nat):Int)])]) (λi=>i<=e.length/\(e.take i).Nodup) (λi=>e.length - i) 0 ?_ ⟨R0 _,by simp⟩ λi E=>?_
 ·(repeat'(first|exact trivial|rfl|exact CI rfl (show JF (dy (aD .own e)) (aD .imm e) by rw[cW];exact lG _)|refine CI ?_ ?_))
 obtain⟨E,L⟩:=E;by_cases Y:i<e.length
 ·have d:=ah Y
  have htl:(e.take i).length=i:=by rw[I1];omega
  repeat'(first|refine gD ?_|(conv=>whnf);first|with_reducible (first|refine CA (aa d) ?_|refine Bf.D (λQ=>?_) (λQ=>?_))|refine CS i rfl (by simp;omega) (λr u=>by obtain⟨z,-,rfl⟩:=T3.1 u;rfl) (Q3 ..) ?_|refine C6 (lB (e.take i) _ ω) ?_)
  all_goals first
   | exact T0 (λz=>[B z]) ((by rw[F]at *;exact(GN (by assumption) (by assumption)).symm))
   | ((conv=>whnf);refine CB (i+1) ⟨ω,by rw[O4,d];exact jQ L (by assumption)⟩ ω ?_;(exact wB))
 ·obtain rfl:i=e.length:=ω
  rw[v4]at L;have hlv:=xT h.Spans h.Larges 512
  repeat'(first|refine gD ?_|(conv=>whnf);first|refine C6 (wl h.Spans h.Larges N O y) ?_)
  exact T0 (λz=>[B z]) ((by unfold ik;rw[K,<-F,O0 L,Bool.true_and,Bool.true_and];rw[Y3,beq_iff_eq,C0];unfold fI at *;omega))
set_option maxHeartbeats 8000000
def df(h:ab):Bool:=(bz h.Mail&&decide (h.Caches.length=h.Mail.Buffers.length))&&eZ h.Quar
def dD(h:ab):Bool:=((((((lf h&&rk h)&&df h)&&kM h)&&h.Caches.all bm)&&cb h)&&(ee h&&ik h))&&tF h
theorem Dk(h:ab)(hs:ab.sml h)(hw:ab.wf h):ao Tryz.prog 125 false [.val (some 24) (ab.enc .imm h)] .one [B (dD h)]:=by
 have R:=hs;have S:=hw;obtain⟨w,y,b,l,T,C,E,F,G⟩:=hs;obtain⟨-,-,-,-,U,hwc,hwm,hwq,-⟩:=hw;have n:xl h:=w.1.2;have hpn:dQ h<=1048576:=n.1;have V:h.Objs.length<=1048576:=T.1;have W:h.Caches.length<=1048576:=C.1;have hlq:h.Quar.Lst.length<=1048576:=F.1;have hlb:h.Mail.Buffers.length<=1048576:=E.1.1;have d:=kU h.Kernel w;have e:=kT (dQ h) h.Free ⟨ω,ω⟩ y;have g:=kP h.Spans h.Larges b l;have r:=An h b n;have H:=kz h.Mail E;have X:=nK h.Quar F;cases Y:aB h.Kernel<;>rw[Y]at d
 ·refine fO 150 [(8,10,[67,68,69,70,71,72,73,74,75,76])] Tryz.func125 rfl ?_
  repeat'(first|refine gO ?_|(conv=>whnf);first|with_reducible refine Bf.N (λa=>?_) (λa=>?_)|refine C6 d ?_)
  all_goals first
   | exact T0 (λz=>[B z]) ((by unfold dD lf;rw[Y];simp))
   |(exfalso;omega)
 cases Z:bv (dQ h) h.Free<;>rw[Z]at e
 ·refine fO 150 [(8,10,[67,68,69,70,71,72,73,74,75,76])] Tryz.func125 rfl ?_
  repeat'(first|refine gO ?_|(conv=>whnf);first|with_reducible refine Bf.N (λa=>?_) (λa=>?_)|refine C6 d ?_|refine C6 e ?_)
  all_goals first
   | exact T0 (λz=>[B z]) ((by unfold dD lf;rw[Z];simp))
   |(exfalso;omega)
 cases u:bc h.Spans h.Larges<;>rw[u]at g
 ·refine fO 150 [(8,10,[67,68,69,70,71,72,73,74,75,76])] Tryz.func125 rfl ?_
  repeat'(first|refine gO ?_|(conv=>whnf);first|with_reducible refine Bf.N (λa=>?_) (λa=>?_)|refine C6 d ?_|refine C6 e ?_|refine C6 g ?_)
  all_goals first
   | exact T0 (λz=>[B z]) ((by unfold dD lf;rw[u];simp))
   |(exfalso;omega)
 have p:=Bd h b l n y u;cases e4:pages0 h<;>rw[e4]at p
 ·refine fO 150 [(8,10,[67,68,69,70,71,72,73,74,75,76])] Tryz.func125 rfl ?_
  repeat'(first|refine gO ?_|(conv=>whnf);first|with_reducible refine Bf.N (λa=>?_) (λa=>?_)|refine C6 d ?_|refine C6 e ?_|refine C6 g ?_|refine C6 p ?_)
  all_goals first
   | exact T0 (λz=>[B z]) ((by unfold dD lf;rw[e4];simp))
   |(exfalso;omega)
 cases e5:rk h<;>rw[e5]at r
 ·refine fO 150 [(8,10,[67,68,69,70,71,72,73,74,75,76])] Tryz.func125 rfl ?_
  repeat'(first|refine gO ?_|(conv=>whnf);first|with_reducible refine Bf.N (λa=>?_) (λa=>?_)|refine C6 d ?_|refine C6 e ?_|refine C6 g ?_|refine C6 p ?_|refine C6 r ?_)
  all_goals first
   | exact T0 (λz=>[B z]) ((by unfold dD ;rw[e5];simp))
   |(exfalso;omega)
 cases Q:bz h.Mail<;>rw[Q]at H
 ·refine fO 150 [(8,10,[67,68,69,70,71,72,73,74,75,76])] Tryz.func125 rfl ?_
  repeat'(first|refine gO ?_|(conv=>whnf);first|with_reducible refine Bf.N (λa=>?_) (λa=>?_)|refine C6 d ?_|refine C6 e ?_|refine C6 g ?_|refine C6 p ?_|refine C6 r ?_|refine C6 H ?_)
  all_goals first
   | exact T0 (λz=>[B z]) ((by unfold dD df;rw[Q];simp))
   |(exfalso;omega)
 by_cases J:h.Caches.length=h.Mail.Buffers.length;rotate_left
 ·refine fO 150 [(8,10,[67,68,69,70,71,72,73,74,75,76])] Tryz.func125 rfl ?_
  repeat'(first|refine gO ?_|(conv=>whnf);first|with_reducible refine Bf.N (λa=>?_) (λa=>?_)|refine C6 d ?_|refine C6 e ?_|refine C6 g ?_|refine C6 p ?_|refine C6 r ?_|refine C6 H ?_)
  all_goals first
   | exact T0 (λz=>[B z]) ((by unfold dD df;rw[Q0 J];simp))
   |(exfalso;omega)
 cases e7:eZ h.Quar<;>rw[e7]at X
 ·refine fO 150 [(8,10,[67,68,69,70,71,72,73,74,75,76])] Tryz.func125 rfl ?_
  repeat'(first|refine gO ?_|(conv=>whnf);first|with_reducible refine Bf.N (λa=>?_) (λa=>?_)|refine C6 d ?_|refine C6 e ?_|refine C6 g ?_|refine C6 p ?_|refine C6 r ?_|refine C6 H ?_|refine C6 X ?_)
  all_goals first
   | exact T0 (λz=>[B z]) ((by unfold dD df;rw[e7];simp))
   |(exfalso;omega)
 have K:lf h=true:=by unfold lf;rw[Y,Z,u,e4];rfl
 have hmc:df h=true:=by unfold df;rw[Q,O0 J,e7];rfl
 refine fO 150 [(8,10,[67,68,69,70,71,72,73,74,75,76])] Tryz.func125 rfl ?_
 repeat'(first|refine gA ?_|(conv=>whnf);first|with_reducible refine Bf.N (λa=>?_) (λa=>?_)|refine C6 d ?_|refine C6 e ?_|refine C6 g ?_|refine C6 p ?_|refine C6 r ?_|refine C6 H ?_|refine C6 X ?_)
 all_goals try(exfalso;omega)
 (conv=>whnf)
 refine CD (ι:=Nat) (λi=>[(1,.hold .box (ab.enc .imm h)),(3,.hold .one [I ((i:Nat):Int)])]) (λi=>i<=h.Quar.Lst.length/\(h.Quar.Lst.take i).all (λx=>decide (x.Since<=h.Clock))=true) (λi=>h.Quar.Lst.length - i) (0) ?_ (⟨R0 _,rfl⟩) λi hi=>?_
 ·exact wB
 obtain⟨hi,ai⟩:=hi;by_cases li:i<h.Quar.Lst.length
 ·have j:=ah li
  repeat'(first|refine gD ?_|(conv=>whnf);first|with_reducible (first|refine CA (aa j) ?_|refine Bf.D (λa=>?_) (λa=>?_)))
  all_goals first
   | exact T0 (λz=>[B z]) ((by unfold dD kM;rw[dU j (Q0 ω)];simp))
   | ((conv=>whnf);refine CB (i+1) ⟨ω,cv j ai (O0 ω)⟩ ω ?_;(exact wB))
 have hsi:kM h=true:=gk ω ai
 repeat'(first|refine gD ?_|fail)
 (conv=>whnf)
 refine CD (ι:=Nat) (λk=>[(1,.hold .box (ab.enc .imm h)),(4,.hold .one [I ((k:Nat):Int)])]) (λk=>k<=h.Caches.length/\(h.Caches.take k).all bm=true) (λk=>h.Caches.length - k) (0) ?_ (⟨R0 _,rfl⟩) λk hk=>?_
 ·exact wB
 obtain⟨hk,ak⟩:=hk;by_cases lk:k<h.Caches.length
 ·have j:=ah lk
  have c8:=lX (nth h.Caches k) (C.2 _ (am lk));cases e8:bm (nth h.Caches k)<;>rw[e8]at c8
  ·repeat'(first|refine gD ?_|(conv=>whnf);first|with_reducible refine CA (aa j) ?_|refine C6 c8 ?_)
   exact T0 (λz=>[B z]) ((by unfold dD;rw[dU j e8];simp))
  ·repeat'(first|refine gD ?_|(conv=>whnf);first|with_reducible refine CA (aa j) ?_|refine C6 c8 ?_)
   ((conv=>whnf);refine CB (k+1) ⟨ω,cv j ak e8⟩ ω ?_;(exact wB))
 have L:h.Caches.all bm=true:=gk ω ak;have q:=Ew h b l u V W (λo ho=>(U.2 o ho).2.1);have c10:=Ea h R S u Q (I3.1 L);have c11:=Hu h.Job G;have c12:=vR h.Job G;have c13:=jd h h.Job.Plan.Keep b.1;have c14:=jd h h.Job.Plan.Move b.1;by_cases hn:cb h=true;rotate_left
 ·have M:cb h=false:=by simpa using hn
  have c:=M;unfold cb at c;rw[X3]at c;cases O:ee h<;>rw[O]at q<;>cases e10:ik h<;>rw[e10]at c10
  all_goals
   repeat'(first|refine gD ?_|(conv=>whnf);first|with_reducible refine Bf.D (λa=>?_) (λa=>?_)|refine C6 (aG _ _ _) ?_|refine C6 q ?_|refine C6 c10 ?_)
   all_goals first
    | exact T0 (λz=>[B z]) ((by unfold dD;rw[M];simp))
    |(exfalso;omega)
 have c:=hn;unfold cb at c;rw[C0]at c;cases O:ee h<;>rw[O]at q
 ·repeat'(first|refine gD ?_|(conv=>whnf);first|with_reducible refine Bf.D (λa=>?_) (λa=>?_)|refine C6 (aG _ _ _) ?_|refine C6 q ?_)
  all_goals first
   | exact T0 (λz=>[B z]) ((by unfold dD;rw[O];simp))
   |(exfalso;omega)
 cases e10:ik h<;>rw[e10]at c10
 ·repeat'(first|refine gD ?_|(conv=>whnf);first|with_reducible refine Bf.D (λa=>?_) (λa=>?_)|refine C6 (aG _ _ _) ?_|refine C6 q ?_|refine C6 c10 ?_)
  all_goals first
   | exact T0 (λz=>[B z]) ((by unfold dD;rw[e10];simp))
   |(exfalso;omega)
 have P:dD h=tF h:=by unfold dD;rw[K,e5,hmc,hsi,L,hn,O,e10];rfl
 rw[P];unfold tF;cases em:h.Meshing
 ·repeat'(first|refine gD ?_|(conv=>whnf);first|with_reducible refine Bf.D (λa=>?_) (λa=>?_)|refine C6 (aG _ _ _) ?_|refine C6 q ?_|refine C6 c10 ?_|refine C6 c11 ?_|refine Bf.f em ?_)
  all_goals first
   |rfl
   | exact T0 (λz=>[B z]) ((by simp;done))
   |(exfalso;omega)
 ·cases e12:jf h.Job<;>rw[e12]at c12
  all_goals
   repeat'(first|refine gD ?_|(conv=>whnf);first|with_reducible (first|refine Bf.D (λa=>?_) (λa=>?_)|refine Bf.D (λa=>?_) (λa=>?_))|refine C6 (aG _ _ _) ?_|refine C6 q ?_|refine C6 c10 ?_|refine C6 c12 ?_|refine C6 c13 ?_|refine C6 c14 ?_|refine Bf.t em ?_)
   all_goals first
    | exact T0 (λz=>[B z]) ((by grind))
    |(exfalso;omega)
set_option maxHeartbeats 4000000
def sorted(xs:List Int):List Int:=xs.mergeSort λx y=>decide (x<=y)
theorem vL(xs:List Int):(sorted xs).length=xs.length:=List.length_mergeSort ..
theorem Fc{w a:World}{g n:Nat}{d:Array Int}{f:Array Obj}{c:Array Value}{e:TypeId}{k:Nat × Nat}(l:w.heap[g]? = some (.cells c e k))(p:a=Sort.grow (Sort.putRow (Value.int .i64) (Sort.ahead w n) g 0 d) f) :
  a.os=w.os/\a.tape=w.tape/\a.output=w.output/\w.heap.size<=a.heap.size/\(∀b,b<w.heap.size->b≠g->a.heap[b]? = w.heap[b]?)/\a.heap[g]? = some (.cells (Sort.putCells (Value.int .i64) 0 d c) e k):=by
 subst p;have h:g<w.heap.size:=(X2.1 l).1;have o:∀b,b<w.heap.size->(Sort.grow (Sort.putRow (Value.int .i64) (Sort.ahead w n) g 0 d) f).heap[b]? = if g=b then(w.heap[b]?).map (Sort.onCells (Sort.putCells (Value.int .i64) 0 d)) else w.heap[b]?:=λb i=>by
  rw[Sort.heap_grow_old _ _ (by simpa[Sort.putRow,Sort.mapBlock,Sort.ahead] using i)];show(w.heap.modify g _)[b]? = _;rw[Array.getElem?_modify]
 refine⟨rfl,rfl,rfl,?_,λb i j=>?_,?_⟩
 ·show w.heap.size<=((w.heap.modify g _)++f).size
  simp
 ·rw[o b i,C7 λe=>j e.symm]
 ·rw[o g h,C8 rfl,l];rfl
theorem L2(d:Array Int)(c:Array Value)(q:Nat):(Sort.putCells (Value.int .i64) 0 d c)[q]? = if q<d.size then(c[q]?).map (λ_=>.int .i64 d[q]!) else c[q]?:=by
 unfold Sort.putCells;rw[Array.getElem?_mapIdx];by_cases h:q<d.size
 ·rw[C8 h]
  cases c[q]? with
  | none=>rfl
  | some y=>simp[h]
 ·rw[C7 h]
  cases c[q]? with
  | none=>rfl
  | some y=>simp[h]
theorem row1{w:World}{S Y:ac}{c:C}{v:Value}(h:dZ w S Y c v):cQ w S Y [c] (λ_=>v):=by
 refine⟨λ_=>Y,λj e a=>?_,λ_ _ _ _ h=>h,λj f a b d=>?_⟩
 ·cases j with
  | zero=>simp at a;subst a;exact h
  | succ j=>simp at a
 ·simp at a b;omega
def PC(Y:ac):Nat->ac
 | 0=>Y
 | _+1=>NO
theorem AA(xs:List Int){j:Nat}(a:j<xs.length):xs.toArray[j]! = xs[j]:=by
 rw[getElem!_pos xs.toArray j (by simpa using a)];simp
theorem Ms(xs:List Int)(hl:xs.length<=1048576*64):aQ Tryz.prog 175 false [.mut none (aD .own xs)] [.mut none (aD .own (sorted xs))] (.tup []) []:=by
 refine⟨⟨_,Tryz.func175,by kernel_rfl,by kernel_rfl⟩,λw S V vs hS hV hVV hA=>?_⟩
 match vs,hA with
 | [v],⟨hA,_⟩=>
  have E:=bT.rep1 (show bT w S (V 0) none [C.s .own (xs.map (rI .own))] v from hA);generalize D:C.s .own (xs.map (rI .own))=cc at E;cases E with
  | nil _ o a ho=>
   cases R:xs with
   | cons x xs'=>rw[R]at D;cases D
   | nil=>
    refine(Tryz.slices_Sort_int_none a 0 w).mono λe d ⟨he,G⟩=>?_
    subst G;refine⟨.tuple #[],he,CU _ _,NO,λ_=>NO,NO,λ_ _ h=>h.elim,λ_ _ _ h=>h.elim,λ_ _ h=>h.elim,λ_ _ _ _ _ h=>h.elim,λ_ _ _ h=>h.elim,λ_ _ h=>h.elim,λ_ _ _ h=>h.elim,⟨#[],rfl,trivial,rfl⟩,cQ.nil _ _ _ _,⟨⟨rfl,λ_=>.slice a 0 0,rfl,row1 (by rw[show sorted []=[] from List.mergeSort_nil ..];exact .nil _ .own _ trivial)⟩,trivial⟩⟩
  | own _ o g k n H rows u f ho O hk T U W hu hf hd hc=>
   cases D;have hnx:n=xs.length:=by rw[<-O,W0]
   have X:0<xs.length:=ω
   have hk1:k=1:=by
    have:=hk (rI .own xs[0]) (T3.2 ⟨_,List.getElem_mem X,rfl⟩);exact this.symm
   subst hk1 hnx;have t:∀j (y:j<xs.length),cel w g j=some (.int .i64 xs[j]):=λj y=>by
    have J:=hu j ω;have Y:=hc j 0 (rI .own xs[j]) (I xs[j]) (by rw[R2,U1 y];rfl) rfl;rw[Nat.mul_one,Nat.add_zero]at Y;rw[J];generalize u j=z at Y;cases Y
    rfl
   have hgs:g<w.heap.size:=(hV 0 g 0 (W 0 ω).1).1;obtain⟨c,e0,fr,hg,-⟩:=Sort.cells_of_cell? (t 0 X);have hH:Sort.Holds (Value.int .i64) w g 0 xs.toArray:=λj y=>by
    have Z:j<xs.length:=by simpa using y
    refine⟨?_,?_⟩
    ·rw[AA xs Z,C5];exact t j Z
    ·rw[C5];exact T0 Prod.fst (W j ω).2.2
   refine(Tryz.slices_Sort_int g 0 H xs w hH hgs ω).mono λe d ⟨he,m,os,G⟩=>?_
   obtain⟨q1,q2,q3,q4,q5,q6⟩:=Fc hg G;have hsl:=vL xs;have B:∀q,cel w g q=c[q]?:=λq=>by show World.cell? w _=_;unfold World.cell?;simp[hg]
   have l:∀q,cel d g q=if q<xs.length then(c[q]?).map (λ_=>.int .i64 (sorted xs).toArray[q]!) else c[q]?:=λq=>by
    have J:=L2 (sorted xs).toArray c q;have Y:(sorted xs).toArray.size=xs.length:=by simpa using hsl
    rw[Y]at J;rw[<-J];show World.cell? d _=_;unfold World.cell?;simp[q6,sorted]
   have p:∀q (P:q<xs.length),cel d g q=some (.int .i64 ((sorted xs)[q]'(ω))):=λq P=>by
    have J:=t q P;rw[B]at J;rw[l,C8 P,J,z4,AA (sorted xs) ω]
   have F:∀q,fro d g q=fro w g q:=λq=>by
    refine Prod.ext ?_ ?_
    ·show World.frozen? d _=World.frozen? w _
     unfold World.frozen?;simp[q6,hg]
    ·show mp d g=mp w g
     unfold mp;rw[q6,hg]
   have hother:∀b,b<w.heap.size->b≠g->∀o,cel d b o=cel w b o/\fro d b o=fro w b o:=λb K L o=>by
    have M:=q5 b K L;refine⟨?_,Prod.ext ?_ ?_⟩
    ·show World.cell? d _=World.cell? w _
     unfold World.cell?;simp only[M]
    ·show World.frozen? d _=World.frozen? w _
     unfold World.frozen?;simp only[M]
    ·show mp d b=mp w b
     unfold mp;rw[M]
   have N:bJ (λb o=>∃i,V i b o) w d:=by
    refine⟨q1,q2,q3,q4,λb K O=>q5 b K λe=>?_,λb o K O=>?_,λb o K O=>?_⟩
    ·subst e;exact O 0 ⟨0,(W 0 ω).1⟩
    ·by_cases e:b=g
     ·subst e
      have ho:¬o<xs.length:=λh=>O ⟨0,(W o ω).1⟩
      rw[l,C7 ho,B]
     ·exact(hother b K e o).1
    ·by_cases e:b=g
     ·subst e;exact F o
     ·exact(hother b K e o).2
   refine⟨.tuple #[],he,N,NO,PC (V 0),NO,λ_ _ h=>h.elim,λi b o h=>?_,λ_ _ h=>h.elim,λi i' L b o h h'=>?_,λ_ _ _ h=>h.elim,λ_ _ h=>h.elim,λ_ _ _ _ h=>h.elim,⟨#[],rfl,trivial,rfl⟩,cQ.nil _ _ _ _,⟨⟨rfl,λ_=>.slice (some ⟨g,0,none⟩) xs.length H,rfl,row1 ?_⟩,trivial⟩⟩
   ·cases i with
    | zero=>exact .inl ⟨0,h⟩
    | succ i=>exact h.elim
   ·cases i with
    | zero=>
     cases i' with
     | zero=>exact L rfl
     | succ i'=>exact h'.elim
    | succ i=>exact h.elim
   ·show dZ d _ (V 0) _ _
    refine .own _ .own g 1 xs.length H _ (λq=>(cel d g q).getD undef) (λ_=>NO) trivial (by rw[W0,hsl]) (λr hr=>by obtain⟨z,-,rfl⟩:=T3.1 hr;rfl) T U (λq P=>?_) (λq P=>?_) (λ_ _ _ _ h=>h.elim) (λ_ _ _ _ _ _ _ h=>h.elim) (λi j r c2 Q y=>?_)
    ·obtain⟨a1,⟨z,a2,a3⟩,a4⟩:=W q P
     refine⟨a1,?_,(F q).trans a4⟩;by_cases hqx:q<xs.length
     ·exact⟨_,p q hqx,rfl⟩
     ·rw[l,C7 hqx,<-B];exact⟨z,a2,a3⟩
    ·rw[p q ω];rfl
    ·rw[R2]at Q
     have hil:i<(sorted xs).length:=by
      rcases Nat.lt_or_ge i (sorted xs).length with h|h
      ·exact h
      ·rw[W1 h]at Q;cases Q
     rw[U1 hil]at Q;simp only[z4,U0]at Q;subst Q
     match j,y with
     | 0,y=>
      simp only[rI,List.getElem?_cons_zero,U0]at y;subst y;simp only[Nat.mul_one,Nat.add_zero,p i ω,Option.getD_some];exact .v _ _ rfl
     | j+1,y=>simp[rI]at y
  | _=>cases D
set_option maxHeartbeats 8000000
def iw(s:au)(k:Nat):Int:=16*s.Page+(k:Nat)*csz s.Class
def dl(s:au)(n:Nat):List Int:=((List.range n).filter λk=>aS s.Bits (k:Nat)).map (iw s)
theorem z7{s:au}{n:Nat}(h:aS s.Bits (n:Nat)=true):dl s (n+1)=dl s n++[iw s n]:=by
 unfold dl;rw[List.range_succ,List.filter_append,R4];simp[h]
theorem Bm{s:au}{n:Nat}(h:aS s.Bits (n:Nat)=false):dl s (n+1)=dl s n:=by
 unfold dl;rw[List.range_succ,List.filter_append,R4];simp[h]
theorem qJ(s:au)(n:Nat):(dl s n).length<=n:=by
 unfold dl;rw[W0];exact Z3 (List.length_filter_le ..) (by simp)
def dY(sp:List au):List Int:=sp.flatMap λs=>dl s (slots s.Class).toNat
def live0(sp:List au)(la:List a8):List Int:=dY sp++la.map λl=>16*l.Page
def cT(sp:List au)(la:List a8):List Int:=sorted (live0 sp la)
theorem qD(k:Int):0<=slots k/\slots k<=16:=by
 unfold slots;(repeat' split)<;>decide
theorem rC{k:Int}(h:0<=k/\k<=3):slots k*csz k=16:=by
 obtain rfl|rfl|rfl|rfl:k=0\/k=1\/k=2\/k=3:=ω
 all_goals decide
theorem wy{sp:List au}{i:Nat}{s:au}(h:sp[i]? = some s):dY (sp.take (i+1))=dY (sp.take i)++dl s (slots s.Class).toNat:=by
 unfold dY;rw[O4,h,List.flatMap_append];simp
theorem xg(s:au)(k:Nat)(a:aX s=true)(i:(k:Int)<slots s.Class):ao Tryz.prog 174 false [.val (some 3) (au.enc .imm s),.val none [I (k:Nat)]] .one [I (iw s k)]:=by
 have b:=gW s;have c:=cm s.Class;have g:=iu s.Class;rw[a]at b;have d:=aE a;have j:=qD s.Class;rcases bO ⟨d.2.2.1,d.2.2.2⟩ with e|e|e|e<;>rw[e]at c
 all_goals
  refine fO 26 [(3,9,[17,18,19,20,21,22,23,24,25])] Tryz.func174 rfl ?_
  repeat'(first|refine gD ?_|(conv=>whnf);first|with_reducible refine Bf.D (λh=>?_) (λh=>?_)|refine C6 b ?_|refine C6 c ?_|refine C6 g ?_|refine C6 (aM _ 0 _) ?_)
  all_goals exact T0 (λz=>[I z]) (by unfold iw;rw[e];omega)
theorem ka(sp:List au)(la:List a8)(d:du sp)(e:dr la)(b:bc sp la=true):ao Tryz.prog 79 false [.val none (bX .imm sp),.val none (bS .imm la)] .one (aD .own (cT sp la)):=by
 have E:=d.1;have F:=e.1;have D:=kO sp la d e;rw[b]at D;obtain⟨p,G,-⟩:=cZ b;refine fP 56 [(175,[1])] [] Tryz.func79 rfl ?_ (.inr (bC _))
 repeat'(first|refine gO ?_|(conv=>whnf);first|refine C6 D ?_)
 (conv=>whnf)
 refine CD (ι:=Nat × List Int) (λi=>[(1,.hold .one (bS .imm la)),(5,.hold .one (aD .own i.2)),(16,.hold .one (bX .imm sp)),(17,.hold .one [I (sp.length)]),(18,.hold .one [I ((i.1:Nat):Int)])]) (λi=>i.1<=sp.length/\i.2=dY (sp.take i.1)/\i.2.length<=16*i.1) (λi=>sp.length - i.1) ((0,[])) ?_ (⟨R0 _,rfl,R0 _⟩) λi g=>?_
 ·exact wB
 obtain⟨i,S⟩:=i;obtain⟨g,n,H⟩:=g;simp only at g n H |-;by_cases o:i<sp.length
 ·have c:=ah o
  have h:aX (nth sp i)=true:=M1 p o;have J:=qD (nth sp i).Class;have q:=dL h
  repeat'(first|refine gD ?_|(conv=>whnf);first|with_reducible refine CA (aa c) ?_)
  (conv=>whnf)
  refine CD (ι:=Nat × List Int) (λk=>[(1,.hold .one (bS .imm la)),(5,.hold .one (aD .own k.2)),(7,.hold .box (au.enc .imm (nth sp i))),(8,.hold .one [I ((k.1:Nat):Int)]),(16,.hold .one (bX .imm sp)),(17,.hold .one [I (sp.length)]),(18,.hold .one [I ((i:Nat):Int)])]) (λk=>k.1<=(slots (nth sp i).Class).toNat/\k.2=S++dl (nth sp i) k.1) (λk=>(slots (nth sp i).Class).toNat - k.1) ((0,S)) ?_ (⟨R0 _,by simp[dl]⟩) λk t=>?_
  ·exact wB
  obtain⟨k,S2⟩:=k;obtain⟨t,a⟩:=t;simp only at t a |-;have K:=qJ (nth sp i) k;have j:S2.length=S.length+(dl (nth sp i) k).length:=by rw[a,U2]
  by_cases M:k<(slots (nth sp i).Class).toNat
  ·have u:=m7 (nth sp i).Bits (k:Nat) q.2
   cases w:aS (nth sp i).Bits (k:Nat)<;>rw[w]at u
   ·repeat'(first|refine gD ?_|(conv=>whnf);first|refine C6 (iu _) ?_|refine C6 u ?_)
    ((conv=>whnf);refine CB (k+1,S2) ⟨(by simp only;omega),(by simp only;rw[Bm w];exact a)⟩ (by simp only;omega) ?_;(exact wB))
   ·repeat'(first|refine gD ?_|(conv=>whnf);first|refine C6 (iu _) ?_|refine C6 u ?_|refine C6 (xg (nth sp i) k h ω) ?_|refine CN bW (λr y=>by rw[Z0.1 y];rfl) (by simp[aU,d4]) (by simp;omega) (by show _*8<=_;simp;omega) rfl ?_)
    ((conv=>whnf)
     refine CB (k+1,S2++[iw (nth sp i) k]) ⟨(by simp only;omega),(by simp only;rw[z7 w,a,Q4])⟩ (by simp only;omega) ?_
     (repeat'(first|exact trivial|rfl|exact CI rfl (CI (T0 (C.s d7.own) (by simp[rI])) trivial)|refine CI ?_ ?_)))
  ·obtain rfl:k=(slots (nth sp i).Class).toNat:=ω
   repeat'(first|refine gD ?_|(conv=>whnf);first|refine C6 (iu _) ?_)
   ((conv=>whnf);refine CB (i+1,S2) ⟨(by simp only;omega),(by simp only;rw[wy c,<-n,a]),(by simp only;omega)⟩ (by simp only;omega) ?_;(exact wB))
 obtain rfl:i=sp.length:=ω
 rw[v4]at n
 repeat'(first|refine gD ?_|fail)
 (conv=>whnf)
 refine CD (ι:=Nat × List Int) (λi=>[(5,.hold .one (aD .own i.2)),(40,.hold .one (bS .imm la)),(41,.hold .one [I (la.length)]),(42,.hold .one [I ((i.1:Nat):Int)])]) (λi=>i.1<=la.length/\i.2=S++(la.take i.1).map (λl=>16*l.Page)) (λi=>la.length - i.1) ((0,S)) ?_ (⟨R0 _,by simp⟩) λi g=>?_
 ·exact wB
 obtain⟨i,S2⟩:=i;obtain⟨B,a⟩:=g;simp only at B a |-;have j:S2.length=S.length+i:=by rw[a,U2,W0,I1];omega
 by_cases o:i<la.length
 ·have c:=ah o
  have L:=sA b c
  repeat'(first|refine gD ?_|(conv=>whnf);first|with_reducible refine CA (aa c) ?_|refine CN bW (λr y=>by rw[Z0.1 y];rfl) (by simp[aU,d4]) (by simp;omega) (by show _*8<=_;simp;omega) rfl ?_)
  ((conv=>whnf)
   refine CB (i+1,S2++[16*(nth la i).Page]) ⟨(by simp only;omega),(by simp only;rw[a,O4,c];simp)⟩ (by simp only;omega) ?_
   (repeat'(first|exact trivial|rfl|exact CI rfl (CI (T0 (C.s d7.own) (by simp[rI];omega)) trivial)|refine CI ?_ ?_)))
 obtain rfl:i=la.length:=ω
 rw[v4]at a
 repeat'(first|refine gD ?_|(conv=>whnf);first|refine CH (Ms S2 ω) (.inl rfl) ?_)
 show _=aD .own (sorted (dY sp++la.map λl=>16*l.Page));rw[<-n,<-a];rfl
def oW(b:List (Int × Value))(L:List Int):Prop:=∀a,mlook b a (.int .i64 0)=.int .i64 (L.count a:Nat)
theorem HA(f:List (Int × Value))(a b:Int)(v d:Value):mlook (mput f a v) b d=if a=b then v else mlook f b d:=by
 induction f with
 | nil=>simp only[mput,mlook]
 | cons p f g=>
  simp only[mput];by_cases h:p.1=a
  ·rw[C8 h]
   simp only[mlook];by_cases c:a=b
   ·rw[C8 c,C8 c]
   ·rw[C7 c,C7 c,C7 (by rw[h];exact c)]
  ·rw[C7 h]
   simp only[mlook];by_cases c:p.1=b
   ·rw[C8 c,C8 c,C7 (λe=>h (c.trans e.symm))]
   ·rw[C7 c,C7 c,g]
def inc(b:List (Int × Value))(L:List Int)(a:Int):List (Int × Value):=mput b a (.int .i64 ((L.count a:Nat)+1))
theorem He:oW [] []:=λ_=>rfl
theorem ow{d:List (Int × Value)}{L:List Int}(h:oW d L)(a:Int):oW (inc d L a) (L++[a]):=λb=>by
 unfold inc;rw[HA,V4];by_cases c:a=b
 ·subst c;rw[C8 rfl,List.count_singleton_self];simp
 ·rw[C7 c,h b,List.count_singleton,C7 (by simpa using c)];rfl
theorem zv(h:ab)(d:du h.Spans)(e:dr h.Larges)(b:List (Int × Value))(L:List Int)(a c:Int)(g:oW b L)(n:L.length<=1000000000) :
  aQ Tryz.prog 170 false [.val none [I a],.val none [I c],.ptr [.m b],.ptr (ab.enc .imm h)] [.val none [I a],.val none [I c],.ptr [.m (inc b L a)],.ptr (ab.enc .imm h)] .one [B (cU h a c)]:=by
 have k:=lR h.Spans h.Larges a d e;obtain⟨i,-⟩:=mg h.Spans h.Larges a;have l:L.count a<=L.length:=List.count_le_length;unfold cU;generalize denotes h.Spans h.Larges a=w at k i |-;refine fM 41 [] [] [(0,0),(0,0),(0,0),(0,0)] Tryz.func170 rfl (λu q=>?_)
 repeat'(first|refine gO ?_|(conv=>whnf);first|with_reducible (first|refine Bf.D (λj=>?_) (λj=>?_)|refine Bf.E (λj=>?_) (λj=>?_))|refine Ml.mk (g a) ?_|refine Mu.mk (es':=inc b L a) rfl ?_|refine C6 k ?_|refine CK (i (by assumption)).1 (aa (ah (i (by assumption)).2)) ?_)
 all_goals
  refine CE rfl ?_ ?_
  ·exact T0 (λz=>[B z]) ((by grind))
  ·exact wB
set_option maxHeartbeats 8000000
def qE(h:ab)(a:aL):Bool:=gB h a&&decide (a.Since<=h.Clock)
def lO(h:ab):List Int:=((bQ h++h.Quar.Lst.map (·.Addr))++aC h.Mail)++h.Objs.map (·.Addr)
def je(h:ab):Bool:=((h.Caches.all (ec h)&&h.Quar.Lst.all (qE h))&&(aC h.Mail).all (iP h))&&(cT h.Spans h.Larges).all λa=>decide ((lO h).count a=1)
theorem LE{h:ab}(h1:h.Caches.all (ec h)=false):je h=false:=by unfold je;rw[h1];rfl
theorem F6{h:ab}(h1:h.Quar.Lst.all (qE h)=false):je h=false:=by unfold je;rw[h1];simp
theorem Mz{h:ab}(h1:(aC h.Mail).all (iP h)=false):je h=false:=by unfold je;rw[h1];simp
theorem Mp{h:ab}(h1:((cT h.Spans h.Larges).all λa=>decide ((lO h).count a=1))=false):je h=false:=by unfold je;rw[h1];simp
theorem y4{sp:List au}{la:List a8}(h1:sp.length<=1048576)(b:la.length<=1048576):(cT sp la).length<=100000000:=by
 have a:∀(l:List au),(dY l).length<=16*l.length:=by
  intro l
  induction l with
  | nil=>exact R0 _
  | cons s l c=>
   have e:dY (s::l)=dl s (slots s.Class).toNat++dY l:=by unfold dY;rw[v5]
   have d:=qD s.Class;have f:=qJ s (slots s.Class).toNat;rw[e,U2,List.length_cons];omega
 have g:=a sp;unfold cT live0;rw[vL,U2,W0];omega
theorem wT(h:ab)(hs:ab.sml h)(S:bc h.Spans h.Larges=true)(M:bz h.Mail=true)(hco:∀c∈h.Caches,bm c=true):ao Tryz.prog 74 false [.val (some 24) (ab.enc .imm h)] .one [B (je h)]:=by
 obtain⟨-,-,t,u,hso,hsc,hsm,hsq,-⟩:=hs;have hlo:h.Objs.length<=1048576:=hso.1;have hlc:h.Caches.length<=1048576:=hsc.1;have hlq:h.Quar.Lst.length<=1048576:=hsq.1;have hfl:=io M;have w:je h=false->[B false]=[B (je h)]:=λe=>by rw[e]
 refine fP 114 [(170,[0,0,2,2])] [] Tryz.func74 rfl ?_
 repeat'(first|refine gO ?_|fail)
 (conv=>whnf)
 refine CD (ι:=Nat × List (Int × Value) × List Int) (λi=>[(1,.hold .box (ab.enc .imm h)),(3,.hold .box [.m i.2.1]),(4,.fn 170 [3,1]),(22,.hold .one (fL .imm h.Caches)),(23,.hold .one [I (h.Caches.length)]),(24,.hold .one [I ((i.1:Nat):Int)])]) (λi=>i.1<=h.Caches.length/\oW i.2.1 i.2.2/\i.2.2=((h.Caches.take i.1).flatMap λc=>c.Lists.flatten)/\(h.Caches.take i.1).all (ec h)=true/\i.2.2.length<=32*i.1) (λi=>h.Caches.length - i.1) ((0,[],[])) ?_ (⟨R0 _,He,rfl,rfl,R0 _⟩) λi hi=>?_
 ·exact wB
 obtain⟨i,es,L⟩:=i;obtain⟨hi,O,X,Y,hb⟩:=hi;simp only at hi O X Y hb |-;by_cases li:i<h.Caches.length
 ·have T:=ah li
  obtain⟨h4,h8⟩:=kv (hco _ (am li))
  repeat'(first|refine gD ?_|(conv=>whnf);first|with_reducible refine CA (aa T) ?_)
  (conv=>whnf)
  refine CD (ι:=Nat × List (Int × Value) × List Int) (λk=>[(1,.hold .box (ab.enc .imm h)),(3,.hold .box [.m k.2.1]),(4,.fn 170 [3,1]),(22,.hold .one (fL .imm h.Caches)),(23,.hold .one [I (h.Caches.length)]),(24,.hold .one [I ((i:Nat):Int)]),(29,.hold .one (ir .imm (nth h.Caches i).Lists)),(30,.hold .one [I ((nth h.Caches i).Lists.length)]),(31,.hold .one [I ((k.1:Nat):Int)])]) (λk=>k.1<=(nth h.Caches i).Lists.length/\oW k.2.1 k.2.2/\k.2.2=L++((nth h.Caches i).Lists.take k.1).flatten/\cE k.1 (qr h (nth h.Caches i))=true/\k.2.2.length<=L.length+8*k.1) (λk=>(nth h.Caches i).Lists.length - k.1) ((0,es,L)) ?_ (⟨R0 _,O,by simp,rfl,by simp⟩) λk hk=>?_
  ·exact wB
  obtain⟨k,es3,Z⟩:=k;obtain⟨hk,y,K,ak,hb3⟩:=hk;simp only at hk y K ak hb3 |-;by_cases lk:k<(nth h.Caches i).Lists.length
  ·have hy:=ah lk
   have hl8:=h8 _ (am lk)
   repeat'(first|refine gD ?_|(conv=>whnf);first|with_reducible (first|refine CA (aa T) ?_|refine CA (aa hy) ?_))
   (conv=>whnf)
   refine CD (ι:=Nat × List (Int × Value) × List Int) (λj=>[(1,.hold .box (ab.enc .imm h)),(3,.hold .box [.m j.2.1]),(4,.fn 170 [3,1]),(7,.hold .one [I ((k:Nat):Int)]),(22,.hold .one (fL .imm h.Caches)),(23,.hold .one [I (h.Caches.length)]),(24,.hold .one [I ((i:Nat):Int)]),(29,.hold .one (ir .imm (nth h.Caches i).Lists)),(30,.hold .one [I ((nth h.Caches i).Lists.length)]),(31,.hold .one [I ((k:Nat):Int)]),(36,.hold .one (aD .imm (nth (nth h.Caches i).Lists k))),(37,.hold .one [I ((nth (nth h.Caches i).Lists k).length)]),(38,.hold .one [I ((j.1:Nat):Int)])]) (λj=>j.1<=(nth (nth h.Caches i).Lists k).length/\oW j.2.1 j.2.2/\j.2.2=Z++(nth (nth h.Caches i).Lists k).take j.1/\((nth (nth h.Caches i).Lists k).take j.1).all (λa=>cU h a (k:Nat))=true) (λj=>(nth (nth h.Caches i).Lists k).length - j.1) ((0,es3,Z)) ?_ (⟨R0 _,y,by simp,rfl⟩) λj hj=>?_
   ·exact wB
   obtain⟨j,es4,U⟩:=j;obtain⟨hj,l,C,aj⟩:=hj;simp only at hj l C aj |-;have hl4:U.length=Z.length+j:=by rw[C,U2,I1];omega
   by_cases lj:j<(nth (nth h.Caches i).Lists k).length
   ·have d:=ah lj
    have b:=zv h t u es4 U (nth (nth (nth h.Caches i).Lists k) j) (k:Nat) l ω;cases r:cU h (nth (nth (nth h.Caches i).Lists k) j) (k:Nat)<;>rw[r]at b
    ·repeat'(first|refine gD ?_|(conv=>whnf);first|with_reducible refine CA (aa d) ?_|refine CH (b) (.inl rfl) ?_)
     exact w (LE (dU T (by unfold ec;exact cg lk (dU d r))))
    ·repeat'(first|refine gD ?_|(conv=>whnf);first|with_reducible refine CA (aa d) ?_|refine CH (b) (.inl rfl) ?_)
     ((conv=>whnf)
      refine CB (j+1,inc es4 U (nth (nth (nth h.Caches i).Lists k) j),U++[nth (nth (nth h.Caches i).Lists k) j]) ⟨(by simp only;omega),ow l _,(by simp only;rw[C,O4,d,Q4];rfl),cv d aj r⟩ (by simp only;omega) ?_
      (exact wA))
   ·obtain rfl:j=(nth (nth h.Caches i).Lists k).length:=ω
    rw[v4]at C aj
    repeat'(first|refine gD ?_|fail)
    ((conv=>whnf);refine CB (k+1,es4,U) ⟨(by simp only;omega),l,(by simp only;rw[C,K,vt hy,Q4]),bL ak aj,(by simp only;omega)⟩ (by simp only;omega) ?_;(exact wB))
  ·obtain rfl:k=(nth h.Caches i).Lists.length:=ω
   rw[v4]at K
   repeat'(first|refine gD ?_|fail)
   ((conv=>whnf);refine CB (i+1,es3,Z) ⟨(by simp only;omega),y,(by simp only;rw[K,X,tz T]),cv T Y ak,(by simp only;omega)⟩ (by simp only;omega) ?_;(exact wB))
 obtain rfl:i=h.Caches.length:=ω
 rw[v4]at X Y
 repeat'(first|refine gD ?_|fail)
 (conv=>whnf)
 refine CD (ι:=Nat × List (Int × Value) × List Int) (λq=>[(1,.hold .box (ab.enc .imm h)),(3,.hold .box [.m q.2.1]),(4,.fn 170 [3,1]),(52,.hold .one (cA .imm h.Quar.Lst)),(53,.hold .one [I (h.Quar.Lst.length)]),(54,.hold .one [I ((q.1:Nat):Int)])]) (λq=>q.1<=h.Quar.Lst.length/\oW q.2.1 q.2.2/\q.2.2=L++(h.Quar.Lst.take q.1).map (·.Addr)/\(h.Quar.Lst.take q.1).all (qE h)=true) (λq=>h.Quar.Lst.length - q.1) ((0,es,L)) ?_ (⟨R0 _,O,by simp,rfl⟩) λq E=>?_
 ·exact wB
 obtain⟨q,es5,P⟩:=q;obtain⟨F,o,G,aq⟩:=E;simp only at F o G aq |-;have hl5:P.length=L.length+q:=by rw[G,U2,W0,I1];omega
 by_cases V:q<h.Quar.Lst.length
 ·have d:=ah V
  have b:=zv h t u es5 P (nth h.Quar.Lst q).Addr (nth h.Quar.Lst q).Class o ω;cases r:cU h (nth h.Quar.Lst q).Addr (nth h.Quar.Lst q).Class<;>rw[r]at b
  ·repeat'(first|refine gD ?_|(conv=>whnf);first|with_reducible (first|refine CA (aa d) ?_|refine Bf.D (λE=>?_) (λE=>?_))|refine CH (b) (.inl rfl) ?_)
   all_goals exact w (F6 (dU d (by unfold qE gB;rw[r];rfl)))
  ·repeat'(first|refine gD ?_|(conv=>whnf);first|with_reducible (first|refine CA (aa d) ?_|refine Bf.D (λE=>?_) (λE=>?_))|refine CH (b) (.inl rfl) ?_)
   all_goals first
    |exact w (F6 (dU d (by unfold qE gB;rw[r,Q0 ω];rfl)))
    | ((conv=>whnf)
       refine CB (q+1,inc es5 P (nth h.Quar.Lst q).Addr,P++[(nth h.Quar.Lst q).Addr]) ⟨(by simp only;omega),ow o _,(by simp only;rw[G,O4,d,R4,Q4];rfl),cv d aq (by unfold qE gB;rw[r,O0 ω];rfl)⟩ (by simp only;omega) ?_
       (exact wA))
 obtain rfl:q=h.Quar.Lst.length:=ω
 rw[v4]at G aq
 repeat'(first|refine gD ?_|(conv=>whnf);first|refine C6 (iR h.Mail hsm) ?_)
 (conv=>whnf)
 refine CD (ι:=Nat × List (Int × Value) × List Int) (λq=>[(1,.hold .box (ab.enc .imm h)),(3,.hold .box [.m q.2.1]),(4,.fn 170 [3,1]),(75,.hold .one (aD .own (aC h.Mail))),(76,.hold .one [I ((aC h.Mail).length)]),(77,.hold .one [I ((q.1:Nat):Int)])]) (λq=>q.1<=(aC h.Mail).length/\oW q.2.1 q.2.2/\q.2.2=P++(aC h.Mail).take q.1/\((aC h.Mail).take q.1).all (iP h)=true) (λq=>(aC h.Mail).length - q.1) ((0,es5,P)) ?_ (⟨R0 _,o,by simp,rfl⟩) λq E=>?_
 ·exact wB
 obtain⟨q,es6,Q⟩:=q;obtain⟨F,p,H,aq6⟩:=E;simp only at F p H aq6 |-;have hl6:Q.length=P.length+q:=by rw[H,U2,I1];omega
 by_cases V:q<(aC h.Mail).length
 ·have d:=ah V
  have b:=zv h t u es6 Q (nth (aC h.Mail) q) (-1) p ω;cases r:cU h (nth (aC h.Mail) q) (-1)<;>rw[r]at b
  ·repeat'(first|refine gD ?_|(conv=>whnf);first|with_reducible refine CA (aa d) ?_|refine CG rfl (aa d) rfl ?_|refine CH (b) (.inl rfl) ?_)
   exact w (Mz (dU d r))
  ·repeat'(first|refine gD ?_|(conv=>whnf);first|with_reducible refine CA (aa d) ?_|refine CG rfl (aa d) rfl ?_|refine CH (b) (.inl rfl) ?_)
   ((conv=>whnf)
    refine CB (q+1,inc es6 Q (nth (aC h.Mail) q),Q++[nth (aC h.Mail) q]) ⟨(by simp only;omega),ow p _,(by simp only;rw[H,O4,d,Q4];rfl),cv d aq6 r⟩ (by simp only;omega) ?_
    (exact wA))
 obtain rfl:q=(aC h.Mail).length:=ω
 rw[v4]at H aq6
 repeat'(first|refine gD ?_|fail)
 (conv=>whnf)
 refine CD (ι:=Nat × List (Int × Value) × List Int) (λq=>[(1,.hold .box (ab.enc .imm h)),(3,.hold .box [.m q.2.1]),(87,.hold .one (mN .imm h.Objs)),(88,.hold .one [I (h.Objs.length)]),(89,.hold .one [I ((q.1:Nat):Int)])]) (λq=>q.1<=h.Objs.length/\oW q.2.1 q.2.2/\q.2.2=Q++(h.Objs.take q.1).map (·.Addr)) (λq=>h.Objs.length - q.1) ((0,es6,Q)) ?_ (⟨R0 _,p,by simp⟩) λq E=>?_
 ·exact wB
 obtain⟨q,es7,R⟩:=q;obtain⟨F,g,J⟩:=E;simp only at F g J |-;have hl7:R.length=Q.length+q:=by rw[J,U2,W0,I1];omega
 by_cases V:q<h.Objs.length
 ·have d:=ah V
  have hcl:R.count (nth h.Objs q).Addr<=R.length:=List.count_le_length
  repeat'(first|refine gD ?_|(conv=>whnf);first|with_reducible refine CA (aa d) ?_|refine Ml.mk (g _) ?_|refine Mu.mk (es':=inc es7 R (nth h.Objs q).Addr) rfl ?_)
  ((conv=>whnf)
   refine CB (q+1,inc es7 R (nth h.Objs q).Addr,R++[(nth h.Objs q).Addr]) ⟨(by simp only;omega),ow g _,(by simp only;rw[J,O4,d,R4,Q4];rfl)⟩ (by simp only;omega) ?_
   (exact wA))
 obtain rfl:q=h.Objs.length:=ω
 rw[v4]at J;have W:R=lO h:=by rw[J,H,G,X];rfl
 have hlv:=y4 t.1 u.1
 repeat'(first|refine gD ?_|(conv=>whnf);first|refine C6 (ka h.Spans h.Larges t u S) ?_)
 (conv=>whnf)
 refine CD (ι:=Nat) (λn=>[(3,.hold .box [.m es7]),(103,.hold .one (aD .own (cT h.Spans h.Larges))),(104,.hold .one [I ((cT h.Spans h.Larges).length)]),(105,.hold .one [I ((n:Nat):Int)])]) (λn=>n<=(cT h.Spans h.Larges).length/\((cT h.Spans h.Larges).take n).all (λa=>decide ((lO h).count a=1))=true) (λn=>(cT h.Spans h.Larges).length - n) (0) ?_ (⟨R0 _,rfl⟩) λn hn=>?_
 ·exact wB
 obtain⟨hn,an⟩:=hn;by_cases ln:n<(cT h.Spans h.Larges).length
 ·have d:=ah ln
  rw[W]at g
  repeat'(first|refine gD ?_|(conv=>whnf);first|with_reducible (first|refine CA (aa d) ?_|refine Bf.N (λE=>?_) (λE=>?_))|refine CG rfl (aa d) rfl ?_|refine Ml.mk (g _) ?_)
  all_goals first
   |exact w (Mp (dU d (Q0 ω)))
   | ((conv=>whnf);refine CB (n+1) ⟨ω,cv d an (O0 ω)⟩ ω ?_;(exact wB))
 ·repeat'(first|refine gD ?_|fail)
  exact T0 (λz=>[B z]) ((by unfold je;rw[Y,aq,aq6,gk ω an];rfl))
set_option maxHeartbeats 8000000
def jv(h:ab):Bool:=(((((((aB h.Kernel&&bv (dQ h) h.Free)&&bc h.Spans h.Larges)&&(pages0 h&&mS h))&&df h)&&h.Caches.all bm)&&(ee h&&je h))&&cb h)&&tF h
theorem B3(h:ab)(hs:ab.sml h):ao Tryz.prog 20 false [.val (some 24) (ab.enc .imm h)] .one [B (jv h)]:=by
 have L:=hs;obtain⟨n,o,b,g,M,p,q,O,r⟩:=hs;have u:xl h:=n.1.2;have hpn:dQ h<=1048576:=u.1;have P:h.Objs.length<=1048576:=M.1;have Q:h.Caches.length<=1048576:=p.1;have hlb:h.Mail.Buffers.length<=1048576:=q.1.1;have hlp:h.Job.Plan.Cells.length<=1048576:=r;have d:=xw h.Kernel n;have e:=xo (dQ h) h.Free ⟨ω,ω⟩ o;have i:=kO h.Spans h.Larges b g;have w:=tc h.Mail q;have R:=Db h.Quar O;cases S:aB h.Kernel<;>rw[S]at d
 ·refine fO 154 [] Tryz.func20 rfl ?_
  repeat'(first|refine gO ?_|(conv=>whnf);first|with_reducible refine Bf.N (λa=>?_) (λa=>?_)|refine C6 d ?_)
  all_goals first
   | exact T0 (λz=>[B z]) ((by unfold jv ;rw[S];simp))
   |(exfalso;omega)
 cases T:bv (dQ h) h.Free<;>rw[T]at e
 ·refine fO 154 [] Tryz.func20 rfl ?_
  repeat'(first|refine gO ?_|(conv=>whnf);first|with_reducible refine Bf.N (λa=>?_) (λa=>?_)|refine C6 d ?_|refine C6 e ?_)
  all_goals first
   | exact T0 (λz=>[B z]) ((by unfold jv ;rw[T];simp))
   |(exfalso;omega)
 cases y:bc h.Spans h.Larges<;>rw[y]at i
 ·refine fO 154 [] Tryz.func20 rfl ?_
  repeat'(first|refine gO ?_|(conv=>whnf);first|with_reducible refine Bf.N (λa=>?_) (λa=>?_)|refine C6 d ?_|refine C6 e ?_|refine C6 i ?_)
  all_goals first
   | exact T0 (λz=>[B z]) ((by unfold jv ;rw[y];simp))
   |(exfalso;omega)
 have j:=zm h b g u o y;cases U:(pages0 h&&mS h)<;>rw[U]at j
 ·refine fO 154 [] Tryz.func20 rfl ?_
  repeat'(first|refine gO ?_|(conv=>whnf);first|with_reducible refine Bf.N (λa=>?_) (λa=>?_)|refine C6 d ?_|refine C6 e ?_|refine C6 i ?_|refine C6 j ?_)
  all_goals first
   | exact T0 (λz=>[B z]) ((by unfold jv ;rw[U];simp))
   |(exfalso;omega)
 cases J:bz h.Mail<;>rw[J]at w
 ·refine fO 154 [] Tryz.func20 rfl ?_
  repeat'(first|refine gO ?_|(conv=>whnf);first|with_reducible refine Bf.N (λa=>?_) (λa=>?_)|refine C6 d ?_|refine C6 e ?_|refine C6 i ?_|refine C6 j ?_|refine C6 w ?_)
  all_goals first
   | exact T0 (λz=>[B z]) ((by unfold jv df;rw[J];simp))
   |(exfalso;omega)
 by_cases C:h.Caches.length=h.Mail.Buffers.length;rotate_left
 ·refine fO 154 [] Tryz.func20 rfl ?_
  repeat'(first|refine gO ?_|(conv=>whnf);first|with_reducible refine Bf.N (λa=>?_) (λa=>?_)|refine C6 d ?_|refine C6 e ?_|refine C6 i ?_|refine C6 j ?_|refine C6 w ?_)
  all_goals first
   | exact T0 (λz=>[B z]) ((by unfold jv df;rw[Q0 C];simp))
   |(exfalso;omega)
 cases V:eZ h.Quar<;>rw[V]at R
 ·refine fO 154 [] Tryz.func20 rfl ?_
  repeat'(first|refine gO ?_|(conv=>whnf);first|with_reducible refine Bf.N (λa=>?_) (λa=>?_)|refine C6 d ?_|refine C6 e ?_|refine C6 i ?_|refine C6 j ?_|refine C6 w ?_|refine C6 R ?_)
  all_goals first
   | exact T0 (λz=>[B z]) ((by unfold jv df;rw[V];simp))
   |(exfalso;omega)
 have W:df h=true:=by unfold df;rw[J,O0 C,V];rfl
 refine fO 154 [] Tryz.func20 rfl ?_
 repeat'(first|refine gA ?_|(conv=>whnf);first|with_reducible refine Bf.N (λa=>?_) (λa=>?_)|refine C6 d ?_|refine C6 e ?_|refine C6 i ?_|refine C6 j ?_|refine C6 w ?_|refine C6 R ?_)
 all_goals try(exfalso;omega)
 (conv=>whnf)
 refine CD (ι:=Nat) (λk=>[(1,.hold .box (ab.enc .imm h)),(57,.hold .one (fL .imm h.Caches)),(58,.hold .one [I (h.Caches.length)]),(59,.hold .one [I ((k:Nat):Int)])]) (λk=>k<=h.Caches.length/\(h.Caches.take k).all bm=true) (λk=>h.Caches.length - k) (0) ?_ (⟨R0 _,rfl⟩) λk hk=>?_
 ·exact wB
 obtain⟨hk,ak⟩:=hk;by_cases lk:k<h.Caches.length
 ·have K:=ah lk
  have X:=mA (nth h.Caches k) (p.2 _ (am lk));cases Y:bm (nth h.Caches k)<;>rw[Y]at X
  ·repeat'(first|refine gD ?_|(conv=>whnf);first|with_reducible refine CA (aa K) ?_|refine C6 X ?_)
   exact T0 (λz=>[B z]) ((by unfold jv;rw[dU K Y];simp))
  ·repeat'(first|refine gD ?_|(conv=>whnf);first|with_reducible refine CA (aa K) ?_|refine C6 X ?_)
   ((conv=>whnf);refine CB (k+1) ⟨ω,cv K ak Y⟩ ω ?_;(exact wB))
 have F:h.Caches.all bm=true:=gk ω ak;have l:=Dx h b g P Q;have c10:=wT h L y J (I3.1 F);have c12:=DN h.Job r;have c13:=ta h h.Job.Plan.Keep b.1;have c14:=ta h h.Job.Plan.Move b.1;cases Z:ee h<;>rw[Z]at l
 ·repeat'(first|refine gD ?_|(conv=>whnf);first|refine C6 l ?_)
  all_goals first
   | exact T0 (λz=>[B z]) ((by unfold jv;rw[Z];simp))
   |(exfalso;omega)
 cases e10:je h<;>rw[e10]at c10
 ·repeat'(first|refine gD ?_|(conv=>whnf);first|refine C6 l ?_|refine C6 c10 ?_)
  all_goals first
   | exact T0 (λz=>[B z]) ((by unfold jv;rw[e10];simp))
   |(exfalso;omega)
 by_cases hn:cb h=true;rotate_left
 ·have G:cb h=false:=by simpa using hn
  have c:=G;unfold cb at c;rw[X3]at c
  repeat'(first|refine gD ?_|(conv=>whnf);first|with_reducible refine Bf.D (λa=>?_) (λa=>?_)|refine C6 (aM _ _ _) ?_|refine C6 (nN _) ?_|refine C6 l ?_|refine C6 c10 ?_)
  all_goals first
   | exact T0 (λz=>[B z]) ((by unfold jv;rw[G];simp))
   |(exfalso;omega)
 have c:=hn;unfold cb at c;rw[C0]at c;have H:jv h=tF h:=by unfold jv;rw[S,T,y,U,W,F,hn,Z,e10];rfl
 rw[H];unfold tF;cases em:h.Meshing
 ·repeat'(first|refine gD ?_|(conv=>whnf);first|with_reducible (first|refine Bf.D (λa=>?_) (λa=>?_)|refine Bf.E (λa=>?_) (λa=>?_))|refine C6 (aM _ _ _) ?_|refine C6 (nN _) ?_|refine C6 l ?_|refine C6 c10 ?_|refine Bf.f em ?_)
  all_goals first
   | exact T0 (λz=>[B z]) ((by unfold qK;simp only[Bool.false_eq_true,if_false];first|(symm;exact Q0 ω)|(rw[Y3,beq_iff_eq,C0];omega)))
   |(exfalso;omega)
 ·cases e12:jf h.Job<;>rw[e12]at c12
  all_goals
   repeat'(first|refine gD ?_|(conv=>whnf);first|with_reducible (first|refine Bf.D (λa=>?_) (λa=>?_)|refine Bf.D (λa=>?_) (λa=>?_))|refine C6 (aM _ _ _) ?_|refine C6 (nN _) ?_|refine C6 l ?_|refine C6 c10 ?_|refine C6 c12 ?_|refine C6 c13 ?_|refine C6 c14 ?_|refine Bf.t em ?_)
   all_goals first
    | exact T0 (λz=>[B z]) ((by grind))
    |(exfalso;omega)
theorem gF{α:Type}[Inhabited α]{xs:List α}{f:α->Int}(e:(xs.map f).Nodup){i j:Nat}(b:i<xs.length)(c:j<xs.length)(h:f (nth xs i)=f (nth xs j)):i=j:=by
 have d:=List.pairwise_iff_getElem.1 e;rcases Nat.lt_trichotomy i j with a|rfl|a
 ·have:=d i j (by simpa using b) (by simpa using c) a
  simp only[List.getElem_map]at this;rw[bo (U1 b),bo (U1 c)]at h;exact absurd h this
 ·rfl
 ·have:=d j i (by simpa using c) (by simpa using b) a
  simp only[List.getElem_map]at this;rw[bo (U1 b),bo (U1 c)]at h;exact absurd h.symm this
theorem aZ{α:Type}[Inhabited α]{xs:List α}{x:α}(h:x∈xs):∃i,i<xs.length/\nth xs i=x:=by
 obtain⟨i,a⟩:=List.mem_iff_getElem?.1 h;exact⟨i,(V1.1 a).1,bo a⟩
theorem pV:∀{H L:List Int},H.Nodup->(∀x∈H,x∈L)->L.length<=H.length->∀x∈L,x∈H
 | [],L,_,_,c,x,d=>by
  have:L=[]:=R5 (by simpa using c);subst this;exact d
 | y::H,L,h,f,c,x,d=>by
  have i:y∈L:=f y (O1 ..);have a:=List.nodup_cons.1 h;by_cases b:x=y
  ·subst b;exact O1 ..
  ·refine C4 _ (pV (L:=L.erase y) a.2 (λz g=>?_) ?_ x ((List.mem_erase_of_ne b).2 d))
   ·exact(List.mem_erase_of_ne (λe:z=y=>a.1 (by rw[<-e];exact g))).2 (f z (C4 _ g))
   ·rw[List.length_erase_of_mem i]
    simp only[List.length_cons]at c;omega
theorem y9{H L:List Int}(f:L.Nodup)(d:∀x∈H,x∈L):(H.Nodup/\H.length=L.length)↔∀a∈L,H.count a=1:=by
 constructor
 ·rintro⟨c,k⟩ a b
  have g:=pV c d ω a b;have i:=List.nodup_iff_count.1 c a;have j:=List.count_pos_iff.2 g;omega
 ·intro e
  have c:H.Nodup:=List.nodup_iff_count.2 λa=>by
   by_cases b:a∈H
   ·rw[e a (d a b)];exact Q2 1
   ·rw[List.count_eq_zero_of_not_mem b];exact R0 _
  refine⟨c,?_⟩;have:H.Perm L:=List.perm_iff_count.2 λa=>by
   by_cases b:a∈L
   ·rw[e a b]
    have i:=List.nodup_iff_count.1 f a;have j:=List.count_pos_iff.2 b;omega
   ·rw[List.count_eq_zero_of_not_mem b,List.count_eq_zero_of_not_mem λh=>b (d a h)]
  exact this.length_eq
theorem di{l:a8}{n:Nat}{p:Int} : p∈lpgs l n↔∃k:Nat,k<n/\p=l.Page+(k:Nat):=by
 unfold lpgs;simp only[T3,List.mem_range];constructor
 ·rintro⟨k,a,rfl⟩;exact⟨k,a,rfl⟩
 ·rintro⟨k,a,rfl⟩;exact⟨k,a,rfl⟩
structure pm(sp:List au)(la:List a8):Prop where
 sok:∀s∈sp,aX s=true
 lok:∀l∈la,bP l=true
 nd:(sp.map (·.Page)).Nodup
 dis:∀s∈sp,∀l∈la,∀k:Nat,k<l.Pages.toNat->s.Page≠l.Page+(k:Nat)
 one:∀i j,i<la.length->j<la.length->∀k k':Nat,k<(nth la i).Pages.toNat->k'<(nth la j).Pages.toNat->(nth la i).Page+(k:Nat)=(nth la j).Page+(k':Nat)->i=j
theorem pm.of{sp:List au}{la:List a8}(h:bc sp la=true):pm sp la:=by
 obtain⟨t,u,d⟩:=cZ h;unfold pgs at d;rw[List.nodup_append]at d;obtain⟨w,y,A⟩:=d;have B:=List.pairwise_flatMap.1 y;refine⟨λs f=>I3.1 t s f,λl g=>I3.1 u l g,w,λs f l g k c e=>?_,λi j n o k q c a e=>?_⟩
 ·exact A _ (T3.2 ⟨s,f,rfl⟩) _ (List.mem_flatMap.2 ⟨l,g,di.2 ⟨k,c,rfl⟩⟩) e
 ·have r:=List.pairwise_iff_getElem.1 B.2
  have C:=bo (U1 n);have D:=bo (U1 o);rw[C]at c e;rw[D]at a e;rcases Nat.lt_trichotomy i j with b|p|b
  ·exact absurd e (r i j n o b _ (di.2 ⟨k,c,rfl⟩) _ (di.2 ⟨q,a,rfl⟩))
  ·exact p
  ·exact absurd e.symm (r j i o n b _ (di.2 ⟨q,a,rfl⟩) _ (di.2 ⟨k,c,rfl⟩))
theorem eS{s:au}{a:Int}(b:aX s=true):ca s a=true↔16*s.Page<=a/\a<=16*s.Page+15:=by
 unfold ca;rw[b];simp
theorem iM{sp:List au}{la:List a8}(b:pm sp la){a:Int}{i:Nat}(c:i<sp.length)(h:16*(nth sp i).Page<=a/\a<=16*(nth sp i).Page+15):denotes sp la a=mX i (nth sp i) a:=by
 refine ma c ((eS (b.sok _ (am c))).2 h) λj z l d=>?_
 cases e:ca z a with
 | false=>rfl
 | true=>
  exfalso;have g:=(V1.1 d).1;have n:=(eS (b.sok z (Q1 d))).1 e;have k:=bo d;subst k;have:=gF (f:=(·.Page)) b.nd c g ω;omega
theorem Nu{sp:List au}{la:List a8}(d:pm sp la){a:Int}(h:∀i,i<sp.length->¬(16*(nth sp i).Page<=a/\a<=16*(nth sp i).Page+15)):∀(j:Nat)(z:au),j<sp.length->sp[j]? = some z->ca z a=false:=by
 intro j z f c;cases e:ca z a with
 | false=>rfl
 | true=>
  have g:=(eS (d.sok z (Q1 c))).1 e;have b:=bo c;subst b;exact absurd g (h j f)
theorem qu{sp:List au}{la:List a8}(f:pm sp la)(a:Int):a∈live0 sp la↔a∈fI sp la:=by
 have L:a∈fI sp la↔∃n:Nat,n<512/\jn sp la n=true/\(n:Int)=a:=by
  unfold fI kj;simp only[T3,U3,List.mem_range];constructor
  ·rintro⟨n,⟨g,p⟩,B⟩;exact⟨n,g,p,B⟩
  ·rintro⟨n,g,p,B⟩;exact⟨n,⟨g,p⟩,B⟩
 rw[L];unfold live0 dY;rw[O2,List.mem_flatMap,T3];constructor
 ·rintro(⟨s,t,H⟩|⟨l,b,rfl⟩)
  ·obtain⟨i,h,rfl⟩:=aZ t
   unfold dl at H;obtain⟨k,M,rfl⟩:=T3.1 H;obtain⟨u,C⟩:=U3.1 M;have u:=List.mem_range.1 u;have c:=aE (f.sok _ t);have q:=rC ⟨c.2.2.1,c.2.2.2⟩;have N:=qD (nth sp i).Class;unfold iw;have O:0<=(k:Int)*csz (nth sp i).Class/\(k:Int)*csz (nth sp i).Class<=15:=by
    rcases bO ⟨c.2.2.1,c.2.2.2⟩ with e|e|e|e<;>rw[e]at q |-<;>omega
   have o:=iM f h (a:=16*(nth sp i).Page+(k:Nat)*csz (nth sp i).Class) ω;have J:(16*(nth sp i).Page+(k:Nat)*csz (nth sp i).Class - 16*(nth sp i).Page) / csz (nth sp i).Class=(k:Nat)/\(16*(nth sp i).Page+(k:Nat)*csz (nth sp i).Class - 16*(nth sp i).Page) % csz (nth sp i).Class=0:=by
    rcases bO ⟨c.2.2.1,c.2.2.2⟩ with e|e|e|e<;>rw[e]<;>omega
   refine⟨(16*(nth sp i).Page+(k:Nat)*csz (nth sp i).Class).toNat,ω,?_,ω⟩;have d:(((16*(nth sp i).Page+(k:Nat)*csz (nth sp i).Class).toNat:Nat):Int)=16*(nth sp i).Page+(k:Nat)*csz (nth sp i).Class:=ω
   unfold jn;rw[d,o];simp only[mX,J.1,J.2,C]
   rfl
  ·obtain⟨i,h,rfl⟩:=aZ b
   have R:=aR (f.lok _ b);have P:=co (f.lok _ b);have g:=Nu f (a:=16*(nth la i).Page) λj K S=>f.dis _ (am K) _ b 0 ω ω
   have A:bk (nth la i) (16*(nth la i).Page)=true:=by
    unfold bk;rw[f.lok _ b,O0 ω];rfl
   have o:=kN (a:=16*(nth la i).Page) (Q2 _) g h A λj z K r=>by
    cases e:bk z (16*(nth la i).Page) with
    | false=>rfl
    | true=>
     exfalso;have D:=(V1.1 r).1;have w:=Q1 r;have E:=bo r;subst E;have Q:=aR (f.lok _ w);have y:=f.lok _ w;unfold bP at y;rw[C0]at y;unfold bk at e;rw[I0,C0]at e;have:=f.one i j h D 0 ((nth la i).Page - (nth la j).Page).toNat ω ω ω;omega
   refine⟨(16*(nth la i).Page).toNat,ω,?_,ω⟩;have d:(((16*(nth la i).Page).toNat:Nat):Int)=16*(nth la i).Page:=ω
   unfold jn;rw[d,o];simp
 ·rintro⟨n,T,b,rfl⟩
  cases g:sp.findIdx? (ca · (n:Nat)) with
  | some i=>
   obtain⟨h,F,-⟩:=I5.1 g;have G:=bo (U1 h);rw[<-G]at F;have t:=f.sok _ (am h);have p:=(eS t).1 F;have c:=aE t;have q:=rC ⟨c.2.2.1,c.2.2.2⟩;have o:denotes sp la (n:Nat)=mX i (nth sp i) (n:Nat):=by unfold denotes;rw[g]
   rw[qN o]at b;simp only[I0,X4,C0]at b;simp only[mX]at b;cases A:aS (nth sp i).Bits (((n:Int) - 16*(nth sp i).Page) / csz (nth sp i).Class) with
   | false=>rw[A]at b;simp at b
   | true=>
    have r:((n:Int) - 16*(nth sp i).Page) % csz (nth sp i).Class=0:=b.1;refine .inl ⟨nth sp i,am h,?_⟩;unfold dl;refine T3.2 ⟨(((n:Int) - 16*(nth sp i).Page) / csz (nth sp i).Class).toNat,U3.2 ⟨List.mem_range.2 ?_,?_⟩,?_⟩
    ·rcases bO ⟨c.2.2.1,c.2.2.2⟩ with e|e|e|e<;>rw[e]at q r |-<;>omega
    ·have:((((n:Int) - 16*(nth sp i).Page) / csz (nth sp i).Class).toNat:Int)=((n:Int) - 16*(nth sp i).Page) / csz (nth sp i).Class:=by
      rcases bO ⟨c.2.2.1,c.2.2.2⟩ with e|e|e|e<;>rw[e]<;>omega
     rw[this];exact A
    ·unfold iw
     rcases bO ⟨c.2.2.1,c.2.2.2⟩ with e|e|e|e<;>rw[e]at r |-<;>omega
  | none=>
   cases p:la.findIdx? (bk · (n:Nat)) with
   | some i=>
    obtain⟨h,F,-⟩:=I5.1 p;have o:denotes sp la (n:Nat) = ⟨3,i,0,(n:Nat) - 16*(nth la i).Page⟩:=by unfold denotes;rw[g,p]
    rw[qN o]at b;simp only[I0,C0]at b;exact .inr ⟨nth la i,am h,by have:=b.1;omega⟩
   | none=>
    have o:denotes sp la (n:Nat) = ⟨0,0,0,0⟩:=by unfold denotes;rw[g,p]
    rw[qN o]at b;simp at b
theorem uB{sp:List au}{la:List a8}(e:pm sp la){a:Int}(b:(denotes sp la a).Offset=0)(c:(denotes sp la a).Kind=1\/(denotes sp la a).Kind=3):a∈fI sp la:=by
 have l:0<=a/\a<512:=by
  unfold denotes at b c;cases h:sp.findIdx? (ca · a) with
  | some i=>
   obtain⟨f,k,-⟩:=I5.1 h;have j:=List.getElem_mem f;have d:=(eS (e.sok _ j)).1 k;have g:=aE (e.sok _ j);omega
  | none=>
   rw[h]at b c;cases d:la.findIdx? (bk · a) with
   | some i=>
    obtain⟨f,-⟩:=I5.1 d;rw[d]at b;have n:=aR (e.lok _ (am f));simp only at b;omega
   | none=>rw[d]at c;simp at c
 have g:((a.toNat:Nat):Int)=a:=ω
 unfold fI kj;refine T3.2 ⟨a.toNat,U3.2 ⟨List.mem_range.2 ω,?_⟩,g⟩;unfold jn;rw[g];simp only[I0,X4,C0];exact⟨b,c⟩
theorem kF(sp:List au)(la:List a8):(fI sp la).Nodup:=by
 unfold fI kj List.Nodup;rw[List.pairwise_map];exact(List.nodup_range.sublist List.filter_sublist).imp λh e=>h ω
theorem sg{h:ab}(d:pm h.Spans h.Larges){a c:Int}(b:cU h a c=true):a∈fI h.Spans h.Larges:=by
 unfold cU at b;simp only[I0,C0]at b;exact uB d b.1.2 (.inl b.1.1)
theorem K9{h:ab}(b:pm h.Spans h.Larges){o:bB}(a:ix h o=true):o.Addr∈fI h.Spans h.Larges:=by
 unfold ix at a;simp only[I0,X4,C0]at a;exact uB b a.1 (a.2.elim (λe=>.inl e.1) (λe=>.inr e.1))
theorem E9(h:ab)(a:Int):(lO h).count a=(holders h).count a:=by
 unfold lO holders;simp only[V4];omega
theorem iZ(h:ab):gh h=true↔(h.Caches.all (ec h)=true/\h.Quar.Lst.all (gB h)=true)/\(aC h.Mail).all (iP h)=true:=by
 unfold gh;simp only[I0]
theorem m9{h:ab}(e:pm h.Spans h.Larges)(g:ee h=true)(j:gh h=true):∀a∈holders h,a∈fI h.Spans h.Larges:=by
 obtain⟨⟨n,p⟩,q⟩:=(iZ h).1 j;intro a b;unfold holders at b;simp only[O2]at b;rcases b with((b|b)|b)|b
 ·obtain⟨o,f,rfl⟩:=T3.1 b
  obtain⟨i,r,rfl⟩:=aZ f;have d:=dE g r;unfold objAt at d;rw[I0]at d;exact K9 e d.2
 ·unfold bQ at b
  obtain⟨c,t,b⟩:=List.mem_flatMap.1 b;obtain⟨l,u,b⟩:=List.mem_flatten.1 b;obtain⟨k,w,rfl⟩:=aZ u;have d:=I3.1 n c t;unfold ec at d;have y:=I3.1 (show(nth c.Lists k).all _=true from dE d w) a b;exact sg e y
 ·obtain⟨x,A,rfl⟩:=T3.1 b
  exact sg e (I3.1 p x A)
 ·exact sg e (I3.1 q a b)
theorem Hg{h:ab}(c:bc h.Spans h.Larges=true)(o:ee h=true):(kM h&&ik h)=je h:=by
 have f:=pm.of c;have p:(kM h=true/\h.Quar.Lst.all (gB h)=true)↔h.Quar.Lst.all (qE h)=true:=by
  unfold kM qE;simp only[I3,I0];exact⟨λe x b=>⟨e.2 x b,e.1 x b⟩,λe=>⟨λx b=>(e x b).2,λx b=>(e x b).1⟩⟩
 have r:je h=true↔((h.Caches.all (ec h)=true/\h.Quar.Lst.all (qE h)=true)/\(aC h.Mail).all (iP h)=true)/\∀a∈fI h.Spans h.Larges,(holders h).count a=1:=by
  unfold je;simp only[I0];refine and_congr Iff.rfl ?_;simp only[I3,C0,E9];unfold cT sorted;simp only[List.mem_mergeSort,qu f]
 have g:ik h=true↔gh h=true/\((holders h).Nodup/\(holders h).length=(fI h.Spans h.Larges).length):=by
  unfold ik;simp only[I0,C0,and_assoc]
 rw[Y3,I0,r,g];constructor
 ·rintro⟨i,d,j⟩
  obtain⟨⟨k,l⟩,n⟩:=(iZ h).1 d;exact⟨⟨⟨k,p.1 ⟨i,l⟩⟩,n⟩,(y9 (kF ..) (m9 f o d)).1 j⟩
 ·rintro⟨⟨⟨i,d⟩,j⟩,k⟩
  obtain⟨l,n⟩:=p.2 d;have q:gh h=true:=(iZ h).2 ⟨⟨i,n⟩,j⟩;exact⟨l,q,(y9 (kF ..) (m9 f o q)).2 k⟩
theorem iK(s t:au):meshable s t=meshable t s:=by
 unfold meshable;rw[Bool.and_comm (aX s)]
 congr 1
 refine decide_eq_decide.2 ?_;rw[Nat.and_comm];exact⟨λh=>⟨h.1.symm,λe=>h.2.1 e.symm,h.2.2⟩,λh=>⟨h.1.symm,λe=>h.2.1 e.symm,h.2.2⟩⟩
theorem d9{t:aH}{f:Int}{p:Nat} : (p:Int)∈pagesOn t f↔p<t.Entries.length/\(nth t.Entries p).Mode≠0/\(nth t.Entries p).Frame=f:=by
 unfold pagesOn iW;simp only[T3,U3,List.mem_range];constructor
 ·rintro⟨n,⟨b,a⟩,c⟩
  obtain rfl:n=p:=ω
  unfold HI at a;rw[C0]at a;exact⟨b,a⟩
 ·rintro⟨b,a⟩
  exact⟨p,⟨b,by unfold HI;rw[C0];exact a⟩,rfl⟩
theorem tK{t:aH}{f q:Int}(h:q∈pagesOn t f):∃p:Nat,q=(p:Nat):=by
 unfold pagesOn iW at h;obtain⟨n,-,rfl⟩:=T3.1 h;exact⟨n,rfl⟩
theorem qZ{h:ab}(a:pages0 h=true):(∀i,i<h.Larges.length->∀k:Nat,k<(nth h.Larges i).Pages.toNat->(aO h ((nth h.Larges i).Page+(k:Nat))).length=1)/\(∀p∈pgs h.Spans h.Larges,p<dQ h)/\∀p:Nat,p<dQ h->((nth (tbl h).Entries p).Mode≠0↔(p:Int)∈pgs h.Spans h.Larges):=by
 unfold pages0 at a;simp only[I0]at a;obtain⟨⟨⟨-,d⟩,e⟩,f⟩:=a;refine⟨λi g k j=>?_,λp a=>?_,λp a=>?_⟩
 ·have b:=dE d g
  unfold sB at b;rw[I0]at b;have c:=dE b.2 j;unfold vT at c;rw[C0]at c;exact c
 ·have:=I3.1 e p a
  rw[C0]at this;exact this
 ·have b:=dE f a
  unfold tP at b;rw[I0,C0]at b;exact b.1
theorem wR{h:ab}{p:Nat}(a:p<dQ h):ar (tbl h) (p:Nat)=nth (tbl h).Entries p:=lg a
theorem ew{h:ab}{p:Nat}(a:p<dQ h)(b:(nth (tbl h).Entries p).Mode≠0):aO h (p:Nat)=pagesOn (tbl h) (nth (tbl h).Entries p).Frame:=by
 unfold aO;rw[show h.Kernel.Machine.Table=tbl h from rfl,wR a,C7 b]
theorem oF{h:ab}(g:pm h.Spans h.Larges){j:Nat}(c:j<h.Spans.length):eU h (nth h.Spans j).Page=(j:Nat):=by
 unfold eU;refine d6 (ah c) (by unfold jr;simp) λk z i d=>?_
 have a:=bo d;have b:=(V1.1 d).1;subst a;unfold jr;refine Q0 λe=>?_
 have:=gF (f:=(·.Page)) g.nd b c e;omega
theorem yM{h:ab}(y:bc h.Spans h.Larges=true)(T:pages0 h=true):rk h=mS h:=by
 have G:=pm.of y;obtain⟨U,V,O⟩:=qZ T;have t:∀i,i<h.Spans.length->∃p:Nat,(nth h.Spans i).Page=(p:Nat)/\p<dQ h/\(nth (tbl h).Entries p).Mode≠0:=λi n=>by
  have hc:=aE (G.sok _ (am n));have P:(nth h.Spans i).Page∈pgs h.Spans h.Larges:=by
   unfold pgs;exact O2.2 (.inl (T3.2 ⟨_,am n,rfl⟩))
  have o:=V _ P;refine⟨(nth h.Spans i).Page.toNat,ω,ω,?_⟩;refine(O _ ω).2 ?_;rw[show(((nth h.Spans i).Page.toNat:Nat):Int)=(nth h.Spans i).Page by omega];exact P
 rw[Y3];unfold rk mS;rw[cn,cn];constructor
 ·intro K i n
  rw[cn];intro j L;have A:j<h.Spans.length:=ω
  unfold jU;rw[X4,C0];by_cases b:(ar (tbl h) (nth h.Spans i).Page).Frame=(ar (tbl h) (nth h.Spans j).Page).Frame
  ·right
   obtain⟨p,f,c,r⟩:=t i n;obtain⟨q,B,a,g⟩:=t j A;have d:=I3.1 (K i n);rw[f,B,wR c,wR a]at b;have W:(q:Int)∈aO h (nth h.Spans i).Page:=by
    rw[f,ew c r];exact d9.2 ⟨a,g,b.symm⟩
   have u:=d _ W;unfold lh at u;rw[<-B,oF G A]at u;rw[X4,I0,C0]at u;rcases u with u|u
   ·omega
   ·simpa using u.2
  ·exact .inl b
 ·intro C i n
  rw[I3];intro q H;obtain⟨p,f,c,r⟩:=t i n;have X:=H;rw[f,ew c r]at H;obtain⟨J,rfl⟩:=tK H;obtain⟨a,g,D⟩:=d9.1 H;have w:=(O J a).1 g;unfold pgs at w;rw[O2,T3,List.mem_flatMap]at w;rcases w with⟨s,K,E⟩|⟨l,Y,M⟩
  ·obtain⟨j,L,rfl⟩:=aZ K
   unfold lh;rw[<-E,oF G L];rw[X4,I0,C0,C0];have b:(ar (tbl h) (nth h.Spans i).Page).Frame=(ar (tbl h) (nth h.Spans j).Page).Frame:=by
    rw[f,E,wR c,wR a,D]
   rcases Nat.lt_trichotomy j i with o|Z|o
   ·have d:=dE (C i n) o
    unfold jU at d;rw[X4,C0]at d;exact .inr ⟨ω,by simpa using d.resolve_left λe=>e b⟩
   ·exact .inl ω
   ·have d:=dE (C j L) o
    unfold jU at d;rw[X4,C0]at d;exact .inr ⟨ω,by rw[iK];simpa using d.resolve_left λe=>e b.symm⟩
  ·exfalso
   obtain⟨i2,F,rfl⟩:=aZ Y;obtain⟨k,Q,N⟩:=di.1 M;have d:=U i2 F k Q;rw[<-N,ew a g]at d;have R:(J:Int)∈pagesOn (tbl h) (nth (tbl h).Entries J).Frame:=d9.2 ⟨a,g,rfl⟩;have S:(p:Int)∈pagesOn (tbl h) (nth (tbl h).Entries J).Frame:=d9.2 ⟨c,r,D.symm⟩;obtain⟨z,hz⟩:=List.length_eq_one_iff.1 d;rw[hz]at R S;simp only[Z0]at R S;have:=G.dis _ (am n) _ (am F) k Q;omega
theorem Hh(h:ab):jv h=dD h:=by
 unfold jv dD lf;cases d:aB h.Kernel with
 | false=>rfl
 | true=>
  cases e:bv (dQ h) h.Free with
  | false=>rfl
  | true=>
   cases a:bc h.Spans h.Larges with
   | false=>rfl
   | true=>
    cases b:pages0 h with
    | false=>rfl
    | true=>
     rw[yM a b];cases c:ee h with
     | false=>simp
     | true=>
      have:=Hg a c;rw[<-this];cases mS h<;>cases df h<;>cases kM h<;>cases h.Caches.all bm<;>cases cb h<;>cases ik h<;>cases tF h<;>rfl
def ovl(y r:aA):Bool:=decide (y.At<r.At+r.Len/\r.At<y.At+y.Len)
def lw(r:aA):List aA->Bool->Option (List aA)
 | [],put=>some (if put then [] else [r])
 | y::a,put=>if ovl y r then none else if !put&&decide (y.At > r.At) then(lw r a true).map λt=>r::y::t else(lw r a put).map λt=>y::t
def de(out:List aA):List aA->List aA
 | []=>out
 | y::ys=>match out.getLast? with
  | some z=>if z.At+z.Len=y.At then de (out.dropLast++[⟨z.At,z.Len+y.Len⟩]) ys else de (out++[y]) ys
  | none=>de (out++[y]) ys
def jq:List aA->aA->List aA->Bool->Option (List aA)
 | [],r,out,done=>some (if done then out else out++[r])
 | y::ys,r,out,done=>
  if ovl y r then none
  else if y.At+y.Len=r.At then jq ys ⟨y.At,y.Len+r.Len⟩ out done
  else if r.At+r.Len=y.At then jq ys ⟨r.At,r.Len+y.Len⟩ out done
  else if y.At > r.At/\done=false then jq ys r (out++[r,y]) true
  else jq ys r (out++[y]) done
def nO(xs:List aA):Prop:=xs.Pairwise (λa b=>a.At+a.Len<b.At)/\∀y∈xs,1<=y.Len
theorem nO.tail{y:aA}{a:List aA}(h:nO (y::a)):nO a:=⟨(List.pairwise_cons.1 h.1).2,λz b=>h.2 z (C4 _ b)⟩
theorem nO.head{y:aA}{a:List aA}(h:nO (y::a)):∀z∈a,y.At+y.Len<z.At:=(List.pairwise_cons.1 h.1).1
theorem iI:∀(a out:List aA),nO a->(∀z,out.getLast? = some z->∀y∈a,z.At+z.Len≠y.At)->de out a=out++a
 | [],out,_,_=>by simp[de]
 | y::a,out,d,e=>by
  have b:de (out++[y]) a=out++y::a:=by
   rw[iI a (out++[y]) d.tail λz c w f=>by
     simp at c;subst c;have:=d.head w f;omega]
   simp
  unfold de;split
  ·rename_i z c
   rw[C7 (e z c y (O1 ..))];exact b
  ·exact b
theorem wt{r:aA} : ∀{a:List aA},nO a->(∀y∈a,r.At+r.Len<=y.At)->lw r a true=some a
 | [],_,_=>rfl
 | y::a,c,b=>by
  have e:=b y (O1 ..);unfold lw;rw[C7 (by unfold ovl;rw[C0];omega)];simp only[Bool.not_true,Bool.false_and,Bool.false_eq_true,if_false];rw[wt c.tail λz d=>b z (C4 _ d)]
  rfl
theorem tj{r:aA}(h1:1<=r.Len){a:List aA}(c:nO a)(b:∀y∈a,r.At+r.Len<=y.At):lw r a false=some (r::a):=by
 cases a with
 | nil=>rfl
 | cons y a=>
  have e:=b y (O1 ..);unfold lw;rw[C7 (by unfold ovl;rw[C0];omega),C8 (by simp;omega),wt c.tail λz d=>b z (C4 _ d)]
  rfl
theorem oJ{r:aA} : ∀{a out:List aA},nO a->1<=r.Len->(∀y∈a,r.At+r.Len<y.At)->jq a r out true=some (out++a)
 | [],out,_,_,_=>by simp[jq]
 | y::a,out,b,d,c=>by
  have f:=c y (O1 ..);have g:=b.2 y (O1 ..);unfold jq;rw[C7 (by unfold ovl;rw[C0];omega),C7 ω,C7 ω,C7 (by simp),oJ b.tail d λz e=>c z (C4 _ e)];simp
theorem wU{r:aA}(h1:1<=r.Len){a out:List aA}(b:nO a)(c:∀y∈a,r.At+r.Len<=y.At):jq a r out false=some (out++match a with|[]=>[r]|y::zs=>if r.At+r.Len=y.At then⟨r.At,r.Len+y.Len⟩::zs else r::y::zs):=by
 cases a with
 | nil=>simp[jq]
 | cons y a=>
  have g:=c y (O1 ..);have h:=b.2 y (O1 ..);unfold jq;rw[C7 (by unfold ovl;rw[C0];omega),C7 ω];by_cases e:r.At+r.Len=y.At
  ·rw[C8 e]
   simp only[e,if_true];cases a with
   | nil=>simp[jq]
   | cons z a=>
    have i:=b.head z (O1 ..);have j:=b.tail.2 z (O1 ..);unfold jq;simp only;rw[C7 (by unfold ovl;rw[C0];simp only;omega),C7 ω,C7 ω,C8 (by simp;omega),oJ b.tail.tail (by simp only;omega) λw d=>by
      have:=b.tail.head w d;simp only;omega]
    simp
  ·rw[C7 e,C8 (by simp;omega),oJ b.tail h1 λz f=>by have:=b.head z f;omega]
   simp[e]
theorem xS{pages:Int} : ∀{b:List aA}{r:aA}{out:List aA},nO b->1<=r.Len->(∀z,out.getLast? = some z->(∀y∈b,z.At+z.Len<y.At)/\z.At+z.Len<r.At)->(lw r b false).map (de out)=jq b r out false
 | [],r,out,_,j,u=>by
  show some (de out [r])=some (out++[r]);rw[iI [r] out ⟨List.pairwise_singleton ..,λy B=>by rw[Z0.1 B];exact j⟩ λz d y B=>by rw[Z0.1 B];have:=(u z d).2;omega]
 | y::b,r,out,c,j,u=>by
  have L:=c.2 y (O1 ..);by_cases l:ovl y r=true
  ·unfold lw jq
   rw[C8 l,C8 l];rfl
  ·have n:=l
   unfold ovl at n;rw[C0]at n;by_cases C:r.At+r.Len<=y.At
   ·-- all to the right
    have f:∀w∈y::b,r.At+r.Len<=w.At:=λw a=>by
     rcases List.mem_cons.1 a with rfl|a
     ·exact C
     ·have:=c.head w a;omega
    rw[tj j c f,wU j c f];show some (de out (r::y::b))=_;have hfirst:de out (r::y::b)=de (out++[r]) (y::b):=by
     conv=>lhs;unfold de
     split
     ·rename_i z d;rw[C7 (by have:=(u z d).2;omega)]
     ·rfl
    rw[hfirst];by_cases e:r.At+r.Len=y.At
    ·have:de (out++[r]) (y::b)=de (out++[⟨r.At,r.Len+y.Len⟩]) b:=by
      conv=>lhs;unfold de
      simp[e]
     rw[this,iI b _ c.tail λz d w a=>by
       simp at d;subst d;have:=c.head w a;simp only;omega]
     simp[e]
    ·rw[iI (y::b) (out++[r]) c λz d w a=>by
       simp at d;subst d;rcases List.mem_cons.1 a with rfl|a
       · exact e
       · have:=c.head w a;omega]
     simp[e]
   ·have F:y.At+y.Len<=r.At:=ω
    have i:∀t,de out (y::t)=de (out++[y]) t:=λt=>by
     conv=>lhs;unfold de
     split
     ·rename_i z d;rw[C7 (by have:=(u z d).1 y (O1 ..);omega)]
     ·rfl
    have G:(lw r (y::b) false).map (de out)=(lw r b false).map (de (out++[y])):=by
     conv=>lhs;unfold lw
     rw[C7 l,C7 (by simp;omega),Option.map_map]
     congr 1
     funext t
     exact i t
    rw[G];unfold jq;rw[C7 l];by_cases e:y.At+y.Len=r.At
    ·rw[C8 e]
     by_cases o:∃w,b.head? = some w/\ovl w r=true
     ·obtain⟨w,a,p⟩:=o
      cases b with
      | nil=>cases a
      | cons g k=>
       obtain rfl:g=w:=by simpa using a
       have H:=c.head g (O1 ..);have J:=c.tail.2 g (O1 ..);have q:=p;unfold ovl at q;rw[C0]at q;unfold lw jq;rw[C8 p,C8 (by unfold ovl;rw[C0];simp only;omega)]
       rfl
     ·have f:∀w∈b,r.At+r.Len<=w.At:=by
       cases b with
       | nil=>intro w a;cases a
       | cons g k=>
        have H:=c.head g (O1 ..);have J:=c.tail.2 g (O1 ..);have E:¬ovl g r=true:=λh=>o ⟨g,rfl,h⟩
        unfold ovl at E;rw[C0]at E;intro w a;rcases List.mem_cons.1 a with rfl|a
        ·omega
        ·have:=c.tail.head w a;omega
      rw[tj j c.tail f,wU (r:=⟨y.At,y.Len+r.Len⟩) (by simp only;omega) c.tail λw a=>by have:=f w a;simp only;omega];show some (de (out++[y]) (r::b))=_;have K:de (out++[y]) (r::b)=de (out++[⟨y.At,y.Len+r.Len⟩]) b:=by
       conv=>lhs;unfold de
       simp[e]
      rw[K];cases b with
      | nil=>simp[de]
      | cons g k=>
       by_cases A:y.At+(y.Len+r.Len)=g.At
       ·have D:de (out++[⟨y.At,y.Len+r.Len⟩]) (g::k)=de (out++[⟨y.At,y.Len+r.Len+g.Len⟩]) k:=by
         conv=>lhs;unfold de
         simp[A]
        rw[D,iI k _ c.tail.tail λz d w a=>by
          simp at d;subst d;have:=c.tail.head w a;simp only;omega]
        simp[A]
       ·rw[iI (g::k) _ c.tail λz d w a=>by
          simp at d;subst d;simp only;rcases List.mem_cons.1 a with rfl|a
          · exact A
          · have:=c.tail.head w a
            have:=f g (O1 ..);have:=c.tail.2 g (O1 ..);omega]
        simp[A]
    ·rw[C7 e,C7 ω,C7 ω]
     exact xS (pages:=pages) c.tail j λz d=>by
      simp at d;subst d;exact⟨c.head,ω⟩
def ip(k:af)(f:Int):af:=if(pagesOn k.Machine.Table f).length=0 then {k with Machine:=⟨⟨k.Machine.Frames.Cells.set f.toNat (List.replicate 16 0),k.Machine.Frames.Used.set f.toNat false⟩,k.Machine.Table⟩} else k
def qa(k:af)(p:Int):af:={k with Machine:=⟨k.Machine.Frames,⟨k.Machine.Table.Entries.set p.toNat ⟨0,0⟩⟩⟩}
def dM(k:af)(p:Int):af:=if(ar k.Machine.Table p).Mode=0 then k else ip (qa k p) (ar k.Machine.Table p).Frame
theorem cu{α:Type}[Inhabited α](xs:List α)(i j:Nat)(x:α):nth (xs.set i x) j=if i=j/\j<xs.length then x else nth xs j:=by
 unfold nth;rw[Z1,Z1,z3];by_cases h:i=j
 ·subst h
  by_cases a:i<xs.length
  ·simp[a]
  ·simp[a]
 ·simp[h]
theorem oq(k:af)(f:Int):(ip k f).Machine.Table=k.Machine.Table/\(ip k f).Calls=k.Calls/\(ip k f).Refuse=k.Refuse/\(ip k f).Machine.Frames.Cells.length=k.Machine.Frames.Cells.length/\(ip k f).Machine.Frames.Used.length=k.Machine.Frames.Used.length:=by
 unfold ip;split<;>simp
theorem pR(k:af)(p:Int):(dM k p).Machine.Table.Entries.length=k.Machine.Table.Entries.length/\(dM k p).Calls=k.Calls/\(dM k p).Refuse=k.Refuse:=by
 unfold dM;split
 ·exact⟨rfl,rfl,rfl⟩
 ·obtain⟨a,b,c,-⟩:=oq (qa k p) (ar k.Machine.Table p).Frame
  rw[a,b,c];simp[qa]
theorem aF{k:af} : aB k=true↔(∀j,j<k.Refuse.length->0<=nth k.Refuse j)/\cw k.Machine.Frames=true/\fC k.Machine.Table k.Machine.Frames.Used.length=true/\(∀j,j<k.Machine.Frames.Used.length->nth k.Machine.Frames.Used j=decide (0<(pagesOn k.Machine.Table (j:Int)).length))/\0<=k.Calls/\k.Calls<=100000/\k.Refuse.length<=40:=by
 unfold aB dt;simp only[I0,cn,C0,ns,beq_iff_eq,and_assoc]
theorem bh{f:aV} : cw f=true↔1<=f.Cells.length/\f.Cells.length<=32/\f.Used.length=f.Cells.length/\∀j,j<f.Cells.length->gP (nth f.Cells j) (nth f.Used j)=true:=by
 unfold cw;simp only[I0,C0,I3,and_assoc];refine and_congr Iff.rfl (and_congr Iff.rfl (and_congr_right λe=>⟨λh j a=>?_,λh q c=>?_⟩))
 ·exact h _ (Q1 (u6 (ah a) (ah ω)))
 ·obtain⟨j,a⟩:=List.mem_iff_getElem?.1 c
  obtain⟨b,d⟩:=List.getElem?_zip_eq_some.1 a;have:=h j (V1.1 b).1
  rwa [bo b,bo d]at this
theorem bw{t:aH}{a:Int} : fC t a=true↔(∀j,j<t.Entries.length->jT a (nth t.Entries j)=true)/\1<=t.Entries.length/\t.Entries.length<=32:=by
 unfold fC;simp only[I0,cn,C0]
theorem ek{t:aH}{f:Int} : 0<(pagesOn t f).length↔∃q,q<t.Entries.length/\(nth t.Entries q).Mode≠0/\(nth t.Entries q).Frame=f:=by
 unfold pagesOn iW;rw[W0,List.length_pos_iff_exists_mem];simp[HI]
theorem cr{k:af}{p:Int}(h:aB k=true)(b:(ar k.Machine.Table p).Mode≠0):0<=p/\p<k.Machine.Table.Entries.length/\ar k.Machine.Table p=nth k.Machine.Table.Entries p.toNat/\0<=(ar k.Machine.Table p).Frame/\(ar k.Machine.Table p).Frame<k.Machine.Frames.Used.length:=by
 obtain⟨-,-,c,-⟩:=aF.1 h;have a:0<=p/\p<k.Machine.Table.Entries.length:=by
  by_cases a:0<=p/\p<k.Machine.Table.Entries.length
  ·exact a
  ·unfold ar at b;rw[C7 a]at b;exact absurd rfl b
 have d:ar k.Machine.Table p=nth k.Machine.Table.Entries p.toNat:=by unfold ar;rw[C8 a]
 have:=(bw.1 c).1 p.toNat ω;rw[d]at b |-;unfold jT at this;rw[C0]at this;exact⟨a.1,a.2,rfl,this.2.2.2 b⟩
theorem vc{k:af}(p:Int)(h:aB k=true):aB (dM k p)=true:=by
 unfold dM;split
 ·exact h
 rename_i t;obtain⟨E,F,G,l,n⟩:=cr h t;obtain⟨u,w,H,y,A,B,C⟩:=aF.1 h;obtain⟨J,K,L,M⟩:=bh.1 w;obtain⟨N,O,P⟩:=bw.1 H;rw[G]at t l n |-;generalize Q:(nth k.Machine.Table.Entries p.toNat).Frame=f at l n;have g:∀q,nth (k.Machine.Table.Entries.set p.toNat ⟨0,0⟩) q=if p.toNat=q then⟨0,0⟩ else nth k.Machine.Table.Entries q:=λq=>by
  rw[cu];by_cases r:p.toNat=q
  ·rw[C8 ⟨r,ω⟩,C8 r]
  ·rw[C7 (λe=>r e.1),C7 r]
 have b:∀j:Int,0<(pagesOn (⟨k.Machine.Table.Entries.set p.toNat ⟨0,0⟩⟩ : aH) j).length↔∃q,q<k.Machine.Table.Entries.length/\q≠p.toNat/\(nth k.Machine.Table.Entries q).Mode≠0/\(nth k.Machine.Table.Entries q).Frame=j:=λj=>by
  rw[ek];simp only[C1,g]
  grind
 have c:∀j:Int,0<(pagesOn k.Machine.Table j).length↔∃q,q<k.Machine.Table.Entries.length/\(nth k.Machine.Table.Entries q).Mode≠0/\(nth k.Machine.Table.Entries q).Frame=j:=λj=>ek
 have i:fC ⟨k.Machine.Table.Entries.set p.toNat ⟨0,0⟩⟩ k.Machine.Frames.Used.length=true:=by
  rw[bw];simp only[C1,g];refine⟨λj d=>?_,O,P⟩;split
  ·unfold jT;simp
  ·exact N j d
 unfold ip;split
 ·rename_i o
  rw[aF];simp only[qa,C1]at o |-;refine⟨u,?_,i,λj d=>?_,A,B,C⟩
  ·rw[bh]
   simp only[C1,cu];refine⟨J,K,L,λj d=>?_⟩;by_cases a:f.toNat=j
   ·rw[C8 ⟨a,d⟩,C8 ⟨a,ω⟩];decide
   ·rw[C7 (λe=>a e.1),C7 (λe=>a e.1)];exact M j d
  ·rw[cu]
   by_cases a:f.toNat=j
   ·rw[C8 ⟨a,d⟩]
    have:(j:Int)=f:=ω
    rw[this];exact(Q0 λR=>absurd o (Nat.ne_of_gt R)).symm
   ·rw[C7 (λe=>a e.1),y j d]
    refine decide_eq_decide.2 ?_;rw[c,b]
    grind
 ·rename_i o
  rw[aF];simp only[qa]at o |-;refine⟨u,w,i,λj d=>?_,A,B,C⟩;rw[y j d];refine decide_eq_decide.2 ?_;by_cases a:f=j
  ·have D:0<(pagesOn (⟨k.Machine.Table.Entries.set p.toNat ⟨0,0⟩⟩ : aH) j).length:=by rw[<-a];exact Nat.pos_of_ne_zero o
   have:=(b j).1 D;constructor
   ·intro _;exact D
   ·intro _;rw[c];grind
  ·rw[c,b];grind
theorem bF{k:af}(h:aB k=true):af.sml k:=by
 obtain⟨g,b,c,i,l,n,o⟩:=aF.1 h;obtain⟨p,q,t,d⟩:=bh.1 b;obtain⟨u,w,y⟩:=bw.1 c;refine⟨⟨⟨⟨ω,λr f=>?_⟩,(by omega:_<=1048576)⟩,⟨ω,λe _=>trivial⟩⟩,(by omega:_<=1048576)⟩;obtain⟨j,a⟩:=List.mem_iff_getElem?.1 f;have:=d j (V1.1 a).1;rw[bo a]at this;unfold gP at this;simp only[I0,C0]at this;show r.length<=1048576;omega
theorem Ap.cp{α:Type}{e:α->List C}{xs:List α}{sz by_:Nat}{K:List (List C)->Prop}(b:∀x,(e x).length=sz)(c:∀x,aU (e x)=true)(d:xs.length<=1048576)(f:by_<=1000)(g:K (xs.map e)):Ap true [] (xs.map e) sz by_ K:=
 CN (λr a=>by cases a) (λr a=>by obtain⟨y,-,rfl⟩:=T3.1 a;exact b y) (λ_ r a=>by obtain⟨y,-,rfl⟩:=T3.1 a;exact c y) (by simp;omega) (by simp only[W0,List.length_nil,C5];exact up d f) rfl g
theorem CQ:type_of% @Ap.cp:=@Ap.cp
theorem Fl.cp{α:Type}{e:α->List C}{xs:List α}{sz by_:Nat}{X:Prop}(a:∀x,(e x).length=sz)(b:∀x,aU (e x)=true)(c:xs.length<=1048576)(d:by_<=1000)(f:X):Fl (xs.map e) sz by_ X:=
 Fl.mk (λr g=>by obtain⟨y,-,rfl⟩:=T3.1 g;exact⟨a y,b y⟩) (by simp;omega) (by simp only[W0];exact up c d) f
theorem CT:type_of% @Fl.cp:=@Fl.cp
theorem Ap.sn{rows b:List (List C)}{r:List C}{sz by_:Nat}{K:List (List C)->Prop}(h1:∀r∈rows,r.length=sz)(c:r.length=sz)(d:rows.length+1<=1048576)(e:by_<=1000)(a:b=rows++[r])(f:K b):Ap false rows [r] sz by_ K:=
 CN h1 (λg a=>by rw[Z0.1 a];exact c) (λh=>by cases h) (by simp;omega) (up (by simpa using d) e) a f
theorem z6(t:aH)(a:aH.sml t):ao Tryz.prog 339 false [.val (some 1) (aH.enc .imm t)] .agg (aH.enc .own t):=by
 have b:=a.1;refine fO 8 [] Tryz.func339 rfl ?_ (.inr (aH.enc_fr _))
 repeat'(first|refine gO ?_|(conv=>whnf);first|refine CQ (λ_=>rfl) (λ_=>rfl) b (by decide) ?_)
 rfl
theorem aN{α:Type}{e:α->List C}{l:List α}{n:Nat}(h:∀x,(e x).length=n):∀r∈l.map e,r.length=n:=λr a=>by
 obtain⟨y,-,rfl⟩:=T3.1 a;exact h y
theorem jG{α β:Type}[Inhabited α]{xs:List α}{f:α->β}{i:Nat}(a:i<xs.length):(xs.take (i+1)).map f=(xs.take i).map f++[f (nth xs i)]:=by
 rw[O4,ah a];simp
theorem Ad(f:aV)(a:aV.sml f):ao Tryz.prog 338 false [.val (some 2) (aV.enc .imm f)] .agg (aV.enc .own f):=by
 have g:=a.1.1;have d:f.Used.length<=1048576:=a.2;refine fO 30 [(5,10,[17,18,19,20,21,22,23,24,25,26])] Tryz.func338 rfl ?_ (.inr (aV.enc_fr _))
 repeat'(first|refine gO ?_|(conv=>whnf);first|refine CQ (λ_=>rfl) (λ_=>rfl) d (by decide) ?_)
 (conv=>whnf)
 refine CD (ι:=Nat) (λi=>[(1,.hold .box (aV.enc .imm f)),(2,.hold .box [.z,.z]),(3,.hold .box [.s .own ((f.Cells.take i).map (aD .own)),.s .own (f.Used.map (rB .own))]),(4,.hold .one [I ((i:Nat):Int)])]) (λi=>i<=f.Cells.length) (λi=>f.Cells.length - i) (0) ?_ (R0 _) λi h=>?_
 ·exact wB
 by_cases b:i<f.Cells.length
 ·have e:=ah b
  have c:(nth f.Cells i).length<=1048576:=a.1.2 _ (am b)
  repeat'(first|refine gD ?_|(conv=>whnf);first|with_reducible refine CA (aa e) ?_|refine CT (λ_=>rfl) (λ_=>rfl) c (by decide) ?_|refine Ap.sn (aN λ_=>rfl) rfl (by simp;omega) (by decide) (jG b) ?_)
  ((conv=>whnf);refine CB (i+1) ω ω ?_;(exact wB))
 ·repeat'(first|refine gD ?_|fail)
  obtain rfl:i=f.Cells.length:=ω
  rw[v4]
  rfl
theorem rm(m:aT)(a:aT.sml m):ao Tryz.prog 288 false [.val (some 3) (aT.enc .imm m)] .agg (aT.enc .own m):=by
 refine fO 10 [(1,5,[3,4,5,6,7])] Tryz.func288 rfl ?_ (.inr (aT.enc_fr _))
 repeat'(first|refine gO ?_|(conv=>whnf);first|refine C6 (Ad m.Frames a.1) ?_|refine C6 (z6 m.Table a.2) ?_)
 rfl
theorem zh(k:af)(a:af.sml k):ao Tryz.prog 228 false [.val (some 5) (af.enc .imm k)] .agg (af.enc .own k):=by
 have b:k.Refuse.length<=1048576:=a.2;refine fO 13 [(1,9,[3,4,5,6,7,8,9,10,11])] Tryz.func228 rfl ?_ (.inr (af.enc_fr _))
 repeat'(first|refine gO ?_|(conv=>whnf);first|refine C6 (rm k.Machine a.1) ?_|refine CT (λ_=>rfl) (λ_=>rfl) b (by decide) ?_)
 rfl
theorem ed(k:af)(p:Int)(a:aH.sml k.Machine.Table):ao Tryz.prog 348 false [.ptr (af.enc .imm k),.val none [I p]] .one [I (ar k.Machine.Table p).Mode]:=by
 refine fO 13 [] Tryz.func348 rfl ?_
 repeat'(first|refine gO ?_|(conv=>whnf);first|refine C6 (db k.Machine.Table p a) ?_)
 rfl
theorem ky(k:af)(b:af.sml k):ao Tryz.prog 305 false [.val (some 5) (af.enc .imm k)] .one [B (aB k&&decide (k.Calls<100000))]:=by
 have a:=kU k b;cases e:aB k<;>rw[e]at a
 ·refine fO 10 [] Tryz.func305 rfl ?_
  repeat'(first|refine gO ?_|(conv=>whnf);first|with_reducible refine Bf.D (λc=>?_) (λc=>?_)|refine C6 (a) ?_)
  all_goals rfl
 ·refine fO 10 [] Tryz.func305 rfl ?_
  repeat'(first|refine gO ?_|(conv=>whnf);first|refine C6 (a) ?_)
  all_goals rfl
theorem yu{k:af}{f:Int}(h:(pagesOn k.Machine.Table f).length=0):af.enc .own (ip k f)=[.s .own ((k.Machine.Frames.Cells.map (aD .own)).set f.toNat (aD .own (List.replicate 16 0))),.s .own ((k.Machine.Frames.Used.map (rB .own)).set f.toNat (rB .own false)),.s .own (k.Machine.Table.Entries.map (bg.enc .own)),I k.Calls,.s .own (k.Refuse.map (rI .own))]:=by
 unfold ip;rw[C8 h];simp only[af.enc,W4]
theorem Be{k:af}{f:Int}(h:¬(pagesOn k.Machine.Table f).length=0):af.enc .own (ip k f)=af.enc .own k:=by
 unfold ip;rw[C7 h]
theorem zb(k:af)(f:Int)(a:aH.sml k.Machine.Table)(b:0<=f/\f<k.Machine.Frames.Cells.length/\f<k.Machine.Frames.Used.length) :
  aQ Tryz.prog 349 false [.ptr (af.enc .own k),.val none [I f]] [.ptr (af.enc .own (ip k f)),.val none [I f]] (.tup []) []:=by
 have c:=ah (xs:=k.Machine.Frames.Cells) (i:=f.toNat) ω;have d:=ah (xs:=k.Machine.Frames.Used) (i:=f.toNat) ω;by_cases e:(pagesOn k.Machine.Table f).length=0
 ·rw[yu e]
  refine fM 30 [] [(2,8,[21,22,23,24,25,26,27,28])] [(0,0),(0,0)] Tryz.func349 rfl (λu q=>?_) (.inr trivial)
  repeat'(first|refine gA ?_|(conv=>whnf);first|with_reducible (first|refine CK b.1 (aa d) ?_|refine CK b.1 (aa c) ?_)|refine CF (gg k.Machine.Table f a) ⟨⟨rfl,CV k.Machine.Table⟩,⟨rfl,rfl⟩,trivial⟩ ?_|refine CM rfl rfl (aa c) rfl (X0 rfl) rfl ?_|refine CM rfl rfl (aa d) rfl (X0 rfl) rfl ?_|refine Mk.mk 16 rfl rfl (by decide) (by decide) rfl ?_)
  refine CE rfl rfl ?_;exact wB
 ·rw[Be e]
  refine fM 30 [] [(2,8,[21,22,23,24,25,26,27,28])] [(0,0),(0,0)] Tryz.func349 rfl (λu q=>?_) (.inr trivial)
  repeat'(first|refine gA ?_|(conv=>whnf);first|refine CF (gg k.Machine.Table f a) ⟨⟨rfl,CV k.Machine.Table⟩,⟨rfl,rfl⟩,trivial⟩ ?_)
  refine CE rfl rfl ?_;exact wB
theorem Jj(k:af)(p:Int):af.enc .own (qa k p)=[.s .own (k.Machine.Frames.Cells.map (aD .own)),.s .own (k.Machine.Frames.Used.map (rB .own)),.s .own ((k.Machine.Table.Entries.map (bg.enc .own)).set p.toNat (bg.enc .own ⟨0,0⟩)),I k.Calls,.s .own (k.Refuse.map (rI .own))]:=by
 unfold qa;simp only[af.enc,W4]
theorem JZ{k:af}{p:Int}(h:aB k=true):aH.sml (qa k p).Machine.Table:=by
 obtain⟨a,b,c⟩:=bw.1 (aF.1 h).2.2.1;exact⟨by simp only[qa,C1];omega,λ_ _=>trivial⟩
theorem lL{h:ab}(a:dD h=true):aB h.Kernel=true/\bc h.Spans h.Larges=true/\pages0 h=true/\rk h=true/\bz h.Mail=true/\(h.Caches.all bm=true/\h.Caches.length=h.Mail.Buffers.length)/\eZ h.Quar=true/\ee h=true/\gh h=true/\(holders h).Nodup/\(holders h).length=(fI h.Spans h.Larges).length:=by
 unfold dD lf df ik at a;simp only[I0,C0]at a;obtain⟨⟨⟨⟨⟨⟨⟨⟨⟨⟨b,-⟩,c⟩,d⟩,e⟩,⟨⟨f,g⟩,i⟩⟩,-⟩,j⟩,-⟩,k,⟨k10,k11⟩,k12⟩,-⟩:=a;exact⟨b,c,d,e,f,⟨j,g⟩,i,k,k10,k11,k12⟩
theorem G3{h:ab}(b:dD h=true){a:Int}(c:a∈fI h.Spans h.Larges):a∈holders h:=by
 obtain⟨-,d,-,-,-,-,-,e,f,k10,k11⟩:=lL b;exact pV k10 (m9 (pm.of d) e f) ω a c
def f6(n:Nat):aV:=⟨List.replicate n (List.replicate 16 0),List.replicate n false⟩
def dP(n:Nat):aH:=⟨List.replicate n ⟨0,0⟩⟩
def b9(p f:Nat)(a:List Int):af:=⟨⟨f6 f,dP p⟩,0,a⟩
def eE:ay:=⟨List.replicate 4 []⟩
def dC(n:Nat):aJ:=⟨List.replicate n [],List.replicate n []⟩
def uv(p f t:Nat)(lim:Int)(a:List Int):ab:=⟨b9 p f a,[⟨0,p⟩],[],[],[],List.replicate t eE,dC t,⟨16,[]⟩,0,0,lim,1,false,⟨⟨0,0,[]⟩,0,0⟩⟩
theorem cS{α:Type}[Inhabited α]{n j:Nat}{y:α}(a:j<n):nth (List.replicate n y) j=y:=bo (by rw[List.getElem?_replicate,C8 a])
theorem JB(n:Nat)(f:Int):pagesOn (dP n) f=[]:=by
 unfold pagesOn iW;rw[List.map_eq_nil_iff,List.filter_eq_nil_iff];intro i b;have a:i<n:=by simpa[dP] using b
 unfold HI;rw[show nth (dP n).Entries i = ⟨0,0⟩ from cS a];simp
theorem Aj{p f:Nat}(c:1<=p/\p<=32)(d:1<=f/\f<=32):aB (b9 p f [])=true:=by
 rw[aF];refine⟨λj b=>by simp[b9]at b,bh.2 ⟨by simp[b9,f6];omega,by simp[b9,f6];omega,by simp[b9,f6],λj b=>?_⟩,bw.2 ⟨λj b=>?_,by simp[b9,dP];omega,by simp[b9,dP];omega⟩,λj b=>?_,by simp[b9],by simp[b9],by simp[b9]⟩
 ·have a:j<f:=by simpa[b9,f6] using b
  rw[show nth (b9 p f []).Machine.Frames.Cells j=List.replicate 16 0 from cS a,show nth (b9 p f []).Machine.Frames.Used j=false from cS a]
  decide
 ·have a:j<p:=by simpa[b9,dP] using b
  rw[show nth (b9 p f []).Machine.Table.Entries j = ⟨0,0⟩ from cS a];unfold jT;rw[C0];exact⟨by decide,by decide,λ_=>rfl,λh=>absurd rfl h⟩
 ·have a:j<f:=by simpa[b9,f6] using b
  rw[show nth (b9 p f []).Machine.Frames.Used j=false from cS a,show(b9 p f []).Machine.Table=dP p from rfl,JB]
  rfl
theorem gZ(c:ay)(d:ay.sml c):ao Tryz.prog 229 false [.val (some 1) (ay.enc .imm c)] .agg (ay.enc .own c):=by
 have g:=d.1;refine fO 26 [(5,10,[13,14,15,16,17,18,19,20,21,22])] Tryz.func229 rfl ?_ (.inr (ay.enc_fr _))
 repeat'(first|refine gO ?_|fail)
 (conv=>whnf)
 refine CD (ι:=Nat) (λi=>[(1,.hold .box (ay.enc .imm c)),(2,.hold .box [.z]),(3,.hold .box [.s .own ((c.Lists.take i).map (aD .own))]),(4,.hold .one [I ((i:Nat):Int)])]) (λi=>i<=c.Lists.length) (λi=>c.Lists.length - i) (0) ?_ (R0 _) λi h=>?_
 ·exact wB
 by_cases a:i<c.Lists.length
 ·have e:=ah a
  have b:(nth c.Lists i).length<=1048576:=d.2 _ (am a)
  repeat'(first|refine gD ?_|(conv=>whnf);first|with_reducible refine CA (aa e) ?_|refine CT (λ_=>rfl) (λ_=>rfl) b (by decide) ?_|refine Ap.sn (aN λ_=>rfl) rfl (by simp;omega) (by decide) (jG a) ?_)
  ((conv=>whnf);refine CB (i+1) ω ω ?_;(exact wB))
 ·repeat'(first|refine gD ?_|fail)
  obtain rfl:i=c.Lists.length:=ω
  rw[v4]
  rfl
theorem eQ(m:aJ)(b:aJ.sml m):ao Tryz.prog 230 false [.val (some 2) (aJ.enc .imm m)] .agg (aJ.enc .own m):=by
 have h:=b.1.1;have g:=b.2.1;refine fO 46 [(5,10,[14,15,16,17,18,19,20,21,22,23]),(9,10,[33,34,35,36,37,38,39,40,41,42])] Tryz.func230 rfl ?_ (.inr (aJ.enc_fr _))
 repeat'(first|refine gO ?_|fail)
 (conv=>whnf)
 refine CD (ι:=Nat) (λi=>[(1,.hold .box (aJ.enc .imm m)),(2,.hold .box [.z,.z]),(3,.hold .box [.s .own ((m.Buffers.take i).map (cM .own)),.z]),(4,.hold .one [I ((i:Nat):Int)])]) (λi=>i<=m.Buffers.length) (λi=>m.Buffers.length - i) (0) ?_ (R0 _) λi j=>?_
 ·exact wB
 by_cases c:i<m.Buffers.length
 ·have d:=ah c
  have a:(nth m.Buffers i).length<=1048576:=(b.1.2 _ (am c)).1
  repeat'(first|refine gD ?_|(conv=>whnf);first|with_reducible refine CA (aa d) ?_|refine CT (λ_=>rfl) (λ_=>rfl) a (by decide) ?_|refine Ap.sn (aN λ_=>rfl) rfl (by simp;omega) (by decide) (jG c) ?_)
  ((conv=>whnf);refine CB (i+1) ω ω ?_;(exact wB))
 obtain rfl:i=m.Buffers.length:=ω
 rw[v4]
 repeat'(first|refine gD ?_|fail)
 (conv=>whnf)
 refine CD (ι:=Nat) (λk=>[(1,.hold .box (aJ.enc .imm m)),(2,.hold .box [.z,.z]),(3,.hold .box [.s .own (m.Buffers.map (cM .own)),.s .own ((m.Inbox.take k).map (aD .own))]),(5,.hold .one [I ((k:Nat):Int)])]) (λk=>k<=m.Inbox.length) (λk=>m.Inbox.length - k) (0) ?_ (R0 _) λk l=>?_
 ·exact wB
 by_cases e:k<m.Inbox.length
 ·have d:=ah e
  have a:(nth m.Inbox k).length<=1048576:=b.2.2 _ (am e)
  repeat'(first|refine gD ?_|(conv=>whnf);first|with_reducible refine CA (aa d) ?_|refine CT (λ_=>rfl) (λ_=>rfl) a (by decide) ?_|refine Ap.sn (aN λ_=>rfl) rfl (by simp;omega) (by decide) (jG e) ?_)
  ((conv=>whnf);refine CB (k+1) ω ω ?_;(exact wB))
 ·repeat'(first|refine gD ?_|fail)
  obtain rfl:k=m.Inbox.length:=ω
  rw[v4]
  rfl
theorem rd(q:bE)(b:bE.sml q):ao Tryz.prog 231 false [.val (some 2) (bE.enc .imm q)] .agg (bE.enc .own q):=by
 have a:q.Lst.length<=1048576:=b.1;refine fO 10 [(1,6,[3,4,5,6,7,8])] Tryz.func231 rfl ?_ (.inr (bE.enc_fr _))
 repeat'(first|refine gO ?_|(conv=>whnf);first|refine CT (λ_=>rfl) (λ_=>rfl) a (by decide) ?_|refine CQ (λ_=>rfl) (λ_=>rfl) a (by decide) ?_)
 rfl
theorem rn(j:cN)(a:cN.sml j):ao Tryz.prog 232 false [.val (some 5) (cN.enc .imm j)] .agg (cN.enc .own j):=by
 have b:j.Plan.Cells.length<=1048576:=a;refine fO 11 [] Tryz.func232 rfl ?_ (.inr (cN.enc_fr _))
 repeat'(first|refine gO ?_|(conv=>whnf);first|refine CQ (λ_=>rfl) (λ_=>rfl) b (by decide) ?_)
 rfl
def Po(h:ab)(a:C):List C:=[.s .own (h.Kernel.Machine.Frames.Cells.map (aD .own)),.s .own (h.Kernel.Machine.Frames.Used.map (rB .own)),.s .own (h.Kernel.Machine.Table.Entries.map (bg.enc .own)),I h.Kernel.Calls,.s .own (h.Kernel.Refuse.map (rI .own)),.s .own (h.Free.map (aA.enc .own)),.s .own (h.Spans.map (au.enc .own)),.s .own (h.Larges.map (a8.enc .own)),.s .own (h.Objs.map (bB.enc .own)),a,.s .imm (h.Mail.Buffers.map (cM .imm)),.s .imm (h.Mail.Inbox.map (aD .imm)),I h.Quar.Room,.s .imm (h.Quar.Lst.map (aL.enc .imm)),I h.Seed,I h.Clock,I h.Limit,I h.Next,B h.Meshing,I h.Job.Plan.Keep,I h.Job.Plan.Move,.s .imm (h.Job.Plan.Cells.map (rI .imm)),I h.Job.Phase,I h.Job.Next]
def NQ:List C:=[.z,.z,.z,I 0,.z,.z,.z,.z,.z,.z,.z,.z,I 0,.z,I 0,I 0,I 0,I 0,B false,I 0,I 0,.z,I 0,I 0]
theorem z8(h:ab)(c:ab.sml h):ao Tryz.prog 142 false [.val (some 24) (ab.enc .imm h)] .agg (ab.enc .own h):=by
 obtain⟨d,e,g,j,k,b,l,n,o⟩:=c;have p:=e.1;have q:=g.1;have r:=j.1;have t:=k.1;have w:=b.1;refine fO 61 [] Tryz.func142 rfl ?_ (.inr (ab.enc_fr _))
 repeat'(first|refine gO ?_|(conv=>whnf);first|refine C6 (zh h.Kernel d) ?_|refine CQ (λ_=>rfl) (λ_=>rfl) p (by decide) ?_|refine CQ (λ_=>rfl) (λ_=>rfl) q (by decide) ?_|refine CQ (λ_=>rfl) (λ_=>rfl) r (by decide) ?_|refine CQ (λ_=>rfl) (λ_=>rfl) t (by decide) ?_)
 (conv=>whnf)
 refine CD (ι:=Nat) (λi=>[(1,.hold .box (Po h (.s .imm (h.Caches.map (ay.enc .imm))))),(2,.hold .box NQ),(3,.hold .one ([.s .own ((h.Caches.take i).map (ay.enc .own))])),(4,.hold .one [I ((i:Nat):Int)])]) (λi=>i<=h.Caches.length) (λi=>h.Caches.length - i) (0) ?_ (R0 _) λi y=>?_
 ·exact wB
 by_cases a:i<h.Caches.length
 ·have u:=ah a
  repeat'(first|refine gD ?_|(conv=>whnf);first|with_reducible refine CA (aa u) ?_|refine C6 (gZ (nth h.Caches i) (b.2 _ (am a))) ?_|refine Ap.sn (aN λ_=>rfl) rfl (by simp;omega) (by decide) (jG a) ?_)
  ((conv=>whnf);refine CB (i+1) ω ω ?_;(exact wB))
 ·obtain rfl:i=h.Caches.length:=ω
  rw[v4]
  repeat'(first|refine gD ?_|(conv=>whnf);first|refine C6 (eQ h.Mail l) ?_|refine C6 (rd h.Quar n) ?_|refine C6 (rn h.Job o) ?_)
  rfl
theorem Ap.sm{rows b:List (List C)}{r:List C}{sz by_:Nat}{K:List (List C)->Prop}(h1:∀r∈rows,r.length=sz)(c:r.length=sz)(d:rows.length+1<=1073741824)(e:by_<=1000)(a:b=rows++[r])(f:K b):Ap false rows [r] sz by_ K:=
 CN h1 (λg a=>by rw[Z0.1 a];exact c) (λh=>by cases h) (by simp;omega) (Z3 (Nat.mul_le_mul (show rows.length+[r].length<=1073741824 by simpa using d) e) (by decide)) a f
theorem G2(y:aA)(a:List aA)(r:aA)(out:List aA)(done:Bool):jq (y::a) r out done=if ovl y r then none
  else if y.At+y.Len=r.At then jq a ⟨y.At,y.Len+r.Len⟩ out done
  else if r.At+r.Len=y.At then jq a ⟨r.At,r.Len+y.Len⟩ out done
  else if y.At > r.At/\done=false then jq a r (out++[r,y]) true
  else jq a r (out++[y]) done:=by rw[jq]
theorem Aa{pages:Int}{xs:List aA}(h:bv pages xs=true):nO xs/\∀y∈xs,0<=y.At/\1<=y.Len/\y.At+y.Len<=pages:=by
 unfold bv at h;simp only[I0,C0]at h;have b:∀i,i<xs.length->1<=(nth xs i).Len/\0<=(nth xs i).At/\(nth xs i).At<=pages - (nth xs i).Len:=λi a=>by
  have:=dE h.1 a;unfold fG rangeIn at this;simp only[I0,C0]at this;omega
 have d:∀i,i+1<xs.length->(nth xs i).At+(nth xs i).Len<(nth xs (i+1)).At:=λi a=>by
  have:=dE h.1 a;unfold fG at this;simp only[I0,C0]at this;have:=this.2.resolve_left ω;simpa using this
 have k:∀j i,i<j->j<xs.length->(nth xs i).At+(nth xs i).Len<(nth xs j).At:=λj=>by
  induction j with
  | zero=>intro i a;omega
  | succ j l=>
   intro i a c;have n:=d j c;by_cases e:i=j
   ·subst e;exact n
   ·have o:=l i ω ω
    have p:=b j ω;omega
 refine⟨⟨?_,λy f=>?_⟩,λy f=>?_⟩
 ·rw[List.pairwise_iff_getElem]
  intro i j a c g;have:=k j i g c
  rwa [bo (U1 a),bo (U1 c)]at this
 ·obtain⟨i,a,rfl⟩:=aZ f
  exact(b i a).1
 ·obtain⟨i,a,rfl⟩:=aZ f
  have:=b i a;omega
theorem iT{α:Type}[Inhabited α]{xs:List α}{i:Nat}(a:i<xs.length):xs.drop i=nth xs i::xs.drop (i+1):=by
 rw[List.drop_eq_getElem_cons a,bo (U1 a)]
def d2(pages:Int)(xs:List aA)(r:aA):Option (List aA):=if bv pages xs=true/\rangeIn pages r=true then jq xs r [] false else none
def Eb(xs:List aA)(o:Option (List aA)):List C:=bI .own (o.getD xs)++[B o.isSome]
theorem r7(xs:List aA)(o:Option (List aA)):gE (Eb xs o):=aY (nr _) ⟨trivial,trivial⟩
theorem uz{α:Type}[Inhabited α](R:Int->Int->Prop)(n:∀a b c,R a b->R b c->R a c)(f:α->Int)(xs:List α):(∀i,i<xs.length->i=0\/R (f (nth xs (i - 1))) (f (nth xs i)))↔xs.Pairwise (λa b=>R (f a) (f b)):=by
 constructor
 ·intro h
  have o:∀j i,i<j->j<xs.length->R (f (nth xs i)) (f (nth xs j)):=λj=>by
   induction j with
   | zero=>intro i d;omega
   | succ j p=>
    intro i d g;have k:=(h (j+1) g).resolve_left ω;rw[show j+1 - 1=j from rfl]at k;by_cases e:i=j
    ·subst e;exact k
    ·exact n _ _ _ (p i ω ω) k
  rw[List.pairwise_iff_getElem];intro i j d g l;have:=o j i l g
  rwa [bo (U1 d),bo (U1 g)]at this
 ·intro h i d
  by_cases e:i=0
  ·exact .inl e
  ·right
   have:=List.pairwise_iff_getElem.1 h (i - 1) i ω d ω
   rwa [<-bo (U1 (show i - 1<xs.length by omega)),<-bo (U1 d)]at this
theorem ya{α:Type}[Inhabited α](f:α->Int)(xs:List α):(∀i,i<xs.length->∀o∈xs.take i,f o≠f (nth xs i))↔(xs.map f).Nodup:=by
 unfold List.Nodup;rw[List.pairwise_map,List.pairwise_iff_getElem];constructor
 ·intro h i j a b c
  have:=h j b xs[i] (List.mem_take_iff_getElem.2 ⟨i,ω,rfl⟩)
  rwa [bo (U1 b)]at this
 ·intro h i a o d
  obtain⟨j,b,rfl⟩:=List.mem_take_iff_getElem.1 d;rw[bo (U1 a)];exact h j i ω a ω
def eP(s:au)(a:Int):Prop:=16*s.Page<=a/\a<=16*s.Page+15/\(a - 16*s.Page) % csz s.Class=0/\aS s.Bits ((a - 16*s.Page) / csz s.Class)=true
def jl(sp:List au)(a c:Int):Prop:=∃s∈sp,eP s a/\(c<0\/s.Class=c)
def P5(la:List a8)(a z:Int):Prop:=∃l∈la,a=16*l.Page/\l.Size=z
def Jx(sp:List au)(la:List a8)(o:bB):Prop:=(∃s∈sp,eP s o.Addr/\s.Class=aK o.Size)\/P5 la o.Addr o.Size
def Live(sp:List au)(la:List a8)(a:Int):Prop:=jl sp a (-1)\/∃l∈la,a=16*l.Page
theorem lH{sp:List au}{la:List a8}(f:pm sp la)(a:Int):(∃i,i<sp.length/\(16*(nth sp i).Page<=a/\a<=16*(nth sp i).Page+15)/\denotes sp la a=mX i (nth sp i) a)\/((∀s∈sp,¬(16*s.Page<=a/\a<=16*s.Page+15))/\((∃i,i<la.length/\bk (nth la i) a=true/\denotes sp la a = ⟨3,i,0,a - 16*(nth la i).Page⟩)\/((∀l∈la,bk l a=false)/\denotes sp la a = ⟨0,0,0,0⟩))):=by
 cases c:sp.findIdx? (ca · a) with
 | some i=>
  obtain⟨b,d,-⟩:=I5.1 c;rw[<-bo (U1 b)]at d;exact .inl ⟨i,b,(eS (f.sok _ (am b))).1 d,by unfold denotes;rw[c]⟩
 | none=>
  have h:=List.findIdx?_eq_none_iff.1 c;refine .inr ⟨λs g j=>?_,?_⟩
  ·have:=h s g
   rw[(eS (f.sok _ g)).2 j]at this;cases this
  cases e:la.findIdx? (bk · a) with
  | some i=>
   obtain⟨b,d,-⟩:=I5.1 e;rw[<-bo (U1 b)]at d;exact .inl ⟨i,b,d,by unfold denotes;rw[c,e]⟩
  | none=>exact .inr ⟨List.findIdx?_eq_none_iff.1 e,by unfold denotes;rw[c,e]⟩
theorem HW{h:ab}(k:pm h.Spans h.Larges){a c:Int} : cU h a c=true↔jl h.Spans a c:=by
 unfold cU;simp only[I0,X4,C0];constructor
 ·rintro⟨⟨b,j⟩,d⟩
  rcases lH k a with⟨i,g,l,f⟩|⟨-,⟨i,g,-,f⟩|⟨-,f⟩⟩
  ·rw[f]at b j d
   simp only[mX]at b j d;refine⟨_,am g,⟨l.1,l.2,j,?_⟩,by simpa using d⟩;cases e:aS (nth h.Spans i).Bits ((a - 16*(nth h.Spans i).Page) / csz (nth h.Spans i).Class) with
   | true=>rfl
   | false=>rw[e]at b;simp at b
  ·rw[f]at b;simp at b
  ·rw[f]at b;simp at b
 ·rintro⟨s,n,⟨o,p,q,r⟩,d⟩
  obtain⟨i,g,rfl⟩:=aZ n;rw[iM k g ⟨o,p⟩];simp only[mX,q,r,if_true,true_and];simpa using d
theorem vg{sp:List au}{la:List a8}(a:pm sp la){l:a8}(b:l∈la):(∀s∈sp,¬(16*s.Page<=16*l.Page/\16*l.Page<=16*s.Page+15))/\bk l (16*l.Page)=true/\∀i,i<la.length->bk (nth la i) (16*l.Page)=true->nth la i=l:=by
 have k:=aR (a.lok _ b);have f:=co (a.lok _ b);refine⟨λs g n=>?_,?_,λi d e=>?_⟩
 ·exact a.dis s g l b 0 ω ω
 ·unfold bk;rw[a.lok _ b,O0 ω];rfl
 ·obtain⟨j,h,rfl⟩:=aZ b
  have o:=aR (a.lok _ (am d));have c:=a.lok _ (am d);unfold bP at c;rw[C0]at c;unfold bk at e;rw[I0,C0]at e;rw[a.one i j d h ((nth la j).Page - (nth la i).Page).toNat 0 ω ω ω]
theorem KO{h:ab}(f:pm h.Spans h.Larges){o:bB} : ix h o=true↔Jx h.Spans h.Larges o:=by
 unfold ix;simp only[I0,X4,C0];constructor
 ·rintro⟨d,a⟩
  rcases lH f o.Addr with⟨i,b,g,c⟩|⟨-,⟨i,b,-,c⟩|⟨-,c⟩⟩
  ·rw[c]at a d
   simp only[mX]at a d;have j:aS (nth h.Spans i).Bits ((o.Addr - 16*(nth h.Spans i).Page) / csz (nth h.Spans i).Class)=true:=by
    cases e:aS (nth h.Spans i).Bits ((o.Addr - 16*(nth h.Spans i).Page) / csz (nth h.Spans i).Class) with
    | true=>rfl
    | false=>rw[e]at a;simp at a
   rw[j]at a;exact .inl ⟨_,am b,⟨g.1,g.2,d,j⟩,by simpa using a⟩
  ·rw[c]at a d
   simp only at a d;exact .inr ⟨_,am b,ω,by simpa using a⟩
  ·rw[c]at a;simp at a
 ·rintro(⟨s,j,⟨p,q,r,t⟩,u⟩|⟨l,k,w,y⟩)
  ·obtain⟨i,b,rfl⟩:=aZ j
   rw[iM f b ⟨p,q⟩];simp only[mX,r,t,if_true,true_and];simp[u]
  ·obtain⟨A,n,B⟩:=vg f k
   rw[w];rcases lH f (16*l.Page) with⟨i,b,g,c⟩|⟨-,⟨i,b,C,c⟩|⟨D,c⟩⟩
   ·exact absurd g (A _ (am b))
   ·rw[c]
    have:=B i b C;simp only[this,C2];exact⟨ω,.inr ⟨trivial,y⟩⟩
   ·rw[D l k]at n;cases n
theorem Bq{sp:List au}{la:List a8}(d:pm sp la)(a:Int):a∈fI sp la↔Live sp la a:=by
 constructor
 ·intro h
  unfold fI kj at h;obtain⟨n,o,rfl⟩:=T3.1 h;have g:=(U3.1 o).2;unfold jn at g;simp only[I0,X4,C0]at g;obtain⟨j,f⟩:=g;rcases lH d (n:Int) with⟨i,c,k,b⟩|⟨-,⟨i,c,-,b⟩|⟨-,b⟩⟩
  ·rw[b]at f j
   simp only[mX]at f j;refine .inl ⟨_,am c,⟨k.1,k.2,j,?_⟩,.inl ω⟩;cases e:aS (nth sp i).Bits (((n:Int) - 16*(nth sp i).Page) / csz (nth sp i).Class) with
   | true=>rfl
   | false=>rw[e]at f;simp at f
  ·rw[b]at j
   simp only at j;exact .inr ⟨_,am c,ω⟩
  ·rw[b]at f;simp at f
 ·rintro(⟨s,r,⟨t,g,u,w⟩,-⟩|⟨l,p,rfl⟩)
  ·obtain⟨i,c,rfl⟩:=aZ r
   have b:=iM d c ⟨t,g⟩;exact uB d (by rw[b];exact u) (.inl (by rw[b];simp only[mX,w,if_true]))
  ·obtain⟨y,q,A⟩:=vg d p
   rcases lH d (16*l.Page) with⟨i,c,k,b⟩|⟨-,⟨i,c,B,b⟩|⟨o,b⟩⟩
   ·exact absurd k (y _ (am c))
   ·have:=A i c B
    exact uB d (by rw[b];simp only[this];omega) (.inr (by rw[b]))
   ·rw[o l p]at q;cases q
def RH(xs:List aA)(p:Int):Prop:=∃r∈xs,r.At<=p/\p<r.At+r.Len
theorem fj{pages:Int}{xs:List aA} : bv pages xs=true↔nO xs/\(∀y∈xs,0<=y.At/\1<=y.Len/\y.At+y.Len<=pages)/\1<=pages/\pages<=32:=by
 constructor
 ·intro h
  obtain⟨a,b⟩:=Aa h;unfold bv at h;simp only[I0,C0]at h;exact⟨a,b,h.2⟩
 ·rintro⟨a,b,d⟩
  unfold bv;simp only[I0,C0];refine⟨cn.2 λi c=>?_,d⟩;have f:=b _ (am c);unfold fG rangeIn;simp only[I0,C0];refine⟨ω,?_⟩;by_cases e:i=0
  ·exact .inl e
  ·right
   have:=List.pairwise_iff_getElem.1 a.1 (i - 1) i ω c ω
   rwa [<-bo (U1 (show i - 1<xs.length by omega)),<-bo (U1 c)]at this
theorem By{pages:Int}{xs:List aA}(h:bv pages xs=true)(p:Int):xs.any (pF p)=true↔RH xs p:=by
 obtain⟨-,c,d⟩:=fj.1 h;rw[C3];refine⟨λ⟨r,a,b⟩=>⟨r,a,?_⟩,λ⟨r,a,b⟩=>⟨r,a,?_⟩⟩
 ·have:=c r a
  unfold pF at b;rw[ef ω ω]at b;simpa using b
 ·have:=c r a
  unfold pF;rw[ef ω ω];simpa using b
theorem uD(u:Int):∀(h:List aA)(r:aA)(out:List aA),nO h->1<=r.Len->(∀y∈h,ovl y r=false)->(∀z∈out,z.At+z.Len<r.At/\∀y∈h,z.At+z.Len<y.At)->nO out->(∀y∈r::(out++h),0<=y.At/\y.At+y.Len<=u)->∃o,jq h r out false=some o/\nO o/\(∀y∈o,0<=y.At/\y.At+y.Len<=u)/\∀p,RH o p↔RH out p\/RH h p\/(r.At<=p/\p<r.At+r.Len)
 | [],r,out,_,A,_,k,l,f=>by
  refine⟨out++[r],by simp[jq],⟨List.pairwise_append.2 ⟨l.1,List.pairwise_singleton ..,λa B b f=>by rw[Z0.1 f];exact(k a B).1⟩,λy n=>?_⟩,λy n=>f y (by simp at n |-;grind),λp=>by unfold RH;simp[or_and_right,exists_or]⟩;rcases O2.1 n with n|n
  ·exact l.2 y n
  ·rw[Z0.1 n];exact A
 | y::h,r,out,g,A,H,k,l,f=>by
  have K:=g.2 y (O1 ..);have q:=H y (O1 ..);have j:=g.head;have O:=f y (by simp);have P:=f r (by simp);have C:∀w∈h,¬(w.At<r.At+r.Len/\r.At<w.At+w.Len):=λw d=>by
   have:=H w (C4 _ d);unfold ovl at this;simpa using this
  have t:∀w∈h,1<=w.Len:=λw d=>g.2 w (C4 _ d)
  rw[G2,C7 (by rw[q];simp)];unfold ovl at q;rw[X3]at q;by_cases L:y.At+y.Len=r.At
  ·rw[C8 L]
   obtain⟨o,D,E,F,G⟩:=uD u h ⟨y.At,y.Len+r.Len⟩ out g.tail (by simp only;omega) (λw d=>by
     have a:=j w d;have b:=C w d;have c:=t w d;unfold ovl;rw[X3];simp only;omega) (λz i=>⟨(k z i).2 y (O1 ..),λw d=>(k z i).2 w (C4 _ d)⟩) l (λw d=>by
     rcases List.mem_cons.1 d with rfl|d
     · simp only;omega
     · exact f w (by simp at d |-;grind))
   refine⟨o,D,E,F,λp=>?_⟩;rw[G];unfold RH;simp only[List.mem_cons,exists_eq_or_imp]
   grind
  rw[C7 L];by_cases M:r.At+r.Len=y.At
  ·rw[C8 M]
   obtain⟨o,D,E,F,G⟩:=uD u h ⟨r.At,r.Len+y.Len⟩ out g.tail (by simp only;omega) (λw d=>by
     have a:=j w d;have b:=C w d;have c:=t w d;unfold ovl;rw[X3];simp only;omega) (λz i=>⟨(k z i).1,λw d=>(k z i).2 w (C4 _ d)⟩) l (λw d=>by
     rcases List.mem_cons.1 d with rfl|d
     · simp only;omega
     · exact f w (by simp at d |-;grind))
   refine⟨o,D,E,F,λp=>?_⟩;rw[G];unfold RH;simp only[List.mem_cons,exists_eq_or_imp]
   grind
  rw[C7 M];by_cases N:y.At > r.At
  ·have J:r.At+r.Len<y.At:=ω
   rw[C8 ⟨N,rfl⟩,oJ g.tail A λw d=>by have:=j w d;omega];refine⟨_,rfl,⟨?_,λw d=>?_⟩,λw d=>f w (by simp at d |-;grind),λp=>by unfold RH;simp[or_and_right,exists_or];grind⟩
   ·rw[Q4]
    refine List.pairwise_append.2 ⟨l.1,?_,λa B b f=>?_⟩
    ·show(r::y::h).Pairwise _
     refine List.pairwise_cons.2 ⟨λw d=>?_,g.1⟩;rcases List.mem_cons.1 d with rfl|d
     ·exact J
     ·have:=j w d;omega
    ·obtain⟨Q,R⟩:=k a B
     have f:b∈r::y::h:=f;rcases List.mem_cons.1 f with rfl|f
     ·exact Q
     ·exact R b f
   ·simp only[O2,List.mem_cons,List.not_mem_nil,or_false]at d
    rcases d with(d|rfl|rfl)|d
    ·exact l.2 w d
    ·exact A
    ·exact K
    ·exact t w d
  rw[C7 λe=>N e.1];obtain⟨o,D,E,F,G⟩:=uD u h r (out++[y]) g.tail A (λw d=>H w (C4 _ d)) (λz i=>by
    rcases O2.1 i with i|i
    · exact⟨(k z i).1,λw d=>(k z i).2 w (C4 _ d)⟩
    · rw[Z0.1 i];exact⟨ω,j⟩) ⟨List.pairwise_append.2 ⟨l.1,List.pairwise_singleton ..,λa B b f=>by rw[Z0.1 f];exact(k a B).2 y (O1 ..)⟩,λw d=>by
      rcases O2.1 d with d|d
      · exact l.2 w d
      · rw[Z0.1 d];exact K⟩ (λw d=>f w (by simp at d |-;grind))
  refine⟨o,D,E,F,λp=>?_⟩;rw[G];unfold RH;simp[or_and_right,exists_or]
  grind
theorem tB{pages:Int}{xs:List aA}{r:aA}(h:bv pages xs=true)(j:0<=r.At/\1<=r.Len/\r.At+r.Len<=pages)(c:∀p,r.At<=p->p<r.At+r.Len->¬RH xs p):∃o,d2 pages xs r=some o/\bv pages o=true/\∀p,RH o p↔RH xs p\/(r.At<=p/\p<r.At+r.Len):=by
 obtain⟨k,d,l⟩:=fj.1 h;have b:rangeIn pages r=true:=by unfold rangeIn;rw[C0];omega
 unfold d2;rw[C8 ⟨h,b⟩];obtain⟨o,n,f,g,q⟩:=uD pages xs r [] k j.2.1 (λy a=>by
   have:=d y a;unfold ovl;rw[X3];intro i;by_cases e:r.At<=y.At
   · exact c y.At e i.1 ⟨y,a,ω,ω⟩
   · exact c r.At ω ω ⟨y,a,ω,i.2⟩) (λz t=>by cases t) ⟨List.Pairwise.nil,λy a=>by cases a⟩ (λy a=>by
   rcases List.mem_cons.1 a with rfl|a
   · omega
   · have:=d y (by simpa using a);omega)
 refine⟨o,n,fj.2 ⟨f,λy a=>⟨(g y a).1,f.2 y a,(g y a).2⟩,l⟩,λp=>?_⟩;rw[q];unfold RH;simp
structure Pg(t:aH)(fr:List aA)(sp:List au)(la:List a8):Prop where
 one:∀l∈la,∀p:Nat,(p:Int)∈lpgs l l.Pages.toNat->∀q:Nat,q<t.Entries.length->(nth t.Entries q).Mode≠0->(nth t.Entries q).Frame=(nth t.Entries p).Frame->q=p
 bnd:∀p∈pgs sp la,p<t.Entries.length
 own:∀p:Nat,p<t.Entries.length->((nth t.Entries p).Mode≠0↔(p:Int)∈pgs sp la)
 fre:∀p:Nat,p<t.Entries.length->((nth t.Entries p).Mode≠0↔¬RH fr p)
 mesh:∀s∈sp,∀u∈sp,s.Page≠u.Page->(nth t.Entries s.Page.toNat).Frame=(nth t.Entries u.Page.toNat).Frame->meshable s u=true
structure bp(h:ab)(E:List Int):Prop where
 ker:aB h.Kernel=true
 rng:bv (dQ h) h.Free=true
 lay:bc h.Spans h.Larges=true
 srs:h.Spans.Pairwise λa b=>a.Page<b.Page
 srl:h.Larges.Pairwise λa b=>a.Page<b.Page
 pg:Pg (tbl h) h.Free h.Spans h.Larges
 mail:bz h.Mail=true
 nc:h.Caches.length=h.Mail.Buffers.length
 quar:eZ h.Quar=true
 snc:∀x∈h.Quar.Lst,x.Since<=h.Clock
 cach:∀c∈h.Caches,bm c=true
 nums:cb h=true
 osr:h.Objs.Pairwise λa b=>a.Addr<b.Addr
 onu:∀o∈h.Objs,1<=o.Id/\o.Id<=h.Next - 1/\0<=o.Thread/\o.Thread<=h.Caches.length - 1
 oid:(h.Objs.map (·.Id)).Nodup
 oow:∀o∈h.Objs,Jx h.Spans h.Larges o
 hca:∀c∈h.Caches,∀k:Nat,k<c.Lists.length->∀a∈nth c.Lists k,jl h.Spans a k
 hqu:∀x∈h.Quar.Lst,jl h.Spans x.Addr x.Class
 hfl:∀a∈aC h.Mail,jl h.Spans a (-1)
 hin:∀a∈E,jl h.Spans a (-1)
 nd:(E++holders h).Nodup
 mem:∀a,a∈E++holders h↔Live h.Spans h.Larges a
 job:h.Meshing=true->jf h.Job=true/\(∃s∈h.Spans,s.Page=h.Job.Plan.Keep)/\∃s∈h.Spans,s.Page=h.Job.Plan.Move
 noj:h.Meshing=false->qK h.Job=true
theorem bp.L{h:ab}{E:List Int}(a:bp h E):pm h.Spans h.Larges:=pm.of a.lay
theorem xK(t:aH)(f:Int):(pagesOn t f).Nodup:=by
 unfold pagesOn iW List.Nodup;rw[List.pairwise_map];exact(List.nodup_range.sublist List.filter_sublist).imp λh e=>h ω
theorem Ly{l:List Int}{a:Int}(b:l.Nodup)(d:a∈l)(c:∀x∈l,x=a):l.length=1:=by
 match l with
 | []=>cases d
 | [_]=>rfl
 | x::y::r=>
  exfalso;have e:=c x (by simp);have f:=c y (by simp);rw[e,f]at b;simp at b
theorem d8{sp:List au}{la:List a8}{s:au}(a:s∈sp):s.Page∈pgs sp la:=by
 unfold pgs;exact O2.2 (.inl (T3.2 ⟨s,a,rfl⟩))
theorem fm{sp:List au}{la:List a8}{l:a8}(a:l∈la){p:Int}(b:p∈lpgs l l.Pages.toNat):p∈pgs sp la:=by
 unfold pgs;exact O2.2 (.inr (List.mem_flatMap.2 ⟨l,a,b⟩))
theorem P3{h:ab}(n:bc h.Spans h.Larges=true)(P:bv (dQ h) h.Free=true)(J:pages0 h=true)(t:mS h=true):Pg (tbl h) h.Free h.Spans h.Larges:=by
 have Q:=pm.of n;obtain⟨R,y,K⟩:=qZ J;have S:∀p:Nat,p<dQ h->((nth (tbl h).Entries p).Mode≠0↔¬RH h.Free p):=λp a=>by
  have d:=J;unfold pages0 at d;simp only[I0]at d;have A:=dE d.2 a;unfold tP at A;rw[I0]at A;have L:=A.2;rw[<-By P];cases e:h.Free.any (pF (p:Int))<;>rw[e]at L<;>simpa using L
 refine⟨λl B p f q T C D=>?_,y,K,S,λs U u V E M=>?_⟩
 ·obtain⟨i,o,rfl⟩:=aZ B
  obtain⟨k,w,F⟩:=di.1 f;have a:p<dQ h:=by have:=y _ (fm (sp:=h.Spans) B f);omega
  have r:=(K p a).2 (fm B f);have b:=R i o k w;rw[<-F,ew a r]at b;have N:(p:Int)∈pagesOn (tbl h) (nth (tbl h).Entries p).Frame:=d9.2 ⟨a,r,rfl⟩;have O:(q:Int)∈pagesOn (tbl h) (nth (tbl h).Entries p).Frame:=d9.2 ⟨T,C,D⟩;obtain⟨z,W⟩:=List.length_eq_one_iff.1 b;rw[W]at N O;simp only[Z0]at N O;omega
 ·obtain⟨i,o,rfl⟩:=aZ U
  obtain⟨j,G,rfl⟩:=aZ V;have c:∀k,k<h.Spans.length->ar (tbl h) (nth h.Spans k).Page=nth (tbl h).Entries (nth h.Spans k).Page.toNat:=λk w=>by
   have X:=aE (Q.sok _ (am w));have Y:=y _ (d8 (la:=h.Larges) (am w));rw[show(nth h.Spans k).Page=(((nth h.Spans k).Page.toNat:Nat):Int) by omega];exact wR ω
  unfold mS at t;rw[cn]at t;rcases Nat.lt_trichotomy i j with g|H|g
  ·have b:=dE (t j G) g
   unfold jU at b;rw[c i o,c j G,X4,C0]at b;rw[iK];exact b.resolve_left λe=>e M.symm
  ·subst H;exact absurd rfl E
  ·have b:=dE (t i o) g
   unfold jU at b;rw[c i o,c j G,X4,C0]at b;exact b.resolve_left λe=>e M
theorem GQ(sp:List au):cE sp.length (vQ sp)=true↔sp.Pairwise λa b=>a.Page<b.Page:=by
 rw[cn];refine Iff.trans ?_ (uz (λa b:Int=>a<b) (λa b c=>Int.lt_trans) (λs:au=>s.Page) sp);unfold vQ;simp only[C0]
theorem HB(la:List a8):cE la.length (vz la)=true↔la.Pairwise λa b=>a.Page<b.Page:=by
 rw[cn];refine Iff.trans ?_ (uz (λa b:Int=>a<b) (λa b c=>Int.lt_trans) (λs:a8=>s.Page) la);unfold vz;simp only[C0]
theorem NS{h:ab}(r:bc h.Spans h.Larges=true)(D:bv (dQ h) h.Free=true)(h1:h.Spans.Pairwise λa b=>a.Page<b.Page)(E:h.Larges.Pairwise λa b=>a.Page<b.Page)(c:Pg (tbl h) h.Free h.Spans h.Larges):pages0 h=true/\mS h=true:=by
 have A:=pm.of r;constructor
 ·unfold pages0
  simp only[I0];refine⟨⟨⟨(GQ _).2 h1,cn.2 λi o=>?_⟩,I3.2 λp d=>O0 (c.bnd p d)⟩,cn.2 λp d=>?_⟩
  ·unfold sB
   rw[I0];refine⟨dE ((HB _).2 E) o,cn.2 λk w=>?_⟩;have y:=am o;have L:=aR (A.lok _ y);obtain⟨p,d⟩ : ∃p:Nat,(nth h.Larges i).Page+(k:Nat)=(p:Nat):=⟨((nth h.Larges i).Page+k).toNat,ω⟩
   have g:(p:Int)∈lpgs (nth h.Larges i) (nth h.Larges i).Pages.toNat:=di.2 ⟨k,w,d.symm⟩;have l:p<dQ h:=by have:=c.bnd _ (fm (sp:=h.Spans) y g);exact Int.ofNat_lt.1 this
   have t:=(c.own p l).2 (fm y g);unfold vT;rw[C0,d,ew l t];refine Ly (xK ..) (d9.2 ⟨l,t,rfl⟩) λx C=>?_
   obtain⟨q,rfl⟩:=tK C;obtain⟨F,G,H⟩:=d9.1 C;rw[c.one _ y p g q F G H]
  ·unfold tP
   rw[I0,C0];refine⟨c.own p d,?_⟩;have B:=c.fre p d;rw[<-By D]at B;cases e:h.Free.any (pF (p:Int))<;>rw[e]at B<;>simpa using B
 ·unfold mS
  refine cn.2 λi o=>cn.2 λj M=>?_
  have n:j<h.Spans.length:=ω
  have u:∀k,k<h.Spans.length->ar (tbl h) (nth h.Spans k).Page=nth (tbl h).Entries (nth h.Spans k).Page.toNat:=λk w=>by
   have N:=aE (A.sok _ (am w));have J:=c.bnd _ (d8 (la:=h.Larges) (am w));rw[show(nth h.Spans k).Page=(((nth h.Spans k).Page.toNat:Nat):Int) by omega];exact wR (by unfold dQ;unfold tbl at J;omega)
  unfold jU;rw[u i o,u j n,X4,C0];by_cases e:(nth (tbl h).Entries (nth h.Spans i).Page.toNat).Frame=(nth (tbl h).Entries (nth h.Spans j).Page.toNat).Frame
  ·refine .inr (c.mesh _ (am o) _ (am n) (λK=>?_) e)
   have:=gF (f:=(·.Page)) A.nd o n K;omega
  ·exact .inl e
theorem JO{h:ab}(n:cb h=true)(q:pm h.Spans h.Larges):ee h=true↔(h.Objs.Pairwise λa b=>a.Addr<b.Addr)/\(∀o∈h.Objs,1<=o.Id/\o.Id<=h.Next - 1/\0<=o.Thread/\o.Thread<=h.Caches.length - 1)/\(h.Objs.map (·.Id)).Nodup/\∀o∈h.Objs,Jx h.Spans h.Larges o:=by
 unfold cb at n;rw[C0]at n;refine Iff.trans ?_ (and_congr (uz (λa b:Int=>a<b) (λa b c=>Int.lt_trans) (λo:bB=>o.Addr) h.Objs) (and_congr Iff.rfl (and_congr (ya (λo:bB=>o.Id) h.Objs) Iff.rfl)));unfold ee;rw[ef ω ω,cn];have p:∀i,i<h.Objs.length->(objAt (h.Next - 1) h i=true↔(i=0\/(nth h.Objs (i - 1)).Addr<(nth h.Objs i).Addr)/\(1<=(nth h.Objs i).Id/\(nth h.Objs i).Id<=h.Next - 1/\0<=(nth h.Objs i).Thread/\(nth h.Objs i).Thread<=h.Caches.length - 1)/\(∀o∈h.Objs.take i,o.Id≠(nth h.Objs i).Id)/\Jx h.Spans h.Larges (nth h.Objs i)):=λi d=>by
  unfold objAt fZ;rw[I0,I0,C0,KO q,Bool.not_eq_true',List.any_eq_false];simp only[js,C0];constructor
  ·rintro⟨⟨⟨e,f⟩,g⟩,j⟩;exact⟨e,f,g,j⟩
  ·rintro⟨e,f,g,j⟩;exact⟨⟨⟨e,f⟩,g⟩,j⟩
 constructor
 ·intro r
  have k:=λi d=>(p i d).1 (r i d)
  refine⟨λi d=>(k i d).1,λo l=>?_,λi d=>(k i d).2.2.1,λo l=>?_⟩
  ·obtain⟨i,d,rfl⟩:=aZ l;exact(k i d).2.1
  ·obtain⟨i,d,rfl⟩:=aZ l;exact(k i d).2.2.2
 ·rintro⟨e,f,g,j⟩ i d
  exact(p i d).2 ⟨e i d,f _ (am d),g i d,j _ (am d)⟩
theorem ED{h:ab}(b:pm h.Spans h.Larges):gh h=true↔(∀c∈h.Caches,∀k:Nat,k<c.Lists.length->∀a∈nth c.Lists k,jl h.Spans a k)/\(∀x∈h.Quar.Lst,jl h.Spans x.Addr x.Class)/\∀a∈aC h.Mail,jl h.Spans a (-1):=by
 rw[iZ];simp only[I3,ec,cn,qr,gB,iP,HW b,and_assoc]
theorem FZ{p:Int}{h:ab} : 0<=eU h p↔∃s∈h.Spans,s.Page=p:=by
 unfold eU;rw[show(0<=cy (jr p) h.Spans)↔(decide (cy (jr p) h.Spans≥0)=true) by simp,f7,C3];simp[jr]
theorem bp.to{h:ab}(b:bp h []):dD h=true:=by
 have d:=b.L;obtain⟨g,j⟩:=NS b.lay b.rng b.srs b.srl b.pg;have e:=(JO b.nums d).2 ⟨b.osr,b.onu,b.oid,b.oow⟩;have f:=(ED d).2 ⟨b.hca,b.hqu,b.hfl⟩;unfold dD lf;simp only[I0];refine⟨⟨⟨⟨⟨⟨⟨⟨⟨⟨b.ker,b.rng⟩,b.lay⟩,g⟩,by rw[yM b.lay g];exact j⟩,?_⟩,?_⟩,I3.2 b.cach⟩,b.nums⟩,e,?_⟩,?_⟩
 ·unfold df
  rw[b.mail,b.quar,O0 b.nc];rfl
 ·unfold kM
  exact I3.2 λx k=>O0 (b.snc x k)
 ·unfold ik
  have i:(holders h).Nodup:=by simpa using b.nd
  have c:∀a,a∈holders h↔a∈fI h.Spans h.Larges:=λa=>by rw[Bq d,<-b.mem a];simp
  have l:(holders h).Perm (fI h.Spans h.Larges):=(List.perm_ext_iff_of_nodup i (kF ..)).2 c;rw[f,O0 i,O0 l.length_eq];rfl
 ·unfold tF
  cases c:h.Meshing with
  | true=>
   obtain⟨n,o,p⟩:=b.job c;rw[C8 rfl,n,O0 (FZ.2 o),O0 (FZ.2 p)];rfl
  | false=>rw[C7 (by simp)];exact b.noj c
def dele{α:Type}(xs:List α)(i:Nat):List α:=xs.take i++xs.drop (i+1)
theorem fw{α:Type}(xs:List α)(i:Nat):(dele xs i).Sublist xs:=by
 unfold dele;rw[<-List.eraseIdx_eq_take_drop_succ];exact List.eraseIdx_sublist ..
theorem oK{α:Type}[Inhabited α]{xs:List α}{i:Nat}(a:i<xs.length):xs.Perm (nth xs i::dele xs i):=by
 have:xs=xs.take i++nth xs i::xs.drop (i+1):=by rw[<-iT a,List.take_append_drop]
 conv=>lhs;rw[this]
 exact List.perm_middle
theorem ib{α:Type}[Inhabited α](f:α->List Int)(a:Int):∀(xs:List α)(i:Nat)(y:α),i<xs.length->((xs.set i y).flatMap f).count a+(f (nth xs i)).count a=(xs.flatMap f).count a+(f y).count a
 | [],i,_,h=>by cases h
 | x::xs,0,y,_=>by
  show((y::xs).flatMap f).count a+(f x).count a=((x::xs).flatMap f).count a+(f y).count a;rw[v5,v5,V4,V4];omega
 | x::xs,i+1,y,h=>by
  have:=ib f a xs i y (by simpa using h);show((x::xs.set i y).flatMap f).count a+(f (nth xs i)).count a=((x::xs).flatMap f).count a+(f y).count a;rw[v5,v5,V4,V4];omega
theorem jL(a:List (List Int)):a.flatten=a.flatMap λx=>x:=by
 induction a with
 | nil=>rfl
 | cons x xs b=>rw[List.flatten_cons,v5,b]
theorem jl.any{sp:List au}{a c:Int}(h:jl sp a c):jl sp a (-1):=by
 obtain⟨s,b,d,-⟩:=h;exact⟨s,b,d,.inl (by decide)⟩
theorem bp.cells{h:ab}{E:List Int}(a:bp h E){k:af}(c:aB k=true)(b:k.Machine.Table=h.Kernel.Machine.Table):bp {h with Kernel:=k} E:=
 {a with
   ker:=c
   rng:=by show bv ((k.Machine.Table.Entries.length:Nat):Int) h.Free=true;rw[b];exact a.rng
   pg:=by show Pg k.Machine.Table h.Free h.Spans h.Larges;rw[b];exact a.pg}
theorem bp.dropO{h:ab}{E:List Int}{i:Nat}(b:bp h E)(g:i<h.Objs.length)(j:jl h.Spans (nth h.Objs i).Addr (-1)):bp {h with Objs:=dele h.Objs i} ((nth h.Objs i).Addr::E):=by
 have f:(E++holders h).Perm (((nth h.Objs i).Addr::E)++holders {h with Objs:=dele h.Objs i}):=by
  have k:=(oK g).map (·.Addr);refine List.perm_iff_count.2 λa=>?_
  have l:=k.count_eq a;simp only[U4,List.count_cons]at l;simp only[holders,bQ,V4,List.cons_append,List.count_cons];omega
 have c:(dele h.Objs i).Sublist h.Objs:=fw ..;exact {b with
   osr:=b.osr.sublist c
   onu:=λo d=>b.onu o (c.subset d)
   oid:=b.oid.sublist (c.map _)
   oow:=λo d=>b.oow o (c.subset d)
   hin:=λa e=>by
     rcases List.mem_cons.1 e with rfl|e
     · exact j
     · exact b.hin a e
   nd:=f.nodup_iff.1 b.nd
   mem:=λa=>by rw[<-f.mem_iff];exact b.mem a}
def mn(c:ay)(k:Nat)(a:Int):ay:=⟨c.Lists.set k (nth c.Lists k++[a])⟩
theorem bp.put{h:ab}{E:List Int}{a:Int}{t k:Nat}(g:bp h (a::E))(l:t<h.Caches.length)(q:k<(nth h.Caches t).Lists.length)(r:jl h.Spans a k)(u:bm (mn (nth h.Caches t) k a)=true):bp {h with Caches:=h.Caches.set t (mn (nth h.Caches t) k a)} E:=by
 have n:(a::E++holders h).Perm (E++holders {h with Caches:=h.Caches.set t (mn (nth h.Caches t) k a)}):=by
  refine List.perm_iff_count.2 λb=>?_
  have w:=ib (λc:ay=>c.Lists.flatten) b h.Caches t (mn (nth h.Caches t) k a) l;have p:=ib (λx:List Int=>x) b (nth h.Caches t).Lists k (nth (nth h.Caches t).Lists k++[a]) q;rw[<-jL,<-jL]at p;simp only[V4,List.count_singleton]at p;simp only[mn]at w;simp only[holders,bQ,mn,V4,List.cons_append,List.count_cons];omega
 exact {g with
   nc:=by show(h.Caches.set ..).length=_;rw[C1];exact g.nc
   cach:=λc d=>by
     rcases Z4 d with d|rfl
     · exact g.cach c d
     · exact u
   onu:=by show ∀o∈h.Objs,1<=o.Id/\o.Id<=h.Next - 1/\0<=o.Thread/\o.Thread<=(h.Caches.set t _).length - 1;rw[C1];exact g.onu
   hca:=λc d j i b f=>by
     rcases Z4 d with d|rfl
     · exact g.hca c d j i b f
     · simp only[mn,C1]at i
       simp only[mn,cu]at f;by_cases e:k=j
       · subst e
         rw[C8 ⟨rfl,i⟩]at f;rcases O2.1 f with f|f
         · exact g.hca _ (am l) _ i b f
         · rw[Z0.1 f];exact r
       · rw[C7 λx=>e x.1]at f
         exact g.hca _ (am l) _ i b f
   hin:=λb f=>g.hin b (C4 _ f)
   nd:=n.nodup_iff.1 g.nd
   mem:=λb=>by rw[<-n.mem_iff];exact g.mem b}
theorem bp.toQuar{h:ab}{E:List Int}{x:aL}{q:bE}{out:List aL}(d:bp h (x.Addr::E))(i:eZ q=true)(f:h.Quar.Lst++[x]=out++q.Lst)(j:x.Since<=h.Clock)(k:jl h.Spans x.Addr x.Class):bp {h with Quar:=q} (out.map (·.Addr)++E):=by
 have c:∀y∈out++q.Lst,y.Since<=h.Clock/\jl h.Spans y.Addr y.Class:=λy a=>by
  rw[<-f]at a;rcases O2.1 a with a|a
  ·exact⟨d.snc y a,d.hqu y a⟩
  ·rw[Z0.1 a];exact⟨j,k⟩
 have g:(x.Addr::E++holders h).Perm ((out.map (·.Addr)++E)++holders {h with Quar:=q}):=by
  refine List.perm_iff_count.2 λb=>?_
  have n:=T0 (λl:List aL=>(l.map (·.Addr)).count b) f;simp only[R4,V4,U4,List.map_nil,List.count_singleton]at n;simp only[holders,bQ,V4,List.cons_append,List.count_cons];omega
 exact {d with
   quar:=i
   snc:=λy a=>(c y (O2.2 (.inr a))).1
   hqu:=λy a=>(c y (O2.2 (.inr a))).2
   hin:=λb e=>by
     rcases O2.1 e with e|e
     · obtain⟨y,a,rfl⟩:=T3.1 e
       exact(c y (O2.2 (.inl a))).2.any
     · exact d.hin b (C4 _ e)
   nd:=g.nodup_iff.1 d.nd
   mem:=λb=>by rw[<-g.mem_iff];exact d.mem b}
def wZ(b i:Int):Int:=((BitVec.ofInt IntKind.i64.bits b &&& ~~~BitVec.ofInt IntKind.i64.bits (2 ^ i.toNat)).toNat:Nat)
def mt(s:au)(i:Int):au:={s with Bits:=wZ s.Bits i}
theorem fS(b i:Int):aS b i=true↔0<=b/\0<=i/\i<=15/\b.toNat.testBit i.toNat=true:=by
 unfold aS;rw[C0];refine and_congr_right λa=>and_congr_right λc=>and_congr_right λ_=>?_
 obtain⟨n,rfl⟩:=I2 a;rw[Nat.testBit_eq_decide_div_mod_eq,C0,C2]
 norm_cast
theorem BB{b i:Int}(f:0<=b/\b<=65535)(a:0<=i/\i<=15)(j:Nat):(wZ b i).toNat.testBit j=(b.toNat.testBit j&&decide (i.toNat≠j)):=by
 have g:(2:Int) ^ i.toNat<=32768/\0<=(2:Int) ^ i.toNat:=by
  obtain⟨n,rfl⟩:=I2 a.1;rw[C2];have:(2:Nat) ^ n<=2 ^ 15:=Nat.pow_le_pow_right (by decide) ω;have c:((2 ^ n:Nat):Int)=(2:Int) ^ n:=Int.natCast_pow 2 n;rw[<-c];exact⟨Int.ofNat_le.2 this,Int.natCast_nonneg _⟩
 unfold wZ;rw[C2,BitVec.testBit_toNat,BitVec.getLsbD_and,BitVec.getLsbD_not,<-BitVec.testBit_toNat,<-BitVec.testBit_toNat,mu ω,mu ω];rw[show((2:Int) ^ i.toNat).toNat=2 ^ i.toNat by rw[show(2:Int) ^ i.toNat=((2 ^ i.toNat:Nat):Int) by norm_cast,C2],Nat.testBit_two_pow];by_cases d:j<64
 ·rw[show decide (j<IntKind.i64.bits)=true from O0 d,Bool.true_and]
  congr 1
  by_cases e:i.toNat=j
  ·rw[O0 e,Q0 (λx=>x e)];rfl
  ·rw[Q0 e,O0 e];rfl
 ·rw[Nat.testBit_lt_two_pow (x:=b.toNat) (i:=j) (v3 (show b.toNat<2 ^ 16 by omega) (Nat.pow_le_pow_right (by decide) ω))]
  rfl
theorem zL{b i:Int}(a:0<=b/\b<=65535):0<=wZ b i/\wZ b i<=b:=by
 unfold wZ;refine⟨ω,?_⟩;rw[BitVec.toNat_and,mu ω];have:=Nat.and_le_left (n:=b.toNat) (m:=(~~~BitVec.ofInt IntKind.i64.bits (2 ^ i.toNat)).toNat);omega
theorem Kt{b i:Int}(a:0<=b/\b<=65535)(h:0<=i/\i<=15)(j:Int):aS (wZ b i) j=true↔aS b j=true/\j≠i:=by
 rw[fS,fS,BB a h,I0,C0];have:=zL (i:=i) a;constructor
 ·rintro⟨k,c,d,f,g⟩;exact⟨⟨a.1,c,d,f⟩,λe=>g (by rw[e])⟩
 ·rintro⟨⟨k,c,d,f⟩,g⟩;exact⟨this.1,c,d,f,λe=>g ω⟩
theorem er{s:au}(h:aX s=true):0<=s.Bits/\s.Bits<=65535:=by
 unfold aX at h;simp only[C0]at h;have:=ES s.Class;omega
theorem Fp{s:au}(h:aX s=true)(i:Int):aX (mt s i)=true:=by
 have b:=er h;have a:=zL (i:=i) b;unfold aX at h;rw[C0]at h;obtain⟨c,d,e,f,j,g⟩:=h;exact O0 ⟨c,d,e,f,a.1,Int.le_trans a.2 g⟩
theorem rF{s u:au}(a:aX s=true){i:Int}(b:0<=i/\i<=15)(h:meshable s u=true):meshable (mt s i) u=true:=by
 unfold meshable at h |-;simp only[I0,C0]at h |-;obtain⟨⟨c,d⟩,e,f,g⟩:=h;refine⟨⟨Fp c i,d⟩,e,f,?_⟩;refine Nat.eq_of_testBit_eq λj=>?_
 have:=T0 (λn=>Nat.testBit n j) g;simp only[Nat.testBit_and,Nat.zero_testBit,mt,BB (er a) b]at this |-;cases k:s.Bits.toNat.testBit j<;>cases l:u.Bits.toNat.testBit j<;>rw[k,l]at this<;>simp_all
def dX(s:au)(a:Int):Int:=(a - 16*s.Page) / csz s.Class
theorem sG{s:au}(h:aX s=true){a:Int}(c:16*s.Page<=a/\a<=16*s.Page+15):0<=dX s a/\dX s a<=15:=by
 have b:=aE h;unfold dX;rcases bO ⟨b.2.2.1,b.2.2.2⟩ with e|e|e|e<;>rw[e]<;>omega
theorem DV{s:au}(h:aX s=true){a b:Int}(d:(a - 16*s.Page) % csz s.Class=0)(f:(b - 16*s.Page) % csz s.Class=0)(e:dX s a=dX s b):a=b:=by
 have c:=aE h;unfold dX at e;rcases bO ⟨c.2.2.1,c.2.2.2⟩ with z|z|z|z<;>rw[z]at d f e<;>omega
theorem yH{s:au}(h:aX s=true){a:Int}(k:eP s a)(b:Int):eP (mt s (dX s a)) b↔eP s b/\b≠a:=by
 obtain⟨l,n,o,p⟩:=k;have d:=sG h ⟨l,n⟩;unfold eP;simp only[mt];rw[Kt (er h) d];constructor
 ·rintro⟨f,g,c,i,j⟩
  exact⟨⟨f,g,c,i⟩,λe=>j (by rw[e];rfl)⟩
 ·rintro⟨⟨f,g,c,i⟩,j⟩
  exact⟨f,g,c,i,λe=>j (DV h c o e)⟩
theorem eK{α:Type}[Inhabited α]{xs:List α}{i:Nat}{y z:α}(h:z∈xs.set i y):z=y\/∃j,j<xs.length/\j≠i/\nth xs j=z:=by
 obtain⟨j,a,rfl⟩:=List.mem_iff_getElem.1 h;rw[List.getElem_set];by_cases e:i=j
 ·subst e;simp
 ·rw[C7 e]
  rw[C1]at a;exact .inr ⟨j,a,λx=>e x.symm,bo (U1 a)⟩
theorem iX{α:Type}[Inhabited α]{xs:List α}{i j:Nat}(y:α)(a:j<xs.length)(e:j≠i):nth xs j∈xs.set i y:=by
 have:nth (xs.set i y) j=nth xs j:=by rw[cu,C7 λx=>e x.1.symm]
 rw[<-this];exact am (by rw[C1];exact a)
theorem iq{α:Type}{xs:List α}{i:Nat}(y:α)(a:i<xs.length):y∈xs.set i y:=by
 refine List.mem_iff_getElem.2 ⟨i,by rw[C1];exact a,by simp⟩
theorem KC{sp:List au}{i:Nat}(k:Int)(a:i<sp.length):(sp.set i (mt (nth sp i) k)).map (·.Page)=sp.map (·.Page):=by
 rw[W4];refine List.ext_getElem (by simp) λj b c=>?_
 rw[List.getElem_set];split
 ·rename_i e;subst e
  rw[List.getElem_map];show(nth sp i).Page=_;rw[bo (U1 a)]
 ·rfl
theorem jl.set{sp:List au}{la:List a8}(q:pm sp la){i:Nat}(k:i<sp.length){a:Int}(l:eP (nth sp i) a)(b c:Int):jl (sp.set i (mt (nth sp i) (dX (nth sp i) a))) b c↔jl sp b c/\b≠a:=by
 have g:=q.sok _ (am k);constructor
 ·rintro⟨s,o,d,h⟩
  rcases eK o with rfl|⟨j,n,r,rfl⟩
  ·have:=(yH g l b).1 d
   exact⟨⟨_,am k,this.1,h⟩,this.2⟩
  ·refine⟨⟨_,am n,d,h⟩,λe=>?_⟩
   subst e;have:=gF (f:=(·.Page)) q.nd k n (by have t:=l.1;have u:=l.2.1;have w:=d.1;have y:=d.2.1;omega);omega
 ·rintro⟨⟨s,o,d,h⟩,p⟩
  obtain⟨j,n,rfl⟩:=aZ o;by_cases e:j=i
  ·subst e
   exact⟨_,iq _ k,(yH g l b).2 ⟨d,p⟩,h⟩
  ·exact⟨_,iX _ n e,d,h⟩
theorem bp.give{h:ab}{E:List Int}{a:Int}{i:Nat}(d:bp h (a::E))(J:i<h.Spans.length)(K:eP (nth h.Spans i) a):bp {h with Spans:=h.Spans.set i (mt (nth h.Spans i) (dX (nth h.Spans i) a))} E:=by
 have G:=d.L;have Q:=G.sok _ (am J);have M:=sG Q ⟨K.1,K.2.1⟩;have f:=λb c=>jl.set G J K b c
 have A:=KC (dX (nth h.Spans i) a) J;generalize R:h.Spans.set i (mt (nth h.Spans i) (dX (nth h.Spans i) a))=sp at f A;have q:pgs sp h.Larges=pgs h.Spans h.Larges:=by unfold pgs;rw[A]
 have B:=d.nd;rw[List.cons_append]at B;obtain⟨S,B⟩:=List.nodup_cons.1 B;have r:∀b,b∈E++holders h->b≠a:=λb g e=>S (by rw[<-e];exact g)
 have C:∀b,b∈holders h->b≠a:=λb g=>r b (O2.2 (.inr g))
 have T:∀l∈h.Larges,16*l.Page≠a:=λl O e=>(vg G O).1 _ (am J) (by have a1:=K.1;have a2:=K.2.1;omega)
 have t:∀s∈sp,∃u∈h.Spans,u.Page=s.Page/\(s=u\/s=mt u (dX (nth h.Spans i) a)):=λs p=>by
  rw[<-R]at p;rcases eK p with rfl|⟨j,hj,hji,rfl⟩
  ·exact⟨_,am J,rfl,.inr rfl⟩
  ·exact⟨_,am hj,rfl,.inl rfl⟩
 have N:∀u∈h.Spans,∃s∈sp,s.Page=u.Page:=λu y=>by
  have:u.Page∈sp.map (·.Page):=by rw[A];exact T3.2 ⟨u,y,rfl⟩
  obtain⟨s,p,e⟩:=T3.1 this;exact⟨s,p,e⟩
 exact {d with
   lay:=by
     obtain⟨l1,l2,l3⟩:=cZ d.lay;unfold bc;simp only[I0,C0];refine⟨⟨I3.2 λs p=>?_,l2⟩,by rw[q];exact l3⟩;obtain⟨u,y,-,rfl|rfl⟩:=t s p
     · exact G.sok _ y
     · exact Fp (G.sok _ y) _
   srs:=by
     have n:(h.Spans.map (·.Page)).Pairwise (λa b=>a<b):=List.pairwise_map.2 d.srs;rw[<-A]at n;exact List.pairwise_map.1 n
   pg:=⟨d.pg.one,by rw[q];exact d.pg.bnd,by rw[q];exact d.pg.own,d.pg.fre,λs p u y r hf=>by
     obtain⟨U,D,Z,V⟩:=t s p;obtain⟨P,F,eu,W⟩:=t u y;have n:=d.pg.mesh U D P F (by rw[Z,eu];exact r) (by rw[Z,eu];exact hf);have w:meshable s P=true:=by
       rcases V with rfl|rfl
       · exact n
       · exact rF (G.sok _ D) M n
     rcases W with rfl|rfl
     · exact w
     · rw[iK]at w |-;exact rF (G.sok _ F) M w⟩
   oow:=λo ho=>by
     have X:o.Addr≠a:=C _ (by unfold holders;simp only[O2];exact .inl (.inl (.inl (T3.2 ⟨o,ho,rfl⟩))));rcases d.oow o ho with⟨s,p,n,w⟩|n
     · obtain⟨u,y,Y,H⟩:=(f o.Addr (aK o.Size)).2 ⟨⟨s,p,n,.inr w⟩,X⟩
       refine .inl ⟨u,y,Y,?_⟩;rcases H with H|H
       · have:=aE (G.sok _ p);omega
       · exact H
     · exact .inr n
   hca:=λc hc k hk b g=>(f b k).2 ⟨d.hca c hc k hk b g,C b (by
     unfold holders bQ;simp only[O2];exact .inl (.inl (.inr (List.mem_flatMap.2 ⟨c,hc,List.mem_flatten.2 ⟨_,am hk,g⟩⟩))))⟩
   hqu:=λx hx=>(f _ _).2 ⟨d.hqu x hx,C _ (by unfold holders;simp only[O2];exact .inl (.inr (T3.2 ⟨x,hx,rfl⟩)))⟩
   hfl:=λb g=>(f _ _).2 ⟨d.hfl b g,C _ (by unfold holders;simp only[O2];exact .inr g)⟩
   hin:=λb g=>(f _ _).2 ⟨d.hin b (C4 _ g),r b (O2.2 (.inl g))⟩
   nd:=B
   mem:=λb=>by
     show b∈E++holders h↔Live sp h.Larges b;have n:=d.mem b;rw[List.cons_append,List.mem_cons]at n;unfold Live at n |-;rw[f];constructor
     · intro g
       rcases n.1 (.inr g) with w|w
       · exact .inl ⟨w,r b g⟩
       · exact .inr w
     · rintro(⟨w,h3⟩|⟨l,O,rfl⟩)
       · exact(n.2 (.inl w)).resolve_left h3
       · exact(n.2 (.inr ⟨l,O,rfl⟩)).resolve_left (T l O)
   job:=λhm=>by
     obtain⟨j1,⟨s,p,e1⟩,⟨u,y,e2⟩⟩:=d.job hm;obtain⟨U,D,Y⟩:=N s p;obtain⟨P,F,H⟩:=N u y;exact⟨j1,⟨U,D,Y.trans e1⟩,⟨P,F,H.trans e2⟩⟩}
end Go.Proofs.YtembpgjjnioagaaGreat.Ab
