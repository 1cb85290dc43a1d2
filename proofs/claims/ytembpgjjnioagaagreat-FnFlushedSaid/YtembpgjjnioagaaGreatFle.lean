/- When a heap is valid, as plain functions over its data: as the reference asks it, and as the program does. No condition. -/
import Derived.Test.YtembpgjjnioagaaGreatFld
import Derived.Test.YtembpgjjnioagaaGreatFlShelf
import Derived.WalkKit
import Derived.Lib.SliceRun
set_option linter.unusedVariables false
set_option linter.unusedSimpArgs false
set_option linter.constructorNameAsVariable false
namespace Go.Proofs.YtembpgjjnioagaaGreat.Ab
def tbl(h:ab):aH:=h.Kernel.Machine.Table
def dS(h:ab):Nat:=h.Kernel.Machine.Table.Entries.length
def we(xs:List ar)(i:Nat):Bool:=decide (i=0\/(nth xs (i - 1)).Page<(nth xs i).Page)
def w6(xs:List a7)(i:Nat):Bool:=decide (i=0\/(nth xs (i - 1)).Page<(nth xs i).Page)
def xx(h:ab)(l:a7)(k:Nat):Bool:=decide ((aT h (l.Page+(k:Nat))).length=1)
def rx(h:ab)(i:Nat):Bool:=w6 h.Larges i&&cS (nth h.Larges i).Pages.toNat (xx h (nth h.Larges i))
def uT(h:ab)(p:Nat):Bool:=decide ((nth (tbl h).Entries p).Mode≠0↔(p:Int)∈pgs h.Spans h.Larges)&&(decide ((nth (tbl h).Entries p).Mode≠0) != h.Free.any (qN (p:Nat)))
def pages0(h:ab):Bool:=((cS h.Spans.length (we h.Spans)&&cS h.Larges.length (rx h))&&(pgs h.Spans h.Larges).all λp=>decide (p<dS h))&&cS (dS h) (uT h)
def lC(h:ab)(i:Nat)(q:Int):Bool:=decide (eB h q=(i:Nat)) || (decide (0<=eB h q)&&meshable (nth h.Spans i) (nth h.Spans (eB h q).toNat))
def rY(h:ab):Bool:=cS h.Spans.length λi=>(aT h (nth h.Spans i).Page).all (lC h i)
def kA(h:ab)(i j:Nat):Bool:=decide ((au (tbl h) (nth h.Spans i).Page).Frame≠(au (tbl h) (nth h.Spans j).Page).Frame) || meshable (nth h.Spans i) (nth h.Spans j)
def nw(h:ab):Bool:=cS h.Spans.length λi=>cS i (kA h i)
def jA(z:Int)(o:bK):Bool:=decide (o.Id=z)
def iL(h:ab)(o:bK):Bool:=
 let w:=denotes h.Spans h.Larges o.Addr
 decide (w.Offset=0)&&((decide (w.Kind=1)&&decide ((nth h.Spans w.Index.toNat).Class=aL o.Size)) || (decide (w.Kind=3)&&decide ((nth h.Larges w.Index.toNat).Size=o.Size)))
def gy(a:Int)(h:ab)(i:Nat):Bool:=decide ((i=0\/(nth h.Objs (i - 1)).Addr<(nth h.Objs i).Addr)/\1<=(nth h.Objs i).Id/\(nth h.Objs i).Id<=a/\0<=(nth h.Objs i).Thread/\(nth h.Objs i).Thread<=h.Caches.length - 1)
def objAt(a:Int)(h:ab)(i:Nat):Bool:=(gy a h i&&!(h.Objs.take i).any (jA (nth h.Objs i).Id))&&iL h (nth h.Objs i)
def eO(h:ab):Bool:=cS h.Objs.length (objAt (IntKind.i64.wrap (h.Next - 1)) h)
def cZ(h:ab)(a c:Int):Bool:=
 let w:=denotes h.Spans h.Larges a
 (decide (w.Kind=1)&&decide (w.Offset=0))&&(decide (c<0) || decide ((nth h.Spans w.Index.toNat).Class=c))
def qY(h:ab)(c:aA)(k:Nat):Bool:=(nth c.Lists k).all λa=>cZ h a (k:Nat)
def eJ(h:ab)(c:aA):Bool:=cS c.Lists.length (qY h c)
def gL(h:ab)(x:aK):Bool:=cZ h x.Addr x.Class
def jl(h:ab)(a:Int):Bool:=cZ h a (-1)
def cb(h:ab):List Int:=h.Caches.flatMap λc=>c.Lists.flatten
def gw(h:ab):Bool:=((h.Caches.all (eJ h))&&h.Quar.Lst.all (gL h))&&(aE h.Mail).all (jl h)
def holders(h:ab):List Int:=((h.Objs.map (·.Addr)++cb h)++h.Quar.Lst.map (·.Addr))++aE h.Mail
def jC(sp:List ar)(la:List a7)(a:Nat):Bool:=
 let w:=denotes sp la (a:Nat)
 decide (w.Offset=0)&&(decide (w.Kind=1) || decide (w.Kind=3))
def lg(sp:List ar)(la:List a7)(n:Nat):List Int:=((List.range n).filter (jC sp la)).map λ(i:Nat)=>(i:Int)
def ip(sp:List ar)(la:List a7):List Int:=lg sp la 512
def iu(h:ab):Bool:=(gw h&&decide (holders h).Nodup)&&decide ((holders h).length=(ip h.Spans h.Larges).length)
def jR(h:ab):Bool:=h.Quar.Lst.all λx=>decide (x.Since<=h.Clock)
def bX(h:ab):Bool:=decide (0<=h.Seed/\h.Seed<=1073741823/\0<=h.Clock/\h.Clock<=1000000/\0<=h.Limit/\h.Limit<=1000/\1<=h.Next/\h.Next<=1000000)
def qa(h:ab):Bool:=if h.Meshing then(jx h.Job&&decide (0<=eB h h.Job.Plan.Keep))&&decide (0<=eB h h.Job.Plan.Move) else qX h.Job
def ky(h:ab):Bool:=((aB h.Kernel&&bt (dS h) h.Free)&&bh h.Spans h.Larges)&&pages0 h
open Go.RowKit
set_option maxRecDepth 20000
set_option maxHeartbeats 8000000
theorem db{sp:List ar}{la:List a7}(h:bh sp la=true):sp.all aY=true/\la.all bQ=true/\(pgs sp la).Nodup:=by
 unfold bh at h;simp only[I0,C0]at h;exact⟨h.1.1,h.1.2,h.2⟩
theorem NQ{α:Type}[Inhabited α]{xs:List α}{p:α->Bool}{i:Nat}(h:xs.all p=true)(a:i<xs.length):p (nth xs i)=true:=Y3.1 h _ (am a)
theorem E0{h:ab}(h1:cS h.Spans.length (we h.Spans)=false):pages0 h=false:=by unfold pages0;rw[h1];rfl
theorem qW{h:ab}(h1:cS h.Larges.length (rx h)=false):pages0 h=false:=by unfold pages0;rw[h1];simp
theorem EL{h:ab}{p:Int}(h1:p∈pgs h.Spans h.Larges)(a:¬p<dS h):pages0 h=false:=by
 have:((pgs h.Spans h.Larges).all λp=>decide (p<dS h))=false:=List.all_eq_false.2 ⟨p,h1,by simpa using a⟩;unfold pages0;rw[this];simp
theorem DL{h:ab}(h1:cS (dS h) (uT h)=false):pages0 h=false:=by unfold pages0;rw[h1];simp
theorem wY{h:ab}(h1:cS h.Spans.length (we h.Spans)=true)(a:cS h.Larges.length (rx h)=true)(b:∀p∈pgs h.Spans h.Larges,p<dS h)(c:cS (dS h) (uT h)=true):pages0 h=true:=by
 have:((pgs h.Spans h.Larges).all λp=>decide (p<dS h))=true:=Y3.2 λp d=>O0 (b p d)
 unfold pages0;rw[h1,a,c,this];rfl
theorem K4{h:ab}{i:Nat}(h1:w6 h.Larges i=false):rx h i=false:=by unfold rx;rw[h1];rfl
theorem Kz{h:ab}{i k:Nat}(a:k<(nth h.Larges i).Pages.toNat)(h1:xx h (nth h.Larges i) k=false):rx h i=false:=by unfold rx;rw[cr a h1];simp
theorem Dw{h:ab}{i:Nat}(h1:w6 h.Larges i=true)(a:cS (nth h.Larges i).Pages.toNat (xx h (nth h.Larges i))=true):rx h i=true:=by unfold rx;rw[h1,a];rfl
theorem gR(h:ab)(p:Int):(aT h p).length<=dS h:=by
 unfold aT;split
 ·simp
 ·exact ql ..
theorem tF{sp:List ar}{la:List a7}(h:bh sp la=true){i:Nat}{l:a7}(a:la[i]? = some l):1<=l.Pages/\l.Pages<=63/\0<=l.Page/\l.Page<=31:=
 aQ (Y3.1 (db h).2.1 l (Z1 a))
theorem Eu(h:ab)(G:du h.Spans)(H:dr h.Larges)(l:ya h)(J:gp h.Free)(n:bh h.Spans h.Larges=true):ao Tryz.prog 204 false [.val (some 24) (ab.enc .imm h)] .one [B (pages0 h)]:=by
 have Z:=G.1;have hl2:=H.1;have hl3:dS h<=1048576:=l.1;have hl4:=J.1;refine fO 144 [(7,18,[28,29,30,31,32,33,34,35,36,37,38,39,40,41,42,43,44,45]),(13,18,[62,63,64,65,66,67,68,69,70,71,72,73,74,75,76,77,78,79])] Tryz.func204 rfl ?_
 repeat'(first|refine gO ?_|fail)
 (conv=>whnf)
 refine CE (ι:=Nat × List Int) (λi=>[(1,.hold .box (ab.enc .imm h)),(3,.hold .box (aH.enc .imm (tbl h))),(4,.hold .one [I (dS h)]),(5,.hold .one (aF .own i.2)),(6,.hold .one [I ((i.1:Nat):Int)])]) (λi=>i.1<=h.Spans.length/\i.2=(h.Spans.take i.1).map (·.Page)/\cS i.1 (we h.Spans)=true) (λi=>h.Spans.length - i.1) ((0,[])) ?_ (⟨U0 _,rfl,rfl⟩) λi K=>?_
 ·exact wB
 obtain⟨i,S⟩:=i;obtain⟨K,o,L⟩:=K;simp only at K o L |-;have hSl:S.length=i:=by rw[o,Z0,U1];omega
 by_cases M:i<h.Spans.length
 ·have c:=ah M
  repeat'(first|refine gD ?_|(conv=>whnf);first|with_reducible (first|refine CB (aa c) ?_|refine Bf.D (λa=>?_) (λa=>?_))|refine CL ω (aa (fX ω M)) ?_|refine CQ co (λr t=>by rw[I1.1 t];rfl) (by simp[aX,dH]) (by simp;omega) (by simp only[Z0];exact vq (by simp;omega) (by decide)) rfl ?_)
  all_goals first
   | exact W0 (λz=>[B z]) ((E0 (cr M (T0 ω))).symm)
   | ((conv=>whnf)
      refine CD (i+1,S++[(nth h.Spans i).Page]) ⟨(by simp only;omega),(by simp only;rw[o,C5,c];simp),bL L (O0 ω)⟩ (by simp only;omega) ?_
      (repeat'(first|exact trivial|rfl|exact CJ rfl (CJ (W0 (C.s d7.own) (by simp[rI])) trivial)|refine CJ ?_ ?_)))
 ·obtain rfl:i=h.Spans.length:=ω
  rw[Z4]at o
  repeat'(first|refine gD ?_|fail)
  (conv=>whnf)
  refine CE (ι:=Nat × List Int) (λk=>[(1,.hold .box (ab.enc .imm h)),(3,.hold .box (aH.enc .imm (tbl h))),(4,.hold .one [I (dS h)]),(5,.hold .one (aF .own k.2)),(7,.hold .one [I ((k.1:Nat):Int)])]) (λk=>k.1<=h.Larges.length/\k.2=pgs h.Spans (h.Larges.take k.1)/\cS k.1 (rx h)=true/\k.2.length<=1048576+64*k.1) (λk=>h.Larges.length - k.1) ((0,S)) ?_ (⟨U0 _,by rw[o];unfold pgs;simp,rfl,by simp only;omega⟩) λk O=>?_
  ·exact wB
  obtain⟨k,S2⟩:=k;obtain⟨O,b,Q,R⟩:=O;simp only at O b Q R |-;by_cases y:k<h.Larges.length
  ·have c:=ah y
   have hpg:=tF n c
   repeat'(first|refine gD ?_|(conv=>whnf);first|with_reducible (first|refine CB (aa c) ?_|refine Bf.D (λa=>?_) (λa=>?_))|refine CL ω (aa (fX ω y)) ?_)
   all_goals first
    | exact W0 (λz=>[B z]) ((qW (cr y (K4 (T0 ω)))).symm)
    |have e:w6 h.Larges k=true:=O0 ω
     (conv=>whnf)
     refine CE (ι:=Nat × List Int) (λq=>[(1,.hold .box (ab.enc .imm h)),(3,.hold .box (aH.enc .imm (tbl h))),(4,.hold .one [I (dS h)]),(5,.hold .one (aF .own q.2)),(7,.hold .one [I ((k:Nat):Int)]),(8,.hold .one [I ((q.1:Nat):Int)])]) (λq=>q.1<=(nth h.Larges k).Pages.toNat/\q.2=S2++lpgs (nth h.Larges k) q.1/\cS q.1 (xx h (nth h.Larges k))=true) (λq=>(nth h.Larges k).Pages.toNat - q.1) ((0,S2)) ?_ (⟨U0 _,by simp[lpgs],rfl⟩) λq a=>?_
     ·exact wB
     obtain⟨q,T⟩:=q;obtain⟨U,d,g⟩:=a;simp only at U d g |-;have W:T.length=S2.length+q:=by rw[d,I3,El]
     by_cases E:q<(nth h.Larges k).Pages.toNat
     ·have hfl:=gR h ((nth h.Larges k).Page+(q:Nat))
      repeat'(first|refine gD ?_|(conv=>whnf);first|with_reducible (first|refine CB (aa c) ?_|refine Bf.N (λa=>?_) (λa=>?_))|refine C7 (gZ h _ l) ?_|refine CQ co (λr t=>by rw[I1.1 t];rfl) (by simp[aX,dH]) (by simp;omega) (by show _*8<=_;simp;omega) rfl ?_)
      all_goals first
       | exact W0 (λz=>[B z]) ((qW (cr y (Kz E (T0 ω)))).symm)
       | ((conv=>whnf)
          refine CD (q+1,T++[(nth h.Larges k).Page+(q:Nat)]) ⟨(by simp only;omega),(by simp only;rw[d,ki,I5]),bL g (O0 ω)⟩ (by simp only;omega) ?_
          (repeat'(first|exact trivial|rfl|exact CJ rfl (CJ (W0 (C.s d7.own) (by simp[rI])) trivial)|refine CJ ?_ ?_)))
     ·obtain rfl:q=(nth h.Larges k).Pages.toNat:=ω
      repeat'(first|refine gD ?_|(conv=>whnf);first|with_reducible refine CB (aa c) ?_)
      ((conv=>whnf);refine CD (k+1,T) ⟨(by simp only;omega),(by simp only;rw[d,b,<-oz _ c]),bL Q (Dw e g),(by simp only;omega)⟩ (by simp only;omega) ?_;(exact wB))
  ·obtain rfl:k=h.Larges.length:=ω
   rw[Z4]at b
   repeat'(first|refine gD ?_|fail)
   (conv=>whnf)
   refine CE (ι:=Nat) (λq=>[(1,.hold .box (ab.enc .imm h)),(3,.hold .box (aH.enc .imm (tbl h))),(4,.hold .one [I (dS h)]),(5,.hold .one (aF .own S2)),(10,.hold .one [I ((q:Nat):Int)])]) (λq=>q<=S2.length/\∀j,j<q->nth S2 j<dS h) (λq=>S2.length - q) (0) ?_ (⟨U0 _,λj F=>ω⟩) λq a=>?_
   ·exact wB
   obtain⟨a,g⟩:=a;by_cases E:q<S2.length
   ·have c:=ah E
    repeat'(first|refine gD ?_|(conv=>whnf);first|with_reducible (first|refine CB (aa c) ?_|refine Bf.D (λa=>?_) (λa=>?_))|refine CH rfl (aa c) rfl ?_)
    all_goals first
     | exact W0 (λz=>[B z]) ((EL (by rw[<-b];exact am E) ω).symm)
     | ((conv=>whnf);refine CD (q+1) ⟨ω,λj F=>by rcases Nat.lt_or_ge j q with V|V;exact g j V;(obtain rfl:j=q:=ω);omega⟩ ω ?_;(exact wB))
   ·have u:∀p∈pgs h.Spans h.Larges,p<dS h:=λp w=>by
     rw[<-b]at w;obtain⟨j,F⟩:=List.mem_iff_getElem?.1 w;have V:=(O2.1 F).1;have:=g j ω
     rwa [bq F]at this
    repeat'(first|refine gD ?_|fail)
    (conv=>whnf)
    refine CE (ι:=Nat) (λp=>[(1,.hold .box (ab.enc .imm h)),(3,.hold .box (aH.enc .imm (tbl h))),(4,.hold .one [I (dS h)]),(5,.hold .one (aF .own S2)),(11,.hold .one [I ((p:Nat):Int)])]) (λp=>p<=dS h/\cS p (uT h)=true) (λp=>dS h - p) 0 ?_ ⟨U0 _,rfl⟩ λp w=>?_
    ·exact wB
    obtain⟨w,X⟩:=w;by_cases Y:p<dS h
    ·have c:=ah (xs:=(tbl h).Entries) Y
     have t:=yc h.Free (p:Nat) ω
     repeat'(first|refine gD ?_|(conv=>whnf);first|with_reducible (first|refine CB (aa c) ?_|refine Bf.D (λa=>?_) (λa=>?_)|refine Bf.NB (λa=>?_) (λa=>?_))|refine CG (lZ S2 _ ω) ⟨⟨rfl,dL _⟩,⟨rfl,rfl⟩,trivial⟩ ?_|refine C7 t ?_|refine Bf.P (λa=>?_) (λa=>?_))
     all_goals first
      | exact W0 (λz=>[B z]) ((DL (cr Y (by unfold uT;rw[<-b];grind))).symm)
      | ((conv=>whnf);refine CD (p+1) ⟨ω,bL X (by unfold uT;rw[<-b];grind)⟩ ω ?_;(exact wB))
    ·repeat'(first|refine gD ?_|fail)
     obtain rfl:p=dS h:=ω
     exact W0 (λz=>[B z]) ((wY L Q u X).symm)
set_option maxHeartbeats 8000000
theorem zw{z1 z2:Int}(h:z1=z2):NG (I z1) (I z2):=by subst h;rfl
theorem HB{S:List Int}{p z:Int} : z∈ins S p↔z∈S\/z=p:=by
 unfold ins;split
 ·rename_i a
  exact⟨.inl,λh=>h.elim id λe=>e ▸ a⟩
 ·simp
theorem x9(S:List Int):(fx S).map (·.1)=S:=by unfold fx;rw[List.map_map];simp[T5]
theorem lA{t:aH}{p:Nat}(a:p<t.Entries.length):au t (p:Nat)=nth t.Entries p:=by
 unfold au;rw[C9 ω];simp
theorem Bg(h:ab)(Q:du h.Spans)(R:dr h.Larges)(l:ya h)(T:gp h.Free)(G:bh h.Spans h.Larges=true):ao Tryz.prog 69 false [.val (some 24) (ab.enc .imm h)] .one [B (pages0 h&&nw h)]:=by
 have hl1:=Q.1;have hl2:=R.1;have hl3:dS h<=1048576:=l.1;have hl4:=T.1;have d:pages0 h=false->[B false]=[B (pages0 h&&nw h)]:=λe=>by rw[e];rfl
 refine fO 177 [(4,14,[25,26,27,28,29,30,31,32,33,34,35,36,37,38]),(16,14,[60,61,62,63,64,65,66,67,68,69,70,71,72,73]),(28,18,[102,103,104,105,106,107,108,109,110,111,112,113,114,115,116,117,118,119]),(42,23,[152,153,154,155,156,157,158,159,160,161,162,163,164,165,166,167,168,169,170,171,172,173,174])] Tryz.func69 rfl ?_
 repeat'(first|refine gO ?_|fail)
 (conv=>whnf)
 refine CE (ι:=Nat) (λi=>[(1,.hold .box (ab.enc .imm h)),(18,.hold .one (ci .imm h.Spans)),(19,.hold .one [I (h.Spans.length)]),(20,.hold .one [I ((i:Nat):Int)])]) (λi=>i<=h.Spans.length/\cS i (we h.Spans)=true) (λi=>h.Spans.length - i) 0 ?_ ⟨U0 _,rfl⟩ λi o=>?_
 ·exact wB
 obtain⟨o,H⟩:=o;by_cases F:i<h.Spans.length
 ·have g:=ah F
  repeat'(first|refine gD ?_|(conv=>whnf);first|with_reducible (first|refine CB (aa g) ?_|refine Bf.D (λa=>?_) (λa=>?_))|refine CL ω (aa (fX ω F)) ?_)
  all_goals first
   |exact d (E0 (cr F (T0 ω)))
   | ((conv=>whnf);refine CD (i+1) ⟨ω,bL H (O0 ω)⟩ ω ?_;(exact wB))
 obtain rfl:i=h.Spans.length:=ω
 repeat'(first|refine gD ?_|fail)
 (conv=>whnf)
 refine CE (ι:=Nat × List Int) (λi=>[(1,.hold .box (ab.enc .imm h)),(5,.hold .one [.m (fx i.2)]),(42,.hold .one (ci .imm h.Spans)),(43,.hold .one [I (h.Spans.length)]),(44,.hold .one [I ((i.1:Nat):Int)])]) (λi=>i.1<=h.Spans.length/\∀z,z∈i.2↔z∈(h.Spans.take i.1).map (·.Page)) (λi=>h.Spans.length - i.1) ((0,[])) ?_ (⟨U0 _,λz=>Iff.rfl⟩) λi o=>?_
 ·exact wB
 obtain⟨i,S⟩:=i;obtain⟨U,L⟩:=o;simp only at U L |-;by_cases li2:i<h.Spans.length
 ·have g:=ah li2
  repeat'(first|refine gD ?_|(conv=>whnf);first|with_reducible refine CB (aa g) ?_|refine Mu.mk (wl S _) ?_)
  ((conv=>whnf);refine CD (i+1,ins S (nth h.Spans i).Page) ⟨(by simp only;omega),λz=>by simp only[HB,L];rw[C5,g];simp⟩ (by simp only;omega) ?_;(exact wB))
 obtain rfl:i=h.Spans.length:=ω
 rw[Z4]at L
 repeat'(first|refine gD ?_|fail)
 (conv=>whnf)
 refine CE (ι:=Nat × List Int) (λk=>[(1,.hold .box (ab.enc .imm h)),(5,.hold .one [.m (fx k.2)]),(53,.hold .one (bU .imm h.Larges)),(54,.hold .one [I (h.Larges.length)]),(55,.hold .one [I ((k.1:Nat):Int)])]) (λk=>k.1<=h.Larges.length/\(∀z,z∈k.2↔z∈pgs h.Spans (h.Larges.take k.1))/\cS k.1 (rx h)=true) (λk=>h.Larges.length - k.1) ((0,S)) ?_ (⟨U0 _,λz=>by simp only[L];unfold pgs;simp,rfl⟩) λk V=>?_
 ·exact wB
 obtain⟨k,S2⟩:=k;obtain⟨V,b,W⟩:=V;simp only at V b W |-;by_cases M:k<h.Larges.length
 ·have g:=ah M
  have hpg:=tF G g
  repeat'(first|refine gD ?_|(conv=>whnf);first|with_reducible (first|refine CB (aa g) ?_|refine Bf.D (λa=>?_) (λa=>?_))|refine CL ω (aa (fX ω M)) ?_)
  all_goals first
   |exact d (qW (cr M (K4 (T0 ω))))
   |have u:w6 h.Larges k=true:=O0 ω
    (conv=>whnf)
    refine CE (ι:=Nat × List Int) (λq=>[(1,.hold .box (ab.enc .imm h)),(5,.hold .one [.m (fx q.2)]),(9,.hold .box (a7.enc .imm (nth h.Larges k))),(10,.hold .one [I ((nth h.Larges k).Page+(q.1:Nat))]),(53,.hold .one (bU .imm h.Larges)),(54,.hold .one [I (h.Larges.length)]),(55,.hold .one [I ((k:Nat):Int)])]) (λq=>q.1<=(nth h.Larges k).Pages.toNat/\(∀z,z∈q.2↔z∈S2++lpgs (nth h.Larges k) q.1)/\cS q.1 (xx h (nth h.Larges k))=true) (λq=>(nth h.Larges k).Pages.toNat - q.1) ((0,S2)) ?_ (⟨U0 _,λz=>by simp[lpgs],rfl⟩) λq a=>?_
    ·exact wB
    obtain⟨q,X⟩:=q;obtain⟨Y,w,Z⟩:=a;simp only at Y w Z |-;by_cases lq:q<(nth h.Larges k).Pages.toNat
    ·have hfl:=gR h ((nth h.Larges k).Page+(q:Nat))
     repeat'(first|refine gD ?_|(conv=>whnf);first|with_reducible refine Bf.N (λa=>?_) (λa=>?_)|refine C7 (uS h _ l) ?_|refine Mu.mk (wl X _) ?_)
     all_goals first
      |exact d (qW (cr M (Kz lq (T0 ω))))
      | ((conv=>whnf)
         refine CD (q+1,ins X ((nth h.Larges k).Page+(q:Nat))) ⟨(by simp only;omega),λz=>by simp only[HB,w];rw[ki];simp[or_assoc],bL Z (O0 ω)⟩ (by simp only;omega) ?_
         (repeat'(first|exact trivial|rfl|refine CJ ?_ ?_|exact zw (by simp;omega))))
    ·obtain rfl:q=(nth h.Larges k).Pages.toNat:=ω
     repeat'(first|refine gD ?_|fail)
     ((conv=>whnf);refine CD (k+1,X) ⟨(by simp only;omega),(λz=>by simp only[w];rw[oz _ g];simp[b]),bL W (Dw u Z)⟩ (by simp only;omega) ?_;(exact wB))
 obtain rfl:k=h.Larges.length:=ω
 rw[Z4]at b
 repeat'(first|refine gD ?_|fail)
 (conv=>whnf)
 refine CE (ι:=Nat) (λp=>[(1,.hold .box (ab.enc .imm h)),(5,.hold .one [.m (fx S2)]),(98,.hold .one [I (dS h)]),(99,.hold .one [I ((p:Nat):Int)])]) (λp=>p<=dS h/\cS p (uT h)=true) (λp=>dS h - p) 0 ?_ ⟨U0 _,rfl⟩ λp O=>?_
 ·exact wB
 obtain⟨O,ap⟩:=O;by_cases lp:p<dS h
 ·have hr:=yK h.Free (p:Nat) ω
  have J:=ue h.Kernel (p:Nat) l;rw[lA lp]at J
  repeat'(first|refine gD ?_|(conv=>whnf);first|with_reducible (first|refine Bf.D (λa=>?_) (λa=>?_)|refine Bf.NB (λa=>?_) (λa=>?_))|refine C7 J ?_|refine Ml.mk (mI (p:Nat) S2) ?_|refine C7 hr ?_|refine Bf.P (λa=>?_) (λa=>?_))
  all_goals first
   |exact d (DL (cr lp (by unfold uT tbl;have:=b (p:Nat);grind)))
   | ((conv=>whnf);refine CD (p+1) ⟨ω,bL ap (by unfold uT tbl;have:=b (p:Nat);grind)⟩ ω ?_;(exact wB))
 obtain rfl:p=dS h:=ω
 repeat'(first|refine gD ?_|fail)
 have hpn:dS h=h.Kernel.Machine.Table.Entries.length:=rfl
 (conv=>whnf)
 refine CE (ι:=Option Int × List Int) (λt=>[(1,.hold .box (ab.enc .imm h)),(122,.hold .one [.it t.1 t.2])]) (λt=>(∀z∈S2,z∈t.2\/z<dS h)/\∀z∈t.2,z∈S2) (λt=>t.2.length) ((none,(fx S2).map (·.1))) ?_ (⟨λz n=>.inl (by rw[x9];exact n),λz n=>by rw[x9]at n;exact n⟩) λt ht=>?_
 ·exact wB
 obtain⟨cur,left⟩:=t;obtain⟨y,C⟩:=ht;simp only at y C |-
 repeat'(first|refine gO ?_|(conv=>whnf);first|with_reducible refine Bf.D (λa=>?_) (λa=>?_)|refine Nt.mk (λa=>?_) (λl1 k l2 a=>?_))
 rotate_left
 ·exact d (EL (p:=k) ((b k).1 (C k (by subst left;simp))) ω)
 ·((conv=>whnf);refine CD (some k,l1++l2) ⟨λz n=>by have c:=y z n;subst left;simp only[v3,List.mem_cons]at c |-;rcases c with(c|c|c)|c;exact .inl (.inl c);(subst c;exact .inr ω);exact .inl (.inr c);exact .inr c,λz n=>C z (by subst left;simp only[v3,List.mem_cons]at n |-;grind)⟩ (by subst left;simp) ?_;(exact wB))
 have K:∀p∈pgs h.Spans h.Larges,p<dS h:=λp O=>by
  have c:=y p ((b p).2 O);subst left;simpa using c
 have h0:pages0 h=true:=wY H W K ap;rw[h0,Bool.true_and]
 (conv=>whnf)
 refine CE (ι:=Nat) (λi=>[(1,.hold .box (ab.enc .imm h)),(136,.hold .one (ci .imm h.Spans)),(137,.hold .one [I (h.Spans.length)]),(138,.hold .one [I ((i:Nat):Int)])]) (λi=>i<=h.Spans.length/\cS i (λi=>cS i (kA h i))=true) (λi=>h.Spans.length - i) 0 ?_ ⟨U0 _,rfl⟩ λi o=>?_
 ·exact wB
 obtain⟨o,H⟩:=o;by_cases F:i<h.Spans.length
 ·have g:=ah F
  have htl:(h.Spans.take i).length=i:=by rw[U1];omega
  repeat'(first|refine gD ?_|(conv=>whnf);first|with_reducible refine CB (aa g) ?_|refine CT i rfl (by simp;omega) (λr hr=>by obtain⟨z,-,rfl⟩:=z4.1 hr;rfl) (t4 ..) ?_)
  (conv=>whnf)
  refine CE (ι:=Nat) (λj=>[(1,.hold .box (ab.enc .imm h)),(14,.hold .box (ar.enc .imm (nth h.Spans i))),(136,.hold .one (ci .imm h.Spans)),(137,.hold .one [I (h.Spans.length)]),(138,.hold .one [I ((i:Nat):Int)]),(146,.hold .one (ci .imm (h.Spans.take i))),(147,.hold .one [I ((h.Spans.take i).length)]),(148,.hold .one [I ((j:Nat):Int)])]) (λj=>j<=(h.Spans.take i).length/\cS j (kA h i)=true) (λj=>(h.Spans.take i).length - j) 0 ?_ ⟨U0 _,rfl⟩ λj hj=>?_
  ·exact wB
  obtain⟨hj,aj⟩:=hj;by_cases lj:j<(h.Spans.take i).length
  ·have hy:=ah lj
   have he:nth (h.Spans.take i) j=nth h.Spans j:=bq (by rw[List.getElem?_take_of_lt ω];exact ah ω);rw[he]at hy;have J:=y3 (nth h.Spans i) (nth h.Spans j);cases em:meshable (nth h.Spans i) (nth h.Spans j)<;>rw[em]at J
   all_goals
    repeat'(first|refine gD ?_|(conv=>whnf);first|with_reducible (first|refine CB (aa hy) ?_|refine Bf.E (λa=>?_) (λa=>?_))|refine C7 (kE (tbl h) _ l) ?_|refine C7 J ?_)
    all_goals first
     | exact W0 (λz=>[B z]) ((by symm;exact cr F (cr (i:=j) ω (by unfold kA;rw[em];grind))))
     | ((conv=>whnf);refine CD (j+1) ⟨ω,bL aj (by unfold kA;rw[em];grind)⟩ ω ?_;(exact wB))
  ·obtain rfl:j=(h.Spans.take i).length:=ω
   rw[htl]at aj
   repeat'(first|refine gD ?_|fail)
   ((conv=>whnf);refine CD (i+1) ⟨ω,bL H aj⟩ ω ?_;(exact wB))
 obtain rfl:i=h.Spans.length:=ω
 repeat'(first|refine gD ?_|fail)
 exact W0 (λz=>[B z]) ((by unfold nw;rw[H]))
set_option maxHeartbeats 8000000
theorem oG{α:Type}[Inhabited α](pr:α->Bool)(xs:List α):dP pr xs = -1\/∃n,n<xs.length/\dP pr xs=(n:Nat)/\pr (nth xs n)=true:=by
 unfold dP;cases h:xs.findIdx? pr with
 | none=>exact .inl rfl
 | some i=>
  obtain⟨a,b,-⟩:=U6.1 h;exact .inr ⟨i,a,rfl,by rw[bq (I2 a)];exact b⟩
theorem DT{h:ab}{i k:Nat}(a:i<h.Spans.length)(b:k<(aT h (nth h.Spans i).Page).length)(c:lC h i (nth (aT h (nth h.Spans i).Page) k)=false):rY h=false:=by
 unfold rY;exact cr a (eD (ah b) c)
theorem Ar(h:ab)(j:du h.Spans)(c:ya h):ao Tryz.prog 205 false [.val (some 24) (ab.enc .imm h)] .one [B (rY h)]:=by
 have l:=j.1;have G:dS h<=1048576:=c.1;refine fO 55 [(4,8,[14,15,16,17,18,19,20,21]),(8,6,[28,29,30,31,32,33]),(9,21,[34,35,36,37,38,39,40,41,42,43,44,45,46,47,48,49,50,51,52,53,54])] Tryz.func205 rfl ?_
 repeat'(first|refine gO ?_|fail)
 (conv=>whnf)
 refine CE (ι:=Nat) (λi=>[(1,.hold .box (ab.enc .imm h)),(3,.hold .one [I ((i:Nat):Int)])]) (λi=>i<=h.Spans.length/\cS i (λi=>(aT h (nth h.Spans i).Page).all (lC h i))=true) (λi=>h.Spans.length - i) 0 ?_ ⟨U0 _,rfl⟩ λi w=>?_
 ·exact wB
 obtain⟨w,y⟩:=w;by_cases o:i<h.Spans.length
 ·have q:=ah o
  have H:=gR h (nth h.Spans i).Page
  repeat'(first|refine gD ?_|(conv=>whnf);first|with_reducible refine CB (aa q) ?_|refine C7 (gZ h _ c) ?_)
  (conv=>whnf)
  refine CE (ι:=Nat) (λk=>[(1,.hold .box (ab.enc .imm h)),(3,.hold .one [I ((i:Nat):Int)]),(4,.hold .one (aF .own (aT h (nth h.Spans i).Page))),(5,.hold .one [I ((k:Nat):Int)])]) (λk=>k<=(aT h (nth h.Spans i).Page).length/\((aT h (nth h.Spans i).Page).take k).all (lC h i)=true) (λk=>(aT h (nth h.Spans i).Page).length - k) (0) ?_ (⟨U0 _,rfl⟩) λk C=>?_
  ·exact wB
  obtain⟨C,E⟩:=C;by_cases r:k<(aT h (nth h.Spans i).Page).length
  ·have d:=ah r
   have a:=jr h (nth (aT h (nth h.Spans i).Page) k) l;rcases oG (iS (nth (aT h (nth h.Spans i).Page) k)) h.Spans with e|⟨n,J,e,-⟩
   ·rw[show eB h (nth (aT h (nth h.Spans i).Page) k) = -1 from e]at a
    have t:lC h i (nth (aT h (nth h.Spans i).Page) k)=false:=by
     unfold lC;rw[show eB h (nth (aT h (nth h.Spans i).Page) k) = -1 from e,T0 ω,T0 ω];rfl
    repeat'(first|refine gD ?_|(conv=>whnf);first|with_reducible (first|refine CB (aa q) ?_|refine CB (aa d) ?_|refine Bf.D (λb=>?_) (λb=>?_)|refine Bf.N (λb=>?_) (λb=>?_))|refine CH rfl (aa d) rfl ?_|refine C7 a ?_)
    all_goals first
     | exact W0 (λz=>[B z]) ((DT o r t).symm)
     |(exfalso;omega)
   ·rw[show eB h (nth (aT h (nth h.Spans i).Page) k)=(n:Nat) from e]at a
    have K:=ah J;have F:=l8 (nth h.Spans i) (nth h.Spans n);have g:lC h i (nth (aT h (nth h.Spans i).Page) k)=(decide ((n:Int)=(i:Nat)) || meshable (nth h.Spans i) (nth h.Spans n)):=by
     unfold lC;rw[show eB h (nth (aT h (nth h.Spans i).Page) k)=(n:Nat) from e,O0 (p:=(0:Int)<=(n:Nat)) ω];simp
    cases u:meshable (nth h.Spans i) (nth h.Spans n)<;>rw[u]at F
    all_goals
     repeat'(first|refine gD ?_|(conv=>whnf);first|with_reducible (first|refine CB (aa q) ?_|refine CB (aa K) ?_|refine CB (aa d) ?_|refine Bf.D (λb=>?_) (λb=>?_)|refine Bf.N (λb=>?_) (λb=>?_))|refine CH rfl (aa d) rfl ?_|refine C7 a ?_|refine C7 F ?_)
     all_goals first
      | exact W0 (λz=>[B z]) ((DT o r (by rw[g,u];grind)).symm)
      | ((conv=>whnf);refine CD (k+1) ⟨ω,cL d E (by rw[g,u];grind)⟩ ω ?_;(exact wB))
      |(exfalso;omega)
  ·repeat'(first|refine gD ?_|fail)
   ((conv=>whnf);refine CD (i+1) ⟨ω,bL y (gu ω E)⟩ ω ?_;(exact wB))
 ·obtain rfl:i=h.Spans.length:=ω
  repeat'(first|refine gD ?_|fail)
  exact W0 (λz=>[B z]) ((by unfold rY;rw[y]))
theorem HZ(j:cG)(b:cG.sml j):ao Tryz.prog 211 false [.val (some 5) (cG.enc .imm j)] .one [B (qX j)]:=by
 have c:j.Plan.Cells.length<=1048576:=b;refine fO 30 [] Tryz.func211 rfl ?_
 repeat'(first|refine gO ?_|(conv=>whnf);first|with_reducible (first|refine Bf.E (λa=>?_) (λa=>?_)|refine Bf.D (λa=>?_) (λa=>?_)))
 all_goals exact W0 (λz=>[B z]) ((by unfold qX;first|(symm;exact T0 ω)|(rw[U4,beq_iff_eq,C0];omega)))
theorem mW(sp:List ar)(la:List a7)(a:Int):((denotes sp la a).Kind=1->0<=(denotes sp la a).Index/\(denotes sp la a).Index.toNat<sp.length)/\((denotes sp la a).Kind=3->0<=(denotes sp la a).Index/\(denotes sp la a).Index.toNat<la.length):=by
 unfold denotes;cases c:sp.findIdx? (cm · a) with
 | some i=>
  obtain⟨b,-⟩:=U6.1 c;simp only[mV];refine⟨λ_=>⟨ω,by simpa using b⟩,λe=>?_⟩;split at e<;>cases e
 | none=>
  cases d:la.findIdx? (bo · a) with
  | some i=>
   obtain⟨b,-⟩:=U6.1 d;exact⟨λe=>(by cases e),λ_=>⟨by simp,by simpa using b⟩⟩
  | none=>exact⟨λe=>(by cases e),λe=>(by cases e)⟩
theorem Gs(h:ab)(a c:Int)(d:du h.Spans)(e:dr h.Larges)(b:bh h.Spans h.Larges=true)(k:mr a):ao Tryz.prog 276 false [.val (some 24) (ab.enc .imm h),.val none [I a],.val none [I c]] .one [B (cZ h a c)]:=by
 have j:=mw h.Spans h.Larges a d e b k;obtain⟨g,-⟩:=mW h.Spans h.Larges a;unfold cZ;generalize denotes h.Spans h.Larges a=w at j g |-;refine fO 37 [] Tryz.func276 rfl ?_
 repeat'(first|refine gO ?_|(conv=>whnf);first|with_reducible (first|refine Bf.D (λi=>?_) (λi=>?_)|refine Bf.E (λi=>?_) (λi=>?_))|refine C7 j ?_|refine CL (g (by assumption)).1 (aa (ah (g (by assumption)).2)) ?_)
 all_goals exact W0 (λz=>[B z]) ((by grind))
theorem zP(h:ab)(o:bK)(w:iW)(a:denotes h.Spans h.Larges o.Addr=w):iL h o=(decide (w.Offset=0)&&((decide (w.Kind=1)&&decide ((nth h.Spans w.Index.toNat).Class=aL o.Size)) || (decide (w.Kind=3)&&decide ((nth h.Larges w.Index.toNat).Size=o.Size)))):=by
 unfold iL;rw[a]
theorem iY{h:ab}{i:Nat}(a:i<h.Objs.length)(b:objAt (IntKind.i64.wrap (h.Next - 1)) h i=false):eO h=false:=cr a b
theorem GW{a:Int}{h:ab}{i:Nat}(h1:gy a h i=false):objAt a h i=false:=by unfold objAt;rw[h1];rfl
theorem GS{a:Int}{h:ab}{i:Nat}(h1:(h.Objs.take i).any (jA (nth h.Objs i).Id)=true):objAt a h i=false:=by unfold objAt;rw[h1];simp
theorem Hz{a:Int}{h:ab}{i:Nat}(h1:iL h (nth h.Objs i)=false):objAt a h i=false:=by unfold objAt;rw[h1];simp
theorem zu{a:Int}{h:ab}{i:Nat}(h1:gy a h i=true)(b:(h.Objs.take i).any (jA (nth h.Objs i).Id)=false)(c:iL h (nth h.Objs i)=true):objAt a h i=true:=by unfold objAt;rw[h1,b,c];rfl
theorem FJ(h:ab)(l:du h.Spans)(n:dr h.Larges)(g:bh h.Spans h.Larges=true)(K:h.Objs.length<=1048576)(L:h.Caches.length<=1048576)(H:∀o∈h.Objs,mr o.Addr):ao Tryz.prog 209 false [.val (some 24) (ab.enc .imm h)] .one [B (eO h)]:=by
 refine fO 117 [(5,33,[21,22,23,24,25,26,27,28,29,30,31,32,33,34,35,36,37,38,39,40,41,42,43,44,45,46,47,48,49,50,51,52,53]),(10,9,[59,60,61,62,63,64,65,66,67]),(13,16,[75,76,77,78,79,80,81,82,83,84,85,86,87,88,89,90]),(14,15,[91,92,93,94,95,96,97,98,99,100,101,102,103,104,105])] Tryz.func209 rfl ?_
 repeat'(first|refine gO ?_|fail)
 (conv=>whnf)
 refine CE (ι:=Nat) (λi=>[(1,.hold .box (ab.enc .imm h)),(3,.hold .one [I ((i:Nat):Int)])]) (λi=>i<=h.Objs.length/\cS i (objAt (IntKind.i64.wrap (h.Next - 1)) h)=true) (λi=>h.Objs.length - i) 0 ?_ ⟨U0 _,rfl⟩ λi t=>?_
 ·exact wB
 obtain⟨t,u⟩:=t;by_cases e:i<h.Objs.length
 ·have y:=ah e
  have C:=mw h.Spans h.Larges (nth h.Objs i).Addr l n g (H _ (am e));obtain⟨p,q⟩:=mW h.Spans h.Larges (nth h.Objs i).Addr;have b:=zP h (nth h.Objs i) _ rfl;generalize denotes h.Spans h.Larges (nth h.Objs i).Addr=w at C p q b;by_cases c:gy (IntKind.i64.wrap (h.Next - 1)) h i=true
  ·have a:=c
   unfold gy at a;rw[C0]at a
   repeat'(first|refine gD ?_|(conv=>whnf);first|with_reducible (first|refine CB (aa y) ?_|refine Bf.D (λd=>?_) (λd=>?_))|refine CL ω (aa (fX ω e)) ?_|refine C7 (aG _ _ _) ?_|refine CK rfl ?_)
   all_goals
    (conv=>whnf)
    refine CE (ι:=Nat) (λk=>[(1,.hold .box (ab.enc .imm h)),(3,.hold .one [I ((i:Nat):Int)]),(4,.hold .box (bK.enc .imm (nth h.Objs i))),(5,.hold .one [I ((k:Nat):Int)])]) (λk=>k<=i/\(h.Objs.take k).any (jA (nth h.Objs i).Id)=false) (λk=>i - k) (0) ?_ (⟨U0 _,rfl⟩) λk F=>?_
    ·exact wB
    obtain⟨F,G⟩:=F;by_cases J:k<i
    ·have r:=ah (xs:=h.Objs) (i:=k) ω
     repeat'(first|refine gD ?_|(conv=>whnf);first|with_reducible (first|refine CB (aa r) ?_|refine Bf.E (λd=>?_) (λd=>?_)))
     all_goals first
      | exact W0 (λz=>[B z]) ((iY e (GS (AW (i:=k) (by rw[List.getElem?_take_of_lt J];exact r) (O0 (by assumption))))).symm)
      | ((conv=>whnf);refine CD (k+1) ⟨ω,v6 r G (T0 (by assumption))⟩ ω ?_;(exact wB))
    ·obtain rfl:k=i:=ω
     repeat'(first|refine gD ?_|(conv=>whnf);first|with_reducible (first|refine Bf.D (λd=>?_) (λd=>?_)|refine Bf.E (λd=>?_) (λd=>?_)|refine Bf.N (λd=>?_) (λd=>?_))|refine C7 C ?_|refine CL (p (by assumption)).1 (aa (ah (p (by assumption)).2)) ?_|refine CL (q (by assumption)).1 (aa (ah (q (by assumption)).2)) ?_|refine C7 (jX _) ?_)
     all_goals first
      | exact W0 (λz=>[B z]) ((iY e (Hz (by rw[b];grind))).symm)
      | ((conv=>whnf);refine CD (k+1) ⟨ω,bL u (zu c G (by rw[b];grind))⟩ ω ?_;(exact wB))
      |(exfalso;omega)
  ·have j:gy (IntKind.i64.wrap (h.Next - 1)) h i=false:=by simpa using c
   have a:=j;unfold gy at a;rw[T4]at a
   repeat'(first|refine gD ?_|(conv=>whnf);first|with_reducible (first|refine CB (aa y) ?_|refine Bf.D (λd=>?_) (λd=>?_))|refine CL ω (aa (fX ω e)) ?_|refine C7 (aG _ _ _) ?_|refine CK rfl ?_)
   all_goals first
    | exact W0 (λz=>[B z]) ((iY e (GW j)).symm)
    |(exfalso;omega)
 ·obtain rfl:i=h.Objs.length:=ω
  repeat'(first|refine gD ?_|fail)
  exact W0 (λz=>[B z]) ((show true=eO h from u.symm))
theorem p8(o a:bK):ao Tryz.prog 169 false [.val (some 4) (bK.enc .imm o),.ptr (bK.enc .imm a)] .one [B (jA a.Id o)]:=by
 refine fO 9 [] Tryz.func169 rfl ?_
 repeat'(first|refine gO ?_|fail)
 exact W0 (λz=>[B z]) ((by unfold jA;rw[U4];simp))
theorem Ea(h:ab)(n:du h.Spans)(o:dr h.Larges)(J:h.Objs.length<=1048576)(K:h.Caches.length<=1048576):ao Tryz.prog 73 false [.val (some 24) (ab.enc .imm h)] .one [B (eO h)]:=by
 refine fO 105 [(4,33,[16,17,18,19,20,21,22,23,24,25,26,27,28,29,30,31,32,33,34,35,36,37,38,39,40,41,42,43,44,45,46,47,48]),(9,16,[62,63,64,65,66,67,68,69,70,71,72,73,74,75,76,77]),(10,15,[78,79,80,81,82,83,84,85,86,87,88,89,90,91,92])] Tryz.func73 rfl ?_
 repeat'(first|refine gO ?_|fail)
 (conv=>whnf)
 refine CE (ι:=Nat) (λi=>[(1,.hold .box (ab.enc .imm h)),(9,.hold .one (mu .imm h.Objs)),(10,.hold .one [I (h.Objs.length)]),(11,.hold .one [I ((i:Nat):Int)])]) (λi=>i<=h.Objs.length/\cS i (objAt (IntKind.i64.wrap (h.Next - 1)) h)=true) (λi=>h.Objs.length - i) 0 ?_ ⟨U0 _,rfl⟩ λi F=>?_
 ·exact wB
 obtain⟨F,G⟩:=F;by_cases g:i<h.Objs.length
 ·have p:=ah g
  have H:=jN h.Spans h.Larges (nth h.Objs i).Addr n o;obtain⟨q,t⟩:=mW h.Spans h.Larges (nth h.Objs i).Addr;have b:=zP h (nth h.Objs i) _ rfl;generalize denotes h.Spans h.Larges (nth h.Objs i).Addr=w at H q t b;have j:=te (h.Objs.take i) (jA (nth h.Objs i).Id) (by rw[U1];omega);by_cases c:gy (IntKind.i64.wrap (h.Next - 1)) h i=true
  ·have a:=c
   unfold gy at a;rw[C0]at a;cases d:(h.Objs.take i).any (jA (nth h.Objs i).Id)<;>rw[d]at j
   ·repeat'(first|refine gD ?_|(conv=>whnf);first|with_reducible (first|refine CB (aa p) ?_|refine Bf.D (λe=>?_) (λe=>?_)|refine Bf.E (λe=>?_) (λe=>?_)|refine Bf.N (λe=>?_) (λe=>?_))|refine CL ω (aa (fX ω g)) ?_|refine C7 (aN _ _ _) ?_|refine CT i rfl (by simp;omega) (λr u=>by obtain⟨z,-,rfl⟩:=z4.1 u;rfl) (t4 ..) ?_|refine Cq.mk (Fb (some 4) (bK.enc .imm) (jA (nth h.Objs i).Id) (h.Objs.take i)) (p8 default (nth h.Objs i)).has (λL k rcs C=>by obtain⟨y,-,rfl,rfl,rfl⟩:=C;exact p8 y (nth h.Objs i)) ?_|refine C7 j ?_|refine C7 H ?_|refine CL (q (by assumption)).1 (aa (ah (q (by assumption)).2)) ?_|refine CL (t (by assumption)).1 (aa (ah (t (by assumption)).2)) ?_|refine C7 (mS _) ?_|refine CK rfl ?_)
    all_goals first
     | exact W0 (λz=>[B z]) ((iY g (Hz (by rw[b];grind))).symm)
     | ((conv=>whnf);refine CD (i+1) ⟨ω,bL G (zu c d (by rw[b];grind))⟩ ω ?_;(exact wB))
     |(exfalso;omega)
   ·repeat'(first|refine gD ?_|(conv=>whnf);first|with_reducible (first|refine CB (aa p) ?_|refine Bf.D (λe=>?_) (λe=>?_))|refine CL ω (aa (fX ω g)) ?_|refine C7 (aN _ _ _) ?_|refine CT i rfl (by simp;omega) (λr u=>by obtain⟨z,-,rfl⟩:=z4.1 u;rfl) (t4 ..) ?_|refine Cq.mk (Fb (some 4) (bK.enc .imm) (jA (nth h.Objs i).Id) (h.Objs.take i)) (p8 default (nth h.Objs i)).has (λL k rcs C=>by obtain⟨y,-,rfl,rfl,rfl⟩:=C;exact p8 y (nth h.Objs i)) ?_|refine C7 j ?_|refine CK rfl ?_)
    all_goals first
     | exact W0 (λz=>[B z]) ((iY g (GS d)).symm)
     |(exfalso;omega)
  ·have l:gy (IntKind.i64.wrap (h.Next - 1)) h i=false:=by simpa using c
   have a:=l;unfold gy at a;rw[T4]at a
   repeat'(first|refine gD ?_|(conv=>whnf);first|with_reducible (first|refine CB (aa p) ?_|refine Bf.D (λe=>?_) (λe=>?_))|refine CL ω (aa (fX ω g)) ?_|refine C7 (aN _ _ _) ?_|refine CK rfl ?_)
   all_goals first
    | exact W0 (λz=>[B z]) ((iY g (GW l)).symm)
    |(exfalso;omega)
 ·obtain rfl:i=h.Objs.length:=ω
  repeat'(first|refine gD ?_|fail)
  exact W0 (λz=>[B z]) ((show true=eO h from G.symm))
set_option maxHeartbeats 8000000
theorem JV{sp:List ar}{la:List a7}{n:Nat}(h:jC sp la n=true):lg sp la (n+1)=lg sp la n++[(n:Int)]:=by
 unfold lg;rw[List.range_succ,List.filter_append,O5];simp[h]
theorem Lx{sp:List ar}{la:List a7}{n:Nat}(h:jC sp la n=false):lg sp la (n+1)=lg sp la n:=by
 unfold lg;rw[List.range_succ,List.filter_append,O5];simp[h]
theorem zU(sp:List ar)(la:List a7)(n:Nat):(lg sp la n).length<=n:=by
 unfold lg;rw[Z0];exact V4 (List.length_filter_le ..) (by simp)
theorem rg{sp:List ar}{la:List a7}{n:Nat}{w:iW}(a:denotes sp la (n:Nat)=w):jC sp la n=(decide (w.Offset=0)&&(decide (w.Kind=1) || decide (w.Kind=3))):=by
 unfold jC;rw[a]
theorem Nw{n:Nat}(h:n<=1048576):mr (n:Nat):=⟨ω,ω⟩
theorem wi(sp:List ar)(la:List a7)(c:du sp)(d:dr la)(a:bh sp la=true):ao Tryz.prog 278 false [.val none (ci .imm sp),.val none (bU .imm la)] .one (aF .own (ip sp la)):=by
 have g:=lM sp la c d;rw[a]at g;refine fO 40 [] Tryz.func278 rfl ?_ (.inr (bJ _))
 repeat'(first|refine gO ?_|fail)
 (conv=>whnf)
 refine CE (ι:=Nat) (λn=>[(0,.hold .one (ci .imm sp)),(1,.hold .one (bU .imm la)),(5,.hold .one (aF .own (lg sp la n))),(6,.hold .one [I ((n:Nat):Int)])]) (λn=>n<=512) (λn=>512 - n) (0) ?_ (U0 _) λn o=>?_
 ·exact wB
 have i:=zU sp la n;by_cases p:n<512
 ·have h:=mw sp la (n:Nat) c d a (Nw ω)
  generalize j:denotes sp la (n:Nat)=w at h;have e:=rg j
  repeat'(first|refine gD ?_|(conv=>whnf);first|with_reducible refine Bf.E (λk=>?_) (λk=>?_)|refine C7 g ?_|refine C7 h ?_|refine CQ co (λr l=>by rw[I1.1 l];rfl) (by simp[aX,dH]) (by simp;omega) (by simp only[Z0];exact vq (by simp;omega) (by decide)) rfl ?_)
  all_goals first
   |(have b:jC sp la n=true:=by rw[e];grind
     (conv=>whnf)
     refine CD (n+1) ω ω ?_;rw[JV b]
     (repeat'(first|exact trivial|rfl|exact CJ rfl (CJ (W0 (C.s d7.own) (by simp[rI])) trivial)|refine CJ ?_ ?_)))
   |(have b:jC sp la n=false:=by rw[e];grind
     (conv=>whnf)
     refine CD (n+1) ω ω ?_;rw[Lx b]
     (exact wA))
 ·obtain rfl:n=512:=ω
  repeat'(first|refine gD ?_|(conv=>whnf);first|refine C7 g ?_)
  rfl
theorem w9(m:aI)(a:m.Inbox.length=m.Buffers.length):∀i,i<=m.Buffers.length->(((flight1 m i).length+(flight2 m i).length:Nat):Int)=br m i
 | 0,_=>rfl
 | i+1,h=>by
  have d:=w9 m a i ω;have b:=ah (xs:=m.Buffers) (i:=i) ω;have c:=ah (xs:=m.Inbox) (i:=i) ω;rw[mE b,mO c];simp only[I3,Z0];show _=br m i+((nth m.Buffers i).length+(nth m.Inbox i).length);omega
theorem m0{m:aI}(h:bI m=true):(aE m).length<=30:=by
 have a:=jU h;have b:=w9 m a.2.2 m.Buffers.length (z3 _);have c:br m m.Buffers.length<=30:=by
  unfold bI at h;simp only[I0,C0]at h;exact h.2
 rw[oC h,I3,a.2.2];omega
theorem D5{m:aI}(d:aI.wf m):∀a∈aE m,mr a:=by
 intro a b;unfold aE at b;split at b
 ·rcases v3.1 b with h|h
  ·obtain⟨l,c,h⟩:=List.mem_flatMap.1 h
   obtain⟨p,e,rfl⟩:=z4.1 h;exact((d.1.2 l c).2 p e).2
  ·obtain⟨l,c,h⟩:=List.mem_flatten.1 h
   exact(d.2.2 l c).2 a h
 ·cases b
theorem Kh{h:ab}(h1:h.Caches.all (eJ h)=false):iu h=false:=by unfold iu gw;rw[h1];rfl
theorem HO{h:ab}(h1:h.Quar.Lst.all (gL h)=false):iu h=false:=by unfold iu gw;rw[h1];simp
theorem Ji{h:ab}(h1:(aE h.Mail).all (jl h)=false):iu h=false:=by unfold iu gw;rw[h1];simp
theorem JL{h:ab}{i:Nat}(a:i<(holders h).length)(b:nth (holders h) i∈(holders h).take i):iu h=false:=by
 have c:decide (holders h).Nodup=false:=Mq (S:=(holders h).take i) (p:=nth (holders h) i) (by
   have:=ah a;have e:(holders h).take i++[nth (holders h) i]=(holders h).take (i+1):=by rw[C5,this];rfl
   rw[e];exact List.take_prefix ..) b
 unfold iu;rw[c];simp
theorem uv{h:ab}{i:Nat}{c:aA}(a:h.Caches[i]? = some c):((h.Caches.take (i+1)).flatMap λc=>c.Lists.flatten)=((h.Caches.take i).flatMap λc=>c.Lists.flatten)++c.Lists.flatten:=by
 rw[C5,a,List.flatMap_append];simp
theorem wm{c:aA}{k:Nat}{l:List Int}(a:c.Lists[k]? = some l):(c.Lists.take (k+1)).flatten=(c.Lists.take k).flatten++l:=by
 rw[C5,a,List.flatten_append];simp
theorem FE(h:ab)(hs:ab.sml h)(hw:ab.wf h)(y:bh h.Spans h.Larges=true)(G:bI h.Mail=true)(hco:∀c∈h.Caches,bn c=true):ao Tryz.prog 210 false [.val (some 24) (ab.enc .imm h)] .one [B (iu h)]:=by
 obtain⟨-,-,N,O,hso,hsc,hsm,hsq,-⟩:=hs;obtain⟨-,-,-,-,-,hwc,hwm,hwq,-⟩:=hw;have hlo:h.Objs.length<=1048576:=hso.1;have hlc:h.Caches.length<=1048576:=hsc.1;have hlq:h.Quar.Lst.length<=1048576:=hsq.1;have hfl:=m0 G;have hfw:=D5 hwm;have H:∀a c,mr a->ao Tryz.prog 276 false [.val (some 24) (ab.enc .imm h),.val none [I a],.val none [I c]] .one [B (cZ h a c)]:=λa c ha=>Gs h a c N O y ha
 refine fO 159 [(16,8,[63,64,65,66,67,68,69,70]),(22,17,[86,87,88,89,90,91,92,93,94,95,96,97,98,99,100,101,102]),(29,7,[122,123,124,125,126,127,128]),(35,8,[142,143,144,145,146,147,148,149])] Tryz.func210 rfl ?_
 repeat'(first|refine gO ?_|fail)
 (conv=>whnf)
 refine CE (ι:=Nat × List Int) (λi=>[(1,.hold .box (ab.enc .imm h)),(3,.hold .one (aF .own i.2)),(4,.hold .one [I ((i.1:Nat):Int)])]) (λi=>i.1<=h.Objs.length/\i.2=(h.Objs.take i.1).map (·.Addr)) (λi=>h.Objs.length - i.1) ((0,[])) ?_ (⟨U0 _,rfl⟩) λi E=>?_
 ·exact wB
 obtain⟨i,S⟩:=i;obtain⟨E,M⟩:=E;simp only at E M |-;have hSl:S.length=i:=by rw[M,Z0,U1];omega
 by_cases li:i<h.Objs.length
 ·have t:=ah li
  repeat'(first|refine gD ?_|(conv=>whnf);first|with_reducible refine CB (aa t) ?_|refine CQ co (λr u=>by rw[I1.1 u];rfl) (by simp[aX,dH]) (by simp;omega) (by simp only[Z0];exact vq (by simp;omega) (by decide)) rfl ?_)
  ((conv=>whnf)
   refine CD (i+1,S++[(nth h.Objs i).Addr]) ⟨(by simp only;omega),(by simp only;rw[M,C5,t];simp)⟩ (by simp only;omega) ?_
   (repeat'(first|exact trivial|rfl|exact CJ rfl (CJ (W0 (C.s d7.own) (by simp[rI])) trivial)|refine CJ ?_ ?_)))
 obtain rfl:i=h.Objs.length:=ω
 rw[Z4]at M
 repeat'(first|refine gD ?_|fail)
 (conv=>whnf)
 refine CE (ι:=Nat × List Int) (λi=>[(1,.hold .box (ab.enc .imm h)),(3,.hold .one (aF .own i.2)),(5,.hold .one [I ((i.1:Nat):Int)])]) (λi=>i.1<=h.Caches.length/\i.2=S++((h.Caches.take i.1).flatMap λc=>c.Lists.flatten)/\(h.Caches.take i.1).all (eJ h)=true/\i.2.length<=1048576+32*i.1) (λi=>h.Caches.length - i.1) ((0,S)) ?_ (⟨U0 _,by simp,rfl,by simp only;omega⟩) λi E=>?_
 ·exact wB
 obtain⟨i,S2⟩:=i;obtain⟨hi2,n,U,P⟩:=E;simp only at hi2 n U P |-;by_cases li2:i<h.Caches.length
 ·have t:=ah li2
  obtain⟨h4,h8⟩:=kV (hco _ (am li2));have hwl:=hwc.2 _ (am li2)
  repeat'(first|refine gD ?_|(conv=>whnf);first|with_reducible refine CB (aa t) ?_)
  (conv=>whnf)
  refine CE (ι:=Nat × List Int) (λk=>[(1,.hold .box (ab.enc .imm h)),(3,.hold .one (aF .own k.2)),(5,.hold .one [I ((i:Nat):Int)]),(6,.hold .one [I ((k.1:Nat):Int)])]) (λk=>k.1<=(nth h.Caches i).Lists.length/\k.2=S2++((nth h.Caches i).Lists.take k.1).flatten/\cS k.1 (qY h (nth h.Caches i))=true/\k.2.length<=S2.length+8*k.1) (λk=>(nth h.Caches i).Lists.length - k.1) ((0,S2)) ?_ (⟨U0 _,by simp,rfl,by simp⟩) λk hk=>?_
  ·exact wB
  obtain⟨k,V⟩:=k;obtain⟨hk,w,ak,hb3⟩:=hk;simp only at hk w ak hb3 |-;by_cases W:k<(nth h.Caches i).Lists.length
  ·have hy:=ah W
   have hl8:=h8 _ (am W);have hwa:=(hwl.2 _ (am W)).2
   repeat'(first|refine gD ?_|(conv=>whnf);first|with_reducible (first|refine CB (aa t) ?_|refine CB (aa hy) ?_))
   (conv=>whnf)
   refine CE (ι:=Nat × List Int) (λj=>[(1,.hold .box (ab.enc .imm h)),(3,.hold .one (aF .own j.2)),(5,.hold .one [I ((i:Nat):Int)]),(6,.hold .one [I ((k:Nat):Int)]),(7,.hold .one (aF .imm (nth (nth h.Caches i).Lists k))),(8,.hold .one [I ((j.1:Nat):Int)])]) (λj=>j.1<=(nth (nth h.Caches i).Lists k).length/\j.2=V++(nth (nth h.Caches i).Lists k).take j.1/\((nth (nth h.Caches i).Lists k).take j.1).all (λa=>cZ h a (k:Nat))=true) (λj=>(nth (nth h.Caches i).Lists k).length - j.1) ((0,V)) ?_ (⟨U0 _,by simp,rfl⟩) λj hj=>?_
   ·exact wB
   obtain⟨j,S4⟩:=j;obtain⟨hj,o,X⟩:=hj;simp only at hj o X |-;have hl4:S4.length=V.length+j:=by rw[o,I3,U1];omega
   by_cases Y:j<(nth (nth h.Caches i).Lists k).length
   ·have d:=ah Y
    have b:=H (nth (nth (nth h.Caches i).Lists k) j) (k:Nat) (hwa _ (am Y));cases p:cZ h (nth (nth (nth h.Caches i).Lists k) j) (k:Nat)<;>rw[p]at b
    ·repeat'(first|refine gD ?_|(conv=>whnf);first|with_reducible refine CB (aa d) ?_|refine C7 b ?_)
     exact W0 (λz=>[B z]) ((Kh (eD t (by unfold eJ;exact cr W (eD d p)))).symm)
    ·repeat'(first|refine gD ?_|(conv=>whnf);first|with_reducible refine CB (aa d) ?_|refine C7 b ?_|refine CQ co (λr u=>by rw[I1.1 u];rfl) (by simp[aX,dH]) (by simp;omega) (by show _*8<=_;simp;omega) rfl ?_)
     ((conv=>whnf)
      refine CD (j+1,S4++[nth (nth (nth h.Caches i).Lists k) j]) ⟨(by simp only;omega),(by simp only;rw[o,C5,d,I5];rfl),cL d X p⟩ (by simp only;omega) ?_
      (repeat'(first|exact trivial|rfl|exact CJ rfl (CJ (W0 (C.s d7.own) (by simp[rI])) trivial)|refine CJ ?_ ?_)))
   ·obtain rfl:j=(nth (nth h.Caches i).Lists k).length:=ω
    rw[Z4]at o X
    repeat'(first|refine gD ?_|fail)
    ((conv=>whnf);refine CD (k+1,S4) ⟨(by simp only;omega),(by simp only;rw[o,w,wm hy,I5]),bL ak X,(by simp only;omega)⟩ (by simp only;omega) ?_;(exact wB))
  ·obtain rfl:k=(nth h.Caches i).Lists.length:=ω
   rw[Z4]at w
   repeat'(first|refine gD ?_|(conv=>whnf);first|with_reducible refine CB (aa t) ?_)
   ((conv=>whnf);refine CD (i+1,V) ⟨(by simp only;omega),(by simp only;rw[w,n,uv t,I5]),cL t U ak,(by simp only;omega)⟩ (by simp only;omega) ?_;(exact wB))
 obtain rfl:i=h.Caches.length:=ω
 rw[Z4]at n U
 repeat'(first|refine gD ?_|fail)
 (conv=>whnf)
 refine CE (ι:=Nat × List Int) (λq=>[(1,.hold .box (ab.enc .imm h)),(3,.hold .one (aF .own q.2)),(9,.hold .one [I ((q.1:Nat):Int)])]) (λq=>q.1<=h.Quar.Lst.length/\q.2=S2++(h.Quar.Lst.take q.1).map (·.Addr)/\(h.Quar.Lst.take q.1).all (gL h)=true) (λq=>h.Quar.Lst.length - q.1) ((0,S2)) ?_ (⟨U0 _,by simp,rfl⟩) λq Q=>?_
 ·exact wB
 obtain⟨q,R⟩:=q;obtain⟨J,g,Z⟩:=Q;simp only at J g Z |-;have hl5:R.length=S2.length+q:=by rw[g,I3,Z0,U1];omega
 by_cases T:q<h.Quar.Lst.length
 ·have d:=ah T
  have b:=H (nth h.Quar.Lst q).Addr (nth h.Quar.Lst q).Class (hwq.2.2 _ (am T)).1;cases p:cZ h (nth h.Quar.Lst q).Addr (nth h.Quar.Lst q).Class<;>rw[p]at b
  ·repeat'(first|refine gD ?_|(conv=>whnf);first|with_reducible refine CB (aa d) ?_|refine C7 b ?_)
   exact W0 (λz=>[B z]) ((HO (eD d p)).symm)
  ·repeat'(first|refine gD ?_|(conv=>whnf);first|with_reducible refine CB (aa d) ?_|refine C7 b ?_|refine CQ co (λr u=>by rw[I1.1 u];rfl) (by simp[aX,dH]) (by simp;omega) (by show _*8<=_;simp;omega) rfl ?_)
   ((conv=>whnf)
    refine CD (q+1,R++[(nth h.Quar.Lst q).Addr]) ⟨(by simp only;omega),(by simp only;rw[g,C5,d,O5,I5];rfl),cL d Z p⟩ (by simp only;omega) ?_
    (repeat'(first|exact trivial|rfl|exact CJ rfl (CJ (W0 (C.s d7.own) (by simp[rI])) trivial)|refine CJ ?_ ?_)))
 obtain rfl:q=h.Quar.Lst.length:=ω
 rw[Z4]at g Z
 repeat'(first|refine gD ?_|(conv=>whnf);first|refine C7 (xY h.Mail hsm) ?_)
 (conv=>whnf)
 refine CE (ι:=Nat × List Int) (λq=>[(1,.hold .box (ab.enc .imm h)),(3,.hold .one (aF .own q.2)),(10,.hold .one (aF .own (aE h.Mail))),(11,.hold .one [I ((q.1:Nat):Int)])]) (λq=>q.1<=(aE h.Mail).length/\q.2=R++(aE h.Mail).take q.1/\((aE h.Mail).take q.1).all (jl h)=true) (λq=>(aE h.Mail).length - q.1) ((0,R)) ?_ (⟨U0 _,by simp,rfl⟩) λq Q=>?_
 ·exact wB
 obtain⟨q,e⟩:=q;obtain⟨J,l,aq6⟩:=Q;simp only at J l aq6 |-;have hl6:e.length=R.length+q:=by rw[l,I3,U1];omega
 by_cases T:q<(aE h.Mail).length
 ·have d:=ah T
  have b:=H (nth (aE h.Mail) q) (-1) (hfw _ (am T));cases p:cZ h (nth (aE h.Mail) q) (-1)<;>rw[p]at b
  ·repeat'(first|refine gD ?_|(conv=>whnf);first|with_reducible refine CB (aa d) ?_|refine CH rfl (aa d) rfl ?_|refine C7 b ?_)
   exact W0 (λz=>[B z]) ((Ji (eD d p)).symm)
  ·repeat'(first|refine gD ?_|(conv=>whnf);first|with_reducible refine CB (aa d) ?_|refine CH rfl (aa d) rfl ?_|refine C7 b ?_|refine CQ co (λr u=>by rw[I1.1 u];rfl) (by simp[aX,dH]) (by simp;omega) (by show _*8<=_;simp;omega) rfl ?_)
   ((conv=>whnf)
    refine CD (q+1,e++[nth (aE h.Mail) q]) ⟨(by simp only;omega),(by simp only;rw[l,C5,d,I5];rfl),cL d aq6 p⟩ (by simp only;omega) ?_
    (repeat'(first|exact trivial|rfl|exact CJ rfl (CJ (W0 (C.s d7.own) (by simp[rI])) trivial)|refine CJ ?_ ?_)))
 obtain rfl:q=(aE h.Mail).length:=ω
 rw[Z4]at l aq6;have F:e=holders h:=by rw[l,g,n,M];rfl
 have K:gw h=true:=by unfold gw;rw[U,Z,aq6];rfl
 have hbig:e.length<=100000000:=ω
 clear l g n M hSl hl5 P hl6
 repeat'(first|refine gD ?_|fail)
 (conv=>whnf)
 refine Lp.fz 3 (ι:=Nat) (λi=>[(1,.hold .box (ab.enc .imm h)),(3,.hold .one (aF .imm e)),(12,.hold .one [I ((i:Nat):Int)])]) (λi=>i<=e.length/\(e.take i).Nodup) (λi=>e.length - i) 0 ?_ ⟨U0 _,by simp⟩ λi E=>?_
 ·(repeat'(first|exact trivial|rfl|exact CJ rfl (show Kn (dw (aF .own e)) (aF .imm e) by rw[dL];exact km _)|refine CJ ?_ ?_))
 obtain⟨E,L⟩:=E;by_cases Y:i<e.length
 ·have d:=ah Y
  have htl:(e.take i).length=i:=by rw[U1];omega
  repeat'(first|refine gD ?_|(conv=>whnf);first|with_reducible (first|refine CB (aa d) ?_|refine Bf.D (λQ=>?_) (λQ=>?_))|refine CT i rfl (by simp;omega) (λr u=>by obtain⟨z,-,rfl⟩:=z4.1 u;rfl) (t4 ..) ?_|refine C7 (lZ (e.take i) _ ω) ?_)
  all_goals first
   | exact W0 (λz=>[B z]) ((by rw[F]at *;exact(JL (by assumption) (by assumption)).symm))
   | ((conv=>whnf);refine CD (i+1) ⟨ω,by rw[C5,d];exact kK L (by assumption)⟩ ω ?_;(exact wB))
 ·obtain rfl:i=e.length:=ω
  rw[Z4]at L;have hlv:=zU h.Spans h.Larges 512
  repeat'(first|refine gD ?_|(conv=>whnf);first|refine C7 (wi h.Spans h.Larges N O y) ?_)
  exact W0 (λz=>[B z]) ((by unfold iu;rw[K,<-F,O0 L,Bool.true_and,Bool.true_and];rw[U4,beq_iff_eq,C0];unfold ip at *;omega))
set_option maxHeartbeats 8000000
def cR(h:ab):Bool:=(bI h.Mail&&decide (h.Caches.length=h.Mail.Buffers.length))&&eQ h.Quar
def dM(h:ab):Bool:=((((((ky h&&rY h)&&cR h)&&jR h)&&h.Caches.all bn)&&bX h)&&(eO h&&iu h))&&qa h
theorem EG(h:ab)(hs:ab.sml h)(hw:ab.wf h):ao Tryz.prog 125 false [.val (some 24) (ab.enc .imm h)] .one [B (dM h)]:=by
 have R:=hs;have S:=hw;obtain⟨w,y,b,l,T,C,E,F,G⟩:=hs;obtain⟨-,-,-,-,U,hwc,hwm,hwq,-⟩:=hw;have n:ya h:=w.1.2;have hpn:dS h<=1048576:=n.1;have V:h.Objs.length<=1048576:=T.1;have W:h.Caches.length<=1048576:=C.1;have hlq:h.Quar.Lst.length<=1048576:=F.1;have hlb:h.Mail.Buffers.length<=1048576:=E.1.1;have d:=lO h.Kernel w;have e:=lI (dS h) h.Free ⟨ω,ω⟩ y;have g:=lM h.Spans h.Larges b l;have r:=Ar h b n;have H:=lb h.Mail E;have X:=od h.Quar F;cases Y:aB h.Kernel<;>rw[Y]at d
 ·refine fO 150 [(8,10,[67,68,69,70,71,72,73,74,75,76])] Tryz.func125 rfl ?_
  repeat'(first|refine gO ?_|(conv=>whnf);first|with_reducible refine Bf.N (λa=>?_) (λa=>?_)|refine C7 d ?_)
  all_goals first
   | exact W0 (λz=>[B z]) ((by unfold dM ky;rw[Y];simp))
   |(exfalso;omega)
 cases Z:bt (dS h) h.Free<;>rw[Z]at e
 ·refine fO 150 [(8,10,[67,68,69,70,71,72,73,74,75,76])] Tryz.func125 rfl ?_
  repeat'(first|refine gO ?_|(conv=>whnf);first|with_reducible refine Bf.N (λa=>?_) (λa=>?_)|refine C7 d ?_|refine C7 e ?_)
  all_goals first
   | exact W0 (λz=>[B z]) ((by unfold dM ky;rw[Z];simp))
   |(exfalso;omega)
 cases u:bh h.Spans h.Larges<;>rw[u]at g
 ·refine fO 150 [(8,10,[67,68,69,70,71,72,73,74,75,76])] Tryz.func125 rfl ?_
  repeat'(first|refine gO ?_|(conv=>whnf);first|with_reducible refine Bf.N (λa=>?_) (λa=>?_)|refine C7 d ?_|refine C7 e ?_|refine C7 g ?_)
  all_goals first
   | exact W0 (λz=>[B z]) ((by unfold dM ky;rw[u];simp))
   |(exfalso;omega)
 have p:=Eu h b l n y u;cases e4:pages0 h<;>rw[e4]at p
 ·refine fO 150 [(8,10,[67,68,69,70,71,72,73,74,75,76])] Tryz.func125 rfl ?_
  repeat'(first|refine gO ?_|(conv=>whnf);first|with_reducible refine Bf.N (λa=>?_) (λa=>?_)|refine C7 d ?_|refine C7 e ?_|refine C7 g ?_|refine C7 p ?_)
  all_goals first
   | exact W0 (λz=>[B z]) ((by unfold dM ky;rw[e4];simp))
   |(exfalso;omega)
 cases e5:rY h<;>rw[e5]at r
 ·refine fO 150 [(8,10,[67,68,69,70,71,72,73,74,75,76])] Tryz.func125 rfl ?_
  repeat'(first|refine gO ?_|(conv=>whnf);first|with_reducible refine Bf.N (λa=>?_) (λa=>?_)|refine C7 d ?_|refine C7 e ?_|refine C7 g ?_|refine C7 p ?_|refine C7 r ?_)
  all_goals first
   | exact W0 (λz=>[B z]) ((by unfold dM ;rw[e5];simp))
   |(exfalso;omega)
 cases Q:bI h.Mail<;>rw[Q]at H
 ·refine fO 150 [(8,10,[67,68,69,70,71,72,73,74,75,76])] Tryz.func125 rfl ?_
  repeat'(first|refine gO ?_|(conv=>whnf);first|with_reducible refine Bf.N (λa=>?_) (λa=>?_)|refine C7 d ?_|refine C7 e ?_|refine C7 g ?_|refine C7 p ?_|refine C7 r ?_|refine C7 H ?_)
  all_goals first
   | exact W0 (λz=>[B z]) ((by unfold dM cR;rw[Q];simp))
   |(exfalso;omega)
 by_cases J:h.Caches.length=h.Mail.Buffers.length;rotate_left
 ·refine fO 150 [(8,10,[67,68,69,70,71,72,73,74,75,76])] Tryz.func125 rfl ?_
  repeat'(first|refine gO ?_|(conv=>whnf);first|with_reducible refine Bf.N (λa=>?_) (λa=>?_)|refine C7 d ?_|refine C7 e ?_|refine C7 g ?_|refine C7 p ?_|refine C7 r ?_|refine C7 H ?_)
  all_goals first
   | exact W0 (λz=>[B z]) ((by unfold dM cR;rw[T0 J];simp))
   |(exfalso;omega)
 cases e7:eQ h.Quar<;>rw[e7]at X
 ·refine fO 150 [(8,10,[67,68,69,70,71,72,73,74,75,76])] Tryz.func125 rfl ?_
  repeat'(first|refine gO ?_|(conv=>whnf);first|with_reducible refine Bf.N (λa=>?_) (λa=>?_)|refine C7 d ?_|refine C7 e ?_|refine C7 g ?_|refine C7 p ?_|refine C7 r ?_|refine C7 H ?_|refine C7 X ?_)
  all_goals first
   | exact W0 (λz=>[B z]) ((by unfold dM cR;rw[e7];simp))
   |(exfalso;omega)
 have K:ky h=true:=by unfold ky;rw[Y,Z,u,e4];rfl
 have hmc:cR h=true:=by unfold cR;rw[Q,O0 J,e7];rfl
 refine fO 150 [(8,10,[67,68,69,70,71,72,73,74,75,76])] Tryz.func125 rfl ?_
 repeat'(first|refine gA ?_|(conv=>whnf);first|with_reducible refine Bf.N (λa=>?_) (λa=>?_)|refine C7 d ?_|refine C7 e ?_|refine C7 g ?_|refine C7 p ?_|refine C7 r ?_|refine C7 H ?_|refine C7 X ?_)
 all_goals try(exfalso;omega)
 (conv=>whnf)
 refine CE (ι:=Nat) (λi=>[(1,.hold .box (ab.enc .imm h)),(3,.hold .one [I ((i:Nat):Int)])]) (λi=>i<=h.Quar.Lst.length/\(h.Quar.Lst.take i).all (λx=>decide (x.Since<=h.Clock))=true) (λi=>h.Quar.Lst.length - i) (0) ?_ (⟨U0 _,rfl⟩) λi hi=>?_
 ·exact wB
 obtain⟨hi,ai⟩:=hi;by_cases li:i<h.Quar.Lst.length
 ·have j:=ah li
  repeat'(first|refine gD ?_|(conv=>whnf);first|with_reducible (first|refine CB (aa j) ?_|refine Bf.D (λa=>?_) (λa=>?_)))
  all_goals first
   | exact W0 (λz=>[B z]) ((by unfold dM jR;rw[eD j (T0 ω)];simp))
   | ((conv=>whnf);refine CD (i+1) ⟨ω,cL j ai (O0 ω)⟩ ω ?_;(exact wB))
 have hsi:jR h=true:=gu ω ai
 repeat'(first|refine gD ?_|fail)
 (conv=>whnf)
 refine CE (ι:=Nat) (λk=>[(1,.hold .box (ab.enc .imm h)),(4,.hold .one [I ((k:Nat):Int)])]) (λk=>k<=h.Caches.length/\(h.Caches.take k).all bn=true) (λk=>h.Caches.length - k) (0) ?_ (⟨U0 _,rfl⟩) λk hk=>?_
 ·exact wB
 obtain⟨hk,ak⟩:=hk;by_cases lk:k<h.Caches.length
 ·have j:=ah lk
  have c8:=nl (nth h.Caches k) (C.2 _ (am lk));cases e8:bn (nth h.Caches k)<;>rw[e8]at c8
  ·repeat'(first|refine gD ?_|(conv=>whnf);first|with_reducible refine CB (aa j) ?_|refine C7 c8 ?_)
   exact W0 (λz=>[B z]) ((by unfold dM;rw[eD j e8];simp))
  ·repeat'(first|refine gD ?_|(conv=>whnf);first|with_reducible refine CB (aa j) ?_|refine C7 c8 ?_)
   ((conv=>whnf);refine CD (k+1) ⟨ω,cL j ak e8⟩ ω ?_;(exact wB))
 have L:h.Caches.all bn=true:=gu ω ak;have q:=FJ h b l u V W (λo ho=>(U.2 o ho).2.1);have c10:=FE h R S u Q (Y3.1 L);have c11:=HZ h.Job G;have c12:=v7 h.Job G;have c13:=jr h h.Job.Plan.Keep b.1;have c14:=jr h h.Job.Plan.Move b.1;by_cases hn:bX h=true;rotate_left
 ·have M:bX h=false:=by simpa using hn
  have c:=M;unfold bX at c;rw[T4]at c;cases O:eO h<;>rw[O]at q<;>cases e10:iu h<;>rw[e10]at c10
  all_goals
   repeat'(first|refine gD ?_|(conv=>whnf);first|with_reducible refine Bf.D (λa=>?_) (λa=>?_)|refine C7 (aG _ _ _) ?_|refine C7 q ?_|refine C7 c10 ?_)
   all_goals first
    | exact W0 (λz=>[B z]) ((by unfold dM;rw[M];simp))
    |(exfalso;omega)
 have c:=hn;unfold bX at c;rw[C0]at c;cases O:eO h<;>rw[O]at q
 ·repeat'(first|refine gD ?_|(conv=>whnf);first|with_reducible refine Bf.D (λa=>?_) (λa=>?_)|refine C7 (aG _ _ _) ?_|refine C7 q ?_)
  all_goals first
   | exact W0 (λz=>[B z]) ((by unfold dM;rw[O];simp))
   |(exfalso;omega)
 cases e10:iu h<;>rw[e10]at c10
 ·repeat'(first|refine gD ?_|(conv=>whnf);first|with_reducible refine Bf.D (λa=>?_) (λa=>?_)|refine C7 (aG _ _ _) ?_|refine C7 q ?_|refine C7 c10 ?_)
  all_goals first
   | exact W0 (λz=>[B z]) ((by unfold dM;rw[e10];simp))
   |(exfalso;omega)
 have P:dM h=qa h:=by unfold dM;rw[K,e5,hmc,hsi,L,hn,O,e10];rfl
 rw[P];unfold qa;cases em:h.Meshing
 ·repeat'(first|refine gD ?_|(conv=>whnf);first|with_reducible refine Bf.D (λa=>?_) (λa=>?_)|refine C7 (aG _ _ _) ?_|refine C7 q ?_|refine C7 c10 ?_|refine C7 c11 ?_|refine Bf.f em ?_)
  all_goals first
   |rfl
   | exact W0 (λz=>[B z]) ((by simp;done))
   |(exfalso;omega)
 ·cases e12:jx h.Job<;>rw[e12]at c12
  all_goals
   repeat'(first|refine gD ?_|(conv=>whnf);first|with_reducible (first|refine Bf.D (λa=>?_) (λa=>?_)|refine Bf.D (λa=>?_) (λa=>?_))|refine C7 (aG _ _ _) ?_|refine C7 q ?_|refine C7 c10 ?_|refine C7 c12 ?_|refine C7 c13 ?_|refine C7 c14 ?_|refine Bf.t em ?_)
   all_goals first
    | exact W0 (λz=>[B z]) ((by grind))
    |(exfalso;omega)
set_option maxHeartbeats 4000000
def sorted(xs:List Int):List Int:=xs.mergeSort λx y=>decide (x<=y)
theorem v8(xs:List Int):(sorted xs).length=xs.length:=List.length_mergeSort ..
theorem Gb{w a:World}{g n:Nat}{d:Array Int}{f:Array Obj}{c:Array Value}{e:TypeId}{k:Nat × Nat}(l:w.heap[g]? = some (.cells c e k))(p:a=Sort.grow (Sort.putRow (Value.int .i64) (Sort.ahead w n) g 0 d) f) :
  a.os=w.os/\a.tape=w.tape/\a.output=w.output/\w.heap.size<=a.heap.size/\(∀b,b<w.heap.size->b≠g->a.heap[b]? = w.heap[b]?)/\a.heap[g]? = some (.cells (Sort.putCells (Value.int .i64) 0 d c) e k):=by
 subst p;have h:g<w.heap.size:=(T3.1 l).1;have o:∀b,b<w.heap.size->(Sort.grow (Sort.putRow (Value.int .i64) (Sort.ahead w n) g 0 d) f).heap[b]? = if g=b then(w.heap[b]?).map (Sort.onCells (Sort.putCells (Value.int .i64) 0 d)) else w.heap[b]?:=λb i=>by
  rw[Sort.heap_grow_old _ _ (by simpa[Sort.putRow,Sort.mapBlock,Sort.ahead] using i)];show(w.heap.modify g _)[b]? = _;rw[Array.getElem?_modify]
 refine⟨rfl,rfl,rfl,?_,λb i j=>?_,?_⟩
 ·show w.heap.size<=((w.heap.modify g _)++f).size
  simp
 ·rw[o b i,C8 λe=>j e.symm]
 ·rw[o g h,C9 rfl,l];rfl
theorem Pj(d:Array Int)(c:Array Value)(q:Nat):(Sort.putCells (Value.int .i64) 0 d c)[q]? = if q<d.size then(c[q]?).map (λ_=>.int .i64 d[q]!) else c[q]?:=by
 unfold Sort.putCells;rw[Array.getElem?_mapIdx];by_cases h:q<d.size
 ·rw[C9 h]
  cases c[q]? with
  | none=>rfl
  | some y=>simp[h]
 ·rw[C8 h]
  cases c[q]? with
  | none=>rfl
  | some y=>simp[h]
theorem row1{w:World}{S Y:ac}{c:C}{v:Value}(h:eC w S Y c v):cP w S Y [c] (λ_=>v):=by
 refine⟨λ_=>Y,λj e a=>?_,λ_ _ _ _ h=>h,λj f a b d=>?_⟩
 ·cases j with
  | zero=>simp at a;subst a;exact h
  | succ j=>simp at a
 ·simp at a b;omega
def R8(Y:ac):Nat->ac
 | 0=>Y
 | _+1=>NO
theorem Dv(xs:List Int){j:Nat}(a:j<xs.length):xs.toArray[j]! = xs[j]:=by
 rw[getElem!_pos xs.toArray j (by simpa using a)];simp
theorem Nc(xs:List Int)(hl:xs.length<=1048576*64):aO Tryz.prog 175 false [.mut none (aF .own xs)] [.mut none (aF .own (sorted xs))] (.tup []) []:=by
 refine⟨⟨_,Tryz.func175,by kernel_rfl,by kernel_rfl⟩,λw S V vs hS hV hVV hA=>?_⟩
 match vs,hA with
 | [v],⟨hA,_⟩=>
  have E:=bE.rep1 (show bE w S (V 0) none [C.s .own (xs.map (rI .own))] v from hA);generalize D:C.s .own (xs.map (rI .own))=cc at E;cases E with
  | nil _ o a ho=>
   cases R:xs with
   | cons x xs'=>rw[R]at D;cases D
   | nil=>
    refine(Tryz.slices_Sort_int_none a 0 w).mono λe d ⟨he,G⟩=>?_
    subst G;refine⟨.tuple #[],he,CX _ _,NO,λ_=>NO,NO,λ_ _ h=>h.elim,λ_ _ _ h=>h.elim,λ_ _ h=>h.elim,λ_ _ _ _ _ h=>h.elim,λ_ _ _ h=>h.elim,λ_ _ h=>h.elim,λ_ _ _ h=>h.elim,⟨#[],rfl,trivial,rfl⟩,cP.nil _ _ _ _,⟨⟨rfl,λ_=>.slice a 0 0,rfl,row1 (by rw[show sorted []=[] from List.mergeSort_nil ..];exact .nil _ .own _ trivial)⟩,trivial⟩⟩
  | own _ o g k n H rows u f ho O hk T U W hu hf hd hc=>
   cases D;have hnx:n=xs.length:=by rw[<-O,Z0]
   have X:0<xs.length:=ω
   have hk1:k=1:=by
    have:=hk (rI .own xs[0]) (z4.2 ⟨_,List.getElem_mem X,rfl⟩);exact this.symm
   subst hk1 hnx;have t:∀j (y:j<xs.length),cel w g j=some (.int .i64 xs[j]):=λj y=>by
    have J:=hu j ω;have Y:=hc j 0 (rI .own xs[j]) (I xs[j]) (by rw[C3,I2 y];rfl) rfl;rw[Nat.mul_one,Nat.add_zero]at Y;rw[J];generalize u j=z at Y;cases Y
    rfl
   have hgs:g<w.heap.size:=(hV 0 g 0 (W 0 ω).1).1;obtain⟨c,e0,fr,hg,-⟩:=Sort.cells_of_cell? (t 0 X);have hH:Sort.Holds (Value.int .i64) w g 0 xs.toArray:=λj y=>by
    have Z:j<xs.length:=by simpa using y
    refine⟨?_,?_⟩
    ·rw[Dv xs Z,T6];exact t j Z
    ·rw[T6];exact W0 Prod.fst (W j ω).2.2
   refine(Tryz.slices_Sort_int g 0 H xs w hH hgs ω).mono λe d ⟨he,m,os,G⟩=>?_
   obtain⟨q1,q2,q3,q4,q5,q6⟩:=Gb hg G;have hsl:=v8 xs;have B:∀q,cel w g q=c[q]?:=λq=>by show World.cell? w _=_;unfold World.cell?;simp[hg]
   have l:∀q,cel d g q=if q<xs.length then(c[q]?).map (λ_=>.int .i64 (sorted xs).toArray[q]!) else c[q]?:=λq=>by
    have J:=Pj (sorted xs).toArray c q;have Y:(sorted xs).toArray.size=xs.length:=by simpa using hsl
    rw[Y]at J;rw[<-J];show World.cell? d _=_;unfold World.cell?;simp[q6,sorted]
   have p:∀q (P:q<xs.length),cel d g q=some (.int .i64 ((sorted xs)[q]'(ω))):=λq P=>by
    have J:=t q P;rw[B]at J;rw[l,C9 P,J,t5,Dv (sorted xs) ω]
   have F:∀q,fro d g q=fro w g q:=λq=>by
    refine Prod.ext ?_ ?_
    ·show World.frozen? d _=World.frozen? w _
     unfold World.frozen?;simp[q6,hg]
    ·show mp d g=mp w g
     unfold mp;rw[q6,hg]
   have hother:∀b,b<w.heap.size->b≠g->∀o,cel d b o=cel w b o/\fro d b o=fro w b o:=λb K L o=>by
    have M:=q5 b K L;refine⟨?_,Prod.ext ?_ ?_⟩
    ·show World.cell? d _=World.cell? w _
     unfold World.cell?;simp only[M]
    ·show World.frozen? d _=World.frozen? w _
     unfold World.frozen?;simp only[M]
    ·show mp d b=mp w b
     unfold mp;rw[M]
   have N:bB (λb o=>∃i,V i b o) w d:=by
    refine⟨q1,q2,q3,q4,λb K O=>q5 b K λe=>?_,λb o K O=>?_,λb o K O=>?_⟩
    ·subst e;exact O 0 ⟨0,(W 0 ω).1⟩
    ·by_cases e:b=g
     ·subst e
      have ho:¬o<xs.length:=λh=>O ⟨0,(W o ω).1⟩
      rw[l,C8 ho,B]
     ·exact(hother b K e o).1
    ·by_cases e:b=g
     ·subst e;exact F o
     ·exact(hother b K e o).2
   refine⟨.tuple #[],he,N,NO,R8 (V 0),NO,λ_ _ h=>h.elim,λi b o h=>?_,λ_ _ h=>h.elim,λi i' L b o h h'=>?_,λ_ _ _ h=>h.elim,λ_ _ h=>h.elim,λ_ _ _ _ h=>h.elim,⟨#[],rfl,trivial,rfl⟩,cP.nil _ _ _ _,⟨⟨rfl,λ_=>.slice (some ⟨g,0,none⟩) xs.length H,rfl,row1 ?_⟩,trivial⟩⟩
   ·cases i with
    | zero=>exact .inl ⟨0,h⟩
    | succ i=>exact h.elim
   ·cases i with
    | zero=>
     cases i' with
     | zero=>exact L rfl
     | succ i'=>exact h'.elim
    | succ i=>exact h.elim
   ·show eC d _ (V 0) _ _
    refine .own _ .own g 1 xs.length H _ (λq=>(cel d g q).getD undef) (λ_=>NO) trivial (by rw[Z0,hsl]) (λr hr=>by obtain⟨z,-,rfl⟩:=z4.1 hr;rfl) T U (λq P=>?_) (λq P=>?_) (λ_ _ _ _ h=>h.elim) (λ_ _ _ _ _ _ _ h=>h.elim) (λi j r c2 Q y=>?_)
    ·obtain⟨a1,⟨z,a2,a3⟩,a4⟩:=W q P
     refine⟨a1,?_,(F q).trans a4⟩;by_cases hqx:q<xs.length
     ·exact⟨_,p q hqx,rfl⟩
     ·rw[l,C8 hqx,<-B];exact⟨z,a2,a3⟩
    ·rw[p q ω];rfl
    ·rw[C3]at Q
     have hil:i<(sorted xs).length:=by
      rcases Nat.lt_or_ge i (sorted xs).length with h|h
      ·exact h
      ·rw[U2 h]at Q;cases Q
     rw[I2 hil]at Q;simp only[t5,X0]at Q;subst Q
     match j,y with
     | 0,y=>
      simp only[rI,List.getElem?_cons_zero,X0]at y;subst y;simp only[Nat.mul_one,Nat.add_zero,p i ω,Option.getD_some];exact .v _ _ rfl
     | j+1,y=>simp[rI]at y
  | _=>cases D
set_option maxHeartbeats 8000000
def kD(s:ar)(k:Nat):Int:=16*s.Page+(k:Nat)*csz s.Class
def dZ(s:ar)(n:Nat):List Int:=((List.range n).filter λk=>aU s.Bits (k:Nat)).map (kD s)
theorem A3{s:ar}{n:Nat}(h:aU s.Bits (n:Nat)=true):dZ s (n+1)=dZ s n++[kD s n]:=by
 unfold dZ;rw[List.range_succ,List.filter_append,O5];simp[h]
theorem Dg{s:ar}{n:Nat}(h:aU s.Bits (n:Nat)=false):dZ s (n+1)=dZ s n:=by
 unfold dZ;rw[List.range_succ,List.filter_append,O5];simp[h]
theorem sq(s:ar)(n:Nat):(dZ s n).length<=n:=by
 unfold dZ;rw[Z0];exact V4 (List.length_filter_le ..) (by simp)
def fh(sp:List ar):List Int:=sp.flatMap λs=>dZ s (slots s.Class).toNat
def live0(sp:List ar)(la:List a7):List Int:=fh sp++la.map λl=>16*l.Page
def nE(sp:List ar)(la:List a7):List Int:=sorted (live0 sp la)
theorem rq(k:Int):0<=slots k/\slots k<=16:=by
 unfold slots;(repeat' split)<;>decide
theorem zV{k:Int}(h:0<=k/\k<=3):slots k*csz k=16:=by
 obtain rfl|rfl|rfl|rfl:k=0\/k=1\/k=2\/k=3:=ω
 all_goals decide
theorem xh{sp:List ar}{i:Nat}{s:ar}(h:sp[i]? = some s):fh (sp.take (i+1))=fh (sp.take i)++dZ s (slots s.Class).toNat:=by
 unfold fh;rw[C5,h,List.flatMap_append];simp
theorem yh(s:ar)(k:Nat)(a:aY s=true)(i:(k:Int)<slots s.Class):ao Tryz.prog 174 false [.val (some 3) (ar.enc .imm s),.val none [I (k:Nat)]] .one [I (kD s k)]:=by
 have b:=ge s;have c:=cJ s.Class;have g:=iF s.Class;rw[a]at b;have d:=aC a;have j:=rq s.Class;rcases bO ⟨d.2.2.1,d.2.2.2⟩ with e|e|e|e<;>rw[e]at c
 all_goals
  refine fO 26 [(3,9,[17,18,19,20,21,22,23,24,25])] Tryz.func174 rfl ?_
  repeat'(first|refine gD ?_|(conv=>whnf);first|with_reducible refine Bf.D (λh=>?_) (λh=>?_)|refine C7 b ?_|refine C7 c ?_|refine C7 g ?_|refine C7 (aN _ 0 _) ?_)
  all_goals exact W0 (λz=>[I z]) (by unfold kD;rw[e];omega)
theorem xp(sp:List ar)(la:List a7)(d:du sp)(e:dr la)(b:bh sp la=true):ao Tryz.prog 79 false [.val none (ci .imm sp),.val none (bU .imm la)] .one (aF .own (nE sp la)):=by
 have E:=d.1;have F:=e.1;have D:=lJ sp la d e;rw[b]at D;obtain⟨p,G,-⟩:=db b;refine fP 56 [(175,[1])] [] Tryz.func79 rfl ?_ (.inr (bJ _))
 repeat'(first|refine gO ?_|(conv=>whnf);first|refine C7 D ?_)
 (conv=>whnf)
 refine CE (ι:=Nat × List Int) (λi=>[(1,.hold .one (bU .imm la)),(5,.hold .one (aF .own i.2)),(16,.hold .one (ci .imm sp)),(17,.hold .one [I (sp.length)]),(18,.hold .one [I ((i.1:Nat):Int)])]) (λi=>i.1<=sp.length/\i.2=fh (sp.take i.1)/\i.2.length<=16*i.1) (λi=>sp.length - i.1) ((0,[])) ?_ (⟨U0 _,rfl,U0 _⟩) λi g=>?_
 ·exact wB
 obtain⟨i,S⟩:=i;obtain⟨g,n,H⟩:=g;simp only at g n H |-;by_cases o:i<sp.length
 ·have c:=ah o
  have h:aY (nth sp i)=true:=NQ p o;have J:=rq (nth sp i).Class;have q:=eg h
  repeat'(first|refine gD ?_|(conv=>whnf);first|with_reducible refine CB (aa c) ?_)
  (conv=>whnf)
  refine CE (ι:=Nat × List Int) (λk=>[(1,.hold .one (bU .imm la)),(5,.hold .one (aF .own k.2)),(7,.hold .box (ar.enc .imm (nth sp i))),(8,.hold .one [I ((k.1:Nat):Int)]),(16,.hold .one (ci .imm sp)),(17,.hold .one [I (sp.length)]),(18,.hold .one [I ((i:Nat):Int)])]) (λk=>k.1<=(slots (nth sp i).Class).toNat/\k.2=S++dZ (nth sp i) k.1) (λk=>(slots (nth sp i).Class).toNat - k.1) ((0,S)) ?_ (⟨U0 _,by simp[dZ]⟩) λk t=>?_
  ·exact wB
  obtain⟨k,S2⟩:=k;obtain⟨t,a⟩:=t;simp only at t a |-;have K:=sq (nth sp i) k;have j:S2.length=S.length+(dZ (nth sp i) k).length:=by rw[a,I3]
  by_cases M:k<(slots (nth sp i).Class).toNat
  ·have u:=jK (nth sp i).Bits (k:Nat) q.2
   cases w:aU (nth sp i).Bits (k:Nat)<;>rw[w]at u
   ·repeat'(first|refine gD ?_|(conv=>whnf);first|refine C7 (iF _) ?_|refine C7 u ?_)
    ((conv=>whnf);refine CD (k+1,S2) ⟨(by simp only;omega),(by simp only;rw[Dg w];exact a)⟩ (by simp only;omega) ?_;(exact wB))
   ·repeat'(first|refine gD ?_|(conv=>whnf);first|refine C7 (iF _) ?_|refine C7 u ?_|refine C7 (yh (nth sp i) k h ω) ?_|refine CQ co (λr y=>by rw[I1.1 y];rfl) (by simp[aX,dH]) (by simp;omega) (by show _*8<=_;simp;omega) rfl ?_)
    ((conv=>whnf)
     refine CD (k+1,S2++[kD (nth sp i) k]) ⟨(by simp only;omega),(by simp only;rw[A3 w,a,I5])⟩ (by simp only;omega) ?_
     (repeat'(first|exact trivial|rfl|exact CJ rfl (CJ (W0 (C.s d7.own) (by simp[rI])) trivial)|refine CJ ?_ ?_)))
  ·obtain rfl:k=(slots (nth sp i).Class).toNat:=ω
   repeat'(first|refine gD ?_|(conv=>whnf);first|refine C7 (iF _) ?_)
   ((conv=>whnf);refine CD (i+1,S2) ⟨(by simp only;omega),(by simp only;rw[xh c,<-n,a]),(by simp only;omega)⟩ (by simp only;omega) ?_;(exact wB))
 obtain rfl:i=sp.length:=ω
 rw[Z4]at n
 repeat'(first|refine gD ?_|fail)
 (conv=>whnf)
 refine CE (ι:=Nat × List Int) (λi=>[(5,.hold .one (aF .own i.2)),(40,.hold .one (bU .imm la)),(41,.hold .one [I (la.length)]),(42,.hold .one [I ((i.1:Nat):Int)])]) (λi=>i.1<=la.length/\i.2=S++(la.take i.1).map (λl=>16*l.Page)) (λi=>la.length - i.1) ((0,S)) ?_ (⟨U0 _,by simp⟩) λi g=>?_
 ·exact wB
 obtain⟨i,S2⟩:=i;obtain⟨B,a⟩:=g;simp only at B a |-;have j:S2.length=S.length+i:=by rw[a,I3,Z0,U1];omega
 by_cases o:i<la.length
 ·have c:=ah o
  have L:=tF b c
  repeat'(first|refine gD ?_|(conv=>whnf);first|with_reducible refine CB (aa c) ?_|refine CQ co (λr y=>by rw[I1.1 y];rfl) (by simp[aX,dH]) (by simp;omega) (by show _*8<=_;simp;omega) rfl ?_)
  ((conv=>whnf)
   refine CD (i+1,S2++[16*(nth la i).Page]) ⟨(by simp only;omega),(by simp only;rw[a,C5,c];simp)⟩ (by simp only;omega) ?_
   (repeat'(first|exact trivial|rfl|exact CJ rfl (CJ (W0 (C.s d7.own) (by simp[rI];omega)) trivial)|refine CJ ?_ ?_)))
 obtain rfl:i=la.length:=ω
 rw[Z4]at a
 repeat'(first|refine gD ?_|(conv=>whnf);first|refine CI (Nc S2 ω) (.inl rfl) ?_)
 show _=aF .own (sorted (fh sp++la.map λl=>16*l.Page));rw[<-n,<-a];rfl
def qg(b:List (Int × Value))(L:List Int):Prop:=∀a,mlook b a (.int .i64 0)=.int .i64 (L.count a:Nat)
theorem Ke(f:List (Int × Value))(a b:Int)(v d:Value):mlook (mput f a v) b d=if a=b then v else mlook f b d:=by
 induction f with
 | nil=>simp only[mput,mlook]
 | cons p f g=>
  simp only[mput];by_cases h:p.1=a
  ·rw[C9 h]
   simp only[mlook];by_cases c:a=b
   ·rw[C9 c,C9 c]
   ·rw[C8 c,C8 c,C8 (by rw[h];exact c)]
  ·rw[C8 h]
   simp only[mlook];by_cases c:p.1=b
   ·rw[C9 c,C9 c,C8 (λe=>h (c.trans e.symm))]
   ·rw[C8 c,C8 c,g]
def inc(b:List (Int × Value))(L:List Int)(a:Int):List (Int × Value):=mput b a (.int .i64 ((L.count a:Nat)+1))
theorem Jy:qg [] []:=λ_=>rfl
theorem p7{d:List (Int × Value)}{L:List Int}(h:qg d L)(a:Int):qg (inc d L a) (L++[a]):=λb=>by
 unfold inc;rw[Ke,V5];by_cases c:a=b
 ·subst c;rw[C9 rfl,List.count_singleton_self];simp
 ·rw[C8 c,h b,List.count_singleton,C8 (by simpa using c)];rfl
theorem Bj(h:ab)(d:du h.Spans)(e:dr h.Larges)(b:List (Int × Value))(L:List Int)(a c:Int)(g:qg b L)(n:L.length<=1000000000) :
  aO Tryz.prog 170 false [.val none [I a],.val none [I c],.ptr [.m b],.ptr (ab.enc .imm h)] [.val none [I a],.val none [I c],.ptr [.m (inc b L a)],.ptr (ab.enc .imm h)] .one [B (cZ h a c)]:=by
 have k:=jN h.Spans h.Larges a d e;obtain⟨i,-⟩:=mW h.Spans h.Larges a;have l:L.count a<=L.length:=List.count_le_length;unfold cZ;generalize denotes h.Spans h.Larges a=w at k i |-;refine fM 41 [] [] [(0,0),(0,0),(0,0),(0,0)] Tryz.func170 rfl (λu q=>?_)
 repeat'(first|refine gO ?_|(conv=>whnf);first|with_reducible (first|refine Bf.D (λj=>?_) (λj=>?_)|refine Bf.E (λj=>?_) (λj=>?_))|refine Ml.mk (g a) ?_|refine Mu.mk (es':=inc b L a) rfl ?_|refine C7 k ?_|refine CL (i (by assumption)).1 (aa (ah (i (by assumption)).2)) ?_)
 all_goals
  refine CF rfl ?_ ?_
  ·exact W0 (λz=>[B z]) ((by grind))
  ·exact wB
set_option maxHeartbeats 8000000
def rV(h:ab)(a:aK):Bool:=gL h a&&decide (a.Since<=h.Clock)
def lY(h:ab):List Int:=((cb h++h.Quar.Lst.map (·.Addr))++aE h.Mail)++h.Objs.map (·.Addr)
def jp(h:ab):Bool:=((h.Caches.all (eJ h)&&h.Quar.Lst.all (rV h))&&(aE h.Mail).all (jl h))&&(nE h.Spans h.Larges).all λa=>decide ((lY h).count a=1)
theorem Ng{h:ab}(h1:h.Caches.all (eJ h)=false):jp h=false:=by unfold jp;rw[h1];rfl
theorem GU{h:ab}(h1:h.Quar.Lst.all (rV h)=false):jp h=false:=by unfold jp;rw[h1];simp
theorem NV{h:ab}(h1:(aE h.Mail).all (jl h)=false):jp h=false:=by unfold jp;rw[h1];simp
theorem N4{h:ab}(h1:((nE h.Spans h.Larges).all λa=>decide ((lY h).count a=1))=false):jp h=false:=by unfold jp;rw[h1];simp
theorem J9{sp:List ar}{la:List a7}(h1:sp.length<=1048576)(b:la.length<=1048576):(nE sp la).length<=100000000:=by
 have a:∀(l:List ar),(fh l).length<=16*l.length:=by
  intro l
  induction l with
  | nil=>exact U0 _
  | cons s l c=>
   have e:fh (s::l)=dZ s (slots s.Class).toNat++fh l:=by unfold fh;rw[I6]
   have d:=rq s.Class;have f:=sq s (slots s.Class).toNat;rw[e,I3,List.length_cons];omega
 have g:=a sp;unfold nE live0;rw[v8,I3,Z0];omega
theorem x3(h:ab)(hs:ab.sml h)(S:bh h.Spans h.Larges=true)(M:bI h.Mail=true)(hco:∀c∈h.Caches,bn c=true):ao Tryz.prog 74 false [.val (some 24) (ab.enc .imm h)] .one [B (jp h)]:=by
 obtain⟨-,-,t,u,hso,hsc,hsm,hsq,-⟩:=hs;have hlo:h.Objs.length<=1048576:=hso.1;have hlc:h.Caches.length<=1048576:=hsc.1;have hlq:h.Quar.Lst.length<=1048576:=hsq.1;have hfl:=m0 M;have w:jp h=false->[B false]=[B (jp h)]:=λe=>by rw[e]
 refine fP 114 [(170,[0,0,2,2])] [] Tryz.func74 rfl ?_
 repeat'(first|refine gO ?_|fail)
 (conv=>whnf)
 refine CE (ι:=Nat × List (Int × Value) × List Int) (λi=>[(1,.hold .box (ab.enc .imm h)),(3,.hold .box [.m i.2.1]),(4,.fn 170 [3,1]),(22,.hold .one (gN .imm h.Caches)),(23,.hold .one [I (h.Caches.length)]),(24,.hold .one [I ((i.1:Nat):Int)])]) (λi=>i.1<=h.Caches.length/\qg i.2.1 i.2.2/\i.2.2=((h.Caches.take i.1).flatMap λc=>c.Lists.flatten)/\(h.Caches.take i.1).all (eJ h)=true/\i.2.2.length<=32*i.1) (λi=>h.Caches.length - i.1) ((0,[],[])) ?_ (⟨U0 _,Jy,rfl,rfl,U0 _⟩) λi hi=>?_
 ·exact wB
 obtain⟨i,es,L⟩:=i;obtain⟨hi,O,X,Y,hb⟩:=hi;simp only at hi O X Y hb |-;by_cases li:i<h.Caches.length
 ·have T:=ah li
  obtain⟨h4,h8⟩:=kV (hco _ (am li))
  repeat'(first|refine gD ?_|(conv=>whnf);first|with_reducible refine CB (aa T) ?_)
  (conv=>whnf)
  refine CE (ι:=Nat × List (Int × Value) × List Int) (λk=>[(1,.hold .box (ab.enc .imm h)),(3,.hold .box [.m k.2.1]),(4,.fn 170 [3,1]),(22,.hold .one (gN .imm h.Caches)),(23,.hold .one [I (h.Caches.length)]),(24,.hold .one [I ((i:Nat):Int)]),(29,.hold .one (i9 .imm (nth h.Caches i).Lists)),(30,.hold .one [I ((nth h.Caches i).Lists.length)]),(31,.hold .one [I ((k.1:Nat):Int)])]) (λk=>k.1<=(nth h.Caches i).Lists.length/\qg k.2.1 k.2.2/\k.2.2=L++((nth h.Caches i).Lists.take k.1).flatten/\cS k.1 (qY h (nth h.Caches i))=true/\k.2.2.length<=L.length+8*k.1) (λk=>(nth h.Caches i).Lists.length - k.1) ((0,es,L)) ?_ (⟨U0 _,O,by simp,rfl,by simp⟩) λk hk=>?_
  ·exact wB
  obtain⟨k,es3,Z⟩:=k;obtain⟨hk,y,K,ak,hb3⟩:=hk;simp only at hk y K ak hb3 |-;by_cases lk:k<(nth h.Caches i).Lists.length
  ·have hy:=ah lk
   have hl8:=h8 _ (am lk)
   repeat'(first|refine gD ?_|(conv=>whnf);first|with_reducible (first|refine CB (aa T) ?_|refine CB (aa hy) ?_))
   (conv=>whnf)
   refine CE (ι:=Nat × List (Int × Value) × List Int) (λj=>[(1,.hold .box (ab.enc .imm h)),(3,.hold .box [.m j.2.1]),(4,.fn 170 [3,1]),(7,.hold .one [I ((k:Nat):Int)]),(22,.hold .one (gN .imm h.Caches)),(23,.hold .one [I (h.Caches.length)]),(24,.hold .one [I ((i:Nat):Int)]),(29,.hold .one (i9 .imm (nth h.Caches i).Lists)),(30,.hold .one [I ((nth h.Caches i).Lists.length)]),(31,.hold .one [I ((k:Nat):Int)]),(36,.hold .one (aF .imm (nth (nth h.Caches i).Lists k))),(37,.hold .one [I ((nth (nth h.Caches i).Lists k).length)]),(38,.hold .one [I ((j.1:Nat):Int)])]) (λj=>j.1<=(nth (nth h.Caches i).Lists k).length/\qg j.2.1 j.2.2/\j.2.2=Z++(nth (nth h.Caches i).Lists k).take j.1/\((nth (nth h.Caches i).Lists k).take j.1).all (λa=>cZ h a (k:Nat))=true) (λj=>(nth (nth h.Caches i).Lists k).length - j.1) ((0,es3,Z)) ?_ (⟨U0 _,y,by simp,rfl⟩) λj hj=>?_
   ·exact wB
   obtain⟨j,es4,U⟩:=j;obtain⟨hj,l,C,aj⟩:=hj;simp only at hj l C aj |-;have hl4:U.length=Z.length+j:=by rw[C,I3,U1];omega
   by_cases lj:j<(nth (nth h.Caches i).Lists k).length
   ·have d:=ah lj
    have b:=Bj h t u es4 U (nth (nth (nth h.Caches i).Lists k) j) (k:Nat) l ω;cases r:cZ h (nth (nth (nth h.Caches i).Lists k) j) (k:Nat)<;>rw[r]at b
    ·repeat'(first|refine gD ?_|(conv=>whnf);first|with_reducible refine CB (aa d) ?_|refine CI (b) (.inl rfl) ?_)
     exact w (Ng (eD T (by unfold eJ;exact cr lk (eD d r))))
    ·repeat'(first|refine gD ?_|(conv=>whnf);first|with_reducible refine CB (aa d) ?_|refine CI (b) (.inl rfl) ?_)
     ((conv=>whnf)
      refine CD (j+1,inc es4 U (nth (nth (nth h.Caches i).Lists k) j),U++[nth (nth (nth h.Caches i).Lists k) j]) ⟨(by simp only;omega),p7 l _,(by simp only;rw[C,C5,d,I5];rfl),cL d aj r⟩ (by simp only;omega) ?_
      (exact wA))
   ·obtain rfl:j=(nth (nth h.Caches i).Lists k).length:=ω
    rw[Z4]at C aj
    repeat'(first|refine gD ?_|fail)
    ((conv=>whnf);refine CD (k+1,es4,U) ⟨(by simp only;omega),l,(by simp only;rw[C,K,wm hy,I5]),bL ak aj,(by simp only;omega)⟩ (by simp only;omega) ?_;(exact wB))
  ·obtain rfl:k=(nth h.Caches i).Lists.length:=ω
   rw[Z4]at K
   repeat'(first|refine gD ?_|fail)
   ((conv=>whnf);refine CD (i+1,es3,Z) ⟨(by simp only;omega),y,(by simp only;rw[K,X,uv T]),cL T Y ak,(by simp only;omega)⟩ (by simp only;omega) ?_;(exact wB))
 obtain rfl:i=h.Caches.length:=ω
 rw[Z4]at X Y
 repeat'(first|refine gD ?_|fail)
 (conv=>whnf)
 refine CE (ι:=Nat × List (Int × Value) × List Int) (λq=>[(1,.hold .box (ab.enc .imm h)),(3,.hold .box [.m q.2.1]),(4,.fn 170 [3,1]),(52,.hold .one (cq .imm h.Quar.Lst)),(53,.hold .one [I (h.Quar.Lst.length)]),(54,.hold .one [I ((q.1:Nat):Int)])]) (λq=>q.1<=h.Quar.Lst.length/\qg q.2.1 q.2.2/\q.2.2=L++(h.Quar.Lst.take q.1).map (·.Addr)/\(h.Quar.Lst.take q.1).all (rV h)=true) (λq=>h.Quar.Lst.length - q.1) ((0,es,L)) ?_ (⟨U0 _,O,by simp,rfl⟩) λq E=>?_
 ·exact wB
 obtain⟨q,es5,P⟩:=q;obtain⟨F,o,G,aq⟩:=E;simp only at F o G aq |-;have hl5:P.length=L.length+q:=by rw[G,I3,Z0,U1];omega
 by_cases V:q<h.Quar.Lst.length
 ·have d:=ah V
  have b:=Bj h t u es5 P (nth h.Quar.Lst q).Addr (nth h.Quar.Lst q).Class o ω;cases r:cZ h (nth h.Quar.Lst q).Addr (nth h.Quar.Lst q).Class<;>rw[r]at b
  ·repeat'(first|refine gD ?_|(conv=>whnf);first|with_reducible (first|refine CB (aa d) ?_|refine Bf.D (λE=>?_) (λE=>?_))|refine CI (b) (.inl rfl) ?_)
   all_goals exact w (GU (eD d (by unfold rV gL;rw[r];rfl)))
  ·repeat'(first|refine gD ?_|(conv=>whnf);first|with_reducible (first|refine CB (aa d) ?_|refine Bf.D (λE=>?_) (λE=>?_))|refine CI (b) (.inl rfl) ?_)
   all_goals first
    |exact w (GU (eD d (by unfold rV gL;rw[r,T0 ω];rfl)))
    | ((conv=>whnf)
       refine CD (q+1,inc es5 P (nth h.Quar.Lst q).Addr,P++[(nth h.Quar.Lst q).Addr]) ⟨(by simp only;omega),p7 o _,(by simp only;rw[G,C5,d,O5,I5];rfl),cL d aq (by unfold rV gL;rw[r,O0 ω];rfl)⟩ (by simp only;omega) ?_
       (exact wA))
 obtain rfl:q=h.Quar.Lst.length:=ω
 rw[Z4]at G aq
 repeat'(first|refine gD ?_|(conv=>whnf);first|refine C7 (pX h.Mail hsm) ?_)
 (conv=>whnf)
 refine CE (ι:=Nat × List (Int × Value) × List Int) (λq=>[(1,.hold .box (ab.enc .imm h)),(3,.hold .box [.m q.2.1]),(4,.fn 170 [3,1]),(75,.hold .one (aF .own (aE h.Mail))),(76,.hold .one [I ((aE h.Mail).length)]),(77,.hold .one [I ((q.1:Nat):Int)])]) (λq=>q.1<=(aE h.Mail).length/\qg q.2.1 q.2.2/\q.2.2=P++(aE h.Mail).take q.1/\((aE h.Mail).take q.1).all (jl h)=true) (λq=>(aE h.Mail).length - q.1) ((0,es5,P)) ?_ (⟨U0 _,o,by simp,rfl⟩) λq E=>?_
 ·exact wB
 obtain⟨q,es6,Q⟩:=q;obtain⟨F,p,H,aq6⟩:=E;simp only at F p H aq6 |-;have hl6:Q.length=P.length+q:=by rw[H,I3,U1];omega
 by_cases V:q<(aE h.Mail).length
 ·have d:=ah V
  have b:=Bj h t u es6 Q (nth (aE h.Mail) q) (-1) p ω;cases r:cZ h (nth (aE h.Mail) q) (-1)<;>rw[r]at b
  ·repeat'(first|refine gD ?_|(conv=>whnf);first|with_reducible refine CB (aa d) ?_|refine CH rfl (aa d) rfl ?_|refine CI (b) (.inl rfl) ?_)
   exact w (NV (eD d r))
  ·repeat'(first|refine gD ?_|(conv=>whnf);first|with_reducible refine CB (aa d) ?_|refine CH rfl (aa d) rfl ?_|refine CI (b) (.inl rfl) ?_)
   ((conv=>whnf)
    refine CD (q+1,inc es6 Q (nth (aE h.Mail) q),Q++[nth (aE h.Mail) q]) ⟨(by simp only;omega),p7 p _,(by simp only;rw[H,C5,d,I5];rfl),cL d aq6 r⟩ (by simp only;omega) ?_
    (exact wA))
 obtain rfl:q=(aE h.Mail).length:=ω
 rw[Z4]at H aq6
 repeat'(first|refine gD ?_|fail)
 (conv=>whnf)
 refine CE (ι:=Nat × List (Int × Value) × List Int) (λq=>[(1,.hold .box (ab.enc .imm h)),(3,.hold .box [.m q.2.1]),(87,.hold .one (mu .imm h.Objs)),(88,.hold .one [I (h.Objs.length)]),(89,.hold .one [I ((q.1:Nat):Int)])]) (λq=>q.1<=h.Objs.length/\qg q.2.1 q.2.2/\q.2.2=Q++(h.Objs.take q.1).map (·.Addr)) (λq=>h.Objs.length - q.1) ((0,es6,Q)) ?_ (⟨U0 _,p,by simp⟩) λq E=>?_
 ·exact wB
 obtain⟨q,es7,R⟩:=q;obtain⟨F,g,J⟩:=E;simp only at F g J |-;have hl7:R.length=Q.length+q:=by rw[J,I3,Z0,U1];omega
 by_cases V:q<h.Objs.length
 ·have d:=ah V
  have hcl:R.count (nth h.Objs q).Addr<=R.length:=List.count_le_length
  repeat'(first|refine gD ?_|(conv=>whnf);first|with_reducible refine CB (aa d) ?_|refine Ml.mk (g _) ?_|refine Mu.mk (es':=inc es7 R (nth h.Objs q).Addr) rfl ?_)
  ((conv=>whnf)
   refine CD (q+1,inc es7 R (nth h.Objs q).Addr,R++[(nth h.Objs q).Addr]) ⟨(by simp only;omega),p7 g _,(by simp only;rw[J,C5,d,O5,I5];rfl)⟩ (by simp only;omega) ?_
   (exact wA))
 obtain rfl:q=h.Objs.length:=ω
 rw[Z4]at J;have W:R=lY h:=by rw[J,H,G,X];rfl
 have hlv:=J9 t.1 u.1
 repeat'(first|refine gD ?_|(conv=>whnf);first|refine C7 (xp h.Spans h.Larges t u S) ?_)
 (conv=>whnf)
 refine CE (ι:=Nat) (λn=>[(3,.hold .box [.m es7]),(103,.hold .one (aF .own (nE h.Spans h.Larges))),(104,.hold .one [I ((nE h.Spans h.Larges).length)]),(105,.hold .one [I ((n:Nat):Int)])]) (λn=>n<=(nE h.Spans h.Larges).length/\((nE h.Spans h.Larges).take n).all (λa=>decide ((lY h).count a=1))=true) (λn=>(nE h.Spans h.Larges).length - n) (0) ?_ (⟨U0 _,rfl⟩) λn hn=>?_
 ·exact wB
 obtain⟨hn,an⟩:=hn;by_cases ln:n<(nE h.Spans h.Larges).length
 ·have d:=ah ln
  rw[W]at g
  repeat'(first|refine gD ?_|(conv=>whnf);first|with_reducible (first|refine CB (aa d) ?_|refine Bf.N (λE=>?_) (λE=>?_))|refine CH rfl (aa d) rfl ?_|refine Ml.mk (g _) ?_)
  all_goals first
   |exact w (N4 (eD d (T0 ω)))
   | ((conv=>whnf);refine CD (n+1) ⟨ω,cL d an (O0 ω)⟩ ω ?_;(exact wB))
 ·repeat'(first|refine gD ?_|fail)
  exact W0 (λz=>[B z]) ((by unfold jp;rw[Y,aq,aq6,gu ω an];rfl))
set_option maxHeartbeats 8000000
def jF(h:ab):Bool:=(((((((aB h.Kernel&&bt (dS h) h.Free)&&bh h.Spans h.Larges)&&(pages0 h&&nw h))&&cR h)&&h.Caches.all bn)&&(eO h&&jp h))&&bX h)&&qa h
theorem lw(h:ab)(hs:ab.sml h):ao Tryz.prog 20 false [.val (some 24) (ab.enc .imm h)] .one [B (jF h)]:=by
 have L:=hs;obtain⟨n,o,b,g,M,p,q,O,r⟩:=hs;have u:ya h:=n.1.2;have hpn:dS h<=1048576:=u.1;have P:h.Objs.length<=1048576:=M.1;have Q:h.Caches.length<=1048576:=p.1;have hlb:h.Mail.Buffers.length<=1048576:=q.1.1;have hlp:h.Job.Plan.Cells.length<=1048576:=r;have d:=pN h.Kernel n;have e:=pT (dS h) h.Free ⟨ω,ω⟩ o;have i:=lJ h.Spans h.Larges b g;have w:=tY h.Mail q;have R:=uo h.Quar O;cases S:aB h.Kernel<;>rw[S]at d
 ·refine fO 154 [] Tryz.func20 rfl ?_
  repeat'(first|refine gO ?_|(conv=>whnf);first|with_reducible refine Bf.N (λa=>?_) (λa=>?_)|refine C7 d ?_)
  all_goals first
   | exact W0 (λz=>[B z]) ((by unfold jF ;rw[S];simp))
   |(exfalso;omega)
 cases T:bt (dS h) h.Free<;>rw[T]at e
 ·refine fO 154 [] Tryz.func20 rfl ?_
  repeat'(first|refine gO ?_|(conv=>whnf);first|with_reducible refine Bf.N (λa=>?_) (λa=>?_)|refine C7 d ?_|refine C7 e ?_)
  all_goals first
   | exact W0 (λz=>[B z]) ((by unfold jF ;rw[T];simp))
   |(exfalso;omega)
 cases y:bh h.Spans h.Larges<;>rw[y]at i
 ·refine fO 154 [] Tryz.func20 rfl ?_
  repeat'(first|refine gO ?_|(conv=>whnf);first|with_reducible refine Bf.N (λa=>?_) (λa=>?_)|refine C7 d ?_|refine C7 e ?_|refine C7 i ?_)
  all_goals first
   | exact W0 (λz=>[B z]) ((by unfold jF ;rw[y];simp))
   |(exfalso;omega)
 have j:=Bg h b g u o y;cases U:(pages0 h&&nw h)<;>rw[U]at j
 ·refine fO 154 [] Tryz.func20 rfl ?_
  repeat'(first|refine gO ?_|(conv=>whnf);first|with_reducible refine Bf.N (λa=>?_) (λa=>?_)|refine C7 d ?_|refine C7 e ?_|refine C7 i ?_|refine C7 j ?_)
  all_goals first
   | exact W0 (λz=>[B z]) ((by unfold jF ;rw[U];simp))
   |(exfalso;omega)
 cases J:bI h.Mail<;>rw[J]at w
 ·refine fO 154 [] Tryz.func20 rfl ?_
  repeat'(first|refine gO ?_|(conv=>whnf);first|with_reducible refine Bf.N (λa=>?_) (λa=>?_)|refine C7 d ?_|refine C7 e ?_|refine C7 i ?_|refine C7 j ?_|refine C7 w ?_)
  all_goals first
   | exact W0 (λz=>[B z]) ((by unfold jF cR;rw[J];simp))
   |(exfalso;omega)
 by_cases C:h.Caches.length=h.Mail.Buffers.length;rotate_left
 ·refine fO 154 [] Tryz.func20 rfl ?_
  repeat'(first|refine gO ?_|(conv=>whnf);first|with_reducible refine Bf.N (λa=>?_) (λa=>?_)|refine C7 d ?_|refine C7 e ?_|refine C7 i ?_|refine C7 j ?_|refine C7 w ?_)
  all_goals first
   | exact W0 (λz=>[B z]) ((by unfold jF cR;rw[T0 C];simp))
   |(exfalso;omega)
 cases V:eQ h.Quar<;>rw[V]at R
 ·refine fO 154 [] Tryz.func20 rfl ?_
  repeat'(first|refine gO ?_|(conv=>whnf);first|with_reducible refine Bf.N (λa=>?_) (λa=>?_)|refine C7 d ?_|refine C7 e ?_|refine C7 i ?_|refine C7 j ?_|refine C7 w ?_|refine C7 R ?_)
  all_goals first
   | exact W0 (λz=>[B z]) ((by unfold jF cR;rw[V];simp))
   |(exfalso;omega)
 have W:cR h=true:=by unfold cR;rw[J,O0 C,V];rfl
 refine fO 154 [] Tryz.func20 rfl ?_
 repeat'(first|refine gA ?_|(conv=>whnf);first|with_reducible refine Bf.N (λa=>?_) (λa=>?_)|refine C7 d ?_|refine C7 e ?_|refine C7 i ?_|refine C7 j ?_|refine C7 w ?_|refine C7 R ?_)
 all_goals try(exfalso;omega)
 (conv=>whnf)
 refine CE (ι:=Nat) (λk=>[(1,.hold .box (ab.enc .imm h)),(57,.hold .one (gN .imm h.Caches)),(58,.hold .one [I (h.Caches.length)]),(59,.hold .one [I ((k:Nat):Int)])]) (λk=>k<=h.Caches.length/\(h.Caches.take k).all bn=true) (λk=>h.Caches.length - k) (0) ?_ (⟨U0 _,rfl⟩) λk hk=>?_
 ·exact wB
 obtain⟨hk,ak⟩:=hk;by_cases lk:k<h.Caches.length
 ·have K:=ah lk
  have X:=jI (nth h.Caches k) (p.2 _ (am lk));cases Y:bn (nth h.Caches k)<;>rw[Y]at X
  ·repeat'(first|refine gD ?_|(conv=>whnf);first|with_reducible refine CB (aa K) ?_|refine C7 X ?_)
   exact W0 (λz=>[B z]) ((by unfold jF;rw[eD K Y];simp))
  ·repeat'(first|refine gD ?_|(conv=>whnf);first|with_reducible refine CB (aa K) ?_|refine C7 X ?_)
   ((conv=>whnf);refine CD (k+1) ⟨ω,cL K ak Y⟩ ω ?_;(exact wB))
 have F:h.Caches.all bn=true:=gu ω ak;have l:=Ea h b g P Q;have c10:=x3 h L y J (Y3.1 F);have c12:=Gz h.Job r;have c13:=u7 h h.Job.Plan.Keep b.1;have c14:=u7 h h.Job.Plan.Move b.1;cases Z:eO h<;>rw[Z]at l
 ·repeat'(first|refine gD ?_|(conv=>whnf);first|refine C7 l ?_)
  all_goals first
   | exact W0 (λz=>[B z]) ((by unfold jF;rw[Z];simp))
   |(exfalso;omega)
 cases e10:jp h<;>rw[e10]at c10
 ·repeat'(first|refine gD ?_|(conv=>whnf);first|refine C7 l ?_|refine C7 c10 ?_)
  all_goals first
   | exact W0 (λz=>[B z]) ((by unfold jF;rw[e10];simp))
   |(exfalso;omega)
 by_cases hn:bX h=true;rotate_left
 ·have G:bX h=false:=by simpa using hn
  have c:=G;unfold bX at c;rw[T4]at c
  repeat'(first|refine gD ?_|(conv=>whnf);first|with_reducible refine Bf.D (λa=>?_) (λa=>?_)|refine C7 (aN _ _ _) ?_|refine C7 (ov _) ?_|refine C7 l ?_|refine C7 c10 ?_)
  all_goals first
   | exact W0 (λz=>[B z]) ((by unfold jF;rw[G];simp))
   |(exfalso;omega)
 have c:=hn;unfold bX at c;rw[C0]at c;have H:jF h=qa h:=by unfold jF;rw[S,T,y,U,W,F,hn,Z,e10];rfl
 rw[H];unfold qa;cases em:h.Meshing
 ·repeat'(first|refine gD ?_|(conv=>whnf);first|with_reducible (first|refine Bf.D (λa=>?_) (λa=>?_)|refine Bf.E (λa=>?_) (λa=>?_))|refine C7 (aN _ _ _) ?_|refine C7 (ov _) ?_|refine C7 l ?_|refine C7 c10 ?_|refine Bf.f em ?_)
  all_goals first
   | exact W0 (λz=>[B z]) ((by unfold qX;simp only[Bool.false_eq_true,if_false];first|(symm;exact T0 ω)|(rw[U4,beq_iff_eq,C0];omega)))
   |(exfalso;omega)
 ·cases e12:jx h.Job<;>rw[e12]at c12
  all_goals
   repeat'(first|refine gD ?_|(conv=>whnf);first|with_reducible (first|refine Bf.D (λa=>?_) (λa=>?_)|refine Bf.D (λa=>?_) (λa=>?_))|refine C7 (aN _ _ _) ?_|refine C7 (ov _) ?_|refine C7 l ?_|refine C7 c10 ?_|refine C7 c12 ?_|refine C7 c13 ?_|refine C7 c14 ?_|refine Bf.t em ?_)
   all_goals first
    | exact W0 (λz=>[B z]) ((by grind))
    |(exfalso;omega)
theorem gY{α:Type}[Inhabited α]{xs:List α}{f:α->Int}(e:(xs.map f).Nodup){i j:Nat}(b:i<xs.length)(c:j<xs.length)(h:f (nth xs i)=f (nth xs j)):i=j:=by
 have d:=List.pairwise_iff_getElem.1 e;rcases Nat.lt_trichotomy i j with a|rfl|a
 ·have:=d i j (by simpa using b) (by simpa using c) a
  simp only[List.getElem_map]at this;rw[bq (I2 b),bq (I2 c)]at h;exact absurd h this
 ·rfl
 ·have:=d j i (by simpa using c) (by simpa using b) a
  simp only[List.getElem_map]at this;rw[bq (I2 b),bq (I2 c)]at h;exact absurd h.symm this
theorem aW{α:Type}[Inhabited α]{xs:List α}{x:α}(h:x∈xs):∃i,i<xs.length/\nth xs i=x:=by
 obtain⟨i,a⟩:=List.mem_iff_getElem?.1 h;exact⟨i,(O2.1 a).1,bq a⟩
theorem qn:∀{H L:List Int},H.Nodup->(∀x∈H,x∈L)->L.length<=H.length->∀x∈L,x∈H
 | [],L,_,_,c,x,d=>by
  have:L=[]:=X6 (by simpa using c);subst this;exact d
 | y::H,L,h,f,c,x,d=>by
  have i:y∈L:=f y (V1 ..);have a:=List.nodup_cons.1 h;by_cases b:x=y
  ·subst b;exact V1 ..
  ·refine v5 _ (qn (L:=L.erase y) a.2 (λz g=>?_) ?_ x ((List.mem_erase_of_ne b).2 d))
   ·exact(List.mem_erase_of_ne (λe:z=y=>a.1 (by rw[<-e];exact g))).2 (f z (v5 _ g))
   ·rw[List.length_erase_of_mem i]
    simp only[List.length_cons]at c;omega
theorem zi{H L:List Int}(f:L.Nodup)(d:∀x∈H,x∈L):(H.Nodup/\H.length=L.length)↔∀a∈L,H.count a=1:=by
 constructor
 ·rintro⟨c,k⟩ a b
  have g:=qn c d ω a b;have i:=List.nodup_iff_count.1 c a;have j:=List.count_pos_iff.2 g;omega
 ·intro e
  have c:H.Nodup:=List.nodup_iff_count.2 λa=>by
   by_cases b:a∈H
   ·rw[e a (d a b)];exact z3 1
   ·rw[List.count_eq_zero_of_not_mem b];exact U0 _
  refine⟨c,?_⟩;have:H.Perm L:=List.perm_iff_count.2 λa=>by
   by_cases b:a∈L
   ·rw[e a b]
    have i:=List.nodup_iff_count.1 f a;have j:=List.count_pos_iff.2 b;omega
   ·rw[List.count_eq_zero_of_not_mem b,List.count_eq_zero_of_not_mem λh=>b (d a h)]
  exact this.length_eq
theorem dn{l:a7}{n:Nat}{p:Int} : p∈lpgs l n↔∃k:Nat,k<n/\p=l.Page+(k:Nat):=by
 unfold lpgs;simp only[z4,List.mem_range];constructor
 ·rintro⟨k,a,rfl⟩;exact⟨k,a,rfl⟩
 ·rintro⟨k,a,rfl⟩;exact⟨k,a,rfl⟩
structure qx(sp:List ar)(la:List a7):Prop where
 sok:∀s∈sp,aY s=true
 lok:∀l∈la,bQ l=true
 nd:(sp.map (·.Page)).Nodup
 dis:∀s∈sp,∀l∈la,∀k:Nat,k<l.Pages.toNat->s.Page≠l.Page+(k:Nat)
 one:∀i j,i<la.length->j<la.length->∀k k':Nat,k<(nth la i).Pages.toNat->k'<(nth la j).Pages.toNat->(nth la i).Page+(k:Nat)=(nth la j).Page+(k':Nat)->i=j
theorem qx.of{sp:List ar}{la:List a7}(h:bh sp la=true):qx sp la:=by
 obtain⟨t,u,d⟩:=db h;unfold pgs at d;rw[List.nodup_append]at d;obtain⟨w,y,A⟩:=d;have B:=List.pairwise_flatMap.1 y;refine⟨λs f=>Y3.1 t s f,λl g=>Y3.1 u l g,w,λs f l g k c e=>?_,λi j n o k q c a e=>?_⟩
 ·exact A _ (z4.2 ⟨s,f,rfl⟩) _ (List.mem_flatMap.2 ⟨l,g,dn.2 ⟨k,c,rfl⟩⟩) e
 ·have r:=List.pairwise_iff_getElem.1 B.2
  have C:=bq (I2 n);have D:=bq (I2 o);rw[C]at c e;rw[D]at a e;rcases Nat.lt_trichotomy i j with b|p|b
  ·exact absurd e (r i j n o b _ (dn.2 ⟨k,c,rfl⟩) _ (dn.2 ⟨q,a,rfl⟩))
  ·exact p
  ·exact absurd e.symm (r j i o n b _ (dn.2 ⟨q,a,rfl⟩) _ (dn.2 ⟨k,c,rfl⟩))
theorem fA{s:ar}{a:Int}(b:aY s=true):cm s a=true↔16*s.Page<=a/\a<=16*s.Page+15:=by
 unfold cm;rw[b];simp
theorem gP{sp:List ar}{la:List a7}(b:qx sp la){a:Int}{i:Nat}(c:i<sp.length)(h:16*(nth sp i).Page<=a/\a<=16*(nth sp i).Page+15):denotes sp la a=mV i (nth sp i) a:=by
 refine mH c ((fA (b.sok _ (am c))).2 h) λj z l d=>?_
 cases e:cm z a with
 | false=>rfl
 | true=>
  exfalso;have g:=(O2.1 d).1;have n:=(fA (b.sok z (Z1 d))).1 e;have k:=bq d;subst k;have:=gY (f:=(·.Page)) b.nd c g ω;omega
theorem Qd{sp:List ar}{la:List a7}(d:qx sp la){a:Int}(h:∀i,i<sp.length->¬(16*(nth sp i).Page<=a/\a<=16*(nth sp i).Page+15)):∀(j:Nat)(z:ar),j<sp.length->sp[j]? = some z->cm z a=false:=by
 intro j z f c;cases e:cm z a with
 | false=>rfl
 | true=>
  have g:=(fA (d.sok z (Z1 c))).1 e;have b:=bq c;subst b;exact absurd g (h j f)
theorem Mf{sp:List ar}{la:List a7}(f:qx sp la)(a:Int):a∈live0 sp la↔a∈ip sp la:=by
 have L:a∈ip sp la↔∃n:Nat,n<512/\jC sp la n=true/\(n:Int)=a:=by
  unfold ip lg;simp only[z4,C4,List.mem_range];constructor
  ·rintro⟨n,⟨g,p⟩,B⟩;exact⟨n,g,p,B⟩
  ·rintro⟨n,g,p,B⟩;exact⟨n,⟨g,p⟩,B⟩
 rw[L];unfold live0 fh;rw[v3,List.mem_flatMap,z4];constructor
 ·rintro(⟨s,t,H⟩|⟨l,b,rfl⟩)
  ·obtain⟨i,h,rfl⟩:=aW t
   unfold dZ at H;obtain⟨k,M,rfl⟩:=z4.1 H;obtain⟨u,C⟩:=C4.1 M;have u:=List.mem_range.1 u;have c:=aC (f.sok _ t);have q:=zV ⟨c.2.2.1,c.2.2.2⟩;have N:=rq (nth sp i).Class;unfold kD;have O:0<=(k:Int)*csz (nth sp i).Class/\(k:Int)*csz (nth sp i).Class<=15:=by
    rcases bO ⟨c.2.2.1,c.2.2.2⟩ with e|e|e|e<;>rw[e]at q |-<;>omega
   have o:=gP f h (a:=16*(nth sp i).Page+(k:Nat)*csz (nth sp i).Class) ω;have J:(16*(nth sp i).Page+(k:Nat)*csz (nth sp i).Class - 16*(nth sp i).Page) / csz (nth sp i).Class=(k:Nat)/\(16*(nth sp i).Page+(k:Nat)*csz (nth sp i).Class - 16*(nth sp i).Page) % csz (nth sp i).Class=0:=by
    rcases bO ⟨c.2.2.1,c.2.2.2⟩ with e|e|e|e<;>rw[e]<;>omega
   refine⟨(16*(nth sp i).Page+(k:Nat)*csz (nth sp i).Class).toNat,ω,?_,ω⟩;have d:(((16*(nth sp i).Page+(k:Nat)*csz (nth sp i).Class).toNat:Nat):Int)=16*(nth sp i).Page+(k:Nat)*csz (nth sp i).Class:=ω
   unfold jC;rw[d,o];simp only[mV,J.1,J.2,C]
   rfl
  ·obtain⟨i,h,rfl⟩:=aW b
   have R:=aQ (f.lok _ b);have P:=bS (f.lok _ b);have g:=Qd f (a:=16*(nth la i).Page) λj K S=>f.dis _ (am K) _ b 0 ω ω
   have A:bo (nth la i) (16*(nth la i).Page)=true:=by
    unfold bo;rw[f.lok _ b,O0 ω];rfl
   have o:=l9 (a:=16*(nth la i).Page) (z3 _) g h A λj z K r=>by
    cases e:bo z (16*(nth la i).Page) with
    | false=>rfl
    | true=>
     exfalso;have D:=(O2.1 r).1;have w:=Z1 r;have E:=bq r;subst E;have Q:=aQ (f.lok _ w);have y:=f.lok _ w;unfold bQ at y;rw[C0]at y;unfold bo at e;rw[I0,C0]at e;have:=f.one i j h D 0 ((nth la i).Page - (nth la j).Page).toNat ω ω ω;omega
   refine⟨(16*(nth la i).Page).toNat,ω,?_,ω⟩;have d:(((16*(nth la i).Page).toNat:Nat):Int)=16*(nth la i).Page:=ω
   unfold jC;rw[d,o];simp
 ·rintro⟨n,T,b,rfl⟩
  cases g:sp.findIdx? (cm · (n:Nat)) with
  | some i=>
   obtain⟨h,F,-⟩:=U6.1 g;have G:=bq (I2 h);rw[<-G]at F;have t:=f.sok _ (am h);have p:=(fA t).1 F;have c:=aC t;have q:=zV ⟨c.2.2.1,c.2.2.2⟩;have o:denotes sp la (n:Nat)=mV i (nth sp i) (n:Nat):=by unfold denotes;rw[g]
   rw[rg o]at b;simp only[I0,X5,C0]at b;simp only[mV]at b;cases A:aU (nth sp i).Bits (((n:Int) - 16*(nth sp i).Page) / csz (nth sp i).Class) with
   | false=>rw[A]at b;simp at b
   | true=>
    have r:((n:Int) - 16*(nth sp i).Page) % csz (nth sp i).Class=0:=b.1;refine .inl ⟨nth sp i,am h,?_⟩;unfold dZ;refine z4.2 ⟨(((n:Int) - 16*(nth sp i).Page) / csz (nth sp i).Class).toNat,C4.2 ⟨List.mem_range.2 ?_,?_⟩,?_⟩
    ·rcases bO ⟨c.2.2.1,c.2.2.2⟩ with e|e|e|e<;>rw[e]at q r |-<;>omega
    ·have:((((n:Int) - 16*(nth sp i).Page) / csz (nth sp i).Class).toNat:Int)=((n:Int) - 16*(nth sp i).Page) / csz (nth sp i).Class:=by
      rcases bO ⟨c.2.2.1,c.2.2.2⟩ with e|e|e|e<;>rw[e]<;>omega
     rw[this];exact A
    ·unfold kD
     rcases bO ⟨c.2.2.1,c.2.2.2⟩ with e|e|e|e<;>rw[e]at r |-<;>omega
  | none=>
   cases p:la.findIdx? (bo · (n:Nat)) with
   | some i=>
    obtain⟨h,F,-⟩:=U6.1 p;have o:denotes sp la (n:Nat) = ⟨3,i,0,(n:Nat) - 16*(nth la i).Page⟩:=by unfold denotes;rw[g,p]
    rw[rg o]at b;simp only[I0,C0]at b;exact .inr ⟨nth la i,am h,by have:=b.1;omega⟩
   | none=>
    have o:denotes sp la (n:Nat) = ⟨0,0,0,0⟩:=by unfold denotes;rw[g,p]
    rw[rg o]at b;simp at b
theorem vm{sp:List ar}{la:List a7}(e:qx sp la){a:Int}(b:(denotes sp la a).Offset=0)(c:(denotes sp la a).Kind=1\/(denotes sp la a).Kind=3):a∈ip sp la:=by
 have l:0<=a/\a<512:=by
  unfold denotes at b c;cases h:sp.findIdx? (cm · a) with
  | some i=>
   obtain⟨f,k,-⟩:=U6.1 h;have j:=List.getElem_mem f;have d:=(fA (e.sok _ j)).1 k;have g:=aC (e.sok _ j);omega
  | none=>
   rw[h]at b c;cases d:la.findIdx? (bo · a) with
   | some i=>
    obtain⟨f,-⟩:=U6.1 d;rw[d]at b;have n:=aQ (e.lok _ (am f));simp only at b;omega
   | none=>rw[d]at c;simp at c
 have g:((a.toNat:Nat):Int)=a:=ω
 unfold ip lg;refine z4.2 ⟨a.toNat,C4.2 ⟨List.mem_range.2 ω,?_⟩,g⟩;unfold jC;rw[g];simp only[I0,X5,C0];exact⟨b,c⟩
theorem nM(sp:List ar)(la:List a7):(ip sp la).Nodup:=by
 unfold ip lg List.Nodup;rw[List.pairwise_map];exact(List.nodup_range.sublist List.filter_sublist).imp λh e=>h ω
theorem tJ{h:ab}(d:qx h.Spans h.Larges){a c:Int}(b:cZ h a c=true):a∈ip h.Spans h.Larges:=by
 unfold cZ at b;simp only[I0,C0]at b;exact vm d b.1.2 (.inl b.1.1)
theorem MB{h:ab}(b:qx h.Spans h.Larges){o:bK}(a:iL h o=true):o.Addr∈ip h.Spans h.Larges:=by
 unfold iL at a;simp only[I0,X5,C0]at a;exact vm b a.1 (a.2.elim (λe=>.inl e.1) (λe=>.inr e.1))
theorem G4(h:ab)(a:Int):(lY h).count a=(holders h).count a:=by
 unfold lY holders;simp only[V5];omega
theorem j7(h:ab):gw h=true↔(h.Caches.all (eJ h)=true/\h.Quar.Lst.all (gL h)=true)/\(aE h.Mail).all (jl h)=true:=by
 unfold gw;simp only[I0]
theorem jQ{h:ab}(e:qx h.Spans h.Larges)(g:eO h=true)(j:gw h=true):∀a∈holders h,a∈ip h.Spans h.Larges:=by
 obtain⟨⟨n,p⟩,q⟩:=(j7 h).1 j;intro a b;unfold holders at b;simp only[v3]at b;rcases b with((b|b)|b)|b
 ·obtain⟨o,f,rfl⟩:=z4.1 b
  obtain⟨i,r,rfl⟩:=aW f;have d:=dI g r;unfold objAt at d;rw[I0]at d;exact MB e d.2
 ·unfold cb at b
  obtain⟨c,t,b⟩:=List.mem_flatMap.1 b;obtain⟨l,u,b⟩:=List.mem_flatten.1 b;obtain⟨k,w,rfl⟩:=aW u;have d:=Y3.1 n c t;unfold eJ at d;have y:=Y3.1 (show(nth c.Lists k).all _=true from dI d w) a b;exact tJ e y
 ·obtain⟨x,A,rfl⟩:=z4.1 b
  exact tJ e (Y3.1 p x A)
 ·exact tJ e (Y3.1 q a b)
theorem JY{h:ab}(c:bh h.Spans h.Larges=true)(o:eO h=true):(jR h&&iu h)=jp h:=by
 have f:=qx.of c;have p:(jR h=true/\h.Quar.Lst.all (gL h)=true)↔h.Quar.Lst.all (rV h)=true:=by
  unfold jR rV;simp only[Y3,I0];exact⟨λe x b=>⟨e.2 x b,e.1 x b⟩,λe=>⟨λx b=>(e x b).2,λx b=>(e x b).1⟩⟩
 have r:jp h=true↔((h.Caches.all (eJ h)=true/\h.Quar.Lst.all (rV h)=true)/\(aE h.Mail).all (jl h)=true)/\∀a∈ip h.Spans h.Larges,(holders h).count a=1:=by
  unfold jp;simp only[I0];refine and_congr Iff.rfl ?_;simp only[Y3,C0,G4];unfold nE sorted;simp only[List.mem_mergeSort,Mf f]
 have g:iu h=true↔gw h=true/\((holders h).Nodup/\(holders h).length=(ip h.Spans h.Larges).length):=by
  unfold iu;simp only[I0,C0,and_assoc]
 rw[U4,I0,r,g];constructor
 ·rintro⟨i,d,j⟩
  obtain⟨⟨k,l⟩,n⟩:=(j7 h).1 d;exact⟨⟨⟨k,p.1 ⟨i,l⟩⟩,n⟩,(zi (nM ..) (jQ f o d)).1 j⟩
 ·rintro⟨⟨⟨i,d⟩,j⟩,k⟩
  obtain⟨l,n⟩:=p.2 d;have q:gw h=true:=(j7 h).2 ⟨⟨i,n⟩,j⟩;exact⟨l,q,(zi (nM ..) (jQ f o q)).2 k⟩
theorem iT(s t:ar):meshable s t=meshable t s:=by
 unfold meshable;rw[Bool.and_comm (aY s)]
 congr 1
 refine decide_eq_decide.2 ?_;rw[Nat.and_comm];exact⟨λh=>⟨h.1.symm,λe=>h.2.1 e.symm,h.2.2⟩,λh=>⟨h.1.symm,λe=>h.2.1 e.symm,h.2.2⟩⟩
theorem d9{t:aH}{f:Int}{p:Nat} : (p:Int)∈pagesOn t f↔p<t.Entries.length/\(nth t.Entries p).Mode≠0/\(nth t.Entries p).Frame=f:=by
 unfold pagesOn jq;simp only[z4,C4,List.mem_range];constructor
 ·rintro⟨n,⟨b,a⟩,c⟩
  obtain rfl:n=p:=ω
  unfold Kj at a;rw[C0]at a;exact⟨b,a⟩
 ·rintro⟨b,a⟩
  exact⟨p,⟨b,by unfold Kj;rw[C0];exact a⟩,rfl⟩
theorem tP{t:aH}{f q:Int}(h:q∈pagesOn t f):∃p:Nat,q=(p:Nat):=by
 unfold pagesOn jq at h;obtain⟨n,-,rfl⟩:=z4.1 h;exact⟨n,rfl⟩
theorem r8{h:ab}(a:pages0 h=true):(∀i,i<h.Larges.length->∀k:Nat,k<(nth h.Larges i).Pages.toNat->(aT h ((nth h.Larges i).Page+(k:Nat))).length=1)/\(∀p∈pgs h.Spans h.Larges,p<dS h)/\∀p:Nat,p<dS h->((nth (tbl h).Entries p).Mode≠0↔(p:Int)∈pgs h.Spans h.Larges):=by
 unfold pages0 at a;simp only[I0]at a;obtain⟨⟨⟨-,d⟩,e⟩,f⟩:=a;refine⟨λi g k j=>?_,λp a=>?_,λp a=>?_⟩
 ·have b:=dI d g
  unfold rx at b;rw[I0]at b;have c:=dI b.2 j;unfold xx at c;rw[C0]at c;exact c
 ·have:=Y3.1 e p a
  rw[C0]at this;exact this
 ·have b:=dI f a
  unfold uT at b;rw[I0,C0]at b;exact b.1
theorem vB{h:ab}{p:Nat}(a:p<dS h):au (tbl h) (p:Nat)=nth (tbl h).Entries p:=lA a
theorem eX{h:ab}{p:Nat}(a:p<dS h)(b:(nth (tbl h).Entries p).Mode≠0):aT h (p:Nat)=pagesOn (tbl h) (nth (tbl h).Entries p).Frame:=by
 unfold aT;rw[show h.Kernel.Machine.Table=tbl h from rfl,vB a,C8 b]
theorem jZ{h:ab}(g:qx h.Spans h.Larges){j:Nat}(c:j<h.Spans.length):eB h (nth h.Spans j).Page=(j:Nat):=by
 unfold eB;refine eI (ah c) (by unfold iS;simp) λk z i d=>?_
 have a:=bq d;have b:=(O2.1 d).1;subst a;unfold iS;refine T0 λe=>?_
 have:=gY (f:=(·.Page)) g.nd b c e;omega
theorem tq{h:ab}(y:bh h.Spans h.Larges=true)(T:pages0 h=true):rY h=nw h:=by
 have G:=qx.of y;obtain⟨U,V,O⟩:=r8 T;have t:∀i,i<h.Spans.length->∃p:Nat,(nth h.Spans i).Page=(p:Nat)/\p<dS h/\(nth (tbl h).Entries p).Mode≠0:=λi n=>by
  have hc:=aC (G.sok _ (am n));have P:(nth h.Spans i).Page∈pgs h.Spans h.Larges:=by
   unfold pgs;exact v3.2 (.inl (z4.2 ⟨_,am n,rfl⟩))
  have o:=V _ P;refine⟨(nth h.Spans i).Page.toNat,ω,ω,?_⟩;refine(O _ ω).2 ?_;rw[show(((nth h.Spans i).Page.toNat:Nat):Int)=(nth h.Spans i).Page by omega];exact P
 rw[U4];unfold rY nw;rw[cn,cn];constructor
 ·intro K i n
  rw[cn];intro j L;have A:j<h.Spans.length:=ω
  unfold kA;rw[X5,C0];by_cases b:(au (tbl h) (nth h.Spans i).Page).Frame=(au (tbl h) (nth h.Spans j).Page).Frame
  ·right
   obtain⟨p,f,c,r⟩:=t i n;obtain⟨q,B,a,g⟩:=t j A;have d:=Y3.1 (K i n);rw[f,B,vB c,vB a]at b;have W:(q:Int)∈aT h (nth h.Spans i).Page:=by
    rw[f,eX c r];exact d9.2 ⟨a,g,b.symm⟩
   have u:=d _ W;unfold lC at u;rw[<-B,jZ G A]at u;rw[X5,I0,C0]at u;rcases u with u|u
   ·omega
   ·simpa using u.2
  ·exact .inl b
 ·intro C i n
  rw[Y3];intro q H;obtain⟨p,f,c,r⟩:=t i n;have X:=H;rw[f,eX c r]at H;obtain⟨J,rfl⟩:=tP H;obtain⟨a,g,D⟩:=d9.1 H;have w:=(O J a).1 g;unfold pgs at w;rw[v3,z4,List.mem_flatMap]at w;rcases w with⟨s,K,E⟩|⟨l,Y,M⟩
  ·obtain⟨j,L,rfl⟩:=aW K
   unfold lC;rw[<-E,jZ G L];rw[X5,I0,C0,C0];have b:(au (tbl h) (nth h.Spans i).Page).Frame=(au (tbl h) (nth h.Spans j).Page).Frame:=by
    rw[f,E,vB c,vB a,D]
   rcases Nat.lt_trichotomy j i with o|Z|o
   ·have d:=dI (C i n) o
    unfold kA at d;rw[X5,C0]at d;exact .inr ⟨ω,by simpa using d.resolve_left λe=>e b⟩
   ·exact .inl ω
   ·have d:=dI (C j L) o
    unfold kA at d;rw[X5,C0]at d;exact .inr ⟨ω,by rw[iT];simpa using d.resolve_left λe=>e b.symm⟩
  ·exfalso
   obtain⟨i2,F,rfl⟩:=aW Y;obtain⟨k,Q,N⟩:=dn.1 M;have d:=U i2 F k Q;rw[<-N,eX a g]at d;have R:(J:Int)∈pagesOn (tbl h) (nth (tbl h).Entries J).Frame:=d9.2 ⟨a,g,rfl⟩;have S:(p:Int)∈pagesOn (tbl h) (nth (tbl h).Entries J).Frame:=d9.2 ⟨c,r,D.symm⟩;obtain⟨z,hz⟩:=List.length_eq_one_iff.1 d;rw[hz]at R S;simp only[I1]at R S;have:=G.dis _ (am n) _ (am F) k Q;omega
theorem pp(h:ab):jF h=dM h:=by
 unfold jF dM ky;cases d:aB h.Kernel with
 | false=>rfl
 | true=>
  cases e:bt (dS h) h.Free with
  | false=>rfl
  | true=>
   cases a:bh h.Spans h.Larges with
   | false=>rfl
   | true=>
    cases b:pages0 h with
    | false=>rfl
    | true=>
     rw[tq a b];cases c:eO h with
     | false=>simp
     | true=>
      have:=JY a c;rw[<-this];cases nw h<;>cases cR h<;>cases jR h<;>cases h.Caches.all bn<;>cases bX h<;>cases iu h<;>cases qa h<;>rfl
def ovl(y r:ax):Bool:=decide (y.At<r.At+r.Len/\r.At<y.At+y.Len)
def md(r:ax):List ax->Bool->Option (List ax)
 | [],put=>some (if put then [] else [r])
 | y::a,put=>if ovl y r then none else if !put&&decide (y.At > r.At) then(md r a true).map λt=>r::y::t else(md r a put).map λt=>y::t
def dl(out:List ax):List ax->List ax
 | []=>out
 | y::ys=>match out.getLast? with
  | some z=>if z.At+z.Len=y.At then dl (out.dropLast++[⟨z.At,z.Len+y.Len⟩]) ys else dl (out++[y]) ys
  | none=>dl (out++[y]) ys
def iH:List ax->ax->List ax->Bool->Option (List ax)
 | [],r,out,done=>some (if done then out else out++[r])
 | y::ys,r,out,done=>
  if ovl y r then none
  else if y.At+y.Len=r.At then iH ys ⟨y.At,y.Len+r.Len⟩ out done
  else if r.At+r.Len=y.At then iH ys ⟨r.At,r.Len+y.Len⟩ out done
  else if y.At > r.At/\done=false then iH ys r (out++[r,y]) true
  else iH ys r (out++[y]) done
def oe(xs:List ax):Prop:=xs.Pairwise (λa b=>a.At+a.Len<b.At)/\∀y∈xs,1<=y.Len
theorem oe.tail{y:ax}{a:List ax}(h:oe (y::a)):oe a:=⟨(List.pairwise_cons.1 h.1).2,λz b=>h.2 z (v5 _ b)⟩
theorem oe.head{y:ax}{a:List ax}(h:oe (y::a)):∀z∈a,y.At+y.Len<z.At:=(List.pairwise_cons.1 h.1).1
theorem jb:∀(a out:List ax),oe a->(∀z,out.getLast? = some z->∀y∈a,z.At+z.Len≠y.At)->dl out a=out++a
 | [],out,_,_=>by simp[dl]
 | y::a,out,d,e=>by
  have b:dl (out++[y]) a=out++y::a:=by
   rw[jb a (out++[y]) d.tail λz c w f=>by
     simp at c;subst c;have:=d.head w f;omega]
   simp
  unfold dl;split
  ·rename_i z c
   rw[C8 (e z c y (V1 ..))];exact b
  ·exact b
theorem wd{r:ax} : ∀{a:List ax},oe a->(∀y∈a,r.At+r.Len<=y.At)->md r a true=some a
 | [],_,_=>rfl
 | y::a,c,b=>by
  have e:=b y (V1 ..);unfold md;rw[C8 (by unfold ovl;rw[C0];omega)];simp only[Bool.not_true,Bool.false_and,Bool.false_eq_true,if_false];rw[wd c.tail λz d=>b z (v5 _ d)]
  rfl
theorem tX{r:ax}(h1:1<=r.Len){a:List ax}(c:oe a)(b:∀y∈a,r.At+r.Len<=y.At):md r a false=some (r::a):=by
 cases a with
 | nil=>rfl
 | cons y a=>
  have e:=b y (V1 ..);unfold md;rw[C8 (by unfold ovl;rw[C0];omega),C9 (by simp;omega),wd c.tail λz d=>b z (v5 _ d)]
  rfl
theorem pd{r:ax} : ∀{a out:List ax},oe a->1<=r.Len->(∀y∈a,r.At+r.Len<y.At)->iH a r out true=some (out++a)
 | [],out,_,_,_=>by simp[iH]
 | y::a,out,b,d,c=>by
  have f:=c y (V1 ..);have g:=b.2 y (V1 ..);unfold iH;rw[C8 (by unfold ovl;rw[C0];omega),C8 ω,C8 ω,C8 (by simp),pd b.tail d λz e=>c z (v5 _ e)];simp
theorem wR{r:ax}(h1:1<=r.Len){a out:List ax}(b:oe a)(c:∀y∈a,r.At+r.Len<=y.At):iH a r out false=some (out++match a with|[]=>[r]|y::zs=>if r.At+r.Len=y.At then⟨r.At,r.Len+y.Len⟩::zs else r::y::zs):=by
 cases a with
 | nil=>simp[iH]
 | cons y a=>
  have g:=c y (V1 ..);have h:=b.2 y (V1 ..);unfold iH;rw[C8 (by unfold ovl;rw[C0];omega),C8 ω];by_cases e:r.At+r.Len=y.At
  ·rw[C9 e]
   simp only[e,if_true];cases a with
   | nil=>simp[iH]
   | cons z a=>
    have i:=b.head z (V1 ..);have j:=b.tail.2 z (V1 ..);unfold iH;simp only;rw[C8 (by unfold ovl;rw[C0];simp only;omega),C8 ω,C8 ω,C9 (by simp;omega),pd b.tail.tail (by simp only;omega) λw d=>by
      have:=b.tail.head w d;simp only;omega]
    simp
  ·rw[C8 e,C9 (by simp;omega),pd b.tail h1 λz f=>by have:=b.head z f;omega]
   simp[e]
theorem yW{pages:Int} : ∀{b:List ax}{r:ax}{out:List ax},oe b->1<=r.Len->(∀z,out.getLast? = some z->(∀y∈b,z.At+z.Len<y.At)/\z.At+z.Len<r.At)->(md r b false).map (dl out)=iH b r out false
 | [],r,out,_,j,u=>by
  show some (dl out [r])=some (out++[r]);rw[jb [r] out ⟨List.pairwise_singleton ..,λy B=>by rw[I1.1 B];exact j⟩ λz d y B=>by rw[I1.1 B];have:=(u z d).2;omega]
 | y::b,r,out,c,j,u=>by
  have L:=c.2 y (V1 ..);by_cases l:ovl y r=true
  ·unfold md iH
   rw[C9 l,C9 l];rfl
  ·have n:=l
   unfold ovl at n;rw[C0]at n;by_cases C:r.At+r.Len<=y.At
   ·-- all to the right
    have f:∀w∈y::b,r.At+r.Len<=w.At:=λw a=>by
     rcases List.mem_cons.1 a with rfl|a
     ·exact C
     ·have:=c.head w a;omega
    rw[tX j c f,wR j c f];show some (dl out (r::y::b))=_;have hfirst:dl out (r::y::b)=dl (out++[r]) (y::b):=by
     conv=>lhs;unfold dl
     split
     ·rename_i z d;rw[C8 (by have:=(u z d).2;omega)]
     ·rfl
    rw[hfirst];by_cases e:r.At+r.Len=y.At
    ·have:dl (out++[r]) (y::b)=dl (out++[⟨r.At,r.Len+y.Len⟩]) b:=by
      conv=>lhs;unfold dl
      simp[e]
     rw[this,jb b _ c.tail λz d w a=>by
       simp at d;subst d;have:=c.head w a;simp only;omega]
     simp[e]
    ·rw[jb (y::b) (out++[r]) c λz d w a=>by
       simp at d;subst d;rcases List.mem_cons.1 a with rfl|a
       · exact e
       · have:=c.head w a;omega]
     simp[e]
   ·have F:y.At+y.Len<=r.At:=ω
    have i:∀t,dl out (y::t)=dl (out++[y]) t:=λt=>by
     conv=>lhs;unfold dl
     split
     ·rename_i z d;rw[C8 (by have:=(u z d).1 y (V1 ..);omega)]
     ·rfl
    have G:(md r (y::b) false).map (dl out)=(md r b false).map (dl (out++[y])):=by
     conv=>lhs;unfold md
     rw[C8 l,C8 (by simp;omega),Option.map_map]
     congr 1
     funext t
     exact i t
    rw[G];unfold iH;rw[C8 l];by_cases e:y.At+y.Len=r.At
    ·rw[C9 e]
     by_cases o:∃w,b.head? = some w/\ovl w r=true
     ·obtain⟨w,a,p⟩:=o
      cases b with
      | nil=>cases a
      | cons g k=>
       obtain rfl:g=w:=by simpa using a
       have H:=c.head g (V1 ..);have J:=c.tail.2 g (V1 ..);have q:=p;unfold ovl at q;rw[C0]at q;unfold md iH;rw[C9 p,C9 (by unfold ovl;rw[C0];simp only;omega)]
       rfl
     ·have f:∀w∈b,r.At+r.Len<=w.At:=by
       cases b with
       | nil=>intro w a;cases a
       | cons g k=>
        have H:=c.head g (V1 ..);have J:=c.tail.2 g (V1 ..);have E:¬ovl g r=true:=λh=>o ⟨g,rfl,h⟩
        unfold ovl at E;rw[C0]at E;intro w a;rcases List.mem_cons.1 a with rfl|a
        ·omega
        ·have:=c.tail.head w a;omega
      rw[tX j c.tail f,wR (r:=⟨y.At,y.Len+r.Len⟩) (by simp only;omega) c.tail λw a=>by have:=f w a;simp only;omega];show some (dl (out++[y]) (r::b))=_;have K:dl (out++[y]) (r::b)=dl (out++[⟨y.At,y.Len+r.Len⟩]) b:=by
       conv=>lhs;unfold dl
       simp[e]
      rw[K];cases b with
      | nil=>simp[dl]
      | cons g k=>
       by_cases A:y.At+(y.Len+r.Len)=g.At
       ·have D:dl (out++[⟨y.At,y.Len+r.Len⟩]) (g::k)=dl (out++[⟨y.At,y.Len+r.Len+g.Len⟩]) k:=by
         conv=>lhs;unfold dl
         simp[A]
        rw[D,jb k _ c.tail.tail λz d w a=>by
          simp at d;subst d;have:=c.tail.head w a;simp only;omega]
        simp[A]
       ·rw[jb (g::k) _ c.tail λz d w a=>by
          simp at d;subst d;simp only;rcases List.mem_cons.1 a with rfl|a
          · exact A
          · have:=c.tail.head w a
            have:=f g (V1 ..);have:=c.tail.2 g (V1 ..);omega]
        simp[A]
    ·rw[C8 e,C8 ω,C8 ω]
     exact yW (pages:=pages) c.tail j λz d=>by
      simp at d;subst d;exact⟨c.head,ω⟩
def gF(k:af)(f:Int):af:=if(pagesOn k.Machine.Table f).length=0 then {k with Machine:=⟨⟨k.Machine.Frames.Cells.set f.toNat (List.replicate 16 0),k.Machine.Frames.Used.set f.toNat false⟩,k.Machine.Table⟩} else k
def ko(k:af)(p:Int):af:={k with Machine:=⟨k.Machine.Frames,⟨k.Machine.Table.Entries.set p.toNat ⟨0,0⟩⟩⟩}
def cA(k:af)(p:Int):af:=if(au k.Machine.Table p).Mode=0 then k else gF (ko k p) (au k.Machine.Table p).Frame
theorem ch{α:Type}[Inhabited α](xs:List α)(i j:Nat)(x:α):nth (xs.set i x) j=if i=j/\j<xs.length then x else nth xs j:=by
 unfold nth;rw[W2,W2,W3];by_cases h:i=j
 ·subst h
  by_cases a:i<xs.length
  ·simp[a]
  ·simp[a]
 ·simp[h]
theorem pc(k:af)(f:Int):(gF k f).Machine.Table=k.Machine.Table/\(gF k f).Calls=k.Calls/\(gF k f).Refuse=k.Refuse/\(gF k f).Machine.Frames.Cells.length=k.Machine.Frames.Cells.length/\(gF k f).Machine.Frames.Used.length=k.Machine.Frames.Used.length:=by
 unfold gF;split<;>simp
theorem qL(k:af)(p:Int):(cA k p).Machine.Table.Entries.length=k.Machine.Table.Entries.length/\(cA k p).Calls=k.Calls/\(cA k p).Refuse=k.Refuse:=by
 unfold cA;split
 ·exact⟨rfl,rfl,rfl⟩
 ·obtain⟨a,b,c,-⟩:=pc (ko k p) (au k.Machine.Table p).Frame
  rw[a,b,c];simp[ko]
theorem aD{k:af} : aB k=true↔(∀j,j<k.Refuse.length->0<=nth k.Refuse j)/\cN k.Machine.Frames=true/\fZ k.Machine.Table k.Machine.Frames.Used.length=true/\(∀j,j<k.Machine.Frames.Used.length->nth k.Machine.Frames.Used j=decide (0<(pagesOn k.Machine.Table (j:Int)).length))/\0<=k.Calls/\k.Calls<=100000/\k.Refuse.length<=40:=by
 unfold aB dv;simp only[I0,cn,C0,oR,beq_iff_eq,and_assoc]
theorem bc{f:aV} : cN f=true↔1<=f.Cells.length/\f.Cells.length<=32/\f.Used.length=f.Cells.length/\∀j,j<f.Cells.length->ir (nth f.Cells j) (nth f.Used j)=true:=by
 unfold cN;simp only[I0,C0,Y3,and_assoc];refine and_congr Iff.rfl (and_congr Iff.rfl (and_congr_right λe=>⟨λh j a=>?_,λh q c=>?_⟩))
 ·exact h _ (Z1 (vp (ah a) (ah ω)))
 ·obtain⟨j,a⟩:=List.mem_iff_getElem?.1 c
  obtain⟨b,d⟩:=List.getElem?_zip_eq_some.1 a;have:=h j (O2.1 b).1
  rwa [bq b,bq d]at this
theorem bx{t:aH}{a:Int} : fZ t a=true↔(∀j,j<t.Entries.length->ku a (nth t.Entries j)=true)/\1<=t.Entries.length/\t.Entries.length<=32:=by
 unfold fZ;simp only[I0,cn,C0]
theorem eN{t:aH}{f:Int} : 0<(pagesOn t f).length↔∃q,q<t.Entries.length/\(nth t.Entries q).Mode≠0/\(nth t.Entries q).Frame=f:=by
 unfold pagesOn jq;rw[Z0,List.length_pos_iff_exists_mem];simp[Kj]
theorem cu{k:af}{p:Int}(h:aB k=true)(b:(au k.Machine.Table p).Mode≠0):0<=p/\p<k.Machine.Table.Entries.length/\au k.Machine.Table p=nth k.Machine.Table.Entries p.toNat/\0<=(au k.Machine.Table p).Frame/\(au k.Machine.Table p).Frame<k.Machine.Frames.Used.length:=by
 obtain⟨-,-,c,-⟩:=aD.1 h;have a:0<=p/\p<k.Machine.Table.Entries.length:=by
  by_cases a:0<=p/\p<k.Machine.Table.Entries.length
  ·exact a
  ·unfold au at b;rw[C8 a]at b;exact absurd rfl b
 have d:au k.Machine.Table p=nth k.Machine.Table.Entries p.toNat:=by unfold au;rw[C9 a]
 have:=(bx.1 c).1 p.toNat ω;rw[d]at b |-;unfold ku at this;rw[C0]at this;exact⟨a.1,a.2,rfl,this.2.2.2 b⟩
theorem xR{k:af}(p:Int)(h:aB k=true):aB (cA k p)=true:=by
 unfold cA;split
 ·exact h
 rename_i t;obtain⟨E,F,G,l,n⟩:=cu h t;obtain⟨u,w,H,y,A,B,C⟩:=aD.1 h;obtain⟨J,K,L,M⟩:=bc.1 w;obtain⟨N,O,P⟩:=bx.1 H;rw[G]at t l n |-;generalize Q:(nth k.Machine.Table.Entries p.toNat).Frame=f at l n;have g:∀q,nth (k.Machine.Table.Entries.set p.toNat ⟨0,0⟩) q=if p.toNat=q then⟨0,0⟩ else nth k.Machine.Table.Entries q:=λq=>by
  rw[ch];by_cases r:p.toNat=q
  ·rw[C9 ⟨r,ω⟩,C9 r]
  ·rw[C8 (λe=>r e.1),C8 r]
 have b:∀j:Int,0<(pagesOn (⟨k.Machine.Table.Entries.set p.toNat ⟨0,0⟩⟩ : aH) j).length↔∃q,q<k.Machine.Table.Entries.length/\q≠p.toNat/\(nth k.Machine.Table.Entries q).Mode≠0/\(nth k.Machine.Table.Entries q).Frame=j:=λj=>by
  rw[eN];simp only[O1,g]
  grind
 have c:∀j:Int,0<(pagesOn k.Machine.Table j).length↔∃q,q<k.Machine.Table.Entries.length/\(nth k.Machine.Table.Entries q).Mode≠0/\(nth k.Machine.Table.Entries q).Frame=j:=λj=>eN
 have i:fZ ⟨k.Machine.Table.Entries.set p.toNat ⟨0,0⟩⟩ k.Machine.Frames.Used.length=true:=by
  rw[bx];simp only[O1,g];refine⟨λj d=>?_,O,P⟩;split
  ·unfold ku;simp
  ·exact N j d
 unfold gF;split
 ·rename_i o
  rw[aD];simp only[ko,O1]at o |-;refine⟨u,?_,i,λj d=>?_,A,B,C⟩
  ·rw[bc]
   simp only[O1,ch];refine⟨J,K,L,λj d=>?_⟩;by_cases a:f.toNat=j
   ·rw[C9 ⟨a,d⟩,C9 ⟨a,ω⟩];decide
   ·rw[C8 (λe=>a e.1),C8 (λe=>a e.1)];exact M j d
  ·rw[ch]
   by_cases a:f.toNat=j
   ·rw[C9 ⟨a,d⟩]
    have:(j:Int)=f:=ω
    rw[this];exact(T0 λR=>absurd o (Nat.ne_of_gt R)).symm
   ·rw[C8 (λe=>a e.1),y j d]
    refine decide_eq_decide.2 ?_;rw[c,b]
    grind
 ·rename_i o
  rw[aD];simp only[ko]at o |-;refine⟨u,w,i,λj d=>?_,A,B,C⟩;rw[y j d];refine decide_eq_decide.2 ?_;by_cases a:f=j
  ·have D:0<(pagesOn (⟨k.Machine.Table.Entries.set p.toNat ⟨0,0⟩⟩ : aH) j).length:=by rw[<-a];exact Nat.pos_of_ne_zero o
   have:=(b j).1 D;constructor
   ·intro _;exact D
   ·intro _;rw[c];grind
  ·rw[c,b];grind
theorem bA{k:af}(h:aB k=true):af.sml k:=by
 obtain⟨g,b,c,i,l,n,o⟩:=aD.1 h;obtain⟨p,q,t,d⟩:=bc.1 b;obtain⟨u,w,y⟩:=bx.1 c;refine⟨⟨⟨⟨ω,λr f=>?_⟩,(by omega:_<=1048576)⟩,⟨ω,λe _=>trivial⟩⟩,(by omega:_<=1048576)⟩;obtain⟨j,a⟩:=List.mem_iff_getElem?.1 f;have:=d j (O2.1 a).1;rw[bq a]at this;unfold ir at this;simp only[I0,C0]at this;show r.length<=1048576;omega
theorem Ap.cp{α:Type}{e:α->List C}{xs:List α}{sz by_:Nat}{K:List (List C)->Prop}(b:∀x,(e x).length=sz)(c:∀x,aX (e x)=true)(d:xs.length<=1048576)(f:by_<=1000)(g:K (xs.map e)):Ap true [] (xs.map e) sz by_ K:=
 CQ (λr a=>by cases a) (λr a=>by obtain⟨y,-,rfl⟩:=z4.1 a;exact b y) (λ_ r a=>by obtain⟨y,-,rfl⟩:=z4.1 a;exact c y) (by simp;omega) (by simp only[Z0,List.length_nil,T6];exact vq d f) rfl g
theorem CO:type_of% @Ap.cp:=@Ap.cp
theorem Fl.cp{α:Type}{e:α->List C}{xs:List α}{sz by_:Nat}{X:Prop}(a:∀x,(e x).length=sz)(b:∀x,aX (e x)=true)(c:xs.length<=1048576)(d:by_<=1000)(f:X):Fl (xs.map e) sz by_ X:=
 Fl.mk (λr g=>by obtain⟨y,-,rfl⟩:=z4.1 g;exact⟨a y,b y⟩) (by simp;omega) (by simp only[Z0];exact vq c d) f
theorem CU:type_of% @Fl.cp:=@Fl.cp
theorem Ap.sn{rows b:List (List C)}{r:List C}{sz by_:Nat}{K:List (List C)->Prop}(h1:∀r∈rows,r.length=sz)(c:r.length=sz)(d:rows.length+1<=1048576)(e:by_<=1000)(a:b=rows++[r])(f:K b):Ap false rows [r] sz by_ K:=
 CQ h1 (λg a=>by rw[I1.1 a];exact c) (λh=>by cases h) (by simp;omega) (vq (by simpa using d) e) a f
theorem fK(xs:List Int)(a:xs.length<=1048576):ao Tryz.prog 187 false [.val none (aF .imm xs)] .one (aF .own xs):=by
 refine fO 6 [] Tryz.func187 rfl ?_ (.inr (bJ _))
 repeat'(first|refine gO ?_|(conv=>whnf);first|refine CO (λ_=>rfl) (λ_=>rfl) a (by decide) ?_)
 rfl
theorem AZ(t:aH)(a:aH.sml t):ao Tryz.prog 339 false [.val (some 1) (aH.enc .imm t)] .agg (aH.enc .own t):=by
 have b:=a.1;refine fO 8 [] Tryz.func339 rfl ?_ (.inr (aH.enc_fr _))
 repeat'(first|refine gO ?_|(conv=>whnf);first|refine CO (λ_=>rfl) (λ_=>rfl) b (by decide) ?_)
 rfl
theorem wE(t:aH)(a:aH.sml t):ao Tryz.prog 262 false [.val (some 1) (aH.enc .imm t)] .agg (aH.enc .own t):=by
 have b:=a.1;refine fO 8 [] Tryz.func262 rfl ?_ (.inr (aH.enc_fr _))
 repeat'(first|refine gO ?_|(conv=>whnf);first|refine CO (λ_=>rfl) (λ_=>rfl) b (by decide) ?_)
 rfl
theorem aM{α:Type}{e:α->List C}{l:List α}{n:Nat}(h:∀x,(e x).length=n):∀r∈l.map e,r.length=n:=λr a=>by
 obtain⟨y,-,rfl⟩:=z4.1 a;exact h y
theorem fm{α β:Type}[Inhabited α]{xs:List α}{f:α->β}{i:Nat}(a:i<xs.length):(xs.take (i+1)).map f=(xs.take i).map f++[f (nth xs i)]:=by
 rw[C5,ah a];simp
theorem AF(f:aV)(a:aV.sml f):ao Tryz.prog 338 false [.val (some 2) (aV.enc .imm f)] .agg (aV.enc .own f):=by
 have g:=a.1.1;have d:f.Used.length<=1048576:=a.2;refine fO 30 [(5,10,[17,18,19,20,21,22,23,24,25,26])] Tryz.func338 rfl ?_ (.inr (aV.enc_fr _))
 repeat'(first|refine gO ?_|(conv=>whnf);first|refine CO (λ_=>rfl) (λ_=>rfl) d (by decide) ?_)
 (conv=>whnf)
 refine CE (ι:=Nat) (λi=>[(1,.hold .box (aV.enc .imm f)),(2,.hold .box [.z,.z]),(3,.hold .box [.s .own ((f.Cells.take i).map (aF .own)),.s .own (f.Used.map (rB .own))]),(4,.hold .one [I ((i:Nat):Int)])]) (λi=>i<=f.Cells.length) (λi=>f.Cells.length - i) (0) ?_ (U0 _) λi h=>?_
 ·exact wB
 by_cases b:i<f.Cells.length
 ·have e:=ah b
  have c:(nth f.Cells i).length<=1048576:=a.1.2 _ (am b)
  repeat'(first|refine gD ?_|(conv=>whnf);first|with_reducible refine CB (aa e) ?_|refine CU (λ_=>rfl) (λ_=>rfl) c (by decide) ?_|refine Ap.sn (aM λ_=>rfl) rfl (by simp;omega) (by decide) (fm b) ?_)
  ((conv=>whnf);refine CD (i+1) ω ω ?_;(exact wB))
 ·repeat'(first|refine gD ?_|fail)
  obtain rfl:i=f.Cells.length:=ω
  rw[Z4]
  rfl
theorem uV(f:aV)(a:aV.sml f):ao Tryz.prog 261 false [.val (some 2) (aV.enc .imm f)] .agg (aV.enc .own f):=by
 have g:=a.1.1;have d:f.Used.length<=1048576:=a.2;refine fO 27 [(5,5,[18,19,20,21,22])] Tryz.func261 rfl ?_ (.inr (aV.enc_fr _))
 repeat'(first|refine gO ?_|(conv=>whnf);first|refine CO (λ_=>rfl) (λ_=>rfl) d (by decide) ?_)
 (conv=>whnf)
 refine CE (ι:=Nat) (λi=>[(2,.hold .box [.z,.z]),(3,.hold .box [.s .own ((f.Cells.take i).map (aF .own)),.s .own (f.Used.map (rB .own))]),(12,.hold .one (i9 .imm f.Cells)),(13,.hold .one [I (f.Cells.length)]),(14,.hold .one [I ((i:Nat):Int)])]) (λi=>i<=f.Cells.length) (λi=>f.Cells.length - i) (0) ?_ (U0 _) λi h=>?_
 ·exact wB
 by_cases b:i<f.Cells.length
 ·have e:=ah b
  have c:(nth f.Cells i).length<=1048576:=a.1.2 _ (am b)
  repeat'(first|refine gD ?_|(conv=>whnf);first|with_reducible refine CB (aa e) ?_|refine C7 (fK (nth f.Cells i) c) ?_|refine Ap.sn (aM λ_=>rfl) rfl (by simp;omega) (by decide) (fm b) ?_)
  ((conv=>whnf);refine CD (i+1) ω ω ?_;(exact wB))
 ·repeat'(first|refine gD ?_|fail)
  obtain rfl:i=f.Cells.length:=ω
  rw[Z4]
  rfl
theorem rm(m:aR)(a:aR.sml m):ao Tryz.prog 288 false [.val (some 3) (aR.enc .imm m)] .agg (aR.enc .own m):=by
 refine fO 10 [(1,5,[3,4,5,6,7])] Tryz.func288 rfl ?_ (.inr (aR.enc_fr _))
 repeat'(first|refine gO ?_|(conv=>whnf);first|refine C7 (AF m.Frames a.1) ?_|refine C7 (AZ m.Table a.2) ?_)
 rfl
theorem sB(m:aR)(a:aR.sml m):ao Tryz.prog 197 false [.val (some 3) (aR.enc .imm m)] .agg (aR.enc .own m):=by
 refine fO 10 [(1,5,[3,4,5,6,7])] Tryz.func197 rfl ?_ (.inr (aR.enc_fr _))
 repeat'(first|refine gO ?_|(conv=>whnf);first|refine C7 (uV m.Frames a.1) ?_|refine C7 (wE m.Table a.2) ?_)
 rfl
theorem AK(k:af)(a:af.sml k):ao Tryz.prog 228 false [.val (some 5) (af.enc .imm k)] .agg (af.enc .own k):=by
 have b:k.Refuse.length<=1048576:=a.2;refine fO 13 [(1,9,[3,4,5,6,7,8,9,10,11])] Tryz.func228 rfl ?_ (.inr (af.enc_fr _))
 repeat'(first|refine gO ?_|(conv=>whnf);first|refine C7 (rm k.Machine a.1) ?_|refine CU (λ_=>rfl) (λ_=>rfl) b (by decide) ?_)
 rfl
theorem n7(k:af)(a:af.sml k):ao Tryz.prog 140 false [.val (some 5) (af.enc .imm k)] .agg (af.enc .own k):=by
 refine fO 12 [(1,8,[3,4,5,6,7,8,9,10])] Tryz.func140 rfl ?_ (.inr (af.enc_fr _))
 repeat'(first|refine gO ?_|(conv=>whnf);first|refine C7 (sB k.Machine a.1) ?_|refine C7 (fK k.Refuse a.2) ?_)
 rfl
theorem ef(k:af)(p:Int)(a:aH.sml k.Machine.Table):ao Tryz.prog 348 false [.ptr (af.enc .imm k),.val none [I p]] .one [I (au k.Machine.Table p).Mode]:=by
 refine fO 13 [] Tryz.func348 rfl ?_
 repeat'(first|refine gO ?_|(conv=>whnf);first|refine C7 (cY k.Machine.Table p a) ?_)
 rfl
theorem kS(k:af)(b:af.sml k):ao Tryz.prog 305 false [.val (some 5) (af.enc .imm k)] .one [B (aB k&&decide (k.Calls<100000))]:=by
 have a:=lO k b;cases e:aB k<;>rw[e]at a
 ·refine fO 10 [] Tryz.func305 rfl ?_
  repeat'(first|refine gO ?_|(conv=>whnf);first|with_reducible refine Bf.D (λc=>?_) (λc=>?_)|refine C7 (a) ?_)
  all_goals rfl
 ·refine fO 10 [] Tryz.func305 rfl ?_
  repeat'(first|refine gO ?_|(conv=>whnf);first|refine C7 (a) ?_)
  all_goals rfl
theorem Ay(k:af)(b:af.sml k):ao Tryz.prog 226 false [.val (some 5) (af.enc .imm k)] .one [B (decide (k.Calls≠100000)&&aB k)]:=by
 have c:=pN k b;refine fO 10 [] Tryz.func226 rfl ?_
 repeat'(first|refine gO ?_|(conv=>whnf);first|with_reducible (first|refine Bf.N (λa=>?_) (λa=>?_)|refine Bf.D (λa=>?_) (λa=>?_))|refine C7 (c) ?_)
 all_goals(exact W0 (λz=>[B z]) ((by simp[*])))
theorem tA{k:af}{f:Int}(h:(pagesOn k.Machine.Table f).length=0):af.enc .own (gF k f)=[.s .own ((k.Machine.Frames.Cells.map (aF .own)).set f.toNat (aF .own (List.replicate 16 0))),.s .own ((k.Machine.Frames.Used.map (rB .own)).set f.toNat (rB .own false)),.s .own (k.Machine.Table.Entries.map (bf.enc .own)),I k.Calls,.s .own (k.Refuse.map (rI .own))]:=by
 unfold gF;rw[C9 h];simp only[af.enc,W5]
theorem wz{k:af}{f:Int}(h:¬(pagesOn k.Machine.Table f).length=0):af.enc .own (gF k f)=af.enc .own k:=by
 unfold gF;rw[C8 h]
theorem rQ(k:af)(f:Int)(a:aH.sml k.Machine.Table)(b:0<=f/\f<k.Machine.Frames.Cells.length/\f<k.Machine.Frames.Used.length) :
  aO Tryz.prog 349 false [.ptr (af.enc .own k),.val none [I f]] [.ptr (af.enc .own (gF k f)),.val none [I f]] (.tup []) []:=by
 have c:=ah (xs:=k.Machine.Frames.Cells) (i:=f.toNat) ω;have d:=ah (xs:=k.Machine.Frames.Used) (i:=f.toNat) ω;by_cases e:(pagesOn k.Machine.Table f).length=0
 ·rw[tA e]
  refine fM 30 [] [(2,8,[21,22,23,24,25,26,27,28])] [(0,0),(0,0)] Tryz.func349 rfl (λu q=>?_) (.inr trivial)
  repeat'(first|refine gA ?_|(conv=>whnf);first|with_reducible (first|refine CL b.1 (aa d) ?_|refine CL b.1 (aa c) ?_)|refine CG (gx k.Machine.Table f a) ⟨⟨rfl,CY k.Machine.Table⟩,⟨rfl,rfl⟩,trivial⟩ ?_|refine CN rfl rfl (aa c) rfl (C1 rfl) rfl ?_|refine CN rfl rfl (aa d) rfl (C1 rfl) rfl ?_|refine Mk.mk 16 rfl rfl (by decide) (by decide) rfl ?_)
  refine CF rfl rfl ?_;exact wB
 ·rw[wz e]
  refine fM 30 [] [(2,8,[21,22,23,24,25,26,27,28])] [(0,0),(0,0)] Tryz.func349 rfl (λu q=>?_) (.inr trivial)
  repeat'(first|refine gA ?_|(conv=>whnf);first|refine CG (gx k.Machine.Table f a) ⟨⟨rfl,CY k.Machine.Table⟩,⟨rfl,rfl⟩,trivial⟩ ?_)
  refine CF rfl rfl ?_;exact wB
theorem AP(k:af)(f:Int)(a:aH.sml k.Machine.Table)(b:0<=f/\f<k.Machine.Frames.Cells.length/\f<k.Machine.Frames.Used.length) :
  aO Tryz.prog 227 false [.ptr (af.enc .own k),.val none [I f]] [.ptr (af.enc .own (gF k f)),.val none [I f]] (.tup []) []:=by
 have c:=ah (xs:=k.Machine.Frames.Cells) (i:=f.toNat) ω;have d:=ah (xs:=k.Machine.Frames.Used) (i:=f.toNat) ω;by_cases e:(pagesOn k.Machine.Table f).length=0
 ·rw[tA e]
  refine fM 30 [] [(2,8,[21,22,23,24,25,26,27,28])] [(0,0),(0,0)] Tryz.func227 rfl (λu q=>?_) (.inr trivial)
  repeat'(first|refine gA ?_|(conv=>whnf);first|with_reducible (first|refine CL b.1 (aa d) ?_|refine CL b.1 (aa c) ?_)|refine CG (jW k.Machine.Table f a) ⟨⟨rfl,CY k.Machine.Table⟩,⟨rfl,rfl⟩,trivial⟩ ?_|refine CN rfl rfl (aa c) rfl (C1 rfl) rfl ?_|refine CN rfl rfl (aa d) rfl (C1 rfl) rfl ?_|refine Mk.mk 16 rfl rfl (by decide) (by decide) rfl ?_)
  refine CF rfl rfl ?_;exact wB
 ·rw[wz e]
  refine fM 30 [] [(2,8,[21,22,23,24,25,26,27,28])] [(0,0),(0,0)] Tryz.func227 rfl (λu q=>?_) (.inr trivial)
  repeat'(first|refine gA ?_|(conv=>whnf);first|refine CG (jW k.Machine.Table f a) ⟨⟨rfl,CY k.Machine.Table⟩,⟨rfl,rfl⟩,trivial⟩ ?_)
  refine CF rfl rfl ?_;exact wB
theorem wG(k:af)(p:Int):af.enc .own (ko k p)=[.s .own (k.Machine.Frames.Cells.map (aF .own)),.s .own (k.Machine.Frames.Used.map (rB .own)),.s .own ((k.Machine.Table.Entries.map (bf.enc .own)).set p.toNat (bf.enc .own ⟨0,0⟩)),I k.Calls,.s .own (k.Refuse.map (rI .own))]:=by
 unfold ko;simp only[af.enc,W5]
theorem xw{k:af}{p:Int}(h:aB k=true):aH.sml (ko k p).Machine.Table:=by
 obtain⟨a,b,c⟩:=bx.1 (aD.1 h).2.2.1;exact⟨by simp only[ko,O1];omega,λ_ _=>trivial⟩
theorem MN(k:af)(p:Int)(b:aB k=true) :
  aO Tryz.prog 297 false [.ptr (af.enc .own k),.val none [I p]] [.ptr (af.enc .own (cA k p)),.val none [I p]] .one [B (decide ((au k.Machine.Table p).Mode≠0))]:=by
 have j:=bA b;have c:=ef k p j.1.2;by_cases a:(au k.Machine.Table p).Mode=0
 ·rw[show cA k p=k by unfold cA;rw[C9 a]]
  refine fM 32 [(349,[2,0])] [] [(0,0),(0,0)] Tryz.func297 rfl (λu q=>?_)
  repeat'(first|refine gA ?_|(conv=>whnf);first|refine CG (c) ⟨CP k,⟨rfl,rfl⟩,trivial⟩ ?_)
  refine CF rfl ?_ ?_
  ·exact W0 (λz=>[B z]) ((by simp[a]))
  ·exact wB
 ·obtain⟨l,r,n,d,o⟩:=cu b a
  have h:=(bc.1 (aD.1 b).2.1).2.2.1;rw[show cA k p=gF (ko k p) (au k.Machine.Table p).Frame by unfold cA;rw[C8 a]];have e:=rQ (ko k p) (au k.Machine.Table p).Frame (xw b) ⟨d,by simp only[ko];omega,by simp only[ko];omega⟩;rw[wG]at e;have g:=ah (xs:=k.Machine.Table.Entries) (i:=p.toNat) ω;rw[n]at c e a |-;refine fM 32 [(349,[2,0])] [] [(0,0),(0,0)] Tryz.func297 rfl (λu q=>?_)
  repeat'(first|refine gA ?_|(conv=>whnf);first|with_reducible refine CL l (aa g) ?_|refine CG (c) ⟨CP k,⟨rfl,rfl⟩,trivial⟩ ?_|refine CN rfl rfl (aa g) rfl (C1 rfl) rfl ?_|refine CH rfl (aa g) rfl ?_|refine CI (e) (.inl rfl) ?_)
  refine CF rfl ?_ ?_
  ·exact W0 (λz=>[B z]) ((by simp[a]))
  ·exact wB
theorem D7(k:af)(p:Int)(a:aB k=true)(o:k.Calls≠100000) :
  ao Tryz.prog 141 false [.val (some 5) (af.enc .imm k),.val none [I p]] (.tup [some 5,none]) (af.enc .own (cA k p)++[B (decide ((au k.Machine.Table p).Mode≠0))]):=by
 have d:=bA a;have l:=n7 k d;have e:=Ay k d;have c:=ue k p d.1.2;rw[a,O0 o]at e;by_cases b:(au k.Machine.Table p).Mode=0
 ·rw[show cA k p=k by unfold cA;rw[C9 b]]
  rw[T0 (by simpa using b)]at c |-;refine fP 38 [(227,[2,0])] [] Tryz.func141 rfl ?_ (.inr (aS (af.enc_fr k) ⟨trivial,trivial⟩))
  repeat'(first|refine gO ?_|(conv=>whnf);first|refine C7 (l) ?_|refine C7 (e) ?_|refine C7 (c) ?_)
  all_goals rfl
 ·obtain⟨q,u,r,g,t⟩:=cu a b
  have n:=(bc.1 (aD.1 a).2.1).2.2.1;rw[show cA k p=gF (ko k p) (au k.Machine.Table p).Frame by unfold cA;rw[C8 b]];have h:=AP (ko k p) (au k.Machine.Table p).Frame (xw a) ⟨g,by simp only[ko];omega,by simp only[ko];omega⟩;rw[wG]at h;have j:=ah (xs:=k.Machine.Table.Entries) (i:=p.toNat) ω;rw[O0 b]at c |-;rw[r]at h |-;refine fP 38 [(227,[2,0])] [] Tryz.func141 rfl ?_ (.inr (aS (af.enc_fr _) ⟨trivial,trivial⟩))
  repeat'(first|refine gO ?_|(conv=>whnf);first|with_reducible refine CL q (aa j) ?_|refine C7 (l) ?_|refine C7 (e) ?_|refine C7 (c) ?_|refine CN rfl rfl (aa j) rfl (C1 rfl) rfl ?_|refine CH rfl (aa j) rfl ?_|refine CI (h) (.inl rfl) ?_)
  all_goals rfl
theorem zL{h:ab}(a:dM h=true):aB h.Kernel=true/\bh h.Spans h.Larges=true/\pages0 h=true/\rY h=true/\bI h.Mail=true/\(h.Caches.all bn=true/\h.Caches.length=h.Mail.Buffers.length)/\eQ h.Quar=true/\eO h=true/\gw h=true/\(holders h).Nodup/\(holders h).length=(ip h.Spans h.Larges).length:=by
 unfold dM ky cR iu at a;simp only[I0,C0]at a;obtain⟨⟨⟨⟨⟨⟨⟨⟨⟨⟨b,-⟩,c⟩,d⟩,e⟩,⟨⟨f,g⟩,i⟩⟩,-⟩,j⟩,-⟩,k,⟨k10,k11⟩,k12⟩,-⟩:=a;exact⟨b,c,d,e,f,⟨j,g⟩,i,k,k10,k11,k12⟩
def fL(n:Nat):aV:=⟨List.replicate n (List.replicate 16 0),List.replicate n false⟩
def eA(n:Nat):aH:=⟨List.replicate n ⟨0,0⟩⟩
def bG(p f:Nat)(a:List Int):af:=⟨⟨fL f,eA p⟩,0,a⟩
def eZ:aA:=⟨List.replicate 4 []⟩
def dR(n:Nat):aI:=⟨List.replicate n [],List.replicate n []⟩
def va(p f t:Nat)(lim:Int)(a:List Int):ab:=⟨bG p f a,[⟨0,p⟩],[],[],[],List.replicate t eZ,dR t,⟨16,[]⟩,0,0,lim,1,false,⟨⟨0,0,[]⟩,0,0⟩⟩
theorem dd{α:Type}[Inhabited α]{n j:Nat}{y:α}(a:j<n):nth (List.replicate n y) j=y:=bq (by rw[List.getElem?_replicate,C9 a])
theorem KU(n:Nat)(f:Int):pagesOn (eA n) f=[]:=by
 unfold pagesOn jq;rw[List.map_eq_nil_iff,List.filter_eq_nil_iff];intro i b;have a:i<n:=by simpa[eA] using b
 unfold Kj;rw[show nth (eA n).Entries i = ⟨0,0⟩ from dd a];simp
theorem BG{p f:Nat}(c:1<=p/\p<=32)(d:1<=f/\f<=32):aB (bG p f [])=true:=by
 rw[aD];refine⟨λj b=>by simp[bG]at b,bc.2 ⟨by simp[bG,fL];omega,by simp[bG,fL];omega,by simp[bG,fL],λj b=>?_⟩,bx.2 ⟨λj b=>?_,by simp[bG,eA];omega,by simp[bG,eA];omega⟩,λj b=>?_,by simp[bG],by simp[bG],by simp[bG]⟩
 ·have a:j<f:=by simpa[bG,fL] using b
  rw[show nth (bG p f []).Machine.Frames.Cells j=List.replicate 16 0 from dd a,show nth (bG p f []).Machine.Frames.Used j=false from dd a]
  decide
 ·have a:j<p:=by simpa[bG,eA] using b
  rw[show nth (bG p f []).Machine.Table.Entries j = ⟨0,0⟩ from dd a];unfold ku;rw[C0];exact⟨by decide,by decide,λ_=>rfl,λh=>absurd rfl h⟩
 ·have a:j<f:=by simpa[bG,fL] using b
  rw[show nth (bG p f []).Machine.Frames.Used j=false from dd a,show(bG p f []).Machine.Table=eA p from rfl,KU]
  rfl
theorem wH(w:World)(q:Nat)(c:Array Obj):bB NO w (Sort.grow (w.drewN q) c):=by
 have a:∀b,b<w.heap.size->(Sort.grow (w.drewN q) c).heap[b]? = w.heap[b]?:=λb a=>Sort.heap_grow_old (w.drewN q) c a
 refine⟨rfl,rfl,rfl,by show w.heap.size<=(w.heap++c).size;simp,λb h _=>a b h,λb o h _=>?_,λb o h _=>?_⟩
 ·show World.cell? _ _=World.cell? w _
  unfold World.cell?;simp only[a b h]
 ·refine Prod.ext ?_ ?_
  ·show World.frozen? _ _=World.frozen? w _
   unfold World.frozen?;simp only[a b h]
  ·show mp _ b=mp w b
   unfold mp;rw[a b h]
theorem J0(c:Nat)(W:World):Calls Tryz.prog 259 #[.slice none 0 c] W λe g=>∃B q h,e=.returned (.slice B 0 0)/\g=Sort.grow (W.drewN q) h:=by
 have q22:∀(w:World)(a:Option Addr)(n c b d:Nat),(binOp .eql 33 (.slice a n c) (.slice none b d)).run Tryz.prog w=.ok (.bool a.isNone) w:=λw a n c b d=>Lib.run_eql_slice_nil w _ _ a n c b d Tryz.underlying33
 go_enter Tryz.func259,Tryz.ntmps259
 go_wp2
 go_ret
 exact⟨none,0,#[],rfl,by simp[Sort.grow,World.drewN]⟩
theorem F9(a:Addr)(c:Nat)(W:World):Calls Tryz.prog 259 #[.slice (some a) 0 c] W λe g=>∃B q h,e=.returned (.slice B 0 0)/\g=Sort.grow (W.drewN q) h:=by
 have q22:∀(w:World)(a:Option Addr)(n c b d:Nat),(binOp .eql 33 (.slice a n c) (.slice none b d)).run Tryz.prog w=.ok (.bool a.isNone) w:=λw a n c b d=>Lib.run_eql_slice_nil w _ _ a n c b d Tryz.underlying33
 go_enter Tryz.func259,Tryz.ntmps259
 go_wp2
 go_ret
 exact⟨some ⟨W.heap.size,0,none⟩,0,#[.cells #[] 3],rfl,by rw[Sort.alloc_eq_grow];rfl⟩
theorem Gt(xs:List Int)(o:xs.length<=1048576):ao Tryz.prog 259 false [.val none (aF .imm xs)] .one (aF .own xs):=by
 by_cases d:xs=[]
 ·subst d
  refine⟨⟨_,Tryz.func259,by kernel_rfl,by kernel_rfl⟩,λw S p t g=>?_⟩
  match p,g with
  | [v],⟨g,_⟩=>
   have c:=bE.rep1 (show bE w S NO none [C.s .imm []] v from g);obtain⟨l,b,rfl⟩:=c.slice;have r:Calls Tryz.prog 259 #[.slice l 0 b] w λe n=>∃B q i,e=.returned (.slice B 0 0)/\n=Sort.grow (w.drewN q) i:=by
    cases l with
    | none=>exact J0 b w
    | some a=>exact F9 a b w
   refine r.mono λe n ⟨B,q,i,d,j⟩=>?_
   subst j;exact⟨.slice B 0 0,d,wH w q i,NO,NO,λ_ _ h=>h.elim,λ_ _ h=>h.elim,λ_ _ h=>h.elim,rfl,row1 (.nil _ .own B trivial)⟩
 ·have k:xs.map (rI .imm)≠[]:=λe=>d (List.map_eq_nil_iff.1 e)
  refine fO 8 [] Tryz.func259 rfl ?_ (.inr (bJ _))
  repeat'(first|refine gO ?_|(conv=>whnf);first|refine Nn.mk k ?_|refine CO (λ_=>rfl) (λ_=>rfl) o (by decide) ?_)
  rfl
theorem yg(p:cv)(a:cv.sml p):ao Tryz.prog 191 false [.val (some 3) (cv.enc .imm p)] .agg (cv.enc .own p):=by
 have b:p.Cells.length<=1048576:=a;refine fO 8 [] Tryz.func191 rfl ?_ (.inr (cv.enc_fr _))
 repeat'(first|refine gO ?_|(conv=>whnf);first|refine C7 (Gt p.Cells b) ?_)
 rfl
theorem Ai(j:cG)(a:cG.sml j):ao Tryz.prog 158 false [.val (some 5) (cG.enc .imm j)] .agg (cG.enc .own j):=by
 refine fO 8 [] Tryz.func158 rfl ?_ (.inr (cG.enc_fr _))
 repeat'(first|refine gO ?_|(conv=>whnf);first|refine C7 (yg j.Plan a) ?_)
 rfl
theorem i7(c:aA)(d:aA.sml c):ao Tryz.prog 229 false [.val (some 1) (aA.enc .imm c)] .agg (aA.enc .own c):=by
 have g:=d.1;refine fO 26 [(5,10,[13,14,15,16,17,18,19,20,21,22])] Tryz.func229 rfl ?_ (.inr (aA.enc_fr _))
 repeat'(first|refine gO ?_|fail)
 (conv=>whnf)
 refine CE (ι:=Nat) (λi=>[(1,.hold .box (aA.enc .imm c)),(2,.hold .box [.z]),(3,.hold .box [.s .own ((c.Lists.take i).map (aF .own))]),(4,.hold .one [I ((i:Nat):Int)])]) (λi=>i<=c.Lists.length) (λi=>c.Lists.length - i) (0) ?_ (U0 _) λi h=>?_
 ·exact wB
 by_cases a:i<c.Lists.length
 ·have e:=ah a
  have b:(nth c.Lists i).length<=1048576:=d.2 _ (am a)
  repeat'(first|refine gD ?_|(conv=>whnf);first|with_reducible refine CB (aa e) ?_|refine CU (λ_=>rfl) (λ_=>rfl) b (by decide) ?_|refine Ap.sn (aM λ_=>rfl) rfl (by simp;omega) (by decide) (fm a) ?_)
  ((conv=>whnf);refine CD (i+1) ω ω ?_;(exact wB))
 ·repeat'(first|refine gD ?_|fail)
  obtain rfl:i=c.Lists.length:=ω
  rw[Z4]
  rfl
theorem nP(c:aA)(d:aA.sml c):ao Tryz.prog 155 false [.val (some 1) (aA.enc .imm c)] .agg (aA.enc .own c):=by
 have g:=d.1;refine fO 23 [(5,5,[14,15,16,17,18])] Tryz.func155 rfl ?_ (.inr (aA.enc_fr _))
 repeat'(first|refine gO ?_|fail)
 (conv=>whnf)
 refine CE (ι:=Nat) (λi=>[(2,.hold .box [.z]),(3,.hold .box [.s .own ((c.Lists.take i).map (aF .own))]),(8,.hold .one (i9 .imm c.Lists)),(9,.hold .one [I (c.Lists.length)]),(10,.hold .one [I ((i:Nat):Int)])]) (λi=>i<=c.Lists.length) (λi=>c.Lists.length - i) (0) ?_ (U0 _) λi h=>?_
 ·exact wB
 by_cases a:i<c.Lists.length
 ·have e:=ah a
  have b:(nth c.Lists i).length<=1048576:=d.2 _ (am a)
  repeat'(first|refine gD ?_|(conv=>whnf);first|with_reducible refine CB (aa e) ?_|refine C7 (fK (nth c.Lists i) b) ?_|refine Ap.sn (aM λ_=>rfl) rfl (by simp;omega) (by decide) (fm a) ?_)
  ((conv=>whnf);refine CD (i+1) ω ω ?_;(exact wB))
 ·repeat'(first|refine gD ?_|fail)
  obtain rfl:i=c.Lists.length:=ω
  rw[Z4]
  rfl
theorem f7(m:aI)(b:aI.sml m):ao Tryz.prog 230 false [.val (some 2) (aI.enc .imm m)] .agg (aI.enc .own m):=by
 have h:=b.1.1;have g:=b.2.1;refine fO 46 [(5,10,[14,15,16,17,18,19,20,21,22,23]),(9,10,[33,34,35,36,37,38,39,40,41,42])] Tryz.func230 rfl ?_ (.inr (aI.enc_fr _))
 repeat'(first|refine gO ?_|fail)
 (conv=>whnf)
 refine CE (ι:=Nat) (λi=>[(1,.hold .box (aI.enc .imm m)),(2,.hold .box [.z,.z]),(3,.hold .box [.s .own ((m.Buffers.take i).map (cz .own)),.z]),(4,.hold .one [I ((i:Nat):Int)])]) (λi=>i<=m.Buffers.length) (λi=>m.Buffers.length - i) (0) ?_ (U0 _) λi j=>?_
 ·exact wB
 by_cases c:i<m.Buffers.length
 ·have d:=ah c
  have a:(nth m.Buffers i).length<=1048576:=(b.1.2 _ (am c)).1
  repeat'(first|refine gD ?_|(conv=>whnf);first|with_reducible refine CB (aa d) ?_|refine CU (λ_=>rfl) (λ_=>rfl) a (by decide) ?_|refine Ap.sn (aM λ_=>rfl) rfl (by simp;omega) (by decide) (fm c) ?_)
  ((conv=>whnf);refine CD (i+1) ω ω ?_;(exact wB))
 obtain rfl:i=m.Buffers.length:=ω
 rw[Z4]
 repeat'(first|refine gD ?_|fail)
 (conv=>whnf)
 refine CE (ι:=Nat) (λk=>[(1,.hold .box (aI.enc .imm m)),(2,.hold .box [.z,.z]),(3,.hold .box [.s .own (m.Buffers.map (cz .own)),.s .own ((m.Inbox.take k).map (aF .own))]),(5,.hold .one [I ((k:Nat):Int)])]) (λk=>k<=m.Inbox.length) (λk=>m.Inbox.length - k) (0) ?_ (U0 _) λk l=>?_
 ·exact wB
 by_cases e:k<m.Inbox.length
 ·have d:=ah e
  have a:(nth m.Inbox k).length<=1048576:=b.2.2 _ (am e)
  repeat'(first|refine gD ?_|(conv=>whnf);first|with_reducible refine CB (aa d) ?_|refine CU (λ_=>rfl) (λ_=>rfl) a (by decide) ?_|refine Ap.sn (aM λ_=>rfl) rfl (by simp;omega) (by decide) (fm e) ?_)
  ((conv=>whnf);refine CD (k+1) ω ω ?_;(exact wB))
 ·repeat'(first|refine gD ?_|fail)
  obtain rfl:k=m.Inbox.length:=ω
  rw[Z4]
  rfl
theorem yC(m:aI)(b:aI.sml m):ao Tryz.prog 156 false [.val (some 2) (aI.enc .imm m)] .agg (aI.enc .own m):=by
 have h:=b.1.1;have g:=b.2.1;refine fO 41 [(5,6,[16,17,18,19,20,21]),(10,5,[32,33,34,35,36])] Tryz.func156 rfl ?_ (.inr (aI.enc_fr _))
 repeat'(first|refine gO ?_|fail)
 (conv=>whnf)
 refine CE (ι:=Nat) (λi=>[(1,.hold .box (aI.enc .imm m)),(2,.hold .box [.z,.z]),(3,.hold .box [.s .own ((m.Buffers.take i).map (cz .own)),.z]),(10,.hold .one (mc .imm m.Buffers)),(11,.hold .one [I (m.Buffers.length)]),(12,.hold .one [I ((i:Nat):Int)])]) (λi=>i<=m.Buffers.length) (λi=>m.Buffers.length - i) (0) ?_ (U0 _) λi j=>?_
 ·exact wB
 by_cases c:i<m.Buffers.length
 ·have d:=ah c
  have a:(nth m.Buffers i).length<=1048576:=(b.1.2 _ (am c)).1
  repeat'(first|refine gD ?_|(conv=>whnf);first|with_reducible refine CB (aa d) ?_|refine CU (λ_=>rfl) (λ_=>rfl) a (by decide) ?_|refine Ap.sn (aM λ_=>rfl) rfl (by simp;omega) (by decide) (fm c) ?_)
  ((conv=>whnf);refine CD (i+1) ω ω ?_;(exact wB))
 obtain rfl:i=m.Buffers.length:=ω
 rw[Z4]
 repeat'(first|refine gD ?_|fail)
 (conv=>whnf)
 refine CE (ι:=Nat) (λk=>[(2,.hold .box [.z,.z]),(3,.hold .box [.s .own (m.Buffers.map (cz .own)),.s .own ((m.Inbox.take k).map (aF .own))]),(26,.hold .one (i9 .imm m.Inbox)),(27,.hold .one [I (m.Inbox.length)]),(28,.hold .one [I ((k:Nat):Int)])]) (λk=>k<=m.Inbox.length) (λk=>m.Inbox.length - k) (0) ?_ (U0 _) λk l=>?_
 ·exact wB
 by_cases e:k<m.Inbox.length
 ·have d:=ah e
  have a:(nth m.Inbox k).length<=1048576:=b.2.2 _ (am e)
  repeat'(first|refine gD ?_|(conv=>whnf);first|with_reducible refine CB (aa d) ?_|refine C7 (fK (nth m.Inbox k) a) ?_|refine Ap.sn (aM λ_=>rfl) rfl (by simp;omega) (by decide) (fm e) ?_)
  ((conv=>whnf);refine CD (k+1) ω ω ?_;(exact wB))
 ·repeat'(first|refine gD ?_|fail)
  obtain rfl:k=m.Inbox.length:=ω
  rw[Z4]
  rfl
theorem rT(q:bu)(b:bu.sml q):ao Tryz.prog 231 false [.val (some 2) (bu.enc .imm q)] .agg (bu.enc .own q):=by
 have a:q.Lst.length<=1048576:=b.1;refine fO 10 [(1,6,[3,4,5,6,7,8])] Tryz.func231 rfl ?_ (.inr (bu.enc_fr _))
 repeat'(first|refine gO ?_|(conv=>whnf);first|refine CU (λ_=>rfl) (λ_=>rfl) a (by decide) ?_|refine CO (λ_=>rfl) (λ_=>rfl) a (by decide) ?_)
 rfl
theorem pS(q:bu)(b:bu.sml q):ao Tryz.prog 157 false [.val (some 2) (bu.enc .imm q)] .agg (bu.enc .own q):=by
 have a:q.Lst.length<=1048576:=b.1;refine fO 10 [(1,6,[3,4,5,6,7,8])] Tryz.func157 rfl ?_ (.inr (bu.enc_fr _))
 repeat'(first|refine gO ?_|(conv=>whnf);first|refine CU (λ_=>rfl) (λ_=>rfl) a (by decide) ?_|refine CO (λ_=>rfl) (λ_=>rfl) a (by decide) ?_)
 rfl
theorem rN(j:cG)(a:cG.sml j):ao Tryz.prog 232 false [.val (some 5) (cG.enc .imm j)] .agg (cG.enc .own j):=by
 have b:j.Plan.Cells.length<=1048576:=a;refine fO 11 [] Tryz.func232 rfl ?_ (.inr (cG.enc_fr _))
 repeat'(first|refine gO ?_|(conv=>whnf);first|refine CO (λ_=>rfl) (λ_=>rfl) b (by decide) ?_)
 rfl
theorem n8(xs:List ax)(a:gp xs):ao Tryz.prog 154 false [.val none (b8 .imm xs)] .one (b8 .own xs):=by
 have b:=a.1;refine fO 6 [] Tryz.func154 rfl ?_ (.inr (kX _))
 repeat'(first|refine gO ?_|(conv=>whnf);first|refine CO (λ_=>rfl) (λ_=>rfl) b (by decide) ?_)
 rfl
def QO(h:ab)(a:C):List C:=[.s .own (h.Kernel.Machine.Frames.Cells.map (aF .own)),.s .own (h.Kernel.Machine.Frames.Used.map (rB .own)),.s .own (h.Kernel.Machine.Table.Entries.map (bf.enc .own)),I h.Kernel.Calls,.s .own (h.Kernel.Refuse.map (rI .own)),.s .own (h.Free.map (ax.enc .own)),.s .own (h.Spans.map (ar.enc .own)),.s .own (h.Larges.map (a7.enc .own)),.s .own (h.Objs.map (bK.enc .own)),a,.s .imm (h.Mail.Buffers.map (cz .imm)),.s .imm (h.Mail.Inbox.map (aF .imm)),I h.Quar.Room,.s .imm (h.Quar.Lst.map (aK.enc .imm)),I h.Seed,I h.Clock,I h.Limit,I h.Next,B h.Meshing,I h.Job.Plan.Keep,I h.Job.Plan.Move,.s .imm (h.Job.Plan.Cells.map (rI .imm)),I h.Job.Phase,I h.Job.Next]
def D9:List C:=[.z,.z,.z,I 0,.z,.z,.z,.z,.z,.z,.z,.z,I 0,.z,I 0,I 0,I 0,I 0,B false,I 0,I 0,.z,I 0,I 0]
theorem AG(h:ab)(c:ab.sml h):ao Tryz.prog 142 false [.val (some 24) (ab.enc .imm h)] .agg (ab.enc .own h):=by
 obtain⟨d,e,g,j,k,b,l,n,o⟩:=c;have p:=e.1;have q:=g.1;have r:=j.1;have t:=k.1;have w:=b.1;refine fO 61 [] Tryz.func142 rfl ?_ (.inr (ab.enc_fr _))
 repeat'(first|refine gO ?_|(conv=>whnf);first|refine C7 (AK h.Kernel d) ?_|refine CO (λ_=>rfl) (λ_=>rfl) p (by decide) ?_|refine CO (λ_=>rfl) (λ_=>rfl) q (by decide) ?_|refine CO (λ_=>rfl) (λ_=>rfl) r (by decide) ?_|refine CO (λ_=>rfl) (λ_=>rfl) t (by decide) ?_)
 (conv=>whnf)
 refine CE (ι:=Nat) (λi=>[(1,.hold .box (QO h (.s .imm (h.Caches.map (aA.enc .imm))))),(2,.hold .box D9),(3,.hold .one ([.s .own ((h.Caches.take i).map (aA.enc .own))])),(4,.hold .one [I ((i:Nat):Int)])]) (λi=>i<=h.Caches.length) (λi=>h.Caches.length - i) (0) ?_ (U0 _) λi y=>?_
 ·exact wB
 by_cases a:i<h.Caches.length
 ·have u:=ah a
  repeat'(first|refine gD ?_|(conv=>whnf);first|with_reducible refine CB (aa u) ?_|refine C7 (i7 (nth h.Caches i) (b.2 _ (am a))) ?_|refine Ap.sn (aM λ_=>rfl) rfl (by simp;omega) (by decide) (fm a) ?_)
  ((conv=>whnf);refine CD (i+1) ω ω ?_;(exact wB))
 ·obtain rfl:i=h.Caches.length:=ω
  rw[Z4]
  repeat'(first|refine gD ?_|(conv=>whnf);first|refine C7 (f7 h.Mail l) ?_|refine C7 (rT h.Quar n) ?_|refine C7 (rN h.Job o) ?_)
  rfl
theorem yw(h:ab)(c:ab.sml h):ao Tryz.prog 65 false [.val (some 24) (ab.enc .imm h)] .agg (ab.enc .own h):=by
 obtain⟨d,e,g,j,k,b,l,n,o⟩:=c;have p:=g.1;have q:=j.1;have r:=k.1;have u:=b.1;refine fO 59 [(11,5,[38,39,40,41,42])] Tryz.func65 rfl ?_ (.inr (ab.enc_fr _))
 repeat'(first|refine gO ?_|(conv=>whnf);first|refine C7 (n7 h.Kernel d) ?_|refine C7 (n8 h.Free e) ?_|refine CO (λ_=>rfl) (λ_=>rfl) p (by decide) ?_|refine CO (λ_=>rfl) (λ_=>rfl) q (by decide) ?_|refine CO (λ_=>rfl) (λ_=>rfl) r (by decide) ?_)
 (conv=>whnf)
 refine CE (ι:=Nat) (λi=>[(1,.hold .box (ab.enc .imm h)),(2,.hold .box D9),(3,.hold .box (QO h (.s .own ((h.Caches.take i).map (aA.enc .own))))),(32,.hold .one (gN .imm h.Caches)),(33,.hold .one [I (h.Caches.length)]),(34,.hold .one [I ((i:Nat):Int)])]) (λi=>i<=h.Caches.length) (λi=>h.Caches.length - i) (0) ?_ (U0 _) λi w=>?_
 ·exact wB
 by_cases a:i<h.Caches.length
 ·have t:=ah a
  repeat'(first|refine gD ?_|(conv=>whnf);first|with_reducible refine CB (aa t) ?_|refine C7 (nP (nth h.Caches i) (b.2 _ (am a))) ?_|refine Ap.sn (aM λ_=>rfl) rfl (by simp;omega) (by decide) (fm a) ?_)
  ((conv=>whnf);refine CD (i+1) ω ω ?_;(exact wB))
 ·obtain rfl:i=h.Caches.length:=ω
  rw[Z4]
  repeat'(first|refine gD ?_|(conv=>whnf);first|refine C7 (yC h.Mail l) ?_|refine C7 (pS h.Quar n) ?_|refine C7 (Ai h.Job o) ?_)
  rfl
theorem Ap.sm{rows b:List (List C)}{r:List C}{sz by_:Nat}{K:List (List C)->Prop}(h1:∀r∈rows,r.length=sz)(c:r.length=sz)(d:rows.length+1<=1073741824)(e:by_<=1000)(a:b=rows++[r])(f:K b):Ap false rows [r] sz by_ K:=
 CQ h1 (λg a=>by rw[I1.1 a];exact c) (λh=>by cases h) (by simp;omega) (V4 (Nat.mul_le_mul (show rows.length+[r].length<=1073741824 by simpa using d) e) (by decide)) a f
theorem Ap.s2{rows d:List (List C)}{a b:List C}{sz by_:Nat}{K:List (List C)->Prop}(h1:∀r∈rows,r.length=sz)(i:a.length=sz)(j:b.length=sz)(e:rows.length+2<=1073741824)(f:by_<=1000)(c:d=rows++[a,b])(g:K d):Ap false rows [a,b] sz by_ K:=
 CQ h1 (λk c=>by simp at c;rcases c with rfl|rfl<;>assumption) (λh=>by cases h) (by simp;omega) (V4 (Nat.mul_le_mul (show rows.length+[a,b].length<=1073741824 by simpa using e) f) (by decide)) c g
theorem tD(y:ax)(a:List ax)(r:ax)(out:List ax)(done:Bool):iH (y::a) r out done=if ovl y r then none
  else if y.At+y.Len=r.At then iH a ⟨y.At,y.Len+r.Len⟩ out done
  else if r.At+r.Len=y.At then iH a ⟨r.At,r.Len+y.Len⟩ out done
  else if y.At > r.At/\done=false then iH a r (out++[r,y]) true
  else iH a r (out++[y]) done:=by rw[iH]
theorem vc{pages:Int}{xs:List ax}(h:bt pages xs=true):oe xs/\∀y∈xs,0<=y.At/\1<=y.Len/\y.At+y.Len<=pages:=by
 unfold bt at h;simp only[I0,C0]at h;have b:∀i,i<xs.length->1<=(nth xs i).Len/\0<=(nth xs i).At/\(nth xs i).At<=pages - (nth xs i).Len:=λi a=>by
  have:=dI h.1 a;unfold fU rangeIn at this;simp only[I0,C0]at this;omega
 have d:∀i,i+1<xs.length->(nth xs i).At+(nth xs i).Len<(nth xs (i+1)).At:=λi a=>by
  have:=dI h.1 a;unfold fU at this;simp only[I0,C0]at this;have:=this.2.resolve_left ω;simpa using this
 have k:∀j i,i<j->j<xs.length->(nth xs i).At+(nth xs i).Len<(nth xs j).At:=λj=>by
  induction j with
  | zero=>intro i a;omega
  | succ j l=>
   intro i a c;have n:=d j c;by_cases e:i=j
   ·subst e;exact n
   ·have o:=l i ω ω
    have p:=b j ω;omega
 refine⟨⟨?_,λy f=>?_⟩,λy f=>?_⟩
 ·rw[List.pairwise_iff_getElem]
  intro i j a c g;have:=k j i g c
  rwa [bq (I2 a),bq (I2 c)]at this
 ·obtain⟨i,a,rfl⟩:=aW f
  exact(b i a).1
 ·obtain⟨i,a,rfl⟩:=aW f
  have:=b i a;omega
theorem gQ{α:Type}[Inhabited α]{xs:List α}{i:Nat}(a:i<xs.length):xs.drop i=nth xs i::xs.drop (i+1):=by
 rw[List.drop_eq_getElem_cons a,bq (I2 a)]
def ca(pages:Int)(xs:List ax)(r:ax):Option (List ax):=if bt pages xs=true/\rangeIn pages r=true then iH xs r [] false else none
def AU(xs:List ax)(o:Option (List ax)):List C:=b8 .own (o.getD xs)++[B o.isSome]
theorem kf(xs:List ax)(o:Option (List ax)):gH (AU xs o):=aS (kX _) ⟨trivial,trivial⟩
theorem yf(pages:Int)(xs:List ax)(r:ax)(w:0<=pages/\pages<=1048576)(n:gp xs):ao Tryz.prog 222 false [.val none [I pages],.val none (b8 .imm xs),.val (some 2) (ax.enc .imm r)] (.tup [none,none]) (AU xs (ca pages xs r)):=by
 have L:=n.1;have k:=pT pages xs w n;have o:=wD pages r w;have p:=n8 xs n;cases l:bt pages xs<;>rw[l]at k
 ·rw[show ca pages xs r=none by unfold ca;rw[C8 (by rw[l];simp)]]
  refine fO 111 [] Tryz.func222 rfl ?_ (.inr (kf _ _))
  repeat'(first|refine gO ?_|(conv=>whnf);first|refine C7 (k) ?_|refine C7 (p) ?_)
  rfl
 cases j:rangeIn pages r<;>rw[j]at o
 ·rw[show ca pages xs r=none by unfold ca;rw[C8 (by rw[j];simp)]]
  refine fO 111 [] Tryz.func222 rfl ?_ (.inr (kf _ _))
  repeat'(first|refine gO ?_|(conv=>whnf);first|refine C7 (k) ?_|refine C7 (o) ?_|refine C7 (p) ?_)
  rfl
 rw[show ca pages xs r=iH xs r [] false by unfold ca;rw[C9 ⟨l,j⟩]];obtain⟨M,G⟩:=vc l;have H:0<=r.At/\1<=r.Len/\r.At+r.Len<=pages:=by
  unfold rangeIn at j;rw[C0]at j;omega
 refine fO 111 [] Tryz.func222 rfl ?_ (.inr (kf _ _))
 repeat'(first|refine gO ?_|(conv=>whnf);first|refine C7 (k) ?_|refine C7 (o) ?_)
 (conv=>whnf)
 refine CE (ι:=Nat × ax × List ax × Bool) (λq=>[(1,.hold .one (b8 .imm xs)),(5,.hold .box (ax.enc .imm q.2.1)),(8,.hold .one (b8 .own q.2.2.1)),(9,.hold .one [B (q.2.2.2)]),(25,.hold .one (b8 .imm xs)),(26,.hold .one [I (xs.length)]),(27,.hold .one [I ((q.1:Nat):Int)])]) (λq=>q.1<=xs.length/\iH (xs.drop q.1) q.2.1 q.2.2.1 q.2.2.2=iH xs r [] false/\(0<=q.2.1.At/\1<=q.2.1.Len/\q.2.1.At+q.2.1.Len<=pages)/\q.2.2.1.length<=2*q.1) (λq=>xs.length - q.1) ((0,r,[],false)) ?_ (⟨U0 _,rfl,H,U0 _⟩) λq c=>?_
 ·exact wB
 obtain⟨i,d,out,done⟩:=q;obtain⟨J,b,e,t⟩:=c;simp only at J b e t |-;by_cases u:i<xs.length
 ·have g:=ah u
  have N:=G _ (am u);rw[gQ u]at b;by_cases h:ovl (nth xs i) d=true
  ·rw[<-b]
   rw[tD,C9 h];unfold ovl at h;rw[C0]at h
   repeat'(first|refine gD ?_|(conv=>whnf);first|with_reducible (first|refine CB (aa g) ?_|refine Bf.D (λc=>?_) (λc=>?_))|refine C7 (p) ?_)
   rfl
  ·have a:=b
   rw[tD,C8 h]at a;unfold ovl at h;rw[C0]at h;by_cases y:(nth xs i).At+(nth xs i).Len=d.At
   ·rw[C9 y]at a
    repeat'(first|refine gA ?_|(conv=>whnf);first|with_reducible (first|refine CB (aa g) ?_|refine Bf.D (λc=>?_) (λc=>?_)))
    ((conv=>whnf);refine CD (i+1,⟨(nth xs i).At,(nth xs i).Len+d.Len⟩,out,done) ⟨(by simp only;omega),a,(by simp only;omega),(by simp only;omega)⟩ (by simp only;omega) ?_;(exact wB))
   ·rw[C8 y]at a
    by_cases F:d.At+d.Len=(nth xs i).At
    ·rw[C9 F]at a
     repeat'(first|refine gA ?_|(conv=>whnf);first|with_reducible (first|refine CB (aa g) ?_|refine Bf.D (λc=>?_) (λc=>?_)|refine Bf.E (λc=>?_) (λc=>?_)))
     ((conv=>whnf);refine CD (i+1,⟨d.At,d.Len+(nth xs i).Len⟩,out,done) ⟨(by simp only;omega),a,(by simp only;omega),(by simp only;omega)⟩ (by simp only;omega) ?_;(exact wB))
    ·rw[C8 F]at a
     by_cases K:(nth xs i).At > d.At
     ·cases done with
      | false=>
       rw[C9 ⟨K,rfl⟩]at a
       repeat'(first|refine gA ?_|(conv=>whnf);first|with_reducible (first|refine CB (aa g) ?_|refine Bf.D (λc=>?_) (λc=>?_)|refine Bf.E (λc=>?_) (λc=>?_))|refine Ap.s2 (aM λ_=>rfl) rfl rfl (by simp;omega) (by decide) rfl ?_)
       ((conv=>whnf)
        refine CD (i+1,d,out++[d,nth xs i],true) ⟨(by simp only;omega),a,e,(by simp;omega)⟩ (by simp only;omega) ?_
        (repeat'(first|exact trivial|rfl|exact CJ rfl (CJ (W0 (C.s d7.own) (by simp[ax.enc])) trivial)|refine CJ ?_ ?_)))
      | true=>
       rw[C8 (by simp)]at a
       repeat'(first|refine gA ?_|(conv=>whnf);first|with_reducible (first|refine CB (aa g) ?_|refine Bf.D (λc=>?_) (λc=>?_)|refine Bf.E (λc=>?_) (λc=>?_))|refine Ap.sm (aM λ_=>rfl) rfl (by simp;omega) (by decide) rfl ?_)
       ((conv=>whnf)
        refine CD (i+1,d,out++[nth xs i],true) ⟨(by simp only;omega),a,e,(by simp;omega)⟩ (by simp only;omega) ?_
        (repeat'(first|exact trivial|rfl|exact CJ rfl (CJ (W0 (C.s d7.own) (by simp[ax.enc])) trivial)|refine CJ ?_ ?_)))
     ·rw[C8 ω]at a
      repeat'(first|refine gA ?_|(conv=>whnf);first|with_reducible (first|refine CB (aa g) ?_|refine Bf.D (λc=>?_) (λc=>?_)|refine Bf.E (λc=>?_) (λc=>?_))|refine Ap.sm (aM λ_=>rfl) rfl (by simp;omega) (by decide) rfl ?_)
      ((conv=>whnf)
       refine CD (i+1,d,out++[nth xs i],done) ⟨(by simp only;omega),a,e,(by simp;omega)⟩ (by simp only;omega) ?_
       (repeat'(first|exact trivial|rfl|exact CJ rfl (CJ (W0 (C.s d7.own) (by simp[ax.enc])) trivial)|refine CJ ?_ ?_)))
 ·obtain rfl:i=xs.length:=ω
  rw[List.drop_length]at b;cases done with
  | false=>
   rw[<-b]
   repeat'(first|refine gD ?_|(conv=>whnf);first|refine Ap.sm (aM λ_=>rfl) rfl (by simp;omega) (by decide) rfl ?_)
   show [C.s d7.own _,B true]=[C.s d7.own _,B true];simp[iH,ax.enc]
  | true=>
   rw[<-b]
   repeat'(first|refine gD ?_|fail)
   rfl
theorem vh{α:Type}[Inhabited α](R:Int->Int->Prop)(n:∀a b c,R a b->R b c->R a c)(f:α->Int)(xs:List α):(∀i,i<xs.length->i=0\/R (f (nth xs (i - 1))) (f (nth xs i)))↔xs.Pairwise (λa b=>R (f a) (f b)):=by
 constructor
 ·intro h
  have o:∀j i,i<j->j<xs.length->R (f (nth xs i)) (f (nth xs j)):=λj=>by
   induction j with
   | zero=>intro i d;omega
   | succ j p=>
    intro i d g;have k:=(h (j+1) g).resolve_left ω;rw[show j+1 - 1=j from rfl]at k;by_cases e:i=j
    ·subst e;exact k
    ·exact n _ _ _ (p i ω ω) k
  rw[List.pairwise_iff_getElem];intro i j d g l;have:=o j i l g
  rwa [bq (I2 d),bq (I2 g)]at this
 ·intro h i d
  by_cases e:i=0
  ·exact .inl e
  ·right
   have:=List.pairwise_iff_getElem.1 h (i - 1) i ω d ω
   rwa [<-bq (I2 (show i - 1<xs.length by omega)),<-bq (I2 d)]at this
theorem yP{α:Type}[Inhabited α](f:α->Int)(xs:List α):(∀i,i<xs.length->∀o∈xs.take i,f o≠f (nth xs i))↔(xs.map f).Nodup:=by
 unfold List.Nodup;rw[List.pairwise_map,List.pairwise_iff_getElem];constructor
 ·intro h i j a b c
  have:=h j b xs[i] (List.mem_take_iff_getElem.2 ⟨i,ω,rfl⟩)
  rwa [bq (I2 b)]at this
 ·intro h i a o d
  obtain⟨j,b,rfl⟩:=List.mem_take_iff_getElem.1 d;rw[bq (I2 a)];exact h j i ω a ω
def eE(s:ar)(a:Int):Prop:=16*s.Page<=a/\a<=16*s.Page+15/\(a - 16*s.Page) % csz s.Class=0/\aU s.Bits ((a - 16*s.Page) / csz s.Class)=true
def jj(sp:List ar)(a c:Int):Prop:=∃s∈sp,eE s a/\(c<0\/s.Class=c)
def Rx(la:List a7)(a z:Int):Prop:=∃l∈la,a=16*l.Page/\l.Size=z
def Ks(sp:List ar)(la:List a7)(o:bK):Prop:=(∃s∈sp,eE s o.Addr/\s.Class=aL o.Size)\/Rx la o.Addr o.Size
def Live(sp:List ar)(la:List a7)(a:Int):Prop:=jj sp a (-1)\/∃l∈la,a=16*l.Page
theorem lP{sp:List ar}{la:List a7}(f:qx sp la)(a:Int):(∃i,i<sp.length/\(16*(nth sp i).Page<=a/\a<=16*(nth sp i).Page+15)/\denotes sp la a=mV i (nth sp i) a)\/((∀s∈sp,¬(16*s.Page<=a/\a<=16*s.Page+15))/\((∃i,i<la.length/\bo (nth la i) a=true/\denotes sp la a = ⟨3,i,0,a - 16*(nth la i).Page⟩)\/((∀l∈la,bo l a=false)/\denotes sp la a = ⟨0,0,0,0⟩))):=by
 cases c:sp.findIdx? (cm · a) with
 | some i=>
  obtain⟨b,d,-⟩:=U6.1 c;rw[<-bq (I2 b)]at d;exact .inl ⟨i,b,(fA (f.sok _ (am b))).1 d,by unfold denotes;rw[c]⟩
 | none=>
  have h:=List.findIdx?_eq_none_iff.1 c;refine .inr ⟨λs g j=>?_,?_⟩
  ·have:=h s g
   rw[(fA (f.sok _ g)).2 j]at this;cases this
  cases e:la.findIdx? (bo · a) with
  | some i=>
   obtain⟨b,d,-⟩:=U6.1 e;rw[<-bq (I2 b)]at d;exact .inl ⟨i,b,d,by unfold denotes;rw[c,e]⟩
  | none=>exact .inr ⟨List.findIdx?_eq_none_iff.1 e,by unfold denotes;rw[c,e]⟩
theorem Mo{h:ab}(k:qx h.Spans h.Larges){a c:Int} : cZ h a c=true↔jj h.Spans a c:=by
 unfold cZ;simp only[I0,X5,C0];constructor
 ·rintro⟨⟨b,j⟩,d⟩
  rcases lP k a with⟨i,g,l,f⟩|⟨-,⟨i,g,-,f⟩|⟨-,f⟩⟩
  ·rw[f]at b j d
   simp only[mV]at b j d;refine⟨_,am g,⟨l.1,l.2,j,?_⟩,by simpa using d⟩;cases e:aU (nth h.Spans i).Bits ((a - 16*(nth h.Spans i).Page) / csz (nth h.Spans i).Class) with
   | true=>rfl
   | false=>rw[e]at b;simp at b
  ·rw[f]at b;simp at b
  ·rw[f]at b;simp at b
 ·rintro⟨s,n,⟨o,p,q,r⟩,d⟩
  obtain⟨i,g,rfl⟩:=aW n;rw[gP k g ⟨o,p⟩];simp only[mV,q,r,if_true,true_and];simpa using d
theorem vz{sp:List ar}{la:List a7}(a:qx sp la){l:a7}(b:l∈la):(∀s∈sp,¬(16*s.Page<=16*l.Page/\16*l.Page<=16*s.Page+15))/\bo l (16*l.Page)=true/\∀i,i<la.length->bo (nth la i) (16*l.Page)=true->nth la i=l:=by
 have k:=aQ (a.lok _ b);have f:=bS (a.lok _ b);refine⟨λs g n=>?_,?_,λi d e=>?_⟩
 ·exact a.dis s g l b 0 ω ω
 ·unfold bo;rw[a.lok _ b,O0 ω];rfl
 ·obtain⟨j,h,rfl⟩:=aW b
  have o:=aQ (a.lok _ (am d));have c:=a.lok _ (am d);unfold bQ at c;rw[C0]at c;unfold bo at e;rw[I0,C0]at e;rw[a.one i j d h ((nth la j).Page - (nth la i).Page).toNat 0 ω ω ω]
theorem KZ{h:ab}(f:qx h.Spans h.Larges){o:bK} : iL h o=true↔Ks h.Spans h.Larges o:=by
 unfold iL;simp only[I0,X5,C0];constructor
 ·rintro⟨d,a⟩
  rcases lP f o.Addr with⟨i,b,g,c⟩|⟨-,⟨i,b,-,c⟩|⟨-,c⟩⟩
  ·rw[c]at a d
   simp only[mV]at a d;have j:aU (nth h.Spans i).Bits ((o.Addr - 16*(nth h.Spans i).Page) / csz (nth h.Spans i).Class)=true:=by
    cases e:aU (nth h.Spans i).Bits ((o.Addr - 16*(nth h.Spans i).Page) / csz (nth h.Spans i).Class) with
    | true=>rfl
    | false=>rw[e]at a;simp at a
   rw[j]at a;exact .inl ⟨_,am b,⟨g.1,g.2,d,j⟩,by simpa using a⟩
  ·rw[c]at a d
   simp only at a d;exact .inr ⟨_,am b,ω,by simpa using a⟩
  ·rw[c]at a;simp at a
 ·rintro(⟨s,j,⟨p,q,r,t⟩,u⟩|⟨l,k,w,y⟩)
  ·obtain⟨i,b,rfl⟩:=aW j
   rw[gP f b ⟨p,q⟩];simp only[mV,r,t,if_true,true_and];simp[u]
  ·obtain⟨A,n,B⟩:=vz f k
   rw[w];rcases lP f (16*l.Page) with⟨i,b,g,c⟩|⟨-,⟨i,b,C,c⟩|⟨D,c⟩⟩
   ·exact absurd g (A _ (am b))
   ·rw[c]
    have:=B i b C;simp only[this,X2];exact⟨ω,.inr ⟨trivial,y⟩⟩
   ·rw[D l k]at n;cases n
theorem D2{sp:List ar}{la:List a7}(d:qx sp la)(a:Int):a∈ip sp la↔Live sp la a:=by
 constructor
 ·intro h
  unfold ip lg at h;obtain⟨n,o,rfl⟩:=z4.1 h;have g:=(C4.1 o).2;unfold jC at g;simp only[I0,X5,C0]at g;obtain⟨j,f⟩:=g;rcases lP d (n:Int) with⟨i,c,k,b⟩|⟨-,⟨i,c,-,b⟩|⟨-,b⟩⟩
  ·rw[b]at f j
   simp only[mV]at f j;refine .inl ⟨_,am c,⟨k.1,k.2,j,?_⟩,.inl ω⟩;cases e:aU (nth sp i).Bits (((n:Int) - 16*(nth sp i).Page) / csz (nth sp i).Class) with
   | true=>rfl
   | false=>rw[e]at f;simp at f
  ·rw[b]at j
   simp only at j;exact .inr ⟨_,am c,ω⟩
  ·rw[b]at f;simp at f
 ·rintro(⟨s,r,⟨t,g,u,w⟩,-⟩|⟨l,p,rfl⟩)
  ·obtain⟨i,c,rfl⟩:=aW r
   have b:=gP d c ⟨t,g⟩;exact vm d (by rw[b];exact u) (.inl (by rw[b];simp only[mV,w,if_true]))
  ·obtain⟨y,q,A⟩:=vz d p
   rcases lP d (16*l.Page) with⟨i,c,k,b⟩|⟨-,⟨i,c,B,b⟩|⟨o,b⟩⟩
   ·exact absurd k (y _ (am c))
   ·have:=A i c B
    exact vm d (by rw[b];simp only[this];omega) (.inr (by rw[b]))
   ·rw[o l p]at q;cases q
def RH(xs:List ax)(p:Int):Prop:=∃r∈xs,r.At<=p/\p<r.At+r.Len
theorem fD{pages:Int}{xs:List ax} : bt pages xs=true↔oe xs/\(∀y∈xs,0<=y.At/\1<=y.Len/\y.At+y.Len<=pages)/\1<=pages/\pages<=32:=by
 constructor
 ·intro h
  obtain⟨a,b⟩:=vc h;unfold bt at h;simp only[I0,C0]at h;exact⟨a,b,h.2⟩
 ·rintro⟨a,b,d⟩
  unfold bt;simp only[I0,C0];refine⟨cn.2 λi c=>?_,d⟩;have f:=b _ (am c);unfold fU rangeIn;simp only[I0,C0];refine⟨ω,?_⟩;by_cases e:i=0
  ·exact .inl e
  ·right
   have:=List.pairwise_iff_getElem.1 a.1 (i - 1) i ω c ω
   rwa [<-bq (I2 (show i - 1<xs.length by omega)),<-bq (I2 c)]at this
theorem BN{pages:Int}{xs:List ax}(h:bt pages xs=true)(p:Int):xs.any (qN p)=true↔RH xs p:=by
 obtain⟨-,c,d⟩:=fD.1 h;rw[X3];refine⟨λ⟨r,a,b⟩=>⟨r,a,?_⟩,λ⟨r,a,b⟩=>⟨r,a,?_⟩⟩
 ·have:=c r a
  unfold qN at b;rw[eM ω ω]at b;simpa using b
 ·have:=c r a
  unfold qN;rw[eM ω ω];simpa using b
theorem vk(u:Int):∀(h:List ax)(r:ax)(out:List ax),oe h->1<=r.Len->(∀y∈h,ovl y r=false)->(∀z∈out,z.At+z.Len<r.At/\∀y∈h,z.At+z.Len<y.At)->oe out->(∀y∈r::(out++h),0<=y.At/\y.At+y.Len<=u)->∃o,iH h r out false=some o/\oe o/\(∀y∈o,0<=y.At/\y.At+y.Len<=u)/\∀p,RH o p↔RH out p\/RH h p\/(r.At<=p/\p<r.At+r.Len)
 | [],r,out,_,A,_,k,l,f=>by
  refine⟨out++[r],by simp[iH],⟨List.pairwise_append.2 ⟨l.1,List.pairwise_singleton ..,λa B b f=>by rw[I1.1 f];exact(k a B).1⟩,λy n=>?_⟩,λy n=>f y (by simp at n |-;grind),λp=>by unfold RH;simp[or_and_right,exists_or]⟩;rcases v3.1 n with n|n
  ·exact l.2 y n
  ·rw[I1.1 n];exact A
 | y::h,r,out,g,A,H,k,l,f=>by
  have K:=g.2 y (V1 ..);have q:=H y (V1 ..);have j:=g.head;have O:=f y (by simp);have P:=f r (by simp);have C:∀w∈h,¬(w.At<r.At+r.Len/\r.At<w.At+w.Len):=λw d=>by
   have:=H w (v5 _ d);unfold ovl at this;simpa using this
  have t:∀w∈h,1<=w.Len:=λw d=>g.2 w (v5 _ d)
  rw[tD,C8 (by rw[q];simp)];unfold ovl at q;rw[T4]at q;by_cases L:y.At+y.Len=r.At
  ·rw[C9 L]
   obtain⟨o,D,E,F,G⟩:=vk u h ⟨y.At,y.Len+r.Len⟩ out g.tail (by simp only;omega) (λw d=>by
     have a:=j w d;have b:=C w d;have c:=t w d;unfold ovl;rw[T4];simp only;omega) (λz i=>⟨(k z i).2 y (V1 ..),λw d=>(k z i).2 w (v5 _ d)⟩) l (λw d=>by
     rcases List.mem_cons.1 d with rfl|d
     · simp only;omega
     · exact f w (by simp at d |-;grind))
   refine⟨o,D,E,F,λp=>?_⟩;rw[G];unfold RH;simp only[List.mem_cons,exists_eq_or_imp]
   grind
  rw[C8 L];by_cases M:r.At+r.Len=y.At
  ·rw[C9 M]
   obtain⟨o,D,E,F,G⟩:=vk u h ⟨r.At,r.Len+y.Len⟩ out g.tail (by simp only;omega) (λw d=>by
     have a:=j w d;have b:=C w d;have c:=t w d;unfold ovl;rw[T4];simp only;omega) (λz i=>⟨(k z i).1,λw d=>(k z i).2 w (v5 _ d)⟩) l (λw d=>by
     rcases List.mem_cons.1 d with rfl|d
     · simp only;omega
     · exact f w (by simp at d |-;grind))
   refine⟨o,D,E,F,λp=>?_⟩;rw[G];unfold RH;simp only[List.mem_cons,exists_eq_or_imp]
   grind
  rw[C8 M];by_cases N:y.At > r.At
  ·have J:r.At+r.Len<y.At:=ω
   rw[C9 ⟨N,rfl⟩,pd g.tail A λw d=>by have:=j w d;omega];refine⟨_,rfl,⟨?_,λw d=>?_⟩,λw d=>f w (by simp at d |-;grind),λp=>by unfold RH;simp[or_and_right,exists_or];grind⟩
   ·rw[I5]
    refine List.pairwise_append.2 ⟨l.1,?_,λa B b f=>?_⟩
    ·show(r::y::h).Pairwise _
     refine List.pairwise_cons.2 ⟨λw d=>?_,g.1⟩;rcases List.mem_cons.1 d with rfl|d
     ·exact J
     ·have:=j w d;omega
    ·obtain⟨Q,R⟩:=k a B
     have f:b∈r::y::h:=f;rcases List.mem_cons.1 f with rfl|f
     ·exact Q
     ·exact R b f
   ·simp only[v3,List.mem_cons,List.not_mem_nil,or_false]at d
    rcases d with(d|rfl|rfl)|d
    ·exact l.2 w d
    ·exact A
    ·exact K
    ·exact t w d
  rw[C8 λe=>N e.1];obtain⟨o,D,E,F,G⟩:=vk u h r (out++[y]) g.tail A (λw d=>H w (v5 _ d)) (λz i=>by
    rcases v3.1 i with i|i
    · exact⟨(k z i).1,λw d=>(k z i).2 w (v5 _ d)⟩
    · rw[I1.1 i];exact⟨ω,j⟩) ⟨List.pairwise_append.2 ⟨l.1,List.pairwise_singleton ..,λa B b f=>by rw[I1.1 f];exact(k a B).2 y (V1 ..)⟩,λw d=>by
      rcases v3.1 d with d|d
      · exact l.2 w d
      · rw[I1.1 d];exact K⟩ (λw d=>f w (by simp at d |-;grind))
  refine⟨o,D,E,F,λp=>?_⟩;rw[G];unfold RH;simp[or_and_right,exists_or]
  grind
theorem um{pages:Int}{xs:List ax}{r:ax}(h:bt pages xs=true)(j:0<=r.At/\1<=r.Len/\r.At+r.Len<=pages)(c:∀p,r.At<=p->p<r.At+r.Len->¬RH xs p):∃o,ca pages xs r=some o/\bt pages o=true/\∀p,RH o p↔RH xs p\/(r.At<=p/\p<r.At+r.Len):=by
 obtain⟨k,d,l⟩:=fD.1 h;have b:rangeIn pages r=true:=by unfold rangeIn;rw[C0];omega
 unfold ca;rw[C9 ⟨h,b⟩];obtain⟨o,n,f,g,q⟩:=vk pages xs r [] k j.2.1 (λy a=>by
   have:=d y a;unfold ovl;rw[T4];intro i;by_cases e:r.At<=y.At
   · exact c y.At e i.1 ⟨y,a,ω,ω⟩
   · exact c r.At ω ω ⟨y,a,ω,i.2⟩) (λz t=>by cases t) ⟨List.Pairwise.nil,λy a=>by cases a⟩ (λy a=>by
   rcases List.mem_cons.1 a with rfl|a
   · omega
   · have:=d y (by simpa using a);omega)
 refine⟨o,n,fD.2 ⟨f,λy a=>⟨(g y a).1,f.2 y a,(g y a).2⟩,l⟩,λp=>?_⟩;rw[q];unfold RH;simp
structure Pg(t:aH)(fr:List ax)(sp:List ar)(la:List a7):Prop where
 one:∀l∈la,∀p:Nat,(p:Int)∈lpgs l l.Pages.toNat->∀q:Nat,q<t.Entries.length->(nth t.Entries q).Mode≠0->(nth t.Entries q).Frame=(nth t.Entries p).Frame->q=p
 bnd:∀p∈pgs sp la,p<t.Entries.length
 own:∀p:Nat,p<t.Entries.length->((nth t.Entries p).Mode≠0↔(p:Int)∈pgs sp la)
 fre:∀p:Nat,p<t.Entries.length->((nth t.Entries p).Mode≠0↔¬RH fr p)
 mesh:∀s∈sp,∀u∈sp,s.Page≠u.Page->(nth t.Entries s.Page.toNat).Frame=(nth t.Entries u.Page.toNat).Frame->meshable s u=true
structure bm(h:ab)(E:List Int):Prop where
 ker:aB h.Kernel=true
 rng:bt (dS h) h.Free=true
 lay:bh h.Spans h.Larges=true
 srs:h.Spans.Pairwise λa b=>a.Page<b.Page
 srl:h.Larges.Pairwise λa b=>a.Page<b.Page
 pg:Pg (tbl h) h.Free h.Spans h.Larges
 mail:bI h.Mail=true
 nc:h.Caches.length=h.Mail.Buffers.length
 quar:eQ h.Quar=true
 snc:∀x∈h.Quar.Lst,x.Since<=h.Clock
 cach:∀c∈h.Caches,bn c=true
 nums:bX h=true
 osr:h.Objs.Pairwise λa b=>a.Addr<b.Addr
 onu:∀o∈h.Objs,1<=o.Id/\o.Id<=h.Next - 1/\0<=o.Thread/\o.Thread<=h.Caches.length - 1
 oid:(h.Objs.map (·.Id)).Nodup
 oow:∀o∈h.Objs,Ks h.Spans h.Larges o
 hca:∀c∈h.Caches,∀k:Nat,k<c.Lists.length->∀a∈nth c.Lists k,jj h.Spans a k
 hqu:∀x∈h.Quar.Lst,jj h.Spans x.Addr x.Class
 hfl:∀a∈aE h.Mail,jj h.Spans a (-1)
 hin:∀a∈E,jj h.Spans a (-1)
 nd:(E++holders h).Nodup
 mem:∀a,a∈E++holders h↔Live h.Spans h.Larges a
 job:h.Meshing=true->jx h.Job=true/\(∃s∈h.Spans,s.Page=h.Job.Plan.Keep)/\∃s∈h.Spans,s.Page=h.Job.Plan.Move
 noj:h.Meshing=false->qX h.Job=true
theorem bm.L{h:ab}{E:List Int}(a:bm h E):qx h.Spans h.Larges:=qx.of a.lay
theorem yo(t:aH)(f:Int):(pagesOn t f).Nodup:=by
 unfold pagesOn jq List.Nodup;rw[List.pairwise_map];exact(List.nodup_range.sublist List.filter_sublist).imp λh e=>h ω
theorem NR{l:List Int}{a:Int}(b:l.Nodup)(d:a∈l)(c:∀x∈l,x=a):l.length=1:=by
 match l with
 | []=>cases d
 | [_]=>rfl
 | x::y::r=>
  exfalso;have e:=c x (by simp);have f:=c y (by simp);rw[e,f]at b;simp at b
theorem dJ{sp:List ar}{la:List a7}{s:ar}(a:s∈sp):s.Page∈pgs sp la:=by
 unfold pgs;exact v3.2 (.inl (z4.2 ⟨s,a,rfl⟩))
theorem fE{sp:List ar}{la:List a7}{l:a7}(a:l∈la){p:Int}(b:p∈lpgs l l.Pages.toNat):p∈pgs sp la:=by
 unfold pgs;exact v3.2 (.inr (List.mem_flatMap.2 ⟨l,a,b⟩))
theorem QH{h:ab}(n:bh h.Spans h.Larges=true)(P:bt (dS h) h.Free=true)(J:pages0 h=true)(t:nw h=true):Pg (tbl h) h.Free h.Spans h.Larges:=by
 have Q:=qx.of n;obtain⟨R,y,K⟩:=r8 J;have S:∀p:Nat,p<dS h->((nth (tbl h).Entries p).Mode≠0↔¬RH h.Free p):=λp a=>by
  have d:=J;unfold pages0 at d;simp only[I0]at d;have A:=dI d.2 a;unfold uT at A;rw[I0]at A;have L:=A.2;rw[<-BN P];cases e:h.Free.any (qN (p:Int))<;>rw[e]at L<;>simpa using L
 refine⟨λl B p f q T C D=>?_,y,K,S,λs U u V E M=>?_⟩
 ·obtain⟨i,o,rfl⟩:=aW B
  obtain⟨k,w,F⟩:=dn.1 f;have a:p<dS h:=by have:=y _ (fE (sp:=h.Spans) B f);omega
  have r:=(K p a).2 (fE B f);have b:=R i o k w;rw[<-F,eX a r]at b;have N:(p:Int)∈pagesOn (tbl h) (nth (tbl h).Entries p).Frame:=d9.2 ⟨a,r,rfl⟩;have O:(q:Int)∈pagesOn (tbl h) (nth (tbl h).Entries p).Frame:=d9.2 ⟨T,C,D⟩;obtain⟨z,W⟩:=List.length_eq_one_iff.1 b;rw[W]at N O;simp only[I1]at N O;omega
 ·obtain⟨i,o,rfl⟩:=aW U
  obtain⟨j,G,rfl⟩:=aW V;have c:∀k,k<h.Spans.length->au (tbl h) (nth h.Spans k).Page=nth (tbl h).Entries (nth h.Spans k).Page.toNat:=λk w=>by
   have X:=aC (Q.sok _ (am w));have Y:=y _ (dJ (la:=h.Larges) (am w));rw[show(nth h.Spans k).Page=(((nth h.Spans k).Page.toNat:Nat):Int) by omega];exact vB ω
  unfold nw at t;rw[cn]at t;rcases Nat.lt_trichotomy i j with g|H|g
  ·have b:=dI (t j G) g
   unfold kA at b;rw[c i o,c j G,X5,C0]at b;rw[iT];exact b.resolve_left λe=>e M.symm
  ·subst H;exact absurd rfl E
  ·have b:=dI (t i o) g
   unfold kA at b;rw[c i o,c j G,X5,C0]at b;exact b.resolve_left λe=>e M
theorem zf(sp:List ar):cS sp.length (we sp)=true↔sp.Pairwise λa b=>a.Page<b.Page:=by
 rw[cn];refine Iff.trans ?_ (vh (λa b:Int=>a<b) (λa b c=>Int.lt_trans) (λs:ar=>s.Page) sp);unfold we;simp only[C0]
theorem zn(la:List a7):cS la.length (w6 la)=true↔la.Pairwise λa b=>a.Page<b.Page:=by
 rw[cn];refine Iff.trans ?_ (vh (λa b:Int=>a<b) (λa b c=>Int.lt_trans) (λs:a7=>s.Page) la);unfold w6;simp only[C0]
theorem QQ{h:ab}(r:bh h.Spans h.Larges=true)(D:bt (dS h) h.Free=true)(h1:h.Spans.Pairwise λa b=>a.Page<b.Page)(E:h.Larges.Pairwise λa b=>a.Page<b.Page)(c:Pg (tbl h) h.Free h.Spans h.Larges):pages0 h=true/\nw h=true:=by
 have A:=qx.of r;constructor
 ·unfold pages0
  simp only[I0];refine⟨⟨⟨(zf _).2 h1,cn.2 λi o=>?_⟩,Y3.2 λp d=>O0 (c.bnd p d)⟩,cn.2 λp d=>?_⟩
  ·unfold rx
   rw[I0];refine⟨dI ((zn _).2 E) o,cn.2 λk w=>?_⟩;have y:=am o;have L:=aQ (A.lok _ y);obtain⟨p,d⟩ : ∃p:Nat,(nth h.Larges i).Page+(k:Nat)=(p:Nat):=⟨((nth h.Larges i).Page+k).toNat,ω⟩
   have g:(p:Int)∈lpgs (nth h.Larges i) (nth h.Larges i).Pages.toNat:=dn.2 ⟨k,w,d.symm⟩;have l:p<dS h:=by have:=c.bnd _ (fE (sp:=h.Spans) y g);exact Int.ofNat_lt.1 this
   have t:=(c.own p l).2 (fE y g);unfold xx;rw[C0,d,eX l t];refine NR (yo ..) (d9.2 ⟨l,t,rfl⟩) λx C=>?_
   obtain⟨q,rfl⟩:=tP C;obtain⟨F,G,H⟩:=d9.1 C;rw[c.one _ y p g q F G H]
  ·unfold uT
   rw[I0,C0];refine⟨c.own p d,?_⟩;have B:=c.fre p d;rw[<-BN D]at B;cases e:h.Free.any (qN (p:Int))<;>rw[e]at B<;>simpa using B
 ·unfold nw
  refine cn.2 λi o=>cn.2 λj M=>?_
  have n:j<h.Spans.length:=ω
  have u:∀k,k<h.Spans.length->au (tbl h) (nth h.Spans k).Page=nth (tbl h).Entries (nth h.Spans k).Page.toNat:=λk w=>by
   have N:=aC (A.sok _ (am w));have J:=c.bnd _ (dJ (la:=h.Larges) (am w));rw[show(nth h.Spans k).Page=(((nth h.Spans k).Page.toNat:Nat):Int) by omega];exact vB (by unfold dS;unfold tbl at J;omega)
  unfold kA;rw[u i o,u j n,X5,C0];by_cases e:(nth (tbl h).Entries (nth h.Spans i).Page.toNat).Frame=(nth (tbl h).Entries (nth h.Spans j).Page.toNat).Frame
  ·refine .inr (c.mesh _ (am o) _ (am n) (λK=>?_) e)
   have:=gY (f:=(·.Page)) A.nd o n K;omega
  ·exact .inl e
theorem Ej{h:ab}(n:bX h=true)(q:qx h.Spans h.Larges):eO h=true↔(h.Objs.Pairwise λa b=>a.Addr<b.Addr)/\(∀o∈h.Objs,1<=o.Id/\o.Id<=h.Next - 1/\0<=o.Thread/\o.Thread<=h.Caches.length - 1)/\(h.Objs.map (·.Id)).Nodup/\∀o∈h.Objs,Ks h.Spans h.Larges o:=by
 unfold bX at n;rw[C0]at n;refine Iff.trans ?_ (and_congr (vh (λa b:Int=>a<b) (λa b c=>Int.lt_trans) (λo:bK=>o.Addr) h.Objs) (and_congr Iff.rfl (and_congr (yP (λo:bK=>o.Id) h.Objs) Iff.rfl)));unfold eO;rw[eM ω ω,cn];have p:∀i,i<h.Objs.length->(objAt (h.Next - 1) h i=true↔(i=0\/(nth h.Objs (i - 1)).Addr<(nth h.Objs i).Addr)/\(1<=(nth h.Objs i).Id/\(nth h.Objs i).Id<=h.Next - 1/\0<=(nth h.Objs i).Thread/\(nth h.Objs i).Thread<=h.Caches.length - 1)/\(∀o∈h.Objs.take i,o.Id≠(nth h.Objs i).Id)/\Ks h.Spans h.Larges (nth h.Objs i)):=λi d=>by
  unfold objAt gy;rw[I0,I0,C0,KZ q,Bool.not_eq_true',List.any_eq_false];simp only[jA,C0];constructor
  ·rintro⟨⟨⟨e,f⟩,g⟩,j⟩;exact⟨e,f,g,j⟩
  ·rintro⟨e,f,g,j⟩;exact⟨⟨⟨e,f⟩,g⟩,j⟩
 constructor
 ·intro r
  have k:=λi d=>(p i d).1 (r i d)
  refine⟨λi d=>(k i d).1,λo l=>?_,λi d=>(k i d).2.2.1,λo l=>?_⟩
  ·obtain⟨i,d,rfl⟩:=aW l;exact(k i d).2.1
  ·obtain⟨i,d,rfl⟩:=aW l;exact(k i d).2.2.2
 ·rintro⟨e,f,g,j⟩ i d
  exact(p i d).2 ⟨e i d,f _ (am d),g i d,j _ (am d)⟩
theorem wI{h:ab}(b:qx h.Spans h.Larges):gw h=true↔(∀c∈h.Caches,∀k:Nat,k<c.Lists.length->∀a∈nth c.Lists k,jj h.Spans a k)/\(∀x∈h.Quar.Lst,jj h.Spans x.Addr x.Class)/\∀a∈aE h.Mail,jj h.Spans a (-1):=by
 rw[j7];simp only[Y3,eJ,cn,qY,gL,jl,Mo b,and_assoc]
theorem Bm{p:Int}{h:ab} : 0<=eB h p↔∃s∈h.Spans,s.Page=p:=by
 unfold eB;rw[show(0<=dP (iS p) h.Spans)↔(decide (dP (iS p) h.Spans≥0)=true) by simp,lX,X3];simp[iS]
theorem bm.of{h:ab}(n:dM h=true):bm h []:=by
 unfold dM ky at n;simp only[I0]at n;obtain⟨⟨⟨⟨⟨⟨⟨⟨⟨⟨B,t⟩,k⟩,o⟩,u⟩,f⟩,w⟩,C⟩,y⟩,d,e⟩,b⟩:=n;have g:=qx.of k;rw[tq k o]at u;have l:=o;unfold pages0 at l;simp only[I0]at l;unfold cR at f;simp only[I0,C0]at f;unfold iu at e;simp only[I0,C0]at e;obtain⟨⟨p,A⟩,O⟩:=e;obtain⟨D,E,F,G⟩:=(Ej y g).1 d;obtain⟨H,J,K⟩:=(wI g).1 p;unfold jR at w;have q:=cn.1 l.1.1.2;refine⟨B,t,k,(zf _).1 l.1.1.1,(zn _).1 (cn.2 λi L=>?_),QH k t o u,f.1.1,f.1.2,f.2,λx M=>by simpa using Y3.1 w x M,λc N=>Y3.1 C c N,y,D,E,F,G,H,J,K,λa j=>(by cases j),(by simpa using A),λa=>?_,λr=>?_,λr=>?_⟩
 ·have:=q i L
  unfold rx at this;rw[I0]at this;exact this.1
 ·rw[List.nil_append,<-D2 g]
  exact⟨λj=>jQ g d p a j,λj=>qn A (jQ g d p) ω a j⟩
 ·unfold qa at b
  rw[C9 r]at b;simp only[I0,C0,Bm]at b;exact⟨b.1.1,b.1.2,b.2⟩
 ·unfold qa at b
  rw[C8 (by rw[r];simp)]at b;exact b
theorem bm.to{h:ab}(b:bm h []):dM h=true:=by
 have d:=b.L;obtain⟨g,j⟩:=QQ b.lay b.rng b.srs b.srl b.pg;have e:=(Ej b.nums d).2 ⟨b.osr,b.onu,b.oid,b.oow⟩;have f:=(wI d).2 ⟨b.hca,b.hqu,b.hfl⟩;unfold dM ky;simp only[I0];refine⟨⟨⟨⟨⟨⟨⟨⟨⟨⟨b.ker,b.rng⟩,b.lay⟩,g⟩,by rw[tq b.lay g];exact j⟩,?_⟩,?_⟩,Y3.2 b.cach⟩,b.nums⟩,e,?_⟩,?_⟩
 ·unfold cR
  rw[b.mail,b.quar,O0 b.nc];rfl
 ·unfold jR
  exact Y3.2 λx k=>O0 (b.snc x k)
 ·unfold iu
  have i:(holders h).Nodup:=by simpa using b.nd
  have c:∀a,a∈holders h↔a∈ip h.Spans h.Larges:=λa=>by rw[D2 d,<-b.mem a];simp
  have l:(holders h).Perm (ip h.Spans h.Larges):=(List.perm_ext_iff_of_nodup i (nM ..)).2 c;rw[f,O0 i,O0 l.length_eq];rfl
 ·unfold qa
  cases c:h.Meshing with
  | true=>
   obtain⟨n,o,p⟩:=b.job c;rw[C9 rfl,n,O0 (Bm.2 o),O0 (Bm.2 p)];rfl
  | false=>rw[C8 (by simp)];exact b.noj c
end Go.Proofs.YtembpgjjnioagaaGreat.Ab
