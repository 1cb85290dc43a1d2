/- Addresses in use, as the program lists them; a slot's holders counted. No condition. -/
import Derived.Test.YtiopgblagimpmaaGreatKjd
import Derived.WalkKit
import Derived.Lib.SliceRun
import Derived.Deep.LoopGhost
import Derived.Deep.RegionLaw
import Derived.Lib.Walk
import Derived.Sort.WalkB12
import Derived.Shelf.RegionOpenPlain
set_option linter.unusedVariables false
set_option linter.defProp false
set_option linter.unusedSimpArgs false
set_option linter.constructorNameAsVariable false
namespace Go.Proofs.YtiopgblagimpmaaGreat.Ab
open Go.RowKit
set_option maxRecDepth 20000
set_option maxHeartbeats 8000000
def jQ(s:ay)(k:Nat):Int:=16*s.Q+(k:Nat)*csz s.Z
def dU(s:ay)(n:Nat):List Int:=((List.range n).filter λk=>aW s.a7 (k:Nat)).map (jQ s)
variable{n:Nat}{s:ay}
theorem B7(h:aW s.a7 (n:Nat)=true):dU s (n+1)=dU s n++[jQ s n]:=by grind [List.range_succ,dU]
theorem Eb(h:aW s.a7 (n:Nat)=false):dU s (n+1)=dU s n:=by grind [List.range_succ,dU]
theorem rh(s:ay)(n:Nat):(dU s n).length<=n:=by grind [dU]
def fh(sp:List ay):List Int:=sp.flatMap λs=>dU s (slots s.Z).toNat
def live0(sp:List ay)(la:List aA):List Int:=fh sp++la.map λl=>16*l.Q
def nA(sp:List ay)(la:List aA):List Int:=sorted (live0 sp la)
theorem r7(k:Int):0<=slots k/\slots k<=16:=by grind [slots]
def zx{k:Int}(h:0<=k/\k<=3):slots k*csz k=16:=by
 obtain rfl|rfl|rfl|rfl:k=0\/k=1\/k=2\/k=3:=ω
 all_goals decide
variable{i:Nat}{sp:List ay}
theorem yc(h:sp[i]? = some s):fh (sp.take (i+1))=fh (sp.take i)++dU s (slots s.Z).toNat:=by grind [t5,fh]
def qe(s:ay)(k:Nat)(a:bg s=true)(i:(k:Int)<slots s.Z):zzA 339 false [.val (some 3) (ay.enc .U s),.val none [I (k:Nat)]] .one [I (jQ s k)]:=by
 have b:=gc s;have c:=cV s.Z;have g:=f7 s.Z;rw[a]at b;have d:=aL a;have j:=r7 s.Z;rcases cT ⟨d.2.2.1,d.2.2.2⟩ with e|e|e|e<;>rw[e]at c
 all_goals
  refine fO 26 [(3,9,[17,18,19,20,21,22,23,24,25])] Tryz.func339 rfl ?_
  repeat'(first|refine gE ?_|(conv=>whnf);first|with_reducible refine Bf.D (λh=>?_) (λh=>?_)|refine C7 b ?_|refine C7 c ?_|refine C7 g ?_|refine C7 (aF _ 0 _) ?_)
  all_goals exact X0 (λz=>[I z]) (by unfold jQ;rw[e];omega)
theorem wV(sp:List ay)(la:List aA)(c:eY sp)(d:eI la)(a:bA sp la=true):zzA 238 false [.val none (cj .U sp),.val none (cv .U la)] .one (aK .own (nA sp la)):=by
 have D:=c.1;have E:=d.1;have B:=pS sp la c d;rw[a]at B;obtain⟨o,F,-⟩:=dI a;refine fP 56 [(383,[1])] [] Tryz.func238 rfl ?_ (.inr (bQ _))
 repeat'(first|refine gP ?_|(conv=>whnf);first|refine C7 B ?_)
 (conv=>whnf)
 refine CD (ι:=Nat × List Int) (λi=>[(1,.G .one (cv .U la)),(5,.G .one (aK .own i.2)),(16,.G .one (cj .U sp)),(17,.G .one [I (sp.length)]),(18,.G .one [I ((i.1:Nat):Int)])]) (λi=>i.1<=sp.length/\i.2=fh (sp.take i.1)/\i.2.length<=16*i.1) (λi=>sp.length - i.1) ((0,[])) ?_ (⟨W0 _,rfl,W0 _⟩) λi e=>?_
 ·exact wB
 obtain⟨i,S⟩:=i;obtain⟨e,p,G⟩:=e;simp only at e p G |-;by_cases j:i<sp.length
 ·have n:=au j
  have g:bg (nth sp i)=true:=PU o j;have H:=r7 (nth sp i).Z;have q:=eG g
  repeat'(first|refine gE ?_|(conv=>whnf);first|with_reducible refine CB (aa n) ?_)
  (conv=>whnf)
  refine CD (ι:=Nat × List Int) (λk=>[(1,.G .one (cv .U la)),(5,.G .one (aK .own k.2)),(7,.G .box (ay.enc .U (nth sp i))),(8,.G .one [I ((k.1:Nat):Int)]),(16,.G .one (cj .U sp)),(17,.G .one [I (sp.length)]),(18,.G .one [I ((i:Nat):Int)])]) (λk=>k.1<=(slots (nth sp i).Z).toNat/\k.2=S++dU (nth sp i) k.1) (λk=>(slots (nth sp i).Z).toNat - k.1) ((0,S)) ?_ (⟨W0 _,by simp[dU]⟩) λk t=>?_
  ·exact wB
  obtain⟨k,S2⟩:=k;obtain⟨t,b⟩:=t;simp only at t b |-;have J:=rh (nth sp i) k;have h:S2.length=S.length+(dU (nth sp i) k).length:=ψ
  by_cases M:k<(slots (nth sp i).Z).toNat
  ·have u:=gv (nth sp i).a7 (k:Nat) q.2
   cases K:aW (nth sp i).a7 (k:Nat)<;>rw[K]at u
   ·repeat'(first|refine gE ?_|(conv=>whnf);first|refine C7 (f7 _) ?_|refine C7 u ?_)
    ((conv=>whnf);refine CC (k+1,S2) ⟨(by simp only;omega),(by grind [Eb])⟩ (by simp only;omega) ?_;(exact wB))
   repeat'(first|refine gE ?_|(conv=>whnf);first|refine C7 (f7 _) ?_|refine C7 u ?_|refine C7 (qe (nth sp i) k g ω) ?_|refine CQ dL (λr w=>by rw[O1.1 w];rfl) (by simp[bn,eP]) (by simp;omega) (by show _*8<=_;simp;omega) rfl ?_)
   ((conv=>whnf)
    refine CC (k+1,S2++[jQ (nth sp i) k]) ⟨(by simp only;omega),(by grind [B7])⟩ (by simp only;omega) ?_
    (repeat'(first|exact trivial|rfl|exact CG rfl (CG (X0 (C.s dH.own) (by simp[rI])) trivial)|refine CG ?_ ?_)))
  obtain rfl:k=(slots (nth sp i).Z).toNat:=ω
  repeat'(first|refine gE ?_|(conv=>whnf);first|refine C7 (f7 _) ?_)
  ((conv=>whnf);refine CC (i+1,S2) ⟨(by simp only;omega),(by grind [yc]),(by simp only;omega)⟩ (by simp only;omega) ?_;(exact wB))
 obtain rfl:i=sp.length:=ω
 rw[W4]at p
 repeat'(first|refine gE ?_|fail)
 (conv=>whnf)
 refine CD (ι:=Nat × List Int) (λi=>[(5,.G .one (aK .own i.2)),(40,.G .one (cv .U la)),(41,.G .one [I (la.length)]),(42,.G .one [I ((i.1:Nat):Int)])]) (λi=>i.1<=la.length/\i.2=S++(la.take i.1).map (λl=>16*l.Q)) (λi=>la.length - i.1) ((0,S)) ?_ ψ λi e=>?_
 ·exact wB
 obtain⟨i,S2⟩:=i;obtain⟨y,b⟩:=e;simp only at y b |-;have h:S2.length=S.length+i:=ψ
 by_cases j:i<la.length
 ·have n:=au j
  have L:=zy a n
  repeat'(first|refine gE ?_|(conv=>whnf);first|with_reducible refine CB (aa n) ?_|refine CQ dL (λr w=>by rw[O1.1 w];rfl) (by simp[bn,eP]) (by simp;omega) (by show _*8<=_;simp;omega) rfl ?_)
  ((conv=>whnf)
   refine CC (i+1,S2++[16*(nth la i).Q]) ⟨(by simp only;omega),(by grind [t5])⟩ (by simp only;omega) ?_
   (repeat'(first|exact trivial|rfl|exact CG rfl (CG (X0 (C.s dH.own) (by simp[rI];omega)) trivial)|refine CG ?_ ?_)))
 obtain rfl:i=la.length:=ω
 rw[W4]at b
 repeat'(first|refine gE ?_|(conv=>whnf);first|refine CF (PJ S2 ω) (.inl rfl) ?_)
 show _=aK .own (sorted (fh sp++la.map λl=>16*l.Q));rw[<-p,<-b];rfl
def pX(b:List (Int × Value))(L:List Int):Prop:=∀a,mlook b a (.int .i64 0)=.int .i64 (L.count a:Nat)
theorem JR(c:List (Int × Value))(a b:Int)(v d:Value):mlook (mput c a v) b d=if a=b then v else mlook c b d:=by
 induction c with
 | nil=>grind [mput,mlook]
 | cons p c e=>
  grind [mput,mlook]
def inc(b:List (Int × Value))(L:List Int)(a:Int):List (Int × Value):=mput b a (.int .i64 ((L.count a:Nat)+1))
def Ky:pX [] []:=λ_=>rfl
theorem p9{d:List (Int × Value)}{L:List Int}(h:pX d L)(a:Int):pX (inc d L a) (L++[a]):=λb=>by
 unfold inc;rw[JR,O5];by_cases c:a=b
 ·grind
 rw[C8 c,h b,List.count_singleton,C8 (by simpa using c)];rfl
theorem Bh(h:ac)(d:eY h.H)(e:eI h.M)(b:List (Int × Value))(L:List Int)(a c:Int)(g:pX b L)(n:L.length<=1000000000) :
  zzB 236 false [.val none [I a],.val none [I c],.ptr [.m b],.ptr (ac.enc .U h)] [.val none [I a],.val none [I c],.ptr [.m (inc b L a)],.ptr (ac.enc .U h)] .one [B (fm h a c)]:=by
 have k:=kz h.H h.M a d e;obtain⟨i,-⟩:=qU h.H h.M a;have l:L.count a<=L.length:=List.count_le_length;unfold fm;generalize denotes h.H h.M a=w at k i |-;refine fM 41 [] [] [(0,0),(0,0),(0,0),(0,0)] Tryz.func236 rfl (λu q=>?_)
 repeat'(first|refine gP ?_|(conv=>whnf);first|with_reducible (first|refine Bf.D (λj=>?_) (λj=>?_)|refine Bf.E (λj=>?_) (λj=>?_))|refine Ml.mk (g a) ?_|refine Mu.mk (es':=inc b L a) rfl ?_|refine C7 k ?_|refine CL (i (by assumption)).1 (aa (au (i (by assumption)).2)) ?_)
 all_goals
  refine CK rfl ?_ ?_
  ·exact X0 (λz=>[B z]) (ψ)
  exact wB
set_option maxHeartbeats 8000000
def so(h:ac)(a:aO):Bool:=jH h a&&decide (a.b2<=h.b0)
def m8(h:ac):List Int:=((cy h++h.a5.a1.map (·.Addr))++aU h.u)++h.R.map (·.Addr)
def jK(h:ac):Bool:=((h.T.all (gt h)&&h.a5.a1.all (so h))&&(aU h.u).all (mZ h))&&(nA h.H h.M).all λa=>decide ((m8 h).count a=1)
variable{h:ac}
theorem P4(h1:h.T.all (gt h)=false):jK h=false:=by grind [jK]
theorem HV(h1:h.a5.a1.all (so h)=false):jK h=false:=by grind [jK]
theorem NN(h1:(aU h.u).all (mZ h)=false):jK h=false:=by grind [jK]
theorem NP(h1:((nA h.H h.M).all λa=>decide ((m8 h).count a=1))=false):jK h=false:=by grind [jK]
variable{la:List aA}
theorem JA(h1:sp.length<=1048576)(a:la.length<=1048576):(nA sp la).length<=100000000:=by
 have b:∀(l:List ay),(fh l).length<=16*l.length:=by
  intro l
  induction l with
  | nil=>exact W0 _
  | cons s l c=>
   have e:fh (s::l)=dU s (slots s.Z).toNat++fh l:=by grind [fh]
   have d:=r7 s.Z
   grind [rh]
 grind [wP,nA,live0]
theorem yj(h:ac)(hs:ac.sml h)(P:bA h.H h.M=true)(G:bT h.u=true)(Z:∀c∈h.T,bF c=true):zzA 82 false [.val (some 24) (ac.enc .U h)] .one [B (jK h)]:=by
 obtain⟨-,-,p,r,hso,hsc,hsm,hsq,-⟩:=hs;have hlo:h.R.length<=1048576:=hso.1;have hlc:h.T.length<=1048576:=hsc.1;have hlq:h.a5.a1.length<=1048576:=hsq.1;have hfl:=AY G;have t:jK h=false->[B false]=[B (jK h)]:=λe=>by rw[e]
 refine fP 114 [(236,[0,0,2,2])] [] Tryz.func82 rfl ?_
 repeat'(first|refine gP ?_|fail)
 (conv=>whnf)
 refine CD (ι:=Nat × List (Int × Value) × List Int) (λi=>[(1,.G .box (ac.enc .U h)),(3,.G .box [.m i.2.1]),(4,.fn 236 [3,1]),(22,.G .one (oh .U h.T)),(23,.G .one [I (h.T.length)]),(24,.G .one [I ((i.1:Nat):Int)])]) (λi=>i.1<=h.T.length/\pX i.2.1 i.2.2/\i.2.2=((h.T.take i.1).flatMap λc=>c.X.flatten)/\(h.T.take i.1).all (gt h)=true/\i.2.2.length<=32*i.1) (λi=>h.T.length - i.1) ((0,[],[])) ?_ (⟨W0 _,Ky,rfl,rfl,W0 _⟩) λi hi=>?_
 ·exact wB
 obtain⟨i,es,L⟩:=i;obtain⟨hi,Q,hL,ai,hb⟩:=hi;simp only at hi Q hL ai hb |-;by_cases li:i<h.T.length
 ·have W:=au li
  obtain⟨h4,h8⟩:=Ff (Z _ (ax li))
  repeat'(first|refine gE ?_|(conv=>whnf);first|with_reducible refine CB (aa W) ?_)
  (conv=>whnf)
  refine CD (ι:=Nat × List (Int × Value) × List Int) (λk=>[(1,.G .box (ac.enc .U h)),(3,.G .box [.m k.2.1]),(4,.fn 236 [3,1]),(22,.G .one (oh .U h.T)),(23,.G .one [I (h.T.length)]),(24,.G .one [I ((i:Nat):Int)]),(29,.G .one (jq .U (nth h.T i).X)),(30,.G .one [I ((nth h.T i).X.length)]),(31,.G .one [I ((k.1:Nat):Int)])]) (λk=>k.1<=(nth h.T i).X.length/\pX k.2.1 k.2.2/\k.2.2=L++((nth h.T i).X.take k.1).flatten/\dv k.1 (vV h (nth h.T i))=true/\k.2.2.length<=L.length+8*k.1) (λk=>(nth h.T i).X.length - k.1) ((0,es,L)) ?_ (⟨W0 _,Q,by simp,rfl,by simp⟩) λk hk=>?_
  ·exact wB
  obtain⟨k,es3,X⟩:=k;obtain⟨hk,F,R,ak,hb3⟩:=hk;simp only at hk F R ak hb3 |-;by_cases lk:k<(nth h.T i).X.length
  ·have hy:=au lk
   have hl8:=h8 _ (ax lk)
   repeat'(first|refine gE ?_|(conv=>whnf);first|with_reducible (first|refine CB (aa W) ?_|refine CB (aa hy) ?_))
   (conv=>whnf)
   refine CD (ι:=Nat × List (Int × Value) × List Int) (λj=>[(1,.G .box (ac.enc .U h)),(3,.G .box [.m j.2.1]),(4,.fn 236 [3,1]),(7,.G .one [I ((k:Nat):Int)]),(22,.G .one (oh .U h.T)),(23,.G .one [I (h.T.length)]),(24,.G .one [I ((i:Nat):Int)]),(29,.G .one (jq .U (nth h.T i).X)),(30,.G .one [I ((nth h.T i).X.length)]),(31,.G .one [I ((k:Nat):Int)]),(36,.G .one (aK .U (nth (nth h.T i).X k))),(37,.G .one [I ((nth (nth h.T i).X k).length)]),(38,.G .one [I ((j.1:Nat):Int)])]) (λj=>j.1<=(nth (nth h.T i).X k).length/\pX j.2.1 j.2.2/\j.2.2=X++(nth (nth h.T i).X k).take j.1/\((nth (nth h.T i).X k).take j.1).all (λa=>fm h a (k:Nat))=true) (λj=>(nth (nth h.T i).X k).length - j.1) ((0,es3,X)) ?_ ψ λj hj=>?_
   ·exact wB
   obtain⟨j,es4,S⟩:=j;obtain⟨hj,l,T,Y⟩:=hj;simp only at hj l T Y |-;have hl4:S.length=X.length+j:=ψ
   by_cases lj:j<(nth (nth h.T i).X k).length
   ·have d:=au lj
    have b:=Bh h p r es4 S (nth (nth (nth h.T i).X k) j) (k:Nat) l ω;cases o:fm h (nth (nth (nth h.T i).X k) j) (k:Nat)<;>rw[o]at b
    ·repeat'(first|refine gE ?_|(conv=>whnf);first|with_reducible refine CB (aa d) ?_|refine CF (b) (.inl rfl) ?_)
     exact t (P4 (kR W (by unfold gt;exact dm lk (kR d o))))
    repeat'(first|refine gE ?_|(conv=>whnf);first|with_reducible refine CB (aa d) ?_|refine CF (b) (.inl rfl) ?_)
    ((conv=>whnf)
     refine CC (j+1,inc es4 S (nth (nth (nth h.T i).X k) j),S++[nth (nth (nth h.T i).X k) j]) ⟨(by simp only;omega),p9 l _,(by grind [t5]),dO d Y o⟩ (by simp only;omega) ?_
     (exact wA))
   obtain rfl:j=(nth (nth h.T i).X k).length:=ω
   rw[W4]at T Y
   repeat'(first|refine gE ?_|fail)
   ((conv=>whnf);refine CC (k+1,es4,S) ⟨(by simp only;omega),l,(by grind [GB]),cK ak Y,(by simp only;omega)⟩ (by simp only;omega) ?_;(exact wB))
  obtain rfl:k=(nth h.T i).X.length:=ω
  rw[W4]at R
  repeat'(first|refine gE ?_|fail)
  ((conv=>whnf);refine CC (i+1,es3,X) ⟨(by simp only;omega),F,(by grind [Fa]),dO W ai ak,(by simp only;omega)⟩ (by simp only;omega) ?_;(exact wB))
 obtain rfl:i=h.T.length:=ω
 rw[W4]at hL ai
 repeat'(first|refine gE ?_|fail)
 (conv=>whnf)
 refine CD (ι:=Nat × List (Int × Value) × List Int) (λq=>[(1,.G .box (ac.enc .U h)),(3,.G .box [.m q.2.1]),(4,.fn 236 [3,1]),(52,.G .one (dA .U h.a5.a1)),(53,.G .one [I (h.a5.a1.length)]),(54,.G .one [I ((q.1:Nat):Int)])]) (λq=>q.1<=h.a5.a1.length/\pX q.2.1 q.2.2/\q.2.2=L++(h.a5.a1.take q.1).map (·.Addr)/\(h.a5.a1.take q.1).all (so h)=true) (λq=>h.a5.a1.length - q.1) ((0,es,L)) ?_ ψ λq u=>?_
 ·exact wB
 obtain⟨q,es5,H⟩:=q;obtain⟨w,y,E,aq⟩:=u;simp only at w y E aq |-;have hl5:H.length=L.length+q:=ψ
 by_cases U:q<h.a5.a1.length
 ·have d:=au U
  have b:=Bh h p r es5 H (nth h.a5.a1 q).Addr (nth h.a5.a1 q).Z y ω;cases o:fm h (nth h.a5.a1 q).Addr (nth h.a5.a1 q).Z<;>rw[o]at b
  ·repeat'(first|refine gE ?_|(conv=>whnf);first|with_reducible (first|refine CB (aa d) ?_|refine Bf.D (λu=>?_) (λu=>?_))|refine CF (b) (.inl rfl) ?_)
   all_goals exact t (HV (kR d (by unfold so jH;rw[o];rfl)))
  repeat'(first|refine gE ?_|(conv=>whnf);first|with_reducible (first|refine CB (aa d) ?_|refine Bf.D (λu=>?_) (λu=>?_))|refine CF (b) (.inl rfl) ?_)
  all_goals first
   |exact t (HV (kR d (by unfold so jH;rw[o,U0 ω];rfl)))
   | ((conv=>whnf)
      refine CC (q+1,inc es5 H (nth h.a5.a1 q).Addr,H++[(nth h.a5.a1 q).Addr]) ⟨(by simp only;omega),p9 y _,(by simp only;rw[E,t5,d,z5,v5];rfl),dO d aq (by unfold so jH;rw[o,O0 ω];rfl)⟩ (by simp only;omega) ?_
      (exact wA))
 obtain rfl:q=h.a5.a1.length:=ω
 rw[W4]at E aq
 repeat'(first|refine gE ?_|(conv=>whnf);first|refine C7 (zh h.u hsm) ?_)
 (conv=>whnf)
 refine CD (ι:=Nat × List (Int × Value) × List Int) (λq=>[(1,.G .box (ac.enc .U h)),(3,.G .box [.m q.2.1]),(4,.fn 236 [3,1]),(75,.G .one (aK .own (aU h.u))),(76,.G .one [I ((aU h.u).length)]),(77,.G .one [I ((q.1:Nat):Int)])]) (λq=>q.1<=(aU h.u).length/\pX q.2.1 q.2.2/\q.2.2=H++(aU h.u).take q.1/\((aU h.u).take q.1).all (mZ h)=true) (λq=>(aU h.u).length - q.1) ((0,es5,H)) ?_ ψ λq u=>?_
 ·exact wB
 obtain⟨q,es6,J⟩:=q;obtain⟨w,C,K,aq6⟩:=u;simp only at w C K aq6 |-;have hl6:J.length=H.length+q:=ψ
 by_cases U:q<(aU h.u).length
 ·have d:=au U
  have b:=Bh h p r es6 J (nth (aU h.u) q) (-1) C ω;cases o:fm h (nth (aU h.u) q) (-1)<;>rw[o]at b
  ·repeat'(first|refine gE ?_|(conv=>whnf);first|with_reducible refine CB (aa d) ?_|refine CE rfl (aa d) rfl ?_|refine CF (b) (.inl rfl) ?_)
   exact t (NN (kR d o))
  repeat'(first|refine gE ?_|(conv=>whnf);first|with_reducible refine CB (aa d) ?_|refine CE rfl (aa d) rfl ?_|refine CF (b) (.inl rfl) ?_)
  ((conv=>whnf)
   refine CC (q+1,inc es6 J (nth (aU h.u) q),J++[nth (aU h.u) q]) ⟨(by simp only;omega),p9 C _,(by grind [t5]),dO d aq6 o⟩ (by simp only;omega) ?_
   (exact wA))
 obtain rfl:q=(aU h.u).length:=ω
 rw[W4]at K aq6
 repeat'(first|refine gE ?_|fail)
 (conv=>whnf)
 refine CD (ι:=Nat × List (Int × Value) × List Int) (λq=>[(1,.G .box (ac.enc .U h)),(3,.G .box [.m q.2.1]),(87,.G .one (np .U h.R)),(88,.G .one [I (h.R.length)]),(89,.G .one [I ((q.1:Nat):Int)])]) (λq=>q.1<=h.R.length/\pX q.2.1 q.2.2/\q.2.2=J++(h.R.take q.1).map (·.Addr)) (λq=>h.R.length - q.1) ((0,es6,J)) ?_ ψ λq u=>?_
 ·exact wB
 obtain⟨q,es7,M⟩:=q;obtain⟨w,g,O⟩:=u;simp only at w g O |-;have hl7:M.length=J.length+q:=ψ
 by_cases U:q<h.R.length
 ·have d:=au U
  have hcl:M.count (nth h.R q).Addr<=M.length:=List.count_le_length
  repeat'(first|refine gE ?_|(conv=>whnf);first|with_reducible refine CB (aa d) ?_|refine Ml.mk (g _) ?_|refine Mu.mk (es':=inc es7 M (nth h.R q).Addr) rfl ?_)
  ((conv=>whnf)
   refine CC (q+1,inc es7 M (nth h.R q).Addr,M++[(nth h.R q).Addr]) ⟨(by simp only;omega),p9 g _,(by grind [t5])⟩ (by simp only;omega) ?_
   (exact wA))
 obtain rfl:q=h.R.length:=ω
 rw[W4]at O;have V:M=m8 h:=by rw[O,K,E,hL];rfl
 have hlv:=JA p.1 r.1
 repeat'(first|refine gE ?_|(conv=>whnf);first|refine C7 (wV h.H h.M p r P) ?_)
 (conv=>whnf)
 refine CD (ι:=Nat) (λn=>[(3,.G .box [.m es7]),(103,.G .one (aK .own (nA h.H h.M))),(104,.G .one [I ((nA h.H h.M).length)]),(105,.G .one [I ((n:Nat):Int)])]) (λn=>n<=(nA h.H h.M).length/\((nA h.H h.M).take n).all (λa=>decide ((m8 h).count a=1))=true) (λn=>(nA h.H h.M).length - n) (0) ?_ ψ λn hn=>?_
 ·exact wB
 obtain⟨hn,an⟩:=hn;by_cases ln:n<(nA h.H h.M).length
 ·have d:=au ln
  rw[V]at g
  repeat'(first|refine gE ?_|(conv=>whnf);first|with_reducible (first|refine CB (aa d) ?_|refine Bf.N (λu=>?_) (λu=>?_))|refine CE rfl (aa d) rfl ?_|refine Ml.mk (g _) ?_)
  all_goals first
   |exact t (NP (kR d (U0 ω)))
   | ((conv=>whnf);refine CC (n+1) ⟨ω,dO d an (O0 ω)⟩ ω ?_;(exact wB))
 repeat'(first|refine gE ?_|fail)
 exact X0 (λz=>[B z]) ((by grind [jK]))
set_option maxHeartbeats 8000000
def jG(h:ac):Bool:=(((((((aH h.J&&bC (gn h) h.b)&&bA h.H h.M)&&(pages0 h&&nN h))&&f9 h)&&h.T.all bF)&&(gW h&&jK h))&&dh h)&&yk h
theorem cw(h:ac)(S:ac.sml h):zzA 23 false [.val (some 24) (ac.enc .U h)] .one [B (jG h)]:=by
 have G:=S;obtain⟨n,o,b,g,H,p,q,J,r⟩:=S;have u:FJ h:=n.1.2;have hpn:gn h<=1048576:=u.1;have K:h.R.length<=1048576:=H.1;have L:h.T.length<=1048576:=p.1;have hlb:h.u.S.length<=1048576:=q.1.1;have hlp:h.y.Y.W.length<=1048576:=r;have d:=lU h.J n;have e:=lX (gn h) h.b ω o;have i:=pS h.H h.M b g;have w:=lH h.u q;have M:=oX h.a5 J;cases T:aH h.J<;>rw[T]at d
 ·refine fO 154 [] Tryz.func23 rfl ?_
  repeat'(first|refine gP ?_|(conv=>whnf);first|with_reducible refine Bf.N (λa=>?_) (λa=>?_)|refine C7 d ?_)
  all_goals first
   | exact X0 (λz=>[B z]) ((by unfold jG ;rw[T];simp))
   |(exfalso;omega)
 cases U:bC (gn h) h.b<;>rw[U]at e
 ·refine fO 154 [] Tryz.func23 rfl ?_
  repeat'(first|refine gP ?_|(conv=>whnf);first|with_reducible refine Bf.N (λa=>?_) (λa=>?_)|refine C7 d ?_|refine C7 e ?_)
  all_goals first
   | exact X0 (λz=>[B z]) ((by unfold jG ;rw[U];simp))
   |(exfalso;omega)
 cases F:bA h.H h.M<;>rw[F]at i
 ·refine fO 154 [] Tryz.func23 rfl ?_
  repeat'(first|refine gP ?_|(conv=>whnf);first|with_reducible refine Bf.N (λa=>?_) (λa=>?_)|refine C7 d ?_|refine C7 e ?_|refine C7 i ?_)
  all_goals first
   | exact X0 (λz=>[B z]) ((by unfold jG ;rw[F];simp))
   |(exfalso;omega)
 have j:=AI h b g u o F;cases V:(pages0 h&&nN h)<;>rw[V]at j
 ·refine fO 154 [] Tryz.func23 rfl ?_
  repeat'(first|refine gP ?_|(conv=>whnf);first|with_reducible refine Bf.N (λa=>?_) (λa=>?_)|refine C7 d ?_|refine C7 e ?_|refine C7 i ?_|refine C7 j ?_)
  all_goals first
   | exact X0 (λz=>[B z]) ((by unfold jG ;rw[V];simp))
   |(exfalso;omega)
 cases O:bT h.u<;>rw[O]at w
 ·refine fO 154 [] Tryz.func23 rfl ?_
  repeat'(first|refine gP ?_|(conv=>whnf);first|with_reducible refine Bf.N (λa=>?_) (λa=>?_)|refine C7 d ?_|refine C7 e ?_|refine C7 i ?_|refine C7 j ?_|refine C7 w ?_)
  all_goals first
   | exact X0 (λz=>[B z]) ((by unfold jG f9;rw[O];simp))
   |(exfalso;omega)
 by_cases P:h.T.length=h.u.S.length;rotate_left
 ·refine fO 154 [] Tryz.func23 rfl ?_
  repeat'(first|refine gP ?_|(conv=>whnf);first|with_reducible refine Bf.N (λa=>?_) (λa=>?_)|refine C7 d ?_|refine C7 e ?_|refine C7 i ?_|refine C7 j ?_|refine C7 w ?_)
  all_goals first
   | exact X0 (λz=>[B z]) ((by unfold jG f9;rw[U0 P];simp))
   |(exfalso;omega)
 cases W:gm h.a5<;>rw[W]at M
 ·refine fO 154 [] Tryz.func23 rfl ?_
  repeat'(first|refine gP ?_|(conv=>whnf);first|with_reducible refine Bf.N (λa=>?_) (λa=>?_)|refine C7 d ?_|refine C7 e ?_|refine C7 i ?_|refine C7 j ?_|refine C7 w ?_|refine C7 M ?_)
  all_goals first
   | exact X0 (λz=>[B z]) ((by unfold jG f9;rw[W];simp))
   |(exfalso;omega)
 have hmc:f9 h=true:=by grind [f9]
 refine fO 154 [] Tryz.func23 rfl ?_
 repeat'(first|refine gB ?_|(conv=>whnf);first|with_reducible refine Bf.N (λa=>?_) (λa=>?_)|refine C7 d ?_|refine C7 e ?_|refine C7 i ?_|refine C7 j ?_|refine C7 w ?_|refine C7 M ?_)
 all_goals try(exfalso;omega)
 (conv=>whnf)
 refine CD (ι:=Nat) (λk=>[(1,.G .box (ac.enc .U h)),(57,.G .one (oh .U h.T)),(58,.G .one [I (h.T.length)]),(59,.G .one [I ((k:Nat):Int)])]) (λk=>k<=h.T.length/\(h.T.take k).all bF=true) (λk=>h.T.length - k) (0) ?_ ψ λk X=>?_
 ·exact wB
 obtain⟨X,Y⟩:=X;by_cases Z:k<h.T.length
 ·have Q:=au Z
  have R:=nw (nth h.T k) (p.2 _ (ax Z));cases e8:bF (nth h.T k)<;>rw[e8]at R
  ·repeat'(first|refine gE ?_|(conv=>whnf);first|with_reducible refine CB (aa Q) ?_|refine C7 R ?_)
   exact X0 (λz=>[B z]) ((by grind [jG]))
  repeat'(first|refine gE ?_|(conv=>whnf);first|with_reducible refine CB (aa Q) ?_|refine C7 R ?_)
  ((conv=>whnf);refine CC (k+1) ⟨ω,dO Q Y e8⟩ ω ?_;(exact wB))
 have hca:h.T.all bF=true:=rn ω Y;have l:=DU h b g K L;have c10:=yj h G F O ψ;have c12:=xW h.y r;have c13:=u6 h h.y.Y.a8 b.1;have c14:=u6 h h.y.Y.a6 b.1;cases e9:gW h<;>rw[e9]at l
 ·repeat'(first|refine gE ?_|(conv=>whnf);first|refine C7 l ?_)
  all_goals first
   | exact X0 (λz=>[B z]) ((by unfold jG;rw[e9];simp))
   |(exfalso;omega)
 cases e10:jK h<;>rw[e10]at c10
 ·repeat'(first|refine gE ?_|(conv=>whnf);first|refine C7 l ?_|refine C7 c10 ?_)
  all_goals first
   | exact X0 (λz=>[B z]) ((by unfold jG;rw[e10];simp))
   |(exfalso;omega)
 by_cases hn:dh h=true;rotate_left
 ·have y:dh h=false:=by simpa using hn
  have c:=y;unfold dh at c;rw[S4]at c
  repeat'(first|refine gE ?_|(conv=>whnf);first|with_reducible refine Bf.D (λa=>?_) (λa=>?_)|refine C7 (aF _ _ _) ?_|refine C7 (oe _) ?_|refine C7 l ?_|refine C7 c10 ?_)
  all_goals first
   | exact X0 (λz=>[B z]) ((by unfold jG;rw[y];simp))
   |(exfalso;omega)
 have c:=hn;unfold dh at c;rw[C0]at c;have C:jG h=yk h:=by grind [jG]
 rw[C];unfold yk;cases em:h.q
 ·repeat'(first|refine gE ?_|(conv=>whnf);first|with_reducible (first|refine Bf.D (λa=>?_) (λa=>?_)|refine Bf.E (λa=>?_) (λa=>?_))|refine C7 (aF _ _ _) ?_|refine C7 (oe _) ?_|refine C7 l ?_|refine C7 c10 ?_|refine Bf.f em ?_)
  all_goals first
   | exact X0 (λz=>[B z]) ((by unfold wM;simp only[Bool.false_eq_true,if_false];first|(symm;exact U0 ω)|(rw[T4,beq_iff_eq,C0];omega)))
   |(exfalso;omega)
 cases e12:kq h.y<;>rw[e12]at c12
 all_goals
  repeat'(first|refine gE ?_|(conv=>whnf);first|with_reducible (first|refine Bf.D (λa=>?_) (λa=>?_)|refine Bf.D (λa=>?_) (λa=>?_))|refine C7 (aF _ _ _) ?_|refine C7 (oe _) ?_|refine C7 l ?_|refine C7 c10 ?_|refine C7 c12 ?_|refine C7 c13 ?_|refine C7 c14 ?_|refine Bf.t em ?_)
  all_goals first
   | exact X0 (λz=>[B z]) (ψ)
   |(exfalso;omega)
variable{j:Nat}{α:Type}
def iz[Inhabited α]{xs:List α}{f:α->Int}(e:(xs.map f).Nodup)(b:i<xs.length)(c:j<xs.length)(h:f (nth xs i)=f (nth xs j)):i=j:=by
 have d:=List.pairwise_iff_getElem.1 e;rcases Nat.lt_trichotomy i j with a|rfl|a
 ·have:=d i j (by simpa using b) (by simpa using c) a
  simp only[List.getElem_map]at this;rw[bD (O2 b),bD (O2 c)]at h;exact absurd h this
 ·rfl
 have:=d j i (by simpa using c) (by simpa using b) a;simp only[List.getElem_map]at this;rw[bD (O2 b),bD (O2 c)]at h;omega
theorem bo[Inhabited α]{xs:List α}{x:α}(h:x∈xs):∃i,i<xs.length/\nth xs i=x:=by
 obtain⟨i,a⟩:=List.mem_iff_getElem?.1 h
 grind [bD]
theorem qX:∀{H L:List Int},H.Nodup->(∀x∈H,x∈L)->L.length<=H.length->∀x∈L,x∈H
 | [],L,_,_,b,x,c=>by grind
 | y::H,L,d,f,b,x,c=>by
  have g:y∈L:=ψ
  have a:=List.nodup_cons.1 d;by_cases e:x=y
  ·grind
  refine Y4 _ (qX (L:=L.erase y) a.2 (λz h=>?_) ?_ x ψ)
  all_goals grind
theorem Kv{H L:List Int}(b:L.Nodup)(c:∀x∈H,x∈L):(H.Nodup/\H.length=L.length)↔∀a∈L,H.count a=1:=by grind [qX,List.Perm.length_eq]
variable{p:Int}{l:aA}
theorem dt : p∈lpgs l n↔∃k:Nat,k<n/\p=l.Q+(k:Nat):=by grind [lpgs]
structure nH(sp:List ay)(la:List aA):Prop where
 sok:∀s∈sp,bg s=true
 lok:∀l∈la,co l=true
 nd:(sp.map (·.Q)).Nodup
 dis:∀s∈sp,∀l∈la,∀k:Nat,k<l.a3.toNat->s.Q≠l.Q+(k:Nat)
 one:∀i j,i<la.length->j<la.length->∀k k':Nat,k<(nth la i).a3.toNat->k'<(nth la j).a3.toNat->(nth la i).Q+(k:Nat)=(nth la j).Q+(k':Nat)->i=j
theorem nH.of(h:bA sp la=true):nH sp la:=by
 obtain⟨B,C,d⟩:=dI h;unfold pgs at d;rw[List.nodup_append]at d;obtain⟨q,r,t⟩:=d;have u:=List.pairwise_flatMap.1 r;refine⟨ψ,ψ,q,λs D l w k c e=>?_,λi j f g k o c a e=>?_⟩
 ·exact t _ ψ _ (List.mem_flatMap.2 ⟨l,w,dt.2 ⟨k,c,rfl⟩⟩) e
 have p:=List.pairwise_iff_getElem.1 u.2;have y:=bD (O2 f);have A:=bD (O2 g);rw[y]at c e;rw[A]at a e;rcases Nat.lt_trichotomy i j with b|n|b
 ·exact absurd e (p i j f g b _ (dt.2 ⟨k,c,rfl⟩) _ (dt.2 ⟨o,a,rfl⟩))
 ·exact n
 exact absurd e.symm (p j i g f b _ (dt.2 ⟨o,a,rfl⟩) _ (dt.2 ⟨k,c,rfl⟩))
variable{a:Int}
theorem fV(b:bg s=true):dq s a=true↔16*s.Q<=a/\a<=16*s.Q+15:=by grind [dq]
theorem gQ(b:nH sp la)(c:i<sp.length)(h:16*(nth sp i).Q<=a/\a<=16*(nth sp i).Q+15):denotes sp la a=ow i (nth sp i) a:=by
 refine nh c ((fV (b.sok _ (ax c))).2 h) λj z l k=>?_
 cases e:dq z a with
 | false=>rfl
 | true=>
  exfalso;have d:=(U2.1 k).1;have n:=(fV (b.sok z ψ)).1 e;have g:=bD k;subst g;have:=iz (f:=(·.Q)) b.nd c d ω;omega
theorem Q9(b:nH sp la)(h:∀i,i<sp.length->¬(16*(nth sp i).Q<=a/\a<=16*(nth sp i).Q+15)):∀(j:Nat)(z:ay),j<sp.length->sp[j]? = some z->dq z a=false:=by grind [fV,nH.sok,bD]
theorem MK(c:nH sp la)(a:Int):a∈live0 sp la↔a∈ll sp la:=by
 have G:a∈ll sp la↔∃n:Nat,n<512/\oN sp la n=true/\(n:Int)=a:=by grind [ll,EQ]
 rw[G];unfold live0 fh;rw[z3,List.mem_flatMap,z4];constructor
 ·rintro(⟨s,g,C⟩|⟨l,b,rfl⟩)
  ·obtain⟨i,d,rfl⟩:=bo g
   unfold dU at C;obtain⟨k,H,rfl⟩:=z4.1 C;obtain⟨h,J⟩:=C4.1 H;have h:=List.mem_range.1 h;have o:=aL (c.sok _ g);have t:=zx ⟨o.2.2.1,o.2.2.2⟩;have K:=r7 (nth sp i).Z;unfold jQ;have L:0<=(k:Int)*csz (nth sp i).Z/\(k:Int)*csz (nth sp i).Z<=15:=by grind [cT]
   have f:=gQ c d (a:=16*(nth sp i).Q+(k:Nat)*csz (nth sp i).Z) ω;have O:(16*(nth sp i).Q+(k:Nat)*csz (nth sp i).Z - 16*(nth sp i).Q) / csz (nth sp i).Z=(k:Nat)/\(16*(nth sp i).Q+(k:Nat)*csz (nth sp i).Z - 16*(nth sp i).Q) % csz (nth sp i).Z=0:=by grind [cT]
   refine⟨(16*(nth sp i).Q+(k:Nat)*csz (nth sp i).Z).toNat,ω,?_,ω⟩
   grind [oN,ow]
  obtain⟨i,d,rfl⟩:=bo b;have P:=aY (c.lok _ b);have M:=cW (c.lok _ b);have u:=Q9 c (a:=16*(nth la i).Q) λj D Q=>c.dis _ (ax D) _ b 0 ω ω
  have E:bI (nth la i) (16*(nth la i).Q)=true:=by grind [nH.lok,bI]
  have f:=lW (a:=16*(nth la i).Q) (C3 _) u d E λj z D r=>by
   cases e:bI z (16*(nth la i).Q) with
   | false=>rfl
   | true=>
    exfalso;have w:=(U2.1 r).1;have p:=C2 r;have y:=bD r;subst y;have N:=aY (c.lok _ p);have q:=c.lok _ p;unfold co at q;rw[C0]at q;unfold bI at e;rw[I0,C0]at e;have:=c.one i j d w 0 ((nth la i).Q - (nth la j).Q).toNat ω ω ω;omega
  refine⟨(16*(nth la i).Q).toNat,ω,?_,ω⟩
  grind [oN]
 rintro⟨n,R,b,rfl⟩
 cases u:sp.findIdx? (dq · (n:Nat)) with
 | some i=>
  obtain⟨d,A,-⟩:=C6.1 u;have B:=bD (O2 d);rw[<-B]at A;have g:=c.sok _ (ax d);have F:=(fV g).1 A;have o:=aL g;have t:=zx ⟨o.2.2.1,o.2.2.2⟩;have f:denotes sp la (n:Nat)=ow i (nth sp i) (n:Nat):=by grind [denotes]
  rw[wJ f]at b;simp only[I0,T5,C0]at b;simp only[ow]at b;cases E:aW (nth sp i).a7 (((n:Int) - 16*(nth sp i).Q) / csz (nth sp i).Z) with
  | false=>grind
  | true=>
   have r:((n:Int) - 16*(nth sp i).Q) % csz (nth sp i).Z=0:=b.1;refine .inl ⟨nth sp i,ax d,?_⟩;unfold dU;refine z4.2 ⟨(((n:Int) - 16*(nth sp i).Q) / csz (nth sp i).Z).toNat,C4.2 ⟨List.mem_range.2 ?_,?_⟩,?_⟩
   all_goals grind [cT,jQ]
 | none=>
  cases F:la.findIdx? (bI · (n:Nat)) with
  | some i=>
   obtain⟨d,A,-⟩:=C6.1 F;have f:denotes sp la (n:Nat) = ⟨3,i,0,(n:Nat) - 16*(nth la i).Q⟩:=by grind [denotes]
   rw[wJ f]at b
   grind [ax]
  | none=>
   have f:denotes sp la (n:Nat) = ⟨0,0,0,0⟩:=by grind [denotes]
   rw[wJ f]at b;simp at b
theorem vz(b:nH sp la)(c:(denotes sp la a).c4=0)(f:(denotes sp la a).b1=1\/(denotes sp la a).b1=3):a∈ll sp la:=by
 have l:0<=a/\a<512:=by
  unfold denotes at c f;cases g:sp.findIdx? (dq · a) with
  | some i=>
   obtain⟨d,j,-⟩:=C6.1 g;have h:=List.getElem_mem d;have e:=(fV (b.sok _ h)).1 j;have k:=aL (b.sok _ h);omega
  | none=>
   rw[g]at c f;cases e:la.findIdx? (bI · a) with
   | some i=>
    obtain⟨d,-⟩:=C6.1 e;rw[e]at c;have n:=aY (b.lok _ (ax d))
    grind
   | none=>grind
 have k:((a.toNat:Nat):Int)=a:=ω
 grind [ll,EQ,oN]
theorem uf(sp:List ay)(la:List aA):(ll sp la).Nodup:=by
 unfold ll EQ List.Nodup;rw[List.pairwise_map]
 grind [List.Pairwise.imp,List.nodup_range]
variable{c:Int}
theorem te(b:nH h.H h.M)(d:fm h a c=true):a∈ll h.H h.M:=by grind [vz,fm]
variable{o:bc}
theorem Mz(a:nH h.H h.M)(b:ky h o=true):o.Addr∈ll h.H h.M:=by grind [vz,ky]
theorem Gk(h:ac)(a:Int):(m8 h).count a=(holders h).count a:=by grind [m8,holders]
theorem nR(h:ac):rE h=true↔(h.T.all (gt h)=true/\h.a5.a1.all (jH h)=true)/\(aU h.u).all (mZ h)=true:=by grind [rE]
theorem rP(f:nH h.H h.M)(g:gW h=true)(j:rE h=true):∀a∈holders h,a∈ll h.H h.M:=by
 obtain⟨⟨n,p⟩,q⟩:=(nR h).1 j;intro a b;unfold holders at b;simp only[z3]at b;rcases b with((b|b)|b)|b
 ·obtain⟨o,d,rfl⟩:=z4.1 b
  obtain⟨i,r,rfl⟩:=bo d;have e:=f8 g r
  grind [Mz,objAt]
 ·unfold cy at b
  obtain⟨c,t,b⟩:=List.mem_flatMap.1 b;obtain⟨l,u,b⟩:=List.mem_flatten.1 b;obtain⟨k,w,rfl⟩:=bo u;have e:=Z3.1 n c t;unfold gt at e;have A:=Z3.1 (show(nth c.X k).all _=true from f8 e w) a b
  grind [te]
 ·obtain⟨x,y,rfl⟩:=z4.1 b
  exact te f (Z3.1 p x y)
 exact te f (Z3.1 q a b)
theorem K8(b:bA h.H h.M=true)(c:gW h=true):(pf h&&DN h)=jK h:=by
 have d:=nH.of b;have e:(pf h=true/\h.a5.a1.all (jH h)=true)↔h.a5.a1.all (so h)=true:=by grind [pf,so]
 have f:jK h=true↔((h.T.all (gt h)=true/\h.a5.a1.all (so h)=true)/\(aU h.u).all (mZ h)=true)/\∀a∈ll h.H h.M,(holders h).count a=1:=by
  unfold jK;simp only[I0];refine and_congr Iff.rfl ?_;simp only[Z3,C0,Gk]
  grind [List.mem_mergeSort,MK,nA,sorted]
 grind [nR,Kv,uf,rP,DN]
theorem je(s t:ay):meshable s t=meshable t s:=by grind [meshable]
variable{f:Int}{t:aN}
theorem ec{p:Nat} : (p:Int)∈pagesOn t f↔p<t.K.length/\(nth t.K p).o≠0/\(nth t.K p).e=f:=by grind [pagesOn,jA,Ns]
theorem uI{q:Int}(h:q∈pagesOn t f):∃p:Nat,q=(p:Nat):=by grind [pagesOn,jA]
theorem rA(a:pages0 h=true):(∀i,i<h.M.length->∀k:Nat,k<(nth h.M i).a3.toNat->(b6 h ((nth h.M i).Q+(k:Nat))).length=1)/\(∀p∈pgs h.H h.M,p<gn h)/\∀p:Nat,p<gn h->((nth (tbl h).K p).o≠0↔(p:Int)∈pgs h.H h.M):=by grind [f8,pages0,sG,zt,BD]
theorem A9{p:Nat}(a:p<gn h):ar (tbl h) (p:Nat)=nth (tbl h).K p:=lS a
theorem eK{p:Nat}(a:p<gn h)(b:(nth (tbl h).K p).o≠0):b6 h (p:Nat)=pagesOn (tbl h) (nth (tbl h).K p).e:=by grind [A9,b6,tbl]
theorem sF(g:nH h.H h.M)(c:j<h.H.length):jm h (nth h.H j).Q=(j:Nat):=by
 unfold jm;refine ep (au c) (by unfold mM;simp) λk z i d=>?_
 have a:=bD d;have b:=(U2.1 d).1;subst a;unfold mM;refine U0 λe=>?_
 have:=iz (f:=(·.Q)) g.nd b c e;omega
theorem tO(w:bA h.H h.M=true)(N:pages0 h=true):Mb h=nN h:=by
 have E:=nH.of w;obtain⟨O,P,Q⟩:=rA N;have o:∀i,i<h.H.length->∃p:Nat,(nth h.H i).Q=(p:Nat)/\p<gn h/\(nth (tbl h).K p).o≠0:=λi r=>by
  have Y:=aL (E.sok _ (ax r));have R:(nth h.H i).Q∈pgs h.H h.M:=by grind [ax,pgs]
  have c:=P _ R;refine⟨(nth h.H i).Q.toNat,ω,ω,?_⟩
  grind
 rw[T4];unfold Mb nN;rw[cu,cu];constructor
 ·intro F i r
  rw[cu];intro j G;have y:j<h.H.length:=ω
  unfold lT;rw[T5,C0];by_cases d:(ar (tbl h) (nth h.H i).Q).e=(ar (tbl h) (nth h.H j).Q).e
  ·right
   obtain⟨p,e,a,f⟩:=o i r;obtain⟨q,A,b,g⟩:=o j y;have n:=Z3.1 (F i r);rw[e,A,A9 a,A9 b]at d;have S:(q:Int)∈b6 h (nth h.H i).Q:=by
    rw[e,eK a f];exact ec.2 ⟨b,g,d.symm⟩
   have t:=n _ S;unfold Hq at t;rw[<-A,sF E y]at t;rw[T5,I0,C0]at t;rcases t with t|t
   ·omega
   simpa using t.2
  exact .inl d
 intro B i r;rw[Z3];intro q C;obtain⟨p,e,a,f⟩:=o i r;have T:=C;rw[e,eK a f]at C;obtain⟨D,rfl⟩:=uI C;obtain⟨b,g,H⟩:=ec.1 C;have u:=(Q D b).1 g;unfold pgs at u;rw[z3,z4,List.mem_flatMap]at u;rcases u with⟨s,F,J⟩|⟨l,U,K⟩
 ·obtain⟨j,G,rfl⟩:=bo F
  unfold Hq;rw[<-J,sF E G];rw[T5,I0,C0,C0];have d:(ar (tbl h) (nth h.H i).Q).e=(ar (tbl h) (nth h.H j).Q).e:=by grind [A9]
  rcases Nat.lt_trichotomy j i with c|V|c
  ·have n:=f8 (B i r) c
   unfold lT at n
   simp_all
  ·omega
  have n:=f8 (B j G) c;unfold lT at n;rw[T5,C0]at n;exact .inr ⟨ω,by rw[je];simp_all⟩
 exfalso;obtain⟨W,L,rfl⟩:=bo U;obtain⟨k,X,M⟩:=dt.1 K;have n:=O W L k X;rw[<-M,eK b g]at n;have Z:(D:Int)∈pagesOn (tbl h) (nth (tbl h).K D).e:=ψ
 have m2:(p:Int)∈pagesOn (tbl h) (nth (tbl h).K D).e:=ec.2 ⟨a,f,H.symm⟩
 grind [List.length_eq_one_iff,nH.dis,ax]
theorem du(h:ac):jG h=jL h:=by grind [tO,K8,jG,jL,BQ]
def ovl(y r:aC):Bool:=decide (y.At<r.At+r.a4/\r.At<y.At+y.a4)
def mg(r:aC):List aC->Bool->Option (List aC)
 | [],put=>some (if put then [] else [r])
 | y::a,put=>if ovl y r then none else if !put&&decide (y.At > r.At) then(mg r a true).map λt=>r::y::t else(mg r a put).map λt=>y::t
def cZ(out:List aC):List aC->List aC
 | []=>out
 | y::ys=>match out.getLast? with
  | some z=>if z.At+z.a4=y.At then cZ (out.dropLast++[⟨z.At,z.a4+y.a4⟩]) ys else cZ (out++[y]) ys
  | none=>cZ (out++[y]) ys
def iF:List aC->aC->List aC->Bool->Option (List aC)
 | [],r,out,done=>some (if done then out else out++[r])
 | y::ys,r,out,done=>
  if ovl y r then none
  else if y.At+y.a4=r.At then iF ys ⟨y.At,y.a4+r.a4⟩ out done
  else if r.At+r.a4=y.At then iF ys ⟨r.At,r.a4+y.a4⟩ out done
  else if y.At > r.At/\done=false then iF ys r (out++[r,y]) true
  else iF ys r (out++[y]) done
def jl(xs:List aC):Prop:=xs.Pairwise (λa b=>a.At+a.a4<b.At)/\∀y∈xs,1<=y.a4
variable{y:aC}
theorem jl.tail{a:List aC}(h:jl (y::a)):jl a:=⟨(List.pairwise_cons.1 h.1).2,λz b=>h.2 z ψ⟩
theorem jl.head{a:List aC}(h:jl (y::a)):∀z∈a,y.At+y.a4<z.At:=(List.pairwise_cons.1 h.1).1
theorem ja:∀(a out:List aC),jl a->(∀z,out.getLast? = some z->∀y∈a,z.At+z.a4≠y.At)->cZ out a=out++a
 | [],out,_,_=>by simp[cZ]
 | y::a,out,d,e=>by
  have b:cZ (out++[y]) a=out++y::a:=by
   rw[ja a (out++[y]) d.tail λz c w f=>by
     simp at c;subst c;have:=d.head w f;omega]
   simp
  unfold cZ;split
  ·rename_i z c
   rw[C8 (e z c y (Z1 ..))];exact b
  exact b
theorem wK{r:aC} : ∀{a:List aC},jl a->(∀y∈a,r.At+r.a4<=y.At)->mg r a true=some a
 | [],_,_=>rfl
 | y::a,c,b=>by
  have e:=b y (Z1 ..);unfold mg;rw[C8 (by unfold ovl;rw[C0];omega)];simp only[Bool.not_true,Bool.false_and,Bool.false_eq_true,if_false];rw[wK c.tail λz d=>b z (Y4 _ d)]
  rfl
theorem uC{r:aC}(h1:1<=r.a4){a:List aC}(b:jl a)(c:∀y∈a,r.At+r.a4<=y.At):mg r a false=some (r::a):=by
 cases a with
 | nil=>rfl
 | cons y a=>
  grind [wK,jl.tail,mg,ovl]
def oZ{r:aC} : ∀{a out:List aC},jl a->1<=r.a4->(∀y∈a,r.At+r.a4<y.At)->iF a r out true=some (out++a)
 | [],out,_,_,_=>by simp[iF]
 | y::a,out,b,d,c=>by
  have f:=c y (Z1 ..);have g:=b.2 y (Z1 ..);unfold iF;rw[C8 (by unfold ovl;rw[C0];omega),C8 ω,C8 ω,C8 (by simp),oZ b.tail d λz e=>c z (Y4 _ e)];simp
variable{out:List aC}
theorem w5{r:aC}(h1:1<=r.a4){a:List aC}(b:jl a)(c:∀y∈a,r.At+r.a4<=y.At):iF a r out false=some (out++match a with|[]=>[r]|y::zs=>if r.At+r.a4=y.At then⟨r.At,r.a4+y.a4⟩::zs else r::y::zs):=by
 cases a with
 | nil=>simp[iF]
 | cons y a=>
  have g:=c y ψ;have h:=b.2 y ψ;unfold iF;rw[C8 (by grind [ovl]),C8 ω];by_cases e:r.At+r.a4=y.At
  ·rw[CA e]
   simp only[e,if_true];cases a with
   | nil=>simp[iF]
   | cons z a=>
    have i:=b.head z ψ;have j:=b.tail.2 z ψ;unfold iF;simp only;rw[C8 (by grind [ovl]),C8 ω,C8 ω,CA (by simp;omega),oZ b.tail.tail (by simp only;omega) λw d=>by
      have:=b.tail.head w d;simp only;omega]
    simp
  rw[C8 e,CA (by simp;omega),oZ b.tail h1 λz f=>by have:=b.head z f;omega];simp[e]
theorem zN{pages:Int} : ∀{a:List aC}{r:aC}{out:List aC},jl a->1<=r.a4->(∀z,out.getLast? = some z->(∀y∈a,z.At+z.a4<y.At)/\z.At+z.a4<r.At)->(mg r a false).map (cZ out)=iF a r out false
 | [],r,out,_,g,q=>by
  show some (cZ out [r])=some (out++[r]);rw[ja [r] out ⟨List.pairwise_singleton ..,λy u=>by rw[O1.1 u];exact g⟩ ψ]
 | y::a,r,out,c,g,q=>by
  have F:=c.2 y ψ;by_cases l:ovl y r=true
  ·grind [mg,iF]
  ·have i:=l
   unfold ovl at i;rw[C0]at i;by_cases A:r.At+r.a4<=y.At
   ·-- all to the right
    have b:∀w∈y::a,r.At+r.a4<=w.At:=λw f=>by grind [jl.head]
    rw[uC g c b,w5 g c b];show some (cZ out (r::y::a))=_;have hfirst:cZ out (r::y::a)=cZ (out++[r]) (y::a):=by
     conv=>lhs;unfold cZ
     grind
    rw[hfirst];by_cases e:r.At+r.a4=y.At
    ·have:cZ (out++[r]) (y::a)=cZ (out++[⟨r.At,r.a4+y.a4⟩]) a:=by
      conv=>lhs;unfold cZ
      simp[e]
     grind [ja,jl.tail,jl.head]
    grind [ja,jl.head]
   have B:y.At+y.a4<=r.At:=ω
   have n:∀t,cZ out (y::t)=cZ (out++[y]) t:=λt=>by
    conv=>lhs;unfold cZ
    grind [Z1]
   have C:(mg r (y::a) false).map (cZ out)=(mg r a false).map (cZ (out++[y])):=by
    conv=>lhs;unfold mg
    rw[C8 l,C8 (by simp;omega),Option.map_map]
    congr 1
    grind
   rw[C];unfold iF;rw[C8 l];by_cases e:y.At+y.a4=r.At
   ·rw[CA e]
    by_cases o:∃w,a.head? = some w/\ovl w r=true
    ·obtain⟨w,f,D⟩:=o
     cases a with
     | nil=>cases f
     | cons d h=>
      grind [ovl,mg,iF]
    have b:∀w∈a,r.At+r.a4<=w.At:=by
     cases a with
     | nil=>grind
     | cons d h=>
      have G:=c.head d ψ;have H:=c.tail.2 d ψ
      grind [jl.head,jl.tail,ovl]
    rw[uC g c.tail b,w5 (r:=⟨y.At,y.a4+r.a4⟩) (by simp only;omega) c.tail ψ];show some (cZ (out++[y]) (r::a))=_;have E:cZ (out++[y]) (r::a)=cZ (out++[⟨y.At,y.a4+r.a4⟩]) a:=by
     conv=>lhs;unfold cZ
     simp[e]
    rw[E];cases a with
    | nil=>simp[cZ]
    | cons d h=>
     by_cases j:y.At+(y.a4+r.a4)=d.At
     ·have p:cZ (out++[⟨y.At,y.a4+r.a4⟩]) (d::h)=cZ (out++[⟨y.At,y.a4+r.a4+d.a4⟩]) h:=by
       conv=>lhs;unfold cZ
       simp[j]
      rw[p,ja h _ c.tail.tail λz k w f=>by grind [jl.head,jl.tail]];simp[j]
     rw[ja (d::h) _ c.tail λz k w f=>by
       simp at k;subst k;simp only;rcases List.mem_cons.1 f with rfl|f
       · exact j
       have:=c.tail.head w f;have:=b d ψ;have:=c.tail.2 d ψ;omega]
     simp[j]
   rw[C8 e,C8 ω,C8 ω];exact zN (pages:=pages) c.tail g λz k=>by grind [jl.head]
def fH(k:ah)(f:Int):ah:=if(pagesOn k.F.O f).length=0 then {k with F:=⟨⟨k.F.V.W.set f.toNat (List.replicate 16 0),k.F.V.k.set f.toNat false⟩,k.F.O⟩} else k
def lr(k:ah)(p:Int):ah:={k with F:=⟨k.F.V,⟨k.F.O.K.set p.toNat ⟨0,0⟩⟩⟩}
def cr(k:ah)(p:Int):ah:=if(ar k.F.O p).o=0 then k else fH (lr k p) (ar k.F.O p).e
theorem cz[Inhabited α](xs:List α)(i j:Nat)(x:α):nth (xs.set i x) j=if i=j/\j<xs.length then x else nth xs j:=by grind [nth]
theorem mr(k:ah)(f:Int):(fH k f).F.O=k.F.O/\(fH k f).Calls=k.Calls/\(fH k f).j=k.j/\(fH k f).F.V.W.length=k.F.V.W.length/\(fH k f).F.V.k.length=k.F.V.k.length:=by grind [fH]
theorem qV(k:ah)(p:Int):(cr k p).F.O.K.length=k.F.O.K.length/\(cr k p).Calls=k.Calls/\(cr k p).j=k.j:=by grind [mr,cr,lr]
variable{k:ah}
theorem aI : aH k=true↔(∀j,j<k.j.length->0<=nth k.j j)/\cH k.F.V=true/\fS k.F.O k.F.V.k.length=true/\(∀j,j<k.F.V.k.length->nth k.F.V.k j=decide (0<(pagesOn k.F.O (j:Int)).length))/\0<=k.Calls/\k.Calls<=100000/\k.j.length<=40:=by grind [cu,aH,cU,oA]
theorem bh{f:aS} : cH f=true↔1<=f.W.length/\f.W.length<=32/\f.k.length=f.W.length/\∀j,j<f.W.length->ib (nth f.W j) (nth f.k j)=true:=by
 unfold cH;simp only[I0,C0,Z3,and_assoc];refine and_congr Iff.rfl (and_congr Iff.rfl (and_congr_right λb=>⟨λh j a=>?_,λh q c=>?_⟩))
 ·exact h _ (C2 (vr (au a) (au ω)))
 grind [List.mem_iff_getElem?,List.getElem?_zip_eq_some,bD]
theorem bt : fS t a=true↔(∀j,j<t.K.length->kT a (nth t.K j)=true)/\1<=t.K.length/\t.K.length<=32:=by grind [cu,fS]
def ed : 0<(pagesOn t f).length↔∃q,q<t.K.length/\(nth t.K q).o≠0/\(nth t.K q).e=f:=by
 unfold pagesOn jA;rw[C1,List.length_pos_iff_exists_mem];simp[Ns]
theorem bZ(h:aH k=true)(a:(ar k.F.O p).o≠0):0<=p/\p<k.F.O.K.length/\ar k.F.O p=nth k.F.O.K p.toNat/\0<=(ar k.F.O p).e/\(ar k.F.O p).e<k.F.V.k.length:=by
 obtain⟨-,-,b,-⟩:=aI.1 h
 grind [bt,ar,kT]
theorem xD(p:Int)(h:aH k=true):aH (cr k p)=true:=by
 unfold cr;split
 ·exact h
 rename_i r;obtain⟨C,D,E,i,l⟩:=bZ h r;obtain⟨t,u,F,w,y,A,B⟩:=aI.1 h;obtain⟨G,H,J,L⟩:=bh.1 u;obtain⟨M,N,O⟩:=bt.1 F;rw[E]at r i l |-;generalize K:(nth k.F.O.K p.toNat).e=f at i l;have b:∀q,nth (k.F.O.K.set p.toNat ⟨0,0⟩) q=if p.toNat=q then⟨0,0⟩ else nth k.F.O.K q:=λq=>by grind [cz]
 have c:∀j:Int,0<(pagesOn (⟨k.F.O.K.set p.toNat ⟨0,0⟩⟩ : aN) j).length↔∃q,q<k.F.O.K.length/\q≠p.toNat/\(nth k.F.O.K q).o≠0/\(nth k.F.O.K q).e=j:=λj=>by
  rw[ed];simp only[U1,b]
  grind
 have d:∀j:Int,0<(pagesOn k.F.O j).length↔∃q,q<k.F.O.K.length/\(nth k.F.O.K q).o≠0/\(nth k.F.O.K q).e=j:=λj=>ed
 have g:fS ⟨k.F.O.K.set p.toNat ⟨0,0⟩⟩ k.F.V.k.length=true:=by
  rw[bt];simp only[U1,b]
  grind [kT]
 unfold fH;split
 ·rename_i o
  rw[aI];simp only[lr,U1]at o |-;refine⟨t,?_,g,λj n=>?_,y,A,B⟩
  ·rw[bh]
   simp only[U1,cz];refine⟨G,H,J,λj n=>?_⟩;by_cases a:f.toNat=j
   ·rw[CA ⟨a,n⟩,CA ⟨a,ω⟩];decide
   grind
  rw[cz];by_cases a:f.toNat=j
  ·grind
  rw[C8 (λe=>a e.1),w j n];refine decide_eq_decide.2 ?_;rw[d,c]
  grind
 rename_i o;rw[aI];simp only[lr]at o |-;refine⟨t,u,g,λj n=>?_,y,A,B⟩;rw[w j n];refine decide_eq_decide.2 ?_;by_cases a:f=j
 ·grind
 rw[d,c];grind
def bW(h:aH k=true):ah.sml k:=by
 obtain⟨g,b,c,i,l,n,o⟩:=aI.1 h;obtain⟨p,q,t,d⟩:=bh.1 b;obtain⟨u,w,y⟩:=bt.1 c;refine⟨⟨⟨⟨ω,λr f=>?_⟩,(by omega:_<=1048576)⟩,⟨ω,λe _=>trivial⟩⟩,(by omega:_<=1048576)⟩;obtain⟨j,a⟩:=List.mem_iff_getElem?.1 f;have:=d j (U2.1 a).1;rw[bD a]at this;unfold ib at this;simp only[I0,C0]at this;show r.length<=1048576;omega
set_option maxHeartbeats 4000000
variable{K:List (List C)->Prop}{sz by_:Nat}
theorem Ap.cp{e:α->List C}{xs:List α}(d:∀x,(e x).length=sz)(f:∀x,bn (e x)=true)(a:xs.length<=1048576)(b:by_<=1000)(c:K (xs.map e)):Ap true [] (xs.map e) sz by_ K:=
 CQ ψ ψ ψ (by simp;omega) (by simp only[C1,List.length_nil,Z5];exact D8 a b) rfl c
def CR:type_of% @Ap.cp:=@Ap.cp
theorem Fl.cp{e:α->List C}{xs:List α}{X:Prop}(d:∀x,(e x).length=sz)(f:∀x,bn (e x)=true)(a:xs.length<=1048576)(b:by_<=1000)(c:X):Fl (xs.map e) sz by_ X:=
 Fl.mk ψ (by simp;omega) (by simp only[C1];exact D8 a b) c
variable{r:List C}{rows:List (List C)}
theorem Ap.sn{a:List (List C)}(h1:∀r∈rows,r.length=sz)(f:r.length=sz)(b:rows.length+1<=1048576)(c:by_<=1000)(d:a=rows++[r])(e:K a):Ap false rows [r] sz by_ K:=
 CQ h1 ψ ψ (by simp;omega) (D8 (by simpa using b) c) d e
def dE(xs:List Int)(a:xs.length<=1048576):zzA 196 false [.val none (aK .U xs)] .one (aK .own xs):=by
 refine fO 6 [] Tryz.func196 rfl ?_ (.inr (bQ _))
 repeat'(first|refine gP ?_|(conv=>whnf);first|refine CR (λ_=>rfl) (λ_=>rfl) a (by decide) ?_)
 rfl
def Bd(t:aN)(a:aN.sml t):zzA 468 false [.val (some 1) (aN.enc .U t)] .agg (aN.enc .own t):=by
 have b:=a.1;refine fO 8 [] Tryz.func468 rfl ?_ (.inr (aN.enc_fr _))
 repeat'(first|refine gP ?_|(conv=>whnf);first|refine CR (λ_=>rfl) (λ_=>rfl) b (by decide) ?_)
 rfl
def yh(t:aN)(a:aN.sml t):zzA 347 false [.val (some 1) (aN.enc .U t)] .agg (aN.enc .own t):=by
 have b:=a.1;refine fO 8 [] Tryz.func347 rfl ?_ (.inr (aN.enc_fr _))
 repeat'(first|refine gP ?_|(conv=>whnf);first|refine CR (λ_=>rfl) (λ_=>rfl) b (by decide) ?_)
 rfl
theorem aQ{e:α->List C}{l:List α}(h:∀x,(e x).length=n):∀r∈l.map e,r.length=n:=(ψ)
variable{β:Type}
theorem fk[Inhabited α]{xs:List α}{f:α->β}(a:i<xs.length):(xs.take (i+1)).map f=(xs.take i).map f++[f (nth xs i)]:=by grind [t5,au]
def AM(f:aS)(a:aS.sml f):zzA 467 false [.val (some 2) (aS.enc .U f)] .agg (aS.enc .own f):=by
 have g:=a.1.1;have d:f.k.length<=1048576:=a.2;refine fO 30 [(5,10,[17,18,19,20,21,22,23,24,25,26])] Tryz.func467 rfl ?_ (.inr (aS.enc_fr _))
 repeat'(first|refine gP ?_|(conv=>whnf);first|refine CR (λ_=>rfl) (λ_=>rfl) d (by decide) ?_)
 (conv=>whnf)
 refine CD (ι:=Nat) (λi=>[(1,.G .box (aS.enc .U f)),(2,.G .box [.z,.z]),(3,.G .box [.s .own ((f.W.take i).map (aK .own)),.s .own (f.k.map (rB .own))]),(4,.G .one [I ((i:Nat):Int)])]) (λi=>i<=f.W.length) (λi=>f.W.length - i) (0) ?_ (W0 _) λi h=>?_
 ·exact wB
 by_cases b:i<f.W.length
 ·have e:=au b
  have c:(nth f.W i).length<=1048576:=a.1.2 _ (ax b)
  repeat'(first|refine gE ?_|(conv=>whnf);first|with_reducible refine CB (aa e) ?_|refine Fl.cp (λ_=>rfl) (λ_=>rfl) c (by decide) ?_|refine Ap.sn (aQ λ_=>rfl) rfl (by simp;omega) (by decide) (fk b) ?_)
  ((conv=>whnf);refine CC (i+1) ω ω ?_;(exact wB))
 repeat'(first|refine gE ?_|fail)
 obtain rfl:i=f.W.length:=ω
 rw[W4]
 rfl
def n7(f:aS)(a:aS.sml f):zzA 346 false [.val (some 2) (aS.enc .U f)] .agg (aS.enc .own f):=by
 have g:=a.1.1;have d:f.k.length<=1048576:=a.2;refine fO 27 [(5,5,[18,19,20,21,22])] Tryz.func346 rfl ?_ (.inr (aS.enc_fr _))
 repeat'(first|refine gP ?_|(conv=>whnf);first|refine CR (λ_=>rfl) (λ_=>rfl) d (by decide) ?_)
 (conv=>whnf)
 refine CD (ι:=Nat) (λi=>[(2,.G .box [.z,.z]),(3,.G .box [.s .own ((f.W.take i).map (aK .own)),.s .own (f.k.map (rB .own))]),(12,.G .one (jq .U f.W)),(13,.G .one [I (f.W.length)]),(14,.G .one [I ((i:Nat):Int)])]) (λi=>i<=f.W.length) (λi=>f.W.length - i) (0) ?_ (W0 _) λi h=>?_
 ·exact wB
 by_cases b:i<f.W.length
 ·have e:=au b
  have c:(nth f.W i).length<=1048576:=a.1.2 _ (ax b)
  repeat'(first|refine gE ?_|(conv=>whnf);first|with_reducible refine CB (aa e) ?_|refine C7 (dE (nth f.W i) c) ?_|refine Ap.sn (aQ λ_=>rfl) rfl (by simp;omega) (by decide) (fk b) ?_)
  ((conv=>whnf);refine CC (i+1) ω ω ?_;(exact wB))
 repeat'(first|refine gE ?_|fail)
 obtain rfl:i=f.W.length:=ω
 rw[W4]
 rfl
def B2(m:aR)(a:aR.sml m):zzA 349 false [.val (some 3) (aR.enc .U m)] .agg (aR.enc .own m):=by
 refine fO 10 [(1,5,[3,4,5,6,7])] Tryz.func349 rfl ?_ (.inr (aR.enc_fr _))
 repeat'(first|refine gP ?_|(conv=>whnf);first|refine C7 (AM m.V a.1) ?_|refine C7 (Bd m.O a.2) ?_)
 rfl
def iS(m:aR)(a:aR.sml m):zzA 195 false [.val (some 3) (aR.enc .U m)] .agg (aR.enc .own m):=by
 refine fO 10 [(1,5,[3,4,5,6,7])] Tryz.func195 rfl ?_ (.inr (aR.enc_fr _))
 repeat'(first|refine gP ?_|(conv=>whnf);first|refine C7 (n7 m.V a.1) ?_|refine C7 (yh m.O a.2) ?_)
 rfl
def Dp(k:ah)(a:ah.sml k):zzA 203 false [.val (some 5) (ah.enc .U k)] .agg (ah.enc .own k):=by
 have b:k.j.length<=1048576:=a.2;refine fO 13 [(1,9,[3,4,5,6,7,8,9,10,11])] Tryz.func203 rfl ?_ (.inr (CT _))
 repeat'(first|refine gP ?_|(conv=>whnf);first|refine C7 (B2 k.F a.1) ?_|refine Fl.cp (λ_=>rfl) (λ_=>rfl) b (by decide) ?_)
 rfl
def fE(k:ah)(a:ah.sml k):zzA 68 false [.val (some 5) (ah.enc .U k)] .agg (ah.enc .own k):=by
 refine fO 12 [(1,8,[3,4,5,6,7,8,9,10])] Tryz.func68 rfl ?_ (.inr (CT _))
 repeat'(first|refine gP ?_|(conv=>whnf);first|refine C7 (iS k.F a.1) ?_|refine C7 (dE k.j a.2) ?_)
 rfl
def AK(k:ah)(p:Int)(a:aN.sml k.F.O):zzA 485 false [.ptr (ah.enc .U k),.val none [I p]] .one [I (ar k.F.O p).o]:=by
 refine fO 13 [] Tryz.func485 rfl ?_
 repeat'(first|refine gP ?_|(conv=>whnf);first|refine C7 (kQ k.F.O p a) ?_)
 rfl
def gp(k:ah)(b:ah.sml k):zzA 197 false [.val (some 5) (ah.enc .U k)] .one [B (decide (k.Calls≠100000)&&aH k)]:=by
 have c:=lU k b;refine fO 10 [] Tryz.func197 rfl ?_
 repeat'(first|refine gP ?_|(conv=>whnf);first|with_reducible (first|refine Bf.N (λa=>?_) (λa=>?_)|refine Bf.D (λa=>?_) (λa=>?_))|refine C7 (c) ?_)
 all_goals(exact X0 (λz=>[B z]) ((by simp[*])))
theorem sX(h:(pagesOn k.F.O f).length=0):ah.enc .own (fH k f)=[.s .own ((k.F.V.W.map (aK .own)).set f.toNat (aK .own (List.replicate 16 0))),.s .own ((k.F.V.k.map (rB .own)).set f.toNat (rB .own false)),.s .own (k.F.O.K.map (bp.enc .own)),I k.Calls,.s .own (k.j.map (rI .own))]:=by grind [S5,fH,ah.enc]
theorem xI(h:¬(pagesOn k.F.O f).length=0):ah.enc .own (fH k f)=ah.enc .own k:=by grind [fH]
def BB(k:ah)(f:Int)(a:aN.sml k.F.O)(b:0<=f/\f<k.F.V.W.length/\f<k.F.V.k.length) :
  zzB 486 false [.ptr (ah.enc .own k),.val none [I f]] [.ptr (ah.enc .own (fH k f)),.val none [I f]] (.tup []) []:=by
 have c:=au (xs:=k.F.V.W) (i:=f.toNat) ω;have d:=au (xs:=k.F.V.k) (i:=f.toNat) ω;by_cases e:(pagesOn k.F.O f).length=0
 ·rw[sX e]
  refine fM 30 [] [(2,8,[21,22,23,24,25,26,27,28])] [(0,0),(0,0)] Tryz.func486 rfl (λu q=>?_) (.inr trivial)
  repeat'(first|refine gB ?_|(conv=>whnf);first|with_reducible (first|refine CL b.1 (aa d) ?_|refine CL b.1 (aa c) ?_)|refine CJ (gr k.F.O f a) ⟨⟨rfl,aN.enc_fz k.F.O⟩,⟨rfl,rfl⟩,trivial⟩ ?_|refine CN rfl rfl (aa c) rfl (I1 rfl) rfl ?_|refine CN rfl rfl (aa d) rfl (I1 rfl) rfl ?_|refine Mk.mk 16 rfl rfl (by decide) (by decide) rfl ?_)
  refine CK rfl rfl ?_;exact wB
 rw[xI e];refine fM 30 [] [(2,8,[21,22,23,24,25,26,27,28])] [(0,0),(0,0)] Tryz.func486 rfl (λu q=>?_) (.inr trivial)
 repeat'(first|refine gB ?_|(conv=>whnf);first|refine CJ (gr k.F.O f a) ⟨⟨rfl,aN.enc_fz k.F.O⟩,⟨rfl,rfl⟩,trivial⟩ ?_)
 refine CK rfl rfl ?_;exact wB
def ss(k:ah)(f:Int)(a:aN.sml k.F.O)(b:0<=f/\f<k.F.V.W.length/\f<k.F.V.k.length) :
  zzB 198 false [.ptr (ah.enc .own k),.val none [I f]] [.ptr (ah.enc .own (fH k f)),.val none [I f]] (.tup []) []:=by
 have c:=au (xs:=k.F.V.W) (i:=f.toNat) ω;have d:=au (xs:=k.F.V.k) (i:=f.toNat) ω;by_cases e:(pagesOn k.F.O f).length=0
 ·rw[sX e]
  refine fM 30 [] [(2,8,[21,22,23,24,25,26,27,28])] [(0,0),(0,0)] Tryz.func198 rfl (λu q=>?_) (.inr trivial)
  repeat'(first|refine gB ?_|(conv=>whnf);first|with_reducible (first|refine CL b.1 (aa d) ?_|refine CL b.1 (aa c) ?_)|refine CJ (kC k.F.O f a) ⟨⟨rfl,aN.enc_fz k.F.O⟩,⟨rfl,rfl⟩,trivial⟩ ?_|refine CN rfl rfl (aa c) rfl (I1 rfl) rfl ?_|refine CN rfl rfl (aa d) rfl (I1 rfl) rfl ?_|refine Mk.mk 16 rfl rfl (by decide) (by decide) rfl ?_)
  refine CK rfl rfl ?_;exact wB
 rw[xI e];refine fM 30 [] [(2,8,[21,22,23,24,25,26,27,28])] [(0,0),(0,0)] Tryz.func198 rfl (λu q=>?_) (.inr trivial)
 repeat'(first|refine gB ?_|(conv=>whnf);first|refine CJ (kC k.F.O f a) ⟨⟨rfl,aN.enc_fz k.F.O⟩,⟨rfl,rfl⟩,trivial⟩ ?_)
 refine CK rfl rfl ?_;exact wB
theorem w9(k:ah)(p:Int):ah.enc .own (lr k p)=[.s .own (k.F.V.W.map (aK .own)),.s .own (k.F.V.k.map (rB .own)),.s .own ((k.F.O.K.map (bp.enc .own)).set p.toNat (bp.enc .own ⟨0,0⟩)),I k.Calls,.s .own (k.j.map (rI .own))]:=by grind [S5,lr,ah.enc]
theorem wy(h:aH k=true):aN.sml (lr k p).F.O:=by
 obtain⟨a,b,c⟩:=bt.1 (aI.1 h).2.2.1;exact⟨by grind [lr],λ_ _=>trivial⟩
theorem NH(k:ah)(p:Int)(b:aH k=true) :
  zzB 374 false [.ptr (ah.enc .own k),.val none [I p]] [.ptr (ah.enc .own (cr k p)),.val none [I p]] .one [B (decide ((ar k.F.O p).o≠0))]:=by
 have j:=bW b;have c:=AK k p j.1.2;by_cases a:(ar k.F.O p).o=0
 ·rw[show cr k p=k by unfold cr;rw[CA a]]
  refine fM 32 [(486,[2,0])] [] [(0,0),(0,0)] Tryz.func374 rfl (λu q=>?_)
  repeat'(first|refine gB ?_|(conv=>whnf);first|refine CJ (c) ⟨ah.enc_fz k,⟨rfl,rfl⟩,trivial⟩ ?_)
  refine CK rfl ?_ ?_
  ·exact X0 (λz=>[B z]) ((by simp[a]))
  exact wB
 obtain⟨l,r,n,d,o⟩:=bZ b a;have h:=(bh.1 (aI.1 b).2.1).2.2.1;rw[show cr k p=fH (lr k p) (ar k.F.O p).e by unfold cr;rw[C8 a]];have e:=BB (lr k p) (ar k.F.O p).e (wy b) ⟨d,by grind [lr],by grind [lr]⟩;rw[w9]at e;have g:=au (xs:=k.F.O.K) (i:=p.toNat) ω;rw[n]at c e a |-;refine fM 32 [(486,[2,0])] [] [(0,0),(0,0)] Tryz.func374 rfl (λu q=>?_)
 repeat'(first|refine gB ?_|(conv=>whnf);first|with_reducible refine CL l (aa g) ?_|refine CJ (c) ⟨ah.enc_fz k,⟨rfl,rfl⟩,trivial⟩ ?_|refine CN rfl rfl (aa g) rfl (I1 rfl) rfl ?_|refine CE rfl (aa g) rfl ?_|refine CF (e) (.inl rfl) ?_)
 refine CK rfl ?_ ?_
 ·exact X0 (λz=>[B z]) ((by simp[a]))
 exact wB
theorem nP(k:ah)(p:Int)(a:aH k=true)(o:k.Calls≠100000) :
  zzA 69 false [.val (some 5) (ah.enc .U k),.val none [I p]] (.tup [some 5,none]) (ah.enc .own (cr k p)++[B (decide ((ar k.F.O p).o≠0))]):=by
 have d:=bW a;have l:=fE k d;have e:=gp k d;have c:=ee k p d.1.2;rw[a,O0 o]at e;by_cases b:(ar k.F.O p).o=0
 ·rw[show cr k p=k by unfold cr;rw[CA b]]
  rw[U0 (by simpa using b)]at c |-;refine fP 38 [(198,[2,0])] [] Tryz.func69 rfl ?_ (.inr (aD (CT k) ⟨trivial,trivial⟩))
  repeat'(first|refine gP ?_|(conv=>whnf);first|refine C7 (l) ?_|refine C7 (e) ?_|refine C7 (c) ?_)
  all_goals rfl
 obtain⟨q,u,r,g,t⟩:=bZ a b;have n:=(bh.1 (aI.1 a).2.1).2.2.1;rw[show cr k p=fH (lr k p) (ar k.F.O p).e by unfold cr;rw[C8 b]];have h:=ss (lr k p) (ar k.F.O p).e (wy a) ⟨g,by grind [lr],by grind [lr]⟩;rw[w9]at h;have j:=au (xs:=k.F.O.K) (i:=p.toNat) ω;rw[O0 b]at c |-;rw[r]at h |-;refine fP 38 [(198,[2,0])] [] Tryz.func69 rfl ?_ (.inr (aD (CT _) ⟨trivial,trivial⟩))
 repeat'(first|refine gP ?_|(conv=>whnf);first|with_reducible refine CL q (aa j) ?_|refine C7 (l) ?_|refine C7 (e) ?_|refine C7 (c) ?_|refine CN rfl rfl (aa j) rfl (I1 rfl) rfl ?_|refine CE rfl (aa j) rfl ?_|refine CF (h) (.inl rfl) ?_)
 all_goals rfl
def ew(n:Nat):aS:=⟨List.replicate n (List.replicate 16 0),List.replicate n false⟩
def fe(n:Nat):aN:=⟨List.replicate n ⟨0,0⟩⟩
def bV(p f:Nat)(a:List Int):ah:=⟨⟨ew f,fe p⟩,0,a⟩
def eR:aE:=⟨List.replicate 4 []⟩
def dY(n:Nat):aM:=⟨List.replicate n [],List.replicate n []⟩
def vD(p f t:Nat)(lim:Int)(a:List Int):ac:=⟨bV p f a,[⟨0,p⟩],[],[],[],List.replicate t eR,dY t,⟨16,[]⟩,0,0,lim,1,false,⟨⟨0,0,[]⟩,0,0⟩⟩
theorem dn[Inhabited α]{y:α}(a:j<n):nth (List.replicate n y) j=y:=bD ψ
theorem MX(n:Nat)(f:Int):pagesOn (fe n) f=[]:=by grind [List.filter_eq_nil_iff,dn,pagesOn,jA,fe,Ns]
theorem BL{p f:Nat}(c:1<=p/\p<=32)(d:1<=f/\f<=32):aH (bV p f [])=true:=by
 rw[aI];refine⟨λj b=>by grind [bV],bh.2 ⟨by grind [bV,ew],by grind [bV,ew],by grind [bV,ew],λj b=>?_⟩,bt.2 ⟨λj b=>?_,by grind [bV,fe],by grind [bV,fe]⟩,λj b=>?_,by simp[bV],by simp[bV],by simp[bV]⟩
 ·have a:j<f:=by grind [bV,ew]
  rw[show nth (bV p f []).F.V.W j=List.replicate 16 0 from dn a,show nth (bV p f []).F.V.k j=false from dn a]
  decide
 all_goals grind [MX,bV,fe,nth,kT,ew]
theorem vX(w:World)(q:Nat)(a:Array Obj):bw NO w (Sort.grow (w.drewN q) a):=by
 have c:∀b,b<w.heap.size->(Sort.grow (w.drewN q) a).heap[b]? = w.heap[b]?:=λb c=>Sort.heap_grow_old (w.drewN q) a c
 refine⟨rfl,rfl,rfl,ψ,λb h _=>c b h,λb o h _=>?_,λb o h _=>?_⟩
 all_goals grind [Go.World.cell?,Go.World.frozen?,mp]
theorem KL(c:Nat)(W:World):Calls Tryz.prog 455 #[.slice none 0 c] W λe g=>∃B q h,e=.returned (.slice B 0 0)/\g=Sort.grow (W.drewN q) h:=by
 have q22:∀(w:World)(a:Option Addr)(n c b d:Nat),(binOp .eql 33 (.slice a n c) (.slice none b d)).run Tryz.prog w=.ok (.bool a.isNone) w:=λw a n c b d=>Lib.run_eql_slice_nil w _ _ a n c b d Tryz.underlying33
 go_enter Tryz.func455,Tryz.ntmps455
 go_wp2
 go_ret
 exact⟨none,0,#[],rfl,by simp[Sort.grow,World.drewN]⟩
theorem G3(a:Addr)(c:Nat)(W:World):Calls Tryz.prog 455 #[.slice (some a) 0 c] W λe g=>∃B q h,e=.returned (.slice B 0 0)/\g=Sort.grow (W.drewN q) h:=by
 have q22:∀(w:World)(a:Option Addr)(n c b d:Nat),(binOp .eql 33 (.slice a n c) (.slice none b d)).run Tryz.prog w=.ok (.bool a.isNone) w:=λw a n c b d=>Lib.run_eql_slice_nil w _ _ a n c b d Tryz.underlying33
 go_enter Tryz.func455,Tryz.ntmps455
 go_wp2
 go_ret
 exact⟨some ⟨W.heap.size,0,none⟩,0,#[.cells #[] 3],rfl,by rw[Sort.alloc_eq_grow];rfl⟩
theorem FZ(xs:List Int)(o:xs.length<=1048576):zzA 455 false [.val none (aK .U xs)] .one (aK .own xs):=by
 by_cases c:xs=[]
 ·subst c
  refine⟨⟨_,Tryz.func455,by kernel_rfl,by kernel_rfl⟩,λw S p t d=>?_⟩
  match p,d with
  | [v],⟨d,_⟩=>
   have b:=bv.rep1 (show bv w S NO none [C.s .U []] v from d);obtain⟨l,g,rfl⟩:=b.slice;have r:Calls Tryz.prog 455 #[.slice l 0 g] w λe n=>∃B q i,e=.returned (.slice B 0 0)/\n=Sort.grow (w.drewN q) i:=by
    cases l with
    | none=>grind [KL]
    | some a=>grind [G3]
   refine r.mono λe n ⟨B,q,i,c,j⟩=>?_
   subst j;exact⟨.slice B 0 0,c,vX w q i,NO,NO,λ_ _ h=>h.elim,λ_ _ h=>h.elim,λ_ _ h=>h.elim,rfl,row1 (.nil _ .own B trivial)⟩
 have k:xs.map (rI .U)≠[]:=by simp_all
 refine fO 8 [] Tryz.func455 rfl ?_ (.inr (bQ _))
 repeat'(first|refine gP ?_|(conv=>whnf);first|refine Nn.mk k ?_|refine CR (λ_=>rfl) (λ_=>rfl) o (by decide) ?_)
 rfl
def pW(p:cB)(a:cB.sml p):zzA 332 false [.val (some 3) (cB.enc .U p)] .agg (cB.enc .own p):=by
 have b:p.W.length<=1048576:=a;refine fO 8 [] Tryz.func332 rfl ?_ (.inr (cB.enc_fr _))
 repeat'(first|refine gP ?_|(conv=>whnf);first|refine C7 (FZ p.W b) ?_)
 rfl
def rx(j:dy)(a:dy.sml j):zzA 185 false [.val (some 5) (dy.enc .U j)] .agg (dy.enc .own j):=by
 refine fO 8 [] Tryz.func185 rfl ?_ (.inr (dy.enc_fr _))
 repeat'(first|refine gP ?_|(conv=>whnf);first|refine C7 (pW j.Y a) ?_)
 rfl
def rR(c:aE)(d:aE.sml c):zzA 204 false [.val (some 1) (aE.enc .U c)] .agg (aE.enc .own c):=by
 have g:=d.1;refine fO 26 [(5,10,[13,14,15,16,17,18,19,20,21,22])] Tryz.func204 rfl ?_ (.inr (aE.enc_fr _))
 repeat'(first|refine gP ?_|fail)
 (conv=>whnf)
 refine CD (ι:=Nat) (λi=>[(1,.G .box (aE.enc .U c)),(2,.G .box [.z]),(3,.G .box [.s .own ((c.X.take i).map (aK .own))]),(4,.G .one [I ((i:Nat):Int)])]) (λi=>i<=c.X.length) (λi=>c.X.length - i) (0) ?_ (W0 _) λi h=>?_
 ·exact wB
 by_cases a:i<c.X.length
 ·have e:=au a
  have b:(nth c.X i).length<=1048576:=d.2 _ (ax a)
  repeat'(first|refine gE ?_|(conv=>whnf);first|with_reducible refine CB (aa e) ?_|refine Fl.cp (λ_=>rfl) (λ_=>rfl) b (by decide) ?_|refine Ap.sn (aQ λ_=>rfl) rfl (by simp;omega) (by decide) (fk a) ?_)
  ((conv=>whnf);refine CC (i+1) ω ω ?_;(exact wB))
 repeat'(first|refine gE ?_|fail)
 obtain rfl:i=c.X.length:=ω
 rw[W4]
 rfl
def fZ(c:aE)(d:aE.sml c):zzA 182 false [.val (some 1) (aE.enc .U c)] .agg (aE.enc .own c):=by
 have g:=d.1;refine fO 23 [(5,5,[14,15,16,17,18])] Tryz.func182 rfl ?_ (.inr (aE.enc_fr _))
 repeat'(first|refine gP ?_|fail)
 (conv=>whnf)
 refine CD (ι:=Nat) (λi=>[(2,.G .box [.z]),(3,.G .box [.s .own ((c.X.take i).map (aK .own))]),(8,.G .one (jq .U c.X)),(9,.G .one [I (c.X.length)]),(10,.G .one [I ((i:Nat):Int)])]) (λi=>i<=c.X.length) (λi=>c.X.length - i) (0) ?_ (W0 _) λi h=>?_
 ·exact wB
 by_cases a:i<c.X.length
 ·have e:=au a
  have b:(nth c.X i).length<=1048576:=d.2 _ (ax a)
  repeat'(first|refine gE ?_|(conv=>whnf);first|with_reducible refine CB (aa e) ?_|refine C7 (dE (nth c.X i) b) ?_|refine Ap.sn (aQ λ_=>rfl) rfl (by simp;omega) (by decide) (fk a) ?_)
  ((conv=>whnf);refine CC (i+1) ω ω ?_;(exact wB))
 repeat'(first|refine gE ?_|fail)
 obtain rfl:i=c.X.length:=ω
 rw[W4]
 rfl
def AS(m:aM)(b:aM.sml m):zzA 205 false [.val (some 2) (aM.enc .U m)] .agg (aM.enc .own m):=by
 have h:=b.1.1;have g:=b.2.1;refine fO 46 [(5,10,[14,15,16,17,18,19,20,21,22,23]),(9,10,[33,34,35,36,37,38,39,40,41,42])] Tryz.func205 rfl ?_ (.inr (aM.enc_fr _))
 repeat'(first|refine gP ?_|fail)
 (conv=>whnf)
 refine CD (ι:=Nat) (λi=>[(1,.G .box (aM.enc .U m)),(2,.G .box [.z,.z]),(3,.G .box [.s .own ((m.S.take i).map (bL .own)),.z]),(4,.G .one [I ((i:Nat):Int)])]) (λi=>i<=m.S.length) (λi=>m.S.length - i) (0) ?_ (W0 _) λi j=>?_
 ·exact wB
 by_cases c:i<m.S.length
 ·have d:=au c
  have a:(nth m.S i).length<=1048576:=(b.1.2 _ (ax c)).1
  repeat'(first|refine gE ?_|(conv=>whnf);first|with_reducible refine CB (aa d) ?_|refine Fl.cp (λ_=>rfl) (λ_=>rfl) a (by decide) ?_|refine Ap.sn (aQ λ_=>rfl) rfl (by simp;omega) (by decide) (fk c) ?_)
  ((conv=>whnf);refine CC (i+1) ω ω ?_;(exact wB))
 obtain rfl:i=m.S.length:=ω
 rw[W4]
 repeat'(first|refine gE ?_|fail)
 (conv=>whnf)
 refine CD (ι:=Nat) (λk=>[(1,.G .box (aM.enc .U m)),(2,.G .box [.z,.z]),(3,.G .box [.s .own (m.S.map (bL .own)),.s .own ((m.d.take k).map (aK .own))]),(5,.G .one [I ((k:Nat):Int)])]) (λk=>k<=m.d.length) (λk=>m.d.length - k) (0) ?_ (W0 _) λk l=>?_
 ·exact wB
 by_cases e:k<m.d.length
 ·have d:=au e
  have a:(nth m.d k).length<=1048576:=b.2.2 _ (ax e)
  repeat'(first|refine gE ?_|(conv=>whnf);first|with_reducible refine CB (aa d) ?_|refine Fl.cp (λ_=>rfl) (λ_=>rfl) a (by decide) ?_|refine Ap.sn (aQ λ_=>rfl) rfl (by simp;omega) (by decide) (fk e) ?_)
  ((conv=>whnf);refine CC (k+1) ω ω ?_;(exact wB))
 repeat'(first|refine gE ?_|fail)
 obtain rfl:k=m.d.length:=ω
 rw[W4]
 rfl
def gC(m:aM)(b:aM.sml m):zzA 183 false [.val (some 2) (aM.enc .U m)] .agg (aM.enc .own m):=by
 have h:=b.1.1;have g:=b.2.1;refine fO 41 [(5,6,[16,17,18,19,20,21]),(10,5,[32,33,34,35,36])] Tryz.func183 rfl ?_ (.inr (aM.enc_fr _))
 repeat'(first|refine gP ?_|fail)
 (conv=>whnf)
 refine CD (ι:=Nat) (λi=>[(1,.G .box (aM.enc .U m)),(2,.G .box [.z,.z]),(3,.G .box [.s .own ((m.S.take i).map (bL .own)),.z]),(10,.G .one (xF .U m.S)),(11,.G .one [I (m.S.length)]),(12,.G .one [I ((i:Nat):Int)])]) (λi=>i<=m.S.length) (λi=>m.S.length - i) (0) ?_ (W0 _) λi j=>?_
 ·exact wB
 by_cases c:i<m.S.length
 ·have d:=au c
  have a:(nth m.S i).length<=1048576:=(b.1.2 _ (ax c)).1
  repeat'(first|refine gE ?_|(conv=>whnf);first|with_reducible refine CB (aa d) ?_|refine Fl.cp (λ_=>rfl) (λ_=>rfl) a (by decide) ?_|refine Ap.sn (aQ λ_=>rfl) rfl (by simp;omega) (by decide) (fk c) ?_)
  ((conv=>whnf);refine CC (i+1) ω ω ?_;(exact wB))
 obtain rfl:i=m.S.length:=ω
 rw[W4]
 repeat'(first|refine gE ?_|fail)
 (conv=>whnf)
 refine CD (ι:=Nat) (λk=>[(2,.G .box [.z,.z]),(3,.G .box [.s .own (m.S.map (bL .own)),.s .own ((m.d.take k).map (aK .own))]),(26,.G .one (jq .U m.d)),(27,.G .one [I (m.d.length)]),(28,.G .one [I ((k:Nat):Int)])]) (λk=>k<=m.d.length) (λk=>m.d.length - k) (0) ?_ (W0 _) λk l=>?_
 ·exact wB
 by_cases e:k<m.d.length
 ·have d:=au e
  have a:(nth m.d k).length<=1048576:=b.2.2 _ (ax e)
  repeat'(first|refine gE ?_|(conv=>whnf);first|with_reducible refine CB (aa d) ?_|refine C7 (dE (nth m.d k) a) ?_|refine Ap.sn (aQ λ_=>rfl) rfl (by simp;omega) (by decide) (fk e) ?_)
  ((conv=>whnf);refine CC (k+1) ω ω ?_;(exact wB))
 repeat'(first|refine gE ?_|fail)
 obtain rfl:k=m.d.length:=ω
 rw[W4]
 rfl
def Da(q:b9)(b:b9.sml q):zzA 206 false [.val (some 2) (b9.enc .U q)] .agg (b9.enc .own q):=by
 have a:q.a1.length<=1048576:=b.1;refine fO 10 [(1,6,[3,4,5,6,7,8])] Tryz.func206 rfl ?_ (.inr (b9.enc_fr _))
 repeat'(first|refine gP ?_|(conv=>whnf);first|refine Fl.cp (λ_=>rfl) (λ_=>rfl) a (by decide) ?_|refine CR (λ_=>rfl) (λ_=>rfl) a (by decide) ?_)
 rfl
def lQ(q:b9)(b:b9.sml q):zzA 184 false [.val (some 2) (b9.enc .U q)] .agg (b9.enc .own q):=by
 have a:q.a1.length<=1048576:=b.1;refine fO 10 [(1,6,[3,4,5,6,7,8])] Tryz.func184 rfl ?_ (.inr (b9.enc_fr _))
 repeat'(first|refine gP ?_|(conv=>whnf);first|refine Fl.cp (λ_=>rfl) (λ_=>rfl) a (by decide) ?_|refine CR (λ_=>rfl) (λ_=>rfl) a (by decide) ?_)
 rfl
def Bw(j:dy)(a:dy.sml j):zzA 207 false [.val (some 5) (dy.enc .U j)] .agg (dy.enc .own j):=by
 have b:j.Y.W.length<=1048576:=a;refine fO 11 [] Tryz.func207 rfl ?_ (.inr (dy.enc_fr _))
 repeat'(first|refine gP ?_|(conv=>whnf);first|refine CR (λ_=>rfl) (λ_=>rfl) b (by decide) ?_)
 rfl
def jS(xs:List aC)(a:ge xs):zzA 181 false [.val none (bE .U xs)] .one (bE .own xs):=by
 have b:=a.1;refine fO 6 [] Tryz.func181 rfl ?_ (.inr (jE _))
 repeat'(first|refine gP ?_|(conv=>whnf);first|refine CR (λ_=>rfl) (λ_=>rfl) b (by decide) ?_)
 rfl
def RC(h:ac)(a:C):List C:=[.s .own (h.J.F.V.W.map (aK .own)),.s .own (h.J.F.V.k.map (rB .own)),.s .own (h.J.F.O.K.map (bp.enc .own)),I h.J.Calls,.s .own (h.J.j.map (rI .own)),.s .own (h.b.map (aC.enc .own)),.s .own (h.H.map (ay.enc .own)),.s .own (h.M.map (aA.enc .own)),.s .own (h.R.map (bc.enc .own)),a,.s .U (h.u.S.map (bL .U)),.s .U (h.u.d.map (aK .U)),I h.a5.b7,.s .U (h.a5.a1.map (aO.enc .U)),I h.b5,I h.b0,I h.c1,I h.w,B h.q,I h.y.Y.a8,I h.y.Y.a6,.s .U (h.y.Y.W.map (rI .U)),I h.y.a9,I h.y.w]
def rM:List C:=[.z,.z,.z,I 0,.z,.z,.z,.z,.z,.z,.z,.z,I 0,.z,I 0,I 0,I 0,I 0,B false,I 0,I 0,.z,I 0,I 0]
def Qa(h:ac)(c:ac.sml h):zzA 72 false [.val (some 24) (ac.enc .U h)] .agg (ac.enc .own h):=by
 obtain⟨d,e,g,j,k,b,l,n,o⟩:=c;have p:=e.1;have q:=g.1;have r:=j.1;have t:=k.1;have w:=b.1;refine fO 61 [] Tryz.func72 rfl ?_ (.inr (ac.enc_fr _))
 repeat'(first|refine gP ?_|(conv=>whnf);first|refine C7 (Dp h.J d) ?_|refine CR (λ_=>rfl) (λ_=>rfl) p (by decide) ?_|refine CR (λ_=>rfl) (λ_=>rfl) q (by decide) ?_|refine CR (λ_=>rfl) (λ_=>rfl) r (by decide) ?_|refine CR (λ_=>rfl) (λ_=>rfl) t (by decide) ?_)
 (conv=>whnf)
 refine CD (ι:=Nat) (λi=>[(1,.G .box (RC h (.s .U (h.T.map (aE.enc .U))))),(2,.G .box rM),(3,.G .one ([.s .own ((h.T.take i).map (aE.enc .own))])),(4,.G .one [I ((i:Nat):Int)])]) (λi=>i<=h.T.length) (λi=>h.T.length - i) (0) ?_ (W0 _) λi y=>?_
 ·exact wB
 by_cases a:i<h.T.length
 ·have u:=au a
  repeat'(first|refine gE ?_|(conv=>whnf);first|with_reducible refine CB (aa u) ?_|refine C7 (rR (nth h.T i) (b.2 _ (ax a))) ?_|refine Ap.sn (aQ λ_=>rfl) rfl (by simp;omega) (by decide) (fk a) ?_)
  ((conv=>whnf);refine CC (i+1) ω ω ?_;(exact wB))
 obtain rfl:i=h.T.length:=ω
 rw[W4]
 repeat'(first|refine gE ?_|(conv=>whnf);first|refine C7 (AS h.u l) ?_|refine C7 (Da h.a5 n) ?_|refine C7 (Bw h.y o) ?_)
 rfl
def gF(h:ac)(c:ac.sml h):zzA 62 false [.val (some 24) (ac.enc .U h)] .agg (ac.enc .own h):=by
 obtain⟨d,e,g,j,k,b,l,n,o⟩:=c;have p:=g.1;have q:=j.1;have r:=k.1;have u:=b.1;refine fO 59 [(11,5,[38,39,40,41,42])] Tryz.func62 rfl ?_ (.inr (ac.enc_fr _))
 repeat'(first|refine gP ?_|(conv=>whnf);first|refine C7 (fE h.J d) ?_|refine C7 (jS h.b e) ?_|refine CR (λ_=>rfl) (λ_=>rfl) p (by decide) ?_|refine CR (λ_=>rfl) (λ_=>rfl) q (by decide) ?_|refine CR (λ_=>rfl) (λ_=>rfl) r (by decide) ?_)
 (conv=>whnf)
 refine CD (ι:=Nat) (λi=>[(1,.G .box (ac.enc .U h)),(2,.G .box rM),(3,.G .box (RC h (.s .own ((h.T.take i).map (aE.enc .own))))),(32,.G .one (oh .U h.T)),(33,.G .one [I (h.T.length)]),(34,.G .one [I ((i:Nat):Int)])]) (λi=>i<=h.T.length) (λi=>h.T.length - i) (0) ?_ (W0 _) λi w=>?_
 ·exact wB
 by_cases a:i<h.T.length
 ·have t:=au a
  repeat'(first|refine gE ?_|(conv=>whnf);first|with_reducible refine CB (aa t) ?_|refine C7 (fZ (nth h.T i) (b.2 _ (ax a))) ?_|refine Ap.sn (aQ λ_=>rfl) rfl (by simp;omega) (by decide) (fk a) ?_)
  ((conv=>whnf);refine CC (i+1) ω ω ?_;(exact wB))
 obtain rfl:i=h.T.length:=ω
 rw[W4]
 repeat'(first|refine gE ?_|(conv=>whnf);first|refine C7 (gC h.u l) ?_|refine C7 (lQ h.a5 n) ?_|refine C7 (rx h.y o) ?_)
 rfl
theorem Ap.sm{a:List (List C)}(h1:∀r∈rows,r.length=sz)(e:r.length=sz)(f:rows.length+1<=1073741824)(b:by_<=1000)(c:a=rows++[r])(d:K a):Ap false rows [r] sz by_ K:=
 CQ h1 ψ ψ (by simp;omega) (U4 (Nat.mul_le_mul ω b) (by decide)) c d
theorem Ap.s2{c:List (List C)}{a b:List C}(h1:∀r∈rows,r.length=sz)(g:a.length=sz)(h:b.length=sz)(i:rows.length+2<=1073741824)(d:by_<=1000)(e:c=rows++[a,b])(f:K c):Ap false rows [a,b] sz by_ K:=
 CQ h1 ψ ψ (by simp;omega) (U4 (Nat.mul_le_mul ω d) (by decide)) e f
def tI(y:aC)(a:List aC)(r:aC)(out:List aC)(done:Bool):iF (y::a) r out done=if ovl y r then none
  else if y.At+y.a4=r.At then iF a ⟨y.At,y.a4+r.a4⟩ out done
  else if r.At+r.a4=y.At then iF a ⟨r.At,r.a4+y.a4⟩ out done
  else if y.At > r.At/\done=false then iF a r (out++[r,y]) true
  else iF a r (out++[y]) done:=by rw[iF]
variable{xs:List aC}{pages:Int}
theorem vC(h:bC pages xs=true):jl xs/\∀y∈xs,0<=y.At/\1<=y.a4/\y.At+y.a4<=pages:=by
 unfold bC at h;simp only[I0,C0]at h;have d:∀i,i<xs.length->1<=(nth xs i).a4/\0<=(nth xs i).At/\(nth xs i).At<=pages - (nth xs i).a4:=λi a=>by grind [f8,fR,rangeIn]
 have e:∀i,i+1<xs.length->(nth xs i).At+(nth xs i).a4<(nth xs (i+1)).At:=λi a=>by grind [f8,fR]
 have f:∀j i,i<j->j<xs.length->(nth xs i).At+(nth xs i).a4<(nth xs j).At:=λj=>by
  induction j with
  | zero=>intro i a;omega
  | succ j k=>
   grind
 refine⟨⟨?_,λy g=>?_⟩,λy g=>?_⟩
 ·rw[List.pairwise_iff_getElem]
  intro i j a c b;have:=f j i b c
  rwa [bD (O2 a),bD (O2 c)]at this
 all_goals grind [bo]
theorem gR[Inhabited α]{xs:List α}(a:i<xs.length):xs.drop i=nth xs i::xs.drop (i+1):=by
 rw[List.drop_eq_getElem_cons a,bD (O2 a)]
def bY(pages:Int)(xs:List aC)(r:aC):Option (List aC):=if bC pages xs=true/\rangeIn pages r=true then iF xs r [] false else none
def BW(xs:List aC)(o:Option (List aC)):List C:=bE .own (o.getD xs)++[B o.isSome]
def kM(xs:List aC)(o:Option (List aC)):g9 (BW xs o):=aD (jE _) ⟨trivial,trivial⟩
theorem y7(pages:Int)(xs:List aC)(r:aC)(w:0<=pages/\pages<=1048576)(l:ge xs):zzA 254 false [.val none [I pages],.val none (bE .U xs),.val (some 2) (aC.enc .U r)] (.tup [none,none]) (BW xs (bY pages xs r)):=by
 have L:=l.1;have j:=lX pages xs w l;have n:=xJ pages r w;have o:=jS xs l;cases k:bC pages xs<;>rw[k]at j
 ·rw[show bY pages xs r=none by unfold bY;rw[C8 (by rw[k];simp)]]
  refine fO 111 [] Tryz.func254 rfl ?_ (.inr (kM _ _))
  repeat'(first|refine gP ?_|(conv=>whnf);first|refine C7 (j) ?_|refine C7 (o) ?_)
  rfl
 cases p:rangeIn pages r<;>rw[p]at n
 ·rw[show bY pages xs r=none by unfold bY;rw[C8 (by rw[p];simp)]]
  refine fO 111 [] Tryz.func254 rfl ?_ (.inr (kM _ _))
  repeat'(first|refine gP ?_|(conv=>whnf);first|refine C7 (j) ?_|refine C7 (n) ?_|refine C7 (o) ?_)
  rfl
 rw[show bY pages xs r=iF xs r [] false by unfold bY;rw[CA ⟨k,p⟩]];obtain⟨M,G⟩:=vC k;have H:0<=r.At/\1<=r.a4/\r.At+r.a4<=pages:=by grind [rangeIn]
 refine fO 111 [] Tryz.func254 rfl ?_ (.inr (kM _ _))
 repeat'(first|refine gP ?_|(conv=>whnf);first|refine C7 (j) ?_|refine C7 (n) ?_)
 (conv=>whnf)
 refine CD (ι:=Nat × aC × List aC × Bool) (λq=>[(1,.G .one (bE .U xs)),(5,.G .box (aC.enc .U q.2.1)),(8,.G .one (bE .own q.2.2.1)),(9,.G .one [B (q.2.2.2)]),(25,.G .one (bE .U xs)),(26,.G .one [I (xs.length)]),(27,.G .one [I ((q.1:Nat):Int)])]) (λq=>q.1<=xs.length/\iF (xs.drop q.1) q.2.1 q.2.2.1 q.2.2.2=iF xs r [] false/\(0<=q.2.1.At/\1<=q.2.1.a4/\q.2.1.At+q.2.1.a4<=pages)/\q.2.2.1.length<=2*q.1) (λq=>xs.length - q.1) ((0,r,[],false)) ?_ (⟨W0 _,rfl,H,W0 _⟩) λq c=>?_
 ·exact wB
 obtain⟨i,d,out,done⟩:=q;obtain⟨J,b,e,t⟩:=c;simp only at J b e t |-;by_cases u:i<xs.length
 ·have g:=au u
  have N:=G _ (ax u);rw[gR u]at b;by_cases h:ovl (nth xs i) d=true
  ·rw[<-b]
   rw[tI,CA h];unfold ovl at h;rw[C0]at h
   repeat'(first|refine gE ?_|(conv=>whnf);first|with_reducible (first|refine CB (aa g) ?_|refine Bf.D (λc=>?_) (λc=>?_))|refine C7 (o) ?_)
   rfl
  have a:=b;rw[tI,C8 h]at a;unfold ovl at h;rw[C0]at h;by_cases y:(nth xs i).At+(nth xs i).a4=d.At
  ·rw[CA y]at a
   repeat'(first|refine gB ?_|(conv=>whnf);first|with_reducible (first|refine CB (aa g) ?_|refine Bf.D (λc=>?_) (λc=>?_)))
   ((conv=>whnf);refine CC (i+1,⟨(nth xs i).At,(nth xs i).a4+d.a4⟩,out,done) ⟨(by simp only;omega),a,(by simp only;omega),(by simp only;omega)⟩ (by simp only;omega) ?_;(exact wB))
  rw[C8 y]at a;by_cases F:d.At+d.a4=(nth xs i).At
  ·rw[CA F]at a
   repeat'(first|refine gB ?_|(conv=>whnf);first|with_reducible (first|refine CB (aa g) ?_|refine Bf.D (λc=>?_) (λc=>?_)|refine Bf.E (λc=>?_) (λc=>?_)))
   ((conv=>whnf);refine CC (i+1,⟨d.At,d.a4+(nth xs i).a4⟩,out,done) ⟨(by simp only;omega),a,(by simp only;omega),(by simp only;omega)⟩ (by simp only;omega) ?_;(exact wB))
  rw[C8 F]at a;by_cases K:(nth xs i).At > d.At
  ·cases done with
   | false=>
    rw[CA ⟨K,rfl⟩]at a
    repeat'(first|refine gB ?_|(conv=>whnf);first|with_reducible (first|refine CB (aa g) ?_|refine Bf.D (λc=>?_) (λc=>?_)|refine Bf.E (λc=>?_) (λc=>?_))|refine Ap.s2 (aQ λ_=>rfl) rfl rfl (by simp;omega) (by decide) rfl ?_)
    ((conv=>whnf)
     refine CC (i+1,d,out++[d,nth xs i],true) ⟨(by simp only;omega),a,e,(by simp;omega)⟩ (by simp only;omega) ?_
     (repeat'(first|exact trivial|rfl|exact CG rfl (CG (X0 (C.s dH.own) (by simp[aC.enc])) trivial)|refine CG ?_ ?_)))
   | true=>
    rw[C8 (by simp)]at a
    repeat'(first|refine gB ?_|(conv=>whnf);first|with_reducible (first|refine CB (aa g) ?_|refine Bf.D (λc=>?_) (λc=>?_)|refine Bf.E (λc=>?_) (λc=>?_))|refine Ap.sm (aQ λ_=>rfl) rfl (by simp;omega) (by decide) rfl ?_)
    ((conv=>whnf)
     refine CC (i+1,d,out++[nth xs i],true) ⟨(by simp only;omega),a,e,(by simp;omega)⟩ (by simp only;omega) ?_
     (repeat'(first|exact trivial|rfl|exact CG rfl (CG (X0 (C.s dH.own) (by simp[aC.enc])) trivial)|refine CG ?_ ?_)))
  rw[C8 ω]at a
  repeat'(first|refine gB ?_|(conv=>whnf);first|with_reducible (first|refine CB (aa g) ?_|refine Bf.D (λc=>?_) (λc=>?_)|refine Bf.E (λc=>?_) (λc=>?_))|refine Ap.sm (aQ λ_=>rfl) rfl (by simp;omega) (by decide) rfl ?_)
  ((conv=>whnf)
   refine CC (i+1,d,out++[nth xs i],done) ⟨(by simp only;omega),a,e,(by simp;omega)⟩ (by simp only;omega) ?_
   (repeat'(first|exact trivial|rfl|exact CG rfl (CG (X0 (C.s dH.own) (by simp[aC.enc])) trivial)|refine CG ?_ ?_)))
 obtain rfl:i=xs.length:=ω
 rw[List.drop_length]at b;cases done with
 | false=>
  rw[<-b]
  repeat'(first|refine gE ?_|(conv=>whnf);first|refine Ap.sm (aQ λ_=>rfl) rfl (by simp;omega) (by decide) rfl ?_)
  show [C.s dH.own _,B true]=[C.s dH.own _,B true]
  grind [iF,aC.enc]
 | true=>
  rw[<-b]
  repeat'(first|refine gE ?_|fail)
  rfl
theorem v7[Inhabited α](R:Int->Int->Prop)(n:∀a b c,R a b->R b c->R a c)(f:α->Int)(xs:List α):(∀i,i<xs.length->i=0\/R (f (nth xs (i - 1))) (f (nth xs i)))↔xs.Pairwise (λa b=>R (f a) (f b)):=by
 constructor
 ·intro h
  have l:∀j i,i<j->j<xs.length->R (f (nth xs i)) (f (nth xs j)):=λj=>by
   induction j with
   | zero=>intro i d;omega
   | succ j o=>
    grind
  rw[List.pairwise_iff_getElem];intro i j d k g;have:=l j i g k
  rwa [bD (O2 d),bD (O2 k)]at this
 intro h i d;by_cases e:i=0
 ·exact .inl e
 right
 have:=List.pairwise_iff_getElem.1 h (i - 1) i ω d ω
 rwa [<-bD (O2 (show i - 1<xs.length by omega)),<-bD (O2 d)]at this
theorem z8[Inhabited α](f:α->Int)(xs:List α):(∀i,i<xs.length->∀o∈xs.take i,f o≠f (nth xs i))↔(xs.map f).Nodup:=by
 unfold List.Nodup;rw[List.pairwise_map,List.pairwise_iff_getElem];constructor
 ·intro h i j b a c
  have:=h j a xs[i] (List.mem_take_iff_getElem.2 ψ)
  rwa [bD (O2 a)]at this
 intro h i b o d;obtain⟨j,a,rfl⟩:=List.mem_take_iff_getElem.1 d;rw[bD (O2 b)]
 grind
def eS(s:ay)(a:Int):Prop:=16*s.Q<=a/\a<=16*s.Q+15/\(a - 16*s.Q) % csz s.Z=0/\aW s.a7 ((a - 16*s.Q) / csz s.Z)=true
def iU(sp:List ay)(a c:Int):Prop:=∃s∈sp,eS s a/\(c<0\/s.Z=c)
def Tl(la:List aA)(a z:Int):Prop:=∃l∈la,a=16*l.Q/\l.a2=z
def Ld(sp:List ay)(la:List aA)(o:bc):Prop:=(∃s∈sp,eS s o.Addr/\s.Z=aV o.a2)\/Tl la o.Addr o.a2
def mj(sp:List ay)(la:List aA)(a:Int):Prop:=iU sp a (-1)\/∃l∈la,a=16*l.Q
theorem m0(f:nH sp la)(a:Int):(∃i,i<sp.length/\(16*(nth sp i).Q<=a/\a<=16*(nth sp i).Q+15)/\denotes sp la a=ow i (nth sp i) a)\/((∀s∈sp,¬(16*s.Q<=a/\a<=16*s.Q+15))/\((∃i,i<la.length/\bI (nth la i) a=true/\denotes sp la a = ⟨3,i,0,a - 16*(nth la i).Q⟩)\/((∀l∈la,bI l a=false)/\denotes sp la a = ⟨0,0,0,0⟩))):=by
 cases d:sp.findIdx? (dq · a) with
 | some i=>
  obtain⟨b,c,-⟩:=C6.1 d;rw[<-bD (O2 b)]at c
  grind [fV,nH.sok,ax,denotes]
 | none=>
  have g:=List.findIdx?_eq_none_iff.1 d;refine .inr ⟨λs h j=>?_,?_⟩
  ·grind [fV,nH.sok]
  cases e:la.findIdx? (bI · a) with
  | some i=>
   obtain⟨b,c,-⟩:=C6.1 e;rw[<-bD (O2 b)]at c
   grind [denotes]
  | none=>grind [denotes]
theorem Ly(l:nH h.H h.M) : fm h a c=true↔iU h.H a c:=by
 unfold fm;simp only[I0,T5,C0];constructor
 ·rintro⟨⟨b,f⟩,d⟩
  rcases m0 l a with⟨i,j,k,g⟩|⟨-,⟨i,j,-,g⟩|⟨-,g⟩⟩
  ·rw[g]at b f d
   simp only[ow]at b f d;refine⟨_,ax j,⟨k.1,k.2,f,?_⟩,by simpa using d⟩;cases e:aW (nth h.H i).a7 ((a - 16*(nth h.H i).Q) / csz (nth h.H i).Z) with
   | true=>rfl
   | false=>rw[e]at b;simp at b
  all_goals grind
 rintro⟨s,n,⟨o,p,q,r⟩,d⟩
 grind [bo,gQ,ow]
theorem wY(a:nH sp la)(c:l∈la):(∀s∈sp,¬(16*s.Q<=16*l.Q/\16*l.Q<=16*s.Q+15))/\bI l (16*l.Q)=true/\∀i,i<la.length->bI (nth la i) (16*l.Q)=true->nth la i=l:=by
 have k:=aY (a.lok _ c);have f:=cW (a.lok _ c);refine⟨λs g n=>?_,?_,λi d e=>?_⟩
 ·exact a.dis s g l c 0 ω ω
 ·grind [nH.lok,bI]
 obtain⟨j,h,rfl⟩:=bo c;have o:=aY (a.lok _ (ax d));have b:=a.lok _ (ax d);unfold co at b;rw[C0]at b;unfold bI at e;rw[I0,C0]at e;rw[a.one i j d h ((nth la j).Q - (nth la i).Q).toNat 0 ω ω ω]
theorem Ms(f:nH h.H h.M) : ky h o=true↔Ld h.H h.M o:=by
 unfold ky;simp only[I0,T5,C0];constructor
 ·rintro⟨b,a⟩
  rcases m0 f o.Addr with⟨i,d,g,c⟩|⟨-,⟨i,d,-,c⟩|⟨-,c⟩⟩
  ·rw[c]at a b
   simp only[ow]at a b;have e:aW (nth h.H i).a7 ((o.Addr - 16*(nth h.H i).Q) / csz (nth h.H i).Z)=true:=ψ
   rw[e]at a;exact .inl ⟨_,ax d,⟨g.1,g.2,b,e⟩,by simpa using a⟩
  ·rw[c]at a b
   simp only at a b;exact .inr ⟨_,ax d,ω,by simpa using a⟩
  grind
 rintro(⟨s,e,⟨k,n,p,q⟩,r⟩|⟨l,j,t,u⟩)
 ·grind [bo,gQ,ow]
 obtain⟨w,y,A⟩:=wY f j
 grind [m0,ax]
theorem EY(j:nH sp la)(a:Int):a∈ll sp la↔mj sp la a:=by
 constructor
 ·intro h
  unfold ll EQ at h;obtain⟨n,o,rfl⟩:=z4.1 h;have c:=(C4.1 o).2;unfold oN at c;simp only[I0,T5,C0]at c;obtain⟨b,d⟩:=c;rcases m0 j (n:Int) with⟨i,g,k,f⟩|⟨-,⟨i,g,-,f⟩|⟨-,f⟩⟩
  ·rw[f]at d b
   simp only[ow]at d b;refine .inl ⟨_,ax g,⟨k.1,k.2,b,?_⟩,.inl ω⟩;cases e:aW (nth sp i).a7 (((n:Int) - 16*(nth sp i).Q) / csz (nth sp i).Z) with
   | true=>rfl
   | false=>rw[e]at d;simp at d
  ·rw[f]at b
   simp only at b;exact .inr ⟨_,ax g,ω⟩
  grind
 rintro(⟨s,q,⟨r,c,t,u⟩,-⟩|⟨l,p,rfl⟩)
 ·grind [bo,gQ,vz,ow]
 obtain⟨w,y,A⟩:=wY j p
 grind [m0,ax,vz]
def RH(xs:List aC)(p:Int):Prop:=∃r∈xs,r.At<=p/\p<r.At+r.a4
theorem f6 : bC pages xs=true↔jl xs/\(∀y∈xs,0<=y.At/\1<=y.a4/\y.At+y.a4<=pages)/\1<=pages/\pages<=32:=by
 constructor
 ·grind [vC,bC]
 rintro⟨b,c,d⟩
 unfold bC;simp only[I0,C0];refine⟨cu.2 λi a=>?_,d⟩;have f:=c _ (ax a);unfold fR rangeIn;simp only[I0,C0];refine⟨ω,?_⟩;by_cases e:i=0
 ·exact .inl e
 right
 have:=List.pairwise_iff_getElem.1 b.1 (i - 1) i ω a ω
 rwa [<-bD (O2 (show i - 1<xs.length by omega)),<-bD (O2 a)]at this
theorem DV(h:bC pages xs=true)(p:Int):xs.any (FO p)=true↔RH xs p:=by
 obtain⟨-,c,d⟩:=f6.1 h;rw[Y3];refine⟨λ⟨r,a,b⟩=>⟨r,a,?_⟩,λ⟨r,a,b⟩=>⟨r,a,?_⟩⟩
 all_goals grind [fF,FO]
theorem vu(i:Int):∀(f:List aC)(r:aC)(out:List aC),jl f->1<=r.a4->(∀y∈f,ovl y r=false)->(∀z∈out,z.At+z.a4<r.At/\∀y∈f,z.At+z.a4<y.At)->jl out->(∀y∈r::(out++f),0<=y.At/\y.At+y.a4<=i)->∃o,iF f r out false=some o/\jl o/\(∀y∈o,0<=y.At/\y.At+y.a4<=i)/\∀p,RH o p↔RH out p\/RH f p\/(r.At<=p/\p<r.At+r.a4)
 | [],r,out,_,l,_,D,g,j=>by
  refine⟨out++[r],by simp[iF],⟨List.pairwise_append.2 ⟨g.1,List.pairwise_singleton ..,ψ⟩,λy k=>?_⟩,ψ,λp=>by grind [RH]⟩;rcases z3.1 k with k|k
  ·exact g.2 y k
  grind
 | y::f,r,out,c,l,E,D,g,j=>by
  have M:=c.2 y ψ;have h:=E y ψ;have F:=c.head;have G:=j y (by simp);have H:=j r (by simp);have J:∀w∈f,¬(w.At<r.At+r.a4/\r.At<w.At+w.a4):=λw d=>by grind [ovl]
  have K:∀w∈f,1<=w.a4:=λw d=>c.2 w ψ
  rw[tI,C8 (by rw[h];simp)];unfold ovl at h;rw[S4]at h;by_cases n:y.At+y.a4=r.At
  ·rw[CA n]
   obtain⟨o,q,t,u,A⟩:=vu i f ⟨y.At,y.a4+r.a4⟩ out c.tail (by simp only;omega) (λw d=>by grind [ovl]) ψ g ψ
   grind [RH]
  rw[C8 n];by_cases B:r.At+r.a4=y.At
  ·rw[CA B]
   obtain⟨o,q,t,u,A⟩:=vu i f ⟨r.At,r.a4+y.a4⟩ out c.tail (by simp only;omega) (λw d=>by grind [ovl]) ψ g ψ
   grind [RH]
  rw[C8 B];by_cases C:y.At > r.At
  ·have L:r.At+r.a4<y.At:=ω
   rw[CA ⟨C,rfl⟩,oZ c.tail l ψ];refine⟨_,rfl,⟨?_,λw d=>?_⟩,ψ,λp=>by grind [RH]⟩
   ·rw[v5]
    refine List.pairwise_append.2 ⟨g.1,?_,λa N b j=>?_⟩
    ·show(r::y::f).Pairwise _
     refine List.pairwise_cons.2 ⟨λw d=>?_,c.1⟩
     grind
    grind
   simp only[z3,List.mem_cons,List.not_mem_nil,or_false]at d;rcases d with(d|rfl|rfl)|d
   ·exact g.2 w d
   all_goals grind
  rw[C8 λe=>C e.1];obtain⟨o,q,t,u,A⟩:=vu i f r (out++[y]) c.tail l ψ ψ ⟨List.pairwise_append.2 ⟨g.1,List.pairwise_singleton ..,ψ⟩,λw d=>by
      rcases z3.1 d with d|d
      · exact g.2 w d
      grind⟩ ψ
  grind [RH]
theorem ux{r:aC}(h:bC pages xs=true)(i:0<=r.At/\1<=r.a4/\r.At+r.a4<=pages)(c:∀p,r.At<=p->p<r.At+r.a4->¬RH xs p):∃o,bY pages xs r=some o/\bC pages o=true/\∀p,RH o p↔RH xs p\/(r.At<=p/\p<r.At+r.a4):=by
 obtain⟨j,k,l⟩:=f6.1 h;have b:rangeIn pages r=true:=by grind [rangeIn]
 unfold bY;rw[CA ⟨h,b⟩];obtain⟨o,n,d,f,q⟩:=vu pages xs r [] j i.2.1 (λy a=>by
   have:=k y a;unfold ovl;rw[S4];intro g;by_cases e:r.At<=y.At
   · exact c y.At e g.1 ⟨y,a,ω,ω⟩
   exact c r.At ω ω ⟨y,a,ω,g.2⟩) ψ ⟨List.Pairwise.nil,ψ⟩ ψ
 refine⟨o,n,f6.2 ⟨d,λy a=>⟨(f y a).1,d.2 y a,(f y a).2⟩,l⟩,λp=>?_⟩
 grind [RH]
structure Pg(t:aN)(fr:List aC)(sp:List ay)(la:List aA):Prop where
 one:∀l∈la,∀p:Nat,(p:Int)∈lpgs l l.a3.toNat->∀q:Nat,q<t.K.length->(nth t.K q).o≠0->(nth t.K q).e=(nth t.K p).e->q=p
 bnd:∀p∈pgs sp la,p<t.K.length
 own:∀p:Nat,p<t.K.length->((nth t.K p).o≠0↔(p:Int)∈pgs sp la)
 fre:∀p:Nat,p<t.K.length->((nth t.K p).o≠0↔¬RH fr p)
 mesh:∀s∈sp,∀u∈sp,s.Q≠u.Q->(nth t.K s.Q.toNat).e=(nth t.K u.Q.toNat).e->meshable s u=true
structure bi(h:ac)(E:List Int):Prop where
 ker:aH h.J=true
 rng:bC (gn h) h.b=true
 lay:bA h.H h.M=true
 srs:h.H.Pairwise λa b=>a.Q<b.Q
 srl:h.M.Pairwise λa b=>a.Q<b.Q
 pg:Pg (tbl h) h.b h.H h.M
 mail:bT h.u=true
 nc:h.T.length=h.u.S.length
 quar:gm h.a5=true
 snc:∀x∈h.a5.a1,x.b2<=h.b0
 cach:∀c∈h.T,bF c=true
 nums:dh h=true
 osr:h.R.Pairwise λa b=>a.Addr<b.Addr
 onu:∀o∈h.R,1<=o.Id/\o.Id<=h.w - 1/\0<=o.a0/\o.a0<=h.T.length - 1
 oid:(h.R.map (·.Id)).Nodup
 oow:∀o∈h.R,Ld h.H h.M o
 hca:∀c∈h.T,∀k:Nat,k<c.X.length->∀a∈nth c.X k,iU h.H a k
 hqu:∀x∈h.a5.a1,iU h.H x.Addr x.Z
 hfl:∀a∈aU h.u,iU h.H a (-1)
 hin:∀a∈E,iU h.H a (-1)
 nd:(E++holders h).Nodup
 mem:∀a,a∈E++holders h↔mj h.H h.M a
 job:h.q=true->kq h.y=true/\(∃s∈h.H,s.Q=h.y.Y.a8)/\∃s∈h.H,s.Q=h.y.Y.a6
 noj:h.q=false->wM h.y=true
variable{E:List Int}
theorem bi.L(a:bi h E):nH h.H h.M:=nH.of a.lay
theorem yJ(t:aN)(f:Int):(pagesOn t f).Nodup:=by grind [List.nodup_range,pagesOn,jA]
def NT{l:List Int}(b:l.Nodup)(d:a∈l)(c:∀x∈l,x=a):l.length=1:=by
 match l with
 | []=>cases d
 | [_]=>rfl
 | x::y::r=>
  exfalso;have e:=c x (by simp);have f:=c y (by simp);rw[e,f]at b;simp at b
theorem dG(a:s∈sp):s.Q∈pgs sp la:=by grind [pgs]
theorem fG(a:l∈la)(b:p∈lpgs l l.a3.toNat):p∈pgs sp la:=by grind [pgs]
theorem R8(b:bA h.H h.M=true)(N:bC (gn h) h.b=true)(A:pages0 h=true)(r:nN h=true):Pg (tbl h) h.b h.H h.M:=by
 have B:=nH.of b;obtain⟨C,D,t⟩:=rA A;have E:∀p:Nat,p<gn h->((nth (tbl h).K p).o≠0↔¬RH h.b p):=λp a=>by grind [f8,DV,pages0,BD]
 refine⟨λl w p c q F e f=>?_,D,t,E,λs G u H J O=>?_⟩
 ·obtain⟨i,y,rfl⟩:=bo w
  obtain⟨k,g,n⟩:=dt.1 c;have a:p<gn h:=by grind [fG]
  have d:=(t p a).2 (fG w c);have K:=C i y k g;rw[<-n,eK a d]at K;have P:(p:Int)∈pagesOn (tbl h) (nth (tbl h).K p).e:=ec.2 ⟨a,d,rfl⟩;have Q:(q:Int)∈pagesOn (tbl h) (nth (tbl h).K p).e:=ec.2 ⟨F,e,f⟩
  grind [List.length_eq_one_iff]
 obtain⟨i,y,rfl⟩:=bo G;obtain⟨j,R,rfl⟩:=bo H;have L:∀k,k<h.H.length->ar (tbl h) (nth h.H k).Q=nth (tbl h).K (nth h.H k).Q.toNat:=λk g=>by
  have S:=aL (B.sok _ (ax g))
  grind [dG,A9,nth]
 unfold nN at r;rw[cu]at r;rcases Nat.lt_trichotomy i j with o|M|o
 all_goals grind [f8,je,lT]
theorem zF(sp:List ay):dv sp.length (z6 sp)=true↔sp.Pairwise λa b=>a.Q<b.Q:=by
 rw[cu];refine Iff.trans ?_ (v7 (λa b:Int=>a<b) ω (λs:ay=>s.Q) sp)
 grind [z6]
theorem zV(la:List aA):dv la.length (z7 la)=true↔la.Pairwise λa b=>a.Q<b.Q:=by
 rw[cu];refine Iff.trans ?_ (v7 (λa b:Int=>a<b) ω (λs:aA=>s.Q) la)
 grind [z7]
theorem Rs(o:bA h.H h.M=true)(C:bC (gn h) h.b=true)(h1:h.H.Pairwise λa b=>a.Q<b.Q)(A:h.M.Pairwise λa b=>a.Q<b.Q)(c:Pg (tbl h) h.b h.H h.M):pages0 h=true/\nN h=true:=by
 have u:=nH.of o;constructor
 ·unfold pages0
  simp only[I0];refine⟨⟨⟨(zF _).2 h1,cu.2 λi l=>?_⟩,Z3.2 λp n=>O0 (c.bnd p n)⟩,cu.2 λp n=>?_⟩
  ·unfold sG
   rw[I0];refine⟨f8 ((zV _).2 A) l,cu.2 λk w=>?_⟩;have y:=ax l;have D:=aY (u.lok _ y);obtain⟨p,n⟩ : ∃p:Nat,(nth h.M i).Q+(k:Nat)=(p:Nat):=⟨((nth h.M i).Q+k).toNat,ω⟩
   have q:(p:Int)∈lpgs (nth h.M i) (nth h.M i).a3.toNat:=dt.2 ψ;have d:p<gn h:=by have:=c.bnd _ (fG (sp:=h.H) y q);exact Int.ofNat_lt.1 this
   have r:=(c.own p d).2 (fG y q);unfold zt;rw[C0,n,eK d r];refine NT (yJ ..) (ec.2 ⟨d,r,rfl⟩) λx E=>?_
   grind [uI,ec,Pg.one]
  unfold BD;rw[I0,C0];refine⟨c.own p n,?_⟩;have F:=c.fre p n
  grind [DV]
 unfold nN;refine cu.2 λi l=>cu.2 λj G=>?_
 have g:j<h.H.length:=ω
 have t:∀k,k<h.H.length->ar (tbl h) (nth h.H k).Q=nth (tbl h).K (nth h.H k).Q.toNat:=λk w=>by
  have H:=aL (u.sok _ (ax w));have J:=c.bnd _ (dG (la:=h.M) (ax w))
  grind [A9,gn,tbl]
 unfold lT;rw[t i l,t j g,T5,C0];by_cases e:(nth (tbl h).K (nth h.H i).Q.toNat).e=(nth (tbl h).K (nth h.H j).Q.toNat).e
 ·refine .inr (c.mesh _ (ax l) _ (ax g) (λB=>?_) e)
  have:=iz (f:=(·.Q)) u.nd l g B;omega
 exact .inl e
theorem Ee(c:dh h=true)(d:nH h.H h.M):gW h=true↔(h.R.Pairwise λa b=>a.Addr<b.Addr)/\(∀o∈h.R,1<=o.Id/\o.Id<=h.w - 1/\0<=o.a0/\o.a0<=h.T.length - 1)/\(h.R.map (·.Id)).Nodup/\∀o∈h.R,Ld h.H h.M o:=by
 unfold dh at c;rw[C0]at c;refine Iff.trans ?_ (and_congr (v7 (λa b:Int=>a<b) ω (λo:bc=>o.Addr) h.R) (and_congr Iff.rfl (and_congr (z8 (λo:bc=>o.Id) h.R) Iff.rfl)));unfold gW;rw[fF ω ω,cu];have e:∀i,i<h.R.length->(objAt (h.w - 1) h i=true↔(i=0\/(nth h.R (i - 1)).Addr<(nth h.R i).Addr)/\(1<=(nth h.R i).Id/\(nth h.R i).Id<=h.w - 1/\0<=(nth h.R i).a0/\(nth h.R i).a0<=h.T.length - 1)/\(∀o∈h.R.take i,o.Id≠(nth h.R i).Id)/\Ld h.H h.M (nth h.R i)):=λi f=>by grind [Ms,objAt,gU,gy]
 grind [bo,ax]
def vG(b:nH h.H h.M):rE h=true↔(∀c∈h.T,∀k:Nat,k<c.X.length->∀a∈nth c.X k,iU h.H a k)/\(∀x∈h.a5.a1,iU h.H x.Addr x.Z)/\∀a∈aU h.u,iU h.H a (-1):=by
 rw[nR];simp only[Z3,gt,cu,vV,jH,mZ,Ly b,and_assoc]
theorem Jl : 0<=jm h p↔∃s∈h.H,s.Q=p:=by grind [jm,cA,mM]
theorem bi.of(g:jL h=true):bi h []:=by
 unfold jL BQ at g;simp only[I0]at g;obtain⟨⟨⟨⟨⟨⟨⟨⟨⟨⟨r,l⟩,e⟩,j⟩,n⟩,c⟩,t⟩,H⟩,o⟩,k,b⟩,d⟩:=g;have p:=nH.of e;rw[tO e j]at n;have f:=j;unfold pages0 at f;simp only[I0]at f;unfold f9 at c;simp only[I0,C0]at c;unfold DN at b;simp only[I0,C0]at b;obtain⟨⟨u,w⟩,J⟩:=b;obtain⟨y,A,B,C⟩:=(Ee o p).1 k;obtain⟨D,E,F⟩:=(vG p).1 u;unfold pf at t;have G:=cu.1 f.1.1.2;refine⟨r,l,e,(zF _).1 f.1.1.1,(zV _).1 (cu.2 λi K=>?_),R8 e l j n,c.1.1,c.1.2,c.2,ψ,ψ,o,y,A,B,C,D,E,F,ψ,(by simpa using w),λa=>?_,λq=>?_,λq=>?_⟩
 ·grind [sG]
 ·grind [EY,rP,qX]
 ·unfold yk at d
  rw[CA q]at d
  grind [Jl]
 grind [yk]
theorem bi.to(b:bi h []):jL h=true:=by
 have c:=b.L;obtain⟨e,g⟩:=Rs b.lay b.rng b.srs b.srl b.pg;have d:=(Ee b.nums c).2 ⟨b.osr,b.onu,b.oid,b.oow⟩;have f:=(vG c).2 ⟨b.hca,b.hqu,b.hfl⟩;unfold jL BQ;simp only[I0];refine⟨⟨⟨⟨⟨⟨⟨⟨⟨⟨b.ker,b.rng⟩,b.lay⟩,e⟩,by grind [tO,bi.lay]⟩,?_⟩,?_⟩,Z3.2 b.cach⟩,b.nums⟩,d,?_⟩,?_⟩
 ·grind [bi.mail,bi.quar,bi.nc,f9]
 ·grind [bi.snc,pf]
 ·unfold DN
  have i:(holders h).Nodup:=by simpa using b.nd
  have j:∀a,a∈holders h↔a∈ll h.H h.M:=λa=>by rw[EY c,<-b.mem a];simp
  grind [uf,List.Perm.length_eq]
 grind [bi.job,Jl,bi.noj,yk]
def dele(xs:List α)(i:Nat):List α:=xs.take i++xs.drop (i+1)
theorem eE(xs:List α)(i:Nat):(dele xs i).Sublist xs:=by
 unfold dele;rw[<-List.eraseIdx_eq_take_drop_succ];grind
theorem Ax[Inhabited α]{xs:List α}(a:i<xs.length):xs.Perm (nth xs i::dele xs i):=by
 have:xs=xs.take i++nth xs i::xs.drop (i+1):=by grind [gR,List.take_append_drop]
 conv=>lhs;rw[this]
 exact List.perm_middle
theorem iB{α:Type}[Inhabited α](f:α->List Int)(a:Int):∀(xs:List α)(i:Nat)(y:α),i<xs.length->((xs.set i y).flatMap f).count a+(f (nth xs i)).count a=(xs.flatMap f).count a+(f y).count a
 | [],i,_,h=>by cases h
 | x::xs,0,y,_=>by
  show((y::xs).flatMap f).count a+(f x).count a=((x::xs).flatMap f).count a+(f y).count a
  grind
 | x::xs,i+1,y,h=>by
  have:=iB f a xs i y (by simpa using h);show((x::xs.set i y).flatMap f).count a+(f (nth xs i)).count a=((x::xs).flatMap f).count a+(f y).count a
  grind
theorem lh(a:List (List Int)):a.flatten=a.flatMap λx=>x:=by simp_all
theorem iU.any(h:iU sp a c):iU sp a (-1):=by
 obtain⟨s,b,d,-⟩:=h;exact⟨s,b,d,.inl (by decide)⟩
def bi.cells(a:bi h E)(c:aH k=true)(b:k.F.O=h.J.F.O):bi {h with J:=k} E:=
 {a with
   ker:=c
   rng:=by show bC ((k.F.O.K.length:Nat):Int) h.b=true;rw[b];exact a.rng
   pg:=by show Pg k.F.O h.b h.H h.M;rw[b];exact a.pg}
theorem bi.dropO(b:bi h E)(e:i<h.R.length)(j:iU h.H (nth h.R i).Addr (-1)):bi {h with R:=dele h.R i} ((nth h.R i).Addr::E):=by
 have f:(E++holders h).Perm (((nth h.R i).Addr::E)++holders {h with R:=dele h.R i}):=by
  have g:=(Ax e).map (·.Addr);refine List.perm_iff_count.2 λa=>?_
  have k:=g.count_eq a
  grind [holders,cy]
 have c:(dele h.R i).Sublist h.R:=eE ..;exact {b with
   osr:=b.osr.sublist c
   onu:=λo d=>b.onu o (c.subset d)
   oid:=b.oid.sublist (c.map _)
   oow:=λo d=>b.oow o (c.subset d)
   hin:=λa l=>by grind [bi.hin]
   nd:=f.nodup_iff.1 b.nd
   mem:=λa=>by grind [bi.mem]}
def nG(c:aE)(k:Nat)(a:Int):aE:=⟨c.X.set k (nth c.X k++[a])⟩
theorem bi.put{t k:Nat}(e:bi h (a::E))(f:t<h.T.length)(g:k<(nth h.T t).X.length)(p:iU h.H a k)(q:bF (nG (nth h.T t) k a)=true):bi {h with T:=h.T.set t (nG (nth h.T t) k a)} E:=by
 have i:(a::E++holders h).Perm (E++holders {h with T:=h.T.set t (nG (nth h.T t) k a)}):=by
  refine List.perm_iff_count.2 λb=>?_
  have r:=iB (λc:aE=>c.X.flatten) b h.T t (nG (nth h.T t) k a) f;have l:=iB (λx:List Int=>x) b (nth h.T t).X k (nth (nth h.T t).X k++[a]) g;rw[<-lh,<-lh]at l
  grind [nG,holders,cy]
 exact {e with
   nc:=by grind [bi.nc]
   cach:=λc d=>by grind [bi.cach]
   onu:=by show ∀o∈h.R,1<=o.Id/\o.Id<=h.w - 1/\0<=o.a0/\o.a0<=(h.T.set t _).length - 1;rw[U1];exact e.onu
   hca:=λc d j u b n=>by
     rcases V5 d with d|rfl
     all_goals grind [bi.hca,cz,ax,nG]
   hin:=λb n=>e.hin b ψ
   nd:=i.nodup_iff.1 e.nd
   mem:=λb=>by grind [bi.mem]}
theorem bi.toQuar{x:aO}{q:b9}{out:List aO}(c:bi h (x.Addr::E))(f:gm q=true)(d:h.a5.a1++[x]=out++q.a1)(j:x.b2<=h.b0)(k:iU h.H x.Addr x.Z):bi {h with a5:=q} (out.map (·.Addr)++E):=by
 have e:∀y∈out++q.a1,y.b2<=h.b0/\iU h.H y.Addr y.Z:=λy a=>by
  rw[<-d]at a;rcases z3.1 a with a|a
  ·exact⟨c.snc y a,c.hqu y a⟩
  grind
 have g:(x.Addr::E++holders h).Perm ((out.map (·.Addr)++E)++holders {h with a5:=q}):=by
  refine List.perm_iff_count.2 λb=>?_
  have i:=X0 (λl:List aO=>(l.map (·.Addr)).count b) d;simp only[z5,O5,I5,List.map_nil,List.count_singleton]at i
  grind [holders,cy]
 exact {c with
   quar:=f
   snc:=(ψ)
   hqu:=(ψ)
   hin:=λb n=>by grind [iU.any,bi.hin]
   nd:=g.nodup_iff.1 c.nd
   mem:=λb=>by grind [bi.mem]}
def vW(b i:Int):Int:=((BitVec.ofInt IntKind.i64.bits b &&& ~~~BitVec.ofInt IntKind.i64.bits (2 ^ i.toNat)).toNat:Nat)
def kw(s:ay)(i:Int):ay:={s with a7:=vW s.a7 i}
theorem ia(b i:Int):aW b i=true↔0<=b/\0<=i/\i<=15/\b.toNat.testBit i.toNat=true:=by grind [aW]
variable{b:Int}
theorem EG{i:Int}(d:0<=b/\b<=65535)(a:0<=i/\i<=15)(j:Nat):(vW b i).toNat.testBit j=(b.toNat.testBit j&&decide (i.toNat≠j)):=by
 have e:(2:Int) ^ i.toNat<=32768/\0<=(2:Int) ^ i.toNat:=by
  obtain⟨n,rfl⟩:=Z2 a.1;rw[X2];have:(2:Nat) ^ n<=2 ^ 15:=Nat.pow_le_pow_right (by decide) ω
  grind
 unfold vW;rw[X2,BitVec.testBit_toNat,BitVec.getLsbD_and,BitVec.getLsbD_not,<-BitVec.testBit_toNat,<-BitVec.testBit_toNat,pc ω,pc ω];rw[show((2:Int) ^ i.toNat).toNat=2 ^ i.toNat by rw[show(2:Int) ^ i.toNat=((2 ^ i.toNat:Nat):Int) by norm_cast,X2],Nat.testBit_two_pow];by_cases c:j<64
 ·rw[show decide (j<IntKind.i64.bits)=true from O0 c,Bool.true_and]
  grind
 rw[Nat.testBit_lt_two_pow (x:=b.toNat) (i:=j) (X3 (show b.toNat<2 ^ 16 by omega) (Nat.pow_le_pow_right (by decide) ω))]
 rfl
theorem Ba{i:Int}(a:0<=b/\b<=65535):0<=vW b i/\vW b i<=b:=by grind [pc,Nat.and_le_left,vW]
theorem Nc{i:Int}(a:0<=b/\b<=65535)(c:0<=i/\i<=15)(j:Int):aW (vW b i) j=true↔aW b j=true/\j≠i:=by grind [ia,EG,Ba]
theorem dQ(h:bg s=true):0<=s.a7/\s.a7<=65535:=by
 unfold bg at h;simp only[C0]at h;have:=G1 s.Z;omega
theorem Hy(h:bg s=true)(i:Int):bg (kw s i)=true:=by
 have b:=dQ h;have a:=Ba (i:=i) b;unfold bg at h;rw[C0]at h;obtain⟨c,d,e,f,j,g⟩:=h;exact O0 ⟨c,d,e,f,a.1,Int.le_trans a.2 g⟩
theorem zL{u:ay}(e:bg s=true){i:Int}(f:0<=i/\i<=15)(h:meshable s u=true):meshable (kw s i) u=true:=by
 unfold meshable at h |-;simp only[I0,C0]at h |-;obtain⟨⟨a,b⟩,c,d,g⟩:=h;refine⟨⟨Hy a i,b⟩,c,d,?_⟩;refine Nat.eq_of_testBit_eq λj=>?_
 grind [EG,dQ,kw]
def dz(s:ay)(a:Int):Int:=(a - 16*s.Q) / csz s.Z
theorem tW(h:bg s=true)(b:16*s.Q<=a/\a<=16*s.Q+15):0<=dz s a/\dz s a<=15:=by
 have c:=aL h
 grind [cT,dz]
theorem G8(h:bg s=true)(c:(a - 16*s.Q) % csz s.Z=0)(d:(b - 16*s.Q) % csz s.Z=0)(e:dz s a=dz s b):a=b:=by
 have f:=aL h
 grind [cT,dz]
theorem A6(h:bg s=true)(k:eS s a)(b:Int):eS (kw s (dz s a)) b↔eS s b/\b≠a:=by
 obtain⟨l,n,o,p⟩:=k;have c:=tW h ⟨l,n⟩;unfold eS;simp only[kw];rw[Nc (dQ h) c];constructor
 ·rintro⟨g,i,d,j,f⟩
  exact⟨ψ,λe=>f (by rw[e];rfl)⟩
 rintro⟨⟨g,i,d,j⟩,f⟩
 exact⟨g,i,d,j,λe=>f (G8 h d o e)⟩
theorem fx[Inhabited α]{xs:List α}{y z:α}(h:z∈xs.set i y):z=y\/∃j,j<xs.length/\j≠i/\nth xs j=z:=by
 obtain⟨j,a,rfl⟩:=List.mem_iff_getElem.1 h;rw[List.getElem_set];by_cases e:i=j
 ·subst e;simp
 rw[C8 e];rw[U1]at a;exact .inr ⟨j,a,λx=>e x.symm,bD ψ⟩
theorem jB[Inhabited α]{xs:List α}(y:α)(a:j<xs.length)(e:j≠i):nth xs j∈xs.set i y:=by
 have:nth (xs.set i y) j=nth xs j:=by grind [cz]
 grind [ax]
theorem iu{xs:List α}(y:α)(a:i<xs.length):y∈xs.set i y:=by grind [List.mem_iff_getElem]
def KY(k:Int)(a:i<sp.length):(sp.set i (kw (nth sp i) k)).map (·.Q)=sp.map (·.Q):=by
 rw[S5];refine List.ext_getElem (by simp) λj b c=>?_
 rw[List.getElem_set];split
 ·rename_i e;subst e
  rw[List.getElem_map];show(nth sp i).Q=_;rw[bD (O2 a)]
 rfl
def iU.set(q:nH sp la)(k:i<sp.length)(l:eS (nth sp i) a)(b c:Int):iU (sp.set i (kw (nth sp i) (dz (nth sp i) a))) b c↔iU sp b c/\b≠a:=by
 have g:=q.sok _ (ax k);constructor
 ·rintro⟨s,o,d,h⟩
  rcases fx o with rfl|⟨j,n,r,rfl⟩
  ·have:=(A6 g l b).1 d
   exact⟨⟨_,ax k,this.1,h⟩,this.2⟩
  refine⟨⟨_,ax n,d,h⟩,λe=>?_⟩;subst e;have:=iz (f:=(·.Q)) q.nd k n (by have t:=l.1;have u:=l.2.1;have w:=d.1;have y:=d.2.1;omega);omega
 rintro⟨⟨s,o,d,h⟩,p⟩
 obtain⟨j,n,rfl⟩:=bo o;by_cases e:j=i
 ·subst e
  exact⟨_,iu _ k,(A6 g l b).2 ⟨d,p⟩,h⟩
 exact⟨_,jB _ n e,d,h⟩
theorem bi.give(d:bi h (a::E))(t:i<h.H.length)(w:eS (nth h.H i) a):bi {h with H:=h.H.set i (kw (nth h.H i) (dz (nth h.H i) a))} E:=by
 have B:=d.L;have G:=B.sok _ (ax t);have O:=tW G ⟨w.1,w.2.1⟩;have f:=λb c=>iU.set B t w b c
 have H:=KY (dz (nth h.H i) a) t;generalize J:h.H.set i (kw (nth h.H i) (dz (nth h.H i) a))=sp at f H;have p:pgs sp h.M=pgs h.H h.M:=by grind [pgs]
 have g:=d.nd;rw[List.cons_append]at g;obtain⟨P,g⟩:=List.nodup_cons.1 g;have y:∀b,b∈E++holders h->b≠a:=ψ
 have n:∀b,b∈holders h->b≠a:=ψ
 have Q:∀l∈h.M,16*l.Q≠a:=λl R e=>(wY B R).1 _ (ax t) (by have a1:=w.1;have a2:=w.2.1;omega)
 have q:∀s∈sp,∃u∈h.H,u.Q=s.Q/\(s=u\/s=kw u (dz (nth h.H i) a)):=λs r=>by
  rw[<-J]at r;rcases fx r with rfl|⟨j,hj,S,rfl⟩
  ·exact⟨_,ax t,rfl,.inr rfl⟩
  grind [ax]
 have T:∀u∈h.H,∃s∈sp,s.Q=u.Q:=λu C=>by
  have:u.Q∈sp.map (·.Q):=ψ
  grind
 exact {d with
   lay:=by grind [bi.lay,Hy,bA]
   srs:=by
     have A:(h.H.map (·.Q)).Pairwise (λa b=>a<b):=List.pairwise_map.2 d.srs
     grind
   pg:=⟨d.pg.one,by rw[p];exact d.pg.bnd,by rw[p];exact d.pg.own,d.pg.fre,λs r u C y U=>by
     obtain⟨V,K,W,X⟩:=q s r;obtain⟨Y,M,Z,hu2⟩:=q u C;have A:=d.pg.mesh V K Y M ω (by rw[W,Z];exact U)
     grind [zL,nH.sok,je]⟩
   oow:=λo ho=>by
     have N:o.Addr≠a:=n _ (by grind [holders]);rcases d.oow o ho with⟨s,r,A,h2⟩|A
     · obtain⟨u,C,g1,D⟩:=(f o.Addr (aV o.a2)).2 ⟨⟨s,r,A,.inr h2⟩,N⟩
       refine .inl ⟨u,C,g1,?_⟩;rcases D with D|D
       · have:=aL (B.sok _ r);omega
       exact D
     exact .inr A
   hca:=λc hc k hk b F=>(f b k).2 ⟨d.hca c hc k hk b F,n b (by
     unfold holders cy;grind [List.mem_flatten,ax])⟩
   hqu:=λx hx=>(f _ _).2 ⟨d.hqu x hx,n _ (by grind [holders])⟩
   hfl:=λb F=>(f _ _).2 ⟨d.hfl b F,n _ (by grind [holders])⟩
   hin:=λb F=>(f _ _).2 ⟨d.hin b ψ,y b ψ⟩
   nd:=g
   mem:=λb=>by
     show b∈E++holders h↔mj sp h.M b
     grind [bi.mem,mj]
   job:=λhm=>by grind [bi.job]}
def dM(k:ah)(p:Int):Nat->ah
 | 0=>k
 | n+1=>cr (dM k p n) (p+n)
def lI{k:ah}(h:aH k=true)(p:Int):∀n,aH (dM k p n)=true
 | 0=>h
 | n+1=>xD _ (lI h p n)
theorem gK(k:ah)(p:Int):∀n,(dM k p n).F.O.K.length=k.F.O.K.length/\(dM k p n).Calls=k.Calls/\(dM k p n).j=k.j
 | 0=>⟨rfl,rfl,rfl⟩
 | n+1=>by
  obtain⟨a,b,c⟩:=gK k p n;obtain⟨d,e,f⟩:=qV (dM k p n) (p+n);exact⟨d.trans a,e.trans b,f.trans c⟩
theorem vZ(h:aH k=true)(g:0<=p/\p<k.F.O.K.length)(q:Nat):nth (cr k p).F.O.K q=if(q:Int)=p then⟨0,0⟩ else nth k.F.O.K q:=by
 have c:ar k.F.O p=nth k.F.O.K p.toNat:=by grind [ar]
 unfold cr;split
 ·rename_i a
  split
  ·rename_i i
   rw[c]at a;have b:=(bt.1 (aI.1 h).2.2.1).1 p.toNat ω;unfold kT at b;rw[C0]at b;have d:=b.2.2.1 a;rw[show q=p.toNat by omega];generalize nth k.F.O.K p.toNat=e at a d;obtain⟨m,f⟩:=e
   grind
  rfl
 grind [mr,cz,lr]
theorem mC{k:ah}(h:aH k=true){p:Int}(a:0<=p):∀n:Nat,p+n<=k.F.O.K.length->∀q:Nat,nth (dM k p n).F.O.K q=if p<=q/\(q:Int)<p+n then⟨0,0⟩ else nth k.F.O.K q
 | 0,_,q=>by rw[C8 ω];rfl
 | n+1,b,q=>by
  have c:=mC h a n ω q;have d:=vZ (lI h p n) (p:=p+n) ⟨ω,by grind [gK]⟩ q;show nth (cr (dM k p n) (p+n)).F.O.K q=_
  grind
theorem D9(f:α->List β){xs b:List α}(h:xs.Sublist b):(xs.flatMap f).Sublist (b.flatMap f):=by
 induction h with
 | slnil=>grind
 | cons a _ c=>grind
 | cons_cons a _ c=>grind
theorem xv(c:bi h E)(Y:1<=n)(w:sp.Sublist h.H)(D:la.Sublist h.M)(j:∀q:Int,p<=q->q<p+n->q∈pgs h.H h.M)(K:0<=p)(F:∀q,q∈pgs sp la↔q∈pgs h.H h.M/\¬(p<=q/\q<p+n)) :
  ∃o,bY (gn h) h.b ⟨p,n⟩ = some o/\aH (dM h.J p n)=true/\bC ((dM h.J p n).F.O.K.length:Nat) o=true/\bA sp la=true/\Pg (dM h.J p n).F.O o sp la:=by
 have t:=c.pg.bnd _ (j (p+n - 1) ω ω);have a:=(gK h.J p n).1;have y:p+n<=h.J.F.O.K.length:=by unfold tbl at t;omega
 have g:=mC c.ker K n y;obtain⟨o,Q,R,S⟩:=ux (r:=⟨p,n⟩) c.rng ⟨K,by simp only;omega,y⟩ λq M N=>by
  simp only at M N;obtain⟨m,rfl⟩:=Z2 (show 0<=q by omega);have A:m<(tbl h).K.length:=by unfold tbl;omega
  exact(c.pg.fre m A).1 ((c.pg.own m A).2 (j _ M N))
 refine⟨o,Q,lI c.ker p n,by rw[a];exact R,?_,?_⟩
 ·obtain⟨T,U,V⟩:=dI c.lay
  unfold bA;simp only[I0,C0];exact⟨⟨Z3.2 λs d=>Z3.1 T s (w.subset d),Z3.2 λl d=>Z3.1 U l (D.subset d)⟩,V.sublist ((w.map _).append (D9 _ D))⟩
 have i:∀q:Nat,(q:Int)∈pgs sp la->nth (dM h.J p n).F.O.K q=nth (tbl h).K q:=λq f=>by rw[g,C8 ((F q).1 f).2];rfl
 have b:∀q:Nat,(nth (dM h.J p n).F.O.K q).o≠0↔(nth (tbl h).K q).o≠0/\¬(p<=q/\(q:Int)<p+n):=λq=>by
  rw[g];by_cases e:p<=q/\(q:Int)<p+n
  ·rw[CA e];exact⟨λx=>absurd rfl x,λx=>absurd e x.2⟩
  rw[C8 e];exact⟨λx=>⟨x,e⟩,λx=>x.1⟩
 refine⟨λl d q f r O G B=>?_,λq f=>?_,λq f=>?_,λq f=>?_,λs d u H J P=>?_⟩
 ·have C:=(b r).1 G
  rw[a]at O;rw[i q (fG d f),g,C8 C.2]at B;exact c.pg.one l (D.subset d) q f r O C.1 B
 ·rw[a];exact c.pg.bnd q ((F q).1 f).1
 ·rw[a]at f
  rw[b,F,c.pg.own q f]
 ·rw[a]at f
  rw[b,S,c.pg.fre q f];simp only
  grind
 have k:∀s∈sp,0<=s.Q:=λs d=>(aL (c.L.sok s (w.subset d))).1
 have W:=i s.Q.toNat (by rw[Int.toNat_of_nonneg (k s d)];exact dG d);have X:=i u.Q.toNat (by rw[Int.toNat_of_nonneg (k u H)];exact dG H);rw[W,X]at P;exact c.pg.mesh s (w.subset d) u (w.subset H) J P
theorem eZ[Inhabited α]{xs:List α}{k:Nat}{z:α} : z∈dele xs k↔∃j,j<xs.length/\j≠k/\nth xs j=z:=by
 unfold dele;rw[z3];constructor
 ·rintro(h|h)
  ·obtain⟨j,a,rfl⟩:=List.mem_take_iff_getElem.1 h
   exact⟨j,ω,ω,bD ψ⟩
  obtain⟨j,a,rfl⟩:=List.mem_drop_iff_getElem.1 h;exact⟨k+1+j,ω,ω,bD ψ⟩
 rintro⟨j,a,b,rfl⟩
 rw[bD (O2 a)];by_cases e:j<k
 ·grind [List.mem_take_iff_getElem]
 refine .inr (List.mem_drop_iff_getElem.2 ⟨j - (k+1),ω,?_⟩)
 congr 1;omega
theorem pC{q:Int} : q∈pgs sp la↔(∃s∈sp,s.Q=q)\/∃l∈la,q∈lpgs l l.a3.toNat:=by grind [pgs]
def Dy(h:s.a7=0)(a:Int):¬eS s a:=by
 rintro⟨-,-,-,b⟩
 rw[ia,h]at b;simp at b
theorem bi.giveSpan(d:bi h E)(C:i<h.H.length)(r:(nth h.H i).a7=0)(R:h.q=true->(nth h.H i).Q≠h.y.Y.a8/\(nth h.H i).Q≠h.y.Y.a6) :
  ∃o,bY (gn h) h.b ⟨(nth h.H i).Q,1⟩ = some o/\bi {h with J:=cr h.J (nth h.H i).Q,H:=dele h.H i,b:=o} E:=by
 have D:=d.L;have y:=aL (D.sok _ (ax C));have w:∀q,q∈pgs (dele h.H i) h.M↔q∈pgs h.H h.M/\¬((nth h.H i).Q<=q/\q<(nth h.H i).Q+(1:Nat)):=λq=>by
  rw[pC,pC];constructor
  ·rintro(⟨s,u,rfl⟩|⟨l,S,T⟩)
   ·obtain⟨j,a,A,rfl⟩:=eZ.1 u
    refine⟨.inl ⟨_,ax a,rfl⟩,λe=>A (iz (f:=(·.Q)) D.nd a C ω)⟩
   grind [dt,nH.dis,ax]
  grind [bo,eZ]
 obtain⟨o,J,F,G,K,H⟩:=xv d (sp:=dele h.H i) (la:=h.M) (p:=(nth h.H i).Q) (n:=1) (C3 _) (eE ..) ψ (λq U V=>by grind [dG,nth]) y.1 w;have M:dM h.J (nth h.H i).Q 1=cr h.J (nth h.H i).Q:=by show cr h.J ((nth h.H i).Q+((0:Nat):Int))=_;grind
 rw[M]at F G H;have g:∀b c,iU (dele h.H i) b c↔iU h.H b c:=λb c=>by
  constructor
  ·rintro⟨s,u,t⟩;exact⟨s,(eE ..).subset u,t⟩
  rintro⟨s,u,t,B⟩
  obtain⟨j,a,rfl⟩:=bo u;exact⟨_,eZ.2 ⟨j,a,λe=>Dy r b ψ,rfl⟩,t,B⟩
 refine⟨o,J,{d with
   ker:=F
   rng:=G
   lay:=K
   srs:=d.srs.sublist (eE ..)
   pg:=H
   oow:=λN O=>?_
   hca:=λc y k P b r=>(g b k).2 (d.hca c y k P b r)
   hqu:=λx Q=>(g _ _).2 (d.hqu x Q)
   hfl:=λb r=>(g _ _).2 (d.hfl b r)
   hin:=λb r=>(g _ _).2 (d.hin b r)
   mem:=λb=>(d.mem b).trans ?_
   job:=λW=>?_}⟩
 ·rcases d.oow N O with⟨s,u,t,B⟩|t
  ·obtain⟨j,a,rfl⟩:=bo u
   exact .inl ⟨_,eZ.2 ⟨j,a,λe=>Dy r _ (by rw[<-e];exact t),rfl⟩,t,B⟩
  exact .inr t
 all_goals grind [bi.job,bo,eZ,mj]
theorem bi.dropL{k:Nat}(d:bi h E)(N:i<h.R.length)(w:k<h.M.length)(F:(nth h.R i).Addr=16*(nth h.M k).Q) :
  ∃o,bY (gn h) h.b ⟨(nth h.M k).Q,(nth h.M k).a3⟩ = some o/\bi {h with J:=dM h.J (nth h.M k).Q (nth h.M k).a3.toNat,M:=dele h.M k,b:=o,R:=dele h.R i} E:=by
 have y:=d.L;have O:=aY (y.lok _ (ax w));have A:∀q,q∈pgs h.H (dele h.M k)↔q∈pgs h.H h.M/\¬((nth h.M k).Q<=q/\q<(nth h.M k).Q+((nth h.M k).a3.toNat:Nat)):=λq=>by
  rw[pC,pC];constructor
  ·rintro(⟨s,C,rfl⟩|⟨l,f,H⟩)
   ·refine⟨.inl ⟨s,C,rfl⟩,λe=>y.dis s C _ (ax w) (s.Q - (nth h.M k).Q).toNat ω ω⟩
   obtain⟨j,c,g,rfl⟩:=eZ.1 f;refine⟨.inr ⟨_,ax c,H⟩,λe=>?_⟩;obtain⟨m,P,rfl⟩:=dt.1 H;exact g (y.one j k c w m ((nth h.M j).Q+(m:Int) - (nth h.M k).Q).toNat P ω ω)
  grind [bo,eZ,dt]
 obtain⟨o,J,Q,R,S,T⟩:=xv d (sp:=h.H) (la:=dele h.M k) (p:=(nth h.M k).Q) (n:=(nth h.M k).a3.toNat) ω ψ (eE ..) (λq Z q2=>fG (ax w) (dt.2 ⟨(q - (nth h.M k).Q).toNat,ω,ω⟩)) O.2.2.1 A;rw[Int.toNat_of_nonneg ω]at J;have U:(E++holders h).Perm ((nth h.R i).Addr::(E++holders {h with R:=dele h.R i})):=by
  have V:=(Ax N).map (·.Addr);refine List.perm_iff_count.2 λa=>?_
  have r:=V.count_eq a
  grind [holders,cy]
 have t:=U.nodup_iff.1 d.nd;obtain⟨W,t⟩:=List.nodup_cons.1 t;have u:∀b,(b=(nth h.R i).Addr\/b∈E++holders {h with R:=dele h.R i})↔mj h.H h.M b:=λb=>by grind [bi.mem]
 have B:∀b,b∈E++holders {h with R:=dele h.R i}->b≠(nth h.R i).Addr:=ψ
 refine⟨o,J,{d with
   ker:=Q
   rng:=R
   lay:=S
   srl:=d.srl.sublist (eE ..)
   pg:=T
   osr:=d.osr.sublist (eE ..)
   onu:=λD G=>d.onu D ((eE ..).subset G)
   oid:=d.oid.sublist ((eE ..).map _)
   oow:=λD G=>?_
   nd:=t
   mem:=λb=>?_}⟩
 ·rcases d.oow D ((eE ..).subset G) with r|⟨l,f,K,X⟩
  ·exact .inl r
  obtain⟨j,c,rfl⟩:=bo f;refine .inr ⟨_,eZ.2 ⟨j,c,λe=>?_,rfl⟩,K,X⟩;subst e;refine B D.Addr (z3.2 (.inr ?_)) (by rw[F];exact K);unfold holders;grind
 constructor
 ·intro M
  rcases(u b).1 (.inr M) with r|⟨l,f,rfl⟩
  ·exact .inl r
  obtain⟨j,c,rfl⟩:=bo f;exact .inr ⟨_,eZ.2 ⟨j,c,λe=>B _ M (by rw[F,e]),rfl⟩,rfl⟩
 rintro(r|⟨l,f,rfl⟩)
 ·refine((u b).2 (.inl r)).resolve_left λe=>?_
  obtain⟨s,C,⟨Y,g2,-⟩,-⟩:=r;exact(wY y (ax w)).1 s C ω
 obtain⟨j,c,g,rfl⟩:=eZ.1 f;refine((u _).2 (.inr ⟨_,ax c,rfl⟩)).resolve_left λe=>g ?_
 have Y:=aY (y.lok _ (ax c));rw[F]at e;exact y.one j k c w 0 0 ω ω ω
def fp(h:ac)(p:Int):Bool:=h.q&&(decide (p=h.y.Y.a8) || decide (p=h.y.Y.a6))
def giveP(h:ac)(i:Nat):ac:={h with J:=cr h.J (nth h.H i).Q,H:=dele h.H i,b:=(bY (gn h) h.b ⟨(nth h.H i).Q,1⟩).getD h.b}
def clrS(h:ac)(i:Nat)(a:Int):ac:={h with H:=h.H.set i (kw (nth h.H i) (dz (nth h.H i) a))}
def freeS(h:ac)(i:Nat)(a:Int):ac:=if(kw (nth h.H i) (dz (nth h.H i) a)).a7=0/\fp h (nth h.H i).Q=false then giveP (clrS h i a) i else clrS h i a
def xH(h:ac)(a:Int):Nat:=(jm h (a / 16)).toNat
def freeA(h:ac)(a:Int):ac:=freeS h (xH h a) a
def cput(c:aE)(k a:Int):Option aE:=if bF c=true/\0<=k/\k<=3/\bF (nG c k.toNat a)=true then some (nG c k.toNat a) else none
def recyc(t:Nat)(h:ac)(a:Int):ac:=match cput (nth h.T t) (nth h.H (xH h a)).Z a with
 | some c=>{h with T:=h.T.set t c}
 | none=>freeA h a
theorem bi.at(e:bi h E)(c:iU h.H a (-1)):xH h a<h.H.length/\eS (nth h.H (xH h a)) a/\jm h (a / 16)=(xH h a:Nat):=by
 obtain⟨s,d,b,-⟩:=c;obtain⟨i,f,rfl⟩:=bo d;have g:(nth h.H i).Q=a / 16:=by have j:=b.1;have k:=b.2.1;omega
 grind [sF,bi.L,xH]
theorem Nl(e:fp h p=false)(a:h.q=true):p≠h.y.Y.a8/\p≠h.y.Y.a6:=by grind [fp]
def bi.freeS{h:ac}{E:List Int}{a:Int}{i:Nat}(f:bi h (a::E))(b:i<h.H.length)(g:eS (nth h.H i) a):bi (freeS h i a) E:=by
 have c:=f.give b g;unfold Ab.freeS;split
 ·rename_i e
  have d:nth (clrS h i a).H i=kw (nth h.H i) (dz (nth h.H i) a):=by unfold clrS;simp only[cz,true_and];rw[CA b]
  obtain⟨o,j,k⟩:=bi.giveSpan (h:=clrS h i a) c (i:=i) (by unfold clrS;simp only[U1];exact b) (by rw[d];exact e.1) (λl=>by rw[d];exact Nl e.2 l);unfold giveP;rw[j];exact k
 exact c
theorem bi.freeA{h:ac}{E:List Int}{a:Int}(b:bi h (a::E)):bi (freeA h a) E:=by
 obtain⟨c,d,-⟩:=b.at (b.hin a ψ);exact b.freeS c d
theorem nZ{c:aE}(h:bF c=true):c.X.length=4:=by grind [bF]
theorem bi.recyc{h:ac}{E:List Int}{a:Int}{t:Nat}(b:bi h (a::E))(f:t<h.T.length):bi (recyc t h a) E:=by
 obtain⟨g,i,-⟩:=b.at (b.hin a ψ);unfold Ab.recyc;split
 ·rename_i c d
  unfold cput at d;split at d
  ·rename_i e
   cases d;obtain⟨j,l,n,k⟩:=e;exact b.put f (by rw[nZ j];omega) ⟨_,ax g,i,.inr ω⟩ k
  cases d
 exact b.freeA
def xQ(h:ac)(i:Nat)(a:Int):(freeS h i a).T=h.T/\(freeS h i a).R=h.R/\(freeS h i a).J.Calls=h.J.Calls/\(freeS h i a).u=h.u/\(freeS h i a).y=h.y/\(freeS h i a).b0=h.b0/\(freeS h i a).a5=h.a5/\(freeS h i a).J.j=h.J.j:=by
 unfold freeS;split
 ·obtain⟨-,b,c⟩:=qV (clrS h i a).J (nth (clrS h i a).H i).Q
  exact⟨rfl,rfl,b,rfl,rfl,rfl,rfl,c⟩
 exact⟨rfl,rfl,rfl,rfl,rfl,rfl,rfl,rfl⟩
theorem rc(t:Nat)(h:ac)(a:Int):(recyc t h a).T.length=h.T.length/\(recyc t h a).R=h.R/\(recyc t h a).J.Calls=h.J.Calls/\(recyc t h a).u=h.u/\(recyc t h a).y=h.y/\(recyc t h a).b0=h.b0/\(recyc t h a).a5=h.a5/\(recyc t h a).J.j=h.J.j:=by
 unfold recyc;split
 ·grind
 obtain⟨b,c⟩:=xQ h (xH h a) a;exact⟨X0 _ b,c⟩
def recycs(t:Nat)(h:ac)(az:List Int):ac:=az.foldl (recyc t) h
def fT(t:Nat):∀(az:List Int)(h:ac),(recycs t h az).T.length=h.T.length/\(recycs t h az).R=h.R/\(recycs t h az).J.Calls=h.J.Calls/\(recycs t h az).u=h.u/\(recycs t h az).y=h.y/\(recycs t h az).b0=h.b0/\(recycs t h az).a5=h.a5/\(recycs t h az).J.j=h.J.j
 | [],h=>⟨rfl,rfl,rfl,rfl,rfl,rfl,rfl,rfl⟩
 | a::az,h=>by
  obtain⟨b,c,d,e,f,g,i,j⟩:=fT t az (recyc t h a);obtain⟨k,l,n,o,p,q,r,u⟩:=rc t h a;exact⟨b.trans k,c.trans l,d.trans n,e.trans o,f.trans p,g.trans q,i.trans r,j.trans u⟩
theorem bi.recycs{t:Nat}{E:List Int} : ∀{az:List Int}{h:ac},bi h (az++E)->t<h.T.length->bi (recycs t h az) E
 | [],h,b,_=>b
 | a::az,h,b,c=>bi.recycs (az:=az) (h:=Ab.recyc t h a) (b.recyc c) (by grind [rc])
def qc(l:List aO):Int:=quarCells l l.length
def lu(room:Int):List aO->Nat
 | []=>0
 | x::xs=>if room<qc (x::xs) then lu room xs+1 else 0
def Kk(q:b9)(x:aO):b9:=⟨q.b7,(q.a1++[x]).drop (lu q.b7 (q.a1++[x]))⟩
def BZ(q:b9)(x:aO):List aO:=(q.a1++[x]).take (lu q.b7 (q.a1++[x]))
def Fb(room:Int):∀l,lu room l<=l.length
 | []=>C3 _
 | x::xs=>by unfold lu;split;(have:=Fb room xs;simp only[List.length_cons];omega);omega
theorem BY{room:Int}(a:0<=room):∀l:List aO,qc (l.drop (lu room l))<=room
 | []=>a
 | x::xs=>by
  unfold lu;split
  ·exact BY a xs
  grind
theorem zB{room:Int} : ∀{l:List aO}{k:Nat},k<lu room l->room<qc (l.drop k)
 | [],k,h=>by cases h
 | x::xs,0,h=>by grind [lu]
 | x::xs,k+1,h=>by
  unfold lu at h;split at h
  ·exact zB (l:=xs) ω
  omega
theorem jC{q:b9} : gm q=true↔(∀x∈q.a1,0<=x.Z/\x.Z<=3/\0<=x.Addr/\0<=x.b2)/\(q.a1.Pairwise λa b=>a.b2<=b.b2)/\(q.a1.map (·.Addr)).Nodup/\0<=q.b7/\q.b7<=500/\qc q.a1<=q.b7:=by
 refine Iff.trans ?_ (and_congr Iff.rfl (and_congr (v7 (λa b:Int=>a<=b) ω (λs:aO=>s.b2) q.a1) (and_congr (z8 (λs:aO=>s.Addr) q.a1) Iff.rfl)));unfold gm qc
 grind [cu,List.any_eq_false,bo,ax,kD,eB]
theorem PW{q:b9}{x:aO}(h:gm q=true)(e:0<=x.Z/\x.Z<=3/\0<=x.Addr/\0<=x.b2)(f:∀y∈q.a1,y.b2<=x.b2)(g:∀y∈q.a1,y.Addr≠x.Addr):gm (Kk q x)=true:=by
 obtain⟨i,j,k,c,d,l⟩:=jC.1 h;have a:(Kk q x).a1.Sublist (q.a1++[x]):=List.drop_sublist ..;refine jC.2 ⟨λy b=>?_,List.Pairwise.sublist a ?_,List.Nodup.sublist (a.map _) ?_,c,d,BY c _⟩
 ·rcases z3.1 (a.subset b) with b|b
  all_goals grind
 ·grind
 grind
def mA(r:List Int)(o:Nat):Nat->List Int
 | 0=>r
 | n+1=>(mA r o n).set (o+n) 0
def jV(k:ah)(a:Int):Nat:=(ar k.F.O (a / 16)).e.toNat
def gd(k:ah)(a:Int)(n:Nat):ah:={k with F:=⟨⟨k.F.V.W.set (jV k a) (mA (nth k.F.V.W (jV k a)) (a % 16).toNat n),k.F.V.k⟩,k.F.O⟩}
theorem sU(r:List Int)(o:Nat):∀n,(mA r o n).length=r.length
 | 0=>rfl
 | n+1=>by unfold mA;rw[U1,sU r o n]
def Af{r:List Int}{o:Nat} : ∀{n:Nat}{v:Int},v∈mA r o n->v∈r\/v=0
 | 0,v,h=>.inl h
 | n+1,v,h=>by
  rcases V5 h with h|h
  ·exact Af h
  exact .inr h
theorem E0(h:aH k=true)(a:Int)(n:Nat):aH (gd k a n)=true:=by
 obtain⟨g,i,l,o,p⟩:=aI.1 h;obtain⟨q,r,t,c⟩:=bh.1 i;refine aI.2 ⟨g,bh.2 ⟨?_,?_,?_,λj b=>?_⟩,l,o,p⟩
 ·grind [gd]
 ·grind [gd]
 ·grind [gd]
 simp only[gd,U1]at b |-;simp only[cz];split
 ·rename_i e
  have d:=c j b;unfold ib at d |-;simp only[I0,C0,Z3]at d |-;rw[e.1]at *;refine⟨by grind [sU],λv f=>?_⟩;rcases Af f with f|rfl
  all_goals grind [iO]
 exact c j b
def vf(h:ac)(a:Int):Nat:=(h.M.findIdx? λl=>decide (l.Q*16=a)).getD 0
def freeL(h:ac)(i k:Nat):ac:={h with J:=dM h.J (nth h.M k).Q (nth h.M k).a3.toNat,M:=dele h.M k,b:=(bY (gn h) h.b ⟨(nth h.M k).Q,(nth h.M k).a3⟩).getD h.b,R:=dele h.R i}
def lZ(h:ac)(o:bc):aO:=⟨o.Addr,aV o.a2,h.b0⟩
def inQuar(h:ac)(i:Nat):ac:={h with J:=gd h.J (nth h.R i).Addr (csz (aV (nth h.R i).a2)).toNat,R:=dele h.R i,a5:=Kk h.a5 (lZ h (nth h.R i))}
def ML(h:ac)(t i:Nat):ac:=recycs t (inQuar h i) ((BZ h.a5 (lZ h (nth h.R i))).map (·.Addr))
def freeOb(h:ac)(t i:Nat):ac × Int:=
 if aV (nth h.R i).a2<0 then(freeL h i (vf h (nth h.R i).Addr),0)
 else if(ar (tbl h) ((nth h.R i).Addr / 16)).o=1 then(h,5)
 else(ML h t i,0)
theorem vF(n:l∈h.M)(e:a=16*l.Q):vf h a<h.M.length/\a=16*(nth h.M (vf h a)).Q/\(∀j,j<vf h a->(nth h.M j).Q*16≠a)/\h.M.findIdx? (λl=>decide (l.Q*16=a))=some (vf h a):=by
 cases c:h.M.findIdx? λl=>decide (l.Q*16=a) with
 | none=>
  grind
 | some k=>
  obtain⟨b,d,f⟩:=C6.1 c;have g:vf h a=k:=by grind [vf]
  rw[g];rw[<-bD (O2 b),C0]at d;refine⟨b,ω,λj i=>?_,rfl⟩;have:=f j i;rw[<-bD (O2 (show j<h.M.length by omega))]at this;simpa using this
theorem eC(a:bi h E)(f:o∈h.R):(aV o.a2<0->Tl h.M o.Addr o.a2)/\(¬aV o.a2<0->(∃s∈h.H,eS s o.Addr/\s.Z=aV o.a2)/\aV o.a2<=3):=by
 rcases a.oow o f with⟨s,g,b,c⟩|⟨l,d,b,c⟩
 ·have i:=aL (a.L.sok s g)
  grind
 have j:=cW (a.L.lok l d);refine⟨λ_=>⟨l,d,b,c⟩,λe=>absurd ?_ e⟩
 grind [aV]
theorem bi.inQuar{h:ac}{i:Nat}(a:bi h [])(g:i<h.R.length)(r:¬aV (nth h.R i).a2<0):bi (inQuar h i) ((BZ h.a5 (lZ h (nth h.R i))).map (·.Addr)):=by
 obtain⟨⟨s,j,l,t⟩,u⟩:=(eC a (ax g)).2 r;have b:iU h.H (nth h.R i).Addr (aV (nth h.R i).a2):=⟨s,j,l,.inr t⟩
 have c:=a.nums;unfold dh at c;rw[C0]at c;have w:=aL (a.L.sok s j);have n:=a.dropO g b.any;have A:=n.cells (k:=gd h.J (nth h.R i).Addr (csz (aV (nth h.R i).a2)).toNat) (E0 a.ker _ _) rfl;have d:∀y∈h.a5.a1,y.Addr≠(nth h.R i).Addr:=λy o e=>by
  have f:=n.nd;rw[List.cons_append,List.nil_append]at f
  grind [holders]
 have p:=bi.toQuar (x:=lZ h (nth h.R i)) (q:=Kk h.a5 (lZ h (nth h.R i))) (out:=BZ h.a5 (lZ h (nth h.R i))) A (PW a.quar ⟨by show 0<=aV _;omega,u,by show 0<=(nth h.R i).Addr;have:=l.1;omega,c.2.2.1⟩ (λy o=>a.snc y o) d) (by grind [List.take_append_drop,BZ,Kk]) (V4 _) b;rw[List.append_nil]at p;exact p
theorem bi.freeOb{h:ac}{t i:Nat}(a:bi h [])(c:i<h.R.length)(e:t<h.T.length):bi (freeOb h t i).1 []:=by
 unfold Ab.freeOb;split
 ·rename_i b
  obtain⟨l,f,d,-⟩:=(eC a (ax c)).1 b;obtain⟨g,j,-⟩:=vF f d
  grind [bi.dropL,freeL]
 rename_i b;split
 ·exact a
 have d:=a.inQuar c b;refine bi.recycs (E:=[]) ?_ e
 grind
theorem HD:∀{H L:List Int},H.Nodup->(∀x∈H,x∈L)->H.length<=L.length
 | [],L,_,_=>W0 _
 | y::H,L,b,c=>by
  have d:y∈L:=ψ
  have a:=List.nodup_cons.1 b;have:=HD (L:=L.erase y) a.2 ψ
  grind
theorem xY{H:List Int}(a:H.Nodup)(b:∀x∈H,0<=x/\x<n):H.length<=n:=by
 have:=HD (L:=(List.range n).map λ(i:Nat)=>(i:Int)) a λx c=>z4.2 ⟨x.toNat,List.mem_range.2 ψ,ψ⟩
 simpa using this
theorem ju{f:α->Int}{xs:List α}(h:xs.Pairwise λa b=>f a<f b):(xs.map f).Nodup:=ψ
theorem Li:∀(b:List (List Int))(k:Nat)(s:List Int),(fX k s b).isSome=true->∀l∈b,l.length<=8
 | [],_,_,_,l,a=>by cases a
 | x::b,k,s,h,l,a=>by
  simp only[fX]at h;cases e:eL k s x with
  | none=>grind
  | some c=>
   rw[e]at h;rcases List.mem_cons.1 a with rfl|a
   ·grind [eL]
   exact Li b (k+1) c h l a
theorem dZ{c:aE}(h:bF c=true):c.X.length=4/\∀l∈c.X,l.length<=8:=by grind [Li,bF]
structure tY(h:ac):Prop where
 cells:h.J.F.V.W.length<=32
 row:∀r∈h.J.F.V.W,r.length=16
 used:h.J.F.V.k.length<=32
 ents:h.J.F.O.K.length<=32
 ref:h.J.j.length<=40
 free:h.b.length<=32
 spans:h.H.length<=32
 larges:h.M.length<=32
 objs:h.R.length<=512
 caches:h.T.length<=4
 lists:∀c∈h.T,c.X.length=4/\∀l∈c.X,l.length<=8
 quar:h.a5.a1.length<=512
def iU.bd(b:bi h E)(d:iU h.H a c):0<=a/\a<512:=by
 obtain⟨s,e,⟨f,g,-⟩,-⟩:=d;have i:=aL (b.L.sok s e);omega
theorem bi.lens(a:bi h E):tY h:=by
 obtain⟨G,k,p,J,K,M,q⟩:=aI.1 a.ker;obtain⟨N,t,O,P⟩:=bh.1 k;obtain⟨Q,R,u⟩:=bt.1 p;obtain⟨w,S,T⟩:=f6.1 a.rng;obtain⟨U,V,A,W⟩:=jC.1 a.quar;have g:=a.mail;unfold bT at g;simp only[I0,C0]at g;have B:=a.nc;refine⟨t,λr i=>?_,ω,u,q,?_,?_,?_,?_,ω,λc C=>dZ (a.cach c C),?_⟩
 ·obtain⟨j,X,rfl⟩:=bo i
  grind [ib]
 ·have:=xY (H:=h.b.map (·.At)) (n:=32) (ju (w.1.imp_of_mem ψ)) λx b=>by
   obtain⟨r,i,rfl⟩:=z4.1 b
   grind
  simpa using this
 ·have:=xY (H:=h.H.map (·.Q)) (n:=32) a.L.nd λx b=>by
   obtain⟨s,d,rfl⟩:=z4.1 b;have:=aL (a.L.sok s d);omega
  simpa using this
 ·have:=xY (H:=h.M.map (·.Q)) (n:=32) (ju a.srl) λx b=>by
   obtain⟨l,f,rfl⟩:=z4.1 b;have:=aY (a.L.lok l f);omega
  simpa using this
 ·have:=xY (H:=h.R.map (·.Addr)) (n:=512) (ju a.osr) λx b=>by
   obtain⟨o,D,rfl⟩:=z4.1 b;rcases a.oow o D with⟨s,d,⟨Y,Z,-⟩,-⟩|⟨l,f,e,-⟩
   ·have:=aL (a.L.sok s d);omega
   have:=aY (a.L.lok l f);omega
  simpa using this
 have:=xY (H:=h.a5.a1.map (·.Addr)) (n:=512) A λx b=>by
  obtain⟨y,F,rfl⟩:=z4.1 b;exact(a.hqu y F).bd a
 simpa using this
theorem tY.sml(a:tY h)(b:aH h.J=true)(d:aM.sml h.u)(e:dy.sml h.y):ac.sml h:=
 ⟨bW b,⟨by grind [tY.free],λ_ _=>trivial⟩,⟨by grind [tY.spans],λ_ _=>trivial⟩,⟨by grind [tY.larges],λ_ _=>trivial⟩,⟨by grind [tY.objs],λ_ _=>trivial⟩,⟨by grind [tY.caches],λc f=>⟨by grind [tY.lists],λl g=>by have:=(a.lists c f).2 l g;show l.length<=1048576;omega⟩⟩,d,⟨by grind [tY.quar],λ_ _=>trivial⟩,e⟩
def lR(a:Int)(o:bc):Bool:=decide (o.Addr=a)
def ny(h:ac)(a:Int):Nat:=(cA (lR a) h.R).toNat
theorem bi.objAt(g:bi h E)(k:o∈h.R):ny h o.Addr<h.R.length/\nth h.R (ny h o.Addr)=o/\cA (lR o.Addr) h.R=(ny h o.Addr:Nat):=by
 obtain⟨i,c,rfl⟩:=bo k;have l:cA (lR (nth h.R i).Addr) h.R=(i:Nat):=ep (au c) (by unfold lR;simp) λj z n d=>by
  have a:=bD d;have b:=(U2.1 d).1;subst a;unfold lR;refine U0 λe=>?_
  have:=iz (f:=(·.Addr)) (ju g.osr) b c e;omega
 grind [ny]
theorem pG(k:ah)(p:Int)(n:Nat):(dM k p n).Calls=k.Calls/\(dM k p n).j=k.j:=(gK k p n).2
def N3(y:aC)(a:List aC):cZ [] (y::a)=cZ [y] a:=by rw[cZ];rfl
theorem EW[Inhabited α]{xs:List α}(h:xs≠[]):xs.getLast? = some (nth xs (xs.length - 1)):=by grind [List.length_pos_iff,au]
theorem LW{xs:List α}(h:xs≠[])(v:α):xs.dropLast++[v]=xs.set (xs.length - 1) v:=by
 have a:0<xs.length:=ψ
 refine List.ext_getElem (by simp;omega) λi b c=>?_
 grind
theorem L8{a:List aC}(h:out≠[])(e:(nth out (out.length - 1)).At+(nth out (out.length - 1)).a4=y.At):cZ out (y::a)=cZ (out.set (out.length - 1) ⟨(nth out (out.length - 1)).At,(nth out (out.length - 1)).a4+y.a4⟩) a:=by grind [EW,LW,cZ]
theorem PY{a:List aC}(h:out≠[])(e:¬(nth out (out.length - 1)).At+(nth out (out.length - 1)).a4=y.At):cZ out (y::a)=cZ (out++[y]) a:=by grind [EW,cZ]
theorem sw(xs:List aC)(w:xs.length<=4194304)(n:∀y∈xs,0<=y.At/\1<=y.a4/\y.At+y.a4<=1048576):zzA 573 false [.val none (bE .U xs)] .one (bE .own (cZ [] xs)):=by
 refine fO 63 [(6,21,[15,16,17,18,19,20,21,22,23,24,25,26,27,28,29,30,31,32,33,34,35]),(7,15,[38,39,40,41,42,43,44,45,46,47,48,49,50,51,52])] Tryz.func573 rfl ?_ (.inr (jE _))
 repeat'(first|refine gP ?_|fail)
 (conv=>whnf)
 refine CD (ι:=Nat × List aC) (λq=>[(0,.G .one (bE .U xs)),(3,.G .one (bE .own q.2)),(4,.G .one [I ((q.1:Nat):Int)])]) (λq=>q.1<=xs.length/\cZ q.2 (xs.drop q.1)=cZ [] xs/\q.2.length<=q.1/\∀y∈q.2,0<=y.At/\1<=y.a4/\y.At+y.a4<=1048576) (λq=>xs.length - q.1) ((0,[])) ?_ ψ λq o=>?_
 ·exact wB
 obtain⟨i,out⟩:=q;obtain⟨p,a,g,b⟩:=o;simp only at p a g b |-;by_cases h:i<xs.length
 ·have j:=au h
  have B:=n _ (ax h);rw[gR h]at a;by_cases k:out=[]
  ·subst k
   rw[N3]at a;have D:([]:List aC).length=0:=rfl
   repeat'(first|refine gE ?_|(conv=>whnf);first|with_reducible refine CB (aa j) ?_|refine Ln.mk (show List.length _=0 from rfl) ?_|refine Ap.sm (λr t=>by cases t) rfl (by simp) (by decide) rfl ?_)
   ((conv=>whnf)
    refine CC (i+1,[nth xs i]) ψ (by simp only;omega) ?_
    (repeat'(first|exact trivial|rfl|exact CG rfl (CG (X0 (C.s dH.own) (by simp[aC.enc])) trivial)|refine CG ?_ ?_)))
  have l:0<out.length:=ψ
  have d:out[((out.length:Int) - 1).toNat]? = some (nth out (out.length - 1)):=by
   rw[show((out.length:Int) - 1).toNat=out.length - 1 by omega];grind [au]
  have u:=b _ (ax (xs:=out) (i:=out.length - 1) ω);by_cases e:(nth out (out.length - 1)).At+(nth out (out.length - 1)).a4=(nth xs i).At
  ·rw[L8 k e]at a
   repeat'(first|refine gB ?_|(conv=>whnf);first|with_reducible refine CB (aa j) ?_|refine CL ω (aa d) ?_|refine CE rfl (aa d) rfl ?_|refine CN rfl rfl (aa d) rfl (I1 rfl) rfl ?_)
   ((conv=>whnf)
    refine CC (i+1,out.set (out.length - 1) ⟨(nth out (out.length - 1)).At,(nth out (out.length - 1)).a4+(nth xs i).a4⟩) ⟨(by simp only;omega),a,ψ,(λy c=>?_)⟩ (by simp only;omega) ?_)
   ·rcases V5 c with c|rfl
    ·exact b y c
    simp only;omega
   (repeat'(first|exact trivial|rfl|exact CG rfl (CG (X0 (C.s dH.own) (by rw[show((out.length:Int) - 1).toNat=out.length - 1 by omega,S5];rfl)) trivial)|refine CG ?_ ?_))
  rw[PY k e]at a
  repeat'(first|refine gB ?_|(conv=>whnf);first|with_reducible refine CB (aa j) ?_|refine CL ω (aa d) ?_|refine CE rfl (aa d) rfl ?_|refine Ap.sm (aQ λ_=>rfl) rfl (by simp;omega) (by decide) rfl ?_)
  ((conv=>whnf)
   refine CC (i+1,out++[nth xs i]) ⟨(by simp only;omega),a,(by simp;omega),(λy c=>?_)⟩ (by simp only;omega) ?_)
  ·rcases z3.1 c with c|c
   all_goals simp_all
  (repeat'(first|exact trivial|rfl|exact CG rfl (CG (X0 (C.s dH.own) (by simp[aC.enc])) trivial)|refine CG ?_ ?_))
 obtain rfl:i=xs.length:=ω
 rw[List.drop_length]at a
 repeat'(first|refine gE ?_|fail)
 rw[<-a];rfl
def zU(r y:aC)(a:List aC)(put:Bool):mg r (y::a) put=if ovl y r then none else if !put&&decide (y.At > r.At) then(mg r a true).map λt=>r::y::t else(mg r a put).map λt=>y::t:=by rw[mg]
theorem yH(pages:Int)(xs:List aC)(r:aC)(G:0<=pages/\pages<=1048576)(H:ge xs):zzA 519 false [.val none [I pages],.val none (bE .U xs),.val (some 2) (aC.enc .U r)] (.tup [none,none]) (BW xs (bY pages xs r)):=by
 have o:=H.1;have j:=yV pages xs G H;have p:=xh pages r G;cases k:bC pages xs<;>rw[k]at j
 ·rw[show bY pages xs r=none by unfold bY;rw[C8 (by rw[k];simp)]]
  refine fO 82 [] Tryz.func519 rfl ?_ (.inr (kM _ _))
  repeat'(first|refine gP ?_|(conv=>whnf);first|refine C7 (j) ?_|refine CR (λ_=>rfl) (λ_=>rfl) o (by decide) ?_)
  rfl
 cases u:rangeIn pages r<;>rw[u]at p
 ·rw[show bY pages xs r=none by unfold bY;rw[C8 (by rw[u];simp)]]
  refine fO 82 [] Tryz.func519 rfl ?_ (.inr (kM _ _))
  repeat'(first|refine gP ?_|(conv=>whnf);first|refine C7 (j) ?_|refine C7 (p) ?_|refine CR (λ_=>rfl) (λ_=>rfl) o (by decide) ?_)
  rfl
 obtain⟨J,K⟩:=vC k;have l:0<=r.At/\1<=r.a4/\r.At+r.a4<=pages:=by grind [rangeIn]
 rw[show bY pages xs r=(mg r xs false).map (cZ []) by unfold bY;rw[CA ⟨k,u⟩,zN (pages:=pages) J l.2.1 ψ]];refine fO 82 [] Tryz.func519 rfl ?_ (.inr (kM _ _))
 repeat'(first|refine gP ?_|(conv=>whnf);first|refine C7 (j) ?_|refine C7 (p) ?_|refine CR (λ_=>rfl) (λ_=>rfl) o (by decide) ?_)
 (conv=>whnf)
 refine CD (ι:=Nat × List aC × Bool) (λq=>[(1,.G .one (bE .U xs)),(5,.G .box (aC.enc .U r)),(8,.G .one (bE .own xs)),(9,.G .one (bE .own q.2.1)),(10,.G .one [B (q.2.2)]),(11,.G .one [I ((q.1:Nat):Int)])]) (λq=>q.1<=xs.length/\(mg r (xs.drop q.1) q.2.2).map (q.2.1++·)=mg r xs false/\q.2.1.length<=q.1+q.2.2.toNat/\(∀y∈q.2.1,0<=y.At/\1<=y.a4/\y.At+y.a4<=1048576)) (λq=>xs.length - q.1) ((0,[],false)) ?_ (⟨W0 _,by simp,by simp,by simp⟩) λq d=>?_
 ·exact wB
 obtain⟨i,out,put⟩:=q;obtain⟨L,b,c,e⟩:=d;simp only at L b c e |-;have M:0<=r.At/\1<=r.a4/\r.At+r.a4<=1048576:=ω
 by_cases w:i<xs.length
 ·have n:=au w
  have N:=K _ (ax w);have E:0<=(nth xs i).At/\1<=(nth xs i).a4/\(nth xs i).At+(nth xs i).a4<=1048576:=ω
  rw[gR w]at b;by_cases h:ovl (nth xs i) r=true
  ·rw[<-b]
   rw[zU,CA h];unfold ovl at h;rw[C0]at h
   repeat'(first|refine gE ?_|(conv=>whnf);first|with_reducible (first|refine CB (aa n) ?_|refine Bf.D (λd=>?_) (λd=>?_)))
   rfl
  rw[zU,C8 h]at b;unfold ovl at h;rw[C0]at h;cases put with
  | false=>
   have c:out.length<=i:=by simpa using c
   by_cases O:(nth xs i).At > r.At
   ·rw[CA (by simp;omega),Option.map_map]at b
    repeat'(first|refine gE ?_|(conv=>whnf);first|with_reducible (first|refine CB (aa n) ?_|refine Bf.D (λd=>?_) (λd=>?_))|refine Ap.sm (aQ λ_=>rfl) rfl (by simp;omega) (by decide) rfl ?_|refine Ap.sm (λr l=>by simp at l;rcases l with⟨a,_,rfl⟩|rfl<;>rfl) rfl (by simp;omega) (by decide) rfl ?_)
    ((conv=>whnf)
     refine CC (i+1,out++[r,nth xs i],true) ⟨(by simp only;omega),(by rw[<-b];congr 1;funext t;simp),(by simp;omega),(λy g=>?_)⟩ (by simp only;omega) ?_)
    ·grind
    (repeat'(first|exact trivial|rfl|exact CG rfl (CG (X0 (C.s dH.own) (by simp[aC.enc])) trivial)|refine CG ?_ ?_))
   rw[C8 (by simp;omega),Option.map_map]at b
   repeat'(first|refine gE ?_|(conv=>whnf);first|with_reducible (first|refine CB (aa n) ?_|refine Bf.D (λd=>?_) (λd=>?_))|refine Ap.sm (aQ λ_=>rfl) rfl (by simp;omega) (by decide) rfl ?_)
   ((conv=>whnf)
    refine CC (i+1,out++[nth xs i],false) ⟨(by simp only;omega),(by rw[<-b];congr 1;funext t;simp),(by simp;omega),(λy g=>?_)⟩ (by simp only;omega) ?_)
   ·grind
   (repeat'(first|exact trivial|rfl|exact CG rfl (CG (X0 (C.s dH.own) (by simp[aC.enc])) trivial)|refine CG ?_ ?_))
  | true=>
   have c:out.length<=i+1:=c;rw[C8 (by simp),Option.map_map]at b;by_cases P:(nth xs i).At<r.At+r.a4
   all_goals
    repeat'(first|refine gE ?_|(conv=>whnf);first|with_reducible (first|refine CB (aa n) ?_|refine Bf.D (λd=>?_) (λd=>?_))|refine Ap.sm (aQ λ_=>rfl) rfl (by simp;omega) (by decide) rfl ?_)
    ((conv=>whnf)
     refine CC (i+1,out++[nth xs i],true) ⟨(by simp only;omega),(by rw[<-b];congr 1;funext t;simp),(by simp;omega),(λy g=>?_)⟩ (by simp only;omega) ?_)
    ·rcases z3.1 g with g|g
     ·exact e y g
     rw[O1.1 g];exact E
    (repeat'(first|exact trivial|rfl|exact CG rfl (CG (X0 (C.s dH.own) (by simp[aC.enc])) trivial)|refine CG ?_ ?_))
 obtain rfl:i=xs.length:=ω
 rw[List.drop_length]at b;cases put with
 | false=>
  have c:out.length<=xs.length:=by simpa using c
  rw[<-b];have F:=sw (out++[r]) (by simp;omega) ψ
  repeat'(first|refine gE ?_|(conv=>whnf);first|refine Ap.sm (aQ λ_=>rfl) rfl (by simp;omega) (by decide) (show(out++[r]).map (aC.enc .own)=_ by simp[aC.enc]) ?_|refine CJ (F) ⟨⟨rfl,jF _⟩,trivial⟩ ?_)
  rfl
 | true=>
  have c:out.length<=xs.length+1:=c;rw[<-b];have F:=sw out ω e
  repeat'(first|refine gE ?_|(conv=>whnf);first|refine CJ (F) ⟨⟨rfl,jF _⟩,trivial⟩ ?_)
  simp[mg,BW]
  rfl
theorem shl64{i:Int}(a:0<=i/\i<=15):IntKind.i64.wrap (1*2 ^ min i.toNat IntKind.i64.bits)=2 ^ i.toNat/\0<=(2:Int) ^ i.toNat/\(2:Int) ^ i.toNat<=32768:=by
 have b:min i.toNat IntKind.i64.bits=i.toNat:=Nat.min_eq_left (show i.toNat<=64 by omega);have c:(0:Int)<=2 ^ i.toNat/\(2:Int) ^ i.toNat<=32768:=by
  have:(2:Nat) ^ i.toNat<=2 ^ 15:=Nat.pow_le_pow_right (by decide) ω
  grind
 grind [fF]
theorem clr64{i:Int}(a:0<=b/\b<=65535):IntKind.i64.wrap ((BitVec.ofInt IntKind.i64.bits b &&& ~~~BitVec.ofInt IntKind.i64.bits (2 ^ i.toNat)).toNat:Nat)=vW b i:=by
 have:=Ba (i:=i) a
 grind [fF,vW]
theorem tq(b i:Int)(c:0<=b/\b<=65535)(d:0<=i/\i<=15):zzA 574 false [.val none [I b],.val none [I i]] .one [I (vW b i)]:=by
 have a:=tT b i;rw[O0 ω]at a;have e:IntKind.u64.wrap i=i:=by grind [Go.IntKind.wrap,Go.IntKind.bits]
 refine fO 15 [] Tryz.func574 rfl ?_
 repeat'(first|refine gP ?_|(conv=>whnf);first|refine C9 ?_|refine C7 (a) ?_|refine CM ω ?_|refine CH e ?_|refine CH (shl64 d).1 ?_|refine CH (clr64 c) ?_)
 rfl
def tM(b i:Int)(c:0<=b/\b<=65535)(d:0<=i/\i<=15):zzA 491 false [.val none [I b],.val none [I i]] .one [I (vW b i)]:=by
 have a:=pp b i;rw[O0 ω]at a;refine fO 14 [] Tryz.func491 rfl ?_
 repeat'(first|refine gP ?_|(conv=>whnf);first|refine C9 ?_|refine C7 (a) ?_|refine CM ω ?_|refine CH (shl64 d).1 ?_|refine CH (clr64 c) ?_)
 rfl
theorem HE{k:Int}(a:aW s.a7 k=true):0<=k/\k<=15:=by grind [ia]
def yF(s:ay)(k:Int)(a:bg s=true)(b:aW s.a7 k=true):zzA 523 false [.val (some 3) (ay.enc .U s),.val none [I k]] (.tup [some 3,none]) (ay.enc .own (kw s k)++[B true]):=by
 have e:=dQ a;have g:=HE b;have c:=ic s;have d:=k6 s.a7 k ω;rw[a]at c;rw[b]at d;refine fO 23 [] Tryz.func523 rfl ?_ (.inr (aD (ay.enc_fr _) ⟨trivial,trivial⟩))
 repeat'(first|refine gP ?_|(conv=>whnf);first|refine C9 ?_|refine C7 (c) ?_|refine C7 (d) ?_|refine C7 (tq s.a7 k e g) ?_)
 rfl
def yO(s:ay)(k:Int)(a:bg s=true)(b:aW s.a7 k=true):zzA 385 false [.val (some 3) (ay.enc .U s),.val none [I k]] (.tup [some 3,none]) (ay.enc .own (kw s k)++[B true]):=by
 have e:=dQ a;have g:=HE b;have c:=gc s;have d:=gv s.a7 k ω;rw[a]at c;rw[b]at d;refine fO 23 [] Tryz.func385 rfl ?_ (.inr (aD (ay.enc_fr _) ⟨trivial,trivial⟩))
 repeat'(first|refine gP ?_|(conv=>whnf);first|refine C9 ?_|refine C7 (c) ?_|refine C7 (d) ?_|refine C7 (tM s.a7 k e g) ?_)
 rfl
def M4(c:aE)(k:Int)(b:aE.sml c):zzA 477 false [.val (some 1) (aE.enc .U c),.val none [I k]] .one [B (bF c&&decide (0<=k/\k<=3))]:=by
 have a:=B9 c b;cases e:bF c<;>rw[e]at a
 all_goals
  refine fO 11 [] Tryz.func477 rfl ?_
  repeat'(first|refine gP ?_|(conv=>whnf);first|refine C9 ?_|refine C7 (a) ?_|refine C7 (bj k 0 3) ?_)
  all_goals rfl
def qG(c:aE)(k:Int)(a:aE.sml c):zzA 333 false [.val (some 1) (aE.enc .U c),.val none [I k]] .one [B (decide (0<=k/\k<=3)&&bF c)]:=by
 have b:=nw c a;refine fO 11 [] Tryz.func333 rfl ?_
 repeat'(first|refine gP ?_|(conv=>whnf);first|with_reducible refine Bf.D (λd=>?_) (λd=>?_)|refine C9 ?_|refine C7 (b) ?_|refine C7 (eM k) ?_)
 all_goals exact X0 (λz=>[B z]) ((by simp[*]))
def pm{c:aE}{k:Nat}(a:k<c.X.length):c.X[k]? = some (nth c.X k):=au a
theorem LA{c:aE}(h:bF c=true)(k:Nat)(a:Int):aE.sml (nG c k a):=by
 obtain⟨e,d⟩:=dZ h;refine⟨by grind [nG],λl b=>?_⟩;rcases V5 b with b|rfl
 ·have:=d l b;show l.length<=1048576;omega
 show(nth c.X k++[a]).length<=1048576;by_cases f:k<c.X.length
 ·grind [ax]
 have:nth c.X k=[]:=by unfold nth;rw[W2,List.getElem?_eq_none ω];rfl
 rw[this];simp
theorem Ez(c:aE)(k:Nat)(a:Int):aE.enc .own (nG c k a)=[.s .own ((c.X.map (aK .own)).set k (aK .own (nth c.X k++[a])))]:=by grind [S5,aE.enc,nG]
theorem eH{f:α->List C}{xs:List α}{k:Nat}{y:α}(h:xs[k]? = some y):((xs.map f).set k r)[k]? = some r:=ψ
def fY(f:α->β)(xs:List α)(y:α):(xs++[y]).map f=xs.map f++[f y]:=by simp
def H1(c:aE)(k a:Int):List C:=aE.enc .own ((cput c k a).getD c)++[B (cput c k a).isSome]
def KS(c:aE)(k a:Int):g9 (H1 c k a):=aD (aE.enc_fr _) ⟨trivial,trivial⟩
theorem FA(o:bc)(a:Int):zzA 252 false [.val (some 4) (bc.enc .U o),.ptr [I a]] .one [B (lR a o)]:=by
 refine fO 8 [] Tryz.func252 rfl ?_
 repeat'(first|refine gP ?_|(conv=>whnf);first|refine C9 ?_)
 grind [lR]
def qJ(h:ac)(a:Int)(c:h.R.length<=1048576):zzA 97 false [.val (some 24) (ac.enc .U h),.val none [I a]] .one [I (cA (lR a) h.R)]:=by
 refine fO 9 [] Tryz.func97 rfl ?_
 repeat'(first|refine gP ?_|(conv=>whnf);first|refine C9 ?_|refine Cq.mk (nB (some 4) (bc.enc .U) (lR a) h.R) (FA default a).has (λL k rcs b=>?_) ?_|refine C7 (jy h.R (lR a) ω) ?_)
 ·obtain⟨y,-,rfl,rfl,rfl⟩:=b
  exact FA y a
 rfl
theorem jW(xs:List aA)(pr:aA->Bool)(g:xs.length<=9223372036854775807):zzA 100 false [.val none (cv .U xs),.fn (lv Tryz.prog (nB (some 3) (aA.enc .U) pr xs))] .one [I (cA pr xs)]:=by
 refine fO 19 [] Tryz.func100 rfl ?_
 repeat'(first|refine gP ?_|(conv=>whnf);first|refine C9 ?_)
 (conv=>whnf)
 refine CD (ι:=Nat) (λi=>[(0,.G .one (cv .U xs)),(1,.fv (lv Tryz.prog (nB (some 3) (aA.enc .U) pr xs))),(7,.G .one [I xs.length]),(8,.G .one [I (i:Nat)])]) (λi=>i<=xs.length/\∀(j:Nat)(z:aA),j<i->xs[j]? = some z->pr z=false) (λi=>xs.length - i) 0 ?_ ψ λi b=>?_
 ·exact wB
 obtain⟨b,d⟩:=b;by_cases a:i<xs.length
 ·obtain⟨y,c⟩ : ∃y,xs[i]? = some y:=⟨_,O2 a⟩
  repeat'(first|refine gE ?_|(conv=>whnf);first|with_reducible refine CB (aa c) ?_|refine C9 ?_|refine Fv.mk (k:=.one) (rcs:=[B (pr y)]) ⟨y,C2 c,rfl,rfl,rfl⟩ ?_|refine Bf.P (λe=>?_) (λe=>?_))
  ·grind [ep]
  (conv=>whnf)
  refine CC (i+1) ψ ω ?_;exact wB
 repeat'(first|refine gE ?_|(conv=>whnf);first|refine C9 ?_)
 exact X0 (λz=>[I z]) (gN ω d).symm
def lL(x:ac):List C:=[.s .own (x.J.F.V.W.map (aK .own)),.s .own (x.J.F.V.k.map (rB .own)),.s .own (x.J.F.O.K.map (bp.enc .own)),I x.J.Calls,.s .own (x.J.j.map (rI .own)),.s .own (x.b.map (aC.enc .own)),.s .own (x.H.map (ay.enc .own)),.s .own (x.M.map (aA.enc .own)),.s .own (x.R.map (bc.enc .own)),.s .own (x.T.map (aE.enc .own)),.s .own (x.u.S.map (bL .own)),.s .own (x.u.d.map (aK .own)),I x.a5.b7,.s .own (x.a5.a1.map (aO.enc .own)),I x.b5,I x.b0,I x.c1,I x.w,B x.q,I x.y.Y.a8,I x.y.Y.a6,.s .U (x.y.Y.W.map (rI .U)),I x.y.a9,I x.y.w]
def mJ(x:ac):dN (lL x)=ac.enc .U x:=by simp[dN,lL,ac.enc,CW,bp.enc_fz,aA.enc_fz,bc.enc_fz,aC.enc_fz,ay.enc_fz,aO.enc_fz,rB,kW,rI,eg,<-bX,C5]
variable{g:Nat}
theorem Pu.two{f a:List C}{off k h b:Nat}{cs:List C}{K:List C->Prop}{o c:dH}{rows2:List (List C)}{d:List C}(h1:f[off]? = some (.s o rows))(n:o.mine=true)(u:rows[i]? = some r)(w:r.length=k)(y:r[j]? = some (.s c rows2))(p:c.mine=true)(A:rows2[g]? = some d)(B:d.length=h)(D:b+cs.length<=h)(E:a=f.set off (.s o (rows.set i (r.set j (.s c (rows2.set g (splice d b cs)))))))(q:K a):Pu f off [(i,k,j),(g,h,b)] cs K:=by
 have t:o≠.U:=λe=>by subst e;cases n
 have l:c≠.U:=λe=>by subst e;cases p
 refine Pu.mk (r:=d) (j:=b) (by grind [ci]) (by grind [kr]) ω (by grind [fB]) q
def DJ(x:List ay):fz (.s .own (x.map (ay.enc .own)))=.s .U (x.map (ay.enc .U)):=(List.cons.inj (dP x)).1
def J9(x:List aA):fz (.s .own (x.map (aA.enc .own)))=.s .U (x.map (aA.enc .U)):=(List.cons.inj (io x)).1
def Pj(x:List bc):fz (.s .own (x.map (bc.enc .own)))=.s .U (x.map (bc.enc .U)):=(List.cons.inj (Kl x)).1
theorem Ap.dele{e:α->List C}{xs:List α}(a:∀y,(e y).length=sz)(b:∀y,bn (e y)=true)(h:xs.length<=1048576)(c:by_<=1000)(d:K ((Ab.dele xs i).map e)):Ap true ((xs.take i).map e) ((xs.drop (i+1)).map e) sz by_ K:=by
 have f:(xs.take i).length+(xs.drop (i+1)).length<=2097152:=ψ
 refine CQ (aQ a) (aQ a) (λ_ r g=>by obtain⟨y,-,rfl⟩:=z4.1 g;exact b y) (by rw[C1,C1];omega) (by rw[C1,C1];exact U4 (Nat.mul_le_mul f c) (by decide)) ?_ d;unfold Ab.dele;rw[z5]
def JQ(h:ac)(p:Int)(a:aN.sml h.J.F.O):zzA 485 false [.ptr (ac.enc .U h),.val none [I p]] .one [I (ar h.J.F.O p).o]:=by
 refine fO 13 [] Tryz.func485 rfl ?_
 repeat'(first|refine gP ?_|(conv=>whnf);first|refine C9 ?_|refine C7 (kQ h.J.F.O p a) ?_)
 rfl
def Qg(h:ac):List C:=(lL h).drop 5
def R2(h:ac)(k:ah):lL {h with J:=k} = ah.enc .own k++Qg h:=rfl
def FV(h:ac):Qg h=[.s .own (h.b.map (aC.enc .own)),.s .own (h.H.map (ay.enc .own)),.s .own (h.M.map (aA.enc .own)),.s .own (h.R.map (bc.enc .own)),.s .own (h.T.map (aE.enc .own)),.s .own (h.u.S.map (bL .own)),.s .own (h.u.d.map (aK .own)),I h.a5.b7,.s .own (h.a5.a1.map (aO.enc .own)),I h.b5,I h.b0,I h.c1,I h.w,B h.q,I h.y.Y.a8,I h.y.Y.a6,.s .U (h.y.Y.W.map (rI .U)),I h.y.a9,I h.y.w]:=rfl
def Kr(h:ac)(f:Int)(a:aN.sml h.J.F.O)(b:0<=f/\f<h.J.F.V.W.length/\f<h.J.F.V.k.length) :
  zzB 486 false [.ptr (lL h),.val none [I f]] [.ptr (lL {h with J:=fH h.J f}),.val none [I f]] (.tup []) []:=by
 have c:=au (xs:=h.J.F.V.W) (i:=f.toNat) ω;have d:=au (xs:=h.J.F.V.k) (i:=f.toNat) ω;rw[R2 h (fH h.J f)];by_cases e:(pagesOn h.J.F.O f).length=0
 ·rw[sX e,FV]
  refine fM 30 [] [(2,8,[21,22,23,24,25,26,27,28])] [(0,0),(0,0)] Tryz.func486 rfl (λu q=>?_) (.inr trivial)
  repeat'(first|refine gB ?_|(conv=>whnf);first|with_reducible (first|refine CL b.1 (aa d) ?_|refine CL b.1 (aa c) ?_)|refine C9 ?_|refine CJ (gr h.J.F.O f a) ⟨⟨rfl,aN.enc_fz h.J.F.O⟩,⟨rfl,rfl⟩,trivial⟩ ?_|refine CN rfl rfl (aa c) rfl (I1 rfl) rfl ?_|refine CN rfl rfl (aa d) rfl (I1 rfl) rfl ?_|refine Mk.mk 16 rfl rfl (by decide) (by decide) rfl ?_)
  refine CK rfl rfl ?_;exact wB
 rw[xI e];show bf _ _ _ [.ptr (lL h),_] [.ptr (lL h),_] _ _;refine fM 30 [] [(2,8,[21,22,23,24,25,26,27,28])] [(0,0),(0,0)] Tryz.func486 rfl (λu q=>?_) (.inr trivial)
 repeat'(first|refine gB ?_|(conv=>whnf);first|refine C9 ?_|refine CJ (gr h.J.F.O f a) ⟨⟨rfl,aN.enc_fz h.J.F.O⟩,⟨rfl,rfl⟩,trivial⟩ ?_)
 refine CK rfl rfl ?_;exact wB
theorem Hf(h:ac)(p:Int)(b:aH h.J=true) :
  zzB 374 false [.ptr (lL h),.val none [I p]] [.ptr (lL {h with J:=cr h.J p}),.val none [I p]] .one [B (decide ((ar h.J.F.O p).o≠0))]:=by
 have k:=bW b;have c:=JQ h p k.1.2;by_cases a:(ar h.J.F.O p).o=0
 ·rw[show cr h.J p=h.J by unfold cr;rw[CA a]]
  refine fM 32 [(486,[2,0])] [] [(0,0),(0,0)] Tryz.func374 rfl (λu q=>?_)
  repeat'(first|refine gB ?_|(conv=>whnf);first|refine C9 ?_|refine CJ (c) ⟨mJ h,⟨rfl,rfl⟩,trivial⟩ ?_)
  refine CK rfl ?_ ?_
  ·exact X0 (λz=>[B z]) ((by simp[a]))
  exact wB
 obtain⟨l,r,n,d,o⟩:=bZ b a;have j:=(bh.1 (aI.1 b).2.1).2.2.1;rw[show cr h.J p=fH (lr h.J p) (ar h.J.F.O p).e by unfold cr;rw[C8 a]];have e:=Kr {h with J:=lr h.J p} (ar h.J.F.O p).e (wy b) ⟨d,by grind [lr],by grind [lr]⟩;rw[R2 h (lr h.J p),w9,FV]at e;have g:=au (xs:=h.J.F.O.K) (i:=p.toNat) ω;rw[n]at c e a |-;refine fM 32 [(486,[2,0])] [] [(0,0),(0,0)] Tryz.func374 rfl (λu q=>?_)
 repeat'(first|refine gB ?_|(conv=>whnf);first|with_reducible refine CL l (aa g) ?_|refine C9 ?_|refine CJ (c) ⟨mJ h,⟨rfl,rfl⟩,trivial⟩ ?_|refine CN rfl rfl (aa g) rfl (I1 rfl) rfl ?_|refine CE rfl (aa g) rfl ?_|refine CF (e) (.inl rfl) ?_)
 refine CK rfl ?_ ?_
 ·exact X0 (λz=>[B z]) ((by simp[a]))
 exact wB
def ED(h:ac)(p:Int):zzA 367 false [.ptr (ac.enc .U h),.val none [I p]] .one [B (fp h p)]:=by
 cases e:h.q
 all_goals
  have b:ac.enc .U h=(ac.enc .U h).set 18 (B h.q):=rfl;rw[e]at b;rw[b];refine fO 29 [] Tryz.func367 rfl ?_
  repeat'(first|refine gP ?_|(conv=>whnf);first|with_reducible (first|refine Bf.D (λa=>?_) (λa=>?_)|refine Bf.E (λa=>?_) (λa=>?_)|refine Bf.N (λa=>?_) (λa=>?_))|refine C9 ?_)
  all_goals exact X0 (λz=>[B z]) ((by unfold fp;rw[e];first|(simp[*];done)|(simp[*];rw[T4];simp)))
def yx(h:ac):zzA 372 false [.ptr (ac.enc .U h)] .one [I (gn h:Nat)]:=by
 refine fO 11 [] Tryz.func372 rfl ?_
 repeat'(first|refine gP ?_|(conv=>whnf);first|refine C9 ?_)
 rfl
theorem Bx(h:ac)(E:List Int)(i:Nat)(a:bi h E)(e:i<h.H.length):zzB 524 false [.ptr (lL h),.val none [I (i:Nat)]] [.ptr (lL (giveP h i)),.val none [I (i:Nat)]] (.tup []) []:=by
 have b:=a.lens;have g:=b.spans;have c:=au e;have j:=Hf {h with H:=dele h.H i} (nth h.H i).Q a.ker;have d:=yx {h with J:=cr h.J (nth h.H i).Q,H:=dele h.H i};rw[show gn {h with J:=cr h.J (nth h.H i).Q,H:=dele h.H i} = gn h from(qV _ _).1]at d;have k:gn h<=32:=b.ents;have l:=yH (gn h:Nat) h.b ⟨(nth h.H i).Q,1⟩ ω ⟨by grind [tY.free],λ_ _=>trivial⟩;refine fM 52 [(374,[2,0])] [(1,273,[13,14,15,16,17,18,19,20,22,23,24,25,26,27,28,30,31,0,1,2,3,4,5,6,7,9,10,11,12,13,14,15,8,1000,1009,1010,1011,1012,1013,1014,1015,16,1000,17,18,19]),(1048577,0,[6]),(3,270,[38,39,40,41,42,43,44,45,47,37,48,49,50,51,0,1,2,3,4,5,6,7,8,1000,1001,1002,1003,1004,1005,1006,9,10,11,12,13,14,15,1012])] [(0,0),(0,0)] Tryz.func524 rfl (λu q=>?_) (.inr trivial)
 repeat'(first|refine gP ?_|(conv=>whnf);first|with_reducible refine CB (aa c) ?_|refine C9 ?_|refine Qs.mk rfl (DJ h.H) rfl ?_|refine CS i rfl (by rw[C1];omega) (aQ λ_=>rfl) t4 ?_|refine Sl.suf (i+1) rfl (by rw[C1];omega) (aQ λ_=>rfl) v4 ?_|refine Fl.cp (λ_=>rfl) (λ_=>rfl) (by rw[V1];omega) (by decide) ?_|refine Ap.dele (λ_=>rfl) (λ_=>rfl) ω (by decide) ?_|refine CR (λ_=>rfl) (λ_=>rfl) (by rw[V1];omega) (by decide) ?_|refine CE rfl (aa c) rfl ?_|refine C9 ?_|refine CF (j) (.inl rfl) ?_|refine CJ (d) ⟨mJ _,trivial⟩ ?_|refine CJ (l) ⟨⟨rfl,rfl⟩,⟨rfl,jF h.b⟩,⟨rfl,rfl⟩,trivial⟩ ?_)
 refine CK rfl rfl ?_;exact wB
def wt(h:ac)(i:Nat)(a:Int):lL (clrS h i a)=(lL h).set 6 (.s .own ((h.H.map (ay.enc .own)).set i (ay.enc .own (kw (nth h.H i) (dz (nth h.H i) a))))):=by
 simp[lL,clrS,S5]
theorem k7{f:α->β}{xs:List α}{y:β}(a:i<xs.length):((xs.map f).set i y)[i]? = some y:=ψ
def Kw(c:bg s=true)(b:eS s a):iC s a=(dz s a,0):=by
 unfold iC;rw[CA ((fV c).2 ⟨b.1,b.2.1⟩),b.2.2.1];rfl
theorem Dz(h:ac)(E:List Int)(a:Int)(c:bi h (a::E)):zzB 426 false [.ptr (lL h),.val none [I a]] [.ptr (lL (freeA h a)),.val none [I a]] (.tup []) []:=by
 obtain⟨j,n,t⟩:=c.at (c.hin a ψ);have d:=(c.hin a ψ).bd c;have B:=c.lens;have C:=B.spans;have e:=c.L.sok _ (ax j);have k:=E6 h (a / 16) ω;rw[t]at k;unfold freeA;generalize xH h a=i at j n k e;have b:=au j;have o:=uk (nth h.H i) a ⟨ω,ω⟩;rw[Kw e n]at o;have w:=yF (nth h.H i) (dz (nth h.H i) a) e n.2.2.2;have D:=c.give j n;have l:=ED (clrS h i a) (nth h.H i).Q;rw[show fp (clrS h i a) (nth h.H i).Q=fp h (nth h.H i).Q from rfl]at l;have p:=Bx (clrS h i a) E i D (by grind [clrS]);have r:=mJ (clrS h i a);rw[wt]at p r;have g:((h.H.map (ay.enc .own)).set i (ay.enc .own (kw (nth h.H i) (dz (nth h.H i) a))))[i]? = some (ay.enc .own (kw (nth h.H i) (dz (nth h.H i) a))):=k7 j;unfold freeS;by_cases y:(kw (nth h.H i) (dz (nth h.H i) a)).a7=0
 ·cases F:fp h (nth h.H i).Q<;>rw[F]at l
  ·rw[CA ⟨y,rfl⟩]
   refine fM 68 [(524,[2,0])] [(2,274,[26,27,28,29,30,31,32,33,34,35,36,37,38,39,25,40,41,42,0,1,2,3,4,5,6,7,8,9,10,11,12,13,14,15,16,17,18,1016])] [(0,0),(0,0)] Tryz.func426 rfl (λu q=>?_) (.inr trivial)
   repeat'(first|refine gB ?_|(conv=>whnf);first|with_reducible refine CH ((X0 _ (tdiv16 d.1)).trans (fF ω ω)) ?_|refine C9 ?_|refine CM (by decide) ?_|refine CJ (k) ⟨⟨rfl,mJ h⟩,⟨rfl,rfl⟩,trivial⟩ ?_|refine CB (aa b) ?_|refine CB g ?_|refine CE rfl (aa b) rfl ?_|refine CE rfl g rfl ?_|refine C7 (o) ?_|refine C7 (w) ?_|refine C9 ?_|refine CN rfl rfl (aa b) rfl (I1 rfl) rfl ?_|refine CJ (l) ⟨r,⟨rfl,rfl⟩,trivial⟩ ?_|refine CF (p) (.inl rfl) ?_)
   refine CK rfl rfl ?_;exact wB
  rw[C8 ψ];rw[wt];refine fM 68 [(524,[2,0])] [(2,274,[26,27,28,29,30,31,32,33,34,35,36,37,38,39,25,40,41,42,0,1,2,3,4,5,6,7,8,9,10,11,12,13,14,15,16,17,18,1016])] [(0,0),(0,0)] Tryz.func426 rfl (λu q=>?_) (.inr trivial)
  repeat'(first|refine gB ?_|(conv=>whnf);first|with_reducible refine CH ((X0 _ (tdiv16 d.1)).trans (fF ω ω)) ?_|refine C9 ?_|refine CM (by decide) ?_|refine CJ (k) ⟨⟨rfl,mJ h⟩,⟨rfl,rfl⟩,trivial⟩ ?_|refine CB (aa b) ?_|refine CB g ?_|refine CE rfl (aa b) rfl ?_|refine CE rfl g rfl ?_|refine C7 (o) ?_|refine C7 (w) ?_|refine C9 ?_|refine CN rfl rfl (aa b) rfl (I1 rfl) rfl ?_|refine CJ (l) ⟨r,⟨rfl,rfl⟩,trivial⟩ ?_|refine CF (p) (.inl rfl) ?_)
  refine CK rfl rfl ?_;exact wB
 rw[C8 λx=>y x.1];rw[wt];refine fM 68 [(524,[2,0])] [(2,274,[26,27,28,29,30,31,32,33,34,35,36,37,38,39,25,40,41,42,0,1,2,3,4,5,6,7,8,9,10,11,12,13,14,15,16,17,18,1016])] [(0,0),(0,0)] Tryz.func426 rfl (λu q=>?_) (.inr trivial)
 repeat'(first|refine gB ?_|(conv=>whnf);first|with_reducible refine CH ((X0 _ (tdiv16 d.1)).trans (fF ω ω)) ?_|refine C9 ?_|refine CM (by decide) ?_|refine CJ (k) ⟨⟨rfl,mJ h⟩,⟨rfl,rfl⟩,trivial⟩ ?_|refine CB (aa b) ?_|refine CB g ?_|refine CE rfl (aa b) rfl ?_|refine CE rfl g rfl ?_|refine C7 (o) ?_|refine C7 (w) ?_|refine C9 ?_|refine CN rfl rfl (aa b) rfl (I1 rfl) rfl ?_|refine CJ (l) ⟨r,⟨rfl,rfl⟩,trivial⟩ ?_|refine CF (p) (.inl rfl) ?_)
 refine CK rfl rfl ?_;exact wB
def QI(q:b9)(x:aO):List C:=b9.enc .own (Kk q x)++dA .own (BZ q x)
def Pa(q:b9)(x:aO):g9 (QI q x):=aD (b9.enc_fr _) (o6 _)
def wQ{z:Int}(h:0<=z/\z<512):IntKind.i64.wrap (z.tdiv 16)=z / 16:=(X0 _ (tdiv16 h.1)).trans (fF ω ω)
def xP(a:bi h E)(b:o∈h.R):0<=o.Addr/\o.Addr<512:=by
 rcases a.oow o b with⟨s,c,⟨f,g,-⟩,-⟩|⟨l,d,e,-⟩
 ·have:=aL (a.L.sok s c);omega
 have:=aY (a.L.lok l d);omega
theorem M8{k:Int}(h:0<=k/\k<=3):1<=csz k/\csz k<=8:=by grind [cT]
structure RO(h:ac)(o:bc):Prop where
 cl:0<=aV o.a2/\aV o.a2<=3
 fr:0<=(ar h.J.F.O (o.Addr / 16)).e/\(ar h.J.F.O (o.Addr / 16)).e<h.J.F.V.W.length
 fit:o.Addr % 16+csz (aV o.a2)<=16
 row:(nth h.J.F.V.W (jV h.J o.Addr)).length=16
theorem RO.of(a:bi h E)(i:o∈h.R)(k:¬aV o.a2<0):RO h o:=by
 obtain⟨⟨s,j,b,r⟩,t⟩:=(eC a i).2 k;have l:=aL (a.L.sok s j);have n:=xP a i;have u:s.Q=o.Addr / 16:=by have w:=b.1;have y:=b.2.1;omega
 have c:(o.Addr / 16).toNat<(tbl h).K.length:=by have:=a.pg.bnd _ (dG (la:=h.M) j);omega
 have d:(((o.Addr / 16).toNat:Nat):Int)=o.Addr / 16:=ω
 have A:=(a.pg.own _ c).2 (by grind [dG]);have e:(ar h.J.F.O (o.Addr / 16)).o≠0:=by grind [lS,tbl]
 obtain⟨-,-,-,f,p⟩:=bZ a.ker e;have q:=(bh.1 (aI.1 a.ker).2.1).2.2.1;have g:jV h.J o.Addr<h.J.F.V.W.length:=by unfold jV;omega
 refine⟨ω,⟨f,ω⟩,?_,a.lens.row _ (ax g)⟩;have B:=b.2.2.1
 grind [cT]
theorem Pk(h:ac)(a:Int)(b:jV h.J a<h.J.F.V.W.length):({h with J:=gd h.J a 0} : ac)=h:=by
 have e:h.J.F.V.W.set (jV h.J a) (nth h.J.F.V.W (jV h.J a))=h.J.F.V.W:=by
  refine List.ext_getElem? λi=>?_
  grind [au]
 unfold gd mA;rw[e]
theorem E2(t:Nat)(h:ac)(xs:List aO)(k:Nat)(a:k<xs.length):recycs t h ((xs.take (k+1)).map (·.Addr))=recyc t (recycs t h ((xs.take k).map (·.Addr))) (nth xs k).Addr:=by grind [t5,au,recycs]
def oE(rows:List (List C)):C:=match rows with|[]=>.s .U []|_=>.s .own rows
theorem n9(h:rows≠[]):oE rows=.s .own rows:=by cases rows with|nil=>exact absurd rfl h|cons=>rfl
theorem sf{P:Program}(w:World)(t e k:Nat)(z:Value)(g:P.underlying t=some (.slice e))(h:∀w,(zeroValue e).run P w=.ok z w)(i:z.cells.size=k)(h1:∀v∈z.cells.toList,v.oneCell'=true)(b o n:Nat)(p:0<n)(l:0<k)(q:∀j,j<n*k->(w.cell? ⟨b,o+j,none⟩).isSome=true)(r:∀j,j<n*k->w.frozen? ⟨b,o+j,none⟩ = false) :
  ∃zs:List Value,zs.length=n*k/\(∀v∈zs,v.oneCell'=true)/\∀(ty:TypeId)(c:Nat),(Builtin.clear_ #[t] ty #[.slice (some ⟨b,o,none⟩) n c]).run P w=.ok (.tuple #[]) (w.setCells b o zs):=by
 subst i;have d:(Builtin.zeroCells z.cells n).toList.length=n*z.cells.size:=by grind [Go.Builtin.zeroCells]
 have a:∀v∈(Builtin.zeroCells z.cells n).toList,v.oneCell'=true:=by grind [Nat.mod_lt,Go.Builtin.zeroCells]
 refine⟨_,d,a,λty c=>?_⟩;have f:=run_storeCells_cells (P:=P) b o (Builtin.zeroCells z.cells n).toList 0 w ψ ψ a;simp only[Nat.add_zero]at f;obtain⟨m,rfl⟩ : ∃m,n=m+1:=⟨n - 1,ω⟩
 simp[Builtin.clear_,run_underlying g,h,f]
structure jO(w w':World)(g k n i:Nat):Prop where
 keep:bw (λb o=>b=g/\o<n*k) w w'
 lo:∀q,q<i*k->cel w' g q=cel w g q
 mid:∀q,i*k<=q->q<(n - 1)*k->cel w' g q=cel w g (q+k)
 hi:∀q,(n - 1)*k<=q->q<n*k->∃z,cel w' g q=some z/\z.oneCell'=true
 fro:∀b q,fro w' b q=fro w b q
variable{w:World}
theorem bw.up{M a:af}{c:World}(h:bw M w c)(d:∀b o,M b o->a b o):bw a w c:=(CU a w).trans h ψ
def xq(w:World):bw NO w w.drew:=⟨rfl,rfl,rfl,C3 _,λ_ _ _=>rfl,λ_ _ _ _=>rfl,λ_ _ _ _=>rfl⟩
variable{news:List Value}
theorem Kt{k:Nat}{zs:List Value}(f:i<n)(d:∀q,q<n*k->∃z,cel w g q=some z)(G:news.length=(n - (i+1))*k)(c:∀t u,news[t]? = some u->cel w g ((i+1)*k+t)=some u)(H:zs.length=k)(l:∀v∈zs,v.oneCell'=true) :
  jO w ((w.drew.setCells g (i*k) news).setCells g ((n - 1)*k) zs) g k n i:=by
 have J:i*k+(n - (i+1))*k=(n - 1)*k:=by rw[<-Nat.add_mul];congr 1;omega
 have K:(n - 1)*k+k=n*k:=by rw[show(n - 1)*k+k=(n - 1+1)*k by rw[Nat.add_mul,Nat.one_mul]];congr 1;omega
 have L:(i+1)*k=i*k+k:=ψ
 have p:∀b q,cel w.drew b q=cel w b q:=λ_ _=>rfl
 have a:∀j,j<news.length->∃z,cel w.drew g (i*k+j)=some z:=λj r=>by rw[p];exact d _ ω
 have y:∀q,q<n*k->∃z,cel (w.drew.setCells g (i*k) news) g q=some z:=λq A=>by
  by_cases h:i*k<=q/\q<i*k+news.length
  ·have:=bk a (O2 (show q - i*k<news.length by omega))
   grind
  grind [aT]
 refine⟨?_,λq A=>?_,λq B C=>?_,λq B C=>?_,λb q=>?_⟩
 ·have D:=dJ (g:=g) (X:=λb o=>b=g/\o<n*k) news (i*k) w.drew ω
  have E:=dJ (g:=g) (X:=λb o=>b=g/\o<n*k) zs ((n - 1)*k) (w.drew.setCells g (i*k) news) ω;exact((xq w).up λ_ _ h=>h.elim).trans (D.trans E λ_ _ h=>.inr h) λ_ _ h=>.inr h
 ·grind [aT]
 ·rw[aT ω]
  obtain⟨u,e⟩ : ∃u,news[q - i*k]? = some u:=⟨_,O2 ω⟩
  have F:=bk a e;have M:=c _ u e
  grind
 ·obtain⟨u,e⟩ : ∃u,zs[q - (n - 1)*k]? = some u:=(ψ)
  have F:=bk (w:=w.drew.setCells g (i*k) news) (o:=(n - 1)*k) (vs:=zs) (λj r=>y _ ω) e
  grind
 rw[bG,bG];rfl
def QB(rows:List (List C)):Prop:=∀r∈rows,∀c∈r,∃z,c=.v z
def tH(P:Program)(f k:Nat):Prop:=Hx P f/\∀(w:World)(g n a i:Nat)(news:List Value),i<n->n<=a->news.length=(n - (i+1))*k->(∀t u,news[t]? = some u->cel w g ((i+1)*k+t)=some u)->(∀u∈news,u.oneCell'=true)->
 (∀q,q<n*k->(w.cell? ⟨g,q,none⟩).isSome=true/\w.frozen? ⟨g,q,none⟩ = false)->
 Calls P f #[.slice (some ⟨g,0,none⟩) n a,.int .i64 i,.int .i64 ((i+1:Nat):Int)] w λe c=>e=.returned (.slice (some ⟨g,0,none⟩) (n - 1) a)/\∃b:List Value,b.length=k/\(∀v∈b,v.oneCell'=true)/\c=(w.drew.setCells g (i*k) news).setCells g ((n - 1)*k) b
theorem xV{P:Program}{f k:Nat}(hf:tH P f k)(hi:i<rows.length)(hk:∀r∈rows,r.length=k)(T:NL rows) :
  bf P f false [.mut none [.s .own rows],.val none [I (i:Nat)],.val none [I ((i+1:Nat):Int)]] [.mut none [.x],.val none [I (i:Nat)],.val none [I ((i+1:Nat):Int)]] .one [oE (dele rows i)]:=by
 refine⟨hf.1,λw S V vs hS hV hVV U=>?_⟩
 match vs,U with
 | [v,v1,v2],⟨U,W,X,_⟩=>
  have l:=(bv.rep1 (show bv w S (V 0) none [C.s .own rows] v from U)).fresh ⟨.inl (λe=>by cases e),T⟩;have e1:v1=.int .i64 (i:Nat):=by
   have:=bv.rep1 (show bv w S NO none [C.v (.int .i64 (i:Nat))] v1 from W);cases this;rfl
  have e2:v2=.int .i64 ((i+1:Nat):Int):=by
   have:=bv.rep1 (show bv w S NO none [C.v (.int .i64 ((i+1:Nat):Int))] v2 from X);cases this;rfl
  subst e1 e2;have H:(dele rows i).length=rows.length - 1:=by grind [dele]
  generalize J:C.s .own rows=cc at l;cases l with
  | nil _ o a ho=>grind
  | own _ o g d n j Y u f' ho hn B p hpos hF hu hff hd hc=>
   cases J;have Z:d=k:=by rw[<-B _ (List.getElem_mem hi),<-hk _ (List.getElem_mem hi)]
   subst Z;have hnk:n*d<=j*d:=O6 _ p;have hone:∀q,q<j*d->∃z,cel w g q=some z/\z.oneCell'=true:=ψ
   have e3:(i+1)*d+(n - (i+1))*d=n*d:=by rw[<-Nat.add_mul];congr 1;omega
   obtain⟨news,K,L,hn1⟩ : ∃news:List Value,news.length=(n - (i+1))*d/\(∀t u,news[t]? = some u->cel w g ((i+1)*d+t)=some u)/\∀u∈news,u.oneCell'=true:=by
    refine⟨(List.range ((n - (i+1))*d)).map λt=>(cel w g ((i+1)*d+t)).getD undef,by simp,λt y ht=>?_,λy hy=>?_⟩
    all_goals grind
   refine(hf.2 w g n j i news ω p K L hn1 (λq D=>?_)).mono λe A ⟨he,zs,z1,z2,hw'⟩=>?_
   ·grind
   have R:=Kt (w:=w) (by omega:i<n) ψ K L z1 z2;rw[<-hw']at R;have hgV:∀q,q<j*d->V 0 g q:=ψ
   have E:bw (λb o=>∃i,V i b o) w A:=R.keep.up ψ;have e4:(n - 1)*d+d=n*d:=by rw[show(n - 1)*d+d=(n - 1+1)*d by rw[Nat.add_mul,Nat.one_mul]];congr 1;omega
   have F:∀q,q<j*d->∃z,cel A g q=some z/\z.oneCell'=true:=λq D=>by
    by_cases h1:q<i*d
    ·grind [jO.lo]
    by_cases h2:q<(n - 1)*d
    ·rw[R.mid q ω h2];grind
    grind [jO.hi,bw.cel,jO.keep]
   have M:cC A NO (V 0) [oE (dele rows i)] (λ_=>.slice (some ⟨g,0,none⟩) (n - 1) j):=by
    refine row1 ?_;by_cases hz:dele rows i=[]
    ·rw[hz]
     have hn0:n - 1=0:=ψ
     rw[hn0];exact .U _ g 0 d 0 j [] (λ_=>undef) rfl ψ (W0 _) ω ψ
    rw[n9 hz];have G:0<n - 1:=ψ
    obtain⟨σ,hσ⟩ : ∃σ:Nat->Nat,∀q,σ q=if q<i*d then q else q+d:=⟨_,λ_=>rfl⟩
    have s1:∀q,q<(n - 1)*d->σ q<n*d:=ψ
    have s2:∀q q',q≠q'->σ q≠σ q':=ψ
    have s3:∀q,q<(n - 1)*d->cel A g q=cel w g (σ q):=λq D=>by grind [jO.lo,jO.mid]
    refine .own _ .own g d (n - 1) j _ (λq=>(cel A g q).getD undef) (λq=>f' (σ q)) trivial (by rw[H];omega) (λr hr=>B r ((eE ..).subset hr)) ω G (λq D=>⟨hgV q D,F q D,(R.fro g q).trans (hF q D).2.2⟩) (λq D=>?_) ψ ψ (λa b r c N hb=>?_)
    ·grind
    have hbk:b<d:=by grind [eE]
    have hal:=(U2.1 N).1;rw[H]at hal;have hflat:a*d+b<(n - 1)*d:=d9 ω hbk;obtain⟨O,h5,h6⟩ : ∃O,rows[O]? = some r/\σ (a*d+b)=O*d+b:=by
     rw[hσ];unfold dele at N;by_cases h1:a<i
     ·grind [V1,d9]
     rw[O4 ψ,V1,List.getElem?_drop]at N;rw[show i+1+(a - min i rows.length)=a+1 by omega]at N;have:i*d<=a*d:=O6 _ ω;refine⟨a+1,N,?_⟩;rw[C8 ω,Nat.add_mul,Nat.one_mul];omega
    have h7:=hc O b r c h5 hb;have Q:=qo hn B h5 hb;have hfl:=d9 Q.1 Q.2;have h8:(cel A g (a*d+b)).getD undef=u (O*d+b):=ψ
    show dw A NO (f' (σ (a*d+b))) c ((cel A g (a*d+b)).getD undef);rw[h8,h6];refine h7.keep (λ_ _ h=>h.elim) λb' o' hb'=>?_
    grind [bw.cel,jO.keep,jO.fro]
   exact⟨_,he,E,V 0,λ_=>NO,NO,ψ,λ_ _ _ h=>h.elim,λ_ _ h=>h.elim,λ_ _ _ _ _ h=>h.elim,λ_ _ _ _ h=>h.elim,λ_ _ _ h=>h.elim,λ_ _ _ h=>h.elim,rfl,M,⟨⟨rfl,λ_=>.slice (some ⟨g,0,none⟩) n j,rfl,row1 (.x _ _ rfl)⟩,trivial,trivial,trivial⟩⟩
  | _=>cases J
set_option maxRecDepth 100000
theorem rp{cap k:Nat}(d:news.length=(n - (i+1))*k)(a:n<=cap)(b:i<n)(h:∀t u,news[t]? = some u->cel w g ((i+1)*k+t)=some u):∃A:Addr,(if cap=i+1 then some (⟨g,0,none⟩ : Addr) else some ⟨g,(i+1)*k,none⟩)=some A/\∀t u,news[t]? = some u->w.drew.cell? (A.add t)=some u:=by
 by_cases e:cap=i+1
 ·simp_all
 refine⟨⟨g,(i+1)*k,none⟩,by simp[e],λt u c=>?_⟩;rw[Addr.add_lit];exact h t u c
def N1:∀w,(zeroValue 74).run Tryz.prog w=.ok (.agg #[.int .i64 0,.int .i64 0,.int .i64 0,.int .i64 0]) w:=λ_=>by kernel_rfl
theorem Hp:tH Tryz.prog 99 4:=by
 refine⟨⟨_,Tryz.func99,by kernel_rfl,by kernel_rfl⟩,λw g n c i news p r l y B b=>?_⟩;obtain⟨A,U,a⟩:=rp l r p y;have a:Hid (∀t u,news[t]? = some u->w.drew.cell? (A.add t)=some u):=a;have R:Hid (news.length=(n - (i+1))*4):=l;have V:Hid (∀u∈news,u.oneCell'=true):=B;have W:Hid (∀t,t<news.length->(w.drew.cell? ⟨g,0+i*4+t,none⟩).isSome=true/\w.drew.frozen? ⟨g,0+i*4+t,none⟩ = false):=λt ht=>by
  rw[Z5];exact b (i*4+t) ω
 obtain⟨o,d⟩ : ∃o,o=w.drew.setCells g (0+i*4) news:=⟨_,rfl⟩
 have X:∀q,q<n*4->(o.cell? ⟨g,q,none⟩).isSome=true/\o.frozen? ⟨g,q,none⟩ = false:=λq S=>by
  have C:∀j,j<news.length->∃z,cel w.drew g (0+i*4+j)=some z:=λj Y=>by
   have:=(b (0+i*4+j) ω).1;exact Option.isSome_iff_exists.1 this
  refine⟨?_,by rw[d];exact(X0 Prod.fst (bG g _ news w.drew g q)).trans (b q S).2⟩;rw[d];by_cases h:0+i*4<=q/\q<0+i*4+news.length
  ·have:=bk C (O2 (show q - (0+i*4)<news.length by omega))
   grind
  show(cel _ g q).isSome=true;rw[aT (λx=>h x.2)];exact(b q S).1
 obtain⟨K,D,E,F⟩:=sf (P:=Tryz.prog) o 39 74 4 (.agg #[.int .i64 0,.int .i64 0,.int .i64 0,.int .i64 0]) Tryz.underlying39 N1 rfl (by intro v T;simp[Value.cells]at T;subst T;rfl) g ((i+(n - (i+1)))*4) (n - (i+(n - (i+1)))) ω (by decide) ψ ψ;have G:Hid (K.length=(n - (i+(n - (i+1))))*4):=D;have H:Hid (∀v∈K,v.oneCell'=true):=E;have Z:Hid (o=w.drew.setCells g (0+i*4) news):=d;have hic:i<=c:=ω
 have L:i+1<=c:=ω
 have M:¬i=i+1:=ω
 have N:i+1<=n:=p;have k:n - 1=i+(n - (i+1)):=ω
 clear d X b y B l D E;rw[k];generalize Y:i+1=j at U a R F G L M N k |-;obtain⟨J,O,Q⟩ : ∃J,Tryz.prog.info? 74=some J/\J.size=4:=by
  have h:=(lA 74 _ rfl).1;cases e : Tryz.prog.info? 74 with
  | none=>grind
  | some x=>rw[e]at h;simp only[X4,Z0,Prod.mk.injEq]at h;exact⟨x,rfl,h.2.1⟩
 have mixed : Tryz.prog.follows .mixedOrders=true:=by kernel_rfl
 go_enter Tryz.func99,Tryz.ntmps99
 go_wp2_with fail
 go_region_law_o (refine step_append_room rfl (.tmp 22) (.tmp 25) 39 rfl 74 J 4 Tryz.underlying39 O Q g 0 i c (by simp[Act.eval,Act.put]) A (n - j) (c - j) news (by simp[Act.eval,Act.put]) R.out a.out V.out ω W.out ?_;rw[<-Z.out])
 go_wp2
 go_ret
 refine⟨rfl,K,by grind [Go.RowKit.Hid.out],H.out,?_⟩
 grind [Go.RowKit.Hid.out]
theorem wb(xs:List bc)(i:Nat)(a:i<xs.length):zzB 99 false [.mut none [.s .own (xs.map (bc.enc .own))],.val none [I (i:Nat)],.val none [I ((i+1:Nat):Int)]] [.mut none [.x],.val none [I (i:Nat)],.val none [I ((i+1:Nat):Int)]] .one [oE ((dele xs i).map (bc.enc .own))]:=by
 have h:=xV Hp (rows:=xs.map (bc.enc .own)) (i:=i) ψ (aQ λ_=>rfl) (aX _ _ λx _=>bc.enc_fr x)
 grind [t4,v4,dele]
def Hd:∀w,(zeroValue 175).run Tryz.prog w=.ok (.agg #[.int .i64 0,.int .i64 0,.int .i64 0]) w:=λ_=>by kernel_rfl
theorem AN:tH Tryz.prog 102 3:=by
 refine⟨⟨_,Tryz.func102,by kernel_rfl,by kernel_rfl⟩,λw g n c i news p r l y B b=>?_⟩;obtain⟨A,U,a⟩:=rp l r p y;have a:Hid (∀t u,news[t]? = some u->w.drew.cell? (A.add t)=some u):=a;have R:Hid (news.length=(n - (i+1))*3):=l;have V:Hid (∀u∈news,u.oneCell'=true):=B;have W:Hid (∀t,t<news.length->(w.drew.cell? ⟨g,0+i*3+t,none⟩).isSome=true/\w.drew.frozen? ⟨g,0+i*3+t,none⟩ = false):=λt ht=>by
  rw[Z5];exact b (i*3+t) ω
 obtain⟨o,d⟩ : ∃o,o=w.drew.setCells g (0+i*3) news:=⟨_,rfl⟩
 have X:∀q,q<n*3->(o.cell? ⟨g,q,none⟩).isSome=true/\o.frozen? ⟨g,q,none⟩ = false:=λq S=>by
  have C:∀j,j<news.length->∃z,cel w.drew g (0+i*3+j)=some z:=λj Y=>by
   have:=(b (0+i*3+j) ω).1;exact Option.isSome_iff_exists.1 this
  refine⟨?_,by rw[d];exact(X0 Prod.fst (bG g _ news w.drew g q)).trans (b q S).2⟩;rw[d];by_cases h:0+i*3<=q/\q<0+i*3+news.length
  ·have:=bk C (O2 (show q - (0+i*3)<news.length by omega))
   grind
  show(cel _ g q).isSome=true;rw[aT (λx=>h x.2)];exact(b q S).1
 obtain⟨K,D,E,F⟩:=sf (P:=Tryz.prog) o 38 175 3 (.agg #[.int .i64 0,.int .i64 0,.int .i64 0]) Tryz.underlying38 Hd rfl (by intro v T;simp[Value.cells]at T;subst T;rfl) g ((i+(n - (i+1)))*3) (n - (i+(n - (i+1)))) ω (by decide) ψ ψ;have G:Hid (K.length=(n - (i+(n - (i+1))))*3):=D;have H:Hid (∀v∈K,v.oneCell'=true):=E;have Z:Hid (o=w.drew.setCells g (0+i*3) news):=d;have hic:i<=c:=ω
 have L:i+1<=c:=ω
 have M:¬i=i+1:=ω
 have N:i+1<=n:=p;have k:n - 1=i+(n - (i+1)):=ω
 clear d X b y B l D E;rw[k];generalize Y:i+1=j at U a R F G L M N k |-;obtain⟨J,O,Q⟩ : ∃J,Tryz.prog.info? 175=some J/\J.size=3:=by
  have h:=(lA 175 _ rfl).1;cases e : Tryz.prog.info? 175 with
  | none=>grind
  | some x=>rw[e]at h;simp only[X4,Z0,Prod.mk.injEq]at h;exact⟨x,rfl,h.2.1⟩
 have mixed : Tryz.prog.follows .mixedOrders=true:=by kernel_rfl
 go_enter Tryz.func102,Tryz.ntmps102
 go_wp2_with fail
 go_region_law_o (refine step_append_room rfl (.tmp 22) (.tmp 25) 38 rfl 175 J 3 Tryz.underlying38 O Q g 0 i c (by simp[Act.eval,Act.put]) A (n - j) (c - j) news (by simp[Act.eval,Act.put]) R.out a.out V.out ω W.out ?_;rw[<-Z.out])
 go_wp2
 go_ret
 refine⟨rfl,K,by grind [Go.RowKit.Hid.out],H.out,?_⟩
 grind [Go.RowKit.Hid.out]
theorem rg(xs:List aA)(i:Nat)(a:i<xs.length):zzB 102 false [.mut none [.s .own (xs.map (aA.enc .own))],.val none [I (i:Nat)],.val none [I ((i+1:Nat):Int)]] [.mut none [.x],.val none [I (i:Nat)],.val none [I ((i+1:Nat):Int)]] .one [oE ((dele xs i).map (aA.enc .own))]:=by
 have h:=xV AN (rows:=xs.map (aA.enc .own)) (i:=i) ψ (aQ λ_=>rfl) (aX _ _ λx _=>aA.enc_fr x)
 grind [t4,v4,dele]
def K9:∀w,(zeroValue 267).run Tryz.prog w=.ok (.agg #[.int .i64 0,.int .i64 0,.int .i64 0]) w:=λ_=>by kernel_rfl
theorem EB:tH Tryz.prog 492 3:=by
 refine⟨⟨_,Tryz.func492,by kernel_rfl,by kernel_rfl⟩,λw g n c i news p r l y B b=>?_⟩;obtain⟨A,U,a⟩:=rp l r p y;have a:Hid (∀t u,news[t]? = some u->w.drew.cell? (A.add t)=some u):=a;have R:Hid (news.length=(n - (i+1))*3):=l;have V:Hid (∀u∈news,u.oneCell'=true):=B;have W:Hid (∀t,t<news.length->(w.drew.cell? ⟨g,0+i*3+t,none⟩).isSome=true/\w.drew.frozen? ⟨g,0+i*3+t,none⟩ = false):=λt ht=>by
  rw[Z5];exact b (i*3+t) ω
 obtain⟨o,d⟩ : ∃o,o=w.drew.setCells g (0+i*3) news:=⟨_,rfl⟩
 have X:∀q,q<n*3->(o.cell? ⟨g,q,none⟩).isSome=true/\o.frozen? ⟨g,q,none⟩ = false:=λq S=>by
  have C:∀j,j<news.length->∃z,cel w.drew g (0+i*3+j)=some z:=λj Y=>by
   have:=(b (0+i*3+j) ω).1;exact Option.isSome_iff_exists.1 this
  refine⟨?_,by rw[d];exact(X0 Prod.fst (bG g _ news w.drew g q)).trans (b q S).2⟩;rw[d];by_cases h:0+i*3<=q/\q<0+i*3+news.length
  ·have:=bk C (O2 (show q - (0+i*3)<news.length by omega))
   grind
  show(cel _ g q).isSome=true;rw[aT (λx=>h x.2)];exact(b q S).1
 obtain⟨K,D,E,F⟩:=sf (P:=Tryz.prog) o 37 267 3 (.agg #[.int .i64 0,.int .i64 0,.int .i64 0]) Tryz.underlying37 K9 rfl (by intro v T;simp[Value.cells]at T;subst T;rfl) g ((i+(n - (i+1)))*3) (n - (i+(n - (i+1)))) ω (by decide) ψ ψ;have G:Hid (K.length=(n - (i+(n - (i+1))))*3):=D;have H:Hid (∀v∈K,v.oneCell'=true):=E;have Z:Hid (o=w.drew.setCells g (0+i*3) news):=d;have hic:i<=c:=ω
 have L:i+1<=c:=ω
 have M:¬i=i+1:=ω
 have N:i+1<=n:=p;have k:n - 1=i+(n - (i+1)):=ω
 clear d X b y B l D E;rw[k];generalize Y:i+1=j at U a R F G L M N k |-;obtain⟨J,O,Q⟩ : ∃J,Tryz.prog.info? 267=some J/\J.size=3:=by
  have h:=(lA 267 _ rfl).1;cases e : Tryz.prog.info? 267 with
  | none=>grind
  | some x=>rw[e]at h;simp only[X4,Z0,Prod.mk.injEq]at h;exact⟨x,rfl,h.2.1⟩
 have mixed : Tryz.prog.follows .mixedOrders=true:=by kernel_rfl
 go_enter Tryz.func492,Tryz.ntmps492
 go_wp2_with fail
 go_region_law_o (refine step_append_room rfl (.tmp 22) (.tmp 25) 37 rfl 267 J 3 Tryz.underlying37 O Q g 0 i c (by simp[Act.eval,Act.put]) A (n - j) (c - j) news (by simp[Act.eval,Act.put]) R.out a.out V.out ω W.out ?_;rw[<-Z.out])
 go_wp2
 go_ret
 refine⟨rfl,K,by grind [Go.RowKit.Hid.out],H.out,?_⟩
 grind [Go.RowKit.Hid.out]
theorem Fs(xs:List ay)(i:Nat)(a:i<xs.length):zzB 492 false [.mut none [.s .own (xs.map (ay.enc .own))],.val none [I (i:Nat)],.val none [I ((i+1:Nat):Int)]] [.mut none [.x],.val none [I (i:Nat)],.val none [I ((i+1:Nat):Int)]] .one [oE ((dele xs i).map (ay.enc .own))]:=by
 have h:=xV EB (rows:=xs.map (ay.enc .own)) (i:=i) ψ (aQ λ_=>rfl) (aX _ _ λx _=>ay.enc_fr x)
 grind [t4,v4,dele]
end Go.Proofs.YtiopgblagimpmaaGreat.Ab
