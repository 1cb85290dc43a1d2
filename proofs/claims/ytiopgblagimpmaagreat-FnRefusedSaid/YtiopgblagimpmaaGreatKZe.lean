/- Each slot in use has one holder, as the program asks it: the contract of holdersOk. No condition. -/
import Derived.Test.YtiopgblagimpmaaGreatKZc
import Derived.Test.YtiopgblagimpmaaGreatKZd
import Derived.WalkKit
import Derived.Lib.SliceRun
import Derived.Deep.LoopGhost
import Derived.Deep.RegionLaw
import Derived.Lib.Walk
import Derived.Sort.WalkB12
import Derived.Shelf.RegionOpenPlain
set_option linter.unusedVariables false
set_option linter.defProp false
set_option linter.unusedSimpArgs false
set_option linter.constructorNameAsVariable false
namespace Go.Proofs.YtiopgblagimpmaaGreat.Ab
open Go.RowKit
set_option maxRecDepth 20000
set_option maxHeartbeats 8000000
def vB(h:ac)(a:aV):Bool:=jH h a&&decide (a.b5<=h.b1)
def qb(h:ac):List Int:=((cU h++h.a7.y.map (·.Addr))++aL h.w)++h.J.map (·.Addr)
def mu(h:ac):Bool:=((h.R.all (gw h)&&h.a7.y.all (vB h))&&(aL h.w).all (mc h))&&(kR h.K h.H).all λa=>decide ((qb h).count a=1)
variable{h:ac}
theorem WQ(h1:h.R.all (gw h)=false):mu h=false:=by grind [mu]
theorem PY(h1:h.a7.y.all (vB h)=false):mu h=false:=by grind [mu]
theorem Xq(h1:(aL h.w).all (mc h)=false):mu h=false:=by grind [mu]
theorem WC(h1:((kR h.K h.H).all λa=>decide ((qb h).count a=1))=false):mu h=false:=by grind [mu]
variable{la:List aC}{sp:List aB}
theorem Fb(h1:sp.length<=1048576)(h2:la.length<=1048576):(kR sp la).length<=100000000:=by
 have a:∀(l:List aB),(ib l).length<=16*l.length:=by
  intro l
  induction l with
  | nil=>exact I1 _
  | cons s l b=>
   have e:ib (s::l)=fX s (slots s.d).toNat++ib l:=by grind [ib]
   have c:=wx s.d
   grind [vp]
 grind [BS,kR,live0]
theorem Da(h:ac)(hs:ac.sml h)(N:b8 h.K h.H=true)(F:bG h.w=true)(X:∀c∈h.R,bx c=true):zzA 82 false [.val (some 24) (ac.enc .S h)] .one [B (mu h)]:=by
 obtain⟨-,-,p,r,Y,Z,hsm,hsq,-⟩:=hs;have hlo:h.J.length<=1048576:=Y.1;have hlc:h.R.length<=1048576:=Z.1;have hlq:h.a7.y.length<=1048576:=hsq.1;have hfl:=ni F;have t:mu h=false->[B false]=[B (mu h)]:=λe=>by rw[e]
 refine fP 114 [(236,[0,0,2,2])] [] Tryz.func82 rfl ?_
 refine σP ?_
 refine mD (ι:=Nat × List (Int × Value) × List Int) (λi=>[(1,bB (ac.enc .S h)),(3,bB [.m i.2.1]),(4,.fn 236 [3,1]),(22,bJ (kQ .S h.R)),(23,fI h.R.length),(24,fN (i.1))]) (λi=>i.1<=h.R.length/\tX i.2.1 i.2.2/\i.2.2=((h.R.take i.1).flatMap λc=>c.Y.flatten)/\(h.R.take i.1).all (gw h)=true/\i.2.2.length<=32*i.1) (λi=>h.R.length - i.1) ((0,[],[])) (⟨I1 _,Ra,rfl,rfl,I1 _⟩) λi hi=>?_
 obtain⟨i,es,L⟩:=i;obtain⟨hi,O,hL,ai,hb⟩:=hi;simp only at hi O hL ai hb |-;by_cases li:i<h.R.length
 ·have U:=ar li
  obtain⟨h4,h8⟩:=oG (X _ (ax li))
  refine σE ?_
  refine mD (ι:=Nat × List (Int × Value) × List Int) (λk=>[(1,bB (ac.enc .S h)),(3,bB [.m k.2.1]),(4,.fn 236 [3,1]),(22,bJ (kQ .S h.R)),(23,fI h.R.length),(24,fN i),(29,bJ (iR .S (nth h.R i).Y)),(30,fI ((nth h.R i).Y.length)),(31,fN (k.1))]) (λk=>k.1<=(nth h.R i).Y.length/\tX k.2.1 k.2.2/\k.2.2=L++((nth h.R i).Y.take k.1).flatten/\dq k.1 (v8 h (nth h.R i))=true/\k.2.2.length<=L.length+8*k.1) (λk=>(nth h.R i).Y.length - k.1) ((0,es,L)) (⟨I1 _,O,by simp,rfl,by simp⟩) λk hk=>?_
  obtain⟨k,es3,V⟩:=k;obtain⟨hk,E,P,ak,hb3⟩:=hk;simp only at hk E P ak hb3 |-;by_cases lk:k<(nth h.R i).Y.length
  ·have hy:=ar lk
   have hl8:=h8 _ (ax lk)
   refine σE ?_
   refine mD (ι:=Nat × List (Int × Value) × List Int) (λj=>[(1,bB (ac.enc .S h)),(3,bB [.m j.2.1]),(4,.fn 236 [3,1]),(7,fN k),(22,bJ (kQ .S h.R)),(23,fI h.R.length),(24,fN i),(29,bJ (iR .S (nth h.R i).Y)),(30,fI ((nth h.R i).Y.length)),(31,fN k),(36,bJ (aF .S (nth (nth h.R i).Y k))),(37,fI ((nth (nth h.R i).Y k).length)),(38,fN (j.1))]) (λj=>j.1<=(nth (nth h.R i).Y k).length/\tX j.2.1 j.2.2/\j.2.2=V++(nth (nth h.R i).Y k).take j.1/\((nth (nth h.R i).Y k).take j.1).all (λa=>ed h a (k:Nat))=true) (λj=>(nth (nth h.R i).Y k).length - j.1) ((0,es3,V)) ψ λj hj=>?_
   obtain⟨j,es4,Q⟩:=j;obtain⟨hj,l,R,W⟩:=hj;simp only at hj l R W |-;have hl4:Q.length=V.length+j:=ψ
   by_cases lj:j<(nth (nth h.R i).Y k).length
   ·have d:=ar lj
    have b:=GF h p r es4 Q (nth (nth (nth h.R i).Y k) j) (k:Nat) l ω;cases o:ed h (nth (nth (nth h.R i).Y k) j) (k:Nat)<;>rw[o]at b
    ·refine σE ?_
     exact t (WQ (iY U (by unfold gw;exact cC lk (iY d o))))
    refine σE ?_
    ((conv=>whnf)
     refine CR (j+1,inc es4 Q (nth (nth (nth h.R i).Y k) j),Q++[nth (nth (nth h.R i).Y k) j]) ⟨(by simp only;omega),te l _,(by grind [CB]),dL d W o⟩ (by simp only;omega) ?_
     (exact wA))
   obtain rfl:j=(nth (nth h.R i).Y k).length:=ω
   rw[S9]at R W
   refine σE ?_
   (exact cV (k+1,es4,Q) ⟨(by simp only;omega),l,(by grind [Bx]),bF ak W,(by simp only;omega)⟩)
  obtain rfl:k=(nth h.R i).Y.length:=ω
  rw[S9]at P
  refine σE ?_
  (exact cV (i+1,es3,V) ⟨(by simp only;omega),E,(by grind [ym]),dL U ai ak,(by simp only;omega)⟩)
 obtain rfl:i=h.R.length:=ω
 rw[S9]at hL ai
 refine σE ?_
 refine mD (ι:=Nat × List (Int × Value) × List Int) (λq=>[(1,bB (ac.enc .S h)),(3,bB [.m q.2.1]),(4,.fn 236 [3,1]),(52,bJ (de .S h.a7.y)),(53,fI h.a7.y.length),(54,fN (q.1))]) (λq=>q.1<=h.a7.y.length/\tX q.2.1 q.2.2/\q.2.2=L++(h.a7.y.take q.1).map (·.Addr)/\(h.a7.y.take q.1).all (vB h)=true) (λq=>h.a7.y.length - q.1) ((0,es,L)) ψ λq u=>?_
 obtain⟨q,es5,G⟩:=q;obtain⟨w,y,D,aq⟩:=u;simp only at w y D aq |-;have hl5:G.length=L.length+q:=ψ
 by_cases S:q<h.a7.y.length
 ·have d:=ar S
  have b:=GF h p r es5 G (nth h.a7.y q).Addr (nth h.a7.y q).d y ω;cases o:ed h (nth h.a7.y q).Addr (nth h.a7.y q).d<;>rw[o]at b
  ·repeat'(first|refine gE ?_|refine gS (λu=>?_) (λu=>?_)|fail)
   all_goals exact t (PY (iY d (by unfold vB jH;rw[o];rfl)))
  repeat'(first|refine gE ?_|refine gS (λu=>?_) (λu=>?_)|fail)
  all_goals first
   |exact t (PY (iY d (by unfold vB jH;rw[o,C1 ω];rfl)))
   | ((conv=>whnf)
      refine CR (q+1,inc es5 G (nth h.a7.y q).Addr,G++[(nth h.a7.y q).Addr]) ⟨(by simp only;omega),te y _,(by simp only;rw[D,CB,d,OB,IB];rfl),dL d aq (by unfold vB jH;rw[o,O0 ω];rfl)⟩ (by simp only;omega) ?_
      (exact wA))
 obtain rfl:q=h.a7.y.length:=ω
 rw[S9]at D aq
 repeat'(first|refine gE ?_|refine CG (pE h.w hsm) ?_)
 refine mD (ι:=Nat × List (Int × Value) × List Int) (λq=>[(1,bB (ac.enc .S h)),(3,bB [.m q.2.1]),(4,.fn 236 [3,1]),(75,bJ (aF .own (aL h.w))),(76,fI ((aL h.w).length)),(77,fN (q.1))]) (λq=>q.1<=(aL h.w).length/\tX q.2.1 q.2.2/\q.2.2=G++(aL h.w).take q.1/\((aL h.w).take q.1).all (mc h)=true) (λq=>(aL h.w).length - q.1) ((0,es5,G)) ψ λq u=>?_
 obtain⟨q,es6,H⟩:=q;obtain⟨w,C,J,aq6⟩:=u;simp only at w C J aq6 |-;have hl6:H.length=G.length+q:=ψ
 by_cases S:q<(aL h.w).length
 ·have d:=ar S
  have b:=GF h p r es6 H (nth (aL h.w) q) (-1) C ω;cases o:ed h (nth (aL h.w) q) (-1)<;>rw[o]at b
  ·refine σE ?_
   exact t (Xq (iY d o))
  refine σE ?_
  ((conv=>whnf)
   refine CR (q+1,inc es6 H (nth (aL h.w) q),H++[nth (aL h.w) q]) ⟨(by simp only;omega),te C _,(by grind [CB]),dL d aq6 o⟩ (by simp only;omega) ?_
   (exact wA))
 obtain rfl:q=(aL h.w).length:=ω
 rw[S9]at J aq6
 refine σE ?_
 refine mD (ι:=Nat × List (Int × Value) × List Int) (λq=>[(1,bB (ac.enc .S h)),(3,bB [.m q.2.1]),(87,bJ (pG .S h.J)),(88,fI h.J.length),(89,fN (q.1))]) (λq=>q.1<=h.J.length/\tX q.2.1 q.2.2/\q.2.2=H++(h.J.take q.1).map (·.Addr)) (λq=>h.J.length - q.1) ((0,es6,H)) ψ λq u=>?_
 obtain⟨q,es7,K⟩:=q;obtain⟨w,g,M⟩:=u;simp only at w g M |-;have hl7:K.length=H.length+q:=ψ
 by_cases S:q<h.J.length
 ·have d:=ar S
  have hcl:K.count (nth h.J q).Addr<=K.length:=List.count_le_length
  repeat'(first|refine gE ?_|refine Ml.mk (g _) ?_|refine Mu.mk (es':=inc es7 K (nth h.J q).Addr) rfl ?_)
  ((conv=>whnf)
   refine CR (q+1,inc es7 K (nth h.J q).Addr,K++[(nth h.J q).Addr]) ⟨(by simp only;omega),te g _,(by grind [CB])⟩ (by simp only;omega) ?_
   (exact wA))
 obtain rfl:q=h.J.length:=ω
 rw[S9]at M;have T:K=qb h:=by rw[M,J,D,hL];rfl
 have hlv:=Fb p.1 r.1
 repeat'(first|refine gE ?_|refine CG (rO h.K h.H p r N) ?_)
 refine gK ((kR h.K h.H).length) (λn=>[(3,bB [.m es7]),(103,bJ (aF .own (kR h.K h.H))),(104,fI ((kR h.K h.H).length)),(105,fN n)]) (λn=>((kR h.K h.H).take n).all (λa=>decide ((qb h).count a=1))=true) ψ λn hn=>?_
 obtain⟨hn,an⟩:=hn;by_cases ln:n<(kR h.K h.H).length
 ·have d:=ar ln
  rw[T]at g
  repeat'(first|refine gE ?_|refine gS (λu=>?_) (λu=>?_)|refine Ml.mk (g _) ?_)
  all_goals first
   |exact t (WC (iY d (C1 ω)))
   | ((conv=>whnf);exact cV (n+1) ⟨ω,dL d an (O0 ω)⟩)
 refine σE ?_
 exact bZ ((by grind [mu]))
set_option maxHeartbeats 8000000
def ml(h:ac):Bool:=(((((((aI h.G&&bN (eQ h) h.o)&&b8 h.K h.H)&&(pages0 h&&rM h))&&eH h)&&h.R.all bx)&&(gV h&&mu h))&&cI h)&&wQ h
theorem cJ(h:ac)(P:ac.sml h):zzA 23 false [.val (some 24) (ac.enc .S h)] .one [B (ml h)]:=by
 have E:=P;obtain⟨n,o,b,g,F,p,q,G,r⟩:=P;have u:wu h:=n.1.2;have hpn:eQ h<=1048576:=u.1;have H:h.J.length<=1048576:=F.1;have J:h.R.length<=1048576:=p.1;have hlb:h.w.U.length<=1048576:=q.1.1;have hlp:h.a.X.T.length<=1048576:=r;have d:=pp h.G n;have e:=pH (eQ h) h.o ω o;have i:=pu h.K h.H b g;have w:=oI h.w q;have K:=sC h.a7 G;cases Q:aI h.G<;>rw[Q]at d
 ·refine fO 154 [] Tryz.func23 rfl ?_
  repeat'(first|refine gP ?_|refine gS (λa=>?_) (λa=>?_)|fail)
  all_goals first
   | exact bZ ((by unfold ml ;rw[Q];simp))
   |(exfalso;omega)
 cases R:bN (eQ h) h.o<;>rw[R]at e
 ·refine fO 154 [] Tryz.func23 rfl ?_
  repeat'(first|refine gP ?_|refine gS (λa=>?_) (λa=>?_)|fail)
  all_goals first
   | exact bZ ((by unfold ml ;rw[R];simp))
   |(exfalso;omega)
 cases D:b8 h.K h.H<;>rw[D]at i
 ·refine fO 154 [] Tryz.func23 rfl ?_
  repeat'(first|refine gP ?_|refine gS (λa=>?_) (λa=>?_)|fail)
  all_goals first
   | exact bZ ((by unfold ml ;rw[D];simp))
   |(exfalso;omega)
 have j:=Jp h b g u o D;cases S:(pages0 h&&rM h)<;>rw[S]at j
 ·refine fO 154 [] Tryz.func23 rfl ?_
  repeat'(first|refine gP ?_|refine gS (λa=>?_) (λa=>?_)|fail)
  all_goals first
   | exact bZ ((by unfold ml ;rw[S];simp))
   |(exfalso;omega)
 cases L:bG h.w<;>rw[L]at w
 ·refine fO 154 [] Tryz.func23 rfl ?_
  repeat'(first|refine gP ?_|refine gS (λa=>?_) (λa=>?_)|fail)
  all_goals first
   | exact bZ ((by unfold ml eH;rw[L];simp))
   |(exfalso;omega)
 by_cases M:h.R.length=h.w.U.length;rotate_left
 ·refine fO 154 [] Tryz.func23 rfl ?_
  repeat'(first|refine gP ?_|refine gS (λa=>?_) (λa=>?_)|fail)
  all_goals first
   | exact bZ ((by unfold ml eH;rw[C1 M];simp))
   |(exfalso;omega)
 cases T:gu h.a7<;>rw[T]at K
 ·refine fO 154 [] Tryz.func23 rfl ?_
  repeat'(first|refine gP ?_|refine gS (λa=>?_) (λa=>?_)|fail)
  all_goals first
   | exact bZ ((by unfold ml eH;rw[T];simp))
   |(exfalso;omega)
 have hmc:eH h=true:=by grind [eH]
 refine fO 154 [] Tryz.func23 rfl ?_
 repeat'(first|refine gB ?_|refine gS (λa=>?_) (λa=>?_)|fail)
 all_goals try(exfalso;omega)
 (conv=>whnf)
 refine gK h.R.length (λk=>[(1,bB (ac.enc .S h)),(57,bJ (kQ .S h.R)),(58,fI h.R.length),(59,fN k)]) (λk=>(h.R.take k).all bx=true) ψ λk U=>?_
 obtain⟨U,V⟩:=U;by_cases W:k<h.R.length
 ·have N:=ar W
  have O:=kL (nth h.R k) (p.2 _ (ax W));cases X:bx (nth h.R k)<;>rw[X]at O
  ·refine σE ?_
   exact bZ ((by grind [ml]))
  refine σE ?_
  (exact cV (k+1) ⟨ω,dL N V X⟩)
 have hca:h.R.all bx=true:=qq ω V;have l:=LT h b g H J;have c10:=Da h E D L ψ;have c12:=AS h.a r;have c13:=yO h h.a.X.a4 b.1;have c14:=yO h h.a.X.a5 b.1;cases Y:gV h<;>rw[Y]at l
 ·refine σE ?_
  all_goals first
   | exact bZ ((by unfold ml;rw[Y];simp))
   |(exfalso;omega)
 cases e10:mu h<;>rw[e10]at c10
 ·refine σE ?_
  all_goals first
   | exact bZ ((by unfold ml;rw[e10];simp))
   |(exfalso;omega)
 by_cases Z:cI h=true;rotate_left
 ·have y:cI h=false:=by simpa using Z
  have c:=y;unfold cI at c;rw[z9]at c
  repeat'(first|refine gE ?_|refine gS (λa=>?_) (λa=>?_)|refine CG (aK _ _ _) ?_|refine CG (rT _) ?_)
  all_goals first
   | exact bZ ((by unfold ml;rw[y];simp))
   |(exfalso;omega)
 have c:=Z;unfold cI at c;rw[C0]at c;have C:ml h=wQ h:=by grind [ml]
 rw[C];unfold wQ;cases em:h.q
 ·repeat'(first|refine gE ?_|refine gS (λa=>?_) (λa=>?_)|refine CG (aK _ _ _) ?_|refine CG (rT _) ?_|refine Bf.f em ?_)
  all_goals first
   | exact bZ ((by unfold w6;simp only[Bool.false_eq_true,if_false];first|(symm;exact C1 ω)|(rw[C9,beq_iff_eq,C0];omega)))
   |(exfalso;omega)
 cases e12:lB h.a<;>rw[e12]at c12
 all_goals
  repeat'(first|refine gE ?_|refine gS (λa=>?_) (λa=>?_)|refine CG (aK _ _ _) ?_|refine CG (rT _) ?_|refine Bf.t em ?_)
  all_goals first
   | exact bZ (ψ)
   |(exfalso;omega)
variable{i j:Nat}{α:Type}
def du[Inhabited α]{xs:List α}{f:α->Int}(e:(xs.map f).Nodup)(b:i<xs.length)(c:j<xs.length)(h:f (nth xs i)=f (nth xs j)):i=j:=by
 have d:=List.pairwise_iff_getElem.1 e;rcases Nat.lt_trichotomy i j with a|rfl|a
 ·have:=d i j (by simpa using b) (by simpa using c) a
  simp only[List.getElem_map]at this;rw[br (z4 b),br (z4 c)]at h;exact absurd h this
 ·rfl
 have:=d j i (by simpa using c) (by simpa using b) a;simp only[List.getElem_map]at this;rw[br (z4 b),br (z4 c)]at h;omega
theorem aW[Inhabited α]{xs:List α}{x:α}(h:x∈xs):∃i,i<xs.length/\nth xs i=x:=by
 obtain⟨i,a⟩:=List.mem_iff_getElem?.1 h
 grind [br]
theorem qu:∀{H L:List Int},H.Nodup->(∀x∈H,x∈L)->L.length<=H.length->∀x∈L,x∈H
 | [],L,_,_,b,x,c=>by grind
 | y::H,L,d,f,b,x,c=>by
  have g:y∈L:=ψ
  have a:=List.nodup_cons.1 d;by_cases e:x=y
  ·grind
  refine OA _ (qu (L:=L.erase y) a.2 (λz h=>?_) ?_ x ψ)
  all_goals grind
theorem Ru{H L:List Int}(b:L.Nodup)(c:∀x∈H,x∈L):(H.Nodup/\H.length=L.length)↔∀a∈L,H.count a=1:=by grind [qu,List.Perm.length_eq]
variable{p:Int}{n:Nat}{l:aC}
theorem eM : p∈lpgs l n↔∃k:Nat,k<n/\p=l.Q+(k:Nat):=by grind [lpgs]
structure nu(sp:List aB)(la:List aC):Prop where
 sok:∀s∈sp,bk s=true
 lok:∀l∈la,bI l=true
 nd:(sp.map (·.Q)).Nodup
 dis:∀s∈sp,∀l∈la,∀k:Nat,k<l.a1.toNat->s.Q≠l.Q+(k:Nat)
 one:∀i j,i<la.length->j<la.length->∀k k':Nat,k<(nth la i).a1.toNat->k'<(nth la j).a1.toNat->(nth la i).Q+(k:Nat)=(nth la j).Q+(k':Nat)->i=j
theorem nu.of(h:b8 sp la=true):nu sp la:=by
 obtain⟨B,C,d⟩:=fJ h;unfold pgs at d;rw[List.nodup_append]at d;obtain⟨q,r,t⟩:=d;have u:=List.pairwise_flatMap.1 r;refine⟨ψ,ψ,q,λs D l w k c e=>?_,λi j f g k o c a e=>?_⟩
 ·exact t _ ψ _ (List.mem_flatMap.2 ⟨l,w,eM.2 ⟨k,c,rfl⟩⟩) e
 have p:=List.pairwise_iff_getElem.1 u.2;have y:=br (z4 f);have A:=br (z4 g);rw[y]at c e;rw[A]at a e;rcases Nat.lt_trichotomy i j with b|n|b
 ·exact absurd e (p i j f g b _ (eM.2 ⟨k,c,rfl⟩) _ (eM.2 ⟨o,a,rfl⟩))
 ·exact n
 exact absurd e.symm (p j i g f b _ (eM.2 ⟨o,a,rfl⟩) _ (eM.2 ⟨k,c,rfl⟩))
variable{a:Int}{s:aB}
theorem iw(b:bk s=true):dP s a=true↔16*s.Q<=a/\a<=16*s.Q+15:=by grind [dP]
theorem jA(b:nu sp la)(c:i<sp.length)(h:16*(nth sp i).Q<=a/\a<=16*(nth sp i).Q+15):denotes sp la a=qv i (nth sp i) a:=by
 refine qA c ((iw (b.sok _ (ax c))).2 h) λj z l k=>?_
 cases e:dP z a with
 | false=>rfl
 | true=>
  exfalso;have d:=(C4.1 k).1;have n:=(iw (b.sok z ψ)).1 e;have g:=br k;subst g;have:=du (f:=(·.Q)) b.nd c d ω;omega
theorem Ym(b:nu sp la)(h:∀i,i<sp.length->¬(16*(nth sp i).Q<=a/\a<=16*(nth sp i).Q+15)):∀(j:Nat)(z:aB),j<sp.length->sp[j]? = some z->dP z a=false:=by grind [iw,nu.sok,br]
theorem Kk(c:nu sp la)(a:Int):a∈live0 sp la↔a∈kF sp la:=by
 have G:a∈kF sp la↔∃n:Nat,n<512/\mR sp la n=true/\(n:Int)=a:=by grind [kF,oR]
 rw[G];unfold live0 ib;rw[z5,List.mem_flatMap,O8];constructor
 ·rintro(⟨s,g,C⟩|⟨l,b,rfl⟩)
  ·obtain⟨i,d,rfl⟩:=aW g
   unfold fX at C;obtain⟨k,H,rfl⟩:=O8.1 C;obtain⟨h,J⟩:=S8.1 H;have h:=List.mem_range.1 h;have o:=aJ (c.sok _ g);have t:=Fp ⟨o.2.2.1,o.2.2.2⟩;have K:=wx (nth sp i).d;unfold m7;have L:0<=(k:Int)*csz (nth sp i).d/\(k:Int)*csz (nth sp i).d<=15:=by grind [bT]
   have f:=jA c d (a:=16*(nth sp i).Q+(k:Nat)*csz (nth sp i).d) ω;have O:(16*(nth sp i).Q+(k:Nat)*csz (nth sp i).d - 16*(nth sp i).Q) / csz (nth sp i).d=(k:Nat)/\(16*(nth sp i).Q+(k:Nat)*csz (nth sp i).d - 16*(nth sp i).Q) % csz (nth sp i).d=0:=by grind [bT]
   refine⟨(16*(nth sp i).Q+(k:Nat)*csz (nth sp i).d).toNat,ω,?_,ω⟩
   grind [mR,qv]
  obtain⟨i,d,rfl⟩:=aW b;have P:=aR (c.lok _ b);have M:=ch (c.lok _ b);have u:=Ym c (a:=16*(nth la i).Q) λj D Q=>c.dis _ (ax D) _ b 0 ω ω
  have E:b9 (nth la i) (16*(nth la i).Q)=true:=by grind [nu.lok,b9]
  have f:=pK (a:=16*(nth la i).Q) (C5 _) u d E λj z D r=>by
   cases e:b9 z (16*(nth la i).Q) with
   | false=>rfl
   | true=>
    exfalso;have w:=(C4.1 r).1;have p:=t4 r;have y:=br r;subst y;have N:=aR (c.lok _ p);have q:=c.lok _ p;unfold bI at q;rw[C0]at q;unfold b9 at e;rw[I0,C0]at e;have:=c.one i j d w 0 ((nth la i).Q - (nth la j).Q).toNat ω ω ω;omega
  refine⟨(16*(nth la i).Q).toNat,ω,?_,ω⟩
  grind [mR]
 rintro⟨n,R,b,rfl⟩
 cases u:sp.findIdx? (dP · (n:Nat)) with
 | some i=>
  obtain⟨d,A,-⟩:=SE.1 u;have B:=br (z4 d);rw[<-B]at A;have g:=c.sok _ (ax d);have F:=(iw g).1 A;have o:=aJ g;have t:=Fp ⟨o.2.2.1,o.2.2.2⟩;have f:denotes sp la (n:Nat)=qv i (nth sp i) (n:Nat):=by grind [denotes]
  rw[vF f]at b;simp only[I0,CD,C0]at b;simp only[qv]at b;cases E:bc (nth sp i).a9 (((n:Int) - 16*(nth sp i).Q) / csz (nth sp i).d) with
  | false=>grind
  | true=>
   have r:((n:Int) - 16*(nth sp i).Q) % csz (nth sp i).d=0:=b.1;refine .inl ⟨nth sp i,ax d,?_⟩;unfold fX;refine O8.2 ⟨(((n:Int) - 16*(nth sp i).Q) / csz (nth sp i).d).toNat,S8.2 ⟨List.mem_range.2 ?_,?_⟩,?_⟩
   all_goals grind [bT,m7]
 | none=>
  cases F:la.findIdx? (b9 · (n:Nat)) with
  | some i=>
   obtain⟨d,A,-⟩:=SE.1 F;have f:denotes sp la (n:Nat) = ⟨3,i,0,(n:Nat) - 16*(nth la i).Q⟩:=by grind [denotes]
   rw[vF f]at b
   grind [ax]
  | none=>
   have f:denotes sp la (n:Nat) = ⟨0,0,0,0⟩:=by grind [denotes]
   rw[vF f]at b;simp at b
theorem zG(b:nu sp la)(c:(denotes sp la a).c8=0)(f:(denotes sp la a).b2=1\/(denotes sp la a).b2=3):a∈kF sp la:=by
 have l:0<=a/\a<512:=by
  unfold denotes at c f;cases g:sp.findIdx? (dP · a) with
  | some i=>
   obtain⟨d,j,-⟩:=SE.1 g;have h:=List.getElem_mem d;have e:=(iw (b.sok _ h)).1 j;have k:=aJ (b.sok _ h);omega
  | none=>
   rw[g]at c f;cases e:la.findIdx? (b9 · a) with
   | some i=>
    obtain⟨d,-⟩:=SE.1 e;rw[e]at c;have n:=aR (b.lok _ (ax d))
    grind
   | none=>grind
 have k:((a.toNat:Nat):Int)=a:=ω
 grind [kF,oR,mR]
theorem yi(sp:List aB)(la:List aC):(kF sp la).Nodup:=by
 unfold kF oR List.Nodup;rw[List.pairwise_map]
 grind [List.Pairwise.imp,List.nodup_range]
variable{c:Int}
theorem xH(b:nu h.K h.H)(d:ed h a c=true):a∈kF h.K h.H:=by grind [zG,ed]
variable{o:bg}
theorem T7(a:nu h.K h.H)(b:kK h o=true):o.Addr∈kF h.K h.H:=by grind [zG,kK]
theorem Nu(h:ac)(a:Int):(qb h).count a=(holders h).count a:=by grind [qb,holders]
theorem oD(h:ac):l8 h=true↔(h.R.all (gw h)=true/\h.a7.y.all (jH h)=true)/\(aL h.w).all (mc h)=true:=by grind [l8]
theorem qy(f:nu h.K h.H)(g:gV h=true)(j:l8 h=true):∀a∈holders h,a∈kF h.K h.H:=by
 obtain⟨⟨n,p⟩,q⟩:=(oD h).1 j;intro a b;unfold holders at b;simp only[z5]at b;rcases b with((b|b)|b)|b
 ·obtain⟨o,d,rfl⟩:=O8.1 b
  obtain⟨i,r,rfl⟩:=aW d;have e:=fS g r
  grind [T7,objAt]
 ·unfold cU at b
  obtain⟨c,t,b⟩:=List.mem_flatMap.1 b;obtain⟨l,u,b⟩:=List.mem_flatten.1 b;obtain⟨k,w,rfl⟩:=aW u;have e:=O7.1 n c t;unfold gw at e;have A:=O7.1 (show(nth c.Y k).all _=true from fS e w) a b
  grind [xH]
 ·obtain⟨x,y,rfl⟩:=O8.1 b
  exact xH f (O7.1 p x y)
 exact xH f (O7.1 q a b)
theorem QS(b:b8 h.K h.H=true)(c:gV h=true):(oY h&&lC h)=mu h:=by
 have d:=nu.of b;have e:(oY h=true/\h.a7.y.all (jH h)=true)↔h.a7.y.all (vB h)=true:=by grind [oY,vB]
 have f:mu h=true↔((h.R.all (gw h)=true/\h.a7.y.all (vB h)=true)/\(aL h.w).all (mc h)=true)/\∀a∈kF h.K h.H,(holders h).count a=1:=by
  unfold mu;simp only[I0];refine and_congr Iff.rfl ?_;simp only[O7,C0,Nu]
  grind [List.mem_mergeSort,Kk,kR,sorted]
 grind [oD,Ru,yi,qy,lC]
theorem kx(s t:aB):meshable s t=meshable t s:=by grind [meshable]
variable{f:Int}{t:aO}
theorem fo{p:Nat} : (p:Int)∈pagesOn t f↔p<t.M.length/\(nth t.M p).e≠0/\(nth t.M p).j=f:=by grind [pagesOn,m0,Tg]
theorem yF{q:Int}(h:q∈pagesOn t f):∃p:Nat,q=(p:Nat):=by grind [pagesOn,m0]
theorem wJ(a:pages0 h=true):(∀i,i<h.H.length->∀k:Nat,k<(nth h.H i).a1.toNat->(aX h ((nth h.H i).Q+(k:Nat))).length=1)/\(∀p∈pgs h.K h.H,p<eQ h)/\∀p:Nat,p<eQ h->((nth (tbl h).M p).e≠0↔(p:Int)∈pgs h.K h.H):=by grind [fS,pages0,vq,Ai,zw]
theorem FI{p:Nat}(a:p<eQ h):af (tbl h) (p:Nat)=nth (tbl h).M p:=gR a
theorem gg{p:Nat}(a:p<eQ h)(b:(nth (tbl h).M p).e≠0):aX h (p:Nat)=pagesOn (tbl h) (nth (tbl h).M p).j:=by grind [FI,aX,tbl]
theorem nz(g:nu h.K h.H)(c:j<h.K.length):gk h (nth h.K j).Q=(j:Nat):=by
 unfold gk;refine df (ar c) (by unfold nG;simp) λk z i d=>?_
 have a:=br d;have b:=(C4.1 d).1;subst a;unfold nG;refine C1 λe=>?_
 have:=du (f:=(·.Q)) g.nd b c e;omega
theorem xB(w:b8 h.K h.H=true)(N:pages0 h=true):wS h=rM h:=by
 have E:=nu.of w;obtain⟨O,P,Q⟩:=wJ N;have o:∀i,i<h.K.length->∃p:Nat,(nth h.K i).Q=(p:Nat)/\p<eQ h/\(nth (tbl h).M p).e≠0:=λi r=>by
  have Y:=aJ (E.sok _ (ax r));have R:(nth h.K i).Q∈pgs h.K h.H:=by grind [ax,pgs]
  have c:=P _ R;refine⟨(nth h.K i).Q.toNat,ω,ω,?_⟩
  grind
 rw[C9];unfold wS rM;rw[cK,cK];constructor
 ·intro F i r
  rw[cK];intro j G;have y:j<h.K.length:=ω
  unfold oZ;rw[CD,C0];by_cases d:(af (tbl h) (nth h.K i).Q).j=(af (tbl h) (nth h.K j).Q).j
  ·right
   obtain⟨p,e,a,f⟩:=o i r;obtain⟨q,A,b,g⟩:=o j y;have n:=O7.1 (F i r);rw[e,A,FI a,FI b]at d;have S:(q:Int)∈aX h (nth h.K i).Q:=by
    rw[e,gg a f];exact fo.2 ⟨b,g,d.symm⟩
   have t:=n _ S;unfold pI at t;rw[<-A,nz E y]at t;rw[CD,I0,C0]at t;rcases t with t|t
   ·omega
   simpa using t.2
  exact .inl d
 intro B i r;rw[O7];intro q C;obtain⟨p,e,a,f⟩:=o i r;have T:=C;rw[e,gg a f]at C;obtain⟨D,rfl⟩:=yF C;obtain⟨b,g,H⟩:=fo.1 C;have u:=(Q D b).1 g;unfold pgs at u;rw[z5,O8,List.mem_flatMap]at u;rcases u with⟨s,F,J⟩|⟨l,U,K⟩
 ·obtain⟨j,G,rfl⟩:=aW F
  unfold pI;rw[<-J,nz E G];rw[CD,I0,C0,C0];have d:(af (tbl h) (nth h.K i).Q).j=(af (tbl h) (nth h.K j).Q).j:=by grind [FI]
  rcases Nat.lt_trichotomy j i with c|V|c
  ·have n:=fS (B i r) c
   unfold oZ at n
   simp_all
  ·omega
  have n:=fS (B j G) c;unfold oZ at n;rw[CD,C0]at n;exact .inr ⟨ω,by rw[kx];simp_all⟩
 exfalso;obtain⟨W,L,rfl⟩:=aW U;obtain⟨k,X,M⟩:=eM.1 K;have n:=O W L k X;rw[<-M,gg b g]at n;have Z:(D:Int)∈pagesOn (tbl h) (nth (tbl h).M D).j:=ψ
 have m2:(p:Int)∈pagesOn (tbl h) (nth (tbl h).M D).j:=fo.2 ⟨a,f,H.symm⟩
 grind [List.length_eq_one_iff,nu.dis,ax]
theorem dM(h:ac):ml h=cw h:=by grind [xB,QS,ml,cw,mM]
def ovl(y r:aG):Bool:=decide (y.At<r.At+r.a8/\r.At<y.At+y.a8)
def pU(r:aG):List aG->Bool->Option (List aG)
 | [],put=>some (if put then [] else [r])
 | y::a,put=>if ovl y r then none else if !put&&decide (y.At > r.At) then(pU r a true).map λt=>r::y::t else(pU r a put).map λt=>y::t
def eA(out:List aG):List aG->List aG
 | []=>out
 | y::ys=>match out.getLast? with
  | some z=>if z.At+z.a8=y.At then eA (out.dropLast++[⟨z.At,z.a8+y.a8⟩]) ys else eA (out++[y]) ys
  | none=>eA (out++[y]) ys
def lz:List aG->aG->List aG->Bool->Option (List aG)
 | [],r,out,done=>some (if done then out else out++[r])
 | y::ys,r,out,done=>
  if ovl y r then none
  else if y.At+y.a8=r.At then lz ys ⟨y.At,y.a8+r.a8⟩ out done
  else if r.At+r.a8=y.At then lz ys ⟨r.At,r.a8+y.a8⟩ out done
  else if y.At > r.At/\done=false then lz ys r (out++[r,y]) true
  else lz ys r (out++[y]) done
def lT(xs:List aG):Prop:=xs.Pairwise (λa b=>a.At+a.a8<b.At)/\∀y∈xs,1<=y.a8
variable{y:aG}
theorem lT.tail{a:List aG}(h:lT (y::a)):lT a:=⟨(List.pairwise_cons.1 h.1).2,λz b=>h.2 z ψ⟩
theorem lT.head{a:List aG}(h:lT (y::a)):∀z∈a,y.At+y.a8<z.At:=(List.pairwise_cons.1 h.1).1
theorem lJ:∀(a out:List aG),lT a->(∀z,out.getLast? = some z->∀y∈a,z.At+z.a8≠y.At)->eA out a=out++a
 | [],out,_,_=>by simp[eA]
 | y::a,out,d,e=>by
  have b:eA (out++[y]) a=out++y::a:=by
   rw[lJ a (out++[y]) d.tail λz c w f=>by
     simp at c;subst c;have:=d.head w f;omega]
   simp
  unfold eA;split
  ·rename_i z c
   rw[CJ (e z c y (O3 ..))];exact b
  exact b
theorem AU{r:aG} : ∀{a:List aG},lT a->(∀y∈a,r.At+r.a8<=y.At)->pU r a true=some a
 | [],_,_=>rfl
 | y::a,c,b=>by
  have e:=b y (O3 ..);unfold pU;rw[CJ (by unfold ovl;rw[C0];omega)];simp only[Bool.not_true,Bool.false_and,Bool.false_eq_true,if_false];rw[AU c.tail λz d=>b z (OA _ d)]
  rfl
theorem yv{r:aG}(h1:1<=r.a8){a:List aG}(b:lT a)(c:∀y∈a,r.At+r.a8<=y.At):pU r a false=some (r::a):=by
 cases a with
 | nil=>rfl
 | cons y a=>
  grind [AU,lT.tail,pU,ovl]
def tg{r:aG} : ∀{a out:List aG},lT a->1<=r.a8->(∀y∈a,r.At+r.a8<y.At)->lz a r out true=some (out++a)
 | [],out,_,_,_=>by simp[lz]
 | y::a,out,b,d,c=>by
  have f:=c y (O3 ..);have g:=b.2 y (O3 ..);unfold lz;rw[CJ (by unfold ovl;rw[C0];omega),CJ ω,CJ ω,CJ (by simp),tg b.tail d λz e=>c z (OA _ e)];simp
variable{out:List aG}
theorem B2{r:aG}(h1:1<=r.a8){a:List aG}(b:lT a)(c:∀y∈a,r.At+r.a8<=y.At):lz a r out false=some (out++match a with|[]=>[r]|y::zs=>if r.At+r.a8=y.At then⟨r.At,r.a8+y.a8⟩::zs else r::y::zs):=by
 cases a with
 | nil=>simp[lz]
 | cons y a=>
  have g:=c y ψ;have h:=b.2 y ψ;unfold lz;rw[CJ (by grind [ovl]),CJ ω];by_cases e:r.At+r.a8=y.At
  ·rw[CL e]
   simp only[e,if_true];cases a with
   | nil=>simp[lz]
   | cons z a=>
    have i:=b.head z ψ;have j:=b.tail.2 z ψ;unfold lz;simp only;rw[CJ (by grind [ovl]),CJ ω,CJ ω,CL jp,tg b.tail.tail (by simp only;omega) λw d=>by
      have:=b.tail.head w d;simp only;omega]
    simp
  rw[CJ e,CL jp,tg b.tail h1 λz f=>by have:=b.head z f;omega];simp[e]
theorem FX{pages:Int} : ∀{a:List aG}{r:aG}{out:List aG},lT a->1<=r.a8->(∀z,out.getLast? = some z->(∀y∈a,z.At+z.a8<y.At)/\z.At+z.a8<r.At)->(pU r a false).map (eA out)=lz a r out false
 | [],r,out,_,g,q=>by
  show some (eA out [r])=some (out++[r]);rw[lJ [r] out ⟨List.pairwise_singleton ..,λy u=>by rw[z3.1 u];exact g⟩ ψ]
 | y::a,r,out,c,g,q=>by
  have F:=c.2 y ψ;by_cases l:ovl y r=true
  ·grind [pU,lz]
  ·have i:=l
   unfold ovl at i;rw[C0]at i;by_cases A:r.At+r.a8<=y.At
   ·-- all to the right
    have b:∀w∈y::a,r.At+r.a8<=w.At:=λw f=>by grind [lT.head]
    rw[yv g c b,B2 g c b];show some (eA out (r::y::a))=_;have hfirst:eA out (r::y::a)=eA (out++[r]) (y::a):=by
     conv=>lhs;unfold eA
     grind
    rw[hfirst];by_cases e:r.At+r.a8=y.At
    ·have:eA (out++[r]) (y::a)=eA (out++[⟨r.At,r.a8+y.a8⟩]) a:=by
      conv=>lhs;unfold eA
      simp[e]
     grind [lJ,lT.tail,lT.head]
    grind [lJ,lT.head]
   have B:y.At+y.a8<=r.At:=ω
   have n:∀t,eA out (y::t)=eA (out++[y]) t:=λt=>by
    conv=>lhs;unfold eA
    grind [O3]
   have C:(pU r (y::a) false).map (eA out)=(pU r a false).map (eA (out++[y])):=by
    conv=>lhs;unfold pU
    rw[CJ l,CJ jp,Option.map_map]
    congr 1
    grind
   rw[C];unfold lz;rw[CJ l];by_cases e:y.At+y.a8=r.At
   ·rw[CL e]
    by_cases o:∃w,a.head? = some w/\ovl w r=true
    ·obtain⟨w,f,D⟩:=o
     cases a with
     | nil=>cases f
     | cons d h=>
      grind [ovl,pU,lz]
    have b:∀w∈a,r.At+r.a8<=w.At:=by
     cases a with
     | nil=>grind
     | cons d h=>
      have G:=c.head d ψ;have H:=c.tail.2 d ψ
      grind [lT.head,lT.tail,ovl]
    rw[yv g c.tail b,B2 (r:=⟨y.At,y.a8+r.a8⟩) (by simp only;omega) c.tail ψ];show some (eA (out++[y]) (r::a))=_;have E:eA (out++[y]) (r::a)=eA (out++[⟨y.At,y.a8+r.a8⟩]) a:=by
     conv=>lhs;unfold eA
     simp[e]
    rw[E];cases a with
    | nil=>simp[eA]
    | cons d h=>
     by_cases j:y.At+(y.a8+r.a8)=d.At
     ·have p:eA (out++[⟨y.At,y.a8+r.a8⟩]) (d::h)=eA (out++[⟨y.At,y.a8+r.a8+d.a8⟩]) h:=by
       conv=>lhs;unfold eA
       simp[j]
      rw[p,lJ h _ c.tail.tail λz k w f=>by grind [lT.head,lT.tail]];simp[j]
     rw[lJ (d::h) _ c.tail λz k w f=>by
       simp at k;subst k;simp only;rcases List.mem_cons.1 f with rfl|f
       · exact j
       have:=c.tail.head w f;have:=b d ψ;have:=c.tail.2 d ψ;omega]
     simp[j]
   rw[CJ e,CJ ω,CJ ω];exact FX (pages:=pages) c.tail g λz k=>by grind [lT.head]
def iB(k:ah)(f:Int):ah:=if(pagesOn k.F.O f).length=0 then {k with F:=⟨⟨k.F.V.T.set f.toNat (List.replicate 16 0),k.F.V.a6.set f.toNat false⟩,k.F.O⟩} else k
def nE(k:ah)(p:Int):ah:={k with F:=⟨k.F.V,⟨k.F.O.M.set p.toNat ⟨0,0⟩⟩⟩}
def dm(k:ah)(p:Int):ah:=if(af k.F.O p).e=0 then k else iB (nE k p) (af k.F.O p).j
theorem bW[Inhabited α](xs:List α)(i j:Nat)(x:α):nth (xs.set i x) j=if i=j/\j<xs.length then x else nth xs j:=by grind [nth]
theorem qj(k:ah)(f:Int):(iB k f).F.O=k.F.O/\(iB k f).Calls=k.Calls/\(iB k f).a3=k.a3/\(iB k f).F.V.T.length=k.F.V.T.length/\(iB k f).F.V.a6.length=k.F.V.a6.length:=by grind [iB]
theorem nQ(k:ah)(p:Int):(dm k p).F.O.M.length=k.F.O.M.length/\(dm k p).Calls=k.Calls/\(dm k p).a3=k.a3:=by grind [qj,dm,nE]
variable{k:ah}
theorem aH : aI k=true↔(∀j,j<k.a3.length->0<=nth k.a3 j)/\dE k.F.V=true/\iH k.F.O k.F.V.a6.length=true/\(∀j,j<k.F.V.a6.length->nth k.F.V.a6 j=decide (0<(pagesOn k.F.O (j:Int)).length))/\0<=k.Calls/\k.Calls<=100000/\k.a3.length<=40:=by grind [cK,aI,dB,rN]
theorem bi{f:aZ} : dE f=true↔1<=f.T.length/\f.T.length<=32/\f.a6.length=f.T.length/\∀j,j<f.T.length->jw (nth f.T j) (nth f.a6 j)=true:=by
 unfold dE;simp only[I0,C0,O7,and_assoc];refine and_congr Iff.rfl (and_congr Iff.rfl (and_congr_right λb=>⟨λh j a=>?_,λh q c=>?_⟩))
 ·exact h _ (t4 (zD (ar a) (ar ω)))
 grind [List.mem_iff_getElem?,List.getElem?_zip_eq_some,br]
theorem bu : iH t a=true↔(∀j,j<t.M.length->nK a (nth t.M j)=true)/\1<=t.M.length/\t.M.length<=32:=by grind [cK,iH]
theorem fL : 0<(pagesOn t f).length↔∃q,q<t.M.length/\(nth t.M q).e≠0/\(nth t.M q).j=f:=by
 unfold pagesOn m0;rw[I2,List.length_pos_iff_exists_mem];simp[Tg]
theorem bD(h:aI k=true)(a:(af k.F.O p).e≠0):0<=p/\p<k.F.O.M.length/\af k.F.O p=nth k.F.O.M p.toNat/\0<=(af k.F.O p).j/\(af k.F.O p).j<k.F.V.a6.length:=by
 obtain⟨-,-,b,-⟩:=aH.1 h
 grind [bu,af,nK]
theorem D1(p:Int)(h:aI k=true):aI (dm k p)=true:=by
 unfold dm;split
 ·exact h
 rename_i r;obtain⟨C,D,E,i,l⟩:=bD h r;obtain⟨t,u,F,w,y,A,B⟩:=aH.1 h;obtain⟨G,H,J,L⟩:=bi.1 u;obtain⟨M,N,O⟩:=bu.1 F;rw[E]at r i l |-;generalize K:(nth k.F.O.M p.toNat).j=f at i l;have b:∀q,nth (k.F.O.M.set p.toNat ⟨0,0⟩) q=if p.toNat=q then⟨0,0⟩ else nth k.F.O.M q:=λq=>by grind [bW]
 have c:∀j:Int,0<(pagesOn (⟨k.F.O.M.set p.toNat ⟨0,0⟩⟩ : aO) j).length↔∃q,q<k.F.O.M.length/\q≠p.toNat/\(nth k.F.O.M q).e≠0/\(nth k.F.O.M q).j=j:=λj=>by
  rw[fL];simp only[C3,b]
  grind
 have d:∀j:Int,0<(pagesOn k.F.O j).length↔∃q,q<k.F.O.M.length/\(nth k.F.O.M q).e≠0/\(nth k.F.O.M q).j=j:=λj=>fL
 have g:iH ⟨k.F.O.M.set p.toNat ⟨0,0⟩⟩ k.F.V.a6.length=true:=by
  rw[bu];simp only[C3,b]
  grind [nK]
 unfold iB;split
 ·rename_i o
  rw[aH];simp only[nE,C3]at o |-;refine⟨t,?_,g,λj n=>?_,y,A,B⟩
  ·rw[bi]
   simp only[C3,bW];refine⟨G,H,J,λj n=>?_⟩;by_cases a:f.toNat=j
   ·rw[CL ⟨a,n⟩,CL ⟨a,ω⟩];decide
   grind
  rw[bW];by_cases a:f.toNat=j
  ·grind
  rw[CJ (λe=>a e.1),w j n];refine decide_eq_decide.2 ?_;rw[d,c]
  grind
 rename_i o;rw[aH];simp only[nE]at o |-;refine⟨t,u,g,λj n=>?_,y,A,B⟩;rw[w j n];refine decide_eq_decide.2 ?_;by_cases a:f=j
 ·grind
 rw[d,c];grind
def bj(h:aI k=true):ah.sml k:=by
 obtain⟨g,b,c,i,l,n,o⟩:=aH.1 h;obtain⟨p,q,t,d⟩:=bi.1 b;obtain⟨u,w,y⟩:=bu.1 c;refine⟨⟨⟨⟨ω,λr f=>?_⟩,(by omega:_<=1048576)⟩,⟨ω,λe _=>tV1⟩⟩,(by omega:_<=1048576)⟩;obtain⟨j,a⟩:=List.mem_iff_getElem?.1 f;have:=d j (C4.1 a).1;rw[br a]at this;unfold jw at this;simp only[I0,C0]at this;show r.length<=1048576;omega
theorem Ji(a:cw h=true):aI h.G=true:=by grind [cw,mM]
set_option maxHeartbeats 4000000
variable{K:List (List C)->Prop}{sz by_:Nat}
theorem Ap.cp{e:α->List C}{xs:List α}(h2:∀x,(e x).length=sz)(d:∀x,bp (e x)=true)(a:xs.length<=1048576)(b:by_<=1000)(c:K (xs.map e)):Ap true [] (xs.map e) sz by_ K:=
 Ca ψ ψ ψ jp (by simp only[I2,List.length_nil,OE];exact vm a b) rfl c
def CZ:type_of% @Ap.cp:=@Ap.cp
theorem Fl.cp{e:α->List C}{xs:List α}{X:Prop}(h2:∀x,(e x).length=sz)(d:∀x,bp (e x)=true)(a:xs.length<=1048576)(b:by_<=1000)(c:X):Fl (xs.map e) sz by_ X:=
 Fl.mk ψ jp (by simp only[I2];exact vm a b) c
def Cg:type_of% @Fl.cp:=@Fl.cp
variable{r:List C}{rows:List (List C)}
theorem Ap.sn{a:List (List C)}(h1:∀r∈rows,r.length=sz)(h2:r.length=sz)(b:rows.length+1<=1048576)(c:by_<=1000)(d:a=rows++[r])(e:K a):Ap false rows [r] sz by_ K:=
 Ca h1 ψ ψ jp (vm (by simpa using b) c) d e
def Ci:type_of% @Ap.sn:=@Ap.sn
def eP(xs:List Int)(a:xs.length<=1048576):zzA 196 false [.val none (aF .S xs)] .one (aF .own xs):=by
 refine fO 6 [] Tryz.func196 rfl ?_ (.inr (bC _))
 repeat'(first|refine gP ?_|refine CZ (λ_=>rfl) (λ_=>rfl) a qs ?_)
 rfl
def Hy(t:aO)(a:aO.sml t):zzA 468 false [.val (some 1) (aO.enc .S t)] .agg (aO.enc .own t):=by
 have b:=a.1;refine fO 8 [] Tryz.func468 rfl ?_ (.inr (aO.enc_fr _))
 repeat'(first|refine gP ?_|refine CZ (λ_=>rfl) (λ_=>rfl) b qs ?_)
 rfl
def Bm(t:aO)(a:aO.sml t):zzA 347 false [.val (some 1) (aO.enc .S t)] .agg (aO.enc .own t):=by
 have b:=a.1;refine fO 8 [] Tryz.func347 rfl ?_ (.inr (aO.enc_fr _))
 repeat'(first|refine gP ?_|refine CZ (λ_=>rfl) (λ_=>rfl) b qs ?_)
 rfl
theorem aM{e:α->List C}{l:List α}(h:∀x,(e x).length=n):∀r∈l.map e,r.length=n:=(ψ)
variable{β:Type}
theorem gv[Inhabited α]{xs:List α}{f:α->β}(a:i<xs.length):(xs.take (i+1)).map f=(xs.take i).map f++[f (nth xs i)]:=by grind [CB,ar]
def Jb(f:aZ)(a:aZ.sml f):zzA 467 false [.val (some 2) (aZ.enc .S f)] .agg (aZ.enc .own f):=by
 have g:=a.1.1;have d:f.a6.length<=1048576:=a.2;refine fO 30 [(5,10,[17,18,19,20,21,22,23,24,25,26])] Tryz.func467 rfl ?_ (.inr (aZ.enc_fr _))
 repeat'(first|refine gP ?_|refine CZ (λ_=>rfl) (λ_=>rfl) d qs ?_)
 refine lp0 f.T.length (λi=>[(1,bB (aZ.enc .S f)),(2,bB [.z,.z]),(3,bB [.s .own ((f.T.take i).map (aF .own)),.s .own (f.a6.map (rB .own))]),(4,fN i)]) λi h=>?_
 by_cases b:i<f.T.length
 ·have e:=ar b
  have c:(nth f.T i).length<=1048576:=a.1.2 _ (ax b)
  repeat'(first|refine gE ?_|refine Cg (λ_=>rfl) (λ_=>rfl) c qs ?_|refine Ci (aM λ_=>rfl) rfl jp qs (gv b) ?_)
  (exact cV (i+1) ω)
 refine σE ?_
 obtain rfl:i=f.T.length:=ω
 rw[S9]
 rfl
def rp(f:aZ)(a:aZ.sml f):zzA 346 false [.val (some 2) (aZ.enc .S f)] .agg (aZ.enc .own f):=by
 have g:=a.1.1;have d:f.a6.length<=1048576:=a.2;refine fO 27 [(5,5,[18,19,20,21,22])] Tryz.func346 rfl ?_ (.inr (aZ.enc_fr _))
 repeat'(first|refine gP ?_|refine CZ (λ_=>rfl) (λ_=>rfl) d qs ?_)
 refine lp0 f.T.length (λi=>[(2,bB [.z,.z]),(3,bB [.s .own ((f.T.take i).map (aF .own)),.s .own (f.a6.map (rB .own))]),(12,bJ (iR .S f.T)),(13,fI f.T.length),(14,fN i)]) λi h=>?_
 by_cases b:i<f.T.length
 ·have e:=ar b
  have c:(nth f.T i).length<=1048576:=a.1.2 _ (ax b)
  repeat'(first|refine gE ?_|refine CG (eP (nth f.T i) c) ?_|refine Ci (aM λ_=>rfl) rfl jp qs (gv b) ?_)
  (exact cV (i+1) ω)
 refine σE ?_
 obtain rfl:i=f.T.length:=ω
 rw[S9]
 rfl
def wT(m:aT)(a:aT.sml m):zzA 349 false [.val (some 3) (aT.enc .S m)] .agg (aT.enc .own m):=by
 refine fO 10 [(1,5,[3,4,5,6,7])] Tryz.func349 rfl ?_ (.inr (aT.enc_fr _))
 repeat'(first|refine gP ?_|refine CG (Jb m.V a.1) ?_|refine CG (Hy m.O a.2) ?_)
 rfl
def lR(m:aT)(a:aT.sml m):zzA 195 false [.val (some 3) (aT.enc .S m)] .agg (aT.enc .own m):=by
 refine fO 10 [(1,5,[3,4,5,6,7])] Tryz.func195 rfl ?_ (.inr (aT.enc_fr _))
 repeat'(first|refine gP ?_|refine CG (rp m.V a.1) ?_|refine CG (Bm m.O a.2) ?_)
 rfl
def He(k:ah)(a:ah.sml k):zzA 203 false [.val (some 5) (ah.enc .S k)] .agg (ah.enc .own k):=by
 have b:k.a3.length<=1048576:=a.2;refine fO 13 [(1,9,[3,4,5,6,7,8,9,10,11])] Tryz.func203 rfl ?_ (.inr (Ck _))
 repeat'(first|refine gP ?_|refine CG (wT k.F a.1) ?_|refine Cg (λ_=>rfl) (λ_=>rfl) b qs ?_)
 rfl
def i6(k:ah)(a:ah.sml k):zzA 68 false [.val (some 5) (ah.enc .S k)] .agg (ah.enc .own k):=by
 refine fO 12 [(1,8,[3,4,5,6,7,8,9,10])] Tryz.func68 rfl ?_ (.inr (Ck _))
 repeat'(first|refine gP ?_|refine CG (lR k.F a.1) ?_|refine CG (eP k.a3 a.2) ?_)
 rfl
def ge(k:ah)(p:Int)(a:aO.sml k.F.O):zzA 485 false [.ptr (ah.enc .S k),.vI p] .one [I (af k.F.O p).e]:=by
 refine fO 13 [] Tryz.func485 rfl ?_
 repeat'(first|refine gP ?_|refine CG (ee k.F.O p a) ?_)
 rfl
def oW(k:ah)(b:ah.sml k):zzA 277 false [.val (some 5) (ah.enc .S k)] .one [B (aI k&&decide (k.Calls<100000))]:=by
 have a:=pc k b;cases e:aI k<;>rw[e]at a
 ·refine fO 10 [] Tryz.func277 rfl ?_
  repeat'(first|refine gP ?_|refine gS (λc=>?_) (λc=>?_)|fail)
  all_goals rfl
 refine fO 10 [] Tryz.func277 rfl ?_
 refine σP ?_
 all_goals rfl
def jq(k:ah)(a:ah.sml k):zzA 197 false [.val (some 5) (ah.enc .S k)] .one [B (decide (k.Calls≠100000)&&aI k)]:=by
 have b:=pp k a;refine fO 10 [] Tryz.func197 rfl ?_
 repeat'(first|refine gP ?_|refine gS (λc=>?_) (λc=>?_)|fail)
 all_goals(exact bZ ((by simp[*])))
theorem xf(h:(pagesOn k.F.O f).length=0):ah.enc .own (iB k f)=[.s .own ((k.F.V.T.map (aF .own)).set f.toNat (aF .own (List.replicate 16 0))),.s .own ((k.F.V.a6.map (rB .own)).set f.toNat (rB .own false)),.s .own (k.F.O.M.map (bo.enc .own)),I k.Calls,.s .own (k.a3.map (rI .own))]:=by grind [SC,iB,ah.enc]
theorem Bv(h:¬(pagesOn k.F.O f).length=0):ah.enc .own (iB k f)=ah.enc .own k:=by grind [iB]
def wc(k:ah)(f:Int)(a:aO.sml k.F.O)(b:0<=f/\f<k.F.V.T.length/\f<k.F.V.a6.length) :
  zzB 486 false [.ptr (ah.enc .own k),.vI f] [.ptr (ah.enc .own (iB k f)),.vI f] (.tup []) []:=by
 have c:=ar (xs:=k.F.V.T) (i:=f.toNat) ω;have d:=ar (xs:=k.F.V.a6) (i:=f.toNat) ω;by_cases e:(pagesOn k.F.O f).length=0
 ·rw[xf e]
  refine fM 30 [] [(2,8,[21,22,23,24,25,26,27,28])] [(0,0),(0,0)] Tryz.func486 rfl (λu q=>?_) (.inr tV1)
  repeat'(first|refine gB ?_|with_reducible (first|refine CQ b.1 (aa d) ?_|refine CQ b.1 (aa c) ?_)|refine CN (js k.F.O f a) ⟨⟨rfl,Cp k.F.O⟩,⟨rfl,rfl⟩,tV1⟩ ?_|refine CU rfl rfl (aa c) rfl (O2 rfl) rfl ?_|refine CU rfl rfl (aa d) rfl (O2 rfl) rfl ?_|refine Mk.mk 16 rfl rfl qs qs rfl ?_)
  exact kc
 rw[Bv e];refine fM 30 [] [(2,8,[21,22,23,24,25,26,27,28])] [(0,0),(0,0)] Tryz.func486 rfl (λu q=>?_) (.inr tV1)
 repeat'(first|refine gB ?_|refine CN (js k.F.O f a) ⟨⟨rfl,Cp k.F.O⟩,⟨rfl,rfl⟩,tV1⟩ ?_)
 exact kc
def vz(k:ah)(f:Int)(a:aO.sml k.F.O)(b:0<=f/\f<k.F.V.T.length/\f<k.F.V.a6.length) :
  zzB 198 false [.ptr (ah.enc .own k),.vI f] [.ptr (ah.enc .own (iB k f)),.vI f] (.tup []) []:=by
 have c:=ar (xs:=k.F.V.T) (i:=f.toNat) ω;have d:=ar (xs:=k.F.V.a6) (i:=f.toNat) ω;by_cases e:(pagesOn k.F.O f).length=0
 ·rw[xf e]
  refine fM 30 [] [(2,8,[21,22,23,24,25,26,27,28])] [(0,0),(0,0)] Tryz.func198 rfl (λu q=>?_) (.inr tV1)
  repeat'(first|refine gB ?_|with_reducible (first|refine CQ b.1 (aa d) ?_|refine CQ b.1 (aa c) ?_)|refine CN (nl k.F.O f a) ⟨⟨rfl,Cp k.F.O⟩,⟨rfl,rfl⟩,tV1⟩ ?_|refine CU rfl rfl (aa c) rfl (O2 rfl) rfl ?_|refine CU rfl rfl (aa d) rfl (O2 rfl) rfl ?_|refine Mk.mk 16 rfl rfl qs qs rfl ?_)
  exact kc
 rw[Bv e];refine fM 30 [] [(2,8,[21,22,23,24,25,26,27,28])] [(0,0),(0,0)] Tryz.func198 rfl (λu q=>?_) (.inr tV1)
 repeat'(first|refine gB ?_|refine CN (nl k.F.O f a) ⟨⟨rfl,Cp k.F.O⟩,⟨rfl,rfl⟩,tV1⟩ ?_)
 exact kc
theorem AI(k:ah)(p:Int):ah.enc .own (nE k p)=[.s .own (k.F.V.T.map (aF .own)),.s .own (k.F.V.a6.map (rB .own)),.s .own ((k.F.O.M.map (bo.enc .own)).set p.toNat (bo.enc .own ⟨0,0⟩)),I k.Calls,.s .own (k.a3.map (rI .own))]:=by grind [SC,nE,ah.enc]
theorem D0(h:aI k=true):aO.sml (nE k p).F.O:=by
 obtain⟨a,b,c⟩:=bu.1 (aH.1 h).2.2.1;exact⟨by grind [nE],λ_ _=>tV1⟩
theorem VH(k:ah)(p:Int)(b:aI k=true) :
  zzB 374 false [.ptr (ah.enc .own k),.vI p] [.ptr (ah.enc .own (dm k p)),.vI p] .one [B (decide ((af k.F.O p).e≠0))]:=by
 have j:=bj b;have c:=ge k p j.1.2;by_cases a:(af k.F.O p).e=0
 ·rw[show dm k p=k by unfold dm;rw[CL a]]
  refine fM 32 [(486,[2,0])] [] [(0,0),(0,0)] Tryz.func374 rfl (λu q=>?_)
  repeat'(first|refine gB ?_|refine CN (c) ⟨CY k,⟨rfl,rfl⟩,tV1⟩ ?_)
  refine CP rfl ?_ ?_
  ·exact bZ ((by simp[a]))
  exact wB
 obtain⟨l,r,n,d,o⟩:=bD b a;have h:=(bi.1 (aH.1 b).2.1).2.2.1;rw[show dm k p=iB (nE k p) (af k.F.O p).j by unfold dm;rw[CJ a]];have e:=wc (nE k p) (af k.F.O p).j (D0 b) ⟨d,by grind [nE],by grind [nE]⟩;rw[AI]at e;have g:=ar (xs:=k.F.O.M) (i:=p.toNat) ω;rw[n]at c e a |-;refine fM 32 [(486,[2,0])] [] [(0,0),(0,0)] Tryz.func374 rfl (λu q=>?_)
 repeat'(first|refine gB ?_|with_reducible refine CQ l (aa g) ?_|refine CN (c) ⟨CY k,⟨rfl,rfl⟩,tV1⟩ ?_|refine CU rfl rfl (aa g) rfl (O2 rfl) rfl ?_)
 refine CP rfl ?_ ?_
 ·exact bZ ((by simp[a]))
 exact wB
theorem rV(k:ah)(p:Int)(a:aI k=true)(o:k.Calls≠100000) :
  zzA 69 false [.val (some 5) (ah.enc .S k),.vI p] (.tup [some 5,none]) (ah.enc .own (dm k p)++[B (decide ((af k.F.O p).e≠0))]):=by
 have d:=bj a;have l:=i6 k d;have e:=jq k d;have c:=fQ k p d.1.2;rw[a,O0 o]at e;by_cases b:(af k.F.O p).e=0
 ·rw[show dm k p=k by unfold dm;rw[CL b]]
  rw[C1 (by simpa using b)]at c |-;refine fP 38 [(198,[2,0])] [] Tryz.func69 rfl ?_ (.inr (aD (Ck k) ⟨tV1,tV1⟩))
  refine σP ?_
  all_goals rfl
 obtain⟨q,u,r,g,t⟩:=bD a b;have n:=(bi.1 (aH.1 a).2.1).2.2.1;rw[show dm k p=iB (nE k p) (af k.F.O p).j by unfold dm;rw[CJ b]];have h:=vz (nE k p) (af k.F.O p).j (D0 a) ⟨g,by grind [nE],by grind [nE]⟩;rw[AI]at h;have j:=ar (xs:=k.F.O.M) (i:=p.toNat) ω;rw[O0 b]at c |-;rw[r]at h |-;refine fP 38 [(198,[2,0])] [] Tryz.func69 rfl ?_ (.inr (aD (Ck _) ⟨tV1,tV1⟩))
 repeat'(first|refine gP ?_|with_reducible refine CQ q (aa j) ?_|refine CU rfl rfl (aa j) rfl (O2 rfl) rfl ?_)
 all_goals rfl
theorem ku(a:cw h=true):aI h.G=true/\b8 h.K h.H=true/\pages0 h=true/\wS h=true/\bG h.w=true/\(h.R.all bx=true/\h.R.length=h.w.U.length)/\gu h.a7=true/\gV h=true/\l8 h=true/\(holders h).Nodup/\(holders h).length=(kF h.K h.H).length:=by grind [cw,mM,eH,lC]
theorem QR(b:cw h=true)(c:a∈kF h.K h.H):a∈holders h:=by
 obtain⟨-,d,-,-,-,-,-,e,f,k10,k11⟩:=ku b
 grind [qu,qy,nu.of]
def fR(n:Nat):aZ:=⟨List.replicate n (List.replicate 16 0),List.replicate n false⟩
def f7(n:Nat):aO:=⟨List.replicate n ⟨0,0⟩⟩
def cy(p f:Nat)(a:List Int):ah:=⟨⟨fR f,f7 p⟩,0,a⟩
def gm:aE:=⟨List.replicate 4 []⟩
def fT(n:Nat):aP:=⟨List.replicate n [],List.replicate n []⟩
def newHeap(p f t:Nat)(lim:Int)(a:List Int):ac:=⟨cy p f a,[⟨0,p⟩],[],[],[],List.replicate t gm,fT t,⟨16,[]⟩,0,0,lim,1,false,⟨⟨0,0,[]⟩,0,0⟩⟩
theorem gi[Inhabited α]{y:α}(a:j<n):nth (List.replicate n y) j=y:=br ψ
theorem Uy(n:Nat)(f:Int):pagesOn (f7 n) f=[]:=by grind [List.filter_eq_nil_iff,gi,pagesOn,m0,f7,Tg]
theorem Ht{p f:Nat}(c:1<=p/\p<=32)(d:1<=f/\f<=32):aI (cy p f [])=true:=by
 rw[aH];refine⟨λj b=>by grind [cy],bi.2 ⟨by grind [cy,fR],by grind [cy,fR],by grind [cy,fR],λj b=>?_⟩,bu.2 ⟨λj b=>?_,by grind [cy,f7],by grind [cy,f7]⟩,λj b=>?_,by simp[cy],by simp[cy],by simp[cy]⟩
 ·have a:j<f:=by grind [cy,fR]
  rw[show nth (cy p f []).F.V.T j=List.replicate 16 0 from gi a,show nth (cy p f []).F.V.a6 j=false from gi a]
  decide
 all_goals grind [Uy,cy,f7,nth,nK,fR]
theorem Dj(w:World)(q:Nat)(a:Array Obj):bH NO w (Sort.grow (w.drewN q) a):=by
 have c:∀b,b<w.heap.size->(Sort.grow (w.drewN q) a).heap[b]? = w.heap[b]?:=λb c=>Sort.heap_grow_old (w.drewN q) a c
 refine⟨rfl,rfl,rfl,ψ,λb h _=>c b h,λb o h _=>?_,λb o h _=>?_⟩
 all_goals grind [Go.World.cell?,Go.World.frozen?,mp]
theorem Q7(c:Nat)(W:World):Calls Tryz.prog 455 #[.slice none 0 c] W λe g=>∃B q h,e=.returned (.slice B 0 0)/\g=Sort.grow (W.drewN q) h:=by
 have q22:∀(w:World)(a:Option Addr)(n c b d:Nat),(binOp .eql 33 (.slice a n c) (.slice none b d)).run Tryz.prog w=.ok (.bool a.isNone) w:=λw a n c b d=>Lib.run_eql_slice_nil w _ _ a n c b d Tryz.underlying33
 go_enter Tryz.func455,Tryz.ntmps455
 go_wp2
 go_ret
 exact⟨none,0,#[],rfl,by simp[Sort.grow,World.drewN]⟩
theorem M6(a:Addr)(c:Nat)(W:World):Calls Tryz.prog 455 #[.slice (some a) 0 c] W λe g=>∃B q h,e=.returned (.slice B 0 0)/\g=Sort.grow (W.drewN q) h:=by
 have q22:∀(w:World)(a:Option Addr)(n c b d:Nat),(binOp .eql 33 (.slice a n c) (.slice none b d)).run Tryz.prog w=.ok (.bool a.isNone) w:=λw a n c b d=>Lib.run_eql_slice_nil w _ _ a n c b d Tryz.underlying33
 go_enter Tryz.func455,Tryz.ntmps455
 go_wp2
 go_ret
 exact⟨some ⟨W.heap.size,0,none⟩,0,#[.cells #[] 3],rfl,by rw[Sort.alloc_eq_grow];rfl⟩
theorem Nm(xs:List Int)(o:xs.length<=1048576):zzA 455 false [.val none (aF .S xs)] .one (aF .own xs):=by
 by_cases c:xs=[]
 ·subst c
  refine⟨⟨_,Tryz.func455,by kernel_rfl,by kernel_rfl⟩,λw S p t d=>?_⟩
  match p,d with
  | [v],⟨d,_⟩=>
   have b:=bL.rep1 (show bL w S NO none [C.s .S []] v from d);obtain⟨l,g,rfl⟩:=b.slice;have r:Calls Tryz.prog 455 #[.slice l 0 g] w λe n=>∃B q i,e=.returned (.slice B 0 0)/\n=Sort.grow (w.drewN q) i:=by
    cases l with
    | none=>grind [Q7]
    | some a=>grind [M6]
   refine r.mono λe n ⟨B,q,i,c,j⟩=>?_
   subst j;exact⟨.slice B 0 0,c,Dj w q i,NO,NO,λ_ _ h=>h.elim,λ_ _ h=>h.elim,λ_ _ h=>h.elim,rfl,row1 (.nil _ .own B tV1)⟩
 have k:xs.map (rI .S)≠[]:=by simp_all
 refine fO 8 [] Tryz.func455 rfl ?_ (.inr (bC _))
 repeat'(first|refine gP ?_|refine Nn.mk k ?_|refine CZ (λ_=>rfl) (λ_=>rfl) o qs ?_)
 rfl
def ur(p:cL)(a:cL.sml p):zzA 332 false [.val (some 3) (cL.enc .S p)] .agg (cL.enc .own p):=by
 have b:p.T.length<=1048576:=a;refine fO 8 [] Tryz.func332 rfl ?_ (.inr (cL.enc_fr _))
 repeat'(first|refine gP ?_|refine CG (Nm p.T b) ?_)
 rfl
def wh(j:cY)(a:cY.sml j):zzA 185 false [.val (some 5) (cY.enc .S j)] .agg (cY.enc .own j):=by
 refine fO 8 [] Tryz.func185 rfl ?_ (.inr (cY.enc_fr _))
 repeat'(first|refine gP ?_|refine CG (ur j.X a) ?_)
 rfl
def ll(c:aE)(d:aE.sml c):zzA 204 false [.val (some 1) (aE.enc .S c)] .agg (aE.enc .own c):=by
 have g:=d.1;refine fO 26 [(5,10,[13,14,15,16,17,18,19,20,21,22])] Tryz.func204 rfl ?_ (.inr (Cv _))
 refine σP ?_
 refine lp0 c.Y.length (λi=>[(1,bB (aE.enc .S c)),(2,bB [.z]),(3,bB [.s .own ((c.Y.take i).map (aF .own))]),(4,fN i)]) λi h=>?_
 by_cases a:i<c.Y.length
 ·have e:=ar a
  have b:(nth c.Y i).length<=1048576:=d.2 _ (ax a)
  repeat'(first|refine gE ?_|refine Cg (λ_=>rfl) (λ_=>rfl) b qs ?_|refine Ci (aM λ_=>rfl) rfl jp qs (gv a) ?_)
  (exact cV (i+1) ω)
 refine σE ?_
 obtain rfl:i=c.Y.length:=ω
 rw[S9]
 rfl
def iZ(c:aE)(d:aE.sml c):zzA 182 false [.val (some 1) (aE.enc .S c)] .agg (aE.enc .own c):=by
 have g:=d.1;refine fO 23 [(5,5,[14,15,16,17,18])] Tryz.func182 rfl ?_ (.inr (Cv _))
 refine σP ?_
 refine lp0 c.Y.length (λi=>[(2,bB [.z]),(3,bB [.s .own ((c.Y.take i).map (aF .own))]),(8,bJ (iR .S c.Y)),(9,fI c.Y.length),(10,fN i)]) λi h=>?_
 by_cases a:i<c.Y.length
 ·have e:=ar a
  have b:(nth c.Y i).length<=1048576:=d.2 _ (ax a)
  repeat'(first|refine gE ?_|refine CG (eP (nth c.Y i) b) ?_|refine Ci (aM λ_=>rfl) rfl jp qs (gv a) ?_)
  (exact cV (i+1) ω)
 refine σE ?_
 obtain rfl:i=c.Y.length:=ω
 rw[S9]
 rfl
def iq(m:aP)(b:aP.sml m):zzA 205 false [.val (some 2) (aP.enc .S m)] .agg (aP.enc .own m):=by
 have h:=b.1.1;have g:=b.2.1;refine fO 46 [(5,10,[14,15,16,17,18,19,20,21,22,23]),(9,10,[33,34,35,36,37,38,39,40,41,42])] Tryz.func205 rfl ?_ (.inr (Ct _))
 refine σP ?_
 refine lp0 m.U.length (λi=>[(1,bB (aP.enc .S m)),(2,bB [.z,.z]),(3,bB [.s .own ((m.U.take i).map (bP .own)),.z]),(4,fN i)]) λi j=>?_
 by_cases c:i<m.U.length
 ·have d:=ar c
  have a:(nth m.U i).length<=1048576:=(b.1.2 _ (ax c)).1
  repeat'(first|refine gE ?_|refine Cg (λ_=>rfl) (λ_=>rfl) a qs ?_|refine Ci (aM λ_=>rfl) rfl jp qs (gv c) ?_)
  (exact cV (i+1) ω)
 obtain rfl:i=m.U.length:=ω
 rw[S9]
 refine σE ?_
 refine lp0 m.a0.length (λk=>[(1,bB (aP.enc .S m)),(2,bB [.z,.z]),(3,bB [.s .own (m.U.map (bP .own)),.s .own ((m.a0.take k).map (aF .own))]),(5,fN k)]) λk l=>?_
 by_cases e:k<m.a0.length
 ·have d:=ar e
  have a:(nth m.a0 k).length<=1048576:=b.2.2 _ (ax e)
  repeat'(first|refine gE ?_|refine Cg (λ_=>rfl) (λ_=>rfl) a qs ?_|refine Ci (aM λ_=>rfl) rfl jp qs (gv e) ?_)
  (exact cV (k+1) ω)
 refine σE ?_
 obtain rfl:k=m.a0.length:=ω
 rw[S9]
 rfl
def jI(m:aP)(b:aP.sml m):zzA 183 false [.val (some 2) (aP.enc .S m)] .agg (aP.enc .own m):=by
 have h:=b.1.1;have g:=b.2.1;refine fO 41 [(5,6,[16,17,18,19,20,21]),(10,5,[32,33,34,35,36])] Tryz.func183 rfl ?_ (.inr (Ct _))
 refine σP ?_
 refine lp0 m.U.length (λi=>[(1,bB (aP.enc .S m)),(2,bB [.z,.z]),(3,bB [.s .own ((m.U.take i).map (bP .own)),.z]),(10,bJ (zW .S m.U)),(11,fI m.U.length),(12,fN i)]) λi j=>?_
 by_cases c:i<m.U.length
 ·have d:=ar c
  have a:(nth m.U i).length<=1048576:=(b.1.2 _ (ax c)).1
  repeat'(first|refine gE ?_|refine Cg (λ_=>rfl) (λ_=>rfl) a qs ?_|refine Ci (aM λ_=>rfl) rfl jp qs (gv c) ?_)
  (exact cV (i+1) ω)
 obtain rfl:i=m.U.length:=ω
 rw[S9]
 refine σE ?_
 refine lp0 m.a0.length (λk=>[(2,bB [.z,.z]),(3,bB [.s .own (m.U.map (bP .own)),.s .own ((m.a0.take k).map (aF .own))]),(26,bJ (iR .S m.a0)),(27,fI m.a0.length),(28,fN k)]) λk l=>?_
 by_cases e:k<m.a0.length
 ·have d:=ar e
  have a:(nth m.a0 k).length<=1048576:=b.2.2 _ (ax e)
  repeat'(first|refine gE ?_|refine CG (eP (nth m.a0 k) a) ?_|refine Ci (aM λ_=>rfl) rfl jp qs (gv e) ?_)
  (exact cV (k+1) ω)
 refine σE ?_
 obtain rfl:k=m.a0.length:=ω
 rw[S9]
 rfl
def wi(q:bv)(b:bv.sml q):zzA 206 false [.val (some 2) (bv.enc .S q)] .agg (bv.enc .own q):=by
 have a:q.y.length<=1048576:=b.1;refine fO 10 [(1,6,[3,4,5,6,7,8])] Tryz.func206 rfl ?_ (.inr (bv.enc_fr _))
 repeat'(first|refine gP ?_|refine Cg (λ_=>rfl) (λ_=>rfl) a qs ?_|refine CZ (λ_=>rfl) (λ_=>rfl) a qs ?_)
 rfl
def pD(q:bv)(b:bv.sml q):zzA 184 false [.val (some 2) (bv.enc .S q)] .agg (bv.enc .own q):=by
 have a:q.y.length<=1048576:=b.1;refine fO 10 [(1,6,[3,4,5,6,7,8])] Tryz.func184 rfl ?_ (.inr (bv.enc_fr _))
 repeat'(first|refine gP ?_|refine Cg (λ_=>rfl) (λ_=>rfl) a qs ?_|refine CZ (λ_=>rfl) (λ_=>rfl) a qs ?_)
 rfl
def v6(j:cY)(a:cY.sml j):zzA 207 false [.val (some 5) (cY.enc .S j)] .agg (cY.enc .own j):=by
 have b:j.X.T.length<=1048576:=a;refine fO 11 [] Tryz.func207 rfl ?_ (.inr (cY.enc_fr _))
 repeat'(first|refine gP ?_|refine CZ (λ_=>rfl) (λ_=>rfl) b qs ?_)
 rfl
def mE(xs:List aG)(a:iy xs):zzA 181 false [.val none (bw .S xs)] .one (bw .own xs):=by
 have b:=a.1;refine fO 6 [] Tryz.func181 rfl ?_ (.inr (ko _))
 repeat'(first|refine gP ?_|refine CZ (λ_=>rfl) (λ_=>rfl) b qs ?_)
 rfl
def Za(h:ac)(a:C):List C:=[.s .own (h.G.F.V.T.map (aF .own)),.s .own (h.G.F.V.a6.map (rB .own)),.s .own (h.G.F.O.M.map (bo.enc .own)),I h.G.Calls,.s .own (h.G.a3.map (rI .own)),.s .own (h.o.map (aG.enc .own)),.s .own (h.K.map (aB.enc .own)),.s .own (h.H.map (aC.enc .own)),.s .own (h.J.map (bg.enc .own)),a,.s .S (h.w.U.map (bP .S)),.s .S (h.w.a0.map (aF .S)),I h.a7.b7,.s .S (h.a7.y.map (aV.enc .S)),I h.c0,I h.b1,I h.c1,I h.b,B h.q,I h.a.X.a4,I h.a.X.a5,.s .S (h.a.X.T.map (rI .S)),I h.a.b0,I h.a.b]
def w7:List C:=[.z,.z,.z,I 0,.z,.z,.z,.z,.z,.z,.z,.z,I 0,.z,I 0,I 0,I 0,I 0,B false,I 0,I 0,.z,I 0,I 0]
def HN(h:ac)(c:ac.sml h):zzA 72 false [.val (some 24) (ac.enc .S h)] .agg (ac.enc .own h):=by
 obtain⟨d,e,g,j,k,b,l,n,o⟩:=c;have p:=e.1;have q:=g.1;have r:=j.1;have t:=k.1;have w:=b.1;refine fO 61 [] Tryz.func72 rfl ?_ (.inr (ac.enc_fr _))
 repeat'(first|refine gP ?_|refine CG (He h.G d) ?_|refine CZ (λ_=>rfl) (λ_=>rfl) p qs ?_|refine CZ (λ_=>rfl) (λ_=>rfl) q qs ?_|refine CZ (λ_=>rfl) (λ_=>rfl) r qs ?_|refine CZ (λ_=>rfl) (λ_=>rfl) t qs ?_)
 refine lp0 h.R.length (λi=>[(1,bB (Za h (.s .S (h.R.map (aE.enc .S))))),(2,.Z .box w7),(3,bJ ([.s .own ((h.R.take i).map (aE.enc .own))])),(4,fN i)]) λi y=>?_
 by_cases a:i<h.R.length
 ·have u:=ar a
  repeat'(first|refine gE ?_|refine CG (ll (nth h.R i) (b.2 _ (ax a))) ?_|refine Ci (aM λ_=>rfl) rfl jp qs (gv a) ?_)
  (exact cV (i+1) ω)
 obtain rfl:i=h.R.length:=ω
 rw[S9]
 repeat'(first|refine gE ?_|refine CG (iq h.w l) ?_|refine CG (wi h.a7 n) ?_|refine CG (v6 h.a o) ?_)
 rfl
def jC(h:ac)(c:ac.sml h):zzA 62 false [.val (some 24) (ac.enc .S h)] .agg (ac.enc .own h):=by
 obtain⟨d,e,g,j,k,b,l,n,o⟩:=c;have p:=g.1;have q:=j.1;have r:=k.1;have u:=b.1;refine fO 59 [(11,5,[38,39,40,41,42])] Tryz.func62 rfl ?_ (.inr (ac.enc_fr _))
 repeat'(first|refine gP ?_|refine CG (i6 h.G d) ?_|refine CG (mE h.o e) ?_|refine CZ (λ_=>rfl) (λ_=>rfl) p qs ?_|refine CZ (λ_=>rfl) (λ_=>rfl) q qs ?_|refine CZ (λ_=>rfl) (λ_=>rfl) r qs ?_)
 refine lp0 h.R.length (λi=>[(1,bB (ac.enc .S h)),(2,.Z .box w7),(3,bB (Za h (.s .own ((h.R.take i).map (aE.enc .own))))),(32,bJ (kQ .S h.R)),(33,fI h.R.length),(34,fN i)]) λi w=>?_
 by_cases a:i<h.R.length
 ·have t:=ar a
  repeat'(first|refine gE ?_|refine CG (iZ (nth h.R i) (b.2 _ (ax a))) ?_|refine Ci (aM λ_=>rfl) rfl jp qs (gv a) ?_)
  (exact cV (i+1) ω)
 obtain rfl:i=h.R.length:=ω
 rw[S9]
 repeat'(first|refine gE ?_|refine CG (jI h.w l) ?_|refine CG (pD h.a7 n) ?_|refine CG (wh h.a o) ?_)
 rfl
theorem Ap.sm{a:List (List C)}(h1:∀r∈rows,r.length=sz)(h2:r.length=sz)(e:rows.length+1<=1073741824)(b:by_<=1000)(c:a=rows++[r])(d:K a):Ap false rows [r] sz by_ K:=
 Ca h1 ψ ψ jp (I9 (Nat.mul_le_mul ω b) qs) c d
def Cf:type_of% @Ap.sm:=@Ap.sm
theorem Ap.s2{c:List (List C)}{a b:List C}(h1:∀r∈rows,r.length=sz)(h2:a.length=sz)(g:b.length=sz)(h:rows.length+2<=1073741824)(d:by_<=1000)(e:c=rows++[a,b])(f:K c):Ap false rows [a,b] sz by_ K:=
 Ca h1 ψ ψ jp (I9 (Nat.mul_le_mul ω d) qs) e f
def xN(y:aG)(a:List aG)(r:aG)(out:List aG)(done:Bool):lz (y::a) r out done=if ovl y r then none
  else if y.At+y.a8=r.At then lz a ⟨y.At,y.a8+r.a8⟩ out done
  else if r.At+r.a8=y.At then lz a ⟨r.At,r.a8+y.a8⟩ out done
  else if y.At > r.At/\done=false then lz a r (out++[r,y]) true
  else lz a r (out++[y]) done:=by rw[lz]
variable{xs:List aG}{pages:Int}
theorem vG(h:bN pages xs=true):lT xs/\∀y∈xs,0<=y.At/\1<=y.a8/\y.At+y.a8<=pages:=by
 unfold bN at h;simp only[I0,C0]at h;have d:∀i,i<xs.length->1<=(nth xs i).a8/\0<=(nth xs i).At/\(nth xs i).At<=pages - (nth xs i).a8:=λi a=>by grind [fS,iJ,rangeIn]
 have e:∀i,i+1<xs.length->(nth xs i).At+(nth xs i).a8<(nth xs (i+1)).At:=λi a=>by grind [fS,iJ]
 have f:∀j i,i<j->j<xs.length->(nth xs i).At+(nth xs i).a8<(nth xs j).At:=λj=>by
  induction j with
  | zero=>intro i a;omega
  | succ j k=>
   grind
 refine⟨⟨?_,λy g=>?_⟩,λy g=>?_⟩
 ·rw[List.pairwise_iff_getElem]
  intro i j a c b;have:=f j i b c
  rwa [br (z4 a),br (z4 c)]at this
 all_goals grind [aW]
theorem gZ[Inhabited α]{xs:List α}(a:i<xs.length):xs.drop i=nth xs i::xs.drop (i+1):=by
 rw[List.drop_eq_getElem_cons a,br (z4 a)]
def cQ(pages:Int)(xs:List aG)(r:aG):Option (List aG):=if bN pages xs=true/\rangeIn pages r=true then lz xs r [] false else none
def HF(xs:List aG)(o:Option (List aG)):List C:=bw .own (o.getD xs)++[B o.isSome]
def nC(xs:List aG)(o:Option (List aG)):iN (HF xs o):=aD (ko _) ⟨tV1,tV1⟩
theorem E1(pages:Int)(xs:List aG)(r:aG)(w:0<=pages/\pages<=1048576)(l:iy xs):zzA 254 false [.vI pages,.val none (bw .S xs),.val (some 2) (aG.enc .S r)] (.tup [none,none]) (HF xs (cQ pages xs r)):=by
 have J:=l.1;have j:=pH pages xs w l;have n:=DL pages r w;have o:=mE xs l;cases k:bN pages xs<;>rw[k]at j
 ·rw[show cQ pages xs r=none by unfold cQ;rw[CJ (by rw[k];simp)]]
  refine fO 111 [] Tryz.func254 rfl ?_ (.inr (nC _ _))
  refine σP ?_
  rfl
 cases p:rangeIn pages r<;>rw[p]at n
 ·rw[show cQ pages xs r=none by unfold cQ;rw[CJ (by rw[p];simp)]]
  refine fO 111 [] Tryz.func254 rfl ?_ (.inr (nC _ _))
  refine σP ?_
  rfl
 rw[show cQ pages xs r=lz xs r [] false by unfold cQ;rw[CL ⟨k,p⟩]];obtain⟨K,E⟩:=vG k;have F:0<=r.At/\1<=r.a8/\r.At+r.a8<=pages:=by grind [rangeIn]
 refine fO 111 [] Tryz.func254 rfl ?_ (.inr (nC _ _))
 refine σP ?_
 refine mD (ι:=Nat × aG × List aG × Bool) (λq=>[(1,bJ (bw .S xs)),(5,bB (aG.enc .S q.2.1)),(8,bJ (bw .own q.2.2.1)),(9,fB (q.2.2.2)),(25,bJ (bw .S xs)),(26,fI xs.length),(27,fN (q.1))]) (λq=>q.1<=xs.length/\lz (xs.drop q.1) q.2.1 q.2.2.1 q.2.2.2=lz xs r [] false/\(0<=q.2.1.At/\1<=q.2.1.a8/\q.2.1.At+q.2.1.a8<=pages)/\q.2.2.1.length<=2*q.1) (λq=>xs.length - q.1) ((0,r,[],false)) (⟨I1 _,rfl,F,I1 _⟩) λq c=>?_
 obtain⟨i,d,out,done⟩:=q;obtain⟨G,b,e,t⟩:=c;simp only at G b e t |-;by_cases u:i<xs.length
 ·have g:=ar u
  have L:=E _ (ax u);rw[gZ u]at b;by_cases h:ovl (nth xs i) d=true
  ·rw[<-b]
   rw[xN,CL h];unfold ovl at h;rw[C0]at h
   repeat'(first|refine gE ?_|refine gS (λc=>?_) (λc=>?_)|fail)
   rfl
  have a:=b;rw[xN,CJ h]at a;unfold ovl at h;rw[C0]at h;by_cases y:(nth xs i).At+(nth xs i).a8=d.At
  ·rw[CL y]at a
   repeat'(first|refine gB ?_|refine gS (λc=>?_) (λc=>?_)|fail)
   (exact cV (i+1,⟨(nth xs i).At,(nth xs i).a8+d.a8⟩,out,done) ⟨(by simp only;omega),a,(by simp only;omega),(by simp only;omega)⟩)
  rw[CJ y]at a;by_cases D:d.At+d.a8=(nth xs i).At
  ·rw[CL D]at a
   repeat'(first|refine gB ?_|refine gS (λc=>?_) (λc=>?_)|fail)
   (exact cV (i+1,⟨d.At,d.a8+(nth xs i).a8⟩,out,done) ⟨(by simp only;omega),a,(by simp only;omega),(by simp only;omega)⟩)
  rw[CJ D]at a;by_cases H:(nth xs i).At > d.At
  ·cases done with
   | false=>
    rw[CL ⟨H,rfl⟩]at a
    repeat'(first|refine gB ?_|refine gS (λc=>?_) (λc=>?_)|refine Ap.s2 (aM λ_=>rfl) rfl rfl jp qs rfl ?_)
    ((conv=>whnf)
     refine CR (i+1,d,out++[d,nth xs i],true) ⟨(by simp only;omega),a,e,jp⟩ (by simp only;omega) ?_
     (exact wR))
   | true=>
    rw[CJ (by simp)]at a
    repeat'(first|refine gB ?_|refine gS (λc=>?_) (λc=>?_)|refine Cf (aM λ_=>rfl) rfl jp qs rfl ?_)
    ((conv=>whnf)
     refine CR (i+1,d,out++[nth xs i],true) ⟨(by simp only;omega),a,e,jp⟩ (by simp only;omega) ?_
     (exact wR))
  rw[CJ ω]at a
  repeat'(first|refine gB ?_|refine gS (λc=>?_) (λc=>?_)|refine Cf (aM λ_=>rfl) rfl jp qs rfl ?_)
  ((conv=>whnf)
   refine CR (i+1,d,out++[nth xs i],done) ⟨(by simp only;omega),a,e,jp⟩ (by simp only;omega) ?_
   (exact wR))
 obtain rfl:i=xs.length:=ω
 rw[List.drop_length]at b;cases done with
 | false=>
  rw[<-b]
  repeat'(first|refine gE ?_|refine Cf (aM λ_=>rfl) rfl jp qs rfl ?_)
  show [C.s fE.own _,B true]=[C.s fE.own _,B true]
  grind [lz,aG.enc]
 | true=>
  rw[<-b]
  refine σE ?_
  rfl
theorem zA[Inhabited α](R:Int->Int->Prop)(n:∀a b c,R a b->R b c->R a c)(f:α->Int)(xs:List α):(∀i,i<xs.length->i=0\/R (f (nth xs (i - 1))) (f (nth xs i)))↔xs.Pairwise (λa b=>R (f a) (f b)):=by
 constructor
 ·intro h
  have l:∀j i,i<j->j<xs.length->R (f (nth xs i)) (f (nth xs j)):=λj=>by
   induction j with
   | zero=>intro i d;omega
   | succ j o=>
    grind
  rw[List.pairwise_iff_getElem];intro i j d k g;have:=l j i g k
  rwa [br (z4 d),br (z4 k)]at this
 intro h i d;by_cases e:i=0
 ·exact .inl e
 right
 have:=List.pairwise_iff_getElem.1 h (i - 1) i ω d ω
 rwa [<-br (z4 (show i - 1<xs.length by omega)),<-br (z4 d)]at this
theorem FT[Inhabited α](f:α->Int)(xs:List α):(∀i,i<xs.length->∀o∈xs.take i,f o≠f (nth xs i))↔(xs.map f).Nodup:=by
 unfold List.Nodup;rw[List.pairwise_map,List.pairwise_iff_getElem];constructor
 ·intro h i j b a c
  have:=h j a xs[i] (List.mem_take_iff_getElem.2 ψ)
  rwa [br (z4 a)]at this
 intro h i b o d;obtain⟨j,a,rfl⟩:=List.mem_take_iff_getElem.1 d;rw[br (z4 b)]
 grind
def fA(s:aB)(a:Int):Prop:=16*s.Q<=a/\a<=16*s.Q+15/\(a - 16*s.Q) % csz s.d=0/\bc s.a9 ((a - 16*s.Q) / csz s.d)=true
def k7(sp:List aB)(a c:Int):Prop:=∃s∈sp,fA s a/\(c<0\/s.d=c)
def Z3(la:List aC)(a z:Int):Prop:=∃l∈la,a=16*l.Q/\l.k=z
def Te(sp:List aB)(la:List aC)(o:bg):Prop:=(∃s∈sp,fA s o.Addr/\s.d=aN o.k)\/Z3 la o.Addr o.k
def Live(sp:List aB)(la:List aC)(a:Int):Prop:=k7 sp a (-1)\/∃l∈la,a=16*l.Q
theorem pQ(f:nu sp la)(a:Int):(∃i,i<sp.length/\(16*(nth sp i).Q<=a/\a<=16*(nth sp i).Q+15)/\denotes sp la a=qv i (nth sp i) a)\/((∀s∈sp,¬(16*s.Q<=a/\a<=16*s.Q+15))/\((∃i,i<la.length/\b9 (nth la i) a=true/\denotes sp la a = ⟨3,i,0,a - 16*(nth la i).Q⟩)\/((∀l∈la,b9 l a=false)/\denotes sp la a = ⟨0,0,0,0⟩))):=by
 cases d:sp.findIdx? (dP · a) with
 | some i=>
  obtain⟨b,c,-⟩:=SE.1 d;rw[<-br (z4 b)]at c
  grind [iw,nu.sok,ax,denotes]
 | none=>
  have g:=List.findIdx?_eq_none_iff.1 d;refine .inr ⟨λs h j=>?_,?_⟩
  ·grind [iw,nu.sok]
  cases e:la.findIdx? (b9 · a) with
  | some i=>
   obtain⟨b,c,-⟩:=SE.1 e;rw[<-br (z4 b)]at c
   grind [denotes]
  | none=>grind [denotes]
theorem U4(l:nu h.K h.H) : ed h a c=true↔k7 h.K a c:=by
 unfold ed;simp only[I0,CD,C0];constructor
 ·rintro⟨⟨b,f⟩,d⟩
  rcases pQ l a with⟨i,j,k,g⟩|⟨-,⟨i,j,-,g⟩|⟨-,g⟩⟩
  ·rw[g]at b f d
   simp only[qv]at b f d;refine⟨_,ax j,⟨k.1,k.2,f,?_⟩,by simpa using d⟩;cases e:bc (nth h.K i).a9 ((a - 16*(nth h.K i).Q) / csz (nth h.K i).d) with
   | true=>rfl
   | false=>rw[e]at b;simp at b
  all_goals grind
 rintro⟨s,n,⟨o,p,q,r⟩,d⟩
 grind [aW,jA,qv]
theorem BZ(a:nu sp la)(c:l∈la):(∀s∈sp,¬(16*s.Q<=16*l.Q/\16*l.Q<=16*s.Q+15))/\b9 l (16*l.Q)=true/\∀i,i<la.length->b9 (nth la i) (16*l.Q)=true->nth la i=l:=by
 have k:=aR (a.lok _ c);have f:=ch (a.lok _ c);refine⟨λs g n=>?_,?_,λi d e=>?_⟩
 ·exact a.dis s g l c 0 ω ω
 ·grind [nu.lok,b9]
 obtain⟨j,h,rfl⟩:=aW c;have o:=aR (a.lok _ (ax d));have b:=a.lok _ (ax d);unfold bI at b;rw[C0]at b;unfold b9 at e;rw[I0,C0]at e;rw[a.one i j d h ((nth la j).Q - (nth la i).Q).toNat 0 ω ω ω]
theorem Vx(f:nu h.K h.H) : kK h o=true↔Te h.K h.H o:=by
 unfold kK;simp only[I0,CD,C0];constructor
 ·rintro⟨b,a⟩
  rcases pQ f o.Addr with⟨i,d,g,c⟩|⟨-,⟨i,d,-,c⟩|⟨-,c⟩⟩
  ·rw[c]at a b
   simp only[qv]at a b;have e:bc (nth h.K i).a9 ((o.Addr - 16*(nth h.K i).Q) / csz (nth h.K i).d)=true:=ψ
   rw[e]at a;exact .inl ⟨_,ax d,⟨g.1,g.2,b,e⟩,by simpa using a⟩
  ·rw[c]at a b
   simp only at a b;exact .inr ⟨_,ax d,ω,by simpa using a⟩
  grind
 rintro(⟨s,e,⟨k,n,p,q⟩,r⟩|⟨l,j,t,u⟩)
 ·grind [aW,jA,qv]
 obtain⟨w,y,A⟩:=BZ f j
 grind [pQ,ax]
theorem LJ(j:nu sp la)(a:Int):a∈kF sp la↔Live sp la a:=by
 constructor
 ·intro h
  unfold kF oR at h;obtain⟨n,o,rfl⟩:=O8.1 h;have c:=(S8.1 o).2;unfold mR at c;simp only[I0,CD,C0]at c;obtain⟨b,d⟩:=c;rcases pQ j (n:Int) with⟨i,g,k,f⟩|⟨-,⟨i,g,-,f⟩|⟨-,f⟩⟩
  ·rw[f]at d b
   simp only[qv]at d b;refine .inl ⟨_,ax g,⟨k.1,k.2,b,?_⟩,.inl ω⟩;cases e:bc (nth sp i).a9 (((n:Int) - 16*(nth sp i).Q) / csz (nth sp i).d) with
   | true=>rfl
   | false=>rw[e]at d;simp at d
  ·rw[f]at b
   simp only at b;exact .inr ⟨_,ax g,ω⟩
  grind
 rintro(⟨s,q,⟨r,c,t,u⟩,-⟩|⟨l,p,rfl⟩)
 ·grind [aW,jA,zG,qv]
 obtain⟨w,y,A⟩:=BZ j p
 grind [pQ,ax,zG]
def RH(xs:List aG)(p:Int):Prop:=∃r∈xs,r.At<=p/\p<r.At+r.a8
theorem ix : bN pages xs=true↔lT xs/\(∀y∈xs,0<=y.At/\1<=y.a8/\y.At+y.a8<=pages)/\1<=pages/\pages<=32:=by
 constructor
 ·grind [vG,bN]
 rintro⟨b,c,d⟩
 unfold bN;simp only[I0,C0];refine⟨cK.2 λi a=>?_,d⟩;have f:=c _ (ax a);unfold iJ rangeIn;simp only[I0,C0];refine⟨ω,?_⟩;by_cases e:i=0
 ·exact .inl e
 right
 have:=List.pairwise_iff_getElem.1 b.1 (i - 1) i ω a ω
 rwa [<-br (z4 (show i - 1<xs.length by omega)),<-br (z4 a)]at this
theorem Kj(h:bN pages xs=true)(p:Int):xs.any (zj p)=true↔RH xs p:=by
 obtain⟨-,c,d⟩:=ix.1 h;rw[I7];refine⟨λ⟨r,a,b⟩=>⟨r,a,?_⟩,λ⟨r,a,b⟩=>⟨r,a,?_⟩⟩
 all_goals grind [gf,zj]
theorem zJ(i:Int):∀(f:List aG)(r:aG)(out:List aG),lT f->1<=r.a8->(∀y∈f,ovl y r=false)->(∀z∈out,z.At+z.a8<r.At/\∀y∈f,z.At+z.a8<y.At)->lT out->(∀y∈r::(out++f),0<=y.At/\y.At+y.a8<=i)->∃o,lz f r out false=some o/\lT o/\(∀y∈o,0<=y.At/\y.At+y.a8<=i)/\∀p,RH o p↔RH out p\/RH f p\/(r.At<=p/\p<r.At+r.a8)
 | [],r,out,_,l,_,D,g,j=>by
  refine⟨out++[r],by simp[lz],⟨List.pairwise_append.2 ⟨g.1,List.pairwise_singleton ..,ψ⟩,λy k=>?_⟩,ψ,λp=>by grind [RH]⟩;rcases z5.1 k with k|k
  ·exact g.2 y k
  grind
 | y::f,r,out,c,l,E,D,g,j=>by
  have M:=c.2 y ψ;have h:=E y ψ;have F:=c.head;have G:=j y (by simp);have H:=j r (by simp);have J:∀w∈f,¬(w.At<r.At+r.a8/\r.At<w.At+w.a8):=λw d=>by grind [ovl]
  have K:∀w∈f,1<=w.a8:=λw d=>c.2 w ψ
  rw[xN,CJ (by rw[h];simp)];unfold ovl at h;rw[z9]at h;by_cases n:y.At+y.a8=r.At
  ·rw[CL n]
   obtain⟨o,q,t,u,A⟩:=zJ i f ⟨y.At,y.a8+r.a8⟩ out c.tail (by simp only;omega) (λw d=>by grind [ovl]) ψ g ψ
   grind [RH]
  rw[CJ n];by_cases B:r.At+r.a8=y.At
  ·rw[CL B]
   obtain⟨o,q,t,u,A⟩:=zJ i f ⟨r.At,r.a8+y.a8⟩ out c.tail (by simp only;omega) (λw d=>by grind [ovl]) ψ g ψ
   grind [RH]
  rw[CJ B];by_cases C:y.At > r.At
  ·have L:r.At+r.a8<y.At:=ω
   rw[CL ⟨C,rfl⟩,tg c.tail l ψ];refine⟨_,rfl,⟨?_,λw d=>?_⟩,ψ,λp=>by grind [RH]⟩
   ·rw[IB]
    refine List.pairwise_append.2 ⟨g.1,?_,λa N b j=>?_⟩
    ·show(r::y::f).Pairwise _
     refine List.pairwise_cons.2 ⟨λw d=>?_,c.1⟩
     grind
    grind
   simp only[z5,List.mem_cons,List.not_mem_nil,or_false]at d;rcases d with(d|rfl|rfl)|d
   ·exact g.2 w d
   all_goals grind
  rw[CJ λe=>C e.1];obtain⟨o,q,t,u,A⟩:=zJ i f r (out++[y]) c.tail l ψ ψ ⟨List.pairwise_append.2 ⟨g.1,List.pairwise_singleton ..,ψ⟩,λw d=>by
      rcases z5.1 d with d|d
      · exact g.2 w d
      grind⟩ ψ
  grind [RH]
theorem yJ{r:aG}(h:bN pages xs=true)(i:0<=r.At/\1<=r.a8/\r.At+r.a8<=pages)(c:∀p,r.At<=p->p<r.At+r.a8->¬RH xs p):∃o,cQ pages xs r=some o/\bN pages o=true/\∀p,RH o p↔RH xs p\/(r.At<=p/\p<r.At+r.a8):=by
 obtain⟨j,k,l⟩:=ix.1 h;have b:rangeIn pages r=true:=by grind [rangeIn]
 unfold cQ;rw[CL ⟨h,b⟩];obtain⟨o,n,d,f,q⟩:=zJ pages xs r [] j i.2.1 (λy a=>by
   have:=k y a;unfold ovl;rw[z9];intro g;by_cases e:r.At<=y.At
   · exact c y.At e g.1 ⟨y,a,ω,ω⟩
   exact c r.At ω ω ⟨y,a,ω,g.2⟩) ψ ⟨List.Pairwise.nil,ψ⟩ ψ
 refine⟨o,n,ix.2 ⟨d,λy a=>⟨(f y a).1,d.2 y a,(f y a).2⟩,l⟩,λp=>?_⟩
 grind [RH]
structure Pg(t:aO)(fr:List aG)(sp:List aB)(la:List aC):Prop where
 one:∀l∈la,∀p:Nat,(p:Int)∈lpgs l l.a1.toNat->∀q:Nat,q<t.M.length->(nth t.M q).e≠0->(nth t.M q).j=(nth t.M p).j->q=p
 bnd:∀p∈pgs sp la,p<t.M.length
 own:∀p:Nat,p<t.M.length->((nth t.M p).e≠0↔(p:Int)∈pgs sp la)
 fre:∀p:Nat,p<t.M.length->((nth t.M p).e≠0↔¬RH fr p)
 mesh:∀s∈sp,∀u∈sp,s.Q≠u.Q->(nth t.M s.Q.toNat).j=(nth t.M u.Q.toNat).j->meshable s u=true
structure aY(h:ac)(E:List Int):Prop where
 ker:aI h.G=true
 rng:bN (eQ h) h.o=true
 lay:b8 h.K h.H=true
 srs:h.K.Pairwise λa b=>a.Q<b.Q
 srl:h.H.Pairwise λa b=>a.Q<b.Q
 pg:Pg (tbl h) h.o h.K h.H
 mail:bG h.w=true
 nc:h.R.length=h.w.U.length
 quar:gu h.a7=true
 snc:∀x∈h.a7.y,x.b5<=h.b1
 cach:∀c∈h.R,bx c=true
 nums:cI h=true
 osr:h.J.Pairwise λa b=>a.Addr<b.Addr
 onu:∀o∈h.J,1<=o.Id/\o.Id<=h.b - 1/\0<=o.a2/\o.a2<=h.R.length - 1
 oid:(h.J.map (·.Id)).Nodup
 oow:∀o∈h.J,Te h.K h.H o
 hca:∀c∈h.R,∀k:Nat,k<c.Y.length->∀a∈nth c.Y k,k7 h.K a k
 hqu:∀x∈h.a7.y,k7 h.K x.Addr x.d
 hfl:∀a∈aL h.w,k7 h.K a (-1)
 hin:∀a∈E,k7 h.K a (-1)
 nd:(E++holders h).Nodup
 mem:∀a,a∈E++holders h↔Live h.K h.H a
 job:h.q=true->lB h.a=true/\(∃s∈h.K,s.Q=h.a.X.a4)/\∃s∈h.K,s.Q=h.a.X.a5
 noj:h.q=false->w6 h.a=true
variable{E:List Int}
theorem aY.L(a:aY h E):nu h.K h.H:=nu.of a.lay
theorem DW(t:aO)(f:Int):(pagesOn t f).Nodup:=by grind [List.nodup_range,pagesOn,m0]
def Wb{l:List Int}(b:l.Nodup)(d:a∈l)(c:∀x∈l,x=a):l.length=1:=by
 match l with
 | []=>cases d
 | [_]=>rfl
 | x::y::r=>
  exfalso;have e:=c x (by simp);have f:=c y (by simp);rw[e,f]at b;simp at b
theorem fw(a:s∈sp):s.Q∈pgs sp la:=by grind [pgs]
theorem i7(a:l∈la)(b:p∈lpgs l l.a1.toNat):p∈pgs sp la:=by grind [pgs]
theorem YH(b:b8 h.K h.H=true)(N:bN (eQ h) h.o=true)(A:pages0 h=true)(r:rM h=true):Pg (tbl h) h.o h.K h.H:=by
 have B:=nu.of b;obtain⟨C,D,t⟩:=wJ A;have E:∀p:Nat,p<eQ h->((nth (tbl h).M p).e≠0↔¬RH h.o p):=λp a=>by grind [fS,Kj,pages0,zw]
 refine⟨λl w p c q F e f=>?_,D,t,E,λs G u H J O=>?_⟩
 ·obtain⟨i,y,rfl⟩:=aW w
  obtain⟨k,g,n⟩:=eM.1 c;have a:p<eQ h:=by grind [i7]
  have d:=(t p a).2 (i7 w c);have K:=C i y k g;rw[<-n,gg a d]at K;have P:(p:Int)∈pagesOn (tbl h) (nth (tbl h).M p).j:=fo.2 ⟨a,d,rfl⟩;have Q:(q:Int)∈pagesOn (tbl h) (nth (tbl h).M p).j:=fo.2 ⟨F,e,f⟩
  grind [List.length_eq_one_iff]
 obtain⟨i,y,rfl⟩:=aW G;obtain⟨j,R,rfl⟩:=aW H;have L:∀k,k<h.K.length->af (tbl h) (nth h.K k).Q=nth (tbl h).M (nth h.K k).Q.toNat:=λk g=>by
  have S:=aJ (B.sok _ (ax g))
  grind [fw,FI,nth]
 unfold rM at r;rw[cK]at r;rcases Nat.lt_trichotomy i j with o|M|o
 all_goals grind [fS,kx,oZ]
theorem Gu(sp:List aB):dq sp.length (BG sp)=true↔sp.Pairwise λa b=>a.Q<b.Q:=by
 rw[cK];refine Iff.trans ?_ (zA (λa b:Int=>a<b) ω (λs:aB=>s.Q) sp)
 grind [BG]
theorem FQ(la:List aC):dq la.length (D8 la)=true↔la.Pairwise λa b=>a.Q<b.Q:=by
 rw[cK];refine Iff.trans ?_ (zA (λa b:Int=>a<b) ω (λs:aC=>s.Q) la)
 grind [D8]
theorem YL(o:b8 h.K h.H=true)(B:bN (eQ h) h.o=true)(h1:h.K.Pairwise λa b=>a.Q<b.Q)(h2:h.H.Pairwise λa b=>a.Q<b.Q)(c:Pg (tbl h) h.o h.K h.H):pages0 h=true/\rM h=true:=by
 have u:=nu.of o;constructor
 ·unfold pages0
  simp only[I0];refine⟨⟨⟨(Gu _).2 h1,cK.2 λi l=>?_⟩,O7.2 λp n=>O0 (c.bnd p n)⟩,cK.2 λp n=>?_⟩
  ·unfold vq
   rw[I0];refine⟨fS ((FQ _).2 h2) l,cK.2 λk w=>?_⟩;have y:=ax l;have C:=aR (u.lok _ y);obtain⟨p,n⟩ : ∃p:Nat,(nth h.H i).Q+(k:Nat)=(p:Nat):=⟨((nth h.H i).Q+k).toNat,ω⟩
   have q:(p:Int)∈lpgs (nth h.H i) (nth h.H i).a1.toNat:=eM.2 ψ;have d:p<eQ h:=by have:=c.bnd _ (i7 (sp:=h.K) y q);exact Int.ofNat_lt.1 this
   have r:=(c.own p d).2 (i7 y q);unfold Ai;rw[C0,n,gg d r];refine Wb (DW ..) (fo.2 ⟨d,r,rfl⟩) λx D=>?_
   grind [yF,fo,Pg.one]
  unfold zw;rw[I0,C0];refine⟨c.own p n,?_⟩;have E:=c.fre p n
  grind [Kj]
 unfold rM;refine cK.2 λi l=>cK.2 λj F=>?_
 have g:j<h.K.length:=ω
 have t:∀k,k<h.K.length->af (tbl h) (nth h.K k).Q=nth (tbl h).M (nth h.K k).Q.toNat:=λk w=>by
  have G:=aJ (u.sok _ (ax w));have H:=c.bnd _ (fw (la:=h.H) (ax w))
  grind [FI,eQ,tbl]
 unfold oZ;rw[t i l,t j g,CD,C0];by_cases e:(nth (tbl h).M (nth h.K i).Q.toNat).j=(nth (tbl h).M (nth h.K j).Q.toNat).j
 ·refine .inr (c.mesh _ (ax l) _ (ax g) (λA=>?_) e)
  have:=du (f:=(·.Q)) u.nd l g A;omega
 exact .inl e
theorem Kx(c:cI h=true)(d:nu h.K h.H):gV h=true↔(h.J.Pairwise λa b=>a.Addr<b.Addr)/\(∀o∈h.J,1<=o.Id/\o.Id<=h.b - 1/\0<=o.a2/\o.a2<=h.R.length - 1)/\(h.J.map (·.Id)).Nodup/\∀o∈h.J,Te h.K h.H o:=by
 unfold cI at c;rw[C0]at c;refine Iff.trans ?_ (and_congr (zA (λa b:Int=>a<b) ω (λo:bg=>o.Addr) h.J) (and_congr Iff.rfl (and_congr (FT (λo:bg=>o.Id) h.J) Iff.rfl)));unfold gV;rw[gf ω ω,cK];have e:∀i,i<h.J.length->(objAt (h.b - 1) h i=true↔(i=0\/(nth h.J (i - 1)).Addr<(nth h.J i).Addr)/\(1<=(nth h.J i).Id/\(nth h.J i).Id<=h.b - 1/\0<=(nth h.J i).a2/\(nth h.J i).a2<=h.R.length - 1)/\(∀o∈h.J.take i,o.Id≠(nth h.J i).Id)/\Te h.K h.H (nth h.J i)):=λi f=>by grind [Vx,objAt,jl,cM]
 grind [aW,ax]
def Bk(b:nu h.K h.H):l8 h=true↔(∀c∈h.R,∀k:Nat,k<c.Y.length->∀a∈nth c.Y k,k7 h.K a k)/\(∀x∈h.a7.y,k7 h.K x.Addr x.d)/\∀a∈aL h.w,k7 h.K a (-1):=by
 rw[oD];simp only[O7,gw,cK,v8,jH,mc,U4 b,and_assoc]
theorem PP : 0<=gk h p↔∃s∈h.K,s.Q=p:=by grind [gk,bU,nG]
theorem aY.of(g:cw h=true):aY h []:=by
 unfold cw mM at g;simp only[I0]at g;obtain⟨⟨⟨⟨⟨⟨⟨⟨⟨⟨r,l⟩,e⟩,j⟩,n⟩,c⟩,t⟩,H⟩,o⟩,k,b⟩,d⟩:=g;have p:=nu.of e;rw[xB e j]at n;have f:=j;unfold pages0 at f;simp only[I0]at f;unfold eH at c;simp only[I0,C0]at c;unfold lC at b;simp only[I0,C0]at b;obtain⟨⟨u,w⟩,J⟩:=b;obtain⟨y,A,B,C⟩:=(Kx o p).1 k;obtain⟨D,E,F⟩:=(Bk p).1 u;unfold oY at t;have G:=cK.1 f.1.1.2;refine⟨r,l,e,(Gu _).1 f.1.1.1,(FQ _).1 (cK.2 λi K=>?_),YH e l j n,c.1.1,c.1.2,c.2,ψ,ψ,o,y,A,B,C,D,E,F,ψ,(by simpa using w),λa=>?_,λq=>?_,λq=>?_⟩
 ·grind [vq]
 ·grind [LJ,qy,qu]
 ·unfold wQ at d
  rw[CL q]at d
  grind [PP]
 grind [wQ]
theorem aY.to(b:aY h []):cw h=true:=by
 have c:=b.L;obtain⟨e,g⟩:=YL b.lay b.rng b.srs b.srl b.pg;have d:=(Kx b.nums c).2 ⟨b.osr,b.onu,b.oid,b.oow⟩;have f:=(Bk c).2 ⟨b.hca,b.hqu,b.hfl⟩;unfold cw mM;simp only[I0];refine⟨⟨⟨⟨⟨⟨⟨⟨⟨⟨b.ker,b.rng⟩,b.lay⟩,e⟩,by grind [xB,aY.lay]⟩,?_⟩,?_⟩,O7.2 b.cach⟩,b.nums⟩,d,?_⟩,?_⟩
 ·grind [aY.mail,aY.quar,aY.nc,eH]
 ·grind [aY.snc,oY]
 ·unfold lC
  have i:(holders h).Nodup:=by simpa using b.nd
  have j:∀a,a∈holders h↔a∈kF h.K h.H:=λa=>by rw[LJ c,<-b.mem a];simp
  grind [yi,List.Perm.length_eq]
 grind [aY.job,PP,aY.noj,wQ]
def dele(xs:List α)(i:Nat):List α:=xs.take i++xs.drop (i+1)
theorem gl(xs:List α)(i:Nat):(dele xs i).Sublist xs:=by
 unfold dele;rw[<-List.eraseIdx_eq_take_drop_succ];grind
theorem F9[Inhabited α]{xs:List α}(a:i<xs.length):xs.Perm (nth xs i::dele xs i):=by
 have:xs=xs.take i++nth xs i::xs.drop (i+1):=by grind [gZ,List.take_append_drop]
 conv=>lhs;rw[this]
 exact List.perm_middle
theorem kV{α:Type}[Inhabited α](f:α->List Int)(a:Int):∀(xs:List α)(i:Nat)(y:α),i<xs.length->((xs.set i y).flatMap f).count a+(f (nth xs i)).count a=(xs.flatMap f).count a+(f y).count a
 | [],i,_,h=>by cases h
 | x::xs,0,y,_=>by
  show((y::xs).flatMap f).count a+(f x).count a=((x::xs).flatMap f).count a+(f y).count a
  grind
 | x::xs,i+1,y,h=>by
  have:=kV f a xs i y (by simpa using h);show((x::xs.set i y).flatMap f).count a+(f (nth xs i)).count a=((x::xs).flatMap f).count a+(f y).count a
  grind
theorem nZ(a:List (List Int)):a.flatten=a.flatMap λx=>x:=by simp_all
theorem k7.any(h:k7 sp a c):k7 sp a (-1):=by
 obtain⟨s,b,d,-⟩:=h;exact⟨s,b,d,.inl qs⟩
def aY.cells(a:aY h E)(c:aI k=true)(b:k.F.O=h.G.F.O):aY {h with G:=k} E:=
 {a with
   ker:=c
   rng:=by show bN ((k.F.O.M.length:Nat):Int) h.o=true;rw[b];exact a.rng
   pg:=by show Pg k.F.O h.o h.K h.H;rw[b];exact a.pg}
theorem aY.dropO(b:aY h E)(e:i<h.J.length)(j:k7 h.K (nth h.J i).Addr (-1)):aY {h with J:=dele h.J i} ((nth h.J i).Addr::E):=by
 have f:(E++holders h).Perm (((nth h.J i).Addr::E)++holders {h with J:=dele h.J i}):=by
  have g:=(F9 e).map (·.Addr);refine List.perm_iff_count.2 λa=>?_
  have k:=g.count_eq a
  grind [holders,cU]
 have c:(dele h.J i).Sublist h.J:=gl ..;exact {b with
   osr:=b.osr.sublist c
   onu:=λo d=>b.onu o (c.subset d)
   oid:=b.oid.sublist (c.map _)
   oow:=λo d=>b.oow o (c.subset d)
   hin:=λa l=>by grind [aY.hin]
   nd:=f.nodup_iff.1 b.nd
   mem:=λa=>by grind [aY.mem]}
def od(c:aE)(k:Nat)(a:Int):aE:=⟨c.Y.set k (nth c.Y k++[a])⟩
theorem aY.put{t k:Nat}(e:aY h (a::E))(f:t<h.R.length)(g:k<(nth h.R t).Y.length)(p:k7 h.K a k)(q:bx (od (nth h.R t) k a)=true):aY {h with R:=h.R.set t (od (nth h.R t) k a)} E:=by
 have i:(a::E++holders h).Perm (E++holders {h with R:=h.R.set t (od (nth h.R t) k a)}):=by
  refine List.perm_iff_count.2 λb=>?_
  have r:=kV (λc:aE=>c.Y.flatten) b h.R t (od (nth h.R t) k a) f;have l:=kV (λx:List Int=>x) b (nth h.R t).Y k (nth (nth h.R t).Y k++[a]) g;rw[<-nZ,<-nZ]at l
  grind [od,holders,cU]
 exact {e with
   nc:=by grind [aY.nc]
   cach:=λc d=>by grind [aY.cach]
   onu:=by show ∀o∈h.J,1<=o.Id/\o.Id<=h.b - 1/\0<=o.a2/\o.a2<=(h.R.set t _).length - 1;rw[C3];exact e.onu
   hca:=λc d j u b n=>by
     rcases OD d with d|rfl
     all_goals grind [aY.hca,bW,ax,od]
   hin:=λb n=>e.hin b ψ
   nd:=i.nodup_iff.1 e.nd
   mem:=λb=>by grind [aY.mem]}
theorem aY.toQuar{x:aV}{q:bv}{out:List aV}(c:aY h (x.Addr::E))(f:gu q=true)(d:h.a7.y++[x]=out++q.y)(j:x.b5<=h.b1)(k:k7 h.K x.Addr x.d):aY {h with a7:=q} (out.map (·.Addr)++E):=by
 have e:∀y∈out++q.y,y.b5<=h.b1/\k7 h.K y.Addr y.d:=λy a=>by
  rw[<-d]at a;rcases z5.1 a with a|a
  ·exact⟨c.snc y a,c.hqu y a⟩
  grind
 have g:(x.Addr::E++holders h).Perm ((out.map (·.Addr)++E)++holders {h with a7:=q}):=by
  refine List.perm_iff_count.2 λb=>?_
  have i:=O1 (λl:List aV=>(l.map (·.Addr)).count b) d;simp only[OB,OC,IC,List.map_nil,List.count_singleton]at i
  grind [holders,cU]
 exact {c with
   quar:=f
   snc:=(ψ)
   hqu:=(ψ)
   hin:=λb n=>by grind [k7.any,aY.hin]
   nd:=g.nodup_iff.1 c.nd
   mem:=λb=>by grind [aY.mem]}
def Be(b i:Int):Int:=((BitVec.ofInt IntKind.i64.bits b &&& ~~~BitVec.ofInt IntKind.i64.bits (2 ^ i.toNat)).toNat:Nat)
def mK(s:aB)(i:Int):aB:={s with a9:=Be s.a9 i}
theorem gG(b i:Int):bc b i=true↔0<=b/\0<=i/\i<=15/\b.toNat.testBit i.toNat=true:=by grind [bc]
variable{b:Int}
theorem My{i:Int}(d:0<=b/\b<=65535)(a:0<=i/\i<=15)(j:Nat):(Be b i).toNat.testBit j=(b.toNat.testBit j&&decide (i.toNat≠j)):=by
 have e:(2:Int) ^ i.toNat<=32768/\0<=(2:Int) ^ i.toNat:=by
  obtain⟨n,rfl⟩:=v5 a.1;rw[t5];have:(2:Nat) ^ n<=2 ^ 15:=Nat.pow_le_pow_right qs ω
  grind
 unfold Be;rw[t5,BitVec.testBit_toNat,BitVec.getLsbD_and,BitVec.getLsbD_not,<-BitVec.testBit_toNat,<-BitVec.testBit_toNat,sR ω,sR ω];rw[show((2:Int) ^ i.toNat).toNat=2 ^ i.toNat by rw[show(2:Int) ^ i.toNat=((2 ^ i.toNat:Nat):Int) by norm_cast,t5],Nat.testBit_two_pow];by_cases c:j<64
 ·rw[show decide (j<IntKind.i64.bits)=true from O0 c,Bool.true_and]
  grind
 rw[Nat.testBit_lt_two_pow (x:=b.toNat) (i:=j) (C7 (show b.toNat<2 ^ 16 by omega) (Nat.pow_le_pow_right qs ω))]
 rfl
theorem GQ{i:Int}(a:0<=b/\b<=65535):0<=Be b i/\Be b i<=b:=by grind [sR,Nat.and_le_left,Be]
theorem KN{i:Int}(a:0<=b/\b<=65535)(c:0<=i/\i<=15)(j:Int):bc (Be b i) j=true↔bc b j=true/\j≠i:=by grind [gG,My,GQ]
theorem eS(h:bk s=true):0<=s.a9/\s.a9<=65535:=by
 unfold bk at h;simp only[C0]at h;have:=N7 s.d;omega
theorem PD(h:bk s=true)(i:Int):bk (mK s i)=true:=by
 have b:=eS h;have a:=GQ (i:=i) b;unfold bk at h;rw[C0]at h;obtain⟨c,d,e,f,j,g⟩:=h;exact O0 ⟨c,d,e,f,a.1,Int.le_trans a.2 g⟩
theorem Gp{u:aB}(e:bk s=true){i:Int}(f:0<=i/\i<=15)(h:meshable s u=true):meshable (mK s i) u=true:=by
 unfold meshable at h |-;simp only[I0,C0]at h |-;obtain⟨⟨a,b⟩,c,d,g⟩:=h;refine⟨⟨PD a i,b⟩,c,d,?_⟩;refine Nat.eq_of_testBit_eq λj=>?_
 grind [My,eS,mK]
def d9(s:aB)(a:Int):Int:=(a - 16*s.Q) / csz s.d
theorem sW(h:bk s=true)(b:16*s.Q<=a/\a<=16*s.Q+15):0<=d9 s a/\d9 s a<=15:=by
 have c:=aJ h
 grind [bT,d9]
theorem DE(h:bk s=true)(c:(a - 16*s.Q) % csz s.d=0)(d:(b - 16*s.Q) % csz s.d=0)(e:d9 s a=d9 s b):a=b:=by
 have f:=aJ h
 grind [bT,d9]
theorem Fu(h:bk s=true)(k:fA s a)(b:Int):fA (mK s (d9 s a)) b↔fA s b/\b≠a:=by
 obtain⟨l,n,o,p⟩:=k;have c:=sW h ⟨l,n⟩;unfold fA;simp only[mK];rw[KN (eS h) c];constructor
 ·rintro⟨g,i,d,j,f⟩
  exact⟨ψ,λe=>f (by rw[e];rfl)⟩
 rintro⟨⟨g,i,d,j⟩,f⟩
 exact⟨g,i,d,j,λe=>f (DE h d o e)⟩
theorem g9[Inhabited α]{xs:List α}{y z:α}(h:z∈xs.set i y):z=y\/∃j,j<xs.length/\j≠i/\nth xs j=z:=by
 obtain⟨j,a,rfl⟩:=List.mem_iff_getElem.1 h;rw[List.getElem_set];by_cases e:i=j
 ·subst e;simp
 rw[CJ e];rw[C3]at a;exact .inr ⟨j,a,λx=>e x.symm,br ψ⟩
theorem me[Inhabited α]{xs:List α}(y:α)(a:j<xs.length)(e:j≠i):nth xs j∈xs.set i y:=by
 have:nth (xs.set i y) j=nth xs j:=by grind [bW]
 grind [ax]
theorem lh{xs:List α}(y:α)(a:i<xs.length):y∈xs.set i y:=by grind [List.mem_iff_getElem]
def T3(k:Int)(a:i<sp.length):(sp.set i (mK (nth sp i) k)).map (·.Q)=sp.map (·.Q):=by
 rw[SC];refine List.ext_getElem (by simp) λj b c=>?_
 rw[List.getElem_set];split
 ·rename_i e;subst e
  rw[List.getElem_map];show(nth sp i).Q=_;rw[br (z4 a)]
 rfl
def k7.set(q:nu sp la)(k:i<sp.length)(l:fA (nth sp i) a)(b c:Int):k7 (sp.set i (mK (nth sp i) (d9 (nth sp i) a))) b c↔k7 sp b c/\b≠a:=by
 have g:=q.sok _ (ax k);constructor
 ·rintro⟨s,o,d,h⟩
  rcases g9 o with rfl|⟨j,n,r,rfl⟩
  ·have:=(Fu g l b).1 d
   exact⟨⟨_,ax k,this.1,h⟩,this.2⟩
  refine⟨⟨_,ax n,d,h⟩,λe=>?_⟩;subst e;have:=du (f:=(·.Q)) q.nd k n (by have t:=l.1;have u:=l.2.1;have w:=d.1;have y:=d.2.1;omega);omega
 rintro⟨⟨s,o,d,h⟩,p⟩
 obtain⟨j,n,rfl⟩:=aW o;by_cases e:j=i
 ·subst e
  exact⟨_,lh _ k,(Fu g l b).2 ⟨d,p⟩,h⟩
 exact⟨_,me _ n e,d,h⟩
theorem aY.give(d:aY h (a::E))(t:i<h.K.length)(w:fA (nth h.K i) a):aY {h with K:=h.K.set i (mK (nth h.K i) (d9 (nth h.K i) a))} E:=by
 have B:=d.L;have G:=B.sok _ (ax t);have O:=sW G ⟨w.1,w.2.1⟩;have f:=λb c=>k7.set B t w b c
 have H:=T3 (d9 (nth h.K i) a) t;generalize J:h.K.set i (mK (nth h.K i) (d9 (nth h.K i) a))=sp at f H;have p:pgs sp h.H=pgs h.K h.H:=by grind [pgs]
 have g:=d.nd;rw[List.cons_append]at g;obtain⟨P,g⟩:=List.nodup_cons.1 g;have y:∀b,b∈E++holders h->b≠a:=ψ
 have n:∀b,b∈holders h->b≠a:=ψ
 have Q:∀l∈h.H,16*l.Q≠a:=λl R e=>(BZ B R).1 _ (ax t) (by have a1:=w.1;have a2:=w.2.1;omega)
 have q:∀s∈sp,∃u∈h.K,u.Q=s.Q/\(s=u\/s=mK u (d9 (nth h.K i) a)):=λs r=>by
  rw[<-J]at r;rcases g9 r with rfl|⟨j,hj,S,rfl⟩
  ·exact⟨_,ax t,rfl,.inr rfl⟩
  grind [ax]
 have T:∀u∈h.K,∃s∈sp,s.Q=u.Q:=λu C=>by
  have:u.Q∈sp.map (·.Q):=ψ
  grind
 exact {d with
   lay:=by grind [aY.lay,PD,b8]
   srs:=by
     have A:(h.K.map (·.Q)).Pairwise (λa b=>a<b):=List.pairwise_map.2 d.srs
     grind
   pg:=⟨d.pg.one,by rw[p];exact d.pg.bnd,by rw[p];exact d.pg.own,d.pg.fre,λs r u C y U=>by
     obtain⟨V,K,W,X⟩:=q s r;obtain⟨Y,M,Z,hu2⟩:=q u C;have A:=d.pg.mesh V K Y M ω (by rw[W,Z];exact U)
     grind [Gp,nu.sok,kx]⟩
   oow:=λo ho=>by
     have N:o.Addr≠a:=n _ (by grind [holders]);rcases d.oow o ho with⟨s,r,A,h2⟩|A
     · obtain⟨u,C,g1,D⟩:=(f o.Addr (aN o.k)).2 ⟨⟨s,r,A,.inr h2⟩,N⟩
       refine .inl ⟨u,C,g1,?_⟩;rcases D with D|D
       · have:=aJ (B.sok _ r);omega
       exact D
     exact .inr A
   hca:=λc hc k hk b F=>(f b k).2 ⟨d.hca c hc k hk b F,n b (by
     unfold holders cU;grind [List.mem_flatten,ax])⟩
   hqu:=λx hx=>(f _ _).2 ⟨d.hqu x hx,n _ (by grind [holders])⟩
   hfl:=λb F=>(f _ _).2 ⟨d.hfl b F,n _ (by grind [holders])⟩
   hin:=λb F=>(f _ _).2 ⟨d.hin b ψ,y b ψ⟩
   nd:=g
   mem:=λb=>by
     show b∈E++holders h↔Live sp h.H b
     grind [aY.mem,Live]
   job:=λhm=>by grind [aY.job]}
def unmN(k:ah)(p:Int):Nat->ah
 | 0=>k
 | n+1=>dm (unmN k p n) (p+n)
def iI{k:ah}(h:aI k=true)(p:Int):∀n,aI (unmN k p n)=true
 | 0=>h
 | n+1=>D1 _ (iI h p n)
theorem fY(k:ah)(p:Int):∀n,(unmN k p n).F.O.M.length=k.F.O.M.length/\(unmN k p n).Calls=k.Calls/\(unmN k p n).a3=k.a3
 | 0=>⟨rfl,rfl,rfl⟩
 | n+1=>by
  obtain⟨a,b,c⟩:=fY k p n;obtain⟨d,e,f⟩:=nQ (unmN k p n) (p+n);exact⟨d.trans a,e.trans b,f.trans c⟩
theorem uD(h:aI k=true)(g:0<=p/\p<k.F.O.M.length)(q:Nat):nth (dm k p).F.O.M q=if(q:Int)=p then⟨0,0⟩ else nth k.F.O.M q:=by
 have c:af k.F.O p=nth k.F.O.M p.toNat:=by grind [af]
 unfold dm;split
 ·rename_i a
  split
  ·rename_i i
   rw[c]at a;have b:=(bu.1 (aH.1 h).2.2.1).1 p.toNat ω;unfold nK at b;rw[C0]at b;have d:=b.2.2.1 a;rw[show q=p.toNat by omega];generalize nth k.F.O.M p.toNat=e at a d;obtain⟨m,f⟩:=e
   grind
  rfl
 grind [qj,bW,nE]
theorem qa{k:ah}(h:aI k=true){p:Int}(a:0<=p):∀n:Nat,p+n<=k.F.O.M.length->∀q:Nat,nth (unmN k p n).F.O.M q=if p<=q/\(q:Int)<p+n then⟨0,0⟩ else nth k.F.O.M q
 | 0,_,q=>by rw[CJ ω];rfl
 | n+1,b,q=>by
  have c:=qa h a n ω q;have d:=uD (iI h p n) (p:=p+n) ⟨ω,by grind [fY]⟩ q;show nth (dm (unmN k p n) (p+n)).F.O.M q=_
  grind
theorem JZ(f:α->List β){xs b:List α}(h:xs.Sublist b):(xs.flatMap f).Sublist (b.flatMap f):=by
 induction h with
 | slnil=>grind
 | cons a _ c=>grind
 | cons_cons a _ c=>grind
theorem Dk(c:aY h E)(Y:1<=n)(w:sp.Sublist h.K)(D:la.Sublist h.H)(j:∀q:Int,p<=q->q<p+n->q∈pgs h.K h.H)(K:0<=p)(F:∀q,q∈pgs sp la↔q∈pgs h.K h.H/\¬(p<=q/\q<p+n)) :
  ∃o,cQ (eQ h) h.o ⟨p,n⟩ = some o/\aI (unmN h.G p n)=true/\bN ((unmN h.G p n).F.O.M.length:Nat) o=true/\b8 sp la=true/\Pg (unmN h.G p n).F.O o sp la:=by
 have t:=c.pg.bnd _ (j (p+n - 1) ω ω);have a:=(fY h.G p n).1;have y:p+n<=h.G.F.O.M.length:=by unfold tbl at t;omega
 have g:=qa c.ker K n y;obtain⟨o,Q,R,S⟩:=yJ (r:=⟨p,n⟩) c.rng ⟨K,by simp only;omega,y⟩ λq M N=>by
  simp only at M N;obtain⟨m,rfl⟩:=v5 (show 0<=q by omega);have A:m<(tbl h).M.length:=by unfold tbl;omega
  exact(c.pg.fre m A).1 ((c.pg.own m A).2 (j _ M N))
 refine⟨o,Q,iI c.ker p n,by rw[a];exact R,?_,?_⟩
 ·obtain⟨T,U,V⟩:=fJ c.lay
  unfold b8;simp only[I0,C0];exact⟨⟨O7.2 λs d=>O7.1 T s (w.subset d),O7.2 λl d=>O7.1 U l (D.subset d)⟩,V.sublist ((w.map _).append (JZ _ D))⟩
 have i:∀q:Nat,(q:Int)∈pgs sp la->nth (unmN h.G p n).F.O.M q=nth (tbl h).M q:=λq f=>by rw[g,CJ ((F q).1 f).2];rfl
 have b:∀q:Nat,(nth (unmN h.G p n).F.O.M q).e≠0↔(nth (tbl h).M q).e≠0/\¬(p<=q/\(q:Int)<p+n):=λq=>by
  rw[g];by_cases e:p<=q/\(q:Int)<p+n
  ·rw[CL e];exact⟨λx=>absurd rfl x,λx=>absurd e x.2⟩
  rw[CJ e];exact⟨λx=>⟨x,e⟩,λx=>x.1⟩
 refine⟨λl d q f r O G B=>?_,λq f=>?_,λq f=>?_,λq f=>?_,λs d u H J P=>?_⟩
 ·have C:=(b r).1 G
  rw[a]at O;rw[i q (i7 d f),g,CJ C.2]at B;exact c.pg.one l (D.subset d) q f r O C.1 B
 ·rw[a];exact c.pg.bnd q ((F q).1 f).1
 ·rw[a]at f
  rw[b,F,c.pg.own q f]
 ·rw[a]at f
  rw[b,S,c.pg.fre q f];simp only
  grind
 have k:∀s∈sp,0<=s.Q:=λs d=>(aJ (c.L.sok s (w.subset d))).1
 have W:=i s.Q.toNat (by rw[Int.toNat_of_nonneg (k s d)];exact fw d);have X:=i u.Q.toNat (by rw[Int.toNat_of_nonneg (k u H)];exact fw H);rw[W,X]at P;exact c.pg.mesh s (w.subset d) u (w.subset H) J P
theorem dZ[Inhabited α]{xs:List α}{k:Nat}{z:α} : z∈dele xs k↔∃j,j<xs.length/\j≠k/\nth xs j=z:=by
 unfold dele;rw[z5];constructor
 ·rintro(h|h)
  ·obtain⟨j,a,rfl⟩:=List.mem_take_iff_getElem.1 h
   exact⟨j,ω,ω,br ψ⟩
  obtain⟨j,a,rfl⟩:=List.mem_drop_iff_getElem.1 h;exact⟨k+1+j,ω,ω,br ψ⟩
 rintro⟨j,a,b,rfl⟩
 rw[br (z4 a)];by_cases e:j<k
 ·grind [List.mem_take_iff_getElem]
 refine .inr (List.mem_drop_iff_getElem.2 ⟨j - (k+1),ω,?_⟩)
 congr 1;omega
theorem tl{q:Int} : q∈pgs sp la↔(∃s∈sp,s.Q=q)\/∃l∈la,q∈lpgs l l.a1.toNat:=by grind [pgs]
theorem zH(h:s.a9=0)(a:Int):¬fA s a:=by
 rintro⟨-,-,-,b⟩
 rw[gG,h]at b;simp at b
theorem aY.giveSpan(d:aY h E)(C:i<h.K.length)(r:(nth h.K i).a9=0)(R:h.q=true->(nth h.K i).Q≠h.a.X.a4/\(nth h.K i).Q≠h.a.X.a5) :
  ∃o,cQ (eQ h) h.o ⟨(nth h.K i).Q,1⟩ = some o/\aY {h with G:=dm h.G (nth h.K i).Q,K:=dele h.K i,o:=o} E:=by
 have D:=d.L;have y:=aJ (D.sok _ (ax C));have w:∀q,q∈pgs (dele h.K i) h.H↔q∈pgs h.K h.H/\¬((nth h.K i).Q<=q/\q<(nth h.K i).Q+(1:Nat)):=λq=>by
  rw[tl,tl];constructor
  ·rintro(⟨s,u,rfl⟩|⟨l,S,T⟩)
   ·obtain⟨j,a,A,rfl⟩:=dZ.1 u
    refine⟨.inl ⟨_,ax a,rfl⟩,λe=>A (du (f:=(·.Q)) D.nd a C ω)⟩
   grind [eM,nu.dis,ax]
  grind [aW,dZ]
 obtain⟨o,J,F,G,K,H⟩:=Dk d (sp:=dele h.K i) (la:=h.H) (p:=(nth h.K i).Q) (n:=1) (C5 _) (gl ..) ψ (λq U V=>by grind [fw,nth]) y.1 w;have M:unmN h.G (nth h.K i).Q 1=dm h.G (nth h.K i).Q:=by show dm h.G ((nth h.K i).Q+((0:Nat):Int))=_;grind
 rw[M]at F G H;have g:∀b c,k7 (dele h.K i) b c↔k7 h.K b c:=λb c=>by
  constructor
  ·rintro⟨s,u,t⟩;exact⟨s,(gl ..).subset u,t⟩
  rintro⟨s,u,t,B⟩
  obtain⟨j,a,rfl⟩:=aW u;exact⟨_,dZ.2 ⟨j,a,λe=>zH r b ψ,rfl⟩,t,B⟩
 refine⟨o,J,{d with
   ker:=F
   rng:=G
   lay:=K
   srs:=d.srs.sublist (gl ..)
   pg:=H
   oow:=λN O=>?_
   hca:=λc y k P b r=>(g b k).2 (d.hca c y k P b r)
   hqu:=λx Q=>(g _ _).2 (d.hqu x Q)
   hfl:=λb r=>(g _ _).2 (d.hfl b r)
   hin:=λb r=>(g _ _).2 (d.hin b r)
   mem:=λb=>(d.mem b).trans ?_
   job:=λW=>?_}⟩
 ·rcases d.oow N O with⟨s,u,t,B⟩|t
  ·obtain⟨j,a,rfl⟩:=aW u
   exact .inl ⟨_,dZ.2 ⟨j,a,λe=>zH r _ (by rw[<-e];exact t),rfl⟩,t,B⟩
  exact .inr t
 all_goals grind [aY.job,aW,dZ,Live]
theorem aY.dropL{k:Nat}(d:aY h E)(N:i<h.J.length)(w:k<h.H.length)(F:(nth h.J i).Addr=16*(nth h.H k).Q) :
  ∃o,cQ (eQ h) h.o ⟨(nth h.H k).Q,(nth h.H k).a1⟩ = some o/\aY {h with G:=unmN h.G (nth h.H k).Q (nth h.H k).a1.toNat,H:=dele h.H k,o:=o,J:=dele h.J i} E:=by
 have y:=d.L;have O:=aR (y.lok _ (ax w));have A:∀q,q∈pgs h.K (dele h.H k)↔q∈pgs h.K h.H/\¬((nth h.H k).Q<=q/\q<(nth h.H k).Q+((nth h.H k).a1.toNat:Nat)):=λq=>by
  rw[tl,tl];constructor
  ·rintro(⟨s,C,rfl⟩|⟨l,f,H⟩)
   ·refine⟨.inl ⟨s,C,rfl⟩,λe=>y.dis s C _ (ax w) (s.Q - (nth h.H k).Q).toNat ω ω⟩
   obtain⟨j,c,g,rfl⟩:=dZ.1 f;refine⟨.inr ⟨_,ax c,H⟩,λe=>?_⟩;obtain⟨m,P,rfl⟩:=eM.1 H;exact g (y.one j k c w m ((nth h.H j).Q+(m:Int) - (nth h.H k).Q).toNat P ω ω)
  grind [aW,dZ,eM]
 obtain⟨o,J,Q,R,S,T⟩:=Dk d (sp:=h.K) (la:=dele h.H k) (p:=(nth h.H k).Q) (n:=(nth h.H k).a1.toNat) ω ψ (gl ..) (λq Z q2=>i7 (ax w) (eM.2 ⟨(q - (nth h.H k).Q).toNat,ω,ω⟩)) O.2.2.1 A;rw[Int.toNat_of_nonneg ω]at J;have U:(E++holders h).Perm ((nth h.J i).Addr::(E++holders {h with J:=dele h.J i})):=by
  have V:=(F9 N).map (·.Addr);refine List.perm_iff_count.2 λa=>?_
  have r:=V.count_eq a
  grind [holders,cU]
 have t:=U.nodup_iff.1 d.nd;obtain⟨W,t⟩:=List.nodup_cons.1 t;have u:∀b,(b=(nth h.J i).Addr\/b∈E++holders {h with J:=dele h.J i})↔Live h.K h.H b:=λb=>by grind [aY.mem]
 have B:∀b,b∈E++holders {h with J:=dele h.J i}->b≠(nth h.J i).Addr:=ψ
 refine⟨o,J,{d with
   ker:=Q
   rng:=R
   lay:=S
   srl:=d.srl.sublist (gl ..)
   pg:=T
   osr:=d.osr.sublist (gl ..)
   onu:=λD G=>d.onu D ((gl ..).subset G)
   oid:=d.oid.sublist ((gl ..).map _)
   oow:=λD G=>?_
   nd:=t
   mem:=λb=>?_}⟩
 ·rcases d.oow D ((gl ..).subset G) with r|⟨l,f,K,X⟩
  ·exact .inl r
  obtain⟨j,c,rfl⟩:=aW f;refine .inr ⟨_,dZ.2 ⟨j,c,λe=>?_,rfl⟩,K,X⟩;subst e;refine B D.Addr (z5.2 (.inr ?_)) (by rw[F];exact K);unfold holders;grind
 constructor
 ·intro M
  rcases(u b).1 (.inr M) with r|⟨l,f,rfl⟩
  ·exact .inl r
  obtain⟨j,c,rfl⟩:=aW f;exact .inr ⟨_,dZ.2 ⟨j,c,λe=>B _ M (by rw[F,e]),rfl⟩,rfl⟩
 rintro(r|⟨l,f,rfl⟩)
 ·refine((u b).2 (.inl r)).resolve_left λe=>?_
  obtain⟨s,C,⟨Y,g2,-⟩,-⟩:=r;exact(BZ y (ax w)).1 s C ω
 obtain⟨j,c,g,rfl⟩:=dZ.1 f;refine((u _).2 (.inr ⟨_,ax c,rfl⟩)).resolve_left λe=>g ?_
 have Y:=aR (y.lok _ (ax c));rw[F]at e;exact y.one j k c w 0 0 ω ω ω
def gq(h:ac)(p:Int):Bool:=h.q&&(decide (p=h.a.X.a4) || decide (p=h.a.X.a5))
def giveP(h:ac)(i:Nat):ac:={h with G:=dm h.G (nth h.K i).Q,K:=dele h.K i,o:=(cQ (eQ h) h.o ⟨(nth h.K i).Q,1⟩).getD h.o}
def clrS(h:ac)(i:Nat)(a:Int):ac:={h with K:=h.K.set i (mK (nth h.K i) (d9 (nth h.K i) a))}
def freeS(h:ac)(i:Nat)(a:Int):ac:=if(mK (nth h.K i) (d9 (nth h.K i) a)).a9=0/\gq h (nth h.K i).Q=false then giveP (clrS h i a) i else clrS h i a
def w9(h:ac)(a:Int):Nat:=(gk h (a / 16)).toNat
def freeA(h:ac)(a:Int):ac:=freeS h (w9 h a) a
def cput(c:aE)(k a:Int):Option aE:=if bx c=true/\0<=k/\k<=3/\bx (od c k.toNat a)=true then some (od c k.toNat a) else none
def recyc(t:Nat)(h:ac)(a:Int):ac:=match cput (nth h.R t) (nth h.K (w9 h a)).d a with
 | some c=>{h with R:=h.R.set t c}
 | none=>freeA h a
theorem aY.at(e:aY h E)(c:k7 h.K a (-1)):w9 h a<h.K.length/\fA (nth h.K (w9 h a)) a/\gk h (a / 16)=(w9 h a:Nat):=by
 obtain⟨s,d,b,-⟩:=c;obtain⟨i,f,rfl⟩:=aW d;have g:(nth h.K i).Q=a / 16:=by have j:=b.1;have k:=b.2.1;omega
 grind [nz,aY.L,w9]
theorem B5(e:gq h p=false)(a:h.q=true):p≠h.a.X.a4/\p≠h.a.X.a5:=by grind [gq]
def aY.freeS{h:ac}{E:List Int}{a:Int}{i:Nat}(f:aY h (a::E))(b:i<h.K.length)(g:fA (nth h.K i) a):aY (freeS h i a) E:=by
 have c:=f.give b g;unfold Ab.freeS;split
 ·rename_i e
  have d:nth (clrS h i a).K i=mK (nth h.K i) (d9 (nth h.K i) a):=by unfold clrS;simp only[bW,true_and];rw[CL b]
  obtain⟨o,j,k⟩:=aY.giveSpan (h:=clrS h i a) c (i:=i) (by unfold clrS;simp only[C3];exact b) (by rw[d];exact e.1) (λl=>by rw[d];exact B5 e.2 l);unfold giveP;rw[j];exact k
 exact c
theorem aY.freeA{h:ac}{E:List Int}{a:Int}(b:aY h (a::E)):aY (freeA h a) E:=by
 obtain⟨c,d,-⟩:=b.at (b.hin a ψ);exact b.freeS c d
theorem oN{c:aE}(h:bx c=true):c.Y.length=4:=by grind [bx]
theorem aY.recyc{h:ac}{E:List Int}{a:Int}{t:Nat}(b:aY h (a::E))(f:t<h.R.length):aY (recyc t h a) E:=by
 obtain⟨g,i,-⟩:=b.at (b.hin a ψ);unfold Ab.recyc;split
 ·rename_i c d
  unfold cput at d;split at d
  ·rename_i e
   cases d;obtain⟨j,l,n,k⟩:=e;exact b.put f (by rw[oN j];omega) ⟨_,ax g,i,.inr ω⟩ k
  cases d
 exact b.freeA
def Ar(h:ac)(i:Nat)(a:Int):(freeS h i a).R=h.R/\(freeS h i a).J=h.J/\(freeS h i a).G.Calls=h.G.Calls/\(freeS h i a).w=h.w/\(freeS h i a).a=h.a/\(freeS h i a).b1=h.b1/\(freeS h i a).a7=h.a7/\(freeS h i a).G.a3=h.G.a3:=by
 unfold freeS;split
 ·obtain⟨-,b,c⟩:=nQ (clrS h i a).G (nth (clrS h i a).K i).Q
  exact⟨rfl,rfl,b,rfl,rfl,rfl,rfl,c⟩
 exact⟨rfl,rfl,rfl,rfl,rfl,rfl,rfl,rfl⟩
theorem q7(t:Nat)(h:ac)(a:Int):(recyc t h a).R.length=h.R.length/\(recyc t h a).J=h.J/\(recyc t h a).G.Calls=h.G.Calls/\(recyc t h a).w=h.w/\(recyc t h a).a=h.a/\(recyc t h a).b1=h.b1/\(recyc t h a).a7=h.a7/\(recyc t h a).G.a3=h.G.a3:=by
 unfold recyc;split
 ·grind
 obtain⟨b,c⟩:=Ar h (w9 h a) a;exact⟨O1 _ b,c⟩
def recycs(t:Nat)(h:ac)(az:List Int):ac:=az.foldl (recyc t) h
theorem fH(t:Nat):∀(az:List Int)(h:ac),(recycs t h az).R.length=h.R.length/\(recycs t h az).J=h.J/\(recycs t h az).G.Calls=h.G.Calls/\(recycs t h az).w=h.w/\(recycs t h az).a=h.a/\(recycs t h az).b1=h.b1/\(recycs t h az).a7=h.a7/\(recycs t h az).G.a3=h.G.a3
 | [],h=>⟨rfl,rfl,rfl,rfl,rfl,rfl,rfl,rfl⟩
 | a::az,h=>by
  obtain⟨b,c,d,e,f,g,i,j⟩:=fH t az (recyc t h a);obtain⟨k,l,n,o,p,q,r,u⟩:=q7 t h a;exact⟨b.trans k,c.trans l,d.trans n,e.trans o,f.trans p,g.trans q,i.trans r,j.trans u⟩
theorem aY.recycs{t:Nat}{E:List Int} : ∀{az:List Int}{h:ac},aY h (az++E)->t<h.R.length->aY (recycs t h az) E
 | [],h,b,_=>b
 | a::az,h,b,c=>aY.recycs (az:=az) (h:=Ab.recyc t h a) (b.recyc c) (by grind [q7])
def qc(l:List aV):Int:=quarCells l l.length
def ky(room:Int):List aV->Nat
 | []=>0
 | x::xs=>if room<qc (x::xs) then ky room xs+1 else 0
def Rm(q:bv)(x:aV):bv:=⟨q.b7,(q.y++[x]).drop (ky q.b7 (q.y++[x]))⟩
def vN(q:bv)(x:aV):List aV:=(q.y++[x]).take (ky q.b7 (q.y++[x]))
def D2(room:Int):∀l,ky room l<=l.length
 | []=>C5 _
 | x::xs=>by unfold ky;split;(have:=D2 room xs;simp only[List.length_cons];omega);omega
theorem zM{room:Int}(a:0<=room):∀l:List aV,qc (l.drop (ky room l))<=room
 | []=>a
 | x::xs=>by
  unfold ky;split
  ·exact zM a xs
  grind
theorem yc{room:Int} : ∀{l:List aV}{k:Nat},k<ky room l->room<qc (l.drop k)
 | [],k,h=>by cases h
 | x::xs,0,h=>by grind [ky]
 | x::xs,k+1,h=>by
  unfold ky at h;split at h
  ·exact yc (l:=xs) ω
  omega
theorem jD{q:bv} : gu q=true↔(∀x∈q.y,0<=x.d/\x.d<=3/\0<=x.Addr/\0<=x.b5)/\(q.y.Pairwise λa b=>a.b5<=b.b5)/\(q.y.map (·.Addr)).Nodup/\0<=q.b7/\q.b7<=500/\qc q.y<=q.b7:=by
 refine Iff.trans ?_ (and_congr Iff.rfl (and_congr (zA (λa b:Int=>a<=b) ω (λs:aV=>s.b5) q.y) (and_congr (FT (λs:aV=>s.Addr) q.y) Iff.rfl)));unfold gu qc
 grind [cK,List.any_eq_false,aW,ax,lZ,eL]
theorem We{q:bv}{x:aV}(h:gu q=true)(e:0<=x.d/\x.d<=3/\0<=x.Addr/\0<=x.b5)(f:∀y∈q.y,y.b5<=x.b5)(g:∀y∈q.y,y.Addr≠x.Addr):gu (Rm q x)=true:=by
 obtain⟨i,j,k,c,d,l⟩:=jD.1 h;have a:(Rm q x).y.Sublist (q.y++[x]):=List.drop_sublist ..;refine jD.2 ⟨λy b=>?_,List.Pairwise.sublist a ?_,List.Nodup.sublist (a.map _) ?_,c,d,zM c _⟩
 ·rcases z5.1 (a.subset b) with b|b
  all_goals grind
 ·grind
 grind
def ju(r:List Int)(o:Nat):Nat->List Int
 | 0=>r
 | n+1=>(ju r o n).set (o+n) 0
def cW(k:ah)(a:Int):Nat:=(af k.F.O (a / 16)).j.toNat
def eI(k:ah)(a:Int)(n:Nat):ah:={k with F:=⟨⟨k.F.V.T.set (cW k a) (ju (nth k.F.V.T (cW k a)) (a % 16).toNat n),k.F.V.a6⟩,k.F.O⟩}
theorem n9(r:List Int)(o:Nat):∀n,(ju r o n).length=r.length
 | 0=>rfl
 | n+1=>by unfold ju;rw[C3,n9 r o n]
def FL{r:List Int}{o:Nat} : ∀{n:Nat}{v:Int},v∈ju r o n->v∈r\/v=0
 | 0,v,h=>.inl h
 | n+1,v,h=>by
  rcases OD h with h|h
  ·exact FL h
  exact .inr h
theorem Lj(h:aI k=true)(a:Int)(n:Nat):aI (eI k a n)=true:=by
 obtain⟨g,i,l,o,p⟩:=aH.1 h;obtain⟨q,r,t,c⟩:=bi.1 i;refine aH.2 ⟨g,bi.2 ⟨?_,?_,?_,λj b=>?_⟩,l,o,p⟩
 ·grind [eI]
 ·grind [eI]
 ·grind [eI]
 simp only[eI,C3]at b |-;simp only[bW];split
 ·rename_i e
  have d:=c j b;unfold jw at d |-;simp only[I0,C0,O7]at d |-;rw[e.1]at *;refine⟨by grind [n9],λv f=>?_⟩;rcases FL f with f|rfl
  all_goals grind [kw]
 exact c j b
def tG(h:ac)(a:Int):Nat:=(h.H.findIdx? λl=>decide (l.Q*16=a)).getD 0
def freeL(h:ac)(i k:Nat):ac:={h with G:=unmN h.G (nth h.H k).Q (nth h.H k).a1.toNat,H:=dele h.H k,o:=(cQ (eQ h) h.o ⟨(nth h.H k).Q,(nth h.H k).a1⟩).getD h.o,J:=dele h.J i}
def jS(h:ac)(o:bg):aV:=⟨o.Addr,aN o.k,h.b1⟩
def inQuar(h:ac)(i:Nat):ac:={h with G:=eI h.G (nth h.J i).Addr (csz (aN (nth h.J i).k)).toNat,J:=dele h.J i,a7:=Rm h.a7 (jS h (nth h.J i))}
def Fa(h:ac)(t i:Nat):ac:=recycs t (inQuar h i) ((vN h.a7 (jS h (nth h.J i))).map (·.Addr))
def freeOb(h:ac)(t i:Nat):ac × Int:=
 if aN (nth h.J i).k<0 then(freeL h i (tG h (nth h.J i).Addr),0)
 else if(af (tbl h) ((nth h.J i).Addr / 16)).e=1 then(h,5)
 else(Fa h t i,0)
theorem qr(n:l∈h.H)(e:a=16*l.Q):tG h a<h.H.length/\a=16*(nth h.H (tG h a)).Q/\(∀j,j<tG h a->(nth h.H j).Q*16≠a)/\h.H.findIdx? (λl=>decide (l.Q*16=a))=some (tG h a):=by
 cases c:h.H.findIdx? λl=>decide (l.Q*16=a) with
 | none=>
  grind
 | some k=>
  obtain⟨b,d,f⟩:=SE.1 c;have g:tG h a=k:=by grind [tG]
  rw[g];rw[<-br (z4 b),C0]at d;refine⟨b,ω,λj i=>?_,rfl⟩;have:=f j i;rw[<-br (z4 (show j<h.H.length by omega))]at this;simpa using this
theorem dJ(a:aY h E)(f:o∈h.J):(aN o.k<0->Z3 h.H o.Addr o.k)/\(¬aN o.k<0->(∃s∈h.K,fA s o.Addr/\s.d=aN o.k)/\aN o.k<=3):=by
 rcases a.oow o f with⟨s,g,b,c⟩|⟨l,d,b,c⟩
 ·have i:=aJ (a.L.sok s g)
  grind
 have j:=ch (a.L.lok l d);refine⟨λ_=>⟨l,d,b,c⟩,λe=>absurd ?_ e⟩
 grind [aN]
theorem aY.inQuar{h:ac}{i:Nat}(a:aY h [])(g:i<h.J.length)(r:¬aN (nth h.J i).k<0):aY (inQuar h i) ((vN h.a7 (jS h (nth h.J i))).map (·.Addr)):=by
 obtain⟨⟨s,j,l,t⟩,u⟩:=(dJ a (ax g)).2 r;have b:k7 h.K (nth h.J i).Addr (aN (nth h.J i).k):=⟨s,j,l,.inr t⟩
 have c:=a.nums;unfold cI at c;rw[C0]at c;have w:=aJ (a.L.sok s j);have n:=a.dropO g b.any;have A:=n.cells (k:=eI h.G (nth h.J i).Addr (csz (aN (nth h.J i).k)).toNat) (Lj a.ker _ _) rfl;have d:∀y∈h.a7.y,y.Addr≠(nth h.J i).Addr:=λy o e=>by
  have f:=n.nd;rw[List.cons_append,List.nil_append]at f
  grind [holders]
 have p:=aY.toQuar (x:=jS h (nth h.J i)) (q:=Rm h.a7 (jS h (nth h.J i))) (out:=vN h.a7 (jS h (nth h.J i))) A (We a.quar ⟨by show 0<=aN _;omega,u,by show 0<=(nth h.J i).Addr;have:=l.1;omega,c.2.2.1⟩ (λy o=>a.snc y o) d) (by grind [List.take_append_drop,vN,Rm]) (O9 _) b;rw[List.append_nil]at p;exact p
theorem aY.freeOb{h:ac}{t i:Nat}(a:aY h [])(c:i<h.J.length)(e:t<h.R.length):aY (freeOb h t i).1 []:=by
 unfold Ab.freeOb;split
 ·rename_i b
  obtain⟨l,f,d,-⟩:=(dJ a (ax c)).1 b;obtain⟨g,j,-⟩:=qr f d
  grind [aY.dropL,freeL]
 rename_i b;split
 ·exact a
 have d:=a.inQuar c b;refine aY.recycs (E:=[]) ?_ e
 grind
theorem Qm:∀{H L:List Int},H.Nodup->(∀x∈H,x∈L)->H.length<=L.length
 | [],L,_,_=>I1 _
 | y::H,L,b,c=>by
  have d:y∈L:=ψ
  have a:=List.nodup_cons.1 b;have:=Qm (L:=L.erase y) a.2 ψ
  grind
theorem Dm{H:List Int}(a:H.Nodup)(b:∀x∈H,0<=x/\x<n):H.length<=n:=by
 have:=Qm (L:=(List.range n).map λ(i:Nat)=>(i:Int)) a λx c=>O8.2 ⟨x.toNat,List.mem_range.2 ψ,ψ⟩
 simpa using this
theorem dv{f:α->Int}{xs:List α}(h:xs.Pairwise λa b=>f a<f b):(xs.map f).Nodup:=ψ
theorem TP:∀(b:List (List Int))(k:Nat)(s:List Int),(jj k s b).isSome=true->∀l∈b,l.length<=8
 | [],_,_,_,l,a=>by cases a
 | x::b,k,s,h,l,a=>by
  simp only[jj]at h;cases e:gM k s x with
  | none=>grind
  | some c=>
   rw[e]at h;rcases List.mem_cons.1 a with rfl|a
   ·grind [gM]
   exact TP b (k+1) c h l a
theorem eX{c:aE}(h:bx c=true):c.Y.length=4/\∀l∈c.Y,l.length<=8:=by grind [TP,bx]
structure pV(h:ac):Prop where
 cells:h.G.F.V.T.length<=32
 row:∀r∈h.G.F.V.T,r.length=16
 used:h.G.F.V.a6.length<=32
 ents:h.G.F.O.M.length<=32
 ref:h.G.a3.length<=40
 free:h.o.length<=32
 spans:h.K.length<=32
 larges:h.H.length<=32
 objs:h.J.length<=512
 caches:h.R.length<=4
 lists:∀c∈h.R,c.Y.length=4/\∀l∈c.Y,l.length<=8
 quar:h.a7.y.length<=512
def k7.bd(b:aY h E)(d:k7 h.K a c):0<=a/\a<512:=by
 obtain⟨s,e,⟨f,g,-⟩,-⟩:=d;have i:=aJ (b.L.sok s e);omega
theorem aY.lens(a:aY h E):pV h:=by
 obtain⟨G,k,p,J,K,M,q⟩:=aH.1 a.ker;obtain⟨N,t,O,P⟩:=bi.1 k;obtain⟨Q,R,u⟩:=bu.1 p;obtain⟨w,S,T⟩:=ix.1 a.rng;obtain⟨U,V,A,W⟩:=jD.1 a.quar;have g:=a.mail;unfold bG at g;simp only[I0,C0]at g;have B:=a.nc;refine⟨t,λr i=>?_,ω,u,q,?_,?_,?_,?_,ω,λc C=>eX (a.cach c C),?_⟩
 ·obtain⟨j,X,rfl⟩:=aW i
  grind [jw]
 ·have:=Dm (H:=h.o.map (·.At)) (n:=32) (dv (w.1.imp_of_mem ψ)) λx b=>by
   obtain⟨r,i,rfl⟩:=O8.1 b
   grind
  simpa using this
 ·have:=Dm (H:=h.K.map (·.Q)) (n:=32) a.L.nd λx b=>by
   obtain⟨s,d,rfl⟩:=O8.1 b;have:=aJ (a.L.sok s d);omega
  simpa using this
 ·have:=Dm (H:=h.H.map (·.Q)) (n:=32) (dv a.srl) λx b=>by
   obtain⟨l,f,rfl⟩:=O8.1 b;have:=aR (a.L.lok l f);omega
  simpa using this
 ·have:=Dm (H:=h.J.map (·.Addr)) (n:=512) (dv a.osr) λx b=>by
   obtain⟨o,D,rfl⟩:=O8.1 b;rcases a.oow o D with⟨s,d,⟨Y,Z,-⟩,-⟩|⟨l,f,e,-⟩
   ·have:=aJ (a.L.sok s d);omega
   have:=aR (a.L.lok l f);omega
  simpa using this
 have:=Dm (H:=h.a7.y.map (·.Addr)) (n:=512) A λx b=>by
  obtain⟨y,F,rfl⟩:=O8.1 b;exact(a.hqu y F).bd a
 simpa using this
theorem pV.sml(a:pV h)(b:aI h.G=true)(d:aP.sml h.w)(e:cY.sml h.a):ac.sml h:=
 ⟨bj b,⟨by grind [pV.free],λ_ _=>tV1⟩,⟨by grind [pV.spans],λ_ _=>tV1⟩,⟨by grind [pV.larges],λ_ _=>tV1⟩,⟨by grind [pV.objs],λ_ _=>tV1⟩,⟨by grind [pV.caches],λc f=>⟨by grind [pV.lists],λl g=>by have:=(a.lists c f).2 l g;show l.length<=1048576;omega⟩⟩,d,⟨by grind [pV.quar],λ_ _=>tV1⟩,e⟩
def jR(a:Int)(o:bg):Bool:=decide (o.Addr=a)
def lD(h:ac)(a:Int):Nat:=(bU (jR a) h.J).toNat
theorem aY.objAt(g:aY h E)(k:o∈h.J):lD h o.Addr<h.J.length/\nth h.J (lD h o.Addr)=o/\bU (jR o.Addr) h.J=(lD h o.Addr:Nat):=by
 obtain⟨i,c,rfl⟩:=aW k;have l:bU (jR (nth h.J i).Addr) h.J=(i:Nat):=df (ar c) (by unfold jR;simp) λj z n d=>by
  have a:=br d;have b:=(C4.1 d).1;subst a;unfold jR;refine C1 λe=>?_
  have:=du (f:=(·.Addr)) (dv g.osr) b c e;omega
 grind [lD]
theorem tj(k:ah)(p:Int)(n:Nat):(unmN k p n).Calls=k.Calls/\(unmN k p n).a3=k.a3:=(fY k p n).2
def TC(y:aG)(a:List aG):eA [] (y::a)=eA [y] a:=by rw[eA];rfl
theorem Mx[Inhabited α]{xs:List α}(h:xs≠[]):xs.getLast? = some (nth xs (xs.length - 1)):=by grind [List.length_pos_iff,ar]
theorem TF{xs:List α}(h:xs≠[])(v:α):xs.dropLast++[v]=xs.set (xs.length - 1) v:=by
 have a:0<xs.length:=ψ
 refine List.ext_getElem jp λi b c=>?_
 grind
theorem U1{a:List aG}(h:out≠[])(e:(nth out (out.length - 1)).At+(nth out (out.length - 1)).a8=y.At):eA out (y::a)=eA (out.set (out.length - 1) ⟨(nth out (out.length - 1)).At,(nth out (out.length - 1)).a8+y.a8⟩) a:=by grind [Mx,TF,eA]
theorem Wh{a:List aG}(h:out≠[])(e:¬(nth out (out.length - 1)).At+(nth out (out.length - 1)).a8=y.At):eA out (y::a)=eA (out++[y]) a:=by grind [Mx,eA]
theorem wW(xs:List aG)(w:xs.length<=4194304)(n:∀y∈xs,0<=y.At/\1<=y.a8/\y.At+y.a8<=1048576):zzA 573 false [.val none (bw .S xs)] .one (bw .own (eA [] xs)):=by
 refine fO 63 [(6,21,[15,16,17,18,19,20,21,22,23,24,25,26,27,28,29,30,31,32,33,34,35]),(7,15,[38,39,40,41,42,43,44,45,46,47,48,49,50,51,52])] Tryz.func573 rfl ?_ (.inr (ko _))
 refine σP ?_
 refine mD (ι:=Nat × List aG) (λq=>[(0,bJ (bw .S xs)),(3,bJ (bw .own q.2)),(4,fN (q.1))]) (λq=>q.1<=xs.length/\eA q.2 (xs.drop q.1)=eA [] xs/\q.2.length<=q.1/\∀y∈q.2,0<=y.At/\1<=y.a8/\y.At+y.a8<=1048576) (λq=>xs.length - q.1) ((0,[])) ψ λq o=>?_
 obtain⟨i,out⟩:=q;obtain⟨p,a,g,b⟩:=o;simp only at p a g b |-;by_cases h:i<xs.length
 ·have j:=ar h
  have B:=n _ (ax h);rw[gZ h]at a;by_cases k:out=[]
  ·subst k
   rw[TC]at a;have D:([]:List aG).length=0:=rfl
   repeat'(first|refine gE ?_|refine Ln.mk (show List.length _=0 from rfl) ?_|refine Cf (λr t=>by cases t) rfl (by simp) qs rfl ?_)
   ((conv=>whnf)
    refine CR (i+1,[nth xs i]) ψ (by simp only;omega) ?_
    (exact wR))
  have l:0<out.length:=ψ
  have d:out[((out.length:Int) - 1).toNat]? = some (nth out (out.length - 1)):=by
   rw[show((out.length:Int) - 1).toNat=out.length - 1 by omega];grind [ar]
  have u:=b _ (ax (xs:=out) (i:=out.length - 1) ω);by_cases e:(nth out (out.length - 1)).At+(nth out (out.length - 1)).a8=(nth xs i).At
  ·rw[U1 k e]at a
   repeat'(first|refine gB ?_|refine CQ ω (aa d) ?_|refine CU rfl rfl (aa d) rfl (O2 rfl) rfl ?_)
   ((conv=>whnf)
    refine CR (i+1,out.set (out.length - 1) ⟨(nth out (out.length - 1)).At,(nth out (out.length - 1)).a8+(nth xs i).a8⟩) ⟨(by simp only;omega),a,ψ,(λy c=>?_)⟩ (by simp only;omega) ?_)
   ·rcases OD c with c|rfl
    ·exact b y c
    simp only;omega
   (repeat'(first|exact tV1|rfl|exact CV rfl (CV (O1 (C.s fE.own) (by rw[show((out.length:Int) - 1).toNat=out.length - 1 by omega,SC];rfl)) tV1)|refine CV ?_ ?_))
  rw[Wh k e]at a
  repeat'(first|refine gB ?_|refine CQ ω (aa d) ?_|refine Cf (aM λ_=>rfl) rfl jp qs rfl ?_)
  ((conv=>whnf)
   refine CR (i+1,out++[nth xs i]) ⟨(by simp only;omega),a,jp,(λy c=>?_)⟩ (by simp only;omega) ?_)
  ·rcases z5.1 c with c|c
   all_goals simp_all
  (exact wR)
 obtain rfl:i=xs.length:=ω
 rw[List.drop_length]at a
 refine σE ?_
 rw[<-a];rfl
def FK(r y:aG)(a:List aG)(put:Bool):pU r (y::a) put=if ovl y r then none else if !put&&decide (y.At > r.At) then(pU r a true).map λt=>r::y::t else(pU r a put).map λt=>y::t:=by rw[pU]
theorem pj(pages:Int)(xs:List aG)(r:aG)(D:0<=pages/\pages<=1048576)(E:iy xs):zzA 519 false [.vI pages,.val none (bw .S xs),.val (some 2) (aG.enc .S r)] (.tup [none,none]) (HF xs (cQ pages xs r)):=by
 have o:=E.1;have j:=pO pages xs D E;have p:=Bp pages r D;cases k:bN pages xs<;>rw[k]at j
 ·rw[show cQ pages xs r=none by unfold cQ;rw[CJ (by rw[k];simp)]]
  refine fO 82 [] Tryz.func519 rfl ?_ (.inr (nC _ _))
  repeat'(first|refine gP ?_|refine CZ (λ_=>rfl) (λ_=>rfl) o qs ?_)
  rfl
 cases u:rangeIn pages r<;>rw[u]at p
 ·rw[show cQ pages xs r=none by unfold cQ;rw[CJ (by rw[u];simp)]]
  refine fO 82 [] Tryz.func519 rfl ?_ (.inr (nC _ _))
  repeat'(first|refine gP ?_|refine CZ (λ_=>rfl) (λ_=>rfl) o qs ?_)
  rfl
 obtain⟨F,G⟩:=vG k;have l:0<=r.At/\1<=r.a8/\r.At+r.a8<=pages:=by grind [rangeIn]
 rw[show cQ pages xs r=(pU r xs false).map (eA []) by unfold cQ;rw[CL ⟨k,u⟩,FX (pages:=pages) F l.2.1 ψ]];refine fO 82 [] Tryz.func519 rfl ?_ (.inr (nC _ _))
 repeat'(first|refine gP ?_|refine CZ (λ_=>rfl) (λ_=>rfl) o qs ?_)
 refine mD (ι:=Nat × List aG × Bool) (λq=>[(1,bJ (bw .S xs)),(5,bB (aG.enc .S r)),(8,bJ (bw .own xs)),(9,bJ (bw .own q.2.1)),(10,fB (q.2.2)),(11,fN (q.1))]) (λq=>q.1<=xs.length/\(pU r (xs.drop q.1) q.2.2).map (q.2.1++·)=pU r xs false/\q.2.1.length<=q.1+q.2.2.toNat/\(∀y∈q.2.1,0<=y.At/\1<=y.a8/\y.At+y.a8<=1048576)) (λq=>xs.length - q.1) ((0,[],false)) (⟨I1 _,by simp,by simp,by simp⟩) λq d=>?_
 obtain⟨i,out,put⟩:=q;obtain⟨H,b,c,e⟩:=d;simp only at H b c e |-;have J:0<=r.At/\1<=r.a8/\r.At+r.a8<=1048576:=ω
 by_cases w:i<xs.length
 ·have n:=ar w
  have K:=G _ (ax w);have B:0<=(nth xs i).At/\1<=(nth xs i).a8/\(nth xs i).At+(nth xs i).a8<=1048576:=ω
  rw[gZ w]at b;by_cases h:ovl (nth xs i) r=true
  ·rw[<-b]
   rw[FK,CL h];unfold ovl at h;rw[C0]at h
   repeat'(first|refine gE ?_|refine gS (λd=>?_) (λd=>?_)|fail)
   rfl
  rw[FK,CJ h]at b;unfold ovl at h;rw[C0]at h;cases put with
  | false=>
   have c:out.length<=i:=by simpa using c
   by_cases L:(nth xs i).At > r.At
   ·rw[CL jp,Option.map_map]at b
    repeat'(first|refine gE ?_|refine gS (λd=>?_) (λd=>?_)|refine Cf (aM λ_=>rfl) rfl jp qs rfl ?_|refine Cf (λr l=>by simp at l;rcases l with⟨a,_,rfl⟩|rfl<;>rfl) rfl jp qs rfl ?_)
    ((conv=>whnf)
     refine CR (i+1,out++[r,nth xs i],true) ⟨(by simp only;omega),(by rw[<-b];congr 1;funext t;simp),jp,(λy g=>?_)⟩ (by simp only;omega) ?_)
    ·grind
    (exact wR)
   rw[CJ jp,Option.map_map]at b
   repeat'(first|refine gE ?_|refine gS (λd=>?_) (λd=>?_)|refine Cf (aM λ_=>rfl) rfl jp qs rfl ?_)
   ((conv=>whnf)
    refine CR (i+1,out++[nth xs i],false) ⟨(by simp only;omega),(by rw[<-b];congr 1;funext t;simp),jp,(λy g=>?_)⟩ (by simp only;omega) ?_)
   ·grind
   (exact wR)
  | true=>
   have c:out.length<=i+1:=c;rw[CJ (by simp),Option.map_map]at b;by_cases M:(nth xs i).At<r.At+r.a8
   all_goals
    repeat'(first|refine gE ?_|refine gS (λd=>?_) (λd=>?_)|refine Cf (aM λ_=>rfl) rfl jp qs rfl ?_)
    ((conv=>whnf)
     refine CR (i+1,out++[nth xs i],true) ⟨(by simp only;omega),(by rw[<-b];congr 1;funext t;simp),jp,(λy g=>?_)⟩ (by simp only;omega) ?_)
    ·rcases z5.1 g with g|g
     ·exact e y g
     rw[z3.1 g];exact B
    (exact wR)
 obtain rfl:i=xs.length:=ω
 rw[List.drop_length]at b;cases put with
 | false=>
  have c:out.length<=xs.length:=by simpa using c
  rw[<-b];have C:=wW (out++[r]) jp ψ
  repeat'(first|refine gE ?_|refine Cf (aM λ_=>rfl) rfl jp qs (show(out++[r]).map (aG.enc .own)=_ by simp[aG.enc]) ?_|refine CN (C) ⟨⟨rfl,fm _⟩,tV1⟩ ?_)
  rfl
 | true=>
  have c:out.length<=xs.length+1:=c;rw[<-b];have C:=wW out ω e
  repeat'(first|refine gE ?_|refine CN (C) ⟨⟨rfl,fm _⟩,tV1⟩ ?_)
  simp[pU,HF]
  rfl
theorem shl64{i:Int}(a:0<=i/\i<=15):IntKind.i64.wrap (1*2 ^ min i.toNat IntKind.i64.bits)=2 ^ i.toNat/\0<=(2:Int) ^ i.toNat/\(2:Int) ^ i.toNat<=32768:=by
 have b:min i.toNat IntKind.i64.bits=i.toNat:=Nat.min_eq_left (show i.toNat<=64 by omega);have c:(0:Int)<=2 ^ i.toNat/\(2:Int) ^ i.toNat<=32768:=by
  have:(2:Nat) ^ i.toNat<=2 ^ 15:=Nat.pow_le_pow_right qs ω
  grind
 grind [gf]
theorem clr64{i:Int}(a:0<=b/\b<=65535):IntKind.i64.wrap ((BitVec.ofInt IntKind.i64.bits b &&& ~~~BitVec.ofInt IntKind.i64.bits (2 ^ i.toNat)).toNat:Nat)=Be b i:=by
 have:=GQ (i:=i) a
 grind [gf,Be]
theorem xF(b i:Int)(c:0<=b/\b<=65535)(d:0<=i/\i<=15):zzA 574 false [.vI b,.vI i] .one [I (Be b i)]:=by
 have a:=sU b i;rw[O0 ω]at a;have e:IntKind.u64.wrap i=i:=by grind [Go.IntKind.wrap,Go.IntKind.bits]
 refine fO 15 [] Tryz.func574 rfl ?_
 repeat'(first|refine gP ?_|refine CT ω ?_|refine CS e ?_|refine CS (shl64 d).1 ?_|refine CS (clr64 c) ?_)
 rfl
def xZ(b i:Int)(c:0<=b/\b<=65535)(d:0<=i/\i<=15):zzA 491 false [.vI b,.vI i] .one [I (Be b i)]:=by
 have a:=th b i;rw[O0 ω]at a;refine fO 14 [] Tryz.func491 rfl ?_
 repeat'(first|refine gP ?_|refine CT ω ?_|refine CS (shl64 d).1 ?_|refine CS (clr64 c) ?_)
 rfl
theorem PO{k:Int}(a:bc s.a9 k=true):0<=k/\k<=15:=by grind [gG]
def DR(s:aB)(k:Int)(a:bk s=true)(b:bc s.a9 k=true):zzA 523 false [.val (some 3) (aB.enc .S s),.vI k] (.tup [some 3,none]) (aB.enc .own (mK s k)++[B true]):=by
 have e:=eS a;have g:=PO b;have c:=im s;have d:=jt s.a9 k ω;rw[a]at c;rw[b]at d;refine fO 23 [] Tryz.func523 rfl ?_ (.inr (aD (aB.enc_fr _) ⟨tV1,tV1⟩))
 repeat'(first|refine gP ?_|refine CG (xF s.a9 k e g) ?_)
 rfl
def EV(s:aB)(k:Int)(a:bk s=true)(b:bc s.a9 k=true):zzA 385 false [.val (some 3) (aB.enc .S s),.vI k] (.tup [some 3,none]) (aB.enc .own (mK s k)++[B true]):=by
 have e:=eS a;have g:=PO b;have c:=ik s;have d:=iu s.a9 k ω;rw[a]at c;rw[b]at d;refine fO 23 [] Tryz.func385 rfl ?_ (.inr (aD (aB.enc_fr _) ⟨tV1,tV1⟩))
 repeat'(first|refine gP ?_|refine CG (xZ s.a9 k e g) ?_)
 rfl
def BM(c:aE)(k:Int)(b:aE.sml c):zzA 477 false [.val (some 1) (aE.enc .S c),.vI k] .one [B (bx c&&decide (0<=k/\k<=3))]:=by
 have a:=qp c b;cases e:bx c<;>rw[e]at a
 all_goals
  refine fO 11 [] Tryz.func477 rfl ?_
  repeat'(first|refine gP ?_|refine CG (aQ k 0 3) ?_)
  all_goals rfl
def uW(c:aE)(k:Int)(a:aE.sml c):zzA 333 false [.val (some 1) (aE.enc .S c),.vI k] .one [B (decide (0<=k/\k<=3)&&bx c)]:=by
 have b:=kL c a;refine fO 11 [] Tryz.func333 rfl ?_
 repeat'(first|refine gP ?_|refine gS (λd=>?_) (λd=>?_)|refine CG (gQ k) ?_)
 all_goals exact bZ ((by simp[*]))
def nB{c:aE}{k:Nat}(a:k<c.Y.length):c.Y[k]? = some (nth c.Y k):=ar a
theorem KS{c:aE}(h:bx c=true)(k:Nat)(a:Int):aE.sml (od c k a):=by
 obtain⟨e,d⟩:=eX h;refine⟨by grind [od],λl b=>?_⟩;rcases OD b with b|rfl
 ·have:=d l b;show l.length<=1048576;omega
 show(nth c.Y k++[a]).length<=1048576;by_cases f:k<c.Y.length
 ·grind [ax]
 have:nth c.Y k=[]:=by unfold nth;rw[O4,I4 ω];rfl
 rw[this];simp
theorem B8(c:aE)(k:Nat)(a:Int):aE.enc .own (od c k a)=[.s .own ((c.Y.map (aF .own)).set k (aF .own (nth c.Y k++[a])))]:=by grind [SC,aE.enc,od]
theorem dt{f:α->List C}{xs:List α}{k:Nat}{y:α}(h:xs[k]? = some y):((xs.map f).set k r)[k]? = some r:=ψ
def f8(f:α->β)(xs:List α)(y:α):(xs++[y]).map f=xs.map f++[f y]:=by simp
def B0(c:aE)(k a:Int):List C:=aE.enc .own ((cput c k a).getD c)++[B (cput c k a).isSome]
def Mh(c:aE)(k a:Int):iN (B0 c k a):=aD (Cv _) ⟨tV1,tV1⟩
theorem Eo(c:aE)(k:Nat)(a:Int)(j:bx c=true)(B:k<=3):zzA 572 false [.val (some 1) (aE.enc .S c),.vI (k:Nat),.vI a] (.tup [some 1,none]) (B0 c k a):=by
 obtain⟨D,q⟩:=eX j;have r:aE.sml c:=⟨ω,λl u=>by have:=q l u;show l.length<=1048576;omega⟩
 have n:=BM c k r;rw[j,O0 ω]at n;have t:=ll c r;have d:=KS j k a;have o:=qp (od c k a) d;have w:=ll (od c k a) d;have b:=nB (c:=c) (k:=k) ω;have y:=q _ (ax (xs:=c.Y) (i:=k) ω);have h:=Cm (od c k a);rw[B8]at h;have g:=Mh c k a;unfold B0 at g |-;cases e:bx (od c k a)<;>rw[e]at o
 ·have p:cput c k a=none:=by grind [cput]
  rw[p]at g |-;refine fO 35 [(4,267,[16,17,18,19,20,21,22,23,24,25,27,0,1,2,3,4,5,6,7,8,9,10,1000,1001,1002,11,12])] Tryz.func572 rfl ?_ (.inr g)
  repeat'(first|refine gP ?_|refine CK (dt b) ?_|refine CM rfl (dt b) rfl ?_|refine Lq.one rfl rfl (aa b) rfl (O2 rfl) rfl rfl ?_|refine CU rfl rfl (dt b) rfl (O2 rfl) (show [C.s fE.own ((c.Y.map (aF .own)).set k (aF .own (nth c.Y k++[a])))]=_ from by simp only[List.set_cons_zero,List.set_set,t5];rfl) ?_|refine Cf (aM λ_=>rfl) rfl jp qs (f8 _ _ _) ?_|refine CN (o) ⟨⟨rfl,h⟩,tV1⟩ ?_)
  rfl
 have p:cput c k a=some (od c k a):=by grind [cput]
 rw[p]at g |-;refine fO 35 [(4,267,[16,17,18,19,20,21,22,23,24,25,27,0,1,2,3,4,5,6,7,8,9,10,1000,1001,1002,11,12])] Tryz.func572 rfl ?_ (.inr g)
 repeat'(first|refine gP ?_|refine CK (dt b) ?_|refine CM rfl (dt b) rfl ?_|refine Lq.one rfl rfl (aa b) rfl (O2 rfl) rfl rfl ?_|refine CU rfl rfl (dt b) rfl (O2 rfl) (show [C.s fE.own ((c.Y.map (aF .own)).set k (aF .own (nth c.Y k++[a])))]=_ from by simp only[List.set_cons_zero,List.set_set,t5];rfl) ?_|refine Cf (aM λ_=>rfl) rfl jp qs (f8 _ _ _) ?_|refine CN (o) ⟨⟨rfl,h⟩,tV1⟩ ?_|refine CN (w) ⟨⟨rfl,h⟩,tV1⟩ ?_)
 rfl
theorem LK(o:bg)(a:Int):zzA 252 false [.val (some 4) (bg.enc .S o),.ptr [I a]] .one [B (jR a o)]:=by
 refine fO 8 [] Tryz.func252 rfl ?_
 refine σP ?_
 grind [jR]
def vi(h:ac)(a:Int)(c:h.J.length<=1048576):zzA 97 false [.val (some 24) (ac.enc .S h),.vI a] .one [I (bU (jR a) h.J)]:=by
 refine fO 9 [] Tryz.func97 rfl ?_
 repeat'(first|refine gP ?_|refine Ce (mC (some 4) (bg.enc .S) (jR a) h.J) (LK default a).has (λL k rcs b=>?_) ?_|refine CG (gL h.J (jR a) ω) ?_)
 ·obtain⟨y,-,rfl,rfl,rfl⟩:=b
  exact LK y a
 rfl
theorem mN(xs:List aC)(pr:aC->Bool)(g:xs.length<=9223372036854775807):zzA 100 false [.val none (ce .S xs),.fn (l9 Tryz.prog (mC (some 3) (aC.enc .S) pr xs))] .one [I (bU pr xs)]:=by
 refine fO 19 [] Tryz.func100 rfl ?_
 refine σP ?_
 refine gK xs.length (λi=>[(0,bJ (ce .S xs)),(1,.fv (l9 Tryz.prog (mC (some 3) (aC.enc .S) pr xs))),(7,fI xs.length),(8,fN i)]) (λi=>∀(j:Nat)(z:aC),j<i->xs[j]? = some z->pr z=false) ψ λi b=>?_
 obtain⟨b,d⟩:=b;by_cases a:i<xs.length
 ·obtain⟨y,c⟩ : ∃y,xs[i]? = some y:=⟨_,z4 a⟩
  repeat'(first|refine gE ?_|refine Fv.mk (k:=.one) (rcs:=[B (pr y)]) ⟨y,t4 c,rfl,rfl,rfl⟩ ?_|refine Bf.P (λe=>?_) (λe=>?_))
  ·grind [df]
  (conv=>whnf)
  exact cV (i+1) ψ
 refine σE ?_
 exact nO (eY ω d).symm
def bR(x:ac):List C:=[.s .own (x.G.F.V.T.map (aF .own)),.s .own (x.G.F.V.a6.map (rB .own)),.s .own (x.G.F.O.M.map (bo.enc .own)),I x.G.Calls,.s .own (x.G.a3.map (rI .own)),.s .own (x.o.map (aG.enc .own)),.s .own (x.K.map (aB.enc .own)),.s .own (x.H.map (aC.enc .own)),.s .own (x.J.map (bg.enc .own)),.s .own (x.R.map (aE.enc .own)),.s .own (x.w.U.map (bP .own)),.s .own (x.w.a0.map (aF .own)),I x.a7.b7,.s .own (x.a7.y.map (aV.enc .own)),I x.c0,I x.b1,I x.c1,I x.b,B x.q,I x.a.X.a4,I x.a.X.a5,.s .S (x.a.X.T.map (rI .S)),I x.a.b0,I x.a.b]
def bX(x:ac):eJ (bR x)=ac.enc .S x:=by simp[eJ,bR,ac.enc,Cm,bo.enc_fz,aC.enc_fz,bg.enc_fz,aG.enc_fz,aB.enc_fz,aV.enc_fz,rB,oc,rI,cR,<-cj,SB]
def BH(x:cY):List C:=[I x.X.a4,I x.X.a5,.s .S (x.X.T.map (rI .S)),I x.b0,I x.b]
theorem Pu.two{f a:List C}{off k g h b:Nat}{cs:List C}{K:List C->Prop}{o c:fE}{rows2:List (List C)}{d:List C}(h1:f[off]? = some (.s o rows))(n:o.mine=true)(h2:rows[i]? = some r)(u:r.length=k)(w:r[j]? = some (.s c rows2))(p:c.mine=true)(y:rows2[g]? = some d)(A:d.length=h)(B:b+cs.length<=h)(D:a=f.set off (.s o (rows.set i (r.set j (.s c (rows2.set g (splice d b cs)))))))(q:K a):Pu f off [(i,k,j),(g,h,b)] cs K:=by
 have t:o≠.S:=λe=>by subst e;cases n
 have l:c≠.S:=λe=>by subst e;cases p
 refine Pu.mk (r:=d) (j:=b) (by grind [db]) (by grind [mU]) ω (by grind [iz]) q
def Bc(x:List aB):fz (.s .own (x.map (aB.enc .own)))=.s .S (x.map (aB.enc .S)):=(List.cons.inj (f9 x)).1
def xS(x:List aC):fz (.s .own (x.map (aC.enc .own)))=.s .S (x.map (aC.enc .S)):=(List.cons.inj (kj x)).1
def zE(x:List bg):fz (.s .own (x.map (bg.enc .own)))=.s .S (x.map (bg.enc .S)):=(List.cons.inj (Q9 x)).1
theorem Ap.dele{e:α->List C}{xs:List α}(h2:∀y,(e y).length=sz)(a:∀y,bp (e y)=true)(g:xs.length<=1048576)(b:by_<=1000)(c:K ((Ab.dele xs i).map e)):Ap true ((xs.take i).map e) ((xs.drop (i+1)).map e) sz by_ K:=by
 have d:(xs.take i).length+(xs.drop (i+1)).length<=2097152:=ψ
 refine Ca (aM h2) (aM h2) (λ_ r f=>by obtain⟨y,-,rfl⟩:=O8.1 f;exact a y) (by rw[I2,I2];omega) (by rw[I2,I2];exact I9 (Nat.mul_le_mul d b) qs) ?_ c;unfold Ab.dele;rw[OB]
def Rl(h:ac)(p:Int)(a:aO.sml h.G.F.O):zzA 485 false [.ptr (ac.enc .S h),.vI p] .one [I (af h.G.F.O p).e]:=by
 refine fO 13 [] Tryz.func485 rfl ?_
 repeat'(first|refine gP ?_|refine CG (ee h.G.F.O p a) ?_)
 rfl
def Xv(h:ac):List C:=(bR h).drop 5
def YC(h:ac)(k:ah):bR {h with G:=k} = ah.enc .own k++Xv h:=rfl
def LZ(h:ac):Xv h=[.s .own (h.o.map (aG.enc .own)),.s .own (h.K.map (aB.enc .own)),.s .own (h.H.map (aC.enc .own)),.s .own (h.J.map (bg.enc .own)),.s .own (h.R.map (aE.enc .own)),.s .own (h.w.U.map (bP .own)),.s .own (h.w.a0.map (aF .own)),I h.a7.b7,.s .own (h.a7.y.map (aV.enc .own)),I h.c0,I h.b1,I h.c1,I h.b,B h.q,I h.a.X.a4,I h.a.X.a5,.s .S (h.a.X.T.map (rI .S)),I h.a.b0,I h.a.b]:=rfl
def Ry(h:ac)(f:Int)(a:aO.sml h.G.F.O)(b:0<=f/\f<h.G.F.V.T.length/\f<h.G.F.V.a6.length) :
  zzB 486 false [.ptr (bR h),.vI f] [.ptr (bR {h with G:=iB h.G f}),.vI f] (.tup []) []:=by
 have c:=ar (xs:=h.G.F.V.T) (i:=f.toNat) ω;have d:=ar (xs:=h.G.F.V.a6) (i:=f.toNat) ω;rw[YC h (iB h.G f)];by_cases e:(pagesOn h.G.F.O f).length=0
 ·rw[xf e,LZ]
  refine fM 30 [] [(2,8,[21,22,23,24,25,26,27,28])] [(0,0),(0,0)] Tryz.func486 rfl (λu q=>?_) (.inr tV1)
  repeat'(first|refine gB ?_|with_reducible (first|refine CQ b.1 (aa d) ?_|refine CQ b.1 (aa c) ?_)|refine CN (js h.G.F.O f a) ⟨⟨rfl,Cp h.G.F.O⟩,⟨rfl,rfl⟩,tV1⟩ ?_|refine CU rfl rfl (aa c) rfl (O2 rfl) rfl ?_|refine CU rfl rfl (aa d) rfl (O2 rfl) rfl ?_|refine Mk.mk 16 rfl rfl qs qs rfl ?_)
  exact kc
 rw[Bv e];show aU _ _ _ [.ptr (bR h),_] [.ptr (bR h),_] _ _;refine fM 30 [] [(2,8,[21,22,23,24,25,26,27,28])] [(0,0),(0,0)] Tryz.func486 rfl (λu q=>?_) (.inr tV1)
 repeat'(first|refine gB ?_|refine CN (js h.G.F.O f a) ⟨⟨rfl,Cp h.G.F.O⟩,⟨rfl,rfl⟩,tV1⟩ ?_)
 exact kc
theorem qR(h:ac)(p:Int)(b:aI h.G=true) :
  zzB 374 false [.ptr (bR h),.vI p] [.ptr (bR {h with G:=dm h.G p}),.vI p] .one [B (decide ((af h.G.F.O p).e≠0))]:=by
 have k:=bj b;have c:=Rl h p k.1.2;by_cases a:(af h.G.F.O p).e=0
 ·rw[show dm h.G p=h.G by unfold dm;rw[CL a]]
  refine fM 32 [(486,[2,0])] [] [(0,0),(0,0)] Tryz.func374 rfl (λu q=>?_)
  repeat'(first|refine gB ?_|refine CN (c) ⟨bX h,⟨rfl,rfl⟩,tV1⟩ ?_)
  refine CP rfl ?_ ?_
  ·exact bZ ((by simp[a]))
  exact wB
 obtain⟨l,r,n,d,o⟩:=bD b a;have j:=(bi.1 (aH.1 b).2.1).2.2.1;rw[show dm h.G p=iB (nE h.G p) (af h.G.F.O p).j by unfold dm;rw[CJ a]];have e:=Ry {h with G:=nE h.G p} (af h.G.F.O p).j (D0 b) ⟨d,by grind [nE],by grind [nE]⟩;rw[YC h (nE h.G p),AI,LZ]at e;have g:=ar (xs:=h.G.F.O.M) (i:=p.toNat) ω;rw[n]at c e a |-;refine fM 32 [(486,[2,0])] [] [(0,0),(0,0)] Tryz.func374 rfl (λu q=>?_)
 repeat'(first|refine gB ?_|with_reducible refine CQ l (aa g) ?_|refine CN (c) ⟨bX h,⟨rfl,rfl⟩,tV1⟩ ?_|refine CU rfl rfl (aa g) rfl (O2 rfl) rfl ?_)
 refine CP rfl ?_ ?_
 ·exact bZ ((by simp[a]))
 exact wB
def yr(h:ac)(p:Int):zzA 367 false [.ptr (ac.enc .S h),.vI p] .one [B (gq h p)]:=by
 cases e:h.q
 all_goals
  have a:ac.enc .S h=(ac.enc .S h).set 18 (B h.q):=rfl;rw[e]at a;rw[a];refine fO 29 [] Tryz.func367 rfl ?_
  repeat'(first|refine gP ?_|refine gS (λb=>?_) (λb=>?_)|fail)
  all_goals exact bZ ((by unfold gq;rw[e];first|(simp[*];done)|(simp[*];rw[C9];simp)))
def jF(h:ac):zzA 372 false [.ptr (ac.enc .S h)] .one [I (eQ h:Nat)]:=by
 refine fO 11 [] Tryz.func372 rfl ?_
 refine σP ?_
 rfl
theorem uV(h:ac)(a:Int)(k:h.J.length<=1048576):zzA 509 false [.val (some 24) (ac.enc .S h),.vI a] .one [I (bU (jR a) h.J)]:=by
 refine fO 22 [] Tryz.func509 rfl ?_
 refine σP ?_
 refine gK h.J.length (λi=>[(1,fI a),(2,bB (ac.enc .S h)),(5,fN i)]) (λi=>∀(j:Nat)(z:bg),j<i->h.J[j]? = some z->jR a z=false) ψ λi c=>?_
 obtain⟨c,d⟩:=c;by_cases g:i<h.J.length
 ·have b:=ar g
  by_cases e:(nth h.J i).Addr=a
  ·refine σB ?_
   grind [df,jR]
  refine σB ?_
  (exact cV (i+1) ⟨ω,fh b (by grind [jR]) d⟩)
 refine σE ?_
 exact nO (eY ω d).symm
def q9(h:ac)(i:Nat)(b:i<h.J.length)(a:h.J.length<=1048576):zzB 513 false [.ptr (bR h),.vI (i:Nat)] [.ptr (bR {h with J:=dele h.J i}),.vI (i:Nat)] (.tup []) []:=by
 refine fM 23 [] [(0,273,[4,5,6,7,8,9,10,11,13,14,15,16,17,18,19,21,22,0,1,2,3,4,5,6,7,9,10,11,12,13,14,15,8,1000,1009,1010,1011,1012,1013,1014,1015,16,1000,17,18,19]),(1048576,0,[8])] [(0,0),(0,0)] Tryz.func513 rfl (λu q=>?_) (.inr tV1)
 repeat'(first|refine gP ?_|refine Le.mk rfl (zE h.J) rfl ?_|refine Cc i rfl (by rw[I2];omega) (aM λ_=>rfl) C8 ?_|refine Cj (i+1) rfl (by rw[I2];omega) (aM λ_=>rfl) I8 ?_|refine Cg (λ_=>rfl) (λ_=>rfl) (by rw[I3];omega) qs ?_|refine Ap.dele (λ_=>rfl) (λ_=>rfl) a qs ?_|refine CZ (λ_=>rfl) (λ_=>rfl) (by rw[I3];omega) qs ?_)
 exact kc
theorem GG(h:ac)(E:List Int)(i:Nat)(a:aY h E)(e:i<h.K.length):zzB 524 false [.ptr (bR h),.vI (i:Nat)] [.ptr (bR (giveP h i)),.vI (i:Nat)] (.tup []) []:=by
 have b:=a.lens;have g:=b.spans;have c:=ar e;have j:=qR {h with K:=dele h.K i} (nth h.K i).Q a.ker;have d:=jF {h with G:=dm h.G (nth h.K i).Q,K:=dele h.K i};rw[show eQ {h with G:=dm h.G (nth h.K i).Q,K:=dele h.K i} = eQ h from(nQ _ _).1]at d;have k:eQ h<=32:=b.ents;have l:=pj (eQ h:Nat) h.o ⟨(nth h.K i).Q,1⟩ ω ⟨by grind [pV.free],λ_ _=>tV1⟩;refine fM 52 [(374,[2,0])] [(1,273,[13,14,15,16,17,18,19,20,22,23,24,25,26,27,28,30,31,0,1,2,3,4,5,6,7,9,10,11,12,13,14,15,8,1000,1009,1010,1011,1012,1013,1014,1015,16,1000,17,18,19]),(1048577,0,[6]),(3,270,[38,39,40,41,42,43,44,45,47,37,48,49,50,51,0,1,2,3,4,5,6,7,8,1000,1001,1002,1003,1004,1005,1006,9,10,11,12,13,14,15,1012])] [(0,0),(0,0)] Tryz.func524 rfl (λu q=>?_) (.inr tV1)
 repeat'(first|refine gP ?_|refine Le.mk rfl (Bc h.K) rfl ?_|refine Cc i rfl (by rw[I2];omega) (aM λ_=>rfl) C8 ?_|refine Cj (i+1) rfl (by rw[I2];omega) (aM λ_=>rfl) I8 ?_|refine Cg (λ_=>rfl) (λ_=>rfl) (by rw[I3];omega) qs ?_|refine Ap.dele (λ_=>rfl) (λ_=>rfl) ω qs ?_|refine CZ (λ_=>rfl) (λ_=>rfl) (by rw[I3];omega) qs ?_|refine CN (d) ⟨bX _,tV1⟩ ?_|refine CN (l) ⟨⟨rfl,rfl⟩,⟨rfl,fm h.o⟩,⟨rfl,rfl⟩,tV1⟩ ?_)
 exact kc
def BX(h:ac)(i:Nat)(a:Int):bR (clrS h i a)=(bR h).set 6 (.s .own ((h.K.map (aB.enc .own)).set i (aB.enc .own (mK (nth h.K i) (d9 (nth h.K i) a))))):=by
 simp[bR,clrS,SC]
theorem kY{f:α->β}{xs:List α}{y:β}(a:i<xs.length):((xs.map f).set i y)[i]? = some y:=ψ
def QT(c:bk s=true)(b:fA s a):kP s a=(d9 s a,0):=by
 unfold kP;rw[CL ((iw c).2 ⟨b.1,b.2.1⟩),b.2.2.1];rfl
theorem qn(h:ac)(E:List Int)(a:Int)(c:aY h (a::E)):zzB 426 false [.ptr (bR h),.vI a] [.ptr (bR (freeA h a)),.vI a] (.tup []) []:=by
 obtain⟨j,n,t⟩:=c.at (c.hin a ψ);have d:=(c.hin a ψ).bd c;have B:=c.lens;have C:=B.spans;have e:=c.L.sok _ (ax j);have k:=my h (a / 16) ω;rw[t]at k;unfold freeA;generalize w9 h a=i at j n k e;have b:=ar j;have o:=y5 (nth h.K i) a ⟨ω,ω⟩;rw[QT e n]at o;have w:=DR (nth h.K i) (d9 (nth h.K i) a) e n.2.2.2;have D:=c.give j n;have l:=yr (clrS h i a) (nth h.K i).Q;rw[show gq (clrS h i a) (nth h.K i).Q=gq h (nth h.K i).Q from rfl]at l;have p:=GG (clrS h i a) E i D (by grind [clrS]);have r:=bX (clrS h i a);rw[BX]at p r;have g:((h.K.map (aB.enc .own)).set i (aB.enc .own (mK (nth h.K i) (d9 (nth h.K i) a))))[i]? = some (aB.enc .own (mK (nth h.K i) (d9 (nth h.K i) a))):=kY j;unfold freeS;by_cases y:(mK (nth h.K i) (d9 (nth h.K i) a)).a9=0
 ·cases F:gq h (nth h.K i).Q<;>rw[F]at l
  ·rw[CL ⟨y,rfl⟩]
   refine fM 68 [(524,[2,0])] [(2,274,[26,27,28,29,30,31,32,33,34,35,36,37,38,39,25,40,41,42,0,1,2,3,4,5,6,7,8,9,10,11,12,13,14,15,16,17,18,1016])] [(0,0),(0,0)] Tryz.func426 rfl (λu q=>?_) (.inr tV1)
   repeat'(first|refine gB ?_|with_reducible refine CS ((O1 _ (tdiv16 d.1)).trans (gf ω ω)) ?_|refine CT qs ?_|refine CN (k) ⟨⟨rfl,bX h⟩,⟨rfl,rfl⟩,tV1⟩ ?_|refine CK g ?_|refine CM rfl g rfl ?_|refine CU rfl rfl (aa b) rfl (O2 rfl) rfl ?_|refine CN (l) ⟨r,⟨rfl,rfl⟩,tV1⟩ ?_)
   exact kc
  rw[CJ ψ];rw[BX];refine fM 68 [(524,[2,0])] [(2,274,[26,27,28,29,30,31,32,33,34,35,36,37,38,39,25,40,41,42,0,1,2,3,4,5,6,7,8,9,10,11,12,13,14,15,16,17,18,1016])] [(0,0),(0,0)] Tryz.func426 rfl (λu q=>?_) (.inr tV1)
  repeat'(first|refine gB ?_|with_reducible refine CS ((O1 _ (tdiv16 d.1)).trans (gf ω ω)) ?_|refine CT qs ?_|refine CN (k) ⟨⟨rfl,bX h⟩,⟨rfl,rfl⟩,tV1⟩ ?_|refine CK g ?_|refine CM rfl g rfl ?_|refine CU rfl rfl (aa b) rfl (O2 rfl) rfl ?_|refine CN (l) ⟨r,⟨rfl,rfl⟩,tV1⟩ ?_)
  exact kc
 rw[CJ λx=>y x.1];rw[BX];refine fM 68 [(524,[2,0])] [(2,274,[26,27,28,29,30,31,32,33,34,35,36,37,38,39,25,40,41,42,0,1,2,3,4,5,6,7,8,9,10,11,12,13,14,15,16,17,18,1016])] [(0,0),(0,0)] Tryz.func426 rfl (λu q=>?_) (.inr tV1)
 repeat'(first|refine gB ?_|with_reducible refine CS ((O1 _ (tdiv16 d.1)).trans (gf ω ω)) ?_|refine CT qs ?_|refine CN (k) ⟨⟨rfl,bX h⟩,⟨rfl,rfl⟩,tV1⟩ ?_|refine CK g ?_|refine CM rfl g rfl ?_|refine CU rfl rfl (aa b) rfl (O2 rfl) rfl ?_|refine CN (l) ⟨r,⟨rfl,rfl⟩,tV1⟩ ?_)
 exact kc
def Tw(h:ac)(t:Nat)(c:aE):bR {h with R:=h.R.set t c} = (bR h).set 9 (.s .own ((h.R.map (aE.enc .own)).set t (aE.enc .own c))):=by
 simp[bR,SC]
theorem r7(h:ac)(E:List Int)(t:Nat)(a:Int)(b:aY h (a::E))(w:t<h.R.length):zzB 515 false [.ptr (bR h),.vI (t:Nat),.vI a] [.ptr (bR (recyc t h a)),.vI (t:Nat),.vI a] (.tup []) []:=by
 obtain⟨o,y,p⟩:=b.at (b.hin a ψ);have g:=(b.hin a ψ).bd b;have B:=b.lens;have C:=B.spans;have j:=aJ (b.L.sok _ (ax o));have r:=b.cach _ (ax w);have l:=my h (a / 16) ω;rw[p]at l;have D:=qn h E a b;unfold recyc;generalize w9 h a=i at o y l j;have n:=ar o;have k:=ar w;have d:=Eo (nth h.R t) (nth h.K i).d.toNat a r ω;rw[Int.toNat_of_nonneg j.2.2.1]at d;unfold B0 at d;cases e:cput (nth h.R t) (nth h.K i).d a with
 | none=>
  rw[e]at d;refine fM 46 [(426,[2,0])] [(1,277,[16,17,18,19,20,21,22,23,24,25,26,27,28,29,30,31,32,15,33,34,7,0,1,2,3,4,5,6,7,8,9,10,11,12,13,14,15,16,17,18,19,20,21,1019,22]),(3,6,[36,37,38,39,40,41])] [(0,0),(0,0),(0,0)] Tryz.func515 rfl (λu q=>?_) (.inr tV1)
  repeat'(first|refine gP ?_|with_reducible refine CS ((O1 _ (tdiv16 g.1)).trans (gf ω ω)) ?_|refine CT qs ?_|refine CN (l) ⟨⟨rfl,bX h⟩,⟨rfl,rfl⟩,tV1⟩ ?_|refine CN (d) ⟨⟨rfl,Cm _⟩,⟨rfl,rfl⟩,⟨rfl,rfl⟩,tV1⟩ ?_)
  exact kc
 | some c=>
  rw[e]at d;simp only;rw[Tw];refine fM 46 [(426,[2,0])] [(1,277,[16,17,18,19,20,21,22,23,24,25,26,27,28,29,30,31,32,15,33,34,7,0,1,2,3,4,5,6,7,8,9,10,11,12,13,14,15,16,17,18,19,20,21,1019,22]),(3,6,[36,37,38,39,40,41])] [(0,0),(0,0),(0,0)] Tryz.func515 rfl (λu q=>?_) (.inr tV1)
  repeat'(first|refine gP ?_|with_reducible refine CS ((O1 _ (tdiv16 g.1)).trans (gf ω ω)) ?_|refine CT qs ?_|refine CN (l) ⟨⟨rfl,bX h⟩,⟨rfl,rfl⟩,tV1⟩ ?_|refine CN (d) ⟨⟨rfl,Cm _⟩,⟨rfl,rfl⟩,⟨rfl,rfl⟩,tV1⟩ ?_|refine CU rfl rfl (aa k) rfl (O2 rfl) rfl ?_)
  exact kc
theorem uw(h:ac)(i:Nat)(d:aY h [])(o:i<h.J.length)(t:aN (nth h.J i).k<0):zzB 511 false [.ptr (bR h),.vI (i:Nat)] [.ptr (bR (freeL h i (tG h (nth h.J i).Addr))),.vI (i:Nat)] (.tup []) []:=by
 obtain⟨l,w,y,-⟩:=(dJ d (ax o)).1 t;obtain⟨p,B,c,-⟩:=qr w y;generalize tG h (nth h.J i).Addr=g at p B c;have a:=d.lens;have C:=a.larges;have D:=a.objs;have b:=ar o;have N:=aR (d.L.lok _ (ax p));have E:eQ h<=32:=a.ents;refine fM 89 [(374,[2,0]),(513,[2,0])] [(4,11,[23,24,25,26,27,28,29,30,31,32,33]),(8,7,[41,42,43,44,45,46,47]),(9,273,[50,51,52,53,54,55,56,57,58,59,60,62,49,63,64,65,66,0,1,2,3,4,5,6,7,8,9,10,11,1000,1001,1002,1003,1004,1005,1006,12,13,14,15,16,17,18,1015]),(10,273,[67,68,69,70,71,72,73,74,76,77,78,79,80,81,82,84,85,0,1,2,3,4,5,6,7,9,10,11,12,13,14,15,8,1000,1009,1010,1011,1012,1013,1014,1015,16,1000,17,18,19]),(1048586,0,[7])] [(0,0),(0,0)] Tryz.func511 rfl (λu q=>?_) (.inr tV1)
 refine σP ?_
 refine lp0 g (λk=>[(0,bB (bR h)),(1,fN i),(4,fN k)]) λk O=>?_
 have j:=ar (xs:=h.H) (i:=k) ω;have F:=aR (d.L.lok _ (ax (xs:=h.H) (i:=k) ω));have G:0<=(nth h.J i).Addr/\(nth h.J i).Addr<=512:=ω
 by_cases e:k=g
 ·subst e
  refine σB ?_
  refine lp0 ((nth h.H k).a1.toNat) (λn=>[(0,bB (bR {h with G:=unmN h.G (nth h.H k).Q n})),(1,fN i),(4,fN k),(5,bB (aC.enc .own (nth h.H k))),(6,fN n)]) λn P=>?_
  by_cases Q:n<(nth h.H k).a1.toNat
  ·have H:=qR {h with G:=unmN h.G (nth h.H k).Q n} ((nth h.H k).Q+n) (iI d.ker _ _)
   refine σE ?_
   (exact cV (n+1) ω)
  obtain rfl:n=(nth h.H k).a1.toNat:=ω
  have r:=jF {h with G:=unmN h.G (nth h.H k).Q (nth h.H k).a1.toNat};rw[show eQ {h with G:=unmN h.G (nth h.H k).Q (nth h.H k).a1.toNat} = eQ h from(fY _ _ _).1]at r;have J:=pj (eQ h:Nat) h.o ⟨(nth h.H k).Q,(nth h.H k).a1⟩ ω ⟨by grind [pV.free],λ_ _=>tV1⟩;have K:=q9 {h with G:=unmN h.G (nth h.H k).Q (nth h.H k).a1.toNat,H:=dele h.H k,o:=(cQ (eQ h) h.o ⟨(nth h.H k).Q,(nth h.H k).a1⟩).getD h.o} i o ψ
  repeat'(first|refine gE ?_|refine Le.mk rfl (xS h.H) rfl ?_|refine Cc k rfl (by rw[I2];omega) (aM λ_=>rfl) C8 ?_|refine Cj (k+1) rfl (by rw[I2];omega) (aM λ_=>rfl) I8 ?_|refine Cg (λ_=>rfl) (λ_=>rfl) (by rw[I3];omega) qs ?_|refine Ap.dele (λ_=>rfl) (λ_=>rfl) ω qs ?_|refine CZ (λ_=>rfl) (λ_=>rfl) (by rw[I3];omega) qs ?_|refine CN (r) ⟨bX _,tV1⟩ ?_|refine CN (J) ⟨⟨rfl,rfl⟩,⟨rfl,fm h.o⟩,⟨rfl,rfl⟩,tV1⟩ ?_)
  exact kc
 have M:=c k ω
 refine σB ?_
 (exact cV (k+1) ω)
def UX(q:bv)(x:aV):List C:=bv.enc .own (Rm q x)++de .own (vN q x)
def PG(q:bv)(x:aV):iN (UX q x):=aD (bv.enc_fr _) (oM _)
def Hj(q:bv)(a:aV)(J:q.y.length<=4096)(e:gu q=true)(r:0<=a.d/\a.d<=3/\0<=a.Addr/\0<=a.b5)(t:∀y∈q.y,y.b5<=a.b5)(u:∀y∈q.y,y.Addr≠a.Addr) :
  zzA 514 false [.val (some 2) (bv.enc .S q),.val (some 3) (aV.enc .S a)] (.tup [some 2,none]) (UX q a):=by
 have b:bv.sml q:=⟨ω,λ_ _=>tV1⟩
 have w:=wi q b;have l:=rX q b;rw[e]at l;have n:=FN a;rw[O0 r]at n;have o:=wl q a.Addr b;rw[show q.y.any (eL a.Addr)=false by rw[List.any_eq_false];intro y B;unfold eL;simpa using u y B]at o;have C:=(jD.1 e).2.2.2;have g:=PG q a;have K:(aV.mk a.Addr a.d a.b5)=a:=rfl;have c:=D2 q.b7 (q.y++[a]);simp only[O5,List.length_singleton]at c;by_cases D:q.y.length=0
 all_goals
  try have h:(nth q.y (q.y.length - 1)).b5<=a.b5:=t _ (ax ω)
  try have j:=ar (xs:=q.y) (i:=q.y.length - 1) ω
  try have d:q.y[((q.y.length:Int) - 1).toNat]? = some (nth q.y (q.y.length - 1)):=by rw[show((q.y.length:Int) - 1).toNat=q.y.length - 1 by omega];exact j
  refine fO 74 [(3,27,[15,16,17,18,19,20,21,22,23,24,25,26,27,28,29,30,31,32,33,34,35,36,37,38,39,40,41]),(7,6,[52,53,54,55,56,57]),(9,268,[61,62,63,64,65,66,67,69,70,71,72,73,0,1,2,3,4,5,6,8,9,10,11,12,7,1008,1009,1010,1011,1012,13,14])] Tryz.func514 rfl ?_ (.inr g)
  repeat'(first|refine gE ?_|refine gS (λe=>?_) (λe=>?_)|refine CQ ω (aa d) ?_|refine Cf (aM λ_=>rfl) rfl jp qs (f8 (aV.enc .own) q.y a) ?_)
  refine Lp.fz 8 (ι:=Nat) (λk=>[(2,bB (bv.enc .S q)),(4,bB [I 0,.z]),(8,bJ (de .S (q.y++[a]))),(9,fN k)]) (λk=>k<=ky q.b7 (q.y++[a])) (λk=>ky q.b7 (q.y++[a]) - k) 0 ?_ (I1 _) λk L=>?_
  ·(repeat'(first|exact tV1|rfl|exact CV rfl (show Rr (eJ (de .own (q.y++[a]))) (de .S (q.y++[a])) by rw[Mz];exact m9 _)|refine CV ?_ ?_))
  have M:(q.y++[a]).length=q.y.length+1:=by simp
  have E:((q.y++[a]).drop k).length<=5000:=by rw[C6];omega
  have F:((q.y++[a]).take k).length<=5000:=by rw[I3];omega
  have p:=yq ((q.y++[a]).drop k) ⟨ω,λ_ _=>tV1⟩;by_cases G:k<ky q.b7 (q.y++[a])
  ·have H:q.b7<quarCells ((q.y++[a]).drop k) ((q.y++[a]).drop k).length:=yc G
   repeat'(first|refine gE ?_|refine Cj k rfl (by rw[I2];omega) (aM λ_=>rfl) I8 ?_)
   (exact cV (k+1) ω)
  obtain rfl:k=ky q.b7 (q.y++[a]):=ω
  have H:quarCells ((q.y++[a]).drop (ky q.b7 (q.y++[a]))) ((q.y++[a]).drop (ky q.b7 (q.y++[a]))).length<=q.b7:=zM C.1 _
  repeat'(first|refine gE ?_|refine Cj (ky q.b7 (q.y++[a])) rfl (by rw[I2];omega) (aM λ_=>rfl) I8 ?_|refine Cc (ky q.b7 (q.y++[a])) rfl (by rw[I2];omega) (aM λ_=>rfl) C8 ?_|refine Cg (λ_=>rfl) (λ_=>rfl) ω qs ?_|refine CZ (λ_=>rfl) (λ_=>rfl) ω qs ?_)
  rfl
def mh{z:Int}(h:0<=z/\z<512):IntKind.i64.wrap (z.tdiv 16)=z / 16:=(O1 _ (tdiv16 h.1)).trans (gf ω ω)
def pN(a:aY h E)(b:o∈h.J):0<=o.Addr/\o.Addr<512:=by
 rcases a.oow o b with⟨s,c,⟨f,g,-⟩,-⟩|⟨l,d,e,-⟩
 ·have:=aJ (a.L.sok s c);omega
 have:=aR (a.L.lok l d);omega
theorem GV{k:Int}(h:0<=k/\k<=3):1<=csz k/\csz k<=8:=by grind [bT]
structure YB(h:ac)(o:bg):Prop where
 cl:0<=aN o.k/\aN o.k<=3
 fr:0<=(af h.G.F.O (o.Addr / 16)).j/\(af h.G.F.O (o.Addr / 16)).j<h.G.F.V.T.length
 fit:o.Addr % 16+csz (aN o.k)<=16
 row:(nth h.G.F.V.T (cW h.G o.Addr)).length=16
theorem YB.of(a:aY h E)(i:o∈h.J)(k:¬aN o.k<0):YB h o:=by
 obtain⟨⟨s,j,b,r⟩,t⟩:=(dJ a i).2 k;have l:=aJ (a.L.sok s j);have n:=pN a i;have u:s.Q=o.Addr / 16:=by have w:=b.1;have y:=b.2.1;omega
 have c:(o.Addr / 16).toNat<(tbl h).M.length:=by have:=a.pg.bnd _ (fw (la:=h.H) j);omega
 have d:(((o.Addr / 16).toNat:Nat):Int)=o.Addr / 16:=ω
 have A:=(a.pg.own _ c).2 (by grind [fw]);have e:(af h.G.F.O (o.Addr / 16)).e≠0:=by grind [gR,tbl]
 obtain⟨-,-,-,f,p⟩:=bD a.ker e;have q:=(bi.1 (aH.1 a.ker).2.1).2.2.1;have g:cW h.G o.Addr<h.G.F.V.T.length:=by unfold cW;omega
 refine⟨ω,⟨f,ω⟩,?_,a.lens.row _ (ax g)⟩;have B:=b.2.2.1
 grind [bT]
theorem HZ(h:ac)(a:Int)(b:cW h.G a<h.G.F.V.T.length):({h with G:=eI h.G a 0} : ac)=h:=by
 have e:h.G.F.V.T.set (cW h.G a) (nth h.G.F.V.T (cW h.G a))=h.G.F.V.T:=by
  refine List.ext_getElem? λi=>?_
  grind [ar]
 unfold eI ju;rw[e]
def Ll(h:ac)(a:Int)(k:Nat)(v:Int)(_:0<=a):bR {h with G:=eI h.G a (k+1)} = (bR {h with G:=eI h.G a k}).set 0 (.s .own (((eI h.G a k).F.V.T.map (aF .own)).set (af h.G.F.O (a / 16)).j.toNat ((aF .own (ju (nth h.G.F.V.T (cW h.G a)) (a % 16).toNat k)).set 0 (.s .own (((ju (nth h.G.F.V.T (cW h.G a)) (a % 16).toNat k).map (rI .own)).set (a % 16+k).toNat (splice (rI .own v) 0 [I 0])))))):=by
 have e:(a % 16+k).toNat=(a % 16).toNat+k:=ω
 rw[e];simp[bR,eI,SC,ju,aF,splice,cW]
 rfl
theorem yn(t:Nat)(h:ac)(xs:List aV)(k:Nat)(a:k<xs.length):recycs t h ((xs.take (k+1)).map (·.Addr))=recyc t (recycs t h ((xs.take k).map (·.Addr))) (nth xs k).Addr:=by grind [CB,ar,recycs]
theorem Nc(h:ac)(o:bg)(t:Nat)(a:aY h [])(M:o∈h.J)(ht:o.a2=t)(hlc:h.R.length<=4):zzB 416 false [.ptr (bR h),.vI (t:Nat),.vI o.Addr] [.ptr (bR (freeOb h t (lD h o.Addr)).1),.vI (t:Nat),.vI o.Addr] .one [I (freeOb h t (lD h o.Addr)).2]:=by
 obtain⟨g,w,B⟩:=a.objAt M;have b:=pN a M;have hon:=a.onu o M;have C:=a.lens;have hno:=C.objs;have N:t<h.R.length:=ω
 have K:=aQ (t:Nat) 0 (h.R.length - 1:Int);rw[O0 ω]at K;have D:=uV h o.Addr ω;rw[B]at D;generalize lD h o.Addr=i at g w D;subst w;have p:=ar g;have O:=nk (nth h.J i).k;unfold freeOb;have P:=bj a.ker;have W:=ee h.G.F.O ((nth h.J i).Addr / 16) P.1.2;by_cases r:aN (nth h.J i).k<0
 ·rw[CL r]
  have c3:=uw h i a g r;refine fM 148 [(511,[2,0]),(513,[2,0]),(515,[2,0,0]),(510,[2,0])] [(15,269,[68,69,70,71,72,73,74,75,77,67,78,79,11,0,1,2,3,4,5,6,7,13,8,1000,1001,1002,1003,1004,1013,9,10,11,12,14,1012,15]),(22,15,[92,93,94,95,96,97,98,99,100,101,102,103,104,105,106]),(25,271,[116,117,118,119,120,121,122,123,124,125,127,115,128,129,14,0,1,2,3,4,5,6,7,8,9,15,10,1000,1001,1002,1003,1015,11,12,13,14,16,1014,17])] [(0,0),(0,0),(0,0)] Tryz.func416 rfl (λu q=>?_)
  repeat'(first|refine gE ?_|refine gS (λj=>?_) (λj=>?_)|refine CN (D) ⟨⟨rfl,bX h⟩,⟨rfl,rfl⟩,tV1⟩ ?_)
  exact kc
 rw[CJ r];obtain⟨Q,s2,s3,s4⟩:=YB.of a (ax g) r;by_cases L:(af (tbl h) ((nth h.J i).Addr / 16)).e=1
 ·rw[CL L]
  unfold tbl at L;refine fM 148 [(511,[2,0]),(513,[2,0]),(515,[2,0,0]),(510,[2,0])] [(15,269,[68,69,70,71,72,73,74,75,77,67,78,79,11,0,1,2,3,4,5,6,7,13,8,1000,1001,1002,1003,1004,1013,9,10,11,12,14,1012,15]),(22,15,[92,93,94,95,96,97,98,99,100,101,102,103,104,105,106]),(25,271,[116,117,118,119,120,121,122,123,124,125,127,115,128,129,14,0,1,2,3,4,5,6,7,8,9,15,10,1000,1001,1002,1003,1015,11,12,13,14,16,1014,17])] [(0,0),(0,0),(0,0)] Tryz.func416 rfl (λu q=>?_)
  repeat'(first|refine gB ?_|refine gS (λj=>?_) (λj=>?_)|refine CT qs ?_|refine CS (mh b) ?_|refine CN (D) ⟨⟨rfl,bX h⟩,⟨rfl,rfl⟩,tV1⟩ ?_|refine CN (W) ⟨⟨rfl,Cp _⟩,⟨rfl,rfl⟩,tV1⟩ ?_)
  exact kc
 rw[CJ L];unfold tbl at L;have E:cW h.G (nth h.J i).Addr<h.G.F.V.T.length:=by unfold cW;omega
 have hcz:=GV Q;have l:=a.inQuar g r;have F:=ef (aN (nth h.J i).k);refine fM 148 [(511,[2,0]),(513,[2,0]),(515,[2,0,0]),(510,[2,0])] [(15,269,[68,69,70,71,72,73,74,75,77,67,78,79,11,0,1,2,3,4,5,6,7,13,8,1000,1001,1002,1003,1004,1013,9,10,11,12,14,1012,15]),(22,15,[92,93,94,95,96,97,98,99,100,101,102,103,104,105,106]),(25,271,[116,117,118,119,120,121,122,123,124,125,127,115,128,129,14,0,1,2,3,4,5,6,7,8,9,15,10,1000,1001,1002,1003,1015,11,12,13,14,16,1014,17])] [(0,0),(0,0),(0,0)] Tryz.func416 rfl (λu q=>?_)
 repeat'(first|refine gB ?_|refine gS (λj=>?_) (λj=>?_)|refine CT qs ?_|refine CS (mh b) ?_|refine CN (D) ⟨⟨rfl,bX h⟩,⟨rfl,rfl⟩,tV1⟩ ?_|refine CN (W) ⟨⟨rfl,Cp _⟩,⟨rfl,rfl⟩,tV1⟩ ?_)
 rw[show bR h=bR {h with G:=eI h.G (nth h.J i).Addr 0} by rw[HZ h _ E]]
 (conv=>whnf)
 refine lp0 ((csz (aN (nth h.J i).k)).toNat) (λk=>[(0,bB (bR {h with G:=eI h.G (nth h.J i).Addr k})),(1,fN t),(2,fI ((nth h.J i).Addr)),(7,fN i),(8,bB (bg.enc .own (nth h.J i))),(9,fI (aN (nth h.J i).k)),(10,bB (bo.enc .own (af h.G.F.O ((nth h.J i).Addr / 16)))),(13,fN k)]) λk hk=>?_
 have X:IntKind.i64.wrap 0=0:=rfl;have R:(nth h.J i).Addr.tmod 16=(nth h.J i).Addr % 16:=eR b.1;have n:(eI h.G (nth h.J i).Addr k).F.V.T[(af h.G.F.O ((nth h.J i).Addr / 16)).j.toNat]? = some (ju (nth h.G.F.V.T (cW h.G (nth h.J i).Addr)) ((nth h.J i).Addr % 16).toNat k):=O6 E;by_cases S:k<(csz (aN (nth h.J i).k)).toNat
 ·have G:=ar (xs:=ju (nth h.G.F.V.T (cW h.G (nth h.J i).Addr)) ((nth h.J i).Addr % 16).toNat k) (i:=((nth h.J i).Addr % 16+k).toNat) (by grind [n9])
  repeat'(first|refine gE ?_|refine CT qs ?_|refine CX R ?_|refine CQ s2.1 (aa n) ?_|refine CQ ω (aa G) ?_|refine Pu.two rfl rfl (aa n) rfl rfl rfl (aa G) rfl (C5 _) (Ll h _ k _ b.1) ?_)
  (exact cV (k+1) ω)
 obtain rfl:k=(csz (aN (nth h.J i).k)).toNat:=ω
 have c5:=q9 {h with G:=eI h.G (nth h.J i).Addr (csz (aN (nth h.J i).k)).toNat} i g ψ;have d:=a.nums;unfold cI at d;rw[C0]at d;have H:=(a.dropO g (k7.any (c:=aN (nth h.J i).k) (by obtain⟨⟨s,hs,k1,k2⟩,-⟩:=(dJ a (ax g)).2 r;exact⟨s,hs,k1,.inr k2⟩))).nd;rw[List.cons_append,List.nil_append]at H;have Y:=Hj h.a7 (jS h (nth h.J i)) (by grind [pV.quar]) a.quar ⟨Q.1,Q.2,b.1,d.2.2.1⟩ (λy Z=>a.snc y Z) (λy Z e=>(List.nodup_cons.1 H).1 (by rw[show(nth h.J i).Addr=y.Addr from e.symm];grind [holders]));unfold UX at Y;have T:(vN h.a7 (jS h (nth h.J i))).length<=513:=by grind [pV.quar,vN]
 repeat'(first|refine gB ?_|refine gS (λj=>?_) (λj=>?_)|refine CN (Y) ⟨⟨rfl,bv.enc_fz h.a7⟩,⟨rfl,rfl⟩,tV1⟩ ?_)
 have U:Fa h t i=recycs t (inQuar h i) ((vN h.a7 (jS h (nth h.J i))).map (·.Addr)):=rfl;simp only;rw[U];have hqn:(inQuar h i).R.length=h.R.length:=rfl;generalize vN h.a7 (jS h (nth h.J i))=out at l T
 (conv=>whnf)
 refine lp0 out.length (λk=>[(0,bB (bR (recycs t (inQuar h i) ((out.take k).map (·.Addr))))),(1,fN t),(15,bJ (de .own out)),(16,fN k)]) λk hk=>?_
 by_cases S:k<out.length
 ·have J:=ar S
  have hsp:out.map (·.Addr)=(out.take k).map (·.Addr)++(nth out k).Addr::(out.drop (k+1)).map (·.Addr):=by grind [List.take_append_drop,gZ]
  have V:aY (recycs t (inQuar h i) ((out.take k).map (·.Addr))) ((nth out k).Addr::(out.drop (k+1)).map (·.Addr)):=aY.recycs ψ N;have c7:=r7 _ _ t _ V (by grind [fH])
  refine σE ?_
  (refine CR (k+1) ω ω ?_)
  rw[yn t _ out k S];exact wB
 obtain rfl:k=out.length:=ω
 rw[S9]
 refine σE ?_
 exact kc
def oE(rows:List (List C)):C:=match rows with|[]=>.s .S []|_=>.s .own rows
theorem sG(h:rows≠[]):oE rows=.s .own rows:=by cases rows with|nil=>exact absurd rfl h|cons=>rfl
theorem wY{P:Program}(w:World)(t e k:Nat)(z:Value)(g:P.underlying t=some (.slice e))(h:∀w,(zeroValue e).run P w=.ok z w)(i:z.cells.size=k)(h1:∀v∈z.cells.toList,v.oneCell'=true)(b o n:Nat)(p:0<n)(l:0<k)(q:∀j,j<n*k->(w.cell? ⟨b,o+j,none⟩).isSome=true)(r:∀j,j<n*k->w.frozen? ⟨b,o+j,none⟩ = false) :
  ∃zs:List Value,zs.length=n*k/\(∀v∈zs,v.oneCell'=true)/\∀(ty:TypeId)(c:Nat),(Builtin.clear_ #[t] ty #[.slice (some ⟨b,o,none⟩) n c]).run P w=.ok (.tuple #[]) (w.setCells b o zs):=by
 subst i;have d:(Builtin.zeroCells z.cells n).toList.length=n*z.cells.size:=by grind [Go.Builtin.zeroCells]
 have a:∀v∈(Builtin.zeroCells z.cells n).toList,v.oneCell'=true:=by grind [Nat.mod_lt,Go.Builtin.zeroCells]
 refine⟨_,d,a,λty c=>?_⟩;have f:=run_storeCells_cells (P:=P) b o (Builtin.zeroCells z.cells n).toList 0 w ψ ψ a;simp only[Nat.add_zero]at f;obtain⟨m,rfl⟩ : ∃m,n=m+1:=⟨n - 1,ω⟩
 simp[Builtin.clear_,run_underlying g,h,f]
structure mz(w w':World)(g k n i:Nat):Prop where
 keep:bH (λb o=>b=g/\o<n*k) w w'
 lo:∀q,q<i*k->cel w' g q=cel w g q
 mid:∀q,i*k<=q->q<(n - 1)*k->cel w' g q=cel w g (q+k)
 hi:∀q,(n - 1)*k<=q->q<n*k->∃z,cel w' g q=some z/\z.oneCell'=true
 fro:∀b q,fro w' b q=fro w b q
theorem bH.up{M a:am}{w c:World}(h:bH M w c)(d:∀b o,M b o->a b o):bH a w c:=(Cr a w).trans h ψ
def An(w:World):bH NO w w.drew:=⟨rfl,rfl,rfl,C5 _,λ_ _ _=>rfl,λ_ _ _ _=>rfl,λ_ _ _ _=>rfl⟩
theorem RD{w:World}{g k:Nat}{news zs:List Value}(f:i<n)(d:∀q,q<n*k->∃z,cel w g q=some z)(G:news.length=(n - (i+1))*k)(c:∀t u,news[t]? = some u->cel w g ((i+1)*k+t)=some u)(H:zs.length=k)(l:∀v∈zs,v.oneCell'=true) :
  mz w ((w.drew.setCells g (i*k) news).setCells g ((n - 1)*k) zs) g k n i:=by
 have J:i*k+(n - (i+1))*k=(n - 1)*k:=by rw[<-Nat.add_mul];congr 1;omega
 have K:(n - 1)*k+k=n*k:=by rw[show(n - 1)*k+k=(n - 1+1)*k by rw[Nat.add_mul,Nat.one_mul]];congr 1;omega
 have L:(i+1)*k=i*k+k:=ψ
 have p:∀b q,cel w.drew b q=cel w b q:=λ_ _=>rfl
 have a:∀j,j<news.length->∃z,cel w.drew g (i*k+j)=some z:=λj r=>by rw[p];exact d _ ω
 have y:∀q,q<n*k->∃z,cel (w.drew.setCells g (i*k) news) g q=some z:=λq A=>by
  by_cases h:i*k<=q/\q<i*k+news.length
  ·have:=bz a (z4 (show q - i*k<news.length by omega))
   grind
  grind [bn]
 refine⟨?_,λq A=>?_,λq B C=>?_,λq B C=>?_,λb q=>?_⟩
 ·have D:=fG (g:=g) (X:=λb o=>b=g/\o<n*k) news (i*k) w.drew ω
  have E:=fG (g:=g) (X:=λb o=>b=g/\o<n*k) zs ((n - 1)*k) (w.drew.setCells g (i*k) news) ω;exact((An w).up λ_ _ h=>h.elim).trans (D.trans E λ_ _ h=>.inr h) λ_ _ h=>.inr h
 ·grind [bn]
 ·rw[bn ω]
  obtain⟨u,e⟩ : ∃u,news[q - i*k]? = some u:=⟨_,z4 ω⟩
  have F:=bz a e;have M:=c _ u e
  grind
 ·obtain⟨u,e⟩ : ∃u,zs[q - (n - 1)*k]? = some u:=(ψ)
  have F:=bz (w:=w.drew.setCells g (i*k) news) (o:=(n - 1)*k) (vs:=zs) (λj r=>y _ ω) e
  grind
 rw[cu,cu];rfl
def XX(rows:List (List C)):Prop:=∀r∈rows,∀c∈r,∃z,c=.v z
def xm(P:Program)(f k:Nat):Prop:=NL P f/\∀(w:World)(g n a i:Nat)(news:List Value),i<n->n<=a->news.length=(n - (i+1))*k->(∀t u,news[t]? = some u->cel w g ((i+1)*k+t)=some u)->(∀u∈news,u.oneCell'=true)->
 (∀q,q<n*k->(w.cell? ⟨g,q,none⟩).isSome=true/\w.frozen? ⟨g,q,none⟩ = false)->
 Calls P f #[.slice (some ⟨g,0,none⟩) n a,.int .i64 i,.int .i64 ((i+1:Nat):Int)] w λe c=>e=.returned (.slice (some ⟨g,0,none⟩) (n - 1) a)/\∃b:List Value,b.length=k/\(∀v∈b,v.oneCell'=true)/\c=(w.drew.setCells g (i*k) news).setCells g ((n - 1)*k) b
theorem AA{P:Program}{f k:Nat}(hf:xm P f k)(hi:i<rows.length)(hk:∀r∈rows,r.length=k)(T:VI rows) :
  aU P f false [.mut none [.s .own rows],.vI (i:Nat),.vI ((i+1:Nat):Int)] [.mut none [.x],.vI (i:Nat),.vI ((i+1:Nat):Int)] .one [oE (dele rows i)]:=by
 refine⟨hf.1,λw S V vs hS hV hVV U=>?_⟩
 match vs,U with
 | [v,v1,v2],⟨U,W,X,_⟩=>
  have l:=(bL.rep1 (show bL w S (V 0) none [C.s .own rows] v from U)).fresh ⟨.inl (λe=>by cases e),T⟩;have e1:v1=.int .i64 (i:Nat):=by
   have:=bL.rep1 (show bL w S NO none [C.v (.int .i64 (i:Nat))] v1 from W);cases this;rfl
  have e2:v2=.int .i64 ((i+1:Nat):Int):=by
   have:=bL.rep1 (show bL w S NO none [C.v (.int .i64 ((i+1:Nat):Int))] v2 from X);cases this;rfl
  subst e1 e2;have H:(dele rows i).length=rows.length - 1:=by grind [dele]
  generalize J:C.s .own rows=cc at l;cases l with
  | nil _ o a ho=>grind
  | own _ o g d n j Y u f' ho hn B p hpos hF hu hff hd hc=>
   cases J;have Z:d=k:=by rw[<-B _ (List.getElem_mem hi),<-hk _ (List.getElem_mem hi)]
   subst Z;have hnk:n*d<=j*d:=IF _ p;have hone:∀q,q<j*d->∃z,cel w g q=some z/\z.oneCell'=true:=ψ
   have e3:(i+1)*d+(n - (i+1))*d=n*d:=by rw[<-Nat.add_mul];congr 1;omega
   obtain⟨news,K,L,hn1⟩ : ∃news:List Value,news.length=(n - (i+1))*d/\(∀t u,news[t]? = some u->cel w g ((i+1)*d+t)=some u)/\∀u∈news,u.oneCell'=true:=by
    refine⟨(List.range ((n - (i+1))*d)).map λt=>(cel w g ((i+1)*d+t)).getD undef,by simp,λt y ht=>?_,λy hy=>?_⟩
    all_goals grind
   refine(hf.2 w g n j i news ω p K L hn1 (λq D=>?_)).mono λe A ⟨he,zs,z1,z2,hw'⟩=>?_
   ·grind
   have R:=RD (w:=w) (by omega:i<n) ψ K L z1 z2;rw[<-hw']at R;have hgV:∀q,q<j*d->V 0 g q:=ψ
   have E:bH (λb o=>∃i,V i b o) w A:=R.keep.up ψ;have e4:(n - 1)*d+d=n*d:=by rw[show(n - 1)*d+d=(n - 1+1)*d by rw[Nat.add_mul,Nat.one_mul]];congr 1;omega
   have F:∀q,q<j*d->∃z,cel A g q=some z/\z.oneCell'=true:=λq D=>by
    by_cases h1:q<i*d
    ·grind [mz.lo]
    by_cases h2:q<(n - 1)*d
    ·rw[R.mid q ω h2];grind
    grind [mz.hi,bH.cel,mz.keep]
   have M:dz A NO (V 0) [oE (dele rows i)] (λ_=>.slice (some ⟨g,0,none⟩) (n - 1) j):=by
    refine row1 ?_;by_cases hz:dele rows i=[]
    ·rw[hz]
     have hn0:n - 1=0:=ψ
     rw[hn0];exact .S _ g 0 d 0 j [] (λ_=>undef) rfl ψ (I1 _) ω ψ
    rw[sG hz];have G:0<n - 1:=ψ
    obtain⟨σ,hσ⟩ : ∃σ:Nat->Nat,∀q,σ q=if q<i*d then q else q+d:=⟨_,λ_=>rfl⟩
    have s1:∀q,q<(n - 1)*d->σ q<n*d:=ψ
    have s2:∀q q',q≠q'->σ q≠σ q':=ψ
    have s3:∀q,q<(n - 1)*d->cel A g q=cel w g (σ q):=λq D=>by grind [mz.lo,mz.mid]
    refine .own _ .own g d (n - 1) j _ (λq=>(cel A g q).getD undef) (λq=>f' (σ q)) tV1 (by rw[H];omega) (λr hr=>B r ((gl ..).subset hr)) ω G (λq D=>⟨hgV q D,F q D,(R.fro g q).trans (hF q D).2.2⟩) (λq D=>?_) ψ ψ (λa b r c N hb=>?_)
    ·grind
    have hbk:b<d:=by grind [gl]
    have hal:=(C4.1 N).1;rw[H]at hal;have hflat:a*d+b<(n - 1)*d:=fx ω hbk;obtain⟨O,h5,h6⟩ : ∃O,rows[O]? = some r/\σ (a*d+b)=O*d+b:=by
     rw[hσ];unfold dele at N;by_cases h1:a<i
     ·grind [I3,fx]
     rw[v9 ψ,I3,List.getElem?_drop]at N;rw[show i+1+(a - min i rows.length)=a+1 by omega]at N;have:i*d<=a*d:=IF _ ω;refine⟨a+1,N,?_⟩;rw[CJ ω,Nat.add_mul,Nat.one_mul];omega
    have h7:=hc O b r c h5 hb;have Q:=uQ hn B h5 hb;have hfl:=fx Q.1 Q.2;have h8:(cel A g (a*d+b)).getD undef=u (O*d+b):=ψ
    show fj A NO (f' (σ (a*d+b))) c ((cel A g (a*d+b)).getD undef);rw[h8,h6];refine h7.keep (λ_ _ h=>h.elim) λb' o' hb'=>?_
    grind [bH.cel,mz.keep,mz.fro]
   exact⟨_,he,E,V 0,λ_=>NO,NO,ψ,λ_ _ _ h=>h.elim,λ_ _ h=>h.elim,λ_ _ _ _ _ h=>h.elim,λ_ _ _ _ h=>h.elim,λ_ _ _ h=>h.elim,λ_ _ _ h=>h.elim,rfl,M,⟨⟨rfl,λ_=>.slice (some ⟨g,0,none⟩) n j,rfl,row1 (.x _ _ rfl)⟩,tV1,tV1,tV1⟩⟩
  | _=>cases J
end Go.Proofs.YtiopgblagimpmaaGreat.Ab
