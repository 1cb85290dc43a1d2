/- Each slot in use has one holder, as the program asks it: the contract of holdersOk. No condition. -/
import Derived.Test.YtiopgblagimpmaaGreatKAc
import Derived.Test.YtiopgblagimpmaaGreatKAd
import Derived.WalkKit
import Derived.Lib.SliceRun
set_option linter.unusedVariables false
set_option linter.defProp false
set_option linter.unusedSimpArgs false
set_option linter.constructorNameAsVariable false
namespace Go.Proofs.YtiopgblagimpmaaGreat.Ab
open Go.RowKit
set_option maxRecDepth 20000
set_option maxHeartbeats 8000000
def tn(h:ac)(a:aQ):Bool:=iw h a&&decide (a.b2<=h.a8)
def ny(h:ac):List Int:=((cH h++h.a3.q.map (·.Addr))++aU h.j)++h.M.map (·.Addr)
def kE(h:ac):Bool:=((h.T.all (fw h)&&h.a3.q.all (tn h))&&(aU h.j).all (l7 h))&&(oW h.K h.J).all λa=>decide ((ny h).count a=1)
variable{h:ac}
theorem QY(h1:h.T.all (fw h)=false):kE h=false:=by grind [kE]
theorem Lj(h1:h.a3.q.all (tn h)=false):kE h=false:=by grind [kE]
theorem Q0(h1:(aU h.j).all (l7 h)=false):kE h=false:=by grind [kE]
theorem QS(h1:((oW h.K h.J).all λa=>decide ((ny h).count a=1))=false):kE h=false:=by grind [kE]
variable{la:List aD}{sp:List aA}
theorem L8(h1:sp.length<=1048576)(a:la.length<=1048576):(oW sp la).length<=100000000:=by
 have b:∀(l:List aA),(fR l).length<=16*l.length:=by
  intro l
  induction l with
  | nil=>exact X0 _
  | cons s l c=>
   have e:fR (s::l)=eL s (slots s.Z).toNat++fR l:=by grind [fR]
   have d:=ug s.Z
   grind [u9]
 grind [xD,oW,live0]
theorem zZ(h:ac)(hs:ac.sml h)(P:bx h.K h.J=true)(G:bB h.j=true)(Z:∀c∈h.T,bz c=true):zzA 82 false [.val (some 24) (ac.enc .S h)] .one [B (kE h)]:=by
 obtain⟨-,-,p,r,hso,hsc,hsm,hsq,-⟩:=hs;have hlo:h.M.length<=1048576:=hso.1;have hlc:h.T.length<=1048576:=hsc.1;have hlq:h.a3.q.length<=1048576:=hsq.1;have hfl:=tF G;have t:kE h=false->[B false]=[B (kE h)]:=λe=>by rw[e]
 refine fP 114 [(236,[0,0,2,2])] [] Tryz.func82 rfl ?_
 refine ZP ?_
 refine CF (ι:=Nat × List (Int × Value) × List Int) (λi=>[(1,.G .box (ac.enc .S h)),(3,.G .box [.m i.2.1]),(4,.fn 236 [3,1]),(22,.G .one (pE .S h.T)),(23,.G .one [I (h.T.length)]),(24,.G .one [I ((i.1:Nat):Int)])]) (λi=>i.1<=h.T.length/\rr i.2.1 i.2.2/\i.2.2=((h.T.take i.1).flatMap λc=>c.X.flatten)/\(h.T.take i.1).all (fw h)=true/\i.2.2.length<=32*i.1) (λi=>h.T.length - i.1) ((0,[],[])) ?_ (⟨X0 _,Md,rfl,rfl,X0 _⟩) λi hi=>?_
 ·exact wB
 obtain⟨i,es,L⟩:=i;obtain⟨hi,Q,hL,ai,hb⟩:=hi;simp only at hi Q hL ai hb |-;by_cases li:i<h.T.length
 ·have W:=ar li
  obtain⟨h4,h8⟩:=wJ (Z _ (au li))
  refine ZE ?_
  refine CF (ι:=Nat × List (Int × Value) × List Int) (λk=>[(1,.G .box (ac.enc .S h)),(3,.G .box [.m k.2.1]),(4,.fn 236 [3,1]),(22,.G .one (pE .S h.T)),(23,.G .one [I (h.T.length)]),(24,.G .one [I ((i:Nat):Int)]),(29,.G .one (jV .S (nth h.T i).X)),(30,.G .one [I ((nth h.T i).X.length)]),(31,.G .one [I ((k.1:Nat):Int)])]) (λk=>k.1<=(nth h.T i).X.length/\rr k.2.1 k.2.2/\k.2.2=L++((nth h.T i).X.take k.1).flatten/\df k.1 (t7 h (nth h.T i))=true/\k.2.2.length<=L.length+8*k.1) (λk=>(nth h.T i).X.length - k.1) ((0,es,L)) ?_ (⟨X0 _,Q,by simp,rfl,by simp⟩) λk hk=>?_
  ·exact wB
  obtain⟨k,es3,X⟩:=k;obtain⟨hk,F,R,ak,hb3⟩:=hk;simp only at hk F R ak hb3 |-;by_cases lk:k<(nth h.T i).X.length
  ·have hy:=ar lk
   have hl8:=h8 _ (au lk)
   refine ZE ?_
   refine CF (ι:=Nat × List (Int × Value) × List Int) (λj=>[(1,.G .box (ac.enc .S h)),(3,.G .box [.m j.2.1]),(4,.fn 236 [3,1]),(7,.G .one [I ((k:Nat):Int)]),(22,.G .one (pE .S h.T)),(23,.G .one [I (h.T.length)]),(24,.G .one [I ((i:Nat):Int)]),(29,.G .one (jV .S (nth h.T i).X)),(30,.G .one [I ((nth h.T i).X.length)]),(31,.G .one [I ((k:Nat):Int)]),(36,.G .one (aG .S (nth (nth h.T i).X k))),(37,.G .one [I ((nth (nth h.T i).X k).length)]),(38,.G .one [I ((j.1:Nat):Int)])]) (λj=>j.1<=(nth (nth h.T i).X k).length/\rr j.2.1 j.2.2/\j.2.2=X++(nth (nth h.T i).X k).take j.1/\((nth (nth h.T i).X k).take j.1).all (λa=>dx h a (k:Nat))=true) (λj=>(nth (nth h.T i).X k).length - j.1) ((0,es3,X)) ?_ ψ λj hj=>?_
   ·exact wB
   obtain⟨j,es4,S⟩:=j;obtain⟨hj,l,T,Y⟩:=hj;simp only at hj l T Y |-;have hl4:S.length=X.length+j:=ψ
   by_cases lj:j<(nth (nth h.T i).X k).length
   ·have d:=ar lj
    have b:=E7 h p r es4 S (nth (nth (nth h.T i).X k) j) (k:Nat) l ω;cases o:dx h (nth (nth (nth h.T i).X k) j) (k:Nat)<;>rw[o]at b
    ·refine ZE ?_
     exact t (QY (gG W (by unfold fw;exact cB lk (gG d o))))
    refine ZE ?_
    ((conv=>whnf)
     refine CD (j+1,inc es4 S (nth (nth (nth h.T i).X k) j),S++[nth (nth (nth h.T i).X k) j]) ⟨(by simp only;omega),qF l _,(by grind [X5]),cX d Y o⟩ (by simp only;omega) ?_
     (exact wA))
   obtain rfl:j=(nth (nth h.T i).X k).length:=ω
   rw[I5]at T Y
   refine ZE ?_
   (refine CD (k+1,es4,S) ⟨(by simp only;omega),l,(by grind [z8]),bV ak Y,(by simp only;omega)⟩ (by simp only;omega) ?_;(exact wB))
  obtain rfl:k=(nth h.T i).X.length:=ω
  rw[I5]at R
  refine ZE ?_
  (refine CD (i+1,es3,X) ⟨(by simp only;omega),F,(by grind [vU]),cX W ai ak,(by simp only;omega)⟩ (by simp only;omega) ?_;(exact wB))
 obtain rfl:i=h.T.length:=ω
 rw[I5]at hL ai
 refine ZE ?_
 refine CF (ι:=Nat × List (Int × Value) × List Int) (λq=>[(1,.G .box (ac.enc .S h)),(3,.G .box [.m q.2.1]),(4,.fn 236 [3,1]),(52,.G .one (cr .S h.a3.q)),(53,.G .one [I (h.a3.q.length)]),(54,.G .one [I ((q.1:Nat):Int)])]) (λq=>q.1<=h.a3.q.length/\rr q.2.1 q.2.2/\q.2.2=L++(h.a3.q.take q.1).map (·.Addr)/\(h.a3.q.take q.1).all (tn h)=true) (λq=>h.a3.q.length - q.1) ((0,es,L)) ?_ ψ λq u=>?_
 ·exact wB
 obtain⟨q,es5,H⟩:=q;obtain⟨w,y,E,aq⟩:=u;simp only at w y E aq |-;have hl5:H.length=L.length+q:=ψ
 by_cases U:q<h.a3.q.length
 ·have d:=ar U
  have b:=E7 h p r es5 H (nth h.a3.q q).Addr (nth h.a3.q q).Z y ω;cases o:dx h (nth h.a3.q q).Addr (nth h.a3.q q).Z<;>rw[o]at b
  ·repeat'(first|refine gE ?_|with_reducible refine Bf.D (λu=>?_) (λu=>?_))
   all_goals exact t (Lj (gG d (by unfold tn iw;rw[o];rfl)))
  repeat'(first|refine gE ?_|with_reducible refine Bf.D (λu=>?_) (λu=>?_))
  all_goals first
   |exact t (Lj (gG d (by unfold tn iw;rw[o,W0 ω];rfl)))
   | ((conv=>whnf)
      refine CD (q+1,inc es5 H (nth h.a3.q q).Addr,H++[(nth h.a3.q q).Addr]) ⟨(by simp only;omega),qF y _,(by simp only;rw[E,X5,d,Z5,Y5];rfl),cX d aq (by unfold tn iw;rw[o,O0 ω];rfl)⟩ (by simp only;omega) ?_
      (exact wA))
 obtain rfl:q=h.a3.q.length:=ω
 rw[I5]at E aq
 repeat'(first|refine gE ?_|refine C8 (A4 h.j hsm) ?_)
 refine CF (ι:=Nat × List (Int × Value) × List Int) (λq=>[(1,.G .box (ac.enc .S h)),(3,.G .box [.m q.2.1]),(4,.fn 236 [3,1]),(75,.G .one (aG .own (aU h.j))),(76,.G .one [I ((aU h.j).length)]),(77,.G .one [I ((q.1:Nat):Int)])]) (λq=>q.1<=(aU h.j).length/\rr q.2.1 q.2.2/\q.2.2=H++(aU h.j).take q.1/\((aU h.j).take q.1).all (l7 h)=true) (λq=>(aU h.j).length - q.1) ((0,es5,H)) ?_ ψ λq u=>?_
 ·exact wB
 obtain⟨q,es6,J⟩:=q;obtain⟨w,C,K,aq6⟩:=u;simp only at w C K aq6 |-;have hl6:J.length=H.length+q:=ψ
 by_cases U:q<(aU h.j).length
 ·have d:=ar U
  have b:=E7 h p r es6 J (nth (aU h.j) q) (-1) C ω;cases o:dx h (nth (aU h.j) q) (-1)<;>rw[o]at b
  ·refine ZE ?_
   exact t (Q0 (gG d o))
  refine ZE ?_
  ((conv=>whnf)
   refine CD (q+1,inc es6 J (nth (aU h.j) q),J++[nth (aU h.j) q]) ⟨(by simp only;omega),qF C _,(by grind [X5]),cX d aq6 o⟩ (by simp only;omega) ?_
   (exact wA))
 obtain rfl:q=(aU h.j).length:=ω
 rw[I5]at K aq6
 refine ZE ?_
 refine CF (ι:=Nat × List (Int × Value) × List Int) (λq=>[(1,.G .box (ac.enc .S h)),(3,.G .box [.m q.2.1]),(87,.G .one (nI .S h.M)),(88,.G .one [I (h.M.length)]),(89,.G .one [I ((q.1:Nat):Int)])]) (λq=>q.1<=h.M.length/\rr q.2.1 q.2.2/\q.2.2=J++(h.M.take q.1).map (·.Addr)) (λq=>h.M.length - q.1) ((0,es6,J)) ?_ ψ λq u=>?_
 ·exact wB
 obtain⟨q,es7,M⟩:=q;obtain⟨w,g,O⟩:=u;simp only at w g O |-;have hl7:M.length=J.length+q:=ψ
 by_cases U:q<h.M.length
 ·have d:=ar U
  have hcl:M.count (nth h.M q).Addr<=M.length:=List.count_le_length
  repeat'(first|refine gE ?_|refine Ml.mk (g _) ?_|refine Mu.mk (es':=inc es7 M (nth h.M q).Addr) rfl ?_)
  ((conv=>whnf)
   refine CD (q+1,inc es7 M (nth h.M q).Addr,M++[(nth h.M q).Addr]) ⟨(by simp only;omega),qF g _,(by grind [X5])⟩ (by simp only;omega) ?_
   (exact wA))
 obtain rfl:q=h.M.length:=ω
 rw[I5]at O;have V:M=ny h:=by rw[O,K,E,hL];rfl
 have hlv:=L8 p.1 r.1
 repeat'(first|refine gE ?_|refine C8 (y5 h.K h.J p r P) ?_)
 refine CF (ι:=Nat) (λn=>[(3,.G .box [.m es7]),(103,.G .one (aG .own (oW h.K h.J))),(104,.G .one [I ((oW h.K h.J).length)]),(105,.G .one [I ((n:Nat):Int)])]) (λn=>n<=(oW h.K h.J).length/\((oW h.K h.J).take n).all (λa=>decide ((ny h).count a=1))=true) (λn=>(oW h.K h.J).length - n) (0) ?_ ψ λn hn=>?_
 ·exact wB
 obtain⟨hn,an⟩:=hn;by_cases ln:n<(oW h.K h.J).length
 ·have d:=ar ln
  rw[V]at g
  repeat'(first|refine gE ?_|with_reducible refine Bf.N (λu=>?_) (λu=>?_)|refine Ml.mk (g _) ?_)
  all_goals first
   |exact t (QS (gG d (W0 ω)))
   | ((conv=>whnf);refine CD (n+1) ⟨ω,cX d an (O0 ω)⟩ ω ?_;(exact wB))
 refine ZE ?_
 exact Z0 (λz=>[B z]) ((by grind [kE]))
set_option maxHeartbeats 8000000
def k7(h:ac):Bool:=(((((((aJ h.H&&bF (eO h) h.a)&&bx h.K h.J)&&(pages0 h&&qu h))&&dJ h)&&h.T.all bz)&&(gt h&&kE h))&&cg h)&&sX h
theorem cT(h:ac)(S:ac.sml h):zzA 23 false [.val (some 24) (ac.enc .S h)] .one [B (k7 h)]:=by
 have G:=S;obtain⟨n,o,b,g,H,p,q,J,r⟩:=S;have u:wT h:=n.1.2;have hpn:eO h<=1048576:=u.1;have K:h.M.length<=1048576:=H.1;have L:h.T.length<=1048576:=p.1;have hlb:h.j.U.length<=1048576:=q.1.1;have hlp:h.a5.b.W.length<=1048576:=r;have d:=jY h.H n;have e:=mS (eO h) h.a ω o;have i:=rx h.K h.J b g;have w:=m9 h.j q;have M:=qr h.a3 J;cases T:aJ h.H<;>rw[T]at d
 ·refine fO 154 [] Tryz.func23 rfl ?_
  repeat'(first|refine gP ?_|with_reducible refine Bf.N (λa=>?_) (λa=>?_))
  all_goals first
   | exact Z0 (λz=>[B z]) ((by unfold k7 ;rw[T];simp))
   |(exfalso;omega)
 cases U:bF (eO h) h.a<;>rw[U]at e
 ·refine fO 154 [] Tryz.func23 rfl ?_
  repeat'(first|refine gP ?_|with_reducible refine Bf.N (λa=>?_) (λa=>?_))
  all_goals first
   | exact Z0 (λz=>[B z]) ((by unfold k7 ;rw[U];simp))
   |(exfalso;omega)
 cases F:bx h.K h.J<;>rw[F]at i
 ·refine fO 154 [] Tryz.func23 rfl ?_
  repeat'(first|refine gP ?_|with_reducible refine Bf.N (λa=>?_) (λa=>?_))
  all_goals first
   | exact Z0 (λz=>[B z]) ((by unfold k7 ;rw[F];simp))
   |(exfalso;omega)
 have j:=EY h b g u o F;cases V:(pages0 h&&qu h)<;>rw[V]at j
 ·refine fO 154 [] Tryz.func23 rfl ?_
  repeat'(first|refine gP ?_|with_reducible refine Bf.N (λa=>?_) (λa=>?_))
  all_goals first
   | exact Z0 (λz=>[B z]) ((by unfold k7 ;rw[V];simp))
   |(exfalso;omega)
 cases O:bB h.j<;>rw[O]at w
 ·refine fO 154 [] Tryz.func23 rfl ?_
  repeat'(first|refine gP ?_|with_reducible refine Bf.N (λa=>?_) (λa=>?_))
  all_goals first
   | exact Z0 (λz=>[B z]) ((by unfold k7 dJ;rw[O];simp))
   |(exfalso;omega)
 by_cases P:h.T.length=h.j.U.length;rotate_left
 ·refine fO 154 [] Tryz.func23 rfl ?_
  repeat'(first|refine gP ?_|with_reducible refine Bf.N (λa=>?_) (λa=>?_))
  all_goals first
   | exact Z0 (λz=>[B z]) ((by unfold k7 dJ;rw[W0 P];simp))
   |(exfalso;omega)
 cases W:fQ h.a3<;>rw[W]at M
 ·refine fO 154 [] Tryz.func23 rfl ?_
  repeat'(first|refine gP ?_|with_reducible refine Bf.N (λa=>?_) (λa=>?_))
  all_goals first
   | exact Z0 (λz=>[B z]) ((by unfold k7 dJ;rw[W];simp))
   |(exfalso;omega)
 have hmc:dJ h=true:=by grind [dJ]
 refine fO 154 [] Tryz.func23 rfl ?_
 repeat'(first|refine gB ?_|with_reducible refine Bf.N (λa=>?_) (λa=>?_))
 all_goals try(exfalso;omega)
 (conv=>whnf)
 refine CF (ι:=Nat) (λk=>[(1,.G .box (ac.enc .S h)),(57,.G .one (pE .S h.T)),(58,.G .one [I (h.T.length)]),(59,.G .one [I ((k:Nat):Int)])]) (λk=>k<=h.T.length/\(h.T.take k).all bz=true) (λk=>h.T.length - k) (0) ?_ ψ λk X=>?_
 ·exact wB
 obtain⟨X,Y⟩:=X;by_cases Z:k<h.T.length
 ·have Q:=ar Z
  have R:=oe (nth h.T k) (p.2 _ (au Z));cases e8:bz (nth h.T k)<;>rw[e8]at R
  ·refine ZE ?_
   exact Z0 (λz=>[B z]) ((by grind [k7]))
  refine ZE ?_
  (refine CD (k+1) ⟨ω,cX Q Y e8⟩ ω ?_;(exact wB))
 have hca:h.T.all bz=true:=ot ω Y;have l:=H2 h b g K L;have c10:=zZ h G F O ψ;have c12:=yF h.a5 r;have c13:=we h h.a5.b.a7 b.1;have c14:=we h h.a5.b.a9 b.1;cases e9:gt h<;>rw[e9]at l
 ·refine ZE ?_
  all_goals first
   | exact Z0 (λz=>[B z]) ((by unfold k7;rw[e9];simp))
   |(exfalso;omega)
 cases e10:kE h<;>rw[e10]at c10
 ·refine ZE ?_
  all_goals first
   | exact Z0 (λz=>[B z]) ((by unfold k7;rw[e10];simp))
   |(exfalso;omega)
 by_cases hn:cg h=true;rotate_left
 ·have y:cg h=false:=by simpa using hn
  have c:=y;unfold cg at c;rw[t5]at c
  repeat'(first|refine gE ?_|with_reducible refine Bf.D (λa=>?_) (λa=>?_)|refine C8 (aI _ _ _) ?_|refine C8 (qp _) ?_)
  all_goals first
   | exact Z0 (λz=>[B z]) ((by unfold k7;rw[y];simp))
   |(exfalso;omega)
 have c:=hn;unfold cg at c;rw[C0]at c;have C:k7 h=sX h:=by grind [k7]
 rw[C];unfold sX;cases em:h.a2
 ·repeat'(first|refine gE ?_|with_reducible (first|refine Bf.D (λa=>?_) (λa=>?_)|refine Bf.E (λa=>?_) (λa=>?_))|refine C8 (aI _ _ _) ?_|refine C8 (qp _) ?_|refine Bf.f em ?_)
  all_goals first
   | exact Z0 (λz=>[B z]) ((by unfold u6;simp only[Bool.false_eq_true,if_false];first|(symm;exact W0 ω)|(rw[v5,beq_iff_eq,C0];omega)))
   |(exfalso;omega)
 cases e12:jA h.a5<;>rw[e12]at c12
 all_goals
  repeat'(first|refine gE ?_|with_reducible (first|refine Bf.D (λa=>?_) (λa=>?_)|refine Bf.D (λa=>?_) (λa=>?_))|refine C8 (aI _ _ _) ?_|refine C8 (qp _) ?_|refine Bf.t em ?_)
  all_goals first
   | exact Z0 (λz=>[B z]) (ψ)
   |(exfalso;omega)
variable{i j:Nat}{α:Type}
def gz[Inhabited α]{xs:List α}{f:α->Int}(e:(xs.map f).Nodup)(b:i<xs.length)(c:j<xs.length)(h:f (nth xs i)=f (nth xs j)):i=j:=by
 have d:=List.pairwise_iff_getElem.1 e;rcases Nat.lt_trichotomy i j with a|rfl|a
 ·have:=d i j (by simpa using b) (by simpa using c) a
  simp only[List.getElem_map]at this;rw[b8 (X2 b),b8 (X2 c)]at h;exact absurd h this
 ·rfl
 have:=d j i (by simpa using c) (by simpa using b) a;simp only[List.getElem_map]at this;rw[b8 (X2 b),b8 (X2 c)]at h;omega
theorem bu[Inhabited α]{xs:List α}{x:α}(h:x∈xs):∃i,i<xs.length/\nth xs i=x:=by
 obtain⟨i,a⟩:=List.mem_iff_getElem?.1 h
 grind [b8]
theorem sw:∀{H L:List Int},H.Nodup->(∀x∈H,x∈L)->L.length<=H.length->∀x∈L,x∈H
 | [],L,_,_,b,x,c=>by grind
 | y::H,L,d,f,b,x,c=>by
  have g:y∈L:=ψ
  have a:=List.nodup_cons.1 d;by_cases e:x=y
  ·grind
  refine V5 _ (sw (L:=L.erase y) a.2 (λz h=>?_) ?_ x ψ)
  all_goals grind
theorem Mp{H L:List Int}(b:L.Nodup)(c:∀x∈H,x∈L):(H.Nodup/\H.length=L.length)↔∀a∈L,H.count a=1:=by grind [sw,List.Perm.length_eq]
variable{p:Int}{n:Nat}{l:aD}
theorem dI : p∈lpgs l n↔∃k:Nat,k<n/\p=l.R+(k:Nat):=by grind [lpgs]
structure oc(sp:List aA)(la:List aD):Prop where
 sok:∀s∈sp,bk s=true
 lok:∀l∈la,bZ l=true
 nd:(sp.map (·.R)).Nodup
 dis:∀s∈sp,∀l∈la,∀k:Nat,k<l.w.toNat->s.R≠l.R+(k:Nat)
 one:∀i j,i<la.length->j<la.length->∀k k':Nat,k<(nth la i).w.toNat->k'<(nth la j).w.toNat->(nth la i).R+(k:Nat)=(nth la j).R+(k':Nat)->i=j
theorem oc.of(h:bx sp la=true):oc sp la:=by
 obtain⟨B,C,d⟩:=eZ h;unfold pgs at d;rw[List.nodup_append]at d;obtain⟨q,r,t⟩:=d;have u:=List.pairwise_flatMap.1 r;refine⟨ψ,ψ,q,λs D l w k c e=>?_,λi j f g k o c a e=>?_⟩
 ·exact t _ ψ _ (List.mem_flatMap.2 ⟨l,w,dI.2 ⟨k,c,rfl⟩⟩) e
 have p:=List.pairwise_iff_getElem.1 u.2;have y:=b8 (X2 f);have A:=b8 (X2 g);rw[y]at c e;rw[A]at a e;rcases Nat.lt_trichotomy i j with b|n|b
 ·exact absurd e (p i j f g b _ (dI.2 ⟨k,c,rfl⟩) _ (dI.2 ⟨o,a,rfl⟩))
 ·exact n
 exact absurd e.symm (p j i g f b _ (dI.2 ⟨o,a,rfl⟩) _ (dI.2 ⟨k,c,rfl⟩))
variable{a:Int}{s:aA}
theorem gR(b:bk s=true):dG s a=true↔16*s.R<=a/\a<=16*s.R+15:=by grind [dG]
theorem ix(b:oc sp la)(c:i<sp.length)(h:16*(nth sp i).R<=a/\a<=16*(nth sp i).R+15):denotes sp la a=qa i (nth sp i) a:=by
 refine oJ c ((gR (b.sok _ (au c))).2 h) λj z l k=>?_
 cases e:dG z a with
 | false=>rfl
 | true=>
  exfalso;have d:=(Z2.1 k).1;have n:=(gR (b.sok z ψ)).1 e;have g:=b8 k;subst g;have:=gz (f:=(·.R)) b.nd c d ω;omega
theorem Tc(b:oc sp la)(h:∀i,i<sp.length->¬(16*(nth sp i).R<=a/\a<=16*(nth sp i).R+15)):∀(j:Nat)(z:aA),j<sp.length->sp[j]? = some z->dG z a=false:=by grind [gR,oc.sok,b8]
theorem Nw(c:oc sp la)(a:Int):a∈live0 sp la↔a∈kW sp la:=by
 have G:a∈kW sp la↔∃n:Nat,n<512/\kK sp la n=true/\(n:Int)=a:=by grind [kW,m7]
 rw[G];unfold live0 fR;rw[O3,List.mem_flatMap,W4];constructor
 ·rintro(⟨s,g,C⟩|⟨l,b,rfl⟩)
  ·obtain⟨i,d,rfl⟩:=bu g
   unfold eL at C;obtain⟨k,H,rfl⟩:=W4.1 C;obtain⟨h,J⟩:=X4.1 H;have h:=List.mem_range.1 h;have o:=aL (c.sok _ g);have t:=B7 ⟨o.2.2.1,o.2.2.2⟩;have K:=ug (nth sp i).Z;unfold kq;have L:0<=(k:Int)*csz (nth sp i).Z/\(k:Int)*csz (nth sp i).Z<=15:=by grind [cW]
   have f:=ix c d (a:=16*(nth sp i).R+(k:Nat)*csz (nth sp i).Z) ω;have O:(16*(nth sp i).R+(k:Nat)*csz (nth sp i).Z - 16*(nth sp i).R) / csz (nth sp i).Z=(k:Nat)/\(16*(nth sp i).R+(k:Nat)*csz (nth sp i).Z - 16*(nth sp i).R) % csz (nth sp i).Z=0:=by grind [cW]
   refine⟨(16*(nth sp i).R+(k:Nat)*csz (nth sp i).Z).toNat,ω,?_,ω⟩
   grind [kK,qa]
  obtain⟨i,d,rfl⟩:=bu b;have P:=aX (c.lok _ b);have M:=cF (c.lok _ b);have u:=Tc c (a:=16*(nth la i).R) λj D Q=>c.dis _ (au D) _ b 0 ω ω
  have E:bQ (nth la i) (16*(nth la i).R)=true:=by grind [oc.lok,bQ]
  have f:=mP (a:=16*(nth la i).R) (V3 _) u d E λj z D r=>by
   cases e:bQ z (16*(nth la i).R) with
   | false=>rfl
   | true=>
    exfalso;have w:=(Z2.1 r).1;have p:=O2 r;have y:=b8 r;subst y;have N:=aX (c.lok _ p);have q:=c.lok _ p;unfold bZ at q;rw[C0]at q;unfold bQ at e;rw[I0,C0]at e;have:=c.one i j d w 0 ((nth la i).R - (nth la j).R).toNat ω ω ω;omega
  refine⟨(16*(nth la i).R).toNat,ω,?_,ω⟩
  grind [kK]
 rintro⟨n,R,b,rfl⟩
 cases u:sp.findIdx? (dG · (n:Nat)) with
 | some i=>
  obtain⟨d,A,-⟩:=S7.1 u;have B:=b8 (X2 d);rw[<-B]at A;have g:=c.sok _ (au d);have F:=(gR g).1 A;have o:=aL g;have t:=B7 ⟨o.2.2.1,o.2.2.2⟩;have f:denotes sp la (n:Nat)=qa i (nth sp i) (n:Nat):=by grind [denotes]
  rw[uy f]at b;simp only[I0,W6,C0]at b;simp only[qa]at b;cases E:bh (nth sp i).a6 (((n:Int) - 16*(nth sp i).R) / csz (nth sp i).Z) with
  | false=>grind
  | true=>
   have r:((n:Int) - 16*(nth sp i).R) % csz (nth sp i).Z=0:=b.1;refine .inl ⟨nth sp i,au d,?_⟩;unfold eL;refine W4.2 ⟨(((n:Int) - 16*(nth sp i).R) / csz (nth sp i).Z).toNat,X4.2 ⟨List.mem_range.2 ?_,?_⟩,?_⟩
   all_goals grind [cW,kq]
 | none=>
  cases F:la.findIdx? (bQ · (n:Nat)) with
  | some i=>
   obtain⟨d,A,-⟩:=S7.1 F;have f:denotes sp la (n:Nat) = ⟨3,i,0,(n:Nat) - 16*(nth la i).R⟩:=by grind [denotes]
   rw[uy f]at b
   grind [au]
  | none=>
   have f:denotes sp la (n:Nat) = ⟨0,0,0,0⟩:=by grind [denotes]
   rw[uy f]at b;simp at b
theorem x4(b:oc sp la)(c:(denotes sp la a).c5=0)(f:(denotes sp la a).b0=1\/(denotes sp la a).b0=3):a∈kW sp la:=by
 have l:0<=a/\a<512:=by
  unfold denotes at c f;cases g:sp.findIdx? (dG · a) with
  | some i=>
   obtain⟨d,j,-⟩:=S7.1 g;have h:=List.getElem_mem d;have e:=(gR (b.sok _ h)).1 j;have k:=aL (b.sok _ h);omega
  | none=>
   rw[g]at c f;cases e:la.findIdx? (bQ · a) with
   | some i=>
    obtain⟨d,-⟩:=S7.1 e;rw[e]at c;have n:=aX (b.lok _ (au d))
    grind
   | none=>grind
 have k:((a.toNat:Nat):Int)=a:=ω
 grind [kW,m7,kK]
theorem wh(sp:List aA)(la:List aD):(kW sp la).Nodup:=by
 unfold kW m7 List.Nodup;rw[List.pairwise_map]
 grind [List.Pairwise.imp,List.nodup_range]
variable{c:Int}
theorem vL(b:oc h.K h.J)(d:dx h a c=true):a∈kW h.K h.J:=by grind [x4,dx]
variable{o:bi}
theorem Ps(a:oc h.K h.J)(b:lw h o=true):o.Addr∈kW h.K h.J:=by grind [x4,lw]
theorem JZ(h:ac)(a:Int):(ny h).count a=(holders h).count a:=by grind [ny,holders]
theorem qt(h:ac):kf h=true↔(h.T.all (fw h)=true/\h.a3.q.all (iw h)=true)/\(aU h.j).all (l7 h)=true:=by grind [kf]
theorem ul(f:oc h.K h.J)(g:gt h=true)(j:kf h=true):∀a∈holders h,a∈kW h.K h.J:=by
 obtain⟨⟨n,p⟩,q⟩:=(qt h).1 j;intro a b;unfold holders at b;simp only[O3]at b;rcases b with((b|b)|b)|b
 ·obtain⟨o,d,rfl⟩:=W4.1 b
  obtain⟨i,r,rfl⟩:=bu d;have e:=fy g r
  grind [Ps,objAt]
 ·unfold cH at b
  obtain⟨c,t,b⟩:=List.mem_flatMap.1 b;obtain⟨l,u,b⟩:=List.mem_flatten.1 b;obtain⟨k,w,rfl⟩:=bu u;have e:=C4.1 n c t;unfold fw at e;have A:=C4.1 (show(nth c.X k).all _=true from fy e w) a b
  grind [vL]
 ·obtain⟨x,y,rfl⟩:=W4.1 b
  exact vL f (C4.1 p x y)
 exact vL f (C4.1 q a b)
theorem L1(b:bx h.K h.J=true)(c:gt h=true):(mD h&&kG h)=kE h:=by
 have d:=oc.of b;have e:(mD h=true/\h.a3.q.all (iw h)=true)↔h.a3.q.all (tn h)=true:=by grind [mD,tn]
 have f:kE h=true↔((h.T.all (fw h)=true/\h.a3.q.all (tn h)=true)/\(aU h.j).all (l7 h)=true)/\∀a∈kW h.K h.J,(holders h).count a=1:=by
  unfold kE;simp only[I0];refine and_congr Iff.rfl ?_;simp only[C4,C0,JZ]
  grind [List.mem_mergeSort,Nw,oW,sorted]
 grind [qt,Mp,wh,ul,kG]
theorem jQ(s t:aA):meshable s t=meshable t s:=by grind [meshable]
variable{f:Int}{t:aO}
theorem eY{p:Nat} : (p:Int)∈pagesOn t f↔p<t.O.length/\(nth t.O p).k≠0/\(nth t.O p).e=f:=by grind [pagesOn,k4,Na]
theorem w8{q:Int}(h:q∈pagesOn t f):∃p:Nat,q=(p:Nat):=by grind [pagesOn,k4]
theorem uC(a:pages0 h=true):(∀i,i<h.J.length->∀k:Nat,k<(nth h.J i).w.toNat->(aV h ((nth h.J i).R+(k:Nat))).length=1)/\(∀p∈pgs h.K h.J,p<eO h)/\∀p:Nat,p<eO h->((nth (tbl h).O p).k≠0↔(p:Int)∈pgs h.K h.J):=by grind [fy,pages0,uz,yU,xn]
theorem Dp{p:Nat}(a:p<eO h):ax (tbl h) (p:Nat)=nth (tbl h).O p:=nk a
theorem fE{p:Nat}(a:p<eO h)(b:(nth (tbl h).O p).k≠0):aV h (p:Nat)=pagesOn (tbl h) (nth (tbl h).O p).e:=by grind [Dp,aV,tbl]
theorem vJ(g:oc h.K h.J)(c:j<h.K.length):gH h (nth h.K j).R=(j:Nat):=by
 unfold gH;refine dw (ar c) (by unfold nj;simp) λk z i d=>?_
 have a:=b8 d;have b:=(Z2.1 d).1;subst a;unfold nj;refine W0 λe=>?_
 have:=gz (f:=(·.R)) g.nd b c e;omega
theorem vu(w:bx h.K h.J=true)(N:pages0 h=true):w6 h=qu h:=by
 have E:=oc.of w;obtain⟨O,P,Q⟩:=uC N;have o:∀i,i<h.K.length->∃p:Nat,(nth h.K i).R=(p:Nat)/\p<eO h/\(nth (tbl h).O p).k≠0:=λi r=>by
  have Y:=aL (E.sok _ (au r));have R:(nth h.K i).R∈pgs h.K h.J:=by grind [au,pgs]
  have c:=P _ R;refine⟨(nth h.K i).R.toNat,ω,ω,?_⟩
  grind
 rw[v5];unfold w6 qu;rw[cx,cx];constructor
 ·intro F i r
  rw[cx];intro j G;have y:j<h.K.length:=ω
  unfold ni;rw[W6,C0];by_cases d:(ax (tbl h) (nth h.K i).R).e=(ax (tbl h) (nth h.K j).R).e
  ·right
   obtain⟨p,e,a,f⟩:=o i r;obtain⟨q,A,b,g⟩:=o j y;have n:=C4.1 (F i r);rw[e,A,Dp a,Dp b]at d;have S:(q:Int)∈aV h (nth h.K i).R:=by
    rw[e,fE a f];exact eY.2 ⟨b,g,d.symm⟩
   have t:=n _ S;unfold mX at t;rw[<-A,vJ E y]at t;rw[W6,I0,C0]at t;rcases t with t|t
   ·omega
   simpa using t.2
  exact .inl d
 intro B i r;rw[C4];intro q C;obtain⟨p,e,a,f⟩:=o i r;have T:=C;rw[e,fE a f]at C;obtain⟨D,rfl⟩:=w8 C;obtain⟨b,g,H⟩:=eY.1 C;have u:=(Q D b).1 g;unfold pgs at u;rw[O3,W4,List.mem_flatMap]at u;rcases u with⟨s,F,J⟩|⟨l,U,K⟩
 ·obtain⟨j,G,rfl⟩:=bu F
  unfold mX;rw[<-J,vJ E G];rw[W6,I0,C0,C0];have d:(ax (tbl h) (nth h.K i).R).e=(ax (tbl h) (nth h.K j).R).e:=by grind [Dp]
  rcases Nat.lt_trichotomy j i with c|V|c
  ·have n:=fy (B i r) c
   unfold ni at n
   simp_all
  ·omega
  have n:=fy (B j G) c;unfold ni at n;rw[W6,C0]at n;exact .inr ⟨ω,by rw[jQ];simp_all⟩
 exfalso;obtain⟨W,L,rfl⟩:=bu U;obtain⟨k,X,M⟩:=dI.1 K;have n:=O W L k X;rw[<-M,fE b g]at n;have Z:(D:Int)∈pagesOn (tbl h) (nth (tbl h).O D).e:=ψ
 have m2:(p:Int)∈pagesOn (tbl h) (nth (tbl h).O D).e:=eY.2 ⟨a,f,H.symm⟩
 grind [List.length_eq_one_iff,oc.dis,au]
theorem ee(h:ac):k7 h=eE h:=by grind [vu,L1,k7,eE,mU]
def ovl(y r:aE):Bool:=decide (y.At<r.At+r.a4/\r.At<y.At+y.a4)
def nr(r:aE):List aE->Bool->Option (List aE)
 | [],put=>some (if put then [] else [r])
 | y::a,put=>if ovl y r then none else if !put&&decide (y.At > r.At) then(nr r a true).map λt=>r::y::t else(nr r a put).map λt=>y::t
def dn(out:List aE):List aE->List aE
 | []=>out
 | y::ys=>match out.getLast? with
  | some z=>if z.At+z.a4=y.At then dn (out.dropLast++[⟨z.At,z.a4+y.a4⟩]) ys else dn (out++[y]) ys
  | none=>dn (out++[y]) ys
def ju:List aE->aE->List aE->Bool->Option (List aE)
 | [],r,out,done=>some (if done then out else out++[r])
 | y::ys,r,out,done=>
  if ovl y r then none
  else if y.At+y.a4=r.At then ju ys ⟨y.At,y.a4+r.a4⟩ out done
  else if r.At+r.a4=y.At then ju ys ⟨r.At,r.a4+y.a4⟩ out done
  else if y.At > r.At/\done=false then ju ys r (out++[r,y]) true
  else ju ys r (out++[y]) done
def jR(xs:List aE):Prop:=xs.Pairwise (λa b=>a.At+a.a4<b.At)/\∀y∈xs,1<=y.a4
variable{y:aE}
theorem jR.tail{a:List aE}(h:jR (y::a)):jR a:=⟨(List.pairwise_cons.1 h.1).2,λz b=>h.2 z ψ⟩
theorem jR.head{a:List aE}(h:jR (y::a)):∀z∈a,y.At+y.a4<z.At:=(List.pairwise_cons.1 h.1).1
theorem jJ:∀(a out:List aE),jR a->(∀z,out.getLast? = some z->∀y∈a,z.At+z.a4≠y.At)->dn out a=out++a
 | [],out,_,_=>by simp[dn]
 | y::a,out,d,e=>by
  have b:dn (out++[y]) a=out++y::a:=by
   rw[jJ a (out++[y]) d.tail λz c w f=>by
     simp at c;subst c;have:=d.head w f;omega]
   simp
  unfold dn;split
  ·rename_i z c
   rw[CB (e z c y (I2 ..))];exact b
  exact b
theorem Ah{r:aE} : ∀{a:List aE},jR a->(∀y∈a,r.At+r.a4<=y.At)->nr r a true=some a
 | [],_,_=>rfl
 | y::a,c,b=>by
  have e:=b y (I2 ..);unfold nr;rw[CB (by unfold ovl;rw[C0];omega)];simp only[Bool.not_true,Bool.false_and,Bool.false_eq_true,if_false];rw[Ah c.tail λz d=>b z (V5 _ d)]
  rfl
theorem wF{r:aE}(h1:1<=r.a4){a:List aE}(b:jR a)(c:∀y∈a,r.At+r.a4<=y.At):nr r a false=some (r::a):=by
 cases a with
 | nil=>rfl
 | cons y a=>
  grind [Ah,jR.tail,nr,ovl]
def qH{r:aE} : ∀{a out:List aE},jR a->1<=r.a4->(∀y∈a,r.At+r.a4<y.At)->ju a r out true=some (out++a)
 | [],out,_,_,_=>by simp[ju]
 | y::a,out,b,d,c=>by
  have f:=c y (I2 ..);have g:=b.2 y (I2 ..);unfold ju;rw[CB (by unfold ovl;rw[C0];omega),CB ω,CB ω,CB (by simp),qH b.tail d λz e=>c z (V5 _ e)];simp
variable{out:List aE}
theorem zH{r:aE}(h1:1<=r.a4){a:List aE}(b:jR a)(c:∀y∈a,r.At+r.a4<=y.At):ju a r out false=some (out++match a with|[]=>[r]|y::zs=>if r.At+r.a4=y.At then⟨r.At,r.a4+y.a4⟩::zs else r::y::zs):=by
 cases a with
 | nil=>simp[ju]
 | cons y a=>
  have g:=c y ψ;have h:=b.2 y ψ;unfold ju;rw[CB (by grind [ovl]),CB ω];by_cases e:r.At+r.a4=y.At
  ·rw[CC e]
   simp only[e,if_true];cases a with
   | nil=>simp[ju]
   | cons z a=>
    have i:=b.head z ψ;have j:=b.tail.2 z ψ;unfold ju;simp only;rw[CB (by grind [ovl]),CB ω,CB ω,CC (by simp;omega),qH b.tail.tail (by simp only;omega) λw d=>by
      have:=b.tail.head w d;simp only;omega]
    simp
  rw[CB e,CC (by simp;omega),qH b.tail h1 λz f=>by have:=b.head z f;omega];simp[e]
theorem Dg{pages:Int} : ∀{a:List aE}{r:aE}{out:List aE},jR a->1<=r.a4->(∀z,out.getLast? = some z->(∀y∈a,z.At+z.a4<y.At)/\z.At+z.a4<r.At)->(nr r a false).map (dn out)=ju a r out false
 | [],r,out,_,g,q=>by
  show some (dn out [r])=some (out++[r]);rw[jJ [r] out ⟨List.pairwise_singleton ..,λy u=>by rw[V1.1 u];exact g⟩ ψ]
 | y::a,r,out,c,g,q=>by
  have F:=c.2 y ψ;by_cases l:ovl y r=true
  ·grind [nr,ju]
  ·have i:=l
   unfold ovl at i;rw[C0]at i;by_cases A:r.At+r.a4<=y.At
   ·-- all to the right
    have b:∀w∈y::a,r.At+r.a4<=w.At:=λw f=>by grind [jR.head]
    rw[wF g c b,zH g c b];show some (dn out (r::y::a))=_;have hfirst:dn out (r::y::a)=dn (out++[r]) (y::a):=by
     conv=>lhs;unfold dn
     grind
    rw[hfirst];by_cases e:r.At+r.a4=y.At
    ·have:dn (out++[r]) (y::a)=dn (out++[⟨r.At,r.a4+y.a4⟩]) a:=by
      conv=>lhs;unfold dn
      simp[e]
     grind [jJ,jR.tail,jR.head]
    grind [jJ,jR.head]
   have B:y.At+y.a4<=r.At:=ω
   have n:∀t,dn out (y::t)=dn (out++[y]) t:=λt=>by
    conv=>lhs;unfold dn
    grind [I2]
   have C:(nr r (y::a) false).map (dn out)=(nr r a false).map (dn (out++[y])):=by
    conv=>lhs;unfold nr
    rw[CB l,CB (by simp;omega),Option.map_map]
    congr 1
    grind
   rw[C];unfold ju;rw[CB l];by_cases e:y.At+y.a4=r.At
   ·rw[CC e]
    by_cases o:∃w,a.head? = some w/\ovl w r=true
    ·obtain⟨w,f,D⟩:=o
     cases a with
     | nil=>cases f
     | cons d h=>
      grind [ovl,nr,ju]
    have b:∀w∈a,r.At+r.a4<=w.At:=by
     cases a with
     | nil=>grind
     | cons d h=>
      have G:=c.head d ψ;have H:=c.tail.2 d ψ
      grind [jR.head,jR.tail,ovl]
    rw[wF g c.tail b,zH (r:=⟨y.At,y.a4+r.a4⟩) (by simp only;omega) c.tail ψ];show some (dn (out++[y]) (r::a))=_;have E:dn (out++[y]) (r::a)=dn (out++[⟨y.At,y.a4+r.a4⟩]) a:=by
     conv=>lhs;unfold dn
     simp[e]
    rw[E];cases a with
    | nil=>simp[dn]
    | cons d h=>
     by_cases j:y.At+(y.a4+r.a4)=d.At
     ·have p:dn (out++[⟨y.At,y.a4+r.a4⟩]) (d::h)=dn (out++[⟨y.At,y.a4+r.a4+d.a4⟩]) h:=by
       conv=>lhs;unfold dn
       simp[j]
      rw[p,jJ h _ c.tail.tail λz k w f=>by grind [jR.head,jR.tail]];simp[j]
     rw[jJ (d::h) _ c.tail λz k w f=>by
       simp at k;subst k;simp only;rcases List.mem_cons.1 f with rfl|f
       · exact j
       have:=c.tail.head w f;have:=b d ψ;have:=c.tail.2 d ψ;omega]
     simp[j]
   rw[CB e,CB ω,CB ω];exact Dg (pages:=pages) c.tail g λz k=>by grind [jR.head]
def ib(k:ah)(f:Int):ah:=if(pagesOn k.F.Q f).length=0 then {k with F:=⟨⟨k.F.V.W.set f.toNat (List.replicate 16 0),k.F.V.y.set f.toNat false⟩,k.F.Q⟩} else k
def mi(k:ah)(p:Int):ah:={k with F:=⟨k.F.V,⟨k.F.Q.O.set p.toNat ⟨0,0⟩⟩⟩}
def cI(k:ah)(p:Int):ah:=if(ax k.F.Q p).k=0 then k else ib (mi k p) (ax k.F.Q p).e
theorem cL[Inhabited α](xs:List α)(i j:Nat)(x:α):nth (xs.set i x) j=if i=j/\j<xs.length then x else nth xs j:=by grind [nth]
theorem qA(k:ah)(f:Int):(ib k f).F.Q=k.F.Q/\(ib k f).Calls=k.Calls/\(ib k f).d=k.d/\(ib k f).F.V.W.length=k.F.V.W.length/\(ib k f).F.V.y.length=k.F.V.y.length:=by grind [ib]
theorem rY(k:ah)(p:Int):(cI k p).F.Q.O.length=k.F.Q.O.length/\(cI k p).Calls=k.Calls/\(cI k p).d=k.d:=by grind [qA,cI,mi]
variable{k:ah}
theorem aH : aJ k=true↔(∀j,j<k.d.length->0<=nth k.d j)/\cP k.F.V=true/\gu k.F.Q k.F.V.y.length=true/\(∀j,j<k.F.V.y.length->nth k.F.V.y j=decide (0<(pagesOn k.F.Q (j:Int)).length))/\0<=k.Calls/\k.Calls<=100000/\k.d.length<=40:=by grind [cx,aJ,cV,pQ]
theorem aY{f:aT} : cP f=true↔1<=f.W.length/\f.W.length<=32/\f.y.length=f.W.length/\∀j,j<f.W.length->iV (nth f.W j) (nth f.y j)=true:=by
 unfold cP;simp only[I0,C0,C4,and_assoc];refine and_congr Iff.rfl (and_congr Iff.rfl (and_congr_right λb=>⟨λh j a=>?_,λh q c=>?_⟩))
 ·exact h _ (O2 (x5 (ar a) (ar ω)))
 grind [List.mem_iff_getElem?,List.getElem?_zip_eq_some,b8]
theorem bq : gu t a=true↔(∀j,j<t.O.length->mt a (nth t.O j)=true)/\1<=t.O.length/\t.O.length<=32:=by grind [cx,gu]
theorem fx : 0<(pagesOn t f).length↔∃q,q<t.O.length/\(nth t.O q).k≠0/\(nth t.O q).e=f:=by
 unfold pagesOn k4;rw[I1,List.length_pos_iff_exists_mem];simp[Na]
theorem bM(h:aJ k=true)(a:(ax k.F.Q p).k≠0):0<=p/\p<k.F.Q.O.length/\ax k.F.Q p=nth k.F.Q.O p.toNat/\0<=(ax k.F.Q p).e/\(ax k.F.Q p).e<k.F.V.y.length:=by
 obtain⟨-,-,b,-⟩:=aH.1 h
 grind [bq,ax,mt]
theorem yN(p:Int)(h:aJ k=true):aJ (cI k p)=true:=by
 unfold cI;split
 ·exact h
 rename_i r;obtain⟨C,D,E,i,l⟩:=bM h r;obtain⟨t,u,F,w,y,A,B⟩:=aH.1 h;obtain⟨G,H,J,L⟩:=aY.1 u;obtain⟨M,N,O⟩:=bq.1 F;rw[E]at r i l |-;generalize K:(nth k.F.Q.O p.toNat).e=f at i l;have b:∀q,nth (k.F.Q.O.set p.toNat ⟨0,0⟩) q=if p.toNat=q then⟨0,0⟩ else nth k.F.Q.O q:=λq=>by grind [cL]
 have c:∀j:Int,0<(pagesOn (⟨k.F.Q.O.set p.toNat ⟨0,0⟩⟩ : aO) j).length↔∃q,q<k.F.Q.O.length/\q≠p.toNat/\(nth k.F.Q.O q).k≠0/\(nth k.F.Q.O q).e=j:=λj=>by
  rw[fx];simp only[Z1,b]
  grind
 have d:∀j:Int,0<(pagesOn k.F.Q j).length↔∃q,q<k.F.Q.O.length/\(nth k.F.Q.O q).k≠0/\(nth k.F.Q.O q).e=j:=λj=>fx
 have g:gu ⟨k.F.Q.O.set p.toNat ⟨0,0⟩⟩ k.F.V.y.length=true:=by
  rw[bq];simp only[Z1,b]
  grind [mt]
 unfold ib;split
 ·rename_i o
  rw[aH];simp only[mi,Z1]at o |-;refine⟨t,?_,g,λj n=>?_,y,A,B⟩
  ·rw[aY]
   simp only[Z1,cL];refine⟨G,H,J,λj n=>?_⟩;by_cases a:f.toNat=j
   ·rw[CC ⟨a,n⟩,CC ⟨a,ω⟩];decide
   grind
  rw[cL];by_cases a:f.toNat=j
  ·grind
  rw[CB (λe=>a e.1),w j n];refine decide_eq_decide.2 ?_;rw[d,c]
  grind
 rename_i o;rw[aH];simp only[mi]at o |-;refine⟨t,u,g,λj n=>?_,y,A,B⟩;rw[w j n];refine decide_eq_decide.2 ?_;by_cases a:f=j
 ·grind
 rw[d,c];grind
def aZ(h:aJ k=true):ah.sml k:=by
 obtain⟨g,b,c,i,l,n,o⟩:=aH.1 h;obtain⟨p,q,t,d⟩:=aY.1 b;obtain⟨u,w,y⟩:=bq.1 c;refine⟨⟨⟨⟨ω,λr f=>?_⟩,(by omega:_<=1048576)⟩,⟨ω,λe _=>trivial⟩⟩,(by omega:_<=1048576)⟩;obtain⟨j,a⟩:=List.mem_iff_getElem?.1 f;have:=d j (Z2.1 a).1;rw[b8 a]at this;unfold iV at this;simp only[I0,C0]at this;show r.length<=1048576;omega
set_option maxHeartbeats 4000000
variable{K:List (List C)->Prop}{sz by_:Nat}
theorem Ap.cp{e:α->List C}{xs:List α}(d:∀x,(e x).length=sz)(f:∀x,bn (e x)=true)(a:xs.length<=1048576)(b:by_<=1000)(c:K (xs.map e)):Ap true [] (xs.map e) sz by_ K:=
 CT ψ ψ ψ (by simp;omega) (by simp only[I1,List.length_nil,O7];exact xi a b) rfl c
def CP:type_of% @Ap.cp:=@Ap.cp
theorem Fl.cp{e:α->List C}{xs:List α}{X:Prop}(d:∀x,(e x).length=sz)(f:∀x,bn (e x)=true)(a:xs.length<=1048576)(b:by_<=1000)(c:X):Fl (xs.map e) sz by_ X:=
 Fl.mk ψ (by simp;omega) (by simp only[I1];exact xi a b) c
def CU:type_of% @Fl.cp:=@Fl.cp
variable{r:List C}{rows:List (List C)}
theorem Ap.sn{a:List (List C)}(h1:∀r∈rows,r.length=sz)(f:r.length=sz)(b:rows.length+1<=1048576)(c:by_<=1000)(d:a=rows++[r])(e:K a):Ap false rows [r] sz by_ K:=
 CT h1 ψ ψ (by simp;omega) (xi (by simpa using b) c) d e
def cD(xs:List Int)(a:xs.length<=1048576):zzA 196 false [.val none (aG .S xs)] .one (aG .own xs):=by
 refine fO 6 [] Tryz.func196 rfl ?_ (.inr (bO _))
 repeat'(first|refine gP ?_|refine CP (λ_=>rfl) (λ_=>rfl) a (by decide) ?_)
 rfl
def Eb(t:aO)(a:aO.sml t):zzA 468 false [.val (some 1) (aO.enc .S t)] .agg (aO.enc .own t):=by
 have b:=a.1;refine fO 8 [] Tryz.func468 rfl ?_ (.inr (aO.enc_fr _))
 repeat'(first|refine gP ?_|refine CP (λ_=>rfl) (λ_=>rfl) b (by decide) ?_)
 rfl
def Au(t:aO)(a:aO.sml t):zzA 347 false [.val (some 1) (aO.enc .S t)] .agg (aO.enc .own t):=by
 have b:=a.1;refine fO 8 [] Tryz.func347 rfl ?_ (.inr (aO.enc_fr _))
 repeat'(first|refine gP ?_|refine CP (λ_=>rfl) (λ_=>rfl) b (by decide) ?_)
 rfl
theorem aK{e:α->List C}{l:List α}(h:∀x,(e x).length=n):∀r∈l.map e,r.length=n:=(ψ)
variable{β:Type}
theorem fm[Inhabited α]{xs:List α}{f:α->β}(a:i<xs.length):(xs.take (i+1)).map f=(xs.take i).map f++[f (nth xs i)]:=by grind [X5,ar]
def Em(f:aT)(a:aT.sml f):zzA 467 false [.val (some 2) (aT.enc .S f)] .agg (aT.enc .own f):=by
 have g:=a.1.1;have d:f.y.length<=1048576:=a.2;refine fO 30 [(5,10,[17,18,19,20,21,22,23,24,25,26])] Tryz.func467 rfl ?_ (.inr (aT.enc_fr _))
 repeat'(first|refine gP ?_|refine CP (λ_=>rfl) (λ_=>rfl) d (by decide) ?_)
 refine CF (ι:=Nat) (λi=>[(1,.G .box (aT.enc .S f)),(2,.G .box [.z,.z]),(3,.G .box [.s .own ((f.W.take i).map (aG .own)),.s .own (f.y.map (rB .own))]),(4,.G .one [I ((i:Nat):Int)])]) (λi=>i<=f.W.length) (λi=>f.W.length - i) (0) ?_ (X0 _) λi h=>?_
 ·exact wB
 by_cases b:i<f.W.length
 ·have e:=ar b
  have c:(nth f.W i).length<=1048576:=a.1.2 _ (au b)
  repeat'(first|refine gE ?_|refine CU (λ_=>rfl) (λ_=>rfl) c (by decide) ?_|refine Ap.sn (aK λ_=>rfl) rfl (by simp;omega) (by decide) (fm b) ?_)
  (refine CD (i+1) ω ω ?_;(exact wB))
 refine ZE ?_
 obtain rfl:i=f.W.length:=ω
 rw[I5]
 rfl
def pn(f:aT)(a:aT.sml f):zzA 346 false [.val (some 2) (aT.enc .S f)] .agg (aT.enc .own f):=by
 have g:=a.1.1;have d:f.y.length<=1048576:=a.2;refine fO 27 [(5,5,[18,19,20,21,22])] Tryz.func346 rfl ?_ (.inr (aT.enc_fr _))
 repeat'(first|refine gP ?_|refine CP (λ_=>rfl) (λ_=>rfl) d (by decide) ?_)
 refine CF (ι:=Nat) (λi=>[(2,.G .box [.z,.z]),(3,.G .box [.s .own ((f.W.take i).map (aG .own)),.s .own (f.y.map (rB .own))]),(12,.G .one (jV .S f.W)),(13,.G .one [I (f.W.length)]),(14,.G .one [I ((i:Nat):Int)])]) (λi=>i<=f.W.length) (λi=>f.W.length - i) (0) ?_ (X0 _) λi h=>?_
 ·exact wB
 by_cases b:i<f.W.length
 ·have e:=ar b
  have c:(nth f.W i).length<=1048576:=a.1.2 _ (au b)
  repeat'(first|refine gE ?_|refine C8 (cD (nth f.W i) c) ?_|refine Ap.sn (aK λ_=>rfl) rfl (by simp;omega) (by decide) (fm b) ?_)
  (refine CD (i+1) ω ω ?_;(exact wB))
 refine ZE ?_
 obtain rfl:i=f.W.length:=ω
 rw[I5]
 rfl
def uq(m:aP)(a:aP.sml m):zzA 349 false [.val (some 3) (aP.enc .S m)] .agg (aP.enc .own m):=by
 refine fO 10 [(1,5,[3,4,5,6,7])] Tryz.func349 rfl ?_ (.inr (aP.enc_fr _))
 repeat'(first|refine gP ?_|refine C8 (Em m.V a.1) ?_|refine C8 (Eb m.Q a.2) ?_)
 rfl
def jN(m:aP)(a:aP.sml m):zzA 195 false [.val (some 3) (aP.enc .S m)] .agg (aP.enc .own m):=by
 refine fO 10 [(1,5,[3,4,5,6,7])] Tryz.func195 rfl ?_ (.inr (aP.enc_fr _))
 repeat'(first|refine gP ?_|refine C8 (pn m.V a.1) ?_|refine C8 (Au m.Q a.2) ?_)
 rfl
def DQ(k:ah)(a:ah.sml k):zzA 203 false [.val (some 5) (ah.enc .S k)] .agg (ah.enc .own k):=by
 have b:k.d.length<=1048576:=a.2;refine fO 13 [(1,9,[3,4,5,6,7,8,9,10,11])] Tryz.func203 rfl ?_ (.inr (CX _))
 repeat'(first|refine gP ?_|refine C8 (uq k.F a.1) ?_|refine CU (λ_=>rfl) (λ_=>rfl) b (by decide) ?_)
 rfl
def gm(k:ah)(a:ah.sml k):zzA 68 false [.val (some 5) (ah.enc .S k)] .agg (ah.enc .own k):=by
 refine fO 12 [(1,8,[3,4,5,6,7,8,9,10])] Tryz.func68 rfl ?_ (.inr (CX _))
 repeat'(first|refine gP ?_|refine C8 (jN k.F a.1) ?_|refine C8 (cD k.d a.2) ?_)
 rfl
def eR(k:ah)(p:Int)(a:aO.sml k.F.Q):zzA 485 false [.ptr (ah.enc .S k),.val none [I p]] .one [I (ax k.F.Q p).k]:=by
 refine fO 13 [] Tryz.func485 rfl ?_
 repeat'(first|refine gP ?_|refine C8 (dh k.F.Q p a) ?_)
 rfl
def m8(k:ah)(b:ah.sml k):zzA 277 false [.val (some 5) (ah.enc .S k)] .one [B (aJ k&&decide (k.Calls<100000))]:=by
 have a:=kb k b;cases e:aJ k<;>rw[e]at a
 ·refine fO 10 [] Tryz.func277 rfl ?_
  repeat'(first|refine gP ?_|with_reducible refine Bf.D (λc=>?_) (λc=>?_))
  all_goals rfl
 refine fO 10 [] Tryz.func277 rfl ?_
 refine ZP ?_
 all_goals rfl
def gV(k:ah)(b:ah.sml k):zzA 197 false [.val (some 5) (ah.enc .S k)] .one [B (decide (k.Calls≠100000)&&aJ k)]:=by
 have c:=jY k b;refine fO 10 [] Tryz.func197 rfl ?_
 repeat'(first|refine gP ?_|with_reducible (first|refine Bf.N (λa=>?_) (λa=>?_)|refine Bf.D (λa=>?_) (λa=>?_)))
 all_goals(exact Z0 (λz=>[B z]) ((by simp[*])))
theorem uK(h:(pagesOn k.F.Q f).length=0):ah.enc .own (ib k f)=[.s .own ((k.F.V.W.map (aG .own)).set f.toNat (aG .own (List.replicate 16 0))),.s .own ((k.F.V.y.map (rB .own)).set f.toNat (rB .own false)),.s .own (k.F.Q.O.map (bo.enc .own)),I k.Calls,.s .own (k.d.map (rI .own))]:=by grind [V6,ib,ah.enc]
theorem Ar(h:¬(pagesOn k.F.Q f).length=0):ah.enc .own (ib k f)=ah.enc .own k:=by grind [ib]
def t6(k:ah)(f:Int)(a:aO.sml k.F.Q)(b:0<=f/\f<k.F.V.W.length/\f<k.F.V.y.length) :
  zzB 486 false [.ptr (ah.enc .own k),.val none [I f]] [.ptr (ah.enc .own (ib k f)),.val none [I f]] (.tup []) []:=by
 have c:=ar (xs:=k.F.V.W) (i:=f.toNat) ω;have d:=ar (xs:=k.F.V.y) (i:=f.toNat) ω;by_cases e:(pagesOn k.F.Q f).length=0
 ·rw[uK e]
  refine fM 30 [] [(2,8,[21,22,23,24,25,26,27,28])] [(0,0),(0,0)] Tryz.func486 rfl (λu q=>?_) (.inr trivial)
  repeat'(first|refine gB ?_|with_reducible (first|refine CK b.1 (aa d) ?_|refine CK b.1 (aa c) ?_)|refine CG (gW k.F.Q f a) ⟨⟨rfl,CZ k.F.Q⟩,⟨rfl,rfl⟩,trivial⟩ ?_|refine CM rfl rfl (aa c) rfl (O1 rfl) rfl ?_|refine CM rfl rfl (aa d) rfl (O1 rfl) rfl ?_|refine Mk.mk 16 rfl rfl (by decide) (by decide) rfl ?_)
  refine CH rfl rfl ?_;exact wB
 rw[Ar e];refine fM 30 [] [(2,8,[21,22,23,24,25,26,27,28])] [(0,0),(0,0)] Tryz.func486 rfl (λu q=>?_) (.inr trivial)
 repeat'(first|refine gB ?_|refine CG (gW k.F.Q f a) ⟨⟨rfl,CZ k.F.Q⟩,⟨rfl,rfl⟩,trivial⟩ ?_)
 refine CH rfl rfl ?_;exact wB
def ue(k:ah)(f:Int)(a:aO.sml k.F.Q)(b:0<=f/\f<k.F.V.W.length/\f<k.F.V.y.length) :
  zzB 198 false [.ptr (ah.enc .own k),.val none [I f]] [.ptr (ah.enc .own (ib k f)),.val none [I f]] (.tup []) []:=by
 have c:=ar (xs:=k.F.V.W) (i:=f.toNat) ω;have d:=ar (xs:=k.F.V.y) (i:=f.toNat) ω;by_cases e:(pagesOn k.F.Q f).length=0
 ·rw[uK e]
  refine fM 30 [] [(2,8,[21,22,23,24,25,26,27,28])] [(0,0),(0,0)] Tryz.func198 rfl (λu q=>?_) (.inr trivial)
  repeat'(first|refine gB ?_|with_reducible (first|refine CK b.1 (aa d) ?_|refine CK b.1 (aa c) ?_)|refine CG (lB k.F.Q f a) ⟨⟨rfl,CZ k.F.Q⟩,⟨rfl,rfl⟩,trivial⟩ ?_|refine CM rfl rfl (aa c) rfl (O1 rfl) rfl ?_|refine CM rfl rfl (aa d) rfl (O1 rfl) rfl ?_|refine Mk.mk 16 rfl rfl (by decide) (by decide) rfl ?_)
  refine CH rfl rfl ?_;exact wB
 rw[Ar e];refine fM 30 [] [(2,8,[21,22,23,24,25,26,27,28])] [(0,0),(0,0)] Tryz.func198 rfl (λu q=>?_) (.inr trivial)
 repeat'(first|refine gB ?_|refine CG (lB k.F.Q f a) ⟨⟨rfl,CZ k.F.Q⟩,⟨rfl,rfl⟩,trivial⟩ ?_)
 refine CH rfl rfl ?_;exact wB
theorem yj(k:ah)(p:Int):ah.enc .own (mi k p)=[.s .own (k.F.V.W.map (aG .own)),.s .own (k.F.V.y.map (rB .own)),.s .own ((k.F.Q.O.map (bo.enc .own)).set p.toNat (bo.enc .own ⟨0,0⟩)),I k.Calls,.s .own (k.d.map (rI .own))]:=by grind [V6,mi,ah.enc]
theorem x8(h:aJ k=true):aO.sml (mi k p).F.Q:=by
 obtain⟨a,b,c⟩:=bq.1 (aH.1 h).2.2.1;exact⟨by grind [mi],λ_ _=>trivial⟩
theorem Qs(k:ah)(p:Int)(b:aJ k=true) :
  zzB 374 false [.ptr (ah.enc .own k),.val none [I p]] [.ptr (ah.enc .own (cI k p)),.val none [I p]] .one [B (decide ((ax k.F.Q p).k≠0))]:=by
 have j:=aZ b;have c:=eR k p j.1.2;by_cases a:(ax k.F.Q p).k=0
 ·rw[show cI k p=k by unfold cI;rw[CC a]]
  refine fM 32 [(486,[2,0])] [] [(0,0),(0,0)] Tryz.func374 rfl (λu q=>?_)
  repeat'(first|refine gB ?_|refine CG (c) ⟨CO k,⟨rfl,rfl⟩,trivial⟩ ?_)
  refine CH rfl ?_ ?_
  ·exact Z0 (λz=>[B z]) ((by simp[a]))
  exact wB
 obtain⟨l,r,n,d,o⟩:=bM b a;have h:=(aY.1 (aH.1 b).2.1).2.2.1;rw[show cI k p=ib (mi k p) (ax k.F.Q p).e by unfold cI;rw[CB a]];have e:=t6 (mi k p) (ax k.F.Q p).e (x8 b) ⟨d,by grind [mi],by grind [mi]⟩;rw[yj]at e;have g:=ar (xs:=k.F.Q.O) (i:=p.toNat) ω;rw[n]at c e a |-;refine fM 32 [(486,[2,0])] [] [(0,0),(0,0)] Tryz.func374 rfl (λu q=>?_)
 repeat'(first|refine gB ?_|with_reducible refine CK l (aa g) ?_|refine CG (c) ⟨CO k,⟨rfl,rfl⟩,trivial⟩ ?_|refine CM rfl rfl (aa g) rfl (O1 rfl) rfl ?_)
 refine CH rfl ?_ ?_
 ·exact Z0 (λz=>[B z]) ((by simp[a]))
 exact wB
theorem pC(k:ah)(p:Int)(a:aJ k=true)(o:k.Calls≠100000) :
  zzA 69 false [.val (some 5) (ah.enc .S k),.val none [I p]] (.tup [some 5,none]) (ah.enc .own (cI k p)++[B (decide ((ax k.F.Q p).k≠0))]):=by
 have d:=aZ a;have l:=gm k d;have e:=gV k d;have c:=eX k p d.1.2;rw[a,O0 o]at e;by_cases b:(ax k.F.Q p).k=0
 ·rw[show cI k p=k by unfold cI;rw[CC b]]
  rw[W0 (by simpa using b)]at c |-;refine fP 38 [(198,[2,0])] [] Tryz.func69 rfl ?_ (.inr (aB (CX k) ⟨trivial,trivial⟩))
  refine ZP ?_
  all_goals rfl
 obtain⟨q,u,r,g,t⟩:=bM a b;have n:=(aY.1 (aH.1 a).2.1).2.2.1;rw[show cI k p=ib (mi k p) (ax k.F.Q p).e by unfold cI;rw[CB b]];have h:=ue (mi k p) (ax k.F.Q p).e (x8 a) ⟨g,by grind [mi],by grind [mi]⟩;rw[yj]at h;have j:=ar (xs:=k.F.Q.O) (i:=p.toNat) ω;rw[O0 b]at c |-;rw[r]at h |-;refine fP 38 [(198,[2,0])] [] Tryz.func69 rfl ?_ (.inr (aB (CX _) ⟨trivial,trivial⟩))
 repeat'(first|refine gP ?_|with_reducible refine CK q (aa j) ?_|refine CM rfl rfl (aa j) rfl (O1 rfl) rfl ?_)
 all_goals rfl
def eB(n:Nat):aT:=⟨List.replicate n (List.replicate 16 0),List.replicate n false⟩
def dS(n:Nat):aO:=⟨List.replicate n ⟨0,0⟩⟩
def bA(p f:Nat)(a:List Int):ah:=⟨⟨eB f,dS p⟩,0,a⟩
def fe:aF:=⟨List.replicate 4 []⟩
def eD(n:Nat):aN:=⟨List.replicate n [],List.replicate n []⟩
def qG(p f t:Nat)(lim:Int)(a:List Int):ac:=⟨bA p f a,[⟨0,p⟩],[],[],[],List.replicate t fe,eD t,⟨16,[]⟩,0,0,lim,1,false,⟨⟨0,0,[]⟩,0,0⟩⟩
theorem eU[Inhabited α]{y:α}(a:j<n):nth (List.replicate n y) j=y:=b8 ψ
theorem P5(n:Nat)(f:Int):pagesOn (dS n) f=[]:=by grind [List.filter_eq_nil_iff,eU,pagesOn,k4,dS,Na]
theorem tU{p f:Nat}(c:1<=p/\p<=32)(d:1<=f/\f<=32):aJ (bA p f [])=true:=by
 rw[aH];refine⟨λj b=>by grind [bA],aY.2 ⟨by grind [bA,eB],by grind [bA,eB],by grind [bA,eB],λj b=>?_⟩,bq.2 ⟨λj b=>?_,by grind [bA,dS],by grind [bA,dS]⟩,λj b=>?_,by simp[bA],by simp[bA],by simp[bA]⟩
 ·have a:j<f:=by grind [bA,eB]
  rw[show nth (bA p f []).F.V.W j=List.replicate 16 0 from eU a,show nth (bA p f []).F.V.y j=false from eU a]
  decide
 all_goals grind [P5,bA,dS,nth,mt,eB]
theorem xT(w:World)(q:Nat)(a:Array Obj):bG NO w (Sort.grow (w.drewN q) a):=by
 have c:∀b,b<w.heap.size->(Sort.grow (w.drewN q) a).heap[b]? = w.heap[b]?:=λb c=>Sort.heap_grow_old (w.drewN q) a c
 refine⟨rfl,rfl,rfl,ψ,λb h _=>c b h,λb o h _=>?_,λb o h _=>?_⟩
 all_goals grind [Go.World.cell?,Go.World.frozen?,mp]
theorem L9(c:Nat)(W:World):Calls Tryz.prog 455 #[.slice none 0 c] W λe g=>∃B q h,e=.returned (.slice B 0 0)/\g=Sort.grow (W.drewN q) h:=by
 have q22:∀(w:World)(a:Option Addr)(n c b d:Nat),(binOp .eql 33 (.slice a n c) (.slice none b d)).run Tryz.prog w=.ok (.bool a.isNone) w:=λw a n c b d=>Lib.run_eql_slice_nil w _ _ a n c b d Tryz.underlying33
 go_enter Tryz.func455,Tryz.ntmps455
 go_wp2
 go_ret
 exact⟨none,0,#[],rfl,by simp[Sort.grow,World.drewN]⟩
theorem HY(a:Addr)(c:Nat)(W:World):Calls Tryz.prog 455 #[.slice (some a) 0 c] W λe g=>∃B q h,e=.returned (.slice B 0 0)/\g=Sort.grow (W.drewN q) h:=by
 have q22:∀(w:World)(a:Option Addr)(n c b d:Nat),(binOp .eql 33 (.slice a n c) (.slice none b d)).run Tryz.prog w=.ok (.bool a.isNone) w:=λw a n c b d=>Lib.run_eql_slice_nil w _ _ a n c b d Tryz.underlying33
 go_enter Tryz.func455,Tryz.ntmps455
 go_wp2
 go_ret
 exact⟨some ⟨W.heap.size,0,none⟩,0,#[.cells #[] 3],rfl,by rw[Sort.alloc_eq_grow];rfl⟩
theorem Jr(xs:List Int)(o:xs.length<=1048576):zzA 455 false [.val none (aG .S xs)] .one (aG .own xs):=by
 by_cases c:xs=[]
 ·subst c
  refine⟨⟨_,Tryz.func455,by kernel_rfl,by kernel_rfl⟩,λw S p t d=>?_⟩
  match p,d with
  | [v],⟨d,_⟩=>
   have b:=bC.rep1 (show bC w S NO none [C.s .S []] v from d);obtain⟨l,g,rfl⟩:=b.slice;have r:Calls Tryz.prog 455 #[.slice l 0 g] w λe n=>∃B q i,e=.returned (.slice B 0 0)/\n=Sort.grow (w.drewN q) i:=by
    cases l with
    | none=>grind [L9]
    | some a=>grind [HY]
   refine r.mono λe n ⟨B,q,i,c,j⟩=>?_
   subst j;exact⟨.slice B 0 0,c,xT w q i,NO,NO,λ_ _ h=>h.elim,λ_ _ h=>h.elim,λ_ _ h=>h.elim,rfl,row1 (.nil _ .own B trivial)⟩
 have k:xs.map (rI .S)≠[]:=by simp_all
 refine fO 8 [] Tryz.func455 rfl ?_ (.inr (bO _))
 repeat'(first|refine gP ?_|refine Nn.mk k ?_|refine CP (λ_=>rfl) (λ_=>rfl) o (by decide) ?_)
 rfl
def rE(p:cf)(a:cf.sml p):zzA 332 false [.val (some 3) (cf.enc .S p)] .agg (cf.enc .own p):=by
 have b:p.W.length<=1048576:=a;refine fO 8 [] Tryz.func332 rfl ?_ (.inr (cf.enc_fr _))
 repeat'(first|refine gP ?_|refine C8 (Jr p.W b) ?_)
 rfl
def tc(j:cz)(a:cz.sml j):zzA 185 false [.val (some 5) (cz.enc .S j)] .agg (cz.enc .own j):=by
 refine fO 8 [] Tryz.func185 rfl ?_ (.inr (cz.enc_fr _))
 repeat'(first|refine gP ?_|refine C8 (rE j.b a) ?_)
 rfl
def iZ(c:aF)(d:aF.sml c):zzA 204 false [.val (some 1) (aF.enc .S c)] .agg (aF.enc .own c):=by
 have g:=d.1;refine fO 26 [(5,10,[13,14,15,16,17,18,19,20,21,22])] Tryz.func204 rfl ?_ (.inr (Cg _))
 refine ZP ?_
 refine CF (ι:=Nat) (λi=>[(1,.G .box (aF.enc .S c)),(2,.G .box [.z]),(3,.G .box [.s .own ((c.X.take i).map (aG .own))]),(4,.G .one [I ((i:Nat):Int)])]) (λi=>i<=c.X.length) (λi=>c.X.length - i) (0) ?_ (X0 _) λi h=>?_
 ·exact wB
 by_cases a:i<c.X.length
 ·have e:=ar a
  have b:(nth c.X i).length<=1048576:=d.2 _ (au a)
  repeat'(first|refine gE ?_|refine CU (λ_=>rfl) (λ_=>rfl) b (by decide) ?_|refine Ap.sn (aK λ_=>rfl) rfl (by simp;omega) (by decide) (fm a) ?_)
  (refine CD (i+1) ω ω ?_;(exact wB))
 refine ZE ?_
 obtain rfl:i=c.X.length:=ω
 rw[I5]
 rfl
def gT(c:aF)(d:aF.sml c):zzA 182 false [.val (some 1) (aF.enc .S c)] .agg (aF.enc .own c):=by
 have g:=d.1;refine fO 23 [(5,5,[14,15,16,17,18])] Tryz.func182 rfl ?_ (.inr (Cg _))
 refine ZP ?_
 refine CF (ι:=Nat) (λi=>[(2,.G .box [.z]),(3,.G .box [.s .own ((c.X.take i).map (aG .own))]),(8,.G .one (jV .S c.X)),(9,.G .one [I (c.X.length)]),(10,.G .one [I ((i:Nat):Int)])]) (λi=>i<=c.X.length) (λi=>c.X.length - i) (0) ?_ (X0 _) λi h=>?_
 ·exact wB
 by_cases a:i<c.X.length
 ·have e:=ar a
  have b:(nth c.X i).length<=1048576:=d.2 _ (au a)
  repeat'(first|refine gE ?_|refine C8 (cD (nth c.X i) b) ?_|refine Ap.sn (aK λ_=>rfl) rfl (by simp;omega) (by decide) (fm a) ?_)
  (refine CD (i+1) ω ω ?_;(exact wB))
 refine ZE ?_
 obtain rfl:i=c.X.length:=ω
 rw[I5]
 rfl
def gg(m:aN)(b:aN.sml m):zzA 205 false [.val (some 2) (aN.enc .S m)] .agg (aN.enc .own m):=by
 have h:=b.1.1;have g:=b.2.1;refine fO 46 [(5,10,[14,15,16,17,18,19,20,21,22,23]),(9,10,[33,34,35,36,37,38,39,40,41,42])] Tryz.func205 rfl ?_ (.inr (Ce _))
 refine ZP ?_
 refine CF (ι:=Nat) (λi=>[(1,.G .box (aN.enc .S m)),(2,.G .box [.z,.z]),(3,.G .box [.s .own ((m.U.take i).map (bJ .own)),.z]),(4,.G .one [I ((i:Nat):Int)])]) (λi=>i<=m.U.length) (λi=>m.U.length - i) (0) ?_ (X0 _) λi j=>?_
 ·exact wB
 by_cases c:i<m.U.length
 ·have d:=ar c
  have a:(nth m.U i).length<=1048576:=(b.1.2 _ (au c)).1
  repeat'(first|refine gE ?_|refine CU (λ_=>rfl) (λ_=>rfl) a (by decide) ?_|refine Ap.sn (aK λ_=>rfl) rfl (by simp;omega) (by decide) (fm c) ?_)
  (refine CD (i+1) ω ω ?_;(exact wB))
 obtain rfl:i=m.U.length:=ω
 rw[I5]
 refine ZE ?_
 refine CF (ι:=Nat) (λk=>[(1,.G .box (aN.enc .S m)),(2,.G .box [.z,.z]),(3,.G .box [.s .own (m.U.map (bJ .own)),.s .own ((m.g.take k).map (aG .own))]),(5,.G .one [I ((k:Nat):Int)])]) (λk=>k<=m.g.length) (λk=>m.g.length - k) (0) ?_ (X0 _) λk l=>?_
 ·exact wB
 by_cases e:k<m.g.length
 ·have d:=ar e
  have a:(nth m.g k).length<=1048576:=b.2.2 _ (au e)
  repeat'(first|refine gE ?_|refine CU (λ_=>rfl) (λ_=>rfl) a (by decide) ?_|refine Ap.sn (aK λ_=>rfl) rfl (by simp;omega) (by decide) (fm e) ?_)
  (refine CD (k+1) ω ω ?_;(exact wB))
 refine ZE ?_
 obtain rfl:k=m.g.length:=ω
 rw[I5]
 rfl
def io(m:aN)(b:aN.sml m):zzA 183 false [.val (some 2) (aN.enc .S m)] .agg (aN.enc .own m):=by
 have h:=b.1.1;have g:=b.2.1;refine fO 41 [(5,6,[16,17,18,19,20,21]),(10,5,[32,33,34,35,36])] Tryz.func183 rfl ?_ (.inr (Ce _))
 refine ZP ?_
 refine CF (ι:=Nat) (λi=>[(1,.G .box (aN.enc .S m)),(2,.G .box [.z,.z]),(3,.G .box [.s .own ((m.U.take i).map (bJ .own)),.z]),(10,.G .one (xQ .S m.U)),(11,.G .one [I (m.U.length)]),(12,.G .one [I ((i:Nat):Int)])]) (λi=>i<=m.U.length) (λi=>m.U.length - i) (0) ?_ (X0 _) λi j=>?_
 ·exact wB
 by_cases c:i<m.U.length
 ·have d:=ar c
  have a:(nth m.U i).length<=1048576:=(b.1.2 _ (au c)).1
  repeat'(first|refine gE ?_|refine CU (λ_=>rfl) (λ_=>rfl) a (by decide) ?_|refine Ap.sn (aK λ_=>rfl) rfl (by simp;omega) (by decide) (fm c) ?_)
  (refine CD (i+1) ω ω ?_;(exact wB))
 obtain rfl:i=m.U.length:=ω
 rw[I5]
 refine ZE ?_
 refine CF (ι:=Nat) (λk=>[(2,.G .box [.z,.z]),(3,.G .box [.s .own (m.U.map (bJ .own)),.s .own ((m.g.take k).map (aG .own))]),(26,.G .one (jV .S m.g)),(27,.G .one [I (m.g.length)]),(28,.G .one [I ((k:Nat):Int)])]) (λk=>k<=m.g.length) (λk=>m.g.length - k) (0) ?_ (X0 _) λk l=>?_
 ·exact wB
 by_cases e:k<m.g.length
 ·have d:=ar e
  have a:(nth m.g k).length<=1048576:=b.2.2 _ (au e)
  repeat'(first|refine gE ?_|refine C8 (cD (nth m.g k) a) ?_|refine Ap.sn (aK λ_=>rfl) rfl (by simp;omega) (by decide) (fm e) ?_)
  (refine CD (k+1) ω ω ?_;(exact wB))
 refine ZE ?_
 obtain rfl:k=m.g.length:=ω
 rw[I5]
 rfl
def tl(q:bt)(b:bt.sml q):zzA 206 false [.val (some 2) (bt.enc .S q)] .agg (bt.enc .own q):=by
 have a:q.q.length<=1048576:=b.1;refine fO 10 [(1,6,[3,4,5,6,7,8])] Tryz.func206 rfl ?_ (.inr (bt.enc_fr _))
 repeat'(first|refine gP ?_|refine CU (λ_=>rfl) (λ_=>rfl) a (by decide) ?_|refine CP (λ_=>rfl) (λ_=>rfl) a (by decide) ?_)
 rfl
def mF(q:bt)(b:bt.sml q):zzA 184 false [.val (some 2) (bt.enc .S q)] .agg (bt.enc .own q):=by
 have a:q.q.length<=1048576:=b.1;refine fO 10 [(1,6,[3,4,5,6,7,8])] Tryz.func184 rfl ?_ (.inr (bt.enc_fr _))
 repeat'(first|refine gP ?_|refine CU (λ_=>rfl) (λ_=>rfl) a (by decide) ?_|refine CP (λ_=>rfl) (λ_=>rfl) a (by decide) ?_)
 rfl
def uw(j:cz)(a:cz.sml j):zzA 207 false [.val (some 5) (cz.enc .S j)] .agg (cz.enc .own j):=by
 have b:j.b.W.length<=1048576:=a;refine fO 11 [] Tryz.func207 rfl ?_ (.inr (cz.enc_fr _))
 repeat'(first|refine gP ?_|refine CP (λ_=>rfl) (λ_=>rfl) b (by decide) ?_)
 rfl
def kS(xs:List aE)(a:gc xs):zzA 181 false [.val none (bp .S xs)] .one (bp .own xs):=by
 have b:=a.1;refine fO 6 [] Tryz.func181 rfl ?_ (.inr (iR _))
 repeat'(first|refine gP ?_|refine CP (λ_=>rfl) (λ_=>rfl) b (by decide) ?_)
 rfl
def TX(h:ac)(a:C):List C:=[.s .own (h.H.F.V.W.map (aG .own)),.s .own (h.H.F.V.y.map (rB .own)),.s .own (h.H.F.Q.O.map (bo.enc .own)),I h.H.Calls,.s .own (h.H.d.map (rI .own)),.s .own (h.a.map (aE.enc .own)),.s .own (h.K.map (aA.enc .own)),.s .own (h.J.map (aD.enc .own)),.s .own (h.M.map (bi.enc .own)),a,.s .S (h.j.U.map (bJ .S)),.s .S (h.j.g.map (aG .S)),I h.a3.b3,.s .S (h.a3.q.map (aQ.enc .S)),I h.b5,I h.a8,I h.b7,I h.o,B h.a2,I h.a5.b.a7,I h.a5.b.a9,.s .S (h.a5.b.W.map (rI .S)),I h.a5.b1,I h.a5.o]
def md:List C:=[.z,.z,.z,I 0,.z,.z,.z,.z,.z,.z,.z,.z,I 0,.z,I 0,I 0,I 0,I 0,B false,I 0,I 0,.z,I 0,I 0]
def R0(h:ac)(c:ac.sml h):zzA 72 false [.val (some 24) (ac.enc .S h)] .agg (ac.enc .own h):=by
 obtain⟨d,e,g,j,k,b,l,n,o⟩:=c;have p:=e.1;have q:=g.1;have r:=j.1;have t:=k.1;have w:=b.1;refine fO 61 [] Tryz.func72 rfl ?_ (.inr (ac.enc_fr _))
 repeat'(first|refine gP ?_|refine C8 (DQ h.H d) ?_|refine CP (λ_=>rfl) (λ_=>rfl) p (by decide) ?_|refine CP (λ_=>rfl) (λ_=>rfl) q (by decide) ?_|refine CP (λ_=>rfl) (λ_=>rfl) r (by decide) ?_|refine CP (λ_=>rfl) (λ_=>rfl) t (by decide) ?_)
 refine CF (ι:=Nat) (λi=>[(1,.G .box (TX h (.s .S (h.T.map (aF.enc .S))))),(2,.G .box md),(3,.G .one ([.s .own ((h.T.take i).map (aF.enc .own))])),(4,.G .one [I ((i:Nat):Int)])]) (λi=>i<=h.T.length) (λi=>h.T.length - i) (0) ?_ (X0 _) λi y=>?_
 ·exact wB
 by_cases a:i<h.T.length
 ·have u:=ar a
  repeat'(first|refine gE ?_|refine C8 (iZ (nth h.T i) (b.2 _ (au a))) ?_|refine Ap.sn (aK λ_=>rfl) rfl (by simp;omega) (by decide) (fm a) ?_)
  (refine CD (i+1) ω ω ?_;(exact wB))
 obtain rfl:i=h.T.length:=ω
 rw[I5]
 repeat'(first|refine gE ?_|refine C8 (gg h.j l) ?_|refine C8 (tl h.a3 n) ?_|refine C8 (uw h.a5 o) ?_)
 rfl
def iu(h:ac)(c:ac.sml h):zzA 62 false [.val (some 24) (ac.enc .S h)] .agg (ac.enc .own h):=by
 obtain⟨d,e,g,j,k,b,l,n,o⟩:=c;have p:=g.1;have q:=j.1;have r:=k.1;have u:=b.1;refine fO 59 [(11,5,[38,39,40,41,42])] Tryz.func62 rfl ?_ (.inr (ac.enc_fr _))
 repeat'(first|refine gP ?_|refine C8 (gm h.H d) ?_|refine C8 (kS h.a e) ?_|refine CP (λ_=>rfl) (λ_=>rfl) p (by decide) ?_|refine CP (λ_=>rfl) (λ_=>rfl) q (by decide) ?_|refine CP (λ_=>rfl) (λ_=>rfl) r (by decide) ?_)
 refine CF (ι:=Nat) (λi=>[(1,.G .box (ac.enc .S h)),(2,.G .box md),(3,.G .box (TX h (.s .own ((h.T.take i).map (aF.enc .own))))),(32,.G .one (pE .S h.T)),(33,.G .one [I (h.T.length)]),(34,.G .one [I ((i:Nat):Int)])]) (λi=>i<=h.T.length) (λi=>h.T.length - i) (0) ?_ (X0 _) λi w=>?_
 ·exact wB
 by_cases a:i<h.T.length
 ·have t:=ar a
  repeat'(first|refine gE ?_|refine C8 (gT (nth h.T i) (b.2 _ (au a))) ?_|refine Ap.sn (aK λ_=>rfl) rfl (by simp;omega) (by decide) (fm a) ?_)
  (refine CD (i+1) ω ω ?_;(exact wB))
 obtain rfl:i=h.T.length:=ω
 rw[I5]
 repeat'(first|refine gE ?_|refine C8 (io h.j l) ?_|refine C8 (mF h.a3 n) ?_|refine C8 (tc h.a5 o) ?_)
 rfl
theorem Ap.sm{a:List (List C)}(h1:∀r∈rows,r.length=sz)(e:r.length=sz)(f:rows.length+1<=1073741824)(b:by_<=1000)(c:a=rows++[r])(d:K a):Ap false rows [r] sz by_ K:=
 CT h1 ψ ψ (by simp;omega) (z5 (Nat.mul_le_mul ω b) (by decide)) c d
def CV:type_of% @Ap.sm:=@Ap.sm
theorem Ap.s2{c:List (List C)}{a b:List C}(h1:∀r∈rows,r.length=sz)(g:a.length=sz)(h:b.length=sz)(i:rows.length+2<=1073741824)(d:by_<=1000)(e:c=rows++[a,b])(f:K c):Ap false rows [a,b] sz by_ K:=
 CT h1 ψ ψ (by simp;omega) (z5 (Nat.mul_le_mul ω d) (by decide)) e f
def vz(y:aE)(a:List aE)(r:aE)(out:List aE)(done:Bool):ju (y::a) r out done=if ovl y r then none
  else if y.At+y.a4=r.At then ju a ⟨y.At,y.a4+r.a4⟩ out done
  else if r.At+r.a4=y.At then ju a ⟨r.At,r.a4+y.a4⟩ out done
  else if y.At > r.At/\done=false then ju a r (out++[r,y]) true
  else ju a r (out++[y]) done:=by rw[ju]
variable{xs:List aE}{pages:Int}
theorem tZ(h:bF pages xs=true):jR xs/\∀y∈xs,0<=y.At/\1<=y.a4/\y.At+y.a4<=pages:=by
 unfold bF at h;simp only[I0,C0]at h;have d:∀i,i<xs.length->1<=(nth xs i).a4/\0<=(nth xs i).At/\(nth xs i).At<=pages - (nth xs i).a4:=λi a=>by grind [fy,gv,rangeIn]
 have e:∀i,i+1<xs.length->(nth xs i).At+(nth xs i).a4<(nth xs (i+1)).At:=λi a=>by grind [fy,gv]
 have f:∀j i,i<j->j<xs.length->(nth xs i).At+(nth xs i).a4<(nth xs j).At:=λj=>by
  induction j with
  | zero=>intro i a;omega
  | succ j k=>
   grind
 refine⟨⟨?_,λy g=>?_⟩,λy g=>?_⟩
 ·rw[List.pairwise_iff_getElem]
  intro i j a c b;have:=f j i b c
  rwa [b8 (X2 a),b8 (X2 c)]at this
 all_goals grind [bu]
theorem fN[Inhabited α]{xs:List α}(a:i<xs.length):xs.drop i=nth xs i::xs.drop (i+1):=by
 rw[List.drop_eq_getElem_cons a,b8 (X2 a)]
def ce(pages:Int)(xs:List aE)(r:aE):Option (List aE):=if bF pages xs=true/\rangeIn pages r=true then ju xs r [] false else none
def DW(xs:List aE)(o:Option (List aE)):List C:=bp .own (o.getD xs)++[B o.isSome]
def lE(xs:List aE)(o:Option (List aE)):g0 (DW xs o):=aB (iR _) ⟨trivial,trivial⟩
theorem Bi(pages:Int)(xs:List aE)(r:aE)(w:0<=pages/\pages<=1048576)(l:gc xs):zzA 254 false [.val none [I pages],.val none (bp .S xs),.val (some 2) (aE.enc .S r)] (.tup [none,none]) (DW xs (ce pages xs r)):=by
 have L:=l.1;have j:=mS pages xs w l;have n:=xA pages r w;have o:=kS xs l;cases k:bF pages xs<;>rw[k]at j
 ·rw[show ce pages xs r=none by unfold ce;rw[CB (by rw[k];simp)]]
  refine fO 111 [] Tryz.func254 rfl ?_ (.inr (lE _ _))
  refine ZP ?_
  rfl
 cases p:rangeIn pages r<;>rw[p]at n
 ·rw[show ce pages xs r=none by unfold ce;rw[CB (by rw[p];simp)]]
  refine fO 111 [] Tryz.func254 rfl ?_ (.inr (lE _ _))
  refine ZP ?_
  rfl
 rw[show ce pages xs r=ju xs r [] false by unfold ce;rw[CC ⟨k,p⟩]];obtain⟨M,G⟩:=tZ k;have H:0<=r.At/\1<=r.a4/\r.At+r.a4<=pages:=by grind [rangeIn]
 refine fO 111 [] Tryz.func254 rfl ?_ (.inr (lE _ _))
 refine ZP ?_
 refine CF (ι:=Nat × aE × List aE × Bool) (λq=>[(1,.G .one (bp .S xs)),(5,.G .box (aE.enc .S q.2.1)),(8,.G .one (bp .own q.2.2.1)),(9,.G .one [B (q.2.2.2)]),(25,.G .one (bp .S xs)),(26,.G .one [I (xs.length)]),(27,.G .one [I ((q.1:Nat):Int)])]) (λq=>q.1<=xs.length/\ju (xs.drop q.1) q.2.1 q.2.2.1 q.2.2.2=ju xs r [] false/\(0<=q.2.1.At/\1<=q.2.1.a4/\q.2.1.At+q.2.1.a4<=pages)/\q.2.2.1.length<=2*q.1) (λq=>xs.length - q.1) ((0,r,[],false)) ?_ (⟨X0 _,rfl,H,X0 _⟩) λq c=>?_
 ·exact wB
 obtain⟨i,d,out,done⟩:=q;obtain⟨J,b,e,t⟩:=c;simp only at J b e t |-;by_cases u:i<xs.length
 ·have g:=ar u
  have N:=G _ (au u);rw[fN u]at b;by_cases h:ovl (nth xs i) d=true
  ·rw[<-b]
   rw[vz,CC h];unfold ovl at h;rw[C0]at h
   repeat'(first|refine gE ?_|with_reducible refine Bf.D (λc=>?_) (λc=>?_))
   rfl
  have a:=b;rw[vz,CB h]at a;unfold ovl at h;rw[C0]at h;by_cases y:(nth xs i).At+(nth xs i).a4=d.At
  ·rw[CC y]at a
   repeat'(first|refine gB ?_|with_reducible refine Bf.D (λc=>?_) (λc=>?_))
   (refine CD (i+1,⟨(nth xs i).At,(nth xs i).a4+d.a4⟩,out,done) ⟨(by simp only;omega),a,(by simp only;omega),(by simp only;omega)⟩ (by simp only;omega) ?_;(exact wB))
  rw[CB y]at a;by_cases F:d.At+d.a4=(nth xs i).At
  ·rw[CC F]at a
   repeat'(first|refine gB ?_|with_reducible (first|refine Bf.D (λc=>?_) (λc=>?_)|refine Bf.E (λc=>?_) (λc=>?_)))
   (refine CD (i+1,⟨d.At,d.a4+(nth xs i).a4⟩,out,done) ⟨(by simp only;omega),a,(by simp only;omega),(by simp only;omega)⟩ (by simp only;omega) ?_;(exact wB))
  rw[CB F]at a;by_cases K:(nth xs i).At > d.At
  ·cases done with
   | false=>
    rw[CC ⟨K,rfl⟩]at a
    repeat'(first|refine gB ?_|with_reducible (first|refine Bf.D (λc=>?_) (λc=>?_)|refine Bf.E (λc=>?_) (λc=>?_))|refine Ap.s2 (aK λ_=>rfl) rfl rfl (by simp;omega) (by decide) rfl ?_)
    ((conv=>whnf)
     refine CD (i+1,d,out++[d,nth xs i],true) ⟨(by simp only;omega),a,e,(by simp;omega)⟩ (by simp only;omega) ?_
     (repeat'(first|exact trivial|rfl|exact CJ rfl (CJ (Z0 (C.s dA.own) (by simp[aE.enc])) trivial)|refine CJ ?_ ?_)))
   | true=>
    rw[CB (by simp)]at a
    repeat'(first|refine gB ?_|with_reducible (first|refine Bf.D (λc=>?_) (λc=>?_)|refine Bf.E (λc=>?_) (λc=>?_))|refine CV (aK λ_=>rfl) rfl (by simp;omega) (by decide) rfl ?_)
    ((conv=>whnf)
     refine CD (i+1,d,out++[nth xs i],true) ⟨(by simp only;omega),a,e,(by simp;omega)⟩ (by simp only;omega) ?_
     (repeat'(first|exact trivial|rfl|exact CJ rfl (CJ (Z0 (C.s dA.own) (by simp[aE.enc])) trivial)|refine CJ ?_ ?_)))
  rw[CB ω]at a
  repeat'(first|refine gB ?_|with_reducible (first|refine Bf.D (λc=>?_) (λc=>?_)|refine Bf.E (λc=>?_) (λc=>?_))|refine CV (aK λ_=>rfl) rfl (by simp;omega) (by decide) rfl ?_)
  ((conv=>whnf)
   refine CD (i+1,d,out++[nth xs i],done) ⟨(by simp only;omega),a,e,(by simp;omega)⟩ (by simp only;omega) ?_
   (repeat'(first|exact trivial|rfl|exact CJ rfl (CJ (Z0 (C.s dA.own) (by simp[aE.enc])) trivial)|refine CJ ?_ ?_)))
 obtain rfl:i=xs.length:=ω
 rw[List.drop_length]at b;cases done with
 | false=>
  rw[<-b]
  repeat'(first|refine gE ?_|refine CV (aK λ_=>rfl) rfl (by simp;omega) (by decide) rfl ?_)
  show [C.s dA.own _,B true]=[C.s dA.own _,B true]
  grind [ju,aE.enc]
 | true=>
  rw[<-b]
  refine ZE ?_
  rfl
theorem xt[Inhabited α](R:Int->Int->Prop)(n:∀a b c,R a b->R b c->R a c)(f:α->Int)(xs:List α):(∀i,i<xs.length->i=0\/R (f (nth xs (i - 1))) (f (nth xs i)))↔xs.Pairwise (λa b=>R (f a) (f b)):=by
 constructor
 ·intro h
  have l:∀j i,i<j->j<xs.length->R (f (nth xs i)) (f (nth xs j)):=λj=>by
   induction j with
   | zero=>intro i d;omega
   | succ j o=>
    grind
  rw[List.pairwise_iff_getElem];intro i j d k g;have:=l j i g k
  rwa [b8 (X2 d),b8 (X2 k)]at this
 intro h i d;by_cases e:i=0
 ·exact .inl e
 right
 have:=List.pairwise_iff_getElem.1 h (i - 1) i ω d ω
 rwa [<-b8 (X2 (show i - 1<xs.length by omega)),<-b8 (X2 d)]at this
theorem B5[Inhabited α](f:α->Int)(xs:List α):(∀i,i<xs.length->∀o∈xs.take i,f o≠f (nth xs i))↔(xs.map f).Nodup:=by
 unfold List.Nodup;rw[List.pairwise_map,List.pairwise_iff_getElem];constructor
 ·intro h i j b a c
  have:=h j a xs[i] (List.mem_take_iff_getElem.2 ψ)
  rwa [b8 (X2 a)]at this
 intro h i b o d;obtain⟨j,a,rfl⟩:=List.mem_take_iff_getElem.1 d;rw[b8 (X2 b)]
 grind
def fT(s:aA)(a:Int):Prop:=16*s.R<=a/\a<=16*s.R+15/\(a - 16*s.R) % csz s.Z=0/\bh s.a6 ((a - 16*s.R) / csz s.Z)=true
def jz(sp:List aA)(a c:Int):Prop:=∃s∈sp,fT s a/\(c<0\/s.Z=c)
def UT(la:List aD)(a z:Int):Prop:=∃l∈la,a=16*l.R/\l.a1=z
def Qb(sp:List aA)(la:List aD)(o:bi):Prop:=(∃s∈sp,fT s o.Addr/\s.Z=aS o.a1)\/UT la o.Addr o.a1
def nw(sp:List aA)(la:List aD)(a:Int):Prop:=jz sp a (-1)\/∃l∈la,a=16*l.R
theorem nt(f:oc sp la)(a:Int):(∃i,i<sp.length/\(16*(nth sp i).R<=a/\a<=16*(nth sp i).R+15)/\denotes sp la a=qa i (nth sp i) a)\/((∀s∈sp,¬(16*s.R<=a/\a<=16*s.R+15))/\((∃i,i<la.length/\bQ (nth la i) a=true/\denotes sp la a = ⟨3,i,0,a - 16*(nth la i).R⟩)\/((∀l∈la,bQ l a=false)/\denotes sp la a = ⟨0,0,0,0⟩))):=by
 cases d:sp.findIdx? (dG · a) with
 | some i=>
  obtain⟨b,c,-⟩:=S7.1 d;rw[<-b8 (X2 b)]at c
  grind [gR,oc.sok,au,denotes]
 | none=>
  have g:=List.findIdx?_eq_none_iff.1 d;refine .inr ⟨λs h j=>?_,?_⟩
  ·grind [gR,oc.sok]
  cases e:la.findIdx? (bQ · a) with
  | some i=>
   obtain⟨b,c,-⟩:=S7.1 e;rw[<-b8 (X2 b)]at c
   grind [denotes]
  | none=>grind [denotes]
theorem NN(l:oc h.K h.J) : dx h a c=true↔jz h.K a c:=by
 unfold dx;simp only[I0,W6,C0];constructor
 ·rintro⟨⟨b,f⟩,d⟩
  rcases nt l a with⟨i,j,k,g⟩|⟨-,⟨i,j,-,g⟩|⟨-,g⟩⟩
  ·rw[g]at b f d
   simp only[qa]at b f d;refine⟨_,au j,⟨k.1,k.2,f,?_⟩,by simpa using d⟩;cases e:bh (nth h.K i).a6 ((a - 16*(nth h.K i).R) / csz (nth h.K i).Z) with
   | true=>rfl
   | false=>rw[e]at b;simp at b
  all_goals grind
 rintro⟨s,n,⟨o,p,q,r⟩,d⟩
 grind [bu,ix,qa]
theorem Aq(a:oc sp la)(c:l∈la):(∀s∈sp,¬(16*s.R<=16*l.R/\16*l.R<=16*s.R+15))/\bQ l (16*l.R)=true/\∀i,i<la.length->bQ (nth la i) (16*l.R)=true->nth la i=l:=by
 have k:=aX (a.lok _ c);have f:=cF (a.lok _ c);refine⟨λs g n=>?_,?_,λi d e=>?_⟩
 ·exact a.dis s g l c 0 ω ω
 ·grind [oc.lok,bQ]
 obtain⟨j,h,rfl⟩:=bu c;have o:=aX (a.lok _ (au d));have b:=a.lok _ (au d);unfold bZ at b;rw[C0]at b;unfold bQ at e;rw[I0,C0]at e;rw[a.one i j d h ((nth la j).R - (nth la i).R).toNat 0 ω ω ω]
theorem Ns(f:oc h.K h.J) : lw h o=true↔Qb h.K h.J o:=by
 unfold lw;simp only[I0,W6,C0];constructor
 ·rintro⟨b,a⟩
  rcases nt f o.Addr with⟨i,d,g,c⟩|⟨-,⟨i,d,-,c⟩|⟨-,c⟩⟩
  ·rw[c]at a b
   simp only[qa]at a b;have e:bh (nth h.K i).a6 ((o.Addr - 16*(nth h.K i).R) / csz (nth h.K i).Z)=true:=ψ
   rw[e]at a;exact .inl ⟨_,au d,⟨g.1,g.2,b,e⟩,by simpa using a⟩
  ·rw[c]at a b
   simp only at a b;exact .inr ⟨_,au d,ω,by simpa using a⟩
  grind
 rintro(⟨s,e,⟨k,n,p,q⟩,r⟩|⟨l,j,t,u⟩)
 ·grind [bu,ix,qa]
 obtain⟨w,y,A⟩:=Aq f j
 grind [nt,au]
theorem H8(j:oc sp la)(a:Int):a∈kW sp la↔nw sp la a:=by
 constructor
 ·intro h
  unfold kW m7 at h;obtain⟨n,o,rfl⟩:=W4.1 h;have c:=(X4.1 o).2;unfold kK at c;simp only[I0,W6,C0]at c;obtain⟨b,d⟩:=c;rcases nt j (n:Int) with⟨i,g,k,f⟩|⟨-,⟨i,g,-,f⟩|⟨-,f⟩⟩
  ·rw[f]at d b
   simp only[qa]at d b;refine .inl ⟨_,au g,⟨k.1,k.2,b,?_⟩,.inl ω⟩;cases e:bh (nth sp i).a6 (((n:Int) - 16*(nth sp i).R) / csz (nth sp i).Z) with
   | true=>rfl
   | false=>rw[e]at d;simp at d
  ·rw[f]at b
   simp only at b;exact .inr ⟨_,au g,ω⟩
  grind
 rintro(⟨s,q,⟨r,c,t,u⟩,-⟩|⟨l,p,rfl⟩)
 ·grind [bu,ix,x4,qa]
 obtain⟨w,y,A⟩:=Aq j p
 grind [nt,au,x4]
def RH(xs:List aE)(p:Int):Prop:=∃r∈xs,r.At<=p/\p<r.At+r.a4
theorem gf : bF pages xs=true↔jR xs/\(∀y∈xs,0<=y.At/\1<=y.a4/\y.At+y.a4<=pages)/\1<=pages/\pages<=32:=by
 constructor
 ·grind [tZ,bF]
 rintro⟨b,c,d⟩
 unfold bF;simp only[I0,C0];refine⟨cx.2 λi a=>?_,d⟩;have f:=c _ (au a);unfold gv rangeIn;simp only[I0,C0];refine⟨ω,?_⟩;by_cases e:i=0
 ·exact .inl e
 right
 have:=List.pairwise_iff_getElem.1 b.1 (i - 1) i ω a ω
 rwa [<-b8 (X2 (show i - 1<xs.length by omega)),<-b8 (X2 a)]at this
theorem FB(h:bF pages xs=true)(p:Int):xs.any (wX p)=true↔RH xs p:=by
 obtain⟨-,c,d⟩:=gf.1 h;rw[z4];refine⟨λ⟨r,a,b⟩=>⟨r,a,?_⟩,λ⟨r,a,b⟩=>⟨r,a,?_⟩⟩
 all_goals grind [fW,wX]
theorem xu(i:Int):∀(f:List aE)(r:aE)(out:List aE),jR f->1<=r.a4->(∀y∈f,ovl y r=false)->(∀z∈out,z.At+z.a4<r.At/\∀y∈f,z.At+z.a4<y.At)->jR out->(∀y∈r::(out++f),0<=y.At/\y.At+y.a4<=i)->∃o,ju f r out false=some o/\jR o/\(∀y∈o,0<=y.At/\y.At+y.a4<=i)/\∀p,RH o p↔RH out p\/RH f p\/(r.At<=p/\p<r.At+r.a4)
 | [],r,out,_,l,_,D,g,j=>by
  refine⟨out++[r],by simp[ju],⟨List.pairwise_append.2 ⟨g.1,List.pairwise_singleton ..,ψ⟩,λy k=>?_⟩,ψ,λp=>by grind [RH]⟩;rcases O3.1 k with k|k
  ·exact g.2 y k
  grind
 | y::f,r,out,c,l,E,D,g,j=>by
  have M:=c.2 y ψ;have h:=E y ψ;have F:=c.head;have G:=j y (by simp);have H:=j r (by simp);have J:∀w∈f,¬(w.At<r.At+r.a4/\r.At<w.At+w.a4):=λw d=>by grind [ovl]
  have K:∀w∈f,1<=w.a4:=λw d=>c.2 w ψ
  rw[vz,CB (by rw[h];simp)];unfold ovl at h;rw[t5]at h;by_cases n:y.At+y.a4=r.At
  ·rw[CC n]
   obtain⟨o,q,t,u,A⟩:=xu i f ⟨y.At,y.a4+r.a4⟩ out c.tail (by simp only;omega) (λw d=>by grind [ovl]) ψ g ψ
   grind [RH]
  rw[CB n];by_cases B:r.At+r.a4=y.At
  ·rw[CC B]
   obtain⟨o,q,t,u,A⟩:=xu i f ⟨r.At,r.a4+y.a4⟩ out c.tail (by simp only;omega) (λw d=>by grind [ovl]) ψ g ψ
   grind [RH]
  rw[CB B];by_cases C:y.At > r.At
  ·have L:r.At+r.a4<y.At:=ω
   rw[CC ⟨C,rfl⟩,qH c.tail l ψ];refine⟨_,rfl,⟨?_,λw d=>?_⟩,ψ,λp=>by grind [RH]⟩
   ·rw[Y5]
    refine List.pairwise_append.2 ⟨g.1,?_,λa N b j=>?_⟩
    ·show(r::y::f).Pairwise _
     refine List.pairwise_cons.2 ⟨λw d=>?_,c.1⟩
     grind
    grind
   simp only[O3,List.mem_cons,List.not_mem_nil,or_false]at d;rcases d with(d|rfl|rfl)|d
   ·exact g.2 w d
   all_goals grind
  rw[CB λe=>C e.1];obtain⟨o,q,t,u,A⟩:=xu i f r (out++[y]) c.tail l ψ ψ ⟨List.pairwise_append.2 ⟨g.1,List.pairwise_singleton ..,ψ⟩,λw d=>by
      rcases O3.1 d with d|d
      · exact g.2 w d
      grind⟩ ψ
  grind [RH]
theorem wt{r:aE}(h:bF pages xs=true)(i:0<=r.At/\1<=r.a4/\r.At+r.a4<=pages)(c:∀p,r.At<=p->p<r.At+r.a4->¬RH xs p):∃o,ce pages xs r=some o/\bF pages o=true/\∀p,RH o p↔RH xs p\/(r.At<=p/\p<r.At+r.a4):=by
 obtain⟨j,k,l⟩:=gf.1 h;have b:rangeIn pages r=true:=by grind [rangeIn]
 unfold ce;rw[CC ⟨h,b⟩];obtain⟨o,n,d,f,q⟩:=xu pages xs r [] j i.2.1 (λy a=>by
   have:=k y a;unfold ovl;rw[t5];intro g;by_cases e:r.At<=y.At
   · exact c y.At e g.1 ⟨y,a,ω,ω⟩
   exact c r.At ω ω ⟨y,a,ω,g.2⟩) ψ ⟨List.Pairwise.nil,ψ⟩ ψ
 refine⟨o,n,gf.2 ⟨d,λy a=>⟨(f y a).1,d.2 y a,(f y a).2⟩,l⟩,λp=>?_⟩
 grind [RH]
structure Pg(t:aO)(fr:List aE)(sp:List aA)(la:List aD):Prop where
 one:∀l∈la,∀p:Nat,(p:Int)∈lpgs l l.w.toNat->∀q:Nat,q<t.O.length->(nth t.O q).k≠0->(nth t.O q).e=(nth t.O p).e->q=p
 bnd:∀p∈pgs sp la,p<t.O.length
 own:∀p:Nat,p<t.O.length->((nth t.O p).k≠0↔(p:Int)∈pgs sp la)
 fre:∀p:Nat,p<t.O.length->((nth t.O p).k≠0↔¬RH fr p)
 mesh:∀s∈sp,∀u∈sp,s.R≠u.R->(nth t.O s.R.toNat).e=(nth t.O u.R.toNat).e->meshable s u=true
structure bg(h:ac)(E:List Int):Prop where
 ker:aJ h.H=true
 rng:bF (eO h) h.a=true
 lay:bx h.K h.J=true
 srs:h.K.Pairwise λa b=>a.R<b.R
 srl:h.J.Pairwise λa b=>a.R<b.R
 pg:Pg (tbl h) h.a h.K h.J
 mail:bB h.j=true
 nc:h.T.length=h.j.U.length
 quar:fQ h.a3=true
 snc:∀x∈h.a3.q,x.b2<=h.a8
 cach:∀c∈h.T,bz c=true
 nums:cg h=true
 osr:h.M.Pairwise λa b=>a.Addr<b.Addr
 onu:∀o∈h.M,1<=o.Id/\o.Id<=h.o - 1/\0<=o.a0/\o.a0<=h.T.length - 1
 oid:(h.M.map (·.Id)).Nodup
 oow:∀o∈h.M,Qb h.K h.J o
 hca:∀c∈h.T,∀k:Nat,k<c.X.length->∀a∈nth c.X k,jz h.K a k
 hqu:∀x∈h.a3.q,jz h.K x.Addr x.Z
 hfl:∀a∈aU h.j,jz h.K a (-1)
 hin:∀a∈E,jz h.K a (-1)
 nd:(E++holders h).Nodup
 mem:∀a,a∈E++holders h↔nw h.K h.J a
 job:h.a2=true->jA h.a5=true/\(∃s∈h.K,s.R=h.a5.b.a7)/\∃s∈h.K,s.R=h.a5.b.a9
 noj:h.a2=false->u6 h.a5=true
variable{E:List Int}
theorem bg.L(a:bg h E):oc h.K h.J:=oc.of a.lay
theorem AI(t:aO)(f:Int):(pagesOn t f).Nodup:=by grind [List.nodup_range,pagesOn,k4]
def QI{l:List Int}(b:l.Nodup)(d:a∈l)(c:∀x∈l,x=a):l.length=1:=by
 match l with
 | []=>cases d
 | [_]=>rfl
 | x::y::r=>
  exfalso;have e:=c x (by simp);have f:=c y (by simp);rw[e,f]at b;simp at b
theorem eG(a:s∈sp):s.R∈pgs sp la:=by grind [pgs]
theorem gk(a:l∈la)(b:p∈lpgs l l.w.toNat):p∈pgs sp la:=by grind [pgs]
theorem TS(b:bx h.K h.J=true)(N:bF (eO h) h.a=true)(A:pages0 h=true)(r:qu h=true):Pg (tbl h) h.a h.K h.J:=by
 have B:=oc.of b;obtain⟨C,D,t⟩:=uC A;have E:∀p:Nat,p<eO h->((nth (tbl h).O p).k≠0↔¬RH h.a p):=λp a=>by grind [fy,FB,pages0,xn]
 refine⟨λl w p c q F e f=>?_,D,t,E,λs G u H J O=>?_⟩
 ·obtain⟨i,y,rfl⟩:=bu w
  obtain⟨k,g,n⟩:=dI.1 c;have a:p<eO h:=by grind [gk]
  have d:=(t p a).2 (gk w c);have K:=C i y k g;rw[<-n,fE a d]at K;have P:(p:Int)∈pagesOn (tbl h) (nth (tbl h).O p).e:=eY.2 ⟨a,d,rfl⟩;have Q:(q:Int)∈pagesOn (tbl h) (nth (tbl h).O p).e:=eY.2 ⟨F,e,f⟩
  grind [List.length_eq_one_iff]
 obtain⟨i,y,rfl⟩:=bu G;obtain⟨j,R,rfl⟩:=bu H;have L:∀k,k<h.K.length->ax (tbl h) (nth h.K k).R=nth (tbl h).O (nth h.K k).R.toNat:=λk g=>by
  have S:=aL (B.sok _ (au g))
  grind [eG,Dp,nth]
 unfold qu at r;rw[cx]at r;rcases Nat.lt_trichotomy i j with o|M|o
 all_goals grind [fy,jQ,ni]
theorem Dh(sp:List aA):df sp.length (xN sp)=true↔sp.Pairwise λa b=>a.R<b.R:=by
 rw[cx];refine Iff.trans ?_ (xt (λa b:Int=>a<b) ω (λs:aA=>s.R) sp)
 grind [xN]
theorem Du(la:List aD):df la.length (yB la)=true↔la.Pairwise λa b=>a.R<b.R:=by
 rw[cx];refine Iff.trans ?_ (xt (λa b:Int=>a<b) ω (λs:aD=>s.R) la)
 grind [yB]
theorem Ug(o:bx h.K h.J=true)(C:bF (eO h) h.a=true)(h1:h.K.Pairwise λa b=>a.R<b.R)(A:h.J.Pairwise λa b=>a.R<b.R)(c:Pg (tbl h) h.a h.K h.J):pages0 h=true/\qu h=true:=by
 have u:=oc.of o;constructor
 ·unfold pages0
  simp only[I0];refine⟨⟨⟨(Dh _).2 h1,cx.2 λi l=>?_⟩,C4.2 λp n=>O0 (c.bnd p n)⟩,cx.2 λp n=>?_⟩
  ·unfold uz
   rw[I0];refine⟨fy ((Du _).2 A) l,cx.2 λk w=>?_⟩;have y:=au l;have D:=aX (u.lok _ y);obtain⟨p,n⟩ : ∃p:Nat,(nth h.J i).R+(k:Nat)=(p:Nat):=⟨((nth h.J i).R+k).toNat,ω⟩
   have q:(p:Int)∈lpgs (nth h.J i) (nth h.J i).w.toNat:=dI.2 ψ;have d:p<eO h:=by have:=c.bnd _ (gk (sp:=h.K) y q);exact Int.ofNat_lt.1 this
   have r:=(c.own p d).2 (gk y q);unfold yU;rw[C0,n,fE d r];refine QI (AI ..) (eY.2 ⟨d,r,rfl⟩) λx E=>?_
   grind [w8,eY,Pg.one]
  unfold xn;rw[I0,C0];refine⟨c.own p n,?_⟩;have F:=c.fre p n
  grind [FB]
 unfold qu;refine cx.2 λi l=>cx.2 λj G=>?_
 have g:j<h.K.length:=ω
 have t:∀k,k<h.K.length->ax (tbl h) (nth h.K k).R=nth (tbl h).O (nth h.K k).R.toNat:=λk w=>by
  have H:=aL (u.sok _ (au w));have J:=c.bnd _ (eG (la:=h.J) (au w))
  grind [Dp,eO,tbl]
 unfold ni;rw[t i l,t j g,W6,C0];by_cases e:(nth (tbl h).O (nth h.K i).R.toNat).e=(nth (tbl h).O (nth h.K j).R.toNat).e
 ·refine .inr (c.mesh _ (au l) _ (au g) (λB=>?_) e)
  have:=gz (f:=(·.R)) u.nd l g B;omega
 exact .inl e
theorem FP(c:cg h=true)(d:oc h.K h.J):gt h=true↔(h.M.Pairwise λa b=>a.Addr<b.Addr)/\(∀o∈h.M,1<=o.Id/\o.Id<=h.o - 1/\0<=o.a0/\o.a0<=h.T.length - 1)/\(h.M.map (·.Id)).Nodup/\∀o∈h.M,Qb h.K h.J o:=by
 unfold cg at c;rw[C0]at c;refine Iff.trans ?_ (and_congr (xt (λa b:Int=>a<b) ω (λo:bi=>o.Addr) h.M) (and_congr Iff.rfl (and_congr (B5 (λo:bi=>o.Id) h.M) Iff.rfl)));unfold gt;rw[fW ω ω,cx];have e:∀i,i<h.M.length->(objAt (h.o - 1) h i=true↔(i=0\/(nth h.M (i - 1)).Addr<(nth h.M i).Addr)/\(1<=(nth h.M i).Id/\(nth h.M i).Id<=h.o - 1/\0<=(nth h.M i).a0/\(nth h.M i).a0<=h.T.length - 1)/\(∀o∈h.M.take i,o.Id≠(nth h.M i).Id)/\Qb h.K h.J (nth h.M i)):=λi f=>by grind [Ns,objAt,i9,ic]
 grind [bu,au]
def yp(b:oc h.K h.J):kf h=true↔(∀c∈h.T,∀k:Nat,k<c.X.length->∀a∈nth c.X k,jz h.K a k)/\(∀x∈h.a3.q,jz h.K x.Addr x.Z)/\∀a∈aU h.j,jz h.K a (-1):=by
 rw[qt];simp only[C4,fw,cx,t7,iw,l7,NN b,and_assoc]
theorem Kv : 0<=gH h p↔∃s∈h.K,s.R=p:=by grind [gH,cj,nj]
theorem bg.of(g:eE h=true):bg h []:=by
 unfold eE mU at g;simp only[I0]at g;obtain⟨⟨⟨⟨⟨⟨⟨⟨⟨⟨r,l⟩,e⟩,j⟩,n⟩,c⟩,t⟩,H⟩,o⟩,k,b⟩,d⟩:=g;have p:=oc.of e;rw[vu e j]at n;have f:=j;unfold pages0 at f;simp only[I0]at f;unfold dJ at c;simp only[I0,C0]at c;unfold kG at b;simp only[I0,C0]at b;obtain⟨⟨u,w⟩,J⟩:=b;obtain⟨y,A,B,C⟩:=(FP o p).1 k;obtain⟨D,E,F⟩:=(yp p).1 u;unfold mD at t;have G:=cx.1 f.1.1.2;refine⟨r,l,e,(Dh _).1 f.1.1.1,(Du _).1 (cx.2 λi K=>?_),TS e l j n,c.1.1,c.1.2,c.2,ψ,ψ,o,y,A,B,C,D,E,F,ψ,(by simpa using w),λa=>?_,λq=>?_,λq=>?_⟩
 ·grind [uz]
 ·grind [H8,ul,sw]
 ·unfold sX at d
  rw[CC q]at d
  grind [Kv]
 grind [sX]
theorem bg.to(b:bg h []):eE h=true:=by
 have c:=b.L;obtain⟨e,g⟩:=Ug b.lay b.rng b.srs b.srl b.pg;have d:=(FP b.nums c).2 ⟨b.osr,b.onu,b.oid,b.oow⟩;have f:=(yp c).2 ⟨b.hca,b.hqu,b.hfl⟩;unfold eE mU;simp only[I0];refine⟨⟨⟨⟨⟨⟨⟨⟨⟨⟨b.ker,b.rng⟩,b.lay⟩,e⟩,by grind [vu,bg.lay]⟩,?_⟩,?_⟩,C4.2 b.cach⟩,b.nums⟩,d,?_⟩,?_⟩
 ·grind [bg.mail,bg.quar,bg.nc,dJ]
 ·grind [bg.snc,mD]
 ·unfold kG
  have i:(holders h).Nodup:=by simpa using b.nd
  have j:∀a,a∈holders h↔a∈kW h.K h.J:=λa=>by rw[H8 c,<-b.mem a];simp
  grind [wh,List.Perm.length_eq]
 grind [bg.job,Kv,bg.noj,sX]
def dele(xs:List α)(i:Nat):List α:=xs.take i++xs.drop (i+1)
theorem fA(xs:List α)(i:Nat):(dele xs i).Sublist xs:=by
 unfold dele;rw[<-List.eraseIdx_eq_take_drop_succ];grind
theorem Dw[Inhabited α]{xs:List α}(a:i<xs.length):xs.Perm (nth xs i::dele xs i):=by
 have:xs=xs.take i++nth xs i::xs.drop (i+1):=by grind [fN,List.take_append_drop]
 conv=>lhs;rw[this]
 exact List.perm_middle
theorem jm{α:Type}[Inhabited α](f:α->List Int)(a:Int):∀(xs:List α)(i:Nat)(y:α),i<xs.length->((xs.set i y).flatMap f).count a+(f (nth xs i)).count a=(xs.flatMap f).count a+(f y).count a
 | [],i,_,h=>by cases h
 | x::xs,0,y,_=>by
  show((y::xs).flatMap f).count a+(f x).count a=((x::xs).flatMap f).count a+(f y).count a
  grind
 | x::xs,i+1,y,h=>by
  have:=jm f a xs i y (by simpa using h);show((x::xs.set i y).flatMap f).count a+(f (nth xs i)).count a=((x::xs).flatMap f).count a+(f y).count a
  grind
theorem lX(a:List (List Int)):a.flatten=a.flatMap λx=>x:=by simp_all
theorem jz.any(h:jz sp a c):jz sp a (-1):=by
 obtain⟨s,b,d,-⟩:=h;exact⟨s,b,d,.inl (by decide)⟩
def bg.cells(a:bg h E)(c:aJ k=true)(b:k.F.Q=h.H.F.Q):bg {h with H:=k} E:=
 {a with
   ker:=c
   rng:=by show bF ((k.F.Q.O.length:Nat):Int) h.a=true;rw[b];exact a.rng
   pg:=by show Pg k.F.Q h.a h.K h.J;rw[b];exact a.pg}
theorem bg.dropO(b:bg h E)(e:i<h.M.length)(j:jz h.K (nth h.M i).Addr (-1)):bg {h with M:=dele h.M i} ((nth h.M i).Addr::E):=by
 have f:(E++holders h).Perm (((nth h.M i).Addr::E)++holders {h with M:=dele h.M i}):=by
  have g:=(Dw e).map (·.Addr);refine List.perm_iff_count.2 λa=>?_
  have k:=g.count_eq a
  grind [holders,cH]
 have c:(dele h.M i).Sublist h.M:=fA ..;exact {b with
   osr:=b.osr.sublist c
   onu:=λo d=>b.onu o (c.subset d)
   oid:=b.oid.sublist (c.map _)
   oow:=λo d=>b.oow o (c.subset d)
   hin:=λa l=>by grind [bg.hin]
   nd:=f.nodup_iff.1 b.nd
   mem:=λa=>by grind [bg.mem]}
def lY(c:aF)(k:Nat)(a:Int):aF:=⟨c.X.set k (nth c.X k++[a])⟩
theorem bg.put{t k:Nat}(e:bg h (a::E))(f:t<h.T.length)(g:k<(nth h.T t).X.length)(p:jz h.K a k)(q:bz (lY (nth h.T t) k a)=true):bg {h with T:=h.T.set t (lY (nth h.T t) k a)} E:=by
 have i:(a::E++holders h).Perm (E++holders {h with T:=h.T.set t (lY (nth h.T t) k a)}):=by
  refine List.perm_iff_count.2 λb=>?_
  have r:=jm (λc:aF=>c.X.flatten) b h.T t (lY (nth h.T t) k a) f;have l:=jm (λx:List Int=>x) b (nth h.T t).X k (nth (nth h.T t).X k++[a]) g;rw[<-lX,<-lX]at l
  grind [lY,holders,cH]
 exact {e with
   nc:=by grind [bg.nc]
   cach:=λc d=>by grind [bg.cach]
   onu:=by show ∀o∈h.M,1<=o.Id/\o.Id<=h.o - 1/\0<=o.a0/\o.a0<=(h.T.set t _).length - 1;rw[Z1];exact e.onu
   hca:=λc d j u b n=>by
     rcases Y6 d with d|rfl
     all_goals grind [bg.hca,cL,au,lY]
   hin:=λb n=>e.hin b ψ
   nd:=i.nodup_iff.1 e.nd
   mem:=λb=>by grind [bg.mem]}
theorem bg.toQuar{x:aQ}{q:bt}{out:List aQ}(c:bg h (x.Addr::E))(f:fQ q=true)(d:h.a3.q++[x]=out++q.q)(j:x.b2<=h.a8)(k:jz h.K x.Addr x.Z):bg {h with a3:=q} (out.map (·.Addr)++E):=by
 have e:∀y∈out++q.q,y.b2<=h.a8/\jz h.K y.Addr y.Z:=λy a=>by
  rw[<-d]at a;rcases O3.1 a with a|a
  ·exact⟨c.snc y a,c.hqu y a⟩
  grind
 have g:(x.Addr::E++holders h).Perm ((out.map (·.Addr)++E)++holders {h with a3:=q}):=by
  refine List.perm_iff_count.2 λb=>?_
  have i:=Z0 (λl:List aQ=>(l.map (·.Addr)).count b) d;simp only[Z5,O6,I6,List.map_nil,List.count_singleton]at i
  grind [holders,cH]
 exact {c with
   quar:=f
   snc:=(ψ)
   hqu:=(ψ)
   hin:=λb n=>by grind [jz.any,bg.hin]
   nd:=g.nodup_iff.1 c.nd
   mem:=λb=>by grind [bg.mem]}
def yR(b i:Int):Int:=((BitVec.ofInt IntKind.i64.bits b &&& ~~~BitVec.ofInt IntKind.i64.bits (2 ^ i.toNat)).toNat:Nat)
def lv(s:aA)(i:Int):aA:={s with a6:=yR s.a6 i}
theorem kn(b i:Int):bh b i=true↔0<=b/\0<=i/\i<=15/\b.toNat.testBit i.toNat=true:=by grind [bh]
variable{b:Int}
theorem H3{i:Int}(d:0<=b/\b<=65535)(a:0<=i/\i<=15)(j:Nat):(yR b i).toNat.testBit j=(b.toNat.testBit j&&decide (i.toNat≠j)):=by
 have e:(2:Int) ^ i.toNat<=32768/\0<=(2:Int) ^ i.toNat:=by
  obtain⟨n,rfl⟩:=I3 a.1;rw[C3];have:(2:Nat) ^ n<=2 ^ 15:=Nat.pow_le_pow_right (by decide) ω
  grind
 unfold yR;rw[C3,BitVec.testBit_toNat,BitVec.getLsbD_and,BitVec.getLsbD_not,<-BitVec.testBit_toNat,<-BitVec.testBit_toNat,qC ω,qC ω];rw[show((2:Int) ^ i.toNat).toNat=2 ^ i.toNat by rw[show(2:Int) ^ i.toNat=((2 ^ i.toNat:Nat):Int) by norm_cast,C3],Nat.testBit_two_pow];by_cases c:j<64
 ·rw[show decide (j<IntKind.i64.bits)=true from O0 c,Bool.true_and]
  grind
 rw[Nat.testBit_lt_two_pow (x:=b.toNat) (i:=j) (v4 (show b.toNat<2 ^ 16 by omega) (Nat.pow_le_pow_right (by decide) ω))]
 rfl
theorem Eo{i:Int}(a:0<=b/\b<=65535):0<=yR b i/\yR b i<=b:=by grind [qC,Nat.and_le_left,yR]
theorem PR{i:Int}(a:0<=b/\b<=65535)(c:0<=i/\i<=15)(j:Int):bh (yR b i) j=true↔bh b j=true/\j≠i:=by grind [kn,H3,Eo]
theorem ec(h:bk s=true):0<=s.a6/\s.a6<=65535:=by
 unfold bk at h;simp only[C0]at h;have:=HU s.Z;omega
theorem KJ(h:bk s=true)(i:Int):bk (lv s i)=true:=by
 have b:=ec h;have a:=Eo (i:=i) b;unfold bk at h;rw[C0]at h;obtain⟨c,d,e,f,j,g⟩:=h;exact O0 ⟨c,d,e,f,a.1,Int.le_trans a.2 g⟩
theorem BO{u:aA}(e:bk s=true){i:Int}(f:0<=i/\i<=15)(h:meshable s u=true):meshable (lv s i) u=true:=by
 unfold meshable at h |-;simp only[I0,C0]at h |-;obtain⟨⟨a,b⟩,c,d,g⟩:=h;refine⟨⟨KJ a i,b⟩,c,d,?_⟩;refine Nat.eq_of_testBit_eq λj=>?_
 grind [H3,ec,lv]
def dP(s:aA)(a:Int):Int:=(a - 16*s.R) / csz s.Z
theorem uX(h:bk s=true)(b:16*s.R<=a/\a<=16*s.R+15):0<=dP s a/\dP s a<=15:=by
 have c:=aL h
 grind [cW,dP]
theorem JY(h:bk s=true)(c:(a - 16*s.R) % csz s.Z=0)(d:(b - 16*s.R) % csz s.Z=0)(e:dP s a=dP s b):a=b:=by
 have f:=aL h
 grind [cW,dP]
theorem BB(h:bk s=true)(k:fT s a)(b:Int):fT (lv s (dP s a)) b↔fT s b/\b≠a:=by
 obtain⟨l,n,o,p⟩:=k;have c:=uX h ⟨l,n⟩;unfold fT;simp only[lv];rw[PR (ec h) c];constructor
 ·rintro⟨g,i,d,j,f⟩
  exact⟨ψ,λe=>f (by rw[e];rfl)⟩
 rintro⟨⟨g,i,d,j⟩,f⟩
 exact⟨g,i,d,j,λe=>f (JY h d o e)⟩
theorem iU[Inhabited α]{xs:List α}{y z:α}(h:z∈xs.set i y):z=y\/∃j,j<xs.length/\j≠i/\nth xs j=z:=by
 obtain⟨j,a,rfl⟩:=List.mem_iff_getElem.1 h;rw[List.getElem_set];by_cases e:i=j
 ·subst e;simp
 rw[CB e];rw[Z1]at a;exact .inr ⟨j,a,λx=>e x.symm,b8 ψ⟩
theorem kz[Inhabited α]{xs:List α}(y:α)(a:j<xs.length)(e:j≠i):nth xs j∈xs.set i y:=by
 have:nth (xs.set i y) j=nth xs j:=by grind [cL]
 grind [au]
theorem jb{xs:List α}(y:α)(a:i<xs.length):y∈xs.set i y:=by grind [List.mem_iff_getElem]
def N5(k:Int)(a:i<sp.length):(sp.set i (lv (nth sp i) k)).map (·.R)=sp.map (·.R):=by
 rw[V6];refine List.ext_getElem (by simp) λj b c=>?_
 rw[List.getElem_set];split
 ·rename_i e;subst e
  rw[List.getElem_map];show(nth sp i).R=_;rw[b8 (X2 a)]
 rfl
def jz.set(q:oc sp la)(k:i<sp.length)(l:fT (nth sp i) a)(b c:Int):jz (sp.set i (lv (nth sp i) (dP (nth sp i) a))) b c↔jz sp b c/\b≠a:=by
 have g:=q.sok _ (au k);constructor
 ·rintro⟨s,o,d,h⟩
  rcases iU o with rfl|⟨j,n,r,rfl⟩
  ·have:=(BB g l b).1 d
   exact⟨⟨_,au k,this.1,h⟩,this.2⟩
  refine⟨⟨_,au n,d,h⟩,λe=>?_⟩;subst e;have:=gz (f:=(·.R)) q.nd k n (by have t:=l.1;have u:=l.2.1;have w:=d.1;have y:=d.2.1;omega);omega
 rintro⟨⟨s,o,d,h⟩,p⟩
 obtain⟨j,n,rfl⟩:=bu o;by_cases e:j=i
 ·subst e
  exact⟨_,jb _ k,(BB g l b).2 ⟨d,p⟩,h⟩
 exact⟨_,kz _ n e,d,h⟩
theorem bg.give(d:bg h (a::E))(t:i<h.K.length)(w:fT (nth h.K i) a):bg {h with K:=h.K.set i (lv (nth h.K i) (dP (nth h.K i) a))} E:=by
 have B:=d.L;have G:=B.sok _ (au t);have O:=uX G ⟨w.1,w.2.1⟩;have f:=λb c=>jz.set B t w b c
 have H:=N5 (dP (nth h.K i) a) t;generalize J:h.K.set i (lv (nth h.K i) (dP (nth h.K i) a))=sp at f H;have p:pgs sp h.J=pgs h.K h.J:=by grind [pgs]
 have g:=d.nd;rw[List.cons_append]at g;obtain⟨P,g⟩:=List.nodup_cons.1 g;have y:∀b,b∈E++holders h->b≠a:=ψ
 have n:∀b,b∈holders h->b≠a:=ψ
 have Q:∀l∈h.J,16*l.R≠a:=λl R e=>(Aq B R).1 _ (au t) (by have a1:=w.1;have a2:=w.2.1;omega)
 have q:∀s∈sp,∃u∈h.K,u.R=s.R/\(s=u\/s=lv u (dP (nth h.K i) a)):=λs r=>by
  rw[<-J]at r;rcases iU r with rfl|⟨j,hj,S,rfl⟩
  ·exact⟨_,au t,rfl,.inr rfl⟩
  grind [au]
 have T:∀u∈h.K,∃s∈sp,s.R=u.R:=λu C=>by
  have:u.R∈sp.map (·.R):=ψ
  grind
 exact {d with
   lay:=by grind [bg.lay,KJ,bx]
   srs:=by
     have A:(h.K.map (·.R)).Pairwise (λa b=>a<b):=List.pairwise_map.2 d.srs
     grind
   pg:=⟨d.pg.one,by rw[p];exact d.pg.bnd,by rw[p];exact d.pg.own,d.pg.fre,λs r u C y U=>by
     obtain⟨V,K,W,X⟩:=q s r;obtain⟨Y,M,Z,hu2⟩:=q u C;have A:=d.pg.mesh V K Y M ω (by rw[W,Z];exact U)
     grind [BO,oc.sok,jQ]⟩
   oow:=λo ho=>by
     have N:o.Addr≠a:=n _ (by grind [holders]);rcases d.oow o ho with⟨s,r,A,h2⟩|A
     · obtain⟨u,C,g1,D⟩:=(f o.Addr (aS o.a1)).2 ⟨⟨s,r,A,.inr h2⟩,N⟩
       refine .inl ⟨u,C,g1,?_⟩;rcases D with D|D
       · have:=aL (B.sok _ r);omega
       exact D
     exact .inr A
   hca:=λc hc k hk b F=>(f b k).2 ⟨d.hca c hc k hk b F,n b (by
     unfold holders cH;grind [List.mem_flatten,au])⟩
   hqu:=λx hx=>(f _ _).2 ⟨d.hqu x hx,n _ (by grind [holders])⟩
   hfl:=λb F=>(f _ _).2 ⟨d.hfl b F,n _ (by grind [holders])⟩
   hin:=λb F=>(f _ _).2 ⟨d.hin b ψ,y b ψ⟩
   nd:=g
   mem:=λb=>by
     show b∈E++holders h↔nw sp h.J b
     grind [bg.mem,nw]
   job:=λhm=>by grind [bg.job]}
def du(k:ah)(p:Int):Nat->ah
 | 0=>k
 | n+1=>cI (du k p n) (p+n)
def jl{k:ah}(h:aJ k=true)(p:Int):∀n,aJ (du k p n)=true
 | 0=>h
 | n+1=>yN _ (jl h p n)
theorem gh(k:ah)(p:Int):∀n,(du k p n).F.Q.O.length=k.F.Q.O.length/\(du k p n).Calls=k.Calls/\(du k p n).d=k.d
 | 0=>⟨rfl,rfl,rfl⟩
 | n+1=>by
  obtain⟨a,b,c⟩:=gh k p n;obtain⟨d,e,f⟩:=rY (du k p n) (p+n);exact⟨d.trans a,e.trans b,f.trans c⟩
theorem Aa(h:aJ k=true)(g:0<=p/\p<k.F.Q.O.length)(q:Nat):nth (cI k p).F.Q.O q=if(q:Int)=p then⟨0,0⟩ else nth k.F.Q.O q:=by
 have c:ax k.F.Q p=nth k.F.Q.O p.toNat:=by grind [ax]
 unfold cI;split
 ·rename_i a
  split
  ·rename_i i
   rw[c]at a;have b:=(bq.1 (aH.1 h).2.2.1).1 p.toNat ω;unfold mt at b;rw[C0]at b;have d:=b.2.2.1 a;rw[show q=p.toNat by omega];generalize nth k.F.Q.O p.toNat=e at a d;obtain⟨m,f⟩:=e
   grind
  rfl
 grind [qA,cL,mi]
theorem nu{k:ah}(h:aJ k=true){p:Int}(a:0<=p):∀n:Nat,p+n<=k.F.Q.O.length->∀q:Nat,nth (du k p n).F.Q.O q=if p<=q/\(q:Int)<p+n then⟨0,0⟩ else nth k.F.Q.O q
 | 0,_,q=>by rw[CB ω];rfl
 | n+1,b,q=>by
  have c:=nu h a n ω q;have d:=Aa (jl h p n) (p:=p+n) ⟨ω,by grind [gh]⟩ q;show nth (cI (du k p n) (p+n)).F.Q.O q=_
  grind
theorem GZ(f:α->List β){xs b:List α}(h:xs.Sublist b):(xs.flatMap f).Sublist (b.flatMap f):=by
 induction h with
 | slnil=>grind
 | cons a _ c=>grind
 | cons_cons a _ c=>grind
theorem yt(c:bg h E)(Y:1<=n)(w:sp.Sublist h.K)(D:la.Sublist h.J)(j:∀q:Int,p<=q->q<p+n->q∈pgs h.K h.J)(K:0<=p)(F:∀q,q∈pgs sp la↔q∈pgs h.K h.J/\¬(p<=q/\q<p+n)) :
  ∃o,ce (eO h) h.a ⟨p,n⟩ = some o/\aJ (du h.H p n)=true/\bF ((du h.H p n).F.Q.O.length:Nat) o=true/\bx sp la=true/\Pg (du h.H p n).F.Q o sp la:=by
 have t:=c.pg.bnd _ (j (p+n - 1) ω ω);have a:=(gh h.H p n).1;have y:p+n<=h.H.F.Q.O.length:=by unfold tbl at t;omega
 have g:=nu c.ker K n y;obtain⟨o,Q,R,S⟩:=wt (r:=⟨p,n⟩) c.rng ⟨K,by simp only;omega,y⟩ λq M N=>by
  simp only at M N;obtain⟨m,rfl⟩:=I3 (show 0<=q by omega);have A:m<(tbl h).O.length:=by unfold tbl;omega
  exact(c.pg.fre m A).1 ((c.pg.own m A).2 (j _ M N))
 refine⟨o,Q,jl c.ker p n,by rw[a];exact R,?_,?_⟩
 ·obtain⟨T,U,V⟩:=eZ c.lay
  unfold bx;simp only[I0,C0];exact⟨⟨C4.2 λs d=>C4.1 T s (w.subset d),C4.2 λl d=>C4.1 U l (D.subset d)⟩,V.sublist ((w.map _).append (GZ _ D))⟩
 have i:∀q:Nat,(q:Int)∈pgs sp la->nth (du h.H p n).F.Q.O q=nth (tbl h).O q:=λq f=>by rw[g,CB ((F q).1 f).2];rfl
 have b:∀q:Nat,(nth (du h.H p n).F.Q.O q).k≠0↔(nth (tbl h).O q).k≠0/\¬(p<=q/\(q:Int)<p+n):=λq=>by
  rw[g];by_cases e:p<=q/\(q:Int)<p+n
  ·rw[CC e];exact⟨λx=>absurd rfl x,λx=>absurd e x.2⟩
  rw[CB e];exact⟨λx=>⟨x,e⟩,λx=>x.1⟩
 refine⟨λl d q f r O G B=>?_,λq f=>?_,λq f=>?_,λq f=>?_,λs d u H J P=>?_⟩
 ·have C:=(b r).1 G
  rw[a]at O;rw[i q (gk d f),g,CB C.2]at B;exact c.pg.one l (D.subset d) q f r O C.1 B
 ·rw[a];exact c.pg.bnd q ((F q).1 f).1
 ·rw[a]at f
  rw[b,F,c.pg.own q f]
 ·rw[a]at f
  rw[b,S,c.pg.fre q f];simp only
  grind
 have k:∀s∈sp,0<=s.R:=λs d=>(aL (c.L.sok s (w.subset d))).1
 have W:=i s.R.toNat (by rw[Int.toNat_of_nonneg (k s d)];exact eG d);have X:=i u.R.toNat (by rw[Int.toNat_of_nonneg (k u H)];exact eG H);rw[W,X]at P;exact c.pg.mesh s (w.subset d) u (w.subset H) J P
theorem fK[Inhabited α]{xs:List α}{k:Nat}{z:α} : z∈dele xs k↔∃j,j<xs.length/\j≠k/\nth xs j=z:=by
 unfold dele;rw[O3];constructor
 ·rintro(h|h)
  ·obtain⟨j,a,rfl⟩:=List.mem_take_iff_getElem.1 h
   exact⟨j,ω,ω,b8 ψ⟩
  obtain⟨j,a,rfl⟩:=List.mem_drop_iff_getElem.1 h;exact⟨k+1+j,ω,ω,b8 ψ⟩
 rintro⟨j,a,b,rfl⟩
 rw[b8 (X2 a)];by_cases e:j<k
 ·grind [List.mem_take_iff_getElem]
 refine .inr (List.mem_drop_iff_getElem.2 ⟨j - (k+1),ω,?_⟩)
 congr 1;omega
theorem qX{q:Int} : q∈pgs sp la↔(∃s∈sp,s.R=q)\/∃l∈la,q∈lpgs l l.w.toNat:=by grind [pgs]
theorem Fn(h:s.a6=0)(a:Int):¬fT s a:=by
 rintro⟨-,-,-,b⟩
 rw[kn,h]at b;simp at b
theorem bg.giveSpan(d:bg h E)(C:i<h.K.length)(r:(nth h.K i).a6=0)(R:h.a2=true->(nth h.K i).R≠h.a5.b.a7/\(nth h.K i).R≠h.a5.b.a9) :
  ∃o,ce (eO h) h.a ⟨(nth h.K i).R,1⟩ = some o/\bg {h with H:=cI h.H (nth h.K i).R,K:=dele h.K i,a:=o} E:=by
 have D:=d.L;have y:=aL (D.sok _ (au C));have w:∀q,q∈pgs (dele h.K i) h.J↔q∈pgs h.K h.J/\¬((nth h.K i).R<=q/\q<(nth h.K i).R+(1:Nat)):=λq=>by
  rw[qX,qX];constructor
  ·rintro(⟨s,u,rfl⟩|⟨l,S,T⟩)
   ·obtain⟨j,a,A,rfl⟩:=fK.1 u
    refine⟨.inl ⟨_,au a,rfl⟩,λe=>A (gz (f:=(·.R)) D.nd a C ω)⟩
   grind [dI,oc.dis,au]
  grind [bu,fK]
 obtain⟨o,J,F,G,K,H⟩:=yt d (sp:=dele h.K i) (la:=h.J) (p:=(nth h.K i).R) (n:=1) (V3 _) (fA ..) ψ (λq U V=>by grind [eG,nth]) y.1 w;have M:du h.H (nth h.K i).R 1=cI h.H (nth h.K i).R:=by show cI h.H ((nth h.K i).R+((0:Nat):Int))=_;grind
 rw[M]at F G H;have g:∀b c,jz (dele h.K i) b c↔jz h.K b c:=λb c=>by
  constructor
  ·rintro⟨s,u,t⟩;exact⟨s,(fA ..).subset u,t⟩
  rintro⟨s,u,t,B⟩
  obtain⟨j,a,rfl⟩:=bu u;exact⟨_,fK.2 ⟨j,a,λe=>Fn r b ψ,rfl⟩,t,B⟩
 refine⟨o,J,{d with
   ker:=F
   rng:=G
   lay:=K
   srs:=d.srs.sublist (fA ..)
   pg:=H
   oow:=λN O=>?_
   hca:=λc y k P b r=>(g b k).2 (d.hca c y k P b r)
   hqu:=λx Q=>(g _ _).2 (d.hqu x Q)
   hfl:=λb r=>(g _ _).2 (d.hfl b r)
   hin:=λb r=>(g _ _).2 (d.hin b r)
   mem:=λb=>(d.mem b).trans ?_
   job:=λW=>?_}⟩
 ·rcases d.oow N O with⟨s,u,t,B⟩|t
  ·obtain⟨j,a,rfl⟩:=bu u
   exact .inl ⟨_,fK.2 ⟨j,a,λe=>Fn r _ (by rw[<-e];exact t),rfl⟩,t,B⟩
  exact .inr t
 all_goals grind [bg.job,bu,fK,nw]
theorem bg.dropL{k:Nat}(d:bg h E)(N:i<h.M.length)(w:k<h.J.length)(F:(nth h.M i).Addr=16*(nth h.J k).R) :
  ∃o,ce (eO h) h.a ⟨(nth h.J k).R,(nth h.J k).w⟩ = some o/\bg {h with H:=du h.H (nth h.J k).R (nth h.J k).w.toNat,J:=dele h.J k,a:=o,M:=dele h.M i} E:=by
 have y:=d.L;have O:=aX (y.lok _ (au w));have A:∀q,q∈pgs h.K (dele h.J k)↔q∈pgs h.K h.J/\¬((nth h.J k).R<=q/\q<(nth h.J k).R+((nth h.J k).w.toNat:Nat)):=λq=>by
  rw[qX,qX];constructor
  ·rintro(⟨s,C,rfl⟩|⟨l,f,H⟩)
   ·refine⟨.inl ⟨s,C,rfl⟩,λe=>y.dis s C _ (au w) (s.R - (nth h.J k).R).toNat ω ω⟩
   obtain⟨j,c,g,rfl⟩:=fK.1 f;refine⟨.inr ⟨_,au c,H⟩,λe=>?_⟩;obtain⟨m,P,rfl⟩:=dI.1 H;exact g (y.one j k c w m ((nth h.J j).R+(m:Int) - (nth h.J k).R).toNat P ω ω)
  grind [bu,fK,dI]
 obtain⟨o,J,Q,R,S,T⟩:=yt d (sp:=h.K) (la:=dele h.J k) (p:=(nth h.J k).R) (n:=(nth h.J k).w.toNat) ω ψ (fA ..) (λq Z q2=>gk (au w) (dI.2 ⟨(q - (nth h.J k).R).toNat,ω,ω⟩)) O.2.2.1 A;rw[Int.toNat_of_nonneg ω]at J;have U:(E++holders h).Perm ((nth h.M i).Addr::(E++holders {h with M:=dele h.M i})):=by
  have V:=(Dw N).map (·.Addr);refine List.perm_iff_count.2 λa=>?_
  have r:=V.count_eq a
  grind [holders,cH]
 have t:=U.nodup_iff.1 d.nd;obtain⟨W,t⟩:=List.nodup_cons.1 t;have u:∀b,(b=(nth h.M i).Addr\/b∈E++holders {h with M:=dele h.M i})↔nw h.K h.J b:=λb=>by grind [bg.mem]
 have B:∀b,b∈E++holders {h with M:=dele h.M i}->b≠(nth h.M i).Addr:=ψ
 refine⟨o,J,{d with
   ker:=Q
   rng:=R
   lay:=S
   srl:=d.srl.sublist (fA ..)
   pg:=T
   osr:=d.osr.sublist (fA ..)
   onu:=λD G=>d.onu D ((fA ..).subset G)
   oid:=d.oid.sublist ((fA ..).map _)
   oow:=λD G=>?_
   nd:=t
   mem:=λb=>?_}⟩
 ·rcases d.oow D ((fA ..).subset G) with r|⟨l,f,K,X⟩
  ·exact .inl r
  obtain⟨j,c,rfl⟩:=bu f;refine .inr ⟨_,fK.2 ⟨j,c,λe=>?_,rfl⟩,K,X⟩;subst e;refine B D.Addr (O3.2 (.inr ?_)) (by rw[F];exact K);unfold holders;grind
 constructor
 ·intro M
  rcases(u b).1 (.inr M) with r|⟨l,f,rfl⟩
  ·exact .inl r
  obtain⟨j,c,rfl⟩:=bu f;exact .inr ⟨_,fK.2 ⟨j,c,λe=>B _ M (by rw[F,e]),rfl⟩,rfl⟩
 rintro(r|⟨l,f,rfl⟩)
 ·refine((u b).2 (.inl r)).resolve_left λe=>?_
  obtain⟨s,C,⟨Y,g2,-⟩,-⟩:=r;exact(Aq y (au w)).1 s C ω
 obtain⟨j,c,g,rfl⟩:=fK.1 f;refine((u _).2 (.inr ⟨_,au c,rfl⟩)).resolve_left λe=>g ?_
 have Y:=aX (y.lok _ (au c));rw[F]at e;exact y.one j k c w 0 0 ω ω ω
def fY(h:ac)(p:Int):Bool:=h.a2&&(decide (p=h.a5.b.a7) || decide (p=h.a5.b.a9))
def giveP(h:ac)(i:Nat):ac:={h with H:=cI h.H (nth h.K i).R,K:=dele h.K i,a:=(ce (eO h) h.a ⟨(nth h.K i).R,1⟩).getD h.a}
def clrS(h:ac)(i:Nat)(a:Int):ac:={h with K:=h.K.set i (lv (nth h.K i) (dP (nth h.K i) a))}
def freeS(h:ac)(i:Nat)(a:Int):ac:=if(lv (nth h.K i) (dP (nth h.K i) a)).a6=0/\fY h (nth h.K i).R=false then giveP (clrS h i a) i else clrS h i a
def xd(h:ac)(a:Int):Nat:=(gH h (a / 16)).toNat
def freeA(h:ac)(a:Int):ac:=freeS h (xd h a) a
def cput(c:aF)(k a:Int):Option aF:=if bz c=true/\0<=k/\k<=3/\bz (lY c k.toNat a)=true then some (lY c k.toNat a) else none
def recyc(t:Nat)(h:ac)(a:Int):ac:=match cput (nth h.T t) (nth h.K (xd h a)).Z a with
 | some c=>{h with T:=h.T.set t c}
 | none=>freeA h a
theorem bg.at(e:bg h E)(c:jz h.K a (-1)):xd h a<h.K.length/\fT (nth h.K (xd h a)) a/\gH h (a / 16)=(xd h a:Nat):=by
 obtain⟨s,d,b,-⟩:=c;obtain⟨i,f,rfl⟩:=bu d;have g:(nth h.K i).R=a / 16:=by have j:=b.1;have k:=b.2.1;omega
 grind [vJ,bg.L,xd]
theorem PL(e:fY h p=false)(a:h.a2=true):p≠h.a5.b.a7/\p≠h.a5.b.a9:=by grind [fY]
def bg.freeS{h:ac}{E:List Int}{a:Int}{i:Nat}(f:bg h (a::E))(b:i<h.K.length)(g:fT (nth h.K i) a):bg (freeS h i a) E:=by
 have c:=f.give b g;unfold Ab.freeS;split
 ·rename_i e
  have d:nth (clrS h i a).K i=lv (nth h.K i) (dP (nth h.K i) a):=by unfold clrS;simp only[cL,true_and];rw[CC b]
  obtain⟨o,j,k⟩:=bg.giveSpan (h:=clrS h i a) c (i:=i) (by unfold clrS;simp only[Z1];exact b) (by rw[d];exact e.1) (λl=>by rw[d];exact PL e.2 l);unfold giveP;rw[j];exact k
 exact c
theorem bg.freeA{h:ac}{E:List Int}{a:Int}(b:bg h (a::E)):bg (freeA h a) E:=by
 obtain⟨c,d,-⟩:=b.at (b.hin a ψ);exact b.freeS c d
theorem pD{c:aF}(h:bz c=true):c.X.length=4:=by grind [bz]
theorem bg.recyc{h:ac}{E:List Int}{a:Int}{t:Nat}(b:bg h (a::E))(f:t<h.T.length):bg (recyc t h a) E:=by
 obtain⟨g,i,-⟩:=b.at (b.hin a ψ);unfold Ab.recyc;split
 ·rename_i c d
  unfold cput at d;split at d
  ·rename_i e
   cases d;obtain⟨j,l,n,k⟩:=e;exact b.put f (by rw[pD j];omega) ⟨_,au g,i,.inr ω⟩ k
  cases d
 exact b.freeA
def yI(h:ac)(i:Nat)(a:Int):(freeS h i a).T=h.T/\(freeS h i a).M=h.M/\(freeS h i a).H.Calls=h.H.Calls/\(freeS h i a).j=h.j/\(freeS h i a).a5=h.a5/\(freeS h i a).a8=h.a8/\(freeS h i a).a3=h.a3/\(freeS h i a).H.d=h.H.d:=by
 unfold freeS;split
 ·obtain⟨-,b,c⟩:=rY (clrS h i a).H (nth (clrS h i a).K i).R
  exact⟨rfl,rfl,b,rfl,rfl,rfl,rfl,c⟩
 exact⟨rfl,rfl,rfl,rfl,rfl,rfl,rfl,rfl⟩
theorem se(t:Nat)(h:ac)(a:Int):(recyc t h a).T.length=h.T.length/\(recyc t h a).M=h.M/\(recyc t h a).H.Calls=h.H.Calls/\(recyc t h a).j=h.j/\(recyc t h a).a5=h.a5/\(recyc t h a).a8=h.a8/\(recyc t h a).a3=h.a3/\(recyc t h a).H.d=h.H.d:=by
 unfold recyc;split
 ·grind
 obtain⟨b,c⟩:=yI h (xd h a) a;exact⟨Z0 _ b,c⟩
def recycs(t:Nat)(h:ac)(az:List Int):ac:=az.foldl (recyc t) h
theorem f7(t:Nat):∀(az:List Int)(h:ac),(recycs t h az).T.length=h.T.length/\(recycs t h az).M=h.M/\(recycs t h az).H.Calls=h.H.Calls/\(recycs t h az).j=h.j/\(recycs t h az).a5=h.a5/\(recycs t h az).a8=h.a8/\(recycs t h az).a3=h.a3/\(recycs t h az).H.d=h.H.d
 | [],h=>⟨rfl,rfl,rfl,rfl,rfl,rfl,rfl,rfl⟩
 | a::az,h=>by
  obtain⟨b,c,d,e,f,g,i,j⟩:=f7 t az (recyc t h a);obtain⟨k,l,n,o,p,q,r,u⟩:=se t h a;exact⟨b.trans k,c.trans l,d.trans n,e.trans o,f.trans p,g.trans q,i.trans r,j.trans u⟩
theorem bg.recycs{t:Nat}{E:List Int} : ∀{az:List Int}{h:ac},bg h (az++E)->t<h.T.length->bg (recycs t h az) E
 | [],h,b,_=>b
 | a::az,h,b,c=>bg.recycs (az:=az) (h:=Ab.recyc t h a) (b.recyc c) (by grind [se])
def qc(l:List aQ):Int:=quarCells l l.length
def iY(room:Int):List aQ->Nat
 | []=>0
 | x::xs=>if room<qc (x::xs) then iY room xs+1 else 0
def L0(q:bt)(x:aQ):bt:=⟨q.b3,(q.q++[x]).drop (iY q.b3 (q.q++[x]))⟩
def vI(q:bt)(x:aQ):List aQ:=(q.q++[x]).take (iY q.b3 (q.q++[x]))
def zc(room:Int):∀l,iY room l<=l.length
 | []=>V3 _
 | x::xs=>by unfold iY;split;(have:=zc room xs;simp only[List.length_cons];omega);omega
theorem xz{room:Int}(a:0<=room):∀l:List aQ,qc (l.drop (iY room l))<=room
 | []=>a
 | x::xs=>by
  unfold iY;split
  ·exact xz a xs
  grind
theorem uY{room:Int} : ∀{l:List aQ}{k:Nat},k<iY room l->room<qc (l.drop k)
 | [],k,h=>by cases h
 | x::xs,0,h=>by grind [iY]
 | x::xs,k+1,h=>by
  unfold iY at h;split at h
  ·exact uY (l:=xs) ω
  omega
theorem iz{q:bt} : fQ q=true↔(∀x∈q.q,0<=x.Z/\x.Z<=3/\0<=x.Addr/\0<=x.b2)/\(q.q.Pairwise λa b=>a.b2<=b.b2)/\(q.q.map (·.Addr)).Nodup/\0<=q.b3/\q.b3<=500/\qc q.q<=q.b3:=by
 refine Iff.trans ?_ (and_congr Iff.rfl (and_congr (xt (λa b:Int=>a<=b) ω (λs:aQ=>s.b2) q.q) (and_congr (B5 (λs:aQ=>s.Addr) q.q) Iff.rfl)));unfold fQ qc
 grind [cx,List.any_eq_false,bu,au,lA,eN]
theorem Q2{q:bt}{x:aQ}(h:fQ q=true)(e:0<=x.Z/\x.Z<=3/\0<=x.Addr/\0<=x.b2)(f:∀y∈q.q,y.b2<=x.b2)(g:∀y∈q.q,y.Addr≠x.Addr):fQ (L0 q x)=true:=by
 obtain⟨i,j,k,c,d,l⟩:=iz.1 h;have a:(L0 q x).q.Sublist (q.q++[x]):=List.drop_sublist ..;refine iz.2 ⟨λy b=>?_,List.Pairwise.sublist a ?_,List.Nodup.sublist (a.map _) ?_,c,d,xz c _⟩
 ·rcases O3.1 (a.subset b) with b|b
  all_goals grind
 ·grind
 grind
def iM(r:List Int)(o:Nat):Nat->List Int
 | 0=>r
 | n+1=>(iM r o n).set (o+n) 0
def eM(k:ah)(a:Int):Nat:=(ax k.F.Q (a / 16)).e.toNat
def en(k:ah)(a:Int)(n:Nat):ah:={k with F:=⟨⟨k.F.V.W.set (eM k a) (iM (nth k.F.V.W (eM k a)) (a % 16).toNat n),k.F.V.y⟩,k.F.Q⟩}
theorem n9(r:List Int)(o:Nat):∀n,(iM r o n).length=r.length
 | 0=>rfl
 | n+1=>by unfold iM;rw[Z1,n9 r o n]
def BC{r:List Int}{o:Nat} : ∀{n:Nat}{v:Int},v∈iM r o n->v∈r\/v=0
 | 0,v,h=>.inl h
 | n+1,v,h=>by
  rcases Y6 h with h|h
  ·exact BC h
  exact .inr h
theorem Gl(h:aJ k=true)(a:Int)(n:Nat):aJ (en k a n)=true:=by
 obtain⟨g,i,l,o,p⟩:=aH.1 h;obtain⟨q,r,t,c⟩:=aY.1 i;refine aH.2 ⟨g,aY.2 ⟨?_,?_,?_,λj b=>?_⟩,l,o,p⟩
 ·grind [en]
 ·grind [en]
 ·grind [en]
 simp only[en,Z1]at b |-;simp only[cL];split
 ·rename_i e
  have d:=c j b;unfold iV at d |-;simp only[I0,C0,C4]at d |-;rw[e.1]at *;refine⟨by grind [n9],λv f=>?_⟩;rcases BC f with f|rfl
  all_goals grind [j9]
 exact c j b
def uj(h:ac)(a:Int):Nat:=(h.J.findIdx? λl=>decide (l.R*16=a)).getD 0
def freeL(h:ac)(i k:Nat):ac:={h with H:=du h.H (nth h.J k).R (nth h.J k).w.toNat,J:=dele h.J k,a:=(ce (eO h) h.a ⟨(nth h.J k).R,(nth h.J k).w⟩).getD h.a,M:=dele h.M i}
def jf(h:ac)(o:bi):aQ:=⟨o.Addr,aS o.a1,h.a8⟩
def inQuar(h:ac)(i:Nat):ac:={h with H:=en h.H (nth h.M i).Addr (csz (aS (nth h.M i).a1)).toNat,M:=dele h.M i,a3:=L0 h.a3 (jf h (nth h.M i))}
def KT(h:ac)(t i:Nat):ac:=recycs t (inQuar h i) ((vI h.a3 (jf h (nth h.M i))).map (·.Addr))
def freeOb(h:ac)(t i:Nat):ac × Int:=
 if aS (nth h.M i).a1<0 then(freeL h i (uj h (nth h.M i).Addr),0)
 else if(ax (tbl h) ((nth h.M i).Addr / 16)).k=1 then(h,5)
 else(KT h t i,0)
theorem ui(n:l∈h.J)(e:a=16*l.R):uj h a<h.J.length/\a=16*(nth h.J (uj h a)).R/\(∀j,j<uj h a->(nth h.J j).R*16≠a)/\h.J.findIdx? (λl=>decide (l.R*16=a))=some (uj h a):=by
 cases c:h.J.findIdx? λl=>decide (l.R*16=a) with
 | none=>
  grind
 | some k=>
  obtain⟨b,d,f⟩:=S7.1 c;have g:uj h a=k:=by grind [uj]
  rw[g];rw[<-b8 (X2 b),C0]at d;refine⟨b,ω,λj i=>?_,rfl⟩;have:=f j i;rw[<-b8 (X2 (show j<h.J.length by omega))]at this;simpa using this
theorem ef(a:bg h E)(f:o∈h.M):(aS o.a1<0->UT h.J o.Addr o.a1)/\(¬aS o.a1<0->(∃s∈h.K,fT s o.Addr/\s.Z=aS o.a1)/\aS o.a1<=3):=by
 rcases a.oow o f with⟨s,g,b,c⟩|⟨l,d,b,c⟩
 ·have i:=aL (a.L.sok s g)
  grind
 have j:=cF (a.L.lok l d);refine⟨λ_=>⟨l,d,b,c⟩,λe=>absurd ?_ e⟩
 grind [aS]
theorem bg.inQuar{h:ac}{i:Nat}(a:bg h [])(g:i<h.M.length)(r:¬aS (nth h.M i).a1<0):bg (inQuar h i) ((vI h.a3 (jf h (nth h.M i))).map (·.Addr)):=by
 obtain⟨⟨s,j,l,t⟩,u⟩:=(ef a (au g)).2 r;have b:jz h.K (nth h.M i).Addr (aS (nth h.M i).a1):=⟨s,j,l,.inr t⟩
 have c:=a.nums;unfold cg at c;rw[C0]at c;have w:=aL (a.L.sok s j);have n:=a.dropO g b.any;have A:=n.cells (k:=en h.H (nth h.M i).Addr (csz (aS (nth h.M i).a1)).toNat) (Gl a.ker _ _) rfl;have d:∀y∈h.a3.q,y.Addr≠(nth h.M i).Addr:=λy o e=>by
  have f:=n.nd;rw[List.cons_append,List.nil_append]at f
  grind [holders]
 have p:=bg.toQuar (x:=jf h (nth h.M i)) (q:=L0 h.a3 (jf h (nth h.M i))) (out:=vI h.a3 (jf h (nth h.M i))) A (Q2 a.quar ⟨by show 0<=aS _;omega,u,by show 0<=(nth h.M i).Addr;have:=l.1;omega,c.2.2.1⟩ (λy o=>a.snc y o) d) (by grind [List.take_append_drop,vI,L0]) (C5 _) b;rw[List.append_nil]at p;exact p
theorem bg.freeOb{h:ac}{t i:Nat}(a:bg h [])(c:i<h.M.length)(e:t<h.T.length):bg (freeOb h t i).1 []:=by
 unfold Ab.freeOb;split
 ·rename_i b
  obtain⟨l,f,d,-⟩:=(ef a (au c)).1 b;obtain⟨g,j,-⟩:=ui f d
  grind [bg.dropL,freeL]
 rename_i b;split
 ·exact a
 have d:=a.inQuar c b;refine bg.recycs (E:=[]) ?_ e
 grind
theorem K9:∀{H L:List Int},H.Nodup->(∀x∈H,x∈L)->H.length<=L.length
 | [],L,_,_=>X0 _
 | y::H,L,b,c=>by
  have d:y∈L:=ψ
  have a:=List.nodup_cons.1 b;have:=K9 (L:=L.erase y) a.2 ψ
  grind
theorem xO{H:List Int}(a:H.Nodup)(b:∀x∈H,0<=x/\x<n):H.length<=n:=by
 have:=K9 (L:=(List.range n).map λ(i:Nat)=>(i:Int)) a λx c=>W4.2 ⟨x.toNat,List.mem_range.2 ψ,ψ⟩
 simpa using this
theorem gp{f:α->Int}{xs:List α}(h:xs.Pairwise λa b=>f a<f b):(xs.map f).Nodup:=ψ
theorem NZ:∀(b:List (List Int))(k:Nat)(s:List Int),(hB k s b).isSome=true->∀l∈b,l.length<=8
 | [],_,_,_,l,a=>by cases a
 | x::b,k,s,h,l,a=>by
  simp only[hB]at h;cases e:fJ k s x with
  | none=>grind
  | some c=>
   rw[e]at h;rcases List.mem_cons.1 a with rfl|a
   ·grind [fJ]
   exact NZ b (k+1) c h l a
theorem dK{c:aF}(h:bz c=true):c.X.length=4/\∀l∈c.X,l.length<=8:=by grind [NZ,bz]
structure ri(h:ac):Prop where
 cells:h.H.F.V.W.length<=32
 row:∀r∈h.H.F.V.W,r.length=16
 used:h.H.F.V.y.length<=32
 ents:h.H.F.Q.O.length<=32
 ref:h.H.d.length<=40
 free:h.a.length<=32
 spans:h.K.length<=32
 larges:h.J.length<=32
 objs:h.M.length<=512
 caches:h.T.length<=4
 lists:∀c∈h.T,c.X.length=4/\∀l∈c.X,l.length<=8
 quar:h.a3.q.length<=512
def jz.bd(b:bg h E)(d:jz h.K a c):0<=a/\a<512:=by
 obtain⟨s,e,⟨f,g,-⟩,-⟩:=d;have i:=aL (b.L.sok s e);omega
theorem bg.lens(a:bg h E):ri h:=by
 obtain⟨G,k,p,J,K,M,q⟩:=aH.1 a.ker;obtain⟨N,t,O,P⟩:=aY.1 k;obtain⟨Q,R,u⟩:=bq.1 p;obtain⟨w,S,T⟩:=gf.1 a.rng;obtain⟨U,V,A,W⟩:=iz.1 a.quar;have g:=a.mail;unfold bB at g;simp only[I0,C0]at g;have B:=a.nc;refine⟨t,λr i=>?_,ω,u,q,?_,?_,?_,?_,ω,λc C=>dK (a.cach c C),?_⟩
 ·obtain⟨j,X,rfl⟩:=bu i
  grind [iV]
 ·have:=xO (H:=h.a.map (·.At)) (n:=32) (gp (w.1.imp_of_mem ψ)) λx b=>by
   obtain⟨r,i,rfl⟩:=W4.1 b
   grind
  simpa using this
 ·have:=xO (H:=h.K.map (·.R)) (n:=32) a.L.nd λx b=>by
   obtain⟨s,d,rfl⟩:=W4.1 b;have:=aL (a.L.sok s d);omega
  simpa using this
 ·have:=xO (H:=h.J.map (·.R)) (n:=32) (gp a.srl) λx b=>by
   obtain⟨l,f,rfl⟩:=W4.1 b;have:=aX (a.L.lok l f);omega
  simpa using this
 ·have:=xO (H:=h.M.map (·.Addr)) (n:=512) (gp a.osr) λx b=>by
   obtain⟨o,D,rfl⟩:=W4.1 b;rcases a.oow o D with⟨s,d,⟨Y,Z,-⟩,-⟩|⟨l,f,e,-⟩
   ·have:=aL (a.L.sok s d);omega
   have:=aX (a.L.lok l f);omega
  simpa using this
 have:=xO (H:=h.a3.q.map (·.Addr)) (n:=512) A λx b=>by
  obtain⟨y,F,rfl⟩:=W4.1 b;exact(a.hqu y F).bd a
 simpa using this
theorem ri.sml(a:ri h)(b:aJ h.H=true)(d:aN.sml h.j)(e:cz.sml h.a5):ac.sml h:=
 ⟨aZ b,⟨by grind [ri.free],λ_ _=>trivial⟩,⟨by grind [ri.spans],λ_ _=>trivial⟩,⟨by grind [ri.larges],λ_ _=>trivial⟩,⟨by grind [ri.objs],λ_ _=>trivial⟩,⟨by grind [ri.caches],λc f=>⟨by grind [ri.lists],λl g=>by have:=(a.lists c f).2 l g;show l.length<=1048576;omega⟩⟩,d,⟨by grind [ri.quar],λ_ _=>trivial⟩,e⟩
def iH(a:Int)(o:bi):Bool:=decide (o.Addr=a)
def jB(h:ac)(a:Int):Nat:=(cj (iH a) h.M).toNat
theorem bg.objAt(g:bg h E)(k:o∈h.M):jB h o.Addr<h.M.length/\nth h.M (jB h o.Addr)=o/\cj (iH o.Addr) h.M=(jB h o.Addr:Nat):=by
 obtain⟨i,c,rfl⟩:=bu k;have l:cj (iH (nth h.M i).Addr) h.M=(i:Nat):=dw (ar c) (by unfold iH;simp) λj z n d=>by
  have a:=b8 d;have b:=(Z2.1 d).1;subst a;unfold iH;refine W0 λe=>?_
  have:=gz (f:=(·.Addr)) (gp g.osr) b c e;omega
 grind [jB]
theorem rd(k:ah)(p:Int)(n:Nat):(du k p n).Calls=k.Calls/\(du k p n).d=k.d:=(gh k p n).2
def NE(y:aE)(a:List aE):dn [] (y::a)=dn [y] a:=by rw[dn];rfl
theorem Gc[Inhabited α]{xs:List α}(h:xs≠[]):xs.getLast? = some (nth xs (xs.length - 1)):=by grind [List.length_pos_iff,ar]
theorem Pf{xs:List α}(h:xs≠[])(v:α):xs.dropLast++[v]=xs.set (xs.length - 1) v:=by
 have a:0<xs.length:=ψ
 refine List.ext_getElem (by simp;omega) λi b c=>?_
 grind
theorem NX{a:List aE}(h:out≠[])(e:(nth out (out.length - 1)).At+(nth out (out.length - 1)).a4=y.At):dn out (y::a)=dn (out.set (out.length - 1) ⟨(nth out (out.length - 1)).At,(nth out (out.length - 1)).a4+y.a4⟩) a:=by grind [Gc,Pf,dn]
theorem Ri{a:List aE}(h:out≠[])(e:¬(nth out (out.length - 1)).At+(nth out (out.length - 1)).a4=y.At):dn out (y::a)=dn (out++[y]) a:=by grind [Gc,dn]
theorem uB(xs:List aE)(w:xs.length<=4194304)(n:∀y∈xs,0<=y.At/\1<=y.a4/\y.At+y.a4<=1048576):zzA 573 false [.val none (bp .S xs)] .one (bp .own (dn [] xs)):=by
 refine fO 63 [(6,21,[15,16,17,18,19,20,21,22,23,24,25,26,27,28,29,30,31,32,33,34,35]),(7,15,[38,39,40,41,42,43,44,45,46,47,48,49,50,51,52])] Tryz.func573 rfl ?_ (.inr (iR _))
 refine ZP ?_
 refine CF (ι:=Nat × List aE) (λq=>[(0,.G .one (bp .S xs)),(3,.G .one (bp .own q.2)),(4,.G .one [I ((q.1:Nat):Int)])]) (λq=>q.1<=xs.length/\dn q.2 (xs.drop q.1)=dn [] xs/\q.2.length<=q.1/\∀y∈q.2,0<=y.At/\1<=y.a4/\y.At+y.a4<=1048576) (λq=>xs.length - q.1) ((0,[])) ?_ ψ λq o=>?_
 ·exact wB
 obtain⟨i,out⟩:=q;obtain⟨p,a,g,b⟩:=o;simp only at p a g b |-;by_cases h:i<xs.length
 ·have j:=ar h
  have B:=n _ (au h);rw[fN h]at a;by_cases k:out=[]
  ·subst k
   rw[NE]at a;have D:([]:List aE).length=0:=rfl
   repeat'(first|refine gE ?_|refine Ln.mk (show List.length _=0 from rfl) ?_|refine CV (λr t=>by cases t) rfl (by simp) (by decide) rfl ?_)
   ((conv=>whnf)
    refine CD (i+1,[nth xs i]) ψ (by simp only;omega) ?_
    (repeat'(first|exact trivial|rfl|exact CJ rfl (CJ (Z0 (C.s dA.own) (by simp[aE.enc])) trivial)|refine CJ ?_ ?_)))
  have l:0<out.length:=ψ
  have d:out[((out.length:Int) - 1).toNat]? = some (nth out (out.length - 1)):=by
   rw[show((out.length:Int) - 1).toNat=out.length - 1 by omega];grind [ar]
  have u:=b _ (au (xs:=out) (i:=out.length - 1) ω);by_cases e:(nth out (out.length - 1)).At+(nth out (out.length - 1)).a4=(nth xs i).At
  ·rw[NX k e]at a
   repeat'(first|refine gB ?_|refine CK ω (aa d) ?_|refine CM rfl rfl (aa d) rfl (O1 rfl) rfl ?_)
   ((conv=>whnf)
    refine CD (i+1,out.set (out.length - 1) ⟨(nth out (out.length - 1)).At,(nth out (out.length - 1)).a4+(nth xs i).a4⟩) ⟨(by simp only;omega),a,ψ,(λy c=>?_)⟩ (by simp only;omega) ?_)
   ·rcases Y6 c with c|rfl
    ·exact b y c
    simp only;omega
   (repeat'(first|exact trivial|rfl|exact CJ rfl (CJ (Z0 (C.s dA.own) (by rw[show((out.length:Int) - 1).toNat=out.length - 1 by omega,V6];rfl)) trivial)|refine CJ ?_ ?_))
  rw[Ri k e]at a
  repeat'(first|refine gB ?_|refine CK ω (aa d) ?_|refine CV (aK λ_=>rfl) rfl (by simp;omega) (by decide) rfl ?_)
  ((conv=>whnf)
   refine CD (i+1,out++[nth xs i]) ⟨(by simp only;omega),a,(by simp;omega),(λy c=>?_)⟩ (by simp only;omega) ?_)
  ·rcases O3.1 c with c|c
   all_goals simp_all
  (repeat'(first|exact trivial|rfl|exact CJ rfl (CJ (Z0 (C.s dA.own) (by simp[aE.enc])) trivial)|refine CJ ?_ ?_))
 obtain rfl:i=xs.length:=ω
 rw[List.drop_length]at a
 refine ZE ?_
 rw[<-a];rfl
def Dd(r y:aE)(a:List aE)(put:Bool):nr r (y::a) put=if ovl y r then none else if !put&&decide (y.At > r.At) then(nr r a true).map λt=>r::y::t else(nr r a put).map λt=>y::t:=by rw[nr]
theorem mT(pages:Int)(xs:List aE)(r:aE)(G:0<=pages/\pages<=1048576)(H:gc xs):zzA 519 false [.val none [I pages],.val none (bp .S xs),.val (some 2) (aE.enc .S r)] (.tup [none,none]) (DW xs (ce pages xs r)):=by
 have o:=H.1;have j:=mO pages xs G H;have p:=zk pages r G;cases k:bF pages xs<;>rw[k]at j
 ·rw[show ce pages xs r=none by unfold ce;rw[CB (by rw[k];simp)]]
  refine fO 82 [] Tryz.func519 rfl ?_ (.inr (lE _ _))
  repeat'(first|refine gP ?_|refine CP (λ_=>rfl) (λ_=>rfl) o (by decide) ?_)
  rfl
 cases u:rangeIn pages r<;>rw[u]at p
 ·rw[show ce pages xs r=none by unfold ce;rw[CB (by rw[u];simp)]]
  refine fO 82 [] Tryz.func519 rfl ?_ (.inr (lE _ _))
  repeat'(first|refine gP ?_|refine CP (λ_=>rfl) (λ_=>rfl) o (by decide) ?_)
  rfl
 obtain⟨J,K⟩:=tZ k;have l:0<=r.At/\1<=r.a4/\r.At+r.a4<=pages:=by grind [rangeIn]
 rw[show ce pages xs r=(nr r xs false).map (dn []) by unfold ce;rw[CC ⟨k,u⟩,Dg (pages:=pages) J l.2.1 ψ]];refine fO 82 [] Tryz.func519 rfl ?_ (.inr (lE _ _))
 repeat'(first|refine gP ?_|refine CP (λ_=>rfl) (λ_=>rfl) o (by decide) ?_)
 refine CF (ι:=Nat × List aE × Bool) (λq=>[(1,.G .one (bp .S xs)),(5,.G .box (aE.enc .S r)),(8,.G .one (bp .own xs)),(9,.G .one (bp .own q.2.1)),(10,.G .one [B (q.2.2)]),(11,.G .one [I ((q.1:Nat):Int)])]) (λq=>q.1<=xs.length/\(nr r (xs.drop q.1) q.2.2).map (q.2.1++·)=nr r xs false/\q.2.1.length<=q.1+q.2.2.toNat/\(∀y∈q.2.1,0<=y.At/\1<=y.a4/\y.At+y.a4<=1048576)) (λq=>xs.length - q.1) ((0,[],false)) ?_ (⟨X0 _,by simp,by simp,by simp⟩) λq d=>?_
 ·exact wB
 obtain⟨i,out,put⟩:=q;obtain⟨L,b,c,e⟩:=d;simp only at L b c e |-;have M:0<=r.At/\1<=r.a4/\r.At+r.a4<=1048576:=ω
 by_cases w:i<xs.length
 ·have n:=ar w
  have N:=K _ (au w);have E:0<=(nth xs i).At/\1<=(nth xs i).a4/\(nth xs i).At+(nth xs i).a4<=1048576:=ω
  rw[fN w]at b;by_cases h:ovl (nth xs i) r=true
  ·rw[<-b]
   rw[Dd,CC h];unfold ovl at h;rw[C0]at h
   repeat'(first|refine gE ?_|with_reducible refine Bf.D (λd=>?_) (λd=>?_))
   rfl
  rw[Dd,CB h]at b;unfold ovl at h;rw[C0]at h;cases put with
  | false=>
   have c:out.length<=i:=by simpa using c
   by_cases O:(nth xs i).At > r.At
   ·rw[CC (by simp;omega),Option.map_map]at b
    repeat'(first|refine gE ?_|with_reducible refine Bf.D (λd=>?_) (λd=>?_)|refine CV (aK λ_=>rfl) rfl (by simp;omega) (by decide) rfl ?_|refine CV (λr l=>by simp at l;rcases l with⟨a,_,rfl⟩|rfl<;>rfl) rfl (by simp;omega) (by decide) rfl ?_)
    ((conv=>whnf)
     refine CD (i+1,out++[r,nth xs i],true) ⟨(by simp only;omega),(by rw[<-b];congr 1;funext t;simp),(by simp;omega),(λy g=>?_)⟩ (by simp only;omega) ?_)
    ·grind
    (repeat'(first|exact trivial|rfl|exact CJ rfl (CJ (Z0 (C.s dA.own) (by simp[aE.enc])) trivial)|refine CJ ?_ ?_))
   rw[CB (by simp;omega),Option.map_map]at b
   repeat'(first|refine gE ?_|with_reducible refine Bf.D (λd=>?_) (λd=>?_)|refine CV (aK λ_=>rfl) rfl (by simp;omega) (by decide) rfl ?_)
   ((conv=>whnf)
    refine CD (i+1,out++[nth xs i],false) ⟨(by simp only;omega),(by rw[<-b];congr 1;funext t;simp),(by simp;omega),(λy g=>?_)⟩ (by simp only;omega) ?_)
   ·grind
   (repeat'(first|exact trivial|rfl|exact CJ rfl (CJ (Z0 (C.s dA.own) (by simp[aE.enc])) trivial)|refine CJ ?_ ?_))
  | true=>
   have c:out.length<=i+1:=c;rw[CB (by simp),Option.map_map]at b;by_cases P:(nth xs i).At<r.At+r.a4
   all_goals
    repeat'(first|refine gE ?_|with_reducible refine Bf.D (λd=>?_) (λd=>?_)|refine CV (aK λ_=>rfl) rfl (by simp;omega) (by decide) rfl ?_)
    ((conv=>whnf)
     refine CD (i+1,out++[nth xs i],true) ⟨(by simp only;omega),(by rw[<-b];congr 1;funext t;simp),(by simp;omega),(λy g=>?_)⟩ (by simp only;omega) ?_)
    ·rcases O3.1 g with g|g
     ·exact e y g
     rw[V1.1 g];exact E
    (repeat'(first|exact trivial|rfl|exact CJ rfl (CJ (Z0 (C.s dA.own) (by simp[aE.enc])) trivial)|refine CJ ?_ ?_))
 obtain rfl:i=xs.length:=ω
 rw[List.drop_length]at b;cases put with
 | false=>
  have c:out.length<=xs.length:=by simpa using c
  rw[<-b];have F:=uB (out++[r]) (by simp;omega) ψ
  repeat'(first|refine gE ?_|refine CV (aK λ_=>rfl) rfl (by simp;omega) (by decide) (show(out++[r]).map (aE.enc .own)=_ by simp[aE.enc]) ?_|refine CG (F) ⟨⟨rfl,dO _⟩,trivial⟩ ?_)
  rfl
 | true=>
  have c:out.length<=xs.length+1:=c;rw[<-b];have F:=uB out ω e
  repeat'(first|refine gE ?_|refine CG (F) ⟨⟨rfl,dO _⟩,trivial⟩ ?_)
  simp[nr,DW]
  rfl
theorem shl64{i:Int}(a:0<=i/\i<=15):IntKind.i64.wrap (1*2 ^ min i.toNat IntKind.i64.bits)=2 ^ i.toNat/\0<=(2:Int) ^ i.toNat/\(2:Int) ^ i.toNat<=32768:=by
 have b:min i.toNat IntKind.i64.bits=i.toNat:=Nat.min_eq_left (show i.toNat<=64 by omega);have c:(0:Int)<=2 ^ i.toNat/\(2:Int) ^ i.toNat<=32768:=by
  have:(2:Nat) ^ i.toNat<=2 ^ 15:=Nat.pow_le_pow_right (by decide) ω
  grind
 grind [fW]
theorem clr64{i:Int}(a:0<=b/\b<=65535):IntKind.i64.wrap ((BitVec.ofInt IntKind.i64.bits b &&& ~~~BitVec.ofInt IntKind.i64.bits (2 ^ i.toNat)).toNat:Nat)=yR b i:=by
 have:=Eo (i:=i) a
 grind [fW,yR]
theorem vq(b i:Int)(c:0<=b/\b<=65535)(d:0<=i/\i<=15):zzA 574 false [.val none [I b],.val none [I i]] .one [I (yR b i)]:=by
 have a:=qR b i;rw[O0 ω]at a;have e:IntKind.u64.wrap i=i:=by grind [Go.IntKind.wrap,Go.IntKind.bits]
 refine fO 15 [] Tryz.func574 rfl ?_
 repeat'(first|refine gP ?_|refine CN ω ?_|refine CL e ?_|refine CL (shl64 d).1 ?_|refine CL (clr64 c) ?_)
 rfl
def uQ(b i:Int)(c:0<=b/\b<=65535)(d:0<=i/\i<=15):zzA 491 false [.val none [I b],.val none [I i]] .one [I (yR b i)]:=by
 have a:=qJ b i;rw[O0 ω]at a;refine fO 14 [] Tryz.func491 rfl ?_
 repeat'(first|refine gP ?_|refine CN ω ?_|refine CL (shl64 d).1 ?_|refine CL (clr64 c) ?_)
 rfl
theorem Ku{k:Int}(a:bh s.a6 k=true):0<=k/\k<=15:=by grind [kn]
def AZ(s:aA)(k:Int)(a:bk s=true)(b:bh s.a6 k=true):zzA 523 false [.val (some 3) (aA.enc .S s),.val none [I k]] (.tup [some 3,none]) (aA.enc .own (lv s k)++[B true]):=by
 have e:=ec a;have g:=Ku b;have c:=gS s;have d:=jj s.a6 k ω;rw[a]at c;rw[b]at d;refine fO 23 [] Tryz.func523 rfl ?_ (.inr (aB (aA.enc_fr _) ⟨trivial,trivial⟩))
 repeat'(first|refine gP ?_|refine C8 (vq s.a6 k e g) ?_)
 rfl
def AB(s:aA)(k:Int)(a:bk s=true)(b:bh s.a6 k=true):zzA 385 false [.val (some 3) (aA.enc .S s),.val none [I k]] (.tup [some 3,none]) (aA.enc .own (lv s k)++[B true]):=by
 have e:=ec a;have g:=Ku b;have c:=g9 s;have d:=gU s.a6 k ω;rw[a]at c;rw[b]at d;refine fO 23 [] Tryz.func385 rfl ?_ (.inr (aB (aA.enc_fr _) ⟨trivial,trivial⟩))
 repeat'(first|refine gP ?_|refine C8 (uQ s.a6 k e g) ?_)
 rfl
def yH(c:aF)(k:Int)(b:aF.sml c):zzA 477 false [.val (some 1) (aF.enc .S c),.val none [I k]] .one [B (bz c&&decide (0<=k/\k<=3))]:=by
 have a:=oA c b;cases e:bz c<;>rw[e]at a
 all_goals
  refine fO 11 [] Tryz.func477 rfl ?_
  repeat'(first|refine gP ?_|refine C8 (aM k 0 3) ?_)
  all_goals rfl
def sP(c:aF)(k:Int)(a:aF.sml c):zzA 333 false [.val (some 1) (aF.enc .S c),.val none [I k]] .one [B (decide (0<=k/\k<=3)&&bz c)]:=by
 have b:=oe c a;refine fO 11 [] Tryz.func333 rfl ?_
 repeat'(first|refine gP ?_|with_reducible refine Bf.D (λd=>?_) (λd=>?_)|refine C8 (fF k) ?_)
 all_goals exact Z0 (λz=>[B z]) ((by simp[*]))
def lJ{c:aF}{k:Nat}(a:k<c.X.length):c.X[k]? = some (nth c.X k):=ar a
theorem Hq{c:aF}(h:bz c=true)(k:Nat)(a:Int):aF.sml (lY c k a):=by
 obtain⟨e,d⟩:=dK h;refine⟨by grind [lY],λl b=>?_⟩;rcases Y6 b with b|rfl
 ·have:=d l b;show l.length<=1048576;omega
 show(nth c.X k++[a]).length<=1048576;by_cases f:k<c.X.length
 ·grind [au]
 have:nth c.X k=[]:=by unfold nth;rw[List.getD_eq_getElem?_getD,z3 ω];rfl
 rw[this];simp
theorem yX(c:aF)(k:Nat)(a:Int):aF.enc .own (lY c k a)=[.s .own ((c.X.map (aG .own)).set k (aG .own (nth c.X k++[a])))]:=by grind [V6,aF.enc,lY]
theorem cy{f:α->List C}{xs:List α}{k:Nat}{y:α}(h:xs[k]? = some y):((xs.map f).set k r)[k]? = some r:=ψ
def dR(f:α->β)(xs:List α)(y:α):(xs++[y]).map f=xs.map f++[f y]:=by simp
def yd(c:aF)(k a:Int):List C:=aF.enc .own ((cput c k a).getD c)++[B (cput c k a).isSome]
def Ha(c:aF)(k a:Int):g0 (yd c k a):=aB (Cg _) ⟨trivial,trivial⟩
theorem B3(c:aF)(k:Nat)(a:Int)(j:bz c=true)(B:k<=3):zzA 572 false [.val (some 1) (aF.enc .S c),.val none [I (k:Nat)],.val none [I a]] (.tup [some 1,none]) (yd c k a):=by
 obtain⟨D,q⟩:=dK j;have r:aF.sml c:=⟨ω,λl u=>by have:=q l u;show l.length<=1048576;omega⟩
 have n:=yH c k r;rw[j,O0 ω]at n;have t:=iZ c r;have d:=Hq j k a;have o:=oA (lY c k a) d;have w:=iZ (lY c k a) d;have b:=lJ (c:=c) (k:=k) ω;have y:=q _ (au (xs:=c.X) (i:=k) ω);have h:=CY (lY c k a);rw[yX]at h;have g:=Ha c k a;unfold yd at g |-;cases e:bz (lY c k a)<;>rw[e]at o
 ·have p:cput c k a=none:=by grind [cput]
  rw[p]at g |-;refine fO 35 [(4,267,[16,17,18,19,20,21,22,23,24,25,27,0,1,2,3,4,5,6,7,8,9,10,1000,1001,1002,11,12])] Tryz.func572 rfl ?_ (.inr g)
  repeat'(first|refine gP ?_|refine CA (cy b) ?_|refine CE rfl (cy b) rfl ?_|refine Lq.one rfl rfl (aa b) rfl (O1 rfl) rfl rfl ?_|refine CM rfl rfl (cy b) rfl (O1 rfl) (show [C.s dA.own ((c.X.map (aG .own)).set k (aG .own (nth c.X k++[a])))]=_ from by simp only[List.set_cons_zero,List.set_set,C3];rfl) ?_|refine CV (aK λ_=>rfl) rfl (by simp;omega) (by decide) (dR _ _ _) ?_|refine CG (o) ⟨⟨rfl,h⟩,trivial⟩ ?_)
  rfl
 have p:cput c k a=some (lY c k a):=by grind [cput]
 rw[p]at g |-;refine fO 35 [(4,267,[16,17,18,19,20,21,22,23,24,25,27,0,1,2,3,4,5,6,7,8,9,10,1000,1001,1002,11,12])] Tryz.func572 rfl ?_ (.inr g)
 repeat'(first|refine gP ?_|refine CA (cy b) ?_|refine CE rfl (cy b) rfl ?_|refine Lq.one rfl rfl (aa b) rfl (O1 rfl) rfl rfl ?_|refine CM rfl rfl (cy b) rfl (O1 rfl) (show [C.s dA.own ((c.X.map (aG .own)).set k (aG .own (nth c.X k++[a])))]=_ from by simp only[List.set_cons_zero,List.set_set,C3];rfl) ?_|refine CV (aK λ_=>rfl) rfl (by simp;omega) (by decide) (dR _ _ _) ?_|refine CG (o) ⟨⟨rfl,h⟩,trivial⟩ ?_|refine CG (w) ⟨⟨rfl,h⟩,trivial⟩ ?_)
 rfl
theorem G8(o:bi)(a:Int):zzA 252 false [.val (some 4) (bi.enc .S o),.ptr [I a]] .one [B (iH a o)]:=by
 refine fO 8 [] Tryz.func252 rfl ?_
 refine ZP ?_
 grind [iH]
def rW(h:ac)(a:Int)(c:h.M.length<=1048576):zzA 97 false [.val (some 24) (ac.enc .S h),.val none [I a]] .one [I (cj (iH a) h.M)]:=by
 refine fO 9 [] Tryz.func97 rfl ?_
 repeat'(first|refine gP ?_|refine Cq.mk (pk (some 4) (bi.enc .S) (iH a) h.M) (G8 default a).has (λL k rcs b=>?_) ?_|refine C8 (jZ h.M (iH a) ω) ?_)
 ·obtain⟨y,-,rfl,rfl,rfl⟩:=b
  exact G8 y a
 rfl
theorem kO(xs:List aD)(pr:aD->Bool)(g:xs.length<=9223372036854775807):zzA 100 false [.val none (ch .S xs),.fn (mg Tryz.prog (pk (some 3) (aD.enc .S) pr xs))] .one [I (cj pr xs)]:=by
 refine fO 19 [] Tryz.func100 rfl ?_
 refine ZP ?_
 refine CF (ι:=Nat) (λi=>[(0,.G .one (ch .S xs)),(1,.fv (mg Tryz.prog (pk (some 3) (aD.enc .S) pr xs))),(7,.G .one [I xs.length]),(8,.G .one [I (i:Nat)])]) (λi=>i<=xs.length/\∀(j:Nat)(z:aD),j<i->xs[j]? = some z->pr z=false) (λi=>xs.length - i) 0 ?_ ψ λi b=>?_
 ·exact wB
 obtain⟨b,d⟩:=b;by_cases a:i<xs.length
 ·obtain⟨y,c⟩ : ∃y,xs[i]? = some y:=⟨_,X2 a⟩
  repeat'(first|refine gE ?_|refine Fv.mk (k:=.one) (rcs:=[B (pr y)]) ⟨y,O2 c,rfl,rfl,rfl⟩ ?_|refine Bf.P (λe=>?_) (λe=>?_))
  ·grind [dw]
  (conv=>whnf)
  refine CD (i+1) ψ ω ?_;exact wB
 refine ZE ?_
 exact Z0 (λz=>[I z]) (fg ω d).symm
def bK(x:ac):List C:=[.s .own (x.H.F.V.W.map (aG .own)),.s .own (x.H.F.V.y.map (rB .own)),.s .own (x.H.F.Q.O.map (bo.enc .own)),I x.H.Calls,.s .own (x.H.d.map (rI .own)),.s .own (x.a.map (aE.enc .own)),.s .own (x.K.map (aA.enc .own)),.s .own (x.J.map (aD.enc .own)),.s .own (x.M.map (bi.enc .own)),.s .own (x.T.map (aF.enc .own)),.s .own (x.j.U.map (bJ .own)),.s .own (x.j.g.map (aG .own)),I x.a3.b3,.s .own (x.a3.q.map (aQ.enc .own)),I x.b5,I x.a8,I x.b7,I x.o,B x.a2,I x.a5.b.a7,I x.a5.b.a9,.s .S (x.a5.b.W.map (rI .S)),I x.a5.b1,I x.a5.o]
def bN(x:ac):dB (bK x)=ac.enc .S x:=by simp[dB,bK,ac.enc,CY,bo.enc_fz,aD.enc_fz,bi.enc_fz,aE.enc_fz,aA.enc_fz,aQ.enc_fz,rB,lR,rI,d9,<-bS,C6]
def xB(x:cz):List C:=[I x.b.a7,I x.b.a9,.s .S (x.b.W.map (rI .S)),I x.b1,I x.o]
theorem Pu.two{f a:List C}{off k g h b:Nat}{cs:List C}{K:List C->Prop}{o c:dA}{rows2:List (List C)}{d:List C}(h1:f[off]? = some (.s o rows))(n:o.mine=true)(u:rows[i]? = some r)(w:r.length=k)(y:r[j]? = some (.s c rows2))(p:c.mine=true)(A:rows2[g]? = some d)(B:d.length=h)(D:b+cs.length<=h)(E:a=f.set off (.s o (rows.set i (r.set j (.s c (rows2.set g (splice d b cs)))))))(q:K a):Pu f off [(i,k,j),(g,h,b)] cs K:=by
 have t:o≠.S:=λe=>by subst e;cases n
 have l:c≠.S:=λe=>by subst e;cases p
 refine Pu.mk (r:=d) (j:=b) (by grind [co]) (by grind [kZ]) ω (by grind [gi]) q
def xR(x:List aA):fz (.s .own (x.map (aA.enc .own)))=.s .S (x.map (aA.enc .S)):=(List.cons.inj (dZ x)).1
def vG(x:List aD):fz (.s .own (x.map (aD.enc .own)))=.s .S (x.map (aD.enc .S)):=(List.cons.inj (iT x)).1
def xq(x:List bi):fz (.s .own (x.map (bi.enc .own)))=.s .S (x.map (bi.enc .S)):=(List.cons.inj (MQ x)).1
theorem Ap.dele{e:α->List C}{xs:List α}(a:∀y,(e y).length=sz)(b:∀y,bn (e y)=true)(h:xs.length<=1048576)(c:by_<=1000)(d:K ((Ab.dele xs i).map e)):Ap true ((xs.take i).map e) ((xs.drop (i+1)).map e) sz by_ K:=by
 have f:(xs.take i).length+(xs.drop (i+1)).length<=2097152:=ψ
 refine CT (aK a) (aK a) (λ_ r g=>by obtain⟨y,-,rfl⟩:=W4.1 g;exact b y) (by rw[I1,I1];omega) (by rw[I1,I1];exact z5 (Nat.mul_le_mul f c) (by decide)) ?_ d;unfold Ab.dele;rw[Z5]
def M4(h:ac)(p:Int)(a:aO.sml h.H.F.Q):zzA 485 false [.ptr (ac.enc .S h),.val none [I p]] .one [I (ax h.H.F.Q p).k]:=by
 refine fO 13 [] Tryz.func485 rfl ?_
 repeat'(first|refine gP ?_|refine C8 (dh h.H.F.Q p a) ?_)
 rfl
def RI(h:ac):List C:=(bK h).drop 5
def TN(h:ac)(k:ah):bK {h with H:=k} = ah.enc .own k++RI h:=rfl
def Hw(h:ac):RI h=[.s .own (h.a.map (aE.enc .own)),.s .own (h.K.map (aA.enc .own)),.s .own (h.J.map (aD.enc .own)),.s .own (h.M.map (bi.enc .own)),.s .own (h.T.map (aF.enc .own)),.s .own (h.j.U.map (bJ .own)),.s .own (h.j.g.map (aG .own)),I h.a3.b3,.s .own (h.a3.q.map (aQ.enc .own)),I h.b5,I h.a8,I h.b7,I h.o,B h.a2,I h.a5.b.a7,I h.a5.b.a9,.s .S (h.a5.b.W.map (rI .S)),I h.a5.b1,I h.a5.o]:=rfl
def M2(h:ac)(f:Int)(a:aO.sml h.H.F.Q)(b:0<=f/\f<h.H.F.V.W.length/\f<h.H.F.V.y.length) :
  zzB 486 false [.ptr (bK h),.val none [I f]] [.ptr (bK {h with H:=ib h.H f}),.val none [I f]] (.tup []) []:=by
 have c:=ar (xs:=h.H.F.V.W) (i:=f.toNat) ω;have d:=ar (xs:=h.H.F.V.y) (i:=f.toNat) ω;rw[TN h (ib h.H f)];by_cases e:(pagesOn h.H.F.Q f).length=0
 ·rw[uK e,Hw]
  refine fM 30 [] [(2,8,[21,22,23,24,25,26,27,28])] [(0,0),(0,0)] Tryz.func486 rfl (λu q=>?_) (.inr trivial)
  repeat'(first|refine gB ?_|with_reducible (first|refine CK b.1 (aa d) ?_|refine CK b.1 (aa c) ?_)|refine CG (gW h.H.F.Q f a) ⟨⟨rfl,CZ h.H.F.Q⟩,⟨rfl,rfl⟩,trivial⟩ ?_|refine CM rfl rfl (aa c) rfl (O1 rfl) rfl ?_|refine CM rfl rfl (aa d) rfl (O1 rfl) rfl ?_|refine Mk.mk 16 rfl rfl (by decide) (by decide) rfl ?_)
  refine CH rfl rfl ?_;exact wB
 rw[Ar e];show aW _ _ _ [.ptr (bK h),_] [.ptr (bK h),_] _ _;refine fM 30 [] [(2,8,[21,22,23,24,25,26,27,28])] [(0,0),(0,0)] Tryz.func486 rfl (λu q=>?_) (.inr trivial)
 repeat'(first|refine gB ?_|refine CG (gW h.H.F.Q f a) ⟨⟨rfl,CZ h.H.F.Q⟩,⟨rfl,rfl⟩,trivial⟩ ?_)
 refine CH rfl rfl ?_;exact wB
theorem o8(h:ac)(p:Int)(b:aJ h.H=true) :
  zzB 374 false [.ptr (bK h),.val none [I p]] [.ptr (bK {h with H:=cI h.H p}),.val none [I p]] .one [B (decide ((ax h.H.F.Q p).k≠0))]:=by
 have k:=aZ b;have c:=M4 h p k.1.2;by_cases a:(ax h.H.F.Q p).k=0
 ·rw[show cI h.H p=h.H by unfold cI;rw[CC a]]
  refine fM 32 [(486,[2,0])] [] [(0,0),(0,0)] Tryz.func374 rfl (λu q=>?_)
  repeat'(first|refine gB ?_|refine CG (c) ⟨bN h,⟨rfl,rfl⟩,trivial⟩ ?_)
  refine CH rfl ?_ ?_
  ·exact Z0 (λz=>[B z]) ((by simp[a]))
  exact wB
 obtain⟨l,r,n,d,o⟩:=bM b a;have j:=(aY.1 (aH.1 b).2.1).2.2.1;rw[show cI h.H p=ib (mi h.H p) (ax h.H.F.Q p).e by unfold cI;rw[CB a]];have e:=M2 {h with H:=mi h.H p} (ax h.H.F.Q p).e (x8 b) ⟨d,by grind [mi],by grind [mi]⟩;rw[TN h (mi h.H p),yj,Hw]at e;have g:=ar (xs:=h.H.F.Q.O) (i:=p.toNat) ω;rw[n]at c e a |-;refine fM 32 [(486,[2,0])] [] [(0,0),(0,0)] Tryz.func374 rfl (λu q=>?_)
 repeat'(first|refine gB ?_|with_reducible refine CK l (aa g) ?_|refine CG (c) ⟨bN h,⟨rfl,rfl⟩,trivial⟩ ?_|refine CM rfl rfl (aa g) rfl (O1 rfl) rfl ?_)
 refine CH rfl ?_ ?_
 ·exact Z0 (λz=>[B z]) ((by simp[a]))
 exact wB
def vS(h:ac)(p:Int):zzA 367 false [.ptr (ac.enc .S h),.val none [I p]] .one [B (fY h p)]:=by
 cases e:h.a2
 all_goals
  have b:ac.enc .S h=(ac.enc .S h).set 18 (B h.a2):=rfl;rw[e]at b;rw[b];refine fO 29 [] Tryz.func367 rfl ?_
  repeat'(first|refine gP ?_|with_reducible (first|refine Bf.D (λa=>?_) (λa=>?_)|refine Bf.E (λa=>?_) (λa=>?_)|refine Bf.N (λa=>?_) (λa=>?_)))
  all_goals exact Z0 (λz=>[B z]) ((by unfold fY;rw[e];first|(simp[*];done)|(simp[*];rw[v5];simp)))
def iy(h:ac):zzA 372 false [.ptr (ac.enc .S h)] .one [I (eO h:Nat)]:=by
 refine fO 11 [] Tryz.func372 rfl ?_
 refine ZP ?_
 rfl
theorem sO(h:ac)(a:Int)(k:h.M.length<=1048576):zzA 509 false [.val (some 24) (ac.enc .S h),.val none [I a]] .one [I (cj (iH a) h.M)]:=by
 refine fO 22 [] Tryz.func509 rfl ?_
 refine ZP ?_
 refine CF (ι:=Nat) (λi=>[(1,.G .one [I (a)]),(2,.G .box (ac.enc .S h)),(5,.G .one [I ((i:Nat):Int)])]) (λi=>i<=h.M.length/\∀(j:Nat)(z:bi),j<i->h.M[j]? = some z->iH a z=false) (λi=>h.M.length - i) (0) ?_ ψ λi c=>?_
 ·exact wB
 obtain⟨c,d⟩:=c;by_cases g:i<h.M.length
 ·have b:=ar g
  by_cases e:(nth h.M i).Addr=a
  ·refine ZB ?_
   grind [dw,iH]
  refine ZB ?_
  (refine CD (i+1) ⟨ω,ep b (by grind [iH]) d⟩ ω ?_;(exact wB))
 refine ZE ?_
 exact Z0 (λz=>[I z]) (fg ω d).symm
def nN(h:ac)(i:Nat)(b:i<h.M.length)(a:h.M.length<=1048576):zzB 513 false [.ptr (bK h),.val none [I (i:Nat)]] [.ptr (bK {h with M:=dele h.M i}),.val none [I (i:Nat)]] (.tup []) []:=by
 refine fM 23 [] [(0,273,[4,5,6,7,8,9,10,11,13,14,15,16,17,18,19,21,22,0,1,2,3,4,5,6,7,9,10,11,12,13,14,15,8,1000,1009,1010,1011,1012,1013,1014,1015,16,1000,17,18,19]),(1048576,0,[8])] [(0,0),(0,0)] Tryz.func513 rfl (λu q=>?_) (.inr trivial)
 repeat'(first|refine gP ?_|refine HK.mk rfl (xq h.M) rfl ?_|refine CS i rfl (by rw[I1];omega) (aK λ_=>rfl) O4 ?_|refine CW (i+1) rfl (by rw[I1];omega) (aK λ_=>rfl) V4 ?_|refine CU (λ_=>rfl) (λ_=>rfl) (by rw[C2];omega) (by decide) ?_|refine Ap.dele (λ_=>rfl) (λ_=>rfl) a (by decide) ?_|refine CP (λ_=>rfl) (λ_=>rfl) (by rw[C2];omega) (by decide) ?_)
 refine CH rfl rfl ?_;exact wB
theorem Ew(h:ac)(E:List Int)(i:Nat)(a:bg h E)(e:i<h.K.length):zzB 524 false [.ptr (bK h),.val none [I (i:Nat)]] [.ptr (bK (giveP h i)),.val none [I (i:Nat)]] (.tup []) []:=by
 have b:=a.lens;have g:=b.spans;have c:=ar e;have j:=o8 {h with K:=dele h.K i} (nth h.K i).R a.ker;have d:=iy {h with H:=cI h.H (nth h.K i).R,K:=dele h.K i};rw[show eO {h with H:=cI h.H (nth h.K i).R,K:=dele h.K i} = eO h from(rY _ _).1]at d;have k:eO h<=32:=b.ents;have l:=mT (eO h:Nat) h.a ⟨(nth h.K i).R,1⟩ ω ⟨by grind [ri.free],λ_ _=>trivial⟩;refine fM 52 [(374,[2,0])] [(1,273,[13,14,15,16,17,18,19,20,22,23,24,25,26,27,28,30,31,0,1,2,3,4,5,6,7,9,10,11,12,13,14,15,8,1000,1009,1010,1011,1012,1013,1014,1015,16,1000,17,18,19]),(1048577,0,[6]),(3,270,[38,39,40,41,42,43,44,45,47,37,48,49,50,51,0,1,2,3,4,5,6,7,8,1000,1001,1002,1003,1004,1005,1006,9,10,11,12,13,14,15,1012])] [(0,0),(0,0)] Tryz.func524 rfl (λu q=>?_) (.inr trivial)
 repeat'(first|refine gP ?_|refine HK.mk rfl (xR h.K) rfl ?_|refine CS i rfl (by rw[I1];omega) (aK λ_=>rfl) O4 ?_|refine CW (i+1) rfl (by rw[I1];omega) (aK λ_=>rfl) V4 ?_|refine CU (λ_=>rfl) (λ_=>rfl) (by rw[C2];omega) (by decide) ?_|refine Ap.dele (λ_=>rfl) (λ_=>rfl) ω (by decide) ?_|refine CP (λ_=>rfl) (λ_=>rfl) (by rw[C2];omega) (by decide) ?_|refine CG (d) ⟨bN _,trivial⟩ ?_|refine CG (l) ⟨⟨rfl,rfl⟩,⟨rfl,dO h.a⟩,⟨rfl,rfl⟩,trivial⟩ ?_)
 refine CH rfl rfl ?_;exact wB
def yi(h:ac)(i:Nat)(a:Int):bK (clrS h i a)=(bK h).set 6 (.s .own ((h.K.map (aA.enc .own)).set i (aA.enc .own (lv (nth h.K i) (dP (nth h.K i) a))))):=by
 simp[bK,clrS,V6]
theorem jy{f:α->β}{xs:List α}{y:β}(a:i<xs.length):((xs.map f).set i y)[i]? = some y:=ψ
def LD(c:bk s=true)(b:fT s a):jh s a=(dP s a,0):=by
 unfold jh;rw[CC ((gR c).2 ⟨b.1,b.2.1⟩),b.2.2.1];rfl
theorem oI(h:ac)(E:List Int)(a:Int)(c:bg h (a::E)):zzB 426 false [.ptr (bK h),.val none [I a]] [.ptr (bK (freeA h a)),.val none [I a]] (.tup []) []:=by
 obtain⟨j,n,t⟩:=c.at (c.hin a ψ);have d:=(c.hin a ψ).bd c;have B:=c.lens;have C:=B.spans;have e:=c.L.sok _ (au j);have k:=kj h (a / 16) ω;rw[t]at k;unfold freeA;generalize xd h a=i at j n k e;have b:=ar j;have o:=wM (nth h.K i) a ⟨ω,ω⟩;rw[LD e n]at o;have w:=AZ (nth h.K i) (dP (nth h.K i) a) e n.2.2.2;have D:=c.give j n;have l:=vS (clrS h i a) (nth h.K i).R;rw[show fY (clrS h i a) (nth h.K i).R=fY h (nth h.K i).R from rfl]at l;have p:=Ew (clrS h i a) E i D (by grind [clrS]);have r:=bN (clrS h i a);rw[yi]at p r;have g:((h.K.map (aA.enc .own)).set i (aA.enc .own (lv (nth h.K i) (dP (nth h.K i) a))))[i]? = some (aA.enc .own (lv (nth h.K i) (dP (nth h.K i) a))):=jy j;unfold freeS;by_cases y:(lv (nth h.K i) (dP (nth h.K i) a)).a6=0
 ·cases F:fY h (nth h.K i).R<;>rw[F]at l
  ·rw[CC ⟨y,rfl⟩]
   refine fM 68 [(524,[2,0])] [(2,274,[26,27,28,29,30,31,32,33,34,35,36,37,38,39,25,40,41,42,0,1,2,3,4,5,6,7,8,9,10,11,12,13,14,15,16,17,18,1016])] [(0,0),(0,0)] Tryz.func426 rfl (λu q=>?_) (.inr trivial)
   repeat'(first|refine gB ?_|with_reducible refine CL ((Z0 _ (tdiv16 d.1)).trans (fW ω ω)) ?_|refine CN (by decide) ?_|refine CG (k) ⟨⟨rfl,bN h⟩,⟨rfl,rfl⟩,trivial⟩ ?_|refine CA g ?_|refine CE rfl g rfl ?_|refine CM rfl rfl (aa b) rfl (O1 rfl) rfl ?_|refine CG (l) ⟨r,⟨rfl,rfl⟩,trivial⟩ ?_)
   refine CH rfl rfl ?_;exact wB
  rw[CB ψ];rw[yi];refine fM 68 [(524,[2,0])] [(2,274,[26,27,28,29,30,31,32,33,34,35,36,37,38,39,25,40,41,42,0,1,2,3,4,5,6,7,8,9,10,11,12,13,14,15,16,17,18,1016])] [(0,0),(0,0)] Tryz.func426 rfl (λu q=>?_) (.inr trivial)
  repeat'(first|refine gB ?_|with_reducible refine CL ((Z0 _ (tdiv16 d.1)).trans (fW ω ω)) ?_|refine CN (by decide) ?_|refine CG (k) ⟨⟨rfl,bN h⟩,⟨rfl,rfl⟩,trivial⟩ ?_|refine CA g ?_|refine CE rfl g rfl ?_|refine CM rfl rfl (aa b) rfl (O1 rfl) rfl ?_|refine CG (l) ⟨r,⟨rfl,rfl⟩,trivial⟩ ?_)
  refine CH rfl rfl ?_;exact wB
 rw[CB λx=>y x.1];rw[yi];refine fM 68 [(524,[2,0])] [(2,274,[26,27,28,29,30,31,32,33,34,35,36,37,38,39,25,40,41,42,0,1,2,3,4,5,6,7,8,9,10,11,12,13,14,15,16,17,18,1016])] [(0,0),(0,0)] Tryz.func426 rfl (λu q=>?_) (.inr trivial)
 repeat'(first|refine gB ?_|with_reducible refine CL ((Z0 _ (tdiv16 d.1)).trans (fW ω ω)) ?_|refine CN (by decide) ?_|refine CG (k) ⟨⟨rfl,bN h⟩,⟨rfl,rfl⟩,trivial⟩ ?_|refine CA g ?_|refine CE rfl g rfl ?_|refine CM rfl rfl (aa b) rfl (O1 rfl) rfl ?_|refine CG (l) ⟨r,⟨rfl,rfl⟩,trivial⟩ ?_)
 refine CH rfl rfl ?_;exact wB
def PB(h:ac)(t:Nat)(c:aF):bK {h with T:=h.T.set t c} = (bK h).set 9 (.s .own ((h.T.map (aF.enc .own)).set t (aF.enc .own c))):=by
 simp[bK,V6]
theorem pe(h:ac)(E:List Int)(t:Nat)(a:Int)(b:bg h (a::E))(w:t<h.T.length):zzB 515 false [.ptr (bK h),.val none [I (t:Nat)],.val none [I a]] [.ptr (bK (recyc t h a)),.val none [I (t:Nat)],.val none [I a]] (.tup []) []:=by
 obtain⟨o,y,p⟩:=b.at (b.hin a ψ);have g:=(b.hin a ψ).bd b;have B:=b.lens;have C:=B.spans;have j:=aL (b.L.sok _ (au o));have r:=b.cach _ (au w);have l:=kj h (a / 16) ω;rw[p]at l;have D:=oI h E a b;unfold recyc;generalize xd h a=i at o y l j;have n:=ar o;have k:=ar w;have d:=B3 (nth h.T t) (nth h.K i).Z.toNat a r ω;rw[Int.toNat_of_nonneg j.2.2.1]at d;unfold yd at d;cases e:cput (nth h.T t) (nth h.K i).Z a with
 | none=>
  rw[e]at d;refine fM 46 [(426,[2,0])] [(1,277,[16,17,18,19,20,21,22,23,24,25,26,27,28,29,30,31,32,15,33,34,7,0,1,2,3,4,5,6,7,8,9,10,11,12,13,14,15,16,17,18,19,20,21,1019,22]),(3,6,[36,37,38,39,40,41])] [(0,0),(0,0),(0,0)] Tryz.func515 rfl (λu q=>?_) (.inr trivial)
  repeat'(first|refine gP ?_|with_reducible refine CL ((Z0 _ (tdiv16 g.1)).trans (fW ω ω)) ?_|refine CN (by decide) ?_|refine CG (l) ⟨⟨rfl,bN h⟩,⟨rfl,rfl⟩,trivial⟩ ?_|refine CG (d) ⟨⟨rfl,CY _⟩,⟨rfl,rfl⟩,⟨rfl,rfl⟩,trivial⟩ ?_)
  refine CH rfl rfl ?_;exact wB
 | some c=>
  rw[e]at d;simp only;rw[PB];refine fM 46 [(426,[2,0])] [(1,277,[16,17,18,19,20,21,22,23,24,25,26,27,28,29,30,31,32,15,33,34,7,0,1,2,3,4,5,6,7,8,9,10,11,12,13,14,15,16,17,18,19,20,21,1019,22]),(3,6,[36,37,38,39,40,41])] [(0,0),(0,0),(0,0)] Tryz.func515 rfl (λu q=>?_) (.inr trivial)
  repeat'(first|refine gP ?_|with_reducible refine CL ((Z0 _ (tdiv16 g.1)).trans (fW ω ω)) ?_|refine CN (by decide) ?_|refine CG (l) ⟨⟨rfl,bN h⟩,⟨rfl,rfl⟩,trivial⟩ ?_|refine CG (d) ⟨⟨rfl,CY _⟩,⟨rfl,rfl⟩,⟨rfl,rfl⟩,trivial⟩ ?_|refine CM rfl rfl (aa k) rfl (O1 rfl) rfl ?_)
  refine CH rfl rfl ?_;exact wB
theorem ru(h:ac)(i:Nat)(d:bg h [])(o:i<h.M.length)(t:aS (nth h.M i).a1<0):zzB 511 false [.ptr (bK h),.val none [I (i:Nat)]] [.ptr (bK (freeL h i (uj h (nth h.M i).Addr))),.val none [I (i:Nat)]] (.tup []) []:=by
 obtain⟨l,w,y,-⟩:=(ef d (au o)).1 t;obtain⟨p,B,c,-⟩:=ui w y;generalize uj h (nth h.M i).Addr=g at p B c;have a:=d.lens;have C:=a.larges;have D:=a.objs;have b:=ar o;have N:=aX (d.L.lok _ (au p));have E:eO h<=32:=a.ents;refine fM 89 [(374,[2,0]),(513,[2,0])] [(4,11,[23,24,25,26,27,28,29,30,31,32,33]),(8,7,[41,42,43,44,45,46,47]),(9,273,[50,51,52,53,54,55,56,57,58,59,60,62,49,63,64,65,66,0,1,2,3,4,5,6,7,8,9,10,11,1000,1001,1002,1003,1004,1005,1006,12,13,14,15,16,17,18,1015]),(10,273,[67,68,69,70,71,72,73,74,76,77,78,79,80,81,82,84,85,0,1,2,3,4,5,6,7,9,10,11,12,13,14,15,8,1000,1009,1010,1011,1012,1013,1014,1015,16,1000,17,18,19]),(1048586,0,[7])] [(0,0),(0,0)] Tryz.func511 rfl (λu q=>?_) (.inr trivial)
 refine ZP ?_
 refine CF (ι:=Nat) (λk=>[(0,.G .box (bK h)),(1,.G .one [I ((i:Nat):Int)]),(4,.G .one [I ((k:Nat):Int)])]) (λk=>k<=g) (λk=>g - k) (0) ?_ (X0 _) λk O=>?_
 ·exact wB
 have j:=ar (xs:=h.J) (i:=k) ω;have F:=aX (d.L.lok _ (au (xs:=h.J) (i:=k) ω));have G:0<=(nth h.M i).Addr/\(nth h.M i).Addr<=512:=ω
 by_cases e:k=g
 ·subst e
  refine ZB ?_
  refine CF (ι:=Nat) (λn=>[(0,.G .box (bK {h with H:=du h.H (nth h.J k).R n})),(1,.G .one [I ((i:Nat):Int)]),(4,.G .one [I ((k:Nat):Int)]),(5,.G .box (aD.enc .own (nth h.J k))),(6,.G .one [I ((n:Nat):Int)])]) (λn=>n<=(nth h.J k).w.toNat) (λn=>(nth h.J k).w.toNat - n) (0) ?_ (X0 _) λn P=>?_
  ·exact wB
  by_cases Q:n<(nth h.J k).w.toNat
  ·have H:=o8 {h with H:=du h.H (nth h.J k).R n} ((nth h.J k).R+n) (jl d.ker _ _)
   refine ZE ?_
   (refine CD (n+1) ω ω ?_;(exact wB))
  obtain rfl:n=(nth h.J k).w.toNat:=ω
  have r:=iy {h with H:=du h.H (nth h.J k).R (nth h.J k).w.toNat};rw[show eO {h with H:=du h.H (nth h.J k).R (nth h.J k).w.toNat} = eO h from(gh _ _ _).1]at r;have J:=mT (eO h:Nat) h.a ⟨(nth h.J k).R,(nth h.J k).w⟩ ω ⟨by grind [ri.free],λ_ _=>trivial⟩;have K:=nN {h with H:=du h.H (nth h.J k).R (nth h.J k).w.toNat,J:=dele h.J k,a:=(ce (eO h) h.a ⟨(nth h.J k).R,(nth h.J k).w⟩).getD h.a} i o ψ
  repeat'(first|refine gE ?_|refine HK.mk rfl (vG h.J) rfl ?_|refine CS k rfl (by rw[I1];omega) (aK λ_=>rfl) O4 ?_|refine CW (k+1) rfl (by rw[I1];omega) (aK λ_=>rfl) V4 ?_|refine CU (λ_=>rfl) (λ_=>rfl) (by rw[C2];omega) (by decide) ?_|refine Ap.dele (λ_=>rfl) (λ_=>rfl) ω (by decide) ?_|refine CP (λ_=>rfl) (λ_=>rfl) (by rw[C2];omega) (by decide) ?_|refine CG (r) ⟨bN _,trivial⟩ ?_|refine CG (J) ⟨⟨rfl,rfl⟩,⟨rfl,dO h.a⟩,⟨rfl,rfl⟩,trivial⟩ ?_)
  refine CH rfl rfl ?_;exact wB
 have M:=c k ω
 refine ZB ?_
 (refine CD (k+1) ω ω ?_;(exact wB))
def PS(q:bt)(x:aQ):List C:=bt.enc .own (L0 q x)++cr .own (vI q x)
def KF(q:bt)(x:aQ):g0 (PS q x):=aB (bt.enc_fr _) (m0 _)
def Er(q:bt)(a:aQ)(K:q.q.length<=4096)(e:fQ q=true)(r:0<=a.Z/\a.Z<=3/\0<=a.Addr/\0<=a.b2)(t:∀y∈q.q,y.b2<=a.b2)(u:∀y∈q.q,y.Addr≠a.Addr) :
  zzA 514 false [.val (some 2) (bt.enc .S q),.val (some 3) (aQ.enc .S a)] (.tup [some 2,none]) (PS q a):=by
 have b:bt.sml q:=⟨ω,λ_ _=>trivial⟩
 have w:=tl q b;have l:=qm q b;rw[e]at l;have n:=BQ a;rw[O0 r]at n;have o:=tK q a.Addr b;rw[show q.q.any (eN a.Addr)=false by rw[List.any_eq_false];intro y B;unfold eN;simpa using u y B]at o;have C:=(iz.1 e).2.2.2;have g:=KF q a;have L:(aQ.mk a.Addr a.Z a.b2)=a:=rfl;have c:=zc q.b3 (q.q++[a]);simp only[X3,List.length_singleton]at c;by_cases E:q.q.length=0
 all_goals
  try have h:(nth q.q (q.q.length - 1)).b2<=a.b2:=t _ (au ω)
  try have j:=ar (xs:=q.q) (i:=q.q.length - 1) ω
  try have d:q.q[((q.q.length:Int) - 1).toNat]? = some (nth q.q (q.q.length - 1)):=by rw[show((q.q.length:Int) - 1).toNat=q.q.length - 1 by omega];exact j
  refine fO 74 [(3,27,[15,16,17,18,19,20,21,22,23,24,25,26,27,28,29,30,31,32,33,34,35,36,37,38,39,40,41]),(7,6,[52,53,54,55,56,57]),(9,268,[61,62,63,64,65,66,67,69,70,71,72,73,0,1,2,3,4,5,6,8,9,10,11,12,7,1008,1009,1010,1011,1012,13,14])] Tryz.func514 rfl ?_ (.inr g)
  repeat'(first|refine gE ?_|with_reducible refine Bf.D (λe=>?_) (λe=>?_)|refine CK ω (aa d) ?_|refine CV (aK λ_=>rfl) rfl (by simp;omega) (by decide) (dR (aQ.enc .own) q.q a) ?_)
  refine Lp.fz 8 (ι:=Nat) (λk=>[(2,.G .box (bt.enc .S q)),(4,.G .box [I 0,.z]),(8,.G .one (cr .S (q.q++[a]))),(9,.G .one [I (k:Nat)])]) (λk=>k<=iY q.b3 (q.q++[a])) (λk=>iY q.b3 (q.q++[a]) - k) 0 ?_ (X0 _) λk M=>?_
  ·(repeat'(first|exact trivial|rfl|exact CJ rfl (show LZ (dB (cr .own (q.q++[a]))) (cr .S (q.q++[a])) by rw[G1];exact kF _)|refine CJ ?_ ?_))
  have N:(q.q++[a]).length=q.q.length+1:=by simp
  have F:((q.q++[a]).drop k).length<=5000:=by rw[Y3];omega
  have G:((q.q++[a]).take k).length<=5000:=by rw[C2];omega
  have p:=wH ((q.q++[a]).drop k) ⟨ω,λ_ _=>trivial⟩;by_cases H:k<iY q.b3 (q.q++[a])
  ·have J:q.b3<quarCells ((q.q++[a]).drop k) ((q.q++[a]).drop k).length:=uY H
   repeat'(first|refine gE ?_|refine CW k rfl (by rw[I1];omega) (aK λ_=>rfl) V4 ?_)
   (refine CD (k+1) ω ω ?_;(exact wB))
  obtain rfl:k=iY q.b3 (q.q++[a]):=ω
  have J:quarCells ((q.q++[a]).drop (iY q.b3 (q.q++[a]))) ((q.q++[a]).drop (iY q.b3 (q.q++[a]))).length<=q.b3:=xz C.1 _
  repeat'(first|refine gE ?_|refine CW (iY q.b3 (q.q++[a])) rfl (by rw[I1];omega) (aK λ_=>rfl) V4 ?_|refine CS (iY q.b3 (q.q++[a])) rfl (by rw[I1];omega) (aK λ_=>rfl) O4 ?_|refine CU (λ_=>rfl) (λ_=>rfl) ω (by decide) ?_|refine CP (λ_=>rfl) (λ_=>rfl) ω (by decide) ?_)
  rfl
def kH{z:Int}(h:0<=z/\z<512):IntKind.i64.wrap (z.tdiv 16)=z / 16:=(Z0 _ (tdiv16 h.1)).trans (fW ω ω)
def nh(a:bg h E)(b:o∈h.M):0<=o.Addr/\o.Addr<512:=by
 rcases a.oow o b with⟨s,c,⟨f,g,-⟩,-⟩|⟨l,d,e,-⟩
 ·have:=aL (a.L.sok s c);omega
 have:=aX (a.L.lok l d);omega
theorem EJ{k:Int}(h:0<=k/\k<=3):1<=csz k/\csz k<=8:=by grind [cW]
structure TC(h:ac)(o:bi):Prop where
 cl:0<=aS o.a1/\aS o.a1<=3
 fr:0<=(ax h.H.F.Q (o.Addr / 16)).e/\(ax h.H.F.Q (o.Addr / 16)).e<h.H.F.V.W.length
 fit:o.Addr % 16+csz (aS o.a1)<=16
 row:(nth h.H.F.V.W (eM h.H o.Addr)).length=16
theorem TC.of(a:bg h E)(i:o∈h.M)(k:¬aS o.a1<0):TC h o:=by
 obtain⟨⟨s,j,b,r⟩,t⟩:=(ef a i).2 k;have l:=aL (a.L.sok s j);have n:=nh a i;have u:s.R=o.Addr / 16:=by have w:=b.1;have y:=b.2.1;omega
 have c:(o.Addr / 16).toNat<(tbl h).O.length:=by have:=a.pg.bnd _ (eG (la:=h.J) j);omega
 have d:(((o.Addr / 16).toNat:Nat):Int)=o.Addr / 16:=ω
 have A:=(a.pg.own _ c).2 (by grind [eG]);have e:(ax h.H.F.Q (o.Addr / 16)).k≠0:=by grind [nk,tbl]
 obtain⟨-,-,-,f,p⟩:=bM a.ker e;have q:=(aY.1 (aH.1 a.ker).2.1).2.2.1;have g:eM h.H o.Addr<h.H.F.V.W.length:=by unfold eM;omega
 refine⟨ω,⟨f,ω⟩,?_,a.lens.row _ (au g)⟩;have B:=b.2.2.1
 grind [cW]
theorem Fc(h:ac)(a:Int)(b:eM h.H a<h.H.F.V.W.length):({h with H:=en h.H a 0} : ac)=h:=by
 have e:h.H.F.V.W.set (eM h.H a) (nth h.H.F.V.W (eM h.H a))=h.H.F.V.W:=by
  refine List.ext_getElem? λi=>?_
  grind [ar]
 unfold en iM;rw[e]
def FN(h:ac)(a:Int)(k:Nat)(v:Int)(_:0<=a):bK {h with H:=en h.H a (k+1)} = (bK {h with H:=en h.H a k}).set 0 (.s .own (((en h.H a k).F.V.W.map (aG .own)).set (ax h.H.F.Q (a / 16)).e.toNat ((aG .own (iM (nth h.H.F.V.W (eM h.H a)) (a % 16).toNat k)).set 0 (.s .own (((iM (nth h.H.F.V.W (eM h.H a)) (a % 16).toNat k).map (rI .own)).set (a % 16+k).toNat (splice (rI .own v) 0 [I 0])))))):=by
 have e:(a % 16+k).toNat=(a % 16).toNat+k:=ω
 rw[e];simp[bK,en,V6,iM,aG,splice,eM]
 rfl
theorem wl(t:Nat)(h:ac)(xs:List aQ)(k:Nat)(a:k<xs.length):recycs t h ((xs.take (k+1)).map (·.Addr))=recyc t (recycs t h ((xs.take k).map (·.Addr))) (nth xs k).Addr:=by grind [X5,ar,recycs]
theorem HS(h:ac)(o:bi)(t:Nat)(a:bg h [])(N:o∈h.M)(ht:o.a0=t)(hlc:h.T.length<=4):zzB 416 false [.ptr (bK h),.val none [I (t:Nat)],.val none [I o.Addr]] [.ptr (bK (freeOb h t (jB h o.Addr)).1),.val none [I (t:Nat)],.val none [I o.Addr]] .one [I (freeOb h t (jB h o.Addr)).2]:=by
 obtain⟨g,w,B⟩:=a.objAt N;have b:=nh a N;have hon:=a.onu o N;have C:=a.lens;have hno:=C.objs;have O:t<h.T.length:=ω
 have L:=aM (t:Nat) 0 (h.T.length - 1:Int);rw[O0 ω]at L;have E:=sO h o.Addr ω;rw[B]at E;generalize jB h o.Addr=i at g w E;subst w;have p:=ar g;have P:=lh (nth h.M i).a1;unfold freeOb;have Q:=aZ a.ker;have X:=dh h.H.F.Q ((nth h.M i).Addr / 16) Q.1.2;by_cases r:aS (nth h.M i).a1<0
 ·rw[CC r]
  have c3:=ru h i a g r;refine fM 148 [(511,[2,0]),(513,[2,0]),(515,[2,0,0]),(510,[2,0])] [(15,269,[68,69,70,71,72,73,74,75,77,67,78,79,11,0,1,2,3,4,5,6,7,13,8,1000,1001,1002,1003,1004,1013,9,10,11,12,14,1012,15]),(22,15,[92,93,94,95,96,97,98,99,100,101,102,103,104,105,106]),(25,271,[116,117,118,119,120,121,122,123,124,125,127,115,128,129,14,0,1,2,3,4,5,6,7,8,9,15,10,1000,1001,1002,1003,1015,11,12,13,14,16,1014,17])] [(0,0),(0,0),(0,0)] Tryz.func416 rfl (λu q=>?_)
  repeat'(first|refine gE ?_|with_reducible refine Bf.D (λj=>?_) (λj=>?_)|refine CG (E) ⟨⟨rfl,bN h⟩,⟨rfl,rfl⟩,trivial⟩ ?_)
  refine CH rfl rfl ?_;exact wB
 rw[CB r];obtain⟨R,s2,s3,s4⟩:=TC.of a (au g) r;by_cases M:(ax (tbl h) ((nth h.M i).Addr / 16)).k=1
 ·rw[CC M]
  unfold tbl at M;refine fM 148 [(511,[2,0]),(513,[2,0]),(515,[2,0,0]),(510,[2,0])] [(15,269,[68,69,70,71,72,73,74,75,77,67,78,79,11,0,1,2,3,4,5,6,7,13,8,1000,1001,1002,1003,1004,1013,9,10,11,12,14,1012,15]),(22,15,[92,93,94,95,96,97,98,99,100,101,102,103,104,105,106]),(25,271,[116,117,118,119,120,121,122,123,124,125,127,115,128,129,14,0,1,2,3,4,5,6,7,8,9,15,10,1000,1001,1002,1003,1015,11,12,13,14,16,1014,17])] [(0,0),(0,0),(0,0)] Tryz.func416 rfl (λu q=>?_)
  repeat'(first|refine gB ?_|with_reducible refine Bf.D (λj=>?_) (λj=>?_)|refine CN (by decide) ?_|refine CL (kH b) ?_|refine CG (E) ⟨⟨rfl,bN h⟩,⟨rfl,rfl⟩,trivial⟩ ?_|refine CG (X) ⟨⟨rfl,CZ _⟩,⟨rfl,rfl⟩,trivial⟩ ?_)
  refine CH rfl rfl ?_;exact wB
 rw[CB M];unfold tbl at M;have F:eM h.H (nth h.M i).Addr<h.H.F.V.W.length:=by unfold eM;omega
 have hcz:=EJ R;have l:=a.inQuar g r;have G:=eg (aS (nth h.M i).a1);refine fM 148 [(511,[2,0]),(513,[2,0]),(515,[2,0,0]),(510,[2,0])] [(15,269,[68,69,70,71,72,73,74,75,77,67,78,79,11,0,1,2,3,4,5,6,7,13,8,1000,1001,1002,1003,1004,1013,9,10,11,12,14,1012,15]),(22,15,[92,93,94,95,96,97,98,99,100,101,102,103,104,105,106]),(25,271,[116,117,118,119,120,121,122,123,124,125,127,115,128,129,14,0,1,2,3,4,5,6,7,8,9,15,10,1000,1001,1002,1003,1015,11,12,13,14,16,1014,17])] [(0,0),(0,0),(0,0)] Tryz.func416 rfl (λu q=>?_)
 repeat'(first|refine gB ?_|with_reducible refine Bf.D (λj=>?_) (λj=>?_)|refine CN (by decide) ?_|refine CL (kH b) ?_|refine CG (E) ⟨⟨rfl,bN h⟩,⟨rfl,rfl⟩,trivial⟩ ?_|refine CG (X) ⟨⟨rfl,CZ _⟩,⟨rfl,rfl⟩,trivial⟩ ?_)
 rw[show bK h=bK {h with H:=en h.H (nth h.M i).Addr 0} by rw[Fc h _ F]]
 (conv=>whnf)
 refine CF (ι:=Nat) (λk=>[(0,.G .box (bK {h with H:=en h.H (nth h.M i).Addr k})),(1,.G .one [I ((t:Nat):Int)]),(2,.G .one [I ((nth h.M i).Addr)]),(7,.G .one [I ((i:Nat):Int)]),(8,.G .box (bi.enc .own (nth h.M i))),(9,.G .one [I (aS (nth h.M i).a1)]),(10,.G .box (bo.enc .own (ax h.H.F.Q ((nth h.M i).Addr / 16)))),(13,.G .one [I ((k:Nat):Int)])]) (λk=>k<=(csz (aS (nth h.M i).a1)).toNat) (λk=>(csz (aS (nth h.M i).a1)).toNat - k) (0) ?_ (X0 _) λk hk=>?_
 ·exact wB
 have Y:IntKind.i64.wrap 0=0:=rfl;have S:(nth h.M i).Addr.tmod 16=(nth h.M i).Addr % 16:=ew b.1;have n:(en h.H (nth h.M i).Addr k).F.V.W[(ax h.H.F.Q ((nth h.M i).Addr / 16)).e.toNat]? = some (iM (nth h.H.F.V.W (eM h.H (nth h.M i).Addr)) ((nth h.M i).Addr % 16).toNat k):=t4 F;by_cases T:k<(csz (aS (nth h.M i).a1)).toNat
 ·have H:=ar (xs:=iM (nth h.H.F.V.W (eM h.H (nth h.M i).Addr)) ((nth h.M i).Addr % 16).toNat k) (i:=((nth h.M i).Addr % 16+k).toNat) (by grind [n9])
  repeat'(first|refine gE ?_|refine CN (by decide) ?_|refine CQ S ?_|refine CK s2.1 (aa n) ?_|refine CK ω (aa H) ?_|refine Pu.two rfl rfl (aa n) rfl rfl rfl (aa H) rfl (V3 _) (FN h _ k _ b.1) ?_)
  (refine CD (k+1) ω ω ?_;(exact wB))
 obtain rfl:k=(csz (aS (nth h.M i).a1)).toNat:=ω
 have c5:=nN {h with H:=en h.H (nth h.M i).Addr (csz (aS (nth h.M i).a1)).toNat} i g ψ;have d:=a.nums;unfold cg at d;rw[C0]at d;have J:=(a.dropO g (jz.any (c:=aS (nth h.M i).a1) (by obtain⟨⟨s,hs,k1,k2⟩,-⟩:=(ef a (au g)).2 r;exact⟨s,hs,k1,.inr k2⟩))).nd;rw[List.cons_append,List.nil_append]at J;have Z:=Er h.a3 (jf h (nth h.M i)) (by grind [ri.quar]) a.quar ⟨R.1,R.2,b.1,d.2.2.1⟩ (λy hy=>a.snc y hy) (λy hy e=>(List.nodup_cons.1 J).1 (by rw[show(nth h.M i).Addr=y.Addr from e.symm];grind [holders]));unfold PS at Z;have U:(vI h.a3 (jf h (nth h.M i))).length<=513:=by grind [ri.quar,vI]
 repeat'(first|refine gB ?_|with_reducible refine Bf.D (λj=>?_) (λj=>?_)|refine CG (Z) ⟨⟨rfl,bt.enc_fz h.a3⟩,⟨rfl,rfl⟩,trivial⟩ ?_)
 have V:KT h t i=recycs t (inQuar h i) ((vI h.a3 (jf h (nth h.M i))).map (·.Addr)):=rfl;simp only;rw[V];have hqn:(inQuar h i).T.length=h.T.length:=rfl;generalize vI h.a3 (jf h (nth h.M i))=out at l U
 (conv=>whnf)
 refine CF (ι:=Nat) (λk=>[(0,.G .box (bK (recycs t (inQuar h i) ((out.take k).map (·.Addr))))),(1,.G .one [I ((t:Nat):Int)]),(15,.G .one (cr .own out)),(16,.G .one [I ((k:Nat):Int)])]) (λk=>k<=out.length) (λk=>out.length - k) (0) ?_ (X0 _) λk hk=>?_
 ·exact wB
 by_cases T:k<out.length
 ·have K:=ar T
  have hsp:out.map (·.Addr)=(out.take k).map (·.Addr)++(nth out k).Addr::(out.drop (k+1)).map (·.Addr):=by grind [List.take_append_drop,fN]
  have W:bg (recycs t (inQuar h i) ((out.take k).map (·.Addr))) ((nth out k).Addr::(out.drop (k+1)).map (·.Addr)):=bg.recycs ψ O;have c7:=pe _ _ t _ W (by grind [f7])
  refine ZE ?_
  (refine CD (k+1) ω ω ?_)
  rw[wl t _ out k T];exact wB
 obtain rfl:k=out.length:=ω
 rw[I5]
 refine ZE ?_
 refine CH rfl rfl ?_;exact wB
end Go.Proofs.YtiopgblagimpmaaGreat.Ab
