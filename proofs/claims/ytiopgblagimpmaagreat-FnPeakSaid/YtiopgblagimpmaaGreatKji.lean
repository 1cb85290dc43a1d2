/- The number of frames stays the same in a run; how many were ever in use. No condition. -/
import Derived.Test.YtiopgblagimpmaaGreatKjd
import Derived.Test.YtiopgblagimpmaaGreatKjh
import Derived.Test.YtiopgblagimpmaaGreatKjg
import Derived.Test.YtiopgblagimpmaaGreatKjc
import Derived.ProofKit
import Derived.OpenShut
import Derived.Deep.Slices
import Derived.Deep.Fields
import Derived.ChangeSame
import Derived.WideShapes
set_option linter.unusedVariables false
set_option linter.defProp false
set_option linter.unusedSimpArgs false
set_option linter.constructorNameAsVariable false
namespace Go.Proofs.YtiopgblagimpmaaGreat.Ab
def nfk(k:ah):Nat:=k.F.V.k.length
def nfr(h:ac):Nat:=nfk h.J
def B3(k:ah)(p:Int):nfk (ek k p).1=nfk k:=by unfold ek;split;exact rfl;exact U1 ..
def rv(k:ah)(p:Int):∀n,nfk (bO k p n).1=nfk k
 | 0=>rfl
 | n+1=>by
  unfold bO;split
  ·exact(B3 _ _).trans (rv k p n)
  exact rv k p n
def zn(k:ah)(p:Int):nfk (cr k p)=nfk k:=by
 unfold cr;split
 ·rfl
 exact(mr _ _).2.2.2.2
def v8(k:ah)(p:Int):∀n,nfk (dM k p n)=nfk k
 | 0=>rfl
 | n+1=>(zn _ _).trans (v8 k p n)
def Qb(k:ah)(a:Int):∀m,nfk (zK k a m)=nfk k
 | 0=>rfl
 | m+1=>Qb k a m
def Ma(h:ac)(i:Nat):nfr (m9 h i).1=nfr h:=by unfold m9;split<;>rfl
def AA(h:ac)(t c:Nat):nfr (eJ h t c).1=nfr h:=by
 unfold eJ;split
 ·rfl
 split
 ·rfl
 split
 ·rfl
 split
 ·exact B3 _ _
 exact(Ma _ _).trans (B3 _ _)
def J1(h:ac)(t n:Int):nfr (fy h t n).1=nfr h:=by
 unfold fy;split
 ·rfl
 split
 ·rfl
 split
 ·rfl
 split
 ·rfl
 split
 ·split
  ·exact AA _ _ _
  exact AA _ _ _
 unfold ou;split
 ·rfl
 split
 ·exact rv _ _ _
 exact(v8 _ _ _).trans (rv _ _ _)
def Fy(h:ac)(i:Nat)(a:Int):nfr (freeS h i a)=nfr h:=by
 unfold freeS;split
 ·exact zn _ _
 rfl
def M2(t:Nat)(h:ac)(a:Int):nfr (recyc t h a)=nfr h:=by
 unfold recyc;split
 ·rfl
 exact Fy _ _ _
def tZ(t:Nat):∀(az:List Int)(h:ac),nfr (recycs t h az)=nfr h
 | [],_=>rfl
 | a::az,h=>(tZ t az (recyc t h a)).trans (M2 t h a)
def sR:∀(az:List Int)(h:ac),nfr (freeAs h az)=nfr h
 | [],_=>rfl
 | a::az,h=>(sR az (freeA h a)).trans (Fy _ _ _)
def Mg(h:ac)(t i:Nat):nfr (freeT h t i).1=nfr h:=by
 unfold freeT;split
 ·exact v8 _ _ _
 split
 ·rfl
 split
 ·exact tZ t _ _
 split<;>rfl
def zE(t:Nat)(h:ac):∀k,nfr (flushN t h k).1=nfr h
 | 0=>rfl
 | k+1=>(sR _ (spilt (flushN t h k).1 t k)).trans (zE t h k)
def Ni{h:ac}(a:bi h [])(b:JI h)(c:h.q=true):nfr (mStep h)=nfr h:=by
 show(gl h.J h.y).1.F.V.k.length=_;rw[Hg a b c];split
 ·exact U1 ..
 rfl
def GU{h:ac}(a:bi h [])(b:JI h):∀n,nfr (sg h n).1=nfr h
 | 0=>rfl
 | n+1=>by
  obtain⟨c,d⟩:=xO a b n;unfold sg;split
  ·rename_i e
   unfold vd at e;rw[I0]at e;exact(Ni c d e.1).trans (GU a b n)
  exact GU a b n
def LL{w:bB}{m:Nat}(h:uU w m)(a:dK):nfr (lm w a).1.a=nfr w.a:=by
 unfold lm;split
 ·exact J1 _ _ _
 split
 ·split
  ·rfl
  unfold na;split
  ·unfold rC
   split
   ·rfl
   split
   ·exact Mg _ _ _
   rfl
  split
  ·unfold oU
   split
   ·rfl
   split
   ·rfl
   split<;>rfl
  unfold r6;split
  ·exact(v8 _ _ _).trans (Qb _ _ _)
  rfl
 split
 ·unfold jb
  split
  ·split<;>rfl
  split
  ·rfl
  split
  ·exact tZ _ _ _
  exact zE _ _ _
 split
 ·unfold pB
  split
  ·exact sR _ _
  rfl
 split
 ·unfold oY
  split
  ·rfl
  show nfr (started w.a).1=_;unfold nfr;rw[(uw h.inv).2.1]
 split
 ·exact GU h.inv h.ji _
 rfl
def Lo{c:bM}(h:yu c)(acts:List dK):∀n,nfr (mc c acts n).1.a=nfr (mc c acts 0).1.a
 | 0=>rfl
 | n+1=>(LL (nS h acts n) _).trans (Lo h acts n)
def zq(a:List Bool):∀i:Nat,0<=fA a i/\fA a i<=i
 | 0=>⟨V4 _,V4 _⟩
 | i+1=>by
  have:=zq a i;show 0<=fA a i+(if nth a i then 1 else 0)/\fA a i+(if nth a i then 1 else 0)<=_;split<;>omega
def A5(n:Nat):∀i,i<=n->fA (List.replicate n false) i=0
 | 0,_=>rfl
 | i+1,h=>by
  show fA _ i+(if nth (List.replicate n false) i then 1 else 0)=0;rw[A5 n i ω,dn ω];rfl
def Rb(h:ac):Int:=cL h.J.F.V
def QD{c:bM}(h:yu c)(acts:List dK)(n:Nat):0<=Rb (mc c acts n).1.a/\Rb (mc c acts n).1.a<=c.V:=by
 have e:=Lo h acts n;have a:nfr (mc c acts 0).1.a=c.V:=W3;have b:=(nS h acts n).inv.ker;have d:=PV b;have g:=h.f;unfold Rb;rw[d];unfold nfr nfk at e a;have:=zq (mc c acts n).1.a.J.F.V.k (mc c acts n).1.a.J.F.V.k.length;omega
def KB(c:bM)(acts:List dK):Nat->Int
 | 0=>0
 | i+1=>max (KB c acts i) (Rb (mc c acts (i+1)).1.a)
def R5(c:bM)(acts:List dK):Rb (mc c acts 0).1.a=0:=by
 show cL (ew c.V)=0;unfold cL ew;split
 ·rw[W3];exact A5 _ _ (C3 _)
 rfl
def Lx{c:bM}(h:yu c)(acts:List dK):∀n,0<=KB c acts n/\KB c acts n<=c.V/\∀k,k<=n->Rb (mc c acts k).1.a<=KB c acts n
 | 0=>by
  have:=h.f;refine⟨V4 _,by show(0:Int)<=(c.V:Int);omega,λk a=>?_⟩;obtain rfl:k=0:=ω
  exact Int.le_of_eq (R5 c acts)
 | n+1=>by
  obtain⟨g,i,d⟩:=Lx h acts n;have b:=QD h acts (n+1);refine⟨by show 0<=max _ _;omega,by show max _ _<=_;omega,λk a=>?_⟩;show _<=max _ _;by_cases e:k=n+1
  ·subst e;omega
  have:=d k ω;omega
def E9(c:bM)(acts:List dK){k:Nat} : ∀n,n<=k->mc c (acts.take k) n=mc c acts n
 | 0,_=>rfl
 | n+1,a=>by
  have e:nth (acts.take k) n=nth acts n:=by
   unfold nth;rw[W2,W2,List.getElem?_take,CA ω]
  show((lm (mc c (acts.take k) n).1 (nth (acts.take k) n)).1,(mc c (acts.take k) n).2++[(lm (mc c (acts.take k) n).1 (nth (acts.take k) n)).2])=_;rw[E9 c acts n ω,e];rfl
open Go.RowKit
set_option maxRecDepth 20000
set_option maxHeartbeats 4000000
def m6(zs:List Int)(c:gx)(m:Nat):Nat->List dK × gx
 | 0=>([],(br zs c (m+1)).2)
 | i+1=>((m6 zs c m i).1++[(nQ zs (m6 zs c m i).2 (1+(i:Int) / 2)).1],(nQ zs (m6 zs c m i).2 (1+(i:Int) / 2)).2)
def ro(zs:List Int)(c:gx):List dK × gx:=m6 zs c 60 (br zs c 61).1.toNat
def yb{zs:List Int}{c:gx}(m:Nat)(h:c.i<=zs.length):∀{n:Nat},n<=100->(m6 zs c m n).1.length=n/\(∀a∈(m6 zs c m n).1,Rc a)/\(m6 zs c m n).2.i<=zs.length
 | 0,_=>⟨rfl,λa b=>(by cases b),bR h _⟩
 | n+1,k=>by
  obtain⟨d,e,f⟩:=yb m h (n:=n) ω;obtain⟨g,j⟩:=Lg (ids:=1+(n:Int) / 2) f ω;refine⟨by simp only[m6,O3,List.length_singleton,d],λa b=>?_,j⟩;rcases z3.1 b with b|b
  ·exact e a b
  rw[O1.1 b];exact g
def LT{zs:List Int}{c:gx}(h:c.i<=zs.length):(ro zs c).1.length<=60/\∀a∈(ro zs c).1,Rc a:=by
 have d:=bK zs c (n:=61) (by decide);obtain⟨e,b,-⟩:=yb (zs:=zs) (c:=c) 60 h (n:=(br zs c 61).1.toNat) ω;exact⟨by show(m6 zs c 60 _).1.length<=60;omega,b⟩
def Gr(zs:List Int)(c:gx)(b:ko zs)(d:c.i<=zs.length):zzB 114 false [.ptr (i6 zs c),.val none [I 60]] [.ptr (i6 zs (ro zs c).2),.val none [I 60]] .one (iH .own (ro zs c).1):=by
 have e:=bP zs c 61 b d (by decide);have g:=bK zs c (n:=61) (by decide);obtain⟨n,h⟩:=Z2 g.1;have a:(br zs c 61).1.toNat=n:=by rw[h];rfl
 unfold ro;rw[a];rw[h]at e g;refine fM 27 [(61,[2,0]),(259,[2,0])] [] [(0,0),(0,0)] Tryz.func114 rfl (λu q=>?_) (.inr (zr _))
 repeat'(first|refine gP ?_|(conv=>whnf);first|refine CF (e) (.inl rfl) ?_)
 (conv=>whnf)
 refine CD (ι:=Nat) (λi=>[(0,.G .box (i6 zs (m6 zs c 60 i).2)),(5,.G .one (iH .own (m6 zs c 60 i).1)),(6,.G .one [I ((n:Nat):Int)]),(7,.G .one [I ((i:Nat):Int)])]) (λi=>i<=n) (λi=>n - i) (0) ?_ (W0 _) λi p=>?_
 ·exact wC
 obtain⟨t,-,j⟩:=yb (zs:=zs) (c:=c) 60 d (n:=i) ω;by_cases w:i<n
 ·have k:=Ek zs (m6 zs c 60 i).2 (1+(i:Int) / 2) b j ω
  have l:((i:Nat):Int).tdiv 2=(i:Int) / 2:=Int.tdiv_eq_ediv_of_nonneg ω
  repeat'(first|refine gE ?_|(conv=>whnf);first|with_reducible (first|refine CO l ?_|refine CM ω ?_)|refine CF (k) (.inl rfl) ?_|refine CQ (aQ λ_=>rfl) (λr o=>by rw[O1.1 o];rfl) (by simp[bn,eP,dK.enc]) (by simp;omega) (by simp only[C1];exact D8 (by simp;omega) (by decide)) rfl ?_)
  ((conv=>whnf);refine CC (i+1) ω ω ?_)
  repeat'(first|exact trivial|rfl| exact fj _ |exact CG rfl (CG (X0 (C.s dH.own) (by simp[m6];rfl)) trivial)|refine CG ?_ ?_|(exact JN (by first|omega|(simp only;omega)|(simp;omega))))
 obtain rfl:i=n:=ω
 repeat'(first|refine gE ?_|fail)
 refine CK rfl rfl ?_;exact wC
def AG(zs:List Int)(a:ko zs):zzA 38 false [.val none (Qm zs)] (.tup [some 5,none]) (bM.enc .U (oy zs (tn zs))++iH .U (ro zs (mI zs)).1):=by
 have b:(tn zs).i<=zs.length:=W0 _;obtain⟨k,e⟩:=En b;have h:=ui zs a;have c:=xK zs (tn zs) a b;have j:=Gr zs (mI zs) a e;change bf _ _ _ _ [.ptr (i6 zs (mI zs))] _ _ at c;have key:zzA 38 false [.val none (Qm zs)] (.tup [some 5,none]) (bM.enc .own (oy zs (tn zs))++iH .own (ro zs (mI zs)).1):=by
  generalize oy zs (tn zs)=cf at *;generalize ro zs (mI zs)=A at *;refine fP 11 [(113,[2]),(114,[2,0]),(3000004,[])] [] Tryz.func38 rfl ?_ (.inr (aD (bM.enc_fr _) (zr _)))
  repeat'(first|refine gP ?_|(conv=>whnf);first|refine Cl.g h (.inr rfl) ?_|refine CF (c) (.inl rfl) ?_|refine CF (j) (.inl rfl) ?_)
  rfl
 have d:=key.fzR;rw[df,bM.enc_fz,J6]at d;exact d
def HG(c:bM)(acts:List dK):∀i,(mc c acts i).2.length=i
 | 0=>rfl
 | k+1=>by show((mc c acts k).2++[_]).length=_;rw[O3,HG c acts k];rfl
def Du(c:bM)(acts:List dK)(h:yu c)(b:jx c.j)(n:acts.length<=80):zzA 39 true [.val (some 5) (bM.enc .U c),.val none (iH .U acts)] (.tup [some 26,none]) (bB.enc .U (mc c acts acts.length).1++aK .own (mc c acts acts.length).2):=by
 have d:=(pN c h).fzR;rw[df,bB.enc_fz]at d;change am _ _ _ _ _ (_++[B true]) at d;refine fO 47 [(5,3,[27,28,29]),(6,1,[30])] Tryz.func39 rfl ?_ (.inl rfl)
 repeat'(first|refine gE ?_|(conv=>whnf);first|refine C7 (d) ?_)
 (conv=>whnf)
 refine CD (ι:=Nat) (λi=>[(1,.G .one (iH .U acts)),(4,.G .box [.z,.z,.z,I 0,.z,.z,.z,.z,.z,.z,.z,.z,I 0,.z,I 0,I 0,I 0,I 0,B false,I 0,I 0,.z,I 0,I 0,I 0,.z]),(6,.G .box (bB.enc .U (mc c acts i).1)),(8,.G .one (aK .own (mc c acts i).2)),(27,.G .one (iH .U acts)),(28,.G .one [I (acts.length)]),(29,.G .one [I ((i:Nat):Int)])]) (λi=>i<=acts.length) (λi=>acts.length - i) (0) ?_ (W0 _) λi o=>?_
 ·exact wC
 have j:=nS h acts i;have a:=x5 h acts i;have e:=HG c acts i;by_cases k:i<acts.length
 ·have g:=au k
  have l:=xg (mc c acts i).1 (nth acts i) i j ω (by unfold rfs at a;rw[a];exact b)
  repeat'(first|refine gE ?_|(conv=>whnf);first|with_reducible refine CB (aa g) ?_|refine CE rfl (aa g) rfl ?_|refine Cl.sh l rfl ?_|refine CQ dL (λr b=>by rw[O1.1 b];rfl) (by simp[bn,eP]) (by simp;omega) (by simp only[C1];exact D8 (by simp;omega) (by decide)) rfl ?_)
  ((conv=>whnf);refine CC (i+1) ω ω ?_)
  repeat'(first|exact trivial|rfl| exact fj _ |exact CG rfl (CG (X0 (C.s dH.own) (by simp[mc,rI])) trivial)|refine CG ?_ ?_|(exact JN (by first|omega|(simp only;omega)|(simp;omega))))
 obtain rfl:i=acts.length:=ω
 repeat'(first|refine gE ?_|fail)
 rfl
def uP(c:bM)(acts:List dK)(h:yu c)(j:jx c.j)(q:acts.length<=80):zzA 40 false [.val (some 5) (bM.enc .U c),.val none (iH .U acts)] .one [I (KB c acts acts.length)]:=by
 have d:=(pN c h).fzR;rw[df,bB.enc_fz]at d;change am _ _ _ _ _ (_++[B true]) at d;refine fO 44 [(5,3,[22,23,24]),(6,1,[25])] Tryz.func40 rfl ?_
 repeat'(first|refine gE ?_|(conv=>whnf);first|refine C7 (d) ?_)
 (conv=>whnf)
 refine CD (ι:=Nat) (λi=>[(1,.G .one (iH .U acts)),(5,.G .box (bB.enc .U (mc c acts i).1)),(7,.G .one [I (KB c acts i)]),(22,.G .one (iH .U acts)),(23,.G .one [I (acts.length)]),(24,.G .one [I ((i:Nat):Int)])]) (λi=>i<=acts.length) (λi=>acts.length - i) (0) ?_ (W0 _) λi r=>?_
 ·exact wC
 have n:=nS h acts i;have b:=x5 h acts i;have a:=x5 h acts (i+1);have e:=((nS h acts (i+1)).fit (by unfold rfs at a;rw[a];exact j)).1;by_cases o:i<acts.length
 ·have k:=au o
  have l:=xg (mc c acts i).1 (nth acts i) i n ω (by unfold rfs at b;rw[b];exact j);have p:=vh (mc c acts (i+1)).1.a.J.F.V e.1.1.1;change am _ _ _ _ _ (bB.enc .U (mc c acts (i+1)).1++_) at l;have g:(if true=true then if cL (mc c acts (i+1)).1.a.J.F.V > KB c acts i then cL (mc c acts (i+1)).1.a.J.F.V else KB c acts i else if cL (mc c acts (i+1)).1.a.J.F.V<KB c acts i then cL (mc c acts (i+1)).1.a.J.F.V else KB c acts i)=KB c acts (i+1):=by
   rw[CA rfl];show _=max (KB c acts i) (cL (mc c acts (i+1)).1.a.J.F.V);split<;>omega
  repeat'(first|refine gE ?_|(conv=>whnf);first|with_reducible refine CB (aa k) ?_|refine CE rfl (aa k) rfl ?_|refine Cl.sh l rfl ?_|refine C7 (p) ?_|refine CO g ?_)
  ((conv=>whnf);refine CC (i+1) ω ω ?_;(exact wC))
 obtain rfl:i=acts.length:=ω
 repeat'(first|refine gE ?_|fail)
 rfl
def Peak_law(zs:List Int)(C:zs.length<=9223372036854775807/\∀y∈zs,0<=y/\y<=255):zzA 9 false [.val none (Qm zs)] .one [B true]:=by
 have l:=Q7 zs C.1;by_cases D:(zs.length:Int) > 1048576
 ·rw[O0 D]at l
  refine fO 54 [(5,271,[19,20,21,22,23,24,25,26,27,28,29,18,30,31,6,0,1,2,3,4,5,6,7,8,9,10,11,12,13,14,15,1013,16]),(6,2,[32,33])] Tryz.func9 rfl ?_
  repeat'(first|refine gP ?_|(conv=>whnf);first|refine C9 ?_|refine C7 (l) ?_)
  rfl
 rw[U0 D]at l;have E:ko zs:=⟨ω,C.2⟩
 have K:(tn zs).i<=zs.length:=W0 _;obtain⟨d,L⟩:=En K;have b:=LS zs (tn zs);obtain⟨S,-⟩:=LT (zs:=zs) (c:=mI zs) L;have cD:=AG zs E;have cP:=uO zs E;obtain⟨-,T,M⟩:=AX zs 12;generalize (se zs 12).1=n at *;have e:=au (xs:=n) (i:=0) ω;have o:=M _ (ax (xs:=n) (i:=0) ω);generalize nth n 0=p at *;generalize oy zs (tn zs)=a at *;generalize (ro zs (mI zs)).1=acts at *;obtain⟨k,F⟩:=Z2 (Int.emod_nonneg p (show((acts.length:Int)+1)≠0 by omega));have r:=Int.emod_lt_of_pos p (show(0:Int)<(acts.length:Int)+1 by omega);have N:p.tmod ((acts.length:Int)+1)=(k:Nat):=(fD o.1).trans F;rw[F]at r;have g:k<=acts.length:=ω
 have t:(acts.take k).length=k:=by rw[V1];omega
 have G:=Du a (acts.take k) d b ω;rw[t,E9 a acts k (C3 _)]at G;have O:=uP a acts d b ω;obtain⟨U,V,P⟩:=Lx d acts acts.length;have Q:=P k g;unfold Rb at Q;have h:=nS d acts k;have j:=x5 d acts k;unfold rfs at j;have H:=(h.fit (by rw[j];exact b)).1;have R:=vn (mc a acts k).1.a.J.F.V H.1.1.1;have J:=cw (mc a acts k).1.a H;rw[du,h.inv.to]at J;generalize (mc a acts k).1=w at *;generalize (mc a acts k).2=cs at *;generalize cL w.a.J.F.V=u at *;generalize KB a acts acts.length=q at *;refine fO 54 [(5,271,[19,20,21,22,23,24,25,26,27,28,29,18,30,31,6,0,1,2,3,4,5,6,7,8,9,10,11,12,13,14,15,1013,16]),(6,2,[32,33])] Tryz.func9 rfl ?_
 repeat'(first|refine gE ?_|(conv=>whnf);first|refine C9 ?_|refine CB (aa e) ?_|refine CE rfl (aa e) rfl ?_|refine CM ω ?_|refine CO N ?_|refine C7 (l) ?_|refine C7 (cD) ?_|refine C7 (cP) ?_|refine Cl.sh G rfl ?_|refine C7 (O) ?_|refine C7 (R) ?_|refine C7 (J) ?_|refine CS k rfl (by rw[C1];omega) (aQ λ_=>rfl) t4 ?_|refine C9 ?_)
 all_goals first|rfl|exact X0 (λz=>[B z]) (O0 ω)
open Go.RowKit Go.ChangeShapes Go.WideShapes Go.Deep
def ALL(w:World):af:=λb _=>b<w.heap.size
def RQ{H:Type}(e:TypeId × Value->H)(P:Program)(w:World)(t n:Nat){α:Type}(enc:α->List C)(c:α->Prop):Prop:=
 ∀(fuel:Nat)(b:List Value)(x:DataW H × List MemPlace),DataW.trod e P w 0 (λ_=>true) true fuel t b=some x->b.length=n/\∃a,c a/\(enc a).length=n/\cC w (ALL w) NO (enc a) (λj=>b.getD j undef)
section
variable{H:Type}{e:TypeId × Value->H}{P:Program}{w:World}
variable{u:Nat->Value}
def Bi{S F:af}{c:C}(h:dw w S F c (u 0)):cC w S F [c] u:=
 ⟨λ_=>F,λj e a=>by cases j with
   | zero=>simp at a;subst a;exact h
   | succ j=>simp at a,λ_ _ _ _ h=>h,λj f a b d=>by simp at a b;omega⟩
def pick{α β:Type}(n:Nat){Q:Nat->β->Prop}(h:∀i,i<n->∃b,Q i b):∃l:List β,l.length=n/\∀i b,l[i]? = some b->Q i b:=by
 induction n with
 | zero=>exact⟨[],rfl,λi b h=>by simp at h⟩
 | succ n c=>
  obtain⟨l,d,e⟩:=c λi a=>h i ω
  obtain⟨b,f⟩:=h n ω;refine⟨l++[b],by simp[d],λi g a=>?_⟩;by_cases j:i<n
  ·rw[I4 ω]at a;exact e i g a
  rw[O4 ω]at a;have:i - l.length=0:=by
   have:=(U2.1 a).1;simp at this;omega
  rw[this]at a;simp at a;subst a;rw[show i=n by omega];exact f
theorem L9{t T n:Nat}{α:Type}{enc:α->List C}{U:α->Prop}(V:RQ e P w T n enc U)(ht:P.underlying t=some (.slice T))(hn:P.cellsOf T=n)(p:0<n) :
  RQ e P w t 1 (λxs:List α=>[.s .U (xs.map enc)]) (λxs=>xs.length<=9223372036854775807/\∀y∈xs,U y):=by
 intro fuel cs x h;rcases open_slice ht h with⟨rfl,-⟩|⟨k,len,cap,m,n',D,Pl,rfl,-,hl,hm,K,-,u⟩
 ·exact⟨rfl,[],⟨by simp,by simp⟩,rfl,Bi (.nil _ _ _ trivial)⟩
 simp only[if_true]at K;subst K;have L:0<m->k.spot=none:=λW=>by
  obtain⟨E,M,N⟩:=u 0 W;rw[hn]at M;obtain⟨_,X,F⟩:=World.cells?_some M;have:=F 0 p;rw[O2 ω]at this;have:=World.cell?_spot this;simpa[Addr.add] using this
 have key:∀i,i<len->∃a,U a/\(enc a).length=n/\(∀d,d<n->∃z,cel w k.block (k.off+(i*n+d))=some z)/\k.spot=none/\cC w (ALL w) NO (enc a) (λd=>(cel w k.block (k.off+(i*n+d))).getD undef):=λi hil=>by
  have g:=L ω;obtain⟨E,M,N⟩:=u i ω;rw[hn]at M;obtain⟨h1,a,h3,h4,h5⟩:=V _ _ _ N;obtain⟨_,X,F⟩:=World.cells?_some M;have O:∀d,k.add d = ⟨k.block,k.off+d,none⟩:=λd=>by
   obtain⟨b,o,sp⟩:=k;simp only at g;subst g;unfold Addr.add;split<;>simp_all
  have A:∀d,d<n->cel w k.block (k.off+(i*n+d))=E[d]?:=λd J=>by
   have:=F d J;rw[Go.Deep.add_add,O]at this;exact this
  refine⟨a,h3,h4,λd J=>⟨_,by rw[A d J,O2 ω]⟩,g,h5.congr λd J=>?_⟩;show(cel w k.block (k.off+(i*n+d))).getD undef=E.getD d undef;rw[A d ω,List.getD]
 obtain⟨l,Q,B⟩:=pick (α:=α) len key;refine⟨rfl,l,⟨by simp only[maxLen]at hm;omega,λy R=>?_⟩,rfl,Bi ?_⟩
 ·obtain⟨i,G⟩:=List.mem_iff_getElem?.1 R
  exact(B i y G).1
 show dw w (ALL w) NO (.s .U (l.map enc)) (.slice (some k) len m);by_cases h0:len=0
 ·subst h0
  have:l=[]:=S6 Q;subst this;by_cases Y:m=0
  ·subst Y;exact .nil _ _ _ trivial
  have g:=L ω;obtain⟨b,o,sp⟩:=k;simp only at g;subst g;exact .U _ b o n 0 m [] (λ_=>undef) rfl (λr Z=>by simp at Z) hl (λq hq=>by simp at hq) (λi j r c u=>by simp at u)
 obtain⟨y0,hy0⟩ : ∃y,l[0]? = some y:=⟨_,O2 ω⟩
 have g:=(B 0 y0 hy0).2.2.2.1;obtain⟨b,o,sp⟩:=k;simp only at g;subst g;refine .U _ b o n len m (l.map enc) (λq=>(cel w b (o+q)).getD undef) (by simpa using Q) (λr Z=>?_) hl (λq hq=>?_) (λi j r c u hj=>?_)
 ·obtain⟨y,R,rfl⟩:=z4.1 Z
  obtain⟨i,G⟩:=List.mem_iff_getElem?.1 R;exact(B i y G).2.1
 ·have hqd:q / n<len:=(Nat.div_lt_iff_lt_mul p).2 hq
  obtain⟨y,R⟩ : ∃y,l[q / n]? = some y:=⟨_,O2 ω⟩
  obtain⟨z,S⟩:=(B _ y R).2.2.1 (q % n) (Nat.mod_lt _ p);have J:q / n*n+q % n=q:=by rw[Nat.mul_comm];exact Nat.div_add_mod q n
  rw[J]at S;exact⟨QZ S,by simp only at S |-;rw[S];rfl⟩
 rw[I3]at u;cases H:l[i]? with
 | none=>rw[H]at u;cases u
 | some y=>
  rw[H]at u;simp only[X4,Z0]at u;subst u;obtain⟨f,h1,h2,-⟩:=(B i y H).2.2.2.2;have hjl:=(U2.1 hj).1;exact(h1 j c hj).mono (λ_ _ h=>h) (h2 j hjl)
def row_val{S F:af}{x:Value}(h:cC w S F [.v x] u):u 0=x:=by
 obtain⟨f,a,-⟩:=h;have:=a 0 _ rfl;cases this
 rfl
end
open Go.RowKit Go.ChangeShapes Go.WideShapes
section
variable{H:Type}{e:TypeId × Value->H}{P:Program}{w:World}
def PP{t:Nat}(b:P.underlying t=some (.int .u8)):RQ e P w t 1 rU (λz=>0<=z/\z<=255):=by
 intro fuel c x h;obtain⟨n,rfl,-,a⟩:=DataW.trod_int b h;refine⟨rfl,n,?_,rfl,Bi (.v _ _ rfl)⟩;simp only[Lit.wf,I0,C0]at a;exact a
def op_ByteS:RQ e Tryz.prog w 22 1 (λzs:List Int=>[.s .U (zs.map rU)]) (λzs=>zs.length<=9223372036854775807/\∀y∈zs,0<=y/\y<=255):=L9 (PP Tryz.underlying5) Tryz.underlying22 (by kernel_rfl) (by decide)
end
end Go.Proofs.YtiopgblagimpmaaGreat.Ab
