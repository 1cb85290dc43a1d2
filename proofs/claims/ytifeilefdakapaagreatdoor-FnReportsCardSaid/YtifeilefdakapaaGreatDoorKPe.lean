/- Spans on one frame, objects, slots that are held: the contracts of l27Meshed, l27Job, l27Slot, l27Objs (the reference's) and objsOk (the program's). No condition. -/
import Derived.Test.YtifeilefdakapaaGreatDoorKPd
import Derived.Test.YtifeilefdakapaaGreatDoorKPShelf
import Derived.WalkKit
import Derived.Lib.SliceRun
set_option linter.unusedVariables false
set_option linter.defProp false
set_option linter.unusedSimpArgs false
set_option linter.constructorNameAsVariable false
namespace Go.Proofs.YtifeilefdakapaaGreatDoor.Ab
open Go.RowKit
set_option maxRecDepth 20000
set_option maxHeartbeats 8000000
theorem nI{α:Type}[Inhabited α](pr:α->Bool)(xs:List α):d7 pr xs = -1\/∃n,n<xs.length/\d7 pr xs=(n:Nat)/\pr (nth xs n)=true:=by
 unfold d7;cases h:xs.findIdx? pr with
 | none=>exact .inl rfl
 | some i=>
  obtain⟨a,b,-⟩:=I6.1 h;exact .inr ⟨i,a,rfl,by rw[bm (W1 a)];exact b⟩
def Bi{h:ac}{i k:Nat}(a:i<h.H.length)(b:k<(aH h (nth h.H i).Q).length)(c:lg h i (nth (aH h (nth h.H i).Q) k)=false):rm h=false:=by
 unfold rm;exact cn a (fT (ah b) c)
theorem z5(h:ac)(j:dm h.H)(c:uo h):ao Tryz.prog 136 false [.val (some 24) (ac.enc .U h)] .one [B (rm h)]:=by
 have l:=j.1;have E:dC h<=1048576:=c.1;refine fO 55 [(4,8,[14,15,16,17,18,19,20,21]),(8,6,[28,29,30,31,32,33]),(9,21,[34,35,36,37,38,39,40,41,42,43,44,45,46,47,48,49,50,51,52,53,54])] Tryz.func136 rfl ?_
 repeat'(first|refine gP ?_|fail)
 (conv=>whnf)
 refine CE (ι:=Nat) (λi=>[(1,.F .box (ac.enc .U h)),(3,.F .one [I ((i:Nat):Int)])]) (λi=>i<=h.H.length/\cV i (λi=>(aH h (nth h.H i).Q).all (lg h i))=true) (λi=>h.H.length - i) 0 ?_ ⟨T0 _,rfl⟩ λi w=>?_
 ·exact wB
 obtain⟨w,F⟩:=w;by_cases o:i<h.H.length
 ·have q:=ah o
  have G:=eC h (nth h.H i).Q
  repeat'(first|refine gE ?_|(conv=>whnf);first|with_reducible refine CA (aa q) ?_|refine C7 (fo h _ c) ?_)
  (conv=>whnf)
  refine CE (ι:=Nat) (λk=>[(1,.F .box (ac.enc .U h)),(3,.F .one [I ((i:Nat):Int)]),(4,.F .one (aF .own (aH h (nth h.H i).Q))),(5,.F .one [I ((k:Nat):Int)])]) (λk=>k<=(aH h (nth h.H i).Q).length/\((aH h (nth h.H i).Q).take k).all (lg h i)=true) (λk=>(aH h (nth h.H i).Q).length - k) (0) ?_ ψ λk y=>?_
  ·exact wB
  obtain⟨y,H⟩:=y;by_cases r:k<(aH h (nth h.H i).Q).length
  ·have d:=ah r
   have a:=gZ h (nth (aH h (nth h.H i).Q) k) l;rcases nI (kn (nth (aH h (nth h.H i).Q) k)) h.H with g|⟨n,J,g,-⟩
   ·rw[show dN h (nth (aH h (nth h.H i).Q) k) = -1 from g]at a
    have t:lg h i (nth (aH h (nth h.H i).Q) k)=false:=by grind [lg,dN]
    repeat'(first|refine gE ?_|(conv=>whnf);first|with_reducible (first|refine CA (aa q) ?_|refine CA (aa d) ?_|refine Bf.D (λb=>?_) (λb=>?_)|refine Bf.N (λb=>?_) (λb=>?_))|refine CG rfl (aa d) rfl ?_|refine C7 a ?_)
    all_goals first
     | exact U0 (λz=>[B z]) ((Bi o r t).symm)
     |(exfalso;omega)
   rw[show dN h (nth (aH h (nth h.H i).Q) k)=(n:Nat) from g]at a;have K:=ah J;have C:=lv (nth h.H i) (nth h.H n);have e:lg h i (nth (aH h (nth h.H i).Q) k)=(decide ((n:Int)=(i:Nat)) || meshable (nth h.H i) (nth h.H n)):=by
    unfold lg;rw[show dN h (nth (aH h (nth h.H i).Q) k)=(n:Nat) from g,O0 (p:=(0:Int)<=(n:Nat)) ω];simp
   cases u:meshable (nth h.H i) (nth h.H n)<;>rw[u]at C
   all_goals
    repeat'(first|refine gE ?_|(conv=>whnf);first|with_reducible (first|refine CA (aa q) ?_|refine CA (aa K) ?_|refine CA (aa d) ?_|refine Bf.D (λb=>?_) (λb=>?_)|refine Bf.N (λb=>?_) (λb=>?_))|refine CG rfl (aa d) rfl ?_|refine C7 a ?_|refine C7 C ?_)
    all_goals first
     | exact U0 (λz=>[B z]) ((Bi o r (by rw[e,u];grind)).symm)
     | ((conv=>whnf);refine CD (k+1) ⟨ω,cE d H (by rw[e,u];grind)⟩ ω ?_;(exact wB))
     |(exfalso;omega)
  repeat'(first|refine gE ?_|fail)
  ((conv=>whnf);refine CD (i+1) ⟨ω,bJ F ψ⟩ ω ?_;(exact wB))
 obtain rfl:i=h.H.length:=ω
 repeat'(first|refine gE ?_|fail)
 exact U0 (λz=>[B z]) ((by grind [rm]))
def HA(j:cU)(b:cU.sml j):ao Tryz.prog 142 false [.val (some 5) (cU.enc .U j)] .one [B (qF j)]:=by
 have c:j.k.W.length<=1048576:=b;refine fO 30 [] Tryz.func142 rfl ?_
 repeat'(first|refine gP ?_|(conv=>whnf);first|with_reducible (first|refine Bf.E (λa=>?_) (λa=>?_)|refine Bf.D (λa=>?_) (λa=>?_)))
 all_goals exact U0 (λz=>[B z]) ((by unfold qF;first|(symm;exact R0 ω)|(rw[O4,beq_iff_eq,C0];omega)))
theorem mD(sp:List ar)(la:List ay)(a:Int):((denotes sp la a).b6=1->0<=(denotes sp la a).c7/\(denotes sp la a).c7.toNat<sp.length)/\((denotes sp la a).b6=3->0<=(denotes sp la a).c7/\(denotes sp la a).c7.toNat<la.length):=by grind [I6,denotes,nu]
theorem Fk(h:ac)(a c:Int)(d:dm h.H)(e:de h.J)(b:bf h.H h.J=true)(k:jF a):ao Tryz.prog 205 false [.val (some 24) (ac.enc .U h),.val none [I a],.val none [I c]] .one [B (cW h a c)]:=by
 have j:=m0 h.H h.J a d e b k;obtain⟨g,-⟩:=mD h.H h.J a;unfold cW;generalize denotes h.H h.J a=w at j g |-;refine fO 37 [] Tryz.func205 rfl ?_
 repeat'(first|refine gP ?_|(conv=>whnf);first|with_reducible (first|refine Bf.D (λi=>?_) (λi=>?_)|refine Bf.E (λi=>?_) (λi=>?_))|refine C7 j ?_|refine CL (g (by assumption)).1 (aa (ah (g (by assumption)).2)) ?_)
 all_goals exact U0 (λz=>[B z]) (ψ)
theorem yP(h:ac)(o:bF)(w:iR)(a:denotes h.H h.J o.X=w):ig h o=(decide (w.d1=0)&&((decide (w.b6=1)&&decide ((nth h.H w.c7.toNat).Y=aJ o.d)) || (decide (w.b6=3)&&decide ((nth h.J w.c7.toNat).d=o.d)))):=by grind [ig]
def iS{h:ac}{i:Nat}(a:i<h.O.length)(b:objAt (IntKind.i64.wrap (h.a2 - 1)) h i=false):eG h=false:=cn a b
theorem FS{a:Int}{h:ac}{i:Nat}(h1:gi a h i=false):objAt a h i=false:=by grind [objAt]
theorem FY{a:Int}{h:ac}{i:Nat}(h1:(h.O.take i).any (jA (nth h.O i).Id)=true):objAt a h i=false:=by grind [objAt]
theorem Ga{a:Int}{h:ac}{i:Nat}(h1:ig h (nth h.O i)=false):objAt a h i=false:=by grind [objAt]
theorem zr{a:Int}{h:ac}{i:Nat}(h1:gi a h i=true)(b:(h.O.take i).any (jA (nth h.O i).Id)=false)(c:ig h (nth h.O i)=true):objAt a h i=true:=by grind [objAt]
theorem FD(h:ac)(l:dm h.H)(n:de h.J)(g:bf h.H h.J=true)(K:h.O.length<=1048576)(L:h.R.length<=1048576)(H:∀o∈h.O,jF o.X):ao Tryz.prog 140 false [.val (some 24) (ac.enc .U h)] .one [B (eG h)]:=by
 refine fO 117 [(5,33,[21,22,23,24,25,26,27,28,29,30,31,32,33,34,35,36,37,38,39,40,41,42,43,44,45,46,47,48,49,50,51,52,53]),(10,9,[59,60,61,62,63,64,65,66,67]),(13,16,[75,76,77,78,79,80,81,82,83,84,85,86,87,88,89,90]),(14,15,[91,92,93,94,95,96,97,98,99,100,101,102,103,104,105])] Tryz.func140 rfl ?_
 repeat'(first|refine gP ?_|fail)
 (conv=>whnf)
 refine CE (ι:=Nat) (λi=>[(1,.F .box (ac.enc .U h)),(3,.F .one [I ((i:Nat):Int)])]) (λi=>i<=h.O.length/\cV i (objAt (IntKind.i64.wrap (h.a2 - 1)) h)=true) (λi=>h.O.length - i) 0 ?_ ⟨T0 _,rfl⟩ λi t=>?_
 ·exact wB
 obtain⟨t,u⟩:=t;by_cases e:i<h.O.length
 ·have y:=ah e
  have C:=m0 h.H h.J (nth h.O i).X l n g (H _ (am e));obtain⟨p,q⟩:=mD h.H h.J (nth h.O i).X;have b:=yP h (nth h.O i) _ rfl;generalize denotes h.H h.J (nth h.O i).X=w at C p q b;by_cases c:gi (IntKind.i64.wrap (h.a2 - 1)) h i=true
  ·have a:=c
   unfold gi at a;rw[C0]at a
   repeat'(first|refine gE ?_|(conv=>whnf);first|with_reducible (first|refine CA (aa y) ?_|refine Bf.D (λd=>?_) (λd=>?_))|refine CL ω (aa (fA ω e)) ?_|refine C7 (aE _ _ _) ?_|refine CK rfl ?_)
   all_goals
    (conv=>whnf)
    refine CE (ι:=Nat) (λk=>[(1,.F .box (ac.enc .U h)),(3,.F .one [I ((i:Nat):Int)]),(4,.F .box (bF.enc .U (nth h.O i))),(5,.F .one [I ((k:Nat):Int)])]) (λk=>k<=i/\(h.O.take k).any (jA (nth h.O i).Id)=false) (λk=>i - k) (0) ?_ (⟨T0 _,rfl⟩) λk F=>?_
    ·exact wB
    obtain⟨F,G⟩:=F;by_cases J:k<i
    ·have r:=ah (xs:=h.O) (i:=k) ω
     repeat'(first|refine gE ?_|(conv=>whnf);first|with_reducible (first|refine CA (aa r) ?_|refine Bf.E (λd=>?_) (λd=>?_)))
     all_goals first
      | exact U0 (λz=>[B z]) ((iS e (FY (AO (i:=k) (by rw[List.getElem?_take_of_lt J];exact r) (O0 (by assumption))))).symm)
      | ((conv=>whnf);refine CD (k+1) ⟨ω,wD r G (R0 (by assumption))⟩ ω ?_;(exact wB))
    obtain rfl:k=i:=ω
    repeat'(first|refine gE ?_|(conv=>whnf);first|with_reducible (first|refine Bf.D (λd=>?_) (λd=>?_)|refine Bf.E (λd=>?_) (λd=>?_)|refine Bf.N (λd=>?_) (λd=>?_))|refine C7 C ?_|refine CL (p (by assumption)).1 (aa (ah (p (by assumption)).2)) ?_|refine CL (q (by assumption)).1 (aa (ah (q (by assumption)).2)) ?_|refine C7 (gd _) ?_)
    all_goals first
     | exact U0 (λz=>[B z]) ((iS e (Ga (by rw[b];grind))).symm)
     | ((conv=>whnf);refine CD (k+1) ⟨ω,bJ u (zr c G (by rw[b];grind))⟩ ω ?_;(exact wB))
     |(exfalso;omega)
  have j:gi (IntKind.i64.wrap (h.a2 - 1)) h i=false:=by simpa using c
  have a:=j;unfold gi at a;rw[I4]at a
  repeat'(first|refine gE ?_|(conv=>whnf);first|with_reducible (first|refine CA (aa y) ?_|refine Bf.D (λd=>?_) (λd=>?_))|refine CL ω (aa (fA ω e)) ?_|refine C7 (aE _ _ _) ?_|refine CK rfl ?_)
  all_goals first
   | exact U0 (λz=>[B z]) ((iS e (FS j)).symm)
   |(exfalso;omega)
 obtain rfl:i=h.O.length:=ω
 repeat'(first|refine gE ?_|fail)
 exact U0 (λz=>[B z]) ((show true=eG h from u.symm))
theorem oI(o a:bF):ao Tryz.prog 74 false [.val (some 4) (bF.enc .U o),.ptr (bF.enc .U a)] .one [B (jA a.Id o)]:=by
 refine fO 9 [] Tryz.func74 rfl ?_
 repeat'(first|refine gP ?_|fail)
 grind [jA]
theorem Dl(h:ac)(n:dm h.H)(o:de h.J)(J:h.O.length<=1048576)(K:h.R.length<=1048576):ao Tryz.prog 39 false [.val (some 24) (ac.enc .U h)] .one [B (eG h)]:=by
 refine fO 105 [(4,33,[16,17,18,19,20,21,22,23,24,25,26,27,28,29,30,31,32,33,34,35,36,37,38,39,40,41,42,43,44,45,46,47,48]),(9,16,[62,63,64,65,66,67,68,69,70,71,72,73,74,75,76,77]),(10,15,[78,79,80,81,82,83,84,85,86,87,88,89,90,91,92])] Tryz.func39 rfl ?_
 repeat'(first|refine gP ?_|fail)
 (conv=>whnf)
 refine CE (ι:=Nat) (λi=>[(1,.F .box (ac.enc .U h)),(9,.F .one (m8 .U h.O)),(10,.F .one [I (h.O.length)]),(11,.F .one [I ((i:Nat):Int)])]) (λi=>i<=h.O.length/\cV i (objAt (IntKind.i64.wrap (h.a2 - 1)) h)=true) (λi=>h.O.length - i) 0 ?_ ⟨T0 _,rfl⟩ λi F=>?_
 ·exact wB
 obtain⟨F,G⟩:=F;by_cases g:i<h.O.length
 ·have p:=ah g
  have H:=mw h.H h.J (nth h.O i).X n o;obtain⟨q,t⟩:=mD h.H h.J (nth h.O i).X;have b:=yP h (nth h.O i) _ rfl;generalize denotes h.H h.J (nth h.O i).X=w at H q t b;have j:=sZ (h.O.take i) (jA (nth h.O i).Id) ψ;by_cases c:gi (IntKind.i64.wrap (h.a2 - 1)) h i=true
  ·have a:=c
   unfold gi at a;rw[C0]at a;cases d:(h.O.take i).any (jA (nth h.O i).Id)<;>rw[d]at j
   ·repeat'(first|refine gE ?_|(conv=>whnf);first|with_reducible (first|refine CA (aa p) ?_|refine Bf.D (λe=>?_) (λe=>?_)|refine Bf.E (λe=>?_) (λe=>?_)|refine Bf.N (λe=>?_) (λe=>?_))|refine CL ω (aa (fA ω g)) ?_|refine C7 (aL _ _ _) ?_|refine CU i rfl (by simp;omega) (λr u=>by obtain⟨z,-,rfl⟩:=X3.1 u;rfl) (V3 ..) ?_|refine Cq.mk (Er (some 4) (bF.enc .U) (jA (nth h.O i).Id) (h.O.take i)) (oI default (nth h.O i)).has (λL k rcs C=>by obtain⟨y,-,rfl,rfl,rfl⟩:=C;exact oI y (nth h.O i)) ?_|refine C7 j ?_|refine C7 H ?_|refine CL (q (by assumption)).1 (aa (ah (q (by assumption)).2)) ?_|refine CL (t (by assumption)).1 (aa (ah (t (by assumption)).2)) ?_|refine C7 (mI _) ?_|refine CK rfl ?_)
    all_goals first
     | exact U0 (λz=>[B z]) ((iS g (Ga (by rw[b];grind))).symm)
     | ((conv=>whnf);refine CD (i+1) ⟨ω,bJ G (zr c d (by rw[b];grind))⟩ ω ?_;(exact wB))
     |(exfalso;omega)
   repeat'(first|refine gE ?_|(conv=>whnf);first|with_reducible (first|refine CA (aa p) ?_|refine Bf.D (λe=>?_) (λe=>?_))|refine CL ω (aa (fA ω g)) ?_|refine C7 (aL _ _ _) ?_|refine CU i rfl (by simp;omega) (λr u=>by obtain⟨z,-,rfl⟩:=X3.1 u;rfl) (V3 ..) ?_|refine Cq.mk (Er (some 4) (bF.enc .U) (jA (nth h.O i).Id) (h.O.take i)) (oI default (nth h.O i)).has (λL k rcs C=>by obtain⟨y,-,rfl,rfl,rfl⟩:=C;exact oI y (nth h.O i)) ?_|refine C7 j ?_|refine CK rfl ?_)
   all_goals first
    | exact U0 (λz=>[B z]) ((iS g (FY d)).symm)
    |(exfalso;omega)
  have l:gi (IntKind.i64.wrap (h.a2 - 1)) h i=false:=by simpa using c
  have a:=l;unfold gi at a;rw[I4]at a
  repeat'(first|refine gE ?_|(conv=>whnf);first|with_reducible (first|refine CA (aa p) ?_|refine Bf.D (λe=>?_) (λe=>?_))|refine CL ω (aa (fA ω g)) ?_|refine C7 (aL _ _ _) ?_|refine CK rfl ?_)
  all_goals first
   | exact U0 (λz=>[B z]) ((iS g (FS l)).symm)
   |(exfalso;omega)
 obtain rfl:i=h.O.length:=ω
 repeat'(first|refine gE ?_|fail)
 exact U0 (λz=>[B z]) ((show true=eG h from G.symm))
set_option maxHeartbeats 8000000
theorem Jd{sp:List ar}{la:List ay}{n:Nat}(h:j9 sp la n=true):kU sp la (n+1)=kU sp la n++[(n:Int)]:=by grind [List.range_succ,kU]
theorem Ks{sp:List ar}{la:List ay}{n:Nat}(h:j9 sp la n=false):kU sp la (n+1)=kU sp la n:=by grind [List.range_succ,kU]
theorem yD(sp:List ar)(la:List ay)(n:Nat):(kU sp la n).length<=n:=by grind [kU]
theorem r6{sp:List ar}{la:List ay}{n:Nat}{w:iR}(a:denotes sp la (n:Nat)=w):j9 sp la n=(decide (w.d1=0)&&(decide (w.b6=1) || decide (w.b6=3))):=by grind [j9]
def Ms{n:Nat}(h:n<=1048576):jF (n:Nat):=⟨ω,ω⟩
theorem wJ(sp:List ar)(la:List ay)(c:dm sp)(d:de la)(a:bf sp la=true):ao Tryz.prog 207 false [.val none (bM .U sp),.val none (bB .U la)] .one (aF .own (ju sp la)):=by
 have g:=iT sp la c d;rw[a]at g;refine fO 40 [] Tryz.func207 rfl ?_ (.inr (bN _))
 repeat'(first|refine gP ?_|fail)
 (conv=>whnf)
 refine CE (ι:=Nat) (λn=>[(0,.F .one (bM .U sp)),(1,.F .one (bB .U la)),(5,.F .one (aF .own (kU sp la n))),(6,.F .one [I ((n:Nat):Int)])]) (λn=>n<=512) (λn=>512 - n) (0) ?_ (T0 _) λn o=>?_
 ·exact wB
 have i:=yD sp la n;by_cases p:n<512
 ·have h:=m0 sp la (n:Nat) c d a (Ms ω)
  generalize j:denotes sp la (n:Nat)=w at h;have e:=r6 j
  repeat'(first|refine gE ?_|(conv=>whnf);first|with_reducible refine Bf.E (λk=>?_) (λk=>?_)|refine C7 g ?_|refine C7 h ?_|refine CN cv (λr l=>by rw[C1.1 l];rfl) (by simp[aW,dn]) (by simp;omega) (by simp only[X0];exact yb (by simp;omega) (by decide)) rfl ?_)
  all_goals first
   |(have b:j9 sp la n=true:=by rw[e];grind
     (conv=>whnf)
     refine CD (n+1) ω ω ?_;rw[Jd b]
     (repeat'(first|exact trivial|rfl|exact CI rfl (CI (U0 (C.s du.own) (by simp[rI])) trivial)|refine CI ?_ ?_)))
   |(have b:j9 sp la n=false:=by rw[e];grind
     (conv=>whnf)
     refine CD (n+1) ω ω ?_;rw[Ks b]
     (exact wA))
 obtain rfl:n=512:=ω
 repeat'(first|refine gE ?_|(conv=>whnf);first|refine C7 g ?_)
 rfl
theorem vY(m:aI)(a:m.u.length=m.T.length):∀i,i<=m.T.length->(((flight1 m i).length+(flight2 m i).length:Nat):Int)=bo m i
 | 0,_=>rfl
 | i+1,h=>by
  have d:=vY m a i ω;have b:=ah (xs:=m.T) (i:=i) ω;have c:=ah (xs:=m.u) (i:=i) ω;rw[mc b,mf c];simp only[X2,X0];show _=bo m i+((nth m.T i).length+(nth m.u i).length);omega
theorem jO{m:aI}(h:b9 m=true):(a9 m).length<=30:=by grind [vY,n8,b9]
def D2{m:aI}(d:aI.wf m):∀a∈a9 m,jF a:=by
 intro a b;unfold a9 at b;split at b
 ·rcases R2.1 b with h|h
  ·obtain⟨l,c,h⟩:=List.mem_flatMap.1 h
   obtain⟨p,e,rfl⟩:=X3.1 h;exact((d.1.2 l c).2 p e).2
  obtain⟨l,c,h⟩:=List.mem_flatten.1 h;exact(d.2.2 l c).2 a h
 cases b
theorem HF{h:ac}(h1:h.R.all (dS h)=false):iE h=false:=by grind [iE,ix]
theorem Hp{h:ac}(h1:h.a0.y.all (gx h)=false):iE h=false:=by grind [iE,ix]
theorem GX{h:ac}(h1:(a9 h.b).all (jc h)=false):iE h=false:=by grind [iE,ix]
theorem Hu{h:ac}{i:Nat}(a:i<(holders h).length)(b:nth (holders h) i∈(holders h).take i):iE h=false:=by
 have c:decide (holders h).Nodup=false:=JJ (S:=(holders h).take i) (p:=nth (holders h) i) (by
   have:=ah a;have e:(holders h).take i++[nth (holders h) i]=(holders h).take (i+1):=by grind [Y4]
   grind) b
 grind [iE]
theorem tE{h:ac}{i:Nat}{c:aA}(a:h.R[i]? = some c):((h.R.take (i+1)).flatMap λc=>c.Z.flatten)=((h.R.take i).flatMap λc=>c.Z.flatten)++c.Z.flatten:=by grind [Y4]
theorem vZ{c:aA}{k:Nat}{l:List Int}(a:c.Z[k]? = some l):(c.Z.take (k+1)).flatten=(c.Z.take k).flatten++l:=by grind [Y4]
theorem FC(h:ac)(hs:ac.sml h)(hw:ac.wf h)(t:bf h.H h.J=true)(w:b9 h.b=true)(W:∀c∈h.R,bj c=true):ao Tryz.prog 141 false [.val (some 24) (ac.enc .U h)] .one [B (iE h)]:=by
 obtain⟨-,-,G,H,X,Y,Z,hsq,-⟩:=hs;obtain⟨-,-,-,-,-,hwc,hwm,hwq,-⟩:=hw;have hlo:h.O.length<=1048576:=X.1;have hlc:h.R.length<=1048576:=Y.1;have hlq:h.a0.y.length<=1048576:=hsq.1;have hfl:=jO w;have hfw:=D2 hwm;have y:∀a c,jF a->ao Tryz.prog 205 false [.val (some 24) (ac.enc .U h),.val none [I a],.val none [I c]] .one [B (cW h a c)]:=λa c ha=>Fk h a c G H t ha
 refine fO 159 [(16,8,[63,64,65,66,67,68,69,70]),(22,17,[86,87,88,89,90,91,92,93,94,95,96,97,98,99,100,101,102]),(29,7,[122,123,124,125,126,127,128]),(35,8,[142,143,144,145,146,147,148,149])] Tryz.func141 rfl ?_
 repeat'(first|refine gP ?_|fail)
 (conv=>whnf)
 refine CE (ι:=Nat × List Int) (λi=>[(1,.F .box (ac.enc .U h)),(3,.F .one (aF .own i.2)),(4,.F .one [I ((i.1:Nat):Int)])]) (λi=>i.1<=h.O.length/\i.2=(h.O.take i.1).map (·.X)) (λi=>h.O.length - i.1) ((0,[])) ?_ ψ λi u=>?_
 ·exact wB
 obtain⟨i,S⟩:=i;obtain⟨u,Q⟩:=u;simp only at u Q |-;have hSl:S.length=i:=ψ
 by_cases li:i<h.O.length
 ·have E:=ah li
  repeat'(first|refine gE ?_|(conv=>whnf);first|with_reducible refine CA (aa E) ?_|refine CN cv (λr l=>by rw[C1.1 l];rfl) (by simp[aW,dn]) (by simp;omega) (by simp only[X0];exact yb (by simp;omega) (by decide)) rfl ?_)
  ((conv=>whnf)
   refine CD (i+1,S++[(nth h.O i).X]) ⟨(by simp only;omega),(by grind [Y4])⟩ (by simp only;omega) ?_
   (repeat'(first|exact trivial|rfl|exact CI rfl (CI (U0 (C.s du.own) (by simp[rI])) trivial)|refine CI ?_ ?_)))
 obtain rfl:i=h.O.length:=ω
 rw[U4]at Q
 repeat'(first|refine gE ?_|fail)
 (conv=>whnf)
 refine CE (ι:=Nat × List Int) (λi=>[(1,.F .box (ac.enc .U h)),(3,.F .one (aF .own i.2)),(5,.F .one [I ((i.1:Nat):Int)])]) (λi=>i.1<=h.R.length/\i.2=S++((h.R.take i.1).flatMap λc=>c.Z.flatten)/\(h.R.take i.1).all (dS h)=true/\i.2.length<=1048576+32*i.1) (λi=>h.R.length - i.1) ((0,S)) ?_ ψ λi u=>?_
 ·exact wB
 obtain⟨i,S2⟩:=i;obtain⟨hi2,n,ai,J⟩:=u;simp only at hi2 n ai J |-;by_cases li2:i<h.R.length
 ·have E:=ah li2
  obtain⟨h4,h8⟩:=jp (W _ (am li2));have hwl:=hwc.2 _ (am li2)
  repeat'(first|refine gE ?_|(conv=>whnf);first|with_reducible refine CA (aa E) ?_)
  (conv=>whnf)
  refine CE (ι:=Nat × List Int) (λk=>[(1,.F .box (ac.enc .U h)),(3,.F .one (aF .own k.2)),(5,.F .one [I ((i:Nat):Int)]),(6,.F .one [I ((k.1:Nat):Int)])]) (λk=>k.1<=(nth h.R i).Z.length/\k.2=S2++((nth h.R i).Z.take k.1).flatten/\cV k.1 (qy h (nth h.R i))=true/\k.2.length<=S2.length+8*k.1) (λk=>(nth h.R i).Z.length - k.1) ((0,S2)) ?_ (⟨T0 _,by simp,rfl,by simp⟩) λk hk=>?_
  ·exact wB
  obtain⟨k,R⟩:=k;obtain⟨hk,K,ak,hb3⟩:=hk;simp only at hk K ak hb3 |-;by_cases T:k<(nth h.R i).Z.length
  ·have hy:=ah T
   have hl8:=h8 _ (am T);have hwa:=(hwl.2 _ (am T)).2
   repeat'(first|refine gE ?_|(conv=>whnf);first|with_reducible (first|refine CA (aa E) ?_|refine CA (aa hy) ?_))
   (conv=>whnf)
   refine CE (ι:=Nat × List Int) (λj=>[(1,.F .box (ac.enc .U h)),(3,.F .one (aF .own j.2)),(5,.F .one [I ((i:Nat):Int)]),(6,.F .one [I ((k:Nat):Int)]),(7,.F .one (aF .U (nth (nth h.R i).Z k))),(8,.F .one [I ((j.1:Nat):Int)])]) (λj=>j.1<=(nth (nth h.R i).Z k).length/\j.2=R++(nth (nth h.R i).Z k).take j.1/\((nth (nth h.R i).Z k).take j.1).all (λa=>cW h a (k:Nat))=true) (λj=>(nth (nth h.R i).Z k).length - j.1) ((0,R)) ?_ ψ λj hj=>?_
   ·exact wB
   obtain⟨j,S4⟩:=j;obtain⟨hj,L,U⟩:=hj;simp only at hj L U |-;have hl4:S4.length=R.length+j:=ψ
   by_cases lj:j<(nth (nth h.R i).Z k).length
   ·have d:=ah lj
    have b:=y (nth (nth (nth h.R i).Z k) j) (k:Nat) ψ;cases g:cW h (nth (nth (nth h.R i).Z k) j) (k:Nat)<;>rw[g]at b
    ·repeat'(first|refine gE ?_|(conv=>whnf);first|with_reducible refine CA (aa d) ?_|refine C7 b ?_)
     exact U0 (λz=>[B z]) ((HF (fT E (by unfold dS;exact cn T (fT d g)))).symm)
    repeat'(first|refine gE ?_|(conv=>whnf);first|with_reducible refine CA (aa d) ?_|refine C7 b ?_|refine CN cv (λr l=>by rw[C1.1 l];rfl) (by simp[aW,dn]) (by simp;omega) (by show _*8<=_;simp;omega) rfl ?_)
    ((conv=>whnf)
     refine CD (j+1,S4++[nth (nth (nth h.R i).Z k) j]) ⟨(by simp only;omega),(by grind [Y4]),cE d U g⟩ (by simp only;omega) ?_
     (repeat'(first|exact trivial|rfl|exact CI rfl (CI (U0 (C.s du.own) (by simp[rI])) trivial)|refine CI ?_ ?_)))
   obtain rfl:j=(nth (nth h.R i).Z k).length:=ω
   rw[U4]at L U
   repeat'(first|refine gE ?_|fail)
   ((conv=>whnf);refine CD (k+1,S4) ⟨(by simp only;omega),(by grind [vZ]),bJ ak U,(by simp only;omega)⟩ (by simp only;omega) ?_;(exact wB))
  obtain rfl:k=(nth h.R i).Z.length:=ω
  rw[U4]at K
  repeat'(first|refine gE ?_|(conv=>whnf);first|with_reducible refine CA (aa E) ?_)
  ((conv=>whnf);refine CD (i+1,R) ⟨(by simp only;omega),(by grind [tE]),cE E ai ak,(by simp only;omega)⟩ (by simp only;omega) ?_;(exact wB))
 obtain rfl:i=h.R.length:=ω
 rw[U4]at n ai
 repeat'(first|refine gE ?_|fail)
 (conv=>whnf)
 refine CE (ι:=Nat × List Int) (λq=>[(1,.F .box (ac.enc .U h)),(3,.F .one (aF .own q.2)),(9,.F .one [I ((q.1:Nat):Int)])]) (λq=>q.1<=h.a0.y.length/\q.2=S2++(h.a0.y.take q.1).map (·.X)/\(h.a0.y.take q.1).all (gx h)=true) (λq=>h.a0.y.length - q.1) ((0,S2)) ?_ ψ λq M=>?_
 ·exact wB
 obtain⟨q,N⟩:=q;obtain⟨F,o,aq⟩:=M;simp only at F o aq |-;have hl5:N.length=S2.length+q:=ψ
 by_cases V:q<h.a0.y.length
 ·have d:=ah V
  have b:=y (nth h.a0.y q).X (nth h.a0.y q).Y (hwq.2.2 _ (am V)).1;cases g:cW h (nth h.a0.y q).X (nth h.a0.y q).Y<;>rw[g]at b
  ·repeat'(first|refine gE ?_|(conv=>whnf);first|with_reducible refine CA (aa d) ?_|refine C7 b ?_)
   exact U0 (λz=>[B z]) ((Hp (fT d g)).symm)
  repeat'(first|refine gE ?_|(conv=>whnf);first|with_reducible refine CA (aa d) ?_|refine C7 b ?_|refine CN cv (λr l=>by rw[C1.1 l];rfl) (by simp[aW,dn]) (by simp;omega) (by show _*8<=_;simp;omega) rfl ?_)
  ((conv=>whnf)
   refine CD (q+1,N++[(nth h.a0.y q).X]) ⟨(by simp only;omega),(by grind [Y4]),cE d aq g⟩ (by simp only;omega) ?_
   (repeat'(first|exact trivial|rfl|exact CI rfl (CI (U0 (C.s du.own) (by simp[rI])) trivial)|refine CI ?_ ?_)))
 obtain rfl:q=h.a0.y.length:=ω
 rw[U4]at o aq
 repeat'(first|refine gE ?_|(conv=>whnf);first|refine C7 (p8 h.b Z) ?_)
 (conv=>whnf)
 refine CE (ι:=Nat × List Int) (λq=>[(1,.F .box (ac.enc .U h)),(3,.F .one (aF .own q.2)),(10,.F .one (aF .own (a9 h.b))),(11,.F .one [I ((q.1:Nat):Int)])]) (λq=>q.1<=(a9 h.b).length/\q.2=N++(a9 h.b).take q.1/\((a9 h.b).take q.1).all (jc h)=true) (λq=>(a9 h.b).length - q.1) ((0,N)) ?_ ψ λq M=>?_
 ·exact wB
 obtain⟨q,e⟩:=q;obtain⟨F,p,aq6⟩:=M;simp only at F p aq6 |-;have hl6:e.length=N.length+q:=ψ
 by_cases V:q<(a9 h.b).length
 ·have d:=ah V
  have b:=y (nth (a9 h.b) q) (-1) ψ;cases g:cW h (nth (a9 h.b) q) (-1)<;>rw[g]at b
  ·repeat'(first|refine gE ?_|(conv=>whnf);first|with_reducible refine CA (aa d) ?_|refine CG rfl (aa d) rfl ?_|refine C7 b ?_)
   exact U0 (λz=>[B z]) ((GX (fT d g)).symm)
  repeat'(first|refine gE ?_|(conv=>whnf);first|with_reducible refine CA (aa d) ?_|refine CG rfl (aa d) rfl ?_|refine C7 b ?_|refine CN cv (λr l=>by rw[C1.1 l];rfl) (by simp[aW,dn]) (by simp;omega) (by show _*8<=_;simp;omega) rfl ?_)
  ((conv=>whnf)
   refine CD (q+1,e++[nth (a9 h.b) q]) ⟨(by simp only;omega),(by grind [Y4]),cE d aq6 g⟩ (by simp only;omega) ?_
   (repeat'(first|exact trivial|rfl|exact CI rfl (CI (U0 (C.s du.own) (by simp[rI])) trivial)|refine CI ?_ ?_)))
 obtain rfl:q=(a9 h.b).length:=ω
 rw[U4]at p aq6;have O:e=holders h:=by rw[p,o,n,Q];rfl
 have hheld:ix h=true:=by grind [ix]
 have hbig:e.length<=100000000:=ω
 clear p o n Q hSl hl5 J hl6
 repeat'(first|refine gE ?_|fail)
 (conv=>whnf)
 refine Lp.fz 3 (ι:=Nat) (λi=>[(1,.F .box (ac.enc .U h)),(3,.F .one (aF .U e)),(12,.F .one [I ((i:Nat):Int)])]) (λi=>i<=e.length/\(e.take i).Nodup) (λi=>e.length - i) 0 ?_ ψ λi u=>?_
 ·(repeat'(first|exact trivial|rfl|exact CI rfl (show Kg (d8 (aF .own e)) (aF .U e) by rw[dY];exact lS _)|refine CI ?_ ?_))
 obtain⟨u,P⟩:=u;by_cases lj:i<e.length
 ·have d:=ah lj
  have htl:(e.take i).length=i:=ψ
  repeat'(first|refine gE ?_|(conv=>whnf);first|with_reducible (first|refine CA (aa d) ?_|refine Bf.D (λM=>?_) (λM=>?_))|refine CU i rfl (by simp;omega) (λr l=>by obtain⟨z,-,rfl⟩:=X3.1 l;rfl) (V3 ..) ?_|refine C7 (lW (e.take i) _ ω) ?_)
  all_goals first
   | exact U0 (λz=>[B z]) ((by rw[O]at *;exact(Hu (by assumption) (by assumption)).symm))
   | ((conv=>whnf);refine CD (i+1) ⟨ω,by rw[Y4,d];exact kr P (by assumption)⟩ ω ?_;(exact wB))
 obtain rfl:i=e.length:=ω
 rw[U4]at P;have hlv:=yD h.H h.J 512
 repeat'(first|refine gE ?_|(conv=>whnf);first|refine C7 (wJ h.H h.J G H t) ?_)
 exact U0 (λz=>[B z]) ((by grind [iE]))
set_option maxHeartbeats 8000000
def dd(h:ac):Bool:=(b9 h.b&&decide (h.R.length=h.b.T.length))&&eP h.a0
def dw(h:ac):Bool:=((((((kg h&&rm h)&&dd h)&&kV h)&&h.R.all bj)&&cr h)&&(eG h&&iE h))&&qz h
theorem nX(h:ac)(X:ac.sml h)(Y:ac.wf h):ao Tryz.prog 94 false [.val (some 24) (ac.enc .U h)] .one [B (dw h)]:=by
 have M:=X;have O:=Y;obtain⟨u,w,b,j,P,y,C,E,F⟩:=X;obtain⟨-,-,-,-,Q,hwc,hwm,hwq,-⟩:=Y;have l:uo h:=u.1.2;have hpn:dC h<=1048576:=l.1;have R:h.O.length<=1048576:=P.1;have S:h.R.length<=1048576:=y.1;have hlq:h.a0.y.length<=1048576:=E.1;have hlb:h.b.T.length<=1048576:=C.1.1;have d:=ll h.M u;have e:=lA (dC h) h.o ω w;have g:=iT h.H h.J b j;have r:=z5 h b l;have G:=kX h.b C;have T:=om h.a0 E;cases Z:aC h.M<;>rw[Z]at d
 ·refine fO 150 [(8,10,[67,68,69,70,71,72,73,74,75,76])] Tryz.func94 rfl ?_
  repeat'(first|refine gP ?_|(conv=>whnf);first|with_reducible refine Bf.N (λa=>?_) (λa=>?_)|refine C7 d ?_)
  all_goals first
   | exact U0 (λz=>[B z]) ((by unfold dw kg;rw[Z];simp))
   |(exfalso;omega)
 cases e2:bw (dC h) h.o<;>rw[e2]at e
 ·refine fO 150 [(8,10,[67,68,69,70,71,72,73,74,75,76])] Tryz.func94 rfl ?_
  repeat'(first|refine gP ?_|(conv=>whnf);first|with_reducible refine Bf.N (λa=>?_) (λa=>?_)|refine C7 d ?_|refine C7 e ?_)
  all_goals first
   | exact U0 (λz=>[B z]) ((by unfold dw kg;rw[e2];simp))
   |(exfalso;omega)
 cases H:bf h.H h.J<;>rw[H]at g
 ·refine fO 150 [(8,10,[67,68,69,70,71,72,73,74,75,76])] Tryz.func94 rfl ?_
  repeat'(first|refine gP ?_|(conv=>whnf);first|with_reducible refine Bf.N (λa=>?_) (λa=>?_)|refine C7 d ?_|refine C7 e ?_|refine C7 g ?_)
  all_goals first
   | exact U0 (λz=>[B z]) ((by unfold dw kg;rw[H];simp))
   |(exfalso;omega)
 have n:=B0 h b j l w H;cases e4:pages0 h<;>rw[e4]at n
 ·refine fO 150 [(8,10,[67,68,69,70,71,72,73,74,75,76])] Tryz.func94 rfl ?_
  repeat'(first|refine gP ?_|(conv=>whnf);first|with_reducible refine Bf.N (λa=>?_) (λa=>?_)|refine C7 d ?_|refine C7 e ?_|refine C7 g ?_|refine C7 n ?_)
  all_goals first
   | exact U0 (λz=>[B z]) ((by unfold dw kg;rw[e4];simp))
   |(exfalso;omega)
 cases e5:rm h<;>rw[e5]at r
 ·refine fO 150 [(8,10,[67,68,69,70,71,72,73,74,75,76])] Tryz.func94 rfl ?_
  repeat'(first|refine gP ?_|(conv=>whnf);first|with_reducible refine Bf.N (λa=>?_) (λa=>?_)|refine C7 d ?_|refine C7 e ?_|refine C7 g ?_|refine C7 n ?_|refine C7 r ?_)
  all_goals first
   | exact U0 (λz=>[B z]) ((by unfold dw ;rw[e5];simp))
   |(exfalso;omega)
 cases U:b9 h.b<;>rw[U]at G
 ·refine fO 150 [(8,10,[67,68,69,70,71,72,73,74,75,76])] Tryz.func94 rfl ?_
  repeat'(first|refine gP ?_|(conv=>whnf);first|with_reducible refine Bf.N (λa=>?_) (λa=>?_)|refine C7 d ?_|refine C7 e ?_|refine C7 g ?_|refine C7 n ?_|refine C7 r ?_|refine C7 G ?_)
  all_goals first
   | exact U0 (λz=>[B z]) ((by unfold dw dd;rw[U];simp))
   |(exfalso;omega)
 by_cases V:h.R.length=h.b.T.length;rotate_left
 ·refine fO 150 [(8,10,[67,68,69,70,71,72,73,74,75,76])] Tryz.func94 rfl ?_
  repeat'(first|refine gP ?_|(conv=>whnf);first|with_reducible refine Bf.N (λa=>?_) (λa=>?_)|refine C7 d ?_|refine C7 e ?_|refine C7 g ?_|refine C7 n ?_|refine C7 r ?_|refine C7 G ?_)
  all_goals first
   | exact U0 (λz=>[B z]) ((by unfold dw dd;rw[R0 V];simp))
   |(exfalso;omega)
 cases e7:eP h.a0<;>rw[e7]at T
 ·refine fO 150 [(8,10,[67,68,69,70,71,72,73,74,75,76])] Tryz.func94 rfl ?_
  repeat'(first|refine gP ?_|(conv=>whnf);first|with_reducible refine Bf.N (λa=>?_) (λa=>?_)|refine C7 d ?_|refine C7 e ?_|refine C7 g ?_|refine C7 n ?_|refine C7 r ?_|refine C7 G ?_|refine C7 T ?_)
  all_goals first
   | exact U0 (λz=>[B z]) ((by unfold dw dd;rw[e7];simp))
   |(exfalso;omega)
 have hlay:kg h=true:=by grind [kg]
 have hmc:dd h=true:=by grind [dd]
 refine fO 150 [(8,10,[67,68,69,70,71,72,73,74,75,76])] Tryz.func94 rfl ?_
 repeat'(first|refine gB ?_|(conv=>whnf);first|with_reducible refine Bf.N (λa=>?_) (λa=>?_)|refine C7 d ?_|refine C7 e ?_|refine C7 g ?_|refine C7 n ?_|refine C7 r ?_|refine C7 G ?_|refine C7 T ?_)
 all_goals try(exfalso;omega)
 (conv=>whnf)
 refine CE (ι:=Nat) (λi=>[(1,.F .box (ac.enc .U h)),(3,.F .one [I ((i:Nat):Int)])]) (λi=>i<=h.a0.y.length/\(h.a0.y.take i).all (λx=>decide (x.c0<=h.b5))=true) (λi=>h.a0.y.length - i) (0) ?_ ψ λi hi=>?_
 ·exact wB
 obtain⟨hi,ai⟩:=hi;by_cases li:i<h.a0.y.length
 ·have p:=ah li
  repeat'(first|refine gE ?_|(conv=>whnf);first|with_reducible (first|refine CA (aa p) ?_|refine Bf.D (λa=>?_) (λa=>?_)))
  all_goals first
   | exact U0 (λz=>[B z]) ((by unfold dw kV;rw[fT p (R0 ω)];simp))
   | ((conv=>whnf);refine CD (i+1) ⟨ω,cE p ai (O0 ω)⟩ ω ?_;(exact wB))
 have hsi:kV h=true:=mU ω ai
 repeat'(first|refine gE ?_|fail)
 (conv=>whnf)
 refine CE (ι:=Nat) (λk=>[(1,.F .box (ac.enc .U h)),(4,.F .one [I ((k:Nat):Int)])]) (λk=>k<=h.R.length/\(h.R.take k).all bj=true) (λk=>h.R.length - k) (0) ?_ ψ λk hk=>?_
 ·exact wB
 obtain⟨hk,ak⟩:=hk;by_cases lk:k<h.R.length
 ·have p:=ah lk
  have W:=gh (nth h.R k) (y.2 _ (am lk));cases e8:bj (nth h.R k)<;>rw[e8]at W
  ·repeat'(first|refine gE ?_|(conv=>whnf);first|with_reducible refine CA (aa p) ?_|refine C7 W ?_)
   exact U0 (λz=>[B z]) ((by grind [dw]))
  repeat'(first|refine gE ?_|(conv=>whnf);first|with_reducible refine CA (aa p) ?_|refine C7 W ?_)
  ((conv=>whnf);refine CD (k+1) ⟨ω,cE p ak e8⟩ ω ?_;(exact wB))
 have hca:h.R.all bj=true:=mU ω ak;have q:=FD h b j H R S (λo ho=>(Q.2 o ho).2.1);have c10:=FC h M O H U ψ;have c11:=HA h.b1 F;have c12:=vt h.b1 F;have c13:=gZ h h.b1.k.b2 b.1;have c14:=gZ h h.b1.k.b3 b.1;by_cases hn:cr h=true;rotate_left
 ·have J:cr h=false:=by simpa using hn
  have c:=J;unfold cr at c;rw[I4]at c;cases L:eG h<;>rw[L]at q<;>cases e10:iE h<;>rw[e10]at c10
  all_goals
   repeat'(first|refine gE ?_|(conv=>whnf);first|with_reducible refine Bf.D (λa=>?_) (λa=>?_)|refine C7 (aE _ _ _) ?_|refine C7 q ?_|refine C7 c10 ?_)
   all_goals first
    | exact U0 (λz=>[B z]) ((by unfold dw;rw[J];simp))
    |(exfalso;omega)
 have c:=hn;unfold cr at c;rw[C0]at c;cases L:eG h<;>rw[L]at q
 ·repeat'(first|refine gE ?_|(conv=>whnf);first|with_reducible refine Bf.D (λa=>?_) (λa=>?_)|refine C7 (aE _ _ _) ?_|refine C7 q ?_)
  all_goals first
   | exact U0 (λz=>[B z]) ((by unfold dw;rw[L];simp))
   |(exfalso;omega)
 cases e10:iE h<;>rw[e10]at c10
 ·repeat'(first|refine gE ?_|(conv=>whnf);first|with_reducible refine Bf.D (λa=>?_) (λa=>?_)|refine C7 (aE _ _ _) ?_|refine C7 q ?_|refine C7 c10 ?_)
  all_goals first
   | exact U0 (λz=>[B z]) ((by unfold dw;rw[e10];simp))
   |(exfalso;omega)
 have K:dw h=qz h:=by grind [dw]
 rw[K];unfold qz;cases em:h.b0
 ·repeat'(first|refine gE ?_|(conv=>whnf);first|with_reducible refine Bf.D (λa=>?_) (λa=>?_)|refine C7 (aE _ _ _) ?_|refine C7 q ?_|refine C7 c10 ?_|refine C7 c11 ?_|refine Bf.f em ?_)
  grind
 cases e12:jj h.b1<;>rw[e12]at c12
 all_goals
  repeat'(first|refine gE ?_|(conv=>whnf);first|with_reducible (first|refine Bf.D (λa=>?_) (λa=>?_)|refine Bf.D (λa=>?_) (λa=>?_))|refine C7 (aE _ _ _) ?_|refine C7 q ?_|refine C7 c10 ?_|refine C7 c12 ?_|refine C7 c13 ?_|refine C7 c14 ?_|refine Bf.t em ?_)
  all_goals first
   | exact U0 (λz=>[B z]) (ψ)
   |(exfalso;omega)
set_option maxHeartbeats 4000000
def sorted(xs:List Int):List Int:=xs.mergeSort λx y=>decide (x<=y)
theorem vg(xs:List Int):(sorted xs).length=xs.length:=List.length_mergeSort ..
theorem EH{w a:World}{g n:Nat}{d:Array Int}{os:Array Obj}{c:Array Value}{e:TypeId}{h:Nat × Nat}(i:w.heap[g]? = some (.cells c e h))(j:a=Sort.grow (Sort.putRow (Value.int .i64) (Sort.ahead w n) g 0 d) os) :
  a.os=w.os/\a.tape=w.tape/\a.output=w.output/\w.heap.size<=a.heap.size/\(∀b,b<w.heap.size->b≠g->a.heap[b]? = w.heap[b]?)/\a.heap[g]? = some (.cells (Sort.putCells (Value.int .i64) 0 d c) e h):=by
 subst j;have f:g<w.heap.size:=ψ
 have k:∀b,b<w.heap.size->(Sort.grow (Sort.putRow (Value.int .i64) (Sort.ahead w n) g 0 d) os).heap[b]? = if g=b then(w.heap[b]?).map (Sort.onCells (Sort.putCells (Value.int .i64) 0 d)) else w.heap[b]?:=λb l=>by grind [Go.Sort.heap_grow_old,Go.Sort.putRow,Go.Sort.mapBlock,Go.Sort.ahead]
 refine⟨rfl,rfl,rfl,?_,λb l o=>?_,?_⟩
 ·grind
 ·grind
 rw[k g f,CB rfl,i];rfl
theorem MO(d:Array Int)(c:Array Value)(q:Nat):(Sort.putCells (Value.int .i64) 0 d c)[q]? = if q<d.size then(c[q]?).map (λ_=>.int .i64 d[q]!) else c[q]?:=by grind [Go.Sort.putCells]
theorem row1{w:World}{S Y:ab}{c:C}{v:Value}(h:df w S Y c v):cx w S Y [c] (λ_=>v):=by
 refine⟨λ_=>Y,λj a b=>?_,λ_ _ _ _ h=>h,ψ⟩
 all_goals grind
def QX(Y:ab):Nat->ab
 | 0=>Y
 | _+1=>NO
theorem L0(xs:List Int){j:Nat}(a:j<xs.length):xs.toArray[j]! = xs[j]:=ψ
theorem Ns(xs:List Int)(hl:xs.length<=1048576*64):aP Tryz.prog 108 false [.mut none (aF .own xs)] [.mut none (aF .own (sorted xs))] (.tup []) []:=by
 refine⟨⟨_,Tryz.func108,by kernel_rfl,by kernel_rfl⟩,λw S V vs hS hV hVV O=>?_⟩
 match vs,O with
 | [v],⟨O,_⟩=>
  have y:=bu.rep1 (show bu w S (V 0) none [C.s .own (xs.map (rI .own))] v from O);generalize D:C.s .own (xs.map (rI .own))=cc at y;cases y with
  | nil _ o a P=>
   cases hcc0:xs with
   | cons x xs'=>grind
   | nil=>
    refine(Tryz.slices_Sort_int_none a 0 w).mono λe p ⟨Q,E⟩=>?_
    subst E;refine⟨.tuple #[],Q,CV _ _,NO,λ_=>NO,NO,λ_ _ h=>h.elim,λ_ _ _ h=>h.elim,λ_ _ h=>h.elim,λ_ _ _ _ _ h=>h.elim,λ_ _ _ h=>h.elim,λ_ _ h=>h.elim,λ_ _ _ h=>h.elim,⟨#[],rfl,trivial,rfl⟩,cx.nil _ _ _ _,⟨⟨rfl,λ_=>.slice a 0 0,rfl,row1 (by rw[show sorted []=[] from List.mergeSort_nil ..];exact .nil _ .own _ trivial)⟩,trivial⟩⟩
  | suf _ o g off k n t G u f P=>cases D;exact P.elim
  | own _ o g k n t G u f P hn hk H J hF hu hf hd hc=>
   cases D;have R:n=xs.length:=ψ
   have T:0<xs.length:=ω
   have U:k=1:=by
    have:=hk (rI .own xs[0]) ψ;exact this.symm
   subst U R;have B:∀j (l:j<xs.length),cel w g j=some (.int .i64 xs[j]):=λj l=>by
    have h1:=hu j ω;have W:=hc j 0 (rI .own xs[j]) (I xs[j]) ψ rfl;rw[Nat.mul_one,Nat.add_zero]at W;rw[h1];generalize u j=z at W;cases W
    rfl
   have X:g<w.heap.size:=ψ
   obtain⟨c,e0,fr,hg,-⟩:=Sort.cells_of_cell? (B 0 T);have hH:Sort.Holds (Value.int .i64) w g 0 xs.toArray:=λj l=>by
    have K:j<xs.length:=by simpa using l
    refine⟨?_,?_⟩
    ·rw[L0 xs K,C6];exact B j K
    rw[C6];exact U0 Prod.fst (hF j ω).2.2
   refine(Tryz.slices_Sort_int g 0 t xs w hH X ω).mono λe p ⟨Q,m,os,E⟩=>?_
   obtain⟨q1,q2,q3,q4,q5,q6⟩:=EH hg E;have hsl:=vg xs;have hcel:∀q,cel w g q=c[q]?:=λq=>by grind [Go.World.cell?]
   have Y:∀q,cel p g q=if q<xs.length then(c[q]?).map (λ_=>.int .i64 (sorted xs).toArray[q]!) else c[q]?:=λq=>by grind [MO,Go.World.cell?,sorted]
   have d:∀q (Z:q<xs.length),cel p g q=some (.int .i64 ((sorted xs)[q]'(ω))):=ψ
   have L:∀q,fro p g q=fro w g q:=λq=>by
    refine Prod.ext ?_ ?_
    ·grind [Go.World.frozen?]
    grind [mp,Go.Sort.putCells]
   have hother:∀b,b<w.heap.size->b≠g->∀o,cel p b o=cel w b o/\fro p b o=fro w b o:=λb hb M o=>by grind [Go.World.cell?,Go.World.frozen?,mp]
   have F:b8 (λb o=>∃i,V i b o) w p:=by
    refine⟨q1,q2,q3,q4,ψ,λb o hb hn=>?_,λb o hb hn=>?_⟩
    all_goals grind
   refine⟨.tuple #[],Q,F,NO,QX (V 0),NO,λ_ _ h=>h.elim,λi b o h=>?_,λ_ _ h=>h.elim,λi i' M b o h h'=>?_,λ_ _ _ h=>h.elim,λ_ _ h=>h.elim,λ_ _ _ _ h=>h.elim,⟨#[],rfl,trivial,rfl⟩,cx.nil _ _ _ _,⟨⟨rfl,λ_=>.slice (some ⟨g,0,none⟩) xs.length t,rfl,row1 ?_⟩,trivial⟩⟩
   ·cases i with
    | zero=>exact .inl ⟨0,h⟩
    | succ i=>exact h.elim
   ·cases i with
    | zero=>
     cases i' with
     | zero=>exact M rfl
     | succ i'=>exact h'.elim
    | succ i=>exact h.elim
   show df p _ (V 0) _ _;refine .own _ .own g 1 xs.length t _ (λq=>(cel p g q).getD undef) (λ_=>NO) trivial ψ (λr hr=>by obtain⟨z,-,rfl⟩:=X3.1 hr;rfl) H J (λq Z=>?_) (λq Z=>?_) (λ_ _ _ _ h=>h.elim) (λ_ _ _ _ _ _ _ h=>h.elim) (λi j r c2 N l=>?_)
   ·obtain⟨a1,⟨z,a2,a3⟩,a4⟩:=hF q Z
    refine⟨a1,?_,(L q).trans a4⟩;by_cases hqx:q<xs.length
    ·exact⟨_,d q hqx,rfl⟩
    grind
   ·grind
   rw[W2]at N;have hil:i<(sorted xs).length:=ψ
   rw[W1 hil]at N;simp only[V4,W0]at N;subst N
   match j,l with
   | 0,l=>
    simp only[rI,List.getElem?_cons_zero,W0]at l;subst l;simp only[Nat.mul_one,Nat.add_zero,d i ω,Option.getD_some];exact .v _ _ rfl
   | j+1,l=>simp[rI]at l
  | _=>cases D
set_option maxHeartbeats 8000000
def jY(s:ar)(k:Nat):Int:=16*s.Q+(k:Nat)*csz s.Y
def dD(s:ar)(n:Nat):List Int:=((List.range n).filter λk=>aQ s.a6 (k:Nat)).map (jY s)
theorem AW{s:ar}{n:Nat}(h:aQ s.a6 (n:Nat)=true):dD s (n+1)=dD s n++[jY s n]:=by grind [List.range_succ,dD]
theorem BX{s:ar}{n:Nat}(h:aQ s.a6 (n:Nat)=false):dD s (n+1)=dD s n:=by grind [List.range_succ,dD]
theorem qL(s:ar)(n:Nat):(dD s n).length<=n:=by grind [dD]
def eH(sp:List ar):List Int:=sp.flatMap λs=>dD s (slots s.Y).toNat
def live0(sp:List ar)(la:List ay):List Int:=eH sp++la.map λl=>16*l.Q
def ne(sp:List ar)(la:List ay):List Int:=sorted (live0 sp la)
theorem rD(k:Int):0<=slots k/\slots k<=16:=by grind [slots]
def y5{k:Int}(h:0<=k/\k<=3):slots k*csz k=16:=by
 obtain rfl|rfl|rfl|rfl:k=0\/k=1\/k=2\/k=3:=ω
 all_goals decide
theorem wi{sp:List ar}{i:Nat}{s:ar}(h:sp[i]? = some s):eH (sp.take (i+1))=eH (sp.take i)++dD s (slots s.Y).toNat:=by grind [Y4,eH]
def xp(s:ar)(k:Nat)(a:aT s=true)(i:(k:Int)<slots s.Y):ao Tryz.prog 107 false [.val (some 3) (ar.enc .U s),.val none [I (k:Nat)]] .one [I (jY s k)]:=by
 have b:=gU s;have c:=cA s.Y;have g:=iw s.Y;rw[a]at b;have d:=aB a;have j:=rD s.Y;rcases bW ⟨d.2.2.1,d.2.2.2⟩ with e|e|e|e<;>rw[e]at c
 all_goals
  refine fO 26 [(3,9,[17,18,19,20,21,22,23,24,25])] Tryz.func107 rfl ?_
  repeat'(first|refine gE ?_|(conv=>whnf);first|with_reducible refine Bf.D (λh=>?_) (λh=>?_)|refine C7 b ?_|refine C7 c ?_|refine C7 g ?_|refine C7 (aL _ 0 _) ?_)
  all_goals exact U0 (λz=>[I z]) (by unfold jY;rw[e];omega)
theorem vM(sp:List ar)(la:List ay)(c:dm sp)(d:de la)(a:bf sp la=true):ao Tryz.prog 76 false [.val none (bM .U sp),.val none (bB .U la)] .one (aF .own (ne sp la)):=by
 have D:=c.1;have E:=d.1;have B:=l9 sp la c d;rw[a]at B;obtain⟨o,F,-⟩:=dt a;refine fP 56 [(108,[1])] [] Tryz.func76 rfl ?_ (.inr (bN _))
 repeat'(first|refine gP ?_|(conv=>whnf);first|refine C7 B ?_)
 (conv=>whnf)
 refine CE (ι:=Nat × List Int) (λi=>[(1,.F .one (bB .U la)),(5,.F .one (aF .own i.2)),(16,.F .one (bM .U sp)),(17,.F .one [I (sp.length)]),(18,.F .one [I ((i.1:Nat):Int)])]) (λi=>i.1<=sp.length/\i.2=eH (sp.take i.1)/\i.2.length<=16*i.1) (λi=>sp.length - i.1) ((0,[])) ?_ (⟨T0 _,rfl,T0 _⟩) λi e=>?_
 ·exact wB
 obtain⟨i,S⟩:=i;obtain⟨e,p,G⟩:=e;simp only at e p G |-;by_cases j:i<sp.length
 ·have n:=ah j
  have g:aT (nth sp i)=true:=Md o j;have H:=rD (nth sp i).Y;have q:=dJ g
  repeat'(first|refine gE ?_|(conv=>whnf);first|with_reducible refine CA (aa n) ?_)
  (conv=>whnf)
  refine CE (ι:=Nat × List Int) (λk=>[(1,.F .one (bB .U la)),(5,.F .one (aF .own k.2)),(7,.F .box (ar.enc .U (nth sp i))),(8,.F .one [I ((k.1:Nat):Int)]),(16,.F .one (bM .U sp)),(17,.F .one [I (sp.length)]),(18,.F .one [I ((i:Nat):Int)])]) (λk=>k.1<=(slots (nth sp i).Y).toNat/\k.2=S++dD (nth sp i) k.1) (λk=>(slots (nth sp i).Y).toNat - k.1) ((0,S)) ?_ (⟨T0 _,by simp[dD]⟩) λk t=>?_
  ·exact wB
  obtain⟨k,S2⟩:=k;obtain⟨t,b⟩:=t;simp only at t b |-;have J:=qL (nth sp i) k;have h:S2.length=S.length+(dD (nth sp i) k).length:=ψ
  by_cases M:k<(slots (nth sp i).Y).toNat
  ·have u:=m6 (nth sp i).a6 (k:Nat) q.2
   cases K:aQ (nth sp i).a6 (k:Nat)<;>rw[K]at u
   ·repeat'(first|refine gE ?_|(conv=>whnf);first|refine C7 (iw _) ?_|refine C7 u ?_)
    ((conv=>whnf);refine CD (k+1,S2) ⟨(by simp only;omega),(by grind [BX])⟩ (by simp only;omega) ?_;(exact wB))
   repeat'(first|refine gE ?_|(conv=>whnf);first|refine C7 (iw _) ?_|refine C7 u ?_|refine C7 (xp (nth sp i) k g ω) ?_|refine CN cv (λr w=>by rw[C1.1 w];rfl) (by simp[aW,dn]) (by simp;omega) (by show _*8<=_;simp;omega) rfl ?_)
   ((conv=>whnf)
    refine CD (k+1,S2++[jY (nth sp i) k]) ⟨(by simp only;omega),(by grind [AW])⟩ (by simp only;omega) ?_
    (repeat'(first|exact trivial|rfl|exact CI rfl (CI (U0 (C.s du.own) (by simp[rI])) trivial)|refine CI ?_ ?_)))
  obtain rfl:k=(slots (nth sp i).Y).toNat:=ω
  repeat'(first|refine gE ?_|(conv=>whnf);first|refine C7 (iw _) ?_)
  ((conv=>whnf);refine CD (i+1,S2) ⟨(by simp only;omega),(by grind [wi]),(by simp only;omega)⟩ (by simp only;omega) ?_;(exact wB))
 obtain rfl:i=sp.length:=ω
 rw[U4]at p
 repeat'(first|refine gE ?_|fail)
 (conv=>whnf)
 refine CE (ι:=Nat × List Int) (λi=>[(5,.F .one (aF .own i.2)),(40,.F .one (bB .U la)),(41,.F .one [I (la.length)]),(42,.F .one [I ((i.1:Nat):Int)])]) (λi=>i.1<=la.length/\i.2=S++(la.take i.1).map (λl=>16*l.Q)) (λi=>la.length - i.1) ((0,S)) ?_ ψ λi e=>?_
 ·exact wB
 obtain⟨i,S2⟩:=i;obtain⟨y,b⟩:=e;simp only at y b |-;have h:S2.length=S.length+i:=ψ
 by_cases j:i<la.length
 ·have n:=ah j
  have L:=sI a n
  repeat'(first|refine gE ?_|(conv=>whnf);first|with_reducible refine CA (aa n) ?_|refine CN cv (λr w=>by rw[C1.1 w];rfl) (by simp[aW,dn]) (by simp;omega) (by show _*8<=_;simp;omega) rfl ?_)
  ((conv=>whnf)
   refine CD (i+1,S2++[16*(nth la i).Q]) ⟨(by simp only;omega),(by grind [Y4])⟩ (by simp only;omega) ?_
   (repeat'(first|exact trivial|rfl|exact CI rfl (CI (U0 (C.s du.own) (by simp[rI];omega)) trivial)|refine CI ?_ ?_)))
 obtain rfl:i=la.length:=ω
 rw[U4]at b
 repeat'(first|refine gE ?_|(conv=>whnf);first|refine CJ (Ns S2 ω) (.inl rfl) ?_)
 show _=aF .own (sorted (eH sp++la.map λl=>16*l.Q));rw[<-p,<-b];rfl
def pv(b:List (Int × Value))(L:List Int):Prop:=∀a,mlook b a (.int .i64 0)=.int .i64 (L.count a:Nat)
theorem Hj(c:List (Int × Value))(a b:Int)(v d:Value):mlook (mput c a v) b d=if a=b then v else mlook c b d:=by
 induction c with
 | nil=>grind [mput,mlook]
 | cons p c e=>
  grind [mput,mlook]
def inc(b:List (Int × Value))(L:List Int)(a:Int):List (Int × Value):=mput b a (.int .i64 ((L.count a:Nat)+1))
def HX:pv [] []:=λ_=>rfl
theorem oD{d:List (Int × Value)}{L:List Int}(h:pv d L)(a:Int):pv (inc d L a) (L++[a]):=λb=>by
 unfold inc;rw[Hj,R5];by_cases c:a=b
 ·grind
 rw[C9 c,h b,List.count_singleton,C9 (by simpa using c)];rfl
theorem AL(h:ac)(d:dm h.H)(e:de h.J)(b:List (Int × Value))(L:List Int)(a c:Int)(g:pv b L)(n:L.length<=1000000000) :
  aP Tryz.prog 75 false [.val none [I a],.val none [I c],.ptr [.m b],.ptr (ac.enc .U h)] [.val none [I a],.val none [I c],.ptr [.m (inc b L a)],.ptr (ac.enc .U h)] .one [B (cW h a c)]:=by
 have k:=mw h.H h.J a d e;obtain⟨i,-⟩:=mD h.H h.J a;have l:L.count a<=L.length:=List.count_le_length;unfold cW;generalize denotes h.H h.J a=w at k i |-;refine fM 41 [] [] [(0,0),(0,0),(0,0),(0,0)] Tryz.func75 rfl (λu q=>?_)
 repeat'(first|refine gP ?_|(conv=>whnf);first|with_reducible (first|refine Bf.D (λj=>?_) (λj=>?_)|refine Bf.E (λj=>?_) (λj=>?_))|refine Ml.mk (g a) ?_|refine Mu.mk (es':=inc b L a) rfl ?_|refine C7 k ?_|refine CL (i (by assumption)).1 (aa (ah (i (by assumption)).2)) ?_)
 all_goals
  refine CF rfl ?_ ?_
  ·exact U0 (λz=>[B z]) (ψ)
  exact wB
set_option maxHeartbeats 8000000
def qD(h:ac)(a:aK):Bool:=gx h a&&decide (a.c0<=h.b5)
def lP(h:ac):List Int:=((ci h++h.a0.y.map (·.X))++a9 h.b)++h.O.map (·.X)
def je(h:ac):Bool:=((h.R.all (dS h)&&h.a0.y.all (qD h))&&(a9 h.b).all (jc h))&&(ne h.H h.J).all λa=>decide ((lP h).count a=1)
theorem Mq{h:ac}(h1:h.R.all (dS h)=false):je h=false:=by grind [je]
theorem Gk{h:ac}(h1:h.a0.y.all (qD h)=false):je h=false:=by grind [je]
theorem MY{h:ac}(h1:(a9 h.b).all (jc h)=false):je h=false:=by grind [je]
theorem MG{h:ac}(h1:((ne h.H h.J).all λa=>decide ((lP h).count a=1))=false):je h=false:=by grind [je]
theorem Hz{sp:List ar}{la:List ay}(h1:sp.length<=1048576)(a:la.length<=1048576):(ne sp la).length<=100000000:=by
 have b:∀(l:List ar),(eH l).length<=16*l.length:=by
  intro l
  induction l with
  | nil=>exact T0 _
  | cons s l c=>
   have e:eH (s::l)=dD s (slots s.Y).toNat++eH l:=by grind [eH]
   have d:=rD s.Y
   grind [qL]
 grind [vg,ne,live0]
theorem wM(h:ac)(hs:ac.sml h)(P:bf h.H h.J=true)(G:b9 h.b=true)(Z:∀c∈h.R,bj c=true):ao Tryz.prog 40 false [.val (some 24) (ac.enc .U h)] .one [B (je h)]:=by
 obtain⟨-,-,p,r,hso,hsc,hsm,hsq,-⟩:=hs;have hlo:h.O.length<=1048576:=hso.1;have hlc:h.R.length<=1048576:=hsc.1;have hlq:h.a0.y.length<=1048576:=hsq.1;have hfl:=jO G;have t:je h=false->[B false]=[B (je h)]:=λe=>by rw[e]
 refine fP 114 [(75,[0,0,2,2])] [] Tryz.func40 rfl ?_
 repeat'(first|refine gP ?_|fail)
 (conv=>whnf)
 refine CE (ι:=Nat × List (Int × Value) × List Int) (λi=>[(1,.F .box (ac.enc .U h)),(3,.F .box [.m i.2.1]),(4,.fn 75 [3,1]),(22,.F .one (nB .U h.R)),(23,.F .one [I (h.R.length)]),(24,.F .one [I ((i.1:Nat):Int)])]) (λi=>i.1<=h.R.length/\pv i.2.1 i.2.2/\i.2.2=((h.R.take i.1).flatMap λc=>c.Z.flatten)/\(h.R.take i.1).all (dS h)=true/\i.2.2.length<=32*i.1) (λi=>h.R.length - i.1) ((0,[],[])) ?_ (⟨T0 _,HX,rfl,rfl,T0 _⟩) λi hi=>?_
 ·exact wB
 obtain⟨i,es,L⟩:=i;obtain⟨hi,Q,hL,ai,hb⟩:=hi;simp only at hi Q hL ai hb |-;by_cases li:i<h.R.length
 ·have W:=ah li
  obtain⟨h4,h8⟩:=jp (Z _ (am li))
  repeat'(first|refine gE ?_|(conv=>whnf);first|with_reducible refine CA (aa W) ?_)
  (conv=>whnf)
  refine CE (ι:=Nat × List (Int × Value) × List Int) (λk=>[(1,.F .box (ac.enc .U h)),(3,.F .box [.m k.2.1]),(4,.fn 75 [3,1]),(22,.F .one (nB .U h.R)),(23,.F .one [I (h.R.length)]),(24,.F .one [I ((i:Nat):Int)]),(29,.F .one (ko .U (nth h.R i).Z)),(30,.F .one [I ((nth h.R i).Z.length)]),(31,.F .one [I ((k.1:Nat):Int)])]) (λk=>k.1<=(nth h.R i).Z.length/\pv k.2.1 k.2.2/\k.2.2=L++((nth h.R i).Z.take k.1).flatten/\cV k.1 (qy h (nth h.R i))=true/\k.2.2.length<=L.length+8*k.1) (λk=>(nth h.R i).Z.length - k.1) ((0,es,L)) ?_ (⟨T0 _,Q,by simp,rfl,by simp⟩) λk hk=>?_
  ·exact wB
  obtain⟨k,es3,X⟩:=k;obtain⟨hk,F,R,ak,hb3⟩:=hk;simp only at hk F R ak hb3 |-;by_cases lk:k<(nth h.R i).Z.length
  ·have hy:=ah lk
   have hl8:=h8 _ (am lk)
   repeat'(first|refine gE ?_|(conv=>whnf);first|with_reducible (first|refine CA (aa W) ?_|refine CA (aa hy) ?_))
   (conv=>whnf)
   refine CE (ι:=Nat × List (Int × Value) × List Int) (λj=>[(1,.F .box (ac.enc .U h)),(3,.F .box [.m j.2.1]),(4,.fn 75 [3,1]),(7,.F .one [I ((k:Nat):Int)]),(22,.F .one (nB .U h.R)),(23,.F .one [I (h.R.length)]),(24,.F .one [I ((i:Nat):Int)]),(29,.F .one (ko .U (nth h.R i).Z)),(30,.F .one [I ((nth h.R i).Z.length)]),(31,.F .one [I ((k:Nat):Int)]),(36,.F .one (aF .U (nth (nth h.R i).Z k))),(37,.F .one [I ((nth (nth h.R i).Z k).length)]),(38,.F .one [I ((j.1:Nat):Int)])]) (λj=>j.1<=(nth (nth h.R i).Z k).length/\pv j.2.1 j.2.2/\j.2.2=X++(nth (nth h.R i).Z k).take j.1/\((nth (nth h.R i).Z k).take j.1).all (λa=>cW h a (k:Nat))=true) (λj=>(nth (nth h.R i).Z k).length - j.1) ((0,es3,X)) ?_ ψ λj hj=>?_
   ·exact wB
   obtain⟨j,es4,S⟩:=j;obtain⟨hj,l,T,Y⟩:=hj;simp only at hj l T Y |-;have hl4:S.length=X.length+j:=ψ
   by_cases lj:j<(nth (nth h.R i).Z k).length
   ·have d:=ah lj
    have b:=AL h p r es4 S (nth (nth (nth h.R i).Z k) j) (k:Nat) l ω;cases o:cW h (nth (nth (nth h.R i).Z k) j) (k:Nat)<;>rw[o]at b
    ·repeat'(first|refine gE ?_|(conv=>whnf);first|with_reducible refine CA (aa d) ?_|refine CJ (b) (.inl rfl) ?_)
     exact t (Mq (fT W (by unfold dS;exact cn lk (fT d o))))
    repeat'(first|refine gE ?_|(conv=>whnf);first|with_reducible refine CA (aa d) ?_|refine CJ (b) (.inl rfl) ?_)
    ((conv=>whnf)
     refine CD (j+1,inc es4 S (nth (nth (nth h.R i).Z k) j),S++[nth (nth (nth h.R i).Z k) j]) ⟨(by simp only;omega),oD l _,(by grind [Y4]),cE d Y o⟩ (by simp only;omega) ?_
     (exact wA))
   obtain rfl:j=(nth (nth h.R i).Z k).length:=ω
   rw[U4]at T Y
   repeat'(first|refine gE ?_|fail)
   ((conv=>whnf);refine CD (k+1,es4,S) ⟨(by simp only;omega),l,(by grind [vZ]),bJ ak Y,(by simp only;omega)⟩ (by simp only;omega) ?_;(exact wB))
  obtain rfl:k=(nth h.R i).Z.length:=ω
  rw[U4]at R
  repeat'(first|refine gE ?_|fail)
  ((conv=>whnf);refine CD (i+1,es3,X) ⟨(by simp only;omega),F,(by grind [tE]),cE W ai ak,(by simp only;omega)⟩ (by simp only;omega) ?_;(exact wB))
 obtain rfl:i=h.R.length:=ω
 rw[U4]at hL ai
 repeat'(first|refine gE ?_|fail)
 (conv=>whnf)
 refine CE (ι:=Nat × List (Int × Value) × List Int) (λq=>[(1,.F .box (ac.enc .U h)),(3,.F .box [.m q.2.1]),(4,.fn 75 [3,1]),(52,.F .one (cF .U h.a0.y)),(53,.F .one [I (h.a0.y.length)]),(54,.F .one [I ((q.1:Nat):Int)])]) (λq=>q.1<=h.a0.y.length/\pv q.2.1 q.2.2/\q.2.2=L++(h.a0.y.take q.1).map (·.X)/\(h.a0.y.take q.1).all (qD h)=true) (λq=>h.a0.y.length - q.1) ((0,es,L)) ?_ ψ λq u=>?_
 ·exact wB
 obtain⟨q,es5,H⟩:=q;obtain⟨w,y,E,aq⟩:=u;simp only at w y E aq |-;have hl5:H.length=L.length+q:=ψ
 by_cases U:q<h.a0.y.length
 ·have d:=ah U
  have b:=AL h p r es5 H (nth h.a0.y q).X (nth h.a0.y q).Y y ω;cases o:cW h (nth h.a0.y q).X (nth h.a0.y q).Y<;>rw[o]at b
  ·repeat'(first|refine gE ?_|(conv=>whnf);first|with_reducible (first|refine CA (aa d) ?_|refine Bf.D (λu=>?_) (λu=>?_))|refine CJ (b) (.inl rfl) ?_)
   all_goals exact t (Gk (fT d (by unfold qD gx;rw[o];rfl)))
  repeat'(first|refine gE ?_|(conv=>whnf);first|with_reducible (first|refine CA (aa d) ?_|refine Bf.D (λu=>?_) (λu=>?_))|refine CJ (b) (.inl rfl) ?_)
  all_goals first
   |exact t (Gk (fT d (by unfold qD gx;rw[o,R0 ω];rfl)))
   | ((conv=>whnf)
      refine CD (q+1,inc es5 H (nth h.a0.y q).X,H++[(nth h.a0.y q).X]) ⟨(by simp only;omega),oD y _,(by simp only;rw[E,Y4,d,C5,Z4];rfl),cE d aq (by unfold qD gx;rw[o,O0 ω];rfl)⟩ (by simp only;omega) ?_
      (exact wA))
 obtain rfl:q=h.a0.y.length:=ω
 rw[U4]at E aq
 repeat'(first|refine gE ?_|(conv=>whnf);first|refine C7 (pC h.b hsm) ?_)
 (conv=>whnf)
 refine CE (ι:=Nat × List (Int × Value) × List Int) (λq=>[(1,.F .box (ac.enc .U h)),(3,.F .box [.m q.2.1]),(4,.fn 75 [3,1]),(75,.F .one (aF .own (a9 h.b))),(76,.F .one [I ((a9 h.b).length)]),(77,.F .one [I ((q.1:Nat):Int)])]) (λq=>q.1<=(a9 h.b).length/\pv q.2.1 q.2.2/\q.2.2=H++(a9 h.b).take q.1/\((a9 h.b).take q.1).all (jc h)=true) (λq=>(a9 h.b).length - q.1) ((0,es5,H)) ?_ ψ λq u=>?_
 ·exact wB
 obtain⟨q,es6,J⟩:=q;obtain⟨w,C,K,aq6⟩:=u;simp only at w C K aq6 |-;have hl6:J.length=H.length+q:=ψ
 by_cases U:q<(a9 h.b).length
 ·have d:=ah U
  have b:=AL h p r es6 J (nth (a9 h.b) q) (-1) C ω;cases o:cW h (nth (a9 h.b) q) (-1)<;>rw[o]at b
  ·repeat'(first|refine gE ?_|(conv=>whnf);first|with_reducible refine CA (aa d) ?_|refine CG rfl (aa d) rfl ?_|refine CJ (b) (.inl rfl) ?_)
   exact t (MY (fT d o))
  repeat'(first|refine gE ?_|(conv=>whnf);first|with_reducible refine CA (aa d) ?_|refine CG rfl (aa d) rfl ?_|refine CJ (b) (.inl rfl) ?_)
  ((conv=>whnf)
   refine CD (q+1,inc es6 J (nth (a9 h.b) q),J++[nth (a9 h.b) q]) ⟨(by simp only;omega),oD C _,(by grind [Y4]),cE d aq6 o⟩ (by simp only;omega) ?_
   (exact wA))
 obtain rfl:q=(a9 h.b).length:=ω
 rw[U4]at K aq6
 repeat'(first|refine gE ?_|fail)
 (conv=>whnf)
 refine CE (ι:=Nat × List (Int × Value) × List Int) (λq=>[(1,.F .box (ac.enc .U h)),(3,.F .box [.m q.2.1]),(87,.F .one (m8 .U h.O)),(88,.F .one [I (h.O.length)]),(89,.F .one [I ((q.1:Nat):Int)])]) (λq=>q.1<=h.O.length/\pv q.2.1 q.2.2/\q.2.2=J++(h.O.take q.1).map (·.X)) (λq=>h.O.length - q.1) ((0,es6,J)) ?_ ψ λq u=>?_
 ·exact wB
 obtain⟨q,es7,M⟩:=q;obtain⟨w,g,O⟩:=u;simp only at w g O |-;have hl7:M.length=J.length+q:=ψ
 by_cases U:q<h.O.length
 ·have d:=ah U
  have hcl:M.count (nth h.O q).X<=M.length:=List.count_le_length
  repeat'(first|refine gE ?_|(conv=>whnf);first|with_reducible refine CA (aa d) ?_|refine Ml.mk (g _) ?_|refine Mu.mk (es':=inc es7 M (nth h.O q).X) rfl ?_)
  ((conv=>whnf)
   refine CD (q+1,inc es7 M (nth h.O q).X,M++[(nth h.O q).X]) ⟨(by simp only;omega),oD g _,(by grind [Y4])⟩ (by simp only;omega) ?_
   (exact wA))
 obtain rfl:q=h.O.length:=ω
 rw[U4]at O;have V:M=lP h:=by rw[O,K,E,hL];rfl
 have hlv:=Hz p.1 r.1
 repeat'(first|refine gE ?_|(conv=>whnf);first|refine C7 (vM h.H h.J p r P) ?_)
 (conv=>whnf)
 refine CE (ι:=Nat) (λn=>[(3,.F .box [.m es7]),(103,.F .one (aF .own (ne h.H h.J))),(104,.F .one [I ((ne h.H h.J).length)]),(105,.F .one [I ((n:Nat):Int)])]) (λn=>n<=(ne h.H h.J).length/\((ne h.H h.J).take n).all (λa=>decide ((lP h).count a=1))=true) (λn=>(ne h.H h.J).length - n) (0) ?_ ψ λn hn=>?_
 ·exact wB
 obtain⟨hn,an⟩:=hn;by_cases ln:n<(ne h.H h.J).length
 ·have d:=ah ln
  rw[V]at g
  repeat'(first|refine gE ?_|(conv=>whnf);first|with_reducible (first|refine CA (aa d) ?_|refine Bf.N (λu=>?_) (λu=>?_))|refine CG rfl (aa d) rfl ?_|refine Ml.mk (g _) ?_)
  all_goals first
   |exact t (MG (fT d (R0 ω)))
   | ((conv=>whnf);refine CD (n+1) ⟨ω,cE d an (O0 ω)⟩ ω ?_;(exact wB))
 repeat'(first|refine gE ?_|fail)
 exact U0 (λz=>[B z]) ((by grind [je]))
set_option maxHeartbeats 8000000
def jH(h:ac):Bool:=(((((((aC h.M&&bw (dC h) h.o)&&bf h.H h.J)&&(pages0 h&&og h))&&dd h)&&h.R.all bj)&&(eG h&&je h))&&cr h)&&qz h
theorem tw(h:ac)(S:ac.sml h):ao Tryz.prog 12 false [.val (some 24) (ac.enc .U h)] .one [B (jH h)]:=by
 have G:=S;obtain⟨n,o,b,g,H,p,q,J,r⟩:=S;have u:uo h:=n.1.2;have hpn:dC h<=1048576:=u.1;have K:h.O.length<=1048576:=H.1;have L:h.R.length<=1048576:=p.1;have hlb:h.b.T.length<=1048576:=q.1.1;have hlp:h.b1.k.W.length<=1048576:=r;have d:=xO h.M n;have e:=xo (dC h) h.o ω o;have i:=l9 h.H h.J b g;have w:=th h.b q;have M:=Dt h.a0 J;cases T:aC h.M<;>rw[T]at d
 ·refine fO 154 [] Tryz.func12 rfl ?_
  repeat'(first|refine gP ?_|(conv=>whnf);first|with_reducible refine Bf.N (λa=>?_) (λa=>?_)|refine C7 d ?_)
  all_goals first
   | exact U0 (λz=>[B z]) ((by unfold jH ;rw[T];simp))
   |(exfalso;omega)
 cases U:bw (dC h) h.o<;>rw[U]at e
 ·refine fO 154 [] Tryz.func12 rfl ?_
  repeat'(first|refine gP ?_|(conv=>whnf);first|with_reducible refine Bf.N (λa=>?_) (λa=>?_)|refine C7 d ?_|refine C7 e ?_)
  all_goals first
   | exact U0 (λz=>[B z]) ((by unfold jH ;rw[U];simp))
   |(exfalso;omega)
 cases F:bf h.H h.J<;>rw[F]at i
 ·refine fO 154 [] Tryz.func12 rfl ?_
  repeat'(first|refine gP ?_|(conv=>whnf);first|with_reducible refine Bf.N (λa=>?_) (λa=>?_)|refine C7 d ?_|refine C7 e ?_|refine C7 i ?_)
  all_goals first
   | exact U0 (λz=>[B z]) ((by unfold jH ;rw[F];simp))
   |(exfalso;omega)
 have j:=Af h b g u o F;cases V:(pages0 h&&og h)<;>rw[V]at j
 ·refine fO 154 [] Tryz.func12 rfl ?_
  repeat'(first|refine gP ?_|(conv=>whnf);first|with_reducible refine Bf.N (λa=>?_) (λa=>?_)|refine C7 d ?_|refine C7 e ?_|refine C7 i ?_|refine C7 j ?_)
  all_goals first
   | exact U0 (λz=>[B z]) ((by unfold jH ;rw[V];simp))
   |(exfalso;omega)
 cases O:b9 h.b<;>rw[O]at w
 ·refine fO 154 [] Tryz.func12 rfl ?_
  repeat'(first|refine gP ?_|(conv=>whnf);first|with_reducible refine Bf.N (λa=>?_) (λa=>?_)|refine C7 d ?_|refine C7 e ?_|refine C7 i ?_|refine C7 j ?_|refine C7 w ?_)
  all_goals first
   | exact U0 (λz=>[B z]) ((by unfold jH dd;rw[O];simp))
   |(exfalso;omega)
 by_cases P:h.R.length=h.b.T.length;rotate_left
 ·refine fO 154 [] Tryz.func12 rfl ?_
  repeat'(first|refine gP ?_|(conv=>whnf);first|with_reducible refine Bf.N (λa=>?_) (λa=>?_)|refine C7 d ?_|refine C7 e ?_|refine C7 i ?_|refine C7 j ?_|refine C7 w ?_)
  all_goals first
   | exact U0 (λz=>[B z]) ((by unfold jH dd;rw[R0 P];simp))
   |(exfalso;omega)
 cases W:eP h.a0<;>rw[W]at M
 ·refine fO 154 [] Tryz.func12 rfl ?_
  repeat'(first|refine gP ?_|(conv=>whnf);first|with_reducible refine Bf.N (λa=>?_) (λa=>?_)|refine C7 d ?_|refine C7 e ?_|refine C7 i ?_|refine C7 j ?_|refine C7 w ?_|refine C7 M ?_)
  all_goals first
   | exact U0 (λz=>[B z]) ((by unfold jH dd;rw[W];simp))
   |(exfalso;omega)
 have hmc:dd h=true:=by grind [dd]
 refine fO 154 [] Tryz.func12 rfl ?_
 repeat'(first|refine gB ?_|(conv=>whnf);first|with_reducible refine Bf.N (λa=>?_) (λa=>?_)|refine C7 d ?_|refine C7 e ?_|refine C7 i ?_|refine C7 j ?_|refine C7 w ?_|refine C7 M ?_)
 all_goals try(exfalso;omega)
 (conv=>whnf)
 refine CE (ι:=Nat) (λk=>[(1,.F .box (ac.enc .U h)),(57,.F .one (nB .U h.R)),(58,.F .one [I (h.R.length)]),(59,.F .one [I ((k:Nat):Int)])]) (λk=>k<=h.R.length/\(h.R.take k).all bj=true) (λk=>h.R.length - k) (0) ?_ ψ λk X=>?_
 ·exact wB
 obtain⟨X,Y⟩:=X;by_cases Z:k<h.R.length
 ·have Q:=ah Z
  have R:=md (nth h.R k) (p.2 _ (am Z));cases e8:bj (nth h.R k)<;>rw[e8]at R
  ·repeat'(first|refine gE ?_|(conv=>whnf);first|with_reducible refine CA (aa Q) ?_|refine C7 R ?_)
   exact U0 (λz=>[B z]) ((by grind [jH]))
  repeat'(first|refine gE ?_|(conv=>whnf);first|with_reducible refine CA (aa Q) ?_|refine C7 R ?_)
  ((conv=>whnf);refine CD (k+1) ⟨ω,cE Q Y e8⟩ ω ?_;(exact wB))
 have hca:h.R.all bj=true:=mU ω Y;have l:=Dl h b g K L;have c10:=wM h G F O ψ;have c12:=EX h.b1 r;have c13:=tp h h.b1.k.b2 b.1;have c14:=tp h h.b1.k.b3 b.1;cases e9:eG h<;>rw[e9]at l
 ·repeat'(first|refine gE ?_|(conv=>whnf);first|refine C7 l ?_)
  all_goals first
   | exact U0 (λz=>[B z]) ((by unfold jH;rw[e9];simp))
   |(exfalso;omega)
 cases e10:je h<;>rw[e10]at c10
 ·repeat'(first|refine gE ?_|(conv=>whnf);first|refine C7 l ?_|refine C7 c10 ?_)
  all_goals first
   | exact U0 (λz=>[B z]) ((by unfold jH;rw[e10];simp))
   |(exfalso;omega)
 by_cases hn:cr h=true;rotate_left
 ·have y:cr h=false:=by simpa using hn
  have c:=y;unfold cr at c;rw[I4]at c
  repeat'(first|refine gE ?_|(conv=>whnf);first|with_reducible refine Bf.D (λa=>?_) (λa=>?_)|refine C7 (aL _ _ _) ?_|refine C7 (nC _) ?_|refine C7 l ?_|refine C7 c10 ?_)
  all_goals first
   | exact U0 (λz=>[B z]) ((by unfold jH;rw[y];simp))
   |(exfalso;omega)
 have c:=hn;unfold cr at c;rw[C0]at c;have C:jH h=qz h:=by grind [jH]
 rw[C];unfold qz;cases em:h.b0
 ·repeat'(first|refine gE ?_|(conv=>whnf);first|with_reducible (first|refine Bf.D (λa=>?_) (λa=>?_)|refine Bf.E (λa=>?_) (λa=>?_))|refine C7 (aL _ _ _) ?_|refine C7 (nC _) ?_|refine C7 l ?_|refine C7 c10 ?_|refine Bf.f em ?_)
  all_goals first
   | exact U0 (λz=>[B z]) ((by unfold qF;simp only[Bool.false_eq_true,if_false];first|(symm;exact R0 ω)|(rw[O4,beq_iff_eq,C0];omega)))
   |(exfalso;omega)
 cases e12:jj h.b1<;>rw[e12]at c12
 all_goals
  repeat'(first|refine gE ?_|(conv=>whnf);first|with_reducible (first|refine Bf.D (λa=>?_) (λa=>?_)|refine Bf.D (λa=>?_) (λa=>?_))|refine C7 (aL _ _ _) ?_|refine C7 (nC _) ?_|refine C7 l ?_|refine C7 c10 ?_|refine C7 c12 ?_|refine C7 c13 ?_|refine C7 c14 ?_|refine Bf.t em ?_)
  all_goals first
   | exact U0 (λz=>[B z]) (ψ)
   |(exfalso;omega)
def g9{α:Type}[Inhabited α]{xs:List α}{f:α->Int}(e:(xs.map f).Nodup){i j:Nat}(b:i<xs.length)(c:j<xs.length)(h:f (nth xs i)=f (nth xs j)):i=j:=by
 have d:=List.pairwise_iff_getElem.1 e;rcases Nat.lt_trichotomy i j with a|rfl|a
 ·have:=d i j (by simpa using b) (by simpa using c) a
  simp only[List.getElem_map]at this;rw[bm (W1 b),bm (W1 c)]at h;exact absurd h this
 ·rfl
 have:=d j i (by simpa using c) (by simpa using b) a;simp only[List.getElem_map]at this;rw[bm (W1 b),bm (W1 c)]at h;omega
theorem aY{α:Type}[Inhabited α]{xs:List α}{x:α}(h:x∈xs):∃i,i<xs.length/\nth xs i=x:=by
 obtain⟨i,a⟩:=List.mem_iff_getElem?.1 h
 grind [bm]
theorem qn:∀{H L:List Int},H.Nodup->(∀x∈H,x∈L)->L.length<=H.length->∀x∈L,x∈H
 | [],L,_,_,b,x,c=>by grind
 | y::H,L,d,f,b,x,c=>by
  have g:y∈L:=ψ
  have a:=List.nodup_cons.1 d;by_cases e:x=y
  ·grind
  refine W4 _ (qn (L:=L.erase y) a.2 (λz h=>?_) ?_ x ψ)
  all_goals grind
theorem HC{H L:List Int}(b:L.Nodup)(c:∀x∈H,x∈L):(H.Nodup/\H.length=L.length)↔∀a∈L,H.count a=1:=by grind [qn,List.Perm.length_eq]
theorem dq{l:ay}{n:Nat}{p:Int} : p∈lpgs l n↔∃k:Nat,k<n/\p=l.Q+(k:Nat):=by grind [lpgs]
structure l7(sp:List ar)(la:List ay):Prop where
 sok:∀s∈sp,aT s=true
 lok:∀l∈la,bP l=true
 nd:(sp.map (·.Q)).Nodup
 dis:∀s∈sp,∀l∈la,∀k:Nat,k<l.a3.toNat->s.Q≠l.Q+(k:Nat)
 one:∀i j,i<la.length->j<la.length->∀k k':Nat,k<(nth la i).a3.toNat->k'<(nth la j).a3.toNat->(nth la i).Q+(k:Nat)=(nth la j).Q+(k':Nat)->i=j
theorem l7.of{sp:List ar}{la:List ay}(h:bf sp la=true):l7 sp la:=by
 obtain⟨B,C,d⟩:=dt h;unfold pgs at d;rw[List.nodup_append]at d;obtain⟨q,r,t⟩:=d;have u:=List.pairwise_flatMap.1 r;refine⟨ψ,ψ,q,λs D l w k c e=>?_,λi j f g k o c a e=>?_⟩
 ·exact t _ ψ _ (List.mem_flatMap.2 ⟨l,w,dq.2 ⟨k,c,rfl⟩⟩) e
 have p:=List.pairwise_iff_getElem.1 u.2;have y:=bm (W1 f);have A:=bm (W1 g);rw[y]at c e;rw[A]at a e;rcases Nat.lt_trichotomy i j with b|n|b
 ·exact absurd e (p i j f g b _ (dq.2 ⟨k,c,rfl⟩) _ (dq.2 ⟨o,a,rfl⟩))
 ·exact n
 exact absurd e.symm (p j i g f b _ (dq.2 ⟨o,a,rfl⟩) _ (dq.2 ⟨k,c,rfl⟩))
theorem eU{s:ar}{a:Int}(b:aT s=true):cL s a=true↔16*s.Q<=a/\a<=16*s.Q+15:=by grind [cL]
theorem iU{sp:List ar}{la:List ay}(b:l7 sp la){a:Int}{i:Nat}(c:i<sp.length)(h:16*(nth sp i).Q<=a/\a<=16*(nth sp i).Q+15):denotes sp la a=nu i (nth sp i) a:=by
 refine my c ((eU (b.sok _ (am c))).2 h) λj z l k=>?_
 cases e:cL z a with
 | false=>rfl
 | true=>
  exfalso;have d:=(Z1.1 k).1;have n:=(eU (b.sok z ψ)).1 e;have g:=bm k;subst g;have:=g9 (f:=(·.Q)) b.nd c d ω;omega
theorem P1{sp:List ar}{la:List ay}(b:l7 sp la){a:Int}(h:∀i,i<sp.length->¬(16*(nth sp i).Q<=a/\a<=16*(nth sp i).Q+15)):∀(j:Nat)(z:ar),j<sp.length->sp[j]? = some z->cL z a=false:=by grind [eU,l7.sok,bm]
theorem KI{sp:List ar}{la:List ay}(c:l7 sp la)(a:Int):a∈live0 sp la↔a∈ju sp la:=by
 have G:a∈ju sp la↔∃n:Nat,n<512/\j9 sp la n=true/\(n:Int)=a:=by grind [ju,kU]
 rw[G];unfold live0 eH;rw[R2,List.mem_flatMap,X3];constructor
 ·rintro(⟨s,g,C⟩|⟨l,b,rfl⟩)
  ·obtain⟨i,d,rfl⟩:=aY g
   unfold dD at C;obtain⟨k,H,rfl⟩:=X3.1 C;obtain⟨h,J⟩:=Y3.1 H;have h:=List.mem_range.1 h;have o:=aB (c.sok _ g);have t:=y5 ⟨o.2.2.1,o.2.2.2⟩;have K:=rD (nth sp i).Y;unfold jY;have L:0<=(k:Int)*csz (nth sp i).Y/\(k:Int)*csz (nth sp i).Y<=15:=by grind [bW]
   have f:=iU c d (a:=16*(nth sp i).Q+(k:Nat)*csz (nth sp i).Y) ω;have O:(16*(nth sp i).Q+(k:Nat)*csz (nth sp i).Y - 16*(nth sp i).Q) / csz (nth sp i).Y=(k:Nat)/\(16*(nth sp i).Q+(k:Nat)*csz (nth sp i).Y - 16*(nth sp i).Q) % csz (nth sp i).Y=0:=by grind [bW]
   refine⟨(16*(nth sp i).Q+(k:Nat)*csz (nth sp i).Y).toNat,ω,?_,ω⟩
   grind [j9,nu]
  obtain⟨i,d,rfl⟩:=aY b;have P:=aN (c.lok _ b);have M:=bR (c.lok _ b);have u:=P1 c (a:=16*(nth la i).Q) λj D Q=>c.dis _ (am D) _ b 0 ω ω
  have E:bx (nth la i) (16*(nth la i).Q)=true:=by grind [l7.lok,bx]
  have f:=lc (a:=16*(nth la i).Q) (U2 _) u d E λj z D r=>by
   cases e:bx z (16*(nth la i).Q) with
   | false=>rfl
   | true=>
    exfalso;have w:=(Z1.1 r).1;have p:=U1 r;have y:=bm r;subst y;have N:=aN (c.lok _ p);have q:=c.lok _ p;unfold bP at q;rw[C0]at q;unfold bx at e;rw[I0,C0]at e;have:=c.one i j d w 0 ((nth la i).Q - (nth la j).Q).toNat ω ω ω;omega
  refine⟨(16*(nth la i).Q).toNat,ω,?_,ω⟩
  grind [j9]
 rintro⟨n,R,b,rfl⟩
 cases u:sp.findIdx? (cL · (n:Nat)) with
 | some i=>
  obtain⟨d,A,-⟩:=I6.1 u;have B:=bm (W1 d);rw[<-B]at A;have g:=c.sok _ (am d);have F:=(eU g).1 A;have o:=aB g;have t:=y5 ⟨o.2.2.1,o.2.2.2⟩;have f:denotes sp la (n:Nat)=nu i (nth sp i) (n:Nat):=by grind [denotes]
  rw[r6 f]at b;simp only[I0,U5,C0]at b;simp only[nu]at b;cases E:aQ (nth sp i).a6 (((n:Int) - 16*(nth sp i).Q) / csz (nth sp i).Y) with
  | false=>grind
  | true=>
   have r:((n:Int) - 16*(nth sp i).Q) % csz (nth sp i).Y=0:=b.1;refine .inl ⟨nth sp i,am d,?_⟩;unfold dD;refine X3.2 ⟨(((n:Int) - 16*(nth sp i).Q) / csz (nth sp i).Y).toNat,Y3.2 ⟨List.mem_range.2 ?_,?_⟩,?_⟩
   all_goals grind [bW,jY]
 | none=>
  cases F:la.findIdx? (bx · (n:Nat)) with
  | some i=>
   obtain⟨d,A,-⟩:=I6.1 F;have f:denotes sp la (n:Nat) = ⟨3,i,0,(n:Nat) - 16*(nth la i).Q⟩:=by grind [denotes]
   rw[r6 f]at b
   grind [am]
  | none=>
   have f:denotes sp la (n:Nat) = ⟨0,0,0,0⟩:=by grind [denotes]
   rw[r6 f]at b;simp at b
theorem uL{sp:List ar}{la:List ay}(b:l7 sp la){a:Int}(c:(denotes sp la a).d1=0)(f:(denotes sp la a).b6=1\/(denotes sp la a).b6=3):a∈ju sp la:=by
 have l:0<=a/\a<512:=by
  unfold denotes at c f;cases g:sp.findIdx? (cL · a) with
  | some i=>
   obtain⟨d,j,-⟩:=I6.1 g;have h:=List.getElem_mem d;have e:=(eU (b.sok _ h)).1 j;have k:=aB (b.sok _ h);omega
  | none=>
   rw[g]at c f;cases e:la.findIdx? (bx · a) with
   | some i=>
    obtain⟨d,-⟩:=I6.1 e;rw[e]at c;have n:=aN (b.lok _ (am d))
    grind
   | none=>grind
 have k:((a.toNat:Nat):Int)=a:=ω
 grind [ju,kU,j9]
theorem tn(sp:List ar)(la:List ay):(ju sp la).Nodup:=by
 unfold ju kU List.Nodup;rw[List.pairwise_map]
 grind [List.Pairwise.imp,List.nodup_range]
theorem rK{h:ac}(b:l7 h.H h.J){a c:Int}(d:cW h a c=true):a∈ju h.H h.J:=by grind [uL,cW]
theorem KV{h:ac}(a:l7 h.H h.J){o:bF}(b:ig h o=true):o.X∈ju h.H h.J:=by grind [uL,ig]
theorem Ew(h:ac)(a:Int):(lP h).count a=(holders h).count a:=by grind [lP,holders]
theorem kR(h:ac):ix h=true↔(h.R.all (dS h)=true/\h.a0.y.all (gx h)=true)/\(a9 h.b).all (jc h)=true:=by grind [ix]
theorem ry{h:ac}(f:l7 h.H h.J)(g:eG h=true)(j:ix h=true):∀a∈holders h,a∈ju h.H h.J:=by
 obtain⟨⟨n,p⟩,q⟩:=(kR h).1 j;intro a b;unfold holders at b;simp only[R2]at b;rcases b with((b|b)|b)|b
 ·obtain⟨o,d,rfl⟩:=X3.1 b
  obtain⟨i,r,rfl⟩:=aY d;have e:=dP g r
  grind [KV,objAt]
 ·unfold ci at b
  obtain⟨c,t,b⟩:=List.mem_flatMap.1 b;obtain⟨l,u,b⟩:=List.mem_flatten.1 b;obtain⟨k,w,rfl⟩:=aY u;have e:=T3.1 n c t;unfold dS at e;have A:=T3.1 (show(nth c.Z k).all _=true from dP e w) a b
  grind [rK]
 ·obtain⟨x,y,rfl⟩:=X3.1 b
  exact rK f (T3.1 p x y)
 exact rK f (T3.1 q a b)
theorem Hm{h:ac}(b:bf h.H h.J=true)(c:eG h=true):(kV h&&iE h)=je h:=by
 have d:=l7.of b;have e:(kV h=true/\h.a0.y.all (gx h)=true)↔h.a0.y.all (qD h)=true:=by grind [kV,qD]
 have f:je h=true↔((h.R.all (dS h)=true/\h.a0.y.all (qD h)=true)/\(a9 h.b).all (jc h)=true)/\∀a∈ju h.H h.J,(holders h).count a=1:=by
  unfold je;simp only[I0];refine and_congr Iff.rfl ?_;simp only[T3,C0,Ew]
  grind [List.mem_mergeSort,KI,ne,sorted]
 grind [kR,HC,tn,ry,iE]
theorem iM(s t:ar):meshable s t=meshable t s:=by grind [meshable]
theorem dx{t:aG}{f:Int}{p:Nat} : (p:Int)∈pagesOn t f↔p<t.K.length/\(nth t.K p).w≠0/\(nth t.K p).j=f:=by grind [pagesOn,jg,LB]
theorem nA{t:aG}{f q:Int}(h:q∈pagesOn t f):∃p:Nat,q=(p:Nat):=by grind [pagesOn,jg]
theorem rv{h:ac}(a:pages0 h=true):(∀i,i<h.J.length->∀k:Nat,k<(nth h.J i).a3.toNat->(aH h ((nth h.J i).Q+(k:Nat))).length=1)/\(∀p∈pgs h.H h.J,p<dC h)/\∀p:Nat,p<dC h->((nth (tbl h).K p).w≠0↔(p:Int)∈pgs h.H h.J):=by grind [dP,pages0,qO,wv,tX]
theorem zm{h:ac}{p:Nat}(a:p<dC h):au (tbl h) (p:Nat)=nth (tbl h).K p:=lh a
theorem eB{h:ac}{p:Nat}(a:p<dC h)(b:(nth (tbl h).K p).w≠0):aH h (p:Nat)=pagesOn (tbl h) (nth (tbl h).K p).j:=by grind [zm,aH,tbl]
theorem jT{h:ac}(g:l7 h.H h.J){j:Nat}(c:j<h.H.length):dN h (nth h.H j).Q=(j:Nat):=by
 unfold dN;refine dX (ah c) (by unfold kn;simp) λk z i d=>?_
 have a:=bm d;have b:=(Z1.1 d).1;subst a;unfold kn;refine R0 λe=>?_
 have:=g9 (f:=(·.Q)) g.nd b c e;omega
theorem sN{h:ac}(w:bf h.H h.J=true)(N:pages0 h=true):rm h=og h:=by
 have E:=l7.of w;obtain⟨O,P,Q⟩:=rv N;have o:∀i,i<h.H.length->∃p:Nat,(nth h.H i).Q=(p:Nat)/\p<dC h/\(nth (tbl h).K p).w≠0:=λi r=>by
  have Y:=aB (E.sok _ (am r));have R:(nth h.H i).Q∈pgs h.H h.J:=by grind [am,pgs]
  have c:=P _ R;refine⟨(nth h.H i).Q.toNat,ω,ω,?_⟩
  grind
 rw[O4];unfold rm og;rw[cm,cm];constructor
 ·intro F i r
  rw[cm];intro j G;have y:j<h.H.length:=ω
  unfold lC;rw[U5,C0];by_cases d:(au (tbl h) (nth h.H i).Q).j=(au (tbl h) (nth h.H j).Q).j
  ·right
   obtain⟨p,e,a,f⟩:=o i r;obtain⟨q,A,b,g⟩:=o j y;have n:=T3.1 (F i r);rw[e,A,zm a,zm b]at d;have S:(q:Int)∈aH h (nth h.H i).Q:=by
    rw[e,eB a f];exact dx.2 ⟨b,g,d.symm⟩
   have t:=n _ S;unfold lg at t;rw[<-A,jT E y]at t;rw[U5,I0,C0]at t;rcases t with t|t
   ·omega
   simpa using t.2
  exact .inl d
 intro B i r;rw[T3];intro q C;obtain⟨p,e,a,f⟩:=o i r;have T:=C;rw[e,eB a f]at C;obtain⟨D,rfl⟩:=nA C;obtain⟨b,g,H⟩:=dx.1 C;have u:=(Q D b).1 g;unfold pgs at u;rw[R2,X3,List.mem_flatMap]at u;rcases u with⟨s,F,J⟩|⟨l,U,K⟩
 ·obtain⟨j,G,rfl⟩:=aY F
  unfold lg;rw[<-J,jT E G];rw[U5,I0,C0,C0];have d:(au (tbl h) (nth h.H i).Q).j=(au (tbl h) (nth h.H j).Q).j:=by grind [zm]
  rcases Nat.lt_trichotomy j i with c|V|c
  ·have n:=dP (B i r) c
   unfold lC at n
   simp_all
  ·omega
  have n:=dP (B j G) c;unfold lC at n;rw[U5,C0]at n;exact .inr ⟨ω,by rw[iM];simp_all⟩
 exfalso;obtain⟨W,L,rfl⟩:=aY U;obtain⟨k,X,M⟩:=dq.1 K;have n:=O W L k X;rw[<-M,eB b g]at n;have Z:(D:Int)∈pagesOn (tbl h) (nth (tbl h).K D).j:=ψ
 have m2:(p:Int)∈pagesOn (tbl h) (nth (tbl h).K D).j:=dx.2 ⟨a,f,H.symm⟩
 grind [List.length_eq_one_iff,l7.dis,am]
theorem yx(h:ac):jH h=dw h:=by grind [sN,Hm,jH,dw,kg]
def ovl(y r:a8):Bool:=decide (y.At<r.At+r.a5/\r.At<y.At+y.a5)
def lF(r:a8):List a8->Bool->Option (List a8)
 | [],put=>some (if put then [] else [r])
 | y::a,put=>if ovl y r then none else if !put&&decide (y.At > r.At) then(lF r a true).map λt=>r::y::t else(lF r a put).map λt=>y::t
def db(out:List a8):List a8->List a8
 | []=>out
 | y::ys=>match out.getLast? with
  | some z=>if z.At+z.a5=y.At then db (out.dropLast++[⟨z.At,z.a5+y.a5⟩]) ys else db (out++[y]) ys
  | none=>db (out++[y]) ys
def jC:List a8->a8->List a8->Bool->Option (List a8)
 | [],r,out,done=>some (if done then out else out++[r])
 | y::ys,r,out,done=>
  if ovl y r then none
  else if y.At+y.a5=r.At then jC ys ⟨y.At,y.a5+r.a5⟩ out done
  else if r.At+r.a5=y.At then jC ys ⟨r.At,r.a5+y.a5⟩ out done
  else if y.At > r.At/\done=false then jC ys r (out++[r,y]) true
  else jC ys r (out++[y]) done
def iL(xs:List a8):Prop:=xs.Pairwise (λa b=>a.At+a.a5<b.At)/\∀y∈xs,1<=y.a5
theorem iL.tail{y:a8}{a:List a8}(h:iL (y::a)):iL a:=⟨(List.pairwise_cons.1 h.1).2,λz b=>h.2 z ψ⟩
theorem iL.head{y:a8}{a:List a8}(h:iL (y::a)):∀z∈a,y.At+y.a5<z.At:=(List.pairwise_cons.1 h.1).1
theorem iJ:∀(a out:List a8),iL a->(∀z,out.getLast? = some z->∀y∈a,z.At+z.a5≠y.At)->db out a=out++a
 | [],out,_,_=>by simp[db]
 | y::a,out,d,e=>by
  have b:db (out++[y]) a=out++y::a:=by
   rw[iJ a (out++[y]) d.tail λz c w f=>by
     simp at c;subst c;have:=d.head w f;omega]
   simp
  unfold db;split
  ·rename_i z c
   rw[C9 (e z c y (R1 ..))];exact b
  exact b
theorem wV{r:a8} : ∀{a:List a8},iL a->(∀y∈a,r.At+r.a5<=y.At)->lF r a true=some a
 | [],_,_=>rfl
 | y::a,c,b=>by
  have e:=b y (R1 ..);unfold lF;rw[C9 (by unfold ovl;rw[C0];omega)];simp only[Bool.not_true,Bool.false_and,Bool.false_eq_true,if_false];rw[wV c.tail λz d=>b z (W4 _ d)]
  rfl
theorem tN{r:a8}(h1:1<=r.a5){a:List a8}(b:iL a)(c:∀y∈a,r.At+r.a5<=y.At):lF r a false=some (r::a):=by
 cases a with
 | nil=>rfl
 | cons y a=>
  grind [wV,iL.tail,lF,ovl]
def oG{r:a8} : ∀{a out:List a8},iL a->1<=r.a5->(∀y∈a,r.At+r.a5<y.At)->jC a r out true=some (out++a)
 | [],out,_,_,_=>by simp[jC]
 | y::a,out,b,d,c=>by
  have f:=c y (R1 ..);have g:=b.2 y (R1 ..);unfold jC;rw[C9 (by unfold ovl;rw[C0];omega),C9 ω,C9 ω,C9 (by simp),oG b.tail d λz e=>c z (W4 _ e)];simp
theorem v6{r:a8}(h1:1<=r.a5){a out:List a8}(b:iL a)(c:∀y∈a,r.At+r.a5<=y.At):jC a r out false=some (out++match a with|[]=>[r]|y::zs=>if r.At+r.a5=y.At then⟨r.At,r.a5+y.a5⟩::zs else r::y::zs):=by
 cases a with
 | nil=>simp[jC]
 | cons y a=>
  have g:=c y ψ;have h:=b.2 y ψ;unfold jC;rw[C9 (by grind [ovl]),C9 ω];by_cases e:r.At+r.a5=y.At
  ·rw[CB e]
   simp only[e,if_true];cases a with
   | nil=>simp[jC]
   | cons z a=>
    have i:=b.head z ψ;have j:=b.tail.2 z ψ;unfold jC;simp only;rw[C9 (by grind [ovl]),C9 ω,C9 ω,CB (by simp;omega),oG b.tail.tail (by simp only;omega) λw d=>by
      have:=b.tail.head w d;simp only;omega]
    simp
  rw[C9 e,CB (by simp;omega),oG b.tail h1 λz f=>by have:=b.head z f;omega];simp[e]
theorem yC{pages:Int} : ∀{a:List a8}{r:a8}{out:List a8},iL a->1<=r.a5->(∀z,out.getLast? = some z->(∀y∈a,z.At+z.a5<y.At)/\z.At+z.a5<r.At)->(lF r a false).map (db out)=jC a r out false
 | [],r,out,_,g,q=>by
  show some (db out [r])=some (out++[r]);rw[iJ [r] out ⟨List.pairwise_singleton ..,λy u=>by rw[C1.1 u];exact g⟩ ψ]
 | y::a,r,out,c,g,q=>by
  have F:=c.2 y ψ;by_cases l:ovl y r=true
  ·grind [lF,jC]
  ·have i:=l
   unfold ovl at i;rw[C0]at i;by_cases A:r.At+r.a5<=y.At
   ·-- all to the right
    have b:∀w∈y::a,r.At+r.a5<=w.At:=λw f=>by grind [iL.head]
    rw[tN g c b,v6 g c b];show some (db out (r::y::a))=_;have hfirst:db out (r::y::a)=db (out++[r]) (y::a):=by
     conv=>lhs;unfold db
     grind
    rw[hfirst];by_cases e:r.At+r.a5=y.At
    ·have:db (out++[r]) (y::a)=db (out++[⟨r.At,r.a5+y.a5⟩]) a:=by
      conv=>lhs;unfold db
      simp[e]
     grind [iJ,iL.tail,iL.head]
    grind [iJ,iL.head]
   have B:y.At+y.a5<=r.At:=ω
   have n:∀t,db out (y::t)=db (out++[y]) t:=λt=>by
    conv=>lhs;unfold db
    grind [R1]
   have C:(lF r (y::a) false).map (db out)=(lF r a false).map (db (out++[y])):=by
    conv=>lhs;unfold lF
    rw[C9 l,C9 (by simp;omega),Option.map_map]
    congr 1
    grind
   rw[C];unfold jC;rw[C9 l];by_cases e:y.At+y.a5=r.At
   ·rw[CB e]
    by_cases o:∃w,a.head? = some w/\ovl w r=true
    ·obtain⟨w,f,D⟩:=o
     cases a with
     | nil=>cases f
     | cons d h=>
      grind [ovl,lF,jC]
    have b:∀w∈a,r.At+r.a5<=w.At:=by
     cases a with
     | nil=>grind
     | cons d h=>
      have G:=c.head d ψ;have H:=c.tail.2 d ψ
      grind [iL.head,iL.tail,ovl]
    rw[tN g c.tail b,v6 (r:=⟨y.At,y.a5+r.a5⟩) (by simp only;omega) c.tail ψ];show some (db (out++[y]) (r::a))=_;have E:db (out++[y]) (r::a)=db (out++[⟨y.At,y.a5+r.a5⟩]) a:=by
     conv=>lhs;unfold db
     simp[e]
    rw[E];cases a with
    | nil=>simp[db]
    | cons d h=>
     by_cases j:y.At+(y.a5+r.a5)=d.At
     ·have p:db (out++[⟨y.At,y.a5+r.a5⟩]) (d::h)=db (out++[⟨y.At,y.a5+r.a5+d.a5⟩]) h:=by
       conv=>lhs;unfold db
       simp[j]
      rw[p,iJ h _ c.tail.tail λz k w f=>by grind [iL.head,iL.tail]];simp[j]
     rw[iJ (d::h) _ c.tail λz k w f=>by
       simp at k;subst k;simp only;rcases List.mem_cons.1 f with rfl|f
       · exact j
       have:=c.tail.head w f;have:=b d ψ;have:=c.tail.2 d ψ;omega]
     simp[j]
   rw[C9 e,C9 ω,C9 ω];exact yC (pages:=pages) c.tail g λz k=>by grind [iL.head]
def io(k:af)(f:Int):af:=if(pagesOn k.G.S f).length=0 then {k with G:=⟨⟨k.G.V.W.set f.toNat (List.replicate 16 0),k.G.V.a1.set f.toNat false⟩,k.G.S⟩} else k
def rp(k:af)(p:Int):af:={k with G:=⟨k.G.V,⟨k.G.S.K.set p.toNat ⟨0,0⟩⟩⟩}
def dM(k:af)(p:Int):af:=if(au k.G.S p).w=0 then k else io (rp k p) (au k.G.S p).j
theorem cP{α:Type}[Inhabited α](xs:List α)(i j:Nat)(x:α):nth (xs.set i x) j=if i=j/\j<xs.length then x else nth xs j:=by grind [nth]
theorem oX(k:af)(f:Int):(io k f).G.S=k.G.S/\(io k f).q=k.q/\(io k f).e=k.e/\(io k f).G.V.W.length=k.G.V.W.length/\(io k f).G.V.a1.length=k.G.V.a1.length:=by grind [io]
theorem pG(k:af)(p:Int):(dM k p).G.S.K.length=k.G.S.K.length/\(dM k p).q=k.q/\(dM k p).e=k.e:=by grind [oX,dM,rp]
theorem aD{k:af} : aC k=true↔(∀j,j<k.e.length->0<=nth k.e j)/\cG k.G.V=true/\fF k.G.S k.G.V.a1.length=true/\(∀j,j<k.G.V.a1.length->nth k.G.V.a1 j=decide (0<(pagesOn k.G.S (j:Int)).length))/\0<=k.q/\k.q<=100000/\k.e.length<=40:=by grind [cm,aC,dv,nZ]
theorem bg{f:aU} : cG f=true↔1<=f.W.length/\f.W.length<=32/\f.a1.length=f.W.length/\∀j,j<f.W.length->gY (nth f.W j) (nth f.a1 j)=true:=by
 unfold cG;simp only[I0,C0,T3,and_assoc];refine and_congr Iff.rfl (and_congr Iff.rfl (and_congr_right λb=>⟨λh j a=>?_,λh q c=>?_⟩))
 ·exact h _ (U1 (uJ (ah a) (ah ω)))
 grind [List.mem_iff_getElem?,List.getElem?_zip_eq_some,bm]
theorem bv{t:aG}{a:Int} : fF t a=true↔(∀j,j<t.K.length->kM a (nth t.K j)=true)/\1<=t.K.length/\t.K.length<=32:=by grind [cm,fF]
theorem eg{t:aG}{f:Int} : 0<(pagesOn t f).length↔∃q,q<t.K.length/\(nth t.K q).w≠0/\(nth t.K q).j=f:=by
 unfold pagesOn jg;rw[X0,List.length_pos_iff_exists_mem];simp[LB]
theorem cC{k:af}{p:Int}(h:aC k=true)(a:(au k.G.S p).w≠0):0<=p/\p<k.G.S.K.length/\au k.G.S p=nth k.G.S.K p.toNat/\0<=(au k.G.S p).j/\(au k.G.S p).j<k.G.V.a1.length:=by
 obtain⟨-,-,b,-⟩:=aD.1 h
 grind [bv,au,kM]
theorem wO{k:af}(p:Int)(h:aC k=true):aC (dM k p)=true:=by
 unfold dM;split
 ·exact h
 rename_i r;obtain⟨C,D,E,i,l⟩:=cC h r;obtain⟨t,u,F,w,y,A,B⟩:=aD.1 h;obtain⟨G,H,J,L⟩:=bg.1 u;obtain⟨M,N,O⟩:=bv.1 F;rw[E]at r i l |-;generalize K:(nth k.G.S.K p.toNat).j=f at i l;have b:∀q,nth (k.G.S.K.set p.toNat ⟨0,0⟩) q=if p.toNat=q then⟨0,0⟩ else nth k.G.S.K q:=λq=>by grind [cP]
 have c:∀j:Int,0<(pagesOn (⟨k.G.S.K.set p.toNat ⟨0,0⟩⟩ : aG) j).length↔∃q,q<k.G.S.K.length/\q≠p.toNat/\(nth k.G.S.K q).w≠0/\(nth k.G.S.K q).j=j:=λj=>by
  rw[eg];simp only[I1,b]
  grind
 have d:∀j:Int,0<(pagesOn k.G.S j).length↔∃q,q<k.G.S.K.length/\(nth k.G.S.K q).w≠0/\(nth k.G.S.K q).j=j:=λj=>eg
 have g:fF ⟨k.G.S.K.set p.toNat ⟨0,0⟩⟩ k.G.V.a1.length=true:=by
  rw[bv];simp only[I1,b]
  grind [kM]
 unfold io;split
 ·rename_i o
  rw[aD];simp only[rp,I1]at o |-;refine⟨t,?_,g,λj n=>?_,y,A,B⟩
  ·rw[bg]
   simp only[I1,cP];refine⟨G,H,J,λj n=>?_⟩;by_cases a:f.toNat=j
   ·rw[CB ⟨a,n⟩,CB ⟨a,ω⟩];decide
   grind
  rw[cP];by_cases a:f.toNat=j
  ·grind
  rw[C9 (λe=>a e.1),w j n];refine decide_eq_decide.2 ?_;rw[d,c]
  grind
 rename_i o;rw[aD];simp only[rp]at o |-;refine⟨t,u,g,λj n=>?_,y,A,B⟩;rw[w j n];refine decide_eq_decide.2 ?_;by_cases a:f=j
 ·grind
 rw[d,c];grind
def bE{k:af}(h:aC k=true):af.sml k:=by
 obtain⟨g,b,c,i,l,n,o⟩:=aD.1 h;obtain⟨p,q,t,d⟩:=bg.1 b;obtain⟨u,w,y⟩:=bv.1 c;refine⟨⟨⟨⟨ω,λr f=>?_⟩,(by omega:_<=1048576)⟩,⟨ω,λe _=>trivial⟩⟩,(by omega:_<=1048576)⟩;obtain⟨j,a⟩:=List.mem_iff_getElem?.1 f;have:=d j (Z1.1 a).1;rw[bm a]at this;unfold gY at this;simp only[I0,C0]at this;show r.length<=1048576;omega
theorem Ap.cp{α:Type}{e:α->List C}{xs:List α}{sz by_:Nat}{K:List (List C)->Prop}(d:∀x,(e x).length=sz)(f:∀x,aW (e x)=true)(a:xs.length<=1048576)(b:by_<=1000)(c:K (xs.map e)):Ap true [] (xs.map e) sz by_ K:=
 CN ψ ψ ψ (by simp;omega) (by simp only[X0,List.length_nil,C6];exact yb a b) rfl c
def CR:type_of% @Ap.cp:=@Ap.cp
theorem Fl.cp{α:Type}{e:α->List C}{xs:List α}{sz by_:Nat}{X:Prop}(d:∀x,(e x).length=sz)(f:∀x,aW (e x)=true)(a:xs.length<=1048576)(b:by_<=1000)(c:X):Fl (xs.map e) sz by_ X:=
 Fl.mk ψ (by simp;omega) (by simp only[X0];exact yb a b) c
def CT:type_of% @Fl.cp:=@Fl.cp
theorem Ap.sn{rows a:List (List C)}{r:List C}{sz by_:Nat}{K:List (List C)->Prop}(h1:∀r∈rows,r.length=sz)(f:r.length=sz)(b:rows.length+1<=1048576)(c:by_<=1000)(d:a=rows++[r])(e:K a):Ap false rows [r] sz by_ K:=
 CN h1 ψ ψ (by simp;omega) (yb (by simpa using b) c) d e
def zy(t:aG)(a:aG.sml t):ao Tryz.prog 261 false [.val (some 1) (aG.enc .U t)] .agg (aG.enc .own t):=by
 have b:=a.1;refine fO 8 [] Tryz.func261 rfl ?_ (.inr (aG.enc_fr _))
 repeat'(first|refine gP ?_|(conv=>whnf);first|refine CR (λ_=>rfl) (λ_=>rfl) b (by decide) ?_)
 rfl
theorem aM{α:Type}{e:α->List C}{l:List α}{n:Nat}(h:∀x,(e x).length=n):∀r∈l.map e,r.length=n:=(ψ)
theorem jU{α β:Type}[Inhabited α]{xs:List α}{f:α->β}{i:Nat}(a:i<xs.length):(xs.take (i+1)).map f=(xs.take i).map f++[f (nth xs i)]:=by grind [Y4,ah]
def Ay(f:aU)(a:aU.sml f):ao Tryz.prog 260 false [.val (some 2) (aU.enc .U f)] .agg (aU.enc .own f):=by
 have g:=a.1.1;have d:f.a1.length<=1048576:=a.2;refine fO 30 [(5,10,[17,18,19,20,21,22,23,24,25,26])] Tryz.func260 rfl ?_ (.inr (aU.enc_fr _))
 repeat'(first|refine gP ?_|(conv=>whnf);first|refine CR (λ_=>rfl) (λ_=>rfl) d (by decide) ?_)
 (conv=>whnf)
 refine CE (ι:=Nat) (λi=>[(1,.F .box (aU.enc .U f)),(2,.F .box [.z,.z]),(3,.F .box [.s .own ((f.W.take i).map (aF .own)),.s .own (f.a1.map (rB .own))]),(4,.F .one [I ((i:Nat):Int)])]) (λi=>i<=f.W.length) (λi=>f.W.length - i) (0) ?_ (T0 _) λi h=>?_
 ·exact wB
 by_cases b:i<f.W.length
 ·have e:=ah b
  have c:(nth f.W i).length<=1048576:=a.1.2 _ (am b)
  repeat'(first|refine gE ?_|(conv=>whnf);first|with_reducible refine CA (aa e) ?_|refine CT (λ_=>rfl) (λ_=>rfl) c (by decide) ?_|refine Ap.sn (aM λ_=>rfl) rfl (by simp;omega) (by decide) (jU b) ?_)
  ((conv=>whnf);refine CD (i+1) ω ω ?_;(exact wB))
 repeat'(first|refine gE ?_|fail)
 obtain rfl:i=f.W.length:=ω
 rw[U4]
 rfl
def ro(m:aS)(a:aS.sml m):ao Tryz.prog 215 false [.val (some 3) (aS.enc .U m)] .agg (aS.enc .own m):=by
 refine fO 10 [(1,5,[3,4,5,6,7])] Tryz.func215 rfl ?_ (.inr (aS.enc_fr _))
 repeat'(first|refine gP ?_|(conv=>whnf);first|refine C7 (Ay m.V a.1) ?_|refine C7 (zy m.S a.2) ?_)
 rfl
def zE(k:af)(a:af.sml k):ao Tryz.prog 150 false [.val (some 5) (af.enc .U k)] .agg (af.enc .own k):=by
 have b:k.e.length<=1048576:=a.2;refine fO 13 [(1,9,[3,4,5,6,7,8,9,10,11])] Tryz.func150 rfl ?_ (.inr (af.enc_fr _))
 repeat'(first|refine gP ?_|(conv=>whnf);first|refine C7 (ro k.G a.1) ?_|refine CT (λ_=>rfl) (λ_=>rfl) b (by decide) ?_)
 rfl
def ec(k:af)(p:Int)(a:aG.sml k.G.S):ao Tryz.prog 243 false [.ptr (af.enc .U k),.val none [I p]] .one [I (au k.G.S p).w]:=by
 refine fO 13 [] Tryz.func243 rfl ?_
 repeat'(first|refine gP ?_|(conv=>whnf);first|refine C7 (cX k.G.S p a) ?_)
 rfl
def kW(k:af)(b:af.sml k):ao Tryz.prog 91 false [.val (some 5) (af.enc .U k)] .one [B (aC k&&decide (k.q<100000))]:=by
 have a:=ll k b;cases e:aC k<;>rw[e]at a
 ·refine fO 10 [] Tryz.func91 rfl ?_
  repeat'(first|refine gP ?_|(conv=>whnf);first|with_reducible refine Bf.D (λc=>?_) (λc=>?_)|refine C7 (a) ?_)
  all_goals rfl
 refine fO 10 [] Tryz.func91 rfl ?_
 repeat'(first|refine gP ?_|(conv=>whnf);first|refine C7 (a) ?_)
 all_goals rfl
theorem za{k:af}{f:Int}(h:(pagesOn k.G.S f).length=0):af.enc .own (io k f)=[.s .own ((k.G.V.W.map (aF .own)).set f.toNat (aF .own (List.replicate 16 0))),.s .own ((k.G.V.a1.map (rB .own)).set f.toNat (rB .own false)),.s .own (k.G.S.K.map (bi.enc .own)),I k.q,.s .own (k.e.map (rI .own))]:=by grind [T5,io,af.enc]
theorem DE{k:af}{f:Int}(h:¬(pagesOn k.G.S f).length=0):af.enc .own (io k f)=af.enc .own k:=by grind [io]
def A6(k:af)(f:Int)(a:aG.sml k.G.S)(b:0<=f/\f<k.G.V.W.length/\f<k.G.V.a1.length) :
  aP Tryz.prog 244 false [.ptr (af.enc .own k),.val none [I f]] [.ptr (af.enc .own (io k f)),.val none [I f]] (.tup []) []:=by
 have c:=ah (xs:=k.G.V.W) (i:=f.toNat) ω;have d:=ah (xs:=k.G.V.a1) (i:=f.toNat) ω;by_cases e:(pagesOn k.G.S f).length=0
 ·rw[za e]
  refine fM 30 [] [(2,8,[21,22,23,24,25,26,27,28])] [(0,0),(0,0)] Tryz.func244 rfl (λu q=>?_) (.inr trivial)
  repeat'(first|refine gB ?_|(conv=>whnf);first|with_reducible (first|refine CL b.1 (aa d) ?_|refine CL b.1 (aa c) ?_)|refine CH (ge k.G.S f a) ⟨⟨rfl,CX k.G.S⟩,⟨rfl,rfl⟩,trivial⟩ ?_|refine CO rfl rfl (aa c) rfl (Z0 rfl) rfl ?_|refine CO rfl rfl (aa d) rfl (Z0 rfl) rfl ?_|refine Mk.mk 16 rfl rfl (by decide) (by decide) rfl ?_)
  refine CF rfl rfl ?_;exact wB
 rw[DE e];refine fM 30 [] [(2,8,[21,22,23,24,25,26,27,28])] [(0,0),(0,0)] Tryz.func244 rfl (λu q=>?_) (.inr trivial)
 repeat'(first|refine gB ?_|(conv=>whnf);first|refine CH (ge k.G.S f a) ⟨⟨rfl,CX k.G.S⟩,⟨rfl,rfl⟩,trivial⟩ ?_)
 refine CF rfl rfl ?_;exact wB
theorem LA(k:af)(p:Int):af.enc .own (rp k p)=[.s .own (k.G.V.W.map (aF .own)),.s .own (k.G.V.a1.map (rB .own)),.s .own ((k.G.S.K.map (bi.enc .own)).set p.toNat (bi.enc .own ⟨0,0⟩)),I k.q,.s .own (k.e.map (rI .own))]:=by grind [T5,rp,af.enc]
theorem JR{k:af}{p:Int}(h:aC k=true):aG.sml (rp k p).G.S:=by
 obtain⟨a,b,c⟩:=bv.1 (aD.1 h).2.2.1;exact⟨by grind [rp],λ_ _=>trivial⟩
theorem rW{h:ac}(a:dw h=true):aC h.M=true/\bf h.H h.J=true/\pages0 h=true/\rm h=true/\b9 h.b=true/\(h.R.all bj=true/\h.R.length=h.b.T.length)/\eP h.a0=true/\eG h=true/\ix h=true/\(holders h).Nodup/\(holders h).length=(ju h.H h.J).length:=by grind [dw,kg,dd,iE]
def fy(n:Nat):aU:=⟨List.replicate n (List.replicate 16 0),List.replicate n false⟩
def eM(n:Nat):aG:=⟨List.replicate n ⟨0,0⟩⟩
def bU(p f:Nat)(a:List Int):af:=⟨⟨fy f,eM p⟩,0,a⟩
def eL:aA:=⟨List.replicate 4 []⟩
def dG(n:Nat):aI:=⟨List.replicate n [],List.replicate n []⟩
def u6(p f t:Nat)(lim:Int)(a:List Int):ac:=⟨bU p f a,[⟨0,p⟩],[],[],[],List.replicate t eL,dG t,⟨16,[]⟩,0,0,lim,1,false,⟨⟨0,0,[]⟩,0,0⟩⟩
theorem dK{α:Type}[Inhabited α]{n j:Nat}{y:α}(a:j<n):nth (List.replicate n y) j=y:=bm ψ
theorem Lo(n:Nat)(f:Int):pagesOn (eM n) f=[]:=by grind [List.filter_eq_nil_iff,dK,pagesOn,jg,eM,LB]
theorem zR{p f:Nat}(c:1<=p/\p<=32)(d:1<=f/\f<=32):aC (bU p f [])=true:=by
 rw[aD];refine⟨λj b=>by grind [bU],bg.2 ⟨by grind [bU,fy],by grind [bU,fy],by grind [bU,fy],λj b=>?_⟩,bv.2 ⟨λj b=>?_,by grind [bU,eM],by grind [bU,eM]⟩,λj b=>?_,by simp[bU],by simp[bU],by simp[bU]⟩
 ·have a:j<f:=by grind [bU,fy]
  rw[show nth (bU p f []).G.V.W j=List.replicate 16 0 from dK a,show nth (bU p f []).G.V.a1 j=false from dK a]
  decide
 all_goals grind [Lo,bU,eM,nth,kM,fy]
def ij(c:aA)(d:aA.sml c):ao Tryz.prog 151 false [.val (some 1) (aA.enc .U c)] .agg (aA.enc .own c):=by
 have g:=d.1;refine fO 26 [(5,10,[13,14,15,16,17,18,19,20,21,22])] Tryz.func151 rfl ?_ (.inr (aA.enc_fr _))
 repeat'(first|refine gP ?_|fail)
 (conv=>whnf)
 refine CE (ι:=Nat) (λi=>[(1,.F .box (aA.enc .U c)),(2,.F .box [.z]),(3,.F .box [.s .own ((c.Z.take i).map (aF .own))]),(4,.F .one [I ((i:Nat):Int)])]) (λi=>i<=c.Z.length) (λi=>c.Z.length - i) (0) ?_ (T0 _) λi h=>?_
 ·exact wB
 by_cases a:i<c.Z.length
 ·have e:=ah a
  have b:(nth c.Z i).length<=1048576:=d.2 _ (am a)
  repeat'(first|refine gE ?_|(conv=>whnf);first|with_reducible refine CA (aa e) ?_|refine CT (λ_=>rfl) (λ_=>rfl) b (by decide) ?_|refine Ap.sn (aM λ_=>rfl) rfl (by simp;omega) (by decide) (jU a) ?_)
  ((conv=>whnf);refine CD (i+1) ω ω ?_;(exact wB))
 repeat'(first|refine gE ?_|fail)
 obtain rfl:i=c.Z.length:=ω
 rw[U4]
 rfl
def eX(m:aI)(b:aI.sml m):ao Tryz.prog 152 false [.val (some 2) (aI.enc .U m)] .agg (aI.enc .own m):=by
 have h:=b.1.1;have g:=b.2.1;refine fO 46 [(5,10,[14,15,16,17,18,19,20,21,22,23]),(9,10,[33,34,35,36,37,38,39,40,41,42])] Tryz.func152 rfl ?_ (.inr (aI.enc_fr _))
 repeat'(first|refine gP ?_|fail)
 (conv=>whnf)
 refine CE (ι:=Nat) (λi=>[(1,.F .box (aI.enc .U m)),(2,.F .box [.z,.z]),(3,.F .box [.s .own ((m.T.take i).map (cY .own)),.z]),(4,.F .one [I ((i:Nat):Int)])]) (λi=>i<=m.T.length) (λi=>m.T.length - i) (0) ?_ (T0 _) λi j=>?_
 ·exact wB
 by_cases c:i<m.T.length
 ·have d:=ah c
  have a:(nth m.T i).length<=1048576:=(b.1.2 _ (am c)).1
  repeat'(first|refine gE ?_|(conv=>whnf);first|with_reducible refine CA (aa d) ?_|refine CT (λ_=>rfl) (λ_=>rfl) a (by decide) ?_|refine Ap.sn (aM λ_=>rfl) rfl (by simp;omega) (by decide) (jU c) ?_)
  ((conv=>whnf);refine CD (i+1) ω ω ?_;(exact wB))
 obtain rfl:i=m.T.length:=ω
 rw[U4]
 repeat'(first|refine gE ?_|fail)
 (conv=>whnf)
 refine CE (ι:=Nat) (λk=>[(1,.F .box (aI.enc .U m)),(2,.F .box [.z,.z]),(3,.F .box [.s .own (m.T.map (cY .own)),.s .own ((m.u.take k).map (aF .own))]),(5,.F .one [I ((k:Nat):Int)])]) (λk=>k<=m.u.length) (λk=>m.u.length - k) (0) ?_ (T0 _) λk l=>?_
 ·exact wB
 by_cases e:k<m.u.length
 ·have d:=ah e
  have a:(nth m.u k).length<=1048576:=b.2.2 _ (am e)
  repeat'(first|refine gE ?_|(conv=>whnf);first|with_reducible refine CA (aa d) ?_|refine CT (λ_=>rfl) (λ_=>rfl) a (by decide) ?_|refine Ap.sn (aM λ_=>rfl) rfl (by simp;omega) (by decide) (jU e) ?_)
  ((conv=>whnf);refine CD (k+1) ω ω ?_;(exact wB))
 repeat'(first|refine gE ?_|fail)
 obtain rfl:k=m.u.length:=ω
 rw[U4]
 rfl
def rq(q:bI)(b:bI.sml q):ao Tryz.prog 153 false [.val (some 2) (bI.enc .U q)] .agg (bI.enc .own q):=by
 have a:q.y.length<=1048576:=b.1;refine fO 10 [(1,6,[3,4,5,6,7,8])] Tryz.func153 rfl ?_ (.inr (bI.enc_fr _))
 repeat'(first|refine gP ?_|(conv=>whnf);first|refine CT (λ_=>rfl) (λ_=>rfl) a (by decide) ?_|refine CR (λ_=>rfl) (λ_=>rfl) a (by decide) ?_)
 rfl
def qw(j:cU)(a:cU.sml j):ao Tryz.prog 154 false [.val (some 5) (cU.enc .U j)] .agg (cU.enc .own j):=by
 have b:j.k.W.length<=1048576:=a;refine fO 11 [] Tryz.func154 rfl ?_ (.inr (cU.enc_fr _))
 repeat'(first|refine gP ?_|(conv=>whnf);first|refine CR (λ_=>rfl) (λ_=>rfl) b (by decide) ?_)
 rfl
def Q6(h:ac)(a:C):List C:=[.s .own (h.M.G.V.W.map (aF .own)),.s .own (h.M.G.V.a1.map (rB .own)),.s .own (h.M.G.S.K.map (bi.enc .own)),I h.M.q,.s .own (h.M.e.map (rI .own)),.s .own (h.o.map (a8.enc .own)),.s .own (h.H.map (ar.enc .own)),.s .own (h.J.map (ay.enc .own)),.s .own (h.O.map (bF.enc .own)),a,.s .U (h.b.T.map (cY .U)),.s .U (h.b.u.map (aF .U)),I h.a0.c2,.s .U (h.a0.y.map (aK.enc .U)),I h.c1,I h.b5,I h.c5,I h.a2,B h.b0,I h.b1.k.b2,I h.b1.k.b3,.s .U (h.b1.k.W.map (rI .U)),I h.b1.b7,I h.b1.a2]
def Qp:List C:=[.z,.z,.z,I 0,.z,.z,.z,.z,.z,.z,.z,.z,I 0,.z,I 0,I 0,I 0,I 0,B false,I 0,I 0,.z,I 0,I 0]
def A9(h:ac)(c:ac.sml h):ao Tryz.prog 97 false [.val (some 24) (ac.enc .U h)] .agg (ac.enc .own h):=by
 obtain⟨d,e,g,j,k,b,l,n,o⟩:=c;have p:=e.1;have q:=g.1;have r:=j.1;have t:=k.1;have w:=b.1;refine fO 61 [] Tryz.func97 rfl ?_ (.inr (ac.enc_fr _))
 repeat'(first|refine gP ?_|(conv=>whnf);first|refine C7 (zE h.M d) ?_|refine CR (λ_=>rfl) (λ_=>rfl) p (by decide) ?_|refine CR (λ_=>rfl) (λ_=>rfl) q (by decide) ?_|refine CR (λ_=>rfl) (λ_=>rfl) r (by decide) ?_|refine CR (λ_=>rfl) (λ_=>rfl) t (by decide) ?_)
 (conv=>whnf)
 refine CE (ι:=Nat) (λi=>[(1,.F .box (Q6 h (.s .U (h.R.map (aA.enc .U))))),(2,.F .box Qp),(3,.F .one ([.s .own ((h.R.take i).map (aA.enc .own))])),(4,.F .one [I ((i:Nat):Int)])]) (λi=>i<=h.R.length) (λi=>h.R.length - i) (0) ?_ (T0 _) λi y=>?_
 ·exact wB
 by_cases a:i<h.R.length
 ·have u:=ah a
  repeat'(first|refine gE ?_|(conv=>whnf);first|with_reducible refine CA (aa u) ?_|refine C7 (ij (nth h.R i) (b.2 _ (am a))) ?_|refine Ap.sn (aM λ_=>rfl) rfl (by simp;omega) (by decide) (jU a) ?_)
  ((conv=>whnf);refine CD (i+1) ω ω ?_;(exact wB))
 obtain rfl:i=h.R.length:=ω
 rw[U4]
 repeat'(first|refine gE ?_|(conv=>whnf);first|refine C7 (eX h.b l) ?_|refine C7 (rq h.a0 n) ?_|refine C7 (qw h.b1 o) ?_)
 rfl
theorem Ap.sm{rows a:List (List C)}{r:List C}{sz by_:Nat}{K:List (List C)->Prop}(h1:∀r∈rows,r.length=sz)(e:r.length=sz)(f:rows.length+1<=1073741824)(b:by_<=1000)(c:a=rows++[r])(d:K a):Ap false rows [r] sz by_ K:=
 CN h1 ψ ψ (by simp;omega) (R4 (Nat.mul_le_mul ω b) (by decide)) c d
def HJ(y:a8)(a:List a8)(r:a8)(out:List a8)(done:Bool):jC (y::a) r out done=if ovl y r then none
  else if y.At+y.a5=r.At then jC a ⟨y.At,y.a5+r.a5⟩ out done
  else if r.At+r.a5=y.At then jC a ⟨r.At,r.a5+y.a5⟩ out done
  else if y.At > r.At/\done=false then jC a r (out++[r,y]) true
  else jC a r (out++[y]) done:=by rw[jC]
theorem Aq{pages:Int}{xs:List a8}(h:bw pages xs=true):iL xs/\∀y∈xs,0<=y.At/\1<=y.a5/\y.At+y.a5<=pages:=by
 unfold bw at h;simp only[I0,C0]at h;have d:∀i,i<xs.length->1<=(nth xs i).a5/\0<=(nth xs i).At/\(nth xs i).At<=pages - (nth xs i).a5:=λi a=>by grind [dP,fD,rangeIn]
 have e:∀i,i+1<xs.length->(nth xs i).At+(nth xs i).a5<(nth xs (i+1)).At:=λi a=>by grind [dP,fD]
 have f:∀j i,i<j->j<xs.length->(nth xs i).At+(nth xs i).a5<(nth xs j).At:=λj=>by
  induction j with
  | zero=>intro i a;omega
  | succ j k=>
   grind
 refine⟨⟨?_,λy g=>?_⟩,λy g=>?_⟩
 ·rw[List.pairwise_iff_getElem]
  intro i j a c b;have:=f j i b c
  rwa [bm (W1 a),bm (W1 c)]at this
 all_goals grind [aY]
theorem jn{α:Type}[Inhabited α]{xs:List α}{i:Nat}(a:i<xs.length):xs.drop i=nth xs i::xs.drop (i+1):=by
 rw[List.drop_eq_getElem_cons a,bm (W1 a)]
def d2(pages:Int)(xs:List a8)(r:a8):Option (List a8):=if bw pages xs=true/\rangeIn pages r=true then jC xs r [] false else none
def FH(xs:List a8)(o:Option (List a8)):List C:=bH .own (o.getD xs)++[B o.isSome]
def sj(xs:List a8)(o:Option (List a8)):gn (FH xs o):=bc (o6 _) ⟨trivial,trivial⟩
theorem uF{α:Type}[Inhabited α](R:Int->Int->Prop)(n:∀a b c,R a b->R b c->R a c)(f:α->Int)(xs:List α):(∀i,i<xs.length->i=0\/R (f (nth xs (i - 1))) (f (nth xs i)))↔xs.Pairwise (λa b=>R (f a) (f b)):=by
 constructor
 ·intro h
  have l:∀j i,i<j->j<xs.length->R (f (nth xs i)) (f (nth xs j)):=λj=>by
   induction j with
   | zero=>intro i d;omega
   | succ j o=>
    grind
  rw[List.pairwise_iff_getElem];intro i j d k g;have:=l j i g k
  rwa [bm (W1 d),bm (W1 k)]at this
 intro h i d;by_cases e:i=0
 ·exact .inl e
 right
 have:=List.pairwise_iff_getElem.1 h (i - 1) i ω d ω
 rwa [<-bm (W1 (show i - 1<xs.length by omega)),<-bm (W1 d)]at this
theorem zn{α:Type}[Inhabited α](f:α->Int)(xs:List α):(∀i,i<xs.length->∀o∈xs.take i,f o≠f (nth xs i))↔(xs.map f).Nodup:=by
 unfold List.Nodup;rw[List.pairwise_map,List.pairwise_iff_getElem];constructor
 ·intro h i j b a c
  have:=h j a xs[i] (List.mem_take_iff_getElem.2 ψ)
  rwa [bm (W1 a)]at this
 intro h i b o d;obtain⟨j,a,rfl⟩:=List.mem_take_iff_getElem.1 d;rw[bm (W1 b)]
 grind
def ew(s:ar)(a:Int):Prop:=16*s.Q<=a/\a<=16*s.Q+15/\(a - 16*s.Q) % csz s.Y=0/\aQ s.a6 ((a - 16*s.Q) / csz s.Y)=true
def iB(sp:List ar)(a c:Int):Prop:=∃s∈sp,ew s a/\(c<0\/s.Y=c)
def QO(la:List ay)(a z:Int):Prop:=∃l∈la,a=16*l.Q/\l.d=z
def LL(sp:List ar)(la:List ay)(o:bF):Prop:=(∃s∈sp,ew s o.X/\s.Y=aJ o.d)\/QO la o.X o.d
def Live(sp:List ar)(la:List ay)(a:Int):Prop:=iB sp a (-1)\/∃l∈la,a=16*l.Q
theorem lT{sp:List ar}{la:List ay}(f:l7 sp la)(a:Int):(∃i,i<sp.length/\(16*(nth sp i).Q<=a/\a<=16*(nth sp i).Q+15)/\denotes sp la a=nu i (nth sp i) a)\/((∀s∈sp,¬(16*s.Q<=a/\a<=16*s.Q+15))/\((∃i,i<la.length/\bx (nth la i) a=true/\denotes sp la a = ⟨3,i,0,a - 16*(nth la i).Q⟩)\/((∀l∈la,bx l a=false)/\denotes sp la a = ⟨0,0,0,0⟩))):=by
 cases d:sp.findIdx? (cL · a) with
 | some i=>
  obtain⟨b,c,-⟩:=I6.1 d;rw[<-bm (W1 b)]at c
  grind [eU,l7.sok,am,denotes]
 | none=>
  have g:=List.findIdx?_eq_none_iff.1 d;refine .inr ⟨λs h j=>?_,?_⟩
  ·grind [eU,l7.sok]
  cases e:la.findIdx? (bx · a) with
  | some i=>
   obtain⟨b,c,-⟩:=I6.1 e;rw[<-bm (W1 b)]at c
   grind [denotes]
  | none=>grind [denotes]
theorem KQ{h:ac}(l:l7 h.H h.J){a c:Int} : cW h a c=true↔iB h.H a c:=by
 unfold cW;simp only[I0,U5,C0];constructor
 ·rintro⟨⟨b,f⟩,d⟩
  rcases lT l a with⟨i,j,k,g⟩|⟨-,⟨i,j,-,g⟩|⟨-,g⟩⟩
  ·rw[g]at b f d
   simp only[nu]at b f d;refine⟨_,am j,⟨k.1,k.2,f,?_⟩,by simpa using d⟩;cases e:aQ (nth h.H i).a6 ((a - 16*(nth h.H i).Q) / csz (nth h.H i).Y) with
   | true=>rfl
   | false=>rw[e]at b;simp at b
  all_goals grind
 rintro⟨s,n,⟨o,p,q,r⟩,d⟩
 grind [aY,iU,nu]
theorem uU{sp:List ar}{la:List ay}(a:l7 sp la){l:ay}(c:l∈la):(∀s∈sp,¬(16*s.Q<=16*l.Q/\16*l.Q<=16*s.Q+15))/\bx l (16*l.Q)=true/\∀i,i<la.length->bx (nth la i) (16*l.Q)=true->nth la i=l:=by
 have k:=aN (a.lok _ c);have f:=bR (a.lok _ c);refine⟨λs g n=>?_,?_,λi d e=>?_⟩
 ·exact a.dis s g l c 0 ω ω
 ·grind [l7.lok,bx]
 obtain⟨j,h,rfl⟩:=aY c;have o:=aN (a.lok _ (am d));have b:=a.lok _ (am d);unfold bP at b;rw[C0]at b;unfold bx at e;rw[I0,C0]at e;rw[a.one i j d h ((nth la j).Q - (nth la i).Q).toNat 0 ω ω ω]
theorem Km{h:ac}(f:l7 h.H h.J){o:bF} : ig h o=true↔LL h.H h.J o:=by
 unfold ig;simp only[I0,U5,C0];constructor
 ·rintro⟨b,a⟩
  rcases lT f o.X with⟨i,d,g,c⟩|⟨-,⟨i,d,-,c⟩|⟨-,c⟩⟩
  ·rw[c]at a b
   simp only[nu]at a b;have e:aQ (nth h.H i).a6 ((o.X - 16*(nth h.H i).Q) / csz (nth h.H i).Y)=true:=ψ
   rw[e]at a;exact .inl ⟨_,am d,⟨g.1,g.2,b,e⟩,by simpa using a⟩
  ·rw[c]at a b
   simp only at a b;exact .inr ⟨_,am d,ω,by simpa using a⟩
  grind
 rintro(⟨s,e,⟨k,n,p,q⟩,r⟩|⟨l,j,t,u⟩)
 ·grind [aY,iU,nu]
 obtain⟨w,y,A⟩:=uU f j
 grind [lT,am]
theorem Du{sp:List ar}{la:List ay}(j:l7 sp la)(a:Int):a∈ju sp la↔Live sp la a:=by
 constructor
 ·intro h
  unfold ju kU at h;obtain⟨n,o,rfl⟩:=X3.1 h;have c:=(Y3.1 o).2;unfold j9 at c;simp only[I0,U5,C0]at c;obtain⟨b,d⟩:=c;rcases lT j (n:Int) with⟨i,g,k,f⟩|⟨-,⟨i,g,-,f⟩|⟨-,f⟩⟩
  ·rw[f]at d b
   simp only[nu]at d b;refine .inl ⟨_,am g,⟨k.1,k.2,b,?_⟩,.inl ω⟩;cases e:aQ (nth sp i).a6 (((n:Int) - 16*(nth sp i).Q) / csz (nth sp i).Y) with
   | true=>rfl
   | false=>rw[e]at d;simp at d
  ·rw[f]at b
   simp only at b;exact .inr ⟨_,am g,ω⟩
  grind
 rintro(⟨s,q,⟨r,c,t,u⟩,-⟩|⟨l,p,rfl⟩)
 ·grind [aY,iU,uL,nu]
 obtain⟨w,y,A⟩:=uU j p
 grind [lT,am,uL]
def RH(xs:List a8)(p:Int):Prop:=∃r∈xs,r.At<=p/\p<r.At+r.a5
theorem eS{pages:Int}{xs:List a8} : bw pages xs=true↔iL xs/\(∀y∈xs,0<=y.At/\1<=y.a5/\y.At+y.a5<=pages)/\1<=pages/\pages<=32:=by
 constructor
 ·grind [Aq,bw]
 rintro⟨b,c,d⟩
 unfold bw;simp only[I0,C0];refine⟨cm.2 λi a=>?_,d⟩;have f:=c _ (am a);unfold fD rangeIn;simp only[I0,C0];refine⟨ω,?_⟩;by_cases e:i=0
 ·exact .inl e
 right
 have:=List.pairwise_iff_getElem.1 b.1 (i - 1) i ω a ω
 rwa [<-bm (W1 (show i - 1<xs.length by omega)),<-bm (W1 a)]at this
theorem BJ{pages:Int}{xs:List a8}(h:bw pages xs=true)(p:Int):xs.any (tU p)=true↔RH xs p:=by
 obtain⟨-,c,d⟩:=eS.1 h;rw[R3];refine⟨λ⟨r,a,b⟩=>⟨r,a,?_⟩,λ⟨r,a,b⟩=>⟨r,a,?_⟩⟩
 all_goals grind [ed,tU]
theorem uD(i:Int):∀(f:List a8)(r:a8)(out:List a8),iL f->1<=r.a5->(∀y∈f,ovl y r=false)->(∀z∈out,z.At+z.a5<r.At/\∀y∈f,z.At+z.a5<y.At)->iL out->(∀y∈r::(out++f),0<=y.At/\y.At+y.a5<=i)->∃o,jC f r out false=some o/\iL o/\(∀y∈o,0<=y.At/\y.At+y.a5<=i)/\∀p,RH o p↔RH out p\/RH f p\/(r.At<=p/\p<r.At+r.a5)
 | [],r,out,_,l,_,D,g,j=>by
  refine⟨out++[r],by simp[jC],⟨List.pairwise_append.2 ⟨g.1,List.pairwise_singleton ..,ψ⟩,λy k=>?_⟩,ψ,λp=>by grind [RH]⟩;rcases R2.1 k with k|k
  ·exact g.2 y k
  grind
 | y::f,r,out,c,l,E,D,g,j=>by
  have M:=c.2 y ψ;have h:=E y ψ;have F:=c.head;have G:=j y (by simp);have H:=j r (by simp);have J:∀w∈f,¬(w.At<r.At+r.a5/\r.At<w.At+w.a5):=λw d=>by grind [ovl]
  have K:∀w∈f,1<=w.a5:=λw d=>c.2 w ψ
  rw[HJ,C9 (by rw[h];simp)];unfold ovl at h;rw[I4]at h;by_cases n:y.At+y.a5=r.At
  ·rw[CB n]
   obtain⟨o,q,t,u,A⟩:=uD i f ⟨y.At,y.a5+r.a5⟩ out c.tail (by simp only;omega) (λw d=>by grind [ovl]) ψ g ψ
   grind [RH]
  rw[C9 n];by_cases B:r.At+r.a5=y.At
  ·rw[CB B]
   obtain⟨o,q,t,u,A⟩:=uD i f ⟨r.At,r.a5+y.a5⟩ out c.tail (by simp only;omega) (λw d=>by grind [ovl]) ψ g ψ
   grind [RH]
  rw[C9 B];by_cases C:y.At > r.At
  ·have L:r.At+r.a5<y.At:=ω
   rw[CB ⟨C,rfl⟩,oG c.tail l ψ];refine⟨_,rfl,⟨?_,λw d=>?_⟩,ψ,λp=>by grind [RH]⟩
   ·rw[Z4]
    refine List.pairwise_append.2 ⟨g.1,?_,λa N b j=>?_⟩
    ·show(r::y::f).Pairwise _
     refine List.pairwise_cons.2 ⟨λw d=>?_,c.1⟩
     grind
    grind
   simp only[R2,List.mem_cons,List.not_mem_nil,or_false]at d;rcases d with(d|rfl|rfl)|d
   ·exact g.2 w d
   all_goals grind
  rw[C9 λe=>C e.1];obtain⟨o,q,t,u,A⟩:=uD i f r (out++[y]) c.tail l ψ ψ ⟨List.pairwise_append.2 ⟨g.1,List.pairwise_singleton ..,ψ⟩,λw d=>by
      rcases R2.1 d with d|d
      · exact g.2 w d
      grind⟩ ψ
  grind [RH]
theorem tG{pages:Int}{xs:List a8}{r:a8}(h:bw pages xs=true)(i:0<=r.At/\1<=r.a5/\r.At+r.a5<=pages)(c:∀p,r.At<=p->p<r.At+r.a5->¬RH xs p):∃o,d2 pages xs r=some o/\bw pages o=true/\∀p,RH o p↔RH xs p\/(r.At<=p/\p<r.At+r.a5):=by
 obtain⟨j,k,l⟩:=eS.1 h;have b:rangeIn pages r=true:=by grind [rangeIn]
 unfold d2;rw[CB ⟨h,b⟩];obtain⟨o,n,d,f,q⟩:=uD pages xs r [] j i.2.1 (λy a=>by
   have:=k y a;unfold ovl;rw[I4];intro g;by_cases e:r.At<=y.At
   · exact c y.At e g.1 ⟨y,a,ω,ω⟩
   exact c r.At ω ω ⟨y,a,ω,g.2⟩) ψ ⟨List.Pairwise.nil,ψ⟩ ψ
 refine⟨o,n,eS.2 ⟨d,λy a=>⟨(f y a).1,d.2 y a,(f y a).2⟩,l⟩,λp=>?_⟩
 grind [RH]
structure Pg(t:aG)(fr:List a8)(sp:List ar)(la:List ay):Prop where
 one:∀l∈la,∀p:Nat,(p:Int)∈lpgs l l.a3.toNat->∀q:Nat,q<t.K.length->(nth t.K q).w≠0->(nth t.K q).j=(nth t.K p).j->q=p
 bnd:∀p∈pgs sp la,p<t.K.length
 own:∀p:Nat,p<t.K.length->((nth t.K p).w≠0↔(p:Int)∈pgs sp la)
 fre:∀p:Nat,p<t.K.length->((nth t.K p).w≠0↔¬RH fr p)
 mesh:∀s∈sp,∀u∈sp,s.Q≠u.Q->(nth t.K s.Q.toNat).j=(nth t.K u.Q.toNat).j->meshable s u=true
structure aR(h:ac)(E:List Int):Prop where
 ker:aC h.M=true
 rng:bw (dC h) h.o=true
 lay:bf h.H h.J=true
 srs:h.H.Pairwise λa b=>a.Q<b.Q
 srl:h.J.Pairwise λa b=>a.Q<b.Q
 pg:Pg (tbl h) h.o h.H h.J
 mail:b9 h.b=true
 nc:h.R.length=h.b.T.length
 quar:eP h.a0=true
 snc:∀x∈h.a0.y,x.c0<=h.b5
 cach:∀c∈h.R,bj c=true
 nums:cr h=true
 osr:h.O.Pairwise λa b=>a.X<b.X
 onu:∀o∈h.O,1<=o.Id/\o.Id<=h.a2 - 1/\0<=o.a4/\o.a4<=h.R.length - 1
 oid:(h.O.map (·.Id)).Nodup
 oow:∀o∈h.O,LL h.H h.J o
 hca:∀c∈h.R,∀k:Nat,k<c.Z.length->∀a∈nth c.Z k,iB h.H a k
 hqu:∀x∈h.a0.y,iB h.H x.X x.Y
 hfl:∀a∈a9 h.b,iB h.H a (-1)
 hin:∀a∈E,iB h.H a (-1)
 nd:(E++holders h).Nodup
 mem:∀a,a∈E++holders h↔Live h.H h.J a
 job:h.b0=true->jj h.b1=true/\(∃s∈h.H,s.Q=h.b1.k.b2)/\∃s∈h.H,s.Q=h.b1.k.b3
 noj:h.b0=false->qF h.b1=true
theorem aR.L{h:ac}{E:List Int}(a:aR h E):l7 h.H h.J:=l7.of a.lay
theorem xx(t:aG)(f:Int):(pagesOn t f).Nodup:=by grind [List.nodup_range,pagesOn,jg]
def MQ{l:List Int}{a:Int}(b:l.Nodup)(d:a∈l)(c:∀x∈l,x=a):l.length=1:=by
 match l with
 | []=>cases d
 | [_]=>rfl
 | x::y::r=>
  exfalso;have e:=c x (by simp);have f:=c y (by simp);rw[e,f]at b;simp at b
theorem d6{sp:List ar}{la:List ay}{s:ar}(a:s∈sp):s.Q∈pgs sp la:=by grind [pgs]
theorem fk{sp:List ar}{la:List ay}{l:ay}(a:l∈la){p:Int}(b:p∈lpgs l l.a3.toNat):p∈pgs sp la:=by grind [pgs]
theorem Qt{h:ac}(b:bf h.H h.J=true)(N:bw (dC h) h.o=true)(A:pages0 h=true)(r:og h=true):Pg (tbl h) h.o h.H h.J:=by
 have B:=l7.of b;obtain⟨C,D,t⟩:=rv A;have E:∀p:Nat,p<dC h->((nth (tbl h).K p).w≠0↔¬RH h.o p):=λp a=>by grind [dP,BJ,pages0,tX]
 refine⟨λl w p c q F e f=>?_,D,t,E,λs G u H J O=>?_⟩
 ·obtain⟨i,y,rfl⟩:=aY w
  obtain⟨k,g,n⟩:=dq.1 c;have a:p<dC h:=by grind [fk]
  have d:=(t p a).2 (fk w c);have K:=C i y k g;rw[<-n,eB a d]at K;have P:(p:Int)∈pagesOn (tbl h) (nth (tbl h).K p).j:=dx.2 ⟨a,d,rfl⟩;have Q:(q:Int)∈pagesOn (tbl h) (nth (tbl h).K p).j:=dx.2 ⟨F,e,f⟩
  grind [List.length_eq_one_iff]
 obtain⟨i,y,rfl⟩:=aY G;obtain⟨j,R,rfl⟩:=aY H;have L:∀k,k<h.H.length->au (tbl h) (nth h.H k).Q=nth (tbl h).K (nth h.H k).Q.toNat:=λk g=>by
  have S:=aB (B.sok _ (am g))
  grind [d6,zm,nth]
 unfold og at r;rw[cm]at r;rcases Nat.lt_trichotomy i j with o|M|o
 all_goals grind [dP,iM,lC]
theorem yu(sp:List ar):cV sp.length (vX sp)=true↔sp.Pairwise λa b=>a.Q<b.Q:=by
 rw[cm];refine Iff.trans ?_ (uF (λa b:Int=>a<b) ω (λs:ar=>s.Q) sp)
 grind [vX]
theorem yO(la:List ay):cV la.length (vf la)=true↔la.Pairwise λa b=>a.Q<b.Q:=by
 rw[cm];refine Iff.trans ?_ (uF (λa b:Int=>a<b) ω (λs:ay=>s.Q) la)
 grind [vf]
theorem Qs{h:ac}(o:bf h.H h.J=true)(C:bw (dC h) h.o=true)(h1:h.H.Pairwise λa b=>a.Q<b.Q)(A:h.J.Pairwise λa b=>a.Q<b.Q)(c:Pg (tbl h) h.o h.H h.J):pages0 h=true/\og h=true:=by
 have u:=l7.of o;constructor
 ·unfold pages0
  simp only[I0];refine⟨⟨⟨(yu _).2 h1,cm.2 λi l=>?_⟩,T3.2 λp n=>O0 (c.bnd p n)⟩,cm.2 λp n=>?_⟩
  ·unfold qO
   rw[I0];refine⟨dP ((yO _).2 A) l,cm.2 λk w=>?_⟩;have y:=am l;have D:=aN (u.lok _ y);obtain⟨p,n⟩ : ∃p:Nat,(nth h.J i).Q+(k:Nat)=(p:Nat):=⟨((nth h.J i).Q+k).toNat,ω⟩
   have q:(p:Int)∈lpgs (nth h.J i) (nth h.J i).a3.toNat:=dq.2 ψ;have d:p<dC h:=by have:=c.bnd _ (fk (sp:=h.H) y q);exact Int.ofNat_lt.1 this
   have r:=(c.own p d).2 (fk y q);unfold wv;rw[C0,n,eB d r];refine MQ (xx ..) (dx.2 ⟨d,r,rfl⟩) λx E=>?_
   grind [nA,dx,Pg.one]
  unfold tX;rw[I0,C0];refine⟨c.own p n,?_⟩;have F:=c.fre p n
  grind [BJ]
 unfold og;refine cm.2 λi l=>cm.2 λj G=>?_
 have g:j<h.H.length:=ω
 have t:∀k,k<h.H.length->au (tbl h) (nth h.H k).Q=nth (tbl h).K (nth h.H k).Q.toNat:=λk w=>by
  have H:=aB (u.sok _ (am w));have J:=c.bnd _ (d6 (la:=h.J) (am w))
  grind [zm,dC,tbl]
 unfold lC;rw[t i l,t j g,U5,C0];by_cases e:(nth (tbl h).K (nth h.H i).Q.toNat).j=(nth (tbl h).K (nth h.H j).Q.toNat).j
 ·refine .inr (c.mesh _ (am l) _ (am g) (λB=>?_) e)
  have:=g9 (f:=(·.Q)) u.nd l g B;omega
 exact .inl e
theorem De{h:ac}(c:cr h=true)(d:l7 h.H h.J):eG h=true↔(h.O.Pairwise λa b=>a.X<b.X)/\(∀o∈h.O,1<=o.Id/\o.Id<=h.a2 - 1/\0<=o.a4/\o.a4<=h.R.length - 1)/\(h.O.map (·.Id)).Nodup/\∀o∈h.O,LL h.H h.J o:=by
 unfold cr at c;rw[C0]at c;refine Iff.trans ?_ (and_congr (uF (λa b:Int=>a<b) ω (λo:bF=>o.X) h.O) (and_congr Iff.rfl (and_congr (zn (λo:bF=>o.Id) h.O) Iff.rfl)));unfold eG;rw[ed ω ω,cm];have e:∀i,i<h.O.length->(objAt (h.a2 - 1) h i=true↔(i=0\/(nth h.O (i - 1)).X<(nth h.O i).X)/\(1<=(nth h.O i).Id/\(nth h.O i).Id<=h.a2 - 1/\0<=(nth h.O i).a4/\(nth h.O i).a4<=h.R.length - 1)/\(∀o∈h.O.take i,o.Id≠(nth h.O i).Id)/\LL h.H h.J (nth h.O i)):=λi f=>by grind [Km,objAt,gi,jA]
 grind [aY,am]
def xg{h:ac}(b:l7 h.H h.J):ix h=true↔(∀c∈h.R,∀k:Nat,k<c.Z.length->∀a∈nth c.Z k,iB h.H a k)/\(∀x∈h.a0.y,iB h.H x.X x.Y)/\∀a∈a9 h.b,iB h.H a (-1):=by
 rw[kR];simp only[T3,dS,cm,qy,gx,jc,KQ b,and_assoc]
theorem GF{p:Int}{h:ac} : 0<=dN h p↔∃s∈h.H,s.Q=p:=by grind [dN,d7,kn]
theorem aR.of{h:ac}(g:dw h=true):aR h []:=by
 unfold dw kg at g;simp only[I0]at g;obtain⟨⟨⟨⟨⟨⟨⟨⟨⟨⟨r,l⟩,e⟩,j⟩,n⟩,c⟩,t⟩,H⟩,o⟩,k,b⟩,d⟩:=g;have p:=l7.of e;rw[sN e j]at n;have f:=j;unfold pages0 at f;simp only[I0]at f;unfold dd at c;simp only[I0,C0]at c;unfold iE at b;simp only[I0,C0]at b;obtain⟨⟨u,w⟩,J⟩:=b;obtain⟨y,A,B,C⟩:=(De o p).1 k;obtain⟨D,E,F⟩:=(xg p).1 u;unfold kV at t;have G:=cm.1 f.1.1.2;refine⟨r,l,e,(yu _).1 f.1.1.1,(yO _).1 (cm.2 λi K=>?_),Qt e l j n,c.1.1,c.1.2,c.2,ψ,ψ,o,y,A,B,C,D,E,F,ψ,(by simpa using w),λa=>?_,λq=>?_,λq=>?_⟩
 ·grind [qO]
 ·grind [Du,ry,qn]
 ·unfold qz at d
  rw[CB q]at d
  grind [GF]
 grind [qz]
theorem aR.to{h:ac}(b:aR h []):dw h=true:=by
 have c:=b.L;obtain⟨e,g⟩:=Qs b.lay b.rng b.srs b.srl b.pg;have d:=(De b.nums c).2 ⟨b.osr,b.onu,b.oid,b.oow⟩;have f:=(xg c).2 ⟨b.hca,b.hqu,b.hfl⟩;unfold dw kg;simp only[I0];refine⟨⟨⟨⟨⟨⟨⟨⟨⟨⟨b.ker,b.rng⟩,b.lay⟩,e⟩,by grind [sN,aR.lay]⟩,?_⟩,?_⟩,T3.2 b.cach⟩,b.nums⟩,d,?_⟩,?_⟩
 ·grind [aR.mail,aR.quar,aR.nc,dd]
 ·grind [aR.snc,kV]
 ·unfold iE
  have i:(holders h).Nodup:=by simpa using b.nd
  have j:∀a,a∈holders h↔a∈ju h.H h.J:=λa=>by rw[Du c,<-b.mem a];simp
  grind [tn,List.Perm.length_eq]
 grind [aR.job,GF,aR.noj,qz]
def dele{α:Type}(xs:List α)(i:Nat):List α:=xs.take i++xs.drop (i+1)
theorem fm{α:Type}(xs:List α)(i:Nat):(dele xs i).Sublist xs:=by
 unfold dele;rw[<-List.eraseIdx_eq_take_drop_succ];grind
theorem yB{α:Type}[Inhabited α]{xs:List α}{i:Nat}(a:i<xs.length):xs.Perm (nth xs i::dele xs i):=by
 have:xs=xs.take i++nth xs i::xs.drop (i+1):=by grind [jn,List.take_append_drop]
 conv=>lhs;rw[this]
 exact List.perm_middle
theorem iA{α:Type}[Inhabited α](f:α->List Int)(a:Int):∀(xs:List α)(i:Nat)(y:α),i<xs.length->((xs.set i y).flatMap f).count a+(f (nth xs i)).count a=(xs.flatMap f).count a+(f y).count a
 | [],i,_,h=>by cases h
 | x::xs,0,y,_=>by
  show((y::xs).flatMap f).count a+(f x).count a=((x::xs).flatMap f).count a+(f y).count a
  grind
 | x::xs,i+1,y,h=>by
  have:=iA f a xs i y (by simpa using h);show((x::xs.set i y).flatMap f).count a+(f (nth xs i)).count a=((x::xs).flatMap f).count a+(f y).count a
  grind
theorem ka(a:List (List Int)):a.flatten=a.flatMap λx=>x:=by simp_all
theorem iB.any{sp:List ar}{a c:Int}(h:iB sp a c):iB sp a (-1):=by
 obtain⟨s,b,d,-⟩:=h;exact⟨s,b,d,.inl (by decide)⟩
def aR.cells{h:ac}{E:List Int}(a:aR h E){k:af}(c:aC k=true)(b:k.G.S=h.M.G.S):aR {h with M:=k} E:=
 {a with
   ker:=c
   rng:=by show bw ((k.G.S.K.length:Nat):Int) h.o=true;rw[b];exact a.rng
   pg:=by show Pg k.G.S h.o h.H h.J;rw[b];exact a.pg}
theorem aR.dropO{h:ac}{E:List Int}{i:Nat}(b:aR h E)(e:i<h.O.length)(j:iB h.H (nth h.O i).X (-1)):aR {h with O:=dele h.O i} ((nth h.O i).X::E):=by
 have f:(E++holders h).Perm (((nth h.O i).X::E)++holders {h with O:=dele h.O i}):=by
  have g:=(yB e).map (·.X);refine List.perm_iff_count.2 λa=>?_
  have k:=g.count_eq a
  grind [holders,ci]
 have c:(dele h.O i).Sublist h.O:=fm ..;exact {b with
   osr:=b.osr.sublist c
   onu:=λo d=>b.onu o (c.subset d)
   oid:=b.oid.sublist (c.map _)
   oow:=λo d=>b.oow o (c.subset d)
   hin:=λa l=>by grind [aR.hin]
   nd:=f.nodup_iff.1 b.nd
   mem:=λa=>by grind [aR.mem]}
def nP(c:aA)(k:Nat)(a:Int):aA:=⟨c.Z.set k (nth c.Z k++[a])⟩
theorem aR.put{h:ac}{E:List Int}{a:Int}{t k:Nat}(e:aR h (a::E))(f:t<h.R.length)(g:k<(nth h.R t).Z.length)(p:iB h.H a k)(q:bj (nP (nth h.R t) k a)=true):aR {h with R:=h.R.set t (nP (nth h.R t) k a)} E:=by
 have i:(a::E++holders h).Perm (E++holders {h with R:=h.R.set t (nP (nth h.R t) k a)}):=by
  refine List.perm_iff_count.2 λb=>?_
  have r:=iA (λc:aA=>c.Z.flatten) b h.R t (nP (nth h.R t) k a) f;have l:=iA (λx:List Int=>x) b (nth h.R t).Z k (nth (nth h.R t).Z k++[a]) g;rw[<-ka,<-ka]at l
  grind [nP,holders,ci]
 exact {e with
   nc:=by grind [aR.nc]
   cach:=λc d=>by grind [aR.cach]
   onu:=by show ∀o∈h.O,1<=o.Id/\o.Id<=h.a2 - 1/\0<=o.a4/\o.a4<=(h.R.set t _).length - 1;rw[I1];exact e.onu
   hca:=λc d j u b n=>by
     rcases W5 d with d|rfl
     all_goals grind [aR.hca,cP,am,nP]
   hin:=λb n=>e.hin b ψ
   nd:=i.nodup_iff.1 e.nd
   mem:=λb=>by grind [aR.mem]}
theorem aR.toQuar{h:ac}{E:List Int}{x:aK}{q:bI}{out:List aK}(c:aR h (x.X::E))(f:eP q=true)(d:h.a0.y++[x]=out++q.y)(j:x.c0<=h.b5)(k:iB h.H x.X x.Y):aR {h with a0:=q} (out.map (·.X)++E):=by
 have e:∀y∈out++q.y,y.c0<=h.b5/\iB h.H y.X y.Y:=λy a=>by
  rw[<-d]at a;rcases R2.1 a with a|a
  ·exact⟨c.snc y a,c.hqu y a⟩
  grind
 have g:(x.X::E++holders h).Perm ((out.map (·.X)++E)++holders {h with a0:=q}):=by
  refine List.perm_iff_count.2 λb=>?_
  have i:=U0 (λl:List aK=>(l.map (·.X)).count b) d;simp only[C5,R5,O5,List.map_nil,List.count_singleton]at i
  grind [holders,ci]
 exact {c with
   quar:=f
   snc:=(ψ)
   hqu:=(ψ)
   hin:=λb n=>by grind [iB.any,aR.hin]
   nd:=g.nodup_iff.1 c.nd
   mem:=λb=>by grind [aR.mem]}
def xJ(b i:Int):Int:=((BitVec.ofInt IntKind.i64.bits b &&& ~~~BitVec.ofInt IntKind.i64.bits (2 ^ i.toNat)).toNat:Nat)
def mZ(s:ar)(i:Int):ar:={s with a6:=xJ s.a6 i}
theorem jq(b i:Int):aQ b i=true↔0<=b/\0<=i/\i<=15/\b.toNat.testBit i.toNat=true:=by grind [aQ]
theorem Bw{b i:Int}(d:0<=b/\b<=65535)(a:0<=i/\i<=15)(j:Nat):(xJ b i).toNat.testBit j=(b.toNat.testBit j&&decide (i.toNat≠j)):=by
 have e:(2:Int) ^ i.toNat<=32768/\0<=(2:Int) ^ i.toNat:=by
  obtain⟨n,rfl⟩:=O2 a.1;rw[I2];have:(2:Nat) ^ n<=2 ^ 15:=Nat.pow_le_pow_right (by decide) ω
  grind
 unfold xJ;rw[I2,BitVec.testBit_toNat,BitVec.getLsbD_and,BitVec.getLsbD_not,<-BitVec.testBit_toNat,<-BitVec.testBit_toNat,oA ω,oA ω];rw[show((2:Int) ^ i.toNat).toNat=2 ^ i.toNat by rw[show(2:Int) ^ i.toNat=((2 ^ i.toNat:Nat):Int) by norm_cast,I2],Nat.testBit_two_pow];by_cases c:j<64
 ·rw[show decide (j<IntKind.i64.bits)=true from O0 c,Bool.true_and]
  grind
 rw[Nat.testBit_lt_two_pow (x:=b.toNat) (i:=j) (O3 (show b.toNat<2 ^ 16 by omega) (Nat.pow_le_pow_right (by decide) ω))]
 rfl
theorem AR{b i:Int}(a:0<=b/\b<=65535):0<=xJ b i/\xJ b i<=b:=by grind [oA,Nat.and_le_left,xJ]
theorem Kj{b i:Int}(a:0<=b/\b<=65535)(c:0<=i/\i<=15)(j:Int):aQ (xJ b i) j=true↔aQ b j=true/\j≠i:=by grind [jq,Bw,AR]
theorem ep{s:ar}(h:aT s=true):0<=s.a6/\s.a6<=65535:=by
 unfold aT at h;simp only[C0]at h;have:=Fe s.Y;omega
theorem GJ{s:ar}(h:aT s=true)(i:Int):aT (mZ s i)=true:=by
 have b:=ep h;have a:=AR (i:=i) b;unfold aT at h;rw[C0]at h;obtain⟨c,d,e,f,j,g⟩:=h;exact O0 ⟨c,d,e,f,a.1,Int.le_trans a.2 g⟩
theorem zt{s u:ar}(e:aT s=true){i:Int}(f:0<=i/\i<=15)(h:meshable s u=true):meshable (mZ s i) u=true:=by
 unfold meshable at h |-;simp only[I0,C0]at h |-;obtain⟨⟨a,b⟩,c,d,g⟩:=h;refine⟨⟨GJ a i,b⟩,c,d,?_⟩;refine Nat.eq_of_testBit_eq λj=>?_
 grind [Bw,ep,mZ]
def dR(s:ar)(a:Int):Int:=(a - 16*s.Q) / csz s.Y
theorem sK{s:ar}(h:aT s=true){a:Int}(b:16*s.Q<=a/\a<=16*s.Q+15):0<=dR s a/\dR s a<=15:=by
 have c:=aB h
 grind [bW,dR]
theorem FE{s:ar}(h:aT s=true){a b:Int}(c:(a - 16*s.Q) % csz s.Y=0)(d:(b - 16*s.Q) % csz s.Y=0)(e:dR s a=dR s b):a=b:=by
 have f:=aB h
 grind [bW,dR]
theorem yE{s:ar}(h:aT s=true){a:Int}(k:ew s a)(b:Int):ew (mZ s (dR s a)) b↔ew s b/\b≠a:=by
 obtain⟨l,n,o,p⟩:=k;have c:=sK h ⟨l,n⟩;unfold ew;simp only[mZ];rw[Kj (ep h) c];constructor
 ·rintro⟨g,i,d,j,f⟩
  exact⟨ψ,λe=>f (by rw[e];rfl)⟩
 rintro⟨⟨g,i,d,j⟩,f⟩
 exact⟨g,i,d,j,λe=>f (FE h d o e)⟩
theorem gV{α:Type}[Inhabited α]{xs:List α}{i:Nat}{y z:α}(h:z∈xs.set i y):z=y\/∃j,j<xs.length/\j≠i/\nth xs j=z:=by
 obtain⟨j,a,rfl⟩:=List.mem_iff_getElem.1 h;rw[List.getElem_set];by_cases e:i=j
 ·subst e;simp
 rw[C9 e];rw[I1]at a;exact .inr ⟨j,a,λx=>e x.symm,bm ψ⟩
theorem jf{α:Type}[Inhabited α]{xs:List α}{i j:Nat}(y:α)(a:j<xs.length)(e:j≠i):nth xs j∈xs.set i y:=by
 have:nth (xs.set i y) j=nth xs j:=by grind [cP]
 grind [am]
theorem iq{α:Type}{xs:List α}{i:Nat}(y:α)(a:i<xs.length):y∈xs.set i y:=by grind [List.mem_iff_getElem]
def JU{sp:List ar}{i:Nat}(k:Int)(a:i<sp.length):(sp.set i (mZ (nth sp i) k)).map (·.Q)=sp.map (·.Q):=by
 rw[T5];refine List.ext_getElem (by simp) λj b c=>?_
 rw[List.getElem_set];split
 ·rename_i e;subst e
  rw[List.getElem_map];show(nth sp i).Q=_;rw[bm (W1 a)]
 rfl
def iB.set{sp:List ar}{la:List ay}(q:l7 sp la){i:Nat}(k:i<sp.length){a:Int}(l:ew (nth sp i) a)(b c:Int):iB (sp.set i (mZ (nth sp i) (dR (nth sp i) a))) b c↔iB sp b c/\b≠a:=by
 have g:=q.sok _ (am k);constructor
 ·rintro⟨s,o,d,h⟩
  rcases gV o with rfl|⟨j,n,r,rfl⟩
  ·have:=(yE g l b).1 d
   exact⟨⟨_,am k,this.1,h⟩,this.2⟩
  refine⟨⟨_,am n,d,h⟩,λe=>?_⟩;subst e;have:=g9 (f:=(·.Q)) q.nd k n (by have t:=l.1;have u:=l.2.1;have w:=d.1;have y:=d.2.1;omega);omega
 rintro⟨⟨s,o,d,h⟩,p⟩
 obtain⟨j,n,rfl⟩:=aY o;by_cases e:j=i
 ·subst e
  exact⟨_,iq _ k,(yE g l b).2 ⟨d,p⟩,h⟩
 exact⟨_,jf _ n e,d,h⟩
theorem aR.give{h:ac}{E:List Int}{a:Int}{i:Nat}(d:aR h (a::E))(t:i<h.H.length)(w:ew (nth h.H i) a):aR {h with H:=h.H.set i (mZ (nth h.H i) (dR (nth h.H i) a))} E:=by
 have B:=d.L;have G:=B.sok _ (am t);have O:=sK G ⟨w.1,w.2.1⟩;have f:=λb c=>iB.set B t w b c
 have H:=JU (dR (nth h.H i) a) t;generalize J:h.H.set i (mZ (nth h.H i) (dR (nth h.H i) a))=sp at f H;have p:pgs sp h.J=pgs h.H h.J:=by grind [pgs]
 have g:=d.nd;rw[List.cons_append]at g;obtain⟨P,g⟩:=List.nodup_cons.1 g;have y:∀b,b∈E++holders h->b≠a:=ψ
 have n:∀b,b∈holders h->b≠a:=ψ
 have Q:∀l∈h.J,16*l.Q≠a:=λl R e=>(uU B R).1 _ (am t) (by have a1:=w.1;have a2:=w.2.1;omega)
 have q:∀s∈sp,∃u∈h.H,u.Q=s.Q/\(s=u\/s=mZ u (dR (nth h.H i) a)):=λs r=>by
  rw[<-J]at r;rcases gV r with rfl|⟨j,hj,S,rfl⟩
  ·exact⟨_,am t,rfl,.inr rfl⟩
  grind [am]
 have T:∀u∈h.H,∃s∈sp,s.Q=u.Q:=λu C=>by
  have:u.Q∈sp.map (·.Q):=ψ
  grind
 exact {d with
   lay:=by grind [aR.lay,GJ,bf]
   srs:=by
     have A:(h.H.map (·.Q)).Pairwise (λa b=>a<b):=List.pairwise_map.2 d.srs
     grind
   pg:=⟨d.pg.one,by rw[p];exact d.pg.bnd,by rw[p];exact d.pg.own,d.pg.fre,λs r u C y U=>by
     obtain⟨V,K,W,X⟩:=q s r;obtain⟨Y,M,Z,hu2⟩:=q u C;have A:=d.pg.mesh V K Y M ω (by rw[W,Z];exact U)
     grind [zt,l7.sok,iM]⟩
   oow:=λo ho=>by
     have N:o.X≠a:=n _ (by grind [holders]);rcases d.oow o ho with⟨s,r,A,h2⟩|A
     · obtain⟨u,C,g1,D⟩:=(f o.X (aJ o.d)).2 ⟨⟨s,r,A,.inr h2⟩,N⟩
       refine .inl ⟨u,C,g1,?_⟩;rcases D with D|D
       · have:=aB (B.sok _ r);omega
       exact D
     exact .inr A
   hca:=λc hc k hk b F=>(f b k).2 ⟨d.hca c hc k hk b F,n b (by
     unfold holders ci;grind [List.mem_flatten,am])⟩
   hqu:=λx hx=>(f _ _).2 ⟨d.hqu x hx,n _ (by grind [holders])⟩
   hfl:=λb F=>(f _ _).2 ⟨d.hfl b F,n _ (by grind [holders])⟩
   hin:=λb F=>(f _ _).2 ⟨d.hin b ψ,y b ψ⟩
   nd:=g
   mem:=λb=>by
     show b∈E++holders h↔Live sp h.J b
     grind [aR.mem,Live]
   job:=λhm=>by grind [aR.job]}
def dQ(k:af)(p:Int):Nat->af
 | 0=>k
 | n+1=>dM (dQ k p n) (p+n)
def kT{k:af}(h:aC k=true)(p:Int):∀n,aC (dQ k p n)=true
 | 0=>h
 | n+1=>wO _ (kT h p n)
theorem i7(k:af)(p:Int):∀n,(dQ k p n).G.S.K.length=k.G.S.K.length/\(dQ k p n).q=k.q/\(dQ k p n).e=k.e
 | 0=>⟨rfl,rfl,rfl⟩
 | n+1=>by
  obtain⟨a,b,c⟩:=i7 k p n;obtain⟨d,e,f⟩:=pG (dQ k p n) (p+n);exact⟨d.trans a,e.trans b,f.trans c⟩
theorem wW{k:af}(h:aC k=true){p:Int}(g:0<=p/\p<k.G.S.K.length)(q:Nat):nth (dM k p).G.S.K q=if(q:Int)=p then⟨0,0⟩ else nth k.G.S.K q:=by
 have c:au k.G.S p=nth k.G.S.K p.toNat:=by grind [au]
 unfold dM;split
 ·rename_i a
  split
  ·rename_i i
   rw[c]at a;have b:=(bv.1 (aD.1 h).2.2.1).1 p.toNat ω;unfold kM at b;rw[C0]at b;have d:=b.2.2.1 a;rw[show q=p.toNat by omega];generalize nth k.G.S.K p.toNat=e at a d;obtain⟨m,f⟩:=e
   grind
  rfl
 grind [oX,cP,rp]
theorem lG{k:af}(h:aC k=true){p:Int}(a:0<=p):∀n:Nat,p+n<=k.G.S.K.length->∀q:Nat,nth (dQ k p n).G.S.K q=if p<=q/\(q:Int)<p+n then⟨0,0⟩ else nth k.G.S.K q
 | 0,_,q=>by rw[C9 ω];rfl
 | n+1,b,q=>by
  have c:=lG h a n ω q;have d:=wW (kT h p n) (p:=p+n) ⟨ω,by grind [i7]⟩ q;show nth (dM (dQ k p n) (p+n)).G.S.K q=_
  grind
theorem El{α β:Type}(f:α->List β){xs b:List α}(h:xs.Sublist b):(xs.flatMap f).Sublist (b.flatMap f):=by
 induction h with
 | slnil=>grind
 | cons a _ c=>grind
 | cons_cons a _ c=>grind
theorem vr{h:ac}{E:List Int}(c:aR h E){sp:List ar}{la:List ay}{p:Int}{n:Nat}(Y:1<=n)(w:sp.Sublist h.H)(D:la.Sublist h.J)(j:∀q:Int,p<=q->q<p+n->q∈pgs h.H h.J)(K:0<=p)(F:∀q,q∈pgs sp la↔q∈pgs h.H h.J/\¬(p<=q/\q<p+n)) :
  ∃o,d2 (dC h) h.o ⟨p,n⟩ = some o/\aC (dQ h.M p n)=true/\bw ((dQ h.M p n).G.S.K.length:Nat) o=true/\bf sp la=true/\Pg (dQ h.M p n).G.S o sp la:=by
 have t:=c.pg.bnd _ (j (p+n - 1) ω ω);have a:=(i7 h.M p n).1;have y:p+n<=h.M.G.S.K.length:=by unfold tbl at t;omega
 have g:=lG c.ker K n y;obtain⟨o,Q,R,S⟩:=tG (r:=⟨p,n⟩) c.rng ⟨K,by simp only;omega,y⟩ λq M N=>by
  simp only at M N;obtain⟨m,rfl⟩:=O2 (show 0<=q by omega);have A:m<(tbl h).K.length:=by unfold tbl;omega
  exact(c.pg.fre m A).1 ((c.pg.own m A).2 (j _ M N))
 refine⟨o,Q,kT c.ker p n,by rw[a];exact R,?_,?_⟩
 ·obtain⟨T,U,V⟩:=dt c.lay
  unfold bf;simp only[I0,C0];exact⟨⟨T3.2 λs d=>T3.1 T s (w.subset d),T3.2 λl d=>T3.1 U l (D.subset d)⟩,V.sublist ((w.map _).append (El _ D))⟩
 have i:∀q:Nat,(q:Int)∈pgs sp la->nth (dQ h.M p n).G.S.K q=nth (tbl h).K q:=λq f=>by rw[g,C9 ((F q).1 f).2];rfl
 have b:∀q:Nat,(nth (dQ h.M p n).G.S.K q).w≠0↔(nth (tbl h).K q).w≠0/\¬(p<=q/\(q:Int)<p+n):=λq=>by
  rw[g];by_cases e:p<=q/\(q:Int)<p+n
  ·rw[CB e];exact⟨λx=>absurd rfl x,λx=>absurd e x.2⟩
  rw[C9 e];exact⟨λx=>⟨x,e⟩,λx=>x.1⟩
 refine⟨λl d q f r O G B=>?_,λq f=>?_,λq f=>?_,λq f=>?_,λs d u H J P=>?_⟩
 ·have C:=(b r).1 G
  rw[a]at O;rw[i q (fk d f),g,C9 C.2]at B;exact c.pg.one l (D.subset d) q f r O C.1 B
 ·rw[a];exact c.pg.bnd q ((F q).1 f).1
 ·rw[a]at f
  rw[b,F,c.pg.own q f]
 ·rw[a]at f
  rw[b,S,c.pg.fre q f];simp only
  grind
 have k:∀s∈sp,0<=s.Q:=λs d=>(aB (c.L.sok s (w.subset d))).1
 have W:=i s.Q.toNat (by rw[Int.toNat_of_nonneg (k s d)];exact d6 d);have X:=i u.Q.toNat (by rw[Int.toNat_of_nonneg (k u H)];exact d6 H);rw[W,X]at P;exact c.pg.mesh s (w.subset d) u (w.subset H) J P
theorem eJ{α:Type}[Inhabited α]{xs:List α}{k:Nat}{z:α} : z∈dele xs k↔∃j,j<xs.length/\j≠k/\nth xs j=z:=by
 unfold dele;rw[R2];constructor
 ·rintro(h|h)
  ·obtain⟨j,a,rfl⟩:=List.mem_take_iff_getElem.1 h
   exact⟨j,ω,ω,bm ψ⟩
  obtain⟨j,a,rfl⟩:=List.mem_drop_iff_getElem.1 h;exact⟨k+1+j,ω,ω,bm ψ⟩
 rintro⟨j,a,b,rfl⟩
 rw[bm (W1 a)];by_cases e:j<k
 ·grind [List.mem_take_iff_getElem]
 refine .inr (List.mem_drop_iff_getElem.2 ⟨j - (k+1),ω,?_⟩)
 congr 1;omega
theorem oQ{sp:List ar}{la:List ay}{q:Int} : q∈pgs sp la↔(∃s∈sp,s.Q=q)\/∃l∈la,q∈lpgs l l.a3.toNat:=by grind [pgs]
theorem zP{s:ar}(h:s.a6=0)(a:Int):¬ew s a:=by
 rintro⟨-,-,-,b⟩
 rw[jq,h]at b;simp at b
theorem aR.giveSpan{h:ac}{E:List Int}{i:Nat}(d:aR h E)(C:i<h.H.length)(r:(nth h.H i).a6=0)(R:h.b0=true->(nth h.H i).Q≠h.b1.k.b2/\(nth h.H i).Q≠h.b1.k.b3) :
  ∃o,d2 (dC h) h.o ⟨(nth h.H i).Q,1⟩ = some o/\aR {h with M:=dM h.M (nth h.H i).Q,H:=dele h.H i,o:=o} E:=by
 have D:=d.L;have y:=aB (D.sok _ (am C));have w:∀q,q∈pgs (dele h.H i) h.J↔q∈pgs h.H h.J/\¬((nth h.H i).Q<=q/\q<(nth h.H i).Q+(1:Nat)):=λq=>by
  rw[oQ,oQ];constructor
  ·rintro(⟨s,u,rfl⟩|⟨l,S,T⟩)
   ·obtain⟨j,a,A,rfl⟩:=eJ.1 u
    refine⟨.inl ⟨_,am a,rfl⟩,λe=>A (g9 (f:=(·.Q)) D.nd a C ω)⟩
   grind [dq,l7.dis,am]
  grind [aY,eJ]
 obtain⟨o,J,F,G,K,H⟩:=vr d (sp:=dele h.H i) (la:=h.J) (p:=(nth h.H i).Q) (n:=1) (U2 _) (fm ..) ψ (λq U V=>by grind [d6,nth]) y.1 w;have M:dQ h.M (nth h.H i).Q 1=dM h.M (nth h.H i).Q:=by show dM h.M ((nth h.H i).Q+((0:Nat):Int))=_;grind
 rw[M]at F G H;have g:∀b c,iB (dele h.H i) b c↔iB h.H b c:=λb c=>by
  constructor
  ·rintro⟨s,u,t⟩;exact⟨s,(fm ..).subset u,t⟩
  rintro⟨s,u,t,B⟩
  obtain⟨j,a,rfl⟩:=aY u;exact⟨_,eJ.2 ⟨j,a,λe=>zP r b ψ,rfl⟩,t,B⟩
 refine⟨o,J,{d with
   ker:=F
   rng:=G
   lay:=K
   srs:=d.srs.sublist (fm ..)
   pg:=H
   oow:=λN O=>?_
   hca:=λc y k P b r=>(g b k).2 (d.hca c y k P b r)
   hqu:=λx Q=>(g _ _).2 (d.hqu x Q)
   hfl:=λb r=>(g _ _).2 (d.hfl b r)
   hin:=λb r=>(g _ _).2 (d.hin b r)
   mem:=λb=>(d.mem b).trans ?_
   job:=λW=>?_}⟩
 ·rcases d.oow N O with⟨s,u,t,B⟩|t
  ·obtain⟨j,a,rfl⟩:=aY u
   exact .inl ⟨_,eJ.2 ⟨j,a,λe=>zP r _ (by rw[<-e];exact t),rfl⟩,t,B⟩
  exact .inr t
 all_goals grind [aR.job,aY,eJ,Live]
theorem aR.dropL{h:ac}{E:List Int}{i k:Nat}(d:aR h E)(N:i<h.O.length)(w:k<h.J.length)(F:(nth h.O i).X=16*(nth h.J k).Q) :
  ∃o,d2 (dC h) h.o ⟨(nth h.J k).Q,(nth h.J k).a3⟩ = some o/\aR {h with M:=dQ h.M (nth h.J k).Q (nth h.J k).a3.toNat,J:=dele h.J k,o:=o,O:=dele h.O i} E:=by
 have y:=d.L;have O:=aN (y.lok _ (am w));have A:∀q,q∈pgs h.H (dele h.J k)↔q∈pgs h.H h.J/\¬((nth h.J k).Q<=q/\q<(nth h.J k).Q+((nth h.J k).a3.toNat:Nat)):=λq=>by
  rw[oQ,oQ];constructor
  ·rintro(⟨s,C,rfl⟩|⟨l,f,H⟩)
   ·refine⟨.inl ⟨s,C,rfl⟩,λe=>y.dis s C _ (am w) (s.Q - (nth h.J k).Q).toNat ω ω⟩
   obtain⟨j,c,g,rfl⟩:=eJ.1 f;refine⟨.inr ⟨_,am c,H⟩,λe=>?_⟩;obtain⟨m,P,rfl⟩:=dq.1 H;exact g (y.one j k c w m ((nth h.J j).Q+(m:Int) - (nth h.J k).Q).toNat P ω ω)
  grind [aY,eJ,dq]
 obtain⟨o,J,Q,R,S,T⟩:=vr d (sp:=h.H) (la:=dele h.J k) (p:=(nth h.J k).Q) (n:=(nth h.J k).a3.toNat) ω ψ (fm ..) (λq Z q2=>fk (am w) (dq.2 ⟨(q - (nth h.J k).Q).toNat,ω,ω⟩)) O.2.2.1 A;rw[Int.toNat_of_nonneg ω]at J;have U:(E++holders h).Perm ((nth h.O i).X::(E++holders {h with O:=dele h.O i})):=by
  have V:=(yB N).map (·.X);refine List.perm_iff_count.2 λa=>?_
  have r:=V.count_eq a
  grind [holders,ci]
 have t:=U.nodup_iff.1 d.nd;obtain⟨W,t⟩:=List.nodup_cons.1 t;have u:∀b,(b=(nth h.O i).X\/b∈E++holders {h with O:=dele h.O i})↔Live h.H h.J b:=λb=>by grind [aR.mem]
 have B:∀b,b∈E++holders {h with O:=dele h.O i}->b≠(nth h.O i).X:=ψ
 refine⟨o,J,{d with
   ker:=Q
   rng:=R
   lay:=S
   srl:=d.srl.sublist (fm ..)
   pg:=T
   osr:=d.osr.sublist (fm ..)
   onu:=λD G=>d.onu D ((fm ..).subset G)
   oid:=d.oid.sublist ((fm ..).map _)
   oow:=λD G=>?_
   nd:=t
   mem:=λb=>?_}⟩
 ·rcases d.oow D ((fm ..).subset G) with r|⟨l,f,K,X⟩
  ·exact .inl r
  obtain⟨j,c,rfl⟩:=aY f;refine .inr ⟨_,eJ.2 ⟨j,c,λe=>?_,rfl⟩,K,X⟩;subst e;refine B D.X (R2.2 (.inr ?_)) (by rw[F];exact K);unfold holders;grind
 constructor
 ·intro M
  rcases(u b).1 (.inr M) with r|⟨l,f,rfl⟩
  ·exact .inl r
  obtain⟨j,c,rfl⟩:=aY f;exact .inr ⟨_,eJ.2 ⟨j,c,λe=>B _ M (by rw[F,e]),rfl⟩,rfl⟩
 rintro(r|⟨l,f,rfl⟩)
 ·refine((u b).2 (.inl r)).resolve_left λe=>?_
  obtain⟨s,C,⟨Y,g2,-⟩,-⟩:=r;exact(uU y (am w)).1 s C ω
 obtain⟨j,c,g,rfl⟩:=eJ.1 f;refine((u _).2 (.inr ⟨_,am c,rfl⟩)).resolve_left λe=>g ?_
 have Y:=aN (y.lok _ (am c));rw[F]at e;exact y.one j k c w 0 0 ω ω ω
def gW(h:ac)(p:Int):Bool:=h.b0&&(decide (p=h.b1.k.b2) || decide (p=h.b1.k.b3))
def giveP(h:ac)(i:Nat):ac:={h with M:=dM h.M (nth h.H i).Q,H:=dele h.H i,o:=(d2 (dC h) h.o ⟨(nth h.H i).Q,1⟩).getD h.o}
def clrS(h:ac)(i:Nat)(a:Int):ac:={h with H:=h.H.set i (mZ (nth h.H i) (dR (nth h.H i) a))}
def freeS(h:ac)(i:Nat)(a:Int):ac:=if(mZ (nth h.H i) (dR (nth h.H i) a)).a6=0/\gW h (nth h.H i).Q=false then giveP (clrS h i a) i else clrS h i a
def xR(h:ac)(a:Int):Nat:=(dN h (a / 16)).toNat
def freeA(h:ac)(a:Int):ac:=freeS h (xR h a) a
def cput(c:aA)(k a:Int):Option aA:=if bj c=true/\0<=k/\k<=3/\bj (nP c k.toNat a)=true then some (nP c k.toNat a) else none
def recyc(t:Nat)(h:ac)(a:Int):ac:=match cput (nth h.R t) (nth h.H (xR h a)).Y a with
 | some c=>{h with R:=h.R.set t c}
 | none=>freeA h a
theorem aR.at{h:ac}{E:List Int}{a:Int}(e:aR h E)(c:iB h.H a (-1)):xR h a<h.H.length/\ew (nth h.H (xR h a)) a/\dN h (a / 16)=(xR h a:Nat):=by
 obtain⟨s,d,b,-⟩:=c;obtain⟨i,f,rfl⟩:=aY d;have g:(nth h.H i).Q=a / 16:=by have j:=b.1;have k:=b.2.1;omega
 grind [jT,aR.L,xR]
theorem Lz{h:ac}{p:Int}(e:gW h p=false)(a:h.b0=true):p≠h.b1.k.b2/\p≠h.b1.k.b3:=by grind [gW]
def aR.freeS{h:ac}{E:List Int}{a:Int}{i:Nat}(f:aR h (a::E))(b:i<h.H.length)(g:ew (nth h.H i) a):aR (freeS h i a) E:=by
 have c:=f.give b g;unfold Ab.freeS;split
 ·rename_i e
  have d:nth (clrS h i a).H i=mZ (nth h.H i) (dR (nth h.H i) a):=by unfold clrS;simp only[cP,true_and];rw[CB b]
  obtain⟨o,j,k⟩:=aR.giveSpan (h:=clrS h i a) c (i:=i) (by unfold clrS;simp only[I1];exact b) (by rw[d];exact e.1) (λl=>by rw[d];exact Lz e.2 l);unfold giveP;rw[j];exact k
 exact c
theorem aR.freeA{h:ac}{E:List Int}{a:Int}(b:aR h (a::E)):aR (freeA h a) E:=by
 obtain⟨c,d,-⟩:=b.at (b.hin a ψ);exact b.freeS c d
theorem t5{c:aA}(h:bj c=true):c.Z.length=4:=by grind [bj]
theorem aR.recyc{h:ac}{E:List Int}{a:Int}{t:Nat}(b:aR h (a::E))(f:t<h.R.length):aR (recyc t h a) E:=by
 obtain⟨g,i,-⟩:=b.at (b.hin a ψ);unfold Ab.recyc;split
 ·rename_i c d
  unfold cput at d;split at d
  ·rename_i e
   cases d;obtain⟨j,l,n,k⟩:=e;exact b.put f (by rw[t5 j];omega) ⟨_,am g,i,.inr ω⟩ k
  cases d
 exact b.freeA
def wE(h:ac)(i:Nat)(a:Int):(freeS h i a).R=h.R/\(freeS h i a).O=h.O/\(freeS h i a).M.q=h.M.q/\(freeS h i a).b=h.b/\(freeS h i a).b1=h.b1/\(freeS h i a).b5=h.b5/\(freeS h i a).a0=h.a0/\(freeS h i a).M.e=h.M.e:=by
 unfold freeS;split
 ·obtain⟨-,b,c⟩:=pG (clrS h i a).M (nth (clrS h i a).H i).Q
  exact⟨rfl,rfl,b,rfl,rfl,rfl,rfl,c⟩
 exact⟨rfl,rfl,rfl,rfl,rfl,rfl,rfl,rfl⟩
theorem pT(t:Nat)(h:ac)(a:Int):(recyc t h a).R.length=h.R.length/\(recyc t h a).O=h.O/\(recyc t h a).M.q=h.M.q/\(recyc t h a).b=h.b/\(recyc t h a).b1=h.b1/\(recyc t h a).b5=h.b5/\(recyc t h a).a0=h.a0/\(recyc t h a).M.e=h.M.e:=by
 unfold recyc;split
 ·grind
 obtain⟨b,c⟩:=wE h (xR h a) a;exact⟨U0 _ b,c⟩
def recycs(t:Nat)(h:ac)(az:List Int):ac:=az.foldl (recyc t) h
theorem jl(t:Nat):∀(az:List Int)(h:ac),(recycs t h az).R.length=h.R.length/\(recycs t h az).O=h.O/\(recycs t h az).M.q=h.M.q/\(recycs t h az).b=h.b/\(recycs t h az).b1=h.b1/\(recycs t h az).b5=h.b5/\(recycs t h az).a0=h.a0/\(recycs t h az).M.e=h.M.e
 | [],h=>⟨rfl,rfl,rfl,rfl,rfl,rfl,rfl,rfl⟩
 | a::az,h=>by
  obtain⟨b,c,d,e,f,g,i,j⟩:=jl t az (recyc t h a);obtain⟨k,l,n,o,p,q,r,u⟩:=pT t h a;exact⟨b.trans k,c.trans l,d.trans n,e.trans o,f.trans p,g.trans q,i.trans r,j.trans u⟩
theorem aR.recycs{t:Nat}{E:List Int} : ∀{az:List Int}{h:ac},aR h (az++E)->t<h.R.length->aR (recycs t h az) E
 | [],h,b,_=>b
 | a::az,h,b,c=>aR.recycs (az:=az) (h:=Ab.recyc t h a) (b.recyc c) (by grind [pT])
def qc(l:List aK):Int:=quarCells l l.length
def nv(room:Int):List aK->Nat
 | []=>0
 | x::xs=>if room<qc (x::xs) then nv room xs+1 else 0
def Hd(q:bI)(x:aK):bI:=⟨q.c2,(q.y++[x]).drop (nv q.c2 (q.y++[x]))⟩
def Am(q:bI)(x:aK):List aK:=(q.y++[x]).take (nv q.c2 (q.y++[x]))
def BC(room:Int):∀l,nv room l<=l.length
 | []=>U2 _
 | x::xs=>by unfold nv;split;(have:=BC room xs;simp only[List.length_cons];omega);omega
theorem AT{room:Int}(a:0<=room):∀l:List aK,qc (l.drop (nv room l))<=room
 | []=>a
 | x::xs=>by
  unfold nv;split
  ·exact AT a xs
  grind
theorem yz{room:Int} : ∀{l:List aK}{k:Nat},k<nv room l->room<qc (l.drop k)
 | [],k,h=>by cases h
 | x::xs,0,h=>by grind [nv]
 | x::xs,k+1,h=>by
  unfold nv at h;split at h
  ·exact yz (l:=xs) ω
  omega
theorem jv{q:bI} : eP q=true↔(∀x∈q.y,0<=x.Y/\x.Y<=3/\0<=x.X/\0<=x.c0)/\(q.y.Pairwise λa b=>a.c0<=b.c0)/\(q.y.map (·.X)).Nodup/\0<=q.c2/\q.c2<=500/\qc q.y<=q.c2:=by
 refine Iff.trans ?_ (and_congr Iff.rfl (and_congr (uF (λa b:Int=>a<=b) ω (λs:aK=>s.c0) q.y) (and_congr (zn (λs:aK=>s.X) q.y) Iff.rfl)));unfold eP qc
 grind [cm,List.any_eq_false,aY,am,iX,dL]
theorem Mh{q:bI}{x:aK}(h:eP q=true)(e:0<=x.Y/\x.Y<=3/\0<=x.X/\0<=x.c0)(f:∀y∈q.y,y.c0<=x.c0)(g:∀y∈q.y,y.X≠x.X):eP (Hd q x)=true:=by
 obtain⟨i,j,k,c,d,l⟩:=jv.1 h;have a:(Hd q x).y.Sublist (q.y++[x]):=List.drop_sublist ..;refine jv.2 ⟨λy b=>?_,List.Pairwise.sublist a ?_,List.Nodup.sublist (a.map _) ?_,c,d,AT c _⟩
 ·rcases R2.1 (a.subset b) with b|b
  all_goals grind
 ·grind
 grind
def lJ(r:List Int)(o:Nat):Nat->List Int
 | 0=>r
 | n+1=>(lJ r o n).set (o+n) 0
def fJ(k:af)(a:Int):Nat:=(au k.G.S (a / 16)).j.toNat
def fG(k:af)(a:Int)(n:Nat):af:={k with G:=⟨⟨k.G.V.W.set (fJ k a) (lJ (nth k.G.V.W (fJ k a)) (a % 16).toNat n),k.G.V.a1⟩,k.G.S⟩}
theorem oN(r:List Int)(o:Nat):∀n,(lJ r o n).length=r.length
 | 0=>rfl
 | n+1=>by unfold lJ;rw[I1,oN r o n]
def yM{r:List Int}{o:Nat} : ∀{n:Nat}{v:Int},v∈lJ r o n->v∈r\/v=0
 | 0,v,h=>.inl h
 | n+1,v,h=>by
  rcases W5 h with h|h
  ·exact yM h
  exact .inr h
theorem D1{k:af}(h:aC k=true)(a:Int)(n:Nat):aC (fG k a n)=true:=by
 obtain⟨g,i,l,o,p⟩:=aD.1 h;obtain⟨q,r,t,c⟩:=bg.1 i;refine aD.2 ⟨g,bg.2 ⟨?_,?_,?_,λj b=>?_⟩,l,o,p⟩
 ·grind [fG]
 ·grind [fG]
 ·grind [fG]
 simp only[fG,I1]at b |-;simp only[cP];split
 ·rename_i e
  have d:=c j b;unfold gY at d |-;simp only[I0,C0,T3]at d |-;rw[e.1]at *;refine⟨by grind [oN],λv f=>?_⟩;rcases yM f with f|rfl
  all_goals grind [iC]
 exact c j b
def uf(h:ac)(a:Int):Nat:=(h.J.findIdx? λl=>decide (l.Q*16=a)).getD 0
def freeL(h:ac)(i k:Nat):ac:={h with M:=dQ h.M (nth h.J k).Q (nth h.J k).a3.toNat,J:=dele h.J k,o:=(d2 (dC h) h.o ⟨(nth h.J k).Q,(nth h.J k).a3⟩).getD h.o,O:=dele h.O i}
def kZ(h:ac)(o:bF):aK:=⟨o.X,aJ o.d,h.b5⟩
def inQuar(h:ac)(i:Nat):ac:={h with M:=fG h.M (nth h.O i).X (csz (aJ (nth h.O i).d)).toNat,O:=dele h.O i,a0:=Hd h.a0 (kZ h (nth h.O i))}
def Lt(h:ac)(t i:Nat):ac:=recycs t (inQuar h i) ((Am h.a0 (kZ h (nth h.O i))).map (·.X))
def freeOb(h:ac)(t i:Nat):ac × Int:=
 if aJ (nth h.O i).d<0 then(freeL h i (uf h (nth h.O i).X),0)
 else if(au (tbl h) ((nth h.O i).X / 16)).w=1 then(h,5)
 else(Lt h t i,0)
theorem uH{h:ac}{l:ay}(n:l∈h.J){a:Int}(e:a=16*l.Q):uf h a<h.J.length/\a=16*(nth h.J (uf h a)).Q/\(∀j,j<uf h a->(nth h.J j).Q*16≠a)/\h.J.findIdx? (λl=>decide (l.Q*16=a))=some (uf h a):=by
 cases c:h.J.findIdx? λl=>decide (l.Q*16=a) with
 | none=>
  grind
 | some k=>
  obtain⟨b,d,f⟩:=I6.1 c;have g:uf h a=k:=by grind [uf]
  rw[g];rw[<-bm (W1 b),C0]at d;refine⟨b,ω,λj i=>?_,rfl⟩;have:=f j i;rw[<-bm (W1 (show j<h.J.length by omega))]at this;simpa using this
theorem eY{h:ac}{E:List Int}(a:aR h E){o:bF}(f:o∈h.O):(aJ o.d<0->QO h.J o.X o.d)/\(¬aJ o.d<0->(∃s∈h.H,ew s o.X/\s.Y=aJ o.d)/\aJ o.d<=3):=by
 rcases a.oow o f with⟨s,g,b,c⟩|⟨l,d,b,c⟩
 ·have i:=aB (a.L.sok s g)
  grind
 have j:=bR (a.L.lok l d);refine⟨λ_=>⟨l,d,b,c⟩,λe=>absurd ?_ e⟩
 grind [aJ]
theorem aR.inQuar{h:ac}{i:Nat}(a:aR h [])(g:i<h.O.length)(r:¬aJ (nth h.O i).d<0):aR (inQuar h i) ((Am h.a0 (kZ h (nth h.O i))).map (·.X)):=by
 obtain⟨⟨s,j,l,t⟩,u⟩:=(eY a (am g)).2 r;have b:iB h.H (nth h.O i).X (aJ (nth h.O i).d):=⟨s,j,l,.inr t⟩
 have c:=a.nums;unfold cr at c;rw[C0]at c;have w:=aB (a.L.sok s j);have n:=a.dropO g b.any;have A:=n.cells (k:=fG h.M (nth h.O i).X (csz (aJ (nth h.O i).d)).toNat) (D1 a.ker _ _) rfl;have d:∀y∈h.a0.y,y.X≠(nth h.O i).X:=λy o e=>by
  have f:=n.nd;rw[List.cons_append,List.nil_append]at f
  grind [holders]
 have p:=aR.toQuar (x:=kZ h (nth h.O i)) (q:=Hd h.a0 (kZ h (nth h.O i))) (out:=Am h.a0 (kZ h (nth h.O i))) A (Mh a.quar ⟨by show 0<=aJ _;omega,u,by show 0<=(nth h.O i).X;have:=l.1;omega,c.2.2.1⟩ (λy o=>a.snc y o) d) (by grind [List.take_append_drop,Am,Hd]) (T4 _) b;rw[List.append_nil]at p;exact p
theorem aR.freeOb{h:ac}{t i:Nat}(a:aR h [])(c:i<h.O.length)(e:t<h.R.length):aR (freeOb h t i).1 []:=by
 unfold Ab.freeOb;split
 ·rename_i b
  obtain⟨l,f,d,-⟩:=(eY a (am c)).1 b;obtain⟨g,j,-⟩:=uH f d
  grind [aR.dropL,freeL]
 rename_i b;split
 ·exact a
 have d:=a.inQuar c b;refine aR.recycs (E:=[]) ?_ e
 grind
theorem GO:∀{H L:List Int},H.Nodup->(∀x∈H,x∈L)->H.length<=L.length
 | [],L,_,_=>T0 _
 | y::H,L,b,c=>by
  have d:y∈L:=ψ
  have a:=List.nodup_cons.1 b;have:=GO (L:=L.erase y) a.2 ψ
  grind
theorem vL{H:List Int}{n:Nat}(a:H.Nodup)(b:∀x∈H,0<=x/\x<n):H.length<=n:=by
 have:=GO (L:=(List.range n).map λ(i:Nat)=>(i:Int)) a λx c=>X3.2 ⟨x.toNat,List.mem_range.2 ψ,ψ⟩
 simpa using this
theorem gN{α:Type}{f:α->Int}{xs:List α}(h:xs.Pairwise λa b=>f a<f b):(xs.map f).Nodup:=ψ
theorem Ku:∀(b:List (List Int))(k:Nat)(s:List Int),(gf k s b).isSome=true->∀l∈b,l.length<=8
 | [],_,_,_,l,a=>by cases a
 | x::b,k,s,h,l,a=>by
  simp only[gf]at h;cases e:eA k s x with
  | none=>grind
  | some c=>
   rw[e]at h;rcases List.mem_cons.1 a with rfl|a
   ·grind [eA]
   exact Ku b (k+1) c h l a
theorem ee{c:aA}(h:bj c=true):c.Z.length=4/\∀l∈c.Z,l.length<=8:=by grind [Ku,bj]
structure oy(h:ac):Prop where
 cells:h.M.G.V.W.length<=32
 row:∀r∈h.M.G.V.W,r.length=16
 used:h.M.G.V.a1.length<=32
 ents:h.M.G.S.K.length<=32
 ref:h.M.e.length<=40
 free:h.o.length<=32
 spans:h.H.length<=32
 larges:h.J.length<=32
 objs:h.O.length<=512
 caches:h.R.length<=4
 lists:∀c∈h.R,c.Z.length=4/\∀l∈c.Z,l.length<=8
 quar:h.a0.y.length<=512
def iB.bd{h:ac}{E:List Int}(b:aR h E){a c:Int}(d:iB h.H a c):0<=a/\a<512:=by
 obtain⟨s,e,⟨f,g,-⟩,-⟩:=d;have i:=aB (b.L.sok s e);omega
theorem aR.lens{h:ac}{E:List Int}(a:aR h E):oy h:=by
 obtain⟨G,k,p,J,K,M,q⟩:=aD.1 a.ker;obtain⟨N,t,O,P⟩:=bg.1 k;obtain⟨Q,R,u⟩:=bv.1 p;obtain⟨w,S,T⟩:=eS.1 a.rng;obtain⟨U,V,A,W⟩:=jv.1 a.quar;have g:=a.mail;unfold b9 at g;simp only[I0,C0]at g;have B:=a.nc;refine⟨t,λr i=>?_,ω,u,q,?_,?_,?_,?_,ω,λc C=>ee (a.cach c C),?_⟩
 ·obtain⟨j,X,rfl⟩:=aY i
  grind [gY]
 ·have:=vL (H:=h.o.map (·.At)) (n:=32) (gN (w.1.imp_of_mem ψ)) λx b=>by
   obtain⟨r,i,rfl⟩:=X3.1 b
   grind
  simpa using this
 ·have:=vL (H:=h.H.map (·.Q)) (n:=32) a.L.nd λx b=>by
   obtain⟨s,d,rfl⟩:=X3.1 b;have:=aB (a.L.sok s d);omega
  simpa using this
 ·have:=vL (H:=h.J.map (·.Q)) (n:=32) (gN a.srl) λx b=>by
   obtain⟨l,f,rfl⟩:=X3.1 b;have:=aN (a.L.lok l f);omega
  simpa using this
 ·have:=vL (H:=h.O.map (·.X)) (n:=512) (gN a.osr) λx b=>by
   obtain⟨o,D,rfl⟩:=X3.1 b;rcases a.oow o D with⟨s,d,⟨Y,Z,-⟩,-⟩|⟨l,f,e,-⟩
   ·have:=aB (a.L.sok s d);omega
   have:=aN (a.L.lok l f);omega
  simpa using this
 have:=vL (H:=h.a0.y.map (·.X)) (n:=512) A λx b=>by
  obtain⟨y,F,rfl⟩:=X3.1 b;exact(a.hqu y F).bd a
 simpa using this
theorem oy.sml{h:ac}(a:oy h)(b:aC h.M=true)(d:aI.sml h.b)(e:cU.sml h.b1):ac.sml h:=
 ⟨bE b,⟨by grind [oy.free],λ_ _=>trivial⟩,⟨by grind [oy.spans],λ_ _=>trivial⟩,⟨by grind [oy.larges],λ_ _=>trivial⟩,⟨by grind [oy.objs],λ_ _=>trivial⟩,⟨by grind [oy.caches],λc f=>⟨by grind [oy.lists],λl g=>by have:=(a.lists c f).2 l g;show l.length<=1048576;omega⟩⟩,d,⟨by grind [oy.quar],λ_ _=>trivial⟩,e⟩
def lf(a:Int)(o:bF):Bool:=decide (o.X=a)
def pj(h:ac)(a:Int):Nat:=(d7 (lf a) h.O).toNat
theorem aR.objAt{h:ac}{E:List Int}(g:aR h E){o:bF}(k:o∈h.O):pj h o.X<h.O.length/\nth h.O (pj h o.X)=o/\d7 (lf o.X) h.O=(pj h o.X:Nat):=by
 obtain⟨i,c,rfl⟩:=aY k;have l:d7 (lf (nth h.O i).X) h.O=(i:Nat):=dX (ah c) (by unfold lf;simp) λj z n d=>by
  have a:=bm d;have b:=(Z1.1 d).1;subst a;unfold lf;refine R0 λe=>?_
  have:=g9 (f:=(·.X)) (gN g.osr) b c e;omega
 grind [pj]
def rS(k:af)(p:Int)(n:Nat):(dQ k p n).q=k.q/\(dQ k p n).e=k.e:=(i7 k p n).2
def join_nil(y:a8)(a:List a8):db [] (y::a)=db [y] a:=by rw[db];rfl
theorem B3{α:Type}[Inhabited α]{xs:List α}(h:xs≠[]):xs.getLast? = some (nth xs (xs.length - 1)):=by grind [List.length_pos_iff,ah]
theorem LF{α:Type}{xs:List α}(h:xs≠[])(v:α):xs.dropLast++[v]=xs.set (xs.length - 1) v:=by
 have a:0<xs.length:=ψ
 refine List.ext_getElem (by simp;omega) λi b c=>?_
 grind
theorem Le{out:List a8}{y:a8}{a:List a8}(h:out≠[])(e:(nth out (out.length - 1)).At+(nth out (out.length - 1)).a5=y.At):db out (y::a)=db (out.set (out.length - 1) ⟨(nth out (out.length - 1)).At,(nth out (out.length - 1)).a5+y.a5⟩) a:=by grind [B3,LF,db]
theorem MP{out:List a8}{y:a8}{a:List a8}(h:out≠[])(e:¬(nth out (out.length - 1)).At+(nth out (out.length - 1)).a5=y.At):db out (y::a)=db (out++[y]) a:=by grind [B3,db]
theorem rC(xs:List a8)(w:xs.length<=4194304)(n:∀y∈xs,0<=y.At/\1<=y.a5/\y.At+y.a5<=1048576):ao Tryz.prog 247 false [.val none (bH .U xs)] .one (bH .own (db [] xs)):=by
 refine fO 63 [(6,21,[15,16,17,18,19,20,21,22,23,24,25,26,27,28,29,30,31,32,33,34,35]),(7,15,[38,39,40,41,42,43,44,45,46,47,48,49,50,51,52])] Tryz.func247 rfl ?_ (.inr (o6 _))
 repeat'(first|refine gP ?_|fail)
 (conv=>whnf)
 refine CE (ι:=Nat × List a8) (λq=>[(0,.F .one (bH .U xs)),(3,.F .one (bH .own q.2)),(4,.F .one [I ((q.1:Nat):Int)])]) (λq=>q.1<=xs.length/\db q.2 (xs.drop q.1)=db [] xs/\q.2.length<=q.1/\∀y∈q.2,0<=y.At/\1<=y.a5/\y.At+y.a5<=1048576) (λq=>xs.length - q.1) ((0,[])) ?_ ψ λq o=>?_
 ·exact wB
 obtain⟨i,out⟩:=q;obtain⟨p,a,g,b⟩:=o;simp only at p a g b |-;by_cases h:i<xs.length
 ·have j:=ah h
  have B:=n _ (am h);rw[jn h]at a;by_cases k:out=[]
  ·subst k
   rw[join_nil]at a;have D:([]:List a8).length=0:=rfl
   repeat'(first|refine gE ?_|(conv=>whnf);first|with_reducible refine CA (aa j) ?_|refine Ln.mk (show List.length _=0 from rfl) ?_|refine Ap.sm (λr t=>by cases t) rfl (by simp) (by decide) rfl ?_)
   ((conv=>whnf)
    refine CD (i+1,[nth xs i]) ψ (by simp only;omega) ?_
    (repeat'(first|exact trivial|rfl|exact CI rfl (CI (U0 (C.s du.own) (by simp[a8.enc])) trivial)|refine CI ?_ ?_)))
  have l:0<out.length:=ψ
  have d:out[((out.length:Int) - 1).toNat]? = some (nth out (out.length - 1)):=by
   rw[show((out.length:Int) - 1).toNat=out.length - 1 by omega];grind [ah]
  have u:=b _ (am (xs:=out) (i:=out.length - 1) ω);by_cases e:(nth out (out.length - 1)).At+(nth out (out.length - 1)).a5=(nth xs i).At
  ·rw[Le k e]at a
   repeat'(first|refine gB ?_|(conv=>whnf);first|with_reducible refine CA (aa j) ?_|refine CL ω (aa d) ?_|refine CG rfl (aa d) rfl ?_|refine CO rfl rfl (aa d) rfl (Z0 rfl) rfl ?_)
   ((conv=>whnf)
    refine CD (i+1,out.set (out.length - 1) ⟨(nth out (out.length - 1)).At,(nth out (out.length - 1)).a5+(nth xs i).a5⟩) ⟨(by simp only;omega),a,ψ,(λy c=>?_)⟩ (by simp only;omega) ?_)
   ·rcases W5 c with c|rfl
    ·exact b y c
    simp only;omega
   (repeat'(first|exact trivial|rfl|exact CI rfl (CI (U0 (C.s du.own) (by rw[show((out.length:Int) - 1).toNat=out.length - 1 by omega,T5];rfl)) trivial)|refine CI ?_ ?_))
  rw[MP k e]at a
  repeat'(first|refine gB ?_|(conv=>whnf);first|with_reducible refine CA (aa j) ?_|refine CL ω (aa d) ?_|refine CG rfl (aa d) rfl ?_|refine Ap.sm (aM λ_=>rfl) rfl (by simp;omega) (by decide) rfl ?_)
  ((conv=>whnf)
   refine CD (i+1,out++[nth xs i]) ⟨(by simp only;omega),a,(by simp;omega),(λy c=>?_)⟩ (by simp only;omega) ?_)
  ·rcases R2.1 c with c|c
   all_goals simp_all
  (repeat'(first|exact trivial|rfl|exact CI rfl (CI (U0 (C.s du.own) (by simp[a8.enc])) trivial)|refine CI ?_ ?_))
 obtain rfl:i=xs.length:=ω
 rw[List.drop_length]at a
 repeat'(first|refine gE ?_|fail)
 rw[<-a];rfl
def yp(r y:a8)(a:List a8)(put:Bool):lF r (y::a) put=if ovl y r then none else if !put&&decide (y.At > r.At) then(lF r a true).map λt=>r::y::t else(lF r a put).map λt=>y::t:=by rw[lF]
theorem lE(pages:Int)(xs:List a8)(r:a8)(G:0<=pages/\pages<=1048576)(H:iQ xs):ao Tryz.prog 186 false [.val none [I pages],.val none (bH .U xs),.val (some 2) (a8.enc .U r)] (.tup [none,none]) (FH xs (d2 pages xs r)):=by
 have o:=H.1;have j:=lA pages xs G H;have p:=wL pages r G;cases k:bw pages xs<;>rw[k]at j
 ·rw[show d2 pages xs r=none by unfold d2;rw[C9 (by rw[k];simp)]]
  refine fO 82 [] Tryz.func186 rfl ?_ (.inr (sj _ _))
  repeat'(first|refine gP ?_|(conv=>whnf);first|refine C7 (j) ?_|refine CR (λ_=>rfl) (λ_=>rfl) o (by decide) ?_)
  rfl
 cases u:rangeIn pages r<;>rw[u]at p
 ·rw[show d2 pages xs r=none by unfold d2;rw[C9 (by rw[u];simp)]]
  refine fO 82 [] Tryz.func186 rfl ?_ (.inr (sj _ _))
  repeat'(first|refine gP ?_|(conv=>whnf);first|refine C7 (j) ?_|refine C7 (p) ?_|refine CR (λ_=>rfl) (λ_=>rfl) o (by decide) ?_)
  rfl
 obtain⟨J,K⟩:=Aq k;have l:0<=r.At/\1<=r.a5/\r.At+r.a5<=pages:=by grind [rangeIn]
 rw[show d2 pages xs r=(lF r xs false).map (db []) by unfold d2;rw[CB ⟨k,u⟩,yC (pages:=pages) J l.2.1 ψ]];refine fO 82 [] Tryz.func186 rfl ?_ (.inr (sj _ _))
 repeat'(first|refine gP ?_|(conv=>whnf);first|refine C7 (j) ?_|refine C7 (p) ?_|refine CR (λ_=>rfl) (λ_=>rfl) o (by decide) ?_)
 (conv=>whnf)
 refine CE (ι:=Nat × List a8 × Bool) (λq=>[(1,.F .one (bH .U xs)),(5,.F .box (a8.enc .U r)),(8,.F .one (bH .own xs)),(9,.F .one (bH .own q.2.1)),(10,.F .one [B (q.2.2)]),(11,.F .one [I ((q.1:Nat):Int)])]) (λq=>q.1<=xs.length/\(lF r (xs.drop q.1) q.2.2).map (q.2.1++·)=lF r xs false/\q.2.1.length<=q.1+q.2.2.toNat/\(∀y∈q.2.1,0<=y.At/\1<=y.a5/\y.At+y.a5<=1048576)) (λq=>xs.length - q.1) ((0,[],false)) ?_ (⟨T0 _,by simp,by simp,by simp⟩) λq d=>?_
 ·exact wB
 obtain⟨i,out,put⟩:=q;obtain⟨L,b,c,e⟩:=d;simp only at L b c e |-;have M:0<=r.At/\1<=r.a5/\r.At+r.a5<=1048576:=ω
 by_cases w:i<xs.length
 ·have n:=ah w
  have N:=K _ (am w);have E:0<=(nth xs i).At/\1<=(nth xs i).a5/\(nth xs i).At+(nth xs i).a5<=1048576:=ω
  rw[jn w]at b;by_cases h:ovl (nth xs i) r=true
  ·rw[<-b]
   rw[yp,CB h];unfold ovl at h;rw[C0]at h
   repeat'(first|refine gE ?_|(conv=>whnf);first|with_reducible (first|refine CA (aa n) ?_|refine Bf.D (λd=>?_) (λd=>?_)))
   rfl
  rw[yp,C9 h]at b;unfold ovl at h;rw[C0]at h;cases put with
  | false=>
   have c:out.length<=i:=by simpa using c
   by_cases O:(nth xs i).At > r.At
   ·rw[CB (by simp;omega),Option.map_map]at b
    repeat'(first|refine gE ?_|(conv=>whnf);first|with_reducible (first|refine CA (aa n) ?_|refine Bf.D (λd=>?_) (λd=>?_))|refine Ap.sm (aM λ_=>rfl) rfl (by simp;omega) (by decide) rfl ?_|refine Ap.sm (λr l=>by simp at l;rcases l with⟨a,_,rfl⟩|rfl<;>rfl) rfl (by simp;omega) (by decide) rfl ?_)
    ((conv=>whnf)
     refine CD (i+1,out++[r,nth xs i],true) ⟨(by simp only;omega),(by rw[<-b];congr 1;funext t;simp),(by simp;omega),(λy g=>?_)⟩ (by simp only;omega) ?_)
    ·grind
    (repeat'(first|exact trivial|rfl|exact CI rfl (CI (U0 (C.s du.own) (by simp[a8.enc])) trivial)|refine CI ?_ ?_))
   rw[C9 (by simp;omega),Option.map_map]at b
   repeat'(first|refine gE ?_|(conv=>whnf);first|with_reducible (first|refine CA (aa n) ?_|refine Bf.D (λd=>?_) (λd=>?_))|refine Ap.sm (aM λ_=>rfl) rfl (by simp;omega) (by decide) rfl ?_)
   ((conv=>whnf)
    refine CD (i+1,out++[nth xs i],false) ⟨(by simp only;omega),(by rw[<-b];congr 1;funext t;simp),(by simp;omega),(λy g=>?_)⟩ (by simp only;omega) ?_)
   ·grind
   (repeat'(first|exact trivial|rfl|exact CI rfl (CI (U0 (C.s du.own) (by simp[a8.enc])) trivial)|refine CI ?_ ?_))
  | true=>
   have c:out.length<=i+1:=c;rw[C9 (by simp),Option.map_map]at b;by_cases P:(nth xs i).At<r.At+r.a5
   all_goals
    repeat'(first|refine gE ?_|(conv=>whnf);first|with_reducible (first|refine CA (aa n) ?_|refine Bf.D (λd=>?_) (λd=>?_))|refine Ap.sm (aM λ_=>rfl) rfl (by simp;omega) (by decide) rfl ?_)
    ((conv=>whnf)
     refine CD (i+1,out++[nth xs i],true) ⟨(by simp only;omega),(by rw[<-b];congr 1;funext t;simp),(by simp;omega),(λy g=>?_)⟩ (by simp only;omega) ?_)
    ·rcases R2.1 g with g|g
     ·exact e y g
     rw[C1.1 g];exact E
    (repeat'(first|exact trivial|rfl|exact CI rfl (CI (U0 (C.s du.own) (by simp[a8.enc])) trivial)|refine CI ?_ ?_))
 obtain rfl:i=xs.length:=ω
 rw[List.drop_length]at b;cases put with
 | false=>
  have c:out.length<=xs.length:=by simpa using c
  rw[<-b];have F:=rC (out++[r]) (by simp;omega) ψ
  repeat'(first|refine gE ?_|(conv=>whnf);first|refine Ap.sm (aM λ_=>rfl) rfl (by simp;omega) (by decide) (show(out++[r]).map (a8.enc .own)=_ by simp[a8.enc]) ?_|refine CH (F) ⟨⟨rfl,dI _⟩,trivial⟩ ?_)
  rfl
 | true=>
  have c:out.length<=xs.length+1:=c;rw[<-b];have F:=rC out ω e
  repeat'(first|refine gE ?_|(conv=>whnf);first|refine CH (F) ⟨⟨rfl,dI _⟩,trivial⟩ ?_)
  simp[lF,FH]
  rfl
theorem shl64{i:Int}(a:0<=i/\i<=15):IntKind.i64.wrap (1*2 ^ min i.toNat IntKind.i64.bits)=2 ^ i.toNat/\0<=(2:Int) ^ i.toNat/\(2:Int) ^ i.toNat<=32768:=by
 have b:min i.toNat IntKind.i64.bits=i.toNat:=Nat.min_eq_left (show i.toNat<=64 by omega);have c:(0:Int)<=2 ^ i.toNat/\(2:Int) ^ i.toNat<=32768:=by
  have:(2:Nat) ^ i.toNat<=2 ^ 15:=Nat.pow_le_pow_right (by decide) ω
  grind
 grind [ed]
theorem clr64{b i:Int}(a:0<=b/\b<=65535):IntKind.i64.wrap ((BitVec.ofInt IntKind.i64.bits b &&& ~~~BitVec.ofInt IntKind.i64.bits (2 ^ i.toNat)).toNat:Nat)=xJ b i:=by
 have:=AR (i:=i) a
 grind [ed,xJ]
theorem rY(b i:Int)(c:0<=b/\b<=65535)(d:0<=i/\i<=15):ao Tryz.prog 252 false [.val none [I b],.val none [I i]] .one [I (xJ b i)]:=by
 have a:=oB b i;rw[O0 ω]at a;have e:IntKind.u64.wrap i=i:=by grind [Go.IntKind.wrap,Go.IntKind.bits]
 refine fO 15 [] Tryz.func252 rfl ?_
 repeat'(first|refine gP ?_|(conv=>whnf);first|refine C8 ?_|refine C7 (a) ?_|refine CM ω ?_|refine CK e ?_|refine CK (shl64 d).1 ?_|refine CK (clr64 c) ?_)
 rfl
theorem Nw{s:ar}{k:Int}(a:aQ s.a6 k=true):0<=k/\k<=15:=by grind [jq]
def xH(s:ar)(k:Int)(a:aT s=true)(b:aQ s.a6 k=true):ao Tryz.prog 192 false [.val (some 3) (ar.enc .U s),.val none [I k]] (.tup [some 3,none]) (ar.enc .own (mZ s k)++[B true]):=by
 have e:=ep a;have g:=Nw b;have c:=eQ s;have d:=fZ s.a6 k ω;rw[a]at c;rw[b]at d;refine fO 23 [] Tryz.func192 rfl ?_ (.inr (bc (ar.enc_fr _) ⟨trivial,trivial⟩))
 repeat'(first|refine gP ?_|(conv=>whnf);first|refine C8 ?_|refine C7 (c) ?_|refine C7 (d) ?_|refine C7 (rY s.a6 k e g) ?_)
 rfl
def uZ(c:aA)(k:Int)(b:aA.sml c):ao Tryz.prog 234 false [.val (some 1) (aA.enc .U c),.val none [I k]] .one [B (bj c&&decide (0<=k/\k<=3))]:=by
 have a:=gh c b;cases e:bj c<;>rw[e]at a
 all_goals
  refine fO 11 [] Tryz.func234 rfl ?_
  repeat'(first|refine gP ?_|(conv=>whnf);first|refine C8 ?_|refine C7 (a) ?_|refine C7 (aE k 0 3) ?_)
  all_goals rfl
def sD{c:aA}{k:Nat}(a:k<c.Z.length):c.Z[k]? = some (nth c.Z k):=ah a
theorem Li{c:aA}(h:bj c=true)(k:Nat)(a:Int):aA.sml (nP c k a):=by
 obtain⟨e,d⟩:=ee h;refine⟨by grind [nP],λl b=>?_⟩;rcases W5 b with b|rfl
 ·have:=d l b;show l.length<=1048576;omega
 show(nth c.Z k++[a]).length<=1048576;by_cases f:k<c.Z.length
 ·grind [am]
 have:nth c.Z k=[]:=by unfold nth;rw[List.getD_eq_getElem?_getD,C2 ω];rfl
 rw[this];simp
theorem JC(c:aA)(k:Nat)(a:Int):aA.enc .own (nP c k a)=[.s .own ((c.Z.map (aF .own)).set k (aF .own (nth c.Z k++[a])))]:=by grind [T5,aA.enc,nP]
theorem fK{α:Type}{f:α->List C}{xs:List α}{k:Nat}{y:α}{r:List C}(h:xs[k]? = some y):((xs.map f).set k r)[k]? = some r:=ψ
def im{α β:Type}(f:α->β)(xs:List α)(y:α):(xs++[y]).map f=xs.map f++[f y]:=by simp
def Gt(c:aA)(k a:Int):List C:=aA.enc .own ((cput c k a).getD c)++[B (cput c k a).isSome]
def J9(c:aA)(k a:Int):gn (Gt c k a):=bc (aA.enc_fr _) ⟨trivial,trivial⟩
theorem xq(c:aA)(k:Nat)(a:Int)(j:bj c=true)(B:k<=3):ao Tryz.prog 246 false [.val (some 1) (aA.enc .U c),.val none [I (k:Nat)],.val none [I a]] (.tup [some 1,none]) (Gt c k a):=by
 obtain⟨D,q⟩:=ee j;have r:aA.sml c:=⟨ω,λl u=>by have:=q l u;show l.length<=1048576;omega⟩
 have n:=uZ c k r;rw[j,O0 ω]at n;have t:=ij c r;have d:=Li j k a;have o:=gh (nP c k a) d;have w:=ij (nP c k a) d;have b:=sD (c:=c) (k:=k) ω;have y:=q _ (am (xs:=c.Z) (i:=k) ω);have h:=aA.enc_fz (nP c k a);rw[JC]at h;have g:=J9 c k a;unfold Gt at g |-;cases e:bj (nP c k a)<;>rw[e]at o
 ·have p:cput c k a=none:=by grind [cput]
  rw[p]at g |-;refine fO 35 [(4,267,[16,17,18,19,20,21,22,23,24,25,27,0,1,2,3,4,5,6,7,8,9,10,1000,1001,1002,11,12])] Tryz.func246 rfl ?_ (.inr g)
  repeat'(first|refine gP ?_|(conv=>whnf);first|with_reducible refine CA (aa b) ?_|refine C8 ?_|refine CA (fK b) ?_|refine CG rfl (fK b) rfl ?_|refine C7 (n) ?_|refine C7 (t) ?_|refine Lq.one rfl rfl (aa b) rfl (Z0 rfl) rfl rfl ?_|refine CG rfl (aa b) rfl ?_|refine CO rfl rfl (fK b) rfl (Z0 rfl) (show [C.s du.own ((c.Z.map (aF .own)).set k (aF .own (nth c.Z k++[a])))]=_ from by simp only[List.set_cons_zero,List.set_set,I2];rfl) ?_|refine Ap.sm (aM λ_=>rfl) rfl (by simp;omega) (by decide) (im _ _ _) ?_|refine CH (o) ⟨⟨rfl,h⟩,trivial⟩ ?_)
  rfl
 have p:cput c k a=some (nP c k a):=by grind [cput]
 rw[p]at g |-;refine fO 35 [(4,267,[16,17,18,19,20,21,22,23,24,25,27,0,1,2,3,4,5,6,7,8,9,10,1000,1001,1002,11,12])] Tryz.func246 rfl ?_ (.inr g)
 repeat'(first|refine gP ?_|(conv=>whnf);first|with_reducible refine CA (aa b) ?_|refine C8 ?_|refine CA (fK b) ?_|refine CG rfl (fK b) rfl ?_|refine C7 (n) ?_|refine C7 (t) ?_|refine Lq.one rfl rfl (aa b) rfl (Z0 rfl) rfl rfl ?_|refine CG rfl (aa b) rfl ?_|refine CO rfl rfl (fK b) rfl (Z0 rfl) (show [C.s du.own ((c.Z.map (aF .own)).set k (aF .own (nth c.Z k++[a])))]=_ from by simp only[List.set_cons_zero,List.set_set,I2];rfl) ?_|refine Ap.sm (aM λ_=>rfl) rfl (by simp;omega) (by decide) (im _ _ _) ?_|refine CH (o) ⟨⟨rfl,h⟩,trivial⟩ ?_|refine CH (w) ⟨⟨rfl,h⟩,trivial⟩ ?_)
 rfl
def br(x:ac):List C:=[.s .own (x.M.G.V.W.map (aF .own)),.s .own (x.M.G.V.a1.map (rB .own)),.s .own (x.M.G.S.K.map (bi.enc .own)),I x.M.q,.s .own (x.M.e.map (rI .own)),.s .own (x.o.map (a8.enc .own)),.s .own (x.H.map (ar.enc .own)),.s .own (x.J.map (ay.enc .own)),.s .own (x.O.map (bF.enc .own)),.s .own (x.R.map (aA.enc .own)),.s .own (x.b.T.map (cY .own)),.s .own (x.b.u.map (aF .own)),I x.a0.c2,.s .own (x.a0.y.map (aK.enc .own)),I x.c1,I x.b5,I x.c5,I x.a2,B x.b0,I x.b1.k.b2,I x.b1.k.b3,.s .U (x.b1.k.W.map (rI .U)),I x.b1.b7,I x.b1.a2]
def bz(x:ac):d8 (br x)=ac.enc .U x:=by simp[d8,br,ac.enc,aA.enc_fz,bi.enc_fz,ay.enc_fz,bF.enc_fz,a8.enc_fz,ar.enc_fz,aK.enc_fz,rB,qe,rI,dY,<-ch,I5]
def xh(x:cU):List C:=[I x.k.b2,I x.k.b3,.s .U (x.k.W.map (rI .U)),I x.b7,I x.a2]
theorem Pu.two{f a:List C}{off i k j g h b:Nat}{cs:List C}{K:List C->Prop}{o c:du}{rows rows2:List (List C)}{r d:List C}(h1:f[off]? = some (.s o rows))(n:o.mine=true)(u:rows[i]? = some r)(w:r.length=k)(y:r[j]? = some (.s c rows2))(p:c.mine=true)(A:rows2[g]? = some d)(B:d.length=h)(D:b+cs.length<=h)(E:a=f.set off (.s o (rows.set i (r.set j (.s c (rows2.set g (splice d b cs)))))))(q:K a):Pu f off [(i,k,j),(g,h,b)] cs K:=by
 have t:o≠.U:=λe=>by subst e;cases n
 have l:c≠.U:=λe=>by subst e;cases p
 refine Pu.mk (r:=d) (j:=b) (by grind [bY]) (by grind [jG]) ω (by grind [eE]) q
def BL(x:List ar):fz (.s .own (x.map (ar.enc .own)))=.s .U (x.map (ar.enc .U)):=(List.cons.inj (vu x)).1
def yY(x:List ay):fz (.s .own (x.map (ay.enc .own)))=.s .U (x.map (ay.enc .U)):=(List.cons.inj (BP x)).1
def AI(x:List bF):fz (.s .own (x.map (bF.enc .own)))=.s .U (x.map (bF.enc .U)):=(List.cons.inj (Jl x)).1
theorem Ap.dele{α:Type}{e:α->List C}{xs:List α}{i sz by_:Nat}{K:List (List C)->Prop}(a:∀y,(e y).length=sz)(b:∀y,aW (e y)=true)(h:xs.length<=1048576)(c:by_<=1000)(d:K ((Ab.dele xs i).map e)):Ap true ((xs.take i).map e) ((xs.drop (i+1)).map e) sz by_ K:=by
 have f:(xs.take i).length+(xs.drop (i+1)).length<=2097152:=ψ
 refine CN (aM a) (aM a) (λ_ r g=>by obtain⟨y,-,rfl⟩:=X3.1 g;exact b y) (by rw[X0,X0];omega) (by rw[X0,X0];exact R4 (Nat.mul_le_mul f c) (by decide)) ?_ d;unfold Ab.dele;rw[C5]
def Hb(h:ac)(p:Int)(a:aG.sml h.M.G.S):ao Tryz.prog 243 false [.ptr (ac.enc .U h),.val none [I p]] .one [I (au h.M.G.S p).w]:=by
 refine fO 13 [] Tryz.func243 rfl ?_
 repeat'(first|refine gP ?_|(conv=>whnf);first|refine C8 ?_|refine C7 (cX h.M.G.S p a) ?_)
 rfl
def NH(h:ac):List C:=(br h).drop 5
def Qy(h:ac)(k:af):br {h with M:=k} = af.enc .own k++NH h:=rfl
def DP(h:ac):NH h=[.s .own (h.o.map (a8.enc .own)),.s .own (h.H.map (ar.enc .own)),.s .own (h.J.map (ay.enc .own)),.s .own (h.O.map (bF.enc .own)),.s .own (h.R.map (aA.enc .own)),.s .own (h.b.T.map (cY .own)),.s .own (h.b.u.map (aF .own)),I h.a0.c2,.s .own (h.a0.y.map (aK.enc .own)),I h.c1,I h.b5,I h.c5,I h.a2,B h.b0,I h.b1.k.b2,I h.b1.k.b3,.s .U (h.b1.k.W.map (rI .U)),I h.b1.b7,I h.b1.a2]:=rfl
def Jk(h:ac)(f:Int)(a:aG.sml h.M.G.S)(b:0<=f/\f<h.M.G.V.W.length/\f<h.M.G.V.a1.length) :
  aP Tryz.prog 244 false [.ptr (br h),.val none [I f]] [.ptr (br {h with M:=io h.M f}),.val none [I f]] (.tup []) []:=by
 have c:=ah (xs:=h.M.G.V.W) (i:=f.toNat) ω;have d:=ah (xs:=h.M.G.V.a1) (i:=f.toNat) ω;rw[Qy h (io h.M f)];by_cases e:(pagesOn h.M.G.S f).length=0
 ·rw[za e,DP]
  refine fM 30 [] [(2,8,[21,22,23,24,25,26,27,28])] [(0,0),(0,0)] Tryz.func244 rfl (λu q=>?_) (.inr trivial)
  repeat'(first|refine gB ?_|(conv=>whnf);first|with_reducible (first|refine CL b.1 (aa d) ?_|refine CL b.1 (aa c) ?_)|refine C8 ?_|refine CH (ge h.M.G.S f a) ⟨⟨rfl,CX h.M.G.S⟩,⟨rfl,rfl⟩,trivial⟩ ?_|refine CO rfl rfl (aa c) rfl (Z0 rfl) rfl ?_|refine CO rfl rfl (aa d) rfl (Z0 rfl) rfl ?_|refine Mk.mk 16 rfl rfl (by decide) (by decide) rfl ?_)
  refine CF rfl rfl ?_;exact wB
 rw[DE e];show aP _ _ _ [.ptr (br h),_] [.ptr (br h),_] _ _;refine fM 30 [] [(2,8,[21,22,23,24,25,26,27,28])] [(0,0),(0,0)] Tryz.func244 rfl (λu q=>?_) (.inr trivial)
 repeat'(first|refine gB ?_|(conv=>whnf);first|refine C8 ?_|refine CH (ge h.M.G.S f a) ⟨⟨rfl,CX h.M.G.S⟩,⟨rfl,rfl⟩,trivial⟩ ?_)
 refine CF rfl rfl ?_;exact wB
theorem mb(h:ac)(p:Int)(b:aC h.M=true) :
  aP Tryz.prog 173 false [.ptr (br h),.val none [I p]] [.ptr (br {h with M:=dM h.M p}),.val none [I p]] .one [B (decide ((au h.M.G.S p).w≠0))]:=by
 have k:=bE b;have c:=Hb h p k.1.2;by_cases a:(au h.M.G.S p).w=0
 ·rw[show dM h.M p=h.M by unfold dM;rw[CB a]]
  refine fM 32 [(244,[2,0])] [] [(0,0),(0,0)] Tryz.func173 rfl (λu q=>?_)
  repeat'(first|refine gB ?_|(conv=>whnf);first|refine C8 ?_|refine CH (c) ⟨bz h,⟨rfl,rfl⟩,trivial⟩ ?_)
  refine CF rfl ?_ ?_
  ·exact U0 (λz=>[B z]) ((by simp[a]))
  exact wB
 obtain⟨l,r,n,d,o⟩:=cC b a;have j:=(bg.1 (aD.1 b).2.1).2.2.1;rw[show dM h.M p=io (rp h.M p) (au h.M.G.S p).j by unfold dM;rw[C9 a]];have e:=Jk {h with M:=rp h.M p} (au h.M.G.S p).j (JR b) ⟨d,by grind [rp],by grind [rp]⟩;rw[Qy h (rp h.M p),LA,DP]at e;have g:=ah (xs:=h.M.G.S.K) (i:=p.toNat) ω;rw[n]at c e a |-;refine fM 32 [(244,[2,0])] [] [(0,0),(0,0)] Tryz.func173 rfl (λu q=>?_)
 repeat'(first|refine gB ?_|(conv=>whnf);first|with_reducible refine CL l (aa g) ?_|refine C8 ?_|refine CH (c) ⟨bz h,⟨rfl,rfl⟩,trivial⟩ ?_|refine CO rfl rfl (aa g) rfl (Z0 rfl) rfl ?_|refine CG rfl (aa g) rfl ?_|refine CJ (e) (.inl rfl) ?_)
 refine CF rfl ?_ ?_
 ·exact U0 (λz=>[B z]) ((by simp[a]))
 exact wB
def tK(h:ac)(p:Int):ao Tryz.prog 166 false [.ptr (ac.enc .U h),.val none [I p]] .one [B (gW h p)]:=by
 cases e:h.b0
 all_goals
  have b:ac.enc .U h=(ac.enc .U h).set 18 (B h.b0):=rfl;rw[e]at b;rw[b];refine fO 29 [] Tryz.func166 rfl ?_
  repeat'(first|refine gP ?_|(conv=>whnf);first|with_reducible (first|refine Bf.D (λa=>?_) (λa=>?_)|refine Bf.E (λa=>?_) (λa=>?_)|refine Bf.N (λa=>?_) (λa=>?_))|refine C8 ?_)
  all_goals exact U0 (λz=>[B z]) ((by unfold gW;rw[e];first|(simp[*];done)|(simp[*];rw[O4];simp)))
def gt(h:ac):ao Tryz.prog 171 false [.ptr (ac.enc .U h)] .one [I (dC h:Nat)]:=by
 refine fO 11 [] Tryz.func171 rfl ?_
 repeat'(first|refine gP ?_|(conv=>whnf);first|refine C8 ?_)
 rfl
theorem pK(h:ac)(a:Int)(k:h.O.length<=1048576):ao Tryz.prog 174 false [.val (some 24) (ac.enc .U h),.val none [I a]] .one [I (d7 (lf a) h.O)]:=by
 refine fO 22 [] Tryz.func174 rfl ?_
 repeat'(first|refine gP ?_|(conv=>whnf);first|refine C8 ?_)
 (conv=>whnf)
 refine CE (ι:=Nat) (λi=>[(1,.F .one [I (a)]),(2,.F .box (ac.enc .U h)),(5,.F .one [I ((i:Nat):Int)])]) (λi=>i<=h.O.length/\∀(j:Nat)(z:bF),j<i->h.O[j]? = some z->lf a z=false) (λi=>h.O.length - i) (0) ?_ ψ λi c=>?_
 ·exact wB
 obtain⟨c,d⟩:=c;by_cases g:i<h.O.length
 ·have b:=ah g
  by_cases e:(nth h.O i).X=a
  ·repeat'(first|refine gB ?_|(conv=>whnf);first|with_reducible refine CA (aa b) ?_|refine C8 ?_)
   grind [dX,lf]
  repeat'(first|refine gB ?_|(conv=>whnf);first|with_reducible refine CA (aa b) ?_|refine C8 ?_)
  ((conv=>whnf);refine CD (i+1) ⟨ω,fL b (by grind [lf]) d⟩ ω ?_;(exact wB))
 repeat'(first|refine gE ?_|(conv=>whnf);first|refine C8 ?_)
 exact U0 (λz=>[I z]) (fS ω d).symm
def mX(h:ac)(i:Nat)(b:i<h.O.length)(a:h.O.length<=1048576):aP Tryz.prog 180 false [.ptr (br h),.val none [I (i:Nat)]] [.ptr (br {h with O:=dele h.O i}),.val none [I (i:Nat)]] (.tup []) []:=by
 refine fM 23 [] [(0,273,[4,5,6,7,8,9,10,11,13,14,15,16,17,18,19,21,22,0,1,2,3,4,5,6,7,9,10,11,12,13,14,15,8,1000,1009,1010,1011,1012,1013,1014,1015,16,1000,17,18,19]),(1048576,0,[8])] [(0,0),(0,0)] Tryz.func180 rfl (λu q=>?_) (.inr trivial)
 repeat'(first|refine gP ?_|(conv=>whnf);first|refine C8 ?_|refine F6.mk rfl (AI h.O) rfl ?_|refine CU i rfl (by rw[X0];omega) (aM λ_=>rfl) V3 ?_|refine Sl.suf (i+1) rfl (by rw[X0];omega) (aM λ_=>rfl) W3 ?_|refine CT (λ_=>rfl) (λ_=>rfl) (by rw[O1];omega) (by decide) ?_|refine Ap.dele (λ_=>rfl) (λ_=>rfl) a (by decide) ?_|refine CR (λ_=>rfl) (λ_=>rfl) (by rw[O1];omega) (by decide) ?_|refine C8 ?_)
 refine CF rfl rfl ?_;exact wB
theorem zQ(h:ac)(E:List Int)(i:Nat)(a:aR h E)(e:i<h.H.length):aP Tryz.prog 193 false [.ptr (br h),.val none [I (i:Nat)]] [.ptr (br (giveP h i)),.val none [I (i:Nat)]] (.tup []) []:=by
 have b:=a.lens;have g:=b.spans;have c:=ah e;have j:=mb {h with H:=dele h.H i} (nth h.H i).Q a.ker;have d:=gt {h with M:=dM h.M (nth h.H i).Q,H:=dele h.H i};rw[show dC {h with M:=dM h.M (nth h.H i).Q,H:=dele h.H i} = dC h from(pG _ _).1]at d;have k:dC h<=32:=b.ents;have l:=lE (dC h:Nat) h.o ⟨(nth h.H i).Q,1⟩ ω ⟨by grind [oy.free],λ_ _=>trivial⟩;refine fM 52 [(173,[2,0])] [(1,273,[13,14,15,16,17,18,19,20,22,23,24,25,26,27,28,30,31,0,1,2,3,4,5,6,7,9,10,11,12,13,14,15,8,1000,1009,1010,1011,1012,1013,1014,1015,16,1000,17,18,19]),(1048577,0,[6]),(3,270,[38,39,40,41,42,43,44,45,47,37,48,49,50,51,0,1,2,3,4,5,6,7,8,1000,1001,1002,1003,1004,1005,1006,9,10,11,12,13,14,15,1012])] [(0,0),(0,0)] Tryz.func193 rfl (λu q=>?_) (.inr trivial)
 repeat'(first|refine gP ?_|(conv=>whnf);first|with_reducible refine CA (aa c) ?_|refine C8 ?_|refine F6.mk rfl (BL h.H) rfl ?_|refine CU i rfl (by rw[X0];omega) (aM λ_=>rfl) V3 ?_|refine Sl.suf (i+1) rfl (by rw[X0];omega) (aM λ_=>rfl) W3 ?_|refine CT (λ_=>rfl) (λ_=>rfl) (by rw[O1];omega) (by decide) ?_|refine Ap.dele (λ_=>rfl) (λ_=>rfl) ω (by decide) ?_|refine CR (λ_=>rfl) (λ_=>rfl) (by rw[O1];omega) (by decide) ?_|refine CG rfl (aa c) rfl ?_|refine C8 ?_|refine CJ (j) (.inl rfl) ?_|refine CH (d) ⟨bz _,trivial⟩ ?_|refine CH (l) ⟨⟨rfl,rfl⟩,⟨rfl,dI h.o⟩,⟨rfl,rfl⟩,trivial⟩ ?_)
 refine CF rfl rfl ?_;exact wB
end Go.Proofs.YtifeilefdakapaaGreatDoor.Ab
