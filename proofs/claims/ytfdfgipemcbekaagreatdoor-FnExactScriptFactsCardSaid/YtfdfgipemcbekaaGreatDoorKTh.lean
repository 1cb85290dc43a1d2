/- The list of objects kept beside a heap: the reference's. No condition. -/
import Derived.Test.YtfdfgipemcbekaaGreatDoorKTd
import Derived.Test.YtfdfgipemcbekaaGreatDoorKTg
import Derived.Test.YtfdfgipemcbekaaGreatDoorKTf
import Derived.Test.YtfdfgipemcbekaaGreatDoorKTe
import Derived.Laws.StructEq
set_option linter.unusedVariables false
set_option linter.defProp false
set_option linter.unusedSimpArgs false
set_option linter.constructorNameAsVariable false
namespace Go.Proofs.YtfdfgipemcbekaaGreatDoor.Ab
open Go.RowKit
set_option maxRecDepth 20000
set_option maxHeartbeats 4000000
theorem Pe(x:List aQ):fz (.s .own (x.map (aQ.enc .own)))=.s .R (x.map (aQ.enc .R)):=(List.cons.inj (List.cons.inj (Cm ⟨0,x⟩)).2).1
def bT:∀a b:List C,dw (a++b)=dw a++dw b
 | [],_=>rfl
 | x::xs,b=>by show fz x::dw (xs++b)=fz x::(dw xs++dw b);rw[bT xs b]
def fm(r:a7)(c:a7.sml r):zzA 56 false [.val (some 2) (a7.enc .R r)] .agg (a7.enc .own r):=by
 have e:r.K.length<=1048576:=c.1;refine fO 36 [(5,272,[15,16,17,18,19,20,21,22,23,24,25,26,27,28,29,34,0,1,2,3,4,5,6,7,8,9,10,11,12,13,14,15,1000,1001,1002,1003,1004,1005,1006,1007,16,1000,1001,17,1000,1001,18,19,20])] Tryz.func56 rfl ?_ (.inr (a7.enc_fr _))
 refine σP ?_
 refine lp0 r.K.length (λi=>[(1,bF (a7.enc .R r)),(2,bF [I 0,.z]),(3,bF [I r.o,.s .own ((r.K.take i).map (aQ.enc .own))]),(4,fN i)]) λi g=>?_
 by_cases b:i<r.K.length
 ·have d:=ar b
  have a:(nth r.K i).V.length<=1048576:=c.2 _ (ax b)
  repeat'(first|refine gE ?_|refine Ce (λ_=>rfl) (λ_=>rfl) a qs ?_|refine CX (λ_=>rfl) (λ_=>rfl) a qs ?_|refine Cc (aI λ_=>rfl) rfl kd qs (fx b) ?_)
  (exact cV (i+1) ω)
 refine σE ?_
 obtain rfl:i=r.K.length:=ω
 rw[CA]
 rfl
def jh(r:a7)(id:Int)(g:r.K.length<=1048576):zzA 209 false [.val (some 2) (a7.enc .R r),.vI id] .one [I (mT r id)]:=by
 refine fO 22 [] Tryz.func209 rfl ?_
 refine σP ?_
 refine gl r.K.length (λi=>[(1,fI id),(2,bF (a7.enc .R r)),(5,fN i)]) (λi=>∀(j:Nat)(z:aQ),j<i->r.K[j]? = some z->ib id z=false) (λj z h=>ω) λi c=>?_
 obtain⟨c,b⟩:=c;by_cases d:i<r.K.length
 ·have a:=ar d
  by_cases e:(nth r.K i).Id=id
  ·refine σB ?_
   exact nr (dJ a (O0 e) b).symm
  refine σB ?_
  (exact cV (i+1) ⟨ω,fh a (Z0 e) b⟩)
 refine σE ?_
 exact nr (f8 ω b).symm
def oQ(r:a7)(c:C)(h:Nq c):fy (a7.enc .own r++[c]):=ay (a7.enc_fr _) ⟨h,tV1⟩
def D5(r:a7)(n:Int)(m:Nat)(b:qu r m)(h:m<=1000)(c:1<=n/\n<=1000):zzA 47 false [.val (some 2) (a7.enc .R r),.vI n] (.tup [some 2,none]) (a7.enc .R (iW r n)++[I r.o]):=by
 have i:=b.sml h;have d:=b.len;have j:=b.nx;have k:=fm r i;have e:=aK n 1 1000;rw[O0 c]at e;have key:zzA 47 false [.val (some 2) (a7.enc .R r),.vI n] (.tup [some 2,none]) (a7.enc .own (iW r n)++[I r.o]):=by
  have a:=oQ (iW r n) (I r.o) tV1;unfold iW at a |-;rw[CJ c]at a |-;have l:a7.enc .own {r with o:=r.o+1,K:=r.K++[⟨r.o,List.replicate n.toNat 0⟩]} = [I (r.o+1),.s .own (r.K.map (aQ.enc .own)++[[I r.o,.s .own (List.replicate n.toNat [I 0])]])]:=by
   simp[a7.enc,aQ.enc,rI]
  rw[l]at a |-;refine fO 30 [ς1e,ς1f] Tryz.func47 rfl ?_ (.inr a)
  repeat'(first|refine gP ?_|refine Mk.mk n.toNat ω ω ω (yt ω qs) rfl ?_|refine Cc (aI λ_=>rfl) rfl kd qs rfl ?_)
  rfl
 have g:=key.fzR;rw[bT,Cm]at g;exact g
def FM(r:a7)(id:Int)(m:Nat)(d:qu r m)(k:m<=1000):zzA 100 true [.val (some 2) (a7.enc .R r),.vI id] (.tup [some 2,none]) (a7.enc .R (jI r id)++[B (!decide (mT r id<0))]):=by
 have g:=d.sml k;have h:=d.len;have i:=fm r g;have b:=jh r id g.1;by_cases e:mT r id<0
 ·have key:zzA 100 true [.val (some 2) (a7.enc .R r),.vI id] (.tup [some 2,none]) (a7.enc .own r++[B false]):=by
   refine fO 30 [ς1g,(1048581,6,[1])] Tryz.func100 rfl ?_ (.inl rfl)
   refine σE ?_
   rfl
  have a:=key.fzR;rw[bT,Cm]at a;unfold jI;rw[CJ e,O0 e];exact a
 have n:jI r id = {r with K:=dele r.K (mT r id).toNat}:=by unfold jI;rw[CI e]
 obtain⟨t,u,w⟩:=eL (ib id) r.K (by unfold mT at e;omega);obtain⟨j,c⟩:=C5 (show 0<=mT r id by omega);have o:j<r.K.length:=by unfold mT at c;omega
 have key:zzA 100 true [.val (some 2) (a7.enc .R r),.vI id] (.tup [some 2,none]) ([I r.o,.s .own ((dele r.K j).map (aQ.enc .R))]++[B true]):=by
  rw[c]at b;refine fO 30 [ς1g,(1048581,6,[1])] Tryz.func100 rfl ?_ (.inl rfl)
  repeat'(first|refine gE ?_|refine L8.mk rfl (Pe r.K) rfl ?_|refine Ca j rfl ϰ (aI λ_=>rfl) C8 ?_|refine Ci (j+1) ω ϰ (aI λ_=>rfl) I8 ?_|refine CX (λ_=>rfl) (λ_=>rfl) θ qs ?_|refine Ce (λ_=>rfl) (λ_=>rfl) θ qs ?_|refine Ap.dele (λ_=>rfl) (λ_=>rfl) ω qs ?_)
  rfl
 have a:=key.fzR;have p:dw ([I r.o,.s .own ((dele r.K j).map (aQ.enc .R))]++[B true])=a7.enc .R (jI r id)++[B (!decide (mT r id<0))]:=by
  have:∀l:List aQ,fzR (l.map (aQ.enc .R))=l.map (aQ.enc .R):=λl=>by
   induction l with
   | nil=>rfl
   | cons x xs q=>rw[SB,fzR,q,<-aQ.enc_fz,rU]
  rw[n,c,Z0 ω];simp[dw,fz,a7.enc,this]
 rw[p]at a;exact a
def D4(r:a7)(id a v:Int)(m:Nat)(o:qu r m)(D:m<=1000)(h:0<=mT r id)(c:0<=a/\a<=(nth r.K (mT r id).toNat).V.length - 1)(p:0<=v/\v<=999):zzA 102 false [.val (some 2) (a7.enc .R r),.vI id,.vI a,.vI v] (.tup [some 2,none]) (a7.enc .R (dM r id a v)++[B true]):=by
 have k:=o.sml D;have q:=o.len;have E:=fm r k;have t:=jh r id k.1;obtain⟨J,K,L⟩:=eL (ib id) r.K h;obtain⟨j,l⟩:=C5 h;have d:j<r.K.length:=by unfold mT at l;omega
 have e:=ar d;have F:(nth r.K j).V.length<=1048576:=k.2 _ (ax d);obtain⟨b,g⟩:=C5 c.1;have G:dM r id a v = {r with K:=r.K.set j ⟨(nth r.K j).Id,(nth r.K j).V.set b v⟩}:=by
  unfold dM;rw[CJ ⟨h,c,p⟩,l,g];rfl
 rw[l]at t c;rw[g]at c |-;simp only[Z4]at c;have u:=ar (xs:=(nth r.K j).V) (i:=b) ω;have w:=aK (b:Nat) 0 (((nth r.K j).V.length:Nat) - 1:Int);rw[O0 ω]at w;have y:=aK v 0 999;rw[O0 p]at y;have key:zzA 102 false [.val (some 2) (a7.enc .R r),.vI id,.vI (b:Nat),.vI v] (.tup [some 2,none]) (a7.enc .own (dM r id (b:Nat) v)++[B true]):=by
  have n:=oQ (dM r id (b:Nat) v) (B true) tV1;rw[<-g,G]at n |-;have H:a7.enc .own {r with K:=r.K.set j ⟨(nth r.K j).Id,(nth r.K j).V.set b v⟩} = [I r.o,.s .own ((r.K.map (aQ.enc .own)).set j [I (nth r.K j).Id,.s .own (((nth r.K j).V.map (rI .own)).set b [I v])])]:=by
   simp[a7.enc,aQ.enc,rI,CC]
  rw[H]at n |-;rw[g];refine fO 48 [] Tryz.func102 rfl ?_ (.inr n)
  repeat'(first|refine gE ?_|with_reducible refine CO ω (aa e) ?_|refine Pu.two rfl rfl (aa e) rfl rfl rfl (aa u) rfl (O5 _) rfl ?_)
  rfl
 have C:=key.fzR;rw[bT,Cm]at C;exact C
def HI(r:a7)(id n:Int)(m:Nat)(l:qu r m)(u:m<=1000)(g:0<=mT r id)(c:1<=n/\n<=(nth r.K (mT r id).toNat).V.length):zzA 104 false [.val (some 2) (a7.enc .R r),.vI id,.vI n] (.tup [some 2,none]) (a7.enc .R (eO r id n)++[B true]):=by
 have h:=l.sml u;have o:=l.len;have w:=fm r h;have p:=jh r id h.1;obtain⟨E,F,G⟩:=eL (ib id) r.K g;obtain⟨j,i⟩:=C5 g;have a:j<r.K.length:=by unfold mT at i;omega
 have d:=ar a;have y:(nth r.K j).V.length<=1048576:=h.2 _ (ax a);obtain⟨b,e⟩:=C5 (show 0<=n by omega);have C:eO r id n = {r with K:=r.K.set j ⟨(nth r.K j).Id,(nth r.K j).V.take b⟩}:=by
  unfold eO;rw[CJ ⟨g,c⟩,i,e];rfl
 rw[i]at p c;rw[e]at c |-;simp only[Z4]at c;have q:=aK (b:Nat) 1 (((nth r.K j).V.length:Nat):Int);rw[O0 ω]at q;have key:zzA 104 false [.val (some 2) (a7.enc .R r),.vI id,.vI (b:Nat)] (.tup [some 2,none]) (a7.enc .own (eO r id (b:Nat))++[B true]):=by
  have k:=oQ (eO r id (b:Nat)) (B true) tV1;rw[<-e,C]at k |-;have D:a7.enc .own {r with K:=r.K.set j ⟨(nth r.K j).Id,(nth r.K j).V.take b⟩} = [I r.o,.s .own ((r.K.map (aQ.enc .own)).set j [I (nth r.K j).Id,.s .own (((nth r.K j).V.take b).map (rI .R))])]:=by
   simp only[a7.enc,CC]
   rfl
  rw[D]at k |-;rw[e];refine fO 46 [ςy] Tryz.func104 rfl ?_ (.inr k)
  repeat'(first|refine gE ?_|with_reducible refine CO ω (aa d) ?_|refine Ca b rfl ϰ (aI λ_=>rfl) C8 ?_|refine Ce (λ_=>rfl) (λ_=>rfl) θ qs ?_|refine CX (λ_=>rfl) (λ_=>rfl) θ qs ?_|refine CS rfl rfl (aa d) rfl δ rfl ?_)
  rfl
 have t:=key.fzR;rw[bT,Cm]at t;exact t
def Hi(r:a7)(id a v:Int)(m:Nat)(h:qu r m)(l:m<=1000)(u:0<=v/\v<=999):∃b:Bool,zzA 102 false [.val (some 2) (a7.enc .R r),.vI id,.vI a,.vI v] (.tup [some 2,none]) (a7.enc .R (dM r id a v)++[B b]):=by
 by_cases i:0<=mT r id
 ·by_cases d:0<=a/\a<=(nth r.K (mT r id).toNat).V.length - 1
  ·exact⟨true,D4 r id a v m h l i d u⟩
  refine⟨false,?_⟩;have c:=h.sml l;have o:=h.len;have n:=fm r c;have k:=jh r id c.1;obtain⟨C,D,E⟩:=eL (ib id) r.K i;obtain⟨j,p⟩:=C5 i;have e:j<r.K.length:=by unfold mT at p;omega
  have q:=ar e;have w:(nth r.K j).V.length<=1048576:=c.2 _ (ax e);have y:dM r id a v=r:=by unfold dM;rw[CI (λx=>d x.2.1)]
  rw[p]at k d;simp only[Z4]at d;have t:=aK a 0 (((nth r.K j).V.length:Nat) - 1:Int);rw[Z0 d]at t;rw[y];have key:zzA 102 false [.val (some 2) (a7.enc .R r),.vI id,.vI a,.vI v] (.tup [some 2,none]) (a7.enc .own r++[B false]):=by
   refine fO 48 [] Tryz.func102 rfl ?_ (.inr (oQ r (B false) tV1))
   refine σE ?_
   rfl
  have g:=key.fzR;rw[bT,Cm]at g;exact g
 refine⟨false,?_⟩;have c:=h.sml l;have n:=fm r c;have k:=jh r id c.1;rw[show dM r id a v=r by unfold dM;rw[CI (λx=>i x.1)]];have key:zzA 102 false [.val (some 2) (a7.enc .R r),.vI id,.vI a,.vI v] (.tup [some 2,none]) (a7.enc .own r++[B false]):=by
  refine fO 48 [] Tryz.func102 rfl ?_ (.inr (oQ r (B false) tV1))
  refine σE ?_
  rfl
 have g:=key.fzR;rw[bT,Cm]at g;exact g
def K9(r:a7)(id n:Int)(m:Nat)(g:qu r m)(k:m<=1000):∃b:Bool,zzA 104 false [.val (some 2) (a7.enc .R r),.vI id,.vI n] (.tup [some 2,none]) (a7.enc .R (eO r id n)++[B b]):=by
 by_cases h:0<=mT r id
 ·by_cases c:1<=n/\n<=(nth r.K (mT r id).toNat).V.length
  ·exact⟨true,HI r id n m g k h c⟩
  refine⟨false,?_⟩;have a:=g.sml k;have o:=g.len;have l:=fm r a;have i:=jh r id a.1;obtain⟨y,C,D⟩:=eL (ib id) r.K h;obtain⟨j,p⟩:=C5 h;have d:j<r.K.length:=by unfold mT at p;omega
  have q:=ar d;have u:(nth r.K j).V.length<=1048576:=a.2 _ (ax d);have w:eO r id n=r:=by unfold eO;rw[CI (λx=>c x.2)]
  rw[p]at i c;simp only[Z4]at c;have t:=aK n 1 (((nth r.K j).V.length:Nat):Int);rw[Z0 c]at t;rw[w];have key:zzA 104 false [.val (some 2) (a7.enc .R r),.vI id,.vI n] (.tup [some 2,none]) (a7.enc .own r++[B false]):=by
   refine fO 46 [ςy] Tryz.func104 rfl ?_ (.inr (oQ r (B false) tV1))
   refine σE ?_
   rfl
  have e:=key.fzR;rw[bT,Cm]at e;exact e
 refine⟨false,?_⟩;have a:=g.sml k;have l:=fm r a;have i:=jh r id a.1;rw[show eO r id n=r by unfold eO;rw[CI (λx=>h x.1)]];have key:zzA 104 false [.val (some 2) (a7.enc .R r),.vI id,.vI n] (.tup [some 2,none]) (a7.enc .own r++[B false]):=by
  refine fO 46 [ςy] Tryz.func104 rfl ?_ (.inr (oQ r (B false) tV1))
  refine σE ?_
  rfl
 have e:=key.fzR;rw[bT,Cm]at e;exact e
set_option maxHeartbeats 2000000
def QP(x:List Int)(e:kK x):zzA 18 false [.val none (aE .R x)] .one (aE .own x):=by
 refine fO 22 [] Tryz.func18 rfl ?_ (.inr (bH x));have g:x.length<=1048576:=e;have a:(x.map (rI .own)).length=(List.replicate x.length ([I 0]:List C)).length:=by simp
 repeat'(first|refine gP ?_|refine Mk.mk _ rfl rfl ω (yt g qs) rfl ?_)
 refine Lp.mk (ι:=Nat) (λi=>[(0,bK (aE .R x)),(3,bK [.s .own (uD (x.map (rI .own)) (List.replicate x.length [I 0]) i)]),(4,fN i)]) (λi=>i<=x.length) (λi=>x.length - i) 0 ?_ (C1 _) λi h=>?_
 ·rw[Br]
  exact wA
 by_cases b:i<x.length
 ·obtain⟨y,d⟩ : ∃y,x[i]? = some y:=⟨_,Z3 b⟩
  have c:=H3 a i kd;rw[Vu b]at c
  repeat'(first|refine gE ?_|with_reducible refine CH c ?_|refine CS rfl rfl c rfl (O5 _) rfl ?_|refine CP (i+1) ω ω ?_)
  repeat'(first|exact tV1|rfl|exact CQ rfl (CQ (I1 (C.s ek.own) (uL a (aa d))) tV1)|refine CQ ?_ ?_)
 refine σE ?_
 rw[FY _ a kd]
 rfl
set_option maxHeartbeats 2000000
def Qw(x:List Int)(left:Int)(b:0<=left)(h1:left<=1048576)(a:gp x):zzA 13 false [.val none (aE .R x),.vI left] .one [I (X7 (szIntS x) left)]:=by
 refine fO 12 [] Tryz.func13 rfl ?_;have c:=a.1
 repeat'(first|refine gE ?_|refine gS (λh=>?_) (λh=>?_)|fail)
 all_goals exact nr (by unfold X7 szIntS;split<;>omega)
set_option maxHeartbeats 2000000
theorem PY(a b:List Int)(p:kK a):zzA 22 false [.val none (aE .R a),.val none (aE .R b)] .one [B (decide (a=b))]:=by
 refine fO 26 [ρ 6 9 17] Tryz.func22 rfl ?_;have r:a.length<=1048576:=p
 repeat'(first|refine gP ?_|refine gS (λh=>?_) (λh=>?_)|fail)
 ·refine bY (Z0 λe=>?_).symm
  subst e;omega
 have k:a.length=b.length:=ω
 (conv=>whnf)
 refine gl a.length (λi=>[(0,bK (aE .R a)),(1,bK (aE .R b)),(5,fN i)]) (λi=>∀j,j<i->a[j]? = b[j]?) (λj q=>ω) λi l=>?_
 obtain⟨l,c⟩:=l;by_cases g:i<a.length
 ·obtain⟨x,n⟩ : ∃x,a[i]? = some x:=⟨_,Z3 g⟩
  obtain⟨y,o⟩ : ∃y,b[i]? = some y:=⟨_,Z3 ω⟩
  repeat'(first|refine gE ?_|refine gS (λh=>?_) (λh=>?_)|fail)
  all_goals first
   |(show [B false]=[B (decide (a=b))]
     refine bY (Z0 λe=>?_).symm;subst e
     simp_all)
   | ((conv=>whnf)
      refine CP (i+1) ⟨ω,λj q=>?_⟩ ω ?_
      · rcases Nat.lt_or_ge j i with d|d
        · exact c j d
        obtain rfl:j=i:=ω
        rw[n,o]
        simp_all
      exact wA)
 refine σE ?_
 refine bY (O0 ?_).symm;refine List.ext_getElem? λj=>?_
 rcases Nat.lt_or_ge j i with d|d
 ·exact c j d
 rw[I4 ω,I4 ω]
def pK(m:aL):∀(n i:Nat),i<n->((nth m.T i).length:Int)+(nth m.w i).length<=bM m n/\0<=bM m n
 | 0,i,h=>absurd h (Nat.not_lt_zero i)
 | n+1,i,h=>by
  have a:0<=bM m n:=by
   cases n with
   | zero=>exact Z9 _
   | succ k=>exact(pK m (k+1) 0 ω).2
  simp only[bM];by_cases e:i=n
  ·subst e;omega
  have:=(pK m n i ω).1;omega
structure jK(m:aL):Prop where
 b4:1<=m.T.length/\m.T.length<=4
 i4:m.w.length=m.T.length
 bl:∀i,i<m.T.length->(nth m.T i).length<=30
 il:∀i,i<m.T.length->(nth m.w i).length<=30
variable{m:aL}
def jK.of(h:bE m=true):jK m:=by
 obtain⟨⟨b,c,d⟩,-,e⟩:=dQ.1 h;exact⟨⟨b,c⟩,d,λi a=>by have:=(pK m m.T.length i a).1;omega,λi a=>by have:=(pK m m.T.length i a).1;omega⟩
def jK.sml(h:jK m):aL.sml m:=by
 have c:=h.b4;have d:=h.i4;refine⟨⟨ω,λl a=>?_⟩,⟨ω,λl a=>?_⟩⟩
 ·obtain⟨i,b,rfl⟩:=b9 a
  have:=h.bl i b;exact⟨ω,λ_ _=>tV1⟩
 obtain⟨i,b,rfl⟩:=b9 a;have:=h.il i ω;show(nth m.w i).length<=1048576;omega
def uZ(m:aL)(k:Int)(a:aL.sml m):zzA 213 false [.val (some 2) (aL.enc .R m),.vI k] .one [B (bE m&&decide (0<=k/\k<=m.T.length - 1))]:=by
 have b:=np m a;have c:m.T.length<=1048576:=a.1.1;cases e:bE m<;>rw[e]at b
 all_goals
  refine fO 15 [] Tryz.func213 rfl ?_
  repeat'(first|refine gP ?_|apply CF (aK k 0 (m.T.length - 1:Int)))
  all_goals rfl
variable{f:Nat}
def UO(a:f<m.T.length):m.T[f]? = some (nth m.T f):=ar a
def wZ(m:aL)(f:Nat)(p:cX):aL.enc .own (fT m f p)=[.s .own ((m.T.map (bL .own)).set f (bL .own (nth m.T f++[p]))),.s .own (m.w.map (aE .own))]:=by simp[aL.enc,fT,CC]
def Ex(h:jK m)(c:f<m.T.length)(p:cX):aL.sml (fT m f p):=by
 have d:=h.b4;have b:=h.sml;refine⟨⟨by simp only[fT,O2];omega,λl a=>?_⟩,b.2⟩;rcases SC a with a|rfl
 ·exact b.1.2 l a
 have:=h.bl f c;exact⟨by simp;omega,λ_ _=>tV1⟩
def Qg(m:aL)(f:Nat)(p:cX)(j:bE m=true)(g:f<m.T.length):zzA 205 false [.val (some 2) (aL.enc .R m),.vI (f:Nat),.val (some 2) (cX.enc .R p)] (.tup [some 2,none]) (aL.enc .own (if bE (fT m f p)=true then fT m f p else m)++[B (bE (fT m f p))]):=by
 have c:=jK.of j;have k:=c.sml;have q:=c.b4;have h:=uZ m f k;rw[j,O0 ω]at h;have l:=gy m k;have b:=Ex c g p;have i:=np (fT m f p) b;have n:=gy (fT m f p) b;have a:=UO g;have o:=c.bl f g;have d:=Ct (fT m f p);rw[wZ]at d;cases e:bE (fT m f p)<;>rw[e]at i
 ·rw[CI ϕ]
  refine fO 35 [ςg] Tryz.func205 rfl ?_ (.inr (ay (Cs _) ⟨tV1,tV1⟩))
  repeat'(first|refine gP ?_|refine CH (cn a) ?_|refine CK rfl (cn a) rfl ?_|refine Lq.one rfl rfl (aa a) rfl δ rfl rfl ?_|refine CS rfl rfl (cn a) rfl δ (show [C.s ek.own ((m.T.map (bL .own)).set f (bL .own (nth m.T f++[p]))),C.s .own (m.w.map (aE .own))]=_ from by simp only[List.set_cons_zero,List.set_set,Z4];rfl) ?_|refine Cf (aI λ_=>rfl) rfl kd qs (en _ _ _) ?_|refine CL (i) ⟨⟨rfl,d⟩,tV1⟩ ?_)
  rfl
 rw[CJ rfl];refine fO 35 [ςg] Tryz.func205 rfl ?_ (.inr (ay (Cs _) ⟨tV1,tV1⟩))
 repeat'(first|refine gP ?_|refine CH (cn a) ?_|refine CK rfl (cn a) rfl ?_|refine Lq.one rfl rfl (aa a) rfl δ rfl rfl ?_|refine CS rfl rfl (cn a) rfl δ (show [C.s ek.own ((m.T.map (bL .own)).set f (bL .own (nth m.T f++[p]))),C.s .own (m.w.map (aE .own))]=_ from by simp only[List.set_cons_zero,List.set_set,Z4];rfl) ?_|refine Cf (aI λ_=>rfl) rfl kd qs (en _ _ _) ?_|refine CL (i) ⟨⟨rfl,d⟩,tV1⟩ ?_|refine CL (n) ⟨⟨rfl,d⟩,tV1⟩ ?_)
 rfl
def MV(m:aL)(f:Int)(a:bE m=true)(d:¬(0<=f/\f<=m.T.length - 1)):zzA 105 false [.val (some 2) (aL.enc .R m),.vI f] (.tup [some 2,none]) (aL.enc .own m++[B false]):=by
 have e:=jK.of a;have b:=e.sml;have c:=uZ m f b;rw[a,Z0 d]at c;have g:=gy m b;refine fO 60 [ςz,ς10] Tryz.func105 rfl ?_ (.inr (ay (Cs _) ⟨tV1,tV1⟩))
 refine σP ?_
 rfl
def za(m:aL)(f t:Nat)(a:(nth (nth m.T f) 0).To=t):aL.enc .own (gg m f)=[.s .own ((m.T.map (bL .own)).set f [.s .own (((nth m.T f).drop 1).map (cX.enc .R))]),.s .own ((m.w.map (aE .own)).set t (aE .own (nth m.w t++[(nth (nth m.T f) 0).U])))]:=by
 unfold aL.enc gg;simp only[CC,a,Z4]
 rfl
def KT(m:aL)(f:Nat)(h:bE m=true)(i:f<m.T.length):zzA 105 false [.val (some 2) (aL.enc .R m),.vI (f:Nat)] (.tup [some 2,none]) (aL.enc .own (if 0<(nth m.T f).length then gg m f else m)++[B (decide (0<(nth m.T f).length))]):=by
 have d:=jK.of h;have u:=d.sml;have J:=d.b4;have D:=d.i4;have j:=uZ m f u;rw[h,O0 ω]at j;have w:=gy m u;have a:=UO i;have E:=d.bl f i;by_cases e:0<(nth m.T f).length
 ·rw[CJ e,O0 e]
  have g:=((dQ.1 h).2.1 f i).1 _ (ax e);obtain⟨t,k⟩:=C5 g.1;have l:t<m.w.length:=ω
  have y:=ar e;have c:=ar l;have F:=d.il t ω;have n:=(jK.of (JN h i e)).sml;have G:=gy (gg m f) n;have o:=Ct (gg m f);rw[za m f t k]at o;have q:=ay (b:=[B true]) (Cs (gg m f)) ⟨tV1,tV1⟩;generalize K:nth (nth m.T f) 0=p at *;obtain⟨L,H⟩:=p;simp only at k g o;subst k;refine fO 60 [ςz,ς10] Tryz.func105 rfl ?_ (.inr q)
  repeat'(first|refine gB ?_|refine gS (λr=>?_) (λr=>?_)|apply CO qs (aa y)|refine CH (cn a) ?_|refine CH (cn c) ?_|refine CK rfl (cn a) rfl ?_|refine CK rfl (cn c) rfl ?_|refine Lq.one rfl rfl (aa c) rfl δ rfl rfl ?_|refine Ci 1 rfl ϰ (aI λ_=>rfl) I8 ?_|refine Ce (λ_=>rfl) (λ_=>rfl) ε qs ?_|refine CX (λ_=>rfl) (λ_=>rfl) ε qs ?_|refine CS rfl rfl (aa a) rfl δ rfl ?_|refine CS rfl rfl (cn c) rfl δ (show [C.s ek.own ((m.T.map (bL .own)).set f [.s .own (((nth m.T f).drop 1).map (cX.enc .R))]),C.s .own ((m.w.map (aE .own)).set t (aE .own (nth m.w t++[H])))]=_ from by simp only[List.set_cons_zero,List.set_cons_succ,List.set_set,Z4];rfl) ?_|refine Cf (aI λ_=>rfl) rfl kd qs (en _ _ _) ?_|refine CL (G) ⟨⟨rfl,o⟩,tV1⟩ ?_)
  rfl
 rw[CI e,Z0 e];refine fO 60 [ςz,ς10] Tryz.func105 rfl ?_ (.inr (ay (Cs _) ⟨tV1,tV1⟩))
 repeat'(first|refine gB ?_|refine gS (λr=>?_) (λr=>?_)|fail)
 rfl
variable{r:List C}
def QY.set(rows:List (List C))(i:Nat){r':List C}(h:TL r r'):QY (.s .own (rows.set i r)) (.s .own (rows.set i r')):=by
 refine .own_ _ _ ϕ (λj a b d f=>?_) (λj l a b c o d f n g=>?_)
 ·by_cases e:i=j
  ·subst e
   have k:i<rows.length:=by have:=(C4.1 d).1;simpa using this
   rw[Z6 k]at d f;cases d;cases f;exact h.1
  rw[List.getElem?_set_ne e]at d f;rw[d]at f;cases f;rfl
 by_cases e:i=j
 ·subst e
  have k:i<rows.length:=by have:=(C4.1 d).1;simpa using this
  rw[Z6 k]at d f;cases d;cases f;exact h.2 l c o n g
 rw[List.getElem?_set_ne e]at d f;rw[d]at f;cases f;rw[n]at g;cases g;exact .rfl_ _
def Gg(m:aL)(t:Nat)(d:bE m=true)(h:t<m.T.length):zzA 214 false [.val (some 2) (aL.enc .R m),.vI (t:Nat)] (.tup [some 2,none]) (aL.enc .own (jl m t)++aE .own (nth m.w t)):=by
 have b:=jK.of d;have e:=b.sml;have o:=b.b4;have j:=b.i4;have g:=uZ m t e;rw[d,O0 ω]at g;have k:=gy m e;have c:=ar (xs:=m.w) (i:=t) ω;have l:=b.il t h;have a:=ay (Cs (jl m t)) (bH (nth m.w t));have n:aL.enc .own (jl m t)=[.s .own (m.T.map (bL .own)),.s .own ((m.w.map (aE .own)).set t [.s .own []])]:=by simp[aL.enc,jl,CC];rfl
 rw[n]at a |-;refine fO 28 [(5,263,[20,21,22,23,24,25,26,0,1,2,3,4,5,6,7,1000,8,9])] Tryz.func214 rfl ?_ (.inr a)
 repeat'((conv=>whnf);first|with_reducible (first|refine Lm ?_|refine Wm ω ?_|refine CH (aa c) ?_|refine Bn ?_|refine cF.dk rfl ?_)|refine Bt ?_|refine Bu ?_|refine CG ?_|refine CF (g) ?_|refine CF (k) ?_|refine CK rfl (aa c) rfl ?_|refine CS rfl rfl (aa c) rfl δ rfl ?_|refine Ce (λ_=>rfl) (λ_=>rfl) ω qs ?_|refine CX (λ_=>rfl) (λ_=>rfl) ω qs ?_|refine CG ?_)
 exact .cons (.rfl_ _) (.cons (QY.set _ _ (.cons .z_ .nil)) (.cons (.rfl_ _) .nil))
def G9(now:Int):∀{l:List aO}{i:Nat},i<=l.length->(∀j,j<i->(nth l j).b7<now - 100)->(i<l.length->¬(nth l i).b7<now - 100)->pA now l=i
 | [],i,h,_,_=>by simp at h;subst h;rfl
 | x::xs,0,_,_,h=>by
  unfold pA;exact CI (h ϕ)
 | x::xs,i+1,b,a,c=>by
  unfold pA;refine(CJ (a 0 ω)).trans ?_;rw[G9 now (l:=xs) (i:=i) (by simp at b;omega) (λj d=>a (j+1) ω) (λe=>c kd)]
def Kx(q:bz)(now:Int):List C:=bz.enc .own ⟨q.c0,q.a0.drop (pA now q.a0)⟩++cA .own (q.a0.take (pA now q.a0))
def y1(q:bz)(now:Int)(g:gj q=true)(F:q.a0.length<=4096)(u:0<=now/\now<=1000000):zzA 108 false [.val (some 2) (bz.enc .R q),.vI now,.vI 100] (.tup [some 2,none]) (Kx q now):=by
 have w:bz.sml q:=⟨ω,λ_ _=>tV1⟩
 have n:=rn q w;rw[g]at n;have o:=aK now 0 1000000;rw[O0 u]at o;have p:=aK 100 0 1000000;rw[O0 qs]at p;have h:=(iQ.1 g).1;have a:fy (Kx q now):=ay (bz.enc_fr _) (na _);have y:∀i,i<q.a0.length->0<=(nth q.a0 i).b7:=λi b=>(h _ (ax b)).2.2.2
 unfold Kx at a |-;generalize B:pA now q.a0=k at a |-;refine fO 59 [(6,270,[44,45,46,47,48,49,50,51,53,54,55,56,57,58,0,1,2,3,4,5,6,7,9,10,11,12,13,14,8,1009,1010,1011,1012,1013,1014,15,16])] Tryz.func108 rfl ?_ (.inr a)
 refine σP ?_
 refine gl q.a0.length (λi=>[(1,fI now),(2,fI 100),(3,bF (bz.enc .R q)),(6,bF [I 0,.z]),(8,fN i)]) (λi=>∀j,j<i->(nth q.a0 j).b7<now - 100) (λj C=>ω) λi b=>?_
 obtain⟨b,r⟩:=b;by_cases l:i<q.a0.length/\(nth q.a0 i).b7<now - 100
 ·have c:=ar l.1
  refine σE ?_
  (exact cV (i+1) ⟨ω,λj C=>by by_cases e:j=i;(subst e;exact l.2);exact r j ω⟩)
 have d:=G9 now (i:=i) b r (λD E=>l ⟨D,E⟩);rw[B]at d;subst d;by_cases t:k<q.a0.length
 ·have c:=ar t
  have:=y k t
  repeat'(first|refine gE ?_|refine gS (λg=>?_) (λg=>?_)|refine Ca k rfl ϰ (aI λ_=>rfl) C8 ?_|refine Ci k rfl ϰ (aI λ_=>rfl) I8 ?_|refine Ce (λ_=>rfl) (λ_=>rfl) θ qs ?_|refine Ce (λ_=>rfl) (λ_=>rfl) ε qs ?_|refine CX (λ_=>rfl) (λ_=>rfl) ε qs ?_)
  rfl
 repeat'(first|refine gE ?_|refine Ca k rfl ϰ (aI λ_=>rfl) C8 ?_|refine Ci k rfl ϰ (aI λ_=>rfl) I8 ?_|refine Ce (λ_=>rfl) (λ_=>rfl) θ qs ?_|refine Ce (λ_=>rfl) (λ_=>rfl) ε qs ?_|refine CX (λ_=>rfl) (λ_=>rfl) ε qs ?_)
 rfl
def FP(h:ac)(n:Int)(g:bf h [])(r:0<=n/\n<=1000)(p:h.b2+n<=1000000):zzB 52 false [.ptr (bO h),.vI n] [.ptr (bO (tick h n)),.vI n] .one [I ((lT h n).length:Nat)]:=by
 have a:=g.nums;unfold ch at a;rw[C0]at a;have t:=g.lens.quar;have i:=y1 h.a4 (h.b2+n) g.quar ω ⟨ω,p⟩;have j:=g.aged r.1 p;unfold Kx at i;unfold tick lT aged at *;have l:(h.a4.a0.take (pA (h.b2+n) h.a4.a0)).length<=4096:=by rw[Z2];omega
 rw[Z1];generalize h.a4.a0.take (pA (h.b2+n) h.a4.a0)=out at i j l |-;generalize h.a4.a0.drop (pA (h.b2+n) h.a4.a0)=rest at i j |-;refine fM 48 [(109,[2,0])] [(2,269,[18,19,20,21,22,23,24,25,26,17,27,28,5,0,1,2,3,4,5,6,7,8,9,10,11,12,13,1011,14])] [(0,0),(0,0)] Tryz.func52 rfl (λu q=>?_)
 repeat'(first|refine gP ?_|refine CL (i) ⟨⟨rfl,bz.enc_fz h.a4⟩,⟨rfl,rfl⟩,π⟩ ?_)
 refine lp0 out.length (λk=>[(0,bF (bO (freeAs {h with b2:=h.b2+n,a4:=⟨h.a4.c0,rest⟩} ((out.map (·.U)).take k)))),(6,bK (cA .own out)),(7,fN k)]) λk y=>?_
 by_cases o:k<out.length
 ·have b:=ar o
  have c:k<(out.map (·.U)).length:=by rw[Z1];exact o
  have d:nth (out.map (·.U)) k=(nth out k).U:=bk (by rw[Z5,ar o];rfl);have e:bf (freeAs {h with b2:=h.b2+n,a4:=⟨h.a4.c0,rest⟩} ((out.map (·.U)).take k)) (nth (out.map (·.U)) k::(out.map (·.U)).drop (k+1)):=by
   refine bf.freeAs ?_;rw[<-gn c,List.take_append_drop];rw[List.append_nil]at j;exact j
  rw[d]at e;have w:=p8 _ _ _ e
  refine σE ?_
  (refine CP (k+1) ω ω ?_)
  rw[rz _ _ _ c,d];exact wC
 obtain rfl:k=out.length:=ω
 rw[ZD ϰ]
 refine σE ?_
 exact kk
def ym(t:Nat)(h:ac)(az:List Int)(k:Nat)(a:k<az.length):recycs t h (az.take (k+1))=recyc t (recycs t h (az.take k)) (nth az k):=by
 unfold recycs;rw[ZA,ar a,Option.toList_some,List.foldl_append];rfl
def y7(h:ac)(t:Nat)(a:bf h [])(i:t<h.Q.length):zzB 106 false [.ptr (bO h),.vI (t:Nat)] [.ptr (bO (collect h t)),.vI (t:Nat)] .one [I ((nth h.q.w t).length:Nat)]:=by
 have l:=a.nc;have n:=(dQ.1 a.mail).1.2.2;have j:=Gg h.q t a.mail ω;have c:=(jK.of a.mail).il t ω;have d:=a.coll (t:=t) ω;rw[List.append_nil]at d;unfold collect;generalize nth h.q.w t=out at j d c |-;refine fM 36 [(208,[2,0,0])] [] [(0,0),(0,0)] Tryz.func106 rfl (λu q=>?_)
 repeat'(first|refine gP ?_|refine CL (j) ⟨⟨rfl,Ct h.q⟩,π⟩ ?_)
 refine lp0 out.length (λk=>[(0,bF (bO (recycs t {h with q:=jl h.q t} (out.take k)))),(1,fN t),(6,bK (aE .own out)),(7,fN k)]) λk p=>?_
 by_cases e:k<out.length
 ·have b:=ar e
  have g:bf (recycs t {h with q:=jl h.q t} (out.take k)) (nth out k::out.drop (k+1)):=by
   refine bf.recycs ?_ i;rw[<-gn e,List.take_append_drop];exact d
  have o:=qk _ _ t _ g (by rw[(fQ t _ _).1];exact i)
  refine σE ?_
  (refine CP (k+1) ω ω ?_)
  rw[ym _ _ _ _ e];exact wC
 obtain rfl:k=out.length:=ω
 rw[CA]
 refine σE ?_
 exact kk
def v6(a:Int)(o:bc):Bool:=decide (o.U<=a/\a<o.U+o.k)
def LG(h:ac)(E:List Int)(a:Int)(d:bf h E):zzB 210 false [.ptr (bO h),.vI a] [.ptr (bO h),.vI a] .one [I (cu (v6 a) h.K)]:=by
 have r:=d.lens.objs;refine fM 47 [] [ρ 4 29 15] [(0,0),(0,0)] Tryz.func210 rfl (λu q=>?_)
 refine σP ?_
 refine gl h.K.length (λi=>[(0,bF (bO h)),(1,fI a),(5,fN i)]) (λi=>∀(j:Nat)(z:bc),j<i->h.K[j]? = some z->v6 a z=false) (λj z C=>ω) λi d=>?_
 obtain⟨t,c⟩:=d;by_cases e:i<h.K.length
 ·have b:=ar e
  have w:=nD ‹bf h E› (ax e);have y:0<=(nth h.K i).k/\(nth h.K i).k<=1000:=by
   rcases bf.oow ‹bf h E› _ (ax e) with⟨s,B,D,F⟩|⟨l,g,k,o⟩
   ·have G:=aJ ((bf.L ‹bf h E›).sok s B)
    have:=mC (n:=(nth h.K i).k) ω;omega
   have H:=cL ((bf.L ‹bf h E›).lok l g);omega
  by_cases k:(nth h.K i).U<=a
  ·by_cases o:a<(nth h.K i).U+(nth h.K i).k
   ·refine σE ?_
    refine CM rfl (nr (dJ b (O0 ⟨k,o⟩) c).symm) ?_;exact wC
   repeat'(first|refine gE ?_|refine gS (λp=>?_) (λp=>?_)|fail)
   (exact cV (i+1) ⟨ω,fh b (Z0 λx=>o x.2) c⟩)
  repeat'(first|refine gE ?_|refine gS (λp=>?_) (λp=>?_)|fail)
  (exact cV (i+1) ⟨ω,fh b (Z0 λx=>k x.1) c⟩)
 refine σE ?_
 refine CM rfl (nr (f8 ω c).symm) ?_;exact wC
def Ns(h:ac)(a v:Int):bO {h with G:=iH h.G a v} = (bO h).set 0 (.s .own ((h.G.F.W.V.map (aE .own)).set (au h.G.F.O (a / 16)).j.toNat ((aE .own (nth h.G.F.W.V (fe h.G a))).set 0 (.s .own (((nth h.G.F.W.V (fe h.G a)).map (rI .own)).set (a % 16).toNat (splice (rI .own (nth (nth h.G.F.W.V (fe h.G a)) (a % 16).toNat)) 0 [I v])))))):=by
 simp[bO,iH,setCell,CC,aE,splice,fe,rI]
variable{α:Type}
def Bm{p:α->Bool}{xs:List α}{x:α}(a:x∈xs)(b:p x=true):0<=cu p xs:=by
 have:=lZ p xs;rw[show xs.any p=true from O7.2 ⟨x,a,b⟩,C0]at this;exact this
def DN(h:ac)(i:Nat)(j v:Int)(e:bf h [])(C:i<h.K.length)(D:0<=j/\j<=(nth h.K i).k - 1):zzB 101 false [.ptr (bO h),.vI ((nth h.K i).U+j),.vI v]
  [.ptr (bO (if(au h.G.F.O (((nth h.K i).U+j) / 16)).y=1\/¬(0<=v/\v<=999) then h else {h with G:=iH h.G ((nth h.K i).U+j) v})),.vI ((nth h.K i).U+j),.vI v] .one [I (if(au h.G.F.O (((nth h.K i).U+j) / 16)).y=1 then 2 else if ¬(0<=v/\v<=999) then 3 else 0)]:=by
 obtain⟨E,J,K⟩:=kq e (ax C) D;have F:0<=cu (v6 ((nth h.K i).U+j)) h.K:=Bm (ax C) (O0 ω);have p:=LG h [] ((nth h.K i).U+j) e;have r:=aX e.ker;have t:=cZ h.G.F.O (((nth h.K i).U+j) / 16) r.1.2;have n:=aK v 0 999;generalize L:(nth h.K i).U+j=a at *;have b:0<=a/\a<512:=ω
 obtain⟨-,-,-,G,M⟩:=bQ e.ker E;have H:=(aT.1 (aF.1 e.ker).2.1).2.2.1;have k:fe h.G a<h.G.F.W.V.length:=by unfold fe;omega
 have d:h.G.F.W.V[(au h.G.F.O (a / 16)).j.toNat]? = some (nth h.G.F.W.V (fe h.G a)):=ar k;have w:=e.lens.row _ (ax k);have l:=ar (xs:=nth h.G.F.W.V (fe h.G a)) (i:=(a % 16).toNat) (by rw[w];omega);have B:a.tmod 16=a % 16:=dy b.1;refine fM 42 [(210,[2,0])] [ρ 8 14 27] [(0,0),(0,0),(0,0)] Tryz.func101 rfl (λu q=>?_);by_cases o:(au h.G.F.O (a / 16)).y=1
 ·rw[CJ (Or.inl o),CJ o]
  repeat'(first|refine gB ?_|refine CL (t) ⟨⟨rfl,Cn _⟩,π⟩ ?_|apply CT qs|apply CR (kV b))
  exact kk
 rw[CI (c:=_=(1:Int)) o];by_cases g:0<=v/\v<=999
 ·rw[O0 g]at n
  rw[CI (c:=¬(0<=v/\v<=999)) (Z7 g),CI (c:=_\/¬(0<=v/\v<=999)) (λy=>y.elim o λy=>y g)]
  repeat'(first|refine gB ?_|refine CL (t) ⟨⟨rfl,Cn _⟩,π⟩ ?_|apply CT qs|apply CR (kV b)|apply CY B|apply CO G (aa d)|refine CO ω (aa l) ?_|refine Pu.two rfl rfl (aa d) rfl rfl rfl (aa l) rfl (O5 _) (Ns h a v) ?_)
  exact kk
 rw[Z0 g]at n;rw[CJ (Or.inr g),CJ g]
 repeat'(first|refine gB ?_|refine CL (t) ⟨⟨rfl,Cn _⟩,π⟩ ?_|apply CT qs|apply CR (kV b))
 exact kk
def jO(l:aB)(n:Int):aC:=if(n+15) / 16<l.a2 then⟨l.S+(n+15) / 16,l.a2 - (n+15) / 16⟩ else⟨0,0⟩
def B0(l:aB)(n:Int)(d:bZ l=true):zzA 211 false [.val (some 3) (aB.enc .R l),.vI n] (.tup [some 3,some 2,none]) (if 9<=n/\n<=l.k then aB.enc .own (trimL l n)++aC.enc .own (jO l n)++[B true] else aB.enc .own l++[I 0,I 0]++[B false]):=by
 have b:=pk l;rw[d]at b;have a:=aK n 9 l.k;have g:=d;unfold bZ at g;rw[C0]at g;by_cases e:9<=n/\n<=l.k
 ·rw[O0 e]at a
  rw[CJ e];have c:=nI n;rw[show eJ n=(n+15) / 16 by unfold eJ;rw[CJ ω]]at c;unfold jO;by_cases h:(n+15) / 16<l.a2
  ·rw[CJ h]
   refine fO 43 [ς11] Tryz.func211 rfl ?_ (.inr ⟨tV1,tV1,tV1,tV1,tV1,tV1,tV1⟩)
   refine σE ?_
   rfl
  rw[CI h];refine fO 43 [ς11] Tryz.func211 rfl ?_ (.inr ⟨tV1,tV1,tV1,tV1,tV1,tV1,tV1⟩)
  refine σE ?_
  rfl
 rw[Z0 e]at a;rw[CI e];refine fO 43 [ς11] Tryz.func211 rfl ?_ (.inr ⟨tV1,tV1,tV1,tV1,tV1,tV1,tV1⟩)
 refine σP ?_
 rfl
def Hl(h:ac)(t a:Int)(c:h.Q.length<=4)(d:¬(0<=t/\t<=h.Q.length - 1)):zzB 99 false [.ptr (bO h),.vI t,.vI a] [.ptr (bO h),.vI t,.vI a] .one [I 1]:=by
 have b:=aK t 0 (h.Q.length - 1:Int);rw[Z0 d]at b;refine fM 148 [(204,[2,0]),(206,[2,0]),(208,[2,0,0]),(203,[2,0])] [ς5,ς6,ς7] [(0,0),(0,0),(0,0)] Tryz.func99 rfl (λu q=>?_)
 refine σP ?_
 exact kk
def Lo(h:ac)(i t:Nat)(a:bf h [])(j:i<h.K.length)(S:t<h.Q.length)(J:(nth h.K i).a1≠t):zzB 99 false [.ptr (bO h),.vI (t:Nat),.val none [I (nth h.K i).U]] [.ptr (bO (freeT h t i).1),.vI (t:Nat),.val none [I (nth h.K i).U]] .one [I (freeT h t i).2]:=by
 have E:=ax j;obtain⟨-,K,d⟩:=a.objAt E;have L:kb h (nth h.K i).U=i:=by
  have T:=(a.objAt E).1;exact hJ (f:=(·.U)) (gR a.osr) T j (by rw[K])
 rw[L]at d;have b:=nD a E;have U:=a.onu _ E;have n:=a.lens;have V:=n.objs;have W:=a.nc;have X:=jK.of a.mail;have Y:=X.b4;have o:=aK (t:Nat) 0 (h.Q.length - 1:Int);rw[O0 ω]at o;have p:=tN h (nth h.K i).U ω;rw[d]at p;have e:=ar j;have F:=lX (nth h.K i).k;have N:=aX a.ker;have O:=cZ h.G.F.O ((nth h.K i).U / 16) N.1.2;unfold freeT;by_cases G:aP (nth h.K i).k<0
 ·rw[CJ G]
  have Z:=sM h i a j G;refine fM 148 [(204,[2,0]),(206,[2,0]),(208,[2,0,0]),(203,[2,0])] [ς5,ς6,ς7] [(0,0),(0,0),(0,0)] Tryz.func99 rfl (λu q=>?_)
  repeat'(first|refine gE ?_|refine gS (λc=>?_) (λc=>?_)|refine CL (p) ⟨⟨rfl,bS h⟩,π⟩ ?_)
  exact kk
 rw[CI G];obtain⟨s1,s2,s3,s4⟩:=X3.of a (ax j) G;by_cases H:(au (tbl h) ((nth h.K i).U / 16)).y=1
 ·rw[CJ H]
  unfold tbl at H;refine fM 148 [(204,[2,0]),(206,[2,0]),(208,[2,0,0]),(203,[2,0])] [ς5,ς6,ς7] [(0,0),(0,0),(0,0)] Tryz.func99 rfl (λu q=>?_)
  repeat'(first|refine gB ?_|refine gS (λc=>?_) (λc=>?_)|apply CT qs|apply CR (kV b)|refine CL (p) ⟨⟨rfl,bS h⟩,π⟩ ?_|refine CL (O) ⟨⟨rfl,Cn _⟩,π⟩ ?_)
  exact kk
 rw[CI H,CI J];unfold tbl at H;have r:=Qg h.q t ⟨(nth h.K i).a1,(nth h.K i).U⟩ a.mail ω;by_cases l:bE (fT h.q t ⟨(nth h.K i).a1,(nth h.K i).U⟩)=true;rotate_left
 ·rw[CI l]
  rw[CI l,show bE (fT h.q t ⟨(nth h.K i).a1,(nth h.K i).U⟩)=false by simpa using l]at r;refine fM 148 [(204,[2,0]),(206,[2,0]),(208,[2,0,0]),(203,[2,0])] [ς5,ς6,ς7] [(0,0),(0,0),(0,0)] Tryz.func99 rfl (λu q=>?_)
  repeat'(first|refine gB ?_|refine gS (λc=>?_) (λc=>?_)|apply CT qs|apply CR (kV b)|refine CL (p) ⟨⟨rfl,bS h⟩,π⟩ ?_|refine CL (O) ⟨⟨rfl,Cn _⟩,π⟩ ?_|refine CL (r) ⟨⟨rfl,Ct h.q⟩,⟨rfl,rfl⟩,π⟩ ?_)
  exact kk
 rw[CJ l];rw[CJ l,l]at r;have w:fe h.G (nth h.K i).U<h.G.F.W.V.length:=by unfold fe;omega
 have hcz:=Ge s1;have B:=eK (aP (nth h.K i).k);unfold Fh;generalize fT h.q t ⟨(nth h.K i).a1,(nth h.K i).U⟩ = M at r;refine fM 148 [(204,[2,0]),(206,[2,0]),(208,[2,0,0]),(203,[2,0])] [ς5,ς6,ς7] [(0,0),(0,0),(0,0)] Tryz.func99 rfl (λu q=>?_)
 repeat'(first|refine gB ?_|refine gS (λc=>?_) (λc=>?_)|apply CT qs|apply CR (kV b)|refine CL (p) ⟨⟨rfl,bS h⟩,π⟩ ?_|refine CL (O) ⟨⟨rfl,Cn _⟩,π⟩ ?_|refine CL (r) ⟨⟨rfl,Ct h.q⟩,⟨rfl,rfl⟩,π⟩ ?_)
 have P:({{h with q:=M} with G:=eM h.G (nth h.K i).U 0} : ac) = {h with q:=M}:=Gc {h with q:=M} _ w;have hoo:=I1 (λy:ac=>C.s .own (y.G.F.W.V.map (aE .own))) P
 (conv=>whnf)
 refine Lp.mk (ι:=Nat) (λk=>[(0,bF (bO {{h with q:=M} with G:=eM h.G (nth h.K i).U k})),(1,fN t),(2,fI ((nth h.K i).U)),(7,fN i),(8,bF (bc.enc .own (nth h.K i))),(9,fI (aP (nth h.K i).k)),(10,bF (bv.enc .own (au h.G.F.O ((nth h.K i).U / 16)))),(13,fN k)]) (λk=>k<=(csz (aP (nth h.K i).k)).toNat) (λk=>(csz (aP (nth h.K i).k)).toNat - k) (0) ?_ (C1 _) λk hk=>?_
 ·exact wE
 have R:IntKind.i64.wrap 0=0:=rfl;have Q:(nth h.K i).U.tmod 16=(nth h.K i).U % 16:=dy b.1;have g:(eM h.G (nth h.K i).U k).F.W.V[(au h.G.F.O ((nth h.K i).U / 16)).j.toNat]? = some (jq (nth h.G.F.W.V (fe h.G (nth h.K i).U)) ((nth h.K i).U % 16).toNat k):=Z6 w;by_cases lk:k<(csz (aP (nth h.K i).k)).toNat
 ·have D:=ar (xs:=jq (nth h.G.F.W.V (fe h.G (nth h.K i).U)) ((nth h.K i).U % 16).toNat k) (i:=((nth h.K i).U % 16+k).toNat) (by rw[oA,s4];omega)
  repeat'(first|refine gE ?_|apply CT qs|apply CY Q|apply CO s2.1 (aa g)|refine CO ω (aa D) ?_|refine Pu.two rfl rfl (aa g) rfl rfl rfl (aa D) rfl (O5 _) (Jf {h with q:=M} _ k _ b.1) ?_)
  (exact cV (k+1) ω)
 obtain rfl:k=(csz (aP (nth h.K i).k)).toNat:=ω
 have c6:=pS {{h with q:=M} with G:=eM h.G (nth h.K i).U (csz (aP (nth h.K i).k)).toNat} i j (by show h.K.length<=_;omega)
 repeat'(first|refine gB ?_|refine gS (λc=>?_) (λc=>?_)|fail)
 exact kk
def UN(h:ac)(i:Nat)(t:Int)(a:bf h [])(d:i<h.K.length):zzB 99 false [.ptr (bO h),.vI t,.val none [I (nth h.K i).U]] [.ptr (bO (if 0<=t/\t<=h.Q.length - 1 then(freeT h t.toNat i).1 else h)),.vI t,.val none [I (nth h.K i).U]] .one [I (if 0<=t/\t<=h.Q.length - 1 then(freeT h t.toNat i).2 else 1)]:=by
 have c:h.Q.length<=4:=by have:=(dQ.1 a.mail).1.2.1;have:=a.nc;omega
 by_cases b:0<=t/\t<=h.Q.length - 1
 ·rw[CJ b,CJ b]
  obtain⟨n,rfl⟩:=C5 b.1;simp only[Z4];by_cases e:(nth h.K i).a1=n
  ·have:=LP h (nth h.K i) n a (ax d) e c
   have g:kb h (nth h.K i).U=i:=by
    obtain⟨k,j,-⟩:=a.objAt (ax d);exact hJ (f:=(·.U)) (gR a.osr) k d (by rw[j])
   rw[g,<-xk e]at this;exact this
  exact Lo h i n a d ω e
 rw[CI b,CI b];exact Hl h t _ c b
def Rx(c:aD)(k:Nat):aD.enc .own (vu c k)=[.s .own ((c.X.map (aE .own)).set k (aE .own ((nth c.X k).take ((nth c.X k).length - 1))))]:=by simp[aD.enc,vu,CC]
def W2(xs:List Int)(n:Nat):(xs.take n).map (rI .R)=(xs.map (rI .R)).take n:=C8
def XC(c:aD)(k:Nat):List C:=if 0<(nth c.X k).length then aD.enc .own (vu c k)++[I (nth (nth c.X k) ((nth c.X k).length - 1)),B true] else aD.enc .own c++[I (-1),B false]
def Xf(c:aD)(k:Nat):fy (XC c k):=by
 unfold XC;split
 ·exact ay (Cr _) ⟨tV1,tV1,tV1⟩
 exact ay (Cr _) ⟨tV1,tV1,tV1⟩
def zy(c:aD)(k:Nat)(h:bB c=true)(u:k<=3):zzA 193 false [.val (some 1) (aD.enc .R c),.vI (k:Nat)] (.tup [some 1,none,none]) (XC c k):=by
 obtain⟨w,j⟩:=dZ h;have n:aD.sml c:=⟨ω,λl r=>by have:=j l r;show l.length<=1048576;omega⟩
 have d:=BH c k n;rw[h,O0 ω]at d;have o:=jC c n;have b:=mb (c:=c) (k:=k) ω;have t:=j _ (ax (xs:=c.X) (i:=k) ω);have a:=Xf c k;unfold XC at a |-;by_cases p:0<(nth c.X k).length
 ·rw[CJ p]at a |-
  have q:=ar (xs:=nth c.X k) (i:=(nth c.X k).length - 1) ω;have e:(nth c.X k)[(((nth c.X k).length:Int) - 1).toNat]? = some (nth (nth c.X k) ((nth c.X k).length - 1)):=by rw[show(((nth c.X k).length:Int) - 1).toNat=(nth c.X k).length - 1 by omega];exact q
  have g:((((nth c.X k).length:Nat):Int) - 1)=(((nth c.X k).length - 1:Nat):Int):=ω
  rw[Rx]at a |-;refine fO 54 [ς1h,ς1i] Tryz.func193 rfl ?_ (.inr a)
  repeat'(first|refine gB ?_|refine CO ω (aa e) ?_|refine Ca ((nth c.X k).length - 1) g ϰ (aI λ_=>rfl) (W2 _ _) ?_|refine Ce (λ_=>rfl) (λ_=>rfl) θ qs ?_|refine CX (λ_=>rfl) (λ_=>rfl) θ qs ?_|refine CS rfl rfl (aa b) rfl δ rfl ?_)
  rfl
 rw[CI p]at a |-;refine fO 54 [ς1h,ς1i] Tryz.func193 rfl ?_ (.inr a)
 refine σB ?_
 rfl
def XP(xs:List aC)(n:Int):List C:=bw .own (aA xs n).1++[I (aA xs n).2.1,B (aA xs n).2.2]
def Xq(xs:List aC)(n:Int):fy (XP xs n):=ay (jp _) ⟨tV1,tV1,tV1⟩
def rv(pages:Int)(xs:List aC)(n:Int)(w:0<=pages/\pages<=1048576)(l:bJ pages xs=true)(H:1<=n/\n<=1000)(J:xs.length<=4096):zzA 198 false [.vI pages,.val none (bw .R xs),.vI n] (.tup [none,none,none]) (XP xs n):=by
 have o:=nN pages xs w ⟨ω,λ_ _=>tV1⟩;rw[l]at o;have p:=(vM l).2;refine fO 98 [ρ 8 21 31,(14,265,[71,72,73,74,76,77,78,79,81,0,1,2,3,5,6,7,8,10,4,1005,1006,1007,1008,1010,9,1010,11,1010,12,13])] Tryz.func198 rfl ?_ (.inr (Xq xs n))
 repeat'(first|refine gE ?_|refine CX (λ_=>rfl) (λ_=>rfl) ω qs ?_)
 refine lp0 xs.length (λi=>[(1,bK (bw .R xs)),(2,fI n),(9,bK (bw .own xs)),(10,fI (gt xs n i)),(11,fN i)]) λi y=>?_
 have h:=uF xs n i y;by_cases q:i<xs.length
 ·have j:=ar q
  have D:=p _ (ax q);have a:gt xs n (i+1)=if n<=(nth xs i).a6/\(gt xs n i<0\/(nth xs i).a6<(nth xs (gt xs n i).toNat).a6) then((i:Nat):Int) else gt xs n i:=rfl
  by_cases r:n<=(nth xs i).a6
  ·by_cases E:gt xs n i<0
   ·rw[CJ ⟨r,.inl E⟩]at a
    repeat'(first|refine gE ?_|refine gS (λc=>?_) (λc=>?_)|fail)
    (refine CP (i+1) ω ω ?_)
    rw[a];exact wC
   have d:=ar (xs:=xs) (i:=(gt xs n i).toNat) ω;by_cases F:(nth xs i).a6<(nth xs (gt xs n i).toNat).a6
   ·rw[CJ ⟨r,.inr F⟩]at a
    repeat'(first|refine gE ?_|with_reducible refine CO ω (aa d) ?_|refine gS (λc=>?_) (λc=>?_)|fail)
    (refine CP (i+1) ω ω ?_)
    rw[a];exact wC
   rw[CI ω]at a
   repeat'(first|refine gE ?_|with_reducible refine CO ω (aa d) ?_|refine gS (λc=>?_) (λc=>?_)|fail)
   (refine CP (i+1) ω ω ?_)
   rw[a];exact wC
  rw[CI ω]at a
  repeat'(first|refine gE ?_|refine gS (λc=>?_) (λc=>?_)|fail)
  (refine CP (i+1) ω ω ?_)
  rw[a];exact wC
 obtain rfl:i=xs.length:=ω
 change fS xs n = -1\/_ at h;unfold XP aA;rw[show gt xs n xs.length=fS xs n from rfl];by_cases e:fS xs n<0
 ·rw[CJ e]
  rw[show fS xs n = -1 from h.resolve_right λg=>by have K:0<=fS xs n:=g.1;omega]
  repeat'(first|refine gE ?_|refine gS (λc=>?_) (λc=>?_)|fail)
  rfl
 rw[CI e];obtain⟨G,t,L⟩:=h.resolve_left ω;change 0<=fS xs n at G;change fS xs n<xs.length at t;obtain⟨b,k⟩:=C5 (show 0<=fS xs n by omega);rw[k]at t |-;simp only[Z4];have d:=ar (xs:=xs) (i:=b) ω;have D:=p _ (ax (xs:=xs) (i:=b) ω);by_cases u:(nth xs b).a6=n
 ·rw[CJ u]
  repeat'(first|refine gB ?_|refine gS (λc=>?_) (λc=>?_)|refine Ca b rfl ϰ (aI λ_=>rfl) C8 ?_|refine Ci (b+1) rfl ϰ (aI λ_=>rfl) I8 ?_|refine Ce (λ_=>rfl) (λ_=>rfl) θ qs ?_|refine Ap.dele (λ_=>rfl) (λ_=>rfl) ω qs ?_|refine CX (λ_=>rfl) (λ_=>rfl) θ qs ?_)
  rfl
 rw[CI u]
 repeat'(first|refine gB ?_|refine gS (λc=>?_) (λc=>?_)|refine CS rfl rfl (aa d) rfl δ rfl ?_)
 exact I1 (λz=>z++[I (nth xs b).At,B true]) (show [C.s ek.own _]=_ from by simp[bw,CC];rfl)
def zZ(k:ah)(p:Int)(f:Nat):ah.enc .own (wN k p f)=((ah.enc .own k).set 1 (.s .own ((k.F.W.a5.map (rB .own)).set f (rB .own true)))).set 2 (.s .own ((k.F.O.M.map (bv.enc .own)).set p.toNat (bv.enc .own ⟨2,(f:Nat)⟩))):=by
 simp[ah.enc,wN,CC]
def JH(k:ah)(p:Int)(c:aG k=true)(y:k.b≠100000)(o:0<=p/\p<k.F.O.M.length)(C:(nth k.F.O.M p.toNat).y=0):zzB 200 false [.ptr (ah.enc .own k),.vI p] [.ptr (ah.enc .own (dP k p).1),.vI p] .one [B (dP k p).2]:=by
 have D:=aX c;have E:=aT.1 (aF.1 c).2.1;have F:=(bt.1 (aF.1 c).2.2.1).2.2;have G:(dO k).F.O.M.length<=32:=F;have a:=Gx k.F.W ω;have d:=pY k c y;have g:=fj (dO k) p D.1.2;have l:au (dO k).F.O p=nth k.F.O.M p.toNat:=by unfold au;exact CJ o
 rw[l,C]at g;have h:=aK p 0 ((k.F.O.M.length:Int) - 1);rw[O0 ω]at h;have r:=ar (xs:=k.F.O.M) (i:=p.toNat) ω;change am _ _ _ _ _ [I (qa k)]at a;unfold dP;cases e:refd k<;>rw[e]at d
 ·by_cases j:qa k<0
  ·rw[CJ (.inr j)]
   refine fM 56 [(291,[2])] [] [(0,0),(0,0)] Tryz.func200 rfl (λu q=>?_)
   repeat'(first|refine gB ?_|refine gS (λb=>?_) (λb=>?_)|refine CL (a) ⟨⟨rfl,aW.enc_fz _⟩,tV1⟩ ?_|refine CL (g) ⟨CW (dO k),π⟩ ?_)
   refine CM rfl ?_ ?_
   ·rfl
   exact wC
  rw[CI (by simp[j])];obtain⟨n,t⟩:=Ll j;obtain⟨f,H⟩:=C5 (show 0<=qa k by omega);rw[H]at a n t j |-;simp only[Z4]at n t |-;have w:=ar (xs:=k.F.W.a5) (i:=f) n;rw[zZ];refine fM 56 [(291,[2])] [] [(0,0),(0,0)] Tryz.func200 rfl (λu q=>?_)
  repeat'(first|refine gB ?_|refine gS (λb=>?_) (λb=>?_)|refine CL (a) ⟨⟨rfl,aW.enc_fz _⟩,tV1⟩ ?_|refine CL (g) ⟨CW (dO k),π⟩ ?_|apply CO o.1 (aa r)|refine CS rfl rfl (aa w) rfl δ rfl ?_|refine CS rfl rfl (aa r) rfl δ rfl ?_)
  refine CM rfl ?_ ?_
  ·rfl
  exact wC
 rw[CJ (.inl rfl)];refine fM 56 [(291,[2])] [] [(0,0),(0,0)] Tryz.func200 rfl (λu q=>?_)
 repeat'(first|refine gB ?_|refine gS (λb=>?_) (λb=>?_)|refine CL (a) ⟨⟨rfl,aW.enc_fz _⟩,tV1⟩ ?_|refine CL (g) ⟨CW (dO k),π⟩ ?_)
 refine CM rfl ?_ ?_
 ·rfl
 exact wC
def XM(h:ac):List C:=(bO h).drop 5
def KP(h:ac)(p:Int)(a:aG h.G=true)(b:h.G.b≠100000)(c:0<=p/\p<h.G.F.O.M.length)(d:(nth h.G.F.O.M p.toNat).y=0):zzB 200 false [.ptr (bO h),.vI p] [.ptr (bO {h with G:=(dP h.G p).1}),.vI p] .one [B (dP h.G p).2]:=
 (JH h.G p a b c d).frame (r:=XM h) rfl
def PE(h:ac)(i:Nat):bO (slotT h i)=((bO h).set 14 (I (Dj h.c1))).set 6 (.s .own ((h.H.map (a8.enc .own)).set i [I (nth h.H i).S,I (nth h.H i).a,I (io (nth h.H i).b0 (oo h i))])):=by
 simp[bO,slotT,sA,CC,a8.enc]
def vW(h:ac)(E:List Int)(i:Nat)(c:bf h E)(k:i<h.H.length):zzB 195 false [.ptr (bO h),.vI (i:Nat)] [.ptr (bO (lJ h i).1),.vI (i:Nat)] .one [I (lJ h i).2]:=by
 have F:=c.lens;have G:=F.spans;have d:=ar k;have b:=c.L.sok _ (ax k);have e:=eA b;have a:=c.nums;unfold ch at a;rw[C0]at a;have t:=(bt.1 (aF.1 c.ker).2.2.1).2.2;have l:=mJ c.L.sok (ps:=aS h (nth h.H i).S) e (aS h (nth h.H i).S).length;change 0<=ep h i/\ep h i<=65535 at l;have w:=pO (nth h.H i).a;have y:=D0 h i ⟨ω,λ_ _=>tV1⟩ ⟨by show h.G.F.O.M.length<=_;omega,λ_ _=>tV1⟩ c.L.sok k;have o:=AI (nth h.H i).a (ep h i) ω;change am _ _ _ _ _ (aE .own (iz h i)) at o;have p:=BM (nth h.H i).a (ep h i);change (iz h i).length<=16 at p;unfold lJ;by_cases B:(iz h i).length=0
 ·rw[CJ B]
  refine fM 68 [] [ρ 2 7 16,ρ 7 12 42,ρ 8 11 56] [(0,0),(0,0)] Tryz.func195 rfl (λu q=>?_)
  repeat'(first|refine gB ?_|refine CL (y) ⟨⟨rfl,bS h⟩,π⟩ ?_)
  exact kk
 rw[CI B];have H:=wy (h:=h) (i:=i) ω;obtain⟨C,D,O⟩:=tT H;have J:=(gQ (aJ b).2.2).2.2.1;have r:=qX h.c1 (n:=((iz h i).length:Nat)) ω;have K:=x3 h.c1 ((iz h i).length:Nat) ω ω;have M:=Ee (nth h.H i).b0 (oo h i) e ω;have N:=DZ (sA (nth h.H i) (oo h i)) (oo h i) (GW b ⟨C,D⟩) ⟨C,D⟩;have g:(iz h i)[(HJ h.c1 ((iz h i).length:Nat)).toNat]? = some (oo h i):=ar ω;have j:((h.H.map (a8.enc .own)).set i [I (nth h.H i).S,I (nth h.H i).a,I (io (nth h.H i).b0 (oo h i))])[i]? = some [I (nth h.H i).S,I (nth h.H i).a,I (io (nth h.H i).b0 (oo h i))]:=jP k;unfold rm;rw[PE];refine fM 68 [] [ρ 2 7 16,ρ 7 12 42,ρ 8 11 56] [(0,0),(0,0)] Tryz.func195 rfl (λu q=>?_)
 repeat'(first|refine gB ?_|refine CH j ?_|refine CK rfl j rfl ?_|refine CL (y) ⟨⟨rfl,bS h⟩,π⟩ ?_|apply CO r.1 (aa g)|refine CS rfl rfl (aa d) rfl δ rfl ?_)
 refine CM rfl ?_ ?_
 ·rfl
 exact wC
variable{i:Nat}
def Ap.ins{e:α->List C}{xs:List α}{y:α}{sz by_:Nat}{K:List (List C)->Prop}(a:r=e y)(h2:∀y,(e y).length=sz)(b:∀y,br (e y)=true)(g:xs.length<=1048576)(c:by_<=1000)(d:K ((xs.take i++y::xs.drop i).map e)):Ap true ((xs.take i).map e++[r]) ((xs.drop i).map e) sz by_ K:=by
 subst a;have f:(xs.take i).length+1+(xs.drop i).length<=3145728:=by rw[Z2,I6];omega
 refine Cb (λr a=>?_) (aI h2) (λ_ r a=>by obtain⟨y,-,rfl⟩:=O8.1 a;exact b y) (by simp only[C6,Z1,List.length_singleton];omega) (by simp only[C6,Z1,List.length_singleton];exact S9 (Nat.mul_le_mul f c) qs) ?_ d
 ·rcases I5.1 a with a|a
  ·exact aI h2 r a
  rw[I2.1 a];exact h2 y
 rw[IB,SB,CB];rfl
def mV{p:α->Bool}{xs:List α}{y:α}(h:kW p xs=i):kC p xs y=xs.take i++y::xs.drop i:=by unfold kC;rw[h]
def Nl(h:ac)(c:Int):ac × Int:=
 if(aA h.e 1).2.2=false then(h,-1)
 else if(dP h.G (aA h.e 1).2.1).2=false then({h with G:=(dP h.G (aA h.e 1).2.1).1},-1)
 else(qy h c,(pH h:Nat))
def Hq(h:ac)(E:List Int)(c:Nat)(g:bf h E)(H:h.G.b<=90000):zzB 196 false [.ptr (bO h),.vI (c:Nat)] [.ptr (bO (Nl h c).1),.vI (c:Nat)] .one [I (Nl h c).2]:=by
 have B:=g.lens;have J:=B.spans;have K:fk h<=32:=B.ents;have C:=iX h;have l:=rv (fk h:Nat) h.e 1 ⟨ω,ω⟩ g.rng qs (by have:=B.free;omega);unfold XP at l;have d:=kE g (Z9 1);unfold Nl qy pH;generalize aA h.e 1=r at l d |-;obtain⟨o,p,ok⟩:=r;simp only at l d |-;cases ok with
 | false=>
  rw[CJ rfl];refine fM 79 [(200,[2,0]),(2000010,[0,6])] [ς12] [(0,0),(0,0)] Tryz.func196 rfl (λu q=>?_)
  repeat'(first|refine gP ?_|refine CL (C) ⟨bS h,tV1⟩ ?_|refine CL (l) ⟨⟨rfl,rfl⟩,⟨rfl,ef h.e⟩,π⟩ ?_)
  exact kk
 | true=>
  rw[CI ϕ];obtain⟨L,M,N,U⟩:=d rfl;have D:0<=p/\p<h.G.F.O.M.length:=⟨L,by have:p+1<=((tbl h).M.length:Nat):=M;unfold tbl at this;omega⟩
  have t:=KP h p g.ker ω D (N p.toNat ω ω);generalize dP h.G p=w at t |-;obtain⟨k,b⟩:=w;simp only at t |-;cases b with
  | false=>
   rw[CJ rfl];refine fM 79 [(200,[2,0]),(2000010,[0,6])] [ς12] [(0,0),(0,0)] Tryz.func196 rfl (λu q=>?_)
   repeat'(first|refine gP ?_|refine CL (C) ⟨bS h,tV1⟩ ?_|refine CL (l) ⟨⟨rfl,rfl⟩,⟨rfl,ef h.e⟩,π⟩ ?_)
   exact kk
  | true=>
   rw[CI ϕ];refine fM 79 [(200,[2,0]),(2000010,[0,6])] [ς12] [(0,0),(0,0)] Tryz.func196 rfl (λu q=>?_)
   repeat'(first|refine gP ?_|refine CL (C) ⟨bS h,tV1⟩ ?_|refine CL (l) ⟨⟨rfl,rfl⟩,⟨rfl,ef h.e⟩,π⟩ ?_)
   refine gl h.H.length (λi=>[(0,bF (bO {h with G:=k,e:=o})),(1,fN c),(6,fI p),(8,fN i)]) (λi=>∀(j:Nat)(z:a8),j<i->h.H[j]? = some z->JW p z=false) (λj z V=>ω) λi g=>?_
   obtain⟨O,F⟩:=g;have P:({h with G:=k,e:=o} : ac).H.length=h.H.length:=rfl;by_cases Q:i<h.H.length/\(nth h.H i).S<p
   ·have n:=ar Q.1
    refine σE ?_
    (exact cV (i+1) ⟨ω,fh n (Z0 ω) F⟩)
   have a:kW (JW p) h.H=i:=nl ω F λz G=>by
    have R:=(C4.1 G).1;have:z=nth h.H i:=(bk G).symm;subst this;exact O0 ω
   have n:i<h.H.length->h.H[i]? = some (nth h.H i):=λS=>ar S
   rw[show addS h k o p (c:Nat) = {h with G:=k,e:=o,H:=h.H.take i++⟨p,(c:Nat),0⟩::h.H.drop i} by unfold addS;rw[mV a],a]
   repeat'(first|refine gE ?_|with_reducible refine CH (aa (n ω)) ?_|refine gS (λT=>?_) (λT=>?_)|refine CK rfl (aa (n ω)) rfl ?_|refine L8.mk rfl (Bc h.H) rfl ?_|refine Ca i rfl ϰ (aI λ_=>rfl) C8 ?_|refine Ci i rfl ϰ (aI λ_=>rfl) I8 ?_|refine CX (λ_=>rfl) (λ_=>rfl) θ qs ?_|refine Cc (aI λ_=>rfl) rfl (by rw[Z1,Z2];omega) qs rfl ?_|refine Ap.ins (e:=a8.enc .R) (y:=⟨p,(c:Nat),0⟩) rfl (λ_=>rfl) (λ_=>rfl) ω qs ?_)
   all_goals
    exact kk
variable{c:Int}{h:ac}
def x5(a:i<h.H.length)(b:qt h c i=true)(d:∀j,j<i->qt h c j=false):pT h c=some i:=
 List.find?_range_eq_some.2 ⟨b,List.mem_range.2 a,λj e=>by rw[d j e];rfl⟩
def xT(a:∀j,j<h.H.length->qt h c j=false):pT h c=none:=
 List.find?_range_eq_none.2 λj b=>by rw[a j b];rfl
def mg(a:qt h c i=false)(b:∀j,j<i->qt h c j=false):∀j,j<i+1->qt h c j=false:=λj d=>by
 by_cases e:j=i
 ·rw[e];exact a
 exact b j ω
def Q7(h:ac)(t:Nat)(c:aD):bO {h with Q:=h.Q.set t c} = (bO h).set 9 (.s .own ((h.Q.map (aD.enc .own)).set t (aD.enc .own c))):=by
 simp[bO,CC]
def K7{c:Nat}(b:bf h [])(k:c<=3)(e:h.G.b<=90000)(h1:¬(aA h.e 1).2.2=false)(h2:¬(dP h.G (aA h.e 1).2.1).2=false):bf (qy h c) []/\pH h<(qy h c).H.length:=by
 have a:(aA h.e 1).2.2=true:=by simpa using h1
 obtain⟨f,g,i,l⟩:=kE b (Z9 1) a;have s:=Dg.of (p:=(aA h.e 1).2.1) b.ker ω ⟨f,by have:(aA h.e 1).2.1+1<=(h.G.F.O.M.length:Nat):=g;omega⟩ (i _ ω ω);have d:(dP h.G (aA h.e 1).2.1).2=true:=by simpa using h2
 have j:Dg h.G (aA h.e 1).2.1 ((dP h.G (aA h.e 1).2.1).1,true):=by rw[<-d];exact s
 exact⟨b.addS (c:=c) ⟨ω,ω⟩ a j,(N7 (JW (aA h.e 1).2.1) h.H ⟨(aA h.e 1).2.1,c,0⟩).1⟩
def DI(h:ac)(t c:Nat)(o:bf h [])(M:t<h.Q.length)(N:c<=3)(p:h.G.b<=90000):zzB 97 false [.ptr (bO h),.vI (t:Nat),.vI (c:Nat)] [.ptr (bO (eY h t c).1),.vI (t:Nat),.vI (c:Nat)] .one [I (eY h t c).2]:=by
 have E:=o.cach _ (ax M);have e:=ar M;have r:=zy (nth h.Q t) c E N;have Q:=o.lens.spans;have B:=o;unfold XC at r;by_cases F:0<(nth (nth h.Q t).X c).length
 ·unfold eY
  rw[CJ F]at r |-;simp only;rw[Q7];refine fM 80 [(195,[2,0]),(196,[2,0])] [ρ 3 6 27] [(0,0),(0,0),(0,0)] Tryz.func97 rfl (λu q=>?_)
  repeat'(first|refine gP ?_|refine CL (r) ⟨⟨rfl,Co _⟩,π⟩ ?_|refine CS rfl rfl (aa e) rfl δ rfl ?_)
  exact kk
 rw[CI F]at r;have d:eY h t c=match pT h c with
  | some i=>(slotT h i,rm h i)
  | none=>if(aA h.e 1).2.2=false then(h,-1)
   else if(dP h.G (aA h.e 1).2.1).2=false then({h with G:=(dP h.G (aA h.e 1).2.1).1},-1)
   else lJ (qy h c) (pH h):=by unfold eY;exact CI F
 refine fM 80 [(195,[2,0]),(196,[2,0])] [ρ 3 6 27] [(0,0),(0,0),(0,0)] Tryz.func97 rfl (λu q=>?_)
 repeat'(first|refine gP ?_|refine CL (r) ⟨⟨rfl,Co _⟩,π⟩ ?_)
 refine gl h.H.length (λi=>[(0,bF (bO h)),(1,fN t),(2,fN c),(10,fN i)]) (λi=>∀j,j<i->qt h c j=false) (λj W=>ω) λi o=>?_
 obtain⟨R,w⟩:=o;by_cases C:i<h.H.length
 ·have l:=ar C
  by_cases O:(nth h.H i).a=c
  ·have y:=xV h (nth h.H i).S
   cases D:gv h (nth h.H i).S with
   | true=>
    rw[D]at y
    repeat'(first|refine gB ?_|refine CL (y) ⟨bS h,π⟩ ?_)
    (exact cV (i+1) ⟨ω,mg (by unfold qt;rw[D];simp) w⟩)
   | false=>
    rw[D]at y;have n:=vW h [] i B C;unfold lJ at n;by_cases P:(iz h i).length=0
    ·rw[CJ P]at n
     repeat'(first|refine gB ?_|refine CL (y) ⟨bS h,π⟩ ?_)
     (exact cV (i+1) ⟨ω,mg (by unfold qt;rw[Z0 (by omega:¬0<(iz h i).length)];simp) w⟩)
    rw[CI P]at n;have G:pT h c=some i:=x5 C (by unfold qt;rw[O0 O,D,O0 ω];rfl) w;rw[G]at d;simp only at d;obtain⟨S,T⟩:=B.slotT C (by omega:0<(iz h i).length);have H:=jZ.nn S T;rw[d];generalize slotT h i=g at n |-;generalize rm h i=a at n H |-
    repeat'(first|refine gB ?_|refine CL (y) ⟨bS h,π⟩ ?_)
    exact kk
  refine σB ?_
  (exact cV (i+1) ⟨ω,mg (by unfold qt;rw[Z0 O];rfl) w⟩)
 obtain rfl:i=h.H.length:=ω
 have G:pT h c=none:=xT w;rw[G]at d;simp only at d;have k:=Hq h [] c B p;rw[d];unfold Nl at k;by_cases J:(aA h.e 1).2.2=false
 ·rw[CJ J]at k |-
  refine σE ?_
  exact kk
 rw[CI J]at k |-;by_cases K:(dP h.G (aA h.e 1).2.1).2=false
 ·rw[CJ K]at k |-
  refine σE ?_
  exact kk
 rw[CI K]at k |-;obtain⟨U,V⟩:=K7 B N p J K;have L:=vW (qy h c) [] (pH h) U V;generalize qy h c=g at k L |-;generalize pH h=b at k L |-
 refine σE ?_
 exact kk
def DU(h:ac)(size:Int):ac × Int:=
 if(aA h.e (ma size:Nat)).2.2=false then(h,-1)
 else if(jY h size).2=ma size then({h with G:=(jY h size).1,e:=(aA h.e (ma size:Nat)).1,J:=kC (UB (aA h.e (ma size:Nat)).2.1) h.J ⟨(aA h.e (ma size:Nat)).2.1,(ma size:Nat),size⟩},16*(aA h.e (ma size:Nat)).2.1)
 else({h with G:=dE (jY h size).1 (aA h.e (ma size:Nat)).2.1 (jY h size).2},-1)
def Az(k:ah)(p:Int)(i:Nat):bG k p (i+1)=if(bG k p i).2=i then((dP (bG k p i).1 (p+(i:Nat))).1,if(dP (bG k p i).1 (p+(i:Nat))).2=true then i+1 else i) else bG k p i:=rfl
def Lr(k:ah)(p:Int):∀i,(bG k p i).2<=i
 | 0=>O5 _
 | i+1=>by
  have b:=Lr k p i;rw[Az];by_cases e:(bG k p i).2=i
  ·rw[CJ e]
   show(if _ then i+1 else i)<=i+1;by_cases a:(dP (bG k p i).1 (p+(i:Nat))).2=true
   ·rw[CJ a];exact O5 _
   rw[CI a];exact Nat.le_succ _
  rw[CI e];omega
def k6{k:ah}{p:Int}{i:Nat}(h:(bG k p i).2≠i):∀j,bG k p (i+j)=bG k p i/\(bG k p (i+j)).2<i+j
 | 0=>⟨rfl,by show(bG k p i).2<i;have:=Lr k p i;omega⟩
 | j+1=>by
  have a:=k6 h j;have e:bG k p (i+(j+1))=bG k p (i+j):=by
   show bG k p (i+j+1)=_;rw[Az,CI ω]
  exact⟨e.trans a.1,by rw[e];omega⟩
def Ew(h:ac)(size:Int)(l:bf h [])(C:9<=size/\size<=1000)(U:h.G.b<=90000):zzB 98 false [.ptr (bO h),.vI size] [.ptr (bO (DU h size).1),.vI size] .one [I (DU h size).2]:=by
 have D:=l.lens;have V:=D.larges;have P:=l;have E:fk h<=32:=D.ents;have F:eJ size=((ma size:Nat):Int):=by unfold eJ ma;split<;>omega
 have hN:1<=ma size/\ma size<=63:=by unfold ma;omega
 have G:=nI size;rw[F]at G;have Q:=iX h;have t:=rv (fk h:Nat) h.e (ma size:Nat) ⟨ω,ω⟩ l.rng ⟨ω,ω⟩ (by have:=D.free;omega);unfold XP at t;have b:=kE l (show(1:Int)<=(ma size:Nat) by omega);unfold DU jY;generalize ma size=N at *;generalize aA h.e (N:Nat)=r at t b |-;obtain⟨H,p,ok⟩:=r;simp only at t b |-;refine fM 105 [(200,[2,0]),(201,[2,0]),(2000018,[0,7])] [(2,268,[16,17,18,19,20,21,22,23,15,24,25,26,0,1,2,3,4,5,6,7,8,9,10,11,12,1010,1011,13,1011,14])] [(0,0),(0,0)] Tryz.func98 rfl (λu q=>?_);cases ok with
 | false=>
  rw[CJ rfl]
  repeat'(first|refine gP ?_|refine CL (Q) ⟨bS h,tV1⟩ ?_|refine CL (t) ⟨⟨rfl,rfl⟩,⟨rfl,ef h.e⟩,π⟩ ?_)
  exact kk
 | true=>
  rw[CI ϕ];obtain⟨R,J,B,u4⟩:=b rfl;change p+(N:Nat)<=(h.G.F.O.M.length:Nat) at J;change ∀q:Nat,p<=q->(q:Int)<p+(N:Nat)->(nth h.G.F.O.M q).y=0 at B
  have W:h.G.F.O.M.length<=32:=E
  repeat'(first|refine gP ?_|refine CL (Q) ⟨bS h,tV1⟩ ?_|refine CL (t) ⟨⟨rfl,rfl⟩,⟨rfl,ef h.e⟩,π⟩ ?_)
  refine gl N (λi=>[(0,bF (bO {h with G:=(bG h.G p i).1})),(1,fI size),(5,fN N),(6,bK (bw .own H)),(7,fI p),(9,fN i)]) (λi=>(bG h.G p i).2=i) rfl λi l=>?_
  obtain⟨K,L⟩:=l;have s:=im.of (p:=p) (n:=N) P.ker ω ⟨R,J⟩ B i K;have X:=s.calls;have Y:=s.len;by_cases li:i<N
  ·have M:(nth (bG h.G p i).1.F.O.M (p+(i:Nat)).toNat).y=0:=by
    rw[s.out _ (by rw[L];omega)];exact B _ ω ω
   have c:=KP {h with G:=(bG h.G p i).1} (p+(i:Nat)) s.ker (by show(bG h.G p i).1.b≠100000;omega) ⟨ω,by show p+(i:Nat)<((bG h.G p i).1.F.O.M.length:Nat);omega⟩ M;have a:bG h.G p (i+1)=((dP (bG h.G p i).1 (p+(i:Nat))).1,if(dP (bG h.G p i).1 (p+(i:Nat))).2=true then i+1 else i):=by
    show(if(bG h.G p i).2=i then _ else _)=_;rw[CJ L]
   simp only at c;cases e:(dP (bG h.G p i).1 (p+(i:Nat))).2 with
   | true=>
    rw[e]at c a;rw[CJ rfl]at a;have O:(dP (bG h.G p i).1 (p+(i:Nat))).1=(bG h.G p (i+1)).1:=by rw[a]
    rw[O]at c
    refine σE ?_
    (exact cV (i+1) ⟨ω,by rw[a]⟩)
   | false=>
    rw[e]at c a;rw[CI ϕ]at a;have d:=k6 (k:=h.G) (p:=p) (i:=i+1) (by rw[a];simp only;omega) (N - (i+1));rw[show i+1+(N - (i+1))=N by omega]at d;rw[d.1]at d;have S:=im.of (p:=p) (n:=N) P.ker ω ⟨R,J⟩ B (i+1) ω;rw[CI (by have:=k6 (k:=h.G) (p:=p) (i:=i+1) (by rw[a];simp only;omega) (N - (i+1));rw[show i+1+(N - (i+1))=N by omega]at this;omega)];rw[show bG h.G p N=bG h.G p (i+1) by have:=k6 (k:=h.G) (p:=p) (i:=i+1) (by rw[a];simp only;omega) (N - (i+1));rw[show i+1+(N - (i+1))=N by omega]at this;exact this.1];rw[a]at S |-;have g:=S.ker;simp only at g |-;generalize (dP (bG h.G p i).1 (p+(i:Nat))).1=k at c g |-
    refine σE ?_
    refine lp0 i (λj=>[(0,bF (bO {h with G:=dE k p j})),(1,fI size),(5,fN N),(7,fI p),(9,fN i),(10,fN j)]) λj Z=>?_
    have c4:=pG {h with G:=dE k p j} (p+(j:Nat)) (jJ g p j);by_cases lj:j<i
    ·refine σE ?_
     (exact cV (j+1) ω)
    obtain rfl:j=i:=ω
    refine σE ?_
    exact kk
  obtain rfl:i=N:=ω
  rw[CJ L];generalize (bG h.G p i).1=k
  refine σE ?_
  refine gl h.J.length (λm=>[(0,bF (bO {h with G:=k,e:=H})),(1,fI size),(5,fN i),(7,fI p),(11,fN m)]) (λm=>∀(j:Nat)(z:aB),j<m->h.J[j]? = some z->UB p z=false) (λj z Z=>ω) λm hm=>?_
  obtain⟨hm',T⟩:=hm;have hl2:({h with G:=k,e:=H} : ac).J.length=h.J.length:=rfl;by_cases go:m<h.J.length/\(nth h.J m).S<p
  ·have o:=ar go.1
   refine σE ?_
   (exact cV (m+1) ⟨ω,fh o (Z0 ω) T⟩)
  have w:kW (UB p) h.J=m:=nl ω T λz C=>by
   have hlt:=(C4.1 C).1;have:z=nth h.J m:=(bk C).symm;subst this;exact O0 ω
  have o:m<h.J.length->h.J[m]? = some (nth h.J m):=λhh=>ar hh
  rw[mV w]
  repeat'(first|refine gE ?_|with_reducible refine CH (aa (o ω)) ?_|refine gS (λhq=>?_) (λhq=>?_)|refine CK rfl (aa (o ω)) rfl ?_|refine L8.mk rfl (xf h.J) rfl ?_|refine Ca m rfl ϰ (aI λ_=>rfl) C8 ?_|refine Ci m rfl ϰ (aI λ_=>rfl) I8 ?_|refine CX (λ_=>rfl) (λ_=>rfl) θ qs ?_|refine Cc (aI λ_=>rfl) rfl (by rw[Z1,Z2];omega) qs rfl ?_|refine Ap.ins (e:=aB.enc .R) (y:=⟨p,(i:Nat),size⟩) rfl (λ_=>rfl) (λ_=>rfl) ω qs ?_)
  all_goals
   refine CM rfl ?_ ?_
   ·exact nr ω
   exact wC
def Jm{k:ah}(h:aG k=true)(b:gp k.d):ah.wf k:=by
 obtain⟨p,f,g,q,t⟩:=aF.1 h;obtain⟨u,w,y,A⟩:=aT.1 f;obtain⟨i,B,C⟩:=bt.1 g;refine⟨⟨⟨⟨ω,λr b=>?_⟩,⟨ω,λ_ _=>tV1⟩⟩,⟨ω,λe l=>?_⟩⟩,⟨ω,ω⟩,b⟩
 ·obtain⟨j,c,rfl⟩:=b9 b
  obtain⟨D,n⟩:=He h c;exact⟨ω,λv o=>by have:=n v o;exact⟨ω,ω⟩⟩
 obtain⟨j,c,rfl⟩:=b9 l;have a:=i j c;unfold m7 at a;rw[C0]at a;by_cases d:(nth k.F.O.M j).y=0
 ·have:=a.2.2.1 d;exact⟨⟨ω,ω⟩,⟨ω,ω⟩⟩
 have:=a.2.2.2 d;exact⟨⟨ω,ω⟩,⟨ω,ω⟩⟩
theorem Pb{p:cj}(h:fY p=true):cj.wf p:=by
 have a:=λi b=>ku h (i:=i) b
 have e:p.V.length<=16:=mq h;unfold fY at h;simp only[I0,C0]at h;exact⟨⟨ω,ω⟩,⟨ω,ω⟩,⟨ω,λv c=>by
   obtain⟨j,d,rfl⟩:=b9 c;have:=a j d;exact⟨ω,ω⟩⟩⟩
variable{E:List Int}
def bf.jobWf(a:bf h E):cH.wf h.a9/\cH.sml h.a9:=by
 cases b:h.a3 with
 | true=>
  obtain⟨c,f,g,i,j⟩:=gr.1 (a.job b).1;have k:=mq c;exact⟨⟨Pb c,⟨ω,ω⟩,⟨ω,ω⟩⟩,by show h.a9.g.V.length<=1048576;omega⟩
 | false=>
  have:=a.noj b;unfold wb at this;rw[C0]at this;obtain⟨l,n,e,o,p⟩:=this;refine⟨⟨⟨⟨ω,ω⟩,⟨ω,ω⟩,⟨ω,λv d=>?_⟩⟩,⟨ω,ω⟩,⟨ω,ω⟩⟩,by show h.a9.g.V.length<=1048576;omega⟩;rw[IE e]at d;cases d
theorem B9{n:Int}(h:0<=aP n):1<=n/\n<=8:=by grind[aP]
def jZ.wf(b:bf h E){a:Int}(d:jZ h.H a c):mP a:=by
 have:=d.bd b;exact⟨ω,ω⟩
theorem bf.wf(c:bf h E)(K:gp h.G.d):ac.wf h:=by
 have q:=c.lens;have r:=c.L;have B:=c.nums;unfold ch at B;rw[C0]at B;obtain⟨V,M,W⟩:=gF.1 c.rng;obtain⟨N,-,-,X,Y,-⟩:=iQ.1 c.quar;have u:=c.mail;have g:=c.hfl;unfold aR at g;rw[CJ u]at g;unfold bE at u;simp only[I0,C0,cI,i7,S7,oY,VT]at u;obtain⟨⟨⟨Z,m2,m3⟩,O⟩,m5⟩:=u;have y:=q.free;have P:=q.spans;have h3:=q.larges;have h4:=q.objs;have h5:=q.caches;have h6:=q.quar;have C:∀n:Nat,bM h.q n<=bM h.q (n+1):=λn=>by grind[bM]
 have f:∀a b:Nat,a<=b->bM h.q a<=bM h.q b:=λa b t=>by
  induction t with
  | refl=>exact Z9 _
  | step _ ih=>grind
 have A:∀n:Nat,0<=bM h.q n:=λn=>f 0 n (C1 _)
 have o:∀i,i<h.q.T.length->(nth h.q.T i).length<=30/\(nth h.q.w i).length<=30:=λi k=>by
  have D:=f (i+1) h.q.T.length ω;have Q:=A i;simp only[bM]at D;omega
 refine⟨Jm c.ker K,⟨ω,λx e=>?_⟩,⟨ω,λx e=>?_⟩,⟨ω,λx e=>?_⟩,⟨ω,λx e=>?_⟩,⟨ω,λx e=>?_⟩,⟨⟨ω,λl d=>?_⟩,⟨ω,λl d=>?_⟩⟩,⟨⟨ω,ω⟩,⟨ω,λx e=>?_⟩⟩,⟨ω,ω⟩,⟨ω,ω⟩,⟨ω,ω⟩,⟨ω,ω⟩,tV1,c.jobWf.1⟩
 ·have:=M x e;exact⟨⟨ω,ω⟩,⟨ω,ω⟩⟩
 ·have w:=r.sok x e
  have F:=eA w;have R:=aJ w;exact⟨⟨ω,ω⟩,⟨ω,ω⟩,⟨ω,ω⟩⟩
 ·have G:=aV (r.lok x e)
  have H:=cL (r.lok x e);exact⟨⟨ω,ω⟩,⟨ω,ω⟩,⟨ω,ω⟩⟩
 ·obtain⟨o1,o2,o3,o4⟩:=c.onu x e
  have t:0<=x.U/\x.U<512/\-1000<=x.k/\x.k<=1000:=by
   rcases c.oow x e with⟨s,w,y,P⟩|⟨l,d,D,Q⟩
   ·have R:=aJ (r.sok s w)
    have:=B9 (n:=x.k) ω;exact⟨by have:=y.1;omega,by have:=y.2.1;omega,ω,ω⟩
   have G:=aV (r.lok l d);have H:=cL (r.lok l d);omega
  exact⟨⟨ω,ω⟩,⟨ω,ω⟩,⟨ω,ω⟩,⟨ω,ω⟩⟩
 ·obtain⟨c1,c2⟩:=q.lists x e
  refine⟨ω,λl d=>⟨ψ,λa J=>?_⟩⟩;obtain⟨j,S,rfl⟩:=b9 d;exact jZ.wf c (c.hca x e j S a J)
 ·obtain⟨i,k,rfl⟩:=b9 d
  have F:=o i k;refine⟨ω,λp T=>?_⟩;have U:=(O i k).1 p T;exact⟨⟨ω,ω⟩,jZ.wf c (g p.U (I5.2 (.inl (List.mem_flatMap.2 ψ))))⟩
 ·obtain⟨i,k,rfl⟩:=b9 d
  have F:=o i ω;exact⟨ω,λa J=>jZ.wf c (g a (I5.2 (.inr (List.mem_flatten.2 ψ))))⟩
 have G:=N x e;have H:=c.snc x e;exact⟨jZ.wf c (c.hqu x e),⟨ω,ω⟩,⟨ω,ω⟩⟩
structure YL(h:ac):Prop where
 ker:aG h.G=true
 wf:ac.wf h
 sml:ac.sml h
 lens:qw h
def bf.fit(a:bf h E)(b:gp h.G.d)(c:aL.sml h.q):YL h:=⟨a.ker,a.wf b,a.lens.sml a.ker c a.jobWf.2,a.lens⟩
theorem Ms(a:bf h [])(b:h.a3=true):aG (mStep h).G=true/\(mStep h).G.b<=h.G.b+1/\(mStep h).G.d=h.G.d/\(mStep h).q=h.q/\(J7 h=true->(mStep h).a3=false)/\cH.wf (mStep h).a9/\cH.sml (mStep h).a9:=by
 have s:=JS.of a b;refine⟨s.ker,s.calls.2.1,s.calls.2.2,rfl,λc=>?_,?_⟩
 ·unfold J7 at c
  rw[C0]at c;show(if over _=true then false else h.a3)=false
  grind[over]
 show cH.wf (if over _=true then _ else _)/\cH.sml (if over _=true then _ else _);split
 ·exact⟨⟨⟨⟨by decide,by decide⟩,⟨by decide,by decide⟩,⟨by decide,λv d=>by cases d⟩⟩,⟨by decide,by decide⟩,⟨by decide,by decide⟩⟩,by show(0:Nat)<=1048576;omega⟩
 have f:=(gr.1 (a.job b).1).1;have g:=mq f;obtain⟨j,k⟩:=s.ph;obtain⟨l,i⟩:=s.nxt;have e:=s.plan;refine⟨⟨by grind[Pb],⟨ω,ω⟩,⟨ω,by rw[e]at i;omega⟩⟩,by show((gY h.G h.a9).2.g.V).length<=1048576;rw[e];omega⟩
def DY(h:ac):Nat->ac × Bool
 | 0=>(h,false)
 | i+1=>if(DY h i).1.a3=true then(mStep (DY h i).1,J7 (DY h i).1) else DY h i
def fin(h:ac):ac × Bool:=DY h 100
structure YS(h:ac)(c:Int)(g:ac × Bool):Prop where
 inv:g.2=false->bf g.1 []
 done:g.2=true->g.1.a3=false
 fit:YL g.1
 calls:g.1.G.b<=h.G.b+c
 ref:g.1.G.d=h.G.d
 mail:g.1.q=h.q
def JT(hi:bf h []):bf (started h).1 []/\(started h).1.G=h.G/\(started h).1.q=h.q:=by
 have r:=hi.nums;unfold ch at r;rw[C0]at r;have t:=(ly (bC h).length (show 0<=h.c1/\h.c1<=1073741823 by omega) ((bC h).length - 1)).2;have g:=pc (bC h) (show 0<=h.c1/\h.c1<=1073741823 by omega);have c:ch {h with c1:=(shuf (bC h).length h.c1).2} = true:=by
  unfold ch;rw[C0];unfold shuf;simp only;omega
 cases j:kF (bC h) h.c1 with
 | nil=>
  have f:Ab.started h=({h with c1:=(shuf (bC h).length h.c1).2},false):=by unfold Ab.started;rw[j]
  rw[f];exact⟨{hi with nums:=c},rfl,rfl⟩
 | cons q y=>
  obtain⟨C,D,k⟩:=g q (by rw[j];exact C3 ..);have f:Ab.started h=({h with c1:=(shuf (bC h).length h.c1).2,a3:=true,a9:=yH (eD (nth (bC h) q.A.toNat) (nth (bC h) q.B.toNat))},true):=by unfold Ab.started;rw[j]
  rw[f];have d:∀s∈bC h,s∈h.H:=λs u=>rM h (O5 _) s (List.mem_of_mem_take u)
  have l:=d _ (ax (xs:=bC h) (i:=q.A.toNat) ω);have n:=d _ (ax (xs:=bC h) (i:=q.B.toNat) ω);generalize nth (bC h) q.A.toNat=a at k l |-;generalize nth (bC h) q.B.toNat=b at k n |-;obtain⟨w,E,F⟩:=rT k;have o:kf (yH (eD a b))=true:=gr.2 ⟨w,by show(0:Int)<=0;omega,by show(0:Int)<=5;omega,by show(0:Int)<=0;omega,by show(0:Int)<=(((eD a b).V.length:Nat):Int);omega⟩;have p:(∃s∈h.H,s.S=(eD a b).b1)/\∃s∈h.H,s.S=(eD a b).b3:=by
   unfold eD;split
   ·exact⟨⟨b,n,rfl⟩,⟨a,l,rfl⟩⟩
   exact⟨⟨a,l,rfl⟩,⟨b,n,rfl⟩⟩
  exact⟨{hi with nums:=c,job:=λ_=>⟨o,p⟩,noj:=λe=>by cases e},rfl,rfl⟩
def bf.objSz(a:bf h E):∀o∈h.K,0<=o.k/\o.k<=1000:=λx c=>by
 rcases a.oow x c with⟨s,d,e,f⟩|⟨l,b,g,i⟩
 ·have j:=aJ (a.L.sok s d)
  have:=B9 (n:=x.k) ω;omega
 have k:=cL (a.L.lok l b);omega
def FG(t:Int){size:Int}(c:bf h [])(d:9<=size/\size<=1000):tD h t size=if(DU h size).2<0 then((DU h size).1,-1,4) else(addO (DU h size).1 (DU h size).2 size t,(DU h size).2,0):=by
 unfold tD DU;by_cases a:(aA h.e (ma size:Nat)).2.2=false
 ·rw[CJ a,CJ a]
  exact(CJ (show(-1:Int)<0 by decide)).symm
 rw[CI a,CI a];obtain⟨e,-⟩:=kE c (show(1:Int)<=(ma size:Nat) by unfold ma;omega) (by simpa using a);by_cases b:(jY h size).2=ma size
 ·rw[CJ b,CJ b]
  exact(CI (show ¬16*(aA h.e (ma size:Nat)).2.1<0 by omega)).symm
 rw[CI b,CI b];exact(CJ (show(-1:Int)<0 by decide)).symm
def DP(h:ac)(t size:Int)(k:bf h []):zzB 46 false [.ptr (bO h),.vI t,.vI size] [.ptr (bO (eX h t size).1),.vI t,.vI size] (.tup [none,none]) [I (eX h t size).2.1,I (eX h t size).2.2]:=by
 have W:=k.lens;have Z:=W.caches;have O:=W.objs;have p:=k.nums;unfold ch at p;rw[C0]at p;have P:=og k.objSz h.K.length (O5 _);change 0<=pD h/\pD h<=_ at P;have n:=aK t 0 ((h.Q.length:Int) - 1);have r:=aK size 1 1000;have D:=z7 h k.objSz ω;have E:=lX size;refine fM 119 [(97,[2,0,0]),(98,[2,0])] [ρ 7 10 36,(18,272,[81,82,83,84,85,86,87,89,90,91,92,93,94,95,96,97,0,1,2,3,4,5,6,8,9,10,11,12,13,14,15,16,1016,7,1008,1009,1010,1011,1012,1013,1014,1015,1016,17,18]),(1048594,0,[8])] [(0,0),(0,0),(0,0)] Tryz.func46 rfl (λu q=>?_) (.inr ⟨tV1,tV1,tV1⟩);unfold eX;by_cases h1:1000000<=h.o
 ·rw[CJ (.inl h1)]
  refine σE ?_
  exact kk
 by_cases h2:90000<h.G.b
 ·rw[CJ (.inr h2)]
  repeat'(first|refine gE ?_|refine gS (λb=>?_) (λb=>?_)|fail)
  exact kk
 rw[CI ω];by_cases C:¬(0<=t/\t<=h.Q.length - 1)
 ·rw[CJ C]
  rw[Z0 C]at n
  repeat'(first|refine gE ?_|refine gS (λb=>?_) (λb=>?_)|fail)
  exact kk
 rw[CI C];replace C:=Decidable.not_not.1 C;rw[O0 C]at n;by_cases B:¬(1<=size/\size<=1000)
 ·rw[CJ B]
  rw[Z0 B]at r
  repeat'(first|refine gE ?_|refine gS (λb=>?_) (λb=>?_)|fail)
  exact kk
 rw[CI B];replace B:=Decidable.not_not.1 B;rw[O0 B]at r;by_cases X:h.c2<pD h+size
 ·rw[CJ X]
  repeat'(first|refine gE ?_|refine gS (λb=>?_) (λb=>?_)|refine CL (D) ⟨⟨rfl,bS h⟩,tV1⟩ ?_)
  exact kk
 rw[CI X];by_cases F:0<=aP size
 ·rw[CJ F]
  have hc3:aP size<=3:=by unfold aP;repeat' split<;>omega
  obtain⟨T,rfl⟩:=C5 C.1;obtain⟨K,hK⟩:=C5 F;have o:=DI h T K k ω ω ω;have s:=sj (t:=T) (c:=K) k ω ω ω;rw[hK]at E |-;simp only[Z4];generalize eY h T K=w at o s |-;obtain⟨g,a⟩:=w;have G:g.o=h.o:=s.nx;simp only at o |-;by_cases H:a<0
  ·rw[CJ H]
   repeat'(first|refine gE ?_|refine gS (λb=>?_) (λb=>?_)|refine CL (D) ⟨⟨rfl,bS h⟩,tV1⟩ ?_)
   exact kk
  rw[CI H];obtain⟨k1,k2⟩:=s.yes (show(0:Int)<=a by omega);have Q:g.K.length<=512:=k1.lens.objs
  repeat'(first|refine gE ?_|refine gS (λb=>?_) (λb=>?_)|refine CL (D) ⟨⟨rfl,bS h⟩,tV1⟩ ?_)
  refine gl g.K.length (λi=>[(0,bF (bO g)),(1,fN T),(2,fI size),(8,fI a),(9,fN i)]) (λi=>∀(j:Nat)(z:bc),j<i->g.K[j]? = some z->N8 a z=false) (λj z hj=>ω) λi k=>?_
  obtain⟨R,J⟩:=k;by_cases S:i<g.K.length/\(nth g.K i).U<a
  ·have d:=ar S.1
   refine σE ?_
   (exact cV (i+1) ⟨ω,fh d (Z0 ω) J⟩)
  have l:kW (N8 a) g.K=i:=nl ω J λz L=>by
   have U:=(C4.1 L).1;have:z=nth g.K i:=(bk L).symm;subst this;exact O0 ω
  have d:i<g.K.length->g.K[i]? = some (nth g.K i):=λV=>ar V
  rw[show addO g a size (T:Nat) = {g with K:=g.K.take i++⟨g.o,a,size,(T:Nat)⟩::g.K.drop i,o:=g.o+1} by unfold addO;rw[mV l]]
  repeat'(first|refine gE ?_|with_reducible refine CH (aa (d ω)) ?_|refine gS (λb=>?_) (λb=>?_)|refine CK rfl (aa (d ω)) rfl ?_|refine L8.mk rfl (yN g.K) rfl ?_|refine Ca i rfl ϰ (aI λ_=>rfl) C8 ?_|refine Ci i rfl ϰ (aI λ_=>rfl) I8 ?_|refine CX (λ_=>rfl) (λ_=>rfl) θ qs ?_|refine Cc (aI λ_=>rfl) rfl (by rw[Z1,Z2];omega) qs rfl ?_|refine Ap.ins (e:=bc.enc .R) (y:=⟨g.o,a,size,(T:Nat)⟩) rfl (λ_=>rfl) (λ_=>rfl) ω qs ?_)
  all_goals
   exact kk
 rw[CI F];have M:9<=size:=by unfold aP at F;repeat' split at F<;>omega
 have o:=Ew h size k ⟨M,B.2⟩ ω;rw[FG t k ⟨M,B.2⟩];have Y:(DU h size).1.o=h.o/\(DU h size).1.K=h.K:=by
  unfold DU;split
  ·exact⟨rfl,rfl⟩
  split<;>exact⟨rfl,rfl⟩
 generalize DU h size=w at o Y |-;obtain⟨g,a⟩:=w;obtain⟨G,N⟩:=Y;simp only at o G N |-;have Q:g.K.length<=512:=by rw[N];exact O
 by_cases H:a<0
 ·rw[CJ H]
  repeat'(first|refine gE ?_|refine gS (λb=>?_) (λb=>?_)|refine CL (D) ⟨⟨rfl,bS h⟩,tV1⟩ ?_)
  exact kk
 rw[CI H]
 repeat'(first|refine gE ?_|refine gS (λb=>?_) (λb=>?_)|refine CL (D) ⟨⟨rfl,bS h⟩,tV1⟩ ?_)
 refine gl g.K.length (λi=>[(0,bF (bO g)),(1,fI t),(2,fI size),(8,fI a),(9,fN i)]) (λi=>∀(j:Nat)(z:bc),j<i->g.K[j]? = some z->N8 a z=false) (λj z hj=>ω) λi k=>?_
 obtain⟨R,J⟩:=k;by_cases S:i<g.K.length/\(nth g.K i).U<a
 ·have d:=ar S.1
  refine σE ?_
  (exact cV (i+1) ⟨ω,fh d (Z0 ω) J⟩)
 have l:kW (N8 a) g.K=i:=nl ω J λz L=>by
  have U:=(C4.1 L).1;have:z=nth g.K i:=(bk L).symm;subst this;exact O0 ω
 have d:i<g.K.length->g.K[i]? = some (nth g.K i):=λV=>ar V
 rw[show addO g a size t = {g with K:=g.K.take i++⟨g.o,a,size,t⟩::g.K.drop i,o:=g.o+1} by unfold addO;rw[mV l]]
 repeat'(first|refine gE ?_|with_reducible refine CH (aa (d ω)) ?_|refine gS (λb=>?_) (λb=>?_)|refine CK rfl (aa (d ω)) rfl ?_|refine L8.mk rfl (yN g.K) rfl ?_|refine Ca i rfl ϰ (aI λ_=>rfl) C8 ?_|refine Ci i rfl ϰ (aI λ_=>rfl) I8 ?_|refine CX (λ_=>rfl) (λ_=>rfl) θ qs ?_|refine Cc (aI λ_=>rfl) rfl (by rw[Z1,Z2];omega) qs rfl ?_|refine Ap.ins (e:=bc.enc .R) (y:=⟨g.o,a,size,t⟩) rfl (λ_=>rfl) (λ_=>rfl) ω qs ?_)
 all_goals
  exact kk
def Me(h:ac)(a n:Int)(o:h.J.length<=4096)(i:∀l∈h.J,bZ l=true)(j:r8 h a<0):zzB 103 false [.ptr (bO h),.vI a,.vI n] [.ptr (bO h),.vI a,.vI n] .one [B false]:=by
 have b:∀l∈h.J,l.S*16≠a:=λl c e=>by
  have:=Bm (p:=lI a) c (O0 e);unfold r8 at j;omega
 refine fM 136 [(201,[2,0])] [ρ 8 6 49,ρ 9 10 56,ς1j] [(0,0),(0,0),(0,0)] Tryz.func103 rfl (λu q=>?_)
 refine σP ?_
 refine Lp.mk (ι:=Nat) (λk=>[(0,bF (bO h)),(1,fI a),(2,fI n),(7,fN k)]) (λk=>k<=h.J.length) (λk=>h.J.length - k) (0) ?_ (C1 _) λk r=>?_
 ·exact wE
 by_cases d:k<h.J.length
 ·have g:=ar d
  have t:=b _ (ax d);have w:=aV (i _ (ax d))
  refine σB ?_
  (exact cV (k+1) ω)
 refine σE ?_
 exact kk
def Xt(h:ac)(a:Int)(m:Nat):bO {h with G:=zK h.G a (m+1)} = (bO {h with G:=zK h.G a m}).set 0 (.s .own (((zK h.G a m).F.W.V.map (aE .own)).set (au (zK h.G a m).F.O ((a+m) / 16)).j.toNat ((aE .own (nth (zK h.G a m).F.W.V (fe (zK h.G a m) (a+m)))).set 0 (.s .own (((nth (zK h.G a m).F.W.V (fe (zK h.G a m) (a+m))).map (rI .own)).set ((a+m) % 16).toNat (splice (rI .own (nth (nth (zK h.G a m).F.W.V (fe (zK h.G a m) (a+m))) ((a+m) % 16).toNat)) 0 [I 0])))))):=
 Ns {h with G:=zK h.G a m} (a+m) 0
def gw(h:ac)(i k:Nat)(n:Int)(K:ah):ac:={h with G:=K,J:=h.J.set k (trimL (nth h.J k) n),K:=h.K.set i {nth h.K i with k:=n}}
def E1(h:ac)(i k:Nat)(n:Int)(K:ah):(gw h i k n K).K.map (bc.enc .own)=(h.K.map (bc.enc .own)).set i (splice (bc.enc .own (nth h.K i)) 2 [I n]):=by
 simp[gw,CC,bc.enc,splice]
def vp(h:ac)(i:Nat)(n:Int)(d:bf h [])(F:i<h.K.length)(hg:0<=r8 h (nth h.K i).U):zzB 103 false [.ptr (bO h),.val none [I (nth h.K i).U],.vI n] [.ptr (bO (if i6 h i n then trimH h i (r8 h (nth h.K i).U).toNat n else h)),.val none [I (nth h.K i).U],.vI n] .one [B (decide (i6 h i n))]:=by
 have c:=d.lens;have hnl:=c.larges;have hno:=c.objs;have hpg:fk h<=32:=c.ents;obtain⟨f1,f2,f3⟩:=eL (lI (nth h.K i).U) h.J hg;obtain⟨g,l⟩:=C5 hg;have b:g<h.J.length:=by unfold r8 at l;omega
 have W:(nth h.J g).S*16=(nth h.K i).U:=by
  have:=of_decide_eq_true f2;rw[show(cu (lI (nth h.K i).U) h.J).toNat=g by unfold r8 at l;omega]at this;exact this
 have G:∀k,k<g->(nth h.J k).S*16≠(nth h.K i).U:=λk hk e=>by
  have H:k<h.J.length:=ω
  have hok1:=aV (d.L.lok _ (ax H));have hok2:=aV (d.L.lok _ (ax b));have:=d.L.one k g H b 0 0 ω ω ω;omega
 have o:i6 h i n↔9<=n/\n<=(nth h.J g).k:=by
  unfold i6;rw[l,Z4];exact⟨λx=>x.2,λx=>⟨ω,x⟩⟩
 rw[l,Z4];have hbd:=nD d (ax F);obtain⟨-,X,r⟩:=d.objAt (ax F);have Y:kb h (nth h.K i).U=i:=by
  have h2:=(d.objAt (ax F)).1;exact hJ (f:=(·.U)) (gR d.osr) h2 F (by rw[X])
 rw[Y]at r;have y:=ar F;have hxg:=ar b;have T:=B0 (nth h.J g) n (d.L.lok _ (ax b));have h8:=d.L.lok _ (ax b);unfold bZ at h8;rw[C0]at h8;refine fM 136 [(201,[2,0])] [ρ 8 6 49,ρ 9 10 56,ς1j] [(0,0),(0,0),(0,0)] Tryz.func103 rfl (λu q=>?_)
 refine σP ?_
 refine Lp.mk (ι:=Nat) (λk=>[(0,bF (bO h)),(1,fI ((nth h.K i).U)),(2,fI n),(7,fN k)]) (λk=>k<=g) (λk=>g - k) (0) ?_ (C1 _) λk hk=>?_
 ·exact wE
 have j:=ar (xs:=h.J) (i:=k) ω;have hfk:=aV (d.L.lok _ (ax (xs:=h.J) (i:=k) ω));by_cases e:k=g;rotate_left
 ·have hne:=G k ω
  refine σB ?_
  (exact cV (k+1) ω)
 subst e;by_cases D:9<=n/\n<=(nth h.J k).k;rotate_left
 ·rw[CI (by rw[o];exact D),Z0 (by rw[o];exact D)]
  rw[CI D]at T
  refine σB ?_
  exact kk
 rw[CJ (by rw[o];exact D),O0 (by rw[o];exact D)];rw[CJ D]at T;have t:=λm Z=>A2 d b D (m:=m) Z
 have w:=λm=>(xa h.G (16*(nth h.J k).S+n) m).1
 have J:=λa U=>nh d b (a:=a) U
 have hsz:n<=16*(nth h.J k).a2:=ω
 generalize hM:(16*((n+15) / 16) - n).toNat=M at *;have hfl:∀m,(zK h.G (16*(nth h.J k).S+n) m).F.W.V.length=h.G.F.W.V.length:=λm=>by
  induction m with
  | zero=>rfl
  | succ m ih=>show(List.set _ _ _).length=_;rw[O2];exact ih
 have cO:=tN {h with J:=h.J.set k (trimL (nth h.J k) n)} (nth h.K i).U (by show h.K.length<=_;omega);change am _ _ _ [.val (some 24) (ac.enc .R {h with J:=h.J.set k (trimL (nth h.J k) n)}),_] _ [I (cu (jc (nth h.K i).U) h.K)]at cO;rw[r]at cO;have N:=bS {h with J:=h.J.set k (trimL (nth h.J k) n)};have heL:bO {h with J:=h.J.set k (trimL (nth h.J k) n)} = (bO h).set 7 (.s .own ((h.J.map (aB.enc .own)).set k (aB.enc .own (trimL (nth h.J k) n)))):=by simp[bO,CC]
 rw[heL]at N
 repeat'(first|refine gB ?_|refine CS rfl rfl (aa j) rfl δ rfl ?_|refine CL (cO) ⟨⟨rfl,N⟩,π⟩ ?_|refine CS rfl rfl (aa y) rfl δ rfl ?_)
 rw[<-W];have e0:gw h i k n h.G=gw h i k n (zK h.G (16*(nth h.J k).S+n) 0):=rfl;have hoo:C.s .own ((gw h i k n (zK h.G (16*(nth h.J k).S+n) 0)).J.map (aB.enc .own))=C.s .own ((h.J.map (aB.enc .own)).set k (aB.enc .own (trimL (nth h.J k) n))):=by simp[gw,CC]
 have hoo2:C.s .own ((gw h i k n (zK h.G (16*(nth h.J k).S+n) 0)).K.map (bc.enc .own))=C.s .own ((h.K.map (bc.enc .own)).set i (splice (bc.enc .own (nth h.K i)) 2 [I n])):=I1 _ (E1 h i k n _)
 (conv=>whnf)
 refine Lp.mk (ι:=Nat) (λm=>[(0,bF (bO (gw h i k n (zK h.G (16*(nth h.J k).S+n) m)))),(1,fI ((nth h.J k).S*16)),(8,bF (aB.enc .own (trimL (nth h.J k) n))),(9,bF (aC.enc .own (jO (nth h.J k) n))),(11,fI ((16*(nth h.J k).S+n)+(m:Nat)))]) (λm=>m<=M) (λm=>M - m) (0) ?_ (C1 _) λm Z=>?_
 ·exact wE
 have hmod:IntKind.i64.wrap 0=0:=rfl;by_cases lm:m<M
 ·have U:0<=(16*(nth h.J k).S+n)+(m:Nat)/\(16*(nth h.J k).S+n)+(m:Nat)<512:=ω
  have O:=J ((16*(nth h.J k).S+n)+(m:Nat)) ω;have p:=t m Z;rw[<-w m]at O;have hks:=aX p;have c2:=cZ (zK h.G (16*(nth h.J k).S+n) m).F.O (((16*(nth h.J k).S+n)+(m:Nat)) / 16) hks.1.2;obtain⟨-,-,-,q0,q1⟩:=bQ p O;have hul:=(aT.1 (aF.1 p).2.1).2.2.1;have Q:fe (zK h.G (16*(nth h.J k).S+n) m) ((16*(nth h.J k).S+n)+(m:Nat))<(zK h.G (16*(nth h.J k).S+n) m).F.W.V.length:=by unfold fe;omega
  have E:(zK h.G (16*(nth h.J k).S+n) m).F.W.V[(au (zK h.G (16*(nth h.J k).S+n) m).F.O (((16*(nth h.J k).S+n)+(m:Nat)) / 16)).j.toNat]? = some _:=ar Q;have h16:=(He p Q).1;have R:=ar (xs:=nth (zK h.G (16*(nth h.J k).S+n) m).F.W.V (fe (zK h.G (16*(nth h.J k).S+n) m) ((16*(nth h.J k).S+n)+(m:Nat)))) (i:=(((16*(nth h.J k).S+n)+(m:Nat)) % 16).toNat) (by rw[h16];omega);have htm:((16*(nth h.J k).S+n)+(m:Nat)).tmod 16=((16*(nth h.J k).S+n)+(m:Nat)) % 16:=dy U.1;have hpu:=Xt (gw h i k n h.G) (16*(nth h.J k).S+n) m;have hwr:=kV U;have hst:(trimL (nth h.J k) n).a2=(n+15) / 16:=rfl
  repeat'(first|refine gE ?_|apply CT qs|apply CR hwr|apply CY htm|refine CL (c2) ⟨⟨rfl,Cn _⟩,π⟩ ?_|apply CO q0 (aa E)|refine CO ω (aa R) ?_|refine Pu.two rfl rfl (aa E) rfl rfl rfl (aa R) rfl (O5 _) hpu ?_)
  (exact cV (m+1) ω)
 obtain rfl:m=M:=ω
 have hst:(trimL (nth h.J k) n).a2=(n+15) / 16:=rfl;have hkM:=t m (O5 _);have S:(zK h.G (16*(nth h.J k).S+n) m).F.O.M.length=fk h:=by rw[w];rfl
 have hTK:qq h k n=zK h.G (16*(nth h.J k).S+n) m:=by unfold qq;rw[hM]
 unfold trimH xW;rw[hTK];generalize zK h.G (16*(nth h.J k).S+n) m=K at *;have hN:((dB (nth h.J k) n:Nat):Int)=(nth h.J k).a2 - (n+15) / 16:=by unfold dB;omega
 have hrA:0<dB (nth h.J k) n->jO (nth h.J k) n = ⟨(nth h.J k).S+(n+15) / 16,(dB (nth h.J k) n:Nat)⟩:=λhp=>by unfold jO;rw[CJ ω,hN]
 have hrB:¬0<dB (nth h.J k) n->jO (nth h.J k) n = ⟨0,0⟩:=λhp=>by unfold jO;rw[CI ω]
 generalize dB (nth h.J k) n=P at *;by_cases V:0<P
 ·rw[CJ V]
  have hr:=hrA V;rw[hr]
  refine σE ?_
  refine Lp.mk (ι:=Nat) (λx=>[(0,bF (bO (gw h i k n (dE K ((nth h.J k).S+(n+15) / 16) x)))),(9,bF ([I ((nth h.J k).S+(n+15) / 16),I (P:Nat)])),(13,fI ((nth h.J k).S+(n+15) / 16+(x:Nat)))]) (λx=>x<=P) (λx=>P - x) (0) ?_ (C1 _) λx j=>?_
  ·exact wE
  by_cases lx:x<P
  ·have c3:=pG (gw h i k n (dE K ((nth h.J k).S+(n+15) / 16) x)) ((nth h.J k).S+(n+15) / 16+(x:Nat)) (jJ hkM _ _)
   refine σE ?_
   (exact cV (x+1) ω)
  obtain rfl:x=P:=ω
  have c4:=iX (gw h i k n (dE K ((nth h.J k).S+(n+15) / 16) x));rw[show fk (gw h i k n (dE K ((nth h.J k).S+(n+15) / 16) x))=fk h from(gM _ _ _).1.trans S]at c4;have c5:=od (fk h:Nat) h.e ⟨(nth h.J k).S+(n+15) / 16,(x:Nat)⟩ ⟨ω,ω⟩ ⟨by have:=c.free;omega,λ_ _=>tV1⟩
  repeat'(first|refine gE ?_|refine CL (c4) ⟨bS _,tV1⟩ ?_|refine CL (c5) ⟨⟨rfl,rfl⟩,⟨rfl,ef h.e⟩,π⟩ ?_)
  exact kk
 rw[CI V];obtain rfl:P=0:=ω
 have hr:=hrB V;rw[hr]
 refine σE ?_
 refine Lp.mk (ι:=Nat) (λx=>[(0,bF (bO (gw h i k n K))),(9,bF ([I 0,I 0])),(13,fI 0)]) (λx=>x=0) (λx=>0) (0) ?_ (rfl) λx j=>?_
 ·exact wE
 subst j
 refine σE ?_
 exact kk
def A4(a:α)(k:Nat):List.replicate (k+1) a=List.replicate k a++[a]:=List.replicate_succ' ..
def Bp(n k:Nat):aW.enc .own ⟨List.replicate k (List.replicate 16 0),List.replicate n false⟩ = [.s .own (List.replicate k [.s .own (List.replicate 16 [I 0])]),.s .own (List.replicate n [B false])]:=by
 simp[aW.enc,aE,rI,rB,List.map_replicate]
def qR(n:Nat)(e:1<=n/\n<=32):zzA 309 false [.vI (n:Nat)] (.tup [some 2,none]) (aW.enc .own (eN n)++[B true]):=by
 have c:=aH ((n:Nat):Int) 1 32;rw[O0 ω]at c;have a:=ay (b:=[B true]) (aW.enc_fr (eN n)) ⟨tV1,tV1⟩;rw[show aW.enc .own (eN n)=_ from Bp n n]at a |-;refine fO 25 [ρ 7 4 18] Tryz.func309 rfl ?_ (.inr a)
 repeat'(first|refine gP ?_|refine Mk.mk n rfl rfl ω (yt ω qs) rfl ?_)
 refine lp0 n (λk=>[(0,fN n),(2,bF [.z,.z]),(4,bF [.s .own (List.replicate k [.s .own (List.replicate 16 [I 0])]),.s .own (List.replicate n [B false])]),(5,fN k)]) λk g=>?_
 by_cases h:k<n
 ·repeat'(first|refine gE ?_|refine Mk.mk 16 rfl rfl qs qs rfl ?_|refine Cc (λr d=>by rw[(List.mem_replicate.1 d).2];rfl) rfl kd qs (A4 _ k) ?_)
  (exact cV (k+1) ω)
 obtain rfl:k=n:=ω
 refine σE ?_
 rfl
def sL(n:Nat)(e:1<=n/\n<=32):zzA 310 false [.vI (n:Nat)] (.tup [some 1,none]) (aM.enc .own (ew n)++[B true]):=by
 have c:=aH ((n:Nat):Int) 1 32;rw[O0 ω]at c;have a:=ay (b:=[B true]) (aM.enc_fr (ew n)) ⟨tV1,tV1⟩;have d:aM.enc .own (ew n)=[.s .own (List.replicate n [I 0,I 0])]:=by simp[aM.enc,ew,bv.enc,List.map_replicate]
 rw[d]at a |-;refine fO 11 [] Tryz.func310 rfl ?_ (.inr a)
 repeat'(first|refine gP ?_|refine Mk.mk n rfl rfl ω (yt ω qs) rfl ?_)
 rfl
def qh(p f:Nat)(a:1<=p/\p<=32)(b:1<=f/\f<=32):zzA 237 false [.vI (p:Nat),.vI (f:Nat)] (.tup [some 3,none]) (aN.enc .own ⟨eN f,ew p⟩++[B true]):=by
 refine fO 30 [] Tryz.func237 rfl ?_ (.inr (ay (aN.enc_fr _) ⟨tV1,tV1⟩))
 repeat'(first|refine gP ?_|apply CF (qR f b)|apply CF (sL p a))
 rfl
def Pa(n:Nat):TL [.s .own (List.replicate n [.z]),.s .own (List.replicate n [.z]),B true] (aL.enc .own (eS n)++[B true]):=by
 have e:aL.enc .own (eS n)++[B true]=[.s .own (List.replicate n [.s .own []]),.s .own (List.replicate n [.s .own []]),B true]:=by simp[aL.enc,eS,bL,aE,List.map_replicate]
 rw[e];exact .cons (.rep (.cons .z_ .nil)) (.cons (.rep (.cons .z_ .nil)) (.cons (.rfl_ _) .nil))
def pC(n:Nat)(b:1<=n/\n<=4):zzA 141 false [.vI (n:Nat)] (.tup [some 2,none]) (aL.enc .own (eS n)++[B true]):=by
 have a:=aH ((n:Nat):Int) 1 4;rw[O0 ω]at a;refine fO 13 [ςn] Tryz.func141 rfl ?_ (.inr (ay (Cs _) ⟨tV1,tV1⟩))
 repeat'((conv=>whnf);first|with_reducible (first|refine Lm ?_|refine Wm ω ?_|refine Bn ?_|refine cF.dk rfl ?_)|refine Bt ?_|refine Bu ?_|refine CG ?_|refine CF (a) ?_|refine Mk.mk n rfl rfl ω (yt ω qs) rfl ?_)
 exact Pa n
def po(n:Nat)(b:1<=n/\n<=4):zzA 42 false [.vI (n:Nat)] (.tup [some 2,none]) (aL.enc .own (eS n)++[B true]):=by
 have a:=aK ((n:Nat):Int) 1 4;rw[O0 ω]at a;refine fO 13 [ςn] Tryz.func42 rfl ?_ (.inr (ay (Cs _) ⟨tV1,tV1⟩))
 repeat'((conv=>whnf);first|with_reducible (first|refine Lm ?_|refine Wm ω ?_|refine Bn ?_|refine cF.dk rfl ?_)|refine Bt ?_|refine Bu ?_|refine CG ?_|refine CF (a) ?_|refine Mk.mk n rfl rfl ω (yt ω qs) rfl ?_)
 exact Pa n
def La:TL [.s .own (List.replicate 4 [.z])] (aD.enc .own f9):=.cons (.rep (.cons .z_ .nil)) .nil
def DK:zzA 143 false [] .agg (aD.enc .own f9):=by
 refine fO 3 [] Tryz.func143 rfl ?_ (.inr (Cr _))
 repeat'((conv=>whnf);first|with_reducible (first|refine Lm ?_|refine Wm ω ?_|refine Bn ?_|refine cF.dk rfl ?_)|refine Bt ?_|refine Bu ?_|refine CG ?_|refine Mk.mk 4 rfl rfl qs qs rfl ?_)
 exact La
def Dq:zzA 44 false [] .agg (aD.enc .own f9):=by
 refine fO 3 [] Tryz.func44 rfl ?_ (.inr (Cr _))
 repeat'((conv=>whnf);first|with_reducible (first|refine Lm ?_|refine Wm ω ?_|refine Bn ?_|refine cF.dk rfl ?_)|refine Bt ?_|refine Bu ?_|refine CG ?_|refine Mk.mk 4 rfl rfl qs qs rfl ?_)
 exact La
def Hd:zzA 142 false [.vI 16] (.tup [some 2,none]) (bz.enc .own ⟨16,[]⟩++[B true]):=by
 refine fO 10 [] Tryz.func142 rfl ?_ (.inr (ay (bz.enc_fr _) ⟨tV1,tV1⟩))
 repeat'(first|refine σQ ?_|refine CG ?_|refine CF (aH 16 0 500) ?_)
 exact⟨rfl,rfl,rfl,tV1⟩
def vr:zzA 45 false [.vI 16] (.tup [some 2,none]) (bz.enc .own ⟨16,[]⟩++[B true]):=by
 refine fO 10 [] Tryz.func45 rfl ?_ (.inr (ay (bz.enc_fr _) ⟨tV1,tV1⟩))
 repeat'(first|refine σQ ?_|refine CG ?_|refine CF (aK 16 0 500) ?_)
 exact⟨rfl,rfl,rfl,tV1⟩
def caps(h:ac)(k:Nat):ac:={h with Q:=List.replicate k f9}
def F5(k:Nat):(List.replicate (k+1) f9).map (aD.enc .own)=(List.replicate k f9).map (aD.enc .own)++[aD.enc .own f9]:=by rw[A4,IB];rfl
variable{k:Nat}
def JR : ∀r∈(List.replicate k f9).map (aD.enc .own),r.length=1:=aI λ_=>rfl
def q8(n:Nat)(e:1<=n/\n<=32):zzA 191 false [.vI (n:Nat)] (.tup [some 2,none]) (aW.enc .own (eN n)++[B true]):=by
 have c:=aK ((n:Nat):Int) 1 32;rw[O0 ω]at c;have a:=ay (b:=[B true]) (aW.enc_fr (eN n)) ⟨tV1,tV1⟩;rw[show aW.enc .own (eN n)=_ from Bp n n]at a |-;refine fO 28 [ρ 7 4 16] Tryz.func191 rfl ?_ (.inr a)
 refine σP ?_
 refine lp0 n (λk=>[(0,fN n),(2,bF [.z,.z]),(4,bF [.s .own (List.replicate k [.s .own (List.replicate 16 [I 0])]),.s .own (List.replicate k [B false])]),(5,fN k)]) λk g=>?_
 by_cases h:k<n
 ·repeat'(first|refine gE ?_|refine Mk.mk 16 rfl rfl qs qs rfl ?_|refine Cc (λr d=>by rw[(List.mem_replicate.1 d).2];rfl) rfl kd qs (A4 _ k) ?_)
  (exact cV (k+1) ω)
 obtain rfl:k=n:=ω
 refine σE ?_
 rfl
def sH(n:Nat)(e:1<=n/\n<=32):zzA 192 false [.vI (n:Nat)] (.tup [some 1,none]) (aM.enc .own (ew n)++[B true]):=by
 have c:=aK ((n:Nat):Int) 1 32;rw[O0 ω]at c;have a:=ay (b:=[B true]) (aM.enc_fr (ew n)) ⟨tV1,tV1⟩;have d:aM.enc .own (ew n)=[.s .own (List.replicate n [I 0,I 0])]:=by simp[aM.enc,ew,bv.enc,List.map_replicate]
 rw[d]at a |-;refine fO 11 [] Tryz.func192 rfl ?_ (.inr a)
 repeat'(first|refine gP ?_|refine Mk.mk n rfl rfl ω (yt ω qs) rfl ?_)
 rfl
def qm(p f:Nat)(a:1<=p/\p<=32)(b:1<=f/\f<=32):zzA 94 false [.vI (p:Nat),.vI (f:Nat)] (.tup [some 3,none]) (aN.enc .own ⟨eN f,ew p⟩++[B true]):=by
 refine fO 30 [] Tryz.func94 rfl ?_ (.inr (ay (aN.enc_fr _) ⟨tV1,tV1⟩))
 repeat'(first|refine gP ?_|apply CF (q8 f b)|apply CF (sH p a))
 rfl
def qB(p f:Nat)(a:List Int)(b:1<=p/\p<=32)(c:1<=f/\f<=32)(d:a.length<=40/\∀x∈a,0<=x):zzA 41 false [.vI (p:Nat),.vI (f:Nat),.val none (aE .R a)] (.tup [some 5,none]) (ah.enc .own (bD p f a)++[B true]):=by
 have e:=nB b c d;have h:=d.1;have g:=kG (bD p f a) (aX e);rw[e]at g;refine fO 31 [ς13] Tryz.func41 rfl ?_ (.inr (ay (Ck _) ⟨tV1,tV1⟩))
 repeat'(first|refine gP ?_|apply CF (qm p f b c)|refine CL (g) ⟨⟨rfl,CW (bD p f a)⟩,tV1⟩ ?_|refine CX (λ_=>rfl) (λ_=>rfl) ω qs ?_|refine Ce (λ_=>rfl) (λ_=>rfl) ω qs ?_)
 rfl
def XU(p f t:Nat)(lim:Int)(a:List Int)(k:Nat):ac:={caps (rX p f t lim a) k with a4:=⟨0,[]⟩}
def GP(p f t:Nat)(lim:Int)(a:List Int)(c:1<=p/\p<=32)(d:1<=f/\f<=32)(e:1<=t/\t<=4)(g:0<=lim/\lim<=1000)(h:a.length<=40/\∀x∈a,0<=x):zzA 26 false [.vI (p:Nat),.vI (f:Nat),.vI (t:Nat),.vI lim,.val none (aE .R a)] (.tup [some 24,none]) (ac.enc .own (rX p f t lim a)++[B true]):=by
 have b:=aK lim 0 1000;rw[O0 g]at b;refine fO 66 [ςc] Tryz.func26 rfl ?_ (.inr (ay (ac.enc_fr _) ⟨tV1,tV1⟩))
 repeat'(first|refine gP ?_|apply CF (qB p f a c d h)|apply CF (po t e)|apply CF (vr))
 refine lp0 t (λk=>[(2,fN t),(10,bF [.z,.z,.z,I 0,.z,.z,.z,.z,.z,.z,.z,.z,I 0,.z,I 0,I 0,I 0,I 0,B false,I 0,I 0,.z,I 0,I 0]),(16,bF (ac.enc .own (XU p f t lim a k))),(17,fN k)]) λk i=>?_
 by_cases j:k<t
 ·repeat'(first|refine gE ?_|apply CF (Dq)|refine Cc JR rfl (by rw[Z1];show(List.replicate _ f9).length+1<=_;rw[C7];omega) qs (F5 k) ?_)
  (exact cV (k+1) ω)
 obtain rfl:k=t:=ω
 repeat'(first|refine gE ?_|apply CF (vr))
 rfl
def Ld:zzA 27 false [] .agg (a7.enc .own ⟨1,[]⟩):=by
 refine fO 2 [] Tryz.func27 rfl ?_ (.inr (a7.enc_fr _))
 repeat'(first|refine σQ ?_|refine CG ?_)
 exact⟨rfl,rfl,tV1⟩
def td(c:eH)(h:KX c):zzA 15 false [.val (some 5) (eH.enc .R c)] (.tup [some 26,none]) (bn.enc .own (world0 c)++[B true]):=by
 have a:=GP c.a2 c.W c.c4 c.c2 c.d h.p h.f h.t h.l h.r;refine fO 26 [ςo] Tryz.func15 rfl ?_ (.inr (ay (bn.enc_fr _) ⟨tV1,tV1⟩))
 repeat'(first|refine gP ?_|apply CF (Ld))
 rfl
def rfs(h:ac):List Int:=h.G.d
def Hv(k:ah)(p:Int):(dP k p).1.d=k.d:=by unfold dP;split<;>rfl
def ur(k:ah)(p:Int):∀n,(bG k p n).1.d=k.d
 | 0=>rfl
 | n+1=>by
  unfold bG;split
  ·exact(Hv _ _).trans (ur k p n)
  exact ur k p n
def Tg(h:ac)(i:Nat):rfs (lJ h i).1=rfs h:=by unfold lJ;split<;>rfl
def EH(h:ac)(t c:Nat):rfs (eY h t c).1=rfs h:=by
 unfold eY;split
 ·rfl
 split
 ·rfl
 split
 ·rfl
 split
 ·exact Hv _ _
 exact(Tg _ _).trans (Hv _ _)
def Qe(h:ac)(t n:Int):rfs (eX h t n).1=rfs h:=by
 unfold eX;split
 ·rfl
 split
 ·rfl
 split
 ·rfl
 split
 ·rfl
 split
 ·split
  ·exact EH _ _ _
  exact EH _ _ _
 unfold tD;split
 ·rfl
 split
 ·exact ur _ _ _
 exact((rG _ _ _).2).trans (ur _ _ _)
def Rv(h:ac)(t i:Nat):rfs (freeT h t i).1=rfs h:=by
 unfold freeT;split
 ·exact(rG _ _ _).2
 split
 ·rfl
 split
 ·exact(fQ t _ _).2.2.2.2.2.2.2
 split<;>rfl
def E9(t:Nat)(h:ac):∀k,rfs (flushN t h k).1=rfs h
 | 0=>rfl
 | k+1=>((js _ (spilt (flushN t h k).1 t k)).2.2.2.2.2.2.2).trans (E9 t h k)
def LZ{h:ac}(a:bf h [])(b:JI h):∀n,rfs (lg h n).1=rfs h
 | 0=>rfl
 | n+1=>by
  obtain⟨c,d⟩:=Ba a b n;unfold lg;split
  ·rename_i e
   unfold oJ at e;rw[I0]at e;exact((Ms c e.1).2.2.1).trans (LZ a b n)
  exact LZ a b n
def J3{w:bn}{m:Nat}(h:pe w m)(a:dv):rfs (nu w a).1.Z=rfs w.Z:=by
 unfold nu;split
 ·exact Qe _ _ _
 split
 ·split
  ·rfl
  unfold m0;split
  ·unfold uO
   split
   ·rfl
   split
   ·exact Rv _ _ _
   rfl
  split
  ·unfold ru
   split
   ·rfl
   split
   ·rfl
   split<;>rfl
  unfold ve;split
  ·exact((rG _ _ _).2).trans (xa _ _ _).2.2
  rfl
 split
 ·unfold iD
  split
  ·split<;>rfl
  split
  ·rfl
  split
  ·exact(fQ _ _ _).2.2.2.2.2.2.2
  exact E9 _ _ _
 split
 ·unfold rN
  split
  ·exact(js _ _).2.2.2.2.2.2.2
  rfl
 split
 ·unfold rL
  split
  ·rfl
  show rfs (started w.Z).1=_;unfold rfs;rw[(JT h.inv).2.1]
 split
 ·exact LZ h.inv h.ji _
 rfl
def G4{c:eH}(h:KX c)(acts:List dv):∀n,rfs (yE c acts n).1.Z=c.d
 | 0=>rfl
 | n+1=>(J3 (Bx h acts n) _).trans (G4 h acts n)
def tq(w:bn):List C:=bO w.Z++a7.enc .R w.c6
def UH(w:bn):dw (tq w)=bn.enc .R w:=by
 unfold tq;rw[bT,bS,<-Cm,rU,Cm]
 rfl
def Jp(w:bn)(id:Int)(g:w.Z.K.length<=1048576):zzB 48 false [.ptr (tq w),.vI id] [.ptr (tq w),.vI id] .one [I (ml w.Z id)]:=by
 refine fM 28 [] [] [(0,0),(0,0)] Tryz.func48 rfl (λu q=>?_)
 refine σP ?_
 refine gl w.Z.K.length (λi=>[(0,bF (tq w)),(1,fI id),(5,fN i)]) (λi=>∀(j:Nat)(z:bc),j<i->w.Z.K[j]? = some z->NL id z=false) (λj z h=>ω) λi c=>?_
 obtain⟨c,b⟩:=c;by_cases d:i<w.Z.K.length
 ·have a:=ar d
  by_cases e:(nth w.Z.K i).Id=id
  ·refine σB ?_
   refine CM rfl (nr (dJ a (O0 e) b).symm) ?_;exact wC
  refine σB ?_
  (exact cV (i+1) ⟨ω,fh a (Z0 e) b⟩)
 refine σE ?_
 refine CM rfl (nr (f8 ω b).symm) ?_;exact wC
def di(y:ac):(bO y).length=24:=rfl
def Du(w:bn)(m n:Nat)(h:pe w m)(B:n<=50):zzB 54 false [.ptr (tq w),.vI (n:Nat)] [.ptr (tq ⟨(lg w.Z n).1,w.c6⟩),.vI (n:Nat)] .one [I ((lg w.Z n).2:Nat)]:=by
 refine fM 35 [(114,[2])] [] [(0,0),(0,0)] Tryz.func54 rfl (λu q=>?_)
 refine σP ?_
 refine gl n (λi=>[(0,bF (tq ⟨(lg w.Z i).1,w.c6⟩)),(1,fN n),(5,fN ((lg w.Z i).2)),(6,fN i)]) (λi=>(lg w.Z i).2=i) rfl λi l=>?_
 obtain⟨l,C⟩:=l;obtain⟨o,D⟩:=Ba h.inv h.ji i;have b:lg w.Z (i+1)=if oJ (lg w.Z i).1=true then(mStep (lg w.Z i).1,(lg w.Z i).2+1) else lg w.Z i:=rfl
 have p:=(aF.1 o.ker).2.2.2.2;by_cases E:i<n
 ·cases c:(lg w.Z i).1.a3 with
  | true=>
   have y:=(GO _ o c).frame (r:=a7.enc .R w.c6) ((di _).trans (di _).symm);by_cases g:(lg w.Z i).1.G.b<=99000
   ·have d:oJ (lg w.Z i).1=true:=by unfold oJ;rw[c,O0 g];rfl
    rw[CJ d]at b;generalize lg w.Z i=s at *
    repeat'(first|refine gE ?_|refine Bf.t (O0 g) ?_|refine Bf.t c ?_)
    (refine CP (i+1) ⟨ω,by rw[b];simp only;omega⟩ ω ?_)
    rw[b];exact wC
   have d:oJ (lg w.Z i).1=false:=by unfold oJ;rw[c,Z0 g];rfl
   have a:∀k,lg w.Z (i+k)=lg w.Z i:=λk=>by
    induction k with
    | zero=>rfl
    | succ k j=>show(if oJ (lg w.Z (i+k)).1=true then _ else lg w.Z (i+k))=_;rw[j,d,CI ϕ]
   have e:=a (n - i);rw[show i+(n - i)=n by omega]at e;rw[e];generalize lg w.Z i=s at *
   repeat'(first|refine gE ?_|refine Bf.f (Z0 g) ?_|refine Bf.t c ?_)
   exact kk
  | false=>
   have d:oJ (lg w.Z i).1=false:=by unfold oJ;rw[c];rfl
   have a:∀k,lg w.Z (i+k)=lg w.Z i:=λk=>by
    induction k with
    | zero=>rfl
    | succ k j=>show(if oJ (lg w.Z (i+k)).1=true then _ else lg w.Z (i+k))=_;rw[j,d,CI ϕ]
   have e:=a (n - i);rw[show i+(n - i)=n by omega]at e;rw[e];generalize lg w.Z i=s at *
   repeat'(first|refine gE ?_|refine Bf.f c ?_)
   exact kk
 obtain rfl:i=n:=ω
 refine σE ?_
 exact kk
def Mb{k:ah}(a:aG k=true):(aG k&&decide (k.b<100000))=decide (k.b≠100000):=by
 have:=(aF.1 a).2.2.2.2;rw[a,Bool.true_and,O9,C0,C0];omega
def Dc(w:bn)(a:dv)(m:Nat)(h:pe w m)(B:a.b5=5\/a.b5=6\/a.b5=7):zzB 50 false [.ptr (tq w),.val (some 5) (dv.enc .R a)] [.ptr (tq ⟨(iD w.Z a).1,w.c6⟩),.val (some 5) (dv.enc .R a)] .one [I (iD w.Z a).2]:=by
 have d:=h.inv;have o:=d.nc;have p:w.Z.Q.length<=4:=by have:=(dQ.1 d.mail).1.2.1;omega
 have C:=jK.of d.mail;have i:=nt w.Z.G (aX d.ker);rw[Mb d.ker]at i;have j:=aK a.a1 0 (w.Z.Q.length - 1:Int);unfold iD;refine fM 59 [(106,[2,0]),(107,[2,0])] [(3,267,[15,16,17,18,19,20,21,14,22,23,6,0,1,2,3,4,5,6,7,8,9,10,11,1009,12]),ρ 8 15 30] [(0,0),(0,0)] Tryz.func50 rfl (λu q=>?_);by_cases l:a.b5=5
 ·rw[CJ l]
  by_cases e:0<=a.a1/\a.a1<=w.Z.Q.length - 1
  ·have y:mE w.Z a:=e
   obtain⟨t,g⟩:=C5 e.1;have b:=KT w.Z.q t d.mail ω;rw[<-g]at b;rw[g]at e |-;simp only[Z4];rw[g]at b;by_cases c:0<(nth w.Z.q.T t).length
   ·rw[CJ (show mE w.Z a/\0<(nth w.Z.q.T t).length from⟨y,c⟩)]
    rw[CJ c,O0 c]at b;rw[<-g]at b
    repeat'(first|refine gB ?_|refine gS (λk=>?_) (λk=>?_)|refine CL (b) ⟨⟨rfl,Ct w.Z.q⟩,π⟩ ?_)
    exact kk
   rw[CI (show ¬(mE w.Z a/\0<(nth w.Z.q.T t).length) from λx=>c x.2)];rw[CI c,Z0 c]at b;rw[<-g]at b
   repeat'(first|refine gB ?_|refine gS (λk=>?_) (λk=>?_)|refine CL (b) ⟨⟨rfl,Ct w.Z.q⟩,π⟩ ?_)
   exact kk
  rw[CI (show ¬(mE w.Z a/\0<(nth w.Z.q.T a.a1.toNat).length) from λx=>e x.1)];have b:=MV w.Z.q a.a1 d.mail ω
  repeat'(first|refine gB ?_|refine gS (λk=>?_) (λk=>?_)|refine CL (b) ⟨⟨rfl,Ct w.Z.q⟩,π⟩ ?_)
  exact kk
 rw[CI l];by_cases e:w.Z.G.b≠100000;rotate_left
 ·rw[CJ (show ¬(w.Z.G.b≠100000/\mE w.Z a) from λx=>e x.1)]
  rw[Z0 e]at i
  repeat'(first|refine gB ?_|refine CL (i) ⟨⟨rfl,CW _⟩,tV1⟩ ?_)
  exact kk
 rw[O0 e]at i;by_cases c:0<=a.a1/\a.a1<=w.Z.Q.length - 1;rotate_left
 ·rw[CJ (show ¬(w.Z.G.b≠100000/\mE w.Z a) from λx=>c x.2)]
  rw[Z0 c]at j
  repeat'(first|refine gB ?_|refine CL (i) ⟨⟨rfl,CW _⟩,tV1⟩ ?_)
  exact kk
 rw[CI (show ¬¬(w.Z.G.b≠100000/\mE w.Z a) from Z7 ⟨e,c⟩)];rw[O0 c]at j;obtain⟨t,g⟩:=C5 c.1;by_cases n:a.b5=6
 ·rw[CJ n]
  have b:=(y7 w.Z t d ω).frame (r:=a7.enc .R w.c6) ((di _).trans (di _).symm);rw[show a.a1.toNat=t by omega];rw[<-g]at b
  repeat'(first|refine gB ?_|refine CL (i) ⟨⟨rfl,CW _⟩,tV1⟩ ?_)
  exact kk
 rw[CI n];have b:=(DW w.Z t d ω).frame (r:=a7.enc .R w.c6) ((di _).trans (di _).symm);rw[show a.a1.toNat=t by omega];rw[<-g]at b
 repeat'(first|refine gB ?_|refine CL (i) ⟨⟨rfl,CW _⟩,tV1⟩ ?_)
 exact kk
set_option maxHeartbeats 2000000
def jL(r:a7)(c:a7.sml r):zzA 240 false [.val (some 2) (a7.enc .R r)] .agg (a7.enc .own r):=by
 have e:r.K.length<=1048576:=c.1;refine fO 29 [(5,264,[16,17,18,19,20,21,22,26,0,1,2,3,4,5,6,7,1000,1001,8,1000,1001,9,10,11])] Tryz.func240 rfl ?_ (.inr (a7.enc_fr _))
 refine σP ?_
 refine lp0 r.K.length (λi=>[(2,bF [I 0,.z]),(3,bF [I r.o,.s .own ((r.K.take i).map (aQ.enc .own))]),(10,bK ([.s .R (r.K.map (aQ.enc .R))])),(11,fI r.K.length),(12,fN i)]) λi g=>?_
 by_cases a:i<r.K.length
 ·have d:=ar a
  have b:(nth r.K i).V.length<=1048576:=c.2 _ (ax a)
  repeat'(first|refine gE ?_|apply CF (cM (nth r.K i).V b)|refine Cc (aI λ_=>rfl) rfl kd qs (fx a) ?_)
  (exact cV (i+1) ω)
 refine σE ?_
 obtain rfl:i=r.K.length:=ω
 rw[CA]
 rfl
def BL(w:bn)(h1:ac.sml w.Z)(h2:a7.sml w.c6):zzA 144 false [.val (some 26) (bn.enc .R w)] .agg (bn.enc .own w):=by
 have a:=iT w.Z h1;have b:=jL w.c6 h2;refine fO 10 [ςf] Tryz.func144 rfl ?_ (.inr (bn.enc_fr _))
 refine σP ?_
 rfl
def uI(o:bc)(a:dv):zzA 148 false [.val (some 4) (bc.enc .R o),.ptr (dv.enc .R a)] .one [B (dS a.N o)]:=by
 refine fO 9 [] Tryz.func148 rfl ?_
 refine σP ?_
 exact bY ((by unfold dS;rw[O9];simp))
def zJ(w:bn)(a:dv)(i m:Nat)(h:pe w m)(R:m<=900)(p:i<w.Z.K.length):zzB 49 false [.ptr (tq w),.val (some 5) (dv.enc .R a),.vI (i:Nat)] [.ptr (tq (m0 w a i).1),.val (some 5) (dv.enc .R a),.vI (i:Nat)] .one [I (m0 w a i).2]:=by
 have e:=h.inv;have b:=ar p;have H:=nD e (ax p);have J:=kq e (ax p) (k:=0);have K:1<=(nth w.Z.K i).k/\(nth w.Z.K i).k<=1000:=by
  rcases e.oow _ (ax p) with⟨s,M,S,T⟩|⟨l,E,d,c⟩
  ·have U:=aJ (e.L.sok s M)
   have:=mC (n:=(nth w.Z.K i).k) ω;omega
  have V:=cL (e.L.lok l E);omega
 have g:=nt w.Z.G (aX e.ker);rw[Mb e.ker]at g;unfold m0;refine fM 126 [(99,[2,0,0]),(101,[2,0,0]),(103,[2,0,0])] [ρ 6 7 29,(8,269,[40,41,42,43,44,45,46,47,39,48,49,50,51,0,1,2,3,4,5,6,7,8,9,10,11,12,13,1010]),ρ 13 10 62,(15,273,[76,77,78,79,80,81,82,83,84,85,86,87,75,88,89,90,91,0,1,2,3,4,5,6,7,8,9,10,11,12,13,14,15,16,17,1014]),ρ 17 15 93,(19,271,[112,113,114,115,116,117,118,119,120,121,111,122,123,124,125,0,1,2,3,4,5,6,7,8,9,10,11,12,13,14,15,1012])] [(0,0),(0,0),(0,0)] Tryz.func49 rfl (λu q=>?_);by_cases F:a.b5=2
 ·rw[CJ F]
  unfold uO;by_cases d:w.Z.G.b=100000
  ·rw[CJ d]
   rw[Z0 (Z7 d)]at g
   repeat'(first|refine gB ?_|refine CL (g) ⟨⟨rfl,CW _⟩,tV1⟩ ?_)
   exact kk
  rw[CI d];rw[O0 d]at g;have B:=(UN w.Z i a.a1 e p).frame (r:=a7.enc .R w.c6) ((di _).trans (di _).symm);by_cases c:0<=a.a1/\a.a1<=w.Z.Q.length - 1
  ·rw[CJ (show mE w.Z a from c)]
   rw[CJ c,CJ c]at B;have N:=FM w.c6 (nth w.Z.K i).Id m h.ref ω;generalize freeT w.Z a.a1.toNat i=f at B |-;by_cases o:f.2=0
   ·rw[CJ o]
    repeat'(first|refine gB ?_|refine gS (λj=>?_) (λj=>?_)|refine CL (g) ⟨⟨rfl,CW _⟩,tV1⟩ ?_|refine Cl.sh N rfl ?_)
    exact kk
   rw[CI o]
   repeat'(first|refine gB ?_|refine gS (λj=>?_) (λj=>?_)|refine CL (g) ⟨⟨rfl,CW _⟩,tV1⟩ ?_)
   exact kk
  rw[CI (show ¬mE w.Z a from c)];rw[CI c,CI c]at B
  repeat'(first|refine gB ?_|refine gS (λj=>?_) (λj=>?_)|refine CL (g) ⟨⟨rfl,CW _⟩,tV1⟩ ?_)
  exact kk
 rw[CI F];by_cases G:a.b5=3
 ·rw[CJ G]
  unfold ru;have C:=aK a.At 0 ((nth w.Z.K i).k - 1);by_cases d:0<=a.At/\a.At<=(nth w.Z.K i).k - 1;rotate_left
  ·rw[CJ d]
   rw[Z0 d]at C
   repeat'(first|refine gB ?_|refine gS (λj=>?_) (λj=>?_)|fail)
   exact kk
  rw[CI (Z7 d)];rw[O0 d]at C;have D:=(DN w.Z i a.At a.Value e p d).frame (r:=a7.enc .R w.c6) (by split<;>rfl);have O:=kq e (ax p) d;by_cases c:(au w.Z.G.F.O (((nth w.Z.K i).U+a.At) / 16)).y=1
  ·rw[CJ c]
   rw[CJ (.inl c),CJ c]at D
   repeat'(first|refine gB ?_|refine gS (λj=>?_) (λj=>?_)|fail)
   exact kk
  rw[CI c];by_cases o:0<=a.Value/\a.Value<=999;rotate_left
  ·rw[CJ o]
   rw[CJ (.inr o),CI c,CJ o]at D
   repeat'(first|refine gB ?_|refine gS (λj=>?_) (λj=>?_)|fail)
   exact kk
  rw[CI (Z7 o)];rw[CI (λx=>x.elim c λy=>y o),CI c,CI (Z7 o)]at D;obtain⟨W,P⟩:=Hi w.c6 (nth w.Z.K i).Id a.At a.Value m h.ref ω o
  repeat'(first|refine gB ?_|refine gS (λj=>?_) (λj=>?_)|fail)
  exact kk
 rw[CI G];unfold ve;by_cases d:w.Z.G.b=100000
 ·rw[CI (λx=>x.1 d)]
  rw[Z0 (Z7 d)]at g
  repeat'(first|refine gB ?_|refine CL (g) ⟨⟨rfl,CW _⟩,tV1⟩ ?_)
  exact kk
 rw[O0 d]at g;by_cases c:i6 w.Z i a.Value
 ·rw[CJ ⟨d,c⟩]
  have t:=(vp w.Z i a.Value e p c.1).frame (r:=a7.enc .R w.c6) (by split<;>rfl);rw[CJ c,O0 c]at t;obtain⟨X,Q⟩:=K9 w.c6 (nth w.Z.K i).Id a.Value m h.ref ω
  repeat'(first|refine gB ?_|refine CL (g) ⟨⟨rfl,CW _⟩,tV1⟩ ?_)
  exact kk
 rw[CI (λx=>c x.2)];by_cases o:r8 w.Z (nth w.Z.K i).U<0
 ·have t:=(Me w.Z (nth w.Z.K i).U a.Value (by have:=e.lens.larges;omega) e.L.lok o).frame (r:=a7.enc .R w.c6) ((di _).trans (di _).symm)
  repeat'(first|refine gB ?_|refine CL (g) ⟨⟨rfl,CW _⟩,tV1⟩ ?_)
  exact kk
 have t:=(vp w.Z i a.Value e p ω).frame (r:=a7.enc .R w.c6) (by split<;>rfl);rw[CI c,Z0 c]at t
 repeat'(first|refine gB ?_|refine CL (g) ⟨⟨rfl,CW _⟩,tV1⟩ ?_)
 exact kk
def pe.fit{w:bn}{m:Nat}(h:pe w m)(a:gp w.Z.G.d):ac.sml w.Z/\ac.wf w.Z:=
 ⟨(h.inv.fit a (jK.of h.inv.mail).sml).sml,h.inv.wf a⟩
def Ma(w:bn)(a:dv)(m:Nat)(h:pe w m)(G:m<=900)(H:gp w.Z.G.d):zzB 28 false [.ptr (tq w),.val (some 5) (dv.enc .R a)] [.ptr (tq (nu w a).1),.val (some 5) (dv.enc .R a)] .one [I (nu w a).2]:=by
 have i:=h.inv;have j:=i.nums;unfold ch at j;rw[C0]at j;unfold nu;refine fM 123 [(46,[2,0,0]),(48,[2,0]),(49,[2,0,0]),(50,[2,0]),(52,[2,0]),(53,[2]),(54,[2,0])] [(3,265,[13,14,15,16,17,18,19,21,22,0,1,2,3,4,5,6,7,8,9,10,11,1010,12]),(5,269,[26,27,28,29,30,31,32,33,25,34,35,36,37,0,1,2,3,4,5,6,7,8,9,10,11,12,13,1010]),ρ 19 21 62,ρ 21 5 86] [(0,0),(0,0)] Tryz.func28 rfl (λu q=>?_);by_cases C:a.b5=1
 ·rw[CJ C]
  have c:=(DP w.Z a.a1 a.N i).frame (r:=a7.enc .R w.c6) ((di _).trans (di _).symm);by_cases e:(eX w.Z a.a1 a.N).2.2=0
  ·rw[CJ e]
   have o:1<=a.N/\a.N<=1000:=by
    refine Classical.byContradiction λp=>?_
    unfold eX at e;rw[CJ p]at e;split at e
    ·exact absurd (show(5:Int)=0 from e) qs
    split at e
    ·exact absurd (show(1:Int)=0 from e) qs
    exact absurd (show(2:Int)=0 from e) qs
   have l:=D5 w.c6 a.N m h.ref ω o;generalize eX w.Z a.a1 a.N=f at c e |-
   repeat'(first|refine gB ?_|refine gS (λb=>?_) (λb=>?_)|fail)
   exact kk
  rw[CI e];generalize eX w.Z a.a1 a.N=f at c e |-
  repeat'(first|refine gB ?_|refine gS (λb=>?_) (λb=>?_)|fail)
  exact kk
 rw[CI C];by_cases D:a.b5=2\/a.b5=3\/a.b5=4
 ·rw[CJ D]
  have c:=Jp w a.N (by have:=i.lens.objs;omega);by_cases e:ml w.Z a.N<0
  ·rw[CJ e]
   repeat'(first|refine gB ?_|refine gS (λb=>?_) (λb=>?_)|fail)
   all_goals first|omega|skip
   all_goals
    exact kk
  rw[CI e];obtain⟨J,M,O⟩:=eL (NL a.N) w.Z.K (by unfold ml at e;omega);have l:=zJ w a (ml w.Z a.N).toNat m h G J;rw[show(((ml w.Z a.N).toNat:Nat):Int)=ml w.Z a.N by omega]at l
  repeat'(first|refine gB ?_|refine gS (λb=>?_) (λb=>?_)|fail)
  all_goals first|omega|skip
  all_goals
   exact kk
 rw[CI D];by_cases y:a.b5=5\/a.b5=6\/a.b5=7
 ·rw[CJ y]
  have c:=Dc w a m h y
  repeat'(first|refine gB ?_|refine gS (λb=>?_) (λb=>?_)|fail)
  all_goals first|omega|skip
  all_goals
   exact kk
 rw[CI y];by_cases E:a.b5=8
 ·rw[CJ E]
  unfold rN;have d:=nt w.Z.G (aX i.ker);rw[Mb i.ker]at d;have c:=aK a.N 0 1000;by_cases g:w.Z.G.b≠100000;rotate_left
  ·rw[CI (λx=>g x.1)]
   rw[Z0 g]at d
   repeat'(first|refine gB ?_|refine gS (λb=>?_) (λb=>?_)|refine CL (d) ⟨⟨rfl,CW _⟩,tV1⟩ ?_)
   exact kk
  rw[O0 g]at d;by_cases k:0<=a.N/\a.N<=1000;rotate_left
  ·rw[CI (λx=>k x.2.1)]
   rw[Z0 k]at c
   repeat'(first|refine gB ?_|refine gS (λb=>?_) (λb=>?_)|refine CL (d) ⟨⟨rfl,CW _⟩,tV1⟩ ?_)
   exact kk
  rw[O0 k]at c;by_cases B:w.Z.b2+a.N<=1000000
  ·rw[CJ ⟨g,k,B⟩]
   have l:=(FP w.Z a.N i k B).frame (r:=a7.enc .R w.c6) ((di _).trans (di _).symm)
   repeat'(first|refine gB ?_|refine gS (λb=>?_) (λb=>?_)|refine CL (d) ⟨⟨rfl,CW _⟩,tV1⟩ ?_)
   exact kk
  rw[CI (λx=>B x.2.2)]
  repeat'(first|refine gB ?_|refine gS (λb=>?_) (λb=>?_)|refine CL (d) ⟨⟨rfl,CW _⟩,tV1⟩ ?_)
  exact kk
 rw[CI E];by_cases F:a.b5=9
 ·rw[CJ F]
  unfold rL;obtain⟨K,L⟩:=h.fit H;have d:=ya w.Z K L;rw[show cz w.Z=true from i.to]at d;cases g:w.Z.a3 with
  | true=>
   rw[CJ rfl]
   repeat'(first|refine gB ?_|refine gS (λb=>?_) (λb=>?_)|refine Bf.t g ?_)
   exact kk
  | false=>
   rw[CI ϕ];have c:=(Ej w.Z i).frame (r:=a7.enc .R w.c6) ((di _).trans (di _).symm);cases k:(started w.Z).2<;>rw[k]at c
   ·rw[CI ϕ]
    repeat'(first|refine gB ?_|refine gS (λb=>?_) (λb=>?_)|refine Bf.f g ?_|refine CL (d) ⟨⟨rfl,bS w.Z⟩,tV1⟩ ?_)
    exact kk
   rw[CJ rfl]
   repeat'(first|refine gB ?_|refine gS (λb=>?_) (λb=>?_)|refine Bf.f g ?_|refine CL (d) ⟨⟨rfl,bS w.Z⟩,tV1⟩ ?_)
   exact kk
 rw[CI F];by_cases k10:a.b5=10;rotate_left
 ·rw[CI (λx=>k10 x.1)]
  repeat'(first|refine gB ?_|refine gS (λb=>?_) (λb=>?_)|fail)
  exact kk
 have d:=aK a.N 0 50;by_cases g:0<=a.N/\a.N<=50
 ·rw[CJ ⟨k10,g⟩]
  rw[O0 g]at d;obtain⟨n,p⟩:=C5 g.1;have c:=Du w m n h ω;rw[show a.N.toNat=n by omega];rw[<-p]at c
  repeat'(first|refine gB ?_|refine gS (λb=>?_) (λb=>?_)|fail)
  exact kk
 rw[CI (λx=>g x.2)];rw[Z0 g]at d
 repeat'(first|refine gB ?_|refine gS (λb=>?_) (λb=>?_)|fail)
 exact kk
def FV(w:bn)(h1:ac.sml w.Z)(h2:a7.sml w.c6):zzA 29 false [.val (some 26) (bn.enc .R w)] .agg (bn.enc .own w):=by
 have a:=HC w.Z h1;have b:=fm w.c6 h2;refine fO 10 [ςf] Tryz.func29 rfl ?_ (.inr (bn.enc_fr _))
 refine σP ?_
 rfl
def Hm(c:eH)(acts:List dv)(h:KX c)(b:gp c.d)(u:acts.length<=80):zzA 16 false [.val (some 5) (eH.enc .R c),.val none (kj .R acts)] (.tup [some 26,none]) (bn.enc .own (yE c acts acts.length).1++aE .own (yE c acts acts.length).2):=by
 have j:=td c h;refine fP 42 [(28,[2,0]),(2000005,[6,21,25])] [] Tryz.func16 rfl ?_ (.inr (ay (bn.enc_fr _) (bH _)))
 repeat'(first|refine gE ?_|refine L8.mk rfl rfl rfl ?_)
 refine Lp.mk (ι:=Nat) (λi=>[(1,bK (kj .R acts)),(4,bF [.z,.z,.z,I 0,.z,.z,.z,.z,.z,.z,.z,.z,I 0,.z,I 0,I 0,I 0,I 0,B false,I 0,I 0,.z,I 0,I 0,I 0,.z]),(6,bF (tq (yE c acts i).1)),(8,bK (aE .own (yE c acts i).2)),(9,fN i)]) (λi=>i<=acts.length) (λi=>acts.length - i) (0) ?_ (C1 _) λi l=>?_
 ·exact wE
 have d:=Bx h acts i;have a:=G4 h acts i;have e:(yE c acts i).2.length=i:=by
  clear d a l
  induction i with
  | zero=>rfl
  | succ k n=>show((yE c acts k).2++[_]).length=_;rw[C6,n];rfl
 by_cases o:i<acts.length
 ·have g:=ar o
  have p:=Ma (yE c acts i).1 (nth acts i) i d ω (by unfold rfs at a;rw[a];exact b)
  repeat'(first|refine gE ?_|refine Cb cx (λr b=>by rw[I2.1 b];rfl) ζ kd χ rfl ?_)
  (refine CP (i+1) ω ω ?_)
  repeat'(first|exact tV1|rfl| exact qH _ |exact CQ rfl (CQ (I1 (C.s ek.own) (by simp[yE,rI])) tV1)|refine CQ ?_ ?_|(exact UA ξ))
 obtain rfl:i=acts.length:=ω
 have q:=d.fit (by unfold rfs at a;rw[a];exact b);have t:=FV (yE c acts acts.length).1 q.1 (d.ref.sml ω)
 repeat'(first|refine gE ?_|refine CL (t) ⟨⟨rfl,UH _⟩,tV1⟩ ?_)
 rfl
set_option maxHeartbeats 2000000
def Lh(x:List Int)(k:Int)(g:kK x)(l:0<=k)(h1:k+(pi x:Nat)<=1099511627776):zzB 23 false [.mut none (aE .own x),.vI k] [.mut none (aE .own (markIntS x k)),.val none []] .one [I (k+(pi x:Nat))]:=by
 have n:x.length<=1048576:=g;unfold pi at h1;have a:((markIntS x k).map (rI .own)).length=(x.map (rI .own)).length:=by simp[wi]
 refine fM 19 [] [] [(0,0),(0,0)] Tryz.func23 rfl (λu p=>?_)
 refine σP ?_
 refine Lp.mk (ι:=Nat) (λi=>[(0,bK [.s (.tag (u 0 0)) (uD ((markIntS x k).map (rI .own)) (x.map (rI .own)) i)]),(1,fI (k+(we x i:Nat))),(5,fN i)]) (λi=>i<=x.length) (λi=>x.length - i) 0 ?_ (C1 _) λi o=>?_
 ·rw[Br]
  repeat'(first|exact tV1|rfl|exact CQ rfl (CQ (I1 I (by unfold we;omega)) tV1)|refine CQ ?_ ?_)
 have b:=(Pi a i).trans (show(x.map (rI .own)).length=x.length by simp);by_cases c:i<x.length
 ·obtain⟨y,h⟩ : ∃y,x[i]? = some y:=⟨_,Z3 c⟩
  have d:=H3 a i kd;rw[aa h]at d;have e:=uU x k i c;unfold we
  repeat'(first|refine gE ?_|with_reducible (first|refine CV b ?_|refine CH d ?_)|refine CS rfl rfl d rfl (O5 _) rfl ?_|apply CT qs|apply CY rfl|refine CH (oR d) ?_|refine CP (i+1) ω ω ?_)
  repeat'(first|exact tV1|rfl|exact CQ rfl (CQ (I1 (C.s _) (by first|exact uL a (aa e)|(simp only[List.set_set];exact uL a (aa e)))) tV1)|exact CQ rfl (CQ (I1 I (by first|omega|(unfold we;omega))) tV1)|refine CQ ?_ ?_)
 repeat'(first|refine gE ?_|with_reducible refine CV b ?_|refine CM rfl ?_ ?_)
 ·have j:i=x.length:=ω
  subst j;exact nr (by unfold we pi;rfl)
 rw[FY _ a kd]
 repeat'(first|exact tV1|exact rfl|refine CQ ?_ ?_)
set_option maxHeartbeats 2000000
set_option maxHeartbeats 2000000
def kc(sp:List a8)(ps:List Int)(b:Int):Nat->Int
 | 0=>b
 | j+1=>if(nth sp j).S∈ps then bor (kc sp ps b j) (nth sp j).b0 else kc sp ps b j
def AC{sp:List a8}(h:∀s∈sp,bh s=true){ps:List Int}{b:Int}(a:0<=b/\b<=65535):∀j,j<=sp.length->0<=kc sp ps b j/\kc sp ps b j<=65535
 | 0,_=>a
 | j+1,d=>by
  have c:=AC h (ps:=ps) a j ω;simp only[kc];split
  ·exact Mz c (nw h ω)
  exact c
def ta(h:ac)(i:Nat)(n:ee h.H)(c:y2 h)(a:∀s∈h.H,bh s=true)(t:i<h.H.length):zzA 368 false [ν h,.vI (i:Nat)] .one [I (kc h.H (aS h (nth h.H i).S) (nth h.H i).b0 h.H.length)]:=by
 have C:=n.1;have u:=ar t;have d:=nw a t;have w:=aH ((i:Nat):Int) 0 ((h.H.length:Int) - 1);rw[O0 (show(0:Int)<=(i:Nat)/\((i:Nat):Int)<=(h.H.length:Int) - 1 by omega)]at w;have y:=l7 h (nth h.H i).S c;have o:=gf h (nth h.H i).S;have D:fk h<=1048576:=c.1;obtain⟨ps,p⟩ : ∃ps,aS h (nth h.H i).S=ps:=⟨_,rfl⟩
 obtain⟨b,q⟩ : ∃b,(nth h.H i).b0=b:=⟨_,rfl⟩
 rw[p]at y o |-;rw[q]at d |-;have E:kc h.H ps b 0=b:=rfl;refine fO 47 [ρ 4 7 22] Tryz.func368 rfl ?_
 refine σP ?_
 refine lp0 h.H.length (λj=>[(5,fI (kc h.H ps b j)),(6,bK (aE .own ps)),(31,bK (cf .R h.H)),(32,fI (h.H.length:Nat)),(33,fN j)]) λj F=>?_
 by_cases B:j<h.H.length
 ·have k:=ar B
  have r:=AC a (ps:=ps) d j F;have l:=te ps (nth h.H j).S ω;by_cases e:(nth h.H j).S∈ps
  ·have g:kc h.H ps b (j+1)=bor (kc h.H ps b j) (nth h.H j).b0:=CJ e
   rw[O0 e]at l
   repeat'(first|refine gE ?_|apply CR (or64 r (nw a B))|refine CL (l) ⟨⟨rfl,dX _⟩,π⟩ ?_)
   (exact cV (j+1) ω)
  have g:kc h.H ps b (j+1)=kc h.H ps b j:=CI e;rw[Z0 e]at l
  repeat'(first|refine gE ?_|refine CL (l) ⟨⟨rfl,dX _⟩,π⟩ ?_)
  (exact cV (j+1) ω)
 obtain rfl:j=h.H.length:=ω
 refine σE ?_
 rfl
def Tv(a b:Int)(k:Nat):(bor a b).toNat.testBit k=true↔a.toNat.testBit k=true\/b.toNat.testBit k=true:=by
 unfold bor;rw[Z4,Nat.testBit_or,IC]
def Pj(sp:List a8)(p b:Int)(k:Nat):∀j,(r6 sp p b j).toNat.testBit k=true↔b.toNat.testBit k=true\/∃i,i<j/\(nth sp i).S=p/\(nth sp i).b0.toNat.testBit k=true
 | 0=>by simp[r6]
 | j+1=>by
  have g:=Pj sp p b k j;simp only[r6];split
  ·rename_i e
   rw[Tv,g];constructor
   ·rintro((h|⟨i,d,a,c⟩)|h)
    ·exact .inl h
    ·exact .inr ⟨i,ω,a,c⟩
    exact .inr ⟨j,ω,e,h⟩
   rintro(h|⟨i,d,a,c⟩)
   ·exact .inl (.inl h)
   by_cases f:i=j
   ·subst f;exact .inr c
   exact .inl (.inr ⟨i,ω,a,c⟩)
  rename_i e;rw[g];constructor
  ·rintro(h|⟨i,d,a,c⟩)
   ·exact .inl h
   exact .inr ⟨i,ω,a,c⟩
  rintro(h|⟨i,d,a,c⟩)
  ·exact .inl h
  by_cases f:i=j
  ·subst f;exact absurd a e
  exact .inr ⟨i,ω,a,c⟩
def Ki(sp:List a8)(ps:List Int)(b:Int)(k:Nat):∀m,(iP sp ps b m).toNat.testBit k=true↔b.toNat.testBit k=true\/∃u,u<m/\∃i,i<sp.length/\(nth sp i).S=nth ps u/\(nth sp i).b0.toNat.testBit k=true
 | 0=>by simp[iP]
 | m+1=>by
  have c:=Ki sp ps b k m;simp only[iP];rw[Pj,c];constructor
  ·rintro((h|⟨u,d,a⟩)|h)
   ·exact .inl h
   ·exact .inr ⟨u,ω,a⟩
   exact .inr ⟨m,ω,h⟩
  rintro(h|⟨u,d,a⟩)
  ·exact .inl (.inl h)
  by_cases e:u=m
  ·subst e;exact .inr a
  exact .inl (.inr ⟨u,ω,a⟩)
def Le(sp:List a8)(ps:List Int)(b:Int)(k:Nat):∀j,(kc sp ps b j).toNat.testBit k=true↔b.toNat.testBit k=true\/∃i,i<j/\(nth sp i).S∈ps/\(nth sp i).b0.toNat.testBit k=true
 | 0=>by simp[kc]
 | j+1=>by
  have g:=Le sp ps b k j;simp only[kc];split
  ·rename_i e
   rw[Tv,g];constructor
   ·rintro((h|⟨i,d,a,c⟩)|h)
    ·exact .inl h
    ·exact .inr ⟨i,ω,a,c⟩
    exact .inr ⟨j,ω,e,h⟩
   rintro(h|⟨i,d,a,c⟩)
   ·exact .inl (.inl h)
   by_cases f:i=j
   ·subst f;exact .inr c
   exact .inl (.inr ⟨i,ω,a,c⟩)
  rename_i e;rw[g];constructor
  ·rintro(h|⟨i,d,a,c⟩)
   ·exact .inl h
   exact .inr ⟨i,ω,a,c⟩
  rintro(h|⟨i,d,a,c⟩)
  ·exact .inl h
  by_cases f:i=j
  ·subst f;exact absurd a e
  exact .inr ⟨i,ω,a,c⟩
def R2{sp:List a8}(h:∀s∈sp,bh s=true){ps:List Int}{b:Int}(f:0<=b/\b<=65535):kc sp ps b sp.length=iP sp ps b ps.length:=by
 have a:=AC h (ps:=ps) f sp.length (O5 _);have c:=mJ h (ps:=ps) f ps.length;have e:(kc sp ps b sp.length).toNat=(iP sp ps b ps.length).toNat:=by
  apply Nat.eq_of_testBit_eq;intro k;rw[O9,Le,Ki];constructor
  ·rintro(h|⟨i,a,c,d⟩)
   ·exact .inl h
   obtain⟨u,g⟩:=List.getElem?_of_mem c;exact .inr ⟨u,(C4.1 g).1,i,a,(bk g).symm,d⟩
  rintro(h|⟨u,a,i,c,d,j⟩)
  ·exact .inl h
  exact .inr ⟨i,c,by rw[d];exact ax a,j⟩
 omega
def ye(a:∀s∈h.H,bh s=true)(b:i<h.H.length):kc h.H (aS h (nth h.H i).S) (nth h.H i).b0 h.H.length=ep h i:=R2 a (nw a b)
def zm(h:ac)(a:∀o∈h.K,0<=o.k/\o.k<=1000)(e:h.K.length<=1048576):zzA 241 false [ν h] .one [I (pD h)]:=by
 refine fO 19 [] Tryz.func241 rfl ?_
 refine σP ?_
 refine lp0 h.K.length (λk=>[(3,fI (tQ h.K k)),(7,bK (m6 .R h.K)),(8,fI h.K.length),(9,fN k)]) λk d=>?_
 have g:=og a k d;by_cases b:k<h.K.length
 ·have c:=ar b
  have i:=a _ (ax b)
  refine σE ?_
  (exact cV (k+1) ω)
 obtain rfl:k=h.K.length:=ω
 refine σE ?_
 rfl
def q7(k b:Int)(e:b<=9223372036854775807):zzA 367 false [.vI (slots k),.vI b] .one (aE .own (oV k b)):=by
 have c:=sS k b;have n:0<=slots k/\slots k<=16:=by unfold slots;repeat' split<;>omega
 unfold oV;cases g:PR k b<;>rw[g]at c
 ·rw[CI ϕ]
  refine fO 26 [] Tryz.func367 rfl ?_ (.inr (bH _))
  repeat'(first|refine σQ ?_|refine CF (c) ?_)
  all_goals exact⟨rfl,tV1⟩
 rw[CJ rfl];refine fO 26 [] Tryz.func367 rfl ?_ (.inr (bH _))
 refine σP ?_
 refine lp0 ((slots k).toNat) (λj=>[(0,fI (slots k)),(1,fI b),(5,bK (aE .own (mL b j))),(6,fN j)]) λj o=>?_
 have h:=ss b j;by_cases p:j<(slots k).toNat
 ·have d:=iB b (j:Nat) e
  have a:mL b (j+1)=if bg b (j:Nat)=true then mL b j else mL b j++[((j:Nat):Int)]:=rfl
  cases i:bg b (j:Nat)<;>rw[i]at d a
  ·rw[CI ϕ]at a
   repeat'(first|refine gE ?_|refine Cb cx (λr l=>by rw[I2.1 l];rfl) ζ kd χ rfl ?_)
   (refine CP (j+1) ω ω ?_)
   rw[a]
   repeat'(first|exact tV1|rfl| exact qH _ |exact CQ rfl (CQ (I1 (C.s ek.own) (by simp[rI])) tV1)|refine CQ ?_ ?_|(exact UA ξ))
  rw[CJ rfl]at a
  refine σE ?_
  (refine CP (j+1) ω ω ?_)
  rw[a];exact wC
 obtain rfl:j=(slots k).toNat:=ω
 refine σE ?_
 rfl
def D9(b i:Int)(d:0<=b/\b<=65535)(a:0<=i/\i<=15):zzA 370 false [.vI b,.vI i] .one [I (io b i)]:=by
 have c:=rJ b i;rw[O0 ω]at c;have e:=(or64 (z1:=b) (z2:=2 ^ i.toNat) d (by have:=shl64 a;omega)).trans (E5 b i);refine fO 14 [] Tryz.func370 rfl ?_
 repeat'(first|refine gP ?_|refine CT ω ?_|apply CR (shl64 a).1|apply CR e)
 rfl
def Fw(f:aW)(i:Nat):aW.enc .own ⟨f.V,f.a5.set i true⟩ = [.s .own (f.V.map (aE .own)),.s .own ((f.a5.map (rB .own)).set i (rB .own true))]:=by
 simp[aW.enc,CC]
def yh(f:aW):aW × Int × Bool:=
 if cu (λu=>!u) f.a5<0 then(f,-1,false) else(⟨f.V,f.a5.set (cu (λu=>!u) f.a5).toNat true⟩,cu (λu=>!u) f.a5,true)
def zh(f:aW)(l:dI f=true)(b:aW.sml f):zzA 414 false [.val (some 2) (aW.enc .R f)] (.tup [some 2,none,none]) (aW.enc .own (yh f).1++[I (yh f).2.1,B (yh f).2.2]):=by
 have n:=ql f b;have h:=sV f b;rw[l]at h;have p:f.a5.length<=1048576:=b.2;refine fO 30 [] Tryz.func414 rfl ?_ (.inr (ay (aW.enc_fr _) ⟨tV1,tV1,tV1⟩))
 refine σP ?_
 refine gl f.a5.length (λi=>[(2,bF [.z,.z]),(5,bF (aW.enc .own f)),(13,bK (AK .R f.a5)),(14,fI f.a5.length),(15,fN i)]) (λi=>∀(j:Nat)(z:Bool),j<i->f.a5[j]? = some z->(!z)=false) (λj z q=>ω) λi k=>?_
 obtain⟨k,c⟩:=k;by_cases o:i<f.a5.length
 ·have a:=ar o
  cases e:nth f.a5 i<;>rw[e]at a
  ·have d:cu (λu=>!u) f.a5=(i:Nat):=dJ a rfl c
   have g:yh f=((⟨f.V,f.a5.set i true⟩ : aW),((i:Nat):Int),true):=by unfold yh;rw[d,CI ω];rfl
   rw[g];simp only;rw[Fw]
   repeat'(first|refine gE ?_|refine CS rfl rfl (aa a) rfl δ rfl ?_)
   rfl
  refine σE ?_
  (exact cV (i+1) ⟨ω,fh a rfl c⟩)
 have d:cu (λu=>!u) f.a5 = -1:=f8 ω c;have g:yh f=(f,-1,false):=by unfold yh;rw[d];rfl
 rw[g]
 refine σE ?_
 rfl
variable{rows:List (List C)}
def cU.fzAt{w:World}{S F:af}{o:ek}{v:Value}(h:cU w S F (.s o rows) v)(X:o=.own)(E:rows[k]? = some r) :
  ∃V:af,(∀b q,V b q->F b q)/\cU w (λb q=>S b q\/V b q) (λb q=>F b q/\¬V b q) (.s o (rows.set k (dw r))) v:=by
 cases h with
 | nil=>simp at E
 | R=>cases X
 | suf _ _ g off K n G _ u f A=>subst X;exact A.elim
 | own _ _ g K n G _ u f A Q O H J Y hu P Z hc=>
  have B:k<n:=by have:=(C4.1 E).1;omega
  have hq:∀j,j<K->(k*K+j) / K=k:=λj a=>by
   rw[Nat.mul_comm,Nat.mul_add_div ω,Nat.div_eq_of_lt a,Nat.add_zero]
  refine⟨λb q=>∃j,j<K/\f (k*K+j) b q,λb q ⟨j,a,l⟩=>(P _ (cJ B a) b q l).1,?_⟩;refine .own _ o g K n G _ u (λq=>if q / K=k then NO else f q) A (by simpa using Q) (λr' R=>?_) H J (λq d=>⟨⟨(Y q d).1,λ⟨j,a,l⟩=>(P _ (cJ B a) _ _ l).2 ⟨rfl,d⟩⟩,(Y q d).2⟩) hu (λq d b y l=>?_) (λq T h1 h2 h3 b y L M=>?_) (λi j r' c N a=>?_)
  ·rcases SC R with h|rfl
   ·exact O _ h
   rw[bU,Z1];exact O _ (I3 E)
  ·replace l:(if q / K=k then NO else f q) b y:=l
   split at l
   ·exact l.elim
   rename_i D;refine⟨⟨(P q d b y l).1,λ⟨j,a,U⟩=>Z q (k*K+j) d (cJ B a) (λe=>D (by rw[e];exact hq j a)) b y l U⟩,(P q d b y l).2⟩
  ·replace L:(if q / K=k then NO else f q) b y:=L
   replace M:(if T / K=k then NO else f T) b y:=M;split at L
   ·exact L.elim
   split at M
   ·exact M.elim
   exact Z q T h1 h2 h3 b y L M
  by_cases e:i=k
  ·subst e
   have W:(rows.set i (dw r))[i]? = some (dw r):=by
    rw[Z6 ω]
   rw[W]at N;obtain rfl:=Option.some.inj N;rw[bU,Z5]at a;cases p:r[j]? with
   | none=>rw[p]at a;cases a
   | some c'=>
    rw[p]at a;simp only[IA,O1]at a;subst a;have t:=(nG Q O E p).2;show cU w _ (if(i*K+j) / K=i then NO else f (i*K+j)) _ _;rw[CJ (hq j t)];exact(hc i j r c' E p).freeze.mono (λb o h=>h.elim .inl λh=>.inr ⟨j,t,h⟩) (λ_ _ h=>h)
  rw[List.getElem?_set_ne ω]at N;have t:=(nG Q O N a).2;have D:¬(i*K+j) / K=k:=by
   rw[Nat.mul_comm,Nat.mul_add_div ω,Nat.div_eq_of_lt t,Nat.add_zero];exact e
  show cU w _ (if(i*K+j) / K=k then NO else f (i*K+j)) _ _;rw[CI D];exact(hc i j r' c N a).mono (λ_ _ h=>.inl h) (λ_ _ h=>h)
def cw.fzAt{w:World}{S F:af}{cs:List C}{u:Nat->Value}(h:cw w S F cs u){off:Nat}{o:ek}(B:cs[off]? = some (.s o rows))(G:o=.own)(H:rows[k]? = some r) :
  ∃V:af,(∀b q,V b q->F b q)/\cw w (λb q=>S b q\/V b q) (λb q=>F b q/\¬V b q) (cs.set off (.s o (rows.set k (dw r)))) u:=by
 obtain⟨f,D,y,t⟩:=h;have i:=(C4.1 B).1;obtain⟨V,E,J⟩:=(D off _ B).fzAt G H;refine⟨V,λb q A=>y off i b q (E b q A),λj=>if j=off then(λb q=>f off b q/\¬V b q) else f j,λj c g=>?_,λj g b q d=>?_,λj p g l n b q d a=>?_⟩
 ·by_cases e:j=off
  ·subst e
   rw[Z6 i]at g;obtain rfl:=Option.some.inj g;simpa using J
  rw[List.getElem?_set_ne ω]at g;show cU w _ (if j=off then _ else f j) _ _;rw[CI e];exact(D j c g).mono (λ_ _ h=>.inl h) (λ_ _ h=>h)
 ·rw[O2]at g
  replace d:(if j=off then(λb q=>f off b q/\¬V b q) else f j) b q:=d;split at d
  ·exact⟨y off i b q d.1,d.2⟩
  rename_i e;exact⟨y j g b q d,λA=>t j off g i e b q d (E b q A)⟩
 rw[O2]at g l;replace d:(if j=off then(λb q=>f off b q/\¬V b q) else f j) b q:=d;replace a:(if p=off then(λb q=>f off b q/\¬V b q) else f p) b q:=a;split at d
 ·rename_i e
  rw[CI ω]at a;exact t j p g l n b q (e ▸ d.1) a
 split at a
 ·rename_i e
  exact t j p g l n b q d (e ▸ a.1)
 exact t j p g l n b q d a
def am.fzAt{P:Program}{sh:Bool}{A:List RA}{k:Kd}{rcs:List C}(h:am P f sh A k rcs){off:Nat}{o:ek}(g:rcs[off]? = some (.s o rows))(i:o=.own){j:Nat}(l:rows[j]? = some r) :
  am P f sh A k (rcs.set off (.s o (rows.set j (dw r)))):=by
 obtain⟨n,p⟩:=h;refine⟨n,λw S t u y=>(p w S t u y).mono λe w1 B=>?_⟩;obtain⟨v,D,E,X,S1,d,F,G,H,J⟩:=B;obtain⟨V,K,L⟩:=J.fzAt g i l;refine⟨v,D,E,_,_,λb q c=>d b q c.1,λb q c=>?_,λb q c a=>?_,by rw[O2];exact H,L⟩
 ·rcases c with c|c
  ·exact F b q c
  exact .inr (d b q (K b q c))
 rcases a with a|a
 ·exact G b q c.1 a
 exact c.2 a
set_option maxRecDepth 100000
def Kq:∀w,(zeroValue 158).run Tryz.prog w=.ok (.agg #[.int .i64 0,.slice none 0 0]) w:=λ_=>by kernel_rfl
theorem Dv:xx Tryz.prog 336 2:=by
 refine⟨⟨_,Tryz.func336,by kernel_rfl,by kernel_rfl⟩,λw g n c i news p r l y B b=>?_⟩;obtain⟨A,U,a⟩:=uC l r p y;have a:Hid (∀t u,news[t]? = some u->w.drew.cell? (A.add t)=some u):=a;have R:Hid (news.length=(n - (i+1))*2):=l;have V:Hid (∀u∈news,u.oneCell'=true):=B;have W:Hid (∀t,t<news.length->(w.drew.cell? ⟨g,0+i*2+t,none⟩).isSome=true/\w.drew.frozen? ⟨g,0+i*2+t,none⟩ = false):=λt ht=>by
  rw[OD];exact b (i*2+t) ω
 obtain⟨o,d⟩ : ∃o,o=w.drew.setCells g (0+i*2) news:=⟨_,rfl⟩
 have X:∀q,q<n*2->(o.cell? ⟨g,q,none⟩).isSome=true/\o.frozen? ⟨g,q,none⟩ = false:=λq S=>by
  have C:∀j,j<news.length->∃z,cel w.drew g (0+i*2+j)=some z:=λj Y=>by
   have:=(b (0+i*2+j) ω).1;exact Option.isSome_iff_exists.1 this
  refine⟨?_,by rw[d];exact(I1 Prod.fst (bW g _ news w.drew g q)).trans (b q S).2⟩;rw[d];by_cases h:0+i*2<=q/\q<0+i*2+news.length
  ·have:=bx C (Z3 (show q - (0+i*2)<news.length by omega))
   grind
  show(cel _ g q).isSome=true;rw[bi (λx=>h x.2)];exact(b q S).1
 obtain⟨K,D,E,F⟩:=vf (P:=Tryz.prog) o 67 158 2 (.agg #[.int .i64 0,.slice none 0 0]) Tryz.underlying67 Kq rfl (by intro v T;simp[Value.cells]at T;rcases T with rfl|rfl<;>rfl) g ((i+(n - (i+1)))*2) (n - (i+(n - (i+1)))) ω qs ψ ψ;have G:Hid (K.length=(n - (i+(n - (i+1))))*2):=D;have H:Hid (∀v∈K,v.oneCell'=true):=E;have Z:Hid (o=w.drew.setCells g (0+i*2) news):=d;have hic:i<=c:=ω
 have L:i+1<=c:=ω
 have M:¬i=i+1:=ω
 have N:i+1<=n:=p;have k:n - 1=i+(n - (i+1)):=ω
 clear d X b y B l D E;rw[k];generalize Y:i+1=j at U a R F G L M N k |-;obtain⟨J,O,Q⟩ : ∃J,Tryz.prog.info? 158=some J/\J.size=2:=by
  have h:=(qd 158 _ rfl).1;cases e : Tryz.prog.info? 158 with
  | none=>grind
  | some x=>rw[e]at h;simp only[IA,O1,Prod.mk.injEq]at h;exact⟨x,rfl,h.2.1⟩
 have mixed : Tryz.prog.follows .mixedOrders=true:=by kernel_rfl
 go_enter Tryz.func336,Tryz.ntmps336
 go_wp2_with fail
 go_region_law_o (refine step_append_room rfl (.tmp 22) (.tmp 25) 67 rfl 158 J 2 Tryz.underlying67 O Q g 0 i c (by simp[Act.eval,Act.put]) A (n - j) (c - j) news (by simp[Act.eval,Act.put]) R.out a.out V.out ω W.out ?_;rw[<-Z.out])
 go_wp2
 go_ret
 refine⟨rfl,K,by grind[Go.RowKit.Hid.out],H.out,?_⟩
 grind[Go.RowKit.Hid.out]
theorem DR(xs:List aQ)(i:Nat)(a:i<xs.length):zzB 336 false [.mut none [.s .own (xs.map (aQ.enc .own))],.vI (i:Nat),.vI ((i+1:Nat):Int)] [.mut none [.x],.vI (i:Nat),.vI ((i+1:Nat):Int)] .one [oE ((dele xs i).map (aQ.enc .own))]:=by
 have h:=zB Dv (rows:=xs.map (aQ.enc .own)) (i:=i) ψ (aI λ_=>rfl) (aZ _ _ λx _=>aQ.enc_fr x)
 grind[C8,I8,dele]
theorem xi(xs:List aQ)(pr:aQ->Bool)(g:xs.length<=9223372036854775807):zzA 382 false [.val none ([.s .R (xs.map (aQ.enc .R))]),.fn (mS Tryz.prog (qj (some 2) (aQ.enc .R) pr xs))] .one [I (cu pr xs)]:=by
 refine fO 19 [] Tryz.func382 rfl ?_
 refine σP ?_
 refine gl xs.length (λi=>[(0,bK ([.s .R (xs.map (aQ.enc .R))])),(1,.fv (mS Tryz.prog (qj (some 2) (aQ.enc .R) pr xs))),(7,fI xs.length),(8,fN i)]) (λi=>∀(j:Nat)(z:aQ),j<i->xs[j]? = some z->pr z=false) ψ λi b=>?_
 obtain⟨b,d⟩:=b;by_cases a:i<xs.length
 ·obtain⟨y,c⟩ : ∃y,xs[i]? = some y:=⟨_,Z3 a⟩
  repeat'(first|refine gE ?_|refine Fv.mk (k:=.one) (rcs:=[B (pr y)]) ⟨y,I3 c,rfl,rfl,rfl⟩ ?_|refine Bf.P (λe=>?_) (λe=>?_))
  ·grind[dJ]
  (conv=>whnf)
  exact cV (i+1) ψ
 refine σE ?_
 exact nr (f8 ω d).symm
theorem xI(o:aQ)(id:Int):zzA 383 false [.val (some 2) (aQ.enc .R o),.ptr [I id]] .one [B (ib id o)]:=by
 refine fO 8 [] Tryz.func383 rfl ?_
 refine σP ?_
 grind[ib]
def nU(r:a7)(id:Int)(b:r.K.length<=1048576):zzA 335 false [.val (some 2) (a7.enc .R r),.vI id] .one [I (mT r id)]:=by
 refine fO 9 [] Tryz.func335 rfl ?_
 repeat'(first|refine gP ?_|refine Cq.mk (qj (some 2) (aQ.enc .R) (ib id) r.K) (xI default id).has (λL k rcs a=>?_) ?_|refine CF (xi r.K (ib id) ω) ?_)
 ·obtain⟨y,-,rfl,rfl,rfl⟩:=a
  exact xI y id
 rfl
def Lt:zzA 75 false [] .agg (a7.enc .own ⟨1,[]⟩):=by
 refine fO 2 [] Tryz.func75 rfl ?_ (.inr (a7.enc_fr _))
 repeat'(first|refine σQ ?_|refine CG ?_)
 exact⟨rfl,rfl,tV1⟩
theorem UX(l:List aQ):(l.map (aQ.enc .own)).map (·.map fz)=l.map (aQ.enc .R):=by grind[List.map_congr_left,bU,aQ.enc_fz]
def Dp(r:a7)(n:Int)(m:Nat)(a:qu r m)(g:m<=1000)(b:1<=n/\n<=1000):zzA 146 true [.val (some 2) (a7.enc .R r),.vI n] (.tup [some 2,none]) (a7.enc .R (iW r n)++[I r.o]):=by
 have h:=a.sml g;have c:=a.len;have i:=a.nx;have j:=jL r h;have d:=aH n 1 1000;rw[O0 b]at d;have key:zzA 146 true [.val (some 2) (a7.enc .R r),.vI n] (.tup [some 2,none]) (a7.enc .own (iW r n)++[I r.o]):=by
  unfold iW;rw[CJ b];have k:a7.enc .own {r with o:=r.o+1,K:=r.K++[⟨r.o,List.replicate n.toNat 0⟩]} = [I (r.o+1),.s .own (r.K.map (aQ.enc .own)++[[I r.o,.s .own (List.replicate n.toNat [I 0])]])]:=by
   simp[a7.enc,aQ.enc,rI]
  rw[k];refine fO 30 [ς1e,ς1f] Tryz.func146 rfl ?_ (.inl rfl)
  repeat'(first|refine gP ?_|refine Mk.mk n.toNat ω ω ω (yt ω qs) rfl ?_|refine Cc (aI λ_=>rfl) rfl kd qs rfl ?_)
  rfl
 have e:=key.fzR;rw[bT,Cm]at e;exact e
theorem WW(l:List aQ):fz (oE (l.map (aQ.enc .own)))=.s .R (l.map (aQ.enc .R)):=by grind[Lg,Pe]
theorem Gd(r:a7)(id:Int)(m:Nat)(d:qu r m)(o:m<=1000):zzA 246 true [.val (some 2) (a7.enc .R r),.vI id] (.tup [some 2,none]) (a7.enc .R (jI r id)++[B (!decide (mT r id<0))]):=by
 have g:=d.sml o;have h:=d.len;have i:=jL r g;have b:=nU r id g.1;by_cases e:mT r id<0
 ·have key:zzA 246 true [.val (some 2) (a7.enc .R r),.vI id] (.tup [some 2,none]) (a7.enc .own r++[B false]):=by
   refine fP 24 [(336,[1,0,0])] [] Tryz.func246 rfl ?_ (.inl rfl)
   refine σE ?_
   rfl
  have a:=key.fzR;rw[bT,Cm]at a;unfold jI;rw[CJ e,O0 e];exact a
 obtain⟨p,q,t⟩:=eL (ib id) r.K (by grind[mT]);obtain⟨j,k⟩:=C5 (show 0<=mT r id by omega);have c:j<r.K.length:=by grind[mT]
 have l:=DR r.K j c;have key:zzA 246 true [.val (some 2) (a7.enc .R r),.vI id] (.tup [some 2,none]) ([I r.o,oE ((dele r.K j).map (aQ.enc .own))]++[B true]):=by
  rw[k]at b;rcases rh (rows:=(dele r.K j).map (aQ.enc .own)) with n|⟨-,n⟩
  all_goals
   rw[n]at l |-;refine fP 24 [(336,[1,0,0])] [] Tryz.func246 rfl ?_ (.inl rfl)
   refine σE ?_
   rfl
 have a:=key.fzR;unfold jI;rw[CI e,Z0 e,k];change am _ _ _ _ _ [fz (I _),fz (oE _),fz (B true)]at a;rw[WW]at a;exact a
theorem Dt(r:a7)(id a v:Int)(m:Nat)(p:qu r m)(w:m<=1000)(y:0<=v/\v<=999):∃b:Bool,zzA 248 true [.val (some 2) (a7.enc .R r),.vI id,.vI a,.vI v] (.tup [some 2,none]) (a7.enc .R (dM r id a v)++[B b]):=by
 have k:=p.sml w;have q:=p.len;have l:=jL r k;have g:=nU r id k.1;by_cases n:0<=mT r id;rotate_left
 ·rw[show dM r id a v=r by unfold dM;rw[CI (λx=>n x.1)]]
  refine⟨false,?_⟩;have key:zzA 248 true [.val (some 2) (a7.enc .R r),.vI id,.vI a,.vI v] (.tup [some 2,none]) (a7.enc .own r++[B false]):=by
   refine fO 48 [] Tryz.func248 rfl ?_ (.inl rfl)
   refine σE ?_
   rfl
  have c:=key.fzR;rw[bT,Cm]at c;exact c
 obtain⟨H,J,K⟩:=eL (ib id) r.K n;obtain⟨j,C⟩:=C5 n;have e:j<r.K.length:=by grind[mT]
 have d:=ar e;have D:(nth r.K j).V.length<=1048576:=k.2 _ (ax e);rw[C]at g;have h:=aH a 0 (((nth r.K j).V.length:Nat) - 1:Int);by_cases o:0<=a/\a<=((nth r.K j).V.length:Nat) - 1;rotate_left
 ·rw[show dM r id a v=r by unfold dM;rw[CI ψ]]
  rw[Z0 o]at h;refine⟨false,?_⟩;have key:zzA 248 true [.val (some 2) (a7.enc .R r),.vI id,.vI a,.vI v] (.tup [some 2,none]) (a7.enc .own r++[B false]):=by
   refine fO 48 [] Tryz.func248 rfl ?_ (.inl rfl)
   refine σE ?_
   rfl
  have c:=key.fzR;rw[bT,Cm]at c;exact c
 obtain⟨b,E⟩:=C5 o.1;have F:dM r id a v = {r with K:=r.K.set j ⟨(nth r.K j).Id,(nth r.K j).V.set b v⟩}:=by grind[dM]
 rw[O0 o]at h;rw[F];subst E;have t:=ar (xs:=(nth r.K j).V) (i:=b) ω;have u:=aH v 0 999;rw[O0 y]at u;refine⟨true,?_⟩;have key:zzA 248 true [.val (some 2) (a7.enc .R r),.vI id,.vI (b:Nat),.vI v] (.tup [some 2,none]) (a7.enc .own {r with K:=r.K.set j ⟨(nth r.K j).Id,(nth r.K j).V.set b v⟩}++[B true]):=by
  have G:a7.enc .own {r with K:=r.K.set j ⟨(nth r.K j).Id,(nth r.K j).V.set b v⟩} = [I r.o,.s .own ((r.K.map (aQ.enc .own)).set j [I (nth r.K j).Id,.s .own (((nth r.K j).V.map (rI .own)).set b [I v])])]:=by grind[CC,a7.enc,aQ.enc,rI]
  rw[G];refine fO 48 [] Tryz.func248 rfl ?_ (.inl rfl)
  repeat'(first|refine gE ?_|with_reducible refine CO ω (aa d) ?_|refine Pu.two rfl rfl (aa d) rfl rfl rfl (aa t) rfl (O5 _) rfl ?_)
  rfl
 have c:=key.fzR;rw[bT,Cm]at c;exact c
def H1(r:a7)(id n:Int)(m:Nat)(w:qu r m)(E:m<=1000):∃b:Bool,zzA 250 true [.val (some 2) (a7.enc .R r),.vI id,.vI n] (.tup [some 2,none]) (a7.enc .R (eO r id n)++[B b]):=by
 have q:=w.sml E;have y:=w.len;have t:=jL r q;have g:=nU r id q.1;by_cases i:0<=mT r id;rotate_left
 ·rw[show eO r id n=r by unfold eO;rw[CI (λx=>i x.1)]]
  refine⟨false,?_⟩;have key:zzA 250 true [.val (some 2) (a7.enc .R r),.vI id,.vI n] (.tup [some 2,none]) (a7.enc .own r++[B false]):=by
   refine fO 44 [ρ 5 11 30] Tryz.func250 rfl ?_ (.inl rfl)
   refine σE ?_
   rfl
  have a:=key.fzR;rw[bT,Cm]at a;exact a
 obtain⟨K,L,M⟩:=eL (ib id) r.K i;obtain⟨j,c⟩:=C5 i;have d:j<r.K.length:=by unfold mT at c;omega
 have e:=ar d;have F:(nth r.K j).V.length<=1048576:=q.2 _ (ax d);rw[c]at g;have k:=aH n 1 (((nth r.K j).V.length:Nat):Int);by_cases l:1<=n/\n<=((nth r.K j).V.length:Nat);rotate_left
 ·rw[show eO r id n=r by unfold eO;rw[CI (λx=>l (by have:=x.2;rw[c]at this;exact this))]]
  rw[Z0 l]at k;refine⟨false,?_⟩;have key:zzA 250 true [.val (some 2) (a7.enc .R r),.vI id,.vI n] (.tup [some 2,none]) (a7.enc .own r++[B false]):=by
   refine fO 44 [ρ 5 11 30] Tryz.func250 rfl ?_ (.inl rfl)
   refine σE ?_
   rfl
  have a:=key.fzR;rw[bT,Cm]at a;exact a
 obtain⟨b,D⟩:=C5 (show 0<=n by omega);have G:eO r id n = {r with K:=r.K.set j ⟨(nth r.K j).Id,(nth r.K j).V.take b⟩}:=by
  unfold eO;rw[CJ ⟨i,by rw[c];exact l⟩,c,D];rfl
 rw[O0 l]at k;rw[G];subst D;have u:zzA 240 false [.val (some 2) (a7.enc .R r)] .agg [I r.o,.s .own ((r.K.map (aQ.enc .own)).set j (aQ.enc .R (nth r.K j)))]:=by
  have h:=t.fzAt (off:=1) (o:=.own) (rows:=r.K.map (aQ.enc .own)) rfl ϕ (j:=j) (aa e);rw[aQ.enc_fz]at h;exact h
 have p:((r.K.map (aQ.enc .own)).set j (aQ.enc .R (nth r.K j)))[j]? = some (aQ.enc .R (nth r.K j)):=Z6 ϰ;refine⟨true,?_⟩;have key:zzA 250 true [.val (some 2) (a7.enc .R r),.vI id,.vI (b:Nat)] (.tup [some 2,none]) ([I r.o,.s .own (((r.K.map (aQ.enc .own)).set j (aQ.enc .R (nth r.K j))).set j [I (nth r.K j).Id,.s .R (((nth r.K j).V.take b).map (rI .R))])]++[B true]):=by
  refine fO 44 [ρ 5 11 30] Tryz.func250 rfl ?_ (.inl rfl)
  repeat'(first|refine gE ?_|with_reducible refine CO ω p ?_|refine CK rfl p rfl ?_|refine CH p ?_|refine Ca b rfl ϰ (aI λ_=>rfl) C8 ?_|refine CS rfl rfl p rfl δ rfl ?_)
  rfl
 have a:=key.fzR;rw[List.set_set]at a;change am _ _ _ _ _ [fz (I _),fz (.s .own _),fz (B true)]at a;rw[MX,CC,UX]at a;have H:aQ.enc .R ⟨(nth r.K j).Id,(nth r.K j).V.take b⟩ = [I (nth r.K j).Id,C.s .R (((nth r.K j).V.take b).map (rI .R))].map fz:=by
  show [I _,C.s .R (((nth r.K j).V.take b).map (rI .R))]=[fz (I _),fz (.s .R _)];rw[MX,List.map_map];rfl
 have J:a7.enc .R {r with K:=r.K.set j ⟨(nth r.K j).Id,(nth r.K j).V.take b⟩} = [I r.o,.s .R ((r.K.map (aQ.enc .R)).set j ([I (nth r.K j).Id,.s .R (((nth r.K j).V.take b).map (rI .R))].map fz))]:=by
  rw[<-H,<-CC];rfl
 rw[J];exact a
def vX(p f:Nat)(a:List Int)(b:1<=p/\p<=32)(c:1<=f/\f<=32)(d:a.length<=40/\∀x∈a,0<=x):zzA 140 false [.vI (p:Nat),.vI (f:Nat),.val none (aE .R a)] (.tup [some 5,none]) (ah.enc .own (bD p f a)++[B true]):=by
 have e:=nB b c d;have h:=d.1;have g:=kH (bD p f a) (aX e);rw[e]at g;have i:=cM a ω;refine fO 30 [ς14] Tryz.func140 rfl ?_ (.inr (ay (Ck _) ⟨tV1,tV1⟩))
 repeat'(first|refine gP ?_|apply CF (qh p f b c)|refine CL (g) ⟨⟨rfl,CW (bD p f a)⟩,tV1⟩ ?_)
 rfl
def LU(p f t:Nat)(lim:Int)(a:List Int)(c:1<=p/\p<=32)(d:1<=f/\f<=32)(e:1<=t/\t<=4)(g:0<=lim/\lim<=1000)(h:a.length<=40/\∀x∈a,0<=x):zzA 74 false [.vI (p:Nat),.vI (f:Nat),.vI (t:Nat),.vI lim,.val none (aE .R a)] (.tup [some 24,none]) (ac.enc .own (rX p f t lim a)++[B true]):=by
 have b:=aH lim 0 1000;rw[O0 g]at b;refine fO 68 [ςd] Tryz.func74 rfl ?_ (.inr (ay (ac.enc_fr _) ⟨tV1,tV1⟩))
 repeat'(first|refine gP ?_|apply CF (vX p f a c d h)|apply CF (pC t e)|apply CF (Hd))
 refine lp0 t (λk=>[(2,fN t),(10,bF [.z,.z,.z,I 0,.z,.z,.z,.z,.z,.z,.z,.z,I 0,.z,I 0,I 0,I 0,I 0,B false,I 0,I 0,.z,I 0,I 0]),(18,bF (ac.enc .own (caps (rX p f t lim a) k))),(19,fN k)]) λk i=>?_
 by_cases j:k<t
 ·repeat'(first|refine gE ?_|apply CF (DK)|refine Cc JR rfl (by rw[Z1];show(List.replicate _ f9).length+1<=_;rw[C7];omega) qs (F5 k) ?_)
  (exact cV (k+1) ω)
 obtain rfl:k=t:=ω
 refine σE ?_
 rfl
def nZ(c:eH)(h:KX c):zzA 33 false [.val (some 5) (eH.enc .R c)] (.tup [some 26,none]) (bn.enc .own (world0 c)++[B true]):=by
 have a:=LU c.a2 c.W c.c4 c.c2 c.d h.p h.f h.t h.l h.r;refine fO 26 [ςo] Tryz.func33 rfl ?_ (.inr (ay (bn.enc_fr _) ⟨tV1,tV1⟩))
 repeat'(first|refine gP ?_|apply CF (Lt))
 rfl
end Go.Proofs.YtfdfgipemcbekaaGreatDoor.Ab
