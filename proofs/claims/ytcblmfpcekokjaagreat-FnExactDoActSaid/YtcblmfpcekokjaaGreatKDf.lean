/- Slots, caches and the quarantine: contracts of what freeing needs. No condition. -/
import Derived.Test.YtcblmfpcekokjaaGreatKDd
import Derived.Test.YtcblmfpcekokjaaGreatKDe
import Derived.Deep.LoopGhost
import Derived.Deep.RegionLaw
import Derived.Lib.Walk
import Derived.Sort.WalkB12
import Derived.Lib.SliceRun
import Derived.Shelf.RegionOpenPlain
set_option linter.unusedVariables false
set_option linter.defProp false
set_option linter.unusedSimpArgs false
set_option linter.constructorNameAsVariable false
namespace Go.Proofs.YtcblmfpcekokjaaGreat.Ab
open Go.RowKit
set_option maxRecDepth 20000
set_option maxHeartbeats 4000000
theorem shl64{i:Int}(a:0<=i/\i<=15):IntKind.i64.wrap (1*2 ^ min i.toNat IntKind.i64.bits)=2 ^ i.toNat/\0<=(2:Int) ^ i.toNat/\(2:Int) ^ i.toNat<=32768:=by
 have b:min i.toNat IntKind.i64.bits=i.toNat:=Nat.min_eq_left (show i.toNat<=64 by omega);have c:(0:Int)<=2 ^ i.toNat/\(2:Int) ^ i.toNat<=32768:=by
  have:(2:Nat) ^ i.toNat<=2 ^ 15:=Nat.pow_le_pow_right qs ω
  grind
 grind [ij]
variable{b:Int}
theorem clr64{i:Int}(a:0<=b/\b<=65535):IntKind.i64.wrap ((BitVec.ofInt IntKind.i64.bits b &&& ~~~BitVec.ofInt IntKind.i64.bits (2 ^ i.toNat)).toNat:Nat)=E8 b i:=by
 have:=Jn (i:=i) a
 grind [ij,E8]
theorem yo(b i:Int)(c:0<=b/\b<=65535)(d:0<=i/\i<=15):zzA 426 false [.vI b,.vI i] .one [I (E8 b i)]:=by
 have a:=vh b i;rw[O0 ω]at a;have e:IntKind.u64.wrap i=i:=by grind [Go.IntKind.wrap,Go.IntKind.bits]
 refine fO 15 [] Tryz.func426 rfl ?_
 repeat'(first|refine gP ?_|refine CU ω ?_|refine CT e ?_|refine CT (shl64 d).1 ?_|refine CT (clr64 c) ?_)
 rfl
def zi(b i:Int)(c:0<=b/\b<=65535)(d:0<=i/\i<=15):zzA 389 false [.vI b,.vI i] .one [I (E8 b i)]:=by
 have a:=uD b i;rw[O0 ω]at a;refine fO 14 [] Tryz.func389 rfl ?_
 repeat'(first|refine gP ?_|refine CU ω ?_|refine CT (shl64 d).1 ?_|refine CT (clr64 c) ?_)
 rfl
variable{s:aC}
theorem QF{k:Int}(a:br s.a3 k=true):0<=k/\k<=15:=by grind [lW]
def Fx(s:aC)(k:Int)(a:bu s=true)(b:br s.a3 k=true):zzA 342 false [.val (some 3) (aC.enc .O s),.vI k] (.tup [some 3,none]) (aC.enc .own (nz s k)++[B true]):=by
 have e:=f8 a;have g:=QF b;have c:=jj s;have d:=kQ s.a3 k ω;rw[a]at c;rw[b]at d;refine fO 23 [] Tryz.func342 rfl ?_ (.inr (aE (aC.enc_fr _) ⟨tV1,tV1⟩))
 repeat'(first|refine gP ?_|refine CG (yo s.a3 k e g) ?_)
 rfl
def FX(s:aC)(k:Int)(a:bu s=true)(b:br s.a3 k=true):zzA 272 false [.val (some 3) (aC.enc .O s),.vI k] (.tup [some 3,none]) (aC.enc .own (nz s k)++[B true]):=by
 have e:=f8 a;have g:=QF b;have c:=jm s;have d:=jn s.a3 k ω;rw[a]at c;rw[b]at d;refine fO 23 [] Tryz.func272 rfl ?_ (.inr (aE (aC.enc_fr _) ⟨tV1,tV1⟩))
 repeat'(first|refine gP ?_|refine CG (zi s.a3 k e g) ?_)
 rfl
def D6(c:aB)(k:Int)(b:aB.sml c):zzA 413 false [.val (some 1) (aB.enc .O c),.vI k] .one [B (bL c&&decide (0<=k/\k<=3))]:=by
 have a:=rA c b;cases e:bL c<;>rw[e]at a
 all_goals
  refine fO 11 [] Tryz.func413 rfl ?_
  repeat'(first|refine gP ?_|refine CG (aU k 0 3) ?_)
  all_goals rfl
def wH(c:aB)(k:Int)(a:aB.sml c):zzA 271 false [.val (some 1) (aB.enc .O c),.vI k] .one [B (decide (0<=k/\k<=3)&&bL c)]:=by
 have b:=rm c a;refine fO 11 [] Tryz.func271 rfl ?_
 repeat'(first|refine gP ?_|refine gS (λd=>?_) (λd=>?_)|refine CG (gL k) ?_)
 all_goals exact bE ((by simp[*]))
def nP{c:aB}{k:Nat}(a:k<c.X.length):c.X[k]? = some (nth c.X k):=au a
theorem Np{c:aB}(h:bL c=true)(k:Nat)(a:Int):aB.sml (oI c k a):=by
 obtain⟨e,d⟩:=f9 h;refine⟨by grind [oI],λl b=>?_⟩;rcases CD b with b|rfl
 ·have:=d l b;show l.length<=1048576;omega
 show(nth c.X k++[a]).length<=1048576;by_cases f:k<c.X.length
 ·grind [ay]
 have:nth c.X k=[]:=by unfold nth;rw[List.getD_eq_getElem?_getD,I4 ω];rfl
 rw[this];simp
theorem ER(c:aB)(k:Nat)(a:Int):aB.enc .own (oI c k a)=[.s .own ((c.X.map (aI .own)).set k (aI .own (nth c.X k++[a])))]:=by grind [IC,aB.enc,oI]
variable{r:List C}{α:Type}
theorem bZ{f:α->List C}{xs:List α}{k:Nat}{y:α}(h:xs[k]? = some y):((xs.map f).set k r)[k]? = some r:=ψ
def eL{β:Type}(f:α->β)(xs:List α)(y:α):(xs++[y]).map f=xs.map f++[f y]:=by simp
def Ey(c:aB)(k a:Int):List C:=aB.enc .own ((cput c k a).getD c)++[B (cput c k a).isSome]
def La(c:aB)(k a:Int):gl (Ey c k a):=aE (Cs _) ⟨tV1,tV1⟩
theorem FZ(c:aB)(k:Nat)(a:Int)(j:bL c=true)(B:k<=3):zzA 424 false [.val (some 1) (aB.enc .O c),.vI (k:Nat),.vI a] (.tup [some 1,none]) (Ey c k a):=by
 obtain⟨D,q⟩:=f9 j;have r:aB.sml c:=⟨ω,λl u=>by have:=q l u;show l.length<=1048576;omega⟩
 have n:=D6 c k r;rw[j,O0 ω]at n;have t:=kU c r;have d:=Np j k a;have o:=rA (oI c k a) d;have w:=kU (oI c k a) d;have b:=nP (c:=c) (k:=k) ω;have y:=q _ (ay (xs:=c.X) (i:=k) ω);have h:=Cp (oI c k a);rw[ER]at h;have g:=La c k a;unfold Ey at g |-;cases e:bL (oI c k a)<;>rw[e]at o
 ·have p:cput c k a=none:=by grind [cput]
  rw[p]at g |-;refine fO 35 [(4,267,[16,17,18,19,20,21,22,23,24,25,27,0,1,2,3,4,5,6,7,8,9,10,1000,1001,1002,11,12])] Tryz.func424 rfl ?_ (.inr g)
  repeat'(first|refine gP ?_|refine CI (bZ b) ?_|refine CM rfl (bZ b) rfl ?_|refine Cj rfl rfl (aa b) rfl (O2 rfl) rfl rfl ?_|refine CR rfl rfl (bZ b) rfl (O2 rfl) (show [C.s eS.own ((c.X.map (aI .own)).set k (aI .own (nth c.X k++[a])))]=_ from by simp only[List.set_cons_zero,List.set_set,O4];rfl) ?_|refine Cf (aR λ_=>rfl) rfl kd qs (eL _ _ _) ?_|refine CN (o) ⟨⟨rfl,h⟩,tV1⟩ ?_)
  rfl
 have p:cput c k a=some (oI c k a):=by grind [cput]
 rw[p]at g |-;refine fO 35 [(4,267,[16,17,18,19,20,21,22,23,24,25,27,0,1,2,3,4,5,6,7,8,9,10,1000,1001,1002,11,12])] Tryz.func424 rfl ?_ (.inr g)
 repeat'(first|refine gP ?_|refine CI (bZ b) ?_|refine CM rfl (bZ b) rfl ?_|refine Cj rfl rfl (aa b) rfl (O2 rfl) rfl rfl ?_|refine CR rfl rfl (bZ b) rfl (O2 rfl) (show [C.s eS.own ((c.X.map (aI .own)).set k (aI .own (nth c.X k++[a])))]=_ from by simp only[List.set_cons_zero,List.set_set,O4];rfl) ?_|refine Cf (aR λ_=>rfl) rfl kd qs (eL _ _ _) ?_|refine CN (o) ⟨⟨rfl,h⟩,tV1⟩ ?_|refine CN (w) ⟨⟨rfl,h⟩,tV1⟩ ?_)
 rfl
theorem Lj(o:aW)(a:Int):zzA 382 false [.val (some 4) (aW.enc .O o),.ptr [I a]] .one [B (ka a o)]:=by
 refine fO 8 [] Tryz.func382 rfl ?_
 refine σP ?_
 grind [ka]
def wq(h:ac)(a:Int)(c:h.K.length<=1048576):zzA 253 false [.val (some 24) (ac.enc .O h),.vI a] .one [I (cC (ka a) h.K)]:=by
 refine fO 9 [] Tryz.func253 rfl ?_
 repeat'(first|refine gP ?_|refine Cq.mk (sQ (some 4) (aW.enc .O) (ka a) h.K) (Lj default a).has (λL k rcs b=>?_) ?_|refine CG (lS h.K (ka a) ω) ?_)
 ·obtain⟨y,-,rfl,rfl,rfl⟩:=b
  exact Lj y a
 rfl
theorem ne(xs:List aA)(pr:aA->Bool)(g:xs.length<=9223372036854775807):zzA 256 false [.val none (bG .O xs),.fn (pk Tryz.prog (sQ (some 3) (aA.enc .O) pr xs))] .one [I (cC pr xs)]:=by
 refine fO 19 [] Tryz.func256 rfl ?_
 refine σP ?_
 refine g0 xs.length (λi=>[(0,b8 (bG .O xs)),(1,.fv (pk Tryz.prog (sQ (some 3) (aA.enc .O) pr xs))),(7,fI xs.length),(8,fN i)]) (λi=>∀(j:Nat)(z:aA),j<i->xs[j]? = some z->pr z=false) ψ λi b=>?_
 obtain⟨b,d⟩:=b;by_cases a:i<xs.length
 ·obtain⟨y,c⟩ : ∃y,xs[i]? = some y:=⟨_,z4 a⟩
  repeat'(first|refine gE ?_|refine Fv.mk (k:=.one) (rcs:=[B (pr y)]) ⟨y,t4 c,rfl,rfl,rfl⟩ ?_|refine Bf.P (λe=>?_) (λe=>?_))
  ·grind [eA]
  (conv=>whnf)
  exact dL (i+1) ψ
 refine σE ?_
 exact eE (gr ω d).symm
def bT(x:ac):List C:=[.s .own (x.G.F.V.U.map (aI .own)),.s .own (x.G.F.V.y.map (rB .own)),.s .own (x.G.F.R.M.map (aS.enc .own)),I x.G.Calls,.s .own (x.G.k.map (rI .own)),.s .own (x.a.map (aD.enc .own)),.s .own (x.J.map (aC.enc .own)),.s .own (x.H.map (aA.enc .own)),.s .own (x.K.map (aW.enc .own)),.s .own (x.Q.map (aB.enc .own)),.s .own (x.b.T.map (bf .own)),.s .own (x.b.e.map (aI .own)),I x.r.b2,.s .own (x.r.l.map (aK.enc .own)),I x.b3,I x.a4,I x.b7,I x.j,B x.w,I x.a2.d.a5,I x.a2.d.a7,.s .O (x.a2.d.U.map (rI .O)),I x.a2.a8,I x.a2.j]
def bY(x:ac):du (bT x)=ac.enc .O x:=by simp[du,bT,ac.enc,Cp,aS.enc_fz,aA.enc_fz,aW.enc_fz,aD.enc_fz,aC.enc_fz,aK.enc_fz,rB,rR,rI,eI,<-cf,OB]
def Dy(x:bz):List C:=[I x.d.a5,I x.d.a7,.s .O (x.d.U.map (rI .O)),I x.a8,I x.j]
variable{rows:List (List C)}{i j g:Nat}
theorem Pu.two{f a:List C}{off k h b:Nat}{cs:List C}{K:List C->Prop}{o c:eS}{rows2:List (List C)}{d:List C}(h1:f[off]? = some (.s o rows))(n:o.mine=true)(h2:rows[i]? = some r)(u:r.length=k)(w:r[j]? = some (.s c rows2))(p:c.mine=true)(y:rows2[g]? = some d)(A:d.length=h)(B:b+cs.length<=h)(D:a=f.set off (.s o (rows.set i (r.set j (.s c (rows2.set g (splice d b cs)))))))(q:K a):Pu f off [(i,k,j),(g,h,b)] cs K:=by
 have t:o≠.O:=λe=>by subst e;cases n
 have l:c≠.O:=λe=>by subst e;cases p
 refine Pu.mk (r:=d) (j:=b) (by grind [cA]) (by grind [nl]) ω (by grind [gX]) q
def DS(x:List aC):fz (.s .own (x.map (aC.enc .own)))=.s .O (x.map (aC.enc .O)):=(List.cons.inj (f7 x)).1
def yP(x:List aA):fz (.s .own (x.map (aA.enc .own)))=.s .O (x.map (aA.enc .O)):=(List.cons.inj (kb x)).1
def AP(x:List aW):fz (.s .own (x.map (aW.enc .own)))=.s .O (x.map (aW.enc .O)):=(List.cons.inj (Tx x)).1
theorem Ap.dele{e:α->List C}{xs:List α}{sz by_:Nat}{K:List (List C)->Prop}(h2:∀y,(e y).length=sz)(a:∀y,b6 (e y)=true)(g:xs.length<=1048576)(b:by_<=1000)(c:K ((Ab.dele xs i).map e)):Ap true ((xs.take i).map e) ((xs.drop (i+1)).map e) sz by_ K:=by
 have d:(xs.take i).length+(xs.drop (i+1)).length<=2097152:=ψ
 refine Ce (aR h2) (aR h2) (λ_ r f=>by obtain⟨y,-,rfl⟩:=O8.1 f;exact a y) (by rw[I2,I2];omega) (by rw[I2,I2];exact I9 (Nat.mul_le_mul d b) qs) ?_ c;unfold Ab.dele;rw[IB]
def TG(h:ac)(p:Int)(a:aL.sml h.G.F.R):zzA 421 false [.ptr (ac.enc .O h),.vI p] .one [I (ax h.G.F.R p).o]:=by
 refine fO 13 [] Tryz.func421 rfl ?_
 repeat'(first|refine gP ?_|refine CG (dO h.G.F.R p a) ?_)
 rfl
def YS(h:ac):List C:=(bT h).drop 5
def ZU(h:ac)(k:af):bT {h with G:=k} = af.enc .own k++YS h:=rfl
def KZ(h:ac):YS h=[.s .own (h.a.map (aD.enc .own)),.s .own (h.J.map (aC.enc .own)),.s .own (h.H.map (aA.enc .own)),.s .own (h.K.map (aW.enc .own)),.s .own (h.Q.map (aB.enc .own)),.s .own (h.b.T.map (bf .own)),.s .own (h.b.e.map (aI .own)),I h.r.b2,.s .own (h.r.l.map (aK.enc .own)),I h.b3,I h.a4,I h.b7,I h.j,B h.w,I h.a2.d.a5,I h.a2.d.a7,.s .O (h.a2.d.U.map (rI .O)),I h.a2.a8,I h.a2.j]:=rfl
def T0(h:ac)(f:Int)(a:aL.sml h.G.F.R)(b:0<=f/\f<h.G.F.V.U.length/\f<h.G.F.V.y.length) :
  zzB 422 false [.ptr (bT h),.vI f] [.ptr (bT {h with G:=j9 h.G f}),.vI f] (.tup []) []:=by
 have c:=au (xs:=h.G.F.V.U) (i:=f.toNat) ω;have d:=au (xs:=h.G.F.V.y) (i:=f.toNat) ω;rw[ZU h (j9 h.G f)];by_cases e:(pagesOn h.G.F.R f).length=0
 ·rw[yt e,KZ]
  refine fM 30 [] [(2,8,[21,22,23,24,25,26,27,28])] [(0,0),(0,0)] Tryz.func422 rfl (λu q=>?_) (.inr tV1)
  repeat'(first|refine gB ?_|with_reducible (first|refine CS b.1 (aa d) ?_|refine CS b.1 (aa c) ?_)|refine CN (jq h.G.F.R f a) ⟨⟨rfl,Cm h.G.F.R⟩,⟨rfl,rfl⟩,tV1⟩ ?_|refine CR rfl rfl (aa c) rfl (O2 rfl) rfl ?_|refine CR rfl rfl (aa d) rfl (O2 rfl) rfl ?_|refine Mk.mk 16 rfl rfl qs qs rfl ?_)
  exact ks
 rw[B6 e];show aX _ _ _ [.ptr (bT h),_] [.ptr (bT h),_] _ _;refine fM 30 [] [(2,8,[21,22,23,24,25,26,27,28])] [(0,0),(0,0)] Tryz.func422 rfl (λu q=>?_) (.inr tV1)
 repeat'(first|refine gB ?_|refine CN (jq h.G.F.R f a) ⟨⟨rfl,Cm h.G.F.R⟩,⟨rfl,rfl⟩,tV1⟩ ?_)
 exact ks
theorem rj(h:ac)(p:Int)(b:aN h.G=true) :
  zzB 327 false [.ptr (bT h),.vI p] [.ptr (bT {h with G:=cY h.G p}),.vI p] .one [B (decide ((ax h.G.F.R p).o≠0))]:=by
 have k:=bq b;have c:=TG h p k.1.2;by_cases a:(ax h.G.F.R p).o=0
 ·rw[show cY h.G p=h.G by unfold cY;rw[CK a]]
  refine fM 32 [(422,[2,0])] [] [(0,0),(0,0)] Tryz.func327 rfl (λu q=>?_)
  repeat'(first|refine gB ?_|refine CN (c) ⟨bY h,⟨rfl,rfl⟩,tV1⟩ ?_)
  refine CO rfl ?_ ?_
  ·exact bE ((by simp[a]))
  exact wB
 obtain⟨l,r,n,d,o⟩:=bV b a;have j:=(bk.1 (aM.1 b).2.1).2.2.1;rw[show cY h.G p=j9 (pf h.G p) (ax h.G.F.R p).g by unfold cY;rw[CJ a]];have e:=T0 {h with G:=pf h.G p} (ax h.G.F.R p).g (DU b) ⟨d,by grind [pf],by grind [pf]⟩;rw[ZU h (pf h.G p),B8,KZ]at e;have g:=au (xs:=h.G.F.R.M) (i:=p.toNat) ω;rw[n]at c e a |-;refine fM 32 [(422,[2,0])] [] [(0,0),(0,0)] Tryz.func327 rfl (λu q=>?_)
 repeat'(first|refine gB ?_|with_reducible refine CS l (aa g) ?_|refine CN (c) ⟨bY h,⟨rfl,rfl⟩,tV1⟩ ?_|refine CR rfl rfl (aa g) rfl (O2 rfl) rfl ?_)
 refine CO rfl ?_ ?_
 ·exact bE ((by simp[a]))
 exact wB
def Ae(h:ac)(p:Int):zzA 321 false [.ptr (ac.enc .O h),.vI p] .one [B (iw h p)]:=by
 cases e:h.w
 all_goals
  have a:ac.enc .O h=(ac.enc .O h).set 18 (B h.w):=rfl;rw[e]at a;rw[a];refine fO 29 [] Tryz.func321 rfl ?_
  repeat'(first|refine gP ?_|refine gS (λb=>?_) (λb=>?_)|fail)
  all_goals exact bE ((by unfold iw;rw[e];first|(simp[*];done)|(simp[*];rw[C9];simp)))
def jJ(h:ac):zzA 325 false [.ptr (ac.enc .O h)] .one [I (ge h:Nat)]:=by
 refine fO 11 [] Tryz.func325 rfl ?_
 refine σP ?_
 rfl
theorem wy(h:ac)(a:Int)(k:h.K.length<=1048576):zzA 328 false [.val (some 24) (ac.enc .O h),.vI a] .one [I (cC (ka a) h.K)]:=by
 refine fO 22 [] Tryz.func328 rfl ?_
 refine σP ?_
 refine g0 h.K.length (λi=>[(1,fI a),(2,bX (ac.enc .O h)),(5,fN i)]) (λi=>∀(j:Nat)(z:aW),j<i->h.K[j]? = some z->ka a z=false) ψ λi c=>?_
 obtain⟨c,d⟩:=c;by_cases g:i<h.K.length
 ·have b:=au g
  by_cases e:(nth h.K i).Addr=a
  ·refine σB ?_
   grind [eA,ka]
  refine σB ?_
  (exact dL (i+1) ⟨ω,gd b (by grind [ka]) d⟩)
 refine σE ?_
 exact eE (gr ω d).symm
def ry(h:ac)(i:Nat)(b:i<h.K.length)(a:h.K.length<=1048576):zzB 332 false [.ptr (bT h),.vI (i:Nat)] [.ptr (bT {h with K:=dele h.K i}),.vI (i:Nat)] (.tup []) []:=by
 refine fM 23 [] [(0,273,[4,5,6,7,8,9,10,11,13,14,15,16,17,18,19,21,22,0,1,2,3,4,5,6,7,9,10,11,12,13,14,15,8,1000,1009,1010,1011,1012,1013,1014,1015,16,1000,17,18,19]),(1048576,0,[8])] [(0,0),(0,0)] Tryz.func332 rfl (λu q=>?_) (.inr tV1)
 repeat'(first|refine gP ?_|refine Nw.mk rfl (AP h.K) rfl ?_|refine CZ i rfl (by rw[I2];omega) (aR λ_=>rfl) C8 ?_|refine Ci (i+1) rfl (by rw[I2];omega) (aR λ_=>rfl) I8 ?_|refine Cg (λ_=>rfl) (λ_=>rfl) (by rw[I3];omega) qs ?_|refine Ap.dele (λ_=>rfl) (λ_=>rfl) a qs ?_|refine CX (λ_=>rfl) (λ_=>rfl) (by rw[I3];omega) qs ?_)
 exact ks
theorem Jv(h:ac)(E:List Int)(i:Nat)(a:bo h E)(e:i<h.J.length):zzB 343 false [.ptr (bT h),.vI (i:Nat)] [.ptr (bT (giveP h i)),.vI (i:Nat)] (.tup []) []:=by
 have b:=a.lens;have g:=b.spans;have c:=au e;have j:=rj {h with J:=dele h.J i} (nth h.J i).S a.ker;have d:=jJ {h with G:=cY h.G (nth h.J i).S,J:=dele h.J i};rw[show ge {h with G:=cY h.G (nth h.J i).S,J:=dele h.J i} = ge h from(wQ _ _).1]at d;have k:ge h<=32:=b.ents;have l:=pL (ge h:Nat) h.a ⟨(nth h.J i).S,1⟩ ω ⟨by grind [nB.free],λ_ _=>tV1⟩;refine fM 52 [(327,[2,0])] [(1,273,[13,14,15,16,17,18,19,20,22,23,24,25,26,27,28,30,31,0,1,2,3,4,5,6,7,9,10,11,12,13,14,15,8,1000,1009,1010,1011,1012,1013,1014,1015,16,1000,17,18,19]),(1048577,0,[6]),(3,270,[38,39,40,41,42,43,44,45,47,37,48,49,50,51,0,1,2,3,4,5,6,7,8,1000,1001,1002,1003,1004,1005,1006,9,10,11,12,13,14,15,1012])] [(0,0),(0,0)] Tryz.func343 rfl (λu q=>?_) (.inr tV1)
 repeat'(first|refine gP ?_|refine Nw.mk rfl (DS h.J) rfl ?_|refine CZ i rfl (by rw[I2];omega) (aR λ_=>rfl) C8 ?_|refine Ci (i+1) rfl (by rw[I2];omega) (aR λ_=>rfl) I8 ?_|refine Cg (λ_=>rfl) (λ_=>rfl) (by rw[I3];omega) qs ?_|refine Ap.dele (λ_=>rfl) (λ_=>rfl) ω qs ?_|refine CX (λ_=>rfl) (λ_=>rfl) (by rw[I3];omega) qs ?_|refine CN (d) ⟨bY _,tV1⟩ ?_|refine CN (l) ⟨⟨rfl,rfl⟩,⟨rfl,fe h.a⟩,⟨rfl,rfl⟩,tV1⟩ ?_)
 exact ks
def Dq(h:ac)(i:Nat)(a:Int):bT (clrS h i a)=(bT h).set 6 (.s .own ((h.J.map (aC.enc .own)).set i (aC.enc .own (nz (nth h.J i) (fo (nth h.J i) a))))):=by
 simp[bT,clrS,IC]
theorem kC{β:Type}{f:α->β}{xs:List α}{y:β}(a:i<xs.length):((xs.map f).set i y)[i]? = some y:=ψ
variable{a:Int}
def Tj(c:bu s=true)(b:hO s a):k6 s a=(fo s a,0):=by
 unfold k6;rw[CK ((jh c).2 ⟨b.1,b.2.1⟩),b.2.2.1];rfl
theorem rg(h:ac)(E:List Int)(a:Int)(c:bo h (a::E)):zzB 196 false [.ptr (bT h),.vI a] [.ptr (bT (freeA h a)),.vI a] (.tup []) []:=by
 obtain⟨j,n,t⟩:=c.at (c.hin a ψ);have d:=(c.hin a ψ).bd c;have B:=c.lens;have C:=B.spans;have e:=c.L.sok _ (ay j);have k:=mg h (a / 16) ω;rw[t]at k;unfold freeA;generalize A2 h a=i at j n k e;have b:=au j;have o:=Ai (nth h.J i) a ⟨ω,ω⟩;rw[Tj e n]at o;have w:=Fx (nth h.J i) (fo (nth h.J i) a) e n.2.2.2;have D:=c.give j n;have l:=Ae (clrS h i a) (nth h.J i).S;rw[show iw (clrS h i a) (nth h.J i).S=iw h (nth h.J i).S from rfl]at l;have p:=Jv (clrS h i a) E i D (by grind [clrS]);have r:=bY (clrS h i a);rw[Dq]at p r;have g:((h.J.map (aC.enc .own)).set i (aC.enc .own (nz (nth h.J i) (fo (nth h.J i) a))))[i]? = some (aC.enc .own (nz (nth h.J i) (fo (nth h.J i) a))):=kC j;unfold freeS;by_cases y:(nz (nth h.J i) (fo (nth h.J i) a)).a3=0
 ·cases F:iw h (nth h.J i).S<;>rw[F]at l
  ·rw[CK ⟨y,rfl⟩]
   refine fM 68 [(343,[2,0])] [(2,274,[26,27,28,29,30,31,32,33,34,35,36,37,38,39,25,40,41,42,0,1,2,3,4,5,6,7,8,9,10,11,12,13,14,15,16,17,18,1016])] [(0,0),(0,0)] Tryz.func196 rfl (λu q=>?_) (.inr tV1)
   repeat'(first|refine gB ?_|with_reducible refine CT ((O1 _ (tdiv16 d.1)).trans (ij ω ω)) ?_|refine CU qs ?_|refine CN (k) ⟨⟨rfl,bY h⟩,⟨rfl,rfl⟩,tV1⟩ ?_|refine CI g ?_|refine CM rfl g rfl ?_|refine CR rfl rfl (aa b) rfl (O2 rfl) rfl ?_|refine CN (l) ⟨r,⟨rfl,rfl⟩,tV1⟩ ?_)
   exact ks
  rw[CJ ψ];rw[Dq];refine fM 68 [(343,[2,0])] [(2,274,[26,27,28,29,30,31,32,33,34,35,36,37,38,39,25,40,41,42,0,1,2,3,4,5,6,7,8,9,10,11,12,13,14,15,16,17,18,1016])] [(0,0),(0,0)] Tryz.func196 rfl (λu q=>?_) (.inr tV1)
  repeat'(first|refine gB ?_|with_reducible refine CT ((O1 _ (tdiv16 d.1)).trans (ij ω ω)) ?_|refine CU qs ?_|refine CN (k) ⟨⟨rfl,bY h⟩,⟨rfl,rfl⟩,tV1⟩ ?_|refine CI g ?_|refine CM rfl g rfl ?_|refine CR rfl rfl (aa b) rfl (O2 rfl) rfl ?_|refine CN (l) ⟨r,⟨rfl,rfl⟩,tV1⟩ ?_)
  exact ks
 rw[CJ λx=>y x.1];rw[Dq];refine fM 68 [(343,[2,0])] [(2,274,[26,27,28,29,30,31,32,33,34,35,36,37,38,39,25,40,41,42,0,1,2,3,4,5,6,7,8,9,10,11,12,13,14,15,16,17,18,1016])] [(0,0),(0,0)] Tryz.func196 rfl (λu q=>?_) (.inr tV1)
 repeat'(first|refine gB ?_|with_reducible refine CT ((O1 _ (tdiv16 d.1)).trans (ij ω ω)) ?_|refine CU qs ?_|refine CN (k) ⟨⟨rfl,bY h⟩,⟨rfl,rfl⟩,tV1⟩ ?_|refine CI g ?_|refine CM rfl g rfl ?_|refine CR rfl rfl (aa b) rfl (O2 rfl) rfl ?_|refine CN (l) ⟨r,⟨rfl,rfl⟩,tV1⟩ ?_)
 exact ks
def VS(h:ac)(t:Nat)(c:aB):bT {h with Q:=h.Q.set t c} = (bT h).set 9 (.s .own ((h.Q.map (aB.enc .own)).set t (aB.enc .own c))):=by
 simp[bT,IC]
theorem sH(h:ac)(E:List Int)(t:Nat)(a:Int)(b:bo h (a::E))(w:t<h.Q.length):zzB 334 false [.ptr (bT h),.vI (t:Nat),.vI a] [.ptr (bT (recyc t h a)),.vI (t:Nat),.vI a] (.tup []) []:=by
 obtain⟨o,y,p⟩:=b.at (b.hin a ψ);have g:=(b.hin a ψ).bd b;have B:=b.lens;have C:=B.spans;have j:=aT (b.L.sok _ (ay o));have r:=b.cach _ (ay w);have l:=mg h (a / 16) ω;rw[p]at l;have D:=rg h E a b;unfold recyc;generalize A2 h a=i at o y l j;have n:=au o;have k:=au w;have d:=FZ (nth h.Q t) (nth h.J i).Z.toNat a r ω;rw[Int.toNat_of_nonneg j.2.2.1]at d;unfold Ey at d;cases e:cput (nth h.Q t) (nth h.J i).Z a with
 | none=>
  rw[e]at d;refine fM 46 [(196,[2,0])] [(1,277,[16,17,18,19,20,21,22,23,24,25,26,27,28,29,30,31,32,15,33,34,7,0,1,2,3,4,5,6,7,8,9,10,11,12,13,14,15,16,17,18,19,20,21,1019,22]),(3,6,[36,37,38,39,40,41])] [(0,0),(0,0),(0,0)] Tryz.func334 rfl (λu q=>?_) (.inr tV1)
  repeat'(first|refine gP ?_|with_reducible refine CT ((O1 _ (tdiv16 g.1)).trans (ij ω ω)) ?_|refine CU qs ?_|refine CN (l) ⟨⟨rfl,bY h⟩,⟨rfl,rfl⟩,tV1⟩ ?_|refine CN (d) ⟨⟨rfl,Cp _⟩,⟨rfl,rfl⟩,⟨rfl,rfl⟩,tV1⟩ ?_)
  exact ks
 | some c=>
  rw[e]at d;simp only;rw[VS];refine fM 46 [(196,[2,0])] [(1,277,[16,17,18,19,20,21,22,23,24,25,26,27,28,29,30,31,32,15,33,34,7,0,1,2,3,4,5,6,7,8,9,10,11,12,13,14,15,16,17,18,19,20,21,1019,22]),(3,6,[36,37,38,39,40,41])] [(0,0),(0,0),(0,0)] Tryz.func334 rfl (λu q=>?_) (.inr tV1)
  repeat'(first|refine gP ?_|with_reducible refine CT ((O1 _ (tdiv16 g.1)).trans (ij ω ω)) ?_|refine CU qs ?_|refine CN (l) ⟨⟨rfl,bY h⟩,⟨rfl,rfl⟩,tV1⟩ ?_|refine CN (d) ⟨⟨rfl,Cp _⟩,⟨rfl,rfl⟩,⟨rfl,rfl⟩,tV1⟩ ?_|refine CR rfl rfl (aa k) rfl (O2 rfl) rfl ?_)
  exact ks
theorem vp(h:ac)(i:Nat)(d:bo h [])(o:i<h.K.length)(t:aZ (nth h.K i).q<0):zzB 330 false [.ptr (bT h),.vI (i:Nat)] [.ptr (bT (freeL h i (xf h (nth h.K i).Addr))),.vI (i:Nat)] (.tup []) []:=by
 obtain⟨l,w,y,-⟩:=(fA d (ay o)).1 t;obtain⟨p,B,c,-⟩:=yn w y;generalize xf h (nth h.K i).Addr=g at p B c;have a:=d.lens;have C:=a.larges;have D:=a.objs;have b:=au o;have N:=bj (d.L.lok _ (ay p));have E:ge h<=32:=a.ents;refine fM 89 [(327,[2,0]),(332,[2,0])] [(4,11,[23,24,25,26,27,28,29,30,31,32,33]),(8,7,[41,42,43,44,45,46,47]),(9,273,[50,51,52,53,54,55,56,57,58,59,60,62,49,63,64,65,66,0,1,2,3,4,5,6,7,8,9,10,11,1000,1001,1002,1003,1004,1005,1006,12,13,14,15,16,17,18,1015]),(10,273,[67,68,69,70,71,72,73,74,76,77,78,79,80,81,82,84,85,0,1,2,3,4,5,6,7,9,10,11,12,13,14,15,8,1000,1009,1010,1011,1012,1013,1014,1015,16,1000,17,18,19]),(1048586,0,[7])] [(0,0),(0,0)] Tryz.func330 rfl (λu q=>?_) (.inr tV1)
 refine σP ?_
 refine lp0 g (λk=>[(0,bX (bT h)),(1,fN i),(4,fN k)]) λk O=>?_
 have j:=au (xs:=h.H) (i:=k) ω;have F:=bj (d.L.lok _ (ay (xs:=h.H) (i:=k) ω));have G:0<=(nth h.K i).Addr/\(nth h.K i).Addr<=512:=ω
 by_cases e:k=g
 ·subst e
  refine σB ?_
  refine lp0 ((nth h.H k).a0.toNat) (λn=>[(0,bX (bT {h with G:=dX h.G (nth h.H k).S n})),(1,fN i),(4,fN k),(5,bX (aA.enc .own (nth h.H k))),(6,fN n)]) λn P=>?_
  by_cases Q:n<(nth h.H k).a0.toNat
  ·have H:=rj {h with G:=dX h.G (nth h.H k).S n} ((nth h.H k).S+n) (kz d.ker _ _)
   refine σE ?_
   (exact dL (n+1) ω)
  obtain rfl:n=(nth h.H k).a0.toNat:=ω
  have r:=jJ {h with G:=dX h.G (nth h.H k).S (nth h.H k).a0.toNat};rw[show ge {h with G:=dX h.G (nth h.H k).S (nth h.H k).a0.toNat} = ge h from(iy _ _ _).1]at r;have J:=pL (ge h:Nat) h.a ⟨(nth h.H k).S,(nth h.H k).a0⟩ ω ⟨by grind [nB.free],λ_ _=>tV1⟩;have K:=ry {h with G:=dX h.G (nth h.H k).S (nth h.H k).a0.toNat,H:=dele h.H k,a:=(cw (ge h) h.a ⟨(nth h.H k).S,(nth h.H k).a0⟩).getD h.a} i o ψ
  repeat'(first|refine gE ?_|refine Nw.mk rfl (yP h.H) rfl ?_|refine CZ k rfl (by rw[I2];omega) (aR λ_=>rfl) C8 ?_|refine Ci (k+1) rfl (by rw[I2];omega) (aR λ_=>rfl) I8 ?_|refine Cg (λ_=>rfl) (λ_=>rfl) (by rw[I3];omega) qs ?_|refine Ap.dele (λ_=>rfl) (λ_=>rfl) ω qs ?_|refine CX (λ_=>rfl) (λ_=>rfl) (by rw[I3];omega) qs ?_|refine CN (r) ⟨bY _,tV1⟩ ?_|refine CN (J) ⟨⟨rfl,rfl⟩,⟨rfl,fe h.a⟩,⟨rfl,rfl⟩,tV1⟩ ?_)
  exact ks
 have M:=c k ω
 refine σB ?_
 (exact dL (k+1) ω)
def VG(q:aY)(x:aK):List C:=aY.enc .own (Uj q x)++bJ .own (y6 q x)
def QJ(q:aY)(x:aK):gl (VG q x):=aE (aY.enc_fr _) (mh _)
def HJ(q:aY)(a:aK)(J:q.l.length<=4096)(e:ir q=true)(r:0<=a.Z/\a.Z<=3/\0<=a.Addr/\0<=a.a9)(t:∀y∈q.l,y.a9<=a.a9)(u:∀y∈q.l,y.Addr≠a.Addr) :
  zzA 333 false [.val (some 2) (aY.enc .O q),.val (some 3) (aK.enc .O a)] (.tup [some 2,none]) (VG q a):=by
 have b:aY.sml q:=⟨ω,λ_ _=>tV1⟩
 have w:=x6 q b;have l:=u5 q b;rw[e]at l;have n:=H3 a;rw[O0 r]at n;have o:=xS q a.Addr b;rw[show q.l.any (fY a.Addr)=false by rw[List.any_eq_false];intro y B;unfold fY;simpa using u y B]at o;have C:=(jO.1 e).2.2.2;have g:=QJ q a;have K:(aK.mk a.Addr a.Z a.a9)=a:=rfl;have c:=Dt q.b2 (q.l++[a]);simp only[I5,List.length_singleton]at c;by_cases D:q.l.length=0
 all_goals
  try have h:(nth q.l (q.l.length - 1)).a9<=a.a9:=t _ (ay ω)
  try have j:=au (xs:=q.l) (i:=q.l.length - 1) ω
  try have d:q.l[((q.l.length:Int) - 1).toNat]? = some (nth q.l (q.l.length - 1)):=by rw[show((q.l.length:Int) - 1).toNat=q.l.length - 1 by omega];exact j
  refine fO 74 [(3,27,[15,16,17,18,19,20,21,22,23,24,25,26,27,28,29,30,31,32,33,34,35,36,37,38,39,40,41]),(7,6,[52,53,54,55,56,57]),(9,268,[61,62,63,64,65,66,67,69,70,71,72,73,0,1,2,3,4,5,6,8,9,10,11,12,7,1008,1009,1010,1011,1012,13,14])] Tryz.func333 rfl ?_ (.inr g)
  repeat'(first|refine gE ?_|refine gS (λe=>?_) (λe=>?_)|refine CS ω (aa d) ?_|refine Cf (aR λ_=>rfl) rfl kd qs (eL (aK.enc .own) q.l a) ?_)
  refine Lp.fz 8 (ι:=Nat) (λk=>[(2,bX (aY.enc .O q)),(4,bX [I 0,.z]),(8,b8 (bJ .O (q.l++[a]))),(9,fN k)]) (λk=>k<=kw q.b2 (q.l++[a])) (λk=>kw q.b2 (q.l++[a]) - k) 0 ?_ (I1 _) λk L=>?_
  ·(repeat'(first|exact tV1|rfl|exact CL rfl (show Tl (du (bJ .own (q.l++[a]))) (bJ .O (q.l++[a])) by rw[Ly];exact lX _)|refine CL ?_ ?_))
  have M:(q.l++[a]).length=q.l.length+1:=by simp
  have E:((q.l++[a]).drop k).length<=5000:=by rw[O5];omega
  have F:((q.l++[a]).take k).length<=5000:=by rw[I3];omega
  have p:=zu ((q.l++[a]).drop k) ⟨ω,λ_ _=>tV1⟩;by_cases G:k<kw q.b2 (q.l++[a])
  ·have H:q.b2<quarCells ((q.l++[a]).drop k) ((q.l++[a]).drop k).length:=yC G
   repeat'(first|refine gE ?_|refine Ci k rfl (by rw[I2];omega) (aR λ_=>rfl) I8 ?_)
   (exact dL (k+1) ω)
  obtain rfl:k=kw q.b2 (q.l++[a]):=ω
  have H:quarCells ((q.l++[a]).drop (kw q.b2 (q.l++[a]))) ((q.l++[a]).drop (kw q.b2 (q.l++[a]))).length<=q.b2:=Bg C.1 _
  repeat'(first|refine gE ?_|refine Ci (kw q.b2 (q.l++[a])) rfl (by rw[I2];omega) (aR λ_=>rfl) I8 ?_|refine CZ (kw q.b2 (q.l++[a])) rfl (by rw[I2];omega) (aR λ_=>rfl) C8 ?_|refine Cg (λ_=>rfl) (λ_=>rfl) ω qs ?_|refine CX (λ_=>rfl) (λ_=>rfl) ω qs ?_)
  rfl
def mi{z:Int}(h:0<=z/\z<512):IntKind.i64.wrap (z.tdiv 16)=z / 16:=(O1 _ (tdiv16 h.1)).trans (ij ω ω)
variable{E:List Int}{h:ac}
def pO(a:bo h E){o:aW}(b:o∈h.K):0<=o.Addr/\o.Addr<512:=by
 rcases a.oow o b with⟨s,c,⟨f,g,-⟩,-⟩|⟨l,d,e,-⟩
 ·have:=aT (a.L.sok s c);omega
 have:=bj (a.L.lok l d);omega
theorem Ka{k:Int}(h:0<=k/\k<=3):1<=csz k/\csz k<=8:=by grind [dx]
structure ZN(h:ac)(o:aW):Prop where
 cl:0<=aZ o.q/\aZ o.q<=3
 fr:0<=(ax h.G.F.R (o.Addr / 16)).g/\(ax h.G.F.R (o.Addr / 16)).g<h.G.F.V.U.length
 fit:o.Addr % 16+csz (aZ o.q)<=16
 row:(nth h.G.F.V.U (gc h.G o.Addr)).length=16
theorem ZN.of(a:bo h E){o:aW}(i:o∈h.K)(k:¬aZ o.q<0):ZN h o:=by
 obtain⟨⟨s,j,b,r⟩,t⟩:=(fA a i).2 k;have l:=aT (a.L.sok s j);have n:=pO a i;have u:s.S=o.Addr / 16:=by have w:=b.1;have y:=b.2.1;omega
 have c:(o.Addr / 16).toNat<(tbl h).M.length:=by have:=a.pg.bnd _ (fR (la:=h.H) j);omega
 have d:(((o.Addr / 16).toNat:Nat):Int)=o.Addr / 16:=ω
 have A:=(a.pg.own _ c).2 (by grind [fR]);have e:(ax h.G.F.R (o.Addr / 16)).o≠0:=by grind [pY,tbl]
 obtain⟨-,-,-,f,p⟩:=bV a.ker e;have q:=(bk.1 (aM.1 a.ker).2.1).2.2.1;have g:gc h.G o.Addr<h.G.F.V.U.length:=by unfold gc;omega
 refine⟨ω,⟨f,ω⟩,?_,a.lens.row _ (ay g)⟩;have B:=b.2.2.1
 grind [dx]
theorem Jp(h:ac)(a:Int)(b:gc h.G a<h.G.F.V.U.length):({h with G:=fG h.G a 0} : ac)=h:=by
 have e:h.G.F.V.U.set (gc h.G a) (nth h.G.F.V.U (gc h.G a))=h.G.F.V.U:=by
  refine List.ext_getElem? λi=>?_
  grind [au]
 unfold fG kh;rw[e]
def MK(h:ac)(a:Int)(k:Nat)(v:Int)(_:0<=a):bT {h with G:=fG h.G a (k+1)} = (bT {h with G:=fG h.G a k}).set 0 (.s .own (((fG h.G a k).F.V.U.map (aI .own)).set (ax h.G.F.R (a / 16)).g.toNat ((aI .own (kh (nth h.G.F.V.U (gc h.G a)) (a % 16).toNat k)).set 0 (.s .own (((kh (nth h.G.F.V.U (gc h.G a)) (a % 16).toNat k).map (rI .own)).set (a % 16+k).toNat (splice (rI .own v) 0 [I 0])))))):=by
 have e:(a % 16+k).toNat=(a % 16).toNat+k:=ω
 rw[e];simp[bT,fG,IC,kh,aI,splice,gc]
 rfl
theorem zM(t:Nat)(h:ac)(xs:List aK)(k:Nat)(a:k<xs.length):recycs t h ((xs.take (k+1)).map (·.Addr))=recyc t (recycs t h ((xs.take k).map (·.Addr))) (nth xs k).Addr:=by grind [SA,au,recycs]
theorem Ql(h:ac)(o:aW)(t:Nat)(a:bo h [])(M:o∈h.K)(ht:o.p=t)(hlc:h.Q.length<=4):zzB 186 false [.ptr (bT h),.vI (t:Nat),.vI o.Addr] [.ptr (bT (freeOb h t (lf h o.Addr)).1),.vI (t:Nat),.vI o.Addr] .one [I (freeOb h t (lf h o.Addr)).2]:=by
 obtain⟨g,w,B⟩:=a.objAt M;have b:=pO a M;have hon:=a.onu o M;have C:=a.lens;have hno:=C.objs;have N:t<h.Q.length:=ω
 have K:=aU (t:Nat) 0 (h.Q.length - 1:Int);rw[O0 ω]at K;have D:=wy h o.Addr ω;rw[B]at D;generalize lf h o.Addr=i at g w D;subst w;have p:=au g;have O:=ny (nth h.K i).q;unfold freeOb;have P:=bq a.ker;have W:=dO h.G.F.R ((nth h.K i).Addr / 16) P.1.2;by_cases r:aZ (nth h.K i).q<0
 ·rw[CK r]
  have c3:=vp h i a g r;refine fM 148 [(330,[2,0]),(332,[2,0]),(334,[2,0,0]),(329,[2,0])] [(15,269,[68,69,70,71,72,73,74,75,77,67,78,79,11,0,1,2,3,4,5,6,7,13,8,1000,1001,1002,1003,1004,1013,9,10,11,12,14,1012,15]),(22,15,[92,93,94,95,96,97,98,99,100,101,102,103,104,105,106]),(25,271,[116,117,118,119,120,121,122,123,124,125,127,115,128,129,14,0,1,2,3,4,5,6,7,8,9,15,10,1000,1001,1002,1003,1015,11,12,13,14,16,1014,17])] [(0,0),(0,0),(0,0)] Tryz.func186 rfl (λu q=>?_)
  repeat'(first|refine gE ?_|refine gS (λj=>?_) (λj=>?_)|refine CN (D) ⟨⟨rfl,bY h⟩,⟨rfl,rfl⟩,tV1⟩ ?_)
  exact ks
 rw[CJ r];obtain⟨Q,s2,s3,s4⟩:=ZN.of a (ay g) r;by_cases L:(ax (tbl h) ((nth h.K i).Addr / 16)).o=1
 ·rw[CK L]
  unfold tbl at L;refine fM 148 [(330,[2,0]),(332,[2,0]),(334,[2,0,0]),(329,[2,0])] [(15,269,[68,69,70,71,72,73,74,75,77,67,78,79,11,0,1,2,3,4,5,6,7,13,8,1000,1001,1002,1003,1004,1013,9,10,11,12,14,1012,15]),(22,15,[92,93,94,95,96,97,98,99,100,101,102,103,104,105,106]),(25,271,[116,117,118,119,120,121,122,123,124,125,127,115,128,129,14,0,1,2,3,4,5,6,7,8,9,15,10,1000,1001,1002,1003,1015,11,12,13,14,16,1014,17])] [(0,0),(0,0),(0,0)] Tryz.func186 rfl (λu q=>?_)
  repeat'(first|refine gB ?_|refine gS (λj=>?_) (λj=>?_)|refine CU qs ?_|refine CT (mi b) ?_|refine CN (D) ⟨⟨rfl,bY h⟩,⟨rfl,rfl⟩,tV1⟩ ?_|refine CN (W) ⟨⟨rfl,Cm _⟩,⟨rfl,rfl⟩,tV1⟩ ?_)
  exact ks
 rw[CJ L];unfold tbl at L;have E:gc h.G (nth h.K i).Addr<h.G.F.V.U.length:=by unfold gc;omega
 have hcz:=Ka Q;have l:=a.inQuar g r;have F:=fF (aZ (nth h.K i).q);refine fM 148 [(330,[2,0]),(332,[2,0]),(334,[2,0,0]),(329,[2,0])] [(15,269,[68,69,70,71,72,73,74,75,77,67,78,79,11,0,1,2,3,4,5,6,7,13,8,1000,1001,1002,1003,1004,1013,9,10,11,12,14,1012,15]),(22,15,[92,93,94,95,96,97,98,99,100,101,102,103,104,105,106]),(25,271,[116,117,118,119,120,121,122,123,124,125,127,115,128,129,14,0,1,2,3,4,5,6,7,8,9,15,10,1000,1001,1002,1003,1015,11,12,13,14,16,1014,17])] [(0,0),(0,0),(0,0)] Tryz.func186 rfl (λu q=>?_)
 repeat'(first|refine gB ?_|refine gS (λj=>?_) (λj=>?_)|refine CU qs ?_|refine CT (mi b) ?_|refine CN (D) ⟨⟨rfl,bY h⟩,⟨rfl,rfl⟩,tV1⟩ ?_|refine CN (W) ⟨⟨rfl,Cm _⟩,⟨rfl,rfl⟩,tV1⟩ ?_)
 rw[show bT h=bT {h with G:=fG h.G (nth h.K i).Addr 0} by rw[Jp h _ E]]
 (conv=>whnf)
 refine lp0 ((csz (aZ (nth h.K i).q)).toNat) (λk=>[(0,bX (bT {h with G:=fG h.G (nth h.K i).Addr k})),(1,fN t),(2,fI ((nth h.K i).Addr)),(7,fN i),(8,bX (aW.enc .own (nth h.K i))),(9,fI (aZ (nth h.K i).q)),(10,bX (aS.enc .own (ax h.G.F.R ((nth h.K i).Addr / 16)))),(13,fN k)]) λk hk=>?_
 have X:IntKind.i64.wrap 0=0:=rfl;have R:(nth h.K i).Addr.tmod 16=(nth h.K i).Addr % 16:=fH b.1;have n:(fG h.G (nth h.K i).Addr k).F.V.U[(ax h.G.F.R ((nth h.K i).Addr / 16)).g.toNat]? = some (kh (nth h.G.F.V.U (gc h.G (nth h.K i).Addr)) ((nth h.K i).Addr % 16).toNat k):=I6 E;by_cases S:k<(csz (aZ (nth h.K i).q)).toNat
 ·have G:=au (xs:=kh (nth h.G.F.V.U (gc h.G (nth h.K i).Addr)) ((nth h.K i).Addr % 16).toNat k) (i:=((nth h.K i).Addr % 16+k).toNat) (by grind [q9])
  repeat'(first|refine gE ?_|refine CU qs ?_|refine CY R ?_|refine CS s2.1 (aa n) ?_|refine CS ω (aa G) ?_|refine Pu.two rfl rfl (aa n) rfl rfl rfl (aa G) rfl (z5 _) (MK h _ k _ b.1) ?_)
  (exact dL (k+1) ω)
 obtain rfl:k=(csz (aZ (nth h.K i).q)).toNat:=ω
 have c5:=ry {h with G:=fG h.G (nth h.K i).Addr (csz (aZ (nth h.K i).q)).toNat} i g ψ;have d:=a.nums;unfold cU at d;rw[C0]at d;have H:=(a.dropO g (kX.any (c:=aZ (nth h.K i).q) (by obtain⟨⟨s,hs,k1,k2⟩,-⟩:=(fA a (ay g)).2 r;exact⟨s,hs,k1,.inr k2⟩))).nd;rw[List.cons_append,List.nil_append]at H;have Y:=HJ h.r (kN h (nth h.K i)) (by grind [nB.quar]) a.quar ⟨Q.1,Q.2,b.1,d.2.2.1⟩ (λy Z=>a.snc y Z) (λy Z e=>(List.nodup_cons.1 H).1 (by rw[show(nth h.K i).Addr=y.Addr from e.symm];grind [holders]));unfold VG at Y;have T:(y6 h.r (kN h (nth h.K i))).length<=513:=by grind [nB.quar,y6]
 repeat'(first|refine gB ?_|refine gS (λj=>?_) (λj=>?_)|refine CN (Y) ⟨⟨rfl,aY.enc_fz h.r⟩,⟨rfl,rfl⟩,tV1⟩ ?_)
 have U:Q2 h t i=recycs t (inQuar h i) ((y6 h.r (kN h (nth h.K i))).map (·.Addr)):=rfl;simp only;rw[U];have hqn:(inQuar h i).Q.length=h.Q.length:=rfl;generalize y6 h.r (kN h (nth h.K i))=out at l T
 (conv=>whnf)
 refine lp0 out.length (λk=>[(0,bX (bT (recycs t (inQuar h i) ((out.take k).map (·.Addr))))),(1,fN t),(15,b8 (bJ .own out)),(16,fN k)]) λk hk=>?_
 by_cases S:k<out.length
 ·have J:=au S
  have hsp:out.map (·.Addr)=(out.take k).map (·.Addr)++(nth out k).Addr::(out.drop (k+1)).map (·.Addr):=by grind [List.take_append_drop,hB]
  have V:bo (recycs t (inQuar h i) ((out.take k).map (·.Addr))) ((nth out k).Addr::(out.drop (k+1)).map (·.Addr)):=bo.recycs ψ N;have c7:=sH _ _ t _ V (by grind [gJ])
  refine σE ?_
  (refine CQ (k+1) ω ω ?_)
  rw[zM t _ out k S];exact wB
 obtain rfl:k=out.length:=ω
 rw[S9]
 refine σE ?_
 exact ks
def oE(rows:List (List C)):C:=match rows with|[]=>.s .O []|_=>.s .own rows
theorem tg(h:rows≠[]):oE rows=.s .own rows:=by cases rows with|nil=>exact absurd rfl h|cons=>rfl
variable{P:Program}
theorem xM(w:World)(t e k:Nat)(z:Value)(h:P.underlying t=some (.slice e))(i:∀w,(zeroValue e).run P w=.ok z w)(l:z.cells.size=k)(h1:∀v∈z.cells.toList,v.oneCell'=true)(b o n:Nat)(q:0<n)(p:0<k)(r:∀j,j<n*k->(w.cell? ⟨b,o+j,none⟩).isSome=true)(u:∀j,j<n*k->w.frozen? ⟨b,o+j,none⟩ = false) :
  ∃g:List Value,g.length=n*k/\(∀v∈g,v.oneCell'=true)/\∀(ty:TypeId)(c:Nat),(Builtin.clear_ #[t] ty #[.slice (some ⟨b,o,none⟩) n c]).run P w=.ok (.tuple #[]) (w.setCells b o g):=by
 subst l;have d:(Builtin.zeroCells z.cells n).toList.length=n*z.cells.size:=by grind [Go.Builtin.zeroCells]
 have a:∀v∈(Builtin.zeroCells z.cells n).toList,v.oneCell'=true:=by grind [Nat.mod_lt,Go.Builtin.zeroCells]
 refine⟨_,d,a,λty c=>?_⟩;have f:=run_storeCells_cells (P:=P) b o (Builtin.zeroCells z.cells n).toList 0 w ψ ψ a;simp only[Nat.add_zero]at f;obtain⟨m,rfl⟩ : ∃m,n=m+1:=⟨n - 1,ω⟩
 simp[Builtin.clear_,run_underlying h,i,f]
structure mr(w w':World)(g k n i:Nat):Prop where
 keep:bM (λb o=>b=g/\o<n*k) w w'
 lo:∀q,q<i*k->cel w' g q=cel w g q
 mid:∀q,i*k<=q->q<(n - 1)*k->cel w' g q=cel w g (q+k)
 hi:∀q,(n - 1)*k<=q->q<n*k->∃z,cel w' g q=some z/\z.oneCell'=true
 fro:∀b q,fro w' b q=fro w b q
variable{w:World}
theorem bM.up{M a:am}{c:World}(h:bM M w c)(d:∀b o,M b o->a b o):bM a w c:=(Cn a w).trans h ψ
def Bz(w:World):bM NO w w.drew:=⟨rfl,rfl,rfl,z5 _,λ_ _ _=>rfl,λ_ _ _ _=>rfl,λ_ _ _ _=>rfl⟩
variable{news:List Value}{n:Nat}
theorem TO{k:Nat}{d:List Value}(l:i<n)(e:∀q,q<n*k->∃z,cel w g q=some z)(H:news.length=(n - (i+1))*k)(c:∀t u,news[t]? = some u->cel w g ((i+1)*k+t)=some u)(J:d.length=k)(p:∀v∈d,v.oneCell'=true) :
  mr w ((w.drew.setCells g (i*k) news).setCells g ((n - 1)*k) d) g k n i:=by
 have K:i*k+(n - (i+1))*k=(n - 1)*k:=by rw[<-Nat.add_mul];congr 1;omega
 have L:(n - 1)*k+k=n*k:=by rw[show(n - 1)*k+k=(n - 1+1)*k by rw[Nat.add_mul,Nat.one_mul]];congr 1;omega
 have M:(i+1)*k=i*k+k:=ψ
 have r:∀b q,cel w.drew b q=cel w b q:=λ_ _=>rfl
 have a:∀j,j<news.length->∃z,cel w.drew g (i*k+j)=some z:=λj y=>by rw[r];exact e _ ω
 have A:∀q,q<n*k->∃z,cel (w.drew.setCells g (i*k) news) g q=some z:=λq B=>by
  by_cases h:i*k<=q/\q<i*k+news.length
  ·have:=bA a (z4 (show q - i*k<news.length by omega))
   grind
  grind [bt]
 refine⟨?_,λq B=>?_,λq C D=>?_,λq C D=>?_,λb q=>?_⟩
 ·have E:=fC (g:=g) (X:=λb o=>b=g/\o<n*k) news (i*k) w.drew ω
  have F:=fC (g:=g) (X:=λb o=>b=g/\o<n*k) d ((n - 1)*k) (w.drew.setCells g (i*k) news) ω;exact((Bz w).up λ_ _ h=>h.elim).trans (E.trans F λ_ _ h=>.inr h) λ_ _ h=>.inr h
 ·grind [bt]
 ·rw[bt ω]
  obtain⟨u,f⟩ : ∃u,news[q - i*k]? = some u:=⟨_,z4 ω⟩
  have G:=bA a f;have N:=c _ u f
  grind
 ·obtain⟨u,f⟩ : ∃u,d[q - (n - 1)*k]? = some u:=(ψ)
  have G:=bA (w:=w.drew.setCells g (i*k) news) (o:=(n - 1)*k) (vs:=d) (λj y=>A _ ω) f
  grind
 rw[cm,cm];rfl
def Z3(rows:List (List C)):Prop:=∀r∈rows,∀c∈r,∃z,c=.v z
def yD(P:Program)(f k:Nat):Prop:=PG P f/\∀(w:World)(g n a i:Nat)(news:List Value),i<n->n<=a->news.length=(n - (i+1))*k->(∀t u,news[t]? = some u->cel w g ((i+1)*k+t)=some u)->(∀u∈news,u.oneCell'=true)->
 (∀q,q<n*k->(w.cell? ⟨g,q,none⟩).isSome=true/\w.frozen? ⟨g,q,none⟩ = false)->
 Calls P f #[.slice (some ⟨g,0,none⟩) n a,.int .i64 i,.int .i64 ((i+1:Nat):Int)] w λe c=>e=.returned (.slice (some ⟨g,0,none⟩) (n - 1) a)/\∃b:List Value,b.length=k/\(∀v∈b,v.oneCell'=true)/\c=(w.drew.setCells g (i*k) news).setCells g ((n - 1)*k) b
variable{f:Nat}
theorem EA{k:Nat}(hf:yD P f k)(hi:i<rows.length)(hk:∀r∈rows,r.length=k)(T:Jm rows) :
  aX P f false [.mut none [.s .own rows],.vI (i:Nat),.vI ((i+1:Nat):Int)] [.mut none [.x],.vI (i:Nat),.vI ((i+1:Nat):Int)] .one [oE (dele rows i)]:=by
 refine⟨hf.1,λw S V vs hS hV hVV U=>?_⟩
 match vs,U with
 | [v,v1,v2],⟨U,W,X,_⟩=>
  have l:=(bD.rep1 (show bD w S (V 0) none [C.s .own rows] v from U)).fresh ⟨.inl (λe=>by cases e),T⟩;have e1:v1=.int .i64 (i:Nat):=by
   have:=bD.rep1 (show bD w S NO none [C.v (.int .i64 (i:Nat))] v1 from W);cases this;rfl
  have e2:v2=.int .i64 ((i+1:Nat):Int):=by
   have:=bD.rep1 (show bD w S NO none [C.v (.int .i64 ((i+1:Nat):Int))] v2 from X);cases this;rfl
  subst e1 e2;have J:(dele rows i).length=rows.length - 1:=by grind [dele]
  generalize B:C.s .own rows=cc at l;cases l with
  | nil _ o a Y=>grind
  | suf _ o g off k n j rows u f Y=>cases B;exact Y.elim
  | own _ o g d n j Z u f' Y hn D p hpos hF hu hff hd hc=>
   cases B;have hkk:d=k:=by rw[<-D _ (List.getElem_mem hi),<-hk _ (List.getElem_mem hi)]
   subst hkk;have hnk:n*d<=j*d:=SE _ p;have hone:∀q,q<j*d->∃z,cel w g q=some z/\z.oneCell'=true:=ψ
   have e3:(i+1)*d+(n - (i+1))*d=n*d:=by rw[<-Nat.add_mul];congr 1;omega
   obtain⟨news,K,L,hn1⟩ : ∃news:List Value,news.length=(n - (i+1))*d/\(∀t u,news[t]? = some u->cel w g ((i+1)*d+t)=some u)/\∀u∈news,u.oneCell'=true:=by
    refine⟨(List.range ((n - (i+1))*d)).map λt=>(cel w g ((i+1)*d+t)).getD undef,by simp,λt y ht=>?_,λy hy=>?_⟩
    all_goals grind
   refine(hf.2 w g n j i news ω p K L hn1 (λq E=>?_)).mono λe A ⟨he,zs,z1,z2,hw'⟩=>?_
   ·grind
   have R:=TO (w:=w) (by omega:i<n) ψ K L z1 z2;rw[<-hw']at R;have hgV:∀q,q<j*d->V 0 g q:=ψ
   have F:bM (λb o=>∃i,V i b o) w A:=R.keep.up ψ;have e4:(n - 1)*d+d=n*d:=by rw[show(n - 1)*d+d=(n - 1+1)*d by rw[Nat.add_mul,Nat.one_mul]];congr 1;omega
   have G:∀q,q<j*d->∃z,cel A g q=some z/\z.oneCell'=true:=λq E=>by
    by_cases h1:q<i*d
    ·grind [mr.lo]
    by_cases h2:q<(n - 1)*d
    ·rw[R.mid q ω h2];grind
    grind [mr.hi,bM.cel,mr.keep]
   have M:cD A NO (V 0) [oE (dele rows i)] (λ_=>.slice (some ⟨g,0,none⟩) (n - 1) j):=by
    refine row1 ?_;by_cases hz:dele rows i=[]
    ·rw[hz]
     have hn0:n - 1=0:=ψ
     rw[hn0];exact .O _ g 0 d 0 j [] (λ_=>undef) rfl ψ (I1 _) ω ψ
    rw[tg hz];have H:0<n - 1:=ψ
    obtain⟨σ,hσ⟩ : ∃σ:Nat->Nat,∀q,σ q=if q<i*d then q else q+d:=⟨_,λ_=>rfl⟩
    have s1:∀q,q<(n - 1)*d->σ q<n*d:=ψ
    have s2:∀q q',q≠q'->σ q≠σ q':=ψ
    have s3:∀q,q<(n - 1)*d->cel A g q=cel w g (σ q):=λq E=>by grind [mr.lo,mr.mid]
    refine .own _ .own g d (n - 1) j _ (λq=>(cel A g q).getD undef) (λq=>f' (σ q)) tV1 (by rw[J];omega) (λr hr=>D r ((gC ..).subset hr)) ω H (λq E=>⟨hgV q E,G q E,(R.fro g q).trans (hF q E).2.2⟩) (λq E=>?_) ψ ψ (λa b r c N hb=>?_)
    ·grind
    have hbk:b<d:=by grind [gC]
    have hal:=(C4.1 N).1;rw[J]at hal;have hflat:a*d+b<(n - 1)*d:=cL ω hbk;obtain⟨O,h5,h6⟩ : ∃O,rows[O]? = some r/\σ (a*d+b)=O*d+b:=by
     rw[hσ];unfold dele at N;by_cases h1:a<i
     ·grind [I3,cL]
     rw[v9 ψ,I3,List.getElem?_drop]at N;rw[show i+1+(a - min i rows.length)=a+1 by omega]at N;have:i*d<=a*d:=SE _ ω;refine⟨a+1,N,?_⟩;rw[CJ ω,Nat.add_mul,Nat.one_mul];omega
    have h7:=hc O b r c h5 hb;have Q:=qa hn D h5 hb;have hfl:=cL Q.1 Q.2;have h8:(cel A g (a*d+b)).getD undef=u (O*d+b):=ψ
    show dw A NO (f' (σ (a*d+b))) c ((cel A g (a*d+b)).getD undef);rw[h8,h6];refine h7.keep (λ_ _ h=>h.elim) λb' o' hb'=>?_
    grind [bM.cel,mr.keep,mr.fro]
   exact⟨_,he,F,V 0,λ_=>NO,NO,ψ,λ_ _ _ h=>h.elim,λ_ _ h=>h.elim,λ_ _ _ _ _ h=>h.elim,λ_ _ _ _ h=>h.elim,λ_ _ _ h=>h.elim,λ_ _ _ h=>h.elim,rfl,M,⟨⟨rfl,λ_=>.slice (some ⟨g,0,none⟩) n j,rfl,row1 (.x _ _ rfl)⟩,tV1,tV1,tV1⟩⟩
  | _=>cases B
set_option maxRecDepth 100000
theorem xl{cap k:Nat}(d:news.length=(n - (i+1))*k)(a:n<=cap)(b:i<n)(h:∀t u,news[t]? = some u->cel w g ((i+1)*k+t)=some u):∃A:Addr,(if cap=i+1 then some (⟨g,0,none⟩ : Addr) else some ⟨g,(i+1)*k,none⟩)=some A/\∀t u,news[t]? = some u->w.drew.cell? (A.add t)=some u:=by
 by_cases e:cap=i+1
 ·simp_all
 refine⟨⟨g,(i+1)*k,none⟩,by simp[e],λt u c=>?_⟩;rw[Addr.add_lit];exact h t u c
def W5:∀w,(zeroValue 110).run Tryz.prog w=.ok (.agg #[.int .i64 0,.int .i64 0,.int .i64 0,.int .i64 0]) w:=λ_=>by kernel_rfl
theorem PM:yD Tryz.prog 255 4:=by
 refine⟨⟨_,Tryz.func255,by kernel_rfl,by kernel_rfl⟩,λw g n c i news p r l y B b=>?_⟩;obtain⟨A,U,a⟩:=xl l r p y;have a:Hid (∀t u,news[t]? = some u->w.drew.cell? (A.add t)=some u):=a;have R:Hid (news.length=(n - (i+1))*4):=l;have V:Hid (∀u∈news,u.oneCell'=true):=B;have W:Hid (∀t,t<news.length->(w.drew.cell? ⟨g,0+i*4+t,none⟩).isSome=true/\w.drew.frozen? ⟨g,0+i*4+t,none⟩ = false):=λt ht=>by
  rw[CE];exact b (i*4+t) ω
 obtain⟨o,d⟩ : ∃o,o=w.drew.setCells g (0+i*4) news:=⟨_,rfl⟩
 have X:∀q,q<n*4->(o.cell? ⟨g,q,none⟩).isSome=true/\o.frozen? ⟨g,q,none⟩ = false:=λq S=>by
  have C:∀j,j<news.length->∃z,cel w.drew g (0+i*4+j)=some z:=λj Y=>by
   have:=(b (0+i*4+j) ω).1;exact Option.isSome_iff_exists.1 this
  refine⟨?_,by rw[d];exact(O1 Prod.fst (cm g _ news w.drew g q)).trans (b q S).2⟩;rw[d];by_cases h:0+i*4<=q/\q<0+i*4+news.length
  ·have:=bA C (z4 (show q - (0+i*4)<news.length by omega))
   grind
  show(cel _ g q).isSome=true;rw[bt (λx=>h x.2)];exact(b q S).1
 obtain⟨K,D,E,F⟩:=xM (P:=Tryz.prog) o 70 110 4 (.agg #[.int .i64 0,.int .i64 0,.int .i64 0,.int .i64 0]) Tryz.underlying70 W5 rfl (by intro v T;simp[Value.cells]at T;subst T;rfl) g ((i+(n - (i+1)))*4) (n - (i+(n - (i+1)))) ω qs ψ ψ;have G:Hid (K.length=(n - (i+(n - (i+1))))*4):=D;have H:Hid (∀v∈K,v.oneCell'=true):=E;have Z:Hid (o=w.drew.setCells g (0+i*4) news):=d;have hic:i<=c:=ω
 have L:i+1<=c:=ω
 have M:¬i=i+1:=ω
 have N:i+1<=n:=p;have k:n - 1=i+(n - (i+1)):=ω
 clear d X b y B l D E;rw[k];generalize Y:i+1=j at U a R F G L M N k |-;obtain⟨J,O,Q⟩ : ∃J,Tryz.prog.info? 110=some J/\J.size=4:=by
  have h:=(sR 110 _ rfl).1;cases e : Tryz.prog.info? 110 with
  | none=>grind
  | some x=>rw[e]at h;simp only[CA,C2,Prod.mk.injEq]at h;exact⟨x,rfl,h.2.1⟩
 have mixed : Tryz.prog.follows .mixedOrders=true:=by kernel_rfl
 go_enter Tryz.func255,Tryz.ntmps255
 go_wp2_with fail
 go_region_law_o (refine step_append_room rfl (.tmp 22) (.tmp 25) 70 rfl 110 J 4 Tryz.underlying70 O Q g 0 i c (by simp[Act.eval,Act.put]) A (n - j) (c - j) news (by simp[Act.eval,Act.put]) R.out a.out V.out ω W.out ?_;rw[<-Z.out])
 go_wp2
 go_ret
 refine⟨rfl,K,by grind [Go.RowKit.Hid.out],H.out,?_⟩
 grind [Go.RowKit.Hid.out]
theorem B0(xs:List aW)(i:Nat)(a:i<xs.length):zzB 255 false [.mut none [.s .own (xs.map (aW.enc .own))],.vI (i:Nat),.vI ((i+1:Nat):Int)] [.mut none [.x],.vI (i:Nat),.vI ((i+1:Nat):Int)] .one [oE ((dele xs i).map (aW.enc .own))]:=by
 have h:=EA PM (rows:=xs.map (aW.enc .own)) (i:=i) ψ (aR λ_=>rfl) (bg _ _ λx _=>aW.enc_fr x)
 grind [C8,I8,dele]
def Pd:∀w,(zeroValue 247).run Tryz.prog w=.ok (.agg #[.int .i64 0,.int .i64 0,.int .i64 0]) w:=λ_=>by kernel_rfl
theorem Jg:yD Tryz.prog 258 3:=by
 refine⟨⟨_,Tryz.func258,by kernel_rfl,by kernel_rfl⟩,λw g n c i news p r l y B b=>?_⟩;obtain⟨A,U,a⟩:=xl l r p y;have a:Hid (∀t u,news[t]? = some u->w.drew.cell? (A.add t)=some u):=a;have R:Hid (news.length=(n - (i+1))*3):=l;have V:Hid (∀u∈news,u.oneCell'=true):=B;have W:Hid (∀t,t<news.length->(w.drew.cell? ⟨g,0+i*3+t,none⟩).isSome=true/\w.drew.frozen? ⟨g,0+i*3+t,none⟩ = false):=λt ht=>by
  rw[CE];exact b (i*3+t) ω
 obtain⟨o,d⟩ : ∃o,o=w.drew.setCells g (0+i*3) news:=⟨_,rfl⟩
 have X:∀q,q<n*3->(o.cell? ⟨g,q,none⟩).isSome=true/\o.frozen? ⟨g,q,none⟩ = false:=λq S=>by
  have C:∀j,j<news.length->∃z,cel w.drew g (0+i*3+j)=some z:=λj Y=>by
   have:=(b (0+i*3+j) ω).1;exact Option.isSome_iff_exists.1 this
  refine⟨?_,by rw[d];exact(O1 Prod.fst (cm g _ news w.drew g q)).trans (b q S).2⟩;rw[d];by_cases h:0+i*3<=q/\q<0+i*3+news.length
  ·have:=bA C (z4 (show q - (0+i*3)<news.length by omega))
   grind
  show(cel _ g q).isSome=true;rw[bt (λx=>h x.2)];exact(b q S).1
 obtain⟨K,D,E,F⟩:=xM (P:=Tryz.prog) o 69 247 3 (.agg #[.int .i64 0,.int .i64 0,.int .i64 0]) Tryz.underlying69 Pd rfl (by intro v T;simp[Value.cells]at T;subst T;rfl) g ((i+(n - (i+1)))*3) (n - (i+(n - (i+1)))) ω qs ψ ψ;have G:Hid (K.length=(n - (i+(n - (i+1))))*3):=D;have H:Hid (∀v∈K,v.oneCell'=true):=E;have Z:Hid (o=w.drew.setCells g (0+i*3) news):=d;have hic:i<=c:=ω
 have L:i+1<=c:=ω
 have M:¬i=i+1:=ω
 have N:i+1<=n:=p;have k:n - 1=i+(n - (i+1)):=ω
 clear d X b y B l D E;rw[k];generalize Y:i+1=j at U a R F G L M N k |-;obtain⟨J,O,Q⟩ : ∃J,Tryz.prog.info? 247=some J/\J.size=3:=by
  have h:=(sR 247 _ rfl).1;cases e : Tryz.prog.info? 247 with
  | none=>grind
  | some x=>rw[e]at h;simp only[CA,C2,Prod.mk.injEq]at h;exact⟨x,rfl,h.2.1⟩
 have mixed : Tryz.prog.follows .mixedOrders=true:=by kernel_rfl
 go_enter Tryz.func258,Tryz.ntmps258
 go_wp2_with fail
 go_region_law_o (refine step_append_room rfl (.tmp 22) (.tmp 25) 69 rfl 247 J 3 Tryz.underlying69 O Q g 0 i c (by simp[Act.eval,Act.put]) A (n - j) (c - j) news (by simp[Act.eval,Act.put]) R.out a.out V.out ω W.out ?_;rw[<-Z.out])
 go_wp2
 go_ret
 refine⟨rfl,K,by grind [Go.RowKit.Hid.out],H.out,?_⟩
 grind [Go.RowKit.Hid.out]
theorem ye(xs:List aA)(i:Nat)(a:i<xs.length):zzB 258 false [.mut none [.s .own (xs.map (aA.enc .own))],.vI (i:Nat),.vI ((i+1:Nat):Int)] [.mut none [.x],.vI (i:Nat),.vI ((i+1:Nat):Int)] .one [oE ((dele xs i).map (aA.enc .own))]:=by
 have h:=EA Jg (rows:=xs.map (aA.enc .own)) (i:=i) ψ (aR λ_=>rfl) (bg _ _ λx _=>aA.enc_fr x)
 grind [C8,I8,dele]
def Uh:∀w,(zeroValue 197).run Tryz.prog w=.ok (.agg #[.int .i64 0,.int .i64 0,.int .i64 0]) w:=λ_=>by kernel_rfl
theorem Mf:yD Tryz.prog 390 3:=by
 refine⟨⟨_,Tryz.func390,by kernel_rfl,by kernel_rfl⟩,λw g n c i news p r l y B b=>?_⟩;obtain⟨A,U,a⟩:=xl l r p y;have a:Hid (∀t u,news[t]? = some u->w.drew.cell? (A.add t)=some u):=a;have R:Hid (news.length=(n - (i+1))*3):=l;have V:Hid (∀u∈news,u.oneCell'=true):=B;have W:Hid (∀t,t<news.length->(w.drew.cell? ⟨g,0+i*3+t,none⟩).isSome=true/\w.drew.frozen? ⟨g,0+i*3+t,none⟩ = false):=λt ht=>by
  rw[CE];exact b (i*3+t) ω
 obtain⟨o,d⟩ : ∃o,o=w.drew.setCells g (0+i*3) news:=⟨_,rfl⟩
 have X:∀q,q<n*3->(o.cell? ⟨g,q,none⟩).isSome=true/\o.frozen? ⟨g,q,none⟩ = false:=λq S=>by
  have C:∀j,j<news.length->∃z,cel w.drew g (0+i*3+j)=some z:=λj Y=>by
   have:=(b (0+i*3+j) ω).1;exact Option.isSome_iff_exists.1 this
  refine⟨?_,by rw[d];exact(O1 Prod.fst (cm g _ news w.drew g q)).trans (b q S).2⟩;rw[d];by_cases h:0+i*3<=q/\q<0+i*3+news.length
  ·have:=bA C (z4 (show q - (0+i*3)<news.length by omega))
   grind
  show(cel _ g q).isSome=true;rw[bt (λx=>h x.2)];exact(b q S).1
 obtain⟨K,D,E,F⟩:=xM (P:=Tryz.prog) o 68 197 3 (.agg #[.int .i64 0,.int .i64 0,.int .i64 0]) Tryz.underlying68 Uh rfl (by intro v T;simp[Value.cells]at T;subst T;rfl) g ((i+(n - (i+1)))*3) (n - (i+(n - (i+1)))) ω qs ψ ψ;have G:Hid (K.length=(n - (i+(n - (i+1))))*3):=D;have H:Hid (∀v∈K,v.oneCell'=true):=E;have Z:Hid (o=w.drew.setCells g (0+i*3) news):=d;have hic:i<=c:=ω
 have L:i+1<=c:=ω
 have M:¬i=i+1:=ω
 have N:i+1<=n:=p;have k:n - 1=i+(n - (i+1)):=ω
 clear d X b y B l D E;rw[k];generalize Y:i+1=j at U a R F G L M N k |-;obtain⟨J,O,Q⟩ : ∃J,Tryz.prog.info? 197=some J/\J.size=3:=by
  have h:=(sR 197 _ rfl).1;cases e : Tryz.prog.info? 197 with
  | none=>grind
  | some x=>rw[e]at h;simp only[CA,C2,Prod.mk.injEq]at h;exact⟨x,rfl,h.2.1⟩
 have mixed : Tryz.prog.follows .mixedOrders=true:=by kernel_rfl
 go_enter Tryz.func390,Tryz.ntmps390
 go_wp2_with fail
 go_region_law_o (refine step_append_room rfl (.tmp 22) (.tmp 25) 68 rfl 197 J 3 Tryz.underlying68 O Q g 0 i c (by simp[Act.eval,Act.put]) A (n - j) (c - j) news (by simp[Act.eval,Act.put]) R.out a.out V.out ω W.out ?_;rw[<-Z.out])
 go_wp2
 go_ret
 refine⟨rfl,K,by grind [Go.RowKit.Hid.out],H.out,?_⟩
 grind [Go.RowKit.Hid.out]
theorem Mj(xs:List aC)(i:Nat)(a:i<xs.length):zzB 390 false [.mut none [.s .own (xs.map (aC.enc .own))],.vI (i:Nat),.vI ((i+1:Nat):Int)] [.mut none [.x],.vI (i:Nat),.vI ((i+1:Nat):Int)] .one [oE ((dele xs i).map (aC.enc .own))]:=by
 have h:=EA Mf (rows:=xs.map (aC.enc .own)) (i:=i) ψ (aR λ_=>rfl) (bg _ _ λx _=>aC.enc_fr x)
 grind [C8,I8,dele]
theorem G0(c:aB)(k:Nat)(a:Int)(g:bL c=true)(y:k<=3):zzA 270 false [.val (some 1) (aB.enc .O c),.vI (k:Nat),.vI a] (.tup [some 1,none]) (Ey c k a):=by
 obtain⟨B,q⟩:=f9 g;have r:aB.sml c:=⟨ω,λl u=>by have:=q l u;show l.length<=1048576;omega⟩
 have h:=wH c k r;rw[g,O0 ω]at h;have t:=kF c r;have j:=Np g k a;have n:=rm (oI c k a) j;have b:=nP (c:=c) (k:=k) ω;have w:=q _ (ay (xs:=c.X) (i:=k) ω);have o:=Cp (oI c k a);rw[ER]at o;have d:=La c k a;unfold Ey at d |-;cases e:bL (oI c k a)<;>rw[e]at n
 ·have p:cput c k a=none:=by grind [cput]
  rw[p]at d |-;refine fO 35 [(4,267,[17,18,19,20,21,22,23,24,25,26,28,0,1,2,3,4,5,6,7,8,9,10,1000,1001,1002,11,12])] Tryz.func270 rfl ?_ (.inr d)
  repeat'(first|refine gP ?_|refine CI (bZ b) ?_|refine CM rfl (bZ b) rfl ?_|refine Cj rfl rfl (aa b) rfl (O2 rfl) rfl rfl ?_|refine CR rfl rfl (bZ b) rfl (O2 rfl) (show [C.s eS.own ((c.X.map (aI .own)).set k (aI .own (nth c.X k++[a])))]=_ from by simp only[List.set_cons_zero,List.set_set,O4];rfl) ?_|refine Cf (aR λ_=>rfl) rfl kd qs (eL _ _ _) ?_|refine CN (n) ⟨⟨rfl,o⟩,tV1⟩ ?_)
  rfl
 have p:cput c k a=some (oI c k a):=by grind [cput]
 rw[p]at d |-;rw[show(some (oI c k a)).getD c=oI c k a from rfl,ER]at d |-;refine fO 35 [(4,267,[17,18,19,20,21,22,23,24,25,26,28,0,1,2,3,4,5,6,7,8,9,10,1000,1001,1002,11,12])] Tryz.func270 rfl ?_ (.inr d)
 repeat'(first|refine gP ?_|refine CI (bZ b) ?_|refine CM rfl (bZ b) rfl ?_|refine Cj rfl rfl (aa b) rfl (O2 rfl) rfl rfl ?_|refine CR rfl rfl (bZ b) rfl (O2 rfl) (show [C.s eS.own ((c.X.map (aI .own)).set k (aI .own (nth c.X k++[a])))]=_ from by simp only[List.set_cons_zero,List.set_set,O4];rfl) ?_|refine Cf (aR λ_=>rfl) rfl kd qs (eL _ _ _) ?_|refine CN (n) ⟨⟨rfl,o⟩,tV1⟩ ?_)
 rfl
theorem PH(c:Nat)(W:World):Calls Tryz.prog 274 #[.slice none 0 c] W λe g=>∃B q h,e=.returned (.slice B 0 0)/\g=Sort.grow (W.drewN q) h:=by
 have q22:∀(w:World)(a:Option Addr)(n c b d:Nat),(binOp .eql 75 (.slice a n c) (.slice none b d)).run Tryz.prog w=.ok (.bool a.isNone) w:=λw a n c b d=>Lib.run_eql_slice_nil w _ _ a n c b d Tryz.underlying75
 go_enter Tryz.func274,Tryz.ntmps274
 go_wp2
 go_ret
 exact⟨none,0,#[],rfl,by simp[Sort.grow,World.drewN]⟩
theorem KT(a:Addr)(c:Nat)(W:World):Calls Tryz.prog 274 #[.slice (some a) 0 c] W λe g=>∃B q h,e=.returned (.slice B 0 0)/\g=Sort.grow (W.drewN q) h:=by
 have q22:∀(w:World)(a:Option Addr)(n c b d:Nat),(binOp .eql 75 (.slice a n c) (.slice none b d)).run Tryz.prog w=.ok (.bool a.isNone) w:=λw a n c b d=>Lib.run_eql_slice_nil w _ _ a n c b d Tryz.underlying75
 go_enter Tryz.func274,Tryz.ntmps274
 go_wp2
 go_ret
 exact⟨some ⟨W.heap.size,0,none⟩,0,#[.cells #[] 142],rfl,by rw[Sort.alloc_eq_grow];rfl⟩
theorem nC(xs:List aK)(o:xs.length<=1048576):zzA 274 false [.val none (bJ .O xs)] .one (bJ .own xs):=by
 by_cases c:xs=[]
 ·subst c
  refine⟨⟨_,Tryz.func274,by kernel_rfl,by kernel_rfl⟩,λw S p t d=>?_⟩
  match p,d with
  | [v],⟨d,_⟩=>
   have b:=bD.rep1 (show bD w S NO none [C.s .O []] v from d);obtain⟨l,g,rfl⟩:=b.slice;have r:Calls Tryz.prog 274 #[.slice l 0 g] w λe n=>∃B q i,e=.returned (.slice B 0 0)/\n=Sort.grow (w.drewN q) i:=by
    cases l with
    | none=>grind [PH]
    | some a=>grind [KT]
   refine r.mono λe n ⟨B,q,i,c,j⟩=>?_
   subst j;exact⟨.slice B 0 0,c,Dg w q i,NO,NO,λ_ _ h=>h.elim,λ_ _ h=>h.elim,λ_ _ h=>h.elim,rfl,row1 (.nil _ .own B tV1)⟩
 have k:xs.map (aK.enc .O)≠[]:=by simp_all
 refine fO 8 [] Tryz.func274 rfl ?_ (.inr (mh _))
 repeat'(first|refine gP ?_|refine Nn.mk k ?_|refine CX (λ_=>rfl) (λ_=>rfl) o qs ?_)
 rfl
theorem Jf(q:aY)(a:aK)(u:q.l.length<=4096)(g:ir q=true)(w:0<=a.Z/\a.Z<=3/\0<=a.Addr/\0<=a.a9)(B:∀y∈q.l,y.a9<=a.a9)(C:∀y∈q.l,y.Addr≠a.Addr) :
  zzA 262 false [.val (some 2) (aY.enc .O q),.val (some 3) (aK.enc .O a)] (.tup [some 2,none]) (VG q a):=by
 have b:aY.sml q:=⟨ω,λ_ _=>tV1⟩
 have l:=pN q b;have h:=uy q b;rw[g]at h;have i:=yd q.l a ω;have D:q.l.length=0\/(nth q.l (q.l.length - 1)).a9<=a.a9:=by grind [ay]
 have d:pz q.l a=true:=by grind [pz,fY]
 rw[d]at i;have n:=(jO.1 g).2.2.2;have e:=QJ q a;have c:=Dt q.b2 (q.l++[a]);simp only[I5,List.length_singleton]at c;have E:(q.l++[a]).length=q.l.length+1:=by simp
 refine fO 51 [(6,7,[28,29,30,31,32,33,34])] Tryz.func262 rfl ?_ (.inr e)
 repeat'(first|refine gP ?_|refine Cf (aR λ_=>rfl) rfl kd qs (eL (aK.enc .own) q.l a) ?_)
 refine Lp.fz 6 (ι:=Nat) (λk=>[(2,bX (aY.enc .O q)),(4,bX [I 0,.z]),(6,bX (aY.enc .O ⟨q.b2,q.l++[a]⟩)),(7,fN k)]) (λk=>k<=kw q.b2 (q.l++[a])) (λk=>kw q.b2 (q.l++[a]) - k) 0 ?_ (I1 _) λk F=>?_
 ·(repeat'(first|exact tV1|rfl|exact CL rfl (show Tl (du (aY.enc .own ⟨q.b2,q.l++[a]⟩)) (aY.enc .O ⟨q.b2,q.l++[a]⟩) by rw[aY.enc_fz];exact lX _)|refine CL ?_ ?_))
 have o:((q.l++[a]).drop k).length<=5000:=ψ
 have p:((q.l++[a]).take k).length<=5000:=ψ
 have j:=ur ((q.l++[a]).drop k) ⟨ω,λ_ _=>tV1⟩;by_cases r:k<kw q.b2 (q.l++[a])
 ·have t:q.b2<quarCells ((q.l++[a]).drop k) ((q.l++[a]).drop k).length:=yC r
  repeat'(first|refine gE ?_|refine Ci k rfl (by rw[I2];show k<=(q.l++[a]).length;omega) (aR λ_=>rfl) I8 ?_)
  (exact dL (k+1) ω)
 obtain rfl:k=kw q.b2 (q.l++[a]):=ω
 have t:quarCells ((q.l++[a]).drop (kw q.b2 (q.l++[a]))) ((q.l++[a]).drop (kw q.b2 (q.l++[a]))).length<=q.b2:=Bg n.1 _
 repeat'(first|refine gE ?_|refine Ci (kw q.b2 (q.l++[a])) rfl (by rw[I2];show kw q.b2 (q.l++[a])<=(q.l++[a]).length;omega) (aR λ_=>rfl) I8 ?_|refine CZ (kw q.b2 (q.l++[a])) rfl (by rw[I2];show kw q.b2 (q.l++[a])<=(q.l++[a]).length;omega) (aR λ_=>rfl) C8 ?_|refine CG (nC ((q.l++[a]).take (kw q.b2 (q.l++[a]))) ω) ?_|refine CG (nC ((q.l++[a]).drop (kw q.b2 (q.l++[a]))) ω) ?_)
 rfl
def Hc(h:ac)(p:Int):zzA 245 false [.val (some 24) (ac.enc .O h),.vI p] .one [B (iw h p)]:=by
 cases e:h.w
 all_goals
  have a:ac.enc .O h=(ac.enc .O h).set 18 (B h.w):=rfl;rw[e]at a;rw[a];refine fO 23 [] Tryz.func245 rfl ?_
  repeat'(first|refine gP ?_|refine gS (λb=>?_) (λb=>?_)|fail)
  all_goals exact bE ((by unfold iw;rw[e];first|(simp[*];done)|(simp[*];rw[C9];simp;try omega)|(rw[C9];simp[*];try omega)))
def xy(h:ac):zzA 375 false [.val (some 24) (ac.enc .O h)] .one [I (ge h:Nat)]:=by
 refine fO 9 [] Tryz.func375 rfl ?_
 refine σP ?_
 rfl
theorem Dh(c:C):WW c c:=(lX [c]).1
def cE(h:ac)(s l o:C):List C:=[.s .own (h.G.F.V.U.map (aI .own)),.s .own (h.G.F.V.y.map (rB .own)),.s .own (h.G.F.R.M.map (aS.enc .own)),I h.G.Calls,.s .own (h.G.k.map (rI .own)),.s .own (h.a.map (aD.enc .own)),s,l,o,.s .own (h.Q.map (aB.enc .own)),.s .own (h.b.T.map (bf .own)),.s .own (h.b.e.map (aI .own)),I h.r.b2,.s .own (h.r.l.map (aK.enc .own)),I h.b3,I h.a4,I h.b7,I h.j,B h.w,I h.a2.d.a5,I h.a2.d.a7,.s .own (h.a2.d.U.map (rI .own)),I h.a2.a8,I h.a2.j]
def oS(h:ac):C:=oE (h.J.map (aC.enc .own))
def oL(h:ac):C:=oE (h.H.map (aA.enc .own))
def oO(h:ac):C:=oE (h.K.map (aW.enc .own))
def dv(h:ac):List C:=cE h (oS h) (oL h) (oO h)
def Q7(rows:List (List C)):fz (oE rows)=fz (.s .own rows):=by cases rows<;>rfl
def sZ : oE rows=.s .own rows\/(rows=[]/\oE rows=.s .O []):=by cases rows with|nil=>exact .inr ⟨rfl,rfl⟩|cons=>exact .inl rfl
def ZT(h:ac){s l o:C}(a:fz s=.s .O (h.J.map (aC.enc .O)))(b:fz l=.s .O (h.H.map (aA.enc .O)))(c:fz o=.s .O (h.K.map (aW.enc .O))):du (cE h s l o)=ac.enc .O h:=by
 have d:=ac.enc_fz h;have e:du (cE h s l o)=(((du (ac.enc .own h)).set 6 (fz s)).set 7 (fz l)).set 8 (fz o):=rfl;rw[e,d,a,b,c];rfl
def a0e(h:ac):fz (oS h)=.s .O (h.J.map (aC.enc .O)):=(Q7 _).trans (DS _)
def YH(h:ac):fz (oL h)=.s .O (h.H.map (aA.enc .O)):=(Q7 _).trans (yP _)
def ZW(h:ac):fz (oO h)=.s .O (h.K.map (aW.enc .O)):=(Q7 _).trans (AP _)
def Q9(h:ac):du (dv h)=ac.enc .O h:=ZT h (a0e h) (YH h) (ZW h)
def Dl(h:Jm rows):Hu (oE rows):=by cases rows with|nil=>exact⟨.inr rfl,tV1⟩|cons r a=>exact⟨.inl λe=>(by cases e),h⟩
theorem cj(h:ac):gl (dv h):=by
 have a:=ac.enc_fr h;simp only[ac.enc,gl]at a;unfold dv cE;simp only[gl];refine⟨a.1,a.2.1,a.2.2.1,a.2.2.2.1,a.2.2.2.2.1,a.2.2.2.2.2.1,Dl ?_,Dl ?_,Dl ?_,a.2.2.2.2.2.2.2.2.2⟩
 ·exact a.2.2.2.2.2.2.1.2
 ·exact a.2.2.2.2.2.2.2.1.2
 exact a.2.2.2.2.2.2.2.2.1.2
def wb{S Y:am}{v:Value}(h:dw w S Y (.s .own rows) v):dw w S Y (oE rows) v:=by
 cases rows with
 | cons=>exact h
 | nil=>
  cases h with
  | nil _ o a b=>exact .nil _ .O a tV1
  | own _ o g k n c rows u f b i l d e p q r t y=>simp at i;omega
  | suf _ o g j k n c rows u f b=>exact b.elim
theorem Wn{S Y:am}{u:Nat->Value}(b:cD w S Y (ac.enc .own h) u):cD w S Y (dv h) u:=by
 obtain⟨f,a,d,e⟩:=b;refine⟨f,λj c g=>?_,d,e⟩;have i:dv h=(((ac.enc .own h).set 6 (oS h)).set 7 (oL h)).set 8 (oO h):=rfl;rw[i]at g;by_cases k:j=8
 ·subst k
  have:c=oO h:=ψ
  rw[this];exact wb (a 8 _ rfl)
 by_cases l:j=7
 ·subst l
  have:c=oL h:=ψ
  rw[this];exact wb (a 7 _ rfl)
 by_cases n:j=6
 ·subst n
  have:c=oS h:=ψ
  rw[this];exact wb (a 6 _ rfl)
 grind
def ec(h:ac)(a:ac.sml h):zzA 85 false [.val (some 24) (ac.enc .O h)] .agg (dv h):=by
 obtain⟨b,c⟩:=jN h a;refine⟨b,λw S d g i=>(c w S d g i).mono λe w1 j=>?_⟩;obtain⟨v,k,l,X,S1,n,o,p,q,r⟩:=j;exact⟨v,k,l,X,S1,n,o,p,q,Wn r⟩
def Ua(h:ac)(s l o:C)(a:Int)(k:Nat)(v:Int)(b:0<=a):cE {h with G:=fG h.G a (k+1)} s l o=(cE {h with G:=fG h.G a k} s l o).set 0 (.s .own (((fG h.G a k).F.V.U.map (aI .own)).set (ax h.G.F.R (a / 16)).g.toNat ((aI .own (kh (nth h.G.F.V.U (gc h.G a)) (a % 16).toNat k)).set 0 (.s .own (((kh (nth h.G.F.V.U (gc h.G a)) (a % 16).toNat k).map (rI .own)).set (a % 16+k).toNat (splice (rI .own v) 0 [I 0])))))):=by
 have e:(a % 16+k).toNat=(a % 16).toNat+k:=ω
 rw[e];simp[cE,fG,IC,kh,aI,splice,gc]
 rfl
theorem mK(h:ac)(s l o:C)(a:Int)(n:Nat)(p:aN h.G=true)(e:0<=a/\a<512)(r:0<=(ax h.G.F.R (a / 16)).g/\(ax h.G.F.R (a / 16)).g<h.G.F.V.U.length)(w:a % 16+n<=16)(y:(nth h.G.F.V.U (gc h.G a)).length=16) :
  zzB 260 false [.ptr (cE h s l o),.vI a,.vI (n:Nat)] [.ptr (cE {h with G:=fG h.G a n} s l o),.vI a,.vI (n:Nat)] (.tup []) []:=by
 have g:=bq p;have t:=dl h.G.F.R (a / 16) g.1.2;have c:gc h.G a<h.G.F.V.U.length:=by unfold gc;omega
 refine fM 36 [] [] [(0,0),(0,0),(0,0)] Tryz.func260 rfl (λu q=>?_) (.inr tV1)
 repeat'(first|refine gP ?_|refine CU qs ?_|refine CT (mi e) ?_|refine CN (t) ⟨⟨rfl,Cm _⟩,⟨rfl,rfl⟩,tV1⟩ ?_)
 rw[show cE h s l o=cE {h with G:=fG h.G a 0} s l o by rw[Jp h a c]]
 (conv=>whnf)
 refine lp0 n (λk=>[(0,bX (cE {h with G:=fG h.G a k} s l o)),(1,fI a),(2,fN n),(6,fI ((ax h.G.F.R (a / 16)).g)),(7,fN k)]) λk p=>?_
 have j:a.tmod 16=a % 16:=fH e.1;have b:(fG h.G a k).F.V.U[(ax h.G.F.R (a / 16)).g.toNat]? = some (kh (nth h.G.F.V.U (gc h.G a)) (a % 16).toNat k):=I6 c;by_cases B:k<n
 ·have d:=au (xs:=kh (nth h.G.F.V.U (gc h.G a)) (a % 16).toNat k) (i:=(a % 16+k).toNat) (by grind [q9])
  repeat'(first|refine gE ?_|refine CU qs ?_|refine CY j ?_|refine CS r.1 (aa b) ?_|refine CS ω (aa d) ?_|refine Pu.two rfl rfl (aa b) rfl rfl rfl (aa d) rfl (z5 _) (Ua h s l o a k _ e.1) ?_)
  (exact dL (k+1) ω)
 obtain rfl:k=n:=ω
 refine σE ?_
 exact kk
theorem ky(h:ac)(r:aD)(n:Nat)(a:aN h.G=true)(j:h.G.Calls≠100000)(b:h.a.length<=1048576)(l:r.a1=n/\0<=r.At/\r.At<=1000/\n<=1000) :
  zzB 259 false [.ptr (dv h),.val (some 2) (aD.enc .O r)] [.ptr (dv {h with G:=dX h.G r.At n,a:=(cw (ge h) h.a r).getD h.a}),.val (some 2) (aD.enc .O r)] (.tup []) []:=by
 have c:=a;have e:ge h<=32:=(bF.1 (aM.1 a).2.2.1).2.2;have d:=xy {h with G:=dX h.G r.At n};rw[show ge {h with G:=dX h.G r.At n} = ge h from(iy _ _ _).1]at d;have g:=FN (ge h:Nat) h.a r ω ⟨b,λ_ _=>tV1⟩;refine fM 44 [] [(5,272,[29,30,31,32,33,34,35,36,37,38,39,28,40,41,42,43,0,1,2,3,4,5,6,7,8,9,10,11,12,13,14,15,16,1013])] [(0,0),(0,0)] Tryz.func259 rfl (λu q=>?_) (.inr tV1)
 refine σP ?_
 refine lp0 n (λk=>[(0,bX (dv {h with G:=dX h.G r.At k})),(3,bX (aD.enc .O r)),(4,fI (r.At+k))]) λk a=>?_
 by_cases o:k<n
 ·have i:=tl (dX h.G r.At k) (r.At+k) (kz c _ _) (by grind [ve])
  repeat'(first|refine gE ?_|refine CN (i) ⟨⟨rfl,CW _⟩,⟨rfl,rfl⟩,tV1⟩ ?_)
  (exact dL (k+1) ω)
 obtain rfl:k=n:=ω
 repeat'(first|refine gE ?_|refine CN (d) ⟨⟨rfl,Q9 _⟩,tV1⟩ ?_|refine CN (g) ⟨⟨rfl,rfl⟩,⟨rfl,fe h.a⟩,⟨rfl,rfl⟩,tV1⟩ ?_)
 exact kk
theorem a0l{c a:C}(h:a=c):WW c a:=by grind [Dh]
theorem W3(k:af)(p:Int):dX k p 1=cY k p:=by show cY k (p+((0:Nat):Int))=_;grind
theorem xo(a:h.J≠[]):dv h=cE h (.s .own (h.J.map (aC.enc .own))) (oL h) (oO h):=by grind [tg,List.map_eq_nil_iff,dv,oS]
def YF(h:ac):oL h=.s .own (h.H.map (aA.enc .own))\/(h.H=[]/\oL h=.s .O []):=by
 rcases sZ (rows:=h.H.map (aA.enc .own)) with e|⟨a,b⟩
 ·exact .inl e
 exact .inr ⟨List.map_eq_nil_iff.1 a,b⟩
theorem ia{xs:List α}(h:i<xs.length):xs≠[]:=(ψ)
theorem Ge(h:ac)(i:Nat)(j:aN h.G=true)(k:h.G.Calls≠100000)(b:h.a.length<=1048576)(c:i<h.J.length)(l:h.J.length<=1048576)(o:0<=(nth h.J i).S/\(nth h.J i).S<=31) :
  zzB 273 false [.ptr (dv h),.vI (i:Nat)] [.ptr (dv (giveP h i)),.vI (i:Nat)] (.tup []) []:=by
 have d:=au c;have g:=Mj h.J i c;have a:=ky {h with J:=dele h.J i} ⟨(nth h.J i).S,1⟩ 1 j k b ψ;rw[show dX ({h with J:=dele h.J i} : ac).G (aD.mk (nth h.J i).S 1).At 1=cY h.G (nth h.J i).S from W3 _ _]at a;have n:dv {h with J:=dele h.J i} = cE h (oE ((dele h.J i).map (aC.enc .own))) (oL h) (oO h):=rfl;rw[xo (ia c)];rcases sZ (rows:=(dele h.J i).map (aC.enc .own)) with e|⟨-,e⟩
 all_goals
  rw[n]at a;rw[e]at g a;refine fM 28 [(390,[1,0,0]),(259,[2,0])] [] [(0,0),(0,0)] Tryz.func273 rfl (λu q=>?_) (.inr tV1)
  refine σP ?_
  exact ks
def Vi(c:bo h E)(d:i<h.J.length)(b:hO (nth h.J i) a):denotes h.J h.H a = ⟨1,i,fo (nth h.J i) a,0⟩:=by
 rw[jM c.L d ⟨b.1,b.2.1⟩];unfold uv;rw[b.2.2.2,b.2.2.1];rfl
theorem m6(h:ac)(E:List Int)(a:Int)(b:bo h (a::E))(G:h.G.Calls≠100000):zzB 115 false [.ptr (dv h),.vI a] [.ptr (dv (freeA h a)),.vI a] (.tup []) []:=by
 obtain⟨g,t,H⟩:=b.at (b.hin a ψ);have J:=(b.hin a ψ).bd b;have D:=b.lens;have K:=D.spans;have M:=D.larges;unfold freeA;generalize A2 h a=i at g t;have l:=b.L.sok _ (ay g);have N:=aT l;have c:=au g;have j:=n6 h.J h.H a ⟨ω,λ_ _=>tV1⟩ ⟨ω,λ_ _=>tV1⟩;rw[Vi b g t]at j;have w:=FX (nth h.J i) (fo (nth h.J i) a) l t.2.2.2;have P:=b.give g t;have n:=Hc (clrS h i a) (nth h.J i).S;rw[show iw (clrS h i a) (nth h.J i).S=iw h (nth h.J i).S from rfl]at n;have o:i<(clrS h i a).J.length:=by grind [clrS]
 have y:(nth (clrS h i a).J i).S=(nth h.J i).S:=by unfold clrS;simp only[dd,true_and];rw[CK g];rfl
 have p:=Ge (clrS h i a) i b.ker G (by show h.a.length<=_;grind [nB.free]) o (by grind [clrS]) (by rw[y];omega);have d:dv (clrS h i a)=cE h (.s .own ((h.J.map (aC.enc .own)).set i (aC.enc .own (nz (nth h.J i) (fo (nth h.J i) a))))) (oL h) (oO h):=by
  rw[xo (ia o)];show cE h (.s .own ((h.J.set i _).map _)) (oL h) (oO h)=_;rw[IC]
 have r:=Q9 (clrS h i a);rw[d]at r p;have k:((h.J.map (aC.enc .own)).set i (aC.enc .own (nz (nth h.J i) (fo (nth h.J i) a))))[i]? = some (aC.enc .own (nz (nth h.J i) (fo (nth h.J i) a))):=kC g;rw[xo (ia g)];have B:=YH h;unfold freeS;rcases YF h with e|⟨C,e⟩
 all_goals
  try rw[C]at j
  rw[e]at p r B d |-;by_cases F:(nz (nth h.J i) (fo (nth h.J i) a)).a3=0
  ·cases O:iw h (nth h.J i).S<;>rw[O]at n
   ·rw[CK ⟨F,rfl⟩]
    refine fM 64 [(273,[2,0])] [(0,11,[6,7,8,9,10,11,12,13,14,15,4]),(2,277,[20,21,22,23,24,25,26,27,28,29,30,31,32,33,34,35,36,19,37,38,39,0,1,2,3,4,5,6,7,8,9,10,11,12,13,14,15,16,17,18,19,20,21,1019]),(3,9,[40,41,42,43,44,45,46,47,5]),(4,9,[48,49,50,51,52,53,54,55,56])] [(0,0),(0,0)] Tryz.func115 rfl (λu q=>?_) (.inr tV1)
    repeat'(first|refine gB ?_|refine CN (j) ⟨⟨rfl,f7 _⟩,⟨rfl,kb _⟩,⟨rfl,rfl⟩,tV1⟩ ?_|refine CN (j) ⟨⟨rfl,f7 _⟩,⟨rfl,rfl⟩,⟨rfl,rfl⟩,tV1⟩ ?_|refine CI k ?_|refine CM rfl k rfl ?_|refine CR rfl rfl (aa c) rfl (O2 rfl) rfl ?_|refine CN (n) ⟨⟨rfl,r⟩,⟨rfl,rfl⟩,tV1⟩ ?_)
    exact ks
   rw[CJ (λx=>by cases x.2),d];refine fM 64 [(273,[2,0])] [(0,11,[6,7,8,9,10,11,12,13,14,15,4]),(2,277,[20,21,22,23,24,25,26,27,28,29,30,31,32,33,34,35,36,19,37,38,39,0,1,2,3,4,5,6,7,8,9,10,11,12,13,14,15,16,17,18,19,20,21,1019]),(3,9,[40,41,42,43,44,45,46,47,5]),(4,9,[48,49,50,51,52,53,54,55,56])] [(0,0),(0,0)] Tryz.func115 rfl (λu q=>?_) (.inr tV1)
   repeat'(first|refine gB ?_|refine CN (j) ⟨⟨rfl,f7 _⟩,⟨rfl,kb _⟩,⟨rfl,rfl⟩,tV1⟩ ?_|refine CN (j) ⟨⟨rfl,f7 _⟩,⟨rfl,rfl⟩,⟨rfl,rfl⟩,tV1⟩ ?_|refine CI k ?_|refine CM rfl k rfl ?_|refine CR rfl rfl (aa c) rfl (O2 rfl) rfl ?_|refine CN (n) ⟨⟨rfl,r⟩,⟨rfl,rfl⟩,tV1⟩ ?_)
   exact ks
  rw[CJ (λx=>F x.1),d];refine fM 64 [(273,[2,0])] [(0,11,[6,7,8,9,10,11,12,13,14,15,4]),(2,277,[20,21,22,23,24,25,26,27,28,29,30,31,32,33,34,35,36,19,37,38,39,0,1,2,3,4,5,6,7,8,9,10,11,12,13,14,15,16,17,18,19,20,21,1019]),(3,9,[40,41,42,43,44,45,46,47,5]),(4,9,[48,49,50,51,52,53,54,55,56])] [(0,0),(0,0)] Tryz.func115 rfl (λu q=>?_) (.inr tV1)
  repeat'(first|refine gB ?_|refine CN (j) ⟨⟨rfl,f7 _⟩,⟨rfl,kb _⟩,⟨rfl,rfl⟩,tV1⟩ ?_|refine CN (j) ⟨⟨rfl,f7 _⟩,⟨rfl,rfl⟩,⟨rfl,rfl⟩,tV1⟩ ?_|refine CI k ?_|refine CM rfl k rfl ?_|refine CR rfl rfl (aa c) rfl (O2 rfl) rfl ?_|refine CN (n) ⟨⟨rfl,r⟩,⟨rfl,rfl⟩,tV1⟩ ?_)
  exact ks
theorem xk(h:ac)(E:List Int)(t:Nat)(a:Int)(b:bo h (a::E))(y:t<h.Q.length)(F:h.G.Calls≠100000):zzB 113 false [.ptr (dv h),.vI (t:Nat),.vI a] [.ptr (dv (recyc t h a)),.vI (t:Nat),.vI a] (.tup []) []:=by
 obtain⟨d,B,G⟩:=b.at (b.hin a ψ);have H:=(b.hin a ψ).bd b;have C:=b.lens;have J:=C.spans;have K:=C.larges;have o:=b.cach _ (ay y);have p:=m6 h E a b F;unfold recyc;generalize A2 h a=i at d B;have r:=aT (b.L.sok _ (ay d));have n:=au d;have k:=au y;have g:=n6 h.J h.H a ⟨ω,λ_ _=>tV1⟩ ⟨ω,λ_ _=>tV1⟩;rw[Vi b d B]at g;have j:=G0 (nth h.Q t) (nth h.J i).Z.toNat a o ω;rw[Int.toNat_of_nonneg r.2.2.1]at j;unfold Ey at j;have l:∀c,dv {h with Q:=h.Q.set t c} = (cE h (.s .own (h.J.map (aC.enc .own))) (oL h) (oO h)).set 9 (.s .own ((h.Q.map (aB.enc .own)).set t (aB.enc .own c))):=λc=>by
  rw[xo (h:={h with Q:=h.Q.set t c}) (ia d)];show cE {h with Q:=h.Q.set t c} _ (oL h) (oO h)=_;simp[cE,IC]
 rw[xo (ia d)]at p |-;rcases YF h with e|⟨w,e⟩
 all_goals
  try rw[w]at g
  rw[e]at p l |-;cases D:cput (nth h.Q t) (nth h.J i).Z a with
  | none=>
   rw[D]at j;refine fM 54 [(115,[2,0])] [(0,11,[9,10,11,12,13,14,15,16,17,18,6]),(2,278,[23,24,25,26,27,28,29,30,31,32,33,34,35,36,37,38,39,40,22,41,42,7,0,1,2,3,4,5,6,7,8,9,10,11,12,13,14,15,16,17,18,19,20,21,22,1020,23]),(4,6,[44,45,46,47,48,49])] [(0,0),(0,0),(0,0)] Tryz.func113 rfl (λu q=>?_) (.inr tV1)
   repeat'(first|refine gB ?_|refine CN (g) ⟨⟨rfl,f7 _⟩,⟨rfl,kb _⟩,⟨rfl,rfl⟩,tV1⟩ ?_|refine CN (g) ⟨⟨rfl,f7 _⟩,⟨rfl,rfl⟩,⟨rfl,rfl⟩,tV1⟩ ?_|refine CN (j) ⟨⟨rfl,Cp _⟩,⟨rfl,rfl⟩,⟨rfl,rfl⟩,tV1⟩ ?_)
   exact ks
  | some c=>
   rw[D]at j;simp only;rw[l];refine fM 54 [(115,[2,0])] [(0,11,[9,10,11,12,13,14,15,16,17,18,6]),(2,278,[23,24,25,26,27,28,29,30,31,32,33,34,35,36,37,38,39,40,22,41,42,7,0,1,2,3,4,5,6,7,8,9,10,11,12,13,14,15,16,17,18,19,20,21,22,1020,23]),(4,6,[44,45,46,47,48,49])] [(0,0),(0,0),(0,0)] Tryz.func113 rfl (λu q=>?_) (.inr tV1)
   repeat'(first|refine gB ?_|refine CN (g) ⟨⟨rfl,f7 _⟩,⟨rfl,kb _⟩,⟨rfl,rfl⟩,tV1⟩ ?_|refine CN (g) ⟨⟨rfl,f7 _⟩,⟨rfl,rfl⟩,⟨rfl,rfl⟩,tV1⟩ ?_|refine CN (j) ⟨⟨rfl,Cp _⟩,⟨rfl,rfl⟩,⟨rfl,rfl⟩,tV1⟩ ?_|refine CR rfl rfl (aa k) rfl (O2 rfl) rfl ?_)
   exact ks
theorem dw.frz_at{S F:am}{v:Value}{c:C}(h:dw w S F (.s .own rows) v)(E:rows[i]? = some [c]):∃V:am,(∀b o,V b o->F b o)/\dw w (λb o=>S b o\/V b o) (λb o=>F b o/\¬V b o) (.s .own (rows.set i [fz c])) v:=by
 cases h with
 | nil _ o a D=>simp at E
 | suf _ o g K k n d rows u f D=>exact D.elim
 | own _ o g k n d rows u f D L M l p N O P Q G=>
  have R:i<rows.length:=ψ
  obtain rfl:k=1:=by rw[<-M [c] ψ];rfl
  simp only[Nat.mul_one]at N O P Q G;refine⟨f i,ψ,?_⟩;refine .own _ .own g 1 n d _ u (λq=>if q=i then NO else f q) D (by simpa using L) (λr h=>?_) l p (λq H=>?_) ψ (λq H b o t=>?_) (λq Y H T U b o t y=>?_) (λJ W r X A B=>?_)
  ·grind
  ·grind
  ·split at t
   ·exact t.elim
   grind
  ·split at t
   ·exact t.elim
   split at y
   ·exact y.elim
   grind
  by_cases e:J=i
  ·subst e
   rw[I6 R]at A;obtain rfl:=Option.some.inj A;cases W with
   | succ j=>simp at B
   | zero=>
    obtain rfl:fz c=X:=by simpa using B
    have:=(G J 0 [c] c E rfl).freeze
    grind
  grind [dw.mono]
theorem ah.frz{sh:Bool}{A:List RA}{k:Kd}{c:C}(h:ah P f sh A k [.s .own rows])(d:rows[i]? = some [c]):ah P f sh A k [.s .own (rows.set i [fz c])]:=by
 obtain⟨l,n⟩:=h;refine⟨l,λw S p q r=>(n w S p q r).mono λe w1 t=>?_⟩;obtain⟨v,u,y,X,S1,G,H,J,B,g,D,K,L⟩:=t;obtain⟨V,M,N⟩:=(D 0 _ rfl).frz_at d;have E:∀b o,V b o->X b o:=ψ
 refine⟨v,u,y,λb o=>X b o/\¬V b o,λb o=>S1 b o\/V b o,ψ,λb o a=>?_,λb o a h=>?_,B,λj=>if j=0 then(λb o=>g 0 b o/\¬V b o) else NO,λj O F=>?_,λj F b o a=>?_,ψ⟩
 ·grind
 ·grind
 ·grind
 all_goals simp_all
def Rt(c:aB)(k:Nat):aB:=⟨c.X.set k []⟩
theorem Q1(c:aB)(k:Nat):aB.enc .own (Rt c k)=[.s .own ((c.X.map (aI .own)).set k (aI .own []))]:=by grind [IC,aB.enc,Rt]
theorem M5(xs:List Int):([]:List Int).map (rI .O)=(xs.map (rI .O)).drop xs.length:=by simp_all
theorem Md(xs:List Int):xs.map (rI .O)=(xs.map (rI .O)).take xs.length:=by grind [I2]
def yI{k:Nat}(h:k<rows.length):(rows.set k r)[k]? = some r:=I6 h
def spR(c:aB)(k:Nat):List C:=aB.enc .own (Rt c k)++aI .own (nth c.X k)
def VM(c:aB)(k:Nat):gl (spR c k):=aE (Cs _) (bO _)
def Ay(c:aB)(k:Nat)(d:bL c=true)(p:k<=3):zzA 341 false [.val (some 1) (aB.enc .O c),.vI (k:Nat),.vI 8] (.tup [some 1,none]) (spR c k):=by
 obtain⟨q,e⟩:=f9 d;have g:aB.sml c:=⟨ω,λl j=>by have:=e l j;show l.length<=1048576;omega⟩
 have h:=D6 c k g;rw[d,O0 ω]at h;have n:=kU c g;have a:=nP (c:=c) (k:=k) ω;have o:=e _ (ay (xs:=c.X) (i:=k) ω);have b:=VM c k;unfold spR at b |-;rw[Q1]at b |-;refine fO 52 [(5,268,[29,30,31,32,33,34,35,36,37,38,39,41,0,1,2,3,4,5,6,7,8,9,10,11,1000,1001,1002,12,13]),(6,265,[42,43,44,45,46,47,48,49,50,0,1,2,3,4,5,6,7,8,9,1000,10,11])] Tryz.func341 rfl ?_ (.inr b)
 repeat'(first|refine gP ?_|refine CY (z:=((nth c.X k).length:Int)) kd ?_|refine Ci (nth c.X k).length rfl (by rw[I2];omega) (aR λ_=>rfl) (M5 _) ?_|refine CZ (nth c.X k).length rfl (by rw[I2];omega) (aR λ_=>rfl) (Md _) ?_|refine Cg (λ_=>rfl) (λ_=>rfl) (by simp) qs ?_|refine CX (λ_=>rfl) (λ_=>rfl) (by simp) qs ?_|refine Cg (λ_=>rfl) (λ_=>rfl) ω qs ?_|refine CX (λ_=>rfl) (λ_=>rfl) ω qs ?_|refine CR rfl rfl (aa a) rfl (O2 rfl) rfl ?_)
 rfl
theorem A7(c:aB)(k:Nat)(e:bL c=true)(q:k<=3):zzA 114 false [.val (some 1) (aB.enc .O c),.vI (k:Nat),.vI 8] (.tup [some 1,none]) (spR c k):=by
 obtain⟨r,g⟩:=f9 e;have h:aB.sml c:=⟨ω,λl o=>by have:=g l o;show l.length<=1048576;omega⟩
 have j:=wH c k h;rw[e,O0 ω]at j;have b:=nP (c:=c) (k:=k) ω;have p:=g _ (ay (xs:=c.X) (i:=k) ω);have n:=ah.frz (kF c h) (i:=k) (c:=.s .own ((nth c.X k).map (rI .own))) (aa b);rw[show fz (.s .own ((nth c.X k).map (rI .own)))=.s .O ((nth c.X k).map (rI .O)) from(List.cons.inj (eI (nth c.X k))).1]at n;have a:k<(c.X.map (aI .own)).length:=ψ
 have d:=VM c k;unfold spR at d |-;rw[Q1]at d |-;refine fO 43 [(6,7,[30,31,32,33,34,35,36]),(7,5,[38,39,40,41,42])] Tryz.func114 rfl ?_ (.inr d)
 repeat'(first|refine gP ?_|refine CY (z:=((nth c.X k).length:Int)) kd ?_|refine Ci (nth c.X k).length rfl (by rw[I2];omega) (aR λ_=>rfl) (M5 _) ?_|refine CZ (nth c.X k).length rfl (by rw[I2];omega) (aR λ_=>rfl) (Md _) ?_|refine CG (gi [] (by simp)) ?_|refine CG (gi (nth c.X k) ω) ?_|refine CM rfl (yI a) rfl ?_|refine CR rfl rfl (yI a) rfl (O2 rfl) (by simp only[List.set_cons_zero,List.set_set];rfl) ?_|refine CI (yI a) ?_)
 simp only[List.set_set,O4];rfl
theorem uf{k:Int} : ∀{l s s2 b:List Int},(∀x∈s2,x∈s)->x9 k s l=some b->(∀x∈s,x∈b)/\∃c,x9 k s2 l=some c/\∀x∈c,x∈b
 | [],s,s2,b,h,e=>by grind [x9]
 | a::l,s,s2,b,h,e=>by
  simp only[x9]at e |-;split at e
  ·rename_i g
   rw[CK (show good k s2 a from⟨g.1,g.2.1,g.2.2.1,λx=>g.2.2.2 (h a x)⟩)];obtain⟨d,f⟩:=uf (l:=l) (s:=s++[a]) (s2:=s2++[a]) ψ e
   grind
  cases e
theorem yF:∀{a:List (List Int)}{k:Nat}{s s2:List Int},(∀x∈s2,x∈s)->(jy k s a).isSome=true->(jy k s2 a).isSome=true
 | [],_,_,_,_,_=>rfl
 | l::a,k,s,s2,h,e=>by
  simp only[jy,gU]at e |-;split at e
  ·rename_i g
   rw[CK g];cases b:x9 k s l with
   | none=>grind
   | some i=>
    rw[b]at e;obtain⟨-,c,d,f⟩:=uf h b;rw[d];exact yF f e
  cases e
theorem LT:∀{a:List (List Int)}{k:Nat}{s s2:List Int}(i:Nat),(∀x∈s2,x∈s)->(jy k s a).isSome=true->(jy k s2 (a.set i [])).isSome=true
 | [],_,_,_,_,_,_=>rfl
 | l::a,k,s,s2,i,h,e=>by
  simp only[jy,gU]at e;split at e
  ·rename_i g
   cases b:x9 k s l with
   | none=>grind
   | some j=>
    rw[b]at e;obtain⟨n,c,d,f⟩:=uf h b;cases i with
    | zero=>
     simp only[List.set_cons_zero,jy,gU];rw[CK ⟨by simp,g.2⟩];exact yF ψ e
    | succ i=>
     simp only[List.set_cons_succ,jy,gU];rw[CK g,d];exact LT i f e
  cases e
theorem Zg{c:aB}(h:bL c=true)(k:Nat):bL (Rt c k)=true:=by grind [LT,bL,Rt]
def spilt(h:ac)(t k:Nat):ac:={h with Q:=h.Q.set t (Rt (nth h.Q t) k)}
theorem bo.spilt{h:ac}{E:List Int}{t k:Nat}(d:bo h E)(i:t<h.Q.length)(n:k<(nth h.Q t).X.length):bo (spilt h t k) (nth (nth h.Q t).X k++E):=by
 have p:(E++holders h).Perm (nth (nth h.Q t).X k++E++holders (Ab.spilt h t k)):=by
  refine List.perm_iff_count.2 λb=>?_
  have r:=kV (λc:aB=>c.X.flatten) b h.Q t (Rt (nth h.Q t) k) i;have q:=kV (λx:List Int=>x) b (nth h.Q t).X k [] n;rw[<-oe,<-oe]at q;simp only[List.count_nil]at q;simp only[Rt]at r;simp only[holders,dB,Ab.spilt,Rt,CC];omega
 have g:∀c∈(Ab.spilt h t k).Q,c∈h.Q\/c=Rt (nth h.Q t) k:=λc u=>CD u
 exact {d with
   nc:=by show(h.Q.set ..).length=_;rw[C3];exact d.nc
   cach:=λc f=>by grind [bo.cach,Zg,ay]
   onu:=by show ∀o∈h.K,1<=o.Id/\o.Id<=h.j - 1/\0<=o.p/\o.p<=(h.Q.set t _).length - 1;rw[C3];exact d.onu
   hca:=λc f j l b a=>by
     rcases g c f with f|rfl
     · exact d.hca c f j l b a
     simp only[Rt,C3]at l;simp only[Rt,dd]at a;by_cases e:k=j
     · grind
     rw[CJ λx=>e x.1]at a;exact d.hca _ (ay i) _ l b a
   hin:=λb a=>by
     rcases v5.1 a with a|a
     · exact(d.hca _ (ay i) k n b a).any
     exact d.hin b a
   nd:=p.nodup_iff.1 d.nd
   mem:=λb=>by rw[<-p.mem_iff];exact d.mem b}
def freeAs(h:ac)(az:List Int):ac:=az.foldl freeA h
theorem ku:∀(az:List Int)(h:ac),(freeAs h az).Q=h.Q/\(freeAs h az).K=h.K/\(freeAs h az).G.Calls=h.G.Calls/\(freeAs h az).b=h.b/\(freeAs h az).a2=h.a2/\(freeAs h az).a4=h.a4/\(freeAs h az).r=h.r/\(freeAs h az).G.k=h.G.k
 | [],h=>⟨rfl,rfl,rfl,rfl,rfl,rfl,rfl,rfl⟩
 | a::az,h=>by
  obtain⟨b,c,d,e,f,g,i,j⟩:=ku az (freeA h a);obtain⟨k,l,n,o,p,q,r,t⟩:=DP h (A2 h a) a;exact⟨b.trans k,c.trans l,d.trans n,e.trans o,f.trans p,g.trans q,i.trans r,j.trans t⟩
theorem bo.freeAs{E:List Int} : ∀{az:List Int}{h:ac},bo h (az++E)->bo (freeAs h az) E
 | [],_,b=>b
 | a::az,h,b=>bo.freeAs (az:=az) (h:=Ab.freeA h a) b.freeA
theorem t6(h:ac)(az:List Int)(k:Nat)(a:k<az.length):freeAs h (az.take (k+1))=freeA (freeAs h (az.take k)) (nth az k):=by grind [SA,au,freeAs]
def bC(t:Nat)(h:ac):Nat->ac × Nat
 | 0=>(h,0)
 | k+1=>(freeAs (spilt (bC t h k).1 t k) (nth (nth (bC t h k).1.Q t).X k),(bC t h k).2+(nth (nth (bC t h k).1.Q t).X k).length)
theorem ov{t:Nat}{h:ac}(b:bo h [])(c:t<h.Q.length):∀{k:Nat},k<=4->bo (bC t h k).1 []/\(bC t h k).1.Q.length=h.Q.length/\(bC t h k).1.G.Calls=h.G.Calls/\(bC t h k).1.K=h.K/\(bC t h k).1.b=h.b/\(bC t h k).1.a2=h.a2/\(bC t h k).2<=8*k
 | 0,_=>⟨b,rfl,rfl,rfl,rfl,rfl,I1 _⟩
 | k+1,e=>by
  obtain⟨d,f,g,i,j,l,n⟩:=ov b c (k:=k) ω;have a:t<(bC t h k).1.Q.length:=ω
  obtain⟨o,p⟩:=f9 (d.cach _ (ay a))
  grind [bo.spilt,ay,ku,bo.freeAs,spilt,bC]
theorem Di{t k:Nat}(a:bo h [])(b:t<h.Q.length)(c:k<4):t<(bC t h k).1.Q.length/\bL (nth (bC t h k).1.Q t)=true/\k<(nth (bC t h k).1.Q t).X.length/\(nth (nth (bC t h k).1.Q t).X k).length<=8/\(bC t h k).2<=8*k:=by grind [ov,bo.cach,ay,f9]
theorem LF{t k:Nat}(a:bo h [])(b:t<h.Q.length)(c:k<4)(f:j<(nth (nth (bC t h k).1.Q t).X k).length):bo (freeAs (spilt (bC t h k).1 t k) ((nth (nth (bC t h k).1.Q t).X k).take j)) (nth (nth (nth (bC t h k).1.Q t).X k) j::(nth (nth (bC t h k).1.Q t).X k).drop (j+1)):=by
 obtain⟨d,e⟩:=Di a b c;have g:=((ov a b (k:=k) ω).1).spilt d e.2.1
 grind [bo.freeAs,hB,List.take_append_drop]
theorem Gi(h:ac)(t:Nat)(g:bo h [])(i:t<h.Q.length):zzB 194 false [.ptr (bT h),.vI (t:Nat)] [.ptr (bT (bC t h 4).1),.vI (t:Nat)] .one [I ((bC t h 4).2:Nat)]:=by
 refine fM 48 [(196,[2,0])] [(6,6,[26,27,28,29,30,31])] [(0,0),(0,0)] Tryz.func194 rfl (λu q=>?_)
 refine σP ?_
 refine CV (ι:=Nat) (λk=>[(0,bX (bT (bC t h k).1)),(1,fN t),(5,fN ((bC t h k).2)),(6,fN k)]) (λk=>k<=4) (λk=>4 - k) (0) ?_ (I1 _) λk D=>?_
 ·exact wE
 by_cases l:k<4
 ·obtain⟨n,o,E,F,G⟩:=Di g i l
  have p:=Ay (nth (bC t h k).1.Q t) k o ω;have b:=λj=>LF g i l (j:=j)
  have c:=au n;have r:(bC t h (k+1)).1=freeAs (spilt (bC t h k).1 t k) (nth (nth (bC t h k).1.Q t).X k):=rfl;have w:(bC t h (k+1)).2=(bC t h k).2+(nth (nth (bC t h k).1.Q t).X k).length:=rfl;have y:C.s eS.own ((spilt (bC t h k).1 t k).Q.map (aB.enc .own))=C.s eS.own (((bC t h k).1.Q.map (aB.enc .own)).set t (aB.enc .own (Rt (nth (bC t h k).1.Q t) k))):=by grind [IC,spilt]
  repeat'(first|refine gE ?_|refine CN (p) ⟨⟨rfl,Cp _⟩,⟨rfl,rfl⟩,⟨rfl,rfl⟩,tV1⟩ ?_|refine CR rfl rfl (aa c) rfl (O2 rfl) rfl ?_)
  generalize (bC t h k).1=d at *;generalize (bC t h k).2=m at *
  (conv=>whnf)
  refine CV (ι:=Nat) (λj=>[(0,bX (bT (freeAs (spilt d t k) ((nth (nth d.Q t).X k).take j)))),(1,fN t),(5,fN ((m+j))),(6,fN k),(8,b8 (aI .own (nth (nth d.Q t).X k))),(9,fN j)]) (λj=>j<=(nth (nth d.Q t).X k).length) (λj=>(nth (nth d.Q t).X k).length - j) (0) ?_ (I1 _) λj H=>?_
  ·exact wE
  by_cases e:j<(nth (nth d.Q t).X k).length
  ·have a:=au e
   have B:=rg _ _ _ (b j e)
   refine σE ?_
   (refine CQ (j+1) ω ω ?_)
   rw[t6 _ _ _ e];exact wC
  obtain rfl:j=(nth (nth d.Q t).X k).length:=ω
  rw[S9]
  refine σE ?_
  (refine CQ (k+1) ω ω ?_)
  rw[r,w];exact wC
 obtain rfl:k=4:=ω
 refine σE ?_
 exact kk
def rk(h:ac)(t:Int)(a:ac.sml h):zzA 111 false [.val (some 24) (ac.enc .O h),.vI t] .one [B (decide (0<=t/\t<=h.Q.length - 1)&&decide (h.G.Calls≠100000)&&dQ h)]:=by
 have b:=cR h a;rw[eR]at b;have d:h.Q.length<=1048576:=a.2.2.2.2.2.1.1;have c:=aQ t 0 (h.Q.length - 1:Int);cases e:decide (0<=t/\t<=(h.Q.length:Int) - 1)<;>rw[e]at c
 all_goals
  cases g:decide (h.G.Calls≠100000)
  all_goals
   simp only[C0,z9]at g;refine fO 21 [] Tryz.func111 rfl ?_
   repeat'(first|refine gP ?_|refine gS (λi=>?_) (λi=>?_)|fail)
   all_goals first|rfl|(exfalso;omega)
theorem D9(h:ac)(t:Nat)(o:ac.sml h)(p:dQ h=true)(q:h.G.Calls≠100000)(b:t<h.Q.length):zzA 29 false [.val (some 24) (ac.enc .O h),.vI (t:Nat)] (.tup [some 24,none]) (dv (bC t h 4).1++[I ((bC t h 4).2:Nat)]):=by
 have c:=bo.of p;have r:=rk h t o;rw[p,O0 ω,O0 q]at r;have w:=ec h o;refine fP 52 [(115,[2,0])] [] Tryz.func29 rfl ?_ (.inr (aE (cj _) ⟨tV1,tV1⟩))
 refine σP ?_
 refine CV (ι:=Nat) (λk=>[(1,fN t),(4,.Y .box xv),(6,bX (dv (bC t h k).1)),(7,fN ((bC t h k).2)),(8,fN k)]) (λk=>k<=4) (λk=>4 - k) (0) ?_ (I1 _) λk J=>?_
 ·exact wE
 by_cases u:k<4
 ·obtain⟨y,B,K,L,M⟩:=Di c b u
  have D:=A7 (nth (bC t h k).1.Q t) k B ω;have e:=λj=>LF c b u (j:=j)
  have g:=λj=>(ku ((nth (nth (bC t h k).1.Q t).X k).take j) (spilt (bC t h k).1 t k)).2.2.1
  have i:(spilt (bC t h k).1 t k).G.Calls≠100000:=by have:=(ov c b (k:=k) ω).2.2.1;show(bC t h k).1.G.Calls≠100000;rw[this];exact q
  have l:=au y;have E:(bC t h (k+1)).1=freeAs (spilt (bC t h k).1 t k) (nth (nth (bC t h k).1.Q t).X k):=rfl;have F:(bC t h (k+1)).2=(bC t h k).2+(nth (nth (bC t h k).1.Q t).X k).length:=rfl;have G:C.s eS.own ((spilt (bC t h k).1 t k).Q.map (aB.enc .own))=C.s eS.own (((bC t h k).1.Q.map (aB.enc .own)).set t (aB.enc .own (Rt (nth (bC t h k).1.Q t) k))):=by grind [IC,spilt]
  repeat'(first|refine gE ?_|refine CN (D) ⟨⟨rfl,Cp _⟩,⟨rfl,rfl⟩,⟨rfl,rfl⟩,tV1⟩ ?_|refine CR rfl rfl (aa l) rfl (O2 rfl) rfl ?_)
  generalize (bC t h k).1=d at *;generalize (bC t h k).2=m at *
  (conv=>whnf)
  refine CV (ι:=Nat) (λj=>[(1,fN t),(4,.Y .box xv),(6,bX (dv (freeAs (spilt d t k) ((nth (nth d.Q t).X k).take j)))),(7,fN ((m+j))),(8,fN k),(10,b8 (aI .own (nth (nth d.Q t).X k))),(39,.b5 10 0 [] none),(40,fI ((nth (nth d.Q t).X k).length)),(41,fN j)]) (λj=>j<=(nth (nth d.Q t).X k).length) (λj=>(nth (nth d.Q t).X k).length - j) (0) ?_ (I1 _) λj N=>?_
  ·exact wE
  by_cases n:j<(nth (nth d.Q t).X k).length
  ·have a:=au n
   have H:=m6 _ _ _ (e j n) (by rw[g];exact i)
   refine σE ?_
   (refine CQ (j+1) ω ω ?_)
   rw[t6 _ _ _ n];exact wC
  obtain rfl:j=(nth (nth d.Q t).X k).length:=ω
  rw[S9]
  refine σE ?_
  (refine CQ (k+1) ω ω ?_)
  rw[E,F];exact wC
 obtain rfl:k=4:=ω
 refine σE ?_
 rfl
def ET(s:Int):Int:=(1103515245*s+12345) % 1073741824
def Jq(s:Int):0<=ET s/\ET s<=1073741823:=by unfold ET;omega
def Fe(s:Int)(b:0<=s/\s<=1073741823):zzA 461 false [.vI s] .one [I (ET s)]:=by
 have a:=aU s 0 1073741823;rw[O0 b]at a;refine fO 10 [] Tryz.func461 rfl ?_
 repeat'(first|refine gP ?_|refine CY (z:=ET s) (fH ω) ?_|refine CU qs ?_)
 rfl
def xQ(s:Int)(b:0<=s/\s<=1073741823):zzA 96 false [.vI s] .one [B true]:=by
 have a:=aQ s 0 1073741823;rw[O0 b]at a;refine fO 5 [] Tryz.func96 rfl ?_
 refine σP ?_
 rfl
def Gz(s:Int)(a:0<=s/\s<=1073741823):zzA 443 false [.vI s] .one [I (ET s)]:=by
 refine fO 10 [] Tryz.func443 rfl ?_
 repeat'(first|refine gP ?_|refine CY (z:=ET s) (fH ω) ?_|refine CG (xQ s a) ?_|refine CU qs ?_)
 rfl
def K3(s n:Int):Int:=ET s / 1024 % n
def uh(s:Int){n:Int}(h:1<=n):0<=K3 s n/\K3 s n<n:=⟨Int.emod_nonneg _ ω,Int.emod_lt_of_pos _ ω⟩
theorem Ac(s n:Int)(b:0<=s/\s<=1073741823)(c:1<=n/\n<=1000):zzA 416 false [.vI s,.vI n] (.tup [none,none]) [I (K3 s n),I (ET s)]:=by
 have d:=aU s 0 1073741823;have e:=aU n 1 1000;rw[O0 b]at d;rw[O0 c]at e;have h:=Jq s;have i:=uh s c.1;have a:(ET s).tdiv 1024=ET s / 1024:=ψ
 have g:((ET s).tdiv 1024).tmod n=K3 s n:=by rw[a];exact fH ω
 refine fO 23 [] Tryz.func416 rfl ?_ (.inr ⟨tV1,tV1,tV1⟩)
 repeat'(first|refine gP ?_|refine CG (Fe s b) ?_|refine CU qs ?_|refine CU ω ?_|refine CY g ?_|refine CT (ij (by rw[a];omega) (by rw[a];omega)) ?_)
 rfl
theorem zW(s n:Int)(b:0<=s/\s<=1073741823)(c:1<=n/\n<=1000):zzA 372 false [.vI s,.vI n] (.tup [none,none]) [I (K3 s n),I (ET s)]:=by
 have d:=aQ n 1 1000;rw[O0 c]at d;have g:=Jq s;have h:=uh s c.1;have a:(ET s).tdiv 1024=ET s / 1024:=ψ
 have e:((ET s).tdiv 1024).tmod n=K3 s n:=by rw[a];exact fH ω
 refine fO 23 [] Tryz.func372 rfl ?_ (.inr ⟨tV1,tV1,tV1⟩)
 repeat'(first|refine gP ?_|refine CG (xQ s b) ?_|refine CG (Gz s b) ?_|refine CU qs ?_|refine CU ω ?_|refine CY e ?_|refine CT (ij (by rw[a];omega) (by rw[a];omega)) ?_)
 rfl
def tJ(n:Nat):List Int:=(List.range n).map λ(i:Nat)=>(i:Int)
theorem Ek(n:Nat):tJ (n+1)=tJ n++[(n:Int)]:=by grind [List.range_succ,tJ]
def y5(n:Nat):(tJ n).length=n:=by simp[tJ]
def zx(xs:List Int)(i k:Nat):List Int:=(xs.set i (nth xs k)).set k (nth xs i)
def RT(xs:List Int)(i k:Nat):(zx xs i k).length=xs.length:=by simp[zx]
def gv(n:Nat)(s:Int):Nat->List Int × Int
 | 0=>(tJ n,s)
 | j+1=>(zx (gv n s j).1 (n - 1 - j) (K3 (gv n s j).2 ((n - 1 - j:Nat)+1:Int)).toNat,ET (gv n s j).2)
def o8(n:Nat){s:Int}(a:0<=s/\s<=1073741823):∀j,(gv n s j).1.length=n/\0<=(gv n s j).2/\(gv n s j).2<=1073741823
 | 0=>⟨y5 n,a⟩
 | j+1=>⟨by simp only[gv,RT];exact(o8 n a j).1,Jq _⟩
def shuf(n:Nat)(s:Int):List Int × Int:=gv n s (n - 1)
theorem Lw(xs:List Int)(i k:Nat):(zx xs i k).map (rI .own)=((xs.map (rI .own)).set i (rI .own (nth xs k))).set k (rI .own (nth xs i)):=by grind [IC,zx]
theorem Hb{xs:List Int}{k:Nat}(v:Int)(a:k<xs.length):((xs.map (rI .own)).set i (rI .own v))[k]? = some (rI .own (nth (xs.set i v) k)):=by
 rw[<-IC];grind [au]
def Gu(n:Nat)(s:Int)(d:0<=s/\s<=1073741823)(w:n<=64):zzA 345 false [.vI s,.vI (n:Nat)] (.tup [none,none]) (aI .own (shuf n s).1++[I (shuf n s).2]):=by
 have e:=aU s 0 1073741823;have g:=aU (n:Nat) 0 64;rw[O0 d]at e;rw[O0 ω]at g;refine fO 63 [] Tryz.func345 rfl ?_ (.inr (aE (bO _) ⟨tV1,tV1⟩))
 refine σP ?_
 refine lp0 n (λk=>[(0,fI s),(1,fN n),(6,b8 (aI .own (tJ k))),(7,fN k)]) λk y=>?_
 have h:=y5 k;by_cases B:k<n
 ·repeat'(first|refine gE ?_|refine Cf (aR λ_=>rfl) rfl kd qs (eL (rI .own) (tJ k) (k:Int)) ?_)
  (refine CQ (k+1) ω ω ?_)
  rw[Ek];exact wB
 obtain rfl:k=n:=ω
 refine σE ?_
 refine pe (λj:Nat=>[(0,fI ((gv k s j).2)),(6,b8 (aI .own (gv k s j).1)),(8,fI ((k:Int) - 1 - j))]) (λj=>(j<=k - 1/\j<=k)) (λj=>k - j) (0) ω λj C=>?_
 obtain⟨D,l,o⟩:=o8 k d j;by_cases E:j<k - 1
 ·have q:(k:Int) - 1 - j=((k - 1 - j:Nat):Int):=ω
  have r:=uh (gv k s j).2 (n:=((k - 1 - j:Nat)+1:Int)) ω;have t:=Ac (gv k s j).2 ((k - 1 - j:Nat)+1:Int) ⟨l,o⟩ ω;have u:gv k s (j+1)=(zx (gv k s j).1 (k - 1 - j) (K3 (gv k s j).2 ((k - 1 - j:Nat)+1:Int)).toNat,ET (gv k s j).2):=rfl;rw[q];generalize gv k s j=p at *;obtain⟨xs,z⟩:=p;simp only at *;generalize k - 1 - j=i at *;have a:=au (xs:=xs) (i:=i) ω;have b:=au (xs:=xs) (i:=(K3 z (i+1)).toNat) ω;have c:=Hb (xs:=xs) (i:=i) (k:=(K3 z (i+1)).toNat) (nth xs (K3 z (i+1)).toNat) ω
  repeat'(first|refine gE ?_|refine CS ω (aa b) ?_|refine CR rfl rfl (aa a) rfl (O2 rfl) rfl ?_|refine CS ω c ?_|refine CR rfl rfl c rfl (O2 rfl) rfl ?_)
  (refine CQ (j+1) ω ω ?_)
  rw[u];simp only[aI,Lw];exact wB
 obtain rfl:j=k - 1:=ω
 refine σE ?_
 rfl
def EZ(n:Nat)(s:Int)(d:0<=s/\s<=1073741823)(w:n<=64):zzA 276 false [.vI s,.vI (n:Nat)] (.tup [none,none]) (aI .own (shuf n s).1++[I (shuf n s).2]):=by
 have g:=xQ s d;have e:=aQ (n:Nat) 0 64;rw[O0 ω]at e;refine fO 60 [(12,270,[43,44,45,46,47,48,49,50,51,52,53,54,55,56,0,1,2,3,4,5,6,7,8,9,10,11,12,13,1002,1003,14,15])] Tryz.func276 rfl ?_ (.inr (aE (bO _) ⟨tV1,tV1⟩))
 refine σP ?_
 refine lp0 n (λk=>[(0,fI s),(1,fN n),(6,b8 (aI .own (tJ k))),(7,fN k)]) λk y=>?_
 have h:=y5 k;by_cases B:k<n
 ·repeat'(first|refine gE ?_|refine Cf (aR λ_=>rfl) rfl kd qs (eL (rI .own) (tJ k) (k:Int)) ?_)
  (refine CQ (k+1) ω ω ?_)
  rw[Ek];exact wB
 obtain rfl:k=n:=ω
 refine σE ?_
 refine pe (λj:Nat=>[(0,fI ((gv k s j).2)),(6,b8 (aI .own (gv k s j).1)),(8,fI ((k:Int) - 1 - j))]) (λj=>(j<=k - 1/\j<=k)) (λj=>k - j) (0) ω λj C=>?_
 obtain⟨D,l,o⟩:=o8 k d j;by_cases E:j<k - 1
 ·have q:(k:Int) - 1 - j=((k - 1 - j:Nat):Int):=ω
  have r:=uh (gv k s j).2 (n:=((k - 1 - j:Nat)+1:Int)) ω;have t:=zW (gv k s j).2 ((k - 1 - j:Nat)+1:Int) ⟨l,o⟩ ω;have u:gv k s (j+1)=(zx (gv k s j).1 (k - 1 - j) (K3 (gv k s j).2 ((k - 1 - j:Nat)+1:Int)).toNat,ET (gv k s j).2):=rfl;rw[q];generalize gv k s j=p at *;obtain⟨xs,z⟩:=p;simp only at *;generalize k - 1 - j=i at *;have a:=au (xs:=xs) (i:=i) ω;have b:=au (xs:=xs) (i:=(K3 z (i+1)).toNat) ω;have c:=Hb (xs:=xs) (i:=i) (k:=(K3 z (i+1)).toNat) (nth xs (K3 z (i+1)).toNat) ω
  repeat'(first|refine gE ?_|refine CS ω (aa b) ?_|refine CR rfl rfl (aa a) rfl (O2 rfl) rfl ?_|refine CS ω c ?_|refine CR rfl rfl c rfl (O2 rfl) rfl ?_)
  (refine CQ (j+1) ω ω ?_)
  rw[u];simp only[aI,Lw];exact wB
 obtain rfl:j=k - 1:=ω
 refine σE ?_
 rfl
def xZ(b:Int):Nat->Nat
 | 0=>0
 | n+1=>xZ b n+(if br b (n:Nat)=true then 1 else 0)
theorem yc(b:Int):∀n,xZ b n<=n
 | 0=>z5 _
 | n+1=>by have:=yc b n;grind [xZ]
def A4(b:Int)(d:b<=9223372036854775807):zzA 344 false [.vI b] .one [I (xZ b 16:Nat)]:=by
 refine fO 15 [] Tryz.func344 rfl ?_
 refine σP ?_
 refine lp0 16 (λk=>[(0,fI b),(3,fN (xZ b k)),(4,fN k)]) λk g=>?_
 have h:=yc b k;by_cases i:k<16
 ·have a:=kQ b (k:Nat) d
  have c:xZ b (k+1)=xZ b k+(if br b (k:Nat)=true then 1 else 0):=rfl;cases e:br b (k:Nat)<;>rw[e]at a c
  all_goals
   refine σE ?_
   (refine CQ (k+1) ω ω ?_)
   rw[c];exact wB
 obtain rfl:k=16:=ω
 refine σE ?_
 rfl
def AF(b:Int)(d:b<=9223372036854775807):zzA 275 false [.vI b] .one [I (xZ b 16:Nat)]:=by
 refine fO 15 [] Tryz.func275 rfl ?_
 refine σP ?_
 refine lp0 16 (λk=>[(0,fI b),(3,fN (xZ b k)),(4,fN k)]) λk g=>?_
 have h:=yc b k;by_cases i:k<16
 ·have a:=jn b (k:Nat) d
  have c:xZ b (k+1)=xZ b k+(if br b (k:Nat)=true then 1 else 0):=rfl;cases e:br b (k:Nat)<;>rw[e]at a c
  all_goals
   refine σE ?_
   (refine CQ (k+1) ω ω ?_)
   rw[c];exact wB
 obtain rfl:k=16:=ω
 refine σE ?_
 rfl
def wZ(h:ac)(s:aC):Bool:=decide (0<xZ s.a3 16)&&decide ((bh h s.S).length=1)
def lV(h:ac):Nat->List aC
 | 0=>[]
 | n+1=>if wZ h (nth h.J n)=true then lV h n++[nth h.J n] else lV h n
def jB(h:ac):List aC:=lV h h.J.length
theorem ta(h:ac):∀n,(lV h n).length<=n
 | 0=>z5 _
 | n+1=>by have:=ta h n;grind [lV]
theorem yu(h:ac):∀{n:Nat},n<=h.J.length->∀s∈lV h n,s∈h.J
 | 0,_,s,a=>by cases a
 | n+1,b,s,a=>by
  simp only[lV]at a;split at a
  ·rcases v5.1 a with a|a
   ·exact yu h ω s a
   grind [ay]
  exact yu h ω s a
theorem BA(h:ac)(g:AA h)(o:h.J.length<=1000)(p:ge h<=1000)(i:∀s∈h.J,s.a3<=9223372036854775807):zzA 197 false [.val (some 24) (ac.enc .O h)] .one (bH .own (jB h)):=by
 refine fO 42 [(5,16,[13,14,15,16,17,18,19,20,21,22,23,24,25,26,27,28])] Tryz.func197 rfl ?_ (.inr (wG _))
 refine σP ?_
 refine lp0 h.J.length (λk=>[(1,bX (ac.enc .O h)),(3,b8 (bH .own (lV h k))),(4,fN k)]) λk q=>?_
 have j:=ta h k;by_cases e:k<h.J.length
 ·have c:=au e
  have d:=A4 (nth h.J k).a3 (i _ (ay e));have b:=jQ h (nth h.J k).S g;have l:=gR h (nth h.J k).S;have n:=yc (nth h.J k).a3 16;have a:lV h (k+1)=if wZ h (nth h.J k)=true then lV h k++[nth h.J k] else lV h k:=rfl
  by_cases r:0<xZ (nth h.J k).a3 16
  ·by_cases t:(bh h (nth h.J k).S).length=1
   ·rw[CK (by grind [wZ])]at a
    repeat'(first|refine gB ?_|refine CN (b) ⟨⟨rfl,rfl⟩,⟨rfl,rfl⟩,tV1⟩ ?_|refine Cf (aR λ_=>rfl) rfl kd qs (eL (aC.enc .own) (lV h k) (nth h.J k)) ?_)
    (refine CQ (k+1) ω ω ?_)
    rw[a];exact wB
   rw[CJ (by grind [wZ])]at a
   refine σB ?_
   (refine CQ (k+1) ω ω ?_)
   rw[a];exact wB
  rw[CJ (by grind [wZ])]at a
  refine σE ?_
  (refine CQ (k+1) ω ω ?_)
  rw[a];exact wB
 obtain rfl:k=h.J.length:=ω
 refine σE ?_
 rfl
theorem EQ(h:ac)(g:AA h)(o:h.J.length<=1000)(p:ge h<=1000)(i:∀s∈h.J,s.a3<=9223372036854775807):zzA 117 false [.val (some 24) (ac.enc .O h)] .one (bH .own (jB h)):=by
 refine fO 32 [] Tryz.func117 rfl ?_ (.inr (wG _))
 refine σP ?_
 refine lp0 h.J.length (λk=>[(1,bX (ac.enc .O h)),(3,b8 (bH .own (lV h k))),(8,b8 (bH .O h.J)),(9,fI h.J.length),(10,fN k)]) λk q=>?_
 have j:=ta h k;by_cases e:k<h.J.length
 ·have b:=au e
  have c:=AF (nth h.J k).a3 (i _ (ay e));have d:=mM h (nth h.J k).S g;have l:=gR h (nth h.J k).S;have n:=yc (nth h.J k).a3 16;have a:lV h (k+1)=if wZ h (nth h.J k)=true then lV h k++[nth h.J k] else lV h k:=rfl
  by_cases r:0<xZ (nth h.J k).a3 16
  ·by_cases t:(bh h (nth h.J k).S).length=1
   ·rw[CK (by grind [wZ])]at a
    repeat'(first|refine gB ?_|refine Cf (aR λ_=>rfl) rfl kd qs (eL (aC.enc .own) (lV h k) (nth h.J k)) ?_)
    (refine CQ (k+1) ω ω ?_)
    rw[a];exact wB
   rw[CJ (by grind [wZ])]at a
   refine σB ?_
   (refine CQ (k+1) ω ω ?_)
   rw[a];exact wB
  rw[CJ (by grind [wZ])]at a
  refine σE ?_
  (refine CQ (k+1) ω ω ?_)
  rw[a];exact wB
 obtain rfl:k=h.J.length:=ω
 refine σE ?_
 rfl
def D5(s:aC)(c:Nat):Bool:=br s.a3 (((c:Nat):Int) / csz s.Z)
def zT(s:aC)(n:Nat):List Int:=((List.range n).filter (D5 s)).map λ(i:Nat)=>(i:Int)
theorem Q0(h:D5 s n=true):zT s (n+1)=zT s n++[(n:Int)]:=by grind [List.range_succ,zT]
theorem WS(h:D5 s n=false):zT s (n+1)=zT s n:=by grind [List.range_succ,zT]
theorem pp(s:aC)(n:Nat):(zT s n).length<=n:=by grind [zT]
theorem QV(a:bu s=true){c:Nat}(b:c<16):0<=((c:Nat):Int) / csz s.Z/\((c:Nat):Int) / csz s.Z<=15:=by
 have d:=aT a
 grind [dx]
theorem ui(s:aC)(a:bu s=true):zzA 346 false [.val (some 3) (aC.enc .O s)] .one (aI .own (zT s 16)):=by
 have b:=jj s;rw[a]at b;have g:=aT a;have n:=dx g.2.2;refine fO 27 [(5,7,[14,15,16,17,18,19,20])] Tryz.func346 rfl ?_ (.inr (bO _))
 refine σP ?_
 refine lp0 16 (λi=>[(1,bX (aC.enc .O s)),(3,b8 (aI .own (zT s i))),(4,fN i)]) λi o=>?_
 have h:=pp s i;by_cases j:i<16
 ·have k:=QV a j
  have d:IntKind.i64.wrap (((i:Nat):Int).tdiv (csz s.Z))=((i:Nat):Int) / csz s.Z:=by grind [ij]
  have c:=kQ s.a3 (((i:Nat):Int) / csz s.Z) (gF a).2;cases e:D5 s i
  ·rw[show br s.a3 (((i:Nat):Int) / csz s.Z)=false from e]at c
   repeat'(first|refine gE ?_|refine CG (fF _) ?_|refine CU ω ?_|refine CT d ?_)
   (refine CQ (i+1) ω ω ?_)
   rw[WS e];exact wB
  rw[show br s.a3 (((i:Nat):Int) / csz s.Z)=true from e]at c
  repeat'(first|refine gE ?_|refine CG (fF _) ?_|refine CU ω ?_|refine CT d ?_|refine Ce dz (λr l=>by rw[z3.1 l];rfl) (by simp[b6,gj]) kd (by simp only[I2];exact wT kd qs) rfl ?_)
  (refine CQ (i+1) ω ω ?_)
  rw[Q0 e]
  (exact wD)
 obtain rfl:i=16:=ω
 refine σE ?_
 rfl
theorem te(s:aC)(a:bu s=true):zzA 278 false [.val (some 3) (aC.enc .O s)] .one (aI .own (zT s 16)):=by
 have c:=jm s;rw[a]at c;have g:=aT a;have n:=dx g.2.2;refine fO 26 [(7,7,[13,14,15,16,17,18,19])] Tryz.func278 rfl ?_ (.inr (bO _))
 refine σP ?_
 refine lp0 16 (λi=>[(1,bX (aC.enc .O s)),(3,b8 (aI .own (zT s i))),(4,fN i)]) λi o=>?_
 have h:=pp s i;by_cases j:i<16
 ·have k:=QV a j
  have d:IntKind.i64.wrap (((i:Nat):Int).tdiv (csz s.Z))=((i:Nat):Int) / csz s.Z:=by grind [ij]
  have b:=jn s.a3 (((i:Nat):Int) / csz s.Z) (gF a).2;cases e:D5 s i
  ·rw[show br s.a3 (((i:Nat):Int) / csz s.Z)=false from e]at b
   repeat'(first|refine gE ?_|refine CG (dN _) ?_|refine CU ω ?_|refine CT d ?_)
   (refine CQ (i+1) ω ω ?_)
   rw[WS e];exact wB
  rw[show br s.a3 (((i:Nat):Int) / csz s.Z)=true from e]at b
  repeat'(first|refine gE ?_|refine CG (dN _) ?_|refine CU ω ?_|refine CT d ?_|refine Ce dz (λr l=>by rw[z3.1 l];rfl) (by simp[b6,gj]) kd (by simp only[I2];exact wT kd qs) rfl ?_)
  (refine CQ (i+1) ω ω ?_)
  rw[Q0 e]
  (exact wD)
 obtain rfl:i=16:=ω
 refine σE ?_
 rfl
structure fx where
 A:Int
 B:Int
deriving DecidableEq,Inhabited
def fx.enc(_:eS)(x:fx):List C:=[I x.A,I x.B]
def gu(o:eS)(x:List fx):List C:=[.s o (x.map (fx.enc o))]
theorem EM(x:List fx):gl (gu .own x):=⟨⟨.inl ψ,bg _ _ λ_ _=>⟨tV1,tV1,tV1⟩⟩,tV1⟩
theorem Bw(xs:List fx)(pr:fx->Bool)(g:xs.length<=9223372036854775807):zzA 453 false [.val none (gu .O xs),.fn (pk Tryz.prog (sQ (some 2) (fx.enc .O) pr xs))] .one [I (cC pr xs)]:=by
 refine fO 19 [] Tryz.func453 rfl ?_
 refine σP ?_
 refine g0 xs.length (λi=>[(0,b8 (gu .O xs)),(1,.fv (pk Tryz.prog (sQ (some 2) (fx.enc .O) pr xs))),(7,fI xs.length),(8,fN i)]) (λi=>∀(j:Nat)(z:fx),j<i->xs[j]? = some z->pr z=false) ψ λi b=>?_
 obtain⟨b,d⟩:=b;by_cases a:i<xs.length
 ·obtain⟨y,c⟩ : ∃y,xs[i]? = some y:=⟨_,z4 a⟩
  repeat'(first|refine gE ?_|refine Fv.mk (k:=.one) (rcs:=[B (pr y)]) ⟨y,t4 c,rfl,rfl,rfl⟩ ?_|refine Bf.P (λe=>?_) (λe=>?_))
  ·grind [eA]
  (conv=>whnf)
  exact dL (i+1) ψ
 refine σE ?_
 exact eE (gr ω d).symm
theorem xa(xs:List fx)(pr:fx->Bool)(a:xs.length<=9223372036854775807):zzA 391 false [.val none (gu .O xs),.fn (pk Tryz.prog (sQ (some 2) (fx.enc .O) pr xs))] .one [B (xs.any pr)]:=by
 refine fO 9 [] Tryz.func391 rfl ?_
 repeat'(first|refine gP ?_|refine CG (Bw xs pr a) ?_)
 grind [nQ]
def Kw(i:Int)(p:fx):Bool:=decide (p.A=i) || decide (p.B=i)
def LU(p:fx)(i:Int):zzA 392 false [.val (some 2) (fx.enc .O p),.ptr [I i]] .one [B (Kw i p)]:=by
 refine fO 14 [] Tryz.func392 rfl ?_
 repeat'(first|refine gP ?_|refine gS (λa=>?_) (λa=>?_)|fail)
 all_goals exact bE ((by unfold Kw;first|(simp[*];done)|(simp[*];rw[C9];simp)))
def Dk(xs:List fx)(i:Int)(b:xs.length<=1048576):zzA 277 false [.val none (gu .O xs),.vI i] .one [B (xs.any (Kw i))]:=by
 refine fO 8 [] Tryz.func277 rfl ?_
 repeat'(first|refine gP ?_|refine Cq.mk (sQ (some 2) (fx.enc .O) (Kw i) xs) (LU default i).has (λL k rcs a=>?_) ?_|refine CG (xa xs (Kw i) ω) ?_)
 ·obtain⟨y,-,rfl,rfl,rfl⟩:=a
  exact LU y i
 rfl
def jW(a b:aC):bn:=if(zT a 16).length<(zT b 16).length then⟨b.S,a.S,zT a 16⟩ else⟨a.S,b.S,zT b 16⟩
def EW(a b:aC)(g:meshable a b=true)(h:bu a=true)(i:bu b=true):zzA 199 false [.val (some 3) (aC.enc .O a),.val (some 3) (aC.enc .O b)] (.tup [some 3,none]) (bn.enc .own (jW a b)++[B true]):=by
 have c:=qz a b;rw[g]at c;have d:=ui a h;have e:=ui b i;have j:=pp a 16;have k:=pp b 16;unfold jW;split
 ·refine fO 27 [(3,6,[11,12,13,14,15,16]),(5,6,[20,21,22,23,24,25])] Tryz.func199 rfl ?_ (.inr (aE (bn.enc_fr _) ⟨tV1,tV1⟩))
  refine σE ?_
  rfl
 refine fO 27 [(3,6,[11,12,13,14,15,16]),(5,6,[20,21,22,23,24,25])] Tryz.func199 rfl ?_ (.inr (aE (bn.enc_fr _) ⟨tV1,tV1⟩))
 refine σE ?_
 rfl
def FW(a b:aC)(g:meshable a b=true)(h:bu a=true)(i:bu b=true):zzA 119 false [.val (some 3) (aC.enc .O a),.val (some 3) (aC.enc .O b)] (.tup [some 3,none]) (bn.enc .own (jW a b)++[B true]):=by
 have c:=pM a b;rw[g]at c;have d:=te a h;have e:=te b i;have j:=pp a 16;have k:=pp b 16;unfold jW;split
 ·refine fO 34 [(3,3,[13,14,15])] Tryz.func119 rfl ?_ (.inr (aE (bn.enc_fr _) ⟨tV1,tV1⟩))
  refine σE ?_
  rfl
 refine fO 34 [(3,3,[13,14,15])] Tryz.func119 rfl ?_ (.inr (aE (bn.enc_fr _) ⟨tV1,tV1⟩))
 refine σE ?_
 rfl
def Gg(p:bn):bz:=⟨p,0,0⟩
def LD(p:bn)(c:gK p=true)(a:bn.sml p):zzA 200 false [.val (some 3) (bn.enc .O p)] (.tup [some 5,none]) (bz.enc .own (Gg p)++[B true]):=by
 have b:=Aa p a;rw[c]at b;have d:=x7 (Gg p) a;refine fO 11 [] Tryz.func200 rfl ?_ (.inr (aE (bz.enc_fr _) ⟨tV1,tV1⟩))
 refine σP ?_
 rfl
def LS(p:bn)(c:gK p=true)(a:bn.sml p):zzA 120 false [.val (some 3) (bn.enc .O p)] (.tup [some 5,none]) (bz.enc .own (Gg p)++[B true]):=by
 have b:=Aq p a;rw[c]at b;have d:=vz p a;refine fO 11 [] Tryz.func120 rfl ?_ (.inr (aE (bz.enc_fr _) ⟨tV1,tV1⟩))
 refine σP ?_
 rfl
def uH(n:Nat){s:Int}(c:0<=s/\s<=1073741823):∀{j:Nat},j<=n - 1->∀x∈(gv n s j).1,0<=x/\x<n
 | 0,_,x,a=>by
  simp only[gv,tJ,O8,List.mem_range]at a;obtain⟨i,d,rfl⟩:=a;omega
 | j+1,e,x,a=>by
  have f:=(o8 n c j).1;have b:=uH n c (j:=j) ω;have g:=uh (gv n s j).2 (n:=((n - 1 - j:Nat)+1:Int)) ω;simp only[gv,zx]at a;rcases CD a with a|rfl
  ·rcases CD a with a|rfl
   ·exact b x a
   exact b _ (ay ω)
  exact b _ (ay ω)
def tkn(out:List fx)(a:Int):Bool:=out.any (Kw a)
def stp(a:List aC)(p:List Int)(t i:Nat)(out:List fx):List fx:=
 if tkn out (nth p i)=false/\tkn out (nth p (p.length / 2+(i+t) % (p.length - p.length / 2)))=false/\meshable (nth a (nth p i).toNat) (nth a (nth p (p.length / 2+(i+t) % (p.length - p.length / 2))).toNat)=true then out++[⟨nth p i,nth p (p.length / 2+(i+t) % (p.length - p.length / 2))⟩] else out
def vn(a:List aC)(p:List Int)(t:Nat)(out:List fx):Nat->List fx
 | 0=>out
 | i+1=>stp a p t i (vn a p t out i)
def pj(a:List aC)(p:List Int):Nat->List fx
 | 0=>[]
 | t+1=>vn a p t (pj a p t) (p.length / 2)
def X4(a:List aC)(p:List Int)(t i:Nat)(out:List fx):(stp a p t i out).length<=out.length+1:=by unfold stp;split<;>simp
def xd(a:List aC)(p:List Int)(t:Nat)(out:List fx):∀i,(vn a p t out i).length<=out.length+i
 | 0=>z5 _
 | i+1=>by have b:=xd a p t out i;have c:=X4 a p t i (vn a p t out i);simp only[vn];omega
def DX(a:List aC)(p:List Int):∀t,(pj a p t).length<=t*(p.length / 2)
 | 0=>I1 _
 | t+1=>by have b:=DX a p t;have c:=xd a p t (pj a p t) (p.length / 2);simp only[pj];rw[Nat.add_mul];omega
def nJ(a:List aC)(s:Int):List fx:=pj a (shuf a.length s).1 3
def sS(n:Nat)(out:List fx):List Bool:=(List.range n).map λ(i:Nat)=>tkn out (i:Nat)
variable{out:List fx}
def QM(h:0<=a/\a<n):(sS n out)[a.toNat]? = some (tkn out a):=by
 unfold sS;rw[C5,SD ω];show some (tkn out ((a.toNat:Nat):Int))=_;rw[Int.toNat_of_nonneg h.1]
def VU(f:0<=a/\a<n)(g:0<=b/\b<n):sS n (out++[⟨a,b⟩])=((sS n out).set a.toNat true).set b.toNat true:=by
 unfold sS;apply List.ext_getElem?;intro i;by_cases c:i<n
 ·rw[C5,SD c]
  by_cases d:b.toNat=i
  ·subst d
   rw[I6 kd];simp only[CA,tkn,List.any_append,List.any_cons,List.any_nil,Kw];rw[Int.toNat_of_nonneg g.1];simp
  rw[List.getElem?_set_ne d];by_cases e:a.toNat=i
  ·subst e
   rw[I6 kd];simp only[CA,tkn,List.any_append,List.any_cons,List.any_nil,Kw];rw[Int.toNat_of_nonneg f.1];simp
  rw[List.getElem?_set_ne e,C5,SD c];simp only[CA,tkn,List.any_append,List.any_cons,List.any_nil,Kw];rw[C1 ω,C1 ω];simp
 rw[I4 kd,I4 kd]
def Y6(n:Nat):(sS n []).map (rB .own)=List.replicate n [B false]:=by
 unfold sS;rw[List.map_map];apply List.ext_getElem?;intro i;rw[C5];by_cases a:i<n
 ·rw[SD a,List.getElem?_replicate];simp[a];rfl
 rw[I4 kd,List.getElem?_replicate];simp[a]
def Ul{xs:List Bool}{k:Nat}(v:Bool)(a:k<xs.length):((xs.map (rB .own)).set i (rB .own v))[k]? = some (rB .own (nth (xs.set i v) k)):=by
 rw[<-IC];exact aa (au (by rw[C3];exact a))
def AK(c:List aC)(s:Int)(u:0<=s/\s<=1073741823)(V:c.length<=16):zzA 198 false [.val none (bH .O c),.vI s,.vI 3] (.tup [none,none]) (gu .own (nJ c s)++[I (shuf c.length s).2]):=by
 have J:=aU s 0 1073741823;rw[O0 u]at J;have K:=aU 3 0 16;rw[O0 ω]at K;have Q:=Gu c.length s u ω;have D:=(o8 c.length u (c.length - 1)).1;have e:=uH c.length u (z5 _);unfold nJ;change (shuf c.length s).1.length=_ at D;change ∀x∈(shuf c.length s).1,_ at e
 have E:gl (gu .own (pj c (shuf c.length s).1 3)++[I (shuf c.length s).2]):=aE (EM _) ⟨tV1,tV1⟩;generalize shuf c.length s=q at *;obtain⟨p,z⟩:=q;simp only at *;have F:((p.length:Nat):Int).tdiv 2=((p.length / 2:Nat):Int):=by rw[Int.tdiv_eq_ediv_of_nonneg ω];omega
 have g:C.s eS.own ((sS c.length []).map (rB .own))=C.s eS.own (List.replicate c.length [B false]):=by rw[Y6]
 have h:∀i:Nat,i<p.length->0<=nth p i/\nth p i<c.length:=λi R=>e _ (ay R)
 refine fO 110 [(15,21,[73,74,75,76,77,78,79,80,81,82,83,84,85,86,87,88,89,90,91,92,93])] Tryz.func198 rfl ?_ (.inr E)
 repeat'(first|refine gE ?_|with_reducible refine CT ((O1 _ F).trans (ij ω ω)) ?_|refine CU qs ?_|refine Mk.mk c.length rfl rfl ω (wT ω qs) rfl ?_)
 refine CV (ι:=Nat) (λt=>[(0,b8 (bH .O c)),(2,fI 3),(8,b8 (gu .own (pj c p t))),(9,b8 (aI .own p)),(10,fI z),(11,fN ((p.length / 2))),(12,b8 (iq .own (sS c.length (pj c p t)))),(13,fN t)]) (λt=>t<=3) (λt=>3 - t) (0) ?_ (I1 _) λt S=>?_
 ·repeat'(first|exact tV1|rfl |exact a0l g|refine CL ?_ ?_|(exact wkI (by first|omega|(simp only;omega)|(simp;omega))))
 have W:=DX c p t;have ol2:t*(p.length / 2)<=3*8:=Nat.mul_le_mul S ω;by_cases X:t<3
 ·refine σE ?_
  refine CV (ι:=Nat) (λj=>[(0,b8 (bH .O c)),(2,fI 3),(8,b8 (gu .own (vn c p t (pj c p t) j))),(9,b8 (aI .own p)),(10,fI z),(11,fN ((p.length / 2))),(12,b8 (iq .own (sS c.length (vn c p t (pj c p t) j)))),(13,fN t),(14,fN j)]) (λj=>j<=p.length / 2) (λj=>p.length / 2 - j) (0) ?_ (I1 _) λj Y=>?_
  ·repeat'(first|exact tV1|rfl |exact a0l g|refine CL ?_ ?_|(exact wkI (by first|omega|(simp only;omega)|(simp;omega))))
  have Z:=xd c p t (pj c p t) j;by_cases lj:j<p.length / 2
  ·have L:(j+t) % (p.length - p.length / 2)<p.length - p.length / 2:=Nat.mod_lt _ ω
   have G:((j:Int)+t).tmod ((p.length:Int) - (p.length / 2:Nat))=(((j+t) % (p.length - p.length / 2):Nat):Int):=by
    rw[fH ω,Int.natCast_emod];congr 1;omega
   have d:vn c p t (pj c p t) (j+1)=stp c p t j (vn c p t (pj c p t) j):=rfl;unfold stp at d;generalize vn c p t (pj c p t) j=out at *;have l:p.length / 2+(j+t) % (p.length - p.length / 2)<p.length:=ω
   generalize hk:(j+t) % (p.length - p.length / 2)=k at *;have n:=au (xs:=p) (i:=j) ω;have o:=au (xs:=p) (i:=p.length / 2+k) l;have w:=h j ω;have r:=h _ l;generalize nth p j=a at *;generalize nth p (p.length / 2+k)=b at *;have y:=QM (out:=out) w;have H:=QM (out:=out) r;have T:=au (xs:=c) (i:=a.toNat) ω;have U:=au (xs:=c) (i:=b.toNat) ω;have M:=qz (nth c a.toNat) (nth c b.toNat);have ub2:=Ul (xs:=sS c.length out) (i:=a.toNat) (k:=b.toNat) true (by simp[sS];omega);cases N:tkn out a<;>cases O:tkn out b<;>cases P:meshable (nth c a.toNat) (nth c b.toNat)
   all_goals
    rw[N]at y;rw[O]at H;rw[P]at M;rw[N,O,P]at d;simp only[and_true,true_and,if_true,Bool.false_eq_true,Bool.true_eq_false,and_false,false_and,if_false]at d
    repeat'(first|refine gE ?_|refine CY G ?_|refine CU ω ?_|refine CS ω (aa o) ?_|refine CS w.1 (aa y) ?_|refine CS r.1 (aa H) ?_|refine CS w.1 (aa T) ?_|refine CS r.1 (aa U) ?_|refine CR rfl rfl (aa y) rfl (O2 rfl) rfl ?_|refine CS r.1 ub2 ?_|refine CR rfl rfl ub2 rfl (O2 rfl) rfl ?_|refine Cf (aR λ_=>rfl) rfl kd qs (eL (fx.enc .own) out ⟨a,b⟩) ?_)
    (refine CQ (j+1) ω ω ?_)
    rw[d]
    first|(rw[VU w r];simp only[iq,IC])|skip
    exact wB
  obtain rfl:j=p.length / 2:=ω
  refine σE ?_
  (exact dL (t+1) ω)
 obtain rfl:t=3:=ω
 refine σE ?_
 rfl
def wO(x:List fx):du (gu .own x)=gu .O x:=by simp[du,gu,fx.enc,<-cf,OB]
def AC(c:List aC)(s:Int)(r:0<=s/\s<=1073741823)(Y:c.length<=16):zzA 118 false [.val none (bH .O c),.vI s,.vI 3] (.tup [none,none]) (gu .own (nJ c s)++[I (shuf c.length s).2]):=by
 have O:=xQ s r;have H:=aQ 3 0 16;rw[O0 ω]at H;have P:=EZ c.length s r ω;have g:=(o8 c.length r (c.length - 1)).1;have h:=uH c.length r (z5 _);unfold nJ;change (shuf c.length s).1.length=_ at g;change ∀x∈(shuf c.length s).1,_ at h
 have y:gl (gu .own (pj c (shuf c.length s).1 3)++[I (shuf c.length s).2]):=aE (EM _) ⟨tV1,tV1⟩;generalize shuf c.length s=q at *;obtain⟨p,z⟩:=q;simp only at *;have B:((p.length:Nat):Int).tdiv 2=((p.length / 2:Nat):Int):=by rw[Int.tdiv_eq_ediv_of_nonneg ω];omega
 have D:fz (C.s eS.own (p.map (rI .own)))=C.s eS.O (p.map (rI .O)):=(List.cons.inj (eI p)).1;have l:(p.drop (p.length / 2)).length=p.length - p.length / 2:=O5 ..;have Q:(p.take (p.length / 2)).length=p.length / 2:=by rw[I3];omega
 have n:∀i:Nat,i<p.length->0<=nth p i/\nth p i<c.length:=λi R=>h _ (ay R)
 have d:((c.length:Nat):Int).tdiv 2=((p.length / 2:Nat):Int):=by rw[<-g];exact B
 refine fO 99 [(5,264,[39,40,41,42,43,44,45,46,0,1,2,3,4,5,6,7,8,1004,1005,1006,1007,9]),(14,19,[69,70,71,72,73,74,75,76,77,78,79,80,81,82,83,84,85,86,87]),(1048581,9,[0])] Tryz.func118 rfl ?_ (.inr y)
 repeat'(first|refine gE ?_|with_reducible refine CT ((O1 _ d).trans (ij ω ω)) ?_|refine CU qs ?_|refine Nw.mk rfl D rfl ?_|refine CZ (p.length / 2) d (by rw[I2];omega) (aR λ_=>rfl) C8 ?_|refine Ci (p.length / 2) d (by rw[I2];omega) (aR λ_=>rfl) I8 ?_)
 refine lp0 3 (λt=>[(0,b8 (bH .O c)),(2,fI 3),(10,fI z),(11,b8 (aI .O (p.take (p.length / 2)))),(12,b8 (aI .O (p.drop (p.length / 2)))),(13,b8 (gu .own (pj c p t))),(14,fN t)]) λt S=>?_
 have Z:=DX c p t;have ol2:t*(p.length / 2)<=3*8:=Nat.mul_le_mul S ω;by_cases lt:t<3
 ·refine σE ?_
  refine lp0 (p.length / 2) (λj=>[(0,b8 (bH .O c)),(2,fI 3),(10,fI z),(11,b8 (aI .O (p.take (p.length / 2)))),(12,b8 (aI .O (p.drop (p.length / 2)))),(13,b8 (gu .own (vn c p t (pj c p t) j))),(14,fN t),(53,b8 (aI .O (p.take (p.length / 2)))),(54,fN ((p.length / 2))),(55,fN j)]) λj hj=>?_
  have rl:=xd c p t (pj c p t) j;by_cases T:j<p.length / 2
  ·have J:(j+t) % (p.length - p.length / 2)<p.length - p.length / 2:=Nat.mod_lt _ ω
   have E:((j:Int)+t).tmod ((p.length - p.length / 2:Nat):Int)=(((j+t) % (p.length - p.length / 2):Nat):Int):=by
    rw[fH ω,Int.natCast_emod];congr 1
   have e:vn c p t (pj c p t) (j+1)=stp c p t j (vn c p t (pj c p t) j):=rfl;unfold stp at e;generalize vn c p t (pj c p t) j=out at *;have o:p.length / 2+(j+t) % (p.length - p.length / 2)<p.length:=ω
   generalize hk:(j+t) % (p.length - p.length / 2)=k at *;have F:(p.take (p.length / 2))[j]? = some (nth p j):=by rw[List.getElem?_take,CK T];exact au ω
   have G:(p.drop (p.length / 2))[k]? = some (nth p (p.length / 2+k)):=by rw[List.getElem?_drop];exact au o
   have U:=n j ω;have V:=n _ o;generalize nth p j=a at *;generalize nth p (p.length / 2+k)=b at *;have K:=Dk out a ω;have L:=Dk out b ω;have W:=au (xs:=c) (i:=a.toNat) ω;have X:=au (xs:=c) (i:=b.toNat) ω;have M:=pM (nth c a.toNat) (nth c b.toNat);cases u:tkn out a<;>cases w:tkn out b<;>cases N:meshable (nth c a.toNat) (nth c b.toNat)
   all_goals
    unfold tkn at u w;rw[u]at K;rw[w]at L;change (tkn out a)=_ at u;change (tkn out b)=_ at w;rw[N]at M;rw[u,w,N]at e;simp only[and_true,true_and,if_true,Bool.false_eq_true,Bool.true_eq_false,and_false,false_and,if_false]at e
    repeat'(first|refine gE ?_|refine CY (z:=(k:Int)) (by rw[l];exact E) ?_|refine Cc (show List.length (List.map _ (p.drop (p.length / 2)))=p.length - p.length / 2 by rw[I2];exact l) ?_|refine CU ω ?_|refine CS ω (aa G) ?_|refine CS U.1 (aa W) ?_|refine CS V.1 (aa X) ?_|refine CN (K) ⟨⟨rfl,wO _⟩,⟨rfl,rfl⟩,tV1⟩ ?_|refine CN (L) ⟨⟨rfl,wO _⟩,⟨rfl,rfl⟩,tV1⟩ ?_|refine Cf (aR λ_=>rfl) rfl kd qs (eL (fx.enc .own) out ⟨a,b⟩) ?_)
    (refine CQ (j+1) ω ω ?_)
    rw[e];exact wB
  obtain rfl:j=p.length / 2:=ω
  refine σE ?_
  (exact dL (t+1) ω)
 obtain rfl:t=3:=ω
 refine σE ?_
 rfl
def ah.fzR{sh:Bool}{A:List RA}{k:Kd}{rcs:List C}(h:ah P f sh A k rcs):ah P f sh A k (du rcs):=by
 obtain⟨c,d⟩:=h;refine⟨c,λw S g i j=>(d w S g i j).mono λe w1 l=>?_⟩;obtain⟨v,n,p,X,S1,q,r,y,t,u⟩:=l;refine⟨v,n,p,NO,λb o=>S1 b o\/X b o,λ_ _ h=>h.elim,λb o a=>?_,λ_ _ h=>h.elim,by rw[cf,I2];exact t,u.freeze⟩;rcases a with a|a
 ·exact r b o a
 exact .inr (q b o a)
structure Ye(ls:List aC)(q:fx):Prop where
 a:0<=q.A/\q.A<ls.length
 b:0<=q.B/\q.B<ls.length
 m:meshable (nth ls q.A.toNat) (nth ls q.B.toNat)=true
def QR{b:List aC}{p:List Int}(c:∀x∈p,0<=x/\x<b.length)(t:Nat){out:List fx}(d:∀q∈out,Ye b q):∀{i:Nat},i<=p.length / 2->∀q∈vn b p t out i,Ye b q
 | 0,_=>d
 | i+1,h=>λq a=>by
  have e:=QR c t d (i:=i) ω;simp only[vn,stp]at a;split at a
  ·rename_i g
   rcases v5.1 a with a|a
   ·exact e q a
   obtain rfl:=z3.1 a;have f:(i+t) % (p.length - p.length / 2)<p.length - p.length / 2:=Nat.mod_lt _ ω;exact⟨c _ (ay ω),c _ (ay ω),g.2.2⟩
  exact e q a
def Rv{a:List aC}{p:List Int}(b:∀x∈p,0<=x/\x<a.length):∀t,∀q∈pj a p t,Ye a q
 | 0=>λq c=>by cases c
 | t+1=>QR b t (Rv b t) (z5 _)
def vV(a:List aC){s:Int}(b:0<=s/\s<=1073741823):∀q∈nJ a s,Ye a q:=Rv (uH a.length b (z5 _)) 3
def X9(s:aC)(n:Nat):(zT s n).Pairwise (· < ·):=by
 unfold zT;rw[List.pairwise_map];exact(List.pairwise_lt_range.sublist List.filter_sublist).imp λh=>ω
def ZD : ∀z∈zT s n,0<=z/\z<n:=λz a=>by
 unfold zT at a;simp only[O8,S8,List.mem_range]at a;obtain⟨c,⟨b,-⟩,rfl⟩:=a;omega
def ED(s:aC):dK (zT s 16).length (ss (zT s 16))=true:=by
 refine cK.2 λj a=>?_
 have c:=ZD _ (ay a);unfold ss;refine O0 ⟨ω,ω,?_⟩;by_cases e:j=0
 ·exact .inl e
 refine .inr ?_;have b:=List.pairwise_iff_getElem.1 (X9 s 16) (j - 1) j ω a ω;rw[show nth (zT s 16) (j - 1)=(zT s 16)[j - 1] from bI (z4 ω),show nth (zT s 16) j=(zT s 16)[j] from bI (z4 a)];exact b
def yv{a b:aC}(c:meshable a b=true):gK (jW a b)=true/\bu a=true/\bu b=true:=by
 unfold meshable at c;simp only[I0,C0]at c;have d:=aT c.1.1;have e:=aT c.1.2;refine⟨?_,c.1⟩;unfold jW gK;split
 ·simp only[I0,C0];exact⟨ED a,ω⟩
 simp only[I0,C0];exact⟨ED b,ω⟩
def Du(a b:aC):bn.sml (jW a b):=by
 have c:=pp a 16;have d:=pp b 16;unfold jW bn.sml lN;split<;>simp only<;>omega
def cq(h:ac):List aC:=(jB h).take 16
def started(h:ac):ac × Bool:=match nJ (cq h) h.b3 with
 | []=>({h with b3:=(shuf (cq h).length h.b3).2},false)
 | q::_=>({h with b3:=(shuf (cq h).length h.b3).2,w:=true,a2:=Gg (jW (nth (cq h) q.A.toNat) (nth (cq h) q.B.toNat))},true)
def Nj(a:bo h E):h.J.length<=32/\ge h<=32/\AA h/\∀s∈h.J,s.a3<=9223372036854775807:=by
 have b:=a.lens;refine⟨b.spans,b.ents,?_,λs c=>by have:=f8 (a.L.sok s c);omega⟩;have:=(bq a.ker).1.2;exact this
def DK(h:ac):(cq h).length<=16:=by unfold cq;rw[I3];omega
def VB(x:List fx)(z:Int):du (gu .own x++[I z])=gu .O x++[I z]:=by
 have h:=wO x;rw[cf]at h |-;rw[IB,h];simp[fz]
def Z8(h:ac):(cq h).map (aC.enc .O)=((jB h).map (aC.enc .O)).take 16:=C8
def PA(p:bn)(b:gK p=true)(c:bn.sml p):zzA 200 false [.val (some 3) (bn.enc .O p)] (.tup [some 5,none]) (Dy (Gg p)++[B true]):=by
 have h:=(LD p b c).fzR;have e:du (bz.enc .own (Gg p)++[B true])=Dy (Gg p)++[B true]:=by
  have a:=bz.enc_fz (Gg p);rw[cf]at a |-;rw[IB,a];simp[fz,bz.enc,Dy]
 rwa [e]at h
def Ft(h:ac)(w:bo h []):zzB 73 false [.ptr (bT h)] [.ptr (bT (started h).1)] .one [B (started h).2]:=by
 obtain⟨w1,Q,H,J⟩:=Nj w;have a:=w.nums;unfold cU at a;rw[C0]at a;have e:=(BA h H ω ω J).fzR;rw[f7]at e;have o:=DK h;have b:=(AK (cq h) h.b3 ⟨a.1,a.2.1⟩ o).fzR;rw[VB]at b;have g:=vV (cq h) ⟨a.1,a.2.1⟩;have K:=ta h h.J.length;have y:(jB h).length<=32:=by unfold jB;omega
 have j:=Z8 h;unfold started;cases C:nJ (cq h) h.b3 with
 | nil=>
  rw[C]at b;by_cases L:16<(jB h).length
  ·refine fM 62 [] [(8,275,[34,35,36,37,38,39,40,41,42,43,44,45,46,47,48,33,49,50,6,0,1,2,3,4,5,6,7,8,9,10,11,12,13,14,15,16,17,18,19,1017,20])] [(0,0)] Tryz.func73 rfl (λu q=>?_)
   repeat'(first|refine gE ?_|refine CN (e) ⟨⟨rfl,bY h⟩,tV1⟩ ?_|refine CZ 16 rfl (by rw[I2];omega) (aR λ_=>rfl) j ?_)
   exact kk
  have k:cq h=jB h:=by unfold cq;exact OE ω
  rw[k]at b;refine fM 62 [] [(8,275,[34,35,36,37,38,39,40,41,42,43,44,45,46,47,48,33,49,50,6,0,1,2,3,4,5,6,7,8,9,10,11,12,13,14,15,16,17,18,19,1017,20])] [(0,0)] Tryz.func73 rfl (λu q=>?_);rw[k]
  repeat'(first|refine gE ?_|refine CN (e) ⟨⟨rfl,bY h⟩,tV1⟩ ?_)
  exact kk
 | cons q M=>
  rw[C]at b g;obtain⟨E,F,G⟩:=g q (O3 ..);obtain⟨N,O,P⟩:=yv G;have p:=EW _ _ G O P;have t:=PA _ N (Du _ _);have c:=au (xs:=cq h) (i:=q.A.toNat) ω;have d:=au (xs:=cq h) (i:=q.B.toNat) ω;have l:(q::M)[0]? = some q:=rfl;by_cases L:16<(jB h).length
  ·refine fM 62 [] [(8,275,[34,35,36,37,38,39,40,41,42,43,44,45,46,47,48,33,49,50,6,0,1,2,3,4,5,6,7,8,9,10,11,12,13,14,15,16,17,18,19,1017,20])] [(0,0)] Tryz.func73 rfl (λu r=>?_)
   repeat'(first|refine gE ?_|with_reducible refine Bf.D (λn=>absurd n (by simp)) (λn=>?_)|refine CN (e) ⟨⟨rfl,bY h⟩,tV1⟩ ?_|refine CZ 16 rfl (by rw[I2];omega) (aR λ_=>rfl) j ?_|refine CS qs (aa l) ?_|refine CS E.1 (aa c) ?_|refine CS F.1 (aa d) ?_|refine CN (t) ⟨⟨rfl,bn.enc_fz _⟩,tV1⟩ ?_)
   exact kk
  have k:cq h=jB h:=by unfold cq;exact OE ω
  rw[k]at b p t c d;refine fM 62 [] [(8,275,[34,35,36,37,38,39,40,41,42,43,44,45,46,47,48,33,49,50,6,0,1,2,3,4,5,6,7,8,9,10,11,12,13,14,15,16,17,18,19,1017,20])] [(0,0)] Tryz.func73 rfl (λu r=>?_);rw[k]
  repeat'(first|refine gE ?_|with_reducible refine Bf.D (λn=>absurd n (by simp)) (λn=>?_)|refine CN (e) ⟨⟨rfl,bY h⟩,tV1⟩ ?_|refine CS qs (aa l) ?_|refine CS E.1 (aa c) ?_|refine CS F.1 (aa d) ?_|refine CN (t) ⟨⟨rfl,bn.enc_fz _⟩,tV1⟩ ?_)
  exact kk
def Jx(h:ac):ac × Bool:=if h.w=false/\dQ h=true then started h else(h,false)
def Kv(h:ac)(g:ac.sml h)(i:¬(h.w=false/\dQ h=true)):zzA 31 false [.val (some 24) (ac.enc .O h)] (.tup [some 24,none]) (dv h++[B false]):=by
 have a:=cR h g;rw[eR]at a;have b:=ec h g;have c:ac.enc .O h=(ac.enc .O h).set 18 (B h.w):=rfl;cases d:h.w
 ·have j:dQ h=false:=by
   rcases Bool.eq_false_or_eq_true (dQ h) with e|e
   ·exact absurd ⟨d,e⟩ i
   exact e
  rw[j]at a;rw[d]at c;rw[c]at a b |-;refine fO 66 [(10,275,[41,42,43,44,45,46,47,48,49,50,51,52,53,54,55,40,56,57,8,0,1,2,3,4,5,6,7,8,9,10,11,12,13,14,15,16,17,18,19,1017,20])] Tryz.func31 rfl ?_ (.inr (aE (cj _) ⟨tV1,tV1⟩))
  refine σP ?_
  rfl
 rw[d]at c;rw[c]at a b |-;refine fO 66 [(10,275,[41,42,43,44,45,46,47,48,49,50,51,52,53,54,55,40,56,57,8,0,1,2,3,4,5,6,7,8,9,10,11,12,13,14,15,16,17,18,19,1017,20])] Tryz.func31 rfl ?_ (.inr (aE (cj _) ⟨tV1,tV1⟩))
 refine σP ?_
 rfl
def FM(h:ac)(t:ac.sml h)(H:h.w=false)(u:dQ h=true):zzA 31 false [.val (some 24) (ac.enc .O h)] (.tup [some 24,none]) (dv (started h).1++[B (started h).2]):=by
 have w:=bo.of u;obtain⟨w1,U,J,K⟩:=Nj w;have a:=w.nums;unfold cU at a;rw[C0]at a;have j:=cR h t;rw[eR,u]at j;have l:=ec h t;have k:=(EQ h J ω ω K).fzR;rw[f7]at k;have n:=DK h;have c:=(AC (cq h) h.b3 ⟨a.1,a.2.1⟩ n).fzR;rw[VB]at c;have d:=vV (cq h) ⟨a.1,a.2.1⟩;have L:=ta h h.J.length;have y:(jB h).length<=32:=by unfold jB;omega
 have g:(cq h).map (aC.enc .O)=((jB h).map (aC.enc .O)).take (cq h).length:=by
  unfold cq;rw[C8,I3];by_cases e:16<=(jB h).length
  ·rw[Nat.min_eq_left e]
  rw[Nat.min_eq_right ω,OE (by rw[I2];omega),OE (by rw[I2];omega)]
 have b:(cq h).length=if(jB h).length<=16 then(jB h).length else 16:=by unfold cq;rw[I3];split<;>omega
 have C:ac.enc .O h=(ac.enc .O h).set 18 (B h.w):=rfl;rw[H]at C;rw[C]at j l k |-;unfold started;cases E:nJ (cq h) h.b3 with
 | nil=>
  rw[E]at c;refine fO 66 [(10,275,[41,42,43,44,45,46,47,48,49,50,51,52,53,54,55,40,56,57,8,0,1,2,3,4,5,6,7,8,9,10,11,12,13,14,15,16,17,18,19,1017,20])] Tryz.func31 rfl ?_ (.inr (aE (cj _) ⟨tV1,tV1⟩))
  repeat'(first|refine gP ?_|refine CY (z:=((cq h).length:Int)) (by rw[b];simp;split<;>split<;>omega) ?_|refine CZ (cq h).length rfl (by rw[I2,b];split<;>omega) (aR λ_=>rfl) g ?_)
  rfl
 | cons q M=>
  rw[E]at c d;obtain⟨N,O,F⟩:=d q (O3 ..);obtain⟨P,Q,R⟩:=yv F;have S:=FW _ _ F Q R;have T:=LS _ P (Du _ _);have o:=au (xs:=cq h) (i:=q.A.toNat) ω;have p:=au (xs:=cq h) (i:=q.B.toNat) ω;have r:(q::M)[0]? = some q:=rfl;refine fO 66 [(10,275,[41,42,43,44,45,46,47,48,49,50,51,52,53,54,55,40,56,57,8,0,1,2,3,4,5,6,7,8,9,10,11,12,13,14,15,16,17,18,19,1017,20])] Tryz.func31 rfl ?_ (.inr (aE (cj _) ⟨tV1,tV1⟩))
  repeat'(first|refine gP ?_|with_reducible refine Bf.D (λG=>absurd G (by simp)) (λG=>?_)|refine CY (z:=((cq h).length:Int)) (by rw[b];simp;split<;>split<;>omega) ?_|refine CZ (cq h).length rfl (by rw[I2,b];split<;>omega) (aR λ_=>rfl) g ?_|refine CS qs (aa r) ?_|refine CS N.1 (aa o) ?_|refine CS O.1 (aa p) ?_|refine CN (T) ⟨⟨rfl,bn.enc_fz _⟩,tV1⟩ ?_)
  rfl
def B2(h:ac)(a:ac.sml h):zzA 31 false [.val (some 24) (ac.enc .O h)] (.tup [some 24,none]) (dv (Jx h).1++[B (Jx h).2]):=by
 unfold Jx;split
 ·rename_i e;exact FM h a e.1 e.2
 rename_i e;exact Kv h a e
theorem Po(xs:List Int)(x:Int)(g:xs.length<=4611686018427387904):zzA 476 false [.val none (aI .O xs),.vI x] .one [I (cC (λy=>decide (y=x)) xs)]:=by
 refine fO 19 [] Tryz.func476 rfl ?_
 refine σP ?_
 refine g0 xs.length (λi=>[(0,b8 (aI .O xs)),(1,fI x),(7,fI xs.length),(8,fN i)]) (λi=>∀(j:Nat)(z:Int),j<i->xs[j]? = some z->decide (z=x)=false) ψ λi a=>?_
 obtain⟨a,c⟩:=a;by_cases d:i<xs.length
 ·have b:=au d
  by_cases e:nth xs i=x
  ·repeat'(first|refine gE ?_|refine Bf.t (by simp[e]) ?_)
   grind [eA]
  repeat'(first|refine gE ?_|refine Bf.f (by simp[Ne.symm e]) ?_)
  (exact dL (i+1) ψ)
 refine σE ?_
 exact eE (gr ω c).symm
theorem vH(xs:List Int)(x:Int)(a:xs.length<=4611686018427387904):zzA 442 false [.val none (aI .O xs),.vI x] .one [B (decide (x∈xs))]:=by
 refine fO 9 [] Tryz.func442 rfl ?_
 repeat'(first|refine gP ?_|refine CG (Po xs x a) ?_)
 grind [nQ]
def eC(k:af):af:={k with Calls:=k.Calls+1}
def refd(k:af):Bool:=decide (k.Calls∈k.k)
def sw(k:af)(a:af.sml k)(d:0<=k.Calls/\k.Calls<=100000):zzA 445 false [.val (some 5) (af.enc .O k)] (.tup [some 5,none]) (af.enc .own (eC k)++[B (!refd k)]):=by
 have c:=i7 k a;have g:k.k.length<=1048576:=a.2;have b:=vH k.k k.Calls ω;unfold refd;cases e:decide (k.Calls∈k.k)<;>rw[e]at b
 all_goals
  refine fO 18 [(3,263,[11,12,13,14,15,16,17,0,1,2,3,4,5,6,7,1006,8])] Tryz.func445 rfl ?_ (.inr (aE (Ck _) ⟨tV1,tV1⟩))
  refine σP ?_
  rfl
def E9(k:af)(p:Int)(m:Int):af:={k with F:=⟨k.F.V,⟨k.F.R.M.set p.toNat {nth k.F.R.M p.toNat with o:=m}⟩⟩}
def kn(k:af)(p m:Int):af × Bool:=if refd k=true then(eC k,false) else(E9 (eC k) p m,true)
theorem y1(k:af)(p m:Int):af.enc .own (E9 k p m)=(af.enc .own k).set 2 (.s .own ((k.F.R.M.map (aS.enc .own)).set p.toNat (aS.enc .own {nth k.F.R.M p.toNat with o:=m}))):=by grind [IC,af.enc,E9]
def vJ(k:af)(p m:Int)(b:aN k=true)(n:k.Calls≠100000)(j:(ax k.F.R p).o≠0)(a:m=1\/m=2):zzA 395 false [.val (some 5) (af.enc .O k),.vI p,.vI m] (.tup [some 5,none]) (af.enc .own (kn k p m).1++[B (kn k p m).2]):=by
 have c:=bq b;have o:=(aM.1 b).2.2.2;have d:=jp k c;rw[b,O0 n]at d;have g:=sw k c ω;have h:=gh k p c.1.2;rw[O0 j]at h;obtain⟨q,r,t⟩:=bV b j;have l:=au (xs:=k.F.R.M) (i:=p.toNat) ω;unfold kn;cases e:refd k<;>rw[e]at g
 ·rw[CJ (by simp),y1]
  rcases a with rfl|rfl
  all_goals
   refine fO 46 [] Tryz.func395 rfl ?_ (.inr (aE (by rw[<-y1];exact Ck _) ⟨tV1,tV1⟩))
   repeat'(first|refine gP ?_|refine CS q (aa l) ?_|refine CR rfl rfl (aa l) rfl (O2 rfl) rfl ?_)
   rfl
 rw[CK rfl];rcases a with rfl|rfl
 all_goals
  refine fO 46 [] Tryz.func395 rfl ?_ (.inr (aE (Ck _) ⟨tV1,tV1⟩))
  refine σP ?_
  rfl
variable{k:af}
theorem row16(a:aN k=true)(b:f<k.F.V.U.length):(nth k.F.V.U f).length=16:=by grind [bk,aM,jH]
def setCell(k:af)(f:Nat)(c v:Int):af:={k with F:=⟨⟨k.F.V.U.set f ((nth k.F.V.U f).set c.toNat v),k.F.V.y⟩,k.F.R⟩}
theorem Ad(k:af)(f:Nat)(c v:Int):af.enc .own (setCell k f c v)=(af.enc .own k).set 0 (.s .own ((k.F.V.U.map (aI .own)).set f [.s .own (((nth k.F.V.U f).map (rI .own)).set c.toNat [I v])])):=by grind [IC,af.enc,setCell,aI,rI]
def kK(k:af)(p:Int):Nat:=(ax k.F.R p).g.toNat
def xR(k:af)(a b c:Int):af:=setCell k (kK k b) c (nth (nth k.F.V.U (kK k a)) c.toNat)
def QO(k:af)(a b c:Int):Nat->af
 | 0=>k
 | _+1=>xR k a b c
def NI(k:af)(a b c:Int)(d:aN k=true)(C:k.Calls≠100000)(q:(ax k.F.R a).o≠0)(r:(ax k.F.R b).o≠0)(e:0<=c/\c<=15):zzA 396 false [.val (some 5) (af.enc .O k),.vI a,.vI b,.val none (aI .O [c])] (.tup [some 5,none]) (af.enc .own (xR k a b c)++[B true]):=by
 have h:=bq d;have t:=jp k h;rw[d,O0 C]at t;have D:=i7 k h;have u:=gh k a h.1.2;have w:=gh k b h.1.2;rw[O0 q]at u;rw[O0 r]at w;have E:=dl k.F.R a h.1.2;have F:=dl k.F.R b h.1.2;have y:=Hv c;rw[O0 e]at y;obtain⟨-,-,-,G,K⟩:=bV d q;obtain⟨-,-,-,H,L⟩:=bV d r;have J:=(bk.1 (aM.1 d).2.1).2.2.1;have M:=row16 d (f:=kK k a) (by unfold kK;omega);have N:=row16 d (f:=kK k b) (by unfold kK;omega);have l:k.F.V.U[(ax k.F.R a).g.toNat]? = some (nth k.F.V.U (kK k a)):=au ω;have g:k.F.V.U[(ax k.F.R b).g.toNat]? = some (nth k.F.V.U (kK k b)):=au ω;have o:=au (xs:=nth k.F.V.U (kK k a)) (i:=c.toNat) ω;have n:=au (xs:=nth k.F.V.U (kK k b)) (i:=c.toNat) ω;have p:[c][0]? = some c:=rfl;refine fO 77 [(4,268,[33,34,35,36,37,38,39,40,41,42,43,44,0,1,2,3,4,5,6,7,8,9,10,11,12,1011,13]),(10,18,[56,57,58,59,60,61,62,63,64,65,66,67,68,69,70,71,72,73])] Tryz.func396 rfl ?_ (.inr (aE (Ck _) ⟨tV1,tV1⟩))
 refine σP ?_
 refine lp0 1 (λj=>[(4,bX (af.enc .O k)),(8,bX (af.enc .own ⟨⟨⟨[],[]⟩,⟨[]⟩⟩,0,[]⟩)),(10,bX (af.enc .own (QO k a b c j))),(11,fI ((ax k.F.R a).g)),(12,fI ((ax k.F.R b).g)),(45,b8 (aI .O [c])),(46,fI 1),(47,fN j)]) λj O=>?_
 by_cases P:j<1
 ·obtain rfl:j=0:=ω
  repeat'(first|refine gE ?_|refine CS qs (aa p) ?_|refine CS G (aa l) ?_|refine CS H (aa g) ?_|refine CS e.1 (aa o) ?_|refine CS e.1 (aa n) ?_|refine Pu.two rfl rfl (aa g) rfl rfl rfl (aa n) rfl (z5 _) rfl ?_)
  (refine CQ 1 ω ω ?_)
  rw[show QO k a b c 1=xR k a b c from rfl];unfold xR;rw[Ad];exact wB
 obtain rfl:j=1:=ω
 refine σE ?_
 rfl
def Az(k:af)(p:Nat)(e:aS):af:={k with F:=⟨k.F.V,⟨k.F.R.M.set p e⟩⟩}
theorem LI(k:af)(p:Nat)(e:aS):af.enc .own (Az k p e)=(af.enc .own k).set 2 (.s .own ((k.F.R.M.map (aS.enc .own)).set p (aS.enc .own e))):=by grind [IC,af.enc,Az]
def KE(p:Nat)(e:aS)(h:aL.sml k.F.R):aL.sml (Az k p e).F.R:=by
 refine⟨?_,λx _=>tV1⟩;show(k.F.R.M.set p e).length<=_;rw[C3];exact h.1
def D8(k:af)(p o:Int):af × Bool:=if refd k=true then(eC k,false) else(j9 (Az (eC k) p.toNat ⟨2,(nth k.F.R.M o.toNat).g⟩) (nth k.F.R.M p.toNat).g,true)
def jb(m:aH)(a v:Int):aH × Int:=
 if(ax m.R (a / 16)).o=0 then(m,1) else if(ax m.R (a / 16)).o=1 then(m,2) else
 (⟨⟨m.V.U.set (ax m.R (a / 16)).g.toNat ((nth m.V.U (ax m.R (a / 16)).g.toNat).set (a % 16).toNat v),m.V.y⟩,m.R⟩,0)
def xD(m:aH)(a:Int)(d:db m=true)(b:aH.sml m)(e:0<=a/\a<512):zzA 388 false [.val (some 3) (aH.enc .O m),.vI a] .agg (aS.enc .own (ax m.R (a / 16))):=by
 have c:=uz m b;rw[d]at c;have g:=dl m.R (a / 16) b.2;refine fO 18 [] Tryz.func388 rfl ?_ (.inr ⟨tV1,tV1,tV1⟩)
 repeat'(first|refine gE ?_|refine CT (mi e) ?_|refine CU qs ?_)
 rfl
theorem De(m:aH)(f:Nat)(c v:Int):aH.enc .own ⟨⟨m.V.U.set f ((nth m.V.U f).set c.toNat v),m.V.y⟩,m.R⟩ = (aH.enc .own m).set 0 (.s .own ((m.V.U.map (aI .own)).set f [.s .own (((nth m.V.U f).map (rI .own)).set c.toNat [I v])])):=by grind [IC,aH.enc,aI,rI]
def Bv(m:aH)(a v:Int)(p:db m=true)(k:aH.sml m)(l:0<=a/\a<512)(q:0<=v/\v<=999)(r:(ax m.R (a / 16)).o≠0->0<=(ax m.R (a / 16)).g/\(ax m.R (a / 16)).g<m.V.U.length/\(nth m.V.U (ax m.R (a / 16)).g.toNat).length=16):zzA 266 false [.val (some 3) (aH.enc .O m),.vI a,.vI v] (.tup [some 3,none]) (aH.enc .own (jb m a v).1++[I (jb m a v).2]):=by
 have d:=lw m k;have e:=xD m a p k l;have c:=aQ v 0 999;rw[O0 q]at c;have b:=aH.enc_fr (jb m a v).1;unfold jb at b |-;by_cases g:(ax m.R (a / 16)).o=0
 ·rw[CK g]at b |-
  refine fO 42 [] Tryz.func266 rfl ?_ (.inr (aE b ⟨tV1,tV1⟩))
  refine σB ?_
  rfl
 rw[CJ g]at b |-;by_cases n:(ax m.R (a / 16)).o=1
 ·rw[CK n]at b |-
  refine fO 42 [] Tryz.func266 rfl ?_ (.inr (aE b ⟨tV1,tV1⟩))
  refine σB ?_
  rfl
 rw[CJ n]at b |-;obtain⟨t,u,w⟩:=r g;have h:=au (xs:=m.V.U) (i:=(ax m.R (a / 16)).g.toNat) ω;have o:=au (xs:=nth m.V.U (ax m.R (a / 16)).g.toNat) (i:=(a % 16).toNat) ω;simp only at b |-;rw[De]at b |-;have j:a.tmod 16=a % 16:=fH l.1;refine fO 42 [] Tryz.func266 rfl ?_ (.inr (aE b ⟨tV1,tV1⟩))
 repeat'(first|refine gB ?_|refine CY j ?_|refine CU qs ?_|refine CS t (aa h) ?_|refine CS ω (aa o) ?_|refine Pu.two rfl rfl (aa h) rfl rfl rfl (aa o) rfl (z5 _) rfl ?_)
 rfl
def Na(k:af)(p o:Int)(a:aN k=true)(w:k.Calls≠100000)(l:(ax k.F.R p).o≠0)(n:(ax k.F.R o).o≠0)(y:p≠o):zzA 397 false [.val (some 5) (af.enc .O k),.vI p,.vI o] (.tup [some 5,none]) (af.enc .own (D8 k p o).1++[B (D8 k p o).2]):=by
 have b:=bq a;have C:=(aM.1 a).2.2.2;have c:=jp k b;rw[a,O0 w]at c;have d:=sw k b ⟨ω,ω⟩;have g:=gh k p b.1.2;have h:=gh k o b.1.2;rw[O0 l]at g;rw[O0 n]at h;obtain⟨D,H,E,q,r⟩:=bV a l;obtain⟨F,J,K,L,M⟩:=bV a n;have G:=(bk.1 (aM.1 a).2.1).2.2.1;have j:=au (xs:=k.F.R.M) (i:=p.toNat) ω;have t:=au (xs:=k.F.R.M) (i:=o.toNat) ω;rw[E]at q r;have u:=yb (Az (eC k) p.toNat ⟨2,(nth k.F.R.M o.toNat).g⟩) (nth k.F.R.M p.toNat).g (KE _ _ b.1.2) ⟨q,by show _<((k.F.V.U.length:Nat):Int);omega,r⟩;rw[LI]at u;unfold D8;cases e:refd k<;>rw[e]at d
 ·rw[CJ (by simp)]
  refine fP 63 [(447,[2,0]),(1000010,[])] [] Tryz.func397 rfl ?_ (.inr (aE (Ck _) ⟨tV1,tV1⟩))
  repeat'(first|refine gB ?_|refine CS D (aa j) ?_|refine CS F (aa t) ?_|refine CR rfl rfl (aa j) rfl (O2 rfl) rfl ?_)
  rfl
 rw[CK rfl];refine fP 63 [(447,[2,0]),(1000010,[])] [] Tryz.func397 rfl ?_ (.inr (aE (Ck _) ⟨tV1,tV1⟩))
 refine σP ?_
 rfl
def jmay(k:af)(j:bz):Bool:=(aN k&&decide (k.Calls≠100000))&&(md j&&decide ((ax k.F.R j.d.a5).o≠0/\(ax k.F.R j.d.a7).o≠0/\(ax k.F.R j.d.a5).g≠(ax k.F.R j.d.a7).g))
def jstep(k:af)(j:bz):af × bz:=
 if j.a8=0 then((kn k j.d.a7 1).1,{j with a8:=if(kn k j.d.a7 1).2=true then 1 else 5})
 else if j.a8=1 then(if j.j=j.d.U.length then(k,{j with a8:=2}) else(xR k j.d.a7 j.d.a5 (nth j.d.U j.j.toNat),{j with j:=j.j+1}))
 else if j.a8=2 then((D8 k j.d.a7 j.d.a5).1,{j with a8:=if(D8 k j.d.a7 j.d.a5).2=true then 4 else 3})
 else if j.a8=3 then(if 0<j.j then({k with F:=(jb k.F (j.d.a5*16+nth j.d.U (j.j - 1).toNat) 0).1},{j with j:=j.j - 1}) else((kn k j.d.a7 2).1,{j with a8:=if(kn k j.d.a7 2).2=true then 5 else 3}))
 else(k,j)
theorem W2{f:Int}(h1:∀j,j<k.k.length->0<=nth k.k j)(h2:dM k.F.V=true)(c:iM k.F.R k.F.V.y.length=true)(g:∀j:Nat,j<k.F.V.y.length->(j:Int)≠f->nth k.F.V.y j=decide (0<(pagesOn k.F.R (j:Int)).length))(p:0<=f/\f<k.F.V.y.length)(h:nth k.F.V.y f.toNat=true)(d:0<=k.Calls/\k.Calls<=100000/\k.k.length<=40):aN (j9 k f)=true:=by
 obtain⟨i,l,n,q⟩:=bk.1 h2;unfold j9;split
 ·rename_i o
  rw[aM];simp only[C3];refine⟨h1,?_,c,λj b=>?_,d⟩
  ·rw[bk]
   simp only[C3,dd];refine⟨i,l,n,λj b=>?_⟩;by_cases a:f.toNat=j
   ·rw[CK ⟨a,b⟩,CK ⟨a,ω⟩];decide
   grind
  rw[dd];by_cases a:f.toNat=j
  ·grind
  rw[CJ (λe=>a e.1)];exact g j b ω
 rename_i o;rw[aM];refine⟨h1,h2,c,λj b=>?_,d⟩;by_cases a:(j:Int)=f
 ·rw[a,show j=f.toNat by omega,h]
  grind
 grind
def tEq(t a:aL):Prop:=a.M.length=t.M.length/\∀q:Nat,((nth a.M q).o≠0↔(nth t.M q).o≠0)/\(nth a.M q).g=(nth t.M q).g
theorem tEq.refl(t:aL):tEq t t:=⟨rfl,λ_=>⟨Iff.rfl,rfl⟩⟩
theorem tEq.of{t a:aL}(h:a=t):tEq t a:=by grind [tEq.refl]
theorem tEq.pagesOn{t a:aL}(h:tEq t a)(f:Int):Ab.pagesOn a f=Ab.pagesOn t f:=by
 unfold Ab.pagesOn ns;rw[h.1]
 congr 1
 refine List.filter_congr λq _=>?_
 obtain⟨b,c⟩:=h.2 q;unfold Xe;rw[c];exact decide_eq_decide.2 (and_congr b Iff.rfl)
theorem HE(h:aN k=true){a:aL}(c:tEq k.F.R a)(d:∀q,q<a.M.length->0<=(nth a.M q).o/\(nth a.M q).o<=2):aN {k with F:=⟨k.F.V,a⟩} = true:=by
 obtain⟨e,f,g,r,i⟩:=aM.1 h;obtain⟨l,n,o⟩:=bF.1 g;rw[aM];refine⟨e,f,bF.2 ⟨λj b=>?_,?_,?_⟩,λj b=>?_,i⟩
 ·replace b:j<a.M.length:=b
  have t:=l j (by rw[<-c.1];exact b);have p:=d j b;obtain⟨u,w⟩:=c.2 j
  grind [qY]
 ·show 1<=a.M.length;rw[c.1];exact n
 ·show a.M.length<=32;rw[c.1];exact o
 grind [tEq.pagesOn]
def qW(h:aN k=true)(f:k.Calls≠100000):aN (eC k)=true:=by
 obtain⟨a,b,c,d,g,i,e⟩:=aM.1 h;rw[aM];exact⟨a,b,c,d,by show 0<=k.Calls+1;omega,by show k.Calls+1<=100000;omega,e⟩
variable{p m:Int}
theorem G9(b:(nth k.F.R.M p.toNat).o≠0)(a:m=1\/m=2):tEq k.F.R (E9 k p m).F.R:=by
 refine⟨by simp[E9],λq=>?_⟩
 grind [dd,E9]
theorem UF(h:aN k=true)(d:(nth k.F.R.M p.toNat).o≠0)(a:m=1\/m=2):aN (E9 k p m)=true:=by
 refine HE h (G9 d a) λq g=>?_
 obtain⟨i,j,e,l,n⟩:=aM.1 h;obtain⟨f,o,r⟩:=bF.1 e;have b:q<k.F.R.M.length:=ψ
 have c:=f q b;unfold qY at c;rw[C0]at c;simp only[dd]
 grind
def Lv(h:aN k=true)(c:k.Calls≠100000)(b:(ax k.F.R p).o≠0)(a:m=1\/m=2):aN (kn k p m).1=true/\tEq k.F.R (kn k p m).1.F.R:=by
 obtain⟨e,f,d,-⟩:=bV h b;rw[d]at b;unfold kn;split
 ·exact⟨qW h c,tEq.refl _⟩
 exact⟨UF (qW h c) b a,G9 (k:=eC k) b a⟩
theorem lz(h:aN k=true)(a:(ax k.F.R p).o≠0):kK k p<k.F.V.U.length/\nth k.F.V.y (kK k p)=true/\((kK k p:Nat):Int)=(nth k.F.R.M p.toNat).g:=by
 obtain⟨c,d,e,f,g⟩:=bV h a;obtain⟨i,b,j,l,n⟩:=aM.1 h;obtain⟨o,q,r,t⟩:=bk.1 b;have u:((kK k p:Nat):Int)=(ax k.F.R p).g:=by unfold kK;omega
 grind [gH]
theorem WU(h:aN k=true){r':List Int}(i:r'.length=16)(l:∀v∈r',0<=v/\v<=999)(n:nth k.F.V.y f=true):aN {k with F:=⟨⟨k.F.V.U.set f r',k.F.V.y⟩,k.F.R⟩} = true:=by
 obtain⟨a,b,c,d,e⟩:=aM.1 h;obtain⟨o,p,q,r⟩:=bk.1 b;refine aM.2 ⟨a,bk.2 ⟨?_,?_,?_,λj g=>?_⟩,c,d,e⟩
 ·grind
 ·grind
 ·grind
 simp only[C3]at g |-;simp only[dd]
 grind [jH,kY]
theorem Jw(h:aN k=true)(a:f<k.F.V.U.length):(nth k.F.V.U f).length=16/\∀v∈nth k.F.V.U f,0<=v/\v<=999:=by grind [aM,bk,jH,kY]
theorem wz(h:aN k=true)(a:f<k.F.V.U.length)(b:nth k.F.V.y f=true){c v:Int}(d:0<=v/\v<=999):aN (setCell k f c v)=true:=by
 obtain⟨e,g⟩:=Jw h a;refine WU h ψ (λz i=>?_) b
 grind
def V1(h:aN k=true){c:Int}(d:(ax k.F.R a).o≠0)(e:(ax k.F.R b).o≠0)(l:0<=c/\c<=15):aN (xR k a b c)=true:=by
 obtain⟨f,n,-⟩:=lz h d;obtain⟨g,i,-⟩:=lz h e;obtain⟨o,j⟩:=Jw h f;exact wz h g i (j _ (ay ω))
variable{o:Int}
theorem Z0(h:aN k=true)(i:k.Calls≠100000)(c:(ax k.F.R p).o≠0)(d:(ax k.F.R o).o≠0)(l:p≠o):aN (D8 k p o).1=true:=by
 unfold D8;split
 ·exact qW h i
 obtain⟨H,n,r⟩:=lz h c;obtain⟨J,K,L⟩:=lz h d;obtain⟨M,N,t,e,f⟩:=bV h c;obtain⟨O,P,u,w,y⟩:=bV h d;obtain⟨A,B,C,D,Q,R,E⟩:=aM.1 h;obtain⟨S,T,U⟩:=bF.1 C;rw[u]at w y d;rw[t]at e f c;have a:∀q,nth (k.F.R.M.set p.toNat ⟨2,(nth k.F.R.M o.toNat).g⟩) q=if p.toNat=q then⟨2,(nth k.F.R.M o.toNat).g⟩ else nth k.F.R.M q:=λq=>by
  rw[dd];by_cases g:p.toNat=q
  ·rw[CK ⟨g,ω⟩,CK g]
  grind
 refine W2 A B (bF.2 ⟨λj b=>?_,?_,?_⟩) (λj b F=>?_) ⟨e,f⟩ (by rw[<-r];exact n) ⟨by show 0<=k.Calls+1;omega,by show k.Calls+1<=100000;omega,E⟩
 ·simp only[Az,eC,C3]at b |-
  rw[a]
  grind [qY]
 ·grind [Az,eC]
 ·grind [Az,eC]
 replace b:j<k.F.V.y.length:=b;show nth k.F.V.y j=_;rw[D j b];refine decide_eq_decide.2 ?_;rw[gH,gH];simp only[Az,eC,C3,a];constructor
 ·rintro⟨q,G,V,W⟩
  refine⟨q,G,?_⟩
  grind
 grind
theorem Yf(h:aN k=true)(a:(ax k.F.R p).o≠0)(b:(D8 k p o).2=true)(q:Nat):(D8 k p o).1.F.R.M.length=k.F.R.M.length/\nth (D8 k p o).1.F.R.M q=if(q:Int)=p then⟨2,(nth k.F.R.M o.toNat).g⟩ else nth k.F.R.M q:=by
 obtain⟨c,d,-⟩:=bV h a
 grind [uV,dd,D8,Az,eC]
theorem Zt(a:(D8 k p o).2=false):(D8 k p o).1=eC k:=by grind [D8]
def Tm{v:Int}(h:aN k=true)(g:0<=a)(b:0<=v/\v<=999):aN {k with F:=(jb k.F a v).1} = true/\(jb k.F a v).1.R=k.F.R:=by
 unfold jb;split
 ·exact⟨h,rfl⟩
 rename_i d;split
 ·exact⟨h,rfl⟩
 obtain⟨e,f,-⟩:=lz h d;exact⟨wz h e f (c:=a % 16) b,rfl⟩
def Z9(t:aL)(p:Int):Prop:=∀q:Nat,(nth t.M q).o≠0->(nth t.M q).g=(nth t.M p.toNat).g->(q:Int)=p
structure JI(h:ac):Prop where
 ph:h.w=true->0<=h.a2.a8/\h.a2.a8<=3
 sp:h.w=true->∃a∈h.J,∃b∈h.J,a.S=h.a2.d.a5/\b.S=h.a2.d.a7/\meshable a b=true
 sk:h.w=true->Z9 (tbl h) h.a2.d.a5
 sm:h.w=true->Z9 (tbl h) h.a2.d.a7
theorem Pg.tEq{t b:aL}{c:List aD}{sp:List aC}{la:List aA}(h:Pg t c sp la)(a:tEq t b):Pg b c sp la where
 one l hl p hp q hq h1 h2:=h.one l hl p hp q (by rw[<-a.1];exact hq) ((a.2 q).1.1 h1) (by rw[<-(a.2 q).2,<-(a.2 p).2];exact h2)
 bnd p hp:=by rw[a.1];exact h.bnd p hp
 own p hp:=(a.2 p).1.trans (h.own p (by rw[<-a.1];exact hp))
 fre p hp:=(a.2 p).1.trans (h.fre p (by rw[<-a.1];exact hp))
 mesh s hs u hu hne hf:=h.mesh s hs u hu hne (by rw[<-(a.2 _).2,<-(a.2 u.S.toNat).2];exact hf)
theorem bo.step(a:bo h E)(b:aN k=true)(c:k.F.R.M.length=(tbl h).M.length)(d:Pg k.F.R h.a h.J h.H){j:bz}{m:Bool}(h1:m=true->md j=true/\(∃s∈h.J,s.S=j.d.a5)/\∃s∈h.J,s.S=j.d.a7)(h2:m=false->Ar j=true):bo {h with G:=k,w:=m,a2:=j} E:=
 {a with
   ker:=b
   rng:=by show bR ((k.F.R.M.length:Nat):Int) h.a=true;rw[c];exact a.rng
   pg:=d
   job:=h1
   noj:=h2}
variable{la:List aA}{sp:List aC}
theorem sj.apart(a:sj sp la)(b:s∈sp){l:aA}(c:l∈la)(d:p∈lpgs l l.a0.toNat):s.S≠p:=by grind [sj.dis,lpgs]
theorem Pg.on{t w:aL}{F:List aD}(g:Pg t F sp la)(k:sj sp la){a b:aC}(G:a∈sp)(N:b∈sp)(hm:meshable a b=true)(o:Z9 t a.S)(C:(nth t.M a.S.toNat).o≠0)(O:(nth t.M b.S.toNat).o≠0)(P:0<=b.S)(Q:w.M.length=t.M.length)(A:∀q:Nat,nth w.M q=if(q:Int)=b.S then⟨2,(nth t.M a.S.toNat).g⟩ else nth t.M q):Pg w F sp la:=by
 have c:∀q:Nat,(nth w.M q).o≠0↔(nth t.M q).o≠0:=ψ
 have R:0<=a.S:=by have:=k.sok a G;grind [bu]
 refine⟨λl r p n q hq S D=>?_,λp n=>by rw[Q];exact g.bnd p n,λp n=>(c p).trans (g.own p ω),λp n=>(c p).trans (g.fre p ω),λs H u J T h=>?_⟩
 ·have E:¬(p:Int)=b.S:=λe=>k.apart N r n e.symm
  rw[A p,CJ E,A q]at D;rw[c]at S;by_cases e:(q:Int)=b.S
  ·rw[CK e]at D
   have K:=g.one l r p n a.S.toNat (by have:=g.bnd _ (fR (la:=la) G);omega) C D
   grind [sj.apart]
  grind [Pg.one]
 have U:0<=s.S:=by have:=k.sok s H;grind [bu]
 have V:0<=u.S:=by have:=k.sok u J;grind [bu]
 have L:∀x∈sp,∀y∈sp,x.S=y.S->x=y:=λx B y W e=>by
  obtain⟨i,X,rfl⟩:=b9 B;obtain⟨j,Y,rfl⟩:=b9 W;rw[iO (f:=(·.S)) k.nd X Y e]
 have d:∀x∈sp,(nth t.M x.S.toNat).o≠0:=λx B=>by
  have Z:0<=x.S:=by have:=k.sok x B;grind [bu]
  refine(g.own x.S.toNat (by have:=g.bnd _ (fR (la:=la) B);omega)).2 ?_
  grind [fR]
 rw[A,A]at h;simp only[show((s.S.toNat:Nat):Int)=s.S by omega,show((u.S.toNat:Nat):Int)=u.S by omega]at h;by_cases M:s.S=b.S
 ·rw[CK M,CJ ω]at h
  have K:=o u.S.toNat (d u J) h.symm
  grind [qL]
 rw[CJ M]at h;by_cases eu:u.S=b.S
 ·rw[CK eu]at h
  have K:=o s.S.toNat (d s H) h
  grind
 grind [Pg.mesh]
def over(j:bz):Bool:=decide (j.a8=4\/j.a8=5)
def iU(k:af)(j:bz):af × bz:=if jmay k j=true then jstep k j else(k,j)
def mStep(h:ac):ac:={h with G:=(iU h.G h.a2).1,w:=if over (iU h.G h.a2).2=true then false else h.w,a2:=if over (iU h.G h.a2).2=true then⟨⟨0,0,[]⟩,0,0⟩ else(iU h.G h.a2).2}
def zG(h:ac):Bool:=decide ((iU h.G h.a2).2.a8=4)
theorem iG{j:bz} : md j=true↔gK j.d=true/\0<=j.a8/\j.a8<=5/\0<=j.j/\j.j<=j.d.U.length:=by grind [md]
theorem lC{p:bn}(h:gK p=true)(a:i<p.U.length):0<=nth p.U i/\nth p.U i<=15:=by grind [gY,gK,ss]
structure JS(h:ac)(k:af)(j:bz):Prop where
 ker:aN k=true
 len:k.F.R.M.length=(tbl h).M.length
 pg:j.a8≠4\/JI h->Pg k.F.R h.a h.J h.H
 ph:0<=j.a8/\j.a8<=5
 plan:j.d=h.a2.d
 nxt:0<=j.j/\j.j<=j.d.U.length
 eq:j.a8≠4->tEq (tbl h) k.F.R
 calls:h.G.Calls<=k.Calls/\k.Calls<=h.G.Calls+1/\k.k=h.G.k
def Ec(k:af)(p m:Int):(kn k p m).1.Calls=k.Calls+1/\(kn k p m).1.k=k.k:=by
 unfold kn;split<;>exact⟨rfl,rfl⟩
def VE(k:af)(p o:Int):(D8 k p o).1.Calls=k.Calls+1/\(D8 k p o).1.k=k.k:=by
 unfold D8;split
 ·exact⟨rfl,rfl⟩
 obtain⟨-,a,b,-⟩:=uV (Az (eC k) p.toNat ⟨2,(nth k.F.R.M o.toNat).g⟩) (nth k.F.R.M p.toNat).g;simp only[a,b];exact⟨rfl,rfl⟩
theorem JS.of(c:bo h E)(H:h.w=true):JS h (iU h.G h.a2).1 (iU h.G h.a2).2:=by
 obtain⟨N,-,-⟩:=c.job H;obtain⟨J,t,u,n,o⟩:=iG.1 N;unfold iU;split
 case isFalse=>exact⟨c.ker,rfl,λ_=>c.pg,⟨t,u⟩,rfl,⟨n,o⟩,λ_=>tEq.refl _,O9 _,ψ,rfl⟩
 rename_i d;unfold jmay at d;simp only[I0,C0]at d;obtain⟨⟨-,A⟩,-,w,p,O⟩:=d;have fin:∀(k:af)(j:bz),aN k=true->tEq (tbl h) k.F.R->0<=j.a8/\j.a8<=5->j.d=h.a2.d->0<=j.j/\j.j<=j.d.U.length->h.G.Calls<=k.Calls/\k.Calls<=h.G.Calls+1/\k.k=h.G.k->JS h k j:=
  λk j P B Q R S T=>⟨P,B.1,λ_=>c.pg.tEq B,Q,R,S,λ_=>B,T⟩
 have K:=(aM.1 c.ker).2.2.2.2;unfold jstep;split
 ·obtain⟨g,r⟩:=Lv c.ker A p (m:=1) (.inl rfl)
  obtain⟨y,C⟩:=Ec h.G h.a2.d.a7 1;refine fin _ _ g r ?_ rfl ⟨n,o⟩ ψ
  grind
 split
 ·split
  ·exact fin _ _ c.ker (tEq.refl _) ψ rfl ⟨n,o⟩ ψ
  have l:=lC J (i:=h.a2.j.toNat) ω;refine fin _ _ (V1 c.ker p w l) (tEq.refl _) ⟨t,u⟩ rfl ψ ⟨O9 _,by show h.G.Calls<=h.G.Calls+1;omega,rfl⟩
 split
 ·have D:h.a2.d.a7≠h.a2.d.a5:=ψ
  have g:=Z0 c.ker A p w D;obtain⟨y,C⟩:=VE h.G h.a2.d.a7 h.a2.d.a5;cases e:(D8 h.G h.a2.d.a7 h.a2.d.a5).2 with
  | false=>
   rw[CJ (by simp)];refine fin _ _ g (tEq.of ?_) ψ rfl ⟨n,o⟩ ψ;rw[Zt e];rfl
  | true=>
   rw[CK rfl];obtain⟨U,m2,m3,-⟩:=bV c.ker p;obtain⟨n1,n2,n3,-⟩:=bV c.ker w;have f:=Yf c.ker p e;refine⟨g,(f 0).1,λV=>?_,ψ,rfl,⟨n,o⟩,ψ,by rw[y];omega,by rw[y];omega,C⟩;have W:JI h:=ψ
   obtain⟨a,X,b,Y,M,F,G⟩:=W.sp H;refine c.pg.on c.L X Y G (by grind [JI.sk]) (by rw[M];show(nth h.G.F.R.M _).o≠0;grind) (by rw[F];show(nth h.G.F.R.M _).o≠0;grind) (by rw[F];exact U) (f 0).1 λq=>?_
   rw[(f q).2,F,M];rfl
 split
 ·split
  ·rename_i Z
   have l:=lC J (i:=(h.a2.j - 1).toNat) ω;have hk0:=(bV c.ker w).1;obtain⟨g,r⟩:=Tm c.ker (a:=h.a2.d.a5*16+nth h.a2.d.U (h.a2.j - 1).toNat) (v:=0) ω ω;exact fin _ _ g (tEq.of r) ⟨t,u⟩ rfl ψ ⟨O9 _,ψ,rfl⟩
  obtain⟨g,r⟩:=Lv c.ker A p (m:=2) (.inr rfl);obtain⟨y,C⟩:=Ec h.G h.a2.d.a7 2;refine fin _ _ g r ?_ rfl ⟨n,o⟩ ψ
  grind
 exact fin _ _ c.ker (tEq.refl _) ⟨t,u⟩ rfl ⟨n,o⟩ ψ
def y3(k:af)(a:Int):Int:=nth (nth k.F.V.U (ax k.F.R (a / 16)).g.toNat) (a % 16).toNat
def cellsOf(k:af)(a:Int)(n:Nat):List Int:=(List.range n).map λ(i:Nat)=>y3 k (a+i)
theorem ru{n:Int}(h:0<=aZ n):1<=n/\n<=8:=by grind [aZ]
def a2c{α:Type}[Inhabited α](f:α->Int)(xs:List α):Nat->Int
 | 0=>0
 | i+1=>a2c f xs i+f (nth xs i)
def bor(n m:Int):Int:=((n.toNat ||| m.toNat:Nat):Int)
def tX(sp:List aC)(p:Int)(b:Int):Nat->Int
 | 0=>b
 | j+1=>if(nth sp j).S=p then bor (tX sp p b j) (nth sp j).a3 else tX sp p b j
def jL(sp:List aC)(ps:List Int)(b:Int):Nat->Int
 | 0=>b
 | k+1=>tX sp (nth ps k) (jL sp ps b k) sp.length
def fp(h:ac)(i:Nat):Int:=jL h.J (bh h (nth h.J i).S) (nth h.J i).a3 (bh h (nth h.J i).S).length
def Pf{n:Int}(h1:0<=n/\n<=65535)(h2:0<=m/\m<=65535):0<=bor n m/\bor n m<=65535:=by
 have a:n.toNat ||| m.toNat<2 ^ 16:=Nat.or_lt_two_pow ω ω
 unfold bor;omega
theorem pD(h:∀s∈sp,bu s=true)(a:j<sp.length):0<=(nth sp j).a3/\(nth sp j).a3<=65535:=by
 have b:=h _ (ay a);have c:=Qr (nth sp j).Z
 grind [bu]
theorem AR{sp:List aC}(h:∀s∈sp,bu s=true){p b:Int}(a:0<=b/\b<=65535):∀j,j<=sp.length->0<=tX sp p b j/\tX sp p b j<=65535
 | 0,_=>a
 | j+1,d=>by
  have c:=AR h (p:=p) a j ω;simp only[tX];split
  ·exact Pf c (pD h ω)
  exact c
def oU{sp:List aC}(h:∀s∈sp,bu s=true){ps:List Int}{b:Int}(a:0<=b/\b<=65535):∀k,0<=jL sp ps b k/\jL sp ps b k<=65535
 | 0=>a
 | k+1=>by simp only[jL];exact AR h (oU h a k) _ (z5 _)
theorem se{i:Int}(a:0<=b)(c:0<=i/\i<=15):br b i=b.toNat.testBit i.toNat:=by grind [br]
theorem Qq{n i:Int}(b:0<=n)(c:0<=m)(a:0<=i/\i<=15):br (bor n m) i=(br n i || br m i):=by
 rw[se (by unfold bor;omega) a,se b a,se c a];unfold bor
 simp_all
theorem Nd{sp:List aC}(h:∀s∈sp,bu s=true){p b i:Int}(a:0<=b/\b<=65535)(c:0<=i/\i<=15):∀j,j<=sp.length->(br (tX sp p b j) i=true↔br b i=true\/∃q,q<j/\(nth sp q).S=p/\br (nth sp q).a3 i=true)
 | 0,_=>by simp[tX]
 | j+1,d=>by
  have e:=Nd h (p:=p) a c j ω
  grind [AR,pD,Qq,tX]
theorem H5{sp:List aC}(h:∀s∈sp,bu s=true){ps:List Int}{b i:Int}(d:0<=b/\b<=65535)(f:0<=i/\i<=15):∀k,(br (jL sp ps b k) i=true↔br b i=true\/∃u,u<k/\∃q,q<sp.length/\(nth sp q).S=nth ps u/\br (nth sp q).a3 i=true)
 | 0=>by simp[jL]
 | k+1=>by
  have g:=H5 h (ps:=ps) d f k;have j:=oU h (ps:=ps) d k;simp only[jL];rw[Nd h j f _ (z5 _),g];constructor
  ·rintro((e|⟨u,c,a⟩)|⟨q,c,a⟩)
   ·exact .inl e
   ·exact .inr ⟨u,ω,a⟩
   exact .inr ⟨k,ω,q,c,a⟩
  rintro(e|⟨u,c,a⟩)
  ·exact .inl (.inl e)
  by_cases l:u=k
  ·grind
  exact .inl (.inr ⟨u,ω,a⟩)
end Go.Proofs.YtcblmfpcekokjaaGreat.Ab
