/- Slots, caches and the quarantine: contracts of what freeing needs. No condition. -/
import Derived.Test.YtjooeakgbamfnaaGreatKRd
import Derived.Test.YtjooeakgbamfnaaGreatKRe
import Derived.Deep.LoopGhost
import Derived.Deep.RegionLaw
import Derived.Lib.Walk
import Derived.Sort.WalkB12
import Derived.Lib.SliceRun
import Derived.Shelf.RegionOpenPlain
set_option linter.unusedVariables false
set_option linter.defProp false
set_option linter.unusedSimpArgs false
set_option linter.constructorNameAsVariable false
namespace Go.Proofs.YtjooeakgbamfnaaGreat.Ab
open Go.RowKit
set_option maxRecDepth 20000
set_option maxHeartbeats 4000000
theorem shl64{i:Int}(a:0<=i/\i<=15):IntKind.i64.wrap (1*2 ^ min i.toNat IntKind.i64.bits)=2 ^ i.toNat/\0<=(2:Int) ^ i.toNat/\(2:Int) ^ i.toNat<=32768:=by
 have b:min i.toNat IntKind.i64.bits=i.toNat:=Nat.min_eq_left (show i.toNat<=64 by omega);have c:(0:Int)<=2 ^ i.toNat/\(2:Int) ^ i.toNat<=32768:=by
  have:(2:Nat) ^ i.toNat<=2 ^ 15:=Nat.pow_le_pow_right qs ω
  grind
 grind [ia]
variable{b:Int}
theorem clr64{i:Int}(a:0<=b/\b<=65535):IntKind.i64.wrap ((BitVec.ofInt IntKind.i64.bits b &&& ~~~BitVec.ofInt IntKind.i64.bits (2 ^ i.toNat)).toNat:Nat)=B1 b i:=by
 have:=Jq (i:=i) a
 grind [ia,B1]
theorem yh(b i:Int)(c:0<=b/\b<=65535)(d:0<=i/\i<=15):zzA 454 false [.vI b,.vI i] .one [I (B1 b i)]:=by
 have a:=uD b i;rw[O0 ω]at a;have e:IntKind.u64.wrap i=i:=by grind [Go.IntKind.wrap,Go.IntKind.bits]
 refine fO 15 [] Tryz.func454 rfl ?_
 repeat'(first|refine gP ?_|refine CT ω ?_|refine CS e ?_|refine CS (shl64 d).1 ?_|refine CS (clr64 c) ?_)
 rfl
def ym(b i:Int)(c:0<=b/\b<=65535)(d:0<=i/\i<=15):zzA 415 false [.vI b,.vI i] .one [I (B1 b i)]:=by
 have a:=ux b i;rw[O0 ω]at a;refine fO 14 [] Tryz.func415 rfl ?_
 repeat'(first|refine gP ?_|refine CT ω ?_|refine CS (shl64 d).1 ?_|refine CS (clr64 c) ?_)
 rfl
variable{s:aA}
theorem PT{k:Int}(a:bo s.a6 k=true):0<=k/\k<=15:=by grind [lZ]
def FQ(s:aA)(k:Int)(a:bq s=true)(b:bo s.a6 k=true):zzA 368 false [.val (some 3) (aA.enc .O s),.vI k] (.tup [some 3,none]) (aA.enc .own (nj s k)++[B true]):=by
 have e:=eM a;have g:=PT b;have c:=iW s;have d:=kC s.a6 k ω;rw[a]at c;rw[b]at d;refine fO 23 [] Tryz.func368 rfl ?_ (.inr (a7 (aA.enc_fr _) ⟨tV1,tV1⟩))
 repeat'(first|refine gP ?_|refine CF (yh s.a6 k e g) ?_)
 rfl
def FH(s:aA)(k:Int)(a:bq s=true)(b:bo s.a6 k=true):zzA 293 false [.val (some 3) (aA.enc .O s),.vI k] (.tup [some 3,none]) (aA.enc .own (nj s k)++[B true]):=by
 have e:=eM a;have g:=PT b;have c:=iM s;have d:=jb s.a6 k ω;rw[a]at c;rw[b]at d;refine fO 23 [] Tryz.func293 rfl ?_ (.inr (a7 (aA.enc_fr _) ⟨tV1,tV1⟩))
 repeat'(first|refine gP ?_|refine CF (ym s.a6 k e g) ?_)
 rfl
def Bb(c:aB)(k:Int)(b:aB.sml c):zzA 441 false [.val (some 1) (aB.enc .O c),.vI k] .one [B (bE c&&decide (0<=k/\k<=3))]:=by
 have a:=rn c b;cases e:bE c<;>rw[e]at a
 all_goals
  refine fO 11 [] Tryz.func441 rfl ?_
  repeat'(first|refine gP ?_|refine CF (aP k 0 3) ?_)
  all_goals rfl
def ww(c:aB)(k:Int)(a:aB.sml c):zzA 292 false [.val (some 1) (aB.enc .O c),.vI k] .one [B (decide (0<=k/\k<=3)&&bE c)]:=by
 have b:=qQ c a;refine fO 11 [] Tryz.func292 rfl ?_
 repeat'(first|refine gP ?_|refine gS (λd=>?_) (λd=>?_)|refine CF (gL k) ?_)
 all_goals exact bx ((by simp[*]))
def nz{c:aB}{k:Nat}(a:k<c.W.length):c.W[k]? = some (nth c.W k):=ar a
theorem KL{c:aB}(h:bE c=true)(k:Nat)(a:Int):aB.sml (o8 c k a):=by
 obtain⟨e,d⟩:=ee h;refine⟨by grind [o8],λl b=>?_⟩;rcases SC b with b|rfl
 ·have:=d l b;show l.length<=1048576;omega
 show(nth c.W k++[a]).length<=1048576;by_cases f:k<c.W.length
 ·grind [ax]
 have:nth c.W k=[]:=by unfold nth;rw[List.getD_eq_getElem?_getD,I4 ω];rfl
 rw[this];simp
theorem BT(c:aB)(k:Nat)(a:Int):aB.enc .own (o8 c k a)=[.s .own ((c.W.map (aE .own)).set k (aE .own (nth c.W k++[a])))]:=by grind [CC,aB.enc,o8]
variable{r:List C}{α:Type}
theorem ce{f:α->List C}{xs:List α}{k:Nat}{y:α}(h:xs[k]? = some y):((xs.map f).set k r)[k]? = some r:=ψ
def dZ{β:Type}(f:α->β)(xs:List α)(y:α):(xs++[y]).map f=xs.map f++[f y]:=by simp
def BW(c:aB)(k a:Int):List C:=aB.enc .own ((cput c k a).getD c)++[B (cput c k a).isSome]
def Kq(c:aB)(k a:Int):gl (BW c k a):=a7 (Cp _) ⟨tV1,tV1⟩
theorem FW(c:aB)(k:Nat)(a:Int)(j:bE c=true)(B:k<=3):zzA 452 false [.val (some 1) (aB.enc .O c),.vI (k:Nat),.vI a] (.tup [some 1,none]) (BW c k a):=by
 obtain⟨D,q⟩:=ee j;have r:aB.sml c:=⟨ω,λl u=>by have:=q l u;show l.length<=1048576;omega⟩
 have n:=Bb c k r;rw[j,O0 ω]at n;have t:=kr c r;have d:=KL j k a;have o:=rn (o8 c k a) d;have w:=kr (o8 c k a) d;have b:=nz (c:=c) (k:=k) ω;have y:=q _ (ax (xs:=c.W) (i:=k) ω);have h:=Co (o8 c k a);rw[BT]at h;have g:=Kq c k a;unfold BW at g |-;cases e:bE (o8 c k a)<;>rw[e]at o
 ·have p:cput c k a=none:=by grind [cput]
  rw[p]at g |-;refine fO 35 [(4,267,[16,17,18,19,20,21,22,23,24,25,27,0,1,2,3,4,5,6,7,8,9,10,1000,1001,1002,11,12])] Tryz.func452 rfl ?_ (.inr g)
  repeat'(first|refine gP ?_|refine CH (ce b) ?_|refine CL rfl (ce b) rfl ?_|refine Cg rfl rfl (aa b) rfl (O2 rfl) rfl rfl ?_|refine CR rfl rfl (ce b) rfl (O2 rfl) (show [C.s eL.own ((c.W.map (aE .own)).set k (aE .own (nth c.W k++[a])))]=_ from by simp only[List.set_cons_zero,List.set_set,O4];rfl) ?_|refine Cc (aN λ_=>rfl) rfl kd qs (dZ _ _ _) ?_|refine CM (o) ⟨⟨rfl,h⟩,tV1⟩ ?_)
  rfl
 have p:cput c k a=some (o8 c k a):=by grind [cput]
 rw[p]at g |-;refine fO 35 [(4,267,[16,17,18,19,20,21,22,23,24,25,27,0,1,2,3,4,5,6,7,8,9,10,1000,1001,1002,11,12])] Tryz.func452 rfl ?_ (.inr g)
 repeat'(first|refine gP ?_|refine CH (ce b) ?_|refine CL rfl (ce b) rfl ?_|refine Cg rfl rfl (aa b) rfl (O2 rfl) rfl rfl ?_|refine CR rfl rfl (ce b) rfl (O2 rfl) (show [C.s eL.own ((c.W.map (aE .own)).set k (aE .own (nth c.W k++[a])))]=_ from by simp only[List.set_cons_zero,List.set_set,O4];rfl) ?_|refine Cc (aN λ_=>rfl) rfl kd qs (dZ _ _ _) ?_|refine CM (o) ⟨⟨rfl,h⟩,tV1⟩ ?_|refine CM (w) ⟨⟨rfl,h⟩,tV1⟩ ?_)
 rfl
theorem LS(o:aW)(a:Int):zzA 408 false [.val (some 4) (aW.enc .O o),.ptr [I a]] .one [B (jO a o)]:=by
 refine fO 8 [] Tryz.func408 rfl ?_
 refine σP ?_
 grind [jO]
def vG(h:ac)(a:Int)(c:h.K.length<=1048576):zzA 274 false [.val (some 24) (ac.enc .O h),.vI a] .one [I (cy (jO a) h.K)]:=by
 refine fO 9 [] Tryz.func274 rfl ?_
 repeat'(first|refine gP ?_|refine Cq.mk (sB (some 4) (aW.enc .O) (jO a) h.K) (LS default a).has (λL k rcs b=>?_) ?_|refine CF (lJ h.K (jO a) ω) ?_)
 ·obtain⟨y,-,rfl,rfl,rfl⟩:=b
  exact LS y a
 rfl
theorem mB(xs:List a8)(pr:a8->Bool)(g:xs.length<=9223372036854775807):zzA 277 false [.val none (bV .O xs),.fn (oI Tryz.prog (sB (some 3) (a8.enc .O) pr xs))] .one [I (cy pr xs)]:=by
 refine fO 19 [] Tryz.func277 rfl ?_
 refine σP ?_
 refine gn xs.length (λi=>[(0,bC (bV .O xs)),(1,.fv (oI Tryz.prog (sB (some 3) (a8.enc .O) pr xs))),(7,fI xs.length),(8,fN i)]) (λi=>∀(j:Nat)(z:a8),j<i->xs[j]? = some z->pr z=false) ψ λi b=>?_
 obtain⟨b,d⟩:=b;by_cases a:i<xs.length
 ·obtain⟨y,c⟩ : ∃y,xs[i]? = some y:=⟨_,z4 a⟩
  repeat'(first|refine gE ?_|refine Fv.mk (k:=.one) (rcs:=[B (pr y)]) ⟨y,t4 c,rfl,rfl,rfl⟩ ?_|refine Bf.P (λe=>?_) (λe=>?_))
  ·grind [dO]
  (conv=>whnf)
  exact dt (i+1) ψ
 refine σE ?_
 exact gm (gd ω d).symm
def bR(x:ac):List C:=[.s .own (x.G.F.V.U.map (aE .own)),.s .own (x.G.F.V.a3.map (rB .own)),.s .own (x.G.F.Q.M.map (aS.enc .own)),I x.G.Calls,.s .own (x.G.a.map (rI .own)),.s .own (x.b.map (aC.enc .own)),.s .own (x.J.map (aA.enc .own)),.s .own (x.H.map (a8.enc .own)),.s .own (x.K.map (aW.enc .own)),.s .own (x.R.map (aB.enc .own)),.s .own (x.e.T.map (bg .own)),.s .own (x.e.g.map (aE .own)),I x.a1.c0,.s .own (x.a1.q.map (aJ.enc .own)),I x.c1,I x.b1,I x.c2,I x.k,B x.a2,I x.a5.d.b0,I x.a5.d.b2,.s .O (x.a5.d.U.map (rI .O)),I x.a5.b5,I x.a5.k]
def bZ(x:ac):cP (bR x)=ac.enc .O x:=by simp[cP,bR,ac.enc,Co,aS.enc_fz,a8.enc_fz,aW.enc_fz,aC.enc_fz,aA.enc_fz,aJ.enc_fz,rB,rU,rI,eI,<-bX,IB]
def D3(x:bW):List C:=[I x.d.b0,I x.d.b2,.s .O (x.d.U.map (rI .O)),I x.b5,I x.k]
variable{rows:List (List C)}{i j g:Nat}
theorem Pu.two{f a:List C}{off k h b:Nat}{cs:List C}{K:List C->Prop}{o c:eL}{rows2:List (List C)}{d:List C}(h1:f[off]? = some (.s o rows))(n:o.mine=true)(h2:rows[i]? = some r)(u:r.length=k)(w:r[j]? = some (.s c rows2))(p:c.mine=true)(y:rows2[g]? = some d)(A:d.length=h)(B:b+cs.length<=h)(D:a=f.set off (.s o (rows.set i (r.set j (.s c (rows2.set g (splice d b cs)))))))(q:K a):Pu f off [(i,k,j),(g,h,b)] cs K:=by
 have t:o≠.O:=λe=>by subst e;cases n
 have l:c≠.O:=λe=>by subst e;cases p
 refine Pu.mk (r:=d) (j:=b) (by grind [cx]) (by grind [na]) ω (by grind [gM]) q
def BA(x:List aA):fz (.s .own (x.map (aA.enc .own)))=.s .O (x.map (aA.enc .O)):=(List.cons.inj (eN x)).1
def y2(x:List a8):fz (.s .own (x.map (a8.enc .own)))=.s .O (x.map (a8.enc .O)):=(List.cons.inj (kf x)).1
def AC(x:List aW):fz (.s .own (x.map (aW.enc .own)))=.s .O (x.map (aW.enc .O)):=(List.cons.inj (RF x)).1
theorem Ap.dele{e:α->List C}{xs:List α}{sz by_:Nat}{K:List (List C)->Prop}(h2:∀y,(e y).length=sz)(a:∀y,bu (e y)=true)(g:xs.length<=1048576)(b:by_<=1000)(c:K ((Ab.dele xs i).map e)):Ap true ((xs.take i).map e) ((xs.drop (i+1)).map e) sz by_ K:=by
 have d:(xs.take i).length+(xs.drop (i+1)).length<=2097152:=ψ
 refine Cb (aN h2) (aN h2) (λ_ r f=>by obtain⟨y,-,rfl⟩:=O8.1 f;exact a y) (by rw[I2,I2];omega) (by rw[I2,I2];exact C9 (Nat.mul_le_mul d b) qs) ?_ c;unfold Ab.dele;rw[CB]
def Rx(h:ac)(p:Int)(a:aM.sml h.G.F.Q):zzA 449 false [.ptr (ac.enc .O h),.vI p] .one [I (ay h.G.F.Q p).o]:=by
 refine fO 13 [] Tryz.func449 rfl ?_
 repeat'(first|refine gP ?_|refine CF (dC h.G.F.Q p a) ?_)
 rfl
def Xu(h:ac):List C:=(bR h).drop 5
def Zk(h:ac)(k:af):bR {h with G:=k} = af.enc .own k++Xu h:=rfl
def L2(h:ac):Xu h=[.s .own (h.b.map (aC.enc .own)),.s .own (h.J.map (aA.enc .own)),.s .own (h.H.map (a8.enc .own)),.s .own (h.K.map (aW.enc .own)),.s .own (h.R.map (aB.enc .own)),.s .own (h.e.T.map (bg .own)),.s .own (h.e.g.map (aE .own)),I h.a1.c0,.s .own (h.a1.q.map (aJ.enc .own)),I h.c1,I h.b1,I h.c2,I h.k,B h.a2,I h.a5.d.b0,I h.a5.d.b2,.s .O (h.a5.d.U.map (rI .O)),I h.a5.b5,I h.a5.k]:=rfl
def Rm(h:ac)(f:Int)(a:aM.sml h.G.F.Q)(b:0<=f/\f<h.G.F.V.U.length/\f<h.G.F.V.a3.length) :
  zzB 450 false [.ptr (bR h),.vI f] [.ptr (bR {h with G:=jl h.G f}),.vI f] (.tup []) []:=by
 have c:=ar (xs:=h.G.F.V.U) (i:=f.toNat) ω;have d:=ar (xs:=h.G.F.V.a3) (i:=f.toNat) ω;rw[Zk h (jl h.G f)];by_cases e:(pagesOn h.G.F.Q f).length=0
 ·rw[yz e,L2]
  refine fM 30 [] [(2,8,[21,22,23,24,25,26,27,28])] [(0,0),(0,0)] Tryz.func450 rfl (λu q=>?_) (.inr tV1)
  repeat'(first|refine gB ?_|with_reducible (first|refine CQ b.1 (aa d) ?_|refine CQ b.1 (aa c) ?_)|refine CM (jj h.G.F.Q f a) ⟨⟨rfl,Cj h.G.F.Q⟩,⟨rfl,rfl⟩,tV1⟩ ?_|refine CR rfl rfl (aa c) rfl (O2 rfl) rfl ?_|refine CR rfl rfl (aa d) rfl (O2 rfl) rfl ?_|refine Mk.mk 16 rfl rfl qs qs rfl ?_)
  exact ks
 rw[E6 e];show aT _ _ _ [.ptr (bR h),_] [.ptr (bR h),_] _ _;refine fM 30 [] [(2,8,[21,22,23,24,25,26,27,28])] [(0,0),(0,0)] Tryz.func450 rfl (λu q=>?_) (.inr tV1)
 repeat'(first|refine gB ?_|refine CM (jj h.G.F.Q f a) ⟨⟨rfl,Cj h.G.F.Q⟩,⟨rfl,rfl⟩,tV1⟩ ?_)
 exact ks
theorem rj(h:ac)(p:Int)(b:aH h.G=true) :
  zzB 353 false [.ptr (bR h),.vI p] [.ptr (bR {h with G:=cQ h.G p}),.vI p] .one [B (decide ((ay h.G.F.Q p).o≠0))]:=by
 have k:=bk b;have c:=Rx h p k.1.2;by_cases a:(ay h.G.F.Q p).o=0
 ·rw[show cQ h.G p=h.G by unfold cQ;rw[CJ a]]
  refine fM 32 [(450,[2,0])] [] [(0,0),(0,0)] Tryz.func353 rfl (λu q=>?_)
  repeat'(first|refine gB ?_|refine CM (c) ⟨bZ h,⟨rfl,rfl⟩,tV1⟩ ?_)
  refine CN rfl ?_ ?_
  ·exact bx ((by simp[a]))
  exact wB
 obtain⟨l,r,n,d,o⟩:=bU b a;have j:=(bi.1 (aF.1 b).2.1).2.2.1;rw[show cQ h.G p=jl (oJ h.G p) (ay h.G.F.Q p).j by unfold cQ;rw[CI a]];have e:=Rm {h with G:=oJ h.G p} (ay h.G.F.Q p).j (Be b) ⟨d,by grind [oJ],by grind [oJ]⟩;rw[Zk h (oJ h.G p),Ba,L2]at e;have g:=ar (xs:=h.G.F.Q.M) (i:=p.toNat) ω;rw[n]at c e a |-;refine fM 32 [(450,[2,0])] [] [(0,0),(0,0)] Tryz.func353 rfl (λu q=>?_)
 repeat'(first|refine gB ?_|with_reducible refine CQ l (aa g) ?_|refine CM (c) ⟨bZ h,⟨rfl,rfl⟩,tV1⟩ ?_|refine CR rfl rfl (aa g) rfl (O2 rfl) rfl ?_)
 refine CN rfl ?_ ?_
 ·exact bx ((by simp[a]))
 exact wB
def zf(h:ac)(p:Int):zzA 347 false [.ptr (ac.enc .O h),.vI p] .one [B (ib h p)]:=by
 cases e:h.a2
 all_goals
  have a:ac.enc .O h=(ac.enc .O h).set 18 (B h.a2):=rfl;rw[e]at a;rw[a];refine fO 29 [] Tryz.func347 rfl ?_
  repeat'(first|refine gP ?_|refine gS (λb=>?_) (λb=>?_)|fail)
  all_goals exact bx ((by unfold ib;rw[e];first|(simp[*];done)|(simp[*];rw[z9];simp)))
def jy(h:ac):zzA 351 false [.ptr (ac.enc .O h)] .one [I (fT h:Nat)]:=by
 refine fO 11 [] Tryz.func351 rfl ?_
 refine σP ?_
 rfl
theorem vL(h:ac)(a:Int)(k:h.K.length<=1048576):zzA 354 false [.val (some 24) (ac.enc .O h),.vI a] .one [I (cy (jO a) h.K)]:=by
 refine fO 22 [] Tryz.func354 rfl ?_
 refine σP ?_
 refine gn h.K.length (λi=>[(1,fI a),(2,bS (ac.enc .O h)),(5,fN i)]) (λi=>∀(j:Nat)(z:aW),j<i->h.K[j]? = some z->jO a z=false) ψ λi c=>?_
 obtain⟨c,d⟩:=c;by_cases g:i<h.K.length
 ·have b:=ar g
  by_cases e:(nth h.K i).Addr=a
  ·refine σB ?_
   grind [dO,jO]
  refine σB ?_
  (exact dt (i+1) ⟨ω,fH b (by grind [jO]) d⟩)
 refine σE ?_
 exact gm (gd ω d).symm
def qP(h:ac)(i:Nat)(b:i<h.K.length)(a:h.K.length<=1048576):zzB 358 false [.ptr (bR h),.vI (i:Nat)] [.ptr (bR {h with K:=dele h.K i}),.vI (i:Nat)] (.tup []) []:=by
 refine fM 23 [] [(0,273,[4,5,6,7,8,9,10,11,13,14,15,16,17,18,19,21,22,0,1,2,3,4,5,6,7,9,10,11,12,13,14,15,8,1000,1009,1010,1011,1012,1013,1014,1015,16,1000,17,18,19]),(1048576,0,[8])] [(0,0),(0,0)] Tryz.func358 rfl (λu q=>?_) (.inr tV1)
 repeat'(first|refine gP ?_|refine MQ.mk rfl (AC h.K) rfl ?_|refine CZ i rfl (by rw[I2];omega) (aN λ_=>rfl) C8 ?_|refine Cf (i+1) rfl (by rw[I2];omega) (aN λ_=>rfl) I8 ?_|refine Ce (λ_=>rfl) (λ_=>rfl) (by rw[I3];omega) qs ?_|refine Ap.dele (λ_=>rfl) (λ_=>rfl) a qs ?_|refine CW (λ_=>rfl) (λ_=>rfl) (by rw[I3];omega) qs ?_)
 exact ks
theorem JL(h:ac)(E:List Int)(i:Nat)(a:bm h E)(e:i<h.J.length):zzB 369 false [.ptr (bR h),.vI (i:Nat)] [.ptr (bR (giveP h i)),.vI (i:Nat)] (.tup []) []:=by
 have b:=a.lens;have g:=b.spans;have c:=ar e;have j:=rj {h with J:=dele h.J i} (nth h.J i).S a.ker;have d:=jy {h with G:=cQ h.G (nth h.J i).S,J:=dele h.J i};rw[show fT {h with G:=cQ h.G (nth h.J i).S,J:=dele h.J i} = fT h from(wh _ _).1]at d;have k:fT h<=32:=b.ents;have l:=pV (fT h:Nat) h.b ⟨(nth h.J i).S,1⟩ ω ⟨by grind [oH.free],λ_ _=>tV1⟩;refine fM 52 [(353,[2,0])] [(1,273,[13,14,15,16,17,18,19,20,22,23,24,25,26,27,28,30,31,0,1,2,3,4,5,6,7,9,10,11,12,13,14,15,8,1000,1009,1010,1011,1012,1013,1014,1015,16,1000,17,18,19]),(1048577,0,[6]),(3,270,[38,39,40,41,42,43,44,45,47,37,48,49,50,51,0,1,2,3,4,5,6,7,8,1000,1001,1002,1003,1004,1005,1006,9,10,11,12,13,14,15,1012])] [(0,0),(0,0)] Tryz.func369 rfl (λu q=>?_) (.inr tV1)
 repeat'(first|refine gP ?_|refine MQ.mk rfl (BA h.J) rfl ?_|refine CZ i rfl (by rw[I2];omega) (aN λ_=>rfl) C8 ?_|refine Cf (i+1) rfl (by rw[I2];omega) (aN λ_=>rfl) I8 ?_|refine Ce (λ_=>rfl) (λ_=>rfl) (by rw[I3];omega) qs ?_|refine Ap.dele (λ_=>rfl) (λ_=>rfl) ω qs ?_|refine CW (λ_=>rfl) (λ_=>rfl) (by rw[I3];omega) qs ?_|refine CM (d) ⟨bZ _,tV1⟩ ?_|refine CM (l) ⟨⟨rfl,rfl⟩,⟨rfl,er h.b⟩,⟨rfl,rfl⟩,tV1⟩ ?_)
 exact ks
def Eb(h:ac)(i:Nat)(a:Int):bR (clrS h i a)=(bR h).set 6 (.s .own ((h.J.map (aA.enc .own)).set i (aA.enc .own (nj (nth h.J i) (eG (nth h.J i) a))))):=by
 simp[bR,clrS,CC]
theorem kD{β:Type}{f:α->β}{xs:List α}{y:β}(a:i<xs.length):((xs.map f).set i y)[i]? = some y:=ψ
variable{a:Int}
def Rd(c:bq s=true)(b:gZ s a):kG s a=(eG s a,0):=by
 unfold kG;rw[CJ ((iJ c).2 ⟨b.1,b.2.1⟩),b.2.2.1];rfl
theorem qX(h:ac)(E:List Int)(a:Int)(c:bm h (a::E)):zzB 218 false [.ptr (bR h),.vI a] [.ptr (bR (freeA h a)),.vI a] (.tup []) []:=by
 obtain⟨j,n,t⟩:=c.at (c.hin a ψ);have d:=(c.hin a ψ).bd c;have B:=c.lens;have C:=B.spans;have e:=c.L.sok _ (ax j);have k:=lO h (a / 16) ω;rw[t]at k;unfold freeA;generalize Ai h a=i at j n k e;have b:=ar j;have o:=zp (nth h.J i) a ⟨ω,ω⟩;rw[Rd e n]at o;have w:=FQ (nth h.J i) (eG (nth h.J i) a) e n.2.2.2;have D:=c.give j n;have l:=zf (clrS h i a) (nth h.J i).S;rw[show ib (clrS h i a) (nth h.J i).S=ib h (nth h.J i).S from rfl]at l;have p:=JL (clrS h i a) E i D (by grind [clrS]);have r:=bZ (clrS h i a);rw[Eb]at p r;have g:((h.J.map (aA.enc .own)).set i (aA.enc .own (nj (nth h.J i) (eG (nth h.J i) a))))[i]? = some (aA.enc .own (nj (nth h.J i) (eG (nth h.J i) a))):=kD j;unfold freeS;by_cases y:(nj (nth h.J i) (eG (nth h.J i) a)).a6=0
 ·cases F:ib h (nth h.J i).S<;>rw[F]at l
  ·rw[CJ ⟨y,rfl⟩]
   refine fM 68 [(369,[2,0])] [(2,274,[26,27,28,29,30,31,32,33,34,35,36,37,38,39,25,40,41,42,0,1,2,3,4,5,6,7,8,9,10,11,12,13,14,15,16,17,18,1016])] [(0,0),(0,0)] Tryz.func218 rfl (λu q=>?_) (.inr tV1)
   repeat'(first|refine gB ?_|with_reducible refine CS ((O1 _ (tdiv16 d.1)).trans (ia ω ω)) ?_|refine CT qs ?_|refine CM (k) ⟨⟨rfl,bZ h⟩,⟨rfl,rfl⟩,tV1⟩ ?_|refine CH g ?_|refine CL rfl g rfl ?_|refine CR rfl rfl (aa b) rfl (O2 rfl) rfl ?_|refine CM (l) ⟨r,⟨rfl,rfl⟩,tV1⟩ ?_)
   exact ks
  rw[CI ψ];rw[Eb];refine fM 68 [(369,[2,0])] [(2,274,[26,27,28,29,30,31,32,33,34,35,36,37,38,39,25,40,41,42,0,1,2,3,4,5,6,7,8,9,10,11,12,13,14,15,16,17,18,1016])] [(0,0),(0,0)] Tryz.func218 rfl (λu q=>?_) (.inr tV1)
  repeat'(first|refine gB ?_|with_reducible refine CS ((O1 _ (tdiv16 d.1)).trans (ia ω ω)) ?_|refine CT qs ?_|refine CM (k) ⟨⟨rfl,bZ h⟩,⟨rfl,rfl⟩,tV1⟩ ?_|refine CH g ?_|refine CL rfl g rfl ?_|refine CR rfl rfl (aa b) rfl (O2 rfl) rfl ?_|refine CM (l) ⟨r,⟨rfl,rfl⟩,tV1⟩ ?_)
  exact ks
 rw[CI λx=>y x.1];rw[Eb];refine fM 68 [(369,[2,0])] [(2,274,[26,27,28,29,30,31,32,33,34,35,36,37,38,39,25,40,41,42,0,1,2,3,4,5,6,7,8,9,10,11,12,13,14,15,16,17,18,1016])] [(0,0),(0,0)] Tryz.func218 rfl (λu q=>?_) (.inr tV1)
 repeat'(first|refine gB ?_|with_reducible refine CS ((O1 _ (tdiv16 d.1)).trans (ia ω ω)) ?_|refine CT qs ?_|refine CM (k) ⟨⟨rfl,bZ h⟩,⟨rfl,rfl⟩,tV1⟩ ?_|refine CH g ?_|refine CL rfl g rfl ?_|refine CR rfl rfl (aa b) rfl (O2 rfl) rfl ?_|refine CM (l) ⟨r,⟨rfl,rfl⟩,tV1⟩ ?_)
 exact ks
def Vx(h:ac)(t:Nat)(c:aB):bR {h with R:=h.R.set t c} = (bR h).set 9 (.s .own ((h.R.map (aB.enc .own)).set t (aB.enc .own c))):=by
 simp[bR,CC]
theorem sw(h:ac)(E:List Int)(t:Nat)(a:Int)(b:bm h (a::E))(w:t<h.R.length):zzB 360 false [.ptr (bR h),.vI (t:Nat),.vI a] [.ptr (bR (recyc t h a)),.vI (t:Nat),.vI a] (.tup []) []:=by
 obtain⟨o,y,p⟩:=b.at (b.hin a ψ);have g:=(b.hin a ψ).bd b;have B:=b.lens;have C:=B.spans;have j:=aO (b.L.sok _ (ax o));have r:=b.cach _ (ax w);have l:=lO h (a / 16) ω;rw[p]at l;have D:=qX h E a b;unfold recyc;generalize Ai h a=i at o y l j;have n:=ar o;have k:=ar w;have d:=FW (nth h.R t) (nth h.J i).Z.toNat a r ω;rw[Int.toNat_of_nonneg j.2.2.1]at d;unfold BW at d;cases e:cput (nth h.R t) (nth h.J i).Z a with
 | none=>
  rw[e]at d;refine fM 46 [(218,[2,0])] [(1,277,[16,17,18,19,20,21,22,23,24,25,26,27,28,29,30,31,32,15,33,34,7,0,1,2,3,4,5,6,7,8,9,10,11,12,13,14,15,16,17,18,19,20,21,1019,22]),(3,6,[36,37,38,39,40,41])] [(0,0),(0,0),(0,0)] Tryz.func360 rfl (λu q=>?_) (.inr tV1)
  repeat'(first|refine gP ?_|with_reducible refine CS ((O1 _ (tdiv16 g.1)).trans (ia ω ω)) ?_|refine CT qs ?_|refine CM (l) ⟨⟨rfl,bZ h⟩,⟨rfl,rfl⟩,tV1⟩ ?_|refine CM (d) ⟨⟨rfl,Co _⟩,⟨rfl,rfl⟩,⟨rfl,rfl⟩,tV1⟩ ?_)
  exact ks
 | some c=>
  rw[e]at d;simp only;rw[Vx];refine fM 46 [(218,[2,0])] [(1,277,[16,17,18,19,20,21,22,23,24,25,26,27,28,29,30,31,32,15,33,34,7,0,1,2,3,4,5,6,7,8,9,10,11,12,13,14,15,16,17,18,19,20,21,1019,22]),(3,6,[36,37,38,39,40,41])] [(0,0),(0,0),(0,0)] Tryz.func360 rfl (λu q=>?_) (.inr tV1)
  repeat'(first|refine gP ?_|with_reducible refine CS ((O1 _ (tdiv16 g.1)).trans (ia ω ω)) ?_|refine CT qs ?_|refine CM (l) ⟨⟨rfl,bZ h⟩,⟨rfl,rfl⟩,tV1⟩ ?_|refine CM (d) ⟨⟨rfl,Co _⟩,⟨rfl,rfl⟩,⟨rfl,rfl⟩,tV1⟩ ?_|refine CR rfl rfl (aa k) rfl (O2 rfl) rfl ?_)
  exact ks
theorem v8(h:ac)(i:Nat)(d:bm h [])(o:i<h.K.length)(t:aU (nth h.K i).y<0):zzB 356 false [.ptr (bR h),.vI (i:Nat)] [.ptr (bR (freeL h i (wy h (nth h.K i).Addr))),.vI (i:Nat)] (.tup []) []:=by
 obtain⟨l,w,y,-⟩:=(eS d (ax o)).1 t;obtain⟨p,B,c,-⟩:=wU w y;generalize wy h (nth h.K i).Addr=g at p B c;have a:=d.lens;have C:=a.larges;have D:=a.objs;have b:=ar o;have N:=bf (d.L.lok _ (ax p));have E:fT h<=32:=a.ents;refine fM 89 [(353,[2,0]),(358,[2,0])] [(4,11,[23,24,25,26,27,28,29,30,31,32,33]),(8,7,[41,42,43,44,45,46,47]),(9,273,[50,51,52,53,54,55,56,57,58,59,60,62,49,63,64,65,66,0,1,2,3,4,5,6,7,8,9,10,11,1000,1001,1002,1003,1004,1005,1006,12,13,14,15,16,17,18,1015]),(10,273,[67,68,69,70,71,72,73,74,76,77,78,79,80,81,82,84,85,0,1,2,3,4,5,6,7,9,10,11,12,13,14,15,8,1000,1009,1010,1011,1012,1013,1014,1015,16,1000,17,18,19]),(1048586,0,[7])] [(0,0),(0,0)] Tryz.func356 rfl (λu q=>?_) (.inr tV1)
 refine σP ?_
 refine lp0 g (λk=>[(0,bS (bR h)),(1,fN i),(4,fN k)]) λk O=>?_
 have j:=ar (xs:=h.H) (i:=k) ω;have F:=bf (d.L.lok _ (ax (xs:=h.H) (i:=k) ω));have G:0<=(nth h.K i).Addr/\(nth h.K i).Addr<=512:=ω
 by_cases e:k=g
 ·subst e
  refine σB ?_
  refine lp0 ((nth h.H k).a0.toNat) (λn=>[(0,bS (bR {h with G:=dJ h.G (nth h.H k).S n})),(1,fN i),(4,fN k),(5,bS (a8.enc .own (nth h.H k))),(6,fN n)]) λn P=>?_
  by_cases Q:n<(nth h.H k).a0.toNat
  ·have H:=rj {h with G:=dJ h.G (nth h.H k).S n} ((nth h.H k).S+n) (kK d.ker _ _)
   refine σE ?_
   (exact dt (n+1) ω)
  obtain rfl:n=(nth h.H k).a0.toNat:=ω
  have r:=jy {h with G:=dJ h.G (nth h.H k).S (nth h.H k).a0.toNat};rw[show fT {h with G:=dJ h.G (nth h.H k).S (nth h.H k).a0.toNat} = fT h from(ip _ _ _).1]at r;have J:=pV (fT h:Nat) h.b ⟨(nth h.H k).S,(nth h.H k).a0⟩ ω ⟨by grind [oH.free],λ_ _=>tV1⟩;have K:=qP {h with G:=dJ h.G (nth h.H k).S (nth h.H k).a0.toNat,H:=dele h.H k,b:=(cr (fT h) h.b ⟨(nth h.H k).S,(nth h.H k).a0⟩).getD h.b} i o ψ
  repeat'(first|refine gE ?_|refine MQ.mk rfl (y2 h.H) rfl ?_|refine CZ k rfl (by rw[I2];omega) (aN λ_=>rfl) C8 ?_|refine Cf (k+1) rfl (by rw[I2];omega) (aN λ_=>rfl) I8 ?_|refine Ce (λ_=>rfl) (λ_=>rfl) (by rw[I3];omega) qs ?_|refine Ap.dele (λ_=>rfl) (λ_=>rfl) ω qs ?_|refine CW (λ_=>rfl) (λ_=>rfl) (by rw[I3];omega) qs ?_|refine CM (r) ⟨bZ _,tV1⟩ ?_|refine CM (J) ⟨⟨rfl,rfl⟩,⟨rfl,er h.b⟩,⟨rfl,rfl⟩,tV1⟩ ?_)
  exact ks
 have M:=c k ω
 refine σB ?_
 (exact dt (k+1) ω)
def Uz(q:bh)(x:aJ):List C:=bh.enc .own (Ts q x)++bY .own (yf q x)
def Qh(q:bh)(x:aJ):gl (Uz q x):=a7 (bh.enc_fr _) (oK _)
def H8(q:bh)(a:aJ)(J:q.q.length<=4096)(e:hB q=true)(r:0<=a.Z/\a.Z<=3/\0<=a.Addr/\0<=a.b7)(t:∀y∈q.q,y.b7<=a.b7)(u:∀y∈q.q,y.Addr≠a.Addr) :
  zzA 359 false [.val (some 2) (bh.enc .O q),.val (some 3) (aJ.enc .O a)] (.tup [some 2,none]) (Uz q a):=by
 have b:bh.sml q:=⟨ω,λ_ _=>tV1⟩
 have w:=xU q b;have l:=sI q b;rw[e]at l;have n:=G2 a;rw[O0 r]at n;have o:=xV q a.Addr b;rw[show q.q.any (fS a.Addr)=false by rw[List.any_eq_false];intro y B;unfold fS;simpa using u y B]at o;have C:=(jv.1 e).2.2.2;have g:=Qh q a;have K:(aJ.mk a.Addr a.Z a.b7)=a:=rfl;have c:=Ec q.c0 (q.q++[a]);simp only[I5,List.length_singleton]at c;by_cases D:q.q.length=0
 all_goals
  try have h:(nth q.q (q.q.length - 1)).b7<=a.b7:=t _ (ax ω)
  try have j:=ar (xs:=q.q) (i:=q.q.length - 1) ω
  try have d:q.q[((q.q.length:Int) - 1).toNat]? = some (nth q.q (q.q.length - 1)):=by rw[show((q.q.length:Int) - 1).toNat=q.q.length - 1 by omega];exact j
  refine fO 74 [(3,27,[15,16,17,18,19,20,21,22,23,24,25,26,27,28,29,30,31,32,33,34,35,36,37,38,39,40,41]),(7,6,[52,53,54,55,56,57]),(9,268,[61,62,63,64,65,66,67,69,70,71,72,73,0,1,2,3,4,5,6,8,9,10,11,12,7,1008,1009,1010,1011,1012,13,14])] Tryz.func359 rfl ?_ (.inr g)
  repeat'(first|refine gE ?_|refine gS (λe=>?_) (λe=>?_)|refine CQ ω (aa d) ?_|refine Cc (aN λ_=>rfl) rfl kd qs (dZ (aJ.enc .own) q.q a) ?_)
  refine Lp.fz 8 (ι:=Nat) (λk=>[(2,bS (bh.enc .O q)),(4,bS [I 0,.z]),(8,bC (bY .O (q.q++[a]))),(9,fN k)]) (λk=>k<=kh q.c0 (q.q++[a])) (λk=>kh q.c0 (q.q++[a]) - k) 0 ?_ (I1 _) λk L=>?_
  ·(repeat'(first|exact tV1|rfl|exact CK rfl (show RB (cP (bY .own (q.q++[a]))) (bY .O (q.q++[a])) by rw[K7];exact lX _)|refine CK ?_ ?_))
  have M:(q.q++[a]).length=q.q.length+1:=by simp
  have E:((q.q++[a]).drop k).length<=5000:=by rw[O5];omega
  have F:((q.q++[a]).take k).length<=5000:=by rw[I3];omega
  have p:=zv ((q.q++[a]).drop k) ⟨ω,λ_ _=>tV1⟩;by_cases G:k<kh q.c0 (q.q++[a])
  ·have H:q.c0<quarCells ((q.q++[a]).drop k) ((q.q++[a]).drop k).length:=yO G
   repeat'(first|refine gE ?_|refine Cf k rfl (by rw[I2];omega) (aN λ_=>rfl) I8 ?_)
   (exact dt (k+1) ω)
  obtain rfl:k=kh q.c0 (q.q++[a]):=ω
  have H:quarCells ((q.q++[a]).drop (kh q.c0 (q.q++[a]))) ((q.q++[a]).drop (kh q.c0 (q.q++[a]))).length<=q.c0:=A8 C.1 _
  repeat'(first|refine gE ?_|refine Cf (kh q.c0 (q.q++[a])) rfl (by rw[I2];omega) (aN λ_=>rfl) I8 ?_|refine CZ (kh q.c0 (q.q++[a])) rfl (by rw[I2];omega) (aN λ_=>rfl) C8 ?_|refine Ce (λ_=>rfl) (λ_=>rfl) ω qs ?_|refine CW (λ_=>rfl) (λ_=>rfl) ω qs ?_)
  rfl
def lQ{z:Int}(h:0<=z/\z<512):IntKind.i64.wrap (z.tdiv 16)=z / 16:=(O1 _ (tdiv16 h.1)).trans (ia ω ω)
variable{E:List Int}{h:ac}
def pE(a:bm h E){o:aW}(b:o∈h.K):0<=o.Addr/\o.Addr<512:=by
 rcases a.oow o b with⟨s,c,⟨f,g,-⟩,-⟩|⟨l,d,e,-⟩
 ·have:=aO (a.L.sok s c);omega
 have:=bf (a.L.lok l d);omega
theorem H5{k:Int}(h:0<=k/\k<=3):1<=csz k/\csz k<=8:=by grind [dm]
structure Yw(h:ac)(o:aW):Prop where
 cl:0<=aU o.y/\aU o.y<=3
 fr:0<=(ay h.G.F.Q (o.Addr / 16)).j/\(ay h.G.F.Q (o.Addr / 16)).j<h.G.F.V.U.length
 fit:o.Addr % 16+csz (aU o.y)<=16
 row:(nth h.G.F.V.U (fQ h.G o.Addr)).length=16
theorem Yw.of(a:bm h E){o:aW}(i:o∈h.K)(k:¬aU o.y<0):Yw h o:=by
 obtain⟨⟨s,j,b,r⟩,t⟩:=(eS a i).2 k;have l:=aO (a.L.sok s j);have n:=pE a i;have u:s.S=o.Addr / 16:=by have w:=b.1;have y:=b.2.1;omega
 have c:(o.Addr / 16).toNat<(tbl h).M.length:=by have:=a.pg.bnd _ (fx (la:=h.H) j);omega
 have d:(((o.Addr / 16).toNat:Nat):Int)=o.Addr / 16:=ω
 have A:=(a.pg.own _ c).2 (by grind [fx]);have e:(ay h.G.F.Q (o.Addr / 16)).o≠0:=by grind [pB,tbl]
 obtain⟨-,-,-,f,p⟩:=bU a.ker e;have q:=(bi.1 (aF.1 a.ker).2.1).2.2.1;have g:fQ h.G o.Addr<h.G.F.V.U.length:=by unfold fQ;omega
 refine⟨ω,⟨f,ω⟩,?_,a.lens.row _ (ax g)⟩;have B:=b.2.2.1
 grind [dm]
theorem H3(h:ac)(a:Int)(b:fQ h.G a<h.G.F.V.U.length):({h with G:=fj h.G a 0} : ac)=h:=by
 have e:h.G.F.V.U.set (fQ h.G a) (nth h.G.F.V.U (fQ h.G a))=h.G.F.V.U:=by
  refine List.ext_getElem? λi=>?_
  grind [ar]
 unfold fj jS;rw[e]
def Lj(h:ac)(a:Int)(k:Nat)(v:Int)(_:0<=a):bR {h with G:=fj h.G a (k+1)} = (bR {h with G:=fj h.G a k}).set 0 (.s .own (((fj h.G a k).F.V.U.map (aE .own)).set (ay h.G.F.Q (a / 16)).j.toNat ((aE .own (jS (nth h.G.F.V.U (fQ h.G a)) (a % 16).toNat k)).set 0 (.s .own (((jS (nth h.G.F.V.U (fQ h.G a)) (a % 16).toNat k).map (rI .own)).set (a % 16+k).toNat (splice (rI .own v) 0 [I 0])))))):=by
 have e:(a % 16+k).toNat=(a % 16).toNat+k:=ω
 rw[e];simp[bR,fj,CC,jS,aE,splice,fQ]
 rfl
theorem zm(t:Nat)(h:ac)(xs:List aJ)(k:Nat)(a:k<xs.length):recycs t h ((xs.take (k+1)).map (·.Addr))=recyc t (recycs t h ((xs.take k).map (·.Addr))) (nth xs k).Addr:=by grind [OA,ar,recycs]
theorem Pf(h:ac)(o:aW)(t:Nat)(a:bm h [])(M:o∈h.K)(ht:o.w=t)(hlc:h.R.length<=4):zzB 208 false [.ptr (bR h),.vI (t:Nat),.vI o.Addr] [.ptr (bR (freeOb h t (kR h o.Addr)).1),.vI (t:Nat),.vI o.Addr] .one [I (freeOb h t (kR h o.Addr)).2]:=by
 obtain⟨g,w,B⟩:=a.objAt M;have b:=pE a M;have hon:=a.onu o M;have C:=a.lens;have hno:=C.objs;have N:t<h.R.length:=ω
 have K:=aP (t:Nat) 0 (h.R.length - 1:Int);rw[O0 ω]at K;have D:=vL h o.Addr ω;rw[B]at D;generalize kR h o.Addr=i at g w D;subst w;have p:=ar g;have O:=nt (nth h.K i).y;unfold freeOb;have P:=bk a.ker;have W:=dC h.G.F.Q ((nth h.K i).Addr / 16) P.1.2;by_cases r:aU (nth h.K i).y<0
 ·rw[CJ r]
  have c3:=v8 h i a g r;refine fM 148 [(356,[2,0]),(358,[2,0]),(360,[2,0,0]),(355,[2,0])] [(15,269,[68,69,70,71,72,73,74,75,77,67,78,79,11,0,1,2,3,4,5,6,7,13,8,1000,1001,1002,1003,1004,1013,9,10,11,12,14,1012,15]),(22,15,[92,93,94,95,96,97,98,99,100,101,102,103,104,105,106]),(25,271,[116,117,118,119,120,121,122,123,124,125,127,115,128,129,14,0,1,2,3,4,5,6,7,8,9,15,10,1000,1001,1002,1003,1015,11,12,13,14,16,1014,17])] [(0,0),(0,0),(0,0)] Tryz.func208 rfl (λu q=>?_)
  repeat'(first|refine gE ?_|refine gS (λj=>?_) (λj=>?_)|refine CM (D) ⟨⟨rfl,bZ h⟩,⟨rfl,rfl⟩,tV1⟩ ?_)
  exact ks
 rw[CI r];obtain⟨Q,s2,s3,s4⟩:=Yw.of a (ax g) r;by_cases L:(ay (tbl h) ((nth h.K i).Addr / 16)).o=1
 ·rw[CJ L]
  unfold tbl at L;refine fM 148 [(356,[2,0]),(358,[2,0]),(360,[2,0,0]),(355,[2,0])] [(15,269,[68,69,70,71,72,73,74,75,77,67,78,79,11,0,1,2,3,4,5,6,7,13,8,1000,1001,1002,1003,1004,1013,9,10,11,12,14,1012,15]),(22,15,[92,93,94,95,96,97,98,99,100,101,102,103,104,105,106]),(25,271,[116,117,118,119,120,121,122,123,124,125,127,115,128,129,14,0,1,2,3,4,5,6,7,8,9,15,10,1000,1001,1002,1003,1015,11,12,13,14,16,1014,17])] [(0,0),(0,0),(0,0)] Tryz.func208 rfl (λu q=>?_)
  repeat'(first|refine gB ?_|refine gS (λj=>?_) (λj=>?_)|refine CT qs ?_|refine CS (lQ b) ?_|refine CM (D) ⟨⟨rfl,bZ h⟩,⟨rfl,rfl⟩,tV1⟩ ?_|refine CM (W) ⟨⟨rfl,Cj _⟩,⟨rfl,rfl⟩,tV1⟩ ?_)
  exact ks
 rw[CI L];unfold tbl at L;have E:fQ h.G (nth h.K i).Addr<h.G.F.V.U.length:=by unfold fQ;omega
 have hcz:=H5 Q;have l:=a.inQuar g r;have F:=eY (aU (nth h.K i).y);refine fM 148 [(356,[2,0]),(358,[2,0]),(360,[2,0,0]),(355,[2,0])] [(15,269,[68,69,70,71,72,73,74,75,77,67,78,79,11,0,1,2,3,4,5,6,7,13,8,1000,1001,1002,1003,1004,1013,9,10,11,12,14,1012,15]),(22,15,[92,93,94,95,96,97,98,99,100,101,102,103,104,105,106]),(25,271,[116,117,118,119,120,121,122,123,124,125,127,115,128,129,14,0,1,2,3,4,5,6,7,8,9,15,10,1000,1001,1002,1003,1015,11,12,13,14,16,1014,17])] [(0,0),(0,0),(0,0)] Tryz.func208 rfl (λu q=>?_)
 repeat'(first|refine gB ?_|refine gS (λj=>?_) (λj=>?_)|refine CT qs ?_|refine CS (lQ b) ?_|refine CM (D) ⟨⟨rfl,bZ h⟩,⟨rfl,rfl⟩,tV1⟩ ?_|refine CM (W) ⟨⟨rfl,Cj _⟩,⟨rfl,rfl⟩,tV1⟩ ?_)
 rw[show bR h=bR {h with G:=fj h.G (nth h.K i).Addr 0} by rw[H3 h _ E]]
 (conv=>whnf)
 refine lp0 ((csz (aU (nth h.K i).y)).toNat) (λk=>[(0,bS (bR {h with G:=fj h.G (nth h.K i).Addr k})),(1,fN t),(2,fI ((nth h.K i).Addr)),(7,fN i),(8,bS (aW.enc .own (nth h.K i))),(9,fI (aU (nth h.K i).y)),(10,bS (aS.enc .own (ay h.G.F.Q ((nth h.K i).Addr / 16)))),(13,fN k)]) λk hk=>?_
 have X:IntKind.i64.wrap 0=0:=rfl;have R:(nth h.K i).Addr.tmod 16=(nth h.K i).Addr % 16:=fg b.1;have n:(fj h.G (nth h.K i).Addr k).F.V.U[(ay h.G.F.Q ((nth h.K i).Addr / 16)).j.toNat]? = some (jS (nth h.G.F.V.U (fQ h.G (nth h.K i).Addr)) ((nth h.K i).Addr % 16).toNat k):=I6 E;by_cases S:k<(csz (aU (nth h.K i).y)).toNat
 ·have G:=ar (xs:=jS (nth h.G.F.V.U (fQ h.G (nth h.K i).Addr)) ((nth h.K i).Addr % 16).toNat k) (i:=((nth h.K i).Addr % 16+k).toNat) (by grind [q8])
  repeat'(first|refine gE ?_|refine CT qs ?_|refine CX R ?_|refine CQ s2.1 (aa n) ?_|refine CQ ω (aa G) ?_|refine Pu.two rfl rfl (aa n) rfl rfl rfl (aa G) rfl (z5 _) (Lj h _ k _ b.1) ?_)
  (exact dt (k+1) ω)
 obtain rfl:k=(csz (aU (nth h.K i).y)).toNat:=ω
 have c5:=qP {h with G:=fj h.G (nth h.K i).Addr (csz (aU (nth h.K i).y)).toNat} i g ψ;have d:=a.nums;unfold cv at d;rw[C0]at d;have H:=(a.dropO g (kM.any (c:=aU (nth h.K i).y) (by obtain⟨⟨s,hs,k1,k2⟩,-⟩:=(eS a (ax g)).2 r;exact⟨s,hs,k1,.inr k2⟩))).nd;rw[List.cons_append,List.nil_append]at H;have Y:=H8 h.a1 (kv h (nth h.K i)) (by grind [oH.quar]) a.quar ⟨Q.1,Q.2,b.1,d.2.2.1⟩ (λy Z=>a.snc y Z) (λy Z e=>(List.nodup_cons.1 H).1 (by rw[show(nth h.K i).Addr=y.Addr from e.symm];grind [holders]));unfold Uz at Y;have T:(yf h.a1 (kv h (nth h.K i))).length<=513:=by grind [oH.quar,yf]
 repeat'(first|refine gB ?_|refine gS (λj=>?_) (λj=>?_)|refine CM (Y) ⟨⟨rfl,bh.enc_fz h.a1⟩,⟨rfl,rfl⟩,tV1⟩ ?_)
 have U:Q7 h t i=recycs t (inQuar h i) ((yf h.a1 (kv h (nth h.K i))).map (·.Addr)):=rfl;simp only;rw[U];have hqn:(inQuar h i).R.length=h.R.length:=rfl;generalize yf h.a1 (kv h (nth h.K i))=out at l T
 (conv=>whnf)
 refine lp0 out.length (λk=>[(0,bS (bR (recycs t (inQuar h i) ((out.take k).map (·.Addr))))),(1,fN t),(15,bC (bY .own out)),(16,fN k)]) λk hk=>?_
 by_cases S:k<out.length
 ·have J:=ar S
  have hsp:out.map (·.Addr)=(out.take k).map (·.Addr)++(nth out k).Addr::(out.drop (k+1)).map (·.Addr):=by grind [List.take_append_drop,gT]
  have V:bm (recycs t (inQuar h i) ((out.take k).map (·.Addr))) ((nth out k).Addr::(out.drop (k+1)).map (·.Addr)):=bm.recycs ψ N;have c7:=sw _ _ t _ V (by grind [gt])
  refine σE ?_
  (refine CP (k+1) ω ω ?_)
  rw[zm t _ out k S];exact wB
 obtain rfl:k=out.length:=ω
 rw[O9]
 refine σE ?_
 exact ks
def oE(rows:List (List C)):C:=match rows with|[]=>.s .O []|_=>.s .own rows
theorem tj(h:rows≠[]):oE rows=.s .own rows:=by cases rows with|nil=>exact absurd rfl h|cons=>rfl
variable{P:Program}
theorem xK(w:World)(t e k:Nat)(z:Value)(h:P.underlying t=some (.slice e))(i:∀w,(zeroValue e).run P w=.ok z w)(l:z.cells.size=k)(h1:∀v∈z.cells.toList,v.oneCell'=true)(b o n:Nat)(q:0<n)(p:0<k)(r:∀j,j<n*k->(w.cell? ⟨b,o+j,none⟩).isSome=true)(u:∀j,j<n*k->w.frozen? ⟨b,o+j,none⟩ = false) :
  ∃g:List Value,g.length=n*k/\(∀v∈g,v.oneCell'=true)/\∀(ty:TypeId)(c:Nat),(Builtin.clear_ #[t] ty #[.slice (some ⟨b,o,none⟩) n c]).run P w=.ok (.tuple #[]) (w.setCells b o g):=by
 subst l;have d:(Builtin.zeroCells z.cells n).toList.length=n*z.cells.size:=by grind [Go.Builtin.zeroCells]
 have a:∀v∈(Builtin.zeroCells z.cells n).toList,v.oneCell'=true:=by grind [Nat.mod_lt,Go.Builtin.zeroCells]
 refine⟨_,d,a,λty c=>?_⟩;have f:=run_storeCells_cells (P:=P) b o (Builtin.zeroCells z.cells n).toList 0 w ψ ψ a;simp only[Nat.add_zero]at f;obtain⟨m,rfl⟩ : ∃m,n=m+1:=⟨n - 1,ω⟩
 simp[Builtin.clear_,run_underlying h,i,f]
structure mc(w w':World)(g k n i:Nat):Prop where
 keep:bK (λb o=>b=g/\o<n*k) w w'
 lo:∀q,q<i*k->cel w' g q=cel w g q
 mid:∀q,i*k<=q->q<(n - 1)*k->cel w' g q=cel w g (q+k)
 hi:∀q,(n - 1)*k<=q->q<n*k->∃z,cel w' g q=some z/\z.oneCell'=true
 fro:∀b q,fro w' b q=fro w b q
variable{w:World}
theorem bK.up{M a:am}{c:World}(h:bK M w c)(d:∀b o,M b o->a b o):bK a w c:=(Ck a w).trans h ψ
def Dv(w:World):bK NO w w.drew:=⟨rfl,rfl,rfl,z5 _,λ_ _ _=>rfl,λ_ _ _ _=>rfl,λ_ _ _ _=>rfl⟩
variable{news:List Value}{n:Nat}
theorem QT{k:Nat}{d:List Value}(l:i<n)(e:∀q,q<n*k->∃z,cel w g q=some z)(H:news.length=(n - (i+1))*k)(c:∀t u,news[t]? = some u->cel w g ((i+1)*k+t)=some u)(J:d.length=k)(p:∀v∈d,v.oneCell'=true) :
  mc w ((w.drew.setCells g (i*k) news).setCells g ((n - 1)*k) d) g k n i:=by
 have K:i*k+(n - (i+1))*k=(n - 1)*k:=by rw[<-Nat.add_mul];congr 1;omega
 have L:(n - 1)*k+k=n*k:=by rw[show(n - 1)*k+k=(n - 1+1)*k by rw[Nat.add_mul,Nat.one_mul]];congr 1;omega
 have M:(i+1)*k=i*k+k:=ψ
 have r:∀b q,cel w.drew b q=cel w b q:=λ_ _=>rfl
 have a:∀j,j<news.length->∃z,cel w.drew g (i*k+j)=some z:=λj y=>by rw[r];exact e _ ω
 have A:∀q,q<n*k->∃z,cel (w.drew.setCells g (i*k) news) g q=some z:=λq B=>by
  by_cases h:i*k<=q/\q<i*k+news.length
  ·have:=b6 a (z4 (show q - i*k<news.length by omega))
   grind
  grind [bp]
 refine⟨?_,λq B=>?_,λq C D=>?_,λq C D=>?_,λb q=>?_⟩
 ·have E:=fk (g:=g) (X:=λb o=>b=g/\o<n*k) news (i*k) w.drew ω
  have F:=fk (g:=g) (X:=λb o=>b=g/\o<n*k) d ((n - 1)*k) (w.drew.setCells g (i*k) news) ω;exact((Dv w).up λ_ _ h=>h.elim).trans (E.trans F λ_ _ h=>.inr h) λ_ _ h=>.inr h
 ·grind [bp]
 ·rw[bp ω]
  obtain⟨u,f⟩ : ∃u,news[q - i*k]? = some u:=⟨_,z4 ω⟩
  have G:=b6 a f;have N:=c _ u f
  grind
 ·obtain⟨u,f⟩ : ∃u,d[q - (n - 1)*k]? = some u:=(ψ)
  have G:=b6 (w:=w.drew.setCells g (i*k) news) (o:=(n - 1)*k) (vs:=d) (λj y=>A _ ω) f
  grind
 rw[ch,ch];rfl
def XD(rows:List (List C)):Prop:=∀r∈rows,∀c∈r,∃z,c=.v z
def y3(P:Program)(f k:Nat):Prop:=N6 P f/\∀(w:World)(g n a i:Nat)(news:List Value),i<n->n<=a->news.length=(n - (i+1))*k->(∀t u,news[t]? = some u->cel w g ((i+1)*k+t)=some u)->(∀u∈news,u.oneCell'=true)->
 (∀q,q<n*k->(w.cell? ⟨g,q,none⟩).isSome=true/\w.frozen? ⟨g,q,none⟩ = false)->
 Calls P f #[.slice (some ⟨g,0,none⟩) n a,.int .i64 i,.int .i64 ((i+1:Nat):Int)] w λe c=>e=.returned (.slice (some ⟨g,0,none⟩) (n - 1) a)/\∃b:List Value,b.length=k/\(∀v∈b,v.oneCell'=true)/\c=(w.drew.setCells g (i*k) news).setCells g ((n - 1)*k) b
variable{f:Nat}
theorem Dh{k:Nat}(hf:y3 P f k)(hi:i<rows.length)(hk:∀r∈rows,r.length=k)(T:HN rows) :
  aT P f false [.mut none [.s .own rows],.vI (i:Nat),.vI ((i+1:Nat):Int)] [.mut none [.x],.vI (i:Nat),.vI ((i+1:Nat):Int)] .one [oE (dele rows i)]:=by
 refine⟨hf.1,λw S V vs hS hV hVV U=>?_⟩
 match vs,U with
 | [v,v1,v2],⟨U,W,X,_⟩=>
  have l:=(bA.rep1 (show bA w S (V 0) none [C.s .own rows] v from U)).fresh ⟨.inl (λe=>by cases e),T⟩;have e1:v1=.int .i64 (i:Nat):=by
   have:=bA.rep1 (show bA w S NO none [C.v (.int .i64 (i:Nat))] v1 from W);cases this;rfl
  have e2:v2=.int .i64 ((i+1:Nat):Int):=by
   have:=bA.rep1 (show bA w S NO none [C.v (.int .i64 ((i+1:Nat):Int))] v2 from X);cases this;rfl
  subst e1 e2;have J:(dele rows i).length=rows.length - 1:=by grind [dele]
  generalize B:C.s .own rows=cc at l;cases l with
  | nil _ o a Y=>grind
  | suf _ o g off k n j rows u f Y=>cases B;exact Y.elim
  | own _ o g d n j Z u f' Y hn D p hpos hF hu hff hd hc=>
   cases B;have hkk:d=k:=by rw[<-D _ (List.getElem_mem hi),<-hk _ (List.getElem_mem hi)]
   subst hkk;have hnk:n*d<=j*d:=OE _ p;have hone:∀q,q<j*d->∃z,cel w g q=some z/\z.oneCell'=true:=ψ
   have e3:(i+1)*d+(n - (i+1))*d=n*d:=by rw[<-Nat.add_mul];congr 1;omega
   obtain⟨news,K,L,hn1⟩ : ∃news:List Value,news.length=(n - (i+1))*d/\(∀t u,news[t]? = some u->cel w g ((i+1)*d+t)=some u)/\∀u∈news,u.oneCell'=true:=by
    refine⟨(List.range ((n - (i+1))*d)).map λt=>(cel w g ((i+1)*d+t)).getD undef,by simp,λt y ht=>?_,λy hy=>?_⟩
    all_goals grind
   refine(hf.2 w g n j i news ω p K L hn1 (λq E=>?_)).mono λe A ⟨he,zs,z1,z2,hw'⟩=>?_
   ·grind
   have R:=QT (w:=w) (by omega:i<n) ψ K L z1 z2;rw[<-hw']at R;have hgV:∀q,q<j*d->V 0 g q:=ψ
   have F:bK (λb o=>∃i,V i b o) w A:=R.keep.up ψ;have e4:(n - 1)*d+d=n*d:=by rw[show(n - 1)*d+d=(n - 1+1)*d by rw[Nat.add_mul,Nat.one_mul]];congr 1;omega
   have G:∀q,q<j*d->∃z,cel A g q=some z/\z.oneCell'=true:=λq E=>by
    by_cases h1:q<i*d
    ·grind [mc.lo]
    by_cases h2:q<(n - 1)*d
    ·rw[R.mid q ω h2];grind
    grind [mc.hi,bK.cel,mc.keep]
   have M:cz A NO (V 0) [oE (dele rows i)] (λ_=>.slice (some ⟨g,0,none⟩) (n - 1) j):=by
    refine row1 ?_;by_cases hz:dele rows i=[]
    ·rw[hz]
     have hn0:n - 1=0:=ψ
     rw[hn0];exact .O _ g 0 d 0 j [] (λ_=>undef) rfl ψ (I1 _) ω ψ
    rw[tj hz];have H:0<n - 1:=ψ
    obtain⟨σ,hσ⟩ : ∃σ:Nat->Nat,∀q,σ q=if q<i*d then q else q+d:=⟨_,λ_=>rfl⟩
    have s1:∀q,q<(n - 1)*d->σ q<n*d:=ψ
    have s2:∀q q',q≠q'->σ q≠σ q':=ψ
    have s3:∀q,q<(n - 1)*d->cel A g q=cel w g (σ q):=λq E=>by grind [mc.lo,mc.mid]
    refine .own _ .own g d (n - 1) j _ (λq=>(cel A g q).getD undef) (λq=>f' (σ q)) tV1 (by rw[J];omega) (λr hr=>D r ((gw ..).subset hr)) ω H (λq E=>⟨hgV q E,G q E,(R.fro g q).trans (hF q E).2.2⟩) (λq E=>?_) ψ ψ (λa b r c N hb=>?_)
    ·grind
    have hbk:b<d:=by grind [gw]
    have hal:=(C4.1 N).1;rw[J]at hal;have hflat:a*d+b<(n - 1)*d:=cG ω hbk;obtain⟨O,h5,h6⟩ : ∃O,rows[O]? = some r/\σ (a*d+b)=O*d+b:=by
     rw[hσ];unfold dele at N;by_cases h1:a<i
     ·grind [I3,cG]
     rw[t9 ψ,I3,List.getElem?_drop]at N;rw[show i+1+(a - min i rows.length)=a+1 by omega]at N;have:i*d<=a*d:=OE _ ω;refine⟨a+1,N,?_⟩;rw[CI ω,Nat.add_mul,Nat.one_mul];omega
    have h7:=hc O b r c h5 hb;have Q:=pF hn D h5 hb;have hfl:=cG Q.1 Q.2;have h8:(cel A g (a*d+b)).getD undef=u (O*d+b):=ψ
    show di A NO (f' (σ (a*d+b))) c ((cel A g (a*d+b)).getD undef);rw[h8,h6];refine h7.keep (λ_ _ h=>h.elim) λb' o' hb'=>?_
    grind [bK.cel,mc.keep,mc.fro]
   exact⟨_,he,F,V 0,λ_=>NO,NO,ψ,λ_ _ _ h=>h.elim,λ_ _ h=>h.elim,λ_ _ _ _ _ h=>h.elim,λ_ _ _ _ h=>h.elim,λ_ _ _ h=>h.elim,λ_ _ _ h=>h.elim,rfl,M,⟨⟨rfl,λ_=>.slice (some ⟨g,0,none⟩) n j,rfl,row1 (.x _ _ rfl)⟩,tV1,tV1,tV1⟩⟩
  | _=>cases B
set_option maxRecDepth 100000
theorem w7{cap k:Nat}(d:news.length=(n - (i+1))*k)(a:n<=cap)(b:i<n)(h:∀t u,news[t]? = some u->cel w g ((i+1)*k+t)=some u):∃A:Addr,(if cap=i+1 then some (⟨g,0,none⟩ : Addr) else some ⟨g,(i+1)*k,none⟩)=some A/\∀t u,news[t]? = some u->w.drew.cell? (A.add t)=some u:=by
 by_cases e:cap=i+1
 ·simp_all
 refine⟨⟨g,(i+1)*k,none⟩,by simp[e],λt u c=>?_⟩;rw[Addr.add_lit];exact h t u c
def TW:∀w,(zeroValue 128).run Tryz.prog w=.ok (.agg #[.int .i64 0,.int .i64 0,.int .i64 0,.int .i64 0]) w:=λ_=>by kernel_rfl
theorem NJ:y3 Tryz.prog 276 4:=by
 refine⟨⟨_,Tryz.func276,by kernel_rfl,by kernel_rfl⟩,λw g n c i news p r l y B b=>?_⟩;obtain⟨A,U,a⟩:=w7 l r p y;have a:Hid (∀t u,news[t]? = some u->w.drew.cell? (A.add t)=some u):=a;have R:Hid (news.length=(n - (i+1))*4):=l;have V:Hid (∀u∈news,u.oneCell'=true):=B;have W:Hid (∀t,t<news.length->(w.drew.cell? ⟨g,0+i*4+t,none⟩).isSome=true/\w.drew.frozen? ⟨g,0+i*4+t,none⟩ = false):=λt ht=>by
  rw[SD];exact b (i*4+t) ω
 obtain⟨o,d⟩ : ∃o,o=w.drew.setCells g (0+i*4) news:=⟨_,rfl⟩
 have X:∀q,q<n*4->(o.cell? ⟨g,q,none⟩).isSome=true/\o.frozen? ⟨g,q,none⟩ = false:=λq S=>by
  have C:∀j,j<news.length->∃z,cel w.drew g (0+i*4+j)=some z:=λj Y=>by
   have:=(b (0+i*4+j) ω).1;exact Option.isSome_iff_exists.1 this
  refine⟨?_,by rw[d];exact(O1 Prod.fst (ch g _ news w.drew g q)).trans (b q S).2⟩;rw[d];by_cases h:0+i*4<=q/\q<0+i*4+news.length
  ·have:=b6 C (z4 (show q - (0+i*4)<news.length by omega))
   grind
  show(cel _ g q).isSome=true;rw[bp (λx=>h x.2)];exact(b q S).1
 obtain⟨K,D,E,F⟩:=xK (P:=Tryz.prog) o 70 128 4 (.agg #[.int .i64 0,.int .i64 0,.int .i64 0,.int .i64 0]) Tryz.underlying70 TW rfl (by intro v T;simp[Value.cells]at T;subst T;rfl) g ((i+(n - (i+1)))*4) (n - (i+(n - (i+1)))) ω qs ψ ψ;have G:Hid (K.length=(n - (i+(n - (i+1))))*4):=D;have H:Hid (∀v∈K,v.oneCell'=true):=E;have Z:Hid (o=w.drew.setCells g (0+i*4) news):=d;have hic:i<=c:=ω
 have L:i+1<=c:=ω
 have M:¬i=i+1:=ω
 have N:i+1<=n:=p;have k:n - 1=i+(n - (i+1)):=ω
 clear d X b y B l D E;rw[k];generalize Y:i+1=j at U a R F G L M N k |-;obtain⟨J,O,Q⟩ : ∃J,Tryz.prog.info? 128=some J/\J.size=4:=by
  have h:=(rV 128 _ rfl).1;cases e : Tryz.prog.info? 128 with
  | none=>grind
  | some x=>rw[e]at h;simp only[S9,C2,Prod.mk.injEq]at h;exact⟨x,rfl,h.2.1⟩
 have mixed : Tryz.prog.follows .mixedOrders=true:=by kernel_rfl
 go_enter Tryz.func276,Tryz.ntmps276
 go_wp2_with fail
 go_region_law_o (refine step_append_room rfl (.tmp 22) (.tmp 25) 70 rfl 128 J 4 Tryz.underlying70 O Q g 0 i c (by simp[Act.eval,Act.put]) A (n - j) (c - j) news (by simp[Act.eval,Act.put]) R.out a.out V.out ω W.out ?_;rw[<-Z.out])
 go_wp2
 go_ret
 refine⟨rfl,K,by grind [Go.RowKit.Hid.out],H.out,?_⟩
 grind [Go.RowKit.Hid.out]
theorem AO(xs:List aW)(i:Nat)(a:i<xs.length):zzB 276 false [.mut none [.s .own (xs.map (aW.enc .own))],.vI (i:Nat),.vI ((i+1:Nat):Int)] [.mut none [.x],.vI (i:Nat),.vI ((i+1:Nat):Int)] .one [oE ((dele xs i).map (aW.enc .own))]:=by
 have h:=Dh NJ (rows:=xs.map (aW.enc .own)) (i:=i) ψ (aN λ_=>rfl) (bj _ _ λx _=>aW.enc_fr x)
 grind [C8,I8,dele]
def Nm:∀w,(zeroValue 270).run Tryz.prog w=.ok (.agg #[.int .i64 0,.int .i64 0,.int .i64 0]) w:=λ_=>by kernel_rfl
theorem HU:y3 Tryz.prog 279 3:=by
 refine⟨⟨_,Tryz.func279,by kernel_rfl,by kernel_rfl⟩,λw g n c i news p r l y B b=>?_⟩;obtain⟨A,U,a⟩:=w7 l r p y;have a:Hid (∀t u,news[t]? = some u->w.drew.cell? (A.add t)=some u):=a;have R:Hid (news.length=(n - (i+1))*3):=l;have V:Hid (∀u∈news,u.oneCell'=true):=B;have W:Hid (∀t,t<news.length->(w.drew.cell? ⟨g,0+i*3+t,none⟩).isSome=true/\w.drew.frozen? ⟨g,0+i*3+t,none⟩ = false):=λt ht=>by
  rw[SD];exact b (i*3+t) ω
 obtain⟨o,d⟩ : ∃o,o=w.drew.setCells g (0+i*3) news:=⟨_,rfl⟩
 have X:∀q,q<n*3->(o.cell? ⟨g,q,none⟩).isSome=true/\o.frozen? ⟨g,q,none⟩ = false:=λq S=>by
  have C:∀j,j<news.length->∃z,cel w.drew g (0+i*3+j)=some z:=λj Y=>by
   have:=(b (0+i*3+j) ω).1;exact Option.isSome_iff_exists.1 this
  refine⟨?_,by rw[d];exact(O1 Prod.fst (ch g _ news w.drew g q)).trans (b q S).2⟩;rw[d];by_cases h:0+i*3<=q/\q<0+i*3+news.length
  ·have:=b6 C (z4 (show q - (0+i*3)<news.length by omega))
   grind
  show(cel _ g q).isSome=true;rw[bp (λx=>h x.2)];exact(b q S).1
 obtain⟨K,D,E,F⟩:=xK (P:=Tryz.prog) o 69 270 3 (.agg #[.int .i64 0,.int .i64 0,.int .i64 0]) Tryz.underlying69 Nm rfl (by intro v T;simp[Value.cells]at T;subst T;rfl) g ((i+(n - (i+1)))*3) (n - (i+(n - (i+1)))) ω qs ψ ψ;have G:Hid (K.length=(n - (i+(n - (i+1))))*3):=D;have H:Hid (∀v∈K,v.oneCell'=true):=E;have Z:Hid (o=w.drew.setCells g (0+i*3) news):=d;have hic:i<=c:=ω
 have L:i+1<=c:=ω
 have M:¬i=i+1:=ω
 have N:i+1<=n:=p;have k:n - 1=i+(n - (i+1)):=ω
 clear d X b y B l D E;rw[k];generalize Y:i+1=j at U a R F G L M N k |-;obtain⟨J,O,Q⟩ : ∃J,Tryz.prog.info? 270=some J/\J.size=3:=by
  have h:=(rV 270 _ rfl).1;cases e : Tryz.prog.info? 270 with
  | none=>grind
  | some x=>rw[e]at h;simp only[S9,C2,Prod.mk.injEq]at h;exact⟨x,rfl,h.2.1⟩
 have mixed : Tryz.prog.follows .mixedOrders=true:=by kernel_rfl
 go_enter Tryz.func279,Tryz.ntmps279
 go_wp2_with fail
 go_region_law_o (refine step_append_room rfl (.tmp 22) (.tmp 25) 69 rfl 270 J 3 Tryz.underlying69 O Q g 0 i c (by simp[Act.eval,Act.put]) A (n - j) (c - j) news (by simp[Act.eval,Act.put]) R.out a.out V.out ω W.out ?_;rw[<-Z.out])
 go_wp2
 go_ret
 refine⟨rfl,K,by grind [Go.RowKit.Hid.out],H.out,?_⟩
 grind [Go.RowKit.Hid.out]
theorem wH(xs:List a8)(i:Nat)(a:i<xs.length):zzB 279 false [.mut none [.s .own (xs.map (a8.enc .own))],.vI (i:Nat),.vI ((i+1:Nat):Int)] [.mut none [.x],.vI (i:Nat),.vI ((i+1:Nat):Int)] .one [oE ((dele xs i).map (a8.enc .own))]:=by
 have h:=Dh HU (rows:=xs.map (a8.enc .own)) (i:=i) ψ (aN λ_=>rfl) (bj _ _ λx _=>a8.enc_fr x)
 grind [C8,I8,dele]
def R4:∀w,(zeroValue 219).run Tryz.prog w=.ok (.agg #[.int .i64 0,.int .i64 0,.int .i64 0]) w:=λ_=>by kernel_rfl
theorem My:y3 Tryz.prog 416 3:=by
 refine⟨⟨_,Tryz.func416,by kernel_rfl,by kernel_rfl⟩,λw g n c i news p r l y B b=>?_⟩;obtain⟨A,U,a⟩:=w7 l r p y;have a:Hid (∀t u,news[t]? = some u->w.drew.cell? (A.add t)=some u):=a;have R:Hid (news.length=(n - (i+1))*3):=l;have V:Hid (∀u∈news,u.oneCell'=true):=B;have W:Hid (∀t,t<news.length->(w.drew.cell? ⟨g,0+i*3+t,none⟩).isSome=true/\w.drew.frozen? ⟨g,0+i*3+t,none⟩ = false):=λt ht=>by
  rw[SD];exact b (i*3+t) ω
 obtain⟨o,d⟩ : ∃o,o=w.drew.setCells g (0+i*3) news:=⟨_,rfl⟩
 have X:∀q,q<n*3->(o.cell? ⟨g,q,none⟩).isSome=true/\o.frozen? ⟨g,q,none⟩ = false:=λq S=>by
  have C:∀j,j<news.length->∃z,cel w.drew g (0+i*3+j)=some z:=λj Y=>by
   have:=(b (0+i*3+j) ω).1;exact Option.isSome_iff_exists.1 this
  refine⟨?_,by rw[d];exact(O1 Prod.fst (ch g _ news w.drew g q)).trans (b q S).2⟩;rw[d];by_cases h:0+i*3<=q/\q<0+i*3+news.length
  ·have:=b6 C (z4 (show q - (0+i*3)<news.length by omega))
   grind
  show(cel _ g q).isSome=true;rw[bp (λx=>h x.2)];exact(b q S).1
 obtain⟨K,D,E,F⟩:=xK (P:=Tryz.prog) o 68 219 3 (.agg #[.int .i64 0,.int .i64 0,.int .i64 0]) Tryz.underlying68 R4 rfl (by intro v T;simp[Value.cells]at T;subst T;rfl) g ((i+(n - (i+1)))*3) (n - (i+(n - (i+1)))) ω qs ψ ψ;have G:Hid (K.length=(n - (i+(n - (i+1))))*3):=D;have H:Hid (∀v∈K,v.oneCell'=true):=E;have Z:Hid (o=w.drew.setCells g (0+i*3) news):=d;have hic:i<=c:=ω
 have L:i+1<=c:=ω
 have M:¬i=i+1:=ω
 have N:i+1<=n:=p;have k:n - 1=i+(n - (i+1)):=ω
 clear d X b y B l D E;rw[k];generalize Y:i+1=j at U a R F G L M N k |-;obtain⟨J,O,Q⟩ : ∃J,Tryz.prog.info? 219=some J/\J.size=3:=by
  have h:=(rV 219 _ rfl).1;cases e : Tryz.prog.info? 219 with
  | none=>grind
  | some x=>rw[e]at h;simp only[S9,C2,Prod.mk.injEq]at h;exact⟨x,rfl,h.2.1⟩
 have mixed : Tryz.prog.follows .mixedOrders=true:=by kernel_rfl
 go_enter Tryz.func416,Tryz.ntmps416
 go_wp2_with fail
 go_region_law_o (refine step_append_room rfl (.tmp 22) (.tmp 25) 68 rfl 219 J 3 Tryz.underlying68 O Q g 0 i c (by simp[Act.eval,Act.put]) A (n - j) (c - j) news (by simp[Act.eval,Act.put]) R.out a.out V.out ω W.out ?_;rw[<-Z.out])
 go_wp2
 go_ret
 refine⟨rfl,K,by grind [Go.RowKit.Hid.out],H.out,?_⟩
 grind [Go.RowKit.Hid.out]
theorem M3(xs:List aA)(i:Nat)(a:i<xs.length):zzB 416 false [.mut none [.s .own (xs.map (aA.enc .own))],.vI (i:Nat),.vI ((i+1:Nat):Int)] [.mut none [.x],.vI (i:Nat),.vI ((i+1:Nat):Int)] .one [oE ((dele xs i).map (aA.enc .own))]:=by
 have h:=Dh My (rows:=xs.map (aA.enc .own)) (i:=i) ψ (aN λ_=>rfl) (bj _ _ λx _=>aA.enc_fr x)
 grind [C8,I8,dele]
theorem FV(c:aB)(k:Nat)(a:Int)(g:bE c=true)(y:k<=3):zzA 291 false [.val (some 1) (aB.enc .O c),.vI (k:Nat),.vI a] (.tup [some 1,none]) (BW c k a):=by
 obtain⟨B,q⟩:=ee g;have r:aB.sml c:=⟨ω,λl u=>by have:=q l u;show l.length<=1048576;omega⟩
 have h:=ww c k r;rw[g,O0 ω]at h;have t:=ky c r;have j:=KL g k a;have n:=qQ (o8 c k a) j;have b:=nz (c:=c) (k:=k) ω;have w:=q _ (ax (xs:=c.W) (i:=k) ω);have o:=Co (o8 c k a);rw[BT]at o;have d:=Kq c k a;unfold BW at d |-;cases e:bE (o8 c k a)<;>rw[e]at n
 ·have p:cput c k a=none:=by grind [cput]
  rw[p]at d |-;refine fO 35 [(4,267,[17,18,19,20,21,22,23,24,25,26,28,0,1,2,3,4,5,6,7,8,9,10,1000,1001,1002,11,12])] Tryz.func291 rfl ?_ (.inr d)
  repeat'(first|refine gP ?_|refine CH (ce b) ?_|refine CL rfl (ce b) rfl ?_|refine Cg rfl rfl (aa b) rfl (O2 rfl) rfl rfl ?_|refine CR rfl rfl (ce b) rfl (O2 rfl) (show [C.s eL.own ((c.W.map (aE .own)).set k (aE .own (nth c.W k++[a])))]=_ from by simp only[List.set_cons_zero,List.set_set,O4];rfl) ?_|refine Cc (aN λ_=>rfl) rfl kd qs (dZ _ _ _) ?_|refine CM (n) ⟨⟨rfl,o⟩,tV1⟩ ?_)
  rfl
 have p:cput c k a=some (o8 c k a):=by grind [cput]
 rw[p]at d |-;rw[show(some (o8 c k a)).getD c=o8 c k a from rfl,BT]at d |-;refine fO 35 [(4,267,[17,18,19,20,21,22,23,24,25,26,28,0,1,2,3,4,5,6,7,8,9,10,1000,1001,1002,11,12])] Tryz.func291 rfl ?_ (.inr d)
 repeat'(first|refine gP ?_|refine CH (ce b) ?_|refine CL rfl (ce b) rfl ?_|refine Cg rfl rfl (aa b) rfl (O2 rfl) rfl rfl ?_|refine CR rfl rfl (ce b) rfl (O2 rfl) (show [C.s eL.own ((c.W.map (aE .own)).set k (aE .own (nth c.W k++[a])))]=_ from by simp only[List.set_cons_zero,List.set_set,O4];rfl) ?_|refine Cc (aN λ_=>rfl) rfl kd qs (dZ _ _ _) ?_|refine CM (n) ⟨⟨rfl,o⟩,tV1⟩ ?_)
 rfl
theorem Nf(c:Nat)(W:World):Calls Tryz.prog 295 #[.slice none 0 c] W λe g=>∃B q h,e=.returned (.slice B 0 0)/\g=Sort.grow (W.drewN q) h:=by
 have q22:∀(w:World)(a:Option Addr)(n c b d:Nat),(binOp .eql 75 (.slice a n c) (.slice none b d)).run Tryz.prog w=.ok (.bool a.isNone) w:=λw a n c b d=>Lib.run_eql_slice_nil w _ _ a n c b d Tryz.underlying75
 go_enter Tryz.func295,Tryz.ntmps295
 go_wp2
 go_ret
 exact⟨none,0,#[],rfl,by simp[Sort.grow,World.drewN]⟩
theorem MI(a:Addr)(c:Nat)(W:World):Calls Tryz.prog 295 #[.slice (some a) 0 c] W λe g=>∃B q h,e=.returned (.slice B 0 0)/\g=Sort.grow (W.drewN q) h:=by
 have q22:∀(w:World)(a:Option Addr)(n c b d:Nat),(binOp .eql 75 (.slice a n c) (.slice none b d)).run Tryz.prog w=.ok (.bool a.isNone) w:=λw a n c b d=>Lib.run_eql_slice_nil w _ _ a n c b d Tryz.underlying75
 go_enter Tryz.func295,Tryz.ntmps295
 go_wp2
 go_ret
 exact⟨some ⟨W.heap.size,0,none⟩,0,#[.cells #[] 164],rfl,by rw[Sort.alloc_eq_grow];rfl⟩
theorem nk(xs:List aJ)(o:xs.length<=1048576):zzA 295 false [.val none (bY .O xs)] .one (bY .own xs):=by
 by_cases c:xs=[]
 ·subst c
  refine⟨⟨_,Tryz.func295,by kernel_rfl,by kernel_rfl⟩,λw S p t d=>?_⟩
  match p,d with
  | [v],⟨d,_⟩=>
   have b:=bA.rep1 (show bA w S NO none [C.s .O []] v from d);obtain⟨l,g,rfl⟩:=b.slice;have r:Calls Tryz.prog 295 #[.slice l 0 g] w λe n=>∃B q i,e=.returned (.slice B 0 0)/\n=Sort.grow (w.drewN q) i:=by
    cases l with
    | none=>grind [Nf]
    | some a=>grind [MI]
   refine r.mono λe n ⟨B,q,i,c,j⟩=>?_
   subst j;exact⟨.slice B 0 0,c,En w q i,NO,NO,λ_ _ h=>h.elim,λ_ _ h=>h.elim,λ_ _ h=>h.elim,rfl,row1 (.nil _ .own B tV1)⟩
 have k:xs.map (aJ.enc .O)≠[]:=by simp_all
 refine fO 8 [] Tryz.func295 rfl ?_ (.inr (oK _))
 repeat'(first|refine gP ?_|refine Nn.mk k ?_|refine CW (λ_=>rfl) (λ_=>rfl) o qs ?_)
 rfl
theorem JA(q:bh)(a:aJ)(u:q.q.length<=4096)(g:hB q=true)(w:0<=a.Z/\a.Z<=3/\0<=a.Addr/\0<=a.b7)(B:∀y∈q.q,y.b7<=a.b7)(C:∀y∈q.q,y.Addr≠a.Addr) :
  zzA 283 false [.val (some 2) (bh.enc .O q),.val (some 3) (aJ.enc .O a)] (.tup [some 2,none]) (Uz q a):=by
 have b:bh.sml q:=⟨ω,λ_ _=>tV1⟩
 have l:=pw q b;have h:=t7 q b;rw[g]at h;have i:=xo q.q a ω;have D:q.q.length=0\/(nth q.q (q.q.length - 1)).b7<=a.b7:=by grind [ax]
 have d:pc q.q a=true:=by grind [pc,fS]
 rw[d]at i;have n:=(jv.1 g).2.2.2;have e:=Qh q a;have c:=Ec q.c0 (q.q++[a]);simp only[I5,List.length_singleton]at c;have E:(q.q++[a]).length=q.q.length+1:=by simp
 refine fO 51 [(6,7,[28,29,30,31,32,33,34])] Tryz.func283 rfl ?_ (.inr e)
 repeat'(first|refine gP ?_|refine Cc (aN λ_=>rfl) rfl kd qs (dZ (aJ.enc .own) q.q a) ?_)
 refine Lp.fz 6 (ι:=Nat) (λk=>[(2,bS (bh.enc .O q)),(4,bS [I 0,.z]),(6,bS (bh.enc .O ⟨q.c0,q.q++[a]⟩)),(7,fN k)]) (λk=>k<=kh q.c0 (q.q++[a])) (λk=>kh q.c0 (q.q++[a]) - k) 0 ?_ (I1 _) λk F=>?_
 ·(repeat'(first|exact tV1|rfl|exact CK rfl (show RB (cP (bh.enc .own ⟨q.c0,q.q++[a]⟩)) (bh.enc .O ⟨q.c0,q.q++[a]⟩) by rw[bh.enc_fz];exact lX _)|refine CK ?_ ?_))
 have o:((q.q++[a]).drop k).length<=5000:=ψ
 have p:((q.q++[a]).take k).length<=5000:=ψ
 have j:=tF ((q.q++[a]).drop k) ⟨ω,λ_ _=>tV1⟩;by_cases r:k<kh q.c0 (q.q++[a])
 ·have t:q.c0<quarCells ((q.q++[a]).drop k) ((q.q++[a]).drop k).length:=yO r
  repeat'(first|refine gE ?_|refine Cf k rfl (by rw[I2];show k<=(q.q++[a]).length;omega) (aN λ_=>rfl) I8 ?_)
  (exact dt (k+1) ω)
 obtain rfl:k=kh q.c0 (q.q++[a]):=ω
 have t:quarCells ((q.q++[a]).drop (kh q.c0 (q.q++[a]))) ((q.q++[a]).drop (kh q.c0 (q.q++[a]))).length<=q.c0:=A8 n.1 _
 repeat'(first|refine gE ?_|refine Cf (kh q.c0 (q.q++[a])) rfl (by rw[I2];show kh q.c0 (q.q++[a])<=(q.q++[a]).length;omega) (aN λ_=>rfl) I8 ?_|refine CZ (kh q.c0 (q.q++[a])) rfl (by rw[I2];show kh q.c0 (q.q++[a])<=(q.q++[a]).length;omega) (aN λ_=>rfl) C8 ?_|refine CF (nk ((q.q++[a]).take (kh q.c0 (q.q++[a]))) ω) ?_|refine CF (nk ((q.q++[a]).drop (kh q.c0 (q.q++[a]))) ω) ?_)
 rfl
def Hd(h:ac)(p:Int):zzA 266 false [.val (some 24) (ac.enc .O h),.vI p] .one [B (ib h p)]:=by
 cases e:h.a2
 all_goals
  have a:ac.enc .O h=(ac.enc .O h).set 18 (B h.a2):=rfl;rw[e]at a;rw[a];refine fO 23 [] Tryz.func266 rfl ?_
  repeat'(first|refine gP ?_|refine gS (λb=>?_) (λb=>?_)|fail)
  all_goals exact bx ((by unfold ib;rw[e];first|(simp[*];done)|(simp[*];rw[z9];simp;try omega)|(rw[z9];simp[*];try omega)))
def xb(h:ac):zzA 401 false [.val (some 24) (ac.enc .O h)] .one [I (fT h:Nat)]:=by
 refine fO 9 [] Tryz.func401 rfl ?_
 refine σP ?_
 rfl
theorem tz(c:C):VC c c:=(lX [c]).1
def cE(h:ac)(s l o:C):List C:=[.s .own (h.G.F.V.U.map (aE .own)),.s .own (h.G.F.V.a3.map (rB .own)),.s .own (h.G.F.Q.M.map (aS.enc .own)),I h.G.Calls,.s .own (h.G.a.map (rI .own)),.s .own (h.b.map (aC.enc .own)),s,l,o,.s .own (h.R.map (aB.enc .own)),.s .own (h.e.T.map (bg .own)),.s .own (h.e.g.map (aE .own)),I h.a1.c0,.s .own (h.a1.q.map (aJ.enc .own)),I h.c1,I h.b1,I h.c2,I h.k,B h.a2,I h.a5.d.b0,I h.a5.d.b2,.s .own (h.a5.d.U.map (rI .own)),I h.a5.b5,I h.a5.k]
def oS(h:ac):C:=oE (h.J.map (aA.enc .own))
def oL(h:ac):C:=oE (h.H.map (a8.enc .own))
def oO(h:ac):C:=oE (h.K.map (aW.enc .own))
def dq(h:ac):List C:=cE h (oS h) (oL h) (oO h)
def Qw(rows:List (List C)):fz (oE rows)=fz (.s .own rows):=by cases rows<;>rfl
def ug : oE rows=.s .own rows\/(rows=[]/\oE rows=.s .O []):=by cases rows with|nil=>exact .inr ⟨rfl,rfl⟩|cons=>exact .inl rfl
def YF(h:ac){s l o:C}(a:fz s=.s .O (h.J.map (aA.enc .O)))(b:fz l=.s .O (h.H.map (a8.enc .O)))(c:fz o=.s .O (h.K.map (aW.enc .O))):cP (cE h s l o)=ac.enc .O h:=by
 have d:=ac.enc_fz h;have e:cP (cE h s l o)=(((cP (ac.enc .own h)).set 6 (fz s)).set 7 (fz l)).set 8 (fz o):=rfl;rw[e,d,a,b,c];rfl
def YM(h:ac):fz (oS h)=.s .O (h.J.map (aA.enc .O)):=(Qw _).trans (BA _)
def X4(h:ac):fz (oL h)=.s .O (h.H.map (a8.enc .O)):=(Qw _).trans (y2 _)
def YQ(h:ac):fz (oO h)=.s .O (h.K.map (aW.enc .O)):=(Qw _).trans (AC _)
def Q2(h:ac):cP (dq h)=ac.enc .O h:=YF h (YM h) (X4 h) (YQ h)
def Dz(h:HN rows):Gg (oE rows):=by cases rows with|nil=>exact⟨.inr rfl,tV1⟩|cons r a=>exact⟨.inl λe=>(by cases e),h⟩
theorem cn(h:ac):gl (dq h):=by
 have a:=ac.enc_fr h;simp only[ac.enc,gl]at a;unfold dq cE;simp only[gl];refine⟨a.1,a.2.1,a.2.2.1,a.2.2.2.1,a.2.2.2.2.1,a.2.2.2.2.2.1,Dz ?_,Dz ?_,Dz ?_,a.2.2.2.2.2.2.2.2.2⟩
 ·exact a.2.2.2.2.2.2.1.2
 ·exact a.2.2.2.2.2.2.2.1.2
 exact a.2.2.2.2.2.2.2.2.1.2
def vZ{S Y:am}{v:Value}(h:di w S Y (.s .own rows) v):di w S Y (oE rows) v:=by
 cases rows with
 | cons=>exact h
 | nil=>
  cases h with
  | nil _ o a b=>exact .nil _ .O a tV1
  | own _ o g k n c rows u f b i l d e p q r t y=>simp at i;omega
  | suf _ o g j k n c rows u f b=>exact b.elim
theorem UF{S Y:am}{u:Nat->Value}(b:cz w S Y (ac.enc .own h) u):cz w S Y (dq h) u:=by
 obtain⟨f,a,d,e⟩:=b;refine⟨f,λj c g=>?_,d,e⟩;have i:dq h=(((ac.enc .own h).set 6 (oS h)).set 7 (oL h)).set 8 (oO h):=rfl;rw[i]at g;by_cases k:j=8
 ·subst k
  have:c=oO h:=ψ
  rw[this];exact vZ (a 8 _ rfl)
 by_cases l:j=7
 ·subst l
  have:c=oL h:=ψ
  rw[this];exact vZ (a 7 _ rfl)
 by_cases n:j=6
 ·subst n
  have:c=oS h:=ψ
  rw[this];exact vZ (a 6 _ rfl)
 grind
def dM(h:ac)(a:ac.sml h):zzA 104 false [.val (some 24) (ac.enc .O h)] .agg (dq h):=by
 obtain⟨b,c⟩:=jw h a;refine⟨b,λw S d g i=>(c w S d g i).mono λe w1 j=>?_⟩;obtain⟨v,k,l,X,S1,n,o,p,q,r⟩:=j;exact⟨v,k,l,X,S1,n,o,p,q,UF r⟩
def Rj(h:ac)(s l o:C)(a:Int)(k:Nat)(v:Int)(b:0<=a):cE {h with G:=fj h.G a (k+1)} s l o=(cE {h with G:=fj h.G a k} s l o).set 0 (.s .own (((fj h.G a k).F.V.U.map (aE .own)).set (ay h.G.F.Q (a / 16)).j.toNat ((aE .own (jS (nth h.G.F.V.U (fQ h.G a)) (a % 16).toNat k)).set 0 (.s .own (((jS (nth h.G.F.V.U (fQ h.G a)) (a % 16).toNat k).map (rI .own)).set (a % 16+k).toNat (splice (rI .own v) 0 [I 0])))))):=by
 have e:(a % 16+k).toNat=(a % 16).toNat+k:=ω
 rw[e];simp[cE,fj,CC,jS,aE,splice,fQ]
 rfl
theorem mH(h:ac)(s l o:C)(a:Int)(n:Nat)(p:aH h.G=true)(e:0<=a/\a<512)(r:0<=(ay h.G.F.Q (a / 16)).j/\(ay h.G.F.Q (a / 16)).j<h.G.F.V.U.length)(w:a % 16+n<=16)(y:(nth h.G.F.V.U (fQ h.G a)).length=16) :
  zzB 281 false [.ptr (cE h s l o),.vI a,.vI (n:Nat)] [.ptr (cE {h with G:=fj h.G a n} s l o),.vI a,.vI (n:Nat)] (.tup []) []:=by
 have g:=bk p;have t:=de h.G.F.Q (a / 16) g.1.2;have c:fQ h.G a<h.G.F.V.U.length:=by unfold fQ;omega
 refine fM 36 [] [] [(0,0),(0,0),(0,0)] Tryz.func281 rfl (λu q=>?_) (.inr tV1)
 repeat'(first|refine gP ?_|refine CT qs ?_|refine CS (lQ e) ?_|refine CM (t) ⟨⟨rfl,Cj _⟩,⟨rfl,rfl⟩,tV1⟩ ?_)
 rw[show cE h s l o=cE {h with G:=fj h.G a 0} s l o by rw[H3 h a c]]
 (conv=>whnf)
 refine lp0 n (λk=>[(0,bS (cE {h with G:=fj h.G a k} s l o)),(1,fI a),(2,fN n),(6,fI ((ay h.G.F.Q (a / 16)).j)),(7,fN k)]) λk p=>?_
 have j:a.tmod 16=a % 16:=fg e.1;have b:(fj h.G a k).F.V.U[(ay h.G.F.Q (a / 16)).j.toNat]? = some (jS (nth h.G.F.V.U (fQ h.G a)) (a % 16).toNat k):=I6 c;by_cases B:k<n
 ·have d:=ar (xs:=jS (nth h.G.F.V.U (fQ h.G a)) (a % 16).toNat k) (i:=(a % 16+k).toNat) (by grind [q8])
  repeat'(first|refine gE ?_|refine CT qs ?_|refine CX j ?_|refine CQ r.1 (aa b) ?_|refine CQ ω (aa d) ?_|refine Pu.two rfl rfl (aa b) rfl rfl rfl (aa d) rfl (z5 _) (Rj h s l o a k _ e.1) ?_)
  (exact dt (k+1) ω)
 obtain rfl:k=n:=ω
 refine σE ?_
 exact kk
theorem ku(h:ac)(r:aC)(n:Nat)(a:aH h.G=true)(j:h.G.Calls≠100000)(b:h.b.length<=1048576)(l:r.a4=n/\0<=r.At/\r.At<=1000/\n<=1000) :
  zzB 280 false [.ptr (dq h),.val (some 2) (aC.enc .O r)] [.ptr (dq {h with G:=dJ h.G r.At n,b:=(cr (fT h) h.b r).getD h.b}),.val (some 2) (aC.enc .O r)] (.tup []) []:=by
 have c:=a;have e:fT h<=32:=(bz.1 (aF.1 a).2.2.1).2.2;have d:=xb {h with G:=dJ h.G r.At n};rw[show fT {h with G:=dJ h.G r.At n} = fT h from(ip _ _ _).1]at d;have g:=FU (fT h:Nat) h.b r ω ⟨b,λ_ _=>tV1⟩;refine fM 44 [] [(5,272,[29,30,31,32,33,34,35,36,37,38,39,28,40,41,42,43,0,1,2,3,4,5,6,7,8,9,10,11,12,13,14,15,16,1013])] [(0,0),(0,0)] Tryz.func280 rfl (λu q=>?_) (.inr tV1)
 refine σP ?_
 refine lp0 n (λk=>[(0,bS (dq {h with G:=dJ h.G r.At k})),(3,bS (aC.enc .O r)),(4,fI (r.At+k))]) λk a=>?_
 by_cases o:k<n
 ·have i:=uh (dJ h.G r.At k) (r.At+k) (kK c _ _) (by grind [uB])
  repeat'(first|refine gE ?_|refine CM (i) ⟨⟨rfl,CU _⟩,⟨rfl,rfl⟩,tV1⟩ ?_)
  (exact dt (k+1) ω)
 obtain rfl:k=n:=ω
 repeat'(first|refine gE ?_|refine CM (d) ⟨⟨rfl,Q2 _⟩,tV1⟩ ?_|refine CM (g) ⟨⟨rfl,rfl⟩,⟨rfl,er h.b⟩,⟨rfl,rfl⟩,tV1⟩ ?_)
 exact kk
theorem Yo{c a:C}(h:a=c):VC c a:=by grind [tz]
theorem Ty(k:af)(p:Int):dJ k p 1=cQ k p:=by show cQ k (p+((0:Nat):Int))=_;grind
theorem xX(a:h.J≠[]):dq h=cE h (.s .own (h.J.map (aA.enc .own))) (oL h) (oO h):=by grind [tj,List.map_eq_nil_iff,dq,oS]
def Xy(h:ac):oL h=.s .own (h.H.map (a8.enc .own))\/(h.H=[]/\oL h=.s .O []):=by
 rcases ug (rows:=h.H.map (a8.enc .own)) with e|⟨a,b⟩
 ·exact .inl e
 exact .inr ⟨List.map_eq_nil_iff.1 a,b⟩
theorem gU{xs:List α}(h:i<xs.length):xs≠[]:=(ψ)
theorem EF(h:ac)(i:Nat)(j:aH h.G=true)(k:h.G.Calls≠100000)(b:h.b.length<=1048576)(c:i<h.J.length)(l:h.J.length<=1048576)(o:0<=(nth h.J i).S/\(nth h.J i).S<=31) :
  zzB 294 false [.ptr (dq h),.vI (i:Nat)] [.ptr (dq (giveP h i)),.vI (i:Nat)] (.tup []) []:=by
 have d:=ar c;have g:=M3 h.J i c;have a:=ku {h with J:=dele h.J i} ⟨(nth h.J i).S,1⟩ 1 j k b ψ;rw[show dJ ({h with J:=dele h.J i} : ac).G (aC.mk (nth h.J i).S 1).At 1=cQ h.G (nth h.J i).S from Ty _ _]at a;have n:dq {h with J:=dele h.J i} = cE h (oE ((dele h.J i).map (aA.enc .own))) (oL h) (oO h):=rfl;rw[xX (gU c)];rcases ug (rows:=(dele h.J i).map (aA.enc .own)) with e|⟨-,e⟩
 all_goals
  rw[n]at a;rw[e]at g a;refine fM 28 [(416,[1,0,0]),(280,[2,0])] [] [(0,0),(0,0)] Tryz.func294 rfl (λu q=>?_) (.inr tV1)
  refine σP ?_
  exact ks
def UH(c:bm h E)(d:i<h.J.length)(b:gZ (nth h.J i) a):denotes h.J h.H a = ⟨1,i,eG (nth h.J i) a,0⟩:=by
 rw[jA c.L d ⟨b.1,b.2.1⟩];unfold tC;rw[b.2.2.2,b.2.2.1];rfl
theorem mq(h:ac)(E:List Int)(a:Int)(b:bm h (a::E))(G:h.G.Calls≠100000):zzB 134 false [.ptr (dq h),.vI a] [.ptr (dq (freeA h a)),.vI a] (.tup []) []:=by
 obtain⟨g,t,H⟩:=b.at (b.hin a ψ);have J:=(b.hin a ψ).bd b;have D:=b.lens;have K:=D.spans;have M:=D.larges;unfold freeA;generalize Ai h a=i at g t;have l:=b.L.sok _ (ax g);have N:=aO l;have c:=ar g;have j:=np h.J h.H a ⟨ω,λ_ _=>tV1⟩ ⟨ω,λ_ _=>tV1⟩;rw[UH b g t]at j;have w:=FH (nth h.J i) (eG (nth h.J i) a) l t.2.2.2;have P:=b.give g t;have n:=Hd (clrS h i a) (nth h.J i).S;rw[show ib (clrS h i a) (nth h.J i).S=ib h (nth h.J i).S from rfl]at n;have o:i<(clrS h i a).J.length:=by grind [clrS]
 have y:(nth (clrS h i a).J i).S=(nth h.J i).S:=by unfold clrS;simp only[cT,true_and];rw[CJ g];rfl
 have p:=EF (clrS h i a) i b.ker G (by show h.b.length<=_;grind [oH.free]) o (by grind [clrS]) (by rw[y];omega);have d:dq (clrS h i a)=cE h (.s .own ((h.J.map (aA.enc .own)).set i (aA.enc .own (nj (nth h.J i) (eG (nth h.J i) a))))) (oL h) (oO h):=by
  rw[xX (gU o)];show cE h (.s .own ((h.J.set i _).map _)) (oL h) (oO h)=_;rw[CC]
 have r:=Q2 (clrS h i a);rw[d]at r p;have k:((h.J.map (aA.enc .own)).set i (aA.enc .own (nj (nth h.J i) (eG (nth h.J i) a))))[i]? = some (aA.enc .own (nj (nth h.J i) (eG (nth h.J i) a))):=kD g;rw[xX (gU g)];have B:=X4 h;unfold freeS;rcases Xy h with e|⟨C,e⟩
 all_goals
  try rw[C]at j
  rw[e]at p r B d |-;by_cases F:(nj (nth h.J i) (eG (nth h.J i) a)).a6=0
  ·cases O:ib h (nth h.J i).S<;>rw[O]at n
   ·rw[CJ ⟨F,rfl⟩]
    refine fM 64 [(294,[2,0])] [(0,11,[6,7,8,9,10,11,12,13,14,15,4]),(2,277,[20,21,22,23,24,25,26,27,28,29,30,31,32,33,34,35,36,19,37,38,39,0,1,2,3,4,5,6,7,8,9,10,11,12,13,14,15,16,17,18,19,20,21,1019]),(3,9,[40,41,42,43,44,45,46,47,5]),(4,9,[48,49,50,51,52,53,54,55,56])] [(0,0),(0,0)] Tryz.func134 rfl (λu q=>?_) (.inr tV1)
    repeat'(first|refine gB ?_|refine CM (j) ⟨⟨rfl,eN _⟩,⟨rfl,kf _⟩,⟨rfl,rfl⟩,tV1⟩ ?_|refine CM (j) ⟨⟨rfl,eN _⟩,⟨rfl,rfl⟩,⟨rfl,rfl⟩,tV1⟩ ?_|refine CH k ?_|refine CL rfl k rfl ?_|refine CR rfl rfl (aa c) rfl (O2 rfl) rfl ?_|refine CM (n) ⟨⟨rfl,r⟩,⟨rfl,rfl⟩,tV1⟩ ?_)
    exact ks
   rw[CI (λx=>by cases x.2),d];refine fM 64 [(294,[2,0])] [(0,11,[6,7,8,9,10,11,12,13,14,15,4]),(2,277,[20,21,22,23,24,25,26,27,28,29,30,31,32,33,34,35,36,19,37,38,39,0,1,2,3,4,5,6,7,8,9,10,11,12,13,14,15,16,17,18,19,20,21,1019]),(3,9,[40,41,42,43,44,45,46,47,5]),(4,9,[48,49,50,51,52,53,54,55,56])] [(0,0),(0,0)] Tryz.func134 rfl (λu q=>?_) (.inr tV1)
   repeat'(first|refine gB ?_|refine CM (j) ⟨⟨rfl,eN _⟩,⟨rfl,kf _⟩,⟨rfl,rfl⟩,tV1⟩ ?_|refine CM (j) ⟨⟨rfl,eN _⟩,⟨rfl,rfl⟩,⟨rfl,rfl⟩,tV1⟩ ?_|refine CH k ?_|refine CL rfl k rfl ?_|refine CR rfl rfl (aa c) rfl (O2 rfl) rfl ?_|refine CM (n) ⟨⟨rfl,r⟩,⟨rfl,rfl⟩,tV1⟩ ?_)
   exact ks
  rw[CI (λx=>F x.1),d];refine fM 64 [(294,[2,0])] [(0,11,[6,7,8,9,10,11,12,13,14,15,4]),(2,277,[20,21,22,23,24,25,26,27,28,29,30,31,32,33,34,35,36,19,37,38,39,0,1,2,3,4,5,6,7,8,9,10,11,12,13,14,15,16,17,18,19,20,21,1019]),(3,9,[40,41,42,43,44,45,46,47,5]),(4,9,[48,49,50,51,52,53,54,55,56])] [(0,0),(0,0)] Tryz.func134 rfl (λu q=>?_) (.inr tV1)
  repeat'(first|refine gB ?_|refine CM (j) ⟨⟨rfl,eN _⟩,⟨rfl,kf _⟩,⟨rfl,rfl⟩,tV1⟩ ?_|refine CM (j) ⟨⟨rfl,eN _⟩,⟨rfl,rfl⟩,⟨rfl,rfl⟩,tV1⟩ ?_|refine CH k ?_|refine CL rfl k rfl ?_|refine CR rfl rfl (aa c) rfl (O2 rfl) rfl ?_|refine CM (n) ⟨⟨rfl,r⟩,⟨rfl,rfl⟩,tV1⟩ ?_)
  exact ks
theorem xD(h:ac)(E:List Int)(t:Nat)(a:Int)(b:bm h (a::E))(y:t<h.R.length)(F:h.G.Calls≠100000):zzB 132 false [.ptr (dq h),.vI (t:Nat),.vI a] [.ptr (dq (recyc t h a)),.vI (t:Nat),.vI a] (.tup []) []:=by
 obtain⟨d,B,G⟩:=b.at (b.hin a ψ);have H:=(b.hin a ψ).bd b;have C:=b.lens;have J:=C.spans;have K:=C.larges;have o:=b.cach _ (ax y);have p:=mq h E a b F;unfold recyc;generalize Ai h a=i at d B;have r:=aO (b.L.sok _ (ax d));have n:=ar d;have k:=ar y;have g:=np h.J h.H a ⟨ω,λ_ _=>tV1⟩ ⟨ω,λ_ _=>tV1⟩;rw[UH b d B]at g;have j:=FV (nth h.R t) (nth h.J i).Z.toNat a o ω;rw[Int.toNat_of_nonneg r.2.2.1]at j;unfold BW at j;have l:∀c,dq {h with R:=h.R.set t c} = (cE h (.s .own (h.J.map (aA.enc .own))) (oL h) (oO h)).set 9 (.s .own ((h.R.map (aB.enc .own)).set t (aB.enc .own c))):=λc=>by
  rw[xX (h:={h with R:=h.R.set t c}) (gU d)];show cE {h with R:=h.R.set t c} _ (oL h) (oO h)=_;simp[cE,CC]
 rw[xX (gU d)]at p |-;rcases Xy h with e|⟨w,e⟩
 all_goals
  try rw[w]at g
  rw[e]at p l |-;cases D:cput (nth h.R t) (nth h.J i).Z a with
  | none=>
   rw[D]at j;refine fM 54 [(134,[2,0])] [(0,11,[9,10,11,12,13,14,15,16,17,18,6]),(2,278,[23,24,25,26,27,28,29,30,31,32,33,34,35,36,37,38,39,40,22,41,42,7,0,1,2,3,4,5,6,7,8,9,10,11,12,13,14,15,16,17,18,19,20,21,22,1020,23]),(4,6,[44,45,46,47,48,49])] [(0,0),(0,0),(0,0)] Tryz.func132 rfl (λu q=>?_) (.inr tV1)
   repeat'(first|refine gB ?_|refine CM (g) ⟨⟨rfl,eN _⟩,⟨rfl,kf _⟩,⟨rfl,rfl⟩,tV1⟩ ?_|refine CM (g) ⟨⟨rfl,eN _⟩,⟨rfl,rfl⟩,⟨rfl,rfl⟩,tV1⟩ ?_|refine CM (j) ⟨⟨rfl,Co _⟩,⟨rfl,rfl⟩,⟨rfl,rfl⟩,tV1⟩ ?_)
   exact ks
  | some c=>
   rw[D]at j;simp only;rw[l];refine fM 54 [(134,[2,0])] [(0,11,[9,10,11,12,13,14,15,16,17,18,6]),(2,278,[23,24,25,26,27,28,29,30,31,32,33,34,35,36,37,38,39,40,22,41,42,7,0,1,2,3,4,5,6,7,8,9,10,11,12,13,14,15,16,17,18,19,20,21,22,1020,23]),(4,6,[44,45,46,47,48,49])] [(0,0),(0,0),(0,0)] Tryz.func132 rfl (λu q=>?_) (.inr tV1)
   repeat'(first|refine gB ?_|refine CM (g) ⟨⟨rfl,eN _⟩,⟨rfl,kf _⟩,⟨rfl,rfl⟩,tV1⟩ ?_|refine CM (g) ⟨⟨rfl,eN _⟩,⟨rfl,rfl⟩,⟨rfl,rfl⟩,tV1⟩ ?_|refine CM (j) ⟨⟨rfl,Co _⟩,⟨rfl,rfl⟩,⟨rfl,rfl⟩,tV1⟩ ?_|refine CR rfl rfl (aa k) rfl (O2 rfl) rfl ?_)
   exact ks
theorem di.frz_at{S F:am}{v:Value}{c:C}(h:di w S F (.s .own rows) v)(E:rows[i]? = some [c]):∃V:am,(∀b o,V b o->F b o)/\di w (λb o=>S b o\/V b o) (λb o=>F b o/\¬V b o) (.s .own (rows.set i [fz c])) v:=by
 cases h with
 | nil _ o a D=>simp at E
 | suf _ o g K k n d rows u f D=>exact D.elim
 | own _ o g k n d rows u f D L M l p N O P Q G=>
  have R:i<rows.length:=ψ
  obtain rfl:k=1:=by rw[<-M [c] ψ];rfl
  simp only[Nat.mul_one]at N O P Q G;refine⟨f i,ψ,?_⟩;refine .own _ .own g 1 n d _ u (λq=>if q=i then NO else f q) D (by simpa using L) (λr h=>?_) l p (λq H=>?_) ψ (λq H b o t=>?_) (λq Y H T U b o t y=>?_) (λJ W r X A B=>?_)
  ·grind
  ·grind
  ·split at t
   ·exact t.elim
   grind
  ·split at t
   ·exact t.elim
   split at y
   ·exact y.elim
   grind
  by_cases e:J=i
  ·subst e
   rw[I6 R]at A;obtain rfl:=Option.some.inj A;cases W with
   | succ j=>simp at B
   | zero=>
    obtain rfl:fz c=X:=by simpa using B
    have:=(G J 0 [c] c E rfl).freeze
    grind
  grind [di.mono]
theorem ah.frz{sh:Bool}{A:List RA}{k:Kd}{c:C}(h:ah P f sh A k [.s .own rows])(d:rows[i]? = some [c]):ah P f sh A k [.s .own (rows.set i [fz c])]:=by
 obtain⟨l,n⟩:=h;refine⟨l,λw S p q r=>(n w S p q r).mono λe w1 t=>?_⟩;obtain⟨v,u,y,X,S1,G,H,J,B,g,D,K,L⟩:=t;obtain⟨V,M,N⟩:=(D 0 _ rfl).frz_at d;have E:∀b o,V b o->X b o:=ψ
 refine⟨v,u,y,λb o=>X b o/\¬V b o,λb o=>S1 b o\/V b o,ψ,λb o a=>?_,λb o a h=>?_,B,λj=>if j=0 then(λb o=>g 0 b o/\¬V b o) else NO,λj O F=>?_,λj F b o a=>?_,ψ⟩
 ·grind
 ·grind
 ·grind
 all_goals simp_all
def Q1(c:aB)(k:Nat):aB:=⟨c.W.set k []⟩
theorem PU(c:aB)(k:Nat):aB.enc .own (Q1 c k)=[.s .own ((c.W.map (aE .own)).set k (aE .own []))]:=by grind [CC,aB.enc,Q1]
theorem MC(xs:List Int):([]:List Int).map (rI .O)=(xs.map (rI .O)).drop xs.length:=by simp_all
theorem Kg(xs:List Int):xs.map (rI .O)=(xs.map (rI .O)).take xs.length:=by grind [I2]
def yR{k:Nat}(h:k<rows.length):(rows.set k r)[k]? = some r:=I6 h
def Zd(c:aB)(k:Nat):List C:=aB.enc .own (Q1 c k)++aE .own (nth c.W k)
def Ua(c:aB)(k:Nat):gl (Zd c k):=a7 (Cp _) (bH _)
def A3(c:aB)(k:Nat)(d:bE c=true)(p:k<=3):zzA 367 false [.val (some 1) (aB.enc .O c),.vI (k:Nat),.vI 8] (.tup [some 1,none]) (Zd c k):=by
 obtain⟨q,e⟩:=ee d;have g:aB.sml c:=⟨ω,λl j=>by have:=e l j;show l.length<=1048576;omega⟩
 have h:=Bb c k g;rw[d,O0 ω]at h;have n:=kr c g;have a:=nz (c:=c) (k:=k) ω;have o:=e _ (ax (xs:=c.W) (i:=k) ω);have b:=Ua c k;unfold Zd at b |-;rw[PU]at b |-;refine fO 52 [(5,268,[29,30,31,32,33,34,35,36,37,38,39,41,0,1,2,3,4,5,6,7,8,9,10,11,1000,1001,1002,12,13]),(6,265,[42,43,44,45,46,47,48,49,50,0,1,2,3,4,5,6,7,8,9,1000,10,11])] Tryz.func367 rfl ?_ (.inr b)
 repeat'(first|refine gP ?_|refine CX (z:=((nth c.W k).length:Int)) kd ?_|refine Cf (nth c.W k).length rfl (by rw[I2];omega) (aN λ_=>rfl) (MC _) ?_|refine CZ (nth c.W k).length rfl (by rw[I2];omega) (aN λ_=>rfl) (Kg _) ?_|refine Ce (λ_=>rfl) (λ_=>rfl) (by simp) qs ?_|refine CW (λ_=>rfl) (λ_=>rfl) (by simp) qs ?_|refine Ce (λ_=>rfl) (λ_=>rfl) ω qs ?_|refine CW (λ_=>rfl) (λ_=>rfl) ω qs ?_|refine CR rfl rfl (aa a) rfl (O2 rfl) rfl ?_)
 rfl
theorem Ac(c:aB)(k:Nat)(e:bE c=true)(q:k<=3):zzA 133 false [.val (some 1) (aB.enc .O c),.vI (k:Nat),.vI 8] (.tup [some 1,none]) (Zd c k):=by
 obtain⟨r,g⟩:=ee e;have h:aB.sml c:=⟨ω,λl o=>by have:=g l o;show l.length<=1048576;omega⟩
 have j:=ww c k h;rw[e,O0 ω]at j;have b:=nz (c:=c) (k:=k) ω;have p:=g _ (ax (xs:=c.W) (i:=k) ω);have n:=ah.frz (ky c h) (i:=k) (c:=.s .own ((nth c.W k).map (rI .own))) (aa b);rw[show fz (.s .own ((nth c.W k).map (rI .own)))=.s .O ((nth c.W k).map (rI .O)) from(List.cons.inj (eI (nth c.W k))).1]at n;have a:k<(c.W.map (aE .own)).length:=ψ
 have d:=Ua c k;unfold Zd at d |-;rw[PU]at d |-;refine fO 43 [(6,7,[30,31,32,33,34,35,36]),(7,5,[38,39,40,41,42])] Tryz.func133 rfl ?_ (.inr d)
 repeat'(first|refine gP ?_|refine CX (z:=((nth c.W k).length:Int)) kd ?_|refine Cf (nth c.W k).length rfl (by rw[I2];omega) (aN λ_=>rfl) (MC _) ?_|refine CZ (nth c.W k).length rfl (by rw[I2];omega) (aN λ_=>rfl) (Kg _) ?_|refine CF (cK [] (by simp)) ?_|refine CF (cK (nth c.W k) ω) ?_|refine CL rfl (yR a) rfl ?_|refine CR rfl rfl (yR a) rfl (O2 rfl) (by simp only[List.set_cons_zero,List.set_set];rfl) ?_|refine CH (yR a) ?_)
 simp only[List.set_set,O4];rfl
theorem tZ{k:Int} : ∀{l s s2 b:List Int},(∀x∈s2,x∈s)->xI k s l=some b->(∀x∈s,x∈b)/\∃c,xI k s2 l=some c/\∀x∈c,x∈b
 | [],s,s2,b,h,e=>by grind [xI]
 | a::l,s,s2,b,h,e=>by
  simp only[xI]at e |-;split at e
  ·rename_i g
   rw[CJ (show good k s2 a from⟨g.1,g.2.1,g.2.2.1,λx=>g.2.2.2 (h a x)⟩)];obtain⟨d,f⟩:=tZ (l:=l) (s:=s++[a]) (s2:=s2++[a]) ψ e
   grind
  cases e
theorem yG:∀{a:List (List Int)}{k:Nat}{s s2:List Int},(∀x∈s2,x∈s)->(iZ k s a).isSome=true->(iZ k s2 a).isSome=true
 | [],_,_,_,_,_=>rfl
 | l::a,k,s,s2,h,e=>by
  simp only[iZ,gI]at e |-;split at e
  ·rename_i g
   rw[CJ g];cases b:xI k s l with
   | none=>grind
   | some i=>
    rw[b]at e;obtain⟨-,c,d,f⟩:=tZ h b;rw[d];exact yG f e
  cases e
theorem LC:∀{a:List (List Int)}{k:Nat}{s s2:List Int}(i:Nat),(∀x∈s2,x∈s)->(iZ k s a).isSome=true->(iZ k s2 (a.set i [])).isSome=true
 | [],_,_,_,_,_,_=>rfl
 | l::a,k,s,s2,i,h,e=>by
  simp only[iZ,gI]at e;split at e
  ·rename_i g
   cases b:xI k s l with
   | none=>grind
   | some j=>
    rw[b]at e;obtain⟨n,c,d,f⟩:=tZ h b;cases i with
    | zero=>
     simp only[List.set_cons_zero,iZ,gI];rw[CJ ⟨by simp,g.2⟩];exact yG ψ e
    | succ i=>
     simp only[List.set_cons_succ,iZ,gI];rw[CJ g,d];exact LC i f e
  cases e
theorem XM{c:aB}(h:bE c=true)(k:Nat):bE (Q1 c k)=true:=by grind [LC,bE,Q1]
def spilt(h:ac)(t k:Nat):ac:={h with R:=h.R.set t (Q1 (nth h.R t) k)}
theorem bm.spilt{h:ac}{E:List Int}{t k:Nat}(d:bm h E)(i:t<h.R.length)(n:k<(nth h.R t).W.length):bm (spilt h t k) (nth (nth h.R t).W k++E):=by
 have p:(E++holders h).Perm (nth (nth h.R t).W k++E++holders (Ab.spilt h t k)):=by
  refine List.perm_iff_count.2 λb=>?_
  have r:=kE (λc:aB=>c.W.flatten) b h.R t (Q1 (nth h.R t) k) i;have q:=kE (λx:List Int=>x) b (nth h.R t).W k [] n;rw[<-oe,<-oe]at q;simp only[List.count_nil]at q;simp only[Q1]at r;simp only[holders,cM,Ab.spilt,Q1,SB];omega
 have g:∀c∈(Ab.spilt h t k).R,c∈h.R\/c=Q1 (nth h.R t) k:=λc u=>SC u
 exact {d with
   nc:=by show(h.R.set ..).length=_;rw[C3];exact d.nc
   cach:=λc f=>by grind [bm.cach,XM,ax]
   onu:=by show ∀o∈h.K,1<=o.Id/\o.Id<=h.k - 1/\0<=o.w/\o.w<=(h.R.set t _).length - 1;rw[C3];exact d.onu
   hca:=λc f j l b a=>by
     rcases g c f with f|rfl
     · exact d.hca c f j l b a
     simp only[Q1,C3]at l;simp only[Q1,cT]at a;by_cases e:k=j
     · grind
     rw[CI λx=>e x.1]at a;exact d.hca _ (ax i) _ l b a
   hin:=λb a=>by
     rcases v5.1 a with a|a
     · exact(d.hca _ (ax i) k n b a).any
     exact d.hin b a
   nd:=p.nodup_iff.1 d.nd
   mem:=λb=>by rw[<-p.mem_iff];exact d.mem b}
def freeAs(h:ac)(az:List Int):ac:=az.foldl freeA h
theorem jT:∀(az:List Int)(h:ac),(freeAs h az).R=h.R/\(freeAs h az).K=h.K/\(freeAs h az).G.Calls=h.G.Calls/\(freeAs h az).e=h.e/\(freeAs h az).a5=h.a5/\(freeAs h az).b1=h.b1/\(freeAs h az).a1=h.a1/\(freeAs h az).G.a=h.G.a
 | [],h=>⟨rfl,rfl,rfl,rfl,rfl,rfl,rfl,rfl⟩
 | a::az,h=>by
  obtain⟨b,c,d,e,f,g,i,j⟩:=jT az (freeA h a);obtain⟨k,l,n,o,p,q,r,t⟩:=Ep h (Ai h a) a;exact⟨b.trans k,c.trans l,d.trans n,e.trans o,f.trans p,g.trans q,i.trans r,j.trans t⟩
theorem bm.freeAs{E:List Int} : ∀{az:List Int}{h:ac},bm h (az++E)->bm (freeAs h az) E
 | [],_,b=>b
 | a::az,h,b=>bm.freeAs (az:=az) (h:=Ab.freeA h a) b.freeA
theorem uf(h:ac)(az:List Int)(k:Nat)(a:k<az.length):freeAs h (az.take (k+1))=freeA (freeAs h (az.take k)) (nth az k):=by grind [OA,ar,freeAs]
def flushN(t:Nat)(h:ac):Nat->ac × Nat
 | 0=>(h,0)
 | k+1=>(freeAs (spilt (flushN t h k).1 t k) (nth (nth (flushN t h k).1.R t).W k),(flushN t h k).2+(nth (nth (flushN t h k).1.R t).W k).length)
theorem lA{t:Nat}{h:ac}(b:bm h [])(c:t<h.R.length):∀{k:Nat},k<=4->bm (flushN t h k).1 []/\(flushN t h k).1.R.length=h.R.length/\(flushN t h k).1.G.Calls=h.G.Calls/\(flushN t h k).1.K=h.K/\(flushN t h k).1.e=h.e/\(flushN t h k).1.a5=h.a5/\(flushN t h k).2<=8*k
 | 0,_=>⟨b,rfl,rfl,rfl,rfl,rfl,I1 _⟩
 | k+1,e=>by
  obtain⟨d,f,g,i,j,l,n⟩:=lA b c (k:=k) ω;have a:t<(flushN t h k).1.R.length:=ω
  obtain⟨o,p⟩:=ee (d.cach _ (ax a))
  grind [bm.spilt,ax,jT,bm.freeAs,spilt,flushN]
theorem Ee{t k:Nat}(a:bm h [])(b:t<h.R.length)(c:k<4):t<(flushN t h k).1.R.length/\bE (nth (flushN t h k).1.R t)=true/\k<(nth (flushN t h k).1.R t).W.length/\(nth (nth (flushN t h k).1.R t).W k).length<=8/\(flushN t h k).2<=8*k:=by grind [lA,bm.cach,ax,ee]
theorem Mf{t k:Nat}(a:bm h [])(b:t<h.R.length)(c:k<4)(f:j<(nth (nth (flushN t h k).1.R t).W k).length):bm (freeAs (spilt (flushN t h k).1 t k) ((nth (nth (flushN t h k).1.R t).W k).take j)) (nth (nth (nth (flushN t h k).1.R t).W k) j::(nth (nth (flushN t h k).1.R t).W k).drop (j+1)):=by
 obtain⟨d,e⟩:=Ee a b c;have g:=((lA a b (k:=k) ω).1).spilt d e.2.1
 grind [bm.freeAs,gT,List.take_append_drop]
theorem ES(h:ac)(t:Nat)(g:bm h [])(i:t<h.R.length):zzB 216 false [.ptr (bR h),.vI (t:Nat)] [.ptr (bR (flushN t h 4).1),.vI (t:Nat)] .one [I ((flushN t h 4).2:Nat)]:=by
 refine fM 48 [(218,[2,0])] [(6,6,[26,27,28,29,30,31])] [(0,0),(0,0)] Tryz.func216 rfl (λu q=>?_)
 refine σP ?_
 refine CV (ι:=Nat) (λk=>[(0,bS (bR (flushN t h k).1)),(1,fN t),(5,fN ((flushN t h k).2)),(6,fN k)]) (λk=>k<=4) (λk=>4 - k) (0) ?_ (I1 _) λk D=>?_
 ·exact wE
 by_cases l:k<4
 ·obtain⟨n,o,E,F,G⟩:=Ee g i l
  have p:=A3 (nth (flushN t h k).1.R t) k o ω;have b:=λj=>Mf g i l (j:=j)
  have c:=ar n;have r:(flushN t h (k+1)).1=freeAs (spilt (flushN t h k).1 t k) (nth (nth (flushN t h k).1.R t).W k):=rfl;have w:(flushN t h (k+1)).2=(flushN t h k).2+(nth (nth (flushN t h k).1.R t).W k).length:=rfl;have y:C.s eL.own ((spilt (flushN t h k).1 t k).R.map (aB.enc .own))=C.s eL.own (((flushN t h k).1.R.map (aB.enc .own)).set t (aB.enc .own (Q1 (nth (flushN t h k).1.R t) k))):=by grind [CC,spilt]
  repeat'(first|refine gE ?_|refine CM (p) ⟨⟨rfl,Co _⟩,⟨rfl,rfl⟩,⟨rfl,rfl⟩,tV1⟩ ?_|refine CR rfl rfl (aa c) rfl (O2 rfl) rfl ?_)
  generalize (flushN t h k).1=d at *;generalize (flushN t h k).2=m at *
  (conv=>whnf)
  refine CV (ι:=Nat) (λj=>[(0,bS (bR (freeAs (spilt d t k) ((nth (nth d.R t).W k).take j)))),(1,fN t),(5,fN ((m+j))),(6,fN k),(8,bC (aE .own (nth (nth d.R t).W k))),(9,fN j)]) (λj=>j<=(nth (nth d.R t).W k).length) (λj=>(nth (nth d.R t).W k).length - j) (0) ?_ (I1 _) λj H=>?_
  ·exact wE
  by_cases e:j<(nth (nth d.R t).W k).length
  ·have a:=ar e
   have B:=qX _ _ _ (b j e)
   refine σE ?_
   (refine CP (j+1) ω ω ?_)
   rw[uf _ _ _ e];exact wC
  obtain rfl:j=(nth (nth d.R t).W k).length:=ω
  rw[O9]
  refine σE ?_
  (refine CP (k+1) ω ω ?_)
  rw[r,w];exact wC
 obtain rfl:k=4:=ω
 refine σE ?_
 exact kk
def rD(h:ac)(t:Int)(a:ac.sml h):zzA 130 false [.val (some 24) (ac.enc .O h),.vI t] .one [B (decide (0<=t/\t<=h.R.length - 1)&&decide (h.G.Calls≠100000)&&fw h)]:=by
 have b:=cW h a;rw[eR]at b;have d:h.R.length<=1048576:=a.2.2.2.2.2.1.1;have c:=aG t 0 (h.R.length - 1:Int);cases e:decide (0<=t/\t<=(h.R.length:Int) - 1)<;>rw[e]at c
 all_goals
  cases g:decide (h.G.Calls≠100000)
  all_goals
   simp only[C0,v9]at g;refine fO 21 [] Tryz.func130 rfl ?_
   repeat'(first|refine gP ?_|refine gS (λi=>?_) (λi=>?_)|fail)
   all_goals first|rfl|(exfalso;omega)
theorem Ej(h:ac)(t:Nat)(o:ac.sml h)(p:fw h=true)(q:h.G.Calls≠100000)(b:t<h.R.length):zzA 43 false [.val (some 24) (ac.enc .O h),.vI (t:Nat)] (.tup [some 24,none]) (dq (flushN t h 4).1++[I ((flushN t h 4).2:Nat)]):=by
 have c:=bm.of p;have r:=rD h t o;rw[p,O0 ω,O0 q]at r;have w:=dM h o;refine fP 52 [(134,[2,0])] [] Tryz.func43 rfl ?_ (.inr (a7 (cn _) ⟨tV1,tV1⟩))
 refine σP ?_
 refine CV (ι:=Nat) (λk=>[(1,fN t),(4,.X .box jX),(6,bS (dq (flushN t h k).1)),(7,fN ((flushN t h k).2)),(8,fN k)]) (λk=>k<=4) (λk=>4 - k) (0) ?_ (I1 _) λk J=>?_
 ·exact wE
 by_cases u:k<4
 ·obtain⟨y,B,K,L,M⟩:=Ee c b u
  have D:=Ac (nth (flushN t h k).1.R t) k B ω;have e:=λj=>Mf c b u (j:=j)
  have g:=λj=>(jT ((nth (nth (flushN t h k).1.R t).W k).take j) (spilt (flushN t h k).1 t k)).2.2.1
  have i:(spilt (flushN t h k).1 t k).G.Calls≠100000:=by have:=(lA c b (k:=k) ω).2.2.1;show(flushN t h k).1.G.Calls≠100000;rw[this];exact q
  have l:=ar y;have E:(flushN t h (k+1)).1=freeAs (spilt (flushN t h k).1 t k) (nth (nth (flushN t h k).1.R t).W k):=rfl;have F:(flushN t h (k+1)).2=(flushN t h k).2+(nth (nth (flushN t h k).1.R t).W k).length:=rfl;have G:C.s eL.own ((spilt (flushN t h k).1 t k).R.map (aB.enc .own))=C.s eL.own (((flushN t h k).1.R.map (aB.enc .own)).set t (aB.enc .own (Q1 (nth (flushN t h k).1.R t) k))):=by grind [CC,spilt]
  repeat'(first|refine gE ?_|refine CM (D) ⟨⟨rfl,Co _⟩,⟨rfl,rfl⟩,⟨rfl,rfl⟩,tV1⟩ ?_|refine CR rfl rfl (aa l) rfl (O2 rfl) rfl ?_)
  generalize (flushN t h k).1=d at *;generalize (flushN t h k).2=m at *
  (conv=>whnf)
  refine CV (ι:=Nat) (λj=>[(1,fN t),(4,.X .box jX),(6,bS (dq (freeAs (spilt d t k) ((nth (nth d.R t).W k).take j)))),(7,fN ((m+j))),(8,fN k),(10,bC (aE .own (nth (nth d.R t).W k))),(39,.c6 10 0 [] none),(40,fI ((nth (nth d.R t).W k).length)),(41,fN j)]) (λj=>j<=(nth (nth d.R t).W k).length) (λj=>(nth (nth d.R t).W k).length - j) (0) ?_ (I1 _) λj N=>?_
  ·exact wE
  by_cases n:j<(nth (nth d.R t).W k).length
  ·have a:=ar n
   have H:=mq _ _ _ (e j n) (by rw[g];exact i)
   refine σE ?_
   (refine CP (j+1) ω ω ?_)
   rw[uf _ _ _ n];exact wC
  obtain rfl:j=(nth (nth d.R t).W k).length:=ω
  rw[O9]
  refine σE ?_
  (refine CP (k+1) ω ω ?_)
  rw[E,F];exact wC
 obtain rfl:k=4:=ω
 refine σE ?_
 rfl
def EA(s:Int):Int:=(1103515245*s+12345) % 1073741824
def JO(s:Int):0<=EA s/\EA s<=1073741823:=by unfold EA;omega
def FY(s:Int)(b:0<=s/\s<=1073741823):zzA 493 false [.vI s] .one [I (EA s)]:=by
 have a:=aP s 0 1073741823;rw[O0 b]at a;refine fO 10 [] Tryz.func493 rfl ?_
 repeat'(first|refine gP ?_|refine CX (z:=EA s) (fg ω) ?_|refine CT qs ?_)
 rfl
def xt(s:Int)(b:0<=s/\s<=1073741823):zzA 115 false [.vI s] .one [B true]:=by
 have a:=aG s 0 1073741823;rw[O0 b]at a;refine fO 5 [] Tryz.func115 rfl ?_
 refine σP ?_
 rfl
def Gb(s:Int)(a:0<=s/\s<=1073741823):zzA 471 false [.vI s] .one [I (EA s)]:=by
 refine fO 10 [] Tryz.func471 rfl ?_
 repeat'(first|refine gP ?_|refine CX (z:=EA s) (fg ω) ?_|refine CF (xt s a) ?_|refine CT qs ?_)
 rfl
def Ke(s n:Int):Int:=EA s / 1024 % n
def tw(s:Int){n:Int}(h:1<=n):0<=Ke s n/\Ke s n<n:=⟨Int.emod_nonneg _ ω,Int.emod_lt_of_pos _ ω⟩
theorem zF(s n:Int)(b:0<=s/\s<=1073741823)(c:1<=n/\n<=1000):zzA 444 false [.vI s,.vI n] (.tup [none,none]) [I (Ke s n),I (EA s)]:=by
 have d:=aP s 0 1073741823;have e:=aP n 1 1000;rw[O0 b]at d;rw[O0 c]at e;have h:=JO s;have i:=tw s c.1;have a:(EA s).tdiv 1024=EA s / 1024:=ψ
 have g:((EA s).tdiv 1024).tmod n=Ke s n:=by rw[a];exact fg ω
 refine fO 23 [] Tryz.func444 rfl ?_ (.inr ⟨tV1,tV1,tV1⟩)
 repeat'(first|refine gP ?_|refine CF (FY s b) ?_|refine CT qs ?_|refine CT ω ?_|refine CX g ?_|refine CS (ia (by rw[a];omega) (by rw[a];omega)) ?_)
 rfl
theorem zr(s n:Int)(b:0<=s/\s<=1073741823)(c:1<=n/\n<=1000):zzA 398 false [.vI s,.vI n] (.tup [none,none]) [I (Ke s n),I (EA s)]:=by
 have d:=aG n 1 1000;rw[O0 c]at d;have g:=JO s;have h:=tw s c.1;have a:(EA s).tdiv 1024=EA s / 1024:=ψ
 have e:((EA s).tdiv 1024).tmod n=Ke s n:=by rw[a];exact fg ω
 refine fO 23 [] Tryz.func398 rfl ?_ (.inr ⟨tV1,tV1,tV1⟩)
 repeat'(first|refine gP ?_|refine CF (xt s b) ?_|refine CF (Gb s b) ?_|refine CT qs ?_|refine CT ω ?_|refine CX e ?_|refine CS (ia (by rw[a];omega) (by rw[a];omega)) ?_)
 rfl
def tJ(n:Nat):List Int:=(List.range n).map λ(i:Nat)=>(i:Int)
theorem BE(n:Nat):tJ (n+1)=tJ n++[(n:Int)]:=by grind [List.range_succ,tJ]
def yC(n:Nat):(tJ n).length=n:=by simp[tJ]
def za(xs:List Int)(i k:Nat):List Int:=(xs.set i (nth xs k)).set k (nth xs i)
def Rk(xs:List Int)(i k:Nat):(za xs i k).length=xs.length:=by simp[za]
def gj(n:Nat)(s:Int):Nat->List Int × Int
 | 0=>(tJ n,s)
 | j+1=>(za (gj n s j).1 (n - 1 - j) (Ke (gj n s j).2 ((n - 1 - j:Nat)+1:Int)).toNat,EA (gj n s j).2)
def me(n:Nat){s:Int}(a:0<=s/\s<=1073741823):∀j,(gj n s j).1.length=n/\0<=(gj n s j).2/\(gj n s j).2<=1073741823
 | 0=>⟨yC n,a⟩
 | j+1=>⟨by simp only[gj,Rk];exact(me n a j).1,JO _⟩
def shuf(n:Nat)(s:Int):List Int × Int:=gj n s (n - 1)
theorem KD(xs:List Int)(i k:Nat):(za xs i k).map (rI .own)=((xs.map (rI .own)).set i (rI .own (nth xs k))).set k (rI .own (nth xs i)):=by grind [CC,za]
theorem GK{xs:List Int}{k:Nat}(v:Int)(a:k<xs.length):((xs.map (rI .own)).set i (rI .own v))[k]? = some (rI .own (nth (xs.set i v) k)):=by
 rw[<-CC];grind [ar]
def Fj(n:Nat)(s:Int)(d:0<=s/\s<=1073741823)(w:n<=64):zzA 371 false [.vI s,.vI (n:Nat)] (.tup [none,none]) (aE .own (shuf n s).1++[I (shuf n s).2]):=by
 have e:=aP s 0 1073741823;have g:=aP (n:Nat) 0 64;rw[O0 d]at e;rw[O0 ω]at g;refine fO 63 [] Tryz.func371 rfl ?_ (.inr (a7 (bH _) ⟨tV1,tV1⟩))
 refine σP ?_
 refine lp0 n (λk=>[(0,fI s),(1,fN n),(6,bC (aE .own (tJ k))),(7,fN k)]) λk y=>?_
 have h:=yC k;by_cases B:k<n
 ·repeat'(first|refine gE ?_|refine Cc (aN λ_=>rfl) rfl kd qs (dZ (rI .own) (tJ k) (k:Int)) ?_)
  (refine CP (k+1) ω ω ?_)
  rw[BE];exact wB
 obtain rfl:k=n:=ω
 refine σE ?_
 refine oA (λj:Nat=>[(0,fI ((gj k s j).2)),(6,bC (aE .own (gj k s j).1)),(8,fI ((k:Int) - 1 - j))]) (λj=>(j<=k - 1/\j<=k)) (λj=>k - j) (0) ω λj C=>?_
 obtain⟨D,l,o⟩:=me k d j;by_cases E:j<k - 1
 ·have q:(k:Int) - 1 - j=((k - 1 - j:Nat):Int):=ω
  have r:=tw (gj k s j).2 (n:=((k - 1 - j:Nat)+1:Int)) ω;have t:=zF (gj k s j).2 ((k - 1 - j:Nat)+1:Int) ⟨l,o⟩ ω;have u:gj k s (j+1)=(za (gj k s j).1 (k - 1 - j) (Ke (gj k s j).2 ((k - 1 - j:Nat)+1:Int)).toNat,EA (gj k s j).2):=rfl;rw[q];generalize gj k s j=p at *;obtain⟨xs,z⟩:=p;simp only at *;generalize k - 1 - j=i at *;have a:=ar (xs:=xs) (i:=i) ω;have b:=ar (xs:=xs) (i:=(Ke z (i+1)).toNat) ω;have c:=GK (xs:=xs) (i:=i) (k:=(Ke z (i+1)).toNat) (nth xs (Ke z (i+1)).toNat) ω
  repeat'(first|refine gE ?_|refine CQ ω (aa b) ?_|refine CR rfl rfl (aa a) rfl (O2 rfl) rfl ?_|refine CQ ω c ?_|refine CR rfl rfl c rfl (O2 rfl) rfl ?_)
  (refine CP (j+1) ω ω ?_)
  rw[u];simp only[aE,KD];exact wB
 obtain rfl:j=k - 1:=ω
 refine σE ?_
 rfl
def F7(n:Nat)(s:Int)(d:0<=s/\s<=1073741823)(w:n<=64):zzA 297 false [.vI s,.vI (n:Nat)] (.tup [none,none]) (aE .own (shuf n s).1++[I (shuf n s).2]):=by
 have g:=xt s d;have e:=aG (n:Nat) 0 64;rw[O0 ω]at e;refine fO 60 [(12,270,[43,44,45,46,47,48,49,50,51,52,53,54,55,56,0,1,2,3,4,5,6,7,8,9,10,11,12,13,1002,1003,14,15])] Tryz.func297 rfl ?_ (.inr (a7 (bH _) ⟨tV1,tV1⟩))
 refine σP ?_
 refine lp0 n (λk=>[(0,fI s),(1,fN n),(6,bC (aE .own (tJ k))),(7,fN k)]) λk y=>?_
 have h:=yC k;by_cases B:k<n
 ·repeat'(first|refine gE ?_|refine Cc (aN λ_=>rfl) rfl kd qs (dZ (rI .own) (tJ k) (k:Int)) ?_)
  (refine CP (k+1) ω ω ?_)
  rw[BE];exact wB
 obtain rfl:k=n:=ω
 refine σE ?_
 refine oA (λj:Nat=>[(0,fI ((gj k s j).2)),(6,bC (aE .own (gj k s j).1)),(8,fI ((k:Int) - 1 - j))]) (λj=>(j<=k - 1/\j<=k)) (λj=>k - j) (0) ω λj C=>?_
 obtain⟨D,l,o⟩:=me k d j;by_cases E:j<k - 1
 ·have q:(k:Int) - 1 - j=((k - 1 - j:Nat):Int):=ω
  have r:=tw (gj k s j).2 (n:=((k - 1 - j:Nat)+1:Int)) ω;have t:=zr (gj k s j).2 ((k - 1 - j:Nat)+1:Int) ⟨l,o⟩ ω;have u:gj k s (j+1)=(za (gj k s j).1 (k - 1 - j) (Ke (gj k s j).2 ((k - 1 - j:Nat)+1:Int)).toNat,EA (gj k s j).2):=rfl;rw[q];generalize gj k s j=p at *;obtain⟨xs,z⟩:=p;simp only at *;generalize k - 1 - j=i at *;have a:=ar (xs:=xs) (i:=i) ω;have b:=ar (xs:=xs) (i:=(Ke z (i+1)).toNat) ω;have c:=GK (xs:=xs) (i:=i) (k:=(Ke z (i+1)).toNat) (nth xs (Ke z (i+1)).toNat) ω
  repeat'(first|refine gE ?_|refine CQ ω (aa b) ?_|refine CR rfl rfl (aa a) rfl (O2 rfl) rfl ?_|refine CQ ω c ?_|refine CR rfl rfl c rfl (O2 rfl) rfl ?_)
  (refine CP (j+1) ω ω ?_)
  rw[u];simp only[aE,KD];exact wB
 obtain rfl:j=k - 1:=ω
 refine σE ?_
 rfl
def wN(b:Int):Nat->Nat
 | 0=>0
 | n+1=>wN b n+(if bo b (n:Nat)=true then 1 else 0)
theorem xB(b:Int):∀n,wN b n<=n
 | 0=>z5 _
 | n+1=>by have:=xB b n;grind [wN]
def Aj(b:Int)(d:b<=9223372036854775807):zzA 370 false [.vI b] .one [I (wN b 16:Nat)]:=by
 refine fO 15 [] Tryz.func370 rfl ?_
 refine σP ?_
 refine lp0 16 (λk=>[(0,fI b),(3,fN (wN b k)),(4,fN k)]) λk g=>?_
 have h:=xB b k;by_cases i:k<16
 ·have a:=kC b (k:Nat) d
  have c:wN b (k+1)=wN b k+(if bo b (k:Nat)=true then 1 else 0):=rfl;cases e:bo b (k:Nat)<;>rw[e]at a c
  all_goals
   refine σE ?_
   (refine CP (k+1) ω ω ?_)
   rw[c];exact wB
 obtain rfl:k=16:=ω
 refine σE ?_
 rfl
def Az(b:Int)(d:b<=9223372036854775807):zzA 296 false [.vI b] .one [I (wN b 16:Nat)]:=by
 refine fO 15 [] Tryz.func296 rfl ?_
 refine σP ?_
 refine lp0 16 (λk=>[(0,fI b),(3,fN (wN b k)),(4,fN k)]) λk g=>?_
 have h:=xB b k;by_cases i:k<16
 ·have a:=jb b (k:Nat) d
  have c:wN b (k+1)=wN b k+(if bo b (k:Nat)=true then 1 else 0):=rfl;cases e:bo b (k:Nat)<;>rw[e]at a c
  all_goals
   refine σE ?_
   (refine CP (k+1) ω ω ?_)
   rw[c];exact wB
 obtain rfl:k=16:=ω
 refine σE ?_
 rfl
def vh(h:ac)(s:aA):Bool:=decide (0<wN s.a6 16)&&decide ((aZ h s.S).length=1)
def kz(h:ac):Nat->List aA
 | 0=>[]
 | n+1=>if vh h (nth h.J n)=true then kz h n++[nth h.J n] else kz h n
def jq(h:ac):List aA:=kz h h.J.length
theorem tT(h:ac):∀n,(kz h n).length<=n
 | 0=>z5 _
 | n+1=>by have:=tT h n;grind [kz]
theorem un(h:ac):∀{n:Nat},n<=h.J.length->∀s∈kz h n,s∈h.J
 | 0,_,s,a=>by cases a
 | n+1,b,s,a=>by
  simp only[kz]at a;split at a
  ·rcases v5.1 a with a|a
   ·exact un h ω s a
   grind [ax]
  exact un h ω s a
theorem Bo(h:ac)(g:Ak h)(o:h.J.length<=1000)(p:fT h<=1000)(i:∀s∈h.J,s.a6<=9223372036854775807):zzA 219 false [.val (some 24) (ac.enc .O h)] .one (bP .own (jq h)):=by
 refine fO 42 [(5,16,[13,14,15,16,17,18,19,20,21,22,23,24,25,26,27,28])] Tryz.func219 rfl ?_ (.inr (BL _))
 refine σP ?_
 refine lp0 h.J.length (λk=>[(1,bS (ac.enc .O h)),(3,bC (bP .own (kz h k))),(4,fN k)]) λk q=>?_
 have j:=tT h k;by_cases e:k<h.J.length
 ·have c:=ar e
  have d:=Aj (nth h.J k).a6 (i _ (ax e));have b:=jH h (nth h.J k).S g;have l:=gJ h (nth h.J k).S;have n:=xB (nth h.J k).a6 16;have a:kz h (k+1)=if vh h (nth h.J k)=true then kz h k++[nth h.J k] else kz h k:=rfl
  by_cases r:0<wN (nth h.J k).a6 16
  ·by_cases t:(aZ h (nth h.J k).S).length=1
   ·rw[CJ (by grind [vh])]at a
    repeat'(first|refine gB ?_|refine CM (b) ⟨⟨rfl,rfl⟩,⟨rfl,rfl⟩,tV1⟩ ?_|refine Cc (aN λ_=>rfl) rfl kd qs (dZ (aA.enc .own) (kz h k) (nth h.J k)) ?_)
    (refine CP (k+1) ω ω ?_)
    rw[a];exact wB
   rw[CI (by grind [vh])]at a
   refine σB ?_
   (refine CP (k+1) ω ω ?_)
   rw[a];exact wB
  rw[CI (by grind [vh])]at a
  refine σE ?_
  (refine CP (k+1) ω ω ?_)
  rw[a];exact wB
 obtain rfl:k=h.J.length:=ω
 refine σE ?_
 rfl
theorem D6(h:ac)(g:Ak h)(o:h.J.length<=1000)(p:fT h<=1000)(i:∀s∈h.J,s.a6<=9223372036854775807):zzA 136 false [.val (some 24) (ac.enc .O h)] .one (bP .own (jq h)):=by
 refine fO 32 [] Tryz.func136 rfl ?_ (.inr (BL _))
 refine σP ?_
 refine lp0 h.J.length (λk=>[(1,bS (ac.enc .O h)),(3,bC (bP .own (kz h k))),(8,bC (bP .O h.J)),(9,fI h.J.length),(10,fN k)]) λk q=>?_
 have j:=tT h k;by_cases e:k<h.J.length
 ·have b:=ar e
  have c:=Az (nth h.J k).a6 (i _ (ax e));have d:=mr h (nth h.J k).S g;have l:=gJ h (nth h.J k).S;have n:=xB (nth h.J k).a6 16;have a:kz h (k+1)=if vh h (nth h.J k)=true then kz h k++[nth h.J k] else kz h k:=rfl
  by_cases r:0<wN (nth h.J k).a6 16
  ·by_cases t:(aZ h (nth h.J k).S).length=1
   ·rw[CJ (by grind [vh])]at a
    repeat'(first|refine gB ?_|refine Cc (aN λ_=>rfl) rfl kd qs (dZ (aA.enc .own) (kz h k) (nth h.J k)) ?_)
    (refine CP (k+1) ω ω ?_)
    rw[a];exact wB
   rw[CI (by grind [vh])]at a
   refine σB ?_
   (refine CP (k+1) ω ω ?_)
   rw[a];exact wB
  rw[CI (by grind [vh])]at a
  refine σE ?_
  (refine CP (k+1) ω ω ?_)
  rw[a];exact wB
 obtain rfl:k=h.J.length:=ω
 refine σE ?_
 rfl
def Dj(s:aA)(c:Nat):Bool:=bo s.a6 (((c:Nat):Int) / csz s.Z)
def zN(s:aA)(n:Nat):List Int:=((List.range n).filter (Dj s)).map λ(i:Nat)=>(i:Int)
theorem PF(h:Dj s n=true):zN s (n+1)=zN s n++[(n:Int)]:=by grind [List.range_succ,zN]
theorem Uw(h:Dj s n=false):zN s (n+1)=zN s n:=by grind [List.range_succ,zN]
theorem oZ(s:aA)(n:Nat):(zN s n).length<=n:=by grind [zN]
theorem QK(a:bq s=true){c:Nat}(b:c<16):0<=((c:Nat):Int) / csz s.Z/\((c:Nat):Int) / csz s.Z<=15:=by
 have d:=aO a
 grind [dm]
theorem th(s:aA)(a:bq s=true):zzA 372 false [.val (some 3) (aA.enc .O s)] .one (aE .own (zN s 16)):=by
 have b:=iW s;rw[a]at b;have g:=aO a;have n:=dm g.2.2;refine fO 27 [(5,7,[14,15,16,17,18,19,20])] Tryz.func372 rfl ?_ (.inr (bH _))
 refine σP ?_
 refine lp0 16 (λi=>[(1,bS (aA.enc .O s)),(3,bC (aE .own (zN s i))),(4,fN i)]) λi o=>?_
 have h:=oZ s i;by_cases j:i<16
 ·have k:=QK a j
  have d:IntKind.i64.wrap (((i:Nat):Int).tdiv (csz s.Z))=((i:Nat):Int) / csz s.Z:=by grind [ia]
  have c:=kC s.a6 (((i:Nat):Int) / csz s.Z) (gx a).2;cases e:Dj s i
  ·rw[show bo s.a6 (((i:Nat):Int) / csz s.Z)=false from e]at c
   repeat'(first|refine gE ?_|refine CF (eY _) ?_|refine CT ω ?_|refine CS d ?_)
   (refine CP (i+1) ω ω ?_)
   rw[Uw e];exact wB
  rw[show bo s.a6 (((i:Nat):Int) / csz s.Z)=true from e]at c
  repeat'(first|refine gE ?_|refine CF (eY _) ?_|refine CT ω ?_|refine CS d ?_|refine Cb cN (λr l=>by rw[z3.1 l];rfl) (by simp[bu,f6]) kd (by simp only[I2];exact zc kd qs) rfl ?_)
  (refine CP (i+1) ω ω ?_)
  rw[PF e]
  (exact wD)
 obtain rfl:i=16:=ω
 refine σE ?_
 rfl
theorem tp(s:aA)(a:bq s=true):zzA 299 false [.val (some 3) (aA.enc .O s)] .one (aE .own (zN s 16)):=by
 have c:=iM s;rw[a]at c;have g:=aO a;have n:=dm g.2.2;refine fO 26 [(7,7,[13,14,15,16,17,18,19])] Tryz.func299 rfl ?_ (.inr (bH _))
 refine σP ?_
 refine lp0 16 (λi=>[(1,bS (aA.enc .O s)),(3,bC (aE .own (zN s i))),(4,fN i)]) λi o=>?_
 have h:=oZ s i;by_cases j:i<16
 ·have k:=QK a j
  have d:IntKind.i64.wrap (((i:Nat):Int).tdiv (csz s.Z))=((i:Nat):Int) / csz s.Z:=by grind [ia]
  have b:=jb s.a6 (((i:Nat):Int) / csz s.Z) (gx a).2;cases e:Dj s i
  ·rw[show bo s.a6 (((i:Nat):Int) / csz s.Z)=false from e]at b
   repeat'(first|refine gE ?_|refine CF (dB _) ?_|refine CT ω ?_|refine CS d ?_)
   (refine CP (i+1) ω ω ?_)
   rw[Uw e];exact wB
  rw[show bo s.a6 (((i:Nat):Int) / csz s.Z)=true from e]at b
  repeat'(first|refine gE ?_|refine CF (dB _) ?_|refine CT ω ?_|refine CS d ?_|refine Cb cN (λr l=>by rw[z3.1 l];rfl) (by simp[bu,f6]) kd (by simp only[I2];exact zc kd qs) rfl ?_)
  (refine CP (i+1) ω ω ?_)
  rw[PF e]
  (exact wD)
 obtain rfl:i=16:=ω
 refine σE ?_
 rfl
structure eJ where
 A:Int
 B:Int
deriving DecidableEq,Inhabited
def eJ.enc(_:eL)(x:eJ):List C:=[I x.A,I x.B]
def gi(o:eL)(x:List eJ):List C:=[.s o (x.map (eJ.enc o))]
theorem BH(x:List eJ):gl (gi .own x):=⟨⟨.inl ψ,bj _ _ λ_ _=>⟨tV1,tV1,tV1⟩⟩,tV1⟩
theorem DL(xs:List eJ)(pr:eJ->Bool)(g:xs.length<=9223372036854775807):zzA 481 false [.val none (gi .O xs),.fn (oI Tryz.prog (sB (some 2) (eJ.enc .O) pr xs))] .one [I (cy pr xs)]:=by
 refine fO 19 [] Tryz.func481 rfl ?_
 refine σP ?_
 refine gn xs.length (λi=>[(0,bC (gi .O xs)),(1,.fv (oI Tryz.prog (sB (some 2) (eJ.enc .O) pr xs))),(7,fI xs.length),(8,fN i)]) (λi=>∀(j:Nat)(z:eJ),j<i->xs[j]? = some z->pr z=false) ψ λi b=>?_
 obtain⟨b,d⟩:=b;by_cases a:i<xs.length
 ·obtain⟨y,c⟩ : ∃y,xs[i]? = some y:=⟨_,z4 a⟩
  repeat'(first|refine gE ?_|refine Fv.mk (k:=.one) (rcs:=[B (pr y)]) ⟨y,t4 c,rfl,rfl,rfl⟩ ?_|refine Bf.P (λe=>?_) (λe=>?_))
  ·grind [dO]
  (conv=>whnf)
  exact dt (i+1) ψ
 refine σE ?_
 exact gm (gd ω d).symm
theorem xq(xs:List eJ)(pr:eJ->Bool)(a:xs.length<=9223372036854775807):zzA 417 false [.val none (gi .O xs),.fn (oI Tryz.prog (sB (some 2) (eJ.enc .O) pr xs))] .one [B (xs.any pr)]:=by
 refine fO 9 [] Tryz.func417 rfl ?_
 repeat'(first|refine gP ?_|refine CF (DL xs pr a) ?_)
 grind [nG]
def HA(i:Int)(p:eJ):Bool:=decide (p.A=i) || decide (p.B=i)
def LZ(p:eJ)(i:Int):zzA 418 false [.val (some 2) (eJ.enc .O p),.ptr [I i]] .one [B (HA i p)]:=by
 refine fO 14 [] Tryz.func418 rfl ?_
 repeat'(first|refine gP ?_|refine gS (λa=>?_) (λa=>?_)|fail)
 all_goals exact bx ((by unfold HA;first|(simp[*];done)|(simp[*];rw[z9];simp)))
def BM(xs:List eJ)(i:Int)(b:xs.length<=1048576):zzA 298 false [.val none (gi .O xs),.vI i] .one [B (xs.any (HA i))]:=by
 refine fO 8 [] Tryz.func298 rfl ?_
 repeat'(first|refine gP ?_|refine Cq.mk (sB (some 2) (eJ.enc .O) (HA i) xs) (LZ default i).has (λL k rcs a=>?_) ?_|refine CF (xq xs (HA i) ω) ?_)
 ·obtain⟨y,-,rfl,rfl,rfl⟩:=a
  exact LZ y i
 rfl
def eQ(a b:aA):b9:=if(zN a 16).length<(zN b 16).length then⟨b.S,a.S,zN a 16⟩ else⟨a.S,b.S,zN b 16⟩
def FO(a b:aA)(g:meshable a b=true)(h:bq a=true)(i:bq b=true):zzA 221 false [.val (some 3) (aA.enc .O a),.val (some 3) (aA.enc .O b)] (.tup [some 3,none]) (b9.enc .own (eQ a b)++[B true]):=by
 have c:=pC a b;rw[g]at c;have d:=th a h;have e:=th b i;have j:=oZ a 16;have k:=oZ b 16;unfold eQ;split
 ·refine fO 27 [(3,6,[11,12,13,14,15,16]),(5,6,[20,21,22,23,24,25])] Tryz.func221 rfl ?_ (.inr (a7 (b9.enc_fr _) ⟨tV1,tV1⟩))
  refine σE ?_
  rfl
 refine fO 27 [(3,6,[11,12,13,14,15,16]),(5,6,[20,21,22,23,24,25])] Tryz.func221 rfl ?_ (.inr (a7 (b9.enc_fr _) ⟨tV1,tV1⟩))
 refine σE ?_
 rfl
def EX(a b:aA)(g:meshable a b=true)(h:bq a=true)(i:bq b=true):zzA 138 false [.val (some 3) (aA.enc .O a),.val (some 3) (aA.enc .O b)] (.tup [some 3,none]) (b9.enc .own (eQ a b)++[B true]):=by
 have c:=pR a b;rw[g]at c;have d:=tp a h;have e:=tp b i;have j:=oZ a 16;have k:=oZ b 16;unfold eQ;split
 ·refine fO 34 [(3,3,[13,14,15])] Tryz.func138 rfl ?_ (.inr (a7 (b9.enc_fr _) ⟨tV1,tV1⟩))
  refine σE ?_
  rfl
 refine fO 34 [(3,3,[13,14,15])] Tryz.func138 rfl ?_ (.inr (a7 (b9.enc_fr _) ⟨tV1,tV1⟩))
 refine σE ?_
 rfl
def Ae(p:b9):bW:=⟨p,0,0⟩
def KE(p:b9)(c:gF p=true)(a:b9.sml p):zzA 222 false [.val (some 3) (b9.enc .O p)] (.tup [some 5,none]) (bW.enc .own (Ae p)++[B true]):=by
 have b:=zg p a;rw[c]at b;have d:=x7 (Ae p) a;refine fO 11 [] Tryz.func222 rfl ?_ (.inr (a7 (bW.enc_fr _) ⟨tV1,tV1⟩))
 refine σP ?_
 rfl
def M6(p:b9)(c:gF p=true)(a:b9.sml p):zzA 139 false [.val (some 3) (b9.enc .O p)] (.tup [some 5,none]) (bW.enc .own (Ae p)++[B true]):=by
 have b:=zA p a;rw[c]at b;have d:=vj p a;refine fO 11 [] Tryz.func139 rfl ?_ (.inr (a7 (bW.enc_fr _) ⟨tV1,tV1⟩))
 refine σP ?_
 rfl
def uM(n:Nat){s:Int}(c:0<=s/\s<=1073741823):∀{j:Nat},j<=n - 1->∀x∈(gj n s j).1,0<=x/\x<n
 | 0,_,x,a=>by
  simp only[gj,tJ,O8,List.mem_range]at a;obtain⟨i,d,rfl⟩:=a;omega
 | j+1,e,x,a=>by
  have f:=(me n c j).1;have b:=uM n c (j:=j) ω;have g:=tw (gj n s j).2 (n:=((n - 1 - j:Nat)+1:Int)) ω;simp only[gj,za]at a;rcases SC a with a|rfl
  ·rcases SC a with a|rfl
   ·exact b x a
   exact b _ (ax ω)
  exact b _ (ax ω)
def tkn(out:List eJ)(a:Int):Bool:=out.any (HA a)
def stp(a:List aA)(p:List Int)(t i:Nat)(out:List eJ):List eJ:=
 if tkn out (nth p i)=false/\tkn out (nth p (p.length / 2+(i+t) % (p.length - p.length / 2)))=false/\meshable (nth a (nth p i).toNat) (nth a (nth p (p.length / 2+(i+t) % (p.length - p.length / 2))).toNat)=true then out++[⟨nth p i,nth p (p.length / 2+(i+t) % (p.length - p.length / 2))⟩] else out
def uR(a:List aA)(p:List Int)(t:Nat)(out:List eJ):Nat->List eJ
 | 0=>out
 | i+1=>stp a p t i (uR a p t out i)
def oG(a:List aA)(p:List Int):Nat->List eJ
 | 0=>[]
 | t+1=>uR a p t (oG a p t) (p.length / 2)
def Wp(a:List aA)(p:List Int)(t i:Nat)(out:List eJ):(stp a p t i out).length<=out.length+1:=by unfold stp;split<;>simp
def x6(a:List aA)(p:List Int)(t:Nat)(out:List eJ):∀i,(uR a p t out i).length<=out.length+i
 | 0=>z5 _
 | i+1=>by have b:=x6 a p t out i;have c:=Wp a p t i (uR a p t out i);simp only[uR];omega
def Bq(a:List aA)(p:List Int):∀t,(oG a p t).length<=t*(p.length / 2)
 | 0=>I1 _
 | t+1=>by have b:=Bq a p t;have c:=x6 a p t (oG a p t) (p.length / 2);simp only[oG];rw[Nat.add_mul];omega
def lG(a:List aA)(s:Int):List eJ:=oG a (shuf a.length s).1 3
def rY(n:Nat)(out:List eJ):List Bool:=(List.range n).map λ(i:Nat)=>tkn out (i:Nat)
variable{out:List eJ}
def P9(h:0<=a/\a<n):(rY n out)[a.toNat]? = some (tkn out a):=by
 unfold rY;rw[C5,OD ω];show some (tkn out ((a.toNat:Nat):Int))=_;rw[Int.toNat_of_nonneg h.1]
def UM(f:0<=a/\a<n)(g:0<=b/\b<n):rY n (out++[⟨a,b⟩])=((rY n out).set a.toNat true).set b.toNat true:=by
 unfold rY;apply List.ext_getElem?;intro i;by_cases c:i<n
 ·rw[C5,OD c]
  by_cases d:b.toNat=i
  ·subst d
   rw[I6 kd];simp only[S9,tkn,List.any_append,List.any_cons,List.any_nil,HA];rw[Int.toNat_of_nonneg g.1];simp
  rw[List.getElem?_set_ne d];by_cases e:a.toNat=i
  ·subst e
   rw[I6 kd];simp only[S9,tkn,List.any_append,List.any_cons,List.any_nil,HA];rw[Int.toNat_of_nonneg f.1];simp
  rw[List.getElem?_set_ne e,C5,OD c];simp only[S9,tkn,List.any_append,List.any_cons,List.any_nil,HA];rw[C1 ω,C1 ω];simp
 rw[I4 kd,I4 kd]
def Wn(n:Nat):(rY n []).map (rB .own)=List.replicate n [B false]:=by
 unfold rY;rw[List.map_map];apply List.ext_getElem?;intro i;rw[C5];by_cases a:i<n
 ·rw[OD a,List.getElem?_replicate];simp[a];rfl
 rw[I4 kd,List.getElem?_replicate];simp[a]
def Ta{xs:List Bool}{k:Nat}(v:Bool)(a:k<xs.length):((xs.map (rB .own)).set i (rB .own v))[k]? = some (rB .own (nth (xs.set i v) k)):=by
 rw[<-CC];exact aa (ar (by rw[C3];exact a))
def Ad(c:List aA)(s:Int)(u:0<=s/\s<=1073741823)(V:c.length<=16):zzA 220 false [.val none (bP .O c),.vI s,.vI 3] (.tup [none,none]) (gi .own (lG c s)++[I (shuf c.length s).2]):=by
 have J:=aP s 0 1073741823;rw[O0 u]at J;have K:=aP 3 0 16;rw[O0 ω]at K;have Q:=Fj c.length s u ω;have D:=(me c.length u (c.length - 1)).1;have e:=uM c.length u (z5 _);unfold lG;change (shuf c.length s).1.length=_ at D;change ∀x∈(shuf c.length s).1,_ at e
 have E:gl (gi .own (oG c (shuf c.length s).1 3)++[I (shuf c.length s).2]):=a7 (BH _) ⟨tV1,tV1⟩;generalize shuf c.length s=q at *;obtain⟨p,z⟩:=q;simp only at *;have F:((p.length:Nat):Int).tdiv 2=((p.length / 2:Nat):Int):=by rw[Int.tdiv_eq_ediv_of_nonneg ω];omega
 have g:C.s eL.own ((rY c.length []).map (rB .own))=C.s eL.own (List.replicate c.length [B false]):=by rw[Wn]
 have h:∀i:Nat,i<p.length->0<=nth p i/\nth p i<c.length:=λi R=>e _ (ax R)
 refine fO 110 [(15,21,[73,74,75,76,77,78,79,80,81,82,83,84,85,86,87,88,89,90,91,92,93])] Tryz.func220 rfl ?_ (.inr E)
 repeat'(first|refine gE ?_|with_reducible refine CS ((O1 _ F).trans (ia ω ω)) ?_|refine CT qs ?_|refine Mk.mk c.length rfl rfl ω (zc ω qs) rfl ?_)
 refine CV (ι:=Nat) (λt=>[(0,bC (bP .O c)),(2,fI 3),(8,bC (gi .own (oG c p t))),(9,bC (aE .own p)),(10,fI z),(11,fN ((p.length / 2))),(12,bC (lf .own (rY c.length (oG c p t)))),(13,fN t)]) (λt=>t<=3) (λt=>3 - t) (0) ?_ (I1 _) λt S=>?_
 ·repeat'(first|exact tV1|rfl |exact Yo g|refine CK ?_ ?_|(exact XK (by first|omega|(simp only;omega)|(simp;omega))))
 have W:=Bq c p t;have ol2:t*(p.length / 2)<=3*8:=Nat.mul_le_mul S ω;by_cases X:t<3
 ·refine σE ?_
  refine CV (ι:=Nat) (λj=>[(0,bC (bP .O c)),(2,fI 3),(8,bC (gi .own (uR c p t (oG c p t) j))),(9,bC (aE .own p)),(10,fI z),(11,fN ((p.length / 2))),(12,bC (lf .own (rY c.length (uR c p t (oG c p t) j)))),(13,fN t),(14,fN j)]) (λj=>j<=p.length / 2) (λj=>p.length / 2 - j) (0) ?_ (I1 _) λj Y=>?_
  ·repeat'(first|exact tV1|rfl |exact Yo g|refine CK ?_ ?_|(exact XK (by first|omega|(simp only;omega)|(simp;omega))))
  have Z:=x6 c p t (oG c p t) j;by_cases lj:j<p.length / 2
  ·have L:(j+t) % (p.length - p.length / 2)<p.length - p.length / 2:=Nat.mod_lt _ ω
   have G:((j:Int)+t).tmod ((p.length:Int) - (p.length / 2:Nat))=(((j+t) % (p.length - p.length / 2):Nat):Int):=by
    rw[fg ω,Int.natCast_emod];congr 1;omega
   have d:uR c p t (oG c p t) (j+1)=stp c p t j (uR c p t (oG c p t) j):=rfl;unfold stp at d;generalize uR c p t (oG c p t) j=out at *;have l:p.length / 2+(j+t) % (p.length - p.length / 2)<p.length:=ω
   generalize hk:(j+t) % (p.length - p.length / 2)=k at *;have n:=ar (xs:=p) (i:=j) ω;have o:=ar (xs:=p) (i:=p.length / 2+k) l;have w:=h j ω;have r:=h _ l;generalize nth p j=a at *;generalize nth p (p.length / 2+k)=b at *;have y:=P9 (out:=out) w;have H:=P9 (out:=out) r;have T:=ar (xs:=c) (i:=a.toNat) ω;have U:=ar (xs:=c) (i:=b.toNat) ω;have M:=pC (nth c a.toNat) (nth c b.toNat);have ub2:=Ta (xs:=rY c.length out) (i:=a.toNat) (k:=b.toNat) true (by simp[rY];omega);cases N:tkn out a<;>cases O:tkn out b<;>cases P:meshable (nth c a.toNat) (nth c b.toNat)
   all_goals
    rw[N]at y;rw[O]at H;rw[P]at M;rw[N,O,P]at d;simp only[and_true,true_and,if_true,Bool.false_eq_true,Bool.true_eq_false,and_false,false_and,if_false]at d
    repeat'(first|refine gE ?_|refine CX G ?_|refine CT ω ?_|refine CQ ω (aa o) ?_|refine CQ w.1 (aa y) ?_|refine CQ r.1 (aa H) ?_|refine CQ w.1 (aa T) ?_|refine CQ r.1 (aa U) ?_|refine CR rfl rfl (aa y) rfl (O2 rfl) rfl ?_|refine CQ r.1 ub2 ?_|refine CR rfl rfl ub2 rfl (O2 rfl) rfl ?_|refine Cc (aN λ_=>rfl) rfl kd qs (dZ (eJ.enc .own) out ⟨a,b⟩) ?_)
    (refine CP (j+1) ω ω ?_)
    rw[d]
    first|(rw[UM w r];simp only[lf,CC])|skip
    exact wB
  obtain rfl:j=p.length / 2:=ω
  refine σE ?_
  (exact dt (t+1) ω)
 obtain rfl:t=3:=ω
 refine σE ?_
 rfl
def vX(x:List eJ):cP (gi .own x)=gi .O x:=by simp[cP,gi,eJ.enc,<-bX,IB]
def Av(c:List aA)(s:Int)(r:0<=s/\s<=1073741823)(Y:c.length<=16):zzA 137 false [.val none (bP .O c),.vI s,.vI 3] (.tup [none,none]) (gi .own (lG c s)++[I (shuf c.length s).2]):=by
 have O:=xt s r;have H:=aG 3 0 16;rw[O0 ω]at H;have P:=F7 c.length s r ω;have g:=(me c.length r (c.length - 1)).1;have h:=uM c.length r (z5 _);unfold lG;change (shuf c.length s).1.length=_ at g;change ∀x∈(shuf c.length s).1,_ at h
 have y:gl (gi .own (oG c (shuf c.length s).1 3)++[I (shuf c.length s).2]):=a7 (BH _) ⟨tV1,tV1⟩;generalize shuf c.length s=q at *;obtain⟨p,z⟩:=q;simp only at *;have B:((p.length:Nat):Int).tdiv 2=((p.length / 2:Nat):Int):=by rw[Int.tdiv_eq_ediv_of_nonneg ω];omega
 have D:fz (C.s eL.own (p.map (rI .own)))=C.s eL.O (p.map (rI .O)):=(List.cons.inj (eI p)).1;have l:(p.drop (p.length / 2)).length=p.length - p.length / 2:=O5 ..;have Q:(p.take (p.length / 2)).length=p.length / 2:=by rw[I3];omega
 have n:∀i:Nat,i<p.length->0<=nth p i/\nth p i<c.length:=λi R=>h _ (ax R)
 have d:((c.length:Nat):Int).tdiv 2=((p.length / 2:Nat):Int):=by rw[<-g];exact B
 refine fO 99 [(5,264,[39,40,41,42,43,44,45,46,0,1,2,3,4,5,6,7,8,1004,1005,1006,1007,9]),(14,19,[69,70,71,72,73,74,75,76,77,78,79,80,81,82,83,84,85,86,87]),(1048581,9,[0])] Tryz.func137 rfl ?_ (.inr y)
 repeat'(first|refine gE ?_|with_reducible refine CS ((O1 _ d).trans (ia ω ω)) ?_|refine CT qs ?_|refine MQ.mk rfl D rfl ?_|refine CZ (p.length / 2) d (by rw[I2];omega) (aN λ_=>rfl) C8 ?_|refine Cf (p.length / 2) d (by rw[I2];omega) (aN λ_=>rfl) I8 ?_)
 refine lp0 3 (λt=>[(0,bC (bP .O c)),(2,fI 3),(10,fI z),(11,bC (aE .O (p.take (p.length / 2)))),(12,bC (aE .O (p.drop (p.length / 2)))),(13,bC (gi .own (oG c p t))),(14,fN t)]) λt S=>?_
 have Z:=Bq c p t;have ol2:t*(p.length / 2)<=3*8:=Nat.mul_le_mul S ω;by_cases lt:t<3
 ·refine σE ?_
  refine lp0 (p.length / 2) (λj=>[(0,bC (bP .O c)),(2,fI 3),(10,fI z),(11,bC (aE .O (p.take (p.length / 2)))),(12,bC (aE .O (p.drop (p.length / 2)))),(13,bC (gi .own (uR c p t (oG c p t) j))),(14,fN t),(53,bC (aE .O (p.take (p.length / 2)))),(54,fN ((p.length / 2))),(55,fN j)]) λj hj=>?_
  have rl:=x6 c p t (oG c p t) j;by_cases T:j<p.length / 2
  ·have J:(j+t) % (p.length - p.length / 2)<p.length - p.length / 2:=Nat.mod_lt _ ω
   have E:((j:Int)+t).tmod ((p.length - p.length / 2:Nat):Int)=(((j+t) % (p.length - p.length / 2):Nat):Int):=by
    rw[fg ω,Int.natCast_emod];congr 1
   have e:uR c p t (oG c p t) (j+1)=stp c p t j (uR c p t (oG c p t) j):=rfl;unfold stp at e;generalize uR c p t (oG c p t) j=out at *;have o:p.length / 2+(j+t) % (p.length - p.length / 2)<p.length:=ω
   generalize hk:(j+t) % (p.length - p.length / 2)=k at *;have F:(p.take (p.length / 2))[j]? = some (nth p j):=by rw[List.getElem?_take,CJ T];exact ar ω
   have G:(p.drop (p.length / 2))[k]? = some (nth p (p.length / 2+k)):=by rw[List.getElem?_drop];exact ar o
   have U:=n j ω;have V:=n _ o;generalize nth p j=a at *;generalize nth p (p.length / 2+k)=b at *;have K:=BM out a ω;have L:=BM out b ω;have W:=ar (xs:=c) (i:=a.toNat) ω;have X:=ar (xs:=c) (i:=b.toNat) ω;have M:=pR (nth c a.toNat) (nth c b.toNat);cases u:tkn out a<;>cases w:tkn out b<;>cases N:meshable (nth c a.toNat) (nth c b.toNat)
   all_goals
    unfold tkn at u w;rw[u]at K;rw[w]at L;change (tkn out a)=_ at u;change (tkn out b)=_ at w;rw[N]at M;rw[u,w,N]at e;simp only[and_true,true_and,if_true,Bool.false_eq_true,Bool.true_eq_false,and_false,false_and,if_false]at e
    repeat'(first|refine gE ?_|refine CX (z:=(k:Int)) (by rw[l];exact E) ?_|refine CY (show List.length (List.map _ (p.drop (p.length / 2)))=p.length - p.length / 2 by rw[I2];exact l) ?_|refine CT ω ?_|refine CQ ω (aa G) ?_|refine CQ U.1 (aa W) ?_|refine CQ V.1 (aa X) ?_|refine CM (K) ⟨⟨rfl,vX _⟩,⟨rfl,rfl⟩,tV1⟩ ?_|refine CM (L) ⟨⟨rfl,vX _⟩,⟨rfl,rfl⟩,tV1⟩ ?_|refine Cc (aN λ_=>rfl) rfl kd qs (dZ (eJ.enc .own) out ⟨a,b⟩) ?_)
    (refine CP (j+1) ω ω ?_)
    rw[e];exact wB
  obtain rfl:j=p.length / 2:=ω
  refine σE ?_
  (exact dt (t+1) ω)
 obtain rfl:t=3:=ω
 refine σE ?_
 rfl
def ah.fzR{sh:Bool}{A:List RA}{k:Kd}{rcs:List C}(h:ah P f sh A k rcs):ah P f sh A k (cP rcs):=by
 obtain⟨c,d⟩:=h;refine⟨c,λw S g i j=>(d w S g i j).mono λe w1 l=>?_⟩;obtain⟨v,n,p,X,S1,q,r,y,t,u⟩:=l;refine⟨v,n,p,NO,λb o=>S1 b o\/X b o,λ_ _ h=>h.elim,λb o a=>?_,λ_ _ h=>h.elim,by rw[bX,I2];exact t,u.freeze⟩;rcases a with a|a
 ·exact r b o a
 exact .inr (q b o a)
structure VN(ls:List aA)(q:eJ):Prop where
 a:0<=q.A/\q.A<ls.length
 b:0<=q.B/\q.B<ls.length
 m:meshable (nth ls q.A.toNat) (nth ls q.B.toNat)=true
def PJ{b:List aA}{p:List Int}(c:∀x∈p,0<=x/\x<b.length)(t:Nat){out:List eJ}(d:∀q∈out,VN b q):∀{i:Nat},i<=p.length / 2->∀q∈uR b p t out i,VN b q
 | 0,_=>d
 | i+1,h=>λq a=>by
  have e:=PJ c t d (i:=i) ω;simp only[uR,stp]at a;split at a
  ·rename_i g
   rcases v5.1 a with a|a
   ·exact e q a
   obtain rfl:=z3.1 a;have f:(i+t) % (p.length - p.length / 2)<p.length - p.length / 2:=Nat.mod_lt _ ω;exact⟨c _ (ax ω),c _ (ax ω),g.2.2⟩
  exact e q a
def Q9{a:List aA}{p:List Int}(b:∀x∈p,0<=x/\x<a.length):∀t,∀q∈oG a p t,VN a q
 | 0=>λq c=>by cases c
 | t+1=>PJ b t (Q9 b t) (z5 _)
def rJ(a:List aA){s:Int}(b:0<=s/\s<=1073741823):∀q∈lG a s,VN a q:=Q9 (uM a.length b (z5 _)) 3
def WG(s:aA)(n:Nat):(zN s n).Pairwise (· < ·):=by
 unfold zN;rw[List.pairwise_map];exact(List.pairwise_lt_range.sublist List.filter_sublist).imp λh=>ω
def Ye : ∀z∈zN s n,0<=z/\z<n:=λz a=>by
 unfold zN at a;simp only[O8,S8,List.mem_range]at a;obtain⟨c,⟨b,-⟩,rfl⟩:=a;omega
def Ea(s:aA):d9 (zN s 16).length (ro (zN s 16))=true:=by
 refine cD.2 λj a=>?_
 have c:=Ye _ (ax a);unfold ro;refine O0 ⟨ω,ω,?_⟩;by_cases e:j=0
 ·exact .inl e
 refine .inr ?_;have b:=List.pairwise_iff_getElem.1 (WG s 16) (j - 1) j ω a ω;rw[show nth (zN s 16) (j - 1)=(zN s 16)[j - 1] from bB (z4 ω),show nth (zN s 16) j=(zN s 16)[j] from bB (z4 a)];exact b
def u9{a b:aA}(c:meshable a b=true):gF (eQ a b)=true/\bq a=true/\bq b=true:=by
 unfold meshable at c;simp only[I0,C0]at c;have d:=aO c.1.1;have e:=aO c.1.2;refine⟨?_,c.1⟩;unfold eQ gF;split
 ·simp only[I0,C0];exact⟨Ea a,ω⟩
 simp only[I0,C0];exact⟨Ea b,ω⟩
def Bm(a b:aA):b9.sml (eQ a b):=by
 have c:=oZ a 16;have d:=oZ b 16;unfold eQ b9.sml jE;split<;>simp only<;>omega
def bI(h:ac):List aA:=(jq h).take 16
def started(h:ac):ac × Bool:=match lG (bI h) h.c1 with
 | []=>({h with c1:=(shuf (bI h).length h.c1).2},false)
 | q::_=>({h with c1:=(shuf (bI h).length h.c1).2,a2:=true,a5:=Ae (eQ (nth (bI h) q.A.toNat) (nth (bI h) q.B.toNat))},true)
def Mw(a:bm h E):h.J.length<=32/\fT h<=32/\Ak h/\∀s∈h.J,s.a6<=9223372036854775807:=by
 have b:=a.lens;refine⟨b.spans,b.ents,?_,λs c=>by have:=eM (a.L.sok s c);omega⟩;have:=(bk a.ker).1.2;exact this
def AQ(h:ac):(bI h).length<=16:=by unfold bI;rw[I3];omega
def Un(x:List eJ)(z:Int):cP (gi .own x++[I z])=gi .O x++[I z]:=by
 have h:=vX x;rw[bX]at h |-;rw[CB,h];simp[fz]
def XQ(h:ac):(bI h).map (aA.enc .O)=((jq h).map (aA.enc .O)).take 16:=C8
def NG(p:b9)(b:gF p=true)(c:b9.sml p):zzA 222 false [.val (some 3) (b9.enc .O p)] (.tup [some 5,none]) (D3 (Ae p)++[B true]):=by
 have h:=(KE p b c).fzR;have e:cP (bW.enc .own (Ae p)++[B true])=D3 (Ae p)++[B true]:=by
  have a:=bW.enc_fz (Ae p);rw[bX]at a |-;rw[CB,a];simp[fz,bW.enc,D3]
 rwa [e]at h
def Fw(h:ac)(w:bm h []):zzB 92 false [.ptr (bR h)] [.ptr (bR (started h).1)] .one [B (started h).2]:=by
 obtain⟨w1,Q,H,J⟩:=Mw w;have a:=w.nums;unfold cv at a;rw[C0]at a;have e:=(Bo h H ω ω J).fzR;rw[eN]at e;have o:=AQ h;have b:=(Ad (bI h) h.c1 ⟨a.1,a.2.1⟩ o).fzR;rw[Un]at b;have g:=rJ (bI h) ⟨a.1,a.2.1⟩;have K:=tT h h.J.length;have y:(jq h).length<=32:=by unfold jq;omega
 have j:=XQ h;unfold started;cases C:lG (bI h) h.c1 with
 | nil=>
  rw[C]at b;by_cases L:16<(jq h).length
  ·refine fM 62 [] [(8,275,[34,35,36,37,38,39,40,41,42,43,44,45,46,47,48,33,49,50,6,0,1,2,3,4,5,6,7,8,9,10,11,12,13,14,15,16,17,18,19,1017,20])] [(0,0)] Tryz.func92 rfl (λu q=>?_)
   repeat'(first|refine gE ?_|refine CM (e) ⟨⟨rfl,bZ h⟩,tV1⟩ ?_|refine CZ 16 rfl (by rw[I2];omega) (aN λ_=>rfl) j ?_)
   exact kk
  have k:bI h=jq h:=by unfold bI;exact IE ω
  rw[k]at b;refine fM 62 [] [(8,275,[34,35,36,37,38,39,40,41,42,43,44,45,46,47,48,33,49,50,6,0,1,2,3,4,5,6,7,8,9,10,11,12,13,14,15,16,17,18,19,1017,20])] [(0,0)] Tryz.func92 rfl (λu q=>?_);rw[k]
  repeat'(first|refine gE ?_|refine CM (e) ⟨⟨rfl,bZ h⟩,tV1⟩ ?_)
  exact kk
 | cons q M=>
  rw[C]at b g;obtain⟨E,F,G⟩:=g q (O3 ..);obtain⟨N,O,P⟩:=u9 G;have p:=FO _ _ G O P;have t:=NG _ N (Bm _ _);have c:=ar (xs:=bI h) (i:=q.A.toNat) ω;have d:=ar (xs:=bI h) (i:=q.B.toNat) ω;have l:(q::M)[0]? = some q:=rfl;by_cases L:16<(jq h).length
  ·refine fM 62 [] [(8,275,[34,35,36,37,38,39,40,41,42,43,44,45,46,47,48,33,49,50,6,0,1,2,3,4,5,6,7,8,9,10,11,12,13,14,15,16,17,18,19,1017,20])] [(0,0)] Tryz.func92 rfl (λu r=>?_)
   repeat'(first|refine gE ?_|with_reducible refine Bf.D (λn=>absurd n (by simp)) (λn=>?_)|refine CM (e) ⟨⟨rfl,bZ h⟩,tV1⟩ ?_|refine CZ 16 rfl (by rw[I2];omega) (aN λ_=>rfl) j ?_|refine CQ qs (aa l) ?_|refine CQ E.1 (aa c) ?_|refine CQ F.1 (aa d) ?_|refine CM (t) ⟨⟨rfl,b9.enc_fz _⟩,tV1⟩ ?_)
   exact kk
  have k:bI h=jq h:=by unfold bI;exact IE ω
  rw[k]at b p t c d;refine fM 62 [] [(8,275,[34,35,36,37,38,39,40,41,42,43,44,45,46,47,48,33,49,50,6,0,1,2,3,4,5,6,7,8,9,10,11,12,13,14,15,16,17,18,19,1017,20])] [(0,0)] Tryz.func92 rfl (λu r=>?_);rw[k]
  repeat'(first|refine gE ?_|with_reducible refine Bf.D (λn=>absurd n (by simp)) (λn=>?_)|refine CM (e) ⟨⟨rfl,bZ h⟩,tV1⟩ ?_|refine CQ qs (aa l) ?_|refine CQ E.1 (aa c) ?_|refine CQ F.1 (aa d) ?_|refine CM (t) ⟨⟨rfl,b9.enc_fz _⟩,tV1⟩ ?_)
  exact kk
def Jm(h:ac):ac × Bool:=if h.a2=false/\fw h=true then started h else(h,false)
def Hn(h:ac)(g:ac.sml h)(i:¬(h.a2=false/\fw h=true)):zzA 45 false [.val (some 24) (ac.enc .O h)] (.tup [some 24,none]) (dq h++[B false]):=by
 have a:=cW h g;rw[eR]at a;have b:=dM h g;have c:ac.enc .O h=(ac.enc .O h).set 18 (B h.a2):=rfl;cases d:h.a2
 ·have j:fw h=false:=by
   rcases Bool.eq_false_or_eq_true (fw h) with e|e
   ·exact absurd ⟨d,e⟩ i
   exact e
  rw[j]at a;rw[d]at c;rw[c]at a b |-;refine fO 66 [(10,275,[41,42,43,44,45,46,47,48,49,50,51,52,53,54,55,40,56,57,8,0,1,2,3,4,5,6,7,8,9,10,11,12,13,14,15,16,17,18,19,1017,20])] Tryz.func45 rfl ?_ (.inr (a7 (cn _) ⟨tV1,tV1⟩))
  refine σP ?_
  rfl
 rw[d]at c;rw[c]at a b |-;refine fO 66 [(10,275,[41,42,43,44,45,46,47,48,49,50,51,52,53,54,55,40,56,57,8,0,1,2,3,4,5,6,7,8,9,10,11,12,13,14,15,16,17,18,19,1017,20])] Tryz.func45 rfl ?_ (.inr (a7 (cn _) ⟨tV1,tV1⟩))
 refine σP ?_
 rfl
def FJ(h:ac)(t:ac.sml h)(H:h.a2=false)(u:fw h=true):zzA 45 false [.val (some 24) (ac.enc .O h)] (.tup [some 24,none]) (dq (started h).1++[B (started h).2]):=by
 have w:=bm.of u;obtain⟨w1,U,J,K⟩:=Mw w;have a:=w.nums;unfold cv at a;rw[C0]at a;have j:=cW h t;rw[eR,u]at j;have l:=dM h t;have k:=(D6 h J ω ω K).fzR;rw[eN]at k;have n:=AQ h;have c:=(Av (bI h) h.c1 ⟨a.1,a.2.1⟩ n).fzR;rw[Un]at c;have d:=rJ (bI h) ⟨a.1,a.2.1⟩;have L:=tT h h.J.length;have y:(jq h).length<=32:=by unfold jq;omega
 have g:(bI h).map (aA.enc .O)=((jq h).map (aA.enc .O)).take (bI h).length:=by
  unfold bI;rw[C8,I3];by_cases e:16<=(jq h).length
  ·rw[Nat.min_eq_left e]
  rw[Nat.min_eq_right ω,IE (by rw[I2];omega),IE (by rw[I2];omega)]
 have b:(bI h).length=if(jq h).length<=16 then(jq h).length else 16:=by unfold bI;rw[I3];split<;>omega
 have C:ac.enc .O h=(ac.enc .O h).set 18 (B h.a2):=rfl;rw[H]at C;rw[C]at j l k |-;unfold started;cases E:lG (bI h) h.c1 with
 | nil=>
  rw[E]at c;refine fO 66 [(10,275,[41,42,43,44,45,46,47,48,49,50,51,52,53,54,55,40,56,57,8,0,1,2,3,4,5,6,7,8,9,10,11,12,13,14,15,16,17,18,19,1017,20])] Tryz.func45 rfl ?_ (.inr (a7 (cn _) ⟨tV1,tV1⟩))
  repeat'(first|refine gP ?_|refine CX (z:=((bI h).length:Int)) (by rw[b];simp;split<;>split<;>omega) ?_|refine CZ (bI h).length rfl (by rw[I2,b];split<;>omega) (aN λ_=>rfl) g ?_)
  rfl
 | cons q M=>
  rw[E]at c d;obtain⟨N,O,F⟩:=d q (O3 ..);obtain⟨P,Q,R⟩:=u9 F;have S:=EX _ _ F Q R;have T:=M6 _ P (Bm _ _);have o:=ar (xs:=bI h) (i:=q.A.toNat) ω;have p:=ar (xs:=bI h) (i:=q.B.toNat) ω;have r:(q::M)[0]? = some q:=rfl;refine fO 66 [(10,275,[41,42,43,44,45,46,47,48,49,50,51,52,53,54,55,40,56,57,8,0,1,2,3,4,5,6,7,8,9,10,11,12,13,14,15,16,17,18,19,1017,20])] Tryz.func45 rfl ?_ (.inr (a7 (cn _) ⟨tV1,tV1⟩))
  repeat'(first|refine gP ?_|with_reducible refine Bf.D (λG=>absurd G (by simp)) (λG=>?_)|refine CX (z:=((bI h).length:Int)) (by rw[b];simp;split<;>split<;>omega) ?_|refine CZ (bI h).length rfl (by rw[I2,b];split<;>omega) (aN λ_=>rfl) g ?_|refine CQ qs (aa r) ?_|refine CQ N.1 (aa o) ?_|refine CQ O.1 (aa p) ?_|refine CM (T) ⟨⟨rfl,b9.enc_fz _⟩,tV1⟩ ?_)
  rfl
def BX(h:ac)(a:ac.sml h):zzA 45 false [.val (some 24) (ac.enc .O h)] (.tup [some 24,none]) (dq (Jm h).1++[B (Jm h).2]):=by
 unfold Jm;split
 ·rename_i e;exact FJ h a e.1 e.2
 rename_i e;exact Hn h a e
theorem NU(xs:List Int)(x:Int)(g:xs.length<=4611686018427387904):zzA 508 false [.val none (aE .O xs),.vI x] .one [I (cy (λy=>decide (y=x)) xs)]:=by
 refine fO 19 [] Tryz.func508 rfl ?_
 refine σP ?_
 refine gn xs.length (λi=>[(0,bC (aE .O xs)),(1,fI x),(7,fI xs.length),(8,fN i)]) (λi=>∀(j:Nat)(z:Int),j<i->xs[j]? = some z->decide (z=x)=false) ψ λi a=>?_
 obtain⟨a,c⟩:=a;by_cases d:i<xs.length
 ·have b:=ar d
  by_cases e:nth xs i=x
  ·repeat'(first|refine gE ?_|refine Bf.t (by simp[e]) ?_)
   grind [dO]
  repeat'(first|refine gE ?_|refine Bf.f (by simp[Ne.symm e]) ?_)
  (exact dt (i+1) ψ)
 refine σE ?_
 exact gm (gd ω c).symm
theorem vn(xs:List Int)(x:Int)(a:xs.length<=4611686018427387904):zzA 470 false [.val none (aE .O xs),.vI x] .one [B (decide (x∈xs))]:=by
 refine fO 9 [] Tryz.func470 rfl ?_
 repeat'(first|refine gP ?_|refine CF (NU xs x a) ?_)
 grind [nG]
def dX(k:af):af:={k with Calls:=k.Calls+1}
def refd(k:af):Bool:=decide (k.Calls∈k.a)
def rx(k:af)(a:af.sml k)(d:0<=k.Calls/\k.Calls<=100000):zzA 473 false [.val (some 5) (af.enc .O k)] (.tup [some 5,none]) (af.enc .own (dX k)++[B (!refd k)]):=by
 have c:=iq k a;have g:k.a.length<=1048576:=a.2;have b:=vn k.a k.Calls ω;unfold refd;cases e:decide (k.Calls∈k.a)<;>rw[e]at b
 all_goals
  refine fO 18 [(3,263,[11,12,13,14,15,16,17,0,1,2,3,4,5,6,7,1006,8])] Tryz.func473 rfl ?_ (.inr (a7 (Ci _) ⟨tV1,tV1⟩))
  refine σP ?_
  rfl
def E5(k:af)(p:Int)(m:Int):af:={k with F:=⟨k.F.V,⟨k.F.Q.M.set p.toNat {nth k.F.Q.M p.toNat with o:=m}⟩⟩}
def jR(k:af)(p m:Int):af × Bool:=if refd k=true then(dX k,false) else(E5 (dX k) p m,true)
theorem yo(k:af)(p m:Int):af.enc .own (E5 k p m)=(af.enc .own k).set 2 (.s .own ((k.F.Q.M.map (aS.enc .own)).set p.toNat (aS.enc .own {nth k.F.Q.M p.toNat with o:=m}))):=by grind [CC,af.enc,E5]
def v7(k:af)(p m:Int)(b:aH k=true)(n:k.Calls≠100000)(j:(ay k.F.Q p).o≠0)(a:m=1\/m=2):zzA 421 false [.val (some 5) (af.enc .O k),.vI p,.vI m] (.tup [some 5,none]) (af.enc .own (jR k p m).1++[B (jR k p m).2]):=by
 have c:=bk b;have o:=(aF.1 b).2.2.2;have d:=jg k c;rw[b,O0 n]at d;have g:=rx k c ω;have h:=fY k p c.1.2;rw[O0 j]at h;obtain⟨q,r,t⟩:=bU b j;have l:=ar (xs:=k.F.Q.M) (i:=p.toNat) ω;unfold jR;cases e:refd k<;>rw[e]at g
 ·rw[CI (by simp),yo]
  rcases a with rfl|rfl
  all_goals
   refine fO 46 [] Tryz.func421 rfl ?_ (.inr (a7 (by rw[<-yo];exact Ci _) ⟨tV1,tV1⟩))
   repeat'(first|refine gP ?_|refine CQ q (aa l) ?_|refine CR rfl rfl (aa l) rfl (O2 rfl) rfl ?_)
   rfl
 rw[CJ rfl];rcases a with rfl|rfl
 all_goals
  refine fO 46 [] Tryz.func421 rfl ?_ (.inr (a7 (Ci _) ⟨tV1,tV1⟩))
  refine σP ?_
  rfl
variable{k:af}
theorem row16(a:aH k=true)(b:f<k.F.V.U.length):(nth k.F.V.U f).length=16:=by grind [bi,aF,jV]
def setCell(k:af)(f:Nat)(c v:Int):af:={k with F:=⟨⟨k.F.V.U.set f ((nth k.F.V.U f).set c.toNat v),k.F.V.a3⟩,k.F.Q⟩}
theorem zl(k:af)(f:Nat)(c v:Int):af.enc .own (setCell k f c v)=(af.enc .own k).set 0 (.s .own ((k.F.V.U.map (aE .own)).set f [.s .own (((nth k.F.V.U f).map (rI .own)).set c.toNat [I v])])):=by grind [CC,af.enc,setCell,aE,rI]
def ko(k:af)(p:Int):Nat:=(ay k.F.Q p).j.toNat
def x3(k:af)(a b c:Int):af:=setCell k (ko k b) c (nth (nth k.F.V.U (ko k a)) c.toNat)
def QC(k:af)(a b c:Int):Nat->af
 | 0=>k
 | _+1=>x3 k a b c
def Nj(k:af)(a b c:Int)(d:aH k=true)(C:k.Calls≠100000)(q:(ay k.F.Q a).o≠0)(r:(ay k.F.Q b).o≠0)(e:0<=c/\c<=15):zzA 422 false [.val (some 5) (af.enc .O k),.vI a,.vI b,.val none (aE .O [c])] (.tup [some 5,none]) (af.enc .own (x3 k a b c)++[B true]):=by
 have h:=bk d;have t:=jg k h;rw[d,O0 C]at t;have D:=iq k h;have u:=fY k a h.1.2;have w:=fY k b h.1.2;rw[O0 q]at u;rw[O0 r]at w;have E:=de k.F.Q a h.1.2;have F:=de k.F.Q b h.1.2;have y:=GD c;rw[O0 e]at y;obtain⟨-,-,-,G,K⟩:=bU d q;obtain⟨-,-,-,H,L⟩:=bU d r;have J:=(bi.1 (aF.1 d).2.1).2.2.1;have M:=row16 d (f:=ko k a) (by unfold ko;omega);have N:=row16 d (f:=ko k b) (by unfold ko;omega);have l:k.F.V.U[(ay k.F.Q a).j.toNat]? = some (nth k.F.V.U (ko k a)):=ar ω;have g:k.F.V.U[(ay k.F.Q b).j.toNat]? = some (nth k.F.V.U (ko k b)):=ar ω;have o:=ar (xs:=nth k.F.V.U (ko k a)) (i:=c.toNat) ω;have n:=ar (xs:=nth k.F.V.U (ko k b)) (i:=c.toNat) ω;have p:[c][0]? = some c:=rfl;refine fO 77 [(4,268,[33,34,35,36,37,38,39,40,41,42,43,44,0,1,2,3,4,5,6,7,8,9,10,11,12,1011,13]),(10,18,[56,57,58,59,60,61,62,63,64,65,66,67,68,69,70,71,72,73])] Tryz.func422 rfl ?_ (.inr (a7 (Ci _) ⟨tV1,tV1⟩))
 refine σP ?_
 refine lp0 1 (λj=>[(4,bS (af.enc .O k)),(8,bS (af.enc .own ⟨⟨⟨[],[]⟩,⟨[]⟩⟩,0,[]⟩)),(10,bS (af.enc .own (QC k a b c j))),(11,fI ((ay k.F.Q a).j)),(12,fI ((ay k.F.Q b).j)),(45,bC (aE .O [c])),(46,fI 1),(47,fN j)]) λj O=>?_
 by_cases P:j<1
 ·obtain rfl:j=0:=ω
  repeat'(first|refine gE ?_|refine CQ qs (aa p) ?_|refine CQ G (aa l) ?_|refine CQ H (aa g) ?_|refine CQ e.1 (aa o) ?_|refine CQ e.1 (aa n) ?_|refine Pu.two rfl rfl (aa g) rfl rfl rfl (aa n) rfl (z5 _) rfl ?_)
  (refine CP 1 ω ω ?_)
  rw[show QC k a b c 1=x3 k a b c from rfl];unfold x3;rw[zl];exact wB
 obtain rfl:j=1:=ω
 refine σE ?_
 rfl
def Ar(k:af)(p:Nat)(e:aS):af:={k with F:=⟨k.F.V,⟨k.F.Q.M.set p e⟩⟩}
theorem Ko(k:af)(p:Nat)(e:aS):af.enc .own (Ar k p e)=(af.enc .own k).set 2 (.s .own ((k.F.Q.M.map (aS.enc .own)).set p (aS.enc .own e))):=by grind [CC,af.enc,Ar]
def M9(p:Nat)(e:aS)(h:aM.sml k.F.Q):aM.sml (Ar k p e).F.Q:=by
 refine⟨?_,λx _=>tV1⟩;show(k.F.Q.M.set p e).length<=_;rw[C3];exact h.1
def DJ(k:af)(p o:Int):af × Bool:=if refd k=true then(dX k,false) else(jl (Ar (dX k) p.toNat ⟨2,(nth k.F.Q.M o.toNat).j⟩) (nth k.F.Q.M p.toNat).j,true)
def iN(m:aL)(a v:Int):aL × Int:=
 if(ay m.Q (a / 16)).o=0 then(m,1) else if(ay m.Q (a / 16)).o=1 then(m,2) else
 (⟨⟨m.V.U.set (ay m.Q (a / 16)).j.toNat ((nth m.V.U (ay m.Q (a / 16)).j.toNat).set (a % 16).toNat v),m.V.a3⟩,m.Q⟩,0)
def xQ(m:aL)(a:Int)(d:dn m=true)(b:aL.sml m)(e:0<=a/\a<512):zzA 414 false [.val (some 3) (aL.enc .O m),.vI a] .agg (aS.enc .own (ay m.Q (a / 16))):=by
 have c:=tI m b;rw[d]at c;have g:=de m.Q (a / 16) b.2;refine fO 18 [] Tryz.func414 rfl ?_ (.inr ⟨tV1,tV1,tV1⟩)
 repeat'(first|refine gE ?_|refine CS (lQ e) ?_|refine CT qs ?_)
 rfl
theorem Ez(m:aL)(f:Nat)(c v:Int):aL.enc .own ⟨⟨m.V.U.set f ((nth m.V.U f).set c.toNat v),m.V.a3⟩,m.Q⟩ = (aL.enc .own m).set 0 (.s .own ((m.V.U.map (aE .own)).set f [.s .own (((nth m.V.U f).map (rI .own)).set c.toNat [I v])])):=by grind [CC,aL.enc,aE,rI]
def Dl(m:aL)(a v:Int)(p:dn m=true)(k:aL.sml m)(l:0<=a/\a<512)(q:0<=v/\v<=999)(r:(ay m.Q (a / 16)).o≠0->0<=(ay m.Q (a / 16)).j/\(ay m.Q (a / 16)).j<m.V.U.length/\(nth m.V.U (ay m.Q (a / 16)).j.toNat).length=16):zzA 287 false [.val (some 3) (aL.enc .O m),.vI a,.vI v] (.tup [some 3,none]) (aL.enc .own (iN m a v).1++[I (iN m a v).2]):=by
 have d:=lv m k;have e:=xQ m a p k l;have c:=aG v 0 999;rw[O0 q]at c;have b:=aL.enc_fr (iN m a v).1;unfold iN at b |-;by_cases g:(ay m.Q (a / 16)).o=0
 ·rw[CJ g]at b |-
  refine fO 42 [] Tryz.func287 rfl ?_ (.inr (a7 b ⟨tV1,tV1⟩))
  refine σB ?_
  rfl
 rw[CI g]at b |-;by_cases n:(ay m.Q (a / 16)).o=1
 ·rw[CJ n]at b |-
  refine fO 42 [] Tryz.func287 rfl ?_ (.inr (a7 b ⟨tV1,tV1⟩))
  refine σB ?_
  rfl
 rw[CI n]at b |-;obtain⟨t,u,w⟩:=r g;have h:=ar (xs:=m.V.U) (i:=(ay m.Q (a / 16)).j.toNat) ω;have o:=ar (xs:=nth m.V.U (ay m.Q (a / 16)).j.toNat) (i:=(a % 16).toNat) ω;simp only at b |-;rw[Ez]at b |-;have j:a.tmod 16=a % 16:=fg l.1;refine fO 42 [] Tryz.func287 rfl ?_ (.inr (a7 b ⟨tV1,tV1⟩))
 repeat'(first|refine gB ?_|refine CX j ?_|refine CT qs ?_|refine CQ t (aa h) ?_|refine CQ ω (aa o) ?_|refine Pu.two rfl rfl (aa h) rfl rfl rfl (aa o) rfl (z5 _) rfl ?_)
 rfl
def Lr(k:af)(p o:Int)(a:aH k=true)(w:k.Calls≠100000)(l:(ay k.F.Q p).o≠0)(n:(ay k.F.Q o).o≠0)(y:p≠o):zzA 423 false [.val (some 5) (af.enc .O k),.vI p,.vI o] (.tup [some 5,none]) (af.enc .own (DJ k p o).1++[B (DJ k p o).2]):=by
 have b:=bk a;have C:=(aF.1 a).2.2.2;have c:=jg k b;rw[a,O0 w]at c;have d:=rx k b ⟨ω,ω⟩;have g:=fY k p b.1.2;have h:=fY k o b.1.2;rw[O0 l]at g;rw[O0 n]at h;obtain⟨D,H,E,q,r⟩:=bU a l;obtain⟨F,J,K,L,M⟩:=bU a n;have G:=(bi.1 (aF.1 a).2.1).2.2.1;have j:=ar (xs:=k.F.Q.M) (i:=p.toNat) ω;have t:=ar (xs:=k.F.Q.M) (i:=o.toNat) ω;rw[E]at q r;have u:=wY (Ar (dX k) p.toNat ⟨2,(nth k.F.Q.M o.toNat).j⟩) (nth k.F.Q.M p.toNat).j (M9 _ _ b.1.2) ⟨q,by show _<((k.F.V.U.length:Nat):Int);omega,r⟩;rw[Ko]at u;unfold DJ;cases e:refd k<;>rw[e]at d
 ·rw[CI (by simp)]
  refine fP 63 [(475,[2,0]),(1000010,[])] [] Tryz.func423 rfl ?_ (.inr (a7 (Ci _) ⟨tV1,tV1⟩))
  repeat'(first|refine gB ?_|refine CQ D (aa j) ?_|refine CQ F (aa t) ?_|refine CR rfl rfl (aa j) rfl (O2 rfl) rfl ?_)
  rfl
 rw[CJ rfl];refine fP 63 [(475,[2,0]),(1000010,[])] [] Tryz.func423 rfl ?_ (.inr (a7 (Ci _) ⟨tV1,tV1⟩))
 refine σP ?_
 rfl
def jmay(k:af)(j:bW):Bool:=(aH k&&decide (k.Calls≠100000))&&(kN j&&decide ((ay k.F.Q j.d.b0).o≠0/\(ay k.F.Q j.d.b2).o≠0/\(ay k.F.Q j.d.b0).j≠(ay k.F.Q j.d.b2).j))
def jstep(k:af)(j:bW):af × bW:=
 if j.b5=0 then((jR k j.d.b2 1).1,{j with b5:=if(jR k j.d.b2 1).2=true then 1 else 5})
 else if j.b5=1 then(if j.k=j.d.U.length then(k,{j with b5:=2}) else(x3 k j.d.b2 j.d.b0 (nth j.d.U j.k.toNat),{j with k:=j.k+1}))
 else if j.b5=2 then((DJ k j.d.b2 j.d.b0).1,{j with b5:=if(DJ k j.d.b2 j.d.b0).2=true then 4 else 3})
 else if j.b5=3 then(if 0<j.k then({k with F:=(iN k.F (j.d.b0*16+nth j.d.U (j.k - 1).toNat) 0).1},{j with k:=j.k - 1}) else((jR k j.d.b2 2).1,{j with b5:=if(jR k j.d.b2 2).2=true then 5 else 3}))
 else(k,j)
theorem UA{f:Int}(h1:∀j,j<k.a.length->0<=nth k.a j)(h2:dP k.F.V=true)(c:iH k.F.Q k.F.V.a3.length=true)(g:∀j:Nat,j<k.F.V.a3.length->(j:Int)≠f->nth k.F.V.a3 j=decide (0<(pagesOn k.F.Q (j:Int)).length))(p:0<=f/\f<k.F.V.a3.length)(h:nth k.F.V.a3 f.toNat=true)(d:0<=k.Calls/\k.Calls<=100000/\k.a.length<=40):aH (jl k f)=true:=by
 obtain⟨i,l,n,q⟩:=bi.1 h2;unfold jl;split
 ·rename_i o
  rw[aF];simp only[C3];refine⟨h1,?_,c,λj b=>?_,d⟩
  ·rw[bi]
   simp only[C3,cT];refine⟨i,l,n,λj b=>?_⟩;by_cases a:f.toNat=j
   ·rw[CJ ⟨a,b⟩,CJ ⟨a,ω⟩];decide
   grind
  rw[cT];by_cases a:f.toNat=j
  ·grind
  rw[CI (λe=>a e.1)];exact g j b ω
 rename_i o;rw[aF];refine⟨h1,h2,c,λj b=>?_,d⟩;by_cases a:(j:Int)=f
 ·rw[a,show j=f.toNat by omega,h]
  grind
 grind
def tEq(t a:aM):Prop:=a.M.length=t.M.length/\∀q:Nat,((nth a.M q).o≠0↔(nth t.M q).o≠0)/\(nth a.M q).j=(nth t.M q).j
theorem tEq.refl(t:aM):tEq t t:=⟨rfl,λ_=>⟨Iff.rfl,rfl⟩⟩
theorem tEq.of{t a:aM}(h:a=t):tEq t a:=by grind [tEq.refl]
theorem tEq.pagesOn{t a:aM}(h:tEq t a)(f:Int):Ab.pagesOn a f=Ab.pagesOn t f:=by
 unfold Ab.pagesOn mf;rw[h.1]
 congr 1
 refine List.filter_congr λq _=>?_
 obtain⟨b,c⟩:=h.2 q;unfold Vl;rw[c];exact decide_eq_decide.2 (and_congr b Iff.rfl)
theorem JG(h:aH k=true){a:aM}(c:tEq k.F.Q a)(d:∀q,q<a.M.length->0<=(nth a.M q).o/\(nth a.M q).o<=2):aH {k with F:=⟨k.F.V,a⟩} = true:=by
 obtain⟨e,f,g,r,i⟩:=aF.1 h;obtain⟨l,n,o⟩:=bz.1 g;rw[aF];refine⟨e,f,bz.2 ⟨λj b=>?_,?_,?_⟩,λj b=>?_,i⟩
 ·replace b:j<a.M.length:=b
  have t:=l j (by rw[<-c.1];exact b);have p:=d j b;obtain⟨u,w⟩:=c.2 j
  grind [oM]
 ·show 1<=a.M.length;rw[c.1];exact n
 ·show a.M.length<=32;rw[c.1];exact o
 grind [tEq.pagesOn]
def qv(h:aH k=true)(f:k.Calls≠100000):aH (dX k)=true:=by
 obtain⟨a,b,c,d,g,i,e⟩:=aF.1 h;rw[aF];exact⟨a,b,c,d,by show 0<=k.Calls+1;omega,by show k.Calls+1<=100000;omega,e⟩
variable{p m:Int}
theorem GV(b:(nth k.F.Q.M p.toNat).o≠0)(a:m=1\/m=2):tEq k.F.Q (E5 k p m).F.Q:=by
 refine⟨by simp[E5],λq=>?_⟩
 grind [cT,E5]
theorem T6(h:aH k=true)(d:(nth k.F.Q.M p.toNat).o≠0)(a:m=1\/m=2):aH (E5 k p m)=true:=by
 refine JG h (GV d a) λq g=>?_
 obtain⟨i,j,e,l,n⟩:=aF.1 h;obtain⟨f,o,r⟩:=bz.1 e;have b:q<k.F.Q.M.length:=ψ
 have c:=f q b;unfold oM at c;rw[C0]at c;simp only[cT]
 grind
def Ll(h:aH k=true)(c:k.Calls≠100000)(b:(ay k.F.Q p).o≠0)(a:m=1\/m=2):aH (jR k p m).1=true/\tEq k.F.Q (jR k p m).1.F.Q:=by
 obtain⟨e,f,d,-⟩:=bU h b;rw[d]at b;unfold jR;split
 ·exact⟨qv h c,tEq.refl _⟩
 exact⟨T6 (qv h c) b a,GV (k:=dX k) b a⟩
theorem ly(h:aH k=true)(a:(ay k.F.Q p).o≠0):ko k p<k.F.V.U.length/\nth k.F.V.a3 (ko k p)=true/\((ko k p:Nat):Int)=(nth k.F.Q.M p.toNat).j:=by
 obtain⟨c,d,e,f,g⟩:=bU h a;obtain⟨i,b,j,l,n⟩:=aF.1 h;obtain⟨o,q,r,t⟩:=bi.1 b;have u:((ko k p:Nat):Int)=(ay k.F.Q p).j:=by unfold ko;omega
 grind [gy]
theorem Tz(h:aH k=true){r':List Int}(i:r'.length=16)(l:∀v∈r',0<=v/\v<=999)(n:nth k.F.V.a3 f=true):aH {k with F:=⟨⟨k.F.V.U.set f r',k.F.V.a3⟩,k.F.Q⟩} = true:=by
 obtain⟨a,b,c,d,e⟩:=aF.1 h;obtain⟨o,p,q,r⟩:=bi.1 b;refine aF.2 ⟨a,bi.2 ⟨?_,?_,?_,λj g=>?_⟩,c,d,e⟩
 ·grind
 ·grind
 ·grind
 simp only[C3]at g |-;simp only[cT]
 grind [jV,kQ]
theorem Jg(h:aH k=true)(a:f<k.F.V.U.length):(nth k.F.V.U f).length=16/\∀v∈nth k.F.V.U f,0<=v/\v<=999:=by grind [aF,bi,jV,kQ]
theorem vO(h:aH k=true)(a:f<k.F.V.U.length)(b:nth k.F.V.a3 f=true){c v:Int}(d:0<=v/\v<=999):aH (setCell k f c v)=true:=by
 obtain⟨e,g⟩:=Jg h a;refine Tz h ψ (λz i=>?_) b
 grind
def UC(h:aH k=true){c:Int}(d:(ay k.F.Q a).o≠0)(e:(ay k.F.Q b).o≠0)(l:0<=c/\c<=15):aH (x3 k a b c)=true:=by
 obtain⟨f,n,-⟩:=ly h d;obtain⟨g,i,-⟩:=ly h e;obtain⟨o,j⟩:=Jg h f;exact vO h g i (j _ (ax ω))
variable{o:Int}
theorem Yg(h:aH k=true)(i:k.Calls≠100000)(c:(ay k.F.Q p).o≠0)(d:(ay k.F.Q o).o≠0)(l:p≠o):aH (DJ k p o).1=true:=by
 unfold DJ;split
 ·exact qv h i
 obtain⟨H,n,r⟩:=ly h c;obtain⟨J,K,L⟩:=ly h d;obtain⟨M,N,t,e,f⟩:=bU h c;obtain⟨O,P,u,w,y⟩:=bU h d;obtain⟨A,B,C,D,Q,R,E⟩:=aF.1 h;obtain⟨S,T,U⟩:=bz.1 C;rw[u]at w y d;rw[t]at e f c;have a:∀q,nth (k.F.Q.M.set p.toNat ⟨2,(nth k.F.Q.M o.toNat).j⟩) q=if p.toNat=q then⟨2,(nth k.F.Q.M o.toNat).j⟩ else nth k.F.Q.M q:=λq=>by
  rw[cT];by_cases g:p.toNat=q
  ·rw[CJ ⟨g,ω⟩,CJ g]
  grind
 refine UA A B (bz.2 ⟨λj b=>?_,?_,?_⟩) (λj b F=>?_) ⟨e,f⟩ (by rw[<-r];exact n) ⟨by show 0<=k.Calls+1;omega,by show k.Calls+1<=100000;omega,E⟩
 ·simp only[Ar,dX,C3]at b |-
  rw[a]
  grind [oM]
 ·grind [Ar,dX]
 ·grind [Ar,dX]
 replace b:j<k.F.V.a3.length:=b;show nth k.F.V.a3 j=_;rw[D j b];refine decide_eq_decide.2 ?_;rw[gy,gy];simp only[Ar,dX,C3,a];constructor
 ·rintro⟨q,G,V,W⟩
  refine⟨q,G,?_⟩
  grind
 grind
theorem WB(h:aH k=true)(a:(ay k.F.Q p).o≠0)(b:(DJ k p o).2=true)(q:Nat):(DJ k p o).1.F.Q.M.length=k.F.Q.M.length/\nth (DJ k p o).1.F.Q.M q=if(q:Int)=p then⟨2,(nth k.F.Q.M o.toNat).j⟩ else nth k.F.Q.M q:=by
 obtain⟨c,d,-⟩:=bU h a
 grind [uC,cT,DJ,Ar,dX]
theorem XT(a:(DJ k p o).2=false):(DJ k p o).1=dX k:=by grind [DJ]
def QQ{v:Int}(h:aH k=true)(g:0<=a)(b:0<=v/\v<=999):aH {k with F:=(iN k.F a v).1} = true/\(iN k.F a v).1.Q=k.F.Q:=by
 unfold iN;split
 ·exact⟨h,rfl⟩
 rename_i d;split
 ·exact⟨h,rfl⟩
 obtain⟨e,f,-⟩:=ly h d;exact⟨vO h e f (c:=a % 16) b,rfl⟩
def qW(t:aM)(p:Int):Prop:=∀q:Nat,(nth t.M q).o≠0->(nth t.M q).j=(nth t.M p.toNat).j->(q:Int)=p
structure JI(h:ac):Prop where
 ph:h.a2=true->0<=h.a5.b5/\h.a5.b5<=3
 sp:h.a2=true->∃a∈h.J,∃b∈h.J,a.S=h.a5.d.b0/\b.S=h.a5.d.b2/\meshable a b=true
 sk:h.a2=true->qW (tbl h) h.a5.d.b0
 sm:h.a2=true->qW (tbl h) h.a5.d.b2
theorem qW.tEq{t a:aM}{p:Int}(h:qW t p)(b:tEq t a):qW a p:=λq c d=>by
 obtain⟨e,f⟩:=b.2 q;exact h q (e.1 c) (by rw[<-f,<-(b.2 p.toNat).2];exact d)
theorem Pg.tEq{t b:aM}{c:List aC}{sp:List aA}{la:List a8}(h:Pg t c sp la)(a:tEq t b):Pg b c sp la where
 one l hl p hp q hq h1 h2:=h.one l hl p hp q (by rw[<-a.1];exact hq) ((a.2 q).1.1 h1) (by rw[<-(a.2 q).2,<-(a.2 p).2];exact h2)
 bnd p hp:=by rw[a.1];exact h.bnd p hp
 own p hp:=(a.2 p).1.trans (h.own p (by rw[<-a.1];exact hp))
 fre p hp:=(a.2 p).1.trans (h.fre p (by rw[<-a.1];exact hp))
 mesh s hs u hu hne hf:=h.mesh s hs u hu hne (by rw[<-(a.2 _).2,<-(a.2 u.S.toNat).2];exact hf)
def bm.step(a:bm h E)(b:aH k=true)(c:k.F.Q.M.length=(tbl h).M.length)(d:Pg k.F.Q h.b h.J h.H){j:bW}{m:Bool}(h1:m=true->kN j=true/\(∃s∈h.J,s.S=j.d.b0)/\∃s∈h.J,s.S=j.d.b2)(h2:m=false->xL j=true):bm {h with G:=k,a2:=m,a5:=j} E:=
 {a with
   ker:=b
   rng:=by show bN ((k.F.Q.M.length:Nat):Int) h.b=true;rw[c];exact a.rng
   pg:=d
   job:=h1
   noj:=h2}
variable{la:List a8}{sp:List aA}
theorem rN.apart(a:rN sp la)(b:s∈sp){l:a8}(c:l∈la)(d:p∈lpgs l l.a0.toNat):s.S≠p:=by grind [rN.dis,lpgs]
theorem Pg.on{t w:aM}{F:List aC}(g:Pg t F sp la)(k:rN sp la){a b:aA}(G:a∈sp)(N:b∈sp)(hm:meshable a b=true)(o:qW t a.S)(C:(nth t.M a.S.toNat).o≠0)(O:(nth t.M b.S.toNat).o≠0)(P:0<=b.S)(Q:w.M.length=t.M.length)(A:∀q:Nat,nth w.M q=if(q:Int)=b.S then⟨2,(nth t.M a.S.toNat).j⟩ else nth t.M q):Pg w F sp la:=by
 have c:∀q:Nat,(nth w.M q).o≠0↔(nth t.M q).o≠0:=ψ
 have R:0<=a.S:=by have:=k.sok a G;grind [bq]
 refine⟨λl r p n q hq S D=>?_,λp n=>by rw[Q];exact g.bnd p n,λp n=>(c p).trans (g.own p ω),λp n=>(c p).trans (g.fre p ω),λs H u J T h=>?_⟩
 ·have E:¬(p:Int)=b.S:=λe=>k.apart N r n e.symm
  rw[A p,CI E,A q]at D;rw[c]at S;by_cases e:(q:Int)=b.S
  ·rw[CJ e]at D
   have K:=g.one l r p n a.S.toNat (by have:=g.bnd _ (fx (la:=la) G);omega) C D
   grind [rN.apart]
  grind [Pg.one]
 have U:0<=s.S:=by have:=k.sok s H;grind [bq]
 have V:0<=u.S:=by have:=k.sok u J;grind [bq]
 have L:∀x∈sp,∀y∈sp,x.S=y.S->x=y:=λx B y W e=>by
  obtain⟨i,X,rfl⟩:=bw B;obtain⟨j,Y,rfl⟩:=bw W;rw[i6 (f:=(·.S)) k.nd X Y e]
 have d:∀x∈sp,(nth t.M x.S.toNat).o≠0:=λx B=>by
  have Z:0<=x.S:=by have:=k.sok x B;grind [bq]
  refine(g.own x.S.toNat (by have:=g.bnd _ (fx (la:=la) B);omega)).2 ?_
  grind [fx]
 rw[A,A]at h;simp only[show((s.S.toNat:Nat):Int)=s.S by omega,show((u.S.toNat:Nat):Int)=u.S by omega]at h;by_cases M:s.S=b.S
 ·rw[CJ M,CI ω]at h
  have K:=o u.S.toNat (d u J) h.symm
  grind [lw]
 rw[CI M]at h;by_cases eu:u.S=b.S
 ·rw[CJ eu]at h
  have K:=o s.S.toNat (d s H) h
  grind
 grind [Pg.mesh]
def over(j:bW):Bool:=decide (j.b5=4\/j.b5=5)
def iA(k:af)(j:bW):af × bW:=if jmay k j=true then jstep k j else(k,j)
def mStep(h:ac):ac:={h with G:=(iA h.G h.a5).1,a2:=if over (iA h.G h.a5).2=true then false else h.a2,a5:=if over (iA h.G h.a5).2=true then⟨⟨0,0,[]⟩,0,0⟩ else(iA h.G h.a5).2}
def Mb(h:ac):Bool:=decide ((iA h.G h.a5).2.b5=4)
theorem gV{j:bW} : kN j=true↔gF j.d=true/\0<=j.b5/\j.b5<=5/\0<=j.k/\j.k<=j.d.U.length:=by grind [kN]
theorem kV{p:b9}(h:gF p=true)(a:i<p.U.length):0<=nth p.U i/\nth p.U i<=15:=by grind [gv,gF,ro]
structure JS(h:ac)(k:af)(j:bW):Prop where
 ker:aH k=true
 len:k.F.Q.M.length=(tbl h).M.length
 pg:j.b5≠4\/JI h->Pg k.F.Q h.b h.J h.H
 ph:0<=j.b5/\j.b5<=5
 plan:j.d=h.a5.d
 nxt:0<=j.k/\j.k<=j.d.U.length
 eq:j.b5≠4->tEq (tbl h) k.F.Q
 calls:h.G.Calls<=k.Calls/\k.Calls<=h.G.Calls+1/\k.a=h.G.a
def Ef(k:af)(p m:Int):(jR k p m).1.Calls=k.Calls+1/\(jR k p m).1.a=k.a:=by
 unfold jR;split<;>exact⟨rfl,rfl⟩
def Ul(k:af)(p o:Int):(DJ k p o).1.Calls=k.Calls+1/\(DJ k p o).1.a=k.a:=by
 unfold DJ;split
 ·exact⟨rfl,rfl⟩
 obtain⟨-,a,b,-⟩:=uC (Ar (dX k) p.toNat ⟨2,(nth k.F.Q.M o.toNat).j⟩) (nth k.F.Q.M p.toNat).j;simp only[a,b];exact⟨rfl,rfl⟩
theorem JS.of(c:bm h E)(H:h.a2=true):JS h (iA h.G h.a5).1 (iA h.G h.a5).2:=by
 obtain⟨N,-,-⟩:=c.job H;obtain⟨J,t,u,n,o⟩:=gV.1 N;unfold iA;split
 case isFalse=>exact⟨c.ker,rfl,λ_=>c.pg,⟨t,u⟩,rfl,⟨n,o⟩,λ_=>tEq.refl _,I9 _,ψ,rfl⟩
 rename_i d;unfold jmay at d;simp only[I0,C0]at d;obtain⟨⟨-,A⟩,-,w,p,O⟩:=d;have fin:∀(k:af)(j:bW),aH k=true->tEq (tbl h) k.F.Q->0<=j.b5/\j.b5<=5->j.d=h.a5.d->0<=j.k/\j.k<=j.d.U.length->h.G.Calls<=k.Calls/\k.Calls<=h.G.Calls+1/\k.a=h.G.a->JS h k j:=
  λk j P B Q R S T=>⟨P,B.1,λ_=>c.pg.tEq B,Q,R,S,λ_=>B,T⟩
 have K:=(aF.1 c.ker).2.2.2.2;unfold jstep;split
 ·obtain⟨g,r⟩:=Ll c.ker A p (m:=1) (.inl rfl)
  obtain⟨y,C⟩:=Ef h.G h.a5.d.b2 1;refine fin _ _ g r ?_ rfl ⟨n,o⟩ ψ
  grind
 split
 ·split
  ·exact fin _ _ c.ker (tEq.refl _) ψ rfl ⟨n,o⟩ ψ
  have l:=kV J (i:=h.a5.k.toNat) ω;refine fin _ _ (UC c.ker p w l) (tEq.refl _) ⟨t,u⟩ rfl ψ ⟨I9 _,by show h.G.Calls<=h.G.Calls+1;omega,rfl⟩
 split
 ·have D:h.a5.d.b2≠h.a5.d.b0:=ψ
  have g:=Yg c.ker A p w D;obtain⟨y,C⟩:=Ul h.G h.a5.d.b2 h.a5.d.b0;cases e:(DJ h.G h.a5.d.b2 h.a5.d.b0).2 with
  | false=>
   rw[CI (by simp)];refine fin _ _ g (tEq.of ?_) ψ rfl ⟨n,o⟩ ψ;rw[XT e];rfl
  | true=>
   rw[CJ rfl];obtain⟨U,m2,m3,-⟩:=bU c.ker p;obtain⟨n1,n2,n3,-⟩:=bU c.ker w;have f:=WB c.ker p e;refine⟨g,(f 0).1,λV=>?_,ψ,rfl,⟨n,o⟩,ψ,by rw[y];omega,by rw[y];omega,C⟩;have W:JI h:=ψ
   obtain⟨a,X,b,Y,M,F,G⟩:=W.sp H;refine c.pg.on c.L X Y G (by grind [JI.sk]) (by rw[M];show(nth h.G.F.Q.M _).o≠0;grind) (by rw[F];show(nth h.G.F.Q.M _).o≠0;grind) (by rw[F];exact U) (f 0).1 λq=>?_
   rw[(f q).2,F,M];rfl
 split
 ·split
  ·rename_i Z
   have l:=kV J (i:=(h.a5.k - 1).toNat) ω;have hk0:=(bU c.ker w).1;obtain⟨g,r⟩:=QQ c.ker (a:=h.a5.d.b0*16+nth h.a5.d.U (h.a5.k - 1).toNat) (v:=0) ω ω;exact fin _ _ g (tEq.of r) ⟨t,u⟩ rfl ψ ⟨I9 _,ψ,rfl⟩
  obtain⟨g,r⟩:=Ll c.ker A p (m:=2) (.inr rfl);obtain⟨y,C⟩:=Ef h.G h.a5.d.b2 2;refine fin _ _ g r ?_ rfl ⟨n,o⟩ ψ
  grind
 exact fin _ _ c.ker (tEq.refl _) ⟨t,u⟩ rfl ⟨n,o⟩ ψ
theorem bm.mStep{h:ac}{E:List Int}(a:bm h E)(b:JI h)(c:h.a2=true):bm (mStep h) E/\JI (mStep h):=by
 have s:=JS.of a c;unfold Ab.mStep;generalize (iA h.G h.a5).1=k at s |-;generalize (iA h.G h.a5).2=j at s |-;cases e:over j with
 | true=>
  refine⟨a.step s.ker s.len (s.pg (.inr b)) ψ (λ_=>by simp[xL]),?_⟩;exact⟨ψ,λh=>by simp at h,ψ,ψ⟩
 | false=>
  simp only[Bool.false_eq_true,if_false];unfold over at e;simp only[v9,not_or]at e;have f:=s.eq e.1;have d:=s.ph;refine⟨a.step s.ker s.len (s.pg (.inr b)) (λ_=>⟨gV.2 ⟨by rw[s.plan];grind [gV,bm.job],s.ph.1,s.ph.2,s.nxt⟩,by rw[s.plan];exact(a.job c).2⟩) ψ,?_⟩;refine⟨ψ,λ_=>?_,λ_=>?_,λ_=>?_⟩
  ·grind [JS.plan,JI.sp]
  ·show qW k.F.Q j.d.b0
   grind [JS.plan,qW.tEq,JI.sk]
  show qW k.F.Q j.d.b2
  grind [JS.plan,qW.tEq,JI.sm]
def yM(k:af)(a:Int):Int:=nth (nth k.F.V.U (ay k.F.Q (a / 16)).j.toNat) (a % 16).toNat
def cellsOf(k:af)(a:Int)(n:Nat):List Int:=(List.range n).map λ(i:Nat)=>yM k (a+i)
theorem rO{n:Int}(h:0<=aU n):1<=n/\n<=8:=by grind [aU]
def Z7{α:Type}[Inhabited α](f:α->Int)(xs:List α):Nat->Int
 | 0=>0
 | i+1=>Z7 f xs i+f (nth xs i)
def bor(n m:Int):Int:=((n.toNat ||| m.toNat:Nat):Int)
def sP(sp:List aA)(p:Int)(b:Int):Nat->Int
 | 0=>b
 | j+1=>if(nth sp j).S=p then bor (sP sp p b j) (nth sp j).a6 else sP sp p b j
def jD(sp:List aA)(ps:List Int)(b:Int):Nat->Int
 | 0=>b
 | k+1=>sP sp (nth ps k) (jD sp ps b k) sp.length
def eH(h:ac)(i:Nat):Int:=jD h.J (aZ h (nth h.J i).S) (nth h.J i).a6 (aZ h (nth h.J i).S).length
def Pt{n:Int}(h1:0<=n/\n<=65535)(h2:0<=m/\m<=65535):0<=bor n m/\bor n m<=65535:=by
 have a:n.toNat ||| m.toNat<2 ^ 16:=Nat.or_lt_two_pow ω ω
 unfold bor;omega
theorem oQ(h:∀s∈sp,bq s=true)(a:j<sp.length):0<=(nth sp j).a6/\(nth sp j).a6<=65535:=by
 have b:=h _ (ax a);have c:=Pp (nth sp j).Z
 grind [bq]
theorem AF{sp:List aA}(h:∀s∈sp,bq s=true){p b:Int}(a:0<=b/\b<=65535):∀j,j<=sp.length->0<=sP sp p b j/\sP sp p b j<=65535
 | 0,_=>a
 | j+1,d=>by
  have c:=AF h (p:=p) a j ω;simp only[sP];split
  ·exact Pt c (oQ h ω)
  exact c
def nK{sp:List aA}(h:∀s∈sp,bq s=true){ps:List Int}{b:Int}(a:0<=b/\b<=65535):∀k,0<=jD sp ps b k/\jD sp ps b k<=65535
 | 0=>a
 | k+1=>by simp only[jD];exact AF h (nK h a k) _ (z5 _)
theorem rR{i:Int}(a:0<=b)(c:0<=i/\i<=15):bo b i=b.toNat.testBit i.toNat:=by grind [bo]
theorem Np{n i:Int}(b:0<=n)(c:0<=m)(a:0<=i/\i<=15):bo (bor n m) i=(bo n i || bo m i):=by
 rw[rR (by unfold bor;omega) a,rR b a,rR c a];unfold bor
 simp_all
theorem LN{sp:List aA}(h:∀s∈sp,bq s=true){p b i:Int}(a:0<=b/\b<=65535)(c:0<=i/\i<=15):∀j,j<=sp.length->(bo (sP sp p b j) i=true↔bo b i=true\/∃q,q<j/\(nth sp q).S=p/\bo (nth sp q).a6 i=true)
 | 0,_=>by simp[sP]
 | j+1,d=>by
  have e:=LN h (p:=p) a c j ω
  grind [AF,oQ,Np,sP]
theorem Ge{sp:List aA}(h:∀s∈sp,bq s=true){ps:List Int}{b i:Int}(d:0<=b/\b<=65535)(f:0<=i/\i<=15):∀k,(bo (jD sp ps b k) i=true↔bo b i=true\/∃u,u<k/\∃q,q<sp.length/\(nth sp q).S=nth ps u/\bo (nth sp q).a6 i=true)
 | 0=>by simp[jD]
 | k+1=>by
  have g:=Ge h (ps:=ps) d f k;have j:=nK h (ps:=ps) d k;simp only[jD];rw[LN h j f _ (z5 _),g];constructor
  ·rintro((e|⟨u,c,a⟩)|⟨q,c,a⟩)
   ·exact .inl e
   ·exact .inr ⟨u,ω,a⟩
   exact .inr ⟨k,ω,q,c,a⟩
  rintro(e|⟨u,c,a⟩)
  ·exact .inl (.inl e)
  by_cases l:u=k
  ·grind
  exact .inl (.inr ⟨u,ω,a⟩)
end Go.Proofs.YtjooeakgbamfnaaGreat.Ab
