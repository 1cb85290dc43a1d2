/- Freeing: the reference's contracts, over a whole heap that is lent. No condition. -/
import Derived.Test.YtifeilefdakapaaGreatDoorKPd
import Derived.Test.YtifeilefdakapaaGreatDoorKPe
import Derived.Deep.LoopGhost
import Derived.Deep.RegionLaw
import Derived.Lib.Walk
import Derived.Sort.WalkB12
import Derived.Lib.SliceRun
import Derived.Shelf.RegionOpenPlain
import Derived.Test.YtifeilefdakapaaGreatDoorKPc
set_option linter.unusedVariables false
set_option linter.defProp false
set_option linter.unusedSimpArgs false
set_option linter.constructorNameAsVariable false
namespace Go.Proofs.YtifeilefdakapaaGreatDoor.Ab
open Go.RowKit
set_option maxRecDepth 20000
set_option maxHeartbeats 4000000
def vG(h:ac)(i:Nat)(a:Int):br (clrS h i a)=(br h).set 6 (.s .own ((h.H.map (ar.enc .own)).set i (ar.enc .own (mZ (nth h.H i) (dR (nth h.H i) a))))):=by
 simp[br,clrS,T5]
theorem qS{α β:Type}{f:α->β}{xs:List α}{i:Nat}{y:β}(a:i<xs.length):((xs.map f).set i y)[i]? = some y:=ψ
def HT{s:ar}(c:aT s=true){a:Int}(b:ew s a):iz s a=(dR s a,0):=by
 unfold iz;rw[CB ((eU c).2 ⟨b.1,b.2.1⟩),b.2.2.1];rfl
theorem mS(h:ac)(E:List Int)(a:Int)(c:aR h (a::E)):aP Tryz.prog 132 false [.ptr (br h),.val none [I a]] [.ptr (br (freeA h a)),.val none [I a]] (.tup []) []:=by
 obtain⟨j,n,t⟩:=c.at (c.hin a ψ);have d:=(c.hin a ψ).bd c;have B:=c.lens;have C:=B.spans;have e:=c.L.sok _ (am j);have k:=gZ h (a / 16) ω;rw[t]at k;unfold freeA;generalize xR h a=i at j n k e;have b:=ah j;have o:=tz (nth h.H i) a ⟨ω,ω⟩;rw[HT e n]at o;have w:=xH (nth h.H i) (dR (nth h.H i) a) e n.2.2.2;have D:=c.give j n;have l:=tK (clrS h i a) (nth h.H i).Q;rw[show gW (clrS h i a) (nth h.H i).Q=gW h (nth h.H i).Q from rfl]at l;have p:=zQ (clrS h i a) E i D (by grind [clrS]);have r:=bz (clrS h i a);rw[vG]at p r;have g:((h.H.map (ar.enc .own)).set i (ar.enc .own (mZ (nth h.H i) (dR (nth h.H i) a))))[i]? = some (ar.enc .own (mZ (nth h.H i) (dR (nth h.H i) a))):=qS j;unfold freeS;by_cases y:(mZ (nth h.H i) (dR (nth h.H i) a)).a6=0
 ·cases F:gW h (nth h.H i).Q<;>rw[F]at l
  ·rw[CB ⟨y,rfl⟩]
   refine fM 68 [(193,[2,0])] [(2,274,[26,27,28,29,30,31,32,33,34,35,36,37,38,39,25,40,41,42,0,1,2,3,4,5,6,7,8,9,10,11,12,13,14,15,16,17,18,1016])] [(0,0),(0,0)] Tryz.func132 rfl (λu q=>?_) (.inr trivial)
   repeat'(first|refine gB ?_|(conv=>whnf);first|with_reducible refine CK ((U0 _ (tdiv16 d.1)).trans (ed ω ω)) ?_|refine C8 ?_|refine CM (by decide) ?_|refine CH (k) ⟨⟨rfl,bz h⟩,⟨rfl,rfl⟩,trivial⟩ ?_|refine CA (aa b) ?_|refine CA g ?_|refine CG rfl (aa b) rfl ?_|refine CG rfl g rfl ?_|refine C7 (o) ?_|refine C7 (w) ?_|refine C8 ?_|refine CO rfl rfl (aa b) rfl (Z0 rfl) rfl ?_|refine CH (l) ⟨r,⟨rfl,rfl⟩,trivial⟩ ?_|refine CJ (p) (.inl rfl) ?_)
   refine CF rfl rfl ?_;exact wB
  rw[C9 ψ];rw[vG];refine fM 68 [(193,[2,0])] [(2,274,[26,27,28,29,30,31,32,33,34,35,36,37,38,39,25,40,41,42,0,1,2,3,4,5,6,7,8,9,10,11,12,13,14,15,16,17,18,1016])] [(0,0),(0,0)] Tryz.func132 rfl (λu q=>?_) (.inr trivial)
  repeat'(first|refine gB ?_|(conv=>whnf);first|with_reducible refine CK ((U0 _ (tdiv16 d.1)).trans (ed ω ω)) ?_|refine C8 ?_|refine CM (by decide) ?_|refine CH (k) ⟨⟨rfl,bz h⟩,⟨rfl,rfl⟩,trivial⟩ ?_|refine CA (aa b) ?_|refine CA g ?_|refine CG rfl (aa b) rfl ?_|refine CG rfl g rfl ?_|refine C7 (o) ?_|refine C7 (w) ?_|refine C8 ?_|refine CO rfl rfl (aa b) rfl (Z0 rfl) rfl ?_|refine CH (l) ⟨r,⟨rfl,rfl⟩,trivial⟩ ?_|refine CJ (p) (.inl rfl) ?_)
  refine CF rfl rfl ?_;exact wB
 rw[C9 λx=>y x.1];rw[vG];refine fM 68 [(193,[2,0])] [(2,274,[26,27,28,29,30,31,32,33,34,35,36,37,38,39,25,40,41,42,0,1,2,3,4,5,6,7,8,9,10,11,12,13,14,15,16,17,18,1016])] [(0,0),(0,0)] Tryz.func132 rfl (λu q=>?_) (.inr trivial)
 repeat'(first|refine gB ?_|(conv=>whnf);first|with_reducible refine CK ((U0 _ (tdiv16 d.1)).trans (ed ω ω)) ?_|refine C8 ?_|refine CM (by decide) ?_|refine CH (k) ⟨⟨rfl,bz h⟩,⟨rfl,rfl⟩,trivial⟩ ?_|refine CA (aa b) ?_|refine CA g ?_|refine CG rfl (aa b) rfl ?_|refine CG rfl g rfl ?_|refine C7 (o) ?_|refine C7 (w) ?_|refine C8 ?_|refine CO rfl rfl (aa b) rfl (Z0 rfl) rfl ?_|refine CH (l) ⟨r,⟨rfl,rfl⟩,trivial⟩ ?_|refine CJ (p) (.inl rfl) ?_)
 refine CF rfl rfl ?_;exact wB
def Ko(h:ac)(t:Nat)(c:aA):br {h with R:=h.R.set t c} = (br h).set 9 (.s .own ((h.R.map (aA.enc .own)).set t (aA.enc .own c))):=by
 simp[br,T5]
theorem nk(h:ac)(E:List Int)(t:Nat)(a:Int)(b:aR h (a::E))(w:t<h.R.length):aP Tryz.prog 182 false [.ptr (br h),.val none [I (t:Nat)],.val none [I a]] [.ptr (br (recyc t h a)),.val none [I (t:Nat)],.val none [I a]] (.tup []) []:=by
 obtain⟨o,y,p⟩:=b.at (b.hin a ψ);have g:=(b.hin a ψ).bd b;have B:=b.lens;have C:=B.spans;have j:=aB (b.L.sok _ (am o));have r:=b.cach _ (am w);have l:=gZ h (a / 16) ω;rw[p]at l;have D:=mS h E a b;unfold recyc;generalize xR h a=i at o y l j;have n:=ah o;have k:=ah w;have d:=xq (nth h.R t) (nth h.H i).Y.toNat a r ω;rw[Int.toNat_of_nonneg j.2.2.1]at d;unfold Gt at d;cases e:cput (nth h.R t) (nth h.H i).Y a with
 | none=>
  rw[e]at d;refine fM 46 [(132,[2,0])] [(1,277,[16,17,18,19,20,21,22,23,24,25,26,27,28,29,30,31,32,15,33,34,7,0,1,2,3,4,5,6,7,8,9,10,11,12,13,14,15,16,17,18,19,20,21,1019,22]),(3,6,[36,37,38,39,40,41])] [(0,0),(0,0),(0,0)] Tryz.func182 rfl (λu q=>?_) (.inr trivial)
  repeat'(first|refine gP ?_|(conv=>whnf);first|with_reducible refine CK ((U0 _ (tdiv16 g.1)).trans (ed ω ω)) ?_|refine C8 ?_|refine CM (by decide) ?_|refine CH (l) ⟨⟨rfl,bz h⟩,⟨rfl,rfl⟩,trivial⟩ ?_|refine CA (aa n) ?_|refine CA (aa k) ?_|refine CG rfl (aa n) rfl ?_|refine CG rfl (aa k) rfl ?_|refine CH (d) ⟨⟨rfl,aA.enc_fz _⟩,⟨rfl,rfl⟩,⟨rfl,rfl⟩,trivial⟩ ?_|refine C8 ?_|refine CJ (D) (.inl rfl) ?_)
  refine CF rfl rfl ?_;exact wB
 | some c=>
  rw[e]at d;simp only;rw[Ko];refine fM 46 [(132,[2,0])] [(1,277,[16,17,18,19,20,21,22,23,24,25,26,27,28,29,30,31,32,15,33,34,7,0,1,2,3,4,5,6,7,8,9,10,11,12,13,14,15,16,17,18,19,20,21,1019,22]),(3,6,[36,37,38,39,40,41])] [(0,0),(0,0),(0,0)] Tryz.func182 rfl (λu q=>?_) (.inr trivial)
  repeat'(first|refine gP ?_|(conv=>whnf);first|with_reducible refine CK ((U0 _ (tdiv16 g.1)).trans (ed ω ω)) ?_|refine C8 ?_|refine CM (by decide) ?_|refine CH (l) ⟨⟨rfl,bz h⟩,⟨rfl,rfl⟩,trivial⟩ ?_|refine CA (aa n) ?_|refine CA (aa k) ?_|refine CG rfl (aa n) rfl ?_|refine CG rfl (aa k) rfl ?_|refine CH (d) ⟨⟨rfl,aA.enc_fz _⟩,⟨rfl,rfl⟩,⟨rfl,rfl⟩,trivial⟩ ?_|refine C8 ?_|refine CO rfl rfl (aa k) rfl (Z0 rfl) rfl ?_)
  refine CF rfl rfl ?_;exact wB
theorem pz(h:ac)(i:Nat)(d:aR h [])(o:i<h.O.length)(t:aJ (nth h.O i).d<0):aP Tryz.prog 176 false [.ptr (br h),.val none [I (i:Nat)]] [.ptr (br (freeL h i (uf h (nth h.O i).X))),.val none [I (i:Nat)]] (.tup []) []:=by
 obtain⟨l,w,y,-⟩:=(eY d (am o)).1 t;obtain⟨p,B,c,-⟩:=uH w y;generalize uf h (nth h.O i).X=g at p B c;have a:=d.lens;have C:=a.larges;have D:=a.objs;have b:=ah o;have N:=aN (d.L.lok _ (am p));have E:dC h<=32:=a.ents;refine fM 89 [(173,[2,0]),(180,[2,0])] [(4,11,[23,24,25,26,27,28,29,30,31,32,33]),(8,7,[41,42,43,44,45,46,47]),(9,273,[50,51,52,53,54,55,56,57,58,59,60,62,49,63,64,65,66,0,1,2,3,4,5,6,7,8,9,10,11,1000,1001,1002,1003,1004,1005,1006,12,13,14,15,16,17,18,1015]),(10,273,[67,68,69,70,71,72,73,74,76,77,78,79,80,81,82,84,85,0,1,2,3,4,5,6,7,9,10,11,12,13,14,15,8,1000,1009,1010,1011,1012,1013,1014,1015,16,1000,17,18,19]),(1048586,0,[7])] [(0,0),(0,0)] Tryz.func176 rfl (λu q=>?_) (.inr trivial)
 repeat'(first|refine gP ?_|(conv=>whnf);first|refine C8 ?_)
 (conv=>whnf)
 refine CE (ι:=Nat) (λk=>[(0,.F .box (br h)),(1,.F .one [I ((i:Nat):Int)]),(4,.F .one [I ((k:Nat):Int)])]) (λk=>k<=g) (λk=>g - k) (0) ?_ (T0 _) λk O=>?_
 ·exact wB
 have j:=ah (xs:=h.J) (i:=k) ω;have F:=aN (d.L.lok _ (am (xs:=h.J) (i:=k) ω));have G:0<=(nth h.O i).X/\(nth h.O i).X<=512:=ω
 by_cases e:k=g
 ·subst e
  repeat'(first|refine gB ?_|(conv=>whnf);first|with_reducible refine CA (aa j) ?_|refine C8 ?_|refine CG rfl (aa j) rfl ?_|refine CG rfl (aa b) rfl ?_|refine CA (aa b) ?_)
  (conv=>whnf)
  refine CE (ι:=Nat) (λn=>[(0,.F .box (br {h with M:=dQ h.M (nth h.J k).Q n})),(1,.F .one [I ((i:Nat):Int)]),(4,.F .one [I ((k:Nat):Int)]),(5,.F .box (ay.enc .own (nth h.J k))),(6,.F .one [I ((n:Nat):Int)])]) (λn=>n<=(nth h.J k).a3.toNat) (λn=>(nth h.J k).a3.toNat - n) (0) ?_ (T0 _) λn P=>?_
  ·exact wB
  by_cases Q:n<(nth h.J k).a3.toNat
  ·have H:=mb {h with M:=dQ h.M (nth h.J k).Q n} ((nth h.J k).Q+n) (kT d.ker _ _)
   repeat'(first|refine gE ?_|(conv=>whnf);first|refine C8 ?_|refine CJ (H) (.inl rfl) ?_|refine C8 ?_)
   ((conv=>whnf);refine CD (n+1) ω ω ?_;(exact wB))
  obtain rfl:n=(nth h.J k).a3.toNat:=ω
  have r:=gt {h with M:=dQ h.M (nth h.J k).Q (nth h.J k).a3.toNat};rw[show dC {h with M:=dQ h.M (nth h.J k).Q (nth h.J k).a3.toNat} = dC h from(i7 _ _ _).1]at r;have J:=lE (dC h:Nat) h.o ⟨(nth h.J k).Q,(nth h.J k).a3⟩ ω ⟨by grind [oy.free],λ_ _=>trivial⟩;have K:=mX {h with M:=dQ h.M (nth h.J k).Q (nth h.J k).a3.toNat,J:=dele h.J k,o:=(d2 (dC h) h.o ⟨(nth h.J k).Q,(nth h.J k).a3⟩).getD h.o} i o ψ
  repeat'(first|refine gE ?_|(conv=>whnf);first|refine C8 ?_|refine F6.mk rfl (yY h.J) rfl ?_|refine CU k rfl (by rw[X0];omega) (aM λ_=>rfl) V3 ?_|refine Sl.suf (k+1) rfl (by rw[X0];omega) (aM λ_=>rfl) W3 ?_|refine CT (λ_=>rfl) (λ_=>rfl) (by rw[O1];omega) (by decide) ?_|refine Ap.dele (λ_=>rfl) (λ_=>rfl) ω (by decide) ?_|refine CR (λ_=>rfl) (λ_=>rfl) (by rw[O1];omega) (by decide) ?_|refine C8 ?_|refine CH (r) ⟨bz _,trivial⟩ ?_|refine CH (J) ⟨⟨rfl,rfl⟩,⟨rfl,dI h.o⟩,⟨rfl,rfl⟩,trivial⟩ ?_|refine CJ (K) (.inl rfl) ?_)
  refine CF rfl rfl ?_;exact wB
 have M:=c k ω
 repeat'(first|refine gB ?_|(conv=>whnf);first|with_reducible refine CA (aa j) ?_|refine C8 ?_|refine CG rfl (aa j) rfl ?_|refine CG rfl (aa b) rfl ?_|refine CA (aa b) ?_)
 ((conv=>whnf);refine CD (k+1) ω ω ?_;(exact wB))
def Pj(q:bI)(x:aK):List C:=bI.enc .own (Hd q x)++cF .own (Am q x)
def MB(q:bI)(x:aK):gn (Pj q x):=bc (bI.enc_fr _) (tl _)
def z3(q:bI)(a:aK)(K:q.y.length<=4096)(e:eP q=true)(r:0<=a.Y/\a.Y<=3/\0<=a.X/\0<=a.c0)(t:∀y∈q.y,y.c0<=a.c0)(u:∀y∈q.y,y.X≠a.X) :
  ao Tryz.prog 181 false [.val (some 2) (bI.enc .U q),.val (some 3) (aK.enc .U a)] (.tup [some 2,none]) (Pj q a):=by
 have b:bI.sml q:=⟨ω,λ_ _=>trivial⟩
 have w:=rq q b;have l:=om q b;rw[e]at l;have n:=yH a;rw[O0 r]at n;have o:=ru q a.X b;rw[show q.y.any (dL a.X)=false by rw[List.any_eq_false];intro y B;unfold dL;simpa using u y B]at o;have C:=(jv.1 e).2.2.2;have g:=MB q a;have L:(aK.mk a.X a.Y a.c0)=a:=rfl;have c:=BC q.c2 (q.y++[a]);simp only[X2,List.length_singleton]at c;by_cases E:q.y.length=0
 all_goals
  try have h:(nth q.y (q.y.length - 1)).c0<=a.c0:=t _ (am ω)
  try have j:=ah (xs:=q.y) (i:=q.y.length - 1) ω
  try have d:q.y[((q.y.length:Int) - 1).toNat]? = some (nth q.y (q.y.length - 1)):=by rw[show((q.y.length:Int) - 1).toNat=q.y.length - 1 by omega];exact j
  refine fO 74 [(3,27,[15,16,17,18,19,20,21,22,23,24,25,26,27,28,29,30,31,32,33,34,35,36,37,38,39,40,41]),(7,6,[52,53,54,55,56,57]),(9,268,[61,62,63,64,65,66,67,69,70,71,72,73,0,1,2,3,4,5,6,8,9,10,11,12,7,1008,1009,1010,1011,1012,13,14])] Tryz.func181 rfl ?_ (.inr g)
  repeat'(first|refine gE ?_|(conv=>whnf);first|with_reducible refine Bf.D (λe=>?_) (λe=>?_)|refine C8 ?_|refine C7 (w) ?_|refine C7 (l) ?_|refine C7 (n) ?_|refine C7 (o) ?_|refine CL ω (aa d) ?_|refine Ap.sm (aM λ_=>rfl) rfl (by simp;omega) (by decide) (im (aK.enc .own) q.y a) ?_)
  (conv=>whnf)
  refine Lp.fz 8 (ι:=Nat) (λk=>[(2,.F .box (bI.enc .U q)),(4,.F .box [I 0,.z]),(8,.F .one (cF .U (q.y++[a]))),(9,.F .one [I (k:Nat)])]) (λk=>k<=nv q.c2 (q.y++[a])) (λk=>nv q.c2 (q.y++[a]) - k) 0 ?_ (T0 _) λk M=>?_
  ·(repeat'(first|exact trivial|rfl|exact CI rfl (show Kg (d8 (cF .own (q.y++[a]))) (cF .U (q.y++[a])) by rw[Df];exact lS _)|refine CI ?_ ?_))
  have N:(q.y++[a]).length=q.y.length+1:=by simp
  have F:((q.y++[a]).drop k).length<=5000:=by rw[Z2];omega
  have G:((q.y++[a]).take k).length<=5000:=by rw[O1];omega
  have p:=ox ((q.y++[a]).drop k) ⟨ω,λ_ _=>trivial⟩;by_cases H:k<nv q.c2 (q.y++[a])
  ·have J:q.c2<quarCells ((q.y++[a]).drop k) ((q.y++[a]).drop k).length:=yz H
   repeat'(first|refine gE ?_|(conv=>whnf);first|refine C8 ?_|refine Sl.suf k rfl (by rw[X0];omega) (aM λ_=>rfl) W3 ?_|refine C7 (p) ?_|refine C8 ?_)
   ((conv=>whnf);refine CD (k+1) ω ω ?_;(exact wB))
  obtain rfl:k=nv q.c2 (q.y++[a]):=ω
  have J:quarCells ((q.y++[a]).drop (nv q.c2 (q.y++[a]))) ((q.y++[a]).drop (nv q.c2 (q.y++[a]))).length<=q.c2:=AT C.1 _
  repeat'(first|refine gE ?_|(conv=>whnf);first|refine C8 ?_|refine Sl.suf (nv q.c2 (q.y++[a])) rfl (by rw[X0];omega) (aM λ_=>rfl) W3 ?_|refine CU (nv q.c2 (q.y++[a])) rfl (by rw[X0];omega) (aM λ_=>rfl) V3 ?_|refine C7 (p) ?_|refine C8 ?_|refine CT (λ_=>rfl) (λ_=>rfl) ω (by decide) ?_|refine CR (λ_=>rfl) (λ_=>rfl) ω (by decide) ?_)
  rfl
def po{z:Int}(h:0<=z/\z<512):IntKind.i64.wrap (z.tdiv 16)=z / 16:=(U0 _ (tdiv16 h.1)).trans (ed ω ω)
def sP{h:ac}{E:List Int}(a:aR h E){o:bF}(b:o∈h.O):0<=o.X/\o.X<512:=by
 rcases a.oow o b with⟨s,c,⟨f,g,-⟩,-⟩|⟨l,d,e,-⟩
 ·have:=aB (a.L.sok s c);omega
 have:=aN (a.L.lok l d);omega
theorem Lu{k:Int}(h:0<=k/\k<=3):1<=csz k/\csz k<=8:=by grind [bW]
structure Q4(h:ac)(o:bF):Prop where
 cl:0<=aJ o.d/\aJ o.d<=3
 fr:0<=(au h.M.G.S (o.X / 16)).j/\(au h.M.G.S (o.X / 16)).j<h.M.G.V.W.length
 fit:o.X % 16+csz (aJ o.d)<=16
 row:(nth h.M.G.V.W (fJ h.M o.X)).length=16
theorem Q4.of{h:ac}{E:List Int}(a:aR h E){o:bF}(i:o∈h.O)(k:¬aJ o.d<0):Q4 h o:=by
 obtain⟨⟨s,j,b,r⟩,t⟩:=(eY a i).2 k;have l:=aB (a.L.sok s j);have n:=sP a i;have u:s.Q=o.X / 16:=by have w:=b.1;have y:=b.2.1;omega
 have c:(o.X / 16).toNat<(tbl h).K.length:=by have:=a.pg.bnd _ (d6 (la:=h.J) j);omega
 have d:(((o.X / 16).toNat:Nat):Int)=o.X / 16:=ω
 have A:=(a.pg.own _ c).2 (by grind [d6]);have e:(au h.M.G.S (o.X / 16)).w≠0:=by grind [lh,tbl]
 obtain⟨-,-,-,f,p⟩:=cC a.ker e;have q:=(bg.1 (aD.1 a.ker).2.1).2.2.1;have g:fJ h.M o.X<h.M.G.V.W.length:=by unfold fJ;omega
 refine⟨ω,⟨f,ω⟩,?_,a.lens.row _ (am g)⟩;have B:=b.2.2.1
 grind [bW]
theorem G1(h:ac)(a:Int)(b:fJ h.M a<h.M.G.V.W.length):({h with M:=fG h.M a 0} : ac)=h:=by
 have e:h.M.G.V.W.set (fJ h.M a) (nth h.M.G.V.W (fJ h.M a))=h.M.G.V.W:=by
  refine List.ext_getElem? λi=>?_
  grind [ah]
 unfold fG lJ;rw[e]
def D0(h:ac)(a:Int)(k:Nat)(v:Int)(_:0<=a):br {h with M:=fG h.M a (k+1)} = (br {h with M:=fG h.M a k}).set 0 (.s .own (((fG h.M a k).G.V.W.map (aF .own)).set (au h.M.G.S (a / 16)).j.toNat ((aF .own (lJ (nth h.M.G.V.W (fJ h.M a)) (a % 16).toNat k)).set 0 (.s .own (((lJ (nth h.M.G.V.W (fJ h.M a)) (a % 16).toNat k).map (rI .own)).set (a % 16+k).toNat (splice (rI .own v) 0 [I 0])))))):=by
 have e:(a % 16+k).toNat=(a % 16).toNat+k:=ω
 rw[e];simp[br,fG,T5,lJ,aF,splice,fJ]
 rfl
theorem Dm(t:Nat)(h:ac)(xs:List aK)(k:Nat)(a:k<xs.length):recycs t h ((xs.take (k+1)).map (·.X))=recyc t (recycs t h ((xs.take k).map (·.X))) (nth xs k).X:=by grind [Y4,ah,recycs]
theorem Eu(h:ac)(o:bF)(t:Nat)(a:aR h [])(N:o∈h.O)(ht:o.a4=t)(hlc:h.R.length<=4):aP Tryz.prog 121 false [.ptr (br h),.val none [I (t:Nat)],.val none [I o.X]] [.ptr (br (freeOb h t (pj h o.X)).1),.val none [I (t:Nat)],.val none [I o.X]] .one [I (freeOb h t (pj h o.X)).2]:=by
 obtain⟨g,w,B⟩:=a.objAt N;have b:=sP a N;have hon:=a.onu o N;have C:=a.lens;have hno:=C.objs;have O:t<h.R.length:=ω
 have L:=aE (t:Nat) 0 (h.R.length - 1:Int);rw[O0 ω]at L;have E:=pK h o.X ω;rw[B]at E;generalize pj h o.X=i at g w E;subst w;have p:=ah g;have P:=gd (nth h.O i).d;unfold freeOb;have Q:=bE a.ker;have X:=cX h.M.G.S ((nth h.O i).X / 16) Q.1.2;by_cases r:aJ (nth h.O i).d<0
 ·rw[CB r]
  have c3:=pz h i a g r;refine fM 148 [(176,[2,0]),(180,[2,0]),(182,[2,0,0]),(175,[2,0])] [(15,269,[68,69,70,71,72,73,74,75,77,67,78,79,11,0,1,2,3,4,5,6,7,13,8,1000,1001,1002,1003,1004,1013,9,10,11,12,14,1012,15]),(22,15,[92,93,94,95,96,97,98,99,100,101,102,103,104,105,106]),(25,271,[116,117,118,119,120,121,122,123,124,125,127,115,128,129,14,0,1,2,3,4,5,6,7,8,9,15,10,1000,1001,1002,1003,1015,11,12,13,14,16,1014,17])] [(0,0),(0,0),(0,0)] Tryz.func121 rfl (λu q=>?_)
  repeat'(first|refine gE ?_|(conv=>whnf);first|with_reducible refine Bf.D (λj=>?_) (λj=>?_)|refine C8 ?_|refine C7 (L) ?_|refine CH (E) ⟨⟨rfl,bz h⟩,⟨rfl,rfl⟩,trivial⟩ ?_|refine CA (aa p) ?_|refine CG rfl (aa p) rfl ?_|refine C7 (P) ?_|refine CJ (c3) (.inl rfl) ?_)
  refine CF rfl rfl ?_;exact wB
 rw[C9 r];obtain⟨R,s2,s3,s4⟩:=Q4.of a (am g) r;by_cases M:(au (tbl h) ((nth h.O i).X / 16)).w=1
 ·rw[CB M]
  unfold tbl at M;refine fM 148 [(176,[2,0]),(180,[2,0]),(182,[2,0,0]),(175,[2,0])] [(15,269,[68,69,70,71,72,73,74,75,77,67,78,79,11,0,1,2,3,4,5,6,7,13,8,1000,1001,1002,1003,1004,1013,9,10,11,12,14,1012,15]),(22,15,[92,93,94,95,96,97,98,99,100,101,102,103,104,105,106]),(25,271,[116,117,118,119,120,121,122,123,124,125,127,115,128,129,14,0,1,2,3,4,5,6,7,8,9,15,10,1000,1001,1002,1003,1015,11,12,13,14,16,1014,17])] [(0,0),(0,0),(0,0)] Tryz.func121 rfl (λu q=>?_)
  repeat'(first|refine gB ?_|(conv=>whnf);first|with_reducible refine Bf.D (λj=>?_) (λj=>?_)|refine C8 ?_|refine CM (by decide) ?_|refine CK (po b) ?_|refine C7 (L) ?_|refine CH (E) ⟨⟨rfl,bz h⟩,⟨rfl,rfl⟩,trivial⟩ ?_|refine CA (aa p) ?_|refine CG rfl (aa p) rfl ?_|refine C7 (P) ?_|refine CH (X) ⟨⟨rfl,CX _⟩,⟨rfl,rfl⟩,trivial⟩ ?_)
  refine CF rfl rfl ?_;exact wB
 rw[C9 M];unfold tbl at M;have F:fJ h.M (nth h.O i).X<h.M.G.V.W.length:=by unfold fJ;omega
 have hcz:=Lu R;have l:=a.inQuar g r;have G:=bV (aJ (nth h.O i).d);refine fM 148 [(176,[2,0]),(180,[2,0]),(182,[2,0,0]),(175,[2,0])] [(15,269,[68,69,70,71,72,73,74,75,77,67,78,79,11,0,1,2,3,4,5,6,7,13,8,1000,1001,1002,1003,1004,1013,9,10,11,12,14,1012,15]),(22,15,[92,93,94,95,96,97,98,99,100,101,102,103,104,105,106]),(25,271,[116,117,118,119,120,121,122,123,124,125,127,115,128,129,14,0,1,2,3,4,5,6,7,8,9,15,10,1000,1001,1002,1003,1015,11,12,13,14,16,1014,17])] [(0,0),(0,0),(0,0)] Tryz.func121 rfl (λu q=>?_)
 repeat'(first|refine gB ?_|(conv=>whnf);first|with_reducible refine Bf.D (λj=>?_) (λj=>?_)|refine C8 ?_|refine CM (by decide) ?_|refine CK (po b) ?_|refine C7 (L) ?_|refine CH (E) ⟨⟨rfl,bz h⟩,⟨rfl,rfl⟩,trivial⟩ ?_|refine CA (aa p) ?_|refine CG rfl (aa p) rfl ?_|refine C7 (P) ?_|refine CH (X) ⟨⟨rfl,CX _⟩,⟨rfl,rfl⟩,trivial⟩ ?_)
 rw[show br h=br {h with M:=fG h.M (nth h.O i).X 0} by rw[G1 h _ F]]
 (conv=>whnf)
 refine CE (ι:=Nat) (λk=>[(0,.F .box (br {h with M:=fG h.M (nth h.O i).X k})),(1,.F .one [I ((t:Nat):Int)]),(2,.F .one [I ((nth h.O i).X)]),(7,.F .one [I ((i:Nat):Int)]),(8,.F .box (bF.enc .own (nth h.O i))),(9,.F .one [I (aJ (nth h.O i).d)]),(10,.F .box (bi.enc .own (au h.M.G.S ((nth h.O i).X / 16)))),(13,.F .one [I ((k:Nat):Int)])]) (λk=>k<=(csz (aJ (nth h.O i).d)).toNat) (λk=>(csz (aJ (nth h.O i).d)).toNat - k) (0) ?_ (T0 _) λk hk=>?_
 ·exact wB
 have Y:IntKind.i64.wrap 0=0:=rfl;have S:(nth h.O i).X.tmod 16=(nth h.O i).X % 16:=fQ b.1;have n:(fG h.M (nth h.O i).X k).G.V.W[(au h.M.G.S ((nth h.O i).X / 16)).j.toNat]? = some (lJ (nth h.M.G.V.W (fJ h.M (nth h.O i).X)) ((nth h.O i).X % 16).toNat k):=I3 F;by_cases T:k<(csz (aJ (nth h.O i).d)).toNat
 ·have H:=ah (xs:=lJ (nth h.M.G.V.W (fJ h.M (nth h.O i).X)) ((nth h.O i).X % 16).toNat k) (i:=((nth h.O i).X % 16+k).toNat) (by grind [oN])
  repeat'(first|refine gE ?_|(conv=>whnf);first|refine C8 ?_|refine CM (by decide) ?_|refine CS S ?_|refine C7 (G) ?_|refine CL s2.1 (aa n) ?_|refine CG rfl (aa n) rfl ?_|refine CL ω (aa H) ?_|refine Pu.two rfl rfl (aa n) rfl rfl rfl (aa H) rfl (U2 _) (D0 h _ k _ b.1) ?_)
  ((conv=>whnf);refine CD (k+1) ω ω ?_;(exact wB))
 obtain rfl:k=(csz (aJ (nth h.O i).d)).toNat:=ω
 have c5:=mX {h with M:=fG h.M (nth h.O i).X (csz (aJ (nth h.O i).d)).toNat} i g ψ;have d:=a.nums;unfold cr at d;rw[C0]at d;have J:=(a.dropO g (iB.any (c:=aJ (nth h.O i).d) (by obtain⟨⟨s,hs,k1,k2⟩,-⟩:=(eY a (am g)).2 r;exact⟨s,hs,k1,.inr k2⟩))).nd;rw[List.cons_append,List.nil_append]at J;have Z:=z3 h.a0 (kZ h (nth h.O i)) (by grind [oy.quar]) a.quar ⟨R.1,R.2,b.1,d.2.2.1⟩ (λy hy=>a.snc y hy) (λy hy e=>(List.nodup_cons.1 J).1 (by rw[show(nth h.O i).X=y.X from e.symm];grind [holders]));unfold Pj at Z;have U:(Am h.a0 (kZ h (nth h.O i))).length<=513:=by grind [oy.quar,Am]
 repeat'(first|refine gB ?_|(conv=>whnf);first|with_reducible refine Bf.D (λj=>?_) (λj=>?_)|refine C8 ?_|refine C7 (G) ?_|refine CJ (c5) (.inl rfl) ?_|refine CH (Z) ⟨⟨rfl,bI.enc_fz h.a0⟩,⟨rfl,rfl⟩,trivial⟩ ?_|refine C8 ?_)
 have V:Lt h t i=recycs t (inQuar h i) ((Am h.a0 (kZ h (nth h.O i))).map (·.X)):=rfl;simp only;rw[V];have hqn:(inQuar h i).R.length=h.R.length:=rfl;generalize Am h.a0 (kZ h (nth h.O i))=out at l U
 (conv=>whnf)
 refine CE (ι:=Nat) (λk=>[(0,.F .box (br (recycs t (inQuar h i) ((out.take k).map (·.X))))),(1,.F .one [I ((t:Nat):Int)]),(15,.F .one (cF .own out)),(16,.F .one [I ((k:Nat):Int)])]) (λk=>k<=out.length) (λk=>out.length - k) (0) ?_ (T0 _) λk hk=>?_
 ·exact wB
 by_cases T:k<out.length
 ·have K:=ah T
  have hsp:out.map (·.X)=(out.take k).map (·.X)++(nth out k).X::(out.drop (k+1)).map (·.X):=by grind [List.take_append_drop,jn]
  have W:aR (recycs t (inQuar h i) ((out.take k).map (·.X))) ((nth out k).X::(out.drop (k+1)).map (·.X)):=aR.recycs ψ O;have c7:=nk _ _ t _ W (by grind [jl])
  repeat'(first|refine gE ?_|(conv=>whnf);first|refine C8 ?_|refine CA (aa K) ?_|refine CG rfl (aa K) rfl ?_|refine CJ (c7) (.inl rfl) ?_)
  ((conv=>whnf);refine CD (k+1) ω ω ?_)
  rw[Dm t _ out k T];exact wB
 obtain rfl:k=out.length:=ω
 rw[U4]
 repeat'(first|refine gE ?_|(conv=>whnf);first|refine C8 ?_)
 refine CF rfl rfl ?_;exact wB
set_option maxRecDepth 100000
theorem cJ(c:C):Nj c c:=(lS [c]).1
theorem nM{c a:C}(h:a=c):Nj c a:=by grind [cJ]
def HS(c:aA)(k:Nat):aA:=⟨c.Z.set k []⟩
theorem MN(c:aA)(k:Nat):aA.enc .own (HS c k)=[.s .own ((c.Z.map (aF .own)).set k (aF .own []))]:=by grind [T5,aA.enc,HS]
theorem Lv(xs:List Int):([]:List Int).map (rI .U)=(xs.map (rI .U)).drop xs.length:=by simp_all
theorem KS(xs:List Int):xs.map (rI .U)=(xs.map (rI .U)).take xs.length:=by grind [X0]
def QC(c:aA)(k:Nat):List C:=aA.enc .own (HS c k)++aF .own (nth c.Z k)
def PL(c:aA)(k:Nat):gn (QC c k):=bc (aA.enc_fr _) (bN _)
def tZ(c:aA)(k:Nat)(d:bj c=true)(p:k<=3):ao Tryz.prog 189 false [.val (some 1) (aA.enc .U c),.val none [I (k:Nat)],.val none [I 8]] (.tup [some 1,none]) (QC c k):=by
 obtain⟨q,e⟩:=ee d;have g:aA.sml c:=⟨ω,λl j=>by have:=e l j;show l.length<=1048576;omega⟩
 have h:=uZ c k g;rw[d,O0 ω]at h;have n:=ij c g;have a:=sD (c:=c) (k:=k) ω;have o:=e _ (am (xs:=c.Z) (i:=k) ω);have b:=PL c k;unfold QC at b |-;rw[MN]at b |-;refine fO 52 [(5,268,[29,30,31,32,33,34,35,36,37,38,39,41,0,1,2,3,4,5,6,7,8,9,10,11,1000,1001,1002,12,13]),(6,265,[42,43,44,45,46,47,48,49,50,0,1,2,3,4,5,6,7,8,9,1000,10,11])] Tryz.func189 rfl ?_ (.inr b)
 repeat'(first|refine gP ?_|(conv=>whnf);first|with_reducible refine CA (aa a) ?_|refine C8 ?_|refine CG rfl (aa a) rfl ?_|refine C7 (h) ?_|refine C7 (n) ?_|refine CS (z:=((nth c.Z k).length:Int)) (by simp;omega) ?_|refine Sl.suf (nth c.Z k).length rfl (by rw[X0];omega) (aM λ_=>rfl) (Lv _) ?_|refine CU (nth c.Z k).length rfl (by rw[X0];omega) (aM λ_=>rfl) (KS _) ?_|refine C8 ?_|refine CT (λ_=>rfl) (λ_=>rfl) (by simp) (by decide) ?_|refine CR (λ_=>rfl) (λ_=>rfl) (by simp) (by decide) ?_|refine CT (λ_=>rfl) (λ_=>rfl) ω (by decide) ?_|refine CR (λ_=>rfl) (λ_=>rfl) ω (by decide) ?_|refine CO rfl rfl (aa a) rfl (Z0 rfl) rfl ?_)
 rfl
theorem nU{k:Int} : ∀{l s s2 b:List Int},(∀x∈s2,x∈s)->qY k s l=some b->(∀x∈s,x∈b)/\∃c,qY k s2 l=some c/\∀x∈c,x∈b
 | [],s,s2,b,h,e=>by grind [qY]
 | a::l,s,s2,b,h,e=>by
  simp only[qY]at e |-;split at e
  ·rename_i g
   rw[CB (show good k s2 a from⟨g.1,g.2.1,g.2.2.1,λx=>g.2.2.2 (h a x)⟩)];obtain⟨d,f⟩:=nU (l:=l) (s:=s++[a]) (s2:=s2++[a]) ψ e
   grind
  cases e
theorem sT:∀{a:List (List Int)}{k:Nat}{s s2:List Int},(∀x∈s2,x∈s)->(gf k s a).isSome=true->(gf k s2 a).isSome=true
 | [],_,_,_,_,_=>rfl
 | l::a,k,s,s2,h,e=>by
  simp only[gf,eA]at e |-;split at e
  ·rename_i g
   rw[CB g];cases b:qY k s l with
   | none=>grind
   | some i=>
    rw[b]at e;obtain⟨-,c,d,f⟩:=nU h b;rw[d];exact sT f e
  cases e
theorem BR:∀{a:List (List Int)}{k:Nat}{s s2:List Int}(i:Nat),(∀x∈s2,x∈s)->(gf k s a).isSome=true->(gf k s2 (a.set i [])).isSome=true
 | [],_,_,_,_,_,_=>rfl
 | l::a,k,s,s2,i,h,e=>by
  simp only[gf,eA]at e;split at e
  ·rename_i g
   cases b:qY k s l with
   | none=>grind
   | some j=>
    rw[b]at e;obtain⟨n,c,d,f⟩:=nU h b;cases i with
    | zero=>
     simp only[List.set_cons_zero,gf,eA];rw[CB ⟨by simp,g.2⟩];exact sT ψ e
    | succ i=>
     simp only[List.set_cons_succ,gf,eA];rw[CB g,d];exact BR i f e
  cases e
theorem Px{c:aA}(h:bj c=true)(k:Nat):bj (HS c k)=true:=by grind [BR,bj,HS]
def spilt(h:ac)(t k:Nat):ac:={h with R:=h.R.set t (HS (nth h.R t) k)}
theorem aR.spilt{h:ac}{E:List Int}{t k:Nat}(d:aR h E)(i:t<h.R.length)(n:k<(nth h.R t).Z.length):aR (spilt h t k) (nth (nth h.R t).Z k++E):=by
 have p:(E++holders h).Perm (nth (nth h.R t).Z k++E++holders (Ab.spilt h t k)):=by
  refine List.perm_iff_count.2 λb=>?_
  have r:=iA (λc:aA=>c.Z.flatten) b h.R t (HS (nth h.R t) k) i;have q:=iA (λx:List Int=>x) b (nth h.R t).Z k [] n;rw[<-ka,<-ka]at q;simp only[List.count_nil]at q;simp only[HS]at r;simp only[holders,ci,Ab.spilt,HS,R5];omega
 have g:∀c∈(Ab.spilt h t k).R,c∈h.R\/c=HS (nth h.R t) k:=λc u=>W5 u
 exact {d with
   nc:=by show(h.R.set ..).length=_;rw[I1];exact d.nc
   cach:=λc f=>by grind [aR.cach,Px,am]
   onu:=by show ∀o∈h.O,1<=o.Id/\o.Id<=h.a2 - 1/\0<=o.a4/\o.a4<=(h.R.set t _).length - 1;rw[I1];exact d.onu
   hca:=λc f j l b a=>by
     rcases g c f with f|rfl
     · exact d.hca c f j l b a
     simp only[HS,I1]at l;simp only[HS,cP]at a;by_cases e:k=j
     · grind
     rw[C9 λx=>e x.1]at a;exact d.hca _ (am i) _ l b a
   hin:=λb a=>by
     rcases R2.1 a with a|a
     · exact(d.hca _ (am i) k n b a).any
     exact d.hin b a
   nd:=p.nodup_iff.1 d.nd
   mem:=λb=>by rw[<-p.mem_iff];exact d.mem b}
def freeAs(h:ac)(az:List Int):ac:=az.foldl freeA h
theorem kJ:∀(az:List Int)(h:ac),(freeAs h az).R=h.R/\(freeAs h az).O=h.O/\(freeAs h az).M.q=h.M.q/\(freeAs h az).b=h.b/\(freeAs h az).b1=h.b1/\(freeAs h az).b5=h.b5/\(freeAs h az).a0=h.a0/\(freeAs h az).M.e=h.M.e
 | [],h=>⟨rfl,rfl,rfl,rfl,rfl,rfl,rfl,rfl⟩
 | a::az,h=>by
  obtain⟨b,c,d,e,f,g,i,j⟩:=kJ az (freeA h a);obtain⟨k,l,n,o,p,q,r,t⟩:=wE h (xR h a) a;exact⟨b.trans k,c.trans l,d.trans n,e.trans o,f.trans p,g.trans q,i.trans r,j.trans t⟩
theorem aR.freeAs{E:List Int} : ∀{az:List Int}{h:ac},aR h (az++E)->aR (freeAs h az) E
 | [],_,b=>b
 | a::az,h,b=>aR.freeAs (az:=az) (h:=Ab.freeA h a) b.freeA
theorem t8(h:ac)(az:List Int)(k:Nat)(a:k<az.length):freeAs h (az.take (k+1))=freeA (freeAs h (az.take k)) (nth az k):=by grind [Y4,ah,freeAs]
def flushN(t:Nat)(h:ac):Nat->ac × Nat
 | 0=>(h,0)
 | k+1=>(freeAs (spilt (flushN t h k).1 t k) (nth (nth (flushN t h k).1.R t).Z k),(flushN t h k).2+(nth (nth (flushN t h k).1.R t).Z k).length)
theorem kB{t:Nat}{h:ac}(b:aR h [])(c:t<h.R.length):∀{k:Nat},k<=4->aR (flushN t h k).1 []/\(flushN t h k).1.R.length=h.R.length/\(flushN t h k).1.M.q=h.M.q/\(flushN t h k).1.O=h.O/\(flushN t h k).1.b=h.b/\(flushN t h k).1.b1=h.b1/\(flushN t h k).2<=8*k
 | 0,_=>⟨b,rfl,rfl,rfl,rfl,rfl,T0 _⟩
 | k+1,e=>by
  obtain⟨d,f,g,i,j,l,n⟩:=kB b c (k:=k) ω;have a:t<(flushN t h k).1.R.length:=ω
  obtain⟨o,p⟩:=ee (d.cach _ (am a))
  grind [aR.spilt,am,kJ,aR.freeAs,spilt,flushN]
theorem DW{h:ac}{t k:Nat}(a:aR h [])(b:t<h.R.length)(c:k<4):t<(flushN t h k).1.R.length/\bj (nth (flushN t h k).1.R t)=true/\k<(nth (flushN t h k).1.R t).Z.length/\(nth (nth (flushN t h k).1.R t).Z k).length<=8/\(flushN t h k).2<=8*k:=by grind [kB,aR.cach,am,ee]
theorem LD{h:ac}{t k j:Nat}(a:aR h [])(b:t<h.R.length)(c:k<4)(f:j<(nth (nth (flushN t h k).1.R t).Z k).length):aR (freeAs (spilt (flushN t h k).1 t k) ((nth (nth (flushN t h k).1.R t).Z k).take j)) (nth (nth (nth (flushN t h k).1.R t).Z k) j::(nth (nth (flushN t h k).1.R t).Z k).drop (j+1)):=by
 obtain⟨d,e⟩:=DW a b c;have g:=((kB a b (k:=k) ω).1).spilt d e.2.1
 grind [aR.freeAs,jn,List.take_append_drop]
theorem xU(h:ac)(t:Nat)(i:aR h [])(l:t<h.R.length):aP Tryz.prog 129 false [.ptr (br h),.val none [I (t:Nat)]] [.ptr (br (flushN t h 4).1),.val none [I (t:Nat)]] .one [I ((flushN t h 4).2:Nat)]:=by
 refine fM 48 [(132,[2,0])] [(6,6,[26,27,28,29,30,31])] [(0,0),(0,0)] Tryz.func129 rfl (λu q=>?_)
 repeat'(first|refine gP ?_|fail)
 (conv=>whnf)
 refine CE (ι:=Nat) (λk=>[(0,.F .box (br (flushN t h k).1)),(1,.F .one [I ((t:Nat):Int)]),(5,.F .one [I (((flushN t h k).2:Nat):Int)]),(6,.F .one [I ((k:Nat):Int)])]) (λk=>k<=4) (λk=>4 - k) (0) ?_ (T0 _) λk D=>?_
 ·repeat'(first|exact trivial|rfl |exact nM a|exact cJ _|refine CI ?_ ?_|(exact u7 (by first|omega|(simp only;omega)|(simp;omega))))
 by_cases n:k<4
 ·obtain⟨o,p,E,F,G⟩:=DW i l n
  have r:=tZ (nth (flushN t h k).1.R t) k p ω;have c:=λj=>LD i l n (j:=j)
  have e:=ah o;have w:(flushN t h (k+1)).1=freeAs (spilt (flushN t h k).1 t k) (nth (nth (flushN t h k).1.R t).Z k):=rfl;have y:(flushN t h (k+1)).2=(flushN t h k).2+(nth (nth (flushN t h k).1.R t).Z k).length:=rfl;have a:C.s du.own ((spilt (flushN t h k).1 t k).R.map (aA.enc .own))=C.s du.own (((flushN t h k).1.R.map (aA.enc .own)).set t (aA.enc .own (HS (nth (flushN t h k).1.R t) k))):=by grind [T5,spilt]
  repeat'(first|refine gE ?_|(conv=>whnf);first|refine CA (aa e) ?_|refine CG rfl (aa e) rfl ?_|refine CH (r) ⟨⟨rfl,aA.enc_fz _⟩,⟨rfl,rfl⟩,⟨rfl,rfl⟩,trivial⟩ ?_|refine C8 ?_|refine CO rfl rfl (aa e) rfl (Z0 rfl) rfl ?_)
  generalize (flushN t h k).1=d at *;generalize (flushN t h k).2=m at *
  (conv=>whnf)
  refine CE (ι:=Nat) (λj=>[(0,.F .box (br (freeAs (spilt d t k) ((nth (nth d.R t).Z k).take j)))),(1,.F .one [I ((t:Nat):Int)]),(5,.F .one [I (((m+j):Nat):Int)]),(6,.F .one [I ((k:Nat):Int)]),(8,.F .one (aF .own (nth (nth d.R t).Z k))),(9,.F .one [I ((j:Nat):Int)])]) (λj=>j<=(nth (nth d.R t).Z k).length) (λj=>(nth (nth d.R t).Z k).length - j) (0) ?_ (T0 _) λj H=>?_
  ·repeat'(first|exact trivial|rfl |exact nM a|exact cJ _|refine CI ?_ ?_|(exact u7 (by first|omega|(simp only;omega)|(simp;omega))))
  by_cases g:j<(nth (nth d.R t).Z k).length
  ·have b:=ah g
   have B:=mS _ _ _ (c j g)
   repeat'(first|refine gE ?_|(conv=>whnf);first|refine CA (aa b) ?_|refine CG rfl (aa b) rfl ?_|refine CJ (B) (.inl rfl) ?_)
   ((conv=>whnf);refine CD (j+1) ω ω ?_)
   rw[t8 _ _ _ g];exact wC
  obtain rfl:j=(nth (nth d.R t).Z k).length:=ω
  rw[U4]
  repeat'(first|refine gE ?_|fail)
  ((conv=>whnf);refine CD (k+1) ω ω ?_)
  rw[w,y];exact wC
 obtain rfl:k=4:=ω
 repeat'(first|refine gE ?_|fail)
 refine CF rfl rfl ?_;exact wC
def Gl(s:Int):Int:=(1103515245*s+12345) % 1073741824
def EK(s:Int):0<=Gl s/\Gl s<=1073741823:=by unfold Gl;omega
def xE(s:Int)(b:0<=s/\s<=1073741823):ao Tryz.prog 270 false [.val none [I s]] .one [I (Gl s)]:=by
 have a:=aE s 0 1073741823;rw[O0 b]at a;refine fO 10 [] Tryz.func270 rfl ?_
 repeat'(first|refine gP ?_|(conv=>whnf);first|refine C8 ?_|refine CS (z:=Gl s) (fQ ω) ?_|refine C7 (a) ?_|refine CM (by decide) ?_)
 rfl
def Lx(s n:Int):Int:=Gl s / 1024 % n
def xf(s:Int){n:Int}(h:1<=n):0<=Lx s n/\Lx s n<n:=⟨Int.emod_nonneg _ ω,Int.emod_lt_of_pos _ ω⟩
theorem tM(s n:Int)(b:0<=s/\s<=1073741823)(c:1<=n/\n<=1000):ao Tryz.prog 238 false [.val none [I s],.val none [I n]] (.tup [none,none]) [I (Lx s n),I (Gl s)]:=by
 have d:=aE s 0 1073741823;have e:=aE n 1 1000;rw[O0 b]at d;rw[O0 c]at e;have h:=EK s;have i:=xf s c.1;have a:(Gl s).tdiv 1024=Gl s / 1024:=ψ
 have g:((Gl s).tdiv 1024).tmod n=Lx s n:=by rw[a];exact fQ ω
 refine fO 23 [] Tryz.func238 rfl ?_ (.inr ⟨trivial,trivial,trivial⟩)
 repeat'(first|refine gP ?_|(conv=>whnf);first|refine C8 ?_|refine C7 (d) ?_|refine C7 (e) ?_|refine C7 (xE s b) ?_|refine CM (by decide) ?_|refine CM ω ?_|refine CS g ?_|refine CK (ed (by rw[a];omega) (by rw[a];omega)) ?_)
 rfl
def qH(n:Nat):List Int:=(List.range n).map λ(i:Nat)=>(i:Int)
theorem Fw(n:Nat):qH (n+1)=qH n++[(n:Int)]:=by grind [List.range_succ,qH]
def ym(n:Nat):(qH n).length=n:=by simp[qH]
def vF(xs:List Int)(i k:Nat):List Int:=(xs.set i (nth xs k)).set k (nth xs i)
def Ha(xs:List Int)(i k:Nat):(vF xs i k).length=xs.length:=by simp[vF]
def gq(n:Nat)(s:Int):Nat->List Int × Int
 | 0=>(qH n,s)
 | j+1=>(vF (gq n s j).1 (n - 1 - j) (Lx (gq n s j).2 ((n - 1 - j:Nat)+1:Int)).toNat,Gl (gq n s j).2)
def lO(n:Nat){s:Int}(a:0<=s/\s<=1073741823):∀j,(gq n s j).1.length=n/\0<=(gq n s j).2/\(gq n s j).2<=1073741823
 | 0=>⟨ym n,a⟩
 | j+1=>⟨by simp only[gq,Ha];exact(lO n a j).1,EK _⟩
def shuf(n:Nat)(s:Int):List Int × Int:=gq n s (n - 1)
theorem JZ(xs:List Int)(i k:Nat):(vF xs i k).map (rI .own)=((xs.map (rI .own)).set i (rI .own (nth xs k))).set k (rI .own (nth xs i)):=by grind [T5,vF]
theorem HV{xs:List Int}{i k:Nat}(v:Int)(a:k<xs.length):((xs.map (rI .own)).set i (rI .own v))[k]? = some (rI .own (nth (xs.set i v) k)):=by
 rw[<-T5];grind [ah]
def x5(n:Nat)(s:Int)(d:0<=s/\s<=1073741823)(w:n<=64):ao Tryz.prog 210 false [.val none [I s],.val none [I (n:Nat)]] (.tup [none,none]) (aF .own (shuf n s).1++[I (shuf n s).2]):=by
 have e:=aE s 0 1073741823;have g:=aE (n:Nat) 0 64;rw[O0 d]at e;rw[O0 ω]at g;refine fO 63 [] Tryz.func210 rfl ?_ (.inr (bc (bN _) ⟨trivial,trivial⟩))
 repeat'(first|refine gP ?_|(conv=>whnf);first|refine C8 ?_|refine C7 (e) ?_|refine C7 (g) ?_)
 (conv=>whnf)
 refine CE (ι:=Nat) (λk=>[(0,.F .one [I (s)]),(1,.F .one [I ((n:Nat):Int)]),(6,.F .one (aF .own (qH k))),(7,.F .one [I ((k:Nat):Int)])]) (λk=>k<=n) (λk=>n - k) (0) ?_ (T0 _) λk y=>?_
 ·exact wB
 have h:=ym k;by_cases B:k<n
 ·repeat'(first|refine gE ?_|(conv=>whnf);first|refine C8 ?_|refine Ap.sm (aM λ_=>rfl) rfl (by simp;omega) (by decide) (im (rI .own) (qH k) (k:Int)) ?_)
  ((conv=>whnf);refine CD (k+1) ω ω ?_)
  rw[Fw];exact wB
 obtain rfl:k=n:=ω
 repeat'(first|refine gE ?_|(conv=>whnf);first|refine C8 ?_)
 (conv=>whnf)
 refine CE (ι:=Nat) (λj=>[(0,.F .one [I ((gq k s j).2)]),(6,.F .one (aF .own (gq k s j).1)),(8,.F .one [I (((k:Int) - 1 - j))])]) (λj=>(j<=k - 1/\j<=k)) (λj=>k - j) (0) ?_ ω λj C=>?_
 ·exact wB
 obtain⟨D,l,o⟩:=lO k d j;by_cases E:j<k - 1
 ·have q:(k:Int) - 1 - j=((k - 1 - j:Nat):Int):=ω
  have r:=xf (gq k s j).2 (n:=((k - 1 - j:Nat)+1:Int)) ω;have t:=tM (gq k s j).2 ((k - 1 - j:Nat)+1:Int) ⟨l,o⟩ ω;have u:gq k s (j+1)=(vF (gq k s j).1 (k - 1 - j) (Lx (gq k s j).2 ((k - 1 - j:Nat)+1:Int)).toNat,Gl (gq k s j).2):=rfl;rw[q];generalize gq k s j=p at *;obtain⟨xs,z⟩:=p;simp only at *;generalize k - 1 - j=i at *;have a:=ah (xs:=xs) (i:=i) ω;have b:=ah (xs:=xs) (i:=(Lx z (i+1)).toNat) ω;have c:=HV (xs:=xs) (i:=i) (k:=(Lx z (i+1)).toNat) (nth xs (Lx z (i+1)).toNat) ω
  repeat'(first|refine gE ?_|(conv=>whnf);first|refine C8 ?_|refine C7 (t) ?_|refine CL ω (aa b) ?_|refine CA (aa a) ?_|refine CG rfl (aa a) rfl ?_|refine CG rfl (aa b) rfl ?_|refine CO rfl rfl (aa a) rfl (Z0 rfl) rfl ?_|refine CL ω c ?_|refine CO rfl rfl c rfl (Z0 rfl) rfl ?_)
  ((conv=>whnf);refine CD (j+1) ω ω ?_)
  rw[u];simp only[aF,JZ];exact wB
 obtain rfl:j=k - 1:=ω
 repeat'(first|refine gE ?_|(conv=>whnf);first|refine C8 ?_)
 rfl
def zJ(b:Int):Nat->Nat
 | 0=>0
 | n+1=>zJ b n+(if aQ b (n:Nat)=true then 1 else 0)
theorem Ar(b:Int):∀n,zJ b n<=n
 | 0=>U2 _
 | n+1=>by have:=Ar b n;grind [zJ]
def uh(b:Int)(d:b<=9223372036854775807):ao Tryz.prog 209 false [.val none [I b]] .one [I (zJ b 16:Nat)]:=by
 refine fO 15 [] Tryz.func209 rfl ?_
 repeat'(first|refine gP ?_|fail)
 (conv=>whnf)
 refine CE (ι:=Nat) (λk=>[(0,.F .one [I (b)]),(3,.F .one [I ((zJ b k:Nat):Int)]),(4,.F .one [I ((k:Nat):Int)])]) (λk=>k<=16) (λk=>16 - k) (0) ?_ (T0 _) λk g=>?_
 ·exact wB
 have h:=Ar b k;by_cases i:k<16
 ·have a:=fZ b (k:Nat) d
  have c:zJ b (k+1)=zJ b k+(if aQ b (k:Nat)=true then 1 else 0):=rfl;cases e:aQ b (k:Nat)<;>rw[e]at a c
  all_goals
   repeat'(first|refine gE ?_|(conv=>whnf);first|refine C7 (a) ?_)
   ((conv=>whnf);refine CD (k+1) ω ω ?_)
   rw[c];exact wB
 obtain rfl:k=16:=ω
 repeat'(first|refine gE ?_|fail)
 rfl
def yR(h:ac)(s:ar):Bool:=decide (0<zJ s.a6 16)&&decide ((aH h s.Q).length=1)
def kY(h:ac):Nat->List ar
 | 0=>[]
 | n+1=>if yR h (nth h.H n)=true then kY h n++[nth h.H n] else kY h n
def m9(h:ac):List ar:=kY h h.H.length
theorem v7(h:ac):∀n,(kY h n).length<=n
 | 0=>U2 _
 | n+1=>by have:=v7 h n;grind [kY]
theorem oL(h:ac):∀{n:Nat},n<=h.H.length->∀s∈kY h n,s∈h.H
 | 0,_,s,a=>by cases a
 | n+1,b,s,a=>by
  simp only[kY]at a;split at a
  ·rcases R2.1 a with a|a
   ·exact oL h ω s a
   grind [am]
  exact oL h ω s a
theorem v8(h:ac)(g:uo h)(o:h.H.length<=1000)(p:dC h<=1000)(i:∀s∈h.H,s.a6<=9223372036854775807):ao Tryz.prog 145 false [.val (some 24) (ac.enc .U h)] .one (bM .own (m9 h)):=by
 refine fO 42 [(5,16,[13,14,15,16,17,18,19,20,21,22,23,24,25,26,27,28])] Tryz.func145 rfl ?_ (.inr (ES _))
 repeat'(first|refine gP ?_|fail)
 (conv=>whnf)
 refine CE (ι:=Nat) (λk=>[(1,.F .box (ac.enc .U h)),(3,.F .one (bM .own (kY h k))),(4,.F .one [I ((k:Nat):Int)])]) (λk=>k<=h.H.length) (λk=>h.H.length - k) (0) ?_ (T0 _) λk q=>?_
 ·exact wB
 have j:=v7 h k;by_cases e:k<h.H.length
 ·have c:=ah e
  have d:=uh (nth h.H k).a6 (i _ (am e));have b:=fo h (nth h.H k).Q g;have l:=eC h (nth h.H k).Q;have n:=Ar (nth h.H k).a6 16;have a:kY h (k+1)=if yR h (nth h.H k)=true then kY h k++[nth h.H k] else kY h k:=rfl
  by_cases r:0<zJ (nth h.H k).a6 16
  ·by_cases t:(aH h (nth h.H k).Q).length=1
   ·rw[CB (by grind [yR])]at a
    repeat'(first|refine gB ?_|(conv=>whnf);first|refine CA (aa c) ?_|refine C7 (d) ?_|refine CH (b) ⟨⟨rfl,rfl⟩,⟨rfl,rfl⟩,trivial⟩ ?_|refine C7 (b) ?_|refine C8 ?_|refine Ap.sm (aM λ_=>rfl) rfl (by simp;omega) (by decide) (im (ar.enc .own) (kY h k) (nth h.H k)) ?_)
    ((conv=>whnf);refine CD (k+1) ω ω ?_)
    rw[a];exact wB
   rw[C9 (by grind [yR])]at a
   repeat'(first|refine gB ?_|(conv=>whnf);first|refine CA (aa c) ?_|refine C7 (d) ?_|refine C7 (b) ?_|refine C8 ?_)
   ((conv=>whnf);refine CD (k+1) ω ω ?_)
   rw[a];exact wB
  rw[C9 (by grind [yR])]at a
  repeat'(first|refine gE ?_|(conv=>whnf);first|refine CA (aa c) ?_|refine C7 (d) ?_|refine C7 (b) ?_|refine C8 ?_)
  ((conv=>whnf);refine CD (k+1) ω ω ?_)
  rw[a];exact wB
 obtain rfl:k=h.H.length:=ω
 repeat'(first|refine gE ?_|fail)
 rfl
def AM(s:ar)(c:Nat):Bool:=aQ s.a6 (((c:Nat):Int) / csz s.Y)
def uG(s:ar)(n:Nat):List Int:=((List.range n).filter (AM s)).map λ(i:Nat)=>(i:Int)
theorem N7{s:ar}{n:Nat}(h:AM s n=true):uG s (n+1)=uG s n++[(n:Int)]:=by grind [List.range_succ,uG]
theorem Pa{s:ar}{n:Nat}(h:AM s n=false):uG s (n+1)=uG s n:=by grind [List.range_succ,uG]
theorem qX(s:ar)(n:Nat):(uG s n).length<=n:=by grind [uG]
theorem N0{s:ar}(a:aT s=true){c:Nat}(b:c<16):0<=((c:Nat):Int) / csz s.Y/\((c:Nat):Int) / csz s.Y<=15:=by
 have d:=aB a
 grind [bW]
theorem oc(s:ar)(a:aT s=true):ao Tryz.prog 211 false [.val (some 3) (ar.enc .U s)] .one (aF .own (uG s 16)):=by
 have b:=eQ s;rw[a]at b;have g:=aB a;have n:=bW g.2.2;refine fO 27 [(5,7,[14,15,16,17,18,19,20])] Tryz.func211 rfl ?_ (.inr (bN _))
 repeat'(first|refine gP ?_|fail)
 (conv=>whnf)
 refine CE (ι:=Nat) (λi=>[(1,.F .box (ar.enc .U s)),(3,.F .one (aF .own (uG s i))),(4,.F .one [I ((i:Nat):Int)])]) (λi=>i<=16) (λi=>16 - i) (0) ?_ (T0 _) λi o=>?_
 ·exact wB
 have h:=qX s i;by_cases j:i<16
 ·have k:=N0 a j
  have d:IntKind.i64.wrap (((i:Nat):Int).tdiv (csz s.Y))=((i:Nat):Int) / csz s.Y:=by grind [ed]
  have c:=fZ s.a6 (((i:Nat):Int) / csz s.Y) (dJ a).2;cases e:AM s i
  ·rw[show aQ s.a6 (((i:Nat):Int) / csz s.Y)=false from e]at c
   repeat'(first|refine gE ?_|(conv=>whnf);first|refine C7 (b) ?_|refine C7 (bV _) ?_|refine CM ω ?_|refine CK d ?_|refine C7 (c) ?_)
   ((conv=>whnf);refine CD (i+1) ω ω ?_)
   rw[Pa e];exact wB
  rw[show aQ s.a6 (((i:Nat):Int) / csz s.Y)=true from e]at c
  repeat'(first|refine gE ?_|(conv=>whnf);first|refine C7 (b) ?_|refine C7 (bV _) ?_|refine CM ω ?_|refine CK d ?_|refine C7 (c) ?_|refine CN cv (λr l=>by rw[C1.1 l];rfl) (by simp[aW,dn]) (by simp;omega) (by simp only[X0];exact yb (by simp;omega) (by decide)) rfl ?_)
  ((conv=>whnf);refine CD (i+1) ω ω ?_)
  rw[N7 e]
  (repeat'(first|exact trivial|rfl|exact CI rfl (CI (U0 (C.s du.own) (by simp[rI])) trivial)|refine CI ?_ ?_))
 obtain rfl:i=16:=ω
 repeat'(first|refine gE ?_|(conv=>whnf);first|refine C7 (b) ?_)
 rfl
structure fE where
 A:Int
 B:Int
deriving DecidableEq,Inhabited
def fE.enc(_:du)(x:fE):List C:=[I x.A,I x.B]
def ja(o:du)(x:List fE):List C:=[.s o (x.map (fE.enc o))]
theorem EI(x:List fE):gn (ja .own x):=⟨⟨.inl ψ,aX _ _ λ_ _=>⟨trivial,trivial,trivial⟩⟩,trivial⟩
def Np(i:Int)(p:fE):Bool:=decide (p.A=i) || decide (p.B=i)
def dA(a b:ar):cI:=if(uG a 16).length<(uG b 16).length then⟨b.Q,a.Q,uG a 16⟩ else⟨a.Q,b.Q,uG b 16⟩
def ya(a b:ar)(g:meshable a b=true)(h:aT a=true)(i:aT b=true):ao Tryz.prog 147 false [.val (some 3) (ar.enc .U a),.val (some 3) (ar.enc .U b)] (.tup [some 3,none]) (cI.enc .own (dA a b)++[B true]):=by
 have c:=lv a b;rw[g]at c;have d:=oc a h;have e:=oc b i;have j:=qX a 16;have k:=qX b 16;unfold dA;split
 ·refine fO 27 [(3,6,[11,12,13,14,15,16]),(5,6,[20,21,22,23,24,25])] Tryz.func147 rfl ?_ (.inr (bc (cI.enc_fr _) ⟨trivial,trivial⟩))
  repeat'(first|refine gE ?_|(conv=>whnf);first|refine C7 (c) ?_|refine C7 (d) ?_|refine C7 (e) ?_|refine C8 ?_)
  rfl
 refine fO 27 [(3,6,[11,12,13,14,15,16]),(5,6,[20,21,22,23,24,25])] Tryz.func147 rfl ?_ (.inr (bc (cI.enc_fr _) ⟨trivial,trivial⟩))
 repeat'(first|refine gE ?_|(conv=>whnf);first|refine C7 (c) ?_|refine C7 (d) ?_|refine C7 (e) ?_|refine C8 ?_)
 rfl
def vC(p:cI):cU:=⟨p,0,0⟩
def BN(p:cI)(c:eI p=true)(a:cI.sml p):ao Tryz.prog 148 false [.val (some 3) (cI.enc .U p)] (.tup [some 5,none]) (cU.enc .own (vC p)++[B true]):=by
 have b:=tL p a;rw[c]at b;have d:=qw (vC p) a;refine fO 11 [] Tryz.func148 rfl ?_ (.inr (bc (cU.enc_fr _) ⟨trivial,trivial⟩))
 repeat'(first|refine gP ?_|(conv=>whnf);first|refine C7 (b) ?_|refine C7 (d) ?_)
 rfl
def rN(n:Nat){s:Int}(c:0<=s/\s<=1073741823):∀{j:Nat},j<=n - 1->∀x∈(gq n s j).1,0<=x/\x<n
 | 0,_,x,a=>by
  simp only[gq,qH,X3,List.mem_range]at a;obtain⟨i,d,rfl⟩:=a;omega
 | j+1,e,x,a=>by
  have f:=(lO n c j).1;have b:=rN n c (j:=j) ω;have g:=xf (gq n s j).2 (n:=((n - 1 - j:Nat)+1:Int)) ω;simp only[gq,vF]at a;rcases W5 a with a|rfl
  ·rcases W5 a with a|rfl
   ·exact b x a
   exact b _ (am ω)
  exact b _ (am ω)
def tkn(out:List fE)(a:Int):Bool:=out.any (Np a)
def stp(a:List ar)(p:List Int)(t i:Nat)(out:List fE):List fE:=
 if tkn out (nth p i)=false/\tkn out (nth p (p.length / 2+(i+t) % (p.length - p.length / 2)))=false/\meshable (nth a (nth p i).toNat) (nth a (nth p (p.length / 2+(i+t) % (p.length - p.length / 2))).toNat)=true then out++[⟨nth p i,nth p (p.length / 2+(i+t) % (p.length - p.length / 2))⟩] else out
def u5(a:List ar)(p:List Int)(t:Nat)(out:List fE):Nat->List fE
 | 0=>out
 | i+1=>stp a p t i (u5 a p t out i)
def pM(a:List ar)(p:List Int):Nat->List fE
 | 0=>[]
 | t+1=>u5 a p t (pM a p t) (p.length / 2)
def N1(a:List ar)(p:List Int)(t i:Nat)(out:List fE):(stp a p t i out).length<=out.length+1:=by unfold stp;split<;>simp
def vc(a:List ar)(p:List Int)(t:Nat)(out:List fE):∀i,(u5 a p t out i).length<=out.length+i
 | 0=>U2 _
 | i+1=>by have b:=vc a p t out i;have c:=N1 a p t i (u5 a p t out i);simp only[u5];omega
def Bg(a:List ar)(p:List Int):∀t,(pM a p t).length<=t*(p.length / 2)
 | 0=>T0 _
 | t+1=>by have b:=Bg a p t;have c:=vc a p t (pM a p t) (p.length / 2);simp only[pM];rw[Nat.add_mul];omega
def mJ(a:List ar)(s:Int):List fE:=pM a (shuf a.length s).1 3
def nr(n:Nat)(out:List fE):List Bool:=(List.range n).map λ(i:Nat)=>tkn out (i:Nat)
def Gd{n:Nat}{out:List fE}{a:Int}(h:0<=a/\a<n):(nr n out)[a.toNat]? = some (tkn out a):=by
 unfold nr;rw[W2,Z5 ω];show some (tkn out ((a.toNat:Nat):Int))=_;rw[Int.toNat_of_nonneg h.1]
def Kt{n:Nat}{out:List fE}{a b:Int}(f:0<=a/\a<n)(g:0<=b/\b<n):nr n (out++[⟨a,b⟩])=((nr n out).set a.toNat true).set b.toNat true:=by
 unfold nr;apply List.ext_getElem?;intro i;by_cases c:i<n
 ·rw[W2,Z5 c]
  by_cases d:b.toNat=i
  ·subst d
   rw[I3 (by simp;omega)];simp only[V4,tkn,List.any_append,List.any_cons,List.any_nil,Np];rw[Int.toNat_of_nonneg g.1];simp
  rw[List.getElem?_set_ne d];by_cases e:a.toNat=i
  ·subst e
   rw[I3 (by simp;omega)];simp only[V4,tkn,List.any_append,List.any_cons,List.any_nil,Np];rw[Int.toNat_of_nonneg f.1];simp
  rw[List.getElem?_set_ne e,W2,Z5 c];simp only[V4,tkn,List.any_append,List.any_cons,List.any_nil,Np];rw[R0 ω,R0 ω];simp
 rw[C2 (by simp;omega),C2 (by simp;omega)]
def Me(n:Nat):(nr n []).map (rB .own)=List.replicate n [B false]:=by
 unfold nr;rw[List.map_map];apply List.ext_getElem?;intro i;rw[W2];by_cases a:i<n
 ·rw[Z5 a,List.getElem?_replicate];simp[a];rfl
 rw[C2 (by simp;omega),List.getElem?_replicate];simp[a]
def HB{xs:List Bool}{i k:Nat}(v:Bool)(a:k<xs.length):((xs.map (rB .own)).set i (rB .own v))[k]? = some (rB .own (nth (xs.set i v) k)):=by
 rw[<-T5];exact aa (ah (by rw[I1];exact a))
def tS(c:List ar)(s:Int)(u:0<=s/\s<=1073741823)(V:c.length<=16):ao Tryz.prog 146 false [.val none (bM .U c),.val none [I s],.val none [I 3]] (.tup [none,none]) (ja .own (mJ c s)++[I (shuf c.length s).2]):=by
 have J:=aE s 0 1073741823;rw[O0 u]at J;have K:=aE 3 0 16;rw[O0 ω]at K;have Q:=x5 c.length s u ω;have D:=(lO c.length u (c.length - 1)).1;have e:=rN c.length u (U2 _);unfold mJ;change (shuf c.length s).1.length=_ at D;change ∀x∈(shuf c.length s).1,_ at e
 have E:gn (ja .own (pM c (shuf c.length s).1 3)++[I (shuf c.length s).2]):=bc (EI _) ⟨trivial,trivial⟩;generalize shuf c.length s=q at *;obtain⟨p,z⟩:=q;simp only at *;have F:((p.length:Nat):Int).tdiv 2=((p.length / 2:Nat):Int):=by rw[Int.tdiv_eq_ediv_of_nonneg ω];omega
 have g:C.s du.own ((nr c.length []).map (rB .own))=C.s du.own (List.replicate c.length [B false]):=by rw[Me]
 have h:∀i:Nat,i<p.length->0<=nth p i/\nth p i<c.length:=λi R=>e _ (am R)
 refine fO 110 [(15,21,[73,74,75,76,77,78,79,80,81,82,83,84,85,86,87,88,89,90,91,92,93])] Tryz.func146 rfl ?_ (.inr E)
 repeat'(first|refine gE ?_|(conv=>whnf);first|with_reducible refine CK ((U0 _ F).trans (ed ω ω)) ?_|refine C7 (J) ?_|refine C7 (K) ?_|refine C7 (Q) ?_|refine CM (by decide) ?_|refine Mk.mk c.length rfl rfl ω (yb ω (by decide)) rfl ?_)
 (conv=>whnf)
 refine CE (ι:=Nat) (λt=>[(0,.F .one (bM .U c)),(2,.F .one [I (3)]),(8,.F .one (ja .own (pM c p t))),(9,.F .one (aF .own p)),(10,.F .one [I (z)]),(11,.F .one [I (((p.length / 2):Nat):Int)]),(12,.F .one (vR .own (nr c.length (pM c p t)))),(13,.F .one [I ((t:Nat):Int)])]) (λt=>t<=3) (λt=>3 - t) (0) ?_ (T0 _) λt S=>?_
 ·repeat'(first|exact trivial|rfl |exact nM g|refine CI ?_ ?_|(exact u7 (by first|omega|(simp only;omega)|(simp;omega))))
 have W:=Bg c p t;have ol2:t*(p.length / 2)<=3*8:=Nat.mul_le_mul S ω;by_cases X:t<3
 ·repeat'(first|refine gE ?_|fail)
  (conv=>whnf)
  refine CE (ι:=Nat) (λj=>[(0,.F .one (bM .U c)),(2,.F .one [I (3)]),(8,.F .one (ja .own (u5 c p t (pM c p t) j))),(9,.F .one (aF .own p)),(10,.F .one [I (z)]),(11,.F .one [I (((p.length / 2):Nat):Int)]),(12,.F .one (vR .own (nr c.length (u5 c p t (pM c p t) j)))),(13,.F .one [I ((t:Nat):Int)]),(14,.F .one [I ((j:Nat):Int)])]) (λj=>j<=p.length / 2) (λj=>p.length / 2 - j) (0) ?_ (T0 _) λj Y=>?_
  ·repeat'(first|exact trivial|rfl |exact nM g|refine CI ?_ ?_|(exact u7 (by first|omega|(simp only;omega)|(simp;omega))))
  have Z:=vc c p t (pM c p t) j;by_cases lj:j<p.length / 2
  ·have L:(j+t) % (p.length - p.length / 2)<p.length - p.length / 2:=Nat.mod_lt _ ω
   have G:((j:Int)+t).tmod ((p.length:Int) - (p.length / 2:Nat))=(((j+t) % (p.length - p.length / 2):Nat):Int):=by
    rw[fQ ω,Int.natCast_emod];congr 1;omega
   have d:u5 c p t (pM c p t) (j+1)=stp c p t j (u5 c p t (pM c p t) j):=rfl;unfold stp at d;generalize u5 c p t (pM c p t) j=out at *;have l:p.length / 2+(j+t) % (p.length - p.length / 2)<p.length:=ω
   generalize hk:(j+t) % (p.length - p.length / 2)=k at *;have n:=ah (xs:=p) (i:=j) ω;have o:=ah (xs:=p) (i:=p.length / 2+k) l;have w:=h j ω;have r:=h _ l;generalize nth p j=a at *;generalize nth p (p.length / 2+k)=b at *;have y:=Gd (out:=out) w;have H:=Gd (out:=out) r;have T:=ah (xs:=c) (i:=a.toNat) ω;have U:=ah (xs:=c) (i:=b.toNat) ω;have M:=lv (nth c a.toNat) (nth c b.toNat);have ub2:=HB (xs:=nr c.length out) (i:=a.toNat) (k:=b.toNat) true (by simp[nr];omega);cases N:tkn out a<;>cases O:tkn out b<;>cases P:meshable (nth c a.toNat) (nth c b.toNat)
   all_goals
    rw[N]at y;rw[O]at H;rw[P]at M;rw[N,O,P]at d;simp only[and_true,true_and,if_true,Bool.false_eq_true,Bool.true_eq_false,and_false,false_and,if_false]at d
    repeat'(first|refine gE ?_|(conv=>whnf);first|refine CS G ?_|refine CM ω ?_|refine CA (aa n) ?_|refine CL ω (aa o) ?_|refine CL w.1 (aa y) ?_|refine CL r.1 (aa H) ?_|refine CL w.1 (aa T) ?_|refine CL r.1 (aa U) ?_|refine CG rfl (aa n) rfl ?_|refine CG rfl (aa o) rfl ?_|refine CG rfl (aa y) rfl ?_|refine CG rfl (aa H) rfl ?_|refine C7 (M) ?_|refine C8 ?_|refine CO rfl rfl (aa y) rfl (Z0 rfl) rfl ?_|refine CL r.1 ub2 ?_|refine CO rfl rfl ub2 rfl (Z0 rfl) rfl ?_|refine Ap.sm (aM λ_=>rfl) rfl (by simp;omega) (by decide) (im (fE.enc .own) out ⟨a,b⟩) ?_)
    ((conv=>whnf);refine CD (j+1) ω ω ?_)
    rw[d]
    first|(rw[Kt w r];simp only[vR,T5])|skip
    exact wB
  obtain rfl:j=p.length / 2:=ω
  repeat'(first|refine gE ?_|fail)
  ((conv=>whnf);refine CD (t+1) ω ω ?_;(exact wB))
 obtain rfl:t=3:=ω
 repeat'(first|refine gE ?_|fail)
 rfl
def Ey(x:List fE):d8 (ja .own x)=ja .U x:=by simp[d8,ja,fE.enc,<-ch,I5]
def ao.fzR{P:Program}{f:Nat}{sh:Bool}{A:List RA}{k:Kd}{rcs:List C}(h:ao P f sh A k rcs):ao P f sh A k (d8 rcs):=by
 obtain⟨c,d⟩:=h;refine⟨c,λw S g i j=>(d w S g i j).mono λe w1 l=>?_⟩;obtain⟨v,n,p,X,q,r,t,B,u,y⟩:=l;refine⟨v,n,p,NO,λb o=>q b o\/X b o,λ_ _ h=>h.elim,λb o a=>?_,λ_ _ h=>h.elim,by rw[ch,X0];exact u,y.freeze⟩;rcases a with a|a
 ·exact t b o a
 exact .inr (r b o a)
structure MK(ls:List ar)(q:fE):Prop where
 a:0<=q.A/\q.A<ls.length
 b:0<=q.B/\q.B<ls.length
 m:meshable (nth ls q.A.toNat) (nth ls q.B.toNat)=true
def GP{b:List ar}{p:List Int}(c:∀x∈p,0<=x/\x<b.length)(t:Nat){out:List fE}(d:∀q∈out,MK b q):∀{i:Nat},i<=p.length / 2->∀q∈u5 b p t out i,MK b q
 | 0,_=>d
 | i+1,h=>λq a=>by
  have e:=GP c t d (i:=i) ω;simp only[u5,stp]at a;split at a
  ·rename_i g
   rcases R2.1 a with a|a
   ·exact e q a
   obtain rfl:=C1.1 a;have f:(i+t) % (p.length - p.length / 2)<p.length - p.length / 2:=Nat.mod_lt _ ω;exact⟨c _ (am ω),c _ (am ω),g.2.2⟩
  exact e q a
def Gz{a:List ar}{p:List Int}(b:∀x∈p,0<=x/\x<a.length):∀t,∀q∈pM a p t,MK a q
 | 0=>λq c=>by cases c
 | t+1=>GP b t (Gz b t) (U2 _)
def qq(a:List ar){s:Int}(b:0<=s/\s<=1073741823):∀q∈mJ a s,MK a q:=Gz (rN a.length b (U2 _)) 3
def Mn(s:ar)(n:Nat):(uG s n).Pairwise (· < ·):=by
 unfold uG;rw[List.pairwise_map];exact(List.pairwise_lt_range.sublist List.filter_sublist).imp λh=>ω
def P2{s:ar}{n:Nat} : ∀z∈uG s n,0<=z/\z<n:=λz a=>by
 unfold uG at a;simp only[X3,Y3,List.mem_range]at a;obtain⟨c,⟨b,-⟩,rfl⟩:=a;omega
def vq(s:ar):cV (uG s 16).length (mT (uG s 16))=true:=by
 refine cm.2 λj a=>?_
 have c:=P2 _ (am a);unfold mT;refine O0 ⟨ω,ω,?_⟩;by_cases e:j=0
 ·exact .inl e
 refine .inr ?_;have b:=List.pairwise_iff_getElem.1 (Mn s 16) (j - 1) j ω a ω;rw[show nth (uG s 16) (j - 1)=(uG s 16)[j - 1] from bm (W1 ω),show nth (uG s 16) j=(uG s 16)[j] from bm (W1 a)];exact b
def su{a b:ar}(c:meshable a b=true):eI (dA a b)=true/\aT a=true/\aT b=true:=by
 unfold meshable at c;simp only[I0,C0]at c;have d:=aB c.1.1;have e:=aB c.1.2;refine⟨?_,c.1⟩;unfold dA eI;split
 ·simp only[I0,C0];exact⟨vq a,ω⟩
 simp only[I0,C0];exact⟨vq b,ω⟩
def E7(a b:ar):cI.sml (dA a b):=by
 have c:=qX a 16;have d:=qX b 16;unfold dA cI.sml rJ;split<;>simp only<;>omega
def bK(h:ac):List ar:=(m9 h).take 16
def started(h:ac):ac × Bool:=match mJ (bK h) h.c1 with
 | []=>({h with c1:=(shuf (bK h).length h.c1).2},false)
 | q::_=>({h with c1:=(shuf (bK h).length h.c1).2,b0:=true,b1:=vC (dA (nth (bK h) q.A.toNat) (nth (bK h) q.B.toNat))},true)
def Jw{h:ac}{E:List Int}(a:aR h E):h.H.length<=32/\dC h<=32/\uo h/\∀s∈h.H,s.a6<=9223372036854775807:=by
 have b:=a.lens;refine⟨b.spans,b.ents,?_,λs c=>by have:=ep (a.L.sok s c);omega⟩;have:=(bE a.ker).1.2;exact this
def EG(h:ac):(bK h).length<=16:=by unfold bK;rw[O1];omega
def Pz(x:List fE)(z:Int):d8 (ja .own x++[I z])=ja .U x++[I z]:=by
 have h:=Ey x;rw[ch]at h |-;rw[C5,h];simp[fz]
def P8(h:ac):(bK h).map (ar.enc .U)=((m9 h).map (ar.enc .U)).take 16:=V3
def Fy(p:cI)(b:eI p=true)(c:cI.sml p):ao Tryz.prog 148 false [.val (some 3) (cI.enc .U p)] (.tup [some 5,none]) (xh (vC p)++[B true]):=by
 have h:=(BN p b c).fzR;have e:d8 (cU.enc .own (vC p)++[B true])=xh (vC p)++[B true]:=by
  have a:=cU.enc_fz (vC p);rw[ch]at a |-;rw[C5,a];simp[fz,cU.enc,xh]
 rwa [e]at h
def x7(h:ac)(w:aR h []):aP Tryz.prog 95 false [.ptr (br h)] [.ptr (br (started h).1)] .one [B (started h).2]:=by
 obtain⟨w1,Q,H,J⟩:=Jw w;have a:=w.nums;unfold cr at a;rw[C0]at a;have e:=(v8 h H ω ω J).fzR;rw[vu]at e;have o:=EG h;have b:=(tS (bK h) h.c1 ⟨a.1,a.2.1⟩ o).fzR;rw[Pz]at b;have g:=qq (bK h) ⟨a.1,a.2.1⟩;have K:=v7 h h.H.length;have y:(m9 h).length<=32:=by unfold m9;omega
 have j:=P8 h;unfold started;cases C:mJ (bK h) h.c1 with
 | nil=>
  rw[C]at b;by_cases L:16<(m9 h).length
  ·refine fM 62 [] [(8,275,[34,35,36,37,38,39,40,41,42,43,44,45,46,47,48,33,49,50,6,0,1,2,3,4,5,6,7,8,9,10,11,12,13,14,15,16,17,18,19,1017,20])] [(0,0)] Tryz.func95 rfl (λu q=>?_)
   repeat'(first|refine gE ?_|(conv=>whnf);first|refine C8 ?_|refine CH (e) ⟨⟨rfl,bz h⟩,trivial⟩ ?_|refine C7 (b) ?_|refine CU 16 rfl (by rw[X0];omega) (aM λ_=>rfl) j ?_)
   refine CF rfl rfl ?_;exact wC
  have k:bK h=m9 h:=by unfold bK;exact O6 ω
  rw[k]at b;refine fM 62 [] [(8,275,[34,35,36,37,38,39,40,41,42,43,44,45,46,47,48,33,49,50,6,0,1,2,3,4,5,6,7,8,9,10,11,12,13,14,15,16,17,18,19,1017,20])] [(0,0)] Tryz.func95 rfl (λu q=>?_);rw[k]
  repeat'(first|refine gE ?_|(conv=>whnf);first|refine C8 ?_|refine CH (e) ⟨⟨rfl,bz h⟩,trivial⟩ ?_|refine C7 (b) ?_)
  refine CF rfl rfl ?_;exact wC
 | cons q M=>
  rw[C]at b g;obtain⟨E,F,G⟩:=g q (R1 ..);obtain⟨N,O,P⟩:=su G;have p:=ya _ _ G O P;have t:=Fy _ N (E7 _ _);have c:=ah (xs:=bK h) (i:=q.A.toNat) ω;have d:=ah (xs:=bK h) (i:=q.B.toNat) ω;have l:(q::M)[0]? = some q:=rfl;by_cases L:16<(m9 h).length
  ·refine fM 62 [] [(8,275,[34,35,36,37,38,39,40,41,42,43,44,45,46,47,48,33,49,50,6,0,1,2,3,4,5,6,7,8,9,10,11,12,13,14,15,16,17,18,19,1017,20])] [(0,0)] Tryz.func95 rfl (λu r=>?_)
   repeat'(first|refine gE ?_|(conv=>whnf);first|with_reducible refine Bf.D (λn=>absurd n (by simp)) (λn=>?_)|refine C8 ?_|refine CH (e) ⟨⟨rfl,bz h⟩,trivial⟩ ?_|refine C7 (b) ?_|refine CU 16 rfl (by rw[X0];omega) (aM λ_=>rfl) j ?_|refine CL (by decide) (aa l) ?_|refine CL E.1 (aa c) ?_|refine CL F.1 (aa d) ?_|refine C7 (p) ?_|refine CH (t) ⟨⟨rfl,cI.enc_fz _⟩,trivial⟩ ?_|refine C8 ?_)
   refine CF rfl rfl ?_;exact wC
  have k:bK h=m9 h:=by unfold bK;exact O6 ω
  rw[k]at b p t c d;refine fM 62 [] [(8,275,[34,35,36,37,38,39,40,41,42,43,44,45,46,47,48,33,49,50,6,0,1,2,3,4,5,6,7,8,9,10,11,12,13,14,15,16,17,18,19,1017,20])] [(0,0)] Tryz.func95 rfl (λu r=>?_);rw[k]
  repeat'(first|refine gE ?_|(conv=>whnf);first|with_reducible refine Bf.D (λn=>absurd n (by simp)) (λn=>?_)|refine C8 ?_|refine CH (e) ⟨⟨rfl,bz h⟩,trivial⟩ ?_|refine C7 (b) ?_|refine CL (by decide) (aa l) ?_|refine CL E.1 (aa c) ?_|refine CL F.1 (aa d) ?_|refine C7 (p) ?_|refine CH (t) ⟨⟨rfl,cI.enc_fz _⟩,trivial⟩ ?_|refine C8 ?_)
  refine CF rfl rfl ?_;exact wC
def dy(k:af):af:={k with q:=k.q+1}
def refd(k:af):Bool:=decide (k.q∈k.e)
def vV(k:af)(p:Int)(m:Int):af:={k with G:=⟨k.G.V,⟨k.G.S.K.set p.toNat {nth k.G.S.K p.toNat with w:=m}⟩⟩}
def jZ(k:af)(p m:Int):af × Bool:=if refd k=true then(dy k,false) else(vV (dy k) p m,true)
theorem Ji(k:af)(p m:Int):af.enc .own (vV k p m)=(af.enc .own k).set 2 (.s .own ((k.G.S.K.map (bi.enc .own)).set p.toNat (bi.enc .own {nth k.G.S.K p.toNat with w:=m}))):=by grind [T5,af.enc,vV]
theorem row16{k:af}(a:aC k=true){f:Nat}(b:f<k.G.V.W.length):(nth k.G.V.W f).length=16:=by grind [bg,aD,gY]
def setCell(k:af)(f:Nat)(c v:Int):af:={k with G:=⟨⟨k.G.V.W.set f ((nth k.G.V.W f).set c.toNat v),k.G.V.a1⟩,k.G.S⟩}
theorem D5(k:af)(f:Nat)(c v:Int):af.enc .own (setCell k f c v)=(af.enc .own k).set 0 (.s .own ((k.G.V.W.map (aF .own)).set f [.s .own (((nth k.G.V.W f).map (rI .own)).set c.toNat [I v])])):=by grind [T5,af.enc,setCell,aF,rI]
def mz(k:af)(p:Int):Nat:=(au k.G.S p).j.toNat
def yU(k:af)(a b c:Int):af:=setCell k (mz k b) c (nth (nth k.G.V.W (mz k a)) c.toNat)
def NQ(k:af)(a b c:Int):Nat->af
 | 0=>k
 | _+1=>yU k a b c
def vn(k:af)(p:Nat)(e:bi):af:={k with G:=⟨k.G.V,⟨k.G.S.K.set p e⟩⟩}
theorem JW(k:af)(p:Nat)(e:bi):af.enc .own (vn k p e)=(af.enc .own k).set 2 (.s .own ((k.G.S.K.map (bi.enc .own)).set p (bi.enc .own e))):=by grind [T5,af.enc,vn]
def JN{k:af}(p:Nat)(e:bi)(h:aG.sml k.G.S):aG.sml (vn k p e).G.S:=by
 refine⟨?_,λx _=>trivial⟩;show(k.G.S.K.set p e).length<=_;rw[I1];exact h.1
def zF(k:af)(p o:Int):af × Bool:=if refd k=true then(dy k,false) else(io (vn (dy k) p.toNat ⟨2,(nth k.G.S.K o.toNat).j⟩) (nth k.G.S.K p.toNat).j,true)
def lD(m:aS)(a v:Int):aS × Int:=
 if(au m.S (a / 16)).w=0 then(m,1) else if(au m.S (a / 16)).w=1 then(m,2) else
 (⟨⟨m.V.W.set (au m.S (a / 16)).j.toNat ((nth m.V.W (au m.S (a / 16)).j.toNat).set (a % 16).toNat v),m.V.a1⟩,m.S⟩,0)
theorem Ff(m:aS)(f:Nat)(c v:Int):aS.enc .own ⟨⟨m.V.W.set f ((nth m.V.W f).set c.toNat v),m.V.a1⟩,m.S⟩ = (aS.enc .own m).set 0 (.s .own ((m.V.W.map (aF .own)).set f [.s .own (((nth m.V.W f).map (rI .own)).set c.toNat [I v])])):=by grind [T5,aS.enc,aF,rI]
def jmay(k:af)(j:cU):Bool:=(aC k&&decide (k.q≠100000))&&(jj j&&decide ((au k.G.S j.k.b2).w≠0/\(au k.G.S j.k.b3).w≠0/\(au k.G.S j.k.b2).j≠(au k.G.S j.k.b3).j))
def jstep(k:af)(j:cU):af × cU:=
 if j.b7=0 then((jZ k j.k.b3 1).1,{j with b7:=if(jZ k j.k.b3 1).2=true then 1 else 5})
 else if j.b7=1 then(if j.a2=j.k.W.length then(k,{j with b7:=2}) else(yU k j.k.b3 j.k.b2 (nth j.k.W j.a2.toNat),{j with a2:=j.a2+1}))
 else if j.b7=2 then((zF k j.k.b3 j.k.b2).1,{j with b7:=if(zF k j.k.b3 j.k.b2).2=true then 4 else 3})
 else if j.b7=3 then(if 0<j.a2 then({k with G:=(lD k.G (j.k.b2*16+nth j.k.W (j.a2 - 1).toNat) 0).1},{j with a2:=j.a2 - 1}) else((jZ k j.k.b3 2).1,{j with b7:=if(jZ k j.k.b3 2).2=true then 5 else 3}))
 else(k,j)
theorem J2{k:af}{f:Int}(h1:∀j,j<k.e.length->0<=nth k.e j)(c:cG k.G.V=true)(d:fF k.G.S k.G.V.a1.length=true)(h:∀j:Nat,j<k.G.V.a1.length->(j:Int)≠f->nth k.G.V.a1 j=decide (0<(pagesOn k.G.S (j:Int)).length))(q:0<=f/\f<k.G.V.a1.length)(i:nth k.G.V.a1 f.toNat=true)(g:0<=k.q/\k.q<=100000/\k.e.length<=40):aC (io k f)=true:=by
 obtain⟨l,n,o,r⟩:=bg.1 c;unfold io;split
 ·rename_i p
  rw[aD];simp only[I1];refine⟨h1,?_,d,λj b=>?_,g⟩
  ·rw[bg]
   simp only[I1,cP];refine⟨l,n,o,λj b=>?_⟩;by_cases a:f.toNat=j
   ·rw[CB ⟨a,b⟩,CB ⟨a,ω⟩];decide
   grind
  rw[cP];by_cases a:f.toNat=j
  ·grind
  rw[C9 (λe=>a e.1)];exact h j b ω
 rename_i p;rw[aD];refine⟨h1,c,d,λj b=>?_,g⟩;by_cases a:(j:Int)=f
 ·rw[a,show j=f.toNat by omega,i]
  grind
 grind
def tEq(t a:aG):Prop:=a.K.length=t.K.length/\∀q:Nat,((nth a.K q).w≠0↔(nth t.K q).w≠0)/\(nth a.K q).j=(nth t.K q).j
theorem tEq.refl(t:aG):tEq t t:=⟨rfl,λ_=>⟨Iff.rfl,rfl⟩⟩
theorem tEq.of{t a:aG}(h:a=t):tEq t a:=by grind [tEq.refl]
theorem tEq.pagesOn{t a:aG}(h:tEq t a)(f:Int):Ab.pagesOn a f=Ab.pagesOn t f:=by
 unfold Ab.pagesOn jg;rw[h.1]
 congr 1
 refine List.filter_congr λq _=>?_
 obtain⟨b,c⟩:=h.2 q;unfold LB;rw[c];exact decide_eq_decide.2 (and_congr b Iff.rfl)
theorem zC{k:af}(h:aC k=true){a:aG}(c:tEq k.G.S a)(d:∀q,q<a.K.length->0<=(nth a.K q).w/\(nth a.K q).w<=2):aC {k with G:=⟨k.G.V,a⟩} = true:=by
 obtain⟨e,f,g,r,i⟩:=aD.1 h;obtain⟨l,n,o⟩:=bv.1 g;rw[aD];refine⟨e,f,bv.2 ⟨λj b=>?_,?_,?_⟩,λj b=>?_,i⟩
 ·replace b:j<a.K.length:=b
  have t:=l j (by rw[<-c.1];exact b);have p:=d j b;obtain⟨u,w⟩:=c.2 j
  grind [kM]
 ·show 1<=a.K.length;rw[c.1];exact n
 ·show a.K.length<=32;rw[c.1];exact o
 grind [tEq.pagesOn]
def lH{k:af}(h:aC k=true)(f:k.q≠100000):aC (dy k)=true:=by
 obtain⟨a,b,c,d,g,i,e⟩:=aD.1 h;rw[aD];exact⟨a,b,c,d,by show 0<=k.q+1;omega,by show k.q+1<=100000;omega,e⟩
theorem yJ{k:af}{p m:Int}(b:(nth k.G.S.K p.toNat).w≠0)(a:m=1\/m=2):tEq k.G.S (vV k p m).G.S:=by
 refine⟨by simp[vV],λq=>?_⟩
 grind [cP,vV]
theorem KE{k:af}(h:aC k=true){p m:Int}(d:(nth k.G.S.K p.toNat).w≠0)(a:m=1\/m=2):aC (vV k p m)=true:=by
 refine zC h (yJ d a) λq g=>?_
 obtain⟨i,j,e,l,n⟩:=aD.1 h;obtain⟨f,o,r⟩:=bv.1 e;have b:q<k.G.S.K.length:=ψ
 have c:=f q b;unfold kM at c;rw[C0]at c;simp only[cP]
 grind
def Bq{k:af}{p m:Int}(h:aC k=true)(c:k.q≠100000)(b:(au k.G.S p).w≠0)(a:m=1\/m=2):aC (jZ k p m).1=true/\tEq k.G.S (jZ k p m).1.G.S:=by
 obtain⟨e,f,d,-⟩:=cC h b;rw[d]at b;unfold jZ;split
 ·exact⟨lH h c,tEq.refl _⟩
 exact⟨KE (lH h c) b a,yJ (k:=dy k) b a⟩
theorem iN{k:af}(h:aC k=true){p:Int}(a:(au k.G.S p).w≠0):mz k p<k.G.V.W.length/\nth k.G.V.a1 (mz k p)=true/\((mz k p:Nat):Int)=(nth k.G.S.K p.toNat).j:=by
 obtain⟨c,d,e,f,g⟩:=cC h a;obtain⟨i,b,j,l,n⟩:=aD.1 h;obtain⟨o,q,r,t⟩:=bg.1 b;have u:((mz k p:Nat):Int)=(au k.G.S p).j:=by unfold mz;omega
 grind [eg]
theorem J8{k:af}(h:aC k=true){f:Nat}{a:List Int}(l:a.length=16)(n:∀v∈a,0<=v/\v<=999)(o:nth k.G.V.a1 f=true):aC {k with G:=⟨⟨k.G.V.W.set f a,k.G.V.a1⟩,k.G.S⟩} = true:=by
 obtain⟨b,c,d,e,g⟩:=aD.1 h;obtain⟨p,q,r,t⟩:=bg.1 c;refine aD.2 ⟨b,bg.2 ⟨?_,?_,?_,λj i=>?_⟩,d,e,g⟩
 ·grind
 ·grind
 ·grind
 simp only[I1]at i |-;simp only[cP]
 grind [gY,iC]
theorem Ak{k:af}(h:aC k=true){f:Nat}(a:f<k.G.V.W.length):(nth k.G.V.W f).length=16/\∀v∈nth k.G.V.W f,0<=v/\v<=999:=by grind [aD,bg,gY,iC]
theorem pY{k:af}(h:aC k=true){f:Nat}(a:f<k.G.V.W.length)(b:nth k.G.V.a1 f=true){c v:Int}(d:0<=v/\v<=999):aC (setCell k f c v)=true:=by
 obtain⟨e,g⟩:=Ak h a;refine J8 h ψ (λz i=>?_) b
 grind
def Jy{k:af}(h:aC k=true){a b c:Int}(d:(au k.G.S a).w≠0)(e:(au k.G.S b).w≠0)(l:0<=c/\c<=15):aC (yU k a b c)=true:=by
 obtain⟨f,n,-⟩:=iN h d;obtain⟨g,i,-⟩:=iN h e;obtain⟨o,j⟩:=Ak h f;exact pY h g i (j _ (am ω))
theorem Pi{k:af}{p o:Int}(h:aC k=true)(i:k.q≠100000)(c:(au k.G.S p).w≠0)(d:(au k.G.S o).w≠0)(l:p≠o):aC (zF k p o).1=true:=by
 unfold zF;split
 ·exact lH h i
 obtain⟨H,n,r⟩:=iN h c;obtain⟨J,K,L⟩:=iN h d;obtain⟨M,N,t,e,f⟩:=cC h c;obtain⟨O,P,u,w,y⟩:=cC h d;obtain⟨A,B,C,D,Q,R,E⟩:=aD.1 h;obtain⟨S,T,U⟩:=bv.1 C;rw[u]at w y d;rw[t]at e f c;have a:∀q,nth (k.G.S.K.set p.toNat ⟨2,(nth k.G.S.K o.toNat).j⟩) q=if p.toNat=q then⟨2,(nth k.G.S.K o.toNat).j⟩ else nth k.G.S.K q:=λq=>by
  rw[cP];by_cases g:p.toNat=q
  ·rw[CB ⟨g,ω⟩,CB g]
  grind
 refine J2 A B (bv.2 ⟨λj b=>?_,?_,?_⟩) (λj b F=>?_) ⟨e,f⟩ (by rw[<-r];exact n) ⟨by show 0<=k.q+1;omega,by show k.q+1<=100000;omega,E⟩
 ·simp only[vn,dy,I1]at b |-
  rw[a]
  grind [kM]
 ·grind [vn,dy]
 ·grind [vn,dy]
 replace b:j<k.G.V.a1.length:=b;show nth k.G.V.a1 j=_;rw[D j b];refine decide_eq_decide.2 ?_;rw[eg,eg];simp only[vn,dy,I1,a];constructor
 ·rintro⟨q,G,V,W⟩
  refine⟨q,G,?_⟩
  grind
 grind
theorem Nr{k:af}{p o:Int}(h:aC k=true)(a:(au k.G.S p).w≠0)(b:(zF k p o).2=true)(q:Nat):(zF k p o).1.G.S.K.length=k.G.S.K.length/\nth (zF k p o).1.G.S.K q=if(q:Int)=p then⟨2,(nth k.G.S.K o.toNat).j⟩ else nth k.G.S.K q:=by
 obtain⟨c,d,-⟩:=cC h a
 grind [oX,cP,zF,vn,dy]
theorem PM{k:af}{p o:Int}(a:(zF k p o).2=false):(zF k p o).1=dy k:=by grind [zF]
def H0{k:af}{a v:Int}(h:aC k=true)(g:0<=a)(b:0<=v/\v<=999):aC {k with G:=(lD k.G a v).1} = true/\(lD k.G a v).1.S=k.G.S:=by
 unfold lD;split
 ·exact⟨h,rfl⟩
 rename_i d;split
 ·exact⟨h,rfl⟩
 obtain⟨e,f,-⟩:=iN h d;exact⟨pY h e f (c:=a % 16) b,rfl⟩
def mM(t:aG)(p:Int):Prop:=∀q:Nat,(nth t.K q).w≠0->(nth t.K q).j=(nth t.K p.toNat).j->(q:Int)=p
structure JI(h:ac):Prop where
 ph:h.b0=true->0<=h.b1.b7/\h.b1.b7<=3
 sp:h.b0=true->∃a∈h.H,∃b∈h.H,a.Q=h.b1.k.b2/\b.Q=h.b1.k.b3/\meshable a b=true
 sk:h.b0=true->mM (tbl h) h.b1.k.b2
 sm:h.b0=true->mM (tbl h) h.b1.k.b3
theorem mM.tEq{t a:aG}{p:Int}(h:mM t p)(b:tEq t a):mM a p:=λq c d=>by
 obtain⟨e,f⟩:=b.2 q;exact h q (e.1 c) (by rw[<-f,<-(b.2 p.toNat).2];exact d)
theorem Pg.tEq{t b:aG}{c:List a8}{sp:List ar}{la:List ay}(h:Pg t c sp la)(a:tEq t b):Pg b c sp la where
 one l hl p hp q hq h1 h2:=h.one l hl p hp q (by rw[<-a.1];exact hq) ((a.2 q).1.1 h1) (by rw[<-(a.2 q).2,<-(a.2 p).2];exact h2)
 bnd p hp:=by rw[a.1];exact h.bnd p hp
 own p hp:=(a.2 p).1.trans (h.own p (by rw[<-a.1];exact hp))
 fre p hp:=(a.2 p).1.trans (h.fre p (by rw[<-a.1];exact hp))
 mesh s hs u hu hne hf:=h.mesh s hs u hu hne (by rw[<-(a.2 _).2,<-(a.2 u.Q.toNat).2];exact hf)
def aR.step{h:ac}{E:List Int}(a:aR h E){k:af}(b:aC k=true)(c:k.G.S.K.length=(tbl h).K.length)(d:Pg k.G.S h.o h.H h.J){j:cU}{m:Bool}(h1:m=true->jj j=true/\(∃s∈h.H,s.Q=j.k.b2)/\∃s∈h.H,s.Q=j.k.b3)(e:m=false->qF j=true):aR {h with M:=k,b0:=m,b1:=j} E:=
 {a with
   ker:=b
   rng:=by show bw ((k.G.S.K.length:Nat):Int) h.o=true;rw[c];exact a.rng
   pg:=d
   job:=h1
   noj:=e}
theorem l7.apart{sp:List ar}{la:List ay}(a:l7 sp la){s:ar}(b:s∈sp){l:ay}(c:l∈la){p:Int}(d:p∈lpgs l l.a3.toNat):s.Q≠p:=by grind [l7.dis,lpgs]
theorem Pg.on{t w:aG}{F:List a8}{sp:List ar}{la:List ay}(g:Pg t F sp la)(k:l7 sp la){a b:ar}(G:a∈sp)(N:b∈sp)(hm:meshable a b=true)(o:mM t a.Q)(C:(nth t.K a.Q.toNat).w≠0)(O:(nth t.K b.Q.toNat).w≠0)(P:0<=b.Q)(Q:w.K.length=t.K.length)(A:∀q:Nat,nth w.K q=if(q:Int)=b.Q then⟨2,(nth t.K a.Q.toNat).j⟩ else nth t.K q):Pg w F sp la:=by
 have c:∀q:Nat,(nth w.K q).w≠0↔(nth t.K q).w≠0:=ψ
 have R:0<=a.Q:=by have:=k.sok a G;grind [aT]
 refine⟨λl r p n q hq S D=>?_,λp n=>by rw[Q];exact g.bnd p n,λp n=>(c p).trans (g.own p ω),λp n=>(c p).trans (g.fre p ω),λs H u J T h=>?_⟩
 ·have E:¬(p:Int)=b.Q:=λe=>k.apart N r n e.symm
  rw[A p,C9 E,A q]at D;rw[c]at S;by_cases e:(q:Int)=b.Q
  ·rw[CB e]at D
   have K:=g.one l r p n a.Q.toNat (by have:=g.bnd _ (d6 (la:=la) G);omega) C D
   grind [l7.apart]
  grind [Pg.one]
 have U:0<=s.Q:=by have:=k.sok s H;grind [aT]
 have V:0<=u.Q:=by have:=k.sok u J;grind [aT]
 have L:∀x∈sp,∀y∈sp,x.Q=y.Q->x=y:=λx B y W e=>by
  obtain⟨i,X,rfl⟩:=aY B;obtain⟨j,Y,rfl⟩:=aY W;rw[g9 (f:=(·.Q)) k.nd X Y e]
 have d:∀x∈sp,(nth t.K x.Q.toNat).w≠0:=λx B=>by
  have Z:0<=x.Q:=by have:=k.sok x B;grind [aT]
  refine(g.own x.Q.toNat (by have:=g.bnd _ (d6 (la:=la) B);omega)).2 ?_
  grind [d6]
 rw[A,A]at h;simp only[show((s.Q.toNat:Nat):Int)=s.Q by omega,show((u.Q.toNat:Nat):Int)=u.Q by omega]at h;by_cases M:s.Q=b.Q
 ·rw[CB M,C9 ω]at h
  have K:=o u.Q.toNat (d u J) h.symm
  grind [iM]
 rw[C9 M]at h;by_cases eu:u.Q=b.Q
 ·rw[CB eu]at h
  have K:=o s.Q.toNat (d s H) h
  grind
 grind [Pg.mesh]
def over(j:cU):Bool:=decide (j.b7=4\/j.b7=5)
def jE(k:af)(j:cU):af × cU:=if jmay k j=true then jstep k j else(k,j)
def mStep(h:ac):ac:={h with M:=(jE h.M h.b1).1,b0:=if over (jE h.M h.b1).2=true then false else h.b0,b1:=if over (jE h.M h.b1).2=true then⟨⟨0,0,[]⟩,0,0⟩ else(jE h.M h.b1).2}
def DN(h:ac):Bool:=decide ((jE h.M h.b1).2.b7=4)
theorem fx{j:cU} : jj j=true↔eI j.k=true/\0<=j.b7/\j.b7<=5/\0<=j.a2/\j.a2<=j.k.W.length:=by grind [jj]
theorem lL{p:cI}(h:eI p=true){i:Nat}(a:i<p.W.length):0<=nth p.W i/\nth p.W i<=15:=by grind [dP,eI,mT]
structure JS(h:ac)(k:af)(j:cU):Prop where
 ker:aC k=true
 len:k.G.S.K.length=(tbl h).K.length
 pg:j.b7≠4\/JI h->Pg k.G.S h.o h.H h.J
 ph:0<=j.b7/\j.b7<=5
 plan:j.k=h.b1.k
 nxt:0<=j.a2/\j.a2<=j.k.W.length
 eq:j.b7≠4->tEq (tbl h) k.G.S
 calls:h.M.q<=k.q/\k.q<=h.M.q+1/\k.e=h.M.e
def wo(k:af)(p m:Int):(jZ k p m).1.q=k.q+1/\(jZ k p m).1.e=k.e:=by
 unfold jZ;split<;>exact⟨rfl,rfl⟩
def LR(k:af)(p o:Int):(zF k p o).1.q=k.q+1/\(zF k p o).1.e=k.e:=by
 unfold zF;split
 ·exact⟨rfl,rfl⟩
 obtain⟨-,a,b,-⟩:=oX (vn (dy k) p.toNat ⟨2,(nth k.G.S.K o.toNat).j⟩) (nth k.G.S.K p.toNat).j;simp only[a,b];exact⟨rfl,rfl⟩
theorem JS.of{h:ac}{E:List Int}(c:aR h E)(H:h.b0=true):JS h (jE h.M h.b1).1 (jE h.M h.b1).2:=by
 obtain⟨N,-,-⟩:=c.job H;obtain⟨J,t,u,n,o⟩:=fx.1 N;unfold jE;split
 case isFalse=>exact⟨c.ker,rfl,λ_=>c.pg,⟨t,u⟩,rfl,⟨n,o⟩,λ_=>tEq.refl _,T4 _,ψ,rfl⟩
 rename_i d;unfold jmay at d;simp only[I0,C0]at d;obtain⟨⟨-,A⟩,-,w,p,O⟩:=d;have fin:∀(k:af)(j:cU),aC k=true->tEq (tbl h) k.G.S->0<=j.b7/\j.b7<=5->j.k=h.b1.k->0<=j.a2/\j.a2<=j.k.W.length->h.M.q<=k.q/\k.q<=h.M.q+1/\k.e=h.M.e->JS h k j:=
  λk j P B Q R S T=>⟨P,B.1,λ_=>c.pg.tEq B,Q,R,S,λ_=>B,T⟩
 have K:=(aD.1 c.ker).2.2.2.2;unfold jstep;split
 ·obtain⟨g,r⟩:=Bq c.ker A p (m:=1) (.inl rfl)
  obtain⟨y,C⟩:=wo h.M h.b1.k.b3 1;refine fin _ _ g r ?_ rfl ⟨n,o⟩ ψ
  grind
 split
 ·split
  ·exact fin _ _ c.ker (tEq.refl _) ψ rfl ⟨n,o⟩ ψ
  have l:=lL J (i:=h.b1.a2.toNat) ω;refine fin _ _ (Jy c.ker p w l) (tEq.refl _) ⟨t,u⟩ rfl ψ ⟨T4 _,by show h.M.q<=h.M.q+1;omega,rfl⟩
 split
 ·have D:h.b1.k.b3≠h.b1.k.b2:=ψ
  have g:=Pi c.ker A p w D;obtain⟨y,C⟩:=LR h.M h.b1.k.b3 h.b1.k.b2;cases e:(zF h.M h.b1.k.b3 h.b1.k.b2).2 with
  | false=>
   rw[C9 (by simp)];refine fin _ _ g (tEq.of ?_) ψ rfl ⟨n,o⟩ ψ;rw[PM e];rfl
  | true=>
   rw[CB rfl];obtain⟨U,m2,m3,-⟩:=cC c.ker p;obtain⟨n1,n2,n3,-⟩:=cC c.ker w;have f:=Nr c.ker p e;refine⟨g,(f 0).1,λV=>?_,ψ,rfl,⟨n,o⟩,ψ,by rw[y];omega,by rw[y];omega,C⟩;have W:JI h:=ψ
   obtain⟨a,X,b,Y,M,F,G⟩:=W.sp H;refine c.pg.on c.L X Y G (by grind [JI.sk]) (by rw[M];show(nth h.M.G.S.K _).w≠0;grind) (by rw[F];show(nth h.M.G.S.K _).w≠0;grind) (by rw[F];exact U) (f 0).1 λq=>?_
   rw[(f q).2,F,M];rfl
 split
 ·split
  ·rename_i Z
   have l:=lL J (i:=(h.b1.a2 - 1).toNat) ω;have hk0:=(cC c.ker w).1;obtain⟨g,r⟩:=H0 c.ker (a:=h.b1.k.b2*16+nth h.b1.k.W (h.b1.a2 - 1).toNat) (v:=0) ω ω;exact fin _ _ g (tEq.of r) ⟨t,u⟩ rfl ψ ⟨T4 _,ψ,rfl⟩
  obtain⟨g,r⟩:=Bq c.ker A p (m:=2) (.inr rfl);obtain⟨y,C⟩:=wo h.M h.b1.k.b3 2;refine fin _ _ g r ?_ rfl ⟨n,o⟩ ψ
  grind
 exact fin _ _ c.ker (tEq.refl _) ⟨t,u⟩ rfl ⟨n,o⟩ ψ
theorem aR.mStep{h:ac}{E:List Int}(a:aR h E)(b:JI h)(c:h.b0=true):aR (mStep h) E/\JI (mStep h):=by
 have s:=JS.of a c;unfold Ab.mStep;generalize (jE h.M h.b1).1=k at s |-;generalize (jE h.M h.b1).2=j at s |-;cases e:over j with
 | true=>
  refine⟨a.step s.ker s.len (s.pg (.inr b)) ψ (λ_=>by simp[qF]),?_⟩;exact⟨ψ,λh=>by simp at h,ψ,ψ⟩
 | false=>
  simp only[Bool.false_eq_true,if_false];unfold over at e;simp only[I4,not_or]at e;have f:=s.eq e.1;have d:=s.ph;refine⟨a.step s.ker s.len (s.pg (.inr b)) (λ_=>⟨fx.2 ⟨by rw[s.plan];grind [fx,aR.job],s.ph.1,s.ph.2,s.nxt⟩,by rw[s.plan];exact(a.job c).2⟩) ψ,?_⟩;refine⟨ψ,λ_=>?_,λ_=>?_,λ_=>?_⟩
  ·grind [JS.plan,JI.sp]
  ·show mM k.G.S j.k.b2
   grind [JS.plan,mM.tEq,JI.sk]
  show mM k.G.S j.k.b3
  grind [JS.plan,mM.tEq,JI.sm]
def Pm(k:af)(a:Int):Int:=nth (nth k.G.V.W (au k.G.S (a / 16)).j.toNat) (a % 16).toNat
def cellsOf(k:af)(a:Int)(n:Nat):List Int:=(List.range n).map λ(i:Nat)=>Pm k (a+i)
theorem qG{sp:List ar}{la:List ay}{a:Int}(h:(denotes sp la a).b6=1):∃i:Nat,i<sp.length/\(denotes sp la a).c7=i/\cL (nth sp i) a=true/\denotes sp la a=nu i (nth sp i) a:=by
 unfold denotes at h |-;cases e:sp.findIdx? (cL · a) with
 | some i=>
  obtain⟨b,c,-⟩:=I6.1 e;refine⟨i,b,rfl,?_,rfl⟩;rw[bm (W1 b)];exact c
 | none=>
  grind
theorem BA{sp:List ar}{la:List ay}{a:Int}(h:(denotes sp la a).b6=3):∃i:Nat,i<la.length/\(denotes sp la a).c7=i/\bx (nth la i) a=true/\denotes sp la a = ⟨3,i,0,a - 16*(nth la i).Q⟩:=by
 unfold denotes at h |-;cases e:sp.findIdx? (cL · a) with
 | some i=>
  grind [nu]
 | none=>
  rw[e]at h;simp only at h |-;cases c:la.findIdx? (bx · a) with
  | some i=>
   obtain⟨b,d,-⟩:=I6.1 c;refine⟨i,b,rfl,?_,rfl⟩;rw[bm (W1 b)];exact d
  | none=>grind
theorem mQ{n:Int}(h:0<=aJ n):1<=n/\n<=8:=by grind [aJ]
theorem M8{h:ac}{o:bF}(a:ig h o=true):0<=o.X/\o.X<=2000/\1<=o.d/\o.d<=1000:=by
 unfold ig at a;simp only[I0,U5,C0]at a;obtain⟨-,⟨c,d⟩|⟨c,d⟩⟩:=a
 ·obtain⟨i,f,b,e,-⟩:=qG c
  rw[b,I2]at d;unfold cL aT at e;simp only[I0,C0]at e;have:=mQ (n:=o.d) ω;omega
 grind [BA,bx,bP]
theorem uT{h:ac}(a:dw h=true):cr h=true/\eG h=true:=by grind [dw]
theorem ME{h:ac}(a:dw h=true):1<=h.a2/\h.a2<=1000000:=by
 have:=(uT a).1
 grind [cr]
theorem N4{h:ac}(c:dw h=true){i:Nat}(f:i<h.O.length):1<=(nth h.O i).Id/\(nth h.O i).Id<h.a2/\0<=(nth h.O i).X/\(nth h.O i).X<=2000/\1<=(nth h.O i).d/\(nth h.O i).d<=1000/\∀j,j<i->(nth h.O j).Id≠(nth h.O i).Id:=by
 obtain⟨-,g⟩:=uT c;obtain⟨n,o⟩:=ME c;have a:=dP g f;rw[ed ω ω]at a;unfold objAt gi at a;simp only[I0,C0,Bool.not_eq_true']at a;obtain⟨⟨k,d⟩,l⟩:=a;have b:=M8 l;refine⟨k.2.1,ω,b.1,b.2.1,b.2.2.1,b.2.2.2,λj p e=>?_⟩;rw[List.any_eq_false]at d;refine d (nth h.O j) ?_ (by grind [jA]);have:(h.O.take i)[j]? = some (nth h.O j):=by grind [ah]
 grind
def co{α:Type}[Inhabited α](f:α->Int)(xs:List α):Nat->Int
 | 0=>0
 | i+1=>co f xs i+f (nth xs i)
theorem eZ{α:Type}[Inhabited α]{f:α->Int}{xs:List α}{b:Int}(h:∀y∈xs,0<=f y/\f y<=b):∀i:Nat,i<=xs.length->0<=co f xs i/\co f xs i<=b*i
 | 0,_=>by simp[co]
 | i+1,a=>by
  have c:=eZ h i ω
  grind [am,co]
def ca(e:bi):Int:=if e.w≠0 then 1 else 0
theorem tI(e:bi):0<=ca e/\ca e<=1:=by grind [ca]
def ek(t:aG):Int:=co ca t.K t.K.length
def mC(s:ar)(c:Nat):Bool:=aQ s.a6 (((c:Nat):Int) / csz s.Y)
def pf(s:ar)(n:Nat):List Int:=((List.range n).filter (mC s)).map λ(i:Nat)=>(i:Int)
theorem DK{s:ar}{n:Nat}(h:mC s n=true):pf s (n+1)=pf s n++[(n:Int)]:=by grind [List.range_succ,pf]
theorem G0{s:ar}{n:Nat}(h:mC s n=false):pf s (n+1)=pf s n:=by grind [List.range_succ,pf]
theorem n6(s:ar)(n:Nat):(pf s n).length<=n:=by grind [pf]
def Bc(s:ar):Int:=((pf s 16).length:Nat)
theorem ET(s:ar):0<=Bc s/\Bc s<=16:=by grind [n6,Bc]
def gT(sp:List ar)(la:List ay):Int:=co Bc sp sp.length+co (·.d) la la.length
theorem FV{la:List ay}(h:la.all bP=true):∀l∈la,0<=l.d/\l.d<=1000:=λl a=>by grind [bP]
def cz(o:bF):Int:=if 0<=aJ o.d then csz (aJ o.d) else o.d
def qV{h:ac}(a:dw h=true):∀o∈h.O,1<=o.d/\o.d<=1000:=λo b=>by
 obtain⟨i,c,rfl⟩:=aY b;obtain⟨f,g,j,k,d,e,-⟩:=N4 a c;exact⟨d,e⟩
def csz8(k:Int):0<=csz k/\csz k<=8:=mY k
theorem wh{h:ac}(a:dw h=true):∀o∈h.O,0<=cz o/\cz o<=1000:=λo b=>by
 have c:=qV a o b;have d:=csz8 (aJ o.d)
 grind [cz]
theorem tj:∀(a:List (List Int))(k:Nat),(∀l∈a,l.length<=8)->0<=bT k a/\bT k a<=64*a.length
 | [],_,_=>by simp[bT]
 | l::a,k,h=>by
  have c:=tj a (k+1) ψ;have b:=ED k;have d:=AD (h l (R1 ..)) b.1 b.2
  grind [bT]
def iW(c:aA):0<=bk c/\bk c<=256:=by
 unfold bk;split
 ·rename_i h
  obtain⟨b,a⟩:=jp h;have:=tj c.Z 0 a;omega
 omega
def cw(h:ac)(a:Int):Int:=csz (nth h.H (dN h (a / 16)).toNat).Y
def bS(h:ac):bZ:=
 ⟨dC h,ek h.M.G.S,d3 h.M.G.V,gT h.H h.J,co cz h.O h.O.length,co bk h.R h.R.length,quarCells h.a0.y h.a0.y.length,co (cw h) (a9 h.b) (a9 h.b).length⟩
theorem Ju{h:ac}(c:dw h=true){a:Int}(d:a∈a9 h.b):∃i:Nat,i<h.H.length/\(denotes h.H h.J a).c7=i/\dN h (a / 16)=i/\0<=a/\a<=600:=by
 obtain⟨-,e,-,-,-,-,-,-,f,-⟩:=rW c;have b:=T3.1 ((kR h).1 f).2 a d;unfold jc cW at b;simp only[I0,C0]at b;obtain⟨i,g,k,l,-⟩:=qG b.1.1;have j:=l7.of e;have n:=aB (j.sok _ (am g))
 grind [eU,l7.sok,jT,nth]
def z6(a:bZ):Bool:=decide ((0<=a.a3/\a.a3<=100000)/\(0<=a.c9/\a.c9<=100000)/\(0<=a.V/\a.V<=100000)/\(0<=a.e1/\a.e1<=100000)/\(0<=a.e2/\a.e2<=100000)/\(0<=a.c8/\a.c8<=100000)/\(0<=a.c6/\a.c6<=100000)/\(0<=a.d0/\a.d0<=100000)/\a.e1=a.e2+a.c8+a.c6+a.d0/\a.V<=a.c9/\a.c9<=a.a3)
def bor(n m:Int):Int:=((n.toNat ||| m.toNat:Nat):Int)
def qu(sp:List ar)(p:Int)(b:Int):Nat->Int
 | 0=>b
 | j+1=>if(nth sp j).Q=p then bor (qu sp p b j) (nth sp j).a6 else qu sp p b j
def jI(sp:List ar)(ps:List Int)(b:Int):Nat->Int
 | 0=>b
 | k+1=>qu sp (nth ps k) (jI sp ps b k) sp.length
def gy(h:ac)(i:Nat):Int:=jI h.H (aH h (nth h.H i).Q) (nth h.H i).a6 (aH h (nth h.H i).Q).length
def LG{n m:Int}(h1:0<=n/\n<=65535)(a:0<=m/\m<=65535):0<=bor n m/\bor n m<=65535:=by
 have b:n.toNat ||| m.toNat<2 ^ 16:=Nat.or_lt_two_pow ω ω
 unfold bor;omega
theorem uC{sp:List ar}(h:∀s∈sp,aT s=true){j:Nat}(a:j<sp.length):0<=(nth sp j).a6/\(nth sp j).a6<=65535:=by
 have b:=h _ (am a);have c:=Fe (nth sp j).Y
 grind [aT]
theorem u9{sp:List ar}(h:∀s∈sp,aT s=true){p b:Int}(a:0<=b/\b<=65535):∀j,j<=sp.length->0<=qu sp p b j/\qu sp p b j<=65535
 | 0,_=>a
 | j+1,d=>by
  have c:=u9 h (p:=p) a j ω;simp only[qu];split
  ·exact LG c (uC h ω)
  exact c
def rH{sp:List ar}(h:∀s∈sp,aT s=true){ps:List Int}{b:Int}(a:0<=b/\b<=65535):∀k,0<=jI sp ps b k/\jI sp ps b k<=65535
 | 0=>a
 | k+1=>by simp only[jI];exact u9 h (rH h a k) _ (U2 _)
theorem mA{b i:Int}(a:0<=b)(c:0<=i/\i<=15):aQ b i=b.toNat.testBit i.toNat:=by grind [aQ]
theorem FI{n m i:Int}(b:0<=n)(c:0<=m)(a:0<=i/\i<=15):aQ (bor n m) i=(aQ n i || aQ m i):=by
 rw[mA (by unfold bor;omega) a,mA b a,mA c a];unfold bor
 simp_all
theorem DQ{sp:List ar}(h:∀s∈sp,aT s=true){p b i:Int}(a:0<=b/\b<=65535)(c:0<=i/\i<=15):∀j,j<=sp.length->(aQ (qu sp p b j) i=true↔aQ b i=true\/∃q,q<j/\(nth sp q).Q=p/\aQ (nth sp q).a6 i=true)
 | 0,_=>by simp[qu]
 | j+1,d=>by
  have e:=DQ h (p:=p) a c j ω
  grind [u9,uC,FI,qu]
theorem yh{sp:List ar}(h:∀s∈sp,aT s=true){ps:List Int}{b i:Int}(d:0<=b/\b<=65535)(f:0<=i/\i<=15):∀k,(aQ (jI sp ps b k) i=true↔aQ b i=true\/∃u,u<k/\∃q,q<sp.length/\(nth sp q).Q=nth ps u/\aQ (nth sp q).a6 i=true)
 | 0=>by simp[jI]
 | k+1=>by
  have g:=yh h (ps:=ps) d f k;have j:=rH h (ps:=ps) d k;simp only[jI];rw[DQ h j f _ (U2 _),g];constructor
  ·rintro((e|⟨u,c,a⟩)|⟨q,c,a⟩)
   ·exact .inl e
   ·exact .inr ⟨u,ω,a⟩
   exact .inr ⟨k,ω,q,c,a⟩
  rintro(e|⟨u,c,a⟩)
  ·exact .inl (.inl e)
  by_cases l:u=k
  ·grind
  exact .inl (.inr ⟨u,ω,a⟩)
theorem Ec{s:ar}(a:aT s=true){c:Nat}(b:c<16):0<=((c:Nat):Int) / csz s.Y/\((c:Nat):Int) / csz s.Y<=15:=by
 have d:=aB a
 grind [bW]
def lz{α:Type}(p:α->Bool)(xs:List α):Nat:=(xs.findIdx? p).getD xs.length
def jd{α:Type}(p:α->Bool)(xs:List α)(y:α):List α:=xs.take (lz p xs)++y::xs.drop (lz p xs)
theorem MR{α:Type}(p:α->Bool)(xs:List α):lz p xs<=xs.length:=by
 unfold lz;cases e:xs.findIdx? p with
 | none=>exact U2 _
 | some i=>grind [I6]
theorem jV{α:Type}(p:α->Bool)(xs:List α)(y:α):(jd p xs y).Perm (y::xs):=by grind [List.perm_middle,List.take_append_drop,jd]
theorem dr{α:Type}{p:α->Bool}{xs:List α}{y z:α} : z∈jd p xs y↔z=y\/z∈xs:=by grind [jV]
theorem uA{α:Type}{p:α->Bool}{xs:List α}{i:Nat}(b:i<=xs.length)(a:∀(j:Nat)(z:α),j<i->xs[j]? = some z->p z=false)(c:∀z,xs[i]? = some z->p z=true):lz p xs=i:=by
 unfold lz;by_cases e:i<xs.length
 ·rw[uM (W1 e) ψ a];rfl
 grind [AA]
theorem kG{α:Type}{f:α->Int}{xs:List α}{y:α}(h:xs.Pairwise λa b=>f a<f b)(g:∀z∈xs,f z≠f y):(jd (λz=>decide (f y<=f z)) xs y).Pairwise λa b=>f a<f b:=by
 have k:∀z∈xs.drop (lz (λz=>decide (f y<=f z)) xs),f y<f z:=λz c=>by
  obtain⟨j,d,rfl⟩:=List.mem_drop_iff_getElem.1 c;have l:=g _ (List.getElem_mem d);cases e:xs.findIdx? (λz=>decide (f y<=f z)) with
  | none=>
   grind [lz]
  | some i=>
   grind [I6,List.pairwise_iff_getElem,lz]
 have n:∀z∈xs.take (lz (λz=>decide (f y<=f z)) xs),f z<f y:=λz c=>by
  obtain⟨j,d,rfl⟩:=List.mem_take_iff_getElem.1 c;unfold lz at d;cases e:xs.findIdx? (λz=>decide (f y<=f z)) with
  | none=>
   grind
  | some i=>
   grind [I6]
 unfold jd
 grind [List.pairwise_cons]
def gF(b i:Int):Int:=((b.toNat ||| 2 ^ i.toNat:Nat):Int)
def qt(s:ar)(i:Int):ar:={s with a6:=gF s.a6 i}
theorem w9(b i:Int)(j:Nat):(gF b i).toNat.testBit j=(b.toNat.testBit j || decide (i.toNat=j)):=by
 unfold gF;rw[I2,Nat.testBit_or,Nat.testBit_two_pow]
theorem FK{b i:Int}(a:0<=b)(c:0<=i/\i<=15)(j:Int):aQ (gF b i) j=true↔aQ b j=true\/j=i:=by grind [jq,w9,gF]
theorem fY{k:Int}(h:0<=k/\k<=3):lim k=2 ^ (slots k).toNat - 1/\0<=slots k/\slots k<=16/\slots k*csz k=16:=by
 obtain rfl|rfl|rfl|rfl:k=0\/k=1\/k=2\/k=3:=ω
 all_goals decide
theorem Aw{s:ar}(h:aT s=true){i:Int}(k:0<=i/\i<slots s.Y):aT (qt s i)=true:=by
 have b:=aB h;obtain⟨c,l,o,-⟩:=fY b.2.2;unfold aT at h;rw[C0]at h;obtain⟨d,e,f,g,p,a⟩:=h;refine O0 ⟨d,e,f,g,by show 0<=gF s.a6 i;grind [gF],?_⟩;show gF s.a6 i<=lim s.Y;rw[c]at a |-;have j:((2 ^ (slots s.Y).toNat:Nat):Int)=(2:Int) ^ (slots s.Y).toNat:=by norm_cast
 rw[<-j]at a |-;have:=Nat.or_lt_two_pow (x:=s.a6.toNat) (y:=2 ^ i.toNat) (n:=(slots s.Y).toNat) ω (Nat.pow_lt_pow_right ω ω)
 grind [gF]
theorem HN{s u:ar}{i:Int}(c:0<=i/\i<slots s.Y)(k:aQ u.a6 i=false)(h:meshable s u=true):meshable (qt s i) u=true:=by
 unfold meshable at h |-;simp only[I0,C0]at h |-;obtain⟨⟨a,b⟩,d,e,l⟩:=h;have f:=aB a;obtain⟨n,o,p,-⟩:=fY f.2.2;have g:=ep b;refine⟨⟨Aw a c,b⟩,d,e,?_⟩;refine Nat.eq_of_testBit_eq λj=>?_
 grind [w9,jq,qt]
theorem sg{s:ar}(h:aT s=true){i:Int}(c:0<=i/\i<slots s.Y)(b:Int):ew (qt s i) b↔ew s b\/b=16*s.Q+i*csz s.Y:=by
 have a:=aB h;obtain⟨d,e,f,g⟩:=fY a.2.2;have j:=bW a.2.2;unfold ew
 grind [FK,ep,qt]
def Jm{sp:List ar}{i:Nat}(k:Int)(a:i<sp.length):(sp.set i (qt (nth sp i) k)).map (·.Q)=sp.map (·.Q):=by
 rw[T5];refine List.ext_getElem (by simp) λj b c=>?_
 rw[List.getElem_set];split
 ·rename_i e;subst e
  rw[List.getElem_map];show(nth sp i).Q=_;rw[bm (W1 a)]
 rfl
def iB.setS{sp:List ar}{la:List ay}(p:l7 sp la){i:Nat}(g:i<sp.length){k:Int}(h:0<=k/\k<slots (nth sp i).Y)(b c:Int):iB (sp.set i (qt (nth sp i) k)) b c↔iB sp b c\/(b=16*(nth sp i).Q+k*csz (nth sp i).Y/\(c<0\/(nth sp i).Y=c)):=by
 have d:=p.sok _ (am g);constructor
 ·rintro⟨s,l,f,a⟩
  rcases gV l with rfl|⟨j,n,q,rfl⟩
  ·rcases(sg d h b).1 f with o|o
   ·exact .inl ⟨_,am g,o,a⟩
   exact .inr ⟨o,a⟩
  exact .inl ⟨_,am n,f,a⟩
 rintro(⟨s,l,f,a⟩|⟨f,a⟩)
 ·obtain⟨j,n,rfl⟩:=aY l
  by_cases e:j=i
  ·subst e
   exact⟨_,iq _ g,(sg d h b).2 (.inl f),a⟩
  exact⟨_,jf _ n e,f,a⟩
 exact⟨_,iq _ g,(sg d h b).2 (.inr f),a⟩
theorem MC{h:ac}{E:List Int}(d:aR h E){i:Nat}(g:i<h.H.length){k:Int}(o:0<=k/\k<=15)(b:aQ (gy h i) k=false):aQ (nth h.H i).a6 k=false/\∀u∈h.H,(nth (tbl h).K u.Q.toNat).j=(nth (tbl h).K (nth h.H i).Q.toNat).j->aQ u.a6 k=false:=by
 have e:=d.L;have p:=ep (e.sok _ (am g));unfold gy at b;rw[<-X4,yh e.sok p o]at b;rw[not_or]at b;have q:aQ (nth h.H i).a6 k=false:=by simpa using b.1
 have a:∀s∈h.H,s.Q.toNat<dC h/\(nth (tbl h).K s.Q.toNat).w≠0/\((s.Q.toNat:Nat):Int)=s.Q:=λs l=>by
  have K:=aB (e.sok s l);have M:=d.pg.bnd s.Q (d6 l);have n:s.Q.toNat<(tbl h).K.length:=ω
  have r:((s.Q.toNat:Nat):Int)=s.Q:=ω
  exact⟨n,(d.pg.own _ n).2 (by grind [d6]),r⟩
 refine⟨q,λu c t=>?_⟩;rw[<-X4];intro w;obtain⟨y,A,B⟩:=a _ (am g);obtain⟨C,D,F⟩:=a u c;have G:u.Q∈aH h (nth h.H i).Q:=by
  rw[<-B,eB y A,<-F];exact dx.2 ⟨C,D,t⟩
 obtain⟨v,H,f⟩:=aY G;obtain⟨j,J,rfl⟩:=aY c;exact b.2 ⟨v,H,j,J,f.symm,w⟩
theorem aR.take{h:ac}{E:List Int}{i:Nat}{k sd:Int}(d:aR h E)(r:i<h.H.length)(F:0<=k/\k<slots (nth h.H i).Y)(w:aQ (gy h i) k=false)(P:0<=sd/\sd<=1073741823) :
  aR {h with c1:=sd,H:=h.H.set i (qt (nth h.H i) k)} ((16*(nth h.H i).Q+k*csz (nth h.H i).Y)::E):=by
 have A:=d.L;have G:=A.sok _ (am r);have B:=aB G;obtain⟨l1,l2,l3,l4⟩:=fY B.2.2;have hz:=bW B.2.2;obtain⟨u1,u2⟩:=MC d r ω w;have g:=λb c=>iB.setS A r F b c
 have H:=Jm k r;generalize ha:16*(nth h.H i).Q+k*csz (nth h.H i).Y=a at g |-;have J:¬ew (nth h.H i) a:=by
  rintro⟨-,-,-,h4⟩
  grind
 have hrange:16*(nth h.H i).Q<=a/\a<=16*(nth h.H i).Q+15:=ψ
 have K:¬Live h.H h.J a:=by
  rintro(⟨s,p,t,-⟩|⟨l,Q,e⟩)
  ·obtain⟨j,N,rfl⟩:=aY p
   have:=g9 (f:=(·.Q)) A.nd N r (by have a1:=t.1;have a2:=t.2.1;omega)
   grind
  exact(uU A Q).1 _ (am r) ω
 have M:a∉E++holders h:=λO=>K ((d.mem a).1 O)
 have n:∀s∈h.H.set i (qt (nth h.H i) k),∃u∈h.H,u.Q=s.Q/\(s=u\/(u=nth h.H i/\s=qt u k)):=λs p=>by
  rcases gV p with rfl|⟨j,N,R,rfl⟩
  ·exact⟨_,am r,rfl,.inr ⟨rfl,rfl⟩⟩
  grind [am]
 generalize S:h.H.set i (qt (nth h.H i) k)=sp at g H n |-;have q:pgs sp h.J=pgs h.H h.J:=by grind [pgs]
 have T:∀u∈h.H,∃s∈sp,s.Q=u.Q:=λu w=>by
  have:u.Q∈sp.map (·.Q):=ψ
  grind
 exact {d with
   lay:=by grind [aR.lay,Aw,bf]
   srs:=by
     have t:(h.H.map (·.Q)).Pairwise (λa b=>a<b):=List.pairwise_map.2 d.srs
     grind
   pg:=⟨d.pg.one,by rw[q];exact d.pg.bnd,by rw[q];exact d.pg.own,d.pg.fre,λs p u w U V=>by
     obtain⟨W,X,Y,Z⟩:=n s p;obtain⟨u',hu',eu,hu2⟩:=n u w;have hf':(nth (tbl h).K W.Q.toNat).j=(nth (tbl h).K u'.Q.toNat).j:=by rw[Y,eu];exact V
     grind [Pg.mesh,aR.pg,iM,HN]⟩
   nums:=by
     have:=d.nums
     grind [cr]
   oow:=λo ho=>by
     rcases d.oow o ho with⟨s,p,t,h2⟩|t
     · obtain⟨u,w,g1,C⟩:=(g o.X (aJ o.d)).2 (.inl ⟨s,p,t,.inr h2⟩)
       refine .inl ⟨u,w,g1,?_⟩;rcases C with C|C
       · have:=aB (A.sok _ p);omega
       exact C
     exact .inr t
   hca:=λc B k F b D=>(g b k).2 (.inl (d.hca c B k F b D))
   hqu:=λy hy=>(g _ _).2 (.inl (d.hqu y hy))
   hfl:=λb D=>(g _ _).2 (.inl (d.hfl b D))
   hin:=λb D=>by grind [aR.hin]
   nd:=by
     rw[List.cons_append];exact List.nodup_cons.2 ⟨M,d.nd⟩
   mem:=λb=>by
     show b∈a::E++holders h↔Live sp h.J b
     grind [aR.mem,Live]
   job:=λO=>by grind [aR.job]}
def uy(c:aA)(k:Nat):aA:=⟨c.Z.set k ((nth c.Z k).take ((nth c.Z k).length - 1))⟩
theorem LJ{l:List Int}(h:0<l.length):l=l.take (l.length - 1)++[nth l (l.length - 1)]:=by grind [jn,List.take_append_drop]
theorem aR.pop{h:ac}{E:List Int}{t k:Nat}(d:aR h E)(f:t<h.R.length)(g:k<(nth h.R t).Z.length)(l:0<(nth (nth h.R t).Z k).length)(u:bj (uy (nth h.R t) k)=true) :
  aR {h with R:=h.R.set t (uy (nth h.R t) k)} (nth (nth (nth h.R t).Z k) ((nth (nth h.R t).Z k).length - 1)::E)/\iB h.H (nth (nth (nth h.R t).Z k) ((nth (nth h.R t).Z k).length - 1)) k:=by
 have n:=LJ l;have i:=d.hca _ (am f) k g (nth (nth (nth h.R t).Z k) ((nth (nth h.R t).Z k).length - 1)) ψ;refine⟨?_,i⟩;generalize w:nth (nth (nth h.R t).Z k) ((nth (nth h.R t).Z k).length - 1)=a at n i |-;have p:(E++holders h).Perm (a::E++holders {h with R:=h.R.set t (uy (nth h.R t) k)}):=by
  refine List.perm_iff_count.2 λb=>?_
  have A:=iA (λc:aA=>c.Z.flatten) b h.R t (uy (nth h.R t) k) f;have q:=iA (λy:List Int=>y) b (nth h.R t).Z k ((nth (nth h.R t).Z k).take ((nth (nth h.R t).Z k).length - 1)) g;rw[<-ka,<-ka]at q
  grind [uy,holders,ci]
 exact {d with
   nc:=by grind [aR.nc]
   cach:=λc e=>by grind [aR.cach]
   onu:=by show ∀o∈h.O,1<=o.Id/\o.Id<=h.a2 - 1/\0<=o.a4/\o.a4<=(h.R.set t _).length - 1;rw[I1];exact d.onu
   hca:=λc e j B b r=>by grind [aR.hca,cP,am,uy]
   hin:=λb r=>by grind [iB.any,aR.hin]
   nd:=p.nodup_iff.1 d.nd
   mem:=λb=>by grind [aR.mem]}
def LZ(a:Int)(o:bF):Bool:=decide (a<=o.X)
def addO(h:ac)(a size t:Int):ac:={h with O:=jd (LZ a) h.O ⟨h.a2,a,size,t⟩,a2:=h.a2+1}
theorem yj{h:ac}(a:cr h=true)(b:h.a2<1000000):decide (0<=h.c1/\h.c1<=1073741823/\0<=h.b5/\h.b5<=1000000/\0<=h.c5/\h.c5<=1000/\1<=h.a2+1/\h.a2+1<=1000000)=true:=by grind [cr]
theorem aR.addO{h:ac}{E:List Int}{a size t:Int}(c:aR h (a::E))(d:LL h.H h.J ⟨h.a2,a,size,t⟩)(p:h.a2<1000000)(q:0<=t/\t<=h.R.length - 1):aR (addO h a size t) E:=by
 have i:=jV (LZ a) h.O ⟨h.a2,a,size,t⟩;have n:(a::E++holders h).Perm (E++holders (Ab.addO h a size t)):=by
  have r:=i.map (·.X);refine List.perm_iff_count.2 λb=>?_
  have u:=r.count_eq b;simp only[O5,List.count_cons]at u;simp only[holders,ci,Ab.addO,R5,List.cons_append,List.count_cons];omega
 have j:=c.nd;rw[List.cons_append]at j;obtain⟨k,-⟩:=List.nodup_cons.1 j;have l:∀o∈h.O,o.X≠a:=λo d e=>k (R2.2 (.inr (by unfold holders;grind)))
 exact {c with
   nums:=yj c.nums p
   osr:=kG (f:=λo:bF=>o.X) (y:=⟨h.a2,a,size,t⟩) c.osr l
   onu:=λo d=>by
     rcases dr.1 d with rfl|d
     · have:=c.nums
       unfold cr at this;rw[C0]at this;exact⟨ψ,by show h.a2<=h.a2+1 - 1;omega,q⟩
     have:=c.onu o d;exact⟨this.1,by show o.Id<=h.a2+1 - 1;omega,this.2.2⟩
   oid:=by
     show((jd (LZ a) h.O ⟨h.a2,a,size,t⟩).map (·.Id)).Nodup;rw[(i.map _).nodup_iff,O5];refine List.nodup_cons.2 ⟨λw=>?_,c.oid⟩;obtain⟨o,d,e⟩:=X3.1 w;have:=(c.onu o d).2.1
     grind
   oow:=λo g=>by
     rcases dr.1 g with rfl|g
     · exact d
     exact c.oow o g
   hin:=λb A=>c.hin b ψ
   nd:=n.nodup_iff.1 c.nd
   mem:=λb=>by rw[<-n.mem_iff];exact c.mem b}
def iF(xs:List a8)(n:Int):Nat->Int
 | 0=>-1
 | i+1=>if n<=(nth xs i).a5/\(iF xs n i<0\/(nth xs i).a5<(nth xs (iF xs n i).toNat).a5) then(i:Nat) else iF xs n i
def gv(xs:List a8)(n:Int):Int:=iF xs n xs.length
def a7(xs:List a8)(n:Int):List a8 × Int × Bool:=
 if gv xs n<0 then(xs,-1,false)
 else if(nth xs (gv xs n).toNat).a5=n then(dele xs (gv xs n).toNat,(nth xs (gv xs n).toNat).At,true)
 else(xs.set (gv xs n).toNat ⟨(nth xs (gv xs n).toNat).At+n,(nth xs (gv xs n).toNat).a5 - n⟩,(nth xs (gv xs n).toNat).At,true)
theorem xd(xs:List a8)(n:Int):∀i,i<=xs.length->iF xs n i = -1\/(0<=iF xs n i/\iF xs n i<i/\n<=(nth xs (iF xs n i).toNat).a5)
 | 0,_=>.inl rfl
 | i+1,a=>by
  have b:=xd xs n i ω
  grind [iF]
def w6{xs:List a8}(h:iL xs){i j:Nat}(a:i<j)(b:j<xs.length):(nth xs i).At+(nth xs i).a5<(nth xs j).At:=by
 have:=List.pairwise_iff_getElem.1 h.1 i j ω b a
 rwa [<-bm (W1 (show i<xs.length by omega)),<-bm (W1 b)]at this
theorem vJ{xs:List a8}{p:Int} : RH xs p↔∃j,j<xs.length/\(nth xs j).At<=p/\p<(nth xs j).At+(nth xs j).a5:=by grind [aY,am,RH]
theorem mn{pages:Int}{xs:List a8}{n:Int}(h:bw pages xs=true)(R:1<=n)(f:(a7 xs n).2.2=true) :
  bw pages (a7 xs n).1=true/\0<=(a7 xs n).2.1/\(a7 xs n).2.1+n<=pages/\(∀p,RH (a7 xs n).1 p↔RH xs p/\¬((a7 xs n).2.1<=p/\p<(a7 xs n).2.1+n))/\∀p,(a7 xs n).2.1<=p->p<(a7 xs n).2.1+n->RH xs p:=by
 obtain⟨e,E,t⟩:=eS.1 h;have u:=xd xs n xs.length (U2 _);unfold a7 at f |-;change gv xs n = -1\/_ at u;split at f
 ·cases f
 rename_i g;rw[C9 g];obtain⟨F,G,w⟩:=u.resolve_left ω;change 0<=gv xs n at F;change gv xs n<xs.length at G;change n<=(nth xs (gv xs n).toNat).a5 at w;generalize H:(gv xs n).toNat=b at w |-;have d:b<xs.length:=ω
 have A:=E _ (am d);have J:∀j,j<xs.length->j≠b->(nth xs j).At+(nth xs j).a5<(nth xs b).At\/(nth xs b).At+(nth xs b).a5<(nth xs j).At:=λj c k=>by
  rcases Nat.lt_or_gt_of_ne k with l|o
  ·exact .inl (w6 e l d)
  exact .inr (w6 e o c)
 split
 ·rename_i K
  have L:(dele xs b).Sublist xs:=fm ..;refine⟨eS.2 ⟨⟨e.1.sublist L,ψ⟩,ψ,t⟩,A.1,ψ,λp=>?_,λp M N=>vJ.2 ψ⟩;simp only;rw[vJ (xs:=xs)];constructor
  ·rintro⟨r,O,B,C⟩
   grind [eJ]
  rintro⟨⟨j,c,B,C⟩,P⟩
  exact⟨_,eJ.2 ψ,B,C⟩
 rename_i K;have a:∀j,nth (xs.set b ⟨(nth xs b).At+n,(nth xs b).a5 - n⟩) j=if j=b then⟨(nth xs b).At+n,(nth xs b).a5 - n⟩ else nth xs j:=λj=>by grind [cP]
 refine⟨eS.2 ⟨⟨?_,λy Q=>?_⟩,λy Q=>?_,t⟩,A.1,ψ,λp=>?_,λp M N=>vJ.2 ψ⟩
 ·rw[List.pairwise_iff_getElem]
  intro i j D c q;rw[<-bm (W1 D),<-bm (W1 c),a,a];simp only[I1]at D c;have S:=w6 e q c
  grind
 ·grind
 ·grind
 simp only;rw[vJ,vJ,I1];constructor
 ·grind
 grind
def rh(k:af):Int:=d7 (λu=>!u) k.G.V.a1
def sR(k:af)(p:Int)(f:Nat):af:={k with G:=⟨⟨k.G.V.W,k.G.V.a1.set f true⟩,⟨k.G.S.K.set p.toNat ⟨2,(f:Nat)⟩⟩⟩}
def gc(k:af)(p:Int):af × Bool:=if refd k=true\/rh k<0 then(dy k,false) else(sR (dy k) p (rh k).toNat,true)
theorem Dv{k:af}(h:¬rh k<0):(rh k).toNat<k.G.V.a1.length/\nth k.G.V.a1 (rh k).toNat=false:=by grind [nI,rh]
theorem yA{k:af}(h:aC k=true){f:Nat}(a:f<k.G.V.a1.length)(b:nth k.G.V.a1 f=false)(q:Nat)(c:q<k.G.S.K.length)(d:(nth k.G.S.K q).w≠0):(nth k.G.S.K q).j≠(f:Nat):=by grind [aD,eg]
theorem ND{k:af}{p:Int}{f:Nat}(h:aC k=true)(A:0<=p/\p<k.G.S.K.length)(B:(nth k.G.S.K p.toNat).w=0)(c:f<k.G.V.a1.length)(d:nth k.G.V.a1 f=false):aC (sR k p f)=true:=by
 have g:=yA h c d;obtain⟨i,l,n,o,r⟩:=aD.1 h;obtain⟨t,u,C,w⟩:=bg.1 l;obtain⟨D,E,F⟩:=bv.1 n;have a:∀q,nth (k.G.S.K.set p.toNat ⟨2,(f:Nat)⟩) q=if p.toNat=q then⟨2,(f:Nat)⟩ else nth k.G.S.K q:=λq=>by grind [cP]
 refine aD.2 ⟨i,bg.2 ⟨t,u,by grind [sR],λj b=>?_⟩,bv.2 ⟨λj b=>?_,?_,?_⟩,λj b=>?_,r⟩
 ·replace b:j<k.G.V.W.length:=b
  show gY (nth k.G.V.W j) (nth (k.G.V.a1.set f true) j)=true;have G:=w j b;rw[cP]
  grind [gY,iC]
 ·simp only[sR,I1]at b |-
  rw[a];split
  all_goals grind [kM]
 ·grind [sR]
 ·grind [sR]
 simp only[sR,I1]at b;show nth (k.G.V.a1.set f true) j=_;rw[cP];by_cases e:f=j
 ·grind [eg,sR]
 rw[C9 λz=>e z.1,o j b];refine decide_eq_decide.2 ?_;rw[eg,eg];simp only[sR,I1,a];constructor
 ·rintro⟨q,y,H,J⟩
  refine⟨q,y,?_⟩
  grind
 grind
structure wN(k:af)(p:Int)(r:af × Bool):Prop where
 ker:aC r.1=true
 len:r.1.G.S.K.length=k.G.S.K.length
 calls:r.1.q=k.q+1
 ref:r.1.e=k.e
 cells:r.1.G.V.W=k.G.V.W
 no:r.2=false->r.1=dy k
 yes:r.2=true->∃f:Nat,f<k.G.V.a1.length/\nth k.G.V.a1 f=false/\(∀q:Nat,nth r.1.G.S.K q=if(q:Int)=p then⟨2,(f:Nat)⟩ else nth k.G.S.K q)/\∀q,q<k.G.S.K.length->(nth k.G.S.K q).w≠0->(nth k.G.S.K q).j≠(f:Nat)
theorem wN.of{k:af}{p:Int}(h:aC k=true)(c:k.q≠100000)(f:0<=p/\p<k.G.S.K.length)(g:(nth k.G.S.K p.toNat).w=0):wN k p (gc k p):=by
 unfold gc;split
 ·exact⟨lH h c,rfl,rfl,rfl,rfl,λ_=>rfl,λe=>by cases e⟩
 rename_i d;rw[not_or]at d;obtain⟨a,b⟩:=Dv d.2;refine⟨ND (lH h c) f g a b,by simp[sR,dy],rfl,rfl,rfl,ψ,λ_=>⟨_,a,b,λq=>?_,λq=>yA h a b q⟩⟩
 grind [cP,sR,dy]
def cR(k:af)(p:Int):Nat->af × Nat
 | 0=>(k,0)
 | i+1=>if(cR k p i).2=i then((gc (cR k p i).1 (p+(i:Nat))).1,if(gc (cR k p i).1 (p+(i:Nat))).2=true then i+1 else i) else cR k p i
structure jm(k:af)(p:Int)(i:Nat)(r:af × Nat):Prop where
 ker:aC r.1=true
 len:r.1.G.S.K.length=k.G.S.K.length
 calls:k.q<=r.1.q/\r.1.q<=k.q+i
 ref:r.1.e=k.e
 cells:r.1.G.V.W=k.G.V.W
 le:r.2<=i
 out:∀q:Nat,¬(p<=q/\(q:Int)<p+r.2)->nth r.1.G.S.K q=nth k.G.S.K q
 new:∀q:Nat,p<=q->(q:Int)<p+r.2->(nth r.1.G.S.K q).w=2/\∀u:Nat,u<k.G.S.K.length->(nth r.1.G.S.K u).w≠0->(nth r.1.G.S.K u).j=(nth r.1.G.S.K q).j->u=q
theorem jm.of{k:af}{p:Int}{n:Nat}(h:aC k=true)(l:k.q+n<=100000)(o:0<=p/\p+n<=k.G.S.K.length)(t:∀q:Nat,p<=q->(q:Int)<p+n->(nth k.G.S.K q).w=0):∀i,i<=n->jm k p i (cR k p i)
 | 0,_=>⟨h,rfl,⟨T4 _,by show k.q<=k.q+((0:Nat):Int);omega⟩,rfl,rfl,U2 _,λ_ _=>rfl,λq d b=>by grind [cR]⟩
 | i+1,B=>by
  have a:=jm.of h l o t i ω;unfold cR;split
  case isFalse=>exact⟨a.ker,a.len,⟨a.calls.1,by have:=a.calls.2;omega⟩,a.ref,a.cells,by have:=a.le;omega,a.out,a.new⟩
  rename_i u;generalize cR k p i=r at a u |-;have y:=a.calls;have c:(nth r.1.G.S.K (p+(i:Nat)).toNat).w=0:=by grind [jm.out]
  have s:=wN.of (p:=p+(i:Nat)) a.ker ω ⟨ω,by rw[a.len];omega⟩ c;generalize gc r.1 (p+(i:Nat))=w at s |-;refine⟨s.ker,s.len.trans a.len,⟨by grind [wN.calls],by grind [wN.calls]⟩,s.ref.trans a.ref,s.cells.trans a.cells,ψ,λq g=>?_,λq d b=>?_⟩
  ·simp only at g |-
   cases e:w.2 with
   | false=>
    rw[s.no e];rw[e]at g;exact a.out q ψ
   | true=>
    obtain⟨f,-,-,j,-⟩:=s.yes e
    grind [jm.out]
  simp only at b |-;cases e:w.2 with
  | false=>
   rw[s.no e];rw[e]at b;exact a.new q d ψ
  | true=>
   obtain⟨f,-,-,j,C⟩:=s.yes e;rw[e,CB rfl]at b;have A:q<k.G.S.K.length:=ω
   rw[j];by_cases D:(q:Int)=p+(i:Nat)
   ·grind [jm.len]
   grind [jm.new,jm.len]
theorem jm.undo{k:af}{p:Int}{i:Nat}{r:af × Nat}(s:jm k p i r)(h:aC k=true)(a:0<=p/\p+i<=k.G.S.K.length)(b:∀q:Nat,p<=q->(q:Int)<p+i->(nth k.G.S.K q).w=0):aC (dQ r.1 p r.2)=true/\tEq k.G.S (dQ r.1 p r.2).G.S:=by
 have c:=s.le;have d:=lG s.ker a.1 r.2 (by rw[s.len];omega);refine⟨kT s.ker p r.2,((i7 r.1 p r.2).1).trans s.len,λq=>?_⟩;rw[d];split
 ·rename_i e
  have f:=b q e.1 ω
  grind [aD,bv,kM]
 grind [jm.out]
theorem Pg.add{t c:aG}{B f:List a8}{sp a:List ar}{la b:List ay}{p:Int}{n:Nat}(o:Pg t B sp la)(C:c.K.length=t.K.length)(H:p+n<=t.K.length)(R:0<=p)(S:∀q:Nat,¬(p<=q/\(q:Int)<p+n)->nth c.K q=nth t.K q)(D:∀q:Nat,p<=q->(q:Int)<p+n->(nth c.K q).w=2/\∀u:Nat,u<t.K.length->(nth c.K u).w≠0->(nth c.K u).j=(nth c.K q).j->u=q)(J:∀q,RH f q↔RH B q/\¬(p<=q/\q<p+n))(r:∀q,q∈pgs a b↔q∈pgs sp la\/(p<=q/\q<p+n))(g:∀s∈a,0<=s.Q/\(s∈sp\/(p<=s.Q/\s.Q<p+n)))(w:∀l∈b,l∈la\/∀q∈lpgs l l.a3.toNat,p<=q/\q<p+n):Pg c f a b:=by
 have E:∀q:Nat,q<t.K.length->((nth c.K q).w≠0↔(q:Int)∈pgs a b):=λq h=>by grind [Pg.own]
 refine⟨λl i q h u k T U=>?_,λq h=>?_,ψ,λq h=>?_,λs F u k K V=>?_⟩
 ·rw[C]at k
  have A:=fk (sp:=a) i h;have L:q<t.K.length:=by
   rcases(r _).1 A with d|d
   ·have:=o.bnd _ d;omega
   omega
  by_cases e:p<=q/\(q:Int)<p+n
  ·grind
  have M:=(w l i).resolve_right ψ
  grind [Pg.one]
 ·rw[C]
  rcases(r _).1 h with d|d
  ·exact o.bnd _ d
  omega
 ·grind [Pg.fre]
 obtain⟨N,W⟩:=g s F;obtain⟨O,X⟩:=g u k;have j:∀y∈a,0<=y.Q->y.Q.toNat<t.K.length/\((y.Q.toNat:Nat):Int)=y.Q/\(nth c.K y.Q.toNat).w≠0:=λy P Q=>by
  have d:=d6 (la:=b) P;have Y:y.Q.toNat<t.K.length:=by
   rcases(r _).1 d with G|G
   ·have:=o.bnd _ G;omega
   omega
  grind
 obtain⟨Z,sc,sd⟩:=j s F N;obtain⟨ub,uc,ud⟩:=j u k O;by_cases es:p<=s.Q/\s.Q<p+n
 ·grind
 by_cases eu:p<=u.Q/\u.Q<p+n
 all_goals grind [Pg.mesh]
theorem DR{sp a:List ar}{la b:List ay}(c:a.Perm sp)(d:b.Perm la):(pgs a b).Perm (pgs sp la):=by grind [pgs]
def H5(p:Int)(s:ar):Bool:=decide (p<=s.Q)
def NS(p:Int)(l:ay):Bool:=decide (p<=l.Q)
def addS(h:ac)(k:af)(a:List a8)(p c:Int):ac:={h with M:=k,o:=a,H:=jd (H5 p) h.H ⟨p,c,0⟩}
def kS{h:ac}{E:List Int}(a:aR h E){n:Int}(j:1<=n)(k:(a7 h.o n).2.2=true):0<=(a7 h.o n).2.1/\(a7 h.o n).2.1+n<=(tbl h).K.length/\(∀q:Nat,(a7 h.o n).2.1<=q->(q:Int)<(a7 h.o n).2.1+n->(nth (tbl h).K q).w=0)/\∀q:Int,(a7 h.o n).2.1<=q->q<(a7 h.o n).2.1+n->q∉pgs h.H h.J:=by
 obtain⟨r,l,f,t,o⟩:=mn a.rng j k;have g:∀q:Nat,(a7 h.o n).2.1<=q->(q:Int)<(a7 h.o n).2.1+n->(nth (tbl h).K q).w=0:=λq b c=>by
  have d:q<(tbl h).K.length:=by
   have:(a7 h.o n).2.1+n<=((tbl h).K.length:Nat):=f;omega
  by_cases e:(nth (tbl h).K q).w=0
  ·exact e
  exact absurd (o q b c) ((a.pg.fre q d).1 e)
 refine⟨l,f,g,λq b c i=>?_⟩;have u:=a.pg.bnd q i;obtain⟨m,rfl⟩:=O2 (show 0<=q by omega);have p:=(a.pg.own m ω).2 i;exact p (g m b c)
theorem aR.addS{h:ac}{E:List Int}{c:Int}(a:aR h E)(V:0<=c/\c<=3)(D:(a7 h.o 1).2.2=true){k:af}(s:wN h.M (a7 h.o 1).2.1 (k,true)):aR (addS h k (a7 h.o 1).1 (a7 h.o 1).2.1 c) E:=by
 obtain⟨Q,R,W,F,X⟩:=mn a.rng (T4 _) D;obtain⟨-,S,Y,Z⟩:=kS a (T4 _) D;generalize (a7 h.o 1).2.1=p at R W F X S Y Z s |-;generalize (a7 h.o 1).1=fr at Q F |-;obtain⟨f,f1,f2,T,f4⟩:=s.yes rfl;have G:=(bv.1 (aD.1 a.ker).2.2.1).2.2;change (tbl h).K.length<=32 at G;have hL:=a.L;have H:=jV (H5 p) h.H ⟨p,c,0⟩;have J:=DR H (List.Perm.refl h.J);have A:(pgs (jd (H5 p) h.H ⟨p,c,0⟩) h.J).Perm (p::pgs h.H h.J):=J;have K:p∉pgs h.H h.J:=ψ
 have M:∀z∈h.H,z.Q≠p:=λz i e=>K (by grind [d6])
 have r:∀b d,iB (jd (H5 p) h.H ⟨p,c,0⟩) b d↔iB h.H b d:=λb d=>by
  constructor
  ·rintro⟨s,B,w,N⟩
   rcases dr.1 B with rfl|B
   ·grind [zP]
   exact⟨s,B,w,N⟩
  rintro⟨s,B,w⟩
  exact⟨s,dr.2 (.inr B),w⟩
 exact {a with
   ker:=s.ker
   rng:=by show bw ((k.G.S.K.length:Nat):Int) fr=true;rw[s.len];exact Q
   lay:=by
     obtain⟨l1,l2,l3⟩:=dt a.lay;unfold bf;simp only[I0,C0];refine⟨⟨T3.2 λz i=>?_,l2⟩,A.nodup_iff.2 ψ⟩;rcases dr.1 i with rfl|i
     · have hl0:0<=lim c:=by
         have:=(fY V).1;obtain rfl|rfl|rfl|rfl:c=0\/c=1\/c=2\/c=3:=ω
         all_goals decide
       exact O0 ψ
     grind
   srs:=kG (f:=λz:ar=>z.Q) (y:=⟨p,c,0⟩) a.srs M
   pg:=by
     refine a.pg.add (p:=p) (n:=1) s.len (by exact S) R (λq hq=>?_) (λq q1 q2=>?_) (λq=>F q) (λq=>?_) (λz i=>?_) (λl hl=>.inl hl)
     · exact(T q).trans (C9 ω)
     · have hq:(q:Int)=p:=ω
       have U:nth k.G.S.K q = ⟨2,(f:Nat)⟩:=ψ
       refine⟨U0 bi.w U,λu O t g=>?_⟩;have fu:nth k.G.S.K u=if(u:Int)=p then⟨2,(f:Nat)⟩ else nth h.M.G.S.K u:=T u
       change (nth k.G.S.K u).w≠0 at t;change (nth k.G.S.K u).j=(nth k.G.S.K q).j at g;rw[fu]at t g;rw[U]at g;by_cases eu:(u:Int)=p
       · omega
       rw[C9 eu]at t g;exact absurd g (f4 u O t)
     · show q∈pgs (jd (H5 p) h.H ⟨p,c,0⟩) h.J↔_
       grind
     rcases dr.1 i with rfl|i
     · grind
     exact⟨(aB (hL.sok z i)).1,.inl i⟩
   oow:=λo D=>by
     rcases a.oow o D with⟨z,i,w,N⟩|w
     · exact .inl ⟨z,dr.2 (.inr i),w,N⟩
     exact .inr w
   hca:=λd hd j hj b C=>(r b j).2 (a.hca d hd j hj b C)
   hqu:=λy P=>(r _ _).2 (a.hqu y P)
   hfl:=λb C=>(r _ _).2 (a.hfl b C)
   hin:=λb C=>(r _ _).2 (a.hin b C)
   mem:=λb=>(a.mem b).trans (by
     show Live h.H h.J b↔Live (jd (H5 p) h.H ⟨p,c,0⟩) h.J b
     grind [Live])
   job:=λhm=>by
     obtain⟨j1,⟨y,P,e1⟩,⟨u,O,e2⟩⟩:=a.job hm;exact⟨j1,⟨y,dr.2 (.inr P),e1⟩,⟨u,dr.2 (.inr O),e2⟩⟩}
def addL(h:ac)(k:af)(a:List a8)(p n size t:Int):ac:={h with M:=k,o:=a,J:=jd (NS p) h.J ⟨p,n,size⟩,O:=jd (LZ (16*p)) h.O ⟨h.a2,16*p,size,t⟩,a2:=h.a2+1}
theorem aR.addL{h:ac}{E:List Int}{size t:Int}{n:Nat}(a:aR h E)(g:9<=size/\size<=1000)(J:(n:Int)=(size+15) / 16)(i:(a7 h.o n).2.2=true){k:af}(s:jm h.M (a7 h.o n).2.1 n (k,n))(hn:h.a2<1000000)(ht:0<=t/\t<=h.R.length - 1) :
  aR (addL h k (a7 h.o n).1 (a7 h.o n).2.1 n size t) E:=by
 have B:(1:Int)<=n:=ω
 obtain⟨V,K,r3,M,r5⟩:=mn a.rng B i;obtain⟨-,W,u3,H⟩:=kS a B i;generalize (a7 h.o n).2.1=p at K r3 M r5 W u3 H s |-;generalize (a7 h.o n).1=fr at V M |-;have N:=(bv.1 (aD.1 a.ker).2.2.1).2.2;change (tbl h).K.length<=32 at N;have O:=a.L;have P:=jV (NS p) h.J ⟨p,n,size⟩;have C:=jV (LZ (16*p)) h.O ⟨h.a2,16*p,size,t⟩;have Q:lpgs ⟨p,n,size⟩ ((n:Nat):Int).toNat=lpgs ⟨p,n,size⟩ n:=by rw[I2]
 have D:(pgs h.H (jd (NS p) h.J ⟨p,n,size⟩)).Perm (lpgs ⟨p,n,size⟩ n++pgs h.H h.J):=by
  refine(DR (List.Perm.refl h.H) P).trans ?_;unfold pgs;rw[Y5];simp only[Q];rw[<-Z4,<-Z4];exact List.perm_append_comm.append_right _
 have u:∀q,q∈lpgs ⟨p,n,size⟩ n↔p<=q/\q<p+n:=λq=>by
  rw[dq];constructor
  ·rintro⟨j,hj,rfl⟩;exact⟨by show p<=p+(j:Int);omega,by show p+(j:Int)<_;omega⟩
  rintro⟨X,Y⟩;exact⟨(q - p).toNat,ω,by show q=p+_;omega⟩
 have R:(lpgs ⟨p,n,size⟩ n).Nodup:=by
  unfold lpgs List.Nodup;rw[List.pairwise_map];exact List.nodup_range.imp λr e=>r (by simp only at e;omega)
 have r:∀z∈h.J,z.Q≠p:=λz g e=>H p (T4 _) ω (by rw[<-e];exact fk g (dq.2 ⟨0,by have:=aN (O.lok z g);omega,ω⟩))
 have S:¬Live h.H h.J (16*p):=by
  rintro(⟨z,g,d,-⟩|⟨l,c,e⟩)
  ·exact H p (T4 _) ω (by rw[show p=z.Q by have a1:=d.1;have a2:=d.2.1;omega];exact d6 g)
  exact r l c ω
 have F:(16*p)∉E++holders h:=λT=>S ((a.mem _).1 T)
 have U:∀o∈h.O,o.X≠16*p:=λo i e=>F (R2.2 (.inr (by unfold holders;simp only[R2];exact .inl (.inl (.inl (X3.2 ⟨o,i,e⟩))))))
 have Z:(E++holders (Ab.addL h k fr p n size t)).Perm ((16*p)::(E++holders h)):=by
  have h0:=C.map (·.X);refine List.perm_iff_count.2 λb=>?_
  have d:=h0.count_eq b;simp only[O5,List.count_cons]at d;simp only[holders,ci,Ab.addL,R5,List.count_cons];omega
 exact {a with
   ker:=s.ker
   rng:=by show bw ((k.G.S.K.length:Nat):Int) fr=true;rw[s.len];exact V
   lay:=by
     obtain⟨l1,l2,l3⟩:=dt a.lay;unfold bf;simp only[I0,C0];refine⟨⟨l1,T3.2 λz w=>?_⟩,D.nodup_iff.2 (List.nodup_append.2 ⟨R,l3,λq G b hb e=>?_⟩)⟩
     · rcases dr.1 w with rfl|w
       · exact O0 ⟨g.1,g.2,J,K,by show p<=32 - (n:Int);omega⟩
       exact O.lok z w
     subst e;have:=(u q).1 G;exact H q this.1 this.2 hb
   srl:=kG (f:=λz:ay=>z.Q) (y:=⟨p,n,size⟩) a.srl r
   pg:=by
     refine a.pg.add (p:=p) (n:=n) s.len (by exact W) K (λq G=>s.out q G) (λq X Y=>s.new q X Y) (λq=>M q) (λq=>?_) (λz g=>⟨(aB (O.sok z g)).1,.inl g⟩) (λl c=>?_)
     · show q∈pgs h.H (jd (NS p) h.J ⟨p,n,size⟩)↔_
       rw[D.mem_iff,R2,u];exact Or.comm
     rcases dr.1 c with rfl|c
     · exact .inr λq G=>(u q).1 (by simpa using G)
     exact .inl c
   nums:=yj a.nums hn
   osr:=kG (f:=λo:bF=>o.X) (y:=⟨h.a2,16*p,size,t⟩) a.osr U
   onu:=λo i=>by
     rcases dr.1 i with rfl|i
     · have:=a.nums
       unfold cr at this;rw[C0]at this;exact⟨by show 1<=h.a2;omega,by show h.a2<=h.a2+1 - 1;omega,ht⟩
     have:=a.onu o i;exact⟨this.1,by show o.Id<=h.a2+1 - 1;omega,this.2.2⟩
   oid:=by
     show((jd (LZ (16*p)) h.O ⟨h.a2,16*p,size,t⟩).map (·.Id)).Nodup;rw[(C.map _).nodup_iff,O5];refine List.nodup_cons.2 ⟨λT=>?_,a.oid⟩;obtain⟨o,i,e⟩:=X3.1 T;have:=(a.onu o i).2.1;simp only at e;omega
   oow:=λo A=>by
     rcases dr.1 A with rfl|A
     · exact .inr ⟨_,dr.2 (.inl rfl),rfl,rfl⟩
     rcases a.oow o A with d|⟨l,c,d⟩
     · exact .inl d
     exact .inr ⟨l,dr.2 (.inr c),d⟩
   nd:=Z.nodup_iff.2 (List.nodup_cons.2 ⟨F,a.nd⟩)
   mem:=λb=>by
     rw[Z.mem_iff,List.mem_cons,a.mem b];show _↔Live h.H (jd (NS p) h.J ⟨p,n,size⟩) b;unfold Live;constructor
     · rintro(rfl|d|⟨l,c,e⟩)
       · exact .inr ⟨_,dr.2 (.inl rfl),rfl⟩
       · exact .inl d
       exact .inr ⟨l,dr.2 (.inr c),e⟩
     rintro(d|⟨l,c,e⟩)
     · exact .inr (.inl d)
     rcases dr.1 c with rfl|c
     · exact .inl e
     exact .inr (.inr ⟨l,c,e⟩)}
structure JK(h h':ac):Prop where
 job:h'.b1=h.b1
 msh:h'.b0=h.b0
 sp:∀s∈h.H,gW h s.Q=true->∃s'∈h'.H,s'.Q=s.Q/\∀u,meshable s u=true->meshable s' u=true
 ent:∀q:Nat,(nth (tbl h').K q).w≠0->((nth (tbl h).K q).w≠0/\(nth (tbl h').K q).j=(nth (tbl h).K q).j)\/∀u:Nat,(nth (tbl h').K u).w≠0->(nth (tbl h').K u).j=(nth (tbl h').K q).j->u=q
theorem JK.refl(h:ac):JK h h:=⟨rfl,rfl,ψ,ω⟩
theorem JK.pg{h h':ac}(k:JK h h')(p:Int):gW h' p=gW h p:=by grind [JK.job,JK.msh,gW]
theorem JK.trans{h h1 c:ac}(a:JK h h1)(b:JK h1 c):JK h c:=by
 refine⟨b.job.trans a.job,b.msh.trans a.msh,λs f g=>?_,λq d=>?_⟩
 ·grind [JK.sp,JK.pg]
 rcases b.ent q d with⟨e,i⟩|e
 all_goals grind [JK.ent]
theorem mM.keep{h h':ac}{p:Int}(c:0<=p)(d:(nth (tbl h').K p.toNat).w≠0)(e:mM (tbl h) p)(k:JK h h'):mM (tbl h') p:=λq f g=>by
 rcases k.ent p.toNat d with⟨n,i⟩|a
 ·rcases k.ent q f with⟨j,l⟩|b
  ·exact e q j (by rw[<-l,g,i])
  grind
 grind
theorem aR.mapped{h:ac}{E:List Int}(a:aR h E){s:ar}(b:s∈h.H):0<=s.Q/\s.Q<(tbl h).K.length/\(nth (tbl h).K s.Q.toNat).w≠0:=by
 have c:=(aB (a.L.sok s b)).1;have d:=a.pg.bnd _ (d6 (la:=h.J) b);refine⟨c,d,(a.pg.own s.Q.toNat ω).2 ?_⟩
 grind [d6]
theorem JI.keep{h h':ac}{E:List Int}(g:JI h)(j:aR h' E)(k:JK h h'):JI h':=by
 have d:h.b0=true->∃a∈h'.H,∃b∈h'.H,a.Q=h.b1.k.b2/\b.Q=h.b1.k.b3/\meshable a b=true:=λc=>by grind [JI.sp,JK.sp,iM,gW]
 refine⟨λc=>?_,λc=>?_,λc=>?_,λc=>?_⟩
 ·rw[k.msh]at c;rw[k.job];exact g.ph c
 ·grind [JK.msh,JK.job]
 ·rw[k.msh]at c
  obtain⟨a,l,b,n,o,p,i⟩:=d c;obtain⟨e,q,f⟩:=j.mapped l;rw[k.job];rw[o]at e f;exact(g.sk c).keep e f k
 rw[k.msh]at c;obtain⟨a,l,b,n,o,p,i⟩:=d c;obtain⟨e,q,f⟩:=j.mapped n;rw[k.job];rw[p]at e f;exact(g.sm c).keep e f k
theorem JK.less{h h':ac}(h1:h'.b1=h.b1)(a:h'.b0=h.b0)(b:h'.H=h.H)(c:∀q:Nat,(nth (tbl h').K q).w≠0->nth (tbl h').K q=nth (tbl h).K q):JK h h':=
 ⟨h1,a,ψ,ψ⟩
theorem JK.eq{h h':ac}(h1:h'.b1=h.b1)(a:h'.b0=h.b0)(b:h'.H=h.H)(c:tbl h'=tbl h):JK h h':=.less h1 a b ψ
def JK.clrS{h:ac}{E:List Int}{a:Int}{i:Nat}(f:aR h E)(c:i<h.H.length)(d:ew (nth h.H i) a):JK h (clrS h i a):=by
 refine⟨rfl,rfl,λs g _=>?_,λq k=>.inl ⟨k,rfl⟩⟩;obtain⟨j,l,rfl⟩:=aY g;by_cases e:j=i
 ·subst e
  have b:=f.L.sok _ (am c);exact⟨_,iq _ c,rfl,λu n=>zt b (sK b ⟨d.1,d.2.1⟩) n⟩
 exact⟨_,jf _ l e,rfl,λ_ z=>z⟩
theorem JK.giveP{h:ac}{E:List Int}{i:Nat}(a:aR h E)(b:i<h.H.length)(c:gW h (nth h.H i).Q=false):JK h (giveP h i):=by
 obtain⟨d,e,-⟩:=a.mapped (am b);refine⟨rfl,rfl,λs f g=>?_,λq k=>.inl ?_⟩
 ·obtain⟨j,l,rfl⟩:=aY f
  exact⟨_,eJ.2 ψ,rfl,λ_ z=>z⟩
 have n:=wW a.ker (p:=(nth h.H i).Q) ⟨d,e⟩ q;change (nth (dM h.M (nth h.H i).Q).G.S.K q).w≠0 at k;show(nth h.M.G.S.K q).w≠0/\(nth (dM h.M (nth h.H i).Q).G.S.K q).j=(nth h.M.G.S.K q).j
 grind
def JK.freeS{h:ac}{E:List Int}{a:Int}{i:Nat}(c:aR h (a::E))(b:i<h.H.length)(d:ew (nth h.H i) a):JK h (freeS h i a):=by
 have g:=c.give b d;have f:=JK.clrS c b d;unfold Ab.freeS;split
 ·rename_i e
  have j:nth (Ab.clrS h i a).H i=mZ (nth h.H i) (dR (nth h.H i) a):=by unfold Ab.clrS;simp only[cP,true_and];rw[CB b]
  exact f.trans (JK.giveP (h:=Ab.clrS h i a) g (by unfold Ab.clrS;simp only[I1];exact b) (by rw[j];exact e.2))
 exact f
theorem JK.freeA{h:ac}{E:List Int}{a:Int}(b:aR h (a::E)):JK h (freeA h a):=by
 obtain⟨c,d,-⟩:=b.at (b.hin a ψ);exact JK.freeS b c d
def JK.recyc{h:ac}{E:List Int}{a:Int}{t:Nat}(b:aR h (a::E)):JK h (recyc t h a):=by
 unfold Ab.recyc;split
 ·exact JK.eq rfl rfl rfl rfl
 exact JK.freeA b
theorem JK.recycs{t:Nat}{E:List Int} : ∀{az:List Int}{h:ac},aR h (az++E)->t<h.R.length->JK h (recycs t h az)
 | [],h,_,_=>JK.refl h
 | a::az,h,b,c=>(JK.recyc (t:=t) b).trans (JK.recycs (az:=az) (h:=Ab.recyc t h a) (b.recyc c) (by grind [pT]))
def JK.freeAs{E:List Int} : ∀{az:List Int}{h:ac},aR h (az++E)->JK h (freeAs h az)
 | [],h,_=>JK.refl h
 | a::az,h,b=>(JK.freeA b).trans (JK.freeAs (az:=az) (h:=Ab.freeA h a) b.freeA)
theorem JK.flushN{t:Nat}{h:ac}(c:aR h [])(d:t<h.R.length):∀{k:Nat},k<=4->JK h (flushN t h k).1
 | 0,_=>JK.refl h
 | k+1,e=>by
  obtain⟨h1,f,-⟩:=kB c d (k:=k) ω;have a:t<(Ab.flushN t h k).1.R.length:=ω
  have b:k<(nth (Ab.flushN t h k).1.R t).Z.length:=by grind [ee,aR.cach,am]
  exact JK.trans (h1:=Ab.spilt (Ab.flushN t h k).1 t k) ((JK.flushN c d (k:=k) ω).trans (JK.eq rfl rfl rfl rfl)) (JK.freeAs (h1.spilt a b))
def zH{h:ac}{E:List Int}(a:aR h E){k:Nat}(b:k<h.J.length):0<=(nth h.J k).Q/\(nth h.J k).Q+((nth h.J k).a3.toNat:Nat)<=(tbl h).K.length:=by
 have c:=aN (a.L.lok _ (am b));have d:=a.pg.bnd _ (fk (sp:=h.H) (am b) (dq.2 ⟨(nth h.J k).a3.toNat - 1,ω,rfl⟩));omega
theorem JK.freeL{h:ac}{E:List Int}{i k:Nat}(a:aR h E)(b:k<h.J.length):JK h (freeL h i k):=by
 obtain⟨c,d⟩:=zH a b;refine JK.less rfl rfl rfl λq e=>?_
 have f:=lG a.ker c (nth h.J k).a3.toNat d q;change (nth (dQ h.M (nth h.J k).Q (nth h.J k).a3.toNat).G.S.K q).w≠0 at e;show nth (dQ h.M (nth h.J k).Q (nth h.J k).a3.toNat).G.S.K q=nth h.M.G.S.K q
 grind
theorem JK.freeOb{h:ac}{t i:Nat}(b:aR h [])(c:i<h.O.length)(d:t<h.R.length):JK h (freeOb h t i).1:=by
 unfold Ab.freeOb;split
 ·rename_i a
  obtain⟨l,e,h1,-⟩:=(eY b (am c)).1 a
  grind [JK.freeL,uH]
 rename_i a;split
 ·exact JK.refl h
 have h1:=b.inQuar c a;exact JK.trans (h1:=Ab.inQuar h i) (JK.eq rfl rfl rfl rfl) (JK.recycs (E:=[]) ψ d)
theorem JK.take{h:ac}{i:Nat}{k sd:Int}(a:gW h (nth h.H i).Q=false):JK h {h with c1:=sd,H:=h.H.set i (qt (nth h.H i) k)}:=by
 refine⟨rfl,rfl,λs d b=>?_,λq c=>.inl ⟨c,rfl⟩⟩
 grind [aY,jf]
theorem zS{t:aG}{q:Nat}(h:(nth t.K q).w≠0):q<t.K.length:=by
 by_cases e:q<t.K.length
 ·exact e
 exfalso;apply h;unfold nth;rw[List.getD_eq_getElem?_getD,C2 ω]
 rfl
theorem JK.addS{h:ac}{k:af}{b:List a8}{p c:Int}(s:wN h.M p (k,true)):JK h (addS h k b p c):=by
 obtain⟨f,g,i,j,l⟩:=s.yes rfl;have a:k.G.S.K.length=h.M.G.S.K.length:=s.len;refine⟨rfl,rfl,λz d _=>⟨z,dr.2 (.inr d),rfl,λ_ y=>y⟩,λq e=>?_⟩;change (nth k.G.S.K q).w≠0 at e;show((nth h.M.G.S.K q).w≠0/\(nth k.G.S.K q).j=(nth h.M.G.S.K q).j)\/∀u:Nat,(nth k.G.S.K u).w≠0->(nth k.G.S.K u).j=(nth k.G.S.K q).j->u=q
 grind [zS]
theorem JK.addL{h:ac}{k:af}{d:List a8}{p size t:Int}{n:Nat}(s:jm h.M p n (k,n)):JK h (addL h k d p n size t):=by
 have a:k.G.S.K.length=h.M.G.S.K.length:=s.len;refine⟨rfl,rfl,λz f _=>⟨z,f,rfl,λ_ y=>y⟩,λq g=>?_⟩;change (nth k.G.S.K q).w≠0 at g;show((nth h.M.G.S.K q).w≠0/\(nth k.G.S.K q).j=(nth h.M.G.S.K q).j)\/∀u:Nat,(nth k.G.S.K u).w≠0->(nth k.G.S.K u).j=(nth k.G.S.K q).j->u=q
 by_cases e:p<=q/\(q:Int)<p+n
 ·exact .inr λu c b=>(s.new q e.1 e.2).2 u (by rw[<-a];exact zS c) c b
 have i:=s.out q e
 grind
theorem rM(h:ac):∀{n:Nat},n<=h.H.length->∀s∈kY h n,(aH h s.Q).length=1
 | 0,_,s,a=>by cases a
 | n+1,b,s,a=>by
  unfold kY at a;split at a
  ·rename_i e
   rcases R2.1 a with a|a
   ·exact rM h ω s a
   grind [yR]
  exact rM h ω s a
theorem aR.sole{h:ac}{E:List Int}(b:aR h E){s:ar}(c:s∈h.H)(h1:(aH h s.Q).length=1):mM (tbl h) s.Q:=λq a d=>by
 obtain⟨g,i,e⟩:=b.mapped c;have f:s.Q=((s.Q.toNat:Nat):Int):=ω
 rw[f,eB (by show s.Q.toNat<(tbl h).K.length;omega) e]at h1;obtain⟨z,j⟩:=List.length_eq_one_iff.1 h1;have k:(s.Q.toNat:Int)∈pagesOn (tbl h) (nth (tbl h).K s.Q.toNat).j:=dx.2 ω;have l:(q:Int)∈pagesOn (tbl h) (nth (tbl h).K s.Q.toNat).j:=dx.2 ⟨zS a,a,d⟩
 grind
def EZ{h:ac}(l:aR h [])(n:h.b0=false):aR (started h).1 []/\JI (started h).1:=by
 have G:=l.nums;unfold cr at G;rw[C0]at G;have M:=(lO (bK h).length (show 0<=h.c1/\h.c1<=1073741823 by omega) ((bK h).length - 1)).2;have o:=qq (bK h) (show 0<=h.c1/\h.c1<=1073741823 by omega);have c:cr {h with c1:=(shuf (bK h).length h.c1).2} = true:=by
  unfold cr;rw[C0];unfold shuf;simp only;omega
 cases p:mJ (bK h) h.c1 with
 | nil=>
  have f:Ab.started h=({h with c1:=(shuf (bK h).length h.c1).2},false):=by unfold Ab.started;rw[p]
  rw[f];exact⟨{l with nums:=c},⟨λe=>by simp[n]at e,λe=>by simp[n]at e,λe=>by simp[n]at e,λe=>by simp[n]at e⟩⟩
 | cons q R=>
  obtain⟨S,T,g⟩:=o q (by rw[p];exact R1 ..);have f:Ab.started h=({h with c1:=(shuf (bK h).length h.c1).2,b0:=true,b1:=vC (dA (nth (bK h) q.A.toNat) (nth (bK h) q.B.toNat))},true):=by unfold Ab.started;rw[p]
  rw[f];have d:∀s∈bK h,s∈h.H/\mM (tbl h) s.Q:=λs N=>by
   have H:=List.mem_of_mem_take N;have J:=oL h (U2 _) s H;exact⟨J,l.sole J (rM h (U2 _) s H)⟩
  have j:=d _ (am (xs:=bK h) (i:=q.A.toNat) ω);have k:=d _ (am (xs:=bK h) (i:=q.B.toNat) ω);generalize nth (bK h) q.A.toNat=a at g j |-;generalize nth (bK h) q.B.toNat=b at g k |-;obtain⟨O,U,V⟩:=su g;have r:(dA a b).b2=a.Q/\(dA a b).b3=b.Q\/(dA a b).b2=b.Q/\(dA a b).b3=a.Q:=by
   unfold dA;split
   ·exact .inr ⟨rfl,rfl⟩
   exact .inl ⟨rfl,rfl⟩
  have t:jj (vC (dA a b))=true:=fx.2 ⟨O,by show(0:Int)<=0;omega,by show(0:Int)<=5;omega,by show(0:Int)<=0;omega,by show(0:Int)<=(((dA a b).W.length:Nat):Int);omega⟩;have u:∃x∈h.H,∃y∈h.H,x.Q=(dA a b).b2/\y.Q=(dA a b).b3/\meshable x y=true/\mM (tbl h) x.Q/\mM (tbl h) y.Q:=by
   rcases r with⟨w,C⟩|⟨w,C⟩
   ·exact⟨a,j.1,b,k.1,w.symm,C.symm,g,j.2,k.2⟩
   exact⟨b,k.1,a,j.1,w.symm,C.symm,by rw[iM];exact g,k.2,j.2⟩
  obtain⟨x,K,y,L,D,E,F,P,Q⟩:=u;exact⟨{l with nums:=c,job:=λ_=>⟨t,⟨x,K,D⟩,⟨y,L,E⟩⟩,noj:=λe=>by cases e},⟨λ_=>⟨by show(0:Int)<=0;omega,by show(0:Int)<=3;omega⟩,λ_=>⟨x,K,y,L,D,E,F⟩,λ_=>by show mM (tbl h) (dA a b).b2;rw[<-D];exact P,λ_=>by show mM (tbl h) (dA a b).b3;rw[<-E];exact Q⟩⟩
def f7(m:aI)(f:Nat):aI:=⟨m.T.set f ((nth m.T f).drop 1),m.u.set (nth (nth m.T f) 0).To.toNat (nth m.u (nth (nth m.T f) 0).To.toNat++[(nth (nth m.T f) 0).X])⟩
def kP(m:aI)(t:Nat):aI:=⟨m.T,m.u.set t []⟩
def gu(m:aI)(f:Nat)(p:dl):aI:=⟨m.T.set f (nth m.T f++[p]),m.u⟩
theorem dB{m:aI} : b9 m=true↔(1<=m.T.length/\m.T.length<=4/\m.u.length=m.T.length)/\(∀i,i<m.T.length->(∀p∈nth m.T i,0<=p.To/\p.To<=(m.T.length:Int) - 1/\0<=p.X)/\∀a∈nth m.u i,0<=a)/\bo m m.T.length<=30:=by grind [cm,b9,fW,mL,Nb]
theorem nO(m:aI)(f t:Nat)(x:List dl)(y:List Int)(a:f<m.T.length)(b:t<m.u.length):∀n:Nat,bo ⟨m.T.set f x,m.u.set t y⟩ n=bo m n+(if f<n then(x.length:Int) - ((nth m.T f).length:Nat) else 0)+(if t<n then(y.length:Int) - ((nth m.u t).length:Nat) else 0)
 | 0=>by simp[bo]
 | n+1=>by
  have c:=nO m f t x y a b n
  grind [cP,bo]
theorem Ma{α:Type}[Inhabited α]{xs:List α}{i:Nat}(h:i<xs.length):xs.set i (nth xs i)=xs:=by
 rw[<-Z1.1 (ah h) |>.2]
 simp_all
theorem BU{m:aI}(h:b9 m=true){f:Nat}(a:f<m.T.length)(b:0<(nth m.T f).length):b9 (f7 m f)=true:=by
 obtain⟨⟨e,g,j⟩,c,k⟩:=dB.1 h;obtain⟨d,l⟩:=c f a;have n:=d _ (am b);have o:(nth (nth m.T f) 0).To.toNat<m.u.length:=ω
 refine dB.2 ⟨⟨?_,?_,?_⟩,λi p=>?_,?_⟩
 ·grind [f7]
 ·grind [f7]
 ·grind [f7]
 ·grind [cP,f7]
 grind [nO,f7]
theorem M5{m:aI}(h:b9 m=true){t:Nat}(a:t<m.u.length):b9 (kP m t)=true:=by
 obtain⟨⟨b,c,e⟩,f,g⟩:=dB.1 h;refine dB.2 ⟨⟨b,c,?_⟩,λi j=>?_,?_⟩
 ·grind [kP]
 ·grind [cP,kP]
 have d:=nO m t t (nth m.T t) [] ω a m.T.length;rw[Ma ω]at d;show bo ⟨m.T,m.u.set t []⟩ m.T.length<=30
 grind
theorem lR{m:aI}(h:b9 m=true)(b:Int):(a9 m).count b=(m.T.flatMap λl=>l.map (·.X)).count b+(m.u.flatMap λx=>x).count b:=by grind [ka,a9]
theorem aR.mailed{h:ac}{E c:List Int}{m:aI}(d:aR h E)(e:b9 m=true)(f:m.T.length=h.b.T.length)(i:∀b,c.count b+(a9 m).count b=E.count b+(a9 h.b).count b)(j:∀a,a∈c\/a∈a9 m->iB h.H a (-1)):aR {h with b:=m} c:=by
 have g:(E++holders h).Perm (c++holders {h with b:=m}):=by grind [holders,ci]
 exact {d with
   mail:=e
   nc:=d.nc.trans f.symm
   hfl:=(ψ)
   hin:=(ψ)
   nd:=g.nodup_iff.1 d.nd
   mem:=λb=>by grind [aR.mem]}
theorem FF{h:ac}{E c:List Int}{m:aI}(e:aR h E)(d:∀b,c.count b+(a9 m).count b=E.count b+(a9 h.b).count b):∀a,a∈c\/a∈a9 m->iB h.H a (-1):=λa f=>by
 have g:=d a
 grind [aR.hin,aR.hfl]
theorem aR.deliv{h:ac}{E:List Int}{f:Nat}(c:aR h E)(d:f<h.b.T.length)(a:0<(nth h.b.T f).length):aR {h with b:=f7 h.b f} E:=by
 have e:=BU c.mail d a;obtain⟨⟨j,k,n⟩,g,o⟩:=dB.1 c.mail;have i:=(g f d).1 _ (am a);have q:∀b,E.count b+(a9 (f7 h.b f)).count b=E.count b+(a9 h.b).count b:=λb=>by
  rw[lR e,lR c.mail];have r:=iA (λl:List dl=>l.map (·.X)) b h.b.T f ((nth h.b.T f).drop 1) d;have t:=iA (λx:List Int=>x) b h.b.u (nth (nth h.b.T f) 0).To.toNat (nth h.b.u (nth (nth h.b.T f) 0).To.toNat++[(nth (nth h.b.T f) 0).X]) ω;have u:(nth h.b.T f).map (·.X)=(nth (nth h.b.T f) 0).X::((nth h.b.T f).drop 1).map (·.X):=by
   generalize nth h.b.T f=l at a
   match l,a with
   | p::l,_=>rfl
  grind [f7]
 grind [aR.mailed,FF,f7]
theorem aR.coll{h:ac}{E:List Int}{t:Nat}(a:aR h E)(e:t<h.b.u.length):aR {h with b:=kP h.b t} (nth h.b.u t++E):=by
 have c:=M5 a.mail e;have d:∀b,(nth h.b.u t++E).count b+(a9 (kP h.b t)).count b=E.count b+(a9 h.b).count b:=λb=>by grind [lR,aR.mail,iA,kP]
 exact a.mailed c rfl d (FF a d)
theorem aR.send{h:ac}{E:List Int}{f:Nat}{p:dl}(c:aR h (p.X::E))(d:f<h.b.T.length)(a:b9 (gu h.b f p)=true):aR {h with b:=gu h.b f p} E:=by
 have e:∀b,E.count b+(a9 (gu h.b f p)).count b=(p.X::E).count b+(a9 h.b).count b:=λb=>by
  rw[lR a,lR c.mail];have g:=iA (λl:List dl=>l.map (·.X)) b h.b.T f (nth h.b.T f++[p]) d
  grind [gu]
 grind [aR.mailed,FF,gu]
def rc(now:Int):List aK->Nat
 | []=>0
 | x::xs=>if x.c0<now - 100 then rc now xs+1 else 0
def aged(h:ac)(n:Int):ac:={h with b5:=h.b5+n,a0:=⟨h.a0.c2,h.a0.y.drop (rc (h.b5+n) h.a0.y)⟩}
def mF(h:ac)(n:Int):List Int:=(h.a0.y.take (rc (h.b5+n) h.a0.y)).map (·.X)
def tick(h:ac)(n:Int):ac:=freeAs (aged h n) (mF h n)
def nE(x:aK)(xs:List aK):∀n,quarCells (x::xs) (n+1)=csz x.Y+quarCells xs n
 | 0=>by simp only[quarCells];show 0+csz x.Y=csz x.Y+0;omega
 | n+1=>by
  rw[ip,nE x xs n,ip];show csz x.Y+quarCells xs n+csz (nth xs n).Y=_;omega
theorem NY(k:Int):0<=csz k:=by grind [csz]
theorem GE:∀(l:List aK)(k:Nat),qc (l.drop k)<=qc l
 | [],k=>by simp
 | x::xs,0=>T4 _
 | x::xs,k+1=>by
  have a:=GE xs k;have b:=NY x.Y;have c:qc (x::xs)=csz x.Y+qc xs:=nE x xs xs.length
  grind
theorem aR.aged{h:ac}{E:List Int}{n:Int}(a:aR h E)(t:0<=n)(u:h.b5+n<=1000000):aR (aged h n) (mF h n++E):=by
 obtain⟨i,j,k,o,p,q⟩:=jv.1 a.quar;have c:=a.nums;unfold cr at c;rw[C0]at c;have e:=List.drop_sublist (rc (h.b5+n) h.a0.y) h.a0.y;have g:(E++holders h).Perm ((mF h n++E)++holders (Ab.aged h n)):=by
  refine List.perm_iff_count.2 λb=>?_
  have r:=U0 (λl:List aK=>(l.map (·.X)).count b) (List.take_append_drop (rc (h.b5+n) h.a0.y) h.a0.y);simp only[C5,R5]at r;simp only[holders,ci,Ab.aged,mF,R5];omega
 exact {a with
   nums:=by unfold cr;rw[C0];simp only[Ab.aged];omega
   quar:=jv.2 ⟨λy d=>i y (e.subset d),j.sublist e,k.sublist (e.map _),o,p,Int.le_trans (GE _ _) q⟩
   snc:=λy d=>by
     have:=a.snc y (e.subset d);show y.c0<=h.b5+n;omega
   hqu:=λy d=>a.hqu y (e.subset d)
   hin:=λb f=>by
     rcases R2.1 f with f|f
     · obtain⟨y,d,rfl⟩:=X3.1 f
       exact(a.hqu y ψ).any
     exact a.hin b f
   nd:=g.nodup_iff.1 a.nd
   mem:=λb=>by rw[<-g.mem_iff];exact a.mem b}
theorem aR.tick{h:ac}{n:Int}(a:aR h [])(b:0<=n)(c:h.b5+n<=1000000):aR (tick h n) []/\JK h (tick h n):=by
 have h1:=a.aged b c;exact⟨aR.freeAs h1,JK.trans (h1:=Ab.aged h n) (JK.eq rfl rfl rfl rfl) (JK.freeAs h1)⟩
def collect(h:ac)(t:Nat):ac:=recycs t {h with b:=kP h.b t} (nth h.b.u t)
theorem aR.collect{h:ac}{t:Nat}(b:aR h [])(a:t<h.R.length):aR (collect h t) []/\JK h (collect h t):=by
 have h1:=b.coll (t:=t) (by grind [dB,aR.mail,aR.nc]);exact⟨aR.recycs h1 a,JK.trans (h1:={h with b:=kP h.b t}) (JK.eq rfl rfl rfl rfl) (JK.recycs h1 a)⟩
def NR(h:ac)(t i:Nat):ac:={h with M:=fG h.M (nth h.O i).X (csz (aJ (nth h.O i).d)).toNat,O:=dele h.O i,b:=gu h.b t ⟨(nth h.O i).a4,(nth h.O i).X⟩}
def freeT(h:ac)(t i:Nat):ac × Int:=
 if aJ (nth h.O i).d<0 then(freeL h i (uf h (nth h.O i).X),0)
 else if(au (tbl h) ((nth h.O i).X / 16)).w=1 then(h,5)
 else if(nth h.O i).a4=t then(Lt h t i,0)
 else if b9 (gu h.b t ⟨(nth h.O i).a4,(nth h.O i).X⟩)=true then(NR h t i,0) else(h,5)
theorem yN{h:ac}{t i:Nat}(e:(nth h.O i).a4=t):freeT h t i=freeOb h t i:=by grind [freeT,freeOb]
theorem aR.freeT{h:ac}{t i:Nat}(a:aR h [])(b:i<h.O.length)(c:t<h.R.length):aR (freeT h t i).1 []/\JK h (freeT h t i).1:=by
 by_cases e:(nth h.O i).a4=t
 ·grind [yN,aR.freeOb,JK.freeOb]
 have d:=a.freeOb b c;have f:=JK.freeOb a b c;unfold Ab.freeOb at d f;unfold Ab.freeT;split
 ·grind
 rename_i g;rw[C9 g]at d f;split
 ·grind
 split
 ·rename_i j
  obtain⟨⟨s,l,n,o⟩,u⟩:=(eY a (am b)).2 g;have q:=a.dropO b (iB.any ⟨s,l,n,.inr o⟩);have r:=q.cells (k:=fG h.M (nth h.O i).X (csz (aJ (nth h.O i).d)).toNat) (D1 a.ker _ _) rfl;exact⟨aR.send (p:=⟨(nth h.O i).a4,(nth h.O i).X⟩) r (by grind [aR.nc]) j,JK.eq rfl rfl rfl rfl⟩
 grind [JK.refl]
def kO(k:af)(a v:Int):af:=setCell k (fJ k a) (a % 16) v
def vD{k:af}(h:aC k=true){a v:Int}(b:(au k.G.S (a / 16)).w≠0)(c:0<=v/\v<=999):aC (kO k a v)=true:=by
 obtain⟨d,e,-⟩:=iN h b;exact pY h (f:=fJ k a) d e c
def aR.store{h:ac}{a v:Int}(b:aR h [])(c:(au h.M.G.S (a / 16)).w≠0)(d:0<=v/\v<=999):aR {h with M:=kO h.M a v} []/\JK h {h with M:=kO h.M a v}:=
 ⟨b.cells (vD b.ker c d) rfl,JK.eq rfl rfl rfl rfl⟩
def MV{xs:List Int}{x:Int}(h:cV xs.length (λj=>decide (nth xs j≠x))=true):x∉xs:=λb=>by
 obtain⟨j,a⟩:=List.mem_iff_getElem?.1 b;have:=dP h (Z1.1 a).1;rw[bm a]at this;simp at this
def B2(xs:List Int)(x:Int)(g:xs.length<=4611686018427387904):ao Tryz.prog 196 false [.val none (aF .U xs),.val none [I x]] .one [B (decide (x∈xs))]:=by
 refine fO 18 [] Tryz.func196 rfl ?_
 repeat'(first|refine gP ?_|fail)
 (conv=>whnf)
 refine CE (ι:=Nat) (λi=>[(0,.F .one (aF .U xs)),(1,.F .one [I (x)]),(5,.F .one [I ((i:Nat):Int)])]) (λi=>i<=xs.length/\cV i (λj=>decide (nth xs j≠x))=true) (λi=>xs.length - i) 0 ?_ ⟨T0 _,rfl⟩ λi a=>?_
 ·exact wB
 obtain⟨a,b⟩:=a;by_cases c:i<xs.length
 ·have d:=ah c
  by_cases e:nth xs i=x
  ·repeat'(first|refine gB ?_|(conv=>whnf);first|with_reducible refine CA (aa d) ?_)
   exact U0 (λz=>[B z]) ((by symm;exact O0 (by rw[<-e];exact am c)))
  repeat'(first|refine gB ?_|(conv=>whnf);first|with_reducible refine CA (aa d) ?_)
  ((conv=>whnf);refine CD (i+1) ⟨ω,bJ b (O0 e)⟩ ω ?_;(exact wB))
 repeat'(first|refine gE ?_|fail)
 obtain rfl:i=xs.length:=ω
 exact U0 (λz=>[B z]) ((by symm;exact R0 (MV b)))
theorem b8.more{M c:ab}{w d:World}(h:b8 M w d)(f:∀b o,M b o->c b o):b8 c w d:=
 ⟨h.os,h.tape,h.output,h.size,λb a e=>h.blk b a ψ,λb o a e=>h.cel b o a ψ,λb o a e=>h.fro b o a ψ⟩
theorem aP.wk{P:Program}{f:Nat}{sh:Bool}{c u:List C}{A B:List MA}{k:Kd}{rcs:List C}(h:aP P f sh A (.ptr c::B) k rcs)(D:Kg c u):aP P f sh A (.ptr u::B) k rcs:=by
 refine⟨h.has,λw S V i E F l G=>(h.run w S V i E F l G).mono λe w1 H=>?_⟩;obtain⟨v,J,K,X,L,M,N,n,p,a,q,r,b,O,Q,y⟩:=H;refine⟨v,J,K,X,L,M,N,n,p,a,q,r,b,O,Q,?_⟩;cases i with
 | nil=>exact y.elim
 | cons v0 i=>
  obtain⟨⟨R,Y,T,U,W,⟨g,o,Z,e2⟩,d⟩,t⟩:=y;refine⟨⟨R,Y,T,U,W,⟨g,o,Z,λj hj=>e2 j (by grind [qA])⟩,A2 D d⟩,t⟩
def aP.frame{P:Program}{f:Nat}{sh:Bool}{c c' r:List C}{A B:List MA}{k:Kd}{rcs:List C}(h:aP P f sh (.ptr c::A) (.ptr c'::B) k rcs)(hl:c'.length=c.length):aP P f sh (.ptr (c++r)::A) (.ptr (c'++r)::B) k rcs:=by
 refine⟨h.has,λw S V vs hS hV hVd hA=>?_⟩;cases vs with
 | nil=>exact hA.elim
 | cons v0 vs=>
 obtain⟨⟨X1,Y,hX1,hY,O,⟨g,q,rfl,u⟩,ff,hf1,J,hf3⟩,hA'⟩:=hA;have hlen:(c++r).length=c.length+r.length:=X2
 let V0:ab:=piece g q ff 0 c.length
 let W:Nat->ab:=Lb V0 (λi=>V (i+1))
 have hcX:∀o,q<=o->o<q+(c++r).length->X1 g o:=λo l a=>by
  have:=(u (o - q) ω).1
  rwa [show q+(o - q)=o by omega]at this
 have hV0:∀b o,V0 b o->V 0 b o:=λb o p=>by
  rcases p with⟨rfl,l,a⟩|⟨j,-,a,Q⟩
  ·exact hX1 _ _ (hcX o ω ω)
  exact hY _ _ (J j ω b o Q)
 have K:∀i b o,W i b o->V i b o:=λi b o p=>by
  cases i with
  | zero=>exact hV0 b o p
  | succ i=>exact p
 have hA2:LY w S W (.ptr c::A) (.pointer (some ⟨g,q,none⟩)::vs):=by
  refine⟨?_,hA'⟩;have:=sq (lo:=0) (n:=c.length) (cs:=c++r) ω u hf1 J hf3 O;rw[show bt (c++r) 0 c.length=c by simp[bt]]at this;simp only[C6,Nat.add_zero]at this;exact this
 refine(h.run w S W _ hS (λi b o p=>hV i b o (K i b o p)) (λi i' D b o l a=>hVd i i' D b o (K i b o l) (K i' b o a)) hA2).mono λe w1 hv=>?_
 obtain⟨v,he,hk,X,V',S1,hX,E,hS1,hVd',hXV,hXS,hVS1,hh,hr,hm⟩:=hv;have H:∀b o,(∃i,W i b o)->∃i,V i b o:=λb o ⟨i,Z⟩=>⟨i,K i b o Z⟩
 let R:ab:=λb o=>V 0 b o/\¬V0 b o
 have hRW:∀b o,R b o->¬∃i,W i b o:=λb o y ⟨i,Z⟩=>by
  cases i with
  | zero=>exact y.2 Z
  | succ i=>exact hVd 0 (i+1) ω b o y.1 Z
 have F:∀b o,R b o->b<w.heap.size:=λb o y=>(hV 0 b o y.1).1
 have t:∀b o,R b o->¬((∃i,W i b o)\/(b<w1.heap.size/\w.heap.size<=b)):=λb o y p=>by
  rcases p with p|p
  ·exact hRW b o y p
  have:=F b o y;omega
 have hRsame:bh R w w1:=λb o y=>⟨hk.cel b o (F b o y) (hRW b o y),hk.fro b o (F b o y) (hRW b o y)⟩
 have hRS1:∀b o,R b o->¬S1 b o:=λb o y hs=>by
  rcases hS1 b o hs with⟨-,l⟩|l
  ·exact(hV 0 b o y.1).2 l
  exact t b o y l
 have hSsame:bh S w w1:=λb o hb=>⟨hk.cel b o (hS.1 b o hb) (λ⟨i,Z⟩=>(hV i b o (K i b o Z)).2 hb),hk.fro b o (hS.1 b o hb) (λ⟨i,Z⟩=>(hV i b o (K i b o Z)).2 hb)⟩
 have hRc:∀j,c.length<=j->j<(c++r).length->R g (q+j):=λj l a=>by
  refine⟨hX1 _ _ (u j a).1,λp=>?_⟩;rcases p with⟨-,Q,h4⟩|⟨N,Q,h4,h5⟩
  ·omega
  exact O _ _ (u j a).1 (J N ω _ _ h5)
 have L:∀j,c.length<=j->j<(c++r).length->∀b o,ff j b o->R b o:=λj l a b o p=>by
  refine⟨hY _ _ (J j a b o p),λhp=>?_⟩;rcases hp with⟨rfl,Q,h4⟩|⟨N,Q,h4,h5⟩
  ·exact O _ _ (hcX o ω ω) (J j a _ _ p)
  exact hf3 j N a ω ω b o p h5
 let U:Nat->ab:=Lb (λb o=>V' 0 b o\/R b o) (λi=>V' (i+1))
 have hU:∀i b o,U i b o->V' i b o\/(i=0/\R b o):=λi b o p=>by
  cases i with
  | zero=>exact p.imp id (λh=>⟨rfl,h⟩)
  | succ i=>exact .inl p
 refine⟨v,he,hk.more H,X,U,S1,λb o p=>(hX b o p).imp (H b o) id,λi b o p=>?_,λb o p=>(hS1 b o p).imp id (Or.imp (H b o) id),λi i' D b o l a=>?_,λi b o l a=>?_,hXS,λi b o l a=>?_,hh,hr,?_,hm.2⟩
 ·rcases hU i b o p with l|⟨-,l⟩
  ·exact(E i b o l).imp (H b o) id
  exact .inl ⟨0,l.1⟩
 ·rcases hU i b o l with l|⟨e1,l⟩
  ·rcases hU i' b o a with a|⟨e2,a⟩
   ·exact hVd' i i' D b o l a
   exact t b o a (E i b o l)
  rcases hU i' b o a with a|⟨e2,a⟩
  ·exact t b o l (E i' b o a)
  exact D ω
 ·rcases hU i b o a with a|⟨-,a⟩
  ·exact hXV i b o l a
  exact t b o a (hX b o l)
 ·rcases hU i b o l with l|⟨-,l⟩
  ·exact hVS1 i b o l a
  exact hRS1 b o l a
 obtain⟨Xa,Ya,ha1,ha2,ha3,⟨ga,oa,hea,ha4⟩,fa,ha5,ha6,ha7⟩:=(show pe w1 (λb o=>S b o\/S1 b o) (V' 0) (.ptr c') (.pointer (some ⟨g,q,none⟩)) from hm.1)
 obtain⟨rfl,rfl⟩ : g=ga/\q=oa:=by simpa using hea
 have G:(c'++r).length=c.length+r.length:=by rw[X2,hl]
 show pe w1 (λb o=>S b o\/S1 b o) (λb o=>V' 0 b o\/R b o) (.ptr (c'++r)) (.pointer (some ⟨g,q,none⟩));have faV:∀j,j<c.length->∀b o,fa j b o->V' 0 b o:=λj M b o p=>ha2 _ _ (ha6 j ω b o p)
 refine⟨λb o=>Xa b o\/(R b o/\∃j,c.length<=j/\j<(c++r).length/\b=g/\o=q+j),λb o=>Ya b o\/∃j,c.length<=j/\j<(c++r).length/\ff j b o,λb o p=>?_,λb o p=>?_,λb o l a=>?_,⟨g,q,rfl,λj M=>?_⟩,λj=>if j<c.length then fa j else ff j,λj d M=>?_,λj M b o p=>?_,λj N M hj' D b o l a=>?_⟩
 ·exact p.imp (ha1 b o) (·.1)
 ·rcases p with p|⟨j,l,a,Q⟩
  ·exact .inl (ha2 b o p)
  exact .inr (L j l a b o Q)
 ·rcases l with l|⟨l,j,j1,j2,rfl,rfl⟩
  ·rcases a with a|⟨j,j1,j2,j3⟩
   ·exact ha3 b o l a
   exact t b o (L j j1 j2 b o j3) (E 0 b o (ha1 b o l))
  rcases a with a|⟨N,j3,j4,j5⟩
  ·exact t _ _ l (E 0 _ _ (ha2 _ _ a))
  exact O _ _ (u j j2).1 (J N j4 _ _ j5)
 ·rw[G]at M
  by_cases hc:j<c.length
  ·have:=ha4 j ω
   exact⟨.inl this.1,this.2⟩
  have y:=hRc j ω ω;have hs:=hRsame _ _ y;have T:=u j ω;refine⟨.inr ⟨y,j,ω,ω,rfl,rfl⟩,?_,?_⟩
  ·rw[hs.1];exact T.2.1
  rw[hs.2];exact T.2.2
 ·dsimp only
  by_cases hc:j<c.length
  ·rw[CB hc]
   rw[Z3 ω]at M;exact ha5 j d M
  rw[C9 hc];rw[C4 ω,hl]at M;have hj2:(c++r)[j]? = some d:=by rw[C4 ω];exact M
  have hjl:=(Z1.1 hj2).1;have Q:=(hf1 j d hj2).keep hSsame (λb o p=>hRsame b o (L j ω hjl b o p));have T:=(hRsame _ _ (hRc j ω hjl)).1;have:cb w1 .box (.pointer (some ⟨g,q,none⟩)) j=cb w .box (.pointer (some ⟨g,q,none⟩)) j:=by
   simp only[cb];rw[T]
  rw[this];exact Q.mono (λ_ _ h=>.inl h) (λ_ _ h=>h)
 ·rw[G]at M
  split at p
  ·rename_i hc;exact .inl (ha6 j ω b o p)
  exact .inr ⟨j,ω,ω,p⟩
 rw[G]at M hj';split at l
 ·rename_i c1
  split at a
  ·exact ha7 j N ω ω D b o l a
  exact t b o (L N ω ω b o a) (E 0 b o (faV j c1 b o l))
 split at a
 ·rename_i c1;exact t b o (L j ω ω b o l) (E 0 b o (faV N c1 b o a))
 exact hf3 j N ω ω D b o l a
mutual
def Ql:∀c:C,fz (fz c)=fz c
 | .v x=>by simp[fz]
 | .s o rows=>by simp only[fz];rw[G2 rows]
 | .x=>by simp[fz]
 | .z=>by simp[fz]
 | .m _=>by simp[fz]
 | .it _ _=>by simp[fz]
def G2:∀a:List (List C),fzR (fzR a)=fzR a
 | []=>rfl
 | r::a=>by simp only[fzR];rw[qW r,G2 a]
def qW:∀cs:List C,d8 (d8 cs)=d8 cs
 | []=>rfl
 | c::cs=>by simp only[d8];rw[Ql c,qW cs]
end
def mR(k:af)(a:aC k=true)(e:k.q≠100000):aP Tryz.prog 242 false [.ptr (af.enc .own k)] [.ptr (af.enc .own (dy k))] .one [B (!refd k)]:=by
 have b:=bE a;have c:=(aD.1 a).2.2.2.2;have d:=B2 k.e k.q (by have:=b.2;omega);refine fM 22 [] [(2,9,[11,12,13,14,15,16,17,18,19])] [(0,0)] Tryz.func242 rfl (λu q=>?_)
 repeat'(first|refine gP ?_|(conv=>whnf);first|refine CH (d) ⟨⟨rfl,dY _⟩,⟨rfl,U0 (λz=>[I z]) ω⟩,trivial⟩ ?_)
 refine CF rfl ?_ ?_
 ·rfl
 exact wB
def nj(k:af)(p m:Int)(a:aC k=true)(j:k.q≠100000)(d:(au k.G.S p).w≠0)(l:m=1\/m=2):aP Tryz.prog 256 false [.ptr (af.enc .own k),.val none [I p],.val none [I m]] [.ptr (af.enc .own (jZ k p m).1),.val none [I p],.val none [I m]] .one [B (jZ k p m).2]:=by
 have n:=bE a;have b:=mR k a j;have g:=ec (dy k) p n.1.2;have c:=aE m 1 2;rw[O0 ω]at c;obtain⟨o,t,w,-⟩:=cC a d;have h:=ah (xs:=k.G.S.K) (i:=p.toNat) ω;have r:¬(au (dy k).G.S p).w=0:=d;unfold jZ;cases e:refd k<;>rw[e]at b
 ·rw[C9 (by simp),Ji]
  refine fM 31 [(242,[2])] [] [(0,0),(0,0),(0,0)] Tryz.func256 rfl (λu q=>?_)
  repeat'(first|refine gB ?_|(conv=>whnf);first|refine CJ (b) (.inl rfl) ?_|refine CH (g) ⟨CQ (dy k),⟨rfl,rfl⟩,trivial⟩ ?_|refine C7 (c) ?_|refine CL o (aa h) ?_|refine CO rfl rfl (aa h) rfl (Z0 rfl) rfl ?_)
  refine CF rfl ?_ ?_
  ·rfl
  exact wB
 rw[CB rfl];refine fM 31 [(242,[2])] [] [(0,0),(0,0),(0,0)] Tryz.func256 rfl (λu q=>?_)
 repeat'(first|refine gB ?_|(conv=>whnf);first|refine CJ (b) (.inl rfl) ?_|refine CH (g) ⟨CQ (dy k),⟨rfl,rfl⟩,trivial⟩ ?_|refine C7 (c) ?_)
 refine CF rfl ?_ ?_
 ·rfl
 exact wB
def Rw.two{c:List C}{off i k j d e b:Nat}{K:List C->Nat->Prop}{o f:du}{rows rows2:List (List C)}{r a:List C}(h1:c[off]? = some (.s o rows))(g:rows[i]? = some r)(h:r.length=k)(l:r[j]? = some (.s f rows2))(n:rows2[d]? = some a)(p:a.length=e)(q:K a b):Rw c off [(i,k,j),(d,e,b)] K:=
 Rw.mk (r:=a) (j:=b) (by simp[bY,h1,g,h,l,n,p]) q
def xD(k:af)(a b c:Int)(h:aC k=true)(F:(au k.G.S a).w≠0)(G:(au k.G.S b).w≠0)(g:0<=c/\c<=15):aP Tryz.prog 257 false [.ptr (af.enc .own k),.val none [I a],.val none [I b],.val none (aF .U [c])] [.ptr (af.enc .own (yU k a b c)),.val none [I a],.val none [I b],.val none (aF .U [c])] .one [B true]:=by
 have w:=bE h;have H:=ec k a w.1.2;have J:=ec k b w.1.2;have y:=aE c 0 15;rw[O0 g]at y;obtain⟨K,O,L,C,P⟩:=cC h F;obtain⟨M,Q,D,E,R⟩:=cC h G;have N:=(bg.1 (aD.1 h).2.1).2.2.1;have S:=row16 h (f:=mz k a) (by unfold mz;omega);have T:=row16 h (f:=mz k b) (by unfold mz;omega);have d:k.G.V.W[(au k.G.S a).j.toNat]? = some (nth k.G.V.W (mz k a)):=ah ω;have e:k.G.V.W[(au k.G.S b).j.toNat]? = some (nth k.G.V.W (mz k b)):=ah ω;have l:=ah (xs:=nth k.G.V.W (mz k a)) (i:=c.toNat) ω;have o:=ah (xs:=nth k.G.V.W (mz k b)) (i:=c.toNat) ω;have p:=ah (xs:=k.G.S.K) (i:=a.toNat) ω;have r:=ah (xs:=k.G.S.K) (i:=b.toNat) ω;rw[L]at C d;rw[D]at E e;have t:[c][0]? = some c:=rfl;refine fM 90 [] [(13,28,[61,62,63,64,65,66,67,68,69,70,71,72,73,74,75,76,77,78,79,80,81,82,83,84,85,86,87,88])] [(0,0),(0,0),(0,0),(0,0)] Tryz.func257 rfl (λu q=>?_)
 repeat'(first|refine gB ?_|(conv=>whnf);first|refine C8 ?_|refine CH (H) ⟨CQ k,⟨rfl,rfl⟩,trivial⟩ ?_|refine CH (J) ⟨CQ k,⟨rfl,rfl⟩,trivial⟩ ?_)
 (conv=>whnf)
 refine CE (ι:=Nat) (λn=>[(0,.F .box (af.enc .own k)),(1,.F .one [I (a)]),(2,.F .one [I (b)]),(3,.F .one (aF .U [c])),(9,.F .one [I ((n:Nat):Int)])]) (λn=>n<=1) (λn=>1 - n) (0) ?_ (T0 _) λn U=>?_
 ·exact wB
 by_cases V:n<1
 ·obtain rfl:n=0:=ω
  repeat'(first|refine gE ?_|(conv=>whnf);first|refine C8 ?_|refine CL (by decide) (aa t) ?_|refine C7 (y) ?_)
  ((conv=>whnf);refine CD 1 ω ω ?_;(exact wB))
 obtain rfl:n=1:=ω
 repeat'(first|refine gE ?_|(conv=>whnf);first|refine C8 ?_|refine CL K (aa p) ?_|refine CL M (aa r) ?_|refine CG rfl (aa p) rfl ?_|refine CG rfl (aa r) rfl ?_)
 (conv=>whnf)
 refine CE (ι:=Nat) (λj=>[(0,.F .box (af.enc .own (NQ k a b c j))),(3,.F .one (aF .U [c])),(10,.F .one [I ((nth k.G.S.K a.toNat).j)]),(11,.F .one [I ((nth k.G.S.K b.toNat).j)]),(12,.F .one [I ((j:Nat):Int)])]) (λj=>j<=1) (λj=>1 - j) (0) ?_ (T0 _) λj W=>?_
 ·exact wB
 by_cases X:j<1
 ·obtain rfl:j=0:=ω
  repeat'(first|refine gE ?_|(conv=>whnf);first|refine C8 ?_|refine CL (by decide) (aa t) ?_|refine CL C (aa d) ?_|refine CL E (aa e) ?_|refine CL g.1 (aa l) ?_|refine CL g.1 (aa o) ?_|refine CG rfl (aa e) rfl ?_|refine CG rfl (aa d) rfl ?_|refine Rw.two rfl (aa d) rfl rfl (aa l) rfl ?_|refine Pu.two rfl rfl (aa e) rfl rfl rfl (aa o) rfl (U2 _) rfl ?_)
  ((conv=>whnf);refine CD 1 ω ω ?_)
  rw[show NQ k a b c 1=yU k a b c from rfl];unfold yU;rw[D5,show mz k b=(nth k.G.S.K b.toNat).j.toNat by unfold mz;rw[D]];exact wB
 obtain rfl:j=1:=ω
 repeat'(first|refine gE ?_|(conv=>whnf);first|refine C8 ?_)
 refine CF rfl ?_ ?_
 ·rfl
 exact wB
def Fz(k:af)(p o:Int)(a:aC k=true)(y:k.q≠100000)(g:(au k.G.S p).w≠0)(h:(au k.G.S o).w≠0)(C:p≠o):aP Tryz.prog 258 false [.ptr (af.enc .own k),.val none [I p],.val none [I o]] [.ptr (af.enc .own (zF k p o).1),.val none [I p],.val none [I o]] .one [B (zF k p o).2]:=by
 have b:=bE a;have c:=mR k a y;have j:=ec (dy k) p b.1.2;have l:=ec (dy k) o b.1.2;obtain⟨D,K,E,n,r⟩:=cC a g;obtain⟨F,L,M,N,O⟩:=cC a h;have G:=(bg.1 (aD.1 a).2.1).2.2.1;have d:=ah (xs:=k.G.S.K) (i:=p.toNat) ω;have t:=ah (xs:=k.G.S.K) (i:=o.toNat) ω;have H:¬(au (dy k).G.S p).w=0:=g;have J:¬(au (dy k).G.S o).w=0:=h;rw[E]at n r;have w:=A6 (vn (dy k) p.toNat ⟨2,(nth k.G.S.K o.toNat).j⟩) (nth k.G.S.K p.toNat).j (JN _ _ b.1.2) ⟨n,by show _<((k.G.V.W.length:Nat):Int);omega,r⟩;rw[JW]at w;unfold zF;cases e:refd k<;>rw[e]at c
 ·rw[C9 (by simp)]
  refine fM 60 [(242,[2]),(244,[2,0])] [(4,274,[38,39,40,41,42,43,44,45,46,47,48,49,50,51,52,53,54,56,0,1,2,3,4,5,6,7,8,9,10,11,12,13,14,15,16,17,1000,1001,1002,1003,1004,1005,1006,18,19])] [(0,0),(0,0),(0,0)] Tryz.func258 rfl (λu q=>?_)
  repeat'(first|refine gB ?_|(conv=>whnf);first|refine C8 ?_|refine CJ (c) (.inl rfl) ?_|refine CH (j) ⟨CQ (dy k),⟨rfl,rfl⟩,trivial⟩ ?_|refine CH (l) ⟨CQ (dy k),⟨rfl,rfl⟩,trivial⟩ ?_|refine CL D (aa d) ?_|refine CL F (aa t) ?_|refine CG rfl (aa d) rfl ?_|refine CG rfl (aa t) rfl ?_|refine CO rfl rfl (aa d) rfl (Z0 rfl) rfl ?_|refine CJ (w) (.inl rfl) ?_)
  refine CF rfl ?_ ?_
  ·rfl
  exact wB
 rw[CB rfl];refine fM 60 [(242,[2]),(244,[2,0])] [(4,274,[38,39,40,41,42,43,44,45,46,47,48,49,50,51,52,53,54,56,0,1,2,3,4,5,6,7,8,9,10,11,12,13,14,15,16,17,1000,1001,1002,1003,1004,1005,1006,18,19])] [(0,0),(0,0),(0,0)] Tryz.func258 rfl (λu q=>?_)
 repeat'(first|refine gB ?_|(conv=>whnf);first|refine C8 ?_|refine CJ (c) (.inl rfl) ?_|refine CH (j) ⟨CQ (dy k),⟨rfl,rfl⟩,trivial⟩ ?_|refine CH (l) ⟨CQ (dy k),⟨rfl,rfl⟩,trivial⟩ ?_)
 refine CF rfl ?_ ?_
 ·rfl
 exact wB
def xK(m:aS)(a:Int)(d:aS.sml m)(c:0<=a/\a<512):ao Tryz.prog 274 false [.val (some 3) (aS.enc .U m),.val none [I a]] (.tup [some 2,none]) (bi.enc .own (au m.S (a / 16))++[I (a % 16)]):=by
 have e:=cX m.S (a / 16) d.2;have b:a.tmod 16=a % 16:=fQ c.1;refine fO 16 [] Tryz.func274 rfl ?_ (.inr ⟨trivial,trivial,trivial,trivial⟩)
 repeat'(first|refine gE ?_|(conv=>whnf);first|refine C8 ?_|refine C7 (e) ?_|refine CK (po c) ?_|refine CM (by decide) ?_|refine CS b ?_)
 rfl
def F7(m:aS)(a v:Int)(o:dv m=true)(e:aS.sml m)(p:0<=a/\a<512)(q:0<=v/\v<=999)(r:(au m.S (a / 16)).w≠0->0<=(au m.S (a / 16)).j/\(au m.S (a / 16)).j<m.V.W.length/\(nth m.V.W (au m.S (a / 16)).j.toNat).length=16):ao Tryz.prog 272 false [.val (some 3) (aS.enc .U m),.val none [I a],.val none [I v]] (.tup [some 3,none]) (aS.enc .own (lD m a v).1++[I (lD m a v).2]):=by
 have c:=nQ m e;rw[o]at c;have g:=ro m e;have h:=xK m a e p;have d:=aE v 0 999;rw[O0 q]at d;have b:=aS.enc_fr (lD m a v).1;unfold lD at b |-;by_cases j:(au m.S (a / 16)).w=0
 ·rw[CB j]at b |-
  refine fO 47 [] Tryz.func272 rfl ?_ (.inr (bc b ⟨trivial,trivial⟩))
  repeat'(first|refine gB ?_|(conv=>whnf);first|refine C8 ?_|refine C7 (c) ?_|refine C7 (g) ?_|refine C7 (h) ?_|refine C7 (d) ?_)
  rfl
 rw[C9 j]at b |-;by_cases l:(au m.S (a / 16)).w=1
 ·rw[CB l]at b |-
  refine fO 47 [] Tryz.func272 rfl ?_ (.inr (bc b ⟨trivial,trivial⟩))
  repeat'(first|refine gB ?_|(conv=>whnf);first|refine C8 ?_|refine C7 (c) ?_|refine C7 (g) ?_|refine C7 (h) ?_|refine C7 (d) ?_)
  rfl
 rw[C9 l]at b |-;obtain⟨t,u,w⟩:=r j;have k:=ah (xs:=m.V.W) (i:=(au m.S (a / 16)).j.toNat) ω;have n:=ah (xs:=nth m.V.W (au m.S (a / 16)).j.toNat) (i:=(a % 16).toNat) ω;simp only at b |-;rw[Ff]at b |-;refine fO 47 [] Tryz.func272 rfl ?_ (.inr (bc b ⟨trivial,trivial⟩))
 repeat'(first|refine gB ?_|(conv=>whnf);first|refine C8 ?_|refine C7 (c) ?_|refine C7 (g) ?_|refine C7 (h) ?_|refine C7 (d) ?_|refine CL t (aa k) ?_|refine CL ω (aa n) ?_|refine CG rfl (aa k) rfl ?_|refine Pu.two rfl rfl (aa k) rfl rfl rfl (aa n) rfl (U2 _) rfl ?_)
 rfl
def lQ{k:af}{j:cU} : jmay k j=true↔(aC k=true/\k.q≠100000)/\jj j=true/\(au k.G.S j.k.b2).w≠0/\(au k.G.S j.k.b3).w≠0/\(au k.G.S j.k.b2).j≠(au k.G.S j.k.b3).j:=by
 unfold jmay;simp only[I0,C0]
def lX{p:cI}(h:eI p=true):p.W.length<=16:=by
 unfold eI at h;simp only[I0]at h;have a:∀i,i<p.W.length->(i:Int)<=nth p.W i:=λi=>by
  induction i with
  | zero=>
   intro a;have:=dP h.1 a;unfold mT at this;rw[C0]at this;exact this.1
  | succ i b=>
   intro a;have c:=b ω;have:=dP h.1 a;unfold mT at this;rw[C0]at this;have d:=this.2.2.resolve_left ω;rw[Nat.add_sub_cancel]at d;omega
 by_cases e:p.W.length<=16
 ·exact e
 exfalso;have c:=a 16 ω;have:=dP h.1 (show 16<p.W.length by omega);unfold mT at this;rw[C0]at this;omega
def Ho{j:cU}(h:jj j=true):cU.sml j:=by
 have:=lX (fx.1 h).1;show j.k.W.length<=1048576;omega
def sr{k:af}(h:aC k=true):dv k.G=true:=by
 unfold aC at h;simp only[I0]at h;exact h.1.2
def zv(k:af)(j:cU)(p:jmay k j=true)(g:j.b7=3):aP Tryz.prog 259 false [.ptr (af.enc .own k),.ptr (xh j)] [.ptr (af.enc .own (jstep k j).1),.ptr (xh (jstep k j).2)] (.tup []) []:=by
 obtain⟨⟨a,r⟩,t,c,d,w⟩:=lQ.1 p;obtain⟨h,H,J,K,L⟩:=fx.1 t;have y:=bE a;obtain⟨M,N,O,B,P⟩:=cC a c;have l:=(bv.1 (aD.1 a).2.2.1).2.2;have C:=lX h;have D:=(bg.1 (aD.1 a).2.1).2.2.1;unfold jstep;rw[C9 ω,C9 ω,C9 ω,CB g];by_cases n:0<j.a2
 ·rw[CB n]
  have o:=lL h (i:=(j.a2 - 1).toNat) ω;have E:=ah (xs:=j.k.W) (i:=(j.a2 - 1).toNat) ω;have F:0<=j.k.b2*16+nth j.k.W (j.a2 - 1).toNat/\j.k.b2*16+nth j.k.W (j.a2 - 1).toNat<512:=ω
  have G:(j.k.b2*16+nth j.k.W (j.a2 - 1).toNat) / 16=j.k.b2:=ω
  have b:=F7 k.G (j.k.b2*16+nth j.k.W (j.a2 - 1).toNat) 0 (sr a) y.1 F ω (λ_=>by rw[G];exact⟨B,ω,row16 a (f:=mz k j.k.b2) (by unfold mz;omega)⟩);generalize (lD k.G (j.k.b2*16+nth j.k.W (j.a2 - 1).toNat) 0).1=m at b |-;generalize (lD k.G (j.k.b2*16+nth j.k.W (j.a2 - 1).toNat) 0).2=e at b;refine fM 59 [(256,[2,0,0])] [(2,283,[20,21,22,23,24,25,26,27,28,29,30,31,32,33,34,35,36,37,38,39,40,41,42,19,43,44,4,0,1,2,3,4,5,6,7,8,9,10,11,12,13,14,15,16,17,18,19,20,21,22,23,24,25,26,27,1025,28])] [(0,0),(1,0)] Tryz.func259 rfl (λu q=>?_) (.inr trivial)
  repeat'(first|refine gE ?_|(conv=>whnf);first|refine C8 ?_|refine CH (b) ⟨⟨rfl,aS.enc_fz k.G⟩,⟨rfl,rfl⟩,⟨rfl,rfl⟩,trivial⟩ ?_|refine CL ω (aa E) ?_|refine C8 ?_)
  refine CF rfl rfl ?_;exact wC
 rw[C9 n];have b:=nj k j.k.b3 2 a r d (.inr rfl);cases e:(jZ k j.k.b3 2).2<;>rw[e]at b
 ·refine fM 59 [(256,[2,0,0])] [(2,283,[20,21,22,23,24,25,26,27,28,29,30,31,32,33,34,35,36,37,38,39,40,41,42,19,43,44,4,0,1,2,3,4,5,6,7,8,9,10,11,12,13,14,15,16,17,18,19,20,21,22,23,24,25,26,27,1025,28])] [(0,0),(1,0)] Tryz.func259 rfl (λu q=>?_) (.inr trivial)
  repeat'(first|refine gE ?_|(conv=>whnf);first|refine C8 ?_|refine CJ (b) (.inl rfl) ?_)
  refine CF rfl rfl ?_;rw[<-g];exact wC
 refine fM 59 [(256,[2,0,0])] [(2,283,[20,21,22,23,24,25,26,27,28,29,30,31,32,33,34,35,36,37,38,39,40,41,42,19,43,44,4,0,1,2,3,4,5,6,7,8,9,10,11,12,13,14,15,16,17,18,19,20,21,22,23,24,25,26,27,1025,28])] [(0,0),(1,0)] Tryz.func259 rfl (λu q=>?_) (.inr trivial)
 repeat'(first|refine gE ?_|(conv=>whnf);first|refine C8 ?_|refine CJ (b) (.inl rfl) ?_)
 refine CF rfl rfl ?_;exact wC
def AK(k:af)(j:cU)(g:jmay k j=true):aP Tryz.prog 213 false [.ptr (af.enc .own k),.ptr (xh j)] [.ptr (af.enc .own (jstep k j).1),.ptr (xh (jstep k j).2)] (.tup []) []:=by
 obtain⟨⟨h,p⟩,B,c,b,l⟩:=lQ.1 g;obtain⟨r,F,G,H,J⟩:=fx.1 B;have n:j.k.b3≠j.k.b2:=λe=>l (by rw[e])
 have C:=lX r;by_cases d:j.b7=0
 ·have a:=nj k j.k.b3 1 h p b (.inl rfl)
  unfold jstep;rw[CB d];cases e:(jZ k j.k.b3 1).2<;>rw[e]at a
  ·refine fM 80 [(256,[2,0,0]),(257,[2,0,0,0]),(258,[2,0,0]),(259,[2,2])] [(7,7,[27,28,29,30,31,32,33]),(9,14,[38,39,40,41,42,43,44,45,46,47,48,49,50,51])] [(0,0),(1,0)] Tryz.func213 rfl (λu q=>?_) (.inr trivial)
   repeat'(first|refine gB ?_|(conv=>whnf);first|refine C8 ?_|refine CJ (a) (.inl rfl) ?_)
   refine CF rfl rfl ?_;exact wC
  refine fM 80 [(256,[2,0,0]),(257,[2,0,0,0]),(258,[2,0,0]),(259,[2,2])] [(7,7,[27,28,29,30,31,32,33]),(9,14,[38,39,40,41,42,43,44,45,46,47,48,49,50,51])] [(0,0),(1,0)] Tryz.func213 rfl (λu q=>?_) (.inr trivial)
  repeat'(first|refine gB ?_|(conv=>whnf);first|refine C8 ?_|refine CJ (a) (.inl rfl) ?_)
  refine CF rfl rfl ?_;exact wC
 by_cases o:j.b7=1
 ·unfold jstep
  rw[C9 d,CB o];by_cases t:j.a2=j.k.W.length
  ·rw[CB t]
   refine fM 80 [(256,[2,0,0]),(257,[2,0,0,0]),(258,[2,0,0]),(259,[2,2])] [(7,7,[27,28,29,30,31,32,33]),(9,14,[38,39,40,41,42,43,44,45,46,47,48,49,50,51])] [(0,0),(1,0)] Tryz.func213 rfl (λu q=>?_) (.inr trivial)
   repeat'(first|refine gB ?_|(conv=>whnf);first|refine C8 ?_|refine C8 ?_)
   refine CF rfl rfl ?_;exact wC
  rw[C9 t];have D:=ah (xs:=j.k.W) (i:=j.a2.toNat) ω;have a:=xD k j.k.b3 j.k.b2 (nth j.k.W j.a2.toNat) h b c (lL r ω);have E:=(lQ.1 g).2.1;refine fM 80 [(256,[2,0,0]),(257,[2,0,0,0]),(258,[2,0,0]),(259,[2,2])] [(7,7,[27,28,29,30,31,32,33]),(9,14,[38,39,40,41,42,43,44,45,46,47,48,49,50,51])] [(0,0),(1,0)] Tryz.func213 rfl (λu q=>?_) (.inr trivial)
  repeat'(first|refine gB ?_|(conv=>whnf);first|refine C8 ?_|refine CJ a (.inr ⟨rfl,af.enc_fr _,trivial⟩) ?_|refine CL ω (aa D) ?_|refine C8 ?_)
  refine CF rfl rfl ?_;exact wC
 by_cases w:j.b7=2
 ·have a:=Fz k j.k.b3 j.k.b2 h p b c n
  unfold jstep;rw[C9 d,C9 o,CB w];cases e:(zF k j.k.b3 j.k.b2).2<;>rw[e]at a
  ·refine fM 80 [(256,[2,0,0]),(257,[2,0,0,0]),(258,[2,0,0]),(259,[2,2])] [(7,7,[27,28,29,30,31,32,33]),(9,14,[38,39,40,41,42,43,44,45,46,47,48,49,50,51])] [(0,0),(1,0)] Tryz.func213 rfl (λu q=>?_) (.inr trivial)
   repeat'(first|refine gB ?_|(conv=>whnf);first|refine C8 ?_|refine CJ (a) (.inl rfl) ?_)
   refine CF rfl rfl ?_;exact wC
  refine fM 80 [(256,[2,0,0]),(257,[2,0,0,0]),(258,[2,0,0]),(259,[2,2])] [(7,7,[27,28,29,30,31,32,33]),(9,14,[38,39,40,41,42,43,44,45,46,47,48,49,50,51])] [(0,0),(1,0)] Tryz.func213 rfl (λu q=>?_) (.inr trivial)
  repeat'(first|refine gB ?_|(conv=>whnf);first|refine C8 ?_|refine CJ (a) (.inl rfl) ?_)
  refine CF rfl rfl ?_;exact wC
 by_cases y:j.b7=3
 ·have a:=zv k j g y
  refine fM 80 [(256,[2,0,0]),(257,[2,0,0,0]),(258,[2,0,0]),(259,[2,2])] [(7,7,[27,28,29,30,31,32,33]),(9,14,[38,39,40,41,42,43,44,45,46,47,48,49,50,51])] [(0,0),(1,0)] Tryz.func213 rfl (λu q=>?_) (.inr trivial)
  repeat'(first|refine gB ?_|(conv=>whnf);first|refine C8 ?_|refine CJ (a) (.inl rfl) ?_)
  refine CF rfl rfl ?_;exact wC
 unfold jstep;rw[C9 d,C9 o,C9 w,C9 y];refine fM 80 [(256,[2,0,0]),(257,[2,0,0,0]),(258,[2,0,0]),(259,[2,2])] [(7,7,[27,28,29,30,31,32,33]),(9,14,[38,39,40,41,42,43,44,45,46,47,48,49,50,51])] [(0,0),(1,0)] Tryz.func213 rfl (λu q=>?_) (.inr trivial)
 repeat'(first|refine gB ?_|(conv=>whnf);first|refine C8 ?_)
 refine CF rfl rfl ?_;exact wC
def BO(k:af)(j:cU)(e:aC k=true)(i:jj j=true):ao Tryz.prog 212 false [.val (some 5) (af.enc .U k),.val (some 5) (cU.enc .U j)] .one [B (jmay k j)]:=by
 have c:=bE e;have b:d8 (af.enc .U k)=af.enc .U k:=by rw[<-CQ k,qW]
 have r:=(aD.1 e).2.2.2.2;have a:=kW k c;rw[e]at a;have d:=vt j (Ho i);rw[i]at d;have l:=ec k j.k.b2 c.1.2;have n:=ec k j.k.b3 c.1.2;have t:=cX k.G.S j.k.b2 c.1.2;have u:=cX k.G.S j.k.b3 c.1.2;by_cases o:k.q=100000
 ·rw[R0 ω]at a
  rw[show jmay k j=false by rw[<-X4,lQ];exact λh=>h.1.2 o];refine fO 44 [(3,16,[27,28,29,30,31,32,33,34,35,36,37,38,39,40,41,42])] Tryz.func212 rfl ?_
  repeat'(first|refine gP ?_|(conv=>whnf);first|refine C8 ?_|refine C7 (a) ?_|refine C7 (d) ?_)
  rfl
 rw[O0 ω]at a;by_cases p:(au k.G.S j.k.b2).w=0
 ·rw[show jmay k j=false by rw[<-X4,lQ];exact λh=>h.2.2.1 p]
  refine fO 44 [(3,16,[27,28,29,30,31,32,33,34,35,36,37,38,39,40,41,42])] Tryz.func212 rfl ?_
  repeat'(first|refine gB ?_|(conv=>whnf);first|refine C8 ?_|refine C7 (a) ?_|refine C7 (d) ?_|refine CH (l) ⟨b,⟨rfl,rfl⟩,trivial⟩ ?_|refine CH (n) ⟨b,⟨rfl,rfl⟩,trivial⟩ ?_)
  rfl
 by_cases q:(au k.G.S j.k.b3).w=0
 ·rw[show jmay k j=false by rw[<-X4,lQ];exact λh=>h.2.2.2.1 q]
  refine fO 44 [(3,16,[27,28,29,30,31,32,33,34,35,36,37,38,39,40,41,42])] Tryz.func212 rfl ?_
  repeat'(first|refine gB ?_|(conv=>whnf);first|refine C8 ?_|refine C7 (a) ?_|refine C7 (d) ?_|refine CH (l) ⟨b,⟨rfl,rfl⟩,trivial⟩ ?_|refine CH (n) ⟨b,⟨rfl,rfl⟩,trivial⟩ ?_)
  rfl
 refine fO 44 [(3,16,[27,28,29,30,31,32,33,34,35,36,37,38,39,40,41,42])] Tryz.func212 rfl ?_
 repeat'(first|refine gB ?_|(conv=>whnf);first|refine C8 ?_|refine C7 (a) ?_|refine C7 (d) ?_|refine CH (l) ⟨b,⟨rfl,rfl⟩,trivial⟩ ?_|refine CH (n) ⟨b,⟨rfl,rfl⟩,trivial⟩ ?_|refine C7 (t) ?_|refine C7 (u) ?_|refine C8 ?_)
 exact U0 (λz=>[B z]) (by
   unfold jmay;rw[e,i,O0 o];by_cases g:(au k.G.S j.k.b2).j=(au k.G.S j.k.b3).j
   · rw[R0 (λh=>h.2.2 g)];simp[g]
   rw[O0 ⟨p,q,g⟩];simp[g])
def Ah(j:cU):ao Tryz.prog 214 false [.val (some 5) (cU.enc .U j)] .one [B (over j)]:=by
 by_cases a:j.b7=4
 ·rw[show over j=true from O0 (.inl a)]
  refine fO 11 [] Tryz.func214 rfl ?_
  repeat'(first|refine gB ?_|(conv=>whnf);first|refine C8 ?_)
  rfl
 rw[show over j=decide (j.b7=5) from decide_eq_decide.2 ω];refine fO 11 [] Tryz.func214 rfl ?_
 repeat'(first|refine gB ?_|(conv=>whnf);first|refine C8 ?_)
 exact U0 (λz=>[B z]) (by rw[O4];simp)
def Gg(x:ac):List C:=(br x).set 21 .z
def D4{x:ac}(h:x.b1.k.W=[]):Kg (Gg x) (br x):=by
 unfold Gg br;simp only[List.set,h,List.map_nil]
 repeat'(first|exact trivial|exact cJ _|refine CI ?_ ?_|rfl)
def zO(h:ac)(j:aR h [])(k:h.b0=true):aP Tryz.prog 149 false [.ptr (br h)] [.ptr (br (mStep h))] .one [B (DN h)]:=by
 obtain⟨l,-,-⟩:=j.job k;have b:=BO h.M h.b1 j.ker l;have a:=Ah (jE h.M h.b1).2;unfold DN mStep;cases e:jmay h.M h.b1 with
 | false=>
  rw[e]at b;have d:jE h.M h.b1=(h.M,h.b1):=by unfold jE;rw[e];rfl
  rw[d]at a |-;simp only at a |-;cases g:over h.b1<;>rw[g]at a
  ·refine fM 39 [(213,[3,5,5])] [(1,8,[4,5,6,7,8,9,10,11]),(2,6,[13,14,15,16,17,18])] [(0,0)] Tryz.func149 rfl (λu q=>?_)
   repeat'(first|refine gP ?_|(conv=>whnf);first|refine CH (b) ⟨⟨rfl,CQ h.M⟩,⟨rfl,rfl⟩,trivial⟩ ?_|refine C7 (a) ?_|refine C8 ?_)
   refine CF rfl ?_ ?_
   ·exact U0 (λz=>[B z]) (by rw[O4];simp)
   exact wC
  refine aP.wk (c:=Gg _) ?_ (D4 rfl);refine fM 39 [(213,[3,5,5])] [(1,8,[4,5,6,7,8,9,10,11]),(2,6,[13,14,15,16,17,18])] [(0,0)] Tryz.func149 rfl (λu q=>?_)
  repeat'(first|refine gP ?_|(conv=>whnf);first|refine CH (b) ⟨⟨rfl,CQ h.M⟩,⟨rfl,rfl⟩,trivial⟩ ?_|refine C7 (a) ?_|refine C8 ?_)
  refine CF rfl ?_ ?_
  ·exact U0 (λz=>[B z]) (by rw[O4];simp)
  exact wC
 | true=>
  rw[e]at b;have d:jE h.M h.b1=jstep h.M h.b1:=by unfold jE;rw[e];rfl
  have i:=AK h.M h.b1 e;rw[d]at a |-;generalize jstep h.M h.b1=r at i a |-;cases g:over r.2<;>rw[g]at a
  ·refine fM 39 [(213,[3,5,5])] [(1,8,[4,5,6,7,8,9,10,11]),(2,6,[13,14,15,16,17,18])] [(0,0)] Tryz.func149 rfl (λu q=>?_)
   repeat'(first|refine gP ?_|(conv=>whnf);first|refine CH (b) ⟨⟨rfl,CQ h.M⟩,⟨rfl,rfl⟩,trivial⟩ ?_|refine C7 (a) ?_|refine CJ (i) (.inl rfl) ?_|refine C8 ?_)
   refine CF rfl ?_ ?_
   ·exact U0 (λz=>[B z]) (by rw[O4];simp)
   exact wC
  refine aP.wk (c:=Gg _) ?_ (D4 rfl);refine fM 39 [(213,[3,5,5])] [(1,8,[4,5,6,7,8,9,10,11]),(2,6,[13,14,15,16,17,18])] [(0,0)] Tryz.func149 rfl (λu q=>?_)
  repeat'(first|refine gP ?_|(conv=>whnf);first|refine CH (b) ⟨⟨rfl,CQ h.M⟩,⟨rfl,rfl⟩,trivial⟩ ?_|refine C7 (a) ?_|refine CJ (i) (.inl rfl) ?_|refine C8 ?_)
  refine CF rfl ?_ ?_
  ·exact U0 (λz=>[B z]) (by rw[O4];simp)
  exact wC
theorem Gm{k:Int} : ∀{l s s2 b:List Int}(n:Nat),(∀x∈s2,x∈s)->qY k s l=some b->∃c,qY k s2 (l.take n)=some c/\∀x∈c,x∈b
 | [],s,s2,b,n,h,e=>by grind [qY]
 | a::l,s,s2,b,0,h,e=>⟨s2,rfl,λx d=>(nU (λ_ y=>y) e).1 x (h x d)⟩
 | a::l,s,s2,b,n+1,h,e=>by
  simp only[List.take_succ_cons,qY]at e |-;split at e
  ·rename_i g
   rw[CB (show good k s2 a from⟨g.1,g.2.1,g.2.2.1,λx=>g.2.2.2 (h a x)⟩)];exact Gm (l:=l) (s:=s++[a]) (s2:=s2++[a]) n ψ e
  cases e
theorem BF:∀{a:List (List Int)}{k:Nat}{s s2:List Int}(i n:Nat),(∀x∈s2,x∈s)->(gf k s a).isSome=true->(gf k s2 (a.set i ((nth a i).take n))).isSome=true
 | [],_,_,_,_,_,_,_=>rfl
 | l::a,k,s,s2,i,n,h,e=>by
  simp only[gf,eA]at e;split at e
  ·rename_i g
   cases b:qY k s l with
   | none=>grind
   | some j=>
    rw[b]at e;cases i with
    | zero=>
     obtain⟨c,d,f⟩:=Gm n h b
     grind [O1,sT,gf,eA,nth]
    | succ i=>
     obtain⟨o,c,d,f⟩:=nU h b;simp only[List.set_cons_succ,gf,eA];rw[CB g,d];exact BF i n f e
  cases e
theorem N9{c:aA}(h:bj c=true)(k:Nat):bj (uy c k)=true:=by grind [BF,bj,uy]
def oq(b:Int):Nat->List Int
 | 0=>[]
 | j+1=>if aQ b (j:Nat)=true then oq b j else oq b j++[((j:Nat):Int)]
theorem sY{b:Int} : ∀{n:Nat}{z:Int},z∈oq b n->0<=z/\z<n/\aQ b z=false
 | 0,_,h=>by cases h
 | n+1,z,h=>by
  unfold oq at h;split at h
  ·have:=sY h;grind
  rename_i e;rcases R2.1 h with h|h
  ·have:=sY h;grind
  grind
theorem si(b:Int):∀n,(oq b n).length<=n
 | 0=>U2 _
 | n+1=>by have:=si b n;grind [oq]
def pW(k b:Int):List Int:=if J0 k b=true then oq b (slots k).toNat else []
def mE(h:ac)(i:Nat):List Int:=pW (nth h.H i).Y (gy h i)
theorem v4{k b z:Int}(h:z∈pW k b):0<=z/\z<slots k/\aQ b z=false:=by
 unfold pW at h;split at h
 ·have:=sY h;grind
 cases h
theorem EB(k b:Int):(pW k b).length<=16:=by grind [fY,si,pW,J0]
def pq(h:ac)(i:Nat):Int:=nth (mE h i) (Lx h.c1 ((mE h i).length:Nat)).toNat
def slotT(h:ac)(i:Nat):ac:={h with c1:=Gl h.c1,H:=h.H.set i (qt (nth h.H i) (pq h i))}
def tA(h:ac)(i:Nat):Int:=16*(nth h.H i).Q+pq h i*csz (nth h.H i).Y
def zb{h:ac}{i:Nat}(a:0<(mE h i).length):pq h i∈mE h i:=by
 have:=xf h.c1 (n:=((mE h i).length:Nat)) ω;exact am ω
def aR.slotT{h:ac}{E:List Int}{i:Nat}(a:aR h E)(b:i<h.H.length)(e:0<(mE h i).length):aR (slotT h i) (tA h i::E)/\iB (slotT h i).H (tA h i) (nth h.H i).Y:=by
 obtain⟨c,d,f⟩:=v4 (zb e);exact⟨a.take b ⟨c,d⟩ f (EK _),(iB.setS a.L b ⟨c,d⟩ _ _).2 (.inr ⟨rfl,.inr rfl⟩)⟩
def sU(h:ac)(c:Int)(i:Nat):Bool:=decide ((nth h.H i).Y=c)&&(!gW h (nth h.H i).Q&&decide (0<(mE h i).length))
def sO(h:ac)(c:Int):Option Nat:=(List.range h.H.length).find? (sU h c)
def wP(h:ac)(c:Int):ac:=addS h (gc h.M (a7 h.o 1).2.1).1 (a7 h.o 1).1 (a7 h.o 1).2.1 c
def tY(h:ac):Nat:=lz (H5 (a7 h.o 1).2.1) h.H
def rr(h:ac)(i:Nat):ac × Int:=if(mE h i).length=0 then(h,-1) else(slotT h i,tA h i)
def gl(h:ac)(t c:Nat):ac × Int:=
 if 0<(nth (nth h.R t).Z c).length then({h with R:=h.R.set t (uy (nth h.R t) c)},nth (nth (nth h.R t).Z c) ((nth (nth h.R t).Z c).length - 1))
 else match sO h c with
 | some i=>(slotT h i,tA h i)
 | none=>if(a7 h.o 1).2.2=false then(h,-1)
  else if(gc h.M (a7 h.o 1).2.1).2=false then({h with M:=(gc h.M (a7 h.o 1).2.1).1},-1)
  else rr (wP h c) (tY h)
theorem G7{α:Type}[Inhabited α](p:α->Bool)(xs:List α)(y:α):lz p xs<(jd p xs y).length/\nth (jd p xs y) (lz p xs)=y:=by
 have a:=MR p xs;have b:(xs.take (lz p xs)).length=lz p xs:=ψ
 refine⟨by grind [List.Perm.length_eq,jV,List.length_cons],bm ?_⟩
 grind [jd]
theorem aR.tEq{h:ac}{E:List Int}(a:aR h E){k:af}(c:aC k=true)(b:tEq (tbl h) k.G.S):aR {h with M:=k} E/\JK h {h with M:=k}:=
 ⟨a.step (j:=h.b1) (m:=h.b0) c b.1 (a.pg.tEq b) a.job a.noj,⟨rfl,rfl,ψ,λq d=>.inl ⟨(b.2 q).1.1 d,(b.2 q).2⟩⟩⟩
structure P0(h:ac)(c:Int)(r:ac × Int):Prop where
 no:r.2<0->aR r.1 []
 yes:0<=r.2->aR r.1 [r.2]/\iB r.1.H r.2 c
 jk:JK h r.1
 nx:r.1.a2=h.a2
 cl:r.1.R.length=h.R.length
def iB.nn{h:ac}{E:List Int}(b:aR h E){a c:Int}(d:iB h.H a c):0<=a:=(iB.bd b d).1
theorem P0.slot{h h':ac}{i:Nat}{c:Int}(b:aR h' [])(d:i<h'.H.length)(e:0<(mE h' i).length)(n:(nth h'.H i).Y=c)(f:JK h h')(a:gW h' (nth h'.H i).Q=false)(h1:h'.a2=h.a2)(g:h'.R.length=h.R.length):P0 h c (slotT h' i,tA h' i):=by
 obtain⟨j,k⟩:=b.slotT d e;have l:=iB.nn j k;exact⟨ω,ψ,f.trans (JK.take a),h1,g⟩
theorem yV{h:ac}{t c:Nat}(a:aR h [])(l:t<h.R.length)(J:c<=3)(r:h.M.q<=90000):P0 h c (gl h t c):=by
 have f:=a.cach _ (am l);have u:=t5 f;unfold gl;split
 ·rename_i w
  obtain⟨d,b⟩:=a.pop l ω w (N9 f c);have A:=iB.nn a b;exact⟨ω,λ_=>⟨d,b⟩,JK.eq rfl rfl rfl rfl,rfl,I1 ..⟩
 split
 ·rename_i i n
  have K:=List.find?_some n;have L:=List.mem_range.1 (List.mem_of_find?_eq_some n)
  grind [P0.slot,JK.refl,sU]
 split
 ·exact⟨λ_=>a,ω,JK.refl h,rfl,rfl⟩
 rename_i B;have g:(a7 h.o 1).2.2=true:=by simpa using B
 obtain⟨C,D,E,o⟩:=kS a (T4 1) g;have s:=wN.of (p:=(a7 h.o 1).2.1) a.ker ω ⟨C,by have:(a7 h.o 1).2.1+1<=(h.M.G.S.K.length:Nat):=D;omega⟩ (E _ ω ω);split
 ·rename_i k
  rw[s.no k];obtain⟨d,b⟩:=a.tEq (lH a.ker ω) (tEq.refl _);exact⟨λ_=>d,ω,b,rfl,rfl⟩
 rename_i k;have F:(gc h.M (a7 h.o 1).2.1).2=true:=by simpa using k
 have q:wN h.M (a7 h.o 1).2.1 ((gc h.M (a7 h.o 1).2.1).1,true):=ψ
 have d:=a.addS (c:=c) ω g q;have b:JK h (wP h c):=JK.addS q;obtain⟨G,H⟩:=G7 (H5 (a7 h.o 1).2.1) h.H ⟨(a7 h.o 1).2.1,c,0⟩;unfold rr;split
 ·exact⟨λ_=>d,ω,b,rfl,rfl⟩
 refine P0.slot (h':=wP h c) (i:=tY h) d G ω (by show(nth (jd (H5 (a7 h.o 1).2.1) h.H ⟨(a7 h.o 1).2.1,c,0⟩) (tY h)).Y=_;grind [tY]) b ?_ rfl rfl;show gW (wP h c) (nth (jd (H5 (a7 h.o 1).2.1) h.H ⟨(a7 h.o 1).2.1,c,0⟩) (tY h)).Q=false;unfold tY;rw[H,b.pg];rw[<-X4];intro j;unfold gW at j;simp only[I0,U5,C0]at j;obtain⟨-,⟨y,M,N⟩,⟨z,O,P⟩⟩:=a.job j.1;rcases j.2 with e|e
 ·exact o _ (T4 _) ω (by grind [d6])
 exact o _ (T4 _) ω (by grind [d6])
def lZ(size:Int):Nat:=((size+15) / 16).toNat
def iG(h:ac)(size:Int):af × Nat:=cR h.M (a7 h.o (lZ size:Nat)).2.1 (lZ size)
def pJ(h:ac)(t size:Int):ac × Int × Int:=
 if(a7 h.o (lZ size:Nat)).2.2=false then(h,-1,4)
 else if(iG h size).2=lZ size then(addL h (iG h size).1 (a7 h.o (lZ size:Nat)).1 (a7 h.o (lZ size:Nat)).2.1 (lZ size:Nat) size t,16*(a7 h.o (lZ size:Nat)).2.1,0)
 else({h with M:=dQ (iG h size).1 (a7 h.o (lZ size:Nat)).2.1 (iG h size).2},-1,4)
def sQ(xs:List bF):Nat->Int
 | 0=>0
 | i+1=>sQ xs i+(nth xs i).d
def uY(h:ac):Int:=sQ h.O h.O.length
def gm(h:ac)(t size:Int):ac × Int × Int:=
 if 1000000<=h.a2\/90000<h.M.q then(h,-1,5)
 else if ¬(0<=t/\t<=h.R.length - 1) then(h,-1,1)
 else if ¬(1<=size/\size<=1000) then(h,-1,2)
 else if h.c5<uY h+size then(h,-1,3)
 else if 0<=aJ size then(if(gl h t.toNat (aJ size).toNat).2<0 then((gl h t.toNat (aJ size).toNat).1,-1,4) else(addO (gl h t.toNat (aJ size).toNat).1 (gl h t.toNat (aJ size).toNat).2 size t,(gl h t.toNat (aJ size).toNat).2,0))
 else pJ h t size
theorem H1{h:ac}{t size:Int}(a:aR h [])(l:9<=size/\size<=1000)(o:h.a2<1000000)(f:h.M.q<=90000)(q:0<=t/\t<=h.R.length - 1):aR (pJ h t size).1 []/\JK h (pJ h t size).1:=by
 have r:(lZ size:Int)=(size+15) / 16:=by unfold lZ;omega
 unfold pJ;split
 ·grind [JK.refl]
 rename_i g;have b:(a7 h.o (lZ size:Nat)).2.2=true:=by simpa using g
 obtain⟨c,d,e,u⟩:=kS a ω b;have s:=jm.of (p:=(a7 h.o (lZ size:Nat)).2.1) (n:=lZ size) a.ker ω ⟨c,d⟩ e (lZ size) (U2 _);split
 ·rename_i i
  have w:jm h.M (a7 h.o (lZ size:Nat)).2.1 (lZ size) ((iG h size).1,lZ size):=by
   have:((iG h size).1,lZ size)=iG h size:=by rw[<-i]
   rw[this];exact s
  grind [aR.addL,JK.addL]
 obtain⟨j,k⟩:=s.undo a.ker ⟨c,d⟩ e;exact a.tEq j k
theorem HK{h:ac}{t size:Int}(a:aR h []):aR (gm h t size).1 []/\JK h (gm h t size).1:=by
 unfold gm;split
 ·grind [JK.refl]
 rename_i b;rw[not_or]at b;split
 ·grind [JK.refl]
 rename_i i;split
 ·grind [JK.refl]
 rename_i j;split
 ·grind [JK.refl]
 split
 ·rename_i k
  have d:aJ size<=3:=by grind [aJ]
  have s:=yV (t:=t.toNat) (c:=(aJ size).toNat) a ω ω ω;generalize gl h t.toNat (aJ size).toNat=r at s;split
  ·grind [P0.no,P0.jk]
  rename_i e;obtain⟨f,g⟩:=s.yes ω;refine⟨f.addO (.inl ?_) (by rw[s.nx];omega) (by rw[s.cl];omega),s.jk.trans (JK.eq rfl rfl rfl rfl)⟩;obtain⟨z,l,n,o⟩:=g
  grind
 grind [H1,aJ]
end Go.Proofs.YtifeilefdakapaaGreatDoor.Ab
