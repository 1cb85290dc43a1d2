/- Freeing: the reference's contracts, over a whole heap that is lent. No condition. -/
import Derived.Test.YtfdfgipemcbekaaGreatDoorKTd
import Derived.Test.YtfdfgipemcbekaaGreatDoorKTe
import Derived.Deep.LoopGhost
import Derived.Deep.RegionLaw
import Derived.Lib.Walk
import Derived.Sort.WalkB12
import Derived.Lib.SliceRun
import Derived.Shelf.RegionOpenPlain
set_option linter.unusedVariables false
set_option linter.defProp false
set_option linter.unusedSimpArgs false
set_option linter.constructorNameAsVariable false
namespace Go.Proofs.YtfdfgipemcbekaaGreatDoor.Ab
open Go.RowKit
set_option maxRecDepth 20000
set_option maxHeartbeats 4000000
def AM(h:ac)(i:Nat)(a:Int):bO (clrS h i a)=(bO h).set 6 (.s .own ((h.H.map (a8.enc .own)).set i (a8.enc .own (lW (nth h.H i) (eg (nth h.H i) a))))):=by
 simp[bO,clrS,CC]
variable{i:Nat}{α:Type}
theorem jP{β:Type}{f:α->β}{xs:List α}{y:β}(a:i<xs.length):((xs.map f).set i y)[i]? = some y:=ψ
variable{a:Int}{s:a8}
def Qr(c:bh s=true)(b:gk s a):jM s a=(eg s a,0):=by
 unfold jM;rw[CJ ((iq c).2 ⟨b.1,b.2.1⟩),b.2.2.1];rfl
theorem p8(h:ac)(E:List Int)(a:Int)(c:bf h (a::E)):zzB 109 false [.ptr (bO h),.vI a] [.ptr (bO (freeA h a)),.vI a] (.tup []) []:=by
 obtain⟨j,n,t⟩:=c.at (c.hin a ψ);have d:=(c.hin a ψ).bd c;have B:=c.lens;have C:=B.spans;have e:=c.L.sok _ (ax j);have k:=lf h (a / 16) ω;rw[t]at k;unfold freeA;generalize yF h a=i at j n k e;have b:=ar j;have o:=xQ (nth h.H i) a ⟨ω,ω⟩;rw[Qr e n]at o;have w:=Dr (nth h.H i) (eg (nth h.H i) a) e n.2.2.2;have D:=c.give j n;have l:=xV (clrS h i a) (nth h.H i).S;rw[show gv (clrS h i a) (nth h.H i).S=gv h (nth h.H i).S from rfl]at l;have p:=HG (clrS h i a) E i D (by grind[clrS]);have r:=bS (clrS h i a);rw[AM]at p r;have g:((h.H.map (a8.enc .own)).set i (a8.enc .own (lW (nth h.H i) (eg (nth h.H i) a))))[i]? = some (a8.enc .own (lW (nth h.H i) (eg (nth h.H i) a))):=jP j;unfold freeS;by_cases y:(lW (nth h.H i) (eg (nth h.H i) a)).b0=0
 ·cases F:gv h (nth h.H i).S<;>rw[F]at l
  ·rw[CJ ⟨y,rfl⟩]
   refine fM 68 [(218,[2,0])] [ςt] [(0,0),(0,0)] Tryz.func109 rfl (λu q=>?_) (.inr tV1)
   repeat'(first|refine gB ?_|with_reducible refine CR ((I1 _ (tdiv16 d.1)).trans (fH ω ω)) ?_|apply CT qs|refine CL (k) ⟨⟨rfl,bS h⟩,π⟩ ?_|refine CH g ?_|refine CK rfl g rfl ?_|refine CS rfl rfl (aa b) rfl δ rfl ?_|refine CL (l) ⟨r,π⟩ ?_)
   exact ks
  rw[CI ψ];rw[AM];refine fM 68 [(218,[2,0])] [ςt] [(0,0),(0,0)] Tryz.func109 rfl (λu q=>?_) (.inr tV1)
  repeat'(first|refine gB ?_|with_reducible refine CR ((I1 _ (tdiv16 d.1)).trans (fH ω ω)) ?_|apply CT qs|refine CL (k) ⟨⟨rfl,bS h⟩,π⟩ ?_|refine CH g ?_|refine CK rfl g rfl ?_|refine CS rfl rfl (aa b) rfl δ rfl ?_|refine CL (l) ⟨r,π⟩ ?_)
  exact ks
 rw[CI λx=>y x.1];rw[AM];refine fM 68 [(218,[2,0])] [ςt] [(0,0),(0,0)] Tryz.func109 rfl (λu q=>?_) (.inr tV1)
 repeat'(first|refine gB ?_|with_reducible refine CR ((I1 _ (tdiv16 d.1)).trans (fH ω ω)) ?_|apply CT qs|refine CL (k) ⟨⟨rfl,bS h⟩,π⟩ ?_|refine CH g ?_|refine CK rfl g rfl ?_|refine CS rfl rfl (aa b) rfl δ rfl ?_|refine CL (l) ⟨r,π⟩ ?_)
 exact ks
def RY(h:ac)(t:Nat)(c:aD):bO {h with Q:=h.Q.set t c} = (bO h).set 9 (.s .own ((h.Q.map (aD.enc .own)).set t (aD.enc .own c))):=by
 simp[bO,CC]
theorem qk(h:ac)(E:List Int)(t:Nat)(a:Int)(b:bf h (a::E))(w:t<h.Q.length):zzB 208 false [.ptr (bO h),.vI (t:Nat),.vI a] [.ptr (bO (recyc t h a)),.vI (t:Nat),.vI a] (.tup []) []:=by
 obtain⟨o,y,p⟩:=b.at (b.hin a ψ);have g:=(b.hin a ψ).bd b;have B:=b.lens;have C:=B.spans;have j:=aJ (b.L.sok _ (ax o));have r:=b.cach _ (ax w);have l:=lf h (a / 16) ω;rw[p]at l;have D:=p8 h E a b;unfold recyc;generalize yF h a=i at o y l j;have n:=ar o;have k:=ar w;have d:=D1 (nth h.Q t) (nth h.H i).a.toNat a r ω;rw[Int.toNat_of_nonneg j.2.2.1]at d;unfold BO at d;cases e:cput (nth h.Q t) (nth h.H i).a a with
 | none=>
  rw[e]at d;refine fM 46 [(109,[2,0])] [ς1a,ρ 3 6 36] [(0,0),(0,0),(0,0)] Tryz.func208 rfl (λu q=>?_) (.inr tV1)
  repeat'(first|refine gP ?_|with_reducible refine CR ((I1 _ (tdiv16 g.1)).trans (fH ω ω)) ?_|apply CT qs|refine CL (l) ⟨⟨rfl,bS h⟩,π⟩ ?_|refine CL (d) ⟨⟨rfl,Co _⟩,⟨rfl,rfl⟩,π⟩ ?_)
  exact ks
 | some c=>
  rw[e]at d;simp only;rw[RY];refine fM 46 [(109,[2,0])] [ς1a,ρ 3 6 36] [(0,0),(0,0),(0,0)] Tryz.func208 rfl (λu q=>?_) (.inr tV1)
  repeat'(first|refine gP ?_|with_reducible refine CR ((I1 _ (tdiv16 g.1)).trans (fH ω ω)) ?_|apply CT qs|refine CL (l) ⟨⟨rfl,bS h⟩,π⟩ ?_|refine CL (d) ⟨⟨rfl,Co _⟩,⟨rfl,rfl⟩,π⟩ ?_|refine CS rfl rfl (aa k) rfl δ rfl ?_)
  exact ks
theorem sM(h:ac)(i:Nat)(d:bf h [])(o:i<h.K.length)(t:aP (nth h.K i).k<0):zzB 204 false [.ptr (bO h),.vI (i:Nat)] [.ptr (bO (freeL h i (u7 h (nth h.K i).U))),.vI (i:Nat)] (.tup []) []:=by
 obtain⟨l,w,y,-⟩:=(eE d (ax o)).1 t;obtain⟨p,B,c,-⟩:=vz w y;generalize u7 h (nth h.K i).U=g at p B c;have a:=d.lens;have C:=a.larges;have D:=a.objs;have b:=ar o;have N:=aV (d.L.lok _ (ax p));have E:fk h<=32:=a.ents;refine fM 89 [(201,[2,0]),(206,[2,0])] [ρ 4 11 23,ρ 8 7 41,(9,273,[50,51,52,53,54,55,56,57,58,59,60,62,49,63,64,65,66,0,1,2,3,4,5,6,7,8,9,10,11,1000,1001,1002,1003,1004,1005,1006,12,13,14,15,16,17,18,1015]),(10,273,[67,68,69,70,71,72,73,74,76,77,78,79,80,81,82,84,85,0,1,2,3,4,5,6,7,9,10,11,12,13,14,15,8,1000,1009,1010,1011,1012,1013,1014,1015,16,1000,17,18,19]),(1048586,0,[7])] [(0,0),(0,0)] Tryz.func204 rfl (λu q=>?_) (.inr tV1)
 refine σP ?_
 refine lp0 g (λk=>[(0,bF (bO h)),(1,fN i),(4,fN k)]) λk O=>?_
 have j:=ar (xs:=h.J) (i:=k) ω;have F:=aV (d.L.lok _ (ax (xs:=h.J) (i:=k) ω));have G:0<=(nth h.K i).U/\(nth h.K i).U<=512:=ω
 by_cases e:k=g
 ·subst e
  refine σB ?_
  refine lp0 ((nth h.J k).a2.toNat) (λn=>[(0,bF (bO {h with G:=dE h.G (nth h.J k).S n})),(1,fN i),(4,fN k),(5,bF (aB.enc .own (nth h.J k))),(6,fN n)]) λn P=>?_
  by_cases Q:n<(nth h.J k).a2.toNat
  ·have H:=pG {h with G:=dE h.G (nth h.J k).S n} ((nth h.J k).S+n) (jJ d.ker _ _)
   refine σE ?_
   (exact cV (n+1) ω)
  obtain rfl:n=(nth h.J k).a2.toNat:=ω
  have r:=iX {h with G:=dE h.G (nth h.J k).S (nth h.J k).a2.toNat};rw[show fk {h with G:=dE h.G (nth h.J k).S (nth h.J k).a2.toNat} = fk h from(gM _ _ _).1]at r;have J:=od (fk h:Nat) h.e ⟨(nth h.J k).S,(nth h.J k).a2⟩ ω ⟨by grind[qw.free],λ_ _=>tV1⟩;have K:=pS {h with G:=dE h.G (nth h.J k).S (nth h.J k).a2.toNat,J:=dele h.J k,e:=(cm (fk h) h.e ⟨(nth h.J k).S,(nth h.J k).a2⟩).getD h.e} i o ψ
  repeat'(first|refine gE ?_|refine L8.mk rfl (xf h.J) rfl ?_|refine Ca k rfl ϰ (aI λ_=>rfl) C8 ?_|refine Ci (k+1) rfl ϰ (aI λ_=>rfl) I8 ?_|refine Ce (λ_=>rfl) (λ_=>rfl) θ qs ?_|refine Ap.dele (λ_=>rfl) (λ_=>rfl) ω qs ?_|refine CX (λ_=>rfl) (λ_=>rfl) θ qs ?_|refine CL (r) ⟨bS _,tV1⟩ ?_|refine CL (J) ⟨⟨rfl,rfl⟩,⟨rfl,ef h.e⟩,π⟩ ?_)
  exact ks
 have M:=c k ω
 refine σB ?_
 (exact cV (k+1) ω)
def RW(q:bz)(x:aO):List C:=bz.enc .own (Q3 q x)++cA .own (wT q x)
def Pm(q:bz)(x:aO):fy (RW q x):=ay (bz.enc_fr _) (na _)
def Gh(q:bz)(a:aO)(J:q.a0.length<=4096)(e:gj q=true)(r:0<=a.a/\a.a<=3/\0<=a.U/\0<=a.b7)(t:∀y∈q.a0,y.b7<=a.b7)(u:∀y∈q.a0,y.U≠a.U) :
  zzA 207 false [.val (some 2) (bz.enc .R q),.val (some 3) (aO.enc .R a)] (.tup [some 2,none]) (RW q a):=by
 have b:bz.sml q:=⟨ω,λ_ _=>tV1⟩
 have w:=vL q b;have l:=rn q b;rw[e]at l;have n:=EI a;rw[O0 r]at n;have o:=uA q a.U b;rw[show q.a0.any (fg a.U)=false by rw[List.any_eq_false];intro y B;unfold fg;simpa using u y B]at o;have C:=(iQ.1 e).2.2.2;have g:=Pm q a;have K:(aO.mk a.U a.a a.b7)=a:=rfl;have c:=AX q.c0 (q.a0++[a]);simp only[C6,List.length_singleton]at c;by_cases D:q.a0.length=0
 all_goals
  try have h:(nth q.a0 (q.a0.length - 1)).b7<=a.b7:=t _ (ax ω)
  try have j:=ar (xs:=q.a0) (i:=q.a0.length - 1) ω
  try have d:q.a0[((q.a0.length:Int) - 1).toNat]? = some (nth q.a0 (q.a0.length - 1)):=by rw[show((q.a0.length:Int) - 1).toNat=q.a0.length - 1 by omega];exact j
  refine fO 74 [ρ 3 27 15,ρ 7 6 52,(9,268,[61,62,63,64,65,66,67,69,70,71,72,73,0,1,2,3,4,5,6,8,9,10,11,12,7,1008,1009,1010,1011,1012,13,14])] Tryz.func207 rfl ?_ (.inr g)
  repeat'(first|refine gE ?_|refine gS (λe=>?_) (λe=>?_)|refine CO ω (aa d) ?_|refine Cf (aI λ_=>rfl) rfl kd qs (en (aO.enc .own) q.a0 a) ?_)
  refine Lp.fz 8 (ι:=Nat) (λk=>[(2,bF (bz.enc .R q)),(4,bF [I 0,.z]),(8,bK (cA .R (q.a0++[a]))),(9,fN k)]) (λk=>k<=jx q.c0 (q.a0++[a])) (λk=>jx q.c0 (q.a0++[a]) - k) 0 ?_ (C1 _) λk L=>?_
  ·(repeat'(first|exact tV1|rfl|exact CQ rfl (show Qd (dw (cA .own (q.a0++[a]))) (cA .R (q.a0++[a])) by rw[Lb];exact kS _)|refine CQ ?_ ?_))
  have M:(q.a0++[a]).length=q.a0.length+1:=by simp
  have E:((q.a0++[a]).drop k).length<=5000:=by rw[I6];omega
  have F:((q.a0++[a]).take k).length<=5000:=by rw[Z2];omega
  have p:=xF ((q.a0++[a]).drop k) ⟨ω,λ_ _=>tV1⟩;by_cases G:k<jx q.c0 (q.a0++[a])
  ·have H:q.c0<quarCells ((q.a0++[a]).drop k) ((q.a0++[a]).drop k).length:=wq G
   repeat'(first|refine gE ?_|refine Ci k rfl ϰ (aI λ_=>rfl) I8 ?_)
   (exact cV (k+1) ω)
  obtain rfl:k=jx q.c0 (q.a0++[a]):=ω
  have H:quarCells ((q.a0++[a]).drop (jx q.c0 (q.a0++[a]))) ((q.a0++[a]).drop (jx q.c0 (q.a0++[a]))).length<=q.c0:=yY C.1 _
  repeat'(first|refine gE ?_|refine Ci (jx q.c0 (q.a0++[a])) rfl ϰ (aI λ_=>rfl) I8 ?_|refine Ca (jx q.c0 (q.a0++[a])) rfl ϰ (aI λ_=>rfl) C8 ?_|refine Ce (λ_=>rfl) (λ_=>rfl) ω qs ?_|refine CX (λ_=>rfl) (λ_=>rfl) ω qs ?_)
  rfl
def kV{z:Int}(h:0<=z/\z<512):IntKind.i64.wrap (z.tdiv 16)=z / 16:=(I1 _ (tdiv16 h.1)).trans (fH ω ω)
variable{E:List Int}{h:ac}
def nD(a:bf h E){o:bc}(b:o∈h.K):0<=o.U/\o.U<512:=by
 rcases a.oow o b with⟨s,c,⟨f,g,-⟩,-⟩|⟨l,d,e,-⟩
 ·have:=aJ (a.L.sok s c);omega
 have:=aV (a.L.lok l d);omega
theorem Ge{k:Int}(h:0<=k/\k<=3):1<=csz k/\csz k<=8:=by grind[dd]
structure X3(h:ac)(o:bc):Prop where
 cl:0<=aP o.k/\aP o.k<=3
 fr:0<=(au h.G.F.O (o.U / 16)).j/\(au h.G.F.O (o.U / 16)).j<h.G.F.W.V.length
 fit:o.U % 16+csz (aP o.k)<=16
 row:(nth h.G.F.W.V (fe h.G o.U)).length=16
theorem X3.of(a:bf h E){o:bc}(i:o∈h.K)(k:¬aP o.k<0):X3 h o:=by
 obtain⟨⟨s,j,b,r⟩,t⟩:=(eE a i).2 k;have l:=aJ (a.L.sok s j);have n:=nD a i;have u:s.S=o.U / 16:=by have w:=b.1;have y:=b.2.1;omega
 have c:(o.U / 16).toNat<(tbl h).M.length:=by have:=a.pg.bnd _ (eP (la:=h.J) j);omega
 have d:(((o.U / 16).toNat:Nat):Int)=o.U / 16:=ω
 have A:=(a.pg.own _ c).2 (by grind[eP]);have e:(au h.G.F.O (o.U / 16)).y≠0:=by grind[nA,tbl]
 obtain⟨-,-,-,f,p⟩:=bQ a.ker e;have q:=(aT.1 (aF.1 a.ker).2.1).2.2.1;have g:fe h.G o.U<h.G.F.W.V.length:=by unfold fe;omega
 refine⟨ω,⟨f,ω⟩,?_,a.lens.row _ (ax g)⟩;have B:=b.2.2.1
 grind[dd]
theorem Gc(h:ac)(a:Int)(b:fe h.G a<h.G.F.W.V.length):({h with G:=eM h.G a 0} : ac)=h:=by
 have e:h.G.F.W.V.set (fe h.G a) (nth h.G.F.W.V (fe h.G a))=h.G.F.W.V:=by
  refine List.ext_getElem? λi=>?_
  grind[ar]
 unfold eM jq;rw[e]
def Jf(h:ac)(a:Int)(k:Nat)(v:Int)(_:0<=a):bO {h with G:=eM h.G a (k+1)} = (bO {h with G:=eM h.G a k}).set 0 (.s .own (((eM h.G a k).F.W.V.map (aE .own)).set (au h.G.F.O (a / 16)).j.toNat ((aE .own (jq (nth h.G.F.W.V (fe h.G a)) (a % 16).toNat k)).set 0 (.s .own (((jq (nth h.G.F.W.V (fe h.G a)) (a % 16).toNat k).map (rI .own)).set (a % 16+k).toNat (splice (rI .own v) 0 [I 0])))))):=by
 have e:(a % 16+k).toNat=(a % 16).toNat+k:=ω
 rw[e];simp[bO,eM,CC,jq,aE,splice,fe]
 rfl
theorem yb(t:Nat)(h:ac)(xs:List aO)(k:Nat)(a:k<xs.length):recycs t h ((xs.take (k+1)).map (·.U))=recyc t (recycs t h ((xs.take k).map (·.U))) (nth xs k).U:=by grind[ZA,ar,recycs]
theorem LP(h:ac)(o:bc)(t:Nat)(a:bf h [])(M:o∈h.K)(ht:o.a1=t)(hlc:h.Q.length<=4):zzB 99 false [.ptr (bO h),.vI (t:Nat),.vI o.U] [.ptr (bO (freeOb h t (kb h o.U)).1),.vI (t:Nat),.vI o.U] .one [I (freeOb h t (kb h o.U)).2]:=by
 obtain⟨g,w,B⟩:=a.objAt M;have b:=nD a M;have hon:=a.onu o M;have C:=a.lens;have hno:=C.objs;have N:t<h.Q.length:=ω
 have K:=aK (t:Nat) 0 (h.Q.length - 1:Int);rw[O0 ω]at K;have D:=tN h o.U ω;rw[B]at D;generalize kb h o.U=i at g w D;subst w;have p:=ar g;have O:=lX (nth h.K i).k;unfold freeOb;have P:=aX a.ker;have W:=cZ h.G.F.O ((nth h.K i).U / 16) P.1.2;by_cases r:aP (nth h.K i).k<0
 ·rw[CJ r]
  have c3:=sM h i a g r;refine fM 148 [(204,[2,0]),(206,[2,0]),(208,[2,0,0]),(203,[2,0])] [ς5,ς6,ς7] [(0,0),(0,0),(0,0)] Tryz.func99 rfl (λu q=>?_)
  repeat'(first|refine gE ?_|refine gS (λj=>?_) (λj=>?_)|refine CL (D) ⟨⟨rfl,bS h⟩,π⟩ ?_)
  exact ks
 rw[CI r];obtain⟨Q,s2,s3,s4⟩:=X3.of a (ax g) r;by_cases L:(au (tbl h) ((nth h.K i).U / 16)).y=1
 ·rw[CJ L]
  unfold tbl at L;refine fM 148 [(204,[2,0]),(206,[2,0]),(208,[2,0,0]),(203,[2,0])] [ς5,ς6,ς7] [(0,0),(0,0),(0,0)] Tryz.func99 rfl (λu q=>?_)
  repeat'(first|refine gB ?_|refine gS (λj=>?_) (λj=>?_)|apply CT qs|apply CR (kV b)|refine CL (D) ⟨⟨rfl,bS h⟩,π⟩ ?_|refine CL (W) ⟨⟨rfl,Cn _⟩,π⟩ ?_)
  exact ks
 rw[CI L];unfold tbl at L;have E:fe h.G (nth h.K i).U<h.G.F.W.V.length:=by unfold fe;omega
 have hcz:=Ge Q;have l:=a.inQuar g r;have F:=eK (aP (nth h.K i).k);refine fM 148 [(204,[2,0]),(206,[2,0]),(208,[2,0,0]),(203,[2,0])] [ς5,ς6,ς7] [(0,0),(0,0),(0,0)] Tryz.func99 rfl (λu q=>?_)
 repeat'(first|refine gB ?_|refine gS (λj=>?_) (λj=>?_)|apply CT qs|apply CR (kV b)|refine CL (D) ⟨⟨rfl,bS h⟩,π⟩ ?_|refine CL (W) ⟨⟨rfl,Cn _⟩,π⟩ ?_)
 rw[show bO h=bO {h with G:=eM h.G (nth h.K i).U 0} by rw[Gc h _ E]]
 (conv=>whnf)
 refine lp0 ((csz (aP (nth h.K i).k)).toNat) (λk=>[(0,bF (bO {h with G:=eM h.G (nth h.K i).U k})),(1,fN t),(2,fI ((nth h.K i).U)),(7,fN i),(8,bF (bc.enc .own (nth h.K i))),(9,fI (aP (nth h.K i).k)),(10,bF (bv.enc .own (au h.G.F.O ((nth h.K i).U / 16)))),(13,fN k)]) λk hk=>?_
 have X:IntKind.i64.wrap 0=0:=rfl;have R:(nth h.K i).U.tmod 16=(nth h.K i).U % 16:=dy b.1;have n:(eM h.G (nth h.K i).U k).F.W.V[(au h.G.F.O ((nth h.K i).U / 16)).j.toNat]? = some (jq (nth h.G.F.W.V (fe h.G (nth h.K i).U)) ((nth h.K i).U % 16).toNat k):=Z6 E;by_cases S:k<(csz (aP (nth h.K i).k)).toNat
 ·have G:=ar (xs:=jq (nth h.G.F.W.V (fe h.G (nth h.K i).U)) ((nth h.K i).U % 16).toNat k) (i:=((nth h.K i).U % 16+k).toNat) (by grind[oA])
  repeat'(first|refine gE ?_|apply CT qs|apply CY R|apply CO s2.1 (aa n)|refine CO ω (aa G) ?_|refine Pu.two rfl rfl (aa n) rfl rfl rfl (aa G) rfl (O5 _) (Jf h _ k _ b.1) ?_)
  (exact cV (k+1) ω)
 obtain rfl:k=(csz (aP (nth h.K i).k)).toNat:=ω
 have c5:=pS {h with G:=eM h.G (nth h.K i).U (csz (aP (nth h.K i).k)).toNat} i g ψ;have d:=a.nums;unfold ch at d;rw[C0]at d;have H:=(a.dropO g (jZ.any (c:=aP (nth h.K i).k) (by obtain⟨⟨s,hs,k1,k2⟩,-⟩:=(eE a (ax g)).2 r;exact⟨s,hs,k1,.inr k2⟩))).nd;rw[List.cons_append,List.nil_append]at H;have Y:=Gh h.a4 (jN h (nth h.K i)) (by grind[qw.quar]) a.quar ⟨Q.1,Q.2,b.1,d.2.2.1⟩ (λy Z=>a.snc y Z) (λy Z e=>(List.nodup_cons.1 H).1 (by rw[show(nth h.K i).U=y.U from e.symm];grind[holders]));unfold RW at Y;have T:(wT h.a4 (jN h (nth h.K i))).length<=513:=by grind[qw.quar,wT]
 repeat'(first|refine gB ?_|refine gS (λj=>?_) (λj=>?_)|refine CL (Y) ⟨⟨rfl,bz.enc_fz h.a4⟩,π⟩ ?_)
 have U:Po h t i=recycs t (inQuar h i) ((wT h.a4 (jN h (nth h.K i))).map (·.U)):=rfl;simp only;rw[U];have hqn:(inQuar h i).Q.length=h.Q.length:=rfl;generalize wT h.a4 (jN h (nth h.K i))=out at l T
 (conv=>whnf)
 refine lp0 out.length (λk=>[(0,bF (bO (recycs t (inQuar h i) ((out.take k).map (·.U))))),(1,fN t),(15,bK (cA .own out)),(16,fN k)]) λk hk=>?_
 by_cases S:k<out.length
 ·have J:=ar S
  have hsp:out.map (·.U)=(out.take k).map (·.U)++(nth out k).U::(out.drop (k+1)).map (·.U):=by grind[List.take_append_drop,gn]
  have V:bf (recycs t (inQuar h i) ((out.take k).map (·.U))) ((nth out k).U::(out.drop (k+1)).map (·.U)):=bf.recycs ψ N;have c7:=qk _ _ t _ V (by grind[fQ])
  refine σE ?_
  (refine CP (k+1) ω ω ?_)
  rw[yb t _ out k S];exact wB
 obtain rfl:k=out.length:=ω
 rw[CA]
 refine σE ?_
 exact ks
def oE(rows:List (List C)):C:=match rows with|[]=>.s .R []|_=>.s .own rows
variable{rows:List (List C)}
theorem r7(h:rows≠[]):oE rows=.s .own rows:=by cases rows with|nil=>exact absurd rfl h|cons=>rfl
variable{P:Program}
theorem vf(w:World)(t e k:Nat)(z:Value)(h:P.underlying t=some (.slice e))(i:∀w,(zeroValue e).run P w=.ok z w)(l:z.cells.size=k)(h1:∀v∈z.cells.toList,v.oneCell'=true)(b o n:Nat)(q:0<n)(p:0<k)(r:∀j,j<n*k->(w.cell? ⟨b,o+j,none⟩).isSome=true)(u:∀j,j<n*k->w.frozen? ⟨b,o+j,none⟩ = false) :
  ∃g:List Value,g.length=n*k/\(∀v∈g,v.oneCell'=true)/\∀(ty:TypeId)(c:Nat),(Builtin.clear_ #[t] ty #[.slice (some ⟨b,o,none⟩) n c]).run P w=.ok (.tuple #[]) (w.setCells b o g):=by
 subst l;have d:(Builtin.zeroCells z.cells n).toList.length=n*z.cells.size:=by grind[Go.Builtin.zeroCells]
 have a:∀v∈(Builtin.zeroCells z.cells n).toList,v.oneCell'=true:=by grind[Nat.mod_lt,Go.Builtin.zeroCells]
 refine⟨_,d,a,λty c=>?_⟩;have f:=run_storeCells_cells (P:=P) b o (Builtin.zeroCells z.cells n).toList 0 w ψ ψ a;simp only[Nat.add_zero]at f;obtain⟨m,rfl⟩ : ∃m,n=m+1:=⟨n - 1,ω⟩
 simp[Builtin.clear_,run_underlying h,i,f]
structure kR(w w':World)(g k n i:Nat):Prop where
 keep:bu (λb o=>b=g/\o<n*k) w w'
 lo:∀q,q<i*k->cel w' g q=cel w g q
 mid:∀q,i*k<=q->q<(n - 1)*k->cel w' g q=cel w g (q+k)
 hi:∀q,(n - 1)*k<=q->q<n*k->∃z,cel w' g q=some z/\z.oneCell'=true
 fro:∀b q,fro w' b q=fro w b q
variable{w:World}
theorem bu.up{M a:af}{c:World}(h:bu M w c)(d:∀b o,M b o->a b o):bu a w c:=(Cj a w).trans h ψ
def zv(w:World):bu NO w w.drew:=⟨rfl,rfl,rfl,O5 _,λ_ _ _=>rfl,λ_ _ _ _=>rfl,λ_ _ _ _=>rfl⟩
variable{news:List Value}{n:Nat}
theorem QS{g k:Nat}{d:List Value}(l:i<n)(e:∀q,q<n*k->∃z,cel w g q=some z)(H:news.length=(n - (i+1))*k)(c:∀t u,news[t]? = some u->cel w g ((i+1)*k+t)=some u)(J:d.length=k)(p:∀v∈d,v.oneCell'=true) :
  kR w ((w.drew.setCells g (i*k) news).setCells g ((n - 1)*k) d) g k n i:=by
 have K:i*k+(n - (i+1))*k=(n - 1)*k:=by rw[<-Nat.add_mul];congr 1;omega
 have L:(n - 1)*k+k=n*k:=by rw[show(n - 1)*k+k=(n - 1+1)*k by rw[Nat.add_mul,Nat.one_mul]];congr 1;omega
 have M:(i+1)*k=i*k+k:=ψ
 have r:∀b q,cel w.drew b q=cel w b q:=λ_ _=>rfl
 have a:∀j,j<news.length->∃z,cel w.drew g (i*k+j)=some z:=λj y=>by rw[r];exact e _ ω
 have A:∀q,q<n*k->∃z,cel (w.drew.setCells g (i*k) news) g q=some z:=λq B=>by
  by_cases h:i*k<=q/\q<i*k+news.length
  ·have:=bx a (Z3 (show q - i*k<news.length by omega))
   grind
  grind[bi]
 refine⟨?_,λq B=>?_,λq C D=>?_,λq C D=>?_,λb q=>?_⟩
 ·have E:=eI (g:=g) (X:=λb o=>b=g/\o<n*k) news (i*k) w.drew ω
  have F:=eI (g:=g) (X:=λb o=>b=g/\o<n*k) d ((n - 1)*k) (w.drew.setCells g (i*k) news) ω;exact((zv w).up λ_ _ h=>h.elim).trans (E.trans F λ_ _ h=>.inr h) λ_ _ h=>.inr h
 ·grind[bi]
 ·rw[bi ω]
  obtain⟨u,f⟩ : ∃u,news[q - i*k]? = some u:=⟨_,Z3 ω⟩
  have G:=bx a f;have N:=c _ u f
  grind
 ·obtain⟨u,f⟩ : ∃u,d[q - (n - 1)*k]? = some u:=(ψ)
  have G:=bx (w:=w.drew.setCells g (i*k) news) (o:=(n - 1)*k) (vs:=d) (λj y=>A _ ω) f
  grind
 rw[bW,bW];rfl
def WX(rows:List (List C)):Prop:=∀r∈rows,∀c∈r,∃z,c=.v z
def xx(P:Program)(f k:Nat):Prop:=JY P f/\∀(w:World)(g n a i:Nat)(news:List Value),i<n->n<=a->news.length=(n - (i+1))*k->(∀t u,news[t]? = some u->cel w g ((i+1)*k+t)=some u)->(∀u∈news,u.oneCell'=true)->
 (∀q,q<n*k->(w.cell? ⟨g,q,none⟩).isSome=true/\w.frozen? ⟨g,q,none⟩ = false)->
 Calls P f #[.slice (some ⟨g,0,none⟩) n a,.int .i64 i,.int .i64 ((i+1:Nat):Int)] w λe c=>e=.returned (.slice (some ⟨g,0,none⟩) (n - 1) a)/\∃b:List Value,b.length=k/\(∀v∈b,v.oneCell'=true)/\c=(w.drew.setCells g (i*k) news).setCells g ((n - 1)*k) b
variable{f:Nat}
theorem zB{k:Nat}(hf:xx P f k)(hi:i<rows.length)(hk:∀r∈rows,r.length=k)(T:Lz rows) :
  aU P f false [.mut none [.s .own rows],.vI (i:Nat),.vI ((i+1:Nat):Int)] [.mut none [.x],.vI (i:Nat),.vI ((i+1:Nat):Int)] .one [oE (dele rows i)]:=by
 refine⟨hf.1,λw S V vs hS hV hVV U=>?_⟩
 match vs,U with
 | [v,v1,v2],⟨U,W,X,_⟩=>
  have l:=(bm.rep1 (show bm w S (V 0) none [C.s .own rows] v from U)).fresh ⟨.inl (λe=>by cases e),T⟩;have e1:v1=.int .i64 (i:Nat):=by
   have:=bm.rep1 (show bm w S NO none [C.v (.int .i64 (i:Nat))] v1 from W);cases this;rfl
  have e2:v2=.int .i64 ((i+1:Nat):Int):=by
   have:=bm.rep1 (show bm w S NO none [C.v (.int .i64 ((i+1:Nat):Int))] v2 from X);cases this;rfl
  subst e1 e2;have J:(dele rows i).length=rows.length - 1:=by grind[dele]
  generalize B:C.s .own rows=cc at l;cases l with
  | nil _ o a Y=>grind
  | suf _ o g off k n j rows u f Y=>cases B;exact Y.elim
  | own _ o g d n j Z u f' Y hn D p hpos hF hu hff hd hc=>
   cases B;have hkk:d=k:=by rw[<-D _ (List.getElem_mem hi),<-hk _ (List.getElem_mem hi)]
   subst hkk;have hnk:n*d<=j*d:=CE _ p;have hone:∀q,q<j*d->∃z,cel w g q=some z/\z.oneCell'=true:=ψ
   have e3:(i+1)*d+(n - (i+1))*d=n*d:=by rw[<-Nat.add_mul];congr 1;omega
   obtain⟨news,K,L,hn1⟩ : ∃news:List Value,news.length=(n - (i+1))*d/\(∀t u,news[t]? = some u->cel w g ((i+1)*d+t)=some u)/\∀u∈news,u.oneCell'=true:=by
    refine⟨(List.range ((n - (i+1))*d)).map λt=>(cel w g ((i+1)*d+t)).getD undef,by simp,λt y ht=>?_,λy hy=>?_⟩
    all_goals grind
   refine(hf.2 w g n j i news ω p K L hn1 (λq E=>?_)).mono λe A ⟨he,zs,z1,z2,hw'⟩=>?_
   ·grind
   have R:=QS (w:=w) (by omega:i<n) ψ K L z1 z2;rw[<-hw']at R;have hgV:∀q,q<j*d->V 0 g q:=ψ
   have F:bu (λb o=>∃i,V i b o) w A:=R.keep.up ψ;have e4:(n - 1)*d+d=n*d:=by rw[show(n - 1)*d+d=(n - 1+1)*d by rw[Nat.add_mul,Nat.one_mul]];congr 1;omega
   have G:∀q,q<j*d->∃z,cel A g q=some z/\z.oneCell'=true:=λq E=>by
    by_cases h1:q<i*d
    ·grind[kR.lo]
    by_cases h2:q<(n - 1)*d
    ·rw[R.mid q ω h2];grind
    grind[kR.hi,bu.cel,kR.keep]
   have M:cw A NO (V 0) [oE (dele rows i)] (λ_=>.slice (some ⟨g,0,none⟩) (n - 1) j):=by
    refine row1 ?_;by_cases hz:dele rows i=[]
    ·rw[hz]
     have hn0:n - 1=0:=ψ
     rw[hn0];exact .R _ g 0 d 0 j [] (λ_=>undef) rfl ψ (C1 _) ω ψ
    rw[r7 hz];have H:0<n - 1:=ψ
    obtain⟨σ,hσ⟩ : ∃σ:Nat->Nat,∀q,σ q=if q<i*d then q else q+d:=⟨_,λ_=>rfl⟩
    have s1:∀q,q<(n - 1)*d->σ q<n*d:=ψ
    have s2:∀q q',q≠q'->σ q≠σ q':=ψ
    have s3:∀q,q<(n - 1)*d->cel A g q=cel w g (σ q):=λq E=>by grind[kR.lo,kR.mid]
    refine .own _ .own g d (n - 1) j _ (λq=>(cel A g q).getD undef) (λq=>f' (σ q)) tV1 (by rw[J];omega) (λr hr=>D r ((fL ..).subset hr)) ω H (λq E=>⟨hgV q E,G q E,(R.fro g q).trans (hF q E).2.2⟩) (λq E=>?_) ψ ψ (λa b r c N hb=>?_)
    ·grind
    have hbk:b<d:=by grind[fL]
    have hal:=(C4.1 N).1;rw[J]at hal;have hflat:a*d+b<(n - 1)*d:=cJ ω hbk;obtain⟨O,h5,h6⟩ : ∃O,rows[O]? = some r/\σ (a*d+b)=O*d+b:=by
     rw[hσ];unfold dele at N;by_cases h1:a<i
     ·grind[Z2,cJ]
     rw[C9 ψ,Z2,List.getElem?_drop]at N;rw[show i+1+(a - min i rows.length)=a+1 by omega]at N;have:i*d<=a*d:=CE _ ω;refine⟨a+1,N,?_⟩;rw[CI ω,Nat.add_mul,Nat.one_mul];omega
    have h7:=hc O b r c h5 hb;have Q:=nG hn D h5 hb;have hfl:=cJ Q.1 Q.2;have h8:(cel A g (a*d+b)).getD undef=u (O*d+b):=ψ
    show cU A NO (f' (σ (a*d+b))) c ((cel A g (a*d+b)).getD undef);rw[h8,h6];refine h7.keep (λ_ _ h=>h.elim) λb' o' hb'=>?_
    grind[bu.cel,kR.keep,kR.fro]
   exact⟨_,he,F,V 0,λ_=>NO,NO,ψ,λ_ _ _ h=>h.elim,λ_ _ h=>h.elim,λ_ _ _ _ _ h=>h.elim,λ_ _ _ _ h=>h.elim,λ_ _ _ h=>h.elim,λ_ _ _ h=>h.elim,rfl,M,⟨⟨rfl,λ_=>.slice (some ⟨g,0,none⟩) n j,rfl,row1 (.x _ _ rfl)⟩,tV1,tV1,tV1⟩⟩
  | _=>cases B
set_option maxRecDepth 100000
theorem uC{g cap k:Nat}(d:news.length=(n - (i+1))*k)(a:n<=cap)(b:i<n)(h:∀t u,news[t]? = some u->cel w g ((i+1)*k+t)=some u):∃A:Addr,(if cap=i+1 then some (⟨g,0,none⟩ : Addr) else some ⟨g,(i+1)*k,none⟩)=some A/\∀t u,news[t]? = some u->w.drew.cell? (A.add t)=some u:=by
 by_cases e:cap=i+1
 ·simp_all
 refine⟨⟨g,(i+1)*k,none⟩,by simp[e],λt u c=>?_⟩;rw[Addr.add_lit];exact h t u c
def T4:∀w,(zeroValue 99).run Tryz.prog w=.ok (.agg #[.int .i64 0,.int .i64 0,.int .i64 0,.int .i64 0]) w:=λ_=>by kernel_rfl
theorem Mj:xx Tryz.prog 327 4:=by
 refine⟨⟨_,Tryz.func327,by kernel_rfl,by kernel_rfl⟩,λw g n c i news p r l y B b=>?_⟩;obtain⟨A,U,a⟩:=uC l r p y;have a:Hid (∀t u,news[t]? = some u->w.drew.cell? (A.add t)=some u):=a;have R:Hid (news.length=(n - (i+1))*4):=l;have V:Hid (∀u∈news,u.oneCell'=true):=B;have W:Hid (∀t,t<news.length->(w.drew.cell? ⟨g,0+i*4+t,none⟩).isSome=true/\w.drew.frozen? ⟨g,0+i*4+t,none⟩ = false):=λt ht=>by
  rw[OD];exact b (i*4+t) ω
 obtain⟨o,d⟩ : ∃o,o=w.drew.setCells g (0+i*4) news:=⟨_,rfl⟩
 have X:∀q,q<n*4->(o.cell? ⟨g,q,none⟩).isSome=true/\o.frozen? ⟨g,q,none⟩ = false:=λq S=>by
  have C:∀j,j<news.length->∃z,cel w.drew g (0+i*4+j)=some z:=λj Y=>by
   have:=(b (0+i*4+j) ω).1;exact Option.isSome_iff_exists.1 this
  refine⟨?_,by rw[d];exact(I1 Prod.fst (bW g _ news w.drew g q)).trans (b q S).2⟩;rw[d];by_cases h:0+i*4<=q/\q<0+i*4+news.length
  ·have:=bx C (Z3 (show q - (0+i*4)<news.length by omega))
   grind
  show(cel _ g q).isSome=true;rw[bi (λx=>h x.2)];exact(b q S).1
 obtain⟨K,D,E,F⟩:=vf (P:=Tryz.prog) o 53 99 4 (.agg #[.int .i64 0,.int .i64 0,.int .i64 0,.int .i64 0]) Tryz.underlying53 T4 rfl (by intro v T;simp[Value.cells]at T;subst T;rfl) g ((i+(n - (i+1)))*4) (n - (i+(n - (i+1)))) ω qs ψ ψ;have G:Hid (K.length=(n - (i+(n - (i+1))))*4):=D;have H:Hid (∀v∈K,v.oneCell'=true):=E;have Z:Hid (o=w.drew.setCells g (0+i*4) news):=d;have hic:i<=c:=ω
 have L:i+1<=c:=ω
 have M:¬i=i+1:=ω
 have N:i+1<=n:=p;have k:n - 1=i+(n - (i+1)):=ω
 clear d X b y B l D E;rw[k];generalize Y:i+1=j at U a R F G L M N k |-;obtain⟨J,O,Q⟩ : ∃J,Tryz.prog.info? 99=some J/\J.size=4:=by
  have h:=(qd 99 _ rfl).1;cases e : Tryz.prog.info? 99 with
  | none=>grind
  | some x=>rw[e]at h;simp only[IA,O1,Prod.mk.injEq]at h;exact⟨x,rfl,h.2.1⟩
 have mixed : Tryz.prog.follows .mixedOrders=true:=by kernel_rfl
 go_enter Tryz.func327,Tryz.ntmps327
 go_wp2_with fail
 go_region_law_o (refine step_append_room rfl (.tmp 22) (.tmp 25) 53 rfl 99 J 4 Tryz.underlying53 O Q g 0 i c (by simp[Act.eval,Act.put]) A (n - j) (c - j) news (by simp[Act.eval,Act.put]) R.out a.out V.out ω W.out ?_;rw[<-Z.out])
 go_wp2
 go_ret
 refine⟨rfl,K,by grind[Go.RowKit.Hid.out],H.out,?_⟩
 grind[Go.RowKit.Hid.out]
theorem zu(xs:List bc)(i:Nat)(a:i<xs.length):zzB 327 false [.mut none [.s .own (xs.map (bc.enc .own))],.vI (i:Nat),.vI ((i+1:Nat):Int)] [.mut none [.x],.vI (i:Nat),.vI ((i+1:Nat):Int)] .one [oE ((dele xs i).map (bc.enc .own))]:=by
 have h:=zB Mj (rows:=xs.map (bc.enc .own)) (i:=i) ψ (aI λ_=>rfl) (aZ _ _ λx _=>bc.enc_fr x)
 grind[C8,I8,dele]
def MF:∀w,(zeroValue 191).run Tryz.prog w=.ok (.agg #[.int .i64 0,.int .i64 0,.int .i64 0]) w:=λ_=>by kernel_rfl
theorem Gz:xx Tryz.prog 330 3:=by
 refine⟨⟨_,Tryz.func330,by kernel_rfl,by kernel_rfl⟩,λw g n c i news p r l y B b=>?_⟩;obtain⟨A,U,a⟩:=uC l r p y;have a:Hid (∀t u,news[t]? = some u->w.drew.cell? (A.add t)=some u):=a;have R:Hid (news.length=(n - (i+1))*3):=l;have V:Hid (∀u∈news,u.oneCell'=true):=B;have W:Hid (∀t,t<news.length->(w.drew.cell? ⟨g,0+i*3+t,none⟩).isSome=true/\w.drew.frozen? ⟨g,0+i*3+t,none⟩ = false):=λt ht=>by
  rw[OD];exact b (i*3+t) ω
 obtain⟨o,d⟩ : ∃o,o=w.drew.setCells g (0+i*3) news:=⟨_,rfl⟩
 have X:∀q,q<n*3->(o.cell? ⟨g,q,none⟩).isSome=true/\o.frozen? ⟨g,q,none⟩ = false:=λq S=>by
  have C:∀j,j<news.length->∃z,cel w.drew g (0+i*3+j)=some z:=λj Y=>by
   have:=(b (0+i*3+j) ω).1;exact Option.isSome_iff_exists.1 this
  refine⟨?_,by rw[d];exact(I1 Prod.fst (bW g _ news w.drew g q)).trans (b q S).2⟩;rw[d];by_cases h:0+i*3<=q/\q<0+i*3+news.length
  ·have:=bx C (Z3 (show q - (0+i*3)<news.length by omega))
   grind
  show(cel _ g q).isSome=true;rw[bi (λx=>h x.2)];exact(b q S).1
 obtain⟨K,D,E,F⟩:=vf (P:=Tryz.prog) o 52 191 3 (.agg #[.int .i64 0,.int .i64 0,.int .i64 0]) Tryz.underlying52 MF rfl (by intro v T;simp[Value.cells]at T;subst T;rfl) g ((i+(n - (i+1)))*3) (n - (i+(n - (i+1)))) ω qs ψ ψ;have G:Hid (K.length=(n - (i+(n - (i+1))))*3):=D;have H:Hid (∀v∈K,v.oneCell'=true):=E;have Z:Hid (o=w.drew.setCells g (0+i*3) news):=d;have hic:i<=c:=ω
 have L:i+1<=c:=ω
 have M:¬i=i+1:=ω
 have N:i+1<=n:=p;have k:n - 1=i+(n - (i+1)):=ω
 clear d X b y B l D E;rw[k];generalize Y:i+1=j at U a R F G L M N k |-;obtain⟨J,O,Q⟩ : ∃J,Tryz.prog.info? 191=some J/\J.size=3:=by
  have h:=(qd 191 _ rfl).1;cases e : Tryz.prog.info? 191 with
  | none=>grind
  | some x=>rw[e]at h;simp only[IA,O1,Prod.mk.injEq]at h;exact⟨x,rfl,h.2.1⟩
 have mixed : Tryz.prog.follows .mixedOrders=true:=by kernel_rfl
 go_enter Tryz.func330,Tryz.ntmps330
 go_wp2_with fail
 go_region_law_o (refine step_append_room rfl (.tmp 22) (.tmp 25) 52 rfl 191 J 3 Tryz.underlying52 O Q g 0 i c (by simp[Act.eval,Act.put]) A (n - j) (c - j) news (by simp[Act.eval,Act.put]) R.out a.out V.out ω W.out ?_;rw[<-Z.out])
 go_wp2
 go_ret
 refine⟨rfl,K,by grind[Go.RowKit.Hid.out],H.out,?_⟩
 grind[Go.RowKit.Hid.out]
theorem uY(xs:List aB)(i:Nat)(a:i<xs.length):zzB 330 false [.mut none [.s .own (xs.map (aB.enc .own))],.vI (i:Nat),.vI ((i+1:Nat):Int)] [.mut none [.x],.vI (i:Nat),.vI ((i+1:Nat):Int)] .one [oE ((dele xs i).map (aB.enc .own))]:=by
 have h:=zB Gz (rows:=xs.map (aB.enc .own)) (i:=i) ψ (aI λ_=>rfl) (aZ _ _ λx _=>aB.enc_fr x)
 grind[C8,I8,dele]
def PJ:∀w,(zeroValue 175).run Tryz.prog w=.ok (.agg #[.int .i64 0,.int .i64 0,.int .i64 0]) w:=λ_=>by kernel_rfl
theorem Ls:xx Tryz.prog 387 3:=by
 refine⟨⟨_,Tryz.func387,by kernel_rfl,by kernel_rfl⟩,λw g n c i news p r l y B b=>?_⟩;obtain⟨A,U,a⟩:=uC l r p y;have a:Hid (∀t u,news[t]? = some u->w.drew.cell? (A.add t)=some u):=a;have R:Hid (news.length=(n - (i+1))*3):=l;have V:Hid (∀u∈news,u.oneCell'=true):=B;have W:Hid (∀t,t<news.length->(w.drew.cell? ⟨g,0+i*3+t,none⟩).isSome=true/\w.drew.frozen? ⟨g,0+i*3+t,none⟩ = false):=λt ht=>by
  rw[OD];exact b (i*3+t) ω
 obtain⟨o,d⟩ : ∃o,o=w.drew.setCells g (0+i*3) news:=⟨_,rfl⟩
 have X:∀q,q<n*3->(o.cell? ⟨g,q,none⟩).isSome=true/\o.frozen? ⟨g,q,none⟩ = false:=λq S=>by
  have C:∀j,j<news.length->∃z,cel w.drew g (0+i*3+j)=some z:=λj Y=>by
   have:=(b (0+i*3+j) ω).1;exact Option.isSome_iff_exists.1 this
  refine⟨?_,by rw[d];exact(I1 Prod.fst (bW g _ news w.drew g q)).trans (b q S).2⟩;rw[d];by_cases h:0+i*3<=q/\q<0+i*3+news.length
  ·have:=bx C (Z3 (show q - (0+i*3)<news.length by omega))
   grind
  show(cel _ g q).isSome=true;rw[bi (λx=>h x.2)];exact(b q S).1
 obtain⟨K,D,E,F⟩:=vf (P:=Tryz.prog) o 51 175 3 (.agg #[.int .i64 0,.int .i64 0,.int .i64 0]) Tryz.underlying51 PJ rfl (by intro v T;simp[Value.cells]at T;subst T;rfl) g ((i+(n - (i+1)))*3) (n - (i+(n - (i+1)))) ω qs ψ ψ;have G:Hid (K.length=(n - (i+(n - (i+1))))*3):=D;have H:Hid (∀v∈K,v.oneCell'=true):=E;have Z:Hid (o=w.drew.setCells g (0+i*3) news):=d;have hic:i<=c:=ω
 have L:i+1<=c:=ω
 have M:¬i=i+1:=ω
 have N:i+1<=n:=p;have k:n - 1=i+(n - (i+1)):=ω
 clear d X b y B l D E;rw[k];generalize Y:i+1=j at U a R F G L M N k |-;obtain⟨J,O,Q⟩ : ∃J,Tryz.prog.info? 175=some J/\J.size=3:=by
  have h:=(qd 175 _ rfl).1;cases e : Tryz.prog.info? 175 with
  | none=>grind
  | some x=>rw[e]at h;simp only[IA,O1,Prod.mk.injEq]at h;exact⟨x,rfl,h.2.1⟩
 have mixed : Tryz.prog.follows .mixedOrders=true:=by kernel_rfl
 go_enter Tryz.func387,Tryz.ntmps387
 go_wp2_with fail
 go_region_law_o (refine step_append_room rfl (.tmp 22) (.tmp 25) 51 rfl 175 J 3 Tryz.underlying51 O Q g 0 i c (by simp[Act.eval,Act.put]) A (n - j) (c - j) news (by simp[Act.eval,Act.put]) R.out a.out V.out ω W.out ?_;rw[<-Z.out])
 go_wp2
 go_ret
 refine⟨rfl,K,by grind[Go.RowKit.Hid.out],H.out,?_⟩
 grind[Go.RowKit.Hid.out]
theorem Kv(xs:List a8)(i:Nat)(a:i<xs.length):zzB 387 false [.mut none [.s .own (xs.map (a8.enc .own))],.vI (i:Nat),.vI ((i+1:Nat):Int)] [.mut none [.x],.vI (i:Nat),.vI ((i+1:Nat):Int)] .one [oE ((dele xs i).map (a8.enc .own))]:=by
 have h:=zB Ls (rows:=xs.map (a8.enc .own)) (i:=i) ψ (aI λ_=>rfl) (aZ _ _ λx _=>a8.enc_fr x)
 grind[C8,I8,dele]
theorem DX(c:aD)(k:Nat)(a:Int)(g:bB c=true)(y:k<=3):zzA 342 false [.val (some 1) (aD.enc .R c),.vI (k:Nat),.vI a] (.tup [some 1,none]) (BO c k a):=by
 obtain⟨B,q⟩:=dZ g;have r:aD.sml c:=⟨ω,λl u=>by have:=q l u;show l.length<=1048576;omega⟩
 have h:=tY c k r;rw[g,O0 ω]at h;have t:=jX c r;have j:=KC g k a;have n:=p9 (mN c k a) j;have b:=mb (c:=c) (k:=k) ω;have w:=q _ (ax (xs:=c.X) (i:=k) ω);have o:=Co (mN c k a);rw[zS]at o;have d:=Jo c k a;unfold BO at d |-;cases e:bB (mN c k a)<;>rw[e]at n
 ·have p:cput c k a=none:=by grind[cput]
  rw[p]at d |-;refine fO 35 [ςh] Tryz.func342 rfl ?_ (.inr d)
  repeat'(first|refine gP ?_|refine CH (cn b) ?_|refine CK rfl (cn b) rfl ?_|refine Lq.one rfl rfl (aa b) rfl δ rfl rfl ?_|refine CS rfl rfl (cn b) rfl δ (show [C.s ek.own ((c.X.map (aE .own)).set k (aE .own (nth c.X k++[a])))]=_ from by simp only[List.set_cons_zero,List.set_set,Z4];rfl) ?_|refine Cf (aI λ_=>rfl) rfl kd qs (en _ _ _) ?_|refine CL (n) ⟨⟨rfl,o⟩,tV1⟩ ?_)
  rfl
 have p:cput c k a=some (mN c k a):=by grind[cput]
 rw[p]at d |-;rw[show(some (mN c k a)).getD c=mN c k a from rfl,zS]at d |-;refine fO 35 [ςh] Tryz.func342 rfl ?_ (.inr d)
 repeat'(first|refine gP ?_|refine CH (cn b) ?_|refine CK rfl (cn b) rfl ?_|refine Lq.one rfl rfl (aa b) rfl δ rfl rfl ?_|refine CS rfl rfl (cn b) rfl δ (show [C.s ek.own ((c.X.map (aE .own)).set k (aE .own (nth c.X k++[a])))]=_ from by simp only[List.set_cons_zero,List.set_set,Z4];rfl) ?_|refine Cf (aI λ_=>rfl) rfl kd qs (en _ _ _) ?_|refine CL (n) ⟨⟨rfl,o⟩,tV1⟩ ?_)
 rfl
theorem My(c:Nat)(W:World):Calls Tryz.prog 346 #[.slice none 0 c] W λe g=>∃B q os,e=.returned (.slice B 0 0)/\g=Sort.grow (W.drewN q) os:=by
 have q22:∀(w:World)(a:Option Addr)(n c b d:Nat),(binOp .eql 58 (.slice a n c) (.slice none b d)).run Tryz.prog w=.ok (.bool a.isNone) w:=λw a n c b d=>Lib.run_eql_slice_nil w _ _ a n c b d Tryz.underlying58
 go_enter Tryz.func346,Tryz.ntmps346
 go_wp2
 go_ret
 exact⟨none,0,#[],rfl,by simp[Sort.grow,World.drewN]⟩
theorem Kb(a:Addr)(c:Nat)(W:World):Calls Tryz.prog 346 #[.slice (some a) 0 c] W λe g=>∃B q os,e=.returned (.slice B 0 0)/\g=Sort.grow (W.drewN q) os:=by
 have q22:∀(w:World)(a:Option Addr)(n c b d:Nat),(binOp .eql 58 (.slice a n c) (.slice none b d)).run Tryz.prog w=.ok (.bool a.isNone) w:=λw a n c b d=>Lib.run_eql_slice_nil w _ _ a n c b d Tryz.underlying58
 go_enter Tryz.func346,Tryz.ntmps346
 go_wp2
 go_ret
 exact⟨some ⟨W.heap.size,0,none⟩,0,#[.cells #[] 137],rfl,by rw[Sort.alloc_eq_grow];rfl⟩
theorem lU(xs:List aO)(o:xs.length<=1048576):zzA 346 false [.val none (cA .R xs)] .one (cA .own xs):=by
 by_cases c:xs=[]
 ·subst c
  refine⟨⟨_,Tryz.func346,by kernel_rfl,by kernel_rfl⟩,λw S p t d=>?_⟩
  match p,d with
  | [v],⟨d,_⟩=>
   have b:=bm.rep1 (show bm w S NO none [C.s .R []] v from d);obtain⟨l,g,rfl⟩:=b.slice;have r:Calls Tryz.prog 346 #[.slice l 0 g] w λe n=>∃B q i,e=.returned (.slice B 0 0)/\n=Sort.grow (w.drewN q) i:=by
    cases l with
    | none=>grind[My]
    | some a=>grind[Kb]
   refine r.mono λe n ⟨B,q,i,c,j⟩=>?_
   subst j;exact⟨.slice B 0 0,c,zW w q i,NO,NO,λ_ _ h=>h.elim,λ_ _ h=>h.elim,λ_ _ h=>h.elim,rfl,row1 (.nil _ .own B tV1)⟩
 have k:xs.map (aO.enc .R)≠[]:=by simp_all
 refine fO 8 [] Tryz.func346 rfl ?_ (.inr (na _))
 repeat'(first|refine gP ?_|refine Nn.mk k ?_|refine CX (λ_=>rfl) (λ_=>rfl) o qs ?_)
 rfl
theorem Gs(q:bz)(a:aO)(u:q.a0.length<=4096)(g:gj q=true)(w:0<=a.a/\a.a<=3/\0<=a.U/\0<=a.b7)(B:∀y∈q.a0,y.b7<=a.b7)(C:∀y∈q.a0,y.U≠a.U) :
  zzA 334 false [.val (some 2) (bz.enc .R q),.val (some 3) (aO.enc .R a)] (.tup [some 2,none]) (RW q a):=by
 have b:bz.sml q:=⟨ω,λ_ _=>tV1⟩
 have l:=nC q b;have h:=qF q b;rw[g]at h;have i:=wj q.a0 a ω;have D:q.a0.length=0\/(nth q.a0 (q.a0.length - 1)).b7<=a.b7:=by grind[ax]
 have d:ns q.a0 a=true:=by grind[ns,fg]
 rw[d]at i;have n:=(iQ.1 g).2.2.2;have e:=Pm q a;have c:=AX q.c0 (q.a0++[a]);simp only[C6,List.length_singleton]at c;have E:(q.a0++[a]).length=q.a0.length+1:=by simp
 refine fO 51 [ρ 6 7 28] Tryz.func334 rfl ?_ (.inr e)
 repeat'(first|refine gP ?_|refine Cf (aI λ_=>rfl) rfl kd qs (en (aO.enc .own) q.a0 a) ?_)
 refine Lp.fz 6 (ι:=Nat) (λk=>[(2,bF (bz.enc .R q)),(4,bF [I 0,.z]),(6,bF (bz.enc .R ⟨q.c0,q.a0++[a]⟩)),(7,fN k)]) (λk=>k<=jx q.c0 (q.a0++[a])) (λk=>jx q.c0 (q.a0++[a]) - k) 0 ?_ (C1 _) λk F=>?_
 ·(repeat'(first|exact tV1|rfl|exact CQ rfl (show Qd (dw (bz.enc .own ⟨q.c0,q.a0++[a]⟩)) (bz.enc .R ⟨q.c0,q.a0++[a]⟩) by rw[bz.enc_fz];exact kS _)|refine CQ ?_ ?_))
 have o:((q.a0++[a]).drop k).length<=5000:=ψ
 have p:((q.a0++[a]).take k).length<=5000:=ψ
 have j:=qU ((q.a0++[a]).drop k) ⟨ω,λ_ _=>tV1⟩;by_cases r:k<jx q.c0 (q.a0++[a])
 ·have t:q.c0<quarCells ((q.a0++[a]).drop k) ((q.a0++[a]).drop k).length:=wq r
  repeat'(first|refine gE ?_|refine Ci k rfl (by rw[Z1];show k<=(q.a0++[a]).length;omega) (aI λ_=>rfl) I8 ?_)
  (exact cV (k+1) ω)
 obtain rfl:k=jx q.c0 (q.a0++[a]):=ω
 have t:quarCells ((q.a0++[a]).drop (jx q.c0 (q.a0++[a]))) ((q.a0++[a]).drop (jx q.c0 (q.a0++[a]))).length<=q.c0:=yY n.1 _
 repeat'(first|refine gE ?_|refine Ci (jx q.c0 (q.a0++[a])) rfl (by rw[Z1];show jx q.c0 (q.a0++[a])<=(q.a0++[a]).length;omega) (aI λ_=>rfl) I8 ?_|refine Ca (jx q.c0 (q.a0++[a])) rfl (by rw[Z1];show jx q.c0 (q.a0++[a])<=(q.a0++[a]).length;omega) (aI λ_=>rfl) C8 ?_|refine CF (lU ((q.a0++[a]).take (jx q.c0 (q.a0++[a]))) ω) ?_|refine CF (lU ((q.a0++[a]).drop (jx q.c0 (q.a0++[a]))) ω) ?_)
 rfl
def FE(h:ac)(p:Int):zzA 318 false [ν h,.vI p] .one [B (gv h p)]:=by
 cases e:h.a3
 all_goals
  have a:ac.enc .R h=(ac.enc .R h).set 18 (B h.a3):=rfl;rw[e]at a;unfold ν;rw[a];refine fO 23 [] Tryz.func318 rfl ?_
  repeat'(first|refine gP ?_|refine gS (λb=>?_) (λb=>?_)|fail)
  all_goals exact bY ((by unfold gv;rw[e];first|(simp[*];done)|(simp[*];rw[O9];simp;try omega)|(rw[O9];simp[*];try omega)))
def vV(h:ac):zzA 372 false [ν h] .one [I (fk h:Nat)]:=by
 refine fO 9 [] Tryz.func372 rfl ?_
 refine σP ?_
 rfl
theorem qH(c:C):Rp c c:=(kS [c]).1
def cE(h:ac)(s l o:C):List C:=[.s .own (h.G.F.W.V.map (aE .own)),.s .own (h.G.F.W.a5.map (rB .own)),.s .own (h.G.F.O.M.map (bv.enc .own)),I h.G.b,.s .own (h.G.d.map (rI .own)),.s .own (h.e.map (aC.enc .own)),s,l,o,.s .own (h.Q.map (aD.enc .own)),.s .own (h.q.T.map (bL .own)),.s .own (h.q.w.map (aE .own)),I h.a4.c0,.s .own (h.a4.a0.map (aO.enc .own)),I h.c1,I h.b2,I h.c2,I h.o,B h.a3,I h.a9.g.b1,I h.a9.g.b3,.s .own (h.a9.g.V.map (rI .own)),I h.a9.b6,I h.a9.o]
def oS(h:ac):C:=oE (h.H.map (a8.enc .own))
def oL(h:ac):C:=oE (h.J.map (aB.enc .own))
def oO(h:ac):C:=oE (h.K.map (bc.enc .own))
def dh(h:ac):List C:=cE h (oS h) (oL h) (oO h)
theorem Lg(rows:List (List C)):fz (oE rows)=fz (.s .own rows):=by cases rows<;>rfl
def rh : oE rows=.s .own rows\/(rows=[]/\oE rows=.s .R []):=by cases rows with|nil=>exact .inr ⟨rfl,rfl⟩|cons=>exact .inl rfl
def Yk(h:ac){s l o:C}(a:fz s=.s .R (h.H.map (a8.enc .R)))(b:fz l=.s .R (h.J.map (aB.enc .R)))(c:fz o=.s .R (h.K.map (bc.enc .R))):dw (cE h s l o)=ac.enc .R h:=by
 have d:=ac.enc_fz h;have e:dw (cE h s l o)=(((dw (ac.enc .own h)).set 6 (fz s)).set 7 (fz l)).set 8 (fz o):=rfl;rw[e,d,a,b,c];rfl
def XG(h:ac):fz (oS h)=.s .R (h.H.map (a8.enc .R)):=(Lg _).trans (Bc _)
def Wi(h:ac):fz (oL h)=.s .R (h.J.map (aB.enc .R)):=(Lg _).trans (xf _)
def Yj(h:ac):fz (oO h)=.s .R (h.K.map (bc.enc .R)):=(Lg _).trans (yN _)
def Hf(h:ac):dw (dh h)=ac.enc .R h:=Yk h (XG h) (Wi h) (Yj h)
def zR(h:Lz rows):Nq (oE rows):=by cases rows with|nil=>exact⟨.inr rfl,tV1⟩|cons r a=>exact⟨.inl λe=>(by cases e),h⟩
theorem ce(h:ac):fy (dh h):=by
 have a:=ac.enc_fr h;simp only[ac.enc,fy]at a;unfold dh cE;simp only[fy];refine⟨a.1,a.2.1,a.2.2.1,a.2.2.2.1,a.2.2.2.2.1,a.2.2.2.2.2.1,zR ?_,zR ?_,zR ?_,a.2.2.2.2.2.2.2.2.2⟩
 ·exact a.2.2.2.2.2.2.1.2
 ·exact a.2.2.2.2.2.2.2.1.2
 exact a.2.2.2.2.2.2.2.2.1.2
def th{S Y:af}{v:Value}(h:cU w S Y (.s .own rows) v):cU w S Y (oE rows) v:=by
 cases rows with
 | cons=>exact h
 | nil=>
  cases h with
  | nil _ o a b=>exact .nil _ .R a tV1
  | own _ o g k n c rows u f b i l d e p q r t y=>simp at i;omega
  | suf _ o g j k n c rows u f b=>exact b.elim
theorem Up{S Y:af}{u:Nat->Value}(b:cw w S Y (ac.enc .own h) u):cw w S Y (dh h) u:=by
 obtain⟨f,a,d,e⟩:=b;refine⟨f,λj c g=>?_,d,e⟩;have i:dh h=(((ac.enc .own h).set 6 (oS h)).set 7 (oL h)).set 8 (oO h):=rfl;rw[i]at g;by_cases k:j=8
 ·subst k
  have:c=oO h:=ψ
  rw[this];exact th (a 8 _ rfl)
 by_cases l:j=7
 ·subst l
  have:c=oL h:=ψ
  rw[this];exact th (a 7 _ rfl)
 by_cases n:j=6
 ·subst n
  have:c=oS h:=ψ
  rw[this];exact th (a 6 _ rfl)
 grind
def dG(h:ac)(a:ac.sml h):zzA 239 false [ν h] .agg (dh h):=by
 obtain⟨b,c⟩:=iT h a;refine⟨b,λw S d g i=>(c w S d g i).mono λe w1 j=>?_⟩;obtain⟨v,k,l,X,S1,n,o,p,q,r⟩:=j;exact⟨v,k,l,X,S1,n,o,p,q,Up r⟩
def QF(h:ac)(s l o:C)(a:Int)(k:Nat)(v:Int)(b:0<=a):cE {h with G:=eM h.G a (k+1)} s l o=(cE {h with G:=eM h.G a k} s l o).set 0 (.s .own (((eM h.G a k).F.W.V.map (aE .own)).set (au h.G.F.O (a / 16)).j.toNat ((aE .own (jq (nth h.G.F.W.V (fe h.G a)) (a % 16).toNat k)).set 0 (.s .own (((jq (nth h.G.F.W.V (fe h.G a)) (a % 16).toNat k).map (rI .own)).set (a % 16+k).toNat (splice (rI .own v) 0 [I 0])))))):=by
 have e:(a % 16+k).toNat=(a % 16).toNat+k:=ω
 rw[e];simp[cE,eM,CC,jq,aE,splice,fe]
 rfl
theorem lC(h:ac)(s l o:C)(a:Int)(n:Nat)(p:aG h.G=true)(e:0<=a/\a<512)(r:0<=(au h.G.F.O (a / 16)).j/\(au h.G.F.O (a / 16)).j<h.G.F.W.V.length)(w:a % 16+n<=16)(y:(nth h.G.F.W.V (fe h.G a)).length=16) :
  zzB 332 false [.ptr (cE h s l o),.vI a,.vI (n:Nat)] [.ptr (cE {h with G:=eM h.G a n} s l o),.vI a,.vI (n:Nat)] (.tup []) []:=by
 have g:=aX p;have t:=cG h.G.F.O (a / 16) g.1.2;have c:fe h.G a<h.G.F.W.V.length:=by unfold fe;omega
 refine fM 36 [] [] [(0,0),(0,0),(0,0)] Tryz.func332 rfl (λu q=>?_) (.inr tV1)
 repeat'(first|refine gP ?_|apply CT qs|apply CR (kV e)|refine CL (t) ⟨⟨rfl,Cn _⟩,π⟩ ?_)
 rw[show cE h s l o=cE {h with G:=eM h.G a 0} s l o by rw[Gc h a c]]
 (conv=>whnf)
 refine lp0 n (λk=>[(0,bF (cE {h with G:=eM h.G a k} s l o)),(1,fI a),(2,fN n),(6,fI ((au h.G.F.O (a / 16)).j)),(7,fN k)]) λk p=>?_
 have j:a.tmod 16=a % 16:=dy e.1;have b:(eM h.G a k).F.W.V[(au h.G.F.O (a / 16)).j.toNat]? = some (jq (nth h.G.F.W.V (fe h.G a)) (a % 16).toNat k):=Z6 c;by_cases B:k<n
 ·have d:=ar (xs:=jq (nth h.G.F.W.V (fe h.G a)) (a % 16).toNat k) (i:=(a % 16+k).toNat) (by grind[oA])
  repeat'(first|refine gE ?_|apply CT qs|apply CY j|apply CO r.1 (aa b)|refine CO ω (aa d) ?_|refine Pu.two rfl rfl (aa b) rfl rfl rfl (aa d) rfl (O5 _) (QF h s l o a k _ e.1) ?_)
  (exact cV (k+1) ω)
 obtain rfl:k=n:=ω
 refine σE ?_
 exact kk
theorem jQ(h:ac)(r:aC)(n:Nat)(a:aG h.G=true)(j:h.G.b≠100000)(b:h.e.length<=1048576)(l:r.a6=n/\0<=r.At/\r.At<=1000/\n<=1000) :
  zzB 331 false [.ptr (dh h),.val (some 2) (aC.enc .R r)] [.ptr (dh {h with G:=dE h.G r.At n,e:=(cm (fk h) h.e r).getD h.e}),.val (some 2) (aC.enc .R r)] (.tup []) []:=by
 have c:=a;have e:fk h<=32:=(bt.1 (aF.1 a).2.2.1).2.2;have d:=vV {h with G:=dE h.G r.At n};rw[show fk {h with G:=dE h.G r.At n} = fk h from(gM _ _ _).1]at d;have g:=DG (fk h:Nat) h.e r ω ⟨b,λ_ _=>tV1⟩;refine fM 44 [] [(5,272,[29,30,31,32,33,34,35,36,37,38,39,28,40,41,42,43,0,1,2,3,4,5,6,7,8,9,10,11,12,13,14,15,16,1013])] [(0,0),(0,0)] Tryz.func331 rfl (λu q=>?_) (.inr tV1)
 refine σP ?_
 refine lp0 n (λk=>[(0,bF (dh {h with G:=dE h.G r.At k})),(3,bF (aC.enc .R r)),(4,fI (r.At+k))]) λk a=>?_
 by_cases o:k<n
 ·have i:=re (dE h.G r.At k) (r.At+k) (jJ c _ _) (by grind[rG])
  repeat'(first|refine gE ?_|refine CL (i) ⟨⟨rfl,CW _⟩,π⟩ ?_)
  (exact cV (k+1) ω)
 obtain rfl:k=n:=ω
 repeat'(first|refine gE ?_|refine CL (d) ⟨⟨rfl,Hf _⟩,tV1⟩ ?_|refine CL (g) ⟨⟨rfl,rfl⟩,⟨rfl,ef h.e⟩,π⟩ ?_)
 exact kk
theorem WV{c a:C}(h:a=c):Rp c a:=by grind[qH]
theorem RT(k:ah)(p:Int):dE k p 1=cW k p:=by show cW k (p+((0:Nat):Int))=_;grind
theorem wa(a:h.H≠[]):dh h=cE h (.s .own (h.H.map (a8.enc .own))) (oL h) (oO h):=by grind[r7,List.map_eq_nil_iff,dh,oS]
def Wf(h:ac):oL h=.s .own (h.J.map (aB.enc .own))\/(h.J=[]/\oL h=.s .R []):=by
 rcases rh (rows:=h.J.map (aB.enc .own)) with e|⟨a,b⟩
 ·exact .inl e
 exact .inr ⟨List.map_eq_nil_iff.1 a,b⟩
theorem gu{xs:List α}(h:i<xs.length):xs≠[]:=(ψ)
theorem Ef(h:ac)(i:Nat)(j:aG h.G=true)(k:h.G.b≠100000)(b:h.e.length<=1048576)(c:i<h.H.length)(l:h.H.length<=1048576)(o:0<=(nth h.H i).S/\(nth h.H i).S<=31) :
  zzB 345 false [.ptr (dh h),.vI (i:Nat)] [.ptr (dh (giveP h i)),.vI (i:Nat)] (.tup []) []:=by
 have d:=ar c;have g:=Kv h.H i c;have a:=jQ {h with H:=dele h.H i} ⟨(nth h.H i).S,1⟩ 1 j k b ψ;rw[show dE ({h with H:=dele h.H i} : ac).G (aC.mk (nth h.H i).S 1).At 1=cW h.G (nth h.H i).S from RT _ _]at a;have n:dh {h with H:=dele h.H i} = cE h (oE ((dele h.H i).map (a8.enc .own))) (oL h) (oO h):=rfl;rw[wa (gu c)];rcases rh (rows:=(dele h.H i).map (a8.enc .own)) with e|⟨-,e⟩
 all_goals
  rw[n]at a;rw[e]at g a;refine fM 28 [(387,[1,0,0]),(331,[2,0])] [] [(0,0),(0,0)] Tryz.func345 rfl (λu q=>?_) (.inr tV1)
  refine σP ?_
  exact ks
def Rg(c:bf h E)(d:i<h.H.length)(b:gk (nth h.H i) a):denotes h.H h.J a = ⟨1,i,eg (nth h.H i) a,0⟩:=by
 rw[iS c.L d ⟨b.1,b.2.1⟩];unfold pz;rw[b.2.2.2,b.2.2.1];rfl
theorem lA(h:ac)(E:List Int)(a:Int)(b:bf h (a::E))(G:h.G.b≠100000):zzB 256 false [.ptr (dh h),.vI a] [.ptr (dh (freeA h a)),.vI a] (.tup []) []:=by
 obtain⟨g,t,H⟩:=b.at (b.hin a ψ);have J:=(b.hin a ψ).bd b;have D:=b.lens;have K:=D.spans;have M:=D.larges;unfold freeA;generalize yF h a=i at g t;have l:=b.L.sok _ (ax g);have N:=aJ l;have c:=ar g;have j:=lV h.H h.J a ⟨ω,λ_ _=>tV1⟩ ⟨ω,λ_ _=>tV1⟩;rw[Rg b g t]at j;have w:=DA (nth h.H i) (eg (nth h.H i) a) l t.2.2.2;have P:=b.give g t;have n:=FE (clrS h i a) (nth h.H i).S;rw[show gv (clrS h i a) (nth h.H i).S=gv h (nth h.H i).S from rfl]at n;have o:i<(clrS h i a).H.length:=by grind[clrS]
 have y:(nth (clrS h i a).H i).S=(nth h.H i).S:=by unfold clrS;simp only[cY,true_and];rw[CJ g];rfl
 have p:=Ef (clrS h i a) i b.ker G (by show h.e.length<=_;grind[qw.free]) o (by grind[clrS]) (by rw[y];omega);have d:dh (clrS h i a)=cE h (.s .own ((h.H.map (a8.enc .own)).set i (a8.enc .own (lW (nth h.H i) (eg (nth h.H i) a))))) (oL h) (oO h):=by
  rw[wa (gu o)];show cE h (.s .own ((h.H.set i _).map _)) (oL h) (oO h)=_;rw[CC]
 have r:=Hf (clrS h i a);rw[d]at r p;have k:((h.H.map (a8.enc .own)).set i (a8.enc .own (lW (nth h.H i) (eg (nth h.H i) a))))[i]? = some (a8.enc .own (lW (nth h.H i) (eg (nth h.H i) a))):=jP g;rw[wa (gu g)];have B:=Wi h;unfold freeS;rcases Wf h with e|⟨C,e⟩
 all_goals
  try rw[C]at j
  rw[e]at p r B d |-;by_cases F:(lW (nth h.H i) (eg (nth h.H i) a)).b0=0
  ·cases O:gv h (nth h.H i).S<;>rw[O]at n
   ·rw[CJ ⟨F,rfl⟩]
    refine fM 64 [(345,[2,0])] [ςu,ςv,ςw,ρ 4 9 48] [(0,0),(0,0)] Tryz.func256 rfl (λu q=>?_) (.inr tV1)
    repeat'(first|refine gB ?_|refine CL (j) ⟨⟨rfl,eB _⟩,⟨rfl,jo _⟩,π⟩ ?_|refine CL (j) ⟨⟨rfl,eB _⟩,⟨rfl,rfl⟩,π⟩ ?_|refine CH k ?_|refine CK rfl k rfl ?_|refine CS rfl rfl (aa c) rfl δ rfl ?_|refine CL (n) ⟨⟨rfl,r⟩,π⟩ ?_)
    exact ks
   rw[CI (λx=>by cases x.2),d];refine fM 64 [(345,[2,0])] [ςu,ςv,ςw,ρ 4 9 48] [(0,0),(0,0)] Tryz.func256 rfl (λu q=>?_) (.inr tV1)
   repeat'(first|refine gB ?_|refine CL (j) ⟨⟨rfl,eB _⟩,⟨rfl,jo _⟩,π⟩ ?_|refine CL (j) ⟨⟨rfl,eB _⟩,⟨rfl,rfl⟩,π⟩ ?_|refine CH k ?_|refine CK rfl k rfl ?_|refine CS rfl rfl (aa c) rfl δ rfl ?_|refine CL (n) ⟨⟨rfl,r⟩,π⟩ ?_)
   exact ks
  rw[CI (λx=>F x.1),d];refine fM 64 [(345,[2,0])] [ςu,ςv,ςw,ρ 4 9 48] [(0,0),(0,0)] Tryz.func256 rfl (λu q=>?_) (.inr tV1)
  repeat'(first|refine gB ?_|refine CL (j) ⟨⟨rfl,eB _⟩,⟨rfl,jo _⟩,π⟩ ?_|refine CL (j) ⟨⟨rfl,eB _⟩,⟨rfl,rfl⟩,π⟩ ?_|refine CH k ?_|refine CK rfl k rfl ?_|refine CS rfl rfl (aa c) rfl δ rfl ?_|refine CL (n) ⟨⟨rfl,r⟩,π⟩ ?_)
  exact ks
theorem uE(h:ac)(E:List Int)(t:Nat)(a:Int)(b:bf h (a::E))(y:t<h.Q.length)(F:h.G.b≠100000):zzB 254 false [.ptr (dh h),.vI (t:Nat),.vI a] [.ptr (dh (recyc t h a)),.vI (t:Nat),.vI a] (.tup []) []:=by
 obtain⟨d,B,G⟩:=b.at (b.hin a ψ);have H:=(b.hin a ψ).bd b;have C:=b.lens;have J:=C.spans;have K:=C.larges;have o:=b.cach _ (ax y);have p:=lA h E a b F;unfold recyc;generalize yF h a=i at d B;have r:=aJ (b.L.sok _ (ax d));have n:=ar d;have k:=ar y;have g:=lV h.H h.J a ⟨ω,λ_ _=>tV1⟩ ⟨ω,λ_ _=>tV1⟩;rw[Rg b d B]at g;have j:=DX (nth h.Q t) (nth h.H i).a.toNat a o ω;rw[Int.toNat_of_nonneg r.2.2.1]at j;unfold BO at j;have l:∀c,dh {h with Q:=h.Q.set t c} = (cE h (.s .own (h.H.map (a8.enc .own))) (oL h) (oO h)).set 9 (.s .own ((h.Q.map (aD.enc .own)).set t (aD.enc .own c))):=λc=>by
  rw[wa (h:={h with Q:=h.Q.set t c}) (gu d)];show cE {h with Q:=h.Q.set t c} _ (oL h) (oO h)=_;simp[cE,CC]
 rw[wa (gu d)]at p |-;rcases Wf h with e|⟨w,e⟩
 all_goals
  try rw[w]at g
  rw[e]at p l |-;cases D:cput (nth h.Q t) (nth h.H i).a a with
  | none=>
   rw[D]at j;refine fM 54 [(256,[2,0])] [ς1b,ς1c,ρ 4 6 44] [(0,0),(0,0),(0,0)] Tryz.func254 rfl (λu q=>?_) (.inr tV1)
   repeat'(first|refine gB ?_|refine CL (g) ⟨⟨rfl,eB _⟩,⟨rfl,jo _⟩,π⟩ ?_|refine CL (g) ⟨⟨rfl,eB _⟩,⟨rfl,rfl⟩,π⟩ ?_|refine CL (j) ⟨⟨rfl,Co _⟩,⟨rfl,rfl⟩,π⟩ ?_)
   exact ks
  | some c=>
   rw[D]at j;simp only;rw[l];refine fM 54 [(256,[2,0])] [ς1b,ς1c,ρ 4 6 44] [(0,0),(0,0),(0,0)] Tryz.func254 rfl (λu q=>?_) (.inr tV1)
   repeat'(first|refine gB ?_|refine CL (g) ⟨⟨rfl,eB _⟩,⟨rfl,jo _⟩,π⟩ ?_|refine CL (g) ⟨⟨rfl,eB _⟩,⟨rfl,rfl⟩,π⟩ ?_|refine CL (j) ⟨⟨rfl,Co _⟩,⟨rfl,rfl⟩,π⟩ ?_|refine CS rfl rfl (aa k) rfl δ rfl ?_)
   exact ks
theorem cU.frz_at{S F:af}{v:Value}{c:C}(h:cU w S F (.s .own rows) v)(E:rows[i]? = some [c]):∃V:af,(∀b o,V b o->F b o)/\cU w (λb o=>S b o\/V b o) (λb o=>F b o/\¬V b o) (.s .own (rows.set i [fz c])) v:=by
 cases h with
 | nil _ o a D=>simp at E
 | suf _ o g K k n d rows u f D=>exact D.elim
 | own _ o g k n d rows u f D L M l p N O P Q G=>
  have R:i<rows.length:=ψ
  obtain rfl:k=1:=by rw[<-M [c] ψ];rfl
  simp only[Nat.mul_one]at N O P Q G;refine⟨f i,ψ,?_⟩;refine .own _ .own g 1 n d _ u (λq=>if q=i then NO else f q) D (by simpa using L) (λr h=>?_) l p (λq H=>?_) ψ (λq H b o t=>?_) (λq Y H T U b o t y=>?_) (λJ W r X A B=>?_)
  ·grind
  ·grind
  ·split at t
   ·exact t.elim
   grind
  ·split at t
   ·exact t.elim
   split at y
   ·exact y.elim
   grind
  by_cases e:J=i
  ·subst e
   rw[Z6 R]at A;obtain rfl:=Option.some.inj A;cases W with
   | succ j=>simp at B
   | zero=>
    obtain rfl:fz c=X:=by simpa using B
    have:=(G J 0 [c] c E rfl).freeze
    grind
  grind[cU.mono]
variable{A:List RA}
theorem am.frz{sh:Bool}{k:Kd}{c:C}(h:am P f sh A k [.s .own rows])(d:rows[i]? = some [c]):am P f sh A k [.s .own (rows.set i [fz c])]:=by
 obtain⟨l,n⟩:=h;refine⟨l,λw S p q r=>(n w S p q r).mono λe w1 t=>?_⟩;obtain⟨v,u,y,X,S1,G,H,J,B,g,D,K,L⟩:=t;obtain⟨V,M,N⟩:=(D 0 _ rfl).frz_at d;have E:∀b o,V b o->X b o:=ψ
 refine⟨v,u,y,λb o=>X b o/\¬V b o,λb o=>S1 b o\/V b o,ψ,λb o a=>?_,λb o a h=>?_,B,λj=>if j=0 then(λb o=>g 0 b o/\¬V b o) else NO,λj O F=>?_,λj F b o a=>?_,ψ⟩
 ·grind
 ·grind
 ·grind
 all_goals simp_all
def NW(c:aD)(k:Nat):aD:=⟨c.X.set k []⟩
theorem Py(c:aD)(k:Nat):aD.enc .own (NW c k)=[.s .own ((c.X.map (aE .own)).set k (aE .own []))]:=by grind[CC,aD.enc,NW]
theorem Ji(xs:List Int):([]:List Int).map (rI .R)=(xs.map (rI .R)).drop xs.length:=by simp_all
theorem KM(xs:List Int):xs.map (rI .R)=(xs.map (rI .R)).take xs.length:=by grind[Z1]
def xc{k:Nat}{r:List C}(h:k<rows.length):(rows.set k r)[k]? = some r:=Z6 h
def Yc(c:aD)(k:Nat):List C:=aD.enc .own (NW c k)++aE .own (nth c.X k)
def Tw(c:aD)(k:Nat):fy (Yc c k):=ay (Cr _) (bH _)
def yJ(c:aD)(k:Nat)(d:bB c=true)(p:k<=3):zzA 215 false [.val (some 1) (aD.enc .R c),.vI (k:Nat),.vI 8] (.tup [some 1,none]) (Yc c k):=by
 obtain⟨q,e⟩:=dZ d;have g:aD.sml c:=⟨ω,λl j=>by have:=e l j;show l.length<=1048576;omega⟩
 have h:=BH c k g;rw[d,O0 ω]at h;have n:=jC c g;have a:=mb (c:=c) (k:=k) ω;have o:=e _ (ax (xs:=c.X) (i:=k) ω);have b:=Tw c k;unfold Yc at b |-;rw[Py]at b |-;refine fO 52 [(5,268,[29,30,31,32,33,34,35,36,37,38,39,41,0,1,2,3,4,5,6,7,8,9,10,11,1000,1001,1002,12,13]),(6,265,[42,43,44,45,46,47,48,49,50,0,1,2,3,4,5,6,7,8,9,1000,10,11])] Tryz.func215 rfl ?_ (.inr b)
 repeat'(first|refine gP ?_|refine CY (z:=((nth c.X k).length:Int)) kd ?_|refine Ci (nth c.X k).length rfl ϰ (aI λ_=>rfl) (Ji _) ?_|refine Ca (nth c.X k).length rfl ϰ (aI λ_=>rfl) (KM _) ?_|refine Ce (λ_=>rfl) (λ_=>rfl) ϕ qs ?_|refine CX (λ_=>rfl) (λ_=>rfl) ϕ qs ?_|refine Ce (λ_=>rfl) (λ_=>rfl) ω qs ?_|refine CX (λ_=>rfl) (λ_=>rfl) ω qs ?_|refine CS rfl rfl (aa a) rfl δ rfl ?_)
 rfl
theorem yD(c:aD)(k:Nat)(e:bB c=true)(q:k<=3):zzA 255 false [.val (some 1) (aD.enc .R c),.vI (k:Nat),.vI 8] (.tup [some 1,none]) (Yc c k):=by
 obtain⟨r,g⟩:=dZ e;have h:aD.sml c:=⟨ω,λl o=>by have:=g l o;show l.length<=1048576;omega⟩
 have j:=tY c k h;rw[e,O0 ω]at j;have b:=mb (c:=c) (k:=k) ω;have p:=g _ (ax (xs:=c.X) (i:=k) ω);have n:=am.frz (jX c h) (i:=k) (c:=.s .own ((nth c.X k).map (rI .own))) (aa b);rw[show fz (.s .own ((nth c.X k).map (rI .own)))=.s .R ((nth c.X k).map (rI .R)) from(List.cons.inj (dX (nth c.X k))).1]at n;have a:k<(c.X.map (aE .own)).length:=ψ
 have d:=Tw c k;unfold Yc at d |-;rw[Py]at d |-;refine fO 43 [ρ 6 7 30,ρ 7 5 38] Tryz.func255 rfl ?_ (.inr d)
 repeat'(first|refine gP ?_|refine CY (z:=((nth c.X k).length:Int)) kd ?_|refine Ci (nth c.X k).length rfl ϰ (aI λ_=>rfl) (Ji _) ?_|refine Ca (nth c.X k).length rfl ϰ (aI λ_=>rfl) (KM _) ?_|apply CF (cM [] ϕ)|refine CF (cM (nth c.X k) ω) ?_|refine CK rfl (xc a) rfl ?_|refine CS rfl rfl (xc a) rfl δ (by simp only[List.set_cons_zero,List.set_set];rfl) ?_|refine CH (xc a) ?_)
 simp only[List.set_set,Z4];rfl
theorem qO{k:Int} : ∀{l s s2 b:List Int},(∀x∈s2,x∈s)->uJ k s l=some b->(∀x∈s,x∈b)/\∃c,uJ k s2 l=some c/\∀x∈c,x∈b
 | [],s,s2,b,h,e=>by grind[uJ]
 | a::l,s,s2,b,h,e=>by
  simp only[uJ]at e |-;split at e
  ·rename_i g
   rw[CJ (show good k s2 a from⟨g.1,g.2.1,g.2.2.1,λx=>g.2.2.2 (h a x)⟩)];obtain⟨d,f⟩:=qO (l:=l) (s:=s++[a]) (s2:=s2++[a]) ψ e
   grind
  cases e
theorem wW:∀{a:List (List Int)}{k:Nat}{s s2:List Int},(∀x∈s2,x∈s)->(iG k s a).isSome=true->(iG k s2 a).isSome=true
 | [],_,_,_,_,_=>rfl
 | l::a,k,s,s2,h,e=>by
  simp only[iG,fW]at e |-;split at e
  ·rename_i g
   rw[CJ g];cases b:uJ k s l with
   | none=>grind
   | some i=>
    rw[b]at e;obtain⟨-,c,d,f⟩:=qO h b;rw[d];exact wW f e
  cases e
theorem KW:∀{a:List (List Int)}{k:Nat}{s s2:List Int}(i:Nat),(∀x∈s2,x∈s)->(iG k s a).isSome=true->(iG k s2 (a.set i [])).isSome=true
 | [],_,_,_,_,_,_=>rfl
 | l::a,k,s,s2,i,h,e=>by
  simp only[iG,fW]at e;split at e
  ·rename_i g
   cases b:uJ k s l with
   | none=>grind
   | some j=>
    rw[b]at e;obtain⟨n,c,d,f⟩:=qO h b;cases i with
    | zero=>
     simp only[List.set_cons_zero,iG,fW];rw[CJ ⟨by simp,g.2⟩];exact wW ψ e
    | succ i=>
     simp only[List.set_cons_succ,iG,fW];rw[CJ g,d];exact KW i f e
  cases e
theorem WG{c:aD}(h:bB c=true)(k:Nat):bB (NW c k)=true:=by grind[KW,bB,NW]
def spilt(h:ac)(t k:Nat):ac:={h with Q:=h.Q.set t (NW (nth h.Q t) k)}
theorem bf.spilt{h:ac}{E:List Int}{t k:Nat}(d:bf h E)(i:t<h.Q.length)(n:k<(nth h.Q t).X.length):bf (spilt h t k) (nth (nth h.Q t).X k++E):=by
 have p:(E++holders h).Perm (nth (nth h.Q t).X k++E++holders (Ab.spilt h t k)):=by
  refine List.perm_iff_count.2 λb=>?_
  have r:=jB (λc:aD=>c.X.flatten) b h.Q t (NW (nth h.Q t) k) i;have q:=jB (λx:List Int=>x) b (nth h.Q t).X k [] n;rw[<-mn,<-mn]at q;simp only[List.count_nil]at q;simp only[NW]at r;simp only[holders,cT,Ab.spilt,NW,ZB];omega
 have g:∀c∈(Ab.spilt h t k).Q,c∈h.Q\/c=NW (nth h.Q t) k:=λc u=>SC u
 exact {d with
   nc:=by show(h.Q.set ..).length=_;rw[O2];exact d.nc
   cach:=λc f=>by grind[bf.cach,WG,ax]
   onu:=by show ∀o∈h.K,1<=o.Id/\o.Id<=h.o - 1/\0<=o.a1/\o.a1<=(h.Q.set t _).length - 1;rw[O2];exact d.onu
   hca:=λc f j l b a=>by
     rcases g c f with f|rfl
     · exact d.hca c f j l b a
     simp only[NW,O2]at l;simp only[NW,cY]at a;by_cases e:k=j
     · grind
     rw[CI λx=>e x.1]at a;exact d.hca _ (ax i) _ l b a
   hin:=λb a=>by
     rcases I5.1 a with a|a
     · exact(d.hca _ (ax i) k n b a).any
     exact d.hin b a
   nd:=p.nodup_iff.1 d.nd
   mem:=λb=>by rw[<-p.mem_iff];exact d.mem b}
def freeAs(h:ac)(az:List Int):ac:=az.foldl freeA h
theorem js:∀(az:List Int)(h:ac),(freeAs h az).Q=h.Q/\(freeAs h az).K=h.K/\(freeAs h az).G.b=h.G.b/\(freeAs h az).q=h.q/\(freeAs h az).a9=h.a9/\(freeAs h az).b2=h.b2/\(freeAs h az).a4=h.a4/\(freeAs h az).G.d=h.G.d
 | [],h=>⟨rfl,rfl,rfl,rfl,rfl,rfl,rfl,rfl⟩
 | a::az,h=>by
  obtain⟨b,c,d,e,f,g,i,j⟩:=js az (freeA h a);obtain⟨k,l,n,o,p,q,r,t⟩:=Bb h (yF h a) a;exact⟨b.trans k,c.trans l,d.trans n,e.trans o,f.trans p,g.trans q,i.trans r,j.trans t⟩
theorem bf.freeAs{E:List Int} : ∀{az:List Int}{h:ac},bf h (az++E)->bf (freeAs h az) E
 | [],_,b=>b
 | a::az,h,b=>bf.freeAs (az:=az) (h:=Ab.freeA h a) b.freeA
theorem rz(h:ac)(az:List Int)(k:Nat)(a:k<az.length):freeAs h (az.take (k+1))=freeA (freeAs h (az.take k)) (nth az k):=by grind[ZA,ar,freeAs]
def flushN(t:Nat)(h:ac):Nat->ac × Nat
 | 0=>(h,0)
 | k+1=>(freeAs (spilt (flushN t h k).1 t k) (nth (nth (flushN t h k).1.Q t).X k),(flushN t h k).2+(nth (nth (flushN t h k).1.Q t).X k).length)
theorem kh{t:Nat}{h:ac}(b:bf h [])(c:t<h.Q.length):∀{k:Nat},k<=4->bf (flushN t h k).1 []/\(flushN t h k).1.Q.length=h.Q.length/\(flushN t h k).1.G.b=h.G.b/\(flushN t h k).1.K=h.K/\(flushN t h k).1.q=h.q/\(flushN t h k).1.a9=h.a9/\(flushN t h k).2<=8*k
 | 0,_=>⟨b,rfl,rfl,rfl,rfl,rfl,C1 _⟩
 | k+1,e=>by
  obtain⟨d,f,g,i,j,l,n⟩:=kh b c (k:=k) ω;have a:t<(flushN t h k).1.Q.length:=ω
  obtain⟨o,p⟩:=dZ (d.cach _ (ax a))
  grind[bf.spilt,ax,js,bf.freeAs,spilt,flushN]
variable{t:Nat}
theorem AH{k:Nat}(a:bf h [])(b:t<h.Q.length)(c:k<4):t<(flushN t h k).1.Q.length/\bB (nth (flushN t h k).1.Q t)=true/\k<(nth (flushN t h k).1.Q t).X.length/\(nth (nth (flushN t h k).1.Q t).X k).length<=8/\(flushN t h k).2<=8*k:=by grind[kh,bf.cach,ax,dZ]
variable{j:Nat}
theorem K6{k:Nat}(a:bf h [])(b:t<h.Q.length)(c:k<4)(f:j<(nth (nth (flushN t h k).1.Q t).X k).length):bf (freeAs (spilt (flushN t h k).1 t k) ((nth (nth (flushN t h k).1.Q t).X k).take j)) (nth (nth (nth (flushN t h k).1.Q t).X k) j::(nth (nth (flushN t h k).1.Q t).X k).drop (j+1)):=by
 obtain⟨d,e⟩:=AH a b c;have g:=((kh a b (k:=k) ω).1).spilt d e.2.1
 grind[bf.freeAs,gn,List.take_append_drop]
theorem DW(h:ac)(t:Nat)(g:bf h [])(i:t<h.Q.length):zzB 107 false [.ptr (bO h),.vI (t:Nat)] [.ptr (bO (flushN t h 4).1),.vI (t:Nat)] .one [I ((flushN t h 4).2:Nat)]:=by
 refine fM 48 [(109,[2,0])] [ρ 6 6 26] [(0,0),(0,0)] Tryz.func107 rfl (λu q=>?_)
 refine σP ?_
 refine Lp.mk (ι:=Nat) (λk=>[(0,bF (bO (flushN t h k).1)),(1,fN t),(5,fN ((flushN t h k).2)),(6,fN k)]) (λk=>k<=4) (λk=>4 - k) (0) ?_ (C1 _) λk D=>?_
 ·exact wE
 by_cases l:k<4
 ·obtain⟨n,o,E,F,G⟩:=AH g i l
  have p:=yJ (nth (flushN t h k).1.Q t) k o ω;have b:=λj=>K6 g i l (j:=j)
  have c:=ar n;have r:(flushN t h (k+1)).1=freeAs (spilt (flushN t h k).1 t k) (nth (nth (flushN t h k).1.Q t).X k):=rfl;have w:(flushN t h (k+1)).2=(flushN t h k).2+(nth (nth (flushN t h k).1.Q t).X k).length:=rfl;have y:C.s ek.own ((spilt (flushN t h k).1 t k).Q.map (aD.enc .own))=C.s ek.own (((flushN t h k).1.Q.map (aD.enc .own)).set t (aD.enc .own (NW (nth (flushN t h k).1.Q t) k))):=by grind[CC,spilt]
  repeat'(first|refine gE ?_|refine CL (p) ⟨⟨rfl,Co _⟩,⟨rfl,rfl⟩,π⟩ ?_|refine CS rfl rfl (aa c) rfl δ rfl ?_)
  generalize (flushN t h k).1=d at *;generalize (flushN t h k).2=m at *
  (conv=>whnf)
  refine Lp.mk (ι:=Nat) (λj=>[(0,bF (bO (freeAs (spilt d t k) ((nth (nth d.Q t).X k).take j)))),(1,fN t),(5,fN ((m+j))),(6,fN k),(8,bK (aE .own (nth (nth d.Q t).X k))),(9,fN j)]) (λj=>j<=(nth (nth d.Q t).X k).length) (λj=>(nth (nth d.Q t).X k).length - j) (0) ?_ (C1 _) λj H=>?_
  ·exact wE
  by_cases e:j<(nth (nth d.Q t).X k).length
  ·have a:=ar e
   have B:=p8 _ _ _ (b j e)
   refine σE ?_
   (refine CP (j+1) ω ω ?_)
   rw[rz _ _ _ e];exact wC
  obtain rfl:j=(nth (nth d.Q t).X k).length:=ω
  rw[CA]
  refine σE ?_
  (refine CP (k+1) ω ω ?_)
  rw[r,w];exact wC
 obtain rfl:k=4:=ω
 refine σE ?_
 exact kk
def pf(h:ac)(t:Int)(a:ac.sml h):zzA 252 false [ν h,.vI t] .one [B (decide (0<=t/\t<=h.Q.length - 1)&&decide (h.G.b≠100000)&&cz h)]:=by
 have b:=cR h a;rw[ed]at b;have d:h.Q.length<=1048576:=a.2.2.2.2.2.1.1;have c:=aH t 0 (h.Q.length - 1:Int);cases e:decide (0<=t/\t<=(h.Q.length:Int) - 1)<;>rw[e]at c
 all_goals
  cases g:decide (h.G.b≠100000)
  all_goals
   simp only[C0,I9]at g;refine fO 21 [] Tryz.func252 rfl ?_
   repeat'(first|refine gP ?_|refine gS (λi=>?_) (λi=>?_)|fail)
   all_goals first|rfl|(exfalso;omega)
theorem Bw(h:ac)(t:Nat)(o:ac.sml h)(p:cz h=true)(q:h.G.b≠100000)(b:t<h.Q.length):zzA 153 false [ν h,.vI (t:Nat)] (.tup [some 24,none]) (dh (flushN t h 4).1++[I ((flushN t h 4).2:Nat)]):=by
 have c:=bf.of p;have r:=pf h t o;rw[p,O0 ω,O0 q]at r;have w:=dG h o;refine fP 52 [(256,[2,0])] [] Tryz.func153 rfl ?_ (.inr (ay (ce _) ⟨tV1,tV1⟩))
 refine σP ?_
 refine Lp.mk (ι:=Nat) (λk=>[(1,fN t),(4,.Y .box mj),(6,bF (dh (flushN t h k).1)),(7,fN ((flushN t h k).2)),(8,fN k)]) (λk=>k<=4) (λk=>4 - k) (0) ?_ (C1 _) λk J=>?_
 ·exact wE
 by_cases u:k<4
 ·obtain⟨y,B,K,L,M⟩:=AH c b u
  have D:=yD (nth (flushN t h k).1.Q t) k B ω;have e:=λj=>K6 c b u (j:=j)
  have g:=λj=>(js ((nth (nth (flushN t h k).1.Q t).X k).take j) (spilt (flushN t h k).1 t k)).2.2.1
  have i:(spilt (flushN t h k).1 t k).G.b≠100000:=by have:=(kh c b (k:=k) ω).2.2.1;show(flushN t h k).1.G.b≠100000;rw[this];exact q
  have l:=ar y;have E:(flushN t h (k+1)).1=freeAs (spilt (flushN t h k).1 t k) (nth (nth (flushN t h k).1.Q t).X k):=rfl;have F:(flushN t h (k+1)).2=(flushN t h k).2+(nth (nth (flushN t h k).1.Q t).X k).length:=rfl;have G:C.s ek.own ((spilt (flushN t h k).1 t k).Q.map (aD.enc .own))=C.s ek.own (((flushN t h k).1.Q.map (aD.enc .own)).set t (aD.enc .own (NW (nth (flushN t h k).1.Q t) k))):=by grind[CC,spilt]
  repeat'(first|refine gE ?_|refine CL (D) ⟨⟨rfl,Co _⟩,⟨rfl,rfl⟩,π⟩ ?_|refine CS rfl rfl (aa l) rfl δ rfl ?_)
  generalize (flushN t h k).1=d at *;generalize (flushN t h k).2=m at *
  (conv=>whnf)
  refine Lp.mk (ι:=Nat) (λj=>[(1,fN t),(4,.Y .box mj),(6,bF (dh (freeAs (spilt d t k) ((nth (nth d.Q t).X k).take j)))),(7,fN ((m+j))),(8,fN k),(10,bK (aE .own (nth (nth d.Q t).X k))),(39,.c5 10 0 [] none),(40,fI ((nth (nth d.Q t).X k).length)),(41,fN j)]) (λj=>j<=(nth (nth d.Q t).X k).length) (λj=>(nth (nth d.Q t).X k).length - j) (0) ?_ (C1 _) λj N=>?_
  ·exact wE
  by_cases n:j<(nth (nth d.Q t).X k).length
  ·have a:=ar n
   have H:=lA _ _ _ (e j n) (by rw[g];exact i)
   refine σE ?_
   (refine CP (j+1) ω ω ?_)
   rw[rz _ _ _ n];exact wC
  obtain rfl:j=(nth (nth d.Q t).X k).length:=ω
  rw[CA]
  refine σE ?_
  (refine CP (k+1) ω ω ?_)
  rw[E,F];exact wC
 obtain rfl:k=4:=ω
 refine σE ?_
 rfl
def Dj(s:Int):Int:=(1103515245*s+12345) % 1073741824
def GJ(s:Int):0<=Dj s/\Dj s<=1073741823:=by unfold Dj;omega
def Do(s:Int)(b:0<=s/\s<=1073741823):zzA 359 false [.vI s] .one [I (Dj s)]:=by
 have a:=aK s 0 1073741823;rw[O0 b]at a;refine fO 10 [] Tryz.func359 rfl ?_
 repeat'(first|refine gP ?_|refine CY (z:=Dj s) (dy ω) ?_|apply CT qs)
 rfl
def vJ(s:Int)(b:0<=s/\s<=1073741823):zzA 86 false [.vI s] .one [B true]:=by
 have a:=aH s 0 1073741823;rw[O0 b]at a;refine fO 5 [] Tryz.func86 rfl ?_
 refine σP ?_
 rfl
def DL(s:Int)(a:0<=s/\s<=1073741823):zzA 411 false [.vI s] .one [I (Dj s)]:=by
 refine fO 10 [] Tryz.func411 rfl ?_
 repeat'(first|refine gP ?_|refine CY (z:=Dj s) (dy ω) ?_|apply CF (vJ s a)|apply CT qs)
 rfl
def HJ(s n:Int):Int:=Dj s / 1024 % n
def qX(s:Int){n:Int}(h:1<=n):0<=HJ s n/\HJ s n<n:=⟨Int.emod_nonneg _ ω,Int.emod_lt_of_pos _ ω⟩
theorem x3(s n:Int)(b:0<=s/\s<=1073741823)(c:1<=n/\n<=1000):zzA 287 false [.vI s,.vI n] (.tup [none,none]) [I (HJ s n),I (Dj s)]:=by
 have d:=aK s 0 1073741823;have e:=aK n 1 1000;rw[O0 b]at d;rw[O0 c]at e;have h:=GJ s;have i:=qX s c.1;have a:(Dj s).tdiv 1024=Dj s / 1024:=ψ
 have g:((Dj s).tdiv 1024).tmod n=HJ s n:=by rw[a];exact dy ω
 refine fO 23 [] Tryz.func287 rfl ?_ (.inr ⟨tV1,tV1,tV1⟩)
 repeat'(first|refine gP ?_|apply CF (Do s b)|apply CT qs|refine CT ω ?_|apply CY g|apply CR (fH (by rw[a];omega) (by rw[a];omega)))
 rfl
theorem yi(s n:Int)(b:0<=s/\s<=1073741823)(c:1<=n/\n<=1000):zzA 369 false [.vI s,.vI n] (.tup [none,none]) [I (HJ s n),I (Dj s)]:=by
 have d:=aH n 1 1000;rw[O0 c]at d;have g:=GJ s;have h:=qX s c.1;have a:(Dj s).tdiv 1024=Dj s / 1024:=ψ
 have e:((Dj s).tdiv 1024).tmod n=HJ s n:=by rw[a];exact dy ω
 refine fO 23 [] Tryz.func369 rfl ?_ (.inr ⟨tV1,tV1,tV1⟩)
 repeat'(first|refine gP ?_|apply CF (vJ s b)|apply CF (DL s b)|apply CT qs|refine CT ω ?_|apply CY e|apply CR (fH (by rw[a];omega) (by rw[a];omega)))
 rfl
def qS(n:Nat):List Int:=(List.range n).map λ(i:Nat)=>(i:Int)
theorem A3(n:Nat):qS (n+1)=qS n++[(n:Int)]:=by grind[List.range_succ,qS]
def wX(n:Nat):(qS n).length=n:=by simp[qS]
def xS(xs:List Int)(i k:Nat):List Int:=(xs.set i (nth xs k)).set k (nth xs i)
def PV(xs:List Int)(i k:Nat):(xS xs i k).length=xs.length:=by simp[xS]
def fG(n:Nat)(s:Int):Nat->List Int × Int
 | 0=>(qS n,s)
 | j+1=>(xS (fG n s j).1 (n - 1 - j) (HJ (fG n s j).2 ((n - 1 - j:Nat)+1:Int)).toNat,Dj (fG n s j).2)
def ly(n:Nat){s:Int}(a:0<=s/\s<=1073741823):∀j,(fG n s j).1.length=n/\0<=(fG n s j).2/\(fG n s j).2<=1073741823
 | 0=>⟨wX n,a⟩
 | j+1=>⟨by simp only[fG,PV];exact(ly n a j).1,GJ _⟩
def shuf(n:Nat)(s:Int):List Int × Int:=fG n s (n - 1)
theorem HK(xs:List Int)(i k:Nat):(xS xs i k).map (rI .own)=((xs.map (rI .own)).set i (rI .own (nth xs k))).set k (rI .own (nth xs i)):=by grind[CC,xS]
theorem Fz{xs:List Int}{k:Nat}(v:Int)(a:k<xs.length):((xs.map (rI .own)).set i (rI .own v))[k]? = some (rI .own (nth (xs.set i v) k)):=by
 rw[<-CC];grind[ar]
def Eo(n:Nat)(s:Int)(d:0<=s/\s<=1073741823)(w:n<=64):zzA 220 false [.vI s,.vI (n:Nat)] (.tup [none,none]) (aE .own (shuf n s).1++[I (shuf n s).2]):=by
 have e:=aK s 0 1073741823;have g:=aK (n:Nat) 0 64;rw[O0 d]at e;rw[O0 ω]at g;refine fO 63 [] Tryz.func220 rfl ?_ (.inr (ay (bH _) ⟨tV1,tV1⟩))
 refine σP ?_
 refine lp0 n (λk=>[(0,fI s),(1,fN n),(6,bK (aE .own (qS k))),(7,fN k)]) λk y=>?_
 have h:=wX k;by_cases B:k<n
 ·repeat'(first|refine gE ?_|refine Cf (aI λ_=>rfl) rfl kd qs (en (rI .own) (qS k) (k:Int)) ?_)
  (refine CP (k+1) ω ω ?_)
  rw[A3];exact wB
 obtain rfl:k=n:=ω
 refine σE ?_
 refine lE (λj:Nat=>[(0,fI ((fG k s j).2)),(6,bK (aE .own (fG k s j).1)),(8,fI ((k:Int) - 1 - j))]) (λj=>(j<=k - 1/\j<=k)) (λj=>k - j) (0) ω λj C=>?_
 obtain⟨D,l,o⟩:=ly k d j;by_cases E:j<k - 1
 ·have q:(k:Int) - 1 - j=((k - 1 - j:Nat):Int):=ω
  have r:=qX (fG k s j).2 (n:=((k - 1 - j:Nat)+1:Int)) ω;have t:=x3 (fG k s j).2 ((k - 1 - j:Nat)+1:Int) ⟨l,o⟩ ω;have u:fG k s (j+1)=(xS (fG k s j).1 (k - 1 - j) (HJ (fG k s j).2 ((k - 1 - j:Nat)+1:Int)).toNat,Dj (fG k s j).2):=rfl;rw[q];generalize fG k s j=p at *;obtain⟨xs,z⟩:=p;simp only at *;generalize k - 1 - j=i at *;have a:=ar (xs:=xs) (i:=i) ω;have b:=ar (xs:=xs) (i:=(HJ z (i+1)).toNat) ω;have c:=Fz (xs:=xs) (i:=i) (k:=(HJ z (i+1)).toNat) (nth xs (HJ z (i+1)).toNat) ω
  repeat'(first|refine gE ?_|refine CO ω (aa b) ?_|refine CS rfl rfl (aa a) rfl δ rfl ?_|refine CO ω c ?_|refine CS rfl rfl c rfl δ rfl ?_)
  (refine CP (j+1) ω ω ?_)
  rw[u];simp only[aE,HK];exact wB
 obtain rfl:j=k - 1:=ω
 refine σE ?_
 rfl
def DH(n:Nat)(s:Int)(d:0<=s/\s<=1073741823)(w:n<=64):zzA 348 false [.vI s,.vI (n:Nat)] (.tup [none,none]) (aE .own (shuf n s).1++[I (shuf n s).2]):=by
 have g:=vJ s d;have e:=aH (n:Nat) 0 64;rw[O0 ω]at e;refine fO 60 [(12,270,[43,44,45,46,47,48,49,50,51,52,53,54,55,56,0,1,2,3,4,5,6,7,8,9,10,11,12,13,1002,1003,14,15])] Tryz.func348 rfl ?_ (.inr (ay (bH _) ⟨tV1,tV1⟩))
 refine σP ?_
 refine lp0 n (λk=>[(0,fI s),(1,fN n),(6,bK (aE .own (qS k))),(7,fN k)]) λk y=>?_
 have h:=wX k;by_cases B:k<n
 ·repeat'(first|refine gE ?_|refine Cf (aI λ_=>rfl) rfl kd qs (en (rI .own) (qS k) (k:Int)) ?_)
  (refine CP (k+1) ω ω ?_)
  rw[A3];exact wB
 obtain rfl:k=n:=ω
 refine σE ?_
 refine lE (λj:Nat=>[(0,fI ((fG k s j).2)),(6,bK (aE .own (fG k s j).1)),(8,fI ((k:Int) - 1 - j))]) (λj=>(j<=k - 1/\j<=k)) (λj=>k - j) (0) ω λj C=>?_
 obtain⟨D,l,o⟩:=ly k d j;by_cases E:j<k - 1
 ·have q:(k:Int) - 1 - j=((k - 1 - j:Nat):Int):=ω
  have r:=qX (fG k s j).2 (n:=((k - 1 - j:Nat)+1:Int)) ω;have t:=yi (fG k s j).2 ((k - 1 - j:Nat)+1:Int) ⟨l,o⟩ ω;have u:fG k s (j+1)=(xS (fG k s j).1 (k - 1 - j) (HJ (fG k s j).2 ((k - 1 - j:Nat)+1:Int)).toNat,Dj (fG k s j).2):=rfl;rw[q];generalize fG k s j=p at *;obtain⟨xs,z⟩:=p;simp only at *;generalize k - 1 - j=i at *;have a:=ar (xs:=xs) (i:=i) ω;have b:=ar (xs:=xs) (i:=(HJ z (i+1)).toNat) ω;have c:=Fz (xs:=xs) (i:=i) (k:=(HJ z (i+1)).toNat) (nth xs (HJ z (i+1)).toNat) ω
  repeat'(first|refine gE ?_|refine CO ω (aa b) ?_|refine CS rfl rfl (aa a) rfl δ rfl ?_|refine CO ω c ?_|refine CS rfl rfl c rfl δ rfl ?_)
  (refine CP (j+1) ω ω ?_)
  rw[u];simp only[aE,HK];exact wB
 obtain rfl:j=k - 1:=ω
 refine σE ?_
 rfl
def uz(b:Int):Nat->Nat
 | 0=>0
 | n+1=>uz b n+(if bg b (n:Nat)=true then 1 else 0)
theorem v8(b:Int):∀n,uz b n<=n
 | 0=>O5 _
 | n+1=>by have:=v8 b n;grind[uz]
def y8(b:Int)(d:b<=9223372036854775807):zzA 219 false [.vI b] .one [I (uz b 16:Nat)]:=by
 refine fO 15 [] Tryz.func219 rfl ?_
 refine σP ?_
 refine lp0 16 (λk=>[(0,fI b),(3,fN (uz b k)),(4,fN k)]) λk g=>?_
 have h:=v8 b k;by_cases i:k<16
 ·have a:=jy b (k:Nat) d
  have c:uz b (k+1)=uz b k+(if bg b (k:Nat)=true then 1 else 0):=rfl;cases e:bg b (k:Nat)<;>rw[e]at a c
  all_goals
   refine σE ?_
   (refine CP (k+1) ω ω ?_)
   rw[c];exact wB
 obtain rfl:k=16:=ω
 refine σE ?_
 rfl
def yC(b:Int)(d:b<=9223372036854775807):zzA 347 false [.vI b] .one [I (uz b 16:Nat)]:=by
 refine fO 15 [] Tryz.func347 rfl ?_
 refine σP ?_
 refine lp0 16 (λk=>[(0,fI b),(3,fN (uz b k)),(4,fN k)]) λk g=>?_
 have h:=v8 b k;by_cases i:k<16
 ·have a:=iB b (k:Nat) d
  have c:uz b (k+1)=uz b k+(if bg b (k:Nat)=true then 1 else 0):=rfl;cases e:bg b (k:Nat)<;>rw[e]at a c
  all_goals
   refine σE ?_
   (refine CP (k+1) ω ω ?_)
   rw[c];exact wB
 obtain rfl:k=16:=ω
 refine σE ?_
 rfl
def tf(h:ac)(s:a8):Bool:=decide (0<uz s.b0 16)&&decide ((aS h s.S).length=1)
def jH(h:ac):Nat->List a8
 | 0=>[]
 | n+1=>if tf h (nth h.H n)=true then jH h n++[nth h.H n] else jH h n
def iM(h:ac):List a8:=jH h h.H.length
theorem qV(h:ac):∀n,(jH h n).length<=n
 | 0=>O5 _
 | n+1=>by have:=qV h n;grind[jH]
theorem rM(h:ac):∀{n:Nat},n<=h.H.length->∀s∈jH h n,s∈h.H
 | 0,_,s,a=>by cases a
 | n+1,b,s,a=>by
  simp only[jH]at a;split at a
  ·rcases I5.1 a with a|a
   ·exact rM h ω s a
   grind[ax]
  exact rM h ω s a
theorem BP(h:ac)(g:y2 h)(o:h.H.length<=1000)(p:fk h<=1000)(i:∀s∈h.H,s.b0<=9223372036854775807):zzA 110 false [ν h] .one (cf .own (iM h)):=by
 refine fO 42 [ρ 5 16 13] Tryz.func110 rfl ?_ (.inr (B6 _))
 refine σP ?_
 refine lp0 h.H.length (λk=>[(1,bF (ac.enc .R h)),(3,bK (cf .own (jH h k))),(4,fN k)]) λk q=>?_
 have j:=qV h k;by_cases e:k<h.H.length
 ·have c:=ar e
  have d:=y8 (nth h.H k).b0 (i _ (ax e));have b:=jb h (nth h.H k).S g;have l:=gf h (nth h.H k).S;have n:=v8 (nth h.H k).b0 16;have a:jH h (k+1)=if tf h (nth h.H k)=true then jH h k++[nth h.H k] else jH h k:=rfl
  by_cases r:0<uz (nth h.H k).b0 16
  ·by_cases t:(aS h (nth h.H k).S).length=1
   ·rw[CJ (by grind[tf])]at a
    repeat'(first|refine gB ?_|refine CL (b) ⟨⟨rfl,rfl⟩,π⟩ ?_|refine Cf (aI λ_=>rfl) rfl kd qs (en (a8.enc .own) (jH h k) (nth h.H k)) ?_)
    (refine CP (k+1) ω ω ?_)
    rw[a];exact wB
   rw[CI (by grind[tf])]at a
   refine σB ?_
   (refine CP (k+1) ω ω ?_)
   rw[a];exact wB
  rw[CI (by grind[tf])]at a
  refine σE ?_
  (refine CP (k+1) ω ω ?_)
  rw[a];exact wB
 obtain rfl:k=h.H.length:=ω
 refine σE ?_
 rfl
theorem AU(h:ac)(g:y2 h)(o:h.H.length<=1000)(p:fk h<=1000)(i:∀s∈h.H,s.b0<=9223372036854775807):zzA 258 false [ν h] .one (cf .own (iM h)):=by
 refine fO 32 [] Tryz.func258 rfl ?_ (.inr (B6 _))
 refine σP ?_
 refine lp0 h.H.length (λk=>[(1,bF (ac.enc .R h)),(3,bK (cf .own (jH h k))),(8,bK (cf .R h.H)),(9,fI h.H.length),(10,fN k)]) λk q=>?_
 have j:=qV h k;by_cases e:k<h.H.length
 ·have b:=ar e
  have c:=yC (nth h.H k).b0 (i _ (ax e));have d:=l7 h (nth h.H k).S g;have l:=gf h (nth h.H k).S;have n:=v8 (nth h.H k).b0 16;have a:jH h (k+1)=if tf h (nth h.H k)=true then jH h k++[nth h.H k] else jH h k:=rfl
  by_cases r:0<uz (nth h.H k).b0 16
  ·by_cases t:(aS h (nth h.H k).S).length=1
   ·rw[CJ (by grind[tf])]at a
    repeat'(first|refine gB ?_|refine Cf (aI λ_=>rfl) rfl kd qs (en (a8.enc .own) (jH h k) (nth h.H k)) ?_)
    (refine CP (k+1) ω ω ?_)
    rw[a];exact wB
   rw[CI (by grind[tf])]at a
   refine σB ?_
   (refine CP (k+1) ω ω ?_)
   rw[a];exact wB
  rw[CI (by grind[tf])]at a
  refine σE ?_
  (refine CP (k+1) ω ω ?_)
  rw[a];exact wB
 obtain rfl:k=h.H.length:=ω
 refine σE ?_
 rfl
def zN(s:a8)(c:Nat):Bool:=bg s.b0 (((c:Nat):Int) / csz s.a)
def xJ(s:a8)(n:Nat):List Int:=((List.range n).filter (zN s)).map λ(i:Nat)=>(i:Int)
theorem NG(h:zN s n=true):xJ s (n+1)=xJ s n++[(n:Int)]:=by grind[List.range_succ,xJ]
theorem RF(h:zN s n=false):xJ s (n+1)=xJ s n:=by grind[List.range_succ,xJ]
theorem mX(s:a8)(n:Nat):(xJ s n).length<=n:=by grind[xJ]
theorem NN(a:bh s=true){c:Nat}(b:c<16):0<=((c:Nat):Int) / csz s.a/\((c:Nat):Int) / csz s.a<=15:=by
 have d:=aJ a
 grind[dd]
theorem qN(s:a8)(a:bh s=true):zzA 221 false [.val (some 3) (a8.enc .R s)] .one (aE .own (xJ s 16)):=by
 have b:=iw s;rw[a]at b;have g:=aJ a;have n:=dd g.2.2;refine fO 27 [ρ 5 7 14] Tryz.func221 rfl ?_ (.inr (bH _))
 refine σP ?_
 refine lp0 16 (λi=>[(1,bF (a8.enc .R s)),(3,bK (aE .own (xJ s i))),(4,fN i)]) λi o=>?_
 have h:=mX s i;by_cases j:i<16
 ·have k:=NN a j
  have d:IntKind.i64.wrap (((i:Nat):Int).tdiv (csz s.a))=((i:Nat):Int) / csz s.a:=by grind[fH]
  have c:=jy s.b0 (((i:Nat):Int) / csz s.a) (fV a).2;cases e:zN s i
  ·rw[show bg s.b0 (((i:Nat):Int) / csz s.a)=false from e]at c
   repeat'(first|refine gE ?_|apply CF (eK _)|refine CT ω ?_|apply CR d)
   (refine CP (i+1) ω ω ?_)
   rw[RF e];exact wB
  rw[show bg s.b0 (((i:Nat):Int) / csz s.a)=true from e]at c
  repeat'(first|refine gE ?_|apply CF (eK _)|refine CT ω ?_|apply CR d|refine Cb cx (λr l=>by rw[I2.1 l];rfl) ζ kd χ rfl ?_)
  (refine CP (i+1) ω ω ?_)
  rw[NG e]
  (exact wD)
 obtain rfl:i=16:=ω
 refine σE ?_
 rfl
theorem rd(s:a8)(a:bh s=true):zzA 350 false [.val (some 3) (a8.enc .R s)] .one (aE .own (xJ s 16)):=by
 have c:=ir s;rw[a]at c;have g:=aJ a;have n:=dd g.2.2;refine fO 26 [ρ 7 7 13] Tryz.func350 rfl ?_ (.inr (bH _))
 refine σP ?_
 refine lp0 16 (λi=>[(1,bF (a8.enc .R s)),(3,bK (aE .own (xJ s i))),(4,fN i)]) λi o=>?_
 have h:=mX s i;by_cases j:i<16
 ·have k:=NN a j
  have d:IntKind.i64.wrap (((i:Nat):Int).tdiv (csz s.a))=((i:Nat):Int) / csz s.a:=by grind[fH]
  have b:=iB s.b0 (((i:Nat):Int) / csz s.a) (fV a).2;cases e:zN s i
  ·rw[show bg s.b0 (((i:Nat):Int) / csz s.a)=false from e]at b
   repeat'(first|refine gE ?_|apply CF (dx _)|refine CT ω ?_|apply CR d)
   (refine CP (i+1) ω ω ?_)
   rw[RF e];exact wB
  rw[show bg s.b0 (((i:Nat):Int) / csz s.a)=true from e]at b
  repeat'(first|refine gE ?_|apply CF (dx _)|refine CT ω ?_|apply CR d|refine Cb cx (λr l=>by rw[I2.1 l];rfl) ζ kd χ rfl ?_)
  (refine CP (i+1) ω ω ?_)
  rw[NG e]
  (exact wD)
 obtain rfl:i=16:=ω
 refine σE ?_
 rfl
structure er where
 A:Int
 B:Int
deriving DecidableEq,Inhabited
def er.enc(_:ek)(x:er):List C:=[I x.A,I x.B]
def fD(o:ek)(x:List er):List C:=[.s o (x.map (er.enc o))]
theorem B2(x:List er):fy (fD .own x):=⟨⟨.inl ψ,aZ _ _ λ_ _=>⟨tV1,tV1,tV1⟩⟩,tV1⟩
theorem Bh(xs:List er)(pr:er->Bool)(g:xs.length<=9223372036854775807):zzA 421 false [.val none (fD .R xs),.fn (mS Tryz.prog (qj (some 2) (er.enc .R) pr xs))] .one [I (cu pr xs)]:=by
 refine fO 19 [] Tryz.func421 rfl ?_
 refine σP ?_
 refine gl xs.length (λi=>[(0,bK (fD .R xs)),(1,.fv (mS Tryz.prog (qj (some 2) (er.enc .R) pr xs))),(7,fI xs.length),(8,fN i)]) (λi=>∀(j:Nat)(z:er),j<i->xs[j]? = some z->pr z=false) ψ λi b=>?_
 obtain⟨b,d⟩:=b;by_cases a:i<xs.length
 ·obtain⟨y,c⟩ : ∃y,xs[i]? = some y:=⟨_,Z3 a⟩
  repeat'(first|refine gE ?_|refine Fv.mk (k:=.one) (rcs:=[B (pr y)]) ⟨y,I3 c,rfl,rfl,rfl⟩ ?_|refine Bf.P (λe=>?_) (λe=>?_))
  ·grind[dJ]
  (conv=>whnf)
  exact cV (i+1) ψ
 refine σE ?_
 exact nr (f8 ω d).symm
theorem uo(xs:List er)(pr:er->Bool)(a:xs.length<=9223372036854775807):zzA 388 false [.val none (fD .R xs),.fn (mS Tryz.prog (qj (some 2) (er.enc .R) pr xs))] .one [B (xs.any pr)]:=by
 refine fO 9 [] Tryz.func388 rfl ?_
 repeat'(first|refine gP ?_|apply CF (Bh xs pr a))
 grind[lZ]
def H4(i:Int)(p:er):Bool:=decide (p.A=i) || decide (p.B=i)
def JA(p:er)(i:Int):zzA 389 false [.val (some 2) (er.enc .R p),.ptr [I i]] .one [B (H4 i p)]:=by
 refine fO 14 [] Tryz.func389 rfl ?_
 repeat'(first|refine gP ?_|refine gS (λa=>?_) (λa=>?_)|fail)
 all_goals exact bY ((by unfold H4;first|(simp[*];done)|(simp[*];rw[O9];simp)))
def zo(xs:List er)(i:Int)(b:xs.length<=1048576):zzA 349 false [.val none (fD .R xs),.vI i] .one [B (xs.any (H4 i))]:=by
 refine fO 8 [] Tryz.func349 rfl ?_
 repeat'(first|refine gP ?_|refine Cq.mk (qj (some 2) (er.enc .R) (H4 i) xs) (JA default i).has (λL k rcs a=>?_) ?_|refine CF (uo xs (H4 i) ω) ?_)
 ·obtain⟨y,-,rfl,rfl,rfl⟩:=a
  exact JA y i
 rfl
def eD(a b:a8):cj:=if(xJ a 16).length<(xJ b 16).length then⟨b.S,a.S,xJ a 16⟩ else⟨a.S,b.S,xJ b 16⟩
def DO(a b:a8)(g:meshable a b=true)(h:bh a=true)(i:bh b=true):zzA 112 false [.val (some 3) (a8.enc .R a),.val (some 3) (a8.enc .R b)] (.tup [some 3,none]) (cj.enc .own (eD a b)++[B true]):=by
 have c:=nL a b;rw[g]at c;have d:=qN a h;have e:=qN b i;have j:=mX a 16;have k:=mX b 16;unfold eD;split
 ·refine fO 27 [ρ 3 6 11,ρ 5 6 20] Tryz.func112 rfl ?_ (.inr (ay (cj.enc_fr _) ⟨tV1,tV1⟩))
  refine σE ?_
  rfl
 refine fO 27 [ρ 3 6 11,ρ 5 6 20] Tryz.func112 rfl ?_ (.inr (ay (cj.enc_fr _) ⟨tV1,tV1⟩))
 refine σE ?_
 rfl
def Ed(a b:a8)(g:meshable a b=true)(h:bh a=true)(i:bh b=true):zzA 260 false [.val (some 3) (a8.enc .R a),.val (some 3) (a8.enc .R b)] (.tup [some 3,none]) (cj.enc .own (eD a b)++[B true]):=by
 have c:=ny a b;rw[g]at c;have d:=rd a h;have e:=rd b i;have j:=mX a 16;have k:=mX b 16;unfold eD;split
 ·refine fO 34 [ρ 3 3 13] Tryz.func260 rfl ?_ (.inr (ay (cj.enc_fr _) ⟨tV1,tV1⟩))
  refine σE ?_
  rfl
 refine fO 34 [ρ 3 3 13] Tryz.func260 rfl ?_ (.inr (ay (cj.enc_fr _) ⟨tV1,tV1⟩))
 refine σE ?_
 rfl
def yH(p:cj):cH:=⟨p,0,0⟩
def Kf(p:cj)(c:fY p=true)(a:cj.sml p):zzA 113 false [.val (some 3) (cj.enc .R p)] (.tup [some 5,none]) (cH.enc .own (yH p)++[B true]):=by
 have b:=xE p a;rw[c]at b;have d:=vE (yH p) a;refine fO 11 [] Tryz.func113 rfl ?_ (.inr (ay (cH.enc_fr _) ⟨tV1,tV1⟩))
 refine σP ?_
 rfl
def KS(p:cj)(c:fY p=true)(a:cj.sml p):zzA 261 false [.val (some 3) (cj.enc .R p)] (.tup [some 5,none]) (cH.enc .own (yH p)++[B true]):=by
 have b:=yc p a;rw[c]at b;have d:=sZ p a;refine fO 11 [] Tryz.func261 rfl ?_ (.inr (ay (cH.enc_fr _) ⟨tV1,tV1⟩))
 refine σP ?_
 rfl
def su(n:Nat){s:Int}(c:0<=s/\s<=1073741823):∀{j:Nat},j<=n - 1->∀x∈(fG n s j).1,0<=x/\x<n
 | 0,_,x,a=>by
  simp only[fG,qS,O8,List.mem_range]at a;obtain⟨i,d,rfl⟩:=a;omega
 | j+1,e,x,a=>by
  have f:=(ly n c j).1;have b:=su n c (j:=j) ω;have g:=qX (fG n s j).2 (n:=((n - 1 - j:Nat)+1:Int)) ω;simp only[fG,xS]at a;rcases SC a with a|rfl
  ·rcases SC a with a|rfl
   ·exact b x a
   exact b _ (ax ω)
  exact b _ (ax ω)
def tkn(out:List er)(a:Int):Bool:=out.any (H4 a)
def stp(a:List a8)(p:List Int)(t i:Nat)(out:List er):List er:=
 if tkn out (nth p i)=false/\tkn out (nth p (p.length / 2+(i+t) % (p.length - p.length / 2)))=false/\meshable (nth a (nth p i).toNat) (nth a (nth p (p.length / 2+(i+t) % (p.length - p.length / 2))).toNat)=true then out++[⟨nth p i,nth p (p.length / 2+(i+t) % (p.length - p.length / 2))⟩] else out
def sC(a:List a8)(p:List Int)(t:Nat)(out:List er):Nat->List er
 | 0=>out
 | i+1=>stp a p t i (sC a p t out i)
def mO(a:List a8)(p:List Int):Nat->List er
 | 0=>[]
 | t+1=>sC a p t (mO a p t) (p.length / 2)
def V4(a:List a8)(p:List Int)(t i:Nat)(out:List er):(stp a p t i out).length<=out.length+1:=by unfold stp;split<;>simp
def vG(a:List a8)(p:List Int)(t:Nat)(out:List er):∀i,(sC a p t out i).length<=out.length+i
 | 0=>O5 _
 | i+1=>by have b:=vG a p t out i;have c:=V4 a p t i (sC a p t out i);simp only[sC];omega
def zC(a:List a8)(p:List Int):∀t,(mO a p t).length<=t*(p.length / 2)
 | 0=>C1 _
 | t+1=>by have b:=zC a p t;have c:=vG a p t (mO a p t) (p.length / 2);simp only[mO];rw[Nat.add_mul];omega
def kF(a:List a8)(s:Int):List er:=mO a (shuf a.length s).1 3
def qo(n:Nat)(out:List er):List Bool:=(List.range n).map λ(i:Nat)=>tkn out (i:Nat)
variable{out:List er}
def Pr(h:0<=a/\a<n):(qo n out)[a.toNat]? = some (tkn out a):=by
 unfold qo;rw[Z5,ID ω];show some (tkn out ((a.toNat:Nat):Int))=_;rw[Int.toNat_of_nonneg h.1]
variable{b:Int}
def Ru(f:0<=a/\a<n)(g:0<=b/\b<n):qo n (out++[⟨a,b⟩])=((qo n out).set a.toNat true).set b.toNat true:=by
 unfold qo;apply List.ext_getElem?;intro i;by_cases c:i<n
 ·rw[Z5,ID c]
  by_cases d:b.toNat=i
  ·subst d
   rw[Z6 kd];simp only[IA,tkn,List.any_append,List.any_cons,List.any_nil,H4];rw[Int.toNat_of_nonneg g.1];simp
  rw[List.getElem?_set_ne d];by_cases e:a.toNat=i
  ·subst e
   rw[Z6 kd];simp only[IA,tkn,List.any_append,List.any_cons,List.any_nil,H4];rw[Int.toNat_of_nonneg f.1];simp
  rw[List.getElem?_set_ne e,Z5,ID c];simp only[IA,tkn,List.any_append,List.any_cons,List.any_nil,H4];rw[Z0 ω,Z0 ω];simp
 rw[I4 kd,I4 kd]
def VY(n:Nat):(qo n []).map (rB .own)=List.replicate n [B false]:=by
 unfold qo;rw[List.map_map];apply List.ext_getElem?;intro i;rw[Z5];by_cases a:i<n
 ·rw[ID a,List.getElem?_replicate];simp[a];rfl
 rw[I4 kd,List.getElem?_replicate];simp[a]
def PF{xs:List Bool}{k:Nat}(v:Bool)(a:k<xs.length):((xs.map (rB .own)).set i (rB .own v))[k]? = some (rB .own (nth (xs.set i v) k)):=by
 rw[<-CC];exact aa (ar (by rw[O2];exact a))
def y3(c:List a8)(s:Int)(u:0<=s/\s<=1073741823)(V:c.length<=16):zzA 111 false [.val none (cf .R c),.vI s,.vI 3] (.tup [none,none]) (fD .own (kF c s)++[I (shuf c.length s).2]):=by
 have J:=aK s 0 1073741823;rw[O0 u]at J;have K:=aK 3 0 16;rw[O0 ω]at K;have Q:=Eo c.length s u ω;have D:=(ly c.length u (c.length - 1)).1;have e:=su c.length u (O5 _);unfold kF;change (shuf c.length s).1.length=_ at D;change ∀x∈(shuf c.length s).1,_ at e
 have E:fy (fD .own (mO c (shuf c.length s).1 3)++[I (shuf c.length s).2]):=ay (B2 _) ⟨tV1,tV1⟩;generalize shuf c.length s=q at *;obtain⟨p,z⟩:=q;simp only at *;have F:((p.length:Nat):Int).tdiv 2=((p.length / 2:Nat):Int):=by rw[Int.tdiv_eq_ediv_of_nonneg ω];omega
 have g:C.s ek.own ((qo c.length []).map (rB .own))=C.s ek.own (List.replicate c.length [B false]):=by rw[VY]
 have h:∀i:Nat,i<p.length->0<=nth p i/\nth p i<c.length:=λi R=>e _ (ax R)
 refine fO 110 [ρ 15 21 73] Tryz.func111 rfl ?_ (.inr E)
 repeat'(first|refine gE ?_|with_reducible refine CR ((I1 _ F).trans (fH ω ω)) ?_|apply CT qs|refine Mk.mk c.length rfl rfl ω (yt ω qs) rfl ?_)
 refine Lp.mk (ι:=Nat) (λt=>[(0,bK (cf .R c)),(2,fI 3),(8,bK (fD .own (mO c p t))),(9,bK (aE .own p)),(10,fI z),(11,fN ((p.length / 2))),(12,bK (AK .own (qo c.length (mO c p t)))),(13,fN t)]) (λt=>t<=3) (λt=>3 - t) (0) ?_ (C1 _) λt S=>?_
 ·repeat'(first|exact tV1|rfl |exact WV g|refine CQ ?_ ?_|(exact UA ξ))
 have W:=zC c p t;have ol2:t*(p.length / 2)<=3*8:=Nat.mul_le_mul S ω;by_cases X:t<3
 ·refine σE ?_
  refine Lp.mk (ι:=Nat) (λj=>[(0,bK (cf .R c)),(2,fI 3),(8,bK (fD .own (sC c p t (mO c p t) j))),(9,bK (aE .own p)),(10,fI z),(11,fN ((p.length / 2))),(12,bK (AK .own (qo c.length (sC c p t (mO c p t) j)))),(13,fN t),(14,fN j)]) (λj=>j<=p.length / 2) (λj=>p.length / 2 - j) (0) ?_ (C1 _) λj Y=>?_
  ·repeat'(first|exact tV1|rfl |exact WV g|refine CQ ?_ ?_|(exact UA ξ))
  have Z:=vG c p t (mO c p t) j;by_cases lj:j<p.length / 2
  ·have L:(j+t) % (p.length - p.length / 2)<p.length - p.length / 2:=Nat.mod_lt _ ω
   have G:((j:Int)+t).tmod ((p.length:Int) - (p.length / 2:Nat))=(((j+t) % (p.length - p.length / 2):Nat):Int):=by
    rw[dy ω,Int.natCast_emod];congr 1;omega
   have d:sC c p t (mO c p t) (j+1)=stp c p t j (sC c p t (mO c p t) j):=rfl;unfold stp at d;generalize sC c p t (mO c p t) j=out at *;have l:p.length / 2+(j+t) % (p.length - p.length / 2)<p.length:=ω
   generalize hk:(j+t) % (p.length - p.length / 2)=k at *;have n:=ar (xs:=p) (i:=j) ω;have o:=ar (xs:=p) (i:=p.length / 2+k) l;have w:=h j ω;have r:=h _ l;generalize nth p j=a at *;generalize nth p (p.length / 2+k)=b at *;have y:=Pr (out:=out) w;have H:=Pr (out:=out) r;have T:=ar (xs:=c) (i:=a.toNat) ω;have U:=ar (xs:=c) (i:=b.toNat) ω;have M:=nL (nth c a.toNat) (nth c b.toNat);have ub2:=PF (xs:=qo c.length out) (i:=a.toNat) (k:=b.toNat) true (by simp[qo];omega);cases N:tkn out a<;>cases O:tkn out b<;>cases P:meshable (nth c a.toNat) (nth c b.toNat)
   all_goals
    rw[N]at y;rw[O]at H;rw[P]at M;rw[N,O,P]at d;simp only[and_true,true_and,if_true,Bool.false_eq_true,Bool.true_eq_false,and_false,false_and,if_false]at d
    repeat'(first|refine gE ?_|apply CY G|refine CT ω ?_|refine CO ω (aa o) ?_|apply CO w.1 (aa y)|apply CO r.1 (aa H)|apply CO w.1 (aa T)|apply CO r.1 (aa U)|refine CS rfl rfl (aa y) rfl δ rfl ?_|refine CO r.1 ub2 ?_|refine CS rfl rfl ub2 rfl δ rfl ?_|refine Cf (aI λ_=>rfl) rfl kd qs (en (er.enc .own) out ⟨a,b⟩) ?_)
    (refine CP (j+1) ω ω ?_)
    rw[d]
    first|(rw[Ru w r];simp only[AK,CC])|skip
    exact wB
  obtain rfl:j=p.length / 2:=ω
  refine σE ?_
  (exact cV (t+1) ω)
 obtain rfl:t=3:=ω
 refine σE ?_
 rfl
def t6(x:List er):dw (fD .own x)=fD .R x:=by simp[dw,fD,er.enc,<-bU,OB]
def yB(c:List a8)(s:Int)(r:0<=s/\s<=1073741823)(Y:c.length<=16):zzA 259 false [.val none (cf .R c),.vI s,.vI 3] (.tup [none,none]) (fD .own (kF c s)++[I (shuf c.length s).2]):=by
 have O:=vJ s r;have H:=aH 3 0 16;rw[O0 ω]at H;have P:=DH c.length s r ω;have g:=(ly c.length r (c.length - 1)).1;have h:=su c.length r (O5 _);unfold kF;change (shuf c.length s).1.length=_ at g;change ∀x∈(shuf c.length s).1,_ at h
 have y:fy (fD .own (mO c (shuf c.length s).1 3)++[I (shuf c.length s).2]):=ay (B2 _) ⟨tV1,tV1⟩;generalize shuf c.length s=q at *;obtain⟨p,z⟩:=q;simp only at *;have B:((p.length:Nat):Int).tdiv 2=((p.length / 2:Nat):Int):=by rw[Int.tdiv_eq_ediv_of_nonneg ω];omega
 have D:fz (C.s ek.own (p.map (rI .own)))=C.s ek.R (p.map (rI .R)):=(List.cons.inj (dX p)).1;have l:(p.drop (p.length / 2)).length=p.length - p.length / 2:=I6 ..;have Q:(p.take (p.length / 2)).length=p.length / 2:=by rw[Z2];omega
 have n:∀i:Nat,i<p.length->0<=nth p i/\nth p i<c.length:=λi R=>h _ (ax R)
 have d:((c.length:Nat):Int).tdiv 2=((p.length / 2:Nat):Int):=by rw[<-g];exact B
 refine fO 99 [(5,264,[39,40,41,42,43,44,45,46,0,1,2,3,4,5,6,7,8,1004,1005,1006,1007,9]),ρ 14 19 69,(1048581,9,[0])] Tryz.func259 rfl ?_ (.inr y)
 repeat'(first|refine gE ?_|with_reducible refine CR ((I1 _ d).trans (fH ω ω)) ?_|apply CT qs|refine L8.mk rfl D rfl ?_|refine Ca (p.length / 2) d ϰ (aI λ_=>rfl) C8 ?_|refine Ci (p.length / 2) d ϰ (aI λ_=>rfl) I8 ?_)
 refine lp0 3 (λt=>[(0,bK (cf .R c)),(2,fI 3),(10,fI z),(11,bK (aE .R (p.take (p.length / 2)))),(12,bK (aE .R (p.drop (p.length / 2)))),(13,bK (fD .own (mO c p t))),(14,fN t)]) λt S=>?_
 have Z:=zC c p t;have ol2:t*(p.length / 2)<=3*8:=Nat.mul_le_mul S ω;by_cases lt:t<3
 ·refine σE ?_
  refine lp0 (p.length / 2) (λj=>[(0,bK (cf .R c)),(2,fI 3),(10,fI z),(11,bK (aE .R (p.take (p.length / 2)))),(12,bK (aE .R (p.drop (p.length / 2)))),(13,bK (fD .own (sC c p t (mO c p t) j))),(14,fN t),(53,bK (aE .R (p.take (p.length / 2)))),(54,fN ((p.length / 2))),(55,fN j)]) λj hj=>?_
  have rl:=vG c p t (mO c p t) j;by_cases T:j<p.length / 2
  ·have J:(j+t) % (p.length - p.length / 2)<p.length - p.length / 2:=Nat.mod_lt _ ω
   have E:((j:Int)+t).tmod ((p.length - p.length / 2:Nat):Int)=(((j+t) % (p.length - p.length / 2):Nat):Int):=by
    rw[dy ω,Int.natCast_emod];congr 1
   have e:sC c p t (mO c p t) (j+1)=stp c p t j (sC c p t (mO c p t) j):=rfl;unfold stp at e;generalize sC c p t (mO c p t) j=out at *;have o:p.length / 2+(j+t) % (p.length - p.length / 2)<p.length:=ω
   generalize hk:(j+t) % (p.length - p.length / 2)=k at *;have F:(p.take (p.length / 2))[j]? = some (nth p j):=by rw[List.getElem?_take,CJ T];exact ar ω
   have G:(p.drop (p.length / 2))[k]? = some (nth p (p.length / 2+k)):=by rw[List.getElem?_drop];exact ar o
   have U:=n j ω;have V:=n _ o;generalize nth p j=a at *;generalize nth p (p.length / 2+k)=b at *;have K:=zo out a ω;have L:=zo out b ω;have W:=ar (xs:=c) (i:=a.toNat) ω;have X:=ar (xs:=c) (i:=b.toNat) ω;have M:=ny (nth c a.toNat) (nth c b.toNat);cases u:tkn out a<;>cases w:tkn out b<;>cases N:meshable (nth c a.toNat) (nth c b.toNat)
   all_goals
    unfold tkn at u w;rw[u]at K;rw[w]at L;change (tkn out a)=_ at u;change (tkn out b)=_ at w;rw[N]at M;rw[u,w,N]at e;simp only[and_true,true_and,if_true,Bool.false_eq_true,Bool.true_eq_false,and_false,false_and,if_false]at e
    repeat'(first|refine gE ?_|apply CY (z:=(k:Int)) (by rw[l];exact E)|refine CV (show List.length (List.map _ (p.drop (p.length / 2)))=p.length - p.length / 2 by rw[Z1];exact l) ?_|refine CT ω ?_|refine CO ω (aa G) ?_|apply CO U.1 (aa W)|apply CO V.1 (aa X)|refine CL (K) ⟨⟨rfl,t6 _⟩,π⟩ ?_|refine CL (L) ⟨⟨rfl,t6 _⟩,π⟩ ?_|refine Cf (aI λ_=>rfl) rfl kd qs (en (er.enc .own) out ⟨a,b⟩) ?_)
    (refine CP (j+1) ω ω ?_)
    rw[e];exact wB
  obtain rfl:j=p.length / 2:=ω
  refine σE ?_
  (exact cV (t+1) ω)
 obtain rfl:t=3:=ω
 refine σE ?_
 rfl
variable{rcs:List C}
def am.toS{k:Kd}(h:am P f false A k rcs):am P f true A k rcs:=
 ⟨h.has,λw S a c d=>(h.run w S a c d).mono λ_ _ ⟨v,e,g,X,S1,i,j,l⟩=>⟨v,e,g,X,S1,i,λb o n=>(j b o n).imp (λh=>absurd h.1 qs) id,l⟩⟩
def am.fzR{sh:Bool}{k:Kd}(h:am P f sh A k rcs):am P f sh A k (dw rcs):=by
 obtain⟨c,d⟩:=h;refine⟨c,λw S g i j=>(d w S g i j).mono λe w1 l=>?_⟩;obtain⟨v,n,p,X,S1,q,r,y,t,u⟩:=l;refine⟨v,n,p,NO,λb o=>S1 b o\/X b o,λ_ _ h=>h.elim,λb o a=>?_,λ_ _ h=>h.elim,by rw[bU,Z1];exact t,u.freeze⟩;rcases a with a|a
 ·exact r b o a
 exact .inr (q b o a)
structure UJ(ls:List a8)(q:er):Prop where
 a:0<=q.A/\q.A<ls.length
 b:0<=q.B/\q.B<ls.length
 m:meshable (nth ls q.A.toNat) (nth ls q.B.toNat)=true
def Ps{b:List a8}{p:List Int}(c:∀x∈p,0<=x/\x<b.length)(t:Nat){out:List er}(d:∀q∈out,UJ b q):∀{i:Nat},i<=p.length / 2->∀q∈sC b p t out i,UJ b q
 | 0,_=>d
 | i+1,h=>λq a=>by
  have e:=Ps c t d (i:=i) ω;simp only[sC,stp]at a;split at a
  ·rename_i g
   rcases I5.1 a with a|a
   ·exact e q a
   obtain rfl:=I2.1 a;have f:(i+t) % (p.length - p.length / 2)<p.length - p.length / 2:=Nat.mod_lt _ ω;exact⟨c _ (ax ω),c _ (ax ω),g.2.2⟩
  exact e q a
def NX{a:List a8}{p:List Int}(b:∀x∈p,0<=x/\x<a.length):∀t,∀q∈mO a p t,UJ a q
 | 0=>λq c=>by cases c
 | t+1=>Ps b t (NX b t) (O5 _)
def pc(a:List a8){s:Int}(b:0<=s/\s<=1073741823):∀q∈kF a s,UJ a q:=NX (su a.length b (O5 _)) 3
def VW(s:a8)(n:Nat):(xJ s n).Pairwise (· < ·):=by
 unfold xJ;rw[List.pairwise_map];exact(List.pairwise_lt_range.sublist List.filter_sublist).imp λh=>ω
def Xr : ∀z∈xJ s n,0<=z/\z<n:=λz a=>by
 unfold xJ at a;simp only[O8,S8,List.mem_range]at a;obtain⟨c,⟨b,-⟩,rfl⟩:=a;omega
def AP(s:a8):du (xJ s 16).length (oZ (xJ s 16))=true:=by
 refine cI.2 λj a=>?_
 have c:=Xr _ (ax a);unfold oZ;refine O0 ⟨ω,ω,?_⟩;by_cases e:j=0
 ·exact .inl e
 refine .inr ?_;have b:=List.pairwise_iff_getElem.1 (VW s 16) (j - 1) j ω a ω;rw[show nth (xJ s 16) (j - 1)=(xJ s 16)[j - 1] from bk (Z3 ω),show nth (xJ s 16) j=(xJ s 16)[j] from bk (Z3 a)];exact b
def rT{a b:a8}(c:meshable a b=true):fY (eD a b)=true/\bh a=true/\bh b=true:=by
 unfold meshable at c;simp only[I0,C0]at c;have d:=aJ c.1.1;have e:=aJ c.1.2;refine⟨?_,c.1⟩;unfold eD fY;split
 ·simp only[I0,C0];exact⟨AP a,ω⟩
 simp only[I0,C0];exact⟨AP b,ω⟩
def AB(a b:a8):cj.sml (eD a b):=by
 have c:=mX a 16;have d:=mX b 16;unfold eD cj.sml kK;split<;>simp only<;>omega
def bC(h:ac):List a8:=(iM h).take 16
def started(h:ac):ac × Bool:=match kF (bC h) h.c1 with
 | []=>({h with c1:=(shuf (bC h).length h.c1).2},false)
 | q::_=>({h with c1:=(shuf (bC h).length h.c1).2,a3:=true,a9:=yH (eD (nth (bC h) q.A.toNat) (nth (bC h) q.B.toNat))},true)
def Ja(a:bf h E):h.H.length<=32/\fk h<=32/\y2 h/\∀s∈h.H,s.b0<=9223372036854775807:=by
 have b:=a.lens;refine⟨b.spans,b.ents,?_,λs c=>by have:=eA (a.L.sok s c);omega⟩;have:=(aX a.ker).1.2;exact this
def Ai(h:ac):(bC h).length<=16:=by unfold bC;rw[Z2];omega
def Th(x:List er)(z:Int):dw (fD .own x++[I z])=fD .R x++[I z]:=by
 have h:=t6 x;rw[bU]at h |-;rw[IB,h];simp[fz]
def WL(h:ac):(bC h).map (a8.enc .R)=((iM h).map (a8.enc .R)).take 16:=C8
def MD(p:cj)(b:fY p=true)(c:cj.sml p):zzA 113 false [.val (some 3) (cj.enc .R p)] (.tup [some 5,none]) (zt (yH p)++[B true]):=by
 have h:=(Kf p b c).fzR;have e:dw (cH.enc .own (yH p)++[B true])=zt (yH p)++[B true]:=by
  have a:=cH.enc_fz (yH p);rw[bU]at a |-;rw[IB,a];simp[fz,cH.enc,zt]
 rwa [e]at h
def Ej(h:ac)(w:bf h []):zzB 53 false [.ptr (bO h)] [.ptr (bO (started h).1)] .one [B (started h).2]:=by
 obtain⟨w1,Q,H,J⟩:=Ja w;have a:=w.nums;unfold ch at a;rw[C0]at a;have e:=(BP h H ω ω J).fzR;rw[eB]at e;have o:=Ai h;have b:=(y3 (bC h) h.c1 ⟨a.1,a.2.1⟩ o).fzR;rw[Th]at b;have g:=pc (bC h) ⟨a.1,a.2.1⟩;have K:=qV h h.H.length;have y:(iM h).length<=32:=by unfold iM;omega
 have j:=WL h;unfold started;cases C:kF (bC h) h.c1 with
 | nil=>
  rw[C]at b;by_cases L:16<(iM h).length
  ·refine fM 62 [] [ςi] [(0,0)] Tryz.func53 rfl (λu q=>?_)
   repeat'(first|refine gE ?_|refine CL (e) ⟨⟨rfl,bS h⟩,tV1⟩ ?_|refine Ca 16 rfl ϰ (aI λ_=>rfl) j ?_)
   exact kk
  have k:bC h=iM h:=by unfold bC;exact ZD ω
  rw[k]at b;refine fM 62 [] [ςi] [(0,0)] Tryz.func53 rfl (λu q=>?_);rw[k]
  repeat'(first|refine gE ?_|refine CL (e) ⟨⟨rfl,bS h⟩,tV1⟩ ?_)
  exact kk
 | cons q M=>
  rw[C]at b g;obtain⟨E,F,G⟩:=g q (C3 ..);obtain⟨N,O,P⟩:=rT G;have p:=DO _ _ G O P;have t:=MD _ N (AB _ _);have c:=ar (xs:=bC h) (i:=q.A.toNat) ω;have d:=ar (xs:=bC h) (i:=q.B.toNat) ω;have l:(q::M)[0]? = some q:=rfl;by_cases L:16<(iM h).length
  ·refine fM 62 [] [ςi] [(0,0)] Tryz.func53 rfl (λu r=>?_)
   repeat'(first|refine gE ?_|with_reducible refine Bf.D (λn=>absurd n ϕ) (λn=>?_)|refine CL (e) ⟨⟨rfl,bS h⟩,tV1⟩ ?_|refine Ca 16 rfl ϰ (aI λ_=>rfl) j ?_|apply CO qs (aa l)|apply CO E.1 (aa c)|apply CO F.1 (aa d)|refine CL (t) ⟨⟨rfl,cj.enc_fz _⟩,tV1⟩ ?_)
   exact kk
  have k:bC h=iM h:=by unfold bC;exact ZD ω
  rw[k]at b p t c d;refine fM 62 [] [ςi] [(0,0)] Tryz.func53 rfl (λu r=>?_);rw[k]
  repeat'(first|refine gE ?_|with_reducible refine Bf.D (λn=>absurd n ϕ) (λn=>?_)|refine CL (e) ⟨⟨rfl,bS h⟩,tV1⟩ ?_|apply CO qs (aa l)|apply CO E.1 (aa c)|apply CO F.1 (aa d)|refine CL (t) ⟨⟨rfl,cj.enc_fz _⟩,tV1⟩ ?_)
  exact kk
def GG(h:ac):ac × Bool:=if h.a3=false/\cz h=true then started h else(h,false)
def FZ(h:ac)(g:ac.sml h)(i:¬(h.a3=false/\cz h=true)):zzA 155 false [ν h] (.tup [some 24,none]) (dh h++[B false]):=by
 have a:=cR h g;rw[ed]at a;have b:=dG h g;have c:ac.enc .R h=(ac.enc .R h).set 18 (B h.a3):=rfl;unfold ν at *;cases d:h.a3
 ·have j:cz h=false:=by
   rcases Bool.eq_false_or_eq_true (cz h) with e|e
   ·exact absurd ⟨d,e⟩ i
   exact e
  rw[j]at a;rw[d]at c;rw[c]at a b |-;refine fO 66 [ςj] Tryz.func155 rfl ?_ (.inr (ay (ce _) ⟨tV1,tV1⟩))
  refine σP ?_
  rfl
 rw[d]at c;rw[c]at a b |-;refine fO 66 [ςj] Tryz.func155 rfl ?_ (.inr (ay (ce _) ⟨tV1,tV1⟩))
 refine σP ?_
 rfl
def D7(h:ac)(t:ac.sml h)(H:h.a3=false)(u:cz h=true):zzA 155 false [ν h] (.tup [some 24,none]) (dh (started h).1++[B (started h).2]):=by
 have w:=bf.of u;obtain⟨w1,U,J,K⟩:=Ja w;have a:=w.nums;unfold ch at a;rw[C0]at a;have j:=cR h t;rw[ed,u]at j;have l:=dG h t;have k:=(AU h J ω ω K).fzR;rw[eB]at k;have n:=Ai h;have c:=(yB (bC h) h.c1 ⟨a.1,a.2.1⟩ n).fzR;rw[Th]at c;have d:=pc (bC h) ⟨a.1,a.2.1⟩;have L:=qV h h.H.length;have y:(iM h).length<=32:=by unfold iM;omega
 have g:(bC h).map (a8.enc .R)=((iM h).map (a8.enc .R)).take (bC h).length:=by
  unfold bC;rw[C8,Z2];by_cases e:16<=(iM h).length
  ·rw[Nat.min_eq_left e]
  rw[Nat.min_eq_right ω,ZD ϰ,ZD ϰ]
 have b:(bC h).length=if(iM h).length<=16 then(iM h).length else 16:=by unfold bC;rw[Z2];split<;>omega
 have C:ac.enc .R h=(ac.enc .R h).set 18 (B h.a3):=rfl;unfold ν at *;rw[H]at C;rw[C]at j l k |-;unfold started;cases E:kF (bC h) h.c1 with
 | nil=>
  rw[E]at c;refine fO 66 [ςj] Tryz.func155 rfl ?_ (.inr (ay (ce _) ⟨tV1,tV1⟩))
  repeat'(first|refine gP ?_|apply CY (z:=((bC h).length:Int)) (by rw[b];simp;split<;>split<;>omega)|refine Ca (bC h).length rfl (by rw[Z1,b];split<;>omega) (aI λ_=>rfl) g ?_)
  rfl
 | cons q M=>
  rw[E]at c d;obtain⟨N,O,F⟩:=d q (C3 ..);obtain⟨P,Q,R⟩:=rT F;have S:=Ed _ _ F Q R;have T:=KS _ P (AB _ _);have o:=ar (xs:=bC h) (i:=q.A.toNat) ω;have p:=ar (xs:=bC h) (i:=q.B.toNat) ω;have r:(q::M)[0]? = some q:=rfl;refine fO 66 [ςj] Tryz.func155 rfl ?_ (.inr (ay (ce _) ⟨tV1,tV1⟩))
  repeat'(first|refine gP ?_|with_reducible refine Bf.D (λG=>absurd G ϕ) (λG=>?_)|apply CY (z:=((bC h).length:Int)) (by rw[b];simp;split<;>split<;>omega)|refine Ca (bC h).length rfl (by rw[Z1,b];split<;>omega) (aI λ_=>rfl) g ?_|apply CO qs (aa r)|apply CO N.1 (aa o)|apply CO O.1 (aa p)|refine CL (T) ⟨⟨rfl,cj.enc_fz _⟩,tV1⟩ ?_)
  rfl
def Ax(h:ac)(a:ac.sml h):zzA 155 false [ν h] (.tup [some 24,none]) (dh (GG h).1++[B (GG h).2]):=by
 unfold GG;split
 ·rename_i e;exact D7 h a e.1 e.2
 rename_i e;exact FZ h a e
theorem Mc(xs:List Int)(x:Int)(g:xs.length<=4611686018427387904):zzA 426 false [.val none (aE .R xs),.vI x] .one [I (cu (λy=>decide (y=x)) xs)]:=by
 refine fO 19 [] Tryz.func426 rfl ?_
 refine σP ?_
 refine gl xs.length (λi=>[(0,bK (aE .R xs)),(1,fI x),(7,fI xs.length),(8,fN i)]) (λi=>∀(j:Nat)(z:Int),j<i->xs[j]? = some z->decide (z=x)=false) ψ λi a=>?_
 obtain⟨a,c⟩:=a;by_cases d:i<xs.length
 ·have b:=ar d
  by_cases e:nth xs i=x
  ·repeat'(first|refine gE ?_|refine Bf.t (by simp[e]) ?_)
   grind[dJ]
  repeat'(first|refine gE ?_|refine Bf.f (by simp[Ne.symm e]) ?_)
  (exact cV (i+1) ψ)
 refine σE ?_
 exact nr (f8 ω c).symm
theorem te(xs:List Int)(x:Int)(a:xs.length<=4611686018427387904):zzA 410 false [.val none (aE .R xs),.vI x] .one [B (decide (x∈xs))]:=by
 refine fO 9 [] Tryz.func410 rfl ?_
 repeat'(first|refine gP ?_|apply CF (Mc xs x a))
 grind[lZ]
def dO(k:ah):ah:={k with b:=k.b+1}
def refd(k:ah):Bool:=decide (k.b∈k.d)
def pL(k:ah)(a:ah.sml k)(d:0<=k.b/\k.b<=100000):zzA 413 false [.val (some 5) (ah.enc .R k)] (.tup [some 5,none]) (ah.enc .own (dO k)++[B (!refd k)]):=by
 have c:=gJ k a;have g:k.d.length<=1048576:=a.2;have b:=te k.d k.b ω;unfold refd;cases e:decide (k.b∈k.d)<;>rw[e]at b
 all_goals
  refine fO 18 [(3,263,[11,12,13,14,15,16,17,0,1,2,3,4,5,6,7,1006,8])] Tryz.func413 rfl ?_ (.inr (ay (Ck _) ⟨tV1,tV1⟩))
  refine σP ?_
  rfl
def z8(k:ah)(p:Int)(m:Int):ah:={k with F:=⟨k.F.W,⟨k.F.O.M.set p.toNat {nth k.F.O.M p.toNat with y:=m}⟩⟩}
def ju(k:ah)(p m:Int):ah × Bool:=if refd k=true then(dO k,false) else(z8 (dO k) p m,true)
theorem xj(k:ah)(p m:Int):ah.enc .own (z8 k p m)=(ah.enc .own k).set 2 (.s .own ((k.F.O.M.map (bv.enc .own)).set p.toNat (bv.enc .own {nth k.F.O.M p.toNat with y:=m}))):=by grind[CC,ah.enc,z8]
def sW(k:ah)(p m:Int)(b:aG k=true)(n:k.b≠100000)(j:(au k.F.O p).y≠0)(a:m=1\/m=2):zzA 392 false [.val (some 5) (ah.enc .R k),.vI p,.vI m] (.tup [some 5,none]) (ah.enc .own (ju k p m).1++[B (ju k p m).2]):=by
 have c:=aX b;have o:=(aF.1 b).2.2.2;have d:=iA k c;rw[b,O0 n]at d;have g:=pL k c ω;have h:=fp k p c.1.2;rw[O0 j]at h;obtain⟨q,r,t⟩:=bQ b j;have l:=ar (xs:=k.F.O.M) (i:=p.toNat) ω;unfold ju;cases e:refd k<;>rw[e]at g
 ·rw[CI ϕ,xj]
  rcases a with rfl|rfl
  all_goals
   refine fO 46 [] Tryz.func392 rfl ?_ (.inr (ay (by rw[<-xj];exact Ck _) ⟨tV1,tV1⟩))
   repeat'(first|refine gP ?_|apply CO q (aa l)|refine CS rfl rfl (aa l) rfl δ rfl ?_)
   rfl
 rw[CJ rfl];rcases a with rfl|rfl
 all_goals
  refine fO 46 [] Tryz.func392 rfl ?_ (.inr (ay (Ck _) ⟨tV1,tV1⟩))
  refine σP ?_
  rfl
variable{k:ah}
theorem row16(a:aG k=true)(b:f<k.F.W.V.length):(nth k.F.W.V f).length=16:=by grind[aT,aF,iU]
def setCell(k:ah)(f:Nat)(c v:Int):ah:={k with F:=⟨⟨k.F.W.V.set f ((nth k.F.W.V f).set c.toNat v),k.F.W.a5⟩,k.F.O⟩}
theorem yg(k:ah)(f:Nat)(c v:Int):ah.enc .own (setCell k f c v)=(ah.enc .own k).set 0 (.s .own ((k.F.W.V.map (aE .own)).set f [.s .own (((nth k.F.W.V f).map (rI .own)).set c.toNat [I v])])):=by grind[CC,ah.enc,setCell,aE,rI]
def jU(k:ah)(p:Int):Nat:=(au k.F.O p).j.toNat
def uH(k:ah)(a b c:Int):ah:=setCell k (jU k b) c (nth (nth k.F.W.V (jU k a)) c.toNat)
def N9(k:ah)(a b c:Int):Nat->ah
 | 0=>k
 | _+1=>uH k a b c
def Na(k:ah)(a b c:Int)(d:aG k=true)(C:k.b≠100000)(q:(au k.F.O a).y≠0)(r:(au k.F.O b).y≠0)(e:0<=c/\c<=15):zzA 393 false [.val (some 5) (ah.enc .R k),.vI a,.vI b,.val none (aE .R [c])] (.tup [some 5,none]) (ah.enc .own (uH k a b c)++[B true]):=by
 have h:=aX d;have t:=iA k h;rw[d,O0 C]at t;have D:=gJ k h;have u:=fp k a h.1.2;have w:=fp k b h.1.2;rw[O0 q]at u;rw[O0 r]at w;have E:=cG k.F.O a h.1.2;have F:=cG k.F.O b h.1.2;have y:=Fa c;rw[O0 e]at y;obtain⟨-,-,-,G,K⟩:=bQ d q;obtain⟨-,-,-,H,L⟩:=bQ d r;have J:=(aT.1 (aF.1 d).2.1).2.2.1;have M:=row16 d (f:=jU k a) (by unfold jU;omega);have N:=row16 d (f:=jU k b) (by unfold jU;omega);have l:k.F.W.V[(au k.F.O a).j.toNat]? = some (nth k.F.W.V (jU k a)):=ar ω;have g:k.F.W.V[(au k.F.O b).j.toNat]? = some (nth k.F.W.V (jU k b)):=ar ω;have o:=ar (xs:=nth k.F.W.V (jU k a)) (i:=c.toNat) ω;have n:=ar (xs:=nth k.F.W.V (jU k b)) (i:=c.toNat) ω;have p:[c][0]? = some c:=rfl;refine fO 77 [(4,268,[33,34,35,36,37,38,39,40,41,42,43,44,0,1,2,3,4,5,6,7,8,9,10,11,12,1011,13]),ρ 10 18 56] Tryz.func393 rfl ?_ (.inr (ay (Ck _) ⟨tV1,tV1⟩))
 refine σP ?_
 refine lp0 1 (λj=>[(4,bF (ah.enc .R k)),(8,bF (ah.enc .own ⟨⟨⟨[],[]⟩,⟨[]⟩⟩,0,[]⟩)),(10,bF (ah.enc .own (N9 k a b c j))),(11,fI ((au k.F.O a).j)),(12,fI ((au k.F.O b).j)),(45,bK (aE .R [c])),(46,fI 1),(47,fN j)]) λj O=>?_
 by_cases P:j<1
 ·obtain rfl:j=0:=ω
  repeat'(first|refine gE ?_|apply CO qs (aa p)|apply CO G (aa l)|apply CO H (aa g)|apply CO e.1 (aa o)|apply CO e.1 (aa n)|refine Pu.two rfl rfl (aa g) rfl rfl rfl (aa n) rfl (O5 _) rfl ?_)
  (refine CP 1 ω ω ?_)
  rw[show N9 k a b c 1=uH k a b c from rfl];unfold uH;rw[yg];exact wB
 obtain rfl:j=1:=ω
 refine σE ?_
 rfl
def yG(k:ah)(p:Nat)(e:bv):ah:={k with F:=⟨k.F.W,⟨k.F.O.M.set p e⟩⟩}
theorem JU(k:ah)(p:Nat)(e:bv):ah.enc .own (yG k p e)=(ah.enc .own k).set 2 (.s .own ((k.F.O.M.map (bv.enc .own)).set p (bv.enc .own e))):=by grind[CC,ah.enc,yG]
def Kl(p:Nat)(e:bv)(h:aM.sml k.F.O):aM.sml (yG k p e).F.O:=by
 refine⟨?_,λx _=>tV1⟩;show(k.F.O.M.set p e).length<=_;rw[O2];exact h.1
def zd(k:ah)(p o:Int):ah × Bool:=if refd k=true then(dO k,false) else(iJ (yG (dO k) p.toNat ⟨2,(nth k.F.O.M o.toNat).j⟩) (nth k.F.O.M p.toNat).j,true)
def ij(m:aN)(a v:Int):aN × Int:=
 if(au m.O (a / 16)).y=0 then(m,1) else if(au m.O (a / 16)).y=1 then(m,2) else
 (⟨⟨m.W.V.set (au m.O (a / 16)).j.toNat ((nth m.W.V (au m.O (a / 16)).j.toNat).set (a % 16).toNat v),m.W.a5⟩,m.O⟩,0)
def vk(m:aN)(a:Int)(d:de m=true)(b:aN.sml m)(e:0<=a/\a<512):zzA 385 false [.val (some 3) (aN.enc .R m),.vI a] .agg (bv.enc .own (au m.O (a / 16))):=by
 have c:=qP m b;rw[d]at c;have g:=cG m.O (a / 16) b.2;refine fO 18 [] Tryz.func385 rfl ?_ (.inr ⟨tV1,tV1,tV1⟩)
 repeat'(first|refine gE ?_|apply CR (kV e)|apply CT qs)
 rfl
theorem AR(m:aN)(f:Nat)(c v:Int):aN.enc .own ⟨⟨m.W.V.set f ((nth m.W.V f).set c.toNat v),m.W.a5⟩,m.O⟩ = (aN.enc .own m).set 0 (.s .own ((m.W.V.map (aE .own)).set f [.s .own (((nth m.W.V f).map (rI .own)).set c.toNat [I v])])):=by grind[CC,aN.enc,aE,rI]
def zx(m:aN)(a v:Int)(p:de m=true)(k:aN.sml m)(l:0<=a/\a<512)(q:0<=v/\v<=999)(r:(au m.O (a / 16)).y≠0->0<=(au m.O (a / 16)).j/\(au m.O (a / 16)).j<m.W.V.length/\(nth m.W.V (au m.O (a / 16)).j.toNat).length=16):zzA 338 false [.val (some 3) (aN.enc .R m),.vI a,.vI v] (.tup [some 3,none]) (aN.enc .own (ij m a v).1++[I (ij m a v).2]):=by
 have d:=kD m k;have e:=vk m a p k l;have c:=aH v 0 999;rw[O0 q]at c;have b:=aN.enc_fr (ij m a v).1;unfold ij at b |-;by_cases g:(au m.O (a / 16)).y=0
 ·rw[CJ g]at b |-
  refine fO 42 [] Tryz.func338 rfl ?_ (.inr (ay b ⟨tV1,tV1⟩))
  refine σB ?_
  rfl
 rw[CI g]at b |-;by_cases n:(au m.O (a / 16)).y=1
 ·rw[CJ n]at b |-
  refine fO 42 [] Tryz.func338 rfl ?_ (.inr (ay b ⟨tV1,tV1⟩))
  refine σB ?_
  rfl
 rw[CI n]at b |-;obtain⟨t,u,w⟩:=r g;have h:=ar (xs:=m.W.V) (i:=(au m.O (a / 16)).j.toNat) ω;have o:=ar (xs:=nth m.W.V (au m.O (a / 16)).j.toNat) (i:=(a % 16).toNat) ω;simp only at b |-;rw[AR]at b |-;have j:a.tmod 16=a % 16:=dy l.1;refine fO 42 [] Tryz.func338 rfl ?_ (.inr (ay b ⟨tV1,tV1⟩))
 repeat'(first|refine gB ?_|apply CY j|apply CT qs|apply CO t (aa h)|refine CO ω (aa o) ?_|refine Pu.two rfl rfl (aa h) rfl rfl rfl (aa o) rfl (O5 _) rfl ?_)
 rfl
def K4(k:ah)(p o:Int)(a:aG k=true)(w:k.b≠100000)(l:(au k.F.O p).y≠0)(n:(au k.F.O o).y≠0)(y:p≠o):zzA 394 false [.val (some 5) (ah.enc .R k),.vI p,.vI o] (.tup [some 5,none]) (ah.enc .own (zd k p o).1++[B (zd k p o).2]):=by
 have b:=aX a;have C:=(aF.1 a).2.2.2;have c:=iA k b;rw[a,O0 w]at c;have d:=pL k b ⟨ω,ω⟩;have g:=fp k p b.1.2;have h:=fp k o b.1.2;rw[O0 l]at g;rw[O0 n]at h;obtain⟨D,H,E,q,r⟩:=bQ a l;obtain⟨F,J,K,L,M⟩:=bQ a n;have G:=(aT.1 (aF.1 a).2.1).2.2.1;have j:=ar (xs:=k.F.O.M) (i:=p.toNat) ω;have t:=ar (xs:=k.F.O.M) (i:=o.toNat) ω;rw[E]at q r;have u:=vN (yG (dO k) p.toNat ⟨2,(nth k.F.O.M o.toNat).j⟩) (nth k.F.O.M p.toNat).j (Kl _ _ b.1.2) ⟨q,by show _<((k.F.W.V.length:Nat):Int);omega,r⟩;rw[JU]at u;unfold zd;cases e:refd k<;>rw[e]at d
 ·rw[CI ϕ]
  refine fP 63 [(415,[2,0]),(1000010,[])] [] Tryz.func394 rfl ?_ (.inr (ay (Ck _) ⟨tV1,tV1⟩))
  repeat'(first|refine gB ?_|apply CO D (aa j)|apply CO F (aa t)|refine CS rfl rfl (aa j) rfl δ rfl ?_)
  rfl
 rw[CJ rfl];refine fP 63 [(415,[2,0]),(1000010,[])] [] Tryz.func394 rfl ?_ (.inr (ay (Ck _) ⟨tV1,tV1⟩))
 refine σP ?_
 rfl
def jmay(k:ah)(j:cH):Bool:=(aG k&&decide (k.b≠100000))&&(kf j&&decide ((au k.F.O j.g.b1).y≠0/\(au k.F.O j.g.b3).y≠0/\(au k.F.O j.g.b1).j≠(au k.F.O j.g.b3).j))
def jstep(k:ah)(j:cH):ah × cH:=
 if j.b6=0 then((ju k j.g.b3 1).1,{j with b6:=if(ju k j.g.b3 1).2=true then 1 else 5})
 else if j.b6=1 then(if j.o=j.g.V.length then(k,{j with b6:=2}) else(uH k j.g.b3 j.g.b1 (nth j.g.V j.o.toNat),{j with o:=j.o+1}))
 else if j.b6=2 then((zd k j.g.b3 j.g.b1).1,{j with b6:=if(zd k j.g.b3 j.g.b1).2=true then 4 else 3})
 else if j.b6=3 then(if 0<j.o then({k with F:=(ij k.F (j.g.b1*16+nth j.g.V (j.o - 1).toNat) 0).1},{j with o:=j.o - 1}) else((ju k j.g.b3 2).1,{j with b6:=if(ju k j.g.b3 2).2=true then 5 else 3}))
 else(k,j)
theorem Rd{f:Int}(h1:∀j,j<k.d.length->0<=nth k.d j)(h2:dI k.F.W=true)(c:hO k.F.O k.F.W.a5.length=true)(g:∀j:Nat,j<k.F.W.a5.length->(j:Int)≠f->nth k.F.W.a5 j=decide (0<(pagesOn k.F.O (j:Int)).length))(p:0<=f/\f<k.F.W.a5.length)(h:nth k.F.W.a5 f.toNat=true)(d:0<=k.b/\k.b<=100000/\k.d.length<=40):aG (iJ k f)=true:=by
 obtain⟨i,l,n,q⟩:=aT.1 h2;unfold iJ;split
 ·rename_i o
  rw[aF];simp only[O2];refine⟨h1,?_,c,λj b=>?_,d⟩
  ·rw[aT]
   simp only[O2,cY];refine⟨i,l,n,λj b=>?_⟩;by_cases a:f.toNat=j
   ·rw[CJ ⟨a,b⟩,CJ ⟨a,ω⟩];decide
   grind
  rw[cY];by_cases a:f.toNat=j
  ·grind
  rw[CI (λe=>a e.1)];exact g j b ω
 rename_i o;rw[aF];refine⟨h1,h2,c,λj b=>?_,d⟩;by_cases a:(j:Int)=f
 ·rw[a,show j=f.toNat by omega,h]
  grind
 grind
def tEq(t a:aM):Prop:=a.M.length=t.M.length/\∀q:Nat,((nth a.M q).y≠0↔(nth t.M q).y≠0)/\(nth a.M q).j=(nth t.M q).j
theorem tEq.refl(t:aM):tEq t t:=⟨rfl,λ_=>⟨Iff.rfl,rfl⟩⟩
theorem tEq.of{t a:aM}(h:a=t):tEq t a:=by grind[tEq.refl]
theorem tEq.pagesOn{t a:aM}(h:tEq t a)(f:Int):Ab.pagesOn a f=Ab.pagesOn t f:=by
 unfold Ab.pagesOn lw;rw[h.1]
 congr 1
 refine List.filter_congr λq _=>?_
 obtain⟨b,c⟩:=h.2 q;unfold RO;rw[c];exact decide_eq_decide.2 (and_congr b Iff.rfl)
theorem Hg(h:aG k=true){a:aM}(c:tEq k.F.O a)(d:∀q,q<a.M.length->0<=(nth a.M q).y/\(nth a.M q).y<=2):aG {k with F:=⟨k.F.W,a⟩} = true:=by
 obtain⟨e,f,g,r,i⟩:=aF.1 h;obtain⟨l,n,o⟩:=bt.1 g;rw[aF];refine⟨e,f,bt.2 ⟨λj b=>?_,?_,?_⟩,λj b=>?_,i⟩
 ·replace b:j<a.M.length:=b
  have t:=l j (by rw[<-c.1];exact b);have p:=d j b;obtain⟨u,w⟩:=c.2 j
  grind[m7]
 ·show 1<=a.M.length;rw[c.1];exact n
 ·show a.M.length<=32;rw[c.1];exact o
 grind[tEq.pagesOn]
def oC(h:aG k=true)(f:k.b≠100000):aG (dO k)=true:=by
 obtain⟨a,b,c,d,g,i,e⟩:=aF.1 h;rw[aF];exact⟨a,b,c,d,by show 0<=k.b+1;omega,by show k.b+1<=100000;omega,e⟩
variable{p m:Int}
theorem Fi(b:(nth k.F.O.M p.toNat).y≠0)(a:m=1\/m=2):tEq k.F.O (z8 k p m).F.O:=by
 refine⟨by simp[z8],λq=>?_⟩
 grind[cY,z8]
theorem Rc(h:aG k=true)(d:(nth k.F.O.M p.toNat).y≠0)(a:m=1\/m=2):aG (z8 k p m)=true:=by
 refine Hg h (Fi d a) λq g=>?_
 obtain⟨i,j,e,l,n⟩:=aF.1 h;obtain⟨f,o,r⟩:=bt.1 e;have b:q<k.F.O.M.length:=ψ
 have c:=f q b;unfold m7 at c;rw[C0]at c;simp only[cY]
 grind
def Lc(h:aG k=true)(c:k.b≠100000)(b:(au k.F.O p).y≠0)(a:m=1\/m=2):aG (ju k p m).1=true/\tEq k.F.O (ju k p m).1.F.O:=by
 obtain⟨e,f,d,-⟩:=bQ h b;rw[d]at b;unfold ju;split
 ·exact⟨oC h c,tEq.refl _⟩
 exact⟨Rc (oC h c) b a,Fi (k:=dO k) b a⟩
theorem km(h:aG k=true)(a:(au k.F.O p).y≠0):jU k p<k.F.W.V.length/\nth k.F.W.a5 (jU k p)=true/\((jU k p:Nat):Int)=(nth k.F.O.M p.toNat).j:=by
 obtain⟨c,d,e,f,g⟩:=bQ h a;obtain⟨i,b,j,l,n⟩:=aF.1 h;obtain⟨o,q,r,t⟩:=aT.1 b;have u:((jU k p:Nat):Int)=(au k.F.O p).j:=by unfold jU;omega
 grind[fR]
theorem Ur(h:aG k=true){r':List Int}(i:r'.length=16)(l:∀v∈r',0<=v/\v<=999)(n:nth k.F.W.a5 f=true):aG {k with F:=⟨⟨k.F.W.V.set f r',k.F.W.a5⟩,k.F.O⟩} = true:=by
 obtain⟨a,b,c,d,e⟩:=aF.1 h;obtain⟨o,p,q,r⟩:=aT.1 b;refine aF.2 ⟨a,aT.2 ⟨?_,?_,?_,λj g=>?_⟩,c,d,e⟩
 ·grind
 ·grind
 ·grind
 simp only[O2]at g |-;simp only[cY]
 grind[iU,jz]
theorem He(h:aG k=true)(a:f<k.F.W.V.length):(nth k.F.W.V f).length=16/\∀v∈nth k.F.W.V f,0<=v/\v<=999:=by grind[aF,aT,iU,jz]
theorem tl(h:aG k=true)(a:f<k.F.W.V.length)(b:nth k.F.W.a5 f=true){c v:Int}(d:0<=v/\v<=999):aG (setCell k f c v)=true:=by
 obtain⟨e,g⟩:=He h a;refine Ur h ψ (λz i=>?_) b
 grind
def Uo(h:aG k=true){c:Int}(d:(au k.F.O a).y≠0)(e:(au k.F.O b).y≠0)(l:0<=c/\c<=15):aG (uH k a b c)=true:=by
 obtain⟨f,n,-⟩:=km h d;obtain⟨g,i,-⟩:=km h e;obtain⟨o,j⟩:=He h f;exact tl h g i (j _ (ax ω))
theorem WD{o:Int}(h:aG k=true)(i:k.b≠100000)(c:(au k.F.O p).y≠0)(d:(au k.F.O o).y≠0)(l:p≠o):aG (zd k p o).1=true:=by
 unfold zd;split
 ·exact oC h i
 obtain⟨H,n,r⟩:=km h c;obtain⟨J,K,L⟩:=km h d;obtain⟨M,N,t,e,f⟩:=bQ h c;obtain⟨O,P,u,w,y⟩:=bQ h d;obtain⟨A,B,C,D,Q,R,E⟩:=aF.1 h;obtain⟨S,T,U⟩:=bt.1 C;rw[u]at w y d;rw[t]at e f c;have a:∀q,nth (k.F.O.M.set p.toNat ⟨2,(nth k.F.O.M o.toNat).j⟩) q=if p.toNat=q then⟨2,(nth k.F.O.M o.toNat).j⟩ else nth k.F.O.M q:=λq=>by
  rw[cY];by_cases g:p.toNat=q
  ·rw[CJ ⟨g,ω⟩,CJ g]
  grind
 refine Rd A B (bt.2 ⟨λj b=>?_,?_,?_⟩) (λj b F=>?_) ⟨e,f⟩ (by rw[<-r];exact n) ⟨by show 0<=k.b+1;omega,by show k.b+1<=100000;omega,E⟩
 ·simp only[yG,dO,O2]at b |-
  rw[a]
  grind[m7]
 ·grind[yG,dO]
 ·grind[yG,dO]
 replace b:j<k.F.W.a5.length:=b;show nth k.F.W.a5 j=_;rw[D j b];refine decide_eq_decide.2 ?_;rw[fR,fR];simp only[yG,dO,O2,a];constructor
 ·rintro⟨q,G,V,W⟩
  refine⟨q,G,?_⟩
  grind
 grind
theorem UE{o:Int}(h:aG k=true)(a:(au k.F.O p).y≠0)(b:(zd k p o).2=true)(q:Nat):(zd k p o).1.F.O.M.length=k.F.O.M.length/\nth (zd k p o).1.F.O.M q=if(q:Int)=p then⟨2,(nth k.F.O.M o.toNat).j⟩ else nth k.F.O.M q:=by
 obtain⟨c,d,-⟩:=bQ h a
 grind[rS,cY,zd,yG,dO]
theorem WB{o:Int}(a:(zd k p o).2=false):(zd k p o).1=dO k:=by grind[zd]
def Q4{v:Int}(h:aG k=true)(g:0<=a)(b:0<=v/\v<=999):aG {k with F:=(ij k.F a v).1} = true/\(ij k.F a v).1.O=k.F.O:=by
 unfold ij;split
 ·exact⟨h,rfl⟩
 rename_i d;split
 ·exact⟨h,rfl⟩
 obtain⟨e,f,-⟩:=km h d;exact⟨tl h e f (c:=a % 16) b,rfl⟩
def pX(t:aM)(p:Int):Prop:=∀q:Nat,(nth t.M q).y≠0->(nth t.M q).j=(nth t.M p.toNat).j->(q:Int)=p
structure JI(h:ac):Prop where
 ph:h.a3=true->0<=h.a9.b6/\h.a9.b6<=3
 sp:h.a3=true->∃a∈h.H,∃b∈h.H,a.S=h.a9.g.b1/\b.S=h.a9.g.b3/\meshable a b=true
 sk:h.a3=true->pX (tbl h) h.a9.g.b1
 sm:h.a3=true->pX (tbl h) h.a9.g.b3
theorem pX.tEq{t a:aM}{p:Int}(h:pX t p)(b:tEq t a):pX a p:=λq c d=>by
 obtain⟨e,f⟩:=b.2 q;exact h q (e.1 c) (by rw[<-f,<-(b.2 p.toNat).2];exact d)
theorem Pg.tEq{t b:aM}{c:List aC}{sp:List a8}{la:List aB}(h:Pg t c sp la)(a:tEq t b):Pg b c sp la where
 one l hl p hp q hq h1 h2:=h.one l hl p hp q (by rw[<-a.1];exact hq) ((a.2 q).1.1 h1) (by rw[<-(a.2 q).2,<-(a.2 p).2];exact h2)
 bnd p hp:=by rw[a.1];exact h.bnd p hp
 own p hp:=(a.2 p).1.trans (h.own p (by rw[<-a.1];exact hp))
 fre p hp:=(a.2 p).1.trans (h.fre p (by rw[<-a.1];exact hp))
 mesh s hs u hu hne hf:=h.mesh s hs u hu hne (by rw[<-(a.2 _).2,<-(a.2 u.S.toNat).2];exact hf)
def bf.step(a:bf h E)(b:aG k=true)(c:k.F.O.M.length=(tbl h).M.length)(d:Pg k.F.O h.e h.H h.J){j:cH}{m:Bool}(h1:m=true->kf j=true/\(∃s∈h.H,s.S=j.g.b1)/\∃s∈h.H,s.S=j.g.b3)(h2:m=false->wb j=true):bf {h with G:=k,a3:=m,a9:=j} E:=
 {a with
   ker:=b
   rng:=by show bJ ((k.F.O.M.length:Nat):Int) h.e=true;rw[c];exact a.rng
   pg:=d
   job:=h1
   noj:=h2}
variable{la:List aB}{sp:List a8}
theorem pm.apart(a:pm sp la)(b:s∈sp){l:aB}(c:l∈la)(d:p∈lpgs l l.a2.toNat):s.S≠p:=by grind[pm.dis,lpgs]
theorem Pg.on{t w:aM}{F:List aC}(g:Pg t F sp la)(k:pm sp la){a b:a8}(G:a∈sp)(N:b∈sp)(hm:meshable a b=true)(o:pX t a.S)(C:(nth t.M a.S.toNat).y≠0)(O:(nth t.M b.S.toNat).y≠0)(P:0<=b.S)(Q:w.M.length=t.M.length)(A:∀q:Nat,nth w.M q=if(q:Int)=b.S then⟨2,(nth t.M a.S.toNat).j⟩ else nth t.M q):Pg w F sp la:=by
 have c:∀q:Nat,(nth w.M q).y≠0↔(nth t.M q).y≠0:=ψ
 have R:0<=a.S:=by have:=k.sok a G;grind[bh]
 refine⟨λl r p n q hq S D=>?_,λp n=>by rw[Q];exact g.bnd p n,λp n=>(c p).trans (g.own p ω),λp n=>(c p).trans (g.fre p ω),λs H u J T h=>?_⟩
 ·have E:¬(p:Int)=b.S:=λe=>k.apart N r n e.symm
  rw[A p,CI E,A q]at D;rw[c]at S;by_cases e:(q:Int)=b.S
  ·rw[CJ e]at D
   have K:=g.one l r p n a.S.toNat (by have:=g.bnd _ (eP (la:=la) G);omega) C D
   grind[pm.apart]
  grind[Pg.one]
 have U:0<=s.S:=by have:=k.sok s H;grind[bh]
 have V:0<=u.S:=by have:=k.sok u J;grind[bh]
 have L:∀x∈sp,∀y∈sp,x.S=y.S->x=y:=λx B y W e=>by
  obtain⟨i,X,rfl⟩:=b9 B;obtain⟨j,Y,rfl⟩:=b9 W;rw[hJ (f:=(·.S)) k.nd X Y e]
 have d:∀x∈sp,(nth t.M x.S.toNat).y≠0:=λx B=>by
  have Z:0<=x.S:=by have:=k.sok x B;grind[bh]
  refine(g.own x.S.toNat (by have:=g.bnd _ (eP (la:=la) B);omega)).2 ?_
  grind[eP]
 rw[A,A]at h;simp only[show((s.S.toNat:Nat):Int)=s.S by omega,show((u.S.toNat:Nat):Int)=u.S by omega]at h;by_cases M:s.S=b.S
 ·rw[CJ M,CI ω]at h
  have K:=o u.S.toNat (d u J) h.symm
  grind[k4]
 rw[CI M]at h;by_cases eu:u.S=b.S
 ·rw[CJ eu]at h
  have K:=o s.S.toNat (d s H) h
  grind
 grind[Pg.mesh]
def over(j:cH):Bool:=decide (j.b6=4\/j.b6=5)
def gY(k:ah)(j:cH):ah × cH:=if jmay k j=true then jstep k j else(k,j)
def mStep(h:ac):ac:={h with G:=(gY h.G h.a9).1,a3:=if over (gY h.G h.a9).2=true then false else h.a3,a9:=if over (gY h.G h.a9).2=true then⟨⟨0,0,[]⟩,0,0⟩ else(gY h.G h.a9).2}
def J7(h:ac):Bool:=decide ((gY h.G h.a9).2.b6=4)
theorem gr{j:cH} : kf j=true↔fY j.g=true/\0<=j.b6/\j.b6<=5/\0<=j.o/\j.o<=j.g.V.length:=by grind[kf]
theorem ku{p:cj}(h:fY p=true)(a:i<p.V.length):0<=nth p.V i/\nth p.V i<=15:=by grind[fE,fY,oZ]
structure JS(h:ac)(k:ah)(j:cH):Prop where
 ker:aG k=true
 len:k.F.O.M.length=(tbl h).M.length
 pg:j.b6≠4\/JI h->Pg k.F.O h.e h.H h.J
 ph:0<=j.b6/\j.b6<=5
 plan:j.g=h.a9.g
 nxt:0<=j.o/\j.o<=j.g.V.length
 eq:j.b6≠4->tEq (tbl h) k.F.O
 calls:h.G.b<=k.b/\k.b<=h.G.b+1/\k.d=h.G.d
def AG(k:ah)(p m:Int):(ju k p m).1.b=k.b+1/\(ju k p m).1.d=k.d:=by
 unfold ju;split<;>exact⟨rfl,rfl⟩
def TC(k:ah)(p o:Int):(zd k p o).1.b=k.b+1/\(zd k p o).1.d=k.d:=by
 unfold zd;split
 ·exact⟨rfl,rfl⟩
 obtain⟨-,a,b,-⟩:=rS (yG (dO k) p.toNat ⟨2,(nth k.F.O.M o.toNat).j⟩) (nth k.F.O.M p.toNat).j;simp only[a,b];exact⟨rfl,rfl⟩
theorem JS.of(c:bf h E)(H:h.a3=true):JS h (gY h.G h.a9).1 (gY h.G h.a9).2:=by
 obtain⟨N,-,-⟩:=c.job H;obtain⟨J,t,u,n,o⟩:=gr.1 N;unfold gY;split
 case isFalse=>exact⟨c.ker,rfl,λ_=>c.pg,⟨t,u⟩,rfl,⟨n,o⟩,λ_=>tEq.refl _,Z9 _,ψ,rfl⟩
 rename_i d;unfold jmay at d;simp only[I0,C0]at d;obtain⟨⟨-,A⟩,-,w,p,O⟩:=d;have fin:∀(k:ah)(j:cH),aG k=true->tEq (tbl h) k.F.O->0<=j.b6/\j.b6<=5->j.g=h.a9.g->0<=j.o/\j.o<=j.g.V.length->h.G.b<=k.b/\k.b<=h.G.b+1/\k.d=h.G.d->JS h k j:=
  λk j P B Q R S T=>⟨P,B.1,λ_=>c.pg.tEq B,Q,R,S,λ_=>B,T⟩
 have K:=(aF.1 c.ker).2.2.2.2;unfold jstep;split
 ·obtain⟨g,r⟩:=Lc c.ker A p (m:=1) (.inl rfl)
  obtain⟨y,C⟩:=AG h.G h.a9.g.b3 1;refine fin _ _ g r ?_ rfl ⟨n,o⟩ ψ
  grind
 split
 ·split
  ·exact fin _ _ c.ker (tEq.refl _) ψ rfl ⟨n,o⟩ ψ
  have l:=ku J (i:=h.a9.o.toNat) ω;refine fin _ _ (Uo c.ker p w l) (tEq.refl _) ⟨t,u⟩ rfl ψ ⟨Z9 _,by show h.G.b<=h.G.b+1;omega,rfl⟩
 split
 ·have D:h.a9.g.b3≠h.a9.g.b1:=ψ
  have g:=WD c.ker A p w D;obtain⟨y,C⟩:=TC h.G h.a9.g.b3 h.a9.g.b1;cases e:(zd h.G h.a9.g.b3 h.a9.g.b1).2 with
  | false=>
   rw[CI ϕ];refine fin _ _ g (tEq.of ?_) ψ rfl ⟨n,o⟩ ψ;rw[WB e];rfl
  | true=>
   rw[CJ rfl];obtain⟨U,m2,m3,-⟩:=bQ c.ker p;obtain⟨n1,n2,n3,-⟩:=bQ c.ker w;have f:=UE c.ker p e;refine⟨g,(f 0).1,λV=>?_,ψ,rfl,⟨n,o⟩,ψ,by rw[y];omega,by rw[y];omega,C⟩;have W:JI h:=ψ
   obtain⟨a,X,b,Y,M,F,G⟩:=W.sp H;refine c.pg.on c.L X Y G (by grind[JI.sk]) (by rw[M];show(nth h.G.F.O.M _).y≠0;grind) (by rw[F];show(nth h.G.F.O.M _).y≠0;grind) (by rw[F];exact U) (f 0).1 λq=>?_
   rw[(f q).2,F,M];rfl
 split
 ·split
  ·rename_i Z
   have l:=ku J (i:=(h.a9.o - 1).toNat) ω;have hk0:=(bQ c.ker w).1;obtain⟨g,r⟩:=Q4 c.ker (a:=h.a9.g.b1*16+nth h.a9.g.V (h.a9.o - 1).toNat) (v:=0) ω ω;exact fin _ _ g (tEq.of r) ⟨t,u⟩ rfl ψ ⟨Z9 _,ψ,rfl⟩
  obtain⟨g,r⟩:=Lc c.ker A p (m:=2) (.inr rfl);obtain⟨y,C⟩:=AG h.G h.a9.g.b3 2;refine fin _ _ g r ?_ rfl ⟨n,o⟩ ψ
  grind
 exact fin _ _ c.ker (tEq.refl _) ⟨t,u⟩ rfl ⟨n,o⟩ ψ
theorem bf.mStep{h:ac}{E:List Int}(a:bf h E)(b:JI h)(c:h.a3=true):bf (mStep h) E/\JI (mStep h):=by
 have s:=JS.of a c;unfold Ab.mStep;generalize (gY h.G h.a9).1=k at s |-;generalize (gY h.G h.a9).2=j at s |-;cases e:over j with
 | true=>
  refine⟨a.step s.ker s.len (s.pg (.inr b)) ψ (λ_=>by simp[wb]),?_⟩;exact⟨ψ,λh=>by simp at h,ψ,ψ⟩
 | false=>
  simp only[Bool.false_eq_true,if_false];unfold over at e;simp only[I9,not_or]at e;have f:=s.eq e.1;have d:=s.ph;refine⟨a.step s.ker s.len (s.pg (.inr b)) (λ_=>⟨gr.2 ⟨by rw[s.plan];grind[gr,bf.job],s.ph.1,s.ph.2,s.nxt⟩,by rw[s.plan];exact(a.job c).2⟩) ψ,?_⟩;refine⟨ψ,λ_=>?_,λ_=>?_,λ_=>?_⟩
  ·grind[JS.plan,JI.sp]
  ·show pX k.F.O j.g.b1
   grind[JS.plan,pX.tEq,JI.sk]
  show pX k.F.O j.g.b3
  grind[JS.plan,pX.tEq,JI.sm]
def jV(k:ah)(a:Int):Int:=nth (nth k.F.W.V (au k.F.O (a / 16)).j.toNat) (a % 16).toNat
def cellsOf(k:ah)(a:Int)(n:Nat):List Int:=(List.range n).map λ(i:Nat)=>jV k (a+i)
def ng(k:ah)(a:Int)(n:Nat):(cellsOf k a n).length=n:=by simp[cellsOf]
def uB(k:ah)(a:Int)(n:Nat):cellsOf k a (n+1)=cellsOf k a n++[jV k (a+n)]:=by
 unfold cellsOf;rw[List.range_succ,IB];rfl
def xL(k:ah)(a:Int)(b:i<n):(cellsOf k a n)[i]? = some (jV k (a+i)):=by
 unfold cellsOf;rw[Z5,ID b];rfl
def zX(b:aG k=true)(p:Int):0<=(au k.F.O p).j/\(au k.F.O p).j<k.F.W.V.length:=by
 obtain⟨-,c,d,-⟩:=aF.1 b;obtain⟨e,f,g,h⟩:=aT.1 c;unfold au;split
 ·rename_i i
  have:=(bt.1 d).1 p.toNat ω;unfold m7 at this;rw[C0]at this;by_cases a:(nth k.F.O.M p.toNat).y=0
  ·have:=this.2.2.1 a;omega
  have:=this.2.2.2 a;omega
 simp only;omega
def Nc(a:aG k=true)(b:j<k.F.W.V.length):(nth k.F.W.V j).length=16/\∀i,i<16->0<=nth (nth k.F.W.V j) i/\nth (nth k.F.W.V j) i<=999:=by
 obtain⟨-,c,-⟩:=aF.1 a;obtain⟨e,f,g,d⟩:=aT.1 c;have:=d j b;unfold iU at this;rw[I0,C0,S7]at this;refine⟨this.1,λi l=>?_⟩;have h:=this.2 _ (ax (xs:=nth k.F.W.V j) (i:=i) ω);unfold jz at h;rw[I0,C0]at h;exact h.1
def FA(b:aG k=true)(a:Int):0<=jV k a/\jV k a<=999:=by
 obtain⟨c,d⟩:=zX b (a / 16);exact(Nc b (j:=(au k.F.O (a / 16)).j.toNat) ω).2 (a % 16).toNat ω
def En(h:ac)(o:bc)(a:aG h.G=true)(p:0<=o.U/\o.U<=1000000)(q:o.k<=1000000) :
  zzA 31 false [.ptr (ac.enc .R h),.val (some 4) (bc.enc .R o)] .one (aE .own (cellsOf h.G o.U o.k.toNat)):=by
 have b:=aX a;refine fO 48 [] Tryz.func31 rfl ?_ (.inr (bH _))
 refine σP ?_
 refine lp0 o.k.toNat (λi=>[(0,.iref (ac.enc .R h) 0),(3,bF (bc.enc .R o)),(5,bK (aE .own (cellsOf h.G o.U i))),(6,fN i)]) λi r=>?_
 have c:=ng h.G o.U i;by_cases t:i<o.k.toNat
 ·obtain⟨d,u⟩:=zX a ((o.U+i) / 16)
  have e:=ar (xs:=h.G.F.W.V) (i:=(au h.G.F.O ((o.U+i) / 16)).j.toNat) ω;have g:=(Nc a (j:=(au h.G.F.O ((o.U+i) / 16)).j.toNat) ω).1;have k:=ar (xs:=nth h.G.F.W.V (au h.G.F.O ((o.U+i) / 16)).j.toNat) (i:=((o.U+i) % 16).toNat) ω;have l:IntKind.i64.wrap ((o.U+(i:Int)).tdiv 16)=(o.U+i) / 16:=by rw[o8 ω];exact fH ω ω
  have n:(o.U+(i:Int)).tmod 16=(o.U+i) % 16:=dy ω
  repeat'(first|refine gE ?_|apply CT qs|apply CR l|apply CY n|apply CF (cZ h.G.F.O _ b.1.2)|apply CO d (aa e)|refine CO ω (aa k) ?_|refine Cc cx rfl kd qs rfl ?_)
  refine CP (i+1) ω ω ?_;rw[uB]
  (repeat'(first|exact tV1|rfl|exact CQ rfl (CQ (I1 (C.s ek.own) (by simp[rI,jV])) tV1)|refine CQ ?_ ?_))
 refine σE ?_
 obtain rfl:i=o.k.toNat:=ω
 rfl
def G1(h:ac)(a n:Int)(b:aG h.G=true)(q:0<=a/\a<=1000000)(r:n<=1000000) :
  zzA 36 false [ν h,.vI a,.vI n] .one (aE .own (cellsOf h.G a n.toNat)):=by
 have c:=aX b;refine fO 44 [] Tryz.func36 rfl ?_ (.inr (bH _))
 refine σP ?_
 refine lp0 n.toNat (λi=>[(1,fI a),(2,fI n),(3,bF (ac.enc .R h)),(7,bK (aE .own (cellsOf h.G a i))),(8,fN i)]) λi t=>?_
 have d:=ng h.G a i;by_cases u:i<n.toNat
 ·obtain⟨e,w⟩:=zX b ((a+i) / 16)
  have g:=ar (xs:=h.G.F.W.V) (i:=(au h.G.F.O ((a+i) / 16)).j.toNat) ω;have k:=(Nc b (j:=(au h.G.F.O ((a+i) / 16)).j.toNat) ω).1;have l:=ar (xs:=nth h.G.F.W.V (au h.G.F.O ((a+i) / 16)).j.toNat) (i:=((a+i) % 16).toNat) ω;have o:IntKind.i64.wrap ((a+(i:Int)).tdiv 16)=(a+i) / 16:=by rw[o8 ω];exact fH ω ω
  have p:(a+(i:Int)).tmod 16=(a+i) % 16:=dy ω
  repeat'(first|refine gE ?_|apply CT qs|apply CR o|apply CY p|apply CF (cG h.G.F.O _ c.1.2)|apply CO e (aa g)|refine CO ω (aa l) ?_|refine Cc cx rfl kd qs rfl ?_)
  refine CP (i+1) ω ω ?_;rw[uB]
  (repeat'(first|exact tV1|rfl|exact CQ rfl (CQ (I1 (C.s ek.own) (by simp[rI,jV])) tV1)|refine CQ ?_ ?_))
 refine σE ?_
 obtain rfl:i=n.toNat:=ω
 rfl
theorem Gf(h:(denotes sp la a).b5=1):∃i:Nat,i<sp.length/\(denotes sp la a).c7=i/\dm (nth sp i) a=true/\denotes sp la a=pz i (nth sp i) a:=by
 unfold denotes at h |-;cases e:sp.findIdx? (dm · a) with
 | some i=>
  obtain⟨b,c,-⟩:=SD.1 e;refine⟨i,b,rfl,?_,rfl⟩;rw[bk (Z3 b)];exact c
 | none=>
  grind
theorem Ks(h:(denotes sp la a).b5=3):∃i:Nat,i<la.length/\(denotes sp la a).c7=i/\bR (nth la i) a=true/\denotes sp la a = ⟨3,i,0,a - 16*(nth la i).S⟩:=by
 unfold denotes at h |-;cases e:sp.findIdx? (dm · a) with
 | some i=>
  grind[pz]
 | none=>
  rw[e]at h;simp only at h |-;cases c:la.findIdx? (bR · a) with
  | some i=>
   obtain⟨b,d,-⟩:=SD.1 c;refine⟨i,b,rfl,?_,rfl⟩;rw[bk (Z3 b)];exact d
  | none=>grind
theorem mC{n:Int}(h:0<=aP n):1<=n/\n<=8:=by grind[aP]
theorem VF{o:bc}(a:jF h o=true):0<=o.U/\o.U<=2000/\1<=o.k/\o.k<=1000:=by
 unfold jF at a;simp only[I0,IC,C0]at a;obtain⟨-,⟨c,d⟩|⟨c,d⟩⟩:=a
 ·obtain⟨i,f,b,e,-⟩:=Gf c
  rw[b,Z4]at d;unfold dm bh at e;simp only[I0,C0]at e;have:=mC (n:=o.k) ω;omega
 grind[Ks,bR,bZ]
theorem Bz(a:cz h=true):ch h=true/\gG h=true:=by grind[cz]
theorem yZ(a:cz h=true):1<=h.o/\h.o<=1000000:=by
 have:=(Bz a).1
 grind[ch]
theorem vS(c:cz h=true)(f:i<h.K.length):1<=(nth h.K i).Id/\(nth h.K i).Id<h.o/\0<=(nth h.K i).U/\(nth h.K i).U<=2000/\1<=(nth h.K i).k/\(nth h.K i).k<=1000/\∀j,j<i->(nth h.K j).Id≠(nth h.K i).Id:=by
 obtain⟨-,g⟩:=Bz c;obtain⟨n,o⟩:=yZ c;have a:=fE g f;rw[fH ω ω]at a;unfold objAt iF at a;simp only[I0,C0,Bool.not_eq_true']at a;obtain⟨⟨k,d⟩,l⟩:=a;have b:=VF l;refine⟨k.2.1,ω,b.1,b.2.1,b.2.2.1,b.2.2.2,λj p e=>?_⟩;rw[List.any_eq_false]at d;refine d (nth h.K j) ?_ (by grind[dS]);have:(h.K.take i)[j]? = some (nth h.K j):=by grind[ar]
 grind
def W8(a:cz h=true)(c:i<h.K.length)(d:j<h.K.length)(f:i≠j):(nth h.K i).Id≠(nth h.K j).Id:=by
 rcases Nat.lt_or_ge i j with b|b
 ·exact(vS a d).2.2.2.2.2.2 i b
 exact λe=>(vS a c).2.2.2.2.2.2 j ω e.symm
def uX(cs:List Int):Nat->Int
 | 0=>0
 | n+1=>(uX cs n+(n+1)*nth cs n) % 9973
theorem Pc(cs:List Int):∀n,0<=uX cs n/\uX cs n<=9972
 | 0=>by simp[uX]
 | n+1=>by grind[uX]
def nM(k:ah)(o:bc):bp:=⟨o.Id,o.k,uX (cellsOf k o.U o.k.toNat) o.k.toNat⟩
def ec(h:ac):Nat->List bp
 | 0=>[]
 | n+1=>ec h n++(h.K.filter (dS n)).map (nM h.G)
def rg{h:ac}{x:bp} : ∀{n:Nat},x∈ec h n↔∃o∈h.K,(∃m:Nat,m<n/\o.Id=m)/\nM h.G o=x
 | 0=>by simp[ec]
 | n+1=>by
  rw[ec,I5,rg,O8];simp only[S8,dS,C0];constructor
  ·rintro(⟨o,a,⟨m,d,b⟩,c⟩|⟨o,⟨a,d⟩,b⟩)
   ·exact⟨o,a,⟨m,ω,b⟩,c⟩
   exact⟨o,a,⟨n,ω,d⟩,b⟩
  rintro⟨o,a,⟨m,d,b⟩,c⟩
  rcases Nat.lt_or_ge m n with e|e
  ·exact .inl ⟨o,a,⟨m,e,b⟩,c⟩
  obtain rfl:m=n:=ω
  exact .inr ⟨o,⟨a,b⟩,c⟩
theorem rZ(a:cz h=true):∀o∈h.K,1<=o.Id/\o.Id<h.o:=λo b=>by
 obtain⟨j,c⟩:=List.mem_iff_getElem?.1 b;have:=vS a (C4.1 c).1
 grind[bk]
theorem vZ(n:Nat):∀(l:List bc),(l.filter λo:bc=>decide (o.Id<((n+1:Nat):Int))).length=(l.filter λo:bc=>decide (o.Id<(n:Int))).length+(l.filter (dS n)).length
 | []=>rfl
 | o::l=>by
  have a:=vZ n l
  grind[dS]
theorem mY{h:ac}(a:∀o∈h.K,0<=o.Id):∀n:Nat,(ec h n).length=(h.K.filter λo:bc=>decide (o.Id<(n:Int))).length
 | 0=>by
  rw[List.filter_eq_nil_iff.2 ψ];rfl
 | n+1=>by
  rw[ec,C6,Z1,mY a n,vZ]
theorem Mg(a:∀o∈h.K,0<=o.Id)(n:Nat):(ec h n).length<=h.K.length:=by grind[mY]
theorem vg{h:ac}{n:Nat}(a:∀o∈h.K,o.Id<n):∀m:Nat,ec h (n+m)=ec h n
 | 0=>rfl
 | m+1=>by
  rw[<-Nat.add_assoc,ec,vg a m,List.filter_eq_nil_iff.2 (λo b=>by grind[dS])];simp
def gI(h:ac):List bp:=if cz h then ec h h.o.toNat else []
theorem G7(a:cz h=true)(c:n<=h.o)(d:h.K.length<=(ec h n).length\/h.o<=n):ec h n=gI h:=by
 have e:=rZ a;have b:=yZ a;have f:∀o∈h.K,o.Id<n:=by grind[mY,List.length_filter_eq_length_iff]
 unfold gI;rw[CJ a];obtain⟨m,g⟩ : ∃m,h.o.toNat=n+m:=⟨h.o.toNat - n,ω⟩
 grind[vg]
theorem Kk(a:cz h=true):ec h 1=[]:=by
 have b:=rZ a
 grind[List.filter_eq_nil_iff,ec,dS]
theorem KO(a:cz h=true):(gI h).length=h.K.length:=by
 have b:=rZ a
 grind[mY,List.length_filter_eq_length_iff,gI]
def YE{α:Type}[Inhabited α](f:α->Int)(xs:List α):Nat->Int
 | 0=>0
 | i+1=>YE f xs i+f (nth xs i)
def bor(n m:Int):Int:=((n.toNat ||| m.toNat:Nat):Int)
def r6(sp:List a8)(p:Int)(b:Int):Nat->Int
 | 0=>b
 | j+1=>if(nth sp j).S=p then bor (r6 sp p b j) (nth sp j).b0 else r6 sp p b j
def iP(sp:List a8)(ps:List Int)(b:Int):Nat->Int
 | 0=>b
 | k+1=>r6 sp (nth ps k) (iP sp ps b k) sp.length
def ep(h:ac)(i:Nat):Int:=iP h.H (aS h (nth h.H i).S) (nth h.H i).b0 (aS h (nth h.H i).S).length
def Mz{n:Int}(h1:0<=n/\n<=65535)(h2:0<=m/\m<=65535):0<=bor n m/\bor n m<=65535:=by
 have a:n.toNat ||| m.toNat<2 ^ 16:=Nat.or_lt_two_pow ω ω
 unfold bor;omega
theorem nw(h:∀s∈sp,bh s=true)(a:j<sp.length):0<=(nth sp j).b0/\(nth sp j).b0<=65535:=by
 have b:=h _ (ax a);have c:=MU (nth sp j).a
 grind[bh]
theorem yR{sp:List a8}(h:∀s∈sp,bh s=true){p b:Int}(a:0<=b/\b<=65535):∀j,j<=sp.length->0<=r6 sp p b j/\r6 sp p b j<=65535
 | 0,_=>a
 | j+1,d=>by
  have c:=yR h (p:=p) a j ω;simp only[r6];split
  ·exact Mz c (nw h ω)
  exact c
def mJ{sp:List a8}(h:∀s∈sp,bh s=true){ps:List Int}{b:Int}(a:0<=b/\b<=65535):∀k,0<=iP sp ps b k/\iP sp ps b k<=65535
 | 0=>a
 | k+1=>by simp only[iP];exact yR h (mJ h a k) _ (O5 _)
theorem pF{i:Int}(a:0<=b)(c:0<=i/\i<=15):bg b i=b.toNat.testBit i.toNat:=by grind[bg]
theorem M5{n i:Int}(b:0<=n)(c:0<=m)(a:0<=i/\i<=15):bg (bor n m) i=(bg n i || bg m i):=by
 rw[pF (by unfold bor;omega) a,pF b a,pF c a];unfold bor
 simp_all
theorem Jk{sp:List a8}(h:∀s∈sp,bh s=true){p b i:Int}(a:0<=b/\b<=65535)(c:0<=i/\i<=15):∀j,j<=sp.length->(bg (r6 sp p b j) i=true↔bg b i=true\/∃q,q<j/\(nth sp q).S=p/\bg (nth sp q).b0 i=true)
 | 0,_=>by simp[r6]
 | j+1,d=>by
  have e:=Jk h (p:=p) a c j ω
  grind[yR,nw,M5,r6]
theorem EK{sp:List a8}(h:∀s∈sp,bh s=true){ps:List Int}{b i:Int}(d:0<=b/\b<=65535)(f:0<=i/\i<=15):∀k,(bg (iP sp ps b k) i=true↔bg b i=true\/∃u,u<k/\∃q,q<sp.length/\(nth sp q).S=nth ps u/\bg (nth sp q).b0 i=true)
 | 0=>by simp[iP]
 | k+1=>by
  have g:=EK h (ps:=ps) d f k;have j:=mJ h (ps:=ps) d k;simp only[iP];rw[Jk h j f _ (O5 _),g];constructor
  ·rintro((e|⟨u,c,a⟩)|⟨q,c,a⟩)
   ·exact .inl e
   ·exact .inr ⟨u,ω,a⟩
   exact .inr ⟨k,ω,q,c,a⟩
  rintro(e|⟨u,c,a⟩)
  ·exact .inl (.inl e)
  by_cases l:u=k
  ·grind
  exact .inl (.inr ⟨u,ω,a⟩)
def kW(p:α->Bool)(xs:List α):Nat:=(xs.findIdx? p).getD xs.length
def kC(p:α->Bool)(xs:List α)(y:α):List α:=xs.take (kW p xs)++y::xs.drop (kW p xs)
theorem VZ(p:α->Bool)(xs:List α):kW p xs<=xs.length:=by
 unfold kW;cases e:xs.findIdx? p with
 | none=>exact O5 _
 | some i=>grind[SD]
theorem mf(p:α->Bool)(xs:List α)(y:α):(kC p xs y).Perm (y::xs):=by grind[List.perm_middle,List.take_append_drop,kC]
theorem dU{p:α->Bool}{xs:List α}{y z:α} : z∈kC p xs y↔z=y\/z∈xs:=by grind[mf]
theorem nl{p:α->Bool}{xs:List α}(b:i<=xs.length)(a:∀(j:Nat)(z:α),j<i->xs[j]? = some z->p z=false)(c:∀z,xs[i]? = some z->p z=true):kW p xs=i:=by
 unfold kW;by_cases e:i<xs.length
 ·rw[yK (Z3 e) ψ a];rfl
 grind[Gm]
theorem ne{f:α->Int}{xs:List α}{y:α}(h:xs.Pairwise λa b=>f a<f b)(g:∀z∈xs,f z≠f y):(kC (λz=>decide (f y<=f z)) xs y).Pairwise λa b=>f a<f b:=by
 have k:∀z∈xs.drop (kW (λz=>decide (f y<=f z)) xs),f y<f z:=λz c=>by
  obtain⟨j,d,rfl⟩:=List.mem_drop_iff_getElem.1 c;have l:=g _ (List.getElem_mem d);cases e:xs.findIdx? (λz=>decide (f y<=f z)) with
  | none=>
   grind[kW]
  | some i=>
   grind[SD,List.pairwise_iff_getElem,kW]
 have n:∀z∈xs.take (kW (λz=>decide (f y<=f z)) xs),f z<f y:=λz c=>by
  obtain⟨j,d,rfl⟩:=List.mem_take_iff_getElem.1 c;unfold kW at d;cases e:xs.findIdx? (λz=>decide (f y<=f z)) with
  | none=>
   grind
  | some i=>
   grind[SD]
 unfold kC
 grind[List.pairwise_cons]
def io(b i:Int):Int:=((b.toNat ||| 2 ^ i.toNat:Nat):Int)
def sA(s:a8)(i:Int):a8:={s with b0:=io s.b0 i}
theorem Am(b i:Int)(j:Nat):(io b i).toNat.testBit j=(b.toNat.testBit j || decide (i.toNat=j)):=by
 unfold io;rw[Z4,Nat.testBit_or,Nat.testBit_two_pow]
theorem LM{i:Int}(a:0<=b)(c:0<=i/\i<=15)(j:Int):bg (io b i) j=true↔bg b j=true\/j=i:=by grind[kU,Am,io]
theorem gQ{k:Int}(h:0<=k/\k<=3):lim k=2 ^ (slots k).toNat - 1/\0<=slots k/\slots k<=16/\slots k*csz k=16:=by
 obtain rfl|rfl|rfl|rfl:k=0\/k=1\/k=2\/k=3:=ω
 all_goals decide
theorem GW(h:bh s=true){i:Int}(k:0<=i/\i<slots s.a):bh (sA s i)=true:=by
 have b:=aJ h;obtain⟨c,l,o,-⟩:=gQ b.2.2;unfold bh at h;rw[C0]at h;obtain⟨d,e,f,g,p,a⟩:=h;refine O0 ⟨d,e,f,g,by show 0<=io s.b0 i;grind[io],?_⟩;show io s.b0 i<=lim s.a;rw[c]at a |-;have j:((2 ^ (slots s.a).toNat:Nat):Int)=(2:Int) ^ (slots s.a).toNat:=by norm_cast
 rw[<-j]at a |-;have:=Nat.or_lt_two_pow (x:=s.b0.toNat) (y:=2 ^ i.toNat) (n:=(slots s.a).toNat) ω (Nat.pow_lt_pow_right ω ω)
 grind[io]
theorem Qv{u:a8}{i:Int}(c:0<=i/\i<slots s.a)(k:bg u.b0 i=false)(h:meshable s u=true):meshable (sA s i) u=true:=by
 unfold meshable at h |-;simp only[I0,C0]at h |-;obtain⟨⟨a,b⟩,d,e,l⟩:=h;have f:=aJ a;obtain⟨n,o,p,-⟩:=gQ f.2.2;have g:=eA b;refine⟨⟨GW a c,b⟩,d,e,?_⟩;refine Nat.eq_of_testBit_eq λj=>?_
 grind[Am,kU,sA]
theorem w5(h:bh s=true){i:Int}(c:0<=i/\i<slots s.a)(b:Int):gk (sA s i) b↔gk s b\/b=16*s.S+i*csz s.a:=by
 have a:=aJ h;obtain⟨d,e,f,g⟩:=gQ a.2.2;have j:=dd a.2.2;unfold gk
 grind[LM,eA,sA]
def Q9(k:Int)(a:i<sp.length):(sp.set i (sA (nth sp i) k)).map (·.S)=sp.map (·.S):=by
 rw[CC];refine List.ext_getElem ϕ λj b c=>?_
 rw[List.getElem_set];split
 ·rename_i e;subst e
  rw[List.getElem_map];show(nth sp i).S=_;rw[bk (Z3 a)]
 rfl
def jZ.setS(p:pm sp la)(g:i<sp.length){k:Int}(h:0<=k/\k<slots (nth sp i).a)(b c:Int):jZ (sp.set i (sA (nth sp i) k)) b c↔jZ sp b c\/(b=16*(nth sp i).S+k*csz (nth sp i).a/\(c<0\/(nth sp i).a=c)):=by
 have d:=p.sok _ (ax g);constructor
 ·rintro⟨s,l,f,a⟩
  rcases jv l with rfl|⟨j,n,q,rfl⟩
  ·rcases(w5 d h b).1 f with o|o
   ·exact .inl ⟨_,ax g,o,a⟩
   exact .inr ⟨o,a⟩
  exact .inl ⟨_,ax n,f,a⟩
 rintro(⟨s,l,f,a⟩|⟨f,a⟩)
 ·obtain⟨j,n,rfl⟩:=b9 l
  by_cases e:j=i
  ·subst e
   exact⟨_,j9 _ g,(w5 d h b).2 (.inl f),a⟩
  exact⟨_,lv _ n e,f,a⟩
 exact⟨_,j9 _ g,(w5 d h b).2 (.inr f),a⟩
theorem Vm(d:bf h E)(g:i<h.H.length){k:Int}(o:0<=k/\k<=15)(b:bg (ep h i) k=false):bg (nth h.H i).b0 k=false/\∀u∈h.H,(nth (tbl h).M u.S.toNat).j=(nth (tbl h).M (nth h.H i).S.toNat).j->bg u.b0 k=false:=by
 have e:=d.L;have p:=eA (e.sok _ (ax g));unfold ep at b;rw[<-SA,EK e.sok p o]at b;rw[not_or]at b;have q:bg (nth h.H i).b0 k=false:=by simpa using b.1
 have a:∀s∈h.H,s.S.toNat<fk h/\(nth (tbl h).M s.S.toNat).y≠0/\((s.S.toNat:Nat):Int)=s.S:=λs l=>by
  have K:=aJ (e.sok s l);have M:=d.pg.bnd s.S (eP l);have n:s.S.toNat<(tbl h).M.length:=ω
  have r:((s.S.toNat:Nat):Int)=s.S:=ω
  exact⟨n,(d.pg.own _ n).2 (by grind[eP]),r⟩
 refine⟨q,λu c t=>?_⟩;rw[<-SA];intro w;obtain⟨y,A,B⟩:=a _ (ax g);obtain⟨C,D,F⟩:=a u c;have G:u.S∈aS h (nth h.H i).S:=by
  rw[<-B,gd y A,<-F];exact fw.2 ⟨C,D,t⟩
 obtain⟨v,H,f⟩:=b9 G;obtain⟨j,J,rfl⟩:=b9 c;exact b.2 ⟨v,H,j,J,f.symm,w⟩
theorem bf.take{k sd:Int}(d:bf h E)(r:i<h.H.length)(F:0<=k/\k<slots (nth h.H i).a)(w:bg (ep h i) k=false)(P:0<=sd/\sd<=1073741823) :
  bf {h with c1:=sd,H:=h.H.set i (sA (nth h.H i) k)} ((16*(nth h.H i).S+k*csz (nth h.H i).a)::E):=by
 have A:=d.L;have G:=A.sok _ (ax r);have B:=aJ G;obtain⟨l1,l2,l3,l4⟩:=gQ B.2.2;have hz:=dd B.2.2;obtain⟨u1,u2⟩:=Vm d r ω w;have g:=λb c=>jZ.setS A r F b c
 have H:=Q9 k r;generalize ha:16*(nth h.H i).S+k*csz (nth h.H i).a=a at g |-;have J:¬gk (nth h.H i) a:=by
  rintro⟨-,-,-,h4⟩
  grind
 have hrange:16*(nth h.H i).S<=a/\a<=16*(nth h.H i).S+15:=ψ
 have K:¬oz h.H h.J a:=by
  rintro(⟨s,p,t,-⟩|⟨l,Q,e⟩)
  ·obtain⟨j,N,rfl⟩:=b9 p
   have:=hJ (f:=(·.S)) A.nd N r (by have a1:=t.1;have a2:=t.2.1;omega)
   grind
  exact(BS A Q).1 _ (ax r) ω
 have M:a∉E++holders h:=λO=>K ((d.mem a).1 O)
 have n:∀s∈h.H.set i (sA (nth h.H i) k),∃u∈h.H,u.S=s.S/\(s=u\/(u=nth h.H i/\s=sA u k)):=λs p=>by
  rcases jv p with rfl|⟨j,N,R,rfl⟩
  ·exact⟨_,ax r,rfl,.inr ⟨rfl,rfl⟩⟩
  grind[ax]
 generalize S:h.H.set i (sA (nth h.H i) k)=sp at g H n |-;have q:pgs sp h.J=pgs h.H h.J:=by grind[pgs]
 have T:∀u∈h.H,∃s∈sp,s.S=u.S:=λu w=>by
  have:u.S∈sp.map (·.S):=ψ
  grind
 exact {d with
   lay:=by grind[bf.lay,GW,bA]
   srs:=by
     have t:(h.H.map (·.S)).Pairwise (λa b=>a<b):=List.pairwise_map.2 d.srs
     grind
   pg:=⟨d.pg.one,by rw[q];exact d.pg.bnd,by rw[q];exact d.pg.own,d.pg.fre,λs p u w U V=>by
     obtain⟨W,X,Y,Z⟩:=n s p;obtain⟨u',hu',eu,hu2⟩:=n u w;have hf':(nth (tbl h).M W.S.toNat).j=(nth (tbl h).M u'.S.toNat).j:=by rw[Y,eu];exact V
     grind[Pg.mesh,bf.pg,k4,Qv]⟩
   nums:=by
     have:=d.nums
     grind[ch]
   oow:=λo ho=>by
     rcases d.oow o ho with⟨s,p,t,h2⟩|t
     · obtain⟨u,w,g1,C⟩:=(g o.U (aP o.k)).2 (.inl ⟨s,p,t,.inr h2⟩)
       refine .inl ⟨u,w,g1,?_⟩;rcases C with C|C
       · have:=aJ (A.sok _ p);omega
       exact C
     exact .inr t
   hca:=λc B k F b D=>(g b k).2 (.inl (d.hca c B k F b D))
   hqu:=λy hy=>(g _ _).2 (.inl (d.hqu y hy))
   hfl:=λb D=>(g _ _).2 (.inl (d.hfl b D))
   hin:=λb D=>by grind[bf.hin]
   nd:=by
     rw[List.cons_append];exact List.nodup_cons.2 ⟨M,d.nd⟩
   mem:=λb=>by
     show b∈a::E++holders h↔oz sp h.J b
     grind[bf.mem,oz]
   job:=λO=>by grind[bf.job]}
def vu(c:aD)(k:Nat):aD:=⟨c.X.set k ((nth c.X k).take ((nth c.X k).length - 1))⟩
theorem R9{l:List Int}(h:0<l.length):l=l.take (l.length - 1)++[nth l (l.length - 1)]:=by grind[gn,List.take_append_drop]
theorem bf.pop{k:Nat}(d:bf h E)(f:t<h.Q.length)(g:k<(nth h.Q t).X.length)(l:0<(nth (nth h.Q t).X k).length)(u:bB (vu (nth h.Q t) k)=true) :
  bf {h with Q:=h.Q.set t (vu (nth h.Q t) k)} (nth (nth (nth h.Q t).X k) ((nth (nth h.Q t).X k).length - 1)::E)/\jZ h.H (nth (nth (nth h.Q t).X k) ((nth (nth h.Q t).X k).length - 1)) k:=by
 have n:=R9 l;have i:=d.hca _ (ax f) k g (nth (nth (nth h.Q t).X k) ((nth (nth h.Q t).X k).length - 1)) ψ;refine⟨?_,i⟩;generalize w:nth (nth (nth h.Q t).X k) ((nth (nth h.Q t).X k).length - 1)=a at n i |-;have p:(E++holders h).Perm (a::E++holders {h with Q:=h.Q.set t (vu (nth h.Q t) k)}):=by
  refine List.perm_iff_count.2 λb=>?_
  have A:=jB (λc:aD=>c.X.flatten) b h.Q t (vu (nth h.Q t) k) f;have q:=jB (λy:List Int=>y) b (nth h.Q t).X k ((nth (nth h.Q t).X k).take ((nth (nth h.Q t).X k).length - 1)) g;rw[<-mn,<-mn]at q
  grind[vu,holders,cT]
 exact {d with
   nc:=by grind[bf.nc]
   cach:=λc e=>by grind[bf.cach]
   onu:=by show ∀o∈h.K,1<=o.Id/\o.Id<=h.o - 1/\0<=o.a1/\o.a1<=(h.Q.set t _).length - 1;rw[O2];exact d.onu
   hca:=λc e j B b r=>by grind[bf.hca,cY,ax,vu]
   hin:=λb r=>by grind[jZ.any,bf.hin]
   nd:=p.nodup_iff.1 d.nd
   mem:=λb=>by grind[bf.mem]}
def N8(a:Int)(o:bc):Bool:=decide (a<=o.U)
def addO(h:ac)(a size t:Int):ac:={h with K:=kC (N8 a) h.K ⟨h.o,a,size,t⟩,o:=h.o+1}
theorem Fr(a:ch h=true)(b:h.o<1000000):decide (0<=h.c1/\h.c1<=1073741823/\0<=h.b2/\h.b2<=1000000/\0<=h.c2/\h.c2<=1000/\1<=h.o+1/\h.o+1<=1000000)=true:=by grind[ch]
theorem bf.addO{h:ac}{E:List Int}{a size t:Int}(c:bf h (a::E))(d:Ro h.H h.J ⟨h.o,a,size,t⟩)(p:h.o<1000000)(q:0<=t/\t<=h.Q.length - 1):bf (addO h a size t) E:=by
 have i:=mf (N8 a) h.K ⟨h.o,a,size,t⟩;have n:(a::E++holders h).Perm (E++holders (Ab.addO h a size t)):=by
  have r:=i.map (·.U);refine List.perm_iff_count.2 λb=>?_
  have u:=r.count_eq b;simp only[SB,List.count_cons]at u;simp only[holders,cT,Ab.addO,ZB,List.cons_append,List.count_cons];omega
 have j:=c.nd;rw[List.cons_append]at j;obtain⟨k,-⟩:=List.nodup_cons.1 j;have l:∀o∈h.K,o.U≠a:=λo d e=>k (I5.2 (.inr (by unfold holders;grind)))
 exact {c with
   nums:=Fr c.nums p
   osr:=ne (f:=λo:bc=>o.U) (y:=⟨h.o,a,size,t⟩) c.osr l
   onu:=λo d=>by
     rcases dU.1 d with rfl|d
     · have:=c.nums
       unfold ch at this;rw[C0]at this;exact⟨ψ,by show h.o<=h.o+1 - 1;omega,q⟩
     have:=c.onu o d;exact⟨this.1,by show o.Id<=h.o+1 - 1;omega,this.2.2⟩
   oid:=by
     show((kC (N8 a) h.K ⟨h.o,a,size,t⟩).map (·.Id)).Nodup;rw[(i.map _).nodup_iff,SB];refine List.nodup_cons.2 ⟨λw=>?_,c.oid⟩;obtain⟨o,d,e⟩:=O8.1 w;have:=(c.onu o d).2.1
     grind
   oow:=λo g=>by
     rcases dU.1 g with rfl|g
     · exact d
     exact c.oow o g
   hin:=λb A=>c.hin b ψ
   nd:=n.nodup_iff.1 c.nd
   mem:=λb=>by rw[<-n.mem_iff];exact c.mem b}
end Go.Proofs.YtfdfgipemcbekaaGreatDoor.Ab
