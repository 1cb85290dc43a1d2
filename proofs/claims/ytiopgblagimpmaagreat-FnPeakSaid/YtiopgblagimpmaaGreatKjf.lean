/- Freeing: the program's smaller functions. No condition. -/
import Derived.Test.YtiopgblagimpmaaGreatKjd
import Derived.Test.YtiopgblagimpmaaGreatKje
set_option linter.unusedVariables false
set_option linter.defProp false
set_option linter.unusedSimpArgs false
set_option linter.constructorNameAsVariable false
namespace Go.Proofs.YtiopgblagimpmaaGreat.Ab
open Go.RowKit
set_option maxRecDepth 20000
set_option maxHeartbeats 4000000
theorem yL(c:aE)(k:Nat)(a:Int)(g:bF c=true)(y:k<=3):zzA 257 false [.val (some 1) (aE.enc .U c),.val none [I (k:Nat)],.val none [I a]] (.tup [some 1,none]) (H1 c k a):=by
 obtain⟨B,q⟩:=dZ g;have r:aE.sml c:=⟨ω,λl u=>by have:=q l u;show l.length<=1048576;omega⟩
 have h:=qG c k r;rw[g,O0 ω]at h;have t:=fZ c r;have j:=LA g k a;have n:=nw (nG c k a) j;have b:=pm (c:=c) (k:=k) ω;have w:=q _ (ax (xs:=c.X) (i:=k) ω);have o:=CW (nG c k a);rw[Ez]at o;have d:=KS c k a;unfold H1 at d |-;cases e:bF (nG c k a)<;>rw[e]at n
 ·have p:cput c k a=none:=by grind [cput]
  rw[p]at d |-;refine fO 35 [(4,267,[17,18,19,20,21,22,23,24,25,26,28,0,1,2,3,4,5,6,7,8,9,10,1000,1001,1002,11,12])] Tryz.func257 rfl ?_ (.inr d)
  repeat'(first|refine gP ?_|(conv=>whnf);first|with_reducible refine CB (aa b) ?_|refine C9 ?_|refine CB (eH b) ?_|refine CE rfl (eH b) rfl ?_|refine C7 (h) ?_|refine C7 (t) ?_|refine Lq.one rfl rfl (aa b) rfl (I1 rfl) rfl rfl ?_|refine CE rfl (aa b) rfl ?_|refine CN rfl rfl (eH b) rfl (I1 rfl) (show [C.s dH.own ((c.X.map (aK .own)).set k (aK .own (nth c.X k++[a])))]=_ from by simp only[List.set_cons_zero,List.set_set,X2];rfl) ?_|refine Ap.sm (aQ λ_=>rfl) rfl (by simp;omega) (by decide) (fY _ _ _) ?_|refine CJ (n) ⟨⟨rfl,o⟩,trivial⟩ ?_)
  rfl
 have p:cput c k a=some (nG c k a):=by grind [cput]
 rw[p]at d |-;rw[show(some (nG c k a)).getD c=nG c k a from rfl,Ez]at d |-;refine fO 35 [(4,267,[17,18,19,20,21,22,23,24,25,26,28,0,1,2,3,4,5,6,7,8,9,10,1000,1001,1002,11,12])] Tryz.func257 rfl ?_ (.inr d)
 repeat'(first|refine gP ?_|(conv=>whnf);first|with_reducible refine CB (aa b) ?_|refine C9 ?_|refine CB (eH b) ?_|refine CE rfl (eH b) rfl ?_|refine C7 (h) ?_|refine C7 (t) ?_|refine Lq.one rfl rfl (aa b) rfl (I1 rfl) rfl rfl ?_|refine CE rfl (aa b) rfl ?_|refine CN rfl rfl (eH b) rfl (I1 rfl) (show [C.s dH.own ((c.X.map (aK .own)).set k (aK .own (nth c.X k++[a])))]=_ from by simp only[List.set_cons_zero,List.set_set,X2];rfl) ?_|refine Ap.sm (aQ λ_=>rfl) rfl (by simp;omega) (by decide) (fY _ _ _) ?_|refine CJ (n) ⟨⟨rfl,o⟩,trivial⟩ ?_)
 rfl
theorem GQ(c:Nat)(W:World):Calls Tryz.prog 256 #[.slice none 0 c] W λe g=>∃B q h,e=.returned (.slice B 0 0)/\g=Sort.grow (W.drewN q) h:=by
 have q22:∀(w:World)(a:Option Addr)(n c b d:Nat),(binOp .eql 44 (.slice a n c) (.slice none b d)).run Tryz.prog w=.ok (.bool a.isNone) w:=λw a n c b d=>Lib.run_eql_slice_nil w _ _ a n c b d Tryz.underlying44
 go_enter Tryz.func256,Tryz.ntmps256
 go_wp2
 go_ret
 exact⟨none,0,#[],rfl,by simp[Sort.grow,World.drewN]⟩
theorem Fz(a:Addr)(c:Nat)(W:World):Calls Tryz.prog 256 #[.slice (some a) 0 c] W λe g=>∃B q h,e=.returned (.slice B 0 0)/\g=Sort.grow (W.drewN q) h:=by
 have q22:∀(w:World)(a:Option Addr)(n c b d:Nat),(binOp .eql 44 (.slice a n c) (.slice none b d)).run Tryz.prog w=.ok (.bool a.isNone) w:=λw a n c b d=>Lib.run_eql_slice_nil w _ _ a n c b d Tryz.underlying44
 go_enter Tryz.func256,Tryz.ntmps256
 go_wp2
 go_ret
 exact⟨some ⟨W.heap.size,0,none⟩,0,#[.cells #[] 190],rfl,by rw[Sort.alloc_eq_grow];rfl⟩
theorem kx(xs:List aO)(o:xs.length<=1048576):zzA 256 false [.val none (dA .U xs)] .one (dA .own xs):=by
 by_cases c:xs=[]
 ·subst c
  refine⟨⟨_,Tryz.func256,by kernel_rfl,by kernel_rfl⟩,λw S p t d=>?_⟩
  match p,d with
  | [v],⟨d,_⟩=>
   have b:=bv.rep1 (show bv w S NO none [C.s .U []] v from d);obtain⟨l,g,rfl⟩:=b.slice;have r:Calls Tryz.prog 256 #[.slice l 0 g] w λe n=>∃B q i,e=.returned (.slice B 0 0)/\n=Sort.grow (w.drewN q) i:=by
    cases l with
    | none=>grind [GQ]
    | some a=>grind [Fz]
   refine r.mono λe n ⟨B,q,i,c,j⟩=>?_
   subst j;exact⟨.slice B 0 0,c,vX w q i,NO,NO,λ_ _ h=>h.elim,λ_ _ h=>h.elim,λ_ _ h=>h.elim,rfl,row1 (.nil _ .own B trivial)⟩
 have k:xs.map (aO.enc .U)≠[]:=by simp_all
 refine fO 8 [] Tryz.func256 rfl ?_ (.inr (o6 _))
 repeat'(first|refine gP ?_|(conv=>whnf);first|refine C9 ?_|refine Nn.mk k ?_|refine CR (λ_=>rfl) (λ_=>rfl) o (by decide) ?_)
 rfl
theorem BV(q:b9)(a:aO)(u:q.a1.length<=4096)(g:gm q=true)(w:0<=a.Z/\a.Z<=3/\0<=a.Addr/\0<=a.b2)(B:∀y∈q.a1,y.b2<=a.b2)(C:∀y∈q.a1,y.Addr≠a.Addr) :
  zzA 108 false [.val (some 2) (b9.enc .U q),.val (some 3) (aO.enc .U a)] (.tup [some 2,none]) (QI q a):=by
 have b:b9.sml q:=⟨ω,λ_ _=>trivial⟩
 have l:=lQ q b;have h:=oX q b;rw[g]at h;have i:=rD q.a1 a ω;have D:q.a1.length=0\/(nth q.a1 (q.a1.length - 1)).b2<=a.b2:=by grind [ax]
 have d:lD q.a1 a=true:=by grind [lD,eB]
 rw[d]at i;have n:=(jC.1 g).2.2.2;have e:=Pa q a;have c:=Fb q.b7 (q.a1++[a]);simp only[O3,List.length_singleton]at c;have E:(q.a1++[a]).length=q.a1.length+1:=by simp
 refine fO 51 [(6,7,[28,29,30,31,32,33,34])] Tryz.func108 rfl ?_ (.inr e)
 repeat'(first|refine gP ?_|(conv=>whnf);first|refine C9 ?_|refine C7 (l) ?_|refine C7 (h) ?_|refine C7 (i) ?_|refine Ap.sm (aQ λ_=>rfl) rfl (by simp;omega) (by decide) (fY (aO.enc .own) q.a1 a) ?_)
 (conv=>whnf)
 refine Lp.fz 6 (ι:=Nat) (λk=>[(2,.G .box (b9.enc .U q)),(4,.G .box [I 0,.z]),(6,.G .box (b9.enc .U ⟨q.b7,q.a1++[a]⟩)),(7,.G .one [I (k:Nat)])]) (λk=>k<=lu q.b7 (q.a1++[a])) (λk=>lu q.b7 (q.a1++[a]) - k) 0 ?_ (W0 _) λk F=>?_
 ·(repeat'(first|exact trivial|rfl|exact CG rfl (show Pe (dN (b9.enc .own ⟨q.b7,q.a1++[a]⟩)) (b9.enc .U ⟨q.b7,q.a1++[a]⟩) by rw[b9.enc_fz];exact mu _)|refine CG ?_ ?_))
 have o:((q.a1++[a]).drop k).length<=5000:=ψ
 have p:((q.a1++[a]).take k).length<=5000:=ψ
 have j:=oJ ((q.a1++[a]).drop k) ⟨ω,λ_ _=>trivial⟩;by_cases r:k<lu q.b7 (q.a1++[a])
 ·have t:q.b7<quarCells ((q.a1++[a]).drop k) ((q.a1++[a]).drop k).length:=zB r
  repeat'(first|refine gE ?_|(conv=>whnf);first|refine C9 ?_|refine Sl.suf k rfl (by rw[C1];show k<=(q.a1++[a]).length;omega) (aQ λ_=>rfl) v4 ?_|refine C7 (j) ?_|refine C9 ?_)
  ((conv=>whnf);refine CC (k+1) ω ω ?_;(exact wB))
 obtain rfl:k=lu q.b7 (q.a1++[a]):=ω
 have t:quarCells ((q.a1++[a]).drop (lu q.b7 (q.a1++[a]))) ((q.a1++[a]).drop (lu q.b7 (q.a1++[a]))).length<=q.b7:=BY n.1 _
 repeat'(first|refine gE ?_|(conv=>whnf);first|refine C9 ?_|refine Sl.suf (lu q.b7 (q.a1++[a])) rfl (by rw[C1];show lu q.b7 (q.a1++[a])<=(q.a1++[a]).length;omega) (aQ λ_=>rfl) v4 ?_|refine CS (lu q.b7 (q.a1++[a])) rfl (by rw[C1];show lu q.b7 (q.a1++[a])<=(q.a1++[a]).length;omega) (aQ λ_=>rfl) t4 ?_|refine C7 (j) ?_|refine C7 (kx ((q.a1++[a]).take (lu q.b7 (q.a1++[a]))) ω) ?_|refine C7 (kx ((q.a1++[a]).drop (lu q.b7 (q.a1++[a]))) ω) ?_)
 rfl
def Ah(h:ac)(p:Int):zzA 187 false [.val (some 24) (ac.enc .U h),.val none [I p]] .one [B (fp h p)]:=by
 cases e:h.q
 all_goals
  have b:ac.enc .U h=(ac.enc .U h).set 18 (B h.q):=rfl;rw[e]at b;rw[b];refine fO 23 [] Tryz.func187 rfl ?_
  repeat'(first|refine gP ?_|(conv=>whnf);first|with_reducible (first|refine Bf.D (λa=>?_) (λa=>?_)|refine Bf.E (λa=>?_) (λa=>?_)|refine Bf.N (λa=>?_) (λa=>?_))|refine C9 ?_)
  all_goals exact X0 (λz=>[B z]) ((by unfold fp;rw[e];first|(simp[*];done)|(simp[*];rw[T4];simp;try omega)|(rw[T4];simp[*];try omega)))
def rV(h:ac):zzA 71 false [.val (some 24) (ac.enc .U h)] .one [I (gn h:Nat)]:=by
 refine fO 9 [] Tryz.func71 rfl ?_
 repeat'(first|refine gP ?_|(conv=>whnf);first|refine C9 ?_)
 rfl
theorem fj(c:C):Po c c:=(mu [c]).1
def cE(h:ac)(s l o:C):List C:=[.s .own (h.J.F.V.W.map (aK .own)),.s .own (h.J.F.V.k.map (rB .own)),.s .own (h.J.F.O.K.map (bp.enc .own)),I h.J.Calls,.s .own (h.J.j.map (rI .own)),.s .own (h.b.map (aC.enc .own)),s,l,o,.s .own (h.T.map (aE.enc .own)),.s .own (h.u.S.map (bL .own)),.s .own (h.u.d.map (aK .own)),I h.a5.b7,.s .own (h.a5.a1.map (aO.enc .own)),I h.b5,I h.b0,I h.c1,I h.w,B h.q,I h.y.Y.a8,I h.y.Y.a6,.s .own (h.y.Y.W.map (rI .own)),I h.y.a9,I h.y.w]
def oS(h:ac):C:=oE (h.H.map (ay.enc .own))
def oL(h:ac):C:=oE (h.M.map (aA.enc .own))
def oO(h:ac):C:=oE (h.R.map (bc.enc .own))
def cN(h:ac):List C:=cE h (oS h) (oL h) (oO h)
def Fg(rows:List (List C)):fz (oE rows)=fz (.s .own rows):=by cases rows<;>rfl
variable{rows:List (List C)}
def ox : oE rows=.s .own rows\/(rows=[]/\oE rows=.s .U []):=by cases rows with|nil=>exact .inr ⟨rfl,rfl⟩|cons=>exact .inl rfl
def R1(h:ac){s l o:C}(a:fz s=.s .U (h.H.map (ay.enc .U)))(b:fz l=.s .U (h.M.map (aA.enc .U)))(c:fz o=.s .U (h.R.map (bc.enc .U))):dN (cE h s l o)=ac.enc .U h:=by
 have d:=ac.enc_fz h;have e:dN (cE h s l o)=(((dN (ac.enc .own h)).set 6 (fz s)).set 7 (fz l)).set 8 (fz o):=rfl;rw[e,d,a,b,c];rfl
def Ru(h:ac):fz (oS h)=.s .U (h.H.map (ay.enc .U)):=(Fg _).trans (DJ _)
def Qp(h:ac):fz (oL h)=.s .U (h.M.map (aA.enc .U)):=(Fg _).trans (J9 _)
def R4(h:ac):fz (oO h)=.s .U (h.R.map (bc.enc .U)):=(Fg _).trans (Pj _)
def BG(h:ac):dN (cN h)=ac.enc .U h:=R1 h (Ru h) (Qp h) (R4 h)
def D0(h:NL rows):Qu (oE rows):=by cases rows with|nil=>exact⟨.inr rfl,trivial⟩|cons r a=>exact⟨.inl λe=>(by cases e),h⟩
def bS(h:ac):g9 (cN h):=by
 have a:=ac.enc_fr h;simp only[ac.enc,g9]at a;unfold cN cE;simp only[g9];refine⟨a.1,a.2.1,a.2.2.1,a.2.2.2.1,a.2.2.2.2.1,a.2.2.2.2.2.1,D0 ?_,D0 ?_,D0 ?_,a.2.2.2.2.2.2.2.2.2⟩
 ·exact a.2.2.2.2.2.2.1.2
 ·exact a.2.2.2.2.2.2.2.1.2
 exact a.2.2.2.2.2.2.2.2.1.2
variable{w:World}
def qQ{S Y:af}{v:Value}(h:dw w S Y (.s .own rows) v):dw w S Y (oE rows) v:=by
 cases rows with
 | cons=>exact h
 | nil=>
  cases h with
  | nil _ o a d=>exact .nil _ .U a trivial
  | own _ o g k n e rows u f d i j b c l p q r t=>simp at i;omega
variable{h:ac}
theorem LH{S Y:af}{u:Nat->Value}(b:cC w S Y (ac.enc .own h) u):cC w S Y (cN h) u:=by
 obtain⟨f,a,d,e⟩:=b;refine⟨f,λj c g=>?_,d,e⟩;have i:cN h=(((ac.enc .own h).set 6 (oS h)).set 7 (oL h)).set 8 (oO h):=rfl;rw[i]at g;by_cases k:j=8
 ·subst k
  have:c=oO h:=ψ
  rw[this];exact qQ (a 8 _ rfl)
 by_cases l:j=7
 ·subst l
  have:c=oL h:=ψ
  rw[this];exact qQ (a 7 _ rfl)
 by_cases n:j=6
 ·subst n
  have:c=oS h:=ψ
  rw[this];exact qQ (a 6 _ rfl)
 grind
def di(h:ac)(a:ac.sml h):zzA 62 false [.val (some 24) (ac.enc .U h)] .agg (cN h):=by
 obtain⟨b,c⟩:=gF h a;refine⟨b,λw S d g i=>(c w S d g i).mono λe w1 j=>?_⟩;obtain⟨v,k,l,X,S1,n,o,p,q,r⟩:=j;exact⟨v,k,l,X,S1,n,o,p,q,LH r⟩
def JU(h:ac)(s l o:C)(a:Int)(k:Nat)(v:Int)(b:0<=a):cE {h with J:=gd h.J a (k+1)} s l o=(cE {h with J:=gd h.J a k} s l o).set 0 (.s .own (((gd h.J a k).F.V.W.map (aK .own)).set (ar h.J.F.O (a / 16)).e.toNat ((aK .own (mA (nth h.J.F.V.W (jV h.J a)) (a % 16).toNat k)).set 0 (.s .own (((mA (nth h.J.F.V.W (jV h.J a)) (a % 16).toNat k).map (rI .own)).set (a % 16+k).toNat (splice (rI .own v) 0 [I 0])))))):=by
 have e:(a % 16+k).toNat=(a % 16).toNat+k:=ω
 rw[e];simp[cE,gd,S5,mA,aK,splice,jV]
 rfl
theorem jZ(h:ac)(s l o:C)(a:Int)(n:Nat)(p:aH h.J=true)(e:0<=a/\a<512)(r:0<=(ar h.J.F.O (a / 16)).e/\(ar h.J.F.O (a / 16)).e<h.J.F.V.W.length)(w:a % 16+n<=16)(y:(nth h.J.F.V.W (jV h.J a)).length=16) :
  zzB 105 false [.ptr (cE h s l o),.val none [I a],.val none [I (n:Nat)]] [.ptr (cE {h with J:=gd h.J a n} s l o),.val none [I a],.val none [I (n:Nat)]] (.tup []) []:=by
 have g:=bW p;have t:=cJ h.J.F.O (a / 16) g.1.2;have c:jV h.J a<h.J.F.V.W.length:=by unfold jV;omega
 refine fM 36 [] [] [(0,0),(0,0),(0,0)] Tryz.func105 rfl (λu q=>?_) (.inr trivial)
 repeat'(first|refine gP ?_|(conv=>whnf);first|refine C9 ?_|refine CM (by decide) ?_|refine CH (wQ e) ?_|refine CJ (t) ⟨⟨rfl,aN.enc_fz _⟩,⟨rfl,rfl⟩,trivial⟩ ?_)
 rw[show cE h s l o=cE {h with J:=gd h.J a 0} s l o by rw[Pk h a c]]
 (conv=>whnf)
 refine CD (ι:=Nat) (λk=>[(0,.G .box (cE {h with J:=gd h.J a k} s l o)),(1,.G .one [I (a)]),(2,.G .one [I ((n:Nat):Int)]),(6,.G .one [I ((ar h.J.F.O (a / 16)).e)]),(7,.G .one [I ((k:Nat):Int)])]) (λk=>k<=n) (λk=>n - k) (0) ?_ (W0 _) λk p=>?_
 ·exact wC
 have j:a.tmod 16=a % 16:=fD e.1;have b:(gd h.J a k).F.V.W[(ar h.J.F.O (a / 16)).e.toNat]? = some (mA (nth h.J.F.V.W (jV h.J a)) (a % 16).toNat k):=V3 c;by_cases B:k<n
 ·have d:=au (xs:=mA (nth h.J.F.V.W (jV h.J a)) (a % 16).toNat k) (i:=(a % 16+k).toNat) (by grind [sU])
  repeat'(first|refine gE ?_|(conv=>whnf);first|refine C9 ?_|refine CM (by decide) ?_|refine CO j ?_|refine CL r.1 (aa b) ?_|refine CE rfl (aa b) rfl ?_|refine CL ω (aa d) ?_|refine Pu.two rfl rfl (aa b) rfl rfl rfl (aa d) rfl (C3 _) (JU h s l o a k _ e.1) ?_)
  ((conv=>whnf);refine CC (k+1) ω ω ?_;(exact wC))
 obtain rfl:k=n:=ω
 repeat'(first|refine gE ?_|(conv=>whnf);first|refine C9 ?_)
 refine CK rfl rfl ?_;exact wC
theorem iy(h:ac)(r:aC)(n:Nat)(a:aH h.J=true)(j:h.J.Calls≠100000)(b:h.b.length<=1048576)(l:r.a4=n/\0<=r.At/\r.At<=1000/\n<=1000) :
  zzB 103 false [.ptr (cN h),.val (some 2) (aC.enc .U r)] [.ptr (cN {h with J:=dM h.J r.At n,b:=(bY (gn h) h.b r).getD h.b}),.val (some 2) (aC.enc .U r)] (.tup []) []:=by
 have c:=a;have e:gn h<=32:=(bt.1 (aI.1 a).2.2.1).2.2;have d:=rV {h with J:=dM h.J r.At n};rw[show gn {h with J:=dM h.J r.At n} = gn h from(gK _ _ _).1]at d;have g:=y7 (gn h:Nat) h.b r ω ⟨b,λ_ _=>trivial⟩;refine fM 44 [] [(5,272,[29,30,31,32,33,34,35,36,37,38,39,28,40,41,42,43,0,1,2,3,4,5,6,7,8,9,10,11,12,13,14,15,16,1013])] [(0,0),(0,0)] Tryz.func103 rfl (λu q=>?_) (.inr trivial)
 repeat'(first|refine gP ?_|(conv=>whnf);first|refine C9 ?_)
 (conv=>whnf)
 refine CD (ι:=Nat) (λk=>[(0,.G .box (cN {h with J:=dM h.J r.At k})),(3,.G .box (aC.enc .U r)),(4,.G .one [I ((r.At+k))])]) (λk=>k<=n) (λk=>n - k) (0) ?_ (W0 _) λk a=>?_
 ·exact wC
 by_cases o:k<n
 ·have i:=nP (dM h.J r.At k) (r.At+k) (lI c _ _) (by grind [pG])
  repeat'(first|refine gE ?_|(conv=>whnf);first|refine C9 ?_|refine CJ (i) ⟨⟨rfl,ah.enc_fz _⟩,⟨rfl,rfl⟩,trivial⟩ ?_)
  ((conv=>whnf);refine CC (k+1) ω ω ?_;(exact wC))
 obtain rfl:k=n:=ω
 repeat'(first|refine gE ?_|(conv=>whnf);first|refine C9 ?_|refine CJ (d) ⟨⟨rfl,BG _⟩,trivial⟩ ?_|refine CJ (g) ⟨⟨rfl,rfl⟩,⟨rfl,jF h.b⟩,⟨rfl,rfl⟩,trivial⟩ ?_|refine C9 ?_)
 refine CK rfl rfl ?_;exact wC
theorem DW{c a:C}(h:a=c):Po c a:=by grind [fj]
theorem Lv(k:ah)(p:Int):dM k p 1=cr k p:=by show cr k (p+((0:Nat):Int))=_;grind
theorem rN(a:h.H≠[]):cN h=cE h (.s .own (h.H.map (ay.enc .own))) (oL h) (oO h):=by grind [n9,List.map_eq_nil_iff,cN,oS]
def Qr(h:ac):oL h=.s .own (h.M.map (aA.enc .own))\/(h.M=[]/\oL h=.s .U []):=by
 rcases ox (rows:=h.M.map (aA.enc .own)) with e|⟨a,b⟩
 ·exact .inl e
 exact .inr ⟨List.map_eq_nil_iff.1 a,b⟩
variable{i:Nat}{α:Type}
theorem eX{xs:List α}(h:i<xs.length):xs≠[]:=(ψ)
theorem zb(h:ac)(i:Nat)(j:aH h.J=true)(k:h.J.Calls≠100000)(b:h.b.length<=1048576)(c:i<h.H.length)(l:h.H.length<=1048576)(o:0<=(nth h.H i).Q/\(nth h.H i).Q<=31) :
  zzB 386 false [.ptr (cN h),.val none [I (i:Nat)]] [.ptr (cN (giveP h i)),.val none [I (i:Nat)]] (.tup []) []:=by
 have d:=au c;have g:=Fs h.H i c;have a:=iy {h with H:=dele h.H i} ⟨(nth h.H i).Q,1⟩ 1 j k b ψ;rw[show dM ({h with H:=dele h.H i} : ac).J (aC.mk (nth h.H i).Q 1).At 1=cr h.J (nth h.H i).Q from Lv _ _]at a;have n:cN {h with H:=dele h.H i} = cE h (oE ((dele h.H i).map (ay.enc .own))) (oL h) (oO h):=rfl;rw[rN (eX c)];rcases ox (rows:=(dele h.H i).map (ay.enc .own)) with e|⟨-,e⟩
 all_goals
  rw[n]at a;rw[e]at g a;refine fM 28 [(492,[1,0,0]),(103,[2,0])] [] [(0,0),(0,0)] Tryz.func386 rfl (λu q=>?_) (.inr trivial)
  repeat'(first|refine gP ?_|(conv=>whnf);first|with_reducible refine CB (aa d) ?_|refine C9 ?_|refine CE rfl (aa d) rfl ?_|refine CF (g) (.inl rfl) ?_|refine CF (a) (.inl rfl) ?_)
  refine CK rfl rfl ?_;exact wB
variable{a:Int}{E:List Int}
def Me(c:bi h E)(d:i<h.H.length)(b:eS (nth h.H i) a):denotes h.H h.M a = ⟨1,i,dz (nth h.H i) a,0⟩:=by
 rw[gQ c.L d ⟨b.1,b.2.1⟩];unfold ow;rw[b.2.2.2,b.2.2.1];rfl
theorem jT(h:ac)(E:List Int)(a:Int)(b:bi h (a::E))(G:h.J.Calls≠100000):zzB 247 false [.ptr (cN h),.val none [I a]] [.ptr (cN (freeA h a)),.val none [I a]] (.tup []) []:=by
 obtain⟨g,t,H⟩:=b.at (b.hin a ψ);have J:=(b.hin a ψ).bd b;have D:=b.lens;have K:=D.spans;have M:=D.larges;unfold freeA;generalize xH h a=i at g t;have l:=b.L.sok _ (ax g);have N:=aL l;have c:=au g;have j:=kz h.H h.M a ⟨ω,λ_ _=>trivial⟩ ⟨ω,λ_ _=>trivial⟩;rw[Me b g t]at j;have w:=yO (nth h.H i) (dz (nth h.H i) a) l t.2.2.2;have P:=b.give g t;have n:=Ah (clrS h i a) (nth h.H i).Q;rw[show fp (clrS h i a) (nth h.H i).Q=fp h (nth h.H i).Q from rfl]at n;have o:i<(clrS h i a).H.length:=by grind [clrS]
 have y:(nth (clrS h i a).H i).Q=(nth h.H i).Q:=by unfold clrS;simp only[cz,true_and];rw[CA g];rfl
 have p:=zb (clrS h i a) i b.ker G (by show h.b.length<=_;grind [tY.free]) o (by grind [clrS]) (by rw[y];omega);have d:cN (clrS h i a)=cE h (.s .own ((h.H.map (ay.enc .own)).set i (ay.enc .own (kw (nth h.H i) (dz (nth h.H i) a))))) (oL h) (oO h):=by
  rw[rN (eX o)];show cE h (.s .own ((h.H.set i _).map _)) (oL h) (oO h)=_;rw[S5]
 have r:=BG (clrS h i a);rw[d]at r p;have k:((h.H.map (ay.enc .own)).set i (ay.enc .own (kw (nth h.H i) (dz (nth h.H i) a))))[i]? = some (ay.enc .own (kw (nth h.H i) (dz (nth h.H i) a))):=k7 g;rw[rN (eX g)];have B:=Qp h;unfold freeS;rcases Qr h with e|⟨C,e⟩
 all_goals
  try rw[C]at j
  rw[e]at p r B d |-;by_cases F:(kw (nth h.H i) (dz (nth h.H i) a)).a7=0
  ·cases O:fp h (nth h.H i).Q<;>rw[O]at n
   ·rw[CA ⟨F,rfl⟩]
    refine fM 64 [(386,[2,0])] [(0,11,[6,7,8,9,10,11,12,13,14,15,4]),(2,277,[20,21,22,23,24,25,26,27,28,29,30,31,32,33,34,35,36,19,37,38,39,0,1,2,3,4,5,6,7,8,9,10,11,12,13,14,15,16,17,18,19,20,21,1019]),(3,9,[40,41,42,43,44,45,46,47,5]),(4,9,[48,49,50,51,52,53,54,55,56])] [(0,0),(0,0)] Tryz.func247 rfl (λu q=>?_) (.inr trivial)
    repeat'(first|refine gB ?_|(conv=>whnf);first|refine C9 ?_|refine CJ (j) ⟨⟨rfl,dP _⟩,⟨rfl,io _⟩,⟨rfl,rfl⟩,trivial⟩ ?_|refine CJ (j) ⟨⟨rfl,dP _⟩,⟨rfl,rfl⟩,⟨rfl,rfl⟩,trivial⟩ ?_|refine CB (aa c) ?_|refine CB k ?_|refine CE rfl (aa c) rfl ?_|refine CE rfl k rfl ?_|refine C7 (w) ?_|refine C9 ?_|refine CN rfl rfl (aa c) rfl (I1 rfl) rfl ?_|refine CJ (n) ⟨⟨rfl,r⟩,⟨rfl,rfl⟩,trivial⟩ ?_|refine CF (p) (.inl rfl) ?_)
    refine CK rfl rfl ?_;exact wB
   rw[C8 (λx=>by cases x.2),d];refine fM 64 [(386,[2,0])] [(0,11,[6,7,8,9,10,11,12,13,14,15,4]),(2,277,[20,21,22,23,24,25,26,27,28,29,30,31,32,33,34,35,36,19,37,38,39,0,1,2,3,4,5,6,7,8,9,10,11,12,13,14,15,16,17,18,19,20,21,1019]),(3,9,[40,41,42,43,44,45,46,47,5]),(4,9,[48,49,50,51,52,53,54,55,56])] [(0,0),(0,0)] Tryz.func247 rfl (λu q=>?_) (.inr trivial)
   repeat'(first|refine gB ?_|(conv=>whnf);first|refine C9 ?_|refine CJ (j) ⟨⟨rfl,dP _⟩,⟨rfl,io _⟩,⟨rfl,rfl⟩,trivial⟩ ?_|refine CJ (j) ⟨⟨rfl,dP _⟩,⟨rfl,rfl⟩,⟨rfl,rfl⟩,trivial⟩ ?_|refine CB (aa c) ?_|refine CB k ?_|refine CE rfl (aa c) rfl ?_|refine CE rfl k rfl ?_|refine C7 (w) ?_|refine C9 ?_|refine CN rfl rfl (aa c) rfl (I1 rfl) rfl ?_|refine CJ (n) ⟨⟨rfl,r⟩,⟨rfl,rfl⟩,trivial⟩ ?_|refine CF (p) (.inl rfl) ?_)
   refine CK rfl rfl ?_;exact wB
  rw[C8 (λx=>F x.1),d];refine fM 64 [(386,[2,0])] [(0,11,[6,7,8,9,10,11,12,13,14,15,4]),(2,277,[20,21,22,23,24,25,26,27,28,29,30,31,32,33,34,35,36,19,37,38,39,0,1,2,3,4,5,6,7,8,9,10,11,12,13,14,15,16,17,18,19,20,21,1019]),(3,9,[40,41,42,43,44,45,46,47,5]),(4,9,[48,49,50,51,52,53,54,55,56])] [(0,0),(0,0)] Tryz.func247 rfl (λu q=>?_) (.inr trivial)
  repeat'(first|refine gB ?_|(conv=>whnf);first|refine C9 ?_|refine CJ (j) ⟨⟨rfl,dP _⟩,⟨rfl,io _⟩,⟨rfl,rfl⟩,trivial⟩ ?_|refine CJ (j) ⟨⟨rfl,dP _⟩,⟨rfl,rfl⟩,⟨rfl,rfl⟩,trivial⟩ ?_|refine CB (aa c) ?_|refine CB k ?_|refine CE rfl (aa c) rfl ?_|refine CE rfl k rfl ?_|refine C7 (w) ?_|refine C9 ?_|refine CN rfl rfl (aa c) rfl (I1 rfl) rfl ?_|refine CJ (n) ⟨⟨rfl,r⟩,⟨rfl,rfl⟩,trivial⟩ ?_|refine CF (p) (.inl rfl) ?_)
  refine CK rfl rfl ?_;exact wB
theorem sr(h:ac)(E:List Int)(t:Nat)(a:Int)(b:bi h (a::E))(y:t<h.T.length)(F:h.J.Calls≠100000):zzB 109 false [.ptr (cN h),.val none [I (t:Nat)],.val none [I a]] [.ptr (cN (recyc t h a)),.val none [I (t:Nat)],.val none [I a]] (.tup []) []:=by
 obtain⟨d,B,G⟩:=b.at (b.hin a ψ);have H:=(b.hin a ψ).bd b;have C:=b.lens;have J:=C.spans;have K:=C.larges;have o:=b.cach _ (ax y);have p:=jT h E a b F;unfold recyc;generalize xH h a=i at d B;have r:=aL (b.L.sok _ (ax d));have n:=au d;have k:=au y;have g:=kz h.H h.M a ⟨ω,λ_ _=>trivial⟩ ⟨ω,λ_ _=>trivial⟩;rw[Me b d B]at g;have j:=yL (nth h.T t) (nth h.H i).Z.toNat a o ω;rw[Int.toNat_of_nonneg r.2.2.1]at j;unfold H1 at j;have l:∀c,cN {h with T:=h.T.set t c} = (cE h (.s .own (h.H.map (ay.enc .own))) (oL h) (oO h)).set 9 (.s .own ((h.T.map (aE.enc .own)).set t (aE.enc .own c))):=λc=>by
  rw[rN (h:={h with T:=h.T.set t c}) (eX d)];show cE {h with T:=h.T.set t c} _ (oL h) (oO h)=_;simp[cE,S5]
 rw[rN (eX d)]at p |-;rcases Qr h with e|⟨w,e⟩
 all_goals
  try rw[w]at g
  rw[e]at p l |-;cases D:cput (nth h.T t) (nth h.H i).Z a with
  | none=>
   rw[D]at j;refine fM 54 [(247,[2,0])] [(0,11,[9,10,11,12,13,14,15,16,17,18,6]),(2,278,[23,24,25,26,27,28,29,30,31,32,33,34,35,36,37,38,39,40,22,41,42,7,0,1,2,3,4,5,6,7,8,9,10,11,12,13,14,15,16,17,18,19,20,21,22,1020,23]),(4,6,[44,45,46,47,48,49])] [(0,0),(0,0),(0,0)] Tryz.func109 rfl (λu q=>?_) (.inr trivial)
   repeat'(first|refine gB ?_|(conv=>whnf);first|refine C9 ?_|refine CJ (g) ⟨⟨rfl,dP _⟩,⟨rfl,io _⟩,⟨rfl,rfl⟩,trivial⟩ ?_|refine CJ (g) ⟨⟨rfl,dP _⟩,⟨rfl,rfl⟩,⟨rfl,rfl⟩,trivial⟩ ?_|refine CB (aa n) ?_|refine CB (aa k) ?_|refine CE rfl (aa n) rfl ?_|refine CE rfl (aa k) rfl ?_|refine CJ (j) ⟨⟨rfl,CW _⟩,⟨rfl,rfl⟩,⟨rfl,rfl⟩,trivial⟩ ?_|refine C9 ?_|refine CF (p) (.inl rfl) ?_)
   refine CK rfl rfl ?_;exact wB
  | some c=>
   rw[D]at j;simp only;rw[l];refine fM 54 [(247,[2,0])] [(0,11,[9,10,11,12,13,14,15,16,17,18,6]),(2,278,[23,24,25,26,27,28,29,30,31,32,33,34,35,36,37,38,39,40,22,41,42,7,0,1,2,3,4,5,6,7,8,9,10,11,12,13,14,15,16,17,18,19,20,21,22,1020,23]),(4,6,[44,45,46,47,48,49])] [(0,0),(0,0),(0,0)] Tryz.func109 rfl (λu q=>?_) (.inr trivial)
   repeat'(first|refine gB ?_|(conv=>whnf);first|refine C9 ?_|refine CJ (g) ⟨⟨rfl,dP _⟩,⟨rfl,io _⟩,⟨rfl,rfl⟩,trivial⟩ ?_|refine CJ (g) ⟨⟨rfl,dP _⟩,⟨rfl,rfl⟩,⟨rfl,rfl⟩,trivial⟩ ?_|refine CB (aa n) ?_|refine CB (aa k) ?_|refine CE rfl (aa n) rfl ?_|refine CE rfl (aa k) rfl ?_|refine CJ (j) ⟨⟨rfl,CW _⟩,⟨rfl,rfl⟩,⟨rfl,rfl⟩,trivial⟩ ?_|refine C9 ?_|refine CN rfl rfl (aa k) rfl (I1 rfl) rfl ?_)
   refine CK rfl rfl ?_;exact wB
theorem dw.frz_at{S F:af}{v:Value}{c:C}(h:dw w S F (.s .own rows) v)(D:rows[i]? = some [c]):∃V:af,(∀b o,V b o->F b o)/\dw w (λb o=>S b o\/V b o) (λb o=>F b o/\¬V b o) (.s .own (rows.set i [fz c])) v:=by
 cases h with
 | nil _ o a E=>simp at D
 | own _ o g k n B rows u f E K L d l M N O P G=>
  have Q:i<rows.length:=ψ
  obtain rfl:k=1:=by rw[<-L [c] ψ];rfl
  simp only[Nat.mul_one]at M N O P G;refine⟨f i,ψ,?_⟩;refine .own _ .own g 1 n B _ u (λq=>if q=i then NO else f q) E (by simpa using K) (λr h=>?_) d l (λq H=>?_) ψ (λq H b o p=>?_) (λq X H R T b o p t=>?_) (λJ U r W y A=>?_)
  ·grind
  ·grind
  ·split at p
   ·exact p.elim
   grind
  ·split at p
   ·exact p.elim
   split at t
   ·exact t.elim
   grind
  by_cases e:J=i
  ·subst e
   rw[V3 Q]at y;obtain rfl:=Option.some.inj y;cases U with
   | succ j=>simp at A
   | zero=>
    obtain rfl:fz c=W:=by simpa using A
    have:=(G J 0 [c] c D rfl).freeze
    grind
  grind [dw.mono]
variable{f:Nat}
theorem am.frz{P:Program}{sh:Bool}{A:List RA}{k:Kd}{c:C}(h:am P f sh A k [.s .own rows])(d:rows[i]? = some [c]):am P f sh A k [.s .own (rows.set i [fz c])]:=by
 obtain⟨l,n⟩:=h;refine⟨l,λw S p q r=>(n w S p q r).mono λe w1 t=>?_⟩;obtain⟨v,u,y,X,S1,G,H,J,B,g,D,K,L⟩:=t;obtain⟨V,M,N⟩:=(D 0 _ rfl).frz_at d;have E:∀b o,V b o->X b o:=ψ
 refine⟨v,u,y,λb o=>X b o/\¬V b o,λb o=>S1 b o\/V b o,ψ,λb o a=>?_,λb o a h=>?_,B,λj=>if j=0 then(λb o=>g 0 b o/\¬V b o) else NO,λj O F=>?_,λj F b o a=>?_,ψ⟩
 ·grind
 ·grind
 ·grind
 all_goals simp_all
def H6(c:aE)(k:Nat):aE:=⟨c.X.set k []⟩
theorem H0(c:aE)(k:Nat):aE.enc .own (H6 c k)=[.s .own ((c.X.map (aK .own)).set k (aK .own []))]:=by grind [S5,aE.enc,H6]
theorem FM(xs:List Int):([]:List Int).map (rI .U)=(xs.map (rI .U)).drop xs.length:=by simp_all
theorem Fo(xs:List Int):xs.map (rI .U)=(xs.map (rI .U)).take xs.length:=by grind [C1]
def sE{k:Nat}{r:List C}(h:k<rows.length):(rows.set k r)[k]? = some r:=V3 h
def RJ(c:aE)(k:Nat):List C:=aE.enc .own (H6 c k)++aK .own (nth c.X k)
def MB(c:aE)(k:Nat):g9 (RJ c k):=aD (aE.enc_fr _) (bQ _)
def uS(c:aE)(k:Nat)(d:bF c=true)(p:k<=3):zzA 522 false [.val (some 1) (aE.enc .U c),.val none [I (k:Nat)],.val none [I 8]] (.tup [some 1,none]) (RJ c k):=by
 obtain⟨q,e⟩:=dZ d;have g:aE.sml c:=⟨ω,λl j=>by have:=e l j;show l.length<=1048576;omega⟩
 have h:=M4 c k g;rw[d,O0 ω]at h;have n:=rR c g;have a:=pm (c:=c) (k:=k) ω;have o:=e _ (ax (xs:=c.X) (i:=k) ω);have b:=MB c k;unfold RJ at b |-;rw[H0]at b |-;refine fO 52 [(5,268,[29,30,31,32,33,34,35,36,37,38,39,41,0,1,2,3,4,5,6,7,8,9,10,11,1000,1001,1002,12,13]),(6,265,[42,43,44,45,46,47,48,49,50,0,1,2,3,4,5,6,7,8,9,1000,10,11])] Tryz.func522 rfl ?_ (.inr b)
 repeat'(first|refine gP ?_|(conv=>whnf);first|with_reducible refine CB (aa a) ?_|refine C9 ?_|refine CE rfl (aa a) rfl ?_|refine C7 (h) ?_|refine C7 (n) ?_|refine CO (z:=((nth c.X k).length:Int)) (by simp;omega) ?_|refine Sl.suf (nth c.X k).length rfl (by rw[C1];omega) (aQ λ_=>rfl) (FM _) ?_|refine CS (nth c.X k).length rfl (by rw[C1];omega) (aQ λ_=>rfl) (Fo _) ?_|refine C9 ?_|refine Fl.cp (λ_=>rfl) (λ_=>rfl) (by simp) (by decide) ?_|refine CR (λ_=>rfl) (λ_=>rfl) (by simp) (by decide) ?_|refine Fl.cp (λ_=>rfl) (λ_=>rfl) ω (by decide) ?_|refine CR (λ_=>rfl) (λ_=>rfl) ω (by decide) ?_|refine CN rfl rfl (aa a) rfl (I1 rfl) rfl ?_)
 rfl
theorem uY(c:aE)(k:Nat)(e:bF c=true)(q:k<=3):zzA 246 false [.val (some 1) (aE.enc .U c),.val none [I (k:Nat)],.val none [I 8]] (.tup [some 1,none]) (RJ c k):=by
 obtain⟨r,g⟩:=dZ e;have h:aE.sml c:=⟨ω,λl o=>by have:=g l o;show l.length<=1048576;omega⟩
 have j:=qG c k h;rw[e,O0 ω]at j;have b:=pm (c:=c) (k:=k) ω;have p:=g _ (ax (xs:=c.X) (i:=k) ω);have n:=am.frz (fZ c h) (i:=k) (c:=.s .own ((nth c.X k).map (rI .own))) (aa b);rw[show fz (.s .own ((nth c.X k).map (rI .own)))=.s .U ((nth c.X k).map (rI .U)) from(List.cons.inj (eg (nth c.X k))).1]at n;have a:k<(c.X.map (aK .own)).length:=ψ
 have d:=MB c k;unfold RJ at d |-;rw[H0]at d |-;refine fO 43 [(6,7,[30,31,32,33,34,35,36]),(7,5,[38,39,40,41,42])] Tryz.func246 rfl ?_ (.inr d)
 repeat'(first|refine gP ?_|(conv=>whnf);first|with_reducible refine CB (aa b) ?_|refine C9 ?_|refine CE rfl (aa b) rfl ?_|refine C7 (j) ?_|refine C7 (n) ?_|refine CO (z:=((nth c.X k).length:Int)) (by simp;omega) ?_|refine Sl.suf (nth c.X k).length rfl (by rw[C1];omega) (aQ λ_=>rfl) (FM _) ?_|refine CS (nth c.X k).length rfl (by rw[C1];omega) (aQ λ_=>rfl) (Fo _) ?_|refine C9 ?_|refine C7 (dE [] (by simp)) ?_|refine C7 (dE (nth c.X k) ω) ?_|refine CE rfl (sE a) rfl ?_|refine CN rfl rfl (sE a) rfl (I1 rfl) (by simp only[List.set_cons_zero,List.set_set];rfl) ?_|refine CB (sE a) ?_)
 simp only[List.set_set,X2];rfl
theorem o8{k:Int} : ∀{l s s2 b:List Int},(∀x∈s2,x∈s)->rd k s l=some b->(∀x∈s,x∈b)/\∃c,rd k s2 l=some c/\∀x∈c,x∈b
 | [],s,s2,b,h,e=>by grind [rd]
 | a::l,s,s2,b,h,e=>by
  simp only[rd]at e |-;split at e
  ·rename_i g
   rw[CA (show good k s2 a from⟨g.1,g.2.1,g.2.2.1,λx=>g.2.2.2 (h a x)⟩)];obtain⟨d,f⟩:=o8 (l:=l) (s:=s++[a]) (s2:=s2++[a]) ψ e
   grind
  cases e
theorem sY:∀{a:List (List Int)}{k:Nat}{s s2:List Int},(∀x∈s2,x∈s)->(fX k s a).isSome=true->(fX k s2 a).isSome=true
 | [],_,_,_,_,_=>rfl
 | l::a,k,s,s2,h,e=>by
  simp only[fX,eL]at e |-;split at e
  ·rename_i g
   rw[CA g];cases b:rd k s l with
   | none=>grind
   | some i=>
    rw[b]at e;obtain⟨-,c,d,f⟩:=o8 h b;rw[d];exact sY f e
  cases e
theorem Ew:∀{a:List (List Int)}{k:Nat}{s s2:List Int}(i:Nat),(∀x∈s2,x∈s)->(fX k s a).isSome=true->(fX k s2 (a.set i [])).isSome=true
 | [],_,_,_,_,_,_=>rfl
 | l::a,k,s,s2,i,h,e=>by
  simp only[fX,eL]at e;split at e
  ·rename_i g
   cases b:rd k s l with
   | none=>grind
   | some j=>
    rw[b]at e;obtain⟨n,c,d,f⟩:=o8 h b;cases i with
    | zero=>
     simp only[List.set_cons_zero,fX,eL];rw[CA ⟨by simp,g.2⟩];exact sY ψ e
    | succ i=>
     simp only[List.set_cons_succ,fX,eL];rw[CA g,d];exact Ew i f e
  cases e
theorem Rd{c:aE}(h:bF c=true)(k:Nat):bF (H6 c k)=true:=by grind [Ew,bF,H6]
def spilt(h:ac)(t k:Nat):ac:={h with T:=h.T.set t (H6 (nth h.T t) k)}
theorem bi.spilt{h:ac}{E:List Int}{t k:Nat}(d:bi h E)(i:t<h.T.length)(n:k<(nth h.T t).X.length):bi (spilt h t k) (nth (nth h.T t).X k++E):=by
 have p:(E++holders h).Perm (nth (nth h.T t).X k++E++holders (Ab.spilt h t k)):=by
  refine List.perm_iff_count.2 λb=>?_
  have r:=iB (λc:aE=>c.X.flatten) b h.T t (H6 (nth h.T t) k) i;have q:=iB (λx:List Int=>x) b (nth h.T t).X k [] n;rw[<-lh,<-lh]at q;simp only[List.count_nil]at q;simp only[H6]at r;simp only[holders,cy,Ab.spilt,H6,O5];omega
 have g:∀c∈(Ab.spilt h t k).T,c∈h.T\/c=H6 (nth h.T t) k:=λc u=>V5 u
 exact {d with
   nc:=by show(h.T.set ..).length=_;rw[U1];exact d.nc
   cach:=λc f=>by grind [bi.cach,Rd,ax]
   onu:=by show ∀o∈h.R,1<=o.Id/\o.Id<=h.w - 1/\0<=o.a0/\o.a0<=(h.T.set t _).length - 1;rw[U1];exact d.onu
   hca:=λc f j l b a=>by
     rcases g c f with f|rfl
     · exact d.hca c f j l b a
     simp only[H6,U1]at l;simp only[H6,cz]at a;by_cases e:k=j
     · grind
     rw[C8 λx=>e x.1]at a;exact d.hca _ (ax i) _ l b a
   hin:=λb a=>by
     rcases z3.1 a with a|a
     · exact(d.hca _ (ax i) k n b a).any
     exact d.hin b a
   nd:=p.nodup_iff.1 d.nd
   mem:=λb=>by rw[<-p.mem_iff];exact d.mem b}
def freeAs(h:ac)(az:List Int):ac:=az.foldl freeA h
theorem ip:∀(az:List Int)(h:ac),(freeAs h az).T=h.T/\(freeAs h az).R=h.R/\(freeAs h az).J.Calls=h.J.Calls/\(freeAs h az).u=h.u/\(freeAs h az).y=h.y/\(freeAs h az).b0=h.b0/\(freeAs h az).a5=h.a5/\(freeAs h az).J.j=h.J.j
 | [],h=>⟨rfl,rfl,rfl,rfl,rfl,rfl,rfl,rfl⟩
 | a::az,h=>by
  obtain⟨b,c,d,e,f,g,i,j⟩:=ip az (freeA h a);obtain⟨k,l,n,o,p,q,r,t⟩:=xQ h (xH h a) a;exact⟨b.trans k,c.trans l,d.trans n,e.trans o,f.trans p,g.trans q,i.trans r,j.trans t⟩
theorem bi.freeAs{E:List Int} : ∀{az:List Int}{h:ac},bi h (az++E)->bi (freeAs h az) E
 | [],_,b=>b
 | a::az,h,b=>bi.freeAs (az:=az) (h:=Ab.freeA h a) b.freeA
theorem un(h:ac)(az:List Int)(k:Nat)(a:k<az.length):freeAs h (az.take (k+1))=freeA (freeAs h (az.take k)) (nth az k):=by grind [t5,au,freeAs]
def flushN(t:Nat)(h:ac):Nat->ac × Nat
 | 0=>(h,0)
 | k+1=>(freeAs (spilt (flushN t h k).1 t k) (nth (nth (flushN t h k).1.T t).X k),(flushN t h k).2+(nth (nth (flushN t h k).1.T t).X k).length)
theorem iV{t:Nat}{h:ac}(b:bi h [])(c:t<h.T.length):∀{k:Nat},k<=4->bi (flushN t h k).1 []/\(flushN t h k).1.T.length=h.T.length/\(flushN t h k).1.J.Calls=h.J.Calls/\(flushN t h k).1.R=h.R/\(flushN t h k).1.u=h.u/\(flushN t h k).1.y=h.y/\(flushN t h k).2<=8*k
 | 0,_=>⟨b,rfl,rfl,rfl,rfl,rfl,W0 _⟩
 | k+1,e=>by
  obtain⟨d,f,g,i,j,l,n⟩:=iV b c (k:=k) ω;have a:t<(flushN t h k).1.T.length:=ω
  obtain⟨o,p⟩:=dZ (d.cach _ (ax a))
  grind [bi.spilt,ax,ip,bi.freeAs,spilt,flushN]
variable{t:Nat}
theorem vT{k:Nat}(a:bi h [])(b:t<h.T.length)(c:k<4):t<(flushN t h k).1.T.length/\bF (nth (flushN t h k).1.T t)=true/\k<(nth (flushN t h k).1.T t).X.length/\(nth (nth (flushN t h k).1.T t).X k).length<=8/\(flushN t h k).2<=8*k:=by grind [iV,bi.cach,ax,dZ]
variable{j:Nat}
theorem E1{k:Nat}(a:bi h [])(b:t<h.T.length)(c:k<4)(f:j<(nth (nth (flushN t h k).1.T t).X k).length):bi (freeAs (spilt (flushN t h k).1 t k) ((nth (nth (flushN t h k).1.T t).X k).take j)) (nth (nth (nth (flushN t h k).1.T t).X k) j::(nth (nth (flushN t h k).1.T t).X k).drop (j+1)):=by
 obtain⟨d,e⟩:=vT a b c;have g:=((iV a b (k:=k) ω).1).spilt d e.2.1
 grind [bi.freeAs,gR,List.take_append_drop]
theorem NG(h:ac)(t:Nat)(i:bi h [])(l:t<h.T.length):zzB 424 false [.ptr (lL h),.val none [I (t:Nat)]] [.ptr (lL (flushN t h 4).1),.val none [I (t:Nat)]] .one [I ((flushN t h 4).2:Nat)]:=by
 refine fM 48 [(426,[2,0])] [(6,6,[26,27,28,29,30,31])] [(0,0),(0,0)] Tryz.func424 rfl (λu q=>?_)
 repeat'(first|refine gP ?_|fail)
 (conv=>whnf)
 refine CD (ι:=Nat) (λk=>[(0,.G .box (lL (flushN t h k).1)),(1,.G .one [I ((t:Nat):Int)]),(5,.G .one [I (((flushN t h k).2:Nat):Int)]),(6,.G .one [I ((k:Nat):Int)])]) (λk=>k<=4) (λk=>4 - k) (0) ?_ (W0 _) λk D=>?_
 ·repeat'(first|exact trivial|rfl |exact DW a|exact fj _|refine CG ?_ ?_|(exact JN (by first|omega|(simp only;omega)|(simp;omega))))
 by_cases n:k<4
 ·obtain⟨o,p,E,F,G⟩:=vT i l n
  have r:=uS (nth (flushN t h k).1.T t) k p ω;have c:=λj=>E1 i l n (j:=j)
  have e:=au o;have w:(flushN t h (k+1)).1=freeAs (spilt (flushN t h k).1 t k) (nth (nth (flushN t h k).1.T t).X k):=rfl;have y:(flushN t h (k+1)).2=(flushN t h k).2+(nth (nth (flushN t h k).1.T t).X k).length:=rfl;have a:C.s dH.own ((spilt (flushN t h k).1 t k).T.map (aE.enc .own))=C.s dH.own (((flushN t h k).1.T.map (aE.enc .own)).set t (aE.enc .own (H6 (nth (flushN t h k).1.T t) k))):=by grind [S5,spilt]
  repeat'(first|refine gE ?_|(conv=>whnf);first|refine CB (aa e) ?_|refine CE rfl (aa e) rfl ?_|refine CJ (r) ⟨⟨rfl,CW _⟩,⟨rfl,rfl⟩,⟨rfl,rfl⟩,trivial⟩ ?_|refine C9 ?_|refine CN rfl rfl (aa e) rfl (I1 rfl) rfl ?_)
  generalize (flushN t h k).1=d at *;generalize (flushN t h k).2=m at *
  (conv=>whnf)
  refine CD (ι:=Nat) (λj=>[(0,.G .box (lL (freeAs (spilt d t k) ((nth (nth d.T t).X k).take j)))),(1,.G .one [I ((t:Nat):Int)]),(5,.G .one [I (((m+j):Nat):Int)]),(6,.G .one [I ((k:Nat):Int)]),(8,.G .one (aK .own (nth (nth d.T t).X k))),(9,.G .one [I ((j:Nat):Int)])]) (λj=>j<=(nth (nth d.T t).X k).length) (λj=>(nth (nth d.T t).X k).length - j) (0) ?_ (W0 _) λj H=>?_
  ·repeat'(first|exact trivial|rfl |exact DW a|exact fj _|refine CG ?_ ?_|(exact JN (by first|omega|(simp only;omega)|(simp;omega))))
  by_cases g:j<(nth (nth d.T t).X k).length
  ·have b:=au g
   have B:=Dz _ _ _ (c j g)
   repeat'(first|refine gE ?_|(conv=>whnf);first|refine CB (aa b) ?_|refine CE rfl (aa b) rfl ?_|refine CF (B) (.inl rfl) ?_)
   ((conv=>whnf);refine CC (j+1) ω ω ?_)
   rw[un _ _ _ g];exact wC
  obtain rfl:j=(nth (nth d.T t).X k).length:=ω
  rw[W4]
  repeat'(first|refine gE ?_|fail)
  ((conv=>whnf);refine CC (k+1) ω ω ?_)
  rw[w,y];exact wC
 obtain rfl:k=4:=ω
 repeat'(first|refine gE ?_|fail)
 refine CK rfl rfl ?_;exact wC
def mH(h:ac)(t:Int)(a:ac.sml h):zzA 245 false [.val (some 24) (ac.enc .U h),.val none [I t]] .one [B (decide (0<=t/\t<=h.T.length - 1)&&decide (h.J.Calls≠100000)&&jL h)]:=by
 have b:=cw h a;rw[du]at b;have d:h.T.length<=1048576:=a.2.2.2.2.2.1.1;have c:=aF t 0 (h.T.length - 1:Int);cases e:decide (0<=t/\t<=(h.T.length:Int) - 1)<;>rw[e]at c
 all_goals
  cases g:decide (h.J.Calls≠100000)
  all_goals
   simp only[C0,S4]at g;refine fO 21 [] Tryz.func245 rfl ?_
   repeat'(first|refine gP ?_|(conv=>whnf);first|with_reducible refine Bf.N (λi=>?_) (λi=>?_)|refine C7 (b) ?_|refine C7 (c) ?_)
   all_goals first|rfl|(exfalso;omega)
theorem yf(h:ac)(t:Nat)(p:ac.sml h)(q:jL h=true)(r:h.J.Calls≠100000)(c:t<h.T.length):zzA 91 false [.val (some 24) (ac.enc .U h),.val none [I (t:Nat)]] (.tup [some 24,none]) (cN (flushN t h 4).1++[I ((flushN t h 4).2:Nat)]):=by
 have e:=bi.of q;have u:=mH h t p;rw[q,O0 ω,O0 r]at u;have y:=di h p;refine fP 52 [(247,[2,0])] [] Tryz.func91 rfl ?_ (.inr (aD (bS _) ⟨trivial,trivial⟩))
 repeat'(first|refine gP ?_|(conv=>whnf);first|refine C7 (u) ?_|refine C7 (y) ?_)
 (conv=>whnf)
 refine CD (ι:=Nat) (λk=>[(1,.G .one [I ((t:Nat):Int)]),(4,.G .box rM),(6,.G .box (cN (flushN t h k).1)),(7,.G .one [I (((flushN t h k).2:Nat):Int)]),(8,.G .one [I ((k:Nat):Int)])]) (λk=>k<=4) (λk=>4 - k) (0) ?_ (W0 _) λk J=>?_
 ·repeat'(first|exact trivial|rfl |exact DW a|exact fj _|refine CG ?_ ?_|(exact JN (by first|omega|(simp only;omega)|(simp;omega))))
 by_cases w:k<4
 ·obtain⟨B,D,K,L,M⟩:=vT e c w
  have E:=uY (nth (flushN t h k).1.T t) k D ω;have g:=λj=>E1 e c w (j:=j)
  have i:=λj=>(ip ((nth (nth (flushN t h k).1.T t).X k).take j) (spilt (flushN t h k).1 t k)).2.2.1
  have l:(spilt (flushN t h k).1 t k).J.Calls≠100000:=by have:=(iV e c (k:=k) ω).2.2.1;show(flushN t h k).1.J.Calls≠100000;rw[this];exact r
  have n:=au B;have F:(flushN t h (k+1)).1=freeAs (spilt (flushN t h k).1 t k) (nth (nth (flushN t h k).1.T t).X k):=rfl;have G:(flushN t h (k+1)).2=(flushN t h k).2+(nth (nth (flushN t h k).1.T t).X k).length:=rfl;have a:C.s dH.own ((spilt (flushN t h k).1 t k).T.map (aE.enc .own))=C.s dH.own (((flushN t h k).1.T.map (aE.enc .own)).set t (aE.enc .own (H6 (nth (flushN t h k).1.T t) k))):=by grind [S5,spilt]
  repeat'(first|refine gE ?_|(conv=>whnf);first|refine CB (aa n) ?_|refine CE rfl (aa n) rfl ?_|refine CJ (E) ⟨⟨rfl,CW _⟩,⟨rfl,rfl⟩,⟨rfl,rfl⟩,trivial⟩ ?_|refine C9 ?_|refine CN rfl rfl (aa n) rfl (I1 rfl) rfl ?_)
  generalize (flushN t h k).1=d at *;generalize (flushN t h k).2=m at *
  (conv=>whnf)
  refine CD (ι:=Nat) (λj=>[(1,.G .one [I ((t:Nat):Int)]),(4,.G .box rM),(6,.G .box (cN (freeAs (spilt d t k) ((nth (nth d.T t).X k).take j)))),(7,.G .one [I (((m+j):Nat):Int)]),(8,.G .one [I ((k:Nat):Int)]),(10,.G .one (aK .own (nth (nth d.T t).X k))),(39,.c0 10 0 [] none),(40,.G .one [I ((nth (nth d.T t).X k).length)]),(41,.G .one [I ((j:Nat):Int)])]) (λj=>j<=(nth (nth d.T t).X k).length) (λj=>(nth (nth d.T t).X k).length - j) (0) ?_ (W0 _) λj N=>?_
  ·repeat'(first|exact trivial|rfl |exact DW a|exact fj _|refine CG ?_ ?_|(exact JN (by first|omega|(simp only;omega)|(simp;omega))))
  by_cases o:j<(nth (nth d.T t).X k).length
  ·have b:=au o
   have H:=jT _ _ _ (g j o) (by rw[i];exact l)
   repeat'(first|refine gE ?_|(conv=>whnf);first|refine CB (aa b) ?_|refine CE rfl (aa b) rfl ?_|refine CF (H) (.inl rfl) ?_)
   ((conv=>whnf);refine CC (j+1) ω ω ?_)
   rw[un _ _ _ o];exact wC
  obtain rfl:j=(nth (nth d.T t).X k).length:=ω
  rw[W4]
  repeat'(first|refine gE ?_|fail)
  ((conv=>whnf);refine CC (k+1) ω ω ?_)
  rw[F,G];exact wC
 obtain rfl:k=4:=ω
 repeat'(first|refine gE ?_|fail)
 rfl
def yw(s:Int):Int:=(1103515245*s+12345) % 1073741824
def Bq(s:Int):0<=yw s/\yw s<=1073741823:=by unfold yw;omega
def yR(s:Int)(b:0<=s/\s<=1073741823):zzA 548 false [.val none [I s]] .one [I (yw s)]:=by
 have a:=bj s 0 1073741823;rw[O0 b]at a;refine fO 10 [] Tryz.func548 rfl ?_
 repeat'(first|refine gP ?_|(conv=>whnf);first|refine C9 ?_|refine CO (z:=yw s) (fD ω) ?_|refine C7 (a) ?_|refine CM (by decide) ?_)
 rfl
def rz(s:Int)(b:0<=s/\s<=1073741823):zzA 83 false [.val none [I s]] .one [B true]:=by
 have a:=aF s 0 1073741823;rw[O0 b]at a;refine fO 5 [] Tryz.func83 rfl ?_
 repeat'(first|refine gP ?_|(conv=>whnf);first|refine C9 ?_|refine C7 (a) ?_)
 rfl
def za(s:Int)(a:0<=s/\s<=1073741823):zzA 456 false [.val none [I s]] .one [I (yw s)]:=by
 refine fO 10 [] Tryz.func456 rfl ?_
 repeat'(first|refine gP ?_|(conv=>whnf);first|refine C9 ?_|refine CO (z:=yw s) (fD ω) ?_|refine C7 (rz s a) ?_|refine CM (by decide) ?_)
 rfl
def ER(s n:Int):Int:=yw s / 1024 % n
variable{n:Int}
def q8(s:Int)(h:1<=n):0<=ER s n/\ER s n<n:=⟨Int.emod_nonneg _ ω,Int.emod_lt_of_pos _ ω⟩
theorem EE(s n:Int)(b:0<=s/\s<=1073741823)(c:1<=n/\n<=1000):zzA 480 false [.val none [I s],.val none [I n]] (.tup [none,none]) [I (ER s n),I (yw s)]:=by
 have d:=bj s 0 1073741823;have e:=bj n 1 1000;rw[O0 b]at d;rw[O0 c]at e;have h:=Bq s;have i:=q8 s c.1;have a:(yw s).tdiv 1024=yw s / 1024:=ψ
 have g:((yw s).tdiv 1024).tmod n=ER s n:=by rw[a];exact fD ω
 refine fO 23 [] Tryz.func480 rfl ?_ (.inr ⟨trivial,trivial,trivial⟩)
 repeat'(first|refine gP ?_|(conv=>whnf);first|refine C9 ?_|refine C7 (d) ?_|refine C7 (e) ?_|refine C7 (yR s b) ?_|refine CM (by decide) ?_|refine CM ω ?_|refine CO g ?_|refine CH (fF (by rw[a];omega) (by rw[a];omega)) ?_)
 rfl
theorem uG(s n:Int)(b:0<=s/\s<=1073741823)(c:1<=n/\n<=1000):zzA 337 false [.val none [I s],.val none [I n]] (.tup [none,none]) [I (ER s n),I (yw s)]:=by
 have d:=aF n 1 1000;rw[O0 c]at d;have g:=Bq s;have h:=q8 s c.1;have a:(yw s).tdiv 1024=yw s / 1024:=ψ
 have e:((yw s).tdiv 1024).tmod n=ER s n:=by rw[a];exact fD ω
 refine fO 23 [] Tryz.func337 rfl ?_ (.inr ⟨trivial,trivial,trivial⟩)
 repeat'(first|refine gP ?_|(conv=>whnf);first|refine C9 ?_|refine C7 (rz s b) ?_|refine C7 (d) ?_|refine C7 (za s b) ?_|refine CM (by decide) ?_|refine CM ω ?_|refine CO e ?_|refine CH (fF (by rw[a];omega) (by rw[a];omega)) ?_)
 rfl
def nO(n:Nat):List Int:=(List.range n).map λ(i:Nat)=>(i:Int)
theorem xL(n:Nat):nO (n+1)=nO n++[(n:Int)]:=by grind [List.range_succ,nO]
def sJ(n:Nat):(nO n).length=n:=by simp[nO]
def uz(xs:List Int)(i k:Nat):List Int:=(xs.set i (nth xs k)).set k (nth xs i)
def JB(xs:List Int)(i k:Nat):(uz xs i k).length=xs.length:=by simp[uz]
def en(n:Nat)(s:Int):Nat->List Int × Int
 | 0=>(nO n,s)
 | j+1=>(uz (en n s j).1 (n - 1 - j) (ER (en n s j).2 ((n - 1 - j:Nat)+1:Int)).toNat,yw (en n s j).2)
def kV(n:Nat){s:Int}(a:0<=s/\s<=1073741823):∀j,(en n s j).1.length=n/\0<=(en n s j).2/\(en n s j).2<=1073741823
 | 0=>⟨sJ n,a⟩
 | j+1=>⟨by simp only[en,JB];exact(kV n a j).1,Bq _⟩
def shuf(n:Nat)(s:Int):List Int × Int:=en n s (n - 1)
theorem FK(xs:List Int)(i k:Nat):(uz xs i k).map (rI .own)=((xs.map (rI .own)).set i (rI .own (nth xs k))).set k (rI .own (nth xs i)):=by grind [S5,uz]
theorem A4{xs:List Int}{k:Nat}(v:Int)(a:k<xs.length):((xs.map (rI .own)).set i (rI .own v))[k]? = some (rI .own (nth (xs.set i v) k)):=by
 rw[<-S5];grind [au]
def NK(n:Nat)(s:Int)(d:0<=s/\s<=1073741823)(w:n<=64):zzA 526 false [.val none [I s],.val none [I (n:Nat)]] (.tup [none,none]) (aK .own (shuf n s).1++[I (shuf n s).2]):=by
 have e:=bj s 0 1073741823;have g:=bj (n:Nat) 0 64;rw[O0 d]at e;rw[O0 ω]at g;refine fO 63 [] Tryz.func526 rfl ?_ (.inr (aD (bQ _) ⟨trivial,trivial⟩))
 repeat'(first|refine gP ?_|(conv=>whnf);first|refine C9 ?_|refine C7 (e) ?_|refine C7 (g) ?_)
 (conv=>whnf)
 refine CD (ι:=Nat) (λk=>[(0,.G .one [I (s)]),(1,.G .one [I ((n:Nat):Int)]),(6,.G .one (aK .own (nO k))),(7,.G .one [I ((k:Nat):Int)])]) (λk=>k<=n) (λk=>n - k) (0) ?_ (W0 _) λk y=>?_
 ·exact wB
 have h:=sJ k;by_cases B:k<n
 ·repeat'(first|refine gE ?_|(conv=>whnf);first|refine C9 ?_|refine Ap.sm (aQ λ_=>rfl) rfl (by simp;omega) (by decide) (fY (rI .own) (nO k) (k:Int)) ?_)
  ((conv=>whnf);refine CC (k+1) ω ω ?_)
  rw[xL];exact wB
 obtain rfl:k=n:=ω
 repeat'(first|refine gE ?_|(conv=>whnf);first|refine C9 ?_)
 (conv=>whnf)
 refine CD (ι:=Nat) (λj=>[(0,.G .one [I ((en k s j).2)]),(6,.G .one (aK .own (en k s j).1)),(8,.G .one [I (((k:Int) - 1 - j))])]) (λj=>(j<=k - 1/\j<=k)) (λj=>k - j) (0) ?_ ω λj C=>?_
 ·exact wB
 obtain⟨D,l,o⟩:=kV k d j;by_cases E:j<k - 1
 ·have q:(k:Int) - 1 - j=((k - 1 - j:Nat):Int):=ω
  have r:=q8 (en k s j).2 (n:=((k - 1 - j:Nat)+1:Int)) ω;have t:=EE (en k s j).2 ((k - 1 - j:Nat)+1:Int) ⟨l,o⟩ ω;have u:en k s (j+1)=(uz (en k s j).1 (k - 1 - j) (ER (en k s j).2 ((k - 1 - j:Nat)+1:Int)).toNat,yw (en k s j).2):=rfl;rw[q];generalize en k s j=p at *;obtain⟨xs,z⟩:=p;simp only at *;generalize k - 1 - j=i at *;have a:=au (xs:=xs) (i:=i) ω;have b:=au (xs:=xs) (i:=(ER z (i+1)).toNat) ω;have c:=A4 (xs:=xs) (i:=i) (k:=(ER z (i+1)).toNat) (nth xs (ER z (i+1)).toNat) ω
  repeat'(first|refine gE ?_|(conv=>whnf);first|refine C9 ?_|refine C7 (t) ?_|refine CL ω (aa b) ?_|refine CB (aa a) ?_|refine CE rfl (aa a) rfl ?_|refine CE rfl (aa b) rfl ?_|refine CN rfl rfl (aa a) rfl (I1 rfl) rfl ?_|refine CL ω c ?_|refine CN rfl rfl c rfl (I1 rfl) rfl ?_)
  ((conv=>whnf);refine CC (j+1) ω ω ?_)
  rw[u];simp only[aK,FK];exact wB
 obtain rfl:j=k - 1:=ω
 repeat'(first|refine gE ?_|(conv=>whnf);first|refine C9 ?_)
 rfl
def yD(n:Nat)(s:Int)(d:0<=s/\s<=1073741823)(w:n<=64):zzA 495 false [.val none [I s],.val none [I (n:Nat)]] (.tup [none,none]) (aK .own (shuf n s).1++[I (shuf n s).2]):=by
 have g:=rz s d;have e:=aF (n:Nat) 0 64;rw[O0 ω]at e;refine fO 60 [(12,270,[43,44,45,46,47,48,49,50,51,52,53,54,55,56,0,1,2,3,4,5,6,7,8,9,10,11,12,13,1002,1003,14,15])] Tryz.func495 rfl ?_ (.inr (aD (bQ _) ⟨trivial,trivial⟩))
 repeat'(first|refine gP ?_|(conv=>whnf);first|refine C9 ?_|refine C7 (g) ?_|refine C7 (e) ?_)
 (conv=>whnf)
 refine CD (ι:=Nat) (λk=>[(0,.G .one [I (s)]),(1,.G .one [I ((n:Nat):Int)]),(6,.G .one (aK .own (nO k))),(7,.G .one [I ((k:Nat):Int)])]) (λk=>k<=n) (λk=>n - k) (0) ?_ (W0 _) λk y=>?_
 ·exact wB
 have h:=sJ k;by_cases B:k<n
 ·repeat'(first|refine gE ?_|(conv=>whnf);first|refine C9 ?_|refine Ap.sm (aQ λ_=>rfl) rfl (by simp;omega) (by decide) (fY (rI .own) (nO k) (k:Int)) ?_)
  ((conv=>whnf);refine CC (k+1) ω ω ?_)
  rw[xL];exact wB
 obtain rfl:k=n:=ω
 repeat'(first|refine gE ?_|(conv=>whnf);first|refine C9 ?_)
 (conv=>whnf)
 refine CD (ι:=Nat) (λj=>[(0,.G .one [I ((en k s j).2)]),(6,.G .one (aK .own (en k s j).1)),(8,.G .one [I (((k:Int) - 1 - j))])]) (λj=>(j<=k - 1/\j<=k)) (λj=>k - j) (0) ?_ ω λj C=>?_
 ·exact wB
 obtain⟨D,l,o⟩:=kV k d j;by_cases E:j<k - 1
 ·have q:(k:Int) - 1 - j=((k - 1 - j:Nat):Int):=ω
  have r:=q8 (en k s j).2 (n:=((k - 1 - j:Nat)+1:Int)) ω;have t:=uG (en k s j).2 ((k - 1 - j:Nat)+1:Int) ⟨l,o⟩ ω;have u:en k s (j+1)=(uz (en k s j).1 (k - 1 - j) (ER (en k s j).2 ((k - 1 - j:Nat)+1:Int)).toNat,yw (en k s j).2):=rfl;rw[q];generalize en k s j=p at *;obtain⟨xs,z⟩:=p;simp only at *;generalize k - 1 - j=i at *;have a:=au (xs:=xs) (i:=i) ω;have b:=au (xs:=xs) (i:=(ER z (i+1)).toNat) ω;have c:=A4 (xs:=xs) (i:=i) (k:=(ER z (i+1)).toNat) (nth xs (ER z (i+1)).toNat) ω
  repeat'(first|refine gE ?_|(conv=>whnf);first|refine C9 ?_|refine C7 (t) ?_|refine CL ω (aa b) ?_|refine CB (aa a) ?_|refine CE rfl (aa a) rfl ?_|refine CE rfl (aa b) rfl ?_|refine CN rfl rfl (aa a) rfl (I1 rfl) rfl ?_|refine CL ω c ?_|refine CN rfl rfl c rfl (I1 rfl) rfl ?_)
  ((conv=>whnf);refine CC (j+1) ω ω ?_)
  rw[u];simp only[aK,FK];exact wB
 obtain rfl:j=k - 1:=ω
 repeat'(first|refine gE ?_|(conv=>whnf);first|refine C9 ?_)
 rfl
def rX(b:Int):Nat->Nat
 | 0=>0
 | n+1=>rX b n+(if aW b (n:Nat)=true then 1 else 0)
theorem sA(b:Int):∀n,rX b n<=n
 | 0=>C3 _
 | n+1=>by have:=sA b n;grind [rX]
def vp(b:Int)(d:b<=9223372036854775807):zzA 525 false [.val none [I b]] .one [I (rX b 16:Nat)]:=by
 refine fO 15 [] Tryz.func525 rfl ?_
 repeat'(first|refine gP ?_|fail)
 (conv=>whnf)
 refine CD (ι:=Nat) (λk=>[(0,.G .one [I (b)]),(3,.G .one [I ((rX b k:Nat):Int)]),(4,.G .one [I ((k:Nat):Int)])]) (λk=>k<=16) (λk=>16 - k) (0) ?_ (W0 _) λk g=>?_
 ·exact wB
 have h:=sA b k;by_cases i:k<16
 ·have a:=k6 b (k:Nat) d
  have c:rX b (k+1)=rX b k+(if aW b (k:Nat)=true then 1 else 0):=rfl;cases e:aW b (k:Nat)<;>rw[e]at a c
  all_goals
   repeat'(first|refine gE ?_|(conv=>whnf);first|refine C7 (a) ?_)
   ((conv=>whnf);refine CC (k+1) ω ω ?_)
   rw[c];exact wB
 obtain rfl:k=16:=ω
 repeat'(first|refine gE ?_|fail)
 rfl
def uW(b:Int)(d:b<=9223372036854775807):zzA 494 false [.val none [I b]] .one [I (rX b 16:Nat)]:=by
 refine fO 15 [] Tryz.func494 rfl ?_
 repeat'(first|refine gP ?_|fail)
 (conv=>whnf)
 refine CD (ι:=Nat) (λk=>[(0,.G .one [I (b)]),(3,.G .one [I ((rX b k:Nat):Int)]),(4,.G .one [I ((k:Nat):Int)])]) (λk=>k<=16) (λk=>16 - k) (0) ?_ (W0 _) λk g=>?_
 ·exact wB
 have h:=sA b k;by_cases i:k<16
 ·have a:=gv b (k:Nat) d
  have c:rX b (k+1)=rX b k+(if aW b (k:Nat)=true then 1 else 0):=rfl;cases e:aW b (k:Nat)<;>rw[e]at a c
  all_goals
   repeat'(first|refine gE ?_|(conv=>whnf);first|refine C7 (a) ?_)
   ((conv=>whnf);refine CC (k+1) ω ω ?_)
   rw[c];exact wB
 obtain rfl:k=16:=ω
 repeat'(first|refine gE ?_|fail)
 rfl
def pR(h:ac)(s:ay):Bool:=decide (0<rX s.a7 16)&&decide ((b6 h s.Q).length=1)
def iv(h:ac):Nat->List ay
 | 0=>[]
 | n+1=>if pR h (nth h.H n)=true then iv h n++[nth h.H n] else iv h n
def mS(h:ac):List ay:=iv h h.H.length
theorem rS(h:ac):∀n,(iv h n).length<=n
 | 0=>C3 _
 | n+1=>by have:=rS h n;grind [iv]
theorem pq(h:ac):∀{n:Nat},n<=h.H.length->∀s∈iv h n,s∈h.H
 | 0,_,s,a=>by cases a
 | n+1,b,s,a=>by
  simp only[iv]at a;split at a
  ·rcases z3.1 a with a|a
   ·exact pq h ω s a
   grind [ax]
  exact pq h ω s a
theorem Nq(h:ac)(g:FJ h)(o:h.H.length<=1000)(p:gn h<=1000)(i:∀s∈h.H,s.a7<=9223372036854775807):zzA 427 false [.val (some 24) (ac.enc .U h)] .one (cj .own (mS h)):=by
 refine fO 42 [(5,16,[13,14,15,16,17,18,19,20,21,22,23,24,25,26,27,28])] Tryz.func427 rfl ?_ (.inr (wz _))
 repeat'(first|refine gP ?_|fail)
 (conv=>whnf)
 refine CD (ι:=Nat) (λk=>[(1,.G .box (ac.enc .U h)),(3,.G .one (cj .own (iv h k))),(4,.G .one [I ((k:Nat):Int)])]) (λk=>k<=h.H.length) (λk=>h.H.length - k) (0) ?_ (W0 _) λk q=>?_
 ·exact wB
 have j:=rS h k;by_cases e:k<h.H.length
 ·have c:=au e
  have d:=vp (nth h.H k).a7 (i _ (ax e));have b:=vo h (nth h.H k).Q g;have l:=j7 h (nth h.H k).Q;have n:=sA (nth h.H k).a7 16;have a:iv h (k+1)=if pR h (nth h.H k)=true then iv h k++[nth h.H k] else iv h k:=rfl
  by_cases r:0<rX (nth h.H k).a7 16
  ·by_cases t:(b6 h (nth h.H k).Q).length=1
   ·rw[CA (by grind [pR])]at a
    repeat'(first|refine gB ?_|(conv=>whnf);first|refine CB (aa c) ?_|refine C7 (d) ?_|refine CJ (b) ⟨⟨rfl,rfl⟩,⟨rfl,rfl⟩,trivial⟩ ?_|refine C7 (b) ?_|refine C9 ?_|refine Ap.sm (aQ λ_=>rfl) rfl (by simp;omega) (by decide) (fY (ay.enc .own) (iv h k) (nth h.H k)) ?_)
    ((conv=>whnf);refine CC (k+1) ω ω ?_)
    rw[a];exact wB
   rw[C8 (by grind [pR])]at a
   repeat'(first|refine gB ?_|(conv=>whnf);first|refine CB (aa c) ?_|refine C7 (d) ?_|refine C7 (b) ?_|refine C9 ?_)
   ((conv=>whnf);refine CC (k+1) ω ω ?_)
   rw[a];exact wB
  rw[C8 (by grind [pR])]at a
  repeat'(first|refine gE ?_|(conv=>whnf);first|refine CB (aa c) ?_|refine C7 (d) ?_|refine C7 (b) ?_|refine C9 ?_)
  ((conv=>whnf);refine CC (k+1) ω ω ?_)
  rw[a];exact wB
 obtain rfl:k=h.H.length:=ω
 repeat'(first|refine gE ?_|fail)
 rfl
theorem xX(h:ac)(g:FJ h)(o:h.H.length<=1000)(p:gn h<=1000)(i:∀s∈h.H,s.a7<=9223372036854775807):zzA 388 false [.val (some 24) (ac.enc .U h)] .one (cj .own (mS h)):=by
 refine fO 32 [] Tryz.func388 rfl ?_ (.inr (wz _))
 repeat'(first|refine gP ?_|fail)
 (conv=>whnf)
 refine CD (ι:=Nat) (λk=>[(1,.G .box (ac.enc .U h)),(3,.G .one (cj .own (iv h k))),(8,.G .one (cj .U h.H)),(9,.G .one [I (h.H.length)]),(10,.G .one [I ((k:Nat):Int)])]) (λk=>k<=h.H.length) (λk=>h.H.length - k) (0) ?_ (W0 _) λk q=>?_
 ·exact wB
 have j:=rS h k;by_cases e:k<h.H.length
 ·have b:=au e
  have c:=uW (nth h.H k).a7 (i _ (ax e));have d:=jY h (nth h.H k).Q g;have l:=j7 h (nth h.H k).Q;have n:=sA (nth h.H k).a7 16;have a:iv h (k+1)=if pR h (nth h.H k)=true then iv h k++[nth h.H k] else iv h k:=rfl
  by_cases r:0<rX (nth h.H k).a7 16
  ·by_cases t:(b6 h (nth h.H k).Q).length=1
   ·rw[CA (by grind [pR])]at a
    repeat'(first|refine gB ?_|(conv=>whnf);first|refine CB (aa b) ?_|refine C7 (c) ?_|refine C7 (d) ?_|refine C9 ?_|refine Ap.sm (aQ λ_=>rfl) rfl (by simp;omega) (by decide) (fY (ay.enc .own) (iv h k) (nth h.H k)) ?_)
    ((conv=>whnf);refine CC (k+1) ω ω ?_)
    rw[a];exact wB
   rw[C8 (by grind [pR])]at a
   repeat'(first|refine gB ?_|(conv=>whnf);first|refine CB (aa b) ?_|refine C7 (c) ?_|refine C7 (d) ?_|refine C9 ?_)
   ((conv=>whnf);refine CC (k+1) ω ω ?_)
   rw[a];exact wB
  rw[C8 (by grind [pR])]at a
  repeat'(first|refine gE ?_|(conv=>whnf);first|refine CB (aa b) ?_|refine C7 (c) ?_|refine C7 (d) ?_|refine C9 ?_)
  ((conv=>whnf);refine CC (k+1) ω ω ?_)
  rw[a];exact wB
 obtain rfl:k=h.H.length:=ω
 repeat'(first|refine gE ?_|fail)
 rfl
def vR(s:ay)(c:Nat):Bool:=aW s.a7 (((c:Nat):Int) / csz s.Z)
def u5(s:ay)(n:Nat):List Int:=((List.range n).filter (vR s)).map λ(i:Nat)=>(i:Int)
variable{s:ay}
def HN{n:Nat}(h:vR s n=true):u5 s (n+1)=u5 s n++[(n:Int)]:=by
 unfold u5;rw[List.range_succ,List.filter_append,z5];simp[h]
def N4{n:Nat}(h:vR s n=false):u5 s (n+1)=u5 s n:=by
 unfold u5;rw[List.range_succ,List.filter_append,z5];simp[h]
def l8(s:ay)(n:Nat):(u5 s n).length<=n:=by
 unfold u5;rw[C1];exact U4 (List.length_filter_le _ _) (by simp)
def HY(a:bg s=true){c:Nat}(d:c<16):0<=((c:Nat):Int) / csz s.Z/\((c:Nat):Int) / csz s.Z<=15:=by
 have f:=aL a;have b:csz s.Z=1\/csz s.Z=2\/csz s.Z=4\/csz s.Z=8:=cT ω;rcases b with e|e|e|e<;>rw[e]<;>omega
def oW(s:ay)(a:bg s=true):zzA 527 false [.val (some 3) (ay.enc .U s)] .one (aK .own (u5 s 16)):=by
 have b:=ic s;rw[a]at b;have g:=aL a;have n:=cT g.2.2;refine fO 27 [(5,7,[14,15,16,17,18,19,20])] Tryz.func527 rfl ?_ (.inr (bQ _))
 repeat'(first|refine gP ?_|fail)
 (conv=>whnf)
 refine CD (ι:=Nat) (λi=>[(1,.G .box (ay.enc .U s)),(3,.G .one (aK .own (u5 s i))),(4,.G .one [I ((i:Nat):Int)])]) (λi=>i<=16) (λi=>16 - i) (0) ?_ (W0 _) λi o=>?_
 ·exact wB
 have h:=l8 s i;by_cases j:i<16
 ·have k:=HY a j
  have d:IntKind.i64.wrap (((i:Nat):Int).tdiv (csz s.Z))=((i:Nat):Int) / csz s.Z:=by rw[m7 ω];exact fF ω ω
  have c:=k6 s.a7 (((i:Nat):Int) / csz s.Z) (eG a).2;cases e:vR s i
  ·rw[show aW s.a7 (((i:Nat):Int) / csz s.Z)=false from e]at c
   repeat'(first|refine gE ?_|(conv=>whnf);first|refine C7 (b) ?_|refine C7 (fU _) ?_|refine CM ω ?_|refine CH d ?_|refine C7 (c) ?_)
   ((conv=>whnf);refine CC (i+1) ω ω ?_)
   rw[N4 e];exact wB
  rw[show aW s.a7 (((i:Nat):Int) / csz s.Z)=true from e]at c
  repeat'(first|refine gE ?_|(conv=>whnf);first|refine C7 (b) ?_|refine C7 (fU _) ?_|refine CM ω ?_|refine CH d ?_|refine C7 (c) ?_|refine CQ dL (λr l=>by rw[O1.1 l];rfl) (by simp[bn,eP]) (by simp;omega) (by simp only[C1];exact D8 (by simp;omega) (by decide)) rfl ?_)
  ((conv=>whnf);refine CC (i+1) ω ω ?_)
  rw[HN e]
  (repeat'(first|exact trivial|rfl|exact CG rfl (CG (X0 (C.s dH.own) (by simp[rI])) trivial)|refine CG ?_ ?_))
 obtain rfl:i=16:=ω
 repeat'(first|refine gE ?_|(conv=>whnf);first|refine C7 (b) ?_)
 rfl
def oK(s:ay)(a:bg s=true):zzA 436 false [.val (some 3) (ay.enc .U s)] .one (aK .own (u5 s 16)):=by
 have c:=gc s;rw[a]at c;have g:=aL a;have n:=cT g.2.2;refine fO 26 [(7,7,[13,14,15,16,17,18,19])] Tryz.func436 rfl ?_ (.inr (bQ _))
 repeat'(first|refine gP ?_|(conv=>whnf);first|refine C7 (c) ?_)
 (conv=>whnf)
 refine CD (ι:=Nat) (λi=>[(1,.G .box (ay.enc .U s)),(3,.G .one (aK .own (u5 s i))),(4,.G .one [I ((i:Nat):Int)])]) (λi=>i<=16) (λi=>16 - i) (0) ?_ (W0 _) λi o=>?_
 ·exact wB
 have h:=l8 s i;by_cases j:i<16
 ·have k:=HY a j
  have d:IntKind.i64.wrap (((i:Nat):Int).tdiv (csz s.Z))=((i:Nat):Int) / csz s.Z:=by rw[m7 ω];exact fF ω ω
  have b:=gv s.a7 (((i:Nat):Int) / csz s.Z) (eG a).2;cases e:vR s i
  ·rw[show aW s.a7 (((i:Nat):Int) / csz s.Z)=false from e]at b
   repeat'(first|refine gE ?_|(conv=>whnf);first|refine C7 (cV _) ?_|refine CM ω ?_|refine CH d ?_|refine C7 (b) ?_)
   ((conv=>whnf);refine CC (i+1) ω ω ?_)
   rw[N4 e];exact wB
  rw[show aW s.a7 (((i:Nat):Int) / csz s.Z)=true from e]at b
  repeat'(first|refine gE ?_|(conv=>whnf);first|refine C7 (cV _) ?_|refine CM ω ?_|refine CH d ?_|refine C7 (b) ?_|refine CQ dL (λr l=>by rw[O1.1 l];rfl) (by simp[bn,eP]) (by simp;omega) (by simp only[C1];exact D8 (by simp;omega) (by decide)) rfl ?_)
  ((conv=>whnf);refine CC (i+1) ω ω ?_)
  rw[HN e]
  (repeat'(first|exact trivial|rfl|exact CG rfl (CG (X0 (C.s dH.own) (by simp[rI])) trivial)|refine CG ?_ ?_))
 obtain rfl:i=16:=ω
 repeat'(first|refine gE ?_|fail)
 rfl
structure dX where
 A:Int
 B:Int
deriving DecidableEq,Inhabited
def dX.enc(_:dH)(x:dX):List C:=[I x.A,I x.B]
def fQ(o:dH)(x:List dX):List C:=[.s o (x.map (dX.enc o))]
def GM(x:List dX):g9 (fQ .own x):=⟨⟨.inl λh=>(by cases h),aX _ _ λ_ _=>⟨trivial,trivial,trivial⟩⟩,trivial⟩
def xf(xs:List dX)(pr:dX->Bool)(g:xs.length<=9223372036854775807):zzA 586 false [.val none (fQ .U xs),.fn (lv Tryz.prog (nB (some 2) (dX.enc .U) pr xs))] .one [I (cA pr xs)]:=by
 refine fO 19 [] Tryz.func586 rfl ?_
 repeat'(first|refine gP ?_|fail)
 (conv=>whnf)
 refine CD (ι:=Nat) (λi=>[(0,.G .one (fQ .U xs)),(1,.fv (lv Tryz.prog (nB (some 2) (dX.enc .U) pr xs))),(7,.G .one [I xs.length]),(8,.G .one [I (i:Nat)])]) (λi=>i<=xs.length/\∀(j:Nat)(z:dX),j<i->xs[j]? = some z->pr z=false) (λi=>xs.length - i) 0 ?_ ⟨W0 _,λj z h=>ω⟩ λi d=>?_
 ·exact wB
 obtain⟨d,b⟩:=d;by_cases c:i<xs.length
 ·obtain⟨y,a⟩ : ∃y,xs[i]? = some y:=⟨_,O2 c⟩
  repeat'(first|refine gE ?_|(conv=>whnf);first|with_reducible refine CB (aa a) ?_|refine Fv.mk (k:=.one) (rcs:=[B (pr y)]) ⟨y,C2 a,rfl,rfl,rfl⟩ ?_|refine Bf.P (λe=>?_) (λe=>?_))
  ·exact X0 (λz=>[I z]) (ep a ‹_› b).symm
  (conv=>whnf)
  refine CC (i+1) ⟨ω,iG a (by assumption) b⟩ ω ?_;exact wB
 repeat'(first|refine gE ?_|fail)
 exact X0 (λz=>[I z]) (gN ω b).symm
def rZ(xs:List dX)(pr:dX->Bool)(a:xs.length<=9223372036854775807):zzA 562 false [.val none (fQ .U xs),.fn (lv Tryz.prog (nB (some 2) (dX.enc .U) pr xs))] .one [B (xs.any pr)]:=by
 refine fO 9 [] Tryz.func562 rfl ?_
 repeat'(first|refine gP ?_|(conv=>whnf);first|refine C7 (xf xs pr a) ?_)
 exact X0 (λz=>[B z]) (kN pr xs)
def K3(i:Int)(p:dX):Bool:=decide (p.A=i) || decide (p.B=i)
def DA(p:dX)(i:Int):zzA 563 false [.val (some 2) (dX.enc .U p),.ptr [I i]] .one [B (K3 i p)]:=by
 refine fO 14 [] Tryz.func563 rfl ?_
 repeat'(first|refine gP ?_|(conv=>whnf);first|with_reducible refine Bf.E (λa=>?_) (λa=>?_))
 all_goals exact X0 (λz=>[B z]) ((by unfold K3;first|(simp[*];done)|(simp[*];rw[T4];simp)))
def wI(xs:List dX)(i:Int)(b:xs.length<=1048576):zzA 496 false [.val none (fQ .U xs),.val none [I i]] .one [B (xs.any (K3 i))]:=by
 refine fO 8 [] Tryz.func496 rfl ?_
 repeat'(first|refine gP ?_|(conv=>whnf);first|refine Cq.mk (nB (some 2) (dX.enc .U) (K3 i) xs) (DA default i).has (λL k rcs a=>?_) ?_|refine C7 (rZ xs (K3 i) ω) ?_)
 ·obtain⟨y,-,rfl,rfl,rfl⟩:=a
  exact DA y i
 rfl
def dC(a b:ay):cB:=if(u5 a 16).length<(u5 b 16).length then⟨b.Q,a.Q,u5 a 16⟩ else⟨a.Q,b.Q,u5 b 16⟩
def N7(a b:ay)(g:meshable a b=true)(h:bg a=true)(i:bg b=true):zzA 429 false [.val (some 3) (ay.enc .U a),.val (some 3) (ay.enc .U b)] (.tup [some 3,none]) (cB.enc .own (dC a b)++[B true]):=by
 have c:=zg a b;rw[g]at c;have d:=oW a h;have e:=oW b i;have j:=l8 a 16;have k:=l8 b 16;unfold dC;split
 ·refine fO 27 [(3,6,[11,12,13,14,15,16]),(5,6,[20,21,22,23,24,25])] Tryz.func429 rfl ?_ (.inr (aD (cB.enc_fr _) ⟨trivial,trivial⟩))
  repeat'(first|refine gE ?_|(conv=>whnf);first|refine C7 (c) ?_|refine C7 (d) ?_|refine C7 (e) ?_|refine C9 ?_)
  rfl
 refine fO 27 [(3,6,[11,12,13,14,15,16]),(5,6,[20,21,22,23,24,25])] Tryz.func429 rfl ?_ (.inr (aD (cB.enc_fr _) ⟨trivial,trivial⟩))
 repeat'(first|refine gE ?_|(conv=>whnf);first|refine C7 (c) ?_|refine C7 (d) ?_|refine C7 (e) ?_|refine C9 ?_)
 rfl
def zd(a b:ay)(g:meshable a b=true)(h:bg a=true)(i:bg b=true):zzA 390 false [.val (some 3) (ay.enc .U a),.val (some 3) (ay.enc .U b)] (.tup [some 3,none]) (cB.enc .own (dC a b)++[B true]):=by
 have c:=lK a b;rw[g]at c;have d:=oK a h;have e:=oK b i;have j:=l8 a 16;have k:=l8 b 16;unfold dC;split
 ·refine fO 34 [(3,3,[13,14,15])] Tryz.func390 rfl ?_ (.inr (aD (cB.enc_fr _) ⟨trivial,trivial⟩))
  repeat'(first|refine gE ?_|(conv=>whnf);first|refine C7 (c) ?_|refine C7 (d) ?_|refine C7 (e) ?_|refine C9 ?_)
  rfl
 refine fO 34 [(3,3,[13,14,15])] Tryz.func390 rfl ?_ (.inr (aD (cB.enc_fr _) ⟨trivial,trivial⟩))
 repeat'(first|refine gE ?_|(conv=>whnf);first|refine C7 (c) ?_|refine C7 (d) ?_|refine C7 (e) ?_|refine C9 ?_)
 rfl
def JD(p:cB):dy:=⟨p,0,0⟩
def EM(p:cB)(c:fo p=true)(a:cB.sml p):zzA 391 false [.val (some 3) (cB.enc .U p)] (.tup [some 5,none]) (dy.enc .own (JD p)++[B true]):=by
 have b:=uN p a;rw[c]at b;have d:=pW p a;refine fO 11 [] Tryz.func391 rfl ?_ (.inr (aD (dy.enc_fr _) ⟨trivial,trivial⟩))
 repeat'(first|refine gP ?_|(conv=>whnf);first|refine C7 (b) ?_|refine C7 (d) ?_)
 rfl
def sL(n:Nat){s:Int}(c:0<=s/\s<=1073741823):∀{j:Nat},j<=n - 1->∀x∈(en n s j).1,0<=x/\x<n
 | 0,_,x,a=>by
  simp only[en,nO,z4,List.mem_range]at a;obtain⟨i,d,rfl⟩:=a;omega
 | j+1,e,x,a=>by
  have f:=(kV n c j).1;have b:=sL n c (j:=j) ω;have g:=q8 (en n s j).2 (n:=((n - 1 - j:Nat)+1:Int)) ω;simp only[en,uz]at a;rcases V5 a with a|rfl
  ·rcases V5 a with a|rfl
   ·exact b x a
   exact b _ (ax ω)
  exact b _ (ax ω)
def tkn(out:List dX)(a:Int):Bool:=out.any (K3 a)
def stp(a:List ay)(p:List Int)(t i:Nat)(out:List dX):List dX:=
 if tkn out (nth p i)=false/\tkn out (nth p (p.length / 2+(i+t) % (p.length - p.length / 2)))=false/\meshable (nth a (nth p i).toNat) (nth a (nth p (p.length / 2+(i+t) % (p.length - p.length / 2))).toNat)=true then out++[⟨nth p i,nth p (p.length / 2+(i+t) % (p.length - p.length / 2))⟩] else out
def xS(a:List ay)(p:List Int)(t:Nat)(out:List dX):Nat->List dX
 | 0=>out
 | i+1=>stp a p t i (xS a p t out i)
def sZ(a:List ay)(p:List Int):Nat->List dX
 | 0=>[]
 | t+1=>xS a p t (sZ a p t) (p.length / 2)
def PS(a:List ay)(p:List Int)(t i:Nat)(out:List dX):(stp a p t i out).length<=out.length+1:=by unfold stp;split<;>simp
def wW(a:List ay)(p:List Int)(t:Nat)(out:List dX):∀i,(xS a p t out i).length<=out.length+i
 | 0=>C3 _
 | i+1=>by have b:=wW a p t out i;have c:=PS a p t i (xS a p t out i);simp only[xS];omega
def DP(a:List ay)(p:List Int):∀t,(sZ a p t).length<=t*(p.length / 2)
 | 0=>W0 _
 | t+1=>by have b:=DP a p t;have c:=wW a p t (sZ a p t) (p.length / 2);simp only[sZ];rw[Nat.add_mul];omega
def mG(a:List ay)(s:Int):List dX:=sZ a (shuf a.length s).1 3
def qq(x:List dX):dN (fQ .own x)=fQ .U x:=by simp[dN,fQ,dX.enc,<-bX,C5]
def vk(c:List ay)(s:Int)(r:0<=s/\s<=1073741823)(Y:c.length<=16):zzA 389 false [.val none (cj .U c),.val none [I s],.val none [I 3]] (.tup [none,none]) (fQ .own (mG c s)++[I (shuf c.length s).2]):=by
 have O:=rz s r;have H:=aF 3 0 16;rw[O0 ω]at H;have P:=yD c.length s r ω;have g:=(kV c.length r (c.length - 1)).1;have h:=sL c.length r (C3 _);unfold mG;change (shuf c.length s).1.length=_ at g;change ∀x∈(shuf c.length s).1,_ at h
 have y:g9 (fQ .own (sZ c (shuf c.length s).1 3)++[I (shuf c.length s).2]):=aD (GM _) ⟨trivial,trivial⟩;generalize shuf c.length s=q at *;obtain⟨p,z⟩:=q;simp only at *;have B:((p.length:Nat):Int).tdiv 2=((p.length / 2:Nat):Int):=by rw[Int.tdiv_eq_ediv_of_nonneg ω];omega
 have D:fz (C.s dH.own (p.map (rI .own)))=C.s dH.U (p.map (rI .U)):=(List.cons.inj (eg p)).1;have l:(p.drop (p.length / 2)).length=p.length - p.length / 2:=T3 ..;have Q:(p.take (p.length / 2)).length=p.length / 2:=by rw[V1];omega
 have n:∀i:Nat,i<p.length->0<=nth p i/\nth p i<c.length:=λi R=>h _ (ax R)
 have d:((c.length:Nat):Int).tdiv 2=((p.length / 2:Nat):Int):=by rw[<-g];exact B
 refine fO 99 [(5,264,[39,40,41,42,43,44,45,46,0,1,2,3,4,5,6,7,8,1004,1005,1006,1007,9]),(14,19,[69,70,71,72,73,74,75,76,77,78,79,80,81,82,83,84,85,86,87]),(1048581,9,[0])] Tryz.func389 rfl ?_ (.inr y)
 repeat'(first|refine gE ?_|(conv=>whnf);first|with_reducible refine CH ((X0 _ d).trans (fF ω ω)) ?_|refine C9 ?_|refine C7 (O) ?_|refine C7 (H) ?_|refine C7 (P) ?_|refine CM (by decide) ?_|refine Qs.mk rfl D rfl ?_|refine CS (p.length / 2) d (by rw[C1];omega) (aQ λ_=>rfl) t4 ?_|refine Sl.suf (p.length / 2) d (by rw[C1];omega) (aQ λ_=>rfl) v4 ?_|refine C9 ?_)
 (conv=>whnf)
 refine CD (ι:=Nat) (λt=>[(0,.G .one (cj .U c)),(2,.G .one [I (3)]),(10,.G .one [I (z)]),(11,.G .one (aK .U (p.take (p.length / 2)))),(12,.G .one (aK .U (p.drop (p.length / 2)))),(13,.G .one (fQ .own (sZ c p t))),(14,.G .one [I ((t:Nat):Int)])]) (λt=>t<=3) (λt=>3 - t) (0) ?_ (W0 _) λt S=>?_
 ·exact wB
 have Z:=DP c p t;have ol2:t*(p.length / 2)<=3*8:=Nat.mul_le_mul S ω;by_cases lt:t<3
 ·repeat'(first|refine gE ?_|(conv=>whnf);first|refine C9 ?_)
  (conv=>whnf)
  refine CD (ι:=Nat) (λj=>[(0,.G .one (cj .U c)),(2,.G .one [I (3)]),(10,.G .one [I (z)]),(11,.G .one (aK .U (p.take (p.length / 2)))),(12,.G .one (aK .U (p.drop (p.length / 2)))),(13,.G .one (fQ .own (xS c p t (sZ c p t) j))),(14,.G .one [I ((t:Nat):Int)]),(53,.G .one (aK .U (p.take (p.length / 2)))),(54,.G .one [I (((p.length / 2):Nat):Int)]),(55,.G .one [I ((j:Nat):Int)])]) (λj=>j<=p.length / 2) (λj=>p.length / 2 - j) (0) ?_ (W0 _) λj hj=>?_
  ·exact wB
  have rl:=wW c p t (sZ c p t) j;by_cases T:j<p.length / 2
  ·have J:(j+t) % (p.length - p.length / 2)<p.length - p.length / 2:=Nat.mod_lt _ ω
   have E:((j:Int)+t).tmod ((p.length - p.length / 2:Nat):Int)=(((j+t) % (p.length - p.length / 2):Nat):Int):=by
    rw[fD ω,Int.natCast_emod];congr 1
   have e:xS c p t (sZ c p t) (j+1)=stp c p t j (xS c p t (sZ c p t) j):=rfl;unfold stp at e;generalize xS c p t (sZ c p t) j=out at *;have o:p.length / 2+(j+t) % (p.length - p.length / 2)<p.length:=ω
   generalize hk:(j+t) % (p.length - p.length / 2)=k at *;have F:(p.take (p.length / 2))[j]? = some (nth p j):=by rw[List.getElem?_take,CA T];exact au ω
   have G:(p.drop (p.length / 2))[k]? = some (nth p (p.length / 2+k)):=by rw[List.getElem?_drop];exact au o
   have U:=n j ω;have V:=n _ o;generalize nth p j=a at *;generalize nth p (p.length / 2+k)=b at *;have K:=wI out a ω;have L:=wI out b ω;have W:=au (xs:=c) (i:=a.toNat) ω;have X:=au (xs:=c) (i:=b.toNat) ω;have M:=lK (nth c a.toNat) (nth c b.toNat);cases u:tkn out a<;>cases w:tkn out b<;>cases N:meshable (nth c a.toNat) (nth c b.toNat)
   all_goals
    unfold tkn at u w;rw[u]at K;rw[w]at L;change (tkn out a)=_ at u;change (tkn out b)=_ at w;rw[N]at M;rw[u,w,N]at e;simp only[and_true,true_and,if_true,Bool.false_eq_true,Bool.true_eq_false,and_false,false_and,if_false]at e
    repeat'(first|refine gE ?_|(conv=>whnf);first|refine C9 ?_|refine CO (z:=(k:Int)) (by rw[l];exact E) ?_|refine Ln.mk (show List.length (List.map _ (p.drop (p.length / 2)))=p.length - p.length / 2 by rw[C1];exact l) ?_|refine CM ω ?_|refine CB (aa F) ?_|refine CL ω (aa G) ?_|refine CL U.1 (aa W) ?_|refine CL V.1 (aa X) ?_|refine CJ (K) ⟨⟨rfl,qq _⟩,⟨rfl,rfl⟩,trivial⟩ ?_|refine CJ (L) ⟨⟨rfl,qq _⟩,⟨rfl,rfl⟩,trivial⟩ ?_|refine C7 (M) ?_|refine C9 ?_|refine Ap.sm (aQ λ_=>rfl) rfl (by simp;omega) (by decide) (fY (dX.enc .own) out ⟨a,b⟩) ?_)
    ((conv=>whnf);refine CC (j+1) ω ω ?_)
    rw[e];exact wB
  obtain rfl:j=p.length / 2:=ω
  repeat'(first|refine gE ?_|(conv=>whnf);first|refine C9 ?_)
  ((conv=>whnf);refine CC (t+1) ω ω ?_;(exact wB))
 obtain rfl:t=3:=ω
 repeat'(first|refine gE ?_|(conv=>whnf);first|refine C9 ?_)
 rfl
def am.fzR{P:Program}{sh:Bool}{A:List RA}{k:Kd}{rcs:List C}(h:am P f sh A k rcs):am P f sh A k (dN rcs):=by
 obtain⟨c,d⟩:=h;refine⟨c,λw S g i j=>(d w S g i j).mono λe w1 l=>?_⟩;obtain⟨v,n,p,X,S1,q,r,y,t,u⟩:=l;refine⟨v,n,p,NO,λb o=>S1 b o\/X b o,λ_ _ h=>h.elim,λb o a=>?_,λ_ _ h=>h.elim,by rw[bX,C1];exact t,u.freeze⟩;rcases a with a|a
 ·exact r b o a
 exact .inr (q b o a)
structure NU(ls:List ay)(q:dX):Prop where
 a:0<=q.A/\q.A<ls.length
 b:0<=q.B/\q.B<ls.length
 m:meshable (nth ls q.A.toNat) (nth ls q.B.toNat)=true
def HK{b:List ay}{p:List Int}(c:∀x∈p,0<=x/\x<b.length)(t:Nat){out:List dX}(d:∀q∈out,NU b q):∀{i:Nat},i<=p.length / 2->∀q∈xS b p t out i,NU b q
 | 0,_=>d
 | i+1,h=>λq a=>by
  have e:=HK c t d (i:=i) ω;simp only[xS,stp]at a;split at a
  ·rename_i g
   rcases z3.1 a with a|a
   ·exact e q a
   obtain rfl:=O1.1 a;have f:(i+t) % (p.length - p.length / 2)<p.length - p.length / 2:=Nat.mod_lt _ ω;exact⟨c _ (ax ω),c _ (ax ω),g.2.2⟩
  exact e q a
def HI{a:List ay}{p:List Int}(b:∀x∈p,0<=x/\x<a.length):∀t,∀q∈sZ a p t,NU a q
 | 0=>λq c=>by cases c
 | t+1=>HK b t (HI b t) (C3 _)
def qz(a:List ay){s:Int}(b:0<=s/\s<=1073741823):∀q∈mG a s,NU a q:=HI (sL a.length b (C3 _)) 3
def P6(s:ay)(n:Nat):(u5 s n).Pairwise (· < ·):=by
 unfold u5;rw[List.pairwise_map];exact(List.pairwise_lt_range.sublist List.filter_sublist).imp λh=>ω
def QL{n:Nat} : ∀z∈u5 s n,0<=z/\z<n:=λz a=>by
 unfold u5 at a;simp only[z4,C4,List.mem_range]at a;obtain⟨c,⟨b,-⟩,rfl⟩:=a;omega
def wu(s:ay):dv (u5 s 16).length (nr (u5 s 16))=true:=by
 refine cu.2 λj a=>?_
 have c:=QL _ (ax a);unfold nr;refine O0 ⟨ω,ω,?_⟩;by_cases e:j=0
 ·exact .inl e
 refine .inr ?_;have b:=List.pairwise_iff_getElem.1 (P6 s 16) (j - 1) j ω a ω;rw[show nth (u5 s 16) (j - 1)=(u5 s 16)[j - 1] from bD (O2 ω),show nth (u5 s 16) j=(u5 s 16)[j] from bD (O2 a)];exact b
def tD{a b:ay}(c:meshable a b=true):fo (dC a b)=true/\bg a=true/\bg b=true:=by
 unfold meshable at c;simp only[I0,C0]at c;have d:=aL c.1.1;have e:=aL c.1.2;refine⟨?_,c.1⟩;unfold dC fo;split
 ·simp only[I0,C0];exact⟨wu a,ω⟩
 simp only[I0,C0];exact⟨wu b,ω⟩
def G4(a b:ay):cB.sml (dC a b):=by
 have c:=l8 a 16;have d:=l8 b 16;unfold dC cB.sml rk;split<;>simp only<;>omega
def bH(h:ac):List ay:=(mS h).take 16
def started(h:ac):ac × Bool:=match mG (bH h) h.b5 with
 | []=>({h with b5:=(shuf (bH h).length h.b5).2},false)
 | q::_=>({h with b5:=(shuf (bH h).length h.b5).2,q:=true,y:=JD (dC (nth (bH h) q.A.toNat) (nth (bH h) q.B.toNat))},true)
def MS(a:bi h E):h.H.length<=32/\gn h<=32/\FJ h/\∀s∈h.H,s.a7<=9223372036854775807:=by
 have b:=a.lens;refine⟨b.spans,b.ents,?_,λs c=>by have:=dQ (a.L.sok s c);omega⟩;have:=(bW a.ker).1.2;exact this
def G9(h:ac):(bH h).length<=16:=by unfold bH;rw[V1];omega
def QS(x:List dX)(z:Int):dN (fQ .own x++[I z])=fQ .U x++[I z]:=by
 have h:=qq x;rw[bX]at h |-;rw[z5,h];simp[fz]
def D5(h:ac):ac × Bool:=if h.q=false/\jL h=true then started h else(h,false)
def BU(h:ac)(g:ac.sml h)(i:¬(h.q=false/\jL h=true)):zzA 249 false [.val (some 24) (ac.enc .U h)] (.tup [some 24,none]) (cN h++[B false]):=by
 have a:=cw h g;rw[du]at a;have b:=di h g;have c:ac.enc .U h=(ac.enc .U h).set 18 (B h.q):=rfl;cases d:h.q
 ·have j:jL h=false:=by
   rcases Bool.eq_false_or_eq_true (jL h) with e|e
   ·exact absurd ⟨d,e⟩ i
   exact e
  rw[j]at a;rw[d]at c;rw[c]at a b |-;refine fO 66 [(10,275,[41,42,43,44,45,46,47,48,49,50,51,52,53,54,55,40,56,57,8,0,1,2,3,4,5,6,7,8,9,10,11,12,13,14,15,16,17,18,19,1017,20])] Tryz.func249 rfl ?_ (.inr (aD (bS _) ⟨trivial,trivial⟩))
  repeat'(first|refine gP ?_|(conv=>whnf);first|refine C9 ?_|refine C7 (a) ?_|refine C7 (b) ?_)
  rfl
 rw[d]at c;rw[c]at a b |-;refine fO 66 [(10,275,[41,42,43,44,45,46,47,48,49,50,51,52,53,54,55,40,56,57,8,0,1,2,3,4,5,6,7,8,9,10,11,12,13,14,15,16,17,18,19,1017,20])] Tryz.func249 rfl ?_ (.inr (aD (bS _) ⟨trivial,trivial⟩))
 repeat'(first|refine gP ?_|(conv=>whnf);first|refine C9 ?_|refine C7 (a) ?_|refine C7 (b) ?_)
 rfl
def yC(h:ac)(t:ac.sml h)(H:h.q=false)(u:jL h=true):zzA 249 false [.val (some 24) (ac.enc .U h)] (.tup [some 24,none]) (cN (started h).1++[B (started h).2]):=by
 have w:=bi.of u;obtain⟨w1,U,J,K⟩:=MS w;have a:=w.nums;unfold dh at a;rw[C0]at a;have j:=cw h t;rw[du,u]at j;have l:=di h t;have k:=(xX h J ω ω K).fzR;rw[dP]at k;have n:=G9 h;have c:=(vk (bH h) h.b5 ⟨a.1,a.2.1⟩ n).fzR;rw[QS]at c;have d:=qz (bH h) ⟨a.1,a.2.1⟩;have L:=rS h h.H.length;have y:(mS h).length<=32:=by unfold mS;omega
 have g:(bH h).map (ay.enc .U)=((mS h).map (ay.enc .U)).take (bH h).length:=by
  unfold bH;rw[t4,V1];by_cases e:16<=(mS h).length
  ·rw[Nat.min_eq_left e]
  rw[Nat.min_eq_right ω,I6 (by rw[C1];omega),I6 (by rw[C1];omega)]
 have b:(bH h).length=if(mS h).length<=16 then(mS h).length else 16:=by unfold bH;rw[V1];split<;>omega
 have C:ac.enc .U h=(ac.enc .U h).set 18 (B h.q):=rfl;rw[H]at C;rw[C]at j l k |-;unfold started;cases E:mG (bH h) h.b5 with
 | nil=>
  rw[E]at c;refine fO 66 [(10,275,[41,42,43,44,45,46,47,48,49,50,51,52,53,54,55,40,56,57,8,0,1,2,3,4,5,6,7,8,9,10,11,12,13,14,15,16,17,18,19,1017,20])] Tryz.func249 rfl ?_ (.inr (aD (bS _) ⟨trivial,trivial⟩))
  repeat'(first|refine gP ?_|(conv=>whnf);first|refine C9 ?_|refine C7 (j) ?_|refine C7 (l) ?_|refine C7 (k) ?_|refine C7 (c) ?_|refine CO (z:=((bH h).length:Int)) (by rw[b];simp;split<;>split<;>omega) ?_|refine CS (bH h).length rfl (by rw[C1,b];split<;>omega) (aQ λ_=>rfl) g ?_)
  rfl
 | cons q M=>
  rw[E]at c d;obtain⟨N,O,F⟩:=d q (Z1 ..);obtain⟨P,Q,R⟩:=tD F;have S:=zd _ _ F Q R;have T:=EM _ P (G4 _ _);have o:=au (xs:=bH h) (i:=q.A.toNat) ω;have p:=au (xs:=bH h) (i:=q.B.toNat) ω;have r:(q::M)[0]? = some q:=rfl;refine fO 66 [(10,275,[41,42,43,44,45,46,47,48,49,50,51,52,53,54,55,40,56,57,8,0,1,2,3,4,5,6,7,8,9,10,11,12,13,14,15,16,17,18,19,1017,20])] Tryz.func249 rfl ?_ (.inr (aD (bS _) ⟨trivial,trivial⟩))
  repeat'(first|refine gP ?_|(conv=>whnf);first|with_reducible refine Bf.D (λG=>absurd G (by simp)) (λG=>?_)|refine C9 ?_|refine C7 (j) ?_|refine C7 (l) ?_|refine C7 (k) ?_|refine C7 (c) ?_|refine CO (z:=((bH h).length:Int)) (by rw[b];simp;split<;>split<;>omega) ?_|refine CS (bH h).length rfl (by rw[C1,b];split<;>omega) (aQ λ_=>rfl) g ?_|refine CL (by decide) (aa r) ?_|refine CL N.1 (aa o) ?_|refine CL O.1 (aa p) ?_|refine C7 (S) ?_|refine CJ (T) ⟨⟨rfl,cB.enc_fz _⟩,trivial⟩ ?_|refine C9 ?_)
  rfl
def yg(h:ac)(a:ac.sml h):zzA 249 false [.val (some 24) (ac.enc .U h)] (.tup [some 24,none]) (cN (D5 h).1++[B (D5 h).2]):=by
 unfold D5;split
 ·rename_i e;exact yC h a e.1 e.2
 rename_i e;exact BU h a e
def FY(xs:List Int)(x:Int)(h:xs.length<=4611686018427387904):zzA 435 false [.val none (aK .U xs),.val none [I x]] .one [I (cA (λy=>decide (y=x)) xs)]:=by
 refine fO 19 [] Tryz.func435 rfl ?_
 repeat'(first|refine gP ?_|(conv=>whnf);first|refine C9 ?_)
 (conv=>whnf)
 refine CD (ι:=Nat) (λi=>[(0,.G .one (aK .U xs)),(1,.G .one [I (x)]),(7,.G .one [I (xs.length)]),(8,.G .one [I ((i:Nat):Int)])]) (λi=>i<=xs.length/\∀(j:Nat)(z:Int),j<i->xs[j]? = some z->decide (z=x)=false) (λi=>xs.length - i) (0) ?_ (⟨W0 _,λj z d _=>absurd d (Nat.not_lt_zero _)⟩) λi c=>?_
 ·exact wB
 obtain⟨c,b⟩:=c;by_cases g:i<xs.length
 ·have a:=au g
  by_cases e:nth xs i=x
  ·repeat'(first|refine gE ?_|(conv=>whnf);first|with_reducible refine CB (aa a) ?_|refine C9 ?_|refine Bf.t (by simp[e]) ?_)
   exact X0 (λz=>[I z]) (ep a (O0 e) b).symm
  repeat'(first|refine gE ?_|(conv=>whnf);first|with_reducible refine CB (aa a) ?_|refine C9 ?_|refine Bf.f (by simp[Ne.symm e]) ?_)
  ((conv=>whnf);refine CC (i+1) ⟨ω,iG a (U0 e) b⟩ ω ?_;(exact wB))
 repeat'(first|refine gE ?_|(conv=>whnf);first|refine C9 ?_)
 exact X0 (λz=>[I z]) (gN ω b).symm
def qa(xs:List Int)(x:Int)(a:xs.length<=4611686018427387904):zzA 287 false [.val none (aK .U xs),.val none [I x]] .one [B (decide (x∈xs))]:=by
 refine fO 9 [] Tryz.func287 rfl ?_
 repeat'(first|refine gP ?_|(conv=>whnf);first|refine C9 ?_|refine C7 (FY xs x a) ?_)
 exact X0 (λz=>[B z]) ((by rw[kN];rw[T4];simp))
def ig(k:ah):ah:={k with Calls:=k.Calls+1}
def refd(k:ah):Bool:=decide (k.Calls∈k.j)
def ng(k:ah)(a:ah.sml k)(d:0<=k.Calls/\k.Calls<=100000):zzA 459 false [.val (some 5) (ah.enc .U k)] (.tup [some 5,none]) (ah.enc .own (ig k)++[B (!refd k)]):=by
 have c:=fE k a;have g:k.j.length<=1048576:=a.2;have b:=qa k.j k.Calls ω;unfold refd;cases e:decide (k.Calls∈k.j)<;>rw[e]at b
 all_goals
  refine fO 18 [(3,263,[11,12,13,14,15,16,17,0,1,2,3,4,5,6,7,1006,8])] Tryz.func459 rfl ?_ (.inr (aD (CT _) ⟨trivial,trivial⟩))
  repeat'(first|refine gP ?_|(conv=>whnf);first|refine C9 ?_|refine C7 (c) ?_|refine C7 (b) ?_|refine C9 ?_)
  rfl
def wh(k:ah)(p:Int)(m:Int):ah:={k with F:=⟨k.F.V,⟨k.F.O.K.set p.toNat {nth k.F.O.K p.toNat with o:=m}⟩⟩}
def gj(k:ah)(p m:Int):ah × Bool:=if refd k=true then(ig k,false) else(wh (ig k) p m,true)
def zz(k:ah)(p m:Int):ah.enc .own (wh k p m)=(ah.enc .own k).set 2 (.s .own ((k.F.O.K.map (bp.enc .own)).set p.toNat (bp.enc .own {nth k.F.O.K p.toNat with o:=m}))):=by
 simp[ah.enc,wh,S5]
def qk(k:ah)(p m:Int)(b:aH k=true)(n:k.Calls≠100000)(j:(ar k.F.O p).o≠0)(a:m=1\/m=2):zzA 559 false [.val (some 5) (ah.enc .U k),.val none [I p],.val none [I m]] (.tup [some 5,none]) (ah.enc .own (gj k p m).1++[B (gj k p m).2]):=by
 have c:=bW b;have o:=(aI.1 b).2.2.2;have d:=gp k c;rw[b,O0 n]at d;have g:=ng k c ⟨ω,ω⟩;have h:=ee k p c.1.2;rw[O0 j]at h;obtain⟨q,r,t⟩:=bZ b j;have l:=au (xs:=k.F.O.K) (i:=p.toNat) ω;unfold gj;cases e:refd k<;>rw[e]at g
 ·rw[C8 (by simp),zz]
  rcases a with rfl|rfl
  all_goals
   refine fO 46 [] Tryz.func559 rfl ?_ (.inr (aD (by rw[<-zz];exact CT _) ⟨trivial,trivial⟩))
   repeat'(first|refine gP ?_|(conv=>whnf);first|refine C9 ?_|refine C7 (d) ?_|refine C7 (g) ?_|refine C7 (h) ?_|refine CL q (aa l) ?_|refine CN rfl rfl (aa l) rfl (I1 rfl) rfl ?_)
   rfl
 rw[CA rfl];rcases a with rfl|rfl
 all_goals
  refine fO 46 [] Tryz.func559 rfl ?_ (.inr (aD (CT _) ⟨trivial,trivial⟩))
  repeat'(first|refine gP ?_|(conv=>whnf);first|refine C9 ?_|refine C7 (d) ?_|refine C7 (g) ?_|refine C7 (h) ?_)
  rfl
variable{k:ah}
def row16(a:aH k=true)(b:f<k.F.V.W.length):(nth k.F.V.W f).length=16:=by
 have:=(bh.1 (aI.1 a).2.1).2.2.2 f b;unfold ib at this;simp only[I0,C0]at this;omega
def setCell(k:ah)(f:Nat)(c v:Int):ah:={k with F:=⟨⟨k.F.V.W.set f ((nth k.F.V.W f).set c.toNat v),k.F.V.k⟩,k.F.O⟩}
def Fd(k:ah)(f:Nat)(c v:Int):ah.enc .own (setCell k f c v)=(ah.enc .own k).set 0 (.s .own ((k.F.V.W.map (aK .own)).set f [.s .own (((nth k.F.V.W f).map (rI .own)).set c.toNat [I v])])):=by
 simp[ah.enc,setCell,S5,aK,rI]
def iq(k:ah)(p:Int):Nat:=(ar k.F.O p).e.toNat
def Ag(k:ah)(a b c:Int):ah:=setCell k (iq k b) c (nth (nth k.F.V.W (iq k a)) c.toNat)
def Qe(k:ah)(a b c:Int):Nat->ah
 | 0=>k
 | _+1=>Ag k a b c
def Gi(k:ah)(a b c:Int)(d:aH k=true)(C:k.Calls≠100000)(q:(ar k.F.O a).o≠0)(r:(ar k.F.O b).o≠0)(e:0<=c/\c<=15):zzA 560 false [.val (some 5) (ah.enc .U k),.val none [I a],.val none [I b],.val none (aK .U [c])] (.tup [some 5,none]) (ah.enc .own (Ag k a b c)++[B true]):=by
 have h:=bW d;have t:=gp k h;rw[d,O0 C]at t;have D:=fE k h;have u:=ee k a h.1.2;have w:=ee k b h.1.2;rw[O0 q]at u;rw[O0 r]at w;have E:=cJ k.F.O a h.1.2;have F:=cJ k.F.O b h.1.2;have y:=zJ c;rw[O0 e]at y;obtain⟨-,-,-,G,K⟩:=bZ d q;obtain⟨-,-,-,H,L⟩:=bZ d r;have J:=(bh.1 (aI.1 d).2.1).2.2.1;have M:=row16 d (f:=iq k a) (by unfold iq;omega);have N:=row16 d (f:=iq k b) (by unfold iq;omega);have l:k.F.V.W[(ar k.F.O a).e.toNat]? = some (nth k.F.V.W (iq k a)):=au ω;have g:k.F.V.W[(ar k.F.O b).e.toNat]? = some (nth k.F.V.W (iq k b)):=au ω;have o:=au (xs:=nth k.F.V.W (iq k a)) (i:=c.toNat) ω;have n:=au (xs:=nth k.F.V.W (iq k b)) (i:=c.toNat) ω;have p:[c][0]? = some c:=rfl;refine fO 77 [(4,268,[33,34,35,36,37,38,39,40,41,42,43,44,0,1,2,3,4,5,6,7,8,9,10,11,12,1011,13]),(10,18,[56,57,58,59,60,61,62,63,64,65,66,67,68,69,70,71,72,73])] Tryz.func560 rfl ?_ (.inr (aD (CT _) ⟨trivial,trivial⟩))
 repeat'(first|refine gP ?_|(conv=>whnf);first|refine C9 ?_|refine C7 (t) ?_|refine C7 (D) ?_|refine C7 (u) ?_|refine C7 (w) ?_|refine C7 (E) ?_|refine C7 (F) ?_|refine C9 ?_)
 (conv=>whnf)
 refine CD (ι:=Nat) (λj=>[(4,.G .box (ah.enc .U k)),(8,.G .box (ah.enc .own ⟨⟨⟨[],[]⟩,⟨[]⟩⟩,0,[]⟩)),(10,.G .box (ah.enc .own (Qe k a b c j))),(11,.G .one [I ((ar k.F.O a).e)]),(12,.G .one [I ((ar k.F.O b).e)]),(45,.G .one (aK .U [c])),(46,.G .one [I (1)]),(47,.G .one [I ((j:Nat):Int)])]) (λj=>j<=1) (λj=>1 - j) (0) ?_ (W0 _) λj O=>?_
 ·exact wB
 by_cases P:j<1
 ·obtain rfl:j=0:=ω
  repeat'(first|refine gE ?_|(conv=>whnf);first|refine C9 ?_|refine CL (by decide) (aa p) ?_|refine C7 (y) ?_|refine CL G (aa l) ?_|refine CL H (aa g) ?_|refine CL e.1 (aa o) ?_|refine CL e.1 (aa n) ?_|refine CE rfl (aa g) rfl ?_|refine CE rfl (aa l) rfl ?_|refine C9 ?_|refine Pu.two rfl rfl (aa g) rfl rfl rfl (aa n) rfl (C3 _) rfl ?_)
  ((conv=>whnf);refine CC 1 ω ω ?_)
  rw[show Qe k a b c 1=Ag k a b c from rfl];unfold Ag;rw[Fd];exact wB
 obtain rfl:j=1:=ω
 repeat'(first|refine gE ?_|(conv=>whnf);first|refine C9 ?_)
 rfl
def xG(k:ah)(p:Nat)(e:bp):ah:={k with F:=⟨k.F.V,⟨k.F.O.K.set p e⟩⟩}
def KR(k:ah)(p:Nat)(e:bp):ah.enc .own (xG k p e)=(ah.enc .own k).set 2 (.s .own ((k.F.O.K.map (bp.enc .own)).set p (bp.enc .own e))):=by
 simp[ah.enc,xG,S5]
def MW(p:Nat)(e:bp)(h:aN.sml k.F.O):aN.sml (xG k p e).F.O:=by
 refine⟨?_,λx _=>trivial⟩;show(k.F.O.K.set p e).length<=_;rw[U1];exact h.1
def yo(k:ah)(p o:Int):ah × Bool:=if refd k=true then(ig k,false) else(fH (xG (ig k) p.toNat ⟨2,(nth k.F.O.K o.toNat).e⟩) (nth k.F.O.K p.toNat).e,true)
def kb(m:aR)(a v:Int):aR × Int:=
 if(ar m.O (a / 16)).o=0 then(m,1) else if(ar m.O (a / 16)).o=1 then(m,2) else
 (⟨⟨m.V.W.set (ar m.O (a / 16)).e.toNat ((nth m.V.W (ar m.O (a / 16)).e.toNat).set (a % 16).toNat v),m.V.k⟩,m.O⟩,0)
def rY(m:aR)(a:Int)(d:cU m=true)(b:aR.sml m)(e:0<=a/\a<512):zzA 568 false [.val (some 3) (aR.enc .U m),.val none [I a]] .agg (bp.enc .own (ar m.O (a / 16))):=by
 have c:=oQ m b;rw[d]at c;have g:=cJ m.O (a / 16) b.2;refine fO 18 [] Tryz.func568 rfl ?_ (.inr ⟨trivial,trivial,trivial⟩)
 repeat'(first|refine gE ?_|(conv=>whnf);first|refine C7 (c) ?_|refine C7 (g) ?_|refine CH (wQ e) ?_|refine CM (by decide) ?_)
 rfl
def Gm(m:aR)(f:Nat)(c v:Int):aR.enc .own ⟨⟨m.V.W.set f ((nth m.V.W f).set c.toNat v),m.V.k⟩,m.O⟩ = (aR.enc .own m).set 0 (.s .own ((m.V.W.map (aK .own)).set f [.s .own (((nth m.V.W f).map (rI .own)).set c.toNat [I v])])):=by
 simp[aR.enc,S5,aK,rI]
def wL(m:aR)(a v:Int)(p:cU m=true)(k:aR.sml m)(l:0<=a/\a<512)(q:0<=v/\v<=999)(r:(ar m.O (a / 16)).o≠0->0<=(ar m.O (a / 16)).e/\(ar m.O (a / 16)).e<m.V.W.length/\(nth m.V.W (ar m.O (a / 16)).e.toNat).length=16):zzA 505 false [.val (some 3) (aR.enc .U m),.val none [I a],.val none [I v]] (.tup [some 3,none]) (aR.enc .own (kb m a v).1++[I (kb m a v).2]):=by
 have d:=iS m k;have e:=rY m a p k l;have c:=aF v 0 999;rw[O0 q]at c;have b:=aR.enc_fr (kb m a v).1;unfold kb at b |-;by_cases g:(ar m.O (a / 16)).o=0
 ·rw[CA g]at b |-
  refine fO 42 [] Tryz.func505 rfl ?_ (.inr (aD b ⟨trivial,trivial⟩))
  repeat'(first|refine gB ?_|(conv=>whnf);first|refine C7 (d) ?_|refine C7 (e) ?_|refine C7 (c) ?_)
  rfl
 rw[C8 g]at b |-;by_cases n:(ar m.O (a / 16)).o=1
 ·rw[CA n]at b |-
  refine fO 42 [] Tryz.func505 rfl ?_ (.inr (aD b ⟨trivial,trivial⟩))
  repeat'(first|refine gB ?_|(conv=>whnf);first|refine C7 (d) ?_|refine C7 (e) ?_|refine C7 (c) ?_)
  rfl
 rw[C8 n]at b |-;obtain⟨t,u,w⟩:=r g;have h:=au (xs:=m.V.W) (i:=(ar m.O (a / 16)).e.toNat) ω;have o:=au (xs:=nth m.V.W (ar m.O (a / 16)).e.toNat) (i:=(a % 16).toNat) ω;simp only at b |-;rw[Gm]at b |-;have j:a.tmod 16=a % 16:=fD l.1;refine fO 42 [] Tryz.func505 rfl ?_ (.inr (aD b ⟨trivial,trivial⟩))
 repeat'(first|refine gB ?_|(conv=>whnf);first|refine C7 (d) ?_|refine C7 (e) ?_|refine C7 (c) ?_|refine CO j ?_|refine CM (by decide) ?_|refine CL t (aa h) ?_|refine CL ω (aa o) ?_|refine CE rfl (aa h) rfl ?_|refine Pu.two rfl rfl (aa h) rfl rfl rfl (aa o) rfl (C3 _) rfl ?_)
 rfl
def EJ(k:ah)(p o:Int)(a:aH k=true)(w:k.Calls≠100000)(l:(ar k.F.O p).o≠0)(n:(ar k.F.O o).o≠0)(y:p≠o):zzA 561 false [.val (some 5) (ah.enc .U k),.val none [I p],.val none [I o]] (.tup [some 5,none]) (ah.enc .own (yo k p o).1++[B (yo k p o).2]):=by
 have b:=bW a;have C:=(aI.1 a).2.2.2;have c:=gp k b;rw[a,O0 w]at c;have d:=ng k b ⟨ω,ω⟩;have g:=ee k p b.1.2;have h:=ee k o b.1.2;rw[O0 l]at g;rw[O0 n]at h;obtain⟨D,H,E,q,r⟩:=bZ a l;obtain⟨F,J,K,L,M⟩:=bZ a n;have G:=(bh.1 (aI.1 a).2.1).2.2.1;have j:=au (xs:=k.F.O.K) (i:=p.toNat) ω;have t:=au (xs:=k.F.O.K) (i:=o.toNat) ω;rw[E]at q r;have u:=ss (xG (ig k) p.toNat ⟨2,(nth k.F.O.K o.toNat).e⟩) (nth k.F.O.K p.toNat).e (MW _ _ b.1.2) ⟨q,by show _<((k.F.V.W.length:Nat):Int);omega,r⟩;rw[KR]at u;unfold yo;cases e:refd k<;>rw[e]at d
 ·rw[C8 (by simp)]
  refine fP 63 [(198,[2,0]),(1000010,[])] [] Tryz.func561 rfl ?_ (.inr (aD (CT _) ⟨trivial,trivial⟩))
  repeat'(first|refine gB ?_|(conv=>whnf);first|refine C7 (c) ?_|refine C7 (d) ?_|refine C7 (g) ?_|refine C7 (h) ?_|refine CL D (aa j) ?_|refine CL F (aa t) ?_|refine CE rfl (aa j) rfl ?_|refine CE rfl (aa t) rfl ?_|refine CN rfl rfl (aa j) rfl (I1 rfl) rfl ?_|refine CF (u) (.inl rfl) ?_)
  rfl
 rw[CA rfl];refine fP 63 [(198,[2,0]),(1000010,[])] [] Tryz.func561 rfl ?_ (.inr (aD (CT _) ⟨trivial,trivial⟩))
 repeat'(first|refine gP ?_|(conv=>whnf);first|refine C7 (c) ?_|refine C7 (d) ?_|refine C7 (g) ?_|refine C7 (h) ?_)
 rfl
def jmay(k:ah)(j:dy):Bool:=(aH k&&decide (k.Calls≠100000))&&(kq j&&decide ((ar k.F.O j.Y.a8).o≠0/\(ar k.F.O j.Y.a6).o≠0/\(ar k.F.O j.Y.a8).e≠(ar k.F.O j.Y.a6).e))
def jstep(k:ah)(j:dy):ah × dy:=
 if j.a9=0 then((gj k j.Y.a6 1).1,{j with a9:=if(gj k j.Y.a6 1).2=true then 1 else 5})
 else if j.a9=1 then(if j.w=j.Y.W.length then(k,{j with a9:=2}) else(Ag k j.Y.a6 j.Y.a8 (nth j.Y.W j.w.toNat),{j with w:=j.w+1}))
 else if j.a9=2 then((yo k j.Y.a6 j.Y.a8).1,{j with a9:=if(yo k j.Y.a6 j.Y.a8).2=true then 4 else 3})
 else if j.a9=3 then(if 0<j.w then({k with F:=(kb k.F (j.Y.a8*16+nth j.Y.W (j.w - 1).toNat) 0).1},{j with w:=j.w - 1}) else((gj k j.Y.a6 2).1,{j with a9:=if(gj k j.Y.a6 2).2=true then 5 else 3}))
 else(k,j)
def M3{f:Int}(h1:∀j,j<k.j.length->0<=nth k.j j)(d:cH k.F.V=true)(g:fS k.F.O k.F.V.k.length=true)(h:∀j:Nat,j<k.F.V.k.length->(j:Int)≠f->nth k.F.V.k j=decide (0<(pagesOn k.F.O (j:Int)).length))(t:0<=f/\f<k.F.V.k.length)(l:nth k.F.V.k f.toNat=true)(i:0<=k.Calls/\k.Calls<=100000/\k.j.length<=40):aH (fH k f)=true:=by
 obtain⟨n,o,p,q⟩:=bh.1 d;unfold fH;split
 ·rename_i c
  rw[aI];simp only[U1];refine⟨h1,?_,g,λj b=>?_,i⟩
  ·rw[bh]
   simp only[U1,cz];refine⟨n,o,p,λj b=>?_⟩;by_cases a:f.toNat=j
   ·rw[CA ⟨a,b⟩,CA ⟨a,ω⟩];decide
   rw[C8 (λe=>a e.1),C8 (λe=>a e.1)];exact q j b
  rw[cz];by_cases a:f.toNat=j
  ·rw[CA ⟨a,b⟩]
   have:(j:Int)=f:=ω
   rw[this];exact(U0 λr=>absurd c (Nat.ne_of_gt r)).symm
  rw[C8 (λe=>a e.1)];exact h j b ω
 rename_i c;rw[aI];refine⟨h1,d,g,λj b=>?_,i⟩;by_cases a:(j:Int)=f
 ·rw[a,show j=f.toNat by omega,l]
  exact(O0 (Nat.pos_of_ne_zero c)).symm
 exact h j b a
def tEq(t a:aN):Prop:=a.K.length=t.K.length/\∀q:Nat,((nth a.K q).o≠0↔(nth t.K q).o≠0)/\(nth a.K q).e=(nth t.K q).e
def tEq.refl(t:aN):tEq t t:=⟨rfl,λ_=>⟨Iff.rfl,rfl⟩⟩
def tEq.of{t a:aN}(h:a=t):tEq t a:=by rw[h];exact tEq.refl t
def tEq.pagesOn{t a:aN}(h:tEq t a)(f:Int):Ab.pagesOn a f=Ab.pagesOn t f:=by
 unfold Ab.pagesOn jA;rw[h.1]
 congr 1
 refine List.filter_congr λq _=>?_
 obtain⟨b,c⟩:=h.2 q;unfold Ns;rw[c];exact decide_eq_decide.2 (and_congr b Iff.rfl)
def BN(h:aH k=true){a:aN}(c:tEq k.F.O a)(i:∀q,q<a.K.length->0<=(nth a.K q).o/\(nth a.K q).o<=2):aH {k with F:=⟨k.F.V,a⟩} = true:=by
 obtain⟨l,n,o,p,r⟩:=aI.1 h;obtain⟨t,u,w⟩:=bt.1 o;rw[aI];refine⟨l,n,bt.2 ⟨λj b=>?_,?_,?_⟩,λj b=>?_,r⟩
 ·replace b:j<a.K.length:=b
  have e:=t j (by rw[<-c.1];exact b);have d:=i j b;obtain⟨g,y⟩:=c.2 j;show kT _ (nth a.K j)=true;unfold kT at e |-;rw[C0]at e |-;rw[y];refine⟨d.1,d.2,λf=>e.2.2.1 (Classical.byContradiction λA=>(g.2 A) f),λf=>e.2.2.2 (g.1 f)⟩
 ·show 1<=a.K.length;rw[c.1];exact u
 ·show a.K.length<=32;rw[c.1];exact w
 show nth k.F.V.k j=decide (0<(Ab.pagesOn a (j:Int)).length);rw[c.pagesOn];exact p j b
def md(h:aH k=true)(f:k.Calls≠100000):aH (ig k)=true:=by
 obtain⟨a,b,c,d,g,i,e⟩:=aI.1 h;rw[aI];exact⟨a,b,c,d,by show 0<=k.Calls+1;omega,by show k.Calls+1<=100000;omega,e⟩
variable{p:Int}
def tz{m:Int}(a:(nth k.F.O.K p.toNat).o≠0)(b:m=1\/m=2):tEq k.F.O (wh k p m).F.O:=by
 refine⟨by simp[wh],λq=>?_⟩;simp only[wh,cz];split
 ·rename_i e
  rw[<-e.1];exact⟨⟨λ_=>a,λ_=>by show m≠0;omega⟩,rfl⟩
 exact⟨Iff.rfl,rfl⟩
def L2(h:aH k=true){m:Int}(d:(nth k.F.O.K p.toNat).o≠0)(a:m=1\/m=2):aH (wh k p m)=true:=by
 refine BN h (tz d a) λq e=>?_
 obtain⟨i,j,f,l,n⟩:=aI.1 h;obtain⟨g,o,r⟩:=bt.1 f;have c:q<k.F.O.K.length:=by rw[<-(tz d a).1];exact e
 have b:=g q c;unfold kT at b;rw[C0]at b;simp only[cz];split
 ·show 0<=m/\m<=2;omega
 exact⟨b.1,b.2.1⟩
def FQ{m:Int}(h:aH k=true)(c:k.Calls≠100000)(b:(ar k.F.O p).o≠0)(a:m=1\/m=2):aH (gj k p m).1=true/\tEq k.F.O (gj k p m).1.F.O:=by
 obtain⟨e,f,d,-⟩:=bZ h b;rw[d]at b;unfold gj;split
 ·exact⟨md h c,tEq.refl _⟩
 exact⟨L2 (md h c) b a,tz (k:=ig k) b a⟩
def iX(h:aH k=true)(b:(ar k.F.O p).o≠0):iq k p<k.F.V.W.length/\nth k.F.V.k (iq k p)=true/\((iq k p:Nat):Int)=(nth k.F.O.K p.toNat).e:=by
 obtain⟨f,g,a,i,j⟩:=bZ h b;obtain⟨l,d,n,e,o⟩:=aI.1 h;obtain⟨q,r,t,u⟩:=bh.1 d;have c:((iq k p:Nat):Int)=(ar k.F.O p).e:=by unfold iq;omega
 refine⟨ω,?_,by rw[c,a]⟩;rw[e _ ω,c];refine O0 (ed.2 ⟨p.toNat,ω,?_,?_⟩)
 ·rw[<-a];exact b
 rw[<-a]
def Lf(h:aH k=true){r':List Int}(b:r'.length=16)(c:∀v∈r',0<=v/\v<=999)(d:nth k.F.V.k f=true):aH {k with F:=⟨⟨k.F.V.W.set f r',k.F.V.k⟩,k.F.O⟩} = true:=by
 obtain⟨g,i,l,n,o⟩:=aI.1 h;obtain⟨p,q,r,t⟩:=bh.1 i;refine aI.2 ⟨g,bh.2 ⟨?_,?_,?_,λj a=>?_⟩,l,n,o⟩
 ·simp only[U1];exact p
 ·simp only[U1];exact q
 ·simp only[U1];exact r
 simp only[U1]at a |-;simp only[cz];split
 ·rename_i e
  obtain⟨rfl,-⟩:=e;unfold ib;simp only[I0,C0,Z3];refine⟨b,λv u=>?_⟩;have:=c v u;unfold iO;simp[d,this]
 exact t j a
def Hi(h:aH k=true)(b:f<k.F.V.W.length):(nth k.F.V.W f).length=16/\∀v∈nth k.F.V.W f,0<=v/\v<=999:=by
 obtain⟨g,c,i,j,l⟩:=aI.1 h;obtain⟨n,o,p,d⟩:=bh.1 c;have a:=d f b;unfold ib at a;simp only[I0,C0,Z3]at a;refine⟨a.1,λv e=>?_⟩;have:=a.2 v e;unfold iO at this;simp only[I0,C0]at this;exact this.1
variable{v:Int}
def qn(h:aH k=true)(b:f<k.F.V.W.length)(d:nth k.F.V.k f=true){c:Int}(e:0<=v/\v<=999):aH (setCell k f c v)=true:=by
 obtain⟨g,i⟩:=Hi h b;refine Lf h (by rw[U1];exact g) (λz a=>?_) d;rcases V5 a with a|rfl
 ·exact i z a
 exact e
variable{b:Int}
def M5(h:aH k=true){c:Int}(d:(ar k.F.O a).o≠0)(e:(ar k.F.O b).o≠0)(l:0<=c/\c<=15):aH (Ag k a b c)=true:=by
 obtain⟨f,n,-⟩:=iX h d;obtain⟨g,i,-⟩:=iX h e;obtain⟨o,j⟩:=Hi h f;exact qn h g i (j _ (ax ω))
variable{o:Int}
def QO(h:aH k=true)(u:k.Calls≠100000)(i:(ar k.F.O p).o≠0)(d:(ar k.F.O o).o≠0)(w:p≠o):aH (yo k p o).1=true:=by
 unfold yo;split
 ·exact md h u
 obtain⟨O,y,A⟩:=iX h i;obtain⟨P,Q,R⟩:=iX h d;obtain⟨S,T,B,r,t⟩:=bZ h i;obtain⟨U,V,C,D,E⟩:=bZ h d;obtain⟨F,G,H,J,W,X,K⟩:=aI.1 h;obtain⟨L,M,N⟩:=bt.1 H;rw[C]at D E d;rw[B]at r t i;have a:∀q,nth (k.F.O.K.set p.toNat ⟨2,(nth k.F.O.K o.toNat).e⟩) q=if p.toNat=q then⟨2,(nth k.F.O.K o.toNat).e⟩ else nth k.F.O.K q:=λq=>by
  rw[cz];by_cases f:p.toNat=q
  ·rw[CA ⟨f,ω⟩,CA f]
  rw[C8 (λe=>f e.1),C8 f]
 refine M3 F G (bt.2 ⟨λj c=>?_,?_,?_⟩) (λj c l=>?_) ⟨r,t⟩ (by rw[<-A];exact y) ⟨by show 0<=k.Calls+1;omega,by show k.Calls+1<=100000;omega,K⟩
 ·simp only[xG,ig,U1]at c |-
  rw[a];split
  ·unfold kT;rw[C0];simp only;omega
  exact L j c
 ·simp only[xG,ig,U1];exact M
 ·simp only[xG,ig,U1];exact N
 replace c:j<k.F.V.k.length:=c;show nth k.F.V.k j=_;rw[J j c];refine decide_eq_decide.2 ?_;rw[ed,ed];simp only[xG,ig,U1,a];constructor
 ·rintro⟨q,n,g,b⟩
  refine⟨q,n,?_⟩;rw[C8 (λe=>l (by rw[<-b,<-e]))];exact⟨g,b⟩
 rintro⟨q,n,g,b⟩
 by_cases e:p.toNat=q
 ·rw[CA e]at b
  exact⟨o.toNat,ω,d,b⟩
 rw[C8 e]at g b;exact⟨q,n,g,b⟩
def H8(h:aH k=true)(b:(ar k.F.O p).o≠0)(a:(yo k p o).2=true)(q:Nat):(yo k p o).1.F.O.K.length=k.F.O.K.length/\nth (yo k p o).1.F.O.K q=if(q:Int)=p then⟨2,(nth k.F.O.K o.toNat).e⟩ else nth k.F.O.K q:=by
 obtain⟨d,f,-⟩:=bZ h b;unfold yo at a |-;split at a
 ·cases a
 rename_i c;rw[C8 c];simp only[(mr _ _).1];simp only[xG,ig,U1,cz];refine⟨trivial,?_⟩;by_cases e:(q:Int)=p
 ·rw[CA ⟨ω,ω⟩,CA e]
 rw[C8 λz=>e ω,C8 e]
def Lh(a:(yo k p o).2=false):(yo k p o).1=ig k:=by
 unfold yo at a |-;split
 ·rfl
 rename_i b;rw[C8 b]at a;cases a
def Ko(h:aH k=true)(g:0<=a)(b:0<=v/\v<=999):aH {k with F:=(kb k.F a v).1} = true/\(kb k.F a v).1.O=k.F.O:=by
 unfold kb;split
 ·exact⟨h,rfl⟩
 rename_i d;split
 ·exact⟨h,rfl⟩
 obtain⟨e,f,-⟩:=iX h d;exact⟨qn h e f (c:=a % 16) b,rfl⟩
def oG(t:aN)(p:Int):Prop:=∀q:Nat,(nth t.K q).o≠0->(nth t.K q).e=(nth t.K p.toNat).e->(q:Int)=p
structure JI(h:ac):Prop where
 ph:h.q=true->0<=h.y.a9/\h.y.a9<=3
 sp:h.q=true->∃a∈h.H,∃b∈h.H,a.Q=h.y.Y.a8/\b.Q=h.y.Y.a6/\meshable a b=true
 sk:h.q=true->oG (tbl h) h.y.Y.a8
 sm:h.q=true->oG (tbl h) h.y.Y.a6
def oG.tEq{t a:aN}{p:Int}(h:oG t p)(b:tEq t a):oG a p:=λq c d=>by
 obtain⟨e,f⟩:=b.2 q;exact h q (e.1 c) (by rw[<-f,<-(b.2 p.toNat).2];exact d)
theorem Pg.tEq{t b:aN}{c:List aC}{sp:List ay}{la:List aA}(h:Pg t c sp la)(a:tEq t b):Pg b c sp la where
 one l hl p hp q hq h1 h2:=h.one l hl p hp q (by rw[<-a.1];exact hq) ((a.2 q).1.1 h1) (by rw[<-(a.2 q).2,<-(a.2 p).2];exact h2)
 bnd p hp:=by rw[a.1];exact h.bnd p hp
 own p hp:=(a.2 p).1.trans (h.own p (by rw[<-a.1];exact hp))
 fre p hp:=(a.2 p).1.trans (h.fre p (by rw[<-a.1];exact hp))
 mesh s hs u hu hne hf:=h.mesh s hs u hu hne (by rw[<-(a.2 _).2,<-(a.2 u.Q.toNat).2];exact hf)
def bi.step(a:bi h E)(b:aH k=true)(c:k.F.O.K.length=(tbl h).K.length)(d:Pg k.F.O h.b h.H h.M){j:dy}{m:Bool}(h1:m=true->kq j=true/\(∃s∈h.H,s.Q=j.Y.a8)/\∃s∈h.H,s.Q=j.Y.a6)(e:m=false->wM j=true):bi {h with J:=k,q:=m,y:=j} E:=
 {a with
   ker:=b
   rng:=by show bC ((k.F.O.K.length:Nat):Int) h.b=true;rw[c];exact a.rng
   pg:=d
   job:=h1
   noj:=e}
variable{la:List aA}{sp:List ay}
def nH.apart(b:nH sp la)(c:s∈sp){l:aA}(d:l∈la)(a:p∈lpgs l l.a3.toNat):s.Q≠p:=by
 unfold lpgs at a;simp only[z4,List.mem_range]at a;obtain⟨k,e,rfl⟩:=a;exact b.dis s c l d k e
def Pg.on{t H:aN}{Q:List aC}(h:Pg t Q sp la)(r:nH sp la){a b:ay}(w:a∈sp)(L:b∈sp)(R:meshable a b=true)(A:oG t a.Q)(M:(nth t.K a.Q.toNat).o≠0)(N:(nth t.K b.Q.toNat).o≠0)(U:0<=b.Q)(J:H.K.length=t.K.length)(B:∀q:Nat,nth H.K q=if(q:Int)=b.Q then⟨2,(nth t.K a.Q.toNat).e⟩ else nth t.K q):Pg H Q sp la:=by
 have c:∀q:Nat,(nth H.K q).o≠0↔(nth t.K q).o≠0:=λq=>by
  rw[B];split
  ·rename_i e
   rw[show q=b.Q.toNat by omega];exact⟨λ_=>N,λ_=>by show(2:Int)≠0;omega⟩
  rfl
 have V:0<=a.Q:=by have:=r.sok a w;unfold bg at this;rw[C0]at this;omega
 refine⟨λl k p g q W S C=>?_,λp g=>by rw[J];exact h.bnd p g,λp g=>(c p).trans (h.own p (by rw[<-J];exact g)),λp g=>(c p).trans (h.fre p (by rw[<-J];exact g)),λs D u E F n=>?_⟩
 ·have O:¬(p:Int)=b.Q:=λe=>r.apart L k g e.symm
  rw[B p,C8 O,B q]at C;rw[c]at S;by_cases e:(q:Int)=b.Q
  ·rw[CA e]at C
   have T:=h.one l k p g a.Q.toNat (by have:=h.bnd _ (dG (la:=la) w);omega) M C;exact absurd (show a.Q=(p:Int) by omega) (r.apart w k g)
  rw[C8 e]at C;exact h.one l k p g q (by rw[<-J];exact W) S C
 have X:0<=s.Q:=by have:=r.sok s D;unfold bg at this;rw[C0]at this;omega
 have Y:0<=u.Q:=by have:=r.sok u E;unfold bg at this;rw[C0]at this;omega
 have d:∀x∈sp,∀y∈sp,x.Q=y.Q->x=y:=λx G y Z e=>by
  obtain⟨i,hi,rfl⟩:=bo G;obtain⟨j,hj,rfl⟩:=bo Z;rw[iz (f:=(·.Q)) r.nd hi hj e]
 have o:∀x∈sp,(nth t.K x.Q.toNat).o≠0:=λx G=>by
  have hx0:0<=x.Q:=by have:=r.sok x G;unfold bg at this;rw[C0]at this;omega
  refine(h.own x.Q.toNat (by have:=h.bnd _ (dG (la:=la) G);omega)).2 ?_;rw[show((x.Q.toNat:Nat):Int)=x.Q by omega];exact dG G
 rw[B,B]at n;simp only[show((s.Q.toNat:Nat):Int)=s.Q by omega,show((u.Q.toNat:Nat):Int)=u.Q by omega]at n;by_cases K:s.Q=b.Q
 ·rw[CA K,C8 (λe=>F (K.trans e.symm))]at n
  have T:=A u.Q.toNat (o u E) n.symm;rw[d s D b L K,d u E a w ω,je];exact R
 rw[C8 K]at n;by_cases P:u.Q=b.Q
 ·rw[CA P]at n
  have T:=A s.Q.toNat (o s D) n;rw[d u E b L P,d s D a w ω];exact R
 rw[C8 P]at n;exact h.mesh s D u E F n
def over(j:dy):Bool:=decide (j.a9=4\/j.a9=5)
def gl(k:ah)(j:dy):ah × dy:=if jmay k j=true then jstep k j else(k,j)
def mStep(h:ac):ac:={h with J:=(gl h.J h.y).1,q:=if over (gl h.J h.y).2=true then false else h.q,y:=if over (gl h.J h.y).2=true then⟨⟨0,0,[]⟩,0,0⟩ else(gl h.J h.y).2}
def Fr(h:ac):Bool:=decide ((gl h.J h.y).2.a9=4)
def fJ{j:dy} : kq j=true↔fo j.Y=true/\0<=j.a9/\j.a9<=5/\0<=j.w/\j.w<=j.Y.W.length:=by
 unfold kq;simp only[I0,C0]
def mB{p:cB}(h:fo p=true)(a:i<p.W.length):0<=nth p.W i/\nth p.W i<=15:=by
 unfold fo at h;simp only[I0]at h;have:=f8 h.1 a;unfold nr at this;rw[C0]at this;exact⟨this.1,this.2.1⟩
structure JS(h:ac)(k:ah)(j:dy):Prop where
 ker:aH k=true
 len:k.F.O.K.length=(tbl h).K.length
 pg:j.a9≠4\/JI h->Pg k.F.O h.b h.H h.M
 ph:0<=j.a9/\j.a9<=5
 plan:j.Y=h.y.Y
 nxt:0<=j.w/\j.w<=j.Y.W.length
 eq:j.a9≠4->tEq (tbl h) k.F.O
 calls:h.J.Calls<=k.Calls/\k.Calls<=h.J.Calls+1/\k.j=h.J.j
def vP(k:ah)(p m:Int):(gj k p m).1.Calls=k.Calls+1/\(gj k p m).1.j=k.j:=by
 unfold gj;split<;>exact⟨rfl,rfl⟩
def N0(k:ah)(p o:Int):(yo k p o).1.Calls=k.Calls+1/\(yo k p o).1.j=k.j:=by
 unfold yo;split
 ·exact⟨rfl,rfl⟩
 obtain⟨-,a,b,-⟩:=mr (xG (ig k) p.toNat ⟨2,(nth k.F.O.K o.toNat).e⟩) (nth k.F.O.K p.toNat).e;simp only[a,b];exact⟨rfl,rfl⟩
def JS.of(c:bi h E)(B:h.q=true):JS h (gl h.J h.y).1 (gl h.J h.y).2:=by
 obtain⟨R,-,-⟩:=c.job B;obtain⟨O,y,A,o,p⟩:=fJ.1 R;unfold gl;split
 case isFalse=>exact⟨c.ker,rfl,λ_=>c.pg,⟨y,A⟩,rfl,⟨o,p⟩,λ_=>tEq.refl _,V4 _,by show h.J.Calls<=h.J.Calls+1;omega,rfl⟩
 rename_i d;unfold jmay at d;simp only[I0,C0]at d;obtain⟨⟨-,C⟩,-,u,r,D⟩:=d;have fin:∀(k:ah)(j:dy),aH k=true->tEq (tbl h) k.F.O->0<=j.a9/\j.a9<=5->j.Y=h.y.Y->0<=j.w/\j.w<=j.Y.W.length->h.J.Calls<=k.Calls/\k.Calls<=h.J.Calls+1/\k.j=h.J.j->JS h k j:=
  λk j S F T U V W=>⟨S,F.1,λ_=>c.pg.tEq F,T,U,V,λ_=>F,W⟩
 have P:=(aI.1 c.ker).2.2.2.2;unfold jstep;split
 ·obtain⟨l,w⟩:=FQ c.ker C r (m:=1) (.inl rfl)
  obtain⟨g,t⟩:=vP h.J h.y.Y.a6 1;refine fin _ _ l w ?_ rfl ⟨o,p⟩ ⟨by rw[g];omega,by rw[g];omega,t⟩;show 0<=(if _ then _ else _:Int)/\(if _ then _ else _:Int)<=5;split<;>omega
 split
 ·split
  ·exact fin _ _ c.ker (tEq.refl _) ⟨by show(0:Int)<=2;omega,by show(2:Int)<=5;omega⟩ rfl ⟨o,p⟩ ⟨V4 _,by show h.J.Calls<=h.J.Calls+1;omega,rfl⟩
  have n:=mB O (i:=h.y.w.toNat) ω;refine fin _ _ (M5 c.ker r u n) (tEq.refl _) ⟨y,A⟩ rfl ⟨by show 0<=h.y.w+1;omega,by show h.y.w+1<=h.y.Y.W.length;omega⟩ ⟨V4 _,by show h.J.Calls<=h.J.Calls+1;omega,rfl⟩
 split
 ·have G:h.y.Y.a6≠h.y.Y.a8:=λe=>D (by rw[e])
  have l:=QO c.ker C r u G;obtain⟨g,t⟩:=N0 h.J h.y.Y.a6 h.y.Y.a8;cases e:(yo h.J h.y.Y.a6 h.y.Y.a8).2 with
  | false=>
   rw[C8 (by simp)];refine fin _ _ l (tEq.of ?_) ⟨by show(0:Int)<=3;omega,by show(3:Int)<=5;omega⟩ rfl ⟨o,p⟩ ⟨by rw[g];omega,by rw[g];omega,t⟩;rw[Lh e];rfl
  | true=>
   rw[CA rfl];obtain⟨X,m2,Y,-⟩:=bZ c.ker r;obtain⟨n1,n2,Z,-⟩:=bZ c.ker u;have f:=H8 c.ker r e;refine⟨l,(f 0).1,λH=>?_,⟨by show(0:Int)<=4;omega,by show(4:Int)<=5;omega⟩,rfl,⟨o,p⟩,λJ=>absurd rfl J,by rw[g];omega,by rw[g];omega,t⟩;have Q:JI h:=H.elim (λJ=>absurd rfl J) id;obtain⟨a,ha,b,hb,K,M,N⟩:=Q.sp B;refine c.pg.on c.L ha hb N (by rw[K];exact Q.sk B) (by rw[K];show(nth h.J.F.O.K _).o≠0;rw[<-Z];exact u) (by rw[M];show(nth h.J.F.O.K _).o≠0;rw[<-Y];exact r) (by rw[M];exact X) (f 0).1 λq=>?_
   rw[(f q).2,M,K];rfl
 split
 ·split
  ·rename_i hn0
   have n:=mB O (i:=(h.y.w - 1).toNat) ω;have hk0:=(bZ c.ker u).1;obtain⟨l,w⟩:=Ko c.ker (a:=h.y.Y.a8*16+nth h.y.Y.W (h.y.w - 1).toNat) (v:=0) ω ⟨ω,ω⟩;exact fin _ _ l (tEq.of w) ⟨y,A⟩ rfl ⟨by show 0<=h.y.w - 1;omega,by show h.y.w - 1<=h.y.Y.W.length;omega⟩ ⟨V4 _,by show h.J.Calls<=h.J.Calls+1;omega,rfl⟩
  obtain⟨l,w⟩:=FQ c.ker C r (m:=2) (.inr rfl);obtain⟨g,t⟩:=vP h.J h.y.Y.a6 2;refine fin _ _ l w ?_ rfl ⟨o,p⟩ ⟨by rw[g];omega,by rw[g];omega,t⟩;show 0<=(if _ then _ else _:Int)/\(if _ then _ else _:Int)<=5;split<;>omega
 exact fin _ _ c.ker (tEq.refl _) ⟨y,A⟩ rfl ⟨o,p⟩ ⟨V4 _,by show h.J.Calls<=h.J.Calls+1;omega,rfl⟩
def bi.mStep{h:ac}{E:List Int}(d:bi h E)(f:JI h)(c:h.q=true):bi (mStep h) E/\JI (mStep h):=by
 have s:=JS.of d c;unfold Ab.mStep;generalize (gl h.J h.y).1=k at s |-;generalize (gl h.J h.y).2=j at s |-;cases e:over j with
 | true=>
  refine⟨d.step s.ker s.len (s.pg (.inr f)) (λh=>by simp at h) (λ_=>by simp[wM]),?_⟩;exact⟨λh=>by simp at h,λh=>by simp at h,λh=>by simp at h,λh=>by simp at h⟩
 | false=>
  simp only[Bool.false_eq_true,if_false];unfold over at e;simp only[S4,not_or]at e;have g:=s.eq e.1;have i:=s.ph;refine⟨d.step s.ker s.len (s.pg (.inr f)) (λ_=>⟨fJ.2 ⟨by rw[s.plan];exact(fJ.1 (d.job c).1).1,s.ph.1,s.ph.2,s.nxt⟩,by rw[s.plan];exact(d.job c).2⟩) (λh=>by rw[c]at h;cases h),?_⟩;refine⟨λ_=>⟨s.ph.1,by show j.a9<=3;omega⟩,λ_=>?_,λ_=>?_,λ_=>?_⟩
  ·show ∃a∈h.H,∃b∈h.H,a.Q=j.Y.a8/\b.Q=j.Y.a6/\meshable a b=true
   rw[s.plan];exact f.sp c
  ·show oG k.F.O j.Y.a8
   rw[s.plan];exact(f.sk c).tEq g
  show oG k.F.O j.Y.a6;rw[s.plan];exact(f.sm c).tEq g
def tc(k:ah)(a:Int):Int:=nth (nth k.F.V.W (ar k.F.O (a / 16)).e.toNat) (a % 16).toNat
def cellsOf(k:ah)(a:Int)(n:Nat):List Int:=(List.range n).map λ(i:Nat)=>tc k (a+i)
def wX(h:0<=aV n):1<=n/\n<=8:=by
 unfold aV at h;split at h
 ·omega
 split at h
 ·omega
 split at h
 ·omega
 split at h
 ·omega
 split at h<;>omega
def RS{α:Type}[Inhabited α](f:α->Int)(xs:List α):Nat->Int
 | 0=>0
 | i+1=>RS f xs i+f (nth xs i)
def bor(n m:Int):Int:=((n.toNat ||| m.toNat:Nat):Int)
def vi(sp:List ay)(p:Int)(b:Int):Nat->Int
 | 0=>b
 | j+1=>if(nth sp j).Q=p then bor (vi sp p b j) (nth sp j).a7 else vi sp p b j
def my(sp:List ay)(ps:List Int)(b:Int):Nat->Int
 | 0=>b
 | k+1=>vi sp (nth ps k) (my sp ps b k) sp.length
def fC(h:ac)(i:Nat):Int:=my h.H (b6 h (nth h.H i).Q) (nth h.H i).a7 (b6 h (nth h.H i).Q).length
def GT{m:Int}(h1:0<=n/\n<=65535)(a:0<=m/\m<=65535):0<=bor n m/\bor n m<=65535:=by
 have b:n.toNat ||| m.toNat<2 ^ 16:=Nat.or_lt_two_pow ω ω
 unfold bor;omega
def p6(h:∀s∈sp,bg s=true)(b:j<sp.length):0<=(nth sp j).a7/\(nth sp j).a7<=65535:=by
 have a:=h _ (ax b);have c:=G1 (nth sp j).Z;unfold bg at a;rw[C0]at a;omega
def Bl{sp:List ay}(h:∀s∈sp,bg s=true){p b:Int}(a:0<=b/\b<=65535):∀j,j<=sp.length->0<=vi sp p b j/\vi sp p b j<=65535
 | 0,_=>a
 | j+1,d=>by
  have c:=Bl h (p:=p) a j ω;simp only[vi];split
  ·exact GT c (p6 h ω)
  exact c
def oq{sp:List ay}(h:∀s∈sp,bg s=true){ps:List Int}{b:Int}(a:0<=b/\b<=65535):∀k,0<=my sp ps b k/\my sp ps b k<=65535
 | 0=>a
 | k+1=>by simp only[my];exact Bl h (oq h a k) _ (C3 _)
def nk{i:Int}(a:0<=b)(c:0<=i/\i<=15):aW b i=b.toNat.testBit i.toNat:=by
 unfold aW;rw[Nat.testBit_eq_decide_div_mod_eq];refine decide_eq_decide.2 ?_;obtain⟨n,rfl⟩ : ∃n:Nat,b=n:=⟨b.toNat,ω⟩
 rw[X2];have d:((n / 2 ^ i.toNat:Nat):Int)=(n:Int) / 2 ^ i.toNat:=by simp
 omega
def Gf{m i:Int}(b:0<=n)(c:0<=m)(a:0<=i/\i<=15):aW (bor n m) i=(aW n i || aW m i):=by
 rw[nk (by unfold bor;omega) a,nk b a,nk c a];unfold bor;rw[X2,Nat.testBit_or]
def Et{sp:List ay}(h:∀s∈sp,bg s=true){p b i:Int}(k:0<=b/\b<=65535)(l:0<=i/\i<=15):∀j,j<=sp.length->(aW (vi sp p b j) i=true↔aW b i=true\/∃q,q<j/\(nth sp q).Q=p/\aW (nth sp q).a7 i=true)
 | 0,_=>by simp[vi]
 | j+1,t=>by
  have n:=Et h (p:=p) k l j ω;have o:=Bl h (p:=p) k j ω;have r:=p6 h (j:=j) ω;simp only[vi];split
  ·rename_i d
   rw[Gf o.1 r.1 l,T5,n];constructor
   ·rintro((e|⟨q,f,a⟩)|e)
    ·exact .inl e
    ·exact .inr ⟨q,ω,a⟩
    exact .inr ⟨j,ω,d,e⟩
   rintro(e|⟨q,f,a,c⟩)
   ·exact .inl (.inl e)
   by_cases g:q=j
   ·subst g;exact .inr c
   exact .inl (.inr ⟨q,ω,a,c⟩)
  rename_i d;rw[n];constructor
  ·rintro(e|⟨q,f,a⟩)
   ·exact .inl e
   exact .inr ⟨q,ω,a⟩
  rintro(e|⟨q,f,a,c⟩)
  ·exact .inl e
  by_cases g:q=j
  ·subst g;exact absurd a d
  exact .inr ⟨q,ω,a,c⟩
def AC{sp:List ay}(h:∀s∈sp,bg s=true){ps:List Int}{b i:Int}(d:0<=b/\b<=65535)(f:0<=i/\i<=15):∀k,(aW (my sp ps b k) i=true↔aW b i=true\/∃u,u<k/\∃q,q<sp.length/\(nth sp q).Q=nth ps u/\aW (nth sp q).a7 i=true)
 | 0=>by simp[my]
 | k+1=>by
  have g:=AC h (ps:=ps) d f k;have j:=oq h (ps:=ps) d k;simp only[my];rw[Et h j f _ (C3 _),g];constructor
  ·rintro((e|⟨u,c,a⟩)|⟨q,c,a⟩)
   ·exact .inl e
   ·exact .inr ⟨u,ω,a⟩
   exact .inr ⟨k,ω,q,c,a⟩
  rintro(e|⟨u,c,a⟩)
  ·exact .inl (.inl e)
  by_cases l:u=k
  ·subst l;exact .inr a
  exact .inl (.inr ⟨u,ω,a⟩)
def kh(p:α->Bool)(xs:List α):Nat:=(xs.findIdx? p).getD xs.length
def jt(p:α->Bool)(xs:List α)(y:α):List α:=xs.take (kh p xs)++y::xs.drop (kh p xs)
def NX(p:α->Bool)(xs:List α):kh p xs<=xs.length:=by
 unfold kh;cases e:xs.findIdx? p with
 | none=>exact C3 _
 | some i=>exact Nat.le_of_lt (C6.1 e).1
def kI(p:α->Bool)(xs:List α)(y:α):(jt p xs y).Perm (y::xs):=by
 unfold jt;refine List.perm_middle.trans ?_;rw[List.take_append_drop]
def dr{p:α->Bool}{xs:List α}{y z:α} : z∈jt p xs y↔z=y\/z∈xs:=by
 rw[(kI p xs y).mem_iff,List.mem_cons]
def vt{p:α->Bool}{xs:List α}(c:i<=xs.length)(a:∀(j:Nat)(z:α),j<i->xs[j]? = some z->p z=false)(b:∀z,xs[i]? = some z->p z=true):kh p xs=i:=by
 unfold kh;by_cases e:i<xs.length
 ·rw[vq (O2 e) (b _ (O2 e)) a];rfl
 rw[Df ω a];show xs.length=i;omega
def ly{f:α->Int}{xs:List α}{y:α}(h:xs.Pairwise λa b=>f a<f b)(p:∀z∈xs,f z≠f y):(jt (λz=>decide (f y<=f z)) xs y).Pairwise λa b=>f a<f b:=by
 have q:∀z∈xs.drop (kh (λz=>decide (f y<=f z)) xs),f y<f z:=λz g=>by
  obtain⟨j,k,rfl⟩:=List.mem_drop_iff_getElem.1 g;have C:=p _ (List.getElem_mem k);cases e:xs.findIdx? (λz=>decide (f y<=f z)) with
  | none=>
   have l:kh (λz=>decide (f y<=f z)) xs=xs.length:=by unfold kh;rw[e];rfl
   rw[l]at k;omega
  | some i=>
   have l:kh (λz=>decide (f y<=f z)) xs=i:=by unfold kh;rw[e];rfl
   obtain⟨r,t,-⟩:=C6.1 e;rw[C0]at t;have c:i+j<xs.length:=by rw[<-l];omega
   have n:f xs[i+j]≠f y:=p _ (List.getElem_mem c);have d:f y<f xs[i+j]:=by
    cases j with
    | zero=>simp only[Nat.add_zero]at n |-;omega
    | succ j=>
     have:=List.pairwise_iff_getElem.1 h i (i+(j+1)) r c ω;omega
   have w:xs[kh (λz=>decide (f y<=f z)) xs+j]? = xs[i+j]?:=by rw[l]
   rw[O2 ω,O2 c]at w;rw[Option.some.inj w];exact d
 have A:∀z∈xs.take (kh (λz=>decide (f y<=f z)) xs),f z<f y:=λz g=>by
  obtain⟨j,k,rfl⟩:=List.mem_take_iff_getElem.1 g;unfold kh at k;cases e:xs.findIdx? (λz=>decide (f y<=f z)) with
  | none=>
   have:=List.findIdx?_eq_none_iff.1 e _ (List.getElem_mem (show j<xs.length by omega));simp only[S4]at this;omega
  | some i=>
   obtain⟨r,t,B⟩:=C6.1 e;simp only[e,Option.getD_some]at k;have:=B j ω;simp only[C0]at this;omega
 unfold jt;refine List.pairwise_append.2 ⟨h.sublist (List.take_sublist ..),List.pairwise_cons.2 ⟨q,h.sublist (List.drop_sublist ..)⟩,λz g u o=>?_⟩;rcases List.mem_cons.1 o with rfl|o
 ·exact A z g
 exact Int.lt_trans (A z g) (q u o)
def i9(b i:Int):Int:=((b.toNat ||| 2 ^ i.toNat:Nat):Int)
def rK(s:ay)(i:Int):ay:={s with a7:=i9 s.a7 i}
def ww(b i:Int)(j:Nat):(i9 b i).toNat.testBit j=(b.toNat.testBit j || decide (i.toNat=j)):=by
 unfold i9;rw[X2,Nat.testBit_or,Nat.testBit_two_pow]
def GH{i:Int}(g:0<=b)(e:0<=i/\i<=15)(j:Int):aW (i9 b i) j=true↔aW b j=true\/j=i:=by
 rw[ia,ia,ww,T5,C0];have f:0<=i9 b i:=by unfold i9;omega
 constructor
 ·rintro⟨h,c,d,a|a⟩
  ·exact .inl ⟨g,c,d,a⟩
  exact .inr ω
 rintro(⟨h,c,d,a⟩|rfl)
 ·exact⟨f,c,d,.inl a⟩
 exact⟨f,e.1,e.2,.inr rfl⟩
def jw{k:Int}(h:0<=k/\k<=3):lim k=2 ^ (slots k).toNat - 1/\0<=slots k/\slots k<=16/\slots k*csz k=16:=by
 obtain rfl|rfl|rfl|rfl:k=0\/k=1\/k=2\/k=3:=ω
 all_goals decide
def Jq(h:bg s=true){i:Int}(k:0<=i/\i<slots s.Z):bg (rK s i)=true:=by
 have b:=aL h;obtain⟨c,l,o,-⟩:=jw b.2.2;unfold bg at h;rw[C0]at h;obtain⟨d,e,f,g,p,a⟩:=h;refine O0 ⟨d,e,f,g,by show 0<=i9 s.a7 i;unfold i9;omega,?_⟩;show i9 s.a7 i<=lim s.Z;rw[c]at a |-;have j:((2 ^ (slots s.Z).toNat:Nat):Int)=(2:Int) ^ (slots s.Z).toNat:=by norm_cast
 rw[<-j]at a |-;have:=Nat.or_lt_two_pow (x:=s.a7.toNat) (y:=2 ^ i.toNat) (n:=(slots s.Z).toNat) ω (Nat.pow_lt_pow_right ω ω);unfold i9;omega
def Au{u:ay}{i:Int}(b:0<=i/\i<slots s.Z)(c:aW u.a7 i=false)(h:meshable s u=true):meshable (rK s i) u=true:=by
 unfold meshable at h |-;simp only[I0,C0]at h |-;obtain⟨⟨d,f⟩,k,l,o⟩:=h;have p:=aL d;obtain⟨r,t,w,-⟩:=jw p.2.2;have a:=dQ f;refine⟨⟨Jq d b,f⟩,k,l,?_⟩;refine Nat.eq_of_testBit_eq λj=>?_
 have g:=X0 (λn=>Nat.testBit n j) o;simp only[Nat.testBit_and,Nat.zero_testBit,rK,ww]at g |-;by_cases e:i.toNat=j
 ·have:u.a7.toNat.testBit j=false:=by
   rw[<-Z4];intro q;have:=(ia u.a7 i).2 ⟨a.1,b.1,ω,by rw[e];exact q⟩;rw[this]at c;cases c
  rw[this];simp
 rw[U0 e,Bool.or_false];exact g
def tt(h:bg s=true){i:Int}(n:0<=i/\i<slots s.Z)(b:Int):eS (rK s i) b↔eS s b\/b=16*s.Q+i*csz s.Z:=by
 have g:=aL h;obtain⟨o,p,k,l⟩:=jw g.2.2;have j:=cT g.2.2;unfold eS;simp only[rK];rw[GH (dQ h).1 ω];constructor
 ·rintro⟨d,f,c,a|a⟩
  ·exact .inl ⟨d,f,c,a⟩
  right
  rcases j with e|e|e|e<;>rw[e]at c a |-<;>omega
 rintro(⟨d,f,c,a⟩|rfl)
 ·exact⟨d,f,c,.inl a⟩
 have q:slots s.Z<=16:=k;rcases j with e|e|e|e<;>rw[e]at l |-<;>refine⟨?_,?_,?_,.inr ?_⟩<;>omega
def J7(k:Int)(a:i<sp.length):(sp.set i (rK (nth sp i) k)).map (·.Q)=sp.map (·.Q):=by
 rw[S5];refine List.ext_getElem (by simp) λj b c=>?_
 rw[List.getElem_set];split
 ·rename_i e;subst e
  rw[List.getElem_map];show(nth sp i).Q=_;rw[bD (O2 a)]
 rfl
def iU.setS(p:nH sp la)(g:i<sp.length){k:Int}(h:0<=k/\k<slots (nth sp i).Z)(b c:Int):iU (sp.set i (rK (nth sp i) k)) b c↔iU sp b c\/(b=16*(nth sp i).Q+k*csz (nth sp i).Z/\(c<0\/(nth sp i).Z=c)):=by
 have d:=p.sok _ (ax g);constructor
 ·rintro⟨s,l,f,a⟩
  rcases fx l with rfl|⟨j,n,q,rfl⟩
  ·rcases(tt d h b).1 f with o|o
   ·exact .inl ⟨_,ax g,o,a⟩
   exact .inr ⟨o,a⟩
  exact .inl ⟨_,ax n,f,a⟩
 rintro(⟨s,l,f,a⟩|⟨f,a⟩)
 ·obtain⟨j,n,rfl⟩:=bo l
  by_cases e:j=i
  ·subst e
   exact⟨_,iu _ g,(tt d h b).2 (.inl f),a⟩
  exact⟨_,jB _ n e,f,a⟩
 exact⟨_,iu _ g,(tt d h b).2 (.inr f),a⟩
def PT(d:bi h E)(l:i<h.H.length){k:Int}(p:0<=k/\k<=15)(b:aW (fC h i) k=false):aW (nth h.H i).a7 k=false/\∀u∈h.H,(nth (tbl h).K u.Q.toNat).e=(nth (tbl h).K (nth h.H i).Q.toNat).e->aW u.a7 k=false:=by
 have e:=d.L;have q:=dQ (e.sok _ (ax l));unfold fC at b;rw[<-Z4,AC e.sok q p]at b;rw[not_or]at b;have r:aW (nth h.H i).a7 k=false:=by simpa using b.1
 have a:∀s∈h.H,s.Q.toNat<gn h/\(nth (tbl h).K s.Q.toNat).o≠0/\((s.Q.toNat:Nat):Int)=s.Q:=λs f=>by
  have K:=aL (e.sok s f);have M:=d.pg.bnd s.Q (dG f);have n:s.Q.toNat<(tbl h).K.length:=ω
  have o:((s.Q.toNat:Nat):Int)=s.Q:=ω
  exact⟨n,(d.pg.own _ n).2 (by rw[o];exact dG f),o⟩
 refine⟨r,λu c t=>?_⟩;rw[<-Z4];intro w;obtain⟨y,A,B⟩:=a _ (ax l);obtain⟨C,D,F⟩:=a u c;have G:u.Q∈b6 h (nth h.H i).Q:=by
  rw[<-B,eK y A,<-F];exact ec.2 ⟨C,D,t⟩
 obtain⟨v,H,g⟩:=bo G;obtain⟨j,J,rfl⟩:=bo c;exact b.2 ⟨v,H,j,J,g.symm,w⟩
def bi.take{k sd:Int}(g:bi h E)(C:i<h.H.length)(D:0<=k/\k<slots (nth h.H i).Z)(r:aW (fC h i) k=false)(M:0<=sd/\sd<=1073741823) :
  bi {h with b5:=sd,H:=h.H.set i (rK (nth h.H i) k)} ((16*(nth h.H i).Q+k*csz (nth h.H i).Z)::E):=by
 have F:=g.L;have T:=F.sok _ (ax C);have Q:=aL T;obtain⟨l1,l2,l3,l4⟩:=jw Q.2.2;have hz:=cT Q.2.2;obtain⟨u1,u2⟩:=PT g C ⟨D.1,ω⟩ r;have n:=λb c=>iU.setS F C D b c
 have w:=J7 k C;generalize ha:16*(nth h.H i).Q+k*csz (nth h.H i).Z=a at n |-;have G:¬eS (nth h.H i) a:=by
  rintro⟨-,-,-,h4⟩
  have:(a - 16*(nth h.H i).Q) / csz (nth h.H i).Z=k:=by
   rw[<-ha];rcases hz with e|e|e|e<;>rw[e]<;>omega
  rw[this,u1]at h4;cases h4
 have hrange:16*(nth h.H i).Q<=a/\a<=16*(nth h.H i).Q+15:=by
  rcases hz with e|e|e|e<;>rw[e]at ha l4<;>omega
 have U:¬mj h.H h.M a:=by
  rintro(⟨s,p,d,-⟩|⟨l,hl,e⟩)
  ·obtain⟨j,V,rfl⟩:=bo p
   have:=iz (f:=(·.Q)) F.nd V C (by have a1:=d.1;have a2:=d.2.1;omega);subst this;exact G d
  exact(wY F hl).1 _ (ax C) ω
 have W:a∉E++holders h:=λX=>U ((g.mem a).1 X)
 have q:∀s∈h.H.set i (rK (nth h.H i) k),∃u∈h.H,u.Q=s.Q/\(s=u\/(u=nth h.H i/\s=rK u k)):=λs p=>by
  rcases fx p with rfl|⟨j,V,hji,rfl⟩
  ·exact⟨_,ax C,rfl,.inr ⟨rfl,rfl⟩⟩
  exact⟨_,ax V,rfl,.inl rfl⟩
 generalize hsp:h.H.set i (rK (nth h.H i) k)=sp at n w q |-;have t:pgs sp h.M=pgs h.H h.M:=by unfold pgs;rw[w]
 have N:∀u∈h.H,∃s∈sp,s.Q=u.Q:=λu r=>by
  have:u.Q∈sp.map (·.Q):=by rw[w];exact z4.2 ⟨u,r,rfl⟩
  obtain⟨s,p,e⟩:=z4.1 this;exact⟨s,p,e⟩
 exact {g with
   lay:=by
     obtain⟨l1,l2,l3⟩:=dI g.lay;unfold bA;simp only[I0,C0];refine⟨⟨Z3.2 λs p=>?_,l2⟩,by rw[t];exact l3⟩;obtain⟨u,r,-,rfl|⟨rfl,rfl⟩⟩:=q s p
     · exact F.sok _ r
     exact Jq (F.sok _ r) D
   srs:=by
     have d:(h.H.map (·.Q)).Pairwise (λa b=>a<b):=List.pairwise_map.2 g.srs;rw[<-w]at d;exact List.pairwise_map.1 d
   pg:=⟨g.pg.one,by rw[t];exact g.pg.bnd,by rw[t];exact g.pg.own,g.pg.fre,λs p u r O hf=>by
     obtain⟨R,A,Y,Z⟩:=q s p;obtain⟨S,B,eu,P⟩:=q u r;have H:(nth (tbl h).K R.Q.toNat).e=(nth (tbl h).K S.Q.toNat).e:=by rw[Y,eu];exact hf
     have d:=g.pg.mesh R A S B (by rw[Y,eu];exact O) H;rcases Z with rfl|⟨rfl,rfl⟩
     · rcases P with rfl|⟨rfl,rfl⟩
       · exact d
       rw[je]at d |-;exact Au D (u2 _ A H) d
     rcases P with rfl|⟨rfl,rfl⟩
     · exact Au D (u2 _ B H.symm) d
     exact absurd (Y.symm.trans eu) O⟩
   nums:=by
     have:=g.nums;unfold dh at this |-;rw[C0]at this |-;exact⟨M.1,M.2,this.2.2⟩
   oow:=λo ho=>by
     rcases g.oow o ho with⟨s,p,d,h2⟩|d
     · obtain⟨u,r,g1,K⟩:=(n o.Addr (aV o.a2)).2 (.inl ⟨s,p,d,.inr h2⟩)
       refine .inl ⟨u,r,g1,?_⟩;rcases K with K|K
       · have:=aL (F.sok _ p);omega
       exact K
     exact .inr d
   hca:=λc Q k D b J=>(n b k).2 (.inl (g.hca c Q k D b J))
   hqu:=λy hy=>(n _ _).2 (.inl (g.hqu y hy))
   hfl:=λb J=>(n _ _).2 (.inl (g.hfl b J))
   hin:=λb J=>by
     rcases List.mem_cons.1 J with rfl|J
     · exact(n _ _).2 (.inr ⟨rfl,.inl (by decide)⟩)
     exact(n _ _).2 (.inl (g.hin b J))
   nd:=by
     rw[List.cons_append];exact List.nodup_cons.2 ⟨W,g.nd⟩
   mem:=λb=>by
     show b∈a::E++holders h↔mj sp h.M b;rw[List.cons_append,List.mem_cons,g.mem b];unfold mj;rw[n];constructor
     · rintro(rfl|d|d)
       · exact .inl (.inr ⟨rfl,.inl (by decide)⟩)
       · exact .inl (.inl d)
       exact .inr d
     rintro((d|⟨d,-⟩)|d)
     · exact .inr (.inl d)
     · exact .inl d
     exact .inr (.inr d)
   job:=λX=>by
     obtain⟨j1,⟨s,p,e1⟩,⟨u,r,e2⟩⟩:=g.job X;obtain⟨R,A,g1⟩:=N s p;obtain⟨S,B,K⟩:=N u r;exact⟨j1,⟨R,A,g1.trans e1⟩,⟨S,B,K.trans e2⟩⟩}
def qC(c:aE)(k:Nat):aE:=⟨c.X.set k ((nth c.X k).take ((nth c.X k).length - 1))⟩
def LR{l:List Int}(h:0<l.length):l=l.take (l.length - 1)++[nth l (l.length - 1)]:=by
 have a:l.drop (l.length - 1)=[nth l (l.length - 1)]:=by
  rw[gR ω,show l.length - 1+1=l.length by omega,List.drop_length]
 rw[<-a,List.take_append_drop]
def bi.pop{k:Nat}(f:bi h E)(l:t<h.T.length)(p:k<(nth h.T t).X.length)(u:0<(nth (nth h.T t).X k).length)(w:bF (qC (nth h.T t) k)=true) :
  bi {h with T:=h.T.set t (qC (nth h.T t) k)} (nth (nth (nth h.T t).X k) ((nth (nth h.T t).X k).length - 1)::E)/\iU h.H (nth (nth (nth h.T t).X k) ((nth (nth h.T t).X k).length - 1)) k:=by
 have q:=LR u;have n:=f.hca _ (ax l) k p (nth (nth (nth h.T t).X k) ((nth (nth h.T t).X k).length - 1)) (ax ω);refine⟨?_,n⟩;generalize D:nth (nth (nth h.T t).X k) ((nth (nth h.T t).X k).length - 1)=a at q n |-;have r:(E++holders h).Perm (a::E++holders {h with T:=h.T.set t (qC (nth h.T t) k)}):=by
  refine List.perm_iff_count.2 λb=>?_
  have A:=iB (λc:aE=>c.X.flatten) b h.T t (qC (nth h.T t) k) l;have B:=iB (λy:List Int=>y) b (nth h.T t).X k ((nth (nth h.T t).X k).take ((nth (nth h.T t).X k).length - 1)) p;rw[<-lh,<-lh]at B;have C:=X0 (List.count b) q;simp only[O5,List.count_singleton]at C;simp only[qC]at A;simp only[holders,cy,qC,O5,List.cons_append,List.count_cons];omega
 exact {f with
   nc:=by show(h.T.set ..).length=_;rw[U1];exact f.nc
   cach:=λc d=>by
     rcases V5 d with d|rfl
     · exact f.cach c d
     exact w
   onu:=by show ∀o∈h.R,1<=o.Id/\o.Id<=h.w - 1/\0<=o.a0/\o.a0<=(h.T.set t _).length - 1;rw[U1];exact f.onu
   hca:=λc d j i b g=>by
     rcases V5 d with d|rfl
     · exact f.hca c d j i b g
     simp only[qC,U1]at i;simp only[qC,cz]at g;by_cases e:k=j
     · subst e
       rw[CA ⟨rfl,i⟩]at g;exact f.hca _ (ax l) _ i b (List.mem_of_mem_take g)
     rw[C8 λy=>e y.1]at g;exact f.hca _ (ax l) _ i b g
   hin:=λb g=>by
     rcases List.mem_cons.1 g with rfl|g
     · exact n.any
     exact f.hin b g
   nd:=r.nodup_iff.1 f.nd
   mem:=λb=>by rw[<-r.mem_iff];exact f.mem b}
def NE(a:Int)(o:bc):Bool:=decide (a<=o.Addr)
def addO(h:ac)(a size t:Int):ac:={h with R:=jt (NE a) h.R ⟨h.w,a,size,t⟩,w:=h.w+1}
def Ai(a:dh h=true)(b:h.w<1000000):decide (0<=h.b5/\h.b5<=1073741823/\0<=h.b0/\h.b0<=1000000/\0<=h.c1/\h.c1<=1000/\1<=h.w+1/\h.w+1<=1000000)=true:=by
 unfold dh at a;rw[C0]at a |-;omega
def bi.addO{h:ac}{E:List Int}{a size t:Int}(c:bi h (a::E))(d:Ld h.H h.M ⟨h.w,a,size,t⟩)(p:h.w<1000000)(q:0<=t/\t<=h.T.length - 1):bi (addO h a size t) E:=by
 have i:=kI (NE a) h.R ⟨h.w,a,size,t⟩;have n:(a::E++holders h).Perm (E++holders (Ab.addO h a size t)):=by
  have r:=i.map (·.Addr);refine List.perm_iff_count.2 λb=>?_
  have u:=r.count_eq b;simp only[I5,List.count_cons]at u;simp only[holders,cy,Ab.addO,O5,List.cons_append,List.count_cons];omega
 have j:=c.nd;rw[List.cons_append]at j;obtain⟨k,-⟩:=List.nodup_cons.1 j;have l:∀o∈h.R,o.Addr≠a:=λo d e=>k (z3.2 (.inr (by unfold holders;simp only[z3];exact .inl (.inl (.inl (z4.2 ⟨o,d,e⟩))))))
 exact {c with
   nums:=Ai c.nums p
   osr:=ly (f:=λo:bc=>o.Addr) (y:=⟨h.w,a,size,t⟩) c.osr l
   onu:=λo d=>by
     rcases dr.1 d with rfl|d
     · have:=c.nums
       unfold dh at this;rw[C0]at this;exact⟨by show 1<=h.w;omega,by show h.w<=h.w+1 - 1;omega,q⟩
     have:=c.onu o d;exact⟨this.1,by show o.Id<=h.w+1 - 1;omega,this.2.2⟩
   oid:=by
     show((jt (NE a) h.R ⟨h.w,a,size,t⟩).map (·.Id)).Nodup;rw[(i.map _).nodup_iff,I5];refine List.nodup_cons.2 ⟨λw=>?_,c.oid⟩;obtain⟨o,d,e⟩:=z4.1 w;have:=(c.onu o d).2.1;simp only at e;omega
   oow:=λo g=>by
     rcases dr.1 g with rfl|g
     · exact d
     exact c.oow o g
   hin:=λb A=>c.hin b (Y4 _ A)
   nd:=n.nodup_iff.1 c.nd
   mem:=λb=>by rw[<-n.mem_iff];exact c.mem b}
def iQ(xs:List aC)(n:Int):Nat->Int
 | 0=>-1
 | i+1=>if n<=(nth xs i).a4/\(iQ xs n i<0\/(nth xs i).a4<(nth xs (iQ xs n i).toNat).a4) then(i:Nat) else iQ xs n i
def gI(xs:List aC)(n:Int):Int:=iQ xs n xs.length
def aB(xs:List aC)(n:Int):List aC × Int × Bool:=
 if gI xs n<0 then(xs,-1,false)
 else if(nth xs (gI xs n).toNat).a4=n then(dele xs (gI xs n).toNat,(nth xs (gI xs n).toNat).At,true)
 else(xs.set (gI xs n).toNat ⟨(nth xs (gI xs n).toNat).At+n,(nth xs (gI xs n).toNat).a4 - n⟩,(nth xs (gI xs n).toNat).At,true)
def vH(xs:List aC)(n:Int):∀i,i<=xs.length->iQ xs n i = -1\/(0<=iQ xs n i/\iQ xs n i<i/\n<=(nth xs (iQ xs n i).toNat).a4)
 | 0,_=>.inl rfl
 | i+1,b=>by
  have a:=vH xs n i ω;unfold iQ;split
  ·rename_i h;right;rw[X2];exact⟨ω,ω,h.1⟩
  rcases a with h|h
  ·exact .inl h
  exact .inr ⟨h.1,ω,h.2.2⟩
variable{xs:List aC}
def xj(h:jl xs)(a:i<j)(b:j<xs.length):(nth xs i).At+(nth xs i).a4<(nth xs j).At:=by
 have:=List.pairwise_iff_getElem.1 h.1 i j ω b a
 rwa [<-bD (O2 (show i<xs.length by omega)),<-bD (O2 b)]at this
def yd : RH xs p↔∃j,j<xs.length/\(nth xs j).At<=p/\p<(nth xs j).At+(nth xs j).a4:=by
 unfold RH;constructor
 ·rintro⟨r,b,h⟩
  obtain⟨j,a,rfl⟩:=bo b;exact⟨j,a,h⟩
 rintro⟨j,a,h⟩
 exact⟨_,ax a,h⟩
def nv{pages:Int}(h:bC pages xs=true)(T:1<=n)(t:(aB xs n).2.2=true) :
  bC pages (aB xs n).1=true/\0<=(aB xs n).2.1/\(aB xs n).2.1+n<=pages/\(∀p,RH (aB xs n).1 p↔RH xs p/\¬((aB xs n).2.1<=p/\p<(aB xs n).2.1+n))/\∀p,(aB xs n).2.1<=p->p<(aB xs n).2.1+n->RH xs p:=by
 obtain⟨o,u,J⟩:=f6.1 h;have K:=vH xs n xs.length (C3 _);unfold aB at t |-;change gI xs n = -1\/_ at K;split at t
 ·cases t
 rename_i w;rw[C8 w];obtain⟨O,P,L⟩:=K.resolve_left ω;change 0<=gI xs n at O;change gI xs n<xs.length at P;change n<=(nth xs (gI xs n).toNat).a4 at L;generalize Q:(gI xs n).toNat=b at L |-;have g:b<xs.length:=ω
 have M:=u _ (ax g);have q:∀j,j<xs.length->j≠b->(nth xs j).At+(nth xs j).a4<(nth xs b).At\/(nth xs b).At+(nth xs b).a4<(nth xs j).At:=λj a k=>by
  rcases Nat.lt_or_gt_of_ne k with A|B
  ·exact .inl (xj o A g)
  exact .inr (xj o B a)
 split
 ·rename_i R
  have C:(dele xs b).Sublist xs:=eE ..;refine⟨f6.2 ⟨⟨o.1.sublist C,λy l=>o.2 y (C.subset l)⟩,λy l=>u y (C.subset l),J⟩,M.1,by show(nth xs b).At+n<=pages;omega,λp=>?_,λp D E=>yd.2 ⟨b,g,D,by show p<_;simp only at E;omega⟩⟩;simp only;rw[yd (xs:=xs)];constructor
  ·rintro⟨r,F,f,d⟩
   obtain⟨j,a,k,rfl⟩:=eZ.1 F;refine⟨⟨j,a,f,d⟩,λe=>?_⟩;have:=q j a k;omega
  rintro⟨⟨j,a,f,d⟩,G⟩
  exact⟨_,eZ.2 ⟨j,a,λe=>by subst e;omega,rfl⟩,f,d⟩
 rename_i R;have c:∀j,nth (xs.set b ⟨(nth xs b).At+n,(nth xs b).a4 - n⟩) j=if j=b then⟨(nth xs b).At+n,(nth xs b).a4 - n⟩ else nth xs j:=λj=>by
  rw[cz];by_cases e:j=b
  ·rw[CA ⟨e.symm,ω⟩,CA e]
  rw[C8 λz=>e z.1.symm,C8 e]
 refine⟨f6.2 ⟨⟨?_,λy l=>?_⟩,λy l=>?_,J⟩,M.1,by show(nth xs b).At+n<=pages;omega,λp=>?_,λp D E=>yd.2 ⟨b,g,D,by simp only at E;omega⟩⟩
 ·rw[List.pairwise_iff_getElem]
  intro i j N a H;rw[<-bD (O2 N),<-bD (O2 a),c,c];simp only[U1]at N a;have S:=xj o H a;split
  ·rename_i e;subst e
   rw[C8 ω];simp only;omega
  split
  ·rename_i e;subst e
   simp only;omega
  exact S
 ·rcases fx l with rfl|⟨j,a,-,rfl⟩
  ·simp only;omega
  exact o.2 _ (ax a)
 ·rcases fx l with rfl|⟨j,a,-,rfl⟩
  ·simp only;omega
  exact u _ (ax a)
 simp only;rw[yd,yd,U1];constructor
 ·rintro⟨j,a,f,d⟩
  rw[c]at f d;split at f
  ·rename_i e;subst e
   rw[CA rfl]at d;simp only at f d;exact⟨⟨j,a,ω,ω⟩,ω⟩
  rename_i e;rw[C8 e]at d;have:=q j a e;exact⟨⟨j,a,f,d⟩,ω⟩
 rintro⟨⟨j,a,f,d⟩,G⟩
 refine⟨j,a,?_⟩;rw[c];split
 ·rename_i e;subst e
  simp only;omega
 exact⟨f,d⟩
def sC(k:ah):Int:=cA (λu=>!u) k.F.V.k
def qt(k:ah)(p:Int)(f:Nat):ah:={k with F:=⟨⟨k.F.V.W,k.F.V.k.set f true⟩,⟨k.F.O.K.set p.toNat ⟨2,(f:Nat)⟩⟩⟩}
def ek(k:ah)(p:Int):ah × Bool:=if refd k=true\/sC k<0 then(ig k,false) else(qt (ig k) p (sC k).toNat,true)
def LU(h:¬sC k<0):(sC k).toNat<k.F.V.k.length/\nth k.F.V.k (sC k).toNat=false:=by
 unfold sC at h |-;rcases ur (λu=>!u) k.F.V.k with e|⟨n,a,e,b⟩
 ·omega
 rw[e,X2];exact⟨a,by simpa using b⟩
def zM(h:aH k=true)(b:f<k.F.V.k.length)(c:nth k.F.V.k f=false)(q:Nat)(d:q<k.F.O.K.length)(g:(nth k.F.O.K q).o≠0):(nth k.F.O.K q).e≠(f:Nat):=by
 obtain⟨j,l,n,i,o⟩:=aI.1 h;intro e;have a:=i f b;rw[c]at a;have:=of_decide_eq_false a.symm;exact this (ed.2 ⟨q,d,g,e⟩)
def PA(h:aH k=true)(L:0<=p/\p<k.F.O.K.length)(n:(nth k.F.O.K p.toNat).o=0)(o:f<k.F.V.k.length)(r:nth k.F.V.k f=false):aH (qt k p f)=true:=by
 have t:=zM h o r;obtain⟨u,w,y,A,B⟩:=aI.1 h;obtain⟨C,D,E,F⟩:=bh.1 w;obtain⟨G,H,J⟩:=bt.1 y;have a:∀q,nth (k.F.O.K.set p.toNat ⟨2,(f:Nat)⟩) q=if p.toNat=q then⟨2,(f:Nat)⟩ else nth k.F.O.K q:=λq=>by
  rw[cz];by_cases i:p.toNat=q
  ·rw[CA ⟨i,ω⟩,CA i]
  rw[C8 (λe=>i e.1),C8 i]
 refine aI.2 ⟨u,bh.2 ⟨C,D,by simp only[qt,U1];exact E,λj b=>?_⟩,bt.2 ⟨λj b=>?_,?_,?_⟩,λj b=>?_,B⟩
 ·replace b:j<k.F.V.W.length:=b
  show ib (nth k.F.V.W j) (nth (k.F.V.k.set f true) j)=true;have d:=F j b;rw[cz];split
  ·unfold ib at d |-
   simp only[I0,C0,Z3]at d |-;refine⟨d.1,λv K=>?_⟩;have:=d.2 v K;unfold iO at this |-;simp only[I0]at this;rw[this.1];rfl
  exact d
 ·simp only[qt,U1]at b |-
  rw[a];split
  ·unfold kT;rw[C0];simp only;omega
  exact G j b
 ·simp only[qt,U1];exact H
 ·simp only[qt,U1];exact J
 simp only[qt,U1]at b;show nth (k.F.V.k.set f true) j=_;rw[cz];by_cases e:f=j
 ·subst e
  rw[CA ⟨rfl,b⟩];refine(O0 (ed.2 ⟨p.toNat,?_,?_,?_⟩)).symm
  ·simp only[qt,U1];omega
  ·simp only[qt,a,CA];decide
  simp only[qt,a,CA]
 rw[C8 λz=>e z.1,A j b];refine decide_eq_decide.2 ?_;rw[ed,ed];simp only[qt,U1,a];constructor
 ·rintro⟨q,l,g,c⟩
  refine⟨q,l,?_⟩;rw[C8 λz=>g (by rw[<-z];exact n)];exact⟨g,c⟩
 rintro⟨q,l,g,c⟩
 by_cases z:p.toNat=q
 ·rw[CA z]at c
  simp only at c;omega
 rw[C8 z]at g c;exact⟨q,l,g,c⟩
structure BX(k:ah)(p:Int)(r:ah × Bool):Prop where
 ker:aH r.1=true
 len:r.1.F.O.K.length=k.F.O.K.length
 calls:r.1.Calls=k.Calls+1
 ref:r.1.j=k.j
 cells:r.1.F.V.W=k.F.V.W
 no:r.2=false->r.1=ig k
 yes:r.2=true->∃f:Nat,f<k.F.V.k.length/\nth k.F.V.k f=false/\(∀q:Nat,nth r.1.F.O.K q=if(q:Int)=p then⟨2,(f:Nat)⟩ else nth k.F.O.K q)/\∀q,q<k.F.O.K.length->(nth k.F.O.K q).o≠0->(nth k.F.O.K q).e≠(f:Nat)
def BX.of(h:aH k=true)(c:k.Calls≠100000)(f:0<=p/\p<k.F.O.K.length)(g:(nth k.F.O.K p.toNat).o=0):BX k p (ek k p):=by
 unfold ek;split
 ·exact⟨md h c,rfl,rfl,rfl,rfl,λ_=>rfl,λe=>by cases e⟩
 rename_i d;rw[not_or]at d;obtain⟨a,b⟩:=LU d.2;refine⟨PA (md h c) f g a b,by simp[qt,ig],rfl,rfl,rfl,λe=>(by cases e),λ_=>⟨_,a,b,λq=>?_,λq=>zM h a b q⟩⟩;simp only[qt,ig,cz];by_cases e:(q:Int)=p
 ·rw[CA ⟨ω,ω⟩,CA e]
 rw[C8 λz=>e ω,C8 e]
def bO(k:ah)(p:Int):Nat->ah × Nat
 | 0=>(k,0)
 | i+1=>if(bO k p i).2=i then((ek (bO k p i).1 (p+(i:Nat))).1,if(ek (bO k p i).1 (p+(i:Nat))).2=true then i+1 else i) else bO k p i
structure mn(k:ah)(p:Int)(i:Nat)(r:ah × Nat):Prop where
 ker:aH r.1=true
 len:r.1.F.O.K.length=k.F.O.K.length
 calls:k.Calls<=r.1.Calls/\r.1.Calls<=k.Calls+i
 ref:r.1.j=k.j
 cells:r.1.F.V.W=k.F.V.W
 le:r.2<=i
 out:∀q:Nat,¬(p<=q/\(q:Int)<p+r.2)->nth r.1.F.O.K q=nth k.F.O.K q
 new:∀q:Nat,p<=q->(q:Int)<p+r.2->(nth r.1.F.O.K q).o=2/\∀u:Nat,u<k.F.O.K.length->(nth r.1.F.O.K u).o≠0->(nth r.1.F.O.K u).e=(nth r.1.F.O.K q).e->u=q
def mn.of{k:ah}{p:Int}{n:Nat}(h:aH k=true)(G:k.Calls+n<=100000)(H:0<=p/\p+n<=k.F.O.K.length)(C:∀q:Nat,p<=q->(q:Int)<p+n->(nth k.F.O.K q).o=0):∀i,i<=n->mn k p i (bO k p i)
 | 0,_=>⟨h,rfl,⟨V4 _,by show k.Calls<=k.Calls+((0:Nat):Int);omega⟩,rfl,rfl,C3 _,λ_ _=>rfl,λq o d=>by simp only[bO]at d;omega⟩
 | i+1,L=>by
  have a:=mn.of h G H C i ω;unfold bO;split
  case isFalse=>exact⟨a.ker,a.len,⟨a.calls.1,by have:=a.calls.2;omega⟩,a.ref,a.cells,by have:=a.le;omega,a.out,a.new⟩
  rename_i t;generalize bO k p i=r at a t |-;have J:=a.calls;have y:(nth r.1.F.O.K (p+(i:Nat)).toNat).o=0:=by
   rw[a.out _ ω];exact C _ ω ω
  have s:=BX.of (p:=p+(i:Nat)) a.ker ω ⟨ω,by rw[a.len];omega⟩ y;generalize ek r.1 (p+(i:Nat))=w at s |-;refine⟨s.ker,s.len.trans a.len,⟨by simp only[s.calls];omega,by simp only[s.calls];omega⟩,s.ref.trans a.ref,s.cells.trans a.cells,by simp only;split<;>omega,λq j=>?_,λq o d=>?_⟩
  ·simp only at j |-
   cases e:w.2 with
   | false=>
    rw[s.no e];rw[e]at j;exact a.out q (by rw[t];simpa using j)
   | true=>
    obtain⟨f,-,-,g,-⟩:=s.yes e;rw[e,CA rfl]at j;rw[g,C8 ω];exact a.out q ω
  simp only at d |-;cases e:w.2 with
  | false=>
   rw[s.no e];rw[e]at d;exact a.new q o (by rw[t];simpa using d)
  | true=>
   obtain⟨f,-,-,g,D⟩:=s.yes e;rw[e,CA rfl]at d;have A:q<k.F.O.K.length:=ω
   rw[g];by_cases E:(q:Int)=p+(i:Nat)
   ·rw[CA E]
    refine⟨rfl,λu B c b=>?_⟩;rw[g]at c b;by_cases l:(u:Int)=p+(i:Nat)
    ·omega
    rw[C8 l]at c b;exact absurd b (D u (by rw[a.len];exact B) c)
   rw[C8 E];obtain⟨F,K⟩:=a.new q o ω;refine⟨F,λu B c b=>?_⟩;rw[g]at c b;by_cases l:(u:Int)=p+(i:Nat)
   ·rw[CA l]at b
    exact absurd b.symm (D q (by rw[a.len];exact A) (by rw[F];decide))
   rw[C8 l]at c b;exact K u B c b
def mn.undo{r:ah × Nat}(s:mn k p i r)(h:aH k=true)(d:0<=p/\p+i<=k.F.O.K.length)(e:∀q:Nat,p<=q->(q:Int)<p+i->(nth k.F.O.K q).o=0):aH (dM r.1 p r.2)=true/\tEq k.F.O (dM r.1 p r.2).F.O:=by
 have f:=s.le;have g:=mC s.ker d.1 r.2 (by rw[s.len];omega);refine⟨lI s.ker p r.2,((gK r.1 p r.2).1).trans s.len,λq=>?_⟩;rw[g];split
 ·rename_i a
  have c:=e q a.1 ω;obtain⟨-,-,j,-⟩:=aI.1 h;have b:=(bt.1 j).1 q ω;unfold kT at b;rw[C0]at b;exact⟨⟨λz=>absurd rfl z,λz=>absurd c z⟩,(b.2.2.1 c).symm⟩
 rename_i a;rw[s.out q a];exact⟨Iff.rfl,rfl⟩
def Pg.add{t h:aN}{O r:List aC}{b:List ay}{d:List aA}{n:Nat}(i:Pg t O sp la)(E:h.K.length=t.K.length)(S:p+n<=t.K.length)(hp:0<=p)(j:∀q:Nat,¬(p<=q/\(q:Int)<p+n)->nth h.K q=nth t.K q)(a:∀q:Nat,p<=q->(q:Int)<p+n->(nth h.K q).o=2/\∀u:Nat,u<t.K.length->(nth h.K u).o≠0->(nth h.K u).e=(nth h.K q).e->u=q)(J:∀q,RH r q↔RH O q/\¬(p<=q/\q<p+n))(F:∀q,q∈pgs b d↔q∈pgs sp la\/(p<=q/\q<p+n))(w:∀s∈b,0<=s.Q/\(s∈sp\/(p<=s.Q/\s.Q<p+n)))(K:∀l∈d,l∈la\/∀q∈lpgs l l.a3.toNat,p<=q/\q<p+n):Pg h r b d:=by
 have f:∀q:Nat,q<t.K.length->((nth h.K q).o≠0↔(q:Int)∈pgs b d):=λq c=>by
  rw[F];by_cases e:p<=q/\(q:Int)<p+n
  ·have:=(a q e.1 e.2).1
   exact⟨λ_=>.inr e,λ_=>by rw[this];decide⟩
  rw[j q e,i.own q c];exact⟨.inl,λz=>z.resolve_right e⟩
 refine⟨λl A q c u k L G=>?_,λq c=>?_,λq c=>f q (by rw[<-E];exact c),λq c=>?_,λs P u k M H=>?_⟩
 ·rw[E]at k
  have B:=fG (sp:=b) A c;have C:q<t.K.length:=by
   rcases(F _).1 B with g|g
   ·have:=i.bnd _ g;omega
   omega
  by_cases e:p<=q/\(q:Int)<p+n
  ·exact(a q e.1 e.2).2 u k L G
  have N:=(K l A).resolve_right λg=>e (g _ c)
  by_cases o:p<=u/\(u:Int)<p+n
  ·exact((a u o.1 o.2).2 q C ((f q C).2 B) G.symm).symm
  rw[j q e,j u o]at G;rw[j u o]at L;exact i.one l N q c u k L G
 ·rw[E]
  rcases(F _).1 c with g|g
  ·exact i.bnd _ g
  omega
 ·rw[E]at c
  rw[J];by_cases e:p<=q/\(q:Int)<p+n
  ·have:=(a q e.1 e.2).1
   exact⟨λ_ z=>z.2 e,λ_=>by rw[this];decide⟩
  rw[j q e,i.fre q c];exact⟨λz y=>z y.1,λz y=>z ⟨y,e⟩⟩
 obtain⟨T,U⟩:=w s P;obtain⟨V,W⟩:=w u k;have D:∀y∈b,0<=y.Q->y.Q.toNat<t.K.length/\((y.Q.toNat:Nat):Int)=y.Q/\(nth h.K y.Q.toNat).o≠0:=λy X Y=>by
  have g:=dG (la:=d) X;have Q:y.Q.toNat<t.K.length:=by
   rcases(F _).1 g with R|R
   ·have:=i.bnd _ R;omega
   omega
  exact⟨Q,ω,(f _ Q).2 (by rw[show((y.Q.toNat:Nat):Int)=y.Q by omega];exact g)⟩
 obtain⟨Z,sc,sd⟩:=D s P T;obtain⟨ub,uc,ud⟩:=D u k V;by_cases es:p<=s.Q/\s.Q<p+n
 ·have:=(a s.Q.toNat ω ω).2 _ ub ud H.symm
  omega
 by_cases o:p<=u.Q/\u.Q<p+n
 ·have:=(a u.Q.toNat ω ω).2 _ Z sd H
  omega
 rw[j _ ω,j _ ω]at H;exact i.mesh s (U.resolve_right es) u (W.resolve_right o) M H
def EX{a:List ay}{b:List aA}(c:a.Perm sp)(d:b.Perm la):(pgs a b).Perm (pgs sp la):=by
 unfold pgs;exact(c.map _).append (d.flatMap_right _)
def Hb(p:Int)(s:ay):Bool:=decide (p<=s.Q)
def Qf(p:Int)(l:aA):Bool:=decide (p<=l.Q)
def addS(h:ac)(k:ah)(a:List aC)(p c:Int):ac:={h with J:=k,b:=a,H:=jt (Hb p) h.H ⟨p,c,0⟩}
def lF(a:bi h E)(j:1<=n)(k:(aB h.b n).2.2=true):0<=(aB h.b n).2.1/\(aB h.b n).2.1+n<=(tbl h).K.length/\(∀q:Nat,(aB h.b n).2.1<=q->(q:Int)<(aB h.b n).2.1+n->(nth (tbl h).K q).o=0)/\∀q:Int,(aB h.b n).2.1<=q->q<(aB h.b n).2.1+n->q∉pgs h.H h.M:=by
 obtain⟨r,l,f,t,o⟩:=nv a.rng j k;have g:∀q:Nat,(aB h.b n).2.1<=q->(q:Int)<(aB h.b n).2.1+n->(nth (tbl h).K q).o=0:=λq b c=>by
  have d:q<(tbl h).K.length:=by
   have:(aB h.b n).2.1+n<=((tbl h).K.length:Nat):=f;omega
  by_cases e:(nth (tbl h).K q).o=0
  ·exact e
  exact absurd (o q b c) ((a.pg.fre q d).1 e)
 refine⟨l,f,g,λq b c i=>?_⟩;have u:=a.pg.bnd q i;obtain⟨m,rfl⟩:=Z2 (show 0<=q by omega);have p:=(a.pg.own m ω).2 i;exact p (g m b c)
def bi.addS{h:ac}{E:List Int}{c:Int}(a:bi h E)(H:0<=c/\c<=3)(F:(aB h.b 1).2.2=true){k:ah}(s:BX h.J (aB h.b 1).2.1 (k,true)):bi (addS h k (aB h.b 1).1 (aB h.b 1).2.1 c) E:=by
 obtain⟨U,G,r3,J,r5⟩:=nv a.rng (V4 _) F;obtain⟨-,V,u3,W⟩:=lF a (V4 _) F;generalize (aB h.b 1).2.1=p at G r3 J r5 V u3 W s |-;generalize (aB h.b 1).1=fr at U J |-;obtain⟨f,f1,f2,K,f4⟩:=s.yes rfl;have M:=(bt.1 (aI.1 a.ker).2.2.1).2.2;change (tbl h).K.length<=32 at M;have X:=a.L;have N:=kI (Hb p) h.H ⟨p,c,0⟩;have O:=EX N (List.Perm.refl h.M);have w:(pgs (jt (Hb p) h.H ⟨p,c,0⟩) h.M).Perm (p::pgs h.H h.M):=O;have B:p∉pgs h.H h.M:=W p (V4 _) ω;have P:∀z∈h.H,z.Q≠p:=λz g e=>B (by rw[<-e];exact dG g)
 have i:∀b d,iU (jt (Hb p) h.H ⟨p,c,0⟩) b d↔iU h.H b d:=λb d=>by
  constructor
  ·rintro⟨s,C,A,Q⟩
   rcases dr.1 C with rfl|C
   ·exact absurd A (Dy rfl b)
   exact⟨s,C,A,Q⟩
  rintro⟨s,C,A⟩
  exact⟨s,dr.2 (.inr C),A⟩
 exact {a with
   ker:=s.ker
   rng:=by show bC ((k.F.O.K.length:Nat):Int) fr=true;rw[s.len];exact U
   lay:=by
     obtain⟨l1,l2,l3⟩:=dI a.lay;unfold bA;simp only[I0,C0];refine⟨⟨Z3.2 λz g=>?_,l2⟩,w.nodup_iff.2 (List.nodup_cons.2 ⟨B,l3⟩)⟩;rcases dr.1 g with rfl|g
     · have R:0<=lim c:=by
         have:=(jw H).1;obtain rfl|rfl|rfl|rfl:c=0\/c=1\/c=2\/c=3:=ω
         all_goals decide
       exact O0 ⟨G,by show p<=31;omega,H.1,H.2,V4 _,R⟩
     exact X.sok z g
   srs:=ly (f:=λz:ay=>z.Q) (y:=⟨p,c,0⟩) a.srs P
   pg:=by
     refine a.pg.add (p:=p) (n:=1) s.len (by exact V) G (λq Y=>?_) (λq q1 q2=>?_) (λq=>J q) (λq=>?_) (λz g=>?_) (λl hl=>.inl hl)
     · exact(K q).trans (C8 ω)
     · have Y:(q:Int)=p:=ω
       have Z:nth k.F.O.K q = ⟨2,(f:Nat)⟩:=(K q).trans (CA Y);refine⟨X0 bp.o Z,λu S t r=>?_⟩;have fu:nth k.F.O.K u=if(u:Int)=p then⟨2,(f:Nat)⟩ else nth h.J.F.O.K u:=K u
       change (nth k.F.O.K u).o≠0 at t;change (nth k.F.O.K u).e=(nth k.F.O.K q).e at r;rw[fu]at t r;rw[Z]at r;by_cases eu:(u:Int)=p
       · omega
       rw[C8 eu]at t r;exact absurd r (f4 u S t)
     · show q∈pgs (jt (Hb p) h.H ⟨p,c,0⟩) h.M↔_
       rw[w.mem_iff,List.mem_cons];constructor
       · rintro(e|e)
         · exact .inr ⟨ω,ω⟩
         exact .inl e
       rintro(e|e)
       · exact .inr e
       exact .inl ω
     rcases dr.1 g with rfl|g
     · exact⟨G,.inr ⟨V4 _,by show p<p+((1:Nat):Int);omega⟩⟩
     exact⟨(aL (X.sok z g)).1,.inl g⟩
   oow:=λo F=>by
     rcases a.oow o F with⟨z,g,A,Q⟩|A
     · exact .inl ⟨z,dr.2 (.inr g),A,Q⟩
     exact .inr A
   hca:=λd hd j hj b D=>(i b j).2 (a.hca d hd j hj b D)
   hqu:=λy T=>(i _ _).2 (a.hqu y T)
   hfl:=λb D=>(i _ _).2 (a.hfl b D)
   hin:=λb D=>(i _ _).2 (a.hin b D)
   mem:=λb=>(a.mem b).trans (by
     show mj h.H h.M b↔mj (jt (Hb p) h.H ⟨p,c,0⟩) h.M b;unfold mj;rw[i])
   job:=λhm=>by
     obtain⟨j1,⟨y,T,e1⟩,⟨u,S,e2⟩⟩:=a.job hm;exact⟨j1,⟨y,dr.2 (.inr T),e1⟩,⟨u,dr.2 (.inr S),e2⟩⟩}
def addL(h:ac)(k:ah)(a:List aC)(p n size t:Int):ac:={h with J:=k,b:=a,M:=jt (Qf p) h.M ⟨p,n,size⟩,R:=jt (NE (16*p)) h.R ⟨h.w,16*p,size,t⟩,w:=h.w+1}
def bi.addL{h:ac}{E:List Int}{size t:Int}{n:Nat}(a:bi h E)(g:9<=size/\size<=1000)(J:(n:Int)=(size+15) / 16)(i:(aB h.b n).2.2=true){k:ah}(s:mn h.J (aB h.b n).2.1 n (k,n))(hn:h.w<1000000)(ht:0<=t/\t<=h.T.length - 1) :
  bi (addL h k (aB h.b n).1 (aB h.b n).2.1 n size t) E:=by
 have B:(1:Int)<=n:=ω
 obtain⟨V,K,r3,M,r5⟩:=nv a.rng B i;obtain⟨-,W,u3,H⟩:=lF a B i;generalize (aB h.b n).2.1=p at K r3 M r5 W u3 H s |-;generalize (aB h.b n).1=fr at V M |-;have N:=(bt.1 (aI.1 a.ker).2.2.1).2.2;change (tbl h).K.length<=32 at N;have O:=a.L;have P:=kI (Qf p) h.M ⟨p,n,size⟩;have C:=kI (NE (16*p)) h.R ⟨h.w,16*p,size,t⟩;have Q:lpgs ⟨p,n,size⟩ ((n:Nat):Int).toNat=lpgs ⟨p,n,size⟩ n:=by rw[X2]
 have D:(pgs h.H (jt (Qf p) h.M ⟨p,n,size⟩)).Perm (lpgs ⟨p,n,size⟩ n++pgs h.H h.M):=by
  refine(EX (List.Perm.refl h.H) P).trans ?_;unfold pgs;rw[X5];simp only[Q];rw[<-v5,<-v5];exact List.perm_append_comm.append_right _
 have u:∀q,q∈lpgs ⟨p,n,size⟩ n↔p<=q/\q<p+n:=λq=>by
  rw[dt];constructor
  ·rintro⟨j,hj,rfl⟩;exact⟨by show p<=p+(j:Int);omega,by show p+(j:Int)<_;omega⟩
  rintro⟨X,Y⟩;exact⟨(q - p).toNat,ω,by show q=p+_;omega⟩
 have R:(lpgs ⟨p,n,size⟩ n).Nodup:=by
  unfold lpgs List.Nodup;rw[List.pairwise_map];exact List.nodup_range.imp λr e=>r (by simp only at e;omega)
 have r:∀z∈h.M,z.Q≠p:=λz g e=>H p (V4 _) ω (by rw[<-e];exact fG g (dt.2 ⟨0,by have:=aY (O.lok z g);omega,ω⟩))
 have S:¬mj h.H h.M (16*p):=by
  rintro(⟨z,g,d,-⟩|⟨l,c,e⟩)
  ·exact H p (V4 _) ω (by rw[show p=z.Q by have a1:=d.1;have a2:=d.2.1;omega];exact dG g)
  exact r l c ω
 have F:(16*p)∉E++holders h:=λT=>S ((a.mem _).1 T)
 have U:∀o∈h.R,o.Addr≠16*p:=λo i e=>F (z3.2 (.inr (by unfold holders;simp only[z3];exact .inl (.inl (.inl (z4.2 ⟨o,i,e⟩))))))
 have Z:(E++holders (Ab.addL h k fr p n size t)).Perm ((16*p)::(E++holders h)):=by
  have h0:=C.map (·.Addr);refine List.perm_iff_count.2 λb=>?_
  have d:=h0.count_eq b;simp only[I5,List.count_cons]at d;simp only[holders,cy,Ab.addL,O5,List.count_cons];omega
 exact {a with
   ker:=s.ker
   rng:=by show bC ((k.F.O.K.length:Nat):Int) fr=true;rw[s.len];exact V
   lay:=by
     obtain⟨l1,l2,l3⟩:=dI a.lay;unfold bA;simp only[I0,C0];refine⟨⟨l1,Z3.2 λz w=>?_⟩,D.nodup_iff.2 (List.nodup_append.2 ⟨R,l3,λq G b hb e=>?_⟩)⟩
     · rcases dr.1 w with rfl|w
       · exact O0 ⟨g.1,g.2,J,K,by show p<=32 - (n:Int);omega⟩
       exact O.lok z w
     subst e;have:=(u q).1 G;exact H q this.1 this.2 hb
   srl:=ly (f:=λz:aA=>z.Q) (y:=⟨p,n,size⟩) a.srl r
   pg:=by
     refine a.pg.add (p:=p) (n:=n) s.len (by exact W) K (λq G=>s.out q G) (λq X Y=>s.new q X Y) (λq=>M q) (λq=>?_) (λz g=>⟨(aL (O.sok z g)).1,.inl g⟩) (λl c=>?_)
     · show q∈pgs h.H (jt (Qf p) h.M ⟨p,n,size⟩)↔_
       rw[D.mem_iff,z3,u];exact Or.comm
     rcases dr.1 c with rfl|c
     · exact .inr λq G=>(u q).1 (by simpa using G)
     exact .inl c
   nums:=Ai a.nums hn
   osr:=ly (f:=λo:bc=>o.Addr) (y:=⟨h.w,16*p,size,t⟩) a.osr U
   onu:=λo i=>by
     rcases dr.1 i with rfl|i
     · have:=a.nums
       unfold dh at this;rw[C0]at this;exact⟨by show 1<=h.w;omega,by show h.w<=h.w+1 - 1;omega,ht⟩
     have:=a.onu o i;exact⟨this.1,by show o.Id<=h.w+1 - 1;omega,this.2.2⟩
   oid:=by
     show((jt (NE (16*p)) h.R ⟨h.w,16*p,size,t⟩).map (·.Id)).Nodup;rw[(C.map _).nodup_iff,I5];refine List.nodup_cons.2 ⟨λT=>?_,a.oid⟩;obtain⟨o,i,e⟩:=z4.1 T;have:=(a.onu o i).2.1;simp only at e;omega
   oow:=λo A=>by
     rcases dr.1 A with rfl|A
     · exact .inr ⟨_,dr.2 (.inl rfl),rfl,rfl⟩
     rcases a.oow o A with d|⟨l,c,d⟩
     · exact .inl d
     exact .inr ⟨l,dr.2 (.inr c),d⟩
   nd:=Z.nodup_iff.2 (List.nodup_cons.2 ⟨F,a.nd⟩)
   mem:=λb=>by
     rw[Z.mem_iff,List.mem_cons,a.mem b];show _↔mj h.H (jt (Qf p) h.M ⟨p,n,size⟩) b;unfold mj;constructor
     · rintro(rfl|d|⟨l,c,e⟩)
       · exact .inr ⟨_,dr.2 (.inl rfl),rfl⟩
       · exact .inl d
       exact .inr ⟨l,dr.2 (.inr c),e⟩
     rintro(d|⟨l,c,e⟩)
     · exact .inr (.inl d)
     rcases dr.1 c with rfl|c
     · exact .inl e
     exact .inr (.inr ⟨l,c,e⟩)}
structure JK(h h':ac):Prop where
 job:h'.y=h.y
 msh:h'.q=h.q
 sp:∀s∈h.H,fp h s.Q=true->∃s'∈h'.H,s'.Q=s.Q/\∀u,meshable s u=true->meshable s' u=true
 ent:∀q:Nat,(nth (tbl h').K q).o≠0->((nth (tbl h).K q).o≠0/\(nth (tbl h').K q).e=(nth (tbl h).K q).e)\/∀u:Nat,(nth (tbl h').K u).o≠0->(nth (tbl h').K u).e=(nth (tbl h').K q).e->u=q
def JK.refl(h:ac):JK h h:=⟨rfl,rfl,λs a _=>⟨s,a,rfl,λ_ z=>z⟩,λ_ b=>.inl ⟨b,rfl⟩⟩
variable{h':ac}
def JK.pg(k:JK h h')(p:Int):fp h' p=fp h p:=by unfold fp;rw[k.job,k.msh]
def JK.trans{h1 g:ac}(a:JK h h1)(b:JK h1 g):JK h g:=by
 refine⟨b.job.trans a.job,b.msh.trans a.msh,λs o i=>?_,λq j=>?_⟩
 ·obtain⟨p,r,k,t⟩:=a.sp s o i
  obtain⟨w,y,A,B⟩:=b.sp p r (by rw[a.pg,k];exact i);exact⟨w,y,A.trans k,λu c=>B u (t u c)⟩
 rcases b.ent q j with⟨d,l⟩|d
 ·rcases a.ent q d with⟨e,C⟩|e
  ·exact .inl ⟨e,l.trans C⟩
  refine .inr λu c n=>?_
  rcases b.ent u c with⟨f,D⟩|f
  ·exact e u f (by rw[<-D,<-l];exact n)
  exact(f q j n.symm).symm
 exact .inr d
def oG.keep(f:0<=p)(d:(nth (tbl h').K p.toNat).o≠0)(g:oG (tbl h) p)(k:JK h h'):oG (tbl h') p:=λq e c=>by
 rcases k.ent p.toNat d with⟨n,i⟩|a
 ·rcases k.ent q e with⟨j,l⟩|b
  ·exact g q j (by rw[<-l,c,i])
  have:=b p.toNat d c.symm;omega
 have:=a q e c;omega
def bi.mapped(a:bi h E)(b:s∈h.H):0<=s.Q/\s.Q<(tbl h).K.length/\(nth (tbl h).K s.Q.toNat).o≠0:=by
 have c:=(aL (a.L.sok s b)).1;have d:=a.pg.bnd _ (dG (la:=h.M) b);refine⟨c,d,(a.pg.own s.Q.toNat ω).2 ?_⟩;rw[show((s.Q.toNat:Nat):Int)=s.Q by omega];exact dG b
def JI.keep(l:JI h)(p:bi h' E)(k:JK h h'):JI h':=by
 have d:h.q=true->∃a∈h'.H,∃b∈h'.H,a.Q=h.y.Y.a8/\b.Q=h.y.Y.a6/\meshable a b=true:=λc=>by
  obtain⟨a,n,b,o,f,g,e⟩:=l.sp c;obtain⟨q,t,u,w⟩:=k.sp a n (by unfold fp;rw[c,f];simp);obtain⟨y,A,B,C⟩:=k.sp b o (by unfold fp;rw[c,g];simp);refine⟨q,t,y,A,u.trans f,B.trans g,?_⟩;have r:=w b e;rw[je]at r |-;exact C q r
 refine⟨λc=>?_,λc=>?_,λc=>?_,λc=>?_⟩
 ·rw[k.msh]at c;rw[k.job];exact l.ph c
 ·rw[k.msh]at c;rw[k.job];exact d c
 ·rw[k.msh]at c
  obtain⟨a,n,b,o,f,g,e⟩:=d c;obtain⟨i,D,j⟩:=p.mapped n;rw[k.job];rw[f]at i j;exact(l.sk c).keep i j k
 rw[k.msh]at c;obtain⟨a,n,b,o,f,g,e⟩:=d c;obtain⟨i,D,j⟩:=p.mapped o;rw[k.job];rw[g]at i j;exact(l.sm c).keep i j k
def JK.less(h1:h'.y=h.y)(c:h'.q=h.q)(d:h'.H=h.H)(b:∀q:Nat,(nth (tbl h').K q).o≠0->nth (tbl h').K q=nth (tbl h).K q):JK h h':=
 ⟨h1,c,λs e _=>⟨s,by rw[d];exact e,rfl,λ_ z=>z⟩,λq a=>.inl ⟨by rw[<-b q a];exact a,by rw[b q a]⟩⟩
def JK.eq(h1:h'.y=h.y)(a:h'.q=h.q)(b:h'.H=h.H)(c:tbl h'=tbl h):JK h h':=.less h1 a b λq _=>by rw[c]
def JK.clrS{h:ac}{E:List Int}{a:Int}{i:Nat}(f:bi h E)(c:i<h.H.length)(d:eS (nth h.H i) a):JK h (clrS h i a):=by
 refine⟨rfl,rfl,λs g _=>?_,λq k=>.inl ⟨k,rfl⟩⟩;obtain⟨j,l,rfl⟩:=bo g;by_cases e:j=i
 ·subst e
  have b:=f.L.sok _ (ax c);exact⟨_,iu _ c,rfl,λu n=>zL b (tW b ⟨d.1,d.2.1⟩) n⟩
 exact⟨_,jB _ l e,rfl,λ_ z=>z⟩
def JK.giveP{h:ac}{E:List Int}{i:Nat}(d:bi h E)(f:i<h.H.length)(c:fp h (nth h.H i).Q=false):JK h (giveP h i):=by
 obtain⟨g,k,-⟩:=d.mapped (ax f);refine⟨rfl,rfl,λs l a=>?_,λq b=>.inl ?_⟩
 ·obtain⟨j,n,rfl⟩:=bo l
  exact⟨_,eZ.2 ⟨j,n,λe=>(by subst e;rw[c]at a;cases a),rfl⟩,rfl,λ_ z=>z⟩
 have o:=vZ d.ker (p:=(nth h.H i).Q) ⟨g,k⟩ q;change (nth (cr h.J (nth h.H i).Q).F.O.K q).o≠0 at b;show(nth h.J.F.O.K q).o≠0/\(nth (cr h.J (nth h.H i).Q).F.O.K q).e=(nth h.J.F.O.K q).e;rw[o]at b |-;split at b
 ·exact absurd rfl b
 rename_i e;rw[C8 e];exact⟨b,rfl⟩
def JK.freeS{h:ac}{E:List Int}{a:Int}{i:Nat}(c:bi h (a::E))(b:i<h.H.length)(d:eS (nth h.H i) a):JK h (freeS h i a):=by
 have g:=c.give b d;have f:=JK.clrS c b d;unfold Ab.freeS;split
 ·rename_i e
  have j:nth (Ab.clrS h i a).H i=kw (nth h.H i) (dz (nth h.H i) a):=by unfold Ab.clrS;simp only[cz,true_and];rw[CA b]
  exact f.trans (JK.giveP (h:=Ab.clrS h i a) g (by unfold Ab.clrS;simp only[U1];exact b) (by rw[j];exact e.2))
 exact f
def JK.freeA{h:ac}{E:List Int}{a:Int}(b:bi h (a::E)):JK h (freeA h a):=by
 obtain⟨c,d,-⟩:=b.at (b.hin a (Z1 ..));exact JK.freeS b c d
def JK.recyc{h:ac}{E:List Int}{a:Int}{t:Nat}(b:bi h (a::E)):JK h (recyc t h a):=by
 unfold Ab.recyc;split
 ·exact JK.eq rfl rfl rfl rfl
 exact JK.freeA b
def JK.recycs{t:Nat}{E:List Int} : ∀{az:List Int}{h:ac},bi h (az++E)->t<h.T.length->JK h (recycs t h az)
 | [],h,_,_=>JK.refl h
 | a::az,h,b,c=>(JK.recyc (t:=t) b).trans (JK.recycs (az:=az) (h:=Ab.recyc t h a) (b.recyc c) (by rw[(rc t h a).1];exact c))
def JK.freeAs{E:List Int} : ∀{az:List Int}{h:ac},bi h (az++E)->JK h (freeAs h az)
 | [],h,_=>JK.refl h
 | a::az,h,b=>(JK.freeA b).trans (JK.freeAs (az:=az) (h:=Ab.freeA h a) b.freeA)
def JK.flushN{t:Nat}{h:ac}(c:bi h [])(d:t<h.T.length):∀{k:Nat},k<=4->JK h (flushN t h k).1
 | 0,_=>JK.refl h
 | k+1,e=>by
  obtain⟨h1,f,-⟩:=iV c d (k:=k) ω;have a:t<(Ab.flushN t h k).1.T.length:=ω
  have b:k<(nth (Ab.flushN t h k).1.T t).X.length:=by rw[(dZ (h1.cach _ (ax a))).1];omega
  exact JK.trans (h1:=Ab.spilt (Ab.flushN t h k).1 t k) ((JK.flushN c d (k:=k) ω).trans (JK.eq rfl rfl rfl rfl)) (JK.freeAs (h1.spilt a b))
def Bp(a:bi h E){k:Nat}(b:k<h.M.length):0<=(nth h.M k).Q/\(nth h.M k).Q+((nth h.M k).a3.toNat:Nat)<=(tbl h).K.length:=by
 have c:=aY (a.L.lok _ (ax b));have d:=a.pg.bnd _ (fG (sp:=h.H) (ax b) (dt.2 ⟨(nth h.M k).a3.toNat - 1,ω,rfl⟩));exact⟨ω,ω⟩
def JK.freeL{h:ac}{E:List Int}{i k:Nat}(b:bi h E)(c:k<h.M.length):JK h (freeL h i k):=by
 obtain⟨d,f⟩:=Bp b c;refine JK.less rfl rfl rfl λq a=>?_
 have g:=mC b.ker d (nth h.M k).a3.toNat f q;change (nth (dM h.J (nth h.M k).Q (nth h.M k).a3.toNat).F.O.K q).o≠0 at a;show nth (dM h.J (nth h.M k).Q (nth h.M k).a3.toNat).F.O.K q=nth h.J.F.O.K q;rw[g]at a |-;split at a
 ·exact absurd rfl a
 rename_i e;rw[C8 e]
def JK.freeOb{h:ac}{t i:Nat}(a:bi h [])(c:i<h.R.length)(d:t<h.T.length):JK h (freeOb h t i).1:=by
 unfold Ab.freeOb;split
 ·rename_i b
  obtain⟨l,e,h1,-⟩:=(eC a (ax c)).1 b;exact JK.freeL a (vF e h1).1
 rename_i b;split
 ·exact JK.refl h
 have h1:=a.inQuar c b;exact JK.trans (h1:=Ab.inQuar h i) (JK.eq rfl rfl rfl rfl) (JK.recycs (E:=[]) (by rw[List.append_nil];exact h1) d)
def JK.take{k sd:Int}(b:fp h (nth h.H i).Q=false):JK h {h with b5:=sd,H:=h.H.set i (rK (nth h.H i) k)}:=by
 refine⟨rfl,rfl,λs c a=>?_,λq d=>.inl ⟨d,rfl⟩⟩;obtain⟨j,f,rfl⟩:=bo c;exact⟨_,jB _ f λe=>(by subst e;rw[b]at a;cases a),rfl,λ_ z=>z⟩
def AO{t:aN}{q:Nat}(h:(nth t.K q).o≠0):q<t.K.length:=by
 by_cases e:q<t.K.length
 ·exact e
 exfalso;apply h;unfold nth;rw[W2,List.getElem?_eq_none ω]
 rfl
def JK.addS{h:ac}{k:ah}{l:List aC}{p c:Int}(s:BX h.J p (k,true)):JK h (addS h k l p c):=by
 obtain⟨f,t,w,d,n⟩:=s.yes rfl;have b:k.F.O.K.length=h.J.F.O.K.length:=s.len;refine⟨rfl,rfl,λz o _=>⟨z,dr.2 (.inr o),rfl,λ_ y=>y⟩,λq g=>?_⟩;change (nth k.F.O.K q).o≠0 at g;show((nth h.J.F.O.K q).o≠0/\(nth k.F.O.K q).e=(nth h.J.F.O.K q).e)\/∀u:Nat,(nth k.F.O.K u).o≠0->(nth k.F.O.K u).e=(nth k.F.O.K q).e->u=q
 by_cases e:(q:Int)=p
 ·refine .inr λu i a=>?_
  have j:=AO i;have f3u:=d u;have f3q:=d q;simp only at f3u f3q;rw[CA e]at f3q;rw[f3q]at a;by_cases r:(u:Int)=p
  ·omega
  rw[C8 r]at f3u;rw[f3u]at i a;exact absurd a (n u (by rw[<-b];exact j) i)
 have f3q:=d q;simp only at f3q;rw[C8 e]at f3q;rw[f3q]at g |-;exact .inl ⟨g,rfl⟩
def JK.addL{h:ac}{k:ah}{g:List aC}{p size t:Int}{n:Nat}(s:mn h.J p n (k,n)):JK h (addL h k g p n size t):=by
 have a:k.F.O.K.length=h.J.F.O.K.length:=s.len;refine⟨rfl,rfl,λz i _=>⟨z,i,rfl,λ_ y=>y⟩,λq b=>?_⟩;change (nth k.F.O.K q).o≠0 at b;show((nth h.J.F.O.K q).o≠0/\(nth k.F.O.K q).e=(nth h.J.F.O.K q).e)\/∀u:Nat,(nth k.F.O.K u).o≠0->(nth k.F.O.K u).e=(nth k.F.O.K q).e->u=q
 by_cases e:p<=q/\(q:Int)<p+n
 ·exact .inr λu d c=>(s.new q e.1 e.2).2 u (by rw[<-a];exact AO d) d c
 have f:=s.out q e;simp only at f;rw[f]at b |-;exact .inl ⟨b,rfl⟩
def sH(h:ac):∀{n:Nat},n<=h.H.length->∀s∈iv h n,(b6 h s.Q).length=1
 | 0,_,s,a=>by cases a
 | n+1,b,s,a=>by
  unfold iv at a;split at a
  ·rename_i e
   rcases z3.1 a with a|a
   ·exact sH h ω s a
   unfold pR at e;simp only[I0,C0]at e;rw[O1.1 a];exact e.2
  exact sH h ω s a
def bi.sole(e:bi h E)(f:s∈h.H)(h1:(b6 h s.Q).length=1):oG (tbl h) s.Q:=λq a g=>by
 obtain⟨k,l,b⟩:=e.mapped f;have i:s.Q=((s.Q.toNat:Nat):Int):=ω
 rw[i,eK (by show s.Q.toNat<(tbl h).K.length;omega) b]at h1;obtain⟨z,j⟩:=List.length_eq_one_iff.1 h1;have c:(s.Q.toNat:Int)∈pagesOn (tbl h) (nth (tbl h).K s.Q.toNat).e:=ec.2 ⟨ω,b,rfl⟩;have d:(q:Int)∈pagesOn (tbl h) (nth (tbl h).K s.Q.toNat).e:=ec.2 ⟨AO a,a,g⟩;rw[j]at c d;simp only[O1]at c d;omega
def Hn(hi:bi h [])(l:h.q=false):bi (started h).1 []/\JI (started h).1:=by
 have F:=hi.nums;unfold dh at F;rw[C0]at F;have L:=(kV (bH h).length (show 0<=h.b5/\h.b5<=1073741823 by omega) ((bH h).length - 1)).2;have n:=qz (bH h) (show 0<=h.b5/\h.b5<=1073741823 by omega);have c:dh {h with b5:=(shuf (bH h).length h.b5).2} = true:=by
  unfold dh;rw[C0];unfold shuf;simp only;omega
 cases o:mG (bH h) h.b5 with
 | nil=>
  have f:Ab.started h=({h with b5:=(shuf (bH h).length h.b5).2},false):=by unfold Ab.started;rw[o]
  rw[f];exact⟨{hi with nums:=c},⟨λe=>by simp[l]at e,λe=>by simp[l]at e,λe=>by simp[l]at e,λe=>by simp[l]at e⟩⟩
 | cons q Q=>
  obtain⟨R,S,g⟩:=n q (by rw[o];exact Z1 ..);have f:Ab.started h=({h with b5:=(shuf (bH h).length h.b5).2,q:=true,y:=JD (dC (nth (bH h) q.A.toNat) (nth (bH h) q.B.toNat))},true):=by unfold Ab.started;rw[o]
  rw[f];have d:∀s∈bH h,s∈h.H/\oG (tbl h) s.Q:=λs M=>by
   have G:=List.mem_of_mem_take M;have H:=pq h (C3 _) s G;exact⟨H,hi.sole H (sH h (C3 _) s G)⟩
  have j:=d _ (ax (xs:=bH h) (i:=q.A.toNat) ω);have k:=d _ (ax (xs:=bH h) (i:=q.B.toNat) ω);generalize nth (bH h) q.A.toNat=a at g j |-;generalize nth (bH h) q.B.toNat=b at g k |-;obtain⟨N,T,U⟩:=tD g;have p:(dC a b).a8=a.Q/\(dC a b).a6=b.Q\/(dC a b).a8=b.Q/\(dC a b).a6=a.Q:=by
   unfold dC;split
   ·exact .inr ⟨rfl,rfl⟩
   exact .inl ⟨rfl,rfl⟩
  have r:kq (JD (dC a b))=true:=fJ.2 ⟨N,by show(0:Int)<=0;omega,by show(0:Int)<=5;omega,by show(0:Int)<=0;omega,by show(0:Int)<=(((dC a b).W.length:Nat):Int);omega⟩;have t:∃x∈h.H,∃y∈h.H,x.Q=(dC a b).a8/\y.Q=(dC a b).a6/\meshable x y=true/\oG (tbl h) x.Q/\oG (tbl h) y.Q:=by
   rcases p with⟨u,w⟩|⟨u,w⟩
   ·exact⟨a,j.1,b,k.1,u.symm,w.symm,g,j.2,k.2⟩
   exact⟨b,k.1,a,j.1,u.symm,w.symm,by rw[je];exact g,k.2,j.2⟩
  obtain⟨x,J,y,K,C,D,E,O,P⟩:=t;exact⟨{hi with nums:=c,job:=λ_=>⟨r,⟨x,J,C⟩,⟨y,K,D⟩⟩,noj:=λe=>by cases e},⟨λ_=>⟨by show(0:Int)<=0;omega,by show(0:Int)<=3;omega⟩,λ_=>⟨x,J,y,K,C,D,E⟩,λ_=>by show oG (tbl h) (dC a b).a8;rw[<-C];exact O,λ_=>by show oG (tbl h) (dC a b).a6;rw[<-D];exact P⟩⟩
def gh(m:aM)(f:Nat):aM:=⟨m.S.set f ((nth m.S f).drop 1),m.d.set (nth (nth m.S f) 0).To.toNat (nth m.d (nth (nth m.S f) 0).To.toNat++[(nth (nth m.S f) 0).Addr])⟩
def lB(m:aM)(t:Nat):aM:=⟨m.S,m.d.set t []⟩
def iI(m:aM)(f:Nat)(p:cM):aM:=⟨m.S.set f (nth m.S f++[p]),m.d⟩
variable{m:aM}
def eO : bT m=true↔(1<=m.S.length/\m.S.length<=4/\m.d.length=m.S.length)/\(∀i,i<m.S.length->(∀p∈nth m.S i,0<=p.To/\p.To<=(m.S.length:Int) - 1/\0<=p.Addr)/\∀a∈nth m.d i,0<=a)/\bz m m.S.length<=30:=by
 unfold bT;simp only[I0,C0,cu,gu,Z3,nq,Pd];exact and_assoc
def nY(m:aM)(f t:Nat)(x:List cM)(y:List Int)(g:f<m.S.length)(h:t<m.d.length):∀n:Nat,bz ⟨m.S.set f x,m.d.set t y⟩ n=bz m n+(if f<n then(x.length:Int) - ((nth m.S f).length:Nat) else 0)+(if t<n then(y.length:Int) - ((nth m.d t).length:Nat) else 0)
 | 0=>by simp[bz]
 | n+1=>by
  have i:=nY m f t x y g h n;have j:(nth (m.S.set f x) n).length=if f=n then x.length else(nth m.S n).length:=by
   rw[cz];by_cases e:f=n
   ·rw[CA ⟨e,ω⟩,CA e]
   rw[C8 λz=>e z.1,C8 e]
  have k:(nth (m.d.set t y) n).length=if t=n then y.length else(nth m.d n).length:=by
   rw[cz];by_cases e:t=n
   ·rw[CA ⟨e,ω⟩,CA e]
   rw[C8 λz=>e z.1,C8 e]
  simp only[bz,i,j,k];by_cases d:f=n
  ·subst d
   by_cases b:t=f
   ·subst b
    simp only[if_true,Nat.lt_irrefl,if_false,Nat.lt_succ_self];omega
   simp only[if_true,Nat.lt_irrefl,if_false,Nat.lt_succ_self,C8 b];by_cases a:t<f
   ·rw[CA a,CA (show t<f+1 by omega)];omega
   rw[C8 a,C8 (show ¬t<f+1 by omega)];omega
  by_cases b:t=n
  ·subst b
   simp only[if_true,Nat.lt_irrefl,if_false,Nat.lt_succ_self,C8 d];by_cases a:f<t
   ·rw[CA a,CA (show f<t+1 by omega)];omega
   rw[C8 a,C8 (show ¬f<t+1 by omega)];omega
  simp only[C8 d,C8 b];by_cases a:f<n
  ·rw[CA a,CA (show f<n+1 by omega)]
   by_cases c:t<n
   ·rw[CA c,CA (show t<n+1 by omega)];omega
   rw[C8 c,C8 (show ¬t<n+1 by omega)];omega
  rw[C8 a,C8 (show ¬f<n+1 by omega)];by_cases c:t<n
  ·rw[CA c,CA (show t<n+1 by omega)];omega
  rw[C8 c,C8 (show ¬t<n+1 by omega)];omega
def BR[Inhabited α]{xs:List α}(h:i<xs.length):xs.set i (nth xs i)=xs:=by
 rw[<-U2.1 (au h) |>.2];exact List.set_getElem_self h
def Mt(h:bT m=true)(d:f<m.S.length)(n:0<(nth m.S f).length):bT (gh m f)=true:=by
 obtain⟨⟨o,q,r⟩,g,y⟩:=eO.1 h;obtain⟨t,A⟩:=g f d;have c:=t _ (ax n);have u:(nth (nth m.S f) 0).To.toNat<m.d.length:=ω
 refine eO.2 ⟨⟨?_,?_,?_⟩,λi j=>?_,?_⟩
 ·simp only[gh,U1];exact o
 ·simp only[gh,U1];exact q
 ·simp only[gh,U1];exact r
 ·simp only[gh,U1]at j |-
  obtain⟨k,l⟩:=g i j;simp only[cz];refine⟨λp c=>?_,λa b=>?_⟩
  ·split at c
   ·rename_i e;rw[<-e.1]at k
    refine(g f d).1 p (List.mem_of_mem_drop c)
   exact k p c
  split at b
  ·rename_i e
   rcases z3.1 b with b|b
   ·rw[e.1]at b;exact l a b
   rw[O1.1 b];exact c.2.2
  exact l a b
 have w:=nY m f (nth (nth m.S f) 0).To.toNat ((nth m.S f).drop 1) (nth m.d (nth (nth m.S f) 0).To.toNat++[(nth (nth m.S f) 0).Addr]) d u m.S.length;simp only[gh,U1];rw[w,CA d,CA ω,T3,O3,List.length_singleton];omega
def NR(h:bT m=true)(d:t<m.d.length):bT (lB m t)=true:=by
 obtain⟨⟨e,f,g⟩,j,o⟩:=eO.1 h;refine eO.2 ⟨⟨e,f,?_⟩,λi k=>?_,?_⟩
 ·simp only[lB,U1];exact g
 ·obtain⟨l,n⟩:=j i k
  simp only[lB,cz];refine⟨l,λa b=>?_⟩;split at b
  ·cases b
  exact n a b
 have c:=nY m t t (nth m.S t) [] ω d m.S.length;rw[BR ω]at c;show bz ⟨m.S,m.d.set t []⟩ m.S.length<=30;rw[c,CA ω,CA ω,List.length_nil];omega
def kJ(h:bT m=true)(b:Int):(aU m).count b=(m.S.flatMap λl=>l.map (·.Addr)).count b+(m.d.flatMap λx=>x).count b:=by
 unfold aU;rw[CA h,O5,lh]
def bi.mailed{c:List Int}(d:bi h E)(i:bT m=true)(j:m.S.length=h.u.S.length)(k:∀b,c.count b+(aU m).count b=E.count b+(aU h.u).count b)(f:∀a,a∈c\/a∈aU m->iU h.H a (-1)):bi {h with u:=m} c:=by
 have g:(E++holders h).Perm (c++holders {h with u:=m}):=by
  refine List.perm_iff_count.2 λb=>?_
  have l:=k b;simp only[holders,cy,O5];omega
 exact {d with
   mail:=i
   nc:=d.nc.trans j.symm
   hfl:=λa e=>f a (.inr e)
   hin:=λa e=>f a (.inl e)
   nd:=g.nodup_iff.1 d.nd
   mem:=λb=>by rw[<-g.mem_iff];exact d.mem b}
def Gt{d:List Int}(f:bi h E)(g:∀b,d.count b+(aU m).count b=E.count b+(aU h.u).count b):∀a,a∈d\/a∈aU m->iU h.H a (-1):=λa c=>by
 have i:=g a;have j:0<d.count a+(aU m).count a:=by
  rcases c with c|c
  ·have:=List.count_pos_iff.2 c;omega
  have:=List.count_pos_iff.2 c;omega
 by_cases e:0<E.count a
 ·exact f.hin a (List.count_pos_iff.1 e)
 exact f.hfl a (List.count_pos_iff.1 ω)
def bi.deliv(a:bi h E)(e:f<h.u.S.length)(d:0<(nth h.u.S f).length):bi {h with u:=gh h.u f} E:=by
 have c:=Mt a.mail e d;obtain⟨⟨q,r,t⟩,j,u⟩:=eO.1 a.mail;have k:=(j f e).1 _ (ax d);have g:∀b,E.count b+(aU (gh h.u f)).count b=E.count b+(aU h.u).count b:=λb=>by
  rw[kJ c,kJ a.mail];have i:=iB (λl:List cM=>l.map (·.Addr)) b h.u.S f ((nth h.u.S f).drop 1) e;have n:=iB (λx:List Int=>x) b h.u.d (nth (nth h.u.S f) 0).To.toNat (nth h.u.d (nth (nth h.u.S f) 0).To.toNat++[(nth (nth h.u.S f) 0).Addr]) ω;have o:(nth h.u.S f).map (·.Addr)=(nth (nth h.u.S f) 0).Addr::((nth h.u.S f).drop 1).map (·.Addr):=by
   generalize nth h.u.S f=l at d
   match l,d with
   | p::l,_=>rfl
  simp only[gh];rw[o]at i;simp only[List.count_cons]at i;simp only[O5,List.count_singleton]at n;omega
 exact a.mailed c (by simp[gh]) g (Gt a g)
def bi.coll(c:bi h E)(d:t<h.u.d.length):bi {h with u:=lB h.u t} (nth h.u.d t++E):=by
 have a:=NR c.mail d;have e:∀b,(nth h.u.d t++E).count b+(aU (lB h.u t)).count b=E.count b+(aU h.u).count b:=λb=>by
  rw[kJ a,kJ c.mail];have f:=iB (λx:List Int=>x) b h.u.d t [] d;simp only[List.count_nil]at f;simp only[lB,O5];omega
 exact c.mailed a rfl e (Gt c e)
def bi.send{p:cM}(c:bi h (p.Addr::E))(e:f<h.u.S.length)(a:bT (iI h.u f p)=true):bi {h with u:=iI h.u f p} E:=by
 have d:∀b,E.count b+(aU (iI h.u f p)).count b=(p.Addr::E).count b+(aU h.u).count b:=λb=>by
  rw[kJ a,kJ c.mail];have g:=iB (λl:List cM=>l.map (·.Addr)) b h.u.S f (nth h.u.S f++[p]) e;simp only[z5,I5,List.map_nil,O5,List.count_singleton]at g;simp only[iI,List.count_cons];omega
 exact c.mailed a (by simp[iI]) d (Gt c d)
def qT(now:Int):List aO->Nat
 | []=>0
 | x::xs=>if x.b2<now - 100 then qT now xs+1 else 0
def aged(h:ac)(n:Int):ac:={h with b0:=h.b0+n,a5:=⟨h.a5.b7,h.a5.a1.drop (qT (h.b0+n) h.a5.a1)⟩}
def ns(h:ac)(n:Int):List Int:=(h.a5.a1.take (qT (h.b0+n) h.a5.a1)).map (·.Addr)
def tick(h:ac)(n:Int):ac:=freeAs (aged h n) (ns h n)
def ot(x:aO)(xs:List aO):∀n,quarCells (x::xs) (n+1)=csz x.Z+quarCells xs n
 | 0=>by simp only[quarCells];show 0+csz x.Z=csz x.Z+0;omega
 | n+1=>by
  rw[iL,ot x xs n,iL];show csz x.Z+quarCells xs n+csz (nth xs n).Z=_;omega
def QJ(k:Int):0<=csz k:=by
 unfold csz;split
 ·exact Int.le_of_lt (Int.pow_pos (by decide))
 decide
def HX:∀(l:List aO)(k:Nat),qc (l.drop k)<=qc l
 | [],k=>by simp
 | x::xs,0=>V4 _
 | x::xs,k+1=>by
  have a:=HX xs k;have b:=QJ x.Z;have c:qc (x::xs)=csz x.Z+qc xs:=ot x xs xs.length;show qc (xs.drop k)<=qc (x::xs);omega
def bi.aged{h:ac}{E:List Int}{n:Int}(a:bi h E)(t:0<=n)(u:h.b0+n<=1000000):bi (aged h n) (ns h n++E):=by
 obtain⟨i,j,k,o,p,q⟩:=jC.1 a.quar;have c:=a.nums;unfold dh at c;rw[C0]at c;have e:=List.drop_sublist (qT (h.b0+n) h.a5.a1) h.a5.a1;have g:(E++holders h).Perm ((ns h n++E)++holders (Ab.aged h n)):=by
  refine List.perm_iff_count.2 λb=>?_
  have r:=X0 (λl:List aO=>(l.map (·.Addr)).count b) (List.take_append_drop (qT (h.b0+n) h.a5.a1) h.a5.a1);simp only[z5,O5]at r;simp only[holders,cy,Ab.aged,ns,O5];omega
 exact {a with
   nums:=by unfold dh;rw[C0];simp only[Ab.aged];omega
   quar:=jC.2 ⟨λy d=>i y (e.subset d),j.sublist e,k.sublist (e.map _),o,p,Int.le_trans (HX _ _) q⟩
   snc:=λy d=>by
     have:=a.snc y (e.subset d);show y.b2<=h.b0+n;omega
   hqu:=λy d=>a.hqu y (e.subset d)
   hin:=λb f=>by
     rcases z3.1 f with f|f
     · obtain⟨y,d,rfl⟩:=z4.1 f
       exact(a.hqu y (List.mem_of_mem_take d)).any
     exact a.hin b f
   nd:=g.nodup_iff.1 a.nd
   mem:=λb=>by rw[<-g.mem_iff];exact a.mem b}
def bi.tick{h:ac}{n:Int}(a:bi h [])(b:0<=n)(c:h.b0+n<=1000000):bi (tick h n) []/\JK h (tick h n):=by
 have h1:=a.aged b c;exact⟨bi.freeAs h1,JK.trans (h1:=Ab.aged h n) (JK.eq rfl rfl rfl rfl) (JK.freeAs h1)⟩
def collect(h:ac)(t:Nat):ac:=recycs t {h with u:=lB h.u t} (nth h.u.d t)
def bi.collect{h:ac}{t:Nat}(a:bi h [])(b:t<h.T.length):bi (collect h t) []/\JK h (collect h t):=by
 have h1:=a.coll (t:=t) (by rw[(eO.1 a.mail).1.2.2,<-a.nc];exact b);exact⟨bi.recycs h1 b,JK.trans (h1:={h with u:=lB h.u t}) (JK.eq rfl rfl rfl rfl) (JK.recycs h1 b)⟩
def Fk(h:ac)(t i:Nat):ac:={h with J:=gd h.J (nth h.R i).Addr (csz (aV (nth h.R i).a2)).toNat,R:=dele h.R i,u:=iI h.u t ⟨(nth h.R i).a0,(nth h.R i).Addr⟩}
def freeT(h:ac)(t i:Nat):ac × Int:=
 if aV (nth h.R i).a2<0 then(freeL h i (vf h (nth h.R i).Addr),0)
 else if(ar (tbl h) ((nth h.R i).Addr / 16)).o=1 then(h,5)
 else if(nth h.R i).a0=t then(ML h t i,0)
 else if bT (iI h.u t ⟨(nth h.R i).a0,(nth h.R i).Addr⟩)=true then(Fk h t i,0) else(h,5)
def zm(e:(nth h.R i).a0=t):freeT h t i=freeOb h t i:=by
 unfold freeT freeOb;rw[CA e]
def bi.freeT{h:ac}{t i:Nat}(a:bi h [])(b:i<h.R.length)(c:t<h.T.length):bi (freeT h t i).1 []/\JK h (freeT h t i).1:=by
 by_cases e:(nth h.R i).a0=t
 ·rw[zm e];exact⟨a.freeOb b c,JK.freeOb a b c⟩
 have d:=a.freeOb b c;have f:=JK.freeOb a b c;unfold Ab.freeOb at d f;unfold Ab.freeT;split
 ·rename_i g
  rw[CA g]at d f;exact⟨d,f⟩
 rename_i g;rw[C8 g]at d f;split
 ·exact⟨a,JK.refl h⟩
 split
 ·rename_i j
  obtain⟨⟨s,l,n,o⟩,u⟩:=(eC a (ax b)).2 g;have q:=a.dropO b (iU.any ⟨s,l,n,.inr o⟩);have r:=q.cells (k:=gd h.J (nth h.R i).Addr (csz (aV (nth h.R i).a2)).toNat) (E0 a.ker _ _) rfl;exact⟨bi.send (p:=⟨(nth h.R i).a0,(nth h.R i).Addr⟩) r (by show t<h.u.S.length;rw[<-a.nc];exact c) j,JK.eq rfl rfl rfl rfl⟩
 exact⟨a,JK.refl h⟩
def jz(k:ah)(a v:Int):ah:=setCell k (jV k a) (a % 16) v
def wj(h:aH k=true)(b:(ar k.F.O (a / 16)).o≠0)(c:0<=v/\v<=999):aH (jz k a v)=true:=by
 obtain⟨d,e,-⟩:=iX h b;exact qn h (f:=jV k a) d e c
def bi.store(b:bi h [])(c:(ar h.J.F.O (a / 16)).o≠0)(d:0<=v/\v<=999):bi {h with J:=jz h.J a v} []/\JK h {h with J:=jz h.J a v}:=
 ⟨b.cells (wj b.ker c d) rfl,JK.eq rfl rfl rfl rfl⟩
end Go.Proofs.YtiopgblagimpmaaGreat.Ab
