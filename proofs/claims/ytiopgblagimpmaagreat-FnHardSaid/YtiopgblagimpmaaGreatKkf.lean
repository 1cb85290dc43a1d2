/- An object freed by its own thread, and all objects of a thread: the reference's contracts. No condition. -/
import Derived.Test.YtiopgblagimpmaaGreatKkc
import Derived.Test.YtiopgblagimpmaaGreatKke
import Derived.Deep.LoopGhost
import Derived.Deep.RegionLaw
import Derived.Lib.Walk
import Derived.Sort.WalkB12
import Derived.Lib.SliceRun
import Derived.Shelf.RegionOpenPlain
set_option linter.unusedVariables false
set_option linter.defProp false
set_option linter.unusedSimpArgs false
set_option linter.constructorNameAsVariable false
namespace Go.Proofs.YtiopgblagimpmaaGreat.Ab
open Go.RowKit
set_option maxRecDepth 20000
set_option maxHeartbeats 4000000
def qB{z:Int}(h:0<=z/\z<512):IntKind.i64.wrap (z.tdiv 16)=z / 16:=(C1 _ (tdiv16 h.1)).trans (fJ ω ω)
variable{E:List Int}{h:ac}
def vW(a:bc h E){o:bu}(b:o∈h.O):0<=o.Addr/\o.Addr<512:=by
 rcases a.oow o b with⟨s,c,⟨f,g,-⟩,-⟩|⟨l,d,e,-⟩
 ·have:=aI (a.L.sok s c);omega
 have:=aW (a.L.lok l d);omega
theorem PI{k:Int}(h:0<=k/\k<=3):1<=csz k/\csz k<=8:=by grind [cg]
structure W6(h:ac)(o:bu):Prop where
 cl:0<=aL o.y/\aL o.y<=3
 fr:0<=(af h.F.G.Q (o.Addr / 16)).e/\(af h.F.G.Q (o.Addr / 16)).e<h.F.G.W.T.length
 fit:o.Addr % 16+csz (aL o.y)<=16
 row:(nth h.F.G.W.T (df h.F o.Addr)).length=16
theorem W6.of(a:bc h E){o:bu}(i:o∈h.O)(k:¬aL o.y<0):W6 h o:=by
 obtain⟨⟨s,j,b,r⟩,t⟩:=(eH a i).2 k;have l:=aI (a.L.sok s j);have n:=vW a i;have u:s.R=o.Addr / 16:=by have w:=b.1;have y:=b.2.1;omega
 have c:(o.Addr / 16).toNat<(tbl h).K.length:=by have:=a.pg.bnd _ (dO (la:=h.M) j);omega
 have d:(((o.Addr / 16).toNat:Nat):Int)=o.Addr / 16:=ω
 have A:=(a.pg.own _ c).2 (by grind [dO]);have e:(af h.F.G.Q (o.Addr / 16)).j≠0:=by grind [nH,tbl]
 obtain⟨-,-,-,f,p⟩:=bK a.ker e;have q:=(aZ.1 (aC.1 a.ker).2.1).2.2.1;have g:df h.F o.Addr<h.F.G.W.T.length:=by unfold df;omega
 refine⟨ω,⟨f,ω⟩,?_,a.lens.row _ (au g)⟩;have B:=b.2.2.1
 grind [cg]
theorem LT(h:ac)(a:Int)(b:df h.F a<h.F.G.W.T.length):({h with F:=gc h.F a 0} : ac)=h:=by
 have e:h.F.G.W.T.set (df h.F a) (nth h.F.G.W.T (df h.F a))=h.F.G.W.T:=by
  refine List.ext_getElem? λi=>?_
  grind [ar]
 unfold gc mI;rw[e]
def J9(h:ac)(a:Int)(k:Nat)(v:Int)(_:0<=a):bL {h with F:=gc h.F a (k+1)} = (bL {h with F:=gc h.F a k}).set 0 (.s .own (((gc h.F a k).G.W.T.map (aH .own)).set (af h.F.G.Q (a / 16)).e.toNat ((aH .own (mI (nth h.F.G.W.T (df h.F a)) (a % 16).toNat k)).set 0 (.s .own (((mI (nth h.F.G.W.T (df h.F a)) (a % 16).toNat k).map (rI .own)).set (a % 16+k).toNat (splice (rI .own v) 0 [I 0])))))):=by
 have e:(a % 16+k).toNat=(a % 16).toNat+k:=ω
 rw[e];simp[bL,gc,S8,mI,aH,splice,df]
 rfl
theorem HD(t:Nat)(h:ac)(xs:List aT)(k:Nat)(a:k<xs.length):recycs t h ((xs.take (k+1)).map (·.Addr))=recyc t (recycs t h ((xs.take k).map (·.Addr))) (nth xs k).Addr:=by grind [X7,ar,recycs]
theorem Ly(h:ac)(o:bu)(t:Nat)(a:bc h [])(N:o∈h.O)(ht:o.a5=t)(hlc:h.S.length<=4):zzB 416 false [.ptr (bL h),.val none [I (t:Nat)],.val none [I o.Addr]] [.ptr (bL (freeOb h t (sj h o.Addr)).1),.val none [I (t:Nat)],.val none [I o.Addr]] .one [I (freeOb h t (sj h o.Addr)).2]:=by
 obtain⟨g,w,B⟩:=a.objAt N;have b:=vW a N;have hon:=a.onu o N;have C:=a.lens;have hno:=C.objs;have O:t<h.S.length:=ω
 have L:=aK (t:Nat) 0 (h.S.length - 1:Int);rw[O0 ω]at L;have E:=t6 h o.Addr ω;rw[B]at E;generalize sj h o.Addr=i at g w E;subst w;have p:=ar g;have P:=lQ (nth h.O i).y;unfold freeOb;have Q:=bk a.ker;have X:=dy h.F.G.Q ((nth h.O i).Addr / 16) Q.1.2;by_cases r:aL (nth h.O i).y<0
 ·rw[CE r]
  have c3:=sL h i a g r;refine fM 148 [(511,[2,0]),(513,[2,0]),(515,[2,0,0]),(510,[2,0])] [(15,269,[68,69,70,71,72,73,74,75,77,67,78,79,11,0,1,2,3,4,5,6,7,13,8,1000,1001,1002,1003,1004,1013,9,10,11,12,14,1012,15]),(22,15,[92,93,94,95,96,97,98,99,100,101,102,103,104,105,106]),(25,271,[116,117,118,119,120,121,122,123,124,125,127,115,128,129,14,0,1,2,3,4,5,6,7,8,9,15,10,1000,1001,1002,1003,1015,11,12,13,14,16,1014,17])] [(0,0),(0,0),(0,0)] Tryz.func416 rfl (λu q=>?_)
  repeat'(first|refine gE ?_|with_reducible refine Bf.D (λj=>?_) (λj=>?_)|refine CH (E) ⟨⟨rfl,bP h⟩,⟨rfl,rfl⟩,trivial⟩ ?_)
  refine CL rfl rfl ?_;exact wB
 rw[CC r];obtain⟨R,s2,s3,s4⟩:=W6.of a (au g) r;by_cases M:(af (tbl h) ((nth h.O i).Addr / 16)).j=1
 ·rw[CE M]
  unfold tbl at M;refine fM 148 [(511,[2,0]),(513,[2,0]),(515,[2,0,0]),(510,[2,0])] [(15,269,[68,69,70,71,72,73,74,75,77,67,78,79,11,0,1,2,3,4,5,6,7,13,8,1000,1001,1002,1003,1004,1013,9,10,11,12,14,1012,15]),(22,15,[92,93,94,95,96,97,98,99,100,101,102,103,104,105,106]),(25,271,[116,117,118,119,120,121,122,123,124,125,127,115,128,129,14,0,1,2,3,4,5,6,7,8,9,15,10,1000,1001,1002,1003,1015,11,12,13,14,16,1014,17])] [(0,0),(0,0),(0,0)] Tryz.func416 rfl (λu q=>?_)
  repeat'(first|refine gB ?_|with_reducible refine Bf.D (λj=>?_) (λj=>?_)|refine CQ (by decide) ?_|refine CP (qB b) ?_|refine CH (E) ⟨⟨rfl,bP h⟩,⟨rfl,rfl⟩,trivial⟩ ?_|refine CH (X) ⟨⟨rfl,Cf _⟩,⟨rfl,rfl⟩,trivial⟩ ?_)
  refine CL rfl rfl ?_;exact wB
 rw[CC M];unfold tbl at M;have F:df h.F (nth h.O i).Addr<h.F.G.W.T.length:=by unfold df;omega
 have hcz:=PI R;have l:=a.inQuar g r;have G:=eP (aL (nth h.O i).y);refine fM 148 [(511,[2,0]),(513,[2,0]),(515,[2,0,0]),(510,[2,0])] [(15,269,[68,69,70,71,72,73,74,75,77,67,78,79,11,0,1,2,3,4,5,6,7,13,8,1000,1001,1002,1003,1004,1013,9,10,11,12,14,1012,15]),(22,15,[92,93,94,95,96,97,98,99,100,101,102,103,104,105,106]),(25,271,[116,117,118,119,120,121,122,123,124,125,127,115,128,129,14,0,1,2,3,4,5,6,7,8,9,15,10,1000,1001,1002,1003,1015,11,12,13,14,16,1014,17])] [(0,0),(0,0),(0,0)] Tryz.func416 rfl (λu q=>?_)
 repeat'(first|refine gB ?_|with_reducible refine Bf.D (λj=>?_) (λj=>?_)|refine CQ (by decide) ?_|refine CP (qB b) ?_|refine CH (E) ⟨⟨rfl,bP h⟩,⟨rfl,rfl⟩,trivial⟩ ?_|refine CH (X) ⟨⟨rfl,Cf _⟩,⟨rfl,rfl⟩,trivial⟩ ?_)
 rw[show bL h=bL {h with F:=gc h.F (nth h.O i).Addr 0} by rw[LT h _ F]]
 (conv=>whnf)
 refine CK (ι:=Nat) (λk=>[(0,.H .box (bL {h with F:=gc h.F (nth h.O i).Addr k})),(1,.H .one [I ((t:Nat):Int)]),(2,.H .one [I ((nth h.O i).Addr)]),(7,.H .one [I ((i:Nat):Int)]),(8,.H .box (bu.enc .own (nth h.O i))),(9,.H .one [I (aL (nth h.O i).y)]),(10,.H .box (bm.enc .own (af h.F.G.Q ((nth h.O i).Addr / 16)))),(13,.H .one [I ((k:Nat):Int)])]) (λk=>k<=(csz (aL (nth h.O i).y)).toNat) (λk=>(csz (aL (nth h.O i).y)).toNat - k) (0) ?_ (Z0 _) λk hk=>?_
 ·exact wB
 have Y:IntKind.i64.wrap 0=0:=rfl;have S:(nth h.O i).Addr.tmod 16=(nth h.O i).Addr % 16:=eK b.1;have n:(gc h.F (nth h.O i).Addr k).G.W.T[(af h.F.G.Q ((nth h.O i).Addr / 16)).e.toNat]? = some (mI (nth h.F.G.W.T (df h.F (nth h.O i).Addr)) ((nth h.O i).Addr % 16).toNat k):=X4 F;by_cases T:k<(csz (aL (nth h.O i).y)).toNat
 ·have H:=ar (xs:=mI (nth h.F.G.W.T (df h.F (nth h.O i).Addr)) ((nth h.O i).Addr % 16).toNat k) (i:=((nth h.O i).Addr % 16+k).toNat) (by grind [nO])
  repeat'(first|refine gE ?_|refine CQ (by decide) ?_|refine CU S ?_|refine CO s2.1 (aa n) ?_|refine CO ω (aa H) ?_|refine Pu.two rfl rfl (aa n) rfl rfl rfl (aa H) rfl (v4 _) (J9 h _ k _ b.1) ?_)
  (refine CG (k+1) ω ω ?_;(exact wB))
 obtain rfl:k=(csz (aL (nth h.O i).y)).toNat:=ω
 have c5:=p7 {h with F:=gc h.F (nth h.O i).Addr (csz (aL (nth h.O i).y)).toNat} i g ψ;have d:=a.nums;unfold cx at d;rw[C0]at d;have J:=(a.dropO g (jZ.any (c:=aL (nth h.O i).y) (by obtain⟨⟨s,hs,k1,k2⟩,-⟩:=(eH a (au g)).2 r;exact⟨s,hs,k1,.inr k2⟩))).nd;rw[List.cons_append,List.nil_append]at J;have Z:=Fj h.a7 (m0 h (nth h.O i)) (by grind [pW.quar]) a.quar ⟨R.1,R.2,b.1,d.2.2.1⟩ (λy hy=>a.snc y hy) (λy hy e=>(List.nodup_cons.1 J).1 (by rw[show(nth h.O i).Addr=y.Addr from e.symm];grind [holders]));unfold UZ at Z;have U:(B3 h.a7 (m0 h (nth h.O i))).length<=513:=by grind [pW.quar,B3]
 repeat'(first|refine gB ?_|with_reducible refine Bf.D (λj=>?_) (λj=>?_)|refine CH (Z) ⟨⟨rfl,bS.enc_fz h.a7⟩,⟨rfl,rfl⟩,trivial⟩ ?_)
 have V:GK h t i=recycs t (inQuar h i) ((B3 h.a7 (m0 h (nth h.O i))).map (·.Addr)):=rfl;simp only;rw[V];have hqn:(inQuar h i).S.length=h.S.length:=rfl;generalize B3 h.a7 (m0 h (nth h.O i))=out at l U
 (conv=>whnf)
 refine CK (ι:=Nat) (λk=>[(0,.H .box (bL (recycs t (inQuar h i) ((out.take k).map (·.Addr))))),(1,.H .one [I ((t:Nat):Int)]),(15,.H .one (dm .own out)),(16,.H .one [I ((k:Nat):Int)])]) (λk=>k<=out.length) (λk=>out.length - k) (0) ?_ (Z0 _) λk hk=>?_
 ·exact wB
 by_cases T:k<out.length
 ·have K:=ar T
  have hsp:out.map (·.Addr)=(out.take k).map (·.Addr)++(nth out k).Addr::(out.drop (k+1)).map (·.Addr):=by grind [List.take_append_drop,iT]
  have W:bc (recycs t (inQuar h i) ((out.take k).map (·.Addr))) ((nth out k).Addr::(out.drop (k+1)).map (·.Addr)):=bc.recycs ψ O;have c7:=pJ _ _ t _ W (by grind [fW])
  refine ZE ?_
  (refine CG (k+1) ω ω ?_)
  rw[HD t _ out k T];exact wB
 obtain rfl:k=out.length:=ω
 rw[C7]
 refine ZE ?_
 refine CL rfl rfl ?_;exact wB
def oE(rows:List (List C)):C:=match rows with|[]=>.s .U []|_=>.s .own rows
variable{rows:List (List C)}
theorem PL(h:rows≠[]):oE rows=.s .own rows:=by cases rows with|nil=>exact absurd rfl h|cons=>rfl
variable{P:Program}
theorem xO(w:World)(t e k:Nat)(z:Value)(g:P.underlying t=some (.slice e))(h:∀w,(zeroValue e).run P w=.ok z w)(i:z.cells.size=k)(h1:∀v∈z.cells.toList,v.oneCell'=true)(b o n:Nat)(p:0<n)(l:0<k)(q:∀j,j<n*k->(w.cell? ⟨b,o+j,none⟩).isSome=true)(r:∀j,j<n*k->w.frozen? ⟨b,o+j,none⟩ = false) :
  ∃zs:List Value,zs.length=n*k/\(∀v∈zs,v.oneCell'=true)/\∀(ty:TypeId)(c:Nat),(Builtin.clear_ #[t] ty #[.slice (some ⟨b,o,none⟩) n c]).run P w=.ok (.tuple #[]) (w.setCells b o zs):=by
 subst i;have d:(Builtin.zeroCells z.cells n).toList.length=n*z.cells.size:=by grind [Go.Builtin.zeroCells]
 have a:∀v∈(Builtin.zeroCells z.cells n).toList,v.oneCell'=true:=by grind [Nat.mod_lt,Go.Builtin.zeroCells]
 refine⟨_,d,a,λty c=>?_⟩;have f:=run_storeCells_cells (P:=P) b o (Builtin.zeroCells z.cells n).toList 0 w ψ ψ a;simp only[Nat.add_zero]at f;obtain⟨m,rfl⟩ : ∃m,n=m+1:=⟨n - 1,ω⟩
 simp[Builtin.clear_,run_underlying g,h,f]
structure kL(w w':World)(g k n i:Nat):Prop where
 keep:bA (λb o=>b=g/\o<n*k) w w'
 lo:∀q,q<i*k->cel w' g q=cel w g q
 mid:∀q,i*k<=q->q<(n - 1)*k->cel w' g q=cel w g (q+k)
 hi:∀q,(n - 1)*k<=q->q<n*k->∃z,cel w' g q=some z/\z.oneCell'=true
 fro:∀b q,fro w' b q=fro w b q
variable{w:World}
theorem bA.up{M a:am}{c:World}(h:bA M w c)(d:∀b o,M b o->a b o):bA a w c:=(Ce a w).trans h ψ
def y6(w:World):bA NO w w.drew:=⟨rfl,rfl,rfl,v4 _,λ_ _ _=>rfl,λ_ _ _ _=>rfl,λ_ _ _ _=>rfl⟩
variable{news:List Value}{n i:Nat}
theorem Pf{g k:Nat}{zs:List Value}(f:i<n)(d:∀q,q<n*k->∃z,cel w g q=some z)(G:news.length=(n - (i+1))*k)(c:∀t u,news[t]? = some u->cel w g ((i+1)*k+t)=some u)(H:zs.length=k)(l:∀v∈zs,v.oneCell'=true) :
  kL w ((w.drew.setCells g (i*k) news).setCells g ((n - 1)*k) zs) g k n i:=by
 have J:i*k+(n - (i+1))*k=(n - 1)*k:=by rw[<-Nat.add_mul];congr 1;omega
 have K:(n - 1)*k+k=n*k:=by rw[show(n - 1)*k+k=(n - 1+1)*k by rw[Nat.add_mul,Nat.one_mul]];congr 1;omega
 have L:(i+1)*k=i*k+k:=ψ
 have p:∀b q,cel w.drew b q=cel w b q:=λ_ _=>rfl
 have a:∀j,j<news.length->∃z,cel w.drew g (i*k+j)=some z:=λj r=>by rw[p];exact d _ ω
 have y:∀q,q<n*k->∃z,cel (w.drew.setCells g (i*k) news) g q=some z:=λq A=>by
  by_cases h:i*k<=q/\q<i*k+news.length
  ·have:=bw a (C3 (show q - i*k<news.length by omega))
   grind
  grind [bg]
 refine⟨?_,λq A=>?_,λq B C=>?_,λq B C=>?_,λb q=>?_⟩
 ·have D:=eN (g:=g) (X:=λb o=>b=g/\o<n*k) news (i*k) w.drew ω
  have E:=eN (g:=g) (X:=λb o=>b=g/\o<n*k) zs ((n - 1)*k) (w.drew.setCells g (i*k) news) ω;exact((y6 w).up λ_ _ h=>h.elim).trans (D.trans E λ_ _ h=>.inr h) λ_ _ h=>.inr h
 ·grind [bg]
 ·rw[bg ω]
  obtain⟨u,e⟩ : ∃u,news[q - i*k]? = some u:=⟨_,C3 ω⟩
  have F:=bw a e;have M:=c _ u e
  grind
 ·obtain⟨u,e⟩ : ∃u,zs[q - (n - 1)*k]? = some u:=(ψ)
  have F:=bw (w:=w.drew.setCells g (i*k) news) (o:=(n - 1)*k) (vs:=zs) (λj r=>y _ ω) e
  grind
 rw[bV,bV];rfl
def Vi(rows:List (List C)):Prop:=∀r∈rows,∀c∈r,∃z,c=.v z
def yU(P:Program)(f k:Nat):Prop:=M6 P f/\∀(w:World)(g n a i:Nat)(news:List Value),i<n->n<=a->news.length=(n - (i+1))*k->(∀t u,news[t]? = some u->cel w g ((i+1)*k+t)=some u)->(∀u∈news,u.oneCell'=true)->
 (∀q,q<n*k->(w.cell? ⟨g,q,none⟩).isSome=true/\w.frozen? ⟨g,q,none⟩ = false)->
 Calls P f #[.slice (some ⟨g,0,none⟩) n a,.int .i64 i,.int .i64 ((i+1:Nat):Int)] w λe c=>e=.returned (.slice (some ⟨g,0,none⟩) (n - 1) a)/\∃b:List Value,b.length=k/\(∀v∈b,v.oneCell'=true)/\c=(w.drew.setCells g (i*k) news).setCells g ((n - 1)*k) b
variable{f:Nat}
theorem QD{k:Nat}(hf:yU P f k)(hi:i<rows.length)(hk:∀r∈rows,r.length=k)(T:Ts rows) :
  aQ P f false [.mut none [.s .own rows],.val none [I (i:Nat)],.val none [I ((i+1:Nat):Int)]] [.mut none [.x],.val none [I (i:Nat)],.val none [I ((i+1:Nat):Int)]] .one [oE (dele rows i)]:=by
 refine⟨hf.1,λw S V vs hS hV hVV U=>?_⟩
 match vs,U with
 | [v,v1,v2],⟨U,W,X,_⟩=>
  have l:=(b9.rep1 (show b9 w S (V 0) none [C.s .own rows] v from U)).fresh ⟨.inl (λe=>by cases e),T⟩;have e1:v1=.int .i64 (i:Nat):=by
   have:=b9.rep1 (show b9 w S NO none [C.v (.int .i64 (i:Nat))] v1 from W);cases this;rfl
  have e2:v2=.int .i64 ((i+1:Nat):Int):=by
   have:=b9.rep1 (show b9 w S NO none [C.v (.int .i64 ((i+1:Nat):Int))] v2 from X);cases this;rfl
  subst e1 e2;have H:(dele rows i).length=rows.length - 1:=by grind [dele]
  generalize J:C.s .own rows=cc at l;cases l with
  | nil _ o a ho=>grind
  | own _ o g d n j Y u f' ho hn B p hpos hF hu hff hd hc=>
   cases J;have Z:d=k:=by rw[<-B _ (List.getElem_mem hi),<-hk _ (List.getElem_mem hi)]
   subst Z;have hnk:n*d<=j*d:=S9 _ p;have hone:∀q,q<j*d->∃z,cel w g q=some z/\z.oneCell'=true:=ψ
   have e3:(i+1)*d+(n - (i+1))*d=n*d:=by rw[<-Nat.add_mul];congr 1;omega
   obtain⟨news,K,L,hn1⟩ : ∃news:List Value,news.length=(n - (i+1))*d/\(∀t u,news[t]? = some u->cel w g ((i+1)*d+t)=some u)/\∀u∈news,u.oneCell'=true:=by
    refine⟨(List.range ((n - (i+1))*d)).map λt=>(cel w g ((i+1)*d+t)).getD undef,by simp,λt y ht=>?_,λy hy=>?_⟩
    all_goals grind
   refine(hf.2 w g n j i news ω p K L hn1 (λq D=>?_)).mono λe A ⟨he,zs,z1,z2,hw'⟩=>?_
   ·grind
   have R:=Pf (w:=w) (by omega:i<n) ψ K L z1 z2;rw[<-hw']at R;have hgV:∀q,q<j*d->V 0 g q:=ψ
   have E:bA (λb o=>∃i,V i b o) w A:=R.keep.up ψ;have e4:(n - 1)*d+d=n*d:=by rw[show(n - 1)*d+d=(n - 1+1)*d by rw[Nat.add_mul,Nat.one_mul]];congr 1;omega
   have F:∀q,q<j*d->∃z,cel A g q=some z/\z.oneCell'=true:=λq D=>by
    by_cases h1:q<i*d
    ·grind [kL.lo]
    by_cases h2:q<(n - 1)*d
    ·rw[R.mid q ω h2];grind
    grind [kL.hi,bA.cel,kL.keep]
   have M:cN A NO (V 0) [oE (dele rows i)] (λ_=>.slice (some ⟨g,0,none⟩) (n - 1) j):=by
    refine row1 ?_;by_cases hz:dele rows i=[]
    ·rw[hz]
     have hn0:n - 1=0:=ψ
     rw[hn0];exact .U _ g 0 d 0 j [] (λ_=>undef) rfl ψ (Z0 _) ω ψ
    rw[PL hz];have G:0<n - 1:=ψ
    obtain⟨σ,hσ⟩ : ∃σ:Nat->Nat,∀q,σ q=if q<i*d then q else q+d:=⟨_,λ_=>rfl⟩
    have s1:∀q,q<(n - 1)*d->σ q<n*d:=ψ
    have s2:∀q q',q≠q'->σ q≠σ q':=ψ
    have s3:∀q,q<(n - 1)*d->cel A g q=cel w g (σ q):=λq D=>by grind [kL.lo,kL.mid]
    refine .own _ .own g d (n - 1) j _ (λq=>(cel A g q).getD undef) (λq=>f' (σ q)) trivial (by rw[H];omega) (λr hr=>B r ((fD ..).subset hr)) ω G (λq D=>⟨hgV q D,F q D,(R.fro g q).trans (hF q D).2.2⟩) (λq D=>?_) ψ ψ (λa b r c N hb=>?_)
    ·grind
    have hbk:b<d:=by grind [fD]
    have hal:=(I3.1 N).1;rw[H]at hal;have hflat:a*d+b<(n - 1)*d:=eg ω hbk;obtain⟨O,h5,h6⟩ : ∃O,rows[O]? = some r/\σ (a*d+b)=O*d+b:=by
     rw[hσ];unfold dele at N;by_cases h1:a<i
     ·grind [O2,eg]
     rw[Z5 ψ,O2,List.getElem?_drop]at N;rw[show i+1+(a - min i rows.length)=a+1 by omega]at N;have:i*d<=a*d:=S9 _ ω;refine⟨a+1,N,?_⟩;rw[CC ω,Nat.add_mul,Nat.one_mul];omega
    have h7:=hc O b r c h5 hb;have Q:=tG hn B h5 hb;have hfl:=eg Q.1 Q.2;have h8:(cel A g (a*d+b)).getD undef=u (O*d+b):=ψ
    show dZ A NO (f' (σ (a*d+b))) c ((cel A g (a*d+b)).getD undef);rw[h8,h6];refine h7.keep (λ_ _ h=>h.elim) λb' o' hb'=>?_
    grind [bA.cel,kL.keep,kL.fro]
   exact⟨_,he,E,V 0,λ_=>NO,NO,ψ,λ_ _ _ h=>h.elim,λ_ _ h=>h.elim,λ_ _ _ _ _ h=>h.elim,λ_ _ _ _ h=>h.elim,λ_ _ _ h=>h.elim,λ_ _ _ h=>h.elim,rfl,M,⟨⟨rfl,λ_=>.slice (some ⟨g,0,none⟩) n j,rfl,row1 (.x _ _ rfl)⟩,trivial,trivial,trivial⟩⟩
  | _=>cases J
set_option maxRecDepth 100000
theorem yd{g cap k:Nat}(d:news.length=(n - (i+1))*k)(a:n<=cap)(b:i<n)(h:∀t u,news[t]? = some u->cel w g ((i+1)*k+t)=some u):∃A:Addr,(if cap=i+1 then some (⟨g,0,none⟩ : Addr) else some ⟨g,(i+1)*k,none⟩)=some A/\∀t u,news[t]? = some u->w.drew.cell? (A.add t)=some u:=by
 by_cases e:cap=i+1
 ·simp_all
 refine⟨⟨g,(i+1)*k,none⟩,by simp[e],λt u c=>?_⟩;rw[Addr.add_lit];exact h t u c
def PJ:∀w,(zeroValue 74).run Tryz.prog w=.ok (.agg #[.int .i64 0,.int .i64 0,.int .i64 0,.int .i64 0]) w:=λ_=>by kernel_rfl
theorem Vx:yU Tryz.prog 99 4:=by
 refine⟨⟨_,Tryz.func99,by kernel_rfl,by kernel_rfl⟩,λw g n c i news p r l y B b=>?_⟩;obtain⟨A,U,a⟩:=yd l r p y;have a:Hid (∀t u,news[t]? = some u->w.drew.cell? (A.add t)=some u):=a;have R:Hid (news.length=(n - (i+1))*4):=l;have V:Hid (∀u∈news,u.oneCell'=true):=B;have W:Hid (∀t,t<news.length->(w.drew.cell? ⟨g,0+i*4+t,none⟩).isSome=true/\w.drew.frozen? ⟨g,0+i*4+t,none⟩ = false):=λt ht=>by
  rw[C9];exact b (i*4+t) ω
 obtain⟨o,d⟩ : ∃o,o=w.drew.setCells g (0+i*4) news:=⟨_,rfl⟩
 have X:∀q,q<n*4->(o.cell? ⟨g,q,none⟩).isSome=true/\o.frozen? ⟨g,q,none⟩ = false:=λq S=>by
  have C:∀j,j<news.length->∃z,cel w.drew g (0+i*4+j)=some z:=λj Y=>by
   have:=(b (0+i*4+j) ω).1;exact Option.isSome_iff_exists.1 this
  refine⟨?_,by rw[d];exact(C1 Prod.fst (bV g _ news w.drew g q)).trans (b q S).2⟩;rw[d];by_cases h:0+i*4<=q/\q<0+i*4+news.length
  ·have:=bw C (C3 (show q - (0+i*4)<news.length by omega))
   grind
  show(cel _ g q).isSome=true;rw[bg (λx=>h x.2)];exact(b q S).1
 obtain⟨K,D,E,F⟩:=xO (P:=Tryz.prog) o 39 74 4 (.agg #[.int .i64 0,.int .i64 0,.int .i64 0,.int .i64 0]) Tryz.underlying39 PJ rfl (by intro v T;simp[Value.cells]at T;subst T;rfl) g ((i+(n - (i+1)))*4) (n - (i+(n - (i+1)))) ω (by decide) ψ ψ;have G:Hid (K.length=(n - (i+(n - (i+1))))*4):=D;have H:Hid (∀v∈K,v.oneCell'=true):=E;have Z:Hid (o=w.drew.setCells g (0+i*4) news):=d;have hic:i<=c:=ω
 have L:i+1<=c:=ω
 have M:¬i=i+1:=ω
 have N:i+1<=n:=p;have k:n - 1=i+(n - (i+1)):=ω
 clear d X b y B l D E;rw[k];generalize Y:i+1=j at U a R F G L M N k |-;obtain⟨J,O,Q⟩ : ∃J,Tryz.prog.info? 74=some J/\J.size=4:=by
  have h:=(mg 74 _ rfl).1;cases e : Tryz.prog.info? 74 with
  | none=>grind
  | some x=>rw[e]at h;simp only[I7,I1,Prod.mk.injEq]at h;exact⟨x,rfl,h.2.1⟩
 have mixed : Tryz.prog.follows .mixedOrders=true:=by kernel_rfl
 go_enter Tryz.func99,Tryz.ntmps99
 go_wp2_with fail
 go_region_law_o (refine step_append_room rfl (.tmp 22) (.tmp 25) 39 rfl 74 J 4 Tryz.underlying39 O Q g 0 i c (by simp[Act.eval,Act.put]) A (n - j) (c - j) news (by simp[Act.eval,Act.put]) R.out a.out V.out ω W.out ?_;rw[<-Z.out])
 go_wp2
 go_ret
 refine⟨rfl,K,by grind [Go.RowKit.Hid.out],H.out,?_⟩
 grind [Go.RowKit.Hid.out]
def KB:∀w,(zeroValue 175).run Tryz.prog w=.ok (.agg #[.int .i64 0,.int .i64 0,.int .i64 0]) w:=λ_=>by kernel_rfl
theorem Uw:yU Tryz.prog 102 3:=by
 refine⟨⟨_,Tryz.func102,by kernel_rfl,by kernel_rfl⟩,λw g n c i news p r l y B b=>?_⟩;obtain⟨A,U,a⟩:=yd l r p y;have a:Hid (∀t u,news[t]? = some u->w.drew.cell? (A.add t)=some u):=a;have R:Hid (news.length=(n - (i+1))*3):=l;have V:Hid (∀u∈news,u.oneCell'=true):=B;have W:Hid (∀t,t<news.length->(w.drew.cell? ⟨g,0+i*3+t,none⟩).isSome=true/\w.drew.frozen? ⟨g,0+i*3+t,none⟩ = false):=λt ht=>by
  rw[C9];exact b (i*3+t) ω
 obtain⟨o,d⟩ : ∃o,o=w.drew.setCells g (0+i*3) news:=⟨_,rfl⟩
 have X:∀q,q<n*3->(o.cell? ⟨g,q,none⟩).isSome=true/\o.frozen? ⟨g,q,none⟩ = false:=λq S=>by
  have C:∀j,j<news.length->∃z,cel w.drew g (0+i*3+j)=some z:=λj Y=>by
   have:=(b (0+i*3+j) ω).1;exact Option.isSome_iff_exists.1 this
  refine⟨?_,by rw[d];exact(C1 Prod.fst (bV g _ news w.drew g q)).trans (b q S).2⟩;rw[d];by_cases h:0+i*3<=q/\q<0+i*3+news.length
  ·have:=bw C (C3 (show q - (0+i*3)<news.length by omega))
   grind
  show(cel _ g q).isSome=true;rw[bg (λx=>h x.2)];exact(b q S).1
 obtain⟨K,D,E,F⟩:=xO (P:=Tryz.prog) o 38 175 3 (.agg #[.int .i64 0,.int .i64 0,.int .i64 0]) Tryz.underlying38 KB rfl (by intro v T;simp[Value.cells]at T;subst T;rfl) g ((i+(n - (i+1)))*3) (n - (i+(n - (i+1)))) ω (by decide) ψ ψ;have G:Hid (K.length=(n - (i+(n - (i+1))))*3):=D;have H:Hid (∀v∈K,v.oneCell'=true):=E;have Z:Hid (o=w.drew.setCells g (0+i*3) news):=d;have hic:i<=c:=ω
 have L:i+1<=c:=ω
 have M:¬i=i+1:=ω
 have N:i+1<=n:=p;have k:n - 1=i+(n - (i+1)):=ω
 clear d X b y B l D E;rw[k];generalize Y:i+1=j at U a R F G L M N k |-;obtain⟨J,O,Q⟩ : ∃J,Tryz.prog.info? 175=some J/\J.size=3:=by
  have h:=(mg 175 _ rfl).1;cases e : Tryz.prog.info? 175 with
  | none=>grind
  | some x=>rw[e]at h;simp only[I7,I1,Prod.mk.injEq]at h;exact⟨x,rfl,h.2.1⟩
 have mixed : Tryz.prog.follows .mixedOrders=true:=by kernel_rfl
 go_enter Tryz.func102,Tryz.ntmps102
 go_wp2_with fail
 go_region_law_o (refine step_append_room rfl (.tmp 22) (.tmp 25) 38 rfl 175 J 3 Tryz.underlying38 O Q g 0 i c (by simp[Act.eval,Act.put]) A (n - j) (c - j) news (by simp[Act.eval,Act.put]) R.out a.out V.out ω W.out ?_;rw[<-Z.out])
 go_wp2
 go_ret
 refine⟨rfl,K,by grind [Go.RowKit.Hid.out],H.out,?_⟩
 grind [Go.RowKit.Hid.out]
def P0:∀w,(zeroValue 267).run Tryz.prog w=.ok (.agg #[.int .i64 0,.int .i64 0,.int .i64 0]) w:=λ_=>by kernel_rfl
theorem Hy:yU Tryz.prog 492 3:=by
 refine⟨⟨_,Tryz.func492,by kernel_rfl,by kernel_rfl⟩,λw g n c i news p r l y B b=>?_⟩;obtain⟨A,U,a⟩:=yd l r p y;have a:Hid (∀t u,news[t]? = some u->w.drew.cell? (A.add t)=some u):=a;have R:Hid (news.length=(n - (i+1))*3):=l;have V:Hid (∀u∈news,u.oneCell'=true):=B;have W:Hid (∀t,t<news.length->(w.drew.cell? ⟨g,0+i*3+t,none⟩).isSome=true/\w.drew.frozen? ⟨g,0+i*3+t,none⟩ = false):=λt ht=>by
  rw[C9];exact b (i*3+t) ω
 obtain⟨o,d⟩ : ∃o,o=w.drew.setCells g (0+i*3) news:=⟨_,rfl⟩
 have X:∀q,q<n*3->(o.cell? ⟨g,q,none⟩).isSome=true/\o.frozen? ⟨g,q,none⟩ = false:=λq S=>by
  have C:∀j,j<news.length->∃z,cel w.drew g (0+i*3+j)=some z:=λj Y=>by
   have:=(b (0+i*3+j) ω).1;exact Option.isSome_iff_exists.1 this
  refine⟨?_,by rw[d];exact(C1 Prod.fst (bV g _ news w.drew g q)).trans (b q S).2⟩;rw[d];by_cases h:0+i*3<=q/\q<0+i*3+news.length
  ·have:=bw C (C3 (show q - (0+i*3)<news.length by omega))
   grind
  show(cel _ g q).isSome=true;rw[bg (λx=>h x.2)];exact(b q S).1
 obtain⟨K,D,E,F⟩:=xO (P:=Tryz.prog) o 37 267 3 (.agg #[.int .i64 0,.int .i64 0,.int .i64 0]) Tryz.underlying37 P0 rfl (by intro v T;simp[Value.cells]at T;subst T;rfl) g ((i+(n - (i+1)))*3) (n - (i+(n - (i+1)))) ω (by decide) ψ ψ;have G:Hid (K.length=(n - (i+(n - (i+1))))*3):=D;have H:Hid (∀v∈K,v.oneCell'=true):=E;have Z:Hid (o=w.drew.setCells g (0+i*3) news):=d;have hic:i<=c:=ω
 have L:i+1<=c:=ω
 have M:¬i=i+1:=ω
 have N:i+1<=n:=p;have k:n - 1=i+(n - (i+1)):=ω
 clear d X b y B l D E;rw[k];generalize Y:i+1=j at U a R F G L M N k |-;obtain⟨J,O,Q⟩ : ∃J,Tryz.prog.info? 267=some J/\J.size=3:=by
  have h:=(mg 267 _ rfl).1;cases e : Tryz.prog.info? 267 with
  | none=>grind
  | some x=>rw[e]at h;simp only[I7,I1,Prod.mk.injEq]at h;exact⟨x,rfl,h.2.1⟩
 have mixed : Tryz.prog.follows .mixedOrders=true:=by kernel_rfl
 go_enter Tryz.func492,Tryz.ntmps492
 go_wp2_with fail
 go_region_law_o (refine step_append_room rfl (.tmp 22) (.tmp 25) 37 rfl 267 J 3 Tryz.underlying37 O Q g 0 i c (by simp[Act.eval,Act.put]) A (n - j) (c - j) news (by simp[Act.eval,Act.put]) R.out a.out V.out ω W.out ?_;rw[<-Z.out])
 go_wp2
 go_ret
 refine⟨rfl,K,by grind [Go.RowKit.Hid.out],H.out,?_⟩
 grind [Go.RowKit.Hid.out]
theorem HS(xs:List aA)(i:Nat)(a:i<xs.length):zzB 492 false [.mut none [.s .own (xs.map (aA.enc .own))],.val none [I (i:Nat)],.val none [I ((i+1:Nat):Int)]] [.mut none [.x],.val none [I (i:Nat)],.val none [I ((i+1:Nat):Int)]] .one [oE ((dele xs i).map (aA.enc .own))]:=by
 have h:=QD Hy (rows:=xs.map (aA.enc .own)) (i:=i) ψ (aO λ_=>rfl) (bi _ _ λx _=>aA.enc_fr x)
 grind [C5,I5,dele]
def En(h:ac)(p:Int):zzA 187 false [.val (some 24) (ac.enc .U h),.val none [I p]] .one [B (fB h p)]:=by
 cases e:h.q
 all_goals
  have b:ac.enc .U h=(ac.enc .U h).set 18 (B h.q):=rfl;rw[e]at b;rw[b];refine fO 23 [] Tryz.func187 rfl ?_
  repeat'(first|refine gP ?_|with_reducible (first|refine Bf.D (λa=>?_) (λa=>?_)|refine Bf.E (λa=>?_) (λa=>?_)|refine Bf.N (λa=>?_) (λa=>?_)))
  all_goals exact C1 (λz=>[B z]) ((by unfold fB;rw[e];first|(simp[*];done)|(simp[*];rw[I6];simp;try omega)|(rw[I6];simp[*];try omega)))
def tU(h:ac):zzA 71 false [.val (some 24) (ac.enc .U h)] .one [I (fo h:Nat)]:=by
 refine fO 9 [] Tryz.func71 rfl ?_
 refine ZP ?_
 rfl
theorem dG(c:C):T6 c c:=(nQ [c]).1
def cE(h:ac)(s l o:C):List C:=[.s .own (h.F.G.W.T.map (aH .own)),.s .own (h.F.G.W.a1.map (rB .own)),.s .own (h.F.G.Q.K.map (bm.enc .own)),I h.F.Calls,.s .own (h.F.u.map (rI .own)),.s .own (h.o.map (aB.enc .own)),s,l,o,.s .own (h.S.map (aF.enc .own)),.s .own (h.w.V.map (cL .own)),.s .own (h.w.a2.map (aH .own)),I h.a7.b8,.s .own (h.a7.a6.map (aT.enc .own)),I h.b3,I h.b2,I h.b1,I h.b,B h.q,I h.Y.X.a3,I h.Y.X.a0,.s .own (h.Y.X.T.map (rI .own)),I h.Y.b0,I h.Y.b]
def oS(h:ac):C:=oE (h.J.map (aA.enc .own))
def oL(h:ac):C:=oE (h.M.map (aE.enc .own))
def oO(h:ac):C:=oE (h.O.map (bu.enc .own))
def gm(h:ac):List C:=cE h (oS h) (oL h) (oO h)
def LH(rows:List (List C)):fz (oE rows)=fz (.s .own rows):=by cases rows<;>rfl
def UE : oE rows=.s .own rows\/(rows=[]/\oE rows=.s .U []):=by cases rows with|nil=>exact .inr ⟨rfl,rfl⟩|cons=>exact .inl rfl
def W2(h:ac){s l o:C}(a:fz s=.s .U (h.J.map (aA.enc .U)))(b:fz l=.s .U (h.M.map (aE.enc .U)))(c:fz o=.s .U (h.O.map (bu.enc .U))):dM (cE h s l o)=ac.enc .U h:=by
 have d:=ac.enc_fz h;have e:dM (cE h s l o)=(((dM (ac.enc .own h)).set 6 (fz s)).set 7 (fz l)).set 8 (fz o):=rfl;rw[e,d,a,b,c];rfl
def Wb(h:ac):fz (oS h)=.s .U (h.J.map (aA.enc .U)):=(LH _).trans (Ag _)
def UL(h:ac):fz (oL h)=.s .U (h.M.map (aE.enc .U)):=(LH _).trans (vE _)
def Wa(h:ac):fz (oO h)=.s .U (h.O.map (bu.enc .U)):=(LH _).trans (xV _)
def mP(h:ac):dM (gm h)=ac.enc .U h:=W2 h (Wb h) (UL h) (Wa h)
def E9(h:Ts rows):U9 (oE rows):=by cases rows with|nil=>exact⟨.inr rfl,trivial⟩|cons r a=>exact⟨.inl λe=>(by cases e),h⟩
def mU(h:ac):i6 (gm h):=by
 have a:=ac.enc_fr h;simp only[ac.enc,i6]at a;unfold gm cE;simp only[i6];refine⟨a.1,a.2.1,a.2.2.1,a.2.2.2.1,a.2.2.2.2.1,a.2.2.2.2.2.1,E9 ?_,E9 ?_,E9 ?_,a.2.2.2.2.2.2.2.2.2⟩
 ·exact a.2.2.2.2.2.2.1.2
 ·exact a.2.2.2.2.2.2.2.1.2
 exact a.2.2.2.2.2.2.2.2.1.2
def te{S Y:am}{v:Value}(h:dZ w S Y (.s .own rows) v):dZ w S Y (oE rows) v:=by
 cases rows with
 | cons=>exact h
 | nil=>
  cases h with
  | nil _ o a d=>exact .nil _ .U a trivial
  | own _ o g k n e rows u f d i j b c l p q r t=>simp at i;omega
theorem RM{S Y:am}{u:Nat->Value}(b:cN w S Y (ac.enc .own h) u):cN w S Y (gm h) u:=by
 obtain⟨f,a,d,e⟩:=b;refine⟨f,λj c g=>?_,d,e⟩;have i:gm h=(((ac.enc .own h).set 6 (oS h)).set 7 (oL h)).set 8 (oO h):=rfl;rw[i]at g;by_cases k:j=8
 ·subst k
  have:c=oO h:=ψ
  rw[this];exact te (a 8 _ rfl)
 by_cases l:j=7
 ·subst l
  have:c=oL h:=ψ
  rw[this];exact te (a 7 _ rfl)
 by_cases n:j=6
 ·subst n
  have:c=oS h:=ψ
  rw[this];exact te (a 6 _ rfl)
 grind
def mi(h:ac)(a:ac.sml h):zzA 62 false [.val (some 24) (ac.enc .U h)] .agg (gm h):=by
 obtain⟨b,c⟩:=nr h a;refine⟨b,λw S d g i=>(c w S d g i).mono λe w1 j=>?_⟩;obtain⟨v,k,l,X,n,o,p,q,r,t⟩:=j;exact⟨v,k,l,X,n,o,p,q,r,RM t⟩
theorem yL(h:ac)(r:aB)(n:Nat)(a:aD h.F=true)(j:h.F.Calls≠100000)(b:h.o.length<=1048576)(l:r.a8=n/\0<=r.At/\r.At<=1000/\n<=1000) :
  zzB 103 false [.ptr (gm h),.val (some 2) (aB.enc .U r)] [.ptr (gm {h with F:=unmN h.F r.At n,o:=(cB (fo h) h.o r).getD h.o}),.val (some 2) (aB.enc .U r)] (.tup []) []:=by
 have c:=a;have e:fo h<=32:=(bo.1 (aC.1 a).2.2.1).2.2;have d:=tU {h with F:=unmN h.F r.At n};rw[show fo {h with F:=unmN h.F r.At n} = fo h from(eZ _ _ _).1]at d;have g:=BA (fo h:Nat) h.o r ω ⟨b,λ_ _=>trivial⟩;refine fM 44 [] [(5,272,[29,30,31,32,33,34,35,36,37,38,39,28,40,41,42,43,0,1,2,3,4,5,6,7,8,9,10,11,12,13,14,15,16,1013])] [(0,0),(0,0)] Tryz.func103 rfl (λu q=>?_) (.inr trivial)
 refine ZP ?_
 refine CK (ι:=Nat) (λk=>[(0,.H .box (gm {h with F:=unmN h.F r.At k})),(3,.H .box (aB.enc .U r)),(4,.H .one [I ((r.At+k))])]) (λk=>k<=n) (λk=>n - k) (0) ?_ (Z0 _) λk a=>?_
 ·exact wC
 by_cases o:k<n
 ·have i:=ql (unmN h.F r.At k) (r.At+k) (io c _ _) (by grind [kn])
  repeat'(first|refine gE ?_|refine CH (i) ⟨⟨rfl,CS _⟩,⟨rfl,rfl⟩,trivial⟩ ?_)
  (refine CG (k+1) ω ω ?_;(exact wC))
 obtain rfl:k=n:=ω
 repeat'(first|refine gE ?_|refine CH (d) ⟨⟨rfl,mP _⟩,trivial⟩ ?_|refine CH (g) ⟨⟨rfl,rfl⟩,⟨rfl,ee h.o⟩,⟨rfl,rfl⟩,trivial⟩ ?_)
 refine CL rfl rfl ?_;exact wC
theorem nL{c a:C}(h:a=c):T6 c a:=by grind [dG]
theorem Q3(k:ah)(p:Int):unmN k p 1=co k p:=by show co k (p+((0:Nat):Int))=_;grind
theorem FG(a:h.J≠[]):gm h=cE h (.s .own (h.J.map (aA.enc .own))) (oL h) (oO h):=by grind [PL,List.map_eq_nil_iff,gm,oS]
def Wq(h:ac):oL h=.s .own (h.M.map (aE.enc .own))\/(h.M=[]/\oL h=.s .U []):=by
 rcases UE (rows:=h.M.map (aE.enc .own)) with e|⟨a,b⟩
 ·exact .inl e
 exact .inr ⟨List.map_eq_nil_iff.1 a,b⟩
variable{α:Type}
theorem y8{xs:List α}(h:i<xs.length):xs≠[]:=(ψ)
theorem BB(h:ac)(i:Nat)(j:aD h.F=true)(k:h.F.Calls≠100000)(b:h.o.length<=1048576)(c:i<h.J.length)(l:h.J.length<=1048576)(o:0<=(nth h.J i).R/\(nth h.J i).R<=31) :
  zzB 386 false [.ptr (gm h),.val none [I (i:Nat)]] [.ptr (gm (giveP h i)),.val none [I (i:Nat)]] (.tup []) []:=by
 have d:=ar c;have g:=HS h.J i c;have a:=yL {h with J:=dele h.J i} ⟨(nth h.J i).R,1⟩ 1 j k b ψ;rw[show unmN ({h with J:=dele h.J i} : ac).F (aB.mk (nth h.J i).R 1).At 1=co h.F (nth h.J i).R from Q3 _ _]at a;have n:gm {h with J:=dele h.J i} = cE h (oE ((dele h.J i).map (aA.enc .own))) (oL h) (oO h):=rfl;rw[FG (y8 c)];rcases UE (rows:=(dele h.J i).map (aA.enc .own)) with e|⟨-,e⟩
 all_goals
  rw[n]at a;rw[e]at g a;refine fM 28 [(492,[1,0,0]),(103,[2,0])] [] [(0,0),(0,0)] Tryz.func386 rfl (λu q=>?_) (.inr trivial)
  refine ZP ?_
  refine CL rfl rfl ?_;exact wB
variable{a:Int}
def Ve(c:bc h E)(d:i<h.J.length)(b:eS (nth h.J i) a):denotes h.J h.M a = ⟨1,i,cT (nth h.J i) a,0⟩:=by
 rw[iX c.L d ⟨b.1,b.2.1⟩];unfold pu;rw[b.2.2.2,b.2.2.1];rfl
theorem x7(h:ac)(E:List Int)(a:Int)(b:bc h (a::E))(G:h.F.Calls≠100000):zzB 247 false [.ptr (gm h),.val none [I a]] [.ptr (gm (freeA h a)),.val none [I a]] (.tup []) []:=by
 obtain⟨g,t,H⟩:=b.at (b.hin a ψ);have J:=(b.hin a ψ).bd b;have D:=b.lens;have K:=D.spans;have M:=D.larges;unfold freeA;generalize sX h a=i at g t;have l:=b.L.sok _ (au g);have N:=aI l;have c:=ar g;have j:=oR h.J h.M a ⟨ω,λ_ _=>trivial⟩ ⟨ω,λ_ _=>trivial⟩;rw[Ve b g t]at j;have w:=BW (nth h.J i) (cT (nth h.J i) a) l t.2.2.2;have P:=b.give g t;have n:=En (clrS h i a) (nth h.J i).R;rw[show fB (clrS h i a) (nth h.J i).R=fB h (nth h.J i).R from rfl]at n;have o:i<(clrS h i a).J.length:=by grind [clrS]
 have y:(nth (clrS h i a).J i).R=(nth h.J i).R:=by unfold clrS;simp only[bB,true_and];rw[CE g];rfl
 have p:=BB (clrS h i a) i b.ker G (by show h.o.length<=_;grind [pW.free]) o (by grind [clrS]) (by rw[y];omega);have d:gm (clrS h i a)=cE h (.s .own ((h.J.map (aA.enc .own)).set i (aA.enc .own (ly (nth h.J i) (cT (nth h.J i) a))))) (oL h) (oO h):=by
  rw[FG (y8 o)];show cE h (.s .own ((h.J.set i _).map _)) (oL h) (oO h)=_;rw[S8]
 have r:=mP (clrS h i a);rw[d]at r p;have k:((h.J.map (aA.enc .own)).set i (aA.enc .own (ly (nth h.J i) (cT (nth h.J i) a))))[i]? = some (aA.enc .own (ly (nth h.J i) (cT (nth h.J i) a))):=jC g;rw[FG (y8 g)];have B:=UL h;unfold freeS;rcases Wq h with e|⟨C,e⟩
 all_goals
  try rw[C]at j
  rw[e]at p r B d |-;by_cases F:(ly (nth h.J i) (cT (nth h.J i) a)).a9=0
  ·cases O:fB h (nth h.J i).R<;>rw[O]at n
   ·rw[CE ⟨F,rfl⟩]
    refine fM 64 [(386,[2,0])] [(0,11,[6,7,8,9,10,11,12,13,14,15,4]),(2,277,[20,21,22,23,24,25,26,27,28,29,30,31,32,33,34,35,36,19,37,38,39,0,1,2,3,4,5,6,7,8,9,10,11,12,13,14,15,16,17,18,19,20,21,1019]),(3,9,[40,41,42,43,44,45,46,47,5]),(4,9,[48,49,50,51,52,53,54,55,56])] [(0,0),(0,0)] Tryz.func247 rfl (λu q=>?_) (.inr trivial)
    repeat'(first|refine gB ?_|refine CH (j) ⟨⟨rfl,gL _⟩,⟨rfl,mW _⟩,⟨rfl,rfl⟩,trivial⟩ ?_|refine CH (j) ⟨⟨rfl,gL _⟩,⟨rfl,rfl⟩,⟨rfl,rfl⟩,trivial⟩ ?_|refine CF k ?_|refine CJ rfl k rfl ?_|refine CR rfl rfl (aa c) rfl (Z1 rfl) rfl ?_|refine CH (n) ⟨⟨rfl,r⟩,⟨rfl,rfl⟩,trivial⟩ ?_)
    refine CL rfl rfl ?_;exact wB
   rw[CC (λx=>by cases x.2),d];refine fM 64 [(386,[2,0])] [(0,11,[6,7,8,9,10,11,12,13,14,15,4]),(2,277,[20,21,22,23,24,25,26,27,28,29,30,31,32,33,34,35,36,19,37,38,39,0,1,2,3,4,5,6,7,8,9,10,11,12,13,14,15,16,17,18,19,20,21,1019]),(3,9,[40,41,42,43,44,45,46,47,5]),(4,9,[48,49,50,51,52,53,54,55,56])] [(0,0),(0,0)] Tryz.func247 rfl (λu q=>?_) (.inr trivial)
   repeat'(first|refine gB ?_|refine CH (j) ⟨⟨rfl,gL _⟩,⟨rfl,mW _⟩,⟨rfl,rfl⟩,trivial⟩ ?_|refine CH (j) ⟨⟨rfl,gL _⟩,⟨rfl,rfl⟩,⟨rfl,rfl⟩,trivial⟩ ?_|refine CF k ?_|refine CJ rfl k rfl ?_|refine CR rfl rfl (aa c) rfl (Z1 rfl) rfl ?_|refine CH (n) ⟨⟨rfl,r⟩,⟨rfl,rfl⟩,trivial⟩ ?_)
   refine CL rfl rfl ?_;exact wB
  rw[CC (λx=>F x.1),d];refine fM 64 [(386,[2,0])] [(0,11,[6,7,8,9,10,11,12,13,14,15,4]),(2,277,[20,21,22,23,24,25,26,27,28,29,30,31,32,33,34,35,36,19,37,38,39,0,1,2,3,4,5,6,7,8,9,10,11,12,13,14,15,16,17,18,19,20,21,1019]),(3,9,[40,41,42,43,44,45,46,47,5]),(4,9,[48,49,50,51,52,53,54,55,56])] [(0,0),(0,0)] Tryz.func247 rfl (λu q=>?_) (.inr trivial)
  repeat'(first|refine gB ?_|refine CH (j) ⟨⟨rfl,gL _⟩,⟨rfl,mW _⟩,⟨rfl,rfl⟩,trivial⟩ ?_|refine CH (j) ⟨⟨rfl,gL _⟩,⟨rfl,rfl⟩,⟨rfl,rfl⟩,trivial⟩ ?_|refine CF k ?_|refine CJ rfl k rfl ?_|refine CR rfl rfl (aa c) rfl (Z1 rfl) rfl ?_|refine CH (n) ⟨⟨rfl,r⟩,⟨rfl,rfl⟩,trivial⟩ ?_)
  refine CL rfl rfl ?_;exact wB
theorem dZ.frz_at{S F:am}{v:Value}{c:C}(h:dZ w S F (.s .own rows) v)(D:rows[i]? = some [c]):∃V:am,(∀b o,V b o->F b o)/\dZ w (λb o=>S b o\/V b o) (λb o=>F b o/\¬V b o) (.s .own (rows.set i [fz c])) v:=by
 cases h with
 | nil _ o a E=>simp at D
 | own _ o g k n B rows u f E K L d l M N O P G=>
  have Q:i<rows.length:=ψ
  obtain rfl:k=1:=by rw[<-L [c] ψ];rfl
  simp only[Nat.mul_one]at M N O P G;refine⟨f i,ψ,?_⟩;refine .own _ .own g 1 n B _ u (λq=>if q=i then NO else f q) E (by simpa using K) (λr h=>?_) d l (λq H=>?_) ψ (λq H b o p=>?_) (λq X H R T b o p t=>?_) (λJ U r W y A=>?_)
  ·grind
  ·grind
  ·split at p
   ·exact p.elim
   grind
  ·split at p
   ·exact p.elim
   split at t
   ·exact t.elim
   grind
  by_cases e:J=i
  ·subst e
   rw[X4 Q]at y;obtain rfl:=Option.some.inj y;cases U with
   | succ j=>simp at A
   | zero=>
    obtain rfl:fz c=W:=by simpa using A
    have:=(G J 0 [c] c D rfl).freeze
    grind
  grind [dZ.mono]
theorem ax.frz{sh:Bool}{A:List RA}{k:Kd}{c:C}(h:ax P f sh A k [.s .own rows])(d:rows[i]? = some [c]):ax P f sh A k [.s .own (rows.set i [fz c])]:=by
 obtain⟨l,n⟩:=h;refine⟨l,λw S p q r=>(n w S p q r).mono λe w1 t=>?_⟩;obtain⟨v,u,y,X,B,H,J,K,D,g,E,L,M⟩:=t;obtain⟨V,N,O⟩:=(E 0 _ rfl).frz_at d;have F:∀b o,V b o->X b o:=ψ
 refine⟨v,u,y,λb o=>X b o/\¬V b o,λb o=>B b o\/V b o,ψ,λb o a=>?_,λb o a h=>?_,D,λj=>if j=0 then(λb o=>g 0 b o/\¬V b o) else NO,λj Q G=>?_,λj G b o a=>?_,ψ⟩
 ·grind
 ·grind
 ·grind
 all_goals simp_all
def MV(c:aF)(k:Nat):aF:=⟨c.Z.set k []⟩
theorem LN(c:aF)(k:Nat):aF.enc .own (MV c k)=[.s .own ((c.Z.map (aH .own)).set k (aH .own []))]:=by grind [S8,aF.enc,MV]
theorem GU(xs:List Int):([]:List Int).map (rI .U)=(xs.map (rI .U)).drop xs.length:=by simp_all
theorem HR(xs:List Int):xs.map (rI .U)=(xs.map (rI .U)).take xs.length:=by grind [O1]
def vO{k:Nat}{r:List C}(h:k<rows.length):(rows.set k r)[k]? = some r:=X4 h
def Wp(c:aF)(k:Nat):List C:=aF.enc .own (MV c k)++aH .own (nth c.Z k)
def QC(c:aF)(k:Nat):i6 (Wp c k):=aJ (aF.enc_fr _) (bO _)
def x9(c:aF)(k:Nat)(d:bD c=true)(p:k<=3):zzA 522 false [.val (some 1) (aF.enc .U c),.val none [I (k:Nat)],.val none [I 8]] (.tup [some 1,none]) (Wp c k):=by
 obtain⟨q,e⟩:=eJ d;have g:aF.sml c:=⟨ω,λl j=>by have:=e l j;show l.length<=1048576;omega⟩
 have h:=yw c k g;rw[d,O0 ω]at h;have n:=jU c g;have a:=nN (c:=c) (k:=k) ω;have o:=e _ (au (xs:=c.Z) (i:=k) ω);have b:=QC c k;unfold Wp at b |-;rw[LN]at b |-;refine fO 52 [(5,268,[29,30,31,32,33,34,35,36,37,38,39,41,0,1,2,3,4,5,6,7,8,9,10,11,1000,1001,1002,12,13]),(6,265,[42,43,44,45,46,47,48,49,50,0,1,2,3,4,5,6,7,8,9,1000,10,11])] Tryz.func522 rfl ?_ (.inr b)
 repeat'(first|refine gP ?_|refine CU (z:=((nth c.Z k).length:Int)) (by simp;omega) ?_|refine Cb (nth c.Z k).length rfl (by rw[O1];omega) (aO λ_=>rfl) (GU _) ?_|refine CY (nth c.Z k).length rfl (by rw[O1];omega) (aO λ_=>rfl) (HR _) ?_|refine CZ (λ_=>rfl) (λ_=>rfl) (by simp) (by decide) ?_|refine CT (λ_=>rfl) (λ_=>rfl) (by simp) (by decide) ?_|refine CZ (λ_=>rfl) (λ_=>rfl) ω (by decide) ?_|refine CT (λ_=>rfl) (λ_=>rfl) ω (by decide) ?_|refine CR rfl rfl (aa a) rfl (Z1 rfl) rfl ?_)
 rfl
theorem xE(c:aF)(k:Nat)(e:bD c=true)(q:k<=3):zzA 246 false [.val (some 1) (aF.enc .U c),.val none [I (k:Nat)],.val none [I 8]] (.tup [some 1,none]) (Wp c k):=by
 obtain⟨r,g⟩:=eJ e;have h:aF.sml c:=⟨ω,λl o=>by have:=g l o;show l.length<=1048576;omega⟩
 have j:=zg c k h;rw[e,O0 ω]at j;have b:=nN (c:=c) (k:=k) ω;have p:=g _ (au (xs:=c.Z) (i:=k) ω);have n:=ax.frz (jA c h) (i:=k) (c:=.s .own ((nth c.Z k).map (rI .own))) (aa b);rw[show fz (.s .own ((nth c.Z k).map (rI .own)))=.s .U ((nth c.Z k).map (rI .U)) from(List.cons.inj (dH (nth c.Z k))).1]at n;have a:k<(c.Z.map (aH .own)).length:=ψ
 have d:=QC c k;unfold Wp at d |-;rw[LN]at d |-;refine fO 43 [(6,7,[30,31,32,33,34,35,36]),(7,5,[38,39,40,41,42])] Tryz.func246 rfl ?_ (.inr d)
 repeat'(first|refine gP ?_|refine CU (z:=((nth c.Z k).length:Int)) (by simp;omega) ?_|refine Cb (nth c.Z k).length rfl (by rw[O1];omega) (aO λ_=>rfl) (GU _) ?_|refine CY (nth c.Z k).length rfl (by rw[O1];omega) (aO λ_=>rfl) (HR _) ?_|refine CB (gZ [] (by simp)) ?_|refine CB (gZ (nth c.Z k) ω) ?_|refine CJ rfl (vO a) rfl ?_|refine CR rfl rfl (vO a) rfl (Z1 rfl) (by simp only[List.set_cons_zero,List.set_set];rfl) ?_|refine CF (vO a) ?_)
 simp only[List.set_set,Y3];rfl
theorem qX{k:Int} : ∀{l s s2 b:List Int},(∀x∈s2,x∈s)->tL k s l=some b->(∀x∈s,x∈b)/\∃c,tL k s2 l=some c/\∀x∈c,x∈b
 | [],s,s2,b,h,e=>by grind [tL]
 | a::l,s,s2,b,h,e=>by
  simp only[tL]at e |-;split at e
  ·rename_i g
   rw[CE (show good k s2 a from⟨g.1,g.2.1,g.2.2.1,λx=>g.2.2.2 (h a x)⟩)];obtain⟨d,f⟩:=qX (l:=l) (s:=s++[a]) (s2:=s2++[a]) ψ e
   grind
  cases e
theorem w6:∀{a:List (List Int)}{k:Nat}{s s2:List Int},(∀x∈s2,x∈s)->(iC k s a).isSome=true->(iC k s2 a).isSome=true
 | [],_,_,_,_,_=>rfl
 | l::a,k,s,s2,h,e=>by
  simp only[iC,gf]at e |-;split at e
  ·rename_i g
   rw[CE g];cases b:tL k s l with
   | none=>grind
   | some i=>
    rw[b]at e;obtain⟨-,c,d,f⟩:=qX h b;rw[d];exact w6 f e
  cases e
theorem HP:∀{a:List (List Int)}{k:Nat}{s s2:List Int}(i:Nat),(∀x∈s2,x∈s)->(iC k s a).isSome=true->(iC k s2 (a.set i [])).isSome=true
 | [],_,_,_,_,_,_=>rfl
 | l::a,k,s,s2,i,h,e=>by
  simp only[iC,gf]at e;split at e
  ·rename_i g
   cases b:tL k s l with
   | none=>grind
   | some j=>
    rw[b]at e;obtain⟨n,c,d,f⟩:=qX h b;cases i with
    | zero=>
     simp only[List.set_cons_zero,iC,gf];rw[CE ⟨by simp,g.2⟩];exact w6 ψ e
    | succ i=>
     simp only[List.set_cons_succ,iC,gf];rw[CE g,d];exact HP i f e
  cases e
theorem V3{c:aF}(h:bD c=true)(k:Nat):bD (MV c k)=true:=by grind [HP,bD,MV]
def spilt(h:ac)(t k:Nat):ac:={h with S:=h.S.set t (MV (nth h.S t) k)}
theorem bc.spilt{h:ac}{E:List Int}{t k:Nat}(d:bc h E)(i:t<h.S.length)(n:k<(nth h.S t).Z.length):bc (spilt h t k) (nth (nth h.S t).Z k++E):=by
 have p:(E++holders h).Perm (nth (nth h.S t).Z k++E++holders (Ab.spilt h t k)):=by
  refine List.perm_iff_count.2 λb=>?_
  have r:=jI (λc:aF=>c.Z.flatten) b h.S t (MV (nth h.S t) k) i;have q:=jI (λx:List Int=>x) b (nth h.S t).Z k [] n;rw[<-mG,<-mG]at q;simp only[List.count_nil]at q;simp only[MV]at r;simp only[holders,cQ,Ab.spilt,MV,O8];omega
 have g:∀c∈(Ab.spilt h t k).S,c∈h.S\/c=MV (nth h.S t) k:=λc u=>Z8 u
 exact {d with
   nc:=by show(h.S.set ..).length=_;rw[I2];exact d.nc
   cach:=λc f=>by grind [bc.cach,V3,au]
   onu:=by show ∀o∈h.O,1<=o.Id/\o.Id<=h.b - 1/\0<=o.a5/\o.a5<=(h.S.set t _).length - 1;rw[I2];exact d.onu
   hca:=λc f j l b a=>by
     rcases g c f with f|rfl
     · exact d.hca c f j l b a
     simp only[MV,I2]at l;simp only[MV,bB]at a;by_cases e:k=j
     · grind
     rw[CC λx=>e x.1]at a;exact d.hca _ (au i) _ l b a
   hin:=λb a=>by
     rcases t4.1 a with a|a
     · exact(d.hca _ (au i) k n b a).any
     exact d.hin b a
   nd:=p.nodup_iff.1 d.nd
   mem:=λb=>by rw[<-p.mem_iff];exact d.mem b}
def freeAs(h:ac)(az:List Int):ac:=az.foldl freeA h
theorem fy:∀(az:List Int)(h:ac),(freeAs h az).S=h.S/\(freeAs h az).O=h.O/\(freeAs h az).F.Calls=h.F.Calls/\(freeAs h az).w=h.w/\(freeAs h az).Y=h.Y/\(freeAs h az).b2=h.b2/\(freeAs h az).a7=h.a7/\(freeAs h az).F.u=h.F.u
 | [],h=>⟨rfl,rfl,rfl,rfl,rfl,rfl,rfl,rfl⟩
 | a::az,h=>by
  obtain⟨b,c,d,e,f,g,i,j⟩:=fy az (freeA h a);obtain⟨k,l,n,o,p,q,r,t⟩:=AY h (sX h a) a;exact⟨b.trans k,c.trans l,d.trans n,e.trans o,f.trans p,g.trans q,i.trans r,j.trans t⟩
theorem bc.freeAs{E:List Int} : ∀{az:List Int}{h:ac},bc h (az++E)->bc (freeAs h az) E
 | [],_,b=>b
 | a::az,h,b=>bc.freeAs (az:=az) (h:=Ab.freeA h a) b.freeA
theorem qC(h:ac)(az:List Int)(k:Nat)(a:k<az.length):freeAs h (az.take (k+1))=freeA (freeAs h (az.take k)) (nth az k):=by grind [X7,ar,freeAs]
def flushN(t:Nat)(h:ac):Nat->ac × Nat
 | 0=>(h,0)
 | k+1=>(freeAs (spilt (flushN t h k).1 t k) (nth (nth (flushN t h k).1.S t).Z k),(flushN t h k).2+(nth (nth (flushN t h k).1.S t).Z k).length)
theorem ge{t:Nat}{h:ac}(b:bc h [])(c:t<h.S.length):∀{k:Nat},k<=4->bc (flushN t h k).1 []/\(flushN t h k).1.S.length=h.S.length/\(flushN t h k).1.F.Calls=h.F.Calls/\(flushN t h k).1.O=h.O/\(flushN t h k).1.w=h.w/\(flushN t h k).1.Y=h.Y/\(flushN t h k).2<=8*k
 | 0,_=>⟨b,rfl,rfl,rfl,rfl,rfl,Z0 _⟩
 | k+1,e=>by
  obtain⟨d,f,g,i,j,l,n⟩:=ge b c (k:=k) ω;have a:t<(flushN t h k).1.S.length:=ω
  obtain⟨o,p⟩:=eJ (d.cach _ (au a))
  grind [bc.spilt,au,fy,bc.freeAs,spilt,flushN]
variable{t:Nat}
theorem Ar{k:Nat}(a:bc h [])(b:t<h.S.length)(c:k<4):t<(flushN t h k).1.S.length/\bD (nth (flushN t h k).1.S t)=true/\k<(nth (flushN t h k).1.S t).Z.length/\(nth (nth (flushN t h k).1.S t).Z k).length<=8/\(flushN t h k).2<=8*k:=by grind [ge,bc.cach,au,eJ]
variable{j:Nat}
theorem H3{k:Nat}(a:bc h [])(b:t<h.S.length)(c:k<4)(f:j<(nth (nth (flushN t h k).1.S t).Z k).length):bc (freeAs (spilt (flushN t h k).1 t k) ((nth (nth (flushN t h k).1.S t).Z k).take j)) (nth (nth (nth (flushN t h k).1.S t).Z k) j::(nth (nth (flushN t h k).1.S t).Z k).drop (j+1)):=by
 obtain⟨d,e⟩:=Ar a b c;have g:=((ge a b (k:=k) ω).1).spilt d e.2.1
 grind [bc.freeAs,iT,List.take_append_drop]
theorem By(h:ac)(t:Nat)(i:bc h [])(l:t<h.S.length):zzB 424 false [.ptr (bL h),.val none [I (t:Nat)]] [.ptr (bL (flushN t h 4).1),.val none [I (t:Nat)]] .one [I ((flushN t h 4).2:Nat)]:=by
 refine fM 48 [(426,[2,0])] [(6,6,[26,27,28,29,30,31])] [(0,0),(0,0)] Tryz.func424 rfl (λu q=>?_)
 refine ZP ?_
 refine CK (ι:=Nat) (λk=>[(0,.H .box (bL (flushN t h k).1)),(1,.H .one [I ((t:Nat):Int)]),(5,.H .one [I (((flushN t h k).2:Nat):Int)]),(6,.H .one [I ((k:Nat):Int)])]) (λk=>k<=4) (λk=>4 - k) (0) ?_ (Z0 _) λk D=>?_
 ·repeat'(first|exact trivial|rfl |exact nL a|exact dG _|refine CN ?_ ?_|(exact Be (by first|omega|(simp only;omega)|(simp;omega))))
 by_cases n:k<4
 ·obtain⟨o,p,E,F,G⟩:=Ar i l n
  have r:=x9 (nth (flushN t h k).1.S t) k p ω;have c:=λj=>H3 i l n (j:=j)
  have e:=ar o;have w:(flushN t h (k+1)).1=freeAs (spilt (flushN t h k).1 t k) (nth (nth (flushN t h k).1.S t).Z k):=rfl;have y:(flushN t h (k+1)).2=(flushN t h k).2+(nth (nth (flushN t h k).1.S t).Z k).length:=rfl;have a:C.s dX.own ((spilt (flushN t h k).1 t k).S.map (aF.enc .own))=C.s dX.own (((flushN t h k).1.S.map (aF.enc .own)).set t (aF.enc .own (MV (nth (flushN t h k).1.S t) k))):=by grind [S8,spilt]
  repeat'(first|refine gE ?_|refine CH (r) ⟨⟨rfl,Cg _⟩,⟨rfl,rfl⟩,⟨rfl,rfl⟩,trivial⟩ ?_|refine CR rfl rfl (aa e) rfl (Z1 rfl) rfl ?_)
  generalize (flushN t h k).1=d at *;generalize (flushN t h k).2=m at *
  (conv=>whnf)
  refine CK (ι:=Nat) (λj=>[(0,.H .box (bL (freeAs (spilt d t k) ((nth (nth d.S t).Z k).take j)))),(1,.H .one [I ((t:Nat):Int)]),(5,.H .one [I (((m+j):Nat):Int)]),(6,.H .one [I ((k:Nat):Int)]),(8,.H .one (aH .own (nth (nth d.S t).Z k))),(9,.H .one [I ((j:Nat):Int)])]) (λj=>j<=(nth (nth d.S t).Z k).length) (λj=>(nth (nth d.S t).Z k).length - j) (0) ?_ (Z0 _) λj H=>?_
  ·repeat'(first|exact trivial|rfl |exact nL a|exact dG _|refine CN ?_ ?_|(exact Be (by first|omega|(simp only;omega)|(simp;omega))))
  by_cases g:j<(nth (nth d.S t).Z k).length
  ·have b:=ar g
   have B:=pF _ _ _ (c j g)
   refine ZE ?_
   (refine CG (j+1) ω ω ?_)
   rw[qC _ _ _ g];exact wC
  obtain rfl:j=(nth (nth d.S t).Z k).length:=ω
  rw[C7]
  refine ZE ?_
  (refine CG (k+1) ω ω ?_)
  rw[w,y];exact wC
 obtain rfl:k=4:=ω
 refine ZE ?_
 refine CL rfl rfl ?_;exact wC
def Fi(h:ac)(t:Int)(a:ac.sml h):zzA 245 false [.val (some 24) (ac.enc .U h),.val none [I t]] .one [B (decide (0<=t/\t<=h.S.length - 1)&&decide (h.F.Calls≠100000)&&dh h)]:=by
 have b:=f8 h a;rw[gW]at b;have d:h.S.length<=1048576:=a.2.2.2.2.2.1.1;have c:=aN t 0 (h.S.length - 1:Int);cases e:decide (0<=t/\t<=(h.S.length:Int) - 1)<;>rw[e]at c
 all_goals
  cases g:decide (h.F.Calls≠100000)
  all_goals
   simp only[C0,C6]at g;refine fO 21 [] Tryz.func245 rfl ?_
   repeat'(first|refine gP ?_|with_reducible refine Bf.N (λi=>?_) (λi=>?_))
   all_goals first|rfl|(exfalso;omega)
theorem Aa(h:ac)(t:Nat)(p:ac.sml h)(q:dh h=true)(r:h.F.Calls≠100000)(c:t<h.S.length):zzA 91 false [.val (some 24) (ac.enc .U h),.val none [I (t:Nat)]] (.tup [some 24,none]) (gm (flushN t h 4).1++[I ((flushN t h 4).2:Nat)]):=by
 have e:=bc.of q;have u:=Fi h t p;rw[q,O0 ω,O0 r]at u;have y:=mi h p;refine fP 52 [(247,[2,0])] [] Tryz.func91 rfl ?_ (.inr (aJ (mU _) ⟨trivial,trivial⟩))
 refine ZP ?_
 refine CK (ι:=Nat) (λk=>[(1,.H .one [I ((t:Nat):Int)]),(4,.H .box ux),(6,.H .box (gm (flushN t h k).1)),(7,.H .one [I (((flushN t h k).2:Nat):Int)]),(8,.H .one [I ((k:Nat):Int)])]) (λk=>k<=4) (λk=>4 - k) (0) ?_ (Z0 _) λk J=>?_
 ·repeat'(first|exact trivial|rfl |exact nL a|exact dG _|refine CN ?_ ?_|(exact Be (by first|omega|(simp only;omega)|(simp;omega))))
 by_cases w:k<4
 ·obtain⟨B,D,K,L,M⟩:=Ar e c w
  have E:=xE (nth (flushN t h k).1.S t) k D ω;have g:=λj=>H3 e c w (j:=j)
  have i:=λj=>(fy ((nth (nth (flushN t h k).1.S t).Z k).take j) (spilt (flushN t h k).1 t k)).2.2.1
  have l:(spilt (flushN t h k).1 t k).F.Calls≠100000:=by have:=(ge e c (k:=k) ω).2.2.1;show(flushN t h k).1.F.Calls≠100000;rw[this];exact r
  have n:=ar B;have F:(flushN t h (k+1)).1=freeAs (spilt (flushN t h k).1 t k) (nth (nth (flushN t h k).1.S t).Z k):=rfl;have G:(flushN t h (k+1)).2=(flushN t h k).2+(nth (nth (flushN t h k).1.S t).Z k).length:=rfl;have a:C.s dX.own ((spilt (flushN t h k).1 t k).S.map (aF.enc .own))=C.s dX.own (((flushN t h k).1.S.map (aF.enc .own)).set t (aF.enc .own (MV (nth (flushN t h k).1.S t) k))):=by grind [S8,spilt]
  repeat'(first|refine gE ?_|refine CH (E) ⟨⟨rfl,Cg _⟩,⟨rfl,rfl⟩,⟨rfl,rfl⟩,trivial⟩ ?_|refine CR rfl rfl (aa n) rfl (Z1 rfl) rfl ?_)
  generalize (flushN t h k).1=d at *;generalize (flushN t h k).2=m at *
  (conv=>whnf)
  refine CK (ι:=Nat) (λj=>[(1,.H .one [I ((t:Nat):Int)]),(4,.H .box ux),(6,.H .box (gm (freeAs (spilt d t k) ((nth (nth d.S t).Z k).take j)))),(7,.H .one [I (((m+j):Nat):Int)]),(8,.H .one [I ((k:Nat):Int)]),(10,.H .one (aH .own (nth (nth d.S t).Z k))),(39,.c0 10 0 [] none),(40,.H .one [I ((nth (nth d.S t).Z k).length)]),(41,.H .one [I ((j:Nat):Int)])]) (λj=>j<=(nth (nth d.S t).Z k).length) (λj=>(nth (nth d.S t).Z k).length - j) (0) ?_ (Z0 _) λj N=>?_
  ·repeat'(first|exact trivial|rfl |exact nL a|exact dG _|refine CN ?_ ?_|(exact Be (by first|omega|(simp only;omega)|(simp;omega))))
  by_cases o:j<(nth (nth d.S t).Z k).length
  ·have b:=ar o
   have H:=x7 _ _ _ (g j o) (by rw[i];exact l)
   refine ZE ?_
   (refine CG (j+1) ω ω ?_)
   rw[qC _ _ _ o];exact wC
  obtain rfl:j=(nth (nth d.S t).Z k).length:=ω
  rw[C7]
  refine ZE ?_
  (refine CG (k+1) ω ω ?_)
  rw[F,G];exact wC
 obtain rfl:k=4:=ω
 refine ZE ?_
 rfl
def Bh(s:Int):Int:=(1103515245*s+12345) % 1073741824
def Fh(s:Int):0<=Bh s/\Bh s<=1073741823:=by unfold Bh;omega
def Bx(s:Int)(b:0<=s/\s<=1073741823):zzA 548 false [.val none [I s]] .one [I (Bh s)]:=by
 have a:=aK s 0 1073741823;rw[O0 b]at a;refine fO 10 [] Tryz.func548 rfl ?_
 repeat'(first|refine gP ?_|refine CU (z:=Bh s) (eK ω) ?_|refine CQ (by decide) ?_)
 rfl
def vd(s:Int)(b:0<=s/\s<=1073741823):zzA 83 false [.val none [I s]] .one [B true]:=by
 have a:=aN s 0 1073741823;rw[O0 b]at a;refine fO 5 [] Tryz.func83 rfl ?_
 refine ZP ?_
 rfl
def B1(s:Int)(a:0<=s/\s<=1073741823):zzA 456 false [.val none [I s]] .one [I (Bh s)]:=by
 refine fO 10 [] Tryz.func456 rfl ?_
 repeat'(first|refine gP ?_|refine CU (z:=Bh s) (eK ω) ?_|refine CB (vd s a) ?_|refine CQ (by decide) ?_)
 rfl
def G3(s n:Int):Int:=Bh s / 1024 % n
def qq(s:Int){n:Int}(h:1<=n):0<=G3 s n/\G3 s n<n:=⟨Int.emod_nonneg _ ω,Int.emod_lt_of_pos _ ω⟩
theorem xc(s n:Int)(b:0<=s/\s<=1073741823)(c:1<=n/\n<=1000):zzA 480 false [.val none [I s],.val none [I n]] (.tup [none,none]) [I (G3 s n),I (Bh s)]:=by
 have d:=aK s 0 1073741823;have e:=aK n 1 1000;rw[O0 b]at d;rw[O0 c]at e;have h:=Fh s;have i:=qq s c.1;have a:(Bh s).tdiv 1024=Bh s / 1024:=ψ
 have g:((Bh s).tdiv 1024).tmod n=G3 s n:=by rw[a];exact eK ω
 refine fO 23 [] Tryz.func480 rfl ?_ (.inr ⟨trivial,trivial,trivial⟩)
 repeat'(first|refine gP ?_|refine CB (Bx s b) ?_|refine CQ (by decide) ?_|refine CQ ω ?_|refine CU g ?_|refine CP (fJ (by rw[a];omega) (by rw[a];omega)) ?_)
 rfl
theorem xh(s n:Int)(b:0<=s/\s<=1073741823)(c:1<=n/\n<=1000):zzA 337 false [.val none [I s],.val none [I n]] (.tup [none,none]) [I (G3 s n),I (Bh s)]:=by
 have d:=aN n 1 1000;rw[O0 c]at d;have g:=Fh s;have h:=qq s c.1;have a:(Bh s).tdiv 1024=Bh s / 1024:=ψ
 have e:((Bh s).tdiv 1024).tmod n=G3 s n:=by rw[a];exact eK ω
 refine fO 23 [] Tryz.func337 rfl ?_ (.inr ⟨trivial,trivial,trivial⟩)
 repeat'(first|refine gP ?_|refine CB (vd s b) ?_|refine CB (B1 s b) ?_|refine CQ (by decide) ?_|refine CQ ω ?_|refine CU e ?_|refine CP (fJ (by rw[a];omega) (by rw[a];omega)) ?_)
 rfl
def qO(n:Nat):List Int:=(List.range n).map λ(i:Nat)=>(i:Int)
theorem AD(n:Nat):qO (n+1)=qO n++[(n:Int)]:=by grind [List.range_succ,qO]
def vN(n:Nat):(qO n).length=n:=by simp[qO]
def wK(xs:List Int)(i k:Nat):List Int:=(xs.set i (nth xs k)).set k (nth xs i)
def P3(xs:List Int)(i k:Nat):(wK xs i k).length=xs.length:=by simp[wK]
def fK(n:Nat)(s:Int):Nat->List Int × Int
 | 0=>(qO n,s)
 | j+1=>(wK (fK n s j).1 (n - 1 - j) (G3 (fK n s j).2 ((n - 1 - j:Nat)+1:Int)).toNat,Bh (fK n s j).2)
def kQ(n:Nat){s:Int}(a:0<=s/\s<=1073741823):∀j,(fK n s j).1.length=n/\0<=(fK n s j).2/\(fK n s j).2<=1073741823
 | 0=>⟨vN n,a⟩
 | j+1=>⟨by simp only[fK,P3];exact(kQ n a j).1,Fh _⟩
def shuf(n:Nat)(s:Int):List Int × Int:=fK n s (n - 1)
theorem HQ(xs:List Int)(i k:Nat):(wK xs i k).map (rI .own)=((xs.map (rI .own)).set i (rI .own (nth xs k))).set k (rI .own (nth xs i)):=by grind [S8,wK]
theorem E2{xs:List Int}{k:Nat}(v:Int)(a:k<xs.length):((xs.map (rI .own)).set i (rI .own v))[k]? = some (rI .own (nth (xs.set i v) k)):=by
 rw[<-S8];grind [ar]
def BK(n:Nat)(s:Int)(d:0<=s/\s<=1073741823)(w:n<=64):zzA 526 false [.val none [I s],.val none [I (n:Nat)]] (.tup [none,none]) (aH .own (shuf n s).1++[I (shuf n s).2]):=by
 have e:=aK s 0 1073741823;have g:=aK (n:Nat) 0 64;rw[O0 d]at e;rw[O0 ω]at g;refine fO 63 [] Tryz.func526 rfl ?_ (.inr (aJ (bO _) ⟨trivial,trivial⟩))
 refine ZP ?_
 refine CK (ι:=Nat) (λk=>[(0,.H .one [I (s)]),(1,.H .one [I ((n:Nat):Int)]),(6,.H .one (aH .own (qO k))),(7,.H .one [I ((k:Nat):Int)])]) (λk=>k<=n) (λk=>n - k) (0) ?_ (Z0 _) λk y=>?_
 ·exact wB
 have h:=vN k;by_cases B:k<n
 ·repeat'(first|refine gE ?_|refine Ap.sm (aO λ_=>rfl) rfl (by simp;omega) (by decide) (gS (rI .own) (qO k) (k:Int)) ?_)
  (refine CG (k+1) ω ω ?_)
  rw[AD];exact wB
 obtain rfl:k=n:=ω
 refine ZE ?_
 refine CK (ι:=Nat) (λj=>[(0,.H .one [I ((fK k s j).2)]),(6,.H .one (aH .own (fK k s j).1)),(8,.H .one [I (((k:Int) - 1 - j))])]) (λj=>(j<=k - 1/\j<=k)) (λj=>k - j) (0) ?_ ω λj C=>?_
 ·exact wB
 obtain⟨D,l,o⟩:=kQ k d j;by_cases E:j<k - 1
 ·have q:(k:Int) - 1 - j=((k - 1 - j:Nat):Int):=ω
  have r:=qq (fK k s j).2 (n:=((k - 1 - j:Nat)+1:Int)) ω;have t:=xc (fK k s j).2 ((k - 1 - j:Nat)+1:Int) ⟨l,o⟩ ω;have u:fK k s (j+1)=(wK (fK k s j).1 (k - 1 - j) (G3 (fK k s j).2 ((k - 1 - j:Nat)+1:Int)).toNat,Bh (fK k s j).2):=rfl;rw[q];generalize fK k s j=p at *;obtain⟨xs,z⟩:=p;simp only at *;generalize k - 1 - j=i at *;have a:=ar (xs:=xs) (i:=i) ω;have b:=ar (xs:=xs) (i:=(G3 z (i+1)).toNat) ω;have c:=E2 (xs:=xs) (i:=i) (k:=(G3 z (i+1)).toNat) (nth xs (G3 z (i+1)).toNat) ω
  repeat'(first|refine gE ?_|refine CO ω (aa b) ?_|refine CR rfl rfl (aa a) rfl (Z1 rfl) rfl ?_|refine CO ω c ?_|refine CR rfl rfl c rfl (Z1 rfl) rfl ?_)
  (refine CG (j+1) ω ω ?_)
  rw[u];simp only[aH,HQ];exact wB
 obtain rfl:j=k - 1:=ω
 refine ZE ?_
 rfl
def Br(n:Nat)(s:Int)(d:0<=s/\s<=1073741823)(w:n<=64):zzA 495 false [.val none [I s],.val none [I (n:Nat)]] (.tup [none,none]) (aH .own (shuf n s).1++[I (shuf n s).2]):=by
 have g:=vd s d;have e:=aN (n:Nat) 0 64;rw[O0 ω]at e;refine fO 60 [(12,270,[43,44,45,46,47,48,49,50,51,52,53,54,55,56,0,1,2,3,4,5,6,7,8,9,10,11,12,13,1002,1003,14,15])] Tryz.func495 rfl ?_ (.inr (aJ (bO _) ⟨trivial,trivial⟩))
 refine ZP ?_
 refine CK (ι:=Nat) (λk=>[(0,.H .one [I (s)]),(1,.H .one [I ((n:Nat):Int)]),(6,.H .one (aH .own (qO k))),(7,.H .one [I ((k:Nat):Int)])]) (λk=>k<=n) (λk=>n - k) (0) ?_ (Z0 _) λk y=>?_
 ·exact wB
 have h:=vN k;by_cases B:k<n
 ·repeat'(first|refine gE ?_|refine Ap.sm (aO λ_=>rfl) rfl (by simp;omega) (by decide) (gS (rI .own) (qO k) (k:Int)) ?_)
  (refine CG (k+1) ω ω ?_)
  rw[AD];exact wB
 obtain rfl:k=n:=ω
 refine ZE ?_
 refine CK (ι:=Nat) (λj=>[(0,.H .one [I ((fK k s j).2)]),(6,.H .one (aH .own (fK k s j).1)),(8,.H .one [I (((k:Int) - 1 - j))])]) (λj=>(j<=k - 1/\j<=k)) (λj=>k - j) (0) ?_ ω λj C=>?_
 ·exact wB
 obtain⟨D,l,o⟩:=kQ k d j;by_cases E:j<k - 1
 ·have q:(k:Int) - 1 - j=((k - 1 - j:Nat):Int):=ω
  have r:=qq (fK k s j).2 (n:=((k - 1 - j:Nat)+1:Int)) ω;have t:=xh (fK k s j).2 ((k - 1 - j:Nat)+1:Int) ⟨l,o⟩ ω;have u:fK k s (j+1)=(wK (fK k s j).1 (k - 1 - j) (G3 (fK k s j).2 ((k - 1 - j:Nat)+1:Int)).toNat,Bh (fK k s j).2):=rfl;rw[q];generalize fK k s j=p at *;obtain⟨xs,z⟩:=p;simp only at *;generalize k - 1 - j=i at *;have a:=ar (xs:=xs) (i:=i) ω;have b:=ar (xs:=xs) (i:=(G3 z (i+1)).toNat) ω;have c:=E2 (xs:=xs) (i:=i) (k:=(G3 z (i+1)).toNat) (nth xs (G3 z (i+1)).toNat) ω
  repeat'(first|refine gE ?_|refine CO ω (aa b) ?_|refine CR rfl rfl (aa a) rfl (Z1 rfl) rfl ?_|refine CO ω c ?_|refine CR rfl rfl c rfl (Z1 rfl) rfl ?_)
  (refine CG (j+1) ω ω ?_)
  rw[u];simp only[aH,HQ];exact wB
 obtain rfl:j=k - 1:=ω
 refine ZE ?_
 rfl
def uM(b:Int):Nat->Nat
 | 0=>0
 | n+1=>uM b n+(if bf b (n:Nat)=true then 1 else 0)
theorem uq(b:Int):∀n,uM b n<=n
 | 0=>v4 _
 | n+1=>by have:=uq b n;grind [uM]
def xA(b:Int)(d:b<=9223372036854775807):zzA 525 false [.val none [I b]] .one [I (uM b 16:Nat)]:=by
 refine fO 15 [] Tryz.func525 rfl ?_
 refine ZP ?_
 refine CK (ι:=Nat) (λk=>[(0,.H .one [I (b)]),(3,.H .one [I ((uM b k:Nat):Int)]),(4,.H .one [I ((k:Nat):Int)])]) (λk=>k<=16) (λk=>16 - k) (0) ?_ (Z0 _) λk g=>?_
 ·exact wB
 have h:=uq b k;by_cases i:k<16
 ·have a:=jN b (k:Nat) d
  have c:uM b (k+1)=uM b k+(if bf b (k:Nat)=true then 1 else 0):=rfl;cases e:bf b (k:Nat)<;>rw[e]at a c
  all_goals
   refine ZE ?_
   (refine CG (k+1) ω ω ?_)
   rw[c];exact wB
 obtain rfl:k=16:=ω
 refine ZE ?_
 rfl
def xL(b:Int)(d:b<=9223372036854775807):zzA 494 false [.val none [I b]] .one [I (uM b 16:Nat)]:=by
 refine fO 15 [] Tryz.func494 rfl ?_
 refine ZP ?_
 refine CK (ι:=Nat) (λk=>[(0,.H .one [I (b)]),(3,.H .one [I ((uM b k:Nat):Int)]),(4,.H .one [I ((k:Nat):Int)])]) (λk=>k<=16) (λk=>16 - k) (0) ?_ (Z0 _) λk g=>?_
 ·exact wB
 have h:=uq b k;by_cases i:k<16
 ·have a:=iJ b (k:Nat) d
  have c:uM b (k+1)=uM b k+(if bf b (k:Nat)=true then 1 else 0):=rfl;cases e:bf b (k:Nat)<;>rw[e]at a c
  all_goals
   refine ZE ?_
   (refine CG (k+1) ω ω ?_)
   rw[c];exact wB
 obtain rfl:k=16:=ω
 refine ZE ?_
 rfl
def sr(h:ac)(s:aA):Bool:=decide (0<uM s.a9 16)&&decide ((aX h s.R).length=1)
def jP(h:ac):Nat->List aA
 | 0=>[]
 | n+1=>if sr h (nth h.J n)=true then jP h n++[nth h.J n] else jP h n
def iM(h:ac):List aA:=jP h h.J.length
theorem qH(h:ac):∀n,(jP h n).length<=n
 | 0=>v4 _
 | n+1=>by have:=qH h n;grind [jP]
theorem ot(h:ac):∀{n:Nat},n<=h.J.length->∀s∈jP h n,s∈h.J
 | 0,_,s,a=>by cases a
 | n+1,b,s,a=>by
  simp only[jP]at a;split at a
  ·rcases t4.1 a with a|a
   ·exact ot h ω s a
   grind [au]
  exact ot h ω s a
theorem zn(h:ac)(g:xG h)(o:h.J.length<=1000)(p:fo h<=1000)(i:∀s∈h.J,s.a9<=9223372036854775807):zzA 427 false [.val (some 24) (ac.enc .U h)] .one (ce .own (iM h)):=by
 refine fO 42 [(5,16,[13,14,15,16,17,18,19,20,21,22,23,24,25,26,27,28])] Tryz.func427 rfl ?_ (.inr (yV _))
 refine ZP ?_
 refine CK (ι:=Nat) (λk=>[(1,.H .box (ac.enc .U h)),(3,.H .one (ce .own (jP h k))),(4,.H .one [I ((k:Nat):Int)])]) (λk=>k<=h.J.length) (λk=>h.J.length - k) (0) ?_ (Z0 _) λk q=>?_
 ·exact wB
 have j:=qH h k;by_cases e:k<h.J.length
 ·have c:=ar e
  have d:=xA (nth h.J k).a9 (i _ (au e));have b:=je h (nth h.J k).R g;have l:=gh h (nth h.J k).R;have n:=uq (nth h.J k).a9 16;have a:jP h (k+1)=if sr h (nth h.J k)=true then jP h k++[nth h.J k] else jP h k:=rfl
  by_cases r:0<uM (nth h.J k).a9 16
  ·by_cases t:(aX h (nth h.J k).R).length=1
   ·rw[CE (by grind [sr])]at a
    repeat'(first|refine gB ?_|refine CH (b) ⟨⟨rfl,rfl⟩,⟨rfl,rfl⟩,trivial⟩ ?_|refine Ap.sm (aO λ_=>rfl) rfl (by simp;omega) (by decide) (gS (aA.enc .own) (jP h k) (nth h.J k)) ?_)
    (refine CG (k+1) ω ω ?_)
    rw[a];exact wB
   rw[CC (by grind [sr])]at a
   refine ZB ?_
   (refine CG (k+1) ω ω ?_)
   rw[a];exact wB
  rw[CC (by grind [sr])]at a
  refine ZE ?_
  (refine CG (k+1) ω ω ?_)
  rw[a];exact wB
 obtain rfl:k=h.J.length:=ω
 refine ZE ?_
 rfl
theorem Au(h:ac)(g:xG h)(o:h.J.length<=1000)(p:fo h<=1000)(i:∀s∈h.J,s.a9<=9223372036854775807):zzA 388 false [.val (some 24) (ac.enc .U h)] .one (ce .own (iM h)):=by
 refine fO 32 [] Tryz.func388 rfl ?_ (.inr (yV _))
 refine ZP ?_
 refine CK (ι:=Nat) (λk=>[(1,.H .box (ac.enc .U h)),(3,.H .one (ce .own (jP h k))),(8,.H .one (ce .U h.J)),(9,.H .one [I (h.J.length)]),(10,.H .one [I ((k:Nat):Int)])]) (λk=>k<=h.J.length) (λk=>h.J.length - k) (0) ?_ (Z0 _) λk q=>?_
 ·exact wB
 have j:=qH h k;by_cases e:k<h.J.length
 ·have b:=ar e
  have c:=xL (nth h.J k).a9 (i _ (au e));have d:=l7 h (nth h.J k).R g;have l:=gh h (nth h.J k).R;have n:=uq (nth h.J k).a9 16;have a:jP h (k+1)=if sr h (nth h.J k)=true then jP h k++[nth h.J k] else jP h k:=rfl
  by_cases r:0<uM (nth h.J k).a9 16
  ·by_cases t:(aX h (nth h.J k).R).length=1
   ·rw[CE (by grind [sr])]at a
    repeat'(first|refine gB ?_|refine Ap.sm (aO λ_=>rfl) rfl (by simp;omega) (by decide) (gS (aA.enc .own) (jP h k) (nth h.J k)) ?_)
    (refine CG (k+1) ω ω ?_)
    rw[a];exact wB
   rw[CC (by grind [sr])]at a
   refine ZB ?_
   (refine CG (k+1) ω ω ?_)
   rw[a];exact wB
  rw[CC (by grind [sr])]at a
  refine ZE ?_
  (refine CG (k+1) ω ω ?_)
  rw[a];exact wB
 obtain rfl:k=h.J.length:=ω
 refine ZE ?_
 rfl
def t7(s:aA)(c:Nat):Bool:=bf s.a9 (((c:Nat):Int) / csz s.d)
def uG(s:aA)(n:Nat):List Int:=((List.range n).filter (t7 s)).map λ(i:Nat)=>(i:Int)
variable{s:aA}
def Mf(h:t7 s n=true):uG s (n+1)=uG s n++[(n:Int)]:=by
 unfold uG;rw[List.range_succ,List.filter_append,Z7];simp[h]
def Ru(h:t7 s n=false):uG s (n+1)=uG s n:=by
 unfold uG;rw[List.range_succ,List.filter_append,Z7];simp[h]
def mQ(s:aA)(n:Nat):(uG s n).length<=n:=by
 unfold uG;rw[O1];exact O6 (List.length_filter_le _ _) (by simp)
def Ms(a:bh s=true){c:Nat}(d:c<16):0<=((c:Nat):Int) / csz s.d/\((c:Nat):Int) / csz s.d<=15:=by
 have f:=aI a;have b:csz s.d=1\/csz s.d=2\/csz s.d=4\/csz s.d=8:=cg ω;rcases b with e|e|e|e<;>rw[e]<;>omega
def qW(s:aA)(a:bh s=true):zzA 527 false [.val (some 3) (aA.enc .U s)] .one (aH .own (uG s 16)):=by
 have b:=iz s;rw[a]at b;have g:=aI a;have n:=cg g.2.2;refine fO 27 [(5,7,[14,15,16,17,18,19,20])] Tryz.func527 rfl ?_ (.inr (bO _))
 refine ZP ?_
 refine CK (ι:=Nat) (λi=>[(1,.H .box (aA.enc .U s)),(3,.H .one (aH .own (uG s i))),(4,.H .one [I ((i:Nat):Int)])]) (λi=>i<=16) (λi=>16 - i) (0) ?_ (Z0 _) λi o=>?_
 ·exact wB
 have h:=mQ s i;by_cases j:i<16
 ·have k:=Ms a j
  have d:IntKind.i64.wrap (((i:Nat):Int).tdiv (csz s.d))=((i:Nat):Int) / csz s.d:=by rw[mj ω];exact fJ ω ω
  have c:=jN s.a9 (((i:Nat):Int) / csz s.d) (fX a).2;cases e:t7 s i
  ·rw[show bf s.a9 (((i:Nat):Int) / csz s.d)=false from e]at c
   repeat'(first|refine gE ?_|refine CB (eP _) ?_|refine CQ ω ?_|refine CP d ?_)
   (refine CG (i+1) ω ω ?_)
   rw[Ru e];exact wB
  rw[show bf s.a9 (((i:Nat):Int) / csz s.d)=true from e]at c
  repeat'(first|refine gE ?_|refine CB (eP _) ?_|refine CQ ω ?_|refine CP d ?_|refine CV cC (λr l=>by rw[C2.1 l];rfl) (by simp[bn,eG]) (by simp;omega) (by simp only[O1];exact zd (by simp;omega) (by decide)) rfl ?_)
  (refine CG (i+1) ω ω ?_)
  rw[Mf e]
  (repeat'(first|exact trivial|rfl|exact CN rfl (CN (C1 (C.s dX.own) (by simp[rI])) trivial)|refine CN ?_ ?_))
 obtain rfl:i=16:=ω
 refine ZE ?_
 rfl
def qd(s:aA)(a:bh s=true):zzA 436 false [.val (some 3) (aA.enc .U s)] .one (aH .own (uG s 16)):=by
 have c:=iD s;rw[a]at c;have g:=aI a;have n:=cg g.2.2;refine fO 26 [(7,7,[13,14,15,16,17,18,19])] Tryz.func436 rfl ?_ (.inr (bO _))
 refine ZP ?_
 refine CK (ι:=Nat) (λi=>[(1,.H .box (aA.enc .U s)),(3,.H .one (aH .own (uG s i))),(4,.H .one [I ((i:Nat):Int)])]) (λi=>i<=16) (λi=>16 - i) (0) ?_ (Z0 _) λi o=>?_
 ·exact wB
 have h:=mQ s i;by_cases j:i<16
 ·have k:=Ms a j
  have d:IntKind.i64.wrap (((i:Nat):Int).tdiv (csz s.d))=((i:Nat):Int) / csz s.d:=by rw[mj ω];exact fJ ω ω
  have b:=iJ s.a9 (((i:Nat):Int) / csz s.d) (fX a).2;cases e:t7 s i
  ·rw[show bf s.a9 (((i:Nat):Int) / csz s.d)=false from e]at b
   repeat'(first|refine gE ?_|refine CB (eM _) ?_|refine CQ ω ?_|refine CP d ?_)
   (refine CG (i+1) ω ω ?_)
   rw[Ru e];exact wB
  rw[show bf s.a9 (((i:Nat):Int) / csz s.d)=true from e]at b
  repeat'(first|refine gE ?_|refine CB (eM _) ?_|refine CQ ω ?_|refine CP d ?_|refine CV cC (λr l=>by rw[C2.1 l];rfl) (by simp[bn,eG]) (by simp;omega) (by simp only[O1];exact zd (by simp;omega) (by decide)) rfl ?_)
  (refine CG (i+1) ω ω ?_)
  rw[Mf e]
  (repeat'(first|exact trivial|rfl|exact CN rfl (CN (C1 (C.s dX.own) (by simp[rI])) trivial)|refine CN ?_ ?_))
 obtain rfl:i=16:=ω
 refine ZE ?_
 rfl
structure eC where
 A:Int
 B:Int
deriving DecidableEq,Inhabited
def eC.enc(_:dX)(x:eC):List C:=[I x.A,I x.B]
def fH(o:dX)(x:List eC):List C:=[.s o (x.map (eC.enc o))]
def zf(x:List eC):i6 (fH .own x):=⟨⟨.inl λh=>(by cases h),bi _ _ λ_ _=>⟨trivial,trivial,trivial⟩⟩,trivial⟩
def Af(xs:List eC)(pr:eC->Bool)(g:xs.length<=9223372036854775807):zzA 586 false [.val none (fH .U xs),.fn (pX Tryz.prog (Bv (some 2) (eC.enc .U) pr xs))] .one [I (cV pr xs)]:=by
 refine fO 19 [] Tryz.func586 rfl ?_
 refine ZP ?_
 refine CK (ι:=Nat) (λi=>[(0,.H .one (fH .U xs)),(1,.fv (pX Tryz.prog (Bv (some 2) (eC.enc .U) pr xs))),(7,.H .one [I xs.length]),(8,.H .one [I (i:Nat)])]) (λi=>i<=xs.length/\∀(j:Nat)(z:eC),j<i->xs[j]? = some z->pr z=false) (λi=>xs.length - i) 0 ?_ ⟨Z0 _,λj z h=>ω⟩ λi d=>?_
 ·exact wB
 obtain⟨d,b⟩:=d;by_cases c:i<xs.length
 ·obtain⟨y,a⟩ : ∃y,xs[i]? = some y:=⟨_,C3 c⟩
  repeat'(first|refine gE ?_|refine Fv.mk (k:=.one) (rcs:=[B (pr y)]) ⟨y,Z2 a,rfl,rfl,rfl⟩ ?_|refine Bf.P (λe=>?_) (λe=>?_))
  ·exact C1 (λz=>[I z]) (dE a ‹_› b).symm
  (conv=>whnf)
  refine CG (i+1) ⟨ω,eA a (by assumption) b⟩ ω ?_;exact wB
 refine ZE ?_
 exact C1 (λz=>[I z]) (gv ω b).symm
def uY(xs:List eC)(pr:eC->Bool)(a:xs.length<=9223372036854775807):zzA 562 false [.val none (fH .U xs),.fn (pX Tryz.prog (Bv (some 2) (eC.enc .U) pr xs))] .one [B (xs.any pr)]:=by
 refine fO 9 [] Tryz.func562 rfl ?_
 repeat'(first|refine gP ?_|refine CB (Af xs pr a) ?_)
 exact C1 (λz=>[B z]) (lY pr xs)
def Fa(i:Int)(p:eC):Bool:=decide (p.A=i) || decide (p.B=i)
def G5(p:eC)(i:Int):zzA 563 false [.val (some 2) (eC.enc .U p),.ptr [I i]] .one [B (Fa i p)]:=by
 refine fO 14 [] Tryz.func563 rfl ?_
 repeat'(first|refine gP ?_|with_reducible refine Bf.E (λa=>?_) (λa=>?_))
 all_goals exact C1 (λz=>[B z]) ((by unfold Fa;first|(simp[*];done)|(simp[*];rw[I6];simp)))
def Ay(xs:List eC)(i:Int)(b:xs.length<=1048576):zzA 496 false [.val none (fH .U xs),.val none [I i]] .one [B (xs.any (Fa i))]:=by
 refine fO 8 [] Tryz.func496 rfl ?_
 repeat'(first|refine gP ?_|refine Cq.mk (Bv (some 2) (eC.enc .U) (Fa i) xs) (G5 default i).has (λL k rcs a=>?_) ?_|refine CB (uY xs (Fa i) ω) ?_)
 ·obtain⟨y,-,rfl,rfl,rfl⟩:=a
  exact G5 y i
 rfl
def dl(a b:aA):cn:=if(uG a 16).length<(uG b 16).length then⟨b.R,a.R,uG a 16⟩ else⟨a.R,b.R,uG b 16⟩
def Dd(a b:aA)(g:meshable a b=true)(h:bh a=true)(i:bh b=true):zzA 429 false [.val (some 3) (aA.enc .U a),.val (some 3) (aA.enc .U b)] (.tup [some 3,none]) (cn.enc .own (dl a b)++[B true]):=by
 have c:=nE a b;rw[g]at c;have d:=qW a h;have e:=qW b i;have j:=mQ a 16;have k:=mQ b 16;unfold dl;split
 ·refine fO 27 [(3,6,[11,12,13,14,15,16]),(5,6,[20,21,22,23,24,25])] Tryz.func429 rfl ?_ (.inr (aJ (cn.enc_fr _) ⟨trivial,trivial⟩))
  refine ZE ?_
  rfl
 refine fO 27 [(3,6,[11,12,13,14,15,16]),(5,6,[20,21,22,23,24,25])] Tryz.func429 rfl ?_ (.inr (aJ (cn.enc_fr _) ⟨trivial,trivial⟩))
 refine ZE ?_
 rfl
def BH(a b:aA)(g:meshable a b=true)(h:bh a=true)(i:bh b=true):zzA 390 false [.val (some 3) (aA.enc .U a),.val (some 3) (aA.enc .U b)] (.tup [some 3,none]) (cn.enc .own (dl a b)++[B true]):=by
 have c:=ny a b;rw[g]at c;have d:=qd a h;have e:=qd b i;have j:=mQ a 16;have k:=mQ b 16;unfold dl;split
 ·refine fO 34 [(3,3,[13,14,15])] Tryz.func390 rfl ?_ (.inr (aJ (cn.enc_fr _) ⟨trivial,trivial⟩))
  refine ZE ?_
  rfl
 refine fO 34 [(3,3,[13,14,15])] Tryz.func390 rfl ?_ (.inr (aJ (cn.enc_fr _) ⟨trivial,trivial⟩))
 refine ZE ?_
 rfl
def ur(p:cn):cz:=⟨p,0,0⟩
def H0(p:cn)(c:fk p=true)(a:cn.sml p):zzA 430 false [.val (some 3) (cn.enc .U p)] (.tup [some 5,none]) (cz.enc .own (ur p)++[B true]):=by
 have b:=xf p a;rw[c]at b;have d:=vk (ur p) a;refine fO 11 [] Tryz.func430 rfl ?_ (.inr (aJ (cz.enc_fr _) ⟨trivial,trivial⟩))
 refine ZP ?_
 rfl
def GP(p:cn)(c:fk p=true)(a:cn.sml p):zzA 391 false [.val (some 3) (cn.enc .U p)] (.tup [some 5,none]) (cz.enc .own (ur p)++[B true]):=by
 have b:=wI p a;rw[c]at b;have d:=sA p a;refine fO 11 [] Tryz.func391 rfl ?_ (.inr (aJ (cz.enc_fr _) ⟨trivial,trivial⟩))
 refine ZP ?_
 rfl
def rm(n:Nat){s:Int}(c:0<=s/\s<=1073741823):∀{j:Nat},j<=n - 1->∀x∈(fK n s j).1,0<=x/\x<n
 | 0,_,x,a=>by
  simp only[fK,qO,O5,List.mem_range]at a;obtain⟨i,d,rfl⟩:=a;omega
 | j+1,e,x,a=>by
  have f:=(kQ n c j).1;have b:=rm n c (j:=j) ω;have g:=qq (fK n s j).2 (n:=((n - 1 - j:Nat)+1:Int)) ω;simp only[fK,wK]at a;rcases Z8 a with a|rfl
  ·rcases Z8 a with a|rfl
   ·exact b x a
   exact b _ (au ω)
  exact b _ (au ω)
def tkn(out:List eC)(a:Int):Bool:=out.any (Fa a)
def stp(a:List aA)(p:List Int)(t i:Nat)(out:List eC):List eC:=
 if tkn out (nth p i)=false/\tkn out (nth p (p.length / 2+(i+t) % (p.length - p.length / 2)))=false/\meshable (nth a (nth p i).toNat) (nth a (nth p (p.length / 2+(i+t) % (p.length - p.length / 2))).toNat)=true then out++[⟨nth p i,nth p (p.length / 2+(i+t) % (p.length - p.length / 2))⟩] else out
def rK(a:List aA)(p:List Int)(t:Nat)(out:List eC):Nat->List eC
 | 0=>out
 | i+1=>stp a p t i (rK a p t out i)
def mJ(a:List aA)(p:List Int):Nat->List eC
 | 0=>[]
 | t+1=>rK a p t (mJ a p t) (p.length / 2)
def TN(a:List aA)(p:List Int)(t i:Nat)(out:List eC):(stp a p t i out).length<=out.length+1:=by unfold stp;split<;>simp
def uN(a:List aA)(p:List Int)(t:Nat)(out:List eC):∀i,(rK a p t out i).length<=out.length+i
 | 0=>v4 _
 | i+1=>by have b:=uN a p t out i;have c:=TN a p t i (rK a p t out i);simp only[rK];omega
def zb(a:List aA)(p:List Int):∀t,(mJ a p t).length<=t*(p.length / 2)
 | 0=>Z0 _
 | t+1=>by have b:=zb a p t;have c:=uN a p t (mJ a p t) (p.length / 2);simp only[mJ];rw[Nat.add_mul];omega
def jF(a:List aA)(s:Int):List eC:=mJ a (shuf a.length s).1 3
def pH(n:Nat)(out:List eC):List Bool:=(List.range n).map λ(i:Nat)=>tkn out (i:Nat)
variable{out:List eC}
def LI(h:0<=a/\a<n):(pH n out)[a.toNat]? = some (tkn out a):=by
 unfold pH;rw[z4,z9 ω];show some (tkn out ((a.toNat:Nat):Int))=_;rw[Int.toNat_of_nonneg h.1]
variable{b:Int}
def Rs(f:0<=a/\a<n)(g:0<=b/\b<n):pH n (out++[⟨a,b⟩])=((pH n out).set a.toNat true).set b.toNat true:=by
 unfold pH;apply List.ext_getElem?;intro i;by_cases c:i<n
 ·rw[z4,z9 c]
  by_cases d:b.toNat=i
  ·subst d
   rw[X4 (by simp;omega)];simp only[I7,tkn,List.any_append,List.any_cons,List.any_nil,Fa];rw[Int.toNat_of_nonneg g.1];simp
  rw[List.getElem?_set_ne d];by_cases e:a.toNat=i
  ·subst e
   rw[X4 (by simp;omega)];simp only[I7,tkn,List.any_append,List.any_cons,List.any_nil,Fa];rw[Int.toNat_of_nonneg f.1];simp
  rw[List.getElem?_set_ne e,z4,z9 c];simp only[I7,tkn,List.any_append,List.any_cons,List.any_nil,Fa];rw[X0 ω,X0 ω];simp
 rw[O3 (by simp;omega),O3 (by simp;omega)]
def Ui(n:Nat):(pH n []).map (rB .own)=List.replicate n [B false]:=by
 unfold pH;rw[List.map_map];apply List.ext_getElem?;intro i;rw[z4];by_cases a:i<n
 ·rw[z9 a,List.getElem?_replicate];simp[a];rfl
 rw[O3 (by simp;omega),List.getElem?_replicate];simp[a]
def N0{xs:List Bool}{k:Nat}(v:Bool)(a:k<xs.length):((xs.map (rB .own)).set i (rB .own v))[k]? = some (rB .own (nth (xs.set i v) k)):=by
 rw[<-S8];exact aa (ar (by rw[I2];exact a))
def xN(c:List aA)(s:Int)(u:0<=s/\s<=1073741823)(V:c.length<=16):zzA 428 false [.val none (ce .U c),.val none [I s],.val none [I 3]] (.tup [none,none]) (fH .own (jF c s)++[I (shuf c.length s).2]):=by
 have J:=aK s 0 1073741823;rw[O0 u]at J;have K:=aK 3 0 16;rw[O0 ω]at K;have Q:=BK c.length s u ω;have D:=(kQ c.length u (c.length - 1)).1;have e:=rm c.length u (v4 _);unfold jF;change (shuf c.length s).1.length=_ at D;change ∀x∈(shuf c.length s).1,_ at e
 have E:i6 (fH .own (mJ c (shuf c.length s).1 3)++[I (shuf c.length s).2]):=aJ (zf _) ⟨trivial,trivial⟩;generalize shuf c.length s=q at *;obtain⟨p,z⟩:=q;simp only at *;have F:((p.length:Nat):Int).tdiv 2=((p.length / 2:Nat):Int):=by rw[Int.tdiv_eq_ediv_of_nonneg ω];omega
 have g:C.s dX.own ((pH c.length []).map (rB .own))=C.s dX.own (List.replicate c.length [B false]):=by rw[Ui]
 have h:∀i:Nat,i<p.length->0<=nth p i/\nth p i<c.length:=λi R=>e _ (au R)
 refine fO 110 [(15,21,[73,74,75,76,77,78,79,80,81,82,83,84,85,86,87,88,89,90,91,92,93])] Tryz.func428 rfl ?_ (.inr E)
 repeat'(first|refine gE ?_|with_reducible refine CP ((C1 _ F).trans (fJ ω ω)) ?_|refine CQ (by decide) ?_|refine Mk.mk c.length rfl rfl ω (zd ω (by decide)) rfl ?_)
 refine CK (ι:=Nat) (λt=>[(0,.H .one (ce .U c)),(2,.H .one [I (3)]),(8,.H .one (fH .own (mJ c p t))),(9,.H .one (aH .own p)),(10,.H .one [I (z)]),(11,.H .one [I (((p.length / 2):Nat):Int)]),(12,.H .one (vw .own (pH c.length (mJ c p t)))),(13,.H .one [I ((t:Nat):Int)])]) (λt=>t<=3) (λt=>3 - t) (0) ?_ (Z0 _) λt S=>?_
 ·repeat'(first|exact trivial|rfl |exact nL g|refine CN ?_ ?_|(exact Be (by first|omega|(simp only;omega)|(simp;omega))))
 have W:=zb c p t;have ol2:t*(p.length / 2)<=3*8:=Nat.mul_le_mul S ω;by_cases X:t<3
 ·refine ZE ?_
  refine CK (ι:=Nat) (λj=>[(0,.H .one (ce .U c)),(2,.H .one [I (3)]),(8,.H .one (fH .own (rK c p t (mJ c p t) j))),(9,.H .one (aH .own p)),(10,.H .one [I (z)]),(11,.H .one [I (((p.length / 2):Nat):Int)]),(12,.H .one (vw .own (pH c.length (rK c p t (mJ c p t) j)))),(13,.H .one [I ((t:Nat):Int)]),(14,.H .one [I ((j:Nat):Int)])]) (λj=>j<=p.length / 2) (λj=>p.length / 2 - j) (0) ?_ (Z0 _) λj Y=>?_
  ·repeat'(first|exact trivial|rfl |exact nL g|refine CN ?_ ?_|(exact Be (by first|omega|(simp only;omega)|(simp;omega))))
  have Z:=uN c p t (mJ c p t) j;by_cases lj:j<p.length / 2
  ·have L:(j+t) % (p.length - p.length / 2)<p.length - p.length / 2:=Nat.mod_lt _ ω
   have G:((j:Int)+t).tmod ((p.length:Int) - (p.length / 2:Nat))=(((j+t) % (p.length - p.length / 2):Nat):Int):=by
    rw[eK ω,Int.natCast_emod];congr 1;omega
   have d:rK c p t (mJ c p t) (j+1)=stp c p t j (rK c p t (mJ c p t) j):=rfl;unfold stp at d;generalize rK c p t (mJ c p t) j=out at *;have l:p.length / 2+(j+t) % (p.length - p.length / 2)<p.length:=ω
   generalize hk:(j+t) % (p.length - p.length / 2)=k at *;have n:=ar (xs:=p) (i:=j) ω;have o:=ar (xs:=p) (i:=p.length / 2+k) l;have w:=h j ω;have r:=h _ l;generalize nth p j=a at *;generalize nth p (p.length / 2+k)=b at *;have y:=LI (out:=out) w;have H:=LI (out:=out) r;have T:=ar (xs:=c) (i:=a.toNat) ω;have U:=ar (xs:=c) (i:=b.toNat) ω;have M:=nE (nth c a.toNat) (nth c b.toNat);have ub2:=N0 (xs:=pH c.length out) (i:=a.toNat) (k:=b.toNat) true (by simp[pH];omega);cases N:tkn out a<;>cases O:tkn out b<;>cases P:meshable (nth c a.toNat) (nth c b.toNat)
   all_goals
    rw[N]at y;rw[O]at H;rw[P]at M;rw[N,O,P]at d;simp only[and_true,true_and,if_true,Bool.false_eq_true,Bool.true_eq_false,and_false,false_and,if_false]at d
    repeat'(first|refine gE ?_|refine CU G ?_|refine CQ ω ?_|refine CO ω (aa o) ?_|refine CO w.1 (aa y) ?_|refine CO r.1 (aa H) ?_|refine CO w.1 (aa T) ?_|refine CO r.1 (aa U) ?_|refine CR rfl rfl (aa y) rfl (Z1 rfl) rfl ?_|refine CO r.1 ub2 ?_|refine CR rfl rfl ub2 rfl (Z1 rfl) rfl ?_|refine Ap.sm (aO λ_=>rfl) rfl (by simp;omega) (by decide) (gS (eC.enc .own) out ⟨a,b⟩) ?_)
    (refine CG (j+1) ω ω ?_)
    rw[d]
    first|(rw[Rs w r];simp only[vw,S8])|skip
    exact wB
  obtain rfl:j=p.length / 2:=ω
  refine ZE ?_
  (refine CG (t+1) ω ω ?_;(exact wB))
 obtain rfl:t=3:=ω
 refine ZE ?_
 rfl
def sW(x:List eC):dM (fH .own x)=fH .U x:=by simp[dM,fH,eC.enc,<-bW,C8]
def xI(c:List aA)(s:Int)(r:0<=s/\s<=1073741823)(Y:c.length<=16):zzA 389 false [.val none (ce .U c),.val none [I s],.val none [I 3]] (.tup [none,none]) (fH .own (jF c s)++[I (shuf c.length s).2]):=by
 have O:=vd s r;have H:=aN 3 0 16;rw[O0 ω]at H;have P:=Br c.length s r ω;have g:=(kQ c.length r (c.length - 1)).1;have h:=rm c.length r (v4 _);unfold jF;change (shuf c.length s).1.length=_ at g;change ∀x∈(shuf c.length s).1,_ at h
 have y:i6 (fH .own (mJ c (shuf c.length s).1 3)++[I (shuf c.length s).2]):=aJ (zf _) ⟨trivial,trivial⟩;generalize shuf c.length s=q at *;obtain⟨p,z⟩:=q;simp only at *;have B:((p.length:Nat):Int).tdiv 2=((p.length / 2:Nat):Int):=by rw[Int.tdiv_eq_ediv_of_nonneg ω];omega
 have D:fz (C.s dX.own (p.map (rI .own)))=C.s dX.U (p.map (rI .U)):=(List.cons.inj (dH p)).1;have l:(p.drop (p.length / 2)).length=p.length - p.length / 2:=I4 ..;have Q:(p.take (p.length / 2)).length=p.length / 2:=by rw[O2];omega
 have n:∀i:Nat,i<p.length->0<=nth p i/\nth p i<c.length:=λi R=>h _ (au R)
 have d:((c.length:Nat):Int).tdiv 2=((p.length / 2:Nat):Int):=by rw[<-g];exact B
 refine fO 99 [(5,264,[39,40,41,42,43,44,45,46,0,1,2,3,4,5,6,7,8,1004,1005,1006,1007,9]),(14,19,[69,70,71,72,73,74,75,76,77,78,79,80,81,82,83,84,85,86,87]),(1048581,9,[0])] Tryz.func389 rfl ?_ (.inr y)
 repeat'(first|refine gE ?_|with_reducible refine CP ((C1 _ d).trans (fJ ω ω)) ?_|refine CQ (by decide) ?_|refine JT.mk rfl D rfl ?_|refine CY (p.length / 2) d (by rw[O1];omega) (aO λ_=>rfl) C5 ?_|refine Cb (p.length / 2) d (by rw[O1];omega) (aO λ_=>rfl) I5 ?_)
 refine CK (ι:=Nat) (λt=>[(0,.H .one (ce .U c)),(2,.H .one [I (3)]),(10,.H .one [I (z)]),(11,.H .one (aH .U (p.take (p.length / 2)))),(12,.H .one (aH .U (p.drop (p.length / 2)))),(13,.H .one (fH .own (mJ c p t))),(14,.H .one [I ((t:Nat):Int)])]) (λt=>t<=3) (λt=>3 - t) (0) ?_ (Z0 _) λt S=>?_
 ·exact wB
 have Z:=zb c p t;have ol2:t*(p.length / 2)<=3*8:=Nat.mul_le_mul S ω;by_cases lt:t<3
 ·refine ZE ?_
  refine CK (ι:=Nat) (λj=>[(0,.H .one (ce .U c)),(2,.H .one [I (3)]),(10,.H .one [I (z)]),(11,.H .one (aH .U (p.take (p.length / 2)))),(12,.H .one (aH .U (p.drop (p.length / 2)))),(13,.H .one (fH .own (rK c p t (mJ c p t) j))),(14,.H .one [I ((t:Nat):Int)]),(53,.H .one (aH .U (p.take (p.length / 2)))),(54,.H .one [I (((p.length / 2):Nat):Int)]),(55,.H .one [I ((j:Nat):Int)])]) (λj=>j<=p.length / 2) (λj=>p.length / 2 - j) (0) ?_ (Z0 _) λj hj=>?_
  ·exact wB
  have rl:=uN c p t (mJ c p t) j;by_cases T:j<p.length / 2
  ·have J:(j+t) % (p.length - p.length / 2)<p.length - p.length / 2:=Nat.mod_lt _ ω
   have E:((j:Int)+t).tmod ((p.length - p.length / 2:Nat):Int)=(((j+t) % (p.length - p.length / 2):Nat):Int):=by
    rw[eK ω,Int.natCast_emod];congr 1
   have e:rK c p t (mJ c p t) (j+1)=stp c p t j (rK c p t (mJ c p t) j):=rfl;unfold stp at e;generalize rK c p t (mJ c p t) j=out at *;have o:p.length / 2+(j+t) % (p.length - p.length / 2)<p.length:=ω
   generalize hk:(j+t) % (p.length - p.length / 2)=k at *;have F:(p.take (p.length / 2))[j]? = some (nth p j):=by rw[List.getElem?_take,CE T];exact ar ω
   have G:(p.drop (p.length / 2))[k]? = some (nth p (p.length / 2+k)):=by rw[List.getElem?_drop];exact ar o
   have U:=n j ω;have V:=n _ o;generalize nth p j=a at *;generalize nth p (p.length / 2+k)=b at *;have K:=Ay out a ω;have L:=Ay out b ω;have W:=ar (xs:=c) (i:=a.toNat) ω;have X:=ar (xs:=c) (i:=b.toNat) ω;have M:=ny (nth c a.toNat) (nth c b.toNat);cases u:tkn out a<;>cases w:tkn out b<;>cases N:meshable (nth c a.toNat) (nth c b.toNat)
   all_goals
    unfold tkn at u w;rw[u]at K;rw[w]at L;change (tkn out a)=_ at u;change (tkn out b)=_ at w;rw[N]at M;rw[u,w,N]at e;simp only[and_true,true_and,if_true,Bool.false_eq_true,Bool.true_eq_false,and_false,false_and,if_false]at e
    repeat'(first|refine gE ?_|refine CU (z:=(k:Int)) (by rw[l];exact E) ?_|refine Ln.mk (show List.length (List.map _ (p.drop (p.length / 2)))=p.length - p.length / 2 by rw[O1];exact l) ?_|refine CQ ω ?_|refine CO ω (aa G) ?_|refine CO U.1 (aa W) ?_|refine CO V.1 (aa X) ?_|refine CH (K) ⟨⟨rfl,sW _⟩,⟨rfl,rfl⟩,trivial⟩ ?_|refine CH (L) ⟨⟨rfl,sW _⟩,⟨rfl,rfl⟩,trivial⟩ ?_|refine Ap.sm (aO λ_=>rfl) rfl (by simp;omega) (by decide) (gS (eC.enc .own) out ⟨a,b⟩) ?_)
    (refine CG (j+1) ω ω ?_)
    rw[e];exact wB
  obtain rfl:j=p.length / 2:=ω
  refine ZE ?_
  (refine CG (t+1) ω ω ?_;(exact wB))
 obtain rfl:t=3:=ω
 refine ZE ?_
 rfl
def ax.fzR{sh:Bool}{A:List RA}{k:Kd}{rcs:List C}(h:ax P f sh A k rcs):ax P f sh A k (dM rcs):=by
 obtain⟨c,d⟩:=h;refine⟨c,λw S g i j=>(d w S g i j).mono λe w1 l=>?_⟩;obtain⟨v,n,p,X,q,r,t,B,u,y⟩:=l;refine⟨v,n,p,NO,λb o=>q b o\/X b o,λ_ _ h=>h.elim,λb o a=>?_,λ_ _ h=>h.elim,by rw[bW,O1];exact u,y.freeze⟩;rcases a with a|a
 ·exact t b o a
 exact .inr (r b o a)
structure T3(ls:List aA)(q:eC):Prop where
 a:0<=q.A/\q.A<ls.length
 b:0<=q.B/\q.B<ls.length
 m:meshable (nth ls q.A.toNat) (nth ls q.B.toNat)=true
def MJ{b:List aA}{p:List Int}(c:∀x∈p,0<=x/\x<b.length)(t:Nat){out:List eC}(d:∀q∈out,T3 b q):∀{i:Nat},i<=p.length / 2->∀q∈rK b p t out i,T3 b q
 | 0,_=>d
 | i+1,h=>λq a=>by
  have e:=MJ c t d (i:=i) ω;simp only[rK,stp]at a;split at a
  ·rename_i g
   rcases t4.1 a with a|a
   ·exact e q a
   obtain rfl:=C2.1 a;have f:(i+t) % (p.length - p.length / 2)<p.length - p.length / 2:=Nat.mod_lt _ ω;exact⟨c _ (au ω),c _ (au ω),g.2.2⟩
  exact e q a
def LV{a:List aA}{p:List Int}(b:∀x∈p,0<=x/\x<a.length):∀t,∀q∈mJ a p t,T3 a q
 | 0=>λq c=>by cases c
 | t+1=>MJ b t (LV b t) (v4 _)
def my(a:List aA){s:Int}(b:0<=s/\s<=1073741823):∀q∈jF a s,T3 a q:=LV (rm a.length b (v4 _)) 3
def TF(s:aA)(n:Nat):(uG s n).Pairwise (· < ·):=by
 unfold uG;rw[List.pairwise_map];exact(List.pairwise_lt_range.sublist List.filter_sublist).imp λh=>ω
def Vh : ∀z∈uG s n,0<=z/\z<n:=λz a=>by
 unfold uG at a;simp only[O5,X5,List.mem_range]at a;obtain⟨c,⟨b,-⟩,rfl⟩:=a;omega
def yn(s:aA):dv (uG s 16).length (nv (uG s 16))=true:=by
 refine cI.2 λj a=>?_
 have c:=Vh _ (au a);unfold nv;refine O0 ⟨ω,ω,?_⟩;by_cases e:j=0
 ·exact .inl e
 refine .inr ?_;have b:=List.pairwise_iff_getElem.1 (TF s 16) (j - 1) j ω a ω;rw[show nth (uG s 16) (j - 1)=(uG s 16)[j - 1] from bq (C3 ω),show nth (uG s 16) j=(uG s 16)[j] from bq (C3 a)];exact b
def rh{a b:aA}(c:meshable a b=true):fk (dl a b)=true/\bh a=true/\bh b=true:=by
 unfold meshable at c;simp only[I0,C0]at c;have d:=aI c.1.1;have e:=aI c.1.2;refine⟨?_,c.1⟩;unfold dl fk;split
 ·simp only[I0,C0];exact⟨yn a,ω⟩
 simp only[I0,C0];exact⟨yn b,ω⟩
def zr(a b:aA):cn.sml (dl a b):=by
 have c:=mQ a 16;have d:=mQ b 16;unfold dl cn.sml u6;split<;>simp only<;>omega
def bp(h:ac):List aA:=(iM h).take 16
def started(h:ac):ac × Bool:=match jF (bp h) h.b3 with
 | []=>({h with b3:=(shuf (bp h).length h.b3).2},false)
 | q::_=>({h with b3:=(shuf (bp h).length h.b3).2,q:=true,Y:=ur (dl (nth (bp h) q.A.toNat) (nth (bp h) q.B.toNat))},true)
def GW(a:bc h E):h.J.length<=32/\fo h<=32/\xG h/\∀s∈h.J,s.a9<=9223372036854775807:=by
 have b:=a.lens;refine⟨b.spans,b.ents,?_,λs c=>by have:=dU (a.L.sok s c);omega⟩;have:=(bk a.ker).1.2;exact this
def AQ(h:ac):(bp h).length<=16:=by unfold bp;rw[O2];omega
def R8(x:List eC)(z:Int):dM (fH .own x++[I z])=fH .U x++[I z]:=by
 have h:=sW x;rw[bW]at h |-;rw[Z7,h];simp[fz]
def Vd(h:ac):(bp h).map (aA.enc .U)=((iM h).map (aA.enc .U)).take 16:=C5
def Ld(p:cn)(b:fk p=true)(c:cn.sml p):zzA 430 false [.val (some 3) (cn.enc .U p)] (.tup [some 5,none]) (zp (ur p)++[B true]):=by
 have h:=(H0 p b c).fzR;have e:dM (cz.enc .own (ur p)++[B true])=zp (ur p)++[B true]:=by
  have a:=cz.enc_fz (ur p);rw[bW]at a |-;rw[Z7,a];simp[fz,cz.enc,zp]
 rwa [e]at h
def Bo(h:ac)(w:bc h []):zzB 279 false [.ptr (bL h)] [.ptr (bL (started h).1)] .one [B (started h).2]:=by
 obtain⟨w1,Q,H,J⟩:=GW w;have a:=w.nums;unfold cx at a;rw[C0]at a;have e:=(zn h H ω ω J).fzR;rw[gL]at e;have o:=AQ h;have b:=(xN (bp h) h.b3 ⟨a.1,a.2.1⟩ o).fzR;rw[R8]at b;have g:=my (bp h) ⟨a.1,a.2.1⟩;have K:=qH h h.J.length;have y:(iM h).length<=32:=by unfold iM;omega
 have j:=Vd h;unfold started;cases C:jF (bp h) h.b3 with
 | nil=>
  rw[C]at b;by_cases L:16<(iM h).length
  ·refine fM 62 [] [(8,275,[34,35,36,37,38,39,40,41,42,43,44,45,46,47,48,33,49,50,6,0,1,2,3,4,5,6,7,8,9,10,11,12,13,14,15,16,17,18,19,1017,20])] [(0,0)] Tryz.func279 rfl (λu q=>?_)
   repeat'(first|refine gE ?_|refine CH (e) ⟨⟨rfl,bP h⟩,trivial⟩ ?_|refine CY 16 rfl (by rw[O1];omega) (aO λ_=>rfl) j ?_)
   refine CL rfl rfl ?_;exact wC
  have k:bp h=iM h:=by unfold bp;exact O9 ω
  rw[k]at b;refine fM 62 [] [(8,275,[34,35,36,37,38,39,40,41,42,43,44,45,46,47,48,33,49,50,6,0,1,2,3,4,5,6,7,8,9,10,11,12,13,14,15,16,17,18,19,1017,20])] [(0,0)] Tryz.func279 rfl (λu q=>?_);rw[k]
  repeat'(first|refine gE ?_|refine CH (e) ⟨⟨rfl,bP h⟩,trivial⟩ ?_)
  refine CL rfl rfl ?_;exact wC
 | cons q M=>
  rw[C]at b g;obtain⟨E,F,G⟩:=g q (X2 ..);obtain⟨N,O,P⟩:=rh G;have p:=Dd _ _ G O P;have t:=Ld _ N (zr _ _);have c:=ar (xs:=bp h) (i:=q.A.toNat) ω;have d:=ar (xs:=bp h) (i:=q.B.toNat) ω;have l:(q::M)[0]? = some q:=rfl;by_cases L:16<(iM h).length
  ·refine fM 62 [] [(8,275,[34,35,36,37,38,39,40,41,42,43,44,45,46,47,48,33,49,50,6,0,1,2,3,4,5,6,7,8,9,10,11,12,13,14,15,16,17,18,19,1017,20])] [(0,0)] Tryz.func279 rfl (λu r=>?_)
   repeat'(first|refine gE ?_|with_reducible refine Bf.D (λn=>absurd n (by simp)) (λn=>?_)|refine CH (e) ⟨⟨rfl,bP h⟩,trivial⟩ ?_|refine CY 16 rfl (by rw[O1];omega) (aO λ_=>rfl) j ?_|refine CO (by decide) (aa l) ?_|refine CO E.1 (aa c) ?_|refine CO F.1 (aa d) ?_|refine CH (t) ⟨⟨rfl,cn.enc_fz _⟩,trivial⟩ ?_)
   refine CL rfl rfl ?_;exact wC
  have k:bp h=iM h:=by unfold bp;exact O9 ω
  rw[k]at b p t c d;refine fM 62 [] [(8,275,[34,35,36,37,38,39,40,41,42,43,44,45,46,47,48,33,49,50,6,0,1,2,3,4,5,6,7,8,9,10,11,12,13,14,15,16,17,18,19,1017,20])] [(0,0)] Tryz.func279 rfl (λu r=>?_);rw[k]
  repeat'(first|refine gE ?_|with_reducible refine Bf.D (λn=>absurd n (by simp)) (λn=>?_)|refine CH (e) ⟨⟨rfl,bP h⟩,trivial⟩ ?_|refine CO (by decide) (aa l) ?_|refine CO E.1 (aa c) ?_|refine CO F.1 (aa d) ?_|refine CH (t) ⟨⟨rfl,cn.enc_fz _⟩,trivial⟩ ?_)
  refine CL rfl rfl ?_;exact wC
def meshSt(h:ac):ac × Bool:=if h.q=false/\dh h=true then started h else(h,false)
def FE(h:ac)(g:ac.sml h)(i:¬(h.q=false/\dh h=true)):zzA 249 false [.val (some 24) (ac.enc .U h)] (.tup [some 24,none]) (gm h++[B false]):=by
 have a:=f8 h g;rw[gW]at a;have b:=mi h g;have c:ac.enc .U h=(ac.enc .U h).set 18 (B h.q):=rfl;cases d:h.q
 ·have j:dh h=false:=by
   rcases Bool.eq_false_or_eq_true (dh h) with e|e
   ·exact absurd ⟨d,e⟩ i
   exact e
  rw[j]at a;rw[d]at c;rw[c]at a b |-;refine fO 66 [(10,275,[41,42,43,44,45,46,47,48,49,50,51,52,53,54,55,40,56,57,8,0,1,2,3,4,5,6,7,8,9,10,11,12,13,14,15,16,17,18,19,1017,20])] Tryz.func249 rfl ?_ (.inr (aJ (mU _) ⟨trivial,trivial⟩))
  refine ZP ?_
  rfl
 rw[d]at c;rw[c]at a b |-;refine fO 66 [(10,275,[41,42,43,44,45,46,47,48,49,50,51,52,53,54,55,40,56,57,8,0,1,2,3,4,5,6,7,8,9,10,11,12,13,14,15,16,17,18,19,1017,20])] Tryz.func249 rfl ?_ (.inr (aJ (mU _) ⟨trivial,trivial⟩))
 refine ZP ?_
 rfl
def B9(h:ac)(t:ac.sml h)(H:h.q=false)(u:dh h=true):zzA 249 false [.val (some 24) (ac.enc .U h)] (.tup [some 24,none]) (gm (started h).1++[B (started h).2]):=by
 have w:=bc.of u;obtain⟨w1,U,J,K⟩:=GW w;have a:=w.nums;unfold cx at a;rw[C0]at a;have j:=f8 h t;rw[gW,u]at j;have l:=mi h t;have k:=(Au h J ω ω K).fzR;rw[gL]at k;have n:=AQ h;have c:=(xI (bp h) h.b3 ⟨a.1,a.2.1⟩ n).fzR;rw[R8]at c;have d:=my (bp h) ⟨a.1,a.2.1⟩;have L:=qH h h.J.length;have y:(iM h).length<=32:=by unfold iM;omega
 have g:(bp h).map (aA.enc .U)=((iM h).map (aA.enc .U)).take (bp h).length:=by
  unfold bp;rw[C5,O2];by_cases e:16<=(iM h).length
  ·rw[Nat.min_eq_left e]
  rw[Nat.min_eq_right ω,O9 (by rw[O1];omega),O9 (by rw[O1];omega)]
 have b:(bp h).length=if(iM h).length<=16 then(iM h).length else 16:=by unfold bp;rw[O2];split<;>omega
 have C:ac.enc .U h=(ac.enc .U h).set 18 (B h.q):=rfl;rw[H]at C;rw[C]at j l k |-;unfold started;cases E:jF (bp h) h.b3 with
 | nil=>
  rw[E]at c;refine fO 66 [(10,275,[41,42,43,44,45,46,47,48,49,50,51,52,53,54,55,40,56,57,8,0,1,2,3,4,5,6,7,8,9,10,11,12,13,14,15,16,17,18,19,1017,20])] Tryz.func249 rfl ?_ (.inr (aJ (mU _) ⟨trivial,trivial⟩))
  repeat'(first|refine gP ?_|refine CU (z:=((bp h).length:Int)) (by rw[b];simp;split<;>split<;>omega) ?_|refine CY (bp h).length rfl (by rw[O1,b];split<;>omega) (aO λ_=>rfl) g ?_)
  rfl
 | cons q M=>
  rw[E]at c d;obtain⟨N,O,F⟩:=d q (X2 ..);obtain⟨P,Q,R⟩:=rh F;have S:=BH _ _ F Q R;have T:=GP _ P (zr _ _);have o:=ar (xs:=bp h) (i:=q.A.toNat) ω;have p:=ar (xs:=bp h) (i:=q.B.toNat) ω;have r:(q::M)[0]? = some q:=rfl;refine fO 66 [(10,275,[41,42,43,44,45,46,47,48,49,50,51,52,53,54,55,40,56,57,8,0,1,2,3,4,5,6,7,8,9,10,11,12,13,14,15,16,17,18,19,1017,20])] Tryz.func249 rfl ?_ (.inr (aJ (mU _) ⟨trivial,trivial⟩))
  repeat'(first|refine gP ?_|with_reducible refine Bf.D (λG=>absurd G (by simp)) (λG=>?_)|refine CU (z:=((bp h).length:Int)) (by rw[b];simp;split<;>split<;>omega) ?_|refine CY (bp h).length rfl (by rw[O1,b];split<;>omega) (aO λ_=>rfl) g ?_|refine CO (by decide) (aa r) ?_|refine CO N.1 (aa o) ?_|refine CO O.1 (aa p) ?_|refine CH (T) ⟨⟨rfl,cn.enc_fz _⟩,trivial⟩ ?_)
  rfl
def zc(h:ac)(a:ac.sml h):zzA 249 false [.val (some 24) (ac.enc .U h)] (.tup [some 24,none]) (gm (meshSt h).1++[B (meshSt h).2]):=by
 unfold meshSt;split
 ·rename_i e;exact B9 h a e.1 e.2
 rename_i e;exact FE h a e
def L0(xs:List Int)(x:Int)(h:xs.length<=4611686018427387904):zzA 435 false [.val none (aH .U xs),.val none [I x]] .one [I (cV (λy=>decide (y=x)) xs)]:=by
 refine fO 19 [] Tryz.func435 rfl ?_
 refine ZP ?_
 refine CK (ι:=Nat) (λi=>[(0,.H .one (aH .U xs)),(1,.H .one [I (x)]),(7,.H .one [I (xs.length)]),(8,.H .one [I ((i:Nat):Int)])]) (λi=>i<=xs.length/\∀(j:Nat)(z:Int),j<i->xs[j]? = some z->decide (z=x)=false) (λi=>xs.length - i) (0) ?_ (⟨Z0 _,λj z d _=>absurd d (Nat.not_lt_zero _)⟩) λi c=>?_
 ·exact wB
 obtain⟨c,b⟩:=c;by_cases g:i<xs.length
 ·have a:=ar g
  by_cases e:nth xs i=x
  ·repeat'(first|refine gE ?_|refine Bf.t (by simp[e]) ?_)
   exact C1 (λz=>[I z]) (dE a (O0 e) b).symm
  repeat'(first|refine gE ?_|refine Bf.f (by simp[Ne.symm e]) ?_)
  (refine CG (i+1) ⟨ω,eA a (X0 e) b⟩ ω ?_;(exact wB))
 refine ZE ?_
 exact C1 (λz=>[I z]) (gv ω b).symm
def rR(xs:List Int)(x:Int)(a:xs.length<=4611686018427387904):zzA 287 false [.val none (aH .U xs),.val none [I x]] .one [B (decide (x∈xs))]:=by
 refine fO 9 [] Tryz.func287 rfl ?_
 repeat'(first|refine gP ?_|refine CB (L0 xs x a) ?_)
 exact C1 (λz=>[B z]) ((by rw[lY];rw[I6];simp))
def cu(k:ah):ah:={k with Calls:=k.Calls+1}
def refd(k:ah):Bool:=decide (k.Calls∈k.u)
def p9(k:ah)(a:ah.sml k)(d:0<=k.Calls/\k.Calls<=100000):zzA 459 false [.val (some 5) (ah.enc .U k)] (.tup [some 5,none]) (ah.enc .own (cu k)++[B (!refd k)]):=by
 have c:=gU k a;have g:k.u.length<=1048576:=a.2;have b:=rR k.u k.Calls ω;unfold refd;cases e:decide (k.Calls∈k.u)<;>rw[e]at b
 all_goals
  refine fO 18 [(3,263,[11,12,13,14,15,16,17,0,1,2,3,4,5,6,7,1006,8])] Tryz.func459 rfl ?_ (.inr (aJ (Cc _) ⟨trivial,trivial⟩))
  refine ZP ?_
  rfl
def kb(k:ah)(p:Int)(m:Int):ah:={k with G:=⟨k.G.W,⟨k.G.Q.K.set p.toNat {nth k.G.Q.K p.toNat with j:=m}⟩⟩}
def fI(k:ah)(p m:Int):ah × Bool:=if refd k=true then(cu k,false) else(kb (cu k) p m,true)
def wl(k:ah)(p m:Int):ah.enc .own (kb k p m)=(ah.enc .own k).set 2 (.s .own ((k.G.Q.K.map (bm.enc .own)).set p.toNat (bm.enc .own {nth k.G.Q.K p.toNat with j:=m}))):=by
 simp[ah.enc,kb,S8]
def sE(k:ah)(p m:Int)(b:aD k=true)(n:k.Calls≠100000)(j:(af k.G.Q p).j≠0)(a:m=1\/m=2):zzA 559 false [.val (some 5) (ah.enc .U k),.val none [I p],.val none [I m]] (.tup [some 5,none]) (ah.enc .own (fI k p m).1++[B (fI k p m).2]):=by
 have c:=bk b;have o:=(aC.1 b).2.2.2;have d:=iG k c;rw[b,O0 n]at d;have g:=p9 k c ⟨ω,ω⟩;have h:=fx k p c.1.2;rw[O0 j]at h;obtain⟨q,r,t⟩:=bK b j;have l:=ar (xs:=k.G.Q.K) (i:=p.toNat) ω;unfold fI;cases e:refd k<;>rw[e]at g
 ·rw[CC (by simp),wl]
  rcases a with rfl|rfl
  all_goals
   refine fO 46 [] Tryz.func559 rfl ?_ (.inr (aJ (by rw[<-wl];exact Cc _) ⟨trivial,trivial⟩))
   repeat'(first|refine gP ?_|refine CO q (aa l) ?_|refine CR rfl rfl (aa l) rfl (Z1 rfl) rfl ?_)
   rfl
 rw[CE rfl];rcases a with rfl|rfl
 all_goals
  refine fO 46 [] Tryz.func559 rfl ?_ (.inr (aJ (Cc _) ⟨trivial,trivial⟩))
  refine ZP ?_
  rfl
variable{k:ah}
def row16(a:aD k=true)(b:f<k.G.W.T.length):(nth k.G.W.T f).length=16:=by
 have:=(aZ.1 (aC.1 a).2.1).2.2.2 f b;unfold iB at this;simp only[I0,C0]at this;omega
def setCell(k:ah)(f:Nat)(c v:Int):ah:={k with G:=⟨⟨k.G.W.T.set f ((nth k.G.W.T f).set c.toNat v),k.G.W.a1⟩,k.G.Q⟩}
def xa(k:ah)(f:Nat)(c v:Int):ah.enc .own (setCell k f c v)=(ah.enc .own k).set 0 (.s .own ((k.G.W.T.map (aH .own)).set f [.s .own (((nth k.G.W.T f).map (rI .own)).set c.toNat [I v])])):=by
 simp[ah.enc,setCell,S8,aH,rI]
def bF(k:ah)(p:Int):Nat:=(af k.G.Q p).e.toNat
def pQ(k:ah)(a b c:Int):ah:=setCell k (bF k b) c (nth (nth k.G.W.T (bF k a)) c.toNat)
def MK(k:ah)(a b c:Int):Nat->ah
 | 0=>k
 | _+1=>pQ k a b c
def Kb(k:ah)(a b c:Int)(d:aD k=true)(C:k.Calls≠100000)(q:(af k.G.Q a).j≠0)(r:(af k.G.Q b).j≠0)(e:0<=c/\c<=15):zzA 560 false [.val (some 5) (ah.enc .U k),.val none [I a],.val none [I b],.val none (aH .U [c])] (.tup [some 5,none]) (ah.enc .own (pQ k a b c)++[B true]):=by
 have h:=bk d;have t:=iG k h;rw[d,O0 C]at t;have D:=gU k h;have u:=fx k a h.1.2;have w:=fx k b h.1.2;rw[O0 q]at u;rw[O0 r]at w;have E:=dR k.G.Q a h.1.2;have F:=dR k.G.Q b h.1.2;have y:=Ed c;rw[O0 e]at y;obtain⟨-,-,-,G,K⟩:=bK d q;obtain⟨-,-,-,H,L⟩:=bK d r;have J:=(aZ.1 (aC.1 d).2.1).2.2.1;have M:=row16 d (f:=bF k a) (by unfold bF;omega);have N:=row16 d (f:=bF k b) (by unfold bF;omega);have l:k.G.W.T[(af k.G.Q a).e.toNat]? = some (nth k.G.W.T (bF k a)):=ar ω;have g:k.G.W.T[(af k.G.Q b).e.toNat]? = some (nth k.G.W.T (bF k b)):=ar ω;have o:=ar (xs:=nth k.G.W.T (bF k a)) (i:=c.toNat) ω;have n:=ar (xs:=nth k.G.W.T (bF k b)) (i:=c.toNat) ω;have p:[c][0]? = some c:=rfl;refine fO 77 [(4,268,[33,34,35,36,37,38,39,40,41,42,43,44,0,1,2,3,4,5,6,7,8,9,10,11,12,1011,13]),(10,18,[56,57,58,59,60,61,62,63,64,65,66,67,68,69,70,71,72,73])] Tryz.func560 rfl ?_ (.inr (aJ (Cc _) ⟨trivial,trivial⟩))
 refine ZP ?_
 refine CK (ι:=Nat) (λj=>[(4,.H .box (ah.enc .U k)),(8,.H .box (ah.enc .own ⟨⟨⟨[],[]⟩,⟨[]⟩⟩,0,[]⟩)),(10,.H .box (ah.enc .own (MK k a b c j))),(11,.H .one [I ((af k.G.Q a).e)]),(12,.H .one [I ((af k.G.Q b).e)]),(45,.H .one (aH .U [c])),(46,.H .one [I (1)]),(47,.H .one [I ((j:Nat):Int)])]) (λj=>j<=1) (λj=>1 - j) (0) ?_ (Z0 _) λj O=>?_
 ·exact wB
 by_cases P:j<1
 ·obtain rfl:j=0:=ω
  repeat'(first|refine gE ?_|refine CO (by decide) (aa p) ?_|refine CO G (aa l) ?_|refine CO H (aa g) ?_|refine CO e.1 (aa o) ?_|refine CO e.1 (aa n) ?_|refine Pu.two rfl rfl (aa g) rfl rfl rfl (aa n) rfl (v4 _) rfl ?_)
  (refine CG 1 ω ω ?_)
  rw[show MK k a b c 1=pQ k a b c from rfl];unfold pQ;rw[xa];exact wB
 obtain rfl:j=1:=ω
 refine ZE ?_
 rfl
def vG(k:ah)(p:Nat)(e:bm):ah:={k with G:=⟨k.G.W,⟨k.G.Q.K.set p e⟩⟩}
def J1(k:ah)(p:Nat)(e:bm):ah.enc .own (vG k p e)=(ah.enc .own k).set 2 (.s .own ((k.G.Q.K.map (bm.enc .own)).set p (bm.enc .own e))):=by
 simp[ah.enc,vG,S8]
def JC(p:Nat)(e:bm)(h:aM.sml k.G.Q):aM.sml (vG k p e).G.Q:=by
 refine⟨?_,λx _=>trivial⟩;show(k.G.Q.K.set p e).length<=_;rw[I2];exact h.1
def sJ(k:ah)(p o:Int):ah × Bool:=if refd k=true then(cu k,false) else(fY (vG (cu k) p.toNat ⟨2,(nth k.G.Q.K o.toNat).e⟩) (nth k.G.Q.K p.toNat).e,true)
def gg(m:aY)(a v:Int):aY × Int:=
 if(af m.Q (a / 16)).j=0 then(m,1) else if(af m.Q (a / 16)).j=1 then(m,2) else
 (⟨⟨m.W.T.set (af m.Q (a / 16)).e.toNat ((nth m.W.T (af m.Q (a / 16)).e.toNat).set (a % 16).toNat v),m.W.a1⟩,m.Q⟩,0)
def Gk(m:aY)(a:Int)(d:dx m=true)(b:aY.sml m)(e:0<=a/\a<512):zzA 568 false [.val (some 3) (aY.enc .U m),.val none [I a]] .agg (bm.enc .own (af m.Q (a / 16))):=by
 have c:=qx m b;rw[d]at c;have g:=dR m.Q (a / 16) b.2;refine fO 18 [] Tryz.func568 rfl ?_ (.inr ⟨trivial,trivial,trivial⟩)
 repeat'(first|refine gE ?_|refine CP (qB e) ?_|refine CQ (by decide) ?_)
 rfl
def zL(m:aY)(f:Nat)(c v:Int):aY.enc .own ⟨⟨m.W.T.set f ((nth m.W.T f).set c.toNat v),m.W.a1⟩,m.Q⟩ = (aY.enc .own m).set 0 (.s .own ((m.W.T.map (aH .own)).set f [.s .own (((nth m.W.T f).map (rI .own)).set c.toNat [I v])])):=by
 simp[aY.enc,S8,aH,rI]
def L9(m:aY)(a v:Int)(p:dx m=true)(k:aY.sml m)(l:0<=a/\a<512)(q:0<=v/\v<=999)(r:(af m.Q (a / 16)).j≠0->0<=(af m.Q (a / 16)).e/\(af m.Q (a / 16)).e<m.W.T.length/\(nth m.W.T (af m.Q (a / 16)).e.toNat).length=16):zzA 505 false [.val (some 3) (aY.enc .U m),.val none [I a],.val none [I v]] (.tup [some 3,none]) (aY.enc .own (gg m a v).1++[I (gg m a v).2]):=by
 have d:=nS m k;have e:=Gk m a p k l;have c:=aN v 0 999;rw[O0 q]at c;have b:=aY.enc_fr (gg m a v).1;unfold gg at b |-;by_cases g:(af m.Q (a / 16)).j=0
 ·rw[CE g]at b |-
  refine fO 42 [] Tryz.func505 rfl ?_ (.inr (aJ b ⟨trivial,trivial⟩))
  refine ZB ?_
  rfl
 rw[CC g]at b |-;by_cases n:(af m.Q (a / 16)).j=1
 ·rw[CE n]at b |-
  refine fO 42 [] Tryz.func505 rfl ?_ (.inr (aJ b ⟨trivial,trivial⟩))
  refine ZB ?_
  rfl
 rw[CC n]at b |-;obtain⟨t,u,w⟩:=r g;have h:=ar (xs:=m.W.T) (i:=(af m.Q (a / 16)).e.toNat) ω;have o:=ar (xs:=nth m.W.T (af m.Q (a / 16)).e.toNat) (i:=(a % 16).toNat) ω;simp only at b |-;rw[zL]at b |-;have j:a.tmod 16=a % 16:=eK l.1;refine fO 42 [] Tryz.func505 rfl ?_ (.inr (aJ b ⟨trivial,trivial⟩))
 repeat'(first|refine gB ?_|refine CU j ?_|refine CQ (by decide) ?_|refine CO t (aa h) ?_|refine CO ω (aa o) ?_|refine Pu.two rfl rfl (aa h) rfl rfl rfl (aa o) rfl (v4 _) rfl ?_)
 rfl
def Ju(k:ah)(p o:Int)(a:aD k=true)(w:k.Calls≠100000)(l:(af k.G.Q p).j≠0)(n:(af k.G.Q o).j≠0)(y:p≠o):zzA 561 false [.val (some 5) (ah.enc .U k),.val none [I p],.val none [I o]] (.tup [some 5,none]) (ah.enc .own (sJ k p o).1++[B (sJ k p o).2]):=by
 have b:=bk a;have C:=(aC.1 a).2.2.2;have c:=iG k b;rw[a,O0 w]at c;have d:=p9 k b ⟨ω,ω⟩;have g:=fx k p b.1.2;have h:=fx k o b.1.2;rw[O0 l]at g;rw[O0 n]at h;obtain⟨D,H,E,q,r⟩:=bK a l;obtain⟨F,J,K,L,M⟩:=bK a n;have G:=(aZ.1 (aC.1 a).2.1).2.2.1;have j:=ar (xs:=k.G.Q.K) (i:=p.toNat) ω;have t:=ar (xs:=k.G.Q.K) (i:=o.toNat) ω;rw[E]at q r;have u:=uE (vG (cu k) p.toNat ⟨2,(nth k.G.Q.K o.toNat).e⟩) (nth k.G.Q.K p.toNat).e (JC _ _ b.1.2) ⟨q,by show _<((k.G.W.T.length:Nat):Int);omega,r⟩;rw[J1]at u;unfold sJ;cases e:refd k<;>rw[e]at d
 ·rw[CC (by simp)]
  refine fP 63 [(198,[2,0]),(1000010,[])] [] Tryz.func561 rfl ?_ (.inr (aJ (Cc _) ⟨trivial,trivial⟩))
  repeat'(first|refine gB ?_|refine CO D (aa j) ?_|refine CO F (aa t) ?_|refine CR rfl rfl (aa j) rfl (Z1 rfl) rfl ?_)
  rfl
 rw[CE rfl];refine fP 63 [(198,[2,0]),(1000010,[])] [] Tryz.func561 rfl ?_ (.inr (aJ (Cc _) ⟨trivial,trivial⟩))
 refine ZP ?_
 rfl
def jmay(k:ah)(j:cz):Bool:=(aD k&&decide (k.Calls≠100000))&&(jX j&&decide ((af k.G.Q j.X.a3).j≠0/\(af k.G.Q j.X.a0).j≠0/\(af k.G.Q j.X.a3).e≠(af k.G.Q j.X.a0).e))
def jstep(k:ah)(j:cz):ah × cz:=
 if j.b0=0 then((fI k j.X.a0 1).1,{j with b0:=if(fI k j.X.a0 1).2=true then 1 else 5})
 else if j.b0=1 then(if j.b=j.X.T.length then(k,{j with b0:=2}) else(pQ k j.X.a0 j.X.a3 (nth j.X.T j.b.toNat),{j with b:=j.b+1}))
 else if j.b0=2 then((sJ k j.X.a0 j.X.a3).1,{j with b0:=if(sJ k j.X.a0 j.X.a3).2=true then 4 else 3})
 else if j.b0=3 then(if 0<j.b then({k with G:=(gg k.G (j.X.a3*16+nth j.X.T (j.b - 1).toNat) 0).1},{j with b:=j.b - 1}) else((fI k j.X.a0 2).1,{j with b0:=if(fI k j.X.a0 2).2=true then 5 else 3}))
 else(k,j)
def QH{f:Int}(h1:∀j,j<k.u.length->0<=nth k.u j)(d:cY k.G.W=true)(g:ij k.G.Q k.G.W.a1.length=true)(h:∀j:Nat,j<k.G.W.a1.length->(j:Int)≠f->nth k.G.W.a1 j=decide (0<(pagesOn k.G.Q (j:Int)).length))(t:0<=f/\f<k.G.W.a1.length)(l:nth k.G.W.a1 f.toNat=true)(i:0<=k.Calls/\k.Calls<=100000/\k.u.length<=40):aD (fY k f)=true:=by
 obtain⟨n,o,p,q⟩:=aZ.1 d;unfold fY;split
 ·rename_i c
  rw[aC];simp only[I2];refine⟨h1,?_,g,λj b=>?_,i⟩
  ·rw[aZ]
   simp only[I2,bB];refine⟨n,o,p,λj b=>?_⟩;by_cases a:f.toNat=j
   ·rw[CE ⟨a,b⟩,CE ⟨a,ω⟩];decide
   rw[CC (λe=>a e.1),CC (λe=>a e.1)];exact q j b
  rw[bB];by_cases a:f.toNat=j
  ·rw[CE ⟨a,b⟩]
   have:(j:Int)=f:=ω
   rw[this];exact(X0 λr=>absurd c (Nat.ne_of_gt r)).symm
  rw[CC (λe=>a e.1)];exact h j b ω
 rename_i c;rw[aC];refine⟨h1,d,g,λj b=>?_,i⟩;by_cases a:(j:Int)=f
 ·rw[a,show j=f.toNat by omega,l]
  exact(O0 (Nat.pos_of_ne_zero c)).symm
 exact h j b a
def tEq(t a:aM):Prop:=a.K.length=t.K.length/\∀q:Nat,((nth a.K q).j≠0↔(nth t.K q).j≠0)/\(nth a.K q).e=(nth t.K q).e
def tEq.refl(t:aM):tEq t t:=⟨rfl,λ_=>⟨Iff.rfl,rfl⟩⟩
def tEq.of{t a:aM}(h:a=t):tEq t a:=by rw[h];exact tEq.refl t
def tEq.pagesOn{t a:aM}(h:tEq t a)(f:Int):Ab.pagesOn a f=Ab.pagesOn t f:=by
 unfold Ab.pagesOn lh;rw[h.1]
 congr 1
 refine List.filter_congr λq _=>?_
 obtain⟨b,c⟩:=h.2 q;unfold QS;rw[c];exact decide_eq_decide.2 (and_congr b Iff.rfl)
def Fe(h:aD k=true){a:aM}(c:tEq k.G.Q a)(i:∀q,q<a.K.length->0<=(nth a.K q).j/\(nth a.K q).j<=2):aD {k with G:=⟨k.G.W,a⟩} = true:=by
 obtain⟨l,n,o,p,r⟩:=aC.1 h;obtain⟨t,u,w⟩:=bo.1 o;rw[aC];refine⟨l,n,bo.2 ⟨λj b=>?_,?_,?_⟩,λj b=>?_,r⟩
 ·replace b:j<a.K.length:=b
  have e:=t j (by rw[<-c.1];exact b);have d:=i j b;obtain⟨g,y⟩:=c.2 j;show lD _ (nth a.K j)=true;unfold lD at e |-;rw[C0]at e |-;rw[y];refine⟨d.1,d.2,λf=>e.2.2.1 (Classical.byContradiction λA=>(g.2 A) f),λf=>e.2.2.2 (g.1 f)⟩
 ·show 1<=a.K.length;rw[c.1];exact u
 ·show a.K.length<=32;rw[c.1];exact w
 show nth k.G.W.a1 j=decide (0<(Ab.pagesOn a (j:Int)).length);rw[c.pagesOn];exact p j b
def nU(h:aD k=true)(f:k.Calls≠100000):aD (cu k)=true:=by
 obtain⟨a,b,c,d,g,i,e⟩:=aC.1 h;rw[aC];exact⟨a,b,c,d,by show 0<=k.Calls+1;omega,by show k.Calls+1<=100000;omega,e⟩
variable{p m:Int}
def wn(a:(nth k.G.Q.K p.toNat).j≠0)(b:m=1\/m=2):tEq k.G.Q (kb k p m).G.Q:=by
 refine⟨by simp[kb],λq=>?_⟩;simp only[kb,bB];split
 ·rename_i e
  rw[<-e.1];exact⟨⟨λ_=>a,λ_=>by show m≠0;omega⟩,rfl⟩
 exact⟨Iff.rfl,rfl⟩
def QR(h:aD k=true)(d:(nth k.G.Q.K p.toNat).j≠0)(a:m=1\/m=2):aD (kb k p m)=true:=by
 refine Fe h (wn d a) λq e=>?_
 obtain⟨i,j,f,l,n⟩:=aC.1 h;obtain⟨g,o,r⟩:=bo.1 f;have c:q<k.G.Q.K.length:=by rw[<-(wn d a).1];exact e
 have b:=g q c;unfold lD at b;rw[C0]at b;simp only[bB];split
 ·show 0<=m/\m<=2;omega
 exact⟨b.1,b.2.1⟩
def Hs(h:aD k=true)(c:k.Calls≠100000)(b:(af k.G.Q p).j≠0)(a:m=1\/m=2):aD (fI k p m).1=true/\tEq k.G.Q (fI k p m).1.G.Q:=by
 obtain⟨e,f,d,-⟩:=bK h b;rw[d]at b;unfold fI;split
 ·exact⟨nU h c,tEq.refl _⟩
 exact⟨QR (nU h c) b a,wn (k:=cu k) b a⟩
def gM(h:aD k=true)(b:(af k.G.Q p).j≠0):bF k p<k.G.W.T.length/\nth k.G.W.a1 (bF k p)=true/\((bF k p:Nat):Int)=(nth k.G.Q.K p.toNat).e:=by
 obtain⟨f,g,a,i,j⟩:=bK h b;obtain⟨l,d,n,e,o⟩:=aC.1 h;obtain⟨q,r,t,u⟩:=aZ.1 d;have c:((bF k p:Nat):Int)=(af k.G.Q p).e:=by unfold bF;omega
 refine⟨ω,?_,by rw[c,a]⟩;rw[e _ ω,c];refine O0 (du.2 ⟨p.toNat,ω,?_,?_⟩)
 ·rw[<-a];exact b
 rw[<-a]
def Q8(h:aD k=true){a:List Int}(c:a.length=16)(d:∀v∈a,0<=v/\v<=999)(g:nth k.G.W.a1 f=true):aD {k with G:=⟨⟨k.G.W.T.set f a,k.G.W.a1⟩,k.G.Q⟩} = true:=by
 obtain⟨i,l,n,o,p⟩:=aC.1 h;obtain⟨q,r,t,u⟩:=aZ.1 l;refine aC.2 ⟨i,aZ.2 ⟨?_,?_,?_,λj b=>?_⟩,n,o,p⟩
 ·simp only[I2];exact q
 ·simp only[I2];exact r
 ·simp only[I2];exact t
 simp only[I2]at b |-;simp only[bB];split
 ·rename_i e
  obtain⟨rfl,-⟩:=e;unfold iB;simp only[I0,C0,v5];refine⟨c,λv w=>?_⟩;have:=d v w;unfold jx;simp[g,this]
 exact u j b
def vH(h:aD k=true)(b:f<k.G.W.T.length):(nth k.G.W.T f).length=16/\∀v∈nth k.G.W.T f,0<=v/\v<=999:=by
 obtain⟨g,c,i,j,l⟩:=aC.1 h;obtain⟨n,o,p,d⟩:=aZ.1 c;have a:=d f b;unfold iB at a;simp only[I0,C0,v5]at a;refine⟨a.1,λv e=>?_⟩;have:=a.2 v e;unfold jx at this;simp only[I0,C0]at this;exact this.1
def sN(h:aD k=true)(b:f<k.G.W.T.length)(d:nth k.G.W.a1 f=true){c v:Int}(e:0<=v/\v<=999):aD (setCell k f c v)=true:=by
 obtain⟨g,i⟩:=vH h b;refine Q8 h (by rw[I2];exact g) (λz a=>?_) d;rcases Z8 a with a|rfl
 ·exact i z a
 exact e
def Te(h:aD k=true){c:Int}(d:(af k.G.Q a).j≠0)(e:(af k.G.Q b).j≠0)(l:0<=c/\c<=15):aD (pQ k a b c)=true:=by
 obtain⟨f,n,-⟩:=gM h d;obtain⟨g,i,-⟩:=gM h e;obtain⟨o,j⟩:=vH h f;exact sN h g i (j _ (au ω))
def RI{o:Int}(h:aD k=true)(u:k.Calls≠100000)(i:(af k.G.Q p).j≠0)(d:(af k.G.Q o).j≠0)(w:p≠o):aD (sJ k p o).1=true:=by
 unfold sJ;split
 ·exact nU h u
 obtain⟨O,y,A⟩:=gM h i;obtain⟨P,Q,R⟩:=gM h d;obtain⟨S,T,B,r,t⟩:=bK h i;obtain⟨U,V,C,D,E⟩:=bK h d;obtain⟨F,G,H,J,W,X,K⟩:=aC.1 h;obtain⟨L,M,N⟩:=bo.1 H;rw[C]at D E d;rw[B]at r t i;have a:∀q,nth (k.G.Q.K.set p.toNat ⟨2,(nth k.G.Q.K o.toNat).e⟩) q=if p.toNat=q then⟨2,(nth k.G.Q.K o.toNat).e⟩ else nth k.G.Q.K q:=λq=>by
  rw[bB];by_cases f:p.toNat=q
  ·rw[CE ⟨f,ω⟩,CE f]
  rw[CC (λe=>f e.1),CC f]
 refine QH F G (bo.2 ⟨λj c=>?_,?_,?_⟩) (λj c l=>?_) ⟨r,t⟩ (by rw[<-A];exact y) ⟨by show 0<=k.Calls+1;omega,by show k.Calls+1<=100000;omega,K⟩
 ·simp only[vG,cu,I2]at c |-
  rw[a];split
  ·unfold lD;rw[C0];simp only;omega
  exact L j c
 ·simp only[vG,cu,I2];exact M
 ·simp only[vG,cu,I2];exact N
 replace c:j<k.G.W.a1.length:=c;show nth k.G.W.a1 j=_;rw[J j c];refine decide_eq_decide.2 ?_;rw[du,du];simp only[vG,cu,I2,a];constructor
 ·rintro⟨q,n,g,b⟩
  refine⟨q,n,?_⟩;rw[CC (λe=>l (by rw[<-b,<-e]))];exact⟨g,b⟩
 rintro⟨q,n,g,b⟩
 by_cases e:p.toNat=q
 ·rw[CE e]at b
  exact⟨o.toNat,ω,d,b⟩
 rw[CC e]at g b;exact⟨q,n,g,b⟩
def ER{o:Int}(h:aD k=true)(b:(af k.G.Q p).j≠0)(a:(sJ k p o).2=true)(q:Nat):(sJ k p o).1.G.Q.K.length=k.G.Q.K.length/\nth (sJ k p o).1.G.Q.K q=if(q:Int)=p then⟨2,(nth k.G.Q.K o.toNat).e⟩ else nth k.G.Q.K q:=by
 obtain⟨d,f,-⟩:=bK h b;unfold sJ at a |-;split at a
 ·cases a
 rename_i c;rw[CC c];simp only[(oq _ _).1];simp only[vG,cu,I2,bB];refine⟨trivial,?_⟩;by_cases e:(q:Int)=p
 ·rw[CE ⟨ω,ω⟩,CE e]
 rw[CC λz=>e ω,CC e]
def KM{o:Int}(a:(sJ k p o).2=false):(sJ k p o).1=cu k:=by
 unfold sJ at a |-;split
 ·rfl
 rename_i b;rw[CC b]at a;cases a
def Pi{v:Int}(h:aD k=true)(g:0<=a)(b:0<=v/\v<=999):aD {k with G:=(gg k.G a v).1} = true/\(gg k.G a v).1.Q=k.G.Q:=by
 unfold gg;split
 ·exact⟨h,rfl⟩
 rename_i d;split
 ·exact⟨h,rfl⟩
 obtain⟨e,f,-⟩:=gM h d;exact⟨sN h e f (c:=a % 16) b,rfl⟩
def pV(t:aM)(p:Int):Prop:=∀q:Nat,(nth t.K q).j≠0->(nth t.K q).e=(nth t.K p.toNat).e->(q:Int)=p
structure JI(h:ac):Prop where
 ph:h.q=true->0<=h.Y.b0/\h.Y.b0<=3
 sp:h.q=true->∃a∈h.J,∃b∈h.J,a.R=h.Y.X.a3/\b.R=h.Y.X.a0/\meshable a b=true
 sk:h.q=true->pV (tbl h) h.Y.X.a3
 sm:h.q=true->pV (tbl h) h.Y.X.a0
def pV.tEq{t a:aM}{p:Int}(h:pV t p)(b:tEq t a):pV a p:=λq c d=>by
 obtain⟨e,f⟩:=b.2 q;exact h q (e.1 c) (by rw[<-f,<-(b.2 p.toNat).2];exact d)
theorem Pg.tEq{t b:aM}{c:List aB}{sp:List aA}{la:List aE}(h:Pg t c sp la)(a:tEq t b):Pg b c sp la where
 one l hl p hp q hq h1 h2:=h.one l hl p hp q (by rw[<-a.1];exact hq) ((a.2 q).1.1 h1) (by rw[<-(a.2 q).2,<-(a.2 p).2];exact h2)
 bnd p hp:=by rw[a.1];exact h.bnd p hp
 own p hp:=(a.2 p).1.trans (h.own p (by rw[<-a.1];exact hp))
 fre p hp:=(a.2 p).1.trans (h.fre p (by rw[<-a.1];exact hp))
 mesh s hs u hu hne hf:=h.mesh s hs u hu hne (by rw[<-(a.2 _).2,<-(a.2 u.R.toNat).2];exact hf)
def bc.step(a:bc h E)(b:aD k=true)(c:k.G.Q.K.length=(tbl h).K.length)(d:Pg k.G.Q h.o h.J h.M){j:cz}{m:Bool}(h1:m=true->jX j=true/\(∃s∈h.J,s.R=j.X.a3)/\∃s∈h.J,s.R=j.X.a0)(e:m=false->rZ j=true):bc {h with F:=k,q:=m,Y:=j} E:=
 {a with
   ker:=b
   rng:=by show bG ((k.G.Q.K.length:Nat):Int) h.o=true;rw[c];exact a.rng
   pg:=d
   job:=h1
   noj:=e}
variable{la:List aE}{sp:List aA}
def pT.apart(b:pT sp la)(c:s∈sp){l:aE}(d:l∈la)(a:p∈lpgs l l.a4.toNat):s.R≠p:=by
 unfold lpgs at a;simp only[O5,List.mem_range]at a;obtain⟨k,e,rfl⟩:=a;exact b.dis s c l d k e
def Pg.on{t H:aM}{Q:List aB}(h:Pg t Q sp la)(r:pT sp la){a b:aA}(w:a∈sp)(L:b∈sp)(R:meshable a b=true)(A:pV t a.R)(M:(nth t.K a.R.toNat).j≠0)(N:(nth t.K b.R.toNat).j≠0)(U:0<=b.R)(J:H.K.length=t.K.length)(B:∀q:Nat,nth H.K q=if(q:Int)=b.R then⟨2,(nth t.K a.R.toNat).e⟩ else nth t.K q):Pg H Q sp la:=by
 have c:∀q:Nat,(nth H.K q).j≠0↔(nth t.K q).j≠0:=λq=>by
  rw[B];split
  ·rename_i e
   rw[show q=b.R.toNat by omega];exact⟨λ_=>N,λ_=>by show(2:Int)≠0;omega⟩
  rfl
 have V:0<=a.R:=by have:=r.sok a w;unfold bh at this;rw[C0]at this;omega
 refine⟨λl k p g q W S C=>?_,λp g=>by rw[J];exact h.bnd p g,λp g=>(c p).trans (h.own p (by rw[<-J];exact g)),λp g=>(c p).trans (h.fre p (by rw[<-J];exact g)),λs D u E F n=>?_⟩
 ·have O:¬(p:Int)=b.R:=λe=>r.apart L k g e.symm
  rw[B p,CC O,B q]at C;rw[c]at S;by_cases e:(q:Int)=b.R
  ·rw[CE e]at C
   have T:=h.one l k p g a.R.toNat (by have:=h.bnd _ (dO (la:=la) w);omega) M C;exact absurd (show a.R=(p:Int) by omega) (r.apart w k g)
  rw[CC e]at C;exact h.one l k p g q (by rw[<-J];exact W) S C
 have X:0<=s.R:=by have:=r.sok s D;unfold bh at this;rw[C0]at this;omega
 have Y:0<=u.R:=by have:=r.sok u E;unfold bh at this;rw[C0]at this;omega
 have d:∀x∈sp,∀y∈sp,x.R=y.R->x=y:=λx G y Z e=>by
  obtain⟨i,hi,rfl⟩:=aR G;obtain⟨j,hj,rfl⟩:=aR Z;rw[cX (f:=(·.R)) r.nd hi hj e]
 have o:∀x∈sp,(nth t.K x.R.toNat).j≠0:=λx G=>by
  have hx0:0<=x.R:=by have:=r.sok x G;unfold bh at this;rw[C0]at this;omega
  refine(h.own x.R.toNat (by have:=h.bnd _ (dO (la:=la) G);omega)).2 ?_;rw[show((x.R.toNat:Nat):Int)=x.R by omega];exact dO G
 rw[B,B]at n;simp only[show((s.R.toNat:Nat):Int)=s.R by omega,show((u.R.toNat:Nat):Int)=u.R by omega]at n;by_cases K:s.R=b.R
 ·rw[CE K,CC (λe=>F (K.trans e.symm))]at n
  have T:=A u.R.toNat (o u E) n.symm;rw[d s D b L K,d u E a w ω,iH];exact R
 rw[CC K]at n;by_cases P:u.R=b.R
 ·rw[CE P]at n
  have T:=A s.R.toNat (o s D) n;rw[d u E b L P,d s D a w ω];exact R
 rw[CC P]at n;exact h.mesh s D u E F n
def over(j:cz):Bool:=decide (j.b0=4\/j.b0=5)
def eE(k:ah)(j:cz):ah × cz:=if jmay k j=true then jstep k j else(k,j)
def mStep(h:ac):ac:={h with F:=(eE h.F h.Y).1,q:=if over (eE h.F h.Y).2=true then false else h.q,Y:=if over (eE h.F h.Y).2=true then⟨⟨0,0,[]⟩,0,0⟩ else(eE h.F h.Y).2}
def m9(h:ac):Bool:=decide ((eE h.F h.Y).2.b0=4)
def cW{j:cz} : jX j=true↔fk j.X=true/\0<=j.b0/\j.b0<=5/\0<=j.b/\j.b<=j.X.T.length:=by
 unfold jX;simp only[I0,C0]
def fU{p:cn}(h:fk p=true)(a:i<p.T.length):0<=nth p.T i/\nth p.T i<=15:=by
 unfold fk at h;simp only[I0]at h;have:=fG h.1 a;unfold nv at this;rw[C0]at this;exact⟨this.1,this.2.1⟩
structure JS(h:ac)(k:ah)(j:cz):Prop where
 ker:aD k=true
 len:k.G.Q.K.length=(tbl h).K.length
 pg:j.b0≠4\/JI h->Pg k.G.Q h.o h.J h.M
 ph:0<=j.b0/\j.b0<=5
 plan:j.X=h.Y.X
 nxt:0<=j.b/\j.b<=j.X.T.length
 eq:j.b0≠4->tEq (tbl h) k.G.Q
 calls:h.F.Calls<=k.Calls/\k.Calls<=h.F.Calls+1/\k.u=h.F.u
def zi(k:ah)(p m:Int):(fI k p m).1.Calls=k.Calls+1/\(fI k p m).1.u=k.u:=by
 unfold fI;split<;>exact⟨rfl,rfl⟩
def QO(k:ah)(p o:Int):(sJ k p o).1.Calls=k.Calls+1/\(sJ k p o).1.u=k.u:=by
 unfold sJ;split
 ·exact⟨rfl,rfl⟩
 obtain⟨-,a,b,-⟩:=oq (vG (cu k) p.toNat ⟨2,(nth k.G.Q.K o.toNat).e⟩) (nth k.G.Q.K p.toNat).e;simp only[a,b];exact⟨rfl,rfl⟩
def JS.of(c:bc h E)(B:h.q=true):JS h (eE h.F h.Y).1 (eE h.F h.Y).2:=by
 obtain⟨R,-,-⟩:=c.job B;obtain⟨O,y,A,o,p⟩:=cW.1 R;unfold eE;split
 case isFalse=>exact⟨c.ker,rfl,λ_=>c.pg,⟨y,A⟩,rfl,⟨o,p⟩,λ_=>tEq.refl _,Y6 _,by show h.F.Calls<=h.F.Calls+1;omega,rfl⟩
 rename_i d;unfold jmay at d;simp only[I0,C0]at d;obtain⟨⟨-,C⟩,-,u,r,D⟩:=d;have fin:∀(k:ah)(j:cz),aD k=true->tEq (tbl h) k.G.Q->0<=j.b0/\j.b0<=5->j.X=h.Y.X->0<=j.b/\j.b<=j.X.T.length->h.F.Calls<=k.Calls/\k.Calls<=h.F.Calls+1/\k.u=h.F.u->JS h k j:=
  λk j S F T U V W=>⟨S,F.1,λ_=>c.pg.tEq F,T,U,V,λ_=>F,W⟩
 have P:=(aC.1 c.ker).2.2.2.2;unfold jstep;split
 ·obtain⟨l,w⟩:=Hs c.ker C r (m:=1) (.inl rfl)
  obtain⟨g,t⟩:=zi h.F h.Y.X.a0 1;refine fin _ _ l w ?_ rfl ⟨o,p⟩ ⟨by rw[g];omega,by rw[g];omega,t⟩;show 0<=(if _ then _ else _:Int)/\(if _ then _ else _:Int)<=5;split<;>omega
 split
 ·split
  ·exact fin _ _ c.ker (tEq.refl _) ⟨by show(0:Int)<=2;omega,by show(2:Int)<=5;omega⟩ rfl ⟨o,p⟩ ⟨Y6 _,by show h.F.Calls<=h.F.Calls+1;omega,rfl⟩
  have n:=fU O (i:=h.Y.b.toNat) ω;refine fin _ _ (Te c.ker r u n) (tEq.refl _) ⟨y,A⟩ rfl ⟨by show 0<=h.Y.b+1;omega,by show h.Y.b+1<=h.Y.X.T.length;omega⟩ ⟨Y6 _,by show h.F.Calls<=h.F.Calls+1;omega,rfl⟩
 split
 ·have G:h.Y.X.a0≠h.Y.X.a3:=λe=>D (by rw[e])
  have l:=RI c.ker C r u G;obtain⟨g,t⟩:=QO h.F h.Y.X.a0 h.Y.X.a3;cases e:(sJ h.F h.Y.X.a0 h.Y.X.a3).2 with
  | false=>
   rw[CC (by simp)];refine fin _ _ l (tEq.of ?_) ⟨by show(0:Int)<=3;omega,by show(3:Int)<=5;omega⟩ rfl ⟨o,p⟩ ⟨by rw[g];omega,by rw[g];omega,t⟩;rw[KM e];rfl
  | true=>
   rw[CE rfl];obtain⟨X,m2,Y,-⟩:=bK c.ker r;obtain⟨n1,n2,Z,-⟩:=bK c.ker u;have f:=ER c.ker r e;refine⟨l,(f 0).1,λH=>?_,⟨by show(0:Int)<=4;omega,by show(4:Int)<=5;omega⟩,rfl,⟨o,p⟩,λJ=>absurd rfl J,by rw[g];omega,by rw[g];omega,t⟩;have Q:JI h:=H.elim (λJ=>absurd rfl J) id;obtain⟨a,ha,b,hb,K,M,N⟩:=Q.sp B;refine c.pg.on c.L ha hb N (by rw[K];exact Q.sk B) (by rw[K];show(nth h.F.G.Q.K _).j≠0;rw[<-Z];exact u) (by rw[M];show(nth h.F.G.Q.K _).j≠0;rw[<-Y];exact r) (by rw[M];exact X) (f 0).1 λq=>?_
   rw[(f q).2,M,K];rfl
 split
 ·split
  ·rename_i hn0
   have n:=fU O (i:=(h.Y.b - 1).toNat) ω;have hk0:=(bK c.ker u).1;obtain⟨l,w⟩:=Pi c.ker (a:=h.Y.X.a3*16+nth h.Y.X.T (h.Y.b - 1).toNat) (v:=0) ω ⟨ω,ω⟩;exact fin _ _ l (tEq.of w) ⟨y,A⟩ rfl ⟨by show 0<=h.Y.b - 1;omega,by show h.Y.b - 1<=h.Y.X.T.length;omega⟩ ⟨Y6 _,by show h.F.Calls<=h.F.Calls+1;omega,rfl⟩
  obtain⟨l,w⟩:=Hs c.ker C r (m:=2) (.inr rfl);obtain⟨g,t⟩:=zi h.F h.Y.X.a0 2;refine fin _ _ l w ?_ rfl ⟨o,p⟩ ⟨by rw[g];omega,by rw[g];omega,t⟩;show 0<=(if _ then _ else _:Int)/\(if _ then _ else _:Int)<=5;split<;>omega
 exact fin _ _ c.ker (tEq.refl _) ⟨y,A⟩ rfl ⟨o,p⟩ ⟨Y6 _,by show h.F.Calls<=h.F.Calls+1;omega,rfl⟩
def bc.mStep{h:ac}{E:List Int}(d:bc h E)(f:JI h)(c:h.q=true):bc (mStep h) E/\JI (mStep h):=by
 have s:=JS.of d c;unfold Ab.mStep;generalize (eE h.F h.Y).1=k at s |-;generalize (eE h.F h.Y).2=j at s |-;cases e:over j with
 | true=>
  refine⟨d.step s.ker s.len (s.pg (.inr f)) (λh=>by simp at h) (λ_=>by simp[rZ]),?_⟩;exact⟨λh=>by simp at h,λh=>by simp at h,λh=>by simp at h,λh=>by simp at h⟩
 | false=>
  simp only[Bool.false_eq_true,if_false];unfold over at e;simp only[C6,not_or]at e;have g:=s.eq e.1;have i:=s.ph;refine⟨d.step s.ker s.len (s.pg (.inr f)) (λ_=>⟨cW.2 ⟨by rw[s.plan];exact(cW.1 (d.job c).1).1,s.ph.1,s.ph.2,s.nxt⟩,by rw[s.plan];exact(d.job c).2⟩) (λh=>by rw[c]at h;cases h),?_⟩;refine⟨λ_=>⟨s.ph.1,by show j.b0<=3;omega⟩,λ_=>?_,λ_=>?_,λ_=>?_⟩
  ·show ∃a∈h.J,∃b∈h.J,a.R=j.X.a3/\b.R=j.X.a0/\meshable a b=true
   rw[s.plan];exact f.sp c
  ·show pV k.G.Q j.X.a3
   rw[s.plan];exact(f.sk c).tEq g
  show pV k.G.Q j.X.a0;rw[s.plan];exact(f.sm c).tEq g
def fQ(k:ah)(a:Int):Int:=nth (nth k.G.W.T (af k.G.Q (a / 16)).e.toNat) (a % 16).toNat
def cellsOf(k:ah)(a:Int)(n:Nat):List Int:=(List.range n).map λ(i:Nat)=>fQ k (a+i)
def lc(k:ah)(a:Int)(n:Nat):(cellsOf k a n).length=n:=by simp[cellsOf]
def Fr(k:ah)(a:Int)(n:Nat):cellsOf k a (n+1)=cellsOf k a n++[fQ k (a+n)]:=by
 unfold cellsOf;rw[List.range_succ,Z7];rfl
def RT(b:aD k=true)(p:Int):0<=(af k.G.Q p).e/\(af k.G.Q p).e<k.G.W.T.length:=by
 obtain⟨-,c,d,-⟩:=aC.1 b;obtain⟨e,f,g,h⟩:=aZ.1 c;unfold af;split
 ·rename_i i
  have:=(bo.1 d).1 p.toNat ω;unfold lD at this;rw[C0]at this;by_cases a:(nth k.G.Q.K p.toNat).j=0
  ·have:=this.2.2.1 a;omega
  have:=this.2.2.2 a;omega
 simp only;omega
def VF(a:aD k=true)(b:j<k.G.W.T.length):(nth k.G.W.T j).length=16/\∀i,i<16->0<=nth (nth k.G.W.T j) i/\nth (nth k.G.W.T j) i<=999:=by
 obtain⟨-,c,-⟩:=aC.1 a;obtain⟨e,f,g,d⟩:=aZ.1 c;have:=d j b;unfold iB at this;rw[I0,C0,v5]at this;refine⟨this.1,λi l=>?_⟩;have h:=this.2 _ (au (xs:=nth k.G.W.T j) (i:=i) ω);unfold jx at h;rw[I0,C0]at h;exact h.1
def FC(h:ac)(a n:Int)(b:aD h.F=true)(q:0<=a/\a<=1000000)(r:n<=1000000) :
  zzA 90 false [.val (some 24) (ac.enc .U h),.val none [I a],.val none [I n]] .one (aH .own (cellsOf h.F a n.toNat)):=by
 have c:=bk b;refine fO 44 [] Tryz.func90 rfl ?_ (.inr (bO _))
 refine ZP ?_
 refine CK (ι:=Nat) (λi=>[(1,.H .one [I (a)]),(2,.H .one [I (n)]),(3,.H .box (ac.enc .U h)),(7,.H .one (aH .own (cellsOf h.F a i))),(8,.H .one [I ((i:Nat):Int)])]) (λi=>i<=n.toNat) (λi=>n.toNat - i) (0) ?_ (Z0 _) λi t=>?_
 ·exact wB
 have d:=lc h.F a i;by_cases u:i<n.toNat
 ·obtain⟨e,w⟩:=RT b ((a+i) / 16)
  have g:=ar (xs:=h.F.G.W.T) (i:=(af h.F.G.Q ((a+i) / 16)).e.toNat) ω;have k:=(VF b (j:=(af h.F.G.Q ((a+i) / 16)).e.toNat) ω).1;have l:=ar (xs:=nth h.F.G.W.T (af h.F.G.Q ((a+i) / 16)).e.toNat) (i:=((a+i) % 16).toNat) ω;have o:IntKind.i64.wrap ((a+(i:Int)).tdiv 16)=(a+i) / 16:=by rw[mj ω];exact fJ ω ω
  have p:(a+(i:Int)).tmod 16=(a+i) % 16:=eK ω
  repeat'(first|refine gE ?_|refine CQ (by decide) ?_|refine CP o ?_|refine CU p ?_|refine CB (dR h.F.G.Q _ c.1.2) ?_|refine CO e (aa g) ?_|refine CO ω (aa l) ?_|refine Ap.sn cC rfl (by simp;omega) (by decide) rfl ?_)
  refine CG (i+1) ω ω ?_;rw[Fr]
  (repeat'(first|exact trivial|rfl|exact CN rfl (CN (C1 (C.s dX.own) (by simp[rI,fQ])) trivial)|refine CN ?_ ?_))
 refine ZE ?_
 obtain rfl:i=n.toNat:=ω
 rfl
def Fx(h:(denotes sp la a).b6=1):∃i:Nat,i<sp.length/\(denotes sp la a).c1=i/\dq (nth sp i) a=true/\denotes sp la a=pu i (nth sp i) a:=by
 unfold denotes at h |-;cases e:sp.findIdx? (dq · a) with
 | some i=>
  obtain⟨b,d,-⟩:=I9.1 e;refine⟨i,b,rfl,?_,rfl⟩;rw[bq (C3 b)];exact d
 | none=>
  rw[e]at h;simp only at h;cases c:la.findIdx? (bM · a) with
  | some i=>rw[c]at h;simp at h
  | none=>rw[c]at h;simp at h
def HT(h:(denotes sp la a).b6=3):∃i:Nat,i<la.length/\(denotes sp la a).c1=i/\bM (nth la i) a=true/\denotes sp la a = ⟨3,i,0,a - 16*(nth la i).R⟩:=by
 unfold denotes at h |-;cases e:sp.findIdx? (dq · a) with
 | some i=>
  rw[e]at h;simp only[pu]at h;split at h<;>simp at h
 | none=>
  rw[e]at h;simp only at h |-;cases b:la.findIdx? (bM · a) with
  | some i=>
   obtain⟨c,d,-⟩:=I9.1 b;refine⟨i,c,rfl,?_,rfl⟩;rw[bq (C3 c)];exact d
  | none=>rw[b]at h;simp at h
def jq{n:Int}(h:0<=aL n):1<=n/\n<=8:=by
 unfold aL at h;split at h
 ·omega
 split at h
 ·omega
 split at h
 ·omega
 split at h
 ·omega
 split at h<;>omega
def TG{o:bu}(c:jM h o=true):0<=o.Addr/\o.Addr<=2000/\1<=o.y/\o.y<=1000:=by
 unfold jM at c;simp only[I0,X8,C0]at c;obtain⟨-,⟨d,e⟩|⟨d,e⟩⟩:=c
 ·obtain⟨i,f,a,b,-⟩:=Fx d
  rw[a,Y3]at e;unfold dq bh at b;simp only[I0,C0]at b;have:=jq (n:=o.y) ω;omega
 obtain⟨i,f,a,b,-⟩:=HT d;rw[a,Y3]at e;unfold bM bR at b;simp only[I0,C0]at b;omega
def yg(a:dh h=true):cx h=true/\gH h=true:=by
 unfold dh at a;simp only[I0]at a;exact⟨a.1.1.2,a.1.2.1⟩
def TB(a:dh h=true):1<=h.b/\h.b<=1000000:=by
 have:=(yg a).1;unfold cx at this;rw[C0]at this;omega
def Fu(c:dh h=true)(f:i<h.O.length):1<=(nth h.O i).Id/\(nth h.O i).Id<h.b/\0<=(nth h.O i).Addr/\(nth h.O i).Addr<=2000/\1<=(nth h.O i).y/\(nth h.O i).y<=1000/\∀j,j<i->(nth h.O j).Id≠(nth h.O i).Id:=by
 obtain⟨-,g⟩:=yg c;obtain⟨o,p⟩:=TB c;have a:=fG g f;rw[fJ ω ω]at a;unfold objAt iI at a;simp only[I0,C0,Bool.not_eq_true']at a;obtain⟨⟨k,d⟩,l⟩:=a;have b:=TG l;refine⟨k.2.1,ω,b.1,b.2.1,b.2.2.1,b.2.2.2,λj n e=>?_⟩;rw[List.any_eq_false]at d;refine d (nth h.O j) ?_ (by unfold fL;exact O0 e);have:(h.O.take i)[j]? = some (nth h.O j):=by rw[List.getElem?_take,CE n,ar ω]
 exact Z2 this
def Vg(a:dh h=true)(c:i<h.O.length)(d:j<h.O.length)(f:i≠j):(nth h.O i).Id≠(nth h.O j).Id:=by
 rcases Nat.lt_or_ge i j with b|b
 ·exact(Fu a d).2.2.2.2.2.2 i b
 exact λe=>(Fu a c).2.2.2.2.2.2 j ω e.symm
def WN{α:Type}[Inhabited α](f:α->Int)(xs:List α):Nat->Int
 | 0=>0
 | i+1=>WN f xs i+f (nth xs i)
def bor(n m:Int):Int:=((n.toNat ||| m.toNat:Nat):Int)
def qE(sp:List aA)(p:Int)(b:Int):Nat->Int
 | 0=>b
 | j+1=>if(nth sp j).R=p then bor (qE sp p b j) (nth sp j).a9 else qE sp p b j
def iV(sp:List aA)(ps:List Int)(b:Int):Nat->Int
 | 0=>b
 | k+1=>qE sp (nth ps k) (iV sp ps b k) sp.length
def eB(h:ac)(i:Nat):Int:=iV h.J (aX h (nth h.J i).R) (nth h.J i).a9 (aX h (nth h.J i).R).length
def Ko{n:Int}(h1:0<=n/\n<=65535)(a:0<=m/\m<=65535):0<=bor n m/\bor n m<=65535:=by
 have b:n.toNat ||| m.toNat<2 ^ 16:=Nat.or_lt_two_pow ω ω
 unfold bor;omega
def nj(h:∀s∈sp,bh s=true)(b:j<sp.length):0<=(nth sp j).a9/\(nth sp j).a9<=65535:=by
 have a:=h _ (au b);have c:=K9 (nth sp j).d;unfold bh at a;rw[C0]at a;omega
def ya{sp:List aA}(h:∀s∈sp,bh s=true){p b:Int}(a:0<=b/\b<=65535):∀j,j<=sp.length->0<=qE sp p b j/\qE sp p b j<=65535
 | 0,_=>a
 | j+1,d=>by
  have c:=ya h (p:=p) a j ω;simp only[qE];split
  ·exact Ko c (nj h ω)
  exact c
def mE{sp:List aA}(h:∀s∈sp,bh s=true){ps:List Int}{b:Int}(a:0<=b/\b<=65535):∀k,0<=iV sp ps b k/\iV sp ps b k<=65535
 | 0=>a
 | k+1=>by simp only[iV];exact ya h (mE h a k) _ (v4 _)
def o8{i:Int}(a:0<=b)(c:0<=i/\i<=15):bf b i=b.toNat.testBit i.toNat:=by
 unfold bf;rw[Nat.testBit_eq_decide_div_mod_eq];refine decide_eq_decide.2 ?_;obtain⟨n,rfl⟩ : ∃n:Nat,b=n:=⟨b.toNat,ω⟩
 rw[Y3];have d:((n / 2 ^ i.toNat:Nat):Int)=(n:Int) / 2 ^ i.toNat:=by simp
 omega
def Km{n i:Int}(b:0<=n)(c:0<=m)(a:0<=i/\i<=15):bf (bor n m) i=(bf n i || bf m i):=by
 rw[o8 (by unfold bor;omega) a,o8 b a,o8 c a];unfold bor;rw[Y3,Nat.testBit_or]
def Jg{sp:List aA}(h:∀s∈sp,bh s=true){p b i:Int}(k:0<=b/\b<=65535)(l:0<=i/\i<=15):∀j,j<=sp.length->(bf (qE sp p b j) i=true↔bf b i=true\/∃q,q<j/\(nth sp q).R=p/\bf (nth sp q).a9 i=true)
 | 0,_=>by simp[qE]
 | j+1,t=>by
  have n:=Jg h (p:=p) k l j ω;have o:=ya h (p:=p) k j ω;have r:=nj h (j:=j) ω;simp only[qE];split
  ·rename_i d
   rw[Km o.1 r.1 l,X8,n];constructor
   ·rintro((e|⟨q,f,a⟩)|e)
    ·exact .inl e
    ·exact .inr ⟨q,ω,a⟩
    exact .inr ⟨j,ω,d,e⟩
   rintro(e|⟨q,f,a,c⟩)
   ·exact .inl (.inl e)
   by_cases g:q=j
   ·subst g;exact .inr c
   exact .inl (.inr ⟨q,ω,a,c⟩)
  rename_i d;rw[n];constructor
  ·rintro(e|⟨q,f,a⟩)
   ·exact .inl e
   exact .inr ⟨q,ω,a⟩
  rintro(e|⟨q,f,a,c⟩)
  ·exact .inl e
  by_cases g:q=j
  ·subst g;exact absurd a d
  exact .inr ⟨q,ω,a,c⟩
def Dq{sp:List aA}(h:∀s∈sp,bh s=true){ps:List Int}{b i:Int}(d:0<=b/\b<=65535)(f:0<=i/\i<=15):∀k,(bf (iV sp ps b k) i=true↔bf b i=true\/∃u,u<k/\∃q,q<sp.length/\(nth sp q).R=nth ps u/\bf (nth sp q).a9 i=true)
 | 0=>by simp[iV]
 | k+1=>by
  have g:=Dq h (ps:=ps) d f k;have j:=mE h (ps:=ps) d k;simp only[iV];rw[Jg h j f _ (v4 _),g];constructor
  ·rintro((e|⟨u,c,a⟩)|⟨q,c,a⟩)
   ·exact .inl e
   ·exact .inr ⟨u,ω,a⟩
   exact .inr ⟨k,ω,q,c,a⟩
  rintro(e|⟨u,c,a⟩)
  ·exact .inl (.inl e)
  by_cases l:u=k
  ·subst l;exact .inr a
  exact .inl (.inr ⟨u,ω,a⟩)
def jE(p:α->Bool)(xs:List α):Nat:=(xs.findIdx? p).getD xs.length
def jW(p:α->Bool)(xs:List α)(y:α):List α:=xs.take (jE p xs)++y::xs.drop (jE p xs)
def TZ(p:α->Bool)(xs:List α):jE p xs<=xs.length:=by
 unfold jE;cases e:xs.findIdx? p with
 | none=>exact v4 _
 | some i=>exact Nat.le_of_lt (I9.1 e).1
def lX(p:α->Bool)(xs:List α)(y:α):(jW p xs y).Perm (y::xs):=by
 unfold jW;refine List.perm_middle.trans ?_;rw[List.take_append_drop]
def cR{p:α->Bool}{xs:List α}{y z:α} : z∈jW p xs y↔z=y\/z∈xs:=by
 rw[(lX p xs y).mem_iff,List.mem_cons]
def ng{p:α->Bool}{xs:List α}(c:i<=xs.length)(a:∀(j:Nat)(z:α),j<i->xs[j]? = some z->p z=false)(b:∀z,xs[i]? = some z->p z=true):jE p xs=i:=by
 unfold jE;by_cases e:i<xs.length
 ·rw[xT (C3 e) (b _ (C3 e)) a];rfl
 rw[G0 ω a];show xs.length=i;omega
def mZ{f:α->Int}{xs:List α}{y:α}(h:xs.Pairwise λa b=>f a<f b)(p:∀z∈xs,f z≠f y):(jW (λz=>decide (f y<=f z)) xs y).Pairwise λa b=>f a<f b:=by
 have q:∀z∈xs.drop (jE (λz=>decide (f y<=f z)) xs),f y<f z:=λz g=>by
  obtain⟨j,k,rfl⟩:=List.mem_drop_iff_getElem.1 g;have C:=p _ (List.getElem_mem k);cases e:xs.findIdx? (λz=>decide (f y<=f z)) with
  | none=>
   have l:jE (λz=>decide (f y<=f z)) xs=xs.length:=by unfold jE;rw[e];rfl
   rw[l]at k;omega
  | some i=>
   have l:jE (λz=>decide (f y<=f z)) xs=i:=by unfold jE;rw[e];rfl
   obtain⟨r,t,-⟩:=I9.1 e;rw[C0]at t;have c:i+j<xs.length:=by rw[<-l];omega
   have n:f xs[i+j]≠f y:=p _ (List.getElem_mem c);have d:f y<f xs[i+j]:=by
    cases j with
    | zero=>simp only[Nat.add_zero]at n |-;omega
    | succ j=>
     have:=List.pairwise_iff_getElem.1 h i (i+(j+1)) r c ω;omega
   have w:xs[jE (λz=>decide (f y<=f z)) xs+j]? = xs[i+j]?:=by rw[l]
   rw[C3 ω,C3 c]at w;rw[Option.some.inj w];exact d
 have A:∀z∈xs.take (jE (λz=>decide (f y<=f z)) xs),f z<f y:=λz g=>by
  obtain⟨j,k,rfl⟩:=List.mem_take_iff_getElem.1 g;unfold jE at k;cases e:xs.findIdx? (λz=>decide (f y<=f z)) with
  | none=>
   have:=List.findIdx?_eq_none_iff.1 e _ (List.getElem_mem (show j<xs.length by omega));simp only[C6]at this;omega
  | some i=>
   obtain⟨r,t,B⟩:=I9.1 e;simp only[e,Option.getD_some]at k;have:=B j ω;simp only[C0]at this;omega
 unfold jW;refine List.pairwise_append.2 ⟨h.sublist (List.take_sublist ..),List.pairwise_cons.2 ⟨q,h.sublist (List.drop_sublist ..)⟩,λz g u o=>?_⟩;rcases List.mem_cons.1 o with rfl|o
 ·exact A z g
 exact Int.lt_trans (A z g) (q u o)
def ib(b i:Int):Int:=((b.toNat ||| 2 ^ i.toNat:Nat):Int)
def rJ(s:aA)(i:Int):aA:={s with a9:=ib s.a9 i}
def Ao(b i:Int)(j:Nat):(ib b i).toNat.testBit j=(b.toNat.testBit j || decide (i.toNat=j)):=by
 unfold ib;rw[Y3,Nat.testBit_or,Nat.testBit_two_pow]
def LC{i:Int}(g:0<=b)(e:0<=i/\i<=15)(j:Int):bf (ib b i) j=true↔bf b j=true\/j=i:=by
 rw[fw,fw,Ao,X8,C0];have f:0<=ib b i:=by unfold ib;omega
 constructor
 ·rintro⟨h,c,d,a|a⟩
  ·exact .inl ⟨g,c,d,a⟩
  exact .inr ω
 rintro(⟨h,c,d,a⟩|rfl)
 ·exact⟨f,c,d,.inl a⟩
 exact⟨f,e.1,e.2,.inr rfl⟩
def hB{k:Int}(h:0<=k/\k<=3):lim k=2 ^ (slots k).toNat - 1/\0<=slots k/\slots k<=16/\slots k*csz k=16:=by
 obtain rfl|rfl|rfl|rfl:k=0\/k=1\/k=2\/k=3:=ω
 all_goals decide
def F4(h:bh s=true){i:Int}(k:0<=i/\i<slots s.d):bh (rJ s i)=true:=by
 have b:=aI h;obtain⟨c,l,o,-⟩:=hB b.2.2;unfold bh at h;rw[C0]at h;obtain⟨d,e,f,g,p,a⟩:=h;refine O0 ⟨d,e,f,g,by show 0<=ib s.a9 i;unfold ib;omega,?_⟩;show ib s.a9 i<=lim s.d;rw[c]at a |-;have j:((2 ^ (slots s.d).toNat:Nat):Int)=(2:Int) ^ (slots s.d).toNat:=by norm_cast
 rw[<-j]at a |-;have:=Nat.or_lt_two_pow (x:=s.a9.toNat) (y:=2 ^ i.toNat) (n:=(slots s.d).toNat) ω (Nat.pow_lt_pow_right ω ω);unfold ib;omega
def E5{u:aA}{i:Int}(b:0<=i/\i<slots s.d)(c:bf u.a9 i=false)(h:meshable s u=true):meshable (rJ s i) u=true:=by
 unfold meshable at h |-;simp only[I0,C0]at h |-;obtain⟨⟨d,f⟩,k,l,o⟩:=h;have p:=aI d;obtain⟨r,t,w,-⟩:=hB p.2.2;have a:=dU f;refine⟨⟨F4 d b,f⟩,k,l,?_⟩;refine Nat.eq_of_testBit_eq λj=>?_
 have g:=C1 (λn=>Nat.testBit n j) o;simp only[Nat.testBit_and,Nat.zero_testBit,rJ,Ao]at g |-;by_cases e:i.toNat=j
 ·have:u.a9.toNat.testBit j=false:=by
   rw[<-S7];intro q;have:=(fw u.a9 i).2 ⟨a.1,b.1,ω,by rw[e];exact q⟩;rw[this]at c;cases c
  rw[this];simp
 rw[X0 e,Bool.or_false];exact g
def ww(h:bh s=true){i:Int}(n:0<=i/\i<slots s.d)(b:Int):eS (rJ s i) b↔eS s b\/b=16*s.R+i*csz s.d:=by
 have g:=aI h;obtain⟨o,p,k,l⟩:=hB g.2.2;have j:=cg g.2.2;unfold eS;simp only[rJ];rw[LC (dU h).1 ω];constructor
 ·rintro⟨d,f,c,a|a⟩
  ·exact .inl ⟨d,f,c,a⟩
  right
  rcases j with e|e|e|e<;>rw[e]at c a |-<;>omega
 rintro(⟨d,f,c,a⟩|rfl)
 ·exact⟨d,f,c,.inl a⟩
 have q:slots s.d<=16:=k;rcases j with e|e|e|e<;>rw[e]at l |-<;>refine⟨?_,?_,?_,.inr ?_⟩<;>omega
def NT(k:Int)(a:i<sp.length):(sp.set i (rJ (nth sp i) k)).map (·.R)=sp.map (·.R):=by
 rw[S8];refine List.ext_getElem (by simp) λj b c=>?_
 rw[List.getElem_set];split
 ·rename_i e;subst e
  rw[List.getElem_map];show(nth sp i).R=_;rw[bq (C3 a)]
 rfl
def jZ.setS(p:pT sp la)(g:i<sp.length){k:Int}(h:0<=k/\k<slots (nth sp i).d)(b c:Int):jZ (sp.set i (rJ (nth sp i) k)) b c↔jZ sp b c\/(b=16*(nth sp i).R+k*csz (nth sp i).d/\(c<0\/(nth sp i).d=c)):=by
 have d:=p.sok _ (au g);constructor
 ·rintro⟨s,l,f,a⟩
  rcases eL l with rfl|⟨j,n,q,rfl⟩
  ·rcases(ww d h b).1 f with o|o
   ·exact .inl ⟨_,au g,o,a⟩
   exact .inr ⟨o,a⟩
  exact .inl ⟨_,au n,f,a⟩
 rintro(⟨s,l,f,a⟩|⟨f,a⟩)
 ·obtain⟨j,n,rfl⟩:=aR l
  by_cases e:j=i
  ·subst e
   exact⟨_,jD _ g,(ww d h b).2 (.inl f),a⟩
  exact⟨_,kW _ n e,f,a⟩
 exact⟨_,jD _ g,(ww d h b).2 (.inr f),a⟩
def T4(d:bc h E)(l:i<h.J.length){k:Int}(p:0<=k/\k<=15)(b:bf (eB h i) k=false):bf (nth h.J i).a9 k=false/\∀u∈h.J,(nth (tbl h).K u.R.toNat).e=(nth (tbl h).K (nth h.J i).R.toNat).e->bf u.a9 k=false:=by
 have e:=d.L;have q:=dU (e.sok _ (au l));unfold eB at b;rw[<-S7,Dq e.sok q p]at b;rw[not_or]at b;have r:bf (nth h.J i).a9 k=false:=by simpa using b.1
 have a:∀s∈h.J,s.R.toNat<fo h/\(nth (tbl h).K s.R.toNat).j≠0/\((s.R.toNat:Nat):Int)=s.R:=λs f=>by
  have K:=aI (e.sok s f);have M:=d.pg.bnd s.R (dO f);have n:s.R.toNat<(tbl h).K.length:=ω
  have o:((s.R.toNat:Nat):Int)=s.R:=ω
  exact⟨n,(d.pg.own _ n).2 (by rw[o];exact dO f),o⟩
 refine⟨r,λu c t=>?_⟩;rw[<-S7];intro w;obtain⟨y,A,B⟩:=a _ (au l);obtain⟨C,D,F⟩:=a u c;have G:u.R∈aX h (nth h.J i).R:=by
  rw[<-B,gk y A,<-F];exact fp.2 ⟨C,D,t⟩
 obtain⟨v,H,g⟩:=aR G;obtain⟨j,J,rfl⟩:=aR c;exact b.2 ⟨v,H,j,J,g.symm,w⟩
def bc.take{k sd:Int}(g:bc h E)(C:i<h.J.length)(D:0<=k/\k<slots (nth h.J i).d)(r:bf (eB h i) k=false)(M:0<=sd/\sd<=1073741823) :
  bc {h with b3:=sd,J:=h.J.set i (rJ (nth h.J i) k)} ((16*(nth h.J i).R+k*csz (nth h.J i).d)::E):=by
 have F:=g.L;have T:=F.sok _ (au C);have Q:=aI T;obtain⟨l1,l2,l3,l4⟩:=hB Q.2.2;have hz:=cg Q.2.2;obtain⟨u1,u2⟩:=T4 g C ⟨D.1,ω⟩ r;have n:=λb c=>jZ.setS F C D b c
 have w:=NT k C;generalize ha:16*(nth h.J i).R+k*csz (nth h.J i).d=a at n |-;have G:¬eS (nth h.J i) a:=by
  rintro⟨-,-,-,h4⟩
  have:(a - 16*(nth h.J i).R) / csz (nth h.J i).d=k:=by
   rw[<-ha];rcases hz with e|e|e|e<;>rw[e]<;>omega
  rw[this,u1]at h4;cases h4
 have hrange:16*(nth h.J i).R<=a/\a<=16*(nth h.J i).R+15:=by
  rcases hz with e|e|e|e<;>rw[e]at ha l4<;>omega
 have U:¬nX h.J h.M a:=by
  rintro(⟨s,p,d,-⟩|⟨l,hl,e⟩)
  ·obtain⟨j,V,rfl⟩:=aR p
   have:=cX (f:=(·.R)) F.nd V C (by have a1:=d.1;have a2:=d.2.1;omega);subst this;exact G d
  exact(AJ F hl).1 _ (au C) ω
 have W:a∉E++holders h:=λX=>U ((g.mem a).1 X)
 have q:∀s∈h.J.set i (rJ (nth h.J i) k),∃u∈h.J,u.R=s.R/\(s=u\/(u=nth h.J i/\s=rJ u k)):=λs p=>by
  rcases eL p with rfl|⟨j,V,hji,rfl⟩
  ·exact⟨_,au C,rfl,.inr ⟨rfl,rfl⟩⟩
  exact⟨_,au V,rfl,.inl rfl⟩
 generalize hsp:h.J.set i (rJ (nth h.J i) k)=sp at n w q |-;have t:pgs sp h.M=pgs h.J h.M:=by unfold pgs;rw[w]
 have N:∀u∈h.J,∃s∈sp,s.R=u.R:=λu r=>by
  have:u.R∈sp.map (·.R):=by rw[w];exact O5.2 ⟨u,r,rfl⟩
  obtain⟨s,p,e⟩:=O5.1 this;exact⟨s,p,e⟩
 exact {g with
   lay:=by
     obtain⟨l1,l2,l3⟩:=eQ g.lay;unfold bx;simp only[I0,C0];refine⟨⟨v5.2 λs p=>?_,l2⟩,by rw[t];exact l3⟩;obtain⟨u,r,-,rfl|⟨rfl,rfl⟩⟩:=q s p
     · exact F.sok _ r
     exact F4 (F.sok _ r) D
   srs:=by
     have d:(h.J.map (·.R)).Pairwise (λa b=>a<b):=List.pairwise_map.2 g.srs;rw[<-w]at d;exact List.pairwise_map.1 d
   pg:=⟨g.pg.one,by rw[t];exact g.pg.bnd,by rw[t];exact g.pg.own,g.pg.fre,λs p u r O hf=>by
     obtain⟨R,A,Y,Z⟩:=q s p;obtain⟨S,B,eu,P⟩:=q u r;have H:(nth (tbl h).K R.R.toNat).e=(nth (tbl h).K S.R.toNat).e:=by rw[Y,eu];exact hf
     have d:=g.pg.mesh R A S B (by rw[Y,eu];exact O) H;rcases Z with rfl|⟨rfl,rfl⟩
     · rcases P with rfl|⟨rfl,rfl⟩
       · exact d
       rw[iH]at d |-;exact E5 D (u2 _ A H) d
     rcases P with rfl|⟨rfl,rfl⟩
     · exact E5 D (u2 _ B H.symm) d
     exact absurd (Y.symm.trans eu) O⟩
   nums:=by
     have:=g.nums;unfold cx at this |-;rw[C0]at this |-;exact⟨M.1,M.2,this.2.2⟩
   oow:=λo ho=>by
     rcases g.oow o ho with⟨s,p,d,h2⟩|d
     · obtain⟨u,r,g1,K⟩:=(n o.Addr (aL o.y)).2 (.inl ⟨s,p,d,.inr h2⟩)
       refine .inl ⟨u,r,g1,?_⟩;rcases K with K|K
       · have:=aI (F.sok _ p);omega
       exact K
     exact .inr d
   hca:=λc Q k D b J=>(n b k).2 (.inl (g.hca c Q k D b J))
   hqu:=λy hy=>(n _ _).2 (.inl (g.hqu y hy))
   hfl:=λb J=>(n _ _).2 (.inl (g.hfl b J))
   hin:=λb J=>by
     rcases List.mem_cons.1 J with rfl|J
     · exact(n _ _).2 (.inr ⟨rfl,.inl (by decide)⟩)
     exact(n _ _).2 (.inl (g.hin b J))
   nd:=by
     rw[List.cons_append];exact List.nodup_cons.2 ⟨W,g.nd⟩
   mem:=λb=>by
     show b∈a::E++holders h↔nX sp h.M b;rw[List.cons_append,List.mem_cons,g.mem b];unfold nX;rw[n];constructor
     · rintro(rfl|d|d)
       · exact .inl (.inr ⟨rfl,.inl (by decide)⟩)
       · exact .inl (.inl d)
       exact .inr d
     rintro((d|⟨d,-⟩)|d)
     · exact .inr (.inl d)
     · exact .inl d
     exact .inr (.inr d)
   job:=λX=>by
     obtain⟨j1,⟨s,p,e1⟩,⟨u,r,e2⟩⟩:=g.job X;obtain⟨R,A,g1⟩:=N s p;obtain⟨S,B,K⟩:=N u r;exact⟨j1,⟨R,A,g1.trans e1⟩,⟨S,B,K.trans e2⟩⟩}
def rM(c:aF)(k:Nat):aF:=⟨c.Z.set k ((nth c.Z k).take ((nth c.Z k).length - 1))⟩
def Q5{l:List Int}(h:0<l.length):l=l.take (l.length - 1)++[nth l (l.length - 1)]:=by
 have a:l.drop (l.length - 1)=[nth l (l.length - 1)]:=by
  rw[iT ω,show l.length - 1+1=l.length by omega,List.drop_length]
 rw[<-a,List.take_append_drop]
def bc.pop{k:Nat}(f:bc h E)(l:t<h.S.length)(p:k<(nth h.S t).Z.length)(u:0<(nth (nth h.S t).Z k).length)(w:bD (rM (nth h.S t) k)=true) :
  bc {h with S:=h.S.set t (rM (nth h.S t) k)} (nth (nth (nth h.S t).Z k) ((nth (nth h.S t).Z k).length - 1)::E)/\jZ h.J (nth (nth (nth h.S t).Z k) ((nth (nth h.S t).Z k).length - 1)) k:=by
 have q:=Q5 u;have n:=f.hca _ (au l) k p (nth (nth (nth h.S t).Z k) ((nth (nth h.S t).Z k).length - 1)) (au ω);refine⟨?_,n⟩;generalize D:nth (nth (nth h.S t).Z k) ((nth (nth h.S t).Z k).length - 1)=a at q n |-;have r:(E++holders h).Perm (a::E++holders {h with S:=h.S.set t (rM (nth h.S t) k)}):=by
  refine List.perm_iff_count.2 λb=>?_
  have A:=jI (λc:aF=>c.Z.flatten) b h.S t (rM (nth h.S t) k) l;have B:=jI (λy:List Int=>y) b (nth h.S t).Z k ((nth (nth h.S t).Z k).take ((nth (nth h.S t).Z k).length - 1)) p;rw[<-mG,<-mG]at B;have C:=C1 (List.count b) q;simp only[O8,List.count_singleton]at C;simp only[rM]at A;simp only[holders,cQ,rM,O8,List.cons_append,List.count_cons];omega
 exact {f with
   nc:=by show(h.S.set ..).length=_;rw[I2];exact f.nc
   cach:=λc d=>by
     rcases Z8 d with d|rfl
     · exact f.cach c d
     exact w
   onu:=by show ∀o∈h.O,1<=o.Id/\o.Id<=h.b - 1/\0<=o.a5/\o.a5<=(h.S.set t _).length - 1;rw[I2];exact f.onu
   hca:=λc d j i b g=>by
     rcases Z8 d with d|rfl
     · exact f.hca c d j i b g
     simp only[rM,I2]at i;simp only[rM,bB]at g;by_cases e:k=j
     · subst e
       rw[CE ⟨rfl,i⟩]at g;exact f.hca _ (au l) _ i b (List.mem_of_mem_take g)
     rw[CC λy=>e y.1]at g;exact f.hca _ (au l) _ i b g
   hin:=λb g=>by
     rcases List.mem_cons.1 g with rfl|g
     · exact n.any
     exact f.hin b g
   nd:=r.nodup_iff.1 f.nd
   mem:=λb=>by rw[<-r.mem_iff];exact f.mem b}
def LO(a:Int)(o:bu):Bool:=decide (a<=o.Addr)
def addO(h:ac)(a size t:Int):ac:={h with O:=jW (LO a) h.O ⟨h.b,a,size,t⟩,b:=h.b+1}
def DO(a:cx h=true)(b:h.b<1000000):decide (0<=h.b3/\h.b3<=1073741823/\0<=h.b2/\h.b2<=1000000/\0<=h.b1/\h.b1<=1000/\1<=h.b+1/\h.b+1<=1000000)=true:=by
 unfold cx at a;rw[C0]at a |-;omega
def bc.addO{h:ac}{E:List Int}{a size t:Int}(c:bc h (a::E))(d:Tj h.J h.M ⟨h.b,a,size,t⟩)(p:h.b<1000000)(q:0<=t/\t<=h.S.length - 1):bc (addO h a size t) E:=by
 have i:=lX (LO a) h.O ⟨h.b,a,size,t⟩;have n:(a::E++holders h).Perm (E++holders (Ab.addO h a size t)):=by
  have r:=i.map (·.Addr);refine List.perm_iff_count.2 λb=>?_
  have u:=r.count_eq b;simp only[I8,List.count_cons]at u;simp only[holders,cQ,Ab.addO,O8,List.cons_append,List.count_cons];omega
 have j:=c.nd;rw[List.cons_append]at j;obtain⟨k,-⟩:=List.nodup_cons.1 j;have l:∀o∈h.O,o.Addr≠a:=λo d e=>k (t4.2 (.inr (by unfold holders;simp only[t4];exact .inl (.inl (.inl (O5.2 ⟨o,d,e⟩))))))
 exact {c with
   nums:=DO c.nums p
   osr:=mZ (f:=λo:bu=>o.Addr) (y:=⟨h.b,a,size,t⟩) c.osr l
   onu:=λo d=>by
     rcases cR.1 d with rfl|d
     · have:=c.nums
       unfold cx at this;rw[C0]at this;exact⟨by show 1<=h.b;omega,by show h.b<=h.b+1 - 1;omega,q⟩
     have:=c.onu o d;exact⟨this.1,by show o.Id<=h.b+1 - 1;omega,this.2.2⟩
   oid:=by
     show((jW (LO a) h.O ⟨h.b,a,size,t⟩).map (·.Id)).Nodup;rw[(i.map _).nodup_iff,I8];refine List.nodup_cons.2 ⟨λw=>?_,c.oid⟩;obtain⟨o,d,e⟩:=O5.1 w;have:=(c.onu o d).2.1;simp only at e;omega
   oow:=λo g=>by
     rcases cR.1 g with rfl|g
     · exact d
     exact c.oow o g
   hin:=λb A=>c.hin b (O7 _ A)
   nd:=n.nodup_iff.1 c.nd
   mem:=λb=>by rw[<-n.mem_iff];exact c.mem b}
end Go.Proofs.YtiopgblagimpmaaGreat.Ab
