/- An object freed by its own thread, and all objects of a thread: the reference's contracts. No condition. -/
import Derived.Test.YtiopgblagimpmaaGreatKyc
import Derived.Test.YtiopgblagimpmaaGreatKye
import Derived.Deep.LoopGhost
import Derived.Deep.RegionLaw
import Derived.Lib.Walk
import Derived.Sort.WalkB12
import Derived.Lib.SliceRun
import Derived.Shelf.RegionOpenPlain
set_option linter.unusedVariables false
set_option linter.defProp false
set_option linter.unusedSimpArgs false
set_option linter.constructorNameAsVariable false
namespace Go.Proofs.YtiopgblagimpmaaGreat.Ab
open Go.RowKit
set_option maxRecDepth 20000
set_option maxHeartbeats 4000000
def r9{z:Int}(h:0<=z/\z<512):IntKind.i64.wrap (z.tdiv 16)=z / 16:=(Z0 _ (tdiv16 h.1)).trans (gc ω ω)
variable{E:List Int}{h:ac}
def uT(a:aZ h E){o:bt}(b:o∈h.O):0<=o.Addr/\o.Addr<512:=by
 rcases a.oow o b with⟨s,c,⟨f,g,-⟩,-⟩|⟨l,d,e,-⟩
 ·have:=aI (a.L.sok s c);omega
 have:=aT (a.L.lok l d);omega
theorem P3{k:Int}(h:0<=k/\k<=3):1<=csz k/\csz k<=8:=by grind [cg]
structure UE(h:ac)(o:bt):Prop where
 cl:0<=aN o.q/\aN o.q<=3
 fr:0<=(af h.G.F.Q (o.Addr / 16)).o/\(af h.G.F.Q (o.Addr / 16)).o<h.G.F.W.T.length
 fit:o.Addr % 16+csz (aN o.q)<=16
 row:(nth h.G.F.W.T (cW h.G o.Addr)).length=16
theorem UE.of(a:aZ h E){o:bt}(i:o∈h.O)(k:¬aN o.q<0):UE h o:=by
 obtain⟨⟨s,j,b,r⟩,t⟩:=(dU a i).2 k;have l:=aI (a.L.sok s j);have n:=uT a i;have u:s.R=o.Addr / 16:=by have w:=b.1;have y:=b.2.1;omega
 have c:(o.Addr / 16).toNat<(tbl h).J.length:=by have:=a.pg.bnd _ (d9 (la:=h.M) j);omega
 have d:(((o.Addr / 16).toNat:Nat):Int)=o.Addr / 16:=ω
 have A:=(a.pg.own _ c).2 (by grind [d9]);have e:(af h.G.F.Q (o.Addr / 16)).e≠0:=by grind [mR,tbl]
 obtain⟨-,-,-,f,p⟩:=bY a.ker e;have q:=(bf.1 (aG.1 a.ker).2.1).2.2.1;have g:cW h.G o.Addr<h.G.F.W.T.length:=by unfold cW;omega
 refine⟨ω,⟨f,ω⟩,?_,a.lens.row _ (ar g)⟩;have B:=b.2.2.1
 grind [cg]
theorem Ks(h:ac)(a:Int)(b:cW h.G a<h.G.F.W.T.length):({h with G:=fA h.G a 0} : ac)=h:=by
 have e:h.G.F.W.T.set (cW h.G a) (nth h.G.F.W.T (cW h.G a))=h.G.F.W.T:=by
  refine List.ext_getElem? λi=>?_
  grind [au]
 unfold fA lU;rw[e]
def Hg(h:ac)(a:Int)(k:Nat)(v:Int)(_:0<=a):bF {h with G:=fA h.G a (k+1)} = (bF {h with G:=fA h.G a k}).set 0 (.s .own (((fA h.G a k).F.W.T.map (aH .own)).set (af h.G.F.Q (a / 16)).o.toNat ((aH .own (lU (nth h.G.F.W.T (cW h.G a)) (a % 16).toNat k)).set 0 (.s .own (((lU (nth h.G.F.W.T (cW h.G a)) (a % 16).toNat k).map (rI .own)).set (a % 16+k).toNat (splice (rI .own v) 0 [I 0])))))):=by
 have e:(a % 16+k).toNat=(a % 16).toNat+k:=ω
 rw[e];simp[bF,fA,Z6,lU,aH,splice,cW]
 rfl
theorem Gg(t:Nat)(h:ac)(xs:List aV)(k:Nat)(a:k<xs.length):recycs t h ((xs.take (k+1)).map (·.Addr))=recyc t (recycs t h ((xs.take k).map (·.Addr))) (nth xs k).Addr:=by grind [I6,au,recycs]
theorem Hr(h:ac)(o:bt)(t:Nat)(a:aZ h [])(N:o∈h.O)(ht:o.a5=t)(hlc:h.S.length<=4):zzB 416 false [.ptr (bF h),.val none [I (t:Nat)],.val none [I o.Addr]] [.ptr (bF (freeOb h t (rd h o.Addr)).1),.val none [I (t:Nat)],.val none [I o.Addr]] .one [I (freeOb h t (rd h o.Addr)).2]:=by
 obtain⟨g,w,B⟩:=a.objAt N;have b:=uT a N;have hon:=a.onu o N;have C:=a.lens;have hno:=C.objs;have O:t<h.S.length:=ω
 have L:=aK (t:Nat) 0 (h.S.length - 1:Int);rw[O0 ω]at L;have E:=rS h o.Addr ω;rw[B]at E;generalize rd h o.Addr=i at g w E;subst w;have p:=au g;have P:=lf (nth h.O i).q;unfold freeOb;have Q:=bv a.ker;have X:=dq h.G.F.Q ((nth h.O i).Addr / 16) Q.1.2;by_cases r:aN (nth h.O i).q<0
 ·rw[CD r]
  have c3:=qV h i a g r;refine fM 148 [(511,[2,0]),(513,[2,0]),(515,[2,0,0]),(510,[2,0])] [(15,269,[68,69,70,71,72,73,74,75,77,67,78,79,11,0,1,2,3,4,5,6,7,13,8,1000,1001,1002,1003,1004,1013,9,10,11,12,14,1012,15]),(22,15,[92,93,94,95,96,97,98,99,100,101,102,103,104,105,106]),(25,271,[116,117,118,119,120,121,122,123,124,125,127,115,128,129,14,0,1,2,3,4,5,6,7,8,9,15,10,1000,1001,1002,1003,1015,11,12,13,14,16,1014,17])] [(0,0),(0,0),(0,0)] Tryz.func416 rfl (λu q=>?_)
  repeat'(first|refine gE ?_|(conv=>whnf);first|with_reducible refine Bf.D (λj=>?_) (λj=>?_)|refine CC ?_|refine C9 (L) ?_|refine CG (E) ⟨⟨rfl,bL h⟩,⟨rfl,rfl⟩,trivial⟩ ?_|refine CE (aa p) ?_|refine CK rfl (aa p) rfl ?_|refine C9 (P) ?_|refine CL (c3) (.inl rfl) ?_)
  refine CH rfl rfl ?_;exact wB
 rw[CB r];obtain⟨R,s2,s3,s4⟩:=UE.of a (ar g) r;by_cases M:(af (tbl h) ((nth h.O i).Addr / 16)).e=1
 ·rw[CD M]
  unfold tbl at M;refine fM 148 [(511,[2,0]),(513,[2,0]),(515,[2,0,0]),(510,[2,0])] [(15,269,[68,69,70,71,72,73,74,75,77,67,78,79,11,0,1,2,3,4,5,6,7,13,8,1000,1001,1002,1003,1004,1013,9,10,11,12,14,1012,15]),(22,15,[92,93,94,95,96,97,98,99,100,101,102,103,104,105,106]),(25,271,[116,117,118,119,120,121,122,123,124,125,127,115,128,129,14,0,1,2,3,4,5,6,7,8,9,15,10,1000,1001,1002,1003,1015,11,12,13,14,16,1014,17])] [(0,0),(0,0),(0,0)] Tryz.func416 rfl (λu q=>?_)
  repeat'(first|refine gB ?_|(conv=>whnf);first|with_reducible refine Bf.D (λj=>?_) (λj=>?_)|refine CC ?_|refine CP (by decide) ?_|refine CN (r9 b) ?_|refine C9 (L) ?_|refine CG (E) ⟨⟨rfl,bL h⟩,⟨rfl,rfl⟩,trivial⟩ ?_|refine CE (aa p) ?_|refine CK rfl (aa p) rfl ?_|refine C9 (P) ?_|refine CG (X) ⟨⟨rfl,Cb _⟩,⟨rfl,rfl⟩,trivial⟩ ?_)
  refine CH rfl rfl ?_;exact wB
 rw[CB M];unfold tbl at M;have F:cW h.G (nth h.O i).Addr<h.G.F.W.T.length:=by unfold cW;omega
 have hcz:=P3 R;have l:=a.inQuar g r;have G:=eC (aN (nth h.O i).q);refine fM 148 [(511,[2,0]),(513,[2,0]),(515,[2,0,0]),(510,[2,0])] [(15,269,[68,69,70,71,72,73,74,75,77,67,78,79,11,0,1,2,3,4,5,6,7,13,8,1000,1001,1002,1003,1004,1013,9,10,11,12,14,1012,15]),(22,15,[92,93,94,95,96,97,98,99,100,101,102,103,104,105,106]),(25,271,[116,117,118,119,120,121,122,123,124,125,127,115,128,129,14,0,1,2,3,4,5,6,7,8,9,15,10,1000,1001,1002,1003,1015,11,12,13,14,16,1014,17])] [(0,0),(0,0),(0,0)] Tryz.func416 rfl (λu q=>?_)
 repeat'(first|refine gB ?_|(conv=>whnf);first|with_reducible refine Bf.D (λj=>?_) (λj=>?_)|refine CC ?_|refine CP (by decide) ?_|refine CN (r9 b) ?_|refine C9 (L) ?_|refine CG (E) ⟨⟨rfl,bL h⟩,⟨rfl,rfl⟩,trivial⟩ ?_|refine CE (aa p) ?_|refine CK rfl (aa p) rfl ?_|refine C9 (P) ?_|refine CG (X) ⟨⟨rfl,Cb _⟩,⟨rfl,rfl⟩,trivial⟩ ?_)
 rw[show bF h=bF {h with G:=fA h.G (nth h.O i).Addr 0} by rw[Ks h _ F]]
 (conv=>whnf)
 refine CJ (ι:=Nat) (λk=>[(0,.H .box (bF {h with G:=fA h.G (nth h.O i).Addr k})),(1,.H .one [I ((t:Nat):Int)]),(2,.H .one [I ((nth h.O i).Addr)]),(7,.H .one [I ((i:Nat):Int)]),(8,.H .box (bt.enc .own (nth h.O i))),(9,.H .one [I (aN (nth h.O i).q)]),(10,.H .box (bh.enc .own (af h.G.F.Q ((nth h.O i).Addr / 16)))),(13,.H .one [I ((k:Nat):Int)])]) (λk=>k<=(csz (aN (nth h.O i).q)).toNat) (λk=>(csz (aN (nth h.O i).q)).toNat - k) (0) ?_ (X0 _) λk hk=>?_
 ·exact wB
 have Y:IntKind.i64.wrap 0=0:=rfl;have S:(nth h.O i).Addr.tmod 16=(nth h.O i).Addr % 16:=fR b.1;have n:(fA h.G (nth h.O i).Addr k).F.W.T[(af h.G.F.Q ((nth h.O i).Addr / 16)).o.toNat]? = some (lU (nth h.G.F.W.T (cW h.G (nth h.O i).Addr)) ((nth h.O i).Addr % 16).toNat k):=v4 F;by_cases T:k<(csz (aN (nth h.O i).q)).toNat
 ·have H:=au (xs:=lU (nth h.G.F.W.T (cW h.G (nth h.O i).Addr)) ((nth h.O i).Addr % 16).toNat k) (i:=((nth h.O i).Addr % 16+k).toNat) (by grind [nl])
  repeat'(first|refine gE ?_|(conv=>whnf);first|refine CC ?_|refine CP (by decide) ?_|refine CV S ?_|refine C9 (G) ?_|refine CO s2.1 (aa n) ?_|refine CK rfl (aa n) rfl ?_|refine CO ω (aa H) ?_|refine Pu.two rfl rfl (aa n) rfl rfl rfl (aa H) rfl (W3 _) (Hg h _ k _ b.1) ?_)
  ((conv=>whnf);refine CF (k+1) ω ω ?_;(exact wB))
 obtain rfl:k=(csz (aN (nth h.O i).q)).toNat:=ω
 have c5:=oH {h with G:=fA h.G (nth h.O i).Addr (csz (aN (nth h.O i).q)).toNat} i g ψ;have d:=a.nums;unfold cq at d;rw[C0]at d;have J:=(a.dropO g (j9.any (c:=aN (nth h.O i).q) (by obtain⟨⟨s,hs,k1,k2⟩,-⟩:=(dU a (ar g)).2 r;exact⟨s,hs,k1,.inr k2⟩))).nd;rw[List.cons_append,List.nil_append]at J;have Z:=DH h.a7 (lD h (nth h.O i)) (by grind [sB.quar]) a.quar ⟨R.1,R.2,b.1,d.2.2.1⟩ (λy hy=>a.snc y hy) (λy hy e=>(List.nodup_cons.1 J).1 (by rw[show(nth h.O i).Addr=y.Addr from e.symm];grind [holders]));unfold Ts at Z;have U:(zV h.a7 (lD h (nth h.O i))).length<=513:=by grind [sB.quar,zV]
 repeat'(first|refine gB ?_|(conv=>whnf);first|with_reducible refine Bf.D (λj=>?_) (λj=>?_)|refine CC ?_|refine C9 (G) ?_|refine CL (c5) (.inl rfl) ?_|refine CG (Z) ⟨⟨rfl,bO.enc_fz h.a7⟩,⟨rfl,rfl⟩,trivial⟩ ?_|refine CC ?_)
 have V:G5 h t i=recycs t (inQuar h i) ((zV h.a7 (lD h (nth h.O i))).map (·.Addr)):=rfl;simp only;rw[V];have hqn:(inQuar h i).S.length=h.S.length:=rfl;generalize zV h.a7 (lD h (nth h.O i))=out at l U
 (conv=>whnf)
 refine CJ (ι:=Nat) (λk=>[(0,.H .box (bF (recycs t (inQuar h i) ((out.take k).map (·.Addr))))),(1,.H .one [I ((t:Nat):Int)]),(15,.H .one (cY .own out)),(16,.H .one [I ((k:Nat):Int)])]) (λk=>k<=out.length) (λk=>out.length - k) (0) ?_ (X0 _) λk hk=>?_
 ·exact wB
 by_cases T:k<out.length
 ·have K:=au T
  have hsp:out.map (·.Addr)=(out.take k).map (·.Addr)++(nth out k).Addr::(out.drop (k+1)).map (·.Addr):=by grind [List.take_append_drop,iR]
  have W:aZ (recycs t (inQuar h i) ((out.take k).map (·.Addr))) ((nth out k).Addr::(out.drop (k+1)).map (·.Addr)):=aZ.recycs ψ O;have c7:=oS _ _ t _ W (by grind [f6])
  repeat'(first|refine gE ?_|(conv=>whnf);first|refine CC ?_|refine CE (aa K) ?_|refine CK rfl (aa K) rfl ?_|refine CL (c7) (.inl rfl) ?_)
  ((conv=>whnf);refine CF (k+1) ω ω ?_)
  rw[Gg t _ out k T];exact wB
 obtain rfl:k=out.length:=ω
 rw[X5]
 repeat'(first|refine gE ?_|(conv=>whnf);first|refine CC ?_)
 refine CH rfl rfl ?_;exact wB
def oE(rows:List (List C)):C:=match rows with|[]=>.s .V []|_=>.s .own rows
variable{rows:List (List C)}
def Te(h:rows≠[]):oE rows=.s .own rows:=by cases rows with|nil=>exact absurd rfl h|cons=>rfl
variable{P:Program}
theorem RJ(w:World)(t e k:Nat)(z:Value)(g:P.underlying t=some (.slice e))(h:∀w,(zeroValue e).run P w=.ok z w)(i:z.cells.size=k)(h1:∀v∈z.cells.toList,v.oneCell'=true)(b o n:Nat)(p:0<n)(l:0<k)(q:∀j,j<n*k->(w.cell? ⟨b,o+j,none⟩).isSome=true)(r:∀j,j<n*k->w.frozen? ⟨b,o+j,none⟩ = false) :
  ∃zs:List Value,zs.length=n*k/\(∀v∈zs,v.oneCell'=true)/\∀(ty:TypeId)(c:Nat),(Builtin.clear_ #[t] ty #[.slice (some ⟨b,o,none⟩) n c]).run P w=.ok (.tuple #[]) (w.setCells b o zs):=by
 subst i;have d:(Builtin.zeroCells z.cells n).toList.length=n*z.cells.size:=by grind [Go.Builtin.zeroCells]
 have a:∀v∈(Builtin.zeroCells z.cells n).toList,v.oneCell'=true:=by grind [Nat.mod_lt,Go.Builtin.zeroCells]
 refine⟨_,d,a,λty c=>?_⟩;have f:=run_storeCells_cells (P:=P) b o (Builtin.zeroCells z.cells n).toList 0 w ψ ψ a;simp only[Nat.add_zero]at f;obtain⟨m,rfl⟩ : ∃m,n=m+1:=⟨n - 1,ω⟩
 simp[Builtin.clear_,run_underlying g,h,f]
structure ky(w w':World)(g k n i:Nat):Prop where
 keep:bz (λb o=>b=g/\o<n*k) w w'
 lo:∀q,q<i*k->cel w' g q=cel w g q
 mid:∀q,i*k<=q->q<(n - 1)*k->cel w' g q=cel w g (q+k)
 hi:∀q,(n - 1)*k<=q->q<n*k->∃z,cel w' g q=some z/\z.oneCell'=true
 fro:∀b q,fro w' b q=fro w b q
variable{w:World}
theorem bz.up{M a:am}{c:World}(h:bz M w c)(d:∀b o,M b o->a b o):bz a w c:=(Cc a w).trans h ψ
def yd(w:World):bz NO w w.drew:=⟨rfl,rfl,rfl,W3 _,λ_ _ _=>rfl,λ_ _ _ _=>rfl,λ_ _ _ _=>rfl⟩
variable{news:List Value}{n i:Nat}
theorem M1{g k:Nat}{zs:List Value}(f:i<n)(d:∀q,q<n*k->∃z,cel w g q=some z)(G:news.length=(n - (i+1))*k)(c:∀t u,news[t]? = some u->cel w g ((i+1)*k+t)=some u)(H:zs.length=k)(l:∀v∈zs,v.oneCell'=true) :
  ky w ((w.drew.setCells g (i*k) news).setCells g ((n - 1)*k) zs) g k n i:=by
 have J:i*k+(n - (i+1))*k=(n - 1)*k:=by rw[<-Nat.add_mul];congr 1;omega
 have K:(n - 1)*k+k=n*k:=by rw[show(n - 1)*k+k=(n - 1+1)*k by rw[Nat.add_mul,Nat.one_mul]];congr 1;omega
 have L:(i+1)*k=i*k+k:=ψ
 have p:∀b q,cel w.drew b q=cel w b q:=λ_ _=>rfl
 have a:∀j,j<news.length->∃z,cel w.drew g (i*k+j)=some z:=λj r=>by rw[p];exact d _ ω
 have y:∀q,q<n*k->∃z,cel (w.drew.setCells g (i*k) news) g q=some z:=λq A=>by
  by_cases h:i*k<=q/\q<i*k+news.length
  ·have:=bN a (X2 (show q - i*k<news.length by omega))
   grind
  grind [bm]
 refine⟨?_,λq A=>?_,λq B C=>?_,λq B C=>?_,λb q=>?_⟩
 ·have D:=ef (g:=g) (X:=λb o=>b=g/\o<n*k) news (i*k) w.drew ω
  have E:=ef (g:=g) (X:=λb o=>b=g/\o<n*k) zs ((n - 1)*k) (w.drew.setCells g (i*k) news) ω;exact((yd w).up λ_ _ h=>h.elim).trans (D.trans E λ_ _ h=>.inr h) λ_ _ h=>.inr h
 ·grind [bm]
 ·rw[bm ω]
  obtain⟨u,e⟩ : ∃u,news[q - i*k]? = some u:=⟨_,X2 ω⟩
  have F:=bN a e;have M:=c _ u e
  grind
 ·obtain⟨u,e⟩ : ∃u,zs[q - (n - 1)*k]? = some u:=(ψ)
  have F:=bN (w:=w.drew.setCells g (i*k) news) (o:=(n - 1)*k) (vs:=zs) (λj r=>y _ ω) e
  grind
 rw[cx,cx];rfl
def TL(rows:List (List C)):Prop:=∀r∈rows,∀c∈r,∃z,c=.v z
def Qd(P:Program)(f k:Nat):Prop:=K5 P f/\∀(w:World)(g n a i:Nat)(news:List Value),i<n->n<=a->news.length=(n - (i+1))*k->(∀t u,news[t]? = some u->cel w g ((i+1)*k+t)=some u)->(∀u∈news,u.oneCell'=true)->
 (∀q,q<n*k->(w.cell? ⟨g,q,none⟩).isSome=true/\w.frozen? ⟨g,q,none⟩ = false)->
 Calls P f #[.slice (some ⟨g,0,none⟩) n a,.int .i64 i,.int .i64 ((i+1:Nat):Int)] w λe c=>e=.returned (.slice (some ⟨g,0,none⟩) (n - 1) a)/\∃b:List Value,b.length=k/\(∀v∈b,v.oneCell'=true)/\c=(w.drew.setCells g (i*k) news).setCells g ((n - 1)*k) b
variable{f:Nat}
theorem Tl{k:Nat}(hf:Qd P f k)(hi:i<rows.length)(hk:∀r∈rows,r.length=k)(T:Q5 rows) :
  aM P f false [.mut none [.s .own rows],.val none [I (i:Nat)],.val none [I ((i+1:Nat):Int)]] [.mut none [.x],.val none [I (i:Nat)],.val none [I ((i+1:Nat):Int)]] .one [oE (dele rows i)]:=by
 refine⟨hf.1,λw S V vs hS hV hVV U=>?_⟩
 match vs,U with
 | [v,v1,v2],⟨U,W,X,_⟩=>
  have l:=(bC.rep1 (show bC w S (V 0) none [C.s .own rows] v from U)).fresh ⟨.inl (λe=>by cases e),T⟩;have e1:v1=.int .i64 (i:Nat):=by
   have:=bC.rep1 (show bC w S NO none [C.v (.int .i64 (i:Nat))] v1 from W);cases this;rfl
  have e2:v2=.int .i64 ((i+1:Nat):Int):=by
   have:=bC.rep1 (show bC w S NO none [C.v (.int .i64 ((i+1:Nat):Int))] v2 from X);cases this;rfl
  subst e1 e2;have H:(dele rows i).length=rows.length - 1:=by grind [dele]
  generalize J:C.s .own rows=cc at l;cases l with
  | nil _ o a ho=>grind
  | own _ o g d n j Y u f' ho hn B p hpos hF hu hff hd hc=>
   cases J;have Z:d=k:=by rw[<-B _ (List.getElem_mem hi),<-hk _ (List.getElem_mem hi)]
   subst Z;have hnk:n*d<=j*d:=C8 _ p;have hone:∀q,q<j*d->∃z,cel w g q=some z/\z.oneCell'=true:=ψ
   have e3:(i+1)*d+(n - (i+1))*d=n*d:=by rw[<-Nat.add_mul];congr 1;omega
   obtain⟨news,K,L,hn1⟩ : ∃news:List Value,news.length=(n - (i+1))*d/\(∀t u,news[t]? = some u->cel w g ((i+1)*d+t)=some u)/\∀u∈news,u.oneCell'=true:=by
    refine⟨(List.range ((n - (i+1))*d)).map λt=>(cel w g ((i+1)*d+t)).getD undef,by simp,λt y ht=>?_,λy hy=>?_⟩
    all_goals grind
   refine(hf.2 w g n j i news ω p K L hn1 (λq D=>?_)).mono λe A ⟨he,zs,z1,z2,hw'⟩=>?_
   ·grind
   have R:=M1 (w:=w) (by omega:i<n) ψ K L z1 z2;rw[<-hw']at R;have hgV:∀q,q<j*d->V 0 g q:=ψ
   have E:bz (λb o=>∃i,V i b o) w A:=R.keep.up ψ;have e4:(n - 1)*d+d=n*d:=by rw[show(n - 1)*d+d=(n - 1+1)*d by rw[Nat.add_mul,Nat.one_mul]];congr 1;omega
   have F:∀q,q<j*d->∃z,cel A g q=some z/\z.oneCell'=true:=λq D=>by
    by_cases h1:q<i*d
    ·grind [ky.lo]
    by_cases h2:q<(n - 1)*d
    ·rw[R.mid q ω h2];grind
    grind [ky.hi,bz.cel,ky.keep]
   have M:cP A NO (V 0) [oE (dele rows i)] (λ_=>.slice (some ⟨g,0,none⟩) (n - 1) j):=by
    refine row1 ?_;by_cases hz:dele rows i=[]
    ·rw[hz]
     have hn0:n - 1=0:=ψ
     rw[hn0];exact .V _ g 0 d 0 j [] (λ_=>undef) rfl ψ (X0 _) ω ψ
    rw[Te hz];have G:0<n - 1:=ψ
    obtain⟨σ,hσ⟩ : ∃σ:Nat->Nat,∀q,σ q=if q<i*d then q else q+d:=⟨_,λ_=>rfl⟩
    have s1:∀q,q<(n - 1)*d->σ q<n*d:=ψ
    have s2:∀q q',q≠q'->σ q≠σ q':=ψ
    have s3:∀q,q<(n - 1)*d->cel A g q=cel w g (σ q):=λq D=>by grind [ky.lo,ky.mid]
    refine .own _ .own g d (n - 1) j _ (λq=>(cel A g q).getD undef) (λq=>f' (σ q)) trivial (by rw[H];omega) (λr hr=>B r ((eY ..).subset hr)) ω G (λq D=>⟨hgV q D,F q D,(R.fro g q).trans (hF q D).2.2⟩) (λq D=>?_) ψ ψ (λa b r c N hb=>?_)
    ·grind
    have hbk:b<d:=by grind [eY]
    have hal:=(Z2.1 N).1;rw[H]at hal;have hflat:a*d+b<(n - 1)*d:=dH ω hbk;obtain⟨O,h5,h6⟩ : ∃O,rows[O]? = some r/\σ (a*d+b)=O*d+b:=by
     rw[hσ];unfold dele at N;by_cases h1:a<i
     ·grind [C2,dH]
     rw[v5 ψ,C2,List.getElem?_drop]at N;rw[show i+1+(a - min i rows.length)=a+1 by omega]at N;have:i*d<=a*d:=C8 _ ω;refine⟨a+1,N,?_⟩;rw[CB ω,Nat.add_mul,Nat.one_mul];omega
    have h7:=hc O b r c h5 hb;have Q:=su hn B h5 hb;have hfl:=dH Q.1 Q.2;have h8:(cel A g (a*d+b)).getD undef=u (O*d+b):=ψ
    show dJ A NO (f' (σ (a*d+b))) c ((cel A g (a*d+b)).getD undef);rw[h8,h6];refine h7.keep (λ_ _ h=>h.elim) λb' o' hb'=>?_
    grind [bz.cel,ky.keep,ky.fro]
   exact⟨_,he,E,V 0,λ_=>NO,NO,ψ,λ_ _ _ h=>h.elim,λ_ _ h=>h.elim,λ_ _ _ _ _ h=>h.elim,λ_ _ _ _ h=>h.elim,λ_ _ _ h=>h.elim,λ_ _ _ h=>h.elim,rfl,M,⟨⟨rfl,λ_=>.slice (some ⟨g,0,none⟩) n j,rfl,row1 (.x _ _ rfl)⟩,trivial,trivial,trivial⟩⟩
  | _=>cases J
set_option maxRecDepth 100000
theorem QN{g cap k:Nat}(d:news.length=(n - (i+1))*k)(a:n<=cap)(b:i<n)(h:∀t u,news[t]? = some u->cel w g ((i+1)*k+t)=some u):∃A:Addr,(if cap=i+1 then some (⟨g,0,none⟩ : Addr) else some ⟨g,(i+1)*k,none⟩)=some A/\∀t u,news[t]? = some u->w.drew.cell? (A.add t)=some u:=by
 by_cases e:cap=i+1
 ·simp_all
 refine⟨⟨g,(i+1)*k,none⟩,by simp[e],λt u c=>?_⟩;rw[Addr.add_lit];exact h t u c
def LC(h:ac)(p:Int):zzA 187 false [.val (some 24) (ac.enc .V h),.val none [I p]] .one [B (fH h p)]:=by
 cases e:h.u
 all_goals
  have b:ac.enc .V h=(ac.enc .V h).set 18 (B h.u):=rfl;rw[e]at b;rw[b];refine fO 23 [] Tryz.func187 rfl ?_
  repeat'(first|refine gP ?_|(conv=>whnf);first|with_reducible (first|refine Bf.D (λa=>?_) (λa=>?_)|refine Bf.E (λa=>?_) (λa=>?_)|refine Bf.N (λa=>?_) (λa=>?_))|refine CC ?_)
  all_goals exact Z0 (λz=>[B z]) ((by unfold fH;rw[e];first|(simp[*];done)|(simp[*];rw[C5];simp;try omega)|(rw[C5];simp[*];try omega)))
def DG(h:ac):zzA 71 false [.val (some 24) (ac.enc .V h)] .one [I (eU h:Nat)]:=by
 refine fO 9 [] Tryz.func71 rfl ?_
 repeat'(first|refine gP ?_|(conv=>whnf);first|refine CC ?_)
 rfl
theorem eK(c:C):Ro c c:=(n6 [c]).1
def UB(rows:List (List C)):fz (oE rows)=fz (.s .own rows):=by cases rows<;>rfl
def Tm(h:Q5 rows):QP (oE rows):=by cases rows with|nil=>exact⟨.inr rfl,trivial⟩|cons r a=>exact⟨.inl λe=>(by cases e),h⟩
def T4{S Y:am}{v:Value}(h:dJ w S Y (.s .own rows) v):dJ w S Y (oE rows) v:=by
 cases rows with
 | cons=>exact h
 | nil=>
  cases h with
  | nil _ o a d=>exact .nil _ .V a trivial
  | own _ o g k n e rows u f d i j b c l p q r t=>simp at i;omega
theorem pM{c a:C}(h:a=c):Ro c a:=by grind [eK]
def Mt(c:aE)(k:Nat):aE:=⟨c.a.set k []⟩
theorem Rb(c:aE)(k:Nat):aE.enc .own (Mt c k)=[.s .own ((c.a.map (aH .own)).set k (aH .own []))]:=by grind [Z6,aE.enc,Mt]
theorem PB(xs:List Int):([]:List Int).map (rI .V)=(xs.map (rI .V)).drop xs.length:=by simp_all
theorem PO(xs:List Int):xs.map (rI .V)=(xs.map (rI .V)).take xs.length:=by grind [I1]
def UX(c:aE)(k:Nat):List C:=aE.enc .own (Mt c k)++aH .own (nth c.a k)
def TT(c:aE)(k:Nat):iv (UX c k):=aL (Ci _) (bT _)
def w6(c:aE)(k:Nat)(d:bx c=true)(p:k<=3):zzA 522 false [.val (some 1) (aE.enc .V c),.val none [I (k:Nat)],.val none [I 8]] (.tup [some 1,none]) (UX c k):=by
 obtain⟨q,e⟩:=eQ d;have g:aE.sml c:=⟨ω,λl j=>by have:=e l j;show l.length<=1048576;omega⟩
 have h:=yp c k g;rw[d,O0 ω]at h;have n:=iZ c g;have a:=q7 (c:=c) (k:=k) ω;have o:=e _ (ar (xs:=c.a) (i:=k) ω);have b:=TT c k;unfold UX at b |-;rw[Rb]at b |-;refine fO 52 [(5,268,[29,30,31,32,33,34,35,36,37,38,39,41,0,1,2,3,4,5,6,7,8,9,10,11,1000,1001,1002,12,13]),(6,265,[42,43,44,45,46,47,48,49,50,0,1,2,3,4,5,6,7,8,9,1000,10,11])] Tryz.func522 rfl ?_ (.inr b)
 repeat'(first|refine gP ?_|(conv=>whnf);first|with_reducible refine CE (aa a) ?_|refine CC ?_|refine CK rfl (aa a) rfl ?_|refine C9 (h) ?_|refine C9 (n) ?_|refine CV (z:=((nth c.a k).length:Int)) (by simp;omega) ?_|refine Sl.suf (nth c.a k).length rfl (by rw[I1];omega) (aX λ_=>rfl) (PB _) ?_|refine CZ (nth c.a k).length rfl (by rw[I1];omega) (aX λ_=>rfl) (PO _) ?_|refine CC ?_|refine CY (λ_=>rfl) (λ_=>rfl) (by simp) (by decide) ?_|refine CS (λ_=>rfl) (λ_=>rfl) (by simp) (by decide) ?_|refine CY (λ_=>rfl) (λ_=>rfl) ω (by decide) ?_|refine CS (λ_=>rfl) (λ_=>rfl) ω (by decide) ?_|refine CQ rfl rfl (aa a) rfl (O1 rfl) rfl ?_)
 rfl
theorem pC{k:Int} : ∀{l s s2 b:List Int},(∀x∈s2,x∈s)->sI k s l=some b->(∀x∈s,x∈b)/\∃c,sI k s2 l=some c/\∀x∈c,x∈b
 | [],s,s2,b,h,e=>by grind [sI]
 | a::l,s,s2,b,h,e=>by
  simp only[sI]at e |-;split at e
  ·rename_i g
   rw[CD (show good k s2 a from⟨g.1,g.2.1,g.2.2.1,λx=>g.2.2.2 (h a x)⟩)];obtain⟨d,f⟩:=pC (l:=l) (s:=s++[a]) (s2:=s2++[a]) ψ e
   grind
  cases e
theorem uo:∀{a:List (List Int)}{k:Nat}{s s2:List Int},(∀x∈s2,x∈s)->(gR k s a).isSome=true->(gR k s2 a).isSome=true
 | [],_,_,_,_,_=>rfl
 | l::a,k,s,s2,h,e=>by
  simp only[gR,fG]at e |-;split at e
  ·rename_i g
   rw[CD g];cases b:sI k s l with
   | none=>grind
   | some i=>
    rw[b]at e;obtain⟨-,c,d,f⟩:=pC h b;rw[d];exact uo f e
  cases e
theorem FQ:∀{a:List (List Int)}{k:Nat}{s s2:List Int}(i:Nat),(∀x∈s2,x∈s)->(gR k s a).isSome=true->(gR k s2 (a.set i [])).isSome=true
 | [],_,_,_,_,_,_=>rfl
 | l::a,k,s,s2,i,h,e=>by
  simp only[gR,fG]at e;split at e
  ·rename_i g
   cases b:sI k s l with
   | none=>grind
   | some j=>
    rw[b]at e;obtain⟨n,c,d,f⟩:=pC h b;cases i with
    | zero=>
     simp only[List.set_cons_zero,gR,fG];rw[CD ⟨by simp,g.2⟩];exact uo ψ e
    | succ i=>
     simp only[List.set_cons_succ,gR,fG];rw[CD g,d];exact FQ i f e
  cases e
theorem Tx{c:aE}(h:bx c=true)(k:Nat):bx (Mt c k)=true:=by grind [FQ,bx,Mt]
def spilt(h:ac)(t k:Nat):ac:={h with S:=h.S.set t (Mt (nth h.S t) k)}
theorem aZ.spilt{h:ac}{E:List Int}{t k:Nat}(d:aZ h E)(i:t<h.S.length)(n:k<(nth h.S t).a.length):aZ (spilt h t k) (nth (nth h.S t).a k++E):=by
 have p:(E++holders h).Perm (nth (nth h.S t).a k++E++holders (Ab.spilt h t k)):=by
  refine List.perm_iff_count.2 λb=>?_
  have r:=iU (λc:aE=>c.a.flatten) b h.S t (Mt (nth h.S t) k) i;have q:=iU (λx:List Int=>x) b (nth h.S t).a k [] n;rw[<-lR,<-lR]at q;simp only[List.count_nil]at q;simp only[Mt]at r;simp only[holders,cJ,Ab.spilt,Mt,Y6];omega
 have g:∀c∈(Ab.spilt h t k).S,c∈h.S\/c=Mt (nth h.S t) k:=λc u=>O7 u
 exact {d with
   nc:=by show(h.S.set ..).length=_;rw[Z1];exact d.nc
   cach:=λc f=>by grind [aZ.cach,Tx,ar]
   onu:=by show ∀o∈h.O,1<=o.Id/\o.Id<=h.b - 1/\0<=o.a5/\o.a5<=(h.S.set t _).length - 1;rw[Z1];exact d.onu
   hca:=λc f j l b a=>by
     rcases g c f with f|rfl
     · exact d.hca c f j l b a
     simp only[Mt,Z1]at l;simp only[Mt,bI]at a;by_cases e:k=j
     · grind
     rw[CB λx=>e x.1]at a;exact d.hca _ (ar i) _ l b a
   hin:=λb a=>by
     rcases V3.1 a with a|a
     · exact(d.hca _ (ar i) k n b a).any
     exact d.hin b a
   nd:=p.nodup_iff.1 d.nd
   mem:=λb=>by rw[<-p.mem_iff];exact d.mem b}
def freeAs(h:ac)(az:List Int):ac:=az.foldl freeA h
theorem fX:∀(az:List Int)(h:ac),(freeAs h az).S=h.S/\(freeAs h az).O=h.O/\(freeAs h az).G.Calls=h.G.Calls/\(freeAs h az).y=h.y/\(freeAs h az).Z=h.Z/\(freeAs h az).b2=h.b2/\(freeAs h az).a7=h.a7/\(freeAs h az).G.w=h.G.w
 | [],h=>⟨rfl,rfl,rfl,rfl,rfl,rfl,rfl,rfl⟩
 | a::az,h=>by
  obtain⟨b,c,d,e,f,g,i,j⟩:=fX az (freeA h a);obtain⟨k,l,n,o,p,q,r,t⟩:=xd h (tJ h a) a;exact⟨b.trans k,c.trans l,d.trans n,e.trans o,f.trans p,g.trans q,i.trans r,j.trans t⟩
theorem aZ.freeAs{E:List Int} : ∀{az:List Int}{h:ac},aZ h (az++E)->aZ (freeAs h az) E
 | [],_,b=>b
 | a::az,h,b=>aZ.freeAs (az:=az) (h:=Ab.freeA h a) b.freeA
theorem vR(h:ac)(az:List Int)(k:Nat)(a:k<az.length):freeAs h (az.take (k+1))=freeA (freeAs h (az.take k)) (nth az k):=by grind [I6,au,freeAs]
def flushN(t:Nat)(h:ac):Nat->ac × Nat
 | 0=>(h,0)
 | k+1=>(freeAs (spilt (flushN t h k).1 t k) (nth (nth (flushN t h k).1.S t).a k),(flushN t h k).2+(nth (nth (flushN t h k).1.S t).a k).length)
theorem jB{t:Nat}{h:ac}(b:aZ h [])(c:t<h.S.length):∀{k:Nat},k<=4->aZ (flushN t h k).1 []/\(flushN t h k).1.S.length=h.S.length/\(flushN t h k).1.G.Calls=h.G.Calls/\(flushN t h k).1.O=h.O/\(flushN t h k).1.y=h.y/\(flushN t h k).1.Z=h.Z/\(flushN t h k).2<=8*k
 | 0,_=>⟨b,rfl,rfl,rfl,rfl,rfl,X0 _⟩
 | k+1,e=>by
  obtain⟨d,f,g,i,j,l,n⟩:=jB b c (k:=k) ω;have a:t<(flushN t h k).1.S.length:=ω
  obtain⟨o,p⟩:=eQ (d.cach _ (ar a))
  grind [aZ.spilt,ar,fX,aZ.freeAs,spilt,flushN]
variable{t:Nat}
theorem F7{k:Nat}(a:aZ h [])(b:t<h.S.length)(c:k<4):t<(flushN t h k).1.S.length/\bx (nth (flushN t h k).1.S t)=true/\k<(nth (flushN t h k).1.S t).a.length/\(nth (nth (flushN t h k).1.S t).a k).length<=8/\(flushN t h k).2<=8*k:=by grind [jB,aZ.cach,ar,eQ]
variable{j:Nat}
theorem NL{k:Nat}(a:aZ h [])(b:t<h.S.length)(c:k<4)(f:j<(nth (nth (flushN t h k).1.S t).a k).length):aZ (freeAs (spilt (flushN t h k).1 t k) ((nth (nth (flushN t h k).1.S t).a k).take j)) (nth (nth (nth (flushN t h k).1.S t).a k) j::(nth (nth (flushN t h k).1.S t).a k).drop (j+1)):=by
 obtain⟨d,e⟩:=F7 a b c;have g:=((jB a b (k:=k) ω).1).spilt d e.2.1
 grind [aZ.freeAs,iR,List.take_append_drop]
theorem zY(h:ac)(t:Nat)(i:aZ h [])(l:t<h.S.length):zzB 424 false [.ptr (bF h),.val none [I (t:Nat)]] [.ptr (bF (flushN t h 4).1),.val none [I (t:Nat)]] .one [I ((flushN t h 4).2:Nat)]:=by
 refine fM 48 [(426,[2,0])] [(6,6,[26,27,28,29,30,31])] [(0,0),(0,0)] Tryz.func424 rfl (λu q=>?_)
 repeat'(first|refine gP ?_|fail)
 (conv=>whnf)
 refine CJ (ι:=Nat) (λk=>[(0,.H .box (bF (flushN t h k).1)),(1,.H .one [I ((t:Nat):Int)]),(5,.H .one [I (((flushN t h k).2:Nat):Int)]),(6,.H .one [I ((k:Nat):Int)])]) (λk=>k<=4) (λk=>4 - k) (0) ?_ (X0 _) λk D=>?_
 ·repeat'(first|exact trivial|rfl |exact pM a|exact eK _|refine CM ?_ ?_|(exact EO (by first|omega|(simp only;omega)|(simp;omega))))
 by_cases n:k<4
 ·obtain⟨o,p,E,F,G⟩:=F7 i l n
  have r:=w6 (nth (flushN t h k).1.S t) k p ω;have c:=λj=>NL i l n (j:=j)
  have e:=au o;have w:(flushN t h (k+1)).1=freeAs (spilt (flushN t h k).1 t k) (nth (nth (flushN t h k).1.S t).a k):=rfl;have y:(flushN t h (k+1)).2=(flushN t h k).2+(nth (nth (flushN t h k).1.S t).a k).length:=rfl;have a:C.s dY.own ((spilt (flushN t h k).1 t k).S.map (aE.enc .own))=C.s dY.own (((flushN t h k).1.S.map (aE.enc .own)).set t (aE.enc .own (Mt (nth (flushN t h k).1.S t) k))):=by grind [Z6,spilt]
  repeat'(first|refine gE ?_|(conv=>whnf);first|refine CE (aa e) ?_|refine CK rfl (aa e) rfl ?_|refine CG (r) ⟨⟨rfl,Cg _⟩,⟨rfl,rfl⟩,⟨rfl,rfl⟩,trivial⟩ ?_|refine CC ?_|refine CQ rfl rfl (aa e) rfl (O1 rfl) rfl ?_)
  generalize (flushN t h k).1=d at *;generalize (flushN t h k).2=m at *
  (conv=>whnf)
  refine CJ (ι:=Nat) (λj=>[(0,.H .box (bF (freeAs (spilt d t k) ((nth (nth d.S t).a k).take j)))),(1,.H .one [I ((t:Nat):Int)]),(5,.H .one [I (((m+j):Nat):Int)]),(6,.H .one [I ((k:Nat):Int)]),(8,.H .one (aH .own (nth (nth d.S t).a k))),(9,.H .one [I ((j:Nat):Int)])]) (λj=>j<=(nth (nth d.S t).a k).length) (λj=>(nth (nth d.S t).a k).length - j) (0) ?_ (X0 _) λj H=>?_
  ·repeat'(first|exact trivial|rfl |exact pM a|exact eK _|refine CM ?_ ?_|(exact EO (by first|omega|(simp only;omega)|(simp;omega))))
  by_cases g:j<(nth (nth d.S t).a k).length
  ·have b:=au g
   have B:=oB _ _ _ (c j g)
   repeat'(first|refine gE ?_|(conv=>whnf);first|refine CE (aa b) ?_|refine CK rfl (aa b) rfl ?_|refine CL (B) (.inl rfl) ?_)
   ((conv=>whnf);refine CF (j+1) ω ω ?_)
   rw[vR _ _ _ g];exact wC
  obtain rfl:j=(nth (nth d.S t).a k).length:=ω
  rw[X5]
  repeat'(first|refine gE ?_|fail)
  ((conv=>whnf);refine CF (k+1) ω ω ?_)
  rw[w,y];exact wC
 obtain rfl:k=4:=ω
 repeat'(first|refine gE ?_|fail)
 refine CH rfl rfl ?_;exact wC
def Aw(s:Int):Int:=(1103515245*s+12345) % 1073741824
def D7(s:Int):0<=Aw s/\Aw s<=1073741823:=by unfold Aw;omega
def zW(s:Int)(b:0<=s/\s<=1073741823):zzA 548 false [.val none [I s]] .one [I (Aw s)]:=by
 have a:=aK s 0 1073741823;rw[O0 b]at a;refine fO 10 [] Tryz.func548 rfl ?_
 repeat'(first|refine gP ?_|(conv=>whnf);first|refine CC ?_|refine CV (z:=Aw s) (fR ω) ?_|refine C9 (a) ?_|refine CP (by decide) ?_)
 rfl
def Fd(s:Int)(b:0<=s/\s<=1073741823):zzA 83 false [.val none [I s]] .one [B true]:=by
 have a:=aO s 0 1073741823;rw[O0 b]at a;refine fO 5 [] Tryz.func83 rfl ?_
 repeat'(first|refine gP ?_|(conv=>whnf);first|refine CC ?_|refine C9 (a) ?_)
 rfl
def zU(s:Int)(a:0<=s/\s<=1073741823):zzA 456 false [.val none [I s]] .one [I (Aw s)]:=by
 refine fO 10 [] Tryz.func456 rfl ?_
 repeat'(first|refine gP ?_|(conv=>whnf);first|refine CC ?_|refine CV (z:=Aw s) (fR ω) ?_|refine C9 (Fd s a) ?_|refine CP (by decide) ?_)
 rfl
def KN(s n:Int):Int:=Aw s / 1024 % n
def sq(s:Int){n:Int}(h:1<=n):0<=KN s n/\KN s n<n:=⟨Int.emod_nonneg _ ω,Int.emod_lt_of_pos _ ω⟩
theorem v7(s n:Int)(b:0<=s/\s<=1073741823)(c:1<=n/\n<=1000):zzA 480 false [.val none [I s],.val none [I n]] (.tup [none,none]) [I (KN s n),I (Aw s)]:=by
 have d:=aK s 0 1073741823;have e:=aK n 1 1000;rw[O0 b]at d;rw[O0 c]at e;have h:=D7 s;have i:=sq s c.1;have a:(Aw s).tdiv 1024=Aw s / 1024:=ψ
 have g:((Aw s).tdiv 1024).tmod n=KN s n:=by rw[a];exact fR ω
 refine fO 23 [] Tryz.func480 rfl ?_ (.inr ⟨trivial,trivial,trivial⟩)
 repeat'(first|refine gP ?_|(conv=>whnf);first|refine CC ?_|refine C9 (d) ?_|refine C9 (e) ?_|refine C9 (zW s b) ?_|refine CP (by decide) ?_|refine CP ω ?_|refine CV g ?_|refine CN (gc (by rw[a];omega) (by rw[a];omega)) ?_)
 rfl
theorem FL(s n:Int)(b:0<=s/\s<=1073741823)(c:1<=n/\n<=1000):zzA 337 false [.val none [I s],.val none [I n]] (.tup [none,none]) [I (KN s n),I (Aw s)]:=by
 have d:=aO n 1 1000;rw[O0 c]at d;have g:=D7 s;have h:=sq s c.1;have a:(Aw s).tdiv 1024=Aw s / 1024:=ψ
 have e:((Aw s).tdiv 1024).tmod n=KN s n:=by rw[a];exact fR ω
 refine fO 23 [] Tryz.func337 rfl ?_ (.inr ⟨trivial,trivial,trivial⟩)
 repeat'(first|refine gP ?_|(conv=>whnf);first|refine CC ?_|refine C9 (Fd s b) ?_|refine C9 (d) ?_|refine C9 (zU s b) ?_|refine CP (by decide) ?_|refine CP ω ?_|refine CV e ?_|refine CN (gc (by rw[a];omega) (by rw[a];omega)) ?_)
 rfl
def sV(n:Nat):List Int:=(List.range n).map λ(i:Nat)=>(i:Int)
theorem J6(n:Nat):sV (n+1)=sV n++[(n:Int)]:=by grind [List.range_succ,sV]
def AG(n:Nat):(sV n).length=n:=by simp[sV]
def xF(xs:List Int)(i k:Nat):List Int:=(xs.set i (nth xs k)).set k (nth xs i)
def LW(xs:List Int)(i k:Nat):(xF xs i k).length=xs.length:=by simp[xF]
def ig(n:Nat)(s:Int):Nat->List Int × Int
 | 0=>(sV n,s)
 | j+1=>(xF (ig n s j).1 (n - 1 - j) (KN (ig n s j).2 ((n - 1 - j:Nat)+1:Int)).toNat,Aw (ig n s j).2)
def nA(n:Nat){s:Int}(a:0<=s/\s<=1073741823):∀j,(ig n s j).1.length=n/\0<=(ig n s j).2/\(ig n s j).2<=1073741823
 | 0=>⟨AG n,a⟩
 | j+1=>⟨by simp only[ig,LW];exact(nA n a j).1,D7 _⟩
def shuf(n:Nat)(s:Int):List Int × Int:=ig n s (n - 1)
theorem Ng(xs:List Int)(i k:Nat):(xF xs i k).map (rI .own)=((xs.map (rI .own)).set i (rI .own (nth xs k))).set k (rI .own (nth xs i)):=by grind [Z6,xF]
theorem Mv{xs:List Int}{k:Nat}(v:Int)(a:k<xs.length):((xs.map (rI .own)).set i (rI .own v))[k]? = some (rI .own (nth (xs.set i v) k)):=by
 rw[<-Z6];grind [au]
def Ac(n:Nat)(s:Int)(d:0<=s/\s<=1073741823)(w:n<=64):zzA 526 false [.val none [I s],.val none [I (n:Nat)]] (.tup [none,none]) (aH .own (shuf n s).1++[I (shuf n s).2]):=by
 have e:=aK s 0 1073741823;have g:=aK (n:Nat) 0 64;rw[O0 d]at e;rw[O0 ω]at g;refine fO 63 [] Tryz.func526 rfl ?_ (.inr (aL (bT _) ⟨trivial,trivial⟩))
 repeat'(first|refine gP ?_|(conv=>whnf);first|refine CC ?_|refine C9 (e) ?_|refine C9 (g) ?_)
 (conv=>whnf)
 refine CJ (ι:=Nat) (λk=>[(0,.H .one [I (s)]),(1,.H .one [I ((n:Nat):Int)]),(6,.H .one (aH .own (sV k))),(7,.H .one [I ((k:Nat):Int)])]) (λk=>k<=n) (λk=>n - k) (0) ?_ (X0 _) λk y=>?_
 ·exact wB
 have h:=AG k;by_cases B:k<n
 ·repeat'(first|refine gE ?_|(conv=>whnf);first|refine CC ?_|refine Ap.sm (aX λ_=>rfl) rfl (by simp;omega) (by decide) (iY (rI .own) (sV k) (k:Int)) ?_)
  ((conv=>whnf);refine CF (k+1) ω ω ?_)
  rw[J6];exact wB
 obtain rfl:k=n:=ω
 repeat'(first|refine gE ?_|(conv=>whnf);first|refine CC ?_)
 (conv=>whnf)
 refine CJ (ι:=Nat) (λj=>[(0,.H .one [I ((ig k s j).2)]),(6,.H .one (aH .own (ig k s j).1)),(8,.H .one [I (((k:Int) - 1 - j))])]) (λj=>(j<=k - 1/\j<=k)) (λj=>k - j) (0) ?_ ω λj C=>?_
 ·exact wB
 obtain⟨D,l,o⟩:=nA k d j;by_cases E:j<k - 1
 ·have q:(k:Int) - 1 - j=((k - 1 - j:Nat):Int):=ω
  have r:=sq (ig k s j).2 (n:=((k - 1 - j:Nat)+1:Int)) ω;have t:=v7 (ig k s j).2 ((k - 1 - j:Nat)+1:Int) ⟨l,o⟩ ω;have u:ig k s (j+1)=(xF (ig k s j).1 (k - 1 - j) (KN (ig k s j).2 ((k - 1 - j:Nat)+1:Int)).toNat,Aw (ig k s j).2):=rfl;rw[q];generalize ig k s j=p at *;obtain⟨xs,z⟩:=p;simp only at *;generalize k - 1 - j=i at *;have a:=au (xs:=xs) (i:=i) ω;have b:=au (xs:=xs) (i:=(KN z (i+1)).toNat) ω;have c:=Mv (xs:=xs) (i:=i) (k:=(KN z (i+1)).toNat) (nth xs (KN z (i+1)).toNat) ω
  repeat'(first|refine gE ?_|(conv=>whnf);first|refine CC ?_|refine C9 (t) ?_|refine CO ω (aa b) ?_|refine CE (aa a) ?_|refine CK rfl (aa a) rfl ?_|refine CK rfl (aa b) rfl ?_|refine CQ rfl rfl (aa a) rfl (O1 rfl) rfl ?_|refine CO ω c ?_|refine CQ rfl rfl c rfl (O1 rfl) rfl ?_)
  ((conv=>whnf);refine CF (j+1) ω ω ?_)
  rw[u];simp only[aH,Ng];exact wB
 obtain rfl:j=k - 1:=ω
 repeat'(first|refine gE ?_|(conv=>whnf);first|refine CC ?_)
 rfl
def D3(b:Int):Nat->Nat
 | 0=>0
 | n+1=>D3 b n+(if bc b (n:Nat)=true then 1 else 0)
theorem De(b:Int):∀n,D3 b n<=n
 | 0=>W3 _
 | n+1=>by have:=De b n;grind [D3]
def w7(b:Int)(d:b<=9223372036854775807):zzA 525 false [.val none [I b]] .one [I (D3 b 16:Nat)]:=by
 refine fO 15 [] Tryz.func525 rfl ?_
 repeat'(first|refine gP ?_|fail)
 (conv=>whnf)
 refine CJ (ι:=Nat) (λk=>[(0,.H .one [I (b)]),(3,.H .one [I ((D3 b k:Nat):Int)]),(4,.H .one [I ((k:Nat):Int)])]) (λk=>k<=16) (λk=>16 - k) (0) ?_ (X0 _) λk g=>?_
 ·exact wB
 have h:=De b k;by_cases i:k<16
 ·have a:=iV b (k:Nat) d
  have c:D3 b (k+1)=D3 b k+(if bc b (k:Nat)=true then 1 else 0):=rfl;cases e:bc b (k:Nat)<;>rw[e]at a c
  all_goals
   repeat'(first|refine gE ?_|(conv=>whnf);first|refine C9 (a) ?_)
   ((conv=>whnf);refine CF (k+1) ω ω ?_)
   rw[c];exact wB
 obtain rfl:k=16:=ω
 repeat'(first|refine gE ?_|fail)
 rfl
def AY(h:ac)(s:aA):Bool:=decide (0<D3 s.a9 16)&&decide ((aW h s.R).length=1)
def mD(h:ac):Nat->List aA
 | 0=>[]
 | n+1=>if AY h (nth h.K n)=true then mD h n++[nth h.K n] else mD h n
def oN(h:ac):List aA:=mD h h.K.length
theorem yl(h:ac):∀n,(mD h n).length<=n
 | 0=>W3 _
 | n+1=>by have:=yl h n;grind [mD]
theorem nD(h:ac):∀{n:Nat},n<=h.K.length->∀s∈mD h n,s∈h.K
 | 0,_,s,a=>by cases a
 | n+1,b,s,a=>by
  simp only[mD]at a;split at a
  ·rcases V3.1 a with a|a
   ·exact nD h ω s a
   grind [ar]
  exact nD h ω s a
theorem yO(h:ac)(g:zo h)(o:h.K.length<=1000)(p:eU h<=1000)(i:∀s∈h.K,s.a9<=9223372036854775807):zzA 427 false [.val (some 24) (ac.enc .V h)] .one (cF .own (oN h)):=by
 refine fO 42 [(5,16,[13,14,15,16,17,18,19,20,21,22,23,24,25,26,27,28])] Tryz.func427 rfl ?_ (.inr (JH _))
 repeat'(first|refine gP ?_|fail)
 (conv=>whnf)
 refine CJ (ι:=Nat) (λk=>[(1,.H .box (ac.enc .V h)),(3,.H .one (cF .own (mD h k))),(4,.H .one [I ((k:Nat):Int)])]) (λk=>k<=h.K.length) (λk=>h.K.length - k) (0) ?_ (X0 _) λk q=>?_
 ·exact wB
 have j:=yl h k;by_cases e:k<h.K.length
 ·have c:=au e
  have d:=w7 (nth h.K k).a9 (i _ (ar e));have b:=i7 h (nth h.K k).R g;have l:=gv h (nth h.K k).R;have n:=De (nth h.K k).a9 16;have a:mD h (k+1)=if AY h (nth h.K k)=true then mD h k++[nth h.K k] else mD h k:=rfl
  by_cases r:0<D3 (nth h.K k).a9 16
  ·by_cases t:(aW h (nth h.K k).R).length=1
   ·rw[CD (by grind [AY])]at a
    repeat'(first|refine gB ?_|(conv=>whnf);first|refine CE (aa c) ?_|refine C9 (d) ?_|refine CG (b) ⟨⟨rfl,rfl⟩,⟨rfl,rfl⟩,trivial⟩ ?_|refine C9 (b) ?_|refine CC ?_|refine Ap.sm (aX λ_=>rfl) rfl (by simp;omega) (by decide) (iY (aA.enc .own) (mD h k) (nth h.K k)) ?_)
    ((conv=>whnf);refine CF (k+1) ω ω ?_)
    rw[a];exact wB
   rw[CB (by grind [AY])]at a
   repeat'(first|refine gB ?_|(conv=>whnf);first|refine CE (aa c) ?_|refine C9 (d) ?_|refine C9 (b) ?_|refine CC ?_)
   ((conv=>whnf);refine CF (k+1) ω ω ?_)
   rw[a];exact wB
  rw[CB (by grind [AY])]at a
  repeat'(first|refine gE ?_|(conv=>whnf);first|refine CE (aa c) ?_|refine C9 (d) ?_|refine C9 (b) ?_|refine CC ?_)
  ((conv=>whnf);refine CF (k+1) ω ω ?_)
  rw[a];exact wB
 obtain rfl:k=h.K.length:=ω
 repeat'(first|refine gE ?_|fail)
 rfl
def uJ(s:aA)(c:Nat):Bool:=bc s.a9 (((c:Nat):Int) / csz s.d)
def vr(s:aA)(n:Nat):List Int:=((List.range n).filter (uJ s)).map λ(i:Nat)=>(i:Int)
variable{s:aA}
def QC(h:uJ s n=true):vr s (n+1)=vr s n++[(n:Int)]:=by
 unfold vr;rw[List.range_succ,List.filter_append,V6];simp[h]
def T6(h:uJ s n=false):vr s (n+1)=vr s n:=by
 unfold vr;rw[List.range_succ,List.filter_append,V6];simp[h]
def tI(s:aA)(n:Nat):(vr s n).length<=n:=by
 unfold vr;rw[I1];exact I5 (List.length_filter_le _ _) (by simp)
def Rh(a:bi s=true){c:Nat}(d:c<16):0<=((c:Nat):Int) / csz s.d/\((c:Nat):Int) / csz s.d<=15:=by
 have f:=aI a;have b:csz s.d=1\/csz s.d=2\/csz s.d=4\/csz s.d=8:=cg ω;rcases b with e|e|e|e<;>rw[e]<;>omega
def pH(s:aA)(a:bi s=true):zzA 527 false [.val (some 3) (aA.enc .V s)] .one (aH .own (vr s 16)):=by
 have b:=gU s;rw[a]at b;have g:=aI a;have n:=cg g.2.2;refine fO 27 [(5,7,[14,15,16,17,18,19,20])] Tryz.func527 rfl ?_ (.inr (bT _))
 repeat'(first|refine gP ?_|fail)
 (conv=>whnf)
 refine CJ (ι:=Nat) (λi=>[(1,.H .box (aA.enc .V s)),(3,.H .one (aH .own (vr s i))),(4,.H .one [I ((i:Nat):Int)])]) (λi=>i<=16) (λi=>16 - i) (0) ?_ (X0 _) λi o=>?_
 ·exact wB
 have h:=tI s i;by_cases j:i<16
 ·have k:=Rh a j
  have d:IntKind.i64.wrap (((i:Nat):Int).tdiv (csz s.d))=((i:Nat):Int) / csz s.d:=by rw[p7 ω];exact gc ω ω
  have c:=iV s.a9 (((i:Nat):Int) / csz s.d) (fY a).2;cases e:uJ s i
  ·rw[show bc s.a9 (((i:Nat):Int) / csz s.d)=false from e]at c
   repeat'(first|refine gE ?_|(conv=>whnf);first|refine C9 (b) ?_|refine C9 (eC _) ?_|refine CP ω ?_|refine CN d ?_|refine C9 (c) ?_)
   ((conv=>whnf);refine CF (i+1) ω ω ?_)
   rw[T6 e];exact wB
  rw[show bc s.a9 (((i:Nat):Int) / csz s.d)=true from e]at c
  repeat'(first|refine gE ?_|(conv=>whnf);first|refine C9 (b) ?_|refine C9 (eC _) ?_|refine CP ω ?_|refine CN d ?_|refine C9 (c) ?_|refine CU cS (λr l=>by rw[V1.1 l];rfl) (by simp[bk,eD]) (by simp;omega) (by simp only[I1];exact y4 (by simp;omega) (by decide)) rfl ?_)
  ((conv=>whnf);refine CF (i+1) ω ω ?_)
  rw[QC e]
  (repeat'(first|exact trivial|rfl|exact CM rfl (CM (Z0 (C.s dY.own) (by simp[rI])) trivial)|refine CM ?_ ?_))
 obtain rfl:i=16:=ω
 repeat'(first|refine gE ?_|(conv=>whnf);first|refine C9 (b) ?_)
 rfl
structure gz where
 A:Int
 B:Int
deriving DecidableEq,Inhabited
def gz.enc(_:dY)(x:gz):List C:=[I x.A,I x.B]
def jV(o:dY)(x:List gz):List C:=[.s o (x.map (gz.enc o))]
def JB(x:List gz):iv (jV .own x):=⟨⟨.inl λh=>(by cases h),bj _ _ λ_ _=>⟨trivial,trivial,trivial⟩⟩,trivial⟩
def RN(i:Int)(p:gz):Bool:=decide (p.A=i) || decide (p.B=i)
def dl(a b:aA):cE:=if(vr a 16).length<(vr b 16).length then⟨b.R,a.R,vr a 16⟩ else⟨a.R,b.R,vr b 16⟩
def zF(a b:aA)(g:meshable a b=true)(h:bi a=true)(i:bi b=true):zzA 429 false [.val (some 3) (aA.enc .V a),.val (some 3) (aA.enc .V b)] (.tup [some 3,none]) (cE.enc .own (dl a b)++[B true]):=by
 have c:=mN a b;rw[g]at c;have d:=pH a h;have e:=pH b i;have j:=tI a 16;have k:=tI b 16;unfold dl;split
 ·refine fO 27 [(3,6,[11,12,13,14,15,16]),(5,6,[20,21,22,23,24,25])] Tryz.func429 rfl ?_ (.inr (aL (cE.enc_fr _) ⟨trivial,trivial⟩))
  repeat'(first|refine gE ?_|(conv=>whnf);first|refine C9 (c) ?_|refine C9 (d) ?_|refine C9 (e) ?_|refine CC ?_)
  rfl
 refine fO 27 [(3,6,[11,12,13,14,15,16]),(5,6,[20,21,22,23,24,25])] Tryz.func429 rfl ?_ (.inr (aL (cE.enc_fr _) ⟨trivial,trivial⟩))
 repeat'(first|refine gE ?_|(conv=>whnf);first|refine C9 (c) ?_|refine C9 (d) ?_|refine C9 (e) ?_|refine CC ?_)
 rfl
def u7(p:cE):cK:=⟨p,0,0⟩
def GH(p:cE)(c:fm p=true)(a:cE.sml p):zzA 430 false [.val (some 3) (cE.enc .V p)] (.tup [some 5,none]) (cK.enc .own (u7 p)++[B true]):=by
 have b:=wi p a;rw[c]at b;have d:=sL (u7 p) a;refine fO 11 [] Tryz.func430 rfl ?_ (.inr (aL (cK.enc_fr _) ⟨trivial,trivial⟩))
 repeat'(first|refine gP ?_|(conv=>whnf);first|refine C9 (b) ?_|refine C9 (d) ?_)
 rfl
def vo(n:Nat){s:Int}(c:0<=s/\s<=1073741823):∀{j:Nat},j<=n - 1->∀x∈(ig n s j).1,0<=x/\x<n
 | 0,_,x,a=>by
  simp only[ig,sV,Y4,List.mem_range]at a;obtain⟨i,d,rfl⟩:=a;omega
 | j+1,e,x,a=>by
  have f:=(nA n c j).1;have b:=vo n c (j:=j) ω;have g:=sq (ig n s j).2 (n:=((n - 1 - j:Nat)+1:Int)) ω;simp only[ig,xF]at a;rcases O7 a with a|rfl
  ·rcases O7 a with a|rfl
   ·exact b x a
   exact b _ (ar ω)
  exact b _ (ar ω)
def tkn(out:List gz)(a:Int):Bool:=out.any (RN a)
def stp(a:List aA)(p:List Int)(t i:Nat)(out:List gz):List gz:=
 if tkn out (nth p i)=false/\tkn out (nth p (p.length / 2+(i+t) % (p.length - p.length / 2)))=false/\meshable (nth a (nth p i).toNat) (nth a (nth p (p.length / 2+(i+t) % (p.length - p.length / 2))).toNat)=true then out++[⟨nth p i,nth p (p.length / 2+(i+t) % (p.length - p.length / 2))⟩] else out
def wF(a:List aA)(p:List Int)(t:Nat)(out:List gz):Nat->List gz
 | 0=>out
 | i+1=>stp a p t i (wF a p t out i)
def sG(a:List aA)(p:List Int):Nat->List gz
 | 0=>[]
 | t+1=>wF a p t (sG a p t) (p.length / 2)
def QD(a:List aA)(p:List Int)(t i:Nat)(out:List gz):(stp a p t i out).length<=out.length+1:=by unfold stp;split<;>simp
def yG(a:List aA)(p:List Int)(t:Nat)(out:List gz):∀i,(wF a p t out i).length<=out.length+i
 | 0=>W3 _
 | i+1=>by have b:=yG a p t out i;have c:=QD a p t i (wF a p t out i);simp only[wF];omega
def Gv(a:List aA)(p:List Int):∀t,(sG a p t).length<=t*(p.length / 2)
 | 0=>X0 _
 | t+1=>by have b:=Gv a p t;have c:=yG a p t (sG a p t) (p.length / 2);simp only[sG];rw[Nat.add_mul];omega
def mq(a:List aA)(s:Int):List gz:=sG a (shuf a.length s).1 3
def oV(n:Nat)(out:List gz):List Bool:=(List.range n).map λ(i:Nat)=>tkn out (i:Nat)
variable{a:Int}{out:List gz}
def KI(h:0<=a/\a<n):(oV n out)[a.toNat]? = some (tkn out a):=by
 unfold oV;rw[X3,W7 ω];show some (tkn out ((a.toNat:Nat):Int))=_;rw[Int.toNat_of_nonneg h.1]
variable{b:Int}
def Ny(f:0<=a/\a<n)(g:0<=b/\b<n):oV n (out++[⟨a,b⟩])=((oV n out).set a.toNat true).set b.toNat true:=by
 unfold oV;apply List.ext_getElem?;intro i;by_cases c:i<n
 ·rw[X3,W7 c]
  by_cases d:b.toNat=i
  ·subst d
   rw[v4 (by simp;omega)];simp only[Y5,tkn,List.any_append,List.any_cons,List.any_nil,RN];rw[Int.toNat_of_nonneg g.1];simp
  rw[List.getElem?_set_ne d];by_cases e:a.toNat=i
  ·subst e
   rw[v4 (by simp;omega)];simp only[Y5,tkn,List.any_append,List.any_cons,List.any_nil,RN];rw[Int.toNat_of_nonneg f.1];simp
  rw[List.getElem?_set_ne e,X3,W7 c];simp only[Y5,tkn,List.any_append,List.any_cons,List.any_nil,RN];rw[W0 ω,W0 ω];simp
 rw[z3 (by simp;omega),z3 (by simp;omega)]
def RC(n:Nat):(oV n []).map (rB .own)=List.replicate n [B false]:=by
 unfold oV;rw[List.map_map];apply List.ext_getElem?;intro i;rw[X3];by_cases a:i<n
 ·rw[W7 a,List.getElem?_replicate];simp[a];rfl
 rw[z3 (by simp;omega),List.getElem?_replicate];simp[a]
def Lu{xs:List Bool}{k:Nat}(v:Bool)(a:k<xs.length):((xs.map (rB .own)).set i (rB .own v))[k]? = some (rB .own (nth (xs.set i v) k)):=by
 rw[<-Z6];exact aa (au (by rw[Z1];exact a))
def wt(c:List aA)(s:Int)(u:0<=s/\s<=1073741823)(V:c.length<=16):zzA 428 false [.val none (cF .V c),.val none [I s],.val none [I 3]] (.tup [none,none]) (jV .own (mq c s)++[I (shuf c.length s).2]):=by
 have J:=aK s 0 1073741823;rw[O0 u]at J;have K:=aK 3 0 16;rw[O0 ω]at K;have Q:=Ac c.length s u ω;have D:=(nA c.length u (c.length - 1)).1;have e:=vo c.length u (W3 _);unfold mq;change (shuf c.length s).1.length=_ at D;change ∀x∈(shuf c.length s).1,_ at e
 have E:iv (jV .own (sG c (shuf c.length s).1 3)++[I (shuf c.length s).2]):=aL (JB _) ⟨trivial,trivial⟩;generalize shuf c.length s=q at *;obtain⟨p,z⟩:=q;simp only at *;have F:((p.length:Nat):Int).tdiv 2=((p.length / 2:Nat):Int):=by rw[Int.tdiv_eq_ediv_of_nonneg ω];omega
 have g:C.s dY.own ((oV c.length []).map (rB .own))=C.s dY.own (List.replicate c.length [B false]):=by rw[RC]
 have h:∀i:Nat,i<p.length->0<=nth p i/\nth p i<c.length:=λi R=>e _ (ar R)
 refine fO 110 [(15,21,[73,74,75,76,77,78,79,80,81,82,83,84,85,86,87,88,89,90,91,92,93])] Tryz.func428 rfl ?_ (.inr E)
 repeat'(first|refine gE ?_|(conv=>whnf);first|with_reducible refine CN ((Z0 _ F).trans (gc ω ω)) ?_|refine C9 (J) ?_|refine C9 (K) ?_|refine C9 (Q) ?_|refine CP (by decide) ?_|refine Mk.mk c.length rfl rfl ω (y4 ω (by decide)) rfl ?_)
 (conv=>whnf)
 refine CJ (ι:=Nat) (λt=>[(0,.H .one (cF .V c)),(2,.H .one [I (3)]),(8,.H .one (jV .own (sG c p t))),(9,.H .one (aH .own p)),(10,.H .one [I (z)]),(11,.H .one [I (((p.length / 2):Nat):Int)]),(12,.H .one (wV .own (oV c.length (sG c p t)))),(13,.H .one [I ((t:Nat):Int)])]) (λt=>t<=3) (λt=>3 - t) (0) ?_ (X0 _) λt S=>?_
 ·repeat'(first|exact trivial|rfl |exact pM g|refine CM ?_ ?_|(exact EO (by first|omega|(simp only;omega)|(simp;omega))))
 have W:=Gv c p t;have ol2:t*(p.length / 2)<=3*8:=Nat.mul_le_mul S ω;by_cases X:t<3
 ·repeat'(first|refine gE ?_|fail)
  (conv=>whnf)
  refine CJ (ι:=Nat) (λj=>[(0,.H .one (cF .V c)),(2,.H .one [I (3)]),(8,.H .one (jV .own (wF c p t (sG c p t) j))),(9,.H .one (aH .own p)),(10,.H .one [I (z)]),(11,.H .one [I (((p.length / 2):Nat):Int)]),(12,.H .one (wV .own (oV c.length (wF c p t (sG c p t) j)))),(13,.H .one [I ((t:Nat):Int)]),(14,.H .one [I ((j:Nat):Int)])]) (λj=>j<=p.length / 2) (λj=>p.length / 2 - j) (0) ?_ (X0 _) λj Y=>?_
  ·repeat'(first|exact trivial|rfl |exact pM g|refine CM ?_ ?_|(exact EO (by first|omega|(simp only;omega)|(simp;omega))))
  have Z:=yG c p t (sG c p t) j;by_cases lj:j<p.length / 2
  ·have L:(j+t) % (p.length - p.length / 2)<p.length - p.length / 2:=Nat.mod_lt _ ω
   have G:((j:Int)+t).tmod ((p.length:Int) - (p.length / 2:Nat))=(((j+t) % (p.length - p.length / 2):Nat):Int):=by
    rw[fR ω,Int.natCast_emod];congr 1;omega
   have d:wF c p t (sG c p t) (j+1)=stp c p t j (wF c p t (sG c p t) j):=rfl;unfold stp at d;generalize wF c p t (sG c p t) j=out at *;have l:p.length / 2+(j+t) % (p.length - p.length / 2)<p.length:=ω
   generalize hk:(j+t) % (p.length - p.length / 2)=k at *;have n:=au (xs:=p) (i:=j) ω;have o:=au (xs:=p) (i:=p.length / 2+k) l;have w:=h j ω;have r:=h _ l;generalize nth p j=a at *;generalize nth p (p.length / 2+k)=b at *;have y:=KI (out:=out) w;have H:=KI (out:=out) r;have T:=au (xs:=c) (i:=a.toNat) ω;have U:=au (xs:=c) (i:=b.toNat) ω;have M:=mN (nth c a.toNat) (nth c b.toNat);have ub2:=Lu (xs:=oV c.length out) (i:=a.toNat) (k:=b.toNat) true (by simp[oV];omega);cases N:tkn out a<;>cases O:tkn out b<;>cases P:meshable (nth c a.toNat) (nth c b.toNat)
   all_goals
    rw[N]at y;rw[O]at H;rw[P]at M;rw[N,O,P]at d;simp only[and_true,true_and,if_true,Bool.false_eq_true,Bool.true_eq_false,and_false,false_and,if_false]at d
    repeat'(first|refine gE ?_|(conv=>whnf);first|refine CV G ?_|refine CP ω ?_|refine CE (aa n) ?_|refine CO ω (aa o) ?_|refine CO w.1 (aa y) ?_|refine CO r.1 (aa H) ?_|refine CO w.1 (aa T) ?_|refine CO r.1 (aa U) ?_|refine CK rfl (aa n) rfl ?_|refine CK rfl (aa o) rfl ?_|refine CK rfl (aa y) rfl ?_|refine CK rfl (aa H) rfl ?_|refine C9 (M) ?_|refine CC ?_|refine CQ rfl rfl (aa y) rfl (O1 rfl) rfl ?_|refine CO r.1 ub2 ?_|refine CQ rfl rfl ub2 rfl (O1 rfl) rfl ?_|refine Ap.sm (aX λ_=>rfl) rfl (by simp;omega) (by decide) (iY (gz.enc .own) out ⟨a,b⟩) ?_)
    ((conv=>whnf);refine CF (j+1) ω ω ?_)
    rw[d]
    first|(rw[Ny w r];simp only[wV,Z6])|skip
    exact wB
  obtain rfl:j=p.length / 2:=ω
  repeat'(first|refine gE ?_|fail)
  ((conv=>whnf);refine CF (t+1) ω ω ?_;(exact wB))
 obtain rfl:t=3:=ω
 repeat'(first|refine gE ?_|fail)
 rfl
def J0(x:List gz):dG (jV .own x)=jV .V x:=by simp[dG,jV,gz.enc,<-ch,W6]
variable{rcs:List C}{sh:Bool}
def ay.fzR{A:List RA}{k:Kd}(h:ay P f sh A k rcs):ay P f sh A k (dG rcs):=by
 obtain⟨c,d⟩:=h;refine⟨c,λw S g i j=>(d w S g i j).mono λe w1 l=>?_⟩;obtain⟨v,n,p,X,q,r,t,B,u,y⟩:=l;refine⟨v,n,p,NO,λb o=>q b o\/X b o,λ_ _ h=>h.elim,λb o a=>?_,λ_ _ h=>h.elim,by rw[ch,I1];exact u,y.freeze⟩;rcases a with a|a
 ·exact t b o a
 exact .inr (r b o a)
structure QO(ls:List aA)(q:gz):Prop where
 a:0<=q.A/\q.A<ls.length
 b:0<=q.B/\q.B<ls.length
 m:meshable (nth ls q.A.toNat) (nth ls q.B.toNat)=true
def Lg{b:List aA}{p:List Int}(c:∀x∈p,0<=x/\x<b.length)(t:Nat){out:List gz}(d:∀q∈out,QO b q):∀{i:Nat},i<=p.length / 2->∀q∈wF b p t out i,QO b q
 | 0,_=>d
 | i+1,h=>λq a=>by
  have e:=Lg c t d (i:=i) ω;simp only[wF,stp]at a;split at a
  ·rename_i g
   rcases V3.1 a with a|a
   ·exact e q a
   obtain rfl:=V1.1 a;have f:(i+t) % (p.length - p.length / 2)<p.length - p.length / 2:=Nat.mod_lt _ ω;exact⟨c _ (ar ω),c _ (ar ω),g.2.2⟩
  exact e q a
def KS{a:List aA}{p:List Int}(b:∀x∈p,0<=x/\x<a.length):∀t,∀q∈sG a p t,QO a q
 | 0=>λq c=>by cases c
 | t+1=>Lg b t (KS b t) (W3 _)
def nK(a:List aA){s:Int}(b:0<=s/\s<=1073741823):∀q∈mq a s,QO a q:=KS (vo a.length b (W3 _)) 3
def Ri(s:aA)(n:Nat):(vr s n).Pairwise (· < ·):=by
 unfold vr;rw[List.pairwise_map];exact(List.pairwise_lt_range.sublist List.filter_sublist).imp λh=>ω
def TN : ∀z∈vr s n,0<=z/\z<n:=λz a=>by
 unfold vr at a;simp only[Y4,Z4,List.mem_range]at a;obtain⟨c,⟨b,-⟩,rfl⟩:=a;omega
def y1(s:aA):dh (vr s 16).length (mP (vr s 16))=true:=by
 refine cC.2 λj a=>?_
 have c:=TN _ (ar a);unfold mP;refine O0 ⟨ω,ω,?_⟩;by_cases e:j=0
 ·exact .inl e
 refine .inr ?_;have b:=List.pairwise_iff_getElem.1 (Ri s 16) (j - 1) j ω a ω;rw[show nth (vr s 16) (j - 1)=(vr s 16)[j - 1] from bn (X2 ω),show nth (vr s 16) j=(vr s 16)[j] from bn (X2 a)];exact b
def uA{a b:aA}(c:meshable a b=true):fm (dl a b)=true/\bi a=true/\bi b=true:=by
 unfold meshable at c;simp only[I0,C0]at c;have d:=aI c.1.1;have e:=aI c.1.2;refine⟨?_,c.1⟩;unfold dl fm;split
 ·simp only[I0,C0];exact⟨y1 a,ω⟩
 simp only[I0,C0];exact⟨y1 b,ω⟩
def Jv(a b:aA):cE.sml (dl a b):=by
 have c:=tI a 16;have d:=tI b 16;unfold dl cE.sml tj;split<;>simp only<;>omega
def bJ(h:ac):List aA:=(oN h).take 16
def started(h:ac):ac × Bool:=match mq (bJ h) h.b3 with
 | []=>({h with b3:=(shuf (bJ h).length h.b3).2},false)
 | q::_=>({h with b3:=(shuf (bJ h).length h.b3).2,u:=true,Z:=u7 (dl (nth (bJ h) q.A.toNat) (nth (bJ h) q.B.toNat))},true)
def PP(a:aZ h E):h.K.length<=32/\eU h<=32/\zo h/\∀s∈h.K,s.a9<=9223372036854775807:=by
 have b:=a.lens;refine⟨b.spans,b.ents,?_,λs c=>by have:=dP (a.L.sok s c);omega⟩;have:=(bv a.ker).1.2;exact this
def HI(h:ac):(bJ h).length<=16:=by unfold bJ;rw[C2];omega
def Tn(x:List gz)(z:Int):dG (jV .own x++[I z])=jV .V x++[I z]:=by
 have h:=J0 x;rw[ch]at h |-;rw[V6,h];simp[fz]
def TB(h:ac):(bJ h).map (aA.enc .V)=((oN h).map (aA.enc .V)).take 16:=W4
def HG(p:cE)(b:fm p=true)(c:cE.sml p):zzA 430 false [.val (some 3) (cE.enc .V p)] (.tup [some 5,none]) (zz (u7 p)++[B true]):=by
 have h:=(GH p b c).fzR;have e:dG (cK.enc .own (u7 p)++[B true])=zz (u7 p)++[B true]:=by
  have a:=cK.enc_fz (u7 p);rw[ch]at a |-;rw[V6,a];simp[fz,cK.enc,zz]
 rwa [e]at h
def Aj(h:ac)(w:aZ h []):zzB 279 false [.ptr (bF h)] [.ptr (bF (started h).1)] .one [B (started h).2]:=by
 obtain⟨w1,Q,H,J⟩:=PP w;have a:=w.nums;unfold cq at a;rw[C0]at a;have e:=(yO h H ω ω J).fzR;rw[za]at e;have o:=HI h;have b:=(wt (bJ h) h.b3 ⟨a.1,a.2.1⟩ o).fzR;rw[Tn]at b;have g:=nK (bJ h) ⟨a.1,a.2.1⟩;have K:=yl h h.K.length;have y:(oN h).length<=32:=by unfold oN;omega
 have j:=TB h;unfold started;cases C:mq (bJ h) h.b3 with
 | nil=>
  rw[C]at b;by_cases L:16<(oN h).length
  ·refine fM 62 [] [(8,275,[34,35,36,37,38,39,40,41,42,43,44,45,46,47,48,33,49,50,6,0,1,2,3,4,5,6,7,8,9,10,11,12,13,14,15,16,17,18,19,1017,20])] [(0,0)] Tryz.func279 rfl (λu q=>?_)
   repeat'(first|refine gE ?_|(conv=>whnf);first|refine CC ?_|refine CG (e) ⟨⟨rfl,bL h⟩,trivial⟩ ?_|refine C9 (b) ?_|refine CZ 16 rfl (by rw[I1];omega) (aX λ_=>rfl) j ?_)
   refine CH rfl rfl ?_;exact wC
  have k:bJ h=oN h:=by unfold bJ;exact Z7 ω
  rw[k]at b;refine fM 62 [] [(8,275,[34,35,36,37,38,39,40,41,42,43,44,45,46,47,48,33,49,50,6,0,1,2,3,4,5,6,7,8,9,10,11,12,13,14,15,16,17,18,19,1017,20])] [(0,0)] Tryz.func279 rfl (λu q=>?_);rw[k]
  repeat'(first|refine gE ?_|(conv=>whnf);first|refine CC ?_|refine CG (e) ⟨⟨rfl,bL h⟩,trivial⟩ ?_|refine C9 (b) ?_)
  refine CH rfl rfl ?_;exact wC
 | cons q M=>
  rw[C]at b g;obtain⟨E,F,G⟩:=g q (I2 ..);obtain⟨N,O,P⟩:=uA G;have p:=zF _ _ G O P;have t:=HG _ N (Jv _ _);have c:=au (xs:=bJ h) (i:=q.A.toNat) ω;have d:=au (xs:=bJ h) (i:=q.B.toNat) ω;have l:(q::M)[0]? = some q:=rfl;by_cases L:16<(oN h).length
  ·refine fM 62 [] [(8,275,[34,35,36,37,38,39,40,41,42,43,44,45,46,47,48,33,49,50,6,0,1,2,3,4,5,6,7,8,9,10,11,12,13,14,15,16,17,18,19,1017,20])] [(0,0)] Tryz.func279 rfl (λu r=>?_)
   repeat'(first|refine gE ?_|(conv=>whnf);first|with_reducible refine Bf.D (λn=>absurd n (by simp)) (λn=>?_)|refine CC ?_|refine CG (e) ⟨⟨rfl,bL h⟩,trivial⟩ ?_|refine C9 (b) ?_|refine CZ 16 rfl (by rw[I1];omega) (aX λ_=>rfl) j ?_|refine CO (by decide) (aa l) ?_|refine CO E.1 (aa c) ?_|refine CO F.1 (aa d) ?_|refine C9 (p) ?_|refine CG (t) ⟨⟨rfl,cE.enc_fz _⟩,trivial⟩ ?_|refine CC ?_)
   refine CH rfl rfl ?_;exact wC
  have k:bJ h=oN h:=by unfold bJ;exact Z7 ω
  rw[k]at b p t c d;refine fM 62 [] [(8,275,[34,35,36,37,38,39,40,41,42,43,44,45,46,47,48,33,49,50,6,0,1,2,3,4,5,6,7,8,9,10,11,12,13,14,15,16,17,18,19,1017,20])] [(0,0)] Tryz.func279 rfl (λu r=>?_);rw[k]
  repeat'(first|refine gE ?_|(conv=>whnf);first|with_reducible refine Bf.D (λn=>absurd n (by simp)) (λn=>?_)|refine CC ?_|refine CG (e) ⟨⟨rfl,bL h⟩,trivial⟩ ?_|refine C9 (b) ?_|refine CO (by decide) (aa l) ?_|refine CO E.1 (aa c) ?_|refine CO F.1 (aa d) ?_|refine C9 (p) ?_|refine CG (t) ⟨⟨rfl,cE.enc_fz _⟩,trivial⟩ ?_|refine CC ?_)
  refine CH rfl rfl ?_;exact wC
def Jf(xs:List Int)(x:Int)(h:xs.length<=4611686018427387904):zzA 435 false [.val none (aH .V xs),.val none [I x]] .one [I (cZ (λy=>decide (y=x)) xs)]:=by
 refine fO 19 [] Tryz.func435 rfl ?_
 repeat'(first|refine gP ?_|(conv=>whnf);first|refine CC ?_)
 (conv=>whnf)
 refine CJ (ι:=Nat) (λi=>[(0,.H .one (aH .V xs)),(1,.H .one [I (x)]),(7,.H .one [I (xs.length)]),(8,.H .one [I ((i:Nat):Int)])]) (λi=>i<=xs.length/\∀(j:Nat)(z:Int),j<i->xs[j]? = some z->decide (z=x)=false) (λi=>xs.length - i) (0) ?_ (⟨X0 _,λj z d _=>absurd d (Nat.not_lt_zero _)⟩) λi c=>?_
 ·exact wB
 obtain⟨c,b⟩:=c;by_cases g:i<xs.length
 ·have a:=au g
  by_cases e:nth xs i=x
  ·repeat'(first|refine gE ?_|(conv=>whnf);first|with_reducible refine CE (aa a) ?_|refine CC ?_|refine Bf.t (by simp[e]) ?_)
   exact Z0 (λz=>[I z]) (dQ a (O0 e) b).symm
  repeat'(first|refine gE ?_|(conv=>whnf);first|with_reducible refine CE (aa a) ?_|refine CC ?_|refine Bf.f (by simp[Ne.symm e]) ?_)
  ((conv=>whnf);refine CF (i+1) ⟨ω,eg a (W0 e) b⟩ ω ?_;(exact wB))
 repeat'(first|refine gE ?_|(conv=>whnf);first|refine CC ?_)
 exact Z0 (λz=>[I z]) (gq ω b).symm
def qW(xs:List Int)(x:Int)(a:xs.length<=4611686018427387904):zzA 287 false [.val none (aH .V xs),.val none [I x]] .one [B (decide (x∈xs))]:=by
 refine fO 9 [] Tryz.func287 rfl ?_
 repeat'(first|refine gP ?_|(conv=>whnf);first|refine CC ?_|refine C9 (Jf xs x a) ?_)
 exact Z0 (λz=>[B z]) ((by rw[nq];rw[C5];simp))
def cn(k:ah):ah:={k with Calls:=k.Calls+1}
def refd(k:ah):Bool:=decide (k.Calls∈k.w)
def Ed(k:ah)(a:ah.sml k)(d:0<=k.Calls/\k.Calls<=100000):zzA 459 false [.val (some 5) (ah.enc .V k)] (.tup [some 5,none]) (ah.enc .own (cn k)++[B (!refd k)]):=by
 have c:=i6 k a;have g:k.w.length<=1048576:=a.2;have b:=qW k.w k.Calls ω;unfold refd;cases e:decide (k.Calls∈k.w)<;>rw[e]at b
 all_goals
  refine fO 18 [(3,263,[11,12,13,14,15,16,17,0,1,2,3,4,5,6,7,1006,8])] Tryz.func459 rfl ?_ (.inr (aL (Ce _) ⟨trivial,trivial⟩))
  repeat'(first|refine gP ?_|(conv=>whnf);first|refine CC ?_|refine C9 (c) ?_|refine C9 (b) ?_|refine CC ?_)
  rfl
def j7(k:ah)(p:Int)(m:Int):ah:={k with F:=⟨k.F.W,⟨k.F.Q.J.set p.toNat {nth k.F.Q.J p.toNat with e:=m}⟩⟩}
def jX(k:ah)(p m:Int):ah × Bool:=if refd k=true then(cn k,false) else(j7 (cn k) p m,true)
def MG(k:ah)(p m:Int):ah.enc .own (j7 k p m)=(ah.enc .own k).set 2 (.s .own ((k.F.Q.J.map (bh.enc .own)).set p.toNat (bh.enc .own {nth k.F.Q.J p.toNat with e:=m}))):=by
 simp[ah.enc,j7,Z6]
variable{k:ah}
def row16(a:aC k=true)(b:f<k.F.W.T.length):(nth k.F.W.T f).length=16:=by
 have:=(bf.1 (aG.1 a).2.1).2.2.2 f b;unfold im at this;simp only[I0,C0]at this;omega
def setCell(k:ah)(f:Nat)(c v:Int):ah:={k with F:=⟨⟨k.F.W.T.set f ((nth k.F.W.T f).set c.toNat v),k.F.W.a1⟩,k.F.Q⟩}
def Gd(k:ah)(f:Nat)(c v:Int):ah.enc .own (setCell k f c v)=(ah.enc .own k).set 0 (.s .own ((k.F.W.T.map (aH .own)).set f [.s .own (((nth k.F.W.T f).map (rI .own)).set c.toNat [I v])])):=by
 simp[ah.enc,setCell,Z6,aH,rI]
def bP(k:ah)(p:Int):Nat:=(af k.F.Q p).o.toNat
def tO(k:ah)(a b c:Int):ah:=setCell k (bP k b) c (nth (nth k.F.W.T (bP k a)) c.toNat)
def Ta(k:ah)(a b c:Int):Nat->ah
 | 0=>k
 | _+1=>tO k a b c
def wq(k:ah)(p:Nat)(e:bh):ah:={k with F:=⟨k.F.W,⟨k.F.Q.J.set p e⟩⟩}
def Qb(k:ah)(p:Nat)(e:bh):ah.enc .own (wq k p e)=(ah.enc .own k).set 2 (.s .own ((k.F.Q.J.map (bh.enc .own)).set p (bh.enc .own e))):=by
 simp[ah.enc,wq,Z6]
def Qz(p:Nat)(e:bh)(h:aJ.sml k.F.Q):aJ.sml (wq k p e).F.Q:=by
 refine⟨?_,λx _=>trivial⟩;show(k.F.Q.J.set p e).length<=_;rw[Z1];exact h.1
def w8(k:ah)(p o:Int):ah × Bool:=if refd k=true then(cn k,false) else(gn (wq (cn k) p.toNat ⟨2,(nth k.F.Q.J o.toNat).o⟩) (nth k.F.Q.J p.toNat).o,true)
def jo(m:aY)(a v:Int):aY × Int:=
 if(af m.Q (a / 16)).e=0 then(m,1) else if(af m.Q (a / 16)).e=1 then(m,2) else
 (⟨⟨m.W.T.set (af m.Q (a / 16)).o.toNat ((nth m.W.T (af m.Q (a / 16)).o.toNat).set (a % 16).toNat v),m.W.a1⟩,m.Q⟩,0)
def HC(m:aY)(f:Nat)(c v:Int):aY.enc .own ⟨⟨m.W.T.set f ((nth m.W.T f).set c.toNat v),m.W.a1⟩,m.Q⟩ = (aY.enc .own m).set 0 (.s .own ((m.W.T.map (aH .own)).set f [.s .own (((nth m.W.T f).map (rI .own)).set c.toNat [I v])])):=by
 simp[aY.enc,Z6,aH,rI]
def jmay(k:ah)(j:cK):Bool:=(aC k&&decide (k.Calls≠100000))&&(kj j&&decide ((af k.F.Q j.X.a4).e≠0/\(af k.F.Q j.X.a2).e≠0/\(af k.F.Q j.X.a4).o≠(af k.F.Q j.X.a2).o))
def jstep(k:ah)(j:cK):ah × cK:=
 if j.b0=0 then((jX k j.X.a2 1).1,{j with b0:=if(jX k j.X.a2 1).2=true then 1 else 5})
 else if j.b0=1 then(if j.b=j.X.T.length then(k,{j with b0:=2}) else(tO k j.X.a2 j.X.a4 (nth j.X.T j.b.toNat),{j with b:=j.b+1}))
 else if j.b0=2 then((w8 k j.X.a2 j.X.a4).1,{j with b0:=if(w8 k j.X.a2 j.X.a4).2=true then 4 else 3})
 else if j.b0=3 then(if 0<j.b then({k with F:=(jo k.F (j.X.a4*16+nth j.X.T (j.b - 1).toNat) 0).1},{j with b:=j.b - 1}) else((jX k j.X.a2 2).1,{j with b0:=if(jX k j.X.a2 2).2=true then 5 else 3}))
 else(k,j)
def Pr{f:Int}(h1:∀j,j<k.w.length->0<=nth k.w j)(d:db k.F.W=true)(g:gF k.F.Q k.F.W.a1.length=true)(h:∀j:Nat,j<k.F.W.a1.length->(j:Int)≠f->nth k.F.W.a1 j=decide (0<(pagesOn k.F.Q (j:Int)).length))(t:0<=f/\f<k.F.W.a1.length)(l:nth k.F.W.a1 f.toNat=true)(i:0<=k.Calls/\k.Calls<=100000/\k.w.length<=40):aC (gn k f)=true:=by
 obtain⟨n,o,p,q⟩:=bf.1 d;unfold gn;split
 ·rename_i c
  rw[aG];simp only[Z1];refine⟨h1,?_,g,λj b=>?_,i⟩
  ·rw[bf]
   simp only[Z1,bI];refine⟨n,o,p,λj b=>?_⟩;by_cases a:f.toNat=j
   ·rw[CD ⟨a,b⟩,CD ⟨a,ω⟩];decide
   rw[CB (λe=>a e.1),CB (λe=>a e.1)];exact q j b
  rw[bI];by_cases a:f.toNat=j
  ·rw[CD ⟨a,b⟩]
   have:(j:Int)=f:=ω
   rw[this];exact(W0 λr=>absurd c (Nat.ne_of_gt r)).symm
  rw[CB (λe=>a e.1)];exact h j b ω
 rename_i c;rw[aG];refine⟨h1,d,g,λj b=>?_,i⟩;by_cases a:(j:Int)=f
 ·rw[a,show j=f.toNat by omega,l]
  exact(O0 (Nat.pos_of_ne_zero c)).symm
 exact h j b a
def tEq(t a:aJ):Prop:=a.J.length=t.J.length/\∀q:Nat,((nth a.J q).e≠0↔(nth t.J q).e≠0)/\(nth a.J q).o=(nth t.J q).o
def tEq.refl(t:aJ):tEq t t:=⟨rfl,λ_=>⟨Iff.rfl,rfl⟩⟩
def tEq.of{t a:aJ}(h:a=t):tEq t a:=by rw[h];exact tEq.refl t
def tEq.pagesOn{t a:aJ}(h:tEq t a)(f:Int):Ab.pagesOn a f=Ab.pagesOn t f:=by
 unfold Ab.pagesOn j8;rw[h.1]
 congr 1
 refine List.filter_congr λq _=>?_
 obtain⟨b,c⟩:=h.2 q;unfold MS;rw[c];exact decide_eq_decide.2 (and_congr b Iff.rfl)
def DK(h:aC k=true){a:aJ}(c:tEq k.F.Q a)(i:∀q,q<a.J.length->0<=(nth a.J q).e/\(nth a.J q).e<=2):aC {k with F:=⟨k.F.W,a⟩} = true:=by
 obtain⟨l,n,o,p,r⟩:=aG.1 h;obtain⟨t,u,w⟩:=br.1 o;rw[aG];refine⟨l,n,br.2 ⟨λj b=>?_,?_,?_⟩,λj b=>?_,r⟩
 ·replace b:j<a.J.length:=b
  have e:=t j (by rw[<-c.1];exact b);have d:=i j b;obtain⟨g,y⟩:=c.2 j;show lS _ (nth a.J j)=true;unfold lS at e |-;rw[C0]at e |-;rw[y];refine⟨d.1,d.2,λf=>e.2.2.1 (Classical.byContradiction λA=>(g.2 A) f),λf=>e.2.2.2 (g.1 f)⟩
 ·show 1<=a.J.length;rw[c.1];exact u
 ·show a.J.length<=32;rw[c.1];exact w
 show nth k.F.W.a1 j=decide (0<(Ab.pagesOn a (j:Int)).length);rw[c.pagesOn];exact p j b
def nu(h:aC k=true)(f:k.Calls≠100000):aC (cn k)=true:=by
 obtain⟨a,b,c,d,g,i,e⟩:=aG.1 h;rw[aG];exact⟨a,b,c,d,by show 0<=k.Calls+1;omega,by show k.Calls+1<=100000;omega,e⟩
variable{p:Int}
def uF{m:Int}(a:(nth k.F.Q.J p.toNat).e≠0)(b:m=1\/m=2):tEq k.F.Q (j7 k p m).F.Q:=by
 refine⟨by simp[j7],λq=>?_⟩;simp only[j7,bI];split
 ·rename_i e
  rw[<-e.1];exact⟨⟨λ_=>a,λ_=>by show m≠0;omega⟩,rfl⟩
 exact⟨Iff.rfl,rfl⟩
def Nz(h:aC k=true){m:Int}(d:(nth k.F.Q.J p.toNat).e≠0)(a:m=1\/m=2):aC (j7 k p m)=true:=by
 refine DK h (uF d a) λq e=>?_
 obtain⟨i,j,f,l,n⟩:=aG.1 h;obtain⟨g,o,r⟩:=br.1 f;have c:q<k.F.Q.J.length:=by rw[<-(uF d a).1];exact e
 have b:=g q c;unfold lS at b;rw[C0]at b;simp only[bI];split
 ·show 0<=m/\m<=2;omega
 exact⟨b.1,b.2.1⟩
def GC{m:Int}(h:aC k=true)(c:k.Calls≠100000)(b:(af k.F.Q p).e≠0)(a:m=1\/m=2):aC (jX k p m).1=true/\tEq k.F.Q (jX k p m).1.F.Q:=by
 obtain⟨e,f,d,-⟩:=bY h b;rw[d]at b;unfold jX;split
 ·exact⟨nu h c,tEq.refl _⟩
 exact⟨Nz (nu h c) b a,uF (k:=cn k) b a⟩
def gS(h:aC k=true)(b:(af k.F.Q p).e≠0):bP k p<k.F.W.T.length/\nth k.F.W.a1 (bP k p)=true/\((bP k p:Nat):Int)=(nth k.F.Q.J p.toNat).o:=by
 obtain⟨f,g,a,i,j⟩:=bY h b;obtain⟨l,d,n,e,o⟩:=aG.1 h;obtain⟨q,r,t,u⟩:=bf.1 d;have c:((bP k p:Nat):Int)=(af k.F.Q p).o:=by unfold bP;omega
 refine⟨ω,?_,by rw[c,a]⟩;rw[e _ ω,c];refine O0 (eB.2 ⟨p.toNat,ω,?_,?_⟩)
 ·rw[<-a];exact b
 rw[<-a]
def Ns(h:aC k=true){a:List Int}(c:a.length=16)(d:∀v∈a,0<=v/\v<=999)(g:nth k.F.W.a1 f=true):aC {k with F:=⟨⟨k.F.W.T.set f a,k.F.W.a1⟩,k.F.Q⟩} = true:=by
 obtain⟨i,l,n,o,p⟩:=aG.1 h;obtain⟨q,r,t,u⟩:=bf.1 l;refine aG.2 ⟨i,bf.2 ⟨?_,?_,?_,λj b=>?_⟩,n,o,p⟩
 ·simp only[Z1];exact q
 ·simp only[Z1];exact r
 ·simp only[Z1];exact t
 simp only[Z1]at b |-;simp only[bI];split
 ·rename_i e
  obtain⟨rfl,-⟩:=e;unfold im;simp only[I0,C0,O4];refine⟨c,λv w=>?_⟩;have:=d v w;unfold jm;simp[g,this]
 exact u j b
def uH(h:aC k=true)(b:f<k.F.W.T.length):(nth k.F.W.T f).length=16/\∀v∈nth k.F.W.T f,0<=v/\v<=999:=by
 obtain⟨g,c,i,j,l⟩:=aG.1 h;obtain⟨n,o,p,d⟩:=bf.1 c;have a:=d f b;unfold im at a;simp only[I0,C0,O4]at a;refine⟨a.1,λv e=>?_⟩;have:=a.2 v e;unfold jm at this;simp only[I0,C0]at this;exact this.1
variable{v:Int}
def rG(h:aC k=true)(b:f<k.F.W.T.length)(d:nth k.F.W.a1 f=true){c:Int}(e:0<=v/\v<=999):aC (setCell k f c v)=true:=by
 obtain⟨g,i⟩:=uH h b;refine Ns h (by rw[Z1];exact g) (λz a=>?_) d;rcases O7 a with a|rfl
 ·exact i z a
 exact e
def MZ(h:aC k=true){c:Int}(d:(af k.F.Q a).e≠0)(e:(af k.F.Q b).e≠0)(l:0<=c/\c<=15):aC (tO k a b c)=true:=by
 obtain⟨f,n,-⟩:=gS h d;obtain⟨g,i,-⟩:=gS h e;obtain⟨o,j⟩:=uH h f;exact rG h g i (j _ (ar ω))
variable{o:Int}
def Ph(h:aC k=true)(u:k.Calls≠100000)(i:(af k.F.Q p).e≠0)(d:(af k.F.Q o).e≠0)(w:p≠o):aC (w8 k p o).1=true:=by
 unfold w8;split
 ·exact nu h u
 obtain⟨O,y,A⟩:=gS h i;obtain⟨P,Q,R⟩:=gS h d;obtain⟨S,T,B,r,t⟩:=bY h i;obtain⟨U,V,C,D,E⟩:=bY h d;obtain⟨F,G,H,J,W,X,K⟩:=aG.1 h;obtain⟨L,M,N⟩:=br.1 H;rw[C]at D E d;rw[B]at r t i;have a:∀q,nth (k.F.Q.J.set p.toNat ⟨2,(nth k.F.Q.J o.toNat).o⟩) q=if p.toNat=q then⟨2,(nth k.F.Q.J o.toNat).o⟩ else nth k.F.Q.J q:=λq=>by
  rw[bI];by_cases f:p.toNat=q
  ·rw[CD ⟨f,ω⟩,CD f]
  rw[CB (λe=>f e.1),CB f]
 refine Pr F G (br.2 ⟨λj c=>?_,?_,?_⟩) (λj c l=>?_) ⟨r,t⟩ (by rw[<-A];exact y) ⟨by show 0<=k.Calls+1;omega,by show k.Calls+1<=100000;omega,K⟩
 ·simp only[wq,cn,Z1]at c |-
  rw[a];split
  ·unfold lS;rw[C0];simp only;omega
  exact L j c
 ·simp only[wq,cn,Z1];exact M
 ·simp only[wq,cn,Z1];exact N
 replace c:j<k.F.W.a1.length:=c;show nth k.F.W.a1 j=_;rw[J j c];refine decide_eq_decide.2 ?_;rw[eB,eB];simp only[wq,cn,Z1,a];constructor
 ·rintro⟨q,n,g,b⟩
  refine⟨q,n,?_⟩;rw[CB (λe=>l (by rw[<-b,<-e]))];exact⟨g,b⟩
 rintro⟨q,n,g,b⟩
 by_cases e:p.toNat=q
 ·rw[CD e]at b
  exact⟨o.toNat,ω,d,b⟩
 rw[CB e]at g b;exact⟨q,n,g,b⟩
def Kk(h:aC k=true)(b:(af k.F.Q p).e≠0)(a:(w8 k p o).2=true)(q:Nat):(w8 k p o).1.F.Q.J.length=k.F.Q.J.length/\nth (w8 k p o).1.F.Q.J q=if(q:Int)=p then⟨2,(nth k.F.Q.J o.toNat).o⟩ else nth k.F.Q.J q:=by
 obtain⟨d,f,-⟩:=bY h b;unfold w8 at a |-;split at a
 ·cases a
 rename_i c;rw[CB c];simp only[(ni _ _).1];simp only[wq,cn,Z1,bI];refine⟨trivial,?_⟩;by_cases e:(q:Int)=p
 ·rw[CD ⟨ω,ω⟩,CD e]
 rw[CB λz=>e ω,CB e]
def Pk(a:(w8 k p o).2=false):(w8 k p o).1=cn k:=by
 unfold w8 at a |-;split
 ·rfl
 rename_i b;rw[CB b]at a;cases a
def MQ(h:aC k=true)(g:0<=a)(b:0<=v/\v<=999):aC {k with F:=(jo k.F a v).1} = true/\(jo k.F a v).1.Q=k.F.Q:=by
 unfold jo;split
 ·exact⟨h,rfl⟩
 rename_i d;split
 ·exact⟨h,rfl⟩
 obtain⟨e,f,-⟩:=gS h d;exact⟨rG h e f (c:=a % 16) b,rfl⟩
def pc(t:aJ)(p:Int):Prop:=∀q:Nat,(nth t.J q).e≠0->(nth t.J q).o=(nth t.J p.toNat).o->(q:Int)=p
structure JI(h:ac):Prop where
 ph:h.u=true->0<=h.Z.b0/\h.Z.b0<=3
 sp:h.u=true->∃a∈h.K,∃b∈h.K,a.R=h.Z.X.a4/\b.R=h.Z.X.a2/\meshable a b=true
 sk:h.u=true->pc (tbl h) h.Z.X.a4
 sm:h.u=true->pc (tbl h) h.Z.X.a2
def pc.tEq{t a:aJ}{p:Int}(h:pc t p)(b:tEq t a):pc a p:=λq c d=>by
 obtain⟨e,f⟩:=b.2 q;exact h q (e.1 c) (by rw[<-f,<-(b.2 p.toNat).2];exact d)
theorem Pg.tEq{t b:aJ}{c:List aB}{sp:List aA}{la:List aF}(h:Pg t c sp la)(a:tEq t b):Pg b c sp la where
 one l hl p hp q hq h1 h2:=h.one l hl p hp q (by rw[<-a.1];exact hq) ((a.2 q).1.1 h1) (by rw[<-(a.2 q).2,<-(a.2 p).2];exact h2)
 bnd p hp:=by rw[a.1];exact h.bnd p hp
 own p hp:=(a.2 p).1.trans (h.own p (by rw[<-a.1];exact hp))
 fre p hp:=(a.2 p).1.trans (h.fre p (by rw[<-a.1];exact hp))
 mesh s hs u hu hne hf:=h.mesh s hs u hu hne (by rw[<-(a.2 _).2,<-(a.2 u.R.toNat).2];exact hf)
def aZ.step(a:aZ h E)(b:aC k=true)(c:k.F.Q.J.length=(tbl h).J.length)(d:Pg k.F.Q h.j h.K h.M){j:cK}{m:Bool}(h1:m=true->kj j=true/\(∃s∈h.K,s.R=j.X.a4)/\∃s∈h.K,s.R=j.X.a2)(e:m=false->tl j=true):aZ {h with G:=k,u:=m,Z:=j} E:=
 {a with
   ker:=b
   rng:=by show bG ((k.F.Q.J.length:Nat):Int) h.j=true;rw[c];exact a.rng
   pg:=d
   job:=h1
   noj:=e}
variable{la:List aF}{sp:List aA}
def pf.apart(b:pf sp la)(c:s∈sp){l:aF}(d:l∈la)(a:p∈lpgs l l.a3.toNat):s.R≠p:=by
 unfold lpgs at a;simp only[Y4,List.mem_range]at a;obtain⟨k,e,rfl⟩:=a;exact b.dis s c l d k e
def Pg.on{t H:aJ}{Q:List aB}(h:Pg t Q sp la)(r:pf sp la){a b:aA}(w:a∈sp)(L:b∈sp)(R:meshable a b=true)(A:pc t a.R)(M:(nth t.J a.R.toNat).e≠0)(N:(nth t.J b.R.toNat).e≠0)(U:0<=b.R)(J:H.J.length=t.J.length)(B:∀q:Nat,nth H.J q=if(q:Int)=b.R then⟨2,(nth t.J a.R.toNat).o⟩ else nth t.J q):Pg H Q sp la:=by
 have c:∀q:Nat,(nth H.J q).e≠0↔(nth t.J q).e≠0:=λq=>by
  rw[B];split
  ·rename_i e
   rw[show q=b.R.toNat by omega];exact⟨λ_=>N,λ_=>by show(2:Int)≠0;omega⟩
  rfl
 have V:0<=a.R:=by have:=r.sok a w;unfold bi at this;rw[C0]at this;omega
 refine⟨λl k p g q W S C=>?_,λp g=>by rw[J];exact h.bnd p g,λp g=>(c p).trans (h.own p (by rw[<-J];exact g)),λp g=>(c p).trans (h.fre p (by rw[<-J];exact g)),λs D u E F n=>?_⟩
 ·have O:¬(p:Int)=b.R:=λe=>r.apart L k g e.symm
  rw[B p,CB O,B q]at C;rw[c]at S;by_cases e:(q:Int)=b.R
  ·rw[CD e]at C
   have T:=h.one l k p g a.R.toNat (by have:=h.bnd _ (d9 (la:=la) w);omega) M C;exact absurd (show a.R=(p:Int) by omega) (r.apart w k g)
  rw[CB e]at C;exact h.one l k p g q (by rw[<-J];exact W) S C
 have X:0<=s.R:=by have:=r.sok s D;unfold bi at this;rw[C0]at this;omega
 have Y:0<=u.R:=by have:=r.sok u E;unfold bi at this;rw[C0]at this;omega
 have d:∀x∈sp,∀y∈sp,x.R=y.R->x=y:=λx G y Z e=>by
  obtain⟨i,hi,rfl⟩:=aQ G;obtain⟨j,hj,rfl⟩:=aQ Z;rw[cQ (f:=(·.R)) r.nd hi hj e]
 have o:∀x∈sp,(nth t.J x.R.toNat).e≠0:=λx G=>by
  have hx0:0<=x.R:=by have:=r.sok x G;unfold bi at this;rw[C0]at this;omega
  refine(h.own x.R.toNat (by have:=h.bnd _ (d9 (la:=la) G);omega)).2 ?_;rw[show((x.R.toNat:Nat):Int)=x.R by omega];exact d9 G
 rw[B,B]at n;simp only[show((s.R.toNat:Nat):Int)=s.R by omega,show((u.R.toNat:Nat):Int)=u.R by omega]at n;by_cases K:s.R=b.R
 ·rw[CD K,CB (λe=>F (K.trans e.symm))]at n
  have T:=A u.R.toNat (o u E) n.symm;rw[d s D b L K,d u E a w ω,gW];exact R
 rw[CB K]at n;by_cases P:u.R=b.R
 ·rw[CD P]at n
  have T:=A s.R.toNat (o s D) n;rw[d u E b L P,d s D a w ω];exact R
 rw[CB P]at n;exact h.mesh s D u E F n
def over(j:cK):Bool:=decide (j.b0=4\/j.b0=5)
def hO(k:ah)(j:cK):ah × cK:=if jmay k j=true then jstep k j else(k,j)
def mStep(h:ac):ac:={h with G:=(hO h.G h.Z).1,u:=if over (hO h.G h.Z).2=true then false else h.u,Z:=if over (hO h.G h.Z).2=true then⟨⟨0,0,[]⟩,0,0⟩ else(hO h.G h.Z).2}
def GF(h:ac):Bool:=decide ((hO h.G h.Z).2.b0=4)
def dz{j:cK} : kj j=true↔fm j.X=true/\0<=j.b0/\j.b0<=5/\0<=j.b/\j.b<=j.X.T.length:=by
 unfold kj;simp only[I0,C0]
def gt{p:cE}(h:fm p=true)(a:i<p.T.length):0<=nth p.T i/\nth p.T i<=15:=by
 unfold fm at h;simp only[I0]at h;have:=fB h.1 a;unfold mP at this;rw[C0]at this;exact⟨this.1,this.2.1⟩
structure JS(h:ac)(k:ah)(j:cK):Prop where
 ker:aC k=true
 len:k.F.Q.J.length=(tbl h).J.length
 pg:j.b0≠4\/JI h->Pg k.F.Q h.j h.K h.M
 ph:0<=j.b0/\j.b0<=5
 plan:j.X=h.Z.X
 nxt:0<=j.b/\j.b<=j.X.T.length
 eq:j.b0≠4->tEq (tbl h) k.F.Q
 calls:h.G.Calls<=k.Calls/\k.Calls<=h.G.Calls+1/\k.w=h.G.w
def xg(k:ah)(p m:Int):(jX k p m).1.Calls=k.Calls+1/\(jX k p m).1.w=k.w:=by
 unfold jX;split<;>exact⟨rfl,rfl⟩
def Px(k:ah)(p o:Int):(w8 k p o).1.Calls=k.Calls+1/\(w8 k p o).1.w=k.w:=by
 unfold w8;split
 ·exact⟨rfl,rfl⟩
 obtain⟨-,a,b,-⟩:=ni (wq (cn k) p.toNat ⟨2,(nth k.F.Q.J o.toNat).o⟩) (nth k.F.Q.J p.toNat).o;simp only[a,b];exact⟨rfl,rfl⟩
def JS.of(c:aZ h E)(B:h.u=true):JS h (hO h.G h.Z).1 (hO h.G h.Z).2:=by
 obtain⟨R,-,-⟩:=c.job B;obtain⟨O,y,A,o,p⟩:=dz.1 R;unfold hO;split
 case isFalse=>exact⟨c.ker,rfl,λ_=>c.pg,⟨y,A⟩,rfl,⟨o,p⟩,λ_=>tEq.refl _,V5 _,by show h.G.Calls<=h.G.Calls+1;omega,rfl⟩
 rename_i d;unfold jmay at d;simp only[I0,C0]at d;obtain⟨⟨-,C⟩,-,u,r,D⟩:=d;have fin:∀(k:ah)(j:cK),aC k=true->tEq (tbl h) k.F.Q->0<=j.b0/\j.b0<=5->j.X=h.Z.X->0<=j.b/\j.b<=j.X.T.length->h.G.Calls<=k.Calls/\k.Calls<=h.G.Calls+1/\k.w=h.G.w->JS h k j:=
  λk j S F T U V W=>⟨S,F.1,λ_=>c.pg.tEq F,T,U,V,λ_=>F,W⟩
 have P:=(aG.1 c.ker).2.2.2.2;unfold jstep;split
 ·obtain⟨l,w⟩:=GC c.ker C r (m:=1) (.inl rfl)
  obtain⟨g,t⟩:=xg h.G h.Z.X.a2 1;refine fin _ _ l w ?_ rfl ⟨o,p⟩ ⟨by rw[g];omega,by rw[g];omega,t⟩;show 0<=(if _ then _ else _:Int)/\(if _ then _ else _:Int)<=5;split<;>omega
 split
 ·split
  ·exact fin _ _ c.ker (tEq.refl _) ⟨by show(0:Int)<=2;omega,by show(2:Int)<=5;omega⟩ rfl ⟨o,p⟩ ⟨V5 _,by show h.G.Calls<=h.G.Calls+1;omega,rfl⟩
  have n:=gt O (i:=h.Z.b.toNat) ω;refine fin _ _ (MZ c.ker r u n) (tEq.refl _) ⟨y,A⟩ rfl ⟨by show 0<=h.Z.b+1;omega,by show h.Z.b+1<=h.Z.X.T.length;omega⟩ ⟨V5 _,by show h.G.Calls<=h.G.Calls+1;omega,rfl⟩
 split
 ·have G:h.Z.X.a2≠h.Z.X.a4:=λe=>D (by rw[e])
  have l:=Ph c.ker C r u G;obtain⟨g,t⟩:=Px h.G h.Z.X.a2 h.Z.X.a4;cases e:(w8 h.G h.Z.X.a2 h.Z.X.a4).2 with
  | false=>
   rw[CB (by simp)];refine fin _ _ l (tEq.of ?_) ⟨by show(0:Int)<=3;omega,by show(3:Int)<=5;omega⟩ rfl ⟨o,p⟩ ⟨by rw[g];omega,by rw[g];omega,t⟩;rw[Pk e];rfl
  | true=>
   rw[CD rfl];obtain⟨X,m2,Y,-⟩:=bY c.ker r;obtain⟨n1,n2,Z,-⟩:=bY c.ker u;have f:=Kk c.ker r e;refine⟨l,(f 0).1,λH=>?_,⟨by show(0:Int)<=4;omega,by show(4:Int)<=5;omega⟩,rfl,⟨o,p⟩,λJ=>absurd rfl J,by rw[g];omega,by rw[g];omega,t⟩;have Q:JI h:=H.elim (λJ=>absurd rfl J) id;obtain⟨a,ha,b,hb,K,M,N⟩:=Q.sp B;refine c.pg.on c.L ha hb N (by rw[K];exact Q.sk B) (by rw[K];show(nth h.G.F.Q.J _).e≠0;rw[<-Z];exact u) (by rw[M];show(nth h.G.F.Q.J _).e≠0;rw[<-Y];exact r) (by rw[M];exact X) (f 0).1 λq=>?_
   rw[(f q).2,M,K];rfl
 split
 ·split
  ·rename_i hn0
   have n:=gt O (i:=(h.Z.b - 1).toNat) ω;have hk0:=(bY c.ker u).1;obtain⟨l,w⟩:=MQ c.ker (a:=h.Z.X.a4*16+nth h.Z.X.T (h.Z.b - 1).toNat) (v:=0) ω ⟨ω,ω⟩;exact fin _ _ l (tEq.of w) ⟨y,A⟩ rfl ⟨by show 0<=h.Z.b - 1;omega,by show h.Z.b - 1<=h.Z.X.T.length;omega⟩ ⟨V5 _,by show h.G.Calls<=h.G.Calls+1;omega,rfl⟩
  obtain⟨l,w⟩:=GC c.ker C r (m:=2) (.inr rfl);obtain⟨g,t⟩:=xg h.G h.Z.X.a2 2;refine fin _ _ l w ?_ rfl ⟨o,p⟩ ⟨by rw[g];omega,by rw[g];omega,t⟩;show 0<=(if _ then _ else _:Int)/\(if _ then _ else _:Int)<=5;split<;>omega
 exact fin _ _ c.ker (tEq.refl _) ⟨y,A⟩ rfl ⟨o,p⟩ ⟨V5 _,by show h.G.Calls<=h.G.Calls+1;omega,rfl⟩
def aZ.mStep{h:ac}{E:List Int}(d:aZ h E)(f:JI h)(c:h.u=true):aZ (mStep h) E/\JI (mStep h):=by
 have s:=JS.of d c;unfold Ab.mStep;generalize (hO h.G h.Z).1=k at s |-;generalize (hO h.G h.Z).2=j at s |-;cases e:over j with
 | true=>
  refine⟨d.step s.ker s.len (s.pg (.inr f)) (λh=>by simp at h) (λ_=>by simp[tl]),?_⟩;exact⟨λh=>by simp at h,λh=>by simp at h,λh=>by simp at h,λh=>by simp at h⟩
 | false=>
  simp only[Bool.false_eq_true,if_false];unfold over at e;simp only[z5,not_or]at e;have g:=s.eq e.1;have i:=s.ph;refine⟨d.step s.ker s.len (s.pg (.inr f)) (λ_=>⟨dz.2 ⟨by rw[s.plan];exact(dz.1 (d.job c).1).1,s.ph.1,s.ph.2,s.nxt⟩,by rw[s.plan];exact(d.job c).2⟩) (λh=>by rw[c]at h;cases h),?_⟩;refine⟨λ_=>⟨s.ph.1,by show j.b0<=3;omega⟩,λ_=>?_,λ_=>?_,λ_=>?_⟩
  ·show ∃a∈h.K,∃b∈h.K,a.R=j.X.a4/\b.R=j.X.a2/\meshable a b=true
   rw[s.plan];exact f.sp c
  ·show pc k.F.Q j.X.a4
   rw[s.plan];exact(f.sk c).tEq g
  show pc k.F.Q j.X.a2;rw[s.plan];exact(f.sm c).tEq g
def fK(k:ah)(a:Int):Int:=nth (nth k.F.W.T (af k.F.Q (a / 16)).o.toNat) (a % 16).toNat
def cellsOf(k:ah)(a:Int)(n:Nat):List Int:=(List.range n).map λ(i:Nat)=>fK k (a+i)
def mE(k:ah)(a:Int)(n:Nat):(cellsOf k a n).length=n:=by simp[cellsOf]
def jI{n:Int}(h:0<=aN n):1<=n/\n<=8:=by
 unfold aN at h;split at h
 ·omega
 split at h
 ·omega
 split at h
 ·omega
 split at h
 ·omega
 split at h<;>omega
def z6{α:Type}[Inhabited α](f:α->Int)(xs:List α):Nat->Int
 | 0=>0
 | i+1=>z6 f xs i+f (nth xs i)
def Le{α:Type}[Inhabited α]{f:α->Int}{xs:List α}{b:Int}(h:∀y∈xs,0<=f y/\f y<=b):∀i:Nat,i<=xs.length->0<=z6 f xs i/\z6 f xs i<=b*i
 | 0,_=>by simp[z6]
 | i+1,a=>by
  have c:=Le h i ω;have d:=h _ (ar (xs:=xs) (i:=i) ω);have e:b*((i+1:Nat):Int)=b*i+b:=by rw[Int.natCast_add,Int.mul_add];simp
  simp only[z6];omega
def dZ(e:bh):Int:=if e.e≠0 then 1 else 0
def FN(e:bh):0<=dZ e/\dZ e<=1:=by unfold dZ;split<;>omega
def mn(t:aJ):Int:=z6 dZ t.J t.J.length
def bor(n m:Int):Int:=((n.toNat ||| m.toNat:Nat):Int)
def po(sp:List aA)(p:Int)(b:Int):Nat->Int
 | 0=>b
 | j+1=>if(nth sp j).R=p then bor (po sp p b j) (nth sp j).a9 else po sp p b j
def iq(sp:List aA)(ps:List Int)(b:Int):Nat->Int
 | 0=>b
 | k+1=>po sp (nth ps k) (iq sp ps b k) sp.length
def dL(h:ac)(i:Nat):Int:=iq h.K (aW h (nth h.K i).R) (nth h.K i).a9 (aW h (nth h.K i).R).length
def H1{n m:Int}(h1:0<=n/\n<=65535)(a:0<=m/\m<=65535):0<=bor n m/\bor n m<=65535:=by
 have b:n.toNat ||| m.toNat<2 ^ 16:=Nat.or_lt_two_pow ω ω
 unfold bor;omega
def mr(h:∀s∈sp,bi s=true)(b:j<sp.length):0<=(nth sp j).a9/\(nth sp j).a9<=65535:=by
 have a:=h _ (ar b);have c:=Jj (nth sp j).d;unfold bi at a;rw[C0]at a;omega
def wK{sp:List aA}(h:∀s∈sp,bi s=true){p b:Int}(a:0<=b/\b<=65535):∀j,j<=sp.length->0<=po sp p b j/\po sp p b j<=65535
 | 0,_=>a
 | j+1,d=>by
  have c:=wK h (p:=p) a j ω;simp only[po];split
  ·exact H1 c (mr h ω)
  exact c
def lG{sp:List aA}(h:∀s∈sp,bi s=true){ps:List Int}{b:Int}(a:0<=b/\b<=65535):∀k,0<=iq sp ps b k/\iq sp ps b k<=65535
 | 0=>a
 | k+1=>by simp only[iq];exact wK h (lG h a k) _ (W3 _)
def om{i:Int}(a:0<=b)(c:0<=i/\i<=15):bc b i=b.toNat.testBit i.toNat:=by
 unfold bc;rw[Nat.testBit_eq_decide_div_mod_eq];refine decide_eq_decide.2 ?_;obtain⟨n,rfl⟩ : ∃n:Nat,b=n:=⟨b.toNat,ω⟩
 rw[I3];have d:((n / 2 ^ i.toNat:Nat):Int)=(n:Int) / 2 ^ i.toNat:=by simp
 omega
def Jp{n m i:Int}(b:0<=n)(c:0<=m)(a:0<=i/\i<=15):bc (bor n m) i=(bc n i || bc m i):=by
 rw[om (by unfold bor;omega) a,om b a,om c a];unfold bor;rw[I3,Nat.testBit_or]
def Ga{sp:List aA}(h:∀s∈sp,bi s=true){p b i:Int}(k:0<=b/\b<=65535)(l:0<=i/\i<=15):∀j,j<=sp.length->(bc (po sp p b j) i=true↔bc b i=true\/∃q,q<j/\(nth sp q).R=p/\bc (nth sp q).a9 i=true)
 | 0,_=>by simp[po]
 | j+1,t=>by
  have n:=Ga h (p:=p) k l j ω;have o:=wK h (p:=p) k j ω;have r:=mr h (j:=j) ω;simp only[po];split
  ·rename_i d
   rw[Jp o.1 r.1 l,C7,n];constructor
   ·rintro((e|⟨q,f,a⟩)|e)
    ·exact .inl e
    ·exact .inr ⟨q,ω,a⟩
    exact .inr ⟨j,ω,d,e⟩
   rintro(e|⟨q,f,a,c⟩)
   ·exact .inl (.inl e)
   by_cases g:q=j
   ·subst g;exact .inr c
   exact .inl (.inr ⟨q,ω,a,c⟩)
  rename_i d;rw[n];constructor
  ·rintro(e|⟨q,f,a⟩)
   ·exact .inl e
   exact .inr ⟨q,ω,a⟩
  rintro(e|⟨q,f,a,c⟩)
  ·exact .inl e
  by_cases g:q=j
  ·subst g;exact absurd a d
  exact .inr ⟨q,ω,a,c⟩
def Bm{sp:List aA}(h:∀s∈sp,bi s=true){ps:List Int}{b i:Int}(d:0<=b/\b<=65535)(f:0<=i/\i<=15):∀k,(bc (iq sp ps b k) i=true↔bc b i=true\/∃u,u<k/\∃q,q<sp.length/\(nth sp q).R=nth ps u/\bc (nth sp q).a9 i=true)
 | 0=>by simp[iq]
 | k+1=>by
  have g:=Bm h (ps:=ps) d f k;have j:=lG h (ps:=ps) d k;simp only[iq];rw[Ga h j f _ (W3 _),g];constructor
  ·rintro((e|⟨u,c,a⟩)|⟨q,c,a⟩)
   ·exact .inl e
   ·exact .inr ⟨u,ω,a⟩
   exact .inr ⟨k,ω,q,c,a⟩
  rintro(e|⟨u,c,a⟩)
  ·exact .inl (.inl e)
  by_cases l:u=k
  ·subst l;exact .inr a
  exact .inl (.inr ⟨u,ω,a⟩)
variable{α:Type}
def jg(p:α->Bool)(xs:List α):Nat:=(xs.findIdx? p).getD xs.length
def ju(p:α->Bool)(xs:List α)(y:α):List α:=xs.take (jg p xs)++y::xs.drop (jg p xs)
def QG(p:α->Bool)(xs:List α):jg p xs<=xs.length:=by
 unfold jg;cases e:xs.findIdx? p with
 | none=>exact W3 _
 | some i=>exact Nat.le_of_lt (Y7.1 e).1
def lw(p:α->Bool)(xs:List α)(y:α):(ju p xs y).Perm (y::xs):=by
 unfold ju;refine List.perm_middle.trans ?_;rw[List.take_append_drop]
def cM{p:α->Bool}{xs:List α}{y z:α} : z∈ju p xs y↔z=y\/z∈xs:=by
 rw[(lw p xs y).mem_iff,List.mem_cons]
def m7{p:α->Bool}{xs:List α}(c:i<=xs.length)(a:∀(j:Nat)(z:α),j<i->xs[j]? = some z->p z=false)(b:∀z,xs[i]? = some z->p z=true):jg p xs=i:=by
 unfold jg;by_cases e:i<xs.length
 ·rw[wH (X2 e) (b _ (X2 e)) a];rfl
 rw[EH ω a];show xs.length=i;omega
def mw{f:α->Int}{xs:List α}{y:α}(h:xs.Pairwise λa b=>f a<f b)(p:∀z∈xs,f z≠f y):(ju (λz=>decide (f y<=f z)) xs y).Pairwise λa b=>f a<f b:=by
 have q:∀z∈xs.drop (jg (λz=>decide (f y<=f z)) xs),f y<f z:=λz g=>by
  obtain⟨j,k,rfl⟩:=List.mem_drop_iff_getElem.1 g;have C:=p _ (List.getElem_mem k);cases e:xs.findIdx? (λz=>decide (f y<=f z)) with
  | none=>
   have l:jg (λz=>decide (f y<=f z)) xs=xs.length:=by unfold jg;rw[e];rfl
   rw[l]at k;omega
  | some i=>
   have l:jg (λz=>decide (f y<=f z)) xs=i:=by unfold jg;rw[e];rfl
   obtain⟨r,t,-⟩:=Y7.1 e;rw[C0]at t;have c:i+j<xs.length:=by rw[<-l];omega
   have n:f xs[i+j]≠f y:=p _ (List.getElem_mem c);have d:f y<f xs[i+j]:=by
    cases j with
    | zero=>simp only[Nat.add_zero]at n |-;omega
    | succ j=>
     have:=List.pairwise_iff_getElem.1 h i (i+(j+1)) r c ω;omega
   have w:xs[jg (λz=>decide (f y<=f z)) xs+j]? = xs[i+j]?:=by rw[l]
   rw[X2 ω,X2 c]at w;rw[Option.some.inj w];exact d
 have A:∀z∈xs.take (jg (λz=>decide (f y<=f z)) xs),f z<f y:=λz g=>by
  obtain⟨j,k,rfl⟩:=List.mem_take_iff_getElem.1 g;unfold jg at k;cases e:xs.findIdx? (λz=>decide (f y<=f z)) with
  | none=>
   have:=List.findIdx?_eq_none_iff.1 e _ (List.getElem_mem (show j<xs.length by omega));simp only[z5]at this;omega
  | some i=>
   obtain⟨r,t,B⟩:=Y7.1 e;simp only[e,Option.getD_some]at k;have:=B j ω;simp only[C0]at this;omega
 unfold ju;refine List.pairwise_append.2 ⟨h.sublist (List.take_sublist ..),List.pairwise_cons.2 ⟨q,h.sublist (List.drop_sublist ..)⟩,λz g u o=>?_⟩;rcases List.mem_cons.1 o with rfl|o
 ·exact A z g
 exact Int.lt_trans (A z g) (q u o)
def gx(b i:Int):Int:=((b.toNat ||| 2 ^ i.toNat:Nat):Int)
def qL(s:aA)(i:Int):aA:={s with a9:=gx s.a9 i}
def ym(b i:Int)(j:Nat):(gx b i).toNat.testBit j=(b.toNat.testBit j || decide (i.toNat=j)):=by
 unfold gx;rw[I3,Nat.testBit_or,Nat.testBit_two_pow]
def Jw{i:Int}(g:0<=b)(e:0<=i/\i<=15)(j:Int):bc (gx b i) j=true↔bc b j=true\/j=i:=by
 rw[eS,eS,ym,C7,C0];have f:0<=gx b i:=by unfold gx;omega
 constructor
 ·rintro⟨h,c,d,a|a⟩
  ·exact .inl ⟨g,c,d,a⟩
  exact .inr ω
 rintro(⟨h,c,d,a⟩|rfl)
 ·exact⟨f,c,d,.inl a⟩
 exact⟨f,e.1,e.2,.inr rfl⟩
def gr{k:Int}(h:0<=k/\k<=3):lim k=2 ^ (slots k).toNat - 1/\0<=slots k/\slots k<=16/\slots k*csz k=16:=by
 obtain rfl|rfl|rfl|rfl:k=0\/k=1\/k=2\/k=3:=ω
 all_goals decide
def DV(h:bi s=true){i:Int}(k:0<=i/\i<slots s.d):bi (qL s i)=true:=by
 have b:=aI h;obtain⟨c,l,o,-⟩:=gr b.2.2;unfold bi at h;rw[C0]at h;obtain⟨d,e,f,g,p,a⟩:=h;refine O0 ⟨d,e,f,g,by show 0<=gx s.a9 i;unfold gx;omega,?_⟩;show gx s.a9 i<=lim s.d;rw[c]at a |-;have j:((2 ^ (slots s.d).toNat:Nat):Int)=(2:Int) ^ (slots s.d).toNat:=by norm_cast
 rw[<-j]at a |-;have:=Nat.or_lt_two_pow (x:=s.a9.toNat) (y:=2 ^ i.toNat) (n:=(slots s.d).toNat) ω (Nat.pow_lt_pow_right ω ω);unfold gx;omega
def BO{u:aA}{i:Int}(b:0<=i/\i<slots s.d)(c:bc u.a9 i=false)(h:meshable s u=true):meshable (qL s i) u=true:=by
 unfold meshable at h |-;simp only[I0,C0]at h |-;obtain⟨⟨d,f⟩,k,l,o⟩:=h;have p:=aI d;obtain⟨r,t,w,-⟩:=gr p.2.2;have a:=dP f;refine⟨⟨DV d b,f⟩,k,l,?_⟩;refine Nat.eq_of_testBit_eq λj=>?_
 have g:=Z0 (λn=>Nat.testBit n j) o;simp only[Nat.testBit_and,Nat.zero_testBit,qL,ym]at g |-;by_cases e:i.toNat=j
 ·have:u.a9.toNat.testBit j=false:=by
   rw[<-C6];intro q;have:=(eS u.a9 i).2 ⟨a.1,b.1,ω,by rw[e];exact q⟩;rw[this]at c;cases c
  rw[this];simp
 rw[W0 e,Bool.or_false];exact g
def uw(h:bi s=true){i:Int}(n:0<=i/\i<slots s.d)(b:Int):eO (qL s i) b↔eO s b\/b=16*s.R+i*csz s.d:=by
 have g:=aI h;obtain⟨o,p,k,l⟩:=gr g.2.2;have j:=cg g.2.2;unfold eO;simp only[qL];rw[Jw (dP h).1 ω];constructor
 ·rintro⟨d,f,c,a|a⟩
  ·exact .inl ⟨d,f,c,a⟩
  right
  rcases j with e|e|e|e<;>rw[e]at c a |-<;>omega
 rintro(⟨d,f,c,a⟩|rfl)
 ·exact⟨d,f,c,.inl a⟩
 have q:slots s.d<=16:=k;rcases j with e|e|e|e<;>rw[e]at l |-<;>refine⟨?_,?_,?_,.inr ?_⟩<;>omega
def MM(k:Int)(a:i<sp.length):(sp.set i (qL (nth sp i) k)).map (·.R)=sp.map (·.R):=by
 rw[Z6];refine List.ext_getElem (by simp) λj b c=>?_
 rw[List.getElem_set];split
 ·rename_i e;subst e
  rw[List.getElem_map];show(nth sp i).R=_;rw[bn (X2 a)]
 rfl
def j9.setS(p:pf sp la)(g:i<sp.length){k:Int}(h:0<=k/\k<slots (nth sp i).d)(b c:Int):j9 (sp.set i (qL (nth sp i) k)) b c↔j9 sp b c\/(b=16*(nth sp i).R+k*csz (nth sp i).d/\(c<0\/(nth sp i).d=c)):=by
 have d:=p.sok _ (ar g);constructor
 ·rintro⟨s,l,f,a⟩
  rcases ee l with rfl|⟨j,n,q,rfl⟩
  ·rcases(uw d h b).1 f with o|o
   ·exact .inl ⟨_,ar g,o,a⟩
   exact .inr ⟨o,a⟩
  exact .inl ⟨_,ar n,f,a⟩
 rintro(⟨s,l,f,a⟩|⟨f,a⟩)
 ·obtain⟨j,n,rfl⟩:=aQ l
  by_cases e:j=i
  ·subst e
   exact⟨_,jl _ g,(uw d h b).2 (.inl f),a⟩
  exact⟨_,jY _ n e,f,a⟩
 exact⟨_,jl _ g,(uw d h b).2 (.inr f),a⟩
def Ry(d:aZ h E)(l:i<h.K.length){k:Int}(p:0<=k/\k<=15)(b:bc (dL h i) k=false):bc (nth h.K i).a9 k=false/\∀u∈h.K,(nth (tbl h).J u.R.toNat).o=(nth (tbl h).J (nth h.K i).R.toNat).o->bc u.a9 k=false:=by
 have e:=d.L;have q:=dP (e.sok _ (ar l));unfold dL at b;rw[<-C6,Bm e.sok q p]at b;rw[not_or]at b;have r:bc (nth h.K i).a9 k=false:=by simpa using b.1
 have a:∀s∈h.K,s.R.toNat<eU h/\(nth (tbl h).J s.R.toNat).e≠0/\((s.R.toNat:Nat):Int)=s.R:=λs f=>by
  have K:=aI (e.sok s f);have M:=d.pg.bnd s.R (d9 f);have n:s.R.toNat<(tbl h).J.length:=ω
  have o:((s.R.toNat:Nat):Int)=s.R:=ω
  exact⟨n,(d.pg.own _ n).2 (by rw[o];exact d9 f),o⟩
 refine⟨r,λu c t=>?_⟩;rw[<-C6];intro w;obtain⟨y,A,B⟩:=a _ (ar l);obtain⟨C,D,F⟩:=a u c;have G:u.R∈aW h (nth h.K i).R:=by
  rw[<-B,fD y A,<-F];exact eR.2 ⟨C,D,t⟩
 obtain⟨v,H,g⟩:=aQ G;obtain⟨j,J,rfl⟩:=aQ c;exact b.2 ⟨v,H,j,J,g.symm,w⟩
def aZ.take{k sd:Int}(g:aZ h E)(C:i<h.K.length)(D:0<=k/\k<slots (nth h.K i).d)(r:bc (dL h i) k=false)(M:0<=sd/\sd<=1073741823) :
  aZ {h with b3:=sd,K:=h.K.set i (qL (nth h.K i) k)} ((16*(nth h.K i).R+k*csz (nth h.K i).d)::E):=by
 have F:=g.L;have T:=F.sok _ (ar C);have Q:=aI T;obtain⟨l1,l2,l3,l4⟩:=gr Q.2.2;have hz:=cg Q.2.2;obtain⟨u1,u2⟩:=Ry g C ⟨D.1,ω⟩ r;have n:=λb c=>j9.setS F C D b c
 have w:=MM k C;generalize ha:16*(nth h.K i).R+k*csz (nth h.K i).d=a at n |-;have G:¬eO (nth h.K i) a:=by
  rintro⟨-,-,-,h4⟩
  have:(a - 16*(nth h.K i).R) / csz (nth h.K i).d=k:=by
   rw[<-ha];rcases hz with e|e|e|e<;>rw[e]<;>omega
  rw[this,u1]at h4;cases h4
 have hrange:16*(nth h.K i).R<=a/\a<=16*(nth h.K i).R+15:=by
  rcases hz with e|e|e|e<;>rw[e]at ha l4<;>omega
 have U:¬nB h.K h.M a:=by
  rintro(⟨s,p,d,-⟩|⟨l,hl,e⟩)
  ·obtain⟨j,V,rfl⟩:=aQ p
   have:=cQ (f:=(·.R)) F.nd V C (by have a1:=d.1;have a2:=d.2.1;omega);subst this;exact G d
  exact(xE F hl).1 _ (ar C) ω
 have W:a∉E++holders h:=λX=>U ((g.mem a).1 X)
 have q:∀s∈h.K.set i (qL (nth h.K i) k),∃u∈h.K,u.R=s.R/\(s=u\/(u=nth h.K i/\s=qL u k)):=λs p=>by
  rcases ee p with rfl|⟨j,V,hji,rfl⟩
  ·exact⟨_,ar C,rfl,.inr ⟨rfl,rfl⟩⟩
  exact⟨_,ar V,rfl,.inl rfl⟩
 generalize hsp:h.K.set i (qL (nth h.K i) k)=sp at n w q |-;have t:pgs sp h.M=pgs h.K h.M:=by unfold pgs;rw[w]
 have N:∀u∈h.K,∃s∈sp,s.R=u.R:=λu r=>by
  have:u.R∈sp.map (·.R):=by rw[w];exact Y4.2 ⟨u,r,rfl⟩
  obtain⟨s,p,e⟩:=Y4.1 this;exact⟨s,p,e⟩
 exact {g with
   lay:=by
     obtain⟨l1,l2,l3⟩:=eA g.lay;unfold bq;simp only[I0,C0];refine⟨⟨O4.2 λs p=>?_,l2⟩,by rw[t];exact l3⟩;obtain⟨u,r,-,rfl|⟨rfl,rfl⟩⟩:=q s p
     · exact F.sok _ r
     exact DV (F.sok _ r) D
   srs:=by
     have d:(h.K.map (·.R)).Pairwise (λa b=>a<b):=List.pairwise_map.2 g.srs;rw[<-w]at d;exact List.pairwise_map.1 d
   pg:=⟨g.pg.one,by rw[t];exact g.pg.bnd,by rw[t];exact g.pg.own,g.pg.fre,λs p u r O hf=>by
     obtain⟨R,A,Y,Z⟩:=q s p;obtain⟨S,B,eu,P⟩:=q u r;have H:(nth (tbl h).J R.R.toNat).o=(nth (tbl h).J S.R.toNat).o:=by rw[Y,eu];exact hf
     have d:=g.pg.mesh R A S B (by rw[Y,eu];exact O) H;rcases Z with rfl|⟨rfl,rfl⟩
     · rcases P with rfl|⟨rfl,rfl⟩
       · exact d
       rw[gW]at d |-;exact BO D (u2 _ A H) d
     rcases P with rfl|⟨rfl,rfl⟩
     · exact BO D (u2 _ B H.symm) d
     exact absurd (Y.symm.trans eu) O⟩
   nums:=by
     have:=g.nums;unfold cq at this |-;rw[C0]at this |-;exact⟨M.1,M.2,this.2.2⟩
   oow:=λo ho=>by
     rcases g.oow o ho with⟨s,p,d,h2⟩|d
     · obtain⟨u,r,g1,K⟩:=(n o.Addr (aN o.q)).2 (.inl ⟨s,p,d,.inr h2⟩)
       refine .inl ⟨u,r,g1,?_⟩;rcases K with K|K
       · have:=aI (F.sok _ p);omega
       exact K
     exact .inr d
   hca:=λc Q k D b J=>(n b k).2 (.inl (g.hca c Q k D b J))
   hqu:=λy hy=>(n _ _).2 (.inl (g.hqu y hy))
   hfl:=λb J=>(n _ _).2 (.inl (g.hfl b J))
   hin:=λb J=>by
     rcases List.mem_cons.1 J with rfl|J
     · exact(n _ _).2 (.inr ⟨rfl,.inl (by decide)⟩)
     exact(n _ _).2 (.inl (g.hin b J))
   nd:=by
     rw[List.cons_append];exact List.nodup_cons.2 ⟨W,g.nd⟩
   mem:=λb=>by
     show b∈a::E++holders h↔nB sp h.M b;rw[List.cons_append,List.mem_cons,g.mem b];unfold nB;rw[n];constructor
     · rintro(rfl|d|d)
       · exact .inl (.inr ⟨rfl,.inl (by decide)⟩)
       · exact .inl (.inl d)
       exact .inr d
     rintro((d|⟨d,-⟩)|d)
     · exact .inr (.inl d)
     · exact .inl d
     exact .inr (.inr d)
   job:=λX=>by
     obtain⟨j1,⟨s,p,e1⟩,⟨u,r,e2⟩⟩:=g.job X;obtain⟨R,A,g1⟩:=N s p;obtain⟨S,B,K⟩:=N u r;exact⟨j1,⟨R,A,g1.trans e1⟩,⟨S,B,K.trans e2⟩⟩}
def qM(c:aE)(k:Nat):aE:=⟨c.a.set k ((nth c.a k).take ((nth c.a k).length - 1))⟩
def Qt{l:List Int}(h:0<l.length):l=l.take (l.length - 1)++[nth l (l.length - 1)]:=by
 have a:l.drop (l.length - 1)=[nth l (l.length - 1)]:=by
  rw[iR ω,show l.length - 1+1=l.length by omega,List.drop_length]
 rw[<-a,List.take_append_drop]
def aZ.pop{k:Nat}(f:aZ h E)(l:t<h.S.length)(p:k<(nth h.S t).a.length)(u:0<(nth (nth h.S t).a k).length)(w:bx (qM (nth h.S t) k)=true) :
  aZ {h with S:=h.S.set t (qM (nth h.S t) k)} (nth (nth (nth h.S t).a k) ((nth (nth h.S t).a k).length - 1)::E)/\j9 h.K (nth (nth (nth h.S t).a k) ((nth (nth h.S t).a k).length - 1)) k:=by
 have q:=Qt u;have n:=f.hca _ (ar l) k p (nth (nth (nth h.S t).a k) ((nth (nth h.S t).a k).length - 1)) (ar ω);refine⟨?_,n⟩;generalize D:nth (nth (nth h.S t).a k) ((nth (nth h.S t).a k).length - 1)=a at q n |-;have r:(E++holders h).Perm (a::E++holders {h with S:=h.S.set t (qM (nth h.S t) k)}):=by
  refine List.perm_iff_count.2 λb=>?_
  have A:=iU (λc:aE=>c.a.flatten) b h.S t (qM (nth h.S t) k) l;have B:=iU (λy:List Int=>y) b (nth h.S t).a k ((nth (nth h.S t).a k).take ((nth (nth h.S t).a k).length - 1)) p;rw[<-lR,<-lR]at B;have C:=Z0 (List.count b) q;simp only[Y6,List.count_singleton]at C;simp only[qM]at A;simp only[holders,cJ,qM,Y6,List.cons_append,List.count_cons];omega
 exact {f with
   nc:=by show(h.S.set ..).length=_;rw[Z1];exact f.nc
   cach:=λc d=>by
     rcases O7 d with d|rfl
     · exact f.cach c d
     exact w
   onu:=by show ∀o∈h.O,1<=o.Id/\o.Id<=h.b - 1/\0<=o.a5/\o.a5<=(h.S.set t _).length - 1;rw[Z1];exact f.onu
   hca:=λc d j i b g=>by
     rcases O7 d with d|rfl
     · exact f.hca c d j i b g
     simp only[qM,Z1]at i;simp only[qM,bI]at g;by_cases e:k=j
     · subst e
       rw[CD ⟨rfl,i⟩]at g;exact f.hca _ (ar l) _ i b (List.mem_of_mem_take g)
     rw[CB λy=>e y.1]at g;exact f.hca _ (ar l) _ i b g
   hin:=λb g=>by
     rcases List.mem_cons.1 g with rfl|g
     · exact n.any
     exact f.hin b g
   nd:=r.nodup_iff.1 f.nd
   mem:=λb=>by rw[<-r.mem_iff];exact f.mem b}
def Li(a:Int)(o:bt):Bool:=decide (a<=o.Addr)
def addO(h:ac)(a size t:Int):ac:={h with O:=ju (Li a) h.O ⟨h.b,a,size,t⟩,b:=h.b+1}
def BQ(a:cq h=true)(b:h.b<1000000):decide (0<=h.b3/\h.b3<=1073741823/\0<=h.b2/\h.b2<=1000000/\0<=h.b1/\h.b1<=1000/\1<=h.b+1/\h.b+1<=1000000)=true:=by
 unfold cq at a;rw[C0]at a |-;omega
def aZ.addO{h:ac}{E:List Int}{a size t:Int}(c:aZ h (a::E))(d:Ni h.K h.M ⟨h.b,a,size,t⟩)(p:h.b<1000000)(q:0<=t/\t<=h.S.length - 1):aZ (addO h a size t) E:=by
 have i:=lw (Li a) h.O ⟨h.b,a,size,t⟩;have n:(a::E++holders h).Perm (E++holders (Ab.addO h a size t)):=by
  have r:=i.map (·.Addr);refine List.perm_iff_count.2 λb=>?_
  have u:=r.count_eq b;simp only[X6,List.count_cons]at u;simp only[holders,cJ,Ab.addO,Y6,List.cons_append,List.count_cons];omega
 have j:=c.nd;rw[List.cons_append]at j;obtain⟨k,-⟩:=List.nodup_cons.1 j;have l:∀o∈h.O,o.Addr≠a:=λo d e=>k (V3.2 (.inr (by unfold holders;simp only[V3];exact .inl (.inl (.inl (Y4.2 ⟨o,d,e⟩))))))
 exact {c with
   nums:=BQ c.nums p
   osr:=mw (f:=λo:bt=>o.Addr) (y:=⟨h.b,a,size,t⟩) c.osr l
   onu:=λo d=>by
     rcases cM.1 d with rfl|d
     · have:=c.nums
       unfold cq at this;rw[C0]at this;exact⟨by show 1<=h.b;omega,by show h.b<=h.b+1 - 1;omega,q⟩
     have:=c.onu o d;exact⟨this.1,by show o.Id<=h.b+1 - 1;omega,this.2.2⟩
   oid:=by
     show((ju (Li a) h.O ⟨h.b,a,size,t⟩).map (·.Id)).Nodup;rw[(i.map _).nodup_iff,X6];refine List.nodup_cons.2 ⟨λw=>?_,c.oid⟩;obtain⟨o,d,e⟩:=Y4.1 w;have:=(c.onu o d).2.1;simp only at e;omega
   oow:=λo g=>by
     rcases cM.1 g with rfl|g
     · exact d
     exact c.oow o g
   hin:=λb A=>c.hin b (Z5 _ A)
   nd:=n.nodup_iff.1 c.nd
   mem:=λb=>by rw[<-n.mem_iff];exact c.mem b}
def fV(xs:List aB)(n:Int):Nat->Int
 | 0=>-1
 | i+1=>if n<=(nth xs i).a8/\(fV xs n i<0\/(nth xs i).a8<(nth xs (fV xs n i).toNat).a8) then(i:Nat) else fV xs n i
def f8(xs:List aB)(n:Int):Int:=fV xs n xs.length
def ax(xs:List aB)(n:Int):List aB × Int × Bool:=
 if f8 xs n<0 then(xs,-1,false)
 else if(nth xs (f8 xs n).toNat).a8=n then(dele xs (f8 xs n).toNat,(nth xs (f8 xs n).toNat).At,true)
 else(xs.set (f8 xs n).toNat ⟨(nth xs (f8 xs n).toNat).At+n,(nth xs (f8 xs n).toNat).a8 - n⟩,(nth xs (f8 xs n).toNat).At,true)
def tw(xs:List aB)(n:Int):∀i,i<=xs.length->fV xs n i = -1\/(0<=fV xs n i/\fV xs n i<i/\n<=(nth xs (fV xs n i).toNat).a8)
 | 0,_=>.inl rfl
 | i+1,b=>by
  have a:=tw xs n i ω;unfold fV;split
  ·rename_i h;right;rw[I3];exact⟨ω,ω,h.1⟩
  rcases a with h|h
  ·exact .inl h
  exact .inr ⟨h.1,ω,h.2.2⟩
variable{xs:List aB}
def zh(h:jD xs)(a:i<j)(b:j<xs.length):(nth xs i).At+(nth xs i).a8<(nth xs j).At:=by
 have:=List.pairwise_iff_getElem.1 h.1 i j ω b a
 rwa [<-bn (X2 (show i<xs.length by omega)),<-bn (X2 b)]at this
def y8 : RH xs p↔∃j,j<xs.length/\(nth xs j).At<=p/\p<(nth xs j).At+(nth xs j).a8:=by
 unfold RH;constructor
 ·rintro⟨r,b,h⟩
  obtain⟨j,a,rfl⟩:=aQ b;exact⟨j,a,h⟩
 rintro⟨j,a,h⟩
 exact⟨_,ar a,h⟩
def o6{pages:Int}{n:Int}(h:bG pages xs=true)(T:1<=n)(t:(ax xs n).2.2=true) :
  bG pages (ax xs n).1=true/\0<=(ax xs n).2.1/\(ax xs n).2.1+n<=pages/\(∀p,RH (ax xs n).1 p↔RH xs p/\¬((ax xs n).2.1<=p/\p<(ax xs n).2.1+n))/\∀p,(ax xs n).2.1<=p->p<(ax xs n).2.1+n->RH xs p:=by
 obtain⟨o,u,J⟩:=gd.1 h;have K:=tw xs n xs.length (W3 _);unfold ax at t |-;change f8 xs n = -1\/_ at K;split at t
 ·cases t
 rename_i w;rw[CB w];obtain⟨O,P,L⟩:=K.resolve_left ω;change 0<=f8 xs n at O;change f8 xs n<xs.length at P;change n<=(nth xs (f8 xs n).toNat).a8 at L;generalize Q:(f8 xs n).toNat=b at L |-;have g:b<xs.length:=ω
 have M:=u _ (ar g);have q:∀j,j<xs.length->j≠b->(nth xs j).At+(nth xs j).a8<(nth xs b).At\/(nth xs b).At+(nth xs b).a8<(nth xs j).At:=λj a k=>by
  rcases Nat.lt_or_gt_of_ne k with A|B
  ·exact .inl (zh o A g)
  exact .inr (zh o B a)
 split
 ·rename_i R
  have C:(dele xs b).Sublist xs:=eY ..;refine⟨gd.2 ⟨⟨o.1.sublist C,λy l=>o.2 y (C.subset l)⟩,λy l=>u y (C.subset l),J⟩,M.1,by show(nth xs b).At+n<=pages;omega,λp=>?_,λp D E=>y8.2 ⟨b,g,D,by show p<_;simp only at E;omega⟩⟩;simp only;rw[y8 (xs:=xs)];constructor
  ·rintro⟨r,F,f,d⟩
   obtain⟨j,a,k,rfl⟩:=dn.1 F;refine⟨⟨j,a,f,d⟩,λe=>?_⟩;have:=q j a k;omega
  rintro⟨⟨j,a,f,d⟩,G⟩
  exact⟨_,dn.2 ⟨j,a,λe=>by subst e;omega,rfl⟩,f,d⟩
 rename_i R;have c:∀j,nth (xs.set b ⟨(nth xs b).At+n,(nth xs b).a8 - n⟩) j=if j=b then⟨(nth xs b).At+n,(nth xs b).a8 - n⟩ else nth xs j:=λj=>by
  rw[bI];by_cases e:j=b
  ·rw[CD ⟨e.symm,ω⟩,CD e]
  rw[CB λz=>e z.1.symm,CB e]
 refine⟨gd.2 ⟨⟨?_,λy l=>?_⟩,λy l=>?_,J⟩,M.1,by show(nth xs b).At+n<=pages;omega,λp=>?_,λp D E=>y8.2 ⟨b,g,D,by simp only at E;omega⟩⟩
 ·rw[List.pairwise_iff_getElem]
  intro i j N a H;rw[<-bn (X2 N),<-bn (X2 a),c,c];simp only[Z1]at N a;have S:=zh o H a;split
  ·rename_i e;subst e
   rw[CB ω];simp only;omega
  split
  ·rename_i e;subst e
   simp only;omega
  exact S
 ·rcases ee l with rfl|⟨j,a,-,rfl⟩
  ·simp only;omega
  exact o.2 _ (ar a)
 ·rcases ee l with rfl|⟨j,a,-,rfl⟩
  ·simp only;omega
  exact u _ (ar a)
 simp only;rw[y8,y8,Z1];constructor
 ·rintro⟨j,a,f,d⟩
  rw[c]at f d;split at f
  ·rename_i e;subst e
   rw[CD rfl]at d;simp only at f d;exact⟨⟨j,a,ω,ω⟩,ω⟩
  rename_i e;rw[CB e]at d;have:=q j a e;exact⟨⟨j,a,f,d⟩,ω⟩
 rintro⟨⟨j,a,f,d⟩,G⟩
 refine⟨j,a,?_⟩;rw[c];split
 ·rename_i e;subst e
  simp only;omega
 exact⟨f,d⟩
def oY(k:ah):Int:=cZ (λu=>!u) k.F.W.a1
def sA(k:ah)(p:Int)(f:Nat):ah:={k with F:=⟨⟨k.F.W.T,k.F.W.a1.set f true⟩,⟨k.F.Q.J.set p.toNat ⟨2,(f:Nat)⟩⟩⟩}
def newK(k:ah)(p:Int):ah × Bool:=if refd k=true\/oY k<0 then(cn k,false) else(sA (cn k) p (oY k).toNat,true)
def Fh(h:¬oY k<0):(oY k).toNat<k.F.W.a1.length/\nth k.F.W.a1 (oY k).toNat=false:=by
 unfold oY at h |-;rcases qi (λu=>!u) k.F.W.a1 with e|⟨n,a,e,b⟩
 ·omega
 rw[e,I3];exact⟨a,by simpa using b⟩
def Bj(h:aC k=true)(b:f<k.F.W.a1.length)(c:nth k.F.W.a1 f=false)(q:Nat)(d:q<k.F.Q.J.length)(g:(nth k.F.Q.J q).e≠0):(nth k.F.Q.J q).o≠(f:Nat):=by
 obtain⟨j,l,n,i,o⟩:=aG.1 h;intro e;have a:=i f b;rw[c]at a;have:=of_decide_eq_false a.symm;exact this (eB.2 ⟨q,d,g,e⟩)
def Rm(h:aC k=true)(L:0<=p/\p<k.F.Q.J.length)(n:(nth k.F.Q.J p.toNat).e=0)(o:f<k.F.W.a1.length)(r:nth k.F.W.a1 f=false):aC (sA k p f)=true:=by
 have t:=Bj h o r;obtain⟨u,w,y,A,B⟩:=aG.1 h;obtain⟨C,D,E,F⟩:=bf.1 w;obtain⟨G,H,J⟩:=br.1 y;have a:∀q,nth (k.F.Q.J.set p.toNat ⟨2,(f:Nat)⟩) q=if p.toNat=q then⟨2,(f:Nat)⟩ else nth k.F.Q.J q:=λq=>by
  rw[bI];by_cases i:p.toNat=q
  ·rw[CD ⟨i,ω⟩,CD i]
  rw[CB (λe=>i e.1),CB i]
 refine aG.2 ⟨u,bf.2 ⟨C,D,by simp only[sA,Z1];exact E,λj b=>?_⟩,br.2 ⟨λj b=>?_,?_,?_⟩,λj b=>?_,B⟩
 ·replace b:j<k.F.W.T.length:=b
  show im (nth k.F.W.T j) (nth (k.F.W.a1.set f true) j)=true;have d:=F j b;rw[bI];split
  ·unfold im at d |-
   simp only[I0,C0,O4]at d |-;refine⟨d.1,λv K=>?_⟩;have:=d.2 v K;unfold jm at this |-;simp only[I0]at this;rw[this.1];rfl
  exact d
 ·simp only[sA,Z1]at b |-
  rw[a];split
  ·unfold lS;rw[C0];simp only;omega
  exact G j b
 ·simp only[sA,Z1];exact H
 ·simp only[sA,Z1];exact J
 simp only[sA,Z1]at b;show nth (k.F.W.a1.set f true) j=_;rw[bI];by_cases e:f=j
 ·subst e
  rw[CD ⟨rfl,b⟩];refine(O0 (eB.2 ⟨p.toNat,?_,?_,?_⟩)).symm
  ·simp only[sA,Z1];omega
  ·simp only[sA,a,CD];decide
  simp only[sA,a,CD]
 rw[CB λz=>e z.1,A j b];refine decide_eq_decide.2 ?_;rw[eB,eB];simp only[sA,Z1,a];constructor
 ·rintro⟨q,l,g,c⟩
  refine⟨q,l,?_⟩;rw[CB λz=>g (by rw[<-z];exact n)];exact⟨g,c⟩
 rintro⟨q,l,g,c⟩
 by_cases z:p.toNat=q
 ·rw[CD z]at c
  simp only at c;omega
 rw[CB z]at g c;exact⟨q,l,g,c⟩
structure wm(k:ah)(p:Int)(r:ah × Bool):Prop where
 ker:aC r.1=true
 len:r.1.F.Q.J.length=k.F.Q.J.length
 calls:r.1.Calls=k.Calls+1
 ref:r.1.w=k.w
 cells:r.1.F.W.T=k.F.W.T
 no:r.2=false->r.1=cn k
 yes:r.2=true->∃f:Nat,f<k.F.W.a1.length/\nth k.F.W.a1 f=false/\(∀q:Nat,nth r.1.F.Q.J q=if(q:Int)=p then⟨2,(f:Nat)⟩ else nth k.F.Q.J q)/\∀q,q<k.F.Q.J.length->(nth k.F.Q.J q).e≠0->(nth k.F.Q.J q).o≠(f:Nat)
def wm.of(h:aC k=true)(c:k.Calls≠100000)(f:0<=p/\p<k.F.Q.J.length)(g:(nth k.F.Q.J p.toNat).e=0):wm k p (newK k p):=by
 unfold newK;split
 ·exact⟨nu h c,rfl,rfl,rfl,rfl,λ_=>rfl,λe=>by cases e⟩
 rename_i d;rw[not_or]at d;obtain⟨a,b⟩:=Fh d.2;refine⟨Rm (nu h c) f g a b,by simp[sA,cn],rfl,rfl,rfl,λe=>(by cases e),λ_=>⟨_,a,b,λq=>?_,λq=>Bj h a b q⟩⟩;simp only[sA,cn,bI];by_cases e:(q:Int)=p
 ·rw[CD ⟨ω,ω⟩,CD e]
 rw[CB λz=>e ω,CB e]
def newsK(k:ah)(p:Int):Nat->ah × Nat
 | 0=>(k,0)
 | i+1=>if(newsK k p i).2=i then((newK (newsK k p i).1 (p+(i:Nat))).1,if(newK (newsK k p i).1 (p+(i:Nat))).2=true then i+1 else i) else newsK k p i
structure jz(k:ah)(p:Int)(i:Nat)(r:ah × Nat):Prop where
 ker:aC r.1=true
 len:r.1.F.Q.J.length=k.F.Q.J.length
 calls:k.Calls<=r.1.Calls/\r.1.Calls<=k.Calls+i
 ref:r.1.w=k.w
 cells:r.1.F.W.T=k.F.W.T
 le:r.2<=i
 out:∀q:Nat,¬(p<=q/\(q:Int)<p+r.2)->nth r.1.F.Q.J q=nth k.F.Q.J q
 new:∀q:Nat,p<=q->(q:Int)<p+r.2->(nth r.1.F.Q.J q).e=2/\∀u:Nat,u<k.F.Q.J.length->(nth r.1.F.Q.J u).e≠0->(nth r.1.F.Q.J u).o=(nth r.1.F.Q.J q).o->u=q
def jz.of{k:ah}{p:Int}{n:Nat}(h:aC k=true)(G:k.Calls+n<=100000)(H:0<=p/\p+n<=k.F.Q.J.length)(C:∀q:Nat,p<=q->(q:Int)<p+n->(nth k.F.Q.J q).e=0):∀i,i<=n->jz k p i (newsK k p i)
 | 0,_=>⟨h,rfl,⟨V5 _,by show k.Calls<=k.Calls+((0:Nat):Int);omega⟩,rfl,rfl,W3 _,λ_ _=>rfl,λq o d=>by simp only[newsK]at d;omega⟩
 | i+1,L=>by
  have a:=jz.of h G H C i ω;unfold newsK;split
  case isFalse=>exact⟨a.ker,a.len,⟨a.calls.1,by have:=a.calls.2;omega⟩,a.ref,a.cells,by have:=a.le;omega,a.out,a.new⟩
  rename_i t;generalize newsK k p i=r at a t |-;have J:=a.calls;have y:(nth r.1.F.Q.J (p+(i:Nat)).toNat).e=0:=by
   rw[a.out _ ω];exact C _ ω ω
  have s:=wm.of (p:=p+(i:Nat)) a.ker ω ⟨ω,by rw[a.len];omega⟩ y;generalize newK r.1 (p+(i:Nat))=w at s |-;refine⟨s.ker,s.len.trans a.len,⟨by simp only[s.calls];omega,by simp only[s.calls];omega⟩,s.ref.trans a.ref,s.cells.trans a.cells,by simp only;split<;>omega,λq j=>?_,λq o d=>?_⟩
  ·simp only at j |-
   cases e:w.2 with
   | false=>
    rw[s.no e];rw[e]at j;exact a.out q (by rw[t];simpa using j)
   | true=>
    obtain⟨f,-,-,g,-⟩:=s.yes e;rw[e,CD rfl]at j;rw[g,CB ω];exact a.out q ω
  simp only at d |-;cases e:w.2 with
  | false=>
   rw[s.no e];rw[e]at d;exact a.new q o (by rw[t];simpa using d)
  | true=>
   obtain⟨f,-,-,g,D⟩:=s.yes e;rw[e,CD rfl]at d;have A:q<k.F.Q.J.length:=ω
   rw[g];by_cases E:(q:Int)=p+(i:Nat)
   ·rw[CD E]
    refine⟨rfl,λu B c b=>?_⟩;rw[g]at c b;by_cases l:(u:Int)=p+(i:Nat)
    ·omega
    rw[CB l]at c b;exact absurd b (D u (by rw[a.len];exact B) c)
   rw[CB E];obtain⟨F,K⟩:=a.new q o ω;refine⟨F,λu B c b=>?_⟩;rw[g]at c b;by_cases l:(u:Int)=p+(i:Nat)
   ·rw[CD l]at b
    exact absurd b.symm (D q (by rw[a.len];exact A) (by rw[F];decide))
   rw[CB l]at c b;exact K u B c b
def jz.undo{r:ah × Nat}(s:jz k p i r)(h:aC k=true)(d:0<=p/\p+i<=k.F.Q.J.length)(e:∀q:Nat,p<=q->(q:Int)<p+i->(nth k.F.Q.J q).e=0):aC (unmN r.1 p r.2)=true/\tEq k.F.Q (unmN r.1 p r.2).F.Q:=by
 have f:=s.le;have g:=nw s.ker d.1 r.2 (by rw[s.len];omega);refine⟨gZ s.ker p r.2,((fj r.1 p r.2).1).trans s.len,λq=>?_⟩;rw[g];split
 ·rename_i a
  have c:=e q a.1 ω;obtain⟨-,-,j,-⟩:=aG.1 h;have b:=(br.1 j).1 q ω;unfold lS at b;rw[C0]at b;exact⟨⟨λz=>absurd rfl z,λz=>absurd c z⟩,(b.2.2.1 c).symm⟩
 rename_i a;rw[s.out q a];exact⟨Iff.rfl,rfl⟩
def Pg.add{t h:aJ}{O r:List aB}{b:List aA}{d:List aF}(i:Pg t O sp la)(E:h.J.length=t.J.length)(S:p+n<=t.J.length)(hp:0<=p)(j:∀q:Nat,¬(p<=q/\(q:Int)<p+n)->nth h.J q=nth t.J q)(a:∀q:Nat,p<=q->(q:Int)<p+n->(nth h.J q).e=2/\∀u:Nat,u<t.J.length->(nth h.J u).e≠0->(nth h.J u).o=(nth h.J q).o->u=q)(J:∀q,RH r q↔RH O q/\¬(p<=q/\q<p+n))(F:∀q,q∈pgs b d↔q∈pgs sp la\/(p<=q/\q<p+n))(w:∀s∈b,0<=s.R/\(s∈sp\/(p<=s.R/\s.R<p+n)))(K:∀l∈d,l∈la\/∀q∈lpgs l l.a3.toNat,p<=q/\q<p+n):Pg h r b d:=by
 have f:∀q:Nat,q<t.J.length->((nth h.J q).e≠0↔(q:Int)∈pgs b d):=λq c=>by
  rw[F];by_cases e:p<=q/\(q:Int)<p+n
  ·have:=(a q e.1 e.2).1
   exact⟨λ_=>.inr e,λ_=>by rw[this];decide⟩
  rw[j q e,i.own q c];exact⟨.inl,λz=>z.resolve_right e⟩
 refine⟨λl A q c u k L G=>?_,λq c=>?_,λq c=>f q (by rw[<-E];exact c),λq c=>?_,λs P u k M H=>?_⟩
 ·rw[E]at k
  have B:=gl (sp:=b) A c;have C:q<t.J.length:=by
   rcases(F _).1 B with g|g
   ·have:=i.bnd _ g;omega
   omega
  by_cases e:p<=q/\(q:Int)<p+n
  ·exact(a q e.1 e.2).2 u k L G
  have N:=(K l A).resolve_right λg=>e (g _ c)
  by_cases o:p<=u/\(u:Int)<p+n
  ·exact((a u o.1 o.2).2 q C ((f q C).2 B) G.symm).symm
  rw[j q e,j u o]at G;rw[j u o]at L;exact i.one l N q c u k L G
 ·rw[E]
  rcases(F _).1 c with g|g
  ·exact i.bnd _ g
  omega
 ·rw[E]at c
  rw[J];by_cases e:p<=q/\(q:Int)<p+n
  ·have:=(a q e.1 e.2).1
   exact⟨λ_ z=>z.2 e,λ_=>by rw[this];decide⟩
  rw[j q e,i.fre q c];exact⟨λz y=>z y.1,λz y=>z ⟨y,e⟩⟩
 obtain⟨T,U⟩:=w s P;obtain⟨V,W⟩:=w u k;have D:∀y∈b,0<=y.R->y.R.toNat<t.J.length/\((y.R.toNat:Nat):Int)=y.R/\(nth h.J y.R.toNat).e≠0:=λy X Y=>by
  have g:=d9 (la:=d) X;have Q:y.R.toNat<t.J.length:=by
   rcases(F _).1 g with R|R
   ·have:=i.bnd _ R;omega
   omega
  exact⟨Q,ω,(f _ Q).2 (by rw[show((y.R.toNat:Nat):Int)=y.R by omega];exact g)⟩
 obtain⟨Z,sc,sd⟩:=D s P T;obtain⟨ub,uc,ud⟩:=D u k V;by_cases es:p<=s.R/\s.R<p+n
 ·have:=(a s.R.toNat ω ω).2 _ ub ud H.symm
  omega
 by_cases o:p<=u.R/\u.R<p+n
 ·have:=(a u.R.toNat ω ω).2 _ Z sd H
  omega
 rw[j _ ω,j _ ω]at H;exact i.mesh s (U.resolve_right es) u (W.resolve_right o) M H
def FV{a:List aA}{b:List aF}(c:a.Perm sp)(d:b.Perm la):(pgs a b).Perm (pgs sp la):=by
 unfold pgs;exact(c.map _).append (d.flatMap_right _)
def D8(p:Int)(s:aA):Bool:=decide (p<=s.R)
def Q6(p:Int)(l:aF):Bool:=decide (p<=l.R)
def addS(h:ac)(k:ah)(a:List aB)(p c:Int):ac:={h with G:=k,j:=a,K:=ju (D8 p) h.K ⟨p,c,0⟩}
def ix(a:aZ h E){n:Int}(j:1<=n)(k:(ax h.j n).2.2=true):0<=(ax h.j n).2.1/\(ax h.j n).2.1+n<=(tbl h).J.length/\(∀q:Nat,(ax h.j n).2.1<=q->(q:Int)<(ax h.j n).2.1+n->(nth (tbl h).J q).e=0)/\∀q:Int,(ax h.j n).2.1<=q->q<(ax h.j n).2.1+n->q∉pgs h.K h.M:=by
 obtain⟨r,l,f,t,o⟩:=o6 a.rng j k;have g:∀q:Nat,(ax h.j n).2.1<=q->(q:Int)<(ax h.j n).2.1+n->(nth (tbl h).J q).e=0:=λq b c=>by
  have d:q<(tbl h).J.length:=by
   have:(ax h.j n).2.1+n<=((tbl h).J.length:Nat):=f;omega
  by_cases e:(nth (tbl h).J q).e=0
  ·exact e
  exact absurd (o q b c) ((a.pg.fre q d).1 e)
 refine⟨l,f,g,λq b c i=>?_⟩;have u:=a.pg.bnd q i;obtain⟨m,rfl⟩:=O3 (show 0<=q by omega);have p:=(a.pg.own m ω).2 i;exact p (g m b c)
def aZ.addS{h:ac}{E:List Int}{c:Int}(a:aZ h E)(H:0<=c/\c<=3)(F:(ax h.j 1).2.2=true){k:ah}(s:wm h.G (ax h.j 1).2.1 (k,true)):aZ (addS h k (ax h.j 1).1 (ax h.j 1).2.1 c) E:=by
 obtain⟨U,G,r3,J,r5⟩:=o6 a.rng (V5 _) F;obtain⟨-,V,u3,W⟩:=ix a (V5 _) F;generalize (ax h.j 1).2.1=p at G r3 J r5 V u3 W s |-;generalize (ax h.j 1).1=fr at U J |-;obtain⟨f,f1,f2,K,f4⟩:=s.yes rfl;have M:=(br.1 (aG.1 a.ker).2.2.1).2.2;change (tbl h).J.length<=32 at M;have X:=a.L;have N:=lw (D8 p) h.K ⟨p,c,0⟩;have O:=FV N (List.Perm.refl h.M);have w:(pgs (ju (D8 p) h.K ⟨p,c,0⟩) h.M).Perm (p::pgs h.K h.M):=O;have B:p∉pgs h.K h.M:=W p (V5 _) ω;have P:∀z∈h.K,z.R≠p:=λz g e=>B (by rw[<-e];exact d9 g)
 have i:∀b d,j9 (ju (D8 p) h.K ⟨p,c,0⟩) b d↔j9 h.K b d:=λb d=>by
  constructor
  ·rintro⟨s,C,A,Q⟩
   rcases cM.1 C with rfl|C
   ·exact absurd A (wI rfl b)
   exact⟨s,C,A,Q⟩
  rintro⟨s,C,A⟩
  exact⟨s,cM.2 (.inr C),A⟩
 exact {a with
   ker:=s.ker
   rng:=by show bG ((k.F.Q.J.length:Nat):Int) fr=true;rw[s.len];exact U
   lay:=by
     obtain⟨l1,l2,l3⟩:=eA a.lay;unfold bq;simp only[I0,C0];refine⟨⟨O4.2 λz g=>?_,l2⟩,w.nodup_iff.2 (List.nodup_cons.2 ⟨B,l3⟩)⟩;rcases cM.1 g with rfl|g
     · have R:0<=lim c:=by
         have:=(gr H).1;obtain rfl|rfl|rfl|rfl:c=0\/c=1\/c=2\/c=3:=ω
         all_goals decide
       exact O0 ⟨G,by show p<=31;omega,H.1,H.2,V5 _,R⟩
     exact X.sok z g
   srs:=mw (f:=λz:aA=>z.R) (y:=⟨p,c,0⟩) a.srs P
   pg:=by
     refine a.pg.add (p:=p) (n:=1) s.len (by exact V) G (λq Y=>?_) (λq q1 q2=>?_) (λq=>J q) (λq=>?_) (λz g=>?_) (λl hl=>.inl hl)
     · exact(K q).trans (CB ω)
     · have Y:(q:Int)=p:=ω
       have Z:nth k.F.Q.J q = ⟨2,(f:Nat)⟩:=(K q).trans (CD Y);refine⟨Z0 bh.e Z,λu S t r=>?_⟩;have fu:nth k.F.Q.J u=if(u:Int)=p then⟨2,(f:Nat)⟩ else nth h.G.F.Q.J u:=K u
       change (nth k.F.Q.J u).e≠0 at t;change (nth k.F.Q.J u).o=(nth k.F.Q.J q).o at r;rw[fu]at t r;rw[Z]at r;by_cases eu:(u:Int)=p
       · omega
       rw[CB eu]at t r;exact absurd r (f4 u S t)
     · show q∈pgs (ju (D8 p) h.K ⟨p,c,0⟩) h.M↔_
       rw[w.mem_iff,List.mem_cons];constructor
       · rintro(e|e)
         · exact .inr ⟨ω,ω⟩
         exact .inl e
       rintro(e|e)
       · exact .inr e
       exact .inl ω
     rcases cM.1 g with rfl|g
     · exact⟨G,.inr ⟨V5 _,by show p<p+((1:Nat):Int);omega⟩⟩
     exact⟨(aI (X.sok z g)).1,.inl g⟩
   oow:=λo F=>by
     rcases a.oow o F with⟨z,g,A,Q⟩|A
     · exact .inl ⟨z,cM.2 (.inr g),A,Q⟩
     exact .inr A
   hca:=λd hd j hj b D=>(i b j).2 (a.hca d hd j hj b D)
   hqu:=λy T=>(i _ _).2 (a.hqu y T)
   hfl:=λb D=>(i _ _).2 (a.hfl b D)
   hin:=λb D=>(i _ _).2 (a.hin b D)
   mem:=λb=>(a.mem b).trans (by
     show nB h.K h.M b↔nB (ju (D8 p) h.K ⟨p,c,0⟩) h.M b;unfold nB;rw[i])
   job:=λhm=>by
     obtain⟨j1,⟨y,T,e1⟩,⟨u,S,e2⟩⟩:=a.job hm;exact⟨j1,⟨y,cM.2 (.inr T),e1⟩,⟨u,cM.2 (.inr S),e2⟩⟩}
def addL(h:ac)(k:ah)(a:List aB)(p n size t:Int):ac:={h with G:=k,j:=a,M:=ju (Q6 p) h.M ⟨p,n,size⟩,O:=ju (Li (16*p)) h.O ⟨h.b,16*p,size,t⟩,b:=h.b+1}
def aZ.addL{h:ac}{E:List Int}{size t:Int}{n:Nat}(a:aZ h E)(g:9<=size/\size<=1000)(J:(n:Int)=(size+15) / 16)(i:(ax h.j n).2.2=true){k:ah}(s:jz h.G (ax h.j n).2.1 n (k,n))(hn:h.b<1000000)(ht:0<=t/\t<=h.S.length - 1) :
  aZ (addL h k (ax h.j n).1 (ax h.j n).2.1 n size t) E:=by
 have B:(1:Int)<=n:=ω
 obtain⟨V,K,r3,M,r5⟩:=o6 a.rng B i;obtain⟨-,W,u3,H⟩:=ix a B i;generalize (ax h.j n).2.1=p at K r3 M r5 W u3 H s |-;generalize (ax h.j n).1=fr at V M |-;have N:=(br.1 (aG.1 a.ker).2.2.1).2.2;change (tbl h).J.length<=32 at N;have O:=a.L;have P:=lw (Q6 p) h.M ⟨p,n,size⟩;have C:=lw (Li (16*p)) h.O ⟨h.b,16*p,size,t⟩;have Q:lpgs ⟨p,n,size⟩ ((n:Nat):Int).toNat=lpgs ⟨p,n,size⟩ n:=by rw[I3]
 have D:(pgs h.K (ju (Q6 p) h.M ⟨p,n,size⟩)).Perm (lpgs ⟨p,n,size⟩ n++pgs h.K h.M):=by
  refine(FV (List.Perm.refl h.K) P).trans ?_;unfold pgs;rw[V7];simp only[Q];rw[<-O6,<-O6];exact List.perm_append_comm.append_right _
 have u:∀q,q∈lpgs ⟨p,n,size⟩ n↔p<=q/\q<p+n:=λq=>by
  rw[d4];constructor
  ·rintro⟨j,hj,rfl⟩;exact⟨by show p<=p+(j:Int);omega,by show p+(j:Int)<_;omega⟩
  rintro⟨X,Y⟩;exact⟨(q - p).toNat,ω,by show q=p+_;omega⟩
 have R:(lpgs ⟨p,n,size⟩ n).Nodup:=by
  unfold lpgs List.Nodup;rw[List.pairwise_map];exact List.nodup_range.imp λr e=>r (by simp only at e;omega)
 have r:∀z∈h.M,z.R≠p:=λz g e=>H p (V5 _) ω (by rw[<-e];exact gl g (d4.2 ⟨0,by have:=aT (O.lok z g);omega,ω⟩))
 have S:¬nB h.K h.M (16*p):=by
  rintro(⟨z,g,d,-⟩|⟨l,c,e⟩)
  ·exact H p (V5 _) ω (by rw[show p=z.R by have a1:=d.1;have a2:=d.2.1;omega];exact d9 g)
  exact r l c ω
 have F:(16*p)∉E++holders h:=λT=>S ((a.mem _).1 T)
 have U:∀o∈h.O,o.Addr≠16*p:=λo i e=>F (V3.2 (.inr (by unfold holders;simp only[V3];exact .inl (.inl (.inl (Y4.2 ⟨o,i,e⟩))))))
 have Z:(E++holders (Ab.addL h k fr p n size t)).Perm ((16*p)::(E++holders h)):=by
  have h0:=C.map (·.Addr);refine List.perm_iff_count.2 λb=>?_
  have d:=h0.count_eq b;simp only[X6,List.count_cons]at d;simp only[holders,cJ,Ab.addL,Y6,List.count_cons];omega
 exact {a with
   ker:=s.ker
   rng:=by show bG ((k.F.Q.J.length:Nat):Int) fr=true;rw[s.len];exact V
   lay:=by
     obtain⟨l1,l2,l3⟩:=eA a.lay;unfold bq;simp only[I0,C0];refine⟨⟨l1,O4.2 λz w=>?_⟩,D.nodup_iff.2 (List.nodup_append.2 ⟨R,l3,λq G b hb e=>?_⟩)⟩
     · rcases cM.1 w with rfl|w
       · exact O0 ⟨g.1,g.2,J,K,by show p<=32 - (n:Int);omega⟩
       exact O.lok z w
     subst e;have:=(u q).1 G;exact H q this.1 this.2 hb
   srl:=mw (f:=λz:aF=>z.R) (y:=⟨p,n,size⟩) a.srl r
   pg:=by
     refine a.pg.add (p:=p) (n:=n) s.len (by exact W) K (λq G=>s.out q G) (λq X Y=>s.new q X Y) (λq=>M q) (λq=>?_) (λz g=>⟨(aI (O.sok z g)).1,.inl g⟩) (λl c=>?_)
     · show q∈pgs h.K (ju (Q6 p) h.M ⟨p,n,size⟩)↔_
       rw[D.mem_iff,V3,u];exact Or.comm
     rcases cM.1 c with rfl|c
     · exact .inr λq G=>(u q).1 (by simpa using G)
     exact .inl c
   nums:=BQ a.nums hn
   osr:=mw (f:=λo:bt=>o.Addr) (y:=⟨h.b,16*p,size,t⟩) a.osr U
   onu:=λo i=>by
     rcases cM.1 i with rfl|i
     · have:=a.nums
       unfold cq at this;rw[C0]at this;exact⟨by show 1<=h.b;omega,by show h.b<=h.b+1 - 1;omega,ht⟩
     have:=a.onu o i;exact⟨this.1,by show o.Id<=h.b+1 - 1;omega,this.2.2⟩
   oid:=by
     show((ju (Li (16*p)) h.O ⟨h.b,16*p,size,t⟩).map (·.Id)).Nodup;rw[(C.map _).nodup_iff,X6];refine List.nodup_cons.2 ⟨λT=>?_,a.oid⟩;obtain⟨o,i,e⟩:=Y4.1 T;have:=(a.onu o i).2.1;simp only at e;omega
   oow:=λo A=>by
     rcases cM.1 A with rfl|A
     · exact .inr ⟨_,cM.2 (.inl rfl),rfl,rfl⟩
     rcases a.oow o A with d|⟨l,c,d⟩
     · exact .inl d
     exact .inr ⟨l,cM.2 (.inr c),d⟩
   nd:=Z.nodup_iff.2 (List.nodup_cons.2 ⟨F,a.nd⟩)
   mem:=λb=>by
     rw[Z.mem_iff,List.mem_cons,a.mem b];show _↔nB h.K (ju (Q6 p) h.M ⟨p,n,size⟩) b;unfold nB;constructor
     · rintro(rfl|d|⟨l,c,e⟩)
       · exact .inr ⟨_,cM.2 (.inl rfl),rfl⟩
       · exact .inl d
       exact .inr ⟨l,cM.2 (.inr c),e⟩
     rintro(d|⟨l,c,e⟩)
     · exact .inr (.inl d)
     rcases cM.1 c with rfl|c
     · exact .inl e
     exact .inr (.inr ⟨l,c,e⟩)}
structure JK(h h':ac):Prop where
 job:h'.Z=h.Z
 msh:h'.u=h.u
 sp:∀s∈h.K,fH h s.R=true->∃s'∈h'.K,s'.R=s.R/\∀u,meshable s u=true->meshable s' u=true
 ent:∀q:Nat,(nth (tbl h').J q).e≠0->((nth (tbl h).J q).e≠0/\(nth (tbl h').J q).o=(nth (tbl h).J q).o)\/∀u:Nat,(nth (tbl h').J u).e≠0->(nth (tbl h').J u).o=(nth (tbl h').J q).o->u=q
def JK.refl(h:ac):JK h h:=⟨rfl,rfl,λs a _=>⟨s,a,rfl,λ_ z=>z⟩,λ_ b=>.inl ⟨b,rfl⟩⟩
variable{h':ac}
def JK.pg(k:JK h h')(p:Int):fH h' p=fH h p:=by unfold fH;rw[k.job,k.msh]
def JK.trans{h1 g:ac}(a:JK h h1)(b:JK h1 g):JK h g:=by
 refine⟨b.job.trans a.job,b.msh.trans a.msh,λs o i=>?_,λq j=>?_⟩
 ·obtain⟨p,r,k,t⟩:=a.sp s o i
  obtain⟨w,y,A,B⟩:=b.sp p r (by rw[a.pg,k];exact i);exact⟨w,y,A.trans k,λu c=>B u (t u c)⟩
 rcases b.ent q j with⟨d,l⟩|d
 ·rcases a.ent q d with⟨e,C⟩|e
  ·exact .inl ⟨e,l.trans C⟩
  refine .inr λu c n=>?_
  rcases b.ent u c with⟨f,D⟩|f
  ·exact e u f (by rw[<-D,<-l];exact n)
  exact(f q j n.symm).symm
 exact .inr d
def pc.keep(f:0<=p)(d:(nth (tbl h').J p.toNat).e≠0)(g:pc (tbl h) p)(k:JK h h'):pc (tbl h') p:=λq e c=>by
 rcases k.ent p.toNat d with⟨n,i⟩|a
 ·rcases k.ent q e with⟨j,l⟩|b
  ·exact g q j (by rw[<-l,c,i])
  have:=b p.toNat d c.symm;omega
 have:=a q e c;omega
def aZ.mapped(a:aZ h E)(b:s∈h.K):0<=s.R/\s.R<(tbl h).J.length/\(nth (tbl h).J s.R.toNat).e≠0:=by
 have c:=(aI (a.L.sok s b)).1;have d:=a.pg.bnd _ (d9 (la:=h.M) b);refine⟨c,d,(a.pg.own s.R.toNat ω).2 ?_⟩;rw[show((s.R.toNat:Nat):Int)=s.R by omega];exact d9 b
def JI.keep(l:JI h)(p:aZ h' E)(k:JK h h'):JI h':=by
 have d:h.u=true->∃a∈h'.K,∃b∈h'.K,a.R=h.Z.X.a4/\b.R=h.Z.X.a2/\meshable a b=true:=λc=>by
  obtain⟨a,n,b,o,f,g,e⟩:=l.sp c;obtain⟨q,t,u,w⟩:=k.sp a n (by unfold fH;rw[c,f];simp);obtain⟨y,A,B,C⟩:=k.sp b o (by unfold fH;rw[c,g];simp);refine⟨q,t,y,A,u.trans f,B.trans g,?_⟩;have r:=w b e;rw[gW]at r |-;exact C q r
 refine⟨λc=>?_,λc=>?_,λc=>?_,λc=>?_⟩
 ·rw[k.msh]at c;rw[k.job];exact l.ph c
 ·rw[k.msh]at c;rw[k.job];exact d c
 ·rw[k.msh]at c
  obtain⟨a,n,b,o,f,g,e⟩:=d c;obtain⟨i,D,j⟩:=p.mapped n;rw[k.job];rw[f]at i j;exact(l.sk c).keep i j k
 rw[k.msh]at c;obtain⟨a,n,b,o,f,g,e⟩:=d c;obtain⟨i,D,j⟩:=p.mapped o;rw[k.job];rw[g]at i j;exact(l.sm c).keep i j k
def JK.less(h1:h'.Z=h.Z)(c:h'.u=h.u)(d:h'.K=h.K)(b:∀q:Nat,(nth (tbl h').J q).e≠0->nth (tbl h').J q=nth (tbl h).J q):JK h h':=
 ⟨h1,c,λs e _=>⟨s,by rw[d];exact e,rfl,λ_ z=>z⟩,λq a=>.inl ⟨by rw[<-b q a];exact a,by rw[b q a]⟩⟩
def JK.eq(h1:h'.Z=h.Z)(a:h'.u=h.u)(b:h'.K=h.K)(c:tbl h'=tbl h):JK h h':=.less h1 a b λq _=>by rw[c]
def JK.clrS{h:ac}{E:List Int}{a:Int}{i:Nat}(f:aZ h E)(c:i<h.K.length)(d:eO (nth h.K i) a):JK h (clrS h i a):=by
 refine⟨rfl,rfl,λs g _=>?_,λq k=>.inl ⟨k,rfl⟩⟩;obtain⟨j,l,rfl⟩:=aQ g;by_cases e:j=i
 ·subst e
  have b:=f.L.sok _ (ar c);exact⟨_,jl _ c,rfl,λu n=>Bc b (q8 b ⟨d.1,d.2.1⟩) n⟩
 exact⟨_,jY _ l e,rfl,λ_ z=>z⟩
def JK.giveP{h:ac}{E:List Int}{i:Nat}(d:aZ h E)(f:i<h.K.length)(c:fH h (nth h.K i).R=false):JK h (giveP h i):=by
 obtain⟨g,k,-⟩:=d.mapped (ar f);refine⟨rfl,rfl,λs l a=>?_,λq b=>.inl ?_⟩
 ·obtain⟨j,n,rfl⟩:=aQ l
  exact⟨_,dn.2 ⟨j,n,λe=>(by subst e;rw[c]at a;cases a),rfl⟩,rfl,λ_ z=>z⟩
 have o:=lF d.ker (p:=(nth h.K i).R) ⟨g,k⟩ q;change (nth (cj h.G (nth h.K i).R).F.Q.J q).e≠0 at b;show(nth h.G.F.Q.J q).e≠0/\(nth (cj h.G (nth h.K i).R).F.Q.J q).o=(nth h.G.F.Q.J q).o;rw[o]at b |-;split at b
 ·exact absurd rfl b
 rename_i e;rw[CB e];exact⟨b,rfl⟩
def JK.freeS{h:ac}{E:List Int}{a:Int}{i:Nat}(c:aZ h (a::E))(b:i<h.K.length)(d:eO (nth h.K i) a):JK h (freeS h i a):=by
 have g:=c.give b d;have f:=JK.clrS c b d;unfold Ab.freeS;split
 ·rename_i e
  have j:nth (Ab.clrS h i a).K i=nk (nth h.K i) (d5 (nth h.K i) a):=by unfold Ab.clrS;simp only[bI,true_and];rw[CD b]
  exact f.trans (JK.giveP (h:=Ab.clrS h i a) g (by unfold Ab.clrS;simp only[Z1];exact b) (by rw[j];exact e.2))
 exact f
def JK.freeA{h:ac}{E:List Int}{a:Int}(b:aZ h (a::E)):JK h (freeA h a):=by
 obtain⟨c,d,-⟩:=b.at (b.hin a (I2 ..));exact JK.freeS b c d
def JK.recyc{h:ac}{E:List Int}{a:Int}{t:Nat}(b:aZ h (a::E)):JK h (recyc t h a):=by
 unfold Ab.recyc;split
 ·exact JK.eq rfl rfl rfl rfl
 exact JK.freeA b
def JK.recycs{t:Nat}{E:List Int} : ∀{az:List Int}{h:ac},aZ h (az++E)->t<h.S.length->JK h (recycs t h az)
 | [],h,_,_=>JK.refl h
 | a::az,h,b,c=>(JK.recyc (t:=t) b).trans (JK.recycs (az:=az) (h:=Ab.recyc t h a) (b.recyc c) (by rw[(nY t h a).1];exact c))
def JK.freeAs{E:List Int} : ∀{az:List Int}{h:ac},aZ h (az++E)->JK h (freeAs h az)
 | [],h,_=>JK.refl h
 | a::az,h,b=>(JK.freeA b).trans (JK.freeAs (az:=az) (h:=Ab.freeA h a) b.freeA)
def JK.flushN{t:Nat}{h:ac}(c:aZ h [])(d:t<h.S.length):∀{k:Nat},k<=4->JK h (flushN t h k).1
 | 0,_=>JK.refl h
 | k+1,e=>by
  obtain⟨h1,f,-⟩:=jB c d (k:=k) ω;have a:t<(Ab.flushN t h k).1.S.length:=ω
  have b:k<(nth (Ab.flushN t h k).1.S t).a.length:=by rw[(eQ (h1.cach _ (ar a))).1];omega
  exact JK.trans (h1:=Ab.spilt (Ab.flushN t h k).1 t k) ((JK.flushN c d (k:=k) ω).trans (JK.eq rfl rfl rfl rfl)) (JK.freeAs (h1.spilt a b))
def uX(a:aZ h E){k:Nat}(b:k<h.M.length):0<=(nth h.M k).R/\(nth h.M k).R+((nth h.M k).a3.toNat:Nat)<=(tbl h).J.length:=by
 have c:=aT (a.L.lok _ (ar b));have d:=a.pg.bnd _ (gl (sp:=h.K) (ar b) (d4.2 ⟨(nth h.M k).a3.toNat - 1,ω,rfl⟩));exact⟨ω,ω⟩
def JK.freeL{h:ac}{E:List Int}{i k:Nat}(b:aZ h E)(c:k<h.M.length):JK h (freeL h i k):=by
 obtain⟨d,f⟩:=uX b c;refine JK.less rfl rfl rfl λq a=>?_
 have g:=nw b.ker d (nth h.M k).a3.toNat f q;change (nth (unmN h.G (nth h.M k).R (nth h.M k).a3.toNat).F.Q.J q).e≠0 at a;show nth (unmN h.G (nth h.M k).R (nth h.M k).a3.toNat).F.Q.J q=nth h.G.F.Q.J q;rw[g]at a |-;split at a
 ·exact absurd rfl a
 rename_i e;rw[CB e]
def JK.freeOb{h:ac}{t i:Nat}(a:aZ h [])(c:i<h.O.length)(d:t<h.S.length):JK h (freeOb h t i).1:=by
 unfold Ab.freeOb;split
 ·rename_i b
  obtain⟨l,e,h1,-⟩:=(dU a (ar c)).1 b;exact JK.freeL a (wU e h1).1
 rename_i b;split
 ·exact JK.refl h
 have h1:=a.inQuar c b;exact JK.trans (h1:=Ab.inQuar h i) (JK.eq rfl rfl rfl rfl) (JK.recycs (E:=[]) (by rw[List.append_nil];exact h1) d)
def JK.take{k sd:Int}(b:fH h (nth h.K i).R=false):JK h {h with b3:=sd,K:=h.K.set i (qL (nth h.K i) k)}:=by
 refine⟨rfl,rfl,λs c a=>?_,λq d=>.inl ⟨d,rfl⟩⟩;obtain⟨j,f,rfl⟩:=aQ c;exact⟨_,jY _ f λe=>(by subst e;rw[b]at a;cases a),rfl,λ_ z=>z⟩
def qp{t:aJ}{q:Nat}(h:(nth t.J q).e≠0):q<t.J.length:=by
 by_cases e:q<t.J.length
 ·exact e
 exfalso;apply h;unfold nth;rw[C3,z3 ω]
 rfl
def JK.addS{h:ac}{k:ah}{l:List aB}{p c:Int}(s:wm h.G p (k,true)):JK h (addS h k l p c):=by
 obtain⟨f,t,w,d,n⟩:=s.yes rfl;have b:k.F.Q.J.length=h.G.F.Q.J.length:=s.len;refine⟨rfl,rfl,λz o _=>⟨z,cM.2 (.inr o),rfl,λ_ y=>y⟩,λq g=>?_⟩;change (nth k.F.Q.J q).e≠0 at g;show((nth h.G.F.Q.J q).e≠0/\(nth k.F.Q.J q).o=(nth h.G.F.Q.J q).o)\/∀u:Nat,(nth k.F.Q.J u).e≠0->(nth k.F.Q.J u).o=(nth k.F.Q.J q).o->u=q
 by_cases e:(q:Int)=p
 ·refine .inr λu i a=>?_
  have j:=qp i;have f3u:=d u;have f3q:=d q;simp only at f3u f3q;rw[CD e]at f3q;rw[f3q]at a;by_cases r:(u:Int)=p
  ·omega
  rw[CB r]at f3u;rw[f3u]at i a;exact absurd a (n u (by rw[<-b];exact j) i)
 have f3q:=d q;simp only at f3q;rw[CB e]at f3q;rw[f3q]at g |-;exact .inl ⟨g,rfl⟩
def JK.addL{h:ac}{k:ah}{g:List aB}{p size t:Int}{n:Nat}(s:jz h.G p n (k,n)):JK h (addL h k g p n size t):=by
 have a:k.F.Q.J.length=h.G.F.Q.J.length:=s.len;refine⟨rfl,rfl,λz i _=>⟨z,i,rfl,λ_ y=>y⟩,λq b=>?_⟩;change (nth k.F.Q.J q).e≠0 at b;show((nth h.G.F.Q.J q).e≠0/\(nth k.F.Q.J q).o=(nth h.G.F.Q.J q).o)\/∀u:Nat,(nth k.F.Q.J u).e≠0->(nth k.F.Q.J u).o=(nth k.F.Q.J q).o->u=q
 by_cases e:p<=q/\(q:Int)<p+n
 ·exact .inr λu d c=>(s.new q e.1 e.2).2 u (by rw[<-a];exact qp d) d c
 have f:=s.out q e;simp only at f;rw[f]at b |-;exact .inl ⟨b,rfl⟩
def uB(h:ac):∀{n:Nat},n<=h.K.length->∀s∈mD h n,(aW h s.R).length=1
 | 0,_,s,a=>by cases a
 | n+1,b,s,a=>by
  unfold mD at a;split at a
  ·rename_i e
   rcases V3.1 a with a|a
   ·exact uB h ω s a
   unfold AY at e;simp only[I0,C0]at e;rw[V1.1 a];exact e.2
  exact uB h ω s a
def aZ.sole(e:aZ h E)(f:s∈h.K)(h1:(aW h s.R).length=1):pc (tbl h) s.R:=λq a g=>by
 obtain⟨k,l,b⟩:=e.mapped f;have i:s.R=((s.R.toNat:Nat):Int):=ω
 rw[i,fD (by show s.R.toNat<(tbl h).J.length;omega) b]at h1;obtain⟨z,j⟩:=List.length_eq_one_iff.1 h1;have c:(s.R.toNat:Int)∈pagesOn (tbl h) (nth (tbl h).J s.R.toNat).o:=eR.2 ⟨ω,b,rfl⟩;have d:(q:Int)∈pagesOn (tbl h) (nth (tbl h).J s.R.toNat).o:=eR.2 ⟨qp a,a,g⟩;rw[j]at c d;simp only[V1]at c d;omega
def Jh(hi:aZ h [])(l:h.u=false):aZ (started h).1 []/\JI (started h).1:=by
 have F:=hi.nums;unfold cq at F;rw[C0]at F;have L:=(nA (bJ h).length (show 0<=h.b3/\h.b3<=1073741823 by omega) ((bJ h).length - 1)).2;have n:=nK (bJ h) (show 0<=h.b3/\h.b3<=1073741823 by omega);have c:cq {h with b3:=(shuf (bJ h).length h.b3).2} = true:=by
  unfold cq;rw[C0];unfold shuf;simp only;omega
 cases o:mq (bJ h) h.b3 with
 | nil=>
  have f:Ab.started h=({h with b3:=(shuf (bJ h).length h.b3).2},false):=by unfold Ab.started;rw[o]
  rw[f];exact⟨{hi with nums:=c},⟨λe=>by simp[l]at e,λe=>by simp[l]at e,λe=>by simp[l]at e,λe=>by simp[l]at e⟩⟩
 | cons q Q=>
  obtain⟨R,S,g⟩:=n q (by rw[o];exact I2 ..);have f:Ab.started h=({h with b3:=(shuf (bJ h).length h.b3).2,u:=true,Z:=u7 (dl (nth (bJ h) q.A.toNat) (nth (bJ h) q.B.toNat))},true):=by unfold Ab.started;rw[o]
  rw[f];have d:∀s∈bJ h,s∈h.K/\pc (tbl h) s.R:=λs M=>by
   have G:=List.mem_of_mem_take M;have H:=nD h (W3 _) s G;exact⟨H,hi.sole H (uB h (W3 _) s G)⟩
  have j:=d _ (ar (xs:=bJ h) (i:=q.A.toNat) ω);have k:=d _ (ar (xs:=bJ h) (i:=q.B.toNat) ω);generalize nth (bJ h) q.A.toNat=a at g j |-;generalize nth (bJ h) q.B.toNat=b at g k |-;obtain⟨N,T,U⟩:=uA g;have p:(dl a b).a4=a.R/\(dl a b).a2=b.R\/(dl a b).a4=b.R/\(dl a b).a2=a.R:=by
   unfold dl;split
   ·exact .inr ⟨rfl,rfl⟩
   exact .inl ⟨rfl,rfl⟩
  have r:kj (u7 (dl a b))=true:=dz.2 ⟨N,by show(0:Int)<=0;omega,by show(0:Int)<=5;omega,by show(0:Int)<=0;omega,by show(0:Int)<=(((dl a b).T.length:Nat):Int);omega⟩;have t:∃x∈h.K,∃y∈h.K,x.R=(dl a b).a4/\y.R=(dl a b).a2/\meshable x y=true/\pc (tbl h) x.R/\pc (tbl h) y.R:=by
   rcases p with⟨u,w⟩|⟨u,w⟩
   ·exact⟨a,j.1,b,k.1,u.symm,w.symm,g,j.2,k.2⟩
   exact⟨b,k.1,a,j.1,u.symm,w.symm,by rw[gW];exact g,k.2,j.2⟩
  obtain⟨x,J,y,K,C,D,E,O,P⟩:=t;exact⟨{hi with nums:=c,job:=λ_=>⟨r,⟨x,J,C⟩,⟨y,K,D⟩⟩,noj:=λe=>by cases e},⟨λ_=>⟨by show(0:Int)<=0;omega,by show(0:Int)<=3;omega⟩,λ_=>⟨x,J,y,K,C,D,E⟩,λ_=>by show pc (tbl h) (dl a b).a4;rw[<-C];exact O,λ_=>by show pc (tbl h) (dl a b).a2;rw[<-D];exact P⟩⟩
def gf(m:aP)(f:Nat):aP:=⟨m.U.set f ((nth m.U f).drop 1),m.a0.set (nth (nth m.U f) 0).To.toNat (nth m.a0 (nth (nth m.U f) 0).To.toNat++[(nth (nth m.U f) 0).Addr])⟩
def l9(m:aP)(t:Nat):aP:=⟨m.U,m.a0.set t []⟩
def ij(m:aP)(f:Nat)(p:dx):aP:=⟨m.U.set f (nth m.U f++[p]),m.a0⟩
variable{m:aP}
def d8 : bQ m=true↔(1<=m.U.length/\m.U.length<=4/\m.a0.length=m.U.length)/\(∀i,i<m.U.length->(∀p∈nth m.U i,0<=p.To/\p.To<=(m.U.length:Int) - 1/\0<=p.Addr)/\∀a∈nth m.a0 i,0<=a)/\bD m m.U.length<=30:=by
 unfold bQ;simp only[I0,C0,cC,hB,O4,nJ,RQ];exact and_assoc
def pD(m:aP)(f t:Nat)(x:List dx)(y:List Int)(g:f<m.U.length)(h:t<m.a0.length):∀n:Nat,bD ⟨m.U.set f x,m.a0.set t y⟩ n=bD m n+(if f<n then(x.length:Int) - ((nth m.U f).length:Nat) else 0)+(if t<n then(y.length:Int) - ((nth m.a0 t).length:Nat) else 0)
 | 0=>by simp[bD]
 | n+1=>by
  have i:=pD m f t x y g h n;have j:(nth (m.U.set f x) n).length=if f=n then x.length else(nth m.U n).length:=by
   rw[bI];by_cases e:f=n
   ·rw[CD ⟨e,ω⟩,CD e]
   rw[CB λz=>e z.1,CB e]
  have k:(nth (m.a0.set t y) n).length=if t=n then y.length else(nth m.a0 n).length:=by
   rw[bI];by_cases e:t=n
   ·rw[CD ⟨e,ω⟩,CD e]
   rw[CB λz=>e z.1,CB e]
  simp only[bD,i,j,k];by_cases d:f=n
  ·subst d
   by_cases b:t=f
   ·subst b
    simp only[if_true,Nat.lt_irrefl,if_false,Nat.lt_succ_self];omega
   simp only[if_true,Nat.lt_irrefl,if_false,Nat.lt_succ_self,CB b];by_cases a:t<f
   ·rw[CD a,CD (show t<f+1 by omega)];omega
   rw[CB a,CB (show ¬t<f+1 by omega)];omega
  by_cases b:t=n
  ·subst b
   simp only[if_true,Nat.lt_irrefl,if_false,Nat.lt_succ_self,CB d];by_cases a:f<t
   ·rw[CD a,CD (show f<t+1 by omega)];omega
   rw[CB a,CB (show ¬f<t+1 by omega)];omega
  simp only[CB d,CB b];by_cases a:f<n
  ·rw[CD a,CD (show f<n+1 by omega)]
   by_cases c:t<n
   ·rw[CD c,CD (show t<n+1 by omega)];omega
   rw[CB c,CB (show ¬t<n+1 by omega)];omega
  rw[CB a,CB (show ¬f<n+1 by omega)];by_cases c:t<n
  ·rw[CD c,CD (show t<n+1 by omega)];omega
  rw[CB c,CB (show ¬t<n+1 by omega)];omega
def Kn[Inhabited α]{xs:List α}(h:i<xs.length):xs.set i (nth xs i)=xs:=by
 rw[<-Z2.1 (au h) |>.2];exact List.set_getElem_self h
def Hb(h:bQ m=true)(d:f<m.U.length)(n:0<(nth m.U f).length):bQ (gf m f)=true:=by
 obtain⟨⟨o,q,r⟩,g,y⟩:=d8.1 h;obtain⟨t,A⟩:=g f d;have c:=t _ (ar n);have u:(nth (nth m.U f) 0).To.toNat<m.a0.length:=ω
 refine d8.2 ⟨⟨?_,?_,?_⟩,λi j=>?_,?_⟩
 ·simp only[gf,Z1];exact o
 ·simp only[gf,Z1];exact q
 ·simp only[gf,Z1];exact r
 ·simp only[gf,Z1]at j |-
  obtain⟨k,l⟩:=g i j;simp only[bI];refine⟨λp c=>?_,λa b=>?_⟩
  ·split at c
   ·rename_i e;rw[<-e.1]at k
    refine(g f d).1 p (List.mem_of_mem_drop c)
   exact k p c
  split at b
  ·rename_i e
   rcases V3.1 b with b|b
   ·rw[e.1]at b;exact l a b
   rw[V1.1 b];exact c.2.2
  exact l a b
 have w:=pD m f (nth (nth m.U f) 0).To.toNat ((nth m.U f).drop 1) (nth m.a0 (nth (nth m.U f) 0).To.toNat++[(nth (nth m.U f) 0).Addr]) d u m.U.length;simp only[gf,Z1];rw[w,CD d,CD ω,Z3,Y3,List.length_singleton];omega
def Rf(h:bQ m=true)(d:t<m.a0.length):bQ (l9 m t)=true:=by
 obtain⟨⟨e,f,g⟩,j,o⟩:=d8.1 h;refine d8.2 ⟨⟨e,f,?_⟩,λi k=>?_,?_⟩
 ·simp only[l9,Z1];exact g
 ·obtain⟨l,n⟩:=j i k
  simp only[l9,bI];refine⟨l,λa b=>?_⟩;split at b
  ·cases b
  exact n a b
 have c:=pD m t t (nth m.U t) [] ω d m.U.length;rw[Kn ω]at c;show bD ⟨m.U,m.a0.set t []⟩ m.U.length<=30;rw[c,CD ω,CD ω,List.length_nil];omega
def lv(h:bQ m=true)(b:Int):(aR m).count b=(m.U.flatMap λl=>l.map (·.Addr)).count b+(m.a0.flatMap λx=>x).count b:=by
 unfold aR;rw[CD h,Y6,lR]
def aZ.mailed{c:List Int}(d:aZ h E)(i:bQ m=true)(j:m.U.length=h.y.U.length)(k:∀b,c.count b+(aR m).count b=E.count b+(aR h.y).count b)(f:∀a,a∈c\/a∈aR m->j9 h.K a (-1)):aZ {h with y:=m} c:=by
 have g:(E++holders h).Perm (c++holders {h with y:=m}):=by
  refine List.perm_iff_count.2 λb=>?_
  have l:=k b;simp only[holders,cJ,Y6];omega
 exact {d with
   mail:=i
   nc:=d.nc.trans j.symm
   hfl:=λa e=>f a (.inr e)
   hin:=λa e=>f a (.inl e)
   nd:=g.nodup_iff.1 d.nd
   mem:=λb=>by rw[<-g.mem_iff];exact d.mem b}
def H9{d:List Int}(f:aZ h E)(g:∀b,d.count b+(aR m).count b=E.count b+(aR h.y).count b):∀a,a∈d\/a∈aR m->j9 h.K a (-1):=λa c=>by
 have i:=g a;have j:0<d.count a+(aR m).count a:=by
  rcases c with c|c
  ·have:=List.count_pos_iff.2 c;omega
  have:=List.count_pos_iff.2 c;omega
 by_cases e:0<E.count a
 ·exact f.hin a (List.count_pos_iff.1 e)
 exact f.hfl a (List.count_pos_iff.1 ω)
def aZ.deliv(a:aZ h E)(e:f<h.y.U.length)(d:0<(nth h.y.U f).length):aZ {h with y:=gf h.y f} E:=by
 have c:=Hb a.mail e d;obtain⟨⟨q,r,t⟩,j,u⟩:=d8.1 a.mail;have k:=(j f e).1 _ (ar d);have g:∀b,E.count b+(aR (gf h.y f)).count b=E.count b+(aR h.y).count b:=λb=>by
  rw[lv c,lv a.mail];have i:=iU (λl:List dx=>l.map (·.Addr)) b h.y.U f ((nth h.y.U f).drop 1) e;have n:=iU (λx:List Int=>x) b h.y.a0 (nth (nth h.y.U f) 0).To.toNat (nth h.y.a0 (nth (nth h.y.U f) 0).To.toNat++[(nth (nth h.y.U f) 0).Addr]) ω;have o:(nth h.y.U f).map (·.Addr)=(nth (nth h.y.U f) 0).Addr::((nth h.y.U f).drop 1).map (·.Addr):=by
   generalize nth h.y.U f=l at d
   match l,d with
   | p::l,_=>rfl
  simp only[gf];rw[o]at i;simp only[List.count_cons]at i;simp only[Y6,List.count_singleton]at n;omega
 exact a.mailed c (by simp[gf]) g (H9 a g)
def aZ.coll(c:aZ h E)(d:t<h.y.a0.length):aZ {h with y:=l9 h.y t} (nth h.y.a0 t++E):=by
 have a:=Rf c.mail d;have e:∀b,(nth h.y.a0 t++E).count b+(aR (l9 h.y t)).count b=E.count b+(aR h.y).count b:=λb=>by
  rw[lv a,lv c.mail];have f:=iU (λx:List Int=>x) b h.y.a0 t [] d;simp only[List.count_nil]at f;simp only[l9,Y6];omega
 exact c.mailed a rfl e (H9 c e)
def aZ.send{p:dx}(c:aZ h (p.Addr::E))(e:f<h.y.U.length)(a:bQ (ij h.y f p)=true):aZ {h with y:=ij h.y f p} E:=by
 have d:∀b,E.count b+(aR (ij h.y f p)).count b=(p.Addr::E).count b+(aR h.y).count b:=λb=>by
  rw[lv a,lv c.mail];have g:=iU (λl:List dx=>l.map (·.Addr)) b h.y.U f (nth h.y.U f++[p]) e;simp only[V6,X6,List.map_nil,Y6,List.count_singleton]at g;simp only[ij,List.count_cons];omega
 exact c.mailed a (by simp[ij]) d (H9 c d)
def tz(now:Int):List aV->Nat
 | []=>0
 | x::xs=>if x.b7<now - 100 then tz now xs+1 else 0
def aged(h:ac)(n:Int):ac:={h with b2:=h.b2+n,a7:=⟨h.a7.b8,h.a7.a6.drop (tz (h.b2+n) h.a7.a6)⟩}
def ow(h:ac)(n:Int):List Int:=(h.a7.a6.take (tz (h.b2+n) h.a7.a6)).map (·.Addr)
def tick(h:ac)(n:Int):ac:=freeAs (aged h n) (ow h n)
def p8(x:aV)(xs:List aV):∀n,quarCells (x::xs) (n+1)=csz x.d+quarCells xs n
 | 0=>by simp only[quarCells];show 0+csz x.d=csz x.d+0;omega
 | n+1=>by
  rw[iX,p8 x xs n,iX];show csz x.d+quarCells xs n+csz (nth xs n).d=_;omega
def Ua(k:Int):0<=csz k:=by
 unfold csz;split
 ·exact Int.le_of_lt (Int.pow_pos (by decide))
 decide
def Kj:∀(l:List aV)(k:Nat),qc (l.drop k)<=qc l
 | [],k=>by simp
 | x::xs,0=>V5 _
 | x::xs,k+1=>by
  have a:=Kj xs k;have b:=Ua x.d;have c:qc (x::xs)=csz x.d+qc xs:=p8 x xs xs.length;show qc (xs.drop k)<=qc (x::xs);omega
def aZ.aged{h:ac}{E:List Int}{n:Int}(a:aZ h E)(t:0<=n)(u:h.b2+n<=1000000):aZ (aged h n) (ow h n++E):=by
 obtain⟨i,j,k,o,p,q⟩:=jW.1 a.quar;have c:=a.nums;unfold cq at c;rw[C0]at c;have e:=List.drop_sublist (tz (h.b2+n) h.a7.a6) h.a7.a6;have g:(E++holders h).Perm ((ow h n++E)++holders (Ab.aged h n)):=by
  refine List.perm_iff_count.2 λb=>?_
  have r:=Z0 (λl:List aV=>(l.map (·.Addr)).count b) (List.take_append_drop (tz (h.b2+n) h.a7.a6) h.a7.a6);simp only[V6,Y6]at r;simp only[holders,cJ,Ab.aged,ow,Y6];omega
 exact {a with
   nums:=by unfold cq;rw[C0];simp only[Ab.aged];omega
   quar:=jW.2 ⟨λy d=>i y (e.subset d),j.sublist e,k.sublist (e.map _),o,p,O5 (Kj _ _) q⟩
   snc:=λy d=>by
     have:=a.snc y (e.subset d);show y.b7<=h.b2+n;omega
   hqu:=λy d=>a.hqu y (e.subset d)
   hin:=λb f=>by
     rcases V3.1 f with f|f
     · obtain⟨y,d,rfl⟩:=Y4.1 f
       exact(a.hqu y (List.mem_of_mem_take d)).any
     exact a.hin b f
   nd:=g.nodup_iff.1 a.nd
   mem:=λb=>by rw[<-g.mem_iff];exact a.mem b}
def aZ.tick{h:ac}{n:Int}(a:aZ h [])(b:0<=n)(c:h.b2+n<=1000000):aZ (tick h n) []/\JK h (tick h n):=by
 have h1:=a.aged b c;exact⟨aZ.freeAs h1,JK.trans (h1:=Ab.aged h n) (JK.eq rfl rfl rfl rfl) (JK.freeAs h1)⟩
def collect(h:ac)(t:Nat):ac:=recycs t {h with y:=l9 h.y t} (nth h.y.a0 t)
def aZ.collect{h:ac}{t:Nat}(a:aZ h [])(b:t<h.S.length):aZ (collect h t) []/\JK h (collect h t):=by
 have h1:=a.coll (t:=t) (by rw[(d8.1 a.mail).1.2.2,<-a.nc];exact b);exact⟨aZ.recycs h1 b,JK.trans (h1:={h with y:=l9 h.y t}) (JK.eq rfl rfl rfl rfl) (JK.recycs h1 b)⟩
def MV(h:ac)(t i:Nat):ac:={h with G:=fA h.G (nth h.O i).Addr (csz (aN (nth h.O i).q)).toNat,O:=dele h.O i,y:=ij h.y t ⟨(nth h.O i).a5,(nth h.O i).Addr⟩}
def freeT(h:ac)(t i:Nat):ac × Int:=
 if aN (nth h.O i).q<0 then(freeL h i (Az h (nth h.O i).Addr),0)
 else if(af (tbl h) ((nth h.O i).Addr / 16)).e=1 then(h,5)
 else if(nth h.O i).a5=t then(G5 h t i,0)
 else if bQ (ij h.y t ⟨(nth h.O i).a5,(nth h.O i).Addr⟩)=true then(MV h t i,0) else(h,5)
def BF(e:(nth h.O i).a5=t):freeT h t i=freeOb h t i:=by
 unfold freeT freeOb;rw[CD e]
def aZ.freeT{h:ac}{t i:Nat}(a:aZ h [])(b:i<h.O.length)(c:t<h.S.length):aZ (freeT h t i).1 []/\JK h (freeT h t i).1:=by
 by_cases e:(nth h.O i).a5=t
 ·rw[BF e];exact⟨a.freeOb b c,JK.freeOb a b c⟩
 have d:=a.freeOb b c;have f:=JK.freeOb a b c;unfold Ab.freeOb at d f;unfold Ab.freeT;split
 ·rename_i g
  rw[CD g]at d f;exact⟨d,f⟩
 rename_i g;rw[CB g]at d f;split
 ·exact⟨a,JK.refl h⟩
 split
 ·rename_i j
  obtain⟨⟨s,l,n,o⟩,u⟩:=(dU a (ar b)).2 g;have q:=a.dropO b (j9.any ⟨s,l,n,.inr o⟩);have r:=q.cells (k:=fA h.G (nth h.O i).Addr (csz (aN (nth h.O i).q)).toNat) (Gb a.ker _ _) rfl;exact⟨aZ.send (p:=⟨(nth h.O i).a5,(nth h.O i).Addr⟩) r (by show t<h.y.U.length;rw[<-a.nc];exact c) j,JK.eq rfl rfl rfl rfl⟩
 exact⟨a,JK.refl h⟩
def dI(k:ah)(a v:Int):ah:=setCell k (cW k a) (a % 16) v
def xc(h:aC k=true)(b:(af k.F.Q (a / 16)).e≠0)(c:0<=v/\v<=999):aC (dI k a v)=true:=by
 obtain⟨d,e,-⟩:=gS h b;exact rG h (f:=cW k a) d e c
def aZ.store(b:aZ h [])(c:(af h.G.F.Q (a / 16)).e≠0)(d:0<=v/\v<=999):aZ {h with G:=dI h.G a v} []/\JK h {h with G:=dI h.G a v}:=
 ⟨b.cells (xc b.ker c d) rfl,JK.eq rfl rfl rfl rfl⟩
def RB{xs:List Int}{x:Int}(h:dh xs.length (λj=>decide (nth xs j≠x))=true):x∉xs:=λb=>by
 obtain⟨j,a⟩:=List.mem_iff_getElem?.1 b;have:=fB h (Z2.1 a).1;rw[bn a]at this;simp at this
def GZ(xs:List Int)(x:Int)(g:xs.length<=4611686018427387904):zzA 353 false [.val none (aH .V xs),.val none [I x]] .one [B (decide (x∈xs))]:=by
 refine fO 18 [] Tryz.func353 rfl ?_
 repeat'(first|refine gP ?_|fail)
 (conv=>whnf)
 refine CJ (ι:=Nat) (λi=>[(0,.H .one (aH .V xs)),(1,.H .one [I (x)]),(5,.H .one [I ((i:Nat):Int)])]) (λi=>i<=xs.length/\dh i (λj=>decide (nth xs j≠x))=true) (λi=>xs.length - i) 0 ?_ ⟨X0 _,rfl⟩ λi a=>?_
 ·exact wB
 obtain⟨a,b⟩:=a;by_cases c:i<xs.length
 ·have d:=au c
  by_cases e:nth xs i=x
  ·repeat'(first|refine gB ?_|(conv=>whnf);first|with_reducible refine CE (aa d) ?_)
   exact Z0 (λz=>[B z]) ((by symm;exact O0 (by rw[<-e];exact ar c)))
  repeat'(first|refine gB ?_|(conv=>whnf);first|with_reducible refine CE (aa d) ?_)
  ((conv=>whnf);refine CF (i+1) ⟨ω,bW b (O0 e)⟩ ω ?_;(exact wB))
 repeat'(first|refine gE ?_|fail)
 obtain rfl:i=xs.length:=ω
 exact Z0 (λz=>[B z]) ((by symm;exact W0 (RB b)))
theorem bz.more{M c:am}{d:World}(h:bz M w d)(f:∀b o,M b o->c b o):bz c w d:=
 ⟨h.os,h.tape,h.output,h.size,λb a e=>h.blk b a ψ,λb o a e=>h.cel b o a ψ,λb o a e=>h.fro b o a ψ⟩
variable{c:List C}
theorem aM.wk{u:List C}{A B:List MA}{k:Kd}(h:aM P f sh A (.ptr c::B) k rcs)(D:PQ c u):aM P f sh A (.ptr u::B) k rcs:=by
 refine⟨h.has,λw S V i E F l G=>(h.run w S V i E F l G).mono λe w1 H=>?_⟩;obtain⟨v,J,K,X,L,M,N,n,p,a,q,r,b,O,Q,y⟩:=H;refine⟨v,J,K,X,L,M,N,n,p,a,q,r,b,O,Q,?_⟩;cases i with
 | nil=>exact y.elim
 | cons v0 i=>
  obtain⟨⟨R,Y,T,U,W,⟨g,o,Z,e2⟩,d⟩,t⟩:=y;refine⟨⟨R,Y,T,U,W,⟨g,o,Z,λj hj=>e2 j (by grind [ug])⟩,DR D d⟩,t⟩
def aM.frame{c' r:List C}{A B:List MA}{k:Kd}(h:aM P f sh (.ptr c::A) (.ptr c'::B) k rcs)(hl:c'.length=c.length):aM P f sh (.ptr (c++r)::A) (.ptr (c'++r)::B) k rcs:=by
 refine⟨h.has,λw S V vs hS hV hVd hA=>?_⟩;cases vs with
 | nil=>exact hA.elim
 | cons v0 vs=>
 obtain⟨⟨X1,Y,hX1,hY,O,⟨g,q,rfl,u⟩,ff,hf1,J,hf3⟩,hA'⟩:=hA;have hlen:(c++r).length=c.length+r.length:=Y3
 let V0:am:=piece g q ff 0 c.length
 let W:Nat->am:=Pq V0 (λi=>V (i+1))
 have hcX:∀o,q<=o->o<q+(c++r).length->X1 g o:=λo l a=>by
  have:=(u (o - q) ω).1
  rwa [show q+(o - q)=o by omega]at this
 have hV0:∀b o,V0 b o->V 0 b o:=λb o p=>by
  rcases p with⟨rfl,l,a⟩|⟨j,-,a,Q⟩
  ·exact hX1 _ _ (hcX o ω ω)
  exact hY _ _ (J j ω b o Q)
 have K:∀i b o,W i b o->V i b o:=λi b o p=>by
  cases i with
  | zero=>exact hV0 b o p
  | succ i=>exact p
 have hA2:KP w S W (.ptr c::A) (.pointer (some ⟨g,q,none⟩)::vs):=by
  refine⟨?_,hA'⟩;have:=uv (lo:=0) (n:=c.length) (cs:=c++r) ω u hf1 J hf3 O;rw[show bK (c++r) 0 c.length=c by simp[bK]]at this;simp only[X7,Nat.add_zero]at this;exact this
 refine(h.run w S W _ hS (λi b o p=>hV i b o (K i b o p)) (λi i' D b o l a=>hVd i i' D b o (K i b o l) (K i' b o a)) hA2).mono λe w1 hv=>?_
 obtain⟨v,he,hk,X,V',S1,hX,E,hS1,hVd',hXV,hXS,hVS1,hh,hr,hm⟩:=hv;have H:∀b o,(∃i,W i b o)->∃i,V i b o:=λb o ⟨i,Z⟩=>⟨i,K i b o Z⟩
 let R:am:=λb o=>V 0 b o/\¬V0 b o
 have hRW:∀b o,R b o->¬∃i,W i b o:=λb o y ⟨i,Z⟩=>by
  cases i with
  | zero=>exact y.2 Z
  | succ i=>exact hVd 0 (i+1) ω b o y.1 Z
 have F:∀b o,R b o->b<w.heap.size:=λb o y=>(hV 0 b o y.1).1
 have t:∀b o,R b o->¬((∃i,W i b o)\/(b<w1.heap.size/\w.heap.size<=b)):=λb o y p=>by
  rcases p with p|p
  ·exact hRW b o y p
  have:=F b o y;omega
 have hRsame:bp R w w1:=λb o y=>⟨hk.cel b o (F b o y) (hRW b o y),hk.fro b o (F b o y) (hRW b o y)⟩
 have hRS1:∀b o,R b o->¬S1 b o:=λb o y hs=>by
  rcases hS1 b o hs with⟨-,l⟩|l
  ·exact(hV 0 b o y.1).2 l
  exact t b o y l
 have hSsame:bp S w w1:=λb o hb=>⟨hk.cel b o (hS b o hb) (λ⟨i,Z⟩=>(hV i b o (K i b o Z)).2 hb),hk.fro b o (hS b o hb) (λ⟨i,Z⟩=>(hV i b o (K i b o Z)).2 hb)⟩
 have hRc:∀j,c.length<=j->j<(c++r).length->R g (q+j):=λj l a=>by
  refine⟨hX1 _ _ (u j a).1,λp=>?_⟩;rcases p with⟨-,Q,h4⟩|⟨N,Q,h4,h5⟩
  ·omega
  exact O _ _ (u j a).1 (J N ω _ _ h5)
 have L:∀j,c.length<=j->j<(c++r).length->∀b o,ff j b o->R b o:=λj l a b o p=>by
  refine⟨hY _ _ (J j a b o p),λhp=>?_⟩;rcases hp with⟨rfl,Q,h4⟩|⟨N,Q,h4,h5⟩
  ·exact O _ _ (hcX o ω ω) (J j a _ _ p)
  exact hf3 j N a ω ω b o p h5
 let U:Nat->am:=Pq (λb o=>V' 0 b o\/R b o) (λi=>V' (i+1))
 have hU:∀i b o,U i b o->V' i b o\/(i=0/\R b o):=λi b o p=>by
  cases i with
  | zero=>exact p.imp id (λh=>⟨rfl,h⟩)
  | succ i=>exact .inl p
 refine⟨v,he,hk.more H,X,U,S1,λb o p=>(hX b o p).imp (H b o) id,λi b o p=>?_,λb o p=>(hS1 b o p).imp id (Or.imp (H b o) id),λi i' D b o l a=>?_,λi b o l a=>?_,hXS,λi b o l a=>?_,hh,hr,?_,hm.2⟩
 ·rcases hU i b o p with l|⟨-,l⟩
  ·exact(E i b o l).imp (H b o) id
  exact .inl ⟨0,l.1⟩
 ·rcases hU i b o l with l|⟨e1,l⟩
  ·rcases hU i' b o a with a|⟨e2,a⟩
   ·exact hVd' i i' D b o l a
   exact t b o a (E i b o l)
  rcases hU i' b o a with a|⟨e2,a⟩
  ·exact t b o l (E i' b o a)
  exact D ω
 ·rcases hU i b o a with a|⟨-,a⟩
  ·exact hXV i b o l a
  exact t b o a (hX b o l)
 ·rcases hU i b o l with l|⟨-,l⟩
  ·exact hVS1 i b o l a
  exact hRS1 b o l a
 obtain⟨Xa,Ya,ha1,ha2,ha3,⟨ga,oa,hea,ha4⟩,fa,ha5,ha6,ha7⟩:=(show qP w1 (λb o=>S b o\/S1 b o) (V' 0) (.ptr c') (.pointer (some ⟨g,q,none⟩)) from hm.1)
 obtain⟨rfl,rfl⟩ : g=ga/\q=oa:=by simpa using hea
 have G:(c'++r).length=c.length+r.length:=by rw[Y3,hl]
 show qP w1 (λb o=>S b o\/S1 b o) (λb o=>V' 0 b o\/R b o) (.ptr (c'++r)) (.pointer (some ⟨g,q,none⟩));have faV:∀j,j<c.length->∀b o,fa j b o->V' 0 b o:=λj M b o p=>ha2 _ _ (ha6 j ω b o p)
 refine⟨λb o=>Xa b o\/(R b o/\∃j,c.length<=j/\j<(c++r).length/\b=g/\o=q+j),λb o=>Ya b o\/∃j,c.length<=j/\j<(c++r).length/\ff j b o,λb o p=>?_,λb o p=>?_,λb o l a=>?_,⟨g,q,rfl,λj M=>?_⟩,λj=>if j<c.length then fa j else ff j,λj d M=>?_,λj M b o p=>?_,λj N M hj' D b o l a=>?_⟩
 ·exact p.imp (ha1 b o) (·.1)
 ·rcases p with p|⟨j,l,a,Q⟩
  ·exact .inl (ha2 b o p)
  exact .inr (L j l a b o Q)
 ·rcases l with l|⟨l,j,j1,j2,rfl,rfl⟩
  ·rcases a with a|⟨j,j1,j2,j3⟩
   ·exact ha3 b o l a
   exact t b o (L j j1 j2 b o j3) (E 0 b o (ha1 b o l))
  rcases a with a|⟨N,j3,j4,j5⟩
  ·exact t _ _ l (E 0 _ _ (ha2 _ _ a))
  exact O _ _ (u j j2).1 (J N j4 _ _ j5)
 ·rw[G]at M
  by_cases hc:j<c.length
  ·have:=ha4 j ω
   exact⟨.inl this.1,this.2⟩
  have y:=hRc j ω ω;have hs:=hRsame _ _ y;have T:=u j ω;refine⟨.inr ⟨y,j,ω,ω,rfl,rfl⟩,?_,?_⟩
  ·rw[hs.1];exact T.2.1
  rw[hs.2];exact T.2.2
 ·dsimp only
  by_cases hc:j<c.length
  ·rw[CD hc]
   rw[t5 ω]at M;exact ha5 j d M
  rw[CB hc];rw[v5 ω,hl]at M;have hj2:(c++r)[j]? = some d:=by rw[v5 ω];exact M
  have hjl:=(Z2.1 hj2).1;have Q:=(hf1 j d hj2).keep hSsame (λb o p=>hRsame b o (L j ω hjl b o p));have T:=(hRsame _ _ (hRc j ω hjl)).1;have:cu w1 .box (.pointer (some ⟨g,q,none⟩)) j=cu w .box (.pointer (some ⟨g,q,none⟩)) j:=by
   simp only[cu];rw[T]
  rw[this];exact Q.mono (λ_ _ h=>.inl h) (λ_ _ h=>h)
 ·rw[G]at M
  split at p
  ·rename_i hc;exact .inl (ha6 j ω b o p)
  exact .inr ⟨j,ω,ω,p⟩
 rw[G]at M hj';split at l
 ·rename_i c1
  split at a
  ·exact ha7 j N ω ω D b o l a
  exact t b o (L N ω ω b o a) (E 0 b o (faV j c1 b o l))
 split at a
 ·rename_i c1;exact t b o (L j ω ω b o l) (E 0 b o (faV N c1 b o a))
 exact hf3 j N ω ω D b o l a
mutual
def U1:∀c:C,fz (fz c)=fz c
 | .v x=>by simp[fz]
 | .s o rows=>by simp only[fz];rw[Kg rows]
 | .x=>by simp[fz]
 | .z=>by simp[fz]
 | .m _=>by simp[fz]
 | .it _ _=>by simp[fz]
def Kg:∀a:List (List C),fzR (fzR a)=fzR a
 | []=>rfl
 | r::a=>by simp only[fzR];rw[tV r,Kg a]
def tV:∀cs:List C,dG (dG cs)=dG cs
 | []=>rfl
 | c::cs=>by simp only[dG];rw[U1 c,tV cs]
end
def oq(k:ah)(a:aC k=true)(e:k.Calls≠100000):zzB 484 false [.ptr (ah.enc .own k)] [.ptr (ah.enc .own (cn k))] .one [B (!refd k)]:=by
 have b:=bv a;have c:=(aG.1 a).2.2.2.2;have d:=GZ k.w k.Calls (by have:=b.2;omega);refine fM 22 [] [(2,9,[11,12,13,14,15,16,17,18,19])] [(0,0)] Tryz.func484 rfl (λu q=>?_)
 repeat'(first|refine gP ?_|(conv=>whnf);first|refine CG (d) ⟨⟨rfl,dK _⟩,⟨rfl,Z0 (λz=>[I z]) ω⟩,trivial⟩ ?_)
 refine CH rfl ?_ ?_
 ·rfl
 exact wB
def oO(k:ah)(p m:Int)(a:aC k=true)(j:k.Calls≠100000)(d:(af k.F.Q p).e≠0)(l:m=1\/m=2):zzB 575 false [.ptr (ah.enc .own k),.val none [I p],.val none [I m]] [.ptr (ah.enc .own (jX k p m).1),.val none [I p],.val none [I m]] .one [B (jX k p m).2]:=by
 have n:=bv a;have b:=oq k a j;have g:=eP (cn k) p n.1.2;have c:=aK m 1 2;rw[O0 ω]at c;obtain⟨o,t,w,-⟩:=bY a d;have h:=au (xs:=k.F.Q.J) (i:=p.toNat) ω;have r:¬(af (cn k).F.Q p).e=0:=d;unfold jX;cases e:refd k<;>rw[e]at b
 ·rw[CB (by simp),MG]
  refine fM 31 [(484,[2])] [] [(0,0),(0,0),(0,0)] Tryz.func575 rfl (λu q=>?_)
  repeat'(first|refine gB ?_|(conv=>whnf);first|refine CL (b) (.inl rfl) ?_|refine CG (g) ⟨CR (cn k),⟨rfl,rfl⟩,trivial⟩ ?_|refine C9 (c) ?_|refine CO o (aa h) ?_|refine CQ rfl rfl (aa h) rfl (O1 rfl) rfl ?_)
  refine CH rfl ?_ ?_
  ·rfl
  exact wB
 rw[CD rfl];refine fM 31 [(484,[2])] [] [(0,0),(0,0),(0,0)] Tryz.func575 rfl (λu q=>?_)
 repeat'(first|refine gB ?_|(conv=>whnf);first|refine CL (b) (.inl rfl) ?_|refine CG (g) ⟨CR (cn k),⟨rfl,rfl⟩,trivial⟩ ?_|refine C9 (c) ?_)
 refine CH rfl ?_ ?_
 ·rfl
 exact wB
def Rw.two{off k d e b:Nat}{K:List C->Nat->Prop}{o f:dY}{rows2:List (List C)}{r a:List C}(h1:c[off]? = some (.s o rows))(g:rows[i]? = some r)(h:r.length=k)(l:r[j]? = some (.s f rows2))(n:rows2[d]? = some a)(p:a.length=e)(q:K a b):Rw c off [(i,k,j),(d,e,b)] K:=
 Rw.mk (r:=a) (j:=b) (by simp[cw,h1,g,h,l,n,p]) q
def Ar(k:ah)(a b c:Int)(h:aC k=true)(F:(af k.F.Q a).e≠0)(G:(af k.F.Q b).e≠0)(g:0<=c/\c<=15):zzB 576 false [.ptr (ah.enc .own k),.val none [I a],.val none [I b],.val none (aH .V [c])] [.ptr (ah.enc .own (tO k a b c)),.val none [I a],.val none [I b],.val none (aH .V [c])] .one [B true]:=by
 have w:=bv h;have H:=eP k a w.1.2;have J:=eP k b w.1.2;have y:=aK c 0 15;rw[O0 g]at y;obtain⟨K,O,L,C,P⟩:=bY h F;obtain⟨M,Q,D,E,R⟩:=bY h G;have N:=(bf.1 (aG.1 h).2.1).2.2.1;have S:=row16 h (f:=bP k a) (by unfold bP;omega);have T:=row16 h (f:=bP k b) (by unfold bP;omega);have d:k.F.W.T[(af k.F.Q a).o.toNat]? = some (nth k.F.W.T (bP k a)):=au ω;have e:k.F.W.T[(af k.F.Q b).o.toNat]? = some (nth k.F.W.T (bP k b)):=au ω;have l:=au (xs:=nth k.F.W.T (bP k a)) (i:=c.toNat) ω;have o:=au (xs:=nth k.F.W.T (bP k b)) (i:=c.toNat) ω;have p:=au (xs:=k.F.Q.J) (i:=a.toNat) ω;have r:=au (xs:=k.F.Q.J) (i:=b.toNat) ω;rw[L]at C d;rw[D]at E e;have t:[c][0]? = some c:=rfl;refine fM 90 [] [(13,28,[61,62,63,64,65,66,67,68,69,70,71,72,73,74,75,76,77,78,79,80,81,82,83,84,85,86,87,88])] [(0,0),(0,0),(0,0),(0,0)] Tryz.func576 rfl (λu q=>?_)
 repeat'(first|refine gB ?_|(conv=>whnf);first|refine CC ?_|refine CG (H) ⟨CR k,⟨rfl,rfl⟩,trivial⟩ ?_|refine CG (J) ⟨CR k,⟨rfl,rfl⟩,trivial⟩ ?_)
 (conv=>whnf)
 refine CJ (ι:=Nat) (λn=>[(0,.H .box (ah.enc .own k)),(1,.H .one [I (a)]),(2,.H .one [I (b)]),(3,.H .one (aH .V [c])),(9,.H .one [I ((n:Nat):Int)])]) (λn=>n<=1) (λn=>1 - n) (0) ?_ (X0 _) λn U=>?_
 ·exact wB
 by_cases V:n<1
 ·obtain rfl:n=0:=ω
  repeat'(first|refine gE ?_|(conv=>whnf);first|refine CC ?_|refine CO (by decide) (aa t) ?_|refine C9 (y) ?_)
  ((conv=>whnf);refine CF 1 ω ω ?_;(exact wB))
 obtain rfl:n=1:=ω
 repeat'(first|refine gE ?_|(conv=>whnf);first|refine CC ?_|refine CO K (aa p) ?_|refine CO M (aa r) ?_|refine CK rfl (aa p) rfl ?_|refine CK rfl (aa r) rfl ?_)
 (conv=>whnf)
 refine CJ (ι:=Nat) (λj=>[(0,.H .box (ah.enc .own (Ta k a b c j))),(3,.H .one (aH .V [c])),(10,.H .one [I ((nth k.F.Q.J a.toNat).o)]),(11,.H .one [I ((nth k.F.Q.J b.toNat).o)]),(12,.H .one [I ((j:Nat):Int)])]) (λj=>j<=1) (λj=>1 - j) (0) ?_ (X0 _) λj W=>?_
 ·exact wB
 by_cases X:j<1
 ·obtain rfl:j=0:=ω
  repeat'(first|refine gE ?_|(conv=>whnf);first|refine CC ?_|refine CO (by decide) (aa t) ?_|refine CO C (aa d) ?_|refine CO E (aa e) ?_|refine CO g.1 (aa l) ?_|refine CO g.1 (aa o) ?_|refine CK rfl (aa e) rfl ?_|refine CK rfl (aa d) rfl ?_|refine Rw.two rfl (aa d) rfl rfl (aa l) rfl ?_|refine Pu.two rfl rfl (aa e) rfl rfl rfl (aa o) rfl (W3 _) rfl ?_)
  ((conv=>whnf);refine CF 1 ω ω ?_)
  rw[show Ta k a b c 1=tO k a b c from rfl];unfold tO;rw[Gd,show bP k b=(nth k.F.Q.J b.toNat).o.toNat by unfold bP;rw[D]];exact wB
 obtain rfl:j=1:=ω
 repeat'(first|refine gE ?_|(conv=>whnf);first|refine CC ?_)
 refine CH rfl ?_ ?_
 ·rfl
 exact wB
def Js(k:ah)(p o:Int)(a:aC k=true)(y:k.Calls≠100000)(g:(af k.F.Q p).e≠0)(h:(af k.F.Q o).e≠0)(C:p≠o):zzB 577 false [.ptr (ah.enc .own k),.val none [I p],.val none [I o]] [.ptr (ah.enc .own (w8 k p o).1),.val none [I p],.val none [I o]] .one [B (w8 k p o).2]:=by
 have b:=bv a;have c:=oq k a y;have j:=eP (cn k) p b.1.2;have l:=eP (cn k) o b.1.2;obtain⟨D,K,E,n,r⟩:=bY a g;obtain⟨F,L,M,N,O⟩:=bY a h;have G:=(bf.1 (aG.1 a).2.1).2.2.1;have d:=au (xs:=k.F.Q.J) (i:=p.toNat) ω;have t:=au (xs:=k.F.Q.J) (i:=o.toNat) ω;have H:¬(af (cn k).F.Q p).e=0:=g;have J:¬(af (cn k).F.Q o).e=0:=h;rw[E]at n r;have w:=t8 (wq (cn k) p.toNat ⟨2,(nth k.F.Q.J o.toNat).o⟩) (nth k.F.Q.J p.toNat).o (Qz _ _ b.1.2) ⟨n,by show _<((k.F.W.T.length:Nat):Int);omega,r⟩;rw[Qb]at w;unfold w8;cases e:refd k<;>rw[e]at c
 ·rw[CB (by simp)]
  refine fM 60 [(484,[2]),(486,[2,0])] [(4,274,[38,39,40,41,42,43,44,45,46,47,48,49,50,51,52,53,54,56,0,1,2,3,4,5,6,7,8,9,10,11,12,13,14,15,16,17,1000,1001,1002,1003,1004,1005,1006,18,19])] [(0,0),(0,0),(0,0)] Tryz.func577 rfl (λu q=>?_)
  repeat'(first|refine gB ?_|(conv=>whnf);first|refine CC ?_|refine CL (c) (.inl rfl) ?_|refine CG (j) ⟨CR (cn k),⟨rfl,rfl⟩,trivial⟩ ?_|refine CG (l) ⟨CR (cn k),⟨rfl,rfl⟩,trivial⟩ ?_|refine CO D (aa d) ?_|refine CO F (aa t) ?_|refine CK rfl (aa d) rfl ?_|refine CK rfl (aa t) rfl ?_|refine CQ rfl rfl (aa d) rfl (O1 rfl) rfl ?_|refine CL (w) (.inl rfl) ?_)
  refine CH rfl ?_ ?_
  ·rfl
  exact wB
 rw[CD rfl];refine fM 60 [(484,[2]),(486,[2,0])] [(4,274,[38,39,40,41,42,43,44,45,46,47,48,49,50,51,52,53,54,56,0,1,2,3,4,5,6,7,8,9,10,11,12,13,14,15,16,17,1000,1001,1002,1003,1004,1005,1006,18,19])] [(0,0),(0,0),(0,0)] Tryz.func577 rfl (λu q=>?_)
 repeat'(first|refine gB ?_|(conv=>whnf);first|refine CC ?_|refine CL (c) (.inl rfl) ?_|refine CG (j) ⟨CR (cn k),⟨rfl,rfl⟩,trivial⟩ ?_|refine CG (l) ⟨CR (cn k),⟨rfl,rfl⟩,trivial⟩ ?_)
 refine CH rfl ?_ ?_
 ·rfl
 exact wB
def Ae(m:aY)(a:Int)(d:aY.sml m)(c:0<=a/\a<512):zzA 590 false [.val (some 3) (aY.enc .V m),.val none [I a]] (.tup [some 2,none]) (bh.enc .own (af m.Q (a / 16))++[I (a % 16)]):=by
 have e:=dq m.Q (a / 16) d.2;have b:a.tmod 16=a % 16:=fR c.1;refine fO 16 [] Tryz.func590 rfl ?_ (.inr ⟨trivial,trivial,trivial,trivial⟩)
 repeat'(first|refine gE ?_|(conv=>whnf);first|refine CC ?_|refine C9 (e) ?_|refine CN (r9 c) ?_|refine CP (by decide) ?_|refine CV b ?_)
 rfl
def HB(m:aY)(a v:Int)(o:dB m=true)(e:aY.sml m)(p:0<=a/\a<512)(q:0<=v/\v<=999)(r:(af m.Q (a / 16)).e≠0->0<=(af m.Q (a / 16)).o/\(af m.Q (a / 16)).o<m.W.T.length/\(nth m.W.T (af m.Q (a / 16)).o.toNat).length=16):zzA 588 false [.val (some 3) (aY.enc .V m),.val none [I a],.val none [I v]] (.tup [some 3,none]) (aY.enc .own (jo m a v).1++[I (jo m a v).2]):=by
 have c:=qb m e;rw[o]at c;have g:=tM m e;have h:=Ae m a e p;have d:=aK v 0 999;rw[O0 q]at d;have b:=aY.enc_fr (jo m a v).1;unfold jo at b |-;by_cases j:(af m.Q (a / 16)).e=0
 ·rw[CD j]at b |-
  refine fO 47 [] Tryz.func588 rfl ?_ (.inr (aL b ⟨trivial,trivial⟩))
  repeat'(first|refine gB ?_|(conv=>whnf);first|refine CC ?_|refine C9 (c) ?_|refine C9 (g) ?_|refine C9 (h) ?_|refine C9 (d) ?_)
  rfl
 rw[CB j]at b |-;by_cases l:(af m.Q (a / 16)).e=1
 ·rw[CD l]at b |-
  refine fO 47 [] Tryz.func588 rfl ?_ (.inr (aL b ⟨trivial,trivial⟩))
  repeat'(first|refine gB ?_|(conv=>whnf);first|refine CC ?_|refine C9 (c) ?_|refine C9 (g) ?_|refine C9 (h) ?_|refine C9 (d) ?_)
  rfl
 rw[CB l]at b |-;obtain⟨t,u,w⟩:=r j;have k:=au (xs:=m.W.T) (i:=(af m.Q (a / 16)).o.toNat) ω;have n:=au (xs:=nth m.W.T (af m.Q (a / 16)).o.toNat) (i:=(a % 16).toNat) ω;simp only at b |-;rw[HC]at b |-;refine fO 47 [] Tryz.func588 rfl ?_ (.inr (aL b ⟨trivial,trivial⟩))
 repeat'(first|refine gB ?_|(conv=>whnf);first|refine CC ?_|refine C9 (c) ?_|refine C9 (g) ?_|refine C9 (h) ?_|refine C9 (d) ?_|refine CO t (aa k) ?_|refine CO ω (aa n) ?_|refine CK rfl (aa k) rfl ?_|refine Pu.two rfl rfl (aa k) rfl rfl rfl (aa n) rfl (W3 _) rfl ?_)
 rfl
end Go.Proofs.YtiopgblagimpmaaGreat.Ab
