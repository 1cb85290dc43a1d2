/- An object freed by its own thread, and all objects of a thread: the reference's contracts. No condition. -/
import Derived.Test.YtiopgblagimpmaaGreatKbc
import Derived.Test.YtiopgblagimpmaaGreatKbe
import Derived.Deep.LoopGhost
import Derived.Deep.RegionLaw
import Derived.Lib.Walk
import Derived.Sort.WalkB12
import Derived.Lib.SliceRun
import Derived.Shelf.RegionOpenPlain
set_option linter.unusedVariables false
set_option linter.defProp false
set_option linter.unusedSimpArgs false
set_option linter.constructorNameAsVariable false
namespace Go.Proofs.YtiopgblagimpmaaGreat.Ab
open Go.RowKit
set_option maxRecDepth 20000
set_option maxHeartbeats 4000000
def qM{z:Int}(h:0<=z/\z<512):IntKind.i64.wrap (z.tdiv 16)=z / 16:=(Z0 _ (tdiv16 h.1)).trans (fC ω ω)
variable{E:List Int}{h:ac}
def pH(a:bc h E){o:bo}(b:o∈h.O):0<=o.Addr/\o.Addr<512:=by
 rcases a.oow o b with⟨s,c,⟨f,g,-⟩,-⟩|⟨l,d,e,-⟩
 ·have:=aI (a.L.sok s c);omega
 have:=aS (a.L.lok l d);omega
theorem Pf{k:Int}(h:0<=k/\k<=3):1<=csz k/\csz k<=8:=by grind [ce]
structure Ul(h:ac)(o:bo):Prop where
 cl:0<=aK o.q/\aK o.q<=3
 fr:0<=(af h.G.F.R (o.Addr / 16)).j/\(af h.G.F.R (o.Addr / 16)).j<h.G.F.W.T.length
 fit:o.Addr % 16+csz (aK o.q)<=16
 row:(nth h.G.F.W.T (cW h.G o.Addr)).length=16
theorem Ul.of(a:bc h E){o:bo}(i:o∈h.O)(k:¬aK o.q<0):Ul h o:=by
 obtain⟨⟨s,j,b,r⟩,t⟩:=(dS a i).2 k;have l:=aI (a.L.sok s j);have n:=pH a i;have u:s.Q=o.Addr / 16:=by have w:=b.1;have y:=b.2.1;omega
 have c:(o.Addr / 16).toNat<(tbl h).K.length:=by have:=a.pg.bnd _ (d7 (la:=h.M) j);omega
 have d:(((o.Addr / 16).toNat:Nat):Int)=o.Addr / 16:=ω
 have A:=(a.pg.own _ c).2 (by grind [d7]);have e:(af h.G.F.R (o.Addr / 16)).e≠0:=by grind [m6,tbl]
 obtain⟨-,-,-,f,p⟩:=bW a.ker e;have q:=(bf.1 (aG.1 a.ker).2.1).2.2.1;have g:cW h.G o.Addr<h.G.F.W.T.length:=by unfold cW;omega
 refine⟨ω,⟨f,ω⟩,?_,a.lens.row _ (ar g)⟩;have B:=b.2.2.1
 grind [ce]
theorem Jw(h:ac)(a:Int)(b:cW h.G a<h.G.F.W.T.length):({h with G:=fo h.G a 0} : ac)=h:=by
 have e:h.G.F.W.T.set (cW h.G a) (nth h.G.F.W.T (cW h.G a))=h.G.F.W.T:=by
  refine List.ext_getElem? λi=>?_
  grind [au]
 unfold fo lK;rw[e]
def EN(h:ac)(a:Int)(k:Nat)(v:Int)(_:0<=a):bE {h with G:=fo h.G a (k+1)} = (bE {h with G:=fo h.G a k}).set 0 (.s .own (((fo h.G a k).F.W.T.map (aH .own)).set (af h.G.F.R (a / 16)).j.toNat ((aH .own (lK (nth h.G.F.W.T (cW h.G a)) (a % 16).toNat k)).set 0 (.s .own (((lK (nth h.G.F.W.T (cW h.G a)) (a % 16).toNat k).map (rI .own)).set (a % 16+k).toNat (splice (rI .own v) 0 [I 0])))))):=by
 have e:(a % 16+k).toNat=(a % 16).toNat+k:=ω
 rw[e];simp[bE,fo,Z6,lK,aH,splice,cW]
 rfl
theorem FF(t:Nat)(h:ac)(xs:List aR)(k:Nat)(a:k<xs.length):recycs t h ((xs.take (k+1)).map (·.Addr))=recyc t (recycs t h ((xs.take k).map (·.Addr))) (nth xs k).Addr:=by grind [I6,au,recycs]
theorem Hs(h:ac)(o:bo)(t:Nat)(a:bc h [])(N:o∈h.O)(ht:o.a4=t)(hlc:h.S.length<=4):zzB 416 false [.ptr (bE h),.val none [I (t:Nat)],.val none [I o.Addr]] [.ptr (bE (freeOb h t (qZ h o.Addr)).1),.val none [I (t:Nat)],.val none [I o.Addr]] .one [I (freeOb h t (qZ h o.Addr)).2]:=by
 obtain⟨g,w,B⟩:=a.objAt N;have b:=pH a N;have hon:=a.onu o N;have C:=a.lens;have hno:=C.objs;have O:t<h.S.length:=ω
 have L:=aJ (t:Nat) 0 (h.S.length - 1:Int);rw[O0 ω]at L;have E:=rY h o.Addr ω;rw[B]at E;generalize qZ h o.Addr=i at g w E;subst w;have p:=au g;have P:=kM (nth h.O i).q;unfold freeOb;have Q:=b8 a.ker;have X:=dl h.G.F.R ((nth h.O i).Addr / 16) Q.1.2;by_cases r:aK (nth h.O i).q<0
 ·rw[CD r]
  have c3:=qX h i a g r;refine fM 148 [(511,[2,0]),(513,[2,0]),(515,[2,0,0]),(510,[2,0])] [(15,269,[68,69,70,71,72,73,74,75,77,67,78,79,11,0,1,2,3,4,5,6,7,13,8,1000,1001,1002,1003,1004,1013,9,10,11,12,14,1012,15]),(22,15,[92,93,94,95,96,97,98,99,100,101,102,103,104,105,106]),(25,271,[116,117,118,119,120,121,122,123,124,125,127,115,128,129,14,0,1,2,3,4,5,6,7,8,9,15,10,1000,1001,1002,1003,1015,11,12,13,14,16,1014,17])] [(0,0),(0,0),(0,0)] Tryz.func416 rfl (λu q=>?_)
  repeat'(first|refine gE ?_|(conv=>whnf);first|with_reducible refine Bf.D (λj=>?_) (λj=>?_)|refine CC ?_|refine C9 (L) ?_|refine CK (E) ⟨⟨rfl,bK h⟩,⟨rfl,rfl⟩,trivial⟩ ?_|refine CE (aa p) ?_|refine CG rfl (aa p) rfl ?_|refine C9 (P) ?_|refine CL (c3) (.inl rfl) ?_)
  refine CH rfl rfl ?_;exact wB
 rw[CB r];obtain⟨R,s2,s3,s4⟩:=Ul.of a (ar g) r;by_cases M:(af (tbl h) ((nth h.O i).Addr / 16)).e=1
 ·rw[CD M]
  unfold tbl at M;refine fM 148 [(511,[2,0]),(513,[2,0]),(515,[2,0,0]),(510,[2,0])] [(15,269,[68,69,70,71,72,73,74,75,77,67,78,79,11,0,1,2,3,4,5,6,7,13,8,1000,1001,1002,1003,1004,1013,9,10,11,12,14,1012,15]),(22,15,[92,93,94,95,96,97,98,99,100,101,102,103,104,105,106]),(25,271,[116,117,118,119,120,121,122,123,124,125,127,115,128,129,14,0,1,2,3,4,5,6,7,8,9,15,10,1000,1001,1002,1003,1015,11,12,13,14,16,1014,17])] [(0,0),(0,0),(0,0)] Tryz.func416 rfl (λu q=>?_)
  repeat'(first|refine gB ?_|(conv=>whnf);first|with_reducible refine Bf.D (λj=>?_) (λj=>?_)|refine CC ?_|refine CP (by decide) ?_|refine CN (qM b) ?_|refine C9 (L) ?_|refine CK (E) ⟨⟨rfl,bK h⟩,⟨rfl,rfl⟩,trivial⟩ ?_|refine CE (aa p) ?_|refine CG rfl (aa p) rfl ?_|refine C9 (P) ?_|refine CK (X) ⟨⟨rfl,Cb _⟩,⟨rfl,rfl⟩,trivial⟩ ?_)
  refine CH rfl rfl ?_;exact wB
 rw[CB M];unfold tbl at M;have F:cW h.G (nth h.O i).Addr<h.G.F.W.T.length:=by unfold cW;omega
 have hcz:=Pf R;have l:=a.inQuar g r;have G:=ee (aK (nth h.O i).q);refine fM 148 [(511,[2,0]),(513,[2,0]),(515,[2,0,0]),(510,[2,0])] [(15,269,[68,69,70,71,72,73,74,75,77,67,78,79,11,0,1,2,3,4,5,6,7,13,8,1000,1001,1002,1003,1004,1013,9,10,11,12,14,1012,15]),(22,15,[92,93,94,95,96,97,98,99,100,101,102,103,104,105,106]),(25,271,[116,117,118,119,120,121,122,123,124,125,127,115,128,129,14,0,1,2,3,4,5,6,7,8,9,15,10,1000,1001,1002,1003,1015,11,12,13,14,16,1014,17])] [(0,0),(0,0),(0,0)] Tryz.func416 rfl (λu q=>?_)
 repeat'(first|refine gB ?_|(conv=>whnf);first|with_reducible refine Bf.D (λj=>?_) (λj=>?_)|refine CC ?_|refine CP (by decide) ?_|refine CN (qM b) ?_|refine C9 (L) ?_|refine CK (E) ⟨⟨rfl,bK h⟩,⟨rfl,rfl⟩,trivial⟩ ?_|refine CE (aa p) ?_|refine CG rfl (aa p) rfl ?_|refine C9 (P) ?_|refine CK (X) ⟨⟨rfl,Cb _⟩,⟨rfl,rfl⟩,trivial⟩ ?_)
 rw[show bE h=bE {h with G:=fo h.G (nth h.O i).Addr 0} by rw[Jw h _ F]]
 (conv=>whnf)
 refine CJ (ι:=Nat) (λk=>[(0,.H .box (bE {h with G:=fo h.G (nth h.O i).Addr k})),(1,.H .one [I ((t:Nat):Int)]),(2,.H .one [I ((nth h.O i).Addr)]),(7,.H .one [I ((i:Nat):Int)]),(8,.H .box (bo.enc .own (nth h.O i))),(9,.H .one [I (aK (nth h.O i).q)]),(10,.H .box (bm.enc .own (af h.G.F.R ((nth h.O i).Addr / 16)))),(13,.H .one [I ((k:Nat):Int)])]) (λk=>k<=(csz (aK (nth h.O i).q)).toNat) (λk=>(csz (aK (nth h.O i).q)).toNat - k) (0) ?_ (X0 _) λk hk=>?_
 ·exact wB
 have Y:IntKind.i64.wrap 0=0:=rfl;have S:(nth h.O i).Addr.tmod 16=(nth h.O i).Addr % 16:=eE b.1;have n:(fo h.G (nth h.O i).Addr k).F.W.T[(af h.G.F.R ((nth h.O i).Addr / 16)).j.toNat]? = some (lK (nth h.G.F.W.T (cW h.G (nth h.O i).Addr)) ((nth h.O i).Addr % 16).toNat k):=v4 F;by_cases T:k<(csz (aK (nth h.O i).q)).toNat
 ·have H:=au (xs:=lK (nth h.G.F.W.T (cW h.G (nth h.O i).Addr)) ((nth h.O i).Addr % 16).toNat k) (i:=((nth h.O i).Addr % 16+k).toNat) (by grind [mL])
  repeat'(first|refine gE ?_|(conv=>whnf);first|refine CC ?_|refine CP (by decide) ?_|refine CT S ?_|refine C9 (G) ?_|refine CO s2.1 (aa n) ?_|refine CG rfl (aa n) rfl ?_|refine CO ω (aa H) ?_|refine Pu.two rfl rfl (aa n) rfl rfl rfl (aa H) rfl (W3 _) (EN h _ k _ b.1) ?_)
  ((conv=>whnf);refine CF (k+1) ω ω ?_;(exact wB))
 obtain rfl:k=(csz (aK (nth h.O i).q)).toNat:=ω
 have c5:=nz {h with G:=fo h.G (nth h.O i).Addr (csz (aK (nth h.O i).q)).toNat} i g ψ;have d:=a.nums;unfold cn at d;rw[C0]at d;have J:=(a.dropO g (jo.any (c:=aK (nth h.O i).q) (by obtain⟨⟨s,hs,k1,k2⟩,-⟩:=(dS a (ar g)).2 r;exact⟨s,hs,k1,.inr k2⟩))).nd;rw[List.cons_append,List.nil_append]at J;have Z:=Di h.a7 (lr h (nth h.O i)) (by grind [rC.quar]) a.quar ⟨R.1,R.2,b.1,d.2.2.1⟩ (λy hy=>a.snc y hy) (λy hy e=>(List.nodup_cons.1 J).1 (by rw[show(nth h.O i).Addr=y.Addr from e.symm];grind [holders]));unfold Ta at Z;have U:(zO h.a7 (lr h (nth h.O i))).length<=513:=by grind [rC.quar,zO]
 repeat'(first|refine gB ?_|(conv=>whnf);first|with_reducible refine Bf.D (λj=>?_) (λj=>?_)|refine CC ?_|refine C9 (G) ?_|refine CL (c5) (.inl rfl) ?_|refine CK (Z) ⟨⟨rfl,bQ.enc_fz h.a7⟩,⟨rfl,rfl⟩,trivial⟩ ?_|refine CC ?_)
 have V:FU h t i=recycs t (inQuar h i) ((zO h.a7 (lr h (nth h.O i))).map (·.Addr)):=rfl;simp only;rw[V];have hqn:(inQuar h i).S.length=h.S.length:=rfl;generalize zO h.a7 (lr h (nth h.O i))=out at l U
 (conv=>whnf)
 refine CJ (ι:=Nat) (λk=>[(0,.H .box (bE (recycs t (inQuar h i) ((out.take k).map (·.Addr))))),(1,.H .one [I ((t:Nat):Int)]),(15,.H .one (cY .own out)),(16,.H .one [I ((k:Nat):Int)])]) (λk=>k<=out.length) (λk=>out.length - k) (0) ?_ (X0 _) λk hk=>?_
 ·exact wB
 by_cases T:k<out.length
 ·have K:=au T
  have hsp:out.map (·.Addr)=(out.take k).map (·.Addr)++(nth out k).Addr::(out.drop (k+1)).map (·.Addr):=by grind [List.take_append_drop,jl]
  have W:bc (recycs t (inQuar h i) ((out.take k).map (·.Addr))) ((nth out k).Addr::(out.drop (k+1)).map (·.Addr)):=bc.recycs ψ O;have c7:=o7 _ _ t _ W (by grind [fw])
  repeat'(first|refine gE ?_|(conv=>whnf);first|refine CC ?_|refine CE (aa K) ?_|refine CG rfl (aa K) rfl ?_|refine CL (c7) (.inl rfl) ?_)
  ((conv=>whnf);refine CF (k+1) ω ω ?_)
  rw[FF t _ out k T];exact wB
 obtain rfl:k=out.length:=ω
 rw[X5]
 repeat'(first|refine gE ?_|(conv=>whnf);first|refine CC ?_)
 refine CH rfl rfl ?_;exact wB
def oE(rows:List (List C)):C:=match rows with|[]=>.s .V []|_=>.s .own rows
variable{rows:List (List C)}
def Ry(h:rows≠[]):oE rows=.s .own rows:=by cases rows with|nil=>exact absurd rfl h|cons=>rfl
variable{P:Program}
theorem QO(w:World)(t e k:Nat)(z:Value)(g:P.underlying t=some (.slice e))(h:∀w,(zeroValue e).run P w=.ok z w)(i:z.cells.size=k)(h1:∀v∈z.cells.toList,v.oneCell'=true)(b o n:Nat)(p:0<n)(l:0<k)(q:∀j,j<n*k->(w.cell? ⟨b,o+j,none⟩).isSome=true)(r:∀j,j<n*k->w.frozen? ⟨b,o+j,none⟩ = false) :
  ∃zs:List Value,zs.length=n*k/\(∀v∈zs,v.oneCell'=true)/\∀(ty:TypeId)(c:Nat),(Builtin.clear_ #[t] ty #[.slice (some ⟨b,o,none⟩) n c]).run P w=.ok (.tuple #[]) (w.setCells b o zs):=by
 subst i;have d:(Builtin.zeroCells z.cells n).toList.length=n*z.cells.size:=by grind [Go.Builtin.zeroCells]
 have a:∀v∈(Builtin.zeroCells z.cells n).toList,v.oneCell'=true:=by grind [Nat.mod_lt,Go.Builtin.zeroCells]
 refine⟨_,d,a,λty c=>?_⟩;have f:=run_storeCells_cells (P:=P) b o (Builtin.zeroCells z.cells n).toList 0 w ψ ψ a;simp only[Nat.add_zero]at f;obtain⟨m,rfl⟩ : ∃m,n=m+1:=⟨n - 1,ω⟩
 simp[Builtin.clear_,run_underlying g,h,f]
structure kb(w w':World)(g k n i:Nat):Prop where
 keep:bx (λb o=>b=g/\o<n*k) w w'
 lo:∀q,q<i*k->cel w' g q=cel w g q
 mid:∀q,i*k<=q->q<(n - 1)*k->cel w' g q=cel w g (q+k)
 hi:∀q,(n - 1)*k<=q->q<n*k->∃z,cel w' g q=some z/\z.oneCell'=true
 fro:∀b q,fro w' b q=fro w b q
variable{w:World}
theorem bx.up{M a:am}{c:World}(h:bx M w c)(d:∀b o,M b o->a b o):bx a w c:=(Ca a w).trans h ψ
def xQ(w:World):bx NO w w.drew:=⟨rfl,rfl,rfl,W3 _,λ_ _ _=>rfl,λ_ _ _ _=>rfl,λ_ _ _ _=>rfl⟩
variable{news:List Value}{n i:Nat}
theorem LL{g k:Nat}{zs:List Value}(f:i<n)(d:∀q,q<n*k->∃z,cel w g q=some z)(G:news.length=(n - (i+1))*k)(c:∀t u,news[t]? = some u->cel w g ((i+1)*k+t)=some u)(H:zs.length=k)(l:∀v∈zs,v.oneCell'=true) :
  kb w ((w.drew.setCells g (i*k) news).setCells g ((n - 1)*k) zs) g k n i:=by
 have J:i*k+(n - (i+1))*k=(n - 1)*k:=by rw[<-Nat.add_mul];congr 1;omega
 have K:(n - 1)*k+k=n*k:=by rw[show(n - 1)*k+k=(n - 1+1)*k by rw[Nat.add_mul,Nat.one_mul]];congr 1;omega
 have L:(i+1)*k=i*k+k:=ψ
 have p:∀b q,cel w.drew b q=cel w b q:=λ_ _=>rfl
 have a:∀j,j<news.length->∃z,cel w.drew g (i*k+j)=some z:=λj r=>by rw[p];exact d _ ω
 have y:∀q,q<n*k->∃z,cel (w.drew.setCells g (i*k) news) g q=some z:=λq A=>by
  by_cases h:i*k<=q/\q<i*k+news.length
  ·have:=bM a (X2 (show q - i*k<news.length by omega))
   grind
  grind [bp]
 refine⟨?_,λq A=>?_,λq B C=>?_,λq B C=>?_,λb q=>?_⟩
 ·have D:=eg (g:=g) (X:=λb o=>b=g/\o<n*k) news (i*k) w.drew ω
  have E:=eg (g:=g) (X:=λb o=>b=g/\o<n*k) zs ((n - 1)*k) (w.drew.setCells g (i*k) news) ω;exact((xQ w).up λ_ _ h=>h.elim).trans (D.trans E λ_ _ h=>.inr h) λ_ _ h=>.inr h
 ·grind [bp]
 ·rw[bp ω]
  obtain⟨u,e⟩ : ∃u,news[q - i*k]? = some u:=⟨_,X2 ω⟩
  have F:=bM a e;have M:=c _ u e
  grind
 ·obtain⟨u,e⟩ : ∃u,zs[q - (n - 1)*k]? = some u:=(ψ)
  have F:=bM (w:=w.drew.setCells g (i*k) news) (o:=(n - 1)*k) (vs:=zs) (λj r=>y _ ω) e
  grind
 rw[cr,cr];rfl
def RG(rows:List (List C)):Prop:=∀r∈rows,∀c∈r,∃z,c=.v z
def Ny(P:Program)(f k:Nat):Prop:=K5 P f/\∀(w:World)(g n a i:Nat)(news:List Value),i<n->n<=a->news.length=(n - (i+1))*k->(∀t u,news[t]? = some u->cel w g ((i+1)*k+t)=some u)->(∀u∈news,u.oneCell'=true)->
 (∀q,q<n*k->(w.cell? ⟨g,q,none⟩).isSome=true/\w.frozen? ⟨g,q,none⟩ = false)->
 Calls P f #[.slice (some ⟨g,0,none⟩) n a,.int .i64 i,.int .i64 ((i+1:Nat):Int)] w λe c=>e=.returned (.slice (some ⟨g,0,none⟩) (n - 1) a)/\∃b:List Value,b.length=k/\(∀v∈b,v.oneCell'=true)/\c=(w.drew.setCells g (i*k) news).setCells g ((n - 1)*k) b
variable{f:Nat}
theorem RV{k:Nat}(hf:Ny P f k)(hi:i<rows.length)(hk:∀r∈rows,r.length=k)(T:PT rows) :
  aP P f false [.mut none [.s .own rows],.val none [I (i:Nat)],.val none [I ((i+1:Nat):Int)]] [.mut none [.x],.val none [I (i:Nat)],.val none [I ((i+1:Nat):Int)]] .one [oE (dele rows i)]:=by
 refine⟨hf.1,λw S V vs hS hV hVV U=>?_⟩
 match vs,U with
 | [v,v1,v2],⟨U,W,X,_⟩=>
  have l:=(bB.rep1 (show bB w S (V 0) none [C.s .own rows] v from U)).fresh ⟨.inl (λe=>by cases e),T⟩;have e1:v1=.int .i64 (i:Nat):=by
   have:=bB.rep1 (show bB w S NO none [C.v (.int .i64 (i:Nat))] v1 from W);cases this;rfl
  have e2:v2=.int .i64 ((i+1:Nat):Int):=by
   have:=bB.rep1 (show bB w S NO none [C.v (.int .i64 ((i+1:Nat):Int))] v2 from X);cases this;rfl
  subst e1 e2;have H:(dele rows i).length=rows.length - 1:=by grind [dele]
  generalize J:C.s .own rows=cc at l;cases l with
  | nil _ o a ho=>grind
  | own _ o g d n j Y u f' ho hn B p hpos hF hu hff hd hc=>
   cases J;have Z:d=k:=by rw[<-B _ (List.getElem_mem hi),<-hk _ (List.getElem_mem hi)]
   subst Z;have hnk:n*d<=j*d:=C8 _ p;have hone:∀q,q<j*d->∃z,cel w g q=some z/\z.oneCell'=true:=ψ
   have e3:(i+1)*d+(n - (i+1))*d=n*d:=by rw[<-Nat.add_mul];congr 1;omega
   obtain⟨news,K,L,hn1⟩ : ∃news:List Value,news.length=(n - (i+1))*d/\(∀t u,news[t]? = some u->cel w g ((i+1)*d+t)=some u)/\∀u∈news,u.oneCell'=true:=by
    refine⟨(List.range ((n - (i+1))*d)).map λt=>(cel w g ((i+1)*d+t)).getD undef,by simp,λt y ht=>?_,λy hy=>?_⟩
    all_goals grind
   refine(hf.2 w g n j i news ω p K L hn1 (λq D=>?_)).mono λe A ⟨he,zs,z1,z2,hw'⟩=>?_
   ·grind
   have R:=LL (w:=w) (by omega:i<n) ψ K L z1 z2;rw[<-hw']at R;have hgV:∀q,q<j*d->V 0 g q:=ψ
   have E:bx (λb o=>∃i,V i b o) w A:=R.keep.up ψ;have e4:(n - 1)*d+d=n*d:=by rw[show(n - 1)*d+d=(n - 1+1)*d by rw[Nat.add_mul,Nat.one_mul]];congr 1;omega
   have F:∀q,q<j*d->∃z,cel A g q=some z/\z.oneCell'=true:=λq D=>by
    by_cases h1:q<i*d
    ·grind [kb.lo]
    by_cases h2:q<(n - 1)*d
    ·rw[R.mid q ω h2];grind
    grind [kb.hi,bx.cel,kb.keep]
   have M:cR A NO (V 0) [oE (dele rows i)] (λ_=>.slice (some ⟨g,0,none⟩) (n - 1) j):=by
    refine row1 ?_;by_cases hz:dele rows i=[]
    ·rw[hz]
     have hn0:n - 1=0:=ψ
     rw[hn0];exact .V _ g 0 d 0 j [] (λ_=>undef) rfl ψ (X0 _) ω ψ
    rw[Ry hz];have G:0<n - 1:=ψ
    obtain⟨σ,hσ⟩ : ∃σ:Nat->Nat,∀q,σ q=if q<i*d then q else q+d:=⟨_,λ_=>rfl⟩
    have s1:∀q,q<(n - 1)*d->σ q<n*d:=ψ
    have s2:∀q q',q≠q'->σ q≠σ q':=ψ
    have s3:∀q,q<(n - 1)*d->cel A g q=cel w g (σ q):=λq D=>by grind [kb.lo,kb.mid]
    refine .own _ .own g d (n - 1) j _ (λq=>(cel A g q).getD undef) (λq=>f' (σ q)) trivial (by rw[H];omega) (λr hr=>B r ((eY ..).subset hr)) ω G (λq D=>⟨hgV q D,F q D,(R.fro g q).trans (hF q D).2.2⟩) (λq D=>?_) ψ ψ (λa b r c N hb=>?_)
    ·grind
    have hbk:b<d:=by grind [eY]
    have hal:=(Z2.1 N).1;rw[H]at hal;have hflat:a*d+b<(n - 1)*d:=dI ω hbk;obtain⟨O,h5,h6⟩ : ∃O,rows[O]? = some r/\σ (a*d+b)=O*d+b:=by
     rw[hσ];unfold dele at N;by_cases h1:a<i
     ·grind [C2,dI]
     rw[v5 ψ,C2,List.getElem?_drop]at N;rw[show i+1+(a - min i rows.length)=a+1 by omega]at N;have:i*d<=a*d:=C8 _ ω;refine⟨a+1,N,?_⟩;rw[CB ω,Nat.add_mul,Nat.one_mul];omega
    have h7:=hc O b r c h5 hb;have Q:=rT hn B h5 hb;have hfl:=dI Q.1 Q.2;have h8:(cel A g (a*d+b)).getD undef=u (O*d+b):=ψ
    show dM A NO (f' (σ (a*d+b))) c ((cel A g (a*d+b)).getD undef);rw[h8,h6];refine h7.keep (λ_ _ h=>h.elim) λb' o' hb'=>?_
    grind [bx.cel,kb.keep,kb.fro]
   exact⟨_,he,E,V 0,λ_=>NO,NO,ψ,λ_ _ _ h=>h.elim,λ_ _ h=>h.elim,λ_ _ _ _ _ h=>h.elim,λ_ _ _ _ h=>h.elim,λ_ _ _ h=>h.elim,λ_ _ _ h=>h.elim,rfl,M,⟨⟨rfl,λ_=>.slice (some ⟨g,0,none⟩) n j,rfl,row1 (.x _ _ rfl)⟩,trivial,trivial,trivial⟩⟩
  | _=>cases J
set_option maxRecDepth 100000
theorem QN{g cap k:Nat}(d:news.length=(n - (i+1))*k)(a:n<=cap)(b:i<n)(h:∀t u,news[t]? = some u->cel w g ((i+1)*k+t)=some u):∃A:Addr,(if cap=i+1 then some (⟨g,0,none⟩ : Addr) else some ⟨g,(i+1)*k,none⟩)=some A/\∀t u,news[t]? = some u->w.drew.cell? (A.add t)=some u:=by
 by_cases e:cap=i+1
 ·simp_all
 refine⟨⟨g,(i+1)*k,none⟩,by simp[e],λt u c=>?_⟩;rw[Addr.add_lit];exact h t u c
def Mg(h:ac)(p:Int):zzA 187 false [.val (some 24) (ac.enc .V h),.val none [I p]] .one [B (fD h p)]:=by
 cases e:h.u
 all_goals
  have b:ac.enc .V h=(ac.enc .V h).set 18 (B h.u):=rfl;rw[e]at b;rw[b];refine fO 23 [] Tryz.func187 rfl ?_
  repeat'(first|refine gP ?_|(conv=>whnf);first|with_reducible (first|refine Bf.D (λa=>?_) (λa=>?_)|refine Bf.E (λa=>?_) (λa=>?_)|refine Bf.N (λa=>?_) (λa=>?_))|refine CC ?_)
  all_goals exact Z0 (λz=>[B z]) ((by unfold fD;rw[e];first|(simp[*];done)|(simp[*];rw[C5];simp;try omega)|(rw[C5];simp[*];try omega)))
def DB(h:ac):zzA 71 false [.val (some 24) (ac.enc .V h)] .one [I (fk h:Nat)]:=by
 refine fO 9 [] Tryz.func71 rfl ?_
 repeat'(first|refine gP ?_|(conv=>whnf);first|refine CC ?_)
 rfl
theorem dL(c:C):Rk c c:=(nk [c]).1
def TP(rows:List (List C)):fz (oE rows)=fz (.s .own rows):=by cases rows<;>rfl
def Tn(h:PT rows):Q6 (oE rows):=by cases rows with|nil=>exact⟨.inr rfl,trivial⟩|cons r a=>exact⟨.inl λe=>(by cases e),h⟩
def RX{S Y:am}{v:Value}(h:dM w S Y (.s .own rows) v):dM w S Y (oE rows) v:=by
 cases rows with
 | cons=>exact h
 | nil=>
  cases h with
  | nil _ o a d=>exact .nil _ .V a trivial
  | own _ o g k n e rows u f d i j b c l p q r t=>simp at i;omega
theorem o6{c a:C}(h:a=c):Rk c a:=by grind [dL]
def Lu(c:aE)(k:Nat):aE:=⟨c.a.set k []⟩
theorem Rm(c:aE)(k:Nat):aE.enc .own (Lu c k)=[.s .own ((c.a.map (aH .own)).set k (aH .own []))]:=by grind [Z6,aE.enc,Lu]
theorem PN(xs:List Int):([]:List Int).map (rI .V)=(xs.map (rI .V)).drop xs.length:=by simp_all
theorem P3(xs:List Int):xs.map (rI .V)=(xs.map (rI .V)).take xs.length:=by grind [I1]
def Up(c:aE)(k:Nat):List C:=aE.enc .own (Lu c k)++aH .own (nth c.a k)
def Tv(c:aE)(k:Nat):ij (Up c k):=aU (aE.enc_fr _) (bO _)
def wc(c:aE)(k:Nat)(d:b9 c=true)(p:k<=3):zzA 522 false [.val (some 1) (aE.enc .V c),.val none [I (k:Nat)],.val none [I 8]] (.tup [some 1,none]) (Up c k):=by
 obtain⟨q,e⟩:=eI d;have g:aE.sml c:=⟨ω,λl j=>by have:=e l j;show l.length<=1048576;omega⟩
 have h:=yx c k g;rw[d,O0 ω]at h;have n:=iZ c g;have a:=pX (c:=c) (k:=k) ω;have o:=e _ (ar (xs:=c.a) (i:=k) ω);have b:=Tv c k;unfold Up at b |-;rw[Rm]at b |-;refine fO 52 [(5,268,[29,30,31,32,33,34,35,36,37,38,39,41,0,1,2,3,4,5,6,7,8,9,10,11,1000,1001,1002,12,13]),(6,265,[42,43,44,45,46,47,48,49,50,0,1,2,3,4,5,6,7,8,9,1000,10,11])] Tryz.func522 rfl ?_ (.inr b)
 repeat'(first|refine gP ?_|(conv=>whnf);first|with_reducible refine CE (aa a) ?_|refine CC ?_|refine CG rfl (aa a) rfl ?_|refine C9 (h) ?_|refine C9 (n) ?_|refine CT (z:=((nth c.a k).length:Int)) (by simp;omega) ?_|refine Sl.suf (nth c.a k).length rfl (by rw[I1];omega) (aV λ_=>rfl) (PN _) ?_|refine CY (nth c.a k).length rfl (by rw[I1];omega) (aV λ_=>rfl) (P3 _) ?_|refine CC ?_|refine CX (λ_=>rfl) (λ_=>rfl) (by simp) (by decide) ?_|refine CS (λ_=>rfl) (λ_=>rfl) (by simp) (by decide) ?_|refine CX (λ_=>rfl) (λ_=>rfl) ω (by decide) ?_|refine CS (λ_=>rfl) (λ_=>rfl) ω (by decide) ?_|refine CQ rfl rfl (aa a) rfl (O1 rfl) rfl ?_)
 rfl
theorem pq{k:Int} : ∀{l s s2 b:List Int},(∀x∈s2,x∈s)->se k s l=some b->(∀x∈s,x∈b)/\∃c,se k s2 l=some c/\∀x∈c,x∈b
 | [],s,s2,b,h,e=>by grind [se]
 | a::l,s,s2,b,h,e=>by
  simp only[se]at e |-;split at e
  ·rename_i g
   rw[CD (show good k s2 a from⟨g.1,g.2.1,g.2.2.1,λx=>g.2.2.2 (h a x)⟩)];obtain⟨d,f⟩:=pq (l:=l) (s:=s++[a]) (s2:=s2++[a]) ψ e
   grind
  cases e
theorem ux:∀{a:List (List Int)}{k:Nat}{s s2:List Int},(∀x∈s2,x∈s)->(gC k s a).isSome=true->(gC k s2 a).isSome=true
 | [],_,_,_,_,_=>rfl
 | l::a,k,s,s2,h,e=>by
  simp only[gC,f7]at e |-;split at e
  ·rename_i g
   rw[CD g];cases b:se k s l with
   | none=>grind
   | some i=>
    rw[b]at e;obtain⟨-,c,d,f⟩:=pq h b;rw[d];exact ux f e
  cases e
theorem Fx:∀{a:List (List Int)}{k:Nat}{s s2:List Int}(i:Nat),(∀x∈s2,x∈s)->(gC k s a).isSome=true->(gC k s2 (a.set i [])).isSome=true
 | [],_,_,_,_,_,_=>rfl
 | l::a,k,s,s2,i,h,e=>by
  simp only[gC,f7]at e;split at e
  ·rename_i g
   cases b:se k s l with
   | none=>grind
   | some j=>
    rw[b]at e;obtain⟨n,c,d,f⟩:=pq h b;cases i with
    | zero=>
     simp only[List.set_cons_zero,gC,f7];rw[CD ⟨by simp,g.2⟩];exact ux ψ e
    | succ i=>
     simp only[List.set_cons_succ,gC,f7];rw[CD g,d];exact Fx i f e
  cases e
theorem RF{c:aE}(h:b9 c=true)(k:Nat):b9 (Lu c k)=true:=by grind [Fx,b9,Lu]
def spilt(h:ac)(t k:Nat):ac:={h with S:=h.S.set t (Lu (nth h.S t) k)}
theorem bc.spilt{h:ac}{E:List Int}{t k:Nat}(d:bc h E)(i:t<h.S.length)(n:k<(nth h.S t).a.length):bc (spilt h t k) (nth (nth h.S t).a k++E):=by
 have p:(E++holders h).Perm (nth (nth h.S t).a k++E++holders (Ab.spilt h t k)):=by
  refine List.perm_iff_count.2 λb=>?_
  have r:=iT (λc:aE=>c.a.flatten) b h.S t (Lu (nth h.S t) k) i;have q:=iT (λx:List Int=>x) b (nth h.S t).a k [] n;rw[<-lF,<-lF]at q;simp only[List.count_nil]at q;simp only[Lu]at r;simp only[holders,cH,Ab.spilt,Lu,Y6];omega
 have g:∀c∈(Ab.spilt h t k).S,c∈h.S\/c=Lu (nth h.S t) k:=λc u=>O7 u
 exact {d with
   nc:=by show(h.S.set ..).length=_;rw[Z1];exact d.nc
   cach:=λc f=>by grind [bc.cach,RF,ar]
   onu:=by show ∀o∈h.O,1<=o.Id/\o.Id<=h.b - 1/\0<=o.a4/\o.a4<=(h.S.set t _).length - 1;rw[Z1];exact d.onu
   hca:=λc f j l b a=>by
     rcases g c f with f|rfl
     · exact d.hca c f j l b a
     simp only[Lu,Z1]at l;simp only[Lu,bH]at a;by_cases e:k=j
     · grind
     rw[CB λx=>e x.1]at a;exact d.hca _ (ar i) _ l b a
   hin:=λb a=>by
     rcases V3.1 a with a|a
     · exact(d.hca _ (ar i) k n b a).any
     exact d.hin b a
   nd:=p.nodup_iff.1 d.nd
   mem:=λb=>by rw[<-p.mem_iff];exact d.mem b}
def freeAs(h:ac)(az:List Int):ac:=az.foldl freeA h
theorem fS:∀(az:List Int)(h:ac),(freeAs h az).S=h.S/\(freeAs h az).O=h.O/\(freeAs h az).G.Calls=h.G.Calls/\(freeAs h az).w=h.w/\(freeAs h az).Y=h.Y/\(freeAs h az).b1=h.b1/\(freeAs h az).a7=h.a7/\(freeAs h az).G.a0=h.G.a0
 | [],h=>⟨rfl,rfl,rfl,rfl,rfl,rfl,rfl,rfl⟩
 | a::az,h=>by
  obtain⟨b,c,d,e,f,g,i,j⟩:=fS az (freeA h a);obtain⟨k,l,n,o,p,q,r,t⟩:=xX h (wn h a) a;exact⟨b.trans k,c.trans l,d.trans n,e.trans o,f.trans p,g.trans q,i.trans r,j.trans t⟩
theorem bc.freeAs{E:List Int} : ∀{az:List Int}{h:ac},bc h (az++E)->bc (freeAs h az) E
 | [],_,b=>b
 | a::az,h,b=>bc.freeAs (az:=az) (h:=Ab.freeA h a) b.freeA
theorem vi(h:ac)(az:List Int)(k:Nat)(a:k<az.length):freeAs h (az.take (k+1))=freeA (freeAs h (az.take k)) (nth az k):=by grind [I6,au,freeAs]
def flushN(t:Nat)(h:ac):Nat->ac × Nat
 | 0=>(h,0)
 | k+1=>(freeAs (spilt (flushN t h k).1 t k) (nth (nth (flushN t h k).1.S t).a k),(flushN t h k).2+(nth (nth (flushN t h k).1.S t).a k).length)
theorem ju{t:Nat}{h:ac}(b:bc h [])(c:t<h.S.length):∀{k:Nat},k<=4->bc (flushN t h k).1 []/\(flushN t h k).1.S.length=h.S.length/\(flushN t h k).1.G.Calls=h.G.Calls/\(flushN t h k).1.O=h.O/\(flushN t h k).1.w=h.w/\(flushN t h k).1.Y=h.Y/\(flushN t h k).2<=8*k
 | 0,_=>⟨b,rfl,rfl,rfl,rfl,rfl,X0 _⟩
 | k+1,e=>by
  obtain⟨d,f,g,i,j,l,n⟩:=ju b c (k:=k) ω;have a:t<(flushN t h k).1.S.length:=ω
  obtain⟨o,p⟩:=eI (d.cach _ (ar a))
  grind [bc.spilt,ar,fS,bc.freeAs,spilt,flushN]
variable{t:Nat}
theorem GO{k:Nat}(a:bc h [])(b:t<h.S.length)(c:k<4):t<(flushN t h k).1.S.length/\b9 (nth (flushN t h k).1.S t)=true/\k<(nth (flushN t h k).1.S t).a.length/\(nth (nth (flushN t h k).1.S t).a k).length<=8/\(flushN t h k).2<=8*k:=by grind [ju,bc.cach,ar,eI]
variable{j:Nat}
theorem Pc{k:Nat}(a:bc h [])(b:t<h.S.length)(c:k<4)(f:j<(nth (nth (flushN t h k).1.S t).a k).length):bc (freeAs (spilt (flushN t h k).1 t k) ((nth (nth (flushN t h k).1.S t).a k).take j)) (nth (nth (nth (flushN t h k).1.S t).a k) j::(nth (nth (flushN t h k).1.S t).a k).drop (j+1)):=by
 obtain⟨d,e⟩:=GO a b c;have g:=((ju a b (k:=k) ω).1).spilt d e.2.1
 grind [bc.freeAs,jl,List.take_append_drop]
theorem Ao(h:ac)(t:Nat)(i:bc h [])(l:t<h.S.length):zzB 424 false [.ptr (bE h),.val none [I (t:Nat)]] [.ptr (bE (flushN t h 4).1),.val none [I (t:Nat)]] .one [I ((flushN t h 4).2:Nat)]:=by
 refine fM 48 [(426,[2,0])] [(6,6,[26,27,28,29,30,31])] [(0,0),(0,0)] Tryz.func424 rfl (λu q=>?_)
 repeat'(first|refine gP ?_|fail)
 (conv=>whnf)
 refine CJ (ι:=Nat) (λk=>[(0,.H .box (bE (flushN t h k).1)),(1,.H .one [I ((t:Nat):Int)]),(5,.H .one [I (((flushN t h k).2:Nat):Int)]),(6,.H .one [I ((k:Nat):Int)])]) (λk=>k<=4) (λk=>4 - k) (0) ?_ (X0 _) λk D=>?_
 ·repeat'(first|exact trivial|rfl |exact o6 a|exact dL _|refine CM ?_ ?_|(exact B9 (by first|omega|(simp only;omega)|(simp;omega))))
 by_cases n:k<4
 ·obtain⟨o,p,E,F,G⟩:=GO i l n
  have r:=wc (nth (flushN t h k).1.S t) k p ω;have c:=λj=>Pc i l n (j:=j)
  have e:=au o;have w:(flushN t h (k+1)).1=freeAs (spilt (flushN t h k).1 t k) (nth (nth (flushN t h k).1.S t).a k):=rfl;have y:(flushN t h (k+1)).2=(flushN t h k).2+(nth (nth (flushN t h k).1.S t).a k).length:=rfl;have a:C.s dR.own ((spilt (flushN t h k).1 t k).S.map (aE.enc .own))=C.s dR.own (((flushN t h k).1.S.map (aE.enc .own)).set t (aE.enc .own (Lu (nth (flushN t h k).1.S t) k))):=by grind [Z6,spilt]
  repeat'(first|refine gE ?_|(conv=>whnf);first|refine CE (aa e) ?_|refine CG rfl (aa e) rfl ?_|refine CK (r) ⟨⟨rfl,Ce _⟩,⟨rfl,rfl⟩,⟨rfl,rfl⟩,trivial⟩ ?_|refine CC ?_|refine CQ rfl rfl (aa e) rfl (O1 rfl) rfl ?_)
  generalize (flushN t h k).1=d at *;generalize (flushN t h k).2=m at *
  (conv=>whnf)
  refine CJ (ι:=Nat) (λj=>[(0,.H .box (bE (freeAs (spilt d t k) ((nth (nth d.S t).a k).take j)))),(1,.H .one [I ((t:Nat):Int)]),(5,.H .one [I (((m+j):Nat):Int)]),(6,.H .one [I ((k:Nat):Int)]),(8,.H .one (aH .own (nth (nth d.S t).a k))),(9,.H .one [I ((j:Nat):Int)])]) (λj=>j<=(nth (nth d.S t).a k).length) (λj=>(nth (nth d.S t).a k).length - j) (0) ?_ (X0 _) λj H=>?_
  ·repeat'(first|exact trivial|rfl |exact o6 a|exact dL _|refine CM ?_ ?_|(exact B9 (by first|omega|(simp only;omega)|(simp;omega))))
  by_cases g:j<(nth (nth d.S t).a k).length
  ·have b:=au g
   have B:=om _ _ _ (c j g)
   repeat'(first|refine gE ?_|(conv=>whnf);first|refine CE (aa b) ?_|refine CG rfl (aa b) rfl ?_|refine CL (B) (.inl rfl) ?_)
   ((conv=>whnf);refine CF (j+1) ω ω ?_)
   rw[vi _ _ _ g];exact wC
  obtain rfl:j=(nth (nth d.S t).a k).length:=ω
  rw[X5]
  repeat'(first|refine gE ?_|fail)
  ((conv=>whnf);refine CF (k+1) ω ω ?_)
  rw[w,y];exact wC
 obtain rfl:k=4:=ω
 repeat'(first|refine gE ?_|fail)
 refine CH rfl rfl ?_;exact wC
def zB(s:Int):Int:=(1103515245*s+12345) % 1073741824
def D7(s:Int):0<=zB s/\zB s<=1073741823:=by unfold zB;omega
def zH(s:Int)(b:0<=s/\s<=1073741823):zzA 548 false [.val none [I s]] .one [I (zB s)]:=by
 have a:=aJ s 0 1073741823;rw[O0 b]at a;refine fO 10 [] Tryz.func548 rfl ?_
 repeat'(first|refine gP ?_|(conv=>whnf);first|refine CC ?_|refine CT (z:=zB s) (eE ω) ?_|refine C9 (a) ?_|refine CP (by decide) ?_)
 rfl
def FV(s:Int)(b:0<=s/\s<=1073741823):zzA 83 false [.val none [I s]] .one [B true]:=by
 have a:=aN s 0 1073741823;rw[O0 b]at a;refine fO 5 [] Tryz.func83 rfl ?_
 repeat'(first|refine gP ?_|(conv=>whnf);first|refine CC ?_|refine C9 (a) ?_)
 rfl
def zn(s:Int)(a:0<=s/\s<=1073741823):zzA 456 false [.val none [I s]] .one [I (zB s)]:=by
 refine fO 10 [] Tryz.func456 rfl ?_
 repeat'(first|refine gP ?_|(conv=>whnf);first|refine CC ?_|refine CT (z:=zB s) (eE ω) ?_|refine C9 (FV s a) ?_|refine CP (by decide) ?_)
 rfl
def Ki(s n:Int):Int:=zB s / 1024 % n
def rV(s:Int){n:Int}(h:1<=n):0<=Ki s n/\Ki s n<n:=⟨Int.emod_nonneg _ ω,Int.emod_lt_of_pos _ ω⟩
theorem vI(s n:Int)(b:0<=s/\s<=1073741823)(c:1<=n/\n<=1000):zzA 480 false [.val none [I s],.val none [I n]] (.tup [none,none]) [I (Ki s n),I (zB s)]:=by
 have d:=aJ s 0 1073741823;have e:=aJ n 1 1000;rw[O0 b]at d;rw[O0 c]at e;have h:=D7 s;have i:=rV s c.1;have a:(zB s).tdiv 1024=zB s / 1024:=ψ
 have g:((zB s).tdiv 1024).tmod n=Ki s n:=by rw[a];exact eE ω
 refine fO 23 [] Tryz.func480 rfl ?_ (.inr ⟨trivial,trivial,trivial⟩)
 repeat'(first|refine gP ?_|(conv=>whnf);first|refine CC ?_|refine C9 (d) ?_|refine C9 (e) ?_|refine C9 (zH s b) ?_|refine CP (by decide) ?_|refine CP ω ?_|refine CT g ?_|refine CN (fC (by rw[a];omega) (by rw[a];omega)) ?_)
 rfl
theorem Fr(s n:Int)(b:0<=s/\s<=1073741823)(c:1<=n/\n<=1000):zzA 337 false [.val none [I s],.val none [I n]] (.tup [none,none]) [I (Ki s n),I (zB s)]:=by
 have d:=aN n 1 1000;rw[O0 c]at d;have g:=D7 s;have h:=rV s c.1;have a:(zB s).tdiv 1024=zB s / 1024:=ψ
 have e:((zB s).tdiv 1024).tmod n=Ki s n:=by rw[a];exact eE ω
 refine fO 23 [] Tryz.func337 rfl ?_ (.inr ⟨trivial,trivial,trivial⟩)
 repeat'(first|refine gP ?_|(conv=>whnf);first|refine CC ?_|refine C9 (FV s b) ?_|refine C9 (d) ?_|refine C9 (zn s b) ?_|refine CP (by decide) ?_|refine CP ω ?_|refine CT e ?_|refine CN (fC (by rw[a];omega) (by rw[a];omega)) ?_)
 rfl
def sY(n:Nat):List Int:=(List.range n).map λ(i:Nat)=>(i:Int)
theorem H3(n:Nat):sY (n+1)=sY n++[(n:Int)]:=by grind [List.range_succ,sY]
def A8(n:Nat):(sY n).length=n:=by simp[sY]
def yH(xs:List Int)(i k:Nat):List Int:=(xs.set i (nth xs k)).set k (nth xs i)
def LV(xs:List Int)(i k:Nat):(yH xs i k).length=xs.length:=by simp[yH]
def ib(n:Nat)(s:Int):Nat->List Int × Int
 | 0=>(sY n,s)
 | j+1=>(yH (ib n s j).1 (n - 1 - j) (Ki (ib n s j).2 ((n - 1 - j:Nat)+1:Int)).toNat,zB (ib n s j).2)
def mO(n:Nat){s:Int}(a:0<=s/\s<=1073741823):∀j,(ib n s j).1.length=n/\0<=(ib n s j).2/\(ib n s j).2<=1073741823
 | 0=>⟨A8 n,a⟩
 | j+1=>⟨by simp only[ib,LV];exact(mO n a j).1,D7 _⟩
def shuf(n:Nat)(s:Int):List Int × Int:=ib n s (n - 1)
theorem NN(xs:List Int)(i k:Nat):(yH xs i k).map (rI .own)=((xs.map (rI .own)).set i (rI .own (nth xs k))).set k (rI .own (nth xs i)):=by grind [Z6,yH]
theorem Mn{xs:List Int}{k:Nat}(v:Int)(a:k<xs.length):((xs.map (rI .own)).set i (rI .own v))[k]? = some (rI .own (nth (xs.set i v) k)):=by
 rw[<-Z6];grind [au]
def zV(n:Nat)(s:Int)(d:0<=s/\s<=1073741823)(w:n<=64):zzA 526 false [.val none [I s],.val none [I (n:Nat)]] (.tup [none,none]) (aH .own (shuf n s).1++[I (shuf n s).2]):=by
 have e:=aJ s 0 1073741823;have g:=aJ (n:Nat) 0 64;rw[O0 d]at e;rw[O0 ω]at g;refine fO 63 [] Tryz.func526 rfl ?_ (.inr (aU (bO _) ⟨trivial,trivial⟩))
 repeat'(first|refine gP ?_|(conv=>whnf);first|refine CC ?_|refine C9 (e) ?_|refine C9 (g) ?_)
 (conv=>whnf)
 refine CJ (ι:=Nat) (λk=>[(0,.H .one [I (s)]),(1,.H .one [I ((n:Nat):Int)]),(6,.H .one (aH .own (sY k))),(7,.H .one [I ((k:Nat):Int)])]) (λk=>k<=n) (λk=>n - k) (0) ?_ (X0 _) λk y=>?_
 ·exact wB
 have h:=A8 k;by_cases B:k<n
 ·repeat'(first|refine gE ?_|(conv=>whnf);first|refine CC ?_|refine Ap.sm (aV λ_=>rfl) rfl (by simp;omega) (by decide) (iW (rI .own) (sY k) (k:Int)) ?_)
  ((conv=>whnf);refine CF (k+1) ω ω ?_)
  rw[H3];exact wB
 obtain rfl:k=n:=ω
 repeat'(first|refine gE ?_|(conv=>whnf);first|refine CC ?_)
 (conv=>whnf)
 refine CJ (ι:=Nat) (λj=>[(0,.H .one [I ((ib k s j).2)]),(6,.H .one (aH .own (ib k s j).1)),(8,.H .one [I (((k:Int) - 1 - j))])]) (λj=>(j<=k - 1/\j<=k)) (λj=>k - j) (0) ?_ ω λj C=>?_
 ·exact wB
 obtain⟨D,l,o⟩:=mO k d j;by_cases E:j<k - 1
 ·have q:(k:Int) - 1 - j=((k - 1 - j:Nat):Int):=ω
  have r:=rV (ib k s j).2 (n:=((k - 1 - j:Nat)+1:Int)) ω;have t:=vI (ib k s j).2 ((k - 1 - j:Nat)+1:Int) ⟨l,o⟩ ω;have u:ib k s (j+1)=(yH (ib k s j).1 (k - 1 - j) (Ki (ib k s j).2 ((k - 1 - j:Nat)+1:Int)).toNat,zB (ib k s j).2):=rfl;rw[q];generalize ib k s j=p at *;obtain⟨xs,z⟩:=p;simp only at *;generalize k - 1 - j=i at *;have a:=au (xs:=xs) (i:=i) ω;have b:=au (xs:=xs) (i:=(Ki z (i+1)).toNat) ω;have c:=Mn (xs:=xs) (i:=i) (k:=(Ki z (i+1)).toNat) (nth xs (Ki z (i+1)).toNat) ω
  repeat'(first|refine gE ?_|(conv=>whnf);first|refine CC ?_|refine C9 (t) ?_|refine CO ω (aa b) ?_|refine CE (aa a) ?_|refine CG rfl (aa a) rfl ?_|refine CG rfl (aa b) rfl ?_|refine CQ rfl rfl (aa a) rfl (O1 rfl) rfl ?_|refine CO ω c ?_|refine CQ rfl rfl c rfl (O1 rfl) rfl ?_)
  ((conv=>whnf);refine CF (j+1) ω ω ?_)
  rw[u];simp only[aH,NN];exact wB
 obtain rfl:j=k - 1:=ω
 repeat'(first|refine gE ?_|(conv=>whnf);first|refine CC ?_)
 rfl
def Ez(b:Int):Nat->Nat
 | 0=>0
 | n+1=>Ez b n+(if aZ b (n:Nat)=true then 1 else 0)
theorem BW(b:Int):∀n,Ez b n<=n
 | 0=>W3 _
 | n+1=>by have:=BW b n;grind [Ez]
def wl(b:Int)(d:b<=9223372036854775807):zzA 525 false [.val none [I b]] .one [I (Ez b 16:Nat)]:=by
 refine fO 15 [] Tryz.func525 rfl ?_
 repeat'(first|refine gP ?_|fail)
 (conv=>whnf)
 refine CJ (ι:=Nat) (λk=>[(0,.H .one [I (b)]),(3,.H .one [I ((Ez b k:Nat):Int)]),(4,.H .one [I ((k:Nat):Int)])]) (λk=>k<=16) (λk=>16 - k) (0) ?_ (X0 _) λk g=>?_
 ·exact wB
 have h:=BW b k;by_cases i:k<16
 ·have a:=iM b (k:Nat) d
  have c:Ez b (k+1)=Ez b k+(if aZ b (k:Nat)=true then 1 else 0):=rfl;cases e:aZ b (k:Nat)<;>rw[e]at a c
  all_goals
   repeat'(first|refine gE ?_|(conv=>whnf);first|refine C9 (a) ?_)
   ((conv=>whnf);refine CF (k+1) ω ω ?_)
   rw[c];exact wB
 obtain rfl:k=16:=ω
 repeat'(first|refine gE ?_|fail)
 rfl
def AC(h:ac)(s:aA):Bool:=decide (0<Ez s.a9 16)&&decide ((aT h s.Q).length=1)
def mj(h:ac):Nat->List aA
 | 0=>[]
 | n+1=>if AC h (nth h.J n)=true then mj h n++[nth h.J n] else mj h n
def nU(h:ac):List aA:=mj h h.J.length
theorem wX(h:ac):∀n,(mj h n).length<=n
 | 0=>W3 _
 | n+1=>by have:=wX h n;grind [mj]
theorem mX(h:ac):∀{n:Nat},n<=h.J.length->∀s∈mj h n,s∈h.J
 | 0,_,s,a=>by cases a
 | n+1,b,s,a=>by
  simp only[mj]at a;split at a
  ·rcases V3.1 a with a|a
   ·exact mX h ω s a
   grind [ar]
  exact mX h ω s a
theorem xH(h:ac)(g:yw h)(o:h.J.length<=1000)(p:fk h<=1000)(i:∀s∈h.J,s.a9<=9223372036854775807):zzA 427 false [.val (some 24) (ac.enc .V h)] .one (cE .own (nU h)):=by
 refine fO 42 [(5,16,[13,14,15,16,17,18,19,20,21,22,23,24,25,26,27,28])] Tryz.func427 rfl ?_ (.inr (HJ _))
 repeat'(first|refine gP ?_|fail)
 (conv=>whnf)
 refine CJ (ι:=Nat) (λk=>[(1,.H .box (ac.enc .V h)),(3,.H .one (cE .own (mj h k))),(4,.H .one [I ((k:Nat):Int)])]) (λk=>k<=h.J.length) (λk=>h.J.length - k) (0) ?_ (X0 _) λk q=>?_
 ·exact wB
 have j:=wX h k;by_cases e:k<h.J.length
 ·have c:=au e
  have d:=wl (nth h.J k).a9 (i _ (ar e));have b:=iw h (nth h.J k).Q g;have l:=gk h (nth h.J k).Q;have n:=BW (nth h.J k).a9 16;have a:mj h (k+1)=if AC h (nth h.J k)=true then mj h k++[nth h.J k] else mj h k:=rfl
  by_cases r:0<Ez (nth h.J k).a9 16
  ·by_cases t:(aT h (nth h.J k).Q).length=1
   ·rw[CD (by grind [AC])]at a
    repeat'(first|refine gB ?_|(conv=>whnf);first|refine CE (aa c) ?_|refine C9 (d) ?_|refine CK (b) ⟨⟨rfl,rfl⟩,⟨rfl,rfl⟩,trivial⟩ ?_|refine C9 (b) ?_|refine CC ?_|refine Ap.sm (aV λ_=>rfl) rfl (by simp;omega) (by decide) (iW (aA.enc .own) (mj h k) (nth h.J k)) ?_)
    ((conv=>whnf);refine CF (k+1) ω ω ?_)
    rw[a];exact wB
   rw[CB (by grind [AC])]at a
   repeat'(first|refine gB ?_|(conv=>whnf);first|refine CE (aa c) ?_|refine C9 (d) ?_|refine C9 (b) ?_|refine CC ?_)
   ((conv=>whnf);refine CF (k+1) ω ω ?_)
   rw[a];exact wB
  rw[CB (by grind [AC])]at a
  repeat'(first|refine gE ?_|(conv=>whnf);first|refine CE (aa c) ?_|refine C9 (d) ?_|refine C9 (b) ?_|refine CC ?_)
  ((conv=>whnf);refine CF (k+1) ω ω ?_)
  rw[a];exact wB
 obtain rfl:k=h.J.length:=ω
 repeat'(first|refine gE ?_|fail)
 rfl
def tX(s:aA)(c:Nat):Bool:=aZ s.a9 (((c:Nat):Int) / csz s.d)
def uN(s:aA)(n:Nat):List Int:=((List.range n).filter (tX s)).map λ(i:Nat)=>(i:Int)
variable{s:aA}
def Rn(h:tX s n=true):uN s (n+1)=uN s n++[(n:Int)]:=by
 unfold uN;rw[List.range_succ,List.filter_append,V6];simp[h]
def Tt(h:tX s n=false):uN s (n+1)=uN s n:=by
 unfold uN;rw[List.range_succ,List.filter_append,V6];simp[h]
def sG(s:aA)(n:Nat):(uN s n).length<=n:=by
 unfold uN;rw[I1];exact I5 (List.length_filter_le _ _) (by simp)
def Qv(a:bi s=true){c:Nat}(d:c<16):0<=((c:Nat):Int) / csz s.d/\((c:Nat):Int) / csz s.d<=15:=by
 have f:=aI a;have b:csz s.d=1\/csz s.d=2\/csz s.d=4\/csz s.d=8:=ce ω;rcases b with e|e|e|e<;>rw[e]<;>omega
def pv(s:aA)(a:bi s=true):zzA 527 false [.val (some 3) (aA.enc .V s)] .one (aH .own (uN s 16)):=by
 have b:=gN s;rw[a]at b;have g:=aI a;have n:=ce g.2.2;refine fO 27 [(5,7,[14,15,16,17,18,19,20])] Tryz.func527 rfl ?_ (.inr (bO _))
 repeat'(first|refine gP ?_|fail)
 (conv=>whnf)
 refine CJ (ι:=Nat) (λi=>[(1,.H .box (aA.enc .V s)),(3,.H .one (aH .own (uN s i))),(4,.H .one [I ((i:Nat):Int)])]) (λi=>i<=16) (λi=>16 - i) (0) ?_ (X0 _) λi o=>?_
 ·exact wB
 have h:=sG s i;by_cases j:i<16
 ·have k:=Qv a j
  have d:IntKind.i64.wrap (((i:Nat):Int).tdiv (csz s.d))=((i:Nat):Int) / csz s.d:=by rw[nj ω];exact fC ω ω
  have c:=iM s.a9 (((i:Nat):Int) / csz s.d) (fV a).2;cases e:tX s i
  ·rw[show aZ s.a9 (((i:Nat):Int) / csz s.d)=false from e]at c
   repeat'(first|refine gE ?_|(conv=>whnf);first|refine C9 (b) ?_|refine C9 (ee _) ?_|refine CP ω ?_|refine CN d ?_|refine C9 (c) ?_)
   ((conv=>whnf);refine CF (i+1) ω ω ?_)
   rw[Tt e];exact wB
  rw[show aZ s.a9 (((i:Nat):Int) / csz s.d)=true from e]at c
  repeat'(first|refine gE ?_|(conv=>whnf);first|refine C9 (b) ?_|refine C9 (ee _) ?_|refine CP ω ?_|refine CN d ?_|refine C9 (c) ?_|refine CV cB (λr l=>by rw[V1.1 l];rfl) (by simp[bj,ed]) (by simp;omega) (by simp only[I1];exact zh (by simp;omega) (by decide)) rfl ?_)
  ((conv=>whnf);refine CF (i+1) ω ω ?_)
  rw[Rn e]
  (repeat'(first|exact trivial|rfl|exact CM rfl (CM (Z0 (C.s dR.own) (by simp[rI])) trivial)|refine CM ?_ ?_))
 obtain rfl:i=16:=ω
 repeat'(first|refine gE ?_|(conv=>whnf);first|refine C9 (b) ?_)
 rfl
structure gv where
 A:Int
 B:Int
deriving DecidableEq,Inhabited
def gv.enc(_:dR)(x:gv):List C:=[I x.A,I x.B]
def jF(o:dR)(x:List gv):List C:=[.s o (x.map (gv.enc o))]
def GV(x:List gv):ij (jF .own x):=⟨⟨.inl λh=>(by cases h),bh _ _ λ_ _=>⟨trivial,trivial,trivial⟩⟩,trivial⟩
def Q3(i:Int)(p:gv):Bool:=decide (p.A=i) || decide (p.B=i)
def dn(a b:aA):cA:=if(uN a 16).length<(uN b 16).length then⟨b.Q,a.Q,uN a 16⟩ else⟨a.Q,b.Q,uN b 16⟩
def zw(a b:aA)(g:meshable a b=true)(h:bi a=true)(i:bi b=true):zzA 429 false [.val (some 3) (aA.enc .V a),.val (some 3) (aA.enc .V b)] (.tup [some 3,none]) (cA.enc .own (dn a b)++[B true]):=by
 have c:=mE a b;rw[g]at c;have d:=pv a h;have e:=pv b i;have j:=sG a 16;have k:=sG b 16;unfold dn;split
 ·refine fO 27 [(3,6,[11,12,13,14,15,16]),(5,6,[20,21,22,23,24,25])] Tryz.func429 rfl ?_ (.inr (aU (cA.enc_fr _) ⟨trivial,trivial⟩))
  repeat'(first|refine gE ?_|(conv=>whnf);first|refine C9 (c) ?_|refine C9 (d) ?_|refine C9 (e) ?_|refine CC ?_)
  rfl
 refine fO 27 [(3,6,[11,12,13,14,15,16]),(5,6,[20,21,22,23,24,25])] Tryz.func429 rfl ?_ (.inr (aU (cA.enc_fr _) ⟨trivial,trivial⟩))
 repeat'(first|refine gE ?_|(conv=>whnf);first|refine C9 (c) ?_|refine C9 (d) ?_|refine C9 (e) ?_|refine CC ?_)
 rfl
def uB(p:cA):cJ:=⟨p,0,0⟩
def G1(p:cA)(c:eR p=true)(a:cA.sml p):zzA 430 false [.val (some 3) (cA.enc .V p)] (.tup [some 5,none]) (cJ.enc .own (uB p)++[B true]):=by
 have b:=vz p a;rw[c]at b;have d:=tJ (uB p) a;refine fO 11 [] Tryz.func430 rfl ?_ (.inr (aU (cJ.enc_fr _) ⟨trivial,trivial⟩))
 repeat'(first|refine gP ?_|(conv=>whnf);first|refine C9 (b) ?_|refine C9 (d) ?_)
 rfl
def uP(n:Nat){s:Int}(c:0<=s/\s<=1073741823):∀{j:Nat},j<=n - 1->∀x∈(ib n s j).1,0<=x/\x<n
 | 0,_,x,a=>by
  simp only[ib,sY,Y4,List.mem_range]at a;obtain⟨i,d,rfl⟩:=a;omega
 | j+1,e,x,a=>by
  have f:=(mO n c j).1;have b:=uP n c (j:=j) ω;have g:=rV (ib n s j).2 (n:=((n - 1 - j:Nat)+1:Int)) ω;simp only[ib,yH]at a;rcases O7 a with a|rfl
  ·rcases O7 a with a|rfl
   ·exact b x a
   exact b _ (ar ω)
  exact b _ (ar ω)
def tkn(out:List gv)(a:Int):Bool:=out.any (Q3 a)
def stp(a:List aA)(p:List Int)(t i:Nat)(out:List gv):List gv:=
 if tkn out (nth p i)=false/\tkn out (nth p (p.length / 2+(i+t) % (p.length - p.length / 2)))=false/\meshable (nth a (nth p i).toNat) (nth a (nth p (p.length / 2+(i+t) % (p.length - p.length / 2))).toNat)=true then out++[⟨nth p i,nth p (p.length / 2+(i+t) % (p.length - p.length / 2))⟩] else out
def vW(a:List aA)(p:List Int)(t:Nat)(out:List gv):Nat->List gv
 | 0=>out
 | i+1=>stp a p t i (vW a p t out i)
def rO(a:List aA)(p:List Int):Nat->List gv
 | 0=>[]
 | t+1=>vW a p t (rO a p t) (p.length / 2)
def QZ(a:List aA)(p:List Int)(t i:Nat)(out:List gv):(stp a p t i out).length<=out.length+1:=by unfold stp;split<;>simp
def yN(a:List aA)(p:List Int)(t:Nat)(out:List gv):∀i,(vW a p t out i).length<=out.length+i
 | 0=>W3 _
 | i+1=>by have b:=yN a p t out i;have c:=QZ a p t i (vW a p t out i);simp only[vW];omega
def Gn(a:List aA)(p:List Int):∀t,(rO a p t).length<=t*(p.length / 2)
 | 0=>X0 _
 | t+1=>by have b:=Gn a p t;have c:=yN a p t (rO a p t) (p.length / 2);simp only[rO];rw[Nat.add_mul];omega
def mi(a:List aA)(s:Int):List gv:=rO a (shuf a.length s).1 3
def oC(n:Nat)(out:List gv):List Bool:=(List.range n).map λ(i:Nat)=>tkn out (i:Nat)
variable{a:Int}{out:List gv}
def KE(h:0<=a/\a<n):(oC n out)[a.toNat]? = some (tkn out a):=by
 unfold oC;rw[X3,W7 ω];show some (tkn out ((a.toNat:Nat):Int))=_;rw[Int.toNat_of_nonneg h.1]
variable{b:Int}
def MC(f:0<=a/\a<n)(g:0<=b/\b<n):oC n (out++[⟨a,b⟩])=((oC n out).set a.toNat true).set b.toNat true:=by
 unfold oC;apply List.ext_getElem?;intro i;by_cases c:i<n
 ·rw[X3,W7 c]
  by_cases d:b.toNat=i
  ·subst d
   rw[v4 (by simp;omega)];simp only[Y5,tkn,List.any_append,List.any_cons,List.any_nil,Q3];rw[Int.toNat_of_nonneg g.1];simp
  rw[List.getElem?_set_ne d];by_cases e:a.toNat=i
  ·subst e
   rw[v4 (by simp;omega)];simp only[Y5,tkn,List.any_append,List.any_cons,List.any_nil,Q3];rw[Int.toNat_of_nonneg f.1];simp
  rw[List.getElem?_set_ne e,X3,W7 c];simp only[Y5,tkn,List.any_append,List.any_cons,List.any_nil,Q3];rw[W0 ω,W0 ω];simp
 rw[z3 (by simp;omega),z3 (by simp;omega)]
def Rt(n:Nat):(oC n []).map (rB .own)=List.replicate n [B false]:=by
 unfold oC;rw[List.map_map];apply List.ext_getElem?;intro i;rw[X3];by_cases a:i<n
 ·rw[W7 a,List.getElem?_replicate];simp[a];rfl
 rw[z3 (by simp;omega),List.getElem?_replicate];simp[a]
def L8{xs:List Bool}{k:Nat}(v:Bool)(a:k<xs.length):((xs.map (rB .own)).set i (rB .own v))[k]? = some (rB .own (nth (xs.set i v) k)):=by
 rw[<-Z6];exact aa (au (by rw[Z1];exact a))
def vR(c:List aA)(s:Int)(u:0<=s/\s<=1073741823)(V:c.length<=16):zzA 428 false [.val none (cE .V c),.val none [I s],.val none [I 3]] (.tup [none,none]) (jF .own (mi c s)++[I (shuf c.length s).2]):=by
 have J:=aJ s 0 1073741823;rw[O0 u]at J;have K:=aJ 3 0 16;rw[O0 ω]at K;have Q:=zV c.length s u ω;have D:=(mO c.length u (c.length - 1)).1;have e:=uP c.length u (W3 _);unfold mi;change (shuf c.length s).1.length=_ at D;change ∀x∈(shuf c.length s).1,_ at e
 have E:ij (jF .own (rO c (shuf c.length s).1 3)++[I (shuf c.length s).2]):=aU (GV _) ⟨trivial,trivial⟩;generalize shuf c.length s=q at *;obtain⟨p,z⟩:=q;simp only at *;have F:((p.length:Nat):Int).tdiv 2=((p.length / 2:Nat):Int):=by rw[Int.tdiv_eq_ediv_of_nonneg ω];omega
 have g:C.s dR.own ((oC c.length []).map (rB .own))=C.s dR.own (List.replicate c.length [B false]):=by rw[Rt]
 have h:∀i:Nat,i<p.length->0<=nth p i/\nth p i<c.length:=λi R=>e _ (ar R)
 refine fO 110 [(15,21,[73,74,75,76,77,78,79,80,81,82,83,84,85,86,87,88,89,90,91,92,93])] Tryz.func428 rfl ?_ (.inr E)
 repeat'(first|refine gE ?_|(conv=>whnf);first|with_reducible refine CN ((Z0 _ F).trans (fC ω ω)) ?_|refine C9 (J) ?_|refine C9 (K) ?_|refine C9 (Q) ?_|refine CP (by decide) ?_|refine Mk.mk c.length rfl rfl ω (zh ω (by decide)) rfl ?_)
 (conv=>whnf)
 refine CJ (ι:=Nat) (λt=>[(0,.H .one (cE .V c)),(2,.H .one [I (3)]),(8,.H .one (jF .own (rO c p t))),(9,.H .one (aH .own p)),(10,.H .one [I (z)]),(11,.H .one [I (((p.length / 2):Nat):Int)]),(12,.H .one (wP .own (oC c.length (rO c p t)))),(13,.H .one [I ((t:Nat):Int)])]) (λt=>t<=3) (λt=>3 - t) (0) ?_ (X0 _) λt S=>?_
 ·repeat'(first|exact trivial|rfl |exact o6 g|refine CM ?_ ?_|(exact B9 (by first|omega|(simp only;omega)|(simp;omega))))
 have W:=Gn c p t;have ol2:t*(p.length / 2)<=3*8:=Nat.mul_le_mul S ω;by_cases X:t<3
 ·repeat'(first|refine gE ?_|fail)
  (conv=>whnf)
  refine CJ (ι:=Nat) (λj=>[(0,.H .one (cE .V c)),(2,.H .one [I (3)]),(8,.H .one (jF .own (vW c p t (rO c p t) j))),(9,.H .one (aH .own p)),(10,.H .one [I (z)]),(11,.H .one [I (((p.length / 2):Nat):Int)]),(12,.H .one (wP .own (oC c.length (vW c p t (rO c p t) j)))),(13,.H .one [I ((t:Nat):Int)]),(14,.H .one [I ((j:Nat):Int)])]) (λj=>j<=p.length / 2) (λj=>p.length / 2 - j) (0) ?_ (X0 _) λj Y=>?_
  ·repeat'(first|exact trivial|rfl |exact o6 g|refine CM ?_ ?_|(exact B9 (by first|omega|(simp only;omega)|(simp;omega))))
  have Z:=yN c p t (rO c p t) j;by_cases lj:j<p.length / 2
  ·have L:(j+t) % (p.length - p.length / 2)<p.length - p.length / 2:=Nat.mod_lt _ ω
   have G:((j:Int)+t).tmod ((p.length:Int) - (p.length / 2:Nat))=(((j+t) % (p.length - p.length / 2):Nat):Int):=by
    rw[eE ω,Int.natCast_emod];congr 1;omega
   have d:vW c p t (rO c p t) (j+1)=stp c p t j (vW c p t (rO c p t) j):=rfl;unfold stp at d;generalize vW c p t (rO c p t) j=out at *;have l:p.length / 2+(j+t) % (p.length - p.length / 2)<p.length:=ω
   generalize hk:(j+t) % (p.length - p.length / 2)=k at *;have n:=au (xs:=p) (i:=j) ω;have o:=au (xs:=p) (i:=p.length / 2+k) l;have w:=h j ω;have r:=h _ l;generalize nth p j=a at *;generalize nth p (p.length / 2+k)=b at *;have y:=KE (out:=out) w;have H:=KE (out:=out) r;have T:=au (xs:=c) (i:=a.toNat) ω;have U:=au (xs:=c) (i:=b.toNat) ω;have M:=mE (nth c a.toNat) (nth c b.toNat);have ub2:=L8 (xs:=oC c.length out) (i:=a.toNat) (k:=b.toNat) true (by simp[oC];omega);cases N:tkn out a<;>cases O:tkn out b<;>cases P:meshable (nth c a.toNat) (nth c b.toNat)
   all_goals
    rw[N]at y;rw[O]at H;rw[P]at M;rw[N,O,P]at d;simp only[and_true,true_and,if_true,Bool.false_eq_true,Bool.true_eq_false,and_false,false_and,if_false]at d
    repeat'(first|refine gE ?_|(conv=>whnf);first|refine CT G ?_|refine CP ω ?_|refine CE (aa n) ?_|refine CO ω (aa o) ?_|refine CO w.1 (aa y) ?_|refine CO r.1 (aa H) ?_|refine CO w.1 (aa T) ?_|refine CO r.1 (aa U) ?_|refine CG rfl (aa n) rfl ?_|refine CG rfl (aa o) rfl ?_|refine CG rfl (aa y) rfl ?_|refine CG rfl (aa H) rfl ?_|refine C9 (M) ?_|refine CC ?_|refine CQ rfl rfl (aa y) rfl (O1 rfl) rfl ?_|refine CO r.1 ub2 ?_|refine CQ rfl rfl ub2 rfl (O1 rfl) rfl ?_|refine Ap.sm (aV λ_=>rfl) rfl (by simp;omega) (by decide) (iW (gv.enc .own) out ⟨a,b⟩) ?_)
    ((conv=>whnf);refine CF (j+1) ω ω ?_)
    rw[d]
    first|(rw[MC w r];simp only[wP,Z6])|skip
    exact wB
  obtain rfl:j=p.length / 2:=ω
  repeat'(first|refine gE ?_|fail)
  ((conv=>whnf);refine CF (t+1) ω ω ?_;(exact wB))
 obtain rfl:t=3:=ω
 repeat'(first|refine gE ?_|fail)
 rfl
def HS(x:List gv):dE (jF .own x)=jF .V x:=by simp[dE,jF,gv.enc,<-bY,W6]
variable{rcs:List C}{sh:Bool}
def ay.fzR{A:List RA}{k:Kd}(h:ay P f sh A k rcs):ay P f sh A k (dE rcs):=by
 obtain⟨c,d⟩:=h;refine⟨c,λw S g i j=>(d w S g i j).mono λe w1 l=>?_⟩;obtain⟨v,n,p,X,q,r,t,B,u,y⟩:=l;refine⟨v,n,p,NO,λb o=>q b o\/X b o,λ_ _ h=>h.elim,λb o a=>?_,λ_ _ h=>h.elim,by rw[bY,I1];exact u,y.freeze⟩;rcases a with a|a
 ·exact t b o a
 exact .inr (r b o a)
structure QI(ls:List aA)(q:gv):Prop where
 a:0<=q.A/\q.A<ls.length
 b:0<=q.B/\q.B<ls.length
 m:meshable (nth ls q.A.toNat) (nth ls q.B.toNat)=true
def Kw{b:List aA}{p:List Int}(c:∀x∈p,0<=x/\x<b.length)(t:Nat){out:List gv}(d:∀q∈out,QI b q):∀{i:Nat},i<=p.length / 2->∀q∈vW b p t out i,QI b q
 | 0,_=>d
 | i+1,h=>λq a=>by
  have e:=Kw c t d (i:=i) ω;simp only[vW,stp]at a;split at a
  ·rename_i g
   rcases V3.1 a with a|a
   ·exact e q a
   obtain rfl:=V1.1 a;have f:(i+t) % (p.length - p.length / 2)<p.length - p.length / 2:=Nat.mod_lt _ ω;exact⟨c _ (ar ω),c _ (ar ω),g.2.2⟩
  exact e q a
def Kn{a:List aA}{p:List Int}(b:∀x∈p,0<=x/\x<a.length):∀t,∀q∈rO a p t,QI a q
 | 0=>λq c=>by cases c
 | t+1=>Kw b t (Kn b t) (W3 _)
def nO(a:List aA){s:Int}(b:0<=s/\s<=1073741823):∀q∈mi a s,QI a q:=Kn (uP a.length b (W3 _)) 3
def Qr(s:aA)(n:Nat):(uN s n).Pairwise (· < ·):=by
 unfold uN;rw[List.pairwise_map];exact(List.pairwise_lt_range.sublist List.filter_sublist).imp λh=>ω
def RL : ∀z∈uN s n,0<=z/\z<n:=λz a=>by
 unfold uN at a;simp only[Y4,Z4,List.mem_range]at a;obtain⟨c,⟨b,-⟩,rfl⟩:=a;omega
def x4(s:aA):df (uN s 16).length (mF (uN s 16))=true:=by
 refine cy.2 λj a=>?_
 have c:=RL _ (ar a);unfold mF;refine O0 ⟨ω,ω,?_⟩;by_cases e:j=0
 ·exact .inl e
 refine .inr ?_;have b:=List.pairwise_iff_getElem.1 (Qr s 16) (j - 1) j ω a ω;rw[show nth (uN s 16) (j - 1)=(uN s 16)[j - 1] from bk (X2 ω),show nth (uN s 16) j=(uN s 16)[j] from bk (X2 a)];exact b
def uF{a b:aA}(c:meshable a b=true):eR (dn a b)=true/\bi a=true/\bi b=true:=by
 unfold meshable at c;simp only[I0,C0]at c;have d:=aI c.1.1;have e:=aI c.1.2;refine⟨?_,c.1⟩;unfold dn eR;split
 ·simp only[I0,C0];exact⟨x4 a,ω⟩
 simp only[I0,C0];exact⟨x4 b,ω⟩
def H8(a b:aA):cA.sml (dn a b):=by
 have c:=sG a 16;have d:=sG b 16;unfold dn cA.sml te;split<;>simp only<;>omega
def bI(h:ac):List aA:=(nU h).take 16
def started(h:ac):ac × Bool:=match mi (bI h) h.b5 with
 | []=>({h with b5:=(shuf (bI h).length h.b5).2},false)
 | q::_=>({h with b5:=(shuf (bI h).length h.b5).2,u:=true,Y:=uB (dn (nth (bI h) q.A.toNat) (nth (bI h) q.B.toNat))},true)
def Nj(a:bc h E):h.J.length<=32/\fk h<=32/\yw h/\∀s∈h.J,s.a9<=9223372036854775807:=by
 have b:=a.lens;refine⟨b.spans,b.ents,?_,λs c=>by have:=dO (a.L.sok s c);omega⟩;have:=(b8 a.ker).1.2;exact this
def Jh(h:ac):(bI h).length<=16:=by unfold bI;rw[C2];omega
def Tf(x:List gv)(z:Int):dE (jF .own x++[I z])=jF .V x++[I z]:=by
 have h:=HS x;rw[bY]at h |-;rw[V6,h];simp[fz]
def R9(h:ac):(bI h).map (aA.enc .V)=((nU h).map (aA.enc .V)).take 16:=W4
def Jr(p:cA)(b:eR p=true)(c:cA.sml p):zzA 430 false [.val (some 3) (cA.enc .V p)] (.tup [some 5,none]) (xm (uB p)++[B true]):=by
 have h:=(G1 p b c).fzR;have e:dE (cJ.enc .own (uB p)++[B true])=xm (uB p)++[B true]:=by
  have a:=cJ.enc_fz (uB p);rw[bY]at a |-;rw[V6,a];simp[fz,cJ.enc,xm]
 rwa [e]at h
def Aa(h:ac)(w:bc h []):zzB 279 false [.ptr (bE h)] [.ptr (bE (started h).1)] .one [B (started h).2]:=by
 obtain⟨w1,Q,H,J⟩:=Nj w;have a:=w.nums;unfold cn at a;rw[C0]at a;have e:=(xH h H ω ω J).fzR;rw[wE]at e;have o:=Jh h;have b:=(vR (bI h) h.b5 ⟨a.1,a.2.1⟩ o).fzR;rw[Tf]at b;have g:=nO (bI h) ⟨a.1,a.2.1⟩;have K:=wX h h.J.length;have y:(nU h).length<=32:=by unfold nU;omega
 have j:=R9 h;unfold started;cases C:mi (bI h) h.b5 with
 | nil=>
  rw[C]at b;by_cases L:16<(nU h).length
  ·refine fM 62 [] [(8,275,[34,35,36,37,38,39,40,41,42,43,44,45,46,47,48,33,49,50,6,0,1,2,3,4,5,6,7,8,9,10,11,12,13,14,15,16,17,18,19,1017,20])] [(0,0)] Tryz.func279 rfl (λu q=>?_)
   repeat'(first|refine gE ?_|(conv=>whnf);first|refine CC ?_|refine CK (e) ⟨⟨rfl,bK h⟩,trivial⟩ ?_|refine C9 (b) ?_|refine CY 16 rfl (by rw[I1];omega) (aV λ_=>rfl) j ?_)
   refine CH rfl rfl ?_;exact wC
  have k:bI h=nU h:=by unfold bI;exact Z7 ω
  rw[k]at b;refine fM 62 [] [(8,275,[34,35,36,37,38,39,40,41,42,43,44,45,46,47,48,33,49,50,6,0,1,2,3,4,5,6,7,8,9,10,11,12,13,14,15,16,17,18,19,1017,20])] [(0,0)] Tryz.func279 rfl (λu q=>?_);rw[k]
  repeat'(first|refine gE ?_|(conv=>whnf);first|refine CC ?_|refine CK (e) ⟨⟨rfl,bK h⟩,trivial⟩ ?_|refine C9 (b) ?_)
  refine CH rfl rfl ?_;exact wC
 | cons q M=>
  rw[C]at b g;obtain⟨E,F,G⟩:=g q (I2 ..);obtain⟨N,O,P⟩:=uF G;have p:=zw _ _ G O P;have t:=Jr _ N (H8 _ _);have c:=au (xs:=bI h) (i:=q.A.toNat) ω;have d:=au (xs:=bI h) (i:=q.B.toNat) ω;have l:(q::M)[0]? = some q:=rfl;by_cases L:16<(nU h).length
  ·refine fM 62 [] [(8,275,[34,35,36,37,38,39,40,41,42,43,44,45,46,47,48,33,49,50,6,0,1,2,3,4,5,6,7,8,9,10,11,12,13,14,15,16,17,18,19,1017,20])] [(0,0)] Tryz.func279 rfl (λu r=>?_)
   repeat'(first|refine gE ?_|(conv=>whnf);first|with_reducible refine Bf.D (λn=>absurd n (by simp)) (λn=>?_)|refine CC ?_|refine CK (e) ⟨⟨rfl,bK h⟩,trivial⟩ ?_|refine C9 (b) ?_|refine CY 16 rfl (by rw[I1];omega) (aV λ_=>rfl) j ?_|refine CO (by decide) (aa l) ?_|refine CO E.1 (aa c) ?_|refine CO F.1 (aa d) ?_|refine C9 (p) ?_|refine CK (t) ⟨⟨rfl,cA.enc_fz _⟩,trivial⟩ ?_|refine CC ?_)
   refine CH rfl rfl ?_;exact wC
  have k:bI h=nU h:=by unfold bI;exact Z7 ω
  rw[k]at b p t c d;refine fM 62 [] [(8,275,[34,35,36,37,38,39,40,41,42,43,44,45,46,47,48,33,49,50,6,0,1,2,3,4,5,6,7,8,9,10,11,12,13,14,15,16,17,18,19,1017,20])] [(0,0)] Tryz.func279 rfl (λu r=>?_);rw[k]
  repeat'(first|refine gE ?_|(conv=>whnf);first|with_reducible refine Bf.D (λn=>absurd n (by simp)) (λn=>?_)|refine CC ?_|refine CK (e) ⟨⟨rfl,bK h⟩,trivial⟩ ?_|refine C9 (b) ?_|refine CO (by decide) (aa l) ?_|refine CO E.1 (aa c) ?_|refine CO F.1 (aa d) ?_|refine C9 (p) ?_|refine CK (t) ⟨⟨rfl,cA.enc_fz _⟩,trivial⟩ ?_|refine CC ?_)
  refine CH rfl rfl ?_;exact wC
def Hw(xs:List Int)(x:Int)(h:xs.length<=4611686018427387904):zzA 435 false [.val none (aH .V xs),.val none [I x]] .one [I (cU (λy=>decide (y=x)) xs)]:=by
 refine fO 19 [] Tryz.func435 rfl ?_
 repeat'(first|refine gP ?_|(conv=>whnf);first|refine CC ?_)
 (conv=>whnf)
 refine CJ (ι:=Nat) (λi=>[(0,.H .one (aH .V xs)),(1,.H .one [I (x)]),(7,.H .one [I (xs.length)]),(8,.H .one [I ((i:Nat):Int)])]) (λi=>i<=xs.length/\∀(j:Nat)(z:Int),j<i->xs[j]? = some z->decide (z=x)=false) (λi=>xs.length - i) (0) ?_ (⟨X0 _,λj z d _=>absurd d (Nat.not_lt_zero _)⟩) λi c=>?_
 ·exact wB
 obtain⟨c,b⟩:=c;by_cases g:i<xs.length
 ·have a:=au g
  by_cases e:nth xs i=x
  ·repeat'(first|refine gE ?_|(conv=>whnf);first|with_reducible refine CE (aa a) ?_|refine CC ?_|refine Bf.t (by simp[e]) ?_)
   exact Z0 (λz=>[I z]) (dD a (O0 e) b).symm
  repeat'(first|refine gE ?_|(conv=>whnf);first|with_reducible refine CE (aa a) ?_|refine CC ?_|refine Bf.f (by simp[Ne.symm e]) ?_)
  ((conv=>whnf);refine CF (i+1) ⟨ω,dY a (W0 e) b⟩ ω ?_;(exact wB))
 repeat'(first|refine gE ?_|(conv=>whnf);first|refine CC ?_)
 exact Z0 (λz=>[I z]) (gh ω b).symm
def qF(xs:List Int)(x:Int)(a:xs.length<=4611686018427387904):zzA 287 false [.val none (aH .V xs),.val none [I x]] .one [B (decide (x∈xs))]:=by
 refine fO 9 [] Tryz.func287 rfl ?_
 repeat'(first|refine gP ?_|(conv=>whnf);first|refine CC ?_|refine C9 (Hw xs x a) ?_)
 exact Z0 (λz=>[B z]) ((by rw[mT];rw[C5];simp))
def cg(k:ah):ah:={k with Calls:=k.Calls+1}
def refd(k:ah):Bool:=decide (k.Calls∈k.a0)
def BF(k:ah)(a:ah.sml k)(d:0<=k.Calls/\k.Calls<=100000):zzA 459 false [.val (some 5) (ah.enc .V k)] (.tup [some 5,none]) (ah.enc .own (cg k)++[B (!refd k)]):=by
 have c:=kw k a;have g:k.a0.length<=1048576:=a.2;have b:=qF k.a0 k.Calls ω;unfold refd;cases e:decide (k.Calls∈k.a0)<;>rw[e]at b
 all_goals
  refine fO 18 [(3,263,[11,12,13,14,15,16,17,0,1,2,3,4,5,6,7,1006,8])] Tryz.func459 rfl ?_ (.inr (aU (Cf _) ⟨trivial,trivial⟩))
  repeat'(first|refine gP ?_|(conv=>whnf);first|refine CC ?_|refine C9 (c) ?_|refine C9 (b) ?_|refine CC ?_)
  rfl
def jr(k:ah)(p:Int)(m:Int):ah:={k with F:=⟨k.F.W,⟨k.F.R.K.set p.toNat {nth k.F.R.K p.toNat with e:=m}⟩⟩}
def jW(k:ah)(p m:Int):ah × Bool:=if refd k=true then(cg k,false) else(jr (cg k) p m,true)
def LF(k:ah)(p m:Int):ah.enc .own (jr k p m)=(ah.enc .own k).set 2 (.s .own ((k.F.R.K.map (bm.enc .own)).set p.toNat (bm.enc .own {nth k.F.R.K p.toNat with e:=m}))):=by
 simp[ah.enc,jr,Z6]
variable{k:ah}
def row16(a:aF k=true)(b:f<k.F.W.T.length):(nth k.F.W.T f).length=16:=by
 have:=(bf.1 (aG.1 a).2.1).2.2.2 f b;unfold gX at this;simp only[I0,C0]at this;omega
def setCell(k:ah)(f:Nat)(c v:Int):ah:={k with F:=⟨⟨k.F.W.T.set f ((nth k.F.W.T f).set c.toNat v),k.F.W.a5⟩,k.F.R⟩}
def Gf(k:ah)(f:Nat)(c v:Int):ah.enc .own (setCell k f c v)=(ah.enc .own k).set 0 (.s .own ((k.F.W.T.map (aH .own)).set f [.s .own (((nth k.F.W.T f).map (rI .own)).set c.toNat [I v])])):=by
 simp[ah.enc,setCell,Z6,aH,rI]
def bP(k:ah)(p:Int):Nat:=(af k.F.R p).j.toNat
def sQ(k:ah)(a b c:Int):ah:=setCell k (bP k b) c (nth (nth k.F.W.T (bP k a)) c.toNat)
def R3(k:ah)(a b c:Int):Nat->ah
 | 0=>k
 | _+1=>sQ k a b c
def vU(k:ah)(p:Nat)(e:bm):ah:={k with F:=⟨k.F.W,⟨k.F.R.K.set p e⟩⟩}
def Pv(k:ah)(p:Nat)(e:bm):ah.enc .own (vU k p e)=(ah.enc .own k).set 2 (.s .own ((k.F.R.K.map (bm.enc .own)).set p (bm.enc .own e))):=by
 simp[ah.enc,vU,Z6]
def MT(p:Nat)(e:bm)(h:aL.sml k.F.R):aL.sml (vU k p e).F.R:=by
 refine⟨?_,λx _=>trivial⟩;show(k.F.R.K.set p e).length<=_;rw[Z1];exact h.1
def vV(k:ah)(p o:Int):ah × Bool:=if refd k=true then(cg k,false) else(ge (vU (cg k) p.toNat ⟨2,(nth k.F.R.K o.toNat).j⟩) (nth k.F.R.K p.toNat).j,true)
def iQ(m:aY)(a v:Int):aY × Int:=
 if(af m.R (a / 16)).e=0 then(m,1) else if(af m.R (a / 16)).e=1 then(m,2) else
 (⟨⟨m.W.T.set (af m.R (a / 16)).j.toNat ((nth m.W.T (af m.R (a / 16)).j.toNat).set (a % 16).toNat v),m.W.a5⟩,m.R⟩,0)
def Hk(m:aY)(f:Nat)(c v:Int):aY.enc .own ⟨⟨m.W.T.set f ((nth m.W.T f).set c.toNat v),m.W.a5⟩,m.R⟩ = (aY.enc .own m).set 0 (.s .own ((m.W.T.map (aH .own)).set f [.s .own (((nth m.W.T f).map (rI .own)).set c.toNat [I v])])):=by
 simp[aY.enc,Z6,aH,rI]
def jmay(k:ah)(j:cJ):Bool:=(aF k&&decide (k.Calls≠100000))&&(jR j&&decide ((af k.F.R j.X.a3).e≠0/\(af k.F.R j.X.a1).e≠0/\(af k.F.R j.X.a3).j≠(af k.F.R j.X.a1).j))
def jstep(k:ah)(j:cJ):ah × cJ:=
 if j.b0=0 then((jW k j.X.a1 1).1,{j with b0:=if(jW k j.X.a1 1).2=true then 1 else 5})
 else if j.b0=1 then(if j.b=j.X.T.length then(k,{j with b0:=2}) else(sQ k j.X.a1 j.X.a3 (nth j.X.T j.b.toNat),{j with b:=j.b+1}))
 else if j.b0=2 then((vV k j.X.a1 j.X.a3).1,{j with b0:=if(vV k j.X.a1 j.X.a3).2=true then 4 else 3})
 else if j.b0=3 then(if 0<j.b then({k with F:=(iQ k.F (j.X.a3*16+nth j.X.T (j.b - 1).toNat) 0).1},{j with b:=j.b - 1}) else((jW k j.X.a1 2).1,{j with b0:=if(jW k j.X.a1 2).2=true then 5 else 3}))
 else(k,j)
def NG{f:Int}(h1:∀j,j<k.a0.length->0<=nth k.a0 j)(d:d3 k.F.W=true)(g:gt k.F.R k.F.W.a5.length=true)(h:∀j:Nat,j<k.F.W.a5.length->(j:Int)≠f->nth k.F.W.a5 j=decide (0<(pagesOn k.F.R (j:Int)).length))(t:0<=f/\f<k.F.W.a5.length)(l:nth k.F.W.a5 f.toNat=true)(i:0<=k.Calls/\k.Calls<=100000/\k.a0.length<=40):aF (ge k f)=true:=by
 obtain⟨n,o,p,q⟩:=bf.1 d;unfold ge;split
 ·rename_i c
  rw[aG];simp only[Z1];refine⟨h1,?_,g,λj b=>?_,i⟩
  ·rw[bf]
   simp only[Z1,bH];refine⟨n,o,p,λj b=>?_⟩;by_cases a:f.toNat=j
   ·rw[CD ⟨a,b⟩,CD ⟨a,ω⟩];decide
   rw[CB (λe=>a e.1),CB (λe=>a e.1)];exact q j b
  rw[bH];by_cases a:f.toNat=j
  ·rw[CD ⟨a,b⟩]
   have:(j:Int)=f:=ω
   rw[this];exact(W0 λr=>absurd c (Nat.ne_of_gt r)).symm
  rw[CB (λe=>a e.1)];exact h j b ω
 rename_i c;rw[aG];refine⟨h1,d,g,λj b=>?_,i⟩;by_cases a:(j:Int)=f
 ·rw[a,show j=f.toNat by omega,l]
  exact(O0 (Nat.pos_of_ne_zero c)).symm
 exact h j b a
def tEq(t a:aL):Prop:=a.K.length=t.K.length/\∀q:Nat,((nth a.K q).e≠0↔(nth t.K q).e≠0)/\(nth a.K q).j=(nth t.K q).j
def tEq.refl(t:aL):tEq t t:=⟨rfl,λ_=>⟨Iff.rfl,rfl⟩⟩
def tEq.of{t a:aL}(h:a=t):tEq t a:=by rw[h];exact tEq.refl t
def tEq.pagesOn{t a:aL}(h:tEq t a)(f:Int):Ab.pagesOn a f=Ab.pagesOn t f:=by
 unfold Ab.pagesOn jP;rw[h.1]
 congr 1
 refine List.filter_congr λq _=>?_
 obtain⟨b,c⟩:=h.2 q;unfold Ps;rw[c];exact decide_eq_decide.2 (and_congr b Iff.rfl)
def Dt(h:aF k=true){a:aL}(c:tEq k.F.R a)(i:∀q,q<a.K.length->0<=(nth a.K q).e/\(nth a.K q).e<=2):aF {k with F:=⟨k.F.W,a⟩} = true:=by
 obtain⟨l,n,o,p,r⟩:=aG.1 h;obtain⟨t,u,w⟩:=br.1 o;rw[aG];refine⟨l,n,br.2 ⟨λj b=>?_,?_,?_⟩,λj b=>?_,r⟩
 ·replace b:j<a.K.length:=b
  have e:=t j (by rw[<-c.1];exact b);have d:=i j b;obtain⟨g,y⟩:=c.2 j;show kH _ (nth a.K j)=true;unfold kH at e |-;rw[C0]at e |-;rw[y];refine⟨d.1,d.2,λf=>e.2.2.1 (Classical.byContradiction λA=>(g.2 A) f),λf=>e.2.2.2 (g.1 f)⟩
 ·show 1<=a.K.length;rw[c.1];exact u
 ·show a.K.length<=32;rw[c.1];exact w
 show nth k.F.W.a5 j=decide (0<(Ab.pagesOn a (j:Int)).length);rw[c.pagesOn];exact p j b
def mN(h:aF k=true)(f:k.Calls≠100000):aF (cg k)=true:=by
 obtain⟨a,b,c,d,g,i,e⟩:=aG.1 h;rw[aG];exact⟨a,b,c,d,by show 0<=k.Calls+1;omega,by show k.Calls+1<=100000;omega,e⟩
variable{p:Int}
def uH{m:Int}(a:(nth k.F.R.K p.toNat).e≠0)(b:m=1\/m=2):tEq k.F.R (jr k p m).F.R:=by
 refine⟨by simp[jr],λq=>?_⟩;simp only[jr,bH];split
 ·rename_i e
  rw[<-e.1];exact⟨⟨λ_=>a,λ_=>by show m≠0;omega⟩,rfl⟩
 exact⟨Iff.rfl,rfl⟩
def NJ(h:aF k=true){m:Int}(d:(nth k.F.R.K p.toNat).e≠0)(a:m=1\/m=2):aF (jr k p m)=true:=by
 refine Dt h (uH d a) λq e=>?_
 obtain⟨i,j,f,l,n⟩:=aG.1 h;obtain⟨g,o,r⟩:=br.1 f;have c:q<k.F.R.K.length:=by rw[<-(uH d a).1];exact e
 have b:=g q c;unfold kH at b;rw[C0]at b;simp only[bH];split
 ·show 0<=m/\m<=2;omega
 exact⟨b.1,b.2.1⟩
def F6{m:Int}(h:aF k=true)(c:k.Calls≠100000)(b:(af k.F.R p).e≠0)(a:m=1\/m=2):aF (jW k p m).1=true/\tEq k.F.R (jW k p m).1.F.R:=by
 obtain⟨e,f,d,-⟩:=bW h b;rw[d]at b;unfold jW;split
 ·exact⟨mN h c,tEq.refl _⟩
 exact⟨NJ (mN h c) b a,uH (k:=cg k) b a⟩
def g9(h:aF k=true)(b:(af k.F.R p).e≠0):bP k p<k.F.W.T.length/\nth k.F.W.a5 (bP k p)=true/\((bP k p:Nat):Int)=(nth k.F.R.K p.toNat).j:=by
 obtain⟨f,g,a,i,j⟩:=bW h b;obtain⟨l,d,n,e,o⟩:=aG.1 h;obtain⟨q,r,t,u⟩:=bf.1 d;have c:((bP k p:Nat):Int)=(af k.F.R p).j:=by unfold bP;omega
 refine⟨ω,?_,by rw[c,a]⟩;rw[e _ ω,c];refine O0 (dZ.2 ⟨p.toNat,ω,?_,?_⟩)
 ·rw[<-a];exact b
 rw[<-a]
def Mx(h:aF k=true){a:List Int}(c:a.length=16)(d:∀v∈a,0<=v/\v<=999)(g:nth k.F.W.a5 f=true):aF {k with F:=⟨⟨k.F.W.T.set f a,k.F.W.a5⟩,k.F.R⟩} = true:=by
 obtain⟨i,l,n,o,p⟩:=aG.1 h;obtain⟨q,r,t,u⟩:=bf.1 l;refine aG.2 ⟨i,bf.2 ⟨?_,?_,?_,λj b=>?_⟩,n,o,p⟩
 ·simp only[Z1];exact q
 ·simp only[Z1];exact r
 ·simp only[Z1];exact t
 simp only[Z1]at b |-;simp only[bH];split
 ·rename_i e
  obtain⟨rfl,-⟩:=e;unfold gX;simp only[I0,C0,O4];refine⟨c,λv w=>?_⟩;have:=d v w;unfold iJ;simp[g,this]
 exact u j b
def ul(h:aF k=true)(b:f<k.F.W.T.length):(nth k.F.W.T f).length=16/\∀v∈nth k.F.W.T f,0<=v/\v<=999:=by
 obtain⟨g,c,i,j,l⟩:=aG.1 h;obtain⟨n,o,p,d⟩:=bf.1 c;have a:=d f b;unfold gX at a;simp only[I0,C0,O4]at a;refine⟨a.1,λv e=>?_⟩;have:=a.2 v e;unfold iJ at this;simp only[I0,C0]at this;exact this.1
variable{v:Int}
def rS(h:aF k=true)(b:f<k.F.W.T.length)(d:nth k.F.W.a5 f=true){c:Int}(e:0<=v/\v<=999):aF (setCell k f c v)=true:=by
 obtain⟨g,i⟩:=ul h b;refine Mx h (by rw[Z1];exact g) (λz a=>?_) d;rcases O7 a with a|rfl
 ·exact i z a
 exact e
def P1(h:aF k=true){c:Int}(d:(af k.F.R a).e≠0)(e:(af k.F.R b).e≠0)(l:0<=c/\c<=15):aF (sQ k a b c)=true:=by
 obtain⟨f,n,-⟩:=g9 h d;obtain⟨g,i,-⟩:=g9 h e;obtain⟨o,j⟩:=ul h f;exact rS h g i (j _ (ar ω))
def N1{o:Int}(h:aF k=true)(u:k.Calls≠100000)(i:(af k.F.R p).e≠0)(d:(af k.F.R o).e≠0)(w:p≠o):aF (vV k p o).1=true:=by
 unfold vV;split
 ·exact mN h u
 obtain⟨O,y,A⟩:=g9 h i;obtain⟨P,Q,R⟩:=g9 h d;obtain⟨S,T,B,r,t⟩:=bW h i;obtain⟨U,V,C,D,E⟩:=bW h d;obtain⟨F,G,H,J,W,X,K⟩:=aG.1 h;obtain⟨L,M,N⟩:=br.1 H;rw[C]at D E d;rw[B]at r t i;have a:∀q,nth (k.F.R.K.set p.toNat ⟨2,(nth k.F.R.K o.toNat).j⟩) q=if p.toNat=q then⟨2,(nth k.F.R.K o.toNat).j⟩ else nth k.F.R.K q:=λq=>by
  rw[bH];by_cases f:p.toNat=q
  ·rw[CD ⟨f,ω⟩,CD f]
  rw[CB (λe=>f e.1),CB f]
 refine NG F G (br.2 ⟨λj c=>?_,?_,?_⟩) (λj c l=>?_) ⟨r,t⟩ (by rw[<-A];exact y) ⟨by show 0<=k.Calls+1;omega,by show k.Calls+1<=100000;omega,K⟩
 ·simp only[vU,cg,Z1]at c |-
  rw[a];split
  ·unfold kH;rw[C0];simp only;omega
  exact L j c
 ·simp only[vU,cg,Z1];exact M
 ·simp only[vU,cg,Z1];exact N
 replace c:j<k.F.W.a5.length:=c;show nth k.F.W.a5 j=_;rw[J j c];refine decide_eq_decide.2 ?_;rw[dZ,dZ];simp only[vU,cg,Z1,a];constructor
 ·rintro⟨q,n,g,b⟩
  refine⟨q,n,?_⟩;rw[CB (λe=>l (by rw[<-b,<-e]))];exact⟨g,b⟩
 rintro⟨q,n,g,b⟩
 by_cases e:p.toNat=q
 ·rw[CD e]at b
  exact⟨o.toNat,ω,d,b⟩
 rw[CB e]at g b;exact⟨q,n,g,b⟩
def Kt{o:Int}(h:aF k=true)(b:(af k.F.R p).e≠0)(a:(vV k p o).2=true)(q:Nat):(vV k p o).1.F.R.K.length=k.F.R.K.length/\nth (vV k p o).1.F.R.K q=if(q:Int)=p then⟨2,(nth k.F.R.K o.toNat).j⟩ else nth k.F.R.K q:=by
 obtain⟨d,f,-⟩:=bW h b;unfold vV at a |-;split at a
 ·cases a
 rename_i c;rw[CB c];simp only[(mP _ _).1];simp only[vU,cg,Z1,bH];refine⟨trivial,?_⟩;by_cases e:(q:Int)=p
 ·rw[CD ⟨ω,ω⟩,CD e]
 rw[CB λz=>e ω,CB e]
def NM{o:Int}(a:(vV k p o).2=false):(vV k p o).1=cg k:=by
 unfold vV at a |-;split
 ·rfl
 rename_i b;rw[CB b]at a;cases a
def La(h:aF k=true)(g:0<=a)(b:0<=v/\v<=999):aF {k with F:=(iQ k.F a v).1} = true/\(iQ k.F a v).1.R=k.F.R:=by
 unfold iQ;split
 ·exact⟨h,rfl⟩
 rename_i d;split
 ·exact⟨h,rfl⟩
 obtain⟨e,f,-⟩:=g9 h d;exact⟨rS h e f (c:=a % 16) b,rfl⟩
def oN(t:aL)(p:Int):Prop:=∀q:Nat,(nth t.K q).e≠0->(nth t.K q).j=(nth t.K p.toNat).j->(q:Int)=p
structure JI(h:ac):Prop where
 ph:h.u=true->0<=h.Y.b0/\h.Y.b0<=3
 sp:h.u=true->∃a∈h.J,∃b∈h.J,a.Q=h.Y.X.a3/\b.Q=h.Y.X.a1/\meshable a b=true
 sk:h.u=true->oN (tbl h) h.Y.X.a3
 sm:h.u=true->oN (tbl h) h.Y.X.a1
def oN.tEq{t a:aL}{p:Int}(h:oN t p)(b:tEq t a):oN a p:=λq c d=>by
 obtain⟨e,f⟩:=b.2 q;exact h q (e.1 c) (by rw[<-f,<-(b.2 p.toNat).2];exact d)
theorem Pg.tEq{t b:aL}{c:List aB}{sp:List aA}{la:List aC}(h:Pg t c sp la)(a:tEq t b):Pg b c sp la where
 one l hl p hp q hq h1 h2:=h.one l hl p hp q (by rw[<-a.1];exact hq) ((a.2 q).1.1 h1) (by rw[<-(a.2 q).2,<-(a.2 p).2];exact h2)
 bnd p hp:=by rw[a.1];exact h.bnd p hp
 own p hp:=(a.2 p).1.trans (h.own p (by rw[<-a.1];exact hp))
 fre p hp:=(a.2 p).1.trans (h.fre p (by rw[<-a.1];exact hp))
 mesh s hs u hu hne hf:=h.mesh s hs u hu hne (by rw[<-(a.2 _).2,<-(a.2 u.Q.toNat).2];exact hf)
def bc.step(a:bc h E)(b:aF k=true)(c:k.F.R.K.length=(tbl h).K.length)(d:Pg k.F.R h.o h.J h.M){j:cJ}{m:Bool}(h1:m=true->jR j=true/\(∃s∈h.J,s.Q=j.X.a3)/\∃s∈h.J,s.Q=j.X.a1)(e:m=false->sR j=true):bc {h with G:=k,u:=m,Y:=j} E:=
 {a with
   ker:=b
   rng:=by show bF ((k.F.R.K.length:Nat):Int) h.o=true;rw[c];exact a.rng
   pg:=d
   job:=h1
   noj:=e}
variable{la:List aC}{sp:List aA}
def oL.apart(b:oL sp la)(c:s∈sp){l:aC}(d:l∈la)(a:p∈lpgs l l.a2.toNat):s.Q≠p:=by
 unfold lpgs at a;simp only[Y4,List.mem_range]at a;obtain⟨k,e,rfl⟩:=a;exact b.dis s c l d k e
def Pg.on{t H:aL}{Q:List aB}(h:Pg t Q sp la)(r:oL sp la){a b:aA}(w:a∈sp)(L:b∈sp)(R:meshable a b=true)(A:oN t a.Q)(M:(nth t.K a.Q.toNat).e≠0)(N:(nth t.K b.Q.toNat).e≠0)(U:0<=b.Q)(J:H.K.length=t.K.length)(B:∀q:Nat,nth H.K q=if(q:Int)=b.Q then⟨2,(nth t.K a.Q.toNat).j⟩ else nth t.K q):Pg H Q sp la:=by
 have c:∀q:Nat,(nth H.K q).e≠0↔(nth t.K q).e≠0:=λq=>by
  rw[B];split
  ·rename_i e
   rw[show q=b.Q.toNat by omega];exact⟨λ_=>N,λ_=>by show(2:Int)≠0;omega⟩
  rfl
 have V:0<=a.Q:=by have:=r.sok a w;unfold bi at this;rw[C0]at this;omega
 refine⟨λl k p g q W S C=>?_,λp g=>by rw[J];exact h.bnd p g,λp g=>(c p).trans (h.own p (by rw[<-J];exact g)),λp g=>(c p).trans (h.fre p (by rw[<-J];exact g)),λs D u E F n=>?_⟩
 ·have O:¬(p:Int)=b.Q:=λe=>r.apart L k g e.symm
  rw[B p,CB O,B q]at C;rw[c]at S;by_cases e:(q:Int)=b.Q
  ·rw[CD e]at C
   have T:=h.one l k p g a.Q.toNat (by have:=h.bnd _ (d7 (la:=la) w);omega) M C;exact absurd (show a.Q=(p:Int) by omega) (r.apart w k g)
  rw[CB e]at C;exact h.one l k p g q (by rw[<-J];exact W) S C
 have X:0<=s.Q:=by have:=r.sok s D;unfold bi at this;rw[C0]at this;omega
 have Y:0<=u.Q:=by have:=r.sok u E;unfold bi at this;rw[C0]at this;omega
 have d:∀x∈sp,∀y∈sp,x.Q=y.Q->x=y:=λx G y Z e=>by
  obtain⟨i,hi,rfl⟩:=aO G;obtain⟨j,hj,rfl⟩:=aO Z;rw[cS (f:=(·.Q)) r.nd hi hj e]
 have o:∀x∈sp,(nth t.K x.Q.toNat).e≠0:=λx G=>by
  have hx0:0<=x.Q:=by have:=r.sok x G;unfold bi at this;rw[C0]at this;omega
  refine(h.own x.Q.toNat (by have:=h.bnd _ (d7 (la:=la) G);omega)).2 ?_;rw[show((x.Q.toNat:Nat):Int)=x.Q by omega];exact d7 G
 rw[B,B]at n;simp only[show((s.Q.toNat:Nat):Int)=s.Q by omega,show((u.Q.toNat:Nat):Int)=u.Q by omega]at n;by_cases K:s.Q=b.Q
 ·rw[CD K,CB (λe=>F (K.trans e.symm))]at n
  have T:=A u.Q.toNat (o u E) n.symm;rw[d s D b L K,d u E a w ω,gT];exact R
 rw[CB K]at n;by_cases P:u.Q=b.Q
 ·rw[CD P]at n
  have T:=A s.Q.toNat (o s D) n;rw[d u E b L P,d s D a w ω];exact R
 rw[CB P]at n;exact h.mesh s D u E F n
def over(j:cJ):Bool:=decide (j.b0=4\/j.b0=5)
def gY(k:ah)(j:cJ):ah × cJ:=if jmay k j=true then jstep k j else(k,j)
def mStep(h:ac):ac:={h with G:=(gY h.G h.Y).1,u:=if over (gY h.G h.Y).2=true then false else h.u,Y:=if over (gY h.G h.Y).2=true then⟨⟨0,0,[]⟩,0,0⟩ else(gY h.G h.Y).2}
def Gj(h:ac):Bool:=decide ((gY h.G h.Y).2.b0=4)
def dw{j:cJ} : jR j=true↔eR j.X=true/\0<=j.b0/\j.b0<=5/\0<=j.b/\j.b<=j.X.T.length:=by
 unfold jR;simp only[I0,C0]
def gn{p:cA}(h:eR p=true)(a:i<p.T.length):0<=nth p.T i/\nth p.T i<=15:=by
 unfold eR at h;simp only[I0]at h;have:=eZ h.1 a;unfold mF at this;rw[C0]at this;exact⟨this.1,this.2.1⟩
structure JS(h:ac)(k:ah)(j:cJ):Prop where
 ker:aF k=true
 len:k.F.R.K.length=(tbl h).K.length
 pg:j.b0≠4\/JI h->Pg k.F.R h.o h.J h.M
 ph:0<=j.b0/\j.b0<=5
 plan:j.X=h.Y.X
 nxt:0<=j.b/\j.b<=j.X.T.length
 eq:j.b0≠4->tEq (tbl h) k.F.R
 calls:h.G.Calls<=k.Calls/\k.Calls<=h.G.Calls+1/\k.a0=h.G.a0
def xt(k:ah)(p m:Int):(jW k p m).1.Calls=k.Calls+1/\(jW k p m).1.a0=k.a0:=by
 unfold jW;split<;>exact⟨rfl,rfl⟩
def Pn(k:ah)(p o:Int):(vV k p o).1.Calls=k.Calls+1/\(vV k p o).1.a0=k.a0:=by
 unfold vV;split
 ·exact⟨rfl,rfl⟩
 obtain⟨-,a,b,-⟩:=mP (vU (cg k) p.toNat ⟨2,(nth k.F.R.K o.toNat).j⟩) (nth k.F.R.K p.toNat).j;simp only[a,b];exact⟨rfl,rfl⟩
def JS.of(c:bc h E)(B:h.u=true):JS h (gY h.G h.Y).1 (gY h.G h.Y).2:=by
 obtain⟨R,-,-⟩:=c.job B;obtain⟨O,y,A,o,p⟩:=dw.1 R;unfold gY;split
 case isFalse=>exact⟨c.ker,rfl,λ_=>c.pg,⟨y,A⟩,rfl,⟨o,p⟩,λ_=>tEq.refl _,V5 _,by show h.G.Calls<=h.G.Calls+1;omega,rfl⟩
 rename_i d;unfold jmay at d;simp only[I0,C0]at d;obtain⟨⟨-,C⟩,-,u,r,D⟩:=d;have fin:∀(k:ah)(j:cJ),aF k=true->tEq (tbl h) k.F.R->0<=j.b0/\j.b0<=5->j.X=h.Y.X->0<=j.b/\j.b<=j.X.T.length->h.G.Calls<=k.Calls/\k.Calls<=h.G.Calls+1/\k.a0=h.G.a0->JS h k j:=
  λk j S F T U V W=>⟨S,F.1,λ_=>c.pg.tEq F,T,U,V,λ_=>F,W⟩
 have P:=(aG.1 c.ker).2.2.2.2;unfold jstep;split
 ·obtain⟨l,w⟩:=F6 c.ker C r (m:=1) (.inl rfl)
  obtain⟨g,t⟩:=xt h.G h.Y.X.a1 1;refine fin _ _ l w ?_ rfl ⟨o,p⟩ ⟨by rw[g];omega,by rw[g];omega,t⟩;show 0<=(if _ then _ else _:Int)/\(if _ then _ else _:Int)<=5;split<;>omega
 split
 ·split
  ·exact fin _ _ c.ker (tEq.refl _) ⟨by show(0:Int)<=2;omega,by show(2:Int)<=5;omega⟩ rfl ⟨o,p⟩ ⟨V5 _,by show h.G.Calls<=h.G.Calls+1;omega,rfl⟩
  have n:=gn O (i:=h.Y.b.toNat) ω;refine fin _ _ (P1 c.ker r u n) (tEq.refl _) ⟨y,A⟩ rfl ⟨by show 0<=h.Y.b+1;omega,by show h.Y.b+1<=h.Y.X.T.length;omega⟩ ⟨V5 _,by show h.G.Calls<=h.G.Calls+1;omega,rfl⟩
 split
 ·have G:h.Y.X.a1≠h.Y.X.a3:=λe=>D (by rw[e])
  have l:=N1 c.ker C r u G;obtain⟨g,t⟩:=Pn h.G h.Y.X.a1 h.Y.X.a3;cases e:(vV h.G h.Y.X.a1 h.Y.X.a3).2 with
  | false=>
   rw[CB (by simp)];refine fin _ _ l (tEq.of ?_) ⟨by show(0:Int)<=3;omega,by show(3:Int)<=5;omega⟩ rfl ⟨o,p⟩ ⟨by rw[g];omega,by rw[g];omega,t⟩;rw[NM e];rfl
  | true=>
   rw[CD rfl];obtain⟨X,m2,Y,-⟩:=bW c.ker r;obtain⟨n1,n2,Z,-⟩:=bW c.ker u;have f:=Kt c.ker r e;refine⟨l,(f 0).1,λH=>?_,⟨by show(0:Int)<=4;omega,by show(4:Int)<=5;omega⟩,rfl,⟨o,p⟩,λJ=>absurd rfl J,by rw[g];omega,by rw[g];omega,t⟩;have Q:JI h:=H.elim (λJ=>absurd rfl J) id;obtain⟨a,ha,b,hb,K,M,N⟩:=Q.sp B;refine c.pg.on c.L ha hb N (by rw[K];exact Q.sk B) (by rw[K];show(nth h.G.F.R.K _).e≠0;rw[<-Z];exact u) (by rw[M];show(nth h.G.F.R.K _).e≠0;rw[<-Y];exact r) (by rw[M];exact X) (f 0).1 λq=>?_
   rw[(f q).2,M,K];rfl
 split
 ·split
  ·rename_i hn0
   have n:=gn O (i:=(h.Y.b - 1).toNat) ω;have hk0:=(bW c.ker u).1;obtain⟨l,w⟩:=La c.ker (a:=h.Y.X.a3*16+nth h.Y.X.T (h.Y.b - 1).toNat) (v:=0) ω ⟨ω,ω⟩;exact fin _ _ l (tEq.of w) ⟨y,A⟩ rfl ⟨by show 0<=h.Y.b - 1;omega,by show h.Y.b - 1<=h.Y.X.T.length;omega⟩ ⟨V5 _,by show h.G.Calls<=h.G.Calls+1;omega,rfl⟩
  obtain⟨l,w⟩:=F6 c.ker C r (m:=2) (.inr rfl);obtain⟨g,t⟩:=xt h.G h.Y.X.a1 2;refine fin _ _ l w ?_ rfl ⟨o,p⟩ ⟨by rw[g];omega,by rw[g];omega,t⟩;show 0<=(if _ then _ else _:Int)/\(if _ then _ else _:Int)<=5;split<;>omega
 exact fin _ _ c.ker (tEq.refl _) ⟨y,A⟩ rfl ⟨o,p⟩ ⟨V5 _,by show h.G.Calls<=h.G.Calls+1;omega,rfl⟩
def bc.mStep{h:ac}{E:List Int}(d:bc h E)(f:JI h)(c:h.u=true):bc (mStep h) E/\JI (mStep h):=by
 have s:=JS.of d c;unfold Ab.mStep;generalize (gY h.G h.Y).1=k at s |-;generalize (gY h.G h.Y).2=j at s |-;cases e:over j with
 | true=>
  refine⟨d.step s.ker s.len (s.pg (.inr f)) (λh=>by simp at h) (λ_=>by simp[sR]),?_⟩;exact⟨λh=>by simp at h,λh=>by simp at h,λh=>by simp at h,λh=>by simp at h⟩
 | false=>
  simp only[Bool.false_eq_true,if_false];unfold over at e;simp only[z5,not_or]at e;have g:=s.eq e.1;have i:=s.ph;refine⟨d.step s.ker s.len (s.pg (.inr f)) (λ_=>⟨dw.2 ⟨by rw[s.plan];exact(dw.1 (d.job c).1).1,s.ph.1,s.ph.2,s.nxt⟩,by rw[s.plan];exact(d.job c).2⟩) (λh=>by rw[c]at h;cases h),?_⟩;refine⟨λ_=>⟨s.ph.1,by show j.b0<=3;omega⟩,λ_=>?_,λ_=>?_,λ_=>?_⟩
  ·show ∃a∈h.J,∃b∈h.J,a.Q=j.X.a3/\b.Q=j.X.a1/\meshable a b=true
   rw[s.plan];exact f.sp c
  ·show oN k.F.R j.X.a3
   rw[s.plan];exact(f.sk c).tEq g
  show oN k.F.R j.X.a1;rw[s.plan];exact(f.sm c).tEq g
def fe(k:ah)(a:Int):Int:=nth (nth k.F.W.T (af k.F.R (a / 16)).j.toNat) (a % 16).toNat
def cellsOf(k:ah)(a:Int)(n:Nat):List Int:=(List.range n).map λ(i:Nat)=>fe k (a+i)
def iE(k:ah)(a:Int)(n:Nat):(cellsOf k a n).length=n:=by simp[cellsOf]
def DH(k:ah)(a:Int)(n:Nat):cellsOf k a (n+1)=cellsOf k a n++[fe k (a+n)]:=by
 unfold cellsOf;rw[List.range_succ,V6];rfl
def Pr(b:aF k=true)(p:Int):0<=(af k.F.R p).j/\(af k.F.R p).j<k.F.W.T.length:=by
 obtain⟨-,c,d,-⟩:=aG.1 b;obtain⟨e,f,g,h⟩:=bf.1 c;unfold af;split
 ·rename_i i
  have:=(br.1 d).1 p.toNat ω;unfold kH at this;rw[C0]at this;by_cases a:(nth k.F.R.K p.toNat).e=0
  ·have:=this.2.2.1 a;omega
  have:=this.2.2.2 a;omega
 simp only;omega
def Ty(a:aF k=true)(b:j<k.F.W.T.length):(nth k.F.W.T j).length=16/\∀i,i<16->0<=nth (nth k.F.W.T j) i/\nth (nth k.F.W.T j) i<=999:=by
 obtain⟨-,c,-⟩:=aG.1 a;obtain⟨e,f,g,d⟩:=bf.1 c;have:=d j b;unfold gX at this;rw[I0,C0,O4]at this;refine⟨this.1,λi l=>?_⟩;have h:=this.2 _ (ar (xs:=nth k.F.W.T j) (i:=i) ω);unfold iJ at h;rw[I0,C0]at h;exact h.1
def BJ(h:ac)(a n:Int)(b:aF h.G=true)(q:0<=a/\a<=1000000)(r:n<=1000000) :
  zzA 90 false [.val (some 24) (ac.enc .V h),.val none [I a],.val none [I n]] .one (aH .own (cellsOf h.G a n.toNat)):=by
 have c:=b8 b;refine fO 44 [] Tryz.func90 rfl ?_ (.inr (bO _))
 repeat'(first|refine gP ?_|fail)
 (conv=>whnf)
 refine CJ (ι:=Nat) (λi=>[(1,.H .one [I (a)]),(2,.H .one [I (n)]),(3,.H .box (ac.enc .V h)),(7,.H .one (aH .own (cellsOf h.G a i))),(8,.H .one [I ((i:Nat):Int)])]) (λi=>i<=n.toNat) (λi=>n.toNat - i) (0) ?_ (X0 _) λi t=>?_
 ·exact wB
 have d:=iE h.G a i;by_cases u:i<n.toNat
 ·obtain⟨e,w⟩:=Pr b ((a+i) / 16)
  have g:=au (xs:=h.G.F.W.T) (i:=(af h.G.F.R ((a+i) / 16)).j.toNat) ω;have k:=(Ty b (j:=(af h.G.F.R ((a+i) / 16)).j.toNat) ω).1;have l:=au (xs:=nth h.G.F.W.T (af h.G.F.R ((a+i) / 16)).j.toNat) (i:=((a+i) % 16).toNat) ω;have o:IntKind.i64.wrap ((a+(i:Int)).tdiv 16)=(a+i) / 16:=by rw[nj ω];exact fC ω ω
  have p:(a+(i:Int)).tmod 16=(a+i) % 16:=eE ω
  repeat'(first|refine gE ?_|(conv=>whnf);first|refine CP (by decide) ?_|refine CN o ?_|refine CT p ?_|refine C9 (jf h.G.F.R _ c.1.2) ?_|refine CO e (aa g) ?_|refine CO ω (aa l) ?_|refine Ap.sn cB rfl (by simp;omega) (by decide) rfl ?_)
  (conv=>whnf)
  refine CF (i+1) ω ω ?_;rw[DH]
  (repeat'(first|exact trivial|rfl|exact CM rfl (CM (Z0 (C.s dR.own) (by simp[rI,fe])) trivial)|refine CM ?_ ?_))
 repeat'(first|refine gE ?_|fail)
 obtain rfl:i=n.toNat:=ω
 rfl
def Dr(h:(denotes sp la a).b3=1):∃i:Nat,i<sp.length/\(denotes sp la a).c2=i/\dd (nth sp i) a=true/\denotes sp la a=oM i (nth sp i) a:=by
 unfold denotes at h |-;cases e:sp.findIdx? (dd · a) with
 | some i=>
  obtain⟨b,d,-⟩:=Y7.1 e;refine⟨i,b,rfl,?_,rfl⟩;rw[bk (X2 b)];exact d
 | none=>
  rw[e]at h;simp only at h;cases c:la.findIdx? (bG · a) with
  | some i=>rw[c]at h;simp at h
  | none=>rw[c]at h;simp at h
def EO(h:(denotes sp la a).b3=3):∃i:Nat,i<la.length/\(denotes sp la a).c2=i/\bG (nth la i) a=true/\denotes sp la a = ⟨3,i,0,a - 16*(nth la i).Q⟩:=by
 unfold denotes at h |-;cases e:sp.findIdx? (dd · a) with
 | some i=>
  rw[e]at h;simp only[oM]at h;split at h<;>simp at h
 | none=>
  rw[e]at h;simp only at h |-;cases b:la.findIdx? (bG · a) with
  | some i=>
   obtain⟨c,d,-⟩:=Y7.1 b;refine⟨i,c,rfl,?_,rfl⟩;rw[bk (X2 c)];exact d
  | none=>rw[b]at h;simp at h
def gK{n:Int}(h:0<=aK n):1<=n/\n<=8:=by
 unfold aK at h;split at h
 ·omega
 split at h
 ·omega
 split at h
 ·omega
 split at h
 ·omega
 split at h<;>omega
def QF{o:bo}(c:jb h o=true):0<=o.Addr/\o.Addr<=2000/\1<=o.q/\o.q<=1000:=by
 unfold jb at c;simp only[I0,C7,C0]at c;obtain⟨-,⟨d,e⟩|⟨d,e⟩⟩:=c
 ·obtain⟨i,f,a,b,-⟩:=Dr d
  rw[a,I3]at e;unfold dd bi at b;simp only[I0,C0]at b;have:=gK (n:=o.q) ω;omega
 obtain⟨i,f,a,b,-⟩:=EO d;rw[a,I3]at e;unfold bG bN at b;simp only[I0,C0]at b;omega
def xS(a:dU h=true):cn h=true/\fY h=true:=by
 unfold dU at a;simp only[I0]at a;exact⟨a.1.1.2,a.1.2.1⟩
def Q4(a:dU h=true):1<=h.b/\h.b<=1000000:=by
 have:=(xS a).1;unfold cn at this;rw[C0]at this;omega
def DP(c:dU h=true)(f:i<h.O.length):1<=(nth h.O i).Id/\(nth h.O i).Id<h.b/\0<=(nth h.O i).Addr/\(nth h.O i).Addr<=2000/\1<=(nth h.O i).q/\(nth h.O i).q<=1000/\∀j,j<i->(nth h.O j).Id≠(nth h.O i).Id:=by
 obtain⟨-,g⟩:=xS c;obtain⟨o,p⟩:=Q4 c;have a:=eZ g f;rw[fC ω ω]at a;unfold objAt gS at a;simp only[I0,C0,Bool.not_eq_true']at a;obtain⟨⟨k,d⟩,l⟩:=a;have b:=QF l;refine⟨k.2.1,ω,b.1,b.2.1,b.2.2.1,b.2.2.2,λj n e=>?_⟩;rw[List.any_eq_false]at d;refine d (nth h.O j) ?_ (by unfold fg;exact O0 e);have:(h.O.take i)[j]? = some (nth h.O j):=by rw[List.getElem?_take,CD n,au ω]
 exact O2 this
def Th(a:dU h=true)(c:i<h.O.length)(d:j<h.O.length)(f:i≠j):(nth h.O i).Id≠(nth h.O j).Id:=by
 rcases Nat.lt_or_ge i j with b|b
 ·exact(DP a d).2.2.2.2.2.2 i b
 exact λe=>(DP a c).2.2.2.2.2.2 j ω e.symm
def Uu{α:Type}[Inhabited α](f:α->Int)(xs:List α):Nat->Int
 | 0=>0
 | i+1=>Uu f xs i+f (nth xs i)
def bor(n m:Int):Int:=((n.toNat ||| m.toNat:Nat):Int)
def oZ(sp:List aA)(p:Int)(b:Int):Nat->Int
 | 0=>b
 | j+1=>if(nth sp j).Q=p then bor (oZ sp p b j) (nth sp j).a9 else oZ sp p b j
def ip(sp:List aA)(ps:List Int)(b:Int):Nat->Int
 | 0=>b
 | k+1=>oZ sp (nth ps k) (ip sp ps b k) sp.length
def dK(h:ac)(i:Nat):Int:=ip h.J (aT h (nth h.J i).Q) (nth h.J i).a9 (aT h (nth h.J i).Q).length
def HG{n m:Int}(h1:0<=n/\n<=65535)(a:0<=m/\m<=65535):0<=bor n m/\bor n m<=65535:=by
 have b:n.toNat ||| m.toNat<2 ^ 16:=Nat.or_lt_two_pow ω ω
 unfold bor;omega
def lX(h:∀s∈sp,bi s=true)(b:j<sp.length):0<=(nth sp j).a9/\(nth sp j).a9<=65535:=by
 have a:=h _ (ar b);have c:=Jm (nth sp j).d;unfold bi at a;rw[C0]at a;omega
def wz{sp:List aA}(h:∀s∈sp,bi s=true){p b:Int}(a:0<=b/\b<=65535):∀j,j<=sp.length->0<=oZ sp p b j/\oZ sp p b j<=65535
 | 0,_=>a
 | j+1,d=>by
  have c:=wz h (p:=p) a j ω;simp only[oZ];split
  ·exact HG c (lX h ω)
  exact c
def lH{sp:List aA}(h:∀s∈sp,bi s=true){ps:List Int}{b:Int}(a:0<=b/\b<=65535):∀k,0<=ip sp ps b k/\ip sp ps b k<=65535
 | 0=>a
 | k+1=>by simp only[ip];exact wz h (lH h a k) _ (W3 _)
def nC{i:Int}(a:0<=b)(c:0<=i/\i<=15):aZ b i=b.toNat.testBit i.toNat:=by
 unfold aZ;rw[Nat.testBit_eq_decide_div_mod_eq];refine decide_eq_decide.2 ?_;obtain⟨n,rfl⟩ : ∃n:Nat,b=n:=⟨b.toNat,ω⟩
 rw[I3];have d:((n / 2 ^ i.toNat:Nat):Int)=(n:Int) / 2 ^ i.toNat:=by simp
 omega
def HZ{n m i:Int}(b:0<=n)(c:0<=m)(a:0<=i/\i<=15):aZ (bor n m) i=(aZ n i || aZ m i):=by
 rw[nC (by unfold bor;omega) a,nC b a,nC c a];unfold bor;rw[I3,Nat.testBit_or]
def Fs{sp:List aA}(h:∀s∈sp,bi s=true){p b i:Int}(k:0<=b/\b<=65535)(l:0<=i/\i<=15):∀j,j<=sp.length->(aZ (oZ sp p b j) i=true↔aZ b i=true\/∃q,q<j/\(nth sp q).Q=p/\aZ (nth sp q).a9 i=true)
 | 0,_=>by simp[oZ]
 | j+1,t=>by
  have n:=Fs h (p:=p) k l j ω;have o:=wz h (p:=p) k j ω;have r:=lX h (j:=j) ω;simp only[oZ];split
  ·rename_i d
   rw[HZ o.1 r.1 l,C7,n];constructor
   ·rintro((e|⟨q,f,a⟩)|e)
    ·exact .inl e
    ·exact .inr ⟨q,ω,a⟩
    exact .inr ⟨j,ω,d,e⟩
   rintro(e|⟨q,f,a,c⟩)
   ·exact .inl (.inl e)
   by_cases g:q=j
   ·subst g;exact .inr c
   exact .inl (.inr ⟨q,ω,a,c⟩)
  rename_i d;rw[n];constructor
  ·rintro(e|⟨q,f,a⟩)
   ·exact .inl e
   exact .inr ⟨q,ω,a⟩
  rintro(e|⟨q,f,a,c⟩)
  ·exact .inl e
  by_cases g:q=j
  ·subst g;exact absurd a d
  exact .inr ⟨q,ω,a,c⟩
def AG{sp:List aA}(h:∀s∈sp,bi s=true){ps:List Int}{b i:Int}(d:0<=b/\b<=65535)(f:0<=i/\i<=15):∀k,(aZ (ip sp ps b k) i=true↔aZ b i=true\/∃u,u<k/\∃q,q<sp.length/\(nth sp q).Q=nth ps u/\aZ (nth sp q).a9 i=true)
 | 0=>by simp[ip]
 | k+1=>by
  have g:=AG h (ps:=ps) d f k;have j:=lH h (ps:=ps) d k;simp only[ip];rw[Fs h j f _ (W3 _),g];constructor
  ·rintro((e|⟨u,c,a⟩)|⟨q,c,a⟩)
   ·exact .inl e
   ·exact .inr ⟨u,ω,a⟩
   exact .inr ⟨k,ω,q,c,a⟩
  rintro(e|⟨u,c,a⟩)
  ·exact .inl (.inl e)
  by_cases l:u=k
  ·subst l;exact .inr a
  exact .inl (.inr ⟨u,ω,a⟩)
variable{α:Type}
def hC(p:α->Bool)(xs:List α):Nat:=(xs.findIdx? p).getD xs.length
def im(p:α->Bool)(xs:List α)(y:α):List α:=xs.take (hC p xs)++y::xs.drop (hC p xs)
def Qd(p:α->Bool)(xs:List α):hC p xs<=xs.length:=by
 unfold hC;cases e:xs.findIdx? p with
 | none=>exact W3 _
 | some i=>exact Nat.le_of_lt (Y7.1 e).1
def kV(p:α->Bool)(xs:List α)(y:α):(im p xs y).Perm (y::xs):=by
 unfold im;refine List.perm_middle.trans ?_;rw[List.take_append_drop]
def cK{p:α->Bool}{xs:List α}{y z:α} : z∈im p xs y↔z=y\/z∈xs:=by
 rw[(kV p xs y).mem_iff,List.mem_cons]
def mg{p:α->Bool}{xs:List α}(c:i<=xs.length)(a:∀(j:Nat)(z:α),j<i->xs[j]? = some z->p z=false)(b:∀z,xs[i]? = some z->p z=true):hC p xs=i:=by
 unfold hC;by_cases e:i<xs.length
 ·rw[w8 (X2 e) (b _ (X2 e)) a];rfl
 rw[BN ω a];show xs.length=i;omega
def lY{f:α->Int}{xs:List α}{y:α}(h:xs.Pairwise λa b=>f a<f b)(p:∀z∈xs,f z≠f y):(im (λz=>decide (f y<=f z)) xs y).Pairwise λa b=>f a<f b:=by
 have q:∀z∈xs.drop (hC (λz=>decide (f y<=f z)) xs),f y<f z:=λz g=>by
  obtain⟨j,k,rfl⟩:=List.mem_drop_iff_getElem.1 g;have C:=p _ (List.getElem_mem k);cases e:xs.findIdx? (λz=>decide (f y<=f z)) with
  | none=>
   have l:hC (λz=>decide (f y<=f z)) xs=xs.length:=by unfold hC;rw[e];rfl
   rw[l]at k;omega
  | some i=>
   have l:hC (λz=>decide (f y<=f z)) xs=i:=by unfold hC;rw[e];rfl
   obtain⟨r,t,-⟩:=Y7.1 e;rw[C0]at t;have c:i+j<xs.length:=by rw[<-l];omega
   have n:f xs[i+j]≠f y:=p _ (List.getElem_mem c);have d:f y<f xs[i+j]:=by
    cases j with
    | zero=>simp only[Nat.add_zero]at n |-;omega
    | succ j=>
     have:=List.pairwise_iff_getElem.1 h i (i+(j+1)) r c ω;omega
   have w:xs[hC (λz=>decide (f y<=f z)) xs+j]? = xs[i+j]?:=by rw[l]
   rw[X2 ω,X2 c]at w;rw[Option.some.inj w];exact d
 have A:∀z∈xs.take (hC (λz=>decide (f y<=f z)) xs),f z<f y:=λz g=>by
  obtain⟨j,k,rfl⟩:=List.mem_take_iff_getElem.1 g;unfold hC at k;cases e:xs.findIdx? (λz=>decide (f y<=f z)) with
  | none=>
   have:=List.findIdx?_eq_none_iff.1 e _ (List.getElem_mem (show j<xs.length by omega));simp only[z5]at this;omega
  | some i=>
   obtain⟨r,t,B⟩:=Y7.1 e;simp only[e,Option.getD_some]at k;have:=B j ω;simp only[C0]at this;omega
 unfold im;refine List.pairwise_append.2 ⟨h.sublist (List.take_sublist ..),List.pairwise_cons.2 ⟨q,h.sublist (List.drop_sublist ..)⟩,λz g u o=>?_⟩;rcases List.mem_cons.1 o with rfl|o
 ·exact A z g
 exact Int.lt_trans (A z g) (q u o)
def gp(b i:Int):Int:=((b.toNat ||| 2 ^ i.toNat:Nat):Int)
def qy(s:aA)(i:Int):aA:={s with a9:=gp s.a9 i}
def wZ(b i:Int)(j:Nat):(gp b i).toNat.testBit j=(b.toNat.testBit j || decide (i.toNat=j)):=by
 unfold gp;rw[I3,Nat.testBit_or,Nat.testBit_two_pow]
def HL{i:Int}(g:0<=b)(e:0<=i/\i<=15)(j:Int):aZ (gp b i) j=true↔aZ b j=true\/j=i:=by
 rw[eN,eN,wZ,C7,C0];have f:0<=gp b i:=by unfold gp;omega
 constructor
 ·rintro⟨h,c,d,a|a⟩
  ·exact .inl ⟨g,c,d,a⟩
  exact .inr ω
 rintro(⟨h,c,d,a⟩|rfl)
 ·exact⟨f,c,d,.inl a⟩
 exact⟨f,e.1,e.2,.inr rfl⟩
def gm{k:Int}(h:0<=k/\k<=3):lim k=2 ^ (slots k).toNat - 1/\0<=slots k/\slots k<=16/\slots k*csz k=16:=by
 obtain rfl|rfl|rfl|rfl:k=0\/k=1\/k=2\/k=3:=ω
 all_goals decide
def Dh(h:bi s=true){i:Int}(k:0<=i/\i<slots s.d):bi (qy s i)=true:=by
 have b:=aI h;obtain⟨c,l,o,-⟩:=gm b.2.2;unfold bi at h;rw[C0]at h;obtain⟨d,e,f,g,p,a⟩:=h;refine O0 ⟨d,e,f,g,by show 0<=gp s.a9 i;unfold gp;omega,?_⟩;show gp s.a9 i<=lim s.d;rw[c]at a |-;have j:((2 ^ (slots s.d).toNat:Nat):Int)=(2:Int) ^ (slots s.d).toNat:=by norm_cast
 rw[<-j]at a |-;have:=Nat.or_lt_two_pow (x:=s.a9.toNat) (y:=2 ^ i.toNat) (n:=(slots s.d).toNat) ω (Nat.pow_lt_pow_right ω ω);unfold gp;omega
def Bg{u:aA}{i:Int}(b:0<=i/\i<slots s.d)(c:aZ u.a9 i=false)(h:meshable s u=true):meshable (qy s i) u=true:=by
 unfold meshable at h |-;simp only[I0,C0]at h |-;obtain⟨⟨d,f⟩,k,l,o⟩:=h;have p:=aI d;obtain⟨r,t,w,-⟩:=gm p.2.2;have a:=dO f;refine⟨⟨Dh d b,f⟩,k,l,?_⟩;refine Nat.eq_of_testBit_eq λj=>?_
 have g:=Z0 (λn=>Nat.testBit n j) o;simp only[Nat.testBit_and,Nat.zero_testBit,qy,wZ]at g |-;by_cases e:i.toNat=j
 ·have:u.a9.toNat.testBit j=false:=by
   rw[<-C6];intro q;have:=(eN u.a9 i).2 ⟨a.1,b.1,ω,by rw[e];exact q⟩;rw[this]at c;cases c
  rw[this];simp
 rw[W0 e,Bool.or_false];exact g
def uM(h:bi s=true){i:Int}(n:0<=i/\i<slots s.d)(b:Int):eK (qy s i) b↔eK s b\/b=16*s.Q+i*csz s.d:=by
 have g:=aI h;obtain⟨o,p,k,l⟩:=gm g.2.2;have j:=ce g.2.2;unfold eK;simp only[qy];rw[HL (dO h).1 ω];constructor
 ·rintro⟨d,f,c,a|a⟩
  ·exact .inl ⟨d,f,c,a⟩
  right
  rcases j with e|e|e|e<;>rw[e]at c a |-<;>omega
 rintro(⟨d,f,c,a⟩|rfl)
 ·exact⟨d,f,c,.inl a⟩
 have q:slots s.d<=16:=k;rcases j with e|e|e|e<;>rw[e]at l |-<;>refine⟨?_,?_,?_,.inr ?_⟩<;>omega
def LS(k:Int)(a:i<sp.length):(sp.set i (qy (nth sp i) k)).map (·.Q)=sp.map (·.Q):=by
 rw[Z6];refine List.ext_getElem (by simp) λj b c=>?_
 rw[List.getElem_set];split
 ·rename_i e;subst e
  rw[List.getElem_map];show(nth sp i).Q=_;rw[bk (X2 a)]
 rfl
def jo.setS(p:oL sp la)(g:i<sp.length){k:Int}(h:0<=k/\k<slots (nth sp i).d)(b c:Int):jo (sp.set i (qy (nth sp i) k)) b c↔jo sp b c\/(b=16*(nth sp i).Q+k*csz (nth sp i).d/\(c<0\/(nth sp i).d=c)):=by
 have d:=p.sok _ (ar g);constructor
 ·rintro⟨s,l,f,a⟩
  rcases ef l with rfl|⟨j,n,q,rfl⟩
  ·rcases(uM d h b).1 f with o|o
   ·exact .inl ⟨_,ar g,o,a⟩
   exact .inr ⟨o,a⟩
  exact .inl ⟨_,ar n,f,a⟩
 rintro(⟨s,l,f,a⟩|⟨f,a⟩)
 ·obtain⟨j,n,rfl⟩:=aO l
  by_cases e:j=i
  ·subst e
   exact⟨_,iP _ g,(uM d h b).2 (.inl f),a⟩
  exact⟨_,jO _ n e,f,a⟩
 exact⟨_,iP _ g,(uM d h b).2 (.inr f),a⟩
def QX(d:bc h E)(l:i<h.J.length){k:Int}(p:0<=k/\k<=15)(b:aZ (dK h i) k=false):aZ (nth h.J i).a9 k=false/\∀u∈h.J,(nth (tbl h).K u.Q.toNat).j=(nth (tbl h).K (nth h.J i).Q.toNat).j->aZ u.a9 k=false:=by
 have e:=d.L;have q:=dO (e.sok _ (ar l));unfold dK at b;rw[<-C6,AG e.sok q p]at b;rw[not_or]at b;have r:aZ (nth h.J i).a9 k=false:=by simpa using b.1
 have a:∀s∈h.J,s.Q.toNat<fk h/\(nth (tbl h).K s.Q.toNat).e≠0/\((s.Q.toNat:Nat):Int)=s.Q:=λs f=>by
  have K:=aI (e.sok s f);have M:=d.pg.bnd s.Q (d7 f);have n:s.Q.toNat<(tbl h).K.length:=ω
  have o:((s.Q.toNat:Nat):Int)=s.Q:=ω
  exact⟨n,(d.pg.own _ n).2 (by rw[o];exact d7 f),o⟩
 refine⟨r,λu c t=>?_⟩;rw[<-C6];intro w;obtain⟨y,A,B⟩:=a _ (ar l);obtain⟨C,D,F⟩:=a u c;have G:u.Q∈aT h (nth h.J i).Q:=by
  rw[<-B,f8 y A,<-F];exact eO.2 ⟨C,D,t⟩
 obtain⟨v,H,g⟩:=aO G;obtain⟨j,J,rfl⟩:=aO c;exact b.2 ⟨v,H,j,J,g.symm,w⟩
def bc.take{k sd:Int}(g:bc h E)(C:i<h.J.length)(D:0<=k/\k<slots (nth h.J i).d)(r:aZ (dK h i) k=false)(M:0<=sd/\sd<=1073741823) :
  bc {h with b5:=sd,J:=h.J.set i (qy (nth h.J i) k)} ((16*(nth h.J i).Q+k*csz (nth h.J i).d)::E):=by
 have F:=g.L;have T:=F.sok _ (ar C);have Q:=aI T;obtain⟨l1,l2,l3,l4⟩:=gm Q.2.2;have hz:=ce Q.2.2;obtain⟨u1,u2⟩:=QX g C ⟨D.1,ω⟩ r;have n:=λb c=>jo.setS F C D b c
 have w:=LS k C;generalize ha:16*(nth h.J i).Q+k*csz (nth h.J i).d=a at n |-;have G:¬eK (nth h.J i) a:=by
  rintro⟨-,-,-,h4⟩
  have:(a - 16*(nth h.J i).Q) / csz (nth h.J i).d=k:=by
   rw[<-ha];rcases hz with e|e|e|e<;>rw[e]<;>omega
  rw[this,u1]at h4;cases h4
 have hrange:16*(nth h.J i).Q<=a/\a<=16*(nth h.J i).Q+15:=by
  rcases hz with e|e|e|e<;>rw[e]at ha l4<;>omega
 have U:¬mK h.J h.M a:=by
  rintro(⟨s,p,d,-⟩|⟨l,hl,e⟩)
  ·obtain⟨j,V,rfl⟩:=aO p
   have:=cS (f:=(·.Q)) F.nd V C (by have a1:=d.1;have a2:=d.2.1;omega);subst this;exact G d
  exact(yU F hl).1 _ (ar C) ω
 have W:a∉E++holders h:=λX=>U ((g.mem a).1 X)
 have q:∀s∈h.J.set i (qy (nth h.J i) k),∃u∈h.J,u.Q=s.Q/\(s=u\/(u=nth h.J i/\s=qy u k)):=λs p=>by
  rcases ef p with rfl|⟨j,V,hji,rfl⟩
  ·exact⟨_,ar C,rfl,.inr ⟨rfl,rfl⟩⟩
  exact⟨_,ar V,rfl,.inl rfl⟩
 generalize hsp:h.J.set i (qy (nth h.J i) k)=sp at n w q |-;have t:pgs sp h.M=pgs h.J h.M:=by unfold pgs;rw[w]
 have N:∀u∈h.J,∃s∈sp,s.Q=u.Q:=λu r=>by
  have:u.Q∈sp.map (·.Q):=by rw[w];exact Y4.2 ⟨u,r,rfl⟩
  obtain⟨s,p,e⟩:=Y4.1 this;exact⟨s,p,e⟩
 exact {g with
   lay:=by
     obtain⟨l1,l2,l3⟩:=ew g.lay;unfold bt;simp only[I0,C0];refine⟨⟨O4.2 λs p=>?_,l2⟩,by rw[t];exact l3⟩;obtain⟨u,r,-,rfl|⟨rfl,rfl⟩⟩:=q s p
     · exact F.sok _ r
     exact Dh (F.sok _ r) D
   srs:=by
     have d:(h.J.map (·.Q)).Pairwise (λa b=>a<b):=List.pairwise_map.2 g.srs;rw[<-w]at d;exact List.pairwise_map.1 d
   pg:=⟨g.pg.one,by rw[t];exact g.pg.bnd,by rw[t];exact g.pg.own,g.pg.fre,λs p u r O hf=>by
     obtain⟨R,A,Y,Z⟩:=q s p;obtain⟨S,B,eu,P⟩:=q u r;have H:(nth (tbl h).K R.Q.toNat).j=(nth (tbl h).K S.Q.toNat).j:=by rw[Y,eu];exact hf
     have d:=g.pg.mesh R A S B (by rw[Y,eu];exact O) H;rcases Z with rfl|⟨rfl,rfl⟩
     · rcases P with rfl|⟨rfl,rfl⟩
       · exact d
       rw[gT]at d |-;exact Bg D (u2 _ A H) d
     rcases P with rfl|⟨rfl,rfl⟩
     · exact Bg D (u2 _ B H.symm) d
     exact absurd (Y.symm.trans eu) O⟩
   nums:=by
     have:=g.nums;unfold cn at this |-;rw[C0]at this |-;exact⟨M.1,M.2,this.2.2⟩
   oow:=λo ho=>by
     rcases g.oow o ho with⟨s,p,d,h2⟩|d
     · obtain⟨u,r,g1,K⟩:=(n o.Addr (aK o.q)).2 (.inl ⟨s,p,d,.inr h2⟩)
       refine .inl ⟨u,r,g1,?_⟩;rcases K with K|K
       · have:=aI (F.sok _ p);omega
       exact K
     exact .inr d
   hca:=λc Q k D b J=>(n b k).2 (.inl (g.hca c Q k D b J))
   hqu:=λy hy=>(n _ _).2 (.inl (g.hqu y hy))
   hfl:=λb J=>(n _ _).2 (.inl (g.hfl b J))
   hin:=λb J=>by
     rcases List.mem_cons.1 J with rfl|J
     · exact(n _ _).2 (.inr ⟨rfl,.inl (by decide)⟩)
     exact(n _ _).2 (.inl (g.hin b J))
   nd:=by
     rw[List.cons_append];exact List.nodup_cons.2 ⟨W,g.nd⟩
   mem:=λb=>by
     show b∈a::E++holders h↔mK sp h.M b;rw[List.cons_append,List.mem_cons,g.mem b];unfold mK;rw[n];constructor
     · rintro(rfl|d|d)
       · exact .inl (.inr ⟨rfl,.inl (by decide)⟩)
       · exact .inl (.inl d)
       exact .inr d
     rintro((d|⟨d,-⟩)|d)
     · exact .inr (.inl d)
     · exact .inl d
     exact .inr (.inr d)
   job:=λX=>by
     obtain⟨j1,⟨s,p,e1⟩,⟨u,r,e2⟩⟩:=g.job X;obtain⟨R,A,g1⟩:=N s p;obtain⟨S,B,K⟩:=N u r;exact⟨j1,⟨R,A,g1.trans e1⟩,⟨S,B,K.trans e2⟩⟩}
def q7(c:aE)(k:Nat):aE:=⟨c.a.set k ((nth c.a k).take ((nth c.a k).length - 1))⟩
def MX{l:List Int}(h:0<l.length):l=l.take (l.length - 1)++[nth l (l.length - 1)]:=by
 have a:l.drop (l.length - 1)=[nth l (l.length - 1)]:=by
  rw[jl ω,show l.length - 1+1=l.length by omega,List.drop_length]
 rw[<-a,List.take_append_drop]
def bc.pop{k:Nat}(f:bc h E)(l:t<h.S.length)(p:k<(nth h.S t).a.length)(u:0<(nth (nth h.S t).a k).length)(w:b9 (q7 (nth h.S t) k)=true) :
  bc {h with S:=h.S.set t (q7 (nth h.S t) k)} (nth (nth (nth h.S t).a k) ((nth (nth h.S t).a k).length - 1)::E)/\jo h.J (nth (nth (nth h.S t).a k) ((nth (nth h.S t).a k).length - 1)) k:=by
 have q:=MX u;have n:=f.hca _ (ar l) k p (nth (nth (nth h.S t).a k) ((nth (nth h.S t).a k).length - 1)) (ar ω);refine⟨?_,n⟩;generalize D:nth (nth (nth h.S t).a k) ((nth (nth h.S t).a k).length - 1)=a at q n |-;have r:(E++holders h).Perm (a::E++holders {h with S:=h.S.set t (q7 (nth h.S t) k)}):=by
  refine List.perm_iff_count.2 λb=>?_
  have A:=iT (λc:aE=>c.a.flatten) b h.S t (q7 (nth h.S t) k) l;have B:=iT (λy:List Int=>y) b (nth h.S t).a k ((nth (nth h.S t).a k).take ((nth (nth h.S t).a k).length - 1)) p;rw[<-lF,<-lF]at B;have C:=Z0 (List.count b) q;simp only[Y6,List.count_singleton]at C;simp only[q7]at A;simp only[holders,cH,q7,Y6,List.cons_append,List.count_cons];omega
 exact {f with
   nc:=by show(h.S.set ..).length=_;rw[Z1];exact f.nc
   cach:=λc d=>by
     rcases O7 d with d|rfl
     · exact f.cach c d
     exact w
   onu:=by show ∀o∈h.O,1<=o.Id/\o.Id<=h.b - 1/\0<=o.a4/\o.a4<=(h.S.set t _).length - 1;rw[Z1];exact f.onu
   hca:=λc d j i b g=>by
     rcases O7 d with d|rfl
     · exact f.hca c d j i b g
     simp only[q7,Z1]at i;simp only[q7,bH]at g;by_cases e:k=j
     · subst e
       rw[CD ⟨rfl,i⟩]at g;exact f.hca _ (ar l) _ i b (List.mem_of_mem_take g)
     rw[CB λy=>e y.1]at g;exact f.hca _ (ar l) _ i b g
   hin:=λb g=>by
     rcases List.mem_cons.1 g with rfl|g
     · exact n.any
     exact f.hin b g
   nd:=r.nodup_iff.1 f.nd
   mem:=λb=>by rw[<-r.mem_iff];exact f.mem b}
def Ku(a:Int)(o:bo):Bool:=decide (a<=o.Addr)
def addO(h:ac)(a size t:Int):ac:={h with O:=im (Ku a) h.O ⟨h.b,a,size,t⟩,b:=h.b+1}
def Bp(a:cn h=true)(b:h.b<1000000):decide (0<=h.b5/\h.b5<=1073741823/\0<=h.b1/\h.b1<=1000000/\0<=h.c0/\h.c0<=1000/\1<=h.b+1/\h.b+1<=1000000)=true:=by
 unfold cn at a;rw[C0]at a |-;omega
def bc.addO{h:ac}{E:List Int}{a size t:Int}(c:bc h (a::E))(d:Mw h.J h.M ⟨h.b,a,size,t⟩)(p:h.b<1000000)(q:0<=t/\t<=h.S.length - 1):bc (addO h a size t) E:=by
 have i:=kV (Ku a) h.O ⟨h.b,a,size,t⟩;have n:(a::E++holders h).Perm (E++holders (Ab.addO h a size t)):=by
  have r:=i.map (·.Addr);refine List.perm_iff_count.2 λb=>?_
  have u:=r.count_eq b;simp only[X6,List.count_cons]at u;simp only[holders,cH,Ab.addO,Y6,List.cons_append,List.count_cons];omega
 have j:=c.nd;rw[List.cons_append]at j;obtain⟨k,-⟩:=List.nodup_cons.1 j;have l:∀o∈h.O,o.Addr≠a:=λo d e=>k (V3.2 (.inr (by unfold holders;simp only[V3];exact .inl (.inl (.inl (Y4.2 ⟨o,d,e⟩))))))
 exact {c with
   nums:=Bp c.nums p
   osr:=lY (f:=λo:bo=>o.Addr) (y:=⟨h.b,a,size,t⟩) c.osr l
   onu:=λo d=>by
     rcases cK.1 d with rfl|d
     · have:=c.nums
       unfold cn at this;rw[C0]at this;exact⟨by show 1<=h.b;omega,by show h.b<=h.b+1 - 1;omega,q⟩
     have:=c.onu o d;exact⟨this.1,by show o.Id<=h.b+1 - 1;omega,this.2.2⟩
   oid:=by
     show((im (Ku a) h.O ⟨h.b,a,size,t⟩).map (·.Id)).Nodup;rw[(i.map _).nodup_iff,X6];refine List.nodup_cons.2 ⟨λw=>?_,c.oid⟩;obtain⟨o,d,e⟩:=Y4.1 w;have:=(c.onu o d).2.1;simp only at e;omega
   oow:=λo g=>by
     rcases cK.1 g with rfl|g
     · exact d
     exact c.oow o g
   hin:=λb A=>c.hin b (Z5 _ A)
   nd:=n.nodup_iff.1 c.nd
   mem:=λb=>by rw[<-n.mem_iff];exact c.mem b}
def fH(xs:List aB)(n:Int):Nat->Int
 | 0=>-1
 | i+1=>if n<=(nth xs i).a8/\(fH xs n i<0\/(nth xs i).a8<(nth xs (fH xs n i).toNat).a8) then(i:Nat) else fH xs n i
def fx(xs:List aB)(n:Int):Int:=fH xs n xs.length
def ax(xs:List aB)(n:Int):List aB × Int × Bool:=
 if fx xs n<0 then(xs,-1,false)
 else if(nth xs (fx xs n).toNat).a8=n then(dele xs (fx xs n).toNat,(nth xs (fx xs n).toNat).At,true)
 else(xs.set (fx xs n).toNat ⟨(nth xs (fx xs n).toNat).At+n,(nth xs (fx xs n).toNat).a8 - n⟩,(nth xs (fx xs n).toNat).At,true)
def sA(xs:List aB)(n:Int):∀i,i<=xs.length->fH xs n i = -1\/(0<=fH xs n i/\fH xs n i<i/\n<=(nth xs (fH xs n i).toNat).a8)
 | 0,_=>.inl rfl
 | i+1,b=>by
  have a:=sA xs n i ω;unfold fH;split
  ·rename_i h;right;rw[I3];exact⟨ω,ω,h.1⟩
  rcases a with h|h
  ·exact .inl h
  exact .inr ⟨h.1,ω,h.2.2⟩
variable{xs:List aB}
def yi(h:j9 xs)(a:i<j)(b:j<xs.length):(nth xs i).At+(nth xs i).a8<(nth xs j).At:=by
 have:=List.pairwise_iff_getElem.1 h.1 i j ω b a
 rwa [<-bk (X2 (show i<xs.length by omega)),<-bk (X2 b)]at this
def yf : RH xs p↔∃j,j<xs.length/\(nth xs j).At<=p/\p<(nth xs j).At+(nth xs j).a8:=by
 unfold RH;constructor
 ·rintro⟨r,b,h⟩
  obtain⟨j,a,rfl⟩:=aO b;exact⟨j,a,h⟩
 rintro⟨j,a,h⟩
 exact⟨_,ar a,h⟩
def od{pages:Int}{n:Int}(h:bF pages xs=true)(T:1<=n)(t:(ax xs n).2.2=true) :
  bF pages (ax xs n).1=true/\0<=(ax xs n).2.1/\(ax xs n).2.1+n<=pages/\(∀p,RH (ax xs n).1 p↔RH xs p/\¬((ax xs n).2.1<=p/\p<(ax xs n).2.1+n))/\∀p,(ax xs n).2.1<=p->p<(ax xs n).2.1+n->RH xs p:=by
 obtain⟨o,u,J⟩:=gc.1 h;have K:=sA xs n xs.length (W3 _);unfold ax at t |-;change fx xs n = -1\/_ at K;split at t
 ·cases t
 rename_i w;rw[CB w];obtain⟨O,P,L⟩:=K.resolve_left ω;change 0<=fx xs n at O;change fx xs n<xs.length at P;change n<=(nth xs (fx xs n).toNat).a8 at L;generalize Q:(fx xs n).toNat=b at L |-;have g:b<xs.length:=ω
 have M:=u _ (ar g);have q:∀j,j<xs.length->j≠b->(nth xs j).At+(nth xs j).a8<(nth xs b).At\/(nth xs b).At+(nth xs b).a8<(nth xs j).At:=λj a k=>by
  rcases Nat.lt_or_gt_of_ne k with A|B
  ·exact .inl (yi o A g)
  exact .inr (yi o B a)
 split
 ·rename_i R
  have C:(dele xs b).Sublist xs:=eY ..;refine⟨gc.2 ⟨⟨o.1.sublist C,λy l=>o.2 y (C.subset l)⟩,λy l=>u y (C.subset l),J⟩,M.1,by show(nth xs b).At+n<=pages;omega,λp=>?_,λp D E=>yf.2 ⟨b,g,D,by show p<_;simp only at E;omega⟩⟩;simp only;rw[yf (xs:=xs)];constructor
  ·rintro⟨r,F,f,d⟩
   obtain⟨j,a,k,rfl⟩:=di.1 F;refine⟨⟨j,a,f,d⟩,λe=>?_⟩;have:=q j a k;omega
  rintro⟨⟨j,a,f,d⟩,G⟩
  exact⟨_,di.2 ⟨j,a,λe=>by subst e;omega,rfl⟩,f,d⟩
 rename_i R;have c:∀j,nth (xs.set b ⟨(nth xs b).At+n,(nth xs b).a8 - n⟩) j=if j=b then⟨(nth xs b).At+n,(nth xs b).a8 - n⟩ else nth xs j:=λj=>by
  rw[bH];by_cases e:j=b
  ·rw[CD ⟨e.symm,ω⟩,CD e]
  rw[CB λz=>e z.1.symm,CB e]
 refine⟨gc.2 ⟨⟨?_,λy l=>?_⟩,λy l=>?_,J⟩,M.1,by show(nth xs b).At+n<=pages;omega,λp=>?_,λp D E=>yf.2 ⟨b,g,D,by simp only at E;omega⟩⟩
 ·rw[List.pairwise_iff_getElem]
  intro i j N a H;rw[<-bk (X2 N),<-bk (X2 a),c,c];simp only[Z1]at N a;have S:=yi o H a;split
  ·rename_i e;subst e
   rw[CB ω];simp only;omega
  split
  ·rename_i e;subst e
   simp only;omega
  exact S
 ·rcases ef l with rfl|⟨j,a,-,rfl⟩
  ·simp only;omega
  exact o.2 _ (ar a)
 ·rcases ef l with rfl|⟨j,a,-,rfl⟩
  ·simp only;omega
  exact u _ (ar a)
 simp only;rw[yf,yf,Z1];constructor
 ·rintro⟨j,a,f,d⟩
  rw[c]at f d;split at f
  ·rename_i e;subst e
   rw[CD rfl]at d;simp only at f d;exact⟨⟨j,a,ω,ω⟩,ω⟩
  rename_i e;rw[CB e]at d;have:=q j a e;exact⟨⟨j,a,f,d⟩,ω⟩
 rintro⟨⟨j,a,f,d⟩,G⟩
 refine⟨j,a,?_⟩;rw[c];split
 ·rename_i e;subst e
  simp only;omega
 exact⟨f,d⟩
def oB(k:ah):Int:=cU (λu=>!u) k.F.W.a5
def rP(k:ah)(p:Int)(f:Nat):ah:={k with F:=⟨⟨k.F.W.T,k.F.W.a5.set f true⟩,⟨k.F.R.K.set p.toNat ⟨2,(f:Nat)⟩⟩⟩}
def newK(k:ah)(p:Int):ah × Bool:=if refd k=true\/oB k<0 then(cg k,false) else(rP (cg k) p (oB k).toNat,true)
def Gx(h:¬oB k<0):(oB k).toNat<k.F.W.a5.length/\nth k.F.W.a5 (oB k).toNat=false:=by
 unfold oB at h |-;rcases lZ (λu=>!u) k.F.W.a5 with e|⟨n,a,e,b⟩
 ·omega
 rw[e,I3];exact⟨a,by simpa using b⟩
def Bi(h:aF k=true)(b:f<k.F.W.a5.length)(c:nth k.F.W.a5 f=false)(q:Nat)(d:q<k.F.R.K.length)(g:(nth k.F.R.K q).e≠0):(nth k.F.R.K q).j≠(f:Nat):=by
 obtain⟨j,l,n,i,o⟩:=aG.1 h;intro e;have a:=i f b;rw[c]at a;have:=of_decide_eq_false a.symm;exact this (dZ.2 ⟨q,d,g,e⟩)
def Q7(h:aF k=true)(L:0<=p/\p<k.F.R.K.length)(n:(nth k.F.R.K p.toNat).e=0)(o:f<k.F.W.a5.length)(r:nth k.F.W.a5 f=false):aF (rP k p f)=true:=by
 have t:=Bi h o r;obtain⟨u,w,y,A,B⟩:=aG.1 h;obtain⟨C,D,E,F⟩:=bf.1 w;obtain⟨G,H,J⟩:=br.1 y;have a:∀q,nth (k.F.R.K.set p.toNat ⟨2,(f:Nat)⟩) q=if p.toNat=q then⟨2,(f:Nat)⟩ else nth k.F.R.K q:=λq=>by
  rw[bH];by_cases i:p.toNat=q
  ·rw[CD ⟨i,ω⟩,CD i]
  rw[CB (λe=>i e.1),CB i]
 refine aG.2 ⟨u,bf.2 ⟨C,D,by simp only[rP,Z1];exact E,λj b=>?_⟩,br.2 ⟨λj b=>?_,?_,?_⟩,λj b=>?_,B⟩
 ·replace b:j<k.F.W.T.length:=b
  show gX (nth k.F.W.T j) (nth (k.F.W.a5.set f true) j)=true;have d:=F j b;rw[bH];split
  ·unfold gX at d |-
   simp only[I0,C0,O4]at d |-;refine⟨d.1,λv K=>?_⟩;have:=d.2 v K;unfold iJ at this |-;simp only[I0]at this;rw[this.1];rfl
  exact d
 ·simp only[rP,Z1]at b |-
  rw[a];split
  ·unfold kH;rw[C0];simp only;omega
  exact G j b
 ·simp only[rP,Z1];exact H
 ·simp only[rP,Z1];exact J
 simp only[rP,Z1]at b;show nth (k.F.W.a5.set f true) j=_;rw[bH];by_cases e:f=j
 ·subst e
  rw[CD ⟨rfl,b⟩];refine(O0 (dZ.2 ⟨p.toNat,?_,?_,?_⟩)).symm
  ·simp only[rP,Z1];omega
  ·simp only[rP,a,CD];decide
  simp only[rP,a,CD]
 rw[CB λz=>e z.1,A j b];refine decide_eq_decide.2 ?_;rw[dZ,dZ];simp only[rP,Z1,a];constructor
 ·rintro⟨q,l,g,c⟩
  refine⟨q,l,?_⟩;rw[CB λz=>g (by rw[<-z];exact n)];exact⟨g,c⟩
 rintro⟨q,l,g,c⟩
 by_cases z:p.toNat=q
 ·rw[CD z]at c
  simp only at c;omega
 rw[CB z]at g c;exact⟨q,l,g,c⟩
structure wb(k:ah)(p:Int)(r:ah × Bool):Prop where
 ker:aF r.1=true
 len:r.1.F.R.K.length=k.F.R.K.length
 calls:r.1.Calls=k.Calls+1
 ref:r.1.a0=k.a0
 cells:r.1.F.W.T=k.F.W.T
 no:r.2=false->r.1=cg k
 yes:r.2=true->∃f:Nat,f<k.F.W.a5.length/\nth k.F.W.a5 f=false/\(∀q:Nat,nth r.1.F.R.K q=if(q:Int)=p then⟨2,(f:Nat)⟩ else nth k.F.R.K q)/\∀q,q<k.F.R.K.length->(nth k.F.R.K q).e≠0->(nth k.F.R.K q).j≠(f:Nat)
def wb.of(h:aF k=true)(c:k.Calls≠100000)(f:0<=p/\p<k.F.R.K.length)(g:(nth k.F.R.K p.toNat).e=0):wb k p (newK k p):=by
 unfold newK;split
 ·exact⟨mN h c,rfl,rfl,rfl,rfl,λ_=>rfl,λe=>by cases e⟩
 rename_i d;rw[not_or]at d;obtain⟨a,b⟩:=Gx d.2;refine⟨Q7 (mN h c) f g a b,by simp[rP,cg],rfl,rfl,rfl,λe=>(by cases e),λ_=>⟨_,a,b,λq=>?_,λq=>Bi h a b q⟩⟩;simp only[rP,cg,bH];by_cases e:(q:Int)=p
 ·rw[CD ⟨ω,ω⟩,CD e]
 rw[CB λz=>e ω,CB e]
def newsK(k:ah)(p:Int):Nat->ah × Nat
 | 0=>(k,0)
 | i+1=>if(newsK k p i).2=i then((newK (newsK k p i).1 (p+(i:Nat))).1,if(newK (newsK k p i).1 (p+(i:Nat))).2=true then i+1 else i) else newsK k p i
structure jm(k:ah)(p:Int)(i:Nat)(r:ah × Nat):Prop where
 ker:aF r.1=true
 len:r.1.F.R.K.length=k.F.R.K.length
 calls:k.Calls<=r.1.Calls/\r.1.Calls<=k.Calls+i
 ref:r.1.a0=k.a0
 cells:r.1.F.W.T=k.F.W.T
 le:r.2<=i
 out:∀q:Nat,¬(p<=q/\(q:Int)<p+r.2)->nth r.1.F.R.K q=nth k.F.R.K q
 new:∀q:Nat,p<=q->(q:Int)<p+r.2->(nth r.1.F.R.K q).e=2/\∀u:Nat,u<k.F.R.K.length->(nth r.1.F.R.K u).e≠0->(nth r.1.F.R.K u).j=(nth r.1.F.R.K q).j->u=q
def jm.of{k:ah}{p:Int}{n:Nat}(h:aF k=true)(G:k.Calls+n<=100000)(H:0<=p/\p+n<=k.F.R.K.length)(C:∀q:Nat,p<=q->(q:Int)<p+n->(nth k.F.R.K q).e=0):∀i,i<=n->jm k p i (newsK k p i)
 | 0,_=>⟨h,rfl,⟨V5 _,by show k.Calls<=k.Calls+((0:Nat):Int);omega⟩,rfl,rfl,W3 _,λ_ _=>rfl,λq o d=>by simp only[newsK]at d;omega⟩
 | i+1,L=>by
  have a:=jm.of h G H C i ω;unfold newsK;split
  case isFalse=>exact⟨a.ker,a.len,⟨a.calls.1,by have:=a.calls.2;omega⟩,a.ref,a.cells,by have:=a.le;omega,a.out,a.new⟩
  rename_i t;generalize newsK k p i=r at a t |-;have J:=a.calls;have y:(nth r.1.F.R.K (p+(i:Nat)).toNat).e=0:=by
   rw[a.out _ ω];exact C _ ω ω
  have s:=wb.of (p:=p+(i:Nat)) a.ker ω ⟨ω,by rw[a.len];omega⟩ y;generalize newK r.1 (p+(i:Nat))=w at s |-;refine⟨s.ker,s.len.trans a.len,⟨by simp only[s.calls];omega,by simp only[s.calls];omega⟩,s.ref.trans a.ref,s.cells.trans a.cells,by simp only;split<;>omega,λq j=>?_,λq o d=>?_⟩
  ·simp only at j |-
   cases e:w.2 with
   | false=>
    rw[s.no e];rw[e]at j;exact a.out q (by rw[t];simpa using j)
   | true=>
    obtain⟨f,-,-,g,-⟩:=s.yes e;rw[e,CD rfl]at j;rw[g,CB ω];exact a.out q ω
  simp only at d |-;cases e:w.2 with
  | false=>
   rw[s.no e];rw[e]at d;exact a.new q o (by rw[t];simpa using d)
  | true=>
   obtain⟨f,-,-,g,D⟩:=s.yes e;rw[e,CD rfl]at d;have A:q<k.F.R.K.length:=ω
   rw[g];by_cases E:(q:Int)=p+(i:Nat)
   ·rw[CD E]
    refine⟨rfl,λu B c b=>?_⟩;rw[g]at c b;by_cases l:(u:Int)=p+(i:Nat)
    ·omega
    rw[CB l]at c b;exact absurd b (D u (by rw[a.len];exact B) c)
   rw[CB E];obtain⟨F,K⟩:=a.new q o ω;refine⟨F,λu B c b=>?_⟩;rw[g]at c b;by_cases l:(u:Int)=p+(i:Nat)
   ·rw[CD l]at b
    exact absurd b.symm (D q (by rw[a.len];exact A) (by rw[F];decide))
   rw[CB l]at c b;exact K u B c b
def jm.undo{r:ah × Nat}(s:jm k p i r)(h:aF k=true)(d:0<=p/\p+i<=k.F.R.K.length)(e:∀q:Nat,p<=q->(q:Int)<p+i->(nth k.F.R.K q).e=0):aF (unmN r.1 p r.2)=true/\tEq k.F.R (unmN r.1 p r.2).F.R:=by
 have f:=s.le;have g:=mI s.ker d.1 r.2 (by rw[s.len];omega);refine⟨gV s.ker p r.2,((eP r.1 p r.2).1).trans s.len,λq=>?_⟩;rw[g];split
 ·rename_i a
  have c:=e q a.1 ω;obtain⟨-,-,j,-⟩:=aG.1 h;have b:=(br.1 j).1 q ω;unfold kH at b;rw[C0]at b;exact⟨⟨λz=>absurd rfl z,λz=>absurd c z⟩,(b.2.2.1 c).symm⟩
 rename_i a;rw[s.out q a];exact⟨Iff.rfl,rfl⟩
def Pg.add{t h:aL}{O r:List aB}{b:List aA}{d:List aC}(i:Pg t O sp la)(E:h.K.length=t.K.length)(S:p+n<=t.K.length)(hp:0<=p)(j:∀q:Nat,¬(p<=q/\(q:Int)<p+n)->nth h.K q=nth t.K q)(a:∀q:Nat,p<=q->(q:Int)<p+n->(nth h.K q).e=2/\∀u:Nat,u<t.K.length->(nth h.K u).e≠0->(nth h.K u).j=(nth h.K q).j->u=q)(J:∀q,RH r q↔RH O q/\¬(p<=q/\q<p+n))(F:∀q,q∈pgs b d↔q∈pgs sp la\/(p<=q/\q<p+n))(w:∀s∈b,0<=s.Q/\(s∈sp\/(p<=s.Q/\s.Q<p+n)))(K:∀l∈d,l∈la\/∀q∈lpgs l l.a2.toNat,p<=q/\q<p+n):Pg h r b d:=by
 have f:∀q:Nat,q<t.K.length->((nth h.K q).e≠0↔(q:Int)∈pgs b d):=λq c=>by
  rw[F];by_cases e:p<=q/\(q:Int)<p+n
  ·have:=(a q e.1 e.2).1
   exact⟨λ_=>.inr e,λ_=>by rw[this];decide⟩
  rw[j q e,i.own q c];exact⟨.inl,λz=>z.resolve_right e⟩
 refine⟨λl A q c u k L G=>?_,λq c=>?_,λq c=>f q (by rw[<-E];exact c),λq c=>?_,λs P u k M H=>?_⟩
 ·rw[E]at k
  have B:=gi (sp:=b) A c;have C:q<t.K.length:=by
   rcases(F _).1 B with g|g
   ·have:=i.bnd _ g;omega
   omega
  by_cases e:p<=q/\(q:Int)<p+n
  ·exact(a q e.1 e.2).2 u k L G
  have N:=(K l A).resolve_right λg=>e (g _ c)
  by_cases o:p<=u/\(u:Int)<p+n
  ·exact((a u o.1 o.2).2 q C ((f q C).2 B) G.symm).symm
  rw[j q e,j u o]at G;rw[j u o]at L;exact i.one l N q c u k L G
 ·rw[E]
  rcases(F _).1 c with g|g
  ·exact i.bnd _ g
  omega
 ·rw[E]at c
  rw[J];by_cases e:p<=q/\(q:Int)<p+n
  ·have:=(a q e.1 e.2).1
   exact⟨λ_ z=>z.2 e,λ_=>by rw[this];decide⟩
  rw[j q e,i.fre q c];exact⟨λz y=>z y.1,λz y=>z ⟨y,e⟩⟩
 obtain⟨T,U⟩:=w s P;obtain⟨V,W⟩:=w u k;have D:∀y∈b,0<=y.Q->y.Q.toNat<t.K.length/\((y.Q.toNat:Nat):Int)=y.Q/\(nth h.K y.Q.toNat).e≠0:=λy X Y=>by
  have g:=d7 (la:=d) X;have Q:y.Q.toNat<t.K.length:=by
   rcases(F _).1 g with R|R
   ·have:=i.bnd _ R;omega
   omega
  exact⟨Q,ω,(f _ Q).2 (by rw[show((y.Q.toNat:Nat):Int)=y.Q by omega];exact g)⟩
 obtain⟨Z,sc,sd⟩:=D s P T;obtain⟨ub,uc,ud⟩:=D u k V;by_cases es:p<=s.Q/\s.Q<p+n
 ·have:=(a s.Q.toNat ω ω).2 _ ub ud H.symm
  omega
 by_cases o:p<=u.Q/\u.Q<p+n
 ·have:=(a u.Q.toNat ω ω).2 _ Z sd H
  omega
 rw[j _ ω,j _ ω]at H;exact i.mesh s (U.resolve_right es) u (W.resolve_right o) M H
def Fc{a:List aA}{b:List aC}(c:a.Perm sp)(d:b.Perm la):(pgs a b).Perm (pgs sp la):=by
 unfold pgs;exact(c.map _).append (d.flatMap_right _)
def DJ(p:Int)(s:aA):Bool:=decide (p<=s.Q)
def PW(p:Int)(l:aC):Bool:=decide (p<=l.Q)
def addS(h:ac)(k:ah)(a:List aB)(p c:Int):ac:={h with G:=k,o:=a,J:=im (DJ p) h.J ⟨p,c,0⟩}
def iu(a:bc h E){n:Int}(j:1<=n)(k:(ax h.o n).2.2=true):0<=(ax h.o n).2.1/\(ax h.o n).2.1+n<=(tbl h).K.length/\(∀q:Nat,(ax h.o n).2.1<=q->(q:Int)<(ax h.o n).2.1+n->(nth (tbl h).K q).e=0)/\∀q:Int,(ax h.o n).2.1<=q->q<(ax h.o n).2.1+n->q∉pgs h.J h.M:=by
 obtain⟨r,l,f,t,o⟩:=od a.rng j k;have g:∀q:Nat,(ax h.o n).2.1<=q->(q:Int)<(ax h.o n).2.1+n->(nth (tbl h).K q).e=0:=λq b c=>by
  have d:q<(tbl h).K.length:=by
   have:(ax h.o n).2.1+n<=((tbl h).K.length:Nat):=f;omega
  by_cases e:(nth (tbl h).K q).e=0
  ·exact e
  exact absurd (o q b c) ((a.pg.fre q d).1 e)
 refine⟨l,f,g,λq b c i=>?_⟩;have u:=a.pg.bnd q i;obtain⟨m,rfl⟩:=O3 (show 0<=q by omega);have p:=(a.pg.own m ω).2 i;exact p (g m b c)
def bc.addS{h:ac}{E:List Int}{c:Int}(a:bc h E)(H:0<=c/\c<=3)(F:(ax h.o 1).2.2=true){k:ah}(s:wb h.G (ax h.o 1).2.1 (k,true)):bc (addS h k (ax h.o 1).1 (ax h.o 1).2.1 c) E:=by
 obtain⟨U,G,r3,J,r5⟩:=od a.rng (V5 _) F;obtain⟨-,V,u3,W⟩:=iu a (V5 _) F;generalize (ax h.o 1).2.1=p at G r3 J r5 V u3 W s |-;generalize (ax h.o 1).1=fr at U J |-;obtain⟨f,f1,f2,K,f4⟩:=s.yes rfl;have M:=(br.1 (aG.1 a.ker).2.2.1).2.2;change (tbl h).K.length<=32 at M;have X:=a.L;have N:=kV (DJ p) h.J ⟨p,c,0⟩;have O:=Fc N (List.Perm.refl h.M);have w:(pgs (im (DJ p) h.J ⟨p,c,0⟩) h.M).Perm (p::pgs h.J h.M):=O;have B:p∉pgs h.J h.M:=W p (V5 _) ω;have P:∀z∈h.J,z.Q≠p:=λz g e=>B (by rw[<-e];exact d7 g)
 have i:∀b d,jo (im (DJ p) h.J ⟨p,c,0⟩) b d↔jo h.J b d:=λb d=>by
  constructor
  ·rintro⟨s,C,A,Q⟩
   rcases cK.1 C with rfl|C
   ·exact absurd A (ww rfl b)
   exact⟨s,C,A,Q⟩
  rintro⟨s,C,A⟩
  exact⟨s,cK.2 (.inr C),A⟩
 exact {a with
   ker:=s.ker
   rng:=by show bF ((k.F.R.K.length:Nat):Int) fr=true;rw[s.len];exact U
   lay:=by
     obtain⟨l1,l2,l3⟩:=ew a.lay;unfold bt;simp only[I0,C0];refine⟨⟨O4.2 λz g=>?_,l2⟩,w.nodup_iff.2 (List.nodup_cons.2 ⟨B,l3⟩)⟩;rcases cK.1 g with rfl|g
     · have R:0<=lim c:=by
         have:=(gm H).1;obtain rfl|rfl|rfl|rfl:c=0\/c=1\/c=2\/c=3:=ω
         all_goals decide
       exact O0 ⟨G,by show p<=31;omega,H.1,H.2,V5 _,R⟩
     exact X.sok z g
   srs:=lY (f:=λz:aA=>z.Q) (y:=⟨p,c,0⟩) a.srs P
   pg:=by
     refine a.pg.add (p:=p) (n:=1) s.len (by exact V) G (λq Y=>?_) (λq q1 q2=>?_) (λq=>J q) (λq=>?_) (λz g=>?_) (λl hl=>.inl hl)
     · exact(K q).trans (CB ω)
     · have Y:(q:Int)=p:=ω
       have Z:nth k.F.R.K q = ⟨2,(f:Nat)⟩:=(K q).trans (CD Y);refine⟨Z0 bm.e Z,λu S t r=>?_⟩;have fu:nth k.F.R.K u=if(u:Int)=p then⟨2,(f:Nat)⟩ else nth h.G.F.R.K u:=K u
       change (nth k.F.R.K u).e≠0 at t;change (nth k.F.R.K u).j=(nth k.F.R.K q).j at r;rw[fu]at t r;rw[Z]at r;by_cases eu:(u:Int)=p
       · omega
       rw[CB eu]at t r;exact absurd r (f4 u S t)
     · show q∈pgs (im (DJ p) h.J ⟨p,c,0⟩) h.M↔_
       rw[w.mem_iff,List.mem_cons];constructor
       · rintro(e|e)
         · exact .inr ⟨ω,ω⟩
         exact .inl e
       rintro(e|e)
       · exact .inr e
       exact .inl ω
     rcases cK.1 g with rfl|g
     · exact⟨G,.inr ⟨V5 _,by show p<p+((1:Nat):Int);omega⟩⟩
     exact⟨(aI (X.sok z g)).1,.inl g⟩
   oow:=λo F=>by
     rcases a.oow o F with⟨z,g,A,Q⟩|A
     · exact .inl ⟨z,cK.2 (.inr g),A,Q⟩
     exact .inr A
   hca:=λd hd j hj b D=>(i b j).2 (a.hca d hd j hj b D)
   hqu:=λy T=>(i _ _).2 (a.hqu y T)
   hfl:=λb D=>(i _ _).2 (a.hfl b D)
   hin:=λb D=>(i _ _).2 (a.hin b D)
   mem:=λb=>(a.mem b).trans (by
     show mK h.J h.M b↔mK (im (DJ p) h.J ⟨p,c,0⟩) h.M b;unfold mK;rw[i])
   job:=λhm=>by
     obtain⟨j1,⟨y,T,e1⟩,⟨u,S,e2⟩⟩:=a.job hm;exact⟨j1,⟨y,cK.2 (.inr T),e1⟩,⟨u,cK.2 (.inr S),e2⟩⟩}
def addL(h:ac)(k:ah)(a:List aB)(p n size t:Int):ac:={h with G:=k,o:=a,M:=im (PW p) h.M ⟨p,n,size⟩,O:=im (Ku (16*p)) h.O ⟨h.b,16*p,size,t⟩,b:=h.b+1}
def bc.addL{h:ac}{E:List Int}{size t:Int}{n:Nat}(a:bc h E)(g:9<=size/\size<=1000)(J:(n:Int)=(size+15) / 16)(i:(ax h.o n).2.2=true){k:ah}(s:jm h.G (ax h.o n).2.1 n (k,n))(hn:h.b<1000000)(ht:0<=t/\t<=h.S.length - 1) :
  bc (addL h k (ax h.o n).1 (ax h.o n).2.1 n size t) E:=by
 have B:(1:Int)<=n:=ω
 obtain⟨V,K,r3,M,r5⟩:=od a.rng B i;obtain⟨-,W,u3,H⟩:=iu a B i;generalize (ax h.o n).2.1=p at K r3 M r5 W u3 H s |-;generalize (ax h.o n).1=fr at V M |-;have N:=(br.1 (aG.1 a.ker).2.2.1).2.2;change (tbl h).K.length<=32 at N;have O:=a.L;have P:=kV (PW p) h.M ⟨p,n,size⟩;have C:=kV (Ku (16*p)) h.O ⟨h.b,16*p,size,t⟩;have Q:lpgs ⟨p,n,size⟩ ((n:Nat):Int).toNat=lpgs ⟨p,n,size⟩ n:=by rw[I3]
 have D:(pgs h.J (im (PW p) h.M ⟨p,n,size⟩)).Perm (lpgs ⟨p,n,size⟩ n++pgs h.J h.M):=by
  refine(Fc (List.Perm.refl h.J) P).trans ?_;unfold pgs;rw[V7];simp only[Q];rw[<-O6,<-O6];exact List.perm_append_comm.append_right _
 have u:∀q,q∈lpgs ⟨p,n,size⟩ n↔p<=q/\q<p+n:=λq=>by
  rw[dv];constructor
  ·rintro⟨j,hj,rfl⟩;exact⟨by show p<=p+(j:Int);omega,by show p+(j:Int)<_;omega⟩
  rintro⟨X,Y⟩;exact⟨(q - p).toNat,ω,by show q=p+_;omega⟩
 have R:(lpgs ⟨p,n,size⟩ n).Nodup:=by
  unfold lpgs List.Nodup;rw[List.pairwise_map];exact List.nodup_range.imp λr e=>r (by simp only at e;omega)
 have r:∀z∈h.M,z.Q≠p:=λz g e=>H p (V5 _) ω (by rw[<-e];exact gi g (dv.2 ⟨0,by have:=aS (O.lok z g);omega,ω⟩))
 have S:¬mK h.J h.M (16*p):=by
  rintro(⟨z,g,d,-⟩|⟨l,c,e⟩)
  ·exact H p (V5 _) ω (by rw[show p=z.Q by have a1:=d.1;have a2:=d.2.1;omega];exact d7 g)
  exact r l c ω
 have F:(16*p)∉E++holders h:=λT=>S ((a.mem _).1 T)
 have U:∀o∈h.O,o.Addr≠16*p:=λo i e=>F (V3.2 (.inr (by unfold holders;simp only[V3];exact .inl (.inl (.inl (Y4.2 ⟨o,i,e⟩))))))
 have Z:(E++holders (Ab.addL h k fr p n size t)).Perm ((16*p)::(E++holders h)):=by
  have h0:=C.map (·.Addr);refine List.perm_iff_count.2 λb=>?_
  have d:=h0.count_eq b;simp only[X6,List.count_cons]at d;simp only[holders,cH,Ab.addL,Y6,List.count_cons];omega
 exact {a with
   ker:=s.ker
   rng:=by show bF ((k.F.R.K.length:Nat):Int) fr=true;rw[s.len];exact V
   lay:=by
     obtain⟨l1,l2,l3⟩:=ew a.lay;unfold bt;simp only[I0,C0];refine⟨⟨l1,O4.2 λz w=>?_⟩,D.nodup_iff.2 (List.nodup_append.2 ⟨R,l3,λq G b hb e=>?_⟩)⟩
     · rcases cK.1 w with rfl|w
       · exact O0 ⟨g.1,g.2,J,K,by show p<=32 - (n:Int);omega⟩
       exact O.lok z w
     subst e;have:=(u q).1 G;exact H q this.1 this.2 hb
   srl:=lY (f:=λz:aC=>z.Q) (y:=⟨p,n,size⟩) a.srl r
   pg:=by
     refine a.pg.add (p:=p) (n:=n) s.len (by exact W) K (λq G=>s.out q G) (λq X Y=>s.new q X Y) (λq=>M q) (λq=>?_) (λz g=>⟨(aI (O.sok z g)).1,.inl g⟩) (λl c=>?_)
     · show q∈pgs h.J (im (PW p) h.M ⟨p,n,size⟩)↔_
       rw[D.mem_iff,V3,u];exact Or.comm
     rcases cK.1 c with rfl|c
     · exact .inr λq G=>(u q).1 (by simpa using G)
     exact .inl c
   nums:=Bp a.nums hn
   osr:=lY (f:=λo:bo=>o.Addr) (y:=⟨h.b,16*p,size,t⟩) a.osr U
   onu:=λo i=>by
     rcases cK.1 i with rfl|i
     · have:=a.nums
       unfold cn at this;rw[C0]at this;exact⟨by show 1<=h.b;omega,by show h.b<=h.b+1 - 1;omega,ht⟩
     have:=a.onu o i;exact⟨this.1,by show o.Id<=h.b+1 - 1;omega,this.2.2⟩
   oid:=by
     show((im (Ku (16*p)) h.O ⟨h.b,16*p,size,t⟩).map (·.Id)).Nodup;rw[(C.map _).nodup_iff,X6];refine List.nodup_cons.2 ⟨λT=>?_,a.oid⟩;obtain⟨o,i,e⟩:=Y4.1 T;have:=(a.onu o i).2.1;simp only at e;omega
   oow:=λo A=>by
     rcases cK.1 A with rfl|A
     · exact .inr ⟨_,cK.2 (.inl rfl),rfl,rfl⟩
     rcases a.oow o A with d|⟨l,c,d⟩
     · exact .inl d
     exact .inr ⟨l,cK.2 (.inr c),d⟩
   nd:=Z.nodup_iff.2 (List.nodup_cons.2 ⟨F,a.nd⟩)
   mem:=λb=>by
     rw[Z.mem_iff,List.mem_cons,a.mem b];show _↔mK h.J (im (PW p) h.M ⟨p,n,size⟩) b;unfold mK;constructor
     · rintro(rfl|d|⟨l,c,e⟩)
       · exact .inr ⟨_,cK.2 (.inl rfl),rfl⟩
       · exact .inl d
       exact .inr ⟨l,cK.2 (.inr c),e⟩
     rintro(d|⟨l,c,e⟩)
     · exact .inr (.inl d)
     rcases cK.1 c with rfl|c
     · exact .inl e
     exact .inr (.inr ⟨l,c,e⟩)}
structure JK(h h':ac):Prop where
 job:h'.Y=h.Y
 msh:h'.u=h.u
 sp:∀s∈h.J,fD h s.Q=true->∃s'∈h'.J,s'.Q=s.Q/\∀u,meshable s u=true->meshable s' u=true
 ent:∀q:Nat,(nth (tbl h').K q).e≠0->((nth (tbl h).K q).e≠0/\(nth (tbl h').K q).j=(nth (tbl h).K q).j)\/∀u:Nat,(nth (tbl h').K u).e≠0->(nth (tbl h').K u).j=(nth (tbl h').K q).j->u=q
def JK.refl(h:ac):JK h h:=⟨rfl,rfl,λs a _=>⟨s,a,rfl,λ_ z=>z⟩,λ_ b=>.inl ⟨b,rfl⟩⟩
variable{h':ac}
def JK.pg(k:JK h h')(p:Int):fD h' p=fD h p:=by unfold fD;rw[k.job,k.msh]
def JK.trans{h1 g:ac}(a:JK h h1)(b:JK h1 g):JK h g:=by
 refine⟨b.job.trans a.job,b.msh.trans a.msh,λs o i=>?_,λq j=>?_⟩
 ·obtain⟨p,r,k,t⟩:=a.sp s o i
  obtain⟨w,y,A,B⟩:=b.sp p r (by rw[a.pg,k];exact i);exact⟨w,y,A.trans k,λu c=>B u (t u c)⟩
 rcases b.ent q j with⟨d,l⟩|d
 ·rcases a.ent q d with⟨e,C⟩|e
  ·exact .inl ⟨e,l.trans C⟩
  refine .inr λu c n=>?_
  rcases b.ent u c with⟨f,D⟩|f
  ·exact e u f (by rw[<-D,<-l];exact n)
  exact(f q j n.symm).symm
 exact .inr d
def oN.keep(f:0<=p)(d:(nth (tbl h').K p.toNat).e≠0)(g:oN (tbl h) p)(k:JK h h'):oN (tbl h') p:=λq e c=>by
 rcases k.ent p.toNat d with⟨n,i⟩|a
 ·rcases k.ent q e with⟨j,l⟩|b
  ·exact g q j (by rw[<-l,c,i])
  have:=b p.toNat d c.symm;omega
 have:=a q e c;omega
def bc.mapped(a:bc h E)(b:s∈h.J):0<=s.Q/\s.Q<(tbl h).K.length/\(nth (tbl h).K s.Q.toNat).e≠0:=by
 have c:=(aI (a.L.sok s b)).1;have d:=a.pg.bnd _ (d7 (la:=h.M) b);refine⟨c,d,(a.pg.own s.Q.toNat ω).2 ?_⟩;rw[show((s.Q.toNat:Nat):Int)=s.Q by omega];exact d7 b
def JI.keep(l:JI h)(p:bc h' E)(k:JK h h'):JI h':=by
 have d:h.u=true->∃a∈h'.J,∃b∈h'.J,a.Q=h.Y.X.a3/\b.Q=h.Y.X.a1/\meshable a b=true:=λc=>by
  obtain⟨a,n,b,o,f,g,e⟩:=l.sp c;obtain⟨q,t,u,w⟩:=k.sp a n (by unfold fD;rw[c,f];simp);obtain⟨y,A,B,C⟩:=k.sp b o (by unfold fD;rw[c,g];simp);refine⟨q,t,y,A,u.trans f,B.trans g,?_⟩;have r:=w b e;rw[gT]at r |-;exact C q r
 refine⟨λc=>?_,λc=>?_,λc=>?_,λc=>?_⟩
 ·rw[k.msh]at c;rw[k.job];exact l.ph c
 ·rw[k.msh]at c;rw[k.job];exact d c
 ·rw[k.msh]at c
  obtain⟨a,n,b,o,f,g,e⟩:=d c;obtain⟨i,D,j⟩:=p.mapped n;rw[k.job];rw[f]at i j;exact(l.sk c).keep i j k
 rw[k.msh]at c;obtain⟨a,n,b,o,f,g,e⟩:=d c;obtain⟨i,D,j⟩:=p.mapped o;rw[k.job];rw[g]at i j;exact(l.sm c).keep i j k
def JK.less(h1:h'.Y=h.Y)(c:h'.u=h.u)(d:h'.J=h.J)(b:∀q:Nat,(nth (tbl h').K q).e≠0->nth (tbl h').K q=nth (tbl h).K q):JK h h':=
 ⟨h1,c,λs e _=>⟨s,by rw[d];exact e,rfl,λ_ z=>z⟩,λq a=>.inl ⟨by rw[<-b q a];exact a,by rw[b q a]⟩⟩
def JK.eq(h1:h'.Y=h.Y)(a:h'.u=h.u)(b:h'.J=h.J)(c:tbl h'=tbl h):JK h h':=.less h1 a b λq _=>by rw[c]
def JK.clrS{h:ac}{E:List Int}{a:Int}{i:Nat}(f:bc h E)(c:i<h.J.length)(d:eK (nth h.J i) a):JK h (clrS h i a):=by
 refine⟨rfl,rfl,λs g _=>?_,λq k=>.inl ⟨k,rfl⟩⟩;obtain⟨j,l,rfl⟩:=aO g;by_cases e:j=i
 ·subst e
  have b:=f.L.sok _ (ar c);exact⟨_,iP _ c,rfl,λu n=>B5 b (pV b ⟨d.1,d.2.1⟩) n⟩
 exact⟨_,jO _ l e,rfl,λ_ z=>z⟩
def JK.giveP{h:ac}{E:List Int}{i:Nat}(d:bc h E)(f:i<h.J.length)(c:fD h (nth h.J i).Q=false):JK h (giveP h i):=by
 obtain⟨g,k,-⟩:=d.mapped (ar f);refine⟨rfl,rfl,λs l a=>?_,λq b=>.inl ?_⟩
 ·obtain⟨j,n,rfl⟩:=aO l
  exact⟨_,di.2 ⟨j,n,λe=>(by subst e;rw[c]at a;cases a),rfl⟩,rfl,λ_ z=>z⟩
 have o:=rQ d.ker (p:=(nth h.J i).Q) ⟨g,k⟩ q;change (nth (cN h.G (nth h.J i).Q).F.R.K q).e≠0 at b;show(nth h.G.F.R.K q).e≠0/\(nth (cN h.G (nth h.J i).Q).F.R.K q).j=(nth h.G.F.R.K q).j;rw[o]at b |-;split at b
 ·exact absurd rfl b
 rename_i e;rw[CB e];exact⟨b,rfl⟩
def JK.freeS{h:ac}{E:List Int}{a:Int}{i:Nat}(c:bc h (a::E))(b:i<h.J.length)(d:eK (nth h.J i) a):JK h (freeS h i a):=by
 have g:=c.give b d;have f:=JK.clrS c b d;unfold Ab.freeS;split
 ·rename_i e
  have j:nth (Ab.clrS h i a).J i=mM (nth h.J i) (d4 (nth h.J i) a):=by unfold Ab.clrS;simp only[bH,true_and];rw[CD b]
  exact f.trans (JK.giveP (h:=Ab.clrS h i a) g (by unfold Ab.clrS;simp only[Z1];exact b) (by rw[j];exact e.2))
 exact f
def JK.freeA{h:ac}{E:List Int}{a:Int}(b:bc h (a::E)):JK h (freeA h a):=by
 obtain⟨c,d,-⟩:=b.at (b.hin a (I2 ..));exact JK.freeS b c d
def JK.recyc{h:ac}{E:List Int}{a:Int}{t:Nat}(b:bc h (a::E)):JK h (recyc t h a):=by
 unfold Ab.recyc;split
 ·exact JK.eq rfl rfl rfl rfl
 exact JK.freeA b
def JK.recycs{t:Nat}{E:List Int} : ∀{az:List Int}{h:ac},bc h (az++E)->t<h.S.length->JK h (recycs t h az)
 | [],h,_,_=>JK.refl h
 | a::az,h,b,c=>(JK.recyc (t:=t) b).trans (JK.recycs (az:=az) (h:=Ab.recyc t h a) (b.recyc c) (by rw[(nG t h a).1];exact c))
def JK.freeAs{E:List Int} : ∀{az:List Int}{h:ac},bc h (az++E)->JK h (freeAs h az)
 | [],h,_=>JK.refl h
 | a::az,h,b=>(JK.freeA b).trans (JK.freeAs (az:=az) (h:=Ab.freeA h a) b.freeA)
def JK.flushN{t:Nat}{h:ac}(c:bc h [])(d:t<h.S.length):∀{k:Nat},k<=4->JK h (flushN t h k).1
 | 0,_=>JK.refl h
 | k+1,e=>by
  obtain⟨h1,f,-⟩:=ju c d (k:=k) ω;have a:t<(Ab.flushN t h k).1.S.length:=ω
  have b:k<(nth (Ab.flushN t h k).1.S t).a.length:=by rw[(eI (h1.cach _ (ar a))).1];omega
  exact JK.trans (h1:=Ab.spilt (Ab.flushN t h k).1 t k) ((JK.flushN c d (k:=k) ω).trans (JK.eq rfl rfl rfl rfl)) (JK.freeAs (h1.spilt a b))
def uv(a:bc h E){k:Nat}(b:k<h.M.length):0<=(nth h.M k).Q/\(nth h.M k).Q+((nth h.M k).a2.toNat:Nat)<=(tbl h).K.length:=by
 have c:=aS (a.L.lok _ (ar b));have d:=a.pg.bnd _ (gi (sp:=h.J) (ar b) (dv.2 ⟨(nth h.M k).a2.toNat - 1,ω,rfl⟩));exact⟨ω,ω⟩
def JK.freeL{h:ac}{E:List Int}{i k:Nat}(b:bc h E)(c:k<h.M.length):JK h (freeL h i k):=by
 obtain⟨d,f⟩:=uv b c;refine JK.less rfl rfl rfl λq a=>?_
 have g:=mI b.ker d (nth h.M k).a2.toNat f q;change (nth (unmN h.G (nth h.M k).Q (nth h.M k).a2.toNat).F.R.K q).e≠0 at a;show nth (unmN h.G (nth h.M k).Q (nth h.M k).a2.toNat).F.R.K q=nth h.G.F.R.K q;rw[g]at a |-;split at a
 ·exact absurd rfl a
 rename_i e;rw[CB e]
def JK.freeOb{h:ac}{t i:Nat}(a:bc h [])(c:i<h.O.length)(d:t<h.S.length):JK h (freeOb h t i).1:=by
 unfold Ab.freeOb;split
 ·rename_i b
  obtain⟨l,e,h1,-⟩:=(dS a (ar c)).1 b;exact JK.freeL a (wx e h1).1
 rename_i b;split
 ·exact JK.refl h
 have h1:=a.inQuar c b;exact JK.trans (h1:=Ab.inQuar h i) (JK.eq rfl rfl rfl rfl) (JK.recycs (E:=[]) (by rw[List.append_nil];exact h1) d)
def JK.take{k sd:Int}(b:fD h (nth h.J i).Q=false):JK h {h with b5:=sd,J:=h.J.set i (qy (nth h.J i) k)}:=by
 refine⟨rfl,rfl,λs c a=>?_,λq d=>.inl ⟨d,rfl⟩⟩;obtain⟨j,f,rfl⟩:=aO c;exact⟨_,jO _ f λe=>(by subst e;rw[b]at a;cases a),rfl,λ_ z=>z⟩
def td{t:aL}{q:Nat}(h:(nth t.K q).e≠0):q<t.K.length:=by
 by_cases e:q<t.K.length
 ·exact e
 exfalso;apply h;unfold nth;rw[C3,z3 ω]
 rfl
def JK.addS{h:ac}{k:ah}{l:List aB}{p c:Int}(s:wb h.G p (k,true)):JK h (addS h k l p c):=by
 obtain⟨f,t,w,d,n⟩:=s.yes rfl;have b:k.F.R.K.length=h.G.F.R.K.length:=s.len;refine⟨rfl,rfl,λz o _=>⟨z,cK.2 (.inr o),rfl,λ_ y=>y⟩,λq g=>?_⟩;change (nth k.F.R.K q).e≠0 at g;show((nth h.G.F.R.K q).e≠0/\(nth k.F.R.K q).j=(nth h.G.F.R.K q).j)\/∀u:Nat,(nth k.F.R.K u).e≠0->(nth k.F.R.K u).j=(nth k.F.R.K q).j->u=q
 by_cases e:(q:Int)=p
 ·refine .inr λu i a=>?_
  have j:=td i;have f3u:=d u;have f3q:=d q;simp only at f3u f3q;rw[CD e]at f3q;rw[f3q]at a;by_cases r:(u:Int)=p
  ·omega
  rw[CB r]at f3u;rw[f3u]at i a;exact absurd a (n u (by rw[<-b];exact j) i)
 have f3q:=d q;simp only at f3q;rw[CB e]at f3q;rw[f3q]at g |-;exact .inl ⟨g,rfl⟩
def JK.addL{h:ac}{k:ah}{g:List aB}{p size t:Int}{n:Nat}(s:jm h.G p n (k,n)):JK h (addL h k g p n size t):=by
 have a:k.F.R.K.length=h.G.F.R.K.length:=s.len;refine⟨rfl,rfl,λz i _=>⟨z,i,rfl,λ_ y=>y⟩,λq b=>?_⟩;change (nth k.F.R.K q).e≠0 at b;show((nth h.G.F.R.K q).e≠0/\(nth k.F.R.K q).j=(nth h.G.F.R.K q).j)\/∀u:Nat,(nth k.F.R.K u).e≠0->(nth k.F.R.K u).j=(nth k.F.R.K q).j->u=q
 by_cases e:p<=q/\(q:Int)<p+n
 ·exact .inr λu d c=>(s.new q e.1 e.2).2 u (by rw[<-a];exact td d) d c
 have f:=s.out q e;simp only at f;rw[f]at b |-;exact .inl ⟨b,rfl⟩
def uS(h:ac):∀{n:Nat},n<=h.J.length->∀s∈mj h n,(aT h s.Q).length=1
 | 0,_,s,a=>by cases a
 | n+1,b,s,a=>by
  unfold mj at a;split at a
  ·rename_i e
   rcases V3.1 a with a|a
   ·exact uS h ω s a
   unfold AC at e;simp only[I0,C0]at e;rw[V1.1 a];exact e.2
  exact uS h ω s a
def bc.sole(e:bc h E)(f:s∈h.J)(h1:(aT h s.Q).length=1):oN (tbl h) s.Q:=λq a g=>by
 obtain⟨k,l,b⟩:=e.mapped f;have i:s.Q=((s.Q.toNat:Nat):Int):=ω
 rw[i,f8 (by show s.Q.toNat<(tbl h).K.length;omega) b]at h1;obtain⟨z,j⟩:=List.length_eq_one_iff.1 h1;have c:(s.Q.toNat:Int)∈pagesOn (tbl h) (nth (tbl h).K s.Q.toNat).j:=eO.2 ⟨ω,b,rfl⟩;have d:(q:Int)∈pagesOn (tbl h) (nth (tbl h).K s.Q.toNat).j:=eO.2 ⟨td a,a,g⟩;rw[j]at c d;simp only[V1]at c d;omega
def H4(hi:bc h [])(l:h.u=false):bc (started h).1 []/\JI (started h).1:=by
 have F:=hi.nums;unfold cn at F;rw[C0]at F;have L:=(mO (bI h).length (show 0<=h.b5/\h.b5<=1073741823 by omega) ((bI h).length - 1)).2;have n:=nO (bI h) (show 0<=h.b5/\h.b5<=1073741823 by omega);have c:cn {h with b5:=(shuf (bI h).length h.b5).2} = true:=by
  unfold cn;rw[C0];unfold shuf;simp only;omega
 cases o:mi (bI h) h.b5 with
 | nil=>
  have f:Ab.started h=({h with b5:=(shuf (bI h).length h.b5).2},false):=by unfold Ab.started;rw[o]
  rw[f];exact⟨{hi with nums:=c},⟨λe=>by simp[l]at e,λe=>by simp[l]at e,λe=>by simp[l]at e,λe=>by simp[l]at e⟩⟩
 | cons q Q=>
  obtain⟨R,S,g⟩:=n q (by rw[o];exact I2 ..);have f:Ab.started h=({h with b5:=(shuf (bI h).length h.b5).2,u:=true,Y:=uB (dn (nth (bI h) q.A.toNat) (nth (bI h) q.B.toNat))},true):=by unfold Ab.started;rw[o]
  rw[f];have d:∀s∈bI h,s∈h.J/\oN (tbl h) s.Q:=λs M=>by
   have G:=List.mem_of_mem_take M;have H:=mX h (W3 _) s G;exact⟨H,hi.sole H (uS h (W3 _) s G)⟩
  have j:=d _ (ar (xs:=bI h) (i:=q.A.toNat) ω);have k:=d _ (ar (xs:=bI h) (i:=q.B.toNat) ω);generalize nth (bI h) q.A.toNat=a at g j |-;generalize nth (bI h) q.B.toNat=b at g k |-;obtain⟨N,T,U⟩:=uF g;have p:(dn a b).a3=a.Q/\(dn a b).a1=b.Q\/(dn a b).a3=b.Q/\(dn a b).a1=a.Q:=by
   unfold dn;split
   ·exact .inr ⟨rfl,rfl⟩
   exact .inl ⟨rfl,rfl⟩
  have r:jR (uB (dn a b))=true:=dw.2 ⟨N,by show(0:Int)<=0;omega,by show(0:Int)<=5;omega,by show(0:Int)<=0;omega,by show(0:Int)<=(((dn a b).T.length:Nat):Int);omega⟩;have t:∃x∈h.J,∃y∈h.J,x.Q=(dn a b).a3/\y.Q=(dn a b).a1/\meshable x y=true/\oN (tbl h) x.Q/\oN (tbl h) y.Q:=by
   rcases p with⟨u,w⟩|⟨u,w⟩
   ·exact⟨a,j.1,b,k.1,u.symm,w.symm,g,j.2,k.2⟩
   exact⟨b,k.1,a,j.1,u.symm,w.symm,by rw[gT];exact g,k.2,j.2⟩
  obtain⟨x,J,y,K,C,D,E,O,P⟩:=t;exact⟨{hi with nums:=c,job:=λ_=>⟨r,⟨x,J,C⟩,⟨y,K,D⟩⟩,noj:=λe=>by cases e},⟨λ_=>⟨by show(0:Int)<=0;omega,by show(0:Int)<=3;omega⟩,λ_=>⟨x,J,y,K,C,D,E⟩,λ_=>by show oN (tbl h) (dn a b).a3;rw[<-C];exact O,λ_=>by show oN (tbl h) (dn a b).a1;rw[<-D];exact P⟩⟩
def fX(m:aM)(f:Nat):aM:=⟨m.U.set f ((nth m.U f).drop 1),m.y.set (nth (nth m.U f) 0).To.toNat (nth m.y (nth (nth m.U f) 0).To.toNat++[(nth (nth m.U f) 0).Addr])⟩
def lI(m:aM)(t:Nat):aM:=⟨m.U,m.y.set t []⟩
def io(m:aM)(f:Nat)(p:dx):aM:=⟨m.U.set f (nth m.U f++[p]),m.y⟩
variable{m:aM}
def d8 : bR m=true↔(1<=m.U.length/\m.U.length<=4/\m.y.length=m.U.length)/\(∀i,i<m.U.length->(∀p∈nth m.U i,0<=p.To/\p.To<=(m.U.length:Int) - 1/\0<=p.Addr)/\∀a∈nth m.y i,0<=a)/\bC m m.U.length<=30:=by
 unfold bR;simp only[I0,C0,cy,gU,O4,oq,Qu];exact and_assoc
def pn(m:aM)(f t:Nat)(x:List dx)(y:List Int)(g:f<m.U.length)(h:t<m.y.length):∀n:Nat,bC ⟨m.U.set f x,m.y.set t y⟩ n=bC m n+(if f<n then(x.length:Int) - ((nth m.U f).length:Nat) else 0)+(if t<n then(y.length:Int) - ((nth m.y t).length:Nat) else 0)
 | 0=>by simp[bC]
 | n+1=>by
  have i:=pn m f t x y g h n;have j:(nth (m.U.set f x) n).length=if f=n then x.length else(nth m.U n).length:=by
   rw[bH];by_cases e:f=n
   ·rw[CD ⟨e,ω⟩,CD e]
   rw[CB λz=>e z.1,CB e]
  have k:(nth (m.y.set t y) n).length=if t=n then y.length else(nth m.y n).length:=by
   rw[bH];by_cases e:t=n
   ·rw[CD ⟨e,ω⟩,CD e]
   rw[CB λz=>e z.1,CB e]
  simp only[bC,i,j,k];by_cases d:f=n
  ·subst d
   by_cases b:t=f
   ·subst b
    simp only[if_true,Nat.lt_irrefl,if_false,Nat.lt_succ_self];omega
   simp only[if_true,Nat.lt_irrefl,if_false,Nat.lt_succ_self,CB b];by_cases a:t<f
   ·rw[CD a,CD (show t<f+1 by omega)];omega
   rw[CB a,CB (show ¬t<f+1 by omega)];omega
  by_cases b:t=n
  ·subst b
   simp only[if_true,Nat.lt_irrefl,if_false,Nat.lt_succ_self,CB d];by_cases a:f<t
   ·rw[CD a,CD (show f<t+1 by omega)];omega
   rw[CB a,CB (show ¬f<t+1 by omega)];omega
  simp only[CB d,CB b];by_cases a:f<n
  ·rw[CD a,CD (show f<n+1 by omega)]
   by_cases c:t<n
   ·rw[CD c,CD (show t<n+1 by omega)];omega
   rw[CB c,CB (show ¬t<n+1 by omega)];omega
  rw[CB a,CB (show ¬f<n+1 by omega)];by_cases c:t<n
  ·rw[CD c,CD (show t<n+1 by omega)];omega
  rw[CB c,CB (show ¬t<n+1 by omega)];omega
def Kb[Inhabited α]{xs:List α}(h:i<xs.length):xs.set i (nth xs i)=xs:=by
 rw[<-Z2.1 (au h) |>.2];exact List.set_getElem_self h
def FQ(h:bR m=true)(d:f<m.U.length)(n:0<(nth m.U f).length):bR (fX m f)=true:=by
 obtain⟨⟨o,q,r⟩,g,y⟩:=d8.1 h;obtain⟨t,A⟩:=g f d;have c:=t _ (ar n);have u:(nth (nth m.U f) 0).To.toNat<m.y.length:=ω
 refine d8.2 ⟨⟨?_,?_,?_⟩,λi j=>?_,?_⟩
 ·simp only[fX,Z1];exact o
 ·simp only[fX,Z1];exact q
 ·simp only[fX,Z1];exact r
 ·simp only[fX,Z1]at j |-
  obtain⟨k,l⟩:=g i j;simp only[bH];refine⟨λp c=>?_,λa b=>?_⟩
  ·split at c
   ·rename_i e;rw[<-e.1]at k
    refine(g f d).1 p (List.mem_of_mem_drop c)
   exact k p c
  split at b
  ·rename_i e
   rcases V3.1 b with b|b
   ·rw[e.1]at b;exact l a b
   rw[V1.1 b];exact c.2.2
  exact l a b
 have w:=pn m f (nth (nth m.U f) 0).To.toNat ((nth m.U f).drop 1) (nth m.y (nth (nth m.U f) 0).To.toNat++[(nth (nth m.U f) 0).Addr]) d u m.U.length;simp only[fX,Z1];rw[w,CD d,CD ω,Z3,Y3,List.length_singleton];omega
def Q0(h:bR m=true)(d:t<m.y.length):bR (lI m t)=true:=by
 obtain⟨⟨e,f,g⟩,j,o⟩:=d8.1 h;refine d8.2 ⟨⟨e,f,?_⟩,λi k=>?_,?_⟩
 ·simp only[lI,Z1];exact g
 ·obtain⟨l,n⟩:=j i k
  simp only[lI,bH];refine⟨l,λa b=>?_⟩;split at b
  ·cases b
  exact n a b
 have c:=pn m t t (nth m.U t) [] ω d m.U.length;rw[Kb ω]at c;show bC ⟨m.U,m.y.set t []⟩ m.U.length<=30;rw[c,CD ω,CD ω,List.length_nil];omega
def kU(h:bR m=true)(b:Int):(aQ m).count b=(m.U.flatMap λl=>l.map (·.Addr)).count b+(m.y.flatMap λx=>x).count b:=by
 unfold aQ;rw[CD h,Y6,lF]
def bc.mailed{c:List Int}(d:bc h E)(i:bR m=true)(j:m.U.length=h.w.U.length)(k:∀b,c.count b+(aQ m).count b=E.count b+(aQ h.w).count b)(f:∀a,a∈c\/a∈aQ m->jo h.J a (-1)):bc {h with w:=m} c:=by
 have g:(E++holders h).Perm (c++holders {h with w:=m}):=by
  refine List.perm_iff_count.2 λb=>?_
  have l:=k b;simp only[holders,cH,Y6];omega
 exact {d with
   mail:=i
   nc:=d.nc.trans j.symm
   hfl:=λa e=>f a (.inr e)
   hin:=λa e=>f a (.inl e)
   nd:=g.nodup_iff.1 d.nd
   mem:=λb=>by rw[<-g.mem_iff];exact d.mem b}
def GW{d:List Int}(f:bc h E)(g:∀b,d.count b+(aQ m).count b=E.count b+(aQ h.w).count b):∀a,a∈d\/a∈aQ m->jo h.J a (-1):=λa c=>by
 have i:=g a;have j:0<d.count a+(aQ m).count a:=by
  rcases c with c|c
  ·have:=List.count_pos_iff.2 c;omega
  have:=List.count_pos_iff.2 c;omega
 by_cases e:0<E.count a
 ·exact f.hin a (List.count_pos_iff.1 e)
 exact f.hfl a (List.count_pos_iff.1 ω)
def bc.deliv(a:bc h E)(e:f<h.w.U.length)(d:0<(nth h.w.U f).length):bc {h with w:=fX h.w f} E:=by
 have c:=FQ a.mail e d;obtain⟨⟨q,r,t⟩,j,u⟩:=d8.1 a.mail;have k:=(j f e).1 _ (ar d);have g:∀b,E.count b+(aQ (fX h.w f)).count b=E.count b+(aQ h.w).count b:=λb=>by
  rw[kU c,kU a.mail];have i:=iT (λl:List dx=>l.map (·.Addr)) b h.w.U f ((nth h.w.U f).drop 1) e;have n:=iT (λx:List Int=>x) b h.w.y (nth (nth h.w.U f) 0).To.toNat (nth h.w.y (nth (nth h.w.U f) 0).To.toNat++[(nth (nth h.w.U f) 0).Addr]) ω;have o:(nth h.w.U f).map (·.Addr)=(nth (nth h.w.U f) 0).Addr::((nth h.w.U f).drop 1).map (·.Addr):=by
   generalize nth h.w.U f=l at d
   match l,d with
   | p::l,_=>rfl
  simp only[fX];rw[o]at i;simp only[List.count_cons]at i;simp only[Y6,List.count_singleton]at n;omega
 exact a.mailed c (by simp[fX]) g (GW a g)
def bc.coll(c:bc h E)(d:t<h.w.y.length):bc {h with w:=lI h.w t} (nth h.w.y t++E):=by
 have a:=Q0 c.mail d;have e:∀b,(nth h.w.y t++E).count b+(aQ (lI h.w t)).count b=E.count b+(aQ h.w).count b:=λb=>by
  rw[kU a,kU c.mail];have f:=iT (λx:List Int=>x) b h.w.y t [] d;simp only[List.count_nil]at f;simp only[lI,Y6];omega
 exact c.mailed a rfl e (GW c e)
def bc.send{p:dx}(c:bc h (p.Addr::E))(e:f<h.w.U.length)(a:bR (io h.w f p)=true):bc {h with w:=io h.w f p} E:=by
 have d:∀b,E.count b+(aQ (io h.w f p)).count b=(p.Addr::E).count b+(aQ h.w).count b:=λb=>by
  rw[kU a,kU c.mail];have g:=iT (λl:List dx=>l.map (·.Addr)) b h.w.U f (nth h.w.U f++[p]) e;simp only[V6,X6,List.map_nil,Y6,List.count_singleton]at g;simp only[io,List.count_cons];omega
 exact c.mailed a (by simp[io]) d (GW c d)
def sH(now:Int):List aR->Nat
 | []=>0
 | x::xs=>if x.b6<now - 100 then sH now xs+1 else 0
def aged(h:ac)(n:Int):ac:={h with b1:=h.b1+n,a7:=⟨h.a7.b7,h.a7.a6.drop (sH (h.b1+n) h.a7.a6)⟩}
def n6(h:ac)(n:Int):List Int:=(h.a7.a6.take (sH (h.b1+n) h.a7.a6)).map (·.Addr)
def tick(h:ac)(n:Int):ac:=freeAs (aged h n) (n6 h n)
def pi(x:aR)(xs:List aR):∀n,quarCells (x::xs) (n+1)=csz x.d+quarCells xs n
 | 0=>by simp only[quarCells];show 0+csz x.d=csz x.d+0;omega
 | n+1=>by
  rw[iO,pi x xs n,iO];show csz x.d+quarCells xs n+csz (nth xs n).d=_;omega
def Ts(k:Int):0<=csz k:=by
 unfold csz;split
 ·exact Int.le_of_lt (Int.pow_pos (by decide))
 decide
def JO:∀(l:List aR)(k:Nat),qc (l.drop k)<=qc l
 | [],k=>by simp
 | x::xs,0=>V5 _
 | x::xs,k+1=>by
  have a:=JO xs k;have b:=Ts x.d;have c:qc (x::xs)=csz x.d+qc xs:=pi x xs xs.length;show qc (xs.drop k)<=qc (x::xs);omega
def bc.aged{h:ac}{E:List Int}{n:Int}(a:bc h E)(t:0<=n)(u:h.b1+n<=1000000):bc (aged h n) (n6 h n++E):=by
 obtain⟨i,j,k,o,p,q⟩:=kn.1 a.quar;have c:=a.nums;unfold cn at c;rw[C0]at c;have e:=List.drop_sublist (sH (h.b1+n) h.a7.a6) h.a7.a6;have g:(E++holders h).Perm ((n6 h n++E)++holders (Ab.aged h n)):=by
  refine List.perm_iff_count.2 λb=>?_
  have r:=Z0 (λl:List aR=>(l.map (·.Addr)).count b) (List.take_append_drop (sH (h.b1+n) h.a7.a6) h.a7.a6);simp only[V6,Y6]at r;simp only[holders,cH,Ab.aged,n6,Y6];omega
 exact {a with
   nums:=by unfold cn;rw[C0];simp only[Ab.aged];omega
   quar:=kn.2 ⟨λy d=>i y (e.subset d),j.sublist e,k.sublist (e.map _),o,p,O5 (JO _ _) q⟩
   snc:=λy d=>by
     have:=a.snc y (e.subset d);show y.b6<=h.b1+n;omega
   hqu:=λy d=>a.hqu y (e.subset d)
   hin:=λb f=>by
     rcases V3.1 f with f|f
     · obtain⟨y,d,rfl⟩:=Y4.1 f
       exact(a.hqu y (List.mem_of_mem_take d)).any
     exact a.hin b f
   nd:=g.nodup_iff.1 a.nd
   mem:=λb=>by rw[<-g.mem_iff];exact a.mem b}
def bc.tick{h:ac}{n:Int}(a:bc h [])(b:0<=n)(c:h.b1+n<=1000000):bc (tick h n) []/\JK h (tick h n):=by
 have h1:=a.aged b c;exact⟨bc.freeAs h1,JK.trans (h1:=Ab.aged h n) (JK.eq rfl rfl rfl rfl) (JK.freeAs h1)⟩
def collect(h:ac)(t:Nat):ac:=recycs t {h with w:=lI h.w t} (nth h.w.y t)
def bc.collect{h:ac}{t:Nat}(a:bc h [])(b:t<h.S.length):bc (collect h t) []/\JK h (collect h t):=by
 have h1:=a.coll (t:=t) (by rw[(d8.1 a.mail).1.2.2,<-a.nc];exact b);exact⟨bc.recycs h1 b,JK.trans (h1:={h with w:=lI h.w t}) (JK.eq rfl rfl rfl rfl) (JK.recycs h1 b)⟩
def NE(h:ac)(t i:Nat):ac:={h with G:=fo h.G (nth h.O i).Addr (csz (aK (nth h.O i).q)).toNat,O:=dele h.O i,w:=io h.w t ⟨(nth h.O i).a4,(nth h.O i).Addr⟩}
def freeT(h:ac)(t i:Nat):ac × Int:=
 if aK (nth h.O i).q<0 then(freeL h i (zC h (nth h.O i).Addr),0)
 else if(af (tbl h) ((nth h.O i).Addr / 16)).e=1 then(h,5)
 else if(nth h.O i).a4=t then(FU h t i,0)
 else if bR (io h.w t ⟨(nth h.O i).a4,(nth h.O i).Addr⟩)=true then(NE h t i,0) else(h,5)
def BB(e:(nth h.O i).a4=t):freeT h t i=freeOb h t i:=by
 unfold freeT freeOb;rw[CD e]
def bc.freeT{h:ac}{t i:Nat}(a:bc h [])(b:i<h.O.length)(c:t<h.S.length):bc (freeT h t i).1 []/\JK h (freeT h t i).1:=by
 by_cases e:(nth h.O i).a4=t
 ·rw[BB e];exact⟨a.freeOb b c,JK.freeOb a b c⟩
 have d:=a.freeOb b c;have f:=JK.freeOb a b c;unfold Ab.freeOb at d f;unfold Ab.freeT;split
 ·rename_i g
  rw[CD g]at d f;exact⟨d,f⟩
 rename_i g;rw[CB g]at d f;split
 ·exact⟨a,JK.refl h⟩
 split
 ·rename_i j
  obtain⟨⟨s,l,n,o⟩,u⟩:=(dS a (ar b)).2 g;have q:=a.dropO b (jo.any ⟨s,l,n,.inr o⟩);have r:=q.cells (k:=fo h.G (nth h.O i).Addr (csz (aK (nth h.O i).q)).toNat) (ER a.ker _ _) rfl;exact⟨bc.send (p:=⟨(nth h.O i).a4,(nth h.O i).Addr⟩) r (by show t<h.w.U.length;rw[<-a.nc];exact c) j,JK.eq rfl rfl rfl rfl⟩
 exact⟨a,JK.refl h⟩
def dJ(k:ah)(a v:Int):ah:=setCell k (cW k a) (a % 16) v
def yI(h:aF k=true)(b:(af k.F.R (a / 16)).e≠0)(c:0<=v/\v<=999):aF (dJ k a v)=true:=by
 obtain⟨d,e,-⟩:=g9 h b;exact rS h (f:=cW k a) d e c
def bc.store(b:bc h [])(c:(af h.G.F.R (a / 16)).e≠0)(d:0<=v/\v<=999):bc {h with G:=dJ h.G a v} []/\JK h {h with G:=dJ h.G a v}:=
 ⟨b.cells (yI b.ker c d) rfl,JK.eq rfl rfl rfl rfl⟩
def Qg{xs:List Int}{x:Int}(h:df xs.length (λj=>decide (nth xs j≠x))=true):x∉xs:=λb=>by
 obtain⟨j,a⟩:=List.mem_iff_getElem?.1 b;have:=eZ h (Z2.1 a).1;rw[bk a]at this;simp at this
def GI(xs:List Int)(x:Int)(g:xs.length<=4611686018427387904):zzA 353 false [.val none (aH .V xs),.val none [I x]] .one [B (decide (x∈xs))]:=by
 refine fO 18 [] Tryz.func353 rfl ?_
 repeat'(first|refine gP ?_|fail)
 (conv=>whnf)
 refine CJ (ι:=Nat) (λi=>[(0,.H .one (aH .V xs)),(1,.H .one [I (x)]),(5,.H .one [I ((i:Nat):Int)])]) (λi=>i<=xs.length/\df i (λj=>decide (nth xs j≠x))=true) (λi=>xs.length - i) 0 ?_ ⟨X0 _,rfl⟩ λi a=>?_
 ·exact wB
 obtain⟨a,b⟩:=a;by_cases c:i<xs.length
 ·have d:=au c
  by_cases e:nth xs i=x
  ·repeat'(first|refine gB ?_|(conv=>whnf);first|with_reducible refine CE (aa d) ?_)
   exact Z0 (λz=>[B z]) ((by symm;exact O0 (by rw[<-e];exact ar c)))
  repeat'(first|refine gB ?_|(conv=>whnf);first|with_reducible refine CE (aa d) ?_)
  ((conv=>whnf);refine CF (i+1) ⟨ω,bU b (O0 e)⟩ ω ?_;(exact wB))
 repeat'(first|refine gE ?_|fail)
 obtain rfl:i=xs.length:=ω
 exact Z0 (λz=>[B z]) ((by symm;exact W0 (Qg b)))
theorem bx.more{M c:am}{d:World}(h:bx M w d)(f:∀b o,M b o->c b o):bx c w d:=
 ⟨h.os,h.tape,h.output,h.size,λb a e=>h.blk b a ψ,λb o a e=>h.cel b o a ψ,λb o a e=>h.fro b o a ψ⟩
variable{c:List C}
theorem aP.wk{u:List C}{A B:List MA}{k:Kd}(h:aP P f sh A (.ptr c::B) k rcs)(D:P9 c u):aP P f sh A (.ptr u::B) k rcs:=by
 refine⟨h.has,λw S V i E F l G=>(h.run w S V i E F l G).mono λe w1 H=>?_⟩;obtain⟨v,J,K,X,L,M,N,n,p,a,q,r,b,O,Q,y⟩:=H;refine⟨v,J,K,X,L,M,N,n,p,a,q,r,b,O,Q,?_⟩;cases i with
 | nil=>exact y.elim
 | cons v0 i=>
  obtain⟨⟨R,Y,T,U,W,⟨g,o,Z,e2⟩,d⟩,t⟩:=y;refine⟨⟨R,Y,T,U,W,⟨g,o,Z,λj hj=>e2 j (by grind [si])⟩,Dc D d⟩,t⟩
def aP.frame{c' r:List C}{A B:List MA}{k:Kd}(h:aP P f sh (.ptr c::A) (.ptr c'::B) k rcs)(hl:c'.length=c.length):aP P f sh (.ptr (c++r)::A) (.ptr (c'++r)::B) k rcs:=by
 refine⟨h.has,λw S V vs hS hV hVd hA=>?_⟩;cases vs with
 | nil=>exact hA.elim
 | cons v0 vs=>
 obtain⟨⟨X1,Y,hX1,hY,O,⟨g,q,rfl,u⟩,ff,hf1,J,hf3⟩,hA'⟩:=hA;have hlen:(c++r).length=c.length+r.length:=Y3
 let V0:am:=piece g q ff 0 c.length
 let W:Nat->am:=MI V0 (λi=>V (i+1))
 have hcX:∀o,q<=o->o<q+(c++r).length->X1 g o:=λo l a=>by
  have:=(u (o - q) ω).1
  rwa [show q+(o - q)=o by omega]at this
 have hV0:∀b o,V0 b o->V 0 b o:=λb o p=>by
  rcases p with⟨rfl,l,a⟩|⟨j,-,a,Q⟩
  ·exact hX1 _ _ (hcX o ω ω)
  exact hY _ _ (J j ω b o Q)
 have K:∀i b o,W i b o->V i b o:=λi b o p=>by
  cases i with
  | zero=>exact hV0 b o p
  | succ i=>exact p
 have hA2:Mq w S W (.ptr c::A) (.pointer (some ⟨g,q,none⟩)::vs):=by
  refine⟨?_,hA'⟩;have:=uQ (lo:=0) (n:=c.length) (cs:=c++r) ω u hf1 J hf3 O;rw[show bJ (c++r) 0 c.length=c by simp[bJ]]at this;simp only[X7,Nat.add_zero]at this;exact this
 refine(h.run w S W _ hS (λi b o p=>hV i b o (K i b o p)) (λi i' D b o l a=>hVd i i' D b o (K i b o l) (K i' b o a)) hA2).mono λe w1 hv=>?_
 obtain⟨v,he,hk,X,V',S1,hX,E,hS1,hVd',hXV,hXS,hVS1,hh,hr,hm⟩:=hv;have H:∀b o,(∃i,W i b o)->∃i,V i b o:=λb o ⟨i,Z⟩=>⟨i,K i b o Z⟩
 let R:am:=λb o=>V 0 b o/\¬V0 b o
 have hRW:∀b o,R b o->¬∃i,W i b o:=λb o y ⟨i,Z⟩=>by
  cases i with
  | zero=>exact y.2 Z
  | succ i=>exact hVd 0 (i+1) ω b o y.1 Z
 have F:∀b o,R b o->b<w.heap.size:=λb o y=>(hV 0 b o y.1).1
 have t:∀b o,R b o->¬((∃i,W i b o)\/(b<w1.heap.size/\w.heap.size<=b)):=λb o y p=>by
  rcases p with p|p
  ·exact hRW b o y p
  have:=F b o y;omega
 have hRsame:bq R w w1:=λb o y=>⟨hk.cel b o (F b o y) (hRW b o y),hk.fro b o (F b o y) (hRW b o y)⟩
 have hRS1:∀b o,R b o->¬S1 b o:=λb o y hs=>by
  rcases hS1 b o hs with⟨-,l⟩|l
  ·exact(hV 0 b o y.1).2 l
  exact t b o y l
 have hSsame:bq S w w1:=λb o hb=>⟨hk.cel b o (hS b o hb) (λ⟨i,Z⟩=>(hV i b o (K i b o Z)).2 hb),hk.fro b o (hS b o hb) (λ⟨i,Z⟩=>(hV i b o (K i b o Z)).2 hb)⟩
 have hRc:∀j,c.length<=j->j<(c++r).length->R g (q+j):=λj l a=>by
  refine⟨hX1 _ _ (u j a).1,λp=>?_⟩;rcases p with⟨-,Q,h4⟩|⟨N,Q,h4,h5⟩
  ·omega
  exact O _ _ (u j a).1 (J N ω _ _ h5)
 have L:∀j,c.length<=j->j<(c++r).length->∀b o,ff j b o->R b o:=λj l a b o p=>by
  refine⟨hY _ _ (J j a b o p),λhp=>?_⟩;rcases hp with⟨rfl,Q,h4⟩|⟨N,Q,h4,h5⟩
  ·exact O _ _ (hcX o ω ω) (J j a _ _ p)
  exact hf3 j N a ω ω b o p h5
 let U:Nat->am:=MI (λb o=>V' 0 b o\/R b o) (λi=>V' (i+1))
 have hU:∀i b o,U i b o->V' i b o\/(i=0/\R b o):=λi b o p=>by
  cases i with
  | zero=>exact p.imp id (λh=>⟨rfl,h⟩)
  | succ i=>exact .inl p
 refine⟨v,he,hk.more H,X,U,S1,λb o p=>(hX b o p).imp (H b o) id,λi b o p=>?_,λb o p=>(hS1 b o p).imp id (Or.imp (H b o) id),λi i' D b o l a=>?_,λi b o l a=>?_,hXS,λi b o l a=>?_,hh,hr,?_,hm.2⟩
 ·rcases hU i b o p with l|⟨-,l⟩
  ·exact(E i b o l).imp (H b o) id
  exact .inl ⟨0,l.1⟩
 ·rcases hU i b o l with l|⟨e1,l⟩
  ·rcases hU i' b o a with a|⟨e2,a⟩
   ·exact hVd' i i' D b o l a
   exact t b o a (E i b o l)
  rcases hU i' b o a with a|⟨e2,a⟩
  ·exact t b o l (E i' b o a)
  exact D ω
 ·rcases hU i b o a with a|⟨-,a⟩
  ·exact hXV i b o l a
  exact t b o a (hX b o l)
 ·rcases hU i b o l with l|⟨-,l⟩
  ·exact hVS1 i b o l a
  exact hRS1 b o l a
 obtain⟨Xa,Ya,ha1,ha2,ha3,⟨ga,oa,hea,ha4⟩,fa,ha5,ha6,ha7⟩:=(show qx w1 (λb o=>S b o\/S1 b o) (V' 0) (.ptr c') (.pointer (some ⟨g,q,none⟩)) from hm.1)
 obtain⟨rfl,rfl⟩ : g=ga/\q=oa:=by simpa using hea
 have G:(c'++r).length=c.length+r.length:=by rw[Y3,hl]
 show qx w1 (λb o=>S b o\/S1 b o) (λb o=>V' 0 b o\/R b o) (.ptr (c'++r)) (.pointer (some ⟨g,q,none⟩));have faV:∀j,j<c.length->∀b o,fa j b o->V' 0 b o:=λj M b o p=>ha2 _ _ (ha6 j ω b o p)
 refine⟨λb o=>Xa b o\/(R b o/\∃j,c.length<=j/\j<(c++r).length/\b=g/\o=q+j),λb o=>Ya b o\/∃j,c.length<=j/\j<(c++r).length/\ff j b o,λb o p=>?_,λb o p=>?_,λb o l a=>?_,⟨g,q,rfl,λj M=>?_⟩,λj=>if j<c.length then fa j else ff j,λj d M=>?_,λj M b o p=>?_,λj N M hj' D b o l a=>?_⟩
 ·exact p.imp (ha1 b o) (·.1)
 ·rcases p with p|⟨j,l,a,Q⟩
  ·exact .inl (ha2 b o p)
  exact .inr (L j l a b o Q)
 ·rcases l with l|⟨l,j,j1,j2,rfl,rfl⟩
  ·rcases a with a|⟨j,j1,j2,j3⟩
   ·exact ha3 b o l a
   exact t b o (L j j1 j2 b o j3) (E 0 b o (ha1 b o l))
  rcases a with a|⟨N,j3,j4,j5⟩
  ·exact t _ _ l (E 0 _ _ (ha2 _ _ a))
  exact O _ _ (u j j2).1 (J N j4 _ _ j5)
 ·rw[G]at M
  by_cases hc:j<c.length
  ·have:=ha4 j ω
   exact⟨.inl this.1,this.2⟩
  have y:=hRc j ω ω;have hs:=hRsame _ _ y;have T:=u j ω;refine⟨.inr ⟨y,j,ω,ω,rfl,rfl⟩,?_,?_⟩
  ·rw[hs.1];exact T.2.1
  rw[hs.2];exact T.2.2
 ·dsimp only
  by_cases hc:j<c.length
  ·rw[CD hc]
   rw[t5 ω]at M;exact ha5 j d M
  rw[CB hc];rw[v5 ω,hl]at M;have hj2:(c++r)[j]? = some d:=by rw[v5 ω];exact M
  have hjl:=(Z2.1 hj2).1;have Q:=(hf1 j d hj2).keep hSsame (λb o p=>hRsame b o (L j ω hjl b o p));have T:=(hRsame _ _ (hRc j ω hjl)).1;have:co w1 .box (.pointer (some ⟨g,q,none⟩)) j=co w .box (.pointer (some ⟨g,q,none⟩)) j:=by
   simp only[co];rw[T]
  rw[this];exact Q.mono (λ_ _ h=>.inl h) (λ_ _ h=>h)
 ·rw[G]at M
  split at p
  ·rename_i hc;exact .inl (ha6 j ω b o p)
  exact .inr ⟨j,ω,ω,p⟩
 rw[G]at M hj';split at l
 ·rename_i c1
  split at a
  ·exact ha7 j N ω ω D b o l a
  exact t b o (L N ω ω b o a) (E 0 b o (faV j c1 b o l))
 split at a
 ·rename_i c1;exact t b o (L j ω ω b o l) (E 0 b o (faV N c1 b o a))
 exact hf3 j N ω ω D b o l a
mutual
def Ua:∀c:C,fz (fz c)=fz c
 | .v x=>by simp[fz]
 | .s o rows=>by simp only[fz];rw[JU rows]
 | .x=>by simp[fz]
 | .z=>by simp[fz]
 | .m _=>by simp[fz]
 | .it _ _=>by simp[fz]
def JU:∀a:List (List C),fzR (fzR a)=fzR a
 | []=>rfl
 | r::a=>by simp only[fzR];rw[sw r,JU a]
def sw:∀cs:List C,dE (dE cs)=dE cs
 | []=>rfl
 | c::cs=>by simp only[dE];rw[Ua c,sw cs]
end
def nu(k:ah)(a:aF k=true)(e:k.Calls≠100000):zzB 484 false [.ptr (ah.enc .own k)] [.ptr (ah.enc .own (cg k))] .one [B (!refd k)]:=by
 have b:=b8 a;have c:=(aG.1 a).2.2.2.2;have d:=GI k.a0 k.Calls (by have:=b.2;omega);refine fM 22 [] [(2,9,[11,12,13,14,15,16,17,18,19])] [(0,0)] Tryz.func484 rfl (λu q=>?_)
 repeat'(first|refine gP ?_|(conv=>whnf);first|refine CK (d) ⟨⟨rfl,dA _⟩,⟨rfl,Z0 (λz=>[I z]) ω⟩,trivial⟩ ?_)
 refine CH rfl ?_ ?_
 ·rfl
 exact wB
def oI(k:ah)(p m:Int)(a:aF k=true)(j:k.Calls≠100000)(d:(af k.F.R p).e≠0)(l:m=1\/m=2):zzB 575 false [.ptr (ah.enc .own k),.val none [I p],.val none [I m]] [.ptr (ah.enc .own (jW k p m).1),.val none [I p],.val none [I m]] .one [B (jW k p m).2]:=by
 have n:=b8 a;have b:=nu k a j;have g:=eJ (cg k) p n.1.2;have c:=aJ m 1 2;rw[O0 ω]at c;obtain⟨o,t,w,-⟩:=bW a d;have h:=au (xs:=k.F.R.K) (i:=p.toNat) ω;have r:¬(af (cg k).F.R p).e=0:=d;unfold jW;cases e:refd k<;>rw[e]at b
 ·rw[CB (by simp),LF]
  refine fM 31 [(484,[2])] [] [(0,0),(0,0),(0,0)] Tryz.func575 rfl (λu q=>?_)
  repeat'(first|refine gB ?_|(conv=>whnf);first|refine CL (b) (.inl rfl) ?_|refine CK (g) ⟨CR (cg k),⟨rfl,rfl⟩,trivial⟩ ?_|refine C9 (c) ?_|refine CO o (aa h) ?_|refine CQ rfl rfl (aa h) rfl (O1 rfl) rfl ?_)
  refine CH rfl ?_ ?_
  ·rfl
  exact wB
 rw[CD rfl];refine fM 31 [(484,[2])] [] [(0,0),(0,0),(0,0)] Tryz.func575 rfl (λu q=>?_)
 repeat'(first|refine gB ?_|(conv=>whnf);first|refine CL (b) (.inl rfl) ?_|refine CK (g) ⟨CR (cg k),⟨rfl,rfl⟩,trivial⟩ ?_|refine C9 (c) ?_)
 refine CH rfl ?_ ?_
 ·rfl
 exact wB
def Rw.two{off k d e b:Nat}{K:List C->Nat->Prop}{o f:dR}{rows2:List (List C)}{r a:List C}(h1:c[off]? = some (.s o rows))(g:rows[i]? = some r)(h:r.length=k)(l:r[j]? = some (.s f rows2))(n:rows2[d]? = some a)(p:a.length=e)(q:K a b):Rw c off [(i,k,j),(d,e,b)] K:=
 Rw.mk (r:=a) (j:=b) (by simp[cq,h1,g,h,l,n,p]) q
def Ai(k:ah)(a b c:Int)(h:aF k=true)(F:(af k.F.R a).e≠0)(G:(af k.F.R b).e≠0)(g:0<=c/\c<=15):zzB 576 false [.ptr (ah.enc .own k),.val none [I a],.val none [I b],.val none (aH .V [c])] [.ptr (ah.enc .own (sQ k a b c)),.val none [I a],.val none [I b],.val none (aH .V [c])] .one [B true]:=by
 have w:=b8 h;have H:=eJ k a w.1.2;have J:=eJ k b w.1.2;have y:=aJ c 0 15;rw[O0 g]at y;obtain⟨K,O,L,C,P⟩:=bW h F;obtain⟨M,Q,D,E,R⟩:=bW h G;have N:=(bf.1 (aG.1 h).2.1).2.2.1;have S:=row16 h (f:=bP k a) (by unfold bP;omega);have T:=row16 h (f:=bP k b) (by unfold bP;omega);have d:k.F.W.T[(af k.F.R a).j.toNat]? = some (nth k.F.W.T (bP k a)):=au ω;have e:k.F.W.T[(af k.F.R b).j.toNat]? = some (nth k.F.W.T (bP k b)):=au ω;have l:=au (xs:=nth k.F.W.T (bP k a)) (i:=c.toNat) ω;have o:=au (xs:=nth k.F.W.T (bP k b)) (i:=c.toNat) ω;have p:=au (xs:=k.F.R.K) (i:=a.toNat) ω;have r:=au (xs:=k.F.R.K) (i:=b.toNat) ω;rw[L]at C d;rw[D]at E e;have t:[c][0]? = some c:=rfl;refine fM 90 [] [(13,28,[61,62,63,64,65,66,67,68,69,70,71,72,73,74,75,76,77,78,79,80,81,82,83,84,85,86,87,88])] [(0,0),(0,0),(0,0),(0,0)] Tryz.func576 rfl (λu q=>?_)
 repeat'(first|refine gB ?_|(conv=>whnf);first|refine CC ?_|refine CK (H) ⟨CR k,⟨rfl,rfl⟩,trivial⟩ ?_|refine CK (J) ⟨CR k,⟨rfl,rfl⟩,trivial⟩ ?_)
 (conv=>whnf)
 refine CJ (ι:=Nat) (λn=>[(0,.H .box (ah.enc .own k)),(1,.H .one [I (a)]),(2,.H .one [I (b)]),(3,.H .one (aH .V [c])),(9,.H .one [I ((n:Nat):Int)])]) (λn=>n<=1) (λn=>1 - n) (0) ?_ (X0 _) λn U=>?_
 ·exact wB
 by_cases V:n<1
 ·obtain rfl:n=0:=ω
  repeat'(first|refine gE ?_|(conv=>whnf);first|refine CC ?_|refine CO (by decide) (aa t) ?_|refine C9 (y) ?_)
  ((conv=>whnf);refine CF 1 ω ω ?_;(exact wB))
 obtain rfl:n=1:=ω
 repeat'(first|refine gE ?_|(conv=>whnf);first|refine CC ?_|refine CO K (aa p) ?_|refine CO M (aa r) ?_|refine CG rfl (aa p) rfl ?_|refine CG rfl (aa r) rfl ?_)
 (conv=>whnf)
 refine CJ (ι:=Nat) (λj=>[(0,.H .box (ah.enc .own (R3 k a b c j))),(3,.H .one (aH .V [c])),(10,.H .one [I ((nth k.F.R.K a.toNat).j)]),(11,.H .one [I ((nth k.F.R.K b.toNat).j)]),(12,.H .one [I ((j:Nat):Int)])]) (λj=>j<=1) (λj=>1 - j) (0) ?_ (X0 _) λj W=>?_
 ·exact wB
 by_cases X:j<1
 ·obtain rfl:j=0:=ω
  repeat'(first|refine gE ?_|(conv=>whnf);first|refine CC ?_|refine CO (by decide) (aa t) ?_|refine CO C (aa d) ?_|refine CO E (aa e) ?_|refine CO g.1 (aa l) ?_|refine CO g.1 (aa o) ?_|refine CG rfl (aa e) rfl ?_|refine CG rfl (aa d) rfl ?_|refine Rw.two rfl (aa d) rfl rfl (aa l) rfl ?_|refine Pu.two rfl rfl (aa e) rfl rfl rfl (aa o) rfl (W3 _) rfl ?_)
  ((conv=>whnf);refine CF 1 ω ω ?_)
  rw[show R3 k a b c 1=sQ k a b c from rfl];unfold sQ;rw[Gf,show bP k b=(nth k.F.R.K b.toNat).j.toNat by unfold bP;rw[D]];exact wB
 obtain rfl:j=1:=ω
 repeat'(first|refine gE ?_|(conv=>whnf);first|refine CC ?_)
 refine CH rfl ?_ ?_
 ·rfl
 exact wB
def HU(k:ah)(p o:Int)(a:aF k=true)(y:k.Calls≠100000)(g:(af k.F.R p).e≠0)(h:(af k.F.R o).e≠0)(C:p≠o):zzB 577 false [.ptr (ah.enc .own k),.val none [I p],.val none [I o]] [.ptr (ah.enc .own (vV k p o).1),.val none [I p],.val none [I o]] .one [B (vV k p o).2]:=by
 have b:=b8 a;have c:=nu k a y;have j:=eJ (cg k) p b.1.2;have l:=eJ (cg k) o b.1.2;obtain⟨D,K,E,n,r⟩:=bW a g;obtain⟨F,L,M,N,O⟩:=bW a h;have G:=(bf.1 (aG.1 a).2.1).2.2.1;have d:=au (xs:=k.F.R.K) (i:=p.toNat) ω;have t:=au (xs:=k.F.R.K) (i:=o.toNat) ω;have H:¬(af (cg k).F.R p).e=0:=g;have J:¬(af (cg k).F.R o).e=0:=h;rw[E]at n r;have w:=sJ (vU (cg k) p.toNat ⟨2,(nth k.F.R.K o.toNat).j⟩) (nth k.F.R.K p.toNat).j (MT _ _ b.1.2) ⟨n,by show _<((k.F.W.T.length:Nat):Int);omega,r⟩;rw[Pv]at w;unfold vV;cases e:refd k<;>rw[e]at c
 ·rw[CB (by simp)]
  refine fM 60 [(484,[2]),(486,[2,0])] [(4,274,[38,39,40,41,42,43,44,45,46,47,48,49,50,51,52,53,54,56,0,1,2,3,4,5,6,7,8,9,10,11,12,13,14,15,16,17,1000,1001,1002,1003,1004,1005,1006,18,19])] [(0,0),(0,0),(0,0)] Tryz.func577 rfl (λu q=>?_)
  repeat'(first|refine gB ?_|(conv=>whnf);first|refine CC ?_|refine CL (c) (.inl rfl) ?_|refine CK (j) ⟨CR (cg k),⟨rfl,rfl⟩,trivial⟩ ?_|refine CK (l) ⟨CR (cg k),⟨rfl,rfl⟩,trivial⟩ ?_|refine CO D (aa d) ?_|refine CO F (aa t) ?_|refine CG rfl (aa d) rfl ?_|refine CG rfl (aa t) rfl ?_|refine CQ rfl rfl (aa d) rfl (O1 rfl) rfl ?_|refine CL (w) (.inl rfl) ?_)
  refine CH rfl ?_ ?_
  ·rfl
  exact wB
 rw[CD rfl];refine fM 60 [(484,[2]),(486,[2,0])] [(4,274,[38,39,40,41,42,43,44,45,46,47,48,49,50,51,52,53,54,56,0,1,2,3,4,5,6,7,8,9,10,11,12,13,14,15,16,17,1000,1001,1002,1003,1004,1005,1006,18,19])] [(0,0),(0,0),(0,0)] Tryz.func577 rfl (λu q=>?_)
 repeat'(first|refine gB ?_|(conv=>whnf);first|refine CC ?_|refine CL (c) (.inl rfl) ?_|refine CK (j) ⟨CR (cg k),⟨rfl,rfl⟩,trivial⟩ ?_|refine CK (l) ⟨CR (cg k),⟨rfl,rfl⟩,trivial⟩ ?_)
 refine CH rfl ?_ ?_
 ·rfl
 exact wB
def zY(m:aY)(a:Int)(d:aY.sml m)(c:0<=a/\a<512):zzA 590 false [.val (some 3) (aY.enc .V m),.val none [I a]] (.tup [some 2,none]) (bm.enc .own (af m.R (a / 16))++[I (a % 16)]):=by
 have e:=dl m.R (a / 16) d.2;have b:a.tmod 16=a % 16:=eE c.1;refine fO 16 [] Tryz.func590 rfl ?_ (.inr ⟨trivial,trivial,trivial,trivial⟩)
 repeat'(first|refine gE ?_|(conv=>whnf);first|refine CC ?_|refine C9 (e) ?_|refine CN (qM c) ?_|refine CP (by decide) ?_|refine CT b ?_)
 rfl
def Ja(m:aY)(a v:Int)(o:dC m=true)(e:aY.sml m)(p:0<=a/\a<512)(q:0<=v/\v<=999)(r:(af m.R (a / 16)).e≠0->0<=(af m.R (a / 16)).j/\(af m.R (a / 16)).j<m.W.T.length/\(nth m.W.T (af m.R (a / 16)).j.toNat).length=16):zzA 588 false [.val (some 3) (aY.enc .V m),.val none [I a],.val none [I v]] (.tup [some 3,none]) (aY.enc .own (iQ m a v).1++[I (iQ m a v).2]):=by
 have c:=pA m e;rw[o]at c;have g:=sg m e;have h:=zY m a e p;have d:=aJ v 0 999;rw[O0 q]at d;have b:=aY.enc_fr (iQ m a v).1;unfold iQ at b |-;by_cases j:(af m.R (a / 16)).e=0
 ·rw[CD j]at b |-
  refine fO 47 [] Tryz.func588 rfl ?_ (.inr (aU b ⟨trivial,trivial⟩))
  repeat'(first|refine gB ?_|(conv=>whnf);first|refine CC ?_|refine C9 (c) ?_|refine C9 (g) ?_|refine C9 (h) ?_|refine C9 (d) ?_)
  rfl
 rw[CB j]at b |-;by_cases l:(af m.R (a / 16)).e=1
 ·rw[CD l]at b |-
  refine fO 47 [] Tryz.func588 rfl ?_ (.inr (aU b ⟨trivial,trivial⟩))
  repeat'(first|refine gB ?_|(conv=>whnf);first|refine CC ?_|refine C9 (c) ?_|refine C9 (g) ?_|refine C9 (h) ?_|refine C9 (d) ?_)
  rfl
 rw[CB l]at b |-;obtain⟨t,u,w⟩:=r j;have k:=au (xs:=m.W.T) (i:=(af m.R (a / 16)).j.toNat) ω;have n:=au (xs:=nth m.W.T (af m.R (a / 16)).j.toNat) (i:=(a % 16).toNat) ω;simp only at b |-;rw[Hk]at b |-;refine fO 47 [] Tryz.func588 rfl ?_ (.inr (aU b ⟨trivial,trivial⟩))
 repeat'(first|refine gB ?_|(conv=>whnf);first|refine CC ?_|refine C9 (c) ?_|refine C9 (g) ?_|refine C9 (h) ?_|refine C9 (d) ?_|refine CO t (aa k) ?_|refine CO ω (aa n) ?_|refine CG rfl (aa k) rfl ?_|refine Pu.two rfl rfl (aa k) rfl rfl rfl (aa n) rfl (W3 _) rfl ?_)
 rfl
end Go.Proofs.YtiopgblagimpmaaGreat.Ab
