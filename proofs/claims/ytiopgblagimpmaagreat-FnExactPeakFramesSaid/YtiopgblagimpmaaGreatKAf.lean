/- The library's Delete of one element, at rows of several cells. No condition. -/
import Derived.Test.YtiopgblagimpmaaGreatKAc
import Derived.Test.YtiopgblagimpmaaGreatKAe
import Derived.Deep.LoopGhost
import Derived.Deep.RegionLaw
import Derived.Lib.Walk
import Derived.Sort.WalkB12
import Derived.Lib.SliceRun
import Derived.Shelf.RegionOpenPlain
set_option linter.unusedVariables false
set_option linter.defProp false
set_option linter.unusedSimpArgs false
set_option linter.constructorNameAsVariable false
namespace Go.Proofs.YtiopgblagimpmaaGreat.Ab
open Go.RowKit
set_option maxRecDepth 20000
set_option maxHeartbeats 4000000
def oE(rows:List (List C)):C:=match rows with|[]=>.s .S []|_=>.s .own rows
variable{rows:List (List C)}
theorem pf(h:rows≠[]):oE rows=.s .own rows:=by cases rows with|nil=>exact absurd rfl h|cons=>rfl
variable{P:Program}
theorem tW(w:World)(t e k:Nat)(z:Value)(h:P.underlying t=some (.slice e))(i:∀w,(zeroValue e).run P w=.ok z w)(l:z.cells.size=k)(h1:∀v∈z.cells.toList,v.oneCell'=true)(b o n:Nat)(q:0<n)(p:0<k)(r:∀j,j<n*k->(w.cell? ⟨b,o+j,none⟩).isSome=true)(u:∀j,j<n*k->w.frozen? ⟨b,o+j,none⟩ = false) :
  ∃g:List Value,g.length=n*k/\(∀v∈g,v.oneCell'=true)/\∀(ty:TypeId)(c:Nat),(Builtin.clear_ #[t] ty #[.slice (some ⟨b,o,none⟩) n c]).run P w=.ok (.tuple #[]) (w.setCells b o g):=by
 subst l;have d:(Builtin.zeroCells z.cells n).toList.length=n*z.cells.size:=by grind [Go.Builtin.zeroCells]
 have a:∀v∈(Builtin.zeroCells z.cells n).toList,v.oneCell'=true:=by grind [Nat.mod_lt,Go.Builtin.zeroCells]
 refine⟨_,d,a,λty c=>?_⟩;have f:=run_storeCells_cells (P:=P) b o (Builtin.zeroCells z.cells n).toList 0 w ψ ψ a;simp only[Nat.add_zero]at f;obtain⟨m,rfl⟩ : ∃m,n=m+1:=⟨n - 1,ω⟩
 simp[Builtin.clear_,run_underlying h,i,f]
structure kC(w w':World)(g k n i:Nat):Prop where
 keep:bG (λb o=>b=g/\o<n*k) w w'
 lo:∀q,q<i*k->cel w' g q=cel w g q
 mid:∀q,i*k<=q->q<(n - 1)*k->cel w' g q=cel w g (q+k)
 hi:∀q,(n - 1)*k<=q->q<n*k->∃z,cel w' g q=some z/\z.oneCell'=true
 fro:∀b q,fro w' b q=fro w b q
variable{w:World}
theorem bG.up{M a:af}{c:World}(h:bG M w c)(d:∀b o,M b o->a b o):bG a w c:=(Cb a w).trans h ψ
def y6(w:World):bG NO w w.drew:=⟨rfl,rfl,rfl,V3 _,λ_ _ _=>rfl,λ_ _ _ _=>rfl,λ_ _ _ _=>rfl⟩
variable{news:List Value}{n i:Nat}
theorem MJ{g k:Nat}{d:List Value}(l:i<n)(e:∀q,q<n*k->∃z,cel w g q=some z)(H:news.length=(n - (i+1))*k)(c:∀t u,news[t]? = some u->cel w g ((i+1)*k+t)=some u)(J:d.length=k)(p:∀v∈d,v.oneCell'=true) :
  kC w ((w.drew.setCells g (i*k) news).setCells g ((n - 1)*k) d) g k n i:=by
 have K:i*k+(n - (i+1))*k=(n - 1)*k:=by rw[<-Nat.add_mul];congr 1;omega
 have L:(n - 1)*k+k=n*k:=by rw[show(n - 1)*k+k=(n - 1+1)*k by rw[Nat.add_mul,Nat.one_mul]];congr 1;omega
 have M:(i+1)*k=i*k+k:=ψ
 have r:∀b q,cel w.drew b q=cel w b q:=λ_ _=>rfl
 have a:∀j,j<news.length->∃z,cel w.drew g (i*k+j)=some z:=λj y=>by rw[r];exact e _ ω
 have A:∀q,q<n*k->∃z,cel (w.drew.setCells g (i*k) news) g q=some z:=λq B=>by
  by_cases h:i*k<=q/\q<i*k+news.length
  ·have:=br a (X2 (show q - i*k<news.length by omega))
   grind
  grind [bf]
 refine⟨?_,λq B=>?_,λq C D=>?_,λq C D=>?_,λb q=>?_⟩
 ·have E:=eA (g:=g) (X:=λb o=>b=g/\o<n*k) news (i*k) w.drew ω
  have F:=eA (g:=g) (X:=λb o=>b=g/\o<n*k) d ((n - 1)*k) (w.drew.setCells g (i*k) news) ω;exact((y6 w).up λ_ _ h=>h.elim).trans (E.trans F λ_ _ h=>.inr h) λ_ _ h=>.inr h
 ·grind [bf]
 ·rw[bf ω]
  obtain⟨u,f⟩ : ∃u,news[q - i*k]? = some u:=⟨_,X2 ω⟩
  have G:=br a f;have N:=c _ u f
  grind
 ·obtain⟨u,f⟩ : ∃u,d[q - (n - 1)*k]? = some u:=(ψ)
  have G:=br (w:=w.drew.setCells g (i*k) news) (o:=(n - 1)*k) (vs:=d) (λj y=>A _ ω) f
  grind
 rw[bP,bP];rfl
def Ty(rows:List (List C)):Prop:=∀r∈rows,∀c∈r,∃z,c=.v z
def uU(P:Program)(f k:Nat):Prop:=JA P f/\∀(w:World)(g n a i:Nat)(news:List Value),i<n->n<=a->news.length=(n - (i+1))*k->(∀t u,news[t]? = some u->cel w g ((i+1)*k+t)=some u)->(∀u∈news,u.oneCell'=true)->
 (∀q,q<n*k->(w.cell? ⟨g,q,none⟩).isSome=true/\w.frozen? ⟨g,q,none⟩ = false)->
 Calls P f #[.slice (some ⟨g,0,none⟩) n a,.int .i64 i,.int .i64 ((i+1:Nat):Int)] w λe c=>e=.returned (.slice (some ⟨g,0,none⟩) (n - 1) a)/\∃b:List Value,b.length=k/\(∀v∈b,v.oneCell'=true)/\c=(w.drew.setCells g (i*k) news).setCells g ((n - 1)*k) b
variable{f:Nat}
theorem zx{k:Nat}(hf:uU P f k)(hi:i<rows.length)(hk:∀r∈rows,r.length=k)(T:Qp rows) :
  aW P f false [.mut none [.s .own rows],.val none [I (i:Nat)],.val none [I ((i+1:Nat):Int)]] [.mut none [.x],.val none [I (i:Nat)],.val none [I ((i+1:Nat):Int)]] .one [oE (dele rows i)]:=by
 refine⟨hf.1,λw S V vs hS hV hVV U=>?_⟩
 match vs,U with
 | [v,v1,v2],⟨U,W,X,_⟩=>
  have l:=(bC.rep1 (show bC w S (V 0) none [C.s .own rows] v from U)).fresh ⟨.inl (λe=>by cases e),T⟩;have e1:v1=.int .i64 (i:Nat):=by
   have:=bC.rep1 (show bC w S NO none [C.v (.int .i64 (i:Nat))] v1 from W);cases this;rfl
  have e2:v2=.int .i64 ((i+1:Nat):Int):=by
   have:=bC.rep1 (show bC w S NO none [C.v (.int .i64 ((i+1:Nat):Int))] v2 from X);cases this;rfl
  subst e1 e2;have H:(dele rows i).length=rows.length - 1:=by grind [dele]
  generalize J:C.s .own rows=cc at l;cases l with
  | nil _ o a ho=>grind
  | own _ o g d n j Y u f' ho hn B p hpos hF hu hff hd hc=>
   cases J;have Z:d=k:=by rw[<-B _ (List.getElem_mem hi),<-hk _ (List.getElem_mem hi)]
   subst Z;have hnk:n*d<=j*d:=W7 _ p;have hone:∀q,q<j*d->∃z,cel w g q=some z/\z.oneCell'=true:=ψ
   have e3:(i+1)*d+(n - (i+1))*d=n*d:=by rw[<-Nat.add_mul];congr 1;omega
   obtain⟨news,K,L,hn1⟩ : ∃news:List Value,news.length=(n - (i+1))*d/\(∀t u,news[t]? = some u->cel w g ((i+1)*d+t)=some u)/\∀u∈news,u.oneCell'=true:=by
    refine⟨(List.range ((n - (i+1))*d)).map λt=>(cel w g ((i+1)*d+t)).getD undef,by simp,λt y ht=>?_,λy hy=>?_⟩
    all_goals grind
   refine(hf.2 w g n j i news ω p K L hn1 (λq D=>?_)).mono λe A ⟨he,zs,z1,z2,hw'⟩=>?_
   ·grind
   have R:=MJ (w:=w) (by omega:i<n) ψ K L z1 z2;rw[<-hw']at R;have hgV:∀q,q<j*d->V 0 g q:=ψ
   have E:bG (λb o=>∃i,V i b o) w A:=R.keep.up ψ;have e4:(n - 1)*d+d=n*d:=by rw[show(n - 1)*d+d=(n - 1+1)*d by rw[Nat.add_mul,Nat.one_mul]];congr 1;omega
   have F:∀q,q<j*d->∃z,cel A g q=some z/\z.oneCell'=true:=λq D=>by
    by_cases h1:q<i*d
    ·grind [kC.lo]
    by_cases h2:q<(n - 1)*d
    ·rw[R.mid q ω h2];grind
    grind [kC.hi,bG.cel,kC.keep]
   have M:cC A NO (V 0) [oE (dele rows i)] (λ_=>.slice (some ⟨g,0,none⟩) (n - 1) j):=by
    refine row1 ?_;by_cases hz:dele rows i=[]
    ·rw[hz]
     have hn0:n - 1=0:=ψ
     rw[hn0];exact .S _ g 0 d 0 j [] (λ_=>undef) rfl ψ (X0 _) ω ψ
    rw[pf hz];have G:0<n - 1:=ψ
    obtain⟨σ,hσ⟩ : ∃σ:Nat->Nat,∀q,σ q=if q<i*d then q else q+d:=⟨_,λ_=>rfl⟩
    have s1:∀q,q<(n - 1)*d->σ q<n*d:=ψ
    have s2:∀q q',q≠q'->σ q≠σ q':=ψ
    have s3:∀q,q<(n - 1)*d->cel A g q=cel w g (σ q):=λq D=>by grind [kC.lo,kC.mid]
    refine .own _ .own g d (n - 1) j _ (λq=>(cel A g q).getD undef) (λq=>f' (σ q)) trivial (by rw[H];omega) (λr hr=>B r ((fA ..).subset hr)) ω G (λq D=>⟨hgV q D,F q D,(R.fro g q).trans (hF q D).2.2⟩) (λq D=>?_) ψ ψ (λa b r c N hb=>?_)
    ·grind
    have hbk:b<d:=by grind [fA]
    have hal:=(Z2.1 N).1;rw[H]at hal;have hflat:a*d+b<(n - 1)*d:=dQ ω hbk;obtain⟨O,h5,h6⟩ : ∃O,rows[O]? = some r/\σ (a*d+b)=O*d+b:=by
     rw[hσ];unfold dele at N;by_cases h1:a<i
     ·grind [C2,dQ]
     rw[Z4 ψ,C2,List.getElem?_drop]at N;rw[show i+1+(a - min i rows.length)=a+1 by omega]at N;have:i*d<=a*d:=W7 _ ω;refine⟨a+1,N,?_⟩;rw[CB ω,Nat.add_mul,Nat.one_mul];omega
    have h7:=hc O b r c h5 hb;have Q:=sD hn B h5 hb;have hfl:=dQ Q.1 Q.2;have h8:(cel A g (a*d+b)).getD undef=u (O*d+b):=ψ
    show dN A NO (f' (σ (a*d+b))) c ((cel A g (a*d+b)).getD undef);rw[h8,h6];refine h7.keep (λ_ _ h=>h.elim) λb' o' hb'=>?_
    grind [bG.cel,kC.keep,kC.fro]
   exact⟨_,he,E,V 0,λ_=>NO,NO,ψ,λ_ _ _ h=>h.elim,λ_ _ h=>h.elim,λ_ _ _ _ _ h=>h.elim,λ_ _ _ _ h=>h.elim,λ_ _ _ h=>h.elim,λ_ _ _ h=>h.elim,rfl,M,⟨⟨rfl,λ_=>.slice (some ⟨g,0,none⟩) n j,rfl,row1 (.x _ _ rfl)⟩,trivial,trivial,trivial⟩⟩
  | _=>cases J
set_option maxRecDepth 100000
theorem sZ{g cap k:Nat}(d:news.length=(n - (i+1))*k)(a:n<=cap)(b:i<n)(h:∀t u,news[t]? = some u->cel w g ((i+1)*k+t)=some u):∃A:Addr,(if cap=i+1 then some (⟨g,0,none⟩ : Addr) else some ⟨g,(i+1)*k,none⟩)=some A/\∀t u,news[t]? = some u->w.drew.cell? (A.add t)=some u:=by
 by_cases e:cap=i+1
 ·simp_all
 refine⟨⟨g,(i+1)*k,none⟩,by simp[e],λt u c=>?_⟩;rw[Addr.add_lit];exact h t u c
def NP:∀w,(zeroValue 74).run Tryz.prog w=.ok (.agg #[.int .i64 0,.int .i64 0,.int .i64 0,.int .i64 0]) w:=λ_=>by kernel_rfl
theorem HW:uU Tryz.prog 99 4:=by
 refine⟨⟨_,Tryz.func99,by kernel_rfl,by kernel_rfl⟩,λw g n c i news p r l y B b=>?_⟩;obtain⟨A,U,a⟩:=sZ l r p y;have a:Hid (∀t u,news[t]? = some u->w.drew.cell? (A.add t)=some u):=a;have R:Hid (news.length=(n - (i+1))*4):=l;have V:Hid (∀u∈news,u.oneCell'=true):=B;have W:Hid (∀t,t<news.length->(w.drew.cell? ⟨g,0+i*4+t,none⟩).isSome=true/\w.drew.frozen? ⟨g,0+i*4+t,none⟩ = false):=λt ht=>by
  rw[O7];exact b (i*4+t) ω
 obtain⟨o,d⟩ : ∃o,o=w.drew.setCells g (0+i*4) news:=⟨_,rfl⟩
 have X:∀q,q<n*4->(o.cell? ⟨g,q,none⟩).isSome=true/\o.frozen? ⟨g,q,none⟩ = false:=λq S=>by
  have C:∀j,j<news.length->∃z,cel w.drew g (0+i*4+j)=some z:=λj Y=>by
   have:=(b (0+i*4+j) ω).1;exact Option.isSome_iff_exists.1 this
  refine⟨?_,by rw[d];exact(Z0 Prod.fst (bP g _ news w.drew g q)).trans (b q S).2⟩;rw[d];by_cases h:0+i*4<=q/\q<0+i*4+news.length
  ·have:=br C (X2 (show q - (0+i*4)<news.length by omega))
   grind
  show(cel _ g q).isSome=true;rw[bf (λx=>h x.2)];exact(b q S).1
 obtain⟨K,D,E,F⟩:=tW (P:=Tryz.prog) o 39 74 4 (.agg #[.int .i64 0,.int .i64 0,.int .i64 0,.int .i64 0]) Tryz.underlying39 NP rfl (by intro v T;simp[Value.cells]at T;subst T;rfl) g ((i+(n - (i+1)))*4) (n - (i+(n - (i+1)))) ω (by decide) ψ ψ;have G:Hid (K.length=(n - (i+(n - (i+1))))*4):=D;have H:Hid (∀v∈K,v.oneCell'=true):=E;have Z:Hid (o=w.drew.setCells g (0+i*4) news):=d;have hic:i<=c:=ω
 have L:i+1<=c:=ω
 have M:¬i=i+1:=ω
 have N:i+1<=n:=p;have k:n - 1=i+(n - (i+1)):=ω
 clear d X b y B l D E;rw[k];generalize Y:i+1=j at U a R F G L M N k |-;obtain⟨J,O,Q⟩ : ∃J,Tryz.prog.info? 74=some J/\J.size=4:=by
  have h:=(rp 74 _ rfl).1;cases e : Tryz.prog.info? 74 with
  | none=>grind
  | some x=>rw[e]at h;simp only[O5,C1,Prod.mk.injEq]at h;exact⟨x,rfl,h.2.1⟩
 have mixed : Tryz.prog.follows .mixedOrders=true:=by kernel_rfl
 go_enter Tryz.func99,Tryz.ntmps99
 go_wp2_with fail
 go_region_law_o (refine step_append_room rfl (.tmp 22) (.tmp 25) 39 rfl 74 J 4 Tryz.underlying39 O Q g 0 i c (by simp[Act.eval,Act.put]) A (n - j) (c - j) news (by simp[Act.eval,Act.put]) R.out a.out V.out ω W.out ?_;rw[<-Z.out])
 go_wp2
 go_ret
 refine⟨rfl,K,by grind [Go.RowKit.Hid.out],H.out,?_⟩
 grind [Go.RowKit.Hid.out]
theorem Ao(xs:List bi)(i:Nat)(a:i<xs.length):zzB 99 false [.mut none [.s .own (xs.map (bi.enc .own))],.val none [I (i:Nat)],.val none [I ((i+1:Nat):Int)]] [.mut none [.x],.val none [I (i:Nat)],.val none [I ((i+1:Nat):Int)]] .one [oE ((dele xs i).map (bi.enc .own))]:=by
 have h:=zx HW (rows:=xs.map (bi.enc .own)) (i:=i) ψ (aK λ_=>rfl) (bj _ _ λx _=>bi.enc_fr x)
 grind [O4,V4,dele]
def Jv:∀w,(zeroValue 175).run Tryz.prog w=.ok (.agg #[.int .i64 0,.int .i64 0,.int .i64 0]) w:=λ_=>by kernel_rfl
theorem E4:uU Tryz.prog 102 3:=by
 refine⟨⟨_,Tryz.func102,by kernel_rfl,by kernel_rfl⟩,λw g n c i news p r l y B b=>?_⟩;obtain⟨A,U,a⟩:=sZ l r p y;have a:Hid (∀t u,news[t]? = some u->w.drew.cell? (A.add t)=some u):=a;have R:Hid (news.length=(n - (i+1))*3):=l;have V:Hid (∀u∈news,u.oneCell'=true):=B;have W:Hid (∀t,t<news.length->(w.drew.cell? ⟨g,0+i*3+t,none⟩).isSome=true/\w.drew.frozen? ⟨g,0+i*3+t,none⟩ = false):=λt ht=>by
  rw[O7];exact b (i*3+t) ω
 obtain⟨o,d⟩ : ∃o,o=w.drew.setCells g (0+i*3) news:=⟨_,rfl⟩
 have X:∀q,q<n*3->(o.cell? ⟨g,q,none⟩).isSome=true/\o.frozen? ⟨g,q,none⟩ = false:=λq S=>by
  have C:∀j,j<news.length->∃z,cel w.drew g (0+i*3+j)=some z:=λj Y=>by
   have:=(b (0+i*3+j) ω).1;exact Option.isSome_iff_exists.1 this
  refine⟨?_,by rw[d];exact(Z0 Prod.fst (bP g _ news w.drew g q)).trans (b q S).2⟩;rw[d];by_cases h:0+i*3<=q/\q<0+i*3+news.length
  ·have:=br C (X2 (show q - (0+i*3)<news.length by omega))
   grind
  show(cel _ g q).isSome=true;rw[bf (λx=>h x.2)];exact(b q S).1
 obtain⟨K,D,E,F⟩:=tW (P:=Tryz.prog) o 38 175 3 (.agg #[.int .i64 0,.int .i64 0,.int .i64 0]) Tryz.underlying38 Jv rfl (by intro v T;simp[Value.cells]at T;subst T;rfl) g ((i+(n - (i+1)))*3) (n - (i+(n - (i+1)))) ω (by decide) ψ ψ;have G:Hid (K.length=(n - (i+(n - (i+1))))*3):=D;have H:Hid (∀v∈K,v.oneCell'=true):=E;have Z:Hid (o=w.drew.setCells g (0+i*3) news):=d;have hic:i<=c:=ω
 have L:i+1<=c:=ω
 have M:¬i=i+1:=ω
 have N:i+1<=n:=p;have k:n - 1=i+(n - (i+1)):=ω
 clear d X b y B l D E;rw[k];generalize Y:i+1=j at U a R F G L M N k |-;obtain⟨J,O,Q⟩ : ∃J,Tryz.prog.info? 175=some J/\J.size=3:=by
  have h:=(rp 175 _ rfl).1;cases e : Tryz.prog.info? 175 with
  | none=>grind
  | some x=>rw[e]at h;simp only[O5,C1,Prod.mk.injEq]at h;exact⟨x,rfl,h.2.1⟩
 have mixed : Tryz.prog.follows .mixedOrders=true:=by kernel_rfl
 go_enter Tryz.func102,Tryz.ntmps102
 go_wp2_with fail
 go_region_law_o (refine step_append_room rfl (.tmp 22) (.tmp 25) 38 rfl 175 J 3 Tryz.underlying38 O Q g 0 i c (by simp[Act.eval,Act.put]) A (n - j) (c - j) news (by simp[Act.eval,Act.put]) R.out a.out V.out ω W.out ?_;rw[<-Z.out])
 go_wp2
 go_ret
 refine⟨rfl,K,by grind [Go.RowKit.Hid.out],H.out,?_⟩
 grind [Go.RowKit.Hid.out]
theorem tg(xs:List aD)(i:Nat)(a:i<xs.length):zzB 102 false [.mut none [.s .own (xs.map (aD.enc .own))],.val none [I (i:Nat)],.val none [I ((i+1:Nat):Int)]] [.mut none [.x],.val none [I (i:Nat)],.val none [I ((i+1:Nat):Int)]] .one [oE ((dele xs i).map (aD.enc .own))]:=by
 have h:=zx E4 (rows:=xs.map (aD.enc .own)) (i:=i) ψ (aK λ_=>rfl) (bj _ _ λx _=>aD.enc_fr x)
 grind [O4,V4,dele]
def MM:∀w,(zeroValue 267).run Tryz.prog w=.ok (.agg #[.int .i64 0,.int .i64 0,.int .i64 0]) w:=λ_=>by kernel_rfl
theorem F4:uU Tryz.prog 492 3:=by
 refine⟨⟨_,Tryz.func492,by kernel_rfl,by kernel_rfl⟩,λw g n c i news p r l y B b=>?_⟩;obtain⟨A,U,a⟩:=sZ l r p y;have a:Hid (∀t u,news[t]? = some u->w.drew.cell? (A.add t)=some u):=a;have R:Hid (news.length=(n - (i+1))*3):=l;have V:Hid (∀u∈news,u.oneCell'=true):=B;have W:Hid (∀t,t<news.length->(w.drew.cell? ⟨g,0+i*3+t,none⟩).isSome=true/\w.drew.frozen? ⟨g,0+i*3+t,none⟩ = false):=λt ht=>by
  rw[O7];exact b (i*3+t) ω
 obtain⟨o,d⟩ : ∃o,o=w.drew.setCells g (0+i*3) news:=⟨_,rfl⟩
 have X:∀q,q<n*3->(o.cell? ⟨g,q,none⟩).isSome=true/\o.frozen? ⟨g,q,none⟩ = false:=λq S=>by
  have C:∀j,j<news.length->∃z,cel w.drew g (0+i*3+j)=some z:=λj Y=>by
   have:=(b (0+i*3+j) ω).1;exact Option.isSome_iff_exists.1 this
  refine⟨?_,by rw[d];exact(Z0 Prod.fst (bP g _ news w.drew g q)).trans (b q S).2⟩;rw[d];by_cases h:0+i*3<=q/\q<0+i*3+news.length
  ·have:=br C (X2 (show q - (0+i*3)<news.length by omega))
   grind
  show(cel _ g q).isSome=true;rw[bf (λx=>h x.2)];exact(b q S).1
 obtain⟨K,D,E,F⟩:=tW (P:=Tryz.prog) o 37 267 3 (.agg #[.int .i64 0,.int .i64 0,.int .i64 0]) Tryz.underlying37 MM rfl (by intro v T;simp[Value.cells]at T;subst T;rfl) g ((i+(n - (i+1)))*3) (n - (i+(n - (i+1)))) ω (by decide) ψ ψ;have G:Hid (K.length=(n - (i+(n - (i+1))))*3):=D;have H:Hid (∀v∈K,v.oneCell'=true):=E;have Z:Hid (o=w.drew.setCells g (0+i*3) news):=d;have hic:i<=c:=ω
 have L:i+1<=c:=ω
 have M:¬i=i+1:=ω
 have N:i+1<=n:=p;have k:n - 1=i+(n - (i+1)):=ω
 clear d X b y B l D E;rw[k];generalize Y:i+1=j at U a R F G L M N k |-;obtain⟨J,O,Q⟩ : ∃J,Tryz.prog.info? 267=some J/\J.size=3:=by
  have h:=(rp 267 _ rfl).1;cases e : Tryz.prog.info? 267 with
  | none=>grind
  | some x=>rw[e]at h;simp only[O5,C1,Prod.mk.injEq]at h;exact⟨x,rfl,h.2.1⟩
 have mixed : Tryz.prog.follows .mixedOrders=true:=by kernel_rfl
 go_enter Tryz.func492,Tryz.ntmps492
 go_wp2_with fail
 go_region_law_o (refine step_append_room rfl (.tmp 22) (.tmp 25) 37 rfl 267 J 3 Tryz.underlying37 O Q g 0 i c (by simp[Act.eval,Act.put]) A (n - j) (c - j) news (by simp[Act.eval,Act.put]) R.out a.out V.out ω W.out ?_;rw[<-Z.out])
 go_wp2
 go_ret
 refine⟨rfl,K,by grind [Go.RowKit.Hid.out],H.out,?_⟩
 grind [Go.RowKit.Hid.out]
theorem G7(xs:List aA)(i:Nat)(a:i<xs.length):zzB 492 false [.mut none [.s .own (xs.map (aA.enc .own))],.val none [I (i:Nat)],.val none [I ((i+1:Nat):Int)]] [.mut none [.x],.val none [I (i:Nat)],.val none [I ((i+1:Nat):Int)]] .one [oE ((dele xs i).map (aA.enc .own))]:=by
 have h:=zx F4 (rows:=xs.map (aA.enc .own)) (i:=i) ψ (aK λ_=>rfl) (bj _ _ λx _=>aA.enc_fr x)
 grind [O4,V4,dele]
theorem Bl(c:aF)(k:Nat)(a:Int)(g:bz c=true)(y:k<=3):zzA 257 false [.val (some 1) (aF.enc .S c),.val none [I (k:Nat)],.val none [I a]] (.tup [some 1,none]) (yd c k a):=by
 obtain⟨B,q⟩:=dK g;have r:aF.sml c:=⟨ω,λl u=>by have:=q l u;show l.length<=1048576;omega⟩
 have h:=sP c k r;rw[g,O0 ω]at h;have t:=gT c r;have j:=Hq g k a;have n:=oe (lY c k a) j;have b:=lJ (c:=c) (k:=k) ω;have w:=q _ (au (xs:=c.X) (i:=k) ω);have o:=CY (lY c k a);rw[yX]at o;have d:=Ha c k a;unfold yd at d |-;cases e:bz (lY c k a)<;>rw[e]at n
 ·have p:cput c k a=none:=by grind [cput]
  rw[p]at d |-;refine fO 35 [(4,267,[17,18,19,20,21,22,23,24,25,26,28,0,1,2,3,4,5,6,7,8,9,10,1000,1001,1002,11,12])] Tryz.func257 rfl ?_ (.inr d)
  repeat'(first|refine gP ?_|refine CA (cy b) ?_|refine CE rfl (cy b) rfl ?_|refine Lq.one rfl rfl (aa b) rfl (O1 rfl) rfl rfl ?_|refine CM rfl rfl (cy b) rfl (O1 rfl) (show [C.s dA.own ((c.X.map (aG .own)).set k (aG .own (nth c.X k++[a])))]=_ from by simp only[List.set_cons_zero,List.set_set,C3];rfl) ?_|refine CV (aK λ_=>rfl) rfl (by simp;omega) (by decide) (dR _ _ _) ?_|refine CG (n) ⟨⟨rfl,o⟩,trivial⟩ ?_)
  rfl
 have p:cput c k a=some (lY c k a):=by grind [cput]
 rw[p]at d |-;rw[show(some (lY c k a)).getD c=lY c k a from rfl,yX]at d |-;refine fO 35 [(4,267,[17,18,19,20,21,22,23,24,25,26,28,0,1,2,3,4,5,6,7,8,9,10,1000,1001,1002,11,12])] Tryz.func257 rfl ?_ (.inr d)
 repeat'(first|refine gP ?_|refine CA (cy b) ?_|refine CE rfl (cy b) rfl ?_|refine Lq.one rfl rfl (aa b) rfl (O1 rfl) rfl rfl ?_|refine CM rfl rfl (cy b) rfl (O1 rfl) (show [C.s dA.own ((c.X.map (aG .own)).set k (aG .own (nth c.X k++[a])))]=_ from by simp only[List.set_cons_zero,List.set_set,C3];rfl) ?_|refine CV (aK λ_=>rfl) rfl (by simp;omega) (by decide) (dR _ _ _) ?_|refine CG (n) ⟨⟨rfl,o⟩,trivial⟩ ?_)
 rfl
theorem JX(c:Nat)(W:World):Calls Tryz.prog 256 #[.slice none 0 c] W λe g=>∃B q h,e=.returned (.slice B 0 0)/\g=Sort.grow (W.drewN q) h:=by
 have q22:∀(w:World)(a:Option Addr)(n c b d:Nat),(binOp .eql 44 (.slice a n c) (.slice none b d)).run Tryz.prog w=.ok (.bool a.isNone) w:=λw a n c b d=>Lib.run_eql_slice_nil w _ _ a n c b d Tryz.underlying44
 go_enter Tryz.func256,Tryz.ntmps256
 go_wp2
 go_ret
 exact⟨none,0,#[],rfl,by simp[Sort.grow,World.drewN]⟩
theorem GH(a:Addr)(c:Nat)(W:World):Calls Tryz.prog 256 #[.slice (some a) 0 c] W λe g=>∃B q h,e=.returned (.slice B 0 0)/\g=Sort.grow (W.drewN q) h:=by
 have q22:∀(w:World)(a:Option Addr)(n c b d:Nat),(binOp .eql 44 (.slice a n c) (.slice none b d)).run Tryz.prog w=.ok (.bool a.isNone) w:=λw a n c b d=>Lib.run_eql_slice_nil w _ _ a n c b d Tryz.underlying44
 go_enter Tryz.func256,Tryz.ntmps256
 go_wp2
 go_ret
 exact⟨some ⟨W.heap.size,0,none⟩,0,#[.cells #[] 190],rfl,by rw[Sort.alloc_eq_grow];rfl⟩
theorem l9(xs:List aQ)(o:xs.length<=1048576):zzA 256 false [.val none (cr .S xs)] .one (cr .own xs):=by
 by_cases c:xs=[]
 ·subst c
  refine⟨⟨_,Tryz.func256,by kernel_rfl,by kernel_rfl⟩,λw S p t d=>?_⟩
  match p,d with
  | [v],⟨d,_⟩=>
   have b:=bC.rep1 (show bC w S NO none [C.s .S []] v from d);obtain⟨l,g,rfl⟩:=b.slice;have r:Calls Tryz.prog 256 #[.slice l 0 g] w λe n=>∃B q i,e=.returned (.slice B 0 0)/\n=Sort.grow (w.drewN q) i:=by
    cases l with
    | none=>grind [JX]
    | some a=>grind [GH]
   refine r.mono λe n ⟨B,q,i,c,j⟩=>?_
   subst j;exact⟨.slice B 0 0,c,xT w q i,NO,NO,λ_ _ h=>h.elim,λ_ _ h=>h.elim,λ_ _ h=>h.elim,rfl,row1 (.nil _ .own B trivial)⟩
 have k:xs.map (aQ.enc .S)≠[]:=by simp_all
 refine fO 8 [] Tryz.func256 rfl ?_ (.inr (m0 _))
 repeat'(first|refine gP ?_|refine Nn.mk k ?_|refine CP (λ_=>rfl) (λ_=>rfl) o (by decide) ?_)
 rfl
theorem Ez(q:bt)(a:aQ)(u:q.q.length<=4096)(g:fQ q=true)(w:0<=a.Z/\a.Z<=3/\0<=a.Addr/\0<=a.b2)(B:∀y∈q.q,y.b2<=a.b2)(C:∀y∈q.q,y.Addr≠a.Addr) :
  zzA 108 false [.val (some 2) (bt.enc .S q),.val (some 3) (aQ.enc .S a)] (.tup [some 2,none]) (PS q a):=by
 have b:bt.sml q:=⟨ω,λ_ _=>trivial⟩
 have l:=mF q b;have h:=qr q b;rw[g]at h;have i:=tH q.q a ω;have D:q.q.length=0\/(nth q.q (q.q.length - 1)).b2<=a.b2:=by grind [au]
 have d:mC q.q a=true:=by grind [mC,eN]
 rw[d]at i;have n:=(iz.1 g).2.2.2;have e:=KF q a;have c:=zc q.b3 (q.q++[a]);simp only[X3,List.length_singleton]at c;have E:(q.q++[a]).length=q.q.length+1:=by simp
 refine fO 51 [(6,7,[28,29,30,31,32,33,34])] Tryz.func108 rfl ?_ (.inr e)
 repeat'(first|refine gP ?_|refine CV (aK λ_=>rfl) rfl (by simp;omega) (by decide) (dR (aQ.enc .own) q.q a) ?_)
 refine Lp.fz 6 (ι:=Nat) (λk=>[(2,.G .box (bt.enc .S q)),(4,.G .box [I 0,.z]),(6,.G .box (bt.enc .S ⟨q.b3,q.q++[a]⟩)),(7,.G .one [I (k:Nat)])]) (λk=>k<=iY q.b3 (q.q++[a])) (λk=>iY q.b3 (q.q++[a]) - k) 0 ?_ (X0 _) λk F=>?_
 ·(repeat'(first|exact trivial|rfl|exact CJ rfl (show LZ (dB (bt.enc .own ⟨q.b3,q.q++[a]⟩)) (bt.enc .S ⟨q.b3,q.q++[a]⟩) by rw[bt.enc_fz];exact kF _)|refine CJ ?_ ?_))
 have o:((q.q++[a]).drop k).length<=5000:=ψ
 have p:((q.q++[a]).take k).length<=5000:=ψ
 have j:=qe ((q.q++[a]).drop k) ⟨ω,λ_ _=>trivial⟩;by_cases r:k<iY q.b3 (q.q++[a])
 ·have t:q.b3<quarCells ((q.q++[a]).drop k) ((q.q++[a]).drop k).length:=uY r
  repeat'(first|refine gE ?_|refine CW k rfl (by rw[I1];show k<=(q.q++[a]).length;omega) (aK λ_=>rfl) V4 ?_)
  (refine CD (k+1) ω ω ?_;(exact wB))
 obtain rfl:k=iY q.b3 (q.q++[a]):=ω
 have t:quarCells ((q.q++[a]).drop (iY q.b3 (q.q++[a]))) ((q.q++[a]).drop (iY q.b3 (q.q++[a]))).length<=q.b3:=xz n.1 _
 repeat'(first|refine gE ?_|refine CW (iY q.b3 (q.q++[a])) rfl (by rw[I1];show iY q.b3 (q.q++[a])<=(q.q++[a]).length;omega) (aK λ_=>rfl) V4 ?_|refine CS (iY q.b3 (q.q++[a])) rfl (by rw[I1];show iY q.b3 (q.q++[a])<=(q.q++[a]).length;omega) (aK λ_=>rfl) O4 ?_|refine C8 (l9 ((q.q++[a]).take (iY q.b3 (q.q++[a]))) ω) ?_|refine C8 (l9 ((q.q++[a]).drop (iY q.b3 (q.q++[a]))) ω) ?_)
 rfl
def BK(h:ac)(p:Int):zzA 187 false [.val (some 24) (ac.enc .S h),.val none [I p]] .one [B (fY h p)]:=by
 cases e:h.a2
 all_goals
  have b:ac.enc .S h=(ac.enc .S h).set 18 (B h.a2):=rfl;rw[e]at b;rw[b];refine fO 23 [] Tryz.func187 rfl ?_
  repeat'(first|refine gP ?_|with_reducible (first|refine Bf.D (λa=>?_) (λa=>?_)|refine Bf.E (λa=>?_) (λa=>?_)|refine Bf.N (λa=>?_) (λa=>?_)))
  all_goals exact Z0 (λz=>[B z]) ((by unfold fY;rw[e];first|(simp[*];done)|(simp[*];rw[v5];simp;try omega)|(rw[v5];simp[*];try omega)))
def tY(h:ac):zzA 71 false [.val (some 24) (ac.enc .S h)] .one [I (eO h:Nat)]:=by
 refine fO 9 [] Tryz.func71 rfl ?_
 refine ZP ?_
 rfl
theorem eQ(c:C):Ry c c:=(kF [c]).1
def cE(h:ac)(s l o:C):List C:=[.s .own (h.H.F.V.W.map (aG .own)),.s .own (h.H.F.V.y.map (rB .own)),.s .own (h.H.F.Q.O.map (bo.enc .own)),I h.H.Calls,.s .own (h.H.d.map (rI .own)),.s .own (h.a.map (aE.enc .own)),s,l,o,.s .own (h.T.map (aF.enc .own)),.s .own (h.j.U.map (bJ .own)),.s .own (h.j.g.map (aG .own)),I h.a3.b3,.s .own (h.a3.q.map (aQ.enc .own)),I h.b5,I h.a8,I h.b7,I h.o,B h.a2,I h.a5.b.a7,I h.a5.b.a9,.s .own (h.a5.b.W.map (rI .own)),I h.a5.b1,I h.a5.o]
def oS(h:ac):C:=oE (h.K.map (aA.enc .own))
def oL(h:ac):C:=oE (h.J.map (aD.enc .own))
def oO(h:ac):C:=oE (h.M.map (bi.enc .own))
def cY(h:ac):List C:=cE h (oS h) (oL h) (oO h)
def GA(rows:List (List C)):fz (oE rows)=fz (.s .own rows):=by cases rows<;>rfl
def pU : oE rows=.s .own rows\/(rows=[]/\oE rows=.s .S []):=by cases rows with|nil=>exact .inr ⟨rfl,rfl⟩|cons=>exact .inl rfl
def Uh(h:ac){s l o:C}(a:fz s=.s .S (h.K.map (aA.enc .S)))(b:fz l=.s .S (h.J.map (aD.enc .S)))(c:fz o=.s .S (h.M.map (bi.enc .S))):dB (cE h s l o)=ac.enc .S h:=by
 have d:=ac.enc_fz h;have e:dB (cE h s l o)=(((dB (ac.enc .own h)).set 6 (fz s)).set 7 (fz l)).set 8 (fz o):=rfl;rw[e,d,a,b,c];rfl
def TY(h:ac):fz (oS h)=.s .S (h.K.map (aA.enc .S)):=(GA _).trans (xR _)
def RM(h:ac):fz (oL h)=.s .S (h.J.map (aD.enc .S)):=(GA _).trans (vG _)
def Ud(h:ac):fz (oO h)=.s .S (h.M.map (bi.enc .S)):=(GA _).trans (xq _)
def Ee(h:ac):dB (cY h)=ac.enc .S h:=Uh h (TY h) (RM h) (Ud h)
def EX(h:Qp rows):Rp (oE rows):=by cases rows with|nil=>exact⟨.inr rfl,trivial⟩|cons r a=>exact⟨.inl λe=>(by cases e),h⟩
def bX(h:ac):g0 (cY h):=by
 have a:=ac.enc_fr h;simp only[ac.enc,g0]at a;unfold cY cE;simp only[g0];refine⟨a.1,a.2.1,a.2.2.1,a.2.2.2.1,a.2.2.2.2.1,a.2.2.2.2.2.1,EX ?_,EX ?_,EX ?_,a.2.2.2.2.2.2.2.2.2⟩
 ·exact a.2.2.2.2.2.2.1.2
 ·exact a.2.2.2.2.2.2.2.1.2
 exact a.2.2.2.2.2.2.2.2.1.2
def sB{S Y:af}{v:Value}(h:dN w S Y (.s .own rows) v):dN w S Y (oE rows) v:=by
 cases rows with
 | cons=>exact h
 | nil=>
  cases h with
  | nil _ o a d=>exact .nil _ .S a trivial
  | own _ o g k n e rows u f d i j b c l p q r t=>simp at i;omega
variable{h:ac}
theorem Nv{S Y:af}{u:Nat->Value}(b:cC w S Y (ac.enc .own h) u):cC w S Y (cY h) u:=by
 obtain⟨f,a,d,e⟩:=b;refine⟨f,λj c g=>?_,d,e⟩;have i:cY h=(((ac.enc .own h).set 6 (oS h)).set 7 (oL h)).set 8 (oO h):=rfl;rw[i]at g;by_cases k:j=8
 ·subst k
  have:c=oO h:=ψ
  rw[this];exact sB (a 8 _ rfl)
 by_cases l:j=7
 ·subst l
  have:c=oL h:=ψ
  rw[this];exact sB (a 7 _ rfl)
 by_cases n:j=6
 ·subst n
  have:c=oS h:=ψ
  rw[this];exact sB (a 6 _ rfl)
 grind
def dt(h:ac)(a:ac.sml h):zzA 62 false [.val (some 24) (ac.enc .S h)] .agg (cY h):=by
 obtain⟨b,c⟩:=iu h a;refine⟨b,λw S d g i=>(c w S d g i).mono λe w1 j=>?_⟩;obtain⟨v,k,l,X,S1,n,o,p,q,r⟩:=j;exact⟨v,k,l,X,S1,n,o,p,q,Nv r⟩
def Mt(h:ac)(s l o:C)(a:Int)(k:Nat)(v:Int)(b:0<=a):cE {h with H:=en h.H a (k+1)} s l o=(cE {h with H:=en h.H a k} s l o).set 0 (.s .own (((en h.H a k).F.V.W.map (aG .own)).set (ax h.H.F.Q (a / 16)).e.toNat ((aG .own (iM (nth h.H.F.V.W (eM h.H a)) (a % 16).toNat k)).set 0 (.s .own (((iM (nth h.H.F.V.W (eM h.H a)) (a % 16).toNat k).map (rI .own)).set (a % 16+k).toNat (splice (rI .own v) 0 [I 0])))))):=by
 have e:(a % 16+k).toNat=(a % 16).toNat+k:=ω
 rw[e];simp[cE,en,V6,iM,aG,splice,eM]
 rfl
theorem kM(h:ac)(s l o:C)(a:Int)(n:Nat)(p:aJ h.H=true)(e:0<=a/\a<512)(r:0<=(ax h.H.F.Q (a / 16)).e/\(ax h.H.F.Q (a / 16)).e<h.H.F.V.W.length)(w:a % 16+n<=16)(y:(nth h.H.F.V.W (eM h.H a)).length=16) :
  zzB 105 false [.ptr (cE h s l o),.val none [I a],.val none [I (n:Nat)]] [.ptr (cE {h with H:=en h.H a n} s l o),.val none [I a],.val none [I (n:Nat)]] (.tup []) []:=by
 have g:=aZ p;have t:=cN h.H.F.Q (a / 16) g.1.2;have c:eM h.H a<h.H.F.V.W.length:=by unfold eM;omega
 refine fM 36 [] [] [(0,0),(0,0),(0,0)] Tryz.func105 rfl (λu q=>?_) (.inr trivial)
 repeat'(first|refine gP ?_|refine CN (by decide) ?_|refine CL (kH e) ?_|refine CG (t) ⟨⟨rfl,CZ _⟩,⟨rfl,rfl⟩,trivial⟩ ?_)
 rw[show cE h s l o=cE {h with H:=en h.H a 0} s l o by rw[Fc h a c]]
 (conv=>whnf)
 refine CF (ι:=Nat) (λk=>[(0,.G .box (cE {h with H:=en h.H a k} s l o)),(1,.G .one [I (a)]),(2,.G .one [I ((n:Nat):Int)]),(6,.G .one [I ((ax h.H.F.Q (a / 16)).e)]),(7,.G .one [I ((k:Nat):Int)])]) (λk=>k<=n) (λk=>n - k) (0) ?_ (X0 _) λk p=>?_
 ·exact wC
 have j:a.tmod 16=a % 16:=ew e.1;have b:(en h.H a k).F.V.W[(ax h.H.F.Q (a / 16)).e.toNat]? = some (iM (nth h.H.F.V.W (eM h.H a)) (a % 16).toNat k):=t4 c;by_cases B:k<n
 ·have d:=ar (xs:=iM (nth h.H.F.V.W (eM h.H a)) (a % 16).toNat k) (i:=(a % 16+k).toNat) (by grind [n9])
  repeat'(first|refine gE ?_|refine CN (by decide) ?_|refine CQ j ?_|refine CK r.1 (aa b) ?_|refine CK ω (aa d) ?_|refine Pu.two rfl rfl (aa b) rfl rfl rfl (aa d) rfl (V3 _) (Mt h s l o a k _ e.1) ?_)
  (refine CD (k+1) ω ω ?_;(exact wC))
 obtain rfl:k=n:=ω
 refine ZE ?_
 refine CH rfl rfl ?_;exact wC
theorem jg(h:ac)(r:aE)(n:Nat)(a:aJ h.H=true)(j:h.H.Calls≠100000)(b:h.a.length<=1048576)(l:r.a4=n/\0<=r.At/\r.At<=1000/\n<=1000) :
  zzB 103 false [.ptr (cY h),.val (some 2) (aE.enc .S r)] [.ptr (cY {h with H:=du h.H r.At n,a:=(ce (eO h) h.a r).getD h.a}),.val (some 2) (aE.enc .S r)] (.tup []) []:=by
 have c:=a;have e:eO h<=32:=(bq.1 (aH.1 a).2.2.1).2.2;have d:=tY {h with H:=du h.H r.At n};rw[show eO {h with H:=du h.H r.At n} = eO h from(gh _ _ _).1]at d;have g:=Bi (eO h:Nat) h.a r ω ⟨b,λ_ _=>trivial⟩;refine fM 44 [] [(5,272,[29,30,31,32,33,34,35,36,37,38,39,28,40,41,42,43,0,1,2,3,4,5,6,7,8,9,10,11,12,13,14,15,16,1013])] [(0,0),(0,0)] Tryz.func103 rfl (λu q=>?_) (.inr trivial)
 refine ZP ?_
 refine CF (ι:=Nat) (λk=>[(0,.G .box (cY {h with H:=du h.H r.At k})),(3,.G .box (aE.enc .S r)),(4,.G .one [I ((r.At+k))])]) (λk=>k<=n) (λk=>n - k) (0) ?_ (X0 _) λk a=>?_
 ·exact wC
 by_cases o:k<n
 ·have i:=pC (du h.H r.At k) (r.At+k) (jl c _ _) (by grind [rd])
  repeat'(first|refine gE ?_|refine CG (i) ⟨⟨rfl,CO _⟩,⟨rfl,rfl⟩,trivial⟩ ?_)
  (refine CD (k+1) ω ω ?_;(exact wC))
 obtain rfl:k=n:=ω
 repeat'(first|refine gE ?_|refine CG (d) ⟨⟨rfl,Ee _⟩,trivial⟩ ?_|refine CG (g) ⟨⟨rfl,rfl⟩,⟨rfl,dO h.a⟩,⟨rfl,rfl⟩,trivial⟩ ?_)
 refine CH rfl rfl ?_;exact wC
theorem nU{c a:C}(h:a=c):Ry c a:=by grind [eQ]
theorem NJ(k:ah)(p:Int):du k p 1=cI k p:=by show cI k (p+((0:Nat):Int))=_;grind
theorem tp(a:h.K≠[]):cY h=cE h (.s .own (h.K.map (aA.enc .own))) (oL h) (oO h):=by grind [pf,List.map_eq_nil_iff,cY,oS]
def RL(h:ac):oL h=.s .own (h.J.map (aD.enc .own))\/(h.J=[]/\oL h=.s .S []):=by
 rcases pU (rows:=h.J.map (aD.enc .own)) with e|⟨a,b⟩
 ·exact .inl e
 exact .inr ⟨List.map_eq_nil_iff.1 a,b⟩
variable{α:Type}
theorem fU{xs:List α}(h:i<xs.length):xs≠[]:=(ψ)
theorem Bm(h:ac)(i:Nat)(j:aJ h.H=true)(k:h.H.Calls≠100000)(b:h.a.length<=1048576)(c:i<h.K.length)(l:h.K.length<=1048576)(o:0<=(nth h.K i).R/\(nth h.K i).R<=31) :
  zzB 386 false [.ptr (cY h),.val none [I (i:Nat)]] [.ptr (cY (giveP h i)),.val none [I (i:Nat)]] (.tup []) []:=by
 have d:=ar c;have g:=G7 h.K i c;have a:=jg {h with K:=dele h.K i} ⟨(nth h.K i).R,1⟩ 1 j k b ψ;rw[show du ({h with K:=dele h.K i} : ac).H (aE.mk (nth h.K i).R 1).At 1=cI h.H (nth h.K i).R from NJ _ _]at a;have n:cY {h with K:=dele h.K i} = cE h (oE ((dele h.K i).map (aA.enc .own))) (oL h) (oO h):=rfl;rw[tp (fU c)];rcases pU (rows:=(dele h.K i).map (aA.enc .own)) with e|⟨-,e⟩
 all_goals
  rw[n]at a;rw[e]at g a;refine fM 28 [(492,[1,0,0]),(103,[2,0])] [] [(0,0),(0,0)] Tryz.func386 rfl (λu q=>?_) (.inr trivial)
  refine ZP ?_
  refine CH rfl rfl ?_;exact wB
variable{a:Int}{E:List Int}
def NM(c:bg h E)(d:i<h.K.length)(b:fT (nth h.K i) a):denotes h.K h.J a = ⟨1,i,dP (nth h.K i) a,0⟩:=by
 rw[ix c.L d ⟨b.1,b.2.1⟩];unfold qa;rw[b.2.2.2,b.2.2.1];rfl
theorem kR(h:ac)(E:List Int)(a:Int)(b:bg h (a::E))(G:h.H.Calls≠100000):zzB 247 false [.ptr (cY h),.val none [I a]] [.ptr (cY (freeA h a)),.val none [I a]] (.tup []) []:=by
 obtain⟨g,t,H⟩:=b.at (b.hin a ψ);have J:=(b.hin a ψ).bd b;have D:=b.lens;have K:=D.spans;have M:=D.larges;unfold freeA;generalize xd h a=i at g t;have l:=b.L.sok _ (au g);have N:=aL l;have c:=ar g;have j:=lf h.K h.J a ⟨ω,λ_ _=>trivial⟩ ⟨ω,λ_ _=>trivial⟩;rw[NM b g t]at j;have w:=AB (nth h.K i) (dP (nth h.K i) a) l t.2.2.2;have P:=b.give g t;have n:=BK (clrS h i a) (nth h.K i).R;rw[show fY (clrS h i a) (nth h.K i).R=fY h (nth h.K i).R from rfl]at n;have o:i<(clrS h i a).K.length:=by grind [clrS]
 have y:(nth (clrS h i a).K i).R=(nth h.K i).R:=by unfold clrS;simp only[cL,true_and];rw[CC g];rfl
 have p:=Bm (clrS h i a) i b.ker G (by show h.a.length<=_;grind [ri.free]) o (by grind [clrS]) (by rw[y];omega);have d:cY (clrS h i a)=cE h (.s .own ((h.K.map (aA.enc .own)).set i (aA.enc .own (lv (nth h.K i) (dP (nth h.K i) a))))) (oL h) (oO h):=by
  rw[tp (fU o)];show cE h (.s .own ((h.K.set i _).map _)) (oL h) (oO h)=_;rw[V6]
 have r:=Ee (clrS h i a);rw[d]at r p;have k:((h.K.map (aA.enc .own)).set i (aA.enc .own (lv (nth h.K i) (dP (nth h.K i) a))))[i]? = some (aA.enc .own (lv (nth h.K i) (dP (nth h.K i) a))):=jy g;rw[tp (fU g)];have B:=RM h;unfold freeS;rcases RL h with e|⟨C,e⟩
 all_goals
  try rw[C]at j
  rw[e]at p r B d |-;by_cases F:(lv (nth h.K i) (dP (nth h.K i) a)).a6=0
  ·cases O:fY h (nth h.K i).R<;>rw[O]at n
   ·rw[CC ⟨F,rfl⟩]
    refine fM 64 [(386,[2,0])] [(0,11,[6,7,8,9,10,11,12,13,14,15,4]),(2,277,[20,21,22,23,24,25,26,27,28,29,30,31,32,33,34,35,36,19,37,38,39,0,1,2,3,4,5,6,7,8,9,10,11,12,13,14,15,16,17,18,19,20,21,1019]),(3,9,[40,41,42,43,44,45,46,47,5]),(4,9,[48,49,50,51,52,53,54,55,56])] [(0,0),(0,0)] Tryz.func247 rfl (λu q=>?_) (.inr trivial)
    repeat'(first|refine gB ?_|refine CG (j) ⟨⟨rfl,dZ _⟩,⟨rfl,iT _⟩,⟨rfl,rfl⟩,trivial⟩ ?_|refine CG (j) ⟨⟨rfl,dZ _⟩,⟨rfl,rfl⟩,⟨rfl,rfl⟩,trivial⟩ ?_|refine CA k ?_|refine CE rfl k rfl ?_|refine CM rfl rfl (aa c) rfl (O1 rfl) rfl ?_|refine CG (n) ⟨⟨rfl,r⟩,⟨rfl,rfl⟩,trivial⟩ ?_)
    refine CH rfl rfl ?_;exact wB
   rw[CB (λx=>by cases x.2),d];refine fM 64 [(386,[2,0])] [(0,11,[6,7,8,9,10,11,12,13,14,15,4]),(2,277,[20,21,22,23,24,25,26,27,28,29,30,31,32,33,34,35,36,19,37,38,39,0,1,2,3,4,5,6,7,8,9,10,11,12,13,14,15,16,17,18,19,20,21,1019]),(3,9,[40,41,42,43,44,45,46,47,5]),(4,9,[48,49,50,51,52,53,54,55,56])] [(0,0),(0,0)] Tryz.func247 rfl (λu q=>?_) (.inr trivial)
   repeat'(first|refine gB ?_|refine CG (j) ⟨⟨rfl,dZ _⟩,⟨rfl,iT _⟩,⟨rfl,rfl⟩,trivial⟩ ?_|refine CG (j) ⟨⟨rfl,dZ _⟩,⟨rfl,rfl⟩,⟨rfl,rfl⟩,trivial⟩ ?_|refine CA k ?_|refine CE rfl k rfl ?_|refine CM rfl rfl (aa c) rfl (O1 rfl) rfl ?_|refine CG (n) ⟨⟨rfl,r⟩,⟨rfl,rfl⟩,trivial⟩ ?_)
   refine CH rfl rfl ?_;exact wB
  rw[CB (λx=>F x.1),d];refine fM 64 [(386,[2,0])] [(0,11,[6,7,8,9,10,11,12,13,14,15,4]),(2,277,[20,21,22,23,24,25,26,27,28,29,30,31,32,33,34,35,36,19,37,38,39,0,1,2,3,4,5,6,7,8,9,10,11,12,13,14,15,16,17,18,19,20,21,1019]),(3,9,[40,41,42,43,44,45,46,47,5]),(4,9,[48,49,50,51,52,53,54,55,56])] [(0,0),(0,0)] Tryz.func247 rfl (λu q=>?_) (.inr trivial)
  repeat'(first|refine gB ?_|refine CG (j) ⟨⟨rfl,dZ _⟩,⟨rfl,iT _⟩,⟨rfl,rfl⟩,trivial⟩ ?_|refine CG (j) ⟨⟨rfl,dZ _⟩,⟨rfl,rfl⟩,⟨rfl,rfl⟩,trivial⟩ ?_|refine CA k ?_|refine CE rfl k rfl ?_|refine CM rfl rfl (aa c) rfl (O1 rfl) rfl ?_|refine CG (n) ⟨⟨rfl,r⟩,⟨rfl,rfl⟩,trivial⟩ ?_)
  refine CH rfl rfl ?_;exact wB
theorem tT(h:ac)(E:List Int)(t:Nat)(a:Int)(b:bg h (a::E))(y:t<h.T.length)(F:h.H.Calls≠100000):zzB 109 false [.ptr (cY h),.val none [I (t:Nat)],.val none [I a]] [.ptr (cY (recyc t h a)),.val none [I (t:Nat)],.val none [I a]] (.tup []) []:=by
 obtain⟨d,B,G⟩:=b.at (b.hin a ψ);have H:=(b.hin a ψ).bd b;have C:=b.lens;have J:=C.spans;have K:=C.larges;have o:=b.cach _ (au y);have p:=kR h E a b F;unfold recyc;generalize xd h a=i at d B;have r:=aL (b.L.sok _ (au d));have n:=ar d;have k:=ar y;have g:=lf h.K h.J a ⟨ω,λ_ _=>trivial⟩ ⟨ω,λ_ _=>trivial⟩;rw[NM b d B]at g;have j:=Bl (nth h.T t) (nth h.K i).Z.toNat a o ω;rw[Int.toNat_of_nonneg r.2.2.1]at j;unfold yd at j;have l:∀c,cY {h with T:=h.T.set t c} = (cE h (.s .own (h.K.map (aA.enc .own))) (oL h) (oO h)).set 9 (.s .own ((h.T.map (aF.enc .own)).set t (aF.enc .own c))):=λc=>by
  rw[tp (h:={h with T:=h.T.set t c}) (fU d)];show cE {h with T:=h.T.set t c} _ (oL h) (oO h)=_;simp[cE,V6]
 rw[tp (fU d)]at p |-;rcases RL h with e|⟨w,e⟩
 all_goals
  try rw[w]at g
  rw[e]at p l |-;cases D:cput (nth h.T t) (nth h.K i).Z a with
  | none=>
   rw[D]at j;refine fM 54 [(247,[2,0])] [(0,11,[9,10,11,12,13,14,15,16,17,18,6]),(2,278,[23,24,25,26,27,28,29,30,31,32,33,34,35,36,37,38,39,40,22,41,42,7,0,1,2,3,4,5,6,7,8,9,10,11,12,13,14,15,16,17,18,19,20,21,22,1020,23]),(4,6,[44,45,46,47,48,49])] [(0,0),(0,0),(0,0)] Tryz.func109 rfl (λu q=>?_) (.inr trivial)
   repeat'(first|refine gB ?_|refine CG (g) ⟨⟨rfl,dZ _⟩,⟨rfl,iT _⟩,⟨rfl,rfl⟩,trivial⟩ ?_|refine CG (g) ⟨⟨rfl,dZ _⟩,⟨rfl,rfl⟩,⟨rfl,rfl⟩,trivial⟩ ?_|refine CG (j) ⟨⟨rfl,CY _⟩,⟨rfl,rfl⟩,⟨rfl,rfl⟩,trivial⟩ ?_)
   refine CH rfl rfl ?_;exact wB
  | some c=>
   rw[D]at j;simp only;rw[l];refine fM 54 [(247,[2,0])] [(0,11,[9,10,11,12,13,14,15,16,17,18,6]),(2,278,[23,24,25,26,27,28,29,30,31,32,33,34,35,36,37,38,39,40,22,41,42,7,0,1,2,3,4,5,6,7,8,9,10,11,12,13,14,15,16,17,18,19,20,21,22,1020,23]),(4,6,[44,45,46,47,48,49])] [(0,0),(0,0),(0,0)] Tryz.func109 rfl (λu q=>?_) (.inr trivial)
   repeat'(first|refine gB ?_|refine CG (g) ⟨⟨rfl,dZ _⟩,⟨rfl,iT _⟩,⟨rfl,rfl⟩,trivial⟩ ?_|refine CG (g) ⟨⟨rfl,dZ _⟩,⟨rfl,rfl⟩,⟨rfl,rfl⟩,trivial⟩ ?_|refine CG (j) ⟨⟨rfl,CY _⟩,⟨rfl,rfl⟩,⟨rfl,rfl⟩,trivial⟩ ?_|refine CM rfl rfl (aa k) rfl (O1 rfl) rfl ?_)
   refine CH rfl rfl ?_;exact wB
theorem dN.frz_at{S F:af}{v:Value}{c:C}(h:dN w S F (.s .own rows) v)(D:rows[i]? = some [c]):∃V:af,(∀b o,V b o->F b o)/\dN w (λb o=>S b o\/V b o) (λb o=>F b o/\¬V b o) (.s .own (rows.set i [fz c])) v:=by
 cases h with
 | nil _ o a E=>simp at D
 | own _ o g k n B rows u f E K L d l M N O P G=>
  have Q:i<rows.length:=ψ
  obtain rfl:k=1:=by rw[<-L [c] ψ];rfl
  simp only[Nat.mul_one]at M N O P G;refine⟨f i,ψ,?_⟩;refine .own _ .own g 1 n B _ u (λq=>if q=i then NO else f q) E (by simpa using K) (λr h=>?_) d l (λq H=>?_) ψ (λq H b o p=>?_) (λq X H R T b o p t=>?_) (λJ U r W y A=>?_)
  ·grind
  ·grind
  ·split at p
   ·exact p.elim
   grind
  ·split at p
   ·exact p.elim
   split at t
   ·exact t.elim
   grind
  by_cases e:J=i
  ·subst e
   rw[t4 Q]at y;obtain rfl:=Option.some.inj y;cases U with
   | succ j=>simp at A
   | zero=>
    obtain rfl:fz c=W:=by simpa using A
    have:=(G J 0 [c] c D rfl).freeze
    grind
  grind [dN.mono]
theorem am.frz{sh:Bool}{A:List RA}{k:Kd}{c:C}(h:am P f sh A k [.s .own rows])(d:rows[i]? = some [c]):am P f sh A k [.s .own (rows.set i [fz c])]:=by
 obtain⟨l,n⟩:=h;refine⟨l,λw S p q r=>(n w S p q r).mono λe w1 t=>?_⟩;obtain⟨v,u,y,X,S1,G,H,J,B,g,D,K,L⟩:=t;obtain⟨V,M,N⟩:=(D 0 _ rfl).frz_at d;have E:∀b o,V b o->X b o:=ψ
 refine⟨v,u,y,λb o=>X b o/\¬V b o,λb o=>S1 b o\/V b o,ψ,λb o a=>?_,λb o a h=>?_,B,λj=>if j=0 then(λb o=>g 0 b o/\¬V b o) else NO,λj O F=>?_,λj F b o a=>?_,ψ⟩
 ·grind
 ·grind
 ·grind
 all_goals simp_all
def KN(c:aF)(k:Nat):aF:=⟨c.X.set k []⟩
theorem KE(c:aF)(k:Nat):aF.enc .own (KN c k)=[.s .own ((c.X.map (aG .own)).set k (aG .own []))]:=by grind [V6,aF.enc,KN]
theorem Gg(xs:List Int):([]:List Int).map (rI .S)=(xs.map (rI .S)).drop xs.length:=by simp_all
theorem GY(xs:List Int):xs.map (rI .S)=(xs.map (rI .S)).take xs.length:=by grind [I1]
def vH{k:Nat}{r:List C}(h:k<rows.length):(rows.set k r)[k]? = some r:=t4 h
def Us(c:aF)(k:Nat):List C:=aF.enc .own (KN c k)++aG .own (nth c.X k)
def NT(c:aF)(k:Nat):g0 (Us c k):=aB (Cg _) (bO _)
def xk(c:aF)(k:Nat)(d:bz c=true)(p:k<=3):zzA 522 false [.val (some 1) (aF.enc .S c),.val none [I (k:Nat)],.val none [I 8]] (.tup [some 1,none]) (Us c k):=by
 obtain⟨q,e⟩:=dK d;have g:aF.sml c:=⟨ω,λl j=>by have:=e l j;show l.length<=1048576;omega⟩
 have h:=yH c k g;rw[d,O0 ω]at h;have n:=iZ c g;have a:=lJ (c:=c) (k:=k) ω;have o:=e _ (au (xs:=c.X) (i:=k) ω);have b:=NT c k;unfold Us at b |-;rw[KE]at b |-;refine fO 52 [(5,268,[29,30,31,32,33,34,35,36,37,38,39,41,0,1,2,3,4,5,6,7,8,9,10,11,1000,1001,1002,12,13]),(6,265,[42,43,44,45,46,47,48,49,50,0,1,2,3,4,5,6,7,8,9,1000,10,11])] Tryz.func522 rfl ?_ (.inr b)
 repeat'(first|refine gP ?_|refine CQ (z:=((nth c.X k).length:Int)) (by simp;omega) ?_|refine CW (nth c.X k).length rfl (by rw[I1];omega) (aK λ_=>rfl) (Gg _) ?_|refine CS (nth c.X k).length rfl (by rw[I1];omega) (aK λ_=>rfl) (GY _) ?_|refine CU (λ_=>rfl) (λ_=>rfl) (by simp) (by decide) ?_|refine CP (λ_=>rfl) (λ_=>rfl) (by simp) (by decide) ?_|refine CU (λ_=>rfl) (λ_=>rfl) ω (by decide) ?_|refine CP (λ_=>rfl) (λ_=>rfl) ω (by decide) ?_|refine CM rfl rfl (aa a) rfl (O1 rfl) rfl ?_)
 rfl
theorem wR(c:aF)(k:Nat)(e:bz c=true)(q:k<=3):zzA 246 false [.val (some 1) (aF.enc .S c),.val none [I (k:Nat)],.val none [I 8]] (.tup [some 1,none]) (Us c k):=by
 obtain⟨r,g⟩:=dK e;have h:aF.sml c:=⟨ω,λl o=>by have:=g l o;show l.length<=1048576;omega⟩
 have j:=sP c k h;rw[e,O0 ω]at j;have b:=lJ (c:=c) (k:=k) ω;have p:=g _ (au (xs:=c.X) (i:=k) ω);have n:=am.frz (gT c h) (i:=k) (c:=.s .own ((nth c.X k).map (rI .own))) (aa b);rw[show fz (.s .own ((nth c.X k).map (rI .own)))=.s .S ((nth c.X k).map (rI .S)) from(List.cons.inj (d9 (nth c.X k))).1]at n;have a:k<(c.X.map (aG .own)).length:=ψ
 have d:=NT c k;unfold Us at d |-;rw[KE]at d |-;refine fO 43 [(6,7,[30,31,32,33,34,35,36]),(7,5,[38,39,40,41,42])] Tryz.func246 rfl ?_ (.inr d)
 repeat'(first|refine gP ?_|refine CQ (z:=((nth c.X k).length:Int)) (by simp;omega) ?_|refine CW (nth c.X k).length rfl (by rw[I1];omega) (aK λ_=>rfl) (Gg _) ?_|refine CS (nth c.X k).length rfl (by rw[I1];omega) (aK λ_=>rfl) (GY _) ?_|refine C8 (cD [] (by simp)) ?_|refine C8 (cD (nth c.X k) ω) ?_|refine CE rfl (vH a) rfl ?_|refine CM rfl rfl (vH a) rfl (O1 rfl) (by simp only[List.set_cons_zero,List.set_set];rfl) ?_|refine CA (vH a) ?_)
 simp only[List.set_set,C3];rfl
theorem qo{k:Int} : ∀{l s s2 b:List Int},(∀x∈s2,x∈s)->sU k s l=some b->(∀x∈s,x∈b)/\∃c,sU k s2 l=some c/\∀x∈c,x∈b
 | [],s,s2,b,h,e=>by grind [sU]
 | a::l,s,s2,b,h,e=>by
  simp only[sU]at e |-;split at e
  ·rename_i g
   rw[CC (show good k s2 a from⟨g.1,g.2.1,g.2.2.1,λx=>g.2.2.2 (h a x)⟩)];obtain⟨d,f⟩:=qo (l:=l) (s:=s++[a]) (s2:=s2++[a]) ψ e
   grind
  cases e
theorem uO:∀{a:List (List Int)}{k:Nat}{s s2:List Int},(∀x∈s2,x∈s)->(hB k s a).isSome=true->(hB k s2 a).isSome=true
 | [],_,_,_,_,_=>rfl
 | l::a,k,s,s2,h,e=>by
  simp only[hB,fJ]at e |-;split at e
  ·rename_i g
   rw[CC g];cases b:sU k s l with
   | none=>grind
   | some i=>
    rw[b]at e;obtain⟨-,c,d,f⟩:=qo h b;rw[d];exact uO f e
  cases e
theorem FM:∀{a:List (List Int)}{k:Nat}{s s2:List Int}(i:Nat),(∀x∈s2,x∈s)->(hB k s a).isSome=true->(hB k s2 (a.set i [])).isSome=true
 | [],_,_,_,_,_,_=>rfl
 | l::a,k,s,s2,i,h,e=>by
  simp only[hB,fJ]at e;split at e
  ·rename_i g
   cases b:sU k s l with
   | none=>grind
   | some j=>
    rw[b]at e;obtain⟨n,c,d,f⟩:=qo h b;cases i with
    | zero=>
     simp only[List.set_cons_zero,hB,fJ];rw[CC ⟨by simp,g.2⟩];exact uO ψ e
    | succ i=>
     simp only[List.set_cons_succ,hB,fJ];rw[CC g,d];exact FM i f e
  cases e
theorem RY{c:aF}(h:bz c=true)(k:Nat):bz (KN c k)=true:=by grind [FM,bz,KN]
def spilt(h:ac)(t k:Nat):ac:={h with T:=h.T.set t (KN (nth h.T t) k)}
theorem bg.spilt{h:ac}{E:List Int}{t k:Nat}(d:bg h E)(i:t<h.T.length)(n:k<(nth h.T t).X.length):bg (spilt h t k) (nth (nth h.T t).X k++E):=by
 have p:(E++holders h).Perm (nth (nth h.T t).X k++E++holders (Ab.spilt h t k)):=by
  refine List.perm_iff_count.2 λb=>?_
  have r:=jm (λc:aF=>c.X.flatten) b h.T t (KN (nth h.T t) k) i;have q:=jm (λx:List Int=>x) b (nth h.T t).X k [] n;rw[<-lX,<-lX]at q;simp only[List.count_nil]at q;simp only[KN]at r;simp only[holders,cH,Ab.spilt,KN,O6];omega
 have g:∀c∈(Ab.spilt h t k).T,c∈h.T\/c=KN (nth h.T t) k:=λc u=>Y6 u
 exact {d with
   nc:=by show(h.T.set ..).length=_;rw[Z1];exact d.nc
   cach:=λc f=>by grind [bg.cach,RY,au]
   onu:=by show ∀o∈h.M,1<=o.Id/\o.Id<=h.o - 1/\0<=o.a0/\o.a0<=(h.T.set t _).length - 1;rw[Z1];exact d.onu
   hca:=λc f j l b a=>by
     rcases g c f with f|rfl
     · exact d.hca c f j l b a
     simp only[KN,Z1]at l;simp only[KN,cL]at a;by_cases e:k=j
     · grind
     rw[CB λx=>e x.1]at a;exact d.hca _ (au i) _ l b a
   hin:=λb a=>by
     rcases O3.1 a with a|a
     · exact(d.hca _ (au i) k n b a).any
     exact d.hin b a
   nd:=p.nodup_iff.1 d.nd
   mem:=λb=>by rw[<-p.mem_iff];exact d.mem b}
def freeAs(h:ac)(az:List Int):ac:=az.foldl freeA h
theorem iN:∀(az:List Int)(h:ac),(freeAs h az).T=h.T/\(freeAs h az).M=h.M/\(freeAs h az).H.Calls=h.H.Calls/\(freeAs h az).j=h.j/\(freeAs h az).a5=h.a5/\(freeAs h az).a8=h.a8/\(freeAs h az).a3=h.a3/\(freeAs h az).H.d=h.H.d
 | [],h=>⟨rfl,rfl,rfl,rfl,rfl,rfl,rfl,rfl⟩
 | a::az,h=>by
  obtain⟨b,c,d,e,f,g,i,j⟩:=iN az (freeA h a);obtain⟨k,l,n,o,p,q,r,t⟩:=yI h (xd h a) a;exact⟨b.trans k,c.trans l,d.trans n,e.trans o,f.trans p,g.trans q,i.trans r,j.trans t⟩
theorem bg.freeAs{E:List Int} : ∀{az:List Int}{h:ac},bg h (az++E)->bg (freeAs h az) E
 | [],_,b=>b
 | a::az,h,b=>bg.freeAs (az:=az) (h:=Ab.freeA h a) b.freeA
theorem qz(h:ac)(az:List Int)(k:Nat)(a:k<az.length):freeAs h (az.take (k+1))=freeA (freeAs h (az.take k)) (nth az k):=by grind [X5,ar,freeAs]
def flushN(t:Nat)(h:ac):Nat->ac × Nat
 | 0=>(h,0)
 | k+1=>(freeAs (spilt (flushN t h k).1 t k) (nth (nth (flushN t h k).1.T t).X k),(flushN t h k).2+(nth (nth (flushN t h k).1.T t).X k).length)
theorem jL{t:Nat}{h:ac}(b:bg h [])(c:t<h.T.length):∀{k:Nat},k<=4->bg (flushN t h k).1 []/\(flushN t h k).1.T.length=h.T.length/\(flushN t h k).1.H.Calls=h.H.Calls/\(flushN t h k).1.M=h.M/\(flushN t h k).1.j=h.j/\(flushN t h k).1.a5=h.a5/\(flushN t h k).2<=8*k
 | 0,_=>⟨b,rfl,rfl,rfl,rfl,rfl,X0 _⟩
 | k+1,e=>by
  obtain⟨d,f,g,i,j,l,n⟩:=jL b c (k:=k) ω;have a:t<(flushN t h k).1.T.length:=ω
  obtain⟨o,p⟩:=dK (d.cach _ (au a))
  grind [bg.spilt,au,iN,bg.freeAs,spilt,flushN]
theorem zb{t k:Nat}(a:bg h [])(b:t<h.T.length)(c:k<4):t<(flushN t h k).1.T.length/\bz (nth (flushN t h k).1.T t)=true/\k<(nth (flushN t h k).1.T t).X.length/\(nth (nth (flushN t h k).1.T t).X k).length<=8/\(flushN t h k).2<=8*k:=by grind [jL,bg.cach,au,dK]
variable{j:Nat}
theorem Hl{t k:Nat}(a:bg h [])(b:t<h.T.length)(c:k<4)(f:j<(nth (nth (flushN t h k).1.T t).X k).length):bg (freeAs (spilt (flushN t h k).1 t k) ((nth (nth (flushN t h k).1.T t).X k).take j)) (nth (nth (nth (flushN t h k).1.T t).X k) j::(nth (nth (flushN t h k).1.T t).X k).drop (j+1)):=by
 obtain⟨d,e⟩:=zb a b c;have g:=((jL a b (k:=k) ω).1).spilt d e.2.1
 grind [bg.freeAs,fN,List.take_append_drop]
theorem Bx(h:ac)(t:Nat)(i:bg h [])(l:t<h.T.length):zzB 424 false [.ptr (bK h),.val none [I (t:Nat)]] [.ptr (bK (flushN t h 4).1),.val none [I (t:Nat)]] .one [I ((flushN t h 4).2:Nat)]:=by
 refine fM 48 [(426,[2,0])] [(6,6,[26,27,28,29,30,31])] [(0,0),(0,0)] Tryz.func424 rfl (λu q=>?_)
 refine ZP ?_
 refine CF (ι:=Nat) (λk=>[(0,.G .box (bK (flushN t h k).1)),(1,.G .one [I ((t:Nat):Int)]),(5,.G .one [I (((flushN t h k).2:Nat):Int)]),(6,.G .one [I ((k:Nat):Int)])]) (λk=>k<=4) (λk=>4 - k) (0) ?_ (X0 _) λk D=>?_
 ·repeat'(first|exact trivial|rfl |exact nU a|exact eQ _|refine CJ ?_ ?_|(exact Fy (by first|omega|(simp only;omega)|(simp;omega))))
 by_cases n:k<4
 ·obtain⟨o,p,E,F,G⟩:=zb i l n
  have r:=xk (nth (flushN t h k).1.T t) k p ω;have c:=λj=>Hl i l n (j:=j)
  have e:=ar o;have w:(flushN t h (k+1)).1=freeAs (spilt (flushN t h k).1 t k) (nth (nth (flushN t h k).1.T t).X k):=rfl;have y:(flushN t h (k+1)).2=(flushN t h k).2+(nth (nth (flushN t h k).1.T t).X k).length:=rfl;have a:C.s dA.own ((spilt (flushN t h k).1 t k).T.map (aF.enc .own))=C.s dA.own (((flushN t h k).1.T.map (aF.enc .own)).set t (aF.enc .own (KN (nth (flushN t h k).1.T t) k))):=by grind [V6,spilt]
  repeat'(first|refine gE ?_|refine CG (r) ⟨⟨rfl,CY _⟩,⟨rfl,rfl⟩,⟨rfl,rfl⟩,trivial⟩ ?_|refine CM rfl rfl (aa e) rfl (O1 rfl) rfl ?_)
  generalize (flushN t h k).1=d at *;generalize (flushN t h k).2=m at *
  (conv=>whnf)
  refine CF (ι:=Nat) (λj=>[(0,.G .box (bK (freeAs (spilt d t k) ((nth (nth d.T t).X k).take j)))),(1,.G .one [I ((t:Nat):Int)]),(5,.G .one [I (((m+j):Nat):Int)]),(6,.G .one [I ((k:Nat):Int)]),(8,.G .one (aG .own (nth (nth d.T t).X k))),(9,.G .one [I ((j:Nat):Int)])]) (λj=>j<=(nth (nth d.T t).X k).length) (λj=>(nth (nth d.T t).X k).length - j) (0) ?_ (X0 _) λj H=>?_
  ·repeat'(first|exact trivial|rfl |exact nU a|exact eQ _|refine CJ ?_ ?_|(exact Fy (by first|omega|(simp only;omega)|(simp;omega))))
  by_cases g:j<(nth (nth d.T t).X k).length
  ·have b:=ar g
   have B:=oI _ _ _ (c j g)
   refine ZE ?_
   (refine CD (j+1) ω ω ?_)
   rw[qz _ _ _ g];exact wC
  obtain rfl:j=(nth (nth d.T t).X k).length:=ω
  rw[I5]
  refine ZE ?_
  (refine CD (k+1) ω ω ?_)
  rw[w,y];exact wC
 obtain rfl:k=4:=ω
 refine ZE ?_
 refine CH rfl rfl ?_;exact wC
def oh(h:ac)(t:Int)(a:ac.sml h):zzA 245 false [.val (some 24) (ac.enc .S h),.val none [I t]] .one [B (decide (0<=t/\t<=h.T.length - 1)&&decide (h.H.Calls≠100000)&&eE h)]:=by
 have b:=cT h a;rw[ee]at b;have d:h.T.length<=1048576:=a.2.2.2.2.2.1.1;have c:=aI t 0 (h.T.length - 1:Int);cases e:decide (0<=t/\t<=(h.T.length:Int) - 1)<;>rw[e]at c
 all_goals
  cases g:decide (h.H.Calls≠100000)
  all_goals
   simp only[C0,t5]at g;refine fO 21 [] Tryz.func245 rfl ?_
   repeat'(first|refine gP ?_|with_reducible refine Bf.N (λi=>?_) (λi=>?_))
   all_goals first|rfl|(exfalso;omega)
theorem yV(h:ac)(t:Nat)(p:ac.sml h)(q:eE h=true)(r:h.H.Calls≠100000)(c:t<h.T.length):zzA 91 false [.val (some 24) (ac.enc .S h),.val none [I (t:Nat)]] (.tup [some 24,none]) (cY (flushN t h 4).1++[I ((flushN t h 4).2:Nat)]):=by
 have e:=bg.of q;have u:=oh h t p;rw[q,O0 ω,O0 r]at u;have y:=dt h p;refine fP 52 [(247,[2,0])] [] Tryz.func91 rfl ?_ (.inr (aB (bX _) ⟨trivial,trivial⟩))
 refine ZP ?_
 refine CF (ι:=Nat) (λk=>[(1,.G .one [I ((t:Nat):Int)]),(4,.G .box md),(6,.G .box (cY (flushN t h k).1)),(7,.G .one [I (((flushN t h k).2:Nat):Int)]),(8,.G .one [I ((k:Nat):Int)])]) (λk=>k<=4) (λk=>4 - k) (0) ?_ (X0 _) λk J=>?_
 ·repeat'(first|exact trivial|rfl |exact nU a|exact eQ _|refine CJ ?_ ?_|(exact Fy (by first|omega|(simp only;omega)|(simp;omega))))
 by_cases w:k<4
 ·obtain⟨B,D,K,L,M⟩:=zb e c w
  have E:=wR (nth (flushN t h k).1.T t) k D ω;have g:=λj=>Hl e c w (j:=j)
  have i:=λj=>(iN ((nth (nth (flushN t h k).1.T t).X k).take j) (spilt (flushN t h k).1 t k)).2.2.1
  have l:(spilt (flushN t h k).1 t k).H.Calls≠100000:=by have:=(jL e c (k:=k) ω).2.2.1;show(flushN t h k).1.H.Calls≠100000;rw[this];exact r
  have n:=ar B;have F:(flushN t h (k+1)).1=freeAs (spilt (flushN t h k).1 t k) (nth (nth (flushN t h k).1.T t).X k):=rfl;have G:(flushN t h (k+1)).2=(flushN t h k).2+(nth (nth (flushN t h k).1.T t).X k).length:=rfl;have a:C.s dA.own ((spilt (flushN t h k).1 t k).T.map (aF.enc .own))=C.s dA.own (((flushN t h k).1.T.map (aF.enc .own)).set t (aF.enc .own (KN (nth (flushN t h k).1.T t) k))):=by grind [V6,spilt]
  repeat'(first|refine gE ?_|refine CG (E) ⟨⟨rfl,CY _⟩,⟨rfl,rfl⟩,⟨rfl,rfl⟩,trivial⟩ ?_|refine CM rfl rfl (aa n) rfl (O1 rfl) rfl ?_)
  generalize (flushN t h k).1=d at *;generalize (flushN t h k).2=m at *
  (conv=>whnf)
  refine CF (ι:=Nat) (λj=>[(1,.G .one [I ((t:Nat):Int)]),(4,.G .box md),(6,.G .box (cY (freeAs (spilt d t k) ((nth (nth d.T t).X k).take j)))),(7,.G .one [I (((m+j):Nat):Int)]),(8,.G .one [I ((k:Nat):Int)]),(10,.G .one (aG .own (nth (nth d.T t).X k))),(39,.c2 10 0 [] none),(40,.G .one [I ((nth (nth d.T t).X k).length)]),(41,.G .one [I ((j:Nat):Int)])]) (λj=>j<=(nth (nth d.T t).X k).length) (λj=>(nth (nth d.T t).X k).length - j) (0) ?_ (X0 _) λj N=>?_
  ·repeat'(first|exact trivial|rfl |exact nU a|exact eQ _|refine CJ ?_ ?_|(exact Fy (by first|omega|(simp only;omega)|(simp;omega))))
  by_cases o:j<(nth (nth d.T t).X k).length
  ·have b:=ar o
   have H:=kR _ _ _ (g j o) (by rw[i];exact l)
   refine ZE ?_
   (refine CD (j+1) ω ω ?_)
   rw[qz _ _ _ o];exact wC
  obtain rfl:j=(nth (nth d.T t).X k).length:=ω
  rw[I5]
  refine ZE ?_
  (refine CD (k+1) ω ω ?_)
  rw[F,G];exact wC
 obtain rfl:k=4:=ω
 refine ZE ?_
 rfl
def Ax(s:Int):Int:=(1103515245*s+12345) % 1073741824
def D7(s:Int):0<=Ax s/\Ax s<=1073741823:=by unfold Ax;omega
def Bp(s:Int)(b:0<=s/\s<=1073741823):zzA 548 false [.val none [I s]] .one [I (Ax s)]:=by
 have a:=aM s 0 1073741823;rw[O0 b]at a;refine fO 10 [] Tryz.func548 rfl ?_
 repeat'(first|refine gP ?_|refine CQ (z:=Ax s) (ew ω) ?_|refine CN (by decide) ?_)
 rfl
def tG(s:Int)(b:0<=s/\s<=1073741823):zzA 83 false [.val none [I s]] .one [B true]:=by
 have a:=aI s 0 1073741823;rw[O0 b]at a;refine fO 5 [] Tryz.func83 rfl ?_
 refine ZP ?_
 rfl
def AD(s:Int)(a:0<=s/\s<=1073741823):zzA 456 false [.val none [I s]] .one [I (Ax s)]:=by
 refine fO 10 [] Tryz.func456 rfl ?_
 repeat'(first|refine gP ?_|refine CQ (z:=Ax s) (ew ω) ?_|refine C8 (tG s a) ?_|refine CN (by decide) ?_)
 rfl
def Fx(s n:Int):Int:=Ax s / 1024 % n
def qn(s:Int){n:Int}(h:1<=n):0<=Fx s n/\Fx s n<n:=⟨Int.emod_nonneg _ ω,Int.emod_lt_of_pos _ ω⟩
theorem vW(s n:Int)(b:0<=s/\s<=1073741823)(c:1<=n/\n<=1000):zzA 480 false [.val none [I s],.val none [I n]] (.tup [none,none]) [I (Fx s n),I (Ax s)]:=by
 have d:=aM s 0 1073741823;have e:=aM n 1 1000;rw[O0 b]at d;rw[O0 c]at e;have h:=D7 s;have i:=qn s c.1;have a:(Ax s).tdiv 1024=Ax s / 1024:=ψ
 have g:((Ax s).tdiv 1024).tmod n=Fx s n:=by rw[a];exact ew ω
 refine fO 23 [] Tryz.func480 rfl ?_ (.inr ⟨trivial,trivial,trivial⟩)
 repeat'(first|refine gP ?_|refine C8 (Bp s b) ?_|refine CN (by decide) ?_|refine CN ω ?_|refine CQ g ?_|refine CL (fW (by rw[a];omega) (by rw[a];omega)) ?_)
 rfl
theorem wL(s n:Int)(b:0<=s/\s<=1073741823)(c:1<=n/\n<=1000):zzA 337 false [.val none [I s],.val none [I n]] (.tup [none,none]) [I (Fx s n),I (Ax s)]:=by
 have d:=aI n 1 1000;rw[O0 c]at d;have g:=D7 s;have h:=qn s c.1;have a:(Ax s).tdiv 1024=Ax s / 1024:=ψ
 have e:((Ax s).tdiv 1024).tmod n=Fx s n:=by rw[a];exact ew ω
 refine fO 23 [] Tryz.func337 rfl ?_ (.inr ⟨trivial,trivial,trivial⟩)
 repeat'(first|refine gP ?_|refine C8 (tG s b) ?_|refine C8 (AD s b) ?_|refine CN (by decide) ?_|refine CN ω ?_|refine CQ e ?_|refine CL (fW (by rw[a];omega) (by rw[a];omega)) ?_)
 rfl
def qw(n:Nat):List Int:=(List.range n).map λ(i:Nat)=>(i:Int)
theorem zp(n:Nat):qw (n+1)=qw n++[(n:Int)]:=by grind [List.range_succ,qw]
def vh(n:Nat):(qw n).length=n:=by simp[qw]
def wE(xs:List Int)(i k:Nat):List Int:=(xs.set i (nth xs k)).set k (nth xs i)
def Mx(xs:List Int)(i k:Nat):(wE xs i k).length=xs.length:=by simp[wE]
def fk(n:Nat)(s:Int):Nat->List Int × Int
 | 0=>(qw n,s)
 | j+1=>(wE (fk n s j).1 (n - 1 - j) (Fx (fk n s j).2 ((n - 1 - j:Nat)+1:Int)).toNat,Ax (fk n s j).2)
def kh(n:Nat){s:Int}(a:0<=s/\s<=1073741823):∀j,(fk n s j).1.length=n/\0<=(fk n s j).2/\(fk n s j).2<=1073741823
 | 0=>⟨vh n,a⟩
 | j+1=>⟨by simp only[fk,Mx];exact(kh n a j).1,D7 _⟩
def shuf(n:Nat)(s:Int):List Int × Int:=fk n s (n - 1)
theorem Gf(xs:List Int)(i k:Nat):(wE xs i k).map (rI .own)=((xs.map (rI .own)).set i (rI .own (nth xs k))).set k (rI .own (nth xs i)):=by grind [V6,wE]
theorem B8{xs:List Int}{k:Nat}(v:Int)(a:k<xs.length):((xs.map (rI .own)).set i (rI .own v))[k]? = some (rI .own (nth (xs.set i v) k)):=by
 rw[<-V6];grind [ar]
def AJ(n:Nat)(s:Int)(d:0<=s/\s<=1073741823)(w:n<=64):zzA 526 false [.val none [I s],.val none [I (n:Nat)]] (.tup [none,none]) (aG .own (shuf n s).1++[I (shuf n s).2]):=by
 have e:=aM s 0 1073741823;have g:=aM (n:Nat) 0 64;rw[O0 d]at e;rw[O0 ω]at g;refine fO 63 [] Tryz.func526 rfl ?_ (.inr (aB (bO _) ⟨trivial,trivial⟩))
 refine ZP ?_
 refine CF (ι:=Nat) (λk=>[(0,.G .one [I (s)]),(1,.G .one [I ((n:Nat):Int)]),(6,.G .one (aG .own (qw k))),(7,.G .one [I ((k:Nat):Int)])]) (λk=>k<=n) (λk=>n - k) (0) ?_ (X0 _) λk y=>?_
 ·exact wB
 have h:=vh k;by_cases B:k<n
 ·repeat'(first|refine gE ?_|refine CV (aK λ_=>rfl) rfl (by simp;omega) (by decide) (dR (rI .own) (qw k) (k:Int)) ?_)
  (refine CD (k+1) ω ω ?_)
  rw[zp];exact wB
 obtain rfl:k=n:=ω
 refine ZE ?_
 refine CF (ι:=Nat) (λj=>[(0,.G .one [I ((fk k s j).2)]),(6,.G .one (aG .own (fk k s j).1)),(8,.G .one [I (((k:Int) - 1 - j))])]) (λj=>(j<=k - 1/\j<=k)) (λj=>k - j) (0) ?_ ω λj C=>?_
 ·exact wB
 obtain⟨D,l,o⟩:=kh k d j;by_cases E:j<k - 1
 ·have q:(k:Int) - 1 - j=((k - 1 - j:Nat):Int):=ω
  have r:=qn (fk k s j).2 (n:=((k - 1 - j:Nat)+1:Int)) ω;have t:=vW (fk k s j).2 ((k - 1 - j:Nat)+1:Int) ⟨l,o⟩ ω;have u:fk k s (j+1)=(wE (fk k s j).1 (k - 1 - j) (Fx (fk k s j).2 ((k - 1 - j:Nat)+1:Int)).toNat,Ax (fk k s j).2):=rfl;rw[q];generalize fk k s j=p at *;obtain⟨xs,z⟩:=p;simp only at *;generalize k - 1 - j=i at *;have a:=ar (xs:=xs) (i:=i) ω;have b:=ar (xs:=xs) (i:=(Fx z (i+1)).toNat) ω;have c:=B8 (xs:=xs) (i:=i) (k:=(Fx z (i+1)).toNat) (nth xs (Fx z (i+1)).toNat) ω
  repeat'(first|refine gE ?_|refine CK ω (aa b) ?_|refine CM rfl rfl (aa a) rfl (O1 rfl) rfl ?_|refine CK ω c ?_|refine CM rfl rfl c rfl (O1 rfl) rfl ?_)
  (refine CD (j+1) ω ω ?_)
  rw[u];simp only[aG,Gf];exact wB
 obtain rfl:j=k - 1:=ω
 refine ZE ?_
 rfl
def Bz(n:Nat)(s:Int)(d:0<=s/\s<=1073741823)(w:n<=64):zzA 495 false [.val none [I s],.val none [I (n:Nat)]] (.tup [none,none]) (aG .own (shuf n s).1++[I (shuf n s).2]):=by
 have g:=tG s d;have e:=aI (n:Nat) 0 64;rw[O0 ω]at e;refine fO 60 [(12,270,[43,44,45,46,47,48,49,50,51,52,53,54,55,56,0,1,2,3,4,5,6,7,8,9,10,11,12,13,1002,1003,14,15])] Tryz.func495 rfl ?_ (.inr (aB (bO _) ⟨trivial,trivial⟩))
 refine ZP ?_
 refine CF (ι:=Nat) (λk=>[(0,.G .one [I (s)]),(1,.G .one [I ((n:Nat):Int)]),(6,.G .one (aG .own (qw k))),(7,.G .one [I ((k:Nat):Int)])]) (λk=>k<=n) (λk=>n - k) (0) ?_ (X0 _) λk y=>?_
 ·exact wB
 have h:=vh k;by_cases B:k<n
 ·repeat'(first|refine gE ?_|refine CV (aK λ_=>rfl) rfl (by simp;omega) (by decide) (dR (rI .own) (qw k) (k:Int)) ?_)
  (refine CD (k+1) ω ω ?_)
  rw[zp];exact wB
 obtain rfl:k=n:=ω
 refine ZE ?_
 refine CF (ι:=Nat) (λj=>[(0,.G .one [I ((fk k s j).2)]),(6,.G .one (aG .own (fk k s j).1)),(8,.G .one [I (((k:Int) - 1 - j))])]) (λj=>(j<=k - 1/\j<=k)) (λj=>k - j) (0) ?_ ω λj C=>?_
 ·exact wB
 obtain⟨D,l,o⟩:=kh k d j;by_cases E:j<k - 1
 ·have q:(k:Int) - 1 - j=((k - 1 - j:Nat):Int):=ω
  have r:=qn (fk k s j).2 (n:=((k - 1 - j:Nat)+1:Int)) ω;have t:=wL (fk k s j).2 ((k - 1 - j:Nat)+1:Int) ⟨l,o⟩ ω;have u:fk k s (j+1)=(wE (fk k s j).1 (k - 1 - j) (Fx (fk k s j).2 ((k - 1 - j:Nat)+1:Int)).toNat,Ax (fk k s j).2):=rfl;rw[q];generalize fk k s j=p at *;obtain⟨xs,z⟩:=p;simp only at *;generalize k - 1 - j=i at *;have a:=ar (xs:=xs) (i:=i) ω;have b:=ar (xs:=xs) (i:=(Fx z (i+1)).toNat) ω;have c:=B8 (xs:=xs) (i:=i) (k:=(Fx z (i+1)).toNat) (nth xs (Fx z (i+1)).toNat) ω
  repeat'(first|refine gE ?_|refine CK ω (aa b) ?_|refine CM rfl rfl (aa a) rfl (O1 rfl) rfl ?_|refine CK ω c ?_|refine CM rfl rfl c rfl (O1 rfl) rfl ?_)
  (refine CD (j+1) ω ω ?_)
  rw[u];simp only[aG,Gf];exact wB
 obtain rfl:j=k - 1:=ω
 refine ZE ?_
 rfl
def tX(b:Int):Nat->Nat
 | 0=>0
 | n+1=>tX b n+(if bh b (n:Nat)=true then 1 else 0)
theorem uh(b:Int):∀n,tX b n<=n
 | 0=>V3 _
 | n+1=>by have:=uh b n;grind [tX]
def xg(b:Int)(d:b<=9223372036854775807):zzA 525 false [.val none [I b]] .one [I (tX b 16:Nat)]:=by
 refine fO 15 [] Tryz.func525 rfl ?_
 refine ZP ?_
 refine CF (ι:=Nat) (λk=>[(0,.G .one [I (b)]),(3,.G .one [I ((tX b k:Nat):Int)]),(4,.G .one [I ((k:Nat):Int)])]) (λk=>k<=16) (λk=>16 - k) (0) ?_ (X0 _) λk g=>?_
 ·exact wB
 have h:=uh b k;by_cases i:k<16
 ·have a:=jj b (k:Nat) d
  have c:tX b (k+1)=tX b k+(if bh b (k:Nat)=true then 1 else 0):=rfl;cases e:bh b (k:Nat)<;>rw[e]at a c
  all_goals
   refine ZE ?_
   (refine CD (k+1) ω ω ?_)
   rw[c];exact wB
 obtain rfl:k=16:=ω
 refine ZE ?_
 rfl
def xp(b:Int)(d:b<=9223372036854775807):zzA 494 false [.val none [I b]] .one [I (tX b 16:Nat)]:=by
 refine fO 15 [] Tryz.func494 rfl ?_
 refine ZP ?_
 refine CF (ι:=Nat) (λk=>[(0,.G .one [I (b)]),(3,.G .one [I ((tX b k:Nat):Int)]),(4,.G .one [I ((k:Nat):Int)])]) (λk=>k<=16) (λk=>16 - k) (0) ?_ (X0 _) λk g=>?_
 ·exact wB
 have h:=uh b k;by_cases i:k<16
 ·have a:=gU b (k:Nat) d
  have c:tX b (k+1)=tX b k+(if bh b (k:Nat)=true then 1 else 0):=rfl;cases e:bh b (k:Nat)<;>rw[e]at a c
  all_goals
   refine ZE ?_
   (refine CD (k+1) ω ω ?_)
   rw[c];exact wB
 obtain rfl:k=16:=ω
 refine ZE ?_
 rfl
def rR(h:ac)(s:aA):Bool:=decide (0<tX s.a6 16)&&decide ((aV h s.R).length=1)
def je(h:ac):Nat->List aA
 | 0=>[]
 | n+1=>if rR h (nth h.K n)=true then je h n++[nth h.K n] else je h n
def ij(h:ac):List aA:=je h h.K.length
theorem pJ(h:ac):∀n,(je h n).length<=n
 | 0=>V3 _
 | n+1=>by have:=pJ h n;grind [je]
theorem qV(h:ac):∀{n:Nat},n<=h.K.length->∀s∈je h n,s∈h.K
 | 0,_,s,a=>by cases a
 | n+1,b,s,a=>by
  simp only[je]at a;split at a
  ·rcases O3.1 a with a|a
   ·exact qV h ω s a
   grind [au]
  exact qV h ω s a
theorem xS(h:ac)(g:wT h)(o:h.K.length<=1000)(p:eO h<=1000)(i:∀s∈h.K,s.a6<=9223372036854775807):zzA 427 false [.val (some 24) (ac.enc .S h)] .one (bW .own (ij h)):=by
 refine fO 42 [(5,16,[13,14,15,16,17,18,19,20,21,22,23,24,25,26,27,28])] Tryz.func427 rfl ?_ (.inr (yW _))
 refine ZP ?_
 refine CF (ι:=Nat) (λk=>[(1,.G .box (ac.enc .S h)),(3,.G .one (bW .own (je h k))),(4,.G .one [I ((k:Nat):Int)])]) (λk=>k<=h.K.length) (λk=>h.K.length - k) (0) ?_ (X0 _) λk q=>?_
 ·exact wB
 have j:=pJ h k;by_cases e:k<h.K.length
 ·have c:=ar e
  have d:=xg (nth h.K k).a6 (i _ (au e));have b:=iC h (nth h.K k).R g;have l:=fG h (nth h.K k).R;have n:=uh (nth h.K k).a6 16;have a:je h (k+1)=if rR h (nth h.K k)=true then je h k++[nth h.K k] else je h k:=rfl
  by_cases r:0<tX (nth h.K k).a6 16
  ·by_cases t:(aV h (nth h.K k).R).length=1
   ·rw[CC (by grind [rR])]at a
    repeat'(first|refine gB ?_|refine CG (b) ⟨⟨rfl,rfl⟩,⟨rfl,rfl⟩,trivial⟩ ?_|refine CV (aK λ_=>rfl) rfl (by simp;omega) (by decide) (dR (aA.enc .own) (je h k) (nth h.K k)) ?_)
    (refine CD (k+1) ω ω ?_)
    rw[a];exact wB
   rw[CB (by grind [rR])]at a
   refine ZB ?_
   (refine CD (k+1) ω ω ?_)
   rw[a];exact wB
  rw[CB (by grind [rR])]at a
  refine ZE ?_
  (refine CD (k+1) ω ω ?_)
  rw[a];exact wB
 obtain rfl:k=h.K.length:=ω
 refine ZE ?_
 rfl
theorem zW(h:ac)(g:wT h)(o:h.K.length<=1000)(p:eO h<=1000)(i:∀s∈h.K,s.a6<=9223372036854775807):zzA 388 false [.val (some 24) (ac.enc .S h)] .one (bW .own (ij h)):=by
 refine fO 32 [] Tryz.func388 rfl ?_ (.inr (yW _))
 refine ZP ?_
 refine CF (ι:=Nat) (λk=>[(1,.G .box (ac.enc .S h)),(3,.G .one (bW .own (je h k))),(8,.G .one (bW .S h.K)),(9,.G .one [I (h.K.length)]),(10,.G .one [I ((k:Nat):Int)])]) (λk=>k<=h.K.length) (λk=>h.K.length - k) (0) ?_ (X0 _) λk q=>?_
 ·exact wB
 have j:=pJ h k;by_cases e:k<h.K.length
 ·have b:=ar e
  have c:=xp (nth h.K k).a6 (i _ (au e));have d:=kL h (nth h.K k).R g;have l:=fG h (nth h.K k).R;have n:=uh (nth h.K k).a6 16;have a:je h (k+1)=if rR h (nth h.K k)=true then je h k++[nth h.K k] else je h k:=rfl
  by_cases r:0<tX (nth h.K k).a6 16
  ·by_cases t:(aV h (nth h.K k).R).length=1
   ·rw[CC (by grind [rR])]at a
    repeat'(first|refine gB ?_|refine CV (aK λ_=>rfl) rfl (by simp;omega) (by decide) (dR (aA.enc .own) (je h k) (nth h.K k)) ?_)
    (refine CD (k+1) ω ω ?_)
    rw[a];exact wB
   rw[CB (by grind [rR])]at a
   refine ZB ?_
   (refine CD (k+1) ω ω ?_)
   rw[a];exact wB
  rw[CB (by grind [rR])]at a
  refine ZE ?_
  (refine CD (k+1) ω ω ?_)
  rw[a];exact wB
 obtain rfl:k=h.K.length:=ω
 refine ZE ?_
 rfl
def xE(s:aA)(c:Nat):Bool:=bh s.a6 (((c:Nat):Int) / csz s.Z)
def wz(s:aA)(n:Nat):List Int:=((List.range n).filter (xE s)).map λ(i:Nat)=>(i:Int)
variable{s:aA}
theorem KC(h:xE s n=true):wz s (n+1)=wz s n++[(n:Int)]:=by grind [List.range_succ,wz]
theorem NA(h:xE s n=false):wz s (n+1)=wz s n:=by grind [List.range_succ,wz]
theorem mq(s:aA)(n:Nat):(wz s n).length<=n:=by grind [wz]
theorem Lv(a:bk s=true){c:Nat}(b:c<16):0<=((c:Nat):Int) / csz s.Z/\((c:Nat):Int) / csz s.Z<=15:=by
 have d:=aL a
 grind [cW]
theorem qj(s:aA)(a:bk s=true):zzA 527 false [.val (some 3) (aA.enc .S s)] .one (aG .own (wz s 16)):=by
 have b:=gS s;rw[a]at b;have g:=aL a;have n:=cW g.2.2;refine fO 27 [(5,7,[14,15,16,17,18,19,20])] Tryz.func527 rfl ?_ (.inr (bO _))
 refine ZP ?_
 refine CF (ι:=Nat) (λi=>[(1,.G .box (aA.enc .S s)),(3,.G .one (aG .own (wz s i))),(4,.G .one [I ((i:Nat):Int)])]) (λi=>i<=16) (λi=>16 - i) (0) ?_ (X0 _) λi o=>?_
 ·exact wB
 have h:=mq s i;by_cases j:i<16
 ·have k:=Lv a j
  have d:IntKind.i64.wrap (((i:Nat):Int).tdiv (csz s.Z))=((i:Nat):Int) / csz s.Z:=by grind [fW]
  have c:=jj s.a6 (((i:Nat):Int) / csz s.Z) (fC a).2;cases e:xE s i
  ·rw[show bh s.a6 (((i:Nat):Int) / csz s.Z)=false from e]at c
   repeat'(first|refine gE ?_|refine C8 (eg _) ?_|refine CN ω ?_|refine CL d ?_)
   (refine CD (i+1) ω ω ?_)
   rw[NA e];exact wB
  rw[show bh s.a6 (((i:Nat):Int) / csz s.Z)=true from e]at c
  repeat'(first|refine gE ?_|refine C8 (eg _) ?_|refine CN ω ?_|refine CL d ?_|refine CT cR (λr l=>by rw[V1.1 l];rfl) (by simp[bn,eP]) (by simp;omega) (by simp only[I1];exact xi (by simp;omega) (by decide)) rfl ?_)
  (refine CD (i+1) ω ω ?_)
  rw[KC e]
  (repeat'(first|exact trivial|rfl|exact CJ rfl (CJ (Z0 (C.s dA.own) (by simp[rI])) trivial)|refine CJ ?_ ?_))
 obtain rfl:i=16:=ω
 refine ZE ?_
 rfl
theorem pW(s:aA)(a:bk s=true):zzA 436 false [.val (some 3) (aA.enc .S s)] .one (aG .own (wz s 16)):=by
 have c:=g9 s;rw[a]at c;have g:=aL a;have n:=cW g.2.2;refine fO 26 [(7,7,[13,14,15,16,17,18,19])] Tryz.func436 rfl ?_ (.inr (bO _))
 refine ZP ?_
 refine CF (ι:=Nat) (λi=>[(1,.G .box (aA.enc .S s)),(3,.G .one (aG .own (wz s i))),(4,.G .one [I ((i:Nat):Int)])]) (λi=>i<=16) (λi=>16 - i) (0) ?_ (X0 _) λi o=>?_
 ·exact wB
 have h:=mq s i;by_cases j:i<16
 ·have k:=Lv a j
  have d:IntKind.i64.wrap (((i:Nat):Int).tdiv (csz s.Z))=((i:Nat):Int) / csz s.Z:=by grind [fW]
  have b:=gU s.a6 (((i:Nat):Int) / csz s.Z) (fC a).2;cases e:xE s i
  ·rw[show bh s.a6 (((i:Nat):Int) / csz s.Z)=false from e]at b
   repeat'(first|refine gE ?_|refine C8 (dl _) ?_|refine CN ω ?_|refine CL d ?_)
   (refine CD (i+1) ω ω ?_)
   rw[NA e];exact wB
  rw[show bh s.a6 (((i:Nat):Int) / csz s.Z)=true from e]at b
  repeat'(first|refine gE ?_|refine C8 (dl _) ?_|refine CN ω ?_|refine CL d ?_|refine CT cR (λr l=>by rw[V1.1 l];rfl) (by simp[bn,eP]) (by simp;omega) (by simp only[I1];exact xi (by simp;omega) (by decide)) rfl ?_)
  (refine CD (i+1) ω ω ?_)
  rw[KC e]
  (repeat'(first|exact trivial|rfl|exact CJ rfl (CJ (Z0 (C.s dA.own) (by simp[rI])) trivial)|refine CJ ?_ ?_))
 obtain rfl:i=16:=ω
 refine ZE ?_
 rfl
structure dX where
 A:Int
 B:Int
deriving DecidableEq,Inhabited
def dX.enc(_:dA)(x:dX):List C:=[I x.A,I x.B]
def fj(o:dA)(x:List dX):List C:=[.s o (x.map (dX.enc o))]
theorem yL(x:List dX):g0 (fj .own x):=⟨⟨.inl ψ,bj _ _ λ_ _=>⟨trivial,trivial,trivial⟩⟩,trivial⟩
theorem yo(xs:List dX)(pr:dX->Bool)(g:xs.length<=9223372036854775807):zzA 586 false [.val none (fj .S xs),.fn (mg Tryz.prog (pk (some 2) (dX.enc .S) pr xs))] .one [I (cj pr xs)]:=by
 refine fO 19 [] Tryz.func586 rfl ?_
 refine ZP ?_
 refine CF (ι:=Nat) (λi=>[(0,.G .one (fj .S xs)),(1,.fv (mg Tryz.prog (pk (some 2) (dX.enc .S) pr xs))),(7,.G .one [I xs.length]),(8,.G .one [I (i:Nat)])]) (λi=>i<=xs.length/\∀(j:Nat)(z:dX),j<i->xs[j]? = some z->pr z=false) (λi=>xs.length - i) 0 ?_ ψ λi b=>?_
 ·exact wB
 obtain⟨b,d⟩:=b;by_cases a:i<xs.length
 ·obtain⟨y,c⟩ : ∃y,xs[i]? = some y:=⟨_,X2 a⟩
  repeat'(first|refine gE ?_|refine Fv.mk (k:=.one) (rcs:=[B (pr y)]) ⟨y,O2 c,rfl,rfl,rfl⟩ ?_|refine Bf.P (λe=>?_) (λe=>?_))
  ·grind [dw]
  (conv=>whnf)
  refine CD (i+1) ψ ω ?_;exact wB
 refine ZE ?_
 exact Z0 (λz=>[I z]) (fg ω d).symm
theorem uE(xs:List dX)(pr:dX->Bool)(a:xs.length<=9223372036854775807):zzA 562 false [.val none (fj .S xs),.fn (mg Tryz.prog (pk (some 2) (dX.enc .S) pr xs))] .one [B (xs.any pr)]:=by
 refine fO 9 [] Tryz.func562 rfl ?_
 repeat'(first|refine gP ?_|refine C8 (yo xs pr a) ?_)
 grind [lK]
def EM(i:Int)(p:dX):Bool:=decide (p.A=i) || decide (p.B=i)
def GP(p:dX)(i:Int):zzA 563 false [.val (some 2) (dX.enc .S p),.ptr [I i]] .one [B (EM i p)]:=by
 refine fO 14 [] Tryz.func563 rfl ?_
 repeat'(first|refine gP ?_|with_reducible refine Bf.E (λa=>?_) (λa=>?_))
 all_goals exact Z0 (λz=>[B z]) ((by unfold EM;first|(simp[*];done)|(simp[*];rw[v5];simp)))
def xH(xs:List dX)(i:Int)(b:xs.length<=1048576):zzA 496 false [.val none (fj .S xs),.val none [I i]] .one [B (xs.any (EM i))]:=by
 refine fO 8 [] Tryz.func496 rfl ?_
 repeat'(first|refine gP ?_|refine Cq.mk (pk (some 2) (dX.enc .S) (EM i) xs) (GP default i).has (λL k rcs a=>?_) ?_|refine C8 (uE xs (EM i) ω) ?_)
 ·obtain⟨y,-,rfl,rfl,rfl⟩:=a
  exact GP y i
 rfl
def dY(a b:aA):cf:=if(wz a 16).length<(wz b 16).length then⟨b.R,a.R,wz a 16⟩ else⟨a.R,b.R,wz b 16⟩
def Bg(a b:aA)(g:meshable a b=true)(h:bk a=true)(i:bk b=true):zzA 429 false [.val (some 3) (aA.enc .S a),.val (some 3) (aA.enc .S b)] (.tup [some 3,none]) (cf.enc .own (dY a b)++[B true]):=by
 have c:=mG a b;rw[g]at c;have d:=qj a h;have e:=qj b i;have j:=mq a 16;have k:=mq b 16;unfold dY;split
 ·refine fO 27 [(3,6,[11,12,13,14,15,16]),(5,6,[20,21,22,23,24,25])] Tryz.func429 rfl ?_ (.inr (aB (cf.enc_fr _) ⟨trivial,trivial⟩))
  refine ZE ?_
  rfl
 refine fO 27 [(3,6,[11,12,13,14,15,16]),(5,6,[20,21,22,23,24,25])] Tryz.func429 rfl ?_ (.inr (aB (cf.enc_fr _) ⟨trivial,trivial⟩))
 refine ZE ?_
 rfl
def A9(a b:aA)(g:meshable a b=true)(h:bk a=true)(i:bk b=true):zzA 390 false [.val (some 3) (aA.enc .S a),.val (some 3) (aA.enc .S b)] (.tup [some 3,none]) (cf.enc .own (dY a b)++[B true]):=by
 have c:=mM a b;rw[g]at c;have d:=pW a h;have e:=pW b i;have j:=mq a 16;have k:=mq b 16;unfold dY;split
 ·refine fO 34 [(3,3,[13,14,15])] Tryz.func390 rfl ?_ (.inr (aB (cf.enc_fr _) ⟨trivial,trivial⟩))
  refine ZE ?_
  rfl
 refine fO 34 [(3,3,[13,14,15])] Tryz.func390 rfl ?_ (.inr (aB (cf.enc_fr _) ⟨trivial,trivial⟩))
 refine ZE ?_
 rfl
def xf(p:cf):cz:=⟨p,0,0⟩
def FF(p:cf)(c:fH p=true)(a:cf.sml p):zzA 430 false [.val (some 3) (cf.enc .S p)] (.tup [some 5,none]) (cz.enc .own (xf p)++[B true]):=by
 have b:=vX p a;rw[c]at b;have d:=uw (xf p) a;refine fO 11 [] Tryz.func430 rfl ?_ (.inr (aB (cz.enc_fr _) ⟨trivial,trivial⟩))
 refine ZP ?_
 rfl
def Hk(p:cf)(c:fH p=true)(a:cf.sml p):zzA 391 false [.val (some 3) (cf.enc .S p)] (.tup [some 5,none]) (cz.enc .own (xf p)++[B true]):=by
 have b:=wv p a;rw[c]at b;have d:=rE p a;refine fO 11 [] Tryz.func391 rfl ?_ (.inr (aB (cz.enc_fr _) ⟨trivial,trivial⟩))
 refine ZP ?_
 rfl
def qW(n:Nat){s:Int}(c:0<=s/\s<=1073741823):∀{j:Nat},j<=n - 1->∀x∈(fk n s j).1,0<=x/\x<n
 | 0,_,x,a=>by
  simp only[fk,qw,W4,List.mem_range]at a;obtain⟨i,d,rfl⟩:=a;omega
 | j+1,e,x,a=>by
  have f:=(kh n c j).1;have b:=qW n c (j:=j) ω;have g:=qn (fk n s j).2 (n:=((n - 1 - j:Nat)+1:Int)) ω;simp only[fk,wE]at a;rcases Y6 a with a|rfl
  ·rcases Y6 a with a|rfl
   ·exact b x a
   exact b _ (au ω)
  exact b _ (au ω)
def tkn(out:List dX)(a:Int):Bool:=out.any (EM a)
def stp(a:List aA)(p:List Int)(t i:Nat)(out:List dX):List dX:=
 if tkn out (nth p i)=false/\tkn out (nth p (p.length / 2+(i+t) % (p.length - p.length / 2)))=false/\meshable (nth a (nth p i).toNat) (nth a (nth p (p.length / 2+(i+t) % (p.length - p.length / 2))).toNat)=true then out++[⟨nth p i,nth p (p.length / 2+(i+t) % (p.length - p.length / 2))⟩] else out
def rj(a:List aA)(p:List Int)(t:Nat)(out:List dX):Nat->List dX
 | 0=>out
 | i+1=>stp a p t i (rj a p t out i)
def mh(a:List aA)(p:List Int):Nat->List dX
 | 0=>[]
 | t+1=>rj a p t (mh a p t) (p.length / 2)
def Qu(a:List aA)(p:List Int)(t i:Nat)(out:List dX):(stp a p t i out).length<=out.length+1:=by unfold stp;split<;>simp
def tt(a:List aA)(p:List Int)(t:Nat)(out:List dX):∀i,(rj a p t out i).length<=out.length+i
 | 0=>V3 _
 | i+1=>by have b:=tt a p t out i;have c:=Qu a p t i (rj a p t out i);simp only[rj];omega
def y8(a:List aA)(p:List Int):∀t,(mh a p t).length<=t*(p.length / 2)
 | 0=>X0 _
 | t+1=>by have b:=y8 a p t;have c:=tt a p t (mh a p t) (p.length / 2);simp only[mh];rw[Nat.add_mul];omega
def ka(a:List aA)(s:Int):List dX:=mh a (shuf a.length s).1 3
def oX(n:Nat)(out:List dX):List Bool:=(List.range n).map λ(i:Nat)=>tkn out (i:Nat)
variable{out:List dX}
def KW(h:0<=a/\a<n):(oX n out)[a.toNat]? = some (tkn out a):=by
 unfold oX;rw[W3,I7 ω];show some (tkn out ((a.toNat:Nat):Int))=_;rw[Int.toNat_of_nonneg h.1]
variable{b:Int}
def N7(f:0<=a/\a<n)(g:0<=b/\b<n):oX n (out++[⟨a,b⟩])=((oX n out).set a.toNat true).set b.toNat true:=by
 unfold oX;apply List.ext_getElem?;intro i;by_cases c:i<n
 ·rw[W3,I7 c]
  by_cases d:b.toNat=i
  ·subst d
   rw[t4 (by simp;omega)];simp only[O5,tkn,List.any_append,List.any_cons,List.any_nil,EM];rw[Int.toNat_of_nonneg g.1];simp
  rw[List.getElem?_set_ne d];by_cases e:a.toNat=i
  ·subst e
   rw[t4 (by simp;omega)];simp only[O5,tkn,List.any_append,List.any_cons,List.any_nil,EM];rw[Int.toNat_of_nonneg f.1];simp
  rw[List.getElem?_set_ne e,W3,I7 c];simp only[O5,tkn,List.any_append,List.any_cons,List.any_nil,EM];rw[W0 ω,W0 ω];simp
 rw[z3 (by simp;omega),z3 (by simp;omega)]
def Q3(n:Nat):(oX n []).map (rB .own)=List.replicate n [B false]:=by
 unfold oX;rw[List.map_map];apply List.ext_getElem?;intro i;rw[W3];by_cases a:i<n
 ·rw[I7 a,List.getElem?_replicate];simp[a];rfl
 rw[z3 (by simp;omega),List.getElem?_replicate];simp[a]
def MF{xs:List Bool}{k:Nat}(v:Bool)(a:k<xs.length):((xs.map (rB .own)).set i (rB .own v))[k]? = some (rB .own (nth (xs.set i v) k)):=by
 rw[<-V6];exact aa (ar (by rw[Z1];exact a))
def wQ(c:List aA)(s:Int)(u:0<=s/\s<=1073741823)(V:c.length<=16):zzA 428 false [.val none (bW .S c),.val none [I s],.val none [I 3]] (.tup [none,none]) (fj .own (ka c s)++[I (shuf c.length s).2]):=by
 have J:=aM s 0 1073741823;rw[O0 u]at J;have K:=aM 3 0 16;rw[O0 ω]at K;have Q:=AJ c.length s u ω;have D:=(kh c.length u (c.length - 1)).1;have e:=qW c.length u (V3 _);unfold ka;change (shuf c.length s).1.length=_ at D;change ∀x∈(shuf c.length s).1,_ at e
 have E:g0 (fj .own (mh c (shuf c.length s).1 3)++[I (shuf c.length s).2]):=aB (yL _) ⟨trivial,trivial⟩;generalize shuf c.length s=q at *;obtain⟨p,z⟩:=q;simp only at *;have F:((p.length:Nat):Int).tdiv 2=((p.length / 2:Nat):Int):=by rw[Int.tdiv_eq_ediv_of_nonneg ω];omega
 have g:C.s dA.own ((oX c.length []).map (rB .own))=C.s dA.own (List.replicate c.length [B false]):=by rw[Q3]
 have h:∀i:Nat,i<p.length->0<=nth p i/\nth p i<c.length:=λi R=>e _ (au R)
 refine fO 110 [(15,21,[73,74,75,76,77,78,79,80,81,82,83,84,85,86,87,88,89,90,91,92,93])] Tryz.func428 rfl ?_ (.inr E)
 repeat'(first|refine gE ?_|with_reducible refine CL ((Z0 _ F).trans (fW ω ω)) ?_|refine CN (by decide) ?_|refine Mk.mk c.length rfl rfl ω (xi ω (by decide)) rfl ?_)
 refine CF (ι:=Nat) (λt=>[(0,.G .one (bW .S c)),(2,.G .one [I (3)]),(8,.G .one (fj .own (mh c p t))),(9,.G .one (aG .own p)),(10,.G .one [I (z)]),(11,.G .one [I (((p.length / 2):Nat):Int)]),(12,.G .one (vN .own (oX c.length (mh c p t)))),(13,.G .one [I ((t:Nat):Int)])]) (λt=>t<=3) (λt=>3 - t) (0) ?_ (X0 _) λt S=>?_
 ·repeat'(first|exact trivial|rfl |exact nU g|refine CJ ?_ ?_|(exact Fy (by first|omega|(simp only;omega)|(simp;omega))))
 have W:=y8 c p t;have ol2:t*(p.length / 2)<=3*8:=Nat.mul_le_mul S ω;by_cases X:t<3
 ·refine ZE ?_
  refine CF (ι:=Nat) (λj=>[(0,.G .one (bW .S c)),(2,.G .one [I (3)]),(8,.G .one (fj .own (rj c p t (mh c p t) j))),(9,.G .one (aG .own p)),(10,.G .one [I (z)]),(11,.G .one [I (((p.length / 2):Nat):Int)]),(12,.G .one (vN .own (oX c.length (rj c p t (mh c p t) j)))),(13,.G .one [I ((t:Nat):Int)]),(14,.G .one [I ((j:Nat):Int)])]) (λj=>j<=p.length / 2) (λj=>p.length / 2 - j) (0) ?_ (X0 _) λj Y=>?_
  ·repeat'(first|exact trivial|rfl |exact nU g|refine CJ ?_ ?_|(exact Fy (by first|omega|(simp only;omega)|(simp;omega))))
  have Z:=tt c p t (mh c p t) j;by_cases lj:j<p.length / 2
  ·have L:(j+t) % (p.length - p.length / 2)<p.length - p.length / 2:=Nat.mod_lt _ ω
   have G:((j:Int)+t).tmod ((p.length:Int) - (p.length / 2:Nat))=(((j+t) % (p.length - p.length / 2):Nat):Int):=by
    rw[ew ω,Int.natCast_emod];congr 1;omega
   have d:rj c p t (mh c p t) (j+1)=stp c p t j (rj c p t (mh c p t) j):=rfl;unfold stp at d;generalize rj c p t (mh c p t) j=out at *;have l:p.length / 2+(j+t) % (p.length - p.length / 2)<p.length:=ω
   generalize hk:(j+t) % (p.length - p.length / 2)=k at *;have n:=ar (xs:=p) (i:=j) ω;have o:=ar (xs:=p) (i:=p.length / 2+k) l;have w:=h j ω;have r:=h _ l;generalize nth p j=a at *;generalize nth p (p.length / 2+k)=b at *;have y:=KW (out:=out) w;have H:=KW (out:=out) r;have T:=ar (xs:=c) (i:=a.toNat) ω;have U:=ar (xs:=c) (i:=b.toNat) ω;have M:=mG (nth c a.toNat) (nth c b.toNat);have ub2:=MF (xs:=oX c.length out) (i:=a.toNat) (k:=b.toNat) true (by simp[oX];omega);cases N:tkn out a<;>cases O:tkn out b<;>cases P:meshable (nth c a.toNat) (nth c b.toNat)
   all_goals
    rw[N]at y;rw[O]at H;rw[P]at M;rw[N,O,P]at d;simp only[and_true,true_and,if_true,Bool.false_eq_true,Bool.true_eq_false,and_false,false_and,if_false]at d
    repeat'(first|refine gE ?_|refine CQ G ?_|refine CN ω ?_|refine CK ω (aa o) ?_|refine CK w.1 (aa y) ?_|refine CK r.1 (aa H) ?_|refine CK w.1 (aa T) ?_|refine CK r.1 (aa U) ?_|refine CM rfl rfl (aa y) rfl (O1 rfl) rfl ?_|refine CK r.1 ub2 ?_|refine CM rfl rfl ub2 rfl (O1 rfl) rfl ?_|refine CV (aK λ_=>rfl) rfl (by simp;omega) (by decide) (dR (dX.enc .own) out ⟨a,b⟩) ?_)
    (refine CD (j+1) ω ω ?_)
    rw[d]
    first|(rw[N7 w r];simp only[vN,V6])|skip
    exact wB
  obtain rfl:j=p.length / 2:=ω
  refine ZE ?_
  (refine CD (t+1) ω ω ?_;(exact wB))
 obtain rfl:t=3:=ω
 refine ZE ?_
 rfl
def sK(x:List dX):dB (fj .own x)=fj .S x:=by simp[dB,fj,dX.enc,<-bS,C6]
def wY(c:List aA)(s:Int)(r:0<=s/\s<=1073741823)(Y:c.length<=16):zzA 389 false [.val none (bW .S c),.val none [I s],.val none [I 3]] (.tup [none,none]) (fj .own (ka c s)++[I (shuf c.length s).2]):=by
 have O:=tG s r;have H:=aI 3 0 16;rw[O0 ω]at H;have P:=Bz c.length s r ω;have g:=(kh c.length r (c.length - 1)).1;have h:=qW c.length r (V3 _);unfold ka;change (shuf c.length s).1.length=_ at g;change ∀x∈(shuf c.length s).1,_ at h
 have y:g0 (fj .own (mh c (shuf c.length s).1 3)++[I (shuf c.length s).2]):=aB (yL _) ⟨trivial,trivial⟩;generalize shuf c.length s=q at *;obtain⟨p,z⟩:=q;simp only at *;have B:((p.length:Nat):Int).tdiv 2=((p.length / 2:Nat):Int):=by rw[Int.tdiv_eq_ediv_of_nonneg ω];omega
 have D:fz (C.s dA.own (p.map (rI .own)))=C.s dA.S (p.map (rI .S)):=(List.cons.inj (d9 p)).1;have l:(p.drop (p.length / 2)).length=p.length - p.length / 2:=Y3 ..;have Q:(p.take (p.length / 2)).length=p.length / 2:=by rw[C2];omega
 have n:∀i:Nat,i<p.length->0<=nth p i/\nth p i<c.length:=λi R=>h _ (au R)
 have d:((c.length:Nat):Int).tdiv 2=((p.length / 2:Nat):Int):=by rw[<-g];exact B
 refine fO 99 [(5,264,[39,40,41,42,43,44,45,46,0,1,2,3,4,5,6,7,8,1004,1005,1006,1007,9]),(14,19,[69,70,71,72,73,74,75,76,77,78,79,80,81,82,83,84,85,86,87]),(1048581,9,[0])] Tryz.func389 rfl ?_ (.inr y)
 repeat'(first|refine gE ?_|with_reducible refine CL ((Z0 _ d).trans (fW ω ω)) ?_|refine CN (by decide) ?_|refine HK.mk rfl D rfl ?_|refine CS (p.length / 2) d (by rw[I1];omega) (aK λ_=>rfl) O4 ?_|refine CW (p.length / 2) d (by rw[I1];omega) (aK λ_=>rfl) V4 ?_)
 refine CF (ι:=Nat) (λt=>[(0,.G .one (bW .S c)),(2,.G .one [I (3)]),(10,.G .one [I (z)]),(11,.G .one (aG .S (p.take (p.length / 2)))),(12,.G .one (aG .S (p.drop (p.length / 2)))),(13,.G .one (fj .own (mh c p t))),(14,.G .one [I ((t:Nat):Int)])]) (λt=>t<=3) (λt=>3 - t) (0) ?_ (X0 _) λt S=>?_
 ·exact wB
 have Z:=y8 c p t;have ol2:t*(p.length / 2)<=3*8:=Nat.mul_le_mul S ω;by_cases lt:t<3
 ·refine ZE ?_
  refine CF (ι:=Nat) (λj=>[(0,.G .one (bW .S c)),(2,.G .one [I (3)]),(10,.G .one [I (z)]),(11,.G .one (aG .S (p.take (p.length / 2)))),(12,.G .one (aG .S (p.drop (p.length / 2)))),(13,.G .one (fj .own (rj c p t (mh c p t) j))),(14,.G .one [I ((t:Nat):Int)]),(53,.G .one (aG .S (p.take (p.length / 2)))),(54,.G .one [I (((p.length / 2):Nat):Int)]),(55,.G .one [I ((j:Nat):Int)])]) (λj=>j<=p.length / 2) (λj=>p.length / 2 - j) (0) ?_ (X0 _) λj hj=>?_
  ·exact wB
  have rl:=tt c p t (mh c p t) j;by_cases T:j<p.length / 2
  ·have J:(j+t) % (p.length - p.length / 2)<p.length - p.length / 2:=Nat.mod_lt _ ω
   have E:((j:Int)+t).tmod ((p.length - p.length / 2:Nat):Int)=(((j+t) % (p.length - p.length / 2):Nat):Int):=by
    rw[ew ω,Int.natCast_emod];congr 1
   have e:rj c p t (mh c p t) (j+1)=stp c p t j (rj c p t (mh c p t) j):=rfl;unfold stp at e;generalize rj c p t (mh c p t) j=out at *;have o:p.length / 2+(j+t) % (p.length - p.length / 2)<p.length:=ω
   generalize hk:(j+t) % (p.length - p.length / 2)=k at *;have F:(p.take (p.length / 2))[j]? = some (nth p j):=by rw[List.getElem?_take,CC T];exact ar ω
   have G:(p.drop (p.length / 2))[k]? = some (nth p (p.length / 2+k)):=by rw[List.getElem?_drop];exact ar o
   have U:=n j ω;have V:=n _ o;generalize nth p j=a at *;generalize nth p (p.length / 2+k)=b at *;have K:=xH out a ω;have L:=xH out b ω;have W:=ar (xs:=c) (i:=a.toNat) ω;have X:=ar (xs:=c) (i:=b.toNat) ω;have M:=mM (nth c a.toNat) (nth c b.toNat);cases u:tkn out a<;>cases w:tkn out b<;>cases N:meshable (nth c a.toNat) (nth c b.toNat)
   all_goals
    unfold tkn at u w;rw[u]at K;rw[w]at L;change (tkn out a)=_ at u;change (tkn out b)=_ at w;rw[N]at M;rw[u,w,N]at e;simp only[and_true,true_and,if_true,Bool.false_eq_true,Bool.true_eq_false,and_false,false_and,if_false]at e
    repeat'(first|refine gE ?_|refine CQ (z:=(k:Int)) (by rw[l];exact E) ?_|refine Ln.mk (show List.length (List.map _ (p.drop (p.length / 2)))=p.length - p.length / 2 by rw[I1];exact l) ?_|refine CN ω ?_|refine CK ω (aa G) ?_|refine CK U.1 (aa W) ?_|refine CK V.1 (aa X) ?_|refine CG (K) ⟨⟨rfl,sK _⟩,⟨rfl,rfl⟩,trivial⟩ ?_|refine CG (L) ⟨⟨rfl,sK _⟩,⟨rfl,rfl⟩,trivial⟩ ?_|refine CV (aK λ_=>rfl) rfl (by simp;omega) (by decide) (dR (dX.enc .own) out ⟨a,b⟩) ?_)
    (refine CD (j+1) ω ω ?_)
    rw[e];exact wB
  obtain rfl:j=p.length / 2:=ω
  refine ZE ?_
  (refine CD (t+1) ω ω ?_;(exact wB))
 obtain rfl:t=3:=ω
 refine ZE ?_
 rfl
def am.fzR{sh:Bool}{A:List RA}{k:Kd}{rcs:List C}(h:am P f sh A k rcs):am P f sh A k (dB rcs):=by
 obtain⟨c,d⟩:=h;refine⟨c,λw S g i j=>(d w S g i j).mono λe w1 l=>?_⟩;obtain⟨v,n,p,X,S1,q,r,y,t,u⟩:=l;refine⟨v,n,p,NO,λb o=>S1 b o\/X b o,λ_ _ h=>h.elim,λb o a=>?_,λ_ _ h=>h.elim,by rw[bS,I1];exact t,u.freeze⟩;rcases a with a|a
 ·exact r b o a
 exact .inr (q b o a)
structure QO(ls:List aA)(q:dX):Prop where
 a:0<=q.A/\q.A<ls.length
 b:0<=q.B/\q.B<ls.length
 m:meshable (nth ls q.A.toNat) (nth ls q.B.toNat)=true
def Ki{b:List aA}{p:List Int}(c:∀x∈p,0<=x/\x<b.length)(t:Nat){out:List dX}(d:∀q∈out,QO b q):∀{i:Nat},i<=p.length / 2->∀q∈rj b p t out i,QO b q
 | 0,_=>d
 | i+1,h=>λq a=>by
  have e:=Ki c t d (i:=i) ω;simp only[rj,stp]at a;split at a
  ·rename_i g
   rcases O3.1 a with a|a
   ·exact e q a
   obtain rfl:=V1.1 a;have f:(i+t) % (p.length - p.length / 2)<p.length - p.length / 2:=Nat.mod_lt _ ω;exact⟨c _ (au ω),c _ (au ω),g.2.2⟩
  exact e q a
def KZ{a:List aA}{p:List Int}(b:∀x∈p,0<=x/\x<a.length):∀t,∀q∈mh a p t,QO a q
 | 0=>λq c=>by cases c
 | t+1=>Ki b t (KZ b t) (V3 _)
def oy(a:List aA){s:Int}(b:0<=s/\s<=1073741823):∀q∈ka a s,QO a q:=KZ (qW a.length b (V3 _)) 3
def QJ(s:aA)(n:Nat):(wz s n).Pairwise (· < ·):=by
 unfold wz;rw[List.pairwise_map];exact(List.pairwise_lt_range.sublist List.filter_sublist).imp λh=>ω
def Ta : ∀z∈wz s n,0<=z/\z<n:=λz a=>by
 unfold wz at a;simp only[W4,X4,List.mem_range]at a;obtain⟨c,⟨b,-⟩,rfl⟩:=a;omega
def yl(s:aA):df (wz s 16).length (o6 (wz s 16))=true:=by
 refine cx.2 λj a=>?_
 have c:=Ta _ (au a);unfold o6;refine O0 ⟨ω,ω,?_⟩;by_cases e:j=0
 ·exact .inl e
 refine .inr ?_;have b:=List.pairwise_iff_getElem.1 (QJ s 16) (j - 1) j ω a ω;rw[show nth (wz s 16) (j - 1)=(wz s 16)[j - 1] from b8 (X2 ω),show nth (wz s 16) j=(wz s 16)[j] from b8 (X2 a)];exact b
def qU{a b:aA}(c:meshable a b=true):fH (dY a b)=true/\bk a=true/\bk b=true:=by
 unfold meshable at c;simp only[I0,C0]at c;have d:=aL c.1.1;have e:=aL c.1.2;refine⟨?_,c.1⟩;unfold dY fH;split
 ·simp only[I0,C0];exact⟨yl a,ω⟩
 simp only[I0,C0];exact⟨yl b,ω⟩
def Ae(a b:aA):cf.sml (dY a b):=by
 have c:=mq a 16;have d:=mq b 16;unfold dY cf.sml l8;split<;>simp only<;>omega
def b9(h:ac):List aA:=(ij h).take 16
def started(h:ac):ac × Bool:=match ka (b9 h) h.b5 with
 | []=>({h with b5:=(shuf (b9 h).length h.b5).2},false)
 | q::_=>({h with b5:=(shuf (b9 h).length h.b5).2,a2:=true,a5:=xf (dY (nth (b9 h) q.A.toNat) (nth (b9 h) q.B.toNat))},true)
def GC(a:bg h E):h.K.length<=32/\eO h<=32/\wT h/\∀s∈h.K,s.a6<=9223372036854775807:=by
 have b:=a.lens;refine⟨b.spans,b.ents,?_,λs c=>by have:=ec (a.L.sok s c);omega⟩;have:=(aZ a.ker).1.2;exact this
def yS(h:ac):(b9 h).length<=16:=by unfold b9;rw[C2];omega
def PC(x:List dX)(z:Int):dB (fj .own x++[I z])=fj .S x++[I z]:=by
 have h:=sK x;rw[bS]at h |-;rw[Z5,h];simp[fz]
def Tj(h:ac):(b9 h).map (aA.enc .S)=((ij h).map (aA.enc .S)).take 16:=O4
def J7(p:cf)(b:fH p=true)(c:cf.sml p):zzA 430 false [.val (some 3) (cf.enc .S p)] (.tup [some 5,none]) (xB (xf p)++[B true]):=by
 have h:=(FF p b c).fzR;have e:dB (cz.enc .own (xf p)++[B true])=xB (xf p)++[B true]:=by
  have a:=cz.enc_fz (xf p);rw[bS]at a |-;rw[Z5,a];simp[fz,cz.enc,xB]
 rwa [e]at h
def AM(h:ac)(w:bg h []):zzB 279 false [.ptr (bK h)] [.ptr (bK (started h).1)] .one [B (started h).2]:=by
 obtain⟨w1,Q,H,J⟩:=GC w;have a:=w.nums;unfold cg at a;rw[C0]at a;have e:=(xS h H ω ω J).fzR;rw[dZ]at e;have o:=yS h;have b:=(wQ (b9 h) h.b5 ⟨a.1,a.2.1⟩ o).fzR;rw[PC]at b;have g:=oy (b9 h) ⟨a.1,a.2.1⟩;have K:=pJ h h.K.length;have y:(ij h).length<=32:=by unfold ij;omega
 have j:=Tj h;unfold started;cases C:ka (b9 h) h.b5 with
 | nil=>
  rw[C]at b;by_cases L:16<(ij h).length
  ·refine fM 62 [] [(8,275,[34,35,36,37,38,39,40,41,42,43,44,45,46,47,48,33,49,50,6,0,1,2,3,4,5,6,7,8,9,10,11,12,13,14,15,16,17,18,19,1017,20])] [(0,0)] Tryz.func279 rfl (λu q=>?_)
   repeat'(first|refine gE ?_|refine CG (e) ⟨⟨rfl,bN h⟩,trivial⟩ ?_|refine CS 16 rfl (by rw[I1];omega) (aK λ_=>rfl) j ?_)
   refine CH rfl rfl ?_;exact wC
  have k:b9 h=ij h:=by unfold b9;exact V7 ω
  rw[k]at b;refine fM 62 [] [(8,275,[34,35,36,37,38,39,40,41,42,43,44,45,46,47,48,33,49,50,6,0,1,2,3,4,5,6,7,8,9,10,11,12,13,14,15,16,17,18,19,1017,20])] [(0,0)] Tryz.func279 rfl (λu q=>?_);rw[k]
  repeat'(first|refine gE ?_|refine CG (e) ⟨⟨rfl,bN h⟩,trivial⟩ ?_)
  refine CH rfl rfl ?_;exact wC
 | cons q M=>
  rw[C]at b g;obtain⟨E,F,G⟩:=g q (I2 ..);obtain⟨N,O,P⟩:=qU G;have p:=Bg _ _ G O P;have t:=J7 _ N (Ae _ _);have c:=ar (xs:=b9 h) (i:=q.A.toNat) ω;have d:=ar (xs:=b9 h) (i:=q.B.toNat) ω;have l:(q::M)[0]? = some q:=rfl;by_cases L:16<(ij h).length
  ·refine fM 62 [] [(8,275,[34,35,36,37,38,39,40,41,42,43,44,45,46,47,48,33,49,50,6,0,1,2,3,4,5,6,7,8,9,10,11,12,13,14,15,16,17,18,19,1017,20])] [(0,0)] Tryz.func279 rfl (λu r=>?_)
   repeat'(first|refine gE ?_|with_reducible refine Bf.D (λn=>absurd n (by simp)) (λn=>?_)|refine CG (e) ⟨⟨rfl,bN h⟩,trivial⟩ ?_|refine CS 16 rfl (by rw[I1];omega) (aK λ_=>rfl) j ?_|refine CK (by decide) (aa l) ?_|refine CK E.1 (aa c) ?_|refine CK F.1 (aa d) ?_|refine CG (t) ⟨⟨rfl,cf.enc_fz _⟩,trivial⟩ ?_)
   refine CH rfl rfl ?_;exact wC
  have k:b9 h=ij h:=by unfold b9;exact V7 ω
  rw[k]at b p t c d;refine fM 62 [] [(8,275,[34,35,36,37,38,39,40,41,42,43,44,45,46,47,48,33,49,50,6,0,1,2,3,4,5,6,7,8,9,10,11,12,13,14,15,16,17,18,19,1017,20])] [(0,0)] Tryz.func279 rfl (λu r=>?_);rw[k]
  repeat'(first|refine gE ?_|with_reducible refine Bf.D (λn=>absurd n (by simp)) (λn=>?_)|refine CG (e) ⟨⟨rfl,bN h⟩,trivial⟩ ?_|refine CK (by decide) (aa l) ?_|refine CK E.1 (aa c) ?_|refine CK F.1 (aa d) ?_|refine CG (t) ⟨⟨rfl,cf.enc_fz _⟩,trivial⟩ ?_)
  refine CH rfl rfl ?_;exact wC
def EV(h:ac):ac × Bool:=if h.a2=false/\eE h=true then started h else(h,false)
def EA(h:ac)(g:ac.sml h)(i:¬(h.a2=false/\eE h=true)):zzA 249 false [.val (some 24) (ac.enc .S h)] (.tup [some 24,none]) (cY h++[B false]):=by
 have a:=cT h g;rw[ee]at a;have b:=dt h g;have c:ac.enc .S h=(ac.enc .S h).set 18 (B h.a2):=rfl;cases d:h.a2
 ·have j:eE h=false:=by
   rcases Bool.eq_false_or_eq_true (eE h) with e|e
   ·exact absurd ⟨d,e⟩ i
   exact e
  rw[j]at a;rw[d]at c;rw[c]at a b |-;refine fO 66 [(10,275,[41,42,43,44,45,46,47,48,49,50,51,52,53,54,55,40,56,57,8,0,1,2,3,4,5,6,7,8,9,10,11,12,13,14,15,16,17,18,19,1017,20])] Tryz.func249 rfl ?_ (.inr (aB (bX _) ⟨trivial,trivial⟩))
  refine ZP ?_
  rfl
 rw[d]at c;rw[c]at a b |-;refine fO 66 [(10,275,[41,42,43,44,45,46,47,48,49,50,51,52,53,54,55,40,56,57,8,0,1,2,3,4,5,6,7,8,9,10,11,12,13,14,15,16,17,18,19,1017,20])] Tryz.func249 rfl ?_ (.inr (aB (bX _) ⟨trivial,trivial⟩))
 refine ZP ?_
 rfl
def AC(h:ac)(t:ac.sml h)(H:h.a2=false)(u:eE h=true):zzA 249 false [.val (some 24) (ac.enc .S h)] (.tup [some 24,none]) (cY (started h).1++[B (started h).2]):=by
 have w:=bg.of u;obtain⟨w1,U,J,K⟩:=GC w;have a:=w.nums;unfold cg at a;rw[C0]at a;have j:=cT h t;rw[ee,u]at j;have l:=dt h t;have k:=(zW h J ω ω K).fzR;rw[dZ]at k;have n:=yS h;have c:=(wY (b9 h) h.b5 ⟨a.1,a.2.1⟩ n).fzR;rw[PC]at c;have d:=oy (b9 h) ⟨a.1,a.2.1⟩;have L:=pJ h h.K.length;have y:(ij h).length<=32:=by unfold ij;omega
 have g:(b9 h).map (aA.enc .S)=((ij h).map (aA.enc .S)).take (b9 h).length:=by
  unfold b9;rw[O4,C2];by_cases e:16<=(ij h).length
  ·rw[Nat.min_eq_left e]
  rw[Nat.min_eq_right ω,V7 (by rw[I1];omega),V7 (by rw[I1];omega)]
 have b:(b9 h).length=if(ij h).length<=16 then(ij h).length else 16:=by unfold b9;rw[C2];split<;>omega
 have C:ac.enc .S h=(ac.enc .S h).set 18 (B h.a2):=rfl;rw[H]at C;rw[C]at j l k |-;unfold started;cases E:ka (b9 h) h.b5 with
 | nil=>
  rw[E]at c;refine fO 66 [(10,275,[41,42,43,44,45,46,47,48,49,50,51,52,53,54,55,40,56,57,8,0,1,2,3,4,5,6,7,8,9,10,11,12,13,14,15,16,17,18,19,1017,20])] Tryz.func249 rfl ?_ (.inr (aB (bX _) ⟨trivial,trivial⟩))
  repeat'(first|refine gP ?_|refine CQ (z:=((b9 h).length:Int)) (by rw[b];simp;split<;>split<;>omega) ?_|refine CS (b9 h).length rfl (by rw[I1,b];split<;>omega) (aK λ_=>rfl) g ?_)
  rfl
 | cons q M=>
  rw[E]at c d;obtain⟨N,O,F⟩:=d q (I2 ..);obtain⟨P,Q,R⟩:=qU F;have S:=A9 _ _ F Q R;have T:=Hk _ P (Ae _ _);have o:=ar (xs:=b9 h) (i:=q.A.toNat) ω;have p:=ar (xs:=b9 h) (i:=q.B.toNat) ω;have r:(q::M)[0]? = some q:=rfl;refine fO 66 [(10,275,[41,42,43,44,45,46,47,48,49,50,51,52,53,54,55,40,56,57,8,0,1,2,3,4,5,6,7,8,9,10,11,12,13,14,15,16,17,18,19,1017,20])] Tryz.func249 rfl ?_ (.inr (aB (bX _) ⟨trivial,trivial⟩))
  repeat'(first|refine gP ?_|with_reducible refine Bf.D (λG=>absurd G (by simp)) (λG=>?_)|refine CQ (z:=((b9 h).length:Int)) (by rw[b];simp;split<;>split<;>omega) ?_|refine CS (b9 h).length rfl (by rw[I1,b];split<;>omega) (aK λ_=>rfl) g ?_|refine CK (by decide) (aa r) ?_|refine CK N.1 (aa o) ?_|refine CK O.1 (aa p) ?_|refine CG (T) ⟨⟨rfl,cf.enc_fz _⟩,trivial⟩ ?_)
  rfl
def yJ(h:ac)(a:ac.sml h):zzA 249 false [.val (some 24) (ac.enc .S h)] (.tup [some 24,none]) (cY (EV h).1++[B (EV h).2]):=by
 unfold EV;split
 ·rename_i e;exact AC h a e.1 e.2
 rename_i e;exact EA h a e
theorem HT(xs:List Int)(x:Int)(g:xs.length<=4611686018427387904):zzA 435 false [.val none (aG .S xs),.val none [I x]] .one [I (cj (λy=>decide (y=x)) xs)]:=by
 refine fO 19 [] Tryz.func435 rfl ?_
 refine ZP ?_
 refine CF (ι:=Nat) (λi=>[(0,.G .one (aG .S xs)),(1,.G .one [I (x)]),(7,.G .one [I (xs.length)]),(8,.G .one [I ((i:Nat):Int)])]) (λi=>i<=xs.length/\∀(j:Nat)(z:Int),j<i->xs[j]? = some z->decide (z=x)=false) (λi=>xs.length - i) (0) ?_ ψ λi a=>?_
 ·exact wB
 obtain⟨a,c⟩:=a;by_cases d:i<xs.length
 ·have b:=ar d
  by_cases e:nth xs i=x
  ·repeat'(first|refine gE ?_|refine Bf.t (by simp[e]) ?_)
   grind [dw]
  repeat'(first|refine gE ?_|refine Bf.f (by simp[Ne.symm e]) ?_)
  (refine CD (i+1) ψ ω ?_;(exact wB))
 refine ZE ?_
 exact Z0 (λz=>[I z]) (fg ω c).symm
theorem rM(xs:List Int)(x:Int)(a:xs.length<=4611686018427387904):zzA 287 false [.val none (aG .S xs),.val none [I x]] .one [B (decide (x∈xs))]:=by
 refine fO 9 [] Tryz.func287 rfl ?_
 repeat'(first|refine gP ?_|refine C8 (HT xs x a) ?_)
 grind [lK]
def dD(k:ah):ah:={k with Calls:=k.Calls+1}
def refd(k:ah):Bool:=decide (k.Calls∈k.d)
def nJ(k:ah)(a:ah.sml k)(d:0<=k.Calls/\k.Calls<=100000):zzA 459 false [.val (some 5) (ah.enc .S k)] (.tup [some 5,none]) (ah.enc .own (dD k)++[B (!refd k)]):=by
 have c:=gm k a;have g:k.d.length<=1048576:=a.2;have b:=rM k.d k.Calls ω;unfold refd;cases e:decide (k.Calls∈k.d)<;>rw[e]at b
 all_goals
  refine fO 18 [(3,263,[11,12,13,14,15,16,17,0,1,2,3,4,5,6,7,1006,8])] Tryz.func459 rfl ?_ (.inr (aB (CX _) ⟨trivial,trivial⟩))
  refine ZP ?_
  rfl
def z7(k:ah)(p:Int)(m:Int):ah:={k with F:=⟨k.F.V,⟨k.F.Q.O.set p.toNat {nth k.F.Q.O p.toNat with k:=m}⟩⟩}
def iX(k:ah)(p m:Int):ah × Bool:=if refd k=true then(dD k,false) else(z7 (dD k) p m,true)
theorem vP(k:ah)(p m:Int):ah.enc .own (z7 k p m)=(ah.enc .own k).set 2 (.s .own ((k.F.Q.O.map (bo.enc .own)).set p.toNat (bo.enc .own {nth k.F.Q.O p.toNat with k:=m}))):=by grind [V6,ah.enc,z7]
def rq(k:ah)(p m:Int)(b:aJ k=true)(n:k.Calls≠100000)(j:(ax k.F.Q p).k≠0)(a:m=1\/m=2):zzA 559 false [.val (some 5) (ah.enc .S k),.val none [I p],.val none [I m]] (.tup [some 5,none]) (ah.enc .own (iX k p m).1++[B (iX k p m).2]):=by
 have c:=aZ b;have o:=(aH.1 b).2.2.2;have d:=gV k c;rw[b,O0 n]at d;have g:=nJ k c ω;have h:=eX k p c.1.2;rw[O0 j]at h;obtain⟨q,r,t⟩:=bM b j;have l:=ar (xs:=k.F.Q.O) (i:=p.toNat) ω;unfold iX;cases e:refd k<;>rw[e]at g
 ·rw[CB (by simp),vP]
  rcases a with rfl|rfl
  all_goals
   refine fO 46 [] Tryz.func559 rfl ?_ (.inr (aB (by rw[<-vP];exact CX _) ⟨trivial,trivial⟩))
   repeat'(first|refine gP ?_|refine CK q (aa l) ?_|refine CM rfl rfl (aa l) rfl (O1 rfl) rfl ?_)
   rfl
 rw[CC rfl];rcases a with rfl|rfl
 all_goals
  refine fO 46 [] Tryz.func559 rfl ?_ (.inr (aB (CX _) ⟨trivial,trivial⟩))
  refine ZP ?_
  rfl
variable{k:ah}
theorem row16(a:aJ k=true)(b:f<k.F.V.W.length):(nth k.F.V.W f).length=16:=by grind [aY,aH,iV]
def setCell(k:ah)(f:Nat)(c v:Int):ah:={k with F:=⟨⟨k.F.V.W.set f ((nth k.F.V.W f).set c.toNat v),k.F.V.y⟩,k.F.Q⟩}
theorem wa(k:ah)(f:Nat)(c v:Int):ah.enc .own (setCell k f c v)=(ah.enc .own k).set 0 (.s .own ((k.F.V.W.map (aG .own)).set f [.s .own (((nth k.F.V.W f).map (rI .own)).set c.toNat [I v])])):=by grind [V6,ah.enc,setCell,aG,rI]
def jx(k:ah)(p:Int):Nat:=(ax k.F.Q p).e.toNat
def u5(k:ah)(a b c:Int):ah:=setCell k (jx k b) c (nth (nth k.F.V.W (jx k a)) c.toNat)
def Li(k:ah)(a b c:Int):Nat->ah
 | 0=>k
 | _+1=>u5 k a b c
def Jd(k:ah)(a b c:Int)(d:aJ k=true)(C:k.Calls≠100000)(q:(ax k.F.Q a).k≠0)(r:(ax k.F.Q b).k≠0)(e:0<=c/\c<=15):zzA 560 false [.val (some 5) (ah.enc .S k),.val none [I a],.val none [I b],.val none (aG .S [c])] (.tup [some 5,none]) (ah.enc .own (u5 k a b c)++[B true]):=by
 have h:=aZ d;have t:=gV k h;rw[d,O0 C]at t;have D:=gm k h;have u:=eX k a h.1.2;have w:=eX k b h.1.2;rw[O0 q]at u;rw[O0 r]at w;have E:=cN k.F.Q a h.1.2;have F:=cN k.F.Q b h.1.2;have y:=Dz c;rw[O0 e]at y;obtain⟨-,-,-,G,K⟩:=bM d q;obtain⟨-,-,-,H,L⟩:=bM d r;have J:=(aY.1 (aH.1 d).2.1).2.2.1;have M:=row16 d (f:=jx k a) (by unfold jx;omega);have N:=row16 d (f:=jx k b) (by unfold jx;omega);have l:k.F.V.W[(ax k.F.Q a).e.toNat]? = some (nth k.F.V.W (jx k a)):=ar ω;have g:k.F.V.W[(ax k.F.Q b).e.toNat]? = some (nth k.F.V.W (jx k b)):=ar ω;have o:=ar (xs:=nth k.F.V.W (jx k a)) (i:=c.toNat) ω;have n:=ar (xs:=nth k.F.V.W (jx k b)) (i:=c.toNat) ω;have p:[c][0]? = some c:=rfl;refine fO 77 [(4,268,[33,34,35,36,37,38,39,40,41,42,43,44,0,1,2,3,4,5,6,7,8,9,10,11,12,1011,13]),(10,18,[56,57,58,59,60,61,62,63,64,65,66,67,68,69,70,71,72,73])] Tryz.func560 rfl ?_ (.inr (aB (CX _) ⟨trivial,trivial⟩))
 refine ZP ?_
 refine CF (ι:=Nat) (λj=>[(4,.G .box (ah.enc .S k)),(8,.G .box (ah.enc .own ⟨⟨⟨[],[]⟩,⟨[]⟩⟩,0,[]⟩)),(10,.G .box (ah.enc .own (Li k a b c j))),(11,.G .one [I ((ax k.F.Q a).e)]),(12,.G .one [I ((ax k.F.Q b).e)]),(45,.G .one (aG .S [c])),(46,.G .one [I (1)]),(47,.G .one [I ((j:Nat):Int)])]) (λj=>j<=1) (λj=>1 - j) (0) ?_ (X0 _) λj O=>?_
 ·exact wB
 by_cases P:j<1
 ·obtain rfl:j=0:=ω
  repeat'(first|refine gE ?_|refine CK (by decide) (aa p) ?_|refine CK G (aa l) ?_|refine CK H (aa g) ?_|refine CK e.1 (aa o) ?_|refine CK e.1 (aa n) ?_|refine Pu.two rfl rfl (aa g) rfl rfl rfl (aa n) rfl (V3 _) rfl ?_)
  (refine CD 1 ω ω ?_)
  rw[show Li k a b c 1=u5 k a b c from rfl];unfold u5;rw[wa];exact wB
 obtain rfl:j=1:=ω
 refine ZE ?_
 rfl
def xl(k:ah)(p:Nat)(e:bo):ah:={k with F:=⟨k.F.V,⟨k.F.Q.O.set p e⟩⟩}
theorem Gp(k:ah)(p:Nat)(e:bo):ah.enc .own (xl k p e)=(ah.enc .own k).set 2 (.s .own ((k.F.Q.O.map (bo.enc .own)).set p (bo.enc .own e))):=by grind [V6,ah.enc,xl]
def FC(p:Nat)(e:bo)(h:aO.sml k.F.Q):aO.sml (xl k p e).F.Q:=by
 refine⟨?_,λx _=>trivial⟩;show(k.F.Q.O.set p e).length<=_;rw[Z1];exact h.1
def Ag(k:ah)(p o:Int):ah × Bool:=if refd k=true then(dD k,false) else(ib (xl (dD k) p.toNat ⟨2,(nth k.F.Q.O o.toNat).e⟩) (nth k.F.Q.O p.toNat).e,true)
def gI(m:aP)(a v:Int):aP × Int:=
 if(ax m.Q (a / 16)).k=0 then(m,1) else if(ax m.Q (a / 16)).k=1 then(m,2) else
 (⟨⟨m.V.W.set (ax m.Q (a / 16)).e.toNat ((nth m.V.W (ax m.Q (a / 16)).e.toNat).set (a % 16).toNat v),m.V.y⟩,m.Q⟩,0)
def uf(m:aP)(a:Int)(d:cV m=true)(b:aP.sml m)(e:0<=a/\a<512):zzA 568 false [.val (some 3) (aP.enc .S m),.val none [I a]] .agg (bo.enc .own (ax m.Q (a / 16))):=by
 have c:=qx m b;rw[d]at c;have g:=cN m.Q (a / 16) b.2;refine fO 18 [] Tryz.func568 rfl ?_ (.inr ⟨trivial,trivial,trivial⟩)
 repeat'(first|refine gE ?_|refine CL (kH e) ?_|refine CN (by decide) ?_)
 rfl
theorem xF(m:aP)(f:Nat)(c v:Int):aP.enc .own ⟨⟨m.V.W.set f ((nth m.V.W f).set c.toNat v),m.V.y⟩,m.Q⟩ = (aP.enc .own m).set 0 (.s .own ((m.V.W.map (aG .own)).set f [.s .own (((nth m.V.W f).map (rI .own)).set c.toNat [I v])])):=by grind [V6,aP.enc,aG,rI]
def y1(m:aP)(a v:Int)(p:cV m=true)(k:aP.sml m)(l:0<=a/\a<512)(q:0<=v/\v<=999)(r:(ax m.Q (a / 16)).k≠0->0<=(ax m.Q (a / 16)).e/\(ax m.Q (a / 16)).e<m.V.W.length/\(nth m.V.W (ax m.Q (a / 16)).e.toNat).length=16):zzA 505 false [.val (some 3) (aP.enc .S m),.val none [I a],.val none [I v]] (.tup [some 3,none]) (aP.enc .own (gI m a v).1++[I (gI m a v).2]):=by
 have d:=jN m k;have e:=uf m a p k l;have c:=aI v 0 999;rw[O0 q]at c;have b:=aP.enc_fr (gI m a v).1;unfold gI at b |-;by_cases g:(ax m.Q (a / 16)).k=0
 ·rw[CC g]at b |-
  refine fO 42 [] Tryz.func505 rfl ?_ (.inr (aB b ⟨trivial,trivial⟩))
  refine ZB ?_
  rfl
 rw[CB g]at b |-;by_cases n:(ax m.Q (a / 16)).k=1
 ·rw[CC n]at b |-
  refine fO 42 [] Tryz.func505 rfl ?_ (.inr (aB b ⟨trivial,trivial⟩))
  refine ZB ?_
  rfl
 rw[CB n]at b |-;obtain⟨t,u,w⟩:=r g;have h:=ar (xs:=m.V.W) (i:=(ax m.Q (a / 16)).e.toNat) ω;have o:=ar (xs:=nth m.V.W (ax m.Q (a / 16)).e.toNat) (i:=(a % 16).toNat) ω;simp only at b |-;rw[xF]at b |-;have j:a.tmod 16=a % 16:=ew l.1;refine fO 42 [] Tryz.func505 rfl ?_ (.inr (aB b ⟨trivial,trivial⟩))
 repeat'(first|refine gB ?_|refine CQ j ?_|refine CN (by decide) ?_|refine CK t (aa h) ?_|refine CK ω (aa o) ?_|refine Pu.two rfl rfl (aa h) rfl rfl rfl (aa o) rfl (V3 _) rfl ?_)
 rfl
def Hi(k:ah)(p o:Int)(a:aJ k=true)(w:k.Calls≠100000)(l:(ax k.F.Q p).k≠0)(n:(ax k.F.Q o).k≠0)(y:p≠o):zzA 561 false [.val (some 5) (ah.enc .S k),.val none [I p],.val none [I o]] (.tup [some 5,none]) (ah.enc .own (Ag k p o).1++[B (Ag k p o).2]):=by
 have b:=aZ a;have C:=(aH.1 a).2.2.2;have c:=gV k b;rw[a,O0 w]at c;have d:=nJ k b ⟨ω,ω⟩;have g:=eX k p b.1.2;have h:=eX k o b.1.2;rw[O0 l]at g;rw[O0 n]at h;obtain⟨D,H,E,q,r⟩:=bM a l;obtain⟨F,J,K,L,M⟩:=bM a n;have G:=(aY.1 (aH.1 a).2.1).2.2.1;have j:=ar (xs:=k.F.Q.O) (i:=p.toNat) ω;have t:=ar (xs:=k.F.Q.O) (i:=o.toNat) ω;rw[E]at q r;have u:=ue (xl (dD k) p.toNat ⟨2,(nth k.F.Q.O o.toNat).e⟩) (nth k.F.Q.O p.toNat).e (FC _ _ b.1.2) ⟨q,by show _<((k.F.V.W.length:Nat):Int);omega,r⟩;rw[Gp]at u;unfold Ag;cases e:refd k<;>rw[e]at d
 ·rw[CB (by simp)]
  refine fP 63 [(198,[2,0]),(1000010,[])] [] Tryz.func561 rfl ?_ (.inr (aB (CX _) ⟨trivial,trivial⟩))
  repeat'(first|refine gB ?_|refine CK D (aa j) ?_|refine CK F (aa t) ?_|refine CM rfl rfl (aa j) rfl (O1 rfl) rfl ?_)
  rfl
 rw[CC rfl];refine fP 63 [(198,[2,0]),(1000010,[])] [] Tryz.func561 rfl ?_ (.inr (aB (CX _) ⟨trivial,trivial⟩))
 refine ZP ?_
 rfl
def jmay(k:ah)(j:cz):Bool:=(aJ k&&decide (k.Calls≠100000))&&(jA j&&decide ((ax k.F.Q j.b.a7).k≠0/\(ax k.F.Q j.b.a9).k≠0/\(ax k.F.Q j.b.a7).e≠(ax k.F.Q j.b.a9).e))
def jstep(k:ah)(j:cz):ah × cz:=
 if j.b1=0 then((iX k j.b.a9 1).1,{j with b1:=if(iX k j.b.a9 1).2=true then 1 else 5})
 else if j.b1=1 then(if j.o=j.b.W.length then(k,{j with b1:=2}) else(u5 k j.b.a9 j.b.a7 (nth j.b.W j.o.toNat),{j with o:=j.o+1}))
 else if j.b1=2 then((Ag k j.b.a9 j.b.a7).1,{j with b1:=if(Ag k j.b.a9 j.b.a7).2=true then 4 else 3})
 else if j.b1=3 then(if 0<j.o then({k with F:=(gI k.F (j.b.a7*16+nth j.b.W (j.o - 1).toNat) 0).1},{j with o:=j.o - 1}) else((iX k j.b.a9 2).1,{j with b1:=if(iX k j.b.a9 2).2=true then 5 else 3}))
 else(k,j)
theorem PN{f:Int}(h1:∀j,j<k.d.length->0<=nth k.d j)(c:cP k.F.V=true)(d:gu k.F.Q k.F.V.y.length=true)(h:∀j:Nat,j<k.F.V.y.length->(j:Int)≠f->nth k.F.V.y j=decide (0<(pagesOn k.F.Q (j:Int)).length))(q:0<=f/\f<k.F.V.y.length)(i:nth k.F.V.y f.toNat=true)(g:0<=k.Calls/\k.Calls<=100000/\k.d.length<=40):aJ (ib k f)=true:=by
 obtain⟨l,n,o,r⟩:=aY.1 c;unfold ib;split
 ·rename_i p
  rw[aH];simp only[Z1];refine⟨h1,?_,d,λj b=>?_,g⟩
  ·rw[aY]
   simp only[Z1,cL];refine⟨l,n,o,λj b=>?_⟩;by_cases a:f.toNat=j
   ·rw[CC ⟨a,b⟩,CC ⟨a,ω⟩];decide
   grind
  rw[cL];by_cases a:f.toNat=j
  ·grind
  rw[CB (λe=>a e.1)];exact h j b ω
 rename_i p;rw[aH];refine⟨h1,c,d,λj b=>?_,g⟩;by_cases a:(j:Int)=f
 ·rw[a,show j=f.toNat by omega,i]
  grind
 grind
def tEq(t a:aO):Prop:=a.O.length=t.O.length/\∀q:Nat,((nth a.O q).k≠0↔(nth t.O q).k≠0)/\(nth a.O q).e=(nth t.O q).e
theorem tEq.refl(t:aO):tEq t t:=⟨rfl,λ_=>⟨Iff.rfl,rfl⟩⟩
variable{t:aO}
theorem tEq.of{a:aO}(h:a=t):tEq t a:=by grind [tEq.refl]
theorem tEq.pagesOn{a:aO}(h:tEq t a)(f:Int):Ab.pagesOn a f=Ab.pagesOn t f:=by
 unfold Ab.pagesOn k4;rw[h.1]
 congr 1
 refine List.filter_congr λq _=>?_
 obtain⟨b,c⟩:=h.2 q;unfold Na;rw[c];exact decide_eq_decide.2 (and_congr b Iff.rfl)
theorem Eg(h:aJ k=true){a:aO}(c:tEq k.F.Q a)(d:∀q,q<a.O.length->0<=(nth a.O q).k/\(nth a.O q).k<=2):aJ {k with F:=⟨k.F.V,a⟩} = true:=by
 obtain⟨e,f,g,r,i⟩:=aH.1 h;obtain⟨l,n,o⟩:=bq.1 g;rw[aH];refine⟨e,f,bq.2 ⟨λj b=>?_,?_,?_⟩,λj b=>?_,i⟩
 ·replace b:j<a.O.length:=b
  have t:=l j (by rw[<-c.1];exact b);have p:=d j b;obtain⟨u,w⟩:=c.2 j
  grind [mt]
 ·show 1<=a.O.length;rw[c.1];exact n
 ·show a.O.length<=32;rw[c.1];exact o
 grind [tEq.pagesOn]
def nz(h:aJ k=true)(f:k.Calls≠100000):aJ (dD k)=true:=by
 obtain⟨a,b,c,d,g,i,e⟩:=aH.1 h;rw[aH];exact⟨a,b,c,d,by show 0<=k.Calls+1;omega,by show k.Calls+1<=100000;omega,e⟩
variable{p m:Int}
theorem Dm(b:(nth k.F.Q.O p.toNat).k≠0)(a:m=1\/m=2):tEq k.F.Q (z7 k p m).F.Q:=by
 refine⟨by simp[z7],λq=>?_⟩
 grind [cL,z7]
theorem Nz(h:aJ k=true)(d:(nth k.F.Q.O p.toNat).k≠0)(a:m=1\/m=2):aJ (z7 k p m)=true:=by
 refine Eg h (Dm d a) λq g=>?_
 obtain⟨i,j,e,l,n⟩:=aH.1 h;obtain⟨f,o,r⟩:=bq.1 e;have b:q<k.F.Q.O.length:=ψ
 have c:=f q b;unfold mt at c;rw[C0]at c;simp only[cL]
 grind
def GL(h:aJ k=true)(c:k.Calls≠100000)(b:(ax k.F.Q p).k≠0)(a:m=1\/m=2):aJ (iX k p m).1=true/\tEq k.F.Q (iX k p m).1.F.Q:=by
 obtain⟨e,f,d,-⟩:=bM h b;rw[d]at b;unfold iX;split
 ·exact⟨nz h c,tEq.refl _⟩
 exact⟨Nz (nz h c) b a,Dm (k:=dD k) b a⟩
theorem jD(h:aJ k=true)(a:(ax k.F.Q p).k≠0):jx k p<k.F.V.W.length/\nth k.F.V.y (jx k p)=true/\((jx k p:Nat):Int)=(nth k.F.Q.O p.toNat).e:=by
 obtain⟨c,d,e,f,g⟩:=bM h a;obtain⟨i,b,j,l,n⟩:=aH.1 h;obtain⟨o,q,r,t⟩:=aY.1 b;have u:((jx k p:Nat):Int)=(ax k.F.Q p).e:=by unfold jx;omega
 grind [fx]
theorem NC(h:aJ k=true){r':List Int}(i:r'.length=16)(l:∀v∈r',0<=v/\v<=999)(n:nth k.F.V.y f=true):aJ {k with F:=⟨⟨k.F.V.W.set f r',k.F.V.y⟩,k.F.Q⟩} = true:=by
 obtain⟨a,b,c,d,e⟩:=aH.1 h;obtain⟨o,p,q,r⟩:=aY.1 b;refine aH.2 ⟨a,aY.2 ⟨?_,?_,?_,λj g=>?_⟩,c,d,e⟩
 ·grind
 ·grind
 ·grind
 simp only[Z1]at g |-;simp only[cL]
 grind [iV,j9]
theorem EN(h:aJ k=true)(a:f<k.F.V.W.length):(nth k.F.V.W f).length=16/\∀v∈nth k.F.V.W f,0<=v/\v<=999:=by grind [aH,aY,iV,j9]
theorem sG(h:aJ k=true)(a:f<k.F.V.W.length)(b:nth k.F.V.y f=true){c v:Int}(d:0<=v/\v<=999):aJ (setCell k f c v)=true:=by
 obtain⟨e,g⟩:=EN h a;refine NC h ψ (λz i=>?_) b
 grind
def Px(h:aJ k=true){c:Int}(d:(ax k.F.Q a).k≠0)(e:(ax k.F.Q b).k≠0)(l:0<=c/\c<=15):aJ (u5 k a b c)=true:=by
 obtain⟨f,n,-⟩:=jD h d;obtain⟨g,i,-⟩:=jD h e;obtain⟨o,j⟩:=EN h f;exact sG h g i (j _ (au ω))
variable{o:Int}
theorem Tw(h:aJ k=true)(i:k.Calls≠100000)(c:(ax k.F.Q p).k≠0)(d:(ax k.F.Q o).k≠0)(l:p≠o):aJ (Ag k p o).1=true:=by
 unfold Ag;split
 ·exact nz h i
 obtain⟨H,n,r⟩:=jD h c;obtain⟨J,K,L⟩:=jD h d;obtain⟨M,N,t,e,f⟩:=bM h c;obtain⟨O,P,u,w,y⟩:=bM h d;obtain⟨A,B,C,D,Q,R,E⟩:=aH.1 h;obtain⟨S,T,U⟩:=bq.1 C;rw[u]at w y d;rw[t]at e f c;have a:∀q,nth (k.F.Q.O.set p.toNat ⟨2,(nth k.F.Q.O o.toNat).e⟩) q=if p.toNat=q then⟨2,(nth k.F.Q.O o.toNat).e⟩ else nth k.F.Q.O q:=λq=>by
  rw[cL];by_cases g:p.toNat=q
  ·rw[CC ⟨g,ω⟩,CC g]
  grind
 refine PN A B (bq.2 ⟨λj b=>?_,?_,?_⟩) (λj b F=>?_) ⟨e,f⟩ (by rw[<-r];exact n) ⟨by show 0<=k.Calls+1;omega,by show k.Calls+1<=100000;omega,E⟩
 ·simp only[xl,dD,Z1]at b |-
  rw[a]
  grind [mt]
 ·grind [xl,dD]
 ·grind [xl,dD]
 replace b:j<k.F.V.y.length:=b;show nth k.F.V.y j=_;rw[D j b];refine decide_eq_decide.2 ?_;rw[fx,fx];simp only[xl,dD,Z1,a];constructor
 ·rintro⟨q,G,V,W⟩
  refine⟨q,G,?_⟩
  grind
 grind
theorem Rl(h:aJ k=true)(a:(ax k.F.Q p).k≠0)(b:(Ag k p o).2=true)(q:Nat):(Ag k p o).1.F.Q.O.length=k.F.Q.O.length/\nth (Ag k p o).1.F.Q.O q=if(q:Int)=p then⟨2,(nth k.F.Q.O o.toNat).e⟩ else nth k.F.Q.O q:=by
 obtain⟨c,d,-⟩:=bM h a
 grind [qA,cL,Ag,xl,dD]
theorem Ts(a:(Ag k p o).2=false):(Ag k p o).1=dD k:=by grind [Ag]
def MR{v:Int}(h:aJ k=true)(g:0<=a)(b:0<=v/\v<=999):aJ {k with F:=(gI k.F a v).1} = true/\(gI k.F a v).1.Q=k.F.Q:=by
 unfold gI;split
 ·exact⟨h,rfl⟩
 rename_i d;split
 ·exact⟨h,rfl⟩
 obtain⟨e,f,-⟩:=jD h d;exact⟨sG h e f (c:=a % 16) b,rfl⟩
def oC(t:aO)(p:Int):Prop:=∀q:Nat,(nth t.O q).k≠0->(nth t.O q).e=(nth t.O p.toNat).e->(q:Int)=p
structure JI(h:ac):Prop where
 ph:h.a2=true->0<=h.a5.b1/\h.a5.b1<=3
 sp:h.a2=true->∃a∈h.K,∃b∈h.K,a.R=h.a5.b.a7/\b.R=h.a5.b.a9/\meshable a b=true
 sk:h.a2=true->oC (tbl h) h.a5.b.a7
 sm:h.a2=true->oC (tbl h) h.a5.b.a9
theorem oC.tEq{t a:aO}{p:Int}(h:oC t p)(b:tEq t a):oC a p:=λq c d=>by
 obtain⟨e,f⟩:=b.2 q;exact h q (e.1 c) (by rw[<-f,<-(b.2 p.toNat).2];exact d)
theorem Pg.tEq{t b:aO}{c:List aE}{sp:List aA}{la:List aD}(h:Pg t c sp la)(a:tEq t b):Pg b c sp la where
 one l hl p hp q hq h1 h2:=h.one l hl p hp q (by rw[<-a.1];exact hq) ((a.2 q).1.1 h1) (by rw[<-(a.2 q).2,<-(a.2 p).2];exact h2)
 bnd p hp:=by rw[a.1];exact h.bnd p hp
 own p hp:=(a.2 p).1.trans (h.own p (by rw[<-a.1];exact hp))
 fre p hp:=(a.2 p).1.trans (h.fre p (by rw[<-a.1];exact hp))
 mesh s hs u hu hne hf:=h.mesh s hs u hu hne (by rw[<-(a.2 _).2,<-(a.2 u.R.toNat).2];exact hf)
def bg.step(a:bg h E)(b:aJ k=true)(c:k.F.Q.O.length=(tbl h).O.length)(d:Pg k.F.Q h.a h.K h.J){j:cz}{m:Bool}(h1:m=true->jA j=true/\(∃s∈h.K,s.R=j.b.a7)/\∃s∈h.K,s.R=j.b.a9)(e:m=false->u6 j=true):bg {h with H:=k,a2:=m,a5:=j} E:=
 {a with
   ker:=b
   rng:=by show bF ((k.F.Q.O.length:Nat):Int) h.a=true;rw[c];exact a.rng
   pg:=d
   job:=h1
   noj:=e}
variable{la:List aD}{sp:List aA}
theorem oc.apart(a:oc sp la)(b:s∈sp){l:aD}(c:l∈la)(d:p∈lpgs l l.w.toNat):s.R≠p:=by grind [oc.dis,lpgs]
theorem Pg.on{w:aO}{F:List aE}(g:Pg t F sp la)(k:oc sp la){a b:aA}(G:a∈sp)(N:b∈sp)(hm:meshable a b=true)(o:oC t a.R)(C:(nth t.O a.R.toNat).k≠0)(O:(nth t.O b.R.toNat).k≠0)(P:0<=b.R)(Q:w.O.length=t.O.length)(A:∀q:Nat,nth w.O q=if(q:Int)=b.R then⟨2,(nth t.O a.R.toNat).e⟩ else nth t.O q):Pg w F sp la:=by
 have c:∀q:Nat,(nth w.O q).k≠0↔(nth t.O q).k≠0:=ψ
 have R:0<=a.R:=by have:=k.sok a G;grind [bk]
 refine⟨λl r p n q hq S D=>?_,λp n=>by rw[Q];exact g.bnd p n,λp n=>(c p).trans (g.own p ω),λp n=>(c p).trans (g.fre p ω),λs H u J T h=>?_⟩
 ·have E:¬(p:Int)=b.R:=λe=>k.apart N r n e.symm
  rw[A p,CB E,A q]at D;rw[c]at S;by_cases e:(q:Int)=b.R
  ·rw[CC e]at D
   have K:=g.one l r p n a.R.toNat (by have:=g.bnd _ (eG (la:=la) G);omega) C D
   grind [oc.apart]
  grind [Pg.one]
 have U:0<=s.R:=by have:=k.sok s H;grind [bk]
 have V:0<=u.R:=by have:=k.sok u J;grind [bk]
 have L:∀x∈sp,∀y∈sp,x.R=y.R->x=y:=λx B y W e=>by
  obtain⟨i,X,rfl⟩:=bu B;obtain⟨j,Y,rfl⟩:=bu W;rw[gz (f:=(·.R)) k.nd X Y e]
 have d:∀x∈sp,(nth t.O x.R.toNat).k≠0:=λx B=>by
  have Z:0<=x.R:=by have:=k.sok x B;grind [bk]
  refine(g.own x.R.toNat (by have:=g.bnd _ (eG (la:=la) B);omega)).2 ?_
  grind [eG]
 rw[A,A]at h;simp only[show((s.R.toNat:Nat):Int)=s.R by omega,show((u.R.toNat:Nat):Int)=u.R by omega]at h;by_cases M:s.R=b.R
 ·rw[CC M,CB ω]at h
  have K:=o u.R.toNat (d u J) h.symm
  grind [jQ]
 rw[CB M]at h;by_cases eu:u.R=b.R
 ·rw[CC eu]at h
  have K:=o s.R.toNat (d s H) h
  grind
 grind [Pg.mesh]
def over(j:cz):Bool:=decide (j.b1=4\/j.b1=5)
def gj(k:ah)(j:cz):ah × cz:=if jmay k j=true then jstep k j else(k,j)
def mStep(h:ac):ac:={h with H:=(gj h.H h.a5).1,a2:=if over (gj h.H h.a5).2=true then false else h.a2,a5:=if over (gj h.H h.a5).2=true then⟨⟨0,0,[]⟩,0,0⟩ else(gj h.H h.a5).2}
def Gu(h:ac):Bool:=decide ((gj h.H h.a5).2.b1=4)
theorem fV{j:cz} : jA j=true↔fH j.b=true/\0<=j.b1/\j.b1<=5/\0<=j.o/\j.o<=j.b.W.length:=by grind [jA]
theorem jM{p:cf}(h:fH p=true)(a:i<p.W.length):0<=nth p.W i/\nth p.W i<=15:=by grind [fy,fH,o6]
structure JS(h:ac)(k:ah)(j:cz):Prop where
 ker:aJ k=true
 len:k.F.Q.O.length=(tbl h).O.length
 pg:j.b1≠4\/JI h->Pg k.F.Q h.a h.K h.J
 ph:0<=j.b1/\j.b1<=5
 plan:j.b=h.a5.b
 nxt:0<=j.o/\j.o<=j.b.W.length
 eq:j.b1≠4->tEq (tbl h) k.F.Q
 calls:h.H.Calls<=k.Calls/\k.Calls<=h.H.Calls+1/\k.d=h.H.d
def Av(k:ah)(p m:Int):(iX k p m).1.Calls=k.Calls+1/\(iX k p m).1.d=k.d:=by
 unfold iX;split<;>exact⟨rfl,rfl⟩
def Pw(k:ah)(p o:Int):(Ag k p o).1.Calls=k.Calls+1/\(Ag k p o).1.d=k.d:=by
 unfold Ag;split
 ·exact⟨rfl,rfl⟩
 obtain⟨-,a,b,-⟩:=qA (xl (dD k) p.toNat ⟨2,(nth k.F.Q.O o.toNat).e⟩) (nth k.F.Q.O p.toNat).e;simp only[a,b];exact⟨rfl,rfl⟩
theorem JS.of(c:bg h E)(H:h.a2=true):JS h (gj h.H h.a5).1 (gj h.H h.a5).2:=by
 obtain⟨N,-,-⟩:=c.job H;obtain⟨J,t,u,n,o⟩:=fV.1 N;unfold gj;split
 case isFalse=>exact⟨c.ker,rfl,λ_=>c.pg,⟨t,u⟩,rfl,⟨n,o⟩,λ_=>tEq.refl _,C5 _,ψ,rfl⟩
 rename_i d;unfold jmay at d;simp only[I0,C0]at d;obtain⟨⟨-,A⟩,-,w,p,O⟩:=d;have fin:∀(k:ah)(j:cz),aJ k=true->tEq (tbl h) k.F.Q->0<=j.b1/\j.b1<=5->j.b=h.a5.b->0<=j.o/\j.o<=j.b.W.length->h.H.Calls<=k.Calls/\k.Calls<=h.H.Calls+1/\k.d=h.H.d->JS h k j:=
  λk j P B Q R S T=>⟨P,B.1,λ_=>c.pg.tEq B,Q,R,S,λ_=>B,T⟩
 have K:=(aH.1 c.ker).2.2.2.2;unfold jstep;split
 ·obtain⟨g,r⟩:=GL c.ker A p (m:=1) (.inl rfl)
  obtain⟨y,C⟩:=Av h.H h.a5.b.a9 1;refine fin _ _ g r ?_ rfl ⟨n,o⟩ ψ
  grind
 split
 ·split
  ·exact fin _ _ c.ker (tEq.refl _) ψ rfl ⟨n,o⟩ ψ
  have l:=jM J (i:=h.a5.o.toNat) ω;refine fin _ _ (Px c.ker p w l) (tEq.refl _) ⟨t,u⟩ rfl ψ ⟨C5 _,by show h.H.Calls<=h.H.Calls+1;omega,rfl⟩
 split
 ·have D:h.a5.b.a9≠h.a5.b.a7:=ψ
  have g:=Tw c.ker A p w D;obtain⟨y,C⟩:=Pw h.H h.a5.b.a9 h.a5.b.a7;cases e:(Ag h.H h.a5.b.a9 h.a5.b.a7).2 with
  | false=>
   rw[CB (by simp)];refine fin _ _ g (tEq.of ?_) ψ rfl ⟨n,o⟩ ψ;rw[Ts e];rfl
  | true=>
   rw[CC rfl];obtain⟨U,m2,m3,-⟩:=bM c.ker p;obtain⟨n1,n2,n3,-⟩:=bM c.ker w;have f:=Rl c.ker p e;refine⟨g,(f 0).1,λV=>?_,ψ,rfl,⟨n,o⟩,ψ,by rw[y];omega,by rw[y];omega,C⟩;have W:JI h:=ψ
   obtain⟨a,X,b,Y,M,F,G⟩:=W.sp H;refine c.pg.on c.L X Y G (by grind [JI.sk]) (by rw[M];show(nth h.H.F.Q.O _).k≠0;grind) (by rw[F];show(nth h.H.F.Q.O _).k≠0;grind) (by rw[F];exact U) (f 0).1 λq=>?_
   rw[(f q).2,F,M];rfl
 split
 ·split
  ·rename_i Z
   have l:=jM J (i:=(h.a5.o - 1).toNat) ω;have hk0:=(bM c.ker w).1;obtain⟨g,r⟩:=MR c.ker (a:=h.a5.b.a7*16+nth h.a5.b.W (h.a5.o - 1).toNat) (v:=0) ω ω;exact fin _ _ g (tEq.of r) ⟨t,u⟩ rfl ψ ⟨C5 _,ψ,rfl⟩
  obtain⟨g,r⟩:=GL c.ker A p (m:=2) (.inr rfl);obtain⟨y,C⟩:=Av h.H h.a5.b.a9 2;refine fin _ _ g r ?_ rfl ⟨n,o⟩ ψ
  grind
 exact fin _ _ c.ker (tEq.refl _) ⟨t,u⟩ rfl ⟨n,o⟩ ψ
theorem bg.mStep{h:ac}{E:List Int}(a:bg h E)(b:JI h)(c:h.a2=true):bg (mStep h) E/\JI (mStep h):=by
 have s:=JS.of a c;unfold Ab.mStep;generalize (gj h.H h.a5).1=k at s |-;generalize (gj h.H h.a5).2=j at s |-;cases e:over j with
 | true=>
  refine⟨a.step s.ker s.len (s.pg (.inr b)) ψ (λ_=>by simp[u6]),?_⟩;exact⟨ψ,λh=>by simp at h,ψ,ψ⟩
 | false=>
  simp only[Bool.false_eq_true,if_false];unfold over at e;simp only[t5,not_or]at e;have f:=s.eq e.1;have d:=s.ph;refine⟨a.step s.ker s.len (s.pg (.inr b)) (λ_=>⟨fV.2 ⟨by rw[s.plan];grind [fV,bg.job],s.ph.1,s.ph.2,s.nxt⟩,by rw[s.plan];exact(a.job c).2⟩) ψ,?_⟩;refine⟨ψ,λ_=>?_,λ_=>?_,λ_=>?_⟩
  ·grind [JS.plan,JI.sp]
  ·show oC k.F.Q j.b.a7
   grind [JS.plan,oC.tEq,JI.sk]
  show oC k.F.Q j.b.a9
  grind [JS.plan,oC.tEq,JI.sm]
def vn(k:ah)(a:Int):Int:=nth (nth k.F.V.W (ax k.F.Q (a / 16)).e.toNat) (a % 16).toNat
def cellsOf(k:ah)(a:Int)(n:Nat):List Int:=(List.range n).map λ(i:Nat)=>vn k (a+i)
def oQ{n:Int}(h:0<=aS n):1<=n/\n<=8:=by
 unfold aS at h;split at h
 ·omega
 split at h
 ·omega
 split at h
 ·omega
 split at h
 ·omega
 split at h<;>omega
def U8{α:Type}[Inhabited α](f:α->Int)(xs:List α):Nat->Int
 | 0=>0
 | i+1=>U8 f xs i+f (nth xs i)
def bor(n m:Int):Int:=((n.toNat ||| m.toNat:Nat):Int)
def pO(sp:List aA)(p:Int)(b:Int):Nat->Int
 | 0=>b
 | j+1=>if(nth sp j).R=p then bor (pO sp p b j) (nth sp j).a6 else pO sp p b j
def i6(sp:List aA)(ps:List Int)(b:Int):Nat->Int
 | 0=>b
 | k+1=>pO sp (nth ps k) (i6 sp ps b k) sp.length
def dU(h:ac)(i:Nat):Int:=i6 h.K (aV h (nth h.K i).R) (nth h.K i).a6 (aV h (nth h.K i).R).length
def J1{n:Int}(h1:0<=n/\n<=65535)(a:0<=m/\m<=65535):0<=bor n m/\bor n m<=65535:=by
 have b:n.toNat ||| m.toNat<2 ^ 16:=Nat.or_lt_two_pow ω ω
 unfold bor;omega
def mB(h:∀s∈sp,bk s=true)(b:j<sp.length):0<=(nth sp j).a6/\(nth sp j).a6<=65535:=by
 have a:=h _ (au b);have c:=HU (nth sp j).Z;unfold bk at a;rw[C0]at a;omega
def xy{sp:List aA}(h:∀s∈sp,bk s=true){p b:Int}(a:0<=b/\b<=65535):∀j,j<=sp.length->0<=pO sp p b j/\pO sp p b j<=65535
 | 0,_=>a
 | j+1,d=>by
  have c:=xy h (p:=p) a j ω;simp only[pO];split
  ·exact J1 c (mB h ω)
  exact c
def lT{sp:List aA}(h:∀s∈sp,bk s=true){ps:List Int}{b:Int}(a:0<=b/\b<=65535):∀k,0<=i6 sp ps b k/\i6 sp ps b k<=65535
 | 0=>a
 | k+1=>by simp only[i6];exact xy h (lT h a k) _ (V3 _)
def om{i:Int}(a:0<=b)(c:0<=i/\i<=15):bh b i=b.toNat.testBit i.toNat:=by
 unfold bh;rw[Nat.testBit_eq_decide_div_mod_eq];refine decide_eq_decide.2 ?_;obtain⟨n,rfl⟩ : ∃n:Nat,b=n:=⟨b.toNat,ω⟩
 rw[C3];have d:((n / 2 ^ i.toNat:Nat):Int)=(n:Int) / 2 ^ i.toNat:=by simp
 omega
def J4{n i:Int}(b:0<=n)(c:0<=m)(a:0<=i/\i<=15):bh (bor n m) i=(bh n i || bh m i):=by
 rw[om (by unfold bor;omega) a,om b a,om c a];unfold bor;rw[C3,Nat.testBit_or]
def H6{sp:List aA}(h:∀s∈sp,bk s=true){p b i:Int}(k:0<=b/\b<=65535)(l:0<=i/\i<=15):∀j,j<=sp.length->(bh (pO sp p b j) i=true↔bh b i=true\/∃q,q<j/\(nth sp q).R=p/\bh (nth sp q).a6 i=true)
 | 0,_=>by simp[pO]
 | j+1,t=>by
  have n:=H6 h (p:=p) k l j ω;have o:=xy h (p:=p) k j ω;have r:=mB h (j:=j) ω;simp only[pO];split
  ·rename_i d
   rw[J4 o.1 r.1 l,W6,n];constructor
   ·rintro((e|⟨q,f,a⟩)|e)
    ·exact .inl e
    ·exact .inr ⟨q,ω,a⟩
    exact .inr ⟨j,ω,d,e⟩
   rintro(e|⟨q,f,a,c⟩)
   ·exact .inl (.inl e)
   by_cases g:q=j
   ·subst g;exact .inr c
   exact .inl (.inr ⟨q,ω,a,c⟩)
  rename_i d;rw[n];constructor
  ·rintro(e|⟨q,f,a⟩)
   ·exact .inl e
   exact .inr ⟨q,ω,a⟩
  rintro(e|⟨q,f,a,c⟩)
  ·exact .inl e
  by_cases g:q=j
  ·subst g;exact absurd a d
  exact .inr ⟨q,ω,a,c⟩
def D5{sp:List aA}(h:∀s∈sp,bk s=true){ps:List Int}{b i:Int}(d:0<=b/\b<=65535)(f:0<=i/\i<=15):∀k,(bh (i6 sp ps b k) i=true↔bh b i=true\/∃u,u<k/\∃q,q<sp.length/\(nth sp q).R=nth ps u/\bh (nth sp q).a6 i=true)
 | 0=>by simp[i6]
 | k+1=>by
  have g:=D5 h (ps:=ps) d f k;have j:=lT h (ps:=ps) d k;simp only[i6];rw[H6 h j f _ (V3 _),g];constructor
  ·rintro((e|⟨u,c,a⟩)|⟨q,c,a⟩)
   ·exact .inl e
   ·exact .inr ⟨u,ω,a⟩
   exact .inr ⟨k,ω,q,c,a⟩
  rintro(e|⟨u,c,a⟩)
  ·exact .inl (.inl e)
  by_cases l:u=k
  ·subst l;exact .inr a
  exact .inl (.inr ⟨u,ω,a⟩)
def kw(p:α->Bool)(xs:List α):Nat:=(xs.findIdx? p).getD xs.length
def jI(p:α->Bool)(xs:List α)(y:α):List α:=xs.take (kw p xs)++y::xs.drop (kw p xs)
theorem QM(p:α->Bool)(xs:List α):kw p xs<=xs.length:=by
 unfold kw;cases e:xs.findIdx? p with
 | none=>exact V3 _
 | some i=>grind [S7]
theorem lD(p:α->Bool)(xs:List α)(y:α):(jI p xs y).Perm (y::xs):=by grind [List.perm_middle,List.take_append_drop,jI]
theorem dL{p:α->Bool}{xs:List α}{y z:α} : z∈jI p xs y↔z=y\/z∈xs:=by grind [lD]
theorem my{p:α->Bool}{xs:List α}(b:i<=xs.length)(a:∀(j:Nat)(z:α),j<i->xs[j]? = some z->p z=false)(c:∀z,xs[i]? = some z->p z=true):kw p xs=i:=by
 unfold kw;by_cases e:i<xs.length
 ·rw[x7 (X2 e) ψ a];rfl
 grind [Ei]
theorem m6{f:α->Int}{xs:List α}{y:α}(h:xs.Pairwise λa b=>f a<f b)(g:∀z∈xs,f z≠f y):(jI (λz=>decide (f y<=f z)) xs y).Pairwise λa b=>f a<f b:=by
 have k:∀z∈xs.drop (kw (λz=>decide (f y<=f z)) xs),f y<f z:=λz c=>by
  obtain⟨j,d,rfl⟩:=List.mem_drop_iff_getElem.1 c;have l:=g _ (List.getElem_mem d);cases e:xs.findIdx? (λz=>decide (f y<=f z)) with
  | none=>
   grind [kw]
  | some i=>
   grind [S7,List.pairwise_iff_getElem,kw]
 have n:∀z∈xs.take (kw (λz=>decide (f y<=f z)) xs),f z<f y:=λz c=>by
  obtain⟨j,d,rfl⟩:=List.mem_take_iff_getElem.1 c;unfold kw at d;cases e:xs.findIdx? (λz=>decide (f y<=f z)) with
  | none=>
   grind
  | some i=>
   grind [S7]
 unfold jI
 grind [List.pairwise_cons]
def gC(b i:Int):Int:=((b.toNat ||| 2 ^ i.toNat:Nat):Int)
def rg(s:aA)(i:Int):aA:={s with a6:=gC s.a6 i}
theorem xG(b i:Int)(j:Nat):(gC b i).toNat.testBit j=(b.toNat.testBit j || decide (i.toNat=j)):=by
 unfold gC;rw[C3,Nat.testBit_or,Nat.testBit_two_pow]
theorem JP{i:Int}(a:0<=b)(c:0<=i/\i<=15)(j:Int):bh (gC b i) j=true↔bh b j=true\/j=i:=by grind [kn,xG,gC]
theorem gn{k:Int}(h:0<=k/\k<=3):lim k=2 ^ (slots k).toNat - 1/\0<=slots k/\slots k<=16/\slots k*csz k=16:=by
 obtain rfl|rfl|rfl|rfl:k=0\/k=1\/k=2\/k=3:=ω
 all_goals decide
theorem Fp(h:bk s=true){i:Int}(k:0<=i/\i<slots s.Z):bk (rg s i)=true:=by
 have b:=aL h;obtain⟨c,l,o,-⟩:=gn b.2.2;unfold bk at h;rw[C0]at h;obtain⟨d,e,f,g,p,a⟩:=h;refine O0 ⟨d,e,f,g,by show 0<=gC s.a6 i;grind [gC],?_⟩;show gC s.a6 i<=lim s.Z;rw[c]at a |-;have j:((2 ^ (slots s.Z).toNat:Nat):Int)=(2:Int) ^ (slots s.Z).toNat:=by norm_cast
 rw[<-j]at a |-;have:=Nat.or_lt_two_pow (x:=s.a6.toNat) (y:=2 ^ i.toNat) (n:=(slots s.Z).toNat) ω (Nat.pow_lt_pow_right ω ω)
 grind [gC]
theorem LF{u:aA}{i:Int}(c:0<=i/\i<slots s.Z)(k:bh u.a6 i=false)(h:meshable s u=true):meshable (rg s i) u=true:=by
 unfold meshable at h |-;simp only[I0,C0]at h |-;obtain⟨⟨a,b⟩,d,e,l⟩:=h;have f:=aL a;obtain⟨n,o,p,-⟩:=gn f.2.2;have g:=ec b;refine⟨⟨Fp a c,b⟩,d,e,?_⟩;refine Nat.eq_of_testBit_eq λj=>?_
 grind [xG,kn,rg]
theorem v6(h:bk s=true){i:Int}(c:0<=i/\i<slots s.Z)(b:Int):fT (rg s i) b↔fT s b\/b=16*s.R+i*csz s.Z:=by
 have a:=aL h;obtain⟨d,e,f,g⟩:=gn a.2.2;have j:=cW a.2.2;unfold fT
 grind [JP,ec,rg]
def LJ(k:Int)(a:i<sp.length):(sp.set i (rg (nth sp i) k)).map (·.R)=sp.map (·.R):=by
 rw[V6];refine List.ext_getElem (by simp) λj b c=>?_
 rw[List.getElem_set];split
 ·rename_i e;subst e
  rw[List.getElem_map];show(nth sp i).R=_;rw[b8 (X2 a)]
 rfl
def jz.setS(p:oc sp la)(g:i<sp.length){k:Int}(h:0<=k/\k<slots (nth sp i).Z)(b c:Int):jz (sp.set i (rg (nth sp i) k)) b c↔jz sp b c\/(b=16*(nth sp i).R+k*csz (nth sp i).Z/\(c<0\/(nth sp i).Z=c)):=by
 have d:=p.sok _ (au g);constructor
 ·rintro⟨s,l,f,a⟩
  rcases iU l with rfl|⟨j,n,q,rfl⟩
  ·rcases(v6 d h b).1 f with o|o
   ·exact .inl ⟨_,au g,o,a⟩
   exact .inr ⟨o,a⟩
  exact .inl ⟨_,au n,f,a⟩
 rintro(⟨s,l,f,a⟩|⟨f,a⟩)
 ·obtain⟨j,n,rfl⟩:=bu l
  by_cases e:j=i
  ·subst e
   exact⟨_,jb _ g,(v6 d h b).2 (.inl f),a⟩
  exact⟨_,kz _ n e,f,a⟩
 exact⟨_,jb _ g,(v6 d h b).2 (.inr f),a⟩
theorem Qw(d:bg h E)(g:i<h.K.length){k:Int}(o:0<=k/\k<=15)(b:bh (dU h i) k=false):bh (nth h.K i).a6 k=false/\∀u∈h.K,(nth (tbl h).O u.R.toNat).e=(nth (tbl h).O (nth h.K i).R.toNat).e->bh u.a6 k=false:=by
 have e:=d.L;have p:=ec (e.sok _ (au g));unfold dU at b;rw[<-W5,D5 e.sok p o]at b;rw[not_or]at b;have q:bh (nth h.K i).a6 k=false:=by simpa using b.1
 have a:∀s∈h.K,s.R.toNat<eO h/\(nth (tbl h).O s.R.toNat).k≠0/\((s.R.toNat:Nat):Int)=s.R:=λs l=>by
  have K:=aL (e.sok s l);have M:=d.pg.bnd s.R (eG l);have n:s.R.toNat<(tbl h).O.length:=ω
  have r:((s.R.toNat:Nat):Int)=s.R:=ω
  exact⟨n,(d.pg.own _ n).2 (by grind [eG]),r⟩
 refine⟨q,λu c t=>?_⟩;rw[<-W5];intro w;obtain⟨y,A,B⟩:=a _ (au g);obtain⟨C,D,F⟩:=a u c;have G:u.R∈aV h (nth h.K i).R:=by
  rw[<-B,fE y A,<-F];exact eY.2 ⟨C,D,t⟩
 obtain⟨v,H,f⟩:=bu G;obtain⟨j,J,rfl⟩:=bu c;exact b.2 ⟨v,H,j,J,f.symm,w⟩
theorem bg.take{k sd:Int}(d:bg h E)(r:i<h.K.length)(F:0<=k/\k<slots (nth h.K i).Z)(w:bh (dU h i) k=false)(P:0<=sd/\sd<=1073741823) :
  bg {h with b5:=sd,K:=h.K.set i (rg (nth h.K i) k)} ((16*(nth h.K i).R+k*csz (nth h.K i).Z)::E):=by
 have A:=d.L;have G:=A.sok _ (au r);have B:=aL G;obtain⟨l1,l2,l3,l4⟩:=gn B.2.2;have hz:=cW B.2.2;obtain⟨u1,u2⟩:=Qw d r ω w;have g:=λb c=>jz.setS A r F b c
 have H:=LJ k r;generalize ha:16*(nth h.K i).R+k*csz (nth h.K i).Z=a at g |-;have J:¬fT (nth h.K i) a:=by
  rintro⟨-,-,-,h4⟩
  grind
 have hrange:16*(nth h.K i).R<=a/\a<=16*(nth h.K i).R+15:=ψ
 have K:¬nw h.K h.J a:=by
  rintro(⟨s,p,t,-⟩|⟨l,Q,e⟩)
  ·obtain⟨j,N,rfl⟩:=bu p
   have:=gz (f:=(·.R)) A.nd N r (by have a1:=t.1;have a2:=t.2.1;omega)
   grind
  exact(Aq A Q).1 _ (au r) ω
 have M:a∉E++holders h:=λO=>K ((d.mem a).1 O)
 have n:∀s∈h.K.set i (rg (nth h.K i) k),∃u∈h.K,u.R=s.R/\(s=u\/(u=nth h.K i/\s=rg u k)):=λs p=>by
  rcases iU p with rfl|⟨j,N,R,rfl⟩
  ·exact⟨_,au r,rfl,.inr ⟨rfl,rfl⟩⟩
  grind [au]
 generalize S:h.K.set i (rg (nth h.K i) k)=sp at g H n |-;have q:pgs sp h.J=pgs h.K h.J:=by grind [pgs]
 have T:∀u∈h.K,∃s∈sp,s.R=u.R:=λu w=>by
  have:u.R∈sp.map (·.R):=ψ
  grind
 exact {d with
   lay:=by grind [bg.lay,Fp,bx]
   srs:=by
     have t:(h.K.map (·.R)).Pairwise (λa b=>a<b):=List.pairwise_map.2 d.srs
     grind
   pg:=⟨d.pg.one,by rw[q];exact d.pg.bnd,by rw[q];exact d.pg.own,d.pg.fre,λs p u w U V=>by
     obtain⟨W,X,Y,Z⟩:=n s p;obtain⟨u',hu',eu,hu2⟩:=n u w;have hf':(nth (tbl h).O W.R.toNat).e=(nth (tbl h).O u'.R.toNat).e:=by rw[Y,eu];exact V
     grind [Pg.mesh,bg.pg,jQ,LF]⟩
   nums:=by
     have:=d.nums
     grind [cg]
   oow:=λo ho=>by
     rcases d.oow o ho with⟨s,p,t,h2⟩|t
     · obtain⟨u,w,g1,C⟩:=(g o.Addr (aS o.a1)).2 (.inl ⟨s,p,t,.inr h2⟩)
       refine .inl ⟨u,w,g1,?_⟩;rcases C with C|C
       · have:=aL (A.sok _ p);omega
       exact C
     exact .inr t
   hca:=λc B k F b D=>(g b k).2 (.inl (d.hca c B k F b D))
   hqu:=λy hy=>(g _ _).2 (.inl (d.hqu y hy))
   hfl:=λb D=>(g _ _).2 (.inl (d.hfl b D))
   hin:=λb D=>by grind [bg.hin]
   nd:=by
     rw[List.cons_append];exact List.nodup_cons.2 ⟨M,d.nd⟩
   mem:=λb=>by
     show b∈a::E++holders h↔nw sp h.J b
     grind [bg.mem,nw]
   job:=λO=>by grind [bg.job]}
def sW(c:aF)(k:Nat):aF:=⟨c.X.set k ((nth c.X k).take ((nth c.X k).length - 1))⟩
theorem PG{l:List Int}(h:0<l.length):l=l.take (l.length - 1)++[nth l (l.length - 1)]:=by grind [fN,List.take_append_drop]
theorem bg.pop{t k:Nat}(d:bg h E)(f:t<h.T.length)(g:k<(nth h.T t).X.length)(l:0<(nth (nth h.T t).X k).length)(u:bz (sW (nth h.T t) k)=true) :
  bg {h with T:=h.T.set t (sW (nth h.T t) k)} (nth (nth (nth h.T t).X k) ((nth (nth h.T t).X k).length - 1)::E)/\jz h.K (nth (nth (nth h.T t).X k) ((nth (nth h.T t).X k).length - 1)) k:=by
 have n:=PG l;have i:=d.hca _ (au f) k g (nth (nth (nth h.T t).X k) ((nth (nth h.T t).X k).length - 1)) ψ;refine⟨?_,i⟩;generalize w:nth (nth (nth h.T t).X k) ((nth (nth h.T t).X k).length - 1)=a at n i |-;have p:(E++holders h).Perm (a::E++holders {h with T:=h.T.set t (sW (nth h.T t) k)}):=by
  refine List.perm_iff_count.2 λb=>?_
  have A:=jm (λc:aF=>c.X.flatten) b h.T t (sW (nth h.T t) k) f;have q:=jm (λy:List Int=>y) b (nth h.T t).X k ((nth (nth h.T t).X k).take ((nth (nth h.T t).X k).length - 1)) g;rw[<-lX,<-lX]at q
  grind [sW,holders,cH]
 exact {d with
   nc:=by grind [bg.nc]
   cach:=λc e=>by grind [bg.cach]
   onu:=by show ∀o∈h.M,1<=o.Id/\o.Id<=h.o - 1/\0<=o.a0/\o.a0<=(h.T.set t _).length - 1;rw[Z1];exact d.onu
   hca:=λc e j B b r=>by grind [bg.hca,cL,au,sW]
   hin:=λb r=>by grind [jz.any,bg.hin]
   nd:=p.nodup_iff.1 d.nd
   mem:=λb=>by grind [bg.mem]}
def KI(a:Int)(o:bi):Bool:=decide (a<=o.Addr)
def addO(h:ac)(a size t:Int):ac:={h with M:=jI (KI a) h.M ⟨h.o,a,size,t⟩,o:=h.o+1}
theorem Df(a:cg h=true)(b:h.o<1000000):decide (0<=h.b5/\h.b5<=1073741823/\0<=h.a8/\h.a8<=1000000/\0<=h.b7/\h.b7<=1000/\1<=h.o+1/\h.o+1<=1000000)=true:=by grind [cg]
theorem bg.addO{h:ac}{E:List Int}{a size t:Int}(c:bg h (a::E))(d:Qb h.K h.J ⟨h.o,a,size,t⟩)(p:h.o<1000000)(q:0<=t/\t<=h.T.length - 1):bg (addO h a size t) E:=by
 have i:=lD (KI a) h.M ⟨h.o,a,size,t⟩;have n:(a::E++holders h).Perm (E++holders (Ab.addO h a size t)):=by
  have r:=i.map (·.Addr);refine List.perm_iff_count.2 λb=>?_
  have u:=r.count_eq b;simp only[I6,List.count_cons]at u;simp only[holders,cH,Ab.addO,O6,List.cons_append,List.count_cons];omega
 have j:=c.nd;rw[List.cons_append]at j;obtain⟨k,-⟩:=List.nodup_cons.1 j;have l:∀o∈h.M,o.Addr≠a:=λo d e=>k (O3.2 (.inr (by unfold holders;grind)))
 exact {c with
   nums:=Df c.nums p
   osr:=m6 (f:=λo:bi=>o.Addr) (y:=⟨h.o,a,size,t⟩) c.osr l
   onu:=λo d=>by
     rcases dL.1 d with rfl|d
     · have:=c.nums
       unfold cg at this;rw[C0]at this;exact⟨ψ,by show h.o<=h.o+1 - 1;omega,q⟩
     have:=c.onu o d;exact⟨this.1,by show o.Id<=h.o+1 - 1;omega,this.2.2⟩
   oid:=by
     show((jI (KI a) h.M ⟨h.o,a,size,t⟩).map (·.Id)).Nodup;rw[(i.map _).nodup_iff,I6];refine List.nodup_cons.2 ⟨λw=>?_,c.oid⟩;obtain⟨o,d,e⟩:=W4.1 w;have:=(c.onu o d).2.1
     grind
   oow:=λo g=>by
     rcases dL.1 g with rfl|g
     · exact d
     exact c.oow o g
   hin:=λb A=>c.hin b ψ
   nd:=n.nodup_iff.1 c.nd
   mem:=λb=>by rw[<-n.mem_iff];exact c.mem b}
def fS(xs:List aE)(n:Int):Nat->Int
 | 0=>-1
 | i+1=>if n<=(nth xs i).a4/\(fS xs n i<0\/(nth xs i).a4<(nth xs (fS xs n i).toNat).a4) then(i:Nat) else fS xs n i
def f9(xs:List aE)(n:Int):Int:=fS xs n xs.length
def aC(xs:List aE)(n:Int):List aE × Int × Bool:=
 if f9 xs n<0 then(xs,-1,false)
 else if(nth xs (f9 xs n).toNat).a4=n then(dele xs (f9 xs n).toNat,(nth xs (f9 xs n).toNat).At,true)
 else(xs.set (f9 xs n).toNat ⟨(nth xs (f9 xs n).toNat).At+n,(nth xs (f9 xs n).toNat).a4 - n⟩,(nth xs (f9 xs n).toNat).At,true)
theorem u7(xs:List aE)(n:Int):∀i,i<=xs.length->fS xs n i = -1\/(0<=fS xs n i/\fS xs n i<i/\n<=(nth xs (fS xs n i).toNat).a4)
 | 0,_=>.inl rfl
 | i+1,a=>by
  have b:=u7 xs n i ω
  grind [fS]
variable{xs:List aE}
def zg(h:jR xs)(a:i<j)(b:j<xs.length):(nth xs i).At+(nth xs i).a4<(nth xs j).At:=by
 have:=List.pairwise_iff_getElem.1 h.1 i j ω b a
 rwa [<-b8 (X2 (show i<xs.length by omega)),<-b8 (X2 b)]at this
theorem za : RH xs p↔∃j,j<xs.length/\(nth xs j).At<=p/\p<(nth xs j).At+(nth xs j).a4:=by grind [bu,au,RH]
theorem nH{pages:Int}{n:Int}(h:bF pages xs=true)(R:1<=n)(f:(aC xs n).2.2=true) :
  bF pages (aC xs n).1=true/\0<=(aC xs n).2.1/\(aC xs n).2.1+n<=pages/\(∀p,RH (aC xs n).1 p↔RH xs p/\¬((aC xs n).2.1<=p/\p<(aC xs n).2.1+n))/\∀p,(aC xs n).2.1<=p->p<(aC xs n).2.1+n->RH xs p:=by
 obtain⟨e,E,t⟩:=gf.1 h;have u:=u7 xs n xs.length (V3 _);unfold aC at f |-;change f9 xs n = -1\/_ at u;split at f
 ·cases f
 rename_i g;rw[CB g];obtain⟨F,G,w⟩:=u.resolve_left ω;change 0<=f9 xs n at F;change f9 xs n<xs.length at G;change n<=(nth xs (f9 xs n).toNat).a4 at w;generalize H:(f9 xs n).toNat=b at w |-;have d:b<xs.length:=ω
 have A:=E _ (au d);have J:∀j,j<xs.length->j≠b->(nth xs j).At+(nth xs j).a4<(nth xs b).At\/(nth xs b).At+(nth xs b).a4<(nth xs j).At:=λj c k=>by
  rcases Nat.lt_or_gt_of_ne k with l|o
  ·exact .inl (zg e l d)
  exact .inr (zg e o c)
 split
 ·rename_i K
  have L:(dele xs b).Sublist xs:=fA ..;refine⟨gf.2 ⟨⟨e.1.sublist L,ψ⟩,ψ,t⟩,A.1,ψ,λp=>?_,λp M N=>za.2 ψ⟩;simp only;rw[za (xs:=xs)];constructor
  ·rintro⟨r,O,B,C⟩
   grind [fK]
  rintro⟨⟨j,c,B,C⟩,P⟩
  exact⟨_,fK.2 ψ,B,C⟩
 rename_i K;have a:∀j,nth (xs.set b ⟨(nth xs b).At+n,(nth xs b).a4 - n⟩) j=if j=b then⟨(nth xs b).At+n,(nth xs b).a4 - n⟩ else nth xs j:=λj=>by grind [cL]
 refine⟨gf.2 ⟨⟨?_,λy Q=>?_⟩,λy Q=>?_,t⟩,A.1,ψ,λp=>?_,λp M N=>za.2 ψ⟩
 ·rw[List.pairwise_iff_getElem]
  intro i j D c q;rw[<-b8 (X2 D),<-b8 (X2 c),a,a];simp only[Z1]at D c;have S:=zg e q c
  grind
 ·grind
 ·grind
 simp only;rw[za,za,Z1];constructor
 ·grind
 grind
def oY(k:ah):Int:=cj (λu=>!u) k.F.V.y
def vd(k:ah)(p:Int)(f:Nat):ah:={k with F:=⟨⟨k.F.V.W,k.F.V.y.set f true⟩,⟨k.F.Q.O.set p.toNat ⟨2,(f:Nat)⟩⟩⟩}
def dE(k:ah)(p:Int):ah × Bool:=if refd k=true\/oY k<0 then(dD k,false) else(vd (dD k) p (oY k).toNat,true)
theorem HC(h:¬oY k<0):(oY k).toNat<k.F.V.y.length/\nth k.F.V.y (oY k).toNat=false:=by grind [pS,oY]
theorem BV(h:aJ k=true)(a:f<k.F.V.y.length)(b:nth k.F.V.y f=false)(q:Nat)(c:q<k.F.Q.O.length)(d:(nth k.F.Q.O q).k≠0):(nth k.F.Q.O q).e≠(f:Nat):=by grind [aH,fx]
theorem R4(h:aJ k=true)(A:0<=p/\p<k.F.Q.O.length)(B:(nth k.F.Q.O p.toNat).k=0)(c:f<k.F.V.y.length)(d:nth k.F.V.y f=false):aJ (vd k p f)=true:=by
 have g:=BV h c d;obtain⟨i,l,n,o,r⟩:=aH.1 h;obtain⟨t,u,C,w⟩:=aY.1 l;obtain⟨D,E,F⟩:=bq.1 n;have a:∀q,nth (k.F.Q.O.set p.toNat ⟨2,(f:Nat)⟩) q=if p.toNat=q then⟨2,(f:Nat)⟩ else nth k.F.Q.O q:=λq=>by grind [cL]
 refine aH.2 ⟨i,aY.2 ⟨t,u,by grind [vd],λj b=>?_⟩,bq.2 ⟨λj b=>?_,?_,?_⟩,λj b=>?_,r⟩
 ·replace b:j<k.F.V.W.length:=b
  show iV (nth k.F.V.W j) (nth (k.F.V.y.set f true) j)=true;have G:=w j b;rw[cL]
  grind [iV,j9]
 ·simp only[vd,Z1]at b |-
  rw[a];split
  all_goals grind [mt]
 ·grind [vd]
 ·grind [vd]
 simp only[vd,Z1]at b;show nth (k.F.V.y.set f true) j=_;rw[cL];by_cases e:f=j
 ·grind [fx,vd]
 rw[CB λz=>e z.1,o j b];refine decide_eq_decide.2 ?_;rw[fx,fx];simp only[vd,Z1,a];constructor
 ·rintro⟨q,y,H,J⟩
  refine⟨q,y,?_⟩
  grind
 grind
structure yq(k:ah)(p:Int)(r:ah × Bool):Prop where
 ker:aJ r.1=true
 len:r.1.F.Q.O.length=k.F.Q.O.length
 calls:r.1.Calls=k.Calls+1
 ref:r.1.d=k.d
 cells:r.1.F.V.W=k.F.V.W
 no:r.2=false->r.1=dD k
 yes:r.2=true->∃f:Nat,f<k.F.V.y.length/\nth k.F.V.y f=false/\(∀q:Nat,nth r.1.F.Q.O q=if(q:Int)=p then⟨2,(f:Nat)⟩ else nth k.F.Q.O q)/\∀q,q<k.F.Q.O.length->(nth k.F.Q.O q).k≠0->(nth k.F.Q.O q).e≠(f:Nat)
theorem yq.of(h:aJ k=true)(c:k.Calls≠100000)(f:0<=p/\p<k.F.Q.O.length)(g:(nth k.F.Q.O p.toNat).k=0):yq k p (dE k p):=by
 unfold dE;split
 ·exact⟨nz h c,rfl,rfl,rfl,rfl,λ_=>rfl,λe=>by cases e⟩
 rename_i d;rw[not_or]at d;obtain⟨a,b⟩:=HC d.2;refine⟨R4 (nz h c) f g a b,by simp[vd,dD],rfl,rfl,rfl,ψ,λ_=>⟨_,a,b,λq=>?_,λq=>BV h a b q⟩⟩
 grind [cL,vd,dD]
def bD(k:ah)(p:Int):Nat->ah × Nat
 | 0=>(k,0)
 | i+1=>if(bD k p i).2=i then((dE (bD k p i).1 (p+(i:Nat))).1,if(dE (bD k p i).1 (p+(i:Nat))).2=true then i+1 else i) else bD k p i
structure iq(k:ah)(p:Int)(i:Nat)(r:ah × Nat):Prop where
 ker:aJ r.1=true
 len:r.1.F.Q.O.length=k.F.Q.O.length
 calls:k.Calls<=r.1.Calls/\r.1.Calls<=k.Calls+i
 ref:r.1.d=k.d
 cells:r.1.F.V.W=k.F.V.W
 le:r.2<=i
 out:∀q:Nat,¬(p<=q/\(q:Int)<p+r.2)->nth r.1.F.Q.O q=nth k.F.Q.O q
 new:∀q:Nat,p<=q->(q:Int)<p+r.2->(nth r.1.F.Q.O q).k=2/\∀u:Nat,u<k.F.Q.O.length->(nth r.1.F.Q.O u).k≠0->(nth r.1.F.Q.O u).e=(nth r.1.F.Q.O q).e->u=q
theorem iq.of{k:ah}{p:Int}{n:Nat}(h:aJ k=true)(l:k.Calls+n<=100000)(o:0<=p/\p+n<=k.F.Q.O.length)(t:∀q:Nat,p<=q->(q:Int)<p+n->(nth k.F.Q.O q).k=0):∀i,i<=n->iq k p i (bD k p i)
 | 0,_=>⟨h,rfl,⟨C5 _,by show k.Calls<=k.Calls+((0:Nat):Int);omega⟩,rfl,rfl,V3 _,λ_ _=>rfl,λq d b=>by grind [bD]⟩
 | i+1,B=>by
  have a:=iq.of h l o t i ω;unfold bD;split
  case isFalse=>exact⟨a.ker,a.len,⟨a.calls.1,by have:=a.calls.2;omega⟩,a.ref,a.cells,by have:=a.le;omega,a.out,a.new⟩
  rename_i u;generalize bD k p i=r at a u |-;have y:=a.calls;have c:(nth r.1.F.Q.O (p+(i:Nat)).toNat).k=0:=by grind [iq.out]
  have s:=yq.of (p:=p+(i:Nat)) a.ker ω ⟨ω,by rw[a.len];omega⟩ c;generalize dE r.1 (p+(i:Nat))=w at s |-;refine⟨s.ker,s.len.trans a.len,⟨by grind [yq.calls],by grind [yq.calls]⟩,s.ref.trans a.ref,s.cells.trans a.cells,ψ,λq g=>?_,λq d b=>?_⟩
  ·simp only at g |-
   cases e:w.2 with
   | false=>
    rw[s.no e];rw[e]at g;exact a.out q ψ
   | true=>
    obtain⟨f,-,-,j,-⟩:=s.yes e
    grind [iq.out]
  simp only at b |-;cases e:w.2 with
  | false=>
   rw[s.no e];rw[e]at b;exact a.new q d ψ
  | true=>
   obtain⟨f,-,-,j,C⟩:=s.yes e;rw[e,CC rfl]at b;have A:q<k.F.Q.O.length:=ω
   rw[j];by_cases D:(q:Int)=p+(i:Nat)
   ·grind [iq.len]
   grind [iq.new,iq.len]
theorem iq.undo{r:ah × Nat}(s:iq k p i r)(h:aJ k=true)(a:0<=p/\p+i<=k.F.Q.O.length)(b:∀q:Nat,p<=q->(q:Int)<p+i->(nth k.F.Q.O q).k=0):aJ (du r.1 p r.2)=true/\tEq k.F.Q (du r.1 p r.2).F.Q:=by
 have c:=s.le;have d:=nu s.ker a.1 r.2 (by rw[s.len];omega);refine⟨jl s.ker p r.2,((gh r.1 p r.2).1).trans s.len,λq=>?_⟩;rw[d];split
 ·rename_i e
  have f:=b q e.1 ω
  grind [aH,bq,mt]
 grind [iq.out]
theorem Pg.add{c:aO}{B f:List aE}{a:List aA}{b:List aD}(o:Pg t B sp la)(C:c.O.length=t.O.length)(H:p+n<=t.O.length)(R:0<=p)(S:∀q:Nat,¬(p<=q/\(q:Int)<p+n)->nth c.O q=nth t.O q)(D:∀q:Nat,p<=q->(q:Int)<p+n->(nth c.O q).k=2/\∀u:Nat,u<t.O.length->(nth c.O u).k≠0->(nth c.O u).e=(nth c.O q).e->u=q)(J:∀q,RH f q↔RH B q/\¬(p<=q/\q<p+n))(r:∀q,q∈pgs a b↔q∈pgs sp la\/(p<=q/\q<p+n))(g:∀s∈a,0<=s.R/\(s∈sp\/(p<=s.R/\s.R<p+n)))(w:∀l∈b,l∈la\/∀q∈lpgs l l.w.toNat,p<=q/\q<p+n):Pg c f a b:=by
 have E:∀q:Nat,q<t.O.length->((nth c.O q).k≠0↔(q:Int)∈pgs a b):=λq h=>by grind [Pg.own]
 refine⟨λl i q h u k T U=>?_,λq h=>?_,ψ,λq h=>?_,λs F u k K V=>?_⟩
 ·rw[C]at k
  have A:=gk (sp:=a) i h;have L:q<t.O.length:=by
   rcases(r _).1 A with d|d
   ·have:=o.bnd _ d;omega
   omega
  by_cases e:p<=q/\(q:Int)<p+n
  ·grind
  have M:=(w l i).resolve_right ψ
  grind [Pg.one]
 ·rw[C]
  rcases(r _).1 h with d|d
  ·exact o.bnd _ d
  omega
 ·grind [Pg.fre]
 obtain⟨N,W⟩:=g s F;obtain⟨O,X⟩:=g u k;have j:∀y∈a,0<=y.R->y.R.toNat<t.O.length/\((y.R.toNat:Nat):Int)=y.R/\(nth c.O y.R.toNat).k≠0:=λy P Q=>by
  have d:=eG (la:=b) P;have Y:y.R.toNat<t.O.length:=by
   rcases(r _).1 d with G|G
   ·have:=o.bnd _ G;omega
   omega
  grind
 obtain⟨Z,sc,sd⟩:=j s F N;obtain⟨ub,uc,ud⟩:=j u k O;by_cases es:p<=s.R/\s.R<p+n
 ·grind
 by_cases eu:p<=u.R/\u.R<p+n
 all_goals grind [Pg.mesh]
theorem Hx{a:List aA}{b:List aD}(c:a.Perm sp)(d:b.Perm la):(pgs a b).Perm (pgs sp la):=by grind [pgs]
def Gn(p:Int)(s:aA):Bool:=decide (p<=s.R)
def Qt(p:Int)(l:aD):Bool:=decide (p<=l.R)
def addS(h:ac)(k:ah)(a:List aE)(p c:Int):ac:={h with H:=k,a:=a,K:=jI (Gn p) h.K ⟨p,c,0⟩}
def kg(a:bg h E){n:Int}(j:1<=n)(k:(aC h.a n).2.2=true):0<=(aC h.a n).2.1/\(aC h.a n).2.1+n<=(tbl h).O.length/\(∀q:Nat,(aC h.a n).2.1<=q->(q:Int)<(aC h.a n).2.1+n->(nth (tbl h).O q).k=0)/\∀q:Int,(aC h.a n).2.1<=q->q<(aC h.a n).2.1+n->q∉pgs h.K h.J:=by
 obtain⟨r,l,f,t,o⟩:=nH a.rng j k;have g:∀q:Nat,(aC h.a n).2.1<=q->(q:Int)<(aC h.a n).2.1+n->(nth (tbl h).O q).k=0:=λq b c=>by
  have d:q<(tbl h).O.length:=by
   have:(aC h.a n).2.1+n<=((tbl h).O.length:Nat):=f;omega
  by_cases e:(nth (tbl h).O q).k=0
  ·exact e
  exact absurd (o q b c) ((a.pg.fre q d).1 e)
 refine⟨l,f,g,λq b c i=>?_⟩;have u:=a.pg.bnd q i;obtain⟨m,rfl⟩:=I3 (show 0<=q by omega);have p:=(a.pg.own m ω).2 i;exact p (g m b c)
theorem bg.addS{h:ac}{E:List Int}{c:Int}(a:bg h E)(V:0<=c/\c<=3)(D:(aC h.a 1).2.2=true){k:ah}(s:yq h.H (aC h.a 1).2.1 (k,true)):bg (addS h k (aC h.a 1).1 (aC h.a 1).2.1 c) E:=by
 obtain⟨Q,R,W,F,X⟩:=nH a.rng (C5 _) D;obtain⟨-,S,Y,Z⟩:=kg a (C5 _) D;generalize (aC h.a 1).2.1=p at R W F X S Y Z s |-;generalize (aC h.a 1).1=fr at Q F |-;obtain⟨f,f1,f2,T,f4⟩:=s.yes rfl;have G:=(bq.1 (aH.1 a.ker).2.2.1).2.2;change (tbl h).O.length<=32 at G;have hL:=a.L;have H:=lD (Gn p) h.K ⟨p,c,0⟩;have J:=Hx H (List.Perm.refl h.J);have A:(pgs (jI (Gn p) h.K ⟨p,c,0⟩) h.J).Perm (p::pgs h.K h.J):=J;have K:p∉pgs h.K h.J:=ψ
 have M:∀z∈h.K,z.R≠p:=λz i e=>K (by grind [eG])
 have r:∀b d,jz (jI (Gn p) h.K ⟨p,c,0⟩) b d↔jz h.K b d:=λb d=>by
  constructor
  ·rintro⟨s,B,w,N⟩
   rcases dL.1 B with rfl|B
   ·grind [Fn]
   exact⟨s,B,w,N⟩
  rintro⟨s,B,w⟩
  exact⟨s,dL.2 (.inr B),w⟩
 exact {a with
   ker:=s.ker
   rng:=by show bF ((k.F.Q.O.length:Nat):Int) fr=true;rw[s.len];exact Q
   lay:=by
     obtain⟨l1,l2,l3⟩:=eZ a.lay;unfold bx;simp only[I0,C0];refine⟨⟨C4.2 λz i=>?_,l2⟩,A.nodup_iff.2 ψ⟩;rcases dL.1 i with rfl|i
     · have hl0:0<=lim c:=by
         have:=(gn V).1;obtain rfl|rfl|rfl|rfl:c=0\/c=1\/c=2\/c=3:=ω
         all_goals decide
       exact O0 ψ
     grind
   srs:=m6 (f:=λz:aA=>z.R) (y:=⟨p,c,0⟩) a.srs M
   pg:=by
     refine a.pg.add (p:=p) (n:=1) s.len (by exact S) R (λq hq=>?_) (λq q1 q2=>?_) (λq=>F q) (λq=>?_) (λz i=>?_) (λl hl=>.inl hl)
     · exact(T q).trans (CB ω)
     · have hq:(q:Int)=p:=ω
       have U:nth k.F.Q.O q = ⟨2,(f:Nat)⟩:=ψ
       refine⟨Z0 bo.k U,λu O t g=>?_⟩;have fu:nth k.F.Q.O u=if(u:Int)=p then⟨2,(f:Nat)⟩ else nth h.H.F.Q.O u:=T u
       change (nth k.F.Q.O u).k≠0 at t;change (nth k.F.Q.O u).e=(nth k.F.Q.O q).e at g;rw[fu]at t g;rw[U]at g;by_cases eu:(u:Int)=p
       · omega
       rw[CB eu]at t g;exact absurd g (f4 u O t)
     · show q∈pgs (jI (Gn p) h.K ⟨p,c,0⟩) h.J↔_
       grind
     rcases dL.1 i with rfl|i
     · grind
     exact⟨(aL (hL.sok z i)).1,.inl i⟩
   oow:=λo D=>by
     rcases a.oow o D with⟨z,i,w,N⟩|w
     · exact .inl ⟨z,dL.2 (.inr i),w,N⟩
     exact .inr w
   hca:=λd hd j hj b C=>(r b j).2 (a.hca d hd j hj b C)
   hqu:=λy P=>(r _ _).2 (a.hqu y P)
   hfl:=λb C=>(r _ _).2 (a.hfl b C)
   hin:=λb C=>(r _ _).2 (a.hin b C)
   mem:=λb=>(a.mem b).trans (by
     show nw h.K h.J b↔nw (jI (Gn p) h.K ⟨p,c,0⟩) h.J b
     grind [nw])
   job:=λhm=>by
     obtain⟨j1,⟨y,P,e1⟩,⟨u,O,e2⟩⟩:=a.job hm;exact⟨j1,⟨y,dL.2 (.inr P),e1⟩,⟨u,dL.2 (.inr O),e2⟩⟩}
def addL(h:ac)(k:ah)(a:List aE)(p n size t:Int):ac:={h with H:=k,a:=a,J:=jI (Qt p) h.J ⟨p,n,size⟩,M:=jI (KI (16*p)) h.M ⟨h.o,16*p,size,t⟩,o:=h.o+1}
theorem bg.addL{h:ac}{E:List Int}{size t:Int}{n:Nat}(a:bg h E)(g:9<=size/\size<=1000)(J:(n:Int)=(size+15) / 16)(i:(aC h.a n).2.2=true){k:ah}(s:iq h.H (aC h.a n).2.1 n (k,n))(hn:h.o<1000000)(ht:0<=t/\t<=h.T.length - 1) :
  bg (addL h k (aC h.a n).1 (aC h.a n).2.1 n size t) E:=by
 have B:(1:Int)<=n:=ω
 obtain⟨V,K,r3,M,r5⟩:=nH a.rng B i;obtain⟨-,W,u3,H⟩:=kg a B i;generalize (aC h.a n).2.1=p at K r3 M r5 W u3 H s |-;generalize (aC h.a n).1=fr at V M |-;have N:=(bq.1 (aH.1 a.ker).2.2.1).2.2;change (tbl h).O.length<=32 at N;have O:=a.L;have P:=lD (Qt p) h.J ⟨p,n,size⟩;have C:=lD (KI (16*p)) h.M ⟨h.o,16*p,size,t⟩;have Q:lpgs ⟨p,n,size⟩ ((n:Nat):Int).toNat=lpgs ⟨p,n,size⟩ n:=by rw[C3]
 have D:(pgs h.K (jI (Qt p) h.J ⟨p,n,size⟩)).Perm (lpgs ⟨p,n,size⟩ n++pgs h.K h.J):=by
  refine(Hx (List.Perm.refl h.K) P).trans ?_;unfold pgs;rw[C7];simp only[Q];rw[<-Y5,<-Y5];exact List.perm_append_comm.append_right _
 have u:∀q,q∈lpgs ⟨p,n,size⟩ n↔p<=q/\q<p+n:=λq=>by
  rw[dI];constructor
  ·rintro⟨j,hj,rfl⟩;exact⟨by show p<=p+(j:Int);omega,by show p+(j:Int)<_;omega⟩
  rintro⟨X,Y⟩;exact⟨(q - p).toNat,ω,by show q=p+_;omega⟩
 have R:(lpgs ⟨p,n,size⟩ n).Nodup:=by
  unfold lpgs List.Nodup;rw[List.pairwise_map];exact List.nodup_range.imp λr e=>r (by simp only at e;omega)
 have r:∀z∈h.J,z.R≠p:=λz g e=>H p (C5 _) ω (by rw[<-e];exact gk g (dI.2 ⟨0,by have:=aX (O.lok z g);omega,ω⟩))
 have S:¬nw h.K h.J (16*p):=by
  rintro(⟨z,g,d,-⟩|⟨l,c,e⟩)
  ·exact H p (C5 _) ω (by rw[show p=z.R by have a1:=d.1;have a2:=d.2.1;omega];exact eG g)
  exact r l c ω
 have F:(16*p)∉E++holders h:=λT=>S ((a.mem _).1 T)
 have U:∀o∈h.M,o.Addr≠16*p:=λo i e=>F (O3.2 (.inr (by unfold holders;simp only[O3];exact .inl (.inl (.inl (W4.2 ⟨o,i,e⟩))))))
 have Z:(E++holders (Ab.addL h k fr p n size t)).Perm ((16*p)::(E++holders h)):=by
  have h0:=C.map (·.Addr);refine List.perm_iff_count.2 λb=>?_
  have d:=h0.count_eq b;simp only[I6,List.count_cons]at d;simp only[holders,cH,Ab.addL,O6,List.count_cons];omega
 exact {a with
   ker:=s.ker
   rng:=by show bF ((k.F.Q.O.length:Nat):Int) fr=true;rw[s.len];exact V
   lay:=by
     obtain⟨l1,l2,l3⟩:=eZ a.lay;unfold bx;simp only[I0,C0];refine⟨⟨l1,C4.2 λz w=>?_⟩,D.nodup_iff.2 (List.nodup_append.2 ⟨R,l3,λq G b hb e=>?_⟩)⟩
     · rcases dL.1 w with rfl|w
       · exact O0 ⟨g.1,g.2,J,K,by show p<=32 - (n:Int);omega⟩
       exact O.lok z w
     subst e;have:=(u q).1 G;exact H q this.1 this.2 hb
   srl:=m6 (f:=λz:aD=>z.R) (y:=⟨p,n,size⟩) a.srl r
   pg:=by
     refine a.pg.add (p:=p) (n:=n) s.len (by exact W) K (λq G=>s.out q G) (λq X Y=>s.new q X Y) (λq=>M q) (λq=>?_) (λz g=>⟨(aL (O.sok z g)).1,.inl g⟩) (λl c=>?_)
     · show q∈pgs h.K (jI (Qt p) h.J ⟨p,n,size⟩)↔_
       rw[D.mem_iff,O3,u];exact Or.comm
     rcases dL.1 c with rfl|c
     · exact .inr λq G=>(u q).1 (by simpa using G)
     exact .inl c
   nums:=Df a.nums hn
   osr:=m6 (f:=λo:bi=>o.Addr) (y:=⟨h.o,16*p,size,t⟩) a.osr U
   onu:=λo i=>by
     rcases dL.1 i with rfl|i
     · have:=a.nums
       unfold cg at this;rw[C0]at this;exact⟨by show 1<=h.o;omega,by show h.o<=h.o+1 - 1;omega,ht⟩
     have:=a.onu o i;exact⟨this.1,by show o.Id<=h.o+1 - 1;omega,this.2.2⟩
   oid:=by
     show((jI (KI (16*p)) h.M ⟨h.o,16*p,size,t⟩).map (·.Id)).Nodup;rw[(C.map _).nodup_iff,I6];refine List.nodup_cons.2 ⟨λT=>?_,a.oid⟩;obtain⟨o,i,e⟩:=W4.1 T;have:=(a.onu o i).2.1;simp only at e;omega
   oow:=λo A=>by
     rcases dL.1 A with rfl|A
     · exact .inr ⟨_,dL.2 (.inl rfl),rfl,rfl⟩
     rcases a.oow o A with d|⟨l,c,d⟩
     · exact .inl d
     exact .inr ⟨l,dL.2 (.inr c),d⟩
   nd:=Z.nodup_iff.2 (List.nodup_cons.2 ⟨F,a.nd⟩)
   mem:=λb=>by
     rw[Z.mem_iff,List.mem_cons,a.mem b];show _↔nw h.K (jI (Qt p) h.J ⟨p,n,size⟩) b;unfold nw;constructor
     · rintro(rfl|d|⟨l,c,e⟩)
       · exact .inr ⟨_,dL.2 (.inl rfl),rfl⟩
       · exact .inl d
       exact .inr ⟨l,dL.2 (.inr c),e⟩
     rintro(d|⟨l,c,e⟩)
     · exact .inr (.inl d)
     rcases dL.1 c with rfl|c
     · exact .inl e
     exact .inr (.inr ⟨l,c,e⟩)}
end Go.Proofs.YtiopgblagimpmaaGreat.Ab
