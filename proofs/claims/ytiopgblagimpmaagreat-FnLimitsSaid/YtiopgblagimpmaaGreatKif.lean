/- The library's Delete of one element, at rows of several cells. No condition. -/
import Derived.Test.YtiopgblagimpmaaGreatKic
import Derived.Test.YtiopgblagimpmaaGreatKie
import Derived.Deep.LoopGhost
import Derived.Deep.RegionLaw
import Derived.Lib.Walk
import Derived.Sort.WalkB12
import Derived.Lib.SliceRun
import Derived.Shelf.RegionOpenPlain
set_option linter.unusedVariables false
set_option linter.defProp false
set_option linter.unusedSimpArgs false
set_option linter.constructorNameAsVariable false
namespace Go.Proofs.YtiopgblagimpmaaGreat.Ab
open Go.RowKit
set_option maxRecDepth 20000
set_option maxHeartbeats 4000000
def oE(rows:List (List C)):C:=match rows with|[]=>.s .V []|_=>.s .own rows
variable{rows:List (List C)}
def Rb(h:rows≠[]):oE rows=.s .own rows:=by cases rows with|nil=>exact absurd rfl h|cons=>rfl
variable{P:Program}
theorem Q6(w:World)(t e k:Nat)(z:Value)(g:P.underlying t=some (.slice e))(h:∀w,(zeroValue e).run P w=.ok z w)(i:z.cells.size=k)(h1:∀v∈z.cells.toList,v.oneCell'=true)(b o n:Nat)(p:0<n)(l:0<k)(q:∀j,j<n*k->(w.cell? ⟨b,o+j,none⟩).isSome=true)(r:∀j,j<n*k->w.frozen? ⟨b,o+j,none⟩ = false) :
  ∃zs:List Value,zs.length=n*k/\(∀v∈zs,v.oneCell'=true)/\∀(ty:TypeId)(c:Nat),(Builtin.clear_ #[t] ty #[.slice (some ⟨b,o,none⟩) n c]).run P w=.ok (.tuple #[]) (w.setCells b o zs):=by
 subst i;have d:(Builtin.zeroCells z.cells n).toList.length=n*z.cells.size:=by grind [Go.Builtin.zeroCells]
 have a:∀v∈(Builtin.zeroCells z.cells n).toList,v.oneCell'=true:=by grind [Nat.mod_lt,Go.Builtin.zeroCells]
 refine⟨_,d,a,λty c=>?_⟩;have f:=run_storeCells_cells (P:=P) b o (Builtin.zeroCells z.cells n).toList 0 w ψ ψ a;simp only[Nat.add_zero]at f;obtain⟨m,rfl⟩ : ∃m,n=m+1:=⟨n - 1,ω⟩
 simp[Builtin.clear_,run_underlying g,h,f]
structure jM(w w':World)(g k n i:Nat):Prop where
 keep:bx (λb o=>b=g/\o<n*k) w w'
 lo:∀q,q<i*k->cel w' g q=cel w g q
 mid:∀q,i*k<=q->q<(n - 1)*k->cel w' g q=cel w g (q+k)
 hi:∀q,(n - 1)*k<=q->q<n*k->∃z,cel w' g q=some z/\z.oneCell'=true
 fro:∀b q,fro w' b q=fro w b q
variable{w:World}
theorem bx.up{M a:ah}{c:World}(h:bx M w c)(d:∀b o,M b o->a b o):bx a w c:=(Ca a w).trans h ψ
def xN(w:World):bx NO w w.drew:=⟨rfl,rfl,rfl,I3 _,λ_ _ _=>rfl,λ_ _ _ _=>rfl,λ_ _ _ _=>rfl⟩
variable{news:List Value}{n i:Nat}
theorem Lw{g k:Nat}{zs:List Value}(f:i<n)(d:∀q,q<n*k->∃z,cel w g q=some z)(G:news.length=(n - (i+1))*k)(c:∀t u,news[t]? = some u->cel w g ((i+1)*k+t)=some u)(H:zs.length=k)(l:∀v∈zs,v.oneCell'=true) :
  jM w ((w.drew.setCells g (i*k) news).setCells g ((n - 1)*k) zs) g k n i:=by
 have J:i*k+(n - (i+1))*k=(n - 1)*k:=by rw[<-Nat.add_mul];congr 1;omega
 have K:(n - 1)*k+k=n*k:=by rw[show(n - 1)*k+k=(n - 1+1)*k by rw[Nat.add_mul,Nat.one_mul]];congr 1;omega
 have L:(i+1)*k=i*k+k:=ψ
 have p:∀b q,cel w.drew b q=cel w b q:=λ_ _=>rfl
 have a:∀j,j<news.length->∃z,cel w.drew g (i*k+j)=some z:=λj r=>by rw[p];exact d _ ω
 have y:∀q,q<n*k->∃z,cel (w.drew.setCells g (i*k) news) g q=some z:=λq A=>by
  by_cases h:i*k<=q/\q<i*k+news.length
  ·have:=bK a (O2 (show q - i*k<news.length by omega))
   grind
  grind [bm]
 refine⟨?_,λq A=>?_,λq B C=>?_,λq B C=>?_,λb q=>?_⟩
 ·have D:=dY (g:=g) (X:=λb o=>b=g/\o<n*k) news (i*k) w.drew ω
  have E:=dY (g:=g) (X:=λb o=>b=g/\o<n*k) zs ((n - 1)*k) (w.drew.setCells g (i*k) news) ω;exact((xN w).up λ_ _ h=>h.elim).trans (D.trans E λ_ _ h=>.inr h) λ_ _ h=>.inr h
 ·grind [bm]
 ·rw[bm ω]
  obtain⟨u,e⟩ : ∃u,news[q - i*k]? = some u:=⟨_,O2 ω⟩
  have F:=bK a e;have M:=c _ u e
  grind
 ·obtain⟨u,e⟩ : ∃u,zs[q - (n - 1)*k]? = some u:=(ψ)
  have F:=bK (w:=w.drew.setCells g (i*k) news) (o:=(n - 1)*k) (vs:=zs) (λj r=>y _ ω) e
  grind
 rw[co,co];rfl
def RD(rows:List (List C)):Prop:=∀r∈rows,∀c∈r,∃z,c=.v z
def Nm(P:Program)(f k:Nat):Prop:=Jn P f/\∀(w:World)(g n a i:Nat)(news:List Value),i<n->n<=a->news.length=(n - (i+1))*k->(∀t u,news[t]? = some u->cel w g ((i+1)*k+t)=some u)->(∀u∈news,u.oneCell'=true)->
 (∀q,q<n*k->(w.cell? ⟨g,q,none⟩).isSome=true/\w.frozen? ⟨g,q,none⟩ = false)->
 Calls P f #[.slice (some ⟨g,0,none⟩) n a,.int .i64 i,.int .i64 ((i+1:Nat):Int)] w λe c=>e=.returned (.slice (some ⟨g,0,none⟩) (n - 1) a)/\∃b:List Value,b.length=k/\(∀v∈b,v.oneCell'=true)/\c=(w.drew.setCells g (i*k) news).setCells g ((n - 1)*k) b
variable{f:Nat}
theorem R7{k:Nat}(hf:Nm P f k)(hi:i<rows.length)(hk:∀r∈rows,r.length=k)(T:P4 rows) :
  aK P f false [.mut none [.s .own rows],.val none [I (i:Nat)],.val none [I ((i+1:Nat):Int)]] [.mut none [.x],.val none [I (i:Nat)],.val none [I ((i+1:Nat):Int)]] .one [oE (dele rows i)]:=by
 refine⟨hf.1,λw S V vs hS hV hVV U=>?_⟩
 match vs,U with
 | [v,v1,v2],⟨U,W,X,_⟩=>
  have l:=(b9.rep1 (show b9 w S (V 0) none [C.s .own rows] v from U)).fresh ⟨.inl (λe=>by cases e),T⟩;have e1:v1=.int .i64 (i:Nat):=by
   have:=b9.rep1 (show b9 w S NO none [C.v (.int .i64 (i:Nat))] v1 from W);cases this;rfl
  have e2:v2=.int .i64 ((i+1:Nat):Int):=by
   have:=b9.rep1 (show b9 w S NO none [C.v (.int .i64 ((i+1:Nat):Int))] v2 from X);cases this;rfl
  subst e1 e2;have H:(dele rows i).length=rows.length - 1:=by grind [dele]
  generalize J:C.s .own rows=cc at l;cases l with
  | nil _ o a ho=>grind
  | own _ o g d n j Y u f' ho hn B p hpos hF hu hff hd hc=>
   cases J;have Z:d=k:=by rw[<-B _ (List.getElem_mem hi),<-hk _ (List.getElem_mem hi)]
   subst Z;have hnk:n*d<=j*d:=O7 _ p;have hone:∀q,q<j*d->∃z,cel w g q=some z/\z.oneCell'=true:=ψ
   have e3:(i+1)*d+(n - (i+1))*d=n*d:=by rw[<-Nat.add_mul];congr 1;omega
   obtain⟨news,K,L,hn1⟩ : ∃news:List Value,news.length=(n - (i+1))*d/\(∀t u,news[t]? = some u->cel w g ((i+1)*d+t)=some u)/\∀u∈news,u.oneCell'=true:=by
    refine⟨(List.range ((n - (i+1))*d)).map λt=>(cel w g ((i+1)*d+t)).getD undef,by simp,λt y ht=>?_,λy hy=>?_⟩
    all_goals grind
   refine(hf.2 w g n j i news ω p K L hn1 (λq D=>?_)).mono λe A ⟨he,zs,z1,z2,hw'⟩=>?_
   ·grind
   have R:=Lw (w:=w) (by omega:i<n) ψ K L z1 z2;rw[<-hw']at R;have hgV:∀q,q<j*d->V 0 g q:=ψ
   have E:bx (λb o=>∃i,V i b o) w A:=R.keep.up ψ;have e4:(n - 1)*d+d=n*d:=by rw[show(n - 1)*d+d=(n - 1+1)*d by rw[Nat.add_mul,Nat.one_mul]];congr 1;omega
   have F:∀q,q<j*d->∃z,cel A g q=some z/\z.oneCell'=true:=λq D=>by
    by_cases h1:q<i*d
    ·grind [jM.lo]
    by_cases h2:q<(n - 1)*d
    ·rw[R.mid q ω h2];grind
    grind [jM.hi,bx.cel,jM.keep]
   have M:cL A NO (V 0) [oE (dele rows i)] (λ_=>.slice (some ⟨g,0,none⟩) (n - 1) j):=by
    refine row1 ?_;by_cases hz:dele rows i=[]
    ·rw[hz]
     have hn0:n - 1=0:=ψ
     rw[hn0];exact .V _ g 0 d 0 j [] (λ_=>undef) rfl ψ (W0 _) ω ψ
    rw[Rb hz];have G:0<n - 1:=ψ
    obtain⟨σ,hσ⟩ : ∃σ:Nat->Nat,∀q,σ q=if q<i*d then q else q+d:=⟨_,λ_=>rfl⟩
    have s1:∀q,q<(n - 1)*d->σ q<n*d:=ψ
    have s2:∀q q',q≠q'->σ q≠σ q':=ψ
    have s3:∀q,q<(n - 1)*d->cel A g q=cel w g (σ q):=λq D=>by grind [jM.lo,jM.mid]
    refine .own _ .own g d (n - 1) j _ (λq=>(cel A g q).getD undef) (λq=>f' (σ q)) trivial (by rw[H];omega) (λr hr=>B r ((eP ..).subset hr)) ω G (λq D=>⟨hgV q D,F q D,(R.fro g q).trans (hF q D).2.2⟩) (λq D=>?_) ψ ψ (λa b r c N hb=>?_)
    ·grind
    have hbk:b<d:=by grind [eP]
    have hal:=(U2.1 N).1;rw[H]at hal;have hflat:a*d+b<(n - 1)*d:=dD ω hbk;obtain⟨O,h5,h6⟩ : ∃O,rows[O]? = some r/\σ (a*d+b)=O*d+b:=by
     rw[hσ];unfold dele at N;by_cases h1:a<i
     ·grind [V1,dD]
     rw[W4 ψ,V1,List.getElem?_drop]at N;rw[show i+1+(a - min i rows.length)=a+1 by omega]at N;have:i*d<=a*d:=O7 _ ω;refine⟨a+1,N,?_⟩;rw[C9 ω,Nat.add_mul,Nat.one_mul];omega
    have h7:=hc O b r c h5 hb;have Q:=rh hn B h5 hb;have hfl:=dD Q.1 Q.2;have h8:(cel A g (a*d+b)).getD undef=u (O*d+b):=ψ
    show dG A NO (f' (σ (a*d+b))) c ((cel A g (a*d+b)).getD undef);rw[h8,h6];refine h7.keep (λ_ _ h=>h.elim) λb' o' hb'=>?_
    grind [bx.cel,jM.keep,jM.fro]
   exact⟨_,he,E,V 0,λ_=>NO,NO,ψ,λ_ _ _ h=>h.elim,λ_ _ h=>h.elim,λ_ _ _ _ _ h=>h.elim,λ_ _ _ _ h=>h.elim,λ_ _ _ h=>h.elim,λ_ _ _ h=>h.elim,rfl,M,⟨⟨rfl,λ_=>.slice (some ⟨g,0,none⟩) n j,rfl,row1 (.x _ _ rfl)⟩,trivial,trivial,trivial⟩⟩
  | _=>cases J
set_option maxRecDepth 100000
theorem PO{g cap k:Nat}(d:news.length=(n - (i+1))*k)(a:n<=cap)(b:i<n)(h:∀t u,news[t]? = some u->cel w g ((i+1)*k+t)=some u):∃A:Addr,(if cap=i+1 then some (⟨g,0,none⟩ : Addr) else some ⟨g,(i+1)*k,none⟩)=some A/\∀t u,news[t]? = some u->w.drew.cell? (A.add t)=some u:=by
 by_cases e:cap=i+1
 ·simp_all
 refine⟨⟨g,(i+1)*k,none⟩,by simp[e],λt u c=>?_⟩;rw[Addr.add_lit];exact h t u c
def K4(h:ac)(p:Int):zzA 187 false [.val (some 24) (ac.enc .V h),.val none [I p]] .one [B (f6 h p)]:=by
 cases e:h.u
 all_goals
  have b:ac.enc .V h=(ac.enc .V h).set 18 (B h.u):=rfl;rw[e]at b;rw[b];refine fO 23 [] Tryz.func187 rfl ?_
  repeat'(first|refine gP ?_|(conv=>whnf);first|with_reducible (first|refine Bf.D (λa=>?_) (λa=>?_)|refine Bf.E (λa=>?_) (λa=>?_)|refine Bf.N (λa=>?_) (λa=>?_))|refine CB ?_)
  all_goals exact X0 (λz=>[B z]) ((by unfold f6;rw[e];first|(simp[*];done)|(simp[*];rw[Y4];simp;try omega)|(rw[Y4];simp[*];try omega)))
def BV(h:ac):zzA 71 false [.val (some 24) (ac.enc .V h)] .one [I (eX h:Nat)]:=by
 refine fO 9 [] Tryz.func71 rfl ?_
 repeat'(first|refine gP ?_|(conv=>whnf);first|refine CB ?_)
 rfl
theorem dI(c:C):Qo c c:=(mW [c]).1
def T3(rows:List (List C)):fz (oE rows)=fz (.s .own rows):=by cases rows<;>rfl
def R4(h:P4 rows):PH (oE rows):=by cases rows with|nil=>exact⟨.inr rfl,trivial⟩|cons r a=>exact⟨.inl λe=>(by cases e),h⟩
def R0{S Y:ah}{v:Value}(h:dG w S Y (.s .own rows) v):dG w S Y (oE rows) v:=by
 cases rows with
 | cons=>exact h
 | nil=>
  cases h with
  | nil _ o a d=>exact .nil _ .V a trivial
  | own _ o g k n e rows u f d i j b c l p q r t=>simp at i;omega
theorem nY{c a:C}(h:a=c):Qo c a:=by grind [dI]
def L2(c:aE)(k:Nat):aE:=⟨c.a.set k []⟩
theorem QG(c:aE)(k:Nat):aE.enc .own (L2 c k)=[.s .own ((c.a.map (aH .own)).set k (aH .own []))]:=by grind [I6,aE.enc,L2]
theorem LP(xs:List Int):([]:List Int).map (rI .V)=(xs.map (rI .V)).drop xs.length:=by simp_all
theorem Mf(xs:List Int):xs.map (rI .V)=(xs.map (rI .V)).take xs.length:=by grind [C1]
def TG(c:aE)(k:Nat):List C:=aE.enc .own (L2 c k)++aH .own (nth c.a k)
def Re(c:aE)(k:Nat):hC (TG c k):=aW (aE.enc_fr _) (bP _)
def vJ(c:aE)(k:Nat)(d:b6 c=true)(p:k<=3):zzA 522 false [.val (some 1) (aE.enc .V c),.val none [I (k:Nat)],.val none [I 8]] (.tup [some 1,none]) (TG c k):=by
 obtain⟨q,e⟩:=eH d;have g:aE.sml c:=⟨ω,λl j=>by have:=e l j;show l.length<=1048576;omega⟩
 have h:=yA c k g;rw[d,O0 ω]at h;have n:=iV c g;have a:=qj (c:=c) (k:=k) ω;have o:=e _ (ar (xs:=c.a) (i:=k) ω);have b:=Re c k;unfold TG at b |-;rw[QG]at b |-;refine fO 52 [(5,268,[29,30,31,32,33,34,35,36,37,38,39,41,0,1,2,3,4,5,6,7,8,9,10,11,1000,1001,1002,12,13]),(6,265,[42,43,44,45,46,47,48,49,50,0,1,2,3,4,5,6,7,8,9,1000,10,11])] Tryz.func522 rfl ?_ (.inr b)
 repeat'(first|refine gP ?_|(conv=>whnf);first|with_reducible refine CD (aa a) ?_|refine CB ?_|refine CH rfl (aa a) rfl ?_|refine C8 (h) ?_|refine C8 (n) ?_|refine CS (z:=((nth c.a k).length:Int)) (by simp;omega) ?_|refine Sl.suf (nth c.a k).length rfl (by rw[C1];omega) (aV λ_=>rfl) (LP _) ?_|refine CY (nth c.a k).length rfl (by rw[C1];omega) (aV λ_=>rfl) (Mf _) ?_|refine CB ?_|refine CX (λ_=>rfl) (λ_=>rfl) (by simp) (by decide) ?_|refine CR (λ_=>rfl) (λ_=>rfl) (by simp) (by decide) ?_|refine CX (λ_=>rfl) (λ_=>rfl) ω (by decide) ?_|refine CR (λ_=>rfl) (λ_=>rfl) ω (by decide) ?_|refine CP rfl rfl (aa a) rfl (I1 rfl) rfl ?_)
 rfl
theorem oX{k:Int} : ∀{l s s2 b:List Int},(∀x∈s2,x∈s)->rQ k s l=some b->(∀x∈s,x∈b)/\∃c,rQ k s2 l=some c/\∀x∈c,x∈b
 | [],s,s2,b,h,e=>by grind [rQ]
 | a::l,s,s2,b,h,e=>by
  simp only[rQ]at e |-;split at e
  ·rename_i g
   rw[CC (show good k s2 a from⟨g.1,g.2.1,g.2.2.1,λx=>g.2.2.2 (h a x)⟩)];obtain⟨d,f⟩:=oX (l:=l) (s:=s++[a]) (s2:=s2++[a]) ψ e
   grind
  cases e
theorem uE:∀{a:List (List Int)}{k:Nat}{s s2:List Int},(∀x∈s2,x∈s)->(gy k s a).isSome=true->(gy k s2 a).isSome=true
 | [],_,_,_,_,_=>rfl
 | l::a,k,s,s2,h,e=>by
  simp only[gy,fp]at e |-;split at e
  ·rename_i g
   rw[CC g];cases b:rQ k s l with
   | none=>grind
   | some i=>
    rw[b]at e;obtain⟨-,c,d,f⟩:=oX h b;rw[d];exact uE f e
  cases e
theorem FZ:∀{a:List (List Int)}{k:Nat}{s s2:List Int}(i:Nat),(∀x∈s2,x∈s)->(gy k s a).isSome=true->(gy k s2 (a.set i [])).isSome=true
 | [],_,_,_,_,_,_=>rfl
 | l::a,k,s,s2,i,h,e=>by
  simp only[gy,fp]at e;split at e
  ·rename_i g
   cases b:rQ k s l with
   | none=>grind
   | some j=>
    rw[b]at e;obtain⟨n,c,d,f⟩:=oX h b;cases i with
    | zero=>
     simp only[List.set_cons_zero,gy,fp];rw[CC ⟨by simp,g.2⟩];exact uE ψ e
    | succ i=>
     simp only[List.set_cons_succ,gy,fp];rw[CC g,d];exact FZ i f e
  cases e
theorem RB{c:aE}(h:b6 c=true)(k:Nat):b6 (L2 c k)=true:=by grind [FZ,b6,L2]
def spilt(h:ac)(t k:Nat):ac:={h with S:=h.S.set t (L2 (nth h.S t) k)}
theorem bc.spilt{h:ac}{E:List Int}{t k:Nat}(d:bc h E)(i:t<h.S.length)(n:k<(nth h.S t).a.length):bc (spilt h t k) (nth (nth h.S t).a k++E):=by
 have p:(E++holders h).Perm (nth (nth h.S t).a k++E++holders (Ab.spilt h t k)):=by
  refine List.perm_iff_count.2 λb=>?_
  have r:=iI (λc:aE=>c.a.flatten) b h.S t (L2 (nth h.S t) k) i;have q:=iI (λx:List Int=>x) b (nth h.S t).a k [] n;rw[<-lE,<-lE]at q;simp only[List.count_nil]at q;simp only[L2]at r;simp only[holders,cC,Ab.spilt,L2,C6];omega
 have g:∀c∈(Ab.spilt h t k).S,c∈h.S\/c=L2 (nth h.S t) k:=λc u=>V6 u
 exact {d with
   nc:=by show(h.S.set ..).length=_;rw[U1];exact d.nc
   cach:=λc f=>by grind [bc.cach,RB,ar]
   onu:=by show ∀o∈h.O,1<=o.Id/\o.Id<=h.b - 1/\0<=o.a4/\o.a4<=(h.S.set t _).length - 1;rw[U1];exact d.onu
   hca:=λc f j l b a=>by
     rcases g c f with f|rfl
     · exact d.hca c f j l b a
     simp only[L2,U1]at l;simp only[L2,bF]at a;by_cases e:k=j
     · grind
     rw[C9 λx=>e x.1]at a;exact d.hca _ (ar i) _ l b a
   hin:=λb a=>by
     rcases C3.1 a with a|a
     · exact(d.hca _ (ar i) k n b a).any
     exact d.hin b a
   nd:=p.nodup_iff.1 d.nd
   mem:=λb=>by rw[<-p.mem_iff];exact d.mem b}
def freeAs(h:ac)(az:List Int):ac:=az.foldl freeA h
theorem fK:∀(az:List Int)(h:ac),(freeAs h az).S=h.S/\(freeAs h az).O=h.O/\(freeAs h az).G.Calls=h.G.Calls/\(freeAs h az).w=h.w/\(freeAs h az).Y=h.Y/\(freeAs h az).b1=h.b1/\(freeAs h az).a7=h.a7/\(freeAs h az).G.a0=h.G.a0
 | [],h=>⟨rfl,rfl,rfl,rfl,rfl,rfl,rfl,rfl⟩
 | a::az,h=>by
  obtain⟨b,c,d,e,f,g,i,j⟩:=fK az (freeA h a);obtain⟨k,l,n,o,p,q,r,t⟩:=wZ h (vO h a) a;exact⟨b.trans k,c.trans l,d.trans n,e.trans o,f.trans p,g.trans q,i.trans r,j.trans t⟩
theorem bc.freeAs{E:List Int} : ∀{az:List Int}{h:ac},bc h (az++E)->bc (freeAs h az) E
 | [],_,b=>b
 | a::az,h,b=>bc.freeAs (az:=az) (h:=Ab.freeA h a) b.freeA
theorem vu(h:ac)(az:List Int)(k:Nat)(a:k<az.length):freeAs h (az.take (k+1))=freeA (freeAs h (az.take k)) (nth az k):=by grind [V5,au,freeAs]
def flushN(t:Nat)(h:ac):Nat->ac × Nat
 | 0=>(h,0)
 | k+1=>(freeAs (spilt (flushN t h k).1 t k) (nth (nth (flushN t h k).1.S t).a k),(flushN t h k).2+(nth (nth (flushN t h k).1.S t).a k).length)
theorem jy{t:Nat}{h:ac}(b:bc h [])(c:t<h.S.length):∀{k:Nat},k<=4->bc (flushN t h k).1 []/\(flushN t h k).1.S.length=h.S.length/\(flushN t h k).1.G.Calls=h.G.Calls/\(flushN t h k).1.O=h.O/\(flushN t h k).1.w=h.w/\(flushN t h k).1.Y=h.Y/\(flushN t h k).2<=8*k
 | 0,_=>⟨b,rfl,rfl,rfl,rfl,rfl,W0 _⟩
 | k+1,e=>by
  obtain⟨d,f,g,i,j,l,n⟩:=jy b c (k:=k) ω;have a:t<(flushN t h k).1.S.length:=ω
  obtain⟨o,p⟩:=eH (d.cach _ (ar a))
  grind [bc.spilt,ar,fK,bc.freeAs,spilt,flushN]
variable{t:Nat}{h:ac}
theorem Fe{k:Nat}(a:bc h [])(b:t<h.S.length)(c:k<4):t<(flushN t h k).1.S.length/\b6 (nth (flushN t h k).1.S t)=true/\k<(nth (flushN t h k).1.S t).a.length/\(nth (nth (flushN t h k).1.S t).a k).length<=8/\(flushN t h k).2<=8*k:=by grind [jy,bc.cach,ar,eH]
variable{j:Nat}
theorem MZ{k:Nat}(a:bc h [])(b:t<h.S.length)(c:k<4)(f:j<(nth (nth (flushN t h k).1.S t).a k).length):bc (freeAs (spilt (flushN t h k).1 t k) ((nth (nth (flushN t h k).1.S t).a k).take j)) (nth (nth (nth (flushN t h k).1.S t).a k) j::(nth (nth (flushN t h k).1.S t).a k).drop (j+1)):=by
 obtain⟨d,e⟩:=Fe a b c;have g:=((jy a b (k:=k) ω).1).spilt d e.2.1
 grind [bc.freeAs,iS,List.take_append_drop]
theorem zp(h:ac)(t:Nat)(i:bc h [])(l:t<h.S.length):zzB 424 false [.ptr (bB h),.val none [I (t:Nat)]] [.ptr (bB (flushN t h 4).1),.val none [I (t:Nat)]] .one [I ((flushN t h 4).2:Nat)]:=by
 refine fM 48 [(426,[2,0])] [(6,6,[26,27,28,29,30,31])] [(0,0),(0,0)] Tryz.func424 rfl (λu q=>?_)
 repeat'(first|refine gP ?_|fail)
 (conv=>whnf)
 refine CJ (ι:=Nat) (λk=>[(0,.H .box (bB (flushN t h k).1)),(1,.H .one [I ((t:Nat):Int)]),(5,.H .one [I (((flushN t h k).2:Nat):Int)]),(6,.H .one [I ((k:Nat):Int)])]) (λk=>k<=4) (λk=>4 - k) (0) ?_ (W0 _) λk D=>?_
 ·repeat'(first|exact trivial|rfl |exact nY a|exact dI _|refine CL ?_ ?_|(exact AS (by first|omega|(simp only;omega)|(simp;omega))))
 by_cases n:k<4
 ·obtain⟨o,p,E,F,G⟩:=Fe i l n
  have r:=vJ (nth (flushN t h k).1.S t) k p ω;have c:=λj=>MZ i l n (j:=j)
  have e:=au o;have w:(flushN t h (k+1)).1=freeAs (spilt (flushN t h k).1 t k) (nth (nth (flushN t h k).1.S t).a k):=rfl;have y:(flushN t h (k+1)).2=(flushN t h k).2+(nth (nth (flushN t h k).1.S t).a k).length:=rfl;have a:C.s dQ.own ((spilt (flushN t h k).1 t k).S.map (aE.enc .own))=C.s dQ.own (((flushN t h k).1.S.map (aE.enc .own)).set t (aE.enc .own (L2 (nth (flushN t h k).1.S t) k))):=by grind [I6,spilt]
  repeat'(first|refine gE ?_|(conv=>whnf);first|refine CD (aa e) ?_|refine CH rfl (aa e) rfl ?_|refine CF (r) ⟨⟨rfl,Ce _⟩,⟨rfl,rfl⟩,⟨rfl,rfl⟩,trivial⟩ ?_|refine CB ?_|refine CP rfl rfl (aa e) rfl (I1 rfl) rfl ?_)
  generalize (flushN t h k).1=d at *;generalize (flushN t h k).2=m at *
  (conv=>whnf)
  refine CJ (ι:=Nat) (λj=>[(0,.H .box (bB (freeAs (spilt d t k) ((nth (nth d.S t).a k).take j)))),(1,.H .one [I ((t:Nat):Int)]),(5,.H .one [I (((m+j):Nat):Int)]),(6,.H .one [I ((k:Nat):Int)]),(8,.H .one (aH .own (nth (nth d.S t).a k))),(9,.H .one [I ((j:Nat):Int)])]) (λj=>j<=(nth (nth d.S t).a k).length) (λj=>(nth (nth d.S t).a k).length - j) (0) ?_ (W0 _) λj H=>?_
  ·repeat'(first|exact trivial|rfl |exact nY a|exact dI _|refine CL ?_ ?_|(exact AS (by first|omega|(simp only;omega)|(simp;omega))))
  by_cases g:j<(nth (nth d.S t).a k).length
  ·have b:=au g
   have B:=oq _ _ _ (c j g)
   repeat'(first|refine gE ?_|(conv=>whnf);first|refine CD (aa b) ?_|refine CH rfl (aa b) rfl ?_|refine CK (B) (.inl rfl) ?_)
   ((conv=>whnf);refine CE (j+1) ω ω ?_)
   rw[vu _ _ _ g];exact wC
  obtain rfl:j=(nth (nth d.S t).a k).length:=ω
  rw[C5]
  repeat'(first|refine gE ?_|fail)
  ((conv=>whnf);refine CE (k+1) ω ω ?_)
  rw[w,y];exact wC
 obtain rfl:k=4:=ω
 repeat'(first|refine gE ?_|fail)
 refine CG rfl rfl ?_;exact wC
def yW(s:Int):Int:=(1103515245*s+12345) % 1073741824
def DN(s:Int):0<=yW s/\yW s<=1073741823:=by unfold yW;omega
def zn(s:Int)(b:0<=s/\s<=1073741823):zzA 548 false [.val none [I s]] .one [I (yW s)]:=by
 have a:=aJ s 0 1073741823;rw[O0 b]at a;refine fO 10 [] Tryz.func548 rfl ?_
 repeat'(first|refine gP ?_|(conv=>whnf);first|refine CB ?_|refine CS (z:=yW s) (fh ω) ?_|refine C8 (a) ?_|refine CO (by decide) ?_)
 rfl
def Fg(s:Int)(b:0<=s/\s<=1073741823):zzA 83 false [.val none [I s]] .one [B true]:=by
 have a:=aO s 0 1073741823;rw[O0 b]at a;refine fO 5 [] Tryz.func83 rfl ?_
 repeat'(first|refine gP ?_|(conv=>whnf);first|refine CB ?_|refine C8 (a) ?_)
 rfl
def zg(s:Int)(a:0<=s/\s<=1073741823):zzA 456 false [.val none [I s]] .one [I (yW s)]:=by
 refine fO 10 [] Tryz.func456 rfl ?_
 repeat'(first|refine gP ?_|(conv=>whnf);first|refine CB ?_|refine CS (z:=yW s) (fh ω) ?_|refine C8 (Fg s a) ?_|refine CO (by decide) ?_)
 rfl
def JC(s n:Int):Int:=yW s / 1024 % n
def qZ(s:Int){n:Int}(h:1<=n):0<=JC s n/\JC s n<n:=⟨Int.emod_nonneg _ ω,Int.emod_lt_of_pos _ ω⟩
theorem vj(s n:Int)(b:0<=s/\s<=1073741823)(c:1<=n/\n<=1000):zzA 480 false [.val none [I s],.val none [I n]] (.tup [none,none]) [I (JC s n),I (yW s)]:=by
 have d:=aJ s 0 1073741823;have e:=aJ n 1 1000;rw[O0 b]at d;rw[O0 c]at e;have h:=DN s;have i:=qZ s c.1;have a:(yW s).tdiv 1024=yW s / 1024:=ψ
 have g:((yW s).tdiv 1024).tmod n=JC s n:=by rw[a];exact fh ω
 refine fO 23 [] Tryz.func480 rfl ?_ (.inr ⟨trivial,trivial,trivial⟩)
 repeat'(first|refine gP ?_|(conv=>whnf);first|refine CB ?_|refine C8 (d) ?_|refine C8 (e) ?_|refine C8 (zn s b) ?_|refine CO (by decide) ?_|refine CO ω ?_|refine CS g ?_|refine CM (fQ (by rw[a];omega) (by rw[a];omega)) ?_)
 rfl
theorem EA(s n:Int)(b:0<=s/\s<=1073741823)(c:1<=n/\n<=1000):zzA 337 false [.val none [I s],.val none [I n]] (.tup [none,none]) [I (JC s n),I (yW s)]:=by
 have d:=aO n 1 1000;rw[O0 c]at d;have g:=DN s;have h:=qZ s c.1;have a:(yW s).tdiv 1024=yW s / 1024:=ψ
 have e:((yW s).tdiv 1024).tmod n=JC s n:=by rw[a];exact fh ω
 refine fO 23 [] Tryz.func337 rfl ?_ (.inr ⟨trivial,trivial,trivial⟩)
 repeat'(first|refine gP ?_|(conv=>whnf);first|refine CB ?_|refine C8 (Fg s b) ?_|refine C8 (d) ?_|refine C8 (zg s b) ?_|refine CO (by decide) ?_|refine CO ω ?_|refine CS e ?_|refine CM (fQ (by rw[a];omega) (by rw[a];omega)) ?_)
 rfl
def sI(n:Nat):List Int:=(List.range n).map λ(i:Nat)=>(i:Int)
theorem GR(n:Nat):sI (n+1)=sI n++[(n:Int)]:=by grind [List.range_succ,sI]
def AY(n:Nat):(sI n).length=n:=by simp[sI]
def xp(xs:List Int)(i k:Nat):List Int:=(xs.set i (nth xs k)).set k (nth xs i)
def Lb(xs:List Int)(i k:Nat):(xp xs i k).length=xs.length:=by simp[xp]
def hO(n:Nat)(s:Int):Nat->List Int × Int
 | 0=>(sI n,s)
 | j+1=>(xp (hO n s j).1 (n - 1 - j) (JC (hO n s j).2 ((n - 1 - j:Nat)+1:Int)).toNat,yW (hO n s j).2)
def mZ(n:Nat){s:Int}(a:0<=s/\s<=1073741823):∀j,(hO n s j).1.length=n/\0<=(hO n s j).2/\(hO n s j).2<=1073741823
 | 0=>⟨AY n,a⟩
 | j+1=>⟨by simp only[hO,Lb];exact(mZ n a j).1,DN _⟩
def shuf(n:Nat)(s:Int):List Int × Int:=hO n s (n - 1)
theorem MM(xs:List Int)(i k:Nat):(xp xs i k).map (rI .own)=((xs.map (rI .own)).set i (rI .own (nth xs k))).set k (rI .own (nth xs i)):=by grind [I6,xp]
theorem LG{xs:List Int}{k:Nat}(v:Int)(a:k<xs.length):((xs.map (rI .own)).set i (rI .own v))[k]? = some (rI .own (nth (xs.set i v) k)):=by
 rw[<-I6];grind [au]
def zv(n:Nat)(s:Int)(d:0<=s/\s<=1073741823)(w:n<=64):zzA 526 false [.val none [I s],.val none [I (n:Nat)]] (.tup [none,none]) (aH .own (shuf n s).1++[I (shuf n s).2]):=by
 have e:=aJ s 0 1073741823;have g:=aJ (n:Nat) 0 64;rw[O0 d]at e;rw[O0 ω]at g;refine fO 63 [] Tryz.func526 rfl ?_ (.inr (aW (bP _) ⟨trivial,trivial⟩))
 repeat'(first|refine gP ?_|(conv=>whnf);first|refine CB ?_|refine C8 (e) ?_|refine C8 (g) ?_)
 (conv=>whnf)
 refine CJ (ι:=Nat) (λk=>[(0,.H .one [I (s)]),(1,.H .one [I ((n:Nat):Int)]),(6,.H .one (aH .own (sI k))),(7,.H .one [I ((k:Nat):Int)])]) (λk=>k<=n) (λk=>n - k) (0) ?_ (W0 _) λk y=>?_
 ·exact wB
 have h:=AY k;by_cases B:k<n
 ·repeat'(first|refine gE ?_|(conv=>whnf);first|refine CB ?_|refine Ap.sm (aV λ_=>rfl) rfl (by simp;omega) (by decide) (iT (rI .own) (sI k) (k:Int)) ?_)
  ((conv=>whnf);refine CE (k+1) ω ω ?_)
  rw[GR];exact wB
 obtain rfl:k=n:=ω
 repeat'(first|refine gE ?_|(conv=>whnf);first|refine CB ?_)
 (conv=>whnf)
 refine CJ (ι:=Nat) (λj=>[(0,.H .one [I ((hO k s j).2)]),(6,.H .one (aH .own (hO k s j).1)),(8,.H .one [I (((k:Int) - 1 - j))])]) (λj=>(j<=k - 1/\j<=k)) (λj=>k - j) (0) ?_ ω λj C=>?_
 ·exact wB
 obtain⟨D,l,o⟩:=mZ k d j;by_cases E:j<k - 1
 ·have q:(k:Int) - 1 - j=((k - 1 - j:Nat):Int):=ω
  have r:=qZ (hO k s j).2 (n:=((k - 1 - j:Nat)+1:Int)) ω;have t:=vj (hO k s j).2 ((k - 1 - j:Nat)+1:Int) ⟨l,o⟩ ω;have u:hO k s (j+1)=(xp (hO k s j).1 (k - 1 - j) (JC (hO k s j).2 ((k - 1 - j:Nat)+1:Int)).toNat,yW (hO k s j).2):=rfl;rw[q];generalize hO k s j=p at *;obtain⟨xs,z⟩:=p;simp only at *;generalize k - 1 - j=i at *;have a:=au (xs:=xs) (i:=i) ω;have b:=au (xs:=xs) (i:=(JC z (i+1)).toNat) ω;have c:=LG (xs:=xs) (i:=i) (k:=(JC z (i+1)).toNat) (nth xs (JC z (i+1)).toNat) ω
  repeat'(first|refine gE ?_|(conv=>whnf);first|refine CB ?_|refine C8 (t) ?_|refine CN ω (aa b) ?_|refine CD (aa a) ?_|refine CH rfl (aa a) rfl ?_|refine CH rfl (aa b) rfl ?_|refine CP rfl rfl (aa a) rfl (I1 rfl) rfl ?_|refine CN ω c ?_|refine CP rfl rfl c rfl (I1 rfl) rfl ?_)
  ((conv=>whnf);refine CE (j+1) ω ω ?_)
  rw[u];simp only[aH,MM];exact wB
 obtain rfl:j=k - 1:=ω
 repeat'(first|refine gE ?_|(conv=>whnf);first|refine CB ?_)
 rfl
def DR(b:Int):Nat->Nat
 | 0=>0
 | n+1=>DR b n+(if aZ b (n:Nat)=true then 1 else 0)
theorem B5(b:Int):∀n,DR b n<=n
 | 0=>I3 _
 | n+1=>by have:=B5 b n;grind [DR]
def vE(b:Int)(d:b<=9223372036854775807):zzA 525 false [.val none [I b]] .one [I (DR b 16:Nat)]:=by
 refine fO 15 [] Tryz.func525 rfl ?_
 repeat'(first|refine gP ?_|fail)
 (conv=>whnf)
 refine CJ (ι:=Nat) (λk=>[(0,.H .one [I (b)]),(3,.H .one [I ((DR b k:Nat):Int)]),(4,.H .one [I ((k:Nat):Int)])]) (λk=>k<=16) (λk=>16 - k) (0) ?_ (W0 _) λk g=>?_
 ·exact wB
 have h:=B5 b k;by_cases i:k<16
 ·have a:=iP b (k:Nat) d
  have c:DR b (k+1)=DR b k+(if aZ b (k:Nat)=true then 1 else 0):=rfl;cases e:aZ b (k:Nat)<;>rw[e]at a c
  all_goals
   repeat'(first|refine gE ?_|(conv=>whnf);first|refine C8 (a) ?_)
   ((conv=>whnf);refine CE (k+1) ω ω ?_)
   rw[c];exact wB
 obtain rfl:k=16:=ω
 repeat'(first|refine gE ?_|fail)
 rfl
def Av(h:ac)(s:aA):Bool:=decide (0<DR s.a9 16)&&decide ((aU h s.Q).length=1)
def mb(h:ac):Nat->List aA
 | 0=>[]
 | n+1=>if Av h (nth h.J n)=true then mb h n++[nth h.J n] else mb h n
def nw(h:ac):List aA:=mb h h.J.length
theorem wI(h:ac):∀n,(mb h n).length<=n
 | 0=>I3 _
 | n+1=>by have:=wI h n;grind [mb]
theorem mR(h:ac):∀{n:Nat},n<=h.J.length->∀s∈mb h n,s∈h.J
 | 0,_,s,a=>by cases a
 | n+1,b,s,a=>by
  simp only[mb]at a;split at a
  ·rcases C3.1 a with a|a
   ·exact mR h ω s a
   grind [ar]
  exact mR h ω s a
theorem xk(h:ac)(g:xF h)(o:h.J.length<=1000)(p:eX h<=1000)(i:∀s∈h.J,s.a9<=9223372036854775807):zzA 427 false [.val (some 24) (ac.enc .V h)] .one (cA .own (nw h)):=by
 refine fO 42 [(5,16,[13,14,15,16,17,18,19,20,21,22,23,24,25,26,27,28])] Tryz.func427 rfl ?_ (.inr (Ho _))
 repeat'(first|refine gP ?_|fail)
 (conv=>whnf)
 refine CJ (ι:=Nat) (λk=>[(1,.H .box (ac.enc .V h)),(3,.H .one (cA .own (mb h k))),(4,.H .one [I ((k:Nat):Int)])]) (λk=>k<=h.J.length) (λk=>h.J.length - k) (0) ?_ (W0 _) λk q=>?_
 ·exact wB
 have j:=wI h k;by_cases e:k<h.J.length
 ·have c:=au e
  have d:=vE (nth h.J k).a9 (i _ (ar e));have b:=ik h (nth h.J k).Q g;have l:=gg h (nth h.J k).Q;have n:=B5 (nth h.J k).a9 16;have a:mb h (k+1)=if Av h (nth h.J k)=true then mb h k++[nth h.J k] else mb h k:=rfl
  by_cases r:0<DR (nth h.J k).a9 16
  ·by_cases t:(aU h (nth h.J k).Q).length=1
   ·rw[CC (by grind [Av])]at a
    repeat'(first|refine gB ?_|(conv=>whnf);first|refine CD (aa c) ?_|refine C8 (d) ?_|refine CF (b) ⟨⟨rfl,rfl⟩,⟨rfl,rfl⟩,trivial⟩ ?_|refine C8 (b) ?_|refine CB ?_|refine Ap.sm (aV λ_=>rfl) rfl (by simp;omega) (by decide) (iT (aA.enc .own) (mb h k) (nth h.J k)) ?_)
    ((conv=>whnf);refine CE (k+1) ω ω ?_)
    rw[a];exact wB
   rw[C9 (by grind [Av])]at a
   repeat'(first|refine gB ?_|(conv=>whnf);first|refine CD (aa c) ?_|refine C8 (d) ?_|refine C8 (b) ?_|refine CB ?_)
   ((conv=>whnf);refine CE (k+1) ω ω ?_)
   rw[a];exact wB
  rw[C9 (by grind [Av])]at a
  repeat'(first|refine gE ?_|(conv=>whnf);first|refine CD (aa c) ?_|refine C8 (d) ?_|refine C8 (b) ?_|refine CB ?_)
  ((conv=>whnf);refine CE (k+1) ω ω ?_)
  rw[a];exact wB
 obtain rfl:k=h.J.length:=ω
 repeat'(first|refine gE ?_|fail)
 rfl
def u6(s:aA)(c:Nat):Bool:=aZ s.a9 (((c:Nat):Int) / csz s.d)
def tK(s:aA)(n:Nat):List Int:=((List.range n).filter (u6 s)).map λ(i:Nat)=>(i:Int)
variable{s:aA}
def PY(h:u6 s n=true):tK s (n+1)=tK s n++[(n:Int)]:=by
 unfold tK;rw[List.range_succ,List.filter_append,X5];simp[h]
def Rj(h:u6 s n=false):tK s (n+1)=tK s n:=by
 unfold tK;rw[List.range_succ,List.filter_append,X5];simp[h]
def sQ(s:aA)(n:Nat):(tK s n).length<=n:=by
 unfold tK;rw[C1];exact Z4 (List.length_filter_le _ _) (by simp)
def QB(a:bh s=true){c:Nat}(d:c<16):0<=((c:Nat):Int) / csz s.d/\((c:Nat):Int) / csz s.d<=15:=by
 have f:=aI a;have b:csz s.d=1\/csz s.d=2\/csz s.d=4\/csz s.d=8:=bZ ω;rcases b with e|e|e|e<;>rw[e]<;>omega
def p7(s:aA)(a:bh s=true):zzA 527 false [.val (some 3) (aA.enc .V s)] .one (aH .own (tK s 16)):=by
 have b:=gx s;rw[a]at b;have g:=aI a;have n:=bZ g.2.2;refine fO 27 [(5,7,[14,15,16,17,18,19,20])] Tryz.func527 rfl ?_ (.inr (bP _))
 repeat'(first|refine gP ?_|fail)
 (conv=>whnf)
 refine CJ (ι:=Nat) (λi=>[(1,.H .box (aA.enc .V s)),(3,.H .one (aH .own (tK s i))),(4,.H .one [I ((i:Nat):Int)])]) (λi=>i<=16) (λi=>16 - i) (0) ?_ (W0 _) λi o=>?_
 ·exact wB
 have h:=sQ s i;by_cases j:i<16
 ·have k:=QB a j
  have d:IntKind.i64.wrap (((i:Nat):Int).tdiv (csz s.d))=((i:Nat):Int) / csz s.d:=by rw[pu ω];exact fQ ω ω
  have c:=iP s.a9 (((i:Nat):Int) / csz s.d) (fN a).2;cases e:u6 s i
  ·rw[show aZ s.a9 (((i:Nat):Int) / csz s.d)=false from e]at c
   repeat'(first|refine gE ?_|(conv=>whnf);first|refine C8 (b) ?_|refine C8 (ef _) ?_|refine CO ω ?_|refine CM d ?_|refine C8 (c) ?_)
   ((conv=>whnf);refine CE (i+1) ω ω ?_)
   rw[Rj e];exact wB
  rw[show aZ s.a9 (((i:Nat):Int) / csz s.d)=true from e]at c
  repeat'(first|refine gE ?_|(conv=>whnf);first|refine C8 (b) ?_|refine C8 (ef _) ?_|refine CO ω ?_|refine CM d ?_|refine C8 (c) ?_|refine CU cI (λr l=>by rw[O1.1 l];rfl) (by simp[bi,eg]) (by simp;omega) (by simp only[C1];exact yJ (by simp;omega) (by decide)) rfl ?_)
  ((conv=>whnf);refine CE (i+1) ω ω ?_)
  rw[PY e]
  (repeat'(first|exact trivial|rfl|exact CL rfl (CL (X0 (C.s dQ.own) (by simp[rI])) trivial)|refine CL ?_ ?_))
 obtain rfl:i=16:=ω
 repeat'(first|refine gE ?_|(conv=>whnf);first|refine C8 (b) ?_)
 rfl
structure gn where
 A:Int
 B:Int
deriving DecidableEq,Inhabited
def gn.enc(_:dQ)(x:gn):List C:=[I x.A,I x.B]
def jF(o:dQ)(x:List gn):List C:=[.s o (x.map (gn.enc o))]
def H3(x:List gn):hC (jF .own x):=⟨⟨.inl λh=>(by cases h),bj _ _ λ_ _=>⟨trivial,trivial,trivial⟩⟩,trivial⟩
def QC(i:Int)(p:gn):Bool:=decide (p.A=i) || decide (p.B=i)
def dl(a b:aA):cx:=if(tK a 16).length<(tK b 16).length then⟨b.Q,a.Q,tK a 16⟩ else⟨a.Q,b.Q,tK b 16⟩
def zN(a b:aA)(g:meshable a b=true)(h:bh a=true)(i:bh b=true):zzA 429 false [.val (some 3) (aA.enc .V a),.val (some 3) (aA.enc .V b)] (.tup [some 3,none]) (cx.enc .own (dl a b)++[B true]):=by
 have c:=my a b;rw[g]at c;have d:=p7 a h;have e:=p7 b i;have j:=sQ a 16;have k:=sQ b 16;unfold dl;split
 ·refine fO 27 [(3,6,[11,12,13,14,15,16]),(5,6,[20,21,22,23,24,25])] Tryz.func429 rfl ?_ (.inr (aW (cx.enc_fr _) ⟨trivial,trivial⟩))
  repeat'(first|refine gE ?_|(conv=>whnf);first|refine C8 (c) ?_|refine C8 (d) ?_|refine C8 (e) ?_|refine CB ?_)
  rfl
 refine fO 27 [(3,6,[11,12,13,14,15,16]),(5,6,[20,21,22,23,24,25])] Tryz.func429 rfl ?_ (.inr (aW (cx.enc_fr _) ⟨trivial,trivial⟩))
 repeat'(first|refine gE ?_|(conv=>whnf);first|refine C8 (c) ?_|refine C8 (d) ?_|refine C8 (e) ?_|refine CB ?_)
 rfl
def uH(p:cx):cE:=⟨p,0,0⟩
def Eo(p:cx)(c:eM p=true)(a:cx.sml p):zzA 430 false [.val (some 3) (cx.enc .V p)] (.tup [some 5,none]) (cE.enc .own (uH p)++[B true]):=by
 have b:=vd p a;rw[c]at b;have d:=sG (uH p) a;refine fO 11 [] Tryz.func430 rfl ?_ (.inr (aW (cE.enc_fr _) ⟨trivial,trivial⟩))
 repeat'(first|refine gP ?_|(conv=>whnf);first|refine C8 (b) ?_|refine C8 (d) ?_)
 rfl
def tI(n:Nat){s:Int}(c:0<=s/\s<=1073741823):∀{j:Nat},j<=n - 1->∀x∈(hO n s j).1,0<=x/\x<n
 | 0,_,x,a=>by
  simp only[hO,sI,O4,List.mem_range]at a;obtain⟨i,d,rfl⟩:=a;omega
 | j+1,e,x,a=>by
  have f:=(mZ n c j).1;have b:=tI n c (j:=j) ω;have g:=qZ (hO n s j).2 (n:=((n - 1 - j:Nat)+1:Int)) ω;simp only[hO,xp]at a;rcases V6 a with a|rfl
  ·rcases V6 a with a|rfl
   ·exact b x a
   exact b _ (ar ω)
  exact b _ (ar ω)
def tkn(out:List gn)(a:Int):Bool:=out.any (QC a)
def stp(a:List aA)(p:List Int)(t i:Nat)(out:List gn):List gn:=
 if tkn out (nth p i)=false/\tkn out (nth p (p.length / 2+(i+t) % (p.length - p.length / 2)))=false/\meshable (nth a (nth p i).toNat) (nth a (nth p (p.length / 2+(i+t) % (p.length - p.length / 2))).toNat)=true then out++[⟨nth p i,nth p (p.length / 2+(i+t) % (p.length - p.length / 2))⟩] else out
def vC(a:List aA)(p:List Int)(t:Nat)(out:List gn):Nat->List gn
 | 0=>out
 | i+1=>stp a p t i (vC a p t out i)
def rj(a:List aA)(p:List Int):Nat->List gn
 | 0=>[]
 | t+1=>vC a p t (rj a p t) (p.length / 2)
def QL(a:List aA)(p:List Int)(t i:Nat)(out:List gn):(stp a p t i out).length<=out.length+1:=by unfold stp;split<;>simp
def yk(a:List aA)(p:List Int)(t:Nat)(out:List gn):∀i,(vC a p t out i).length<=out.length+i
 | 0=>I3 _
 | i+1=>by have b:=yk a p t out i;have c:=QL a p t i (vC a p t out i);simp only[vC];omega
def EE(a:List aA)(p:List Int):∀t,(rj a p t).length<=t*(p.length / 2)
 | 0=>W0 _
 | t+1=>by have b:=EE a p t;have c:=yk a p t (rj a p t) (p.length / 2);simp only[rj];rw[Nat.add_mul];omega
def mc(a:List aA)(s:Int):List gn:=rj a (shuf a.length s).1 3
def o6(n:Nat)(out:List gn):List Bool:=(List.range n).map λ(i:Nat)=>tkn out (i:Nat)
variable{a:Int}{out:List gn}
def JT(h:0<=a/\a<n):(o6 n out)[a.toNat]? = some (tkn out a):=by
 unfold o6;rw[O3,Y6 ω];show some (tkn out ((a.toNat:Nat):Int))=_;rw[Int.toNat_of_nonneg h.1]
variable{b:Int}
def M3(f:0<=a/\a<n)(g:0<=b/\b<n):o6 n (out++[⟨a,b⟩])=((o6 n out).set a.toNat true).set b.toNat true:=by
 unfold o6;apply List.ext_getElem?;intro i;by_cases c:i<n
 ·rw[O3,Y6 c]
  by_cases d:b.toNat=i
  ·subst d
   rw[X3 (by simp;omega)];simp only[I5,tkn,List.any_append,List.any_cons,List.any_nil,QC];rw[Int.toNat_of_nonneg g.1];simp
  rw[List.getElem?_set_ne d];by_cases e:a.toNat=i
  ·subst e
   rw[X3 (by simp;omega)];simp only[I5,tkn,List.any_append,List.any_cons,List.any_nil,QC];rw[Int.toNat_of_nonneg f.1];simp
  rw[List.getElem?_set_ne e,O3,Y6 c];simp only[I5,tkn,List.any_append,List.any_cons,List.any_nil,QC];rw[U0 ω,U0 ω];simp
 rw[W2 (by simp;omega),W2 (by simp;omega)]
def PI(n:Nat):(o6 n []).map (rB .own)=List.replicate n [B false]:=by
 unfold o6;rw[List.map_map];apply List.ext_getElem?;intro i;rw[O3];by_cases a:i<n
 ·rw[Y6 a,List.getElem?_replicate];simp[a];rfl
 rw[W2 (by simp;omega),List.getElem?_replicate];simp[a]
def LE{xs:List Bool}{k:Nat}(v:Bool)(a:k<xs.length):((xs.map (rB .own)).set i (rB .own v))[k]? = some (rB .own (nth (xs.set i v) k)):=by
 rw[<-I6];exact aa (au (by rw[U1];exact a))
def vN(c:List aA)(s:Int)(u:0<=s/\s<=1073741823)(V:c.length<=16):zzA 428 false [.val none (cA .V c),.val none [I s],.val none [I 3]] (.tup [none,none]) (jF .own (mc c s)++[I (shuf c.length s).2]):=by
 have J:=aJ s 0 1073741823;rw[O0 u]at J;have K:=aJ 3 0 16;rw[O0 ω]at K;have Q:=zv c.length s u ω;have D:=(mZ c.length u (c.length - 1)).1;have e:=tI c.length u (I3 _);unfold mc;change (shuf c.length s).1.length=_ at D;change ∀x∈(shuf c.length s).1,_ at e
 have E:hC (jF .own (rj c (shuf c.length s).1 3)++[I (shuf c.length s).2]):=aW (H3 _) ⟨trivial,trivial⟩;generalize shuf c.length s=q at *;obtain⟨p,z⟩:=q;simp only at *;have F:((p.length:Nat):Int).tdiv 2=((p.length / 2:Nat):Int):=by rw[Int.tdiv_eq_ediv_of_nonneg ω];omega
 have g:C.s dQ.own ((o6 c.length []).map (rB .own))=C.s dQ.own (List.replicate c.length [B false]):=by rw[PI]
 have h:∀i:Nat,i<p.length->0<=nth p i/\nth p i<c.length:=λi R=>e _ (ar R)
 refine fO 110 [(15,21,[73,74,75,76,77,78,79,80,81,82,83,84,85,86,87,88,89,90,91,92,93])] Tryz.func428 rfl ?_ (.inr E)
 repeat'(first|refine gE ?_|(conv=>whnf);first|with_reducible refine CM ((X0 _ F).trans (fQ ω ω)) ?_|refine C8 (J) ?_|refine C8 (K) ?_|refine C8 (Q) ?_|refine CO (by decide) ?_|refine Mk.mk c.length rfl rfl ω (yJ ω (by decide)) rfl ?_)
 (conv=>whnf)
 refine CJ (ι:=Nat) (λt=>[(0,.H .one (cA .V c)),(2,.H .one [I (3)]),(8,.H .one (jF .own (rj c p t))),(9,.H .one (aH .own p)),(10,.H .one [I (z)]),(11,.H .one [I (((p.length / 2):Nat):Int)]),(12,.H .one (wS .own (o6 c.length (rj c p t)))),(13,.H .one [I ((t:Nat):Int)])]) (λt=>t<=3) (λt=>3 - t) (0) ?_ (W0 _) λt S=>?_
 ·repeat'(first|exact trivial|rfl |exact nY g|refine CL ?_ ?_|(exact AS (by first|omega|(simp only;omega)|(simp;omega))))
 have W:=EE c p t;have ol2:t*(p.length / 2)<=3*8:=Nat.mul_le_mul S ω;by_cases X:t<3
 ·repeat'(first|refine gE ?_|fail)
  (conv=>whnf)
  refine CJ (ι:=Nat) (λj=>[(0,.H .one (cA .V c)),(2,.H .one [I (3)]),(8,.H .one (jF .own (vC c p t (rj c p t) j))),(9,.H .one (aH .own p)),(10,.H .one [I (z)]),(11,.H .one [I (((p.length / 2):Nat):Int)]),(12,.H .one (wS .own (o6 c.length (vC c p t (rj c p t) j)))),(13,.H .one [I ((t:Nat):Int)]),(14,.H .one [I ((j:Nat):Int)])]) (λj=>j<=p.length / 2) (λj=>p.length / 2 - j) (0) ?_ (W0 _) λj Y=>?_
  ·repeat'(first|exact trivial|rfl |exact nY g|refine CL ?_ ?_|(exact AS (by first|omega|(simp only;omega)|(simp;omega))))
  have Z:=yk c p t (rj c p t) j;by_cases lj:j<p.length / 2
  ·have L:(j+t) % (p.length - p.length / 2)<p.length - p.length / 2:=Nat.mod_lt _ ω
   have G:((j:Int)+t).tmod ((p.length:Int) - (p.length / 2:Nat))=(((j+t) % (p.length - p.length / 2):Nat):Int):=by
    rw[fh ω,Int.natCast_emod];congr 1;omega
   have d:vC c p t (rj c p t) (j+1)=stp c p t j (vC c p t (rj c p t) j):=rfl;unfold stp at d;generalize vC c p t (rj c p t) j=out at *;have l:p.length / 2+(j+t) % (p.length - p.length / 2)<p.length:=ω
   generalize hk:(j+t) % (p.length - p.length / 2)=k at *;have n:=au (xs:=p) (i:=j) ω;have o:=au (xs:=p) (i:=p.length / 2+k) l;have w:=h j ω;have r:=h _ l;generalize nth p j=a at *;generalize nth p (p.length / 2+k)=b at *;have y:=JT (out:=out) w;have H:=JT (out:=out) r;have T:=au (xs:=c) (i:=a.toNat) ω;have U:=au (xs:=c) (i:=b.toNat) ω;have M:=my (nth c a.toNat) (nth c b.toNat);have ub2:=LE (xs:=o6 c.length out) (i:=a.toNat) (k:=b.toNat) true (by simp[o6];omega);cases N:tkn out a<;>cases O:tkn out b<;>cases P:meshable (nth c a.toNat) (nth c b.toNat)
   all_goals
    rw[N]at y;rw[O]at H;rw[P]at M;rw[N,O,P]at d;simp only[and_true,true_and,if_true,Bool.false_eq_true,Bool.true_eq_false,and_false,false_and,if_false]at d
    repeat'(first|refine gE ?_|(conv=>whnf);first|refine CS G ?_|refine CO ω ?_|refine CD (aa n) ?_|refine CN ω (aa o) ?_|refine CN w.1 (aa y) ?_|refine CN r.1 (aa H) ?_|refine CN w.1 (aa T) ?_|refine CN r.1 (aa U) ?_|refine CH rfl (aa n) rfl ?_|refine CH rfl (aa o) rfl ?_|refine CH rfl (aa y) rfl ?_|refine CH rfl (aa H) rfl ?_|refine C8 (M) ?_|refine CB ?_|refine CP rfl rfl (aa y) rfl (I1 rfl) rfl ?_|refine CN r.1 ub2 ?_|refine CP rfl rfl ub2 rfl (I1 rfl) rfl ?_|refine Ap.sm (aV λ_=>rfl) rfl (by simp;omega) (by decide) (iT (gn.enc .own) out ⟨a,b⟩) ?_)
    ((conv=>whnf);refine CE (j+1) ω ω ?_)
    rw[d]
    first|(rw[M3 w r];simp only[wS,I6])|skip
    exact wB
  obtain rfl:j=p.length / 2:=ω
  repeat'(first|refine gE ?_|fail)
  ((conv=>whnf);refine CE (t+1) ω ω ?_;(exact wB))
 obtain rfl:t=3:=ω
 repeat'(first|refine gE ?_|fail)
 rfl
def GU(x:List gn):dJ (jF .own x)=jF .V x:=by simp[dJ,jF,gn.enc,<-bX,Y5]
variable{rcs:List C}{sh:Bool}
def ay.fzR{A:List RA}{k:Kd}(h:ay P f sh A k rcs):ay P f sh A k (dJ rcs):=by
 obtain⟨c,d⟩:=h;refine⟨c,λw S g i j=>(d w S g i j).mono λe w1 l=>?_⟩;obtain⟨v,n,p,X,q,r,t,B,u,y⟩:=l;refine⟨v,n,p,NO,λb o=>q b o\/X b o,λ_ _ h=>h.elim,λb o a=>?_,λ_ _ h=>h.elim,by rw[bX,C1];exact u,y.freeze⟩;rcases a with a|a
 ·exact t b o a
 exact .inr (r b o a)
structure PL(ls:List aA)(q:gn):Prop where
 a:0<=q.A/\q.A<ls.length
 b:0<=q.B/\q.B<ls.length
 m:meshable (nth ls q.A.toNat) (nth ls q.B.toNat)=true
def J3{b:List aA}{p:List Int}(c:∀x∈p,0<=x/\x<b.length)(t:Nat){out:List gn}(d:∀q∈out,PL b q):∀{i:Nat},i<=p.length / 2->∀q∈vC b p t out i,PL b q
 | 0,_=>d
 | i+1,h=>λq a=>by
  have e:=J3 c t d (i:=i) ω;simp only[vC,stp]at a;split at a
  ·rename_i g
   rcases C3.1 a with a|a
   ·exact e q a
   obtain rfl:=O1.1 a;have f:(i+t) % (p.length - p.length / 2)<p.length - p.length / 2:=Nat.mod_lt _ ω;exact⟨c _ (ar ω),c _ (ar ω),g.2.2⟩
  exact e q a
def Jk{a:List aA}{p:List Int}(b:∀x∈p,0<=x/\x<a.length):∀t,∀q∈rj a p t,PL a q
 | 0=>λq c=>by cases c
 | t+1=>J3 b t (Jk b t) (I3 _)
def oh(a:List aA){s:Int}(b:0<=s/\s<=1073741823):∀q∈mc a s,PL a q:=Jk (tI a.length b (I3 _)) 3
def Qc(s:aA)(n:Nat):(tK s n).Pairwise (· < ·):=by
 unfold tK;rw[List.pairwise_map];exact(List.pairwise_lt_range.sublist List.filter_sublist).imp λh=>ω
def Ry : ∀z∈tK s n,0<=z/\z<n:=λz a=>by
 unfold tK at a;simp only[O4,U4,List.mem_range]at a;obtain⟨c,⟨b,-⟩,rfl⟩:=a;omega
def xW(s:aA):dd (tK s 16).length (m6 (tK s 16))=true:=by
 refine cQ.2 λj a=>?_
 have c:=Ry _ (ar a);unfold m6;refine O0 ⟨ω,ω,?_⟩;by_cases e:j=0
 ·exact .inl e
 refine .inr ?_;have b:=List.pairwise_iff_getElem.1 (Qc s 16) (j - 1) j ω a ω;rw[show nth (tK s 16) (j - 1)=(tK s 16)[j - 1] from bn (O2 ω),show nth (tK s 16) j=(tK s 16)[j] from bn (O2 a)];exact b
def uw{a b:aA}(c:meshable a b=true):eM (dl a b)=true/\bh a=true/\bh b=true:=by
 unfold meshable at c;simp only[I0,C0]at c;have d:=aI c.1.1;have e:=aI c.1.2;refine⟨?_,c.1⟩;unfold dl eM;split
 ·simp only[I0,C0];exact⟨xW a,ω⟩
 simp only[I0,C0];exact⟨xW b,ω⟩
def G0(a b:aA):cx.sml (dl a b):=by
 have c:=sQ a 16;have d:=sQ b 16;unfold dl cx.sml rT;split<;>simp only<;>omega
def bG(h:ac):List aA:=(nw h).take 16
def started(h:ac):ac × Bool:=match mc (bG h) h.b3 with
 | []=>({h with b3:=(shuf (bG h).length h.b3).2},false)
 | q::_=>({h with b3:=(shuf (bG h).length h.b3).2,u:=true,Y:=uH (dl (nth (bG h) q.A.toNat) (nth (bG h) q.B.toNat))},true)
variable{E:List Int}
def LS(a:bc h E):h.J.length<=32/\eX h<=32/\xF h/\∀s∈h.J,s.a9<=9223372036854775807:=by
 have b:=a.lens;refine⟨b.spans,b.ents,?_,λs c=>by have:=dK (a.L.sok s c);omega⟩;have:=(bE a.ker).1.2;exact this
def H0(h:ac):(bG h).length<=16:=by unfold bG;rw[V1];omega
def RT(x:List gn)(z:Int):dJ (jF .own x++[I z])=jF .V x++[I z]:=by
 have h:=GU x;rw[bX]at h |-;rw[X5,h];simp[fz]
def Rd(h:ac):(bG h).map (aA.enc .V)=((nw h).map (aA.enc .V)).take 16:=C4
def GA(p:cx)(b:eM p=true)(c:cx.sml p):zzA 430 false [.val (some 3) (cx.enc .V p)] (.tup [some 5,none]) (x7 (uH p)++[B true]):=by
 have h:=(Eo p b c).fzR;have e:dJ (cE.enc .own (uH p)++[B true])=x7 (uH p)++[B true]:=by
  have a:=cE.enc_fz (uH p);rw[bX]at a |-;rw[X5,a];simp[fz,cE.enc,x7]
 rwa [e]at h
def zG(h:ac)(w:bc h []):zzB 279 false [.ptr (bB h)] [.ptr (bB (started h).1)] .one [B (started h).2]:=by
 obtain⟨w1,Q,H,J⟩:=LS w;have a:=w.nums;unfold cu at a;rw[C0]at a;have e:=(xk h H ω ω J).fzR;rw[wM]at e;have o:=H0 h;have b:=(vN (bG h) h.b3 ⟨a.1,a.2.1⟩ o).fzR;rw[RT]at b;have g:=oh (bG h) ⟨a.1,a.2.1⟩;have K:=wI h h.J.length;have y:(nw h).length<=32:=by unfold nw;omega
 have j:=Rd h;unfold started;cases C:mc (bG h) h.b3 with
 | nil=>
  rw[C]at b;by_cases L:16<(nw h).length
  ·refine fM 62 [] [(8,275,[34,35,36,37,38,39,40,41,42,43,44,45,46,47,48,33,49,50,6,0,1,2,3,4,5,6,7,8,9,10,11,12,13,14,15,16,17,18,19,1017,20])] [(0,0)] Tryz.func279 rfl (λu q=>?_)
   repeat'(first|refine gE ?_|(conv=>whnf);first|refine CB ?_|refine CF (e) ⟨⟨rfl,bI h⟩,trivial⟩ ?_|refine C8 (b) ?_|refine CY 16 rfl (by rw[C1];omega) (aV λ_=>rfl) j ?_)
   refine CG rfl rfl ?_;exact wC
  have k:bG h=nw h:=by unfold bG;exact I7 ω
  rw[k]at b;refine fM 62 [] [(8,275,[34,35,36,37,38,39,40,41,42,43,44,45,46,47,48,33,49,50,6,0,1,2,3,4,5,6,7,8,9,10,11,12,13,14,15,16,17,18,19,1017,20])] [(0,0)] Tryz.func279 rfl (λu q=>?_);rw[k]
  repeat'(first|refine gE ?_|(conv=>whnf);first|refine CB ?_|refine CF (e) ⟨⟨rfl,bI h⟩,trivial⟩ ?_|refine C8 (b) ?_)
  refine CG rfl rfl ?_;exact wC
 | cons q M=>
  rw[C]at b g;obtain⟨E,F,G⟩:=g q (Z1 ..);obtain⟨N,O,P⟩:=uw G;have p:=zN _ _ G O P;have t:=GA _ N (G0 _ _);have c:=au (xs:=bG h) (i:=q.A.toNat) ω;have d:=au (xs:=bG h) (i:=q.B.toNat) ω;have l:(q::M)[0]? = some q:=rfl;by_cases L:16<(nw h).length
  ·refine fM 62 [] [(8,275,[34,35,36,37,38,39,40,41,42,43,44,45,46,47,48,33,49,50,6,0,1,2,3,4,5,6,7,8,9,10,11,12,13,14,15,16,17,18,19,1017,20])] [(0,0)] Tryz.func279 rfl (λu r=>?_)
   repeat'(first|refine gE ?_|(conv=>whnf);first|with_reducible refine Bf.D (λn=>absurd n (by simp)) (λn=>?_)|refine CB ?_|refine CF (e) ⟨⟨rfl,bI h⟩,trivial⟩ ?_|refine C8 (b) ?_|refine CY 16 rfl (by rw[C1];omega) (aV λ_=>rfl) j ?_|refine CN (by decide) (aa l) ?_|refine CN E.1 (aa c) ?_|refine CN F.1 (aa d) ?_|refine C8 (p) ?_|refine CF (t) ⟨⟨rfl,cx.enc_fz _⟩,trivial⟩ ?_|refine CB ?_)
   refine CG rfl rfl ?_;exact wC
  have k:bG h=nw h:=by unfold bG;exact I7 ω
  rw[k]at b p t c d;refine fM 62 [] [(8,275,[34,35,36,37,38,39,40,41,42,43,44,45,46,47,48,33,49,50,6,0,1,2,3,4,5,6,7,8,9,10,11,12,13,14,15,16,17,18,19,1017,20])] [(0,0)] Tryz.func279 rfl (λu r=>?_);rw[k]
  repeat'(first|refine gE ?_|(conv=>whnf);first|with_reducible refine Bf.D (λn=>absurd n (by simp)) (λn=>?_)|refine CB ?_|refine CF (e) ⟨⟨rfl,bI h⟩,trivial⟩ ?_|refine C8 (b) ?_|refine CN (by decide) (aa l) ?_|refine CN E.1 (aa c) ?_|refine CN F.1 (aa d) ?_|refine C8 (p) ?_|refine CF (t) ⟨⟨rfl,cx.enc_fz _⟩,trivial⟩ ?_|refine CB ?_)
  refine CG rfl rfl ?_;exact wC
def Hq(xs:List Int)(x:Int)(h:xs.length<=4611686018427387904):zzA 435 false [.val none (aH .V xs),.val none [I x]] .one [I (cW (λy=>decide (y=x)) xs)]:=by
 refine fO 19 [] Tryz.func435 rfl ?_
 repeat'(first|refine gP ?_|(conv=>whnf);first|refine CB ?_)
 (conv=>whnf)
 refine CJ (ι:=Nat) (λi=>[(0,.H .one (aH .V xs)),(1,.H .one [I (x)]),(7,.H .one [I (xs.length)]),(8,.H .one [I ((i:Nat):Int)])]) (λi=>i<=xs.length/\∀(j:Nat)(z:Int),j<i->xs[j]? = some z->decide (z=x)=false) (λi=>xs.length - i) (0) ?_ (⟨W0 _,λj z d _=>absurd d (Nat.not_lt_zero _)⟩) λi c=>?_
 ·exact wB
 obtain⟨c,b⟩:=c;by_cases g:i<xs.length
 ·have a:=au g
  by_cases e:nth xs i=x
  ·repeat'(first|refine gE ?_|(conv=>whnf);first|with_reducible refine CD (aa a) ?_|refine CB ?_|refine Bf.t (by simp[e]) ?_)
   exact X0 (λz=>[I z]) (dN a (O0 e) b).symm
  repeat'(first|refine gE ?_|(conv=>whnf);first|with_reducible refine CD (aa a) ?_|refine CB ?_|refine Bf.f (by simp[Ne.symm e]) ?_)
  ((conv=>whnf);refine CE (i+1) ⟨ω,dX a (U0 e) b⟩ ω ?_;(exact wB))
 repeat'(first|refine gE ?_|(conv=>whnf);first|refine CB ?_)
 exact X0 (λz=>[I z]) (gc ω b).symm
def qT(xs:List Int)(x:Int)(a:xs.length<=4611686018427387904):zzA 287 false [.val none (aH .V xs),.val none [I x]] .one [B (decide (x∈xs))]:=by
 refine fO 9 [] Tryz.func287 rfl ?_
 repeat'(first|refine gP ?_|(conv=>whnf);first|refine CB ?_|refine C8 (Hq xs x a) ?_)
 exact X0 (λz=>[B z]) ((by rw[mK];rw[Y4];simp))
def cg(k:am):am:={k with Calls:=k.Calls+1}
def refd(k:am):Bool:=decide (k.Calls∈k.a0)
def BN(k:am)(a:am.sml k)(d:0<=k.Calls/\k.Calls<=100000):zzA 459 false [.val (some 5) (am.enc .V k)] (.tup [some 5,none]) (am.enc .own (cg k)++[B (!refd k)]):=by
 have c:=ko k a;have g:k.a0.length<=1048576:=a.2;have b:=qT k.a0 k.Calls ω;unfold refd;cases e:decide (k.Calls∈k.a0)<;>rw[e]at b
 all_goals
  refine fO 18 [(3,263,[11,12,13,14,15,16,17,0,1,2,3,4,5,6,7,1006,8])] Tryz.func459 rfl ?_ (.inr (aW (Cf _) ⟨trivial,trivial⟩))
  repeat'(first|refine gP ?_|(conv=>whnf);first|refine CB ?_|refine C8 (c) ?_|refine C8 (b) ?_|refine CB ?_)
  rfl
def jf(k:am)(p:Int)(m:Int):am:={k with F:=⟨k.F.W,⟨k.F.R.K.set p.toNat {nth k.F.R.K p.toNat with e:=m}⟩⟩}
def jI(k:am)(p m:Int):am × Bool:=if refd k=true then(cg k,false) else(jf (cg k) p m,true)
def L1(k:am)(p m:Int):am.enc .own (jf k p m)=(am.enc .own k).set 2 (.s .own ((k.F.R.K.map (bk.enc .own)).set p.toNat (bk.enc .own {nth k.F.R.K p.toNat with e:=m}))):=by
 simp[am.enc,jf,I6]
variable{k:am}
def row16(a:aF k=true)(b:f<k.F.W.T.length):(nth k.F.W.T f).length=16:=by
 have:=(bf.1 (aG.1 a).2.1).2.2.2 f b;unfold ic at this;simp only[I0,C0]at this;omega
def setCell(k:am)(f:Nat)(c v:Int):am:={k with F:=⟨⟨k.F.W.T.set f ((nth k.F.W.T f).set c.toNat v),k.F.W.a5⟩,k.F.R⟩}
def EM(k:am)(f:Nat)(c v:Int):am.enc .own (setCell k f c v)=(am.enc .own k).set 0 (.s .own ((k.F.W.T.map (aH .own)).set f [.s .own (((nth k.F.W.T f).map (rI .own)).set c.toNat [I v])])):=by
 simp[am.enc,setCell,I6,aH,rI]
def bL(k:am)(p:Int):Nat:=(af k.F.R p).o.toNat
def sZ(k:am)(a b c:Int):am:=setCell k (bL k b) c (nth (nth k.F.W.T (bL k a)) c.toNat)
def QU(k:am)(a b c:Int):Nat->am
 | 0=>k
 | _+1=>sZ k a b c
def vL(k:am)(p:Nat)(e:bk):am:={k with F:=⟨k.F.W,⟨k.F.R.K.set p e⟩⟩}
def N2(k:am)(p:Nat)(e:bk):am.enc .own (vL k p e)=(am.enc .own k).set 2 (.s .own ((k.F.R.K.map (bk.enc .own)).set p (bk.enc .own e))):=by
 simp[am.enc,vL,I6]
def NL(p:Nat)(e:bk)(h:aM.sml k.F.R):aM.sml (vL k p e).F.R:=by
 refine⟨?_,λx _=>trivial⟩;show(k.F.R.K.set p e).length<=_;rw[U1];exact h.1
def vU(k:am)(p o:Int):am × Bool:=if refd k=true then(cg k,false) else(fX (vL (cg k) p.toNat ⟨2,(nth k.F.R.K o.toNat).o⟩) (nth k.F.R.K p.toNat).o,true)
def iW(m:aY)(a v:Int):aY × Int:=
 if(af m.R (a / 16)).e=0 then(m,1) else if(af m.R (a / 16)).e=1 then(m,2) else
 (⟨⟨m.W.T.set (af m.R (a / 16)).o.toNat ((nth m.W.T (af m.R (a / 16)).o.toNat).set (a % 16).toNat v),m.W.a5⟩,m.R⟩,0)
def G7(m:aY)(f:Nat)(c v:Int):aY.enc .own ⟨⟨m.W.T.set f ((nth m.W.T f).set c.toNat v),m.W.a5⟩,m.R⟩ = (aY.enc .own m).set 0 (.s .own ((m.W.T.map (aH .own)).set f [.s .own (((nth m.W.T f).map (rI .own)).set c.toNat [I v])])):=by
 simp[aY.enc,I6,aH,rI]
def jmay(k:am)(j:cE):Bool:=(aF k&&decide (k.Calls≠100000))&&(jL j&&decide ((af k.F.R j.X.a3).e≠0/\(af k.F.R j.X.a1).e≠0/\(af k.F.R j.X.a3).o≠(af k.F.R j.X.a1).o))
def jstep(k:am)(j:cE):am × cE:=
 if j.b0=0 then((jI k j.X.a1 1).1,{j with b0:=if(jI k j.X.a1 1).2=true then 1 else 5})
 else if j.b0=1 then(if j.b=j.X.T.length then(k,{j with b0:=2}) else(sZ k j.X.a1 j.X.a3 (nth j.X.T j.b.toNat),{j with b:=j.b+1}))
 else if j.b0=2 then((vU k j.X.a1 j.X.a3).1,{j with b0:=if(vU k j.X.a1 j.X.a3).2=true then 4 else 3})
 else if j.b0=3 then(if 0<j.b then({k with F:=(iW k.F (j.X.a3*16+nth j.X.T (j.b - 1).toNat) 0).1},{j with b:=j.b - 1}) else((jI k j.X.a1 2).1,{j with b0:=if(jI k j.X.a1 2).2=true then 5 else 3}))
 else(k,j)
def Nk{f:Int}(h1:∀j,j<k.a0.length->0<=nth k.a0 j)(d:dt k.F.W=true)(g:gq k.F.R k.F.W.a5.length=true)(h:∀j:Nat,j<k.F.W.a5.length->(j:Int)≠f->nth k.F.W.a5 j=decide (0<(pagesOn k.F.R (j:Int)).length))(t:0<=f/\f<k.F.W.a5.length)(l:nth k.F.W.a5 f.toNat=true)(i:0<=k.Calls/\k.Calls<=100000/\k.a0.length<=40):aF (fX k f)=true:=by
 obtain⟨n,o,p,q⟩:=bf.1 d;unfold fX;split
 ·rename_i c
  rw[aG];simp only[U1];refine⟨h1,?_,g,λj b=>?_,i⟩
  ·rw[bf]
   simp only[U1,bF];refine⟨n,o,p,λj b=>?_⟩;by_cases a:f.toNat=j
   ·rw[CC ⟨a,b⟩,CC ⟨a,ω⟩];decide
   rw[C9 (λe=>a e.1),C9 (λe=>a e.1)];exact q j b
  rw[bF];by_cases a:f.toNat=j
  ·rw[CC ⟨a,b⟩]
   have:(j:Int)=f:=ω
   rw[this];exact(U0 λr=>absurd c (Nat.ne_of_gt r)).symm
  rw[C9 (λe=>a e.1)];exact h j b ω
 rename_i c;rw[aG];refine⟨h1,d,g,λj b=>?_,i⟩;by_cases a:(j:Int)=f
 ·rw[a,show j=f.toNat by omega,l]
  exact(O0 (Nat.pos_of_ne_zero c)).symm
 exact h j b a
def tEq(t a:aM):Prop:=a.K.length=t.K.length/\∀q:Nat,((nth a.K q).e≠0↔(nth t.K q).e≠0)/\(nth a.K q).o=(nth t.K q).o
def tEq.refl(t:aM):tEq t t:=⟨rfl,λ_=>⟨Iff.rfl,rfl⟩⟩
def tEq.of{t a:aM}(h:a=t):tEq t a:=by rw[h];exact tEq.refl t
def tEq.pagesOn{t a:aM}(h:tEq t a)(f:Int):Ab.pagesOn a f=Ab.pagesOn t f:=by
 unfold Ab.pagesOn jY;rw[h.1]
 congr 1
 refine List.filter_congr λq _=>?_
 obtain⟨b,c⟩:=h.2 q;unfold MC;rw[c];exact decide_eq_decide.2 (and_congr b Iff.rfl)
def Dp(h:aF k=true){a:aM}(c:tEq k.F.R a)(i:∀q,q<a.K.length->0<=(nth a.K q).e/\(nth a.K q).e<=2):aF {k with F:=⟨k.F.W,a⟩} = true:=by
 obtain⟨l,n,o,p,r⟩:=aG.1 h;obtain⟨t,u,w⟩:=bu.1 o;rw[aG];refine⟨l,n,bu.2 ⟨λj b=>?_,?_,?_⟩,λj b=>?_,r⟩
 ·replace b:j<a.K.length:=b
  have e:=t j (by rw[<-c.1];exact b);have d:=i j b;obtain⟨g,y⟩:=c.2 j;show l7 _ (nth a.K j)=true;unfold l7 at e |-;rw[C0]at e |-;rw[y];refine⟨d.1,d.2,λf=>e.2.2.1 (Classical.byContradiction λA=>(g.2 A) f),λf=>e.2.2.2 (g.1 f)⟩
 ·show 1<=a.K.length;rw[c.1];exact u
 ·show a.K.length<=32;rw[c.1];exact w
 show nth k.F.W.a5 j=decide (0<(Ab.pagesOn a (j:Int)).length);rw[c.pagesOn];exact p j b
def mS(h:aF k=true)(f:k.Calls≠100000):aF (cg k)=true:=by
 obtain⟨a,b,c,d,g,i,e⟩:=aG.1 h;rw[aG];exact⟨a,b,c,d,by show 0<=k.Calls+1;omega,by show k.Calls+1<=100000;omega,e⟩
variable{p:Int}
def tP{m:Int}(a:(nth k.F.R.K p.toNat).e≠0)(b:m=1\/m=2):tEq k.F.R (jf k p m).F.R:=by
 refine⟨by simp[jf],λq=>?_⟩;simp only[jf,bF];split
 ·rename_i e
  rw[<-e.1];exact⟨⟨λ_=>a,λ_=>by show m≠0;omega⟩,rfl⟩
 exact⟨Iff.rfl,rfl⟩
def MG(h:aF k=true){m:Int}(d:(nth k.F.R.K p.toNat).e≠0)(a:m=1\/m=2):aF (jf k p m)=true:=by
 refine Dp h (tP d a) λq e=>?_
 obtain⟨i,j,f,l,n⟩:=aG.1 h;obtain⟨g,o,r⟩:=bu.1 f;have c:q<k.F.R.K.length:=by rw[<-(tP d a).1];exact e
 have b:=g q c;unfold l7 at b;rw[C0]at b;simp only[bF];split
 ·show 0<=m/\m<=2;omega
 exact⟨b.1,b.2.1⟩
def EF{m:Int}(h:aF k=true)(c:k.Calls≠100000)(b:(af k.F.R p).e≠0)(a:m=1\/m=2):aF (jI k p m).1=true/\tEq k.F.R (jI k p m).1.F.R:=by
 obtain⟨e,f,d,-⟩:=bW h b;rw[d]at b;unfold jI;split
 ·exact⟨mS h c,tEq.refl _⟩
 exact⟨MG (mS h c) b a,tP (k:=cg k) b a⟩
def g9(h:aF k=true)(b:(af k.F.R p).e≠0):bL k p<k.F.W.T.length/\nth k.F.W.a5 (bL k p)=true/\((bL k p:Nat):Int)=(nth k.F.R.K p.toNat).o:=by
 obtain⟨f,g,a,i,j⟩:=bW h b;obtain⟨l,d,n,e,o⟩:=aG.1 h;obtain⟨q,r,t,u⟩:=bf.1 d;have c:((bL k p:Nat):Int)=(af k.F.R p).o:=by unfold bL;omega
 refine⟨ω,?_,by rw[c,a]⟩;rw[e _ ω,c];refine O0 (dU.2 ⟨p.toNat,ω,?_,?_⟩)
 ·rw[<-a];exact b
 rw[<-a]
def NN(h:aF k=true){a:List Int}(c:a.length=16)(d:∀v∈a,0<=v/\v<=999)(g:nth k.F.W.a5 f=true):aF {k with F:=⟨⟨k.F.W.T.set f a,k.F.W.a5⟩,k.F.R⟩} = true:=by
 obtain⟨i,l,n,o,p⟩:=aG.1 h;obtain⟨q,r,t,u⟩:=bf.1 l;refine aG.2 ⟨i,bf.2 ⟨?_,?_,?_,λj b=>?_⟩,n,o,p⟩
 ·simp only[U1];exact q
 ·simp only[U1];exact r
 ·simp only[U1];exact t
 simp only[U1]at b |-;simp only[bF];split
 ·rename_i e
  obtain⟨rfl,-⟩:=e;unfold ic;simp only[I0,C0,v4];refine⟨c,λv w=>?_⟩;have:=d v w;unfold iG;simp[g,this]
 exact u j b
def tW(h:aF k=true)(b:f<k.F.W.T.length):(nth k.F.W.T f).length=16/\∀v∈nth k.F.W.T f,0<=v/\v<=999:=by
 obtain⟨g,c,i,j,l⟩:=aG.1 h;obtain⟨n,o,p,d⟩:=bf.1 c;have a:=d f b;unfold ic at a;simp only[I0,C0,v4]at a;refine⟨a.1,λv e=>?_⟩;have:=a.2 v e;unfold iG at this;simp only[I0,C0]at this;exact this.1
variable{v:Int}
def rv(h:aF k=true)(b:f<k.F.W.T.length)(d:nth k.F.W.a5 f=true){c:Int}(e:0<=v/\v<=999):aF (setCell k f c v)=true:=by
 obtain⟨g,i⟩:=tW h b;refine NN h (by rw[U1];exact g) (λz a=>?_) d;rcases V6 a with a|rfl
 ·exact i z a
 exact e
def Mo(h:aF k=true){c:Int}(d:(af k.F.R a).e≠0)(e:(af k.F.R b).e≠0)(l:0<=c/\c<=15):aF (sZ k a b c)=true:=by
 obtain⟨f,n,-⟩:=g9 h d;obtain⟨g,i,-⟩:=g9 h e;obtain⟨o,j⟩:=tW h f;exact rv h g i (j _ (ar ω))
variable{o:Int}
def Mb(h:aF k=true)(u:k.Calls≠100000)(i:(af k.F.R p).e≠0)(d:(af k.F.R o).e≠0)(w:p≠o):aF (vU k p o).1=true:=by
 unfold vU;split
 ·exact mS h u
 obtain⟨O,y,A⟩:=g9 h i;obtain⟨P,Q,R⟩:=g9 h d;obtain⟨S,T,B,r,t⟩:=bW h i;obtain⟨U,V,C,D,E⟩:=bW h d;obtain⟨F,G,H,J,W,X,K⟩:=aG.1 h;obtain⟨L,M,N⟩:=bu.1 H;rw[C]at D E d;rw[B]at r t i;have a:∀q,nth (k.F.R.K.set p.toNat ⟨2,(nth k.F.R.K o.toNat).o⟩) q=if p.toNat=q then⟨2,(nth k.F.R.K o.toNat).o⟩ else nth k.F.R.K q:=λq=>by
  rw[bF];by_cases f:p.toNat=q
  ·rw[CC ⟨f,ω⟩,CC f]
  rw[C9 (λe=>f e.1),C9 f]
 refine Nk F G (bu.2 ⟨λj c=>?_,?_,?_⟩) (λj c l=>?_) ⟨r,t⟩ (by rw[<-A];exact y) ⟨by show 0<=k.Calls+1;omega,by show k.Calls+1<=100000;omega,K⟩
 ·simp only[vL,cg,U1]at c |-
  rw[a];split
  ·unfold l7;rw[C0];simp only;omega
  exact L j c
 ·simp only[vL,cg,U1];exact M
 ·simp only[vL,cg,U1];exact N
 replace c:j<k.F.W.a5.length:=c;show nth k.F.W.a5 j=_;rw[J j c];refine decide_eq_decide.2 ?_;rw[dU,dU];simp only[vL,cg,U1,a];constructor
 ·rintro⟨q,n,g,b⟩
  refine⟨q,n,?_⟩;rw[C9 (λe=>l (by rw[<-b,<-e]))];exact⟨g,b⟩
 rintro⟨q,n,g,b⟩
 by_cases e:p.toNat=q
 ·rw[CC e]at b
  exact⟨o.toNat,ω,d,b⟩
 rw[C9 e]at g b;exact⟨q,n,g,b⟩
def Ji(h:aF k=true)(b:(af k.F.R p).e≠0)(a:(vU k p o).2=true)(q:Nat):(vU k p o).1.F.R.K.length=k.F.R.K.length/\nth (vU k p o).1.F.R.K q=if(q:Int)=p then⟨2,(nth k.F.R.K o.toNat).o⟩ else nth k.F.R.K q:=by
 obtain⟨d,f,-⟩:=bW h b;unfold vU at a |-;split at a
 ·cases a
 rename_i c;rw[C9 c];simp only[(na _ _).1];simp only[vL,cg,U1,bF];refine⟨trivial,?_⟩;by_cases e:(q:Int)=p
 ·rw[CC ⟨ω,ω⟩,CC e]
 rw[C9 λz=>e ω,C9 e]
def MH(a:(vU k p o).2=false):(vU k p o).1=cg k:=by
 unfold vU at a |-;split
 ·rfl
 rename_i b;rw[C9 b]at a;cases a
def Ku(h:aF k=true)(g:0<=a)(b:0<=v/\v<=999):aF {k with F:=(iW k.F a v).1} = true/\(iW k.F a v).1.R=k.F.R:=by
 unfold iW;split
 ·exact⟨h,rfl⟩
 rename_i d;split
 ·exact⟨h,rfl⟩
 obtain⟨e,f,-⟩:=g9 h d;exact⟨rv h e f (c:=a % 16) b,rfl⟩
def oB(t:aM)(p:Int):Prop:=∀q:Nat,(nth t.K q).e≠0->(nth t.K q).o=(nth t.K p.toNat).o->(q:Int)=p
structure JI(h:ac):Prop where
 ph:h.u=true->0<=h.Y.b0/\h.Y.b0<=3
 sp:h.u=true->∃a∈h.J,∃b∈h.J,a.Q=h.Y.X.a3/\b.Q=h.Y.X.a1/\meshable a b=true
 sk:h.u=true->oB (tbl h) h.Y.X.a3
 sm:h.u=true->oB (tbl h) h.Y.X.a1
def oB.tEq{t a:aM}{p:Int}(h:oB t p)(b:tEq t a):oB a p:=λq c d=>by
 obtain⟨e,f⟩:=b.2 q;exact h q (e.1 c) (by rw[<-f,<-(b.2 p.toNat).2];exact d)
theorem Pg.tEq{t b:aM}{c:List aB}{sp:List aA}{la:List aD}(h:Pg t c sp la)(a:tEq t b):Pg b c sp la where
 one l hl p hp q hq h1 h2:=h.one l hl p hp q (by rw[<-a.1];exact hq) ((a.2 q).1.1 h1) (by rw[<-(a.2 q).2,<-(a.2 p).2];exact h2)
 bnd p hp:=by rw[a.1];exact h.bnd p hp
 own p hp:=(a.2 p).1.trans (h.own p (by rw[<-a.1];exact hp))
 fre p hp:=(a.2 p).1.trans (h.fre p (by rw[<-a.1];exact hp))
 mesh s hs u hu hne hf:=h.mesh s hs u hu hne (by rw[<-(a.2 _).2,<-(a.2 u.Q.toNat).2];exact hf)
def bc.step(a:bc h E)(b:aF k=true)(c:k.F.R.K.length=(tbl h).K.length)(d:Pg k.F.R h.j h.J h.M){j:cE}{m:Bool}(h1:m=true->jL j=true/\(∃s∈h.J,s.Q=j.X.a3)/\∃s∈h.J,s.Q=j.X.a1)(e:m=false->sM j=true):bc {h with G:=k,u:=m,Y:=j} E:=
 {a with
   ker:=b
   rng:=by show bC ((k.F.R.K.length:Nat):Int) h.j=true;rw[c];exact a.rng
   pg:=d
   job:=h1
   noj:=e}
variable{la:List aD}{sp:List aA}
def oH.apart(b:oH sp la)(c:s∈sp){l:aD}(d:l∈la)(a:p∈lpgs l l.a2.toNat):s.Q≠p:=by
 unfold lpgs at a;simp only[O4,List.mem_range]at a;obtain⟨k,e,rfl⟩:=a;exact b.dis s c l d k e
def Pg.on{t H:aM}{Q:List aB}(h:Pg t Q sp la)(r:oH sp la){a b:aA}(w:a∈sp)(L:b∈sp)(R:meshable a b=true)(A:oB t a.Q)(M:(nth t.K a.Q.toNat).e≠0)(N:(nth t.K b.Q.toNat).e≠0)(U:0<=b.Q)(J:H.K.length=t.K.length)(B:∀q:Nat,nth H.K q=if(q:Int)=b.Q then⟨2,(nth t.K a.Q.toNat).o⟩ else nth t.K q):Pg H Q sp la:=by
 have c:∀q:Nat,(nth H.K q).e≠0↔(nth t.K q).e≠0:=λq=>by
  rw[B];split
  ·rename_i e
   rw[show q=b.Q.toNat by omega];exact⟨λ_=>N,λ_=>by show(2:Int)≠0;omega⟩
  rfl
 have V:0<=a.Q:=by have:=r.sok a w;unfold bh at this;rw[C0]at this;omega
 refine⟨λl k p g q W S C=>?_,λp g=>by rw[J];exact h.bnd p g,λp g=>(c p).trans (h.own p (by rw[<-J];exact g)),λp g=>(c p).trans (h.fre p (by rw[<-J];exact g)),λs D u E F n=>?_⟩
 ·have O:¬(p:Int)=b.Q:=λe=>r.apart L k g e.symm
  rw[B p,C9 O,B q]at C;rw[c]at S;by_cases e:(q:Int)=b.Q
  ·rw[CC e]at C
   have T:=h.one l k p g a.Q.toNat (by have:=h.bnd _ (d6 (la:=la) w);omega) M C;exact absurd (show a.Q=(p:Int) by omega) (r.apart w k g)
  rw[C9 e]at C;exact h.one l k p g q (by rw[<-J];exact W) S C
 have X:0<=s.Q:=by have:=r.sok s D;unfold bh at this;rw[C0]at this;omega
 have Y:0<=u.Q:=by have:=r.sok u E;unfold bh at this;rw[C0]at this;omega
 have d:∀x∈sp,∀y∈sp,x.Q=y.Q->x=y:=λx G y Z e=>by
  obtain⟨i,hi,rfl⟩:=aP G;obtain⟨j,hj,rfl⟩:=aP Z;rw[cM (f:=(·.Q)) r.nd hi hj e]
 have o:∀x∈sp,(nth t.K x.Q.toNat).e≠0:=λx G=>by
  have hx0:0<=x.Q:=by have:=r.sok x G;unfold bh at this;rw[C0]at this;omega
  refine(h.own x.Q.toNat (by have:=h.bnd _ (d6 (la:=la) G);omega)).2 ?_;rw[show((x.Q.toNat:Nat):Int)=x.Q by omega];exact d6 G
 rw[B,B]at n;simp only[show((s.Q.toNat:Nat):Int)=s.Q by omega,show((u.Q.toNat:Nat):Int)=u.Q by omega]at n;by_cases K:s.Q=b.Q
 ·rw[CC K,C9 (λe=>F (K.trans e.symm))]at n
  have T:=A u.Q.toNat (o u E) n.symm;rw[d s D b L K,d u E a w ω,gL];exact R
 rw[C9 K]at n;by_cases P:u.Q=b.Q
 ·rw[CC P]at n
  have T:=A s.Q.toNat (o s D) n;rw[d u E b L P,d s D a w ω];exact R
 rw[C9 P]at n;exact h.mesh s D u E F n
def over(j:cE):Bool:=decide (j.b0=4\/j.b0=5)
def gT(k:am)(j:cE):am × cE:=if jmay k j=true then jstep k j else(k,j)
def mStep(h:ac):ac:={h with G:=(gT h.G h.Y).1,u:=if over (gT h.G h.Y).2=true then false else h.u,Y:=if over (gT h.G h.Y).2=true then⟨⟨0,0,[]⟩,0,0⟩ else(gT h.G h.Y).2}
def Gm(h:ac):Bool:=decide ((gT h.G h.Y).2.b0=4)
def dv{j:cE} : jL j=true↔eM j.X=true/\0<=j.b0/\j.b0<=5/\0<=j.b/\j.b<=j.X.T.length:=by
 unfold jL;simp only[I0,C0]
def ge{p:cx}(h:eM p=true)(a:i<p.T.length):0<=nth p.T i/\nth p.T i<=15:=by
 unfold eM at h;simp only[I0]at h;have:=fj h.1 a;unfold m6 at this;rw[C0]at this;exact⟨this.1,this.2.1⟩
structure JS(h:ac)(k:am)(j:cE):Prop where
 ker:aF k=true
 len:k.F.R.K.length=(tbl h).K.length
 pg:j.b0≠4\/JI h->Pg k.F.R h.j h.J h.M
 ph:0<=j.b0/\j.b0<=5
 plan:j.X=h.Y.X
 nxt:0<=j.b/\j.b<=j.X.T.length
 eq:j.b0≠4->tEq (tbl h) k.F.R
 calls:h.G.Calls<=k.Calls/\k.Calls<=h.G.Calls+1/\k.a0=h.G.a0
def wz(k:am)(p m:Int):(jI k p m).1.Calls=k.Calls+1/\(jI k p m).1.a0=k.a0:=by
 unfold jI;split<;>exact⟨rfl,rfl⟩
def ND(k:am)(p o:Int):(vU k p o).1.Calls=k.Calls+1/\(vU k p o).1.a0=k.a0:=by
 unfold vU;split
 ·exact⟨rfl,rfl⟩
 obtain⟨-,a,b,-⟩:=na (vL (cg k) p.toNat ⟨2,(nth k.F.R.K o.toNat).o⟩) (nth k.F.R.K p.toNat).o;simp only[a,b];exact⟨rfl,rfl⟩
def JS.of(c:bc h E)(B:h.u=true):JS h (gT h.G h.Y).1 (gT h.G h.Y).2:=by
 obtain⟨R,-,-⟩:=c.job B;obtain⟨O,y,A,o,p⟩:=dv.1 R;unfold gT;split
 case isFalse=>exact⟨c.ker,rfl,λ_=>c.pg,⟨y,A⟩,rfl,⟨o,p⟩,λ_=>tEq.refl _,v5 _,by show h.G.Calls<=h.G.Calls+1;omega,rfl⟩
 rename_i d;unfold jmay at d;simp only[I0,C0]at d;obtain⟨⟨-,C⟩,-,u,r,D⟩:=d;have fin:∀(k:am)(j:cE),aF k=true->tEq (tbl h) k.F.R->0<=j.b0/\j.b0<=5->j.X=h.Y.X->0<=j.b/\j.b<=j.X.T.length->h.G.Calls<=k.Calls/\k.Calls<=h.G.Calls+1/\k.a0=h.G.a0->JS h k j:=
  λk j S F T U V W=>⟨S,F.1,λ_=>c.pg.tEq F,T,U,V,λ_=>F,W⟩
 have P:=(aG.1 c.ker).2.2.2.2;unfold jstep;split
 ·obtain⟨l,w⟩:=EF c.ker C r (m:=1) (.inl rfl)
  obtain⟨g,t⟩:=wz h.G h.Y.X.a1 1;refine fin _ _ l w ?_ rfl ⟨o,p⟩ ⟨by rw[g];omega,by rw[g];omega,t⟩;show 0<=(if _ then _ else _:Int)/\(if _ then _ else _:Int)<=5;split<;>omega
 split
 ·split
  ·exact fin _ _ c.ker (tEq.refl _) ⟨by show(0:Int)<=2;omega,by show(2:Int)<=5;omega⟩ rfl ⟨o,p⟩ ⟨v5 _,by show h.G.Calls<=h.G.Calls+1;omega,rfl⟩
  have n:=ge O (i:=h.Y.b.toNat) ω;refine fin _ _ (Mo c.ker r u n) (tEq.refl _) ⟨y,A⟩ rfl ⟨by show 0<=h.Y.b+1;omega,by show h.Y.b+1<=h.Y.X.T.length;omega⟩ ⟨v5 _,by show h.G.Calls<=h.G.Calls+1;omega,rfl⟩
 split
 ·have G:h.Y.X.a1≠h.Y.X.a3:=λe=>D (by rw[e])
  have l:=Mb c.ker C r u G;obtain⟨g,t⟩:=ND h.G h.Y.X.a1 h.Y.X.a3;cases e:(vU h.G h.Y.X.a1 h.Y.X.a3).2 with
  | false=>
   rw[C9 (by simp)];refine fin _ _ l (tEq.of ?_) ⟨by show(0:Int)<=3;omega,by show(3:Int)<=5;omega⟩ rfl ⟨o,p⟩ ⟨by rw[g];omega,by rw[g];omega,t⟩;rw[MH e];rfl
  | true=>
   rw[CC rfl];obtain⟨X,m2,Y,-⟩:=bW c.ker r;obtain⟨n1,n2,Z,-⟩:=bW c.ker u;have f:=Ji c.ker r e;refine⟨l,(f 0).1,λH=>?_,⟨by show(0:Int)<=4;omega,by show(4:Int)<=5;omega⟩,rfl,⟨o,p⟩,λJ=>absurd rfl J,by rw[g];omega,by rw[g];omega,t⟩;have Q:JI h:=H.elim (λJ=>absurd rfl J) id;obtain⟨a,ha,b,hb,K,M,N⟩:=Q.sp B;refine c.pg.on c.L ha hb N (by rw[K];exact Q.sk B) (by rw[K];show(nth h.G.F.R.K _).e≠0;rw[<-Z];exact u) (by rw[M];show(nth h.G.F.R.K _).e≠0;rw[<-Y];exact r) (by rw[M];exact X) (f 0).1 λq=>?_
   rw[(f q).2,M,K];rfl
 split
 ·split
  ·rename_i hn0
   have n:=ge O (i:=(h.Y.b - 1).toNat) ω;have hk0:=(bW c.ker u).1;obtain⟨l,w⟩:=Ku c.ker (a:=h.Y.X.a3*16+nth h.Y.X.T (h.Y.b - 1).toNat) (v:=0) ω ⟨ω,ω⟩;exact fin _ _ l (tEq.of w) ⟨y,A⟩ rfl ⟨by show 0<=h.Y.b - 1;omega,by show h.Y.b - 1<=h.Y.X.T.length;omega⟩ ⟨v5 _,by show h.G.Calls<=h.G.Calls+1;omega,rfl⟩
  obtain⟨l,w⟩:=EF c.ker C r (m:=2) (.inr rfl);obtain⟨g,t⟩:=wz h.G h.Y.X.a1 2;refine fin _ _ l w ?_ rfl ⟨o,p⟩ ⟨by rw[g];omega,by rw[g];omega,t⟩;show 0<=(if _ then _ else _:Int)/\(if _ then _ else _:Int)<=5;split<;>omega
 exact fin _ _ c.ker (tEq.refl _) ⟨y,A⟩ rfl ⟨o,p⟩ ⟨v5 _,by show h.G.Calls<=h.G.Calls+1;omega,rfl⟩
def bc.mStep{h:ac}{E:List Int}(d:bc h E)(f:JI h)(c:h.u=true):bc (mStep h) E/\JI (mStep h):=by
 have s:=JS.of d c;unfold Ab.mStep;generalize (gT h.G h.Y).1=k at s |-;generalize (gT h.G h.Y).2=j at s |-;cases e:over j with
 | true=>
  refine⟨d.step s.ker s.len (s.pg (.inr f)) (λh=>by simp at h) (λ_=>by simp[sM]),?_⟩;exact⟨λh=>by simp at h,λh=>by simp at h,λh=>by simp at h,λh=>by simp at h⟩
 | false=>
  simp only[Bool.false_eq_true,if_false];unfold over at e;simp only[X4,not_or]at e;have g:=s.eq e.1;have i:=s.ph;refine⟨d.step s.ker s.len (s.pg (.inr f)) (λ_=>⟨dv.2 ⟨by rw[s.plan];exact(dv.1 (d.job c).1).1,s.ph.1,s.ph.2,s.nxt⟩,by rw[s.plan];exact(d.job c).2⟩) (λh=>by rw[c]at h;cases h),?_⟩;refine⟨λ_=>⟨s.ph.1,by show j.b0<=3;omega⟩,λ_=>?_,λ_=>?_,λ_=>?_⟩
  ·show ∃a∈h.J,∃b∈h.J,a.Q=j.X.a3/\b.Q=j.X.a1/\meshable a b=true
   rw[s.plan];exact f.sp c
  ·show oB k.F.R j.X.a3
   rw[s.plan];exact(f.sk c).tEq g
  show oB k.F.R j.X.a1;rw[s.plan];exact(f.sm c).tEq g
def fJ(k:am)(a:Int):Int:=nth (nth k.F.W.T (af k.F.R (a / 16)).o.toNat) (a % 16).toNat
def cellsOf(k:am)(a:Int)(n:Nat):List Int:=(List.range n).map λ(i:Nat)=>fJ k (a+i)
def lP(k:am)(a:Int)(n:Nat):(cellsOf k a n).length=n:=by simp[cellsOf]
def jr{n:Int}(h:0<=aL n):1<=n/\n<=8:=by
 unfold aL at h;split at h
 ·omega
 split at h
 ·omega
 split at h
 ·omega
 split at h
 ·omega
 split at h<;>omega
def TQ{α:Type}[Inhabited α](f:α->Int)(xs:List α):Nat->Int
 | 0=>0
 | i+1=>TQ f xs i+f (nth xs i)
def bor(n m:Int):Int:=((n.toNat ||| m.toNat:Nat):Int)
def oM(sp:List aA)(p:Int)(b:Int):Nat->Int
 | 0=>b
 | j+1=>if(nth sp j).Q=p then bor (oM sp p b j) (nth sp j).a9 else oM sp p b j
def ig(sp:List aA)(ps:List Int)(b:Int):Nat->Int
 | 0=>b
 | k+1=>oM sp (nth ps k) (ig sp ps b k) sp.length
def dE(h:ac)(i:Nat):Int:=ig h.J (aU h (nth h.J i).Q) (nth h.J i).a9 (aU h (nth h.J i).Q).length
def Gw{n m:Int}(h1:0<=n/\n<=65535)(a:0<=m/\m<=65535):0<=bor n m/\bor n m<=65535:=by
 have b:n.toNat ||| m.toNat<2 ^ 16:=Nat.or_lt_two_pow ω ω
 unfold bor;omega
def lW(h:∀s∈sp,bh s=true)(b:j<sp.length):0<=(nth sp j).a9/\(nth sp j).a9<=65535:=by
 have a:=h _ (ar b);have c:=GT (nth sp j).d;unfold bh at a;rw[C0]at a;omega
def wd{sp:List aA}(h:∀s∈sp,bh s=true){p b:Int}(a:0<=b/\b<=65535):∀j,j<=sp.length->0<=oM sp p b j/\oM sp p b j<=65535
 | 0,_=>a
 | j+1,d=>by
  have c:=wd h (p:=p) a j ω;simp only[oM];split
  ·exact Gw c (lW h ω)
  exact c
def ll{sp:List aA}(h:∀s∈sp,bh s=true){ps:List Int}{b:Int}(a:0<=b/\b<=65535):∀k,0<=ig sp ps b k/\ig sp ps b k<=65535
 | 0=>a
 | k+1=>by simp only[ig];exact wd h (ll h a k) _ (I3 _)
def nj{i:Int}(a:0<=b)(c:0<=i/\i<=15):aZ b i=b.toNat.testBit i.toNat:=by
 unfold aZ;rw[Nat.testBit_eq_decide_div_mod_eq];refine decide_eq_decide.2 ?_;obtain⟨n,rfl⟩ : ∃n:Nat,b=n:=⟨b.toNat,ω⟩
 rw[Z2];have d:((n / 2 ^ i.toNat:Nat):Int)=(n:Int) / 2 ^ i.toNat:=by simp
 omega
def GP{n m i:Int}(b:0<=n)(c:0<=m)(a:0<=i/\i<=15):aZ (bor n m) i=(aZ n i || aZ m i):=by
 rw[nj (by unfold bor;omega) a,nj b a,nj c a];unfold bor;rw[Z2,Nat.testBit_or]
def Er{sp:List aA}(h:∀s∈sp,bh s=true){p b i:Int}(k:0<=b/\b<=65535)(l:0<=i/\i<=15):∀j,j<=sp.length->(aZ (oM sp p b j) i=true↔aZ b i=true\/∃q,q<j/\(nth sp q).Q=p/\aZ (nth sp q).a9 i=true)
 | 0,_=>by simp[oM]
 | j+1,t=>by
  have n:=Er h (p:=p) k l j ω;have o:=wd h (p:=p) k j ω;have r:=lW h (j:=j) ω;simp only[oM];split
  ·rename_i d
   rw[GP o.1 r.1 l,O6,n];constructor
   ·rintro((e|⟨q,f,a⟩)|e)
    ·exact .inl e
    ·exact .inr ⟨q,ω,a⟩
    exact .inr ⟨j,ω,d,e⟩
   rintro(e|⟨q,f,a,c⟩)
   ·exact .inl (.inl e)
   by_cases g:q=j
   ·subst g;exact .inr c
   exact .inl (.inr ⟨q,ω,a,c⟩)
  rename_i d;rw[n];constructor
  ·rintro(e|⟨q,f,a⟩)
   ·exact .inl e
   exact .inr ⟨q,ω,a⟩
  rintro(e|⟨q,f,a,c⟩)
  ·exact .inl e
  by_cases g:q=j
  ·subst g;exact absurd a d
  exact .inr ⟨q,ω,a,c⟩
def A9{sp:List aA}(h:∀s∈sp,bh s=true){ps:List Int}{b i:Int}(d:0<=b/\b<=65535)(f:0<=i/\i<=15):∀k,(aZ (ig sp ps b k) i=true↔aZ b i=true\/∃u,u<k/\∃q,q<sp.length/\(nth sp q).Q=nth ps u/\aZ (nth sp q).a9 i=true)
 | 0=>by simp[ig]
 | k+1=>by
  have g:=A9 h (ps:=ps) d f k;have j:=ll h (ps:=ps) d k;simp only[ig];rw[Er h j f _ (I3 _),g];constructor
  ·rintro((e|⟨u,c,a⟩)|⟨q,c,a⟩)
   ·exact .inl e
   ·exact .inr ⟨u,ω,a⟩
   exact .inr ⟨k,ω,q,c,a⟩
  rintro(e|⟨u,c,a⟩)
  ·exact .inl (.inl e)
  by_cases l:u=k
  ·subst l;exact .inr a
  exact .inl (.inr ⟨u,ω,a⟩)
variable{α:Type}
def iQ(p:α->Bool)(xs:List α):Nat:=(xs.findIdx? p).getD xs.length
def ja(p:α->Bool)(xs:List α)(y:α):List α:=xs.take (iQ p xs)++y::xs.drop (iQ p xs)
def Ql(p:α->Bool)(xs:List α):iQ p xs<=xs.length:=by
 unfold iQ;cases e:xs.findIdx? p with
 | none=>exact I3 _
 | some i=>exact Nat.le_of_lt (C7.1 e).1
def kP(p:α->Bool)(xs:List α)(y:α):(ja p xs y).Perm (y::xs):=by
 unfold ja;refine List.perm_middle.trans ?_;rw[List.take_append_drop]
def cH{p:α->Bool}{xs:List α}{y z:α} : z∈ja p xs y↔z=y\/z∈xs:=by
 rw[(kP p xs y).mem_iff,List.mem_cons]
def lT{p:α->Bool}{xs:List α}(c:i<=xs.length)(a:∀(j:Nat)(z:α),j<i->xs[j]? = some z->p z=false)(b:∀z,xs[i]? = some z->p z=true):iQ p xs=i:=by
 unfold iQ;by_cases e:i<xs.length
 ·rw[wa (O2 e) (b _ (O2 e)) a];rfl
 rw[Da ω a];show xs.length=i;omega
def lO{f:α->Int}{xs:List α}{y:α}(h:xs.Pairwise λa b=>f a<f b)(p:∀z∈xs,f z≠f y):(ja (λz=>decide (f y<=f z)) xs y).Pairwise λa b=>f a<f b:=by
 have q:∀z∈xs.drop (iQ (λz=>decide (f y<=f z)) xs),f y<f z:=λz g=>by
  obtain⟨j,k,rfl⟩:=List.mem_drop_iff_getElem.1 g;have C:=p _ (List.getElem_mem k);cases e:xs.findIdx? (λz=>decide (f y<=f z)) with
  | none=>
   have l:iQ (λz=>decide (f y<=f z)) xs=xs.length:=by unfold iQ;rw[e];rfl
   rw[l]at k;omega
  | some i=>
   have l:iQ (λz=>decide (f y<=f z)) xs=i:=by unfold iQ;rw[e];rfl
   obtain⟨r,t,-⟩:=C7.1 e;rw[C0]at t;have c:i+j<xs.length:=by rw[<-l];omega
   have n:f xs[i+j]≠f y:=p _ (List.getElem_mem c);have d:f y<f xs[i+j]:=by
    cases j with
    | zero=>simp only[Nat.add_zero]at n |-;omega
    | succ j=>
     have:=List.pairwise_iff_getElem.1 h i (i+(j+1)) r c ω;omega
   have w:xs[iQ (λz=>decide (f y<=f z)) xs+j]? = xs[i+j]?:=by rw[l]
   rw[O2 ω,O2 c]at w;rw[Option.some.inj w];exact d
 have A:∀z∈xs.take (iQ (λz=>decide (f y<=f z)) xs),f z<f y:=λz g=>by
  obtain⟨j,k,rfl⟩:=List.mem_take_iff_getElem.1 g;unfold iQ at k;cases e:xs.findIdx? (λz=>decide (f y<=f z)) with
  | none=>
   have:=List.findIdx?_eq_none_iff.1 e _ (List.getElem_mem (show j<xs.length by omega));simp only[X4]at this;omega
  | some i=>
   obtain⟨r,t,B⟩:=C7.1 e;simp only[e,Option.getD_some]at k;have:=B j ω;simp only[C0]at this;omega
 unfold ja;refine List.pairwise_append.2 ⟨h.sublist (List.take_sublist ..),List.pairwise_cons.2 ⟨q,h.sublist (List.drop_sublist ..)⟩,λz g u o=>?_⟩;rcases List.mem_cons.1 o with rfl|o
 ·exact A z g
 exact Int.lt_trans (A z g) (q u o)
def gl(b i:Int):Int:=((b.toNat ||| 2 ^ i.toNat:Nat):Int)
def qo(s:aA)(i:Int):aA:={s with a9:=gl s.a9 i}
def yg(b i:Int)(j:Nat):(gl b i).toNat.testBit j=(b.toNat.testBit j || decide (i.toNat=j)):=by
 unfold gl;rw[Z2,Nat.testBit_or,Nat.testBit_two_pow]
def H7{i:Int}(g:0<=b)(e:0<=i/\i<=15)(j:Int):aZ (gl b i) j=true↔aZ b j=true\/j=i:=by
 rw[eL,eL,yg,O6,C0];have f:0<=gl b i:=by unfold gl;omega
 constructor
 ·rintro⟨h,c,d,a|a⟩
  ·exact .inl ⟨g,c,d,a⟩
  exact .inr ω
 rintro(⟨h,c,d,a⟩|rfl)
 ·exact⟨f,c,d,.inl a⟩
 exact⟨f,e.1,e.2,.inr rfl⟩
def gi{k:Int}(h:0<=k/\k<=3):lim k=2 ^ (slots k).toNat - 1/\0<=slots k/\slots k<=16/\slots k*csz k=16:=by
 obtain rfl|rfl|rfl|rfl:k=0\/k=1\/k=2\/k=3:=ω
 all_goals decide
def Dd(h:bh s=true){i:Int}(k:0<=i/\i<slots s.d):bh (qo s i)=true:=by
 have b:=aI h;obtain⟨c,l,o,-⟩:=gi b.2.2;unfold bh at h;rw[C0]at h;obtain⟨d,e,f,g,p,a⟩:=h;refine O0 ⟨d,e,f,g,by show 0<=gl s.a9 i;unfold gl;omega,?_⟩;show gl s.a9 i<=lim s.d;rw[c]at a |-;have j:((2 ^ (slots s.d).toNat:Nat):Int)=(2:Int) ^ (slots s.d).toNat:=by norm_cast
 rw[<-j]at a |-;have:=Nat.or_lt_two_pow (x:=s.a9.toNat) (y:=2 ^ i.toNat) (n:=(slots s.d).toNat) ω (Nat.pow_lt_pow_right ω ω);unfold gl;omega
def A2{u:aA}{i:Int}(b:0<=i/\i<slots s.d)(c:aZ u.a9 i=false)(h:meshable s u=true):meshable (qo s i) u=true:=by
 unfold meshable at h |-;simp only[I0,C0]at h |-;obtain⟨⟨d,f⟩,k,l,o⟩:=h;have p:=aI d;obtain⟨r,t,w,-⟩:=gi p.2.2;have a:=dK f;refine⟨⟨Dd d b,f⟩,k,l,?_⟩;refine Nat.eq_of_testBit_eq λj=>?_
 have g:=X0 (λn=>Nat.testBit n j) o;simp only[Nat.testBit_and,Nat.zero_testBit,qo,yg]at g |-;by_cases e:i.toNat=j
 ·have:u.a9.toNat.testBit j=false:=by
   rw[<-U5];intro q;have:=(eL u.a9 i).2 ⟨a.1,b.1,ω,by rw[e];exact q⟩;rw[this]at c;cases c
  rw[this];simp
 rw[U0 e,Bool.or_false];exact g
def t7(h:bh s=true){i:Int}(n:0<=i/\i<slots s.d)(b:Int):eE (qo s i) b↔eE s b\/b=16*s.Q+i*csz s.d:=by
 have g:=aI h;obtain⟨o,p,k,l⟩:=gi g.2.2;have j:=bZ g.2.2;unfold eE;simp only[qo];rw[H7 (dK h).1 ω];constructor
 ·rintro⟨d,f,c,a|a⟩
  ·exact .inl ⟨d,f,c,a⟩
  right
  rcases j with e|e|e|e<;>rw[e]at c a |-<;>omega
 rintro(⟨d,f,c,a⟩|rfl)
 ·exact⟨d,f,c,.inl a⟩
 have q:slots s.d<=16:=k;rcases j with e|e|e|e<;>rw[e]at l |-<;>refine⟨?_,?_,?_,.inr ?_⟩<;>omega
def Lr(k:Int)(a:i<sp.length):(sp.set i (qo (nth sp i) k)).map (·.Q)=sp.map (·.Q):=by
 rw[I6];refine List.ext_getElem (by simp) λj b c=>?_
 rw[List.getElem_set];split
 ·rename_i e;subst e
  rw[List.getElem_map];show(nth sp i).Q=_;rw[bn (O2 a)]
 rfl
def je.setS(p:oH sp la)(g:i<sp.length){k:Int}(h:0<=k/\k<slots (nth sp i).d)(b c:Int):je (sp.set i (qo (nth sp i) k)) b c↔je sp b c\/(b=16*(nth sp i).Q+k*csz (nth sp i).d/\(c<0\/(nth sp i).d=c)):=by
 have d:=p.sok _ (ar g);constructor
 ·rintro⟨s,l,f,a⟩
  rcases dZ l with rfl|⟨j,n,q,rfl⟩
  ·rcases(t7 d h b).1 f with o|o
   ·exact .inl ⟨_,ar g,o,a⟩
   exact .inr ⟨o,a⟩
  exact .inl ⟨_,ar n,f,a⟩
 rintro(⟨s,l,f,a⟩|⟨f,a⟩)
 ·obtain⟨j,n,rfl⟩:=aP l
  by_cases e:j=i
  ·subst e
   exact⟨_,iL _ g,(t7 d h b).2 (.inl f),a⟩
  exact⟨_,jT _ n e,f,a⟩
 exact⟨_,iL _ g,(t7 d h b).2 (.inr f),a⟩
def QJ(d:bc h E)(l:i<h.J.length){k:Int}(p:0<=k/\k<=15)(b:aZ (dE h i) k=false):aZ (nth h.J i).a9 k=false/\∀u∈h.J,(nth (tbl h).K u.Q.toNat).o=(nth (tbl h).K (nth h.J i).Q.toNat).o->aZ u.a9 k=false:=by
 have e:=d.L;have q:=dK (e.sok _ (ar l));unfold dE at b;rw[<-U5,A9 e.sok q p]at b;rw[not_or]at b;have r:aZ (nth h.J i).a9 k=false:=by simpa using b.1
 have a:∀s∈h.J,s.Q.toNat<eX h/\(nth (tbl h).K s.Q.toNat).e≠0/\((s.Q.toNat:Nat):Int)=s.Q:=λs f=>by
  have K:=aI (e.sok s f);have M:=d.pg.bnd s.Q (d6 f);have n:s.Q.toNat<(tbl h).K.length:=ω
  have o:((s.Q.toNat:Nat):Int)=s.Q:=ω
  exact⟨n,(d.pg.own _ n).2 (by rw[o];exact d6 f),o⟩
 refine⟨r,λu c t=>?_⟩;rw[<-U5];intro w;obtain⟨y,A,B⟩:=a _ (ar l);obtain⟨C,D,F⟩:=a u c;have G:u.Q∈aU h (nth h.J i).Q:=by
  rw[<-B,fy y A,<-F];exact eK.2 ⟨C,D,t⟩
 obtain⟨v,H,g⟩:=aP G;obtain⟨j,J,rfl⟩:=aP c;exact b.2 ⟨v,H,j,J,g.symm,w⟩
def bc.take{k sd:Int}(g:bc h E)(C:i<h.J.length)(D:0<=k/\k<slots (nth h.J i).d)(r:aZ (dE h i) k=false)(M:0<=sd/\sd<=1073741823) :
  bc {h with b3:=sd,J:=h.J.set i (qo (nth h.J i) k)} ((16*(nth h.J i).Q+k*csz (nth h.J i).d)::E):=by
 have F:=g.L;have T:=F.sok _ (ar C);have Q:=aI T;obtain⟨l1,l2,l3,l4⟩:=gi Q.2.2;have hz:=bZ Q.2.2;obtain⟨u1,u2⟩:=QJ g C ⟨D.1,ω⟩ r;have n:=λb c=>je.setS F C D b c
 have w:=Lr k C;generalize ha:16*(nth h.J i).Q+k*csz (nth h.J i).d=a at n |-;have G:¬eE (nth h.J i) a:=by
  rintro⟨-,-,-,h4⟩
  have:(a - 16*(nth h.J i).Q) / csz (nth h.J i).d=k:=by
   rw[<-ha];rcases hz with e|e|e|e<;>rw[e]<;>omega
  rw[this,u1]at h4;cases h4
 have hrange:16*(nth h.J i).Q<=a/\a<=16*(nth h.J i).Q+15:=by
  rcases hz with e|e|e|e<;>rw[e]at ha l4<;>omega
 have U:¬mM h.J h.M a:=by
  rintro(⟨s,p,d,-⟩|⟨l,hl,e⟩)
  ·obtain⟨j,V,rfl⟩:=aP p
   have:=cM (f:=(·.Q)) F.nd V C (by have a1:=d.1;have a2:=d.2.1;omega);subst this;exact G d
  exact(yd F hl).1 _ (ar C) ω
 have W:a∉E++holders h:=λX=>U ((g.mem a).1 X)
 have q:∀s∈h.J.set i (qo (nth h.J i) k),∃u∈h.J,u.Q=s.Q/\(s=u\/(u=nth h.J i/\s=qo u k)):=λs p=>by
  rcases dZ p with rfl|⟨j,V,hji,rfl⟩
  ·exact⟨_,ar C,rfl,.inr ⟨rfl,rfl⟩⟩
  exact⟨_,ar V,rfl,.inl rfl⟩
 generalize hsp:h.J.set i (qo (nth h.J i) k)=sp at n w q |-;have t:pgs sp h.M=pgs h.J h.M:=by unfold pgs;rw[w]
 have N:∀u∈h.J,∃s∈sp,s.Q=u.Q:=λu r=>by
  have:u.Q∈sp.map (·.Q):=by rw[w];exact O4.2 ⟨u,r,rfl⟩
  obtain⟨s,p,e⟩:=O4.1 this;exact⟨s,p,e⟩
 exact {g with
   lay:=by
     obtain⟨l1,l2,l3⟩:=ee g.lay;unfold bq;simp only[I0,C0];refine⟨⟨v4.2 λs p=>?_,l2⟩,by rw[t];exact l3⟩;obtain⟨u,r,-,rfl|⟨rfl,rfl⟩⟩:=q s p
     · exact F.sok _ r
     exact Dd (F.sok _ r) D
   srs:=by
     have d:(h.J.map (·.Q)).Pairwise (λa b=>a<b):=List.pairwise_map.2 g.srs;rw[<-w]at d;exact List.pairwise_map.1 d
   pg:=⟨g.pg.one,by rw[t];exact g.pg.bnd,by rw[t];exact g.pg.own,g.pg.fre,λs p u r O hf=>by
     obtain⟨R,A,Y,Z⟩:=q s p;obtain⟨S,B,eu,P⟩:=q u r;have H:(nth (tbl h).K R.Q.toNat).o=(nth (tbl h).K S.Q.toNat).o:=by rw[Y,eu];exact hf
     have d:=g.pg.mesh R A S B (by rw[Y,eu];exact O) H;rcases Z with rfl|⟨rfl,rfl⟩
     · rcases P with rfl|⟨rfl,rfl⟩
       · exact d
       rw[gL]at d |-;exact A2 D (u2 _ A H) d
     rcases P with rfl|⟨rfl,rfl⟩
     · exact A2 D (u2 _ B H.symm) d
     exact absurd (Y.symm.trans eu) O⟩
   nums:=by
     have:=g.nums;unfold cu at this |-;rw[C0]at this |-;exact⟨M.1,M.2,this.2.2⟩
   oow:=λo ho=>by
     rcases g.oow o ho with⟨s,p,d,h2⟩|d
     · obtain⟨u,r,g1,K⟩:=(n o.Addr (aL o.q)).2 (.inl ⟨s,p,d,.inr h2⟩)
       refine .inl ⟨u,r,g1,?_⟩;rcases K with K|K
       · have:=aI (F.sok _ p);omega
       exact K
     exact .inr d
   hca:=λc Q k D b J=>(n b k).2 (.inl (g.hca c Q k D b J))
   hqu:=λy hy=>(n _ _).2 (.inl (g.hqu y hy))
   hfl:=λb J=>(n _ _).2 (.inl (g.hfl b J))
   hin:=λb J=>by
     rcases List.mem_cons.1 J with rfl|J
     · exact(n _ _).2 (.inr ⟨rfl,.inl (by decide)⟩)
     exact(n _ _).2 (.inl (g.hin b J))
   nd:=by
     rw[List.cons_append];exact List.nodup_cons.2 ⟨W,g.nd⟩
   mem:=λb=>by
     show b∈a::E++holders h↔mM sp h.M b;rw[List.cons_append,List.mem_cons,g.mem b];unfold mM;rw[n];constructor
     · rintro(rfl|d|d)
       · exact .inl (.inr ⟨rfl,.inl (by decide)⟩)
       · exact .inl (.inl d)
       exact .inr d
     rintro((d|⟨d,-⟩)|d)
     · exact .inr (.inl d)
     · exact .inl d
     exact .inr (.inr d)
   job:=λX=>by
     obtain⟨j1,⟨s,p,e1⟩,⟨u,r,e2⟩⟩:=g.job X;obtain⟨R,A,g1⟩:=N s p;obtain⟨S,B,K⟩:=N u r;exact⟨j1,⟨R,A,g1.trans e1⟩,⟨S,B,K.trans e2⟩⟩}
def qm(c:aE)(k:Nat):aE:=⟨c.a.set k ((nth c.a k).take ((nth c.a k).length - 1))⟩
def LL{l:List Int}(h:0<l.length):l=l.take (l.length - 1)++[nth l (l.length - 1)]:=by
 have a:l.drop (l.length - 1)=[nth l (l.length - 1)]:=by
  rw[iS ω,show l.length - 1+1=l.length by omega,List.drop_length]
 rw[<-a,List.take_append_drop]
def bc.pop{k:Nat}(f:bc h E)(l:t<h.S.length)(p:k<(nth h.S t).a.length)(u:0<(nth (nth h.S t).a k).length)(w:b6 (qm (nth h.S t) k)=true) :
  bc {h with S:=h.S.set t (qm (nth h.S t) k)} (nth (nth (nth h.S t).a k) ((nth (nth h.S t).a k).length - 1)::E)/\je h.J (nth (nth (nth h.S t).a k) ((nth (nth h.S t).a k).length - 1)) k:=by
 have q:=LL u;have n:=f.hca _ (ar l) k p (nth (nth (nth h.S t).a k) ((nth (nth h.S t).a k).length - 1)) (ar ω);refine⟨?_,n⟩;generalize D:nth (nth (nth h.S t).a k) ((nth (nth h.S t).a k).length - 1)=a at q n |-;have r:(E++holders h).Perm (a::E++holders {h with S:=h.S.set t (qm (nth h.S t) k)}):=by
  refine List.perm_iff_count.2 λb=>?_
  have A:=iI (λc:aE=>c.a.flatten) b h.S t (qm (nth h.S t) k) l;have B:=iI (λy:List Int=>y) b (nth h.S t).a k ((nth (nth h.S t).a k).take ((nth (nth h.S t).a k).length - 1)) p;rw[<-lE,<-lE]at B;have C:=X0 (List.count b) q;simp only[C6,List.count_singleton]at C;simp only[qm]at A;simp only[holders,cC,qm,C6,List.cons_append,List.count_cons];omega
 exact {f with
   nc:=by show(h.S.set ..).length=_;rw[U1];exact f.nc
   cach:=λc d=>by
     rcases V6 d with d|rfl
     · exact f.cach c d
     exact w
   onu:=by show ∀o∈h.O,1<=o.Id/\o.Id<=h.b - 1/\0<=o.a4/\o.a4<=(h.S.set t _).length - 1;rw[U1];exact f.onu
   hca:=λc d j i b g=>by
     rcases V6 d with d|rfl
     · exact f.hca c d j i b g
     simp only[qm,U1]at i;simp only[qm,bF]at g;by_cases e:k=j
     · subst e
       rw[CC ⟨rfl,i⟩]at g;exact f.hca _ (ar l) _ i b (List.mem_of_mem_take g)
     rw[C9 λy=>e y.1]at g;exact f.hca _ (ar l) _ i b g
   hin:=λb g=>by
     rcases List.mem_cons.1 g with rfl|g
     · exact n.any
     exact f.hin b g
   nd:=r.nodup_iff.1 f.nd
   mem:=λb=>by rw[<-r.mem_iff];exact f.mem b}
def Jw(a:Int)(o:bt):Bool:=decide (a<=o.Addr)
def addO(h:ac)(a size t:Int):ac:={h with O:=ja (Jw a) h.O ⟨h.b,a,size,t⟩,b:=h.b+1}
def zZ(a:cu h=true)(b:h.b<1000000):decide (0<=h.b3/\h.b3<=1073741823/\0<=h.b1/\h.b1<=1000000/\0<=h.c0/\h.c0<=1000/\1<=h.b+1/\h.b+1<=1000000)=true:=by
 unfold cu at a;rw[C0]at a |-;omega
def bc.addO{h:ac}{E:List Int}{a size t:Int}(c:bc h (a::E))(d:Mc h.J h.M ⟨h.b,a,size,t⟩)(p:h.b<1000000)(q:0<=t/\t<=h.S.length - 1):bc (addO h a size t) E:=by
 have i:=kP (Jw a) h.O ⟨h.b,a,size,t⟩;have n:(a::E++holders h).Perm (E++holders (Ab.addO h a size t)):=by
  have r:=i.map (·.Addr);refine List.perm_iff_count.2 λb=>?_
  have u:=r.count_eq b;simp only[Z5,List.count_cons]at u;simp only[holders,cC,Ab.addO,C6,List.cons_append,List.count_cons];omega
 have j:=c.nd;rw[List.cons_append]at j;obtain⟨k,-⟩:=List.nodup_cons.1 j;have l:∀o∈h.O,o.Addr≠a:=λo d e=>k (C3.2 (.inr (by unfold holders;simp only[C3];exact .inl (.inl (.inl (O4.2 ⟨o,d,e⟩))))))
 exact {c with
   nums:=zZ c.nums p
   osr:=lO (f:=λo:bt=>o.Addr) (y:=⟨h.b,a,size,t⟩) c.osr l
   onu:=λo d=>by
     rcases cH.1 d with rfl|d
     · have:=c.nums
       unfold cu at this;rw[C0]at this;exact⟨by show 1<=h.b;omega,by show h.b<=h.b+1 - 1;omega,q⟩
     have:=c.onu o d;exact⟨this.1,by show o.Id<=h.b+1 - 1;omega,this.2.2⟩
   oid:=by
     show((ja (Jw a) h.O ⟨h.b,a,size,t⟩).map (·.Id)).Nodup;rw[(i.map _).nodup_iff,Z5];refine List.nodup_cons.2 ⟨λw=>?_,c.oid⟩;obtain⟨o,d,e⟩:=O4.1 w;have:=(c.onu o d).2.1;simp only at e;omega
   oow:=λo g=>by
     rcases cH.1 g with rfl|g
     · exact d
     exact c.oow o g
   hin:=λb A=>c.hin b (O5 _ A)
   nd:=n.nodup_iff.1 c.nd
   mem:=λb=>by rw[<-n.mem_iff];exact c.mem b}
def fI(xs:List aB)(n:Int):Nat->Int
 | 0=>-1
 | i+1=>if n<=(nth xs i).a8/\(fI xs n i<0\/(nth xs i).a8<(nth xs (fI xs n i).toNat).a8) then(i:Nat) else fI xs n i
def fg(xs:List aB)(n:Int):Int:=fI xs n xs.length
def ax(xs:List aB)(n:Int):List aB × Int × Bool:=
 if fg xs n<0 then(xs,-1,false)
 else if(nth xs (fg xs n).toNat).a8=n then(dele xs (fg xs n).toNat,(nth xs (fg xs n).toNat).At,true)
 else(xs.set (fg xs n).toNat ⟨(nth xs (fg xs n).toNat).At+n,(nth xs (fg xs n).toNat).a8 - n⟩,(nth xs (fg xs n).toNat).At,true)
def rW(xs:List aB)(n:Int):∀i,i<=xs.length->fI xs n i = -1\/(0<=fI xs n i/\fI xs n i<i/\n<=(nth xs (fI xs n i).toNat).a8)
 | 0,_=>.inl rfl
 | i+1,b=>by
  have a:=rW xs n i ω;unfold fI;split
  ·rename_i h;right;rw[Z2];exact⟨ω,ω,h.1⟩
  rcases a with h|h
  ·exact .inl h
  exact .inr ⟨h.1,ω,h.2.2⟩
variable{xs:List aB}
def xx(h:ju xs)(a:i<j)(b:j<xs.length):(nth xs i).At+(nth xs i).a8<(nth xs j).At:=by
 have:=List.pairwise_iff_getElem.1 h.1 i j ω b a
 rwa [<-bn (O2 (show i<xs.length by omega)),<-bn (O2 b)]at this
def xg : RH xs p↔∃j,j<xs.length/\(nth xs j).At<=p/\p<(nth xs j).At+(nth xs j).a8:=by
 unfold RH;constructor
 ·rintro⟨r,b,h⟩
  obtain⟨j,a,rfl⟩:=aP b;exact⟨j,a,h⟩
 rintro⟨j,a,h⟩
 exact⟨_,ar a,h⟩
def oc{pages:Int}{n:Int}(h:bC pages xs=true)(T:1<=n)(t:(ax xs n).2.2=true) :
  bC pages (ax xs n).1=true/\0<=(ax xs n).2.1/\(ax xs n).2.1+n<=pages/\(∀p,RH (ax xs n).1 p↔RH xs p/\¬((ax xs n).2.1<=p/\p<(ax xs n).2.1+n))/\∀p,(ax xs n).2.1<=p->p<(ax xs n).2.1+n->RH xs p:=by
 obtain⟨o,u,J⟩:=fT.1 h;have K:=rW xs n xs.length (I3 _);unfold ax at t |-;change fg xs n = -1\/_ at K;split at t
 ·cases t
 rename_i w;rw[C9 w];obtain⟨O,P,L⟩:=K.resolve_left ω;change 0<=fg xs n at O;change fg xs n<xs.length at P;change n<=(nth xs (fg xs n).toNat).a8 at L;generalize Q:(fg xs n).toNat=b at L |-;have g:b<xs.length:=ω
 have M:=u _ (ar g);have q:∀j,j<xs.length->j≠b->(nth xs j).At+(nth xs j).a8<(nth xs b).At\/(nth xs b).At+(nth xs b).a8<(nth xs j).At:=λj a k=>by
  rcases Nat.lt_or_gt_of_ne k with A|B
  ·exact .inl (xx o A g)
  exact .inr (xx o B a)
 split
 ·rename_i R
  have C:(dele xs b).Sublist xs:=eP ..;refine⟨fT.2 ⟨⟨o.1.sublist C,λy l=>o.2 y (C.subset l)⟩,λy l=>u y (C.subset l),J⟩,M.1,by show(nth xs b).At+n<=pages;omega,λp=>?_,λp D E=>xg.2 ⟨b,g,D,by show p<_;simp only at E;omega⟩⟩;simp only;rw[xg (xs:=xs)];constructor
  ·rintro⟨r,F,f,d⟩
   obtain⟨j,a,k,rfl⟩:=df.1 F;refine⟨⟨j,a,f,d⟩,λe=>?_⟩;have:=q j a k;omega
  rintro⟨⟨j,a,f,d⟩,G⟩
  exact⟨_,df.2 ⟨j,a,λe=>by subst e;omega,rfl⟩,f,d⟩
 rename_i R;have c:∀j,nth (xs.set b ⟨(nth xs b).At+n,(nth xs b).a8 - n⟩) j=if j=b then⟨(nth xs b).At+n,(nth xs b).a8 - n⟩ else nth xs j:=λj=>by
  rw[bF];by_cases e:j=b
  ·rw[CC ⟨e.symm,ω⟩,CC e]
  rw[C9 λz=>e z.1.symm,C9 e]
 refine⟨fT.2 ⟨⟨?_,λy l=>?_⟩,λy l=>?_,J⟩,M.1,by show(nth xs b).At+n<=pages;omega,λp=>?_,λp D E=>xg.2 ⟨b,g,D,by simp only at E;omega⟩⟩
 ·rw[List.pairwise_iff_getElem]
  intro i j N a H;rw[<-bn (O2 N),<-bn (O2 a),c,c];simp only[U1]at N a;have S:=xx o H a;split
  ·rename_i e;subst e
   rw[C9 ω];simp only;omega
  split
  ·rename_i e;subst e
   simp only;omega
  exact S
 ·rcases dZ l with rfl|⟨j,a,-,rfl⟩
  ·simp only;omega
  exact o.2 _ (ar a)
 ·rcases dZ l with rfl|⟨j,a,-,rfl⟩
  ·simp only;omega
  exact u _ (ar a)
 simp only;rw[xg,xg,U1];constructor
 ·rintro⟨j,a,f,d⟩
  rw[c]at f d;split at f
  ·rename_i e;subst e
   rw[CC rfl]at d;simp only at f d;exact⟨⟨j,a,ω,ω⟩,ω⟩
  rename_i e;rw[C9 e]at d;have:=q j a e;exact⟨⟨j,a,f,d⟩,ω⟩
 rintro⟨⟨j,a,f,d⟩,G⟩
 refine⟨j,a,?_⟩;rw[c];split
 ·rename_i e;subst e
  simp only;omega
 exact⟨f,d⟩
def o7(k:am):Int:=cW (λu=>!u) k.F.W.a5
def rp(k:am)(p:Int)(f:Nat):am:={k with F:=⟨⟨k.F.W.T,k.F.W.a5.set f true⟩,⟨k.F.R.K.set p.toNat ⟨2,(f:Nat)⟩⟩⟩}
def newK(k:am)(p:Int):am × Bool:=if refd k=true\/o7 k<0 then(cg k,false) else(rp (cg k) p (o7 k).toNat,true)
def F6(h:¬o7 k<0):(o7 k).toNat<k.F.W.a5.length/\nth k.F.W.a5 (o7 k).toNat=false:=by
 unfold o7 at h |-;rcases oU (λu=>!u) k.F.W.a5 with e|⟨n,a,e,b⟩
 ·omega
 rw[e,Z2];exact⟨a,by simpa using b⟩
def zR(h:aF k=true)(b:f<k.F.W.a5.length)(c:nth k.F.W.a5 f=false)(q:Nat)(d:q<k.F.R.K.length)(g:(nth k.F.R.K q).e≠0):(nth k.F.R.K q).o≠(f:Nat):=by
 obtain⟨j,l,n,i,o⟩:=aG.1 h;intro e;have a:=i f b;rw[c]at a;have:=of_decide_eq_false a.symm;exact this (dU.2 ⟨q,d,g,e⟩)
def PW(h:aF k=true)(L:0<=p/\p<k.F.R.K.length)(n:(nth k.F.R.K p.toNat).e=0)(o:f<k.F.W.a5.length)(r:nth k.F.W.a5 f=false):aF (rp k p f)=true:=by
 have t:=zR h o r;obtain⟨u,w,y,A,B⟩:=aG.1 h;obtain⟨C,D,E,F⟩:=bf.1 w;obtain⟨G,H,J⟩:=bu.1 y;have a:∀q,nth (k.F.R.K.set p.toNat ⟨2,(f:Nat)⟩) q=if p.toNat=q then⟨2,(f:Nat)⟩ else nth k.F.R.K q:=λq=>by
  rw[bF];by_cases i:p.toNat=q
  ·rw[CC ⟨i,ω⟩,CC i]
  rw[C9 (λe=>i e.1),C9 i]
 refine aG.2 ⟨u,bf.2 ⟨C,D,by simp only[rp,U1];exact E,λj b=>?_⟩,bu.2 ⟨λj b=>?_,?_,?_⟩,λj b=>?_,B⟩
 ·replace b:j<k.F.W.T.length:=b
  show ic (nth k.F.W.T j) (nth (k.F.W.a5.set f true) j)=true;have d:=F j b;rw[bF];split
  ·unfold ic at d |-
   simp only[I0,C0,v4]at d |-;refine⟨d.1,λv K=>?_⟩;have:=d.2 v K;unfold iG at this |-;simp only[I0]at this;rw[this.1];rfl
  exact d
 ·simp only[rp,U1]at b |-
  rw[a];split
  ·unfold l7;rw[C0];simp only;omega
  exact G j b
 ·simp only[rp,U1];exact H
 ·simp only[rp,U1];exact J
 simp only[rp,U1]at b;show nth (k.F.W.a5.set f true) j=_;rw[bF];by_cases e:f=j
 ·subst e
  rw[CC ⟨rfl,b⟩];refine(O0 (dU.2 ⟨p.toNat,?_,?_,?_⟩)).symm
  ·simp only[rp,U1];omega
  ·simp only[rp,a,CC];decide
  simp only[rp,a,CC]
 rw[C9 λz=>e z.1,A j b];refine decide_eq_decide.2 ?_;rw[dU,dU];simp only[rp,U1,a];constructor
 ·rintro⟨q,l,g,c⟩
  refine⟨q,l,?_⟩;rw[C9 λz=>g (by rw[<-z];exact n)];exact⟨g,c⟩
 rintro⟨q,l,g,c⟩
 by_cases z:p.toNat=q
 ·rw[CC z]at c
  simp only at c;omega
 rw[C9 z]at g c;exact⟨q,l,g,c⟩
structure vM(k:am)(p:Int)(r:am × Bool):Prop where
 ker:aF r.1=true
 len:r.1.F.R.K.length=k.F.R.K.length
 calls:r.1.Calls=k.Calls+1
 ref:r.1.a0=k.a0
 cells:r.1.F.W.T=k.F.W.T
 no:r.2=false->r.1=cg k
 yes:r.2=true->∃f:Nat,f<k.F.W.a5.length/\nth k.F.W.a5 f=false/\(∀q:Nat,nth r.1.F.R.K q=if(q:Int)=p then⟨2,(f:Nat)⟩ else nth k.F.R.K q)/\∀q,q<k.F.R.K.length->(nth k.F.R.K q).e≠0->(nth k.F.R.K q).o≠(f:Nat)
def vM.of(h:aF k=true)(c:k.Calls≠100000)(f:0<=p/\p<k.F.R.K.length)(g:(nth k.F.R.K p.toNat).e=0):vM k p (newK k p):=by
 unfold newK;split
 ·exact⟨mS h c,rfl,rfl,rfl,rfl,λ_=>rfl,λe=>by cases e⟩
 rename_i d;rw[not_or]at d;obtain⟨a,b⟩:=F6 d.2;refine⟨PW (mS h c) f g a b,by simp[rp,cg],rfl,rfl,rfl,λe=>(by cases e),λ_=>⟨_,a,b,λq=>?_,λq=>zR h a b q⟩⟩;simp only[rp,cg,bF];by_cases e:(q:Int)=p
 ·rw[CC ⟨ω,ω⟩,CC e]
 rw[C9 λz=>e ω,C9 e]
def newsK(k:am)(p:Int):Nat->am × Nat
 | 0=>(k,0)
 | i+1=>if(newsK k p i).2=i then((newK (newsK k p i).1 (p+(i:Nat))).1,if(newK (newsK k p i).1 (p+(i:Nat))).2=true then i+1 else i) else newsK k p i
structure jh(k:am)(p:Int)(i:Nat)(r:am × Nat):Prop where
 ker:aF r.1=true
 len:r.1.F.R.K.length=k.F.R.K.length
 calls:k.Calls<=r.1.Calls/\r.1.Calls<=k.Calls+i
 ref:r.1.a0=k.a0
 cells:r.1.F.W.T=k.F.W.T
 le:r.2<=i
 out:∀q:Nat,¬(p<=q/\(q:Int)<p+r.2)->nth r.1.F.R.K q=nth k.F.R.K q
 new:∀q:Nat,p<=q->(q:Int)<p+r.2->(nth r.1.F.R.K q).e=2/\∀u:Nat,u<k.F.R.K.length->(nth r.1.F.R.K u).e≠0->(nth r.1.F.R.K u).o=(nth r.1.F.R.K q).o->u=q
def jh.of{k:am}{p:Int}{n:Nat}(h:aF k=true)(G:k.Calls+n<=100000)(H:0<=p/\p+n<=k.F.R.K.length)(C:∀q:Nat,p<=q->(q:Int)<p+n->(nth k.F.R.K q).e=0):∀i,i<=n->jh k p i (newsK k p i)
 | 0,_=>⟨h,rfl,⟨v5 _,by show k.Calls<=k.Calls+((0:Nat):Int);omega⟩,rfl,rfl,I3 _,λ_ _=>rfl,λq o d=>by simp only[newsK]at d;omega⟩
 | i+1,L=>by
  have a:=jh.of h G H C i ω;unfold newsK;split
  case isFalse=>exact⟨a.ker,a.len,⟨a.calls.1,by have:=a.calls.2;omega⟩,a.ref,a.cells,by have:=a.le;omega,a.out,a.new⟩
  rename_i t;generalize newsK k p i=r at a t |-;have J:=a.calls;have y:(nth r.1.F.R.K (p+(i:Nat)).toNat).e=0:=by
   rw[a.out _ ω];exact C _ ω ω
  have s:=vM.of (p:=p+(i:Nat)) a.ker ω ⟨ω,by rw[a.len];omega⟩ y;generalize newK r.1 (p+(i:Nat))=w at s |-;refine⟨s.ker,s.len.trans a.len,⟨by simp only[s.calls];omega,by simp only[s.calls];omega⟩,s.ref.trans a.ref,s.cells.trans a.cells,by simp only;split<;>omega,λq j=>?_,λq o d=>?_⟩
  ·simp only at j |-
   cases e:w.2 with
   | false=>
    rw[s.no e];rw[e]at j;exact a.out q (by rw[t];simpa using j)
   | true=>
    obtain⟨f,-,-,g,-⟩:=s.yes e;rw[e,CC rfl]at j;rw[g,C9 ω];exact a.out q ω
  simp only at d |-;cases e:w.2 with
  | false=>
   rw[s.no e];rw[e]at d;exact a.new q o (by rw[t];simpa using d)
  | true=>
   obtain⟨f,-,-,g,D⟩:=s.yes e;rw[e,CC rfl]at d;have A:q<k.F.R.K.length:=ω
   rw[g];by_cases E:(q:Int)=p+(i:Nat)
   ·rw[CC E]
    refine⟨rfl,λu B c b=>?_⟩;rw[g]at c b;by_cases l:(u:Int)=p+(i:Nat)
    ·omega
    rw[C9 l]at c b;exact absurd b (D u (by rw[a.len];exact B) c)
   rw[C9 E];obtain⟨F,K⟩:=a.new q o ω;refine⟨F,λu B c b=>?_⟩;rw[g]at c b;by_cases l:(u:Int)=p+(i:Nat)
   ·rw[CC l]at b
    exact absurd b.symm (D q (by rw[a.len];exact A) (by rw[F];decide))
   rw[C9 l]at c b;exact K u B c b
def jh.undo{r:am × Nat}(s:jh k p i r)(h:aF k=true)(d:0<=p/\p+i<=k.F.R.K.length)(e:∀q:Nat,p<=q->(q:Int)<p+i->(nth k.F.R.K q).e=0):aF (unmN r.1 p r.2)=true/\tEq k.F.R (unmN r.1 p r.2).F.R:=by
 have f:=s.le;have g:=mG s.ker d.1 r.2 (by rw[s.len];omega);refine⟨gM s.ker p r.2,((eO r.1 p r.2).1).trans s.len,λq=>?_⟩;rw[g];split
 ·rename_i a
  have c:=e q a.1 ω;obtain⟨-,-,j,-⟩:=aG.1 h;have b:=(bu.1 j).1 q ω;unfold l7 at b;rw[C0]at b;exact⟨⟨λz=>absurd rfl z,λz=>absurd c z⟩,(b.2.2.1 c).symm⟩
 rename_i a;rw[s.out q a];exact⟨Iff.rfl,rfl⟩
def Pg.add{t h:aM}{O r:List aB}{b:List aA}{d:List aD}(i:Pg t O sp la)(E:h.K.length=t.K.length)(S:p+n<=t.K.length)(hp:0<=p)(j:∀q:Nat,¬(p<=q/\(q:Int)<p+n)->nth h.K q=nth t.K q)(a:∀q:Nat,p<=q->(q:Int)<p+n->(nth h.K q).e=2/\∀u:Nat,u<t.K.length->(nth h.K u).e≠0->(nth h.K u).o=(nth h.K q).o->u=q)(J:∀q,RH r q↔RH O q/\¬(p<=q/\q<p+n))(F:∀q,q∈pgs b d↔q∈pgs sp la\/(p<=q/\q<p+n))(w:∀s∈b,0<=s.Q/\(s∈sp\/(p<=s.Q/\s.Q<p+n)))(K:∀l∈d,l∈la\/∀q∈lpgs l l.a2.toNat,p<=q/\q<p+n):Pg h r b d:=by
 have f:∀q:Nat,q<t.K.length->((nth h.K q).e≠0↔(q:Int)∈pgs b d):=λq c=>by
  rw[F];by_cases e:p<=q/\(q:Int)<p+n
  ·have:=(a q e.1 e.2).1
   exact⟨λ_=>.inr e,λ_=>by rw[this];decide⟩
  rw[j q e,i.own q c];exact⟨.inl,λz=>z.resolve_right e⟩
 refine⟨λl A q c u k L G=>?_,λq c=>?_,λq c=>f q (by rw[<-E];exact c),λq c=>?_,λs P u k M H=>?_⟩
 ·rw[E]at k
  have B:=gd (sp:=b) A c;have C:q<t.K.length:=by
   rcases(F _).1 B with g|g
   ·have:=i.bnd _ g;omega
   omega
  by_cases e:p<=q/\(q:Int)<p+n
  ·exact(a q e.1 e.2).2 u k L G
  have N:=(K l A).resolve_right λg=>e (g _ c)
  by_cases o:p<=u/\(u:Int)<p+n
  ·exact((a u o.1 o.2).2 q C ((f q C).2 B) G.symm).symm
  rw[j q e,j u o]at G;rw[j u o]at L;exact i.one l N q c u k L G
 ·rw[E]
  rcases(F _).1 c with g|g
  ·exact i.bnd _ g
  omega
 ·rw[E]at c
  rw[J];by_cases e:p<=q/\(q:Int)<p+n
  ·have:=(a q e.1 e.2).1
   exact⟨λ_ z=>z.2 e,λ_=>by rw[this];decide⟩
  rw[j q e,i.fre q c];exact⟨λz y=>z y.1,λz y=>z ⟨y,e⟩⟩
 obtain⟨T,U⟩:=w s P;obtain⟨V,W⟩:=w u k;have D:∀y∈b,0<=y.Q->y.Q.toNat<t.K.length/\((y.Q.toNat:Nat):Int)=y.Q/\(nth h.K y.Q.toNat).e≠0:=λy X Y=>by
  have g:=d6 (la:=d) X;have Q:y.Q.toNat<t.K.length:=by
   rcases(F _).1 g with R|R
   ·have:=i.bnd _ R;omega
   omega
  exact⟨Q,ω,(f _ Q).2 (by rw[show((y.Q.toNat:Nat):Int)=y.Q by omega];exact g)⟩
 obtain⟨Z,sc,sd⟩:=D s P T;obtain⟨ub,uc,ud⟩:=D u k V;by_cases es:p<=s.Q/\s.Q<p+n
 ·have:=(a s.Q.toNat ω ω).2 _ ub ud H.symm
  omega
 by_cases o:p<=u.Q/\u.Q<p+n
 ·have:=(a u.Q.toNat ω ω).2 _ Z sd H
  omega
 rw[j _ ω,j _ ω]at H;exact i.mesh s (U.resolve_right es) u (W.resolve_right o) M H
def FC{a:List aA}{b:List aD}(c:a.Perm sp)(d:b.Perm la):(pgs a b).Perm (pgs sp la):=by
 unfold pgs;exact(c.map _).append (d.flatMap_right _)
def Br(p:Int)(s:aA):Bool:=decide (p<=s.Q)
def P2(p:Int)(l:aD):Bool:=decide (p<=l.Q)
def addS(h:ac)(k:am)(a:List aB)(p c:Int):ac:={h with G:=k,j:=a,J:=ja (Br p) h.J ⟨p,c,0⟩}
def ip(a:bc h E){n:Int}(j:1<=n)(k:(ax h.j n).2.2=true):0<=(ax h.j n).2.1/\(ax h.j n).2.1+n<=(tbl h).K.length/\(∀q:Nat,(ax h.j n).2.1<=q->(q:Int)<(ax h.j n).2.1+n->(nth (tbl h).K q).e=0)/\∀q:Int,(ax h.j n).2.1<=q->q<(ax h.j n).2.1+n->q∉pgs h.J h.M:=by
 obtain⟨r,l,f,t,o⟩:=oc a.rng j k;have g:∀q:Nat,(ax h.j n).2.1<=q->(q:Int)<(ax h.j n).2.1+n->(nth (tbl h).K q).e=0:=λq b c=>by
  have d:q<(tbl h).K.length:=by
   have:(ax h.j n).2.1+n<=((tbl h).K.length:Nat):=f;omega
  by_cases e:(nth (tbl h).K q).e=0
  ·exact e
  exact absurd (o q b c) ((a.pg.fre q d).1 e)
 refine⟨l,f,g,λq b c i=>?_⟩;have u:=a.pg.bnd q i;obtain⟨m,rfl⟩:=z3 (show 0<=q by omega);have p:=(a.pg.own m ω).2 i;exact p (g m b c)
def bc.addS{h:ac}{E:List Int}{c:Int}(a:bc h E)(H:0<=c/\c<=3)(F:(ax h.j 1).2.2=true){k:am}(s:vM h.G (ax h.j 1).2.1 (k,true)):bc (addS h k (ax h.j 1).1 (ax h.j 1).2.1 c) E:=by
 obtain⟨U,G,r3,J,r5⟩:=oc a.rng (v5 _) F;obtain⟨-,V,u3,W⟩:=ip a (v5 _) F;generalize (ax h.j 1).2.1=p at G r3 J r5 V u3 W s |-;generalize (ax h.j 1).1=fr at U J |-;obtain⟨f,f1,f2,K,f4⟩:=s.yes rfl;have M:=(bu.1 (aG.1 a.ker).2.2.1).2.2;change (tbl h).K.length<=32 at M;have X:=a.L;have N:=kP (Br p) h.J ⟨p,c,0⟩;have O:=FC N (List.Perm.refl h.M);have w:(pgs (ja (Br p) h.J ⟨p,c,0⟩) h.M).Perm (p::pgs h.J h.M):=O;have B:p∉pgs h.J h.M:=W p (v5 _) ω;have P:∀z∈h.J,z.Q≠p:=λz g e=>B (by rw[<-e];exact d6 g)
 have i:∀b d,je (ja (Br p) h.J ⟨p,c,0⟩) b d↔je h.J b d:=λb d=>by
  constructor
  ·rintro⟨s,C,A,Q⟩
   rcases cH.1 C with rfl|C
   ·exact absurd A (vY rfl b)
   exact⟨s,C,A,Q⟩
  rintro⟨s,C,A⟩
  exact⟨s,cH.2 (.inr C),A⟩
 exact {a with
   ker:=s.ker
   rng:=by show bC ((k.F.R.K.length:Nat):Int) fr=true;rw[s.len];exact U
   lay:=by
     obtain⟨l1,l2,l3⟩:=ee a.lay;unfold bq;simp only[I0,C0];refine⟨⟨v4.2 λz g=>?_,l2⟩,w.nodup_iff.2 (List.nodup_cons.2 ⟨B,l3⟩)⟩;rcases cH.1 g with rfl|g
     · have R:0<=lim c:=by
         have:=(gi H).1;obtain rfl|rfl|rfl|rfl:c=0\/c=1\/c=2\/c=3:=ω
         all_goals decide
       exact O0 ⟨G,by show p<=31;omega,H.1,H.2,v5 _,R⟩
     exact X.sok z g
   srs:=lO (f:=λz:aA=>z.Q) (y:=⟨p,c,0⟩) a.srs P
   pg:=by
     refine a.pg.add (p:=p) (n:=1) s.len (by exact V) G (λq Y=>?_) (λq q1 q2=>?_) (λq=>J q) (λq=>?_) (λz g=>?_) (λl hl=>.inl hl)
     · exact(K q).trans (C9 ω)
     · have Y:(q:Int)=p:=ω
       have Z:nth k.F.R.K q = ⟨2,(f:Nat)⟩:=(K q).trans (CC Y);refine⟨X0 bk.e Z,λu S t r=>?_⟩;have fu:nth k.F.R.K u=if(u:Int)=p then⟨2,(f:Nat)⟩ else nth h.G.F.R.K u:=K u
       change (nth k.F.R.K u).e≠0 at t;change (nth k.F.R.K u).o=(nth k.F.R.K q).o at r;rw[fu]at t r;rw[Z]at r;by_cases eu:(u:Int)=p
       · omega
       rw[C9 eu]at t r;exact absurd r (f4 u S t)
     · show q∈pgs (ja (Br p) h.J ⟨p,c,0⟩) h.M↔_
       rw[w.mem_iff,List.mem_cons];constructor
       · rintro(e|e)
         · exact .inr ⟨ω,ω⟩
         exact .inl e
       rintro(e|e)
       · exact .inr e
       exact .inl ω
     rcases cH.1 g with rfl|g
     · exact⟨G,.inr ⟨v5 _,by show p<p+((1:Nat):Int);omega⟩⟩
     exact⟨(aI (X.sok z g)).1,.inl g⟩
   oow:=λo F=>by
     rcases a.oow o F with⟨z,g,A,Q⟩|A
     · exact .inl ⟨z,cH.2 (.inr g),A,Q⟩
     exact .inr A
   hca:=λd hd j hj b D=>(i b j).2 (a.hca d hd j hj b D)
   hqu:=λy T=>(i _ _).2 (a.hqu y T)
   hfl:=λb D=>(i _ _).2 (a.hfl b D)
   hin:=λb D=>(i _ _).2 (a.hin b D)
   mem:=λb=>(a.mem b).trans (by
     show mM h.J h.M b↔mM (ja (Br p) h.J ⟨p,c,0⟩) h.M b;unfold mM;rw[i])
   job:=λhm=>by
     obtain⟨j1,⟨y,T,e1⟩,⟨u,S,e2⟩⟩:=a.job hm;exact⟨j1,⟨y,cH.2 (.inr T),e1⟩,⟨u,cH.2 (.inr S),e2⟩⟩}
def addL(h:ac)(k:am)(a:List aB)(p n size t:Int):ac:={h with G:=k,j:=a,M:=ja (P2 p) h.M ⟨p,n,size⟩,O:=ja (Jw (16*p)) h.O ⟨h.b,16*p,size,t⟩,b:=h.b+1}
def bc.addL{h:ac}{E:List Int}{size t:Int}{n:Nat}(a:bc h E)(g:9<=size/\size<=1000)(J:(n:Int)=(size+15) / 16)(i:(ax h.j n).2.2=true){k:am}(s:jh h.G (ax h.j n).2.1 n (k,n))(hn:h.b<1000000)(ht:0<=t/\t<=h.S.length - 1) :
  bc (addL h k (ax h.j n).1 (ax h.j n).2.1 n size t) E:=by
 have B:(1:Int)<=n:=ω
 obtain⟨V,K,r3,M,r5⟩:=oc a.rng B i;obtain⟨-,W,u3,H⟩:=ip a B i;generalize (ax h.j n).2.1=p at K r3 M r5 W u3 H s |-;generalize (ax h.j n).1=fr at V M |-;have N:=(bu.1 (aG.1 a.ker).2.2.1).2.2;change (tbl h).K.length<=32 at N;have O:=a.L;have P:=kP (P2 p) h.M ⟨p,n,size⟩;have C:=kP (Jw (16*p)) h.O ⟨h.b,16*p,size,t⟩;have Q:lpgs ⟨p,n,size⟩ ((n:Nat):Int).toNat=lpgs ⟨p,n,size⟩ n:=by rw[Z2]
 have D:(pgs h.J (ja (P2 p) h.M ⟨p,n,size⟩)).Perm (lpgs ⟨p,n,size⟩ n++pgs h.J h.M):=by
  refine(FC (List.Perm.refl h.J) P).trans ?_;unfold pgs;rw[X6];simp only[Q];rw[<-W5,<-W5];exact List.perm_append_comm.append_right _
 have u:∀q,q∈lpgs ⟨p,n,size⟩ n↔p<=q/\q<p+n:=λq=>by
  rw[dx];constructor
  ·rintro⟨j,hj,rfl⟩;exact⟨by show p<=p+(j:Int);omega,by show p+(j:Int)<_;omega⟩
  rintro⟨X,Y⟩;exact⟨(q - p).toNat,ω,by show q=p+_;omega⟩
 have R:(lpgs ⟨p,n,size⟩ n).Nodup:=by
  unfold lpgs List.Nodup;rw[List.pairwise_map];exact List.nodup_range.imp λr e=>r (by simp only at e;omega)
 have r:∀z∈h.M,z.Q≠p:=λz g e=>H p (v5 _) ω (by rw[<-e];exact gd g (dx.2 ⟨0,by have:=aS (O.lok z g);omega,ω⟩))
 have S:¬mM h.J h.M (16*p):=by
  rintro(⟨z,g,d,-⟩|⟨l,c,e⟩)
  ·exact H p (v5 _) ω (by rw[show p=z.Q by have a1:=d.1;have a2:=d.2.1;omega];exact d6 g)
  exact r l c ω
 have F:(16*p)∉E++holders h:=λT=>S ((a.mem _).1 T)
 have U:∀o∈h.O,o.Addr≠16*p:=λo i e=>F (C3.2 (.inr (by unfold holders;simp only[C3];exact .inl (.inl (.inl (O4.2 ⟨o,i,e⟩))))))
 have Z:(E++holders (Ab.addL h k fr p n size t)).Perm ((16*p)::(E++holders h)):=by
  have h0:=C.map (·.Addr);refine List.perm_iff_count.2 λb=>?_
  have d:=h0.count_eq b;simp only[Z5,List.count_cons]at d;simp only[holders,cC,Ab.addL,C6,List.count_cons];omega
 exact {a with
   ker:=s.ker
   rng:=by show bC ((k.F.R.K.length:Nat):Int) fr=true;rw[s.len];exact V
   lay:=by
     obtain⟨l1,l2,l3⟩:=ee a.lay;unfold bq;simp only[I0,C0];refine⟨⟨l1,v4.2 λz w=>?_⟩,D.nodup_iff.2 (List.nodup_append.2 ⟨R,l3,λq G b hb e=>?_⟩)⟩
     · rcases cH.1 w with rfl|w
       · exact O0 ⟨g.1,g.2,J,K,by show p<=32 - (n:Int);omega⟩
       exact O.lok z w
     subst e;have:=(u q).1 G;exact H q this.1 this.2 hb
   srl:=lO (f:=λz:aD=>z.Q) (y:=⟨p,n,size⟩) a.srl r
   pg:=by
     refine a.pg.add (p:=p) (n:=n) s.len (by exact W) K (λq G=>s.out q G) (λq X Y=>s.new q X Y) (λq=>M q) (λq=>?_) (λz g=>⟨(aI (O.sok z g)).1,.inl g⟩) (λl c=>?_)
     · show q∈pgs h.J (ja (P2 p) h.M ⟨p,n,size⟩)↔_
       rw[D.mem_iff,C3,u];exact Or.comm
     rcases cH.1 c with rfl|c
     · exact .inr λq G=>(u q).1 (by simpa using G)
     exact .inl c
   nums:=zZ a.nums hn
   osr:=lO (f:=λo:bt=>o.Addr) (y:=⟨h.b,16*p,size,t⟩) a.osr U
   onu:=λo i=>by
     rcases cH.1 i with rfl|i
     · have:=a.nums
       unfold cu at this;rw[C0]at this;exact⟨by show 1<=h.b;omega,by show h.b<=h.b+1 - 1;omega,ht⟩
     have:=a.onu o i;exact⟨this.1,by show o.Id<=h.b+1 - 1;omega,this.2.2⟩
   oid:=by
     show((ja (Jw (16*p)) h.O ⟨h.b,16*p,size,t⟩).map (·.Id)).Nodup;rw[(C.map _).nodup_iff,Z5];refine List.nodup_cons.2 ⟨λT=>?_,a.oid⟩;obtain⟨o,i,e⟩:=O4.1 T;have:=(a.onu o i).2.1;simp only at e;omega
   oow:=λo A=>by
     rcases cH.1 A with rfl|A
     · exact .inr ⟨_,cH.2 (.inl rfl),rfl,rfl⟩
     rcases a.oow o A with d|⟨l,c,d⟩
     · exact .inl d
     exact .inr ⟨l,cH.2 (.inr c),d⟩
   nd:=Z.nodup_iff.2 (List.nodup_cons.2 ⟨F,a.nd⟩)
   mem:=λb=>by
     rw[Z.mem_iff,List.mem_cons,a.mem b];show _↔mM h.J (ja (P2 p) h.M ⟨p,n,size⟩) b;unfold mM;constructor
     · rintro(rfl|d|⟨l,c,e⟩)
       · exact .inr ⟨_,cH.2 (.inl rfl),rfl⟩
       · exact .inl d
       exact .inr ⟨l,cH.2 (.inr c),e⟩
     rintro(d|⟨l,c,e⟩)
     · exact .inr (.inl d)
     rcases cH.1 c with rfl|c
     · exact .inl e
     exact .inr (.inr ⟨l,c,e⟩)}
structure JK(h h':ac):Prop where
 job:h'.Y=h.Y
 msh:h'.u=h.u
 sp:∀s∈h.J,f6 h s.Q=true->∃s'∈h'.J,s'.Q=s.Q/\∀u,meshable s u=true->meshable s' u=true
 ent:∀q:Nat,(nth (tbl h').K q).e≠0->((nth (tbl h).K q).e≠0/\(nth (tbl h').K q).o=(nth (tbl h).K q).o)\/∀u:Nat,(nth (tbl h').K u).e≠0->(nth (tbl h').K u).o=(nth (tbl h').K q).o->u=q
def JK.refl(h:ac):JK h h:=⟨rfl,rfl,λs a _=>⟨s,a,rfl,λ_ z=>z⟩,λ_ b=>.inl ⟨b,rfl⟩⟩
variable{h':ac}
def JK.pg(k:JK h h')(p:Int):f6 h' p=f6 h p:=by unfold f6;rw[k.job,k.msh]
def JK.trans{h1 g:ac}(a:JK h h1)(b:JK h1 g):JK h g:=by
 refine⟨b.job.trans a.job,b.msh.trans a.msh,λs o i=>?_,λq j=>?_⟩
 ·obtain⟨p,r,k,t⟩:=a.sp s o i
  obtain⟨w,y,A,B⟩:=b.sp p r (by rw[a.pg,k];exact i);exact⟨w,y,A.trans k,λu c=>B u (t u c)⟩
 rcases b.ent q j with⟨d,l⟩|d
 ·rcases a.ent q d with⟨e,C⟩|e
  ·exact .inl ⟨e,l.trans C⟩
  refine .inr λu c n=>?_
  rcases b.ent u c with⟨f,D⟩|f
  ·exact e u f (by rw[<-D,<-l];exact n)
  exact(f q j n.symm).symm
 exact .inr d
def oB.keep(f:0<=p)(d:(nth (tbl h').K p.toNat).e≠0)(g:oB (tbl h) p)(k:JK h h'):oB (tbl h') p:=λq e c=>by
 rcases k.ent p.toNat d with⟨n,i⟩|a
 ·rcases k.ent q e with⟨j,l⟩|b
  ·exact g q j (by rw[<-l,c,i])
  have:=b p.toNat d c.symm;omega
 have:=a q e c;omega
def bc.mapped(a:bc h E)(b:s∈h.J):0<=s.Q/\s.Q<(tbl h).K.length/\(nth (tbl h).K s.Q.toNat).e≠0:=by
 have c:=(aI (a.L.sok s b)).1;have d:=a.pg.bnd _ (d6 (la:=h.M) b);refine⟨c,d,(a.pg.own s.Q.toNat ω).2 ?_⟩;rw[show((s.Q.toNat:Nat):Int)=s.Q by omega];exact d6 b
def JI.keep(l:JI h)(p:bc h' E)(k:JK h h'):JI h':=by
 have d:h.u=true->∃a∈h'.J,∃b∈h'.J,a.Q=h.Y.X.a3/\b.Q=h.Y.X.a1/\meshable a b=true:=λc=>by
  obtain⟨a,n,b,o,f,g,e⟩:=l.sp c;obtain⟨q,t,u,w⟩:=k.sp a n (by unfold f6;rw[c,f];simp);obtain⟨y,A,B,C⟩:=k.sp b o (by unfold f6;rw[c,g];simp);refine⟨q,t,y,A,u.trans f,B.trans g,?_⟩;have r:=w b e;rw[gL]at r |-;exact C q r
 refine⟨λc=>?_,λc=>?_,λc=>?_,λc=>?_⟩
 ·rw[k.msh]at c;rw[k.job];exact l.ph c
 ·rw[k.msh]at c;rw[k.job];exact d c
 ·rw[k.msh]at c
  obtain⟨a,n,b,o,f,g,e⟩:=d c;obtain⟨i,D,j⟩:=p.mapped n;rw[k.job];rw[f]at i j;exact(l.sk c).keep i j k
 rw[k.msh]at c;obtain⟨a,n,b,o,f,g,e⟩:=d c;obtain⟨i,D,j⟩:=p.mapped o;rw[k.job];rw[g]at i j;exact(l.sm c).keep i j k
def JK.less(h1:h'.Y=h.Y)(c:h'.u=h.u)(d:h'.J=h.J)(b:∀q:Nat,(nth (tbl h').K q).e≠0->nth (tbl h').K q=nth (tbl h).K q):JK h h':=
 ⟨h1,c,λs e _=>⟨s,by rw[d];exact e,rfl,λ_ z=>z⟩,λq a=>.inl ⟨by rw[<-b q a];exact a,by rw[b q a]⟩⟩
def JK.eq(h1:h'.Y=h.Y)(a:h'.u=h.u)(b:h'.J=h.J)(c:tbl h'=tbl h):JK h h':=.less h1 a b λq _=>by rw[c]
def JK.clrS{h:ac}{E:List Int}{a:Int}{i:Nat}(f:bc h E)(c:i<h.J.length)(d:eE (nth h.J i) a):JK h (clrS h i a):=by
 refine⟨rfl,rfl,λs g _=>?_,λq k=>.inl ⟨k,rfl⟩⟩;obtain⟨j,l,rfl⟩:=aP g;by_cases e:j=i
 ·subst e
  have b:=f.L.sok _ (ar c);exact⟨_,iL _ c,rfl,λu n=>AR b (pN b ⟨d.1,d.2.1⟩) n⟩
 exact⟨_,jT _ l e,rfl,λ_ z=>z⟩
def JK.giveP{h:ac}{E:List Int}{i:Nat}(d:bc h E)(f:i<h.J.length)(c:f6 h (nth h.J i).Q=false):JK h (giveP h i):=by
 obtain⟨g,k,-⟩:=d.mapped (ar f);refine⟨rfl,rfl,λs l a=>?_,λq b=>.inl ?_⟩
 ·obtain⟨j,n,rfl⟩:=aP l
  exact⟨_,df.2 ⟨j,n,λe=>(by subst e;rw[c]at a;cases a),rfl⟩,rfl,λ_ z=>z⟩
 have o:=rg d.ker (p:=(nth h.J i).Q) ⟨g,k⟩ q;change (nth (cJ h.G (nth h.J i).Q).F.R.K q).e≠0 at b;show(nth h.G.F.R.K q).e≠0/\(nth (cJ h.G (nth h.J i).Q).F.R.K q).o=(nth h.G.F.R.K q).o;rw[o]at b |-;split at b
 ·exact absurd rfl b
 rename_i e;rw[C9 e];exact⟨b,rfl⟩
def JK.freeS{h:ac}{E:List Int}{a:Int}{i:Nat}(c:bc h (a::E))(b:i<h.J.length)(d:eE (nth h.J i) a):JK h (freeS h i a):=by
 have g:=c.give b d;have f:=JK.clrS c b d;unfold Ab.freeS;split
 ·rename_i e
  have j:nth (Ab.clrS h i a).J i=mY (nth h.J i) (dz (nth h.J i) a):=by unfold Ab.clrS;simp only[bF,true_and];rw[CC b]
  exact f.trans (JK.giveP (h:=Ab.clrS h i a) g (by unfold Ab.clrS;simp only[U1];exact b) (by rw[j];exact e.2))
 exact f
def JK.freeA{h:ac}{E:List Int}{a:Int}(b:bc h (a::E)):JK h (freeA h a):=by
 obtain⟨c,d,-⟩:=b.at (b.hin a (Z1 ..));exact JK.freeS b c d
def JK.recyc{h:ac}{E:List Int}{a:Int}{t:Nat}(b:bc h (a::E)):JK h (recyc t h a):=by
 unfold Ab.recyc;split
 ·exact JK.eq rfl rfl rfl rfl
 exact JK.freeA b
def JK.recycs{t:Nat}{E:List Int} : ∀{az:List Int}{h:ac},bc h (az++E)->t<h.S.length->JK h (recycs t h az)
 | [],h,_,_=>JK.refl h
 | a::az,h,b,c=>(JK.recyc (t:=t) b).trans (JK.recycs (az:=az) (h:=Ab.recyc t h a) (b.recyc c) (by rw[(nB t h a).1];exact c))
def JK.freeAs{E:List Int} : ∀{az:List Int}{h:ac},bc h (az++E)->JK h (freeAs h az)
 | [],h,_=>JK.refl h
 | a::az,h,b=>(JK.freeA b).trans (JK.freeAs (az:=az) (h:=Ab.freeA h a) b.freeA)
def JK.flushN{t:Nat}{h:ac}(c:bc h [])(d:t<h.S.length):∀{k:Nat},k<=4->JK h (flushN t h k).1
 | 0,_=>JK.refl h
 | k+1,e=>by
  obtain⟨h1,f,-⟩:=jy c d (k:=k) ω;have a:t<(Ab.flushN t h k).1.S.length:=ω
  have b:k<(nth (Ab.flushN t h k).1.S t).a.length:=by rw[(eH (h1.cach _ (ar a))).1];omega
  exact JK.trans (h1:=Ab.spilt (Ab.flushN t h k).1 t k) ((JK.flushN c d (k:=k) ω).trans (JK.eq rfl rfl rfl rfl)) (JK.freeAs (h1.spilt a b))
def tZ(a:bc h E){k:Nat}(b:k<h.M.length):0<=(nth h.M k).Q/\(nth h.M k).Q+((nth h.M k).a2.toNat:Nat)<=(tbl h).K.length:=by
 have c:=aS (a.L.lok _ (ar b));have d:=a.pg.bnd _ (gd (sp:=h.J) (ar b) (dx.2 ⟨(nth h.M k).a2.toNat - 1,ω,rfl⟩));exact⟨ω,ω⟩
def JK.freeL{h:ac}{E:List Int}{i k:Nat}(b:bc h E)(c:k<h.M.length):JK h (freeL h i k):=by
 obtain⟨d,f⟩:=tZ b c;refine JK.less rfl rfl rfl λq a=>?_
 have g:=mG b.ker d (nth h.M k).a2.toNat f q;change (nth (unmN h.G (nth h.M k).Q (nth h.M k).a2.toNat).F.R.K q).e≠0 at a;show nth (unmN h.G (nth h.M k).Q (nth h.M k).a2.toNat).F.R.K q=nth h.G.F.R.K q;rw[g]at a |-;split at a
 ·exact absurd rfl a
 rename_i e;rw[C9 e]
def JK.freeOb{h:ac}{t i:Nat}(a:bc h [])(c:i<h.O.length)(d:t<h.S.length):JK h (freeOb h t i).1:=by
 unfold Ab.freeOb;split
 ·rename_i b
  obtain⟨l,e,h1,-⟩:=(dP a (ar c)).1 b;exact JK.freeL a (vZ e h1).1
 rename_i b;split
 ·exact JK.refl h
 have h1:=a.inQuar c b;exact JK.trans (h1:=Ab.inQuar h i) (JK.eq rfl rfl rfl rfl) (JK.recycs (E:=[]) (by rw[List.append_nil];exact h1) d)
def JK.take{k sd:Int}(b:f6 h (nth h.J i).Q=false):JK h {h with b3:=sd,J:=h.J.set i (qo (nth h.J i) k)}:=by
 refine⟨rfl,rfl,λs c a=>?_,λq d=>.inl ⟨d,rfl⟩⟩;obtain⟨j,f,rfl⟩:=aP c;exact⟨_,jT _ f λe=>(by subst e;rw[b]at a;cases a),rfl,λ_ z=>z⟩
def tw{t:aM}{q:Nat}(h:(nth t.K q).e≠0):q<t.K.length:=by
 by_cases e:q<t.K.length
 ·exact e
 exfalso;apply h;unfold nth;rw[X2,W2 ω]
 rfl
def JK.addS{h:ac}{k:am}{l:List aB}{p c:Int}(s:vM h.G p (k,true)):JK h (addS h k l p c):=by
 obtain⟨f,t,w,d,n⟩:=s.yes rfl;have b:k.F.R.K.length=h.G.F.R.K.length:=s.len;refine⟨rfl,rfl,λz o _=>⟨z,cH.2 (.inr o),rfl,λ_ y=>y⟩,λq g=>?_⟩;change (nth k.F.R.K q).e≠0 at g;show((nth h.G.F.R.K q).e≠0/\(nth k.F.R.K q).o=(nth h.G.F.R.K q).o)\/∀u:Nat,(nth k.F.R.K u).e≠0->(nth k.F.R.K u).o=(nth k.F.R.K q).o->u=q
 by_cases e:(q:Int)=p
 ·refine .inr λu i a=>?_
  have j:=tw i;have f3u:=d u;have f3q:=d q;simp only at f3u f3q;rw[CC e]at f3q;rw[f3q]at a;by_cases r:(u:Int)=p
  ·omega
  rw[C9 r]at f3u;rw[f3u]at i a;exact absurd a (n u (by rw[<-b];exact j) i)
 have f3q:=d q;simp only at f3q;rw[C9 e]at f3q;rw[f3q]at g |-;exact .inl ⟨g,rfl⟩
def JK.addL{h:ac}{k:am}{g:List aB}{p size t:Int}{n:Nat}(s:jh h.G p n (k,n)):JK h (addL h k g p n size t):=by
 have a:k.F.R.K.length=h.G.F.R.K.length:=s.len;refine⟨rfl,rfl,λz i _=>⟨z,i,rfl,λ_ y=>y⟩,λq b=>?_⟩;change (nth k.F.R.K q).e≠0 at b;show((nth h.G.F.R.K q).e≠0/\(nth k.F.R.K q).o=(nth h.G.F.R.K q).o)\/∀u:Nat,(nth k.F.R.K u).e≠0->(nth k.F.R.K u).o=(nth k.F.R.K q).o->u=q
 by_cases e:p<=q/\(q:Int)<p+n
 ·exact .inr λu d c=>(s.new q e.1 e.2).2 u (by rw[<-a];exact tw d) d c
 have f:=s.out q e;simp only at f;rw[f]at b |-;exact .inl ⟨b,rfl⟩
def tO(h:ac):∀{n:Nat},n<=h.J.length->∀s∈mb h n,(aU h s.Q).length=1
 | 0,_,s,a=>by cases a
 | n+1,b,s,a=>by
  unfold mb at a;split at a
  ·rename_i e
   rcases C3.1 a with a|a
   ·exact tO h ω s a
   unfold Av at e;simp only[I0,C0]at e;rw[O1.1 a];exact e.2
  exact tO h ω s a
def bc.sole(e:bc h E)(f:s∈h.J)(h1:(aU h s.Q).length=1):oB (tbl h) s.Q:=λq a g=>by
 obtain⟨k,l,b⟩:=e.mapped f;have i:s.Q=((s.Q.toNat:Nat):Int):=ω
 rw[i,fy (by show s.Q.toNat<(tbl h).K.length;omega) b]at h1;obtain⟨z,j⟩:=List.length_eq_one_iff.1 h1;have c:(s.Q.toNat:Int)∈pagesOn (tbl h) (nth (tbl h).K s.Q.toNat).o:=eK.2 ⟨ω,b,rfl⟩;have d:(q:Int)∈pagesOn (tbl h) (nth (tbl h).K s.Q.toNat).o:=eK.2 ⟨tw a,a,g⟩;rw[j]at c d;simp only[O1]at c d;omega
def Gy(hi:bc h [])(l:h.u=false):bc (started h).1 []/\JI (started h).1:=by
 have F:=hi.nums;unfold cu at F;rw[C0]at F;have L:=(mZ (bG h).length (show 0<=h.b3/\h.b3<=1073741823 by omega) ((bG h).length - 1)).2;have n:=oh (bG h) (show 0<=h.b3/\h.b3<=1073741823 by omega);have c:cu {h with b3:=(shuf (bG h).length h.b3).2} = true:=by
  unfold cu;rw[C0];unfold shuf;simp only;omega
 cases o:mc (bG h) h.b3 with
 | nil=>
  have f:Ab.started h=({h with b3:=(shuf (bG h).length h.b3).2},false):=by unfold Ab.started;rw[o]
  rw[f];exact⟨{hi with nums:=c},⟨λe=>by simp[l]at e,λe=>by simp[l]at e,λe=>by simp[l]at e,λe=>by simp[l]at e⟩⟩
 | cons q Q=>
  obtain⟨R,S,g⟩:=n q (by rw[o];exact Z1 ..);have f:Ab.started h=({h with b3:=(shuf (bG h).length h.b3).2,u:=true,Y:=uH (dl (nth (bG h) q.A.toNat) (nth (bG h) q.B.toNat))},true):=by unfold Ab.started;rw[o]
  rw[f];have d:∀s∈bG h,s∈h.J/\oB (tbl h) s.Q:=λs M=>by
   have G:=List.mem_of_mem_take M;have H:=mR h (I3 _) s G;exact⟨H,hi.sole H (tO h (I3 _) s G)⟩
  have j:=d _ (ar (xs:=bG h) (i:=q.A.toNat) ω);have k:=d _ (ar (xs:=bG h) (i:=q.B.toNat) ω);generalize nth (bG h) q.A.toNat=a at g j |-;generalize nth (bG h) q.B.toNat=b at g k |-;obtain⟨N,T,U⟩:=uw g;have p:(dl a b).a3=a.Q/\(dl a b).a1=b.Q\/(dl a b).a3=b.Q/\(dl a b).a1=a.Q:=by
   unfold dl;split
   ·exact .inr ⟨rfl,rfl⟩
   exact .inl ⟨rfl,rfl⟩
  have r:jL (uH (dl a b))=true:=dv.2 ⟨N,by show(0:Int)<=0;omega,by show(0:Int)<=5;omega,by show(0:Int)<=0;omega,by show(0:Int)<=(((dl a b).T.length:Nat):Int);omega⟩;have t:∃x∈h.J,∃y∈h.J,x.Q=(dl a b).a3/\y.Q=(dl a b).a1/\meshable x y=true/\oB (tbl h) x.Q/\oB (tbl h) y.Q:=by
   rcases p with⟨u,w⟩|⟨u,w⟩
   ·exact⟨a,j.1,b,k.1,u.symm,w.symm,g,j.2,k.2⟩
   exact⟨b,k.1,a,j.1,u.symm,w.symm,by rw[gL];exact g,k.2,j.2⟩
  obtain⟨x,J,y,K,C,D,E,O,P⟩:=t;exact⟨{hi with nums:=c,job:=λ_=>⟨r,⟨x,J,C⟩,⟨y,K,D⟩⟩,noj:=λe=>by cases e},⟨λ_=>⟨by show(0:Int)<=0;omega,by show(0:Int)<=3;omega⟩,λ_=>⟨x,J,y,K,C,D,E⟩,λ_=>by show oB (tbl h) (dl a b).a3;rw[<-C];exact O,λ_=>by show oB (tbl h) (dl a b).a1;rw[<-D];exact P⟩⟩
def fS(m:aN)(f:Nat):aN:=⟨m.U.set f ((nth m.U f).drop 1),m.y.set (nth (nth m.U f) 0).To.toNat (nth m.y (nth (nth m.U f) 0).To.toNat++[(nth (nth m.U f) 0).Addr])⟩
def lh(m:aN)(t:Nat):aN:=⟨m.U,m.y.set t []⟩
def ij(m:aN)(f:Nat)(p:dw):aN:=⟨m.U.set f (nth m.U f++[p]),m.y⟩
variable{m:aN}
def d7 : bQ m=true↔(1<=m.U.length/\m.U.length<=4/\m.y.length=m.U.length)/\(∀i,i<m.U.length->(∀p∈nth m.U i,0<=p.To/\p.To<=(m.U.length:Int) - 1/\0<=p.Addr)/\∀a∈nth m.y i,0<=a)/\bA m m.U.length<=30:=by
 unfold bQ;simp only[I0,C0,cQ,gN,v4,ny,PC];exact and_assoc
def pz(m:aN)(f t:Nat)(x:List dw)(y:List Int)(g:f<m.U.length)(h:t<m.y.length):∀n:Nat,bA ⟨m.U.set f x,m.y.set t y⟩ n=bA m n+(if f<n then(x.length:Int) - ((nth m.U f).length:Nat) else 0)+(if t<n then(y.length:Int) - ((nth m.y t).length:Nat) else 0)
 | 0=>by simp[bA]
 | n+1=>by
  have i:=pz m f t x y g h n;have j:(nth (m.U.set f x) n).length=if f=n then x.length else(nth m.U n).length:=by
   rw[bF];by_cases e:f=n
   ·rw[CC ⟨e,ω⟩,CC e]
   rw[C9 λz=>e z.1,C9 e]
  have k:(nth (m.y.set t y) n).length=if t=n then y.length else(nth m.y n).length:=by
   rw[bF];by_cases e:t=n
   ·rw[CC ⟨e,ω⟩,CC e]
   rw[C9 λz=>e z.1,C9 e]
  simp only[bA,i,j,k];by_cases d:f=n
  ·subst d
   by_cases b:t=f
   ·subst b
    simp only[if_true,Nat.lt_irrefl,if_false,Nat.lt_succ_self];omega
   simp only[if_true,Nat.lt_irrefl,if_false,Nat.lt_succ_self,C9 b];by_cases a:t<f
   ·rw[CC a,CC (show t<f+1 by omega)];omega
   rw[C9 a,C9 (show ¬t<f+1 by omega)];omega
  by_cases b:t=n
  ·subst b
   simp only[if_true,Nat.lt_irrefl,if_false,Nat.lt_succ_self,C9 d];by_cases a:f<t
   ·rw[CC a,CC (show f<t+1 by omega)];omega
   rw[C9 a,C9 (show ¬f<t+1 by omega)];omega
  simp only[C9 d,C9 b];by_cases a:f<n
  ·rw[CC a,CC (show f<n+1 by omega)]
   by_cases c:t<n
   ·rw[CC c,CC (show t<n+1 by omega)];omega
   rw[C9 c,C9 (show ¬t<n+1 by omega)];omega
  rw[C9 a,C9 (show ¬f<n+1 by omega)];by_cases c:t<n
  ·rw[CC c,CC (show t<n+1 by omega)];omega
  rw[C9 c,C9 (show ¬t<n+1 by omega)];omega
def HW[Inhabited α]{xs:List α}(h:i<xs.length):xs.set i (nth xs i)=xs:=by
 rw[<-U2.1 (au h) |>.2];exact List.set_getElem_self h
def Ey(h:bQ m=true)(d:f<m.U.length)(n:0<(nth m.U f).length):bQ (fS m f)=true:=by
 obtain⟨⟨o,q,r⟩,g,y⟩:=d7.1 h;obtain⟨t,A⟩:=g f d;have c:=t _ (ar n);have u:(nth (nth m.U f) 0).To.toNat<m.y.length:=ω
 refine d7.2 ⟨⟨?_,?_,?_⟩,λi j=>?_,?_⟩
 ·simp only[fS,U1];exact o
 ·simp only[fS,U1];exact q
 ·simp only[fS,U1];exact r
 ·simp only[fS,U1]at j |-
  obtain⟨k,l⟩:=g i j;simp only[bF];refine⟨λp c=>?_,λa b=>?_⟩
  ·split at c
   ·rename_i e;rw[<-e.1]at k
    refine(g f d).1 p (List.mem_of_mem_drop c)
   exact k p c
  split at b
  ·rename_i e
   rcases C3.1 b with b|b
   ·rw[e.1]at b;exact l a b
   rw[O1.1 b];exact c.2.2
  exact l a b
 have w:=pz m f (nth (nth m.U f) 0).To.toNat ((nth m.U f).drop 1) (nth m.y (nth (nth m.U f) 0).To.toNat++[(nth (nth m.U f) 0).Addr]) d u m.U.length;simp only[fS,U1];rw[w,CC d,CC ω,V3,U3,List.length_singleton];omega
def QM(h:bQ m=true)(d:t<m.y.length):bQ (lh m t)=true:=by
 obtain⟨⟨e,f,g⟩,j,o⟩:=d7.1 h;refine d7.2 ⟨⟨e,f,?_⟩,λi k=>?_,?_⟩
 ·simp only[lh,U1];exact g
 ·obtain⟨l,n⟩:=j i k
  simp only[lh,bF];refine⟨l,λa b=>?_⟩;split at b
  ·cases b
  exact n a b
 have c:=pz m t t (nth m.U t) [] ω d m.U.length;rw[HW ω]at c;show bA ⟨m.U,m.y.set t []⟩ m.U.length<=30;rw[c,CC ω,CC ω,List.length_nil];omega
def kQ(h:bQ m=true)(b:Int):(aQ m).count b=(m.U.flatMap λl=>l.map (·.Addr)).count b+(m.y.flatMap λx=>x).count b:=by
 unfold aQ;rw[CC h,C6,lE]
def bc.mailed{c:List Int}(d:bc h E)(i:bQ m=true)(j:m.U.length=h.w.U.length)(k:∀b,c.count b+(aQ m).count b=E.count b+(aQ h.w).count b)(f:∀a,a∈c\/a∈aQ m->je h.J a (-1)):bc {h with w:=m} c:=by
 have g:(E++holders h).Perm (c++holders {h with w:=m}):=by
  refine List.perm_iff_count.2 λb=>?_
  have l:=k b;simp only[holders,cC,C6];omega
 exact {d with
   mail:=i
   nc:=d.nc.trans j.symm
   hfl:=λa e=>f a (.inr e)
   hin:=λa e=>f a (.inl e)
   nd:=g.nodup_iff.1 d.nd
   mem:=λb=>by rw[<-g.mem_iff];exact d.mem b}
def G5{d:List Int}(f:bc h E)(g:∀b,d.count b+(aQ m).count b=E.count b+(aQ h.w).count b):∀a,a∈d\/a∈aQ m->je h.J a (-1):=λa c=>by
 have i:=g a;have j:0<d.count a+(aQ m).count a:=by
  rcases c with c|c
  ·have:=List.count_pos_iff.2 c;omega
  have:=List.count_pos_iff.2 c;omega
 by_cases e:0<E.count a
 ·exact f.hin a (List.count_pos_iff.1 e)
 exact f.hfl a (List.count_pos_iff.1 ω)
def bc.deliv(a:bc h E)(e:f<h.w.U.length)(d:0<(nth h.w.U f).length):bc {h with w:=fS h.w f} E:=by
 have c:=Ey a.mail e d;obtain⟨⟨q,r,t⟩,j,u⟩:=d7.1 a.mail;have k:=(j f e).1 _ (ar d);have g:∀b,E.count b+(aQ (fS h.w f)).count b=E.count b+(aQ h.w).count b:=λb=>by
  rw[kQ c,kQ a.mail];have i:=iI (λl:List dw=>l.map (·.Addr)) b h.w.U f ((nth h.w.U f).drop 1) e;have n:=iI (λx:List Int=>x) b h.w.y (nth (nth h.w.U f) 0).To.toNat (nth h.w.y (nth (nth h.w.U f) 0).To.toNat++[(nth (nth h.w.U f) 0).Addr]) ω;have o:(nth h.w.U f).map (·.Addr)=(nth (nth h.w.U f) 0).Addr::((nth h.w.U f).drop 1).map (·.Addr):=by
   generalize nth h.w.U f=l at d
   match l,d with
   | p::l,_=>rfl
  simp only[fS];rw[o]at i;simp only[List.count_cons]at i;simp only[C6,List.count_singleton]at n;omega
 exact a.mailed c (by simp[fS]) g (G5 a g)
def bc.coll(c:bc h E)(d:t<h.w.y.length):bc {h with w:=lh h.w t} (nth h.w.y t++E):=by
 have a:=QM c.mail d;have e:∀b,(nth h.w.y t++E).count b+(aQ (lh h.w t)).count b=E.count b+(aQ h.w).count b:=λb=>by
  rw[kQ a,kQ c.mail];have f:=iI (λx:List Int=>x) b h.w.y t [] d;simp only[List.count_nil]at f;simp only[lh,C6];omega
 exact c.mailed a rfl e (G5 c e)
def bc.send{p:dw}(c:bc h (p.Addr::E))(e:f<h.w.U.length)(a:bQ (ij h.w f p)=true):bc {h with w:=ij h.w f p} E:=by
 have d:∀b,E.count b+(aQ (ij h.w f p)).count b=(p.Addr::E).count b+(aQ h.w).count b:=λb=>by
  rw[kQ a,kQ c.mail];have g:=iI (λl:List dw=>l.map (·.Addr)) b h.w.U f (nth h.w.U f++[p]) e;simp only[X5,Z5,List.map_nil,C6,List.count_singleton]at g;simp only[ij,List.count_cons];omega
 exact c.mailed a (by simp[ij]) d (G5 c d)
def rX(now:Int):List aT->Nat
 | []=>0
 | x::xs=>if x.b7<now - 100 then rX now xs+1 else 0
def aged(h:ac)(n:Int):ac:={h with b1:=h.b1+n,a7:=⟨h.a7.c1,h.a7.a6.drop (rX (h.b1+n) h.a7.a6)⟩}
def nG(h:ac)(n:Int):List Int:=(h.a7.a6.take (rX (h.b1+n) h.a7.a6)).map (·.Addr)
def tick(h:ac)(n:Int):ac:=freeAs (aged h n) (nG h n)
def oW(x:aT)(xs:List aT):∀n,quarCells (x::xs) (n+1)=csz x.d+quarCells xs n
 | 0=>by simp only[quarCells];show 0+csz x.d=csz x.d+0;omega
 | n+1=>by
  rw[iJ,oW x xs n,iJ];show csz x.d+quarCells xs n+csz (nth xs n).d=_;omega
def RQ(k:Int):0<=csz k:=by
 unfold csz;split
 ·exact Int.le_of_lt (Int.pow_pos (by decide))
 decide
def Ke:∀(l:List aT)(k:Nat),qc (l.drop k)<=qc l
 | [],k=>by simp
 | x::xs,0=>v5 _
 | x::xs,k+1=>by
  have a:=Ke xs k;have b:=RQ x.d;have c:qc (x::xs)=csz x.d+qc xs:=oW x xs xs.length;show qc (xs.drop k)<=qc (x::xs);omega
def bc.aged{h:ac}{E:List Int}{n:Int}(a:bc h E)(t:0<=n)(u:h.b1+n<=1000000):bc (aged h n) (nG h n++E):=by
 obtain⟨i,j,k,o,p,q⟩:=jK.1 a.quar;have c:=a.nums;unfold cu at c;rw[C0]at c;have e:=List.drop_sublist (rX (h.b1+n) h.a7.a6) h.a7.a6;have g:(E++holders h).Perm ((nG h n++E)++holders (Ab.aged h n)):=by
  refine List.perm_iff_count.2 λb=>?_
  have r:=X0 (λl:List aT=>(l.map (·.Addr)).count b) (List.take_append_drop (rX (h.b1+n) h.a7.a6) h.a7.a6);simp only[X5,C6]at r;simp only[holders,cC,Ab.aged,nG,C6];omega
 exact {a with
   nums:=by unfold cu;rw[C0];simp only[Ab.aged];omega
   quar:=jK.2 ⟨λy d=>i y (e.subset d),j.sublist e,k.sublist (e.map _),o,p,t5 (Ke _ _) q⟩
   snc:=λy d=>by
     have:=a.snc y (e.subset d);show y.b7<=h.b1+n;omega
   hqu:=λy d=>a.hqu y (e.subset d)
   hin:=λb f=>by
     rcases C3.1 f with f|f
     · obtain⟨y,d,rfl⟩:=O4.1 f
       exact(a.hqu y (List.mem_of_mem_take d)).any
     exact a.hin b f
   nd:=g.nodup_iff.1 a.nd
   mem:=λb=>by rw[<-g.mem_iff];exact a.mem b}
def bc.tick{h:ac}{n:Int}(a:bc h [])(b:0<=n)(c:h.b1+n<=1000000):bc (tick h n) []/\JK h (tick h n):=by
 have h1:=a.aged b c;exact⟨bc.freeAs h1,JK.trans (h1:=Ab.aged h n) (JK.eq rfl rfl rfl rfl) (JK.freeAs h1)⟩
def collect(h:ac)(t:Nat):ac:=recycs t {h with w:=lh h.w t} (nth h.w.y t)
def bc.collect{h:ac}{t:Nat}(a:bc h [])(b:t<h.S.length):bc (collect h t) []/\JK h (collect h t):=by
 have h1:=a.coll (t:=t) (by rw[(d7.1 a.mail).1.2.2,<-a.nc];exact b);exact⟨bc.recycs h1 b,JK.trans (h1:={h with w:=lh h.w t}) (JK.eq rfl rfl rfl rfl) (JK.recycs h1 b)⟩
def MN(h:ac)(t i:Nat):ac:={h with G:=fk h.G (nth h.O i).Addr (csz (aL (nth h.O i).q)).toNat,O:=dele h.O i,w:=ij h.w t ⟨(nth h.O i).a4,(nth h.O i).Addr⟩}
def freeT(h:ac)(t i:Nat):ac × Int:=
 if aL (nth h.O i).q<0 then(freeL h i (yX h (nth h.O i).Addr),0)
 else if(af (tbl h) ((nth h.O i).Addr / 16)).e=1 then(h,5)
 else if(nth h.O i).a4=t then(Eh h t i,0)
 else if bQ (ij h.w t ⟨(nth h.O i).a4,(nth h.O i).Addr⟩)=true then(MN h t i,0) else(h,5)
def AC(e:(nth h.O i).a4=t):freeT h t i=freeOb h t i:=by
 unfold freeT freeOb;rw[CC e]
def bc.freeT{h:ac}{t i:Nat}(a:bc h [])(b:i<h.O.length)(c:t<h.S.length):bc (freeT h t i).1 []/\JK h (freeT h t i).1:=by
 by_cases e:(nth h.O i).a4=t
 ·rw[AC e];exact⟨a.freeOb b c,JK.freeOb a b c⟩
 have d:=a.freeOb b c;have f:=JK.freeOb a b c;unfold Ab.freeOb at d f;unfold Ab.freeT;split
 ·rename_i g
  rw[CC g]at d f;exact⟨d,f⟩
 rename_i g;rw[C9 g]at d f;split
 ·exact⟨a,JK.refl h⟩
 split
 ·rename_i j
  obtain⟨⟨s,l,n,o⟩,u⟩:=(dP a (ar b)).2 g;have q:=a.dropO b (je.any ⟨s,l,n,.inr o⟩);have r:=q.cells (k:=fk h.G (nth h.O i).Addr (csz (aL (nth h.O i).q)).toNat) (Fz a.ker _ _) rfl;exact⟨bc.send (p:=⟨(nth h.O i).a4,(nth h.O i).Addr⟩) r (by show t<h.w.U.length;rw[<-a.nc];exact c) j,JK.eq rfl rfl rfl rfl⟩
 exact⟨a,JK.refl h⟩
def dC(k:am)(a v:Int):am:=setCell k (cU k a) (a % 16) v
def xU(h:aF k=true)(b:(af k.F.R (a / 16)).e≠0)(c:0<=v/\v<=999):aF (dC k a v)=true:=by
 obtain⟨d,e,-⟩:=g9 h b;exact rv h (f:=cU k a) d e c
def bc.store(b:bc h [])(c:(af h.G.F.R (a / 16)).e≠0)(d:0<=v/\v<=999):bc {h with G:=dC h.G a v} []/\JK h {h with G:=dC h.G a v}:=
 ⟨b.cells (xU b.ker c d) rfl,JK.eq rfl rfl rfl rfl⟩
def Qe{xs:List Int}{x:Int}(h:dd xs.length (λj=>decide (nth xs j≠x))=true):x∉xs:=λb=>by
 obtain⟨j,a⟩:=List.mem_iff_getElem?.1 b;have:=fj h (U2.1 a).1;rw[bn a]at this;simp at this
def FA(xs:List Int)(x:Int)(g:xs.length<=4611686018427387904):zzA 353 false [.val none (aH .V xs),.val none [I x]] .one [B (decide (x∈xs))]:=by
 refine fO 18 [] Tryz.func353 rfl ?_
 repeat'(first|refine gP ?_|fail)
 (conv=>whnf)
 refine CJ (ι:=Nat) (λi=>[(0,.H .one (aH .V xs)),(1,.H .one [I (x)]),(5,.H .one [I ((i:Nat):Int)])]) (λi=>i<=xs.length/\dd i (λj=>decide (nth xs j≠x))=true) (λi=>xs.length - i) 0 ?_ ⟨W0 _,rfl⟩ λi a=>?_
 ·exact wB
 obtain⟨a,b⟩:=a;by_cases c:i<xs.length
 ·have d:=au c
  by_cases e:nth xs i=x
  ·repeat'(first|refine gB ?_|(conv=>whnf);first|with_reducible refine CD (aa d) ?_)
   exact X0 (λz=>[B z]) ((by symm;exact O0 (by rw[<-e];exact ar c)))
  repeat'(first|refine gB ?_|(conv=>whnf);first|with_reducible refine CD (aa d) ?_)
  ((conv=>whnf);refine CE (i+1) ⟨ω,bU b (O0 e)⟩ ω ?_;(exact wB))
 repeat'(first|refine gE ?_|fail)
 obtain rfl:i=xs.length:=ω
 exact X0 (λz=>[B z]) ((by symm;exact U0 (Qe b)))
theorem bx.more{M c:ah}{d:World}(h:bx M w d)(f:∀b o,M b o->c b o):bx c w d:=
 ⟨h.os,h.tape,h.output,h.size,λb a e=>h.blk b a ψ,λb o a e=>h.cel b o a ψ,λb o a e=>h.fro b o a ψ⟩
variable{c:List C}
theorem aK.wk{u:List C}{A B:List MA}{k:Kd}(h:aK P f sh A (.ptr c::B) k rcs)(D:M4 c u):aK P f sh A (.ptr u::B) k rcs:=by
 refine⟨h.has,λw S V i E F l G=>(h.run w S V i E F l G).mono λe w1 H=>?_⟩;obtain⟨v,J,K,X,L,M,N,n,p,a,q,r,b,O,Q,y⟩:=H;refine⟨v,J,K,X,L,M,N,n,p,a,q,r,b,O,Q,?_⟩;cases i with
 | nil=>exact y.elim
 | cons v0 i=>
  obtain⟨⟨R,Y,T,U,W,⟨g,o,Z,e2⟩,d⟩,t⟩:=y;refine⟨⟨R,Y,T,U,W,⟨g,o,Z,λj hj=>e2 j (by grind [tz])⟩,BK D d⟩,t⟩
def aK.frame{c' r:List C}{A B:List MA}{k:Kd}(h:aK P f sh (.ptr c::A) (.ptr c'::B) k rcs)(hl:c'.length=c.length):aK P f sh (.ptr (c++r)::A) (.ptr (c'++r)::B) k rcs:=by
 refine⟨h.has,λw S V vs hS hV hVd hA=>?_⟩;cases vs with
 | nil=>exact hA.elim
 | cons v0 vs=>
 obtain⟨⟨X1,Y,hX1,hY,O,⟨g,q,rfl,u⟩,ff,hf1,J,hf3⟩,hA'⟩:=hA;have hlen:(c++r).length=c.length+r.length:=U3
 let V0:ah:=piece g q ff 0 c.length
 let W:Nat->ah:=ME V0 (λi=>V (i+1))
 have hcX:∀o,q<=o->o<q+(c++r).length->X1 g o:=λo l a=>by
  have:=(u (o - q) ω).1
  rwa [show q+(o - q)=o by omega]at this
 have hV0:∀b o,V0 b o->V 0 b o:=λb o p=>by
  rcases p with⟨rfl,l,a⟩|⟨j,-,a,Q⟩
  ·exact hX1 _ _ (hcX o ω ω)
  exact hY _ _ (J j ω b o Q)
 have K:∀i b o,W i b o->V i b o:=λi b o p=>by
  cases i with
  | zero=>exact hV0 b o p
  | succ i=>exact p
 have hA2:JM w S W (.ptr c::A) (.pointer (some ⟨g,q,none⟩)::vs):=by
  refine⟨?_,hA'⟩;have:=uB (lo:=0) (n:=c.length) (cs:=c++r) ω u hf1 J hf3 O;rw[show bH (c++r) 0 c.length=c by simp[bH]]at this;simp only[Z6,Nat.add_zero]at this;exact this
 refine(h.run w S W _ hS (λi b o p=>hV i b o (K i b o p)) (λi i' D b o l a=>hVd i i' D b o (K i b o l) (K i' b o a)) hA2).mono λe w1 hv=>?_
 obtain⟨v,he,hk,X,V',S1,hX,E,hS1,hVd',hXV,hXS,hVS1,hh,hr,hm⟩:=hv;have H:∀b o,(∃i,W i b o)->∃i,V i b o:=λb o ⟨i,Z⟩=>⟨i,K i b o Z⟩
 let R:ah:=λb o=>V 0 b o/\¬V0 b o
 have hRW:∀b o,R b o->¬∃i,W i b o:=λb o y ⟨i,Z⟩=>by
  cases i with
  | zero=>exact y.2 Z
  | succ i=>exact hVd 0 (i+1) ω b o y.1 Z
 have F:∀b o,R b o->b<w.heap.size:=λb o y=>(hV 0 b o y.1).1
 have t:∀b o,R b o->¬((∃i,W i b o)\/(b<w1.heap.size/\w.heap.size<=b)):=λb o y p=>by
  rcases p with p|p
  ·exact hRW b o y p
  have:=F b o y;omega
 have hRsame:bo R w w1:=λb o y=>⟨hk.cel b o (F b o y) (hRW b o y),hk.fro b o (F b o y) (hRW b o y)⟩
 have hRS1:∀b o,R b o->¬S1 b o:=λb o y hs=>by
  rcases hS1 b o hs with⟨-,l⟩|l
  ·exact(hV 0 b o y.1).2 l
  exact t b o y l
 have hSsame:bo S w w1:=λb o hb=>⟨hk.cel b o (hS b o hb) (λ⟨i,Z⟩=>(hV i b o (K i b o Z)).2 hb),hk.fro b o (hS b o hb) (λ⟨i,Z⟩=>(hV i b o (K i b o Z)).2 hb)⟩
 have hRc:∀j,c.length<=j->j<(c++r).length->R g (q+j):=λj l a=>by
  refine⟨hX1 _ _ (u j a).1,λp=>?_⟩;rcases p with⟨-,Q,h4⟩|⟨N,Q,h4,h5⟩
  ·omega
  exact O _ _ (u j a).1 (J N ω _ _ h5)
 have L:∀j,c.length<=j->j<(c++r).length->∀b o,ff j b o->R b o:=λj l a b o p=>by
  refine⟨hY _ _ (J j a b o p),λhp=>?_⟩;rcases hp with⟨rfl,Q,h4⟩|⟨N,Q,h4,h5⟩
  ·exact O _ _ (hcX o ω ω) (J j a _ _ p)
  exact hf3 j N a ω ω b o p h5
 let U:Nat->ah:=ME (λb o=>V' 0 b o\/R b o) (λi=>V' (i+1))
 have hU:∀i b o,U i b o->V' i b o\/(i=0/\R b o):=λi b o p=>by
  cases i with
  | zero=>exact p.imp id (λh=>⟨rfl,h⟩)
  | succ i=>exact .inl p
 refine⟨v,he,hk.more H,X,U,S1,λb o p=>(hX b o p).imp (H b o) id,λi b o p=>?_,λb o p=>(hS1 b o p).imp id (Or.imp (H b o) id),λi i' D b o l a=>?_,λi b o l a=>?_,hXS,λi b o l a=>?_,hh,hr,?_,hm.2⟩
 ·rcases hU i b o p with l|⟨-,l⟩
  ·exact(E i b o l).imp (H b o) id
  exact .inl ⟨0,l.1⟩
 ·rcases hU i b o l with l|⟨e1,l⟩
  ·rcases hU i' b o a with a|⟨e2,a⟩
   ·exact hVd' i i' D b o l a
   exact t b o a (E i b o l)
  rcases hU i' b o a with a|⟨e2,a⟩
  ·exact t b o l (E i' b o a)
  exact D ω
 ·rcases hU i b o a with a|⟨-,a⟩
  ·exact hXV i b o l a
  exact t b o a (hX b o l)
 ·rcases hU i b o l with l|⟨-,l⟩
  ·exact hVS1 i b o l a
  exact hRS1 b o l a
 obtain⟨Xa,Ya,ha1,ha2,ha3,⟨ga,oa,hea,ha4⟩,fa,ha5,ha6,ha7⟩:=(show qn w1 (λb o=>S b o\/S1 b o) (V' 0) (.ptr c') (.pointer (some ⟨g,q,none⟩)) from hm.1)
 obtain⟨rfl,rfl⟩ : g=ga/\q=oa:=by simpa using hea
 have G:(c'++r).length=c.length+r.length:=by rw[U3,hl]
 show qn w1 (λb o=>S b o\/S1 b o) (λb o=>V' 0 b o\/R b o) (.ptr (c'++r)) (.pointer (some ⟨g,q,none⟩));have faV:∀j,j<c.length->∀b o,fa j b o->V' 0 b o:=λj M b o p=>ha2 _ _ (ha6 j ω b o p)
 refine⟨λb o=>Xa b o\/(R b o/\∃j,c.length<=j/\j<(c++r).length/\b=g/\o=q+j),λb o=>Ya b o\/∃j,c.length<=j/\j<(c++r).length/\ff j b o,λb o p=>?_,λb o p=>?_,λb o l a=>?_,⟨g,q,rfl,λj M=>?_⟩,λj=>if j<c.length then fa j else ff j,λj d M=>?_,λj M b o p=>?_,λj N M hj' D b o l a=>?_⟩
 ·exact p.imp (ha1 b o) (·.1)
 ·rcases p with p|⟨j,l,a,Q⟩
  ·exact .inl (ha2 b o p)
  exact .inr (L j l a b o Q)
 ·rcases l with l|⟨l,j,j1,j2,rfl,rfl⟩
  ·rcases a with a|⟨j,j1,j2,j3⟩
   ·exact ha3 b o l a
   exact t b o (L j j1 j2 b o j3) (E 0 b o (ha1 b o l))
  rcases a with a|⟨N,j3,j4,j5⟩
  ·exact t _ _ l (E 0 _ _ (ha2 _ _ a))
  exact O _ _ (u j j2).1 (J N j4 _ _ j5)
 ·rw[G]at M
  by_cases hc:j<c.length
  ·have:=ha4 j ω
   exact⟨.inl this.1,this.2⟩
  have y:=hRc j ω ω;have hs:=hRsame _ _ y;have T:=u j ω;refine⟨.inr ⟨y,j,ω,ω,rfl,rfl⟩,?_,?_⟩
  ·rw[hs.1];exact T.2.1
  rw[hs.2];exact T.2.2
 ·dsimp only
  by_cases hc:j<c.length
  ·rw[CC hc]
   rw[V4 ω]at M;exact ha5 j d M
  rw[C9 hc];rw[W4 ω,hl]at M;have hj2:(c++r)[j]? = some d:=by rw[W4 ω];exact M
  have hjl:=(U2.1 hj2).1;have Q:=(hf1 j d hj2).keep hSsame (λb o p=>hRsame b o (L j ω hjl b o p));have T:=(hRsame _ _ (hRc j ω hjl)).1;have:cj w1 .box (.pointer (some ⟨g,q,none⟩)) j=cj w .box (.pointer (some ⟨g,q,none⟩)) j:=by
   simp only[cj];rw[T]
  rw[this];exact Q.mono (λ_ _ h=>.inl h) (λ_ _ h=>h)
 ·rw[G]at M
  split at p
  ·rename_i hc;exact .inl (ha6 j ω b o p)
  exact .inr ⟨j,ω,ω,p⟩
 rw[G]at M hj';split at l
 ·rename_i c1
  split at a
  ·exact ha7 j N ω ω D b o l a
  exact t b o (L N ω ω b o a) (E 0 b o (faV j c1 b o l))
 split at a
 ·rename_i c1;exact t b o (L j ω ω b o l) (E 0 b o (faV N c1 b o a))
 exact hf3 j N ω ω D b o l a
mutual
def T5:∀c:C,fz (fz c)=fz c
 | .v x=>by simp[fz]
 | .s o rows=>by simp only[fz];rw[Kg rows]
 | .x=>by simp[fz]
 | .z=>by simp[fz]
 | .m _=>by simp[fz]
 | .it _ _=>by simp[fz]
def Kg:∀a:List (List C),fzR (fzR a)=fzR a
 | []=>rfl
 | r::a=>by simp only[fzR];rw[sD r,Kg a]
def sD:∀cs:List C,dJ (dJ cs)=dJ cs
 | []=>rfl
 | c::cs=>by simp only[dJ];rw[T5 c,sD cs]
end
def nr(k:am)(a:aF k=true)(e:k.Calls≠100000):zzB 484 false [.ptr (am.enc .own k)] [.ptr (am.enc .own (cg k))] .one [B (!refd k)]:=by
 have b:=bE a;have c:=(aG.1 a).2.2.2.2;have d:=FA k.a0 k.Calls (by have:=b.2;omega);refine fM 22 [] [(2,9,[11,12,13,14,15,16,17,18,19])] [(0,0)] Tryz.func484 rfl (λu q=>?_)
 repeat'(first|refine gP ?_|(conv=>whnf);first|refine CF (d) ⟨⟨rfl,dR _⟩,⟨rfl,X0 (λz=>[I z]) ω⟩,trivial⟩ ?_)
 refine CG rfl ?_ ?_
 ·rfl
 exact wB
def ov(k:am)(p m:Int)(a:aF k=true)(j:k.Calls≠100000)(d:(af k.F.R p).e≠0)(l:m=1\/m=2):zzB 575 false [.ptr (am.enc .own k),.val none [I p],.val none [I m]] [.ptr (am.enc .own (jI k p m).1),.val none [I p],.val none [I m]] .one [B (jI k p m).2]:=by
 have n:=bE a;have b:=nr k a j;have g:=eJ (cg k) p n.1.2;have c:=aJ m 1 2;rw[O0 ω]at c;obtain⟨o,t,w,-⟩:=bW a d;have h:=au (xs:=k.F.R.K) (i:=p.toNat) ω;have r:¬(af (cg k).F.R p).e=0:=d;unfold jI;cases e:refd k<;>rw[e]at b
 ·rw[C9 (by simp),L1]
  refine fM 31 [(484,[2])] [] [(0,0),(0,0),(0,0)] Tryz.func575 rfl (λu q=>?_)
  repeat'(first|refine gB ?_|(conv=>whnf);first|refine CK (b) (.inl rfl) ?_|refine CF (g) ⟨CQ (cg k),⟨rfl,rfl⟩,trivial⟩ ?_|refine C8 (c) ?_|refine CN o (aa h) ?_|refine CP rfl rfl (aa h) rfl (I1 rfl) rfl ?_)
  refine CG rfl ?_ ?_
  ·rfl
  exact wB
 rw[CC rfl];refine fM 31 [(484,[2])] [] [(0,0),(0,0),(0,0)] Tryz.func575 rfl (λu q=>?_)
 repeat'(first|refine gB ?_|(conv=>whnf);first|refine CK (b) (.inl rfl) ?_|refine CF (g) ⟨CQ (cg k),⟨rfl,rfl⟩,trivial⟩ ?_|refine C8 (c) ?_)
 refine CG rfl ?_ ?_
 ·rfl
 exact wB
def Rw.two{off k d e b:Nat}{K:List C->Nat->Prop}{o f:dQ}{rows2:List (List C)}{r a:List C}(h1:c[off]? = some (.s o rows))(g:rows[i]? = some r)(h:r.length=k)(l:r[j]? = some (.s f rows2))(n:rows2[d]? = some a)(p:a.length=e)(q:K a b):Rw c off [(i,k,j),(d,e,b)] K:=
 Rw.mk (r:=a) (j:=b) (by simp[cn,h1,g,h,l,n,p]) q
def zf(k:am)(a b c:Int)(h:aF k=true)(F:(af k.F.R a).e≠0)(G:(af k.F.R b).e≠0)(g:0<=c/\c<=15):zzB 576 false [.ptr (am.enc .own k),.val none [I a],.val none [I b],.val none (aH .V [c])] [.ptr (am.enc .own (sZ k a b c)),.val none [I a],.val none [I b],.val none (aH .V [c])] .one [B true]:=by
 have w:=bE h;have H:=eJ k a w.1.2;have J:=eJ k b w.1.2;have y:=aJ c 0 15;rw[O0 g]at y;obtain⟨K,O,L,C,P⟩:=bW h F;obtain⟨M,Q,D,E,R⟩:=bW h G;have N:=(bf.1 (aG.1 h).2.1).2.2.1;have S:=row16 h (f:=bL k a) (by unfold bL;omega);have T:=row16 h (f:=bL k b) (by unfold bL;omega);have d:k.F.W.T[(af k.F.R a).o.toNat]? = some (nth k.F.W.T (bL k a)):=au ω;have e:k.F.W.T[(af k.F.R b).o.toNat]? = some (nth k.F.W.T (bL k b)):=au ω;have l:=au (xs:=nth k.F.W.T (bL k a)) (i:=c.toNat) ω;have o:=au (xs:=nth k.F.W.T (bL k b)) (i:=c.toNat) ω;have p:=au (xs:=k.F.R.K) (i:=a.toNat) ω;have r:=au (xs:=k.F.R.K) (i:=b.toNat) ω;rw[L]at C d;rw[D]at E e;have t:[c][0]? = some c:=rfl;refine fM 90 [] [(13,28,[61,62,63,64,65,66,67,68,69,70,71,72,73,74,75,76,77,78,79,80,81,82,83,84,85,86,87,88])] [(0,0),(0,0),(0,0),(0,0)] Tryz.func576 rfl (λu q=>?_)
 repeat'(first|refine gB ?_|(conv=>whnf);first|refine CB ?_|refine CF (H) ⟨CQ k,⟨rfl,rfl⟩,trivial⟩ ?_|refine CF (J) ⟨CQ k,⟨rfl,rfl⟩,trivial⟩ ?_)
 (conv=>whnf)
 refine CJ (ι:=Nat) (λn=>[(0,.H .box (am.enc .own k)),(1,.H .one [I (a)]),(2,.H .one [I (b)]),(3,.H .one (aH .V [c])),(9,.H .one [I ((n:Nat):Int)])]) (λn=>n<=1) (λn=>1 - n) (0) ?_ (W0 _) λn U=>?_
 ·exact wB
 by_cases V:n<1
 ·obtain rfl:n=0:=ω
  repeat'(first|refine gE ?_|(conv=>whnf);first|refine CB ?_|refine CN (by decide) (aa t) ?_|refine C8 (y) ?_)
  ((conv=>whnf);refine CE 1 ω ω ?_;(exact wB))
 obtain rfl:n=1:=ω
 repeat'(first|refine gE ?_|(conv=>whnf);first|refine CB ?_|refine CN K (aa p) ?_|refine CN M (aa r) ?_|refine CH rfl (aa p) rfl ?_|refine CH rfl (aa r) rfl ?_)
 (conv=>whnf)
 refine CJ (ι:=Nat) (λj=>[(0,.H .box (am.enc .own (QU k a b c j))),(3,.H .one (aH .V [c])),(10,.H .one [I ((nth k.F.R.K a.toNat).o)]),(11,.H .one [I ((nth k.F.R.K b.toNat).o)]),(12,.H .one [I ((j:Nat):Int)])]) (λj=>j<=1) (λj=>1 - j) (0) ?_ (W0 _) λj W=>?_
 ·exact wB
 by_cases X:j<1
 ·obtain rfl:j=0:=ω
  repeat'(first|refine gE ?_|(conv=>whnf);first|refine CB ?_|refine CN (by decide) (aa t) ?_|refine CN C (aa d) ?_|refine CN E (aa e) ?_|refine CN g.1 (aa l) ?_|refine CN g.1 (aa o) ?_|refine CH rfl (aa e) rfl ?_|refine CH rfl (aa d) rfl ?_|refine Rw.two rfl (aa d) rfl rfl (aa l) rfl ?_|refine Pu.two rfl rfl (aa e) rfl rfl rfl (aa o) rfl (I3 _) rfl ?_)
  ((conv=>whnf);refine CE 1 ω ω ?_)
  rw[show QU k a b c 1=sZ k a b c from rfl];unfold sZ;rw[EM,show bL k b=(nth k.F.R.K b.toNat).o.toNat by unfold bL;rw[D]];exact wB
 obtain rfl:j=1:=ω
 repeat'(first|refine gE ?_|(conv=>whnf);first|refine CB ?_)
 refine CG rfl ?_ ?_
 ·rfl
 exact wB
def Hw(k:am)(p o:Int)(a:aF k=true)(y:k.Calls≠100000)(g:(af k.F.R p).e≠0)(h:(af k.F.R o).e≠0)(C:p≠o):zzB 577 false [.ptr (am.enc .own k),.val none [I p],.val none [I o]] [.ptr (am.enc .own (vU k p o).1),.val none [I p],.val none [I o]] .one [B (vU k p o).2]:=by
 have b:=bE a;have c:=nr k a y;have j:=eJ (cg k) p b.1.2;have l:=eJ (cg k) o b.1.2;obtain⟨D,K,E,n,r⟩:=bW a g;obtain⟨F,L,M,N,O⟩:=bW a h;have G:=(bf.1 (aG.1 a).2.1).2.2.1;have d:=au (xs:=k.F.R.K) (i:=p.toNat) ω;have t:=au (xs:=k.F.R.K) (i:=o.toNat) ω;have H:¬(af (cg k).F.R p).e=0:=g;have J:¬(af (cg k).F.R o).e=0:=h;rw[E]at n r;have w:=sV (vL (cg k) p.toNat ⟨2,(nth k.F.R.K o.toNat).o⟩) (nth k.F.R.K p.toNat).o (NL _ _ b.1.2) ⟨n,by show _<((k.F.W.T.length:Nat):Int);omega,r⟩;rw[N2]at w;unfold vU;cases e:refd k<;>rw[e]at c
 ·rw[C9 (by simp)]
  refine fM 60 [(484,[2]),(486,[2,0])] [(4,274,[38,39,40,41,42,43,44,45,46,47,48,49,50,51,52,53,54,56,0,1,2,3,4,5,6,7,8,9,10,11,12,13,14,15,16,17,1000,1001,1002,1003,1004,1005,1006,18,19])] [(0,0),(0,0),(0,0)] Tryz.func577 rfl (λu q=>?_)
  repeat'(first|refine gB ?_|(conv=>whnf);first|refine CB ?_|refine CK (c) (.inl rfl) ?_|refine CF (j) ⟨CQ (cg k),⟨rfl,rfl⟩,trivial⟩ ?_|refine CF (l) ⟨CQ (cg k),⟨rfl,rfl⟩,trivial⟩ ?_|refine CN D (aa d) ?_|refine CN F (aa t) ?_|refine CH rfl (aa d) rfl ?_|refine CH rfl (aa t) rfl ?_|refine CP rfl rfl (aa d) rfl (I1 rfl) rfl ?_|refine CK (w) (.inl rfl) ?_)
  refine CG rfl ?_ ?_
  ·rfl
  exact wB
 rw[CC rfl];refine fM 60 [(484,[2]),(486,[2,0])] [(4,274,[38,39,40,41,42,43,44,45,46,47,48,49,50,51,52,53,54,56,0,1,2,3,4,5,6,7,8,9,10,11,12,13,14,15,16,17,1000,1001,1002,1003,1004,1005,1006,18,19])] [(0,0),(0,0),(0,0)] Tryz.func577 rfl (λu q=>?_)
 repeat'(first|refine gB ?_|(conv=>whnf);first|refine CB ?_|refine CK (c) (.inl rfl) ?_|refine CF (j) ⟨CQ (cg k),⟨rfl,rfl⟩,trivial⟩ ?_|refine CF (l) ⟨CQ (cg k),⟨rfl,rfl⟩,trivial⟩ ?_)
 refine CG rfl ?_ ?_
 ·rfl
 exact wB
def zm(m:aY)(a:Int)(d:aY.sml m)(c:0<=a/\a<512):zzA 590 false [.val (some 3) (aY.enc .V m),.val none [I a]] (.tup [some 2,none]) (bk.enc .own (af m.R (a / 16))++[I (a % 16)]):=by
 have e:=di m.R (a / 16) d.2;have b:a.tmod 16=a % 16:=fh c.1;refine fO 16 [] Tryz.func590 rfl ?_ (.inr ⟨trivial,trivial,trivial,trivial⟩)
 repeat'(first|refine gE ?_|(conv=>whnf);first|refine CB ?_|refine C8 (e) ?_|refine CM (qU c) ?_|refine CO (by decide) ?_|refine CS b ?_)
 rfl
def HI(m:aY)(a v:Int)(o:d8 m=true)(e:aY.sml m)(p:0<=a/\a<512)(q:0<=v/\v<=999)(r:(af m.R (a / 16)).e≠0->0<=(af m.R (a / 16)).o/\(af m.R (a / 16)).o<m.W.T.length/\(nth m.W.T (af m.R (a / 16)).o.toNat).length=16):zzA 588 false [.val (some 3) (aY.enc .V m),.val none [I a],.val none [I v]] (.tup [some 3,none]) (aY.enc .own (iW m a v).1++[I (iW m a v).2]):=by
 have c:=pC m e;rw[o]at c;have g:=sP m e;have h:=zm m a e p;have d:=aJ v 0 999;rw[O0 q]at d;have b:=aY.enc_fr (iW m a v).1;unfold iW at b |-;by_cases j:(af m.R (a / 16)).e=0
 ·rw[CC j]at b |-
  refine fO 47 [] Tryz.func588 rfl ?_ (.inr (aW b ⟨trivial,trivial⟩))
  repeat'(first|refine gB ?_|(conv=>whnf);first|refine CB ?_|refine C8 (c) ?_|refine C8 (g) ?_|refine C8 (h) ?_|refine C8 (d) ?_)
  rfl
 rw[C9 j]at b |-;by_cases l:(af m.R (a / 16)).e=1
 ·rw[CC l]at b |-
  refine fO 47 [] Tryz.func588 rfl ?_ (.inr (aW b ⟨trivial,trivial⟩))
  repeat'(first|refine gB ?_|(conv=>whnf);first|refine CB ?_|refine C8 (c) ?_|refine C8 (g) ?_|refine C8 (h) ?_|refine C8 (d) ?_)
  rfl
 rw[C9 l]at b |-;obtain⟨t,u,w⟩:=r j;have k:=au (xs:=m.W.T) (i:=(af m.R (a / 16)).o.toNat) ω;have n:=au (xs:=nth m.W.T (af m.R (a / 16)).o.toNat) (i:=(a % 16).toNat) ω;simp only at b |-;rw[G7]at b |-;refine fO 47 [] Tryz.func588 rfl ?_ (.inr (aW b ⟨trivial,trivial⟩))
 repeat'(first|refine gB ?_|(conv=>whnf);first|refine CB ?_|refine C8 (c) ?_|refine C8 (g) ?_|refine C8 (h) ?_|refine C8 (d) ?_|refine CN t (aa k) ?_|refine CN ω (aa n) ?_|refine CH rfl (aa k) rfl ?_|refine Pu.two rfl rfl (aa k) rfl rfl rfl (aa n) rfl (I3 _) rfl ?_)
 rfl
def mN{j:cE} : jmay k j=true↔(aF k=true/\k.Calls≠100000)/\jL j=true/\(af k.F.R j.X.a3).e≠0/\(af k.F.R j.X.a1).e≠0/\(af k.F.R j.X.a3).o≠(af k.F.R j.X.a1).o:=by
 unfold jmay;simp only[I0,C0]
def mP{p:cx}(h:eM p=true):p.T.length<=16:=by
 unfold eM at h;simp only[I0]at h;have a:∀i,i<p.T.length->(i:Int)<=nth p.T i:=λi=>by
  induction i with
  | zero=>
   intro a;have:=fj h.1 a;unfold m6 at this;rw[C0]at this;exact this.1
  | succ i b=>
   intro a;have c:=b ω;have:=fj h.1 a;unfold m6 at this;rw[C0]at this;have d:=this.2.2.resolve_left ω;rw[Nat.add_sub_cancel]at d;omega
 by_cases e:p.T.length<=16
 ·exact e
 exfalso;have c:=a 16 ω;have:=fj h.1 (show 16<p.T.length by omega);unfold m6 at this;rw[C0]at this;omega
def LA{j:cE}(h:jL j=true):cE.sml j:=by
 have:=mP (dv.1 h).1;show j.X.T.length<=1048576;omega
def uf(h:aF k=true):d8 k.F=true:=by
 unfold aF at h;simp only[I0]at h;exact h.1.2
def DU(k:am)(j:cE)(p:jmay k j=true)(g:j.b0=3):zzB 578 false [.ptr (am.enc .own k),.ptr (x7 j)] [.ptr (am.enc .own (jstep k j).1),.ptr (x7 (jstep k j).2)] (.tup []) []:=by
 obtain⟨⟨a,r⟩,t,c,d,w⟩:=mN.1 p;obtain⟨h,H,J,K,L⟩:=dv.1 t;have y:=bE a;obtain⟨M,N,O,B,P⟩:=bW a c;have l:=(bu.1 (aG.1 a).2.2.1).2.2;have C:=mP h;have D:=(bf.1 (aG.1 a).2.1).2.2.1;unfold jstep;rw[C9 ω,C9 ω,C9 ω,CC g];by_cases n:0<j.b
 ·rw[CC n]
  have o:=ge h (i:=(j.b - 1).toNat) ω;have E:=au (xs:=j.X.T) (i:=(j.b - 1).toNat) ω;have F:0<=j.X.a3*16+nth j.X.T (j.b - 1).toNat/\j.X.a3*16+nth j.X.T (j.b - 1).toNat<512:=ω
  have G:(j.X.a3*16+nth j.X.T (j.b - 1).toNat) / 16=j.X.a3:=ω
  have b:=HI k.F (j.X.a3*16+nth j.X.T (j.b - 1).toNat) 0 (uf a) y.1 F ω (λ_=>by rw[G];exact⟨B,ω,row16 a (f:=bL k j.X.a3) (by unfold bL;omega)⟩);generalize (iW k.F (j.X.a3*16+nth j.X.T (j.b - 1).toNat) 0).1=m at b |-;generalize (iW k.F (j.X.a3*16+nth j.X.T (j.b - 1).toNat) 0).2=e at b;refine fM 59 [(575,[2,0,0])] [(2,283,[20,21,22,23,24,25,26,27,28,29,30,31,32,33,34,35,36,37,38,39,40,41,42,19,43,44,4,0,1,2,3,4,5,6,7,8,9,10,11,12,13,14,15,16,17,18,19,20,21,22,23,24,25,26,27,1025,28])] [(0,0),(1,0)] Tryz.func578 rfl (λu q=>?_) (.inr trivial)
  repeat'(first|refine gE ?_|(conv=>whnf);first|refine CB ?_|refine CF (b) ⟨⟨rfl,aY.enc_fz k.F⟩,⟨rfl,rfl⟩,⟨rfl,rfl⟩,trivial⟩ ?_|refine CN ω (aa E) ?_|refine CB ?_)
  refine CG rfl rfl ?_;exact wC
 rw[C9 n];have b:=ov k j.X.a1 2 a r d (.inr rfl);cases e:(jI k j.X.a1 2).2<;>rw[e]at b
 ·refine fM 59 [(575,[2,0,0])] [(2,283,[20,21,22,23,24,25,26,27,28,29,30,31,32,33,34,35,36,37,38,39,40,41,42,19,43,44,4,0,1,2,3,4,5,6,7,8,9,10,11,12,13,14,15,16,17,18,19,20,21,22,23,24,25,26,27,1025,28])] [(0,0),(1,0)] Tryz.func578 rfl (λu q=>?_) (.inr trivial)
  repeat'(first|refine gE ?_|(conv=>whnf);first|refine CB ?_|refine CK (b) (.inl rfl) ?_)
  refine CG rfl rfl ?_;rw[<-g];exact wC
 refine fM 59 [(575,[2,0,0])] [(2,283,[20,21,22,23,24,25,26,27,28,29,30,31,32,33,34,35,36,37,38,39,40,41,42,19,43,44,4,0,1,2,3,4,5,6,7,8,9,10,11,12,13,14,15,16,17,18,19,20,21,22,23,24,25,26,27,1025,28])] [(0,0),(1,0)] Tryz.func578 rfl (λu q=>?_) (.inr trivial)
 repeat'(first|refine gE ?_|(conv=>whnf);first|refine CB ?_|refine CK (b) (.inl rfl) ?_)
 refine CG rfl rfl ?_;exact wC
def Df(k:am)(j:cE)(g:jmay k j=true):zzB 529 false [.ptr (am.enc .own k),.ptr (x7 j)] [.ptr (am.enc .own (jstep k j).1),.ptr (x7 (jstep k j).2)] (.tup []) []:=by
 obtain⟨⟨h,p⟩,B,c,b,l⟩:=mN.1 g;obtain⟨r,F,G,H,J⟩:=dv.1 B;have n:j.X.a1≠j.X.a3:=λe=>l (by rw[e])
 have C:=mP r;by_cases d:j.b0=0
 ·have a:=ov k j.X.a1 1 h p b (.inl rfl)
  unfold jstep;rw[CC d];cases e:(jI k j.X.a1 1).2<;>rw[e]at a
  ·refine fM 80 [(575,[2,0,0]),(576,[2,0,0,0]),(577,[2,0,0]),(578,[2,2])] [(7,7,[27,28,29,30,31,32,33]),(9,14,[38,39,40,41,42,43,44,45,46,47,48,49,50,51])] [(0,0),(1,0)] Tryz.func529 rfl (λu q=>?_) (.inr trivial)
   repeat'(first|refine gB ?_|(conv=>whnf);first|refine CB ?_|refine CK (a) (.inl rfl) ?_)
   refine CG rfl rfl ?_;exact wC
  refine fM 80 [(575,[2,0,0]),(576,[2,0,0,0]),(577,[2,0,0]),(578,[2,2])] [(7,7,[27,28,29,30,31,32,33]),(9,14,[38,39,40,41,42,43,44,45,46,47,48,49,50,51])] [(0,0),(1,0)] Tryz.func529 rfl (λu q=>?_) (.inr trivial)
  repeat'(first|refine gB ?_|(conv=>whnf);first|refine CB ?_|refine CK (a) (.inl rfl) ?_)
  refine CG rfl rfl ?_;exact wC
 by_cases o:j.b0=1
 ·unfold jstep
  rw[C9 d,CC o];by_cases t:j.b=j.X.T.length
  ·rw[CC t]
   refine fM 80 [(575,[2,0,0]),(576,[2,0,0,0]),(577,[2,0,0]),(578,[2,2])] [(7,7,[27,28,29,30,31,32,33]),(9,14,[38,39,40,41,42,43,44,45,46,47,48,49,50,51])] [(0,0),(1,0)] Tryz.func529 rfl (λu q=>?_) (.inr trivial)
   repeat'(first|refine gB ?_|(conv=>whnf);first|refine CB ?_|refine CB ?_)
   refine CG rfl rfl ?_;exact wC
  rw[C9 t];have D:=au (xs:=j.X.T) (i:=j.b.toNat) ω;have a:=zf k j.X.a1 j.X.a3 (nth j.X.T j.b.toNat) h b c (ge r ω);have E:=(mN.1 g).2.1;refine fM 80 [(575,[2,0,0]),(576,[2,0,0,0]),(577,[2,0,0]),(578,[2,2])] [(7,7,[27,28,29,30,31,32,33]),(9,14,[38,39,40,41,42,43,44,45,46,47,48,49,50,51])] [(0,0),(1,0)] Tryz.func529 rfl (λu q=>?_) (.inr trivial)
  repeat'(first|refine gB ?_|(conv=>whnf);first|refine CB ?_|refine CK a (.inr ⟨rfl,Cf _,trivial⟩) ?_|refine CN ω (aa D) ?_|refine CB ?_)
  refine CG rfl rfl ?_;exact wC
 by_cases w:j.b0=2
 ·have a:=Hw k j.X.a1 j.X.a3 h p b c n
  unfold jstep;rw[C9 d,C9 o,CC w];cases e:(vU k j.X.a1 j.X.a3).2<;>rw[e]at a
  ·refine fM 80 [(575,[2,0,0]),(576,[2,0,0,0]),(577,[2,0,0]),(578,[2,2])] [(7,7,[27,28,29,30,31,32,33]),(9,14,[38,39,40,41,42,43,44,45,46,47,48,49,50,51])] [(0,0),(1,0)] Tryz.func529 rfl (λu q=>?_) (.inr trivial)
   repeat'(first|refine gB ?_|(conv=>whnf);first|refine CB ?_|refine CK (a) (.inl rfl) ?_)
   refine CG rfl rfl ?_;exact wC
  refine fM 80 [(575,[2,0,0]),(576,[2,0,0,0]),(577,[2,0,0]),(578,[2,2])] [(7,7,[27,28,29,30,31,32,33]),(9,14,[38,39,40,41,42,43,44,45,46,47,48,49,50,51])] [(0,0),(1,0)] Tryz.func529 rfl (λu q=>?_) (.inr trivial)
  repeat'(first|refine gB ?_|(conv=>whnf);first|refine CB ?_|refine CK (a) (.inl rfl) ?_)
  refine CG rfl rfl ?_;exact wC
 by_cases y:j.b0=3
 ·have a:=DU k j g y
  refine fM 80 [(575,[2,0,0]),(576,[2,0,0,0]),(577,[2,0,0]),(578,[2,2])] [(7,7,[27,28,29,30,31,32,33]),(9,14,[38,39,40,41,42,43,44,45,46,47,48,49,50,51])] [(0,0),(1,0)] Tryz.func529 rfl (λu q=>?_) (.inr trivial)
  repeat'(first|refine gB ?_|(conv=>whnf);first|refine CB ?_|refine CK (a) (.inl rfl) ?_)
  refine CG rfl rfl ?_;exact wC
 unfold jstep;rw[C9 d,C9 o,C9 w,C9 y];refine fM 80 [(575,[2,0,0]),(576,[2,0,0,0]),(577,[2,0,0]),(578,[2,2])] [(7,7,[27,28,29,30,31,32,33]),(9,14,[38,39,40,41,42,43,44,45,46,47,48,49,50,51])] [(0,0),(1,0)] Tryz.func529 rfl (λu q=>?_) (.inr trivial)
 repeat'(first|refine gB ?_|(conv=>whnf);first|refine CB ?_)
 refine CG rfl rfl ?_;exact wC
def Fh(k:am)(j:cE)(e:aF k=true)(i:jL j=true):zzA 528 false [.val (some 5) (am.enc .V k),.val (some 5) (cE.enc .V j)] .one [B (jmay k j)]:=by
 have c:=bE e;have b:dJ (am.enc .V k)=am.enc .V k:=by rw[<-CQ k,sD]
 have r:=(aG.1 e).2.2.2.2;have a:=lQ k c;rw[e]at a;have d:=y9 j (LA i);rw[i]at d;have l:=eJ k j.X.a3 c.1.2;have n:=eJ k j.X.a1 c.1.2;have t:=di k.F.R j.X.a3 c.1.2;have u:=di k.F.R j.X.a1 c.1.2;by_cases o:k.Calls=100000
 ·rw[U0 ω]at a
  rw[show jmay k j=false by rw[<-U5,mN];exact λh=>h.1.2 o];refine fO 44 [(3,16,[27,28,29,30,31,32,33,34,35,36,37,38,39,40,41,42])] Tryz.func528 rfl ?_
  repeat'(first|refine gP ?_|(conv=>whnf);first|refine CB ?_|refine C8 (a) ?_|refine C8 (d) ?_)
  rfl
 rw[O0 ω]at a;by_cases p:(af k.F.R j.X.a3).e=0
 ·rw[show jmay k j=false by rw[<-U5,mN];exact λh=>h.2.2.1 p]
  refine fO 44 [(3,16,[27,28,29,30,31,32,33,34,35,36,37,38,39,40,41,42])] Tryz.func528 rfl ?_
  repeat'(first|refine gB ?_|(conv=>whnf);first|refine CB ?_|refine C8 (a) ?_|refine C8 (d) ?_|refine CF (l) ⟨b,⟨rfl,rfl⟩,trivial⟩ ?_|refine CF (n) ⟨b,⟨rfl,rfl⟩,trivial⟩ ?_)
  rfl
 by_cases q:(af k.F.R j.X.a1).e=0
 ·rw[show jmay k j=false by rw[<-U5,mN];exact λh=>h.2.2.2.1 q]
  refine fO 44 [(3,16,[27,28,29,30,31,32,33,34,35,36,37,38,39,40,41,42])] Tryz.func528 rfl ?_
  repeat'(first|refine gB ?_|(conv=>whnf);first|refine CB ?_|refine C8 (a) ?_|refine C8 (d) ?_|refine CF (l) ⟨b,⟨rfl,rfl⟩,trivial⟩ ?_|refine CF (n) ⟨b,⟨rfl,rfl⟩,trivial⟩ ?_)
  rfl
 refine fO 44 [(3,16,[27,28,29,30,31,32,33,34,35,36,37,38,39,40,41,42])] Tryz.func528 rfl ?_
 repeat'(first|refine gB ?_|(conv=>whnf);first|refine CB ?_|refine C8 (a) ?_|refine C8 (d) ?_|refine CF (l) ⟨b,⟨rfl,rfl⟩,trivial⟩ ?_|refine CF (n) ⟨b,⟨rfl,rfl⟩,trivial⟩ ?_|refine C8 (t) ?_|refine C8 (u) ?_|refine CB ?_)
 exact X0 (λz=>[B z]) (by
   unfold jmay;rw[e,i,O0 o];by_cases g:(af k.F.R j.X.a3).o=(af k.F.R j.X.a1).o
   · rw[U0 (λh=>h.2.2 g)];simp[g]
   rw[O0 ⟨p,q,g⟩];simp[g])
def Bx(j:cE):zzA 530 false [.val (some 5) (cE.enc .V j)] .one [B (over j)]:=by
 by_cases a:j.b0=4
 ·rw[show over j=true from O0 (.inl a)]
  refine fO 11 [] Tryz.func530 rfl ?_
  repeat'(first|refine gB ?_|(conv=>whnf);first|refine CB ?_)
  rfl
 rw[show over j=decide (j.b0=5) from decide_eq_decide.2 ω];refine fO 11 [] Tryz.func530 rfl ?_
 repeat'(first|refine gB ?_|(conv=>whnf);first|refine CB ?_)
 exact X0 (λz=>[B z]) (by rw[Y4];simp)
def Jj(x:ac):List C:=(bB x).set 21 .z
def E5{x:ac}(h:x.Y.X.T=[]):M4 (Jj x) (bB x):=by
 unfold Jj bB;simp only[List.set,h,List.map_nil]
 repeat'(first|exact trivial|exact dI _|refine CL ?_ ?_|rfl)
def BW(h:ac)(j:bc h [])(k:h.u=true):zzB 431 false [.ptr (bB h)] [.ptr (bB (mStep h))] .one [B (Gm h)]:=by
 obtain⟨l,-,-⟩:=j.job k;have b:=Fh h.G h.Y j.ker l;have a:=Bx (gT h.G h.Y).2;unfold Gm mStep;cases e:jmay h.G h.Y with
 | false=>
  rw[e]at b;have d:gT h.G h.Y=(h.G,h.Y):=by unfold gT;rw[e];rfl
  rw[d]at a |-;simp only at a |-;cases g:over h.Y<;>rw[g]at a
  ·refine fM 39 [(529,[3,5,5])] [(1,8,[4,5,6,7,8,9,10,11]),(2,6,[13,14,15,16,17,18])] [(0,0)] Tryz.func431 rfl (λu q=>?_)
   repeat'(first|refine gP ?_|(conv=>whnf);first|refine CF (b) ⟨⟨rfl,CQ h.G⟩,⟨rfl,rfl⟩,trivial⟩ ?_|refine C8 (a) ?_|refine CB ?_)
   refine CG rfl ?_ ?_
   ·exact X0 (λz=>[B z]) (by rw[Y4];simp)
   exact wC
  refine aK.wk (c:=Jj _) ?_ (E5 rfl);refine fM 39 [(529,[3,5,5])] [(1,8,[4,5,6,7,8,9,10,11]),(2,6,[13,14,15,16,17,18])] [(0,0)] Tryz.func431 rfl (λu q=>?_)
  repeat'(first|refine gP ?_|(conv=>whnf);first|refine CF (b) ⟨⟨rfl,CQ h.G⟩,⟨rfl,rfl⟩,trivial⟩ ?_|refine C8 (a) ?_|refine CB ?_)
  refine CG rfl ?_ ?_
  ·exact X0 (λz=>[B z]) (by rw[Y4];simp)
  exact wC
 | true=>
  rw[e]at b;have d:gT h.G h.Y=jstep h.G h.Y:=by unfold gT;rw[e];rfl
  have i:=Df h.G h.Y e;rw[d]at a |-;generalize jstep h.G h.Y=r at i a |-;cases g:over r.2<;>rw[g]at a
  ·refine fM 39 [(529,[3,5,5])] [(1,8,[4,5,6,7,8,9,10,11]),(2,6,[13,14,15,16,17,18])] [(0,0)] Tryz.func431 rfl (λu q=>?_)
   repeat'(first|refine gP ?_|(conv=>whnf);first|refine CF (b) ⟨⟨rfl,CQ h.G⟩,⟨rfl,rfl⟩,trivial⟩ ?_|refine C8 (a) ?_|refine CK (i) (.inl rfl) ?_|refine CB ?_)
   refine CG rfl ?_ ?_
   ·exact X0 (λz=>[B z]) (by rw[Y4];simp)
   exact wC
  refine aK.wk (c:=Jj _) ?_ (E5 rfl);refine fM 39 [(529,[3,5,5])] [(1,8,[4,5,6,7,8,9,10,11]),(2,6,[13,14,15,16,17,18])] [(0,0)] Tryz.func431 rfl (λu q=>?_)
  repeat'(first|refine gP ?_|(conv=>whnf);first|refine CF (b) ⟨⟨rfl,CQ h.G⟩,⟨rfl,rfl⟩,trivial⟩ ?_|refine C8 (a) ?_|refine CK (i) (.inl rfl) ?_|refine CB ?_)
  refine CG rfl ?_ ?_
  ·exact X0 (λz=>[B z]) (by rw[Y4];simp)
  exact wC
end Go.Proofs.YtiopgblagimpmaaGreat.Ab
