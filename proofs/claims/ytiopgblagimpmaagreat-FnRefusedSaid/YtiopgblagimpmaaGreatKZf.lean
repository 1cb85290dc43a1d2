/- The library's Delete at objects, large objects and spans: its own text, walked. No condition. -/
import Derived.Test.YtiopgblagimpmaaGreatKZc
import Derived.Test.YtiopgblagimpmaaGreatKZe
set_option linter.unusedVariables false
set_option linter.defProp false
set_option linter.unusedSimpArgs false
set_option linter.constructorNameAsVariable false
namespace Go.Proofs.YtiopgblagimpmaaGreat.Ab
open Go.RowKit
set_option maxRecDepth 100000
set_option maxHeartbeats 4000000
variable{n i:Nat}{w:World}
theorem vQ{g cap k:Nat}{news:List Value}(d:news.length=(n - (i+1))*k)(a:n<=cap)(b:i<n)(h:∀t u,news[t]? = some u->cel w g ((i+1)*k+t)=some u):∃A:Addr,(if cap=i+1 then some (⟨g,0,none⟩ : Addr) else some ⟨g,(i+1)*k,none⟩)=some A/\∀t u,news[t]? = some u->w.drew.cell? (A.add t)=some u:=by
 by_cases e:cap=i+1
 ·simp_all
 refine⟨⟨g,(i+1)*k,none⟩,by simp[e],λt u c=>?_⟩;rw[Addr.add_lit];exact h t u c
def T6:∀w,(zeroValue 74).run Tryz.prog w=.ok (.agg #[.int .i64 0,.int .i64 0,.int .i64 0,.int .i64 0]) w:=λ_=>by kernel_rfl
theorem NH:xm Tryz.prog 99 4:=by
 refine⟨⟨_,Tryz.func99,by kernel_rfl,by kernel_rfl⟩,λw g n c i news p r l y B b=>?_⟩;obtain⟨A,U,a⟩:=vQ l r p y;have a:Hid (∀t u,news[t]? = some u->w.drew.cell? (A.add t)=some u):=a;have R:Hid (news.length=(n - (i+1))*4):=l;have V:Hid (∀u∈news,u.oneCell'=true):=B;have W:Hid (∀t,t<news.length->(w.drew.cell? ⟨g,0+i*4+t,none⟩).isSome=true/\w.drew.frozen? ⟨g,0+i*4+t,none⟩ = false):=λt ht=>by
  rw[OE];exact b (i*4+t) ω
 obtain⟨o,d⟩ : ∃o,o=w.drew.setCells g (0+i*4) news:=⟨_,rfl⟩
 have X:∀q,q<n*4->(o.cell? ⟨g,q,none⟩).isSome=true/\o.frozen? ⟨g,q,none⟩ = false:=λq S=>by
  have C:∀j,j<news.length->∃z,cel w.drew g (0+i*4+j)=some z:=λj Y=>by
   have:=(b (0+i*4+j) ω).1;exact Option.isSome_iff_exists.1 this
  refine⟨?_,by rw[d];exact(O1 Prod.fst (cu g _ news w.drew g q)).trans (b q S).2⟩;rw[d];by_cases h:0+i*4<=q/\q<0+i*4+news.length
  ·have:=bz C (z4 (show q - (0+i*4)<news.length by omega))
   grind
  show(cel _ g q).isSome=true;rw[bn (λx=>h x.2)];exact(b q S).1
 obtain⟨K,D,E,F⟩:=wY (P:=Tryz.prog) o 39 74 4 (.agg #[.int .i64 0,.int .i64 0,.int .i64 0,.int .i64 0]) Tryz.underlying39 T6 rfl (by intro v T;simp[Value.cells]at T;subst T;rfl) g ((i+(n - (i+1)))*4) (n - (i+(n - (i+1)))) ω qs ψ ψ;have G:Hid (K.length=(n - (i+(n - (i+1))))*4):=D;have H:Hid (∀v∈K,v.oneCell'=true):=E;have Z:Hid (o=w.drew.setCells g (0+i*4) news):=d;have hic:i<=c:=ω
 have L:i+1<=c:=ω
 have M:¬i=i+1:=ω
 have N:i+1<=n:=p;have k:n - 1=i+(n - (i+1)):=ω
 clear d X b y B l D E;rw[k];generalize Y:i+1=j at U a R F G L M N k |-;obtain⟨J,O,Q⟩ : ∃J,Tryz.prog.info? 74=some J/\J.size=4:=by
  have h:=(ru 74 _ rfl).1;cases e : Tryz.prog.info? 74 with
  | none=>grind
  | some x=>rw[e]at h;simp only[IA,C2,Prod.mk.injEq]at h;exact⟨x,rfl,h.2.1⟩
 have mixed : Tryz.prog.follows .mixedOrders=true:=by kernel_rfl
 go_enter Tryz.func99,Tryz.ntmps99
 go_wp2_with fail
 go_region_law_o (refine step_append_room rfl (.tmp 22) (.tmp 25) 39 rfl 74 J 4 Tryz.underlying39 O Q g 0 i c (by simp[Act.eval,Act.put]) A (n - j) (c - j) news (by simp[Act.eval,Act.put]) R.out a.out V.out ω W.out ?_;rw[<-Z.out])
 go_wp2
 go_ret
 refine⟨rfl,K,by grind [Go.RowKit.Hid.out],H.out,?_⟩
 grind [Go.RowKit.Hid.out]
theorem BU(xs:List bg)(i:Nat)(a:i<xs.length):zzB 99 false [.mut none [.s .own (xs.map (bg.enc .own))],.vI (i:Nat),.vI ((i+1:Nat):Int)] [.mut none [.x],.vI (i:Nat),.vI ((i+1:Nat):Int)] .one [oE ((dele xs i).map (bg.enc .own))]:=by
 have h:=AA NH (rows:=xs.map (bg.enc .own)) (i:=i) ψ (aM λ_=>rfl) (bm _ _ λx _=>bg.enc_fr x)
 grind [C8,I8,dele]
def NI:∀w,(zeroValue 175).run Tryz.prog w=.ok (.agg #[.int .i64 0,.int .i64 0,.int .i64 0]) w:=λ_=>by kernel_rfl
theorem HO:xm Tryz.prog 102 3:=by
 refine⟨⟨_,Tryz.func102,by kernel_rfl,by kernel_rfl⟩,λw g n c i news p r l y B b=>?_⟩;obtain⟨A,U,a⟩:=vQ l r p y;have a:Hid (∀t u,news[t]? = some u->w.drew.cell? (A.add t)=some u):=a;have R:Hid (news.length=(n - (i+1))*3):=l;have V:Hid (∀u∈news,u.oneCell'=true):=B;have W:Hid (∀t,t<news.length->(w.drew.cell? ⟨g,0+i*3+t,none⟩).isSome=true/\w.drew.frozen? ⟨g,0+i*3+t,none⟩ = false):=λt ht=>by
  rw[OE];exact b (i*3+t) ω
 obtain⟨o,d⟩ : ∃o,o=w.drew.setCells g (0+i*3) news:=⟨_,rfl⟩
 have X:∀q,q<n*3->(o.cell? ⟨g,q,none⟩).isSome=true/\o.frozen? ⟨g,q,none⟩ = false:=λq S=>by
  have C:∀j,j<news.length->∃z,cel w.drew g (0+i*3+j)=some z:=λj Y=>by
   have:=(b (0+i*3+j) ω).1;exact Option.isSome_iff_exists.1 this
  refine⟨?_,by rw[d];exact(O1 Prod.fst (cu g _ news w.drew g q)).trans (b q S).2⟩;rw[d];by_cases h:0+i*3<=q/\q<0+i*3+news.length
  ·have:=bz C (z4 (show q - (0+i*3)<news.length by omega))
   grind
  show(cel _ g q).isSome=true;rw[bn (λx=>h x.2)];exact(b q S).1
 obtain⟨K,D,E,F⟩:=wY (P:=Tryz.prog) o 38 175 3 (.agg #[.int .i64 0,.int .i64 0,.int .i64 0]) Tryz.underlying38 NI rfl (by intro v T;simp[Value.cells]at T;subst T;rfl) g ((i+(n - (i+1)))*3) (n - (i+(n - (i+1)))) ω qs ψ ψ;have G:Hid (K.length=(n - (i+(n - (i+1))))*3):=D;have H:Hid (∀v∈K,v.oneCell'=true):=E;have Z:Hid (o=w.drew.setCells g (0+i*3) news):=d;have hic:i<=c:=ω
 have L:i+1<=c:=ω
 have M:¬i=i+1:=ω
 have N:i+1<=n:=p;have k:n - 1=i+(n - (i+1)):=ω
 clear d X b y B l D E;rw[k];generalize Y:i+1=j at U a R F G L M N k |-;obtain⟨J,O,Q⟩ : ∃J,Tryz.prog.info? 175=some J/\J.size=3:=by
  have h:=(ru 175 _ rfl).1;cases e : Tryz.prog.info? 175 with
  | none=>grind
  | some x=>rw[e]at h;simp only[IA,C2,Prod.mk.injEq]at h;exact⟨x,rfl,h.2.1⟩
 have mixed : Tryz.prog.follows .mixedOrders=true:=by kernel_rfl
 go_enter Tryz.func102,Tryz.ntmps102
 go_wp2_with fail
 go_region_law_o (refine step_append_room rfl (.tmp 22) (.tmp 25) 38 rfl 175 J 3 Tryz.underlying38 O Q g 0 i c (by simp[Act.eval,Act.put]) A (n - j) (c - j) news (by simp[Act.eval,Act.put]) R.out a.out V.out ω W.out ?_;rw[<-Z.out])
 go_wp2
 go_ret
 refine⟨rfl,K,by grind [Go.RowKit.Hid.out],H.out,?_⟩
 grind [Go.RowKit.Hid.out]
theorem wG(xs:List aC)(i:Nat)(a:i<xs.length):zzB 102 false [.mut none [.s .own (xs.map (aC.enc .own))],.vI (i:Nat),.vI ((i+1:Nat):Int)] [.mut none [.x],.vI (i:Nat),.vI ((i+1:Nat):Int)] .one [oE ((dele xs i).map (aC.enc .own))]:=by
 have h:=AA HO (rows:=xs.map (aC.enc .own)) (i:=i) ψ (aM λ_=>rfl) (bm _ _ λx _=>aC.enc_fr x)
 grind [C8,I8,dele]
def QD:∀w,(zeroValue 267).run Tryz.prog w=.ok (.agg #[.int .i64 0,.int .i64 0,.int .i64 0]) w:=λ_=>by kernel_rfl
theorem Mf:xm Tryz.prog 492 3:=by
 refine⟨⟨_,Tryz.func492,by kernel_rfl,by kernel_rfl⟩,λw g n c i news p r l y B b=>?_⟩;obtain⟨A,U,a⟩:=vQ l r p y;have a:Hid (∀t u,news[t]? = some u->w.drew.cell? (A.add t)=some u):=a;have R:Hid (news.length=(n - (i+1))*3):=l;have V:Hid (∀u∈news,u.oneCell'=true):=B;have W:Hid (∀t,t<news.length->(w.drew.cell? ⟨g,0+i*3+t,none⟩).isSome=true/\w.drew.frozen? ⟨g,0+i*3+t,none⟩ = false):=λt ht=>by
  rw[OE];exact b (i*3+t) ω
 obtain⟨o,d⟩ : ∃o,o=w.drew.setCells g (0+i*3) news:=⟨_,rfl⟩
 have X:∀q,q<n*3->(o.cell? ⟨g,q,none⟩).isSome=true/\o.frozen? ⟨g,q,none⟩ = false:=λq S=>by
  have C:∀j,j<news.length->∃z,cel w.drew g (0+i*3+j)=some z:=λj Y=>by
   have:=(b (0+i*3+j) ω).1;exact Option.isSome_iff_exists.1 this
  refine⟨?_,by rw[d];exact(O1 Prod.fst (cu g _ news w.drew g q)).trans (b q S).2⟩;rw[d];by_cases h:0+i*3<=q/\q<0+i*3+news.length
  ·have:=bz C (z4 (show q - (0+i*3)<news.length by omega))
   grind
  show(cel _ g q).isSome=true;rw[bn (λx=>h x.2)];exact(b q S).1
 obtain⟨K,D,E,F⟩:=wY (P:=Tryz.prog) o 37 267 3 (.agg #[.int .i64 0,.int .i64 0,.int .i64 0]) Tryz.underlying37 QD rfl (by intro v T;simp[Value.cells]at T;subst T;rfl) g ((i+(n - (i+1)))*3) (n - (i+(n - (i+1)))) ω qs ψ ψ;have G:Hid (K.length=(n - (i+(n - (i+1))))*3):=D;have H:Hid (∀v∈K,v.oneCell'=true):=E;have Z:Hid (o=w.drew.setCells g (0+i*3) news):=d;have hic:i<=c:=ω
 have L:i+1<=c:=ω
 have M:¬i=i+1:=ω
 have N:i+1<=n:=p;have k:n - 1=i+(n - (i+1)):=ω
 clear d X b y B l D E;rw[k];generalize Y:i+1=j at U a R F G L M N k |-;obtain⟨J,O,Q⟩ : ∃J,Tryz.prog.info? 267=some J/\J.size=3:=by
  have h:=(ru 267 _ rfl).1;cases e : Tryz.prog.info? 267 with
  | none=>grind
  | some x=>rw[e]at h;simp only[IA,C2,Prod.mk.injEq]at h;exact⟨x,rfl,h.2.1⟩
 have mixed : Tryz.prog.follows .mixedOrders=true:=by kernel_rfl
 go_enter Tryz.func492,Tryz.ntmps492
 go_wp2_with fail
 go_region_law_o (refine step_append_room rfl (.tmp 22) (.tmp 25) 37 rfl 267 J 3 Tryz.underlying37 O Q g 0 i c (by simp[Act.eval,Act.put]) A (n - j) (c - j) news (by simp[Act.eval,Act.put]) R.out a.out V.out ω W.out ?_;rw[<-Z.out])
 go_wp2
 go_ret
 refine⟨rfl,K,by grind [Go.RowKit.Hid.out],H.out,?_⟩
 grind [Go.RowKit.Hid.out]
theorem K8(xs:List aB)(i:Nat)(a:i<xs.length):zzB 492 false [.mut none [.s .own (xs.map (aB.enc .own))],.vI (i:Nat),.vI ((i+1:Nat):Int)] [.mut none [.x],.vI (i:Nat),.vI ((i+1:Nat):Int)] .one [oE ((dele xs i).map (aB.enc .own))]:=by
 have h:=AA Mf (rows:=xs.map (aB.enc .own)) (i:=i) ψ (aM λ_=>rfl) (bm _ _ λx _=>aB.enc_fr x)
 grind [C8,I8,dele]
set_option maxRecDepth 20000
theorem EB(c:aE)(k:Nat)(a:Int)(g:bx c=true)(y:k<=3):zzA 257 false [.val (some 1) (aE.enc .S c),.vI (k:Nat),.vI a] (.tup [some 1,none]) (B0 c k a):=by
 obtain⟨B,q⟩:=eX g;have r:aE.sml c:=⟨ω,λl u=>by have:=q l u;show l.length<=1048576;omega⟩
 have h:=uW c k r;rw[g,O0 ω]at h;have t:=iZ c r;have j:=KS g k a;have n:=kL (od c k a) j;have b:=nB (c:=c) (k:=k) ω;have w:=q _ (ax (xs:=c.Y) (i:=k) ω);have o:=Cm (od c k a);rw[B8]at o;have d:=Mh c k a;unfold B0 at d |-;cases e:bx (od c k a)<;>rw[e]at n
 ·have p:cput c k a=none:=by grind [cput]
  rw[p]at d |-;refine fO 35 [(4,267,[17,18,19,20,21,22,23,24,25,26,28,0,1,2,3,4,5,6,7,8,9,10,1000,1001,1002,11,12])] Tryz.func257 rfl ?_ (.inr d)
  repeat'(first|refine gP ?_|refine CK (dt b) ?_|refine CM rfl (dt b) rfl ?_|refine Lq.one rfl rfl (aa b) rfl (O2 rfl) rfl rfl ?_|refine CU rfl rfl (dt b) rfl (O2 rfl) (show [C.s fE.own ((c.Y.map (aF .own)).set k (aF .own (nth c.Y k++[a])))]=_ from by simp only[List.set_cons_zero,List.set_set,t5];rfl) ?_|refine Cf (aM λ_=>rfl) rfl jp qs (f8 _ _ _) ?_|refine CN (n) ⟨⟨rfl,o⟩,tV1⟩ ?_)
  rfl
 have p:cput c k a=some (od c k a):=by grind [cput]
 rw[p]at d |-;rw[show(some (od c k a)).getD c=od c k a from rfl,B8]at d |-;refine fO 35 [(4,267,[17,18,19,20,21,22,23,24,25,26,28,0,1,2,3,4,5,6,7,8,9,10,1000,1001,1002,11,12])] Tryz.func257 rfl ?_ (.inr d)
 repeat'(first|refine gP ?_|refine CK (dt b) ?_|refine CM rfl (dt b) rfl ?_|refine Lq.one rfl rfl (aa b) rfl (O2 rfl) rfl rfl ?_|refine CU rfl rfl (dt b) rfl (O2 rfl) (show [C.s fE.own ((c.Y.map (aF .own)).set k (aF .own (nth c.Y k++[a])))]=_ from by simp only[List.set_cons_zero,List.set_set,t5];rfl) ?_|refine Cf (aM λ_=>rfl) rfl jp qs (f8 _ _ _) ?_|refine CN (n) ⟨⟨rfl,o⟩,tV1⟩ ?_)
 rfl
theorem M9(c:Nat)(W:World):Calls Tryz.prog 256 #[.slice none 0 c] W λe g=>∃B q h,e=.returned (.slice B 0 0)/\g=Sort.grow (W.drewN q) h:=by
 have q22:∀(w:World)(a:Option Addr)(n c b d:Nat),(binOp .eql 44 (.slice a n c) (.slice none b d)).run Tryz.prog w=.ok (.bool a.isNone) w:=λw a n c b d=>Lib.run_eql_slice_nil w _ _ a n c b d Tryz.underlying44
 go_enter Tryz.func256,Tryz.ntmps256
 go_wp2
 go_ret
 exact⟨none,0,#[],rfl,by simp[Sort.grow,World.drewN]⟩
theorem LR(a:Addr)(c:Nat)(W:World):Calls Tryz.prog 256 #[.slice (some a) 0 c] W λe g=>∃B q h,e=.returned (.slice B 0 0)/\g=Sort.grow (W.drewN q) h:=by
 have q22:∀(w:World)(a:Option Addr)(n c b d:Nat),(binOp .eql 44 (.slice a n c) (.slice none b d)).run Tryz.prog w=.ok (.bool a.isNone) w:=λw a n c b d=>Lib.run_eql_slice_nil w _ _ a n c b d Tryz.underlying44
 go_enter Tryz.func256,Tryz.ntmps256
 go_wp2
 go_ret
 exact⟨some ⟨W.heap.size,0,none⟩,0,#[.cells #[] 190],rfl,by rw[Sort.alloc_eq_grow];rfl⟩
theorem na(xs:List aV)(o:xs.length<=1048576):zzA 256 false [.val none (de .S xs)] .one (de .own xs):=by
 by_cases c:xs=[]
 ·subst c
  refine⟨⟨_,Tryz.func256,by kernel_rfl,by kernel_rfl⟩,λw S p t d=>?_⟩
  match p,d with
  | [v],⟨d,_⟩=>
   have b:=bL.rep1 (show bL w S NO none [C.s .S []] v from d);obtain⟨l,g,rfl⟩:=b.slice;have r:Calls Tryz.prog 256 #[.slice l 0 g] w λe n=>∃B q i,e=.returned (.slice B 0 0)/\n=Sort.grow (w.drewN q) i:=by
    cases l with
    | none=>grind [M9]
    | some a=>grind [LR]
   refine r.mono λe n ⟨B,q,i,c,j⟩=>?_
   subst j;exact⟨.slice B 0 0,c,Dj w q i,NO,NO,λ_ _ h=>h.elim,λ_ _ h=>h.elim,λ_ _ h=>h.elim,rfl,row1 (.nil _ .own B tV1)⟩
 have k:xs.map (aV.enc .S)≠[]:=by simp_all
 refine fO 8 [] Tryz.func256 rfl ?_ (.inr (oM _))
 repeat'(first|refine gP ?_|refine Nn.mk k ?_|refine CZ (λ_=>rfl) (λ_=>rfl) o qs ?_)
 rfl
theorem Jk(q:bv)(a:aV)(u:q.y.length<=4096)(g:gu q=true)(w:0<=a.d/\a.d<=3/\0<=a.Addr/\0<=a.b5)(B:∀y∈q.y,y.b5<=a.b5)(C:∀y∈q.y,y.Addr≠a.Addr) :
  zzA 108 false [.val (some 2) (bv.enc .S q),.val (some 3) (aV.enc .S a)] (.tup [some 2,none]) (UX q a):=by
 have b:bv.sml q:=⟨ω,λ_ _=>tV1⟩
 have l:=pD q b;have h:=sC q b;rw[g]at h;have i:=vR q.y a ω;have D:q.y.length=0\/(nth q.y (q.y.length - 1)).b5<=a.b5:=by grind [ax]
 have d:oX q.y a=true:=by grind [oX,eL]
 rw[d]at i;have n:=(jD.1 g).2.2.2;have e:=PG q a;have c:=D2 q.b7 (q.y++[a]);simp only[O5,List.length_singleton]at c;have E:(q.y++[a]).length=q.y.length+1:=by simp
 refine fO 51 [(6,7,[28,29,30,31,32,33,34])] Tryz.func108 rfl ?_ (.inr e)
 repeat'(first|refine gP ?_|refine Cf (aM λ_=>rfl) rfl jp qs (f8 (aV.enc .own) q.y a) ?_)
 refine Lp.fz 6 (ι:=Nat) (λk=>[(2,bB (bv.enc .S q)),(4,bB [I 0,.z]),(6,bB (bv.enc .S ⟨q.b7,q.y++[a]⟩)),(7,fN k)]) (λk=>k<=ky q.b7 (q.y++[a])) (λk=>ky q.b7 (q.y++[a]) - k) 0 ?_ (I1 _) λk F=>?_
 ·(repeat'(first|exact tV1|rfl|exact CV rfl (show Rr (eJ (bv.enc .own ⟨q.b7,q.y++[a]⟩)) (bv.enc .S ⟨q.b7,q.y++[a]⟩) by rw[bv.enc_fz];exact m9 _)|refine CV ?_ ?_))
 have o:((q.y++[a]).drop k).length<=5000:=ψ
 have p:((q.y++[a]).take k).length<=5000:=ψ
 have j:=nX ((q.y++[a]).drop k) ⟨ω,λ_ _=>tV1⟩;by_cases r:k<ky q.b7 (q.y++[a])
 ·have t:q.b7<quarCells ((q.y++[a]).drop k) ((q.y++[a]).drop k).length:=yc r
  repeat'(first|refine gE ?_|refine Cj k rfl (by rw[I2];show k<=(q.y++[a]).length;omega) (aM λ_=>rfl) I8 ?_)
  (exact cV (k+1) ω)
 obtain rfl:k=ky q.b7 (q.y++[a]):=ω
 have t:quarCells ((q.y++[a]).drop (ky q.b7 (q.y++[a]))) ((q.y++[a]).drop (ky q.b7 (q.y++[a]))).length<=q.b7:=zM n.1 _
 repeat'(first|refine gE ?_|refine Cj (ky q.b7 (q.y++[a])) rfl (by rw[I2];show ky q.b7 (q.y++[a])<=(q.y++[a]).length;omega) (aM λ_=>rfl) I8 ?_|refine Cc (ky q.b7 (q.y++[a])) rfl (by rw[I2];show ky q.b7 (q.y++[a])<=(q.y++[a]).length;omega) (aM λ_=>rfl) C8 ?_|refine CG (na ((q.y++[a]).take (ky q.b7 (q.y++[a]))) ω) ?_|refine CG (na ((q.y++[a]).drop (ky q.b7 (q.y++[a]))) ω) ?_)
 rfl
def FG(h:ac)(p:Int):zzA 187 false [.val (some 24) (ac.enc .S h),.vI p] .one [B (gq h p)]:=by
 cases e:h.q
 all_goals
  have a:ac.enc .S h=(ac.enc .S h).set 18 (B h.q):=rfl;rw[e]at a;rw[a];refine fO 23 [] Tryz.func187 rfl ?_
  repeat'(first|refine gP ?_|refine gS (λb=>?_) (λb=>?_)|fail)
  all_goals exact bZ ((by unfold gq;rw[e];first|(simp[*];done)|(simp[*];rw[C9];simp;try omega)|(rw[C9];simp[*];try omega)))
def vt(h:ac):zzA 71 false [.val (some 24) (ac.enc .S h)] .one [I (eQ h:Nat)]:=by
 refine fO 9 [] Tryz.func71 rfl ?_
 refine σP ?_
 rfl
theorem kI(c:C):VF c c:=(m9 [c]).1
def cE(h:ac)(s l o:C):List C:=[.s .own (h.G.F.V.T.map (aF .own)),.s .own (h.G.F.V.a6.map (rB .own)),.s .own (h.G.F.O.M.map (bo.enc .own)),I h.G.Calls,.s .own (h.G.a3.map (rI .own)),.s .own (h.o.map (aG.enc .own)),s,l,o,.s .own (h.R.map (aE.enc .own)),.s .own (h.w.U.map (bP .own)),.s .own (h.w.a0.map (aF .own)),I h.a7.b7,.s .own (h.a7.y.map (aV.enc .own)),I h.c0,I h.b1,I h.c1,I h.b,B h.q,I h.a.X.a4,I h.a.X.a5,.s .own (h.a.X.T.map (rI .own)),I h.a.b0,I h.a.b]
def oS(h:ac):C:=oE (h.K.map (aB.enc .own))
def oL(h:ac):C:=oE (h.H.map (aC.enc .own))
def oO(h:ac):C:=oE (h.J.map (bg.enc .own))
def dO(h:ac):List C:=cE h (oS h) (oL h) (oO h)
theorem Ka(rows:List (List C)):fz (oE rows)=fz (.s .own rows):=by cases rows<;>rfl
variable{rows:List (List C)}
def rK : oE rows=.s .own rows\/(rows=[]/\oE rows=.s .S []):=by cases rows with|nil=>exact .inr ⟨rfl,rfl⟩|cons=>exact .inl rfl
def YY(h:ac){s l o:C}(a:fz s=.s .S (h.K.map (aB.enc .S)))(b:fz l=.s .S (h.H.map (aC.enc .S)))(c:fz o=.s .S (h.J.map (bg.enc .S))):eJ (cE h s l o)=ac.enc .S h:=by
 have d:=ac.enc_fz h;have e:eJ (cE h s l o)=(((eJ (ac.enc .own h)).set 6 (fz s)).set 7 (fz l)).set 8 (fz o):=rfl;rw[e,d,a,b,c];rfl
def YM(h:ac):fz (oS h)=.s .S (h.K.map (aB.enc .S)):=(Ka _).trans (Bc _)
def X3(h:ac):fz (oL h)=.s .S (h.H.map (aC.enc .S)):=(Ka _).trans (xS _)
def Zd(h:ac):fz (oO h)=.s .S (h.J.map (bg.enc .S)):=(Ka _).trans (zE _)
def G8(h:ac):eJ (dO h)=ac.enc .S h:=YY h (YM h) (X3 h) (Zd h)
def Je(h:VI rows):W4 (oE rows):=by cases rows with|nil=>exact⟨.inr rfl,tV1⟩|cons r a=>exact⟨.inl λe=>(by cases e),h⟩
theorem cF(h:ac):iN (dO h):=by
 have a:=ac.enc_fr h;simp only[ac.enc,iN]at a;unfold dO cE;simp only[iN];refine⟨a.1,a.2.1,a.2.2.1,a.2.2.2.1,a.2.2.2.2.1,a.2.2.2.2.2.1,Je ?_,Je ?_,Je ?_,a.2.2.2.2.2.2.2.2.2⟩
 ·exact a.2.2.2.2.2.2.1.2
 ·exact a.2.2.2.2.2.2.2.1.2
 exact a.2.2.2.2.2.2.2.2.1.2
def uG{S Y:am}{v:Value}(h:fj w S Y (.s .own rows) v):fj w S Y (oE rows) v:=by
 cases rows with
 | cons=>exact h
 | nil=>
  cases h with
  | nil _ o a d=>exact .nil _ .S a tV1
  | own _ o g k n e rows u f d i j b c l p q r t=>simp at i;omega
variable{h:ac}
theorem Td{S Y:am}{u:Nat->Value}(b:dz w S Y (ac.enc .own h) u):dz w S Y (dO h) u:=by
 obtain⟨f,a,d,e⟩:=b;refine⟨f,λj c g=>?_,d,e⟩;have i:dO h=(((ac.enc .own h).set 6 (oS h)).set 7 (oL h)).set 8 (oO h):=rfl;rw[i]at g;by_cases k:j=8
 ·subst k
  have:c=oO h:=ψ
  rw[this];exact uG (a 8 _ rfl)
 by_cases l:j=7
 ·subst l
  have:c=oL h:=ψ
  rw[this];exact uG (a 7 _ rfl)
 by_cases n:j=6
 ·subst n
  have:c=oS h:=ψ
  rw[this];exact uG (a 6 _ rfl)
 grind
def eD(h:ac)(a:ac.sml h):zzA 62 false [.val (some 24) (ac.enc .S h)] .agg (dO h):=by
 obtain⟨b,c⟩:=jC h a;refine⟨b,λw S d g i=>(c w S d g i).mono λe w1 j=>?_⟩;obtain⟨v,k,l,X,S1,n,o,p,q,r⟩:=j;exact⟨v,k,l,X,S1,n,o,p,q,Td r⟩
def Rs(h:ac)(s l o:C)(a:Int)(k:Nat)(v:Int)(b:0<=a):cE {h with G:=eI h.G a (k+1)} s l o=(cE {h with G:=eI h.G a k} s l o).set 0 (.s .own (((eI h.G a k).F.V.T.map (aF .own)).set (af h.G.F.O (a / 16)).j.toNat ((aF .own (ju (nth h.G.F.V.T (cW h.G a)) (a % 16).toNat k)).set 0 (.s .own (((ju (nth h.G.F.V.T (cW h.G a)) (a % 16).toNat k).map (rI .own)).set (a % 16+k).toNat (splice (rI .own v) 0 [I 0])))))):=by
 have e:(a % 16+k).toNat=(a % 16).toNat+k:=ω
 rw[e];simp[cE,eI,SC,ju,aF,splice,cW]
 rfl
theorem mG(h:ac)(s l o:C)(a:Int)(n:Nat)(p:aI h.G=true)(e:0<=a/\a<512)(r:0<=(af h.G.F.O (a / 16)).j/\(af h.G.F.O (a / 16)).j<h.G.F.V.T.length)(w:a % 16+n<=16)(y:(nth h.G.F.V.T (cW h.G a)).length=16) :
  zzB 105 false [.ptr (cE h s l o),.vI a,.vI (n:Nat)] [.ptr (cE {h with G:=eI h.G a n} s l o),.vI a,.vI (n:Nat)] (.tup []) []:=by
 have g:=bj p;have t:=cT h.G.F.O (a / 16) g.1.2;have c:cW h.G a<h.G.F.V.T.length:=by unfold cW;omega
 refine fM 36 [] [] [(0,0),(0,0),(0,0)] Tryz.func105 rfl (λu q=>?_) (.inr tV1)
 repeat'(first|refine gP ?_|refine CT qs ?_|refine CS (mh e) ?_|refine CN (t) ⟨⟨rfl,Cp _⟩,⟨rfl,rfl⟩,tV1⟩ ?_)
 rw[show cE h s l o=cE {h with G:=eI h.G a 0} s l o by rw[HZ h a c]]
 (conv=>whnf)
 refine lp0 n (λk=>[(0,bB (cE {h with G:=eI h.G a k} s l o)),(1,fI a),(2,fN n),(6,fI ((af h.G.F.O (a / 16)).j)),(7,fN k)]) λk p=>?_
 have j:a.tmod 16=a % 16:=eR e.1;have b:(eI h.G a k).F.V.T[(af h.G.F.O (a / 16)).j.toNat]? = some (ju (nth h.G.F.V.T (cW h.G a)) (a % 16).toNat k):=O6 c;by_cases B:k<n
 ·have d:=ar (xs:=ju (nth h.G.F.V.T (cW h.G a)) (a % 16).toNat k) (i:=(a % 16+k).toNat) (by grind [n9])
  repeat'(first|refine gE ?_|refine CT qs ?_|refine CX j ?_|refine CQ r.1 (aa b) ?_|refine CQ ω (aa d) ?_|refine Pu.two rfl rfl (aa b) rfl rfl rfl (aa d) rfl (C5 _) (Rs h s l o a k _ e.1) ?_)
  (exact cV (k+1) ω)
 obtain rfl:k=n:=ω
 refine σE ?_
 exact ka
theorem kG(h:ac)(r:aG)(n:Nat)(a:aI h.G=true)(j:h.G.Calls≠100000)(b:h.o.length<=1048576)(l:r.a8=n/\0<=r.At/\r.At<=1000/\n<=1000) :
  zzB 103 false [.ptr (dO h),.val (some 2) (aG.enc .S r)] [.ptr (dO {h with G:=unmN h.G r.At n,o:=(cQ (eQ h) h.o r).getD h.o}),.val (some 2) (aG.enc .S r)] (.tup []) []:=by
 have c:=a;have e:eQ h<=32:=(bu.1 (aH.1 a).2.2.1).2.2;have d:=vt {h with G:=unmN h.G r.At n};rw[show eQ {h with G:=unmN h.G r.At n} = eQ h from(fY _ _ _).1]at d;have g:=E1 (eQ h:Nat) h.o r ω ⟨b,λ_ _=>tV1⟩;refine fM 44 [] [(5,272,[29,30,31,32,33,34,35,36,37,38,39,28,40,41,42,43,0,1,2,3,4,5,6,7,8,9,10,11,12,13,14,15,16,1013])] [(0,0),(0,0)] Tryz.func103 rfl (λu q=>?_) (.inr tV1)
 refine σP ?_
 refine lp0 n (λk=>[(0,bB (dO {h with G:=unmN h.G r.At k})),(3,bB (aG.enc .S r)),(4,fI (r.At+k))]) λk a=>?_
 by_cases o:k<n
 ·have i:=rV (unmN h.G r.At k) (r.At+k) (iI c _ _) (by grind [tj])
  repeat'(first|refine gE ?_|refine CN (i) ⟨⟨rfl,CY _⟩,⟨rfl,rfl⟩,tV1⟩ ?_)
  (exact cV (k+1) ω)
 obtain rfl:k=n:=ω
 repeat'(first|refine gE ?_|refine CN (d) ⟨⟨rfl,G8 _⟩,tV1⟩ ?_|refine CN (g) ⟨⟨rfl,rfl⟩,⟨rfl,fm h.o⟩,⟨rfl,rfl⟩,tV1⟩ ?_)
 exact ka
theorem WA{c a:C}(h:a=c):VF c a:=by grind [kI]
theorem Tj(k:ah)(p:Int):unmN k p 1=dm k p:=by show dm k (p+((0:Nat):Int))=_;grind
theorem vu(a:h.K≠[]):dO h=cE h (.s .own (h.K.map (aB.enc .own))) (oL h) (oO h):=by grind [sG,List.map_eq_nil_iff,dO,oS]
def X2(h:ac):oL h=.s .own (h.H.map (aC.enc .own))\/(h.H=[]/\oL h=.s .S []):=by
 rcases rK (rows:=h.H.map (aC.enc .own)) with e|⟨a,b⟩
 ·exact .inl e
 exact .inr ⟨List.map_eq_nil_iff.1 a,b⟩
variable{α:Type}
theorem gW{xs:List α}(h:i<xs.length):xs≠[]:=(ψ)
theorem EU(h:ac)(i:Nat)(j:aI h.G=true)(k:h.G.Calls≠100000)(b:h.o.length<=1048576)(c:i<h.K.length)(l:h.K.length<=1048576)(o:0<=(nth h.K i).Q/\(nth h.K i).Q<=31) :
  zzB 386 false [.ptr (dO h),.vI (i:Nat)] [.ptr (dO (giveP h i)),.vI (i:Nat)] (.tup []) []:=by
 have d:=ar c;have g:=K8 h.K i c;have a:=kG {h with K:=dele h.K i} ⟨(nth h.K i).Q,1⟩ 1 j k b ψ;rw[show unmN ({h with K:=dele h.K i} : ac).G (aG.mk (nth h.K i).Q 1).At 1=dm h.G (nth h.K i).Q from Tj _ _]at a;have n:dO {h with K:=dele h.K i} = cE h (oE ((dele h.K i).map (aB.enc .own))) (oL h) (oO h):=rfl;rw[vu (gW c)];rcases rK (rows:=(dele h.K i).map (aB.enc .own)) with e|⟨-,e⟩
 all_goals
  rw[n]at a;rw[e]at g a;refine fM 28 [(492,[1,0,0]),(103,[2,0])] [] [(0,0),(0,0)] Tryz.func386 rfl (λu q=>?_) (.inr tV1)
  refine σP ?_
  exact kc
variable{a:Int}{E:List Int}
def UN(c:aY h E)(d:i<h.K.length)(b:fA (nth h.K i) a):denotes h.K h.H a = ⟨1,i,d9 (nth h.K i) a,0⟩:=by
 rw[jA c.L d ⟨b.1,b.2.1⟩];unfold qv;rw[b.2.2.2,b.2.2.1];rfl
theorem mI(h:ac)(E:List Int)(a:Int)(b:aY h (a::E))(G:h.G.Calls≠100000):zzB 247 false [.ptr (dO h),.vI a] [.ptr (dO (freeA h a)),.vI a] (.tup []) []:=by
 obtain⟨g,t,H⟩:=b.at (b.hin a ψ);have J:=(b.hin a ψ).bd b;have D:=b.lens;have K:=D.spans;have M:=D.larges;unfold freeA;generalize w9 h a=i at g t;have l:=b.L.sok _ (ax g);have N:=aJ l;have c:=ar g;have j:=kT h.K h.H a ⟨ω,λ_ _=>tV1⟩ ⟨ω,λ_ _=>tV1⟩;rw[UN b g t]at j;have w:=EV (nth h.K i) (d9 (nth h.K i) a) l t.2.2.2;have P:=b.give g t;have n:=FG (clrS h i a) (nth h.K i).Q;rw[show gq (clrS h i a) (nth h.K i).Q=gq h (nth h.K i).Q from rfl]at n;have o:i<(clrS h i a).K.length:=by grind [clrS]
 have y:(nth (clrS h i a).K i).Q=(nth h.K i).Q:=by unfold clrS;simp only[bW,true_and];rw[CL g];rfl
 have p:=EU (clrS h i a) i b.ker G (by show h.o.length<=_;grind [pV.free]) o (by grind [clrS]) (by rw[y];omega);have d:dO (clrS h i a)=cE h (.s .own ((h.K.map (aB.enc .own)).set i (aB.enc .own (mK (nth h.K i) (d9 (nth h.K i) a))))) (oL h) (oO h):=by
  rw[vu (gW o)];show cE h (.s .own ((h.K.set i _).map _)) (oL h) (oO h)=_;rw[SC]
 have r:=G8 (clrS h i a);rw[d]at r p;have k:((h.K.map (aB.enc .own)).set i (aB.enc .own (mK (nth h.K i) (d9 (nth h.K i) a))))[i]? = some (aB.enc .own (mK (nth h.K i) (d9 (nth h.K i) a))):=kY g;rw[vu (gW g)];have B:=X3 h;unfold freeS;rcases X2 h with e|⟨C,e⟩
 all_goals
  try rw[C]at j
  rw[e]at p r B d |-;by_cases F:(mK (nth h.K i) (d9 (nth h.K i) a)).a9=0
  ·cases O:gq h (nth h.K i).Q<;>rw[O]at n
   ·rw[CL ⟨F,rfl⟩]
    refine fM 64 [(386,[2,0])] [(0,11,[6,7,8,9,10,11,12,13,14,15,4]),(2,277,[20,21,22,23,24,25,26,27,28,29,30,31,32,33,34,35,36,19,37,38,39,0,1,2,3,4,5,6,7,8,9,10,11,12,13,14,15,16,17,18,19,20,21,1019]),(3,9,[40,41,42,43,44,45,46,47,5]),(4,9,[48,49,50,51,52,53,54,55,56])] [(0,0),(0,0)] Tryz.func247 rfl (λu q=>?_) (.inr tV1)
    repeat'(first|refine gB ?_|refine CN (j) ⟨⟨rfl,f9 _⟩,⟨rfl,kj _⟩,⟨rfl,rfl⟩,tV1⟩ ?_|refine CN (j) ⟨⟨rfl,f9 _⟩,⟨rfl,rfl⟩,⟨rfl,rfl⟩,tV1⟩ ?_|refine CK k ?_|refine CM rfl k rfl ?_|refine CU rfl rfl (aa c) rfl (O2 rfl) rfl ?_|refine CN (n) ⟨⟨rfl,r⟩,⟨rfl,rfl⟩,tV1⟩ ?_)
    exact kc
   rw[CJ (λx=>by cases x.2),d];refine fM 64 [(386,[2,0])] [(0,11,[6,7,8,9,10,11,12,13,14,15,4]),(2,277,[20,21,22,23,24,25,26,27,28,29,30,31,32,33,34,35,36,19,37,38,39,0,1,2,3,4,5,6,7,8,9,10,11,12,13,14,15,16,17,18,19,20,21,1019]),(3,9,[40,41,42,43,44,45,46,47,5]),(4,9,[48,49,50,51,52,53,54,55,56])] [(0,0),(0,0)] Tryz.func247 rfl (λu q=>?_) (.inr tV1)
   repeat'(first|refine gB ?_|refine CN (j) ⟨⟨rfl,f9 _⟩,⟨rfl,kj _⟩,⟨rfl,rfl⟩,tV1⟩ ?_|refine CN (j) ⟨⟨rfl,f9 _⟩,⟨rfl,rfl⟩,⟨rfl,rfl⟩,tV1⟩ ?_|refine CK k ?_|refine CM rfl k rfl ?_|refine CU rfl rfl (aa c) rfl (O2 rfl) rfl ?_|refine CN (n) ⟨⟨rfl,r⟩,⟨rfl,rfl⟩,tV1⟩ ?_)
   exact kc
  rw[CJ (λx=>F x.1),d];refine fM 64 [(386,[2,0])] [(0,11,[6,7,8,9,10,11,12,13,14,15,4]),(2,277,[20,21,22,23,24,25,26,27,28,29,30,31,32,33,34,35,36,19,37,38,39,0,1,2,3,4,5,6,7,8,9,10,11,12,13,14,15,16,17,18,19,20,21,1019]),(3,9,[40,41,42,43,44,45,46,47,5]),(4,9,[48,49,50,51,52,53,54,55,56])] [(0,0),(0,0)] Tryz.func247 rfl (λu q=>?_) (.inr tV1)
  repeat'(first|refine gB ?_|refine CN (j) ⟨⟨rfl,f9 _⟩,⟨rfl,kj _⟩,⟨rfl,rfl⟩,tV1⟩ ?_|refine CN (j) ⟨⟨rfl,f9 _⟩,⟨rfl,rfl⟩,⟨rfl,rfl⟩,tV1⟩ ?_|refine CK k ?_|refine CM rfl k rfl ?_|refine CU rfl rfl (aa c) rfl (O2 rfl) rfl ?_|refine CN (n) ⟨⟨rfl,r⟩,⟨rfl,rfl⟩,tV1⟩ ?_)
  exact kc
theorem vO(h:ac)(E:List Int)(t:Nat)(a:Int)(b:aY h (a::E))(y:t<h.R.length)(F:h.G.Calls≠100000):zzB 109 false [.ptr (dO h),.vI (t:Nat),.vI a] [.ptr (dO (recyc t h a)),.vI (t:Nat),.vI a] (.tup []) []:=by
 obtain⟨d,B,G⟩:=b.at (b.hin a ψ);have H:=(b.hin a ψ).bd b;have C:=b.lens;have J:=C.spans;have K:=C.larges;have o:=b.cach _ (ax y);have p:=mI h E a b F;unfold recyc;generalize w9 h a=i at d B;have r:=aJ (b.L.sok _ (ax d));have n:=ar d;have k:=ar y;have g:=kT h.K h.H a ⟨ω,λ_ _=>tV1⟩ ⟨ω,λ_ _=>tV1⟩;rw[UN b d B]at g;have j:=EB (nth h.R t) (nth h.K i).d.toNat a o ω;rw[Int.toNat_of_nonneg r.2.2.1]at j;unfold B0 at j;have l:∀c,dO {h with R:=h.R.set t c} = (cE h (.s .own (h.K.map (aB.enc .own))) (oL h) (oO h)).set 9 (.s .own ((h.R.map (aE.enc .own)).set t (aE.enc .own c))):=λc=>by
  rw[vu (h:={h with R:=h.R.set t c}) (gW d)];show cE {h with R:=h.R.set t c} _ (oL h) (oO h)=_;simp[cE,SC]
 rw[vu (gW d)]at p |-;rcases X2 h with e|⟨w,e⟩
 all_goals
  try rw[w]at g
  rw[e]at p l |-;cases D:cput (nth h.R t) (nth h.K i).d a with
  | none=>
   rw[D]at j;refine fM 54 [(247,[2,0])] [(0,11,[9,10,11,12,13,14,15,16,17,18,6]),(2,278,[23,24,25,26,27,28,29,30,31,32,33,34,35,36,37,38,39,40,22,41,42,7,0,1,2,3,4,5,6,7,8,9,10,11,12,13,14,15,16,17,18,19,20,21,22,1020,23]),(4,6,[44,45,46,47,48,49])] [(0,0),(0,0),(0,0)] Tryz.func109 rfl (λu q=>?_) (.inr tV1)
   repeat'(first|refine gB ?_|refine CN (g) ⟨⟨rfl,f9 _⟩,⟨rfl,kj _⟩,⟨rfl,rfl⟩,tV1⟩ ?_|refine CN (g) ⟨⟨rfl,f9 _⟩,⟨rfl,rfl⟩,⟨rfl,rfl⟩,tV1⟩ ?_|refine CN (j) ⟨⟨rfl,Cm _⟩,⟨rfl,rfl⟩,⟨rfl,rfl⟩,tV1⟩ ?_)
   exact kc
  | some c=>
   rw[D]at j;simp only;rw[l];refine fM 54 [(247,[2,0])] [(0,11,[9,10,11,12,13,14,15,16,17,18,6]),(2,278,[23,24,25,26,27,28,29,30,31,32,33,34,35,36,37,38,39,40,22,41,42,7,0,1,2,3,4,5,6,7,8,9,10,11,12,13,14,15,16,17,18,19,20,21,22,1020,23]),(4,6,[44,45,46,47,48,49])] [(0,0),(0,0),(0,0)] Tryz.func109 rfl (λu q=>?_) (.inr tV1)
   repeat'(first|refine gB ?_|refine CN (g) ⟨⟨rfl,f9 _⟩,⟨rfl,kj _⟩,⟨rfl,rfl⟩,tV1⟩ ?_|refine CN (g) ⟨⟨rfl,f9 _⟩,⟨rfl,rfl⟩,⟨rfl,rfl⟩,tV1⟩ ?_|refine CN (j) ⟨⟨rfl,Cm _⟩,⟨rfl,rfl⟩,⟨rfl,rfl⟩,tV1⟩ ?_|refine CU rfl rfl (aa k) rfl (O2 rfl) rfl ?_)
   exact kc
theorem fj.frz_at{S F:am}{v:Value}{c:C}(h:fj w S F (.s .own rows) v)(D:rows[i]? = some [c]):∃V:am,(∀b o,V b o->F b o)/\fj w (λb o=>S b o\/V b o) (λb o=>F b o/\¬V b o) (.s .own (rows.set i [fz c])) v:=by
 cases h with
 | nil _ o a E=>simp at D
 | own _ o g k n B rows u f E K L d l M N O P G=>
  have Q:i<rows.length:=ψ
  obtain rfl:k=1:=by rw[<-L [c] ψ];rfl
  simp only[Nat.mul_one]at M N O P G;refine⟨f i,ψ,?_⟩;refine .own _ .own g 1 n B _ u (λq=>if q=i then NO else f q) E (by simpa using K) (λr h=>?_) d l (λq H=>?_) ψ (λq H b o p=>?_) (λq X H R T b o p t=>?_) (λJ U r W y A=>?_)
  ·grind
  ·grind
  ·split at p
   ·exact p.elim
   grind
  ·split at p
   ·exact p.elim
   split at t
   ·exact t.elim
   grind
  by_cases e:J=i
  ·subst e
   rw[O6 Q]at y;obtain rfl:=Option.some.inj y;cases U with
   | succ j=>simp at A
   | zero=>
    obtain rfl:fz c=W:=by simpa using A
    have:=(G J 0 [c] c D rfl).freeze
    grind
  grind [fj.mono]
variable{f:Nat}
theorem au.frz{P:Program}{sh:Bool}{A:List RA}{k:Kd}{c:C}(h:au P f sh A k [.s .own rows])(d:rows[i]? = some [c]):au P f sh A k [.s .own (rows.set i [fz c])]:=by
 obtain⟨l,n⟩:=h;refine⟨l,λw S p q r=>(n w S p q r).mono λe w1 t=>?_⟩;obtain⟨v,u,y,X,S1,G,H,J,B,g,D,K,L⟩:=t;obtain⟨V,M,N⟩:=(D 0 _ rfl).frz_at d;have E:∀b o,V b o->X b o:=ψ
 refine⟨v,u,y,λb o=>X b o/\¬V b o,λb o=>S1 b o\/V b o,ψ,λb o a=>?_,λb o a h=>?_,B,λj=>if j=0 then(λb o=>g 0 b o/\¬V b o) else NO,λj O F=>?_,λj F b o a=>?_,ψ⟩
 ·grind
 ·grind
 ·grind
 all_goals simp_all
def Q6(c:aE)(k:Nat):aE:=⟨c.Y.set k []⟩
theorem PZ(c:aE)(k:Nat):aE.enc .own (Q6 c k)=[.s .own ((c.Y.map (aF .own)).set k (aF .own []))]:=by grind [SC,aE.enc,Q6]
theorem LX(xs:List Int):([]:List Int).map (rI .S)=(xs.map (rI .S)).drop xs.length:=by simp_all
theorem KJ(xs:List Int):xs.map (rI .S)=(xs.map (rI .S)).take xs.length:=by grind [I2]
def xy{k:Nat}{r:List C}(h:k<rows.length):(rows.set k r)[k]? = some r:=O6 h
def YV(c:aE)(k:Nat):List C:=aE.enc .own (Q6 c k)++aF .own (nth c.Y k)
def Ti(c:aE)(k:Nat):iN (YV c k):=aD (Cv _) (bC _)
def zk(c:aE)(k:Nat)(d:bx c=true)(p:k<=3):zzA 522 false [.val (some 1) (aE.enc .S c),.vI (k:Nat),.vI 8] (.tup [some 1,none]) (YV c k):=by
 obtain⟨q,e⟩:=eX d;have g:aE.sml c:=⟨ω,λl j=>by have:=e l j;show l.length<=1048576;omega⟩
 have h:=BM c k g;rw[d,O0 ω]at h;have n:=ll c g;have a:=nB (c:=c) (k:=k) ω;have o:=e _ (ax (xs:=c.Y) (i:=k) ω);have b:=Ti c k;unfold YV at b |-;rw[PZ]at b |-;refine fO 52 [(5,268,[29,30,31,32,33,34,35,36,37,38,39,41,0,1,2,3,4,5,6,7,8,9,10,11,1000,1001,1002,12,13]),(6,265,[42,43,44,45,46,47,48,49,50,0,1,2,3,4,5,6,7,8,9,1000,10,11])] Tryz.func522 rfl ?_ (.inr b)
 repeat'(first|refine gP ?_|refine CX (z:=((nth c.Y k).length:Int)) jp ?_|refine Cj (nth c.Y k).length rfl (by rw[I2];omega) (aM λ_=>rfl) (LX _) ?_|refine Cc (nth c.Y k).length rfl (by rw[I2];omega) (aM λ_=>rfl) (KJ _) ?_|refine Cg (λ_=>rfl) (λ_=>rfl) (by simp) qs ?_|refine CZ (λ_=>rfl) (λ_=>rfl) (by simp) qs ?_|refine Cg (λ_=>rfl) (λ_=>rfl) ω qs ?_|refine CZ (λ_=>rfl) (λ_=>rfl) ω qs ?_|refine CU rfl rfl (aa a) rfl (O2 rfl) rfl ?_)
 rfl
theorem zt(c:aE)(k:Nat)(e:bx c=true)(q:k<=3):zzA 246 false [.val (some 1) (aE.enc .S c),.vI (k:Nat),.vI 8] (.tup [some 1,none]) (YV c k):=by
 obtain⟨r,g⟩:=eX e;have h:aE.sml c:=⟨ω,λl o=>by have:=g l o;show l.length<=1048576;omega⟩
 have j:=uW c k h;rw[e,O0 ω]at j;have b:=nB (c:=c) (k:=k) ω;have p:=g _ (ax (xs:=c.Y) (i:=k) ω);have n:=au.frz (iZ c h) (i:=k) (c:=.s .own ((nth c.Y k).map (rI .own))) (aa b);rw[show fz (.s .own ((nth c.Y k).map (rI .own)))=.s .S ((nth c.Y k).map (rI .S)) from(List.cons.inj (cR (nth c.Y k))).1]at n;have a:k<(c.Y.map (aF .own)).length:=ψ
 have d:=Ti c k;unfold YV at d |-;rw[PZ]at d |-;refine fO 43 [(6,7,[30,31,32,33,34,35,36]),(7,5,[38,39,40,41,42])] Tryz.func246 rfl ?_ (.inr d)
 repeat'(first|refine gP ?_|refine CX (z:=((nth c.Y k).length:Int)) jp ?_|refine Cj (nth c.Y k).length rfl (by rw[I2];omega) (aM λ_=>rfl) (LX _) ?_|refine Cc (nth c.Y k).length rfl (by rw[I2];omega) (aM λ_=>rfl) (KJ _) ?_|refine CG (eP [] (by simp)) ?_|refine CG (eP (nth c.Y k) ω) ?_|refine CM rfl (xy a) rfl ?_|refine CU rfl rfl (xy a) rfl (O2 rfl) (by simp only[List.set_cons_zero,List.set_set];rfl) ?_|refine CK (xy a) ?_)
 simp only[List.set_set,t5];rfl
theorem rJ{k:Int} : ∀{l s s2 b:List Int},(∀x∈s2,x∈s)->wP k s l=some b->(∀x∈s,x∈b)/\∃c,wP k s2 l=some c/\∀x∈c,x∈b
 | [],s,s2,b,h,e=>by grind [wP]
 | a::l,s,s2,b,h,e=>by
  simp only[wP]at e |-;split at e
  ·rename_i g
   rw[CL (show good k s2 a from⟨g.1,g.2.1,g.2.2.1,λx=>g.2.2.2 (h a x)⟩)];obtain⟨d,f⟩:=rJ (l:=l) (s:=s++[a]) (s2:=s2++[a]) ψ e
   grind
  cases e
theorem x4:∀{a:List (List Int)}{k:Nat}{s s2:List Int},(∀x∈s2,x∈s)->(jj k s a).isSome=true->(jj k s2 a).isSome=true
 | [],_,_,_,_,_=>rfl
 | l::a,k,s,s2,h,e=>by
  simp only[jj,gM]at e |-;split at e
  ·rename_i g
   rw[CL g];cases b:wP k s l with
   | none=>grind
   | some i=>
    rw[b]at e;obtain⟨-,c,d,f⟩:=rJ h b;rw[d];exact x4 f e
  cases e
theorem M1:∀{a:List (List Int)}{k:Nat}{s s2:List Int}(i:Nat),(∀x∈s2,x∈s)->(jj k s a).isSome=true->(jj k s2 (a.set i [])).isSome=true
 | [],_,_,_,_,_,_=>rfl
 | l::a,k,s,s2,i,h,e=>by
  simp only[jj,gM]at e;split at e
  ·rename_i g
   cases b:wP k s l with
   | none=>grind
   | some j=>
    rw[b]at e;obtain⟨n,c,d,f⟩:=rJ h b;cases i with
    | zero=>
     simp only[List.set_cons_zero,jj,gM];rw[CL ⟨by simp,g.2⟩];exact x4 ψ e
    | succ i=>
     simp only[List.set_cons_succ,jj,gM];rw[CL g,d];exact M1 i f e
  cases e
theorem Yh{c:aE}(h:bx c=true)(k:Nat):bx (Q6 c k)=true:=by grind [M1,bx,Q6]
def spilt(h:ac)(t k:Nat):ac:={h with R:=h.R.set t (Q6 (nth h.R t) k)}
theorem aY.spilt{h:ac}{E:List Int}{t k:Nat}(d:aY h E)(i:t<h.R.length)(n:k<(nth h.R t).Y.length):aY (spilt h t k) (nth (nth h.R t).Y k++E):=by
 have p:(E++holders h).Perm (nth (nth h.R t).Y k++E++holders (Ab.spilt h t k)):=by
  refine List.perm_iff_count.2 λb=>?_
  have r:=kV (λc:aE=>c.Y.flatten) b h.R t (Q6 (nth h.R t) k) i;have q:=kV (λx:List Int=>x) b (nth h.R t).Y k [] n;rw[<-nZ,<-nZ]at q;simp only[List.count_nil]at q;simp only[Q6]at r;simp only[holders,cU,Ab.spilt,Q6,OC];omega
 have g:∀c∈(Ab.spilt h t k).R,c∈h.R\/c=Q6 (nth h.R t) k:=λc u=>OD u
 exact {d with
   nc:=by show(h.R.set ..).length=_;rw[C3];exact d.nc
   cach:=λc f=>by grind [aY.cach,Yh,ax]
   onu:=by show ∀o∈h.J,1<=o.Id/\o.Id<=h.b - 1/\0<=o.a2/\o.a2<=(h.R.set t _).length - 1;rw[C3];exact d.onu
   hca:=λc f j l b a=>by
     rcases g c f with f|rfl
     · exact d.hca c f j l b a
     simp only[Q6,C3]at l;simp only[Q6,bW]at a;by_cases e:k=j
     · grind
     rw[CJ λx=>e x.1]at a;exact d.hca _ (ax i) _ l b a
   hin:=λb a=>by
     rcases z5.1 a with a|a
     · exact(d.hca _ (ax i) k n b a).any
     exact d.hin b a
   nd:=p.nodup_iff.1 d.nd
   mem:=λb=>by rw[<-p.mem_iff];exact d.mem b}
def freeAs(h:ac)(az:List Int):ac:=az.foldl freeA h
theorem ic:∀(az:List Int)(h:ac),(freeAs h az).R=h.R/\(freeAs h az).J=h.J/\(freeAs h az).G.Calls=h.G.Calls/\(freeAs h az).w=h.w/\(freeAs h az).a=h.a/\(freeAs h az).b1=h.b1/\(freeAs h az).a7=h.a7/\(freeAs h az).G.a3=h.G.a3
 | [],h=>⟨rfl,rfl,rfl,rfl,rfl,rfl,rfl,rfl⟩
 | a::az,h=>by
  obtain⟨b,c,d,e,f,g,i,j⟩:=ic az (freeA h a);obtain⟨k,l,n,o,p,q,r,t⟩:=Ar h (w9 h a) a;exact⟨b.trans k,c.trans l,d.trans n,e.trans o,f.trans p,g.trans q,i.trans r,j.trans t⟩
theorem aY.freeAs{E:List Int} : ∀{az:List Int}{h:ac},aY h (az++E)->aY (freeAs h az) E
 | [],_,b=>b
 | a::az,h,b=>aY.freeAs (az:=az) (h:=Ab.freeA h a) b.freeA
theorem sP(h:ac)(az:List Int)(k:Nat)(a:k<az.length):freeAs h (az.take (k+1))=freeA (freeAs h (az.take k)) (nth az k):=by grind [CB,ar,freeAs]
def flushN(t:Nat)(h:ac):Nat->ac × Nat
 | 0=>(h,0)
 | k+1=>(freeAs (spilt (flushN t h k).1 t k) (nth (nth (flushN t h k).1.R t).Y k),(flushN t h k).2+(nth (nth (flushN t h k).1.R t).Y k).length)
theorem jT{t:Nat}{h:ac}(b:aY h [])(c:t<h.R.length):∀{k:Nat},k<=4->aY (flushN t h k).1 []/\(flushN t h k).1.R.length=h.R.length/\(flushN t h k).1.G.Calls=h.G.Calls/\(flushN t h k).1.J=h.J/\(flushN t h k).1.w=h.w/\(flushN t h k).1.a=h.a/\(flushN t h k).2<=8*k
 | 0,_=>⟨b,rfl,rfl,rfl,rfl,rfl,I1 _⟩
 | k+1,e=>by
  obtain⟨d,f,g,i,j,l,n⟩:=jT b c (k:=k) ω;have a:t<(flushN t h k).1.R.length:=ω
  obtain⟨o,p⟩:=eX (d.cach _ (ax a))
  grind [aY.spilt,ax,ic,aY.freeAs,spilt,flushN]
theorem Dd{t k:Nat}(a:aY h [])(b:t<h.R.length)(c:k<4):t<(flushN t h k).1.R.length/\bx (nth (flushN t h k).1.R t)=true/\k<(nth (flushN t h k).1.R t).Y.length/\(nth (nth (flushN t h k).1.R t).Y k).length<=8/\(flushN t h k).2<=8*k:=by grind [jT,aY.cach,ax,eX]
variable{j:Nat}
theorem JQ{t k:Nat}(a:aY h [])(b:t<h.R.length)(c:k<4)(f:j<(nth (nth (flushN t h k).1.R t).Y k).length):aY (freeAs (spilt (flushN t h k).1 t k) ((nth (nth (flushN t h k).1.R t).Y k).take j)) (nth (nth (nth (flushN t h k).1.R t).Y k) j::(nth (nth (flushN t h k).1.R t).Y k).drop (j+1)):=by
 obtain⟨d,e⟩:=Dd a b c;have g:=((jT a b (k:=k) ω).1).spilt d e.2.1
 grind [aY.freeAs,gZ,List.take_append_drop]
theorem DS(h:ac)(t:Nat)(g:aY h [])(i:t<h.R.length):zzB 424 false [.ptr (bR h),.vI (t:Nat)] [.ptr (bR (flushN t h 4).1),.vI (t:Nat)] .one [I ((flushN t h 4).2:Nat)]:=by
 refine fM 48 [(426,[2,0])] [(6,6,[26,27,28,29,30,31])] [(0,0),(0,0)] Tryz.func424 rfl (λu q=>?_)
 refine σP ?_
 refine Lp.mk (ι:=Nat) (λk=>[(0,bB (bR (flushN t h k).1)),(1,fN t),(5,fN ((flushN t h k).2)),(6,fN k)]) (λk=>k<=4) (λk=>4 - k) (0) ?_ (I1 _) λk D=>?_
 ·exact wE
 by_cases l:k<4
 ·obtain⟨n,o,E,F,G⟩:=Dd g i l
  have p:=zk (nth (flushN t h k).1.R t) k o ω;have b:=λj=>JQ g i l (j:=j)
  have c:=ar n;have r:(flushN t h (k+1)).1=freeAs (spilt (flushN t h k).1 t k) (nth (nth (flushN t h k).1.R t).Y k):=rfl;have w:(flushN t h (k+1)).2=(flushN t h k).2+(nth (nth (flushN t h k).1.R t).Y k).length:=rfl;have y:C.s fE.own ((spilt (flushN t h k).1 t k).R.map (aE.enc .own))=C.s fE.own (((flushN t h k).1.R.map (aE.enc .own)).set t (aE.enc .own (Q6 (nth (flushN t h k).1.R t) k))):=by grind [SC,spilt]
  repeat'(first|refine gE ?_|refine CN (p) ⟨⟨rfl,Cm _⟩,⟨rfl,rfl⟩,⟨rfl,rfl⟩,tV1⟩ ?_|refine CU rfl rfl (aa c) rfl (O2 rfl) rfl ?_)
  generalize (flushN t h k).1=d at *;generalize (flushN t h k).2=m at *
  (conv=>whnf)
  refine Lp.mk (ι:=Nat) (λj=>[(0,bB (bR (freeAs (spilt d t k) ((nth (nth d.R t).Y k).take j)))),(1,fN t),(5,fN ((m+j))),(6,fN k),(8,bJ (aF .own (nth (nth d.R t).Y k))),(9,fN j)]) (λj=>j<=(nth (nth d.R t).Y k).length) (λj=>(nth (nth d.R t).Y k).length - j) (0) ?_ (I1 _) λj H=>?_
  ·exact wE
  by_cases e:j<(nth (nth d.R t).Y k).length
  ·have a:=ar e
   have B:=qn _ _ _ (b j e)
   refine σE ?_
   (refine CR (j+1) ω ω ?_)
   rw[sP _ _ _ e];exact wC
  obtain rfl:j=(nth (nth d.R t).Y k).length:=ω
  rw[S9]
  refine σE ?_
  (refine CR (k+1) ω ω ?_)
  rw[r,w];exact wC
 obtain rfl:k=4:=ω
 refine σE ?_
 exact ka
def qX(h:ac)(t:Int)(a:ac.sml h):zzA 245 false [.val (some 24) (ac.enc .S h),.vI t] .one [B (decide (0<=t/\t<=h.R.length - 1)&&decide (h.G.Calls≠100000)&&cw h)]:=by
 have b:=cJ h a;rw[dM]at b;have d:h.R.length<=1048576:=a.2.2.2.2.2.1.1;have c:=aK t 0 (h.R.length - 1:Int);cases e:decide (0<=t/\t<=(h.R.length:Int) - 1)<;>rw[e]at c
 all_goals
  cases g:decide (h.G.Calls≠100000)
  all_goals
   simp only[C0,z9]at g;refine fO 21 [] Tryz.func245 rfl ?_
   repeat'(first|refine gP ?_|refine gS (λi=>?_) (λi=>?_)|fail)
   all_goals first|rfl|(exfalso;omega)
theorem AR(h:ac)(t:Nat)(o:ac.sml h)(p:cw h=true)(q:h.G.Calls≠100000)(b:t<h.R.length):zzA 91 false [.val (some 24) (ac.enc .S h),.vI (t:Nat)] (.tup [some 24,none]) (dO (flushN t h 4).1++[I ((flushN t h 4).2:Nat)]):=by
 have c:=aY.of p;have r:=qX h t o;rw[p,O0 ω,O0 q]at r;have w:=eD h o;refine fP 52 [(247,[2,0])] [] Tryz.func91 rfl ?_ (.inr (aD (cF _) ⟨tV1,tV1⟩))
 refine σP ?_
 refine Lp.mk (ι:=Nat) (λk=>[(1,fN t),(4,.Z .box w7),(6,bB (dO (flushN t h k).1)),(7,fN ((flushN t h k).2)),(8,fN k)]) (λk=>k<=4) (λk=>4 - k) (0) ?_ (I1 _) λk J=>?_
 ·exact wE
 by_cases u:k<4
 ·obtain⟨y,B,K,L,M⟩:=Dd c b u
  have D:=zt (nth (flushN t h k).1.R t) k B ω;have e:=λj=>JQ c b u (j:=j)
  have g:=λj=>(ic ((nth (nth (flushN t h k).1.R t).Y k).take j) (spilt (flushN t h k).1 t k)).2.2.1
  have i:(spilt (flushN t h k).1 t k).G.Calls≠100000:=by have:=(jT c b (k:=k) ω).2.2.1;show(flushN t h k).1.G.Calls≠100000;rw[this];exact q
  have l:=ar y;have E:(flushN t h (k+1)).1=freeAs (spilt (flushN t h k).1 t k) (nth (nth (flushN t h k).1.R t).Y k):=rfl;have F:(flushN t h (k+1)).2=(flushN t h k).2+(nth (nth (flushN t h k).1.R t).Y k).length:=rfl;have G:C.s fE.own ((spilt (flushN t h k).1 t k).R.map (aE.enc .own))=C.s fE.own (((flushN t h k).1.R.map (aE.enc .own)).set t (aE.enc .own (Q6 (nth (flushN t h k).1.R t) k))):=by grind [SC,spilt]
  repeat'(first|refine gE ?_|refine CN (D) ⟨⟨rfl,Cm _⟩,⟨rfl,rfl⟩,⟨rfl,rfl⟩,tV1⟩ ?_|refine CU rfl rfl (aa l) rfl (O2 rfl) rfl ?_)
  generalize (flushN t h k).1=d at *;generalize (flushN t h k).2=m at *
  (conv=>whnf)
  refine Lp.mk (ι:=Nat) (λj=>[(1,fN t),(4,.Z .box w7),(6,bB (dO (freeAs (spilt d t k) ((nth (nth d.R t).Y k).take j)))),(7,fN ((m+j))),(8,fN k),(10,bJ (aF .own (nth (nth d.R t).Y k))),(39,.c2 10 0 [] none),(40,fI ((nth (nth d.R t).Y k).length)),(41,fN j)]) (λj=>j<=(nth (nth d.R t).Y k).length) (λj=>(nth (nth d.R t).Y k).length - j) (0) ?_ (I1 _) λj N=>?_
  ·exact wE
  by_cases n:j<(nth (nth d.R t).Y k).length
  ·have a:=ar n
   have H:=mI _ _ _ (e j n) (by rw[g];exact i)
   refine σE ?_
   (refine CR (j+1) ω ω ?_)
   rw[sP _ _ _ n];exact wC
  obtain rfl:j=(nth (nth d.R t).Y k).length:=ω
  rw[S9]
  refine σE ?_
  (refine CR (k+1) ω ω ?_)
  rw[E,F];exact wC
 obtain rfl:k=4:=ω
 refine σE ?_
 rfl
def DP(s:Int):Int:=(1103515245*s+12345) % 1073741824
def GU(s:Int):0<=DP s/\DP s<=1073741823:=by unfold DP;omega
def Ei(s:Int)(b:0<=s/\s<=1073741823):zzA 548 false [.vI s] .one [I (DP s)]:=by
 have a:=aQ s 0 1073741823;rw[O0 b]at a;refine fO 10 [] Tryz.func548 rfl ?_
 repeat'(first|refine gP ?_|refine CX (z:=DP s) (eR ω) ?_|refine CT qs ?_)
 rfl
def vU(s:Int)(b:0<=s/\s<=1073741823):zzA 83 false [.vI s] .one [B true]:=by
 have a:=aK s 0 1073741823;rw[O0 b]at a;refine fO 5 [] Tryz.func83 rfl ?_
 refine σP ?_
 rfl
def E7(s:Int)(a:0<=s/\s<=1073741823):zzA 456 false [.vI s] .one [I (DP s)]:=by
 refine fO 10 [] Tryz.func456 rfl ?_
 repeat'(first|refine gP ?_|refine CX (z:=DP s) (eR ω) ?_|refine CG (vU s a) ?_|refine CT qs ?_)
 rfl
def J5(s n:Int):Int:=DP s / 1024 % n
def rY(s:Int){n:Int}(h:1<=n):0<=J5 s n/\J5 s n<n:=⟨Int.emod_nonneg _ ω,Int.emod_lt_of_pos _ ω⟩
theorem yl(s n:Int)(b:0<=s/\s<=1073741823)(c:1<=n/\n<=1000):zzA 480 false [.vI s,.vI n] (.tup [none,none]) [I (J5 s n),I (DP s)]:=by
 have d:=aQ s 0 1073741823;have e:=aQ n 1 1000;rw[O0 b]at d;rw[O0 c]at e;have h:=GU s;have i:=rY s c.1;have a:(DP s).tdiv 1024=DP s / 1024:=ψ
 have g:((DP s).tdiv 1024).tmod n=J5 s n:=by rw[a];exact eR ω
 refine fO 23 [] Tryz.func480 rfl ?_ (.inr ⟨tV1,tV1,tV1⟩)
 repeat'(first|refine gP ?_|refine CG (Ei s b) ?_|refine CT qs ?_|refine CT ω ?_|refine CX g ?_|refine CS (gf (by rw[a];omega) (by rw[a];omega)) ?_)
 rfl
theorem yQ(s n:Int)(b:0<=s/\s<=1073741823)(c:1<=n/\n<=1000):zzA 337 false [.vI s,.vI n] (.tup [none,none]) [I (J5 s n),I (DP s)]:=by
 have d:=aK n 1 1000;rw[O0 c]at d;have g:=GU s;have h:=rY s c.1;have a:(DP s).tdiv 1024=DP s / 1024:=ψ
 have e:((DP s).tdiv 1024).tmod n=J5 s n:=by rw[a];exact eR ω
 refine fO 23 [] Tryz.func337 rfl ?_ (.inr ⟨tV1,tV1,tV1⟩)
 repeat'(first|refine gP ?_|refine CG (vU s b) ?_|refine CG (E7 s b) ?_|refine CT qs ?_|refine CT ω ?_|refine CX e ?_|refine CS (gf (by rw[a];omega) (by rw[a];omega)) ?_)
 rfl
def sH(n:Nat):List Int:=(List.range n).map λ(i:Nat)=>(i:Int)
theorem Ac(n:Nat):sH (n+1)=sH n++[(n:Int)]:=by grind [List.range_succ,sH]
def x6(n:Nat):(sH n).length=n:=by simp[sH]
def yo(xs:List Int)(i k:Nat):List Int:=(xs.set i (nth xs k)).set k (nth xs i)
def R8(xs:List Int)(i k:Nat):(yo xs i k).length=xs.length:=by simp[yo]
def gp(n:Nat)(s:Int):Nat->List Int × Int
 | 0=>(sH n,s)
 | j+1=>(yo (gp n s j).1 (n - 1 - j) (J5 (gp n s j).2 ((n - 1 - j:Nat)+1:Int)).toNat,DP (gp n s j).2)
def mi(n:Nat){s:Int}(a:0<=s/\s<=1073741823):∀j,(gp n s j).1.length=n/\0<=(gp n s j).2/\(gp n s j).2<=1073741823
 | 0=>⟨x6 n,a⟩
 | j+1=>⟨by simp only[gp,R8];exact(mi n a j).1,GU _⟩
def shuf(n:Nat)(s:Int):List Int × Int:=gp n s (n - 1)
theorem Kg(xs:List Int)(i k:Nat):(yo xs i k).map (rI .own)=((xs.map (rI .own)).set i (rI .own (nth xs k))).set k (rI .own (nth xs i)):=by grind [SC,yo]
theorem G2{xs:List Int}{k:Nat}(v:Int)(a:k<xs.length):((xs.map (rI .own)).set i (rI .own v))[k]? = some (rI .own (nth (xs.set i v) k)):=by
 rw[<-SC];grind [ar]
def EE(n:Nat)(s:Int)(d:0<=s/\s<=1073741823)(w:n<=64):zzA 526 false [.vI s,.vI (n:Nat)] (.tup [none,none]) (aF .own (shuf n s).1++[I (shuf n s).2]):=by
 have e:=aQ s 0 1073741823;have g:=aQ (n:Nat) 0 64;rw[O0 d]at e;rw[O0 ω]at g;refine fO 63 [] Tryz.func526 rfl ?_ (.inr (aD (bC _) ⟨tV1,tV1⟩))
 refine σP ?_
 refine lp0 n (λk=>[(0,fI s),(1,fN n),(6,bJ (aF .own (sH k))),(7,fN k)]) λk y=>?_
 have h:=x6 k;by_cases B:k<n
 ·repeat'(first|refine gE ?_|refine Cf (aM λ_=>rfl) rfl jp qs (f8 (rI .own) (sH k) (k:Int)) ?_)
  (refine CR (k+1) ω ω ?_)
  rw[Ac];exact wB
 obtain rfl:k=n:=ω
 refine σE ?_
 refine mD (λj:Nat=>[(0,fI ((gp k s j).2)),(6,bJ (aF .own (gp k s j).1)),(8,fI ((k:Int) - 1 - j))]) (λj=>(j<=k - 1/\j<=k)) (λj=>k - j) (0) ω λj C=>?_
 obtain⟨D,l,o⟩:=mi k d j;by_cases E:j<k - 1
 ·have q:(k:Int) - 1 - j=((k - 1 - j:Nat):Int):=ω
  have r:=rY (gp k s j).2 (n:=((k - 1 - j:Nat)+1:Int)) ω;have t:=yl (gp k s j).2 ((k - 1 - j:Nat)+1:Int) ⟨l,o⟩ ω;have u:gp k s (j+1)=(yo (gp k s j).1 (k - 1 - j) (J5 (gp k s j).2 ((k - 1 - j:Nat)+1:Int)).toNat,DP (gp k s j).2):=rfl;rw[q];generalize gp k s j=p at *;obtain⟨xs,z⟩:=p;simp only at *;generalize k - 1 - j=i at *;have a:=ar (xs:=xs) (i:=i) ω;have b:=ar (xs:=xs) (i:=(J5 z (i+1)).toNat) ω;have c:=G2 (xs:=xs) (i:=i) (k:=(J5 z (i+1)).toNat) (nth xs (J5 z (i+1)).toNat) ω
  repeat'(first|refine gE ?_|refine CQ ω (aa b) ?_|refine CU rfl rfl (aa a) rfl (O2 rfl) rfl ?_|refine CQ ω c ?_|refine CU rfl rfl c rfl (O2 rfl) rfl ?_)
  (refine CR (j+1) ω ω ?_)
  rw[u];simp only[aF,Kg];exact wB
 obtain rfl:j=k - 1:=ω
 refine σE ?_
 rfl
def ES(n:Nat)(s:Int)(d:0<=s/\s<=1073741823)(w:n<=64):zzA 495 false [.vI s,.vI (n:Nat)] (.tup [none,none]) (aF .own (shuf n s).1++[I (shuf n s).2]):=by
 have g:=vU s d;have e:=aK (n:Nat) 0 64;rw[O0 ω]at e;refine fO 60 [(12,270,[43,44,45,46,47,48,49,50,51,52,53,54,55,56,0,1,2,3,4,5,6,7,8,9,10,11,12,13,1002,1003,14,15])] Tryz.func495 rfl ?_ (.inr (aD (bC _) ⟨tV1,tV1⟩))
 refine σP ?_
 refine lp0 n (λk=>[(0,fI s),(1,fN n),(6,bJ (aF .own (sH k))),(7,fN k)]) λk y=>?_
 have h:=x6 k;by_cases B:k<n
 ·repeat'(first|refine gE ?_|refine Cf (aM λ_=>rfl) rfl jp qs (f8 (rI .own) (sH k) (k:Int)) ?_)
  (refine CR (k+1) ω ω ?_)
  rw[Ac];exact wB
 obtain rfl:k=n:=ω
 refine σE ?_
 refine mD (λj:Nat=>[(0,fI ((gp k s j).2)),(6,bJ (aF .own (gp k s j).1)),(8,fI ((k:Int) - 1 - j))]) (λj=>(j<=k - 1/\j<=k)) (λj=>k - j) (0) ω λj C=>?_
 obtain⟨D,l,o⟩:=mi k d j;by_cases E:j<k - 1
 ·have q:(k:Int) - 1 - j=((k - 1 - j:Nat):Int):=ω
  have r:=rY (gp k s j).2 (n:=((k - 1 - j:Nat)+1:Int)) ω;have t:=yQ (gp k s j).2 ((k - 1 - j:Nat)+1:Int) ⟨l,o⟩ ω;have u:gp k s (j+1)=(yo (gp k s j).1 (k - 1 - j) (J5 (gp k s j).2 ((k - 1 - j:Nat)+1:Int)).toNat,DP (gp k s j).2):=rfl;rw[q];generalize gp k s j=p at *;obtain⟨xs,z⟩:=p;simp only at *;generalize k - 1 - j=i at *;have a:=ar (xs:=xs) (i:=i) ω;have b:=ar (xs:=xs) (i:=(J5 z (i+1)).toNat) ω;have c:=G2 (xs:=xs) (i:=i) (k:=(J5 z (i+1)).toNat) (nth xs (J5 z (i+1)).toNat) ω
  repeat'(first|refine gE ?_|refine CQ ω (aa b) ?_|refine CU rfl rfl (aa a) rfl (O2 rfl) rfl ?_|refine CQ ω c ?_|refine CU rfl rfl c rfl (O2 rfl) rfl ?_)
  (refine CR (j+1) ω ω ?_)
  rw[u];simp only[aF,Kg];exact wB
 obtain rfl:j=k - 1:=ω
 refine σE ?_
 rfl
def vT(b:Int):Nat->Nat
 | 0=>0
 | n+1=>vT b n+(if bc b (n:Nat)=true then 1 else 0)
theorem vK(b:Int):∀n,vT b n<=n
 | 0=>C5 _
 | n+1=>by have:=vK b n;grind [vT]
def zo(b:Int)(d:b<=9223372036854775807):zzA 525 false [.vI b] .one [I (vT b 16:Nat)]:=by
 refine fO 15 [] Tryz.func525 rfl ?_
 refine σP ?_
 refine lp0 16 (λk=>[(0,fI b),(3,fN (vT b k)),(4,fN k)]) λk g=>?_
 have h:=vK b k;by_cases i:k<16
 ·have a:=jt b (k:Nat) d
  have c:vT b (k+1)=vT b k+(if bc b (k:Nat)=true then 1 else 0):=rfl;cases e:bc b (k:Nat)<;>rw[e]at a c
  all_goals
   refine σE ?_
   (refine CR (k+1) ω ω ?_)
   rw[c];exact wB
 obtain rfl:k=16:=ω
 refine σE ?_
 rfl
def z6(b:Int)(d:b<=9223372036854775807):zzA 494 false [.vI b] .one [I (vT b 16:Nat)]:=by
 refine fO 15 [] Tryz.func494 rfl ?_
 refine σP ?_
 refine lp0 16 (λk=>[(0,fI b),(3,fN (vT b k)),(4,fN k)]) λk g=>?_
 have h:=vK b k;by_cases i:k<16
 ·have a:=iu b (k:Nat) d
  have c:vT b (k+1)=vT b k+(if bc b (k:Nat)=true then 1 else 0):=rfl;cases e:bc b (k:Nat)<;>rw[e]at a c
  all_goals
   refine σE ?_
   (refine CR (k+1) ω ω ?_)
   rw[c];exact wB
 obtain rfl:k=16:=ω
 refine σE ?_
 rfl
def ug(h:ac)(s:aB):Bool:=decide (0<vT s.a9 16)&&decide ((aX h s.Q).length=1)
def kW(h:ac):Nat->List aB
 | 0=>[]
 | n+1=>if ug h (nth h.K n)=true then kW h n++[nth h.K n] else kW h n
def jz(h:ac):List aB:=kW h h.K.length
theorem sB(h:ac):∀n,(kW h n).length<=n
 | 0=>C5 _
 | n+1=>by have:=sB h n;grind [kW]
theorem pZ(h:ac):∀{n:Nat},n<=h.K.length->∀s∈kW h n,s∈h.K
 | 0,_,s,a=>by cases a
 | n+1,b,s,a=>by
  simp only[kW]at a;split at a
  ·rcases z5.1 a with a|a
   ·exact pZ h ω s a
   grind [ax]
  exact pZ h ω s a
theorem AY(h:ac)(g:wu h)(o:h.K.length<=1000)(p:eQ h<=1000)(i:∀s∈h.K,s.a9<=9223372036854775807):zzA 427 false [.val (some 24) (ac.enc .S h)] .one (bY .own (jz h)):=by
 refine fO 42 [(5,16,[13,14,15,16,17,18,19,20,21,22,23,24,25,26,27,28])] Tryz.func427 rfl ?_ (.inr (Dp _))
 refine σP ?_
 refine lp0 h.K.length (λk=>[(1,bB (ac.enc .S h)),(3,bJ (bY .own (kW h k))),(4,fN k)]) λk q=>?_
 have j:=sB h k;by_cases e:k<h.K.length
 ·have c:=ar e
  have d:=zo (nth h.K k).a9 (i _ (ax e));have b:=jM h (nth h.K k).Q g;have l:=gh h (nth h.K k).Q;have n:=vK (nth h.K k).a9 16;have a:kW h (k+1)=if ug h (nth h.K k)=true then kW h k++[nth h.K k] else kW h k:=rfl
  by_cases r:0<vT (nth h.K k).a9 16
  ·by_cases t:(aX h (nth h.K k).Q).length=1
   ·rw[CL (by grind [ug])]at a
    repeat'(first|refine gB ?_|refine CN (b) ⟨⟨rfl,rfl⟩,⟨rfl,rfl⟩,tV1⟩ ?_|refine Cf (aM λ_=>rfl) rfl jp qs (f8 (aB.enc .own) (kW h k) (nth h.K k)) ?_)
    (refine CR (k+1) ω ω ?_)
    rw[a];exact wB
   rw[CJ (by grind [ug])]at a
   refine σB ?_
   (refine CR (k+1) ω ω ?_)
   rw[a];exact wB
  rw[CJ (by grind [ug])]at a
  refine σE ?_
  (refine CR (k+1) ω ω ?_)
  rw[a];exact wB
 obtain rfl:k=h.K.length:=ω
 refine σE ?_
 rfl
theorem DA(h:ac)(g:wu h)(o:h.K.length<=1000)(p:eQ h<=1000)(i:∀s∈h.K,s.a9<=9223372036854775807):zzA 388 false [.val (some 24) (ac.enc .S h)] .one (bY .own (jz h)):=by
 refine fO 32 [] Tryz.func388 rfl ?_ (.inr (Dp _))
 refine σP ?_
 refine lp0 h.K.length (λk=>[(1,bB (ac.enc .S h)),(3,bJ (bY .own (kW h k))),(8,bJ (bY .S h.K)),(9,fI h.K.length),(10,fN k)]) λk q=>?_
 have j:=sB h k;by_cases e:k<h.K.length
 ·have b:=ar e
  have c:=z6 (nth h.K k).a9 (i _ (ax e));have d:=jO h (nth h.K k).Q g;have l:=gh h (nth h.K k).Q;have n:=vK (nth h.K k).a9 16;have a:kW h (k+1)=if ug h (nth h.K k)=true then kW h k++[nth h.K k] else kW h k:=rfl
  by_cases r:0<vT (nth h.K k).a9 16
  ·by_cases t:(aX h (nth h.K k).Q).length=1
   ·rw[CL (by grind [ug])]at a
    repeat'(first|refine gB ?_|refine Cf (aM λ_=>rfl) rfl jp qs (f8 (aB.enc .own) (kW h k) (nth h.K k)) ?_)
    (refine CR (k+1) ω ω ?_)
    rw[a];exact wB
   rw[CJ (by grind [ug])]at a
   refine σB ?_
   (refine CR (k+1) ω ω ?_)
   rw[a];exact wB
  rw[CJ (by grind [ug])]at a
  refine σE ?_
  (refine CR (k+1) ω ω ?_)
  rw[a];exact wB
 obtain rfl:k=h.K.length:=ω
 refine σE ?_
 rfl
def u5(s:aB)(c:Nat):Bool:=bc s.a9 (((c:Nat):Int) / csz s.d)
def wH(s:aB)(n:Nat):List Int:=((List.range n).filter (u5 s)).map λ(i:Nat)=>(i:Int)
variable{s:aB}
theorem P4(h:u5 s n=true):wH s (n+1)=wH s n++[(n:Int)]:=by grind [List.range_succ,wH]
theorem Th(h:u5 s n=false):wH s (n+1)=wH s n:=by grind [List.range_succ,wH]
theorem oA(s:aB)(n:Nat):(wH s n).length<=n:=by grind [wH]
theorem Qi(a:bk s=true){c:Nat}(b:c<16):0<=((c:Nat):Int) / csz s.d/\((c:Nat):Int) / csz s.d<=15:=by
 have d:=aJ a
 grind [bT]
theorem rW(s:aB)(a:bk s=true):zzA 527 false [.val (some 3) (aB.enc .S s)] .one (aF .own (wH s 16)):=by
 have b:=im s;rw[a]at b;have g:=aJ a;have n:=bT g.2.2;refine fO 27 [(5,7,[14,15,16,17,18,19,20])] Tryz.func527 rfl ?_ (.inr (bC _))
 refine σP ?_
 refine lp0 16 (λi=>[(1,bB (aB.enc .S s)),(3,bJ (aF .own (wH s i))),(4,fN i)]) λi o=>?_
 have h:=oA s i;by_cases j:i<16
 ·have k:=Qi a j
  have d:IntKind.i64.wrap (((i:Nat):Int).tdiv (csz s.d))=((i:Nat):Int) / csz s.d:=by grind [gf]
  have c:=jt s.a9 (((i:Nat):Int) / csz s.d) (fK a).2;cases e:u5 s i
  ·rw[show bc s.a9 (((i:Nat):Int) / csz s.d)=false from e]at c
   repeat'(first|refine gE ?_|refine CG (ef _) ?_|refine CT ω ?_|refine CS d ?_)
   (refine CR (i+1) ω ω ?_)
   rw[Th e];exact wB
  rw[show bc s.a9 (((i:Nat):Int) / csz s.d)=true from e]at c
  repeat'(first|refine gE ?_|refine CG (ef _) ?_|refine CT ω ?_|refine CS d ?_|refine Ca cA (λr l=>by rw[z3.1 l];rfl) (by simp[bp,eO]) jp (by simp only[I2];exact vm jp qs) rfl ?_)
  (refine CR (i+1) ω ω ?_)
  rw[P4 e]
  (exact wD)
 obtain rfl:i=16:=ω
 refine σE ?_
 rfl
theorem sM(s:aB)(a:bk s=true):zzA 436 false [.val (some 3) (aB.enc .S s)] .one (aF .own (wH s 16)):=by
 have c:=ik s;rw[a]at c;have g:=aJ a;have n:=bT g.2.2;refine fO 26 [(7,7,[13,14,15,16,17,18,19])] Tryz.func436 rfl ?_ (.inr (bC _))
 refine σP ?_
 refine lp0 16 (λi=>[(1,bB (aB.enc .S s)),(3,bJ (aF .own (wH s i))),(4,fN i)]) λi o=>?_
 have h:=oA s i;by_cases j:i<16
 ·have k:=Qi a j
  have d:IntKind.i64.wrap (((i:Nat):Int).tdiv (csz s.d))=((i:Nat):Int) / csz s.d:=by grind [gf]
  have b:=iu s.a9 (((i:Nat):Int) / csz s.d) (fK a).2;cases e:u5 s i
  ·rw[show bc s.a9 (((i:Nat):Int) / csz s.d)=false from e]at b
   repeat'(first|refine gE ?_|refine CG (cq _) ?_|refine CT ω ?_|refine CS d ?_)
   (refine CR (i+1) ω ω ?_)
   rw[Th e];exact wB
  rw[show bc s.a9 (((i:Nat):Int) / csz s.d)=true from e]at b
  repeat'(first|refine gE ?_|refine CG (cq _) ?_|refine CT ω ?_|refine CS d ?_|refine Ca cA (λr l=>by rw[z3.1 l];rfl) (by simp[bp,eO]) jp (by simp only[I2];exact vm jp qs) rfl ?_)
  (refine CR (i+1) ω ω ?_)
  rw[P4 e]
  (exact wD)
 obtain rfl:i=16:=ω
 refine σE ?_
 rfl
structure fy where
 A:Int
 B:Int
deriving DecidableEq,Inhabited
def fy.enc(_:fE)(x:fy):List C:=[I x.A,I x.B]
def gn(o:fE)(x:List fy):List C:=[.s o (x.map (fy.enc o))]
theorem AM(x:List fy):iN (gn .own x):=⟨⟨.inl ψ,bm _ _ λ_ _=>⟨tV1,tV1,tV1⟩⟩,tV1⟩
theorem D9(xs:List fy)(pr:fy->Bool)(g:xs.length<=9223372036854775807):zzA 586 false [.val none (gn .S xs),.fn (l9 Tryz.prog (mC (some 2) (fy.enc .S) pr xs))] .one [I (bU pr xs)]:=by
 refine fO 19 [] Tryz.func586 rfl ?_
 refine σP ?_
 refine gK xs.length (λi=>[(0,bJ (gn .S xs)),(1,.fv (l9 Tryz.prog (mC (some 2) (fy.enc .S) pr xs))),(7,fI xs.length),(8,fN i)]) (λi=>∀(j:Nat)(z:fy),j<i->xs[j]? = some z->pr z=false) ψ λi b=>?_
 obtain⟨b,d⟩:=b;by_cases a:i<xs.length
 ·obtain⟨y,c⟩ : ∃y,xs[i]? = some y:=⟨_,z4 a⟩
  repeat'(first|refine gE ?_|refine Fv.mk (k:=.one) (rcs:=[B (pr y)]) ⟨y,t4 c,rfl,rfl,rfl⟩ ?_|refine Bf.P (λe=>?_) (λe=>?_))
  ·grind [df]
  (conv=>whnf)
  exact cV (i+1) ψ
 refine σE ?_
 exact nO (eY ω d).symm
theorem vX(xs:List fy)(pr:fy->Bool)(a:xs.length<=9223372036854775807):zzA 562 false [.val none (gn .S xs),.fn (l9 Tryz.prog (mC (some 2) (fy.enc .S) pr xs))] .one [B (xs.any pr)]:=by
 refine fO 9 [] Tryz.func562 rfl ?_
 repeat'(first|refine gP ?_|refine CG (D9 xs pr a) ?_)
 grind [iD]
def Jm(i:Int)(p:fy):Bool:=decide (p.A=i) || decide (p.B=i)
def Ld(p:fy)(i:Int):zzA 563 false [.val (some 2) (fy.enc .S p),.ptr [I i]] .one [B (Jm i p)]:=by
 refine fO 14 [] Tryz.func563 rfl ?_
 repeat'(first|refine gP ?_|refine gS (λa=>?_) (λa=>?_)|fail)
 all_goals exact bZ ((by unfold Jm;first|(simp[*];done)|(simp[*];rw[C9];simp)))
def Aw(xs:List fy)(i:Int)(b:xs.length<=1048576):zzA 496 false [.val none (gn .S xs),.vI i] .one [B (xs.any (Jm i))]:=by
 refine fO 8 [] Tryz.func496 rfl ?_
 repeat'(first|refine gP ?_|refine Ce (mC (some 2) (fy.enc .S) (Jm i) xs) (Ld default i).has (λL k rcs a=>?_) ?_|refine CG (vX xs (Jm i) ω) ?_)
 ·obtain⟨y,-,rfl,rfl,rfl⟩:=a
  exact Ld y i
 rfl
def dK(a b:aB):cL:=if(wH a 16).length<(wH b 16).length then⟨b.Q,a.Q,wH a 16⟩ else⟨a.Q,b.Q,wH b 16⟩
def Ek(a b:aB)(g:meshable a b=true)(h:bk a=true)(i:bk b=true):zzA 429 false [.val (some 3) (aB.enc .S a),.val (some 3) (aB.enc .S b)] (.tup [some 3,none]) (cL.enc .own (dK a b)++[B true]):=by
 have c:=pF a b;rw[g]at c;have d:=rW a h;have e:=rW b i;have j:=oA a 16;have k:=oA b 16;unfold dK;split
 ·refine fO 27 [(3,6,[11,12,13,14,15,16]),(5,6,[20,21,22,23,24,25])] Tryz.func429 rfl ?_ (.inr (aD (cL.enc_fr _) ⟨tV1,tV1⟩))
  refine σE ?_
  rfl
 refine fO 27 [(3,6,[11,12,13,14,15,16]),(5,6,[20,21,22,23,24,25])] Tryz.func429 rfl ?_ (.inr (aD (cL.enc_fr _) ⟨tV1,tV1⟩))
 refine σE ?_
 rfl
def EO(a b:aB)(g:meshable a b=true)(h:bk a=true)(i:bk b=true):zzA 390 false [.val (some 3) (aB.enc .S a),.val (some 3) (aB.enc .S b)] (.tup [some 3,none]) (cL.enc .own (dK a b)++[B true]):=by
 have c:=pL a b;rw[g]at c;have d:=sM a h;have e:=sM b i;have j:=oA a 16;have k:=oA b 16;unfold dK;split
 ·refine fO 34 [(3,3,[13,14,15])] Tryz.func390 rfl ?_ (.inr (aD (cL.enc_fr _) ⟨tV1,tV1⟩))
  refine σE ?_
  rfl
 refine fO 34 [(3,3,[13,14,15])] Tryz.func390 rfl ?_ (.inr (aD (cL.enc_fr _) ⟨tV1,tV1⟩))
 refine σE ?_
 rfl
def vP(p:cL):cY:=⟨p,0,0⟩
def Kn(p:cL)(c:gc p=true)(a:cL.sml p):zzA 430 false [.val (some 3) (cL.enc .S p)] (.tup [some 5,none]) (cY.enc .own (vP p)++[B true]):=by
 have b:=yD p a;rw[c]at b;have d:=v6 (vP p) a;refine fO 11 [] Tryz.func430 rfl ?_ (.inr (aD (cY.enc_fr _) ⟨tV1,tV1⟩))
 refine σP ?_
 rfl
def LW(p:cL)(c:gc p=true)(a:cL.sml p):zzA 391 false [.val (some 3) (cL.enc .S p)] (.tup [some 5,none]) (cY.enc .own (vP p)++[B true]):=by
 have b:=yu p a;rw[c]at b;have d:=ur p a;refine fO 11 [] Tryz.func391 rfl ?_ (.inr (aD (cY.enc_fr _) ⟨tV1,tV1⟩))
 refine σP ?_
 rfl
def tn(n:Nat){s:Int}(c:0<=s/\s<=1073741823):∀{j:Nat},j<=n - 1->∀x∈(gp n s j).1,0<=x/\x<n
 | 0,_,x,a=>by
  simp only[gp,sH,O8,List.mem_range]at a;obtain⟨i,d,rfl⟩:=a;omega
 | j+1,e,x,a=>by
  have f:=(mi n c j).1;have b:=tn n c (j:=j) ω;have g:=rY (gp n s j).2 (n:=((n - 1 - j:Nat)+1:Int)) ω;simp only[gp,yo]at a;rcases OD a with a|rfl
  ·rcases OD a with a|rfl
   ·exact b x a
   exact b _ (ax ω)
  exact b _ (ax ω)
def tkn(out:List fy)(a:Int):Bool:=out.any (Jm a)
def stp(a:List aB)(p:List Int)(t i:Nat)(out:List fy):List fy:=
 if tkn out (nth p i)=false/\tkn out (nth p (p.length / 2+(i+t) % (p.length - p.length / 2)))=false/\meshable (nth a (nth p i).toNat) (nth a (nth p (p.length / 2+(i+t) % (p.length - p.length / 2))).toNat)=true then out++[⟨nth p i,nth p (p.length / 2+(i+t) % (p.length - p.length / 2))⟩] else out
def tN(a:List aB)(p:List Int)(t:Nat)(out:List fy):Nat->List fy
 | 0=>out
 | i+1=>stp a p t i (tN a p t out i)
def o9(a:List aB)(p:List Int):Nat->List fy
 | 0=>[]
 | t+1=>tN a p t (o9 a p t) (p.length / 2)
def VR(a:List aB)(p:List Int)(t i:Nat)(out:List fy):(stp a p t i out).length<=out.length+1:=by unfold stp;split<;>simp
def wK(a:List aB)(p:List Int)(t:Nat)(out:List fy):∀i,(tN a p t out i).length<=out.length+i
 | 0=>C5 _
 | i+1=>by have b:=wK a p t out i;have c:=VR a p t i (tN a p t out i);simp only[tN];omega
def Ds(a:List aB)(p:List Int):∀t,(o9 a p t).length<=t*(p.length / 2)
 | 0=>I1 _
 | t+1=>by have b:=Ds a p t;have c:=wK a p t (o9 a p t) (p.length / 2);simp only[o9];rw[Nat.add_mul];omega
def kX(a:List aB)(s:Int):List fy:=o9 a (shuf a.length s).1 3
def ry(n:Nat)(out:List fy):List Bool:=(List.range n).map λ(i:Nat)=>tkn out (i:Nat)
variable{out:List fy}
def Q0(h:0<=a/\a<n):(ry n out)[a.toNat]? = some (tkn out a):=by
 unfold ry;rw[I5,IE ω];show some (tkn out ((a.toNat:Nat):Int))=_;rw[Int.toNat_of_nonneg h.1]
variable{b:Int}
def Ut(f:0<=a/\a<n)(g:0<=b/\b<n):ry n (out++[⟨a,b⟩])=((ry n out).set a.toNat true).set b.toNat true:=by
 unfold ry;apply List.ext_getElem?;intro i;by_cases c:i<n
 ·rw[I5,IE c]
  by_cases d:b.toNat=i
  ·subst d
   rw[O6 jp];simp only[IA,tkn,List.any_append,List.any_cons,List.any_nil,Jm];rw[Int.toNat_of_nonneg g.1];simp
  rw[List.getElem?_set_ne d];by_cases e:a.toNat=i
  ·subst e
   rw[O6 jp];simp only[IA,tkn,List.any_append,List.any_cons,List.any_nil,Jm];rw[Int.toNat_of_nonneg f.1];simp
  rw[List.getElem?_set_ne e,I5,IE c];simp only[IA,tkn,List.any_append,List.any_cons,List.any_nil,Jm];rw[C1 ω,C1 ω];simp
 rw[I4 jp,I4 jp]
def Wf(n:Nat):(ry n []).map (rB .own)=List.replicate n [B false]:=by
 unfold ry;rw[List.map_map];apply List.ext_getElem?;intro i;rw[I5];by_cases a:i<n
 ·rw[IE a,List.getElem?_replicate];simp[a];rfl
 rw[I4 jp,List.getElem?_replicate];simp[a]
def R7{xs:List Bool}{k:Nat}(v:Bool)(a:k<xs.length):((xs.map (rB .own)).set i (rB .own v))[k]? = some (rB .own (nth (xs.set i v) k)):=by
 rw[<-SC];exact aa (ar (by rw[C3];exact a))
def zc(c:List aB)(s:Int)(u:0<=s/\s<=1073741823)(V:c.length<=16):zzA 428 false [.val none (bY .S c),.vI s,.vI 3] (.tup [none,none]) (gn .own (kX c s)++[I (shuf c.length s).2]):=by
 have J:=aQ s 0 1073741823;rw[O0 u]at J;have K:=aQ 3 0 16;rw[O0 ω]at K;have Q:=EE c.length s u ω;have D:=(mi c.length u (c.length - 1)).1;have e:=tn c.length u (C5 _);unfold kX;change (shuf c.length s).1.length=_ at D;change ∀x∈(shuf c.length s).1,_ at e
 have E:iN (gn .own (o9 c (shuf c.length s).1 3)++[I (shuf c.length s).2]):=aD (AM _) ⟨tV1,tV1⟩;generalize shuf c.length s=q at *;obtain⟨p,z⟩:=q;simp only at *;have F:((p.length:Nat):Int).tdiv 2=((p.length / 2:Nat):Int):=by rw[Int.tdiv_eq_ediv_of_nonneg ω];omega
 have g:C.s fE.own ((ry c.length []).map (rB .own))=C.s fE.own (List.replicate c.length [B false]):=by rw[Wf]
 have h:∀i:Nat,i<p.length->0<=nth p i/\nth p i<c.length:=λi R=>e _ (ax R)
 refine fO 110 [(15,21,[73,74,75,76,77,78,79,80,81,82,83,84,85,86,87,88,89,90,91,92,93])] Tryz.func428 rfl ?_ (.inr E)
 repeat'(first|refine gE ?_|with_reducible refine CS ((O1 _ F).trans (gf ω ω)) ?_|refine CT qs ?_|refine Mk.mk c.length rfl rfl ω (vm ω qs) rfl ?_)
 refine Lp.mk (ι:=Nat) (λt=>[(0,bJ (bY .S c)),(2,fI 3),(8,bJ (gn .own (o9 c p t))),(9,bJ (aF .own p)),(10,fI z),(11,fN ((p.length / 2))),(12,bJ (lH .own (ry c.length (o9 c p t)))),(13,fN t)]) (λt=>t<=3) (λt=>3 - t) (0) ?_ (I1 _) λt S=>?_
 ·repeat'(first|exact tV1|rfl |exact WA g|refine CV ?_ ?_|(exact Ui (by first|omega|(simp only;omega)|(simp;omega))))
 have W:=Ds c p t;have ol2:t*(p.length / 2)<=3*8:=Nat.mul_le_mul S ω;by_cases X:t<3
 ·refine σE ?_
  refine Lp.mk (ι:=Nat) (λj=>[(0,bJ (bY .S c)),(2,fI 3),(8,bJ (gn .own (tN c p t (o9 c p t) j))),(9,bJ (aF .own p)),(10,fI z),(11,fN ((p.length / 2))),(12,bJ (lH .own (ry c.length (tN c p t (o9 c p t) j)))),(13,fN t),(14,fN j)]) (λj=>j<=p.length / 2) (λj=>p.length / 2 - j) (0) ?_ (I1 _) λj Y=>?_
  ·repeat'(first|exact tV1|rfl |exact WA g|refine CV ?_ ?_|(exact Ui (by first|omega|(simp only;omega)|(simp;omega))))
  have Z:=wK c p t (o9 c p t) j;by_cases lj:j<p.length / 2
  ·have L:(j+t) % (p.length - p.length / 2)<p.length - p.length / 2:=Nat.mod_lt _ ω
   have G:((j:Int)+t).tmod ((p.length:Int) - (p.length / 2:Nat))=(((j+t) % (p.length - p.length / 2):Nat):Int):=by
    rw[eR ω,Int.natCast_emod];congr 1;omega
   have d:tN c p t (o9 c p t) (j+1)=stp c p t j (tN c p t (o9 c p t) j):=rfl;unfold stp at d;generalize tN c p t (o9 c p t) j=out at *;have l:p.length / 2+(j+t) % (p.length - p.length / 2)<p.length:=ω
   generalize hk:(j+t) % (p.length - p.length / 2)=k at *;have n:=ar (xs:=p) (i:=j) ω;have o:=ar (xs:=p) (i:=p.length / 2+k) l;have w:=h j ω;have r:=h _ l;generalize nth p j=a at *;generalize nth p (p.length / 2+k)=b at *;have y:=Q0 (out:=out) w;have H:=Q0 (out:=out) r;have T:=ar (xs:=c) (i:=a.toNat) ω;have U:=ar (xs:=c) (i:=b.toNat) ω;have M:=pF (nth c a.toNat) (nth c b.toNat);have ub2:=R7 (xs:=ry c.length out) (i:=a.toNat) (k:=b.toNat) true (by simp[ry];omega);cases N:tkn out a<;>cases O:tkn out b<;>cases P:meshable (nth c a.toNat) (nth c b.toNat)
   all_goals
    rw[N]at y;rw[O]at H;rw[P]at M;rw[N,O,P]at d;simp only[and_true,true_and,if_true,Bool.false_eq_true,Bool.true_eq_false,and_false,false_and,if_false]at d
    repeat'(first|refine gE ?_|refine CX G ?_|refine CT ω ?_|refine CQ ω (aa o) ?_|refine CQ w.1 (aa y) ?_|refine CQ r.1 (aa H) ?_|refine CQ w.1 (aa T) ?_|refine CQ r.1 (aa U) ?_|refine CU rfl rfl (aa y) rfl (O2 rfl) rfl ?_|refine CQ r.1 ub2 ?_|refine CU rfl rfl ub2 rfl (O2 rfl) rfl ?_|refine Cf (aM λ_=>rfl) rfl jp qs (f8 (fy.enc .own) out ⟨a,b⟩) ?_)
    (refine CR (j+1) ω ω ?_)
    rw[d]
    first|(rw[Ut w r];simp only[lH,SC])|skip
    exact wB
  obtain rfl:j=p.length / 2:=ω
  refine σE ?_
  (exact cV (t+1) ω)
 obtain rfl:t=3:=ω
 refine σE ?_
 rfl
def uH(x:List fy):eJ (gn .own x)=gn .S x:=by simp[eJ,gn,fy.enc,<-cj,SB]
def zm(c:List aB)(s:Int)(r:0<=s/\s<=1073741823)(Y:c.length<=16):zzA 389 false [.val none (bY .S c),.vI s,.vI 3] (.tup [none,none]) (gn .own (kX c s)++[I (shuf c.length s).2]):=by
 have O:=vU s r;have H:=aK 3 0 16;rw[O0 ω]at H;have P:=ES c.length s r ω;have g:=(mi c.length r (c.length - 1)).1;have h:=tn c.length r (C5 _);unfold kX;change (shuf c.length s).1.length=_ at g;change ∀x∈(shuf c.length s).1,_ at h
 have y:iN (gn .own (o9 c (shuf c.length s).1 3)++[I (shuf c.length s).2]):=aD (AM _) ⟨tV1,tV1⟩;generalize shuf c.length s=q at *;obtain⟨p,z⟩:=q;simp only at *;have B:((p.length:Nat):Int).tdiv 2=((p.length / 2:Nat):Int):=by rw[Int.tdiv_eq_ediv_of_nonneg ω];omega
 have D:fz (C.s fE.own (p.map (rI .own)))=C.s fE.S (p.map (rI .S)):=(List.cons.inj (cR p)).1;have l:(p.drop (p.length / 2)).length=p.length - p.length / 2:=C6 ..;have Q:(p.take (p.length / 2)).length=p.length / 2:=by rw[I3];omega
 have n:∀i:Nat,i<p.length->0<=nth p i/\nth p i<c.length:=λi R=>h _ (ax R)
 have d:((c.length:Nat):Int).tdiv 2=((p.length / 2:Nat):Int):=by rw[<-g];exact B
 refine fO 99 [(5,264,[39,40,41,42,43,44,45,46,0,1,2,3,4,5,6,7,8,1004,1005,1006,1007,9]),(14,19,[69,70,71,72,73,74,75,76,77,78,79,80,81,82,83,84,85,86,87]),(1048581,9,[0])] Tryz.func389 rfl ?_ (.inr y)
 repeat'(first|refine gE ?_|with_reducible refine CS ((O1 _ d).trans (gf ω ω)) ?_|refine CT qs ?_|refine Le.mk rfl D rfl ?_|refine Cc (p.length / 2) d (by rw[I2];omega) (aM λ_=>rfl) C8 ?_|refine Cj (p.length / 2) d (by rw[I2];omega) (aM λ_=>rfl) I8 ?_)
 refine lp0 3 (λt=>[(0,bJ (bY .S c)),(2,fI 3),(10,fI z),(11,bJ (aF .S (p.take (p.length / 2)))),(12,bJ (aF .S (p.drop (p.length / 2)))),(13,bJ (gn .own (o9 c p t))),(14,fN t)]) λt S=>?_
 have Z:=Ds c p t;have ol2:t*(p.length / 2)<=3*8:=Nat.mul_le_mul S ω;by_cases lt:t<3
 ·refine σE ?_
  refine lp0 (p.length / 2) (λj=>[(0,bJ (bY .S c)),(2,fI 3),(10,fI z),(11,bJ (aF .S (p.take (p.length / 2)))),(12,bJ (aF .S (p.drop (p.length / 2)))),(13,bJ (gn .own (tN c p t (o9 c p t) j))),(14,fN t),(53,bJ (aF .S (p.take (p.length / 2)))),(54,fN ((p.length / 2))),(55,fN j)]) λj hj=>?_
  have rl:=wK c p t (o9 c p t) j;by_cases T:j<p.length / 2
  ·have J:(j+t) % (p.length - p.length / 2)<p.length - p.length / 2:=Nat.mod_lt _ ω
   have E:((j:Int)+t).tmod ((p.length - p.length / 2:Nat):Int)=(((j+t) % (p.length - p.length / 2):Nat):Int):=by
    rw[eR ω,Int.natCast_emod];congr 1
   have e:tN c p t (o9 c p t) (j+1)=stp c p t j (tN c p t (o9 c p t) j):=rfl;unfold stp at e;generalize tN c p t (o9 c p t) j=out at *;have o:p.length / 2+(j+t) % (p.length - p.length / 2)<p.length:=ω
   generalize hk:(j+t) % (p.length - p.length / 2)=k at *;have F:(p.take (p.length / 2))[j]? = some (nth p j):=by rw[List.getElem?_take,CL T];exact ar ω
   have G:(p.drop (p.length / 2))[k]? = some (nth p (p.length / 2+k)):=by rw[List.getElem?_drop];exact ar o
   have U:=n j ω;have V:=n _ o;generalize nth p j=a at *;generalize nth p (p.length / 2+k)=b at *;have K:=Aw out a ω;have L:=Aw out b ω;have W:=ar (xs:=c) (i:=a.toNat) ω;have X:=ar (xs:=c) (i:=b.toNat) ω;have M:=pL (nth c a.toNat) (nth c b.toNat);cases u:tkn out a<;>cases w:tkn out b<;>cases N:meshable (nth c a.toNat) (nth c b.toNat)
   all_goals
    unfold tkn at u w;rw[u]at K;rw[w]at L;change (tkn out a)=_ at u;change (tkn out b)=_ at w;rw[N]at M;rw[u,w,N]at e;simp only[and_true,true_and,if_true,Bool.false_eq_true,Bool.true_eq_false,and_false,false_and,if_false]at e
    repeat'(first|refine gE ?_|refine CX (z:=(k:Int)) (by rw[l];exact E) ?_|refine Ln.mk (show List.length (List.map _ (p.drop (p.length / 2)))=p.length - p.length / 2 by rw[I2];exact l) ?_|refine CT ω ?_|refine CQ ω (aa G) ?_|refine CQ U.1 (aa W) ?_|refine CQ V.1 (aa X) ?_|refine CN (K) ⟨⟨rfl,uH _⟩,⟨rfl,rfl⟩,tV1⟩ ?_|refine CN (L) ⟨⟨rfl,uH _⟩,⟨rfl,rfl⟩,tV1⟩ ?_|refine Cf (aM λ_=>rfl) rfl jp qs (f8 (fy.enc .own) out ⟨a,b⟩) ?_)
    (refine CR (j+1) ω ω ?_)
    rw[e];exact wB
  obtain rfl:j=p.length / 2:=ω
  refine σE ?_
  (exact cV (t+1) ω)
 obtain rfl:t=3:=ω
 refine σE ?_
 rfl
def au.fzR{P:Program}{sh:Bool}{A:List RA}{k:Kd}{rcs:List C}(h:au P f sh A k rcs):au P f sh A k (eJ rcs):=by
 obtain⟨c,d⟩:=h;refine⟨c,λw S g i j=>(d w S g i j).mono λe w1 l=>?_⟩;obtain⟨v,n,p,X,S1,q,r,y,t,u⟩:=l;refine⟨v,n,p,NO,λb o=>S1 b o\/X b o,λ_ _ h=>h.elim,λb o a=>?_,λ_ _ h=>h.elim,by rw[cj,I2];exact t,u.freeze⟩;rcases a with a|a
 ·exact r b o a
 exact .inr (q b o a)
structure WD(ls:List aB)(q:fy):Prop where
 a:0<=q.A/\q.A<ls.length
 b:0<=q.B/\q.B<ls.length
 m:meshable (nth ls q.A.toNat) (nth ls q.B.toNat)=true
def PR{b:List aB}{p:List Int}(c:∀x∈p,0<=x/\x<b.length)(t:Nat){out:List fy}(d:∀q∈out,WD b q):∀{i:Nat},i<=p.length / 2->∀q∈tN b p t out i,WD b q
 | 0,_=>d
 | i+1,h=>λq a=>by
  have e:=PR c t d (i:=i) ω;simp only[tN,stp]at a;split at a
  ·rename_i g
   rcases z5.1 a with a|a
   ·exact e q a
   obtain rfl:=z3.1 a;have f:(i+t) % (p.length - p.length / 2)<p.length - p.length / 2:=Nat.mod_lt _ ω;exact⟨c _ (ax ω),c _ (ax ω),g.2.2⟩
  exact e q a
def PS{a:List aB}{p:List Int}(b:∀x∈p,0<=x/\x<a.length):∀t,∀q∈o9 a p t,WD a q
 | 0=>λq c=>by cases c
 | t+1=>PR b t (PS b t) (C5 _)
def ou(a:List aB){s:Int}(b:0<=s/\s<=1073741823):∀q∈kX a s,WD a q:=PS (tn a.length b (C5 _)) 3
def Wt(s:aB)(n:Nat):(wH s n).Pairwise (· < ·):=by
 unfold wH;rw[List.pairwise_map];exact(List.pairwise_lt_range.sublist List.filter_sublist).imp λh=>ω
def Yq : ∀z∈wH s n,0<=z/\z<n:=λz a=>by
 unfold wH at a;simp only[O8,S8,List.mem_range]at a;obtain⟨c,⟨b,-⟩,rfl⟩:=a;omega
def BB(s:aB):dq (wH s 16).length (po (wH s 16))=true:=by
 refine cK.2 λj a=>?_
 have c:=Yq _ (ax a);unfold po;refine O0 ⟨ω,ω,?_⟩;by_cases e:j=0
 ·exact .inl e
 refine .inr ?_;have b:=List.pairwise_iff_getElem.1 (Wt s 16) (j - 1) j ω a ω;rw[show nth (wH s 16) (j - 1)=(wH s 16)[j - 1] from br (z4 ω),show nth (wH s 16) j=(wH s 16)[j] from br (z4 a)];exact b
def tE{a b:aB}(c:meshable a b=true):gc (dK a b)=true/\bk a=true/\bk b=true:=by
 unfold meshable at c;simp only[I0,C0]at c;have d:=aJ c.1.1;have e:=aJ c.1.2;refine⟨?_,c.1⟩;unfold dK gc;split
 ·simp only[I0,C0];exact⟨BB a,ω⟩
 simp only[I0,C0];exact⟨BB b,ω⟩
def Dv(a b:aB):cL.sml (dK a b):=by
 have c:=oA a 16;have d:=oA b 16;unfold dK cL.sml wv;split<;>simp only<;>omega
def bt(h:ac):List aB:=(jz h).take 16
def started(h:ac):ac × Bool:=match kX (bt h) h.c0 with
 | []=>({h with c0:=(shuf (bt h).length h.c0).2},false)
 | q::_=>({h with c0:=(shuf (bt h).length h.c0).2,q:=true,a:=vP (dK (nth (bt h) q.A.toNat) (nth (bt h) q.B.toNat))},true)
def Mg(a:aY h E):h.K.length<=32/\eQ h<=32/\wu h/\∀s∈h.K,s.a9<=9223372036854775807:=by
 have b:=a.lens;refine⟨b.spans,b.ents,?_,λs c=>by have:=eS (a.L.sok s c);omega⟩;have:=(bj a.ker).1.2;exact this
def D4(h:ac):(bt h).length<=16:=by unfold bt;rw[I3];omega
def V6(x:List fy)(z:Int):eJ (gn .own x++[I z])=gn .S x++[I z]:=by
 have h:=uH x;rw[cj]at h |-;rw[OB,h];simp[fz]
def Yr(h:ac):(bt h).map (aB.enc .S)=((jz h).map (aB.enc .S)).take 16:=C8
def M7(p:cL)(b:gc p=true)(c:cL.sml p):zzA 430 false [.val (some 3) (cL.enc .S p)] (.tup [some 5,none]) (BH (vP p)++[B true]):=by
 have h:=(Kn p b c).fzR;have e:eJ (cY.enc .own (vP p)++[B true])=BH (vP p)++[B true]:=by
  have a:=cY.enc_fz (vP p);rw[cj]at a |-;rw[OB,a];simp[fz,cY.enc,BH]
 rwa [e]at h
def Ej(h:ac)(w:aY h []):zzB 279 false [.ptr (bR h)] [.ptr (bR (started h).1)] .one [B (started h).2]:=by
 obtain⟨w1,Q,H,J⟩:=Mg w;have a:=w.nums;unfold cI at a;rw[C0]at a;have e:=(AY h H ω ω J).fzR;rw[f9]at e;have o:=D4 h;have b:=(zc (bt h) h.c0 ⟨a.1,a.2.1⟩ o).fzR;rw[V6]at b;have g:=ou (bt h) ⟨a.1,a.2.1⟩;have K:=sB h h.K.length;have y:(jz h).length<=32:=by unfold jz;omega
 have j:=Yr h;unfold started;cases C:kX (bt h) h.c0 with
 | nil=>
  rw[C]at b;by_cases L:16<(jz h).length
  ·refine fM 62 [] [(8,275,[34,35,36,37,38,39,40,41,42,43,44,45,46,47,48,33,49,50,6,0,1,2,3,4,5,6,7,8,9,10,11,12,13,14,15,16,17,18,19,1017,20])] [(0,0)] Tryz.func279 rfl (λu q=>?_)
   repeat'(first|refine gE ?_|refine CN (e) ⟨⟨rfl,bX h⟩,tV1⟩ ?_|refine Cc 16 rfl (by rw[I2];omega) (aM λ_=>rfl) j ?_)
   exact ka
  have k:bt h=jz h:=by unfold bt;exact CF ω
  rw[k]at b;refine fM 62 [] [(8,275,[34,35,36,37,38,39,40,41,42,43,44,45,46,47,48,33,49,50,6,0,1,2,3,4,5,6,7,8,9,10,11,12,13,14,15,16,17,18,19,1017,20])] [(0,0)] Tryz.func279 rfl (λu q=>?_);rw[k]
  repeat'(first|refine gE ?_|refine CN (e) ⟨⟨rfl,bX h⟩,tV1⟩ ?_)
  exact ka
 | cons q M=>
  rw[C]at b g;obtain⟨E,F,G⟩:=g q (O3 ..);obtain⟨N,O,P⟩:=tE G;have p:=Ek _ _ G O P;have t:=M7 _ N (Dv _ _);have c:=ar (xs:=bt h) (i:=q.A.toNat) ω;have d:=ar (xs:=bt h) (i:=q.B.toNat) ω;have l:(q::M)[0]? = some q:=rfl;by_cases L:16<(jz h).length
  ·refine fM 62 [] [(8,275,[34,35,36,37,38,39,40,41,42,43,44,45,46,47,48,33,49,50,6,0,1,2,3,4,5,6,7,8,9,10,11,12,13,14,15,16,17,18,19,1017,20])] [(0,0)] Tryz.func279 rfl (λu r=>?_)
   repeat'(first|refine gE ?_|with_reducible refine Bf.D (λn=>absurd n (by simp)) (λn=>?_)|refine CN (e) ⟨⟨rfl,bX h⟩,tV1⟩ ?_|refine Cc 16 rfl (by rw[I2];omega) (aM λ_=>rfl) j ?_|refine CQ qs (aa l) ?_|refine CQ E.1 (aa c) ?_|refine CQ F.1 (aa d) ?_|refine CN (t) ⟨⟨rfl,cL.enc_fz _⟩,tV1⟩ ?_)
   exact ka
  have k:bt h=jz h:=by unfold bt;exact CF ω
  rw[k]at b p t c d;refine fM 62 [] [(8,275,[34,35,36,37,38,39,40,41,42,43,44,45,46,47,48,33,49,50,6,0,1,2,3,4,5,6,7,8,9,10,11,12,13,14,15,16,17,18,19,1017,20])] [(0,0)] Tryz.func279 rfl (λu r=>?_);rw[k]
  repeat'(first|refine gE ?_|with_reducible refine Bf.D (λn=>absurd n (by simp)) (λn=>?_)|refine CN (e) ⟨⟨rfl,bX h⟩,tV1⟩ ?_|refine CQ qs (aa l) ?_|refine CQ E.1 (aa c) ?_|refine CQ F.1 (aa d) ?_|refine CN (t) ⟨⟨rfl,cL.enc_fz _⟩,tV1⟩ ?_)
  exact ka
def H7(h:ac):ac × Bool:=if h.q=false/\cw h=true then started h else(h,false)
def G6(h:ac)(g:ac.sml h)(i:¬(h.q=false/\cw h=true)):zzA 249 false [.val (some 24) (ac.enc .S h)] (.tup [some 24,none]) (dO h++[B false]):=by
 have a:=cJ h g;rw[dM]at a;have b:=eD h g;have c:ac.enc .S h=(ac.enc .S h).set 18 (B h.q):=rfl;cases d:h.q
 ·have j:cw h=false:=by
   rcases Bool.eq_false_or_eq_true (cw h) with e|e
   ·exact absurd ⟨d,e⟩ i
   exact e
  rw[j]at a;rw[d]at c;rw[c]at a b |-;refine fO 66 [(10,275,[41,42,43,44,45,46,47,48,49,50,51,52,53,54,55,40,56,57,8,0,1,2,3,4,5,6,7,8,9,10,11,12,13,14,15,16,17,18,19,1017,20])] Tryz.func249 rfl ?_ (.inr (aD (cF _) ⟨tV1,tV1⟩))
  refine σP ?_
  rfl
 rw[d]at c;rw[c]at a b |-;refine fO 66 [(10,275,[41,42,43,44,45,46,47,48,49,50,51,52,53,54,55,40,56,57,8,0,1,2,3,4,5,6,7,8,9,10,11,12,13,14,15,16,17,18,19,1017,20])] Tryz.func249 rfl ?_ (.inr (aD (cF _) ⟨tV1,tV1⟩))
 refine σP ?_
 rfl
def DT(h:ac)(t:ac.sml h)(H:h.q=false)(u:cw h=true):zzA 249 false [.val (some 24) (ac.enc .S h)] (.tup [some 24,none]) (dO (started h).1++[B (started h).2]):=by
 have w:=aY.of u;obtain⟨w1,U,J,K⟩:=Mg w;have a:=w.nums;unfold cI at a;rw[C0]at a;have j:=cJ h t;rw[dM,u]at j;have l:=eD h t;have k:=(DA h J ω ω K).fzR;rw[f9]at k;have n:=D4 h;have c:=(zm (bt h) h.c0 ⟨a.1,a.2.1⟩ n).fzR;rw[V6]at c;have d:=ou (bt h) ⟨a.1,a.2.1⟩;have L:=sB h h.K.length;have y:(jz h).length<=32:=by unfold jz;omega
 have g:(bt h).map (aB.enc .S)=((jz h).map (aB.enc .S)).take (bt h).length:=by
  unfold bt;rw[C8,I3];by_cases e:16<=(jz h).length
  ·rw[Nat.min_eq_left e]
  rw[Nat.min_eq_right ω,CF (by rw[I2];omega),CF (by rw[I2];omega)]
 have b:(bt h).length=if(jz h).length<=16 then(jz h).length else 16:=by unfold bt;rw[I3];split<;>omega
 have C:ac.enc .S h=(ac.enc .S h).set 18 (B h.q):=rfl;rw[H]at C;rw[C]at j l k |-;unfold started;cases E:kX (bt h) h.c0 with
 | nil=>
  rw[E]at c;refine fO 66 [(10,275,[41,42,43,44,45,46,47,48,49,50,51,52,53,54,55,40,56,57,8,0,1,2,3,4,5,6,7,8,9,10,11,12,13,14,15,16,17,18,19,1017,20])] Tryz.func249 rfl ?_ (.inr (aD (cF _) ⟨tV1,tV1⟩))
  repeat'(first|refine gP ?_|refine CX (z:=((bt h).length:Int)) (by rw[b];simp;split<;>split<;>omega) ?_|refine Cc (bt h).length rfl (by rw[I2,b];split<;>omega) (aM λ_=>rfl) g ?_)
  rfl
 | cons q M=>
  rw[E]at c d;obtain⟨N,O,F⟩:=d q (O3 ..);obtain⟨P,Q,R⟩:=tE F;have S:=EO _ _ F Q R;have T:=LW _ P (Dv _ _);have o:=ar (xs:=bt h) (i:=q.A.toNat) ω;have p:=ar (xs:=bt h) (i:=q.B.toNat) ω;have r:(q::M)[0]? = some q:=rfl;refine fO 66 [(10,275,[41,42,43,44,45,46,47,48,49,50,51,52,53,54,55,40,56,57,8,0,1,2,3,4,5,6,7,8,9,10,11,12,13,14,15,16,17,18,19,1017,20])] Tryz.func249 rfl ?_ (.inr (aD (cF _) ⟨tV1,tV1⟩))
  repeat'(first|refine gP ?_|with_reducible refine Bf.D (λG=>absurd G (by simp)) (λG=>?_)|refine CX (z:=((bt h).length:Int)) (by rw[b];simp;split<;>split<;>omega) ?_|refine Cc (bt h).length rfl (by rw[I2,b];split<;>omega) (aM λ_=>rfl) g ?_|refine CQ qs (aa r) ?_|refine CQ N.1 (aa o) ?_|refine CQ O.1 (aa p) ?_|refine CN (T) ⟨⟨rfl,cL.enc_fz _⟩,tV1⟩ ?_)
  rfl
def Dl(h:ac)(a:ac.sml h):zzA 249 false [.val (some 24) (ac.enc .S h)] (.tup [some 24,none]) (dO (H7 h).1++[B (H7 h).2]):=by
 unfold H7;split
 ·rename_i e;exact DT h a e.1 e.2
 rename_i e;exact G6 h a e
theorem N5(xs:List Int)(x:Int)(g:xs.length<=4611686018427387904):zzA 435 false [.val none (aF .S xs),.vI x] .one [I (bU (λy=>decide (y=x)) xs)]:=by
 refine fO 19 [] Tryz.func435 rfl ?_
 refine σP ?_
 refine gK xs.length (λi=>[(0,bJ (aF .S xs)),(1,fI x),(7,fI xs.length),(8,fN i)]) (λi=>∀(j:Nat)(z:Int),j<i->xs[j]? = some z->decide (z=x)=false) ψ λi a=>?_
 obtain⟨a,c⟩:=a;by_cases d:i<xs.length
 ·have b:=ar d
  by_cases e:nth xs i=x
  ·repeat'(first|refine gE ?_|refine Bf.t (by simp[e]) ?_)
   grind [df]
  repeat'(first|refine gE ?_|refine Bf.f (by simp[Ne.symm e]) ?_)
  (exact cV (i+1) ψ)
 refine σE ?_
 exact nO (eY ω c).symm
theorem uj(xs:List Int)(x:Int)(a:xs.length<=4611686018427387904):zzA 287 false [.val none (aF .S xs),.vI x] .one [B (decide (x∈xs))]:=by
 refine fO 9 [] Tryz.func287 rfl ?_
 repeat'(first|refine gP ?_|refine CG (N5 xs x a) ?_)
 grind [iD]
def cN(k:ah):ah:={k with Calls:=k.Calls+1}
def refd(k:ah):Bool:=decide (k.Calls∈k.a3)
def ri(k:ah)(a:ah.sml k)(d:0<=k.Calls/\k.Calls<=100000):zzA 459 false [.val (some 5) (ah.enc .S k)] (.tup [some 5,none]) (ah.enc .own (cN k)++[B (!refd k)]):=by
 have c:=i6 k a;have g:k.a3.length<=1048576:=a.2;have b:=uj k.a3 k.Calls ω;unfold refd;cases e:decide (k.Calls∈k.a3)<;>rw[e]at b
 all_goals
  refine fO 18 [(3,263,[11,12,13,14,15,16,17,0,1,2,3,4,5,6,7,1006,8])] Tryz.func459 rfl ?_ (.inr (aD (Ck _) ⟨tV1,tV1⟩))
  refine σP ?_
  rfl
def mV(k:ah)(p:Int)(m:Int):ah:={k with F:=⟨k.F.V,⟨k.F.O.M.set p.toNat {nth k.F.O.M p.toNat with e:=m}⟩⟩}
def jx(k:ah)(p m:Int):ah × Bool:=if refd k=true then(cN k,false) else(mV (cN k) p m,true)
theorem xE(k:ah)(p m:Int):ah.enc .own (mV k p m)=(ah.enc .own k).set 2 (.s .own ((k.F.O.M.map (bo.enc .own)).set p.toNat (bo.enc .own {nth k.F.O.M p.toNat with e:=m}))):=by grind [SC,ah.enc,mV]
def ux(k:ah)(p m:Int)(b:aI k=true)(n:k.Calls≠100000)(j:(af k.F.O p).e≠0)(a:m=1\/m=2):zzA 559 false [.val (some 5) (ah.enc .S k),.vI p,.vI m] (.tup [some 5,none]) (ah.enc .own (jx k p m).1++[B (jx k p m).2]):=by
 have c:=bj b;have o:=(aH.1 b).2.2.2;have d:=jq k c;rw[b,O0 n]at d;have g:=ri k c ω;have h:=fQ k p c.1.2;rw[O0 j]at h;obtain⟨q,r,t⟩:=bD b j;have l:=ar (xs:=k.F.O.M) (i:=p.toNat) ω;unfold jx;cases e:refd k<;>rw[e]at g
 ·rw[CJ (by simp),xE]
  rcases a with rfl|rfl
  all_goals
   refine fO 46 [] Tryz.func559 rfl ?_ (.inr (aD (by rw[<-xE];exact Ck _) ⟨tV1,tV1⟩))
   repeat'(first|refine gP ?_|refine CQ q (aa l) ?_|refine CU rfl rfl (aa l) rfl (O2 rfl) rfl ?_)
   rfl
 rw[CL rfl];rcases a with rfl|rfl
 all_goals
  refine fO 46 [] Tryz.func559 rfl ?_ (.inr (aD (Ck _) ⟨tV1,tV1⟩))
  refine σP ?_
  rfl
variable{k:ah}
theorem row16(a:aI k=true)(b:f<k.F.V.T.length):(nth k.F.V.T f).length=16:=by grind [bi,aH,jw]
def setCell(k:ah)(f:Nat)(c v:Int):ah:={k with F:=⟨⟨k.F.V.T.set f ((nth k.F.V.T f).set c.toNat v),k.F.V.a6⟩,k.F.O⟩}
theorem yH(k:ah)(f:Nat)(c v:Int):ah.enc .own (setCell k f c v)=(ah.enc .own k).set 0 (.s .own ((k.F.V.T.map (aF .own)).set f [.s .own (((nth k.F.V.T f).map (rI .own)).set c.toNat [I v])])):=by grind [SC,ah.enc,setCell,aF,rI]
def bV(k:ah)(p:Int):Nat:=(af k.F.O p).j.toNat
def r8(k:ah)(a b c:Int):ah:=setCell k (bV k b) c (nth (nth k.F.V.T (bV k a)) c.toNat)
def Pv(k:ah)(a b c:Int):Nat->ah
 | 0=>k
 | _+1=>r8 k a b c
def N3(k:ah)(a b c:Int)(d:aI k=true)(C:k.Calls≠100000)(q:(af k.F.O a).e≠0)(r:(af k.F.O b).e≠0)(e:0<=c/\c<=15):zzA 560 false [.val (some 5) (ah.enc .S k),.vI a,.vI b,.val none (aF .S [c])] (.tup [some 5,none]) (ah.enc .own (r8 k a b c)++[B true]):=by
 have h:=bj d;have t:=jq k h;rw[d,O0 C]at t;have D:=i6 k h;have u:=fQ k a h.1.2;have w:=fQ k b h.1.2;rw[O0 q]at u;rw[O0 r]at w;have E:=cT k.F.O a h.1.2;have F:=cT k.F.O b h.1.2;have y:=Ft c;rw[O0 e]at y;obtain⟨-,-,-,G,K⟩:=bD d q;obtain⟨-,-,-,H,L⟩:=bD d r;have J:=(bi.1 (aH.1 d).2.1).2.2.1;have M:=row16 d (f:=bV k a) (by unfold bV;omega);have N:=row16 d (f:=bV k b) (by unfold bV;omega);have l:k.F.V.T[(af k.F.O a).j.toNat]? = some (nth k.F.V.T (bV k a)):=ar ω;have g:k.F.V.T[(af k.F.O b).j.toNat]? = some (nth k.F.V.T (bV k b)):=ar ω;have o:=ar (xs:=nth k.F.V.T (bV k a)) (i:=c.toNat) ω;have n:=ar (xs:=nth k.F.V.T (bV k b)) (i:=c.toNat) ω;have p:[c][0]? = some c:=rfl;refine fO 77 [(4,268,[33,34,35,36,37,38,39,40,41,42,43,44,0,1,2,3,4,5,6,7,8,9,10,11,12,1011,13]),(10,18,[56,57,58,59,60,61,62,63,64,65,66,67,68,69,70,71,72,73])] Tryz.func560 rfl ?_ (.inr (aD (Ck _) ⟨tV1,tV1⟩))
 refine σP ?_
 refine lp0 1 (λj=>[(4,bB (ah.enc .S k)),(8,bB (ah.enc .own ⟨⟨⟨[],[]⟩,⟨[]⟩⟩,0,[]⟩)),(10,bB (ah.enc .own (Pv k a b c j))),(11,fI ((af k.F.O a).j)),(12,fI ((af k.F.O b).j)),(45,bJ (aF .S [c])),(46,fI 1),(47,fN j)]) λj O=>?_
 by_cases P:j<1
 ·obtain rfl:j=0:=ω
  repeat'(first|refine gE ?_|refine CQ qs (aa p) ?_|refine CQ G (aa l) ?_|refine CQ H (aa g) ?_|refine CQ e.1 (aa o) ?_|refine CQ e.1 (aa n) ?_|refine Pu.two rfl rfl (aa g) rfl rfl rfl (aa n) rfl (C5 _) rfl ?_)
  (refine CR 1 ω ω ?_)
  rw[show Pv k a b c 1=r8 k a b c from rfl];unfold r8;rw[yH];exact wB
 obtain rfl:j=1:=ω
 refine σE ?_
 rfl
def xM(k:ah)(p:Nat)(e:bo):ah:={k with F:=⟨k.F.V,⟨k.F.O.M.set p e⟩⟩}
theorem JG(k:ah)(p:Nat)(e:bo):ah.enc .own (xM k p e)=(ah.enc .own k).set 2 (.s .own ((k.F.O.M.map (bo.enc .own)).set p (bo.enc .own e))):=by grind [SC,ah.enc,xM]
def JM(p:Nat)(e:bo)(h:aO.sml k.F.O):aO.sml (xM k p e).F.O:=by
 refine⟨?_,λx _=>tV1⟩;show(k.F.O.M.set p e).length<=_;rw[C3];exact h.1
def w8(k:ah)(p o:Int):ah × Bool:=if refd k=true then(cN k,false) else(iB (xM (cN k) p.toNat ⟨2,(nth k.F.O.M o.toNat).j⟩) (nth k.F.O.M p.toNat).j,true)
def gN(m:aT)(a v:Int):aT × Int:=
 if(af m.O (a / 16)).e=0 then(m,1) else if(af m.O (a / 16)).e=1 then(m,2) else
 (⟨⟨m.V.T.set (af m.O (a / 16)).j.toNat ((nth m.V.T (af m.O (a / 16)).j.toNat).set (a % 16).toNat v),m.V.a6⟩,m.O⟩,0)
def vo(m:aT)(a:Int)(d:dB m=true)(b:aT.sml m)(e:0<=a/\a<512):zzA 568 false [.val (some 3) (aT.enc .S m),.vI a] .agg (bo.enc .own (af m.O (a / 16))):=by
 have c:=nJ m b;rw[d]at c;have g:=cT m.O (a / 16) b.2;refine fO 18 [] Tryz.func568 rfl ?_ (.inr ⟨tV1,tV1,tV1⟩)
 repeat'(first|refine gE ?_|refine CS (mh e) ?_|refine CT qs ?_)
 rfl
theorem DK(m:aT)(f:Nat)(c v:Int):aT.enc .own ⟨⟨m.V.T.set f ((nth m.V.T f).set c.toNat v),m.V.a6⟩,m.O⟩ = (aT.enc .own m).set 0 (.s .own ((m.V.T.map (aF .own)).set f [.s .own (((nth m.V.T f).map (rI .own)).set c.toNat [I v])])):=by grind [SC,aT.enc,aF,rI]
def A8(m:aT)(a v:Int)(p:dB m=true)(k:aT.sml m)(l:0<=a/\a<512)(q:0<=v/\v<=999)(r:(af m.O (a / 16)).e≠0->0<=(af m.O (a / 16)).j/\(af m.O (a / 16)).j<m.V.T.length/\(nth m.V.T (af m.O (a / 16)).j.toNat).length=16):zzA 505 false [.val (some 3) (aT.enc .S m),.vI a,.vI v] (.tup [some 3,none]) (aT.enc .own (gN m a v).1++[I (gN m a v).2]):=by
 have d:=lR m k;have e:=vo m a p k l;have c:=aK v 0 999;rw[O0 q]at c;have b:=aT.enc_fr (gN m a v).1;unfold gN at b |-;by_cases g:(af m.O (a / 16)).e=0
 ·rw[CL g]at b |-
  refine fO 42 [] Tryz.func505 rfl ?_ (.inr (aD b ⟨tV1,tV1⟩))
  refine σB ?_
  rfl
 rw[CJ g]at b |-;by_cases n:(af m.O (a / 16)).e=1
 ·rw[CL n]at b |-
  refine fO 42 [] Tryz.func505 rfl ?_ (.inr (aD b ⟨tV1,tV1⟩))
  refine σB ?_
  rfl
 rw[CJ n]at b |-;obtain⟨t,u,w⟩:=r g;have h:=ar (xs:=m.V.T) (i:=(af m.O (a / 16)).j.toNat) ω;have o:=ar (xs:=nth m.V.T (af m.O (a / 16)).j.toNat) (i:=(a % 16).toNat) ω;simp only at b |-;rw[DK]at b |-;have j:a.tmod 16=a % 16:=eR l.1;refine fO 42 [] Tryz.func505 rfl ?_ (.inr (aD b ⟨tV1,tV1⟩))
 repeat'(first|refine gB ?_|refine CX j ?_|refine CT qs ?_|refine CQ t (aa h) ?_|refine CQ ω (aa o) ?_|refine Pu.two rfl rfl (aa h) rfl rfl rfl (aa o) rfl (C5 _) rfl ?_)
 rfl
def JN(k:ah)(p o:Int)(a:aI k=true)(w:k.Calls≠100000)(l:(af k.F.O p).e≠0)(n:(af k.F.O o).e≠0)(y:p≠o):zzA 561 false [.val (some 5) (ah.enc .S k),.vI p,.vI o] (.tup [some 5,none]) (ah.enc .own (w8 k p o).1++[B (w8 k p o).2]):=by
 have b:=bj a;have C:=(aH.1 a).2.2.2;have c:=jq k b;rw[a,O0 w]at c;have d:=ri k b ⟨ω,ω⟩;have g:=fQ k p b.1.2;have h:=fQ k o b.1.2;rw[O0 l]at g;rw[O0 n]at h;obtain⟨D,H,E,q,r⟩:=bD a l;obtain⟨F,J,K,L,M⟩:=bD a n;have G:=(bi.1 (aH.1 a).2.1).2.2.1;have j:=ar (xs:=k.F.O.M) (i:=p.toNat) ω;have t:=ar (xs:=k.F.O.M) (i:=o.toNat) ω;rw[E]at q r;have u:=vz (xM (cN k) p.toNat ⟨2,(nth k.F.O.M o.toNat).j⟩) (nth k.F.O.M p.toNat).j (JM _ _ b.1.2) ⟨q,by show _<((k.F.V.T.length:Nat):Int);omega,r⟩;rw[JG]at u;unfold w8;cases e:refd k<;>rw[e]at d
 ·rw[CJ (by simp)]
  refine fP 63 [(198,[2,0]),(1000010,[])] [] Tryz.func561 rfl ?_ (.inr (aD (Ck _) ⟨tV1,tV1⟩))
  repeat'(first|refine gB ?_|refine CQ D (aa j) ?_|refine CQ F (aa t) ?_|refine CU rfl rfl (aa j) rfl (O2 rfl) rfl ?_)
  rfl
 rw[CL rfl];refine fP 63 [(198,[2,0]),(1000010,[])] [] Tryz.func561 rfl ?_ (.inr (aD (Ck _) ⟨tV1,tV1⟩))
 refine σP ?_
 rfl
def jmay(k:ah)(j:cY):Bool:=(aI k&&decide (k.Calls≠100000))&&(lB j&&decide ((af k.F.O j.X.a4).e≠0/\(af k.F.O j.X.a5).e≠0/\(af k.F.O j.X.a4).j≠(af k.F.O j.X.a5).j))
def jstep(k:ah)(j:cY):ah × cY:=
 if j.b0=0 then((jx k j.X.a5 1).1,{j with b0:=if(jx k j.X.a5 1).2=true then 1 else 5})
 else if j.b0=1 then(if j.b=j.X.T.length then(k,{j with b0:=2}) else(r8 k j.X.a5 j.X.a4 (nth j.X.T j.b.toNat),{j with b:=j.b+1}))
 else if j.b0=2 then((w8 k j.X.a5 j.X.a4).1,{j with b0:=if(w8 k j.X.a5 j.X.a4).2=true then 4 else 3})
 else if j.b0=3 then(if 0<j.b then({k with F:=(gN k.F (j.X.a4*16+nth j.X.T (j.b - 1).toNat) 0).1},{j with b:=j.b - 1}) else((jx k j.X.a5 2).1,{j with b0:=if(jx k j.X.a5 2).2=true then 5 else 3}))
 else(k,j)
theorem V7{f:Int}(h1:∀j,j<k.a3.length->0<=nth k.a3 j)(h2:dE k.F.V=true)(c:iH k.F.O k.F.V.a6.length=true)(g:∀j:Nat,j<k.F.V.a6.length->(j:Int)≠f->nth k.F.V.a6 j=decide (0<(pagesOn k.F.O (j:Int)).length))(p:0<=f/\f<k.F.V.a6.length)(h:nth k.F.V.a6 f.toNat=true)(d:0<=k.Calls/\k.Calls<=100000/\k.a3.length<=40):aI (iB k f)=true:=by
 obtain⟨i,l,n,q⟩:=bi.1 h2;unfold iB;split
 ·rename_i o
  rw[aH];simp only[C3];refine⟨h1,?_,c,λj b=>?_,d⟩
  ·rw[bi]
   simp only[C3,bW];refine⟨i,l,n,λj b=>?_⟩;by_cases a:f.toNat=j
   ·rw[CL ⟨a,b⟩,CL ⟨a,ω⟩];decide
   grind
  rw[bW];by_cases a:f.toNat=j
  ·grind
  rw[CJ (λe=>a e.1)];exact g j b ω
 rename_i o;rw[aH];refine⟨h1,h2,c,λj b=>?_,d⟩;by_cases a:(j:Int)=f
 ·rw[a,show j=f.toNat by omega,h]
  grind
 grind
def tEq(t a:aO):Prop:=a.M.length=t.M.length/\∀q:Nat,((nth a.M q).e≠0↔(nth t.M q).e≠0)/\(nth a.M q).j=(nth t.M q).j
theorem tEq.refl(t:aO):tEq t t:=⟨rfl,λ_=>⟨Iff.rfl,rfl⟩⟩
variable{t:aO}
theorem tEq.of{a:aO}(h:a=t):tEq t a:=by grind [tEq.refl]
theorem tEq.pagesOn{a:aO}(h:tEq t a)(f:Int):Ab.pagesOn a f=Ab.pagesOn t f:=by
 unfold Ab.pagesOn m0;rw[h.1]
 congr 1
 refine List.filter_congr λq _=>?_
 obtain⟨b,c⟩:=h.2 q;unfold Tg;rw[c];exact decide_eq_decide.2 (and_congr b Iff.rfl)
theorem Jl(h:aI k=true){a:aO}(c:tEq k.F.O a)(d:∀q,q<a.M.length->0<=(nth a.M q).e/\(nth a.M q).e<=2):aI {k with F:=⟨k.F.V,a⟩} = true:=by
 obtain⟨e,f,g,r,i⟩:=aH.1 h;obtain⟨l,n,o⟩:=bu.1 g;rw[aH];refine⟨e,f,bu.2 ⟨λj b=>?_,?_,?_⟩,λj b=>?_,i⟩
 ·replace b:j<a.M.length:=b
  have t:=l j (by rw[<-c.1];exact b);have p:=d j b;obtain⟨u,w⟩:=c.2 j
  grind [nK]
 ·show 1<=a.M.length;rw[c.1];exact n
 ·show a.M.length<=32;rw[c.1];exact o
 grind [tEq.pagesOn]
def qi(h:aI k=true)(f:k.Calls≠100000):aI (cN k)=true:=by
 obtain⟨a,b,c,d,g,i,e⟩:=aH.1 h;rw[aH];exact⟨a,b,c,d,by show 0<=k.Calls+1;omega,by show k.Calls+1<=100000;omega,e⟩
variable{p m:Int}
theorem FW(b:(nth k.F.O.M p.toNat).e≠0)(a:m=1\/m=2):tEq k.F.O (mV k p m).F.O:=by
 refine⟨by simp[mV],λq=>?_⟩
 grind [bW,mV]
theorem UM(h:aI k=true)(d:(nth k.F.O.M p.toNat).e≠0)(a:m=1\/m=2):aI (mV k p m)=true:=by
 refine Jl h (FW d a) λq g=>?_
 obtain⟨i,j,e,l,n⟩:=aH.1 h;obtain⟨f,o,r⟩:=bu.1 e;have b:q<k.F.O.M.length:=ψ
 have c:=f q b;unfold nK at c;rw[C0]at c;simp only[bW]
 grind
def LH(h:aI k=true)(c:k.Calls≠100000)(b:(af k.F.O p).e≠0)(a:m=1\/m=2):aI (jx k p m).1=true/\tEq k.F.O (jx k p m).1.F.O:=by
 obtain⟨e,f,d,-⟩:=bD h b;rw[d]at b;unfold jx;split
 ·exact⟨qi h c,tEq.refl _⟩
 exact⟨UM (qi h c) b a,FW (k:=cN k) b a⟩
theorem jb(h:aI k=true)(a:(af k.F.O p).e≠0):bV k p<k.F.V.T.length/\nth k.F.V.a6 (bV k p)=true/\((bV k p:Nat):Int)=(nth k.F.O.M p.toNat).j:=by
 obtain⟨c,d,e,f,g⟩:=bD h a;obtain⟨i,b,j,l,n⟩:=aH.1 h;obtain⟨o,q,r,t⟩:=bi.1 b;have u:((bV k p:Nat):Int)=(af k.F.O p).j:=by unfold bV;omega
 grind [fL]
theorem TJ(h:aI k=true){r':List Int}(i:r'.length=16)(l:∀v∈r',0<=v/\v<=999)(n:nth k.F.V.a6 f=true):aI {k with F:=⟨⟨k.F.V.T.set f r',k.F.V.a6⟩,k.F.O⟩} = true:=by
 obtain⟨a,b,c,d,e⟩:=aH.1 h;obtain⟨o,p,q,r⟩:=bi.1 b;refine aH.2 ⟨a,bi.2 ⟨?_,?_,?_,λj g=>?_⟩,c,d,e⟩
 ·grind
 ·grind
 ·grind
 simp only[C3]at g |-;simp only[bW]
 grind [jw,kw]
theorem xl(h:aI k=true)(a:f<k.F.V.T.length):(nth k.F.V.T f).length=16/\∀v∈nth k.F.V.T f,0<=v/\v<=999:=by grind [aH,bi,jw,kw]
theorem u6(h:aI k=true)(a:f<k.F.V.T.length)(b:nth k.F.V.a6 f=true){c v:Int}(d:0<=v/\v<=999):aI (setCell k f c v)=true:=by
 obtain⟨e,g⟩:=xl h a;refine TJ h ψ (λz i=>?_) b
 grind
def Up(h:aI k=true){c:Int}(d:(af k.F.O a).e≠0)(e:(af k.F.O b).e≠0)(l:0<=c/\c<=15):aI (r8 k a b c)=true:=by
 obtain⟨f,n,-⟩:=jb h d;obtain⟨g,i,-⟩:=jb h e;obtain⟨o,j⟩:=xl h f;exact u6 h g i (j _ (ax ω))
variable{o:Int}
theorem Tx(h:aI k=true)(i:k.Calls≠100000)(c:(af k.F.O p).e≠0)(d:(af k.F.O o).e≠0)(l:p≠o):aI (w8 k p o).1=true:=by
 unfold w8;split
 ·exact qi h i
 obtain⟨H,n,r⟩:=jb h c;obtain⟨J,K,L⟩:=jb h d;obtain⟨M,N,t,e,f⟩:=bD h c;obtain⟨O,P,u,w,y⟩:=bD h d;obtain⟨A,B,C,D,Q,R,E⟩:=aH.1 h;obtain⟨S,T,U⟩:=bu.1 C;rw[u]at w y d;rw[t]at e f c;have a:∀q,nth (k.F.O.M.set p.toNat ⟨2,(nth k.F.O.M o.toNat).j⟩) q=if p.toNat=q then⟨2,(nth k.F.O.M o.toNat).j⟩ else nth k.F.O.M q:=λq=>by
  rw[bW];by_cases g:p.toNat=q
  ·rw[CL ⟨g,ω⟩,CL g]
  grind
 refine V7 A B (bu.2 ⟨λj b=>?_,?_,?_⟩) (λj b F=>?_) ⟨e,f⟩ (by rw[<-r];exact n) ⟨by show 0<=k.Calls+1;omega,by show k.Calls+1<=100000;omega,E⟩
 ·simp only[xM,cN,C3]at b |-
  rw[a]
  grind [nK]
 ·grind [xM,cN]
 ·grind [xM,cN]
 replace b:j<k.F.V.a6.length:=b;show nth k.F.V.a6 j=_;rw[D j b];refine decide_eq_decide.2 ?_;rw[fL,fL];simp only[xM,cN,C3,a];constructor
 ·rintro⟨q,G,V,W⟩
  refine⟨q,G,?_⟩
  grind
 grind
theorem Po(h:aI k=true)(a:(af k.F.O p).e≠0)(b:(w8 k p o).2=true)(q:Nat):(w8 k p o).1.F.O.M.length=k.F.O.M.length/\nth (w8 k p o).1.F.O.M q=if(q:Int)=p then⟨2,(nth k.F.O.M o.toNat).j⟩ else nth k.F.O.M q:=by
 obtain⟨c,d,-⟩:=bD h a
 grind [qj,bW,w8,xM,cN]
theorem Us(a:(w8 k p o).2=false):(w8 k p o).1=cN k:=by grind [w8]
def RK{v:Int}(h:aI k=true)(g:0<=a)(b:0<=v/\v<=999):aI {k with F:=(gN k.F a v).1} = true/\(gN k.F a v).1.O=k.F.O:=by
 unfold gN;split
 ·exact⟨h,rfl⟩
 rename_i d;split
 ·exact⟨h,rfl⟩
 obtain⟨e,f,-⟩:=jb h d;exact⟨u6 h e f (c:=a % 16) b,rfl⟩
def pX(t:aO)(p:Int):Prop:=∀q:Nat,(nth t.M q).e≠0->(nth t.M q).j=(nth t.M p.toNat).j->(q:Int)=p
structure JI(h:ac):Prop where
 ph:h.q=true->0<=h.a.b0/\h.a.b0<=3
 sp:h.q=true->∃a∈h.K,∃b∈h.K,a.Q=h.a.X.a4/\b.Q=h.a.X.a5/\meshable a b=true
 sk:h.q=true->pX (tbl h) h.a.X.a4
 sm:h.q=true->pX (tbl h) h.a.X.a5
theorem pX.tEq{t a:aO}{p:Int}(h:pX t p)(b:tEq t a):pX a p:=λq c d=>by
 obtain⟨e,f⟩:=b.2 q;exact h q (e.1 c) (by rw[<-f,<-(b.2 p.toNat).2];exact d)
theorem Pg.tEq{t b:aO}{c:List aG}{sp:List aB}{la:List aC}(h:Pg t c sp la)(a:tEq t b):Pg b c sp la where
 one l hl p hp q hq h1 h2:=h.one l hl p hp q (by rw[<-a.1];exact hq) ((a.2 q).1.1 h1) (by rw[<-(a.2 q).2,<-(a.2 p).2];exact h2)
 bnd p hp:=by rw[a.1];exact h.bnd p hp
 own p hp:=(a.2 p).1.trans (h.own p (by rw[<-a.1];exact hp))
 fre p hp:=(a.2 p).1.trans (h.fre p (by rw[<-a.1];exact hp))
 mesh s hs u hu hne hf:=h.mesh s hs u hu hne (by rw[<-(a.2 _).2,<-(a.2 u.Q.toNat).2];exact hf)
def aY.step(a:aY h E)(b:aI k=true)(c:k.F.O.M.length=(tbl h).M.length)(d:Pg k.F.O h.o h.K h.H){j:cY}{m:Bool}(h1:m=true->lB j=true/\(∃s∈h.K,s.Q=j.X.a4)/\∃s∈h.K,s.Q=j.X.a5)(h2:m=false->w6 j=true):aY {h with G:=k,q:=m,a:=j} E:=
 {a with
   ker:=b
   rng:=by show bN ((k.F.O.M.length:Nat):Int) h.o=true;rw[c];exact a.rng
   pg:=d
   job:=h1
   noj:=h2}
variable{la:List aC}{sp:List aB}
theorem nu.apart(a:nu sp la)(b:s∈sp){l:aC}(c:l∈la)(d:p∈lpgs l l.a1.toNat):s.Q≠p:=by grind [nu.dis,lpgs]
theorem Pg.on{w:aO}{F:List aG}(g:Pg t F sp la)(k:nu sp la){a b:aB}(G:a∈sp)(N:b∈sp)(hm:meshable a b=true)(o:pX t a.Q)(C:(nth t.M a.Q.toNat).e≠0)(O:(nth t.M b.Q.toNat).e≠0)(P:0<=b.Q)(Q:w.M.length=t.M.length)(A:∀q:Nat,nth w.M q=if(q:Int)=b.Q then⟨2,(nth t.M a.Q.toNat).j⟩ else nth t.M q):Pg w F sp la:=by
 have c:∀q:Nat,(nth w.M q).e≠0↔(nth t.M q).e≠0:=ψ
 have R:0<=a.Q:=by have:=k.sok a G;grind [bk]
 refine⟨λl r p n q hq S D=>?_,λp n=>by rw[Q];exact g.bnd p n,λp n=>(c p).trans (g.own p ω),λp n=>(c p).trans (g.fre p ω),λs H u J T h=>?_⟩
 ·have E:¬(p:Int)=b.Q:=λe=>k.apart N r n e.symm
  rw[A p,CJ E,A q]at D;rw[c]at S;by_cases e:(q:Int)=b.Q
  ·rw[CL e]at D
   have K:=g.one l r p n a.Q.toNat (by have:=g.bnd _ (fw (la:=la) G);omega) C D
   grind [nu.apart]
  grind [Pg.one]
 have U:0<=s.Q:=by have:=k.sok s H;grind [bk]
 have V:0<=u.Q:=by have:=k.sok u J;grind [bk]
 have L:∀x∈sp,∀y∈sp,x.Q=y.Q->x=y:=λx B y W e=>by
  obtain⟨i,X,rfl⟩:=aW B;obtain⟨j,Y,rfl⟩:=aW W;rw[du (f:=(·.Q)) k.nd X Y e]
 have d:∀x∈sp,(nth t.M x.Q.toNat).e≠0:=λx B=>by
  have Z:0<=x.Q:=by have:=k.sok x B;grind [bk]
  refine(g.own x.Q.toNat (by have:=g.bnd _ (fw (la:=la) B);omega)).2 ?_
  grind [fw]
 rw[A,A]at h;simp only[show((s.Q.toNat:Nat):Int)=s.Q by omega,show((u.Q.toNat:Nat):Int)=u.Q by omega]at h;by_cases M:s.Q=b.Q
 ·rw[CL M,CJ ω]at h
  have K:=o u.Q.toNat (d u J) h.symm
  grind [kx]
 rw[CJ M]at h;by_cases eu:u.Q=b.Q
 ·rw[CL eu]at h
  have K:=o s.Q.toNat (d s H) h
  grind
 grind [Pg.mesh]
def over(j:cY):Bool:=decide (j.b0=4\/j.b0=5)
def gC(k:ah)(j:cY):ah × cY:=if jmay k j=true then jstep k j else(k,j)
def mStep(h:ac):ac:={h with G:=(gC h.G h.a).1,q:=if over (gC h.G h.a).2=true then false else h.q,a:=if over (gC h.G h.a).2=true then⟨⟨0,0,[]⟩,0,0⟩ else(gC h.G h.a).2}
def Kl(h:ac):Bool:=decide ((gC h.G h.a).2.b0=4)
theorem dX{j:cY} : lB j=true↔gc j.X=true/\0<=j.b0/\j.b0<=5/\0<=j.b/\j.b<=j.X.T.length:=by grind [lB]
theorem gx{p:cL}(h:gc p=true)(a:i<p.T.length):0<=nth p.T i/\nth p.T i<=15:=by grind [fS,gc,po]
structure JS(h:ac)(k:ah)(j:cY):Prop where
 ker:aI k=true
 len:k.F.O.M.length=(tbl h).M.length
 pg:j.b0≠4\/JI h->Pg k.F.O h.o h.K h.H
 ph:0<=j.b0/\j.b0<=5
 plan:j.X=h.a.X
 nxt:0<=j.b/\j.b<=j.X.T.length
 eq:j.b0≠4->tEq (tbl h) k.F.O
 calls:h.G.Calls<=k.Calls/\k.Calls<=h.G.Calls+1/\k.a3=h.G.a3
def BK(k:ah)(p m:Int):(jx k p m).1.Calls=k.Calls+1/\(jx k p m).1.a3=k.a3:=by
 unfold jx;split<;>exact⟨rfl,rfl⟩
def UC(k:ah)(p o:Int):(w8 k p o).1.Calls=k.Calls+1/\(w8 k p o).1.a3=k.a3:=by
 unfold w8;split
 ·exact⟨rfl,rfl⟩
 obtain⟨-,a,b,-⟩:=qj (xM (cN k) p.toNat ⟨2,(nth k.F.O.M o.toNat).j⟩) (nth k.F.O.M p.toNat).j;simp only[a,b];exact⟨rfl,rfl⟩
theorem JS.of(c:aY h E)(H:h.q=true):JS h (gC h.G h.a).1 (gC h.G h.a).2:=by
 obtain⟨N,-,-⟩:=c.job H;obtain⟨J,t,u,n,o⟩:=dX.1 N;unfold gC;split
 case isFalse=>exact⟨c.ker,rfl,λ_=>c.pg,⟨t,u⟩,rfl,⟨n,o⟩,λ_=>tEq.refl _,O9 _,ψ,rfl⟩
 rename_i d;unfold jmay at d;simp only[I0,C0]at d;obtain⟨⟨-,A⟩,-,w,p,O⟩:=d;have fin:∀(k:ah)(j:cY),aI k=true->tEq (tbl h) k.F.O->0<=j.b0/\j.b0<=5->j.X=h.a.X->0<=j.b/\j.b<=j.X.T.length->h.G.Calls<=k.Calls/\k.Calls<=h.G.Calls+1/\k.a3=h.G.a3->JS h k j:=
  λk j P B Q R S T=>⟨P,B.1,λ_=>c.pg.tEq B,Q,R,S,λ_=>B,T⟩
 have K:=(aH.1 c.ker).2.2.2.2;unfold jstep;split
 ·obtain⟨g,r⟩:=LH c.ker A p (m:=1) (.inl rfl)
  obtain⟨y,C⟩:=BK h.G h.a.X.a5 1;refine fin _ _ g r ?_ rfl ⟨n,o⟩ ψ
  grind
 split
 ·split
  ·exact fin _ _ c.ker (tEq.refl _) ψ rfl ⟨n,o⟩ ψ
  have l:=gx J (i:=h.a.b.toNat) ω;refine fin _ _ (Up c.ker p w l) (tEq.refl _) ⟨t,u⟩ rfl ψ ⟨O9 _,by show h.G.Calls<=h.G.Calls+1;omega,rfl⟩
 split
 ·have D:h.a.X.a5≠h.a.X.a4:=ψ
  have g:=Tx c.ker A p w D;obtain⟨y,C⟩:=UC h.G h.a.X.a5 h.a.X.a4;cases e:(w8 h.G h.a.X.a5 h.a.X.a4).2 with
  | false=>
   rw[CJ (by simp)];refine fin _ _ g (tEq.of ?_) ψ rfl ⟨n,o⟩ ψ;rw[Us e];rfl
  | true=>
   rw[CL rfl];obtain⟨U,m2,m3,-⟩:=bD c.ker p;obtain⟨n1,n2,n3,-⟩:=bD c.ker w;have f:=Po c.ker p e;refine⟨g,(f 0).1,λV=>?_,ψ,rfl,⟨n,o⟩,ψ,by rw[y];omega,by rw[y];omega,C⟩;have W:JI h:=ψ
   obtain⟨a,X,b,Y,M,F,G⟩:=W.sp H;refine c.pg.on c.L X Y G (by grind [JI.sk]) (by rw[M];show(nth h.G.F.O.M _).e≠0;grind) (by rw[F];show(nth h.G.F.O.M _).e≠0;grind) (by rw[F];exact U) (f 0).1 λq=>?_
   rw[(f q).2,F,M];rfl
 split
 ·split
  ·rename_i Z
   have l:=gx J (i:=(h.a.b - 1).toNat) ω;have hk0:=(bD c.ker w).1;obtain⟨g,r⟩:=RK c.ker (a:=h.a.X.a4*16+nth h.a.X.T (h.a.b - 1).toNat) (v:=0) ω ω;exact fin _ _ g (tEq.of r) ⟨t,u⟩ rfl ψ ⟨O9 _,ψ,rfl⟩
  obtain⟨g,r⟩:=LH c.ker A p (m:=2) (.inr rfl);obtain⟨y,C⟩:=BK h.G h.a.X.a5 2;refine fin _ _ g r ?_ rfl ⟨n,o⟩ ψ
  grind
 exact fin _ _ c.ker (tEq.refl _) ⟨t,u⟩ rfl ⟨n,o⟩ ψ
theorem aY.mStep{h:ac}{E:List Int}(a:aY h E)(b:JI h)(c:h.q=true):aY (mStep h) E/\JI (mStep h):=by
 have s:=JS.of a c;unfold Ab.mStep;generalize (gC h.G h.a).1=k at s |-;generalize (gC h.G h.a).2=j at s |-;cases e:over j with
 | true=>
  refine⟨a.step s.ker s.len (s.pg (.inr b)) ψ (λ_=>by simp[w6]),?_⟩;exact⟨ψ,λh=>by simp at h,ψ,ψ⟩
 | false=>
  simp only[Bool.false_eq_true,if_false];unfold over at e;simp only[z9,not_or]at e;have f:=s.eq e.1;have d:=s.ph;refine⟨a.step s.ker s.len (s.pg (.inr b)) (λ_=>⟨dX.2 ⟨by rw[s.plan];grind [dX,aY.job],s.ph.1,s.ph.2,s.nxt⟩,by rw[s.plan];exact(a.job c).2⟩) ψ,?_⟩;refine⟨ψ,λ_=>?_,λ_=>?_,λ_=>?_⟩
  ·grind [JS.plan,JI.sp]
  ·show pX k.F.O j.X.a4
   grind [JS.plan,pX.tEq,JI.sk]
  show pX k.F.O j.X.a5
  grind [JS.plan,pX.tEq,JI.sm]
def gt(k:ah)(a:Int):Int:=nth (nth k.F.V.T (af k.F.O (a / 16)).j.toNat) (a % 16).toNat
def cellsOf(k:ah)(a:Int)(n:Nat):List Int:=(List.range n).map λ(i:Nat)=>gt k (a+i)
theorem iW(k:ah)(a:Int)(n:Nat):(cellsOf k a n).length=n:=by simp[cellsOf]
def HM(k:ah)(a:Int)(n:Nat):cellsOf k a (n+1)=cellsOf k a n++[gt k (a+n)]:=by
 unfold cellsOf;rw[List.range_succ,OB];rfl
def AN(b:aI k=true)(p:Int):0<=(af k.F.O p).j/\(af k.F.O p).j<k.F.V.T.length:=by
 obtain⟨-,c,d,-⟩:=aH.1 b;obtain⟨e,f,g,h⟩:=bi.1 c;unfold af;split
 ·rename_i i
  have:=(bu.1 d).1 p.toNat ω;unfold nK at this;rw[C0]at this;by_cases a:(nth k.F.O.M p.toNat).e=0
  ·have:=this.2.2.1 a;omega
  have:=this.2.2.2 a;omega
 simp only;omega
def MX(a:aI k=true)(b:j<k.F.V.T.length):(nth k.F.V.T j).length=16/\∀i,i<16->0<=nth (nth k.F.V.T j) i/\nth (nth k.F.V.T j) i<=999:=by
 obtain⟨-,c,-⟩:=aH.1 a;obtain⟨e,f,g,d⟩:=bi.1 c;have:=d j b;unfold jw at this;rw[I0,C0,O7]at this;refine⟨this.1,λi l=>?_⟩;have h:=this.2 _ (ax (xs:=nth k.F.V.T j) (i:=i) ω);unfold kw at h;rw[I0,C0]at h;exact h.1
def HU(h:ac)(a n:Int)(b:aI h.G=true)(q:0<=a/\a<=1000000)(r:n<=1000000) :
  zzA 90 false [.val (some 24) (ac.enc .S h),.vI a,.vI n] .one (aF .own (cellsOf h.G a n.toNat)):=by
 have c:=bj b;refine fO 44 [] Tryz.func90 rfl ?_ (.inr (bC _))
 refine σP ?_
 refine lp0 n.toNat (λi=>[(1,fI a),(2,fI n),(3,bB (ac.enc .S h)),(7,bJ (aF .own (cellsOf h.G a i))),(8,fN i)]) λi t=>?_
 have d:=iW h.G a i;by_cases u:i<n.toNat
 ·obtain⟨e,w⟩:=AN b ((a+i) / 16)
  have g:=ar (xs:=h.G.F.V.T) (i:=(af h.G.F.O ((a+i) / 16)).j.toNat) ω;have k:=(MX b (j:=(af h.G.F.O ((a+i) / 16)).j.toNat) ω).1;have l:=ar (xs:=nth h.G.F.V.T (af h.G.F.O ((a+i) / 16)).j.toNat) (i:=((a+i) % 16).toNat) ω;have o:IntKind.i64.wrap ((a+(i:Int)).tdiv 16)=(a+i) / 16:=by rw[om ω];exact gf ω ω
  have p:(a+(i:Int)).tmod 16=(a+i) % 16:=eR ω
  repeat'(first|refine gE ?_|refine CT qs ?_|refine CS o ?_|refine CX p ?_|refine CG (cT h.G.F.O _ c.1.2) ?_|refine CQ e (aa g) ?_|refine CQ ω (aa l) ?_|refine Ci cA rfl jp qs rfl ?_)
  refine CR (i+1) ω ω ?_;rw[HM]
  (repeat'(first|exact tV1|rfl|exact CV rfl (CV (O1 (C.s fE.own) (by simp[rI,gt])) tV1)|refine CV ?_ ?_))
 refine σE ?_
 obtain rfl:i=n.toNat:=ω
 rfl
theorem vC(h:(denotes sp la a).b2=1):∃i:Nat,i<sp.length/\(denotes sp la a).c3=i/\dP (nth sp i) a=true/\denotes sp la a=qv i (nth sp i) a:=by
 unfold denotes at h |-;cases e:sp.findIdx? (dP · a) with
 | some i=>
  obtain⟨b,c,-⟩:=SE.1 e;refine⟨i,b,rfl,?_,rfl⟩;rw[br (z4 b)];exact c
 | none=>
  grind
theorem Kt(h:(denotes sp la a).b2=3):∃i:Nat,i<la.length/\(denotes sp la a).c3=i/\b9 (nth la i) a=true/\denotes sp la a = ⟨3,i,0,a - 16*(nth la i).Q⟩:=by
 unfold denotes at h |-;cases e:sp.findIdx? (dP · a) with
 | some i=>
  grind [qv]
 | none=>
  rw[e]at h;simp only at h |-;cases c:la.findIdx? (b9 · a) with
  | some i=>
   obtain⟨b,d,-⟩:=SE.1 c;refine⟨i,b,rfl,?_,rfl⟩;rw[br (z4 b)];exact d
  | none=>grind
theorem iv{n:Int}(h:0<=aN n):1<=n/\n<=8:=by grind [aN]
theorem Xl{o:bg}(a:kK h o=true):0<=o.Addr/\o.Addr<=2000/\1<=o.k/\o.k<=1000:=by
 unfold kK at a;simp only[I0,CD,C0]at a;obtain⟨-,⟨c,d⟩|⟨c,d⟩⟩:=a
 ·obtain⟨i,f,b,e,-⟩:=vC c
  rw[b,t5]at d;unfold dP bk at e;simp only[I0,C0]at e;have:=iv (n:=o.k) ω;omega
 grind [Kt,b9,bI]
theorem Do(a:cw h=true):cI h=true/\gV h=true:=by grind [cw]
theorem Wc(a:cw h=true):1<=h.b/\h.b<=1000000:=by
 have:=(Do a).1
 grind [cI]
theorem zB(c:cw h=true)(f:i<h.J.length):1<=(nth h.J i).Id/\(nth h.J i).Id<h.b/\0<=(nth h.J i).Addr/\(nth h.J i).Addr<=2000/\1<=(nth h.J i).k/\(nth h.J i).k<=1000/\∀j,j<i->(nth h.J j).Id≠(nth h.J i).Id:=by
 obtain⟨-,g⟩:=Do c;obtain⟨n,o⟩:=Wc c;have a:=fS g f;rw[gf ω ω]at a;unfold objAt jl at a;simp only[I0,C0,Bool.not_eq_true']at a;obtain⟨⟨k,d⟩,l⟩:=a;have b:=Xl l;refine⟨k.2.1,ω,b.1,b.2.1,b.2.2.1,b.2.2.2,λj p e=>?_⟩;rw[List.any_eq_false]at d;refine d (nth h.J j) ?_ (by grind [cM]);have:(h.J.take i)[j]? = some (nth h.J j):=by grind [ar]
 grind
def Yi(a:cw h=true)(c:i<h.J.length)(d:j<h.J.length)(f:i≠j):(nth h.J i).Id≠(nth h.J j).Id:=by
 rcases Nat.lt_or_ge i j with b|b
 ·exact(zB a d).2.2.2.2.2.2 i b
 exact λe=>(zB a c).2.2.2.2.2.2 j ω e.symm
def NA(cs:List Int):Nat->Int
 | 0=>0
 | n+1=>(NA cs n+(n+1)*nth cs n) % 9973
theorem Zg(cs:List Int):∀n,0<=NA cs n/\NA cs n<=9972
 | 0=>by simp[NA]
 | n+1=>by grind [NA]
def NN(k:ah)(o:bg):Qv:=⟨o.Id,o.k,NA (cellsOf k o.Addr o.k.toNat) o.k.toNat⟩
def sY(h:ac):Nat->List Qv
 | 0=>[]
 | n+1=>sY h n++(h.J.filter (cM n)).map (NN h.G)
theorem wM(n:Nat):∀(l:List bg),(l.filter λo:bg=>decide (o.Id<((n+1:Nat):Int))).length=(l.filter λo:bg=>decide (o.Id<(n:Int))).length+(l.filter (cM n)).length
 | []=>rfl
 | o::l=>by
  have a:=wM n l
  grind [cM]
theorem yV{h:ac}(a:∀o∈h.J,0<=o.Id):∀n:Nat,(sY h n).length=(h.J.filter λo:bg=>decide (o.Id<(n:Int))).length
 | 0=>by
  rw[List.filter_eq_nil_iff.2 ψ];rfl
 | n+1=>by
  rw[sY,O5,I2,yV a n,wM]
def z8(h:ac):List Qv:=if cw h then sY h h.b.toNat else []
def fC{α:Type}[Inhabited α](f:α->Int)(xs:List α):Nat->Int
 | 0=>0
 | i+1=>fC f xs i+f (nth xs i)
theorem mb{α:Type}[Inhabited α]{f:α->Int}{xs:List α}{b:Int}(h:∀y∈xs,0<=f y/\f y<=b):∀i:Nat,i<=xs.length->0<=fC f xs i/\fC f xs i<=b*i
 | 0,_=>by simp[fC]
 | i+1,a=>by
  have c:=mb h i ω
  grind [ax,fC]
def dd(e:bo):Int:=if e.e≠0 then 1 else 0
theorem yA(e:bo):0<=dd e/\dd e<=1:=by grind [dd]
def io(t:aO):Int:=fC dd t.M t.M.length
def kM(s:aB)(c:Nat):Bool:=bc s.a9 (((c:Nat):Int) / csz s.d)
def lr(s:aB)(n:Nat):List Int:=((List.range n).filter (kM s)).map λ(i:Nat)=>(i:Int)
theorem J6(h:kM s n=true):lr s (n+1)=lr s n++[(n:Int)]:=by grind [List.range_succ,lr]
theorem PT(h:kM s n=false):lr s (n+1)=lr s n:=by grind [List.range_succ,lr]
theorem rP(s:aB)(n:Nat):(lr s n).length<=n:=by grind [lr]
theorem Qq{z:Int} : z∈lr s n↔∃c:Nat,c<n/\kM s c=true/\z=c:=by grind [lr]
def QF(s:aB):Int:=((lr s 16).length:Nat)
theorem Vn(s:aB):0<=QF s/\QF s<=16:=by grind [rP,QF]
def ny(sp:List aB)(la:List aC):Int:=fC QF sp sp.length+fC (·.k) la la.length
theorem Wq(h:la.all bI=true):∀l∈la,0<=l.k/\l.k<=1000:=λl a=>by grind [bI]
def fD(o:bg):Int:=if 0<=aN o.k then csz (aN o.k) else o.k
def Bz(a:cw h=true):∀o∈h.J,1<=o.k/\o.k<=1000:=λo b=>by
 obtain⟨i,c,rfl⟩:=aW b;obtain⟨f,g,j,k,d,e,-⟩:=zB a c;exact⟨d,e⟩
def csz8(k:Int):0<=csz k/\csz k<=8:=xA k
theorem NW(a:cw h=true):∀o∈h.J,0<=fD o/\fD o<=1000:=λo b=>by
 have c:=Bz a o b;have d:=csz8 (aN o.k)
 grind [fD]
theorem y6:∀(a:List (List Int))(k:Nat),(∀l∈a,l.length<=8)->0<=dY k a/\dY k a<=64*a.length
 | [],_,_=>by simp[dY]
 | l::a,k,h=>by
  have c:=y6 a (k+1) ψ;have b:=UT k;have d:=P3 (h l (O3 ..)) b.1 b.2
  grind [dY]
def tY(c:aE):0<=dn c/\dn c<=256:=by
 unfold dn;split
 ·rename_i h
  obtain⟨b,a⟩:=oG h;have:=y6 c.Y 0 a;omega
 omega
def fZ(h:ac)(a:Int):Int:=csz (nth h.K (gk h (a / 16)).toNat).d
def dw(h:ac):fW:=
 ⟨eQ h,io h.G.F.O,fU h.G.F.V,ny h.K h.H,fC fD h.J h.J.length,fC dn h.R h.R.length,quarCells h.a7.y h.a7.y.length,fC (fZ h) (aL h.w) (aL h.w).length⟩
theorem Yj(c:cw h=true)(d:a∈aL h.w):∃i:Nat,i<h.K.length/\(denotes h.K h.H a).c3=i/\gk h (a / 16)=i/\0<=a/\a<=600:=by
 obtain⟨-,e,-,-,-,-,-,-,f,-⟩:=ku c;have b:=O7.1 ((oD h).1 f).2 a d;unfold mc ed at b;simp only[I0,C0]at b;obtain⟨i,g,k,l,-⟩:=vC b.1.1;have j:=nu.of e;have n:=aJ (j.sok _ (ax g))
 grind [iw,nu.sok,nz,nth]
def lW(a:fW):Bool:=decide ((0<=a.a1/\a.a1<=100000)/\(0<=a.c6/\a.c6<=100000)/\(0<=a.V/\a.V<=100000)/\(0<=a.c9/\a.c9<=100000)/\(0<=a.d0/\a.d0<=100000)/\(0<=a.c5/\a.c5<=100000)/\(0<=a.b6/\a.b6<=100000)/\(0<=a.c7/\a.c7<=100000)/\a.c9=a.d0+a.c5+a.b6+a.c7/\a.V<=a.c6/\a.c6<=a.a1)
def rq(h:ac)(p:Nat):List Int:=nth h.G.F.V.T (nth (tbl h).M p).j.toNat
def yb(h:ac)(p c:Nat):Bool:=(h.K.any λs=>decide (s.Q∈aX h (p:Nat))&&kM s c) || h.H.any λl=>b9 l (16*(p:Nat)+(c:Nat))
def lL(h:ac)(p:Nat):Bool:=dq 16 λc=>decide (nth (rq h p) c=0) || yb h p c
def bor(n m:Int):Int:=((n.toNat ||| m.toNat:Nat):Int)
def sE(sp:List aB)(p:Int)(b:Int):Nat->Int
 | 0=>b
 | j+1=>if(nth sp j).Q=p then bor (sE sp p b j) (nth sp j).a9 else sE sp p b j
def jK(sp:List aB)(ps:List Int)(b:Int):Nat->Int
 | 0=>b
 | k+1=>sE sp (nth ps k) (jK sp ps b k) sp.length
def f6(h:ac)(i:Nat):Int:=jK h.K (aX h (nth h.K i).Q) (nth h.K i).a9 (aX h (nth h.K i).Q).length
def Ng{n:Int}(h1:0<=n/\n<=65535)(h2:0<=m/\m<=65535):0<=bor n m/\bor n m<=65535:=by
 have a:n.toNat ||| m.toNat<2 ^ 16:=Nat.or_lt_two_pow ω ω
 unfold bor;omega
theorem oU(h:∀s∈sp,bk s=true)(a:j<sp.length):0<=(nth sp j).a9/\(nth sp j).a9<=65535:=by
 have b:=h _ (ax a);have c:=N7 (nth sp j).d
 grind [bk]
theorem z7{sp:List aB}(h:∀s∈sp,bk s=true){p b:Int}(a:0<=b/\b<=65535):∀j,j<=sp.length->0<=sE sp p b j/\sE sp p b j<=65535
 | 0,_=>a
 | j+1,d=>by
  have c:=z7 h (p:=p) a j ω;simp only[sE];split
  ·exact Ng c (oU h ω)
  exact c
def oh{sp:List aB}(h:∀s∈sp,bk s=true){ps:List Int}{b:Int}(a:0<=b/\b<=65535):∀k,0<=jK sp ps b k/\jK sp ps b k<=65535
 | 0=>a
 | k+1=>by simp only[jK];exact z7 h (oh h a k) _ (C5 _)
theorem qN{i:Int}(a:0<=b)(c:0<=i/\i<=15):bc b i=b.toNat.testBit i.toNat:=by grind [bc]
theorem ML{n i:Int}(b:0<=n)(c:0<=m)(a:0<=i/\i<=15):bc (bor n m) i=(bc n i || bc m i):=by
 rw[qN (by unfold bor;omega) a,qN b a,qN c a];unfold bor
 simp_all
theorem LL{sp:List aB}(h:∀s∈sp,bk s=true){p b i:Int}(a:0<=b/\b<=65535)(c:0<=i/\i<=15):∀j,j<=sp.length->(bc (sE sp p b j) i=true↔bc b i=true\/∃q,q<j/\(nth sp q).Q=p/\bc (nth sp q).a9 i=true)
 | 0,_=>by simp[sE]
 | j+1,d=>by
  have e:=LL h (p:=p) a c j ω
  grind [z7,oU,ML,sE]
theorem Gw{sp:List aB}(h:∀s∈sp,bk s=true){ps:List Int}{b i:Int}(d:0<=b/\b<=65535)(f:0<=i/\i<=15):∀k,(bc (jK sp ps b k) i=true↔bc b i=true\/∃u,u<k/\∃q,q<sp.length/\(nth sp q).Q=nth ps u/\bc (nth sp q).a9 i=true)
 | 0=>by simp[jK]
 | k+1=>by
  have g:=Gw h (ps:=ps) d f k;have j:=oh h (ps:=ps) d k;simp only[jK];rw[LL h j f _ (C5 _),g];constructor
  ·rintro((e|⟨u,c,a⟩)|⟨q,c,a⟩)
   ·exact .inl e
   ·exact .inr ⟨u,ω,a⟩
   exact .inr ⟨k,ω,q,c,a⟩
  rintro(e|⟨u,c,a⟩)
  ·exact .inl (.inl e)
  by_cases l:u=k
  ·grind
  exact .inl (.inr ⟨u,ω,a⟩)
theorem JJ(a:bk s=true){c:Nat}(b:c<16):0<=((c:Nat):Int) / csz s.d/\((c:Nat):Int) / csz s.d<=15:=by
 have d:=aJ a
 grind [bT]
def Dg(h:ac)(r:aS):Bool:=decide (0<=bU (cM r.Id) h.J)&&decide (cellsOf h.G (nth h.J (bU (cM r.Id) h.J).toNat).Addr (nth h.J (bU (cM r.Id) h.J).toNat).k.toNat=r.T)
def jm(h:ac)(r:aA):Bool:=(cw h&&decide (h.b=r.b/\h.J.length=r.J.length))&&dq r.J.length λi=>Dg h (nth r.J i)
def lX(h:ac)(p:Nat):Bool:=decide ((nth (tbl h).M p).e=0) || ((h.q&&decide ((p:Int)=h.a.X.a4)) || lL h p)
def oH(w:bh):Bool:=(jm w.W w.b3&&lW (dw w.W))&&dq (eQ w.W) (lX w.W)
def mt(p:α->Bool)(xs:List α):Nat:=(xs.findIdx? p).getD xs.length
def lA(p:α->Bool)(xs:List α)(y:α):List α:=xs.take (mt p xs)++y::xs.drop (mt p xs)
theorem WG(p:α->Bool)(xs:List α):mt p xs<=xs.length:=by
 unfold mt;cases e:xs.findIdx? p with
 | none=>exact C5 _
 | some i=>grind [SE]
theorem nD(p:α->Bool)(xs:List α)(y:α):(lA p xs y).Perm (y::xs):=by grind [List.perm_middle,List.take_append_drop,lA]
theorem dy{p:α->Bool}{xs:List α}{y z:α} : z∈lA p xs y↔z=y\/z∈xs:=by grind [nD]
theorem oQ{p:α->Bool}{xs:List α}(b:i<=xs.length)(a:∀(j:Nat)(z:α),j<i->xs[j]? = some z->p z=false)(c:∀z,xs[i]? = some z->p z=true):mt p xs=i:=by
 unfold mt;by_cases e:i<xs.length
 ·rw[zF (z4 e) ψ a];rfl
 grind [GA]
theorem oB{f:α->Int}{xs:List α}{y:α}(h:xs.Pairwise λa b=>f a<f b)(g:∀z∈xs,f z≠f y):(lA (λz=>decide (f y<=f z)) xs y).Pairwise λa b=>f a<f b:=by
 have k:∀z∈xs.drop (mt (λz=>decide (f y<=f z)) xs),f y<f z:=λz c=>by
  obtain⟨j,d,rfl⟩:=List.mem_drop_iff_getElem.1 c;have l:=g _ (List.getElem_mem d);cases e:xs.findIdx? (λz=>decide (f y<=f z)) with
  | none=>
   grind [mt]
  | some i=>
   grind [SE,List.pairwise_iff_getElem,mt]
 have n:∀z∈xs.take (mt (λz=>decide (f y<=f z)) xs),f z<f y:=λz c=>by
  obtain⟨j,d,rfl⟩:=List.mem_take_iff_getElem.1 c;unfold mt at d;cases e:xs.findIdx? (λz=>decide (f y<=f z)) with
  | none=>
   grind
  | some i=>
   grind [SE]
 unfold lA
 grind [List.pairwise_cons]
def iP(b i:Int):Int:=((b.toNat ||| 2 ^ i.toNat:Nat):Int)
def tL(s:aB)(i:Int):aB:={s with a9:=iP s.a9 i}
theorem zT(b i:Int)(j:Nat):(iP b i).toNat.testBit j=(b.toNat.testBit j || decide (i.toNat=j)):=by
 unfold iP;rw[t5,Nat.testBit_or,Nat.testBit_two_pow]
theorem Pc{i:Int}(a:0<=b)(c:0<=i/\i<=15)(j:Int):bc (iP b i) j=true↔bc b j=true\/j=i:=by grind [gG,zT,iP]
theorem iE{k:Int}(h:0<=k/\k<=3):lim k=2 ^ (slots k).toNat - 1/\0<=slots k/\slots k<=16/\slots k*csz k=16:=by
 obtain rfl|rfl|rfl|rfl:k=0\/k=1\/k=2\/k=3:=ω
 all_goals decide
theorem GB(h:bk s=true){i:Int}(k:0<=i/\i<slots s.d):bk (tL s i)=true:=by
 have b:=aJ h;obtain⟨c,l,o,-⟩:=iE b.2.2;unfold bk at h;rw[C0]at h;obtain⟨d,e,f,g,p,a⟩:=h;refine O0 ⟨d,e,f,g,by show 0<=iP s.a9 i;grind [iP],?_⟩;show iP s.a9 i<=lim s.d;rw[c]at a |-;have j:((2 ^ (slots s.d).toNat:Nat):Int)=(2:Int) ^ (slots s.d).toNat:=by norm_cast
 rw[<-j]at a |-;have:=Nat.or_lt_two_pow (x:=s.a9.toNat) (y:=2 ^ i.toNat) (n:=(slots s.d).toNat) ω (Nat.pow_lt_pow_right ω ω)
 grind [iP]
theorem RB{u:aB}{i:Int}(c:0<=i/\i<slots s.d)(k:bc u.a9 i=false)(h:meshable s u=true):meshable (tL s i) u=true:=by
 unfold meshable at h |-;simp only[I0,C0]at h |-;obtain⟨⟨a,b⟩,d,e,l⟩:=h;have f:=aJ a;obtain⟨n,o,p,-⟩:=iE f.2.2;have g:=eS b;refine⟨⟨GB a c,b⟩,d,e,?_⟩;refine Nat.eq_of_testBit_eq λj=>?_
 grind [zT,gG,tL]
theorem xX(h:bk s=true){i:Int}(c:0<=i/\i<slots s.d)(b:Int):fA (tL s i) b↔fA s b\/b=16*s.Q+i*csz s.d:=by
 have a:=aJ h;obtain⟨d,e,f,g⟩:=iE a.2.2;have j:=bT a.2.2;unfold fA
 grind [Pc,eS,tL]
def RJ(k:Int)(a:i<sp.length):(sp.set i (tL (nth sp i) k)).map (·.Q)=sp.map (·.Q):=by
 rw[SC];refine List.ext_getElem (by simp) λj b c=>?_
 rw[List.getElem_set];split
 ·rename_i e;subst e
  rw[List.getElem_map];show(nth sp i).Q=_;rw[br (z4 a)]
 rfl
def k7.setS(p:nu sp la)(g:i<sp.length){k:Int}(h:0<=k/\k<slots (nth sp i).d)(b c:Int):k7 (sp.set i (tL (nth sp i) k)) b c↔k7 sp b c\/(b=16*(nth sp i).Q+k*csz (nth sp i).d/\(c<0\/(nth sp i).d=c)):=by
 have d:=p.sok _ (ax g);constructor
 ·rintro⟨s,l,f,a⟩
  rcases g9 l with rfl|⟨j,n,q,rfl⟩
  ·rcases(xX d h b).1 f with o|o
   ·exact .inl ⟨_,ax g,o,a⟩
   exact .inr ⟨o,a⟩
  exact .inl ⟨_,ax n,f,a⟩
 rintro(⟨s,l,f,a⟩|⟨f,a⟩)
 ·obtain⟨j,n,rfl⟩:=aW l
  by_cases e:j=i
  ·subst e
   exact⟨_,lh _ g,(xX d h b).2 (.inl f),a⟩
  exact⟨_,me _ n e,f,a⟩
 exact⟨_,lh _ g,(xX d h b).2 (.inr f),a⟩
theorem Wa(d:aY h E)(g:i<h.K.length){k:Int}(o:0<=k/\k<=15)(b:bc (f6 h i) k=false):bc (nth h.K i).a9 k=false/\∀u∈h.K,(nth (tbl h).M u.Q.toNat).j=(nth (tbl h).M (nth h.K i).Q.toNat).j->bc u.a9 k=false:=by
 have e:=d.L;have p:=eS (e.sok _ (ax g));unfold f6 at b;rw[<-SA,Gw e.sok p o]at b;rw[not_or]at b;have q:bc (nth h.K i).a9 k=false:=by simpa using b.1
 have a:∀s∈h.K,s.Q.toNat<eQ h/\(nth (tbl h).M s.Q.toNat).e≠0/\((s.Q.toNat:Nat):Int)=s.Q:=λs l=>by
  have K:=aJ (e.sok s l);have M:=d.pg.bnd s.Q (fw l);have n:s.Q.toNat<(tbl h).M.length:=ω
  have r:((s.Q.toNat:Nat):Int)=s.Q:=ω
  exact⟨n,(d.pg.own _ n).2 (by grind [fw]),r⟩
 refine⟨q,λu c t=>?_⟩;rw[<-SA];intro w;obtain⟨y,A,B⟩:=a _ (ax g);obtain⟨C,D,F⟩:=a u c;have G:u.Q∈aX h (nth h.K i).Q:=by
  rw[<-B,gg y A,<-F];exact fo.2 ⟨C,D,t⟩
 obtain⟨v,H,f⟩:=aW G;obtain⟨j,J,rfl⟩:=aW c;exact b.2 ⟨v,H,j,J,f.symm,w⟩
theorem aY.take{k sd:Int}(d:aY h E)(r:i<h.K.length)(F:0<=k/\k<slots (nth h.K i).d)(w:bc (f6 h i) k=false)(P:0<=sd/\sd<=1073741823) :
  aY {h with c0:=sd,K:=h.K.set i (tL (nth h.K i) k)} ((16*(nth h.K i).Q+k*csz (nth h.K i).d)::E):=by
 have A:=d.L;have G:=A.sok _ (ax r);have B:=aJ G;obtain⟨l1,l2,l3,l4⟩:=iE B.2.2;have hz:=bT B.2.2;obtain⟨u1,u2⟩:=Wa d r ω w;have g:=λb c=>k7.setS A r F b c
 have H:=RJ k r;generalize ha:16*(nth h.K i).Q+k*csz (nth h.K i).d=a at g |-;have J:¬fA (nth h.K i) a:=by
  rintro⟨-,-,-,h4⟩
  grind
 have hrange:16*(nth h.K i).Q<=a/\a<=16*(nth h.K i).Q+15:=ψ
 have K:¬Live h.K h.H a:=by
  rintro(⟨s,p,t,-⟩|⟨l,Q,e⟩)
  ·obtain⟨j,N,rfl⟩:=aW p
   have:=du (f:=(·.Q)) A.nd N r (by have a1:=t.1;have a2:=t.2.1;omega)
   grind
  exact(BZ A Q).1 _ (ax r) ω
 have M:a∉E++holders h:=λO=>K ((d.mem a).1 O)
 have n:∀s∈h.K.set i (tL (nth h.K i) k),∃u∈h.K,u.Q=s.Q/\(s=u\/(u=nth h.K i/\s=tL u k)):=λs p=>by
  rcases g9 p with rfl|⟨j,N,R,rfl⟩
  ·exact⟨_,ax r,rfl,.inr ⟨rfl,rfl⟩⟩
  grind [ax]
 generalize S:h.K.set i (tL (nth h.K i) k)=sp at g H n |-;have q:pgs sp h.H=pgs h.K h.H:=by grind [pgs]
 have T:∀u∈h.K,∃s∈sp,s.Q=u.Q:=λu w=>by
  have:u.Q∈sp.map (·.Q):=ψ
  grind
 exact {d with
   lay:=by grind [aY.lay,GB,b8]
   srs:=by
     have t:(h.K.map (·.Q)).Pairwise (λa b=>a<b):=List.pairwise_map.2 d.srs
     grind
   pg:=⟨d.pg.one,by rw[q];exact d.pg.bnd,by rw[q];exact d.pg.own,d.pg.fre,λs p u w U V=>by
     obtain⟨W,X,Y,Z⟩:=n s p;obtain⟨u',hu',eu,hu2⟩:=n u w;have hf':(nth (tbl h).M W.Q.toNat).j=(nth (tbl h).M u'.Q.toNat).j:=by rw[Y,eu];exact V
     grind [Pg.mesh,aY.pg,kx,RB]⟩
   nums:=by
     have:=d.nums
     grind [cI]
   oow:=λo ho=>by
     rcases d.oow o ho with⟨s,p,t,h2⟩|t
     · obtain⟨u,w,g1,C⟩:=(g o.Addr (aN o.k)).2 (.inl ⟨s,p,t,.inr h2⟩)
       refine .inl ⟨u,w,g1,?_⟩;rcases C with C|C
       · have:=aJ (A.sok _ p);omega
       exact C
     exact .inr t
   hca:=λc B k F b D=>(g b k).2 (.inl (d.hca c B k F b D))
   hqu:=λy hy=>(g _ _).2 (.inl (d.hqu y hy))
   hfl:=λb D=>(g _ _).2 (.inl (d.hfl b D))
   hin:=λb D=>by grind [aY.hin]
   nd:=by
     rw[List.cons_append];exact List.nodup_cons.2 ⟨M,d.nd⟩
   mem:=λb=>by
     show b∈a::E++holders h↔Live sp h.H b
     grind [aY.mem,Live]
   job:=λO=>by grind [aY.job]}
def wz(c:aE)(k:Nat):aE:=⟨c.Y.set k ((nth c.Y k).take ((nth c.Y k).length - 1))⟩
theorem TW{l:List Int}(h:0<l.length):l=l.take (l.length - 1)++[nth l (l.length - 1)]:=by grind [gZ,List.take_append_drop]
theorem aY.pop{t k:Nat}(d:aY h E)(f:t<h.R.length)(g:k<(nth h.R t).Y.length)(l:0<(nth (nth h.R t).Y k).length)(u:bx (wz (nth h.R t) k)=true) :
  aY {h with R:=h.R.set t (wz (nth h.R t) k)} (nth (nth (nth h.R t).Y k) ((nth (nth h.R t).Y k).length - 1)::E)/\k7 h.K (nth (nth (nth h.R t).Y k) ((nth (nth h.R t).Y k).length - 1)) k:=by
 have n:=TW l;have i:=d.hca _ (ax f) k g (nth (nth (nth h.R t).Y k) ((nth (nth h.R t).Y k).length - 1)) ψ;refine⟨?_,i⟩;generalize w:nth (nth (nth h.R t).Y k) ((nth (nth h.R t).Y k).length - 1)=a at n i |-;have p:(E++holders h).Perm (a::E++holders {h with R:=h.R.set t (wz (nth h.R t) k)}):=by
  refine List.perm_iff_count.2 λb=>?_
  have A:=kV (λc:aE=>c.Y.flatten) b h.R t (wz (nth h.R t) k) f;have q:=kV (λy:List Int=>y) b (nth h.R t).Y k ((nth (nth h.R t).Y k).take ((nth (nth h.R t).Y k).length - 1)) g;rw[<-nZ,<-nZ]at q
  grind [wz,holders,cU]
 exact {d with
   nc:=by grind [aY.nc]
   cach:=λc e=>by grind [aY.cach]
   onu:=by show ∀o∈h.J,1<=o.Id/\o.Id<=h.b - 1/\0<=o.a2/\o.a2<=(h.R.set t _).length - 1;rw[C3];exact d.onu
   hca:=λc e j B b r=>by grind [aY.hca,bW,ax,wz]
   hin:=λb r=>by grind [k7.any,aY.hin]
   nd:=p.nodup_iff.1 d.nd
   mem:=λb=>by grind [aY.mem]}
def Q1(a:Int)(o:bg):Bool:=decide (a<=o.Addr)
def addO(h:ac)(a size t:Int):ac:={h with J:=lA (Q1 a) h.J ⟨h.b,a,size,t⟩,b:=h.b+1}
theorem FO(a:cI h=true)(b:h.b<1000000):decide (0<=h.c0/\h.c0<=1073741823/\0<=h.b1/\h.b1<=1000000/\0<=h.c1/\h.c1<=1000/\1<=h.b+1/\h.b+1<=1000000)=true:=by grind [cI]
theorem aY.addO{h:ac}{E:List Int}{a size t:Int}(c:aY h (a::E))(d:Te h.K h.H ⟨h.b,a,size,t⟩)(p:h.b<1000000)(q:0<=t/\t<=h.R.length - 1):aY (addO h a size t) E:=by
 have i:=nD (Q1 a) h.J ⟨h.b,a,size,t⟩;have n:(a::E++holders h).Perm (E++holders (Ab.addO h a size t)):=by
  have r:=i.map (·.Addr);refine List.perm_iff_count.2 λb=>?_
  have u:=r.count_eq b;simp only[IC,List.count_cons]at u;simp only[holders,cU,Ab.addO,OC,List.cons_append,List.count_cons];omega
 have j:=c.nd;rw[List.cons_append]at j;obtain⟨k,-⟩:=List.nodup_cons.1 j;have l:∀o∈h.J,o.Addr≠a:=λo d e=>k (z5.2 (.inr (by unfold holders;grind)))
 exact {c with
   nums:=FO c.nums p
   osr:=oB (f:=λo:bg=>o.Addr) (y:=⟨h.b,a,size,t⟩) c.osr l
   onu:=λo d=>by
     rcases dy.1 d with rfl|d
     · have:=c.nums
       unfold cI at this;rw[C0]at this;exact⟨ψ,by show h.b<=h.b+1 - 1;omega,q⟩
     have:=c.onu o d;exact⟨this.1,by show o.Id<=h.b+1 - 1;omega,this.2.2⟩
   oid:=by
     show((lA (Q1 a) h.J ⟨h.b,a,size,t⟩).map (·.Id)).Nodup;rw[(i.map _).nodup_iff,IC];refine List.nodup_cons.2 ⟨λw=>?_,c.oid⟩;obtain⟨o,d,e⟩:=O8.1 w;have:=(c.onu o d).2.1
     grind
   oow:=λo g=>by
     rcases dy.1 g with rfl|g
     · exact d
     exact c.oow o g
   hin:=λb A=>c.hin b ψ
   nd:=n.nodup_iff.1 c.nd
   mem:=λb=>by rw[<-n.mem_iff];exact c.mem b}
def ia(xs:List aG)(n:Int):Nat->Int
 | 0=>-1
 | i+1=>if n<=(nth xs i).a8/\(ia xs n i<0\/(nth xs i).a8<(nth xs (ia xs n i).toNat).a8) then(i:Nat) else ia xs n i
def gH(xs:List aG)(n:Int):Int:=ia xs n xs.length
def ay(xs:List aG)(n:Int):List aG × Int × Bool:=
 if gH xs n<0 then(xs,-1,false)
 else if(nth xs (gH xs n).toNat).a8=n then(dele xs (gH xs n).toNat,(nth xs (gH xs n).toNat).At,true)
 else(xs.set (gH xs n).toNat ⟨(nth xs (gH xs n).toNat).At+n,(nth xs (gH xs n).toNat).a8 - n⟩,(nth xs (gH xs n).toNat).At,true)
theorem vM(xs:List aG)(n:Int):∀i,i<=xs.length->ia xs n i = -1\/(0<=ia xs n i/\ia xs n i<i/\n<=(nth xs (ia xs n i).toNat).a8)
 | 0,_=>.inl rfl
 | i+1,a=>by
  have b:=vM xs n i ω
  grind [ia]
variable{xs:List aG}
def A4(h:lT xs)(a:i<j)(b:j<xs.length):(nth xs i).At+(nth xs i).a8<(nth xs j).At:=by
 have:=List.pairwise_iff_getElem.1 h.1 i j ω b a
 rwa [<-br (z4 (show i<xs.length by omega)),<-br (z4 b)]at this
theorem Dx : RH xs p↔∃j,j<xs.length/\(nth xs j).At<=p/\p<(nth xs j).At+(nth xs j).a8:=by grind [aW,ax,RH]
theorem qV{pages:Int}{n:Int}(h:bN pages xs=true)(R:1<=n)(f:(ay xs n).2.2=true) :
  bN pages (ay xs n).1=true/\0<=(ay xs n).2.1/\(ay xs n).2.1+n<=pages/\(∀p,RH (ay xs n).1 p↔RH xs p/\¬((ay xs n).2.1<=p/\p<(ay xs n).2.1+n))/\∀p,(ay xs n).2.1<=p->p<(ay xs n).2.1+n->RH xs p:=by
 obtain⟨e,E,t⟩:=ix.1 h;have u:=vM xs n xs.length (C5 _);unfold ay at f |-;change gH xs n = -1\/_ at u;split at f
 ·cases f
 rename_i g;rw[CJ g];obtain⟨F,G,w⟩:=u.resolve_left ω;change 0<=gH xs n at F;change gH xs n<xs.length at G;change n<=(nth xs (gH xs n).toNat).a8 at w;generalize H:(gH xs n).toNat=b at w |-;have d:b<xs.length:=ω
 have A:=E _ (ax d);have J:∀j,j<xs.length->j≠b->(nth xs j).At+(nth xs j).a8<(nth xs b).At\/(nth xs b).At+(nth xs b).a8<(nth xs j).At:=λj c k=>by
  rcases Nat.lt_or_gt_of_ne k with l|o
  ·exact .inl (A4 e l d)
  exact .inr (A4 e o c)
 split
 ·rename_i K
  have L:(dele xs b).Sublist xs:=gl ..;refine⟨ix.2 ⟨⟨e.1.sublist L,ψ⟩,ψ,t⟩,A.1,ψ,λp=>?_,λp M N=>Dx.2 ψ⟩;simp only;rw[Dx (xs:=xs)];constructor
  ·rintro⟨r,O,B,C⟩
   grind [dZ]
  rintro⟨⟨j,c,B,C⟩,P⟩
  exact⟨_,dZ.2 ψ,B,C⟩
 rename_i K;have a:∀j,nth (xs.set b ⟨(nth xs b).At+n,(nth xs b).a8 - n⟩) j=if j=b then⟨(nth xs b).At+n,(nth xs b).a8 - n⟩ else nth xs j:=λj=>by grind [bW]
 refine⟨ix.2 ⟨⟨?_,λy Q=>?_⟩,λy Q=>?_,t⟩,A.1,ψ,λp=>?_,λp M N=>Dx.2 ψ⟩
 ·rw[List.pairwise_iff_getElem]
  intro i j D c q;rw[<-br (z4 D),<-br (z4 c),a,a];simp only[C3]at D c;have S:=A4 e q c
  grind
 ·grind
 ·grind
 simp only;rw[Dx,Dx,C3];constructor
 ·grind
 grind
def rz(k:ah):Int:=bU (λu=>!u) k.F.V.a6
def xd(k:ah)(p:Int)(f:Nat):ah:={k with F:=⟨⟨k.F.V.T,k.F.V.a6.set f true⟩,⟨k.F.O.M.set p.toNat ⟨2,(f:Nat)⟩⟩⟩}
def newK(k:ah)(p:Int):ah × Bool:=if refd k=true\/rz k<0 then(cN k,false) else(xd (cN k) p (rz k).toNat,true)
theorem Lg(h:¬rz k<0):(rz k).toNat<k.F.V.a6.length/\nth k.F.V.a6 (rz k).toNat=false:=by grind [mq,rz]
theorem Gs(h:aI k=true)(a:f<k.F.V.a6.length)(b:nth k.F.V.a6 f=false)(q:Nat)(c:q<k.F.O.M.length)(d:(nth k.F.O.M q).e≠0):(nth k.F.O.M q).j≠(f:Nat):=by grind [aH,fL]
theorem Ww(h:aI k=true)(A:0<=p/\p<k.F.O.M.length)(B:(nth k.F.O.M p.toNat).e=0)(c:f<k.F.V.a6.length)(d:nth k.F.V.a6 f=false):aI (xd k p f)=true:=by
 have g:=Gs h c d;obtain⟨i,l,n,o,r⟩:=aH.1 h;obtain⟨t,u,C,w⟩:=bi.1 l;obtain⟨D,E,F⟩:=bu.1 n;have a:∀q,nth (k.F.O.M.set p.toNat ⟨2,(f:Nat)⟩) q=if p.toNat=q then⟨2,(f:Nat)⟩ else nth k.F.O.M q:=λq=>by grind [bW]
 refine aH.2 ⟨i,bi.2 ⟨t,u,by grind [xd],λj b=>?_⟩,bu.2 ⟨λj b=>?_,?_,?_⟩,λj b=>?_,r⟩
 ·replace b:j<k.F.V.T.length:=b
  show jw (nth k.F.V.T j) (nth (k.F.V.a6.set f true) j)=true;have G:=w j b;rw[bW]
  grind [jw,kw]
 ·simp only[xd,C3]at b |-
  rw[a];split
  all_goals grind [nK]
 ·grind [xd]
 ·grind [xd]
 simp only[xd,C3]at b;show nth (k.F.V.a6.set f true) j=_;rw[bW];by_cases e:f=j
 ·grind [fL,xd]
 rw[CJ λz=>e z.1,o j b];refine decide_eq_decide.2 ?_;rw[fL,fL];simp only[xd,C3,a];constructor
 ·rintro⟨q,y,H,J⟩
  refine⟨q,y,?_⟩
  grind
 grind
structure vk(k:ah)(p:Int)(r:ah × Bool):Prop where
 ker:aI r.1=true
 len:r.1.F.O.M.length=k.F.O.M.length
 calls:r.1.Calls=k.Calls+1
 ref:r.1.a3=k.a3
 cells:r.1.F.V.T=k.F.V.T
 no:r.2=false->r.1=cN k
 yes:r.2=true->∃f:Nat,f<k.F.V.a6.length/\nth k.F.V.a6 f=false/\(∀q:Nat,nth r.1.F.O.M q=if(q:Int)=p then⟨2,(f:Nat)⟩ else nth k.F.O.M q)/\∀q,q<k.F.O.M.length->(nth k.F.O.M q).e≠0->(nth k.F.O.M q).j≠(f:Nat)
theorem vk.of(h:aI k=true)(c:k.Calls≠100000)(f:0<=p/\p<k.F.O.M.length)(g:(nth k.F.O.M p.toNat).e=0):vk k p (newK k p):=by
 unfold newK;split
 ·exact⟨qi h c,rfl,rfl,rfl,rfl,λ_=>rfl,λe=>by cases e⟩
 rename_i d;rw[not_or]at d;obtain⟨a,b⟩:=Lg d.2;refine⟨Ww (qi h c) f g a b,by simp[xd,cN],rfl,rfl,rfl,ψ,λ_=>⟨_,a,b,λq=>?_,λq=>Gs h a b q⟩⟩
 grind [bW,xd,cN]
def newsK(k:ah)(p:Int):Nat->ah × Nat
 | 0=>(k,0)
 | i+1=>if(newsK k p i).2=i then((newK (newsK k p i).1 (p+(i:Nat))).1,if(newK (newsK k p i).1 (p+(i:Nat))).2=true then i+1 else i) else newsK k p i
structure gI(k:ah)(p:Int)(i:Nat)(r:ah × Nat):Prop where
 ker:aI r.1=true
 len:r.1.F.O.M.length=k.F.O.M.length
 calls:k.Calls<=r.1.Calls/\r.1.Calls<=k.Calls+i
 ref:r.1.a3=k.a3
 cells:r.1.F.V.T=k.F.V.T
 le:r.2<=i
 out:∀q:Nat,¬(p<=q/\(q:Int)<p+r.2)->nth r.1.F.O.M q=nth k.F.O.M q
 new:∀q:Nat,p<=q->(q:Int)<p+r.2->(nth r.1.F.O.M q).e=2/\∀u:Nat,u<k.F.O.M.length->(nth r.1.F.O.M u).e≠0->(nth r.1.F.O.M u).j=(nth r.1.F.O.M q).j->u=q
theorem gI.of{k:ah}{p:Int}{n:Nat}(h:aI k=true)(l:k.Calls+n<=100000)(o:0<=p/\p+n<=k.F.O.M.length)(t:∀q:Nat,p<=q->(q:Int)<p+n->(nth k.F.O.M q).e=0):∀i,i<=n->gI k p i (newsK k p i)
 | 0,_=>⟨h,rfl,⟨O9 _,by show k.Calls<=k.Calls+((0:Nat):Int);omega⟩,rfl,rfl,C5 _,λ_ _=>rfl,λq d b=>by grind [newsK]⟩
 | i+1,B=>by
  have a:=gI.of h l o t i ω;unfold newsK;split
  case isFalse=>exact⟨a.ker,a.len,⟨a.calls.1,by have:=a.calls.2;omega⟩,a.ref,a.cells,by have:=a.le;omega,a.out,a.new⟩
  rename_i u;generalize newsK k p i=r at a u |-;have y:=a.calls;have c:(nth r.1.F.O.M (p+(i:Nat)).toNat).e=0:=by grind [gI.out]
  have s:=vk.of (p:=p+(i:Nat)) a.ker ω ⟨ω,by rw[a.len];omega⟩ c;generalize newK r.1 (p+(i:Nat))=w at s |-;refine⟨s.ker,s.len.trans a.len,⟨by grind [vk.calls],by grind [vk.calls]⟩,s.ref.trans a.ref,s.cells.trans a.cells,ψ,λq g=>?_,λq d b=>?_⟩
  ·simp only at g |-
   cases e:w.2 with
   | false=>
    rw[s.no e];rw[e]at g;exact a.out q ψ
   | true=>
    obtain⟨f,-,-,j,-⟩:=s.yes e
    grind [gI.out]
  simp only at b |-;cases e:w.2 with
  | false=>
   rw[s.no e];rw[e]at b;exact a.new q d ψ
  | true=>
   obtain⟨f,-,-,j,C⟩:=s.yes e;rw[e,CL rfl]at b;have A:q<k.F.O.M.length:=ω
   rw[j];by_cases D:(q:Int)=p+(i:Nat)
   ·grind [gI.len]
   grind [gI.new,gI.len]
theorem gI.undo{r:ah × Nat}(s:gI k p i r)(h:aI k=true)(a:0<=p/\p+i<=k.F.O.M.length)(b:∀q:Nat,p<=q->(q:Int)<p+i->(nth k.F.O.M q).e=0):aI (unmN r.1 p r.2)=true/\tEq k.F.O (unmN r.1 p r.2).F.O:=by
 have c:=s.le;have d:=qa s.ker a.1 r.2 (by rw[s.len];omega);refine⟨iI s.ker p r.2,((fY r.1 p r.2).1).trans s.len,λq=>?_⟩;rw[d];split
 ·rename_i e
  have f:=b q e.1 ω
  grind [aH,bu,nK]
 grind [gI.out]
theorem Pg.add{c:aO}{B f:List aG}{a:List aB}{b:List aC}(o:Pg t B sp la)(C:c.M.length=t.M.length)(H:p+n<=t.M.length)(R:0<=p)(S:∀q:Nat,¬(p<=q/\(q:Int)<p+n)->nth c.M q=nth t.M q)(D:∀q:Nat,p<=q->(q:Int)<p+n->(nth c.M q).e=2/\∀u:Nat,u<t.M.length->(nth c.M u).e≠0->(nth c.M u).j=(nth c.M q).j->u=q)(J:∀q,RH f q↔RH B q/\¬(p<=q/\q<p+n))(r:∀q,q∈pgs a b↔q∈pgs sp la\/(p<=q/\q<p+n))(g:∀s∈a,0<=s.Q/\(s∈sp\/(p<=s.Q/\s.Q<p+n)))(w:∀l∈b,l∈la\/∀q∈lpgs l l.a1.toNat,p<=q/\q<p+n):Pg c f a b:=by
 have E:∀q:Nat,q<t.M.length->((nth c.M q).e≠0↔(q:Int)∈pgs a b):=λq h=>by grind [Pg.own]
 refine⟨λl i q h u k T U=>?_,λq h=>?_,ψ,λq h=>?_,λs F u k K V=>?_⟩
 ·rw[C]at k
  have A:=i7 (sp:=a) i h;have L:q<t.M.length:=by
   rcases(r _).1 A with d|d
   ·have:=o.bnd _ d;omega
   omega
  by_cases e:p<=q/\(q:Int)<p+n
  ·grind
  have M:=(w l i).resolve_right ψ
  grind [Pg.one]
 ·rw[C]
  rcases(r _).1 h with d|d
  ·exact o.bnd _ d
  omega
 ·grind [Pg.fre]
 obtain⟨N,W⟩:=g s F;obtain⟨O,X⟩:=g u k;have j:∀y∈a,0<=y.Q->y.Q.toNat<t.M.length/\((y.Q.toNat:Nat):Int)=y.Q/\(nth c.M y.Q.toNat).e≠0:=λy P Q=>by
  have d:=fw (la:=b) P;have Y:y.Q.toNat<t.M.length:=by
   rcases(r _).1 d with G|G
   ·have:=o.bnd _ G;omega
   omega
  grind
 obtain⟨Z,sc,sd⟩:=j s F N;obtain⟨ub,uc,ud⟩:=j u k O;by_cases es:p<=s.Q/\s.Q<p+n
 ·grind
 by_cases eu:p<=u.Q/\u.Q<p+n
 all_goals grind [Pg.mesh]
theorem LU{a:List aB}{b:List aC}(c:a.Perm sp)(d:b.Perm la):(pgs a b).Perm (pgs sp la):=by grind [pgs]
def J4(p:Int)(s:aB):Bool:=decide (p<=s.Q)
def VE(p:Int)(l:aC):Bool:=decide (p<=l.Q)
def addS(h:ac)(k:ah)(a:List aG)(p c:Int):ac:={h with G:=k,o:=a,K:=lA (J4 p) h.K ⟨p,c,0⟩}
def jQ(a:aY h E){n:Int}(j:1<=n)(k:(ay h.o n).2.2=true):0<=(ay h.o n).2.1/\(ay h.o n).2.1+n<=(tbl h).M.length/\(∀q:Nat,(ay h.o n).2.1<=q->(q:Int)<(ay h.o n).2.1+n->(nth (tbl h).M q).e=0)/\∀q:Int,(ay h.o n).2.1<=q->q<(ay h.o n).2.1+n->q∉pgs h.K h.H:=by
 obtain⟨r,l,f,t,o⟩:=qV a.rng j k;have g:∀q:Nat,(ay h.o n).2.1<=q->(q:Int)<(ay h.o n).2.1+n->(nth (tbl h).M q).e=0:=λq b c=>by
  have d:q<(tbl h).M.length:=by
   have:(ay h.o n).2.1+n<=((tbl h).M.length:Nat):=f;omega
  by_cases e:(nth (tbl h).M q).e=0
  ·exact e
  exact absurd (o q b c) ((a.pg.fre q d).1 e)
 refine⟨l,f,g,λq b c i=>?_⟩;have u:=a.pg.bnd q i;obtain⟨m,rfl⟩:=v5 (show 0<=q by omega);have p:=(a.pg.own m ω).2 i;exact p (g m b c)
theorem aY.addS{h:ac}{E:List Int}{c:Int}(a:aY h E)(V:0<=c/\c<=3)(D:(ay h.o 1).2.2=true){k:ah}(s:vk h.G (ay h.o 1).2.1 (k,true)):aY (addS h k (ay h.o 1).1 (ay h.o 1).2.1 c) E:=by
 obtain⟨Q,R,W,F,X⟩:=qV a.rng (O9 _) D;obtain⟨-,S,Y,Z⟩:=jQ a (O9 _) D;generalize (ay h.o 1).2.1=p at R W F X S Y Z s |-;generalize (ay h.o 1).1=fr at Q F |-;obtain⟨f,f1,f2,T,f4⟩:=s.yes rfl;have G:=(bu.1 (aH.1 a.ker).2.2.1).2.2;change (tbl h).M.length<=32 at G;have hL:=a.L;have H:=nD (J4 p) h.K ⟨p,c,0⟩;have J:=LU H (List.Perm.refl h.H);have A:(pgs (lA (J4 p) h.K ⟨p,c,0⟩) h.H).Perm (p::pgs h.K h.H):=J;have K:p∉pgs h.K h.H:=ψ
 have M:∀z∈h.K,z.Q≠p:=λz i e=>K (by grind [fw])
 have r:∀b d,k7 (lA (J4 p) h.K ⟨p,c,0⟩) b d↔k7 h.K b d:=λb d=>by
  constructor
  ·rintro⟨s,B,w,N⟩
   rcases dy.1 B with rfl|B
   ·grind [zH]
   exact⟨s,B,w,N⟩
  rintro⟨s,B,w⟩
  exact⟨s,dy.2 (.inr B),w⟩
 exact {a with
   ker:=s.ker
   rng:=by show bN ((k.F.O.M.length:Nat):Int) fr=true;rw[s.len];exact Q
   lay:=by
     obtain⟨l1,l2,l3⟩:=fJ a.lay;unfold b8;simp only[I0,C0];refine⟨⟨O7.2 λz i=>?_,l2⟩,A.nodup_iff.2 ψ⟩;rcases dy.1 i with rfl|i
     · have hl0:0<=lim c:=by
         have:=(iE V).1;obtain rfl|rfl|rfl|rfl:c=0\/c=1\/c=2\/c=3:=ω
         all_goals decide
       exact O0 ψ
     grind
   srs:=oB (f:=λz:aB=>z.Q) (y:=⟨p,c,0⟩) a.srs M
   pg:=by
     refine a.pg.add (p:=p) (n:=1) s.len (by exact S) R (λq hq=>?_) (λq q1 q2=>?_) (λq=>F q) (λq=>?_) (λz i=>?_) (λl hl=>.inl hl)
     · exact(T q).trans (CJ ω)
     · have hq:(q:Int)=p:=ω
       have U:nth k.F.O.M q = ⟨2,(f:Nat)⟩:=ψ
       refine⟨O1 bo.e U,λu O t g=>?_⟩;have fu:nth k.F.O.M u=if(u:Int)=p then⟨2,(f:Nat)⟩ else nth h.G.F.O.M u:=T u
       change (nth k.F.O.M u).e≠0 at t;change (nth k.F.O.M u).j=(nth k.F.O.M q).j at g;rw[fu]at t g;rw[U]at g;by_cases eu:(u:Int)=p
       · omega
       rw[CJ eu]at t g;exact absurd g (f4 u O t)
     · show q∈pgs (lA (J4 p) h.K ⟨p,c,0⟩) h.H↔_
       grind
     rcases dy.1 i with rfl|i
     · grind
     exact⟨(aJ (hL.sok z i)).1,.inl i⟩
   oow:=λo D=>by
     rcases a.oow o D with⟨z,i,w,N⟩|w
     · exact .inl ⟨z,dy.2 (.inr i),w,N⟩
     exact .inr w
   hca:=λd hd j hj b C=>(r b j).2 (a.hca d hd j hj b C)
   hqu:=λy P=>(r _ _).2 (a.hqu y P)
   hfl:=λb C=>(r _ _).2 (a.hfl b C)
   hin:=λb C=>(r _ _).2 (a.hin b C)
   mem:=λb=>(a.mem b).trans (by
     show Live h.K h.H b↔Live (lA (J4 p) h.K ⟨p,c,0⟩) h.H b
     grind [Live])
   job:=λhm=>by
     obtain⟨j1,⟨y,P,e1⟩,⟨u,O,e2⟩⟩:=a.job hm;exact⟨j1,⟨y,dy.2 (.inr P),e1⟩,⟨u,dy.2 (.inr O),e2⟩⟩}
def addL(h:ac)(k:ah)(a:List aG)(p n size t:Int):ac:={h with G:=k,o:=a,H:=lA (VE p) h.H ⟨p,n,size⟩,J:=lA (Q1 (16*p)) h.J ⟨h.b,16*p,size,t⟩,b:=h.b+1}
theorem aY.addL{h:ac}{E:List Int}{size t:Int}{n:Nat}(a:aY h E)(g:9<=size/\size<=1000)(J:(n:Int)=(size+15) / 16)(i:(ay h.o n).2.2=true){k:ah}(s:gI h.G (ay h.o n).2.1 n (k,n))(hn:h.b<1000000)(ht:0<=t/\t<=h.R.length - 1) :
  aY (addL h k (ay h.o n).1 (ay h.o n).2.1 n size t) E:=by
 have B:(1:Int)<=n:=ω
 obtain⟨V,K,r3,M,r5⟩:=qV a.rng B i;obtain⟨-,W,u3,H⟩:=jQ a B i;generalize (ay h.o n).2.1=p at K r3 M r5 W u3 H s |-;generalize (ay h.o n).1=fr at V M |-;have N:=(bu.1 (aH.1 a.ker).2.2.1).2.2;change (tbl h).M.length<=32 at N;have O:=a.L;have P:=nD (VE p) h.H ⟨p,n,size⟩;have C:=nD (Q1 (16*p)) h.J ⟨h.b,16*p,size,t⟩;have Q:lpgs ⟨p,n,size⟩ ((n:Nat):Int).toNat=lpgs ⟨p,n,size⟩ n:=by rw[t5]
 have D:(pgs h.K (lA (VE p) h.H ⟨p,n,size⟩)).Perm (lpgs ⟨p,n,size⟩ n++pgs h.K h.H):=by
  refine(LU (List.Perm.refl h.K) P).trans ?_;unfold pgs;rw[CE];simp only[Q];rw[<-IB,<-IB];exact List.perm_append_comm.append_right _
 have u:∀q,q∈lpgs ⟨p,n,size⟩ n↔p<=q/\q<p+n:=λq=>by
  rw[eM];constructor
  ·rintro⟨j,hj,rfl⟩;exact⟨by show p<=p+(j:Int);omega,by show p+(j:Int)<_;omega⟩
  rintro⟨X,Y⟩;exact⟨(q - p).toNat,ω,by show q=p+_;omega⟩
 have R:(lpgs ⟨p,n,size⟩ n).Nodup:=by
  unfold lpgs List.Nodup;rw[List.pairwise_map];exact List.nodup_range.imp λr e=>r (by simp only at e;omega)
 have r:∀z∈h.H,z.Q≠p:=λz g e=>H p (O9 _) ω (by rw[<-e];exact i7 g (eM.2 ⟨0,by have:=aR (O.lok z g);omega,ω⟩))
 have S:¬Live h.K h.H (16*p):=by
  rintro(⟨z,g,d,-⟩|⟨l,c,e⟩)
  ·exact H p (O9 _) ω (by rw[show p=z.Q by have a1:=d.1;have a2:=d.2.1;omega];exact fw g)
  exact r l c ω
 have F:(16*p)∉E++holders h:=λT=>S ((a.mem _).1 T)
 have U:∀o∈h.J,o.Addr≠16*p:=λo i e=>F (z5.2 (.inr (by unfold holders;simp only[z5];exact .inl (.inl (.inl (O8.2 ⟨o,i,e⟩))))))
 have Z:(E++holders (Ab.addL h k fr p n size t)).Perm ((16*p)::(E++holders h)):=by
  have h0:=C.map (·.Addr);refine List.perm_iff_count.2 λb=>?_
  have d:=h0.count_eq b;simp only[IC,List.count_cons]at d;simp only[holders,cU,Ab.addL,OC,List.count_cons];omega
 exact {a with
   ker:=s.ker
   rng:=by show bN ((k.F.O.M.length:Nat):Int) fr=true;rw[s.len];exact V
   lay:=by
     obtain⟨l1,l2,l3⟩:=fJ a.lay;unfold b8;simp only[I0,C0];refine⟨⟨l1,O7.2 λz w=>?_⟩,D.nodup_iff.2 (List.nodup_append.2 ⟨R,l3,λq G b hb e=>?_⟩)⟩
     · rcases dy.1 w with rfl|w
       · exact O0 ⟨g.1,g.2,J,K,by show p<=32 - (n:Int);omega⟩
       exact O.lok z w
     subst e;have:=(u q).1 G;exact H q this.1 this.2 hb
   srl:=oB (f:=λz:aC=>z.Q) (y:=⟨p,n,size⟩) a.srl r
   pg:=by
     refine a.pg.add (p:=p) (n:=n) s.len (by exact W) K (λq G=>s.out q G) (λq X Y=>s.new q X Y) (λq=>M q) (λq=>?_) (λz g=>⟨(aJ (O.sok z g)).1,.inl g⟩) (λl c=>?_)
     · show q∈pgs h.K (lA (VE p) h.H ⟨p,n,size⟩)↔_
       rw[D.mem_iff,z5,u];exact Or.comm
     rcases dy.1 c with rfl|c
     · exact .inr λq G=>(u q).1 (by simpa using G)
     exact .inl c
   nums:=FO a.nums hn
   osr:=oB (f:=λo:bg=>o.Addr) (y:=⟨h.b,16*p,size,t⟩) a.osr U
   onu:=λo i=>by
     rcases dy.1 i with rfl|i
     · have:=a.nums
       unfold cI at this;rw[C0]at this;exact⟨by show 1<=h.b;omega,by show h.b<=h.b+1 - 1;omega,ht⟩
     have:=a.onu o i;exact⟨this.1,by show o.Id<=h.b+1 - 1;omega,this.2.2⟩
   oid:=by
     show((lA (Q1 (16*p)) h.J ⟨h.b,16*p,size,t⟩).map (·.Id)).Nodup;rw[(C.map _).nodup_iff,IC];refine List.nodup_cons.2 ⟨λT=>?_,a.oid⟩;obtain⟨o,i,e⟩:=O8.1 T;have:=(a.onu o i).2.1;simp only at e;omega
   oow:=λo A=>by
     rcases dy.1 A with rfl|A
     · exact .inr ⟨_,dy.2 (.inl rfl),rfl,rfl⟩
     rcases a.oow o A with d|⟨l,c,d⟩
     · exact .inl d
     exact .inr ⟨l,dy.2 (.inr c),d⟩
   nd:=Z.nodup_iff.2 (List.nodup_cons.2 ⟨F,a.nd⟩)
   mem:=λb=>by
     rw[Z.mem_iff,List.mem_cons,a.mem b];show _↔Live h.K (lA (VE p) h.H ⟨p,n,size⟩) b;unfold Live;constructor
     · rintro(rfl|d|⟨l,c,e⟩)
       · exact .inr ⟨_,dy.2 (.inl rfl),rfl⟩
       · exact .inl d
       exact .inr ⟨l,dy.2 (.inr c),e⟩
     rintro(d|⟨l,c,e⟩)
     · exact .inr (.inl d)
     rcases dy.1 c with rfl|c
     · exact .inl e
     exact .inr (.inr ⟨l,c,e⟩)}
structure JK(h h':ac):Prop where
 job:h'.a=h.a
 msh:h'.q=h.q
 sp:∀s∈h.K,gq h s.Q=true->∃s'∈h'.K,s'.Q=s.Q/\∀u,meshable s u=true->meshable s' u=true
 ent:∀q:Nat,(nth (tbl h').M q).e≠0->((nth (tbl h).M q).e≠0/\(nth (tbl h').M q).j=(nth (tbl h).M q).j)\/∀u:Nat,(nth (tbl h').M u).e≠0->(nth (tbl h').M u).j=(nth (tbl h').M q).j->u=q
theorem JK.refl(h:ac):JK h h:=⟨rfl,rfl,ψ,ω⟩
variable{h':ac}
theorem JK.pg(k:JK h h')(p:Int):gq h' p=gq h p:=by grind [JK.job,JK.msh,gq]
theorem JK.trans{h1 h2:ac}(a:JK h h1)(b:JK h1 h2):JK h h2:=by
 refine⟨b.job.trans a.job,b.msh.trans a.msh,λs e f=>?_,λq c=>?_⟩
 ·grind [JK.sp,JK.pg]
 rcases b.ent q c with⟨d,g⟩|d
 all_goals grind [JK.ent]
theorem pX.keep(c:0<=p)(d:(nth (tbl h').M p.toNat).e≠0)(e:pX (tbl h) p)(k:JK h h'):pX (tbl h') p:=λq f g=>by
 rcases k.ent p.toNat d with⟨n,i⟩|a
 ·rcases k.ent q f with⟨j,l⟩|b
  ·exact e q j (by rw[<-l,g,i])
  grind
 grind
theorem aY.mapped(a:aY h E)(b:s∈h.K):0<=s.Q/\s.Q<(tbl h).M.length/\(nth (tbl h).M s.Q.toNat).e≠0:=by
 have c:=(aJ (a.L.sok s b)).1;have d:=a.pg.bnd _ (fw (la:=h.H) b);refine⟨c,d,(a.pg.own s.Q.toNat ω).2 ?_⟩
 grind [fw]
theorem JI.keep(g:JI h)(j:aY h' E)(k:JK h h'):JI h':=by
 have d:h.q=true->∃a∈h'.K,∃b∈h'.K,a.Q=h.a.X.a4/\b.Q=h.a.X.a5/\meshable a b=true:=λc=>by grind [JI.sp,JK.sp,kx,gq]
 refine⟨λc=>?_,λc=>?_,λc=>?_,λc=>?_⟩
 ·rw[k.msh]at c;rw[k.job];exact g.ph c
 ·grind [JK.msh,JK.job]
 ·rw[k.msh]at c
  obtain⟨a,l,b,n,o,p,i⟩:=d c;obtain⟨e,q,f⟩:=j.mapped l;rw[k.job];rw[o]at e f;exact(g.sk c).keep e f k
 rw[k.msh]at c;obtain⟨a,l,b,n,o,p,i⟩:=d c;obtain⟨e,q,f⟩:=j.mapped n;rw[k.job];rw[p]at e f;exact(g.sm c).keep e f k
theorem JK.less(h1:h'.a=h.a)(h2:h'.q=h.q)(a:h'.K=h.K)(b:∀q:Nat,(nth (tbl h').M q).e≠0->nth (tbl h').M q=nth (tbl h).M q):JK h h':=
 ⟨h1,h2,ψ,ψ⟩
theorem JK.eq(h1:h'.a=h.a)(h2:h'.q=h.q)(a:h'.K=h.K)(b:tbl h'=tbl h):JK h h':=.less h1 h2 a ψ
def JK.clrS{h:ac}{E:List Int}{a:Int}{i:Nat}(f:aY h E)(c:i<h.K.length)(d:fA (nth h.K i) a):JK h (clrS h i a):=by
 refine⟨rfl,rfl,λs g _=>?_,λq k=>.inl ⟨k,rfl⟩⟩;obtain⟨j,l,rfl⟩:=aW g;by_cases e:j=i
 ·subst e
  have b:=f.L.sok _ (ax c);exact⟨_,lh _ c,rfl,λu n=>Gp b (sW b ⟨d.1,d.2.1⟩) n⟩
 exact⟨_,me _ l e,rfl,λ_ z=>z⟩
theorem JK.giveP{h:ac}{E:List Int}{i:Nat}(a:aY h E)(b:i<h.K.length)(c:gq h (nth h.K i).Q=false):JK h (giveP h i):=by
 obtain⟨d,e,-⟩:=a.mapped (ax b);refine⟨rfl,rfl,λs f g=>?_,λq k=>.inl ?_⟩
 ·obtain⟨j,l,rfl⟩:=aW f
  exact⟨_,dZ.2 ψ,rfl,λ_ z=>z⟩
 have n:=uD a.ker (p:=(nth h.K i).Q) ⟨d,e⟩ q;change (nth (dm h.G (nth h.K i).Q).F.O.M q).e≠0 at k;show(nth h.G.F.O.M q).e≠0/\(nth (dm h.G (nth h.K i).Q).F.O.M q).j=(nth h.G.F.O.M q).j
 grind
def JK.freeS{h:ac}{E:List Int}{a:Int}{i:Nat}(c:aY h (a::E))(b:i<h.K.length)(d:fA (nth h.K i) a):JK h (freeS h i a):=by
 have g:=c.give b d;have f:=JK.clrS c b d;unfold Ab.freeS;split
 ·rename_i e
  have j:nth (Ab.clrS h i a).K i=mK (nth h.K i) (d9 (nth h.K i) a):=by unfold Ab.clrS;simp only[bW,true_and];rw[CL b]
  exact f.trans (JK.giveP (h:=Ab.clrS h i a) g (by unfold Ab.clrS;simp only[C3];exact b) (by rw[j];exact e.2))
 exact f
theorem JK.freeA{h:ac}{E:List Int}{a:Int}(b:aY h (a::E)):JK h (freeA h a):=by
 obtain⟨c,d,-⟩:=b.at (b.hin a ψ);exact JK.freeS b c d
def JK.recyc{h:ac}{E:List Int}{a:Int}{t:Nat}(b:aY h (a::E)):JK h (recyc t h a):=by
 unfold Ab.recyc;split
 ·exact JK.eq rfl rfl rfl rfl
 exact JK.freeA b
theorem JK.recycs{t:Nat}{E:List Int} : ∀{az:List Int}{h:ac},aY h (az++E)->t<h.R.length->JK h (recycs t h az)
 | [],h,_,_=>JK.refl h
 | a::az,h,b,c=>(JK.recyc (t:=t) b).trans (JK.recycs (az:=az) (h:=Ab.recyc t h a) (b.recyc c) (by grind [q7]))
def JK.freeAs{E:List Int} : ∀{az:List Int}{h:ac},aY h (az++E)->JK h (freeAs h az)
 | [],h,_=>JK.refl h
 | a::az,h,b=>(JK.freeA b).trans (JK.freeAs (az:=az) (h:=Ab.freeA h a) b.freeA)
theorem JK.flushN{t:Nat}{h:ac}(c:aY h [])(d:t<h.R.length):∀{k:Nat},k<=4->JK h (flushN t h k).1
 | 0,_=>JK.refl h
 | k+1,e=>by
  obtain⟨h1,f,-⟩:=jT c d (k:=k) ω;have a:t<(Ab.flushN t h k).1.R.length:=ω
  have b:k<(nth (Ab.flushN t h k).1.R t).Y.length:=by grind [eX,aY.cach,ax]
  exact JK.trans (h1:=Ab.spilt (Ab.flushN t h k).1 t k) ((JK.flushN c d (k:=k) ω).trans (JK.eq rfl rfl rfl rfl)) (JK.freeAs (h1.spilt a b))
def xT(a:aY h E){k:Nat}(b:k<h.H.length):0<=(nth h.H k).Q/\(nth h.H k).Q+((nth h.H k).a1.toNat:Nat)<=(tbl h).M.length:=by
 have c:=aR (a.L.lok _ (ax b));have d:=a.pg.bnd _ (i7 (sp:=h.K) (ax b) (eM.2 ⟨(nth h.H k).a1.toNat - 1,ω,rfl⟩));omega
theorem JK.freeL{h:ac}{E:List Int}{i k:Nat}(a:aY h E)(b:k<h.H.length):JK h (freeL h i k):=by
 obtain⟨c,d⟩:=xT a b;refine JK.less rfl rfl rfl λq e=>?_
 have f:=qa a.ker c (nth h.H k).a1.toNat d q;change (nth (unmN h.G (nth h.H k).Q (nth h.H k).a1.toNat).F.O.M q).e≠0 at e;show nth (unmN h.G (nth h.H k).Q (nth h.H k).a1.toNat).F.O.M q=nth h.G.F.O.M q
 grind
theorem JK.freeOb{h:ac}{t i:Nat}(b:aY h [])(c:i<h.J.length)(d:t<h.R.length):JK h (freeOb h t i).1:=by
 unfold Ab.freeOb;split
 ·rename_i a
  obtain⟨l,e,h1,-⟩:=(dJ b (ax c)).1 a
  grind [JK.freeL,qr]
 rename_i a;split
 ·exact JK.refl h
 have h1:=b.inQuar c a;exact JK.trans (h1:=Ab.inQuar h i) (JK.eq rfl rfl rfl rfl) (JK.recycs (E:=[]) ψ d)
theorem JK.take{k sd:Int}(a:gq h (nth h.K i).Q=false):JK h {h with c0:=sd,K:=h.K.set i (tL (nth h.K i) k)}:=by
 refine⟨rfl,rfl,λs d b=>?_,λq c=>.inl ⟨c,rfl⟩⟩
 grind [aW,me]
theorem xb{q:Nat}(h:(nth t.M q).e≠0):q<t.M.length:=by
 by_cases e:q<t.M.length
 ·exact e
 exfalso;apply h;unfold nth;rw[O4,I4 ω]
 rfl
theorem JK.addS{h:ac}{k:ah}{b:List aG}{p c:Int}(s:vk h.G p (k,true)):JK h (addS h k b p c):=by
 obtain⟨f,g,i,j,l⟩:=s.yes rfl;have a:k.F.O.M.length=h.G.F.O.M.length:=s.len;refine⟨rfl,rfl,λz d _=>⟨z,dy.2 (.inr d),rfl,λ_ y=>y⟩,λq e=>?_⟩;change (nth k.F.O.M q).e≠0 at e;show((nth h.G.F.O.M q).e≠0/\(nth k.F.O.M q).j=(nth h.G.F.O.M q).j)\/∀u:Nat,(nth k.F.O.M u).e≠0->(nth k.F.O.M u).j=(nth k.F.O.M q).j->u=q
 grind [xb]
theorem JK.addL{h:ac}{k:ah}{d:List aG}{p size t:Int}{n:Nat}(s:gI h.G p n (k,n)):JK h (addL h k d p n size t):=by
 have a:k.F.O.M.length=h.G.F.O.M.length:=s.len;refine⟨rfl,rfl,λz f _=>⟨z,f,rfl,λ_ y=>y⟩,λq g=>?_⟩;change (nth k.F.O.M q).e≠0 at g;show((nth h.G.F.O.M q).e≠0/\(nth k.F.O.M q).j=(nth h.G.F.O.M q).j)\/∀u:Nat,(nth k.F.O.M u).e≠0->(nth k.F.O.M u).j=(nth k.F.O.M q).j->u=q
 by_cases e:p<=q/\(q:Int)<p+n
 ·exact .inr λu c b=>(s.new q e.1 e.2).2 u (by rw[<-a];exact xb c) c b
 have i:=s.out q e
 grind
theorem x8(h:ac):∀{n:Nat},n<=h.K.length->∀s∈kW h n,(aX h s.Q).length=1
 | 0,_,s,a=>by cases a
 | n+1,b,s,a=>by
  unfold kW at a;split at a
  ·rename_i e
   rcases z5.1 a with a|a
   ·exact x8 h ω s a
   grind [ug]
  exact x8 h ω s a
theorem aY.sole(b:aY h E)(c:s∈h.K)(h1:(aX h s.Q).length=1):pX (tbl h) s.Q:=λq a d=>by
 obtain⟨g,i,e⟩:=b.mapped c;have f:s.Q=((s.Q.toNat:Nat):Int):=ω
 rw[f,gg (by show s.Q.toNat<(tbl h).M.length;omega) e]at h1;obtain⟨z,j⟩:=List.length_eq_one_iff.1 h1;have k:(s.Q.toNat:Int)∈pagesOn (tbl h) (nth (tbl h).M s.Q.toNat).j:=fo.2 ω;have l:(q:Int)∈pagesOn (tbl h) (nth (tbl h).M s.Q.toNat).j:=fo.2 ⟨xb a,a,d⟩
 grind
def Nz(hi:aY h [])(l:h.q=false):aY (started h).1 []/\JI (started h).1:=by
 have F:=hi.nums;unfold cI at F;rw[C0]at F;have L:=(mi (bt h).length (show 0<=h.c0/\h.c0<=1073741823 by omega) ((bt h).length - 1)).2;have n:=ou (bt h) (show 0<=h.c0/\h.c0<=1073741823 by omega);have c:cI {h with c0:=(shuf (bt h).length h.c0).2} = true:=by
  unfold cI;rw[C0];unfold shuf;simp only;omega
 cases o:kX (bt h) h.c0 with
 | nil=>
  have f:Ab.started h=({h with c0:=(shuf (bt h).length h.c0).2},false):=by unfold Ab.started;rw[o]
  rw[f];exact⟨{hi with nums:=c},⟨λe=>by simp[l]at e,λe=>by simp[l]at e,λe=>by simp[l]at e,λe=>by simp[l]at e⟩⟩
 | cons q Q=>
  obtain⟨R,S,g⟩:=n q (by rw[o];exact O3 ..);have f:Ab.started h=({h with c0:=(shuf (bt h).length h.c0).2,q:=true,a:=vP (dK (nth (bt h) q.A.toNat) (nth (bt h) q.B.toNat))},true):=by unfold Ab.started;rw[o]
  rw[f];have d:∀s∈bt h,s∈h.K/\pX (tbl h) s.Q:=λs M=>by
   have G:=List.mem_of_mem_take M;have H:=pZ h (C5 _) s G;exact⟨H,hi.sole H (x8 h (C5 _) s G)⟩
  have j:=d _ (ax (xs:=bt h) (i:=q.A.toNat) ω);have k:=d _ (ax (xs:=bt h) (i:=q.B.toNat) ω);generalize nth (bt h) q.A.toNat=a at g j |-;generalize nth (bt h) q.B.toNat=b at g k |-;obtain⟨N,T,U⟩:=tE g;have p:(dK a b).a4=a.Q/\(dK a b).a5=b.Q\/(dK a b).a4=b.Q/\(dK a b).a5=a.Q:=by
   unfold dK;split
   ·exact .inr ⟨rfl,rfl⟩
   exact .inl ⟨rfl,rfl⟩
  have r:lB (vP (dK a b))=true:=dX.2 ⟨N,by show(0:Int)<=0;omega,by show(0:Int)<=5;omega,by show(0:Int)<=0;omega,by show(0:Int)<=(((dK a b).T.length:Nat):Int);omega⟩;have t:∃x∈h.K,∃y∈h.K,x.Q=(dK a b).a4/\y.Q=(dK a b).a5/\meshable x y=true/\pX (tbl h) x.Q/\pX (tbl h) y.Q:=by
   rcases p with⟨u,w⟩|⟨u,w⟩
   ·exact⟨a,j.1,b,k.1,u.symm,w.symm,g,j.2,k.2⟩
   exact⟨b,k.1,a,j.1,u.symm,w.symm,by rw[kx];exact g,k.2,j.2⟩
  obtain⟨x,J,y,K,C,D,E,O,P⟩:=t;exact⟨{hi with nums:=c,job:=λ_=>⟨r,⟨x,J,C⟩,⟨y,K,D⟩⟩,noj:=λe=>by cases e},⟨λ_=>⟨by show(0:Int)<=0;omega,by show(0:Int)<=3;omega⟩,λ_=>⟨x,J,y,K,C,D,E⟩,λ_=>by show pX (tbl h) (dK a b).a4;rw[<-C];exact O,λ_=>by show pX (tbl h) (dK a b).a5;rw[<-D];exact P⟩⟩
end Go.Proofs.YtiopgblagimpmaaGreat.Ab
