/- The library's Sort of numbers, on data of the call's own. No condition. -/
import Derived.Test.YtiopgblagimpmaaGreatKic
import Derived.Test.YtiopgblagimpmaaGreatKid
import Derived.Test.YtiopgblagimpmaaGreatKiShelf
import Derived.WalkKit
import Derived.Lib.SliceRun
set_option linter.unusedVariables false
set_option linter.defProp false
set_option linter.unusedSimpArgs false
set_option linter.constructorNameAsVariable false
namespace Go.Proofs.YtiopgblagimpmaaGreat.Ab
open Go.RowKit
set_option maxRecDepth 20000
set_option maxHeartbeats 4000000
def sorted(xs:List Int):List Int:=xs.mergeSort λx y=>decide (x<=y)
theorem yc(xs:List Int):(sorted xs).length=xs.length:=List.length_mergeSort ..
variable{n:Nat}
theorem GC{w a:World}{g:Nat}{d:Array Int}{h:Array Obj}{c:Array Value}{e:TypeId}{i:Nat × Nat}(j:w.heap[g]? = some (.cells c e i))(k:a=Sort.grow (Sort.putRow (Value.int .i64) (Sort.ahead w n) g 0 d) h) :
  a.os=w.os/\a.tape=w.tape/\a.output=w.output/\w.heap.size<=a.heap.size/\(∀b,b<w.heap.size->b≠g->a.heap[b]? = w.heap[b]?)/\a.heap[g]? = some (.cells (Sort.putCells (Value.int .i64) 0 d c) e i):=by
 subst k;have f:g<w.heap.size:=ψ
 have l:∀b,b<w.heap.size->(Sort.grow (Sort.putRow (Value.int .i64) (Sort.ahead w n) g 0 d) h).heap[b]? = if g=b then(w.heap[b]?).map (Sort.onCells (Sort.putCells (Value.int .i64) 0 d)) else w.heap[b]?:=λb o=>by grind [Go.Sort.heap_grow_old,Go.Sort.putRow,Go.Sort.mapBlock,Go.Sort.ahead]
 refine⟨rfl,rfl,rfl,?_,λb o p=>?_,?_⟩
 ·grind
 ·grind
 rw[l g f,CC rfl,j];rfl
theorem Qi(d:Array Int)(c:Array Value)(q:Nat):(Sort.putCells (Value.int .i64) 0 d c)[q]? = if q<d.size then(c[q]?).map (λ_=>.int .i64 d[q]!) else c[q]?:=by grind [Go.Sort.putCells]
theorem row1{w:World}{S Y:ah}{c:C}{v:Value}(h:dG w S Y c v):cL w S Y [c] (λ_=>v):=by
 refine⟨λ_=>Y,λj a b=>?_,λ_ _ _ _ h=>h,ψ⟩
 all_goals grind
def Ui(Y:ah):Nat->ah
 | 0=>Y
 | _+1=>NO
variable{j:Nat}
theorem N9(xs:List Int)(a:j<xs.length):xs.toArray[j]! = xs[j]:=ψ
theorem Q0(xs:List Int)(hl:xs.length<=1048576*64):zzB 383 false [.mut none (aH .own xs)] [.mut none (aH .own (sorted xs))] (.tup []) []:=by
 refine⟨⟨_,Tryz.func383,by kernel_rfl,by kernel_rfl⟩,λw S V vs hS hV hVV N=>?_⟩
 match vs,N with
 | [v],⟨N,_⟩=>
  have t:=b9.rep1 (show b9 w S (V 0) none [C.s .own (xs.map (rI .own))] v from N);generalize F:C.s .own (xs.map (rI .own))=cc at t;cases t with
  | nil _ o a ho=>
   cases hcc0:xs with
   | cons x xs'=>grind
   | nil=>
    refine(Tryz.slices_Sort_int_none a 0 w).mono λe p ⟨O,B⟩=>?_
    subst B;refine⟨.tuple #[],O,Ca _ _,NO,λ_=>NO,NO,λ_ _ h=>h.elim,λ_ _ _ h=>h.elim,λ_ _ h=>h.elim,λ_ _ _ _ _ h=>h.elim,λ_ _ _ h=>h.elim,λ_ _ h=>h.elim,λ_ _ _ h=>h.elim,⟨#[],rfl,trivial,rfl⟩,cL.nil _ _ _ _,⟨⟨rfl,λ_=>.slice a 0 0,rfl,row1 (by rw[show sorted []=[] from List.mergeSort_nil ..];exact .nil _ .own _ trivial)⟩,trivial⟩⟩
  | own _ o g k n D rows u f ho hn hk G H hF hu hf hd hc=>
   cases F;have P:n=xs.length:=ψ
   have Q:0<xs.length:=ω
   have R:k=1:=by
    have:=hk (rI .own xs[0]) ψ;exact this.symm
   subst R P;have y:∀j (l:j<xs.length),cel w g j=some (.int .i64 xs[j]):=λj l=>by
    have h1:=hu j ω;have T:=hc j 0 (rI .own xs[j]) (I xs[j]) ψ rfl;rw[Nat.mul_one,Nat.add_zero]at T;rw[h1];generalize u j=z at T;cases T
    rfl
   have U:g<w.heap.size:=ψ
   obtain⟨c,e0,fr,hg,-⟩:=Sort.cells_of_cell? (y 0 Q);have hH:Sort.Holds (Value.int .i64) w g 0 xs.toArray:=λj l=>by
    have J:j<xs.length:=by simpa using l
    refine⟨?_,?_⟩
    ·rw[N9 xs J,Z6];exact y j J
    rw[Z6];exact X0 Prod.fst (hF j ω).2.2
   refine(Tryz.slices_Sort_int g 0 D xs w hH U ω).mono λe p ⟨O,m,os,B⟩=>?_
   obtain⟨q1,q2,q3,q4,q5,q6⟩:=GC hg B;have hsl:=yc xs;have hcel:∀q,cel w g q=c[q]?:=λq=>by grind [Go.World.cell?]
   have W:∀q,cel p g q=if q<xs.length then(c[q]?).map (λ_=>.int .i64 (sorted xs).toArray[q]!) else c[q]?:=λq=>by grind [Qi,Go.World.cell?,sorted]
   have d:∀q (X:q<xs.length),cel p g q=some (.int .i64 ((sorted xs)[q]'(ω))):=ψ
   have K:∀q,fro p g q=fro w g q:=λq=>by
    refine Prod.ext ?_ ?_
    ·grind [Go.World.frozen?]
    grind [mp,Go.Sort.putCells]
   have hother:∀b,b<w.heap.size->b≠g->∀o,cel p b o=cel w b o/\fro p b o=fro w b o:=λb hb L o=>by grind [Go.World.cell?,Go.World.frozen?,mp]
   have E:bx (λb o=>∃i,V i b o) w p:=by
    refine⟨q1,q2,q3,q4,ψ,λb o hb hn=>?_,λb o hb hn=>?_⟩
    all_goals grind
   refine⟨.tuple #[],O,E,NO,Ui (V 0),NO,λ_ _ h=>h.elim,λi b o h=>?_,λ_ _ h=>h.elim,λi i' L b o h h'=>?_,λ_ _ _ h=>h.elim,λ_ _ h=>h.elim,λ_ _ _ _ h=>h.elim,⟨#[],rfl,trivial,rfl⟩,cL.nil _ _ _ _,⟨⟨rfl,λ_=>.slice (some ⟨g,0,none⟩) xs.length D,rfl,row1 ?_⟩,trivial⟩⟩
   ·cases i with
    | zero=>exact .inl ⟨0,h⟩
    | succ i=>exact h.elim
   ·cases i with
    | zero=>
     cases i' with
     | zero=>exact L rfl
     | succ i'=>exact h'.elim
    | succ i=>exact h.elim
   show dG p _ (V 0) _ _;refine .own _ .own g 1 xs.length D _ (λq=>(cel p g q).getD undef) (λ_=>NO) trivial ψ (λr hr=>by obtain⟨z,-,rfl⟩:=O4.1 hr;rfl) G H (λq X=>?_) (λq X=>?_) (λ_ _ _ _ h=>h.elim) (λ_ _ _ _ _ _ _ h=>h.elim) (λi j r c2 M l=>?_)
   ·obtain⟨a1,⟨z,a2,a3⟩,a4⟩:=hF q X
    refine⟨a1,?_,(K q).trans a4⟩;by_cases Y:q<xs.length
    ·exact⟨_,d q Y,rfl⟩
    grind
   ·grind
   rw[O3]at M;have Z:i<(sorted xs).length:=ψ
   rw[O2 Z]at M;simp only[I5,Z0]at M;subst M
   match j,l with
   | 0,l=>
    simp only[rI,List.getElem?_cons_zero,Z0]at l;subst l;simp only[Nat.mul_one,Nat.add_zero,d i ω,Option.getD_some];exact .v _ _ rfl
   | j+1,l=>simp[rI]at l
  | _=>cases F
set_option maxHeartbeats 8000000
def jH(s:aA)(k:Nat):Int:=16*s.Q+(k:Nat)*csz s.d
def eD(s:aA)(n:Nat):List Int:=((List.range n).filter λk=>aZ s.a9 (k:Nat)).map (jH s)
variable{s:aA}
theorem Dh(h:aZ s.a9 (n:Nat)=true):eD s (n+1)=eD s n++[jH s n]:=by grind [List.range_succ,eD]
theorem EK(h:aZ s.a9 (n:Nat)=false):eD s (n+1)=eD s n:=by grind [List.range_succ,eD]
theorem tg(s:aA)(n:Nat):(eD s n).length<=n:=by grind [eD]
def fF(sp:List aA):List Int:=sp.flatMap λs=>eD s (slots s.d).toNat
def live0(sp:List aA)(la:List aD):List Int:=fF sp++la.map λl=>16*l.Q
def oz(sp:List aA)(la:List aD):List Int:=sorted (live0 sp la)
theorem sL(k:Int):0<=slots k/\slots k<=16:=by grind [slots]
def zT{k:Int}(h:0<=k/\k<=3):slots k*csz k=16:=by
 obtain rfl|rfl|rfl|rfl:k=0\/k=1\/k=2\/k=3:=ω
 all_goals decide
variable{i:Nat}{sp:List aA}
theorem yx(h:sp[i]? = some s):fF (sp.take (i+1))=fF (sp.take i)++eD s (slots s.d).toNat:=by grind [V5,fF]
def qJ(s:aA)(k:Nat)(a:bh s=true)(i:(k:Int)<slots s.d):zzA 339 false [.val (some 3) (aA.enc .V s),.val none [I (k:Nat)]] .one [I (jH s k)]:=by
 have b:=jN s;have c:=f9 s.d;have g:=fV s.d;rw[a]at b;have d:=aI a;have j:=sL s.d;rcases bZ ⟨d.2.2.1,d.2.2.2⟩ with e|e|e|e<;>rw[e]at c
 all_goals
  refine fO 26 [(3,9,[17,18,19,20,21,22,23,24,25])] Tryz.func339 rfl ?_
  repeat'(first|refine gE ?_|(conv=>whnf);first|with_reducible refine Bf.D (λh=>?_) (λh=>?_)|refine C8 b ?_|refine C8 c ?_|refine C8 g ?_|refine C8 (aO _ 0 _) ?_)
  all_goals exact X0 (λz=>[I z]) (by unfold jH;rw[e];omega)
theorem w5(sp:List aA)(la:List aD)(c:d9 sp)(d:dM la)(a:bq sp la=true):zzA 238 false [.val none (cA .V sp),.val none (cy .V la)] .one (aH .own (oz sp la)):=by
 have D:=c.1;have E:=d.1;have B:=q8 sp la c d;rw[a]at B;obtain⟨o,F,-⟩:=ee a;refine fP 56 [(383,[1])] [] Tryz.func238 rfl ?_ (.inr (bP _))
 repeat'(first|refine gP ?_|(conv=>whnf);first|refine C8 B ?_)
 (conv=>whnf)
 refine CJ (ι:=Nat × List Int) (λi=>[(1,.H .one (cy .V la)),(5,.H .one (aH .own i.2)),(16,.H .one (cA .V sp)),(17,.H .one [I (sp.length)]),(18,.H .one [I ((i.1:Nat):Int)])]) (λi=>i.1<=sp.length/\i.2=fF (sp.take i.1)/\i.2.length<=16*i.1) (λi=>sp.length - i.1) ((0,[])) ?_ (⟨W0 _,rfl,W0 _⟩) λi e=>?_
 ·exact wB
 obtain⟨i,S⟩:=i;obtain⟨e,p,G⟩:=e;simp only at e p G |-;by_cases j:i<sp.length
 ·have n:=au j
  have g:bh (nth sp i)=true:=QN o j;have H:=sL (nth sp i).d;have q:=fN g
  repeat'(first|refine gE ?_|(conv=>whnf);first|with_reducible refine CD (aa n) ?_)
  (conv=>whnf)
  refine CJ (ι:=Nat × List Int) (λk=>[(1,.H .one (cy .V la)),(5,.H .one (aH .own k.2)),(7,.H .box (aA.enc .V (nth sp i))),(8,.H .one [I ((k.1:Nat):Int)]),(16,.H .one (cA .V sp)),(17,.H .one [I (sp.length)]),(18,.H .one [I ((i:Nat):Int)])]) (λk=>k.1<=(slots (nth sp i).d).toNat/\k.2=S++eD (nth sp i) k.1) (λk=>(slots (nth sp i).d).toNat - k.1) ((0,S)) ?_ (⟨W0 _,by simp[eD]⟩) λk t=>?_
  ·exact wB
  obtain⟨k,S2⟩:=k;obtain⟨t,b⟩:=t;simp only at t b |-;have J:=tg (nth sp i) k;have h:S2.length=S.length+(eD (nth sp i) k).length:=ψ
  by_cases M:k<(slots (nth sp i).d).toNat
  ·have u:=nC (nth sp i).a9 (k:Nat) q.2
   cases K:aZ (nth sp i).a9 (k:Nat)<;>rw[K]at u
   ·repeat'(first|refine gE ?_|(conv=>whnf);first|refine C8 (fV _) ?_|refine C8 u ?_)
    ((conv=>whnf);refine CE (k+1,S2) ⟨(by simp only;omega),(by grind [EK])⟩ (by simp only;omega) ?_;(exact wB))
   repeat'(first|refine gE ?_|(conv=>whnf);first|refine C8 (fV _) ?_|refine C8 u ?_|refine C8 (qJ (nth sp i) k g ω) ?_|refine CU cI (λr w=>by rw[O1.1 w];rfl) (by simp[bi,eg]) (by simp;omega) (by show _*8<=_;simp;omega) rfl ?_)
   ((conv=>whnf)
    refine CE (k+1,S2++[jH (nth sp i) k]) ⟨(by simp only;omega),(by grind [Dh])⟩ (by simp only;omega) ?_
    (repeat'(first|exact trivial|rfl|exact CL rfl (CL (X0 (C.s dQ.own) (by simp[rI])) trivial)|refine CL ?_ ?_)))
  obtain rfl:k=(slots (nth sp i).d).toNat:=ω
  repeat'(first|refine gE ?_|(conv=>whnf);first|refine C8 (fV _) ?_)
  ((conv=>whnf);refine CE (i+1,S2) ⟨(by simp only;omega),(by grind [yx]),(by simp only;omega)⟩ (by simp only;omega) ?_;(exact wB))
 obtain rfl:i=sp.length:=ω
 rw[C5]at p
 repeat'(first|refine gE ?_|fail)
 (conv=>whnf)
 refine CJ (ι:=Nat × List Int) (λi=>[(5,.H .one (aH .own i.2)),(40,.H .one (cy .V la)),(41,.H .one [I (la.length)]),(42,.H .one [I ((i.1:Nat):Int)])]) (λi=>i.1<=la.length/\i.2=S++(la.take i.1).map (λl=>16*l.Q)) (λi=>la.length - i.1) ((0,S)) ?_ ψ λi e=>?_
 ·exact wB
 obtain⟨i,S2⟩:=i;obtain⟨y,b⟩:=e;simp only at y b |-;have h:S2.length=S.length+i:=ψ
 by_cases j:i<la.length
 ·have n:=au j
  have L:=u9 a n
  repeat'(first|refine gE ?_|(conv=>whnf);first|with_reducible refine CD (aa n) ?_|refine CU cI (λr w=>by rw[O1.1 w];rfl) (by simp[bi,eg]) (by simp;omega) (by show _*8<=_;simp;omega) rfl ?_)
  ((conv=>whnf)
   refine CE (i+1,S2++[16*(nth la i).Q]) ⟨(by simp only;omega),(by grind [V5])⟩ (by simp only;omega) ?_
   (repeat'(first|exact trivial|rfl|exact CL rfl (CL (X0 (C.s dQ.own) (by simp[rI];omega)) trivial)|refine CL ?_ ?_)))
 obtain rfl:i=la.length:=ω
 rw[C5]at b
 repeat'(first|refine gE ?_|(conv=>whnf);first|refine CK (Q0 S2 ω) (.inl rfl) ?_)
 show _=aH .own (sorted (fF sp++la.map λl=>16*l.Q));rw[<-p,<-b];rfl
def q7(b:List (Int × Value))(L:List Int):Prop:=∀a,mlook b a (.int .i64 0)=.int .i64 (L.count a:Nat)
theorem Kn(c:List (Int × Value))(a b:Int)(v d:Value):mlook (mput c a v) b d=if a=b then v else mlook c b d:=by
 induction c with
 | nil=>grind [mput,mlook]
 | cons p c e=>
  grind [mput,mlook]
def inc(b:List (Int × Value))(L:List Int)(a:Int):List (Int × Value):=mput b a (.int .i64 ((L.count a:Nat)+1))
def Lo:q7 [] []:=λ_=>rfl
theorem qk{d:List (Int × Value)}{L:List Int}(h:q7 d L)(a:Int):q7 (inc d L a) (L++[a]):=λb=>by
 unfold inc;rw[Kn,C6];by_cases c:a=b
 ·grind
 rw[C9 c,h b,List.count_singleton,C9 (by simpa using c)];rfl
theorem Bz(h:ac)(d:d9 h.J)(e:dM h.M)(b:List (Int × Value))(L:List Int)(a c:Int)(g:q7 b L)(n:L.length<=1000000000) :
  zzB 236 false [.val none [I a],.val none [I c],.ptr [.m b],.ptr (ac.enc .V h)] [.val none [I a],.val none [I c],.ptr [.m (inc b L a)],.ptr (ac.enc .V h)] .one [B (du h a c)]:=by
 have k:=th h.J h.M a d e;obtain⟨i,-⟩:=nu h.J h.M a;have l:L.count a<=L.length:=List.count_le_length;unfold du;generalize denotes h.J h.M a=w at k i |-;refine fM 41 [] [] [(0,0),(0,0),(0,0),(0,0)] Tryz.func236 rfl (λu q=>?_)
 repeat'(first|refine gP ?_|(conv=>whnf);first|with_reducible (first|refine Bf.D (λj=>?_) (λj=>?_)|refine Bf.E (λj=>?_) (λj=>?_))|refine Ml.mk (g a) ?_|refine Mu.mk (es':=inc b L a) rfl ?_|refine C8 k ?_|refine CN (i (by assumption)).1 (aa (au (i (by assumption)).2)) ?_)
 all_goals
  refine CG rfl ?_ ?_
  ·exact X0 (λz=>[B z]) (ψ)
  exact wB
set_option maxHeartbeats 8000000
def rR(h:ac)(a:aT):Bool:=hB h a&&decide (a.b7<=h.b1)
def mI(h:ac):List Int:=((cC h++h.a7.a6.map (·.Addr))++aQ h.w)++h.O.map (·.Addr)
def jJ(h:ac):Bool:=((h.S.all (eU h)&&h.a7.a6.all (rR h))&&(aQ h.w).all (kD h))&&(oz h.J h.M).all λa=>decide ((mI h).count a=1)
variable{h:ac}
theorem PT(h1:h.S.all (eU h)=false):jJ h=false:=by grind [jJ]
theorem HZ(h1:h.a7.a6.all (rR h)=false):jJ h=false:=by grind [jJ]
theorem P7(h1:(aQ h.w).all (kD h)=false):jJ h=false:=by grind [jJ]
theorem Qm(h1:((oz h.J h.M).all λa=>decide ((mI h).count a=1))=false):jJ h=false:=by grind [jJ]
variable{la:List aD}
theorem LI(h1:sp.length<=1048576)(a:la.length<=1048576):(oz sp la).length<=100000000:=by
 have b:∀(l:List aA),(fF l).length<=16*l.length:=by
  intro l
  induction l with
  | nil=>exact W0 _
  | cons s l c=>
   have e:fF (s::l)=eD s (slots s.d).toNat++fF l:=by grind [fF]
   have d:=sL s.d
   grind [tg]
 grind [yc,oz,live0]
theorem xH(h:ac)(hs:ac.sml h)(P:bq h.J h.M=true)(G:bQ h.w=true)(Z:∀c∈h.S,b6 c=true):zzA 82 false [.val (some 24) (ac.enc .V h)] .one [B (jJ h)]:=by
 obtain⟨-,-,p,r,hso,hsc,hsm,hsq,-⟩:=hs;have hlo:h.O.length<=1048576:=hso.1;have hlc:h.S.length<=1048576:=hsc.1;have hlq:h.a7.a6.length<=1048576:=hsq.1;have hfl:=ss G;have t:jJ h=false->[B false]=[B (jJ h)]:=λe=>by rw[e]
 refine fP 114 [(236,[0,0,2,2])] [] Tryz.func82 rfl ?_
 repeat'(first|refine gP ?_|fail)
 (conv=>whnf)
 refine CJ (ι:=Nat × List (Int × Value) × List Int) (λi=>[(1,.H .box (ac.enc .V h)),(3,.H .box [.m i.2.1]),(4,.fn 236 [3,1]),(22,.H .one (pH .V h.S)),(23,.H .one [I (h.S.length)]),(24,.H .one [I ((i.1:Nat):Int)])]) (λi=>i.1<=h.S.length/\q7 i.2.1 i.2.2/\i.2.2=((h.S.take i.1).flatMap λc=>c.a.flatten)/\(h.S.take i.1).all (eU h)=true/\i.2.2.length<=32*i.1) (λi=>h.S.length - i.1) ((0,[],[])) ?_ (⟨W0 _,Lo,rfl,rfl,W0 _⟩) λi hi=>?_
 ·exact wB
 obtain⟨i,es,L⟩:=i;obtain⟨hi,Q,hL,ai,hb⟩:=hi;simp only at hi Q hL ai hb |-;by_cases li:i<h.S.length
 ·have W:=au li
  obtain⟨h4,h8⟩:=uO (Z _ (ar li))
  repeat'(first|refine gE ?_|(conv=>whnf);first|with_reducible refine CD (aa W) ?_)
  (conv=>whnf)
  refine CJ (ι:=Nat × List (Int × Value) × List Int) (λk=>[(1,.H .box (ac.enc .V h)),(3,.H .box [.m k.2.1]),(4,.fn 236 [3,1]),(22,.H .one (pH .V h.S)),(23,.H .one [I (h.S.length)]),(24,.H .one [I ((i:Nat):Int)]),(29,.H .one (jq .V (nth h.S i).a)),(30,.H .one [I ((nth h.S i).a.length)]),(31,.H .one [I ((k.1:Nat):Int)])]) (λk=>k.1<=(nth h.S i).a.length/\q7 k.2.1 k.2.2/\k.2.2=L++((nth h.S i).a.take k.1).flatten/\dd k.1 (tq h (nth h.S i))=true/\k.2.2.length<=L.length+8*k.1) (λk=>(nth h.S i).a.length - k.1) ((0,es,L)) ?_ (⟨W0 _,Q,by simp,rfl,by simp⟩) λk hk=>?_
  ·exact wB
  obtain⟨k,es3,X⟩:=k;obtain⟨hk,F,R,ak,hb3⟩:=hk;simp only at hk F R ak hb3 |-;by_cases lk:k<(nth h.S i).a.length
  ·have hy:=au lk
   have hl8:=h8 _ (ar lk)
   repeat'(first|refine gE ?_|(conv=>whnf);first|with_reducible (first|refine CD (aa W) ?_|refine CD (aa hy) ?_))
   (conv=>whnf)
   refine CJ (ι:=Nat × List (Int × Value) × List Int) (λj=>[(1,.H .box (ac.enc .V h)),(3,.H .box [.m j.2.1]),(4,.fn 236 [3,1]),(7,.H .one [I ((k:Nat):Int)]),(22,.H .one (pH .V h.S)),(23,.H .one [I (h.S.length)]),(24,.H .one [I ((i:Nat):Int)]),(29,.H .one (jq .V (nth h.S i).a)),(30,.H .one [I ((nth h.S i).a.length)]),(31,.H .one [I ((k:Nat):Int)]),(36,.H .one (aH .V (nth (nth h.S i).a k))),(37,.H .one [I ((nth (nth h.S i).a k).length)]),(38,.H .one [I ((j.1:Nat):Int)])]) (λj=>j.1<=(nth (nth h.S i).a k).length/\q7 j.2.1 j.2.2/\j.2.2=X++(nth (nth h.S i).a k).take j.1/\((nth (nth h.S i).a k).take j.1).all (λa=>du h a (k:Nat))=true) (λj=>(nth (nth h.S i).a k).length - j.1) ((0,es3,X)) ?_ ψ λj hj=>?_
   ·exact wB
   obtain⟨j,es4,S⟩:=j;obtain⟨hj,l,T,Y⟩:=hj;simp only at hj l T Y |-;have hl4:S.length=X.length+j:=ψ
   by_cases lj:j<(nth (nth h.S i).a k).length
   ·have d:=au lj
    have b:=Bz h p r es4 S (nth (nth (nth h.S i).a k) j) (k:Nat) l ω;cases o:du h (nth (nth (nth h.S i).a k) j) (k:Nat)<;>rw[o]at b
    ·repeat'(first|refine gE ?_|(conv=>whnf);first|with_reducible refine CD (aa d) ?_|refine CK (b) (.inl rfl) ?_)
     exact t (PT (gI W (by unfold eU;exact cz lk (gI d o))))
    repeat'(first|refine gE ?_|(conv=>whnf);first|with_reducible refine CD (aa d) ?_|refine CK (b) (.inl rfl) ?_)
    ((conv=>whnf)
     refine CE (j+1,inc es4 S (nth (nth (nth h.S i).a k) j),S++[nth (nth (nth h.S i).a k) j]) ⟨(by simp only;omega),qk l _,(by grind [V5]),cV d Y o⟩ (by simp only;omega) ?_
     (exact wA))
   obtain rfl:j=(nth (nth h.S i).a k).length:=ω
   rw[C5]at T Y
   repeat'(first|refine gE ?_|fail)
   ((conv=>whnf);refine CE (k+1,es4,S) ⟨(by simp only;omega),l,(by grind [y6]),bU ak Y,(by simp only;omega)⟩ (by simp only;omega) ?_;(exact wB))
  obtain rfl:k=(nth h.S i).a.length:=ω
  rw[C5]at R
  repeat'(first|refine gE ?_|fail)
  ((conv=>whnf);refine CE (i+1,es3,X) ⟨(by simp only;omega),F,(by grind [vn]),cV W ai ak,(by simp only;omega)⟩ (by simp only;omega) ?_;(exact wB))
 obtain rfl:i=h.S.length:=ω
 rw[C5]at hL ai
 repeat'(first|refine gE ?_|fail)
 (conv=>whnf)
 refine CJ (ι:=Nat × List (Int × Value) × List Int) (λq=>[(1,.H .box (ac.enc .V h)),(3,.H .box [.m q.2.1]),(4,.fn 236 [3,1]),(52,.H .one (cX .V h.a7.a6)),(53,.H .one [I (h.a7.a6.length)]),(54,.H .one [I ((q.1:Nat):Int)])]) (λq=>q.1<=h.a7.a6.length/\q7 q.2.1 q.2.2/\q.2.2=L++(h.a7.a6.take q.1).map (·.Addr)/\(h.a7.a6.take q.1).all (rR h)=true) (λq=>h.a7.a6.length - q.1) ((0,es,L)) ?_ ψ λq u=>?_
 ·exact wB
 obtain⟨q,es5,H⟩:=q;obtain⟨w,y,E,aq⟩:=u;simp only at w y E aq |-;have hl5:H.length=L.length+q:=ψ
 by_cases U:q<h.a7.a6.length
 ·have d:=au U
  have b:=Bz h p r es5 H (nth h.a7.a6 q).Addr (nth h.a7.a6 q).d y ω;cases o:du h (nth h.a7.a6 q).Addr (nth h.a7.a6 q).d<;>rw[o]at b
  ·repeat'(first|refine gE ?_|(conv=>whnf);first|with_reducible (first|refine CD (aa d) ?_|refine Bf.D (λu=>?_) (λu=>?_))|refine CK (b) (.inl rfl) ?_)
   all_goals exact t (HZ (gI d (by unfold rR hB;rw[o];rfl)))
  repeat'(first|refine gE ?_|(conv=>whnf);first|with_reducible (first|refine CD (aa d) ?_|refine Bf.D (λu=>?_) (λu=>?_))|refine CK (b) (.inl rfl) ?_)
  all_goals first
   |exact t (HZ (gI d (by unfold rR hB;rw[o,U0 ω];rfl)))
   | ((conv=>whnf)
      refine CE (q+1,inc es5 H (nth h.a7.a6 q).Addr,H++[(nth h.a7.a6 q).Addr]) ⟨(by simp only;omega),qk y _,(by simp only;rw[E,V5,d,X5,W5];rfl),cV d aq (by unfold rR hB;rw[o,O0 ω];rfl)⟩ (by simp only;omega) ?_
      (exact wA))
 obtain rfl:q=h.a7.a6.length:=ω
 rw[C5]at E aq
 repeat'(first|refine gE ?_|(conv=>whnf);first|refine C8 (zo h.w hsm) ?_)
 (conv=>whnf)
 refine CJ (ι:=Nat × List (Int × Value) × List Int) (λq=>[(1,.H .box (ac.enc .V h)),(3,.H .box [.m q.2.1]),(4,.fn 236 [3,1]),(75,.H .one (aH .own (aQ h.w))),(76,.H .one [I ((aQ h.w).length)]),(77,.H .one [I ((q.1:Nat):Int)])]) (λq=>q.1<=(aQ h.w).length/\q7 q.2.1 q.2.2/\q.2.2=H++(aQ h.w).take q.1/\((aQ h.w).take q.1).all (kD h)=true) (λq=>(aQ h.w).length - q.1) ((0,es5,H)) ?_ ψ λq u=>?_
 ·exact wB
 obtain⟨q,es6,J⟩:=q;obtain⟨w,C,K,aq6⟩:=u;simp only at w C K aq6 |-;have hl6:J.length=H.length+q:=ψ
 by_cases U:q<(aQ h.w).length
 ·have d:=au U
  have b:=Bz h p r es6 J (nth (aQ h.w) q) (-1) C ω;cases o:du h (nth (aQ h.w) q) (-1)<;>rw[o]at b
  ·repeat'(first|refine gE ?_|(conv=>whnf);first|with_reducible refine CD (aa d) ?_|refine CH rfl (aa d) rfl ?_|refine CK (b) (.inl rfl) ?_)
   exact t (P7 (gI d o))
  repeat'(first|refine gE ?_|(conv=>whnf);first|with_reducible refine CD (aa d) ?_|refine CH rfl (aa d) rfl ?_|refine CK (b) (.inl rfl) ?_)
  ((conv=>whnf)
   refine CE (q+1,inc es6 J (nth (aQ h.w) q),J++[nth (aQ h.w) q]) ⟨(by simp only;omega),qk C _,(by grind [V5]),cV d aq6 o⟩ (by simp only;omega) ?_
   (exact wA))
 obtain rfl:q=(aQ h.w).length:=ω
 rw[C5]at K aq6
 repeat'(first|refine gE ?_|fail)
 (conv=>whnf)
 refine CJ (ι:=Nat × List (Int × Value) × List Int) (λq=>[(1,.H .box (ac.enc .V h)),(3,.H .box [.m q.2.1]),(87,.H .one (nA .V h.O)),(88,.H .one [I (h.O.length)]),(89,.H .one [I ((q.1:Nat):Int)])]) (λq=>q.1<=h.O.length/\q7 q.2.1 q.2.2/\q.2.2=J++(h.O.take q.1).map (·.Addr)) (λq=>h.O.length - q.1) ((0,es6,J)) ?_ ψ λq u=>?_
 ·exact wB
 obtain⟨q,es7,M⟩:=q;obtain⟨w,g,O⟩:=u;simp only at w g O |-;have hl7:M.length=J.length+q:=ψ
 by_cases U:q<h.O.length
 ·have d:=au U
  have hcl:M.count (nth h.O q).Addr<=M.length:=List.count_le_length
  repeat'(first|refine gE ?_|(conv=>whnf);first|with_reducible refine CD (aa d) ?_|refine Ml.mk (g _) ?_|refine Mu.mk (es':=inc es7 M (nth h.O q).Addr) rfl ?_)
  ((conv=>whnf)
   refine CE (q+1,inc es7 M (nth h.O q).Addr,M++[(nth h.O q).Addr]) ⟨(by simp only;omega),qk g _,(by grind [V5])⟩ (by simp only;omega) ?_
   (exact wA))
 obtain rfl:q=h.O.length:=ω
 rw[C5]at O;have V:M=mI h:=by rw[O,K,E,hL];rfl
 have hlv:=LI p.1 r.1
 repeat'(first|refine gE ?_|(conv=>whnf);first|refine C8 (w5 h.J h.M p r P) ?_)
 (conv=>whnf)
 refine CJ (ι:=Nat) (λn=>[(3,.H .box [.m es7]),(103,.H .one (aH .own (oz h.J h.M))),(104,.H .one [I ((oz h.J h.M).length)]),(105,.H .one [I ((n:Nat):Int)])]) (λn=>n<=(oz h.J h.M).length/\((oz h.J h.M).take n).all (λa=>decide ((mI h).count a=1))=true) (λn=>(oz h.J h.M).length - n) (0) ?_ ψ λn hn=>?_
 ·exact wB
 obtain⟨hn,an⟩:=hn;by_cases ln:n<(oz h.J h.M).length
 ·have d:=au ln
  rw[V]at g
  repeat'(first|refine gE ?_|(conv=>whnf);first|with_reducible (first|refine CD (aa d) ?_|refine Bf.N (λu=>?_) (λu=>?_))|refine CH rfl (aa d) rfl ?_|refine Ml.mk (g _) ?_)
  all_goals first
   |exact t (Qm (gI d (U0 ω)))
   | ((conv=>whnf);refine CE (n+1) ⟨ω,cV d an (O0 ω)⟩ ω ?_;(exact wB))
 repeat'(first|refine gE ?_|fail)
 exact X0 (λz=>[B z]) ((by grind [jJ]))
set_option maxHeartbeats 8000000
def jS(h:ac):Bool:=(((((((aF h.G&&bC (eX h) h.j)&&bq h.J h.M)&&(pages0 h&&oO h))&&dL h)&&h.S.all b6)&&(gp h&&jJ h))&&cu h)&&wt h
theorem FY(h:ac)(S:ac.sml h):zzA 23 false [.val (some 24) (ac.enc .V h)] .one [B (jS h)]:=by
 have G:=S;obtain⟨n,o,b,g,H,p,q,J,r⟩:=S;have u:xF h:=n.1.2;have hpn:eX h<=1048576:=u.1;have K:h.O.length<=1048576:=H.1;have L:h.S.length<=1048576:=p.1;have hlb:h.w.U.length<=1048576:=q.1.1;have hlp:h.Y.X.T.length<=1048576:=r;have d:=qF h.G n;have e:=qD (eX h) h.j ω o;have i:=q8 h.J h.M b g;have w:=vq h.w q;have M:=FQ h.a7 J;cases T:aF h.G<;>rw[T]at d
 ·refine fO 154 [] Tryz.func23 rfl ?_
  repeat'(first|refine gP ?_|(conv=>whnf);first|with_reducible refine Bf.N (λa=>?_) (λa=>?_)|refine C8 d ?_)
  all_goals first
   | exact X0 (λz=>[B z]) ((by unfold jS ;rw[T];simp))
   |(exfalso;omega)
 cases U:bC (eX h) h.j<;>rw[U]at e
 ·refine fO 154 [] Tryz.func23 rfl ?_
  repeat'(first|refine gP ?_|(conv=>whnf);first|with_reducible refine Bf.N (λa=>?_) (λa=>?_)|refine C8 d ?_|refine C8 e ?_)
  all_goals first
   | exact X0 (λz=>[B z]) ((by unfold jS ;rw[U];simp))
   |(exfalso;omega)
 cases F:bq h.J h.M<;>rw[F]at i
 ·refine fO 154 [] Tryz.func23 rfl ?_
  repeat'(first|refine gP ?_|(conv=>whnf);first|with_reducible refine Bf.N (λa=>?_) (λa=>?_)|refine C8 d ?_|refine C8 e ?_|refine C8 i ?_)
  all_goals first
   | exact X0 (λz=>[B z]) ((by unfold jS ;rw[F];simp))
   |(exfalso;omega)
 have j:=Dv h b g u o F;cases V:(pages0 h&&oO h)<;>rw[V]at j
 ·refine fO 154 [] Tryz.func23 rfl ?_
  repeat'(first|refine gP ?_|(conv=>whnf);first|with_reducible refine Bf.N (λa=>?_) (λa=>?_)|refine C8 d ?_|refine C8 e ?_|refine C8 i ?_|refine C8 j ?_)
  all_goals first
   | exact X0 (λz=>[B z]) ((by unfold jS ;rw[V];simp))
   |(exfalso;omega)
 cases O:bQ h.w<;>rw[O]at w
 ·refine fO 154 [] Tryz.func23 rfl ?_
  repeat'(first|refine gP ?_|(conv=>whnf);first|with_reducible refine Bf.N (λa=>?_) (λa=>?_)|refine C8 d ?_|refine C8 e ?_|refine C8 i ?_|refine C8 j ?_|refine C8 w ?_)
  all_goals first
   | exact X0 (λz=>[B z]) ((by unfold jS dL;rw[O];simp))
   |(exfalso;omega)
 by_cases P:h.S.length=h.w.U.length;rotate_left
 ·refine fO 154 [] Tryz.func23 rfl ?_
  repeat'(first|refine gP ?_|(conv=>whnf);first|with_reducible refine Bf.N (λa=>?_) (λa=>?_)|refine C8 d ?_|refine C8 e ?_|refine C8 i ?_|refine C8 j ?_|refine C8 w ?_)
  all_goals first
   | exact X0 (λz=>[B z]) ((by unfold jS dL;rw[U0 P];simp))
   |(exfalso;omega)
 cases W:gk h.a7<;>rw[W]at M
 ·refine fO 154 [] Tryz.func23 rfl ?_
  repeat'(first|refine gP ?_|(conv=>whnf);first|with_reducible refine Bf.N (λa=>?_) (λa=>?_)|refine C8 d ?_|refine C8 e ?_|refine C8 i ?_|refine C8 j ?_|refine C8 w ?_|refine C8 M ?_)
  all_goals first
   | exact X0 (λz=>[B z]) ((by unfold jS dL;rw[W];simp))
   |(exfalso;omega)
 have hmc:dL h=true:=by grind [dL]
 refine fO 154 [] Tryz.func23 rfl ?_
 repeat'(first|refine gB ?_|(conv=>whnf);first|with_reducible refine Bf.N (λa=>?_) (λa=>?_)|refine C8 d ?_|refine C8 e ?_|refine C8 i ?_|refine C8 j ?_|refine C8 w ?_|refine C8 M ?_)
 all_goals try(exfalso;omega)
 (conv=>whnf)
 refine CJ (ι:=Nat) (λk=>[(1,.H .box (ac.enc .V h)),(57,.H .one (pH .V h.S)),(58,.H .one [I (h.S.length)]),(59,.H .one [I ((k:Nat):Int)])]) (λk=>k<=h.S.length/\(h.S.take k).all b6=true) (λk=>h.S.length - k) (0) ?_ ψ λk X=>?_
 ·exact wB
 obtain⟨X,Y⟩:=X;by_cases Z:k<h.S.length
 ·have Q:=au Z
  have R:=ta (nth h.S k) (p.2 _ (ar Z));cases e8:b6 (nth h.S k)<;>rw[e8]at R
  ·repeat'(first|refine gE ?_|(conv=>whnf);first|with_reducible refine CD (aa Q) ?_|refine C8 R ?_)
   exact X0 (λz=>[B z]) ((by grind [jS]))
  repeat'(first|refine gE ?_|(conv=>whnf);first|with_reducible refine CD (aa Q) ?_|refine C8 R ?_)
  ((conv=>whnf);refine CE (k+1) ⟨ω,cV Q Y e8⟩ ω ?_;(exact wB))
 have hca:h.S.all b6=true:=ns ω Y;have l:=EL h b g K L;have c10:=xH h G F O ψ;have c12:=GX h.Y r;have c13:=uL h h.Y.X.a3 b.1;have c14:=uL h h.Y.X.a1 b.1;cases e9:gp h<;>rw[e9]at l
 ·repeat'(first|refine gE ?_|(conv=>whnf);first|refine C8 l ?_)
  all_goals first
   | exact X0 (λz=>[B z]) ((by unfold jS;rw[e9];simp))
   |(exfalso;omega)
 cases e10:jJ h<;>rw[e10]at c10
 ·repeat'(first|refine gE ?_|(conv=>whnf);first|refine C8 l ?_|refine C8 c10 ?_)
  all_goals first
   | exact X0 (λz=>[B z]) ((by unfold jS;rw[e10];simp))
   |(exfalso;omega)
 by_cases hn:cu h=true;rotate_left
 ·have y:cu h=false:=by simpa using hn
  have c:=y;unfold cu at c;rw[X4]at c
  repeat'(first|refine gE ?_|(conv=>whnf);first|with_reducible refine Bf.D (λa=>?_) (λa=>?_)|refine C8 (aO _ _ _) ?_|refine C8 (pI _) ?_|refine C8 l ?_|refine C8 c10 ?_)
  all_goals first
   | exact X0 (λz=>[B z]) ((by unfold jS;rw[y];simp))
   |(exfalso;omega)
 have c:=hn;unfold cu at c;rw[C0]at c;have C:jS h=wt h:=by grind [jS]
 rw[C];unfold wt;cases em:h.u
 ·repeat'(first|refine gE ?_|(conv=>whnf);first|with_reducible (first|refine Bf.D (λa=>?_) (λa=>?_)|refine Bf.E (λa=>?_) (λa=>?_))|refine C8 (aO _ _ _) ?_|refine C8 (pI _) ?_|refine C8 l ?_|refine C8 c10 ?_|refine Bf.f em ?_)
  all_goals first
   | exact X0 (λz=>[B z]) ((by unfold sM;simp only[Bool.false_eq_true,if_false];first|(symm;exact U0 ω)|(rw[Y4,beq_iff_eq,C0];omega)))
   |(exfalso;omega)
 cases e12:jL h.Y<;>rw[e12]at c12
 all_goals
  repeat'(first|refine gE ?_|(conv=>whnf);first|with_reducible (first|refine Bf.D (λa=>?_) (λa=>?_)|refine Bf.D (λa=>?_) (λa=>?_))|refine C8 (aO _ _ _) ?_|refine C8 (pI _) ?_|refine C8 l ?_|refine C8 c10 ?_|refine C8 c12 ?_|refine C8 c13 ?_|refine C8 c14 ?_|refine Bf.t em ?_)
  all_goals first
   | exact X0 (λz=>[B z]) (ψ)
   |(exfalso;omega)
variable{α:Type}
def cM[Inhabited α]{xs:List α}{f:α->Int}(e:(xs.map f).Nodup)(b:i<xs.length)(c:j<xs.length)(h:f (nth xs i)=f (nth xs j)):i=j:=by
 have d:=List.pairwise_iff_getElem.1 e;rcases Nat.lt_trichotomy i j with a|rfl|a
 ·have:=d i j (by simpa using b) (by simpa using c) a
  simp only[List.getElem_map]at this;rw[bn (O2 b),bn (O2 c)]at h;exact absurd h this
 ·rfl
 have:=d j i (by simpa using c) (by simpa using b) a;simp only[List.getElem_map]at this;rw[bn (O2 b),bn (O2 c)]at h;omega
theorem aP[Inhabited α]{xs:List α}{x:α}(h:x∈xs):∃i,i<xs.length/\nth xs i=x:=by
 obtain⟨i,a⟩:=List.mem_iff_getElem?.1 h
 grind [bn]
theorem wW:∀{H L:List Int},H.Nodup->(∀x∈H,x∈L)->L.length<=H.length->∀x∈L,x∈H
 | [],L,_,_,b,x,c=>by grind
 | y::H,L,d,f,b,x,c=>by
  have g:y∈L:=ψ
  have a:=List.nodup_cons.1 d;by_cases e:x=y
  ·grind
  refine O5 _ (wW (L:=L.erase y) a.2 (λz h=>?_) ?_ x ψ)
  all_goals grind
theorem Le{H L:List Int}(b:L.Nodup)(c:∀x∈H,x∈L):(H.Nodup/\H.length=L.length)↔∀a∈L,H.count a=1:=by grind [wW,List.Perm.length_eq]
variable{p:Int}{l:aD}
theorem dx : p∈lpgs l n↔∃k:Nat,k<n/\p=l.Q+(k:Nat):=by grind [lpgs]
structure oH(sp:List aA)(la:List aD):Prop where
 sok:∀s∈sp,bh s=true
 lok:∀l∈la,bN l=true
 nd:(sp.map (·.Q)).Nodup
 dis:∀s∈sp,∀l∈la,∀k:Nat,k<l.a2.toNat->s.Q≠l.Q+(k:Nat)
 one:∀i j,i<la.length->j<la.length->∀k k':Nat,k<(nth la i).a2.toNat->k'<(nth la j).a2.toNat->(nth la i).Q+(k:Nat)=(nth la j).Q+(k':Nat)->i=j
theorem oH.of(h:bq sp la=true):oH sp la:=by
 obtain⟨B,C,d⟩:=ee h;unfold pgs at d;rw[List.nodup_append]at d;obtain⟨q,r,t⟩:=d;have u:=List.pairwise_flatMap.1 r;refine⟨ψ,ψ,q,λs D l w k c e=>?_,λi j f g k o c a e=>?_⟩
 ·exact t _ ψ _ (List.mem_flatMap.2 ⟨l,w,dx.2 ⟨k,c,rfl⟩⟩) e
 have p:=List.pairwise_iff_getElem.1 u.2;have y:=bn (O2 f);have A:=bn (O2 g);rw[y]at c e;rw[A]at a e;rcases Nat.lt_trichotomy i j with b|n|b
 ·exact absurd e (p i j f g b _ (dx.2 ⟨k,c,rfl⟩) _ (dx.2 ⟨o,a,rfl⟩))
 ·exact n
 exact absurd e.symm (p j i g f b _ (dx.2 ⟨o,a,rfl⟩) _ (dx.2 ⟨k,c,rfl⟩))
variable{a:Int}
theorem gF(b:bh s=true):d5 s a=true↔16*s.Q<=a/\a<=16*s.Q+15:=by grind [d5]
theorem jB(b:oH sp la)(c:i<sp.length)(h:16*(nth sp i).Q<=a/\a<=16*(nth sp i).Q+15):denotes sp la a=qp i (nth sp i) a:=by
 refine nE c ((gF (b.sok _ (ar c))).2 h) λj z l k=>?_
 cases e:d5 z a with
 | false=>rfl
 | true=>
  exfalso;have d:=(U2.1 k).1;have n:=(gF (b.sok z ψ)).1 e;have g:=bn k;subst g;have:=cM (f:=(·.Q)) b.nd c d ω;omega
theorem Rp(b:oH sp la)(h:∀i,i<sp.length->¬(16*(nth sp i).Q<=a/\a<=16*(nth sp i).Q+15)):∀(j:Nat)(z:aA),j<sp.length->sp[j]? = some z->d5 z a=false:=by grind [gF,oH.sok,bn]
theorem MI(c:oH sp la)(a:Int):a∈live0 sp la↔a∈kw sp la:=by
 have G:a∈kw sp la↔∃n:Nat,n<512/\kg sp la n=true/\(n:Int)=a:=by grind [kw,lS]
 rw[G];unfold live0 fF;rw[C3,List.mem_flatMap,O4];constructor
 ·rintro(⟨s,g,C⟩|⟨l,b,rfl⟩)
  ·obtain⟨i,d,rfl⟩:=aP g
   unfold eD at C;obtain⟨k,H,rfl⟩:=O4.1 C;obtain⟨h,J⟩:=U4.1 H;have h:=List.mem_range.1 h;have o:=aI (c.sok _ g);have t:=zT ⟨o.2.2.1,o.2.2.2⟩;have K:=sL (nth sp i).d;unfold jH;have L:0<=(k:Int)*csz (nth sp i).d/\(k:Int)*csz (nth sp i).d<=15:=by grind [bZ]
   have f:=jB c d (a:=16*(nth sp i).Q+(k:Nat)*csz (nth sp i).d) ω;have O:(16*(nth sp i).Q+(k:Nat)*csz (nth sp i).d - 16*(nth sp i).Q) / csz (nth sp i).d=(k:Nat)/\(16*(nth sp i).Q+(k:Nat)*csz (nth sp i).d - 16*(nth sp i).Q) % csz (nth sp i).d=0:=by grind [bZ]
   refine⟨(16*(nth sp i).Q+(k:Nat)*csz (nth sp i).d).toNat,ω,?_,ω⟩
   grind [kg,qp]
  obtain⟨i,d,rfl⟩:=aP b;have P:=aS (c.lok _ b);have M:=cT (c.lok _ b);have u:=Rp c (a:=16*(nth la i).Q) λj D Q=>c.dis _ (ar D) _ b 0 ω ω
  have E:bO (nth la i) (16*(nth la i).Q)=true:=by grind [oH.lok,bO]
  have f:=mt (a:=16*(nth la i).Q) (I3 _) u d E λj z D r=>by
   cases e:bO z (16*(nth la i).Q) with
   | false=>rfl
   | true=>
    exfalso;have w:=(U2.1 r).1;have p:=C2 r;have y:=bn r;subst y;have N:=aS (c.lok _ p);have q:=c.lok _ p;unfold bN at q;rw[C0]at q;unfold bO at e;rw[I0,C0]at e;have:=c.one i j d w 0 ((nth la i).Q - (nth la j).Q).toNat ω ω ω;omega
  refine⟨(16*(nth la i).Q).toNat,ω,?_,ω⟩
  grind [kg]
 rintro⟨n,R,b,rfl⟩
 cases u:sp.findIdx? (d5 · (n:Nat)) with
 | some i=>
  obtain⟨d,A,-⟩:=C7.1 u;have B:=bn (O2 d);rw[<-B]at A;have g:=c.sok _ (ar d);have F:=(gF g).1 A;have o:=aI g;have t:=zT ⟨o.2.2.1,o.2.2.2⟩;have f:denotes sp la (n:Nat)=qp i (nth sp i) (n:Nat):=by grind [denotes]
  rw[sO f]at b;simp only[I0,O6,C0]at b;simp only[qp]at b;cases E:aZ (nth sp i).a9 (((n:Int) - 16*(nth sp i).Q) / csz (nth sp i).d) with
  | false=>grind
  | true=>
   have r:((n:Int) - 16*(nth sp i).Q) % csz (nth sp i).d=0:=b.1;refine .inl ⟨nth sp i,ar d,?_⟩;unfold eD;refine O4.2 ⟨(((n:Int) - 16*(nth sp i).Q) / csz (nth sp i).d).toNat,U4.2 ⟨List.mem_range.2 ?_,?_⟩,?_⟩
   all_goals grind [bZ,jH]
 | none=>
  cases F:la.findIdx? (bO · (n:Nat)) with
  | some i=>
   obtain⟨d,A,-⟩:=C7.1 F;have f:denotes sp la (n:Nat) = ⟨3,i,0,(n:Nat) - 16*(nth la i).Q⟩:=by grind [denotes]
   rw[sO f]at b
   grind [ar]
  | none=>
   have f:denotes sp la (n:Nat) = ⟨0,0,0,0⟩:=by grind [denotes]
   rw[sO f]at b;simp at b
theorem wc(b:oH sp la)(c:(denotes sp la a).c4=0)(f:(denotes sp la a).b5=1\/(denotes sp la a).b5=3):a∈kw sp la:=by
 have l:0<=a/\a<512:=by
  unfold denotes at c f;cases g:sp.findIdx? (d5 · a) with
  | some i=>
   obtain⟨d,j,-⟩:=C7.1 g;have h:=List.getElem_mem d;have e:=(gF (b.sok _ h)).1 j;have k:=aI (b.sok _ h);omega
  | none=>
   rw[g]at c f;cases e:la.findIdx? (bO · a) with
   | some i=>
    obtain⟨d,-⟩:=C7.1 e;rw[e]at c;have n:=aS (b.lok _ (ar d))
    grind
   | none=>grind
 have k:((a.toNat:Nat):Int)=a:=ω
 grind [kw,lS,kg]
theorem vt(sp:List aA)(la:List aD):(kw sp la).Nodup:=by
 unfold kw lS List.Nodup;rw[List.pairwise_map]
 grind [List.Pairwise.imp,List.nodup_range]
variable{c:Int}
theorem uJ(b:oH h.J h.M)(d:du h a c=true):a∈kw h.J h.M:=by grind [wc,du]
variable{o:bt}
theorem Mh(a:oH h.J h.M)(b:k7 h o=true):o.Addr∈kw h.J h.M:=by grind [wc,k7]
theorem GZ(h:ac)(a:Int):(mI h).count a=(holders h).count a:=by grind [mI,holders]
theorem pw(h:ac):jC h=true↔(h.S.all (eU h)=true/\h.a7.a6.all (hB h)=true)/\(aQ h.w).all (kD h)=true:=by grind [jC]
theorem B3(f:oH h.J h.M)(g:gp h=true)(j:jC h=true):∀a∈holders h,a∈kw h.J h.M:=by
 obtain⟨⟨n,p⟩,q⟩:=(pw h).1 j;intro a b;unfold holders at b;simp only[C3]at b;rcases b with((b|b)|b)|b
 ·obtain⟨o,d,rfl⟩:=O4.1 b
  obtain⟨i,r,rfl⟩:=aP d;have e:=fj g r
  grind [Mh,objAt]
 ·unfold cC at b
  obtain⟨c,t,b⟩:=List.mem_flatMap.1 b;obtain⟨l,u,b⟩:=List.mem_flatten.1 b;obtain⟨k,w,rfl⟩:=aP u;have e:=v4.1 n c t;unfold eU at e;have A:=v4.1 (show(nth c.a k).all _=true from fj e w) a b
  grind [uJ]
 ·obtain⟨x,y,rfl⟩:=O4.1 b
  exact uJ f (v4.1 p x y)
 exact uJ f (v4.1 q a b)
theorem KI(b:bq h.J h.M=true)(c:gp h=true):(og h&&ky h)=jJ h:=by
 have d:=oH.of b;have e:(og h=true/\h.a7.a6.all (hB h)=true)↔h.a7.a6.all (rR h)=true:=by grind [og,rR]
 have f:jJ h=true↔((h.S.all (eU h)=true/\h.a7.a6.all (rR h)=true)/\(aQ h.w).all (kD h)=true)/\∀a∈kw h.J h.M,(holders h).count a=1:=by
  unfold jJ;simp only[I0];refine and_congr Iff.rfl ?_;simp only[v4,C0,GZ]
  grind [List.mem_mergeSort,MI,oz,sorted]
 grind [pw,Le,vt,B3,ky]
theorem gL(s t:aA):meshable s t=meshable t s:=by grind [meshable]
variable{f:Int}{t:aM}
theorem eK{p:Nat} : (p:Int)∈pagesOn t f↔p<t.K.length/\(nth t.K p).e≠0/\(nth t.K p).o=f:=by grind [pagesOn,jY,MC]
theorem vh{q:Int}(h:q∈pagesOn t f):∃p:Nat,q=(p:Nat):=by grind [pagesOn,jY]
theorem sw(a:pages0 h=true):(∀i,i<h.M.length->∀k:Nat,k<(nth h.M i).a2.toNat->(aU h ((nth h.M i).Q+(k:Nat))).length=1)/\(∀p∈pgs h.J h.M,p<eX h)/\∀p:Nat,p<eX h->((nth (tbl h).K p).e≠0↔(p:Int)∈pgs h.J h.M):=by grind [fj,pages0,tU,xE,vF]
theorem AX{p:Nat}(a:p<eX h):af (tbl h) (p:Nat)=nth (tbl h).K p:=m0 a
theorem fy{p:Nat}(a:p<eX h)(b:(nth (tbl h).K p).e≠0):aU h (p:Nat)=pagesOn (tbl h) (nth (tbl h).K p).o:=by grind [AX,aU,tbl]
theorem tM(g:oH h.J h.M)(c:j<h.J.length):gJ h (nth h.J j).Q=(j:Nat):=by
 unfold gJ;refine dN (au c) (by unfold mw;simp) λk z i d=>?_
 have a:=bn d;have b:=(U2.1 d).1;subst a;unfold mw;refine U0 λe=>?_
 have:=cM (f:=(·.Q)) g.nd b c e;omega
theorem AG(w:bq h.J h.M=true)(N:pages0 h=true):ve h=oO h:=by
 have E:=oH.of w;obtain⟨O,P,Q⟩:=sw N;have o:∀i,i<h.J.length->∃p:Nat,(nth h.J i).Q=(p:Nat)/\p<eX h/\(nth (tbl h).K p).e≠0:=λi r=>by
  have Y:=aI (E.sok _ (ar r));have R:(nth h.J i).Q∈pgs h.J h.M:=by grind [ar,pgs]
  have c:=P _ R;refine⟨(nth h.J i).Q.toNat,ω,ω,?_⟩
  grind
 rw[Y4];unfold ve oO;rw[cQ,cQ];constructor
 ·intro F i r
  rw[cQ];intro j G;have y:j<h.J.length:=ω
  unfold mA;rw[O6,C0];by_cases d:(af (tbl h) (nth h.J i).Q).o=(af (tbl h) (nth h.J j).Q).o
  ·right
   obtain⟨p,e,a,f⟩:=o i r;obtain⟨q,A,b,g⟩:=o j y;have n:=v4.1 (F i r);rw[e,A,AX a,AX b]at d;have S:(q:Int)∈aU h (nth h.J i).Q:=by
    rw[e,fy a f];exact eK.2 ⟨b,g,d.symm⟩
   have t:=n _ S;unfold mr at t;rw[<-A,tM E y]at t;rw[O6,I0,C0]at t;rcases t with t|t
   ·omega
   simpa using t.2
  exact .inl d
 intro B i r;rw[v4];intro q C;obtain⟨p,e,a,f⟩:=o i r;have T:=C;rw[e,fy a f]at C;obtain⟨D,rfl⟩:=vh C;obtain⟨b,g,H⟩:=eK.1 C;have u:=(Q D b).1 g;unfold pgs at u;rw[C3,O4,List.mem_flatMap]at u;rcases u with⟨s,F,J⟩|⟨l,U,K⟩
 ·obtain⟨j,G,rfl⟩:=aP F
  unfold mr;rw[<-J,tM E G];rw[O6,I0,C0,C0];have d:(af (tbl h) (nth h.J i).Q).o=(af (tbl h) (nth h.J j).Q).o:=by grind [AX]
  rcases Nat.lt_trichotomy j i with c|V|c
  ·have n:=fj (B i r) c
   unfold mA at n
   simp_all
  ·omega
  have n:=fj (B j G) c;unfold mA at n;rw[O6,C0]at n;exact .inr ⟨ω,by rw[gL];simp_all⟩
 exfalso;obtain⟨W,L,rfl⟩:=aP U;obtain⟨k,X,M⟩:=dx.1 K;have n:=O W L k X;rw[<-M,fy b g]at n;have Z:(D:Int)∈pagesOn (tbl h) (nth (tbl h).K D).o:=ψ
 have m2:(p:Int)∈pagesOn (tbl h) (nth (tbl h).K D).o:=eK.2 ⟨a,f,H.symm⟩
 grind [List.length_eq_one_iff,oH.dis,ar]
theorem K3(h:ac):jS h=gY h:=by grind [AG,KI,jS,gY,nZ]
def ovl(y r:aB):Bool:=decide (y.At<r.At+r.a8/\r.At<y.At+y.a8)
def mF(r:aB):List aB->Bool->Option (List aB)
 | [],put=>some (if put then [] else [r])
 | y::a,put=>if ovl y r then none else if !put&&decide (y.At > r.At) then(mF r a true).map λt=>r::y::t else(mF r a put).map λt=>y::t
def dm(out:List aB):List aB->List aB
 | []=>out
 | y::ys=>match out.getLast? with
  | some z=>if z.At+z.a8=y.At then dm (out.dropLast++[⟨z.At,z.a8+y.a8⟩]) ys else dm (out++[y]) ys
  | none=>dm (out++[y]) ys
def kh:List aB->aB->List aB->Bool->Option (List aB)
 | [],r,out,done=>some (if done then out else out++[r])
 | y::ys,r,out,done=>
  if ovl y r then none
  else if y.At+y.a8=r.At then kh ys ⟨y.At,y.a8+r.a8⟩ out done
  else if r.At+r.a8=y.At then kh ys ⟨r.At,r.a8+y.a8⟩ out done
  else if y.At > r.At/\done=false then kh ys r (out++[r,y]) true
  else kh ys r (out++[y]) done
def ju(xs:List aB):Prop:=xs.Pairwise (λa b=>a.At+a.a8<b.At)/\∀y∈xs,1<=y.a8
variable{y:aB}
theorem ju.tail{a:List aB}(h:ju (y::a)):ju a:=⟨(List.pairwise_cons.1 h.1).2,λz b=>h.2 z ψ⟩
theorem ju.head{a:List aB}(h:ju (y::a)):∀z∈a,y.At+y.a8<z.At:=(List.pairwise_cons.1 h.1).1
theorem jz:∀(a out:List aB),ju a->(∀z,out.getLast? = some z->∀y∈a,z.At+z.a8≠y.At)->dm out a=out++a
 | [],out,_,_=>by simp[dm]
 | y::a,out,d,e=>by
  have b:dm (out++[y]) a=out++y::a:=by
   rw[jz a (out++[y]) d.tail λz c w f=>by
     simp at c;subst c;have:=d.head w f;omega]
   simp
  unfold dm;split
  ·rename_i z c
   rw[C9 (e z c y (Z1 ..))];exact b
  exact b
theorem xb{r:aB} : ∀{a:List aB},ju a->(∀y∈a,r.At+r.a8<=y.At)->mF r a true=some a
 | [],_,_=>rfl
 | y::a,c,b=>by
  have e:=b y (Z1 ..);unfold mF;rw[C9 (by unfold ovl;rw[C0];omega)];simp only[Bool.not_true,Bool.false_and,Bool.false_eq_true,if_false];rw[xb c.tail λz d=>b z (O5 _ d)]
  rfl
theorem vf{r:aB}(h1:1<=r.a8){a:List aB}(b:ju a)(c:∀y∈a,r.At+r.a8<=y.At):mF r a false=some (r::a):=by
 cases a with
 | nil=>rfl
 | cons y a=>
  grind [xb,ju.tail,mF,ovl]
def pR{r:aB} : ∀{a out:List aB},ju a->1<=r.a8->(∀y∈a,r.At+r.a8<y.At)->kh a r out true=some (out++a)
 | [],out,_,_,_=>by simp[kh]
 | y::a,out,b,d,c=>by
  have f:=c y (Z1 ..);have g:=b.2 y (Z1 ..);unfold kh;rw[C9 (by unfold ovl;rw[C0];omega),C9 ω,C9 ω,C9 (by simp),pR b.tail d λz e=>c z (O5 _ e)];simp
variable{out:List aB}
theorem xn{r:aB}(h1:1<=r.a8){a:List aB}(b:ju a)(c:∀y∈a,r.At+r.a8<=y.At):kh a r out false=some (out++match a with|[]=>[r]|y::zs=>if r.At+r.a8=y.At then⟨r.At,r.a8+y.a8⟩::zs else r::y::zs):=by
 cases a with
 | nil=>simp[kh]
 | cons y a=>
  have g:=c y ψ;have h:=b.2 y ψ;unfold kh;rw[C9 (by grind [ovl]),C9 ω];by_cases e:r.At+r.a8=y.At
  ·rw[CC e]
   simp only[e,if_true];cases a with
   | nil=>simp[kh]
   | cons z a=>
    have i:=b.head z ψ;have j:=b.tail.2 z ψ;unfold kh;simp only;rw[C9 (by grind [ovl]),C9 ω,C9 ω,CC (by simp;omega),pR b.tail.tail (by simp only;omega) λw d=>by
      have:=b.tail.head w d;simp only;omega]
    simp
  rw[C9 e,CC (by simp;omega),pR b.tail h1 λz f=>by have:=b.head z f;omega];simp[e]
theorem A3{pages:Int} : ∀{a:List aB}{r:aB}{out:List aB},ju a->1<=r.a8->(∀z,out.getLast? = some z->(∀y∈a,z.At+z.a8<y.At)/\z.At+z.a8<r.At)->(mF r a false).map (dm out)=kh a r out false
 | [],r,out,_,g,q=>by
  show some (dm out [r])=some (out++[r]);rw[jz [r] out ⟨List.pairwise_singleton ..,λy u=>by rw[O1.1 u];exact g⟩ ψ]
 | y::a,r,out,c,g,q=>by
  have F:=c.2 y ψ;by_cases l:ovl y r=true
  ·grind [mF,kh]
  ·have i:=l
   unfold ovl at i;rw[C0]at i;by_cases A:r.At+r.a8<=y.At
   ·-- all to the right
    have b:∀w∈y::a,r.At+r.a8<=w.At:=λw f=>by grind [ju.head]
    rw[vf g c b,xn g c b];show some (dm out (r::y::a))=_;have hfirst:dm out (r::y::a)=dm (out++[r]) (y::a):=by
     conv=>lhs;unfold dm
     grind
    rw[hfirst];by_cases e:r.At+r.a8=y.At
    ·have:dm (out++[r]) (y::a)=dm (out++[⟨r.At,r.a8+y.a8⟩]) a:=by
      conv=>lhs;unfold dm
      simp[e]
     grind [jz,ju.tail,ju.head]
    grind [jz,ju.head]
   have B:y.At+y.a8<=r.At:=ω
   have n:∀t,dm out (y::t)=dm (out++[y]) t:=λt=>by
    conv=>lhs;unfold dm
    grind [Z1]
   have C:(mF r (y::a) false).map (dm out)=(mF r a false).map (dm (out++[y])):=by
    conv=>lhs;unfold mF
    rw[C9 l,C9 (by simp;omega),Option.map_map]
    congr 1
    grind
   rw[C];unfold kh;rw[C9 l];by_cases e:y.At+y.a8=r.At
   ·rw[CC e]
    by_cases o:∃w,a.head? = some w/\ovl w r=true
    ·obtain⟨w,f,D⟩:=o
     cases a with
     | nil=>cases f
     | cons d h=>
      grind [ovl,mF,kh]
    have b:∀w∈a,r.At+r.a8<=w.At:=by
     cases a with
     | nil=>grind
     | cons d h=>
      have G:=c.head d ψ;have H:=c.tail.2 d ψ
      grind [ju.head,ju.tail,ovl]
    rw[vf g c.tail b,xn (r:=⟨y.At,y.a8+r.a8⟩) (by simp only;omega) c.tail ψ];show some (dm (out++[y]) (r::a))=_;have E:dm (out++[y]) (r::a)=dm (out++[⟨y.At,y.a8+r.a8⟩]) a:=by
     conv=>lhs;unfold dm
     simp[e]
    rw[E];cases a with
    | nil=>simp[dm]
    | cons d h=>
     by_cases j:y.At+(y.a8+r.a8)=d.At
     ·have p:dm (out++[⟨y.At,y.a8+r.a8⟩]) (d::h)=dm (out++[⟨y.At,y.a8+r.a8+d.a8⟩]) h:=by
       conv=>lhs;unfold dm
       simp[j]
      rw[p,jz h _ c.tail.tail λz k w f=>by grind [ju.head,ju.tail]];simp[j]
     rw[jz (d::h) _ c.tail λz k w f=>by
       simp at k;subst k;simp only;rcases List.mem_cons.1 f with rfl|f
       · exact j
       have:=c.tail.head w f;have:=b d ψ;have:=c.tail.2 d ψ;omega]
     simp[j]
   rw[C9 e,C9 ω,C9 ω];exact A3 (pages:=pages) c.tail g λz k=>by grind [ju.head]
def fX(k:am)(f:Int):am:=if(pagesOn k.F.R f).length=0 then {k with F:=⟨⟨k.F.W.T.set f.toNat (List.replicate 16 0),k.F.W.a5.set f.toNat false⟩,k.F.R⟩} else k
def lv(k:am)(p:Int):am:={k with F:=⟨k.F.W,⟨k.F.R.K.set p.toNat ⟨0,0⟩⟩⟩}
def cJ(k:am)(p:Int):am:=if(af k.F.R p).e=0 then k else fX (lv k p) (af k.F.R p).o
theorem bF[Inhabited α](xs:List α)(i j:Nat)(x:α):nth (xs.set i x) j=if i=j/\j<xs.length then x else nth xs j:=by grind [nth]
theorem na(k:am)(f:Int):(fX k f).F.R=k.F.R/\(fX k f).Calls=k.Calls/\(fX k f).a0=k.a0/\(fX k f).F.W.T.length=k.F.W.T.length/\(fX k f).F.W.a5.length=k.F.W.a5.length:=by grind [fX]
theorem lg(k:am)(p:Int):(cJ k p).F.R.K.length=k.F.R.K.length/\(cJ k p).Calls=k.Calls/\(cJ k p).a0=k.a0:=by grind [na,cJ,lv]
variable{k:am}
theorem aG : aF k=true↔(∀j,j<k.a0.length->0<=nth k.a0 j)/\dt k.F.W=true/\gq k.F.R k.F.W.a5.length=true/\(∀j,j<k.F.W.a5.length->nth k.F.W.a5 j=decide (0<(pagesOn k.F.R (j:Int)).length))/\0<=k.Calls/\k.Calls<=100000/\k.a0.length<=40:=by grind [cQ,aF,d8,oT]
theorem bf{f:aX} : dt f=true↔1<=f.T.length/\f.T.length<=32/\f.a5.length=f.T.length/\∀j,j<f.T.length->ic (nth f.T j) (nth f.a5 j)=true:=by
 unfold dt;simp only[I0,C0,v4,and_assoc];refine and_congr Iff.rfl (and_congr Iff.rfl (and_congr_right λb=>⟨λh j a=>?_,λh q c=>?_⟩))
 ·exact h _ (C2 (wj (au a) (au ω)))
 grind [List.mem_iff_getElem?,List.getElem?_zip_eq_some,bn]
theorem bu : gq t a=true↔(∀j,j<t.K.length->l7 a (nth t.K j)=true)/\1<=t.K.length/\t.K.length<=32:=by grind [cQ,gq]
def dU : 0<(pagesOn t f).length↔∃q,q<t.K.length/\(nth t.K q).e≠0/\(nth t.K q).o=f:=by
 unfold pagesOn jY;rw[C1,List.length_pos_iff_exists_mem];simp[MC]
theorem bW(h:aF k=true)(a:(af k.F.R p).e≠0):0<=p/\p<k.F.R.K.length/\af k.F.R p=nth k.F.R.K p.toNat/\0<=(af k.F.R p).o/\(af k.F.R p).o<k.F.W.a5.length:=by
 obtain⟨-,-,b,-⟩:=aG.1 h
 grind [bu,af,l7]
theorem y2(p:Int)(h:aF k=true):aF (cJ k p)=true:=by
 unfold cJ;split
 ·exact h
 rename_i r;obtain⟨C,D,E,i,l⟩:=bW h r;obtain⟨t,u,F,w,y,A,B⟩:=aG.1 h;obtain⟨G,H,J,L⟩:=bf.1 u;obtain⟨M,N,O⟩:=bu.1 F;rw[E]at r i l |-;generalize K:(nth k.F.R.K p.toNat).o=f at i l;have b:∀q,nth (k.F.R.K.set p.toNat ⟨0,0⟩) q=if p.toNat=q then⟨0,0⟩ else nth k.F.R.K q:=λq=>by grind [bF]
 have c:∀j:Int,0<(pagesOn (⟨k.F.R.K.set p.toNat ⟨0,0⟩⟩ : aM) j).length↔∃q,q<k.F.R.K.length/\q≠p.toNat/\(nth k.F.R.K q).e≠0/\(nth k.F.R.K q).o=j:=λj=>by
  rw[dU];simp only[U1,b]
  grind
 have d:∀j:Int,0<(pagesOn k.F.R j).length↔∃q,q<k.F.R.K.length/\(nth k.F.R.K q).e≠0/\(nth k.F.R.K q).o=j:=λj=>dU
 have g:gq ⟨k.F.R.K.set p.toNat ⟨0,0⟩⟩ k.F.W.a5.length=true:=by
  rw[bu];simp only[U1,b]
  grind [l7]
 unfold fX;split
 ·rename_i o
  rw[aG];simp only[lv,U1]at o |-;refine⟨t,?_,g,λj n=>?_,y,A,B⟩
  ·rw[bf]
   simp only[U1,bF];refine⟨G,H,J,λj n=>?_⟩;by_cases a:f.toNat=j
   ·rw[CC ⟨a,n⟩,CC ⟨a,ω⟩];decide
   grind
  rw[bF];by_cases a:f.toNat=j
  ·grind
  rw[C9 (λe=>a e.1),w j n];refine decide_eq_decide.2 ?_;rw[d,c]
  grind
 rename_i o;rw[aG];simp only[lv]at o |-;refine⟨t,u,g,λj n=>?_,y,A,B⟩;rw[w j n];refine decide_eq_decide.2 ?_;by_cases a:f=j
 ·grind
 rw[d,c];grind
def bE(h:aF k=true):am.sml k:=by
 obtain⟨g,b,c,i,l,n,o⟩:=aG.1 h;obtain⟨p,q,t,d⟩:=bf.1 b;obtain⟨u,w,y⟩:=bu.1 c;refine⟨⟨⟨⟨ω,λr f=>?_⟩,(by omega:_<=1048576)⟩,⟨ω,λe _=>trivial⟩⟩,(by omega:_<=1048576)⟩;obtain⟨j,a⟩:=List.mem_iff_getElem?.1 f;have:=d j (U2.1 a).1;rw[bn a]at this;unfold ic at this;simp only[I0,C0]at this;show r.length<=1048576;omega
variable{K:List (List C)->Prop}{sz by_:Nat}
theorem Ap.cp{e:α->List C}{xs:List α}(d:∀x,(e x).length=sz)(f:∀x,bi (e x)=true)(a:xs.length<=1048576)(b:by_<=1000)(c:K (xs.map e)):Ap true [] (xs.map e) sz by_ K:=
 CU ψ ψ ψ (by simp;omega) (by simp only[C1,List.length_nil,Z6];exact yJ a b) rfl c
def CR:type_of% @Ap.cp:=@Ap.cp
theorem Fl.cp{e:α->List C}{xs:List α}{X:Prop}(d:∀x,(e x).length=sz)(f:∀x,bi (e x)=true)(a:xs.length<=1048576)(b:by_<=1000)(c:X):Fl (xs.map e) sz by_ X:=
 Fl.mk ψ (by simp;omega) (by simp only[C1];exact yJ a b) c
def CX:type_of% @Fl.cp:=@Fl.cp
variable{r:List C}{rows:List (List C)}
theorem Ap.sn{a:List (List C)}(h1:∀r∈rows,r.length=sz)(f:r.length=sz)(b:rows.length+1<=1048576)(c:by_<=1000)(d:a=rows++[r])(e:K a):Ap false rows [r] sz by_ K:=
 CU h1 ψ ψ (by simp;omega) (yJ (by simpa using b) c) d e
def jG(xs:List Int)(a:xs.length<=1048576):zzA 196 false [.val none (aH .V xs)] .one (aH .own xs):=by
 refine fO 6 [] Tryz.func196 rfl ?_ (.inr (bP _))
 repeat'(first|refine gP ?_|(conv=>whnf);first|refine CR (λ_=>rfl) (λ_=>rfl) a (by decide) ?_)
 rfl
def B0(t:aM)(a:aM.sml t):zzA 468 false [.val (some 1) (aM.enc .V t)] .agg (aM.enc .own t):=by
 have b:=a.1;refine fO 8 [] Tryz.func468 rfl ?_ (.inr (aM.enc_fr _))
 repeat'(first|refine gP ?_|(conv=>whnf);first|refine CR (λ_=>rfl) (λ_=>rfl) b (by decide) ?_)
 rfl
def x4(t:aM)(a:aM.sml t):zzA 347 false [.val (some 1) (aM.enc .V t)] .agg (aM.enc .own t):=by
 have b:=a.1;refine fO 8 [] Tryz.func347 rfl ?_ (.inr (aM.enc_fr _))
 repeat'(first|refine gP ?_|(conv=>whnf);first|refine CR (λ_=>rfl) (λ_=>rfl) b (by decide) ?_)
 rfl
theorem aV{e:α->List C}{l:List α}(h:∀x,(e x).length=n):∀r∈l.map e,r.length=n:=(ψ)
variable{β:Type}
theorem fE[Inhabited α]{xs:List α}{f:α->β}(a:i<xs.length):(xs.take (i+1)).map f=(xs.take i).map f++[f (nth xs i)]:=by grind [V5,au]
def B6(f:aX)(a:aX.sml f):zzA 467 false [.val (some 2) (aX.enc .V f)] .agg (aX.enc .own f):=by
 have g:=a.1.1;have d:f.a5.length<=1048576:=a.2;refine fO 30 [(5,10,[17,18,19,20,21,22,23,24,25,26])] Tryz.func467 rfl ?_ (.inr (aX.enc_fr _))
 repeat'(first|refine gP ?_|(conv=>whnf);first|refine CR (λ_=>rfl) (λ_=>rfl) d (by decide) ?_)
 (conv=>whnf)
 refine CJ (ι:=Nat) (λi=>[(1,.H .box (aX.enc .V f)),(2,.H .box [.z,.z]),(3,.H .box [.s .own ((f.T.take i).map (aH .own)),.s .own (f.a5.map (rB .own))]),(4,.H .one [I ((i:Nat):Int)])]) (λi=>i<=f.T.length) (λi=>f.T.length - i) (0) ?_ (W0 _) λi h=>?_
 ·exact wB
 by_cases b:i<f.T.length
 ·have e:=au b
  have c:(nth f.T i).length<=1048576:=a.1.2 _ (ar b)
  repeat'(first|refine gE ?_|(conv=>whnf);first|with_reducible refine CD (aa e) ?_|refine CX (λ_=>rfl) (λ_=>rfl) c (by decide) ?_|refine Ap.sn (aV λ_=>rfl) rfl (by simp;omega) (by decide) (fE b) ?_)
  ((conv=>whnf);refine CE (i+1) ω ω ?_;(exact wB))
 repeat'(first|refine gE ?_|fail)
 obtain rfl:i=f.T.length:=ω
 rw[C5]
 rfl
def oA(f:aX)(a:aX.sml f):zzA 346 false [.val (some 2) (aX.enc .V f)] .agg (aX.enc .own f):=by
 have g:=a.1.1;have d:f.a5.length<=1048576:=a.2;refine fO 27 [(5,5,[18,19,20,21,22])] Tryz.func346 rfl ?_ (.inr (aX.enc_fr _))
 repeat'(first|refine gP ?_|(conv=>whnf);first|refine CR (λ_=>rfl) (λ_=>rfl) d (by decide) ?_)
 (conv=>whnf)
 refine CJ (ι:=Nat) (λi=>[(2,.H .box [.z,.z]),(3,.H .box [.s .own ((f.T.take i).map (aH .own)),.s .own (f.a5.map (rB .own))]),(12,.H .one (jq .V f.T)),(13,.H .one [I (f.T.length)]),(14,.H .one [I ((i:Nat):Int)])]) (λi=>i<=f.T.length) (λi=>f.T.length - i) (0) ?_ (W0 _) λi h=>?_
 ·exact wB
 by_cases b:i<f.T.length
 ·have e:=au b
  have c:(nth f.T i).length<=1048576:=a.1.2 _ (ar b)
  repeat'(first|refine gE ?_|(conv=>whnf);first|with_reducible refine CD (aa e) ?_|refine C8 (jG (nth f.T i) c) ?_|refine Ap.sn (aV λ_=>rfl) rfl (by simp;omega) (by decide) (fE b) ?_)
  ((conv=>whnf);refine CE (i+1) ω ω ?_;(exact wB))
 repeat'(first|refine gE ?_|fail)
 obtain rfl:i=f.T.length:=ω
 rw[C5]
 rfl
def sP(m:aY)(a:aY.sml m):zzA 349 false [.val (some 3) (aY.enc .V m)] .agg (aY.enc .own m):=by
 refine fO 10 [(1,5,[3,4,5,6,7])] Tryz.func349 rfl ?_ (.inr (aY.enc_fr _))
 repeat'(first|refine gP ?_|(conv=>whnf);first|refine C8 (B6 m.W a.1) ?_|refine C8 (B0 m.R a.2) ?_)
 rfl
def uG(m:aY)(a:aY.sml m):zzA 195 false [.val (some 3) (aY.enc .V m)] .agg (aY.enc .own m):=by
 refine fO 10 [(1,5,[3,4,5,6,7])] Tryz.func195 rfl ?_ (.inr (aY.enc_fr _))
 repeat'(first|refine gP ?_|(conv=>whnf);first|refine C8 (oA m.W a.1) ?_|refine C8 (x4 m.R a.2) ?_)
 rfl
def DE(k:am)(a:am.sml k):zzA 203 false [.val (some 5) (am.enc .V k)] .agg (am.enc .own k):=by
 have b:k.a0.length<=1048576:=a.2;refine fO 13 [(1,9,[3,4,5,6,7,8,9,10,11])] Tryz.func203 rfl ?_ (.inr (Cf _))
 repeat'(first|refine gP ?_|(conv=>whnf);first|refine C8 (sP k.F a.1) ?_|refine CX (λ_=>rfl) (λ_=>rfl) b (by decide) ?_)
 rfl
def ko(k:am)(a:am.sml k):zzA 68 false [.val (some 5) (am.enc .V k)] .agg (am.enc .own k):=by
 refine fO 12 [(1,8,[3,4,5,6,7,8,9,10])] Tryz.func68 rfl ?_ (.inr (Cf _))
 repeat'(first|refine gP ?_|(conv=>whnf);first|refine C8 (uG k.F a.1) ?_|refine C8 (jG k.a0 a.2) ?_)
 rfl
def eJ(k:am)(p:Int)(a:aM.sml k.F.R):zzA 485 false [.ptr (am.enc .V k),.val none [I p]] .one [I (af k.F.R p).e]:=by
 refine fO 13 [] Tryz.func485 rfl ?_
 repeat'(first|refine gP ?_|(conv=>whnf);first|refine C8 (di k.F.R p a) ?_)
 rfl
def lQ(k:am)(b:am.sml k):zzA 277 false [.val (some 5) (am.enc .V k)] .one [B (aF k&&decide (k.Calls<100000))]:=by
 have a:=mz k b;cases e:aF k<;>rw[e]at a
 ·refine fO 10 [] Tryz.func277 rfl ?_
  repeat'(first|refine gP ?_|(conv=>whnf);first|with_reducible refine Bf.D (λc=>?_) (λc=>?_)|refine C8 (a) ?_)
  all_goals rfl
 refine fO 10 [] Tryz.func277 rfl ?_
 repeat'(first|refine gP ?_|(conv=>whnf);first|refine C8 (a) ?_)
 all_goals rfl
def sj(k:am)(b:am.sml k):zzA 197 false [.val (some 5) (am.enc .V k)] .one [B (decide (k.Calls≠100000)&&aF k)]:=by
 have c:=qF k b;refine fO 10 [] Tryz.func197 rfl ?_
 repeat'(first|refine gP ?_|(conv=>whnf);first|with_reducible (first|refine Bf.N (λa=>?_) (λa=>?_)|refine Bf.D (λa=>?_) (λa=>?_))|refine C8 (c) ?_)
 all_goals(exact X0 (λz=>[B z]) ((by simp[*])))
theorem uk(h:(pagesOn k.F.R f).length=0):am.enc .own (fX k f)=[.s .own ((k.F.W.T.map (aH .own)).set f.toNat (aH .own (List.replicate 16 0))),.s .own ((k.F.W.a5.map (rB .own)).set f.toNat (rB .own false)),.s .own (k.F.R.K.map (bk.enc .own)),I k.Calls,.s .own (k.a0.map (rI .own))]:=by grind [I6,fX,am.enc]
theorem xM(h:¬(pagesOn k.F.R f).length=0):am.enc .own (fX k f)=am.enc .own k:=by grind [fX]
def sV(k:am)(f:Int)(a:aM.sml k.F.R)(b:0<=f/\f<k.F.W.T.length/\f<k.F.W.a5.length) :
  zzB 486 false [.ptr (am.enc .own k),.val none [I f]] [.ptr (am.enc .own (fX k f)),.val none [I f]] (.tup []) []:=by
 have c:=au (xs:=k.F.W.T) (i:=f.toNat) ω;have d:=au (xs:=k.F.W.a5) (i:=f.toNat) ω;by_cases e:(pagesOn k.F.R f).length=0
 ·rw[uk e]
  refine fM 30 [] [(2,8,[21,22,23,24,25,26,27,28])] [(0,0),(0,0)] Tryz.func486 rfl (λu q=>?_) (.inr trivial)
  repeat'(first|refine gB ?_|(conv=>whnf);first|with_reducible (first|refine CN b.1 (aa d) ?_|refine CN b.1 (aa c) ?_)|refine CF (gK k.F.R f a) ⟨⟨rfl,Cb k.F.R⟩,⟨rfl,rfl⟩,trivial⟩ ?_|refine CP rfl rfl (aa c) rfl (I1 rfl) rfl ?_|refine CP rfl rfl (aa d) rfl (I1 rfl) rfl ?_|refine Mk.mk 16 rfl rfl (by decide) (by decide) rfl ?_)
  refine CG rfl rfl ?_;exact wB
 rw[xM e];refine fM 30 [] [(2,8,[21,22,23,24,25,26,27,28])] [(0,0),(0,0)] Tryz.func486 rfl (λu q=>?_) (.inr trivial)
 repeat'(first|refine gB ?_|(conv=>whnf);first|refine CF (gK k.F.R f a) ⟨⟨rfl,Cb k.F.R⟩,⟨rfl,rfl⟩,trivial⟩ ?_)
 refine CG rfl rfl ?_;exact wB
def DK(k:am)(f:Int)(a:aM.sml k.F.R)(b:0<=f/\f<k.F.W.T.length/\f<k.F.W.a5.length) :
  zzB 198 false [.ptr (am.enc .own k),.val none [I f]] [.ptr (am.enc .own (fX k f)),.val none [I f]] (.tup []) []:=by
 have c:=au (xs:=k.F.W.T) (i:=f.toNat) ω;have d:=au (xs:=k.F.W.a5) (i:=f.toNat) ω;by_cases e:(pagesOn k.F.R f).length=0
 ·rw[uk e]
  refine fM 30 [] [(2,8,[21,22,23,24,25,26,27,28])] [(0,0),(0,0)] Tryz.func198 rfl (λu q=>?_) (.inr trivial)
  repeat'(first|refine gB ?_|(conv=>whnf);first|with_reducible (first|refine CN b.1 (aa d) ?_|refine CN b.1 (aa c) ?_)|refine CF (kE k.F.R f a) ⟨⟨rfl,Cb k.F.R⟩,⟨rfl,rfl⟩,trivial⟩ ?_|refine CP rfl rfl (aa c) rfl (I1 rfl) rfl ?_|refine CP rfl rfl (aa d) rfl (I1 rfl) rfl ?_|refine Mk.mk 16 rfl rfl (by decide) (by decide) rfl ?_)
  refine CG rfl rfl ?_;exact wB
 rw[xM e];refine fM 30 [] [(2,8,[21,22,23,24,25,26,27,28])] [(0,0),(0,0)] Tryz.func198 rfl (λu q=>?_) (.inr trivial)
 repeat'(first|refine gB ?_|(conv=>whnf);first|refine CF (kE k.F.R f a) ⟨⟨rfl,Cb k.F.R⟩,⟨rfl,rfl⟩,trivial⟩ ?_)
 refine CG rfl rfl ?_;exact wB
theorem xo(k:am)(p:Int):am.enc .own (lv k p)=[.s .own (k.F.W.T.map (aH .own)),.s .own (k.F.W.a5.map (rB .own)),.s .own ((k.F.R.K.map (bk.enc .own)).set p.toNat (bk.enc .own ⟨0,0⟩)),I k.Calls,.s .own (k.a0.map (rI .own))]:=by grind [I6,lv,am.enc]
theorem y1(h:aF k=true):aM.sml (lv k p).F.R:=by
 obtain⟨a,b,c⟩:=bu.1 (aG.1 h).2.2.1;exact⟨by grind [lv],λ_ _=>trivial⟩
theorem P6(k:am)(p:Int)(b:aF k=true) :
  zzB 374 false [.ptr (am.enc .own k),.val none [I p]] [.ptr (am.enc .own (cJ k p)),.val none [I p]] .one [B (decide ((af k.F.R p).e≠0))]:=by
 have j:=bE b;have c:=eJ k p j.1.2;by_cases a:(af k.F.R p).e=0
 ·rw[show cJ k p=k by unfold cJ;rw[CC a]]
  refine fM 32 [(486,[2,0])] [] [(0,0),(0,0)] Tryz.func374 rfl (λu q=>?_)
  repeat'(first|refine gB ?_|(conv=>whnf);first|refine CF (c) ⟨CQ k,⟨rfl,rfl⟩,trivial⟩ ?_)
  refine CG rfl ?_ ?_
  ·exact X0 (λz=>[B z]) ((by simp[a]))
  exact wB
 obtain⟨l,r,n,d,o⟩:=bW b a;have h:=(bf.1 (aG.1 b).2.1).2.2.1;rw[show cJ k p=fX (lv k p) (af k.F.R p).o by unfold cJ;rw[C9 a]];have e:=sV (lv k p) (af k.F.R p).o (y1 b) ⟨d,by grind [lv],by grind [lv]⟩;rw[xo]at e;have g:=au (xs:=k.F.R.K) (i:=p.toNat) ω;rw[n]at c e a |-;refine fM 32 [(486,[2,0])] [] [(0,0),(0,0)] Tryz.func374 rfl (λu q=>?_)
 repeat'(first|refine gB ?_|(conv=>whnf);first|with_reducible refine CN l (aa g) ?_|refine CF (c) ⟨CQ k,⟨rfl,rfl⟩,trivial⟩ ?_|refine CP rfl rfl (aa g) rfl (I1 rfl) rfl ?_|refine CH rfl (aa g) rfl ?_|refine CK (e) (.inl rfl) ?_)
 refine CG rfl ?_ ?_
 ·exact X0 (λz=>[B z]) ((by simp[a]))
 exact wB
theorem uK(k:am)(p:Int)(a:aF k=true)(o:k.Calls≠100000) :
  zzA 69 false [.val (some 5) (am.enc .V k),.val none [I p]] (.tup [some 5,none]) (am.enc .own (cJ k p)++[B (decide ((af k.F.R p).e≠0))]):=by
 have d:=bE a;have l:=ko k d;have e:=sj k d;have c:=pm k p d.1.2;rw[a,O0 o]at e;by_cases b:(af k.F.R p).e=0
 ·rw[show cJ k p=k by unfold cJ;rw[CC b]]
  rw[U0 (by simpa using b)]at c |-;refine fP 38 [(198,[2,0])] [] Tryz.func69 rfl ?_ (.inr (aW (Cf k) ⟨trivial,trivial⟩))
  repeat'(first|refine gP ?_|(conv=>whnf);first|refine C8 (l) ?_|refine C8 (e) ?_|refine C8 (c) ?_)
  all_goals rfl
 obtain⟨q,u,r,g,t⟩:=bW a b;have n:=(bf.1 (aG.1 a).2.1).2.2.1;rw[show cJ k p=fX (lv k p) (af k.F.R p).o by unfold cJ;rw[C9 b]];have h:=DK (lv k p) (af k.F.R p).o (y1 a) ⟨g,by grind [lv],by grind [lv]⟩;rw[xo]at h;have j:=au (xs:=k.F.R.K) (i:=p.toNat) ω;rw[O0 b]at c |-;rw[r]at h |-;refine fP 38 [(198,[2,0])] [] Tryz.func69 rfl ?_ (.inr (aW (Cf _) ⟨trivial,trivial⟩))
 repeat'(first|refine gP ?_|(conv=>whnf);first|with_reducible refine CN q (aa j) ?_|refine C8 (l) ?_|refine C8 (e) ?_|refine C8 (c) ?_|refine CP rfl rfl (aa j) rfl (I1 rfl) rfl ?_|refine CH rfl (aa j) rfl ?_|refine CK (h) (.inl rfl) ?_)
 all_goals rfl
def gf(n:Nat):aX:=⟨List.replicate n (List.replicate 16 0),List.replicate n false⟩
def fG(n:Nat):aM:=⟨List.replicate n ⟨0,0⟩⟩
def bY(p f:Nat)(a:List Int):am:=⟨⟨gf f,fG p⟩,0,a⟩
def fB:aE:=⟨List.replicate 4 []⟩
def ew(n:Nat):aN:=⟨List.replicate n [],List.replicate n []⟩
def newHeap(p f t:Nat)(lim:Int)(a:List Int):ac:=⟨bY p f a,[⟨0,p⟩],[],[],[],List.replicate t fB,ew t,⟨16,[]⟩,0,0,lim,1,false,⟨⟨0,0,[]⟩,0,0⟩⟩
theorem d3[Inhabited α]{y:α}(a:j<n):nth (List.replicate n y) j=y:=bn ψ
theorem Nf(n:Nat)(f:Int):pagesOn (fG n) f=[]:=by grind [List.filter_eq_nil_iff,d3,pagesOn,jY,fG,MC]
theorem B8{p f:Nat}(c:1<=p/\p<=32)(d:1<=f/\f<=32):aF (bY p f [])=true:=by
 rw[aG];refine⟨λj b=>by grind [bY],bf.2 ⟨by grind [bY,gf],by grind [bY,gf],by grind [bY,gf],λj b=>?_⟩,bu.2 ⟨λj b=>?_,by grind [bY,fG],by grind [bY,fG]⟩,λj b=>?_,by simp[bY],by simp[bY],by simp[bY]⟩
 ·have a:j<f:=by grind [bY,gf]
  rw[show nth (bY p f []).F.W.T j=List.replicate 16 0 from d3 a,show nth (bY p f []).F.W.a5 j=false from d3 a]
  decide
 all_goals grind [Nf,bY,fG,nth,l7,gf]
theorem HM(w:World)(q:Nat)(a:Array Obj):bx NO w (Sort.grow (w.drewN q) a):=by
 have c:∀b,b<w.heap.size->(Sort.grow (w.drewN q) a).heap[b]? = w.heap[b]?:=λb c=>Sort.heap_grow_old (w.drewN q) a c
 refine⟨rfl,rfl,rfl,ψ,λb h _=>c b h,λb o h _=>?_,λb o h _=>?_⟩
 all_goals grind [Go.World.cell?,Go.World.frozen?,mp]
theorem K8(c:Nat)(W:World):Calls Tryz.prog 455 #[.slice none 0 c] W λe g=>∃B q h,e=.returned (.slice B 0 0)/\g=Sort.grow (W.drewN q) h:=by
 have q22:∀(w:World)(a:Option Addr)(n c b d:Nat),(binOp .eql 33 (.slice a n c) (.slice none b d)).run Tryz.prog w=.ok (.bool a.isNone) w:=λw a n c b d=>Lib.run_eql_slice_nil w _ _ a n c b d Tryz.underlying33
 go_enter Tryz.func455,Tryz.ntmps455
 go_wp2
 go_ret
 exact⟨none,0,#[],rfl,by simp[Sort.grow,World.drewN]⟩
theorem G8(a:Addr)(c:Nat)(W:World):Calls Tryz.prog 455 #[.slice (some a) 0 c] W λe g=>∃B q h,e=.returned (.slice B 0 0)/\g=Sort.grow (W.drewN q) h:=by
 have q22:∀(w:World)(a:Option Addr)(n c b d:Nat),(binOp .eql 33 (.slice a n c) (.slice none b d)).run Tryz.prog w=.ok (.bool a.isNone) w:=λw a n c b d=>Lib.run_eql_slice_nil w _ _ a n c b d Tryz.underlying33
 go_enter Tryz.func455,Tryz.ntmps455
 go_wp2
 go_ret
 exact⟨some ⟨W.heap.size,0,none⟩,0,#[.cells #[] 3],rfl,by rw[Sort.alloc_eq_grow];rfl⟩
theorem GK(xs:List Int)(o:xs.length<=1048576):zzA 455 false [.val none (aH .V xs)] .one (aH .own xs):=by
 by_cases c:xs=[]
 ·subst c
  refine⟨⟨_,Tryz.func455,by kernel_rfl,by kernel_rfl⟩,λw S p t d=>?_⟩
  match p,d with
  | [v],⟨d,_⟩=>
   have b:=b9.rep1 (show b9 w S NO none [C.s .V []] v from d);obtain⟨l,g,rfl⟩:=b.slice;have r:Calls Tryz.prog 455 #[.slice l 0 g] w λe n=>∃B q i,e=.returned (.slice B 0 0)/\n=Sort.grow (w.drewN q) i:=by
    cases l with
    | none=>grind [K8]
    | some a=>grind [G8]
   refine r.mono λe n ⟨B,q,i,c,j⟩=>?_
   subst j;exact⟨.slice B 0 0,c,HM w q i,NO,NO,λ_ _ h=>h.elim,λ_ _ h=>h.elim,λ_ _ h=>h.elim,rfl,row1 (.nil _ .own B trivial)⟩
 have k:xs.map (rI .V)≠[]:=by simp_all
 refine fO 8 [] Tryz.func455 rfl ?_ (.inr (bP _))
 repeat'(first|refine gP ?_|(conv=>whnf);first|refine Nn.mk k ?_|refine CR (λ_=>rfl) (λ_=>rfl) o (by decide) ?_)
 rfl
def yR(p:cx)(a:cx.sml p):zzA 332 false [.val (some 3) (cx.enc .V p)] .agg (cx.enc .own p):=by
 have b:p.T.length<=1048576:=a;refine fO 8 [] Tryz.func332 rfl ?_ (.inr (cx.enc_fr _))
 repeat'(first|refine gP ?_|(conv=>whnf);first|refine C8 (GK p.T b) ?_)
 rfl
def BY(j:cE)(a:cE.sml j):zzA 185 false [.val (some 5) (cE.enc .V j)] .agg (cE.enc .own j):=by
 refine fO 8 [] Tryz.func185 rfl ?_ (.inr (cE.enc_fr _))
 repeat'(first|refine gP ?_|(conv=>whnf);first|refine C8 (yR j.X a) ?_)
 rfl
def iV(c:aE)(d:aE.sml c):zzA 204 false [.val (some 1) (aE.enc .V c)] .agg (aE.enc .own c):=by
 have g:=d.1;refine fO 26 [(5,10,[13,14,15,16,17,18,19,20,21,22])] Tryz.func204 rfl ?_ (.inr (aE.enc_fr _))
 repeat'(first|refine gP ?_|fail)
 (conv=>whnf)
 refine CJ (ι:=Nat) (λi=>[(1,.H .box (aE.enc .V c)),(2,.H .box [.z]),(3,.H .box [.s .own ((c.a.take i).map (aH .own))]),(4,.H .one [I ((i:Nat):Int)])]) (λi=>i<=c.a.length) (λi=>c.a.length - i) (0) ?_ (W0 _) λi h=>?_
 ·exact wB
 by_cases a:i<c.a.length
 ·have e:=au a
  have b:(nth c.a i).length<=1048576:=d.2 _ (ar a)
  repeat'(first|refine gE ?_|(conv=>whnf);first|with_reducible refine CD (aa e) ?_|refine CX (λ_=>rfl) (λ_=>rfl) b (by decide) ?_|refine Ap.sn (aV λ_=>rfl) rfl (by simp;omega) (by decide) (fE a) ?_)
  ((conv=>whnf);refine CE (i+1) ω ω ?_;(exact wB))
 repeat'(first|refine gE ?_|fail)
 obtain rfl:i=c.a.length:=ω
 rw[C5]
 rfl
def kX(c:aE)(d:aE.sml c):zzA 182 false [.val (some 1) (aE.enc .V c)] .agg (aE.enc .own c):=by
 have g:=d.1;refine fO 23 [(5,5,[14,15,16,17,18])] Tryz.func182 rfl ?_ (.inr (aE.enc_fr _))
 repeat'(first|refine gP ?_|fail)
 (conv=>whnf)
 refine CJ (ι:=Nat) (λi=>[(2,.H .box [.z]),(3,.H .box [.s .own ((c.a.take i).map (aH .own))]),(8,.H .one (jq .V c.a)),(9,.H .one [I (c.a.length)]),(10,.H .one [I ((i:Nat):Int)])]) (λi=>i<=c.a.length) (λi=>c.a.length - i) (0) ?_ (W0 _) λi h=>?_
 ·exact wB
 by_cases a:i<c.a.length
 ·have e:=au a
  have b:(nth c.a i).length<=1048576:=d.2 _ (ar a)
  repeat'(first|refine gE ?_|(conv=>whnf);first|with_reducible refine CD (aa e) ?_|refine C8 (jG (nth c.a i) b) ?_|refine Ap.sn (aV λ_=>rfl) rfl (by simp;omega) (by decide) (fE a) ?_)
  ((conv=>whnf);refine CE (i+1) ω ω ?_;(exact wB))
 repeat'(first|refine gE ?_|fail)
 obtain rfl:i=c.a.length:=ω
 rw[C5]
 rfl
def fU(m:aN)(b:aN.sml m):zzA 205 false [.val (some 2) (aN.enc .V m)] .agg (aN.enc .own m):=by
 have h:=b.1.1;have g:=b.2.1;refine fO 46 [(5,10,[14,15,16,17,18,19,20,21,22,23]),(9,10,[33,34,35,36,37,38,39,40,41,42])] Tryz.func205 rfl ?_ (.inr (aN.enc_fr _))
 repeat'(first|refine gP ?_|fail)
 (conv=>whnf)
 refine CJ (ι:=Nat) (λi=>[(1,.H .box (aN.enc .V m)),(2,.H .box [.z,.z]),(3,.H .box [.s .own ((m.U.take i).map (cF .own)),.z]),(4,.H .one [I ((i:Nat):Int)])]) (λi=>i<=m.U.length) (λi=>m.U.length - i) (0) ?_ (W0 _) λi j=>?_
 ·exact wB
 by_cases c:i<m.U.length
 ·have d:=au c
  have a:(nth m.U i).length<=1048576:=(b.1.2 _ (ar c)).1
  repeat'(first|refine gE ?_|(conv=>whnf);first|with_reducible refine CD (aa d) ?_|refine CX (λ_=>rfl) (λ_=>rfl) a (by decide) ?_|refine Ap.sn (aV λ_=>rfl) rfl (by simp;omega) (by decide) (fE c) ?_)
  ((conv=>whnf);refine CE (i+1) ω ω ?_;(exact wB))
 obtain rfl:i=m.U.length:=ω
 rw[C5]
 repeat'(first|refine gE ?_|fail)
 (conv=>whnf)
 refine CJ (ι:=Nat) (λk=>[(1,.H .box (aN.enc .V m)),(2,.H .box [.z,.z]),(3,.H .box [.s .own (m.U.map (cF .own)),.s .own ((m.y.take k).map (aH .own))]),(5,.H .one [I ((k:Nat):Int)])]) (λk=>k<=m.y.length) (λk=>m.y.length - k) (0) ?_ (W0 _) λk l=>?_
 ·exact wB
 by_cases e:k<m.y.length
 ·have d:=au e
  have a:(nth m.y k).length<=1048576:=b.2.2 _ (ar e)
  repeat'(first|refine gE ?_|(conv=>whnf);first|with_reducible refine CD (aa d) ?_|refine CX (λ_=>rfl) (λ_=>rfl) a (by decide) ?_|refine Ap.sn (aV λ_=>rfl) rfl (by simp;omega) (by decide) (fE e) ?_)
  ((conv=>whnf);refine CE (k+1) ω ω ?_;(exact wB))
 repeat'(first|refine gE ?_|fail)
 obtain rfl:k=m.y.length:=ω
 rw[C5]
 rfl
def zi(m:aN)(b:aN.sml m):zzA 183 false [.val (some 2) (aN.enc .V m)] .agg (aN.enc .own m):=by
 have h:=b.1.1;have g:=b.2.1;refine fO 41 [(5,6,[16,17,18,19,20,21]),(10,5,[32,33,34,35,36])] Tryz.func183 rfl ?_ (.inr (aN.enc_fr _))
 repeat'(first|refine gP ?_|fail)
 (conv=>whnf)
 refine CJ (ι:=Nat) (λi=>[(1,.H .box (aN.enc .V m)),(2,.H .box [.z,.z]),(3,.H .box [.s .own ((m.U.take i).map (cF .own)),.z]),(10,.H .one (xh .V m.U)),(11,.H .one [I (m.U.length)]),(12,.H .one [I ((i:Nat):Int)])]) (λi=>i<=m.U.length) (λi=>m.U.length - i) (0) ?_ (W0 _) λi j=>?_
 ·exact wB
 by_cases c:i<m.U.length
 ·have d:=au c
  have a:(nth m.U i).length<=1048576:=(b.1.2 _ (ar c)).1
  repeat'(first|refine gE ?_|(conv=>whnf);first|with_reducible refine CD (aa d) ?_|refine CX (λ_=>rfl) (λ_=>rfl) a (by decide) ?_|refine Ap.sn (aV λ_=>rfl) rfl (by simp;omega) (by decide) (fE c) ?_)
  ((conv=>whnf);refine CE (i+1) ω ω ?_;(exact wB))
 obtain rfl:i=m.U.length:=ω
 rw[C5]
 repeat'(first|refine gE ?_|fail)
 (conv=>whnf)
 refine CJ (ι:=Nat) (λk=>[(2,.H .box [.z,.z]),(3,.H .box [.s .own (m.U.map (cF .own)),.s .own ((m.y.take k).map (aH .own))]),(26,.H .one (jq .V m.y)),(27,.H .one [I (m.y.length)]),(28,.H .one [I ((k:Nat):Int)])]) (λk=>k<=m.y.length) (λk=>m.y.length - k) (0) ?_ (W0 _) λk l=>?_
 ·exact wB
 by_cases e:k<m.y.length
 ·have d:=au e
  have a:(nth m.y k).length<=1048576:=b.2.2 _ (ar e)
  repeat'(first|refine gE ?_|(conv=>whnf);first|with_reducible refine CD (aa d) ?_|refine C8 (jG (nth m.y k) a) ?_|refine Ap.sn (aV λ_=>rfl) rfl (by simp;omega) (by decide) (fE e) ?_)
  ((conv=>whnf);refine CE (k+1) ω ω ?_;(exact wB))
 repeat'(first|refine gE ?_|fail)
 obtain rfl:k=m.y.length:=ω
 rw[C5]
 rfl
def sS(q:bM)(b:bM.sml q):zzA 206 false [.val (some 2) (bM.enc .V q)] .agg (bM.enc .own q):=by
 have a:q.a6.length<=1048576:=b.1;refine fO 10 [(1,6,[3,4,5,6,7,8])] Tryz.func206 rfl ?_ (.inr (bM.enc_fr _))
 repeat'(first|refine gP ?_|(conv=>whnf);first|refine CX (λ_=>rfl) (λ_=>rfl) a (by decide) ?_|refine CR (λ_=>rfl) (λ_=>rfl) a (by decide) ?_)
 rfl
def yZ(q:bM)(b:bM.sml q):zzA 184 false [.val (some 2) (bM.enc .V q)] .agg (bM.enc .own q):=by
 have a:q.a6.length<=1048576:=b.1;refine fO 10 [(1,6,[3,4,5,6,7,8])] Tryz.func184 rfl ?_ (.inr (bM.enc_fr _))
 repeat'(first|refine gP ?_|(conv=>whnf);first|refine CX (λ_=>rfl) (λ_=>rfl) a (by decide) ?_|refine CR (λ_=>rfl) (λ_=>rfl) a (by decide) ?_)
 rfl
def sG(j:cE)(a:cE.sml j):zzA 207 false [.val (some 5) (cE.enc .V j)] .agg (cE.enc .own j):=by
 have b:j.X.T.length<=1048576:=a;refine fO 11 [] Tryz.func207 rfl ?_ (.inr (cE.enc_fr _))
 repeat'(first|refine gP ?_|(conv=>whnf);first|refine CR (λ_=>rfl) (λ_=>rfl) b (by decide) ?_)
 rfl
def ou(xs:List aB)(a:gw xs):zzA 181 false [.val none (bv .V xs)] .one (bv .own xs):=by
 have b:=a.1;refine fO 6 [] Tryz.func181 rfl ?_ (.inr (i6 _))
 repeat'(first|refine gP ?_|(conv=>whnf);first|refine CR (λ_=>rfl) (λ_=>rfl) b (by decide) ?_)
 rfl
def T0(h:ac)(a:C):List C:=[.s .own (h.G.F.W.T.map (aH .own)),.s .own (h.G.F.W.a5.map (rB .own)),.s .own (h.G.F.R.K.map (bk.enc .own)),I h.G.Calls,.s .own (h.G.a0.map (rI .own)),.s .own (h.j.map (aB.enc .own)),.s .own (h.J.map (aA.enc .own)),.s .own (h.M.map (aD.enc .own)),.s .own (h.O.map (bt.enc .own)),a,.s .V (h.w.U.map (cF .V)),.s .V (h.w.y.map (aH .V)),I h.a7.c1,.s .V (h.a7.a6.map (aT.enc .V)),I h.b3,I h.b1,I h.c0,I h.b,B h.u,I h.Y.X.a3,I h.Y.X.a1,.s .V (h.Y.X.T.map (rI .V)),I h.Y.b0,I h.Y.b]
def J7:List C:=[.z,.z,.z,I 0,.z,.z,.z,.z,.z,.z,.z,.z,I 0,.z,I 0,I 0,I 0,I 0,B false,I 0,I 0,.z,I 0,I 0]
def BM(h:ac)(c:ac.sml h):zzA 72 false [.val (some 24) (ac.enc .V h)] .agg (ac.enc .own h):=by
 obtain⟨d,e,g,j,k,b,l,n,o⟩:=c;have p:=e.1;have q:=g.1;have r:=j.1;have t:=k.1;have w:=b.1;refine fO 61 [] Tryz.func72 rfl ?_ (.inr (ac.enc_fr _))
 repeat'(first|refine gP ?_|(conv=>whnf);first|refine C8 (DE h.G d) ?_|refine CR (λ_=>rfl) (λ_=>rfl) p (by decide) ?_|refine CR (λ_=>rfl) (λ_=>rfl) q (by decide) ?_|refine CR (λ_=>rfl) (λ_=>rfl) r (by decide) ?_|refine CR (λ_=>rfl) (λ_=>rfl) t (by decide) ?_)
 (conv=>whnf)
 refine CJ (ι:=Nat) (λi=>[(1,.H .box (T0 h (.s .V (h.S.map (aE.enc .V))))),(2,.H .box J7),(3,.H .one ([.s .own ((h.S.take i).map (aE.enc .own))])),(4,.H .one [I ((i:Nat):Int)])]) (λi=>i<=h.S.length) (λi=>h.S.length - i) (0) ?_ (W0 _) λi y=>?_
 ·exact wB
 by_cases a:i<h.S.length
 ·have u:=au a
  repeat'(first|refine gE ?_|(conv=>whnf);first|with_reducible refine CD (aa u) ?_|refine C8 (iV (nth h.S i) (b.2 _ (ar a))) ?_|refine Ap.sn (aV λ_=>rfl) rfl (by simp;omega) (by decide) (fE a) ?_)
  ((conv=>whnf);refine CE (i+1) ω ω ?_;(exact wB))
 obtain rfl:i=h.S.length:=ω
 rw[C5]
 repeat'(first|refine gE ?_|(conv=>whnf);first|refine C8 (fU h.w l) ?_|refine C8 (sS h.a7 n) ?_|refine C8 (sG h.Y o) ?_)
 rfl
def yP(h:ac)(c:ac.sml h):zzA 62 false [.val (some 24) (ac.enc .V h)] .agg (ac.enc .own h):=by
 obtain⟨d,e,g,j,k,b,l,n,o⟩:=c;have p:=g.1;have q:=j.1;have r:=k.1;have u:=b.1;refine fO 59 [(11,5,[38,39,40,41,42])] Tryz.func62 rfl ?_ (.inr (ac.enc_fr _))
 repeat'(first|refine gP ?_|(conv=>whnf);first|refine C8 (ko h.G d) ?_|refine C8 (ou h.j e) ?_|refine CR (λ_=>rfl) (λ_=>rfl) p (by decide) ?_|refine CR (λ_=>rfl) (λ_=>rfl) q (by decide) ?_|refine CR (λ_=>rfl) (λ_=>rfl) r (by decide) ?_)
 (conv=>whnf)
 refine CJ (ι:=Nat) (λi=>[(1,.H .box (ac.enc .V h)),(2,.H .box J7),(3,.H .box (T0 h (.s .own ((h.S.take i).map (aE.enc .own))))),(32,.H .one (pH .V h.S)),(33,.H .one [I (h.S.length)]),(34,.H .one [I ((i:Nat):Int)])]) (λi=>i<=h.S.length) (λi=>h.S.length - i) (0) ?_ (W0 _) λi w=>?_
 ·exact wB
 by_cases a:i<h.S.length
 ·have t:=au a
  repeat'(first|refine gE ?_|(conv=>whnf);first|with_reducible refine CD (aa t) ?_|refine C8 (kX (nth h.S i) (b.2 _ (ar a))) ?_|refine Ap.sn (aV λ_=>rfl) rfl (by simp;omega) (by decide) (fE a) ?_)
  ((conv=>whnf);refine CE (i+1) ω ω ?_;(exact wB))
 obtain rfl:i=h.S.length:=ω
 rw[C5]
 repeat'(first|refine gE ?_|(conv=>whnf);first|refine C8 (zi h.w l) ?_|refine C8 (yZ h.a7 n) ?_|refine C8 (BY h.Y o) ?_)
 rfl
theorem Ap.sm{a:List (List C)}(h1:∀r∈rows,r.length=sz)(e:r.length=sz)(f:rows.length+1<=1073741824)(b:by_<=1000)(c:a=rows++[r])(d:K a):Ap false rows [r] sz by_ K:=
 CU h1 ψ ψ (by simp;omega) (Z4 (Nat.mul_le_mul ω b) (by decide)) c d
def Kh(y:aB)(a:List aB)(r:aB)(out:List aB)(done:Bool):kh (y::a) r out done=if ovl y r then none
  else if y.At+y.a8=r.At then kh a ⟨y.At,y.a8+r.a8⟩ out done
  else if r.At+r.a8=y.At then kh a ⟨r.At,r.a8+y.a8⟩ out done
  else if y.At > r.At/\done=false then kh a r (out++[r,y]) true
  else kh a r (out++[y]) done:=by rw[kh]
variable{xs:List aB}{pages:Int}
theorem wg(h:bC pages xs=true):ju xs/\∀y∈xs,0<=y.At/\1<=y.a8/\y.At+y.a8<=pages:=by
 unfold bC at h;simp only[I0,C0]at h;have d:∀i,i<xs.length->1<=(nth xs i).a8/\0<=(nth xs i).At/\(nth xs i).At<=pages - (nth xs i).a8:=λi a=>by grind [fj,gm,rangeIn]
 have e:∀i,i+1<xs.length->(nth xs i).At+(nth xs i).a8<(nth xs (i+1)).At:=λi a=>by grind [fj,gm]
 have f:∀j i,i<j->j<xs.length->(nth xs i).At+(nth xs i).a8<(nth xs j).At:=λj=>by
  induction j with
  | zero=>intro i a;omega
  | succ j k=>
   grind
 refine⟨⟨?_,λy g=>?_⟩,λy g=>?_⟩
 ·rw[List.pairwise_iff_getElem]
  intro i j a c b;have:=f j i b c
  rwa [bn (O2 a),bn (O2 c)]at this
 all_goals grind [aP]
theorem iS[Inhabited α]{xs:List α}(a:i<xs.length):xs.drop i=nth xs i::xs.drop (i+1):=by
 rw[List.drop_eq_getElem_cons a,bn (O2 a)]
def dH(pages:Int)(xs:List aB)(r:aB):Option (List aB):=if bC pages xs=true/\rangeIn pages r=true then kh xs r [] false else none
def He(xs:List aB)(o:Option (List aB)):List C:=bv .own (o.getD xs)++[B o.isSome]
def tF(xs:List aB)(o:Option (List aB)):hC (He xs o):=aW (i6 _) ⟨trivial,trivial⟩
theorem wi[Inhabited α](R:Int->Int->Prop)(n:∀a b c,R a b->R b c->R a c)(f:α->Int)(xs:List α):(∀i,i<xs.length->i=0\/R (f (nth xs (i - 1))) (f (nth xs i)))↔xs.Pairwise (λa b=>R (f a) (f b)):=by
 constructor
 ·intro h
  have l:∀j i,i<j->j<xs.length->R (f (nth xs i)) (f (nth xs j)):=λj=>by
   induction j with
   | zero=>intro i d;omega
   | succ j o=>
    grind
  rw[List.pairwise_iff_getElem];intro i j d k g;have:=l j i g k
  rwa [bn (O2 d),bn (O2 k)]at this
 intro h i d;by_cases e:i=0
 ·exact .inl e
 right
 have:=List.pairwise_iff_getElem.1 h (i - 1) i ω d ω
 rwa [<-bn (O2 (show i - 1<xs.length by omega)),<-bn (O2 d)]at this
theorem Bg[Inhabited α](f:α->Int)(xs:List α):(∀i,i<xs.length->∀o∈xs.take i,f o≠f (nth xs i))↔(xs.map f).Nodup:=by
 unfold List.Nodup;rw[List.pairwise_map,List.pairwise_iff_getElem];constructor
 ·intro h i j b a c
  have:=h j a xs[i] (List.mem_take_iff_getElem.2 ψ)
  rwa [bn (O2 a)]at this
 intro h i b o d;obtain⟨j,a,rfl⟩:=List.mem_take_iff_getElem.1 d;rw[bn (O2 b)]
 grind
def eE(s:aA)(a:Int):Prop:=16*s.Q<=a/\a<=16*s.Q+15/\(a - 16*s.Q) % csz s.d=0/\aZ s.a9 ((a - 16*s.Q) / csz s.d)=true
def je(sp:List aA)(a c:Int):Prop:=∃s∈sp,eE s a/\(c<0\/s.d=c)
def Uf(la:List aD)(a z:Int):Prop:=∃l∈la,a=16*l.Q/\l.q=z
def Mc(sp:List aA)(la:List aD)(o:bt):Prop:=(∃s∈sp,eE s o.Addr/\s.d=aL o.q)\/Uf la o.Addr o.q
def mM(sp:List aA)(la:List aD)(a:Int):Prop:=je sp a (-1)\/∃l∈la,a=16*l.Q
theorem mV(f:oH sp la)(a:Int):(∃i,i<sp.length/\(16*(nth sp i).Q<=a/\a<=16*(nth sp i).Q+15)/\denotes sp la a=qp i (nth sp i) a)\/((∀s∈sp,¬(16*s.Q<=a/\a<=16*s.Q+15))/\((∃i,i<la.length/\bO (nth la i) a=true/\denotes sp la a = ⟨3,i,0,a - 16*(nth la i).Q⟩)\/((∀l∈la,bO l a=false)/\denotes sp la a = ⟨0,0,0,0⟩))):=by
 cases d:sp.findIdx? (d5 · a) with
 | some i=>
  obtain⟨b,c,-⟩:=C7.1 d;rw[<-bn (O2 b)]at c
  grind [gF,oH.sok,ar,denotes]
 | none=>
  have g:=List.findIdx?_eq_none_iff.1 d;refine .inr ⟨λs h j=>?_,?_⟩
  ·grind [gF,oH.sok]
  cases e:la.findIdx? (bO · a) with
  | some i=>
   obtain⟨b,c,-⟩:=C7.1 e;rw[<-bn (O2 b)]at c
   grind [denotes]
  | none=>grind [denotes]
theorem Ng(l:oH h.J h.M) : du h a c=true↔je h.J a c:=by
 unfold du;simp only[I0,O6,C0];constructor
 ·rintro⟨⟨b,f⟩,d⟩
  rcases mV l a with⟨i,j,k,g⟩|⟨-,⟨i,j,-,g⟩|⟨-,g⟩⟩
  ·rw[g]at b f d
   simp only[qp]at b f d;refine⟨_,ar j,⟨k.1,k.2,f,?_⟩,by simpa using d⟩;cases e:aZ (nth h.J i).a9 ((a - 16*(nth h.J i).Q) / csz (nth h.J i).d) with
   | true=>rfl
   | false=>rw[e]at b;simp at b
  all_goals grind
 rintro⟨s,n,⟨o,p,q,r⟩,d⟩
 grind [aP,jB,qp]
theorem yd(a:oH sp la)(c:l∈la):(∀s∈sp,¬(16*s.Q<=16*l.Q/\16*l.Q<=16*s.Q+15))/\bO l (16*l.Q)=true/\∀i,i<la.length->bO (nth la i) (16*l.Q)=true->nth la i=l:=by
 have k:=aS (a.lok _ c);have f:=cT (a.lok _ c);refine⟨λs g n=>?_,?_,λi d e=>?_⟩
 ·exact a.dis s g l c 0 ω ω
 ·grind [oH.lok,bO]
 obtain⟨j,h,rfl⟩:=aP c;have o:=aS (a.lok _ (ar d));have b:=a.lok _ (ar d);unfold bN at b;rw[C0]at b;unfold bO at e;rw[I0,C0]at e;rw[a.one i j d h ((nth la j).Q - (nth la i).Q).toNat 0 ω ω ω]
theorem Pj(f:oH h.J h.M) : k7 h o=true↔Mc h.J h.M o:=by
 unfold k7;simp only[I0,O6,C0];constructor
 ·rintro⟨b,a⟩
  rcases mV f o.Addr with⟨i,d,g,c⟩|⟨-,⟨i,d,-,c⟩|⟨-,c⟩⟩
  ·rw[c]at a b
   simp only[qp]at a b;have e:aZ (nth h.J i).a9 ((o.Addr - 16*(nth h.J i).Q) / csz (nth h.J i).d)=true:=ψ
   rw[e]at a;exact .inl ⟨_,ar d,⟨g.1,g.2,b,e⟩,by simpa using a⟩
  ·rw[c]at a b
   simp only at a b;exact .inr ⟨_,ar d,ω,by simpa using a⟩
  grind
 rintro(⟨s,e,⟨k,n,p,q⟩,r⟩|⟨l,j,t,u⟩)
 ·grind [aP,jB,qp]
 obtain⟨w,y,A⟩:=yd f j
 grind [mV,ar]
theorem M8(j:oH sp la)(a:Int):a∈kw sp la↔mM sp la a:=by
 constructor
 ·intro h
  unfold kw lS at h;obtain⟨n,o,rfl⟩:=O4.1 h;have c:=(U4.1 o).2;unfold kg at c;simp only[I0,O6,C0]at c;obtain⟨b,d⟩:=c;rcases mV j (n:Int) with⟨i,g,k,f⟩|⟨-,⟨i,g,-,f⟩|⟨-,f⟩⟩
  ·rw[f]at d b
   simp only[qp]at d b;refine .inl ⟨_,ar g,⟨k.1,k.2,b,?_⟩,.inl ω⟩;cases e:aZ (nth sp i).a9 (((n:Int) - 16*(nth sp i).Q) / csz (nth sp i).d) with
   | true=>rfl
   | false=>rw[e]at d;simp at d
  ·rw[f]at b
   simp only at b;exact .inr ⟨_,ar g,ω⟩
  grind
 rintro(⟨s,q,⟨r,c,t,u⟩,-⟩|⟨l,p,rfl⟩)
 ·grind [aP,jB,wc,qp]
 obtain⟨w,y,A⟩:=yd j p
 grind [mV,ar,wc]
def RH(xs:List aB)(p:Int):Prop:=∃r∈xs,r.At<=p/\p<r.At+r.a8
theorem fT : bC pages xs=true↔ju xs/\(∀y∈xs,0<=y.At/\1<=y.a8/\y.At+y.a8<=pages)/\1<=pages/\pages<=32:=by
 constructor
 ·grind [wg,bC]
 rintro⟨b,c,d⟩
 unfold bC;simp only[I0,C0];refine⟨cQ.2 λi a=>?_,d⟩;have f:=c _ (ar a);unfold gm rangeIn;simp only[I0,C0];refine⟨ω,?_⟩;by_cases e:i=0
 ·exact .inl e
 right
 have:=List.pairwise_iff_getElem.1 b.1 (i - 1) i ω a ω
 rwa [<-bn (O2 (show i - 1<xs.length by omega)),<-bn (O2 a)]at this
theorem Gc(h:bC pages xs=true)(p:Int):xs.any (vG p)=true↔RH xs p:=by
 obtain⟨-,c,d⟩:=fT.1 h;rw[t4];refine⟨λ⟨r,a,b⟩=>⟨r,a,?_⟩,λ⟨r,a,b⟩=>⟨r,a,?_⟩⟩
 all_goals grind [fQ,vG]
theorem wn(i:Int):∀(f:List aB)(r:aB)(out:List aB),ju f->1<=r.a8->(∀y∈f,ovl y r=false)->(∀z∈out,z.At+z.a8<r.At/\∀y∈f,z.At+z.a8<y.At)->ju out->(∀y∈r::(out++f),0<=y.At/\y.At+y.a8<=i)->∃o,kh f r out false=some o/\ju o/\(∀y∈o,0<=y.At/\y.At+y.a8<=i)/\∀p,RH o p↔RH out p\/RH f p\/(r.At<=p/\p<r.At+r.a8)
 | [],r,out,_,l,_,D,g,j=>by
  refine⟨out++[r],by simp[kh],⟨List.pairwise_append.2 ⟨g.1,List.pairwise_singleton ..,ψ⟩,λy k=>?_⟩,ψ,λp=>by grind [RH]⟩;rcases C3.1 k with k|k
  ·exact g.2 y k
  grind
 | y::f,r,out,c,l,E,D,g,j=>by
  have M:=c.2 y ψ;have h:=E y ψ;have F:=c.head;have G:=j y (by simp);have H:=j r (by simp);have J:∀w∈f,¬(w.At<r.At+r.a8/\r.At<w.At+w.a8):=λw d=>by grind [ovl]
  have K:∀w∈f,1<=w.a8:=λw d=>c.2 w ψ
  rw[Kh,C9 (by rw[h];simp)];unfold ovl at h;rw[X4]at h;by_cases n:y.At+y.a8=r.At
  ·rw[CC n]
   obtain⟨o,q,t,u,A⟩:=wn i f ⟨y.At,y.a8+r.a8⟩ out c.tail (by simp only;omega) (λw d=>by grind [ovl]) ψ g ψ
   grind [RH]
  rw[C9 n];by_cases B:r.At+r.a8=y.At
  ·rw[CC B]
   obtain⟨o,q,t,u,A⟩:=wn i f ⟨r.At,r.a8+y.a8⟩ out c.tail (by simp only;omega) (λw d=>by grind [ovl]) ψ g ψ
   grind [RH]
  rw[C9 B];by_cases C:y.At > r.At
  ·have L:r.At+r.a8<y.At:=ω
   rw[CC ⟨C,rfl⟩,pR c.tail l ψ];refine⟨_,rfl,⟨?_,λw d=>?_⟩,ψ,λp=>by grind [RH]⟩
   ·rw[W5]
    refine List.pairwise_append.2 ⟨g.1,?_,λa N b j=>?_⟩
    ·show(r::y::f).Pairwise _
     refine List.pairwise_cons.2 ⟨λw d=>?_,c.1⟩
     grind
    grind
   simp only[C3,List.mem_cons,List.not_mem_nil,or_false]at d;rcases d with(d|rfl|rfl)|d
   ·exact g.2 w d
   all_goals grind
  rw[C9 λe=>C e.1];obtain⟨o,q,t,u,A⟩:=wn i f r (out++[y]) c.tail l ψ ψ ⟨List.pairwise_append.2 ⟨g.1,List.pairwise_singleton ..,ψ⟩,λw d=>by
      rcases C3.1 d with d|d
      · exact g.2 w d
      grind⟩ ψ
  grind [RH]
theorem uY{r:aB}(h:bC pages xs=true)(i:0<=r.At/\1<=r.a8/\r.At+r.a8<=pages)(c:∀p,r.At<=p->p<r.At+r.a8->¬RH xs p):∃o,dH pages xs r=some o/\bC pages o=true/\∀p,RH o p↔RH xs p\/(r.At<=p/\p<r.At+r.a8):=by
 obtain⟨j,k,l⟩:=fT.1 h;have b:rangeIn pages r=true:=by grind [rangeIn]
 unfold dH;rw[CC ⟨h,b⟩];obtain⟨o,n,d,f,q⟩:=wn pages xs r [] j i.2.1 (λy a=>by
   have:=k y a;unfold ovl;rw[X4];intro g;by_cases e:r.At<=y.At
   · exact c y.At e g.1 ⟨y,a,ω,ω⟩
   exact c r.At ω ω ⟨y,a,ω,g.2⟩) ψ ⟨List.Pairwise.nil,ψ⟩ ψ
 refine⟨o,n,fT.2 ⟨d,λy a=>⟨(f y a).1,d.2 y a,(f y a).2⟩,l⟩,λp=>?_⟩
 grind [RH]
structure Pg(t:aM)(fr:List aB)(sp:List aA)(la:List aD):Prop where
 one:∀l∈la,∀p:Nat,(p:Int)∈lpgs l l.a2.toNat->∀q:Nat,q<t.K.length->(nth t.K q).e≠0->(nth t.K q).o=(nth t.K p).o->q=p
 bnd:∀p∈pgs sp la,p<t.K.length
 own:∀p:Nat,p<t.K.length->((nth t.K p).e≠0↔(p:Int)∈pgs sp la)
 fre:∀p:Nat,p<t.K.length->((nth t.K p).e≠0↔¬RH fr p)
 mesh:∀s∈sp,∀u∈sp,s.Q≠u.Q->(nth t.K s.Q.toNat).o=(nth t.K u.Q.toNat).o->meshable s u=true
structure bc(h:ac)(E:List Int):Prop where
 ker:aF h.G=true
 rng:bC (eX h) h.j=true
 lay:bq h.J h.M=true
 srs:h.J.Pairwise λa b=>a.Q<b.Q
 srl:h.M.Pairwise λa b=>a.Q<b.Q
 pg:Pg (tbl h) h.j h.J h.M
 mail:bQ h.w=true
 nc:h.S.length=h.w.U.length
 quar:gk h.a7=true
 snc:∀x∈h.a7.a6,x.b7<=h.b1
 cach:∀c∈h.S,b6 c=true
 nums:cu h=true
 osr:h.O.Pairwise λa b=>a.Addr<b.Addr
 onu:∀o∈h.O,1<=o.Id/\o.Id<=h.b - 1/\0<=o.a4/\o.a4<=h.S.length - 1
 oid:(h.O.map (·.Id)).Nodup
 oow:∀o∈h.O,Mc h.J h.M o
 hca:∀c∈h.S,∀k:Nat,k<c.a.length->∀a∈nth c.a k,je h.J a k
 hqu:∀x∈h.a7.a6,je h.J x.Addr x.d
 hfl:∀a∈aQ h.w,je h.J a (-1)
 hin:∀a∈E,je h.J a (-1)
 nd:(E++holders h).Nodup
 mem:∀a,a∈E++holders h↔mM h.J h.M a
 job:h.u=true->jL h.Y=true/\(∃s∈h.J,s.Q=h.Y.X.a3)/\∃s∈h.J,s.Q=h.Y.X.a1
 noj:h.u=false->sM h.Y=true
variable{E:List Int}
theorem bc.L(a:bc h E):oH h.J h.M:=oH.of a.lay
theorem z6(t:aM)(f:Int):(pagesOn t f).Nodup:=by grind [List.nodup_range,pagesOn,jY]
def PU{l:List Int}(b:l.Nodup)(d:a∈l)(c:∀x∈l,x=a):l.length=1:=by
 match l with
 | []=>cases d
 | [_]=>rfl
 | x::y::r=>
  exfalso;have e:=c x (by simp);have f:=c y (by simp);rw[e,f]at b;simp at b
theorem d6(a:s∈sp):s.Q∈pgs sp la:=by grind [pgs]
theorem gd(a:l∈la)(b:p∈lpgs l l.a2.toNat):p∈pgs sp la:=by grind [pgs]
theorem Ue(b:bq h.J h.M=true)(N:bC (eX h) h.j=true)(A:pages0 h=true)(r:oO h=true):Pg (tbl h) h.j h.J h.M:=by
 have B:=oH.of b;obtain⟨C,D,t⟩:=sw A;have E:∀p:Nat,p<eX h->((nth (tbl h).K p).e≠0↔¬RH h.j p):=λp a=>by grind [fj,Gc,pages0,vF]
 refine⟨λl w p c q F e f=>?_,D,t,E,λs G u H J O=>?_⟩
 ·obtain⟨i,y,rfl⟩:=aP w
  obtain⟨k,g,n⟩:=dx.1 c;have a:p<eX h:=by grind [gd]
  have d:=(t p a).2 (gd w c);have K:=C i y k g;rw[<-n,fy a d]at K;have P:(p:Int)∈pagesOn (tbl h) (nth (tbl h).K p).o:=eK.2 ⟨a,d,rfl⟩;have Q:(q:Int)∈pagesOn (tbl h) (nth (tbl h).K p).o:=eK.2 ⟨F,e,f⟩
  grind [List.length_eq_one_iff]
 obtain⟨i,y,rfl⟩:=aP G;obtain⟨j,R,rfl⟩:=aP H;have L:∀k,k<h.J.length->af (tbl h) (nth h.J k).Q=nth (tbl h).K (nth h.J k).Q.toNat:=λk g=>by
  have S:=aI (B.sok _ (ar g))
  grind [d6,AX,nth]
 unfold oO at r;rw[cQ]at r;rcases Nat.lt_trichotomy i j with o|M|o
 all_goals grind [fj,gL,mA]
theorem Lx(sp:List aA):dd sp.length (xi sp)=true↔sp.Pairwise λa b=>a.Q<b.Q:=by
 rw[cQ];refine Iff.trans ?_ (wi (λa b:Int=>a<b) ω (λs:aA=>s.Q) sp)
 grind [xi]
theorem Lt(la:List aD):dd la.length (xe la)=true↔la.Pairwise λa b=>a.Q<b.Q:=by
 rw[cQ];refine Iff.trans ?_ (wi (λa b:Int=>a<b) ω (λs:aD=>s.Q) la)
 grind [xe]
theorem Tv(o:bq h.J h.M=true)(C:bC (eX h) h.j=true)(h1:h.J.Pairwise λa b=>a.Q<b.Q)(A:h.M.Pairwise λa b=>a.Q<b.Q)(c:Pg (tbl h) h.j h.J h.M):pages0 h=true/\oO h=true:=by
 have u:=oH.of o;constructor
 ·unfold pages0
  simp only[I0];refine⟨⟨⟨(Lx _).2 h1,cQ.2 λi l=>?_⟩,v4.2 λp n=>O0 (c.bnd p n)⟩,cQ.2 λp n=>?_⟩
  ·unfold tU
   rw[I0];refine⟨fj ((Lt _).2 A) l,cQ.2 λk w=>?_⟩;have y:=ar l;have D:=aS (u.lok _ y);obtain⟨p,n⟩ : ∃p:Nat,(nth h.M i).Q+(k:Nat)=(p:Nat):=⟨((nth h.M i).Q+k).toNat,ω⟩
   have q:(p:Int)∈lpgs (nth h.M i) (nth h.M i).a2.toNat:=dx.2 ψ;have d:p<eX h:=by have:=c.bnd _ (gd (sp:=h.J) y q);exact Int.ofNat_lt.1 this
   have r:=(c.own p d).2 (gd y q);unfold xE;rw[C0,n,fy d r];refine PU (z6 ..) (eK.2 ⟨d,r,rfl⟩) λx E=>?_
   grind [vh,eK,Pg.one]
  unfold vF;rw[I0,C0];refine⟨c.own p n,?_⟩;have F:=c.fre p n
  grind [Gc]
 unfold oO;refine cQ.2 λi l=>cQ.2 λj G=>?_
 have g:j<h.J.length:=ω
 have t:∀k,k<h.J.length->af (tbl h) (nth h.J k).Q=nth (tbl h).K (nth h.J k).Q.toNat:=λk w=>by
  have H:=aI (u.sok _ (ar w));have J:=c.bnd _ (d6 (la:=h.M) (ar w))
  grind [AX,eX,tbl]
 unfold mA;rw[t i l,t j g,O6,C0];by_cases e:(nth (tbl h).K (nth h.J i).Q.toNat).o=(nth (tbl h).K (nth h.J j).Q.toNat).o
 ·refine .inr (c.mesh _ (ar l) _ (ar g) (λB=>?_) e)
  have:=cM (f:=(·.Q)) u.nd l g B;omega
 exact .inl e
theorem NW(c:cu h=true)(d:oH h.J h.M):gp h=true↔(h.O.Pairwise λa b=>a.Addr<b.Addr)/\(∀o∈h.O,1<=o.Id/\o.Id<=h.b - 1/\0<=o.a4/\o.a4<=h.S.length - 1)/\(h.O.map (·.Id)).Nodup/\∀o∈h.O,Mc h.J h.M o:=by
 unfold cu at c;rw[C0]at c;refine Iff.trans ?_ (and_congr (wi (λa b:Int=>a<b) ω (λo:bt=>o.Addr) h.O) (and_congr Iff.rfl (and_congr (Bg (λo:bt=>o.Id) h.O) Iff.rfl)));unfold gp;rw[fQ ω ω,cQ];have e:∀i,i<h.O.length->(objAt (h.b - 1) h i=true↔(i=0\/(nth h.O (i - 1)).Addr<(nth h.O i).Addr)/\(1<=(nth h.O i).Id/\(nth h.O i).Id<=h.b - 1/\0<=(nth h.O i).a4/\(nth h.O i).a4<=h.S.length - 1)/\(∀o∈h.O.take i,o.Id≠(nth h.O i).Id)/\Mc h.J h.M (nth h.O i)):=λi f=>by grind [Pj,objAt,io,lc]
 grind [aP,ar]
def GB(b:oH h.J h.M):jC h=true↔(∀c∈h.S,∀k:Nat,k<c.a.length->∀a∈nth c.a k,je h.J a k)/\(∀x∈h.a7.a6,je h.J x.Addr x.d)/\∀a∈aQ h.w,je h.J a (-1):=by
 rw[pw];simp only[v4,eU,cQ,tq,hB,kD,Ng b,and_assoc]
theorem Qx : 0<=gJ h p↔∃s∈h.J,s.Q=p:=by grind [gJ,cW,mw]
theorem bc.to(b:bc h []):gY h=true:=by
 have c:=b.L;obtain⟨e,g⟩:=Tv b.lay b.rng b.srs b.srl b.pg;have d:=(NW b.nums c).2 ⟨b.osr,b.onu,b.oid,b.oow⟩;have f:=(GB c).2 ⟨b.hca,b.hqu,b.hfl⟩;unfold gY nZ;simp only[I0];refine⟨⟨⟨⟨⟨⟨⟨⟨⟨⟨b.ker,b.rng⟩,b.lay⟩,e⟩,by grind [AG,bc.lay]⟩,?_⟩,?_⟩,v4.2 b.cach⟩,b.nums⟩,d,?_⟩,?_⟩
 ·grind [bc.mail,bc.quar,bc.nc,dL]
 ·grind [bc.snc,og]
 ·unfold ky
  have i:(holders h).Nodup:=by simpa using b.nd
  have j:∀a,a∈holders h↔a∈kw h.J h.M:=λa=>by rw[M8 c,<-b.mem a];simp
  grind [vt,List.Perm.length_eq]
 grind [bc.job,Qx,bc.noj,wt]
def dele(xs:List α)(i:Nat):List α:=xs.take i++xs.drop (i+1)
theorem eP(xs:List α)(i:Nat):(dele xs i).Sublist xs:=by
 unfold dele;rw[<-List.eraseIdx_eq_take_drop_succ];grind
theorem AP[Inhabited α]{xs:List α}(a:i<xs.length):xs.Perm (nth xs i::dele xs i):=by
 have:xs=xs.take i++nth xs i::xs.drop (i+1):=by grind [iS,List.take_append_drop]
 conv=>lhs;rw[this]
 exact List.perm_middle
theorem iI{α:Type}[Inhabited α](f:α->List Int)(a:Int):∀(xs:List α)(i:Nat)(y:α),i<xs.length->((xs.set i y).flatMap f).count a+(f (nth xs i)).count a=(xs.flatMap f).count a+(f y).count a
 | [],i,_,h=>by cases h
 | x::xs,0,y,_=>by
  show((y::xs).flatMap f).count a+(f x).count a=((x::xs).flatMap f).count a+(f y).count a
  grind
 | x::xs,i+1,y,h=>by
  have:=iI f a xs i y (by simpa using h);show((x::xs.set i y).flatMap f).count a+(f (nth xs i)).count a=((x::xs).flatMap f).count a+(f y).count a
  grind
theorem lE(a:List (List Int)):a.flatten=a.flatMap λx=>x:=by simp_all
theorem je.any(h:je sp a c):je sp a (-1):=by
 obtain⟨s,b,d,-⟩:=h;exact⟨s,b,d,.inl (by decide)⟩
def bc.cells(a:bc h E)(c:aF k=true)(b:k.F.R=h.G.F.R):bc {h with G:=k} E:=
 {a with
   ker:=c
   rng:=by show bC ((k.F.R.K.length:Nat):Int) h.j=true;rw[b];exact a.rng
   pg:=by show Pg k.F.R h.j h.J h.M;rw[b];exact a.pg}
theorem bc.dropO(b:bc h E)(e:i<h.O.length)(j:je h.J (nth h.O i).Addr (-1)):bc {h with O:=dele h.O i} ((nth h.O i).Addr::E):=by
 have f:(E++holders h).Perm (((nth h.O i).Addr::E)++holders {h with O:=dele h.O i}):=by
  have g:=(AP e).map (·.Addr);refine List.perm_iff_count.2 λa=>?_
  have k:=g.count_eq a
  grind [holders,cC]
 have c:(dele h.O i).Sublist h.O:=eP ..;exact {b with
   osr:=b.osr.sublist c
   onu:=λo d=>b.onu o (c.subset d)
   oid:=b.oid.sublist (c.map _)
   oow:=λo d=>b.oow o (c.subset d)
   hin:=λa l=>by grind [bc.hin]
   nd:=f.nodup_iff.1 b.nd
   mem:=λa=>by grind [bc.mem]}
def pn(c:aE)(k:Nat)(a:Int):aE:=⟨c.a.set k (nth c.a k++[a])⟩
theorem bc.put{t k:Nat}(e:bc h (a::E))(f:t<h.S.length)(g:k<(nth h.S t).a.length)(p:je h.J a k)(q:b6 (pn (nth h.S t) k a)=true):bc {h with S:=h.S.set t (pn (nth h.S t) k a)} E:=by
 have i:(a::E++holders h).Perm (E++holders {h with S:=h.S.set t (pn (nth h.S t) k a)}):=by
  refine List.perm_iff_count.2 λb=>?_
  have r:=iI (λc:aE=>c.a.flatten) b h.S t (pn (nth h.S t) k a) f;have l:=iI (λx:List Int=>x) b (nth h.S t).a k (nth (nth h.S t).a k++[a]) g;rw[<-lE,<-lE]at l
  grind [pn,holders,cC]
 exact {e with
   nc:=by grind [bc.nc]
   cach:=λc d=>by grind [bc.cach]
   onu:=by show ∀o∈h.O,1<=o.Id/\o.Id<=h.b - 1/\0<=o.a4/\o.a4<=(h.S.set t _).length - 1;rw[U1];exact e.onu
   hca:=λc d j u b n=>by
     rcases V6 d with d|rfl
     all_goals grind [bc.hca,bF,ar,pn]
   hin:=λb n=>e.hin b ψ
   nd:=i.nodup_iff.1 e.nd
   mem:=λb=>by grind [bc.mem]}
theorem bc.toQuar{x:aT}{q:bM}{out:List aT}(c:bc h (x.Addr::E))(f:gk q=true)(d:h.a7.a6++[x]=out++q.a6)(j:x.b7<=h.b1)(k:je h.J x.Addr x.d):bc {h with a7:=q} (out.map (·.Addr)++E):=by
 have e:∀y∈out++q.a6,y.b7<=h.b1/\je h.J y.Addr y.d:=λy a=>by
  rw[<-d]at a;rcases C3.1 a with a|a
  ·exact⟨c.snc y a,c.hqu y a⟩
  grind
 have g:(x.Addr::E++holders h).Perm ((out.map (·.Addr)++E)++holders {h with a7:=q}):=by
  refine List.perm_iff_count.2 λb=>?_
  have i:=X0 (λl:List aT=>(l.map (·.Addr)).count b) d;simp only[X5,C6,Z5,List.map_nil,List.count_singleton]at i
  grind [holders,cC]
 exact {c with
   quar:=f
   snc:=(ψ)
   hqu:=(ψ)
   hin:=λb n=>by grind [je.any,bc.hin]
   nd:=g.nodup_iff.1 c.nd
   mem:=λb=>by grind [bc.mem]}
def zF(b i:Int):Int:=((BitVec.ofInt IntKind.i64.bits b &&& ~~~BitVec.ofInt IntKind.i64.bits (2 ^ i.toNat)).toNat:Nat)
def mY(s:aA)(i:Int):aA:={s with a9:=zF s.a9 i}
theorem eL(b i:Int):aZ b i=true↔0<=b/\0<=i/\i<=15/\b.toNat.testBit i.toNat=true:=by grind [aZ]
variable{b:Int}
theorem Fy{i:Int}(d:0<=b/\b<=65535)(a:0<=i/\i<=15)(j:Nat):(zF b i).toNat.testBit j=(b.toNat.testBit j&&decide (i.toNat≠j)):=by
 have e:(2:Int) ^ i.toNat<=32768/\0<=(2:Int) ^ i.toNat:=by
  obtain⟨n,rfl⟩:=z3 a.1;rw[Z2];have:(2:Nat) ^ n<=2 ^ 15:=Nat.pow_le_pow_right (by decide) ω
  grind
 unfold zF;rw[Z2,BitVec.testBit_toNat,BitVec.getLsbD_and,BitVec.getLsbD_not,<-BitVec.testBit_toNat,<-BitVec.testBit_toNat,pO ω,pO ω];rw[show((2:Int) ^ i.toNat).toNat=2 ^ i.toNat by rw[show(2:Int) ^ i.toNat=((2 ^ i.toNat:Nat):Int) by norm_cast,Z2],Nat.testBit_two_pow];by_cases c:j<64
 ·rw[show decide (j<IntKind.i64.bits)=true from O0 c,Bool.true_and]
  grind
 rw[Nat.testBit_lt_two_pow (x:=b.toNat) (i:=j) (Z3 (show b.toNat<2 ^ 16 by omega) (Nat.pow_le_pow_right (by decide) ω))]
 rfl
theorem BR{i:Int}(a:0<=b/\b<=65535):0<=zF b i/\zF b i<=b:=by grind [pO,Nat.and_le_left,zF]
theorem EO{i:Int}(a:0<=b/\b<=65535)(c:0<=i/\i<=15)(j:Int):aZ (zF b i) j=true↔aZ b j=true/\j≠i:=by grind [eL,Fy,BR]
theorem dK(h:bh s=true):0<=s.a9/\s.a9<=65535:=by
 unfold bh at h;simp only[C0]at h;have:=GT s.d;omega
theorem Jm(h:bh s=true)(i:Int):bh (mY s i)=true:=by
 have b:=dK h;have a:=BR (i:=i) b;unfold bh at h;rw[C0]at h;obtain⟨c,d,e,f,j,g⟩:=h;exact O0 ⟨c,d,e,f,a.1,t5 a.2 g⟩
theorem AR{u:aA}(e:bh s=true){i:Int}(f:0<=i/\i<=15)(h:meshable s u=true):meshable (mY s i) u=true:=by
 unfold meshable at h |-;simp only[I0,C0]at h |-;obtain⟨⟨a,b⟩,c,d,g⟩:=h;refine⟨⟨Jm a i,b⟩,c,d,?_⟩;refine Nat.eq_of_testBit_eq λj=>?_
 grind [Fy,dK,mY]
def dz(s:aA)(a:Int):Int:=(a - 16*s.Q) / csz s.d
theorem pN(h:bh s=true)(b:16*s.Q<=a/\a<=16*s.Q+15):0<=dz s a/\dz s a<=15:=by
 have c:=aI h
 grind [bZ,dz]
theorem yC(h:bh s=true)(c:(a - 16*s.Q) % csz s.d=0)(d:(b - 16*s.Q) % csz s.d=0)(e:dz s a=dz s b):a=b:=by
 have f:=aI h
 grind [bZ,dz]
theorem A8(h:bh s=true)(k:eE s a)(b:Int):eE (mY s (dz s a)) b↔eE s b/\b≠a:=by
 obtain⟨l,n,o,p⟩:=k;have c:=pN h ⟨l,n⟩;unfold eE;simp only[mY];rw[EO (dK h) c];constructor
 ·rintro⟨g,i,d,j,f⟩
  exact⟨ψ,λe=>f (by rw[e];rfl)⟩
 rintro⟨⟨g,i,d,j⟩,f⟩
 exact⟨g,i,d,j,λe=>f (yC h d o e)⟩
theorem dZ[Inhabited α]{xs:List α}{y z:α}(h:z∈xs.set i y):z=y\/∃j,j<xs.length/\j≠i/\nth xs j=z:=by
 obtain⟨j,a,rfl⟩:=List.mem_iff_getElem.1 h;rw[List.getElem_set];by_cases e:i=j
 ·subst e;simp
 rw[C9 e];rw[U1]at a;exact .inr ⟨j,a,λx=>e x.symm,bn ψ⟩
theorem jT[Inhabited α]{xs:List α}(y:α)(a:j<xs.length)(e:j≠i):nth xs j∈xs.set i y:=by
 have:nth (xs.set i y) j=nth xs j:=by grind [bF]
 grind [ar]
theorem iL{xs:List α}(y:α)(a:i<xs.length):y∈xs.set i y:=by grind [List.mem_iff_getElem]
def Md(k:Int)(a:i<sp.length):(sp.set i (mY (nth sp i) k)).map (·.Q)=sp.map (·.Q):=by
 rw[I6];refine List.ext_getElem (by simp) λj b c=>?_
 rw[List.getElem_set];split
 ·rename_i e;subst e
  rw[List.getElem_map];show(nth sp i).Q=_;rw[bn (O2 a)]
 rfl
def je.set(q:oH sp la)(k:i<sp.length)(l:eE (nth sp i) a)(b c:Int):je (sp.set i (mY (nth sp i) (dz (nth sp i) a))) b c↔je sp b c/\b≠a:=by
 have g:=q.sok _ (ar k);constructor
 ·rintro⟨s,o,d,h⟩
  rcases dZ o with rfl|⟨j,n,r,rfl⟩
  ·have:=(A8 g l b).1 d
   exact⟨⟨_,ar k,this.1,h⟩,this.2⟩
  refine⟨⟨_,ar n,d,h⟩,λe=>?_⟩;subst e;have:=cM (f:=(·.Q)) q.nd k n (by have t:=l.1;have u:=l.2.1;have w:=d.1;have y:=d.2.1;omega);omega
 rintro⟨⟨s,o,d,h⟩,p⟩
 obtain⟨j,n,rfl⟩:=aP o;by_cases e:j=i
 ·subst e
  exact⟨_,iL _ k,(A8 g l b).2 ⟨d,p⟩,h⟩
 exact⟨_,jT _ n e,d,h⟩
theorem bc.give(d:bc h (a::E))(t:i<h.J.length)(w:eE (nth h.J i) a):bc {h with J:=h.J.set i (mY (nth h.J i) (dz (nth h.J i) a))} E:=by
 have B:=d.L;have G:=B.sok _ (ar t);have O:=pN G ⟨w.1,w.2.1⟩;have f:=λb c=>je.set B t w b c
 have H:=Md (dz (nth h.J i) a) t;generalize J:h.J.set i (mY (nth h.J i) (dz (nth h.J i) a))=sp at f H;have p:pgs sp h.M=pgs h.J h.M:=by grind [pgs]
 have g:=d.nd;rw[List.cons_append]at g;obtain⟨P,g⟩:=List.nodup_cons.1 g;have y:∀b,b∈E++holders h->b≠a:=ψ
 have n:∀b,b∈holders h->b≠a:=ψ
 have Q:∀l∈h.M,16*l.Q≠a:=λl R e=>(yd B R).1 _ (ar t) (by have a1:=w.1;have a2:=w.2.1;omega)
 have q:∀s∈sp,∃u∈h.J,u.Q=s.Q/\(s=u\/s=mY u (dz (nth h.J i) a)):=λs r=>by
  rw[<-J]at r;rcases dZ r with rfl|⟨j,hj,S,rfl⟩
  ·exact⟨_,ar t,rfl,.inr rfl⟩
  grind [ar]
 have T:∀u∈h.J,∃s∈sp,s.Q=u.Q:=λu C=>by
  have:u.Q∈sp.map (·.Q):=ψ
  grind
 exact {d with
   lay:=by grind [bc.lay,Jm,bq]
   srs:=by
     have A:(h.J.map (·.Q)).Pairwise (λa b=>a<b):=List.pairwise_map.2 d.srs
     grind
   pg:=⟨d.pg.one,by rw[p];exact d.pg.bnd,by rw[p];exact d.pg.own,d.pg.fre,λs r u C y U=>by
     obtain⟨V,K,W,X⟩:=q s r;obtain⟨Y,M,Z,hu2⟩:=q u C;have A:=d.pg.mesh V K Y M ω (by rw[W,Z];exact U)
     grind [AR,oH.sok,gL]⟩
   oow:=λo ho=>by
     have N:o.Addr≠a:=n _ (by grind [holders]);rcases d.oow o ho with⟨s,r,A,h2⟩|A
     · obtain⟨u,C,g1,D⟩:=(f o.Addr (aL o.q)).2 ⟨⟨s,r,A,.inr h2⟩,N⟩
       refine .inl ⟨u,C,g1,?_⟩;rcases D with D|D
       · have:=aI (B.sok _ r);omega
       exact D
     exact .inr A
   hca:=λc hc k hk b F=>(f b k).2 ⟨d.hca c hc k hk b F,n b (by
     unfold holders cC;grind [List.mem_flatten,ar])⟩
   hqu:=λx hx=>(f _ _).2 ⟨d.hqu x hx,n _ (by grind [holders])⟩
   hfl:=λb F=>(f _ _).2 ⟨d.hfl b F,n _ (by grind [holders])⟩
   hin:=λb F=>(f _ _).2 ⟨d.hin b ψ,y b ψ⟩
   nd:=g
   mem:=λb=>by
     show b∈E++holders h↔mM sp h.M b
     grind [bc.mem,mM]
   job:=λhm=>by grind [bc.job]}
def unmN(k:am)(p:Int):Nat->am
 | 0=>k
 | n+1=>cJ (unmN k p n) (p+n)
def gM{k:am}(h:aF k=true)(p:Int):∀n,aF (unmN k p n)=true
 | 0=>h
 | n+1=>y2 _ (gM h p n)
theorem eO(k:am)(p:Int):∀n,(unmN k p n).F.R.K.length=k.F.R.K.length/\(unmN k p n).Calls=k.Calls/\(unmN k p n).a0=k.a0
 | 0=>⟨rfl,rfl,rfl⟩
 | n+1=>by
  obtain⟨a,b,c⟩:=eO k p n;obtain⟨d,e,f⟩:=lg (unmN k p n) (p+n);exact⟨d.trans a,e.trans b,f.trans c⟩
theorem rg(h:aF k=true)(g:0<=p/\p<k.F.R.K.length)(q:Nat):nth (cJ k p).F.R.K q=if(q:Int)=p then⟨0,0⟩ else nth k.F.R.K q:=by
 have c:af k.F.R p=nth k.F.R.K p.toNat:=by grind [af]
 unfold cJ;split
 ·rename_i a
  split
  ·rename_i i
   rw[c]at a;have b:=(bu.1 (aG.1 h).2.2.1).1 p.toNat ω;unfold l7 at b;rw[C0]at b;have d:=b.2.2.1 a;rw[show q=p.toNat by omega];generalize nth k.F.R.K p.toNat=e at a d;obtain⟨m,f⟩:=e
   grind
  rfl
 grind [na,bF,lv]
theorem mG{k:am}(h:aF k=true){p:Int}(a:0<=p):∀n:Nat,p+n<=k.F.R.K.length->∀q:Nat,nth (unmN k p n).F.R.K q=if p<=q/\(q:Int)<p+n then⟨0,0⟩ else nth k.F.R.K q
 | 0,_,q=>by rw[C9 ω];rfl
 | n+1,b,q=>by
  have c:=mG h a n ω q;have d:=rg (gM h p n) (p:=p+n) ⟨ω,by grind [eO]⟩ q;show nth (cJ (unmN k p n) (p+n)).F.R.K q=_
  grind
theorem Fu(f:α->List β){xs b:List α}(h:xs.Sublist b):(xs.flatMap f).Sublist (b.flatMap f):=by
 induction h with
 | slnil=>grind
 | cons a _ c=>grind
 | cons_cons a _ c=>grind
theorem yt(c:bc h E)(Y:1<=n)(w:sp.Sublist h.J)(D:la.Sublist h.M)(j:∀q:Int,p<=q->q<p+n->q∈pgs h.J h.M)(K:0<=p)(F:∀q,q∈pgs sp la↔q∈pgs h.J h.M/\¬(p<=q/\q<p+n)) :
  ∃o,dH (eX h) h.j ⟨p,n⟩ = some o/\aF (unmN h.G p n)=true/\bC ((unmN h.G p n).F.R.K.length:Nat) o=true/\bq sp la=true/\Pg (unmN h.G p n).F.R o sp la:=by
 have t:=c.pg.bnd _ (j (p+n - 1) ω ω);have a:=(eO h.G p n).1;have y:p+n<=h.G.F.R.K.length:=by unfold tbl at t;omega
 have g:=mG c.ker K n y;obtain⟨o,Q,R,S⟩:=uY (r:=⟨p,n⟩) c.rng ⟨K,by simp only;omega,y⟩ λq M N=>by
  simp only at M N;obtain⟨m,rfl⟩:=z3 (show 0<=q by omega);have A:m<(tbl h).K.length:=by unfold tbl;omega
  exact(c.pg.fre m A).1 ((c.pg.own m A).2 (j _ M N))
 refine⟨o,Q,gM c.ker p n,by rw[a];exact R,?_,?_⟩
 ·obtain⟨T,U,V⟩:=ee c.lay
  unfold bq;simp only[I0,C0];exact⟨⟨v4.2 λs d=>v4.1 T s (w.subset d),v4.2 λl d=>v4.1 U l (D.subset d)⟩,V.sublist ((w.map _).append (Fu _ D))⟩
 have i:∀q:Nat,(q:Int)∈pgs sp la->nth (unmN h.G p n).F.R.K q=nth (tbl h).K q:=λq f=>by rw[g,C9 ((F q).1 f).2];rfl
 have b:∀q:Nat,(nth (unmN h.G p n).F.R.K q).e≠0↔(nth (tbl h).K q).e≠0/\¬(p<=q/\(q:Int)<p+n):=λq=>by
  rw[g];by_cases e:p<=q/\(q:Int)<p+n
  ·rw[CC e];exact⟨λx=>absurd rfl x,λx=>absurd e x.2⟩
  rw[C9 e];exact⟨λx=>⟨x,e⟩,λx=>x.1⟩
 refine⟨λl d q f r O G B=>?_,λq f=>?_,λq f=>?_,λq f=>?_,λs d u H J P=>?_⟩
 ·have C:=(b r).1 G
  rw[a]at O;rw[i q (gd d f),g,C9 C.2]at B;exact c.pg.one l (D.subset d) q f r O C.1 B
 ·rw[a];exact c.pg.bnd q ((F q).1 f).1
 ·rw[a]at f
  rw[b,F,c.pg.own q f]
 ·rw[a]at f
  rw[b,S,c.pg.fre q f];simp only
  grind
 have k:∀s∈sp,0<=s.Q:=λs d=>(aI (c.L.sok s (w.subset d))).1
 have W:=i s.Q.toNat (by rw[Int.toNat_of_nonneg (k s d)];exact d6 d);have X:=i u.Q.toNat (by rw[Int.toNat_of_nonneg (k u H)];exact d6 H);rw[W,X]at P;exact c.pg.mesh s (w.subset d) u (w.subset H) J P
theorem df[Inhabited α]{xs:List α}{k:Nat}{z:α} : z∈dele xs k↔∃j,j<xs.length/\j≠k/\nth xs j=z:=by
 unfold dele;rw[C3];constructor
 ·rintro(h|h)
  ·obtain⟨j,a,rfl⟩:=List.mem_take_iff_getElem.1 h
   exact⟨j,ω,ω,bn ψ⟩
  obtain⟨j,a,rfl⟩:=List.mem_drop_iff_getElem.1 h;exact⟨k+1+j,ω,ω,bn ψ⟩
 rintro⟨j,a,b,rfl⟩
 rw[bn (O2 a)];by_cases e:j<k
 ·grind [List.mem_take_iff_getElem]
 refine .inr (List.mem_drop_iff_getElem.2 ⟨j - (k+1),ω,?_⟩)
 congr 1;omega
theorem pT{q:Int} : q∈pgs sp la↔(∃s∈sp,s.Q=q)\/∃l∈la,q∈lpgs l l.a2.toNat:=by grind [pgs]
def vY(h:s.a9=0)(a:Int):¬eE s a:=by
 rintro⟨-,-,-,b⟩
 rw[eL,h]at b;simp at b
theorem bc.giveSpan(d:bc h E)(C:i<h.J.length)(r:(nth h.J i).a9=0)(R:h.u=true->(nth h.J i).Q≠h.Y.X.a3/\(nth h.J i).Q≠h.Y.X.a1) :
  ∃o,dH (eX h) h.j ⟨(nth h.J i).Q,1⟩ = some o/\bc {h with G:=cJ h.G (nth h.J i).Q,J:=dele h.J i,j:=o} E:=by
 have D:=d.L;have y:=aI (D.sok _ (ar C));have w:∀q,q∈pgs (dele h.J i) h.M↔q∈pgs h.J h.M/\¬((nth h.J i).Q<=q/\q<(nth h.J i).Q+(1:Nat)):=λq=>by
  rw[pT,pT];constructor
  ·rintro(⟨s,u,rfl⟩|⟨l,S,T⟩)
   ·obtain⟨j,a,A,rfl⟩:=df.1 u
    refine⟨.inl ⟨_,ar a,rfl⟩,λe=>A (cM (f:=(·.Q)) D.nd a C ω)⟩
   grind [dx,oH.dis,ar]
  grind [aP,df]
 obtain⟨o,J,F,G,K,H⟩:=yt d (sp:=dele h.J i) (la:=h.M) (p:=(nth h.J i).Q) (n:=1) (I3 _) (eP ..) ψ (λq U V=>by grind [d6,nth]) y.1 w;have M:unmN h.G (nth h.J i).Q 1=cJ h.G (nth h.J i).Q:=by show cJ h.G ((nth h.J i).Q+((0:Nat):Int))=_;grind
 rw[M]at F G H;have g:∀b c,je (dele h.J i) b c↔je h.J b c:=λb c=>by
  constructor
  ·rintro⟨s,u,t⟩;exact⟨s,(eP ..).subset u,t⟩
  rintro⟨s,u,t,B⟩
  obtain⟨j,a,rfl⟩:=aP u;exact⟨_,df.2 ⟨j,a,λe=>vY r b ψ,rfl⟩,t,B⟩
 refine⟨o,J,{d with
   ker:=F
   rng:=G
   lay:=K
   srs:=d.srs.sublist (eP ..)
   pg:=H
   oow:=λN O=>?_
   hca:=λc y k P b r=>(g b k).2 (d.hca c y k P b r)
   hqu:=λx Q=>(g _ _).2 (d.hqu x Q)
   hfl:=λb r=>(g _ _).2 (d.hfl b r)
   hin:=λb r=>(g _ _).2 (d.hin b r)
   mem:=λb=>(d.mem b).trans ?_
   job:=λW=>?_}⟩
 ·rcases d.oow N O with⟨s,u,t,B⟩|t
  ·obtain⟨j,a,rfl⟩:=aP u
   exact .inl ⟨_,df.2 ⟨j,a,λe=>vY r _ (by rw[<-e];exact t),rfl⟩,t,B⟩
  exact .inr t
 all_goals grind [bc.job,aP,df,mM]
theorem bc.dropL{k:Nat}(d:bc h E)(N:i<h.O.length)(w:k<h.M.length)(F:(nth h.O i).Addr=16*(nth h.M k).Q) :
  ∃o,dH (eX h) h.j ⟨(nth h.M k).Q,(nth h.M k).a2⟩ = some o/\bc {h with G:=unmN h.G (nth h.M k).Q (nth h.M k).a2.toNat,M:=dele h.M k,j:=o,O:=dele h.O i} E:=by
 have y:=d.L;have O:=aS (y.lok _ (ar w));have A:∀q,q∈pgs h.J (dele h.M k)↔q∈pgs h.J h.M/\¬((nth h.M k).Q<=q/\q<(nth h.M k).Q+((nth h.M k).a2.toNat:Nat)):=λq=>by
  rw[pT,pT];constructor
  ·rintro(⟨s,C,rfl⟩|⟨l,f,H⟩)
   ·refine⟨.inl ⟨s,C,rfl⟩,λe=>y.dis s C _ (ar w) (s.Q - (nth h.M k).Q).toNat ω ω⟩
   obtain⟨j,c,g,rfl⟩:=df.1 f;refine⟨.inr ⟨_,ar c,H⟩,λe=>?_⟩;obtain⟨m,P,rfl⟩:=dx.1 H;exact g (y.one j k c w m ((nth h.M j).Q+(m:Int) - (nth h.M k).Q).toNat P ω ω)
  grind [aP,df,dx]
 obtain⟨o,J,Q,R,S,T⟩:=yt d (sp:=h.J) (la:=dele h.M k) (p:=(nth h.M k).Q) (n:=(nth h.M k).a2.toNat) ω ψ (eP ..) (λq Z q2=>gd (ar w) (dx.2 ⟨(q - (nth h.M k).Q).toNat,ω,ω⟩)) O.2.2.1 A;rw[Int.toNat_of_nonneg ω]at J;have U:(E++holders h).Perm ((nth h.O i).Addr::(E++holders {h with O:=dele h.O i})):=by
  have V:=(AP N).map (·.Addr);refine List.perm_iff_count.2 λa=>?_
  have r:=V.count_eq a
  grind [holders,cC]
 have t:=U.nodup_iff.1 d.nd;obtain⟨W,t⟩:=List.nodup_cons.1 t;have u:∀b,(b=(nth h.O i).Addr\/b∈E++holders {h with O:=dele h.O i})↔mM h.J h.M b:=λb=>by grind [bc.mem]
 have B:∀b,b∈E++holders {h with O:=dele h.O i}->b≠(nth h.O i).Addr:=ψ
 refine⟨o,J,{d with
   ker:=Q
   rng:=R
   lay:=S
   srl:=d.srl.sublist (eP ..)
   pg:=T
   osr:=d.osr.sublist (eP ..)
   onu:=λD G=>d.onu D ((eP ..).subset G)
   oid:=d.oid.sublist ((eP ..).map _)
   oow:=λD G=>?_
   nd:=t
   mem:=λb=>?_}⟩
 ·rcases d.oow D ((eP ..).subset G) with r|⟨l,f,K,X⟩
  ·exact .inl r
  obtain⟨j,c,rfl⟩:=aP f;refine .inr ⟨_,df.2 ⟨j,c,λe=>?_,rfl⟩,K,X⟩;subst e;refine B D.Addr (C3.2 (.inr ?_)) (by rw[F];exact K);unfold holders;grind
 constructor
 ·intro M
  rcases(u b).1 (.inr M) with r|⟨l,f,rfl⟩
  ·exact .inl r
  obtain⟨j,c,rfl⟩:=aP f;exact .inr ⟨_,df.2 ⟨j,c,λe=>B _ M (by rw[F,e]),rfl⟩,rfl⟩
 rintro(r|⟨l,f,rfl⟩)
 ·refine((u b).2 (.inl r)).resolve_left λe=>?_
  obtain⟨s,C,⟨Y,g2,-⟩,-⟩:=r;exact(yd y (ar w)).1 s C ω
 obtain⟨j,c,g,rfl⟩:=df.1 f;refine((u _).2 (.inr ⟨_,ar c,rfl⟩)).resolve_left λe=>g ?_
 have Y:=aS (y.lok _ (ar c));rw[F]at e;exact y.one j k c w 0 0 ω ω ω
def f6(h:ac)(p:Int):Bool:=h.u&&(decide (p=h.Y.X.a3) || decide (p=h.Y.X.a1))
def giveP(h:ac)(i:Nat):ac:={h with G:=cJ h.G (nth h.J i).Q,J:=dele h.J i,j:=(dH (eX h) h.j ⟨(nth h.J i).Q,1⟩).getD h.j}
def clrS(h:ac)(i:Nat)(a:Int):ac:={h with J:=h.J.set i (mY (nth h.J i) (dz (nth h.J i) a))}
def freeS(h:ac)(i:Nat)(a:Int):ac:=if(mY (nth h.J i) (dz (nth h.J i) a)).a9=0/\f6 h (nth h.J i).Q=false then giveP (clrS h i a) i else clrS h i a
def vO(h:ac)(a:Int):Nat:=(gJ h (a / 16)).toNat
def freeA(h:ac)(a:Int):ac:=freeS h (vO h a) a
def cput(c:aE)(k a:Int):Option aE:=if b6 c=true/\0<=k/\k<=3/\b6 (pn c k.toNat a)=true then some (pn c k.toNat a) else none
def recyc(t:Nat)(h:ac)(a:Int):ac:=match cput (nth h.S t) (nth h.J (vO h a)).d a with
 | some c=>{h with S:=h.S.set t c}
 | none=>freeA h a
theorem bc.at(e:bc h E)(c:je h.J a (-1)):vO h a<h.J.length/\eE (nth h.J (vO h a)) a/\gJ h (a / 16)=(vO h a:Nat):=by
 obtain⟨s,d,b,-⟩:=c;obtain⟨i,f,rfl⟩:=aP d;have g:(nth h.J i).Q=a / 16:=by have j:=b.1;have k:=b.2.1;omega
 grind [tM,bc.L,vO]
theorem wV(e:f6 h p=false)(a:h.u=true):p≠h.Y.X.a3/\p≠h.Y.X.a1:=by grind [f6]
def bc.freeS{h:ac}{E:List Int}{a:Int}{i:Nat}(f:bc h (a::E))(b:i<h.J.length)(g:eE (nth h.J i) a):bc (freeS h i a) E:=by
 have c:=f.give b g;unfold Ab.freeS;split
 ·rename_i e
  have d:nth (clrS h i a).J i=mY (nth h.J i) (dz (nth h.J i) a):=by unfold clrS;simp only[bF,true_and];rw[CC b]
  obtain⟨o,j,k⟩:=bc.giveSpan (h:=clrS h i a) c (i:=i) (by unfold clrS;simp only[U1];exact b) (by rw[d];exact e.1) (λl=>by rw[d];exact wV e.2 l);unfold giveP;rw[j];exact k
 exact c
theorem bc.freeA{h:ac}{E:List Int}{a:Int}(b:bc h (a::E)):bc (freeA h a) E:=by
 obtain⟨c,d,-⟩:=b.at (b.hin a ψ);exact b.freeS c d
theorem lX{c:aE}(h:b6 c=true):c.a.length=4:=by grind [b6]
theorem bc.recyc{h:ac}{E:List Int}{a:Int}{t:Nat}(b:bc h (a::E))(f:t<h.S.length):bc (recyc t h a) E:=by
 obtain⟨g,i,-⟩:=b.at (b.hin a ψ);unfold Ab.recyc;split
 ·rename_i c d
  unfold cput at d;split at d
  ·rename_i e
   cases d;obtain⟨j,l,n,k⟩:=e;exact b.put f (by rw[lX j];omega) ⟨_,ar g,i,.inr ω⟩ k
  cases d
 exact b.freeA
def wZ(h:ac)(i:Nat)(a:Int):(freeS h i a).S=h.S/\(freeS h i a).O=h.O/\(freeS h i a).G.Calls=h.G.Calls/\(freeS h i a).w=h.w/\(freeS h i a).Y=h.Y/\(freeS h i a).b1=h.b1/\(freeS h i a).a7=h.a7/\(freeS h i a).G.a0=h.G.a0:=by
 unfold freeS;split
 ·obtain⟨-,b,c⟩:=lg (clrS h i a).G (nth (clrS h i a).J i).Q
  exact⟨rfl,rfl,b,rfl,rfl,rfl,rfl,c⟩
 exact⟨rfl,rfl,rfl,rfl,rfl,rfl,rfl,rfl⟩
theorem nB(t:Nat)(h:ac)(a:Int):(recyc t h a).S.length=h.S.length/\(recyc t h a).O=h.O/\(recyc t h a).G.Calls=h.G.Calls/\(recyc t h a).w=h.w/\(recyc t h a).Y=h.Y/\(recyc t h a).b1=h.b1/\(recyc t h a).a7=h.a7/\(recyc t h a).G.a0=h.G.a0:=by
 unfold recyc;split
 ·grind
 obtain⟨b,c⟩:=wZ h (vO h a) a;exact⟨X0 _ b,c⟩
def recycs(t:Nat)(h:ac)(az:List Int):ac:=az.foldl (recyc t) h
theorem fe(t:Nat):∀(az:List Int)(h:ac),(recycs t h az).S.length=h.S.length/\(recycs t h az).O=h.O/\(recycs t h az).G.Calls=h.G.Calls/\(recycs t h az).w=h.w/\(recycs t h az).Y=h.Y/\(recycs t h az).b1=h.b1/\(recycs t h az).a7=h.a7/\(recycs t h az).G.a0=h.G.a0
 | [],h=>⟨rfl,rfl,rfl,rfl,rfl,rfl,rfl,rfl⟩
 | a::az,h=>by
  obtain⟨b,c,d,e,f,g,i,j⟩:=fe t az (recyc t h a);obtain⟨k,l,n,o,p,q,r,u⟩:=nB t h a;exact⟨b.trans k,c.trans l,d.trans n,e.trans o,f.trans p,g.trans q,i.trans r,j.trans u⟩
theorem bc.recycs{t:Nat}{E:List Int} : ∀{az:List Int}{h:ac},bc h (az++E)->t<h.S.length->bc (recycs t h az) E
 | [],h,b,_=>b
 | a::az,h,b,c=>bc.recycs (az:=az) (h:=Ab.recyc t h a) (b.recyc c) (by grind [nB])
def qc(l:List aT):Int:=quarCells l l.length
def oC(room:Int):List aT->Nat
 | []=>0
 | x::xs=>if room<qc (x::xs) then oC room xs+1 else 0
def KX(q:bM)(x:aT):bM:=⟨q.c1,(q.a6++[x]).drop (oC q.c1 (q.a6++[x]))⟩
def zb(q:bM)(x:aT):List aT:=(q.a6++[x]).take (oC q.c1 (q.a6++[x]))
def FB(room:Int):∀l,oC room l<=l.length
 | []=>I3 _
 | x::xs=>by unfold oC;split;(have:=FB room xs;simp only[List.length_cons];omega);omega
theorem DJ{room:Int}(a:0<=room):∀l:List aT,qc (l.drop (oC room l))<=room
 | []=>a
 | x::xs=>by
  unfold oC;split
  ·exact DJ a xs
  grind
theorem Ak{room:Int} : ∀{l:List aT}{k:Nat},k<oC room l->room<qc (l.drop k)
 | [],k,h=>by cases h
 | x::xs,0,h=>by grind [oC]
 | x::xs,k+1,h=>by
  unfold oC at h;split at h
  ·exact Ak (l:=xs) ω
  omega
theorem jK{q:bM} : gk q=true↔(∀x∈q.a6,0<=x.d/\x.d<=3/\0<=x.Addr/\0<=x.b7)/\(q.a6.Pairwise λa b=>a.b7<=b.b7)/\(q.a6.map (·.Addr)).Nodup/\0<=q.c1/\q.c1<=500/\qc q.a6<=q.c1:=by
 refine Iff.trans ?_ (and_congr Iff.rfl (and_congr (wi (λa b:Int=>a<=b) ω (λs:aT=>s.b7) q.a6) (and_congr (Bg (λs:aT=>s.Addr) q.a6) Iff.rfl)));unfold gk qc
 grind [cQ,List.any_eq_false,aP,ar,kH,eS]
theorem Q9{q:bM}{x:aT}(h:gk q=true)(e:0<=x.d/\x.d<=3/\0<=x.Addr/\0<=x.b7)(f:∀y∈q.a6,y.b7<=x.b7)(g:∀y∈q.a6,y.Addr≠x.Addr):gk (KX q x)=true:=by
 obtain⟨i,j,k,c,d,l⟩:=jK.1 h;have a:(KX q x).a6.Sublist (q.a6++[x]):=List.drop_sublist ..;refine jK.2 ⟨λy b=>?_,List.Pairwise.sublist a ?_,List.Nodup.sublist (a.map _) ?_,c,d,DJ c _⟩
 ·rcases C3.1 (a.subset b) with b|b
  all_goals grind
 ·grind
 grind
def lr(r:List Int)(o:Nat):Nat->List Int
 | 0=>r
 | n+1=>(lr r o n).set (o+n) 0
def cU(k:am)(a:Int):Nat:=(af k.F.R (a / 16)).o.toNat
def fk(k:am)(a:Int)(n:Nat):am:={k with F:=⟨⟨k.F.W.T.set (cU k a) (lr (nth k.F.W.T (cU k a)) (a % 16).toNat n),k.F.W.a5⟩,k.F.R⟩}
theorem mU(r:List Int)(o:Nat):∀n,(lr r o n).length=r.length
 | 0=>rfl
 | n+1=>by unfold lr;rw[U1,mU r o n]
def Ac{r:List Int}{o:Nat} : ∀{n:Nat}{v:Int},v∈lr r o n->v∈r\/v=0
 | 0,v,h=>.inl h
 | n+1,v,h=>by
  rcases V6 h with h|h
  ·exact Ac h
  exact .inr h
theorem Fz(h:aF k=true)(a:Int)(n:Nat):aF (fk k a n)=true:=by
 obtain⟨g,i,l,o,p⟩:=aG.1 h;obtain⟨q,r,t,c⟩:=bf.1 i;refine aG.2 ⟨g,bf.2 ⟨?_,?_,?_,λj b=>?_⟩,l,o,p⟩
 ·grind [fk]
 ·grind [fk]
 ·grind [fk]
 simp only[fk,U1]at b |-;simp only[bF];split
 ·rename_i e
  have d:=c j b;unfold ic at d |-;simp only[I0,C0,v4]at d |-;rw[e.1]at *;refine⟨by grind [mU],λv f=>?_⟩;rcases Ac f with f|rfl
  all_goals grind [iG]
 exact c j b
def yX(h:ac)(a:Int):Nat:=(h.M.findIdx? λl=>decide (l.Q*16=a)).getD 0
def freeL(h:ac)(i k:Nat):ac:={h with G:=unmN h.G (nth h.M k).Q (nth h.M k).a2.toNat,M:=dele h.M k,j:=(dH (eX h) h.j ⟨(nth h.M k).Q,(nth h.M k).a2⟩).getD h.j,O:=dele h.O i}
def ly(h:ac)(o:bt):aT:=⟨o.Addr,aL o.q,h.b1⟩
def inQuar(h:ac)(i:Nat):ac:={h with G:=fk h.G (nth h.O i).Addr (csz (aL (nth h.O i).q)).toNat,O:=dele h.O i,a7:=KX h.a7 (ly h (nth h.O i))}
def Eh(h:ac)(t i:Nat):ac:=recycs t (inQuar h i) ((zb h.a7 (ly h (nth h.O i))).map (·.Addr))
def freeOb(h:ac)(t i:Nat):ac × Int:=
 if aL (nth h.O i).q<0 then(freeL h i (yX h (nth h.O i).Addr),0)
 else if(af (tbl h) ((nth h.O i).Addr / 16)).e=1 then(h,5)
 else(Eh h t i,0)
theorem vZ(n:l∈h.M)(e:a=16*l.Q):yX h a<h.M.length/\a=16*(nth h.M (yX h a)).Q/\(∀j,j<yX h a->(nth h.M j).Q*16≠a)/\h.M.findIdx? (λl=>decide (l.Q*16=a))=some (yX h a):=by
 cases c:h.M.findIdx? λl=>decide (l.Q*16=a) with
 | none=>
  grind
 | some k=>
  obtain⟨b,d,f⟩:=C7.1 c;have g:yX h a=k:=by grind [yX]
  rw[g];rw[<-bn (O2 b),C0]at d;refine⟨b,ω,λj i=>?_,rfl⟩;have:=f j i;rw[<-bn (O2 (show j<h.M.length by omega))]at this;simpa using this
theorem dP(a:bc h E)(f:o∈h.O):(aL o.q<0->Uf h.M o.Addr o.q)/\(¬aL o.q<0->(∃s∈h.J,eE s o.Addr/\s.d=aL o.q)/\aL o.q<=3):=by
 rcases a.oow o f with⟨s,g,b,c⟩|⟨l,d,b,c⟩
 ·have i:=aI (a.L.sok s g)
  grind
 have j:=cT (a.L.lok l d);refine⟨λ_=>⟨l,d,b,c⟩,λe=>absurd ?_ e⟩
 grind [aL]
theorem bc.inQuar{h:ac}{i:Nat}(a:bc h [])(g:i<h.O.length)(r:¬aL (nth h.O i).q<0):bc (inQuar h i) ((zb h.a7 (ly h (nth h.O i))).map (·.Addr)):=by
 obtain⟨⟨s,j,l,t⟩,u⟩:=(dP a (ar g)).2 r;have b:je h.J (nth h.O i).Addr (aL (nth h.O i).q):=⟨s,j,l,.inr t⟩
 have c:=a.nums;unfold cu at c;rw[C0]at c;have w:=aI (a.L.sok s j);have n:=a.dropO g b.any;have A:=n.cells (k:=fk h.G (nth h.O i).Addr (csz (aL (nth h.O i).q)).toNat) (Fz a.ker _ _) rfl;have d:∀y∈h.a7.a6,y.Addr≠(nth h.O i).Addr:=λy o e=>by
  have f:=n.nd;rw[List.cons_append,List.nil_append]at f
  grind [holders]
 have p:=bc.toQuar (x:=ly h (nth h.O i)) (q:=KX h.a7 (ly h (nth h.O i))) (out:=zb h.a7 (ly h (nth h.O i))) A (Q9 a.quar ⟨by show 0<=aL _;omega,u,by show 0<=(nth h.O i).Addr;have:=l.1;omega,c.2.2.1⟩ (λy o=>a.snc y o) d) (by grind [List.take_append_drop,zb,KX]) (v5 _) b;rw[List.append_nil]at p;exact p
theorem bc.freeOb{h:ac}{t i:Nat}(a:bc h [])(c:i<h.O.length)(e:t<h.S.length):bc (freeOb h t i).1 []:=by
 unfold Ab.freeOb;split
 ·rename_i b
  obtain⟨l,f,d,-⟩:=(dP a (ar c)).1 b;obtain⟨g,j,-⟩:=vZ f d
  grind [bc.dropL,freeL]
 rename_i b;split
 ·exact a
 have d:=a.inQuar c b;refine bc.recycs (E:=[]) ?_ e
 grind
theorem HV:∀{H L:List Int},H.Nodup->(∀x∈H,x∈L)->H.length<=L.length
 | [],L,_,_=>W0 _
 | y::H,L,b,c=>by
  have d:y∈L:=ψ
  have a:=List.nodup_cons.1 b;have:=HV (L:=L.erase y) a.2 ψ
  grind
theorem y3{H:List Int}(a:H.Nodup)(b:∀x∈H,0<=x/\x<n):H.length<=n:=by
 have:=HV (L:=(List.range n).map λ(i:Nat)=>(i:Int)) a λx c=>O4.2 ⟨x.toNat,List.mem_range.2 ψ,ψ⟩
 simpa using this
theorem de{f:α->Int}{xs:List α}(h:xs.Pairwise λa b=>f a<f b):(xs.map f).Nodup:=ψ
theorem ML:∀(b:List (List Int))(k:Nat)(s:List Int),(gy k s b).isSome=true->∀l∈b,l.length<=8
 | [],_,_,_,l,a=>by cases a
 | x::b,k,s,h,l,a=>by
  simp only[gy]at h;cases e:fp k s x with
  | none=>grind
  | some c=>
   rw[e]at h;rcases List.mem_cons.1 a with rfl|a
   ·grind [fp]
   exact ML b (k+1) c h l a
theorem eH{c:aE}(h:b6 c=true):c.a.length=4/\∀l∈c.a,l.length<=8:=by grind [ML,b6]
structure rD(h:ac):Prop where
 cells:h.G.F.W.T.length<=32
 row:∀r∈h.G.F.W.T,r.length=16
 used:h.G.F.W.a5.length<=32
 ents:h.G.F.R.K.length<=32
 ref:h.G.a0.length<=40
 free:h.j.length<=32
 spans:h.J.length<=32
 larges:h.M.length<=32
 objs:h.O.length<=512
 caches:h.S.length<=4
 lists:∀c∈h.S,c.a.length=4/\∀l∈c.a,l.length<=8
 quar:h.a7.a6.length<=512
def je.bd(b:bc h E)(d:je h.J a c):0<=a/\a<512:=by
 obtain⟨s,e,⟨f,g,-⟩,-⟩:=d;have i:=aI (b.L.sok s e);omega
theorem bc.lens(a:bc h E):rD h:=by
 obtain⟨G,k,p,J,K,M,q⟩:=aG.1 a.ker;obtain⟨N,t,O,P⟩:=bf.1 k;obtain⟨Q,R,u⟩:=bu.1 p;obtain⟨w,S,T⟩:=fT.1 a.rng;obtain⟨U,V,A,W⟩:=jK.1 a.quar;have g:=a.mail;unfold bQ at g;simp only[I0,C0]at g;have B:=a.nc;refine⟨t,λr i=>?_,ω,u,q,?_,?_,?_,?_,ω,λc C=>eH (a.cach c C),?_⟩
 ·obtain⟨j,X,rfl⟩:=aP i
  grind [ic]
 ·have:=y3 (H:=h.j.map (·.At)) (n:=32) (de (w.1.imp_of_mem ψ)) λx b=>by
   obtain⟨r,i,rfl⟩:=O4.1 b
   grind
  simpa using this
 ·have:=y3 (H:=h.J.map (·.Q)) (n:=32) a.L.nd λx b=>by
   obtain⟨s,d,rfl⟩:=O4.1 b;have:=aI (a.L.sok s d);omega
  simpa using this
 ·have:=y3 (H:=h.M.map (·.Q)) (n:=32) (de a.srl) λx b=>by
   obtain⟨l,f,rfl⟩:=O4.1 b;have:=aS (a.L.lok l f);omega
  simpa using this
 ·have:=y3 (H:=h.O.map (·.Addr)) (n:=512) (de a.osr) λx b=>by
   obtain⟨o,D,rfl⟩:=O4.1 b;rcases a.oow o D with⟨s,d,⟨Y,Z,-⟩,-⟩|⟨l,f,e,-⟩
   ·have:=aI (a.L.sok s d);omega
   have:=aS (a.L.lok l f);omega
  simpa using this
 have:=y3 (H:=h.a7.a6.map (·.Addr)) (n:=512) A λx b=>by
  obtain⟨y,F,rfl⟩:=O4.1 b;exact(a.hqu y F).bd a
 simpa using this
theorem rD.sml(a:rD h)(b:aF h.G=true)(d:aN.sml h.w)(e:cE.sml h.Y):ac.sml h:=
 ⟨bE b,⟨by grind [rD.free],λ_ _=>trivial⟩,⟨by grind [rD.spans],λ_ _=>trivial⟩,⟨by grind [rD.larges],λ_ _=>trivial⟩,⟨by grind [rD.objs],λ_ _=>trivial⟩,⟨by grind [rD.caches],λc f=>⟨by grind [rD.lists],λl g=>by have:=(a.lists c f).2 l g;show l.length<=1048576;omega⟩⟩,d,⟨by grind [rD.quar],λ_ _=>trivial⟩,e⟩
def mn(a:Int)(o:bt):Bool:=decide (o.Addr=a)
def qA(h:ac)(a:Int):Nat:=(cW (mn a) h.O).toNat
theorem bc.objAt(g:bc h E)(k:o∈h.O):qA h o.Addr<h.O.length/\nth h.O (qA h o.Addr)=o/\cW (mn o.Addr) h.O=(qA h o.Addr:Nat):=by
 obtain⟨i,c,rfl⟩:=aP k;have l:cW (mn (nth h.O i).Addr) h.O=(i:Nat):=dN (au c) (by unfold mn;simp) λj z n d=>by
  have a:=bn d;have b:=(U2.1 d).1;subst a;unfold mn;refine U0 λe=>?_
  have:=cM (f:=(·.Addr)) (de g.osr) b c e;omega
 grind [qA]
def kT(k:am)(p:Int)(n:Nat):(unmN k p n).Calls=k.Calls/\(unmN k p n).a0=k.a0:=(eO k p n).2
def Nb(y:aB)(a:List aB):dm [] (y::a)=dm [y] a:=by rw[dm];rfl
theorem Ee[Inhabited α]{xs:List α}(h:xs≠[]):xs.getLast? = some (nth xs (xs.length - 1)):=by grind [List.length_pos_iff,au]
theorem NY{xs:List α}(h:xs≠[])(v:α):xs.dropLast++[v]=xs.set (xs.length - 1) v:=by
 have a:0<xs.length:=ψ
 refine List.ext_getElem (by simp;omega) λi b c=>?_
 grind
theorem N6{a:List aB}(h:out≠[])(e:(nth out (out.length - 1)).At+(nth out (out.length - 1)).a8=y.At):dm out (y::a)=dm (out.set (out.length - 1) ⟨(nth out (out.length - 1)).At,(nth out (out.length - 1)).a8+y.a8⟩) a:=by grind [Ee,NY,dm]
theorem PR{a:List aB}(h:out≠[])(e:¬(nth out (out.length - 1)).At+(nth out (out.length - 1)).a8=y.At):dm out (y::a)=dm (out++[y]) a:=by grind [Ee,dm]
theorem sU(xs:List aB)(w:xs.length<=4194304)(n:∀y∈xs,0<=y.At/\1<=y.a8/\y.At+y.a8<=1048576):zzA 573 false [.val none (bv .V xs)] .one (bv .own (dm [] xs)):=by
 refine fO 63 [(6,21,[15,16,17,18,19,20,21,22,23,24,25,26,27,28,29,30,31,32,33,34,35]),(7,15,[38,39,40,41,42,43,44,45,46,47,48,49,50,51,52])] Tryz.func573 rfl ?_ (.inr (i6 _))
 repeat'(first|refine gP ?_|fail)
 (conv=>whnf)
 refine CJ (ι:=Nat × List aB) (λq=>[(0,.H .one (bv .V xs)),(3,.H .one (bv .own q.2)),(4,.H .one [I ((q.1:Nat):Int)])]) (λq=>q.1<=xs.length/\dm q.2 (xs.drop q.1)=dm [] xs/\q.2.length<=q.1/\∀y∈q.2,0<=y.At/\1<=y.a8/\y.At+y.a8<=1048576) (λq=>xs.length - q.1) ((0,[])) ?_ ψ λq o=>?_
 ·exact wB
 obtain⟨i,out⟩:=q;obtain⟨p,a,g,b⟩:=o;simp only at p a g b |-;by_cases h:i<xs.length
 ·have j:=au h
  have B:=n _ (ar h);rw[iS h]at a;by_cases k:out=[]
  ·subst k
   rw[Nb]at a;have D:([]:List aB).length=0:=rfl
   repeat'(first|refine gE ?_|(conv=>whnf);first|with_reducible refine CD (aa j) ?_|refine Ln.mk (show List.length _=0 from rfl) ?_|refine Ap.sm (λr t=>by cases t) rfl (by simp) (by decide) rfl ?_)
   ((conv=>whnf)
    refine CE (i+1,[nth xs i]) ψ (by simp only;omega) ?_
    (repeat'(first|exact trivial|rfl|exact CL rfl (CL (X0 (C.s dQ.own) (by simp[aB.enc])) trivial)|refine CL ?_ ?_)))
  have l:0<out.length:=ψ
  have d:out[((out.length:Int) - 1).toNat]? = some (nth out (out.length - 1)):=by
   rw[show((out.length:Int) - 1).toNat=out.length - 1 by omega];grind [au]
  have u:=b _ (ar (xs:=out) (i:=out.length - 1) ω);by_cases e:(nth out (out.length - 1)).At+(nth out (out.length - 1)).a8=(nth xs i).At
  ·rw[N6 k e]at a
   repeat'(first|refine gB ?_|(conv=>whnf);first|with_reducible refine CD (aa j) ?_|refine CN ω (aa d) ?_|refine CH rfl (aa d) rfl ?_|refine CP rfl rfl (aa d) rfl (I1 rfl) rfl ?_)
   ((conv=>whnf)
    refine CE (i+1,out.set (out.length - 1) ⟨(nth out (out.length - 1)).At,(nth out (out.length - 1)).a8+(nth xs i).a8⟩) ⟨(by simp only;omega),a,ψ,(λy c=>?_)⟩ (by simp only;omega) ?_)
   ·rcases V6 c with c|rfl
    ·exact b y c
    simp only;omega
   (repeat'(first|exact trivial|rfl|exact CL rfl (CL (X0 (C.s dQ.own) (by rw[show((out.length:Int) - 1).toNat=out.length - 1 by omega,I6];rfl)) trivial)|refine CL ?_ ?_))
  rw[PR k e]at a
  repeat'(first|refine gB ?_|(conv=>whnf);first|with_reducible refine CD (aa j) ?_|refine CN ω (aa d) ?_|refine CH rfl (aa d) rfl ?_|refine Ap.sm (aV λ_=>rfl) rfl (by simp;omega) (by decide) rfl ?_)
  ((conv=>whnf)
   refine CE (i+1,out++[nth xs i]) ⟨(by simp only;omega),a,(by simp;omega),(λy c=>?_)⟩ (by simp only;omega) ?_)
  ·rcases C3.1 c with c|c
   all_goals simp_all
  (repeat'(first|exact trivial|rfl|exact CL rfl (CL (X0 (C.s dQ.own) (by simp[aB.enc])) trivial)|refine CL ?_ ?_))
 obtain rfl:i=xs.length:=ω
 rw[List.drop_length]at a
 repeat'(first|refine gE ?_|fail)
 rw[<-a];rfl
def Bh(r y:aB)(a:List aB)(put:Bool):mF r (y::a) put=if ovl y r then none else if !put&&decide (y.At > r.At) then(mF r a true).map λt=>r::y::t else(mF r a put).map λt=>y::t:=by rw[mF]
theorem mB(pages:Int)(xs:List aB)(r:aB)(G:0<=pages/\pages<=1048576)(H:gw xs):zzA 519 false [.val none [I pages],.val none (bv .V xs),.val (some 2) (aB.enc .V r)] (.tup [none,none]) (He xs (dH pages xs r)):=by
 have o:=H.1;have j:=m9 pages xs G H;have p:=xO pages r G;cases k:bC pages xs<;>rw[k]at j
 ·rw[show dH pages xs r=none by unfold dH;rw[C9 (by rw[k];simp)]]
  refine fO 82 [] Tryz.func519 rfl ?_ (.inr (tF _ _))
  repeat'(first|refine gP ?_|(conv=>whnf);first|refine C8 (j) ?_|refine CR (λ_=>rfl) (λ_=>rfl) o (by decide) ?_)
  rfl
 cases u:rangeIn pages r<;>rw[u]at p
 ·rw[show dH pages xs r=none by unfold dH;rw[C9 (by rw[u];simp)]]
  refine fO 82 [] Tryz.func519 rfl ?_ (.inr (tF _ _))
  repeat'(first|refine gP ?_|(conv=>whnf);first|refine C8 (j) ?_|refine C8 (p) ?_|refine CR (λ_=>rfl) (λ_=>rfl) o (by decide) ?_)
  rfl
 obtain⟨J,K⟩:=wg k;have l:0<=r.At/\1<=r.a8/\r.At+r.a8<=pages:=by grind [rangeIn]
 rw[show dH pages xs r=(mF r xs false).map (dm []) by unfold dH;rw[CC ⟨k,u⟩,A3 (pages:=pages) J l.2.1 ψ]];refine fO 82 [] Tryz.func519 rfl ?_ (.inr (tF _ _))
 repeat'(first|refine gP ?_|(conv=>whnf);first|refine C8 (j) ?_|refine C8 (p) ?_|refine CR (λ_=>rfl) (λ_=>rfl) o (by decide) ?_)
 (conv=>whnf)
 refine CJ (ι:=Nat × List aB × Bool) (λq=>[(1,.H .one (bv .V xs)),(5,.H .box (aB.enc .V r)),(8,.H .one (bv .own xs)),(9,.H .one (bv .own q.2.1)),(10,.H .one [B (q.2.2)]),(11,.H .one [I ((q.1:Nat):Int)])]) (λq=>q.1<=xs.length/\(mF r (xs.drop q.1) q.2.2).map (q.2.1++·)=mF r xs false/\q.2.1.length<=q.1+q.2.2.toNat/\(∀y∈q.2.1,0<=y.At/\1<=y.a8/\y.At+y.a8<=1048576)) (λq=>xs.length - q.1) ((0,[],false)) ?_ (⟨W0 _,by simp,by simp,by simp⟩) λq d=>?_
 ·exact wB
 obtain⟨i,out,put⟩:=q;obtain⟨L,b,c,e⟩:=d;simp only at L b c e |-;have M:0<=r.At/\1<=r.a8/\r.At+r.a8<=1048576:=ω
 by_cases w:i<xs.length
 ·have n:=au w
  have N:=K _ (ar w);have E:0<=(nth xs i).At/\1<=(nth xs i).a8/\(nth xs i).At+(nth xs i).a8<=1048576:=ω
  rw[iS w]at b;by_cases h:ovl (nth xs i) r=true
  ·rw[<-b]
   rw[Bh,CC h];unfold ovl at h;rw[C0]at h
   repeat'(first|refine gE ?_|(conv=>whnf);first|with_reducible (first|refine CD (aa n) ?_|refine Bf.D (λd=>?_) (λd=>?_)))
   rfl
  rw[Bh,C9 h]at b;unfold ovl at h;rw[C0]at h;cases put with
  | false=>
   have c:out.length<=i:=by simpa using c
   by_cases O:(nth xs i).At > r.At
   ·rw[CC (by simp;omega),Option.map_map]at b
    repeat'(first|refine gE ?_|(conv=>whnf);first|with_reducible (first|refine CD (aa n) ?_|refine Bf.D (λd=>?_) (λd=>?_))|refine Ap.sm (aV λ_=>rfl) rfl (by simp;omega) (by decide) rfl ?_|refine Ap.sm (λr l=>by simp at l;rcases l with⟨a,_,rfl⟩|rfl<;>rfl) rfl (by simp;omega) (by decide) rfl ?_)
    ((conv=>whnf)
     refine CE (i+1,out++[r,nth xs i],true) ⟨(by simp only;omega),(by rw[<-b];congr 1;funext t;simp),(by simp;omega),(λy g=>?_)⟩ (by simp only;omega) ?_)
    ·grind
    (repeat'(first|exact trivial|rfl|exact CL rfl (CL (X0 (C.s dQ.own) (by simp[aB.enc])) trivial)|refine CL ?_ ?_))
   rw[C9 (by simp;omega),Option.map_map]at b
   repeat'(first|refine gE ?_|(conv=>whnf);first|with_reducible (first|refine CD (aa n) ?_|refine Bf.D (λd=>?_) (λd=>?_))|refine Ap.sm (aV λ_=>rfl) rfl (by simp;omega) (by decide) rfl ?_)
   ((conv=>whnf)
    refine CE (i+1,out++[nth xs i],false) ⟨(by simp only;omega),(by rw[<-b];congr 1;funext t;simp),(by simp;omega),(λy g=>?_)⟩ (by simp only;omega) ?_)
   ·grind
   (repeat'(first|exact trivial|rfl|exact CL rfl (CL (X0 (C.s dQ.own) (by simp[aB.enc])) trivial)|refine CL ?_ ?_))
  | true=>
   have c:out.length<=i+1:=c;rw[C9 (by simp),Option.map_map]at b;by_cases P:(nth xs i).At<r.At+r.a8
   all_goals
    repeat'(first|refine gE ?_|(conv=>whnf);first|with_reducible (first|refine CD (aa n) ?_|refine Bf.D (λd=>?_) (λd=>?_))|refine Ap.sm (aV λ_=>rfl) rfl (by simp;omega) (by decide) rfl ?_)
    ((conv=>whnf)
     refine CE (i+1,out++[nth xs i],true) ⟨(by simp only;omega),(by rw[<-b];congr 1;funext t;simp),(by simp;omega),(λy g=>?_)⟩ (by simp only;omega) ?_)
    ·rcases C3.1 g with g|g
     ·exact e y g
     rw[O1.1 g];exact E
    (repeat'(first|exact trivial|rfl|exact CL rfl (CL (X0 (C.s dQ.own) (by simp[aB.enc])) trivial)|refine CL ?_ ?_))
 obtain rfl:i=xs.length:=ω
 rw[List.drop_length]at b;cases put with
 | false=>
  have c:out.length<=xs.length:=by simpa using c
  rw[<-b];have F:=sU (out++[r]) (by simp;omega) ψ
  repeat'(first|refine gE ?_|(conv=>whnf);first|refine Ap.sm (aV λ_=>rfl) rfl (by simp;omega) (by decide) (show(out++[r]).map (aB.enc .own)=_ by simp[aB.enc]) ?_|refine CF (F) ⟨⟨rfl,ed _⟩,trivial⟩ ?_)
  rfl
 | true=>
  have c:out.length<=xs.length+1:=c;rw[<-b];have F:=sU out ω e
  repeat'(first|refine gE ?_|(conv=>whnf);first|refine CF (F) ⟨⟨rfl,ed _⟩,trivial⟩ ?_)
  simp[mF,He]
  rfl
theorem shl64{i:Int}(a:0<=i/\i<=15):IntKind.i64.wrap (1*2 ^ min i.toNat IntKind.i64.bits)=2 ^ i.toNat/\0<=(2:Int) ^ i.toNat/\(2:Int) ^ i.toNat<=32768:=by
 have b:min i.toNat IntKind.i64.bits=i.toNat:=Nat.min_eq_left (show i.toNat<=64 by omega);have c:(0:Int)<=2 ^ i.toNat/\(2:Int) ^ i.toNat<=32768:=by
  have:(2:Nat) ^ i.toNat<=2 ^ 15:=Nat.pow_le_pow_right (by decide) ω
  grind
 grind [fQ]
theorem clr64{i:Int}(a:0<=b/\b<=65535):IntKind.i64.wrap ((BitVec.ofInt IntKind.i64.bits b &&& ~~~BitVec.ofInt IntKind.i64.bits (2 ^ i.toNat)).toNat:Nat)=zF b i:=by
 have:=BR (i:=i) a
 grind [fQ,zF]
theorem ux(b i:Int)(c:0<=b/\b<=65535)(d:0<=i/\i<=15):zzA 574 false [.val none [I b],.val none [I i]] .one [I (zF b i)]:=by
 have a:=qd b i;rw[O0 ω]at a;have e:IntKind.u64.wrap i=i:=by grind [Go.IntKind.wrap,Go.IntKind.bits]
 refine fO 15 [] Tryz.func574 rfl ?_
 repeat'(first|refine gP ?_|(conv=>whnf);first|refine CB ?_|refine C8 (a) ?_|refine CO ω ?_|refine CM e ?_|refine CM (shl64 d).1 ?_|refine CM (clr64 c) ?_)
 rfl
theorem Qd{k:Int}(a:aZ s.a9 k=true):0<=k/\k<=15:=by grind [eL]
def zh(s:aA)(k:Int)(a:bh s=true)(b:aZ s.a9 k=true):zzA 523 false [.val (some 3) (aA.enc .V s),.val none [I k]] (.tup [some 3,none]) (aA.enc .own (mY s k)++[B true]):=by
 have e:=dK a;have g:=Qd b;have c:=gx s;have d:=iP s.a9 k ω;rw[a]at c;rw[b]at d;refine fO 23 [] Tryz.func523 rfl ?_ (.inr (aW (aA.enc_fr _) ⟨trivial,trivial⟩))
 repeat'(first|refine gP ?_|(conv=>whnf);first|refine CB ?_|refine C8 (c) ?_|refine C8 (d) ?_|refine C8 (ux s.a9 k e g) ?_)
 rfl
def yA(c:aE)(k:Int)(b:aE.sml c):zzA 477 false [.val (some 1) (aE.enc .V c),.val none [I k]] .one [B (b6 c&&decide (0<=k/\k<=3))]:=by
 have a:=ni c b;cases e:b6 c<;>rw[e]at a
 all_goals
  refine fO 11 [] Tryz.func477 rfl ?_
  repeat'(first|refine gP ?_|(conv=>whnf);first|refine CB ?_|refine C8 (a) ?_|refine C8 (aJ k 0 3) ?_)
  all_goals rfl
def HF(c:aE)(k:Int)(a:aE.sml c):zzA 333 false [.val (some 1) (aE.enc .V c),.val none [I k]] .one [B (decide (0<=k/\k<=3)&&b6 c)]:=by
 have b:=ta c a;refine fO 11 [] Tryz.func333 rfl ?_
 repeat'(first|refine gP ?_|(conv=>whnf);first|with_reducible refine Bf.D (λd=>?_) (λd=>?_)|refine CB ?_|refine C8 (b) ?_|refine C8 (fw k) ?_)
 all_goals exact X0 (λz=>[B z]) ((by simp[*]))
def qj{c:aE}{k:Nat}(a:k<c.a.length):c.a[k]? = some (nth c.a k):=au a
theorem MO{c:aE}(h:b6 c=true)(k:Nat)(a:Int):aE.sml (pn c k a):=by
 obtain⟨e,d⟩:=eH h;refine⟨by grind [pn],λl b=>?_⟩;rcases V6 b with b|rfl
 ·have:=d l b;show l.length<=1048576;omega
 show(nth c.a k++[a]).length<=1048576;by_cases f:k<c.a.length
 ·grind [ar]
 have:nth c.a k=[]:=by unfold nth;rw[X2,W2 ω];rfl
 rw[this];simp
theorem NS(c:aE)(k:Nat)(a:Int):aE.enc .own (pn c k a)=[.s .own ((c.a.map (aH .own)).set k (aH .own (nth c.a k++[a])))]:=by grind [I6,aE.enc,pn]
theorem eN{f:α->List C}{xs:List α}{k:Nat}{y:α}(h:xs[k]? = some y):((xs.map f).set k r)[k]? = some r:=ψ
def iT(f:α->β)(xs:List α)(y:α):(xs++[y]).map f=xs.map f++[f y]:=by simp
def J6(c:aE)(k a:Int):List C:=aE.enc .own ((cput c k a).getD c)++[B (cput c k a).isSome]
def NR(c:aE)(k a:Int):hC (J6 c k a):=aW (aE.enc_fr _) ⟨trivial,trivial⟩
theorem zl(c:aE)(k:Nat)(a:Int)(j:b6 c=true)(B:k<=3):zzA 572 false [.val (some 1) (aE.enc .V c),.val none [I (k:Nat)],.val none [I a]] (.tup [some 1,none]) (J6 c k a):=by
 obtain⟨D,q⟩:=eH j;have r:aE.sml c:=⟨ω,λl u=>by have:=q l u;show l.length<=1048576;omega⟩
 have n:=yA c k r;rw[j,O0 ω]at n;have t:=iV c r;have d:=MO j k a;have o:=ni (pn c k a) d;have w:=iV (pn c k a) d;have b:=qj (c:=c) (k:=k) ω;have y:=q _ (ar (xs:=c.a) (i:=k) ω);have h:=Ce (pn c k a);rw[NS]at h;have g:=NR c k a;unfold J6 at g |-;cases e:b6 (pn c k a)<;>rw[e]at o
 ·have p:cput c k a=none:=by grind [cput]
  rw[p]at g |-;refine fO 35 [(4,267,[16,17,18,19,20,21,22,23,24,25,27,0,1,2,3,4,5,6,7,8,9,10,1000,1001,1002,11,12])] Tryz.func572 rfl ?_ (.inr g)
  repeat'(first|refine gP ?_|(conv=>whnf);first|with_reducible refine CD (aa b) ?_|refine CB ?_|refine CD (eN b) ?_|refine CH rfl (eN b) rfl ?_|refine C8 (n) ?_|refine C8 (t) ?_|refine Lq.one rfl rfl (aa b) rfl (I1 rfl) rfl rfl ?_|refine CH rfl (aa b) rfl ?_|refine CP rfl rfl (eN b) rfl (I1 rfl) (show [C.s dQ.own ((c.a.map (aH .own)).set k (aH .own (nth c.a k++[a])))]=_ from by simp only[List.set_cons_zero,List.set_set,Z2];rfl) ?_|refine Ap.sm (aV λ_=>rfl) rfl (by simp;omega) (by decide) (iT _ _ _) ?_|refine CF (o) ⟨⟨rfl,h⟩,trivial⟩ ?_)
  rfl
 have p:cput c k a=some (pn c k a):=by grind [cput]
 rw[p]at g |-;refine fO 35 [(4,267,[16,17,18,19,20,21,22,23,24,25,27,0,1,2,3,4,5,6,7,8,9,10,1000,1001,1002,11,12])] Tryz.func572 rfl ?_ (.inr g)
 repeat'(first|refine gP ?_|(conv=>whnf);first|with_reducible refine CD (aa b) ?_|refine CB ?_|refine CD (eN b) ?_|refine CH rfl (eN b) rfl ?_|refine C8 (n) ?_|refine C8 (t) ?_|refine Lq.one rfl rfl (aa b) rfl (I1 rfl) rfl rfl ?_|refine CH rfl (aa b) rfl ?_|refine CP rfl rfl (eN b) rfl (I1 rfl) (show [C.s dQ.own ((c.a.map (aH .own)).set k (aH .own (nth c.a k++[a])))]=_ from by simp only[List.set_cons_zero,List.set_set,Z2];rfl) ?_|refine Ap.sm (aV λ_=>rfl) rfl (by simp;omega) (by decide) (iT _ _ _) ?_|refine CF (o) ⟨⟨rfl,h⟩,trivial⟩ ?_|refine CF (w) ⟨⟨rfl,h⟩,trivial⟩ ?_)
 rfl
def bB(x:ac):List C:=[.s .own (x.G.F.W.T.map (aH .own)),.s .own (x.G.F.W.a5.map (rB .own)),.s .own (x.G.F.R.K.map (bk.enc .own)),I x.G.Calls,.s .own (x.G.a0.map (rI .own)),.s .own (x.j.map (aB.enc .own)),.s .own (x.J.map (aA.enc .own)),.s .own (x.M.map (aD.enc .own)),.s .own (x.O.map (bt.enc .own)),.s .own (x.S.map (aE.enc .own)),.s .own (x.w.U.map (cF .own)),.s .own (x.w.y.map (aH .own)),I x.a7.c1,.s .own (x.a7.a6.map (aT.enc .own)),I x.b3,I x.b1,I x.c0,I x.b,B x.u,I x.Y.X.a3,I x.Y.X.a1,.s .V (x.Y.X.T.map (rI .V)),I x.Y.b0,I x.Y.b]
def bI(x:ac):dJ (bB x)=ac.enc .V x:=by simp[dJ,bB,ac.enc,Ce,bk.enc_fz,aD.enc_fz,bt.enc_fz,aB.enc_fz,aA.enc_fz,aT.enc_fz,rB,rK,rI,dR,<-bX,Y5]
def x7(x:cE):List C:=[I x.X.a3,I x.X.a1,.s .V (x.X.T.map (rI .V)),I x.b0,I x.b]
theorem Pu.two{f a:List C}{off k g h b:Nat}{cs:List C}{K:List C->Prop}{o c:dQ}{rows2:List (List C)}{d:List C}(h1:f[off]? = some (.s o rows))(n:o.mine=true)(u:rows[i]? = some r)(w:r.length=k)(y:r[j]? = some (.s c rows2))(p:c.mine=true)(A:rows2[g]? = some d)(B:d.length=h)(D:b+cs.length<=h)(E:a=f.set off (.s o (rows.set i (r.set j (.s c (rows2.set g (splice d b cs)))))))(q:K a):Pu f off [(i,k,j),(g,h,b)] cs K:=by
 have t:o≠.V:=λe=>by subst e;cases n
 have l:c≠.V:=λe=>by subst e;cases p
 refine Pu.mk (r:=d) (j:=b) (by grind [cn]) (by grind [k6]) ω (by grind [fZ]) q
def EW(x:List aA):fz (.s .own (x.map (aA.enc .own)))=.s .V (x.map (aA.enc .V)):=(List.cons.inj (wM x)).1
def A4(x:List aD):fz (.s .own (x.map (aD.enc .own)))=.s .V (x.map (aD.enc .V)):=(List.cons.inj (FW x)).1
def BQ(x:List bt):fz (.s .own (x.map (bt.enc .own)))=.s .V (x.map (bt.enc .V)):=(List.cons.inj (L8 x)).1
theorem Ap.dele{e:α->List C}{xs:List α}(a:∀y,(e y).length=sz)(b:∀y,bi (e y)=true)(h:xs.length<=1048576)(c:by_<=1000)(d:K ((Ab.dele xs i).map e)):Ap true ((xs.take i).map e) ((xs.drop (i+1)).map e) sz by_ K:=by
 have f:(xs.take i).length+(xs.drop (i+1)).length<=2097152:=ψ
 refine CU (aV a) (aV a) (λ_ r g=>by obtain⟨y,-,rfl⟩:=O4.1 g;exact b y) (by rw[C1,C1];omega) (by rw[C1,C1];exact Z4 (Nat.mul_le_mul f c) (by decide)) ?_ d;unfold Ab.dele;rw[X5]
def KM(h:ac)(p:Int)(a:aM.sml h.G.F.R):zzA 485 false [.ptr (ac.enc .V h),.val none [I p]] .one [I (af h.G.F.R p).e]:=by
 refine fO 13 [] Tryz.func485 rfl ?_
 repeat'(first|refine gP ?_|(conv=>whnf);first|refine CB ?_|refine C8 (di h.G.F.R p a) ?_)
 rfl
def QS(h:ac):List C:=(bB h).drop 5
def Tu(h:ac)(k:am):bB {h with G:=k} = am.enc .own k++QS h:=rfl
def Gr(h:ac):QS h=[.s .own (h.j.map (aB.enc .own)),.s .own (h.J.map (aA.enc .own)),.s .own (h.M.map (aD.enc .own)),.s .own (h.O.map (bt.enc .own)),.s .own (h.S.map (aE.enc .own)),.s .own (h.w.U.map (cF .own)),.s .own (h.w.y.map (aH .own)),I h.a7.c1,.s .own (h.a7.a6.map (aT.enc .own)),I h.b3,I h.b1,I h.c0,I h.b,B h.u,I h.Y.X.a3,I h.Y.X.a1,.s .V (h.Y.X.T.map (rI .V)),I h.Y.b0,I h.Y.b]:=rfl
def KG(h:ac)(f:Int)(a:aM.sml h.G.F.R)(b:0<=f/\f<h.G.F.W.T.length/\f<h.G.F.W.a5.length) :
  zzB 486 false [.ptr (bB h),.val none [I f]] [.ptr (bB {h with G:=fX h.G f}),.val none [I f]] (.tup []) []:=by
 have c:=au (xs:=h.G.F.W.T) (i:=f.toNat) ω;have d:=au (xs:=h.G.F.W.a5) (i:=f.toNat) ω;rw[Tu h (fX h.G f)];by_cases e:(pagesOn h.G.F.R f).length=0
 ·rw[uk e,Gr]
  refine fM 30 [] [(2,8,[21,22,23,24,25,26,27,28])] [(0,0),(0,0)] Tryz.func486 rfl (λu q=>?_) (.inr trivial)
  repeat'(first|refine gB ?_|(conv=>whnf);first|with_reducible (first|refine CN b.1 (aa d) ?_|refine CN b.1 (aa c) ?_)|refine CB ?_|refine CF (gK h.G.F.R f a) ⟨⟨rfl,Cb h.G.F.R⟩,⟨rfl,rfl⟩,trivial⟩ ?_|refine CP rfl rfl (aa c) rfl (I1 rfl) rfl ?_|refine CP rfl rfl (aa d) rfl (I1 rfl) rfl ?_|refine Mk.mk 16 rfl rfl (by decide) (by decide) rfl ?_)
  refine CG rfl rfl ?_;exact wB
 rw[xM e];show aK _ _ _ [.ptr (bB h),_] [.ptr (bB h),_] _ _;refine fM 30 [] [(2,8,[21,22,23,24,25,26,27,28])] [(0,0),(0,0)] Tryz.func486 rfl (λu q=>?_) (.inr trivial)
 repeat'(first|refine gB ?_|(conv=>whnf);first|refine CB ?_|refine CF (gK h.G.F.R f a) ⟨⟨rfl,Cb h.G.F.R⟩,⟨rfl,rfl⟩,trivial⟩ ?_)
 refine CG rfl rfl ?_;exact wB
theorem oo(h:ac)(p:Int)(b:aF h.G=true) :
  zzB 374 false [.ptr (bB h),.val none [I p]] [.ptr (bB {h with G:=cJ h.G p}),.val none [I p]] .one [B (decide ((af h.G.F.R p).e≠0))]:=by
 have k:=bE b;have c:=KM h p k.1.2;by_cases a:(af h.G.F.R p).e=0
 ·rw[show cJ h.G p=h.G by unfold cJ;rw[CC a]]
  refine fM 32 [(486,[2,0])] [] [(0,0),(0,0)] Tryz.func374 rfl (λu q=>?_)
  repeat'(first|refine gB ?_|(conv=>whnf);first|refine CB ?_|refine CF (c) ⟨bI h,⟨rfl,rfl⟩,trivial⟩ ?_)
  refine CG rfl ?_ ?_
  ·exact X0 (λz=>[B z]) ((by simp[a]))
  exact wB
 obtain⟨l,r,n,d,o⟩:=bW b a;have j:=(bf.1 (aG.1 b).2.1).2.2.1;rw[show cJ h.G p=fX (lv h.G p) (af h.G.F.R p).o by unfold cJ;rw[C9 a]];have e:=KG {h with G:=lv h.G p} (af h.G.F.R p).o (y1 b) ⟨d,by grind [lv],by grind [lv]⟩;rw[Tu h (lv h.G p),xo,Gr]at e;have g:=au (xs:=h.G.F.R.K) (i:=p.toNat) ω;rw[n]at c e a |-;refine fM 32 [(486,[2,0])] [] [(0,0),(0,0)] Tryz.func374 rfl (λu q=>?_)
 repeat'(first|refine gB ?_|(conv=>whnf);first|with_reducible refine CN l (aa g) ?_|refine CB ?_|refine CF (c) ⟨bI h,⟨rfl,rfl⟩,trivial⟩ ?_|refine CP rfl rfl (aa g) rfl (I1 rfl) rfl ?_|refine CH rfl (aa g) rfl ?_|refine CK (e) (.inl rfl) ?_)
 refine CG rfl ?_ ?_
 ·exact X0 (λz=>[B z]) ((by simp[a]))
 exact wB
def uX(h:ac)(p:Int):zzA 367 false [.ptr (ac.enc .V h),.val none [I p]] .one [B (f6 h p)]:=by
 cases e:h.u
 all_goals
  have b:ac.enc .V h=(ac.enc .V h).set 18 (B h.u):=rfl;rw[e]at b;rw[b];refine fO 29 [] Tryz.func367 rfl ?_
  repeat'(first|refine gP ?_|(conv=>whnf);first|with_reducible (first|refine Bf.D (λa=>?_) (λa=>?_)|refine Bf.E (λa=>?_) (λa=>?_)|refine Bf.N (λa=>?_) (λa=>?_))|refine CB ?_)
  all_goals exact X0 (λz=>[B z]) ((by unfold f6;rw[e];first|(simp[*];done)|(simp[*];rw[Y4];simp)))
def gZ(h:ac):zzA 372 false [.ptr (ac.enc .V h)] .one [I (eX h:Nat)]:=by
 refine fO 11 [] Tryz.func372 rfl ?_
 repeat'(first|refine gP ?_|(conv=>whnf);first|refine CB ?_)
 rfl
theorem rN(h:ac)(a:Int)(k:h.O.length<=1048576):zzA 509 false [.val (some 24) (ac.enc .V h),.val none [I a]] .one [I (cW (mn a) h.O)]:=by
 refine fO 22 [] Tryz.func509 rfl ?_
 repeat'(first|refine gP ?_|(conv=>whnf);first|refine CB ?_)
 (conv=>whnf)
 refine CJ (ι:=Nat) (λi=>[(1,.H .one [I (a)]),(2,.H .box (ac.enc .V h)),(5,.H .one [I ((i:Nat):Int)])]) (λi=>i<=h.O.length/\∀(j:Nat)(z:bt),j<i->h.O[j]? = some z->mn a z=false) (λi=>h.O.length - i) (0) ?_ ψ λi c=>?_
 ·exact wB
 obtain⟨c,d⟩:=c;by_cases g:i<h.O.length
 ·have b:=au g
  by_cases e:(nth h.O i).Addr=a
  ·repeat'(first|refine gB ?_|(conv=>whnf);first|with_reducible refine CD (aa b) ?_|refine CB ?_)
   grind [dN,mn]
  repeat'(first|refine gB ?_|(conv=>whnf);first|with_reducible refine CD (aa b) ?_|refine CB ?_)
  ((conv=>whnf);refine CE (i+1) ⟨ω,dX b (by grind [mn]) d⟩ ω ?_;(exact wB))
 repeat'(first|refine gE ?_|(conv=>whnf);first|refine CB ?_)
 exact X0 (λz=>[I z]) (gc ω d).symm
def oe(h:ac)(i:Nat)(b:i<h.O.length)(a:h.O.length<=1048576):zzB 513 false [.ptr (bB h),.val none [I (i:Nat)]] [.ptr (bB {h with O:=dele h.O i}),.val none [I (i:Nat)]] (.tup []) []:=by
 refine fM 23 [] [(0,273,[4,5,6,7,8,9,10,11,13,14,15,16,17,18,19,21,22,0,1,2,3,4,5,6,7,9,10,11,12,13,14,15,8,1000,1009,1010,1011,1012,1013,1014,1015,16,1000,17,18,19]),(1048576,0,[8])] [(0,0),(0,0)] Tryz.func513 rfl (λu q=>?_) (.inr trivial)
 repeat'(first|refine gP ?_|(conv=>whnf);first|refine CB ?_|refine Hy.mk rfl (BQ h.O) rfl ?_|refine CY i rfl (by rw[C1];omega) (aV λ_=>rfl) C4 ?_|refine Sl.suf (i+1) rfl (by rw[C1];omega) (aV λ_=>rfl) I4 ?_|refine CX (λ_=>rfl) (λ_=>rfl) (by rw[V1];omega) (by decide) ?_|refine Ap.dele (λ_=>rfl) (λ_=>rfl) a (by decide) ?_|refine CR (λ_=>rfl) (λ_=>rfl) (by rw[V1];omega) (by decide) ?_|refine CB ?_)
 refine CG rfl rfl ?_;exact wB
theorem BI(h:ac)(E:List Int)(i:Nat)(a:bc h E)(e:i<h.J.length):zzB 524 false [.ptr (bB h),.val none [I (i:Nat)]] [.ptr (bB (giveP h i)),.val none [I (i:Nat)]] (.tup []) []:=by
 have b:=a.lens;have g:=b.spans;have c:=au e;have j:=oo {h with J:=dele h.J i} (nth h.J i).Q a.ker;have d:=gZ {h with G:=cJ h.G (nth h.J i).Q,J:=dele h.J i};rw[show eX {h with G:=cJ h.G (nth h.J i).Q,J:=dele h.J i} = eX h from(lg _ _).1]at d;have k:eX h<=32:=b.ents;have l:=mB (eX h:Nat) h.j ⟨(nth h.J i).Q,1⟩ ω ⟨by grind [rD.free],λ_ _=>trivial⟩;refine fM 52 [(374,[2,0])] [(1,273,[13,14,15,16,17,18,19,20,22,23,24,25,26,27,28,30,31,0,1,2,3,4,5,6,7,9,10,11,12,13,14,15,8,1000,1009,1010,1011,1012,1013,1014,1015,16,1000,17,18,19]),(1048577,0,[6]),(3,270,[38,39,40,41,42,43,44,45,47,37,48,49,50,51,0,1,2,3,4,5,6,7,8,1000,1001,1002,1003,1004,1005,1006,9,10,11,12,13,14,15,1012])] [(0,0),(0,0)] Tryz.func524 rfl (λu q=>?_) (.inr trivial)
 repeat'(first|refine gP ?_|(conv=>whnf);first|with_reducible refine CD (aa c) ?_|refine CB ?_|refine Hy.mk rfl (EW h.J) rfl ?_|refine CY i rfl (by rw[C1];omega) (aV λ_=>rfl) C4 ?_|refine Sl.suf (i+1) rfl (by rw[C1];omega) (aV λ_=>rfl) I4 ?_|refine CX (λ_=>rfl) (λ_=>rfl) (by rw[V1];omega) (by decide) ?_|refine Ap.dele (λ_=>rfl) (λ_=>rfl) ω (by decide) ?_|refine CR (λ_=>rfl) (λ_=>rfl) (by rw[V1];omega) (by decide) ?_|refine CH rfl (aa c) rfl ?_|refine CB ?_|refine CK (j) (.inl rfl) ?_|refine CF (d) ⟨bI _,trivial⟩ ?_|refine CF (l) ⟨⟨rfl,rfl⟩,⟨rfl,ed h.j⟩,⟨rfl,rfl⟩,trivial⟩ ?_)
 refine CG rfl rfl ?_;exact wB
def yI(h:ac)(i:Nat)(a:Int):bB (clrS h i a)=(bB h).set 6 (.s .own ((h.J.map (aA.enc .own)).set i (aA.enc .own (mY (nth h.J i) (dz (nth h.J i) a))))):=by
 simp[bB,clrS,I6]
theorem kI{f:α->β}{xs:List α}{y:β}(a:i<xs.length):((xs.map f).set i y)[i]? = some y:=ψ
def La(c:bh s=true)(b:eE s a):iR s a=(dz s a,0):=by
 unfold iR;rw[CC ((gF c).2 ⟨b.1,b.2.1⟩),b.2.2.1];rfl
theorem oq(h:ac)(E:List Int)(a:Int)(c:bc h (a::E)):zzB 426 false [.ptr (bB h),.val none [I a]] [.ptr (bB (freeA h a)),.val none [I a]] (.tup []) []:=by
 obtain⟨j,n,t⟩:=c.at (c.hin a ψ);have d:=(c.hin a ψ).bd c;have B:=c.lens;have C:=B.spans;have e:=c.L.sok _ (ar j);have k:=jP h (a / 16) ω;rw[t]at k;unfold freeA;generalize vO h a=i at j n k e;have b:=au j;have o:=vi (nth h.J i) a ⟨ω,ω⟩;rw[La e n]at o;have w:=zh (nth h.J i) (dz (nth h.J i) a) e n.2.2.2;have D:=c.give j n;have l:=uX (clrS h i a) (nth h.J i).Q;rw[show f6 (clrS h i a) (nth h.J i).Q=f6 h (nth h.J i).Q from rfl]at l;have p:=BI (clrS h i a) E i D (by grind [clrS]);have r:=bI (clrS h i a);rw[yI]at p r;have g:((h.J.map (aA.enc .own)).set i (aA.enc .own (mY (nth h.J i) (dz (nth h.J i) a))))[i]? = some (aA.enc .own (mY (nth h.J i) (dz (nth h.J i) a))):=kI j;unfold freeS;by_cases y:(mY (nth h.J i) (dz (nth h.J i) a)).a9=0
 ·cases F:f6 h (nth h.J i).Q<;>rw[F]at l
  ·rw[CC ⟨y,rfl⟩]
   refine fM 68 [(524,[2,0])] [(2,274,[26,27,28,29,30,31,32,33,34,35,36,37,38,39,25,40,41,42,0,1,2,3,4,5,6,7,8,9,10,11,12,13,14,15,16,17,18,1016])] [(0,0),(0,0)] Tryz.func426 rfl (λu q=>?_) (.inr trivial)
   repeat'(first|refine gB ?_|(conv=>whnf);first|with_reducible refine CM ((X0 _ (tdiv16 d.1)).trans (fQ ω ω)) ?_|refine CB ?_|refine CO (by decide) ?_|refine CF (k) ⟨⟨rfl,bI h⟩,⟨rfl,rfl⟩,trivial⟩ ?_|refine CD (aa b) ?_|refine CD g ?_|refine CH rfl (aa b) rfl ?_|refine CH rfl g rfl ?_|refine C8 (o) ?_|refine C8 (w) ?_|refine CB ?_|refine CP rfl rfl (aa b) rfl (I1 rfl) rfl ?_|refine CF (l) ⟨r,⟨rfl,rfl⟩,trivial⟩ ?_|refine CK (p) (.inl rfl) ?_)
   refine CG rfl rfl ?_;exact wB
  rw[C9 ψ];rw[yI];refine fM 68 [(524,[2,0])] [(2,274,[26,27,28,29,30,31,32,33,34,35,36,37,38,39,25,40,41,42,0,1,2,3,4,5,6,7,8,9,10,11,12,13,14,15,16,17,18,1016])] [(0,0),(0,0)] Tryz.func426 rfl (λu q=>?_) (.inr trivial)
  repeat'(first|refine gB ?_|(conv=>whnf);first|with_reducible refine CM ((X0 _ (tdiv16 d.1)).trans (fQ ω ω)) ?_|refine CB ?_|refine CO (by decide) ?_|refine CF (k) ⟨⟨rfl,bI h⟩,⟨rfl,rfl⟩,trivial⟩ ?_|refine CD (aa b) ?_|refine CD g ?_|refine CH rfl (aa b) rfl ?_|refine CH rfl g rfl ?_|refine C8 (o) ?_|refine C8 (w) ?_|refine CB ?_|refine CP rfl rfl (aa b) rfl (I1 rfl) rfl ?_|refine CF (l) ⟨r,⟨rfl,rfl⟩,trivial⟩ ?_|refine CK (p) (.inl rfl) ?_)
  refine CG rfl rfl ?_;exact wB
 rw[C9 λx=>y x.1];rw[yI];refine fM 68 [(524,[2,0])] [(2,274,[26,27,28,29,30,31,32,33,34,35,36,37,38,39,25,40,41,42,0,1,2,3,4,5,6,7,8,9,10,11,12,13,14,15,16,17,18,1016])] [(0,0),(0,0)] Tryz.func426 rfl (λu q=>?_) (.inr trivial)
 repeat'(first|refine gB ?_|(conv=>whnf);first|with_reducible refine CM ((X0 _ (tdiv16 d.1)).trans (fQ ω ω)) ?_|refine CB ?_|refine CO (by decide) ?_|refine CF (k) ⟨⟨rfl,bI h⟩,⟨rfl,rfl⟩,trivial⟩ ?_|refine CD (aa b) ?_|refine CD g ?_|refine CH rfl (aa b) rfl ?_|refine CH rfl g rfl ?_|refine C8 (o) ?_|refine C8 (w) ?_|refine CB ?_|refine CP rfl rfl (aa b) rfl (I1 rfl) rfl ?_|refine CF (l) ⟨r,⟨rfl,rfl⟩,trivial⟩ ?_|refine CK (p) (.inl rfl) ?_)
 refine CG rfl rfl ?_;exact wB
def NV(h:ac)(t:Nat)(c:aE):bB {h with S:=h.S.set t c} = (bB h).set 9 (.s .own ((h.S.map (aE.enc .own)).set t (aE.enc .own c))):=by
 simp[bB,I6]
theorem o9(h:ac)(E:List Int)(t:Nat)(a:Int)(b:bc h (a::E))(w:t<h.S.length):zzB 515 false [.ptr (bB h),.val none [I (t:Nat)],.val none [I a]] [.ptr (bB (recyc t h a)),.val none [I (t:Nat)],.val none [I a]] (.tup []) []:=by
 obtain⟨o,y,p⟩:=b.at (b.hin a ψ);have g:=(b.hin a ψ).bd b;have B:=b.lens;have C:=B.spans;have j:=aI (b.L.sok _ (ar o));have r:=b.cach _ (ar w);have l:=jP h (a / 16) ω;rw[p]at l;have D:=oq h E a b;unfold recyc;generalize vO h a=i at o y l j;have n:=au o;have k:=au w;have d:=zl (nth h.S t) (nth h.J i).d.toNat a r ω;rw[Int.toNat_of_nonneg j.2.2.1]at d;unfold J6 at d;cases e:cput (nth h.S t) (nth h.J i).d a with
 | none=>
  rw[e]at d;refine fM 46 [(426,[2,0])] [(1,277,[16,17,18,19,20,21,22,23,24,25,26,27,28,29,30,31,32,15,33,34,7,0,1,2,3,4,5,6,7,8,9,10,11,12,13,14,15,16,17,18,19,20,21,1019,22]),(3,6,[36,37,38,39,40,41])] [(0,0),(0,0),(0,0)] Tryz.func515 rfl (λu q=>?_) (.inr trivial)
  repeat'(first|refine gP ?_|(conv=>whnf);first|with_reducible refine CM ((X0 _ (tdiv16 g.1)).trans (fQ ω ω)) ?_|refine CB ?_|refine CO (by decide) ?_|refine CF (l) ⟨⟨rfl,bI h⟩,⟨rfl,rfl⟩,trivial⟩ ?_|refine CD (aa n) ?_|refine CD (aa k) ?_|refine CH rfl (aa n) rfl ?_|refine CH rfl (aa k) rfl ?_|refine CF (d) ⟨⟨rfl,Ce _⟩,⟨rfl,rfl⟩,⟨rfl,rfl⟩,trivial⟩ ?_|refine CB ?_|refine CK (D) (.inl rfl) ?_)
  refine CG rfl rfl ?_;exact wB
 | some c=>
  rw[e]at d;simp only;rw[NV];refine fM 46 [(426,[2,0])] [(1,277,[16,17,18,19,20,21,22,23,24,25,26,27,28,29,30,31,32,15,33,34,7,0,1,2,3,4,5,6,7,8,9,10,11,12,13,14,15,16,17,18,19,20,21,1019,22]),(3,6,[36,37,38,39,40,41])] [(0,0),(0,0),(0,0)] Tryz.func515 rfl (λu q=>?_) (.inr trivial)
  repeat'(first|refine gP ?_|(conv=>whnf);first|with_reducible refine CM ((X0 _ (tdiv16 g.1)).trans (fQ ω ω)) ?_|refine CB ?_|refine CO (by decide) ?_|refine CF (l) ⟨⟨rfl,bI h⟩,⟨rfl,rfl⟩,trivial⟩ ?_|refine CD (aa n) ?_|refine CD (aa k) ?_|refine CH rfl (aa n) rfl ?_|refine CH rfl (aa k) rfl ?_|refine CF (d) ⟨⟨rfl,Ce _⟩,⟨rfl,rfl⟩,⟨rfl,rfl⟩,trivial⟩ ?_|refine CB ?_|refine CP rfl rfl (aa k) rfl (I1 rfl) rfl ?_)
  refine CG rfl rfl ?_;exact wB
theorem qO(h:ac)(i:Nat)(d:bc h [])(o:i<h.O.length)(t:aL (nth h.O i).q<0):zzB 511 false [.ptr (bB h),.val none [I (i:Nat)]] [.ptr (bB (freeL h i (yX h (nth h.O i).Addr))),.val none [I (i:Nat)]] (.tup []) []:=by
 obtain⟨l,w,y,-⟩:=(dP d (ar o)).1 t;obtain⟨p,B,c,-⟩:=vZ w y;generalize yX h (nth h.O i).Addr=g at p B c;have a:=d.lens;have C:=a.larges;have D:=a.objs;have b:=au o;have N:=aS (d.L.lok _ (ar p));have E:eX h<=32:=a.ents;refine fM 89 [(374,[2,0]),(513,[2,0])] [(4,11,[23,24,25,26,27,28,29,30,31,32,33]),(8,7,[41,42,43,44,45,46,47]),(9,273,[50,51,52,53,54,55,56,57,58,59,60,62,49,63,64,65,66,0,1,2,3,4,5,6,7,8,9,10,11,1000,1001,1002,1003,1004,1005,1006,12,13,14,15,16,17,18,1015]),(10,273,[67,68,69,70,71,72,73,74,76,77,78,79,80,81,82,84,85,0,1,2,3,4,5,6,7,9,10,11,12,13,14,15,8,1000,1009,1010,1011,1012,1013,1014,1015,16,1000,17,18,19]),(1048586,0,[7])] [(0,0),(0,0)] Tryz.func511 rfl (λu q=>?_) (.inr trivial)
 repeat'(first|refine gP ?_|(conv=>whnf);first|refine CB ?_)
 (conv=>whnf)
 refine CJ (ι:=Nat) (λk=>[(0,.H .box (bB h)),(1,.H .one [I ((i:Nat):Int)]),(4,.H .one [I ((k:Nat):Int)])]) (λk=>k<=g) (λk=>g - k) (0) ?_ (W0 _) λk O=>?_
 ·exact wB
 have j:=au (xs:=h.M) (i:=k) ω;have F:=aS (d.L.lok _ (ar (xs:=h.M) (i:=k) ω));have G:0<=(nth h.O i).Addr/\(nth h.O i).Addr<=512:=ω
 by_cases e:k=g
 ·subst e
  repeat'(first|refine gB ?_|(conv=>whnf);first|with_reducible refine CD (aa j) ?_|refine CB ?_|refine CH rfl (aa j) rfl ?_|refine CH rfl (aa b) rfl ?_|refine CD (aa b) ?_)
  (conv=>whnf)
  refine CJ (ι:=Nat) (λn=>[(0,.H .box (bB {h with G:=unmN h.G (nth h.M k).Q n})),(1,.H .one [I ((i:Nat):Int)]),(4,.H .one [I ((k:Nat):Int)]),(5,.H .box (aD.enc .own (nth h.M k))),(6,.H .one [I ((n:Nat):Int)])]) (λn=>n<=(nth h.M k).a2.toNat) (λn=>(nth h.M k).a2.toNat - n) (0) ?_ (W0 _) λn P=>?_
  ·exact wB
  by_cases Q:n<(nth h.M k).a2.toNat
  ·have H:=oo {h with G:=unmN h.G (nth h.M k).Q n} ((nth h.M k).Q+n) (gM d.ker _ _)
   repeat'(first|refine gE ?_|(conv=>whnf);first|refine CB ?_|refine CK (H) (.inl rfl) ?_|refine CB ?_)
   ((conv=>whnf);refine CE (n+1) ω ω ?_;(exact wB))
  obtain rfl:n=(nth h.M k).a2.toNat:=ω
  have r:=gZ {h with G:=unmN h.G (nth h.M k).Q (nth h.M k).a2.toNat};rw[show eX {h with G:=unmN h.G (nth h.M k).Q (nth h.M k).a2.toNat} = eX h from(eO _ _ _).1]at r;have J:=mB (eX h:Nat) h.j ⟨(nth h.M k).Q,(nth h.M k).a2⟩ ω ⟨by grind [rD.free],λ_ _=>trivial⟩;have K:=oe {h with G:=unmN h.G (nth h.M k).Q (nth h.M k).a2.toNat,M:=dele h.M k,j:=(dH (eX h) h.j ⟨(nth h.M k).Q,(nth h.M k).a2⟩).getD h.j} i o ψ
  repeat'(first|refine gE ?_|(conv=>whnf);first|refine CB ?_|refine Hy.mk rfl (A4 h.M) rfl ?_|refine CY k rfl (by rw[C1];omega) (aV λ_=>rfl) C4 ?_|refine Sl.suf (k+1) rfl (by rw[C1];omega) (aV λ_=>rfl) I4 ?_|refine CX (λ_=>rfl) (λ_=>rfl) (by rw[V1];omega) (by decide) ?_|refine Ap.dele (λ_=>rfl) (λ_=>rfl) ω (by decide) ?_|refine CR (λ_=>rfl) (λ_=>rfl) (by rw[V1];omega) (by decide) ?_|refine CB ?_|refine CF (r) ⟨bI _,trivial⟩ ?_|refine CF (J) ⟨⟨rfl,rfl⟩,⟨rfl,ed h.j⟩,⟨rfl,rfl⟩,trivial⟩ ?_|refine CK (K) (.inl rfl) ?_)
  refine CG rfl rfl ?_;exact wB
 have M:=c k ω
 repeat'(first|refine gB ?_|(conv=>whnf);first|with_reducible refine CD (aa j) ?_|refine CB ?_|refine CH rfl (aa j) rfl ?_|refine CH rfl (aa b) rfl ?_|refine CD (aa b) ?_)
 ((conv=>whnf);refine CE (k+1) ω ω ?_;(exact wB))
def RF(q:bM)(x:aT):List C:=bM.enc .own (KX q x)++cX .own (zb q x)
def Qh(q:bM)(x:aT):hC (RF q x):=aW (bM.enc_fr _) (vr _)
def Di(q:bM)(a:aT)(K:q.a6.length<=4096)(e:gk q=true)(r:0<=a.d/\a.d<=3/\0<=a.Addr/\0<=a.b7)(t:∀y∈q.a6,y.b7<=a.b7)(u:∀y∈q.a6,y.Addr≠a.Addr) :
  zzA 514 false [.val (some 2) (bM.enc .V q),.val (some 3) (aT.enc .V a)] (.tup [some 2,none]) (RF q a):=by
 have b:bM.sml q:=⟨ω,λ_ _=>trivial⟩
 have w:=sS q b;have l:=pd q b;rw[e]at l;have n:=Bd a;rw[O0 r]at n;have o:=rY q a.Addr b;rw[show q.a6.any (eS a.Addr)=false by rw[List.any_eq_false];intro y B;unfold eS;simpa using u y B]at o;have C:=(jK.1 e).2.2.2;have g:=Qh q a;have L:(aT.mk a.Addr a.d a.b7)=a:=rfl;have c:=FB q.c1 (q.a6++[a]);simp only[U3,List.length_singleton]at c;by_cases E:q.a6.length=0
 all_goals
  try have h:(nth q.a6 (q.a6.length - 1)).b7<=a.b7:=t _ (ar ω)
  try have j:=au (xs:=q.a6) (i:=q.a6.length - 1) ω
  try have d:q.a6[((q.a6.length:Int) - 1).toNat]? = some (nth q.a6 (q.a6.length - 1)):=by rw[show((q.a6.length:Int) - 1).toNat=q.a6.length - 1 by omega];exact j
  refine fO 74 [(3,27,[15,16,17,18,19,20,21,22,23,24,25,26,27,28,29,30,31,32,33,34,35,36,37,38,39,40,41]),(7,6,[52,53,54,55,56,57]),(9,268,[61,62,63,64,65,66,67,69,70,71,72,73,0,1,2,3,4,5,6,8,9,10,11,12,7,1008,1009,1010,1011,1012,13,14])] Tryz.func514 rfl ?_ (.inr g)
  repeat'(first|refine gE ?_|(conv=>whnf);first|with_reducible refine Bf.D (λe=>?_) (λe=>?_)|refine CB ?_|refine C8 (w) ?_|refine C8 (l) ?_|refine C8 (n) ?_|refine C8 (o) ?_|refine CN ω (aa d) ?_|refine Ap.sm (aV λ_=>rfl) rfl (by simp;omega) (by decide) (iT (aT.enc .own) q.a6 a) ?_)
  (conv=>whnf)
  refine Lp.fz 8 (ι:=Nat) (λk=>[(2,.H .box (bM.enc .V q)),(4,.H .box [I 0,.z]),(8,.H .one (cX .V (q.a6++[a]))),(9,.H .one [I (k:Nat)])]) (λk=>k<=oC q.c1 (q.a6++[a])) (λk=>oC q.c1 (q.a6++[a]) - k) 0 ?_ (W0 _) λk M=>?_
  ·(repeat'(first|exact trivial|rfl|exact CL rfl (show M4 (dJ (cX .own (q.a6++[a]))) (cX .V (q.a6++[a])) by rw[EZ];exact mW _)|refine CL ?_ ?_))
  have N:(q.a6++[a]).length=q.a6.length+1:=by simp
  have F:((q.a6++[a]).drop k).length<=5000:=by rw[V3];omega
  have G:((q.a6++[a]).take k).length<=5000:=by rw[V1];omega
  have p:=v8 ((q.a6++[a]).drop k) ⟨ω,λ_ _=>trivial⟩;by_cases H:k<oC q.c1 (q.a6++[a])
  ·have J:q.c1<quarCells ((q.a6++[a]).drop k) ((q.a6++[a]).drop k).length:=Ak H
   repeat'(first|refine gE ?_|(conv=>whnf);first|refine CB ?_|refine Sl.suf k rfl (by rw[C1];omega) (aV λ_=>rfl) I4 ?_|refine C8 (p) ?_|refine CB ?_)
   ((conv=>whnf);refine CE (k+1) ω ω ?_;(exact wB))
  obtain rfl:k=oC q.c1 (q.a6++[a]):=ω
  have J:quarCells ((q.a6++[a]).drop (oC q.c1 (q.a6++[a]))) ((q.a6++[a]).drop (oC q.c1 (q.a6++[a]))).length<=q.c1:=DJ C.1 _
  repeat'(first|refine gE ?_|(conv=>whnf);first|refine CB ?_|refine Sl.suf (oC q.c1 (q.a6++[a])) rfl (by rw[C1];omega) (aV λ_=>rfl) I4 ?_|refine CY (oC q.c1 (q.a6++[a])) rfl (by rw[C1];omega) (aV λ_=>rfl) C4 ?_|refine C8 (p) ?_|refine CB ?_|refine CX (λ_=>rfl) (λ_=>rfl) ω (by decide) ?_|refine CR (λ_=>rfl) (λ_=>rfl) ω (by decide) ?_)
  rfl
def qU{z:Int}(h:0<=z/\z<512):IntKind.i64.wrap (z.tdiv 16)=z / 16:=(X0 _ (tdiv16 h.1)).trans (fQ ω ω)
def tQ(a:bc h E)(b:o∈h.O):0<=o.Addr/\o.Addr<512:=by
 rcases a.oow o b with⟨s,c,⟨f,g,-⟩,-⟩|⟨l,d,e,-⟩
 ·have:=aI (a.L.sok s c);omega
 have:=aS (a.L.lok l d);omega
theorem NU{k:Int}(h:0<=k/\k<=3):1<=csz k/\csz k<=8:=by grind [bZ]
structure TA(h:ac)(o:bt):Prop where
 cl:0<=aL o.q/\aL o.q<=3
 fr:0<=(af h.G.F.R (o.Addr / 16)).o/\(af h.G.F.R (o.Addr / 16)).o<h.G.F.W.T.length
 fit:o.Addr % 16+csz (aL o.q)<=16
 row:(nth h.G.F.W.T (cU h.G o.Addr)).length=16
theorem TA.of(a:bc h E)(i:o∈h.O)(k:¬aL o.q<0):TA h o:=by
 obtain⟨⟨s,j,b,r⟩,t⟩:=(dP a i).2 k;have l:=aI (a.L.sok s j);have n:=tQ a i;have u:s.Q=o.Addr / 16:=by have w:=b.1;have y:=b.2.1;omega
 have c:(o.Addr / 16).toNat<(tbl h).K.length:=by have:=a.pg.bnd _ (d6 (la:=h.M) j);omega
 have d:(((o.Addr / 16).toNat:Nat):Int)=o.Addr / 16:=ω
 have A:=(a.pg.own _ c).2 (by grind [d6]);have e:(af h.G.F.R (o.Addr / 16)).e≠0:=by grind [m0,tbl]
 obtain⟨-,-,-,f,p⟩:=bW a.ker e;have q:=(bf.1 (aG.1 a.ker).2.1).2.2.1;have g:cU h.G o.Addr<h.G.F.W.T.length:=by unfold cU;omega
 refine⟨ω,⟨f,ω⟩,?_,a.lens.row _ (ar g)⟩;have B:=b.2.2.1
 grind [bZ]
theorem JN(h:ac)(a:Int)(b:cU h.G a<h.G.F.W.T.length):({h with G:=fk h.G a 0} : ac)=h:=by
 have e:h.G.F.W.T.set (cU h.G a) (nth h.G.F.W.T (cU h.G a))=h.G.F.W.T:=by
  refine List.ext_getElem? λi=>?_
  grind [au]
 unfold fk lr;rw[e]
def Ge(h:ac)(a:Int)(k:Nat)(v:Int)(_:0<=a):bB {h with G:=fk h.G a (k+1)} = (bB {h with G:=fk h.G a k}).set 0 (.s .own (((fk h.G a k).F.W.T.map (aH .own)).set (af h.G.F.R (a / 16)).o.toNat ((aH .own (lr (nth h.G.F.W.T (cU h.G a)) (a % 16).toNat k)).set 0 (.s .own (((lr (nth h.G.F.W.T (cU h.G a)) (a % 16).toNat k).map (rI .own)).set (a % 16+k).toNat (splice (rI .own v) 0 [I 0])))))):=by
 have e:(a % 16+k).toNat=(a % 16).toNat+k:=ω
 rw[e];simp[bB,fk,I6,lr,aH,splice,cU]
 rfl
theorem EV(t:Nat)(h:ac)(xs:List aT)(k:Nat)(a:k<xs.length):recycs t h ((xs.take (k+1)).map (·.Addr))=recyc t (recycs t h ((xs.take k).map (·.Addr))) (nth xs k).Addr:=by grind [V5,au,recycs]
theorem Hc(h:ac)(o:bt)(t:Nat)(a:bc h [])(N:o∈h.O)(ht:o.a4=t)(hlc:h.S.length<=4):zzB 416 false [.ptr (bB h),.val none [I (t:Nat)],.val none [I o.Addr]] [.ptr (bB (freeOb h t (qA h o.Addr)).1),.val none [I (t:Nat)],.val none [I o.Addr]] .one [I (freeOb h t (qA h o.Addr)).2]:=by
 obtain⟨g,w,B⟩:=a.objAt N;have b:=tQ a N;have hon:=a.onu o N;have C:=a.lens;have hno:=C.objs;have O:t<h.S.length:=ω
 have L:=aJ (t:Nat) 0 (h.S.length - 1:Int);rw[O0 ω]at L;have E:=rN h o.Addr ω;rw[B]at E;generalize qA h o.Addr=i at g w E;subst w;have p:=au g;have P:=kM (nth h.O i).q;unfold freeOb;have Q:=bE a.ker;have X:=di h.G.F.R ((nth h.O i).Addr / 16) Q.1.2;by_cases r:aL (nth h.O i).q<0
 ·rw[CC r]
  have c3:=qO h i a g r;refine fM 148 [(511,[2,0]),(513,[2,0]),(515,[2,0,0]),(510,[2,0])] [(15,269,[68,69,70,71,72,73,74,75,77,67,78,79,11,0,1,2,3,4,5,6,7,13,8,1000,1001,1002,1003,1004,1013,9,10,11,12,14,1012,15]),(22,15,[92,93,94,95,96,97,98,99,100,101,102,103,104,105,106]),(25,271,[116,117,118,119,120,121,122,123,124,125,127,115,128,129,14,0,1,2,3,4,5,6,7,8,9,15,10,1000,1001,1002,1003,1015,11,12,13,14,16,1014,17])] [(0,0),(0,0),(0,0)] Tryz.func416 rfl (λu q=>?_)
  repeat'(first|refine gE ?_|(conv=>whnf);first|with_reducible refine Bf.D (λj=>?_) (λj=>?_)|refine CB ?_|refine C8 (L) ?_|refine CF (E) ⟨⟨rfl,bI h⟩,⟨rfl,rfl⟩,trivial⟩ ?_|refine CD (aa p) ?_|refine CH rfl (aa p) rfl ?_|refine C8 (P) ?_|refine CK (c3) (.inl rfl) ?_)
  refine CG rfl rfl ?_;exact wB
 rw[C9 r];obtain⟨R,s2,s3,s4⟩:=TA.of a (ar g) r;by_cases M:(af (tbl h) ((nth h.O i).Addr / 16)).e=1
 ·rw[CC M]
  unfold tbl at M;refine fM 148 [(511,[2,0]),(513,[2,0]),(515,[2,0,0]),(510,[2,0])] [(15,269,[68,69,70,71,72,73,74,75,77,67,78,79,11,0,1,2,3,4,5,6,7,13,8,1000,1001,1002,1003,1004,1013,9,10,11,12,14,1012,15]),(22,15,[92,93,94,95,96,97,98,99,100,101,102,103,104,105,106]),(25,271,[116,117,118,119,120,121,122,123,124,125,127,115,128,129,14,0,1,2,3,4,5,6,7,8,9,15,10,1000,1001,1002,1003,1015,11,12,13,14,16,1014,17])] [(0,0),(0,0),(0,0)] Tryz.func416 rfl (λu q=>?_)
  repeat'(first|refine gB ?_|(conv=>whnf);first|with_reducible refine Bf.D (λj=>?_) (λj=>?_)|refine CB ?_|refine CO (by decide) ?_|refine CM (qU b) ?_|refine C8 (L) ?_|refine CF (E) ⟨⟨rfl,bI h⟩,⟨rfl,rfl⟩,trivial⟩ ?_|refine CD (aa p) ?_|refine CH rfl (aa p) rfl ?_|refine C8 (P) ?_|refine CF (X) ⟨⟨rfl,Cb _⟩,⟨rfl,rfl⟩,trivial⟩ ?_)
  refine CG rfl rfl ?_;exact wB
 rw[C9 M];unfold tbl at M;have F:cU h.G (nth h.O i).Addr<h.G.F.W.T.length:=by unfold cU;omega
 have hcz:=NU R;have l:=a.inQuar g r;have G:=ef (aL (nth h.O i).q);refine fM 148 [(511,[2,0]),(513,[2,0]),(515,[2,0,0]),(510,[2,0])] [(15,269,[68,69,70,71,72,73,74,75,77,67,78,79,11,0,1,2,3,4,5,6,7,13,8,1000,1001,1002,1003,1004,1013,9,10,11,12,14,1012,15]),(22,15,[92,93,94,95,96,97,98,99,100,101,102,103,104,105,106]),(25,271,[116,117,118,119,120,121,122,123,124,125,127,115,128,129,14,0,1,2,3,4,5,6,7,8,9,15,10,1000,1001,1002,1003,1015,11,12,13,14,16,1014,17])] [(0,0),(0,0),(0,0)] Tryz.func416 rfl (λu q=>?_)
 repeat'(first|refine gB ?_|(conv=>whnf);first|with_reducible refine Bf.D (λj=>?_) (λj=>?_)|refine CB ?_|refine CO (by decide) ?_|refine CM (qU b) ?_|refine C8 (L) ?_|refine CF (E) ⟨⟨rfl,bI h⟩,⟨rfl,rfl⟩,trivial⟩ ?_|refine CD (aa p) ?_|refine CH rfl (aa p) rfl ?_|refine C8 (P) ?_|refine CF (X) ⟨⟨rfl,Cb _⟩,⟨rfl,rfl⟩,trivial⟩ ?_)
 rw[show bB h=bB {h with G:=fk h.G (nth h.O i).Addr 0} by rw[JN h _ F]]
 (conv=>whnf)
 refine CJ (ι:=Nat) (λk=>[(0,.H .box (bB {h with G:=fk h.G (nth h.O i).Addr k})),(1,.H .one [I ((t:Nat):Int)]),(2,.H .one [I ((nth h.O i).Addr)]),(7,.H .one [I ((i:Nat):Int)]),(8,.H .box (bt.enc .own (nth h.O i))),(9,.H .one [I (aL (nth h.O i).q)]),(10,.H .box (bk.enc .own (af h.G.F.R ((nth h.O i).Addr / 16)))),(13,.H .one [I ((k:Nat):Int)])]) (λk=>k<=(csz (aL (nth h.O i).q)).toNat) (λk=>(csz (aL (nth h.O i).q)).toNat - k) (0) ?_ (W0 _) λk hk=>?_
 ·exact wB
 have Y:IntKind.i64.wrap 0=0:=rfl;have S:(nth h.O i).Addr.tmod 16=(nth h.O i).Addr % 16:=fh b.1;have n:(fk h.G (nth h.O i).Addr k).F.W.T[(af h.G.F.R ((nth h.O i).Addr / 16)).o.toNat]? = some (lr (nth h.G.F.W.T (cU h.G (nth h.O i).Addr)) ((nth h.O i).Addr % 16).toNat k):=X3 F;by_cases T:k<(csz (aL (nth h.O i).q)).toNat
 ·have H:=au (xs:=lr (nth h.G.F.W.T (cU h.G (nth h.O i).Addr)) ((nth h.O i).Addr % 16).toNat k) (i:=((nth h.O i).Addr % 16+k).toNat) (by grind [mU])
  repeat'(first|refine gE ?_|(conv=>whnf);first|refine CB ?_|refine CO (by decide) ?_|refine CS S ?_|refine C8 (G) ?_|refine CN s2.1 (aa n) ?_|refine CH rfl (aa n) rfl ?_|refine CN ω (aa H) ?_|refine Pu.two rfl rfl (aa n) rfl rfl rfl (aa H) rfl (I3 _) (Ge h _ k _ b.1) ?_)
  ((conv=>whnf);refine CE (k+1) ω ω ?_;(exact wB))
 obtain rfl:k=(csz (aL (nth h.O i).q)).toNat:=ω
 have c5:=oe {h with G:=fk h.G (nth h.O i).Addr (csz (aL (nth h.O i).q)).toNat} i g ψ;have d:=a.nums;unfold cu at d;rw[C0]at d;have J:=(a.dropO g (je.any (c:=aL (nth h.O i).q) (by obtain⟨⟨s,hs,k1,k2⟩,-⟩:=(dP a (ar g)).2 r;exact⟨s,hs,k1,.inr k2⟩))).nd;rw[List.cons_append,List.nil_append]at J;have Z:=Di h.a7 (ly h (nth h.O i)) (by grind [rD.quar]) a.quar ⟨R.1,R.2,b.1,d.2.2.1⟩ (λy hy=>a.snc y hy) (λy hy e=>(List.nodup_cons.1 J).1 (by rw[show(nth h.O i).Addr=y.Addr from e.symm];grind [holders]));unfold RF at Z;have U:(zb h.a7 (ly h (nth h.O i))).length<=513:=by grind [rD.quar,zb]
 repeat'(first|refine gB ?_|(conv=>whnf);first|with_reducible refine Bf.D (λj=>?_) (λj=>?_)|refine CB ?_|refine C8 (G) ?_|refine CK (c5) (.inl rfl) ?_|refine CF (Z) ⟨⟨rfl,bM.enc_fz h.a7⟩,⟨rfl,rfl⟩,trivial⟩ ?_|refine CB ?_)
 have V:Eh h t i=recycs t (inQuar h i) ((zb h.a7 (ly h (nth h.O i))).map (·.Addr)):=rfl;simp only;rw[V];have hqn:(inQuar h i).S.length=h.S.length:=rfl;generalize zb h.a7 (ly h (nth h.O i))=out at l U
 (conv=>whnf)
 refine CJ (ι:=Nat) (λk=>[(0,.H .box (bB (recycs t (inQuar h i) ((out.take k).map (·.Addr))))),(1,.H .one [I ((t:Nat):Int)]),(15,.H .one (cX .own out)),(16,.H .one [I ((k:Nat):Int)])]) (λk=>k<=out.length) (λk=>out.length - k) (0) ?_ (W0 _) λk hk=>?_
 ·exact wB
 by_cases T:k<out.length
 ·have K:=au T
  have hsp:out.map (·.Addr)=(out.take k).map (·.Addr)++(nth out k).Addr::(out.drop (k+1)).map (·.Addr):=by grind [List.take_append_drop,iS]
  have W:bc (recycs t (inQuar h i) ((out.take k).map (·.Addr))) ((nth out k).Addr::(out.drop (k+1)).map (·.Addr)):=bc.recycs ψ O;have c7:=o9 _ _ t _ W (by grind [fe])
  repeat'(first|refine gE ?_|(conv=>whnf);first|refine CB ?_|refine CD (aa K) ?_|refine CH rfl (aa K) rfl ?_|refine CK (c7) (.inl rfl) ?_)
  ((conv=>whnf);refine CE (k+1) ω ω ?_)
  rw[EV t _ out k T];exact wB
 obtain rfl:k=out.length:=ω
 rw[C5]
 repeat'(first|refine gE ?_|(conv=>whnf);first|refine CB ?_)
 refine CG rfl rfl ?_;exact wB
end Go.Proofs.YtiopgblagimpmaaGreat.Ab
