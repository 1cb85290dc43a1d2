/- The library's Sort of numbers, on data of the call's own. No condition. -/
import Derived.Test.YtiopgblagimpmaaGreatKkc
import Derived.Test.YtiopgblagimpmaaGreatKkd
import Derived.Test.YtiopgblagimpmaaGreatKkShelf
import Derived.WalkKit
import Derived.Lib.SliceRun
set_option linter.unusedVariables false
set_option linter.defProp false
set_option linter.unusedSimpArgs false
set_option linter.constructorNameAsVariable false
namespace Go.Proofs.YtiopgblagimpmaaGreat.Ab
open Go.RowKit
set_option maxRecDepth 20000
set_option maxHeartbeats 4000000
def sorted(xs:List Int):List Int:=xs.mergeSort λx y=>decide (x<=y)
theorem yu(xs:List Int):(sorted xs).length=xs.length:=List.length_mergeSort ..
variable{n:Nat}
theorem Lx{w a:World}{g:Nat}{d:Array Int}{h:Array Obj}{c:Array Value}{e:TypeId}{i:Nat × Nat}(j:w.heap[g]? = some (.cells c e i))(k:a=Sort.grow (Sort.putRow (Value.int .i64) (Sort.ahead w n) g 0 d) h) :
  a.os=w.os/\a.tape=w.tape/\a.output=w.output/\w.heap.size<=a.heap.size/\(∀b,b<w.heap.size->b≠g->a.heap[b]? = w.heap[b]?)/\a.heap[g]? = some (.cells (Sort.putCells (Value.int .i64) 0 d c) e i):=by
 subst k;have f:g<w.heap.size:=ψ
 have l:∀b,b<w.heap.size->(Sort.grow (Sort.putRow (Value.int .i64) (Sort.ahead w n) g 0 d) h).heap[b]? = if g=b then(w.heap[b]?).map (Sort.onCells (Sort.putCells (Value.int .i64) 0 d)) else w.heap[b]?:=λb o=>by grind [Go.Sort.heap_grow_old,Go.Sort.putRow,Go.Sort.mapBlock,Go.Sort.ahead]
 refine⟨rfl,rfl,rfl,?_,λb o p=>?_,?_⟩
 ·grind
 ·grind
 rw[l g f,CE rfl,j];rfl
theorem Ua(d:Array Int)(c:Array Value)(q:Nat):(Sort.putCells (Value.int .i64) 0 d c)[q]? = if q<d.size then(c[q]?).map (λ_=>.int .i64 d[q]!) else c[q]?:=by grind [Go.Sort.putCells]
theorem row1{w:World}{S Y:am}{c:C}{v:Value}(h:dZ w S Y c v):cN w S Y [c] (λ_=>v):=by
 refine⟨λ_=>Y,λj a b=>?_,λ_ _ _ _ h=>h,ψ⟩
 all_goals grind
def Xj(Y:am):Nat->am
 | 0=>Y
 | _+1=>NO
variable{j:Nat}
theorem Qv(xs:List Int)(a:j<xs.length):xs.toArray[j]! = xs[j]:=ψ
theorem TX(xs:List Int)(hl:xs.length<=1048576*64):zzB 383 false [.mut none (aH .own xs)] [.mut none (aH .own (sorted xs))] (.tup []) []:=by
 refine⟨⟨_,Tryz.func383,by kernel_rfl,by kernel_rfl⟩,λw S V vs hS hV hVV N=>?_⟩
 match vs,N with
 | [v],⟨N,_⟩=>
  have t:=b9.rep1 (show b9 w S (V 0) none [C.s .own (xs.map (rI .own))] v from N);generalize F:C.s .own (xs.map (rI .own))=cc at t;cases t with
  | nil _ o a ho=>
   cases hcc0:xs with
   | cons x xs'=>grind
   | nil=>
    refine(Tryz.slices_Sort_int_none a 0 w).mono λe p ⟨O,B⟩=>?_
    subst B;refine⟨.tuple #[],O,Ce _ _,NO,λ_=>NO,NO,λ_ _ h=>h.elim,λ_ _ _ h=>h.elim,λ_ _ h=>h.elim,λ_ _ _ _ _ h=>h.elim,λ_ _ _ h=>h.elim,λ_ _ h=>h.elim,λ_ _ _ h=>h.elim,⟨#[],rfl,trivial,rfl⟩,cN.nil _ _ _ _,⟨⟨rfl,λ_=>.slice a 0 0,rfl,row1 (by rw[show sorted []=[] from List.mergeSort_nil ..];exact .nil _ .own _ trivial)⟩,trivial⟩⟩
  | own _ o g k n D rows u f ho hn hk G H hF hu hf hd hc=>
   cases F;have P:n=xs.length:=ψ
   have Q:0<xs.length:=ω
   have R:k=1:=by
    have:=hk (rI .own xs[0]) ψ;exact this.symm
   subst R P;have y:∀j (l:j<xs.length),cel w g j=some (.int .i64 xs[j]):=λj l=>by
    have h1:=hu j ω;have T:=hc j 0 (rI .own xs[j]) (I xs[j]) ψ rfl;rw[Nat.mul_one,Nat.add_zero]at T;rw[h1];generalize u j=z at T;cases T
    rfl
   have U:g<w.heap.size:=ψ
   obtain⟨c,e0,fr,hg,-⟩:=Sort.cells_of_cell? (y 0 Q);have hH:Sort.Holds (Value.int .i64) w g 0 xs.toArray:=λj l=>by
    have J:j<xs.length:=by simpa using l
    refine⟨?_,?_⟩
    ·rw[Qv xs J,C9];exact y j J
    rw[C9];exact C1 Prod.fst (hF j ω).2.2
   refine(Tryz.slices_Sort_int g 0 D xs w hH U ω).mono λe p ⟨O,m,os,B⟩=>?_
   obtain⟨q1,q2,q3,q4,q5,q6⟩:=Lx hg B;have hsl:=yu xs;have hcel:∀q,cel w g q=c[q]?:=λq=>by grind [Go.World.cell?]
   have W:∀q,cel p g q=if q<xs.length then(c[q]?).map (λ_=>.int .i64 (sorted xs).toArray[q]!) else c[q]?:=λq=>by grind [Ua,Go.World.cell?,sorted]
   have d:∀q (X:q<xs.length),cel p g q=some (.int .i64 ((sorted xs)[q]'(ω))):=ψ
   have K:∀q,fro p g q=fro w g q:=λq=>by
    refine Prod.ext ?_ ?_
    ·grind [Go.World.frozen?]
    grind [mp,Go.Sort.putCells]
   have hother:∀b,b<w.heap.size->b≠g->∀o,cel p b o=cel w b o/\fro p b o=fro w b o:=λb hb L o=>by grind [Go.World.cell?,Go.World.frozen?,mp]
   have E:bA (λb o=>∃i,V i b o) w p:=by
    refine⟨q1,q2,q3,q4,ψ,λb o hb hn=>?_,λb o hb hn=>?_⟩
    all_goals grind
   refine⟨.tuple #[],O,E,NO,Xj (V 0),NO,λ_ _ h=>h.elim,λi b o h=>?_,λ_ _ h=>h.elim,λi i' L b o h h'=>?_,λ_ _ _ h=>h.elim,λ_ _ h=>h.elim,λ_ _ _ _ h=>h.elim,⟨#[],rfl,trivial,rfl⟩,cN.nil _ _ _ _,⟨⟨rfl,λ_=>.slice (some ⟨g,0,none⟩) xs.length D,rfl,row1 ?_⟩,trivial⟩⟩
   ·cases i with
    | zero=>exact .inl ⟨0,h⟩
    | succ i=>exact h.elim
   ·cases i with
    | zero=>
     cases i' with
     | zero=>exact L rfl
     | succ i'=>exact h'.elim
    | succ i=>exact h.elim
   show dZ p _ (V 0) _ _;refine .own _ .own g 1 xs.length D _ (λq=>(cel p g q).getD undef) (λ_=>NO) trivial ψ (λr hr=>by obtain⟨z,-,rfl⟩:=O5.1 hr;rfl) G H (λq X=>?_) (λq X=>?_) (λ_ _ _ _ h=>h.elim) (λ_ _ _ _ _ _ _ h=>h.elim) (λi j r c2 M l=>?_)
   ·obtain⟨a1,⟨z,a2,a3⟩,a4⟩:=hF q X
    refine⟨a1,?_,(K q).trans a4⟩;by_cases Y:q<xs.length
    ·exact⟨_,d q Y,rfl⟩
    grind
   ·grind
   rw[z4]at M;have Z:i<(sorted xs).length:=ψ
   rw[C3 Z]at M;simp only[I7,I1]at M;subst M
   match j,l with
   | 0,l=>
    simp only[rI,List.getElem?_cons_zero,I1]at l;subst l;simp only[Nat.mul_one,Nat.add_zero,d i ω,Option.getD_some];exact .v _ _ rfl
   | j+1,l=>simp[rI]at l
  | _=>cases F
set_option maxHeartbeats 8000000
def kS(s:aA)(k:Nat):Int:=16*s.R+(k:Nat)*csz s.d
def eY(s:aA)(n:Nat):List Int:=((List.range n).filter λk=>bf s.a9 (k:Nat)).map (kS s)
variable{s:aA}
theorem EU(h:bf s.a9 (n:Nat)=true):eY s (n+1)=eY s n++[kS s n]:=by grind [List.range_succ,eY]
theorem HL(h:bf s.a9 (n:Nat)=false):eY s (n+1)=eY s n:=by grind [List.range_succ,eY]
theorem um(s:aA)(n:Nat):(eY s n).length<=n:=by grind [eY]
def gp(sp:List aA):List Int:=sp.flatMap λs=>eY s (slots s.d).toNat
def live0(sp:List aA)(la:List aE):List Int:=gp sp++la.map λl=>16*l.R
def pG(sp:List aA)(la:List aE):List Int:=sorted (live0 sp la)
theorem vm(k:Int):0<=slots k/\slots k<=16:=by grind [slots]
def DK{k:Int}(h:0<=k/\k<=3):slots k*csz k=16:=by
 obtain rfl|rfl|rfl|rfl:k=0\/k=1\/k=2\/k=3:=ω
 all_goals decide
variable{i:Nat}{sp:List aA}
theorem A8(h:sp[i]? = some s):gp (sp.take (i+1))=gp (sp.take i)++eY s (slots s.d).toNat:=by grind [X7,gp]
def rW(s:aA)(k:Nat)(a:bh s=true)(i:(k:Int)<slots s.d):zzA 339 false [.val (some 3) (aA.enc .U s),.val none [I (k:Nat)]] .one [I (kS s k)]:=by
 have b:=iD s;have c:=eM s.d;have g:=gK s.d;rw[a]at b;have d:=aI a;have j:=vm s.d;rcases cg ⟨d.2.2.1,d.2.2.2⟩ with e|e|e|e<;>rw[e]at c
 all_goals
  refine fO 26 [(3,9,[17,18,19,20,21,22,23,24,25])] Tryz.func339 rfl ?_
  repeat'(first|refine gE ?_|with_reducible refine Bf.D (λh=>?_) (λh=>?_)|refine CB (aN _ 0 _) ?_)
  all_goals exact C1 (λz=>[I z]) (by unfold kS;rw[e];omega)
theorem zG(sp:List aA)(la:List aE)(c:dY sp)(d:eD la)(a:bx sp la=true):zzA 238 false [.val none (ce .U sp),.val none (cJ .U la)] .one (aH .own (pG sp la)):=by
 have D:=c.1;have E:=d.1;have B:=sw sp la c d;rw[a]at B;obtain⟨o,F,-⟩:=eQ a;refine fP 56 [(383,[1])] [] Tryz.func238 rfl ?_ (.inr (bO _))
 refine ZP ?_
 refine CK (ι:=Nat × List Int) (λi=>[(1,.H .one (cJ .U la)),(5,.H .one (aH .own i.2)),(16,.H .one (ce .U sp)),(17,.H .one [I (sp.length)]),(18,.H .one [I ((i.1:Nat):Int)])]) (λi=>i.1<=sp.length/\i.2=gp (sp.take i.1)/\i.2.length<=16*i.1) (λi=>sp.length - i.1) ((0,[])) ?_ (⟨Z0 _,rfl,Z0 _⟩) λi e=>?_
 ·exact wB
 obtain⟨i,S⟩:=i;obtain⟨e,p,G⟩:=e;simp only at e p G |-;by_cases j:i<sp.length
 ·have n:=ar j
  have g:bh (nth sp i)=true:=UC o j;have H:=vm (nth sp i).d;have q:=fX g
  refine ZE ?_
  refine CK (ι:=Nat × List Int) (λk=>[(1,.H .one (cJ .U la)),(5,.H .one (aH .own k.2)),(7,.H .box (aA.enc .U (nth sp i))),(8,.H .one [I ((k.1:Nat):Int)]),(16,.H .one (ce .U sp)),(17,.H .one [I (sp.length)]),(18,.H .one [I ((i:Nat):Int)])]) (λk=>k.1<=(slots (nth sp i).d).toNat/\k.2=S++eY (nth sp i) k.1) (λk=>(slots (nth sp i).d).toNat - k.1) ((0,S)) ?_ (⟨Z0 _,by simp[eY]⟩) λk t=>?_
  ·exact wB
  obtain⟨k,S2⟩:=k;obtain⟨t,b⟩:=t;simp only at t b |-;have J:=um (nth sp i) k;have h:S2.length=S.length+(eY (nth sp i) k).length:=ψ
  by_cases M:k<(slots (nth sp i).d).toNat
  ·have u:=iJ (nth sp i).a9 (k:Nat) q.2
   cases K:bf (nth sp i).a9 (k:Nat)<;>rw[K]at u
   ·repeat'(first|refine gE ?_|refine CB (gK _) ?_)
    (refine CG (k+1,S2) ⟨(by simp only;omega),(by grind [HL])⟩ (by simp only;omega) ?_;(exact wB))
   repeat'(first|refine gE ?_|refine CB (gK _) ?_|refine CB (rW (nth sp i) k g ω) ?_|refine CV cC (λr w=>by rw[C2.1 w];rfl) (by simp[bn,eG]) (by simp;omega) (by show _*8<=_;simp;omega) rfl ?_)
   ((conv=>whnf)
    refine CG (k+1,S2++[kS (nth sp i) k]) ⟨(by simp only;omega),(by grind [EU])⟩ (by simp only;omega) ?_
    (repeat'(first|exact trivial|rfl|exact CN rfl (CN (C1 (C.s dX.own) (by simp[rI])) trivial)|refine CN ?_ ?_)))
  obtain rfl:k=(slots (nth sp i).d).toNat:=ω
  repeat'(first|refine gE ?_|refine CB (gK _) ?_)
  (refine CG (i+1,S2) ⟨(by simp only;omega),(by grind [A8]),(by simp only;omega)⟩ (by simp only;omega) ?_;(exact wB))
 obtain rfl:i=sp.length:=ω
 rw[C7]at p
 refine ZE ?_
 refine CK (ι:=Nat × List Int) (λi=>[(5,.H .one (aH .own i.2)),(40,.H .one (cJ .U la)),(41,.H .one [I (la.length)]),(42,.H .one [I ((i.1:Nat):Int)])]) (λi=>i.1<=la.length/\i.2=S++(la.take i.1).map (λl=>16*l.R)) (λi=>la.length - i.1) ((0,S)) ?_ ψ λi e=>?_
 ·exact wB
 obtain⟨i,S2⟩:=i;obtain⟨y,b⟩:=e;simp only at y b |-;have h:S2.length=S.length+i:=ψ
 by_cases j:i<la.length
 ·have n:=ar j
  have L:=vS a n
  repeat'(first|refine gE ?_|refine CV cC (λr w=>by rw[C2.1 w];rfl) (by simp[bn,eG]) (by simp;omega) (by show _*8<=_;simp;omega) rfl ?_)
  ((conv=>whnf)
   refine CG (i+1,S2++[16*(nth la i).R]) ⟨(by simp only;omega),(by grind [X7])⟩ (by simp only;omega) ?_
   (repeat'(first|exact trivial|rfl|exact CN rfl (CN (C1 (C.s dX.own) (by simp[rI];omega)) trivial)|refine CN ?_ ?_)))
 obtain rfl:i=la.length:=ω
 rw[C7]at b
 repeat'(first|refine gE ?_|refine CM (TX S2 ω) (.inl rfl) ?_)
 show _=aH .own (sorted (gp sp++la.map λl=>16*l.R));rw[<-p,<-b];rfl
def sD(b:List (Int × Value))(L:List Int):Prop:=∀a,mlook b a (.int .i64 0)=.int .i64 (L.count a:Nat)
theorem Nu(c:List (Int × Value))(a b:Int)(v d:Value):mlook (mput c a v) b d=if a=b then v else mlook c b d:=by
 induction c with
 | nil=>grind [mput,mlook]
 | cons p c e=>
  grind [mput,mlook]
def inc(b:List (Int × Value))(L:List Int)(a:Int):List (Int × Value):=mput b a (.int .i64 ((L.count a:Nat)+1))
def NN:sD [] []:=λ_=>rfl
theorem rp{d:List (Int × Value)}{L:List Int}(h:sD d L)(a:Int):sD (inc d L a) (L++[a]):=λb=>by
 unfold inc;rw[Nu,O8];by_cases c:a=b
 ·grind
 rw[CC c,h b,List.count_singleton,CC (by simpa using c)];rfl
theorem Gv(h:ac)(d:dY h.J)(e:eD h.M)(b:List (Int × Value))(L:List Int)(a c:Int)(g:sD b L)(n:L.length<=1000000000) :
  zzB 236 false [.val none [I a],.val none [I c],.ptr [.m b],.ptr (ac.enc .U h)] [.val none [I a],.val none [I c],.ptr [.m (inc b L a)],.ptr (ac.enc .U h)] .one [B (dL h a c)]:=by
 have k:=oR h.J h.M a d e;obtain⟨i,-⟩:=pp h.J h.M a;have l:L.count a<=L.length:=List.count_le_length;unfold dL;generalize denotes h.J h.M a=w at k i |-;refine fM 41 [] [] [(0,0),(0,0),(0,0),(0,0)] Tryz.func236 rfl (λu q=>?_)
 repeat'(first|refine gP ?_|with_reducible (first|refine Bf.D (λj=>?_) (λj=>?_)|refine Bf.E (λj=>?_) (λj=>?_))|refine Ml.mk (g a) ?_|refine Mu.mk (es':=inc b L a) rfl ?_|refine CO (i (by assumption)).1 (aa (ar (i (by assumption)).2)) ?_)
 all_goals
  refine CL rfl ?_ ?_
  ·exact C1 (λz=>[B z]) (ψ)
  exact wB
set_option maxHeartbeats 8000000
def vi(h:ac)(a:aT):Bool:=iP h a&&decide (a.b7<=h.b2)
def nY(h:ac):List Int:=((cQ h++h.a7.a6.map (·.Addr))++aV h.w)++h.O.map (·.Addr)
def kV(h:ac):Bool:=((h.S.all (fT h)&&h.a7.a6.all (vi h))&&(aV h.w).all (lH h))&&(pG h.J h.M).all λa=>decide ((nY h).count a=1)
variable{h:ac}
theorem Un(h1:h.S.all (fT h)=false):kV h=false:=by grind [kV]
theorem MU(h1:h.a7.a6.all (vi h)=false):kV h=false:=by grind [kV]
theorem U4(h1:(aV h.w).all (lH h)=false):kV h=false:=by grind [kV]
theorem Ul(h1:((pG h.J h.M).all λa=>decide ((nY h).count a=1))=false):kV h=false:=by grind [kV]
variable{la:List aE}
theorem Po(h1:sp.length<=1048576)(a:la.length<=1048576):(pG sp la).length<=100000000:=by
 have b:∀(l:List aA),(gp l).length<=16*l.length:=by
  intro l
  induction l with
  | nil=>exact Z0 _
  | cons s l c=>
   have e:gp (s::l)=eY s (slots s.d).toNat++gp l:=by grind [gp]
   have d:=vm s.d
   grind [um]
 grind [yu,pG,live0]
theorem yx(h:ac)(hs:ac.sml h)(P:bx h.J h.M=true)(G:bT h.w=true)(Z:∀c∈h.S,bD c=true):zzA 82 false [.val (some 24) (ac.enc .U h)] .one [B (kV h)]:=by
 obtain⟨-,-,p,r,hso,hsc,hsm,hsq,-⟩:=hs;have hlo:h.O.length<=1048576:=hso.1;have hlc:h.S.length<=1048576:=hsc.1;have hlq:h.a7.a6.length<=1048576:=hsq.1;have hfl:=tZ G;have t:kV h=false->[B false]=[B (kV h)]:=λe=>by rw[e]
 refine fP 114 [(236,[0,0,2,2])] [] Tryz.func82 rfl ?_
 refine ZP ?_
 refine CK (ι:=Nat × List (Int × Value) × List Int) (λi=>[(1,.H .box (ac.enc .U h)),(3,.H .box [.m i.2.1]),(4,.fn 236 [3,1]),(22,.H .one (qk .U h.S)),(23,.H .one [I (h.S.length)]),(24,.H .one [I ((i.1:Nat):Int)])]) (λi=>i.1<=h.S.length/\sD i.2.1 i.2.2/\i.2.2=((h.S.take i.1).flatMap λc=>c.Z.flatten)/\(h.S.take i.1).all (fT h)=true/\i.2.2.length<=32*i.1) (λi=>h.S.length - i.1) ((0,[],[])) ?_ (⟨Z0 _,NN,rfl,rfl,Z0 _⟩) λi hi=>?_
 ·exact wB
 obtain⟨i,es,L⟩:=i;obtain⟨hi,Q,hL,ai,hb⟩:=hi;simp only at hi Q hL ai hb |-;by_cases li:i<h.S.length
 ·have W:=ar li
  obtain⟨h4,h8⟩:=wT (Z _ (au li))
  refine ZE ?_
  refine CK (ι:=Nat × List (Int × Value) × List Int) (λk=>[(1,.H .box (ac.enc .U h)),(3,.H .box [.m k.2.1]),(4,.fn 236 [3,1]),(22,.H .one (qk .U h.S)),(23,.H .one [I (h.S.length)]),(24,.H .one [I ((i:Nat):Int)]),(29,.H .one (kx .U (nth h.S i).Z)),(30,.H .one [I ((nth h.S i).Z.length)]),(31,.H .one [I ((k.1:Nat):Int)])]) (λk=>k.1<=(nth h.S i).Z.length/\sD k.2.1 k.2.2/\k.2.2=L++((nth h.S i).Z.take k.1).flatten/\dv k.1 (tT h (nth h.S i))=true/\k.2.2.length<=L.length+8*k.1) (λk=>(nth h.S i).Z.length - k.1) ((0,es,L)) ?_ (⟨Z0 _,Q,by simp,rfl,by simp⟩) λk hk=>?_
  ·exact wB
  obtain⟨k,es3,X⟩:=k;obtain⟨hk,F,R,ak,hb3⟩:=hk;simp only at hk F R ak hb3 |-;by_cases lk:k<(nth h.S i).Z.length
  ·have hy:=ar lk
   have hl8:=h8 _ (au lk)
   refine ZE ?_
   refine CK (ι:=Nat × List (Int × Value) × List Int) (λj=>[(1,.H .box (ac.enc .U h)),(3,.H .box [.m j.2.1]),(4,.fn 236 [3,1]),(7,.H .one [I ((k:Nat):Int)]),(22,.H .one (qk .U h.S)),(23,.H .one [I (h.S.length)]),(24,.H .one [I ((i:Nat):Int)]),(29,.H .one (kx .U (nth h.S i).Z)),(30,.H .one [I ((nth h.S i).Z.length)]),(31,.H .one [I ((k:Nat):Int)]),(36,.H .one (aH .U (nth (nth h.S i).Z k))),(37,.H .one [I ((nth (nth h.S i).Z k).length)]),(38,.H .one [I ((j.1:Nat):Int)])]) (λj=>j.1<=(nth (nth h.S i).Z k).length/\sD j.2.1 j.2.2/\j.2.2=X++(nth (nth h.S i).Z k).take j.1/\((nth (nth h.S i).Z k).take j.1).all (λa=>dL h a (k:Nat))=true) (λj=>(nth (nth h.S i).Z k).length - j.1) ((0,es3,X)) ?_ ψ λj hj=>?_
   ·exact wB
   obtain⟨j,es4,S⟩:=j;obtain⟨hj,l,T,Y⟩:=hj;simp only at hj l T Y |-;have hl4:S.length=X.length+j:=ψ
   by_cases lj:j<(nth (nth h.S i).Z k).length
   ·have d:=ar lj
    have b:=Gv h p r es4 S (nth (nth (nth h.S i).Z k) j) (k:Nat) l ω;cases o:dL h (nth (nth (nth h.S i).Z k) j) (k:Nat)<;>rw[o]at b
    ·refine ZE ?_
     exact t (Un (iA W (by unfold fT;exact cK lk (iA d o))))
    refine ZE ?_
    ((conv=>whnf)
     refine CG (j+1,inc es4 S (nth (nth (nth h.S i).Z k) j),S++[nth (nth (nth h.S i).Z k) j]) ⟨(by simp only;omega),rp l _,(by grind [X7]),di d Y o⟩ (by simp only;omega) ?_
     (exact wA))
   obtain rfl:j=(nth (nth h.S i).Z k).length:=ω
   rw[C7]at T Y
   refine ZE ?_
   (refine CG (k+1,es4,S) ⟨(by simp only;omega),l,(by grind [A5]),bZ ak Y,(by simp only;omega)⟩ (by simp only;omega) ?_;(exact wB))
  obtain rfl:k=(nth h.S i).Z.length:=ω
  rw[C7]at R
  refine ZE ?_
  (refine CG (i+1,es3,X) ⟨(by simp only;omega),F,(by grind [wY]),di W ai ak,(by simp only;omega)⟩ (by simp only;omega) ?_;(exact wB))
 obtain rfl:i=h.S.length:=ω
 rw[C7]at hL ai
 refine ZE ?_
 refine CK (ι:=Nat × List (Int × Value) × List Int) (λq=>[(1,.H .box (ac.enc .U h)),(3,.H .box [.m q.2.1]),(4,.fn 236 [3,1]),(52,.H .one (dm .U h.a7.a6)),(53,.H .one [I (h.a7.a6.length)]),(54,.H .one [I ((q.1:Nat):Int)])]) (λq=>q.1<=h.a7.a6.length/\sD q.2.1 q.2.2/\q.2.2=L++(h.a7.a6.take q.1).map (·.Addr)/\(h.a7.a6.take q.1).all (vi h)=true) (λq=>h.a7.a6.length - q.1) ((0,es,L)) ?_ ψ λq u=>?_
 ·exact wB
 obtain⟨q,es5,H⟩:=q;obtain⟨w,y,E,aq⟩:=u;simp only at w y E aq |-;have hl5:H.length=L.length+q:=ψ
 by_cases U:q<h.a7.a6.length
 ·have d:=ar U
  have b:=Gv h p r es5 H (nth h.a7.a6 q).Addr (nth h.a7.a6 q).d y ω;cases o:dL h (nth h.a7.a6 q).Addr (nth h.a7.a6 q).d<;>rw[o]at b
  ·repeat'(first|refine gE ?_|with_reducible refine Bf.D (λu=>?_) (λu=>?_))
   all_goals exact t (MU (iA d (by unfold vi iP;rw[o];rfl)))
  repeat'(first|refine gE ?_|with_reducible refine Bf.D (λu=>?_) (λu=>?_))
  all_goals first
   |exact t (MU (iA d (by unfold vi iP;rw[o,X0 ω];rfl)))
   | ((conv=>whnf)
      refine CG (q+1,inc es5 H (nth h.a7.a6 q).Addr,H++[(nth h.a7.a6 q).Addr]) ⟨(by simp only;omega),rp y _,(by simp only;rw[E,X7,d,Z7,Y7];rfl),di d aq (by unfold vi iP;rw[o,O0 ω];rfl)⟩ (by simp only;omega) ?_
      (exact wA))
 obtain rfl:q=h.a7.a6.length:=ω
 rw[C7]at E aq
 repeat'(first|refine gE ?_|refine CB (Df h.w hsm) ?_)
 refine CK (ι:=Nat × List (Int × Value) × List Int) (λq=>[(1,.H .box (ac.enc .U h)),(3,.H .box [.m q.2.1]),(4,.fn 236 [3,1]),(75,.H .one (aH .own (aV h.w))),(76,.H .one [I ((aV h.w).length)]),(77,.H .one [I ((q.1:Nat):Int)])]) (λq=>q.1<=(aV h.w).length/\sD q.2.1 q.2.2/\q.2.2=H++(aV h.w).take q.1/\((aV h.w).take q.1).all (lH h)=true) (λq=>(aV h.w).length - q.1) ((0,es5,H)) ?_ ψ λq u=>?_
 ·exact wB
 obtain⟨q,es6,J⟩:=q;obtain⟨w,C,K,aq6⟩:=u;simp only at w C K aq6 |-;have hl6:J.length=H.length+q:=ψ
 by_cases U:q<(aV h.w).length
 ·have d:=ar U
  have b:=Gv h p r es6 J (nth (aV h.w) q) (-1) C ω;cases o:dL h (nth (aV h.w) q) (-1)<;>rw[o]at b
  ·refine ZE ?_
   exact t (U4 (iA d o))
  refine ZE ?_
  ((conv=>whnf)
   refine CG (q+1,inc es6 J (nth (aV h.w) q),J++[nth (aV h.w) q]) ⟨(by simp only;omega),rp C _,(by grind [X7]),di d aq6 o⟩ (by simp only;omega) ?_
   (exact wA))
 obtain rfl:q=(aV h.w).length:=ω
 rw[C7]at K aq6
 refine ZE ?_
 refine CK (ι:=Nat × List (Int × Value) × List Int) (λq=>[(1,.H .box (ac.enc .U h)),(3,.H .box [.m q.2.1]),(87,.H .one (oG .U h.O)),(88,.H .one [I (h.O.length)]),(89,.H .one [I ((q.1:Nat):Int)])]) (λq=>q.1<=h.O.length/\sD q.2.1 q.2.2/\q.2.2=J++(h.O.take q.1).map (·.Addr)) (λq=>h.O.length - q.1) ((0,es6,J)) ?_ ψ λq u=>?_
 ·exact wB
 obtain⟨q,es7,M⟩:=q;obtain⟨w,g,O⟩:=u;simp only at w g O |-;have hl7:M.length=J.length+q:=ψ
 by_cases U:q<h.O.length
 ·have d:=ar U
  have hcl:M.count (nth h.O q).Addr<=M.length:=List.count_le_length
  repeat'(first|refine gE ?_|refine Ml.mk (g _) ?_|refine Mu.mk (es':=inc es7 M (nth h.O q).Addr) rfl ?_)
  ((conv=>whnf)
   refine CG (q+1,inc es7 M (nth h.O q).Addr,M++[(nth h.O q).Addr]) ⟨(by simp only;omega),rp g _,(by grind [X7])⟩ (by simp only;omega) ?_
   (exact wA))
 obtain rfl:q=h.O.length:=ω
 rw[C7]at O;have V:M=nY h:=by rw[O,K,E,hL];rfl
 have hlv:=Po p.1 r.1
 repeat'(first|refine gE ?_|refine CB (zG h.J h.M p r P) ?_)
 refine CK (ι:=Nat) (λn=>[(3,.H .box [.m es7]),(103,.H .one (aH .own (pG h.J h.M))),(104,.H .one [I ((pG h.J h.M).length)]),(105,.H .one [I ((n:Nat):Int)])]) (λn=>n<=(pG h.J h.M).length/\((pG h.J h.M).take n).all (λa=>decide ((nY h).count a=1))=true) (λn=>(pG h.J h.M).length - n) (0) ?_ ψ λn hn=>?_
 ·exact wB
 obtain⟨hn,an⟩:=hn;by_cases ln:n<(pG h.J h.M).length
 ·have d:=ar ln
  rw[V]at g
  repeat'(first|refine gE ?_|with_reducible refine Bf.N (λu=>?_) (λu=>?_)|refine Ml.mk (g _) ?_)
  all_goals first
   |exact t (Ul (iA d (X0 ω)))
   | ((conv=>whnf);refine CG (n+1) ⟨ω,di d an (O0 ω)⟩ ω ?_;(exact wB))
 refine ZE ?_
 exact C1 (λz=>[B z]) ((by grind [kV]))
set_option maxHeartbeats 8000000
def kM(h:ac):Bool:=(((((((aD h.F&&bG (fo h) h.o)&&bx h.J h.M)&&(pages0 h&&qV h))&&dQ h)&&h.S.all bD)&&(gH h&&kV h))&&cx h)&&uh h
theorem f8(h:ac)(S:ac.sml h):zzA 23 false [.val (some 24) (ac.enc .U h)] .one [B (kM h)]:=by
 have G:=S;obtain⟨n,o,b,g,H,p,q,J,r⟩:=S;have u:xG h:=n.1.2;have hpn:fo h<=1048576:=u.1;have K:h.O.length<=1048576:=H.1;have L:h.S.length<=1048576:=p.1;have hlb:h.w.V.length<=1048576:=q.1.1;have hlp:h.Y.X.T.length<=1048576:=r;have d:=si h.F n;have e:=nl (fo h) h.o ω o;have i:=sw h.J h.M b g;have w:=w9 h.w q;have M:=J3 h.a7 J;cases T:aD h.F<;>rw[T]at d
 ·refine fO 154 [] Tryz.func23 rfl ?_
  repeat'(first|refine gP ?_|with_reducible refine Bf.N (λa=>?_) (λa=>?_))
  all_goals first
   | exact C1 (λz=>[B z]) ((by unfold kM ;rw[T];simp))
   |(exfalso;omega)
 cases U:bG (fo h) h.o<;>rw[U]at e
 ·refine fO 154 [] Tryz.func23 rfl ?_
  repeat'(first|refine gP ?_|with_reducible refine Bf.N (λa=>?_) (λa=>?_))
  all_goals first
   | exact C1 (λz=>[B z]) ((by unfold kM ;rw[U];simp))
   |(exfalso;omega)
 cases F:bx h.J h.M<;>rw[F]at i
 ·refine fO 154 [] Tryz.func23 rfl ?_
  repeat'(first|refine gP ?_|with_reducible refine Bf.N (λa=>?_) (λa=>?_))
  all_goals first
   | exact C1 (λz=>[B z]) ((by unfold kM ;rw[F];simp))
   |(exfalso;omega)
 have j:=Fc h b g u o F;cases V:(pages0 h&&qV h)<;>rw[V]at j
 ·refine fO 154 [] Tryz.func23 rfl ?_
  repeat'(first|refine gP ?_|with_reducible refine Bf.N (λa=>?_) (λa=>?_))
  all_goals first
   | exact C1 (λz=>[B z]) ((by unfold kM ;rw[V];simp))
   |(exfalso;omega)
 cases O:bT h.w<;>rw[O]at w
 ·refine fO 154 [] Tryz.func23 rfl ?_
  repeat'(first|refine gP ?_|with_reducible refine Bf.N (λa=>?_) (λa=>?_))
  all_goals first
   | exact C1 (λz=>[B z]) ((by unfold kM dQ;rw[O];simp))
   |(exfalso;omega)
 by_cases P:h.S.length=h.w.V.length;rotate_left
 ·refine fO 154 [] Tryz.func23 rfl ?_
  repeat'(first|refine gP ?_|with_reducible refine Bf.N (λa=>?_) (λa=>?_))
  all_goals first
   | exact C1 (λz=>[B z]) ((by unfold kM dQ;rw[X0 P];simp))
   |(exfalso;omega)
 cases W:ia h.a7<;>rw[W]at M
 ·refine fO 154 [] Tryz.func23 rfl ?_
  repeat'(first|refine gP ?_|with_reducible refine Bf.N (λa=>?_) (λa=>?_))
  all_goals first
   | exact C1 (λz=>[B z]) ((by unfold kM dQ;rw[W];simp))
   |(exfalso;omega)
 have hmc:dQ h=true:=by grind [dQ]
 refine fO 154 [] Tryz.func23 rfl ?_
 repeat'(first|refine gB ?_|with_reducible refine Bf.N (λa=>?_) (λa=>?_))
 all_goals try(exfalso;omega)
 (conv=>whnf)
 refine CK (ι:=Nat) (λk=>[(1,.H .box (ac.enc .U h)),(57,.H .one (qk .U h.S)),(58,.H .one [I (h.S.length)]),(59,.H .one [I ((k:Nat):Int)])]) (λk=>k<=h.S.length/\(h.S.take k).all bD=true) (λk=>h.S.length - k) (0) ?_ ψ λk X=>?_
 ·exact wB
 obtain⟨X,Y⟩:=X;by_cases Z:k<h.S.length
 ·have Q:=ar Z
  have R:=uT (nth h.S k) (p.2 _ (au Z));cases e8:bD (nth h.S k)<;>rw[e8]at R
  ·refine ZE ?_
   exact C1 (λz=>[B z]) ((by grind [kM]))
  refine ZE ?_
  (refine CG (k+1) ⟨ω,di Q Y e8⟩ ω ?_;(exact wB))
 have hca:h.S.all bD=true:=po ω Y;have l:=HM h b g K L;have c10:=yx h G F O ψ;have c12:=zX h.Y r;have c13:=xv h h.Y.X.a3 b.1;have c14:=xv h h.Y.X.a0 b.1;cases e9:gH h<;>rw[e9]at l
 ·refine ZE ?_
  all_goals first
   | exact C1 (λz=>[B z]) ((by unfold kM;rw[e9];simp))
   |(exfalso;omega)
 cases e10:kV h<;>rw[e10]at c10
 ·refine ZE ?_
  all_goals first
   | exact C1 (λz=>[B z]) ((by unfold kM;rw[e10];simp))
   |(exfalso;omega)
 by_cases hn:cx h=true;rotate_left
 ·have y:cx h=false:=by simpa using hn
  have c:=y;unfold cx at c;rw[C6]at c
  repeat'(first|refine gE ?_|with_reducible refine Bf.D (λa=>?_) (λa=>?_)|refine CB (aN _ _ _) ?_|refine CB (qy _) ?_)
  all_goals first
   | exact C1 (λz=>[B z]) ((by unfold kM;rw[y];simp))
   |(exfalso;omega)
 have c:=hn;unfold cx at c;rw[C0]at c;have C:kM h=uh h:=by grind [kM]
 rw[C];unfold uh;cases em:h.q
 ·repeat'(first|refine gE ?_|with_reducible (first|refine Bf.D (λa=>?_) (λa=>?_)|refine Bf.E (λa=>?_) (λa=>?_))|refine CB (aN _ _ _) ?_|refine CB (qy _) ?_|refine Bf.f em ?_)
  all_goals first
   | exact C1 (λz=>[B z]) ((by unfold rZ;simp only[Bool.false_eq_true,if_false];first|(symm;exact X0 ω)|(rw[I6,beq_iff_eq,C0];omega)))
   |(exfalso;omega)
 cases e12:jX h.Y<;>rw[e12]at c12
 all_goals
  repeat'(first|refine gE ?_|with_reducible (first|refine Bf.D (λa=>?_) (λa=>?_)|refine Bf.D (λa=>?_) (λa=>?_))|refine CB (aN _ _ _) ?_|refine CB (qy _) ?_|refine Bf.t em ?_)
  all_goals first
   | exact C1 (λz=>[B z]) (ψ)
   |(exfalso;omega)
variable{α:Type}
def cX[Inhabited α]{xs:List α}{f:α->Int}(e:(xs.map f).Nodup)(b:i<xs.length)(c:j<xs.length)(h:f (nth xs i)=f (nth xs j)):i=j:=by
 have d:=List.pairwise_iff_getElem.1 e;rcases Nat.lt_trichotomy i j with a|rfl|a
 ·have:=d i j (by simpa using b) (by simpa using c) a
  simp only[List.getElem_map]at this;rw[bq (C3 b),bq (C3 c)]at h;exact absurd h this
 ·rfl
 have:=d j i (by simpa using c) (by simpa using b) a;simp only[List.getElem_map]at this;rw[bq (C3 b),bq (C3 c)]at h;omega
theorem aR[Inhabited α]{xs:List α}{x:α}(h:x∈xs):∃i,i<xs.length/\nth xs i=x:=by
 obtain⟨i,a⟩:=List.mem_iff_getElem?.1 h
 grind [bq]
theorem sU:∀{H L:List Int},H.Nodup->(∀x∈H,x∈L)->L.length<=H.length->∀x∈L,x∈H
 | [],L,_,_,b,x,c=>by grind
 | y::H,L,d,f,b,x,c=>by
  have g:y∈L:=ψ
  have a:=List.nodup_cons.1 d;by_cases e:x=y
  ·grind
  refine O7 _ (sU (L:=L.erase y) a.2 (λz h=>?_) ?_ x ψ)
  all_goals grind
theorem NH{H L:List Int}(b:L.Nodup)(c:∀x∈H,x∈L):(H.Nodup/\H.length=L.length)↔∀a∈L,H.count a=1:=by grind [sU,List.Perm.length_eq]
variable{p:Int}{l:aE}
theorem dK : p∈lpgs l n↔∃k:Nat,k<n/\p=l.R+(k:Nat):=by grind [lpgs]
structure pT(sp:List aA)(la:List aE):Prop where
 sok:∀s∈sp,bh s=true
 lok:∀l∈la,bR l=true
 nd:(sp.map (·.R)).Nodup
 dis:∀s∈sp,∀l∈la,∀k:Nat,k<l.a4.toNat->s.R≠l.R+(k:Nat)
 one:∀i j,i<la.length->j<la.length->∀k k':Nat,k<(nth la i).a4.toNat->k'<(nth la j).a4.toNat->(nth la i).R+(k:Nat)=(nth la j).R+(k':Nat)->i=j
theorem pT.of(h:bx sp la=true):pT sp la:=by
 obtain⟨B,C,d⟩:=eQ h;unfold pgs at d;rw[List.nodup_append]at d;obtain⟨q,r,t⟩:=d;have u:=List.pairwise_flatMap.1 r;refine⟨ψ,ψ,q,λs D l w k c e=>?_,λi j f g k o c a e=>?_⟩
 ·exact t _ ψ _ (List.mem_flatMap.2 ⟨l,w,dK.2 ⟨k,c,rfl⟩⟩) e
 have p:=List.pairwise_iff_getElem.1 u.2;have y:=bq (C3 f);have A:=bq (C3 g);rw[y]at c e;rw[A]at a e;rcases Nat.lt_trichotomy i j with b|n|b
 ·exact absurd e (p i j f g b _ (dK.2 ⟨k,c,rfl⟩) _ (dK.2 ⟨o,a,rfl⟩))
 ·exact n
 exact absurd e.symm (p j i g f b _ (dK.2 ⟨o,a,rfl⟩) _ (dK.2 ⟨k,c,rfl⟩))
variable{a:Int}
theorem iv(b:bh s=true):dq s a=true↔16*s.R<=a/\a<=16*s.R+15:=by grind [dq]
theorem iX(b:pT sp la)(c:i<sp.length)(h:16*(nth sp i).R<=a/\a<=16*(nth sp i).R+15):denotes sp la a=pu i (nth sp i) a:=by
 refine pd c ((iv (b.sok _ (au c))).2 h) λj z l k=>?_
 cases e:dq z a with
 | false=>rfl
 | true=>
  exfalso;have d:=(I3.1 k).1;have n:=(iv (b.sok z ψ)).1 e;have g:=bq k;subst g;have:=cX (f:=(·.R)) b.nd c d ω;omega
theorem VA(b:pT sp la)(h:∀i,i<sp.length->¬(16*(nth sp i).R<=a/\a<=16*(nth sp i).R+15)):∀(j:Nat)(z:aA),j<sp.length->sp[j]? = some z->dq z a=false:=by grind [iv,pT.sok,bq]
theorem PX(c:pT sp la)(a:Int):a∈live0 sp la↔a∈lC sp la:=by
 have G:a∈lC sp la↔∃n:Nat,n<512/\l8 sp la n=true/\(n:Int)=a:=by grind [lC,mR]
 rw[G];unfold live0 gp;rw[t4,List.mem_flatMap,O5];constructor
 ·rintro(⟨s,g,C⟩|⟨l,b,rfl⟩)
  ·obtain⟨i,d,rfl⟩:=aR g
   unfold eY at C;obtain⟨k,H,rfl⟩:=O5.1 C;obtain⟨h,J⟩:=X5.1 H;have h:=List.mem_range.1 h;have o:=aI (c.sok _ g);have t:=DK ⟨o.2.2.1,o.2.2.2⟩;have K:=vm (nth sp i).d;unfold kS;have L:0<=(k:Int)*csz (nth sp i).d/\(k:Int)*csz (nth sp i).d<=15:=by grind [cg]
   have f:=iX c d (a:=16*(nth sp i).R+(k:Nat)*csz (nth sp i).d) ω;have O:(16*(nth sp i).R+(k:Nat)*csz (nth sp i).d - 16*(nth sp i).R) / csz (nth sp i).d=(k:Nat)/\(16*(nth sp i).R+(k:Nat)*csz (nth sp i).d - 16*(nth sp i).R) % csz (nth sp i).d=0:=by grind [cg]
   refine⟨(16*(nth sp i).R+(k:Nat)*csz (nth sp i).d).toNat,ω,?_,ω⟩
   grind [l8,pu]
  obtain⟨i,d,rfl⟩:=aR b;have P:=aW (c.lok _ b);have M:=de (c.lok _ b);have u:=VA c (a:=16*(nth la i).R) λj D Q=>c.dis _ (au D) _ b 0 ω ω
  have E:bM (nth la i) (16*(nth la i).R)=true:=by grind [pT.lok,bM]
  have f:=nu (a:=16*(nth la i).R) (v4 _) u d E λj z D r=>by
   cases e:bM z (16*(nth la i).R) with
   | false=>rfl
   | true=>
    exfalso;have w:=(I3.1 r).1;have p:=Z2 r;have y:=bq r;subst y;have N:=aW (c.lok _ p);have q:=c.lok _ p;unfold bR at q;rw[C0]at q;unfold bM at e;rw[I0,C0]at e;have:=c.one i j d w 0 ((nth la i).R - (nth la j).R).toNat ω ω ω;omega
  refine⟨(16*(nth la i).R).toNat,ω,?_,ω⟩
  grind [l8]
 rintro⟨n,R,b,rfl⟩
 cases u:sp.findIdx? (dq · (n:Nat)) with
 | some i=>
  obtain⟨d,A,-⟩:=I9.1 u;have B:=bq (C3 d);rw[<-B]at A;have g:=c.sok _ (au d);have F:=(iv g).1 A;have o:=aI g;have t:=DK ⟨o.2.2.1,o.2.2.2⟩;have f:denotes sp la (n:Nat)=pu i (nth sp i) (n:Nat):=by grind [denotes]
  rw[tO f]at b;simp only[I0,X8,C0]at b;simp only[pu]at b;cases E:bf (nth sp i).a9 (((n:Int) - 16*(nth sp i).R) / csz (nth sp i).d) with
  | false=>grind
  | true=>
   have r:((n:Int) - 16*(nth sp i).R) % csz (nth sp i).d=0:=b.1;refine .inl ⟨nth sp i,au d,?_⟩;unfold eY;refine O5.2 ⟨(((n:Int) - 16*(nth sp i).R) / csz (nth sp i).d).toNat,X5.2 ⟨List.mem_range.2 ?_,?_⟩,?_⟩
   all_goals grind [cg,kS]
 | none=>
  cases F:la.findIdx? (bM · (n:Nat)) with
  | some i=>
   obtain⟨d,A,-⟩:=I9.1 F;have f:denotes sp la (n:Nat) = ⟨3,i,0,(n:Nat) - 16*(nth la i).R⟩:=by grind [denotes]
   rw[tO f]at b
   grind [au]
  | none=>
   have f:denotes sp la (n:Nat) = ⟨0,0,0,0⟩:=by grind [denotes]
   rw[tO f]at b;simp at b
theorem xY(b:pT sp la)(c:(denotes sp la a).c2=0)(f:(denotes sp la a).b6=1\/(denotes sp la a).b6=3):a∈lC sp la:=by
 have l:0<=a/\a<512:=by
  unfold denotes at c f;cases g:sp.findIdx? (dq · a) with
  | some i=>
   obtain⟨d,j,-⟩:=I9.1 g;have h:=List.getElem_mem d;have e:=(iv (b.sok _ h)).1 j;have k:=aI (b.sok _ h);omega
  | none=>
   rw[g]at c f;cases e:la.findIdx? (bM · a) with
   | some i=>
    obtain⟨d,-⟩:=I9.1 e;rw[e]at c;have n:=aW (b.lok _ (au d))
    grind
   | none=>grind
 have k:((a.toNat:Nat):Int)=a:=ω
 grind [lC,mR,l8]
theorem wO(sp:List aA)(la:List aE):(lC sp la).Nodup:=by
 unfold lC mR List.Nodup;rw[List.pairwise_map]
 grind [List.Pairwise.imp,List.nodup_range]
variable{c:Int}
theorem vK(b:pT h.J h.M)(d:dL h a c=true):a∈lC h.J h.M:=by grind [xY,dL]
variable{o:bu}
theorem Qe(a:pT h.J h.M)(b:jM h o=true):o.Addr∈lC h.J h.M:=by grind [xY,jM]
theorem KX(h:ac)(a:Int):(nY h).count a=(holders h).count a:=by grind [nY,holders]
theorem qM(h:ac):kI h=true↔(h.S.all (fT h)=true/\h.a7.a6.all (iP h)=true)/\(aV h.w).all (lH h)=true:=by grind [kI]
theorem vj(f:pT h.J h.M)(g:gH h=true)(j:kI h=true):∀a∈holders h,a∈lC h.J h.M:=by
 obtain⟨⟨n,p⟩,q⟩:=(qM h).1 j;intro a b;unfold holders at b;simp only[t4]at b;rcases b with((b|b)|b)|b
 ·obtain⟨o,d,rfl⟩:=O5.1 b
  obtain⟨i,r,rfl⟩:=aR d;have e:=fG g r
  grind [Qe,objAt]
 ·unfold cQ at b
  obtain⟨c,t,b⟩:=List.mem_flatMap.1 b;obtain⟨l,u,b⟩:=List.mem_flatten.1 b;obtain⟨k,w,rfl⟩:=aR u;have e:=v5.1 n c t;unfold fT at e;have A:=v5.1 (show(nth c.Z k).all _=true from fG e w) a b
  grind [vK]
 ·obtain⟨x,y,rfl⟩:=O5.1 b
  exact vK f (v5.1 p x y)
 exact vK f (v5.1 q a b)
theorem Nj(b:bx h.J h.M=true)(c:gH h=true):(nh h&&lr h)=kV h:=by
 have d:=pT.of b;have e:(nh h=true/\h.a7.a6.all (iP h)=true)↔h.a7.a6.all (vi h)=true:=by grind [nh,vi]
 have f:kV h=true↔((h.S.all (fT h)=true/\h.a7.a6.all (vi h)=true)/\(aV h.w).all (lH h)=true)/\∀a∈lC h.J h.M,(holders h).count a=1:=by
  unfold kV;simp only[I0];refine and_congr Iff.rfl ?_;simp only[v5,C0,KX]
  grind [List.mem_mergeSort,PX,pG,sorted]
 grind [qM,NH,wO,vj,lr]
theorem iH(s t:aA):meshable s t=meshable t s:=by grind [meshable]
variable{f:Int}{t:aM}
theorem fp{p:Nat} : (p:Int)∈pagesOn t f↔p<t.K.length/\(nth t.K p).j≠0/\(nth t.K p).e=f:=by grind [pagesOn,lh,QS]
theorem xp{q:Int}(h:q∈pagesOn t f):∃p:Nat,q=(p:Nat):=by grind [pagesOn,lh]
theorem tX(a:pages0 h=true):(∀i,i<h.M.length->∀k:Nat,k<(nth h.M i).a4.toNat->(aX h ((nth h.M i).R+(k:Nat))).length=1)/\(∀p∈pgs h.J h.M,p<fo h)/\∀p:Nat,p<fo h->((nth (tbl h).K p).j≠0↔(p:Int)∈pgs h.J h.M):=by grind [fG,pages0,vq,Bb,xx]
theorem E3{p:Nat}(a:p<fo h):af (tbl h) (p:Nat)=nth (tbl h).K p:=nH a
theorem gk{p:Nat}(a:p<fo h)(b:(nth (tbl h).K p).j≠0):aX h (p:Nat)=pagesOn (tbl h) (nth (tbl h).K p).e:=by grind [E3,aX,tbl]
theorem vP(g:pT h.J h.M)(c:j<h.J.length):ir h (nth h.J j).R=(j:Nat):=by
 unfold ir;refine dE (ar c) (by unfold n7;simp) λk z i d=>?_
 have a:=bq d;have b:=(I3.1 d).1;subst a;unfold n7;refine X0 λe=>?_
 have:=cX (f:=(·.R)) g.nd b c e;omega
theorem w7(w:bx h.J h.M=true)(N:pages0 h=true):wP h=qV h:=by
 have E:=pT.of w;obtain⟨O,P,Q⟩:=tX N;have o:∀i,i<h.J.length->∃p:Nat,(nth h.J i).R=(p:Nat)/\p<fo h/\(nth (tbl h).K p).j≠0:=λi r=>by
  have Y:=aI (E.sok _ (au r));have R:(nth h.J i).R∈pgs h.J h.M:=by grind [au,pgs]
  have c:=P _ R;refine⟨(nth h.J i).R.toNat,ω,ω,?_⟩
  grind
 rw[I6];unfold wP qV;rw[cI,cI];constructor
 ·intro F i r
  rw[cI];intro j G;have y:j<h.J.length:=ω
  unfold ns;rw[X8,C0];by_cases d:(af (tbl h) (nth h.J i).R).e=(af (tbl h) (nth h.J j).R).e
  ·right
   obtain⟨p,e,a,f⟩:=o i r;obtain⟨q,A,b,g⟩:=o j y;have n:=v5.1 (F i r);rw[e,A,E3 a,E3 b]at d;have S:(q:Int)∈aX h (nth h.J i).R:=by
    rw[e,gk a f];exact fp.2 ⟨b,g,d.symm⟩
   have t:=n _ S;unfold nG at t;rw[<-A,vP E y]at t;rw[X8,I0,C0]at t;rcases t with t|t
   ·omega
   simpa using t.2
  exact .inl d
 intro B i r;rw[v5];intro q C;obtain⟨p,e,a,f⟩:=o i r;have T:=C;rw[e,gk a f]at C;obtain⟨D,rfl⟩:=xp C;obtain⟨b,g,H⟩:=fp.1 C;have u:=(Q D b).1 g;unfold pgs at u;rw[t4,O5,List.mem_flatMap]at u;rcases u with⟨s,F,J⟩|⟨l,U,K⟩
 ·obtain⟨j,G,rfl⟩:=aR F
  unfold nG;rw[<-J,vP E G];rw[X8,I0,C0,C0];have d:(af (tbl h) (nth h.J i).R).e=(af (tbl h) (nth h.J j).R).e:=by grind [E3]
  rcases Nat.lt_trichotomy j i with c|V|c
  ·have n:=fG (B i r) c
   unfold ns at n
   simp_all
  ·omega
  have n:=fG (B j G) c;unfold ns at n;rw[X8,C0]at n;exact .inr ⟨ω,by rw[iH];simp_all⟩
 exfalso;obtain⟨W,L,rfl⟩:=aR U;obtain⟨k,X,M⟩:=dK.1 K;have n:=O W L k X;rw[<-M,gk b g]at n;have Z:(D:Int)∈pagesOn (tbl h) (nth (tbl h).K D).e:=ψ
 have m2:(p:Int)∈pagesOn (tbl h) (nth (tbl h).K D).e:=fp.2 ⟨a,f,H.symm⟩
 grind [List.length_eq_one_iff,pT.dis,au]
theorem gW(h:ac):kM h=dh h:=by grind [w7,Nj,kM,dh,mb]
def ovl(y r:aB):Bool:=decide (y.At<r.At+r.a8/\r.At<y.At+y.a8)
def od(r:aB):List aB->Bool->Option (List aB)
 | [],put=>some (if put then [] else [r])
 | y::a,put=>if ovl y r then none else if !put&&decide (y.At > r.At) then(od r a true).map λt=>r::y::t else(od r a put).map λt=>y::t
def dA(out:List aB):List aB->List aB
 | []=>out
 | y::ys=>match out.getLast? with
  | some z=>if z.At+z.a8=y.At then dA (out.dropLast++[⟨z.At,z.a8+y.a8⟩]) ys else dA (out++[y]) ys
  | none=>dA (out++[y]) ys
def jS:List aB->aB->List aB->Bool->Option (List aB)
 | [],r,out,done=>some (if done then out else out++[r])
 | y::ys,r,out,done=>
  if ovl y r then none
  else if y.At+y.a8=r.At then jS ys ⟨y.At,y.a8+r.a8⟩ out done
  else if r.At+r.a8=y.At then jS ys ⟨r.At,r.a8+y.a8⟩ out done
  else if y.At > r.At/\done=false then jS ys r (out++[r,y]) true
  else jS ys r (out++[y]) done
def ku(xs:List aB):Prop:=xs.Pairwise (λa b=>a.At+a.a8<b.At)/\∀y∈xs,1<=y.a8
variable{y:aB}
theorem ku.tail{a:List aB}(h:ku (y::a)):ku a:=⟨(List.pairwise_cons.1 h.1).2,λz b=>h.2 z ψ⟩
theorem ku.head{a:List aB}(h:ku (y::a)):∀z∈a,y.At+y.a8<z.At:=(List.pairwise_cons.1 h.1).1
theorem kw:∀(a out:List aB),ku a->(∀z,out.getLast? = some z->∀y∈a,z.At+z.a8≠y.At)->dA out a=out++a
 | [],out,_,_=>by simp[dA]
 | y::a,out,d,e=>by
  have b:dA (out++[y]) a=out++y::a:=by
   rw[kw a (out++[y]) d.tail λz c w f=>by
     simp at c;subst c;have:=d.head w f;omega]
   simp
  unfold dA;split
  ·rename_i z c
   rw[CC (e z c y (X2 ..))];exact b
  exact b
theorem ym{r:aB} : ∀{a:List aB},ku a->(∀y∈a,r.At+r.a8<=y.At)->od r a true=some a
 | [],_,_=>rfl
 | y::a,c,b=>by
  have e:=b y (X2 ..);unfold od;rw[CC (by unfold ovl;rw[C0];omega)];simp only[Bool.not_true,Bool.false_and,Bool.false_eq_true,if_false];rw[ym c.tail λz d=>b z (O7 _ d)]
  rfl
theorem wG{r:aB}(h1:1<=r.a8){a:List aB}(b:ku a)(c:∀y∈a,r.At+r.a8<=y.At):od r a false=some (r::a):=by
 cases a with
 | nil=>rfl
 | cons y a=>
  grind [ym,ku.tail,od,ovl]
def ru{r:aB} : ∀{a out:List aB},ku a->1<=r.a8->(∀y∈a,r.At+r.a8<y.At)->jS a r out true=some (out++a)
 | [],out,_,_,_=>by simp[jS]
 | y::a,out,b,d,c=>by
  have f:=c y (X2 ..);have g:=b.2 y (X2 ..);unfold jS;rw[CC (by unfold ovl;rw[C0];omega),CC ω,CC ω,CC (by simp),ru b.tail d λz e=>c z (O7 _ e)];simp
variable{out:List aB}
theorem yi{r:aB}(h1:1<=r.a8){a:List aB}(b:ku a)(c:∀y∈a,r.At+r.a8<=y.At):jS a r out false=some (out++match a with|[]=>[r]|y::zs=>if r.At+r.a8=y.At then⟨r.At,r.a8+y.a8⟩::zs else r::y::zs):=by
 cases a with
 | nil=>simp[jS]
 | cons y a=>
  have g:=c y ψ;have h:=b.2 y ψ;unfold jS;rw[CC (by grind [ovl]),CC ω];by_cases e:r.At+r.a8=y.At
  ·rw[CE e]
   simp only[e,if_true];cases a with
   | nil=>simp[jS]
   | cons z a=>
    have i:=b.head z ψ;have j:=b.tail.2 z ψ;unfold jS;simp only;rw[CC (by grind [ovl]),CC ω,CC ω,CE (by simp;omega),ru b.tail.tail (by simp only;omega) λw d=>by
      have:=b.tail.head w d;simp only;omega]
    simp
  rw[CC e,CE (by simp;omega),ru b.tail h1 λz f=>by have:=b.head z f;omega];simp[e]
theorem Et{pages:Int} : ∀{a:List aB}{r:aB}{out:List aB},ku a->1<=r.a8->(∀z,out.getLast? = some z->(∀y∈a,z.At+z.a8<y.At)/\z.At+z.a8<r.At)->(od r a false).map (dA out)=jS a r out false
 | [],r,out,_,g,q=>by
  show some (dA out [r])=some (out++[r]);rw[kw [r] out ⟨List.pairwise_singleton ..,λy u=>by rw[C2.1 u];exact g⟩ ψ]
 | y::a,r,out,c,g,q=>by
  have F:=c.2 y ψ;by_cases l:ovl y r=true
  ·grind [od,jS]
  ·have i:=l
   unfold ovl at i;rw[C0]at i;by_cases A:r.At+r.a8<=y.At
   ·-- all to the right
    have b:∀w∈y::a,r.At+r.a8<=w.At:=λw f=>by grind [ku.head]
    rw[wG g c b,yi g c b];show some (dA out (r::y::a))=_;have hfirst:dA out (r::y::a)=dA (out++[r]) (y::a):=by
     conv=>lhs;unfold dA
     grind
    rw[hfirst];by_cases e:r.At+r.a8=y.At
    ·have:dA (out++[r]) (y::a)=dA (out++[⟨r.At,r.a8+y.a8⟩]) a:=by
      conv=>lhs;unfold dA
      simp[e]
     grind [kw,ku.tail,ku.head]
    grind [kw,ku.head]
   have B:y.At+y.a8<=r.At:=ω
   have n:∀t,dA out (y::t)=dA (out++[y]) t:=λt=>by
    conv=>lhs;unfold dA
    grind [X2]
   have C:(od r (y::a) false).map (dA out)=(od r a false).map (dA (out++[y])):=by
    conv=>lhs;unfold od
    rw[CC l,CC (by simp;omega),Option.map_map]
    congr 1
    grind
   rw[C];unfold jS;rw[CC l];by_cases e:y.At+y.a8=r.At
   ·rw[CE e]
    by_cases o:∃w,a.head? = some w/\ovl w r=true
    ·obtain⟨w,f,D⟩:=o
     cases a with
     | nil=>cases f
     | cons d h=>
      grind [ovl,od,jS]
    have b:∀w∈a,r.At+r.a8<=w.At:=by
     cases a with
     | nil=>grind
     | cons d h=>
      have G:=c.head d ψ;have H:=c.tail.2 d ψ
      grind [ku.head,ku.tail,ovl]
    rw[wG g c.tail b,yi (r:=⟨y.At,y.a8+r.a8⟩) (by simp only;omega) c.tail ψ];show some (dA (out++[y]) (r::a))=_;have E:dA (out++[y]) (r::a)=dA (out++[⟨y.At,y.a8+r.a8⟩]) a:=by
     conv=>lhs;unfold dA
     simp[e]
    rw[E];cases a with
    | nil=>simp[dA]
    | cons d h=>
     by_cases j:y.At+(y.a8+r.a8)=d.At
     ·have p:dA (out++[⟨y.At,y.a8+r.a8⟩]) (d::h)=dA (out++[⟨y.At,y.a8+r.a8+d.a8⟩]) h:=by
       conv=>lhs;unfold dA
       simp[j]
      rw[p,kw h _ c.tail.tail λz k w f=>by grind [ku.head,ku.tail]];simp[j]
     rw[kw (d::h) _ c.tail λz k w f=>by
       simp at k;subst k;simp only;rcases List.mem_cons.1 f with rfl|f
       · exact j
       have:=c.tail.head w f;have:=b d ψ;have:=c.tail.2 d ψ;omega]
     simp[j]
   rw[CC e,CC ω,CC ω];exact Et (pages:=pages) c.tail g λz k=>by grind [ku.head]
def fY(k:ah)(f:Int):ah:=if(pagesOn k.G.Q f).length=0 then {k with G:=⟨⟨k.G.W.T.set f.toNat (List.replicate 16 0),k.G.W.a1.set f.toNat false⟩,k.G.Q⟩} else k
def lI(k:ah)(p:Int):ah:={k with G:=⟨k.G.W,⟨k.G.Q.K.set p.toNat ⟨0,0⟩⟩⟩}
def co(k:ah)(p:Int):ah:=if(af k.G.Q p).j=0 then k else fY (lI k p) (af k.G.Q p).e
def destr(k:ah):Nat->ah × Int
 | 0=>(k,0)
 | n+1=>if(af (destr k n).1.G.Q n).j=0 then destr k n else(co (destr k n).1 n,(destr k n).2+1)
def destroyed(h:ac):ah × Int:=if dh h=true/\h.F.Calls≠100000 then destr h.F h.F.G.Q.K.length else(h.F,0)
theorem bB[Inhabited α](xs:List α)(i j:Nat)(x:α):nth (xs.set i x) j=if i=j/\j<xs.length then x else nth xs j:=by grind [nth]
theorem oq(k:ah)(f:Int):(fY k f).G.Q=k.G.Q/\(fY k f).Calls=k.Calls/\(fY k f).u=k.u/\(fY k f).G.W.T.length=k.G.W.T.length/\(fY k f).G.W.a1.length=k.G.W.a1.length:=by grind [fY]
theorem kv(k:ah)(p:Int):(co k p).G.Q.K.length=k.G.Q.K.length/\(co k p).Calls=k.Calls/\(co k p).u=k.u:=by grind [oq,co,lI]
variable{k:ah}
theorem aC : aD k=true↔(∀j,j<k.u.length->0<=nth k.u j)/\cY k.G.W=true/\ij k.G.Q k.G.W.a1.length=true/\(∀j,j<k.G.W.a1.length->nth k.G.W.a1 j=decide (0<(pagesOn k.G.Q (j:Int)).length))/\0<=k.Calls/\k.Calls<=100000/\k.u.length<=40:=by grind [cI,aD,dx,qe]
theorem aZ{f:aU} : cY f=true↔1<=f.T.length/\f.T.length<=32/\f.a1.length=f.T.length/\∀j,j<f.T.length->iB (nth f.T j) (nth f.a1 j)=true:=by
 unfold cY;simp only[I0,C0,v5,and_assoc];refine and_congr Iff.rfl (and_congr Iff.rfl (and_congr_right λb=>⟨λh j a=>?_,λh q c=>?_⟩))
 ·exact h _ (Z2 (yf (ar a) (ar ω)))
 grind [List.mem_iff_getElem?,List.getElem?_zip_eq_some,bq]
theorem bo : ij t a=true↔(∀j,j<t.K.length->lD a (nth t.K j)=true)/\1<=t.K.length/\t.K.length<=32:=by grind [cI,ij]
def du : 0<(pagesOn t f).length↔∃q,q<t.K.length/\(nth t.K q).j≠0/\(nth t.K q).e=f:=by
 unfold pagesOn lh;rw[O1,List.length_pos_iff_exists_mem];simp[QS]
theorem bK(h:aD k=true)(a:(af k.G.Q p).j≠0):0<=p/\p<k.G.Q.K.length/\af k.G.Q p=nth k.G.Q.K p.toNat/\0<=(af k.G.Q p).e/\(af k.G.Q p).e<k.G.W.a1.length:=by
 obtain⟨-,-,b,-⟩:=aC.1 h
 grind [bo,af,lD]
theorem yt(p:Int)(h:aD k=true):aD (co k p)=true:=by
 unfold co;split
 ·exact h
 rename_i r;obtain⟨C,D,E,i,l⟩:=bK h r;obtain⟨t,u,F,w,y,A,B⟩:=aC.1 h;obtain⟨G,H,J,L⟩:=aZ.1 u;obtain⟨M,N,O⟩:=bo.1 F;rw[E]at r i l |-;generalize K:(nth k.G.Q.K p.toNat).e=f at i l;have b:∀q,nth (k.G.Q.K.set p.toNat ⟨0,0⟩) q=if p.toNat=q then⟨0,0⟩ else nth k.G.Q.K q:=λq=>by grind [bB]
 have c:∀j:Int,0<(pagesOn (⟨k.G.Q.K.set p.toNat ⟨0,0⟩⟩ : aM) j).length↔∃q,q<k.G.Q.K.length/\q≠p.toNat/\(nth k.G.Q.K q).j≠0/\(nth k.G.Q.K q).e=j:=λj=>by
  rw[du];simp only[I2,b]
  grind
 have d:∀j:Int,0<(pagesOn k.G.Q j).length↔∃q,q<k.G.Q.K.length/\(nth k.G.Q.K q).j≠0/\(nth k.G.Q.K q).e=j:=λj=>du
 have g:ij ⟨k.G.Q.K.set p.toNat ⟨0,0⟩⟩ k.G.W.a1.length=true:=by
  rw[bo];simp only[I2,b]
  grind [lD]
 unfold fY;split
 ·rename_i o
  rw[aC];simp only[lI,I2]at o |-;refine⟨t,?_,g,λj n=>?_,y,A,B⟩
  ·rw[aZ]
   simp only[I2,bB];refine⟨G,H,J,λj n=>?_⟩;by_cases a:f.toNat=j
   ·rw[CE ⟨a,n⟩,CE ⟨a,ω⟩];decide
   grind
  rw[bB];by_cases a:f.toNat=j
  ·grind
  rw[CC (λe=>a e.1),w j n];refine decide_eq_decide.2 ?_;rw[d,c]
  grind
 rename_i o;rw[aC];simp only[lI]at o |-;refine⟨t,u,g,λj n=>?_,y,A,B⟩;rw[w j n];refine decide_eq_decide.2 ?_;by_cases a:f=j
 ·grind
 rw[d,c];grind
def bk(h:aD k=true):ah.sml k:=by
 obtain⟨g,b,c,i,l,n,o⟩:=aC.1 h;obtain⟨p,q,t,d⟩:=aZ.1 b;obtain⟨u,w,y⟩:=bo.1 c;refine⟨⟨⟨⟨ω,λr f=>?_⟩,(by omega:_<=1048576)⟩,⟨ω,λe _=>trivial⟩⟩,(by omega:_<=1048576)⟩;obtain⟨j,a⟩:=List.mem_iff_getElem?.1 f;have:=d j (I3.1 a).1;rw[bq a]at this;unfold iB at this;simp only[I0,C0]at this;show r.length<=1048576;omega
theorem Gz(a:dh h=true):aD h.F=true:=by grind [dh,mb]
variable{K:List (List C)->Prop}{sz by_:Nat}
theorem Ap.cp{e:α->List C}{xs:List α}(d:∀x,(e x).length=sz)(f:∀x,bn (e x)=true)(a:xs.length<=1048576)(b:by_<=1000)(c:K (xs.map e)):Ap true [] (xs.map e) sz by_ K:=
 CV ψ ψ ψ (by simp;omega) (by simp only[O1,List.length_nil,C9];exact zd a b) rfl c
def CT:type_of% @Ap.cp:=@Ap.cp
theorem Fl.cp{e:α->List C}{xs:List α}{X:Prop}(d:∀x,(e x).length=sz)(f:∀x,bn (e x)=true)(a:xs.length<=1048576)(b:by_<=1000)(c:X):Fl (xs.map e) sz by_ X:=
 Fl.mk ψ (by simp;omega) (by simp only[O1];exact zd a b) c
def CZ:type_of% @Fl.cp:=@Fl.cp
variable{r:List C}{rows:List (List C)}
theorem Ap.sn{a:List (List C)}(h1:∀r∈rows,r.length=sz)(f:r.length=sz)(b:rows.length+1<=1048576)(c:by_<=1000)(d:a=rows++[r])(e:K a):Ap false rows [r] sz by_ K:=
 CV h1 ψ ψ (by simp;omega) (zd (by simpa using b) c) d e
def gZ(xs:List Int)(a:xs.length<=1048576):zzA 196 false [.val none (aH .U xs)] .one (aH .own xs):=by
 refine fO 6 [] Tryz.func196 rfl ?_ (.inr (bO _))
 repeat'(first|refine gP ?_|refine CT (λ_=>rfl) (λ_=>rfl) a (by decide) ?_)
 rfl
def Gh(t:aM)(a:aM.sml t):zzA 468 false [.val (some 1) (aM.enc .U t)] .agg (aM.enc .own t):=by
 have b:=a.1;refine fO 8 [] Tryz.func468 rfl ?_ (.inr (aM.enc_fr _))
 repeat'(first|refine gP ?_|refine CT (λ_=>rfl) (λ_=>rfl) b (by decide) ?_)
 rfl
def yB(t:aM)(a:aM.sml t):zzA 347 false [.val (some 1) (aM.enc .U t)] .agg (aM.enc .own t):=by
 have b:=a.1;refine fO 8 [] Tryz.func347 rfl ?_ (.inr (aM.enc_fr _))
 repeat'(first|refine gP ?_|refine CT (λ_=>rfl) (λ_=>rfl) b (by decide) ?_)
 rfl
theorem aO{e:α->List C}{l:List α}(h:∀x,(e x).length=n):∀r∈l.map e,r.length=n:=(ψ)
variable{β:Type}
theorem gy[Inhabited α]{xs:List α}{f:α->β}(a:i<xs.length):(xs.take (i+1)).map f=(xs.take i).map f++[f (nth xs i)]:=by grind [X7,ar]
def Gt(f:aU)(a:aU.sml f):zzA 467 false [.val (some 2) (aU.enc .U f)] .agg (aU.enc .own f):=by
 have g:=a.1.1;have d:f.a1.length<=1048576:=a.2;refine fO 30 [(5,10,[17,18,19,20,21,22,23,24,25,26])] Tryz.func467 rfl ?_ (.inr (aU.enc_fr _))
 repeat'(first|refine gP ?_|refine CT (λ_=>rfl) (λ_=>rfl) d (by decide) ?_)
 refine CK (ι:=Nat) (λi=>[(1,.H .box (aU.enc .U f)),(2,.H .box [.z,.z]),(3,.H .box [.s .own ((f.T.take i).map (aH .own)),.s .own (f.a1.map (rB .own))]),(4,.H .one [I ((i:Nat):Int)])]) (λi=>i<=f.T.length) (λi=>f.T.length - i) (0) ?_ (Z0 _) λi h=>?_
 ·exact wB
 by_cases b:i<f.T.length
 ·have e:=ar b
  have c:(nth f.T i).length<=1048576:=a.1.2 _ (au b)
  repeat'(first|refine gE ?_|refine CZ (λ_=>rfl) (λ_=>rfl) c (by decide) ?_|refine Ap.sn (aO λ_=>rfl) rfl (by simp;omega) (by decide) (gy b) ?_)
  (refine CG (i+1) ω ω ?_;(exact wB))
 refine ZE ?_
 obtain rfl:i=f.T.length:=ω
 rw[C7]
 rfl
def pK(f:aU)(a:aU.sml f):zzA 346 false [.val (some 2) (aU.enc .U f)] .agg (aU.enc .own f):=by
 have g:=a.1.1;have d:f.a1.length<=1048576:=a.2;refine fO 27 [(5,5,[18,19,20,21,22])] Tryz.func346 rfl ?_ (.inr (aU.enc_fr _))
 repeat'(first|refine gP ?_|refine CT (λ_=>rfl) (λ_=>rfl) d (by decide) ?_)
 refine CK (ι:=Nat) (λi=>[(2,.H .box [.z,.z]),(3,.H .box [.s .own ((f.T.take i).map (aH .own)),.s .own (f.a1.map (rB .own))]),(12,.H .one (kx .U f.T)),(13,.H .one [I (f.T.length)]),(14,.H .one [I ((i:Nat):Int)])]) (λi=>i<=f.T.length) (λi=>f.T.length - i) (0) ?_ (Z0 _) λi h=>?_
 ·exact wB
 by_cases b:i<f.T.length
 ·have e:=ar b
  have c:(nth f.T i).length<=1048576:=a.1.2 _ (au b)
  repeat'(first|refine gE ?_|refine CB (gZ (nth f.T i) c) ?_|refine Ap.sn (aO λ_=>rfl) rfl (by simp;omega) (by decide) (gy b) ?_)
  (refine CG (i+1) ω ω ?_;(exact wB))
 refine ZE ?_
 obtain rfl:i=f.T.length:=ω
 rw[C7]
 rfl
def tW(m:aY)(a:aY.sml m):zzA 349 false [.val (some 3) (aY.enc .U m)] .agg (aY.enc .own m):=by
 refine fO 10 [(1,5,[3,4,5,6,7])] Tryz.func349 rfl ?_ (.inr (aY.enc_fr _))
 repeat'(first|refine gP ?_|refine CB (Gt m.W a.1) ?_|refine CB (Gh m.Q a.2) ?_)
 rfl
def nS(m:aY)(a:aY.sml m):zzA 195 false [.val (some 3) (aY.enc .U m)] .agg (aY.enc .own m):=by
 refine fO 10 [(1,5,[3,4,5,6,7])] Tryz.func195 rfl ?_ (.inr (aY.enc_fr _))
 repeat'(first|refine gP ?_|refine CB (pK m.W a.1) ?_|refine CB (yB m.Q a.2) ?_)
 rfl
def EB(k:ah)(a:ah.sml k):zzA 203 false [.val (some 5) (ah.enc .U k)] .agg (ah.enc .own k):=by
 have b:k.u.length<=1048576:=a.2;refine fO 13 [(1,9,[3,4,5,6,7,8,9,10,11])] Tryz.func203 rfl ?_ (.inr (Cc _))
 repeat'(first|refine gP ?_|refine CB (tW k.G a.1) ?_|refine CZ (λ_=>rfl) (λ_=>rfl) b (by decide) ?_)
 rfl
def gU(k:ah)(a:ah.sml k):zzA 68 false [.val (some 5) (ah.enc .U k)] .agg (ah.enc .own k):=by
 refine fO 12 [(1,8,[3,4,5,6,7,8,9,10])] Tryz.func68 rfl ?_ (.inr (Cc _))
 repeat'(first|refine gP ?_|refine CB (nS k.G a.1) ?_|refine CB (gZ k.u a.2) ?_)
 rfl
def fg(k:ah)(p:Int)(a:aM.sml k.G.Q):zzA 485 false [.ptr (ah.enc .U k),.val none [I p]] .one [I (af k.G.Q p).j]:=by
 refine fO 13 [] Tryz.func485 rfl ?_
 repeat'(first|refine gP ?_|refine CB (dy k.G.Q p a) ?_)
 rfl
def nk(k:ah)(b:ah.sml k):zzA 277 false [.val (some 5) (ah.enc .U k)] .one [B (aD k&&decide (k.Calls<100000))]:=by
 have a:=nz k b;cases e:aD k<;>rw[e]at a
 ·refine fO 10 [] Tryz.func277 rfl ?_
  repeat'(first|refine gP ?_|with_reducible refine Bf.D (λc=>?_) (λc=>?_))
  all_goals rfl
 refine fO 10 [] Tryz.func277 rfl ?_
 refine ZP ?_
 all_goals rfl
def iG(k:ah)(b:ah.sml k):zzA 197 false [.val (some 5) (ah.enc .U k)] .one [B (decide (k.Calls≠100000)&&aD k)]:=by
 have c:=si k b;refine fO 10 [] Tryz.func197 rfl ?_
 repeat'(first|refine gP ?_|with_reducible (first|refine Bf.N (λa=>?_) (λa=>?_)|refine Bf.D (λa=>?_) (λa=>?_)))
 all_goals(exact C1 (λz=>[B z]) ((by simp[*])))
theorem wv(h:(pagesOn k.G.Q f).length=0):ah.enc .own (fY k f)=[.s .own ((k.G.W.T.map (aH .own)).set f.toNat (aH .own (List.replicate 16 0))),.s .own ((k.G.W.a1.map (rB .own)).set f.toNat (rB .own false)),.s .own (k.G.Q.K.map (bm.enc .own)),I k.Calls,.s .own (k.u.map (rI .own))]:=by grind [S8,fY,ah.enc]
theorem AZ(h:¬(pagesOn k.G.Q f).length=0):ah.enc .own (fY k f)=ah.enc .own k:=by grind [fY]
def ug(k:ah)(f:Int)(a:aM.sml k.G.Q)(b:0<=f/\f<k.G.W.T.length/\f<k.G.W.a1.length) :
  zzB 486 false [.ptr (ah.enc .own k),.val none [I f]] [.ptr (ah.enc .own (fY k f)),.val none [I f]] (.tup []) []:=by
 have c:=ar (xs:=k.G.W.T) (i:=f.toNat) ω;have d:=ar (xs:=k.G.W.a1) (i:=f.toNat) ω;by_cases e:(pagesOn k.G.Q f).length=0
 ·rw[wv e]
  refine fM 30 [] [(2,8,[21,22,23,24,25,26,27,28])] [(0,0),(0,0)] Tryz.func486 rfl (λu q=>?_) (.inr trivial)
  repeat'(first|refine gB ?_|with_reducible (first|refine CO b.1 (aa d) ?_|refine CO b.1 (aa c) ?_)|refine CH (iK k.G.Q f a) ⟨⟨rfl,Cf k.G.Q⟩,⟨rfl,rfl⟩,trivial⟩ ?_|refine CR rfl rfl (aa c) rfl (Z1 rfl) rfl ?_|refine CR rfl rfl (aa d) rfl (Z1 rfl) rfl ?_|refine Mk.mk 16 rfl rfl (by decide) (by decide) rfl ?_)
  refine CL rfl rfl ?_;exact wB
 rw[AZ e];refine fM 30 [] [(2,8,[21,22,23,24,25,26,27,28])] [(0,0),(0,0)] Tryz.func486 rfl (λu q=>?_) (.inr trivial)
 repeat'(first|refine gB ?_|refine CH (iK k.G.Q f a) ⟨⟨rfl,Cf k.G.Q⟩,⟨rfl,rfl⟩,trivial⟩ ?_)
 refine CL rfl rfl ?_;exact wB
def uE(k:ah)(f:Int)(a:aM.sml k.G.Q)(b:0<=f/\f<k.G.W.T.length/\f<k.G.W.a1.length) :
  zzB 198 false [.ptr (ah.enc .own k),.val none [I f]] [.ptr (ah.enc .own (fY k f)),.val none [I f]] (.tup []) []:=by
 have c:=ar (xs:=k.G.W.T) (i:=f.toNat) ω;have d:=ar (xs:=k.G.W.a1) (i:=f.toNat) ω;by_cases e:(pagesOn k.G.Q f).length=0
 ·rw[wv e]
  refine fM 30 [] [(2,8,[21,22,23,24,25,26,27,28])] [(0,0),(0,0)] Tryz.func198 rfl (λu q=>?_) (.inr trivial)
  repeat'(first|refine gB ?_|with_reducible (first|refine CO b.1 (aa d) ?_|refine CO b.1 (aa c) ?_)|refine CH (lO k.G.Q f a) ⟨⟨rfl,Cf k.G.Q⟩,⟨rfl,rfl⟩,trivial⟩ ?_|refine CR rfl rfl (aa c) rfl (Z1 rfl) rfl ?_|refine CR rfl rfl (aa d) rfl (Z1 rfl) rfl ?_|refine Mk.mk 16 rfl rfl (by decide) (by decide) rfl ?_)
  refine CL rfl rfl ?_;exact wB
 rw[AZ e];refine fM 30 [] [(2,8,[21,22,23,24,25,26,27,28])] [(0,0),(0,0)] Tryz.func198 rfl (λu q=>?_) (.inr trivial)
 repeat'(first|refine gB ?_|refine CH (lO k.G.Q f a) ⟨⟨rfl,Cf k.G.Q⟩,⟨rfl,rfl⟩,trivial⟩ ?_)
 refine CL rfl rfl ?_;exact wB
theorem AG(k:ah)(p:Int):ah.enc .own (lI k p)=[.s .own (k.G.W.T.map (aH .own)),.s .own (k.G.W.a1.map (rB .own)),.s .own ((k.G.Q.K.map (bm.enc .own)).set p.toNat (bm.enc .own ⟨0,0⟩)),I k.Calls,.s .own (k.u.map (rI .own))]:=by grind [S8,lI,ah.enc]
theorem yq(h:aD k=true):aM.sml (lI k p).G.Q:=by
 obtain⟨a,b,c⟩:=bo.1 (aC.1 h).2.2.1;exact⟨by grind [lI],λ_ _=>trivial⟩
theorem Tt(k:ah)(p:Int)(b:aD k=true) :
  zzB 374 false [.ptr (ah.enc .own k),.val none [I p]] [.ptr (ah.enc .own (co k p)),.val none [I p]] .one [B (decide ((af k.G.Q p).j≠0))]:=by
 have j:=bk b;have c:=fg k p j.1.2;by_cases a:(af k.G.Q p).j=0
 ·rw[show co k p=k by unfold co;rw[CE a]]
  refine fM 32 [(486,[2,0])] [] [(0,0),(0,0)] Tryz.func374 rfl (λu q=>?_)
  repeat'(first|refine gB ?_|refine CH (c) ⟨CS k,⟨rfl,rfl⟩,trivial⟩ ?_)
  refine CL rfl ?_ ?_
  ·exact C1 (λz=>[B z]) ((by simp[a]))
  exact wB
 obtain⟨l,r,n,d,o⟩:=bK b a;have h:=(aZ.1 (aC.1 b).2.1).2.2.1;rw[show co k p=fY (lI k p) (af k.G.Q p).e by unfold co;rw[CC a]];have e:=ug (lI k p) (af k.G.Q p).e (yq b) ⟨d,by grind [lI],by grind [lI]⟩;rw[AG]at e;have g:=ar (xs:=k.G.Q.K) (i:=p.toNat) ω;rw[n]at c e a |-;refine fM 32 [(486,[2,0])] [] [(0,0),(0,0)] Tryz.func374 rfl (λu q=>?_)
 repeat'(first|refine gB ?_|with_reducible refine CO l (aa g) ?_|refine CH (c) ⟨CS k,⟨rfl,rfl⟩,trivial⟩ ?_|refine CR rfl rfl (aa g) rfl (Z1 rfl) rfl ?_)
 refine CL rfl ?_ ?_
 ·exact C1 (λz=>[B z]) ((by simp[a]))
 exact wB
theorem ql(k:ah)(p:Int)(a:aD k=true)(o:k.Calls≠100000) :
  zzA 69 false [.val (some 5) (ah.enc .U k),.val none [I p]] (.tup [some 5,none]) (ah.enc .own (co k p)++[B (decide ((af k.G.Q p).j≠0))]):=by
 have d:=bk a;have l:=gU k d;have e:=iG k d;have c:=fx k p d.1.2;rw[a,O0 o]at e;by_cases b:(af k.G.Q p).j=0
 ·rw[show co k p=k by unfold co;rw[CE b]]
  rw[X0 (by simpa using b)]at c |-;refine fP 38 [(198,[2,0])] [] Tryz.func69 rfl ?_ (.inr (aJ (Cc k) ⟨trivial,trivial⟩))
  refine ZP ?_
  all_goals rfl
 obtain⟨q,u,r,g,t⟩:=bK a b;have n:=(aZ.1 (aC.1 a).2.1).2.2.1;rw[show co k p=fY (lI k p) (af k.G.Q p).e by unfold co;rw[CC b]];have h:=uE (lI k p) (af k.G.Q p).e (yq a) ⟨g,by grind [lI],by grind [lI]⟩;rw[AG]at h;have j:=ar (xs:=k.G.Q.K) (i:=p.toNat) ω;rw[O0 b]at c |-;rw[r]at h |-;refine fP 38 [(198,[2,0])] [] Tryz.func69 rfl ?_ (.inr (aJ (Cc _) ⟨trivial,trivial⟩))
 repeat'(first|refine gP ?_|with_reducible refine CO q (aa j) ?_|refine CR rfl rfl (aa j) rfl (Z1 rfl) rfl ?_)
 all_goals rfl
def gY(n:Nat):aU:=⟨List.replicate n (List.replicate 16 0),List.replicate n false⟩
def gt(n:Nat):aM:=⟨List.replicate n ⟨0,0⟩⟩
def cr(p f:Nat)(a:List Int):ah:=⟨⟨gY f,gt p⟩,0,a⟩
def gx:aF:=⟨List.replicate 4 []⟩
def eR(n:Nat):aP:=⟨List.replicate n [],List.replicate n []⟩
def newHeap(p f t:Nat)(lim:Int)(a:List Int):ac:=⟨cr p f a,[⟨0,p⟩],[],[],[],List.replicate t gx,eR t,⟨16,[]⟩,0,0,lim,1,false,⟨⟨0,0,[]⟩,0,0⟩⟩
theorem dN[Inhabited α]{y:α}(a:j<n):nth (List.replicate n y) j=y:=bq ψ
theorem Tc(n:Nat)(f:Int):pagesOn (gt n) f=[]:=by grind [List.filter_eq_nil_iff,dN,pagesOn,lh,gt,QS]
theorem F5{p f:Nat}(c:1<=p/\p<=32)(d:1<=f/\f<=32):aD (cr p f [])=true:=by
 rw[aC];refine⟨λj b=>by grind [cr],aZ.2 ⟨by grind [cr,gY],by grind [cr,gY],by grind [cr,gY],λj b=>?_⟩,bo.2 ⟨λj b=>?_,by grind [cr,gt],by grind [cr,gt]⟩,λj b=>?_,by simp[cr],by simp[cr],by simp[cr]⟩
 ·have a:j<f:=by grind [cr,gY]
  rw[show nth (cr p f []).G.W.T j=List.replicate 16 0 from dN a,show nth (cr p f []).G.W.a1 j=false from dN a]
  decide
 all_goals grind [Tc,cr,gt,nth,lD,gY]
theorem Lj(w:World)(q:Nat)(a:Array Obj):bA NO w (Sort.grow (w.drewN q) a):=by
 have c:∀b,b<w.heap.size->(Sort.grow (w.drewN q) a).heap[b]? = w.heap[b]?:=λb c=>Sort.heap_grow_old (w.drewN q) a c
 refine⟨rfl,rfl,rfl,ψ,λb h _=>c b h,λb o h _=>?_,λb o h _=>?_⟩
 all_goals grind [Go.World.cell?,Go.World.frozen?,mp]
theorem Ns(c:Nat)(W:World):Calls Tryz.prog 455 #[.slice none 0 c] W λe g=>∃B q h,e=.returned (.slice B 0 0)/\g=Sort.grow (W.drewN q) h:=by
 have q22:∀(w:World)(a:Option Addr)(n c b d:Nat),(binOp .eql 33 (.slice a n c) (.slice none b d)).run Tryz.prog w=.ok (.bool a.isNone) w:=λw a n c b d=>Lib.run_eql_slice_nil w _ _ a n c b d Tryz.underlying33
 go_enter Tryz.func455,Tryz.ntmps455
 go_wp2
 go_ret
 exact⟨none,0,#[],rfl,by simp[Sort.grow,World.drewN]⟩
theorem Kj(a:Addr)(c:Nat)(W:World):Calls Tryz.prog 455 #[.slice (some a) 0 c] W λe g=>∃B q h,e=.returned (.slice B 0 0)/\g=Sort.grow (W.drewN q) h:=by
 have q22:∀(w:World)(a:Option Addr)(n c b d:Nat),(binOp .eql 33 (.slice a n c) (.slice none b d)).run Tryz.prog w=.ok (.bool a.isNone) w:=λw a n c b d=>Lib.run_eql_slice_nil w _ _ a n c b d Tryz.underlying33
 go_enter Tryz.func455,Tryz.ntmps455
 go_wp2
 go_ret
 exact⟨some ⟨W.heap.size,0,none⟩,0,#[.cells #[] 3],rfl,by rw[Sort.alloc_eq_grow];rfl⟩
theorem KV(xs:List Int)(o:xs.length<=1048576):zzA 455 false [.val none (aH .U xs)] .one (aH .own xs):=by
 by_cases c:xs=[]
 ·subst c
  refine⟨⟨_,Tryz.func455,by kernel_rfl,by kernel_rfl⟩,λw S p t d=>?_⟩
  match p,d with
  | [v],⟨d,_⟩=>
   have b:=b9.rep1 (show b9 w S NO none [C.s .U []] v from d);obtain⟨l,g,rfl⟩:=b.slice;have r:Calls Tryz.prog 455 #[.slice l 0 g] w λe n=>∃B q i,e=.returned (.slice B 0 0)/\n=Sort.grow (w.drewN q) i:=by
    cases l with
    | none=>grind [Ns]
    | some a=>grind [Kj]
   refine r.mono λe n ⟨B,q,i,c,j⟩=>?_
   subst j;exact⟨.slice B 0 0,c,Lj w q i,NO,NO,λ_ _ h=>h.elim,λ_ _ h=>h.elim,λ_ _ h=>h.elim,rfl,row1 (.nil _ .own B trivial)⟩
 have k:xs.map (rI .U)≠[]:=by simp_all
 refine fO 8 [] Tryz.func455 rfl ?_ (.inr (bO _))
 repeat'(first|refine gP ?_|refine Nn.mk k ?_|refine CT (λ_=>rfl) (λ_=>rfl) o (by decide) ?_)
 rfl
def sA(p:cn)(a:cn.sml p):zzA 332 false [.val (some 3) (cn.enc .U p)] .agg (cn.enc .own p):=by
 have b:p.T.length<=1048576:=a;refine fO 8 [] Tryz.func332 rfl ?_ (.inr (cn.enc_fr _))
 repeat'(first|refine gP ?_|refine CB (KV p.T b) ?_)
 rfl
def vo(j:cz)(a:cz.sml j):zzA 185 false [.val (some 5) (cz.enc .U j)] .agg (cz.enc .own j):=by
 refine fO 8 [] Tryz.func185 rfl ?_ (.inr (cz.enc_fr _))
 repeat'(first|refine gP ?_|refine CB (sA j.X a) ?_)
 rfl
def jU(c:aF)(d:aF.sml c):zzA 204 false [.val (some 1) (aF.enc .U c)] .agg (aF.enc .own c):=by
 have g:=d.1;refine fO 26 [(5,10,[13,14,15,16,17,18,19,20,21,22])] Tryz.func204 rfl ?_ (.inr (aF.enc_fr _))
 refine ZP ?_
 refine CK (ι:=Nat) (λi=>[(1,.H .box (aF.enc .U c)),(2,.H .box [.z]),(3,.H .box [.s .own ((c.Z.take i).map (aH .own))]),(4,.H .one [I ((i:Nat):Int)])]) (λi=>i<=c.Z.length) (λi=>c.Z.length - i) (0) ?_ (Z0 _) λi h=>?_
 ·exact wB
 by_cases a:i<c.Z.length
 ·have e:=ar a
  have b:(nth c.Z i).length<=1048576:=d.2 _ (au a)
  repeat'(first|refine gE ?_|refine CZ (λ_=>rfl) (λ_=>rfl) b (by decide) ?_|refine Ap.sn (aO λ_=>rfl) rfl (by simp;omega) (by decide) (gy a) ?_)
  (refine CG (i+1) ω ω ?_;(exact wB))
 refine ZE ?_
 obtain rfl:i=c.Z.length:=ω
 rw[C7]
 rfl
def jA(c:aF)(d:aF.sml c):zzA 182 false [.val (some 1) (aF.enc .U c)] .agg (aF.enc .own c):=by
 have g:=d.1;refine fO 23 [(5,5,[14,15,16,17,18])] Tryz.func182 rfl ?_ (.inr (aF.enc_fr _))
 refine ZP ?_
 refine CK (ι:=Nat) (λi=>[(2,.H .box [.z]),(3,.H .box [.s .own ((c.Z.take i).map (aH .own))]),(8,.H .one (kx .U c.Z)),(9,.H .one [I (c.Z.length)]),(10,.H .one [I ((i:Nat):Int)])]) (λi=>i<=c.Z.length) (λi=>c.Z.length - i) (0) ?_ (Z0 _) λi h=>?_
 ·exact wB
 by_cases a:i<c.Z.length
 ·have e:=ar a
  have b:(nth c.Z i).length<=1048576:=d.2 _ (au a)
  repeat'(first|refine gE ?_|refine CB (gZ (nth c.Z i) b) ?_|refine Ap.sn (aO λ_=>rfl) rfl (by simp;omega) (by decide) (gy a) ?_)
  (refine CG (i+1) ω ω ?_;(exact wB))
 refine ZE ?_
 obtain rfl:i=c.Z.length:=ω
 rw[C7]
 rfl
def gG(m:aP)(b:aP.sml m):zzA 205 false [.val (some 2) (aP.enc .U m)] .agg (aP.enc .own m):=by
 have h:=b.1.1;have g:=b.2.1;refine fO 46 [(5,10,[14,15,16,17,18,19,20,21,22,23]),(9,10,[33,34,35,36,37,38,39,40,41,42])] Tryz.func205 rfl ?_ (.inr (aP.enc_fr _))
 refine ZP ?_
 refine CK (ι:=Nat) (λi=>[(1,.H .box (aP.enc .U m)),(2,.H .box [.z,.z]),(3,.H .box [.s .own ((m.V.take i).map (cL .own)),.z]),(4,.H .one [I ((i:Nat):Int)])]) (λi=>i<=m.V.length) (λi=>m.V.length - i) (0) ?_ (Z0 _) λi j=>?_
 ·exact wB
 by_cases c:i<m.V.length
 ·have d:=ar c
  have a:(nth m.V i).length<=1048576:=(b.1.2 _ (au c)).1
  repeat'(first|refine gE ?_|refine CZ (λ_=>rfl) (λ_=>rfl) a (by decide) ?_|refine Ap.sn (aO λ_=>rfl) rfl (by simp;omega) (by decide) (gy c) ?_)
  (refine CG (i+1) ω ω ?_;(exact wB))
 obtain rfl:i=m.V.length:=ω
 rw[C7]
 refine ZE ?_
 refine CK (ι:=Nat) (λk=>[(1,.H .box (aP.enc .U m)),(2,.H .box [.z,.z]),(3,.H .box [.s .own (m.V.map (cL .own)),.s .own ((m.a2.take k).map (aH .own))]),(5,.H .one [I ((k:Nat):Int)])]) (λk=>k<=m.a2.length) (λk=>m.a2.length - k) (0) ?_ (Z0 _) λk l=>?_
 ·exact wB
 by_cases e:k<m.a2.length
 ·have d:=ar e
  have a:(nth m.a2 k).length<=1048576:=b.2.2 _ (au e)
  repeat'(first|refine gE ?_|refine CZ (λ_=>rfl) (λ_=>rfl) a (by decide) ?_|refine Ap.sn (aO λ_=>rfl) rfl (by simp;omega) (by decide) (gy e) ?_)
  (refine CG (k+1) ω ω ?_;(exact wB))
 refine ZE ?_
 obtain rfl:k=m.a2.length:=ω
 rw[C7]
 rfl
def B0(m:aP)(b:aP.sml m):zzA 183 false [.val (some 2) (aP.enc .U m)] .agg (aP.enc .own m):=by
 have h:=b.1.1;have g:=b.2.1;refine fO 41 [(5,6,[16,17,18,19,20,21]),(10,5,[32,33,34,35,36])] Tryz.func183 rfl ?_ (.inr (aP.enc_fr _))
 refine ZP ?_
 refine CK (ι:=Nat) (λi=>[(1,.H .box (aP.enc .U m)),(2,.H .box [.z,.z]),(3,.H .box [.s .own ((m.V.take i).map (cL .own)),.z]),(10,.H .one (zI .U m.V)),(11,.H .one [I (m.V.length)]),(12,.H .one [I ((i:Nat):Int)])]) (λi=>i<=m.V.length) (λi=>m.V.length - i) (0) ?_ (Z0 _) λi j=>?_
 ·exact wB
 by_cases c:i<m.V.length
 ·have d:=ar c
  have a:(nth m.V i).length<=1048576:=(b.1.2 _ (au c)).1
  repeat'(first|refine gE ?_|refine CZ (λ_=>rfl) (λ_=>rfl) a (by decide) ?_|refine Ap.sn (aO λ_=>rfl) rfl (by simp;omega) (by decide) (gy c) ?_)
  (refine CG (i+1) ω ω ?_;(exact wB))
 obtain rfl:i=m.V.length:=ω
 rw[C7]
 refine ZE ?_
 refine CK (ι:=Nat) (λk=>[(2,.H .box [.z,.z]),(3,.H .box [.s .own (m.V.map (cL .own)),.s .own ((m.a2.take k).map (aH .own))]),(26,.H .one (kx .U m.a2)),(27,.H .one [I (m.a2.length)]),(28,.H .one [I ((k:Nat):Int)])]) (λk=>k<=m.a2.length) (λk=>m.a2.length - k) (0) ?_ (Z0 _) λk l=>?_
 ·exact wB
 by_cases e:k<m.a2.length
 ·have d:=ar e
  have a:(nth m.a2 k).length<=1048576:=b.2.2 _ (au e)
  repeat'(first|refine gE ?_|refine CB (gZ (nth m.a2 k) a) ?_|refine Ap.sn (aO λ_=>rfl) rfl (by simp;omega) (by decide) (gy e) ?_)
  (refine CG (k+1) ω ω ?_;(exact wB))
 refine ZE ?_
 obtain rfl:k=m.a2.length:=ω
 rw[C7]
 rfl
def uU(q:bS)(b:bS.sml q):zzA 206 false [.val (some 2) (bS.enc .U q)] .agg (bS.enc .own q):=by
 have a:q.a6.length<=1048576:=b.1;refine fO 10 [(1,6,[3,4,5,6,7,8])] Tryz.func206 rfl ?_ (.inr (bS.enc_fr _))
 repeat'(first|refine gP ?_|refine CZ (λ_=>rfl) (λ_=>rfl) a (by decide) ?_|refine CT (λ_=>rfl) (λ_=>rfl) a (by decide) ?_)
 rfl
def BZ(q:bS)(b:bS.sml q):zzA 184 false [.val (some 2) (bS.enc .U q)] .agg (bS.enc .own q):=by
 have a:q.a6.length<=1048576:=b.1;refine fO 10 [(1,6,[3,4,5,6,7,8])] Tryz.func184 rfl ?_ (.inr (bS.enc_fr _))
 repeat'(first|refine gP ?_|refine CZ (λ_=>rfl) (λ_=>rfl) a (by decide) ?_|refine CT (λ_=>rfl) (λ_=>rfl) a (by decide) ?_)
 rfl
def vk(j:cz)(a:cz.sml j):zzA 207 false [.val (some 5) (cz.enc .U j)] .agg (cz.enc .own j):=by
 have b:j.X.T.length<=1048576:=a;refine fO 11 [] Tryz.func207 rfl ?_ (.inr (cz.enc_fr _))
 repeat'(first|refine gP ?_|refine CT (λ_=>rfl) (λ_=>rfl) b (by decide) ?_)
 rfl
def lz(xs:List aB)(a:gI xs):zzA 181 false [.val none (bt .U xs)] .one (bt .own xs):=by
 have b:=a.1;refine fO 6 [] Tryz.func181 rfl ?_ (.inr (jz _))
 repeat'(first|refine gP ?_|refine CT (λ_=>rfl) (λ_=>rfl) b (by decide) ?_)
 rfl
def Wf(h:ac)(a:C):List C:=[.s .own (h.F.G.W.T.map (aH .own)),.s .own (h.F.G.W.a1.map (rB .own)),.s .own (h.F.G.Q.K.map (bm.enc .own)),I h.F.Calls,.s .own (h.F.u.map (rI .own)),.s .own (h.o.map (aB.enc .own)),.s .own (h.J.map (aA.enc .own)),.s .own (h.M.map (aE.enc .own)),.s .own (h.O.map (bu.enc .own)),a,.s .U (h.w.V.map (cL .U)),.s .U (h.w.a2.map (aH .U)),I h.a7.b8,.s .U (h.a7.a6.map (aT.enc .U)),I h.b3,I h.b2,I h.b1,I h.b,B h.q,I h.Y.X.a3,I h.Y.X.a0,.s .U (h.Y.X.T.map (rI .U)),I h.Y.b0,I h.Y.b]
def ux:List C:=[.z,.z,.z,I 0,.z,.z,.z,.z,.z,.z,.z,.z,I 0,.z,I 0,I 0,I 0,I 0,B false,I 0,I 0,.z,I 0,I 0]
def Gb(h:ac)(c:ac.sml h):zzA 72 false [.val (some 24) (ac.enc .U h)] .agg (ac.enc .own h):=by
 obtain⟨d,e,g,j,k,b,l,n,o⟩:=c;have p:=e.1;have q:=g.1;have r:=j.1;have t:=k.1;have w:=b.1;refine fO 61 [] Tryz.func72 rfl ?_ (.inr (ac.enc_fr _))
 repeat'(first|refine gP ?_|refine CB (EB h.F d) ?_|refine CT (λ_=>rfl) (λ_=>rfl) p (by decide) ?_|refine CT (λ_=>rfl) (λ_=>rfl) q (by decide) ?_|refine CT (λ_=>rfl) (λ_=>rfl) r (by decide) ?_|refine CT (λ_=>rfl) (λ_=>rfl) t (by decide) ?_)
 refine CK (ι:=Nat) (λi=>[(1,.H .box (Wf h (.s .U (h.S.map (aF.enc .U))))),(2,.H .box ux),(3,.H .one ([.s .own ((h.S.take i).map (aF.enc .own))])),(4,.H .one [I ((i:Nat):Int)])]) (λi=>i<=h.S.length) (λi=>h.S.length - i) (0) ?_ (Z0 _) λi y=>?_
 ·exact wB
 by_cases a:i<h.S.length
 ·have u:=ar a
  repeat'(first|refine gE ?_|refine CB (jU (nth h.S i) (b.2 _ (au a))) ?_|refine Ap.sn (aO λ_=>rfl) rfl (by simp;omega) (by decide) (gy a) ?_)
  (refine CG (i+1) ω ω ?_;(exact wB))
 obtain rfl:i=h.S.length:=ω
 rw[C7]
 repeat'(first|refine gE ?_|refine CB (gG h.w l) ?_|refine CB (uU h.a7 n) ?_|refine CB (vk h.Y o) ?_)
 rfl
def nr(h:ac)(c:ac.sml h):zzA 62 false [.val (some 24) (ac.enc .U h)] .agg (ac.enc .own h):=by
 obtain⟨d,e,g,j,k,b,l,n,o⟩:=c;have p:=g.1;have q:=j.1;have r:=k.1;have u:=b.1;refine fO 59 [(11,5,[38,39,40,41,42])] Tryz.func62 rfl ?_ (.inr (ac.enc_fr _))
 repeat'(first|refine gP ?_|refine CB (gU h.F d) ?_|refine CB (lz h.o e) ?_|refine CT (λ_=>rfl) (λ_=>rfl) p (by decide) ?_|refine CT (λ_=>rfl) (λ_=>rfl) q (by decide) ?_|refine CT (λ_=>rfl) (λ_=>rfl) r (by decide) ?_)
 refine CK (ι:=Nat) (λi=>[(1,.H .box (ac.enc .U h)),(2,.H .box ux),(3,.H .box (Wf h (.s .own ((h.S.take i).map (aF.enc .own))))),(32,.H .one (qk .U h.S)),(33,.H .one [I (h.S.length)]),(34,.H .one [I ((i:Nat):Int)])]) (λi=>i<=h.S.length) (λi=>h.S.length - i) (0) ?_ (Z0 _) λi w=>?_
 ·exact wB
 by_cases a:i<h.S.length
 ·have t:=ar a
  repeat'(first|refine gE ?_|refine CB (jA (nth h.S i) (b.2 _ (au a))) ?_|refine Ap.sn (aO λ_=>rfl) rfl (by simp;omega) (by decide) (gy a) ?_)
  (refine CG (i+1) ω ω ?_;(exact wB))
 obtain rfl:i=h.S.length:=ω
 rw[C7]
 repeat'(first|refine gE ?_|refine CB (B0 h.w l) ?_|refine CB (BZ h.a7 n) ?_|refine CB (vo h.Y o) ?_)
 rfl
theorem Ap.sm{a:List (List C)}(h1:∀r∈rows,r.length=sz)(e:r.length=sz)(f:rows.length+1<=1073741824)(b:by_<=1000)(c:a=rows++[r])(d:K a):Ap false rows [r] sz by_ K:=
 CV h1 ψ ψ (by simp;omega) (O6 (Nat.mul_le_mul ω b) (by decide)) c d
theorem Ap.s2{c:List (List C)}{a b:List C}(h1:∀r∈rows,r.length=sz)(g:a.length=sz)(h:b.length=sz)(i:rows.length+2<=1073741824)(d:by_<=1000)(e:c=rows++[a,b])(f:K c):Ap false rows [a,b] sz by_ K:=
 CV h1 ψ ψ (by simp;omega) (O6 (Nat.mul_le_mul ω d) (by decide)) e f
def vz(y:aB)(a:List aB)(r:aB)(out:List aB)(done:Bool):jS (y::a) r out done=if ovl y r then none
  else if y.At+y.a8=r.At then jS a ⟨y.At,y.a8+r.a8⟩ out done
  else if r.At+r.a8=y.At then jS a ⟨r.At,r.a8+y.a8⟩ out done
  else if y.At > r.At/\done=false then jS a r (out++[r,y]) true
  else jS a r (out++[y]) done:=by rw[jS]
variable{xs:List aB}{pages:Int}
theorem tQ(h:bG pages xs=true):ku xs/\∀y∈xs,0<=y.At/\1<=y.a8/\y.At+y.a8<=pages:=by
 unfold bG at h;simp only[I0,C0]at h;have d:∀i,i<xs.length->1<=(nth xs i).a8/\0<=(nth xs i).At/\(nth xs i).At<=pages - (nth xs i).a8:=λi a=>by grind [fG,ig,rangeIn]
 have e:∀i,i+1<xs.length->(nth xs i).At+(nth xs i).a8<(nth xs (i+1)).At:=λi a=>by grind [fG,ig]
 have f:∀j i,i<j->j<xs.length->(nth xs i).At+(nth xs i).a8<(nth xs j).At:=λj=>by
  induction j with
  | zero=>intro i a;omega
  | succ j k=>
   grind
 refine⟨⟨?_,λy g=>?_⟩,λy g=>?_⟩
 ·rw[List.pairwise_iff_getElem]
  intro i j a c b;have:=f j i b c
  rwa [bq (C3 a),bq (C3 c)]at this
 all_goals grind [aR]
theorem iT[Inhabited α]{xs:List α}(a:i<xs.length):xs.drop i=nth xs i::xs.drop (i+1):=by
 rw[List.drop_eq_getElem_cons a,bq (C3 a)]
def cB(pages:Int)(xs:List aB)(r:aB):Option (List aB):=if bG pages xs=true/\rangeIn pages r=true then jS xs r [] false else none
def Gn(xs:List aB)(o:Option (List aB)):List C:=bt .own (o.getD xs)++[B o.isSome]
def lW(xs:List aB)(o:Option (List aB)):i6 (Gn xs o):=aJ (jz _) ⟨trivial,trivial⟩
theorem BA(pages:Int)(xs:List aB)(r:aB)(w:0<=pages/\pages<=1048576)(l:gI xs):zzA 254 false [.val none [I pages],.val none (bt .U xs),.val (some 2) (aB.enc .U r)] (.tup [none,none]) (Gn xs (cB pages xs r)):=by
 have L:=l.1;have j:=nl pages xs w l;have n:=Am pages r w;have o:=lz xs l;cases k:bG pages xs<;>rw[k]at j
 ·rw[show cB pages xs r=none by unfold cB;rw[CC (by rw[k];simp)]]
  refine fO 111 [] Tryz.func254 rfl ?_ (.inr (lW _ _))
  refine ZP ?_
  rfl
 cases p:rangeIn pages r<;>rw[p]at n
 ·rw[show cB pages xs r=none by unfold cB;rw[CC (by rw[p];simp)]]
  refine fO 111 [] Tryz.func254 rfl ?_ (.inr (lW _ _))
  refine ZP ?_
  rfl
 rw[show cB pages xs r=jS xs r [] false by unfold cB;rw[CE ⟨k,p⟩]];obtain⟨M,G⟩:=tQ k;have H:0<=r.At/\1<=r.a8/\r.At+r.a8<=pages:=by grind [rangeIn]
 refine fO 111 [] Tryz.func254 rfl ?_ (.inr (lW _ _))
 refine ZP ?_
 refine CK (ι:=Nat × aB × List aB × Bool) (λq=>[(1,.H .one (bt .U xs)),(5,.H .box (aB.enc .U q.2.1)),(8,.H .one (bt .own q.2.2.1)),(9,.H .one [B (q.2.2.2)]),(25,.H .one (bt .U xs)),(26,.H .one [I (xs.length)]),(27,.H .one [I ((q.1:Nat):Int)])]) (λq=>q.1<=xs.length/\jS (xs.drop q.1) q.2.1 q.2.2.1 q.2.2.2=jS xs r [] false/\(0<=q.2.1.At/\1<=q.2.1.a8/\q.2.1.At+q.2.1.a8<=pages)/\q.2.2.1.length<=2*q.1) (λq=>xs.length - q.1) ((0,r,[],false)) ?_ (⟨Z0 _,rfl,H,Z0 _⟩) λq c=>?_
 ·exact wB
 obtain⟨i,d,out,done⟩:=q;obtain⟨J,b,e,t⟩:=c;simp only at J b e t |-;by_cases u:i<xs.length
 ·have g:=ar u
  have N:=G _ (au u);rw[iT u]at b;by_cases h:ovl (nth xs i) d=true
  ·rw[<-b]
   rw[vz,CE h];unfold ovl at h;rw[C0]at h
   repeat'(first|refine gE ?_|with_reducible refine Bf.D (λc=>?_) (λc=>?_))
   rfl
  have a:=b;rw[vz,CC h]at a;unfold ovl at h;rw[C0]at h;by_cases y:(nth xs i).At+(nth xs i).a8=d.At
  ·rw[CE y]at a
   repeat'(first|refine gB ?_|with_reducible refine Bf.D (λc=>?_) (λc=>?_))
   (refine CG (i+1,⟨(nth xs i).At,(nth xs i).a8+d.a8⟩,out,done) ⟨(by simp only;omega),a,(by simp only;omega),(by simp only;omega)⟩ (by simp only;omega) ?_;(exact wB))
  rw[CC y]at a;by_cases F:d.At+d.a8=(nth xs i).At
  ·rw[CE F]at a
   repeat'(first|refine gB ?_|with_reducible (first|refine Bf.D (λc=>?_) (λc=>?_)|refine Bf.E (λc=>?_) (λc=>?_)))
   (refine CG (i+1,⟨d.At,d.a8+(nth xs i).a8⟩,out,done) ⟨(by simp only;omega),a,(by simp only;omega),(by simp only;omega)⟩ (by simp only;omega) ?_;(exact wB))
  rw[CC F]at a;by_cases K:(nth xs i).At > d.At
  ·cases done with
   | false=>
    rw[CE ⟨K,rfl⟩]at a
    repeat'(first|refine gB ?_|with_reducible (first|refine Bf.D (λc=>?_) (λc=>?_)|refine Bf.E (λc=>?_) (λc=>?_))|refine Ap.s2 (aO λ_=>rfl) rfl rfl (by simp;omega) (by decide) rfl ?_)
    ((conv=>whnf)
     refine CG (i+1,d,out++[d,nth xs i],true) ⟨(by simp only;omega),a,e,(by simp;omega)⟩ (by simp only;omega) ?_
     (repeat'(first|exact trivial|rfl|exact CN rfl (CN (C1 (C.s dX.own) (by simp[aB.enc])) trivial)|refine CN ?_ ?_)))
   | true=>
    rw[CC (by simp)]at a
    repeat'(first|refine gB ?_|with_reducible (first|refine Bf.D (λc=>?_) (λc=>?_)|refine Bf.E (λc=>?_) (λc=>?_))|refine Ap.sm (aO λ_=>rfl) rfl (by simp;omega) (by decide) rfl ?_)
    ((conv=>whnf)
     refine CG (i+1,d,out++[nth xs i],true) ⟨(by simp only;omega),a,e,(by simp;omega)⟩ (by simp only;omega) ?_
     (repeat'(first|exact trivial|rfl|exact CN rfl (CN (C1 (C.s dX.own) (by simp[aB.enc])) trivial)|refine CN ?_ ?_)))
  rw[CC ω]at a
  repeat'(first|refine gB ?_|with_reducible (first|refine Bf.D (λc=>?_) (λc=>?_)|refine Bf.E (λc=>?_) (λc=>?_))|refine Ap.sm (aO λ_=>rfl) rfl (by simp;omega) (by decide) rfl ?_)
  ((conv=>whnf)
   refine CG (i+1,d,out++[nth xs i],done) ⟨(by simp only;omega),a,e,(by simp;omega)⟩ (by simp only;omega) ?_
   (repeat'(first|exact trivial|rfl|exact CN rfl (CN (C1 (C.s dX.own) (by simp[aB.enc])) trivial)|refine CN ?_ ?_)))
 obtain rfl:i=xs.length:=ω
 rw[List.drop_length]at b;cases done with
 | false=>
  rw[<-b]
  repeat'(first|refine gE ?_|refine Ap.sm (aO λ_=>rfl) rfl (by simp;omega) (by decide) rfl ?_)
  show [C.s dX.own _,B true]=[C.s dX.own _,B true]
  grind [jS,aB.enc]
 | true=>
  rw[<-b]
  refine ZE ?_
  rfl
theorem xR[Inhabited α](R:Int->Int->Prop)(n:∀a b c,R a b->R b c->R a c)(f:α->Int)(xs:List α):(∀i,i<xs.length->i=0\/R (f (nth xs (i - 1))) (f (nth xs i)))↔xs.Pairwise (λa b=>R (f a) (f b)):=by
 constructor
 ·intro h
  have l:∀j i,i<j->j<xs.length->R (f (nth xs i)) (f (nth xs j)):=λj=>by
   induction j with
   | zero=>intro i d;omega
   | succ j o=>
    grind
  rw[List.pairwise_iff_getElem];intro i j d k g;have:=l j i g k
  rwa [bq (C3 d),bq (C3 k)]at this
 intro h i d;by_cases e:i=0
 ·exact .inl e
 right
 have:=List.pairwise_iff_getElem.1 h (i - 1) i ω d ω
 rwa [<-bq (C3 (show i - 1<xs.length by omega)),<-bq (C3 d)]at this
theorem DZ[Inhabited α](f:α->Int)(xs:List α):(∀i,i<xs.length->∀o∈xs.take i,f o≠f (nth xs i))↔(xs.map f).Nodup:=by
 unfold List.Nodup;rw[List.pairwise_map,List.pairwise_iff_getElem];constructor
 ·intro h i j b a c
  have:=h j a xs[i] (List.mem_take_iff_getElem.2 ψ)
  rwa [bq (C3 a)]at this
 intro h i b o d;obtain⟨j,a,rfl⟩:=List.mem_take_iff_getElem.1 d;rw[bq (C3 b)]
 grind
def eS(s:aA)(a:Int):Prop:=16*s.R<=a/\a<=16*s.R+15/\(a - 16*s.R) % csz s.d=0/\bf s.a9 ((a - 16*s.R) / csz s.d)=true
def jZ(sp:List aA)(a c:Int):Prop:=∃s∈sp,eS s a/\(c<0\/s.d=c)
def WZ(la:List aE)(a z:Int):Prop:=∃l∈la,a=16*l.R/\l.y=z
def Tj(sp:List aA)(la:List aE)(o:bu):Prop:=(∃s∈sp,eS s o.Addr/\s.d=aL o.y)\/WZ la o.Addr o.y
def nX(sp:List aA)(la:List aE)(a:Int):Prop:=jZ sp a (-1)\/∃l∈la,a=16*l.R
theorem nR(f:pT sp la)(a:Int):(∃i,i<sp.length/\(16*(nth sp i).R<=a/\a<=16*(nth sp i).R+15)/\denotes sp la a=pu i (nth sp i) a)\/((∀s∈sp,¬(16*s.R<=a/\a<=16*s.R+15))/\((∃i,i<la.length/\bM (nth la i) a=true/\denotes sp la a = ⟨3,i,0,a - 16*(nth la i).R⟩)\/((∀l∈la,bM l a=false)/\denotes sp la a = ⟨0,0,0,0⟩))):=by
 cases d:sp.findIdx? (dq · a) with
 | some i=>
  obtain⟨b,c,-⟩:=I9.1 d;rw[<-bq (C3 b)]at c
  grind [iv,pT.sok,au,denotes]
 | none=>
  have g:=List.findIdx?_eq_none_iff.1 d;refine .inr ⟨λs h j=>?_,?_⟩
  ·grind [iv,pT.sok]
  cases e:la.findIdx? (bM · a) with
  | some i=>
   obtain⟨b,c,-⟩:=I9.1 e;rw[<-bq (C3 b)]at c
   grind [denotes]
  | none=>grind [denotes]
theorem Rj(l:pT h.J h.M) : dL h a c=true↔jZ h.J a c:=by
 unfold dL;simp only[I0,X8,C0];constructor
 ·rintro⟨⟨b,f⟩,d⟩
  rcases nR l a with⟨i,j,k,g⟩|⟨-,⟨i,j,-,g⟩|⟨-,g⟩⟩
  ·rw[g]at b f d
   simp only[pu]at b f d;refine⟨_,au j,⟨k.1,k.2,f,?_⟩,by simpa using d⟩;cases e:bf (nth h.J i).a9 ((a - 16*(nth h.J i).R) / csz (nth h.J i).d) with
   | true=>rfl
   | false=>rw[e]at b;simp at b
  all_goals grind
 rintro⟨s,n,⟨o,p,q,r⟩,d⟩
 grind [aR,iX,pu]
theorem AJ(a:pT sp la)(c:l∈la):(∀s∈sp,¬(16*s.R<=16*l.R/\16*l.R<=16*s.R+15))/\bM l (16*l.R)=true/\∀i,i<la.length->bM (nth la i) (16*l.R)=true->nth la i=l:=by
 have k:=aW (a.lok _ c);have f:=de (a.lok _ c);refine⟨λs g n=>?_,?_,λi d e=>?_⟩
 ·exact a.dis s g l c 0 ω ω
 ·grind [pT.lok,bM]
 obtain⟨j,h,rfl⟩:=aR c;have o:=aW (a.lok _ (au d));have b:=a.lok _ (au d);unfold bR at b;rw[C0]at b;unfold bM at e;rw[I0,C0]at e;rw[a.one i j d h ((nth la j).R - (nth la i).R).toNat 0 ω ω ω]
theorem RB(f:pT h.J h.M) : jM h o=true↔Tj h.J h.M o:=by
 unfold jM;simp only[I0,X8,C0];constructor
 ·rintro⟨b,a⟩
  rcases nR f o.Addr with⟨i,d,g,c⟩|⟨-,⟨i,d,-,c⟩|⟨-,c⟩⟩
  ·rw[c]at a b
   simp only[pu]at a b;have e:bf (nth h.J i).a9 ((o.Addr - 16*(nth h.J i).R) / csz (nth h.J i).d)=true:=ψ
   rw[e]at a;exact .inl ⟨_,au d,⟨g.1,g.2,b,e⟩,by simpa using a⟩
  ·rw[c]at a b
   simp only at a b;exact .inr ⟨_,au d,ω,by simpa using a⟩
  grind
 rintro(⟨s,e,⟨k,n,p,q⟩,r⟩|⟨l,j,t,u⟩)
 ·grind [aR,iX,pu]
 obtain⟨w,y,A⟩:=AJ f j
 grind [nR,au]
theorem GS(j:pT sp la)(a:Int):a∈lC sp la↔nX sp la a:=by
 constructor
 ·intro h
  unfold lC mR at h;obtain⟨n,o,rfl⟩:=O5.1 h;have c:=(X5.1 o).2;unfold l8 at c;simp only[I0,X8,C0]at c;obtain⟨b,d⟩:=c;rcases nR j (n:Int) with⟨i,g,k,f⟩|⟨-,⟨i,g,-,f⟩|⟨-,f⟩⟩
  ·rw[f]at d b
   simp only[pu]at d b;refine .inl ⟨_,au g,⟨k.1,k.2,b,?_⟩,.inl ω⟩;cases e:bf (nth sp i).a9 (((n:Int) - 16*(nth sp i).R) / csz (nth sp i).d) with
   | true=>rfl
   | false=>rw[e]at d;simp at d
  ·rw[f]at b
   simp only at b;exact .inr ⟨_,au g,ω⟩
  grind
 rintro(⟨s,q,⟨r,c,t,u⟩,-⟩|⟨l,p,rfl⟩)
 ·grind [aR,iX,xY,pu]
 obtain⟨w,y,A⟩:=AJ j p
 grind [nR,au,xY]
def RH(xs:List aB)(p:Int):Prop:=∃r∈xs,r.At<=p/\p<r.At+r.a8
theorem gN : bG pages xs=true↔ku xs/\(∀y∈xs,0<=y.At/\1<=y.a8/\y.At+y.a8<=pages)/\1<=pages/\pages<=32:=by
 constructor
 ·grind [tQ,bG]
 rintro⟨b,c,d⟩
 unfold bG;simp only[I0,C0];refine⟨cI.2 λi a=>?_,d⟩;have f:=c _ (au a);unfold ig rangeIn;simp only[I0,C0];refine⟨ω,?_⟩;by_cases e:i=0
 ·exact .inl e
 right
 have:=List.pairwise_iff_getElem.1 b.1 (i - 1) i ω a ω
 rwa [<-bq (C3 (show i - 1<xs.length by omega)),<-bq (C3 a)]at this
theorem Hg(h:bG pages xs=true)(p:Int):xs.any (xw p)=true↔RH xs p:=by
 obtain⟨-,c,d⟩:=gN.1 h;rw[t5];refine⟨λ⟨r,a,b⟩=>⟨r,a,?_⟩,λ⟨r,a,b⟩=>⟨r,a,?_⟩⟩
 all_goals grind [fJ,xw]
theorem xX(i:Int):∀(f:List aB)(r:aB)(out:List aB),ku f->1<=r.a8->(∀y∈f,ovl y r=false)->(∀z∈out,z.At+z.a8<r.At/\∀y∈f,z.At+z.a8<y.At)->ku out->(∀y∈r::(out++f),0<=y.At/\y.At+y.a8<=i)->∃o,jS f r out false=some o/\ku o/\(∀y∈o,0<=y.At/\y.At+y.a8<=i)/\∀p,RH o p↔RH out p\/RH f p\/(r.At<=p/\p<r.At+r.a8)
 | [],r,out,_,l,_,D,g,j=>by
  refine⟨out++[r],by simp[jS],⟨List.pairwise_append.2 ⟨g.1,List.pairwise_singleton ..,ψ⟩,λy k=>?_⟩,ψ,λp=>by grind [RH]⟩;rcases t4.1 k with k|k
  ·exact g.2 y k
  grind
 | y::f,r,out,c,l,E,D,g,j=>by
  have M:=c.2 y ψ;have h:=E y ψ;have F:=c.head;have G:=j y (by simp);have H:=j r (by simp);have J:∀w∈f,¬(w.At<r.At+r.a8/\r.At<w.At+w.a8):=λw d=>by grind [ovl]
  have K:∀w∈f,1<=w.a8:=λw d=>c.2 w ψ
  rw[vz,CC (by rw[h];simp)];unfold ovl at h;rw[C6]at h;by_cases n:y.At+y.a8=r.At
  ·rw[CE n]
   obtain⟨o,q,t,u,A⟩:=xX i f ⟨y.At,y.a8+r.a8⟩ out c.tail (by simp only;omega) (λw d=>by grind [ovl]) ψ g ψ
   grind [RH]
  rw[CC n];by_cases B:r.At+r.a8=y.At
  ·rw[CE B]
   obtain⟨o,q,t,u,A⟩:=xX i f ⟨r.At,r.a8+y.a8⟩ out c.tail (by simp only;omega) (λw d=>by grind [ovl]) ψ g ψ
   grind [RH]
  rw[CC B];by_cases C:y.At > r.At
  ·have L:r.At+r.a8<y.At:=ω
   rw[CE ⟨C,rfl⟩,ru c.tail l ψ];refine⟨_,rfl,⟨?_,λw d=>?_⟩,ψ,λp=>by grind [RH]⟩
   ·rw[Y7]
    refine List.pairwise_append.2 ⟨g.1,?_,λa N b j=>?_⟩
    ·show(r::y::f).Pairwise _
     refine List.pairwise_cons.2 ⟨λw d=>?_,c.1⟩
     grind
    grind
   simp only[t4,List.mem_cons,List.not_mem_nil,or_false]at d;rcases d with(d|rfl|rfl)|d
   ·exact g.2 w d
   all_goals grind
  rw[CC λe=>C e.1];obtain⟨o,q,t,u,A⟩:=xX i f r (out++[y]) c.tail l ψ ψ ⟨List.pairwise_append.2 ⟨g.1,List.pairwise_singleton ..,ψ⟩,λw d=>by
      rcases t4.1 d with d|d
      · exact g.2 w d
      grind⟩ ψ
  grind [RH]
theorem xm{r:aB}(h:bG pages xs=true)(i:0<=r.At/\1<=r.a8/\r.At+r.a8<=pages)(c:∀p,r.At<=p->p<r.At+r.a8->¬RH xs p):∃o,cB pages xs r=some o/\bG pages o=true/\∀p,RH o p↔RH xs p\/(r.At<=p/\p<r.At+r.a8):=by
 obtain⟨j,k,l⟩:=gN.1 h;have b:rangeIn pages r=true:=by grind [rangeIn]
 unfold cB;rw[CE ⟨h,b⟩];obtain⟨o,n,d,f,q⟩:=xX pages xs r [] j i.2.1 (λy a=>by
   have:=k y a;unfold ovl;rw[C6];intro g;by_cases e:r.At<=y.At
   · exact c y.At e g.1 ⟨y,a,ω,ω⟩
   exact c r.At ω ω ⟨y,a,ω,g.2⟩) ψ ⟨List.Pairwise.nil,ψ⟩ ψ
 refine⟨o,n,gN.2 ⟨d,λy a=>⟨(f y a).1,d.2 y a,(f y a).2⟩,l⟩,λp=>?_⟩
 grind [RH]
structure Pg(t:aM)(fr:List aB)(sp:List aA)(la:List aE):Prop where
 one:∀l∈la,∀p:Nat,(p:Int)∈lpgs l l.a4.toNat->∀q:Nat,q<t.K.length->(nth t.K q).j≠0->(nth t.K q).e=(nth t.K p).e->q=p
 bnd:∀p∈pgs sp la,p<t.K.length
 own:∀p:Nat,p<t.K.length->((nth t.K p).j≠0↔(p:Int)∈pgs sp la)
 fre:∀p:Nat,p<t.K.length->((nth t.K p).j≠0↔¬RH fr p)
 mesh:∀s∈sp,∀u∈sp,s.R≠u.R->(nth t.K s.R.toNat).e=(nth t.K u.R.toNat).e->meshable s u=true
structure bc(h:ac)(E:List Int):Prop where
 ker:aD h.F=true
 rng:bG (fo h) h.o=true
 lay:bx h.J h.M=true
 srs:h.J.Pairwise λa b=>a.R<b.R
 srl:h.M.Pairwise λa b=>a.R<b.R
 pg:Pg (tbl h) h.o h.J h.M
 mail:bT h.w=true
 nc:h.S.length=h.w.V.length
 quar:ia h.a7=true
 snc:∀x∈h.a7.a6,x.b7<=h.b2
 cach:∀c∈h.S,bD c=true
 nums:cx h=true
 osr:h.O.Pairwise λa b=>a.Addr<b.Addr
 onu:∀o∈h.O,1<=o.Id/\o.Id<=h.b - 1/\0<=o.a5/\o.a5<=h.S.length - 1
 oid:(h.O.map (·.Id)).Nodup
 oow:∀o∈h.O,Tj h.J h.M o
 hca:∀c∈h.S,∀k:Nat,k<c.Z.length->∀a∈nth c.Z k,jZ h.J a k
 hqu:∀x∈h.a7.a6,jZ h.J x.Addr x.d
 hfl:∀a∈aV h.w,jZ h.J a (-1)
 hin:∀a∈E,jZ h.J a (-1)
 nd:(E++holders h).Nodup
 mem:∀a,a∈E++holders h↔nX h.J h.M a
 job:h.q=true->jX h.Y=true/\(∃s∈h.J,s.R=h.Y.X.a3)/\∃s∈h.J,s.R=h.Y.X.a0
 noj:h.q=false->rZ h.Y=true
variable{E:List Int}
theorem bc.L(a:bc h E):pT h.J h.M:=pT.of a.lay
theorem B7(t:aM)(f:Int):(pagesOn t f).Nodup:=by grind [List.nodup_range,pagesOn,lh]
def Us{l:List Int}(b:l.Nodup)(d:a∈l)(c:∀x∈l,x=a):l.length=1:=by
 match l with
 | []=>cases d
 | [_]=>rfl
 | x::y::r=>
  exfalso;have e:=c x (by simp);have f:=c y (by simp);rw[e,f]at b;simp at b
theorem dO(a:s∈sp):s.R∈pgs sp la:=by grind [pgs]
theorem gR(a:l∈la)(b:p∈lpgs l l.a4.toNat):p∈pgs sp la:=by grind [pgs]
theorem Wx(b:bx h.J h.M=true)(N:bG (fo h) h.o=true)(A:pages0 h=true)(r:qV h=true):Pg (tbl h) h.o h.J h.M:=by
 have B:=pT.of b;obtain⟨C,D,t⟩:=tX A;have E:∀p:Nat,p<fo h->((nth (tbl h).K p).j≠0↔¬RH h.o p):=λp a=>by grind [fG,Hg,pages0,xx]
 refine⟨λl w p c q F e f=>?_,D,t,E,λs G u H J O=>?_⟩
 ·obtain⟨i,y,rfl⟩:=aR w
  obtain⟨k,g,n⟩:=dK.1 c;have a:p<fo h:=by grind [gR]
  have d:=(t p a).2 (gR w c);have K:=C i y k g;rw[<-n,gk a d]at K;have P:(p:Int)∈pagesOn (tbl h) (nth (tbl h).K p).e:=fp.2 ⟨a,d,rfl⟩;have Q:(q:Int)∈pagesOn (tbl h) (nth (tbl h).K p).e:=fp.2 ⟨F,e,f⟩
  grind [List.length_eq_one_iff]
 obtain⟨i,y,rfl⟩:=aR G;obtain⟨j,R,rfl⟩:=aR H;have L:∀k,k<h.J.length->af (tbl h) (nth h.J k).R=nth (tbl h).K (nth h.J k).R.toNat:=λk g=>by
  have S:=aI (B.sok _ (au g))
  grind [dO,E3,nth]
 unfold qV at r;rw[cI]at r;rcases Nat.lt_trichotomy i j with o|M|o
 all_goals grind [fG,iH,ns]
theorem DT(sp:List aA):dv sp.length (yr sp)=true↔sp.Pairwise λa b=>a.R<b.R:=by
 rw[cI];refine Iff.trans ?_ (xR (λa b:Int=>a<b) ω (λs:aA=>s.R) sp)
 grind [yr]
theorem Dk(la:List aE):dv la.length (zw la)=true↔la.Pairwise λa b=>a.R<b.R:=by
 rw[cI];refine Iff.trans ?_ (xR (λa b:Int=>a<b) ω (λs:aE=>s.R) la)
 grind [zw]
theorem Ws(o:bx h.J h.M=true)(C:bG (fo h) h.o=true)(h1:h.J.Pairwise λa b=>a.R<b.R)(A:h.M.Pairwise λa b=>a.R<b.R)(c:Pg (tbl h) h.o h.J h.M):pages0 h=true/\qV h=true:=by
 have u:=pT.of o;constructor
 ·unfold pages0
  simp only[I0];refine⟨⟨⟨(DT _).2 h1,cI.2 λi l=>?_⟩,v5.2 λp n=>O0 (c.bnd p n)⟩,cI.2 λp n=>?_⟩
  ·unfold vq
   rw[I0];refine⟨fG ((Dk _).2 A) l,cI.2 λk w=>?_⟩;have y:=au l;have D:=aW (u.lok _ y);obtain⟨p,n⟩ : ∃p:Nat,(nth h.M i).R+(k:Nat)=(p:Nat):=⟨((nth h.M i).R+k).toNat,ω⟩
   have q:(p:Int)∈lpgs (nth h.M i) (nth h.M i).a4.toNat:=dK.2 ψ;have d:p<fo h:=by have:=c.bnd _ (gR (sp:=h.J) y q);exact Int.ofNat_lt.1 this
   have r:=(c.own p d).2 (gR y q);unfold Bb;rw[C0,n,gk d r];refine Us (B7 ..) (fp.2 ⟨d,r,rfl⟩) λx E=>?_
   grind [xp,fp,Pg.one]
  unfold xx;rw[I0,C0];refine⟨c.own p n,?_⟩;have F:=c.fre p n
  grind [Hg]
 unfold qV;refine cI.2 λi l=>cI.2 λj G=>?_
 have g:j<h.J.length:=ω
 have t:∀k,k<h.J.length->af (tbl h) (nth h.J k).R=nth (tbl h).K (nth h.J k).R.toNat:=λk w=>by
  have H:=aI (u.sok _ (au w));have J:=c.bnd _ (dO (la:=h.M) (au w))
  grind [E3,fo,tbl]
 unfold ns;rw[t i l,t j g,X8,C0];by_cases e:(nth (tbl h).K (nth h.J i).R.toNat).e=(nth (tbl h).K (nth h.J j).R.toNat).e
 ·refine .inr (c.mesh _ (au l) _ (au g) (λB=>?_) e)
  have:=cX (f:=(·.R)) u.nd l g B;omega
 exact .inl e
theorem JN(c:cx h=true)(d:pT h.J h.M):gH h=true↔(h.O.Pairwise λa b=>a.Addr<b.Addr)/\(∀o∈h.O,1<=o.Id/\o.Id<=h.b - 1/\0<=o.a5/\o.a5<=h.S.length - 1)/\(h.O.map (·.Id)).Nodup/\∀o∈h.O,Tj h.J h.M o:=by
 unfold cx at c;rw[C0]at c;refine Iff.trans ?_ (and_congr (xR (λa b:Int=>a<b) ω (λo:bu=>o.Addr) h.O) (and_congr Iff.rfl (and_congr (DZ (λo:bu=>o.Id) h.O) Iff.rfl)));unfold gH;rw[fJ ω ω,cI];have e:∀i,i<h.O.length->(objAt (h.b - 1) h i=true↔(i=0\/(nth h.O (i - 1)).Addr<(nth h.O i).Addr)/\(1<=(nth h.O i).Id/\(nth h.O i).Id<=h.b - 1/\0<=(nth h.O i).a5/\(nth h.O i).a5<=h.S.length - 1)/\(∀o∈h.O.take i,o.Id≠(nth h.O i).Id)/\Tj h.J h.M (nth h.O i)):=λi f=>by grind [RB,objAt,iI,fL]
 grind [aR,au]
def zS(b:pT h.J h.M):kI h=true↔(∀c∈h.S,∀k:Nat,k<c.Z.length->∀a∈nth c.Z k,jZ h.J a k)/\(∀x∈h.a7.a6,jZ h.J x.Addr x.d)/\∀a∈aV h.w,jZ h.J a (-1):=by
 rw[qM];simp only[v5,fT,cI,tT,iP,lH,Rj b,and_assoc]
theorem LR : 0<=ir h p↔∃s∈h.J,s.R=p:=by grind [ir,cV,n7]
theorem bc.of(g:dh h=true):bc h []:=by
 unfold dh mb at g;simp only[I0]at g;obtain⟨⟨⟨⟨⟨⟨⟨⟨⟨⟨r,l⟩,e⟩,j⟩,n⟩,c⟩,t⟩,H⟩,o⟩,k,b⟩,d⟩:=g;have p:=pT.of e;rw[w7 e j]at n;have f:=j;unfold pages0 at f;simp only[I0]at f;unfold dQ at c;simp only[I0,C0]at c;unfold lr at b;simp only[I0,C0]at b;obtain⟨⟨u,w⟩,J⟩:=b;obtain⟨y,A,B,C⟩:=(JN o p).1 k;obtain⟨D,E,F⟩:=(zS p).1 u;unfold nh at t;have G:=cI.1 f.1.1.2;refine⟨r,l,e,(DT _).1 f.1.1.1,(Dk _).1 (cI.2 λi K=>?_),Wx e l j n,c.1.1,c.1.2,c.2,ψ,ψ,o,y,A,B,C,D,E,F,ψ,(by simpa using w),λa=>?_,λq=>?_,λq=>?_⟩
 ·grind [vq]
 ·grind [GS,vj,sU]
 ·unfold uh at d
  rw[CE q]at d
  grind [LR]
 grind [uh]
theorem bc.to(b:bc h []):dh h=true:=by
 have c:=b.L;obtain⟨e,g⟩:=Ws b.lay b.rng b.srs b.srl b.pg;have d:=(JN b.nums c).2 ⟨b.osr,b.onu,b.oid,b.oow⟩;have f:=(zS c).2 ⟨b.hca,b.hqu,b.hfl⟩;unfold dh mb;simp only[I0];refine⟨⟨⟨⟨⟨⟨⟨⟨⟨⟨b.ker,b.rng⟩,b.lay⟩,e⟩,by grind [w7,bc.lay]⟩,?_⟩,?_⟩,v5.2 b.cach⟩,b.nums⟩,d,?_⟩,?_⟩
 ·grind [bc.mail,bc.quar,bc.nc,dQ]
 ·grind [bc.snc,nh]
 ·unfold lr
  have i:(holders h).Nodup:=by simpa using b.nd
  have j:∀a,a∈holders h↔a∈lC h.J h.M:=λa=>by rw[GS c,<-b.mem a];simp
  grind [wO,List.Perm.length_eq]
 grind [bc.job,LR,bc.noj,uh]
def dele(xs:List α)(i:Nat):List α:=xs.take i++xs.drop (i+1)
theorem fD(xs:List α)(i:Nat):(dele xs i).Sublist xs:=by
 unfold dele;rw[<-List.eraseIdx_eq_take_drop_succ];grind
theorem DA[Inhabited α]{xs:List α}(a:i<xs.length):xs.Perm (nth xs i::dele xs i):=by
 have:xs=xs.take i++nth xs i::xs.drop (i+1):=by grind [iT,List.take_append_drop]
 conv=>lhs;rw[this]
 exact List.perm_middle
theorem jI{α:Type}[Inhabited α](f:α->List Int)(a:Int):∀(xs:List α)(i:Nat)(y:α),i<xs.length->((xs.set i y).flatMap f).count a+(f (nth xs i)).count a=(xs.flatMap f).count a+(f y).count a
 | [],i,_,h=>by cases h
 | x::xs,0,y,_=>by
  show((y::xs).flatMap f).count a+(f x).count a=((x::xs).flatMap f).count a+(f y).count a
  grind
 | x::xs,i+1,y,h=>by
  have:=jI f a xs i y (by simpa using h);show((x::xs.set i y).flatMap f).count a+(f (nth xs i)).count a=((x::xs).flatMap f).count a+(f y).count a
  grind
theorem mG(a:List (List Int)):a.flatten=a.flatMap λx=>x:=by simp_all
theorem jZ.any(h:jZ sp a c):jZ sp a (-1):=by
 obtain⟨s,b,d,-⟩:=h;exact⟨s,b,d,.inl (by decide)⟩
def bc.cells(a:bc h E)(c:aD k=true)(b:k.G.Q=h.F.G.Q):bc {h with F:=k} E:=
 {a with
   ker:=c
   rng:=by show bG ((k.G.Q.K.length:Nat):Int) h.o=true;rw[b];exact a.rng
   pg:=by show Pg k.G.Q h.o h.J h.M;rw[b];exact a.pg}
theorem bc.dropO(b:bc h E)(e:i<h.O.length)(j:jZ h.J (nth h.O i).Addr (-1)):bc {h with O:=dele h.O i} ((nth h.O i).Addr::E):=by
 have f:(E++holders h).Perm (((nth h.O i).Addr::E)++holders {h with O:=dele h.O i}):=by
  have g:=(DA e).map (·.Addr);refine List.perm_iff_count.2 λa=>?_
  have k:=g.count_eq a
  grind [holders,cQ]
 have c:(dele h.O i).Sublist h.O:=fD ..;exact {b with
   osr:=b.osr.sublist c
   onu:=λo d=>b.onu o (c.subset d)
   oid:=b.oid.sublist (c.map _)
   oow:=λo d=>b.oow o (c.subset d)
   hin:=λa l=>by grind [bc.hin]
   nd:=f.nodup_iff.1 b.nd
   mem:=λa=>by grind [bc.mem]}
def qn(c:aF)(k:Nat)(a:Int):aF:=⟨c.Z.set k (nth c.Z k++[a])⟩
theorem bc.put{t k:Nat}(e:bc h (a::E))(f:t<h.S.length)(g:k<(nth h.S t).Z.length)(p:jZ h.J a k)(q:bD (qn (nth h.S t) k a)=true):bc {h with S:=h.S.set t (qn (nth h.S t) k a)} E:=by
 have i:(a::E++holders h).Perm (E++holders {h with S:=h.S.set t (qn (nth h.S t) k a)}):=by
  refine List.perm_iff_count.2 λb=>?_
  have r:=jI (λc:aF=>c.Z.flatten) b h.S t (qn (nth h.S t) k a) f;have l:=jI (λx:List Int=>x) b (nth h.S t).Z k (nth (nth h.S t).Z k++[a]) g;rw[<-mG,<-mG]at l
  grind [qn,holders,cQ]
 exact {e with
   nc:=by grind [bc.nc]
   cach:=λc d=>by grind [bc.cach]
   onu:=by show ∀o∈h.O,1<=o.Id/\o.Id<=h.b - 1/\0<=o.a5/\o.a5<=(h.S.set t _).length - 1;rw[I2];exact e.onu
   hca:=λc d j u b n=>by
     rcases Z8 d with d|rfl
     all_goals grind [bc.hca,bB,au,qn]
   hin:=λb n=>e.hin b ψ
   nd:=i.nodup_iff.1 e.nd
   mem:=λb=>by grind [bc.mem]}
theorem bc.toQuar{x:aT}{q:bS}{out:List aT}(c:bc h (x.Addr::E))(f:ia q=true)(d:h.a7.a6++[x]=out++q.a6)(j:x.b7<=h.b2)(k:jZ h.J x.Addr x.d):bc {h with a7:=q} (out.map (·.Addr)++E):=by
 have e:∀y∈out++q.a6,y.b7<=h.b2/\jZ h.J y.Addr y.d:=λy a=>by
  rw[<-d]at a;rcases t4.1 a with a|a
  ·exact⟨c.snc y a,c.hqu y a⟩
  grind
 have g:(x.Addr::E++holders h).Perm ((out.map (·.Addr)++E)++holders {h with a7:=q}):=by
  refine List.perm_iff_count.2 λb=>?_
  have i:=C1 (λl:List aT=>(l.map (·.Addr)).count b) d;simp only[Z7,O8,I8,List.map_nil,List.count_singleton]at i
  grind [holders,cQ]
 exact {c with
   quar:=f
   snc:=(ψ)
   hqu:=(ψ)
   hin:=λb n=>by grind [jZ.any,bc.hin]
   nd:=g.nodup_iff.1 c.nd
   mem:=λb=>by grind [bc.mem]}
def yz(b i:Int):Int:=((BitVec.ofInt IntKind.i64.bits b &&& ~~~BitVec.ofInt IntKind.i64.bits (2 ^ i.toNat)).toNat:Nat)
def ly(s:aA)(i:Int):aA:={s with a9:=yz s.a9 i}
theorem fw(b i:Int):bf b i=true↔0<=b/\0<=i/\i<=15/\b.toNat.testBit i.toNat=true:=by grind [bf]
variable{b:Int}
theorem Hm{i:Int}(d:0<=b/\b<=65535)(a:0<=i/\i<=15)(j:Nat):(yz b i).toNat.testBit j=(b.toNat.testBit j&&decide (i.toNat≠j)):=by
 have e:(2:Int) ^ i.toNat<=32768/\0<=(2:Int) ^ i.toNat:=by
  obtain⟨n,rfl⟩:=Z3 a.1;rw[Y3];have:(2:Nat) ^ n<=2 ^ 15:=Nat.pow_le_pow_right (by decide) ω
  grind
 unfold yz;rw[Y3,BitVec.testBit_toNat,BitVec.getLsbD_and,BitVec.getLsbD_not,<-BitVec.testBit_toNat,<-BitVec.testBit_toNat,rD ω,rD ω];rw[show((2:Int) ^ i.toNat).toNat=2 ^ i.toNat by rw[show(2:Int) ^ i.toNat=((2 ^ i.toNat:Nat):Int) by norm_cast,Y3],Nat.testBit_two_pow];by_cases c:j<64
 ·rw[show decide (j<IntKind.i64.bits)=true from O0 c,Bool.true_and]
  grind
 rw[Nat.testBit_lt_two_pow (x:=b.toNat) (i:=j) (Z4 (show b.toNat<2 ^ 16 by omega) (Nat.pow_le_pow_right (by decide) ω))]
 rfl
theorem E7{i:Int}(a:0<=b/\b<=65535):0<=yz b i/\yz b i<=b:=by grind [rD,Nat.and_le_left,yz]
theorem J0{i:Int}(a:0<=b/\b<=65535)(c:0<=i/\i<=15)(j:Int):bf (yz b i) j=true↔bf b j=true/\j≠i:=by grind [fw,Hm,E7]
theorem dU(h:bh s=true):0<=s.a9/\s.a9<=65535:=by
 unfold bh at h;simp only[C0]at h;have:=K9 s.d;omega
theorem Mh(h:bh s=true)(i:Int):bh (ly s i)=true:=by
 have b:=dU h;have a:=E7 (i:=i) b;unfold bh at h;rw[C0]at h;obtain⟨c,d,e,f,j,g⟩:=h;exact O0 ⟨c,d,e,f,a.1,X6 a.2 g⟩
theorem DX{u:aA}(e:bh s=true){i:Int}(f:0<=i/\i<=15)(h:meshable s u=true):meshable (ly s i) u=true:=by
 unfold meshable at h |-;simp only[I0,C0]at h |-;obtain⟨⟨a,b⟩,c,d,g⟩:=h;refine⟨⟨Mh a i,b⟩,c,d,?_⟩;refine Nat.eq_of_testBit_eq λj=>?_
 grind [Hm,dU,ly]
def cT(s:aA)(a:Int):Int:=(a - 16*s.R) / csz s.d
theorem r9(h:bh s=true)(b:16*s.R<=a/\a<=16*s.R+15):0<=cT s a/\cT s a<=15:=by
 have c:=aI h
 grind [cg,cT]
theorem yI(h:bh s=true)(c:(a - 16*s.R) % csz s.d=0)(d:(b - 16*s.R) % csz s.d=0)(e:cT s a=cT s b):a=b:=by
 have f:=aI h
 grind [cg,cT]
theorem E0(h:bh s=true)(k:eS s a)(b:Int):eS (ly s (cT s a)) b↔eS s b/\b≠a:=by
 obtain⟨l,n,o,p⟩:=k;have c:=r9 h ⟨l,n⟩;unfold eS;simp only[ly];rw[J0 (dU h) c];constructor
 ·rintro⟨g,i,d,j,f⟩
  exact⟨ψ,λe=>f (by rw[e];rfl)⟩
 rintro⟨⟨g,i,d,j⟩,f⟩
 exact⟨g,i,d,j,λe=>f (yI h d o e)⟩
theorem eL[Inhabited α]{xs:List α}{y z:α}(h:z∈xs.set i y):z=y\/∃j,j<xs.length/\j≠i/\nth xs j=z:=by
 obtain⟨j,a,rfl⟩:=List.mem_iff_getElem.1 h;rw[List.getElem_set];by_cases e:i=j
 ·subst e;simp
 rw[CC e];rw[I2]at a;exact .inr ⟨j,a,λx=>e x.symm,bq ψ⟩
theorem kW[Inhabited α]{xs:List α}(y:α)(a:j<xs.length)(e:j≠i):nth xs j∈xs.set i y:=by
 have:nth (xs.set i y) j=nth xs j:=by grind [bB]
 grind [au]
theorem jD{xs:List α}(y:α)(a:i<xs.length):y∈xs.set i y:=by grind [List.mem_iff_getElem]
def Rd(k:Int)(a:i<sp.length):(sp.set i (ly (nth sp i) k)).map (·.R)=sp.map (·.R):=by
 rw[S8];refine List.ext_getElem (by simp) λj b c=>?_
 rw[List.getElem_set];split
 ·rename_i e;subst e
  rw[List.getElem_map];show(nth sp i).R=_;rw[bq (C3 a)]
 rfl
def jZ.set(q:pT sp la)(k:i<sp.length)(l:eS (nth sp i) a)(b c:Int):jZ (sp.set i (ly (nth sp i) (cT (nth sp i) a))) b c↔jZ sp b c/\b≠a:=by
 have g:=q.sok _ (au k);constructor
 ·rintro⟨s,o,d,h⟩
  rcases eL o with rfl|⟨j,n,r,rfl⟩
  ·have:=(E0 g l b).1 d
   exact⟨⟨_,au k,this.1,h⟩,this.2⟩
  refine⟨⟨_,au n,d,h⟩,λe=>?_⟩;subst e;have:=cX (f:=(·.R)) q.nd k n (by have t:=l.1;have u:=l.2.1;have w:=d.1;have y:=d.2.1;omega);omega
 rintro⟨⟨s,o,d,h⟩,p⟩
 obtain⟨j,n,rfl⟩:=aR o;by_cases e:j=i
 ·subst e
  exact⟨_,jD _ k,(E0 g l b).2 ⟨d,p⟩,h⟩
 exact⟨_,kW _ n e,d,h⟩
theorem bc.give(d:bc h (a::E))(t:i<h.J.length)(w:eS (nth h.J i) a):bc {h with J:=h.J.set i (ly (nth h.J i) (cT (nth h.J i) a))} E:=by
 have B:=d.L;have G:=B.sok _ (au t);have O:=r9 G ⟨w.1,w.2.1⟩;have f:=λb c=>jZ.set B t w b c
 have H:=Rd (cT (nth h.J i) a) t;generalize J:h.J.set i (ly (nth h.J i) (cT (nth h.J i) a))=sp at f H;have p:pgs sp h.M=pgs h.J h.M:=by grind [pgs]
 have g:=d.nd;rw[List.cons_append]at g;obtain⟨P,g⟩:=List.nodup_cons.1 g;have y:∀b,b∈E++holders h->b≠a:=ψ
 have n:∀b,b∈holders h->b≠a:=ψ
 have Q:∀l∈h.M,16*l.R≠a:=λl R e=>(AJ B R).1 _ (au t) (by have a1:=w.1;have a2:=w.2.1;omega)
 have q:∀s∈sp,∃u∈h.J,u.R=s.R/\(s=u\/s=ly u (cT (nth h.J i) a)):=λs r=>by
  rw[<-J]at r;rcases eL r with rfl|⟨j,hj,S,rfl⟩
  ·exact⟨_,au t,rfl,.inr rfl⟩
  grind [au]
 have T:∀u∈h.J,∃s∈sp,s.R=u.R:=λu C=>by
  have:u.R∈sp.map (·.R):=ψ
  grind
 exact {d with
   lay:=by grind [bc.lay,Mh,bx]
   srs:=by
     have A:(h.J.map (·.R)).Pairwise (λa b=>a<b):=List.pairwise_map.2 d.srs
     grind
   pg:=⟨d.pg.one,by rw[p];exact d.pg.bnd,by rw[p];exact d.pg.own,d.pg.fre,λs r u C y U=>by
     obtain⟨V,K,W,X⟩:=q s r;obtain⟨Y,M,Z,hu2⟩:=q u C;have A:=d.pg.mesh V K Y M ω (by rw[W,Z];exact U)
     grind [DX,pT.sok,iH]⟩
   oow:=λo ho=>by
     have N:o.Addr≠a:=n _ (by grind [holders]);rcases d.oow o ho with⟨s,r,A,h2⟩|A
     · obtain⟨u,C,g1,D⟩:=(f o.Addr (aL o.y)).2 ⟨⟨s,r,A,.inr h2⟩,N⟩
       refine .inl ⟨u,C,g1,?_⟩;rcases D with D|D
       · have:=aI (B.sok _ r);omega
       exact D
     exact .inr A
   hca:=λc hc k hk b F=>(f b k).2 ⟨d.hca c hc k hk b F,n b (by
     unfold holders cQ;grind [List.mem_flatten,au])⟩
   hqu:=λx hx=>(f _ _).2 ⟨d.hqu x hx,n _ (by grind [holders])⟩
   hfl:=λb F=>(f _ _).2 ⟨d.hfl b F,n _ (by grind [holders])⟩
   hin:=λb F=>(f _ _).2 ⟨d.hin b ψ,y b ψ⟩
   nd:=g
   mem:=λb=>by
     show b∈E++holders h↔nX sp h.M b
     grind [bc.mem,nX]
   job:=λhm=>by grind [bc.job]}
def unmN(k:ah)(p:Int):Nat->ah
 | 0=>k
 | n+1=>co (unmN k p n) (p+n)
def io{k:ah}(h:aD k=true)(p:Int):∀n,aD (unmN k p n)=true
 | 0=>h
 | n+1=>yt _ (io h p n)
theorem eZ(k:ah)(p:Int):∀n,(unmN k p n).G.Q.K.length=k.G.Q.K.length/\(unmN k p n).Calls=k.Calls/\(unmN k p n).u=k.u
 | 0=>⟨rfl,rfl,rfl⟩
 | n+1=>by
  obtain⟨a,b,c⟩:=eZ k p n;obtain⟨d,e,f⟩:=kv (unmN k p n) (p+n);exact⟨d.trans a,e.trans b,f.trans c⟩
theorem sR(h:aD k=true)(g:0<=p/\p<k.G.Q.K.length)(q:Nat):nth (co k p).G.Q.K q=if(q:Int)=p then⟨0,0⟩ else nth k.G.Q.K q:=by
 have c:af k.G.Q p=nth k.G.Q.K p.toNat:=by grind [af]
 unfold co;split
 ·rename_i a
  split
  ·rename_i i
   rw[c]at a;have b:=(bo.1 (aC.1 h).2.2.1).1 p.toNat ω;unfold lD at b;rw[C0]at b;have d:=b.2.2.1 a;rw[show q=p.toNat by omega];generalize nth k.G.Q.K p.toNat=e at a d;obtain⟨m,f⟩:=e
   grind
  rfl
 grind [oq,bB,lI]
theorem nZ{k:ah}(h:aD k=true){p:Int}(a:0<=p):∀n:Nat,p+n<=k.G.Q.K.length->∀q:Nat,nth (unmN k p n).G.Q.K q=if p<=q/\(q:Int)<p+n then⟨0,0⟩ else nth k.G.Q.K q
 | 0,_,q=>by rw[CC ω];rfl
 | n+1,b,q=>by
  have c:=nZ h a n ω q;have d:=sR (io h p n) (p:=p+n) ⟨ω,by grind [eZ]⟩ q;show nth (co (unmN k p n) (p+n)).G.Q.K q=_
  grind
theorem GV(f:α->List β){xs b:List α}(h:xs.Sublist b):(xs.flatMap f).Sublist (b.flatMap f):=by
 induction h with
 | slnil=>grind
 | cons a _ c=>grind
 | cons_cons a _ c=>grind
theorem yk(c:bc h E)(Y:1<=n)(w:sp.Sublist h.J)(D:la.Sublist h.M)(j:∀q:Int,p<=q->q<p+n->q∈pgs h.J h.M)(K:0<=p)(F:∀q,q∈pgs sp la↔q∈pgs h.J h.M/\¬(p<=q/\q<p+n)) :
  ∃o,cB (fo h) h.o ⟨p,n⟩ = some o/\aD (unmN h.F p n)=true/\bG ((unmN h.F p n).G.Q.K.length:Nat) o=true/\bx sp la=true/\Pg (unmN h.F p n).G.Q o sp la:=by
 have t:=c.pg.bnd _ (j (p+n - 1) ω ω);have a:=(eZ h.F p n).1;have y:p+n<=h.F.G.Q.K.length:=by unfold tbl at t;omega
 have g:=nZ c.ker K n y;obtain⟨o,Q,R,S⟩:=xm (r:=⟨p,n⟩) c.rng ⟨K,by simp only;omega,y⟩ λq M N=>by
  simp only at M N;obtain⟨m,rfl⟩:=Z3 (show 0<=q by omega);have A:m<(tbl h).K.length:=by unfold tbl;omega
  exact(c.pg.fre m A).1 ((c.pg.own m A).2 (j _ M N))
 refine⟨o,Q,io c.ker p n,by rw[a];exact R,?_,?_⟩
 ·obtain⟨T,U,V⟩:=eQ c.lay
  unfold bx;simp only[I0,C0];exact⟨⟨v5.2 λs d=>v5.1 T s (w.subset d),v5.2 λl d=>v5.1 U l (D.subset d)⟩,V.sublist ((w.map _).append (GV _ D))⟩
 have i:∀q:Nat,(q:Int)∈pgs sp la->nth (unmN h.F p n).G.Q.K q=nth (tbl h).K q:=λq f=>by rw[g,CC ((F q).1 f).2];rfl
 have b:∀q:Nat,(nth (unmN h.F p n).G.Q.K q).j≠0↔(nth (tbl h).K q).j≠0/\¬(p<=q/\(q:Int)<p+n):=λq=>by
  rw[g];by_cases e:p<=q/\(q:Int)<p+n
  ·rw[CE e];exact⟨λx=>absurd rfl x,λx=>absurd e x.2⟩
  rw[CC e];exact⟨λx=>⟨x,e⟩,λx=>x.1⟩
 refine⟨λl d q f r O G B=>?_,λq f=>?_,λq f=>?_,λq f=>?_,λs d u H J P=>?_⟩
 ·have C:=(b r).1 G
  rw[a]at O;rw[i q (gR d f),g,CC C.2]at B;exact c.pg.one l (D.subset d) q f r O C.1 B
 ·rw[a];exact c.pg.bnd q ((F q).1 f).1
 ·rw[a]at f
  rw[b,F,c.pg.own q f]
 ·rw[a]at f
  rw[b,S,c.pg.fre q f];simp only
  grind
 have k:∀s∈sp,0<=s.R:=λs d=>(aI (c.L.sok s (w.subset d))).1
 have W:=i s.R.toNat (by rw[Int.toNat_of_nonneg (k s d)];exact dO d);have X:=i u.R.toNat (by rw[Int.toNat_of_nonneg (k u H)];exact dO H);rw[W,X]at P;exact c.pg.mesh s (w.subset d) u (w.subset H) J P
theorem dz[Inhabited α]{xs:List α}{k:Nat}{z:α} : z∈dele xs k↔∃j,j<xs.length/\j≠k/\nth xs j=z:=by
 unfold dele;rw[t4];constructor
 ·rintro(h|h)
  ·obtain⟨j,a,rfl⟩:=List.mem_take_iff_getElem.1 h
   exact⟨j,ω,ω,bq ψ⟩
  obtain⟨j,a,rfl⟩:=List.mem_drop_iff_getElem.1 h;exact⟨k+1+j,ω,ω,bq ψ⟩
 rintro⟨j,a,b,rfl⟩
 rw[bq (C3 a)];by_cases e:j<k
 ·grind [List.mem_take_iff_getElem]
 refine .inr (List.mem_drop_iff_getElem.2 ⟨j - (k+1),ω,?_⟩)
 congr 1;omega
theorem rv{q:Int} : q∈pgs sp la↔(∃s∈sp,s.R=q)\/∃l∈la,q∈lpgs l l.a4.toNat:=by grind [pgs]
def xU(h:s.a9=0)(a:Int):¬eS s a:=by
 rintro⟨-,-,-,b⟩
 rw[fw,h]at b;simp at b
theorem bc.giveSpan(d:bc h E)(C:i<h.J.length)(r:(nth h.J i).a9=0)(R:h.q=true->(nth h.J i).R≠h.Y.X.a3/\(nth h.J i).R≠h.Y.X.a0) :
  ∃o,cB (fo h) h.o ⟨(nth h.J i).R,1⟩ = some o/\bc {h with F:=co h.F (nth h.J i).R,J:=dele h.J i,o:=o} E:=by
 have D:=d.L;have y:=aI (D.sok _ (au C));have w:∀q,q∈pgs (dele h.J i) h.M↔q∈pgs h.J h.M/\¬((nth h.J i).R<=q/\q<(nth h.J i).R+(1:Nat)):=λq=>by
  rw[rv,rv];constructor
  ·rintro(⟨s,u,rfl⟩|⟨l,S,T⟩)
   ·obtain⟨j,a,A,rfl⟩:=dz.1 u
    refine⟨.inl ⟨_,au a,rfl⟩,λe=>A (cX (f:=(·.R)) D.nd a C ω)⟩
   grind [dK,pT.dis,au]
  grind [aR,dz]
 obtain⟨o,J,F,G,K,H⟩:=yk d (sp:=dele h.J i) (la:=h.M) (p:=(nth h.J i).R) (n:=1) (v4 _) (fD ..) ψ (λq U V=>by grind [dO,nth]) y.1 w;have M:unmN h.F (nth h.J i).R 1=co h.F (nth h.J i).R:=by show co h.F ((nth h.J i).R+((0:Nat):Int))=_;grind
 rw[M]at F G H;have g:∀b c,jZ (dele h.J i) b c↔jZ h.J b c:=λb c=>by
  constructor
  ·rintro⟨s,u,t⟩;exact⟨s,(fD ..).subset u,t⟩
  rintro⟨s,u,t,B⟩
  obtain⟨j,a,rfl⟩:=aR u;exact⟨_,dz.2 ⟨j,a,λe=>xU r b ψ,rfl⟩,t,B⟩
 refine⟨o,J,{d with
   ker:=F
   rng:=G
   lay:=K
   srs:=d.srs.sublist (fD ..)
   pg:=H
   oow:=λN O=>?_
   hca:=λc y k P b r=>(g b k).2 (d.hca c y k P b r)
   hqu:=λx Q=>(g _ _).2 (d.hqu x Q)
   hfl:=λb r=>(g _ _).2 (d.hfl b r)
   hin:=λb r=>(g _ _).2 (d.hin b r)
   mem:=λb=>(d.mem b).trans ?_
   job:=λW=>?_}⟩
 ·rcases d.oow N O with⟨s,u,t,B⟩|t
  ·obtain⟨j,a,rfl⟩:=aR u
   exact .inl ⟨_,dz.2 ⟨j,a,λe=>xU r _ (by rw[<-e];exact t),rfl⟩,t,B⟩
  exact .inr t
 all_goals grind [bc.job,aR,dz,nX]
theorem bc.dropL{k:Nat}(d:bc h E)(N:i<h.O.length)(w:k<h.M.length)(F:(nth h.O i).Addr=16*(nth h.M k).R) :
  ∃o,cB (fo h) h.o ⟨(nth h.M k).R,(nth h.M k).a4⟩ = some o/\bc {h with F:=unmN h.F (nth h.M k).R (nth h.M k).a4.toNat,M:=dele h.M k,o:=o,O:=dele h.O i} E:=by
 have y:=d.L;have O:=aW (y.lok _ (au w));have A:∀q,q∈pgs h.J (dele h.M k)↔q∈pgs h.J h.M/\¬((nth h.M k).R<=q/\q<(nth h.M k).R+((nth h.M k).a4.toNat:Nat)):=λq=>by
  rw[rv,rv];constructor
  ·rintro(⟨s,C,rfl⟩|⟨l,f,H⟩)
   ·refine⟨.inl ⟨s,C,rfl⟩,λe=>y.dis s C _ (au w) (s.R - (nth h.M k).R).toNat ω ω⟩
   obtain⟨j,c,g,rfl⟩:=dz.1 f;refine⟨.inr ⟨_,au c,H⟩,λe=>?_⟩;obtain⟨m,P,rfl⟩:=dK.1 H;exact g (y.one j k c w m ((nth h.M j).R+(m:Int) - (nth h.M k).R).toNat P ω ω)
  grind [aR,dz,dK]
 obtain⟨o,J,Q,R,S,T⟩:=yk d (sp:=h.J) (la:=dele h.M k) (p:=(nth h.M k).R) (n:=(nth h.M k).a4.toNat) ω ψ (fD ..) (λq Z q2=>gR (au w) (dK.2 ⟨(q - (nth h.M k).R).toNat,ω,ω⟩)) O.2.2.1 A;rw[Int.toNat_of_nonneg ω]at J;have U:(E++holders h).Perm ((nth h.O i).Addr::(E++holders {h with O:=dele h.O i})):=by
  have V:=(DA N).map (·.Addr);refine List.perm_iff_count.2 λa=>?_
  have r:=V.count_eq a
  grind [holders,cQ]
 have t:=U.nodup_iff.1 d.nd;obtain⟨W,t⟩:=List.nodup_cons.1 t;have u:∀b,(b=(nth h.O i).Addr\/b∈E++holders {h with O:=dele h.O i})↔nX h.J h.M b:=λb=>by grind [bc.mem]
 have B:∀b,b∈E++holders {h with O:=dele h.O i}->b≠(nth h.O i).Addr:=ψ
 refine⟨o,J,{d with
   ker:=Q
   rng:=R
   lay:=S
   srl:=d.srl.sublist (fD ..)
   pg:=T
   osr:=d.osr.sublist (fD ..)
   onu:=λD G=>d.onu D ((fD ..).subset G)
   oid:=d.oid.sublist ((fD ..).map _)
   oow:=λD G=>?_
   nd:=t
   mem:=λb=>?_}⟩
 ·rcases d.oow D ((fD ..).subset G) with r|⟨l,f,K,X⟩
  ·exact .inl r
  obtain⟨j,c,rfl⟩:=aR f;refine .inr ⟨_,dz.2 ⟨j,c,λe=>?_,rfl⟩,K,X⟩;subst e;refine B D.Addr (t4.2 (.inr ?_)) (by rw[F];exact K);unfold holders;grind
 constructor
 ·intro M
  rcases(u b).1 (.inr M) with r|⟨l,f,rfl⟩
  ·exact .inl r
  obtain⟨j,c,rfl⟩:=aR f;exact .inr ⟨_,dz.2 ⟨j,c,λe=>B _ M (by rw[F,e]),rfl⟩,rfl⟩
 rintro(r|⟨l,f,rfl⟩)
 ·refine((u b).2 (.inl r)).resolve_left λe=>?_
  obtain⟨s,C,⟨Y,g2,-⟩,-⟩:=r;exact(AJ y (au w)).1 s C ω
 obtain⟨j,c,g,rfl⟩:=dz.1 f;refine((u _).2 (.inr ⟨_,au c,rfl⟩)).resolve_left λe=>g ?_
 have Y:=aW (y.lok _ (au c));rw[F]at e;exact y.one j k c w 0 0 ω ω ω
def fB(h:ac)(p:Int):Bool:=h.q&&(decide (p=h.Y.X.a3) || decide (p=h.Y.X.a0))
def giveP(h:ac)(i:Nat):ac:={h with F:=co h.F (nth h.J i).R,J:=dele h.J i,o:=(cB (fo h) h.o ⟨(nth h.J i).R,1⟩).getD h.o}
def clrS(h:ac)(i:Nat)(a:Int):ac:={h with J:=h.J.set i (ly (nth h.J i) (cT (nth h.J i) a))}
def freeS(h:ac)(i:Nat)(a:Int):ac:=if(ly (nth h.J i) (cT (nth h.J i) a)).a9=0/\fB h (nth h.J i).R=false then giveP (clrS h i a) i else clrS h i a
def sX(h:ac)(a:Int):Nat:=(ir h (a / 16)).toNat
def freeA(h:ac)(a:Int):ac:=freeS h (sX h a) a
def cput(c:aF)(k a:Int):Option aF:=if bD c=true/\0<=k/\k<=3/\bD (qn c k.toNat a)=true then some (qn c k.toNat a) else none
def recyc(t:Nat)(h:ac)(a:Int):ac:=match cput (nth h.S t) (nth h.J (sX h a)).d a with
 | some c=>{h with S:=h.S.set t c}
 | none=>freeA h a
theorem bc.at(e:bc h E)(c:jZ h.J a (-1)):sX h a<h.J.length/\eS (nth h.J (sX h a)) a/\ir h (a / 16)=(sX h a:Nat):=by
 obtain⟨s,d,b,-⟩:=c;obtain⟨i,f,rfl⟩:=aR d;have g:(nth h.J i).R=a / 16:=by have j:=b.1;have k:=b.2.1;omega
 grind [vP,bc.L,sX]
theorem AA(e:fB h p=false)(a:h.q=true):p≠h.Y.X.a3/\p≠h.Y.X.a0:=by grind [fB]
def bc.freeS{h:ac}{E:List Int}{a:Int}{i:Nat}(f:bc h (a::E))(b:i<h.J.length)(g:eS (nth h.J i) a):bc (freeS h i a) E:=by
 have c:=f.give b g;unfold Ab.freeS;split
 ·rename_i e
  have d:nth (clrS h i a).J i=ly (nth h.J i) (cT (nth h.J i) a):=by unfold clrS;simp only[bB,true_and];rw[CE b]
  obtain⟨o,j,k⟩:=bc.giveSpan (h:=clrS h i a) c (i:=i) (by unfold clrS;simp only[I2];exact b) (by rw[d];exact e.1) (λl=>by rw[d];exact AA e.2 l);unfold giveP;rw[j];exact k
 exact c
theorem bc.freeA{h:ac}{E:List Int}{a:Int}(b:bc h (a::E)):bc (freeA h a) E:=by
 obtain⟨c,d,-⟩:=b.at (b.hin a ψ);exact b.freeS c d
theorem kR{c:aF}(h:bD c=true):c.Z.length=4:=by grind [bD]
theorem bc.recyc{h:ac}{E:List Int}{a:Int}{t:Nat}(b:bc h (a::E))(f:t<h.S.length):bc (recyc t h a) E:=by
 obtain⟨g,i,-⟩:=b.at (b.hin a ψ);unfold Ab.recyc;split
 ·rename_i c d
  unfold cput at d;split at d
  ·rename_i e
   cases d;obtain⟨j,l,n,k⟩:=e;exact b.put f (by rw[kR j];omega) ⟨_,au g,i,.inr ω⟩ k
  cases d
 exact b.freeA
def AY(h:ac)(i:Nat)(a:Int):(freeS h i a).S=h.S/\(freeS h i a).O=h.O/\(freeS h i a).F.Calls=h.F.Calls/\(freeS h i a).w=h.w/\(freeS h i a).Y=h.Y/\(freeS h i a).b2=h.b2/\(freeS h i a).a7=h.a7/\(freeS h i a).F.u=h.F.u:=by
 unfold freeS;split
 ·obtain⟨-,b,c⟩:=kv (clrS h i a).F (nth (clrS h i a).J i).R
  exact⟨rfl,rfl,b,rfl,rfl,rfl,rfl,c⟩
 exact⟨rfl,rfl,rfl,rfl,rfl,rfl,rfl,rfl⟩
theorem pj(t:Nat)(h:ac)(a:Int):(recyc t h a).S.length=h.S.length/\(recyc t h a).O=h.O/\(recyc t h a).F.Calls=h.F.Calls/\(recyc t h a).w=h.w/\(recyc t h a).Y=h.Y/\(recyc t h a).b2=h.b2/\(recyc t h a).a7=h.a7/\(recyc t h a).F.u=h.F.u:=by
 unfold recyc;split
 ·grind
 obtain⟨b,c⟩:=AY h (sX h a) a;exact⟨C1 _ b,c⟩
def recycs(t:Nat)(h:ac)(az:List Int):ac:=az.foldl (recyc t) h
theorem fW(t:Nat):∀(az:List Int)(h:ac),(recycs t h az).S.length=h.S.length/\(recycs t h az).O=h.O/\(recycs t h az).F.Calls=h.F.Calls/\(recycs t h az).w=h.w/\(recycs t h az).Y=h.Y/\(recycs t h az).b2=h.b2/\(recycs t h az).a7=h.a7/\(recycs t h az).F.u=h.F.u
 | [],h=>⟨rfl,rfl,rfl,rfl,rfl,rfl,rfl,rfl⟩
 | a::az,h=>by
  obtain⟨b,c,d,e,f,g,i,j⟩:=fW t az (recyc t h a);obtain⟨k,l,n,o,p,q,r,u⟩:=pj t h a;exact⟨b.trans k,c.trans l,d.trans n,e.trans o,f.trans p,g.trans q,i.trans r,j.trans u⟩
theorem bc.recycs{t:Nat}{E:List Int} : ∀{az:List Int}{h:ac},bc h (az++E)->t<h.S.length->bc (recycs t h az) E
 | [],h,b,_=>b
 | a::az,h,b,c=>bc.recycs (az:=az) (h:=Ab.recyc t h a) (b.recyc c) (by grind [pj])
def qc(l:List aT):Int:=quarCells l l.length
def pU(room:Int):List aT->Nat
 | []=>0
 | x::xs=>if room<qc (x::xs) then pU room xs+1 else 0
def Pw(q:bS)(x:aT):bS:=⟨q.b8,(q.a6++[x]).drop (pU q.b8 (q.a6++[x]))⟩
def B3(q:bS)(x:aT):List aT:=(q.a6++[x]).take (pU q.b8 (q.a6++[x]))
def H1(room:Int):∀l,pU room l<=l.length
 | []=>v4 _
 | x::xs=>by unfold pU;split;(have:=H1 room xs;simp only[List.length_cons];omega);omega
theorem E6{room:Int}(a:0<=room):∀l:List aT,qc (l.drop (pU room l))<=room
 | []=>a
 | x::xs=>by
  unfold pU;split
  ·exact E6 a xs
  grind
theorem D6{room:Int} : ∀{l:List aT}{k:Nat},k<pU room l->room<qc (l.drop k)
 | [],k,h=>by cases h
 | x::xs,0,h=>by grind [pU]
 | x::xs,k+1,h=>by
  unfold pU at h;split at h
  ·exact D6 (l:=xs) ω
  omega
theorem kT{q:bS} : ia q=true↔(∀x∈q.a6,0<=x.d/\x.d<=3/\0<=x.Addr/\0<=x.b7)/\(q.a6.Pairwise λa b=>a.b7<=b.b7)/\(q.a6.map (·.Addr)).Nodup/\0<=q.b8/\q.b8<=500/\qc q.a6<=q.b8:=by
 refine Iff.trans ?_ (and_congr Iff.rfl (and_congr (xR (λa b:Int=>a<=b) ω (λs:aT=>s.b7) q.a6) (and_congr (DZ (λs:aT=>s.Addr) q.a6) Iff.rfl)));unfold ia qc
 grind [cI,List.any_eq_false,aR,au,lJ,fA]
theorem U5{q:bS}{x:aT}(h:ia q=true)(e:0<=x.d/\x.d<=3/\0<=x.Addr/\0<=x.b7)(f:∀y∈q.a6,y.b7<=x.b7)(g:∀y∈q.a6,y.Addr≠x.Addr):ia (Pw q x)=true:=by
 obtain⟨i,j,k,c,d,l⟩:=kT.1 h;have a:(Pw q x).a6.Sublist (q.a6++[x]):=List.drop_sublist ..;refine kT.2 ⟨λy b=>?_,List.Pairwise.sublist a ?_,List.Nodup.sublist (a.map _) ?_,c,d,E6 c _⟩
 ·rcases t4.1 (a.subset b) with b|b
  all_goals grind
 ·grind
 grind
def mI(r:List Int)(o:Nat):Nat->List Int
 | 0=>r
 | n+1=>(mI r o n).set (o+n) 0
def df(k:ah)(a:Int):Nat:=(af k.G.Q (a / 16)).e.toNat
def gc(k:ah)(a:Int)(n:Nat):ah:={k with G:=⟨⟨k.G.W.T.set (df k a) (mI (nth k.G.W.T (df k a)) (a % 16).toNat n),k.G.W.a1⟩,k.G.Q⟩}
theorem nO(r:List Int)(o:Nat):∀n,(mI r o n).length=r.length
 | 0=>rfl
 | n+1=>by unfold mI;rw[I2,nO r o n]
def D3{r:List Int}{o:Nat} : ∀{n:Nat}{v:Int},v∈mI r o n->v∈r\/v=0
 | 0,v,h=>.inl h
 | n+1,v,h=>by
  rcases Z8 h with h|h
  ·exact D3 h
  exact .inr h
theorem GT(h:aD k=true)(a:Int)(n:Nat):aD (gc k a n)=true:=by
 obtain⟨g,i,l,o,p⟩:=aC.1 h;obtain⟨q,r,t,c⟩:=aZ.1 i;refine aC.2 ⟨g,aZ.2 ⟨?_,?_,?_,λj b=>?_⟩,l,o,p⟩
 ·grind [gc]
 ·grind [gc]
 ·grind [gc]
 simp only[gc,I2]at b |-;simp only[bB];split
 ·rename_i e
  have d:=c j b;unfold iB at d |-;simp only[I0,C0,v5]at d |-;rw[e.1]at *;refine⟨by grind [nO],λv f=>?_⟩;rcases D3 f with f|rfl
  all_goals grind [jx]
 exact c j b
def B5(h:ac)(a:Int):Nat:=(h.M.findIdx? λl=>decide (l.R*16=a)).getD 0
def freeL(h:ac)(i k:Nat):ac:={h with F:=unmN h.F (nth h.M k).R (nth h.M k).a4.toNat,M:=dele h.M k,o:=(cB (fo h) h.o ⟨(nth h.M k).R,(nth h.M k).a4⟩).getD h.o,O:=dele h.O i}
def m0(h:ac)(o:bu):aT:=⟨o.Addr,aL o.y,h.b2⟩
def inQuar(h:ac)(i:Nat):ac:={h with F:=gc h.F (nth h.O i).Addr (csz (aL (nth h.O i).y)).toNat,O:=dele h.O i,a7:=Pw h.a7 (m0 h (nth h.O i))}
def GK(h:ac)(t i:Nat):ac:=recycs t (inQuar h i) ((B3 h.a7 (m0 h (nth h.O i))).map (·.Addr))
def freeOb(h:ac)(t i:Nat):ac × Int:=
 if aL (nth h.O i).y<0 then(freeL h i (B5 h (nth h.O i).Addr),0)
 else if(af (tbl h) ((nth h.O i).Addr / 16)).j=1 then(h,5)
 else(GK h t i,0)
theorem yc(n:l∈h.M)(e:a=16*l.R):B5 h a<h.M.length/\a=16*(nth h.M (B5 h a)).R/\(∀j,j<B5 h a->(nth h.M j).R*16≠a)/\h.M.findIdx? (λl=>decide (l.R*16=a))=some (B5 h a):=by
 cases c:h.M.findIdx? λl=>decide (l.R*16=a) with
 | none=>
  grind
 | some k=>
  obtain⟨b,d,f⟩:=I9.1 c;have g:B5 h a=k:=by grind [B5]
  rw[g];rw[<-bq (C3 b),C0]at d;refine⟨b,ω,λj i=>?_,rfl⟩;have:=f j i;rw[<-bq (C3 (show j<h.M.length by omega))]at this;simpa using this
theorem eH(a:bc h E)(f:o∈h.O):(aL o.y<0->WZ h.M o.Addr o.y)/\(¬aL o.y<0->(∃s∈h.J,eS s o.Addr/\s.d=aL o.y)/\aL o.y<=3):=by
 rcases a.oow o f with⟨s,g,b,c⟩|⟨l,d,b,c⟩
 ·have i:=aI (a.L.sok s g)
  grind
 have j:=de (a.L.lok l d);refine⟨λ_=>⟨l,d,b,c⟩,λe=>absurd ?_ e⟩
 grind [aL]
theorem bc.inQuar{h:ac}{i:Nat}(a:bc h [])(g:i<h.O.length)(r:¬aL (nth h.O i).y<0):bc (inQuar h i) ((B3 h.a7 (m0 h (nth h.O i))).map (·.Addr)):=by
 obtain⟨⟨s,j,l,t⟩,u⟩:=(eH a (au g)).2 r;have b:jZ h.J (nth h.O i).Addr (aL (nth h.O i).y):=⟨s,j,l,.inr t⟩
 have c:=a.nums;unfold cx at c;rw[C0]at c;have w:=aI (a.L.sok s j);have n:=a.dropO g b.any;have A:=n.cells (k:=gc h.F (nth h.O i).Addr (csz (aL (nth h.O i).y)).toNat) (GT a.ker _ _) rfl;have d:∀y∈h.a7.a6,y.Addr≠(nth h.O i).Addr:=λy o e=>by
  have f:=n.nd;rw[List.cons_append,List.nil_append]at f
  grind [holders]
 have p:=bc.toQuar (x:=m0 h (nth h.O i)) (q:=Pw h.a7 (m0 h (nth h.O i))) (out:=B3 h.a7 (m0 h (nth h.O i))) A (U5 a.quar ⟨by show 0<=aL _;omega,u,by show 0<=(nth h.O i).Addr;have:=l.1;omega,c.2.2.1⟩ (λy o=>a.snc y o) d) (by grind [List.take_append_drop,B3,Pw]) (Y6 _) b;rw[List.append_nil]at p;exact p
theorem bc.freeOb{h:ac}{t i:Nat}(a:bc h [])(c:i<h.O.length)(e:t<h.S.length):bc (freeOb h t i).1 []:=by
 unfold Ab.freeOb;split
 ·rename_i b
  obtain⟨l,f,d,-⟩:=(eH a (au c)).1 b;obtain⟨g,j,-⟩:=yc f d
  grind [bc.dropL,freeL]
 rename_i b;split
 ·exact a
 have d:=a.inQuar c b;refine bc.recycs (E:=[]) ?_ e
 grind
theorem Md:∀{H L:List Int},H.Nodup->(∀x∈H,x∈L)->H.length<=L.length
 | [],L,_,_=>Z0 _
 | y::H,L,b,c=>by
  have d:y∈L:=ψ
  have a:=List.nodup_cons.1 b;have:=Md (L:=L.erase y) a.2 ψ
  grind
theorem zV{H:List Int}(a:H.Nodup)(b:∀x∈H,0<=x/\x<n):H.length<=n:=by
 have:=Md (L:=(List.range n).map λ(i:Nat)=>(i:Int)) a λx c=>O5.2 ⟨x.toNat,List.mem_range.2 ψ,ψ⟩
 simpa using this
theorem dw{f:α->Int}{xs:List α}(h:xs.Pairwise λa b=>f a<f b):(xs.map f).Nodup:=ψ
theorem Rk:∀(b:List (List Int))(k:Nat)(s:List Int),(iC k s b).isSome=true->∀l∈b,l.length<=8
 | [],_,_,_,l,a=>by cases a
 | x::b,k,s,h,l,a=>by
  simp only[iC]at h;cases e:gf k s x with
  | none=>grind
  | some c=>
   rw[e]at h;rcases List.mem_cons.1 a with rfl|a
   ·grind [gf]
   exact Rk b (k+1) c h l a
theorem eJ{c:aF}(h:bD c=true):c.Z.length=4/\∀l∈c.Z,l.length<=8:=by grind [Rk,bD]
structure pW(h:ac):Prop where
 cells:h.F.G.W.T.length<=32
 row:∀r∈h.F.G.W.T,r.length=16
 used:h.F.G.W.a1.length<=32
 ents:h.F.G.Q.K.length<=32
 ref:h.F.u.length<=40
 free:h.o.length<=32
 spans:h.J.length<=32
 larges:h.M.length<=32
 objs:h.O.length<=512
 caches:h.S.length<=4
 lists:∀c∈h.S,c.Z.length=4/\∀l∈c.Z,l.length<=8
 quar:h.a7.a6.length<=512
def jZ.bd(b:bc h E)(d:jZ h.J a c):0<=a/\a<512:=by
 obtain⟨s,e,⟨f,g,-⟩,-⟩:=d;have i:=aI (b.L.sok s e);omega
theorem bc.lens(a:bc h E):pW h:=by
 obtain⟨G,k,p,J,K,M,q⟩:=aC.1 a.ker;obtain⟨N,t,O,P⟩:=aZ.1 k;obtain⟨Q,R,u⟩:=bo.1 p;obtain⟨w,S,T⟩:=gN.1 a.rng;obtain⟨U,V,A,W⟩:=kT.1 a.quar;have g:=a.mail;unfold bT at g;simp only[I0,C0]at g;have B:=a.nc;refine⟨t,λr i=>?_,ω,u,q,?_,?_,?_,?_,ω,λc C=>eJ (a.cach c C),?_⟩
 ·obtain⟨j,X,rfl⟩:=aR i
  grind [iB]
 ·have:=zV (H:=h.o.map (·.At)) (n:=32) (dw (w.1.imp_of_mem ψ)) λx b=>by
   obtain⟨r,i,rfl⟩:=O5.1 b
   grind
  simpa using this
 ·have:=zV (H:=h.J.map (·.R)) (n:=32) a.L.nd λx b=>by
   obtain⟨s,d,rfl⟩:=O5.1 b;have:=aI (a.L.sok s d);omega
  simpa using this
 ·have:=zV (H:=h.M.map (·.R)) (n:=32) (dw a.srl) λx b=>by
   obtain⟨l,f,rfl⟩:=O5.1 b;have:=aW (a.L.lok l f);omega
  simpa using this
 ·have:=zV (H:=h.O.map (·.Addr)) (n:=512) (dw a.osr) λx b=>by
   obtain⟨o,D,rfl⟩:=O5.1 b;rcases a.oow o D with⟨s,d,⟨Y,Z,-⟩,-⟩|⟨l,f,e,-⟩
   ·have:=aI (a.L.sok s d);omega
   have:=aW (a.L.lok l f);omega
  simpa using this
 have:=zV (H:=h.a7.a6.map (·.Addr)) (n:=512) A λx b=>by
  obtain⟨y,F,rfl⟩:=O5.1 b;exact(a.hqu y F).bd a
 simpa using this
theorem pW.sml(a:pW h)(b:aD h.F=true)(d:aP.sml h.w)(e:cz.sml h.Y):ac.sml h:=
 ⟨bk b,⟨by grind [pW.free],λ_ _=>trivial⟩,⟨by grind [pW.spans],λ_ _=>trivial⟩,⟨by grind [pW.larges],λ_ _=>trivial⟩,⟨by grind [pW.objs],λ_ _=>trivial⟩,⟨by grind [pW.caches],λc f=>⟨by grind [pW.lists],λl g=>by have:=(a.lists c f).2 l g;show l.length<=1048576;omega⟩⟩,d,⟨by grind [pW.quar],λ_ _=>trivial⟩,e⟩
def nq(a:Int)(o:bu):Bool:=decide (o.Addr=a)
def sj(h:ac)(a:Int):Nat:=(cV (nq a) h.O).toNat
theorem bc.objAt(g:bc h E)(k:o∈h.O):sj h o.Addr<h.O.length/\nth h.O (sj h o.Addr)=o/\cV (nq o.Addr) h.O=(sj h o.Addr:Nat):=by
 obtain⟨i,c,rfl⟩:=aR k;have l:cV (nq (nth h.O i).Addr) h.O=(i:Nat):=dE (ar c) (by unfold nq;simp) λj z n d=>by
  have a:=bq d;have b:=(I3.1 d).1;subst a;unfold nq;refine X0 λe=>?_
  have:=cX (f:=(·.Addr)) (dw g.osr) b c e;omega
 grind [sj]
theorem kn(k:ah)(p:Int)(n:Nat):(unmN k p n).Calls=k.Calls/\(unmN k p n).u=k.u:=(eZ k p n).2
def R6(y:aB)(a:List aB):dA [] (y::a)=dA [y] a:=by rw[dA];rfl
theorem HN[Inhabited α]{xs:List α}(h:xs≠[]):xs.getLast? = some (nth xs (xs.length - 1)):=by grind [List.length_pos_iff,ar]
theorem QM{xs:List α}(h:xs≠[])(v:α):xs.dropLast++[v]=xs.set (xs.length - 1) v:=by
 have a:0<xs.length:=ψ
 refine List.ext_getElem (by simp;omega) λi b c=>?_
 grind
theorem RY{a:List aB}(h:out≠[])(e:(nth out (out.length - 1)).At+(nth out (out.length - 1)).a8=y.At):dA out (y::a)=dA (out.set (out.length - 1) ⟨(nth out (out.length - 1)).At,(nth out (out.length - 1)).a8+y.a8⟩) a:=by grind [HN,QM,dA]
theorem Uz{a:List aB}(h:out≠[])(e:¬(nth out (out.length - 1)).At+(nth out (out.length - 1)).a8=y.At):dA out (y::a)=dA (out++[y]) a:=by grind [HN,dA]
theorem uC(xs:List aB)(w:xs.length<=4194304)(n:∀y∈xs,0<=y.At/\1<=y.a8/\y.At+y.a8<=1048576):zzA 573 false [.val none (bt .U xs)] .one (bt .own (dA [] xs)):=by
 refine fO 63 [(6,21,[15,16,17,18,19,20,21,22,23,24,25,26,27,28,29,30,31,32,33,34,35]),(7,15,[38,39,40,41,42,43,44,45,46,47,48,49,50,51,52])] Tryz.func573 rfl ?_ (.inr (jz _))
 refine ZP ?_
 refine CK (ι:=Nat × List aB) (λq=>[(0,.H .one (bt .U xs)),(3,.H .one (bt .own q.2)),(4,.H .one [I ((q.1:Nat):Int)])]) (λq=>q.1<=xs.length/\dA q.2 (xs.drop q.1)=dA [] xs/\q.2.length<=q.1/\∀y∈q.2,0<=y.At/\1<=y.a8/\y.At+y.a8<=1048576) (λq=>xs.length - q.1) ((0,[])) ?_ ψ λq o=>?_
 ·exact wB
 obtain⟨i,out⟩:=q;obtain⟨p,a,g,b⟩:=o;simp only at p a g b |-;by_cases h:i<xs.length
 ·have j:=ar h
  have B:=n _ (au h);rw[iT h]at a;by_cases k:out=[]
  ·subst k
   rw[R6]at a;have D:([]:List aB).length=0:=rfl
   repeat'(first|refine gE ?_|refine Ln.mk (show List.length _=0 from rfl) ?_|refine Ap.sm (λr t=>by cases t) rfl (by simp) (by decide) rfl ?_)
   ((conv=>whnf)
    refine CG (i+1,[nth xs i]) ψ (by simp only;omega) ?_
    (repeat'(first|exact trivial|rfl|exact CN rfl (CN (C1 (C.s dX.own) (by simp[aB.enc])) trivial)|refine CN ?_ ?_)))
  have l:0<out.length:=ψ
  have d:out[((out.length:Int) - 1).toNat]? = some (nth out (out.length - 1)):=by
   rw[show((out.length:Int) - 1).toNat=out.length - 1 by omega];grind [ar]
  have u:=b _ (au (xs:=out) (i:=out.length - 1) ω);by_cases e:(nth out (out.length - 1)).At+(nth out (out.length - 1)).a8=(nth xs i).At
  ·rw[RY k e]at a
   repeat'(first|refine gB ?_|refine CO ω (aa d) ?_|refine CR rfl rfl (aa d) rfl (Z1 rfl) rfl ?_)
   ((conv=>whnf)
    refine CG (i+1,out.set (out.length - 1) ⟨(nth out (out.length - 1)).At,(nth out (out.length - 1)).a8+(nth xs i).a8⟩) ⟨(by simp only;omega),a,ψ,(λy c=>?_)⟩ (by simp only;omega) ?_)
   ·rcases Z8 c with c|rfl
    ·exact b y c
    simp only;omega
   (repeat'(first|exact trivial|rfl|exact CN rfl (CN (C1 (C.s dX.own) (by rw[show((out.length:Int) - 1).toNat=out.length - 1 by omega,S8];rfl)) trivial)|refine CN ?_ ?_))
  rw[Uz k e]at a
  repeat'(first|refine gB ?_|refine CO ω (aa d) ?_|refine Ap.sm (aO λ_=>rfl) rfl (by simp;omega) (by decide) rfl ?_)
  ((conv=>whnf)
   refine CG (i+1,out++[nth xs i]) ⟨(by simp only;omega),a,(by simp;omega),(λy c=>?_)⟩ (by simp only;omega) ?_)
  ·rcases t4.1 c with c|c
   all_goals simp_all
  (repeat'(first|exact trivial|rfl|exact CN rfl (CN (C1 (C.s dX.own) (by simp[aB.enc])) trivial)|refine CN ?_ ?_))
 obtain rfl:i=xs.length:=ω
 rw[List.drop_length]at a
 refine ZE ?_
 rw[<-a];rfl
def Dy(r y:aB)(a:List aB)(put:Bool):od r (y::a) put=if ovl y r then none else if !put&&decide (y.At > r.At) then(od r a true).map λt=>r::y::t else(od r a put).map λt=>y::t:=by rw[od]
theorem np(pages:Int)(xs:List aB)(r:aB)(G:0<=pages/\pages<=1048576)(H:gI xs):zzA 519 false [.val none [I pages],.val none (bt .U xs),.val (some 2) (aB.enc .U r)] (.tup [none,none]) (Gn xs (cB pages xs r)):=by
 have o:=H.1;have j:=n8 pages xs G H;have p:=AF pages r G;cases k:bG pages xs<;>rw[k]at j
 ·rw[show cB pages xs r=none by unfold cB;rw[CC (by rw[k];simp)]]
  refine fO 82 [] Tryz.func519 rfl ?_ (.inr (lW _ _))
  repeat'(first|refine gP ?_|refine CT (λ_=>rfl) (λ_=>rfl) o (by decide) ?_)
  rfl
 cases u:rangeIn pages r<;>rw[u]at p
 ·rw[show cB pages xs r=none by unfold cB;rw[CC (by rw[u];simp)]]
  refine fO 82 [] Tryz.func519 rfl ?_ (.inr (lW _ _))
  repeat'(first|refine gP ?_|refine CT (λ_=>rfl) (λ_=>rfl) o (by decide) ?_)
  rfl
 obtain⟨J,K⟩:=tQ k;have l:0<=r.At/\1<=r.a8/\r.At+r.a8<=pages:=by grind [rangeIn]
 rw[show cB pages xs r=(od r xs false).map (dA []) by unfold cB;rw[CE ⟨k,u⟩,Et (pages:=pages) J l.2.1 ψ]];refine fO 82 [] Tryz.func519 rfl ?_ (.inr (lW _ _))
 repeat'(first|refine gP ?_|refine CT (λ_=>rfl) (λ_=>rfl) o (by decide) ?_)
 refine CK (ι:=Nat × List aB × Bool) (λq=>[(1,.H .one (bt .U xs)),(5,.H .box (aB.enc .U r)),(8,.H .one (bt .own xs)),(9,.H .one (bt .own q.2.1)),(10,.H .one [B (q.2.2)]),(11,.H .one [I ((q.1:Nat):Int)])]) (λq=>q.1<=xs.length/\(od r (xs.drop q.1) q.2.2).map (q.2.1++·)=od r xs false/\q.2.1.length<=q.1+q.2.2.toNat/\(∀y∈q.2.1,0<=y.At/\1<=y.a8/\y.At+y.a8<=1048576)) (λq=>xs.length - q.1) ((0,[],false)) ?_ (⟨Z0 _,by simp,by simp,by simp⟩) λq d=>?_
 ·exact wB
 obtain⟨i,out,put⟩:=q;obtain⟨L,b,c,e⟩:=d;simp only at L b c e |-;have M:0<=r.At/\1<=r.a8/\r.At+r.a8<=1048576:=ω
 by_cases w:i<xs.length
 ·have n:=ar w
  have N:=K _ (au w);have E:0<=(nth xs i).At/\1<=(nth xs i).a8/\(nth xs i).At+(nth xs i).a8<=1048576:=ω
  rw[iT w]at b;by_cases h:ovl (nth xs i) r=true
  ·rw[<-b]
   rw[Dy,CE h];unfold ovl at h;rw[C0]at h
   repeat'(first|refine gE ?_|with_reducible refine Bf.D (λd=>?_) (λd=>?_))
   rfl
  rw[Dy,CC h]at b;unfold ovl at h;rw[C0]at h;cases put with
  | false=>
   have c:out.length<=i:=by simpa using c
   by_cases O:(nth xs i).At > r.At
   ·rw[CE (by simp;omega),Option.map_map]at b
    repeat'(first|refine gE ?_|with_reducible refine Bf.D (λd=>?_) (λd=>?_)|refine Ap.sm (aO λ_=>rfl) rfl (by simp;omega) (by decide) rfl ?_|refine Ap.sm (λr l=>by simp at l;rcases l with⟨a,_,rfl⟩|rfl<;>rfl) rfl (by simp;omega) (by decide) rfl ?_)
    ((conv=>whnf)
     refine CG (i+1,out++[r,nth xs i],true) ⟨(by simp only;omega),(by rw[<-b];congr 1;funext t;simp),(by simp;omega),(λy g=>?_)⟩ (by simp only;omega) ?_)
    ·grind
    (repeat'(first|exact trivial|rfl|exact CN rfl (CN (C1 (C.s dX.own) (by simp[aB.enc])) trivial)|refine CN ?_ ?_))
   rw[CC (by simp;omega),Option.map_map]at b
   repeat'(first|refine gE ?_|with_reducible refine Bf.D (λd=>?_) (λd=>?_)|refine Ap.sm (aO λ_=>rfl) rfl (by simp;omega) (by decide) rfl ?_)
   ((conv=>whnf)
    refine CG (i+1,out++[nth xs i],false) ⟨(by simp only;omega),(by rw[<-b];congr 1;funext t;simp),(by simp;omega),(λy g=>?_)⟩ (by simp only;omega) ?_)
   ·grind
   (repeat'(first|exact trivial|rfl|exact CN rfl (CN (C1 (C.s dX.own) (by simp[aB.enc])) trivial)|refine CN ?_ ?_))
  | true=>
   have c:out.length<=i+1:=c;rw[CC (by simp),Option.map_map]at b;by_cases P:(nth xs i).At<r.At+r.a8
   all_goals
    repeat'(first|refine gE ?_|with_reducible refine Bf.D (λd=>?_) (λd=>?_)|refine Ap.sm (aO λ_=>rfl) rfl (by simp;omega) (by decide) rfl ?_)
    ((conv=>whnf)
     refine CG (i+1,out++[nth xs i],true) ⟨(by simp only;omega),(by rw[<-b];congr 1;funext t;simp),(by simp;omega),(λy g=>?_)⟩ (by simp only;omega) ?_)
    ·rcases t4.1 g with g|g
     ·exact e y g
     rw[C2.1 g];exact E
    (repeat'(first|exact trivial|rfl|exact CN rfl (CN (C1 (C.s dX.own) (by simp[aB.enc])) trivial)|refine CN ?_ ?_))
 obtain rfl:i=xs.length:=ω
 rw[List.drop_length]at b;cases put with
 | false=>
  have c:out.length<=xs.length:=by simpa using c
  rw[<-b];have F:=uC (out++[r]) (by simp;omega) ψ
  repeat'(first|refine gE ?_|refine Ap.sm (aO λ_=>rfl) rfl (by simp;omega) (by decide) (show(out++[r]).map (aB.enc .own)=_ by simp[aB.enc]) ?_|refine CH (F) ⟨⟨rfl,ee _⟩,trivial⟩ ?_)
  rfl
 | true=>
  have c:out.length<=xs.length+1:=c;rw[<-b];have F:=uC out ω e
  repeat'(first|refine gE ?_|refine CH (F) ⟨⟨rfl,ee _⟩,trivial⟩ ?_)
  simp[od,Gn]
  rfl
theorem shl64{i:Int}(a:0<=i/\i<=15):IntKind.i64.wrap (1*2 ^ min i.toNat IntKind.i64.bits)=2 ^ i.toNat/\0<=(2:Int) ^ i.toNat/\(2:Int) ^ i.toNat<=32768:=by
 have b:min i.toNat IntKind.i64.bits=i.toNat:=Nat.min_eq_left (show i.toNat<=64 by omega);have c:(0:Int)<=2 ^ i.toNat/\(2:Int) ^ i.toNat<=32768:=by
  have:(2:Nat) ^ i.toNat<=2 ^ 15:=Nat.pow_le_pow_right (by decide) ω
  grind
 grind [fJ]
theorem clr64{i:Int}(a:0<=b/\b<=65535):IntKind.i64.wrap ((BitVec.ofInt IntKind.i64.bits b &&& ~~~BitVec.ofInt IntKind.i64.bits (2 ^ i.toNat)).toNat:Nat)=yz b i:=by
 have:=E7 (i:=i) a
 grind [fJ,yz]
theorem vJ(b i:Int)(c:0<=b/\b<=65535)(d:0<=i/\i<=15):zzA 574 false [.val none [I b],.val none [I i]] .one [I (yz b i)]:=by
 have a:=rG b i;rw[O0 ω]at a;have e:IntKind.u64.wrap i=i:=by grind [Go.IntKind.wrap,Go.IntKind.bits]
 refine fO 15 [] Tryz.func574 rfl ?_
 repeat'(first|refine gP ?_|refine CQ ω ?_|refine CP e ?_|refine CP (shl64 d).1 ?_|refine CP (clr64 c) ?_)
 rfl
def wx(b i:Int)(c:0<=b/\b<=65535)(d:0<=i/\i<=15):zzA 491 false [.val none [I b],.val none [I i]] .one [I (yz b i)]:=by
 have a:=rj b i;rw[O0 ω]at a;refine fO 14 [] Tryz.func491 rfl ?_
 repeat'(first|refine gP ?_|refine CQ ω ?_|refine CP (shl64 d).1 ?_|refine CP (clr64 c) ?_)
 rfl
theorem MM{k:Int}(a:bf s.a9 k=true):0<=k/\k<=15:=by grind [fw]
def BN(s:aA)(k:Int)(a:bh s=true)(b:bf s.a9 k=true):zzA 523 false [.val (some 3) (aA.enc .U s),.val none [I k]] (.tup [some 3,none]) (aA.enc .own (ly s k)++[B true]):=by
 have e:=dU a;have g:=MM b;have c:=iz s;have d:=jN s.a9 k ω;rw[a]at c;rw[b]at d;refine fO 23 [] Tryz.func523 rfl ?_ (.inr (aJ (aA.enc_fr _) ⟨trivial,trivial⟩))
 repeat'(first|refine gP ?_|refine CB (vJ s.a9 k e g) ?_)
 rfl
def BW(s:aA)(k:Int)(a:bh s=true)(b:bf s.a9 k=true):zzA 385 false [.val (some 3) (aA.enc .U s),.val none [I k]] (.tup [some 3,none]) (aA.enc .own (ly s k)++[B true]):=by
 have e:=dU a;have g:=MM b;have c:=iD s;have d:=iJ s.a9 k ω;rw[a]at c;rw[b]at d;refine fO 23 [] Tryz.func385 rfl ?_ (.inr (aJ (aA.enc_fr _) ⟨trivial,trivial⟩))
 repeat'(first|refine gP ?_|refine CB (wx s.a9 k e g) ?_)
 rfl
def yw(c:aF)(k:Int)(b:aF.sml c):zzA 477 false [.val (some 1) (aF.enc .U c),.val none [I k]] .one [B (bD c&&decide (0<=k/\k<=3))]:=by
 have a:=oA c b;cases e:bD c<;>rw[e]at a
 all_goals
  refine fO 11 [] Tryz.func477 rfl ?_
  repeat'(first|refine gP ?_|refine CB (aK k 0 3) ?_)
  all_goals rfl
def zg(c:aF)(k:Int)(a:aF.sml c):zzA 333 false [.val (some 1) (aF.enc .U c),.val none [I k]] .one [B (decide (0<=k/\k<=3)&&bD c)]:=by
 have b:=uT c a;refine fO 11 [] Tryz.func333 rfl ?_
 repeat'(first|refine gP ?_|with_reducible refine Bf.D (λd=>?_) (λd=>?_)|refine CB (gi k) ?_)
 all_goals exact C1 (λz=>[B z]) ((by simp[*]))
def nN{c:aF}{k:Nat}(a:k<c.Z.length):c.Z[k]? = some (nth c.Z k):=ar a
theorem Ri{c:aF}(h:bD c=true)(k:Nat)(a:Int):aF.sml (qn c k a):=by
 obtain⟨e,d⟩:=eJ h;refine⟨by grind [qn],λl b=>?_⟩;rcases Z8 b with b|rfl
 ·have:=d l b;show l.length<=1048576;omega
 show(nth c.Z k++[a]).length<=1048576;by_cases f:k<c.Z.length
 ·grind [au]
 have:nth c.Z k=[]:=by unfold nth;rw[X3,O3 ω];rfl
 rw[this];simp
theorem R0(c:aF)(k:Nat)(a:Int):aF.enc .own (qn c k a)=[.s .own ((c.Z.map (aH .own)).set k (aH .own (nth c.Z k++[a])))]:=by grind [S8,aF.enc,qn]
theorem fE{f:α->List C}{xs:List α}{k:Nat}{y:α}(h:xs[k]? = some y):((xs.map f).set k r)[k]? = some r:=ψ
def gS(f:α->β)(xs:List α)(y:α):(xs++[y]).map f=xs.map f++[f y]:=by simp
def Mc(c:aF)(k a:Int):List C:=aF.enc .own ((cput c k a).getD c)++[B (cput c k a).isSome]
def Qh(c:aF)(k a:Int):i6 (Mc c k a):=aJ (aF.enc_fr _) ⟨trivial,trivial⟩
theorem Bw(c:aF)(k:Nat)(a:Int)(j:bD c=true)(B:k<=3):zzA 572 false [.val (some 1) (aF.enc .U c),.val none [I (k:Nat)],.val none [I a]] (.tup [some 1,none]) (Mc c k a):=by
 obtain⟨D,q⟩:=eJ j;have r:aF.sml c:=⟨ω,λl u=>by have:=q l u;show l.length<=1048576;omega⟩
 have n:=yw c k r;rw[j,O0 ω]at n;have t:=jU c r;have d:=Ri j k a;have o:=oA (qn c k a) d;have w:=jU (qn c k a) d;have b:=nN (c:=c) (k:=k) ω;have y:=q _ (au (xs:=c.Z) (i:=k) ω);have h:=Cg (qn c k a);rw[R0]at h;have g:=Qh c k a;unfold Mc at g |-;cases e:bD (qn c k a)<;>rw[e]at o
 ·have p:cput c k a=none:=by grind [cput]
  rw[p]at g |-;refine fO 35 [(4,267,[16,17,18,19,20,21,22,23,24,25,27,0,1,2,3,4,5,6,7,8,9,10,1000,1001,1002,11,12])] Tryz.func572 rfl ?_ (.inr g)
  repeat'(first|refine gP ?_|refine CF (fE b) ?_|refine CJ rfl (fE b) rfl ?_|refine Lq.one rfl rfl (aa b) rfl (Z1 rfl) rfl rfl ?_|refine CR rfl rfl (fE b) rfl (Z1 rfl) (show [C.s dX.own ((c.Z.map (aH .own)).set k (aH .own (nth c.Z k++[a])))]=_ from by simp only[List.set_cons_zero,List.set_set,Y3];rfl) ?_|refine Ap.sm (aO λ_=>rfl) rfl (by simp;omega) (by decide) (gS _ _ _) ?_|refine CH (o) ⟨⟨rfl,h⟩,trivial⟩ ?_)
  rfl
 have p:cput c k a=some (qn c k a):=by grind [cput]
 rw[p]at g |-;refine fO 35 [(4,267,[16,17,18,19,20,21,22,23,24,25,27,0,1,2,3,4,5,6,7,8,9,10,1000,1001,1002,11,12])] Tryz.func572 rfl ?_ (.inr g)
 repeat'(first|refine gP ?_|refine CF (fE b) ?_|refine CJ rfl (fE b) rfl ?_|refine Lq.one rfl rfl (aa b) rfl (Z1 rfl) rfl rfl ?_|refine CR rfl rfl (fE b) rfl (Z1 rfl) (show [C.s dX.own ((c.Z.map (aH .own)).set k (aH .own (nth c.Z k++[a])))]=_ from by simp only[List.set_cons_zero,List.set_set,Y3];rfl) ?_|refine Ap.sm (aO λ_=>rfl) rfl (by simp;omega) (by decide) (gS _ _ _) ?_|refine CH (o) ⟨⟨rfl,h⟩,trivial⟩ ?_|refine CH (w) ⟨⟨rfl,h⟩,trivial⟩ ?_)
 rfl
def bL(x:ac):List C:=[.s .own (x.F.G.W.T.map (aH .own)),.s .own (x.F.G.W.a1.map (rB .own)),.s .own (x.F.G.Q.K.map (bm.enc .own)),I x.F.Calls,.s .own (x.F.u.map (rI .own)),.s .own (x.o.map (aB.enc .own)),.s .own (x.J.map (aA.enc .own)),.s .own (x.M.map (aE.enc .own)),.s .own (x.O.map (bu.enc .own)),.s .own (x.S.map (aF.enc .own)),.s .own (x.w.V.map (cL .own)),.s .own (x.w.a2.map (aH .own)),I x.a7.b8,.s .own (x.a7.a6.map (aT.enc .own)),I x.b3,I x.b2,I x.b1,I x.b,B x.q,I x.Y.X.a3,I x.Y.X.a0,.s .U (x.Y.X.T.map (rI .U)),I x.Y.b0,I x.Y.b]
def bP(x:ac):dM (bL x)=ac.enc .U x:=by simp[dM,bL,ac.enc,Cg,bm.enc_fz,aE.enc_fz,bu.enc_fz,aB.enc_fz,aA.enc_fz,aT.enc_fz,rB,oI,rI,dH,<-bW,C8]
def zp(x:cz):List C:=[I x.X.a3,I x.X.a0,.s .U (x.X.T.map (rI .U)),I x.b0,I x.b]
theorem Pu.two{f a:List C}{off k g h b:Nat}{cs:List C}{K:List C->Prop}{o c:dX}{rows2:List (List C)}{d:List C}(h1:f[off]? = some (.s o rows))(n:o.mine=true)(u:rows[i]? = some r)(w:r.length=k)(y:r[j]? = some (.s c rows2))(p:c.mine=true)(A:rows2[g]? = some d)(B:d.length=h)(D:b+cs.length<=h)(E:a=f.set off (.s o (rows.set i (r.set j (.s c (rows2.set g (splice d b cs)))))))(q:K a):Pu f off [(i,k,j),(g,h,b)] cs K:=by
 have t:o≠.U:=λe=>by subst e;cases n
 have l:c≠.U:=λe=>by subst e;cases p
 refine Pu.mk (r:=d) (j:=b) (by grind [cA]) (by grind [lF]) ω (by grind [gT]) q
def Ag(x:List aA):fz (.s .own (x.map (aA.enc .own)))=.s .U (x.map (aA.enc .U)):=(List.cons.inj (gL x)).1
def vE(x:List aE):fz (.s .own (x.map (aE.enc .own)))=.s .U (x.map (aE.enc .U)):=(List.cons.inj (mW x)).1
def xV(x:List bu):fz (.s .own (x.map (bu.enc .own)))=.s .U (x.map (bu.enc .U)):=(List.cons.inj (Nm x)).1
theorem Ap.dele{e:α->List C}{xs:List α}(a:∀y,(e y).length=sz)(b:∀y,bn (e y)=true)(h:xs.length<=1048576)(c:by_<=1000)(d:K ((Ab.dele xs i).map e)):Ap true ((xs.take i).map e) ((xs.drop (i+1)).map e) sz by_ K:=by
 have f:(xs.take i).length+(xs.drop (i+1)).length<=2097152:=ψ
 refine CV (aO a) (aO a) (λ_ r g=>by obtain⟨y,-,rfl⟩:=O5.1 g;exact b y) (by rw[O1,O1];omega) (by rw[O1,O1];exact O6 (Nat.mul_le_mul f c) (by decide)) ?_ d;unfold Ab.dele;rw[Z7]
def Pd(h:ac)(p:Int)(a:aM.sml h.F.G.Q):zzA 485 false [.ptr (ac.enc .U h),.val none [I p]] .one [I (af h.F.G.Q p).j]:=by
 refine fO 13 [] Tryz.func485 rfl ?_
 repeat'(first|refine gP ?_|refine CB (dy h.F.G.Q p a) ?_)
 rfl
def UK(h:ac):List C:=(bL h).drop 5
def VU(h:ac)(k:ah):bL {h with F:=k} = ah.enc .own k++UK h:=rfl
def Hd(h:ac):UK h=[.s .own (h.o.map (aB.enc .own)),.s .own (h.J.map (aA.enc .own)),.s .own (h.M.map (aE.enc .own)),.s .own (h.O.map (bu.enc .own)),.s .own (h.S.map (aF.enc .own)),.s .own (h.w.V.map (cL .own)),.s .own (h.w.a2.map (aH .own)),I h.a7.b8,.s .own (h.a7.a6.map (aT.enc .own)),I h.b3,I h.b2,I h.b1,I h.b,B h.q,I h.Y.X.a3,I h.Y.X.a0,.s .U (h.Y.X.T.map (rI .U)),I h.Y.b0,I h.Y.b]:=rfl
def Ps(h:ac)(f:Int)(a:aM.sml h.F.G.Q)(b:0<=f/\f<h.F.G.W.T.length/\f<h.F.G.W.a1.length) :
  zzB 486 false [.ptr (bL h),.val none [I f]] [.ptr (bL {h with F:=fY h.F f}),.val none [I f]] (.tup []) []:=by
 have c:=ar (xs:=h.F.G.W.T) (i:=f.toNat) ω;have d:=ar (xs:=h.F.G.W.a1) (i:=f.toNat) ω;rw[VU h (fY h.F f)];by_cases e:(pagesOn h.F.G.Q f).length=0
 ·rw[wv e,Hd]
  refine fM 30 [] [(2,8,[21,22,23,24,25,26,27,28])] [(0,0),(0,0)] Tryz.func486 rfl (λu q=>?_) (.inr trivial)
  repeat'(first|refine gB ?_|with_reducible (first|refine CO b.1 (aa d) ?_|refine CO b.1 (aa c) ?_)|refine CH (iK h.F.G.Q f a) ⟨⟨rfl,Cf h.F.G.Q⟩,⟨rfl,rfl⟩,trivial⟩ ?_|refine CR rfl rfl (aa c) rfl (Z1 rfl) rfl ?_|refine CR rfl rfl (aa d) rfl (Z1 rfl) rfl ?_|refine Mk.mk 16 rfl rfl (by decide) (by decide) rfl ?_)
  refine CL rfl rfl ?_;exact wB
 rw[AZ e];show aQ _ _ _ [.ptr (bL h),_] [.ptr (bL h),_] _ _;refine fM 30 [] [(2,8,[21,22,23,24,25,26,27,28])] [(0,0),(0,0)] Tryz.func486 rfl (λu q=>?_) (.inr trivial)
 repeat'(first|refine gB ?_|refine CH (iK h.F.G.Q f a) ⟨⟨rfl,Cf h.F.G.Q⟩,⟨rfl,rfl⟩,trivial⟩ ?_)
 refine CL rfl rfl ?_;exact wB
theorem oM(h:ac)(p:Int)(b:aD h.F=true) :
  zzB 374 false [.ptr (bL h),.val none [I p]] [.ptr (bL {h with F:=co h.F p}),.val none [I p]] .one [B (decide ((af h.F.G.Q p).j≠0))]:=by
 have k:=bk b;have c:=Pd h p k.1.2;by_cases a:(af h.F.G.Q p).j=0
 ·rw[show co h.F p=h.F by unfold co;rw[CE a]]
  refine fM 32 [(486,[2,0])] [] [(0,0),(0,0)] Tryz.func374 rfl (λu q=>?_)
  repeat'(first|refine gB ?_|refine CH (c) ⟨bP h,⟨rfl,rfl⟩,trivial⟩ ?_)
  refine CL rfl ?_ ?_
  ·exact C1 (λz=>[B z]) ((by simp[a]))
  exact wB
 obtain⟨l,r,n,d,o⟩:=bK b a;have j:=(aZ.1 (aC.1 b).2.1).2.2.1;rw[show co h.F p=fY (lI h.F p) (af h.F.G.Q p).e by unfold co;rw[CC a]];have e:=Ps {h with F:=lI h.F p} (af h.F.G.Q p).e (yq b) ⟨d,by grind [lI],by grind [lI]⟩;rw[VU h (lI h.F p),AG,Hd]at e;have g:=ar (xs:=h.F.G.Q.K) (i:=p.toNat) ω;rw[n]at c e a |-;refine fM 32 [(486,[2,0])] [] [(0,0),(0,0)] Tryz.func374 rfl (λu q=>?_)
 repeat'(first|refine gB ?_|with_reducible refine CO l (aa g) ?_|refine CH (c) ⟨bP h,⟨rfl,rfl⟩,trivial⟩ ?_|refine CR rfl rfl (aa g) rfl (Z1 rfl) rfl ?_)
 refine CL rfl ?_ ?_
 ·exact C1 (λz=>[B z]) ((by simp[a]))
 exact wB
def w8(h:ac)(p:Int):zzA 367 false [.ptr (ac.enc .U h),.val none [I p]] .one [B (fB h p)]:=by
 cases e:h.q
 all_goals
  have b:ac.enc .U h=(ac.enc .U h).set 18 (B h.q):=rfl;rw[e]at b;rw[b];refine fO 29 [] Tryz.func367 rfl ?_
  repeat'(first|refine gP ?_|with_reducible (first|refine Bf.D (λa=>?_) (λa=>?_)|refine Bf.E (λa=>?_) (λa=>?_)|refine Bf.N (λa=>?_) (λa=>?_)))
  all_goals exact C1 (λz=>[B z]) ((by unfold fB;rw[e];first|(simp[*];done)|(simp[*];rw[I6];simp)))
def iR(h:ac):zzA 372 false [.ptr (ac.enc .U h)] .one [I (fo h:Nat)]:=by
 refine fO 11 [] Tryz.func372 rfl ?_
 refine ZP ?_
 rfl
theorem t6(h:ac)(a:Int)(k:h.O.length<=1048576):zzA 509 false [.val (some 24) (ac.enc .U h),.val none [I a]] .one [I (cV (nq a) h.O)]:=by
 refine fO 22 [] Tryz.func509 rfl ?_
 refine ZP ?_
 refine CK (ι:=Nat) (λi=>[(1,.H .one [I (a)]),(2,.H .box (ac.enc .U h)),(5,.H .one [I ((i:Nat):Int)])]) (λi=>i<=h.O.length/\∀(j:Nat)(z:bu),j<i->h.O[j]? = some z->nq a z=false) (λi=>h.O.length - i) (0) ?_ ψ λi c=>?_
 ·exact wB
 obtain⟨c,d⟩:=c;by_cases g:i<h.O.length
 ·have b:=ar g
  by_cases e:(nth h.O i).Addr=a
  ·refine ZB ?_
   grind [dE,nq]
  refine ZB ?_
  (refine CG (i+1) ⟨ω,eA b (by grind [nq]) d⟩ ω ?_;(exact wB))
 refine ZE ?_
 exact C1 (λz=>[I z]) (gv ω d).symm
def p7(h:ac)(i:Nat)(b:i<h.O.length)(a:h.O.length<=1048576):zzB 513 false [.ptr (bL h),.val none [I (i:Nat)]] [.ptr (bL {h with O:=dele h.O i}),.val none [I (i:Nat)]] (.tup []) []:=by
 refine fM 23 [] [(0,273,[4,5,6,7,8,9,10,11,13,14,15,16,17,18,19,21,22,0,1,2,3,4,5,6,7,9,10,11,12,13,14,15,8,1000,1009,1010,1011,1012,1013,1014,1015,16,1000,17,18,19]),(1048576,0,[8])] [(0,0),(0,0)] Tryz.func513 rfl (λu q=>?_) (.inr trivial)
 repeat'(first|refine gP ?_|refine JT.mk rfl (xV h.O) rfl ?_|refine CY i rfl (by rw[O1];omega) (aO λ_=>rfl) C5 ?_|refine Cb (i+1) rfl (by rw[O1];omega) (aO λ_=>rfl) I5 ?_|refine CZ (λ_=>rfl) (λ_=>rfl) (by rw[O2];omega) (by decide) ?_|refine Ap.dele (λ_=>rfl) (λ_=>rfl) a (by decide) ?_|refine CT (λ_=>rfl) (λ_=>rfl) (by rw[O2];omega) (by decide) ?_)
 refine CL rfl rfl ?_;exact wB
theorem FS(h:ac)(E:List Int)(i:Nat)(a:bc h E)(e:i<h.J.length):zzB 524 false [.ptr (bL h),.val none [I (i:Nat)]] [.ptr (bL (giveP h i)),.val none [I (i:Nat)]] (.tup []) []:=by
 have b:=a.lens;have g:=b.spans;have c:=ar e;have j:=oM {h with J:=dele h.J i} (nth h.J i).R a.ker;have d:=iR {h with F:=co h.F (nth h.J i).R,J:=dele h.J i};rw[show fo {h with F:=co h.F (nth h.J i).R,J:=dele h.J i} = fo h from(kv _ _).1]at d;have k:fo h<=32:=b.ents;have l:=np (fo h:Nat) h.o ⟨(nth h.J i).R,1⟩ ω ⟨by grind [pW.free],λ_ _=>trivial⟩;refine fM 52 [(374,[2,0])] [(1,273,[13,14,15,16,17,18,19,20,22,23,24,25,26,27,28,30,31,0,1,2,3,4,5,6,7,9,10,11,12,13,14,15,8,1000,1009,1010,1011,1012,1013,1014,1015,16,1000,17,18,19]),(1048577,0,[6]),(3,270,[38,39,40,41,42,43,44,45,47,37,48,49,50,51,0,1,2,3,4,5,6,7,8,1000,1001,1002,1003,1004,1005,1006,9,10,11,12,13,14,15,1012])] [(0,0),(0,0)] Tryz.func524 rfl (λu q=>?_) (.inr trivial)
 repeat'(first|refine gP ?_|refine JT.mk rfl (Ag h.J) rfl ?_|refine CY i rfl (by rw[O1];omega) (aO λ_=>rfl) C5 ?_|refine Cb (i+1) rfl (by rw[O1];omega) (aO λ_=>rfl) I5 ?_|refine CZ (λ_=>rfl) (λ_=>rfl) (by rw[O2];omega) (by decide) ?_|refine Ap.dele (λ_=>rfl) (λ_=>rfl) ω (by decide) ?_|refine CT (λ_=>rfl) (λ_=>rfl) (by rw[O2];omega) (by decide) ?_|refine CH (d) ⟨bP _,trivial⟩ ?_|refine CH (l) ⟨⟨rfl,rfl⟩,⟨rfl,ee h.o⟩,⟨rfl,rfl⟩,trivial⟩ ?_)
 refine CL rfl rfl ?_;exact wB
def zj(h:ac)(i:Nat)(a:Int):bL (clrS h i a)=(bL h).set 6 (.s .own ((h.J.map (aA.enc .own)).set i (aA.enc .own (ly (nth h.J i) (cT (nth h.J i) a))))):=by
 simp[bL,clrS,S8]
theorem jC{f:α->β}{xs:List α}{y:β}(a:i<xs.length):((xs.map f).set i y)[i]? = some y:=ψ
def Pe(c:bh s=true)(b:eS s a):jK s a=(cT s a,0):=by
 unfold jK;rw[CE ((iv c).2 ⟨b.1,b.2.1⟩),b.2.2.1];rfl
theorem pF(h:ac)(E:List Int)(a:Int)(c:bc h (a::E)):zzB 426 false [.ptr (bL h),.val none [I a]] [.ptr (bL (freeA h a)),.val none [I a]] (.tup []) []:=by
 obtain⟨j,n,t⟩:=c.at (c.hin a ψ);have d:=(c.hin a ψ).bd c;have B:=c.lens;have C:=B.spans;have e:=c.L.sok _ (au j);have k:=lg h (a / 16) ω;rw[t]at k;unfold freeA;generalize sX h a=i at j n k e;have b:=ar j;have o:=wR (nth h.J i) a ⟨ω,ω⟩;rw[Pe e n]at o;have w:=BN (nth h.J i) (cT (nth h.J i) a) e n.2.2.2;have D:=c.give j n;have l:=w8 (clrS h i a) (nth h.J i).R;rw[show fB (clrS h i a) (nth h.J i).R=fB h (nth h.J i).R from rfl]at l;have p:=FS (clrS h i a) E i D (by grind [clrS]);have r:=bP (clrS h i a);rw[zj]at p r;have g:((h.J.map (aA.enc .own)).set i (aA.enc .own (ly (nth h.J i) (cT (nth h.J i) a))))[i]? = some (aA.enc .own (ly (nth h.J i) (cT (nth h.J i) a))):=jC j;unfold freeS;by_cases y:(ly (nth h.J i) (cT (nth h.J i) a)).a9=0
 ·cases F:fB h (nth h.J i).R<;>rw[F]at l
  ·rw[CE ⟨y,rfl⟩]
   refine fM 68 [(524,[2,0])] [(2,274,[26,27,28,29,30,31,32,33,34,35,36,37,38,39,25,40,41,42,0,1,2,3,4,5,6,7,8,9,10,11,12,13,14,15,16,17,18,1016])] [(0,0),(0,0)] Tryz.func426 rfl (λu q=>?_) (.inr trivial)
   repeat'(first|refine gB ?_|with_reducible refine CP ((C1 _ (tdiv16 d.1)).trans (fJ ω ω)) ?_|refine CQ (by decide) ?_|refine CH (k) ⟨⟨rfl,bP h⟩,⟨rfl,rfl⟩,trivial⟩ ?_|refine CF g ?_|refine CJ rfl g rfl ?_|refine CR rfl rfl (aa b) rfl (Z1 rfl) rfl ?_|refine CH (l) ⟨r,⟨rfl,rfl⟩,trivial⟩ ?_)
   refine CL rfl rfl ?_;exact wB
  rw[CC ψ];rw[zj];refine fM 68 [(524,[2,0])] [(2,274,[26,27,28,29,30,31,32,33,34,35,36,37,38,39,25,40,41,42,0,1,2,3,4,5,6,7,8,9,10,11,12,13,14,15,16,17,18,1016])] [(0,0),(0,0)] Tryz.func426 rfl (λu q=>?_) (.inr trivial)
  repeat'(first|refine gB ?_|with_reducible refine CP ((C1 _ (tdiv16 d.1)).trans (fJ ω ω)) ?_|refine CQ (by decide) ?_|refine CH (k) ⟨⟨rfl,bP h⟩,⟨rfl,rfl⟩,trivial⟩ ?_|refine CF g ?_|refine CJ rfl g rfl ?_|refine CR rfl rfl (aa b) rfl (Z1 rfl) rfl ?_|refine CH (l) ⟨r,⟨rfl,rfl⟩,trivial⟩ ?_)
  refine CL rfl rfl ?_;exact wB
 rw[CC λx=>y x.1];rw[zj];refine fM 68 [(524,[2,0])] [(2,274,[26,27,28,29,30,31,32,33,34,35,36,37,38,39,25,40,41,42,0,1,2,3,4,5,6,7,8,9,10,11,12,13,14,15,16,17,18,1016])] [(0,0),(0,0)] Tryz.func426 rfl (λu q=>?_) (.inr trivial)
 repeat'(first|refine gB ?_|with_reducible refine CP ((C1 _ (tdiv16 d.1)).trans (fJ ω ω)) ?_|refine CQ (by decide) ?_|refine CH (k) ⟨⟨rfl,bP h⟩,⟨rfl,rfl⟩,trivial⟩ ?_|refine CF g ?_|refine CJ rfl g rfl ?_|refine CR rfl rfl (aa b) rfl (Z1 rfl) rfl ?_|refine CH (l) ⟨r,⟨rfl,rfl⟩,trivial⟩ ?_)
 refine CL rfl rfl ?_;exact wB
def QT(h:ac)(t:Nat)(c:aF):bL {h with S:=h.S.set t c} = (bL h).set 9 (.s .own ((h.S.map (aF.enc .own)).set t (aF.enc .own c))):=by
 simp[bL,S8]
theorem pJ(h:ac)(E:List Int)(t:Nat)(a:Int)(b:bc h (a::E))(w:t<h.S.length):zzB 515 false [.ptr (bL h),.val none [I (t:Nat)],.val none [I a]] [.ptr (bL (recyc t h a)),.val none [I (t:Nat)],.val none [I a]] (.tup []) []:=by
 obtain⟨o,y,p⟩:=b.at (b.hin a ψ);have g:=(b.hin a ψ).bd b;have B:=b.lens;have C:=B.spans;have j:=aI (b.L.sok _ (au o));have r:=b.cach _ (au w);have l:=lg h (a / 16) ω;rw[p]at l;have D:=pF h E a b;unfold recyc;generalize sX h a=i at o y l j;have n:=ar o;have k:=ar w;have d:=Bw (nth h.S t) (nth h.J i).d.toNat a r ω;rw[Int.toNat_of_nonneg j.2.2.1]at d;unfold Mc at d;cases e:cput (nth h.S t) (nth h.J i).d a with
 | none=>
  rw[e]at d;refine fM 46 [(426,[2,0])] [(1,277,[16,17,18,19,20,21,22,23,24,25,26,27,28,29,30,31,32,15,33,34,7,0,1,2,3,4,5,6,7,8,9,10,11,12,13,14,15,16,17,18,19,20,21,1019,22]),(3,6,[36,37,38,39,40,41])] [(0,0),(0,0),(0,0)] Tryz.func515 rfl (λu q=>?_) (.inr trivial)
  repeat'(first|refine gP ?_|with_reducible refine CP ((C1 _ (tdiv16 g.1)).trans (fJ ω ω)) ?_|refine CQ (by decide) ?_|refine CH (l) ⟨⟨rfl,bP h⟩,⟨rfl,rfl⟩,trivial⟩ ?_|refine CH (d) ⟨⟨rfl,Cg _⟩,⟨rfl,rfl⟩,⟨rfl,rfl⟩,trivial⟩ ?_)
  refine CL rfl rfl ?_;exact wB
 | some c=>
  rw[e]at d;simp only;rw[QT];refine fM 46 [(426,[2,0])] [(1,277,[16,17,18,19,20,21,22,23,24,25,26,27,28,29,30,31,32,15,33,34,7,0,1,2,3,4,5,6,7,8,9,10,11,12,13,14,15,16,17,18,19,20,21,1019,22]),(3,6,[36,37,38,39,40,41])] [(0,0),(0,0),(0,0)] Tryz.func515 rfl (λu q=>?_) (.inr trivial)
  repeat'(first|refine gP ?_|with_reducible refine CP ((C1 _ (tdiv16 g.1)).trans (fJ ω ω)) ?_|refine CQ (by decide) ?_|refine CH (l) ⟨⟨rfl,bP h⟩,⟨rfl,rfl⟩,trivial⟩ ?_|refine CH (d) ⟨⟨rfl,Cg _⟩,⟨rfl,rfl⟩,⟨rfl,rfl⟩,trivial⟩ ?_|refine CR rfl rfl (aa k) rfl (Z1 rfl) rfl ?_)
  refine CL rfl rfl ?_;exact wB
theorem sL(h:ac)(i:Nat)(d:bc h [])(o:i<h.O.length)(t:aL (nth h.O i).y<0):zzB 511 false [.ptr (bL h),.val none [I (i:Nat)]] [.ptr (bL (freeL h i (B5 h (nth h.O i).Addr))),.val none [I (i:Nat)]] (.tup []) []:=by
 obtain⟨l,w,y,-⟩:=(eH d (au o)).1 t;obtain⟨p,B,c,-⟩:=yc w y;generalize B5 h (nth h.O i).Addr=g at p B c;have a:=d.lens;have C:=a.larges;have D:=a.objs;have b:=ar o;have N:=aW (d.L.lok _ (au p));have E:fo h<=32:=a.ents;refine fM 89 [(374,[2,0]),(513,[2,0])] [(4,11,[23,24,25,26,27,28,29,30,31,32,33]),(8,7,[41,42,43,44,45,46,47]),(9,273,[50,51,52,53,54,55,56,57,58,59,60,62,49,63,64,65,66,0,1,2,3,4,5,6,7,8,9,10,11,1000,1001,1002,1003,1004,1005,1006,12,13,14,15,16,17,18,1015]),(10,273,[67,68,69,70,71,72,73,74,76,77,78,79,80,81,82,84,85,0,1,2,3,4,5,6,7,9,10,11,12,13,14,15,8,1000,1009,1010,1011,1012,1013,1014,1015,16,1000,17,18,19]),(1048586,0,[7])] [(0,0),(0,0)] Tryz.func511 rfl (λu q=>?_) (.inr trivial)
 refine ZP ?_
 refine CK (ι:=Nat) (λk=>[(0,.H .box (bL h)),(1,.H .one [I ((i:Nat):Int)]),(4,.H .one [I ((k:Nat):Int)])]) (λk=>k<=g) (λk=>g - k) (0) ?_ (Z0 _) λk O=>?_
 ·exact wB
 have j:=ar (xs:=h.M) (i:=k) ω;have F:=aW (d.L.lok _ (au (xs:=h.M) (i:=k) ω));have G:0<=(nth h.O i).Addr/\(nth h.O i).Addr<=512:=ω
 by_cases e:k=g
 ·subst e
  refine ZB ?_
  refine CK (ι:=Nat) (λn=>[(0,.H .box (bL {h with F:=unmN h.F (nth h.M k).R n})),(1,.H .one [I ((i:Nat):Int)]),(4,.H .one [I ((k:Nat):Int)]),(5,.H .box (aE.enc .own (nth h.M k))),(6,.H .one [I ((n:Nat):Int)])]) (λn=>n<=(nth h.M k).a4.toNat) (λn=>(nth h.M k).a4.toNat - n) (0) ?_ (Z0 _) λn P=>?_
  ·exact wB
  by_cases Q:n<(nth h.M k).a4.toNat
  ·have H:=oM {h with F:=unmN h.F (nth h.M k).R n} ((nth h.M k).R+n) (io d.ker _ _)
   refine ZE ?_
   (refine CG (n+1) ω ω ?_;(exact wB))
  obtain rfl:n=(nth h.M k).a4.toNat:=ω
  have r:=iR {h with F:=unmN h.F (nth h.M k).R (nth h.M k).a4.toNat};rw[show fo {h with F:=unmN h.F (nth h.M k).R (nth h.M k).a4.toNat} = fo h from(eZ _ _ _).1]at r;have J:=np (fo h:Nat) h.o ⟨(nth h.M k).R,(nth h.M k).a4⟩ ω ⟨by grind [pW.free],λ_ _=>trivial⟩;have K:=p7 {h with F:=unmN h.F (nth h.M k).R (nth h.M k).a4.toNat,M:=dele h.M k,o:=(cB (fo h) h.o ⟨(nth h.M k).R,(nth h.M k).a4⟩).getD h.o} i o ψ
  repeat'(first|refine gE ?_|refine JT.mk rfl (vE h.M) rfl ?_|refine CY k rfl (by rw[O1];omega) (aO λ_=>rfl) C5 ?_|refine Cb (k+1) rfl (by rw[O1];omega) (aO λ_=>rfl) I5 ?_|refine CZ (λ_=>rfl) (λ_=>rfl) (by rw[O2];omega) (by decide) ?_|refine Ap.dele (λ_=>rfl) (λ_=>rfl) ω (by decide) ?_|refine CT (λ_=>rfl) (λ_=>rfl) (by rw[O2];omega) (by decide) ?_|refine CH (r) ⟨bP _,trivial⟩ ?_|refine CH (J) ⟨⟨rfl,rfl⟩,⟨rfl,ee h.o⟩,⟨rfl,rfl⟩,trivial⟩ ?_)
  refine CL rfl rfl ?_;exact wB
 have M:=c k ω
 refine ZB ?_
 (refine CG (k+1) ω ω ?_;(exact wB))
def UZ(q:bS)(x:aT):List C:=bS.enc .own (Pw q x)++dm .own (B3 q x)
def Uv(q:bS)(x:aT):i6 (UZ q x):=aJ (bS.enc_fr _) (xg _)
def Fj(q:bS)(a:aT)(K:q.a6.length<=4096)(e:ia q=true)(r:0<=a.d/\a.d<=3/\0<=a.Addr/\0<=a.b7)(t:∀y∈q.a6,y.b7<=a.b7)(u:∀y∈q.a6,y.Addr≠a.Addr) :
  zzA 514 false [.val (some 2) (bS.enc .U q),.val (some 3) (aT.enc .U a)] (.tup [some 2,none]) (UZ q a):=by
 have b:bS.sml q:=⟨ω,λ_ _=>trivial⟩
 have w:=uU q b;have l:=qb q b;rw[e]at l;have n:=DI a;rw[O0 r]at n;have o:=uf q a.Addr b;rw[show q.a6.any (fA a.Addr)=false by rw[List.any_eq_false];intro y B;unfold fA;simpa using u y B]at o;have C:=(kT.1 e).2.2.2;have g:=Uv q a;have L:(aT.mk a.Addr a.d a.b7)=a:=rfl;have c:=H1 q.b8 (q.a6++[a]);simp only[C4,List.length_singleton]at c;by_cases E:q.a6.length=0
 all_goals
  try have h:(nth q.a6 (q.a6.length - 1)).b7<=a.b7:=t _ (au ω)
  try have j:=ar (xs:=q.a6) (i:=q.a6.length - 1) ω
  try have d:q.a6[((q.a6.length:Int) - 1).toNat]? = some (nth q.a6 (q.a6.length - 1)):=by rw[show((q.a6.length:Int) - 1).toNat=q.a6.length - 1 by omega];exact j
  refine fO 74 [(3,27,[15,16,17,18,19,20,21,22,23,24,25,26,27,28,29,30,31,32,33,34,35,36,37,38,39,40,41]),(7,6,[52,53,54,55,56,57]),(9,268,[61,62,63,64,65,66,67,69,70,71,72,73,0,1,2,3,4,5,6,8,9,10,11,12,7,1008,1009,1010,1011,1012,13,14])] Tryz.func514 rfl ?_ (.inr g)
  repeat'(first|refine gE ?_|with_reducible refine Bf.D (λe=>?_) (λe=>?_)|refine CO ω (aa d) ?_|refine Ap.sm (aO λ_=>rfl) rfl (by simp;omega) (by decide) (gS (aT.enc .own) q.a6 a) ?_)
  refine Lp.fz 8 (ι:=Nat) (λk=>[(2,.H .box (bS.enc .U q)),(4,.H .box [I 0,.z]),(8,.H .one (dm .U (q.a6++[a]))),(9,.H .one [I (k:Nat)])]) (λk=>k<=pU q.b8 (q.a6++[a])) (λk=>pU q.b8 (q.a6++[a]) - k) 0 ?_ (Z0 _) λk M=>?_
  ·(repeat'(first|exact trivial|rfl|exact CN rfl (show R1 (dM (dm .own (q.a6++[a]))) (dm .U (q.a6++[a])) by rw[Jl];exact nQ _)|refine CN ?_ ?_))
  have N:(q.a6++[a]).length=q.a6.length+1:=by simp
  have F:((q.a6++[a]).drop k).length<=5000:=by rw[I4];omega
  have G:((q.a6++[a]).take k).length<=5000:=by rw[O2];omega
  have p:=wS ((q.a6++[a]).drop k) ⟨ω,λ_ _=>trivial⟩;by_cases H:k<pU q.b8 (q.a6++[a])
  ·have J:q.b8<quarCells ((q.a6++[a]).drop k) ((q.a6++[a]).drop k).length:=D6 H
   repeat'(first|refine gE ?_|refine Cb k rfl (by rw[O1];omega) (aO λ_=>rfl) I5 ?_)
   (refine CG (k+1) ω ω ?_;(exact wB))
  obtain rfl:k=pU q.b8 (q.a6++[a]):=ω
  have J:quarCells ((q.a6++[a]).drop (pU q.b8 (q.a6++[a]))) ((q.a6++[a]).drop (pU q.b8 (q.a6++[a]))).length<=q.b8:=E6 C.1 _
  repeat'(first|refine gE ?_|refine Cb (pU q.b8 (q.a6++[a])) rfl (by rw[O1];omega) (aO λ_=>rfl) I5 ?_|refine CY (pU q.b8 (q.a6++[a])) rfl (by rw[O1];omega) (aO λ_=>rfl) C5 ?_|refine CZ (λ_=>rfl) (λ_=>rfl) ω (by decide) ?_|refine CT (λ_=>rfl) (λ_=>rfl) ω (by decide) ?_)
  rfl
end Go.Proofs.YtiopgblagimpmaaGreat.Ab
