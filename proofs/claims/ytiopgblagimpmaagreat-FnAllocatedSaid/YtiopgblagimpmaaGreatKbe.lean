/- The library's Sort of numbers, on data of the call's own. No condition. -/
import Derived.Test.YtiopgblagimpmaaGreatKbc
import Derived.Test.YtiopgblagimpmaaGreatKbd
import Derived.Test.YtiopgblagimpmaaGreatKbShelf
import Derived.WalkKit
import Derived.Lib.SliceRun
set_option linter.unusedVariables false
set_option linter.defProp false
set_option linter.unusedSimpArgs false
set_option linter.constructorNameAsVariable false
namespace Go.Proofs.YtiopgblagimpmaaGreat.Ab
open Go.RowKit
set_option maxRecDepth 20000
set_option maxHeartbeats 4000000
def sorted(xs:List Int):List Int:=xs.mergeSort λx y=>decide (x<=y)
theorem yM(xs:List Int):(sorted xs).length=xs.length:=List.length_mergeSort ..
variable{n:Nat}
theorem Hm{w a:World}{g:Nat}{d:Array Int}{h:Array Obj}{c:Array Value}{e:TypeId}{i:Nat × Nat}(j:w.heap[g]? = some (.cells c e i))(k:a=Sort.grow (Sort.putRow (Value.int .i64) (Sort.ahead w n) g 0 d) h) :
  a.os=w.os/\a.tape=w.tape/\a.output=w.output/\w.heap.size<=a.heap.size/\(∀b,b<w.heap.size->b≠g->a.heap[b]? = w.heap[b]?)/\a.heap[g]? = some (.cells (Sort.putCells (Value.int .i64) 0 d c) e i):=by
 subst k;have f:g<w.heap.size:=ψ
 have l:∀b,b<w.heap.size->(Sort.grow (Sort.putRow (Value.int .i64) (Sort.ahead w n) g 0 d) h).heap[b]? = if g=b then(w.heap[b]?).map (Sort.onCells (Sort.putCells (Value.int .i64) 0 d)) else w.heap[b]?:=λb o=>by grind [Go.Sort.heap_grow_old,Go.Sort.putRow,Go.Sort.mapBlock,Go.Sort.ahead]
 refine⟨rfl,rfl,rfl,?_,λb o p=>?_,?_⟩
 ·grind
 ·grind
 rw[l g f,CD rfl,j];rfl
theorem Ra(d:Array Int)(c:Array Value)(q:Nat):(Sort.putCells (Value.int .i64) 0 d c)[q]? = if q<d.size then(c[q]?).map (λ_=>.int .i64 d[q]!) else c[q]?:=by grind [Go.Sort.putCells]
theorem row1{w:World}{S Y:am}{c:C}{v:Value}(h:dM w S Y c v):cR w S Y [c] (λ_=>v):=by
 refine⟨λ_=>Y,λj a b=>?_,λ_ _ _ _ h=>h,ψ⟩
 all_goals grind
def UK(Y:am):Nat->am
 | 0=>Y
 | _+1=>NO
variable{j:Nat}
theorem PG(xs:List Int)(a:j<xs.length):xs.toArray[j]! = xs[j]:=ψ
theorem QS(xs:List Int)(hl:xs.length<=1048576*64):zzB 383 false [.mut none (aH .own xs)] [.mut none (aH .own (sorted xs))] (.tup []) []:=by
 refine⟨⟨_,Tryz.func383,by kernel_rfl,by kernel_rfl⟩,λw S V vs hS hV hVV N=>?_⟩
 match vs,N with
 | [v],⟨N,_⟩=>
  have t:=bB.rep1 (show bB w S (V 0) none [C.s .own (xs.map (rI .own))] v from N);generalize F:C.s .own (xs.map (rI .own))=cc at t;cases t with
  | nil _ o a ho=>
   cases hcc0:xs with
   | cons x xs'=>grind
   | nil=>
    refine(Tryz.slices_Sort_int_none a 0 w).mono λe p ⟨O,B⟩=>?_
    subst B;refine⟨.tuple #[],O,Ca _ _,NO,λ_=>NO,NO,λ_ _ h=>h.elim,λ_ _ _ h=>h.elim,λ_ _ h=>h.elim,λ_ _ _ _ _ h=>h.elim,λ_ _ _ h=>h.elim,λ_ _ h=>h.elim,λ_ _ _ h=>h.elim,⟨#[],rfl,trivial,rfl⟩,cR.nil _ _ _ _,⟨⟨rfl,λ_=>.slice a 0 0,rfl,row1 (by rw[show sorted []=[] from List.mergeSort_nil ..];exact .nil _ .own _ trivial)⟩,trivial⟩⟩
  | own _ o g k n D rows u f ho hn hk G H hF hu hf hd hc=>
   cases F;have P:n=xs.length:=ψ
   have Q:0<xs.length:=ω
   have R:k=1:=by
    have:=hk (rI .own xs[0]) ψ;exact this.symm
   subst R P;have y:∀j (l:j<xs.length),cel w g j=some (.int .i64 xs[j]):=λj l=>by
    have h1:=hu j ω;have T:=hc j 0 (rI .own xs[j]) (I xs[j]) ψ rfl;rw[Nat.mul_one,Nat.add_zero]at T;rw[h1];generalize u j=z at T;cases T
    rfl
   have U:g<w.heap.size:=ψ
   obtain⟨c,e0,fr,hg,-⟩:=Sort.cells_of_cell? (y 0 Q);have hH:Sort.Holds (Value.int .i64) w g 0 xs.toArray:=λj l=>by
    have J:j<xs.length:=by simpa using l
    refine⟨?_,?_⟩
    ·rw[PG xs J,X7];exact y j J
    rw[X7];exact Z0 Prod.fst (hF j ω).2.2
   refine(Tryz.slices_Sort_int g 0 D xs w hH U ω).mono λe p ⟨O,m,os,B⟩=>?_
   obtain⟨q1,q2,q3,q4,q5,q6⟩:=Hm hg B;have hsl:=yM xs;have hcel:∀q,cel w g q=c[q]?:=λq=>by grind [Go.World.cell?]
   have W:∀q,cel p g q=if q<xs.length then(c[q]?).map (λ_=>.int .i64 (sorted xs).toArray[q]!) else c[q]?:=λq=>by grind [Ra,Go.World.cell?,sorted]
   have d:∀q (X:q<xs.length),cel p g q=some (.int .i64 ((sorted xs)[q]'(ω))):=ψ
   have K:∀q,fro p g q=fro w g q:=λq=>by
    refine Prod.ext ?_ ?_
    ·grind [Go.World.frozen?]
    grind [mp,Go.Sort.putCells]
   have hother:∀b,b<w.heap.size->b≠g->∀o,cel p b o=cel w b o/\fro p b o=fro w b o:=λb hb L o=>by grind [Go.World.cell?,Go.World.frozen?,mp]
   have E:bx (λb o=>∃i,V i b o) w p:=by
    refine⟨q1,q2,q3,q4,ψ,λb o hb hn=>?_,λb o hb hn=>?_⟩
    all_goals grind
   refine⟨.tuple #[],O,E,NO,UK (V 0),NO,λ_ _ h=>h.elim,λi b o h=>?_,λ_ _ h=>h.elim,λi i' L b o h h'=>?_,λ_ _ _ h=>h.elim,λ_ _ h=>h.elim,λ_ _ _ _ h=>h.elim,⟨#[],rfl,trivial,rfl⟩,cR.nil _ _ _ _,⟨⟨rfl,λ_=>.slice (some ⟨g,0,none⟩) xs.length D,rfl,row1 ?_⟩,trivial⟩⟩
   ·cases i with
    | zero=>exact .inl ⟨0,h⟩
    | succ i=>exact h.elim
   ·cases i with
    | zero=>
     cases i' with
     | zero=>exact L rfl
     | succ i'=>exact h'.elim
    | succ i=>exact h.elim
   show dM p _ (V 0) _ _;refine .own _ .own g 1 xs.length D _ (λq=>(cel p g q).getD undef) (λ_=>NO) trivial ψ (λr hr=>by obtain⟨z,-,rfl⟩:=Y4.1 hr;rfl) G H (λq X=>?_) (λq X=>?_) (λ_ _ _ _ h=>h.elim) (λ_ _ _ _ _ _ _ h=>h.elim) (λi j r c2 M l=>?_)
   ·obtain⟨a1,⟨z,a2,a3⟩,a4⟩:=hF q X
    refine⟨a1,?_,(K q).trans a4⟩;by_cases Y:q<xs.length
    ·exact⟨_,d q Y,rfl⟩
    grind
   ·grind
   rw[X3]at M;have Z:i<(sorted xs).length:=ψ
   rw[X2 Z]at M;simp only[Y5,C1]at M;subst M
   match j,l with
   | 0,l=>
    simp only[rI,List.getElem?_cons_zero,C1]at l;subst l;simp only[Nat.mul_one,Nat.add_zero,d i ω,Option.getD_some];exact .v _ _ rfl
   | j+1,l=>simp[rI]at l
  | _=>cases F
set_option maxHeartbeats 8000000
def jQ(s:aA)(k:Nat):Int:=16*s.Q+(k:Nat)*csz s.d
def eG(s:aA)(n:Nat):List Int:=((List.range n).filter λk=>aZ s.a9 (k:Nat)).map (jQ s)
variable{s:aA}
theorem DE(h:aZ s.a9 (n:Nat)=true):eG s (n+1)=eG s n++[jQ s n]:=by grind [List.range_succ,eG]
theorem Gr(h:aZ s.a9 (n:Nat)=false):eG s (n+1)=eG s n:=by grind [List.range_succ,eG]
theorem tf(s:aA)(n:Nat):(eG s n).length<=n:=by grind [eG]
def fG(sp:List aA):List Int:=sp.flatMap λs=>eG s (slots s.d).toNat
def live0(sp:List aA)(la:List aC):List Int:=fG sp++la.map λl=>16*l.Q
def oA(sp:List aA)(la:List aC):List Int:=sorted (live0 sp la)
theorem sv(k:Int):0<=slots k/\slots k<=16:=by grind [slots]
def A3{k:Int}(h:0<=k/\k<=3):slots k*csz k=16:=by
 obtain rfl|rfl|rfl|rfl:k=0\/k=1\/k=2\/k=3:=ω
 all_goals decide
variable{i:Nat}{sp:List aA}
theorem yE(h:sp[i]? = some s):fG (sp.take (i+1))=fG (sp.take i)++eG s (slots s.d).toNat:=by grind [I6,fG]
def ri(s:aA)(k:Nat)(a:bi s=true)(i:(k:Int)<slots s.d):zzA 339 false [.val (some 3) (aA.enc .V s),.val none [I (k:Nat)]] .one [I (jQ s k)]:=by
 have b:=jU s;have c:=fI s.d;have g:=fZ s.d;rw[a]at b;have d:=aI a;have j:=sv s.d;rcases ce ⟨d.2.2.1,d.2.2.2⟩ with e|e|e|e<;>rw[e]at c
 all_goals
  refine fO 26 [(3,9,[17,18,19,20,21,22,23,24,25])] Tryz.func339 rfl ?_
  repeat'(first|refine gE ?_|(conv=>whnf);first|with_reducible refine Bf.D (λh=>?_) (λh=>?_)|refine C9 b ?_|refine C9 c ?_|refine C9 g ?_|refine C9 (aN _ 0 _) ?_)
  all_goals exact Z0 (λz=>[I z]) (by unfold jQ;rw[e];omega)
theorem xn(sp:List aA)(la:List aC)(c:dB sp)(d:dP la)(a:bt sp la=true):zzA 238 false [.val none (cE .V sp),.val none (cz .V la)] .one (aH .own (oA sp la)):=by
 have D:=c.1;have E:=d.1;have B:=qQ sp la c d;rw[a]at B;obtain⟨o,F,-⟩:=ew a;refine fP 56 [(383,[1])] [] Tryz.func238 rfl ?_ (.inr (bO _))
 repeat'(first|refine gP ?_|(conv=>whnf);first|refine C9 B ?_)
 (conv=>whnf)
 refine CJ (ι:=Nat × List Int) (λi=>[(1,.H .one (cz .V la)),(5,.H .one (aH .own i.2)),(16,.H .one (cE .V sp)),(17,.H .one [I (sp.length)]),(18,.H .one [I ((i.1:Nat):Int)])]) (λi=>i.1<=sp.length/\i.2=fG (sp.take i.1)/\i.2.length<=16*i.1) (λi=>sp.length - i.1) ((0,[])) ?_ (⟨X0 _,rfl,X0 _⟩) λi e=>?_
 ·exact wB
 obtain⟨i,S⟩:=i;obtain⟨e,p,G⟩:=e;simp only at e p G |-;by_cases j:i<sp.length
 ·have n:=au j
  have g:bi (nth sp i)=true:=Qi o j;have H:=sv (nth sp i).d;have q:=fV g
  repeat'(first|refine gE ?_|(conv=>whnf);first|with_reducible refine CE (aa n) ?_)
  (conv=>whnf)
  refine CJ (ι:=Nat × List Int) (λk=>[(1,.H .one (cz .V la)),(5,.H .one (aH .own k.2)),(7,.H .box (aA.enc .V (nth sp i))),(8,.H .one [I ((k.1:Nat):Int)]),(16,.H .one (cE .V sp)),(17,.H .one [I (sp.length)]),(18,.H .one [I ((i:Nat):Int)])]) (λk=>k.1<=(slots (nth sp i).d).toNat/\k.2=S++eG (nth sp i) k.1) (λk=>(slots (nth sp i).d).toNat - k.1) ((0,S)) ?_ (⟨X0 _,by simp[eG]⟩) λk t=>?_
  ·exact wB
  obtain⟨k,S2⟩:=k;obtain⟨t,b⟩:=t;simp only at t b |-;have J:=tf (nth sp i) k;have h:S2.length=S.length+(eG (nth sp i) k).length:=ψ
  by_cases M:k<(slots (nth sp i).d).toNat
  ·have u:=nB (nth sp i).a9 (k:Nat) q.2
   cases K:aZ (nth sp i).a9 (k:Nat)<;>rw[K]at u
   ·repeat'(first|refine gE ?_|(conv=>whnf);first|refine C9 (fZ _) ?_|refine C9 u ?_)
    ((conv=>whnf);refine CF (k+1,S2) ⟨(by simp only;omega),(by grind [Gr])⟩ (by simp only;omega) ?_;(exact wB))
   repeat'(first|refine gE ?_|(conv=>whnf);first|refine C9 (fZ _) ?_|refine C9 u ?_|refine C9 (ri (nth sp i) k g ω) ?_|refine CV cB (λr w=>by rw[V1.1 w];rfl) (by simp[bj,ed]) (by simp;omega) (by show _*8<=_;simp;omega) rfl ?_)
   ((conv=>whnf)
    refine CF (k+1,S2++[jQ (nth sp i) k]) ⟨(by simp only;omega),(by grind [DE])⟩ (by simp only;omega) ?_
    (repeat'(first|exact trivial|rfl|exact CM rfl (CM (Z0 (C.s dR.own) (by simp[rI])) trivial)|refine CM ?_ ?_)))
  obtain rfl:k=(slots (nth sp i).d).toNat:=ω
  repeat'(first|refine gE ?_|(conv=>whnf);first|refine C9 (fZ _) ?_)
  ((conv=>whnf);refine CF (i+1,S2) ⟨(by simp only;omega),(by grind [yE]),(by simp only;omega)⟩ (by simp only;omega) ?_;(exact wB))
 obtain rfl:i=sp.length:=ω
 rw[X5]at p
 repeat'(first|refine gE ?_|fail)
 (conv=>whnf)
 refine CJ (ι:=Nat × List Int) (λi=>[(5,.H .one (aH .own i.2)),(40,.H .one (cz .V la)),(41,.H .one [I (la.length)]),(42,.H .one [I ((i.1:Nat):Int)])]) (λi=>i.1<=la.length/\i.2=S++(la.take i.1).map (λl=>16*l.Q)) (λi=>la.length - i.1) ((0,S)) ?_ ψ λi e=>?_
 ·exact wB
 obtain⟨i,S2⟩:=i;obtain⟨y,b⟩:=e;simp only at y b |-;have h:S2.length=S.length+i:=ψ
 by_cases j:i<la.length
 ·have n:=au j
  have L:=uJ a n
  repeat'(first|refine gE ?_|(conv=>whnf);first|with_reducible refine CE (aa n) ?_|refine CV cB (λr w=>by rw[V1.1 w];rfl) (by simp[bj,ed]) (by simp;omega) (by show _*8<=_;simp;omega) rfl ?_)
  ((conv=>whnf)
   refine CF (i+1,S2++[16*(nth la i).Q]) ⟨(by simp only;omega),(by grind [I6])⟩ (by simp only;omega) ?_
   (repeat'(first|exact trivial|rfl|exact CM rfl (CM (Z0 (C.s dR.own) (by simp[rI];omega)) trivial)|refine CM ?_ ?_)))
 obtain rfl:i=la.length:=ω
 rw[X5]at b
 repeat'(first|refine gE ?_|(conv=>whnf);first|refine CL (QS S2 ω) (.inl rfl) ?_)
 show _=aH .own (sorted (fG sp++la.map λl=>16*l.Q));rw[<-p,<-b];rfl
def qO(b:List (Int × Value))(L:List Int):Prop:=∀a,mlook b a (.int .i64 0)=.int .i64 (L.count a:Nat)
theorem LQ(c:List (Int × Value))(a b:Int)(v d:Value):mlook (mput c a v) b d=if a=b then v else mlook c b d:=by
 induction c with
 | nil=>grind [mput,mlook]
 | cons p c e=>
  grind [mput,mlook]
def inc(b:List (Int × Value))(L:List Int)(a:Int):List (Int × Value):=mput b a (.int .i64 ((L.count a:Nat)+1))
def Ly:qO [] []:=λ_=>rfl
theorem qh{d:List (Int × Value)}{L:List Int}(h:qO d L)(a:Int):qO (inc d L a) (L++[a]):=λb=>by
 unfold inc;rw[LQ,Y6];by_cases c:a=b
 ·grind
 rw[CB c,h b,List.count_singleton,CB (by simpa using c)];rfl
theorem BR(h:ac)(d:dB h.J)(e:dP h.M)(b:List (Int × Value))(L:List Int)(a c:Int)(g:qO b L)(n:L.length<=1000000000) :
  zzB 236 false [.val none [I a],.val none [I c],.ptr [.m b],.ptr (ac.enc .V h)] [.val none [I a],.val none [I c],.ptr [.m (inc b L a)],.ptr (ac.enc .V h)] .one [B (dy h a c)]:=by
 have k:=sf h.J h.M a d e;obtain⟨i,-⟩:=n9 h.J h.M a;have l:L.count a<=L.length:=List.count_le_length;unfold dy;generalize denotes h.J h.M a=w at k i |-;refine fM 41 [] [] [(0,0),(0,0),(0,0),(0,0)] Tryz.func236 rfl (λu q=>?_)
 repeat'(first|refine gP ?_|(conv=>whnf);first|with_reducible (first|refine Bf.D (λj=>?_) (λj=>?_)|refine Bf.E (λj=>?_) (λj=>?_))|refine Ml.mk (g a) ?_|refine Mu.mk (es':=inc b L a) rfl ?_|refine C9 k ?_|refine CO (i (by assumption)).1 (aa (au (i (by assumption)).2)) ?_)
 all_goals
  refine CH rfl ?_ ?_
  ·exact Z0 (λz=>[B z]) (ψ)
  exact wB
set_option maxHeartbeats 8000000
def t7(h:ac)(a:aR):Bool:=ir h a&&decide (a.b6<=h.b1)
def nl(h:ac):List Int:=((cH h++h.a7.a6.map (·.Addr))++aQ h.w)++h.O.map (·.Addr)
def jN(h:ac):Bool:=((h.S.all (fh h)&&h.a7.a6.all (t7 h))&&(aQ h.w).all (kN h))&&(oA h.J h.M).all λa=>decide ((nl h).count a=1)
variable{h:ac}
theorem Qc(h1:h.S.all (fh h)=false):jN h=false:=by grind [jN]
theorem JV(h1:h.a7.a6.all (t7 h)=false):jN h=false:=by grind [jN]
theorem QQ(h1:(aQ h.w).all (kN h)=false):jN h=false:=by grind [jN]
theorem QU(h1:((oA h.J h.M).all λa=>decide ((nl h).count a=1))=false):jN h=false:=by grind [jN]
variable{la:List aC}
theorem Lh(h1:sp.length<=1048576)(a:la.length<=1048576):(oA sp la).length<=100000000:=by
 have b:∀(l:List aA),(fG l).length<=16*l.length:=by
  intro l
  induction l with
  | nil=>exact X0 _
  | cons s l c=>
   have e:fG (s::l)=eG s (slots s.d).toNat++fG l:=by grind [fG]
   have d:=sv s.d
   grind [tf]
 grind [yM,oA,live0]
theorem yu(h:ac)(hs:ac.sml h)(P:bt h.J h.M=true)(G:bR h.w=true)(Z:∀c∈h.S,b9 c=true):zzA 82 false [.val (some 24) (ac.enc .V h)] .one [B (jN h)]:=by
 obtain⟨-,-,p,r,hso,hsc,hsm,hsq,-⟩:=hs;have hlo:h.O.length<=1048576:=hso.1;have hlc:h.S.length<=1048576:=hsc.1;have hlq:h.a7.a6.length<=1048576:=hsq.1;have hfl:=tw G;have t:jN h=false->[B false]=[B (jN h)]:=λe=>by rw[e]
 refine fP 114 [(236,[0,0,2,2])] [] Tryz.func82 rfl ?_
 repeat'(first|refine gP ?_|fail)
 (conv=>whnf)
 refine CJ (ι:=Nat × List (Int × Value) × List Int) (λi=>[(1,.H .box (ac.enc .V h)),(3,.H .box [.m i.2.1]),(4,.fn 236 [3,1]),(22,.H .one (pG .V h.S)),(23,.H .one [I (h.S.length)]),(24,.H .one [I ((i.1:Nat):Int)])]) (λi=>i.1<=h.S.length/\qO i.2.1 i.2.2/\i.2.2=((h.S.take i.1).flatMap λc=>c.a.flatten)/\(h.S.take i.1).all (fh h)=true/\i.2.2.length<=32*i.1) (λi=>h.S.length - i.1) ((0,[],[])) ?_ (⟨X0 _,Ly,rfl,rfl,X0 _⟩) λi hi=>?_
 ·exact wB
 obtain⟨i,es,L⟩:=i;obtain⟨hi,Q,hL,ai,hb⟩:=hi;simp only at hi Q hL ai hb |-;by_cases li:i<h.S.length
 ·have W:=au li
  obtain⟨h4,h8⟩:=vL (Z _ (ar li))
  repeat'(first|refine gE ?_|(conv=>whnf);first|with_reducible refine CE (aa W) ?_)
  (conv=>whnf)
  refine CJ (ι:=Nat × List (Int × Value) × List Int) (λk=>[(1,.H .box (ac.enc .V h)),(3,.H .box [.m k.2.1]),(4,.fn 236 [3,1]),(22,.H .one (pG .V h.S)),(23,.H .one [I (h.S.length)]),(24,.H .one [I ((i:Nat):Int)]),(29,.H .one (jE .V (nth h.S i).a)),(30,.H .one [I ((nth h.S i).a.length)]),(31,.H .one [I ((k.1:Nat):Int)])]) (λk=>k.1<=(nth h.S i).a.length/\qO k.2.1 k.2.2/\k.2.2=L++((nth h.S i).a.take k.1).flatten/\df k.1 (sF h (nth h.S i))=true/\k.2.2.length<=L.length+8*k.1) (λk=>(nth h.S i).a.length - k.1) ((0,es,L)) ?_ (⟨X0 _,Q,by simp,rfl,by simp⟩) λk hk=>?_
  ·exact wB
  obtain⟨k,es3,X⟩:=k;obtain⟨hk,F,R,ak,hb3⟩:=hk;simp only at hk F R ak hb3 |-;by_cases lk:k<(nth h.S i).a.length
  ·have hy:=au lk
   have hl8:=h8 _ (ar lk)
   repeat'(first|refine gE ?_|(conv=>whnf);first|with_reducible (first|refine CE (aa W) ?_|refine CE (aa hy) ?_))
   (conv=>whnf)
   refine CJ (ι:=Nat × List (Int × Value) × List Int) (λj=>[(1,.H .box (ac.enc .V h)),(3,.H .box [.m j.2.1]),(4,.fn 236 [3,1]),(7,.H .one [I ((k:Nat):Int)]),(22,.H .one (pG .V h.S)),(23,.H .one [I (h.S.length)]),(24,.H .one [I ((i:Nat):Int)]),(29,.H .one (jE .V (nth h.S i).a)),(30,.H .one [I ((nth h.S i).a.length)]),(31,.H .one [I ((k:Nat):Int)]),(36,.H .one (aH .V (nth (nth h.S i).a k))),(37,.H .one [I ((nth (nth h.S i).a k).length)]),(38,.H .one [I ((j.1:Nat):Int)])]) (λj=>j.1<=(nth (nth h.S i).a k).length/\qO j.2.1 j.2.2/\j.2.2=X++(nth (nth h.S i).a k).take j.1/\((nth (nth h.S i).a k).take j.1).all (λa=>dy h a (k:Nat))=true) (λj=>(nth (nth h.S i).a k).length - j.1) ((0,es3,X)) ?_ ψ λj hj=>?_
   ·exact wB
   obtain⟨j,es4,S⟩:=j;obtain⟨hj,l,T,Y⟩:=hj;simp only at hj l T Y |-;have hl4:S.length=X.length+j:=ψ
   by_cases lj:j<(nth (nth h.S i).a k).length
   ·have d:=au lj
    have b:=BR h p r es4 S (nth (nth (nth h.S i).a k) j) (k:Nat) l ω;cases o:dy h (nth (nth (nth h.S i).a k) j) (k:Nat)<;>rw[o]at b
    ·repeat'(first|refine gE ?_|(conv=>whnf);first|with_reducible refine CE (aa d) ?_|refine CL (b) (.inl rfl) ?_)
     exact t (Qc (gy W (by unfold fh;exact cC lk (gy d o))))
    repeat'(first|refine gE ?_|(conv=>whnf);first|with_reducible refine CE (aa d) ?_|refine CL (b) (.inl rfl) ?_)
    ((conv=>whnf)
     refine CF (j+1,inc es4 S (nth (nth (nth h.S i).a k) j),S++[nth (nth (nth h.S i).a k) j]) ⟨(by simp only;omega),qh l _,(by grind [I6]),cX d Y o⟩ (by simp only;omega) ?_
     (exact wA))
   obtain rfl:j=(nth (nth h.S i).a k).length:=ω
   rw[X5]at T Y
   repeat'(first|refine gE ?_|fail)
   ((conv=>whnf);refine CF (k+1,es4,S) ⟨(by simp only;omega),l,(by grind [xZ]),bU ak Y,(by simp only;omega)⟩ (by simp only;omega) ?_;(exact wB))
  obtain rfl:k=(nth h.S i).a.length:=ω
  rw[X5]at R
  repeat'(first|refine gE ?_|fail)
  ((conv=>whnf);refine CF (i+1,es3,X) ⟨(by simp only;omega),F,(by grind [uZ]),cX W ai ak,(by simp only;omega)⟩ (by simp only;omega) ?_;(exact wB))
 obtain rfl:i=h.S.length:=ω
 rw[X5]at hL ai
 repeat'(first|refine gE ?_|fail)
 (conv=>whnf)
 refine CJ (ι:=Nat × List (Int × Value) × List Int) (λq=>[(1,.H .box (ac.enc .V h)),(3,.H .box [.m q.2.1]),(4,.fn 236 [3,1]),(52,.H .one (cY .V h.a7.a6)),(53,.H .one [I (h.a7.a6.length)]),(54,.H .one [I ((q.1:Nat):Int)])]) (λq=>q.1<=h.a7.a6.length/\qO q.2.1 q.2.2/\q.2.2=L++(h.a7.a6.take q.1).map (·.Addr)/\(h.a7.a6.take q.1).all (t7 h)=true) (λq=>h.a7.a6.length - q.1) ((0,es,L)) ?_ ψ λq u=>?_
 ·exact wB
 obtain⟨q,es5,H⟩:=q;obtain⟨w,y,E,aq⟩:=u;simp only at w y E aq |-;have hl5:H.length=L.length+q:=ψ
 by_cases U:q<h.a7.a6.length
 ·have d:=au U
  have b:=BR h p r es5 H (nth h.a7.a6 q).Addr (nth h.a7.a6 q).d y ω;cases o:dy h (nth h.a7.a6 q).Addr (nth h.a7.a6 q).d<;>rw[o]at b
  ·repeat'(first|refine gE ?_|(conv=>whnf);first|with_reducible (first|refine CE (aa d) ?_|refine Bf.D (λu=>?_) (λu=>?_))|refine CL (b) (.inl rfl) ?_)
   all_goals exact t (JV (gy d (by unfold t7 ir;rw[o];rfl)))
  repeat'(first|refine gE ?_|(conv=>whnf);first|with_reducible (first|refine CE (aa d) ?_|refine Bf.D (λu=>?_) (λu=>?_))|refine CL (b) (.inl rfl) ?_)
  all_goals first
   |exact t (JV (gy d (by unfold t7 ir;rw[o,W0 ω];rfl)))
   | ((conv=>whnf)
      refine CF (q+1,inc es5 H (nth h.a7.a6 q).Addr,H++[(nth h.a7.a6 q).Addr]) ⟨(by simp only;omega),qh y _,(by simp only;rw[E,I6,d,V6,O6];rfl),cX d aq (by unfold t7 ir;rw[o,O0 ω];rfl)⟩ (by simp only;omega) ?_
      (exact wA))
 obtain rfl:q=h.a7.a6.length:=ω
 rw[X5]at E aq
 repeat'(first|refine gE ?_|(conv=>whnf);first|refine C9 (zt h.w hsm) ?_)
 (conv=>whnf)
 refine CJ (ι:=Nat × List (Int × Value) × List Int) (λq=>[(1,.H .box (ac.enc .V h)),(3,.H .box [.m q.2.1]),(4,.fn 236 [3,1]),(75,.H .one (aH .own (aQ h.w))),(76,.H .one [I ((aQ h.w).length)]),(77,.H .one [I ((q.1:Nat):Int)])]) (λq=>q.1<=(aQ h.w).length/\qO q.2.1 q.2.2/\q.2.2=H++(aQ h.w).take q.1/\((aQ h.w).take q.1).all (kN h)=true) (λq=>(aQ h.w).length - q.1) ((0,es5,H)) ?_ ψ λq u=>?_
 ·exact wB
 obtain⟨q,es6,J⟩:=q;obtain⟨w,C,K,aq6⟩:=u;simp only at w C K aq6 |-;have hl6:J.length=H.length+q:=ψ
 by_cases U:q<(aQ h.w).length
 ·have d:=au U
  have b:=BR h p r es6 J (nth (aQ h.w) q) (-1) C ω;cases o:dy h (nth (aQ h.w) q) (-1)<;>rw[o]at b
  ·repeat'(first|refine gE ?_|(conv=>whnf);first|with_reducible refine CE (aa d) ?_|refine CG rfl (aa d) rfl ?_|refine CL (b) (.inl rfl) ?_)
   exact t (QQ (gy d o))
  repeat'(first|refine gE ?_|(conv=>whnf);first|with_reducible refine CE (aa d) ?_|refine CG rfl (aa d) rfl ?_|refine CL (b) (.inl rfl) ?_)
  ((conv=>whnf)
   refine CF (q+1,inc es6 J (nth (aQ h.w) q),J++[nth (aQ h.w) q]) ⟨(by simp only;omega),qh C _,(by grind [I6]),cX d aq6 o⟩ (by simp only;omega) ?_
   (exact wA))
 obtain rfl:q=(aQ h.w).length:=ω
 rw[X5]at K aq6
 repeat'(first|refine gE ?_|fail)
 (conv=>whnf)
 refine CJ (ι:=Nat × List (Int × Value) × List Int) (λq=>[(1,.H .box (ac.enc .V h)),(3,.H .box [.m q.2.1]),(87,.H .one (nA .V h.O)),(88,.H .one [I (h.O.length)]),(89,.H .one [I ((q.1:Nat):Int)])]) (λq=>q.1<=h.O.length/\qO q.2.1 q.2.2/\q.2.2=J++(h.O.take q.1).map (·.Addr)) (λq=>h.O.length - q.1) ((0,es6,J)) ?_ ψ λq u=>?_
 ·exact wB
 obtain⟨q,es7,M⟩:=q;obtain⟨w,g,O⟩:=u;simp only at w g O |-;have hl7:M.length=J.length+q:=ψ
 by_cases U:q<h.O.length
 ·have d:=au U
  have hcl:M.count (nth h.O q).Addr<=M.length:=List.count_le_length
  repeat'(first|refine gE ?_|(conv=>whnf);first|with_reducible refine CE (aa d) ?_|refine Ml.mk (g _) ?_|refine Mu.mk (es':=inc es7 M (nth h.O q).Addr) rfl ?_)
  ((conv=>whnf)
   refine CF (q+1,inc es7 M (nth h.O q).Addr,M++[(nth h.O q).Addr]) ⟨(by simp only;omega),qh g _,(by grind [I6])⟩ (by simp only;omega) ?_
   (exact wA))
 obtain rfl:q=h.O.length:=ω
 rw[X5]at O;have V:M=nl h:=by rw[O,K,E,hL];rfl
 have hlv:=Lh p.1 r.1
 repeat'(first|refine gE ?_|(conv=>whnf);first|refine C9 (xn h.J h.M p r P) ?_)
 (conv=>whnf)
 refine CJ (ι:=Nat) (λn=>[(3,.H .box [.m es7]),(103,.H .one (aH .own (oA h.J h.M))),(104,.H .one [I ((oA h.J h.M).length)]),(105,.H .one [I ((n:Nat):Int)])]) (λn=>n<=(oA h.J h.M).length/\((oA h.J h.M).take n).all (λa=>decide ((nl h).count a=1))=true) (λn=>(oA h.J h.M).length - n) (0) ?_ ψ λn hn=>?_
 ·exact wB
 obtain⟨hn,an⟩:=hn;by_cases ln:n<(oA h.J h.M).length
 ·have d:=au ln
  rw[V]at g
  repeat'(first|refine gE ?_|(conv=>whnf);first|with_reducible (first|refine CE (aa d) ?_|refine Bf.N (λu=>?_) (λu=>?_))|refine CG rfl (aa d) rfl ?_|refine Ml.mk (g _) ?_)
  all_goals first
   |exact t (QU (gy d (W0 ω)))
   | ((conv=>whnf);refine CF (n+1) ⟨ω,cX d an (O0 ω)⟩ ω ?_;(exact wB))
 repeat'(first|refine gE ?_|fail)
 exact Z0 (λz=>[B z]) ((by grind [jN]))
set_option maxHeartbeats 8000000
def jV(h:ac):Bool:=(((((((aF h.G&&bF (fk h) h.o)&&bt h.J h.M)&&(pages0 h&&pP h))&&d6 h)&&h.S.all b9)&&(fY h&&jN h))&&cn h)&&tn h
theorem pk(h:ac)(S:ac.sml h):zzA 23 false [.val (some 24) (ac.enc .V h)] .one [B (jV h)]:=by
 have G:=S;obtain⟨n,o,b,g,H,p,q,J,r⟩:=S;have u:yw h:=n.1.2;have hpn:fk h<=1048576:=u.1;have K:h.O.length<=1048576:=H.1;have L:h.S.length<=1048576:=p.1;have hlb:h.w.U.length<=1048576:=q.1.1;have hlp:h.Y.X.T.length<=1048576:=r;have d:=re h.G n;have e:=qL (fk h) h.o ω o;have i:=qQ h.J h.M b g;have w:=vC h.w q;have M:=Gb h.a7 J;cases T:aF h.G<;>rw[T]at d
 ·refine fO 154 [] Tryz.func23 rfl ?_
  repeat'(first|refine gP ?_|(conv=>whnf);first|with_reducible refine Bf.N (λa=>?_) (λa=>?_)|refine C9 d ?_)
  all_goals first
   | exact Z0 (λz=>[B z]) ((by unfold jV ;rw[T];simp))
   |(exfalso;omega)
 cases U:bF (fk h) h.o<;>rw[U]at e
 ·refine fO 154 [] Tryz.func23 rfl ?_
  repeat'(first|refine gP ?_|(conv=>whnf);first|with_reducible refine Bf.N (λa=>?_) (λa=>?_)|refine C9 d ?_|refine C9 e ?_)
  all_goals first
   | exact Z0 (λz=>[B z]) ((by unfold jV ;rw[U];simp))
   |(exfalso;omega)
 cases F:bt h.J h.M<;>rw[F]at i
 ·refine fO 154 [] Tryz.func23 rfl ?_
  repeat'(first|refine gP ?_|(conv=>whnf);first|with_reducible refine Bf.N (λa=>?_) (λa=>?_)|refine C9 d ?_|refine C9 e ?_|refine C9 i ?_)
  all_goals first
   | exact Z0 (λz=>[B z]) ((by unfold jV ;rw[F];simp))
   |(exfalso;omega)
 have j:=Dv h b g u o F;cases V:(pages0 h&&pP h)<;>rw[V]at j
 ·refine fO 154 [] Tryz.func23 rfl ?_
  repeat'(first|refine gP ?_|(conv=>whnf);first|with_reducible refine Bf.N (λa=>?_) (λa=>?_)|refine C9 d ?_|refine C9 e ?_|refine C9 i ?_|refine C9 j ?_)
  all_goals first
   | exact Z0 (λz=>[B z]) ((by unfold jV ;rw[V];simp))
   |(exfalso;omega)
 cases O:bR h.w<;>rw[O]at w
 ·refine fO 154 [] Tryz.func23 rfl ?_
  repeat'(first|refine gP ?_|(conv=>whnf);first|with_reducible refine Bf.N (λa=>?_) (λa=>?_)|refine C9 d ?_|refine C9 e ?_|refine C9 i ?_|refine C9 j ?_|refine C9 w ?_)
  all_goals first
   | exact Z0 (λz=>[B z]) ((by unfold jV d6;rw[O];simp))
   |(exfalso;omega)
 by_cases P:h.S.length=h.w.U.length;rotate_left
 ·refine fO 154 [] Tryz.func23 rfl ?_
  repeat'(first|refine gP ?_|(conv=>whnf);first|with_reducible refine Bf.N (λa=>?_) (λa=>?_)|refine C9 d ?_|refine C9 e ?_|refine C9 i ?_|refine C9 j ?_|refine C9 w ?_)
  all_goals first
   | exact Z0 (λz=>[B z]) ((by unfold jV d6;rw[W0 P];simp))
   |(exfalso;omega)
 cases W:gq h.a7<;>rw[W]at M
 ·refine fO 154 [] Tryz.func23 rfl ?_
  repeat'(first|refine gP ?_|(conv=>whnf);first|with_reducible refine Bf.N (λa=>?_) (λa=>?_)|refine C9 d ?_|refine C9 e ?_|refine C9 i ?_|refine C9 j ?_|refine C9 w ?_|refine C9 M ?_)
  all_goals first
   | exact Z0 (λz=>[B z]) ((by unfold jV d6;rw[W];simp))
   |(exfalso;omega)
 have hmc:d6 h=true:=by grind [d6]
 refine fO 154 [] Tryz.func23 rfl ?_
 repeat'(first|refine gB ?_|(conv=>whnf);first|with_reducible refine Bf.N (λa=>?_) (λa=>?_)|refine C9 d ?_|refine C9 e ?_|refine C9 i ?_|refine C9 j ?_|refine C9 w ?_|refine C9 M ?_)
 all_goals try(exfalso;omega)
 (conv=>whnf)
 refine CJ (ι:=Nat) (λk=>[(1,.H .box (ac.enc .V h)),(57,.H .one (pG .V h.S)),(58,.H .one [I (h.S.length)]),(59,.H .one [I ((k:Nat):Int)])]) (λk=>k<=h.S.length/\(h.S.take k).all b9=true) (λk=>h.S.length - k) (0) ?_ ψ λk X=>?_
 ·exact wB
 obtain⟨X,Y⟩:=X;by_cases Z:k<h.S.length
 ·have Q:=au Z
  have R:=tG (nth h.S k) (p.2 _ (ar Z));cases e8:b9 (nth h.S k)<;>rw[e8]at R
  ·repeat'(first|refine gE ?_|(conv=>whnf);first|with_reducible refine CE (aa Q) ?_|refine C9 R ?_)
   exact Z0 (λz=>[B z]) ((by grind [jV]))
  repeat'(first|refine gE ?_|(conv=>whnf);first|with_reducible refine CE (aa Q) ?_|refine C9 R ?_)
  ((conv=>whnf);refine CF (k+1) ⟨ω,cX Q Y e8⟩ ω ?_;(exact wB))
 have hca:h.S.all b9=true:=ow ω Y;have l:=Gt h b g K L;have c10:=yu h G F O ψ;have c12:=HV h.Y r;have c13:=vO h h.Y.X.a3 b.1;have c14:=vO h h.Y.X.a1 b.1;cases e9:fY h<;>rw[e9]at l
 ·repeat'(first|refine gE ?_|(conv=>whnf);first|refine C9 l ?_)
  all_goals first
   | exact Z0 (λz=>[B z]) ((by unfold jV;rw[e9];simp))
   |(exfalso;omega)
 cases e10:jN h<;>rw[e10]at c10
 ·repeat'(first|refine gE ?_|(conv=>whnf);first|refine C9 l ?_|refine C9 c10 ?_)
  all_goals first
   | exact Z0 (λz=>[B z]) ((by unfold jV;rw[e10];simp))
   |(exfalso;omega)
 by_cases hn:cn h=true;rotate_left
 ·have y:cn h=false:=by simpa using hn
  have c:=y;unfold cn at c;rw[z5]at c
  repeat'(first|refine gE ?_|(conv=>whnf);first|with_reducible refine Bf.D (λa=>?_) (λa=>?_)|refine C9 (aN _ _ _) ?_|refine C9 (pR _) ?_|refine C9 l ?_|refine C9 c10 ?_)
  all_goals first
   | exact Z0 (λz=>[B z]) ((by unfold jV;rw[y];simp))
   |(exfalso;omega)
 have c:=hn;unfold cn at c;rw[C0]at c;have C:jV h=tn h:=by grind [jV]
 rw[C];unfold tn;cases em:h.u
 ·repeat'(first|refine gE ?_|(conv=>whnf);first|with_reducible (first|refine Bf.D (λa=>?_) (λa=>?_)|refine Bf.E (λa=>?_) (λa=>?_))|refine C9 (aN _ _ _) ?_|refine C9 (pR _) ?_|refine C9 l ?_|refine C9 c10 ?_|refine Bf.f em ?_)
  all_goals first
   | exact Z0 (λz=>[B z]) ((by unfold sR;simp only[Bool.false_eq_true,if_false];first|(symm;exact W0 ω)|(rw[C5,beq_iff_eq,C0];omega)))
   |(exfalso;omega)
 cases e12:jR h.Y<;>rw[e12]at c12
 all_goals
  repeat'(first|refine gE ?_|(conv=>whnf);first|with_reducible (first|refine Bf.D (λa=>?_) (λa=>?_)|refine Bf.D (λa=>?_) (λa=>?_))|refine C9 (aN _ _ _) ?_|refine C9 (pR _) ?_|refine C9 l ?_|refine C9 c10 ?_|refine C9 c12 ?_|refine C9 c13 ?_|refine C9 c14 ?_|refine Bf.t em ?_)
  all_goals first
   | exact Z0 (λz=>[B z]) (ψ)
   |(exfalso;omega)
variable{α:Type}
def cS[Inhabited α]{xs:List α}{f:α->Int}(e:(xs.map f).Nodup)(b:i<xs.length)(c:j<xs.length)(h:f (nth xs i)=f (nth xs j)):i=j:=by
 have d:=List.pairwise_iff_getElem.1 e;rcases Nat.lt_trichotomy i j with a|rfl|a
 ·have:=d i j (by simpa using b) (by simpa using c) a
  simp only[List.getElem_map]at this;rw[bk (X2 b),bk (X2 c)]at h;exact absurd h this
 ·rfl
 have:=d j i (by simpa using c) (by simpa using b) a;simp only[List.getElem_map]at this;rw[bk (X2 b),bk (X2 c)]at h;omega
theorem aO[Inhabited α]{xs:List α}{x:α}(h:x∈xs):∃i,i<xs.length/\nth xs i=x:=by
 obtain⟨i,a⟩:=List.mem_iff_getElem?.1 h
 grind [bk]
theorem rD:∀{H L:List Int},H.Nodup->(∀x∈H,x∈L)->L.length<=H.length->∀x∈L,x∈H
 | [],L,_,_,b,x,c=>by grind
 | y::H,L,d,f,b,x,c=>by
  have g:y∈L:=ψ
  have a:=List.nodup_cons.1 d;by_cases e:x=y
  ·grind
  refine Z5 _ (rD (L:=L.erase y) a.2 (λz h=>?_) ?_ x ψ)
  all_goals grind
theorem Lr{H L:List Int}(b:L.Nodup)(c:∀x∈H,x∈L):(H.Nodup/\H.length=L.length)↔∀a∈L,H.count a=1:=by grind [rD,List.Perm.length_eq]
variable{p:Int}{l:aC}
theorem dv : p∈lpgs l n↔∃k:Nat,k<n/\p=l.Q+(k:Nat):=by grind [lpgs]
structure oL(sp:List aA)(la:List aC):Prop where
 sok:∀s∈sp,bi s=true
 lok:∀l∈la,bN l=true
 nd:(sp.map (·.Q)).Nodup
 dis:∀s∈sp,∀l∈la,∀k:Nat,k<l.a2.toNat->s.Q≠l.Q+(k:Nat)
 one:∀i j,i<la.length->j<la.length->∀k k':Nat,k<(nth la i).a2.toNat->k'<(nth la j).a2.toNat->(nth la i).Q+(k:Nat)=(nth la j).Q+(k':Nat)->i=j
theorem oL.of(h:bt sp la=true):oL sp la:=by
 obtain⟨B,C,d⟩:=ew h;unfold pgs at d;rw[List.nodup_append]at d;obtain⟨q,r,t⟩:=d;have u:=List.pairwise_flatMap.1 r;refine⟨ψ,ψ,q,λs D l w k c e=>?_,λi j f g k o c a e=>?_⟩
 ·exact t _ ψ _ (List.mem_flatMap.2 ⟨l,w,dv.2 ⟨k,c,rfl⟩⟩) e
 have p:=List.pairwise_iff_getElem.1 u.2;have y:=bk (X2 f);have A:=bk (X2 g);rw[y]at c e;rw[A]at a e;rcases Nat.lt_trichotomy i j with b|n|b
 ·exact absurd e (p i j f g b _ (dv.2 ⟨k,c,rfl⟩) _ (dv.2 ⟨o,a,rfl⟩))
 ·exact n
 exact absurd e.symm (p j i g f b _ (dv.2 ⟨o,a,rfl⟩) _ (dv.2 ⟨k,c,rfl⟩))
variable{a:Int}
theorem gQ(b:bi s=true):dd s a=true↔16*s.Q<=a/\a<=16*s.Q+15:=by grind [dd]
theorem jJ(b:oL sp la)(c:i<sp.length)(h:16*(nth sp i).Q<=a/\a<=16*(nth sp i).Q+15):denotes sp la a=oM i (nth sp i) a:=by
 refine nQ c ((gQ (b.sok _ (ar c))).2 h) λj z l k=>?_
 cases e:dd z a with
 | false=>rfl
 | true=>
  exfalso;have d:=(Z2.1 k).1;have n:=(gQ (b.sok z ψ)).1 e;have g:=bk k;subst g;have:=cS (f:=(·.Q)) b.nd c d ω;omega
theorem Tm(b:oL sp la)(h:∀i,i<sp.length->¬(16*(nth sp i).Q<=a/\a<=16*(nth sp i).Q+15)):∀(j:Nat)(z:aA),j<sp.length->sp[j]? = some z->dd z a=false:=by grind [gQ,oL.sok,bk]
theorem M4(c:oL sp la)(a:Int):a∈live0 sp la↔a∈kF sp la:=by
 have G:a∈kF sp la↔∃n:Nat,n<512/\k7 sp la n=true/\(n:Int)=a:=by grind [kF,lW]
 rw[G];unfold live0 fG;rw[V3,List.mem_flatMap,Y4];constructor
 ·rintro(⟨s,g,C⟩|⟨l,b,rfl⟩)
  ·obtain⟨i,d,rfl⟩:=aO g
   unfold eG at C;obtain⟨k,H,rfl⟩:=Y4.1 C;obtain⟨h,J⟩:=Z4.1 H;have h:=List.mem_range.1 h;have o:=aI (c.sok _ g);have t:=A3 ⟨o.2.2.1,o.2.2.2⟩;have K:=sv (nth sp i).d;unfold jQ;have L:0<=(k:Int)*csz (nth sp i).d/\(k:Int)*csz (nth sp i).d<=15:=by grind [ce]
   have f:=jJ c d (a:=16*(nth sp i).Q+(k:Nat)*csz (nth sp i).d) ω;have O:(16*(nth sp i).Q+(k:Nat)*csz (nth sp i).d - 16*(nth sp i).Q) / csz (nth sp i).d=(k:Nat)/\(16*(nth sp i).Q+(k:Nat)*csz (nth sp i).d - 16*(nth sp i).Q) % csz (nth sp i).d=0:=by grind [ce]
   refine⟨(16*(nth sp i).Q+(k:Nat)*csz (nth sp i).d).toNat,ω,?_,ω⟩
   grind [k7,oM]
  obtain⟨i,d,rfl⟩:=aO b;have P:=aS (c.lok _ b);have M:=cF (c.lok _ b);have u:=Tm c (a:=16*(nth la i).Q) λj D Q=>c.dis _ (ar D) _ b 0 ω ω
  have E:bG (nth la i) (16*(nth la i).Q)=true:=by grind [oL.lok,bG]
  have f:=m0 (a:=16*(nth la i).Q) (W3 _) u d E λj z D r=>by
   cases e:bG z (16*(nth la i).Q) with
   | false=>rfl
   | true=>
    exfalso;have w:=(Z2.1 r).1;have p:=O2 r;have y:=bk r;subst y;have N:=aS (c.lok _ p);have q:=c.lok _ p;unfold bN at q;rw[C0]at q;unfold bG at e;rw[I0,C0]at e;have:=c.one i j d w 0 ((nth la i).Q - (nth la j).Q).toNat ω ω ω;omega
  refine⟨(16*(nth la i).Q).toNat,ω,?_,ω⟩
  grind [k7]
 rintro⟨n,R,b,rfl⟩
 cases u:sp.findIdx? (dd · (n:Nat)) with
 | some i=>
  obtain⟨d,A,-⟩:=Y7.1 u;have B:=bk (X2 d);rw[<-B]at A;have g:=c.sok _ (ar d);have F:=(gQ g).1 A;have o:=aI g;have t:=A3 ⟨o.2.2.1,o.2.2.2⟩;have f:denotes sp la (n:Nat)=oM i (nth sp i) (n:Nat):=by grind [denotes]
  rw[sZ f]at b;simp only[I0,C7,C0]at b;simp only[oM]at b;cases E:aZ (nth sp i).a9 (((n:Int) - 16*(nth sp i).Q) / csz (nth sp i).d) with
  | false=>grind
  | true=>
   have r:((n:Int) - 16*(nth sp i).Q) % csz (nth sp i).d=0:=b.1;refine .inl ⟨nth sp i,ar d,?_⟩;unfold eG;refine Y4.2 ⟨(((n:Int) - 16*(nth sp i).Q) / csz (nth sp i).d).toNat,Z4.2 ⟨List.mem_range.2 ?_,?_⟩,?_⟩
   all_goals grind [ce,jQ]
 | none=>
  cases F:la.findIdx? (bG · (n:Nat)) with
  | some i=>
   obtain⟨d,A,-⟩:=Y7.1 F;have f:denotes sp la (n:Nat) = ⟨3,i,0,(n:Nat) - 16*(nth la i).Q⟩:=by grind [denotes]
   rw[sZ f]at b
   grind [ar]
  | none=>
   have f:denotes sp la (n:Nat) = ⟨0,0,0,0⟩:=by grind [denotes]
   rw[sZ f]at b;simp at b
theorem w9(b:oL sp la)(c:(denotes sp la a).c3=0)(f:(denotes sp la a).b3=1\/(denotes sp la a).b3=3):a∈kF sp la:=by
 have l:0<=a/\a<512:=by
  unfold denotes at c f;cases g:sp.findIdx? (dd · a) with
  | some i=>
   obtain⟨d,j,-⟩:=Y7.1 g;have h:=List.getElem_mem d;have e:=(gQ (b.sok _ h)).1 j;have k:=aI (b.sok _ h);omega
  | none=>
   rw[g]at c f;cases e:la.findIdx? (bG · a) with
   | some i=>
    obtain⟨d,-⟩:=Y7.1 e;rw[e]at c;have n:=aS (b.lok _ (ar d))
    grind
   | none=>grind
 have k:((a.toNat:Nat):Int)=a:=ω
 grind [kF,lW,k7]
theorem vN(sp:List aA)(la:List aC):(kF sp la).Nodup:=by
 unfold kF lW List.Nodup;rw[List.pairwise_map]
 grind [List.Pairwise.imp,List.nodup_range]
variable{c:Int}
theorem u9(b:oL h.J h.M)(d:dy h a c=true):a∈kF h.J h.M:=by grind [w9,dy]
variable{o:bo}
theorem MB(a:oL h.J h.M)(b:jb h o=true):o.Addr∈kF h.J h.M:=by grind [w9,jb]
theorem Hq(h:ac)(a:Int):(nl h).count a=(holders h).count a:=by grind [nl,holders]
theorem oV(h:ac):jH h=true↔(h.S.all (fh h)=true/\h.a7.a6.all (ir h)=true)/\(aQ h.w).all (kN h)=true:=by grind [jH]
theorem tg(f:oL h.J h.M)(g:fY h=true)(j:jH h=true):∀a∈holders h,a∈kF h.J h.M:=by
 obtain⟨⟨n,p⟩,q⟩:=(oV h).1 j;intro a b;unfold holders at b;simp only[V3]at b;rcases b with((b|b)|b)|b
 ·obtain⟨o,d,rfl⟩:=Y4.1 b
  obtain⟨i,r,rfl⟩:=aO d;have e:=eZ g r
  grind [MB,objAt]
 ·unfold cH at b
  obtain⟨c,t,b⟩:=List.mem_flatMap.1 b;obtain⟨l,u,b⟩:=List.mem_flatten.1 b;obtain⟨k,w,rfl⟩:=aO u;have e:=O4.1 n c t;unfold fh at e;have A:=O4.1 (show(nth c.a k).all _=true from eZ e w) a b
  grind [u9]
 ·obtain⟨x,y,rfl⟩:=Y4.1 b
  exact u9 f (O4.1 p x y)
 exact u9 f (O4.1 q a b)
theorem LX(b:bt h.J h.M=true)(c:fY h=true):(lT h&&kg h)=jN h:=by
 have d:=oL.of b;have e:(lT h=true/\h.a7.a6.all (ir h)=true)↔h.a7.a6.all (t7 h)=true:=by grind [lT,t7]
 have f:jN h=true↔((h.S.all (fh h)=true/\h.a7.a6.all (t7 h)=true)/\(aQ h.w).all (kN h)=true)/\∀a∈kF h.J h.M,(holders h).count a=1:=by
  unfold jN;simp only[I0];refine and_congr Iff.rfl ?_;simp only[O4,C0,Hq]
  grind [List.mem_mergeSort,M4,oA,sorted]
 grind [oV,Lr,vN,tg,kg]
theorem gT(s t:aA):meshable s t=meshable t s:=by grind [meshable]
variable{f:Int}{t:aL}
theorem eO{p:Nat} : (p:Int)∈pagesOn t f↔p<t.K.length/\(nth t.K p).e≠0/\(nth t.K p).j=f:=by grind [pagesOn,jP,Ps]
theorem vu{q:Int}(h:q∈pagesOn t f):∃p:Nat,q=(p:Nat):=by grind [pagesOn,jP]
theorem t8(a:pages0 h=true):(∀i,i<h.M.length->∀k:Nat,k<(nth h.M i).a2.toNat->(aT h ((nth h.M i).Q+(k:Nat))).length=1)/\(∀p∈pgs h.J h.M,p<fk h)/\∀p:Nat,p<fk h->((nth (tbl h).K p).e≠0↔(p:Int)∈pgs h.J h.M):=by grind [eZ,pages0,tc,xb,wi]
theorem Bc{p:Nat}(a:p<fk h):af (tbl h) (p:Nat)=nth (tbl h).K p:=m6 a
theorem f8{p:Nat}(a:p<fk h)(b:(nth (tbl h).K p).e≠0):aT h (p:Nat)=pagesOn (tbl h) (nth (tbl h).K p).j:=by grind [Bc,aT,tbl]
theorem uT(g:oL h.J h.M)(c:j<h.J.length):gL h (nth h.J j).Q=(j:Nat):=by
 unfold gL;refine dD (au c) (by unfold mt;simp) λk z i d=>?_
 have a:=bk d;have b:=(Z2.1 d).1;subst a;unfold mt;refine W0 λe=>?_
 have:=cS (f:=(·.Q)) g.nd b c e;omega
theorem u6(w:bt h.J h.M=true)(N:pages0 h=true):vw h=pP h:=by
 have E:=oL.of w;obtain⟨O,P,Q⟩:=t8 N;have o:∀i,i<h.J.length->∃p:Nat,(nth h.J i).Q=(p:Nat)/\p<fk h/\(nth (tbl h).K p).e≠0:=λi r=>by
  have Y:=aI (E.sok _ (ar r));have R:(nth h.J i).Q∈pgs h.J h.M:=by grind [ar,pgs]
  have c:=P _ R;refine⟨(nth h.J i).Q.toNat,ω,ω,?_⟩
  grind
 rw[C5];unfold vw pP;rw[cy,cy];constructor
 ·intro F i r
  rw[cy];intro j G;have y:j<h.J.length:=ω
  unfold mA;rw[C7,C0];by_cases d:(af (tbl h) (nth h.J i).Q).j=(af (tbl h) (nth h.J j).Q).j
  ·right
   obtain⟨p,e,a,f⟩:=o i r;obtain⟨q,A,b,g⟩:=o j y;have n:=O4.1 (F i r);rw[e,A,Bc a,Bc b]at d;have S:(q:Int)∈aT h (nth h.J i).Q:=by
    rw[e,f8 a f];exact eO.2 ⟨b,g,d.symm⟩
   have t:=n _ S;unfold mu at t;rw[<-A,uT E y]at t;rw[C7,I0,C0]at t;rcases t with t|t
   ·omega
   simpa using t.2
  exact .inl d
 intro B i r;rw[O4];intro q C;obtain⟨p,e,a,f⟩:=o i r;have T:=C;rw[e,f8 a f]at C;obtain⟨D,rfl⟩:=vu C;obtain⟨b,g,H⟩:=eO.1 C;have u:=(Q D b).1 g;unfold pgs at u;rw[V3,Y4,List.mem_flatMap]at u;rcases u with⟨s,F,J⟩|⟨l,U,K⟩
 ·obtain⟨j,G,rfl⟩:=aO F
  unfold mu;rw[<-J,uT E G];rw[C7,I0,C0,C0];have d:(af (tbl h) (nth h.J i).Q).j=(af (tbl h) (nth h.J j).Q).j:=by grind [Bc]
  rcases Nat.lt_trichotomy j i with c|V|c
  ·have n:=eZ (B i r) c
   unfold mA at n
   simp_all
  ·omega
  have n:=eZ (B j G) c;unfold mA at n;rw[C7,C0]at n;exact .inr ⟨ω,by rw[gT];simp_all⟩
 exfalso;obtain⟨W,L,rfl⟩:=aO U;obtain⟨k,X,M⟩:=dv.1 K;have n:=O W L k X;rw[<-M,f8 b g]at n;have Z:(D:Int)∈pagesOn (tbl h) (nth (tbl h).K D).j:=ψ
 have m2:(p:Int)∈pagesOn (tbl h) (nth (tbl h).K D).j:=eO.2 ⟨a,f,H.symm⟩
 grind [List.length_eq_one_iff,oL.dis,ar]
theorem tV(h:ac):jV h=dU h:=by grind [u6,LX,jV,dU,lO]
def ovl(y r:aB):Bool:=decide (y.At<r.At+r.a8/\r.At<y.At+y.a8)
def nh(r:aB):List aB->Bool->Option (List aB)
 | [],put=>some (if put then [] else [r])
 | y::a,put=>if ovl y r then none else if !put&&decide (y.At > r.At) then(nh r a true).map λt=>r::y::t else(nh r a put).map λt=>y::t
def dr(out:List aB):List aB->List aB
 | []=>out
 | y::ys=>match out.getLast? with
  | some z=>if z.At+z.a8=y.At then dr (out.dropLast++[⟨z.At,z.a8+y.a8⟩]) ys else dr (out++[y]) ys
  | none=>dr (out++[y]) ys
def kv:List aB->aB->List aB->Bool->Option (List aB)
 | [],r,out,done=>some (if done then out else out++[r])
 | y::ys,r,out,done=>
  if ovl y r then none
  else if y.At+y.a8=r.At then kv ys ⟨y.At,y.a8+r.a8⟩ out done
  else if r.At+r.a8=y.At then kv ys ⟨r.At,r.a8+y.a8⟩ out done
  else if y.At > r.At/\done=false then kv ys r (out++[r,y]) true
  else kv ys r (out++[y]) done
def j9(xs:List aB):Prop:=xs.Pairwise (λa b=>a.At+a.a8<b.At)/\∀y∈xs,1<=y.a8
variable{y:aB}
theorem j9.tail{a:List aB}(h:j9 (y::a)):j9 a:=⟨(List.pairwise_cons.1 h.1).2,λz b=>h.2 z ψ⟩
theorem j9.head{a:List aB}(h:j9 (y::a)):∀z∈a,y.At+y.a8<z.At:=(List.pairwise_cons.1 h.1).1
theorem j8:∀(a out:List aB),j9 a->(∀z,out.getLast? = some z->∀y∈a,z.At+z.a8≠y.At)->dr out a=out++a
 | [],out,_,_=>by simp[dr]
 | y::a,out,d,e=>by
  have b:dr (out++[y]) a=out++y::a:=by
   rw[j8 a (out++[y]) d.tail λz c w f=>by
     simp at c;subst c;have:=d.head w f;omega]
   simp
  unfold dr;split
  ·rename_i z c
   rw[CB (e z c y (I2 ..))];exact b
  exact b
theorem xG{r:aB} : ∀{a:List aB},j9 a->(∀y∈a,r.At+r.a8<=y.At)->nh r a true=some a
 | [],_,_=>rfl
 | y::a,c,b=>by
  have e:=b y (I2 ..);unfold nh;rw[CB (by unfold ovl;rw[C0];omega)];simp only[Bool.not_true,Bool.false_and,Bool.false_eq_true,if_false];rw[xG c.tail λz d=>b z (Z5 _ d)]
  rfl
theorem uX{r:aB}(h1:1<=r.a8){a:List aB}(b:j9 a)(c:∀y∈a,r.At+r.a8<=y.At):nh r a false=some (r::a):=by
 cases a with
 | nil=>rfl
 | cons y a=>
  grind [xG,j9.tail,nh,ovl]
def qv{r:aB} : ∀{a out:List aB},j9 a->1<=r.a8->(∀y∈a,r.At+r.a8<y.At)->kv a r out true=some (out++a)
 | [],out,_,_,_=>by simp[kv]
 | y::a,out,b,d,c=>by
  have f:=c y (I2 ..);have g:=b.2 y (I2 ..);unfold kv;rw[CB (by unfold ovl;rw[C0];omega),CB ω,CB ω,CB (by simp),qv b.tail d λz e=>c z (Z5 _ e)];simp
variable{out:List aB}
theorem yK{r:aB}(h1:1<=r.a8){a:List aB}(b:j9 a)(c:∀y∈a,r.At+r.a8<=y.At):kv a r out false=some (out++match a with|[]=>[r]|y::zs=>if r.At+r.a8=y.At then⟨r.At,r.a8+y.a8⟩::zs else r::y::zs):=by
 cases a with
 | nil=>simp[kv]
 | cons y a=>
  have g:=c y ψ;have h:=b.2 y ψ;unfold kv;rw[CB (by grind [ovl]),CB ω];by_cases e:r.At+r.a8=y.At
  ·rw[CD e]
   simp only[e,if_true];cases a with
   | nil=>simp[kv]
   | cons z a=>
    have i:=b.head z ψ;have j:=b.tail.2 z ψ;unfold kv;simp only;rw[CB (by grind [ovl]),CB ω,CB ω,CD (by simp;omega),qv b.tail.tail (by simp only;omega) λw d=>by
      have:=b.tail.head w d;simp only;omega]
    simp
  rw[CB e,CD (by simp;omega),qv b.tail h1 λz f=>by have:=b.head z f;omega];simp[e]
theorem AM{pages:Int} : ∀{a:List aB}{r:aB}{out:List aB},j9 a->1<=r.a8->(∀z,out.getLast? = some z->(∀y∈a,z.At+z.a8<y.At)/\z.At+z.a8<r.At)->(nh r a false).map (dr out)=kv a r out false
 | [],r,out,_,g,q=>by
  show some (dr out [r])=some (out++[r]);rw[j8 [r] out ⟨List.pairwise_singleton ..,λy u=>by rw[V1.1 u];exact g⟩ ψ]
 | y::a,r,out,c,g,q=>by
  have F:=c.2 y ψ;by_cases l:ovl y r=true
  ·grind [nh,kv]
  ·have i:=l
   unfold ovl at i;rw[C0]at i;by_cases A:r.At+r.a8<=y.At
   ·-- all to the right
    have b:∀w∈y::a,r.At+r.a8<=w.At:=λw f=>by grind [j9.head]
    rw[uX g c b,yK g c b];show some (dr out (r::y::a))=_;have hfirst:dr out (r::y::a)=dr (out++[r]) (y::a):=by
     conv=>lhs;unfold dr
     grind
    rw[hfirst];by_cases e:r.At+r.a8=y.At
    ·have:dr (out++[r]) (y::a)=dr (out++[⟨r.At,r.a8+y.a8⟩]) a:=by
      conv=>lhs;unfold dr
      simp[e]
     grind [j8,j9.tail,j9.head]
    grind [j8,j9.head]
   have B:y.At+y.a8<=r.At:=ω
   have n:∀t,dr out (y::t)=dr (out++[y]) t:=λt=>by
    conv=>lhs;unfold dr
    grind [I2]
   have C:(nh r (y::a) false).map (dr out)=(nh r a false).map (dr (out++[y])):=by
    conv=>lhs;unfold nh
    rw[CB l,CB (by simp;omega),Option.map_map]
    congr 1
    grind
   rw[C];unfold kv;rw[CB l];by_cases e:y.At+y.a8=r.At
   ·rw[CD e]
    by_cases o:∃w,a.head? = some w/\ovl w r=true
    ·obtain⟨w,f,D⟩:=o
     cases a with
     | nil=>cases f
     | cons d h=>
      grind [ovl,nh,kv]
    have b:∀w∈a,r.At+r.a8<=w.At:=by
     cases a with
     | nil=>grind
     | cons d h=>
      have G:=c.head d ψ;have H:=c.tail.2 d ψ
      grind [j9.head,j9.tail,ovl]
    rw[uX g c.tail b,yK (r:=⟨y.At,y.a8+r.a8⟩) (by simp only;omega) c.tail ψ];show some (dr (out++[y]) (r::a))=_;have E:dr (out++[y]) (r::a)=dr (out++[⟨y.At,y.a8+r.a8⟩]) a:=by
     conv=>lhs;unfold dr
     simp[e]
    rw[E];cases a with
    | nil=>simp[dr]
    | cons d h=>
     by_cases j:y.At+(y.a8+r.a8)=d.At
     ·have p:dr (out++[⟨y.At,y.a8+r.a8⟩]) (d::h)=dr (out++[⟨y.At,y.a8+r.a8+d.a8⟩]) h:=by
       conv=>lhs;unfold dr
       simp[j]
      rw[p,j8 h _ c.tail.tail λz k w f=>by grind [j9.head,j9.tail]];simp[j]
     rw[j8 (d::h) _ c.tail λz k w f=>by
       simp at k;subst k;simp only;rcases List.mem_cons.1 f with rfl|f
       · exact j
       have:=c.tail.head w f;have:=b d ψ;have:=c.tail.2 d ψ;omega]
     simp[j]
   rw[CB e,CB ω,CB ω];exact AM (pages:=pages) c.tail g λz k=>by grind [j9.head]
def ge(k:ah)(f:Int):ah:=if(pagesOn k.F.R f).length=0 then {k with F:=⟨⟨k.F.W.T.set f.toNat (List.replicate 16 0),k.F.W.a5.set f.toNat false⟩,k.F.R⟩} else k
def lh(k:ah)(p:Int):ah:={k with F:=⟨k.F.W,⟨k.F.R.K.set p.toNat ⟨0,0⟩⟩⟩}
def cN(k:ah)(p:Int):ah:=if(af k.F.R p).e=0 then k else ge (lh k p) (af k.F.R p).j
theorem bH[Inhabited α](xs:List α)(i j:Nat)(x:α):nth (xs.set i x) j=if i=j/\j<xs.length then x else nth xs j:=by grind [nth]
theorem mP(k:ah)(f:Int):(ge k f).F.R=k.F.R/\(ge k f).Calls=k.Calls/\(ge k f).a0=k.a0/\(ge k f).F.W.T.length=k.F.W.T.length/\(ge k f).F.W.a5.length=k.F.W.a5.length:=by grind [ge]
theorem lA(k:ah)(p:Int):(cN k p).F.R.K.length=k.F.R.K.length/\(cN k p).Calls=k.Calls/\(cN k p).a0=k.a0:=by grind [mP,cN,lh]
variable{k:ah}
theorem aG : aF k=true↔(∀j,j<k.a0.length->0<=nth k.a0 j)/\d3 k.F.W=true/\gt k.F.R k.F.W.a5.length=true/\(∀j,j<k.F.W.a5.length->nth k.F.W.a5 j=decide (0<(pagesOn k.F.R (j:Int)).length))/\0<=k.Calls/\k.Calls<=100000/\k.a0.length<=40:=by grind [cy,aF,dC,pu]
theorem bf{f:aX} : d3 f=true↔1<=f.T.length/\f.T.length<=32/\f.a5.length=f.T.length/\∀j,j<f.T.length->gX (nth f.T j) (nth f.a5 j)=true:=by
 unfold d3;simp only[I0,C0,O4,and_assoc];refine and_congr Iff.rfl (and_congr Iff.rfl (and_congr_right λb=>⟨λh j a=>?_,λh q c=>?_⟩))
 ·exact h _ (O2 (wv (au a) (au ω)))
 grind [List.mem_iff_getElem?,List.getElem?_zip_eq_some,bk]
theorem br : gt t a=true↔(∀j,j<t.K.length->kH a (nth t.K j)=true)/\1<=t.K.length/\t.K.length<=32:=by grind [cy,gt]
def dZ : 0<(pagesOn t f).length↔∃q,q<t.K.length/\(nth t.K q).e≠0/\(nth t.K q).j=f:=by
 unfold pagesOn jP;rw[I1,List.length_pos_iff_exists_mem];simp[Ps]
theorem bW(h:aF k=true)(a:(af k.F.R p).e≠0):0<=p/\p<k.F.R.K.length/\af k.F.R p=nth k.F.R.K p.toNat/\0<=(af k.F.R p).j/\(af k.F.R p).j<k.F.W.a5.length:=by
 obtain⟨-,-,b,-⟩:=aG.1 h
 grind [br,af,kH]
theorem x5(p:Int)(h:aF k=true):aF (cN k p)=true:=by
 unfold cN;split
 ·exact h
 rename_i r;obtain⟨C,D,E,i,l⟩:=bW h r;obtain⟨t,u,F,w,y,A,B⟩:=aG.1 h;obtain⟨G,H,J,L⟩:=bf.1 u;obtain⟨M,N,O⟩:=br.1 F;rw[E]at r i l |-;generalize K:(nth k.F.R.K p.toNat).j=f at i l;have b:∀q,nth (k.F.R.K.set p.toNat ⟨0,0⟩) q=if p.toNat=q then⟨0,0⟩ else nth k.F.R.K q:=λq=>by grind [bH]
 have c:∀j:Int,0<(pagesOn (⟨k.F.R.K.set p.toNat ⟨0,0⟩⟩ : aL) j).length↔∃q,q<k.F.R.K.length/\q≠p.toNat/\(nth k.F.R.K q).e≠0/\(nth k.F.R.K q).j=j:=λj=>by
  rw[dZ];simp only[Z1,b]
  grind
 have d:∀j:Int,0<(pagesOn k.F.R j).length↔∃q,q<k.F.R.K.length/\(nth k.F.R.K q).e≠0/\(nth k.F.R.K q).j=j:=λj=>dZ
 have g:gt ⟨k.F.R.K.set p.toNat ⟨0,0⟩⟩ k.F.W.a5.length=true:=by
  rw[br];simp only[Z1,b]
  grind [kH]
 unfold ge;split
 ·rename_i o
  rw[aG];simp only[lh,Z1]at o |-;refine⟨t,?_,g,λj n=>?_,y,A,B⟩
  ·rw[bf]
   simp only[Z1,bH];refine⟨G,H,J,λj n=>?_⟩;by_cases a:f.toNat=j
   ·rw[CD ⟨a,n⟩,CD ⟨a,ω⟩];decide
   grind
  rw[bH];by_cases a:f.toNat=j
  ·grind
  rw[CB (λe=>a e.1),w j n];refine decide_eq_decide.2 ?_;rw[d,c]
  grind
 rename_i o;rw[aG];simp only[lh]at o |-;refine⟨t,u,g,λj n=>?_,y,A,B⟩;rw[w j n];refine decide_eq_decide.2 ?_;by_cases a:f=j
 ·grind
 rw[d,c];grind
def b8(h:aF k=true):ah.sml k:=by
 obtain⟨g,b,c,i,l,n,o⟩:=aG.1 h;obtain⟨p,q,t,d⟩:=bf.1 b;obtain⟨u,w,y⟩:=br.1 c;refine⟨⟨⟨⟨ω,λr f=>?_⟩,(by omega:_<=1048576)⟩,⟨ω,λe _=>trivial⟩⟩,(by omega:_<=1048576)⟩;obtain⟨j,a⟩:=List.mem_iff_getElem?.1 f;have:=d j (Z2.1 a).1;rw[bk a]at this;unfold gX at this;simp only[I0,C0]at this;show r.length<=1048576;omega
theorem Dq(a:dU h=true):aF h.G=true:=by grind [dU,lO]
variable{K:List (List C)->Prop}{sz by_:Nat}
theorem Ap.cp{e:α->List C}{xs:List α}(d:∀x,(e x).length=sz)(f:∀x,bj (e x)=true)(a:xs.length<=1048576)(b:by_<=1000)(c:K (xs.map e)):Ap true [] (xs.map e) sz by_ K:=
 CV ψ ψ ψ (by simp;omega) (by simp only[I1,List.length_nil,X7];exact zh a b) rfl c
def CS:type_of% @Ap.cp:=@Ap.cp
theorem Fl.cp{e:α->List C}{xs:List α}{X:Prop}(d:∀x,(e x).length=sz)(f:∀x,bj (e x)=true)(a:xs.length<=1048576)(b:by_<=1000)(c:X):Fl (xs.map e) sz by_ X:=
 Fl.mk ψ (by simp;omega) (by simp only[I1];exact zh a b) c
def CX:type_of% @Fl.cp:=@Fl.cp
variable{r:List C}{rows:List (List C)}
theorem Ap.sn{a:List (List C)}(h1:∀r∈rows,r.length=sz)(f:r.length=sz)(b:rows.length+1<=1048576)(c:by_<=1000)(d:a=rows++[r])(e:K a):Ap false rows [r] sz by_ K:=
 CV h1 ψ ψ (by simp;omega) (zh (by simpa using b) c) d e
def jG(xs:List Int)(a:xs.length<=1048576):zzA 196 false [.val none (aH .V xs)] .one (aH .own xs):=by
 refine fO 6 [] Tryz.func196 rfl ?_ (.inr (bO _))
 repeat'(first|refine gP ?_|(conv=>whnf);first|refine CS (λ_=>rfl) (λ_=>rfl) a (by decide) ?_)
 rfl
def D5(t:aL)(a:aL.sml t):zzA 468 false [.val (some 1) (aL.enc .V t)] .agg (aL.enc .own t):=by
 have b:=a.1;refine fO 8 [] Tryz.func468 rfl ?_ (.inr (aL.enc_fr _))
 repeat'(first|refine gP ?_|(conv=>whnf);first|refine CS (λ_=>rfl) (λ_=>rfl) b (by decide) ?_)
 rfl
def zd(t:aL)(a:aL.sml t):zzA 347 false [.val (some 1) (aL.enc .V t)] .agg (aL.enc .own t):=by
 have b:=a.1;refine fO 8 [] Tryz.func347 rfl ?_ (.inr (aL.enc_fr _))
 repeat'(first|refine gP ?_|(conv=>whnf);first|refine CS (λ_=>rfl) (λ_=>rfl) b (by decide) ?_)
 rfl
theorem aV{e:α->List C}{l:List α}(h:∀x,(e x).length=n):∀r∈l.map e,r.length=n:=(ψ)
variable{β:Type}
theorem fJ[Inhabited α]{xs:List α}{f:α->β}(a:i<xs.length):(xs.take (i+1)).map f=(xs.take i).map f++[f (nth xs i)]:=by grind [I6,au]
def DG(f:aX)(a:aX.sml f):zzA 467 false [.val (some 2) (aX.enc .V f)] .agg (aX.enc .own f):=by
 have g:=a.1.1;have d:f.a5.length<=1048576:=a.2;refine fO 30 [(5,10,[17,18,19,20,21,22,23,24,25,26])] Tryz.func467 rfl ?_ (.inr (aX.enc_fr _))
 repeat'(first|refine gP ?_|(conv=>whnf);first|refine CS (λ_=>rfl) (λ_=>rfl) d (by decide) ?_)
 (conv=>whnf)
 refine CJ (ι:=Nat) (λi=>[(1,.H .box (aX.enc .V f)),(2,.H .box [.z,.z]),(3,.H .box [.s .own ((f.T.take i).map (aH .own)),.s .own (f.a5.map (rB .own))]),(4,.H .one [I ((i:Nat):Int)])]) (λi=>i<=f.T.length) (λi=>f.T.length - i) (0) ?_ (X0 _) λi h=>?_
 ·exact wB
 by_cases b:i<f.T.length
 ·have e:=au b
  have c:(nth f.T i).length<=1048576:=a.1.2 _ (ar b)
  repeat'(first|refine gE ?_|(conv=>whnf);first|with_reducible refine CE (aa e) ?_|refine CX (λ_=>rfl) (λ_=>rfl) c (by decide) ?_|refine Ap.sn (aV λ_=>rfl) rfl (by simp;omega) (by decide) (fJ b) ?_)
  ((conv=>whnf);refine CF (i+1) ω ω ?_;(exact wB))
 repeat'(first|refine gE ?_|fail)
 obtain rfl:i=f.T.length:=ω
 rw[X5]
 rfl
def oG(f:aX)(a:aX.sml f):zzA 346 false [.val (some 2) (aX.enc .V f)] .agg (aX.enc .own f):=by
 have g:=a.1.1;have d:f.a5.length<=1048576:=a.2;refine fO 27 [(5,5,[18,19,20,21,22])] Tryz.func346 rfl ?_ (.inr (aX.enc_fr _))
 repeat'(first|refine gP ?_|(conv=>whnf);first|refine CS (λ_=>rfl) (λ_=>rfl) d (by decide) ?_)
 (conv=>whnf)
 refine CJ (ι:=Nat) (λi=>[(2,.H .box [.z,.z]),(3,.H .box [.s .own ((f.T.take i).map (aH .own)),.s .own (f.a5.map (rB .own))]),(12,.H .one (jE .V f.T)),(13,.H .one [I (f.T.length)]),(14,.H .one [I ((i:Nat):Int)])]) (λi=>i<=f.T.length) (λi=>f.T.length - i) (0) ?_ (X0 _) λi h=>?_
 ·exact wB
 by_cases b:i<f.T.length
 ·have e:=au b
  have c:(nth f.T i).length<=1048576:=a.1.2 _ (ar b)
  repeat'(first|refine gE ?_|(conv=>whnf);first|with_reducible refine CE (aa e) ?_|refine C9 (jG (nth f.T i) c) ?_|refine Ap.sn (aV λ_=>rfl) rfl (by simp;omega) (by decide) (fJ b) ?_)
  ((conv=>whnf);refine CF (i+1) ω ω ?_;(exact wB))
 repeat'(first|refine gE ?_|fail)
 obtain rfl:i=f.T.length:=ω
 rw[X5]
 rfl
def sg(m:aY)(a:aY.sml m):zzA 349 false [.val (some 3) (aY.enc .V m)] .agg (aY.enc .own m):=by
 refine fO 10 [(1,5,[3,4,5,6,7])] Tryz.func349 rfl ?_ (.inr (aY.enc_fr _))
 repeat'(first|refine gP ?_|(conv=>whnf);first|refine C9 (DG m.W a.1) ?_|refine C9 (D5 m.R a.2) ?_)
 rfl
def uf(m:aY)(a:aY.sml m):zzA 195 false [.val (some 3) (aY.enc .V m)] .agg (aY.enc .own m):=by
 refine fO 10 [(1,5,[3,4,5,6,7])] Tryz.func195 rfl ?_ (.inr (aY.enc_fr _))
 repeat'(first|refine gP ?_|(conv=>whnf);first|refine C9 (oG m.W a.1) ?_|refine C9 (zd m.R a.2) ?_)
 rfl
def Ep(k:ah)(a:ah.sml k):zzA 203 false [.val (some 5) (ah.enc .V k)] .agg (ah.enc .own k):=by
 have b:k.a0.length<=1048576:=a.2;refine fO 13 [(1,9,[3,4,5,6,7,8,9,10,11])] Tryz.func203 rfl ?_ (.inr (Cf _))
 repeat'(first|refine gP ?_|(conv=>whnf);first|refine C9 (sg k.F a.1) ?_|refine CX (λ_=>rfl) (λ_=>rfl) b (by decide) ?_)
 rfl
def kw(k:ah)(a:ah.sml k):zzA 68 false [.val (some 5) (ah.enc .V k)] .agg (ah.enc .own k):=by
 refine fO 12 [(1,8,[3,4,5,6,7,8,9,10])] Tryz.func68 rfl ?_ (.inr (Cf _))
 repeat'(first|refine gP ?_|(conv=>whnf);first|refine C9 (uf k.F a.1) ?_|refine C9 (jG k.a0 a.2) ?_)
 rfl
def eJ(k:ah)(p:Int)(a:aL.sml k.F.R):zzA 485 false [.ptr (ah.enc .V k),.val none [I p]] .one [I (af k.F.R p).e]:=by
 refine fO 13 [] Tryz.func485 rfl ?_
 repeat'(first|refine gP ?_|(conv=>whnf);first|refine C9 (dl k.F.R p a) ?_)
 rfl
def lU(k:ah)(b:ah.sml k):zzA 277 false [.val (some 5) (ah.enc .V k)] .one [B (aF k&&decide (k.Calls<100000))]:=by
 have a:=mB k b;cases e:aF k<;>rw[e]at a
 ·refine fO 10 [] Tryz.func277 rfl ?_
  repeat'(first|refine gP ?_|(conv=>whnf);first|with_reducible refine Bf.D (λc=>?_) (λc=>?_)|refine C9 (a) ?_)
  all_goals rfl
 refine fO 10 [] Tryz.func277 rfl ?_
 repeat'(first|refine gP ?_|(conv=>whnf);first|refine C9 (a) ?_)
 all_goals rfl
def sB(k:ah)(b:ah.sml k):zzA 197 false [.val (some 5) (ah.enc .V k)] .one [B (decide (k.Calls≠100000)&&aF k)]:=by
 have c:=re k b;refine fO 10 [] Tryz.func197 rfl ?_
 repeat'(first|refine gP ?_|(conv=>whnf);first|with_reducible (first|refine Bf.N (λa=>?_) (λa=>?_)|refine Bf.D (λa=>?_) (λa=>?_))|refine C9 (c) ?_)
 all_goals(exact Z0 (λz=>[B z]) ((by simp[*])))
theorem uo(h:(pagesOn k.F.R f).length=0):ah.enc .own (ge k f)=[.s .own ((k.F.W.T.map (aH .own)).set f.toNat (aH .own (List.replicate 16 0))),.s .own ((k.F.W.a5.map (rB .own)).set f.toNat (rB .own false)),.s .own (k.F.R.K.map (bm.enc .own)),I k.Calls,.s .own (k.a0.map (rI .own))]:=by grind [Z6,ge,ah.enc]
theorem y5(h:¬(pagesOn k.F.R f).length=0):ah.enc .own (ge k f)=ah.enc .own k:=by grind [ge]
def sJ(k:ah)(f:Int)(a:aL.sml k.F.R)(b:0<=f/\f<k.F.W.T.length/\f<k.F.W.a5.length) :
  zzB 486 false [.ptr (ah.enc .own k),.val none [I f]] [.ptr (ah.enc .own (ge k f)),.val none [I f]] (.tup []) []:=by
 have c:=au (xs:=k.F.W.T) (i:=f.toNat) ω;have d:=au (xs:=k.F.W.a5) (i:=f.toNat) ω;by_cases e:(pagesOn k.F.R f).length=0
 ·rw[uo e]
  refine fM 30 [] [(2,8,[21,22,23,24,25,26,27,28])] [(0,0),(0,0)] Tryz.func486 rfl (λu q=>?_) (.inr trivial)
  repeat'(first|refine gB ?_|(conv=>whnf);first|with_reducible (first|refine CO b.1 (aa d) ?_|refine CO b.1 (aa c) ?_)|refine CK (gR k.F.R f a) ⟨⟨rfl,Cb k.F.R⟩,⟨rfl,rfl⟩,trivial⟩ ?_|refine CQ rfl rfl (aa c) rfl (O1 rfl) rfl ?_|refine CQ rfl rfl (aa d) rfl (O1 rfl) rfl ?_|refine Mk.mk 16 rfl rfl (by decide) (by decide) rfl ?_)
  refine CH rfl rfl ?_;exact wB
 rw[y5 e];refine fM 30 [] [(2,8,[21,22,23,24,25,26,27,28])] [(0,0),(0,0)] Tryz.func486 rfl (λu q=>?_) (.inr trivial)
 repeat'(first|refine gB ?_|(conv=>whnf);first|refine CK (gR k.F.R f a) ⟨⟨rfl,Cb k.F.R⟩,⟨rfl,rfl⟩,trivial⟩ ?_)
 refine CH rfl rfl ?_;exact wB
def Dm(k:ah)(f:Int)(a:aL.sml k.F.R)(b:0<=f/\f<k.F.W.T.length/\f<k.F.W.a5.length) :
  zzB 198 false [.ptr (ah.enc .own k),.val none [I f]] [.ptr (ah.enc .own (ge k f)),.val none [I f]] (.tup []) []:=by
 have c:=au (xs:=k.F.W.T) (i:=f.toNat) ω;have d:=au (xs:=k.F.W.a5) (i:=f.toNat) ω;by_cases e:(pagesOn k.F.R f).length=0
 ·rw[uo e]
  refine fM 30 [] [(2,8,[21,22,23,24,25,26,27,28])] [(0,0),(0,0)] Tryz.func198 rfl (λu q=>?_) (.inr trivial)
  repeat'(first|refine gB ?_|(conv=>whnf);first|with_reducible (first|refine CO b.1 (aa d) ?_|refine CO b.1 (aa c) ?_)|refine CK (kR k.F.R f a) ⟨⟨rfl,Cb k.F.R⟩,⟨rfl,rfl⟩,trivial⟩ ?_|refine CQ rfl rfl (aa c) rfl (O1 rfl) rfl ?_|refine CQ rfl rfl (aa d) rfl (O1 rfl) rfl ?_|refine Mk.mk 16 rfl rfl (by decide) (by decide) rfl ?_)
  refine CH rfl rfl ?_;exact wB
 rw[y5 e];refine fM 30 [] [(2,8,[21,22,23,24,25,26,27,28])] [(0,0),(0,0)] Tryz.func198 rfl (λu q=>?_) (.inr trivial)
 repeat'(first|refine gB ?_|(conv=>whnf);first|refine CK (kR k.F.R f a) ⟨⟨rfl,Cb k.F.R⟩,⟨rfl,rfl⟩,trivial⟩ ?_)
 refine CH rfl rfl ?_;exact wB
theorem xN(k:ah)(p:Int):ah.enc .own (lh k p)=[.s .own (k.F.W.T.map (aH .own)),.s .own (k.F.W.a5.map (rB .own)),.s .own ((k.F.R.K.map (bm.enc .own)).set p.toNat (bm.enc .own ⟨0,0⟩)),I k.Calls,.s .own (k.a0.map (rI .own))]:=by grind [Z6,lh,ah.enc]
theorem wH(h:aF k=true):aL.sml (lh k p).F.R:=by
 obtain⟨a,b,c⟩:=br.1 (aG.1 h).2.2.1;exact⟨by grind [lh],λ_ _=>trivial⟩
theorem PU(k:ah)(p:Int)(b:aF k=true) :
  zzB 374 false [.ptr (ah.enc .own k),.val none [I p]] [.ptr (ah.enc .own (cN k p)),.val none [I p]] .one [B (decide ((af k.F.R p).e≠0))]:=by
 have j:=b8 b;have c:=eJ k p j.1.2;by_cases a:(af k.F.R p).e=0
 ·rw[show cN k p=k by unfold cN;rw[CD a]]
  refine fM 32 [(486,[2,0])] [] [(0,0),(0,0)] Tryz.func374 rfl (λu q=>?_)
  repeat'(first|refine gB ?_|(conv=>whnf);first|refine CK (c) ⟨CR k,⟨rfl,rfl⟩,trivial⟩ ?_)
  refine CH rfl ?_ ?_
  ·exact Z0 (λz=>[B z]) ((by simp[a]))
  exact wB
 obtain⟨l,r,n,d,o⟩:=bW b a;have h:=(bf.1 (aG.1 b).2.1).2.2.1;rw[show cN k p=ge (lh k p) (af k.F.R p).j by unfold cN;rw[CB a]];have e:=sJ (lh k p) (af k.F.R p).j (wH b) ⟨d,by grind [lh],by grind [lh]⟩;rw[xN]at e;have g:=au (xs:=k.F.R.K) (i:=p.toNat) ω;rw[n]at c e a |-;refine fM 32 [(486,[2,0])] [] [(0,0),(0,0)] Tryz.func374 rfl (λu q=>?_)
 repeat'(first|refine gB ?_|(conv=>whnf);first|with_reducible refine CO l (aa g) ?_|refine CK (c) ⟨CR k,⟨rfl,rfl⟩,trivial⟩ ?_|refine CQ rfl rfl (aa g) rfl (O1 rfl) rfl ?_|refine CG rfl (aa g) rfl ?_|refine CL (e) (.inl rfl) ?_)
 refine CH rfl ?_ ?_
 ·exact Z0 (λz=>[B z]) ((by simp[a]))
 exact wB
theorem v8(k:ah)(p:Int)(a:aF k=true)(o:k.Calls≠100000) :
  zzA 69 false [.val (some 5) (ah.enc .V k),.val none [I p]] (.tup [some 5,none]) (ah.enc .own (cN k p)++[B (decide ((af k.F.R p).e≠0))]):=by
 have d:=b8 a;have l:=kw k d;have e:=sB k d;have c:=pj k p d.1.2;rw[a,O0 o]at e;by_cases b:(af k.F.R p).e=0
 ·rw[show cN k p=k by unfold cN;rw[CD b]]
  rw[W0 (by simpa using b)]at c |-;refine fP 38 [(198,[2,0])] [] Tryz.func69 rfl ?_ (.inr (aU (Cf k) ⟨trivial,trivial⟩))
  repeat'(first|refine gP ?_|(conv=>whnf);first|refine C9 (l) ?_|refine C9 (e) ?_|refine C9 (c) ?_)
  all_goals rfl
 obtain⟨q,u,r,g,t⟩:=bW a b;have n:=(bf.1 (aG.1 a).2.1).2.2.1;rw[show cN k p=ge (lh k p) (af k.F.R p).j by unfold cN;rw[CB b]];have h:=Dm (lh k p) (af k.F.R p).j (wH a) ⟨g,by grind [lh],by grind [lh]⟩;rw[xN]at h;have j:=au (xs:=k.F.R.K) (i:=p.toNat) ω;rw[O0 b]at c |-;rw[r]at h |-;refine fP 38 [(198,[2,0])] [] Tryz.func69 rfl ?_ (.inr (aU (Cf _) ⟨trivial,trivial⟩))
 repeat'(first|refine gP ?_|(conv=>whnf);first|with_reducible refine CO q (aa j) ?_|refine C9 (l) ?_|refine C9 (e) ?_|refine C9 (c) ?_|refine CQ rfl rfl (aa j) rfl (O1 rfl) rfl ?_|refine CG rfl (aa j) rfl ?_|refine CL (h) (.inl rfl) ?_)
 all_goals rfl
def gl(n:Nat):aX:=⟨List.replicate n (List.replicate 16 0),List.replicate n false⟩
def fQ(n:Nat):aL:=⟨List.replicate n ⟨0,0⟩⟩
def bZ(p f:Nat)(a:List Int):ah:=⟨⟨gl f,fQ p⟩,0,a⟩
def fF:aE:=⟨List.replicate 4 []⟩
def eB(n:Nat):aM:=⟨List.replicate n [],List.replicate n []⟩
def newHeap(p f t:Nat)(lim:Int)(a:List Int):ac:=⟨bZ p f a,[⟨0,p⟩],[],[],[],List.replicate t fF,eB t,⟨16,[]⟩,0,0,lim,1,false,⟨⟨0,0,[]⟩,0,0⟩⟩
theorem d5[Inhabited α]{y:α}(a:j<n):nth (List.replicate n y) j=y:=bk ψ
theorem PA(n:Nat)(f:Int):pagesOn (fQ n) f=[]:=by grind [List.filter_eq_nil_iff,d5,pagesOn,jP,fQ,Ps]
theorem BO{p f:Nat}(c:1<=p/\p<=32)(d:1<=f/\f<=32):aF (bZ p f [])=true:=by
 rw[aG];refine⟨λj b=>by grind [bZ],bf.2 ⟨by grind [bZ,gl],by grind [bZ,gl],by grind [bZ,gl],λj b=>?_⟩,br.2 ⟨λj b=>?_,by grind [bZ,fQ],by grind [bZ,fQ]⟩,λj b=>?_,by simp[bZ],by simp[bZ],by simp[bZ]⟩
 ·have a:j<f:=by grind [bZ,gl]
  rw[show nth (bZ p f []).F.W.T j=List.replicate 16 0 from d5 a,show nth (bZ p f []).F.W.a5 j=false from d5 a]
  decide
 all_goals grind [PA,bZ,fQ,nth,kH,gl]
theorem Jp(w:World)(q:Nat)(a:Array Obj):bx NO w (Sort.grow (w.drewN q) a):=by
 have c:∀b,b<w.heap.size->(Sort.grow (w.drewN q) a).heap[b]? = w.heap[b]?:=λb c=>Sort.heap_grow_old (w.drewN q) a c
 refine⟨rfl,rfl,rfl,ψ,λb h _=>c b h,λb o h _=>?_,λb o h _=>?_⟩
 all_goals grind [Go.World.cell?,Go.World.frozen?,mp]
theorem LI(c:Nat)(W:World):Calls Tryz.prog 455 #[.slice none 0 c] W λe g=>∃B q h,e=.returned (.slice B 0 0)/\g=Sort.grow (W.drewN q) h:=by
 have q22:∀(w:World)(a:Option Addr)(n c b d:Nat),(binOp .eql 33 (.slice a n c) (.slice none b d)).run Tryz.prog w=.ok (.bool a.isNone) w:=λw a n c b d=>Lib.run_eql_slice_nil w _ _ a n c b d Tryz.underlying33
 go_enter Tryz.func455,Tryz.ntmps455
 go_wp2
 go_ret
 exact⟨none,0,#[],rfl,by simp[Sort.grow,World.drewN]⟩
theorem GX(a:Addr)(c:Nat)(W:World):Calls Tryz.prog 455 #[.slice (some a) 0 c] W λe g=>∃B q h,e=.returned (.slice B 0 0)/\g=Sort.grow (W.drewN q) h:=by
 have q22:∀(w:World)(a:Option Addr)(n c b d:Nat),(binOp .eql 33 (.slice a n c) (.slice none b d)).run Tryz.prog w=.ok (.bool a.isNone) w:=λw a n c b d=>Lib.run_eql_slice_nil w _ _ a n c b d Tryz.underlying33
 go_enter Tryz.func455,Tryz.ntmps455
 go_wp2
 go_ret
 exact⟨some ⟨W.heap.size,0,none⟩,0,#[.cells #[] 3],rfl,by rw[Sort.alloc_eq_grow];rfl⟩
theorem HC(xs:List Int)(o:xs.length<=1048576):zzA 455 false [.val none (aH .V xs)] .one (aH .own xs):=by
 by_cases c:xs=[]
 ·subst c
  refine⟨⟨_,Tryz.func455,by kernel_rfl,by kernel_rfl⟩,λw S p t d=>?_⟩
  match p,d with
  | [v],⟨d,_⟩=>
   have b:=bB.rep1 (show bB w S NO none [C.s .V []] v from d);obtain⟨l,g,rfl⟩:=b.slice;have r:Calls Tryz.prog 455 #[.slice l 0 g] w λe n=>∃B q i,e=.returned (.slice B 0 0)/\n=Sort.grow (w.drewN q) i:=by
    cases l with
    | none=>grind [LI]
    | some a=>grind [GX]
   refine r.mono λe n ⟨B,q,i,c,j⟩=>?_
   subst j;exact⟨.slice B 0 0,c,Jp w q i,NO,NO,λ_ _ h=>h.elim,λ_ _ h=>h.elim,λ_ _ h=>h.elim,rfl,row1 (.nil _ .own B trivial)⟩
 have k:xs.map (rI .V)≠[]:=by simp_all
 refine fO 8 [] Tryz.func455 rfl ?_ (.inr (bO _))
 repeat'(first|refine gP ?_|(conv=>whnf);first|refine Nn.mk k ?_|refine CS (λ_=>rfl) (λ_=>rfl) o (by decide) ?_)
 rfl
def zZ(p:cA)(a:cA.sml p):zzA 332 false [.val (some 3) (cA.enc .V p)] .agg (cA.enc .own p):=by
 have b:p.T.length<=1048576:=a;refine fO 8 [] Tryz.func332 rfl ?_ (.inr (cA.enc_fr _))
 repeat'(first|refine gP ?_|(conv=>whnf);first|refine C9 (HC p.T b) ?_)
 rfl
def Db(j:cJ)(a:cJ.sml j):zzA 185 false [.val (some 5) (cJ.enc .V j)] .agg (cJ.enc .own j):=by
 refine fO 8 [] Tryz.func185 rfl ?_ (.inr (cJ.enc_fr _))
 repeat'(first|refine gP ?_|(conv=>whnf);first|refine C9 (zZ j.X a) ?_)
 rfl
def iZ(c:aE)(d:aE.sml c):zzA 204 false [.val (some 1) (aE.enc .V c)] .agg (aE.enc .own c):=by
 have g:=d.1;refine fO 26 [(5,10,[13,14,15,16,17,18,19,20,21,22])] Tryz.func204 rfl ?_ (.inr (aE.enc_fr _))
 repeat'(first|refine gP ?_|fail)
 (conv=>whnf)
 refine CJ (ι:=Nat) (λi=>[(1,.H .box (aE.enc .V c)),(2,.H .box [.z]),(3,.H .box [.s .own ((c.a.take i).map (aH .own))]),(4,.H .one [I ((i:Nat):Int)])]) (λi=>i<=c.a.length) (λi=>c.a.length - i) (0) ?_ (X0 _) λi h=>?_
 ·exact wB
 by_cases a:i<c.a.length
 ·have e:=au a
  have b:(nth c.a i).length<=1048576:=d.2 _ (ar a)
  repeat'(first|refine gE ?_|(conv=>whnf);first|with_reducible refine CE (aa e) ?_|refine CX (λ_=>rfl) (λ_=>rfl) b (by decide) ?_|refine Ap.sn (aV λ_=>rfl) rfl (by simp;omega) (by decide) (fJ a) ?_)
  ((conv=>whnf);refine CF (i+1) ω ω ?_;(exact wB))
 repeat'(first|refine gE ?_|fail)
 obtain rfl:i=c.a.length:=ω
 rw[X5]
 rfl
def lv(c:aE)(d:aE.sml c):zzA 182 false [.val (some 1) (aE.enc .V c)] .agg (aE.enc .own c):=by
 have g:=d.1;refine fO 23 [(5,5,[14,15,16,17,18])] Tryz.func182 rfl ?_ (.inr (aE.enc_fr _))
 repeat'(first|refine gP ?_|fail)
 (conv=>whnf)
 refine CJ (ι:=Nat) (λi=>[(2,.H .box [.z]),(3,.H .box [.s .own ((c.a.take i).map (aH .own))]),(8,.H .one (jE .V c.a)),(9,.H .one [I (c.a.length)]),(10,.H .one [I ((i:Nat):Int)])]) (λi=>i<=c.a.length) (λi=>c.a.length - i) (0) ?_ (X0 _) λi h=>?_
 ·exact wB
 by_cases a:i<c.a.length
 ·have e:=au a
  have b:(nth c.a i).length<=1048576:=d.2 _ (ar a)
  repeat'(first|refine gE ?_|(conv=>whnf);first|with_reducible refine CE (aa e) ?_|refine C9 (jG (nth c.a i) b) ?_|refine Ap.sn (aV λ_=>rfl) rfl (by simp;omega) (by decide) (fJ a) ?_)
  ((conv=>whnf);refine CF (i+1) ω ω ?_;(exact wB))
 repeat'(first|refine gE ?_|fail)
 obtain rfl:i=c.a.length:=ω
 rw[X5]
 rfl
def fW(m:aM)(b:aM.sml m):zzA 205 false [.val (some 2) (aM.enc .V m)] .agg (aM.enc .own m):=by
 have h:=b.1.1;have g:=b.2.1;refine fO 46 [(5,10,[14,15,16,17,18,19,20,21,22,23]),(9,10,[33,34,35,36,37,38,39,40,41,42])] Tryz.func205 rfl ?_ (.inr (aM.enc_fr _))
 repeat'(first|refine gP ?_|fail)
 (conv=>whnf)
 refine CJ (ι:=Nat) (λi=>[(1,.H .box (aM.enc .V m)),(2,.H .box [.z,.z]),(3,.H .box [.s .own ((m.U.take i).map (cL .own)),.z]),(4,.H .one [I ((i:Nat):Int)])]) (λi=>i<=m.U.length) (λi=>m.U.length - i) (0) ?_ (X0 _) λi j=>?_
 ·exact wB
 by_cases c:i<m.U.length
 ·have d:=au c
  have a:(nth m.U i).length<=1048576:=(b.1.2 _ (ar c)).1
  repeat'(first|refine gE ?_|(conv=>whnf);first|with_reducible refine CE (aa d) ?_|refine CX (λ_=>rfl) (λ_=>rfl) a (by decide) ?_|refine Ap.sn (aV λ_=>rfl) rfl (by simp;omega) (by decide) (fJ c) ?_)
  ((conv=>whnf);refine CF (i+1) ω ω ?_;(exact wB))
 obtain rfl:i=m.U.length:=ω
 rw[X5]
 repeat'(first|refine gE ?_|fail)
 (conv=>whnf)
 refine CJ (ι:=Nat) (λk=>[(1,.H .box (aM.enc .V m)),(2,.H .box [.z,.z]),(3,.H .box [.s .own (m.U.map (cL .own)),.s .own ((m.y.take k).map (aH .own))]),(5,.H .one [I ((k:Nat):Int)])]) (λk=>k<=m.y.length) (λk=>m.y.length - k) (0) ?_ (X0 _) λk l=>?_
 ·exact wB
 by_cases e:k<m.y.length
 ·have d:=au e
  have a:(nth m.y k).length<=1048576:=b.2.2 _ (ar e)
  repeat'(first|refine gE ?_|(conv=>whnf);first|with_reducible refine CE (aa d) ?_|refine CX (λ_=>rfl) (λ_=>rfl) a (by decide) ?_|refine Ap.sn (aV λ_=>rfl) rfl (by simp;omega) (by decide) (fJ e) ?_)
  ((conv=>whnf);refine CF (k+1) ω ω ?_;(exact wB))
 repeat'(first|refine gE ?_|fail)
 obtain rfl:k=m.y.length:=ω
 rw[X5]
 rfl
def zl(m:aM)(b:aM.sml m):zzA 183 false [.val (some 2) (aM.enc .V m)] .agg (aM.enc .own m):=by
 have h:=b.1.1;have g:=b.2.1;refine fO 41 [(5,6,[16,17,18,19,20,21]),(10,5,[32,33,34,35,36])] Tryz.func183 rfl ?_ (.inr (aM.enc_fr _))
 repeat'(first|refine gP ?_|fail)
 (conv=>whnf)
 refine CJ (ι:=Nat) (λi=>[(1,.H .box (aM.enc .V m)),(2,.H .box [.z,.z]),(3,.H .box [.s .own ((m.U.take i).map (cL .own)),.z]),(10,.H .one (y8 .V m.U)),(11,.H .one [I (m.U.length)]),(12,.H .one [I ((i:Nat):Int)])]) (λi=>i<=m.U.length) (λi=>m.U.length - i) (0) ?_ (X0 _) λi j=>?_
 ·exact wB
 by_cases c:i<m.U.length
 ·have d:=au c
  have a:(nth m.U i).length<=1048576:=(b.1.2 _ (ar c)).1
  repeat'(first|refine gE ?_|(conv=>whnf);first|with_reducible refine CE (aa d) ?_|refine CX (λ_=>rfl) (λ_=>rfl) a (by decide) ?_|refine Ap.sn (aV λ_=>rfl) rfl (by simp;omega) (by decide) (fJ c) ?_)
  ((conv=>whnf);refine CF (i+1) ω ω ?_;(exact wB))
 obtain rfl:i=m.U.length:=ω
 rw[X5]
 repeat'(first|refine gE ?_|fail)
 (conv=>whnf)
 refine CJ (ι:=Nat) (λk=>[(2,.H .box [.z,.z]),(3,.H .box [.s .own (m.U.map (cL .own)),.s .own ((m.y.take k).map (aH .own))]),(26,.H .one (jE .V m.y)),(27,.H .one [I (m.y.length)]),(28,.H .one [I ((k:Nat):Int)])]) (λk=>k<=m.y.length) (λk=>m.y.length - k) (0) ?_ (X0 _) λk l=>?_
 ·exact wB
 by_cases e:k<m.y.length
 ·have d:=au e
  have a:(nth m.y k).length<=1048576:=b.2.2 _ (ar e)
  repeat'(first|refine gE ?_|(conv=>whnf);first|with_reducible refine CE (aa d) ?_|refine C9 (jG (nth m.y k) a) ?_|refine Ap.sn (aV λ_=>rfl) rfl (by simp;omega) (by decide) (fJ e) ?_)
  ((conv=>whnf);refine CF (k+1) ω ω ?_;(exact wB))
 repeat'(first|refine gE ?_|fail)
 obtain rfl:k=m.y.length:=ω
 rw[X5]
 rfl
def sC(q:bQ)(b:bQ.sml q):zzA 206 false [.val (some 2) (bQ.enc .V q)] .agg (bQ.enc .own q):=by
 have a:q.a6.length<=1048576:=b.1;refine fO 10 [(1,6,[3,4,5,6,7,8])] Tryz.func206 rfl ?_ (.inr (bQ.enc_fr _))
 repeat'(first|refine gP ?_|(conv=>whnf);first|refine CX (λ_=>rfl) (λ_=>rfl) a (by decide) ?_|refine CS (λ_=>rfl) (λ_=>rfl) a (by decide) ?_)
 rfl
def Ag(q:bQ)(b:bQ.sml q):zzA 184 false [.val (some 2) (bQ.enc .V q)] .agg (bQ.enc .own q):=by
 have a:q.a6.length<=1048576:=b.1;refine fO 10 [(1,6,[3,4,5,6,7,8])] Tryz.func184 rfl ?_ (.inr (bQ.enc_fr _))
 repeat'(first|refine gP ?_|(conv=>whnf);first|refine CX (λ_=>rfl) (λ_=>rfl) a (by decide) ?_|refine CS (λ_=>rfl) (λ_=>rfl) a (by decide) ?_)
 rfl
def tJ(j:cJ)(a:cJ.sml j):zzA 207 false [.val (some 5) (cJ.enc .V j)] .agg (cJ.enc .own j):=by
 have b:j.X.T.length<=1048576:=a;refine fO 11 [] Tryz.func207 rfl ?_ (.inr (cJ.enc_fr _))
 repeat'(first|refine gP ?_|(conv=>whnf);first|refine CS (λ_=>rfl) (λ_=>rfl) b (by decide) ?_)
 rfl
def oH(xs:List aB)(a:gG xs):zzA 181 false [.val none (bv .V xs)] .one (bv .own xs):=by
 have b:=a.1;refine fO 6 [] Tryz.func181 rfl ?_ (.inr (iG _))
 repeat'(first|refine gP ?_|(conv=>whnf);first|refine CS (λ_=>rfl) (λ_=>rfl) b (by decide) ?_)
 rfl
def TU(h:ac)(a:C):List C:=[.s .own (h.G.F.W.T.map (aH .own)),.s .own (h.G.F.W.a5.map (rB .own)),.s .own (h.G.F.R.K.map (bm.enc .own)),I h.G.Calls,.s .own (h.G.a0.map (rI .own)),.s .own (h.o.map (aB.enc .own)),.s .own (h.J.map (aA.enc .own)),.s .own (h.M.map (aC.enc .own)),.s .own (h.O.map (bo.enc .own)),a,.s .V (h.w.U.map (cL .V)),.s .V (h.w.y.map (aH .V)),I h.a7.b7,.s .V (h.a7.a6.map (aR.enc .V)),I h.b5,I h.b1,I h.c0,I h.b,B h.u,I h.Y.X.a3,I h.Y.X.a1,.s .V (h.Y.X.T.map (rI .V)),I h.Y.b0,I h.Y.b]
def Kq:List C:=[.z,.z,.z,I 0,.z,.z,.z,.z,.z,.z,.z,.z,I 0,.z,I 0,I 0,I 0,I 0,B false,I 0,I 0,.z,I 0,I 0]
def oy(h:ac)(c:ac.sml h):zzA 72 false [.val (some 24) (ac.enc .V h)] .agg (ac.enc .own h):=by
 obtain⟨d,e,g,j,k,b,l,n,o⟩:=c;have p:=e.1;have q:=g.1;have r:=j.1;have t:=k.1;have w:=b.1;refine fO 61 [] Tryz.func72 rfl ?_ (.inr (ac.enc_fr _))
 repeat'(first|refine gP ?_|(conv=>whnf);first|refine C9 (Ep h.G d) ?_|refine CS (λ_=>rfl) (λ_=>rfl) p (by decide) ?_|refine CS (λ_=>rfl) (λ_=>rfl) q (by decide) ?_|refine CS (λ_=>rfl) (λ_=>rfl) r (by decide) ?_|refine CS (λ_=>rfl) (λ_=>rfl) t (by decide) ?_)
 (conv=>whnf)
 refine CJ (ι:=Nat) (λi=>[(1,.H .box (TU h (.s .V (h.S.map (aE.enc .V))))),(2,.H .box Kq),(3,.H .one ([.s .own ((h.S.take i).map (aE.enc .own))])),(4,.H .one [I ((i:Nat):Int)])]) (λi=>i<=h.S.length) (λi=>h.S.length - i) (0) ?_ (X0 _) λi y=>?_
 ·exact wB
 by_cases a:i<h.S.length
 ·have u:=au a
  repeat'(first|refine gE ?_|(conv=>whnf);first|with_reducible refine CE (aa u) ?_|refine C9 (iZ (nth h.S i) (b.2 _ (ar a))) ?_|refine Ap.sn (aV λ_=>rfl) rfl (by simp;omega) (by decide) (fJ a) ?_)
  ((conv=>whnf);refine CF (i+1) ω ω ?_;(exact wB))
 obtain rfl:i=h.S.length:=ω
 rw[X5]
 repeat'(first|refine gE ?_|(conv=>whnf);first|refine C9 (fW h.w l) ?_|refine C9 (sC h.a7 n) ?_|refine C9 (tJ h.Y o) ?_)
 rfl
def Aj(h:ac)(c:ac.sml h):zzA 62 false [.val (some 24) (ac.enc .V h)] .agg (ac.enc .own h):=by
 obtain⟨d,e,g,j,k,b,l,n,o⟩:=c;have p:=g.1;have q:=j.1;have r:=k.1;have u:=b.1;refine fO 59 [(11,5,[38,39,40,41,42])] Tryz.func62 rfl ?_ (.inr (ac.enc_fr _))
 repeat'(first|refine gP ?_|(conv=>whnf);first|refine C9 (kw h.G d) ?_|refine C9 (oH h.o e) ?_|refine CS (λ_=>rfl) (λ_=>rfl) p (by decide) ?_|refine CS (λ_=>rfl) (λ_=>rfl) q (by decide) ?_|refine CS (λ_=>rfl) (λ_=>rfl) r (by decide) ?_)
 (conv=>whnf)
 refine CJ (ι:=Nat) (λi=>[(1,.H .box (ac.enc .V h)),(2,.H .box Kq),(3,.H .box (TU h (.s .own ((h.S.take i).map (aE.enc .own))))),(32,.H .one (pG .V h.S)),(33,.H .one [I (h.S.length)]),(34,.H .one [I ((i:Nat):Int)])]) (λi=>i<=h.S.length) (λi=>h.S.length - i) (0) ?_ (X0 _) λi w=>?_
 ·exact wB
 by_cases a:i<h.S.length
 ·have t:=au a
  repeat'(first|refine gE ?_|(conv=>whnf);first|with_reducible refine CE (aa t) ?_|refine C9 (lv (nth h.S i) (b.2 _ (ar a))) ?_|refine Ap.sn (aV λ_=>rfl) rfl (by simp;omega) (by decide) (fJ a) ?_)
  ((conv=>whnf);refine CF (i+1) ω ω ?_;(exact wB))
 obtain rfl:i=h.S.length:=ω
 rw[X5]
 repeat'(first|refine gE ?_|(conv=>whnf);first|refine C9 (zl h.w l) ?_|refine C9 (Ag h.a7 n) ?_|refine C9 (Db h.Y o) ?_)
 rfl
theorem Ap.sm{a:List (List C)}(h1:∀r∈rows,r.length=sz)(e:r.length=sz)(f:rows.length+1<=1073741824)(b:by_<=1000)(c:a=rows++[r])(d:K a):Ap false rows [r] sz by_ K:=
 CV h1 ψ ψ (by simp;omega) (I5 (Nat.mul_le_mul ω b) (by decide)) c d
def LJ(y:aB)(a:List aB)(r:aB)(out:List aB)(done:Bool):kv (y::a) r out done=if ovl y r then none
  else if y.At+y.a8=r.At then kv a ⟨y.At,y.a8+r.a8⟩ out done
  else if r.At+r.a8=y.At then kv a ⟨r.At,r.a8+y.a8⟩ out done
  else if y.At > r.At/\done=false then kv a r (out++[r,y]) true
  else kv a r (out++[y]) done:=by rw[kv]
variable{xs:List aB}{pages:Int}
theorem wu(h:bF pages xs=true):j9 xs/\∀y∈xs,0<=y.At/\1<=y.a8/\y.At+y.a8<=pages:=by
 unfold bF at h;simp only[I0,C0]at h;have d:∀i,i<xs.length->1<=(nth xs i).a8/\0<=(nth xs i).At/\(nth xs i).At<=pages - (nth xs i).a8:=λi a=>by grind [eZ,gx,rangeIn]
 have e:∀i,i+1<xs.length->(nth xs i).At+(nth xs i).a8<(nth xs (i+1)).At:=λi a=>by grind [eZ,gx]
 have f:∀j i,i<j->j<xs.length->(nth xs i).At+(nth xs i).a8<(nth xs j).At:=λj=>by
  induction j with
  | zero=>intro i a;omega
  | succ j k=>
   grind
 refine⟨⟨?_,λy g=>?_⟩,λy g=>?_⟩
 ·rw[List.pairwise_iff_getElem]
  intro i j a c b;have:=f j i b c
  rwa [bk (X2 a),bk (X2 c)]at this
 all_goals grind [aO]
theorem jl[Inhabited α]{xs:List α}(a:i<xs.length):xs.drop i=nth xs i::xs.drop (i+1):=by
 rw[List.drop_eq_getElem_cons a,bk (X2 a)]
def dN(pages:Int)(xs:List aB)(r:aB):Option (List aB):=if bF pages xs=true/\rangeIn pages r=true then kv xs r [] false else none
def HM(xs:List aB)(o:Option (List aB)):List C:=bv .own (o.getD xs)++[B o.isSome]
def ur(xs:List aB)(o:Option (List aB)):ij (HM xs o):=aU (iG _) ⟨trivial,trivial⟩
theorem wq[Inhabited α](R:Int->Int->Prop)(n:∀a b c,R a b->R b c->R a c)(f:α->Int)(xs:List α):(∀i,i<xs.length->i=0\/R (f (nth xs (i - 1))) (f (nth xs i)))↔xs.Pairwise (λa b=>R (f a) (f b)):=by
 constructor
 ·intro h
  have l:∀j i,i<j->j<xs.length->R (f (nth xs i)) (f (nth xs j)):=λj=>by
   induction j with
   | zero=>intro i d;omega
   | succ j o=>
    grind
  rw[List.pairwise_iff_getElem];intro i j d k g;have:=l j i g k
  rwa [bk (X2 d),bk (X2 k)]at this
 intro h i d;by_cases e:i=0
 ·exact .inl e
 right
 have:=List.pairwise_iff_getElem.1 h (i - 1) i ω d ω
 rwa [<-bk (X2 (show i - 1<xs.length by omega)),<-bk (X2 d)]at this
theorem B2[Inhabited α](f:α->Int)(xs:List α):(∀i,i<xs.length->∀o∈xs.take i,f o≠f (nth xs i))↔(xs.map f).Nodup:=by
 unfold List.Nodup;rw[List.pairwise_map,List.pairwise_iff_getElem];constructor
 ·intro h i j b a c
  have:=h j a xs[i] (List.mem_take_iff_getElem.2 ψ)
  rwa [bk (X2 a)]at this
 intro h i b o d;obtain⟨j,a,rfl⟩:=List.mem_take_iff_getElem.1 d;rw[bk (X2 b)]
 grind
def eK(s:aA)(a:Int):Prop:=16*s.Q<=a/\a<=16*s.Q+15/\(a - 16*s.Q) % csz s.d=0/\aZ s.a9 ((a - 16*s.Q) / csz s.d)=true
def jo(sp:List aA)(a c:Int):Prop:=∃s∈sp,eK s a/\(c<0\/s.d=c)
def U8(la:List aC)(a z:Int):Prop:=∃l∈la,a=16*l.Q/\l.q=z
def Mw(sp:List aA)(la:List aC)(o:bo):Prop:=(∃s∈sp,eK s o.Addr/\s.d=aK o.q)\/U8 la o.Addr o.q
def mK(sp:List aA)(la:List aC)(a:Int):Prop:=jo sp a (-1)\/∃l∈la,a=16*l.Q
theorem mY(f:oL sp la)(a:Int):(∃i,i<sp.length/\(16*(nth sp i).Q<=a/\a<=16*(nth sp i).Q+15)/\denotes sp la a=oM i (nth sp i) a)\/((∀s∈sp,¬(16*s.Q<=a/\a<=16*s.Q+15))/\((∃i,i<la.length/\bG (nth la i) a=true/\denotes sp la a = ⟨3,i,0,a - 16*(nth la i).Q⟩)\/((∀l∈la,bG l a=false)/\denotes sp la a = ⟨0,0,0,0⟩))):=by
 cases d:sp.findIdx? (dd · a) with
 | some i=>
  obtain⟨b,c,-⟩:=Y7.1 d;rw[<-bk (X2 b)]at c
  grind [gQ,oL.sok,ar,denotes]
 | none=>
  have g:=List.findIdx?_eq_none_iff.1 d;refine .inr ⟨λs h j=>?_,?_⟩
  ·grind [gQ,oL.sok]
  cases e:la.findIdx? (bG · a) with
  | some i=>
   obtain⟨b,c,-⟩:=Y7.1 e;rw[<-bk (X2 b)]at c
   grind [denotes]
  | none=>grind [denotes]
theorem M7(l:oL h.J h.M) : dy h a c=true↔jo h.J a c:=by
 unfold dy;simp only[I0,C7,C0];constructor
 ·rintro⟨⟨b,f⟩,d⟩
  rcases mY l a with⟨i,j,k,g⟩|⟨-,⟨i,j,-,g⟩|⟨-,g⟩⟩
  ·rw[g]at b f d
   simp only[oM]at b f d;refine⟨_,ar j,⟨k.1,k.2,f,?_⟩,by simpa using d⟩;cases e:aZ (nth h.J i).a9 ((a - 16*(nth h.J i).Q) / csz (nth h.J i).d) with
   | true=>rfl
   | false=>rw[e]at b;simp at b
  all_goals grind
 rintro⟨s,n,⟨o,p,q,r⟩,d⟩
 grind [aO,jJ,oM]
theorem yU(a:oL sp la)(c:l∈la):(∀s∈sp,¬(16*s.Q<=16*l.Q/\16*l.Q<=16*s.Q+15))/\bG l (16*l.Q)=true/\∀i,i<la.length->bG (nth la i) (16*l.Q)=true->nth la i=l:=by
 have k:=aS (a.lok _ c);have f:=cF (a.lok _ c);refine⟨λs g n=>?_,?_,λi d e=>?_⟩
 ·exact a.dis s g l c 0 ω ω
 ·grind [oL.lok,bG]
 obtain⟨j,h,rfl⟩:=aO c;have o:=aS (a.lok _ (ar d));have b:=a.lok _ (ar d);unfold bN at b;rw[C0]at b;unfold bG at e;rw[I0,C0]at e;rw[a.one i j d h ((nth la j).Q - (nth la i).Q).toNat 0 ω ω ω]
theorem Px(f:oL h.J h.M) : jb h o=true↔Mw h.J h.M o:=by
 unfold jb;simp only[I0,C7,C0];constructor
 ·rintro⟨b,a⟩
  rcases mY f o.Addr with⟨i,d,g,c⟩|⟨-,⟨i,d,-,c⟩|⟨-,c⟩⟩
  ·rw[c]at a b
   simp only[oM]at a b;have e:aZ (nth h.J i).a9 ((o.Addr - 16*(nth h.J i).Q) / csz (nth h.J i).d)=true:=ψ
   rw[e]at a;exact .inl ⟨_,ar d,⟨g.1,g.2,b,e⟩,by simpa using a⟩
  ·rw[c]at a b
   simp only at a b;exact .inr ⟨_,ar d,ω,by simpa using a⟩
  grind
 rintro(⟨s,e,⟨k,n,p,q⟩,r⟩|⟨l,j,t,u⟩)
 ·grind [aO,jJ,oM]
 obtain⟨w,y,A⟩:=yU f j
 grind [mY,ar]
theorem GP(j:oL sp la)(a:Int):a∈kF sp la↔mK sp la a:=by
 constructor
 ·intro h
  unfold kF lW at h;obtain⟨n,o,rfl⟩:=Y4.1 h;have c:=(Z4.1 o).2;unfold k7 at c;simp only[I0,C7,C0]at c;obtain⟨b,d⟩:=c;rcases mY j (n:Int) with⟨i,g,k,f⟩|⟨-,⟨i,g,-,f⟩|⟨-,f⟩⟩
  ·rw[f]at d b
   simp only[oM]at d b;refine .inl ⟨_,ar g,⟨k.1,k.2,b,?_⟩,.inl ω⟩;cases e:aZ (nth sp i).a9 (((n:Int) - 16*(nth sp i).Q) / csz (nth sp i).d) with
   | true=>rfl
   | false=>rw[e]at d;simp at d
  ·rw[f]at b
   simp only at b;exact .inr ⟨_,ar g,ω⟩
  grind
 rintro(⟨s,q,⟨r,c,t,u⟩,-⟩|⟨l,p,rfl⟩)
 ·grind [aO,jJ,w9,oM]
 obtain⟨w,y,A⟩:=yU j p
 grind [mY,ar,w9]
def RH(xs:List aB)(p:Int):Prop:=∃r∈xs,r.At<=p/\p<r.At+r.a8
theorem gc : bF pages xs=true↔j9 xs/\(∀y∈xs,0<=y.At/\1<=y.a8/\y.At+y.a8<=pages)/\1<=pages/\pages<=32:=by
 constructor
 ·grind [wu,bF]
 rintro⟨b,c,d⟩
 unfold bF;simp only[I0,C0];refine⟨cy.2 λi a=>?_,d⟩;have f:=c _ (ar a);unfold gx rangeIn;simp only[I0,C0];refine⟨ω,?_⟩;by_cases e:i=0
 ·exact .inl e
 right
 have:=List.pairwise_iff_getElem.1 b.1 (i - 1) i ω a ω
 rwa [<-bk (X2 (show i - 1<xs.length by omega)),<-bk (X2 a)]at this
theorem GN(h:bF pages xs=true)(p:Int):xs.any (vS p)=true↔RH xs p:=by
 obtain⟨-,c,d⟩:=gc.1 h;rw[I4];refine⟨λ⟨r,a,b⟩=>⟨r,a,?_⟩,λ⟨r,a,b⟩=>⟨r,a,?_⟩⟩
 all_goals grind [fC,vS]
theorem w7(i:Int):∀(f:List aB)(r:aB)(out:List aB),j9 f->1<=r.a8->(∀y∈f,ovl y r=false)->(∀z∈out,z.At+z.a8<r.At/\∀y∈f,z.At+z.a8<y.At)->j9 out->(∀y∈r::(out++f),0<=y.At/\y.At+y.a8<=i)->∃o,kv f r out false=some o/\j9 o/\(∀y∈o,0<=y.At/\y.At+y.a8<=i)/\∀p,RH o p↔RH out p\/RH f p\/(r.At<=p/\p<r.At+r.a8)
 | [],r,out,_,l,_,D,g,j=>by
  refine⟨out++[r],by simp[kv],⟨List.pairwise_append.2 ⟨g.1,List.pairwise_singleton ..,ψ⟩,λy k=>?_⟩,ψ,λp=>by grind [RH]⟩;rcases V3.1 k with k|k
  ·exact g.2 y k
  grind
 | y::f,r,out,c,l,E,D,g,j=>by
  have M:=c.2 y ψ;have h:=E y ψ;have F:=c.head;have G:=j y (by simp);have H:=j r (by simp);have J:∀w∈f,¬(w.At<r.At+r.a8/\r.At<w.At+w.a8):=λw d=>by grind [ovl]
  have K:∀w∈f,1<=w.a8:=λw d=>c.2 w ψ
  rw[LJ,CB (by rw[h];simp)];unfold ovl at h;rw[z5]at h;by_cases n:y.At+y.a8=r.At
  ·rw[CD n]
   obtain⟨o,q,t,u,A⟩:=w7 i f ⟨y.At,y.a8+r.a8⟩ out c.tail (by simp only;omega) (λw d=>by grind [ovl]) ψ g ψ
   grind [RH]
  rw[CB n];by_cases B:r.At+r.a8=y.At
  ·rw[CD B]
   obtain⟨o,q,t,u,A⟩:=w7 i f ⟨r.At,r.a8+y.a8⟩ out c.tail (by simp only;omega) (λw d=>by grind [ovl]) ψ g ψ
   grind [RH]
  rw[CB B];by_cases C:y.At > r.At
  ·have L:r.At+r.a8<y.At:=ω
   rw[CD ⟨C,rfl⟩,qv c.tail l ψ];refine⟨_,rfl,⟨?_,λw d=>?_⟩,ψ,λp=>by grind [RH]⟩
   ·rw[O6]
    refine List.pairwise_append.2 ⟨g.1,?_,λa N b j=>?_⟩
    ·show(r::y::f).Pairwise _
     refine List.pairwise_cons.2 ⟨λw d=>?_,c.1⟩
     grind
    grind
   simp only[V3,List.mem_cons,List.not_mem_nil,or_false]at d;rcases d with(d|rfl|rfl)|d
   ·exact g.2 w d
   all_goals grind
  rw[CB λe=>C e.1];obtain⟨o,q,t,u,A⟩:=w7 i f r (out++[y]) c.tail l ψ ψ ⟨List.pairwise_append.2 ⟨g.1,List.pairwise_singleton ..,ψ⟩,λw d=>by
      rcases V3.1 d with d|d
      · exact g.2 w d
      grind⟩ ψ
  grind [RH]
theorem vr{r:aB}(h:bF pages xs=true)(i:0<=r.At/\1<=r.a8/\r.At+r.a8<=pages)(c:∀p,r.At<=p->p<r.At+r.a8->¬RH xs p):∃o,dN pages xs r=some o/\bF pages o=true/\∀p,RH o p↔RH xs p\/(r.At<=p/\p<r.At+r.a8):=by
 obtain⟨j,k,l⟩:=gc.1 h;have b:rangeIn pages r=true:=by grind [rangeIn]
 unfold dN;rw[CD ⟨h,b⟩];obtain⟨o,n,d,f,q⟩:=w7 pages xs r [] j i.2.1 (λy a=>by
   have:=k y a;unfold ovl;rw[z5];intro g;by_cases e:r.At<=y.At
   · exact c y.At e g.1 ⟨y,a,ω,ω⟩
   exact c r.At ω ω ⟨y,a,ω,g.2⟩) ψ ⟨List.Pairwise.nil,ψ⟩ ψ
 refine⟨o,n,gc.2 ⟨d,λy a=>⟨(f y a).1,d.2 y a,(f y a).2⟩,l⟩,λp=>?_⟩
 grind [RH]
structure Pg(t:aL)(fr:List aB)(sp:List aA)(la:List aC):Prop where
 one:∀l∈la,∀p:Nat,(p:Int)∈lpgs l l.a2.toNat->∀q:Nat,q<t.K.length->(nth t.K q).e≠0->(nth t.K q).j=(nth t.K p).j->q=p
 bnd:∀p∈pgs sp la,p<t.K.length
 own:∀p:Nat,p<t.K.length->((nth t.K p).e≠0↔(p:Int)∈pgs sp la)
 fre:∀p:Nat,p<t.K.length->((nth t.K p).e≠0↔¬RH fr p)
 mesh:∀s∈sp,∀u∈sp,s.Q≠u.Q->(nth t.K s.Q.toNat).j=(nth t.K u.Q.toNat).j->meshable s u=true
structure bc(h:ac)(E:List Int):Prop where
 ker:aF h.G=true
 rng:bF (fk h) h.o=true
 lay:bt h.J h.M=true
 srs:h.J.Pairwise λa b=>a.Q<b.Q
 srl:h.M.Pairwise λa b=>a.Q<b.Q
 pg:Pg (tbl h) h.o h.J h.M
 mail:bR h.w=true
 nc:h.S.length=h.w.U.length
 quar:gq h.a7=true
 snc:∀x∈h.a7.a6,x.b6<=h.b1
 cach:∀c∈h.S,b9 c=true
 nums:cn h=true
 osr:h.O.Pairwise λa b=>a.Addr<b.Addr
 onu:∀o∈h.O,1<=o.Id/\o.Id<=h.b - 1/\0<=o.a4/\o.a4<=h.S.length - 1
 oid:(h.O.map (·.Id)).Nodup
 oow:∀o∈h.O,Mw h.J h.M o
 hca:∀c∈h.S,∀k:Nat,k<c.a.length->∀a∈nth c.a k,jo h.J a k
 hqu:∀x∈h.a7.a6,jo h.J x.Addr x.d
 hfl:∀a∈aQ h.w,jo h.J a (-1)
 hin:∀a∈E,jo h.J a (-1)
 nd:(E++holders h).Nodup
 mem:∀a,a∈E++holders h↔mK h.J h.M a
 job:h.u=true->jR h.Y=true/\(∃s∈h.J,s.Q=h.Y.X.a3)/\∃s∈h.J,s.Q=h.Y.X.a1
 noj:h.u=false->sR h.Y=true
variable{E:List Int}
theorem bc.L(a:bc h E):oL h.J h.M:=oL.of a.lay
theorem zX(t:aL)(f:Int):(pagesOn t f).Nodup:=by grind [List.nodup_range,pagesOn,jP]
def QJ{l:List Int}(b:l.Nodup)(d:a∈l)(c:∀x∈l,x=a):l.length=1:=by
 match l with
 | []=>cases d
 | [_]=>rfl
 | x::y::r=>
  exfalso;have e:=c x (by simp);have f:=c y (by simp);rw[e,f]at b;simp at b
theorem d7(a:s∈sp):s.Q∈pgs sp la:=by grind [pgs]
theorem gi(a:l∈la)(b:p∈lpgs l l.a2.toNat):p∈pgs sp la:=by grind [pgs]
theorem TX(b:bt h.J h.M=true)(N:bF (fk h) h.o=true)(A:pages0 h=true)(r:pP h=true):Pg (tbl h) h.o h.J h.M:=by
 have B:=oL.of b;obtain⟨C,D,t⟩:=t8 A;have E:∀p:Nat,p<fk h->((nth (tbl h).K p).e≠0↔¬RH h.o p):=λp a=>by grind [eZ,GN,pages0,wi]
 refine⟨λl w p c q F e f=>?_,D,t,E,λs G u H J O=>?_⟩
 ·obtain⟨i,y,rfl⟩:=aO w
  obtain⟨k,g,n⟩:=dv.1 c;have a:p<fk h:=by grind [gi]
  have d:=(t p a).2 (gi w c);have K:=C i y k g;rw[<-n,f8 a d]at K;have P:(p:Int)∈pagesOn (tbl h) (nth (tbl h).K p).j:=eO.2 ⟨a,d,rfl⟩;have Q:(q:Int)∈pagesOn (tbl h) (nth (tbl h).K p).j:=eO.2 ⟨F,e,f⟩
  grind [List.length_eq_one_iff]
 obtain⟨i,y,rfl⟩:=aO G;obtain⟨j,R,rfl⟩:=aO H;have L:∀k,k<h.J.length->af (tbl h) (nth h.J k).Q=nth (tbl h).K (nth h.J k).Q.toNat:=λk g=>by
  have S:=aI (B.sok _ (ar g))
  grind [d7,Bc,nth]
 unfold pP at r;rw[cy]at r;rcases Nat.lt_trichotomy i j with o|M|o
 all_goals grind [eZ,gT,mA]
theorem Bv(sp:List aA):df sp.length (yQ sp)=true↔sp.Pairwise λa b=>a.Q<b.Q:=by
 rw[cy];refine Iff.trans ?_ (wq (λa b:Int=>a<b) ω (λs:aA=>s.Q) sp)
 grind [yQ]
theorem Bq(la:List aC):df la.length (xw la)=true↔la.Pairwise λa b=>a.Q<b.Q:=by
 rw[cy];refine Iff.trans ?_ (wq (λa b:Int=>a<b) ω (λs:aC=>s.Q) la)
 grind [xw]
theorem TR(o:bt h.J h.M=true)(C:bF (fk h) h.o=true)(h1:h.J.Pairwise λa b=>a.Q<b.Q)(A:h.M.Pairwise λa b=>a.Q<b.Q)(c:Pg (tbl h) h.o h.J h.M):pages0 h=true/\pP h=true:=by
 have u:=oL.of o;constructor
 ·unfold pages0
  simp only[I0];refine⟨⟨⟨(Bv _).2 h1,cy.2 λi l=>?_⟩,O4.2 λp n=>O0 (c.bnd p n)⟩,cy.2 λp n=>?_⟩
  ·unfold tc
   rw[I0];refine⟨eZ ((Bq _).2 A) l,cy.2 λk w=>?_⟩;have y:=ar l;have D:=aS (u.lok _ y);obtain⟨p,n⟩ : ∃p:Nat,(nth h.M i).Q+(k:Nat)=(p:Nat):=⟨((nth h.M i).Q+k).toNat,ω⟩
   have q:(p:Int)∈lpgs (nth h.M i) (nth h.M i).a2.toNat:=dv.2 ψ;have d:p<fk h:=by have:=c.bnd _ (gi (sp:=h.J) y q);exact Int.ofNat_lt.1 this
   have r:=(c.own p d).2 (gi y q);unfold xb;rw[C0,n,f8 d r];refine QJ (zX ..) (eO.2 ⟨d,r,rfl⟩) λx E=>?_
   grind [vu,eO,Pg.one]
  unfold wi;rw[I0,C0];refine⟨c.own p n,?_⟩;have F:=c.fre p n
  grind [GN]
 unfold pP;refine cy.2 λi l=>cy.2 λj G=>?_
 have g:j<h.J.length:=ω
 have t:∀k,k<h.J.length->af (tbl h) (nth h.J k).Q=nth (tbl h).K (nth h.J k).Q.toNat:=λk w=>by
  have H:=aI (u.sok _ (ar w));have J:=c.bnd _ (d7 (la:=h.M) (ar w))
  grind [Bc,fk,tbl]
 unfold mA;rw[t i l,t j g,C7,C0];by_cases e:(nth (tbl h).K (nth h.J i).Q.toNat).j=(nth (tbl h).K (nth h.J j).Q.toNat).j
 ·refine .inr (c.mesh _ (ar l) _ (ar g) (λB=>?_) e)
  have:=cS (f:=(·.Q)) u.nd l g B;omega
 exact .inl e
theorem G7(c:cn h=true)(d:oL h.J h.M):fY h=true↔(h.O.Pairwise λa b=>a.Addr<b.Addr)/\(∀o∈h.O,1<=o.Id/\o.Id<=h.b - 1/\0<=o.a4/\o.a4<=h.S.length - 1)/\(h.O.map (·.Id)).Nodup/\∀o∈h.O,Mw h.J h.M o:=by
 unfold cn at c;rw[C0]at c;refine Iff.trans ?_ (and_congr (wq (λa b:Int=>a<b) ω (λo:bo=>o.Addr) h.O) (and_congr Iff.rfl (and_congr (B2 (λo:bo=>o.Id) h.O) Iff.rfl)));unfold fY;rw[fC ω ω,cy];have e:∀i,i<h.O.length->(objAt (h.b - 1) h i=true↔(i=0\/(nth h.O (i - 1)).Addr<(nth h.O i).Addr)/\(1<=(nth h.O i).Id/\(nth h.O i).Id<=h.b - 1/\0<=(nth h.O i).a4/\(nth h.O i).a4<=h.S.length - 1)/\(∀o∈h.O.take i,o.Id≠(nth h.O i).Id)/\Mw h.J h.M (nth h.O i)):=λi f=>by grind [Px,objAt,gS,fg]
 grind [aO,ar]
def yW(b:oL h.J h.M):jH h=true↔(∀c∈h.S,∀k:Nat,k<c.a.length->∀a∈nth c.a k,jo h.J a k)/\(∀x∈h.a7.a6,jo h.J x.Addr x.d)/\∀a∈aQ h.w,jo h.J a (-1):=by
 rw[oV];simp only[O4,fh,cy,sF,ir,kN,M7 b,and_assoc]
theorem JY : 0<=gL h p↔∃s∈h.J,s.Q=p:=by grind [gL,cU,mt]
theorem bc.of(g:dU h=true):bc h []:=by
 unfold dU lO at g;simp only[I0]at g;obtain⟨⟨⟨⟨⟨⟨⟨⟨⟨⟨r,l⟩,e⟩,j⟩,n⟩,c⟩,t⟩,H⟩,o⟩,k,b⟩,d⟩:=g;have p:=oL.of e;rw[u6 e j]at n;have f:=j;unfold pages0 at f;simp only[I0]at f;unfold d6 at c;simp only[I0,C0]at c;unfold kg at b;simp only[I0,C0]at b;obtain⟨⟨u,w⟩,J⟩:=b;obtain⟨y,A,B,C⟩:=(G7 o p).1 k;obtain⟨D,E,F⟩:=(yW p).1 u;unfold lT at t;have G:=cy.1 f.1.1.2;refine⟨r,l,e,(Bv _).1 f.1.1.1,(Bq _).1 (cy.2 λi K=>?_),TX e l j n,c.1.1,c.1.2,c.2,ψ,ψ,o,y,A,B,C,D,E,F,ψ,(by simpa using w),λa=>?_,λq=>?_,λq=>?_⟩
 ·grind [tc]
 ·grind [GP,tg,rD]
 ·unfold tn at d
  rw[CD q]at d
  grind [JY]
 grind [tn]
theorem bc.to(b:bc h []):dU h=true:=by
 have c:=b.L;obtain⟨e,g⟩:=TR b.lay b.rng b.srs b.srl b.pg;have d:=(G7 b.nums c).2 ⟨b.osr,b.onu,b.oid,b.oow⟩;have f:=(yW c).2 ⟨b.hca,b.hqu,b.hfl⟩;unfold dU lO;simp only[I0];refine⟨⟨⟨⟨⟨⟨⟨⟨⟨⟨b.ker,b.rng⟩,b.lay⟩,e⟩,by grind [u6,bc.lay]⟩,?_⟩,?_⟩,O4.2 b.cach⟩,b.nums⟩,d,?_⟩,?_⟩
 ·grind [bc.mail,bc.quar,bc.nc,d6]
 ·grind [bc.snc,lT]
 ·unfold kg
  have i:(holders h).Nodup:=by simpa using b.nd
  have j:∀a,a∈holders h↔a∈kF h.J h.M:=λa=>by rw[GP c,<-b.mem a];simp
  grind [vN,List.Perm.length_eq]
 grind [bc.job,JY,bc.noj,tn]
def dele(xs:List α)(i:Nat):List α:=xs.take i++xs.drop (i+1)
theorem eY(xs:List α)(i:Nat):(dele xs i).Sublist xs:=by
 unfold dele;rw[<-List.eraseIdx_eq_take_drop_succ];grind
theorem AN[Inhabited α]{xs:List α}(a:i<xs.length):xs.Perm (nth xs i::dele xs i):=by
 have:xs=xs.take i++nth xs i::xs.drop (i+1):=by grind [jl,List.take_append_drop]
 conv=>lhs;rw[this]
 exact List.perm_middle
theorem iT{α:Type}[Inhabited α](f:α->List Int)(a:Int):∀(xs:List α)(i:Nat)(y:α),i<xs.length->((xs.set i y).flatMap f).count a+(f (nth xs i)).count a=(xs.flatMap f).count a+(f y).count a
 | [],i,_,h=>by cases h
 | x::xs,0,y,_=>by
  show((y::xs).flatMap f).count a+(f x).count a=((x::xs).flatMap f).count a+(f y).count a
  grind
 | x::xs,i+1,y,h=>by
  have:=iT f a xs i y (by simpa using h);show((x::xs.set i y).flatMap f).count a+(f (nth xs i)).count a=((x::xs).flatMap f).count a+(f y).count a
  grind
theorem lF(a:List (List Int)):a.flatten=a.flatMap λx=>x:=by simp_all
theorem jo.any(h:jo sp a c):jo sp a (-1):=by
 obtain⟨s,b,d,-⟩:=h;exact⟨s,b,d,.inl (by decide)⟩
def bc.cells(a:bc h E)(c:aF k=true)(b:k.F.R=h.G.F.R):bc {h with G:=k} E:=
 {a with
   ker:=c
   rng:=by show bF ((k.F.R.K.length:Nat):Int) h.o=true;rw[b];exact a.rng
   pg:=by show Pg k.F.R h.o h.J h.M;rw[b];exact a.pg}
theorem bc.dropO(b:bc h E)(e:i<h.O.length)(j:jo h.J (nth h.O i).Addr (-1)):bc {h with O:=dele h.O i} ((nth h.O i).Addr::E):=by
 have f:(E++holders h).Perm (((nth h.O i).Addr::E)++holders {h with O:=dele h.O i}):=by
  have g:=(AN e).map (·.Addr);refine List.perm_iff_count.2 λa=>?_
  have k:=g.count_eq a
  grind [holders,cH]
 have c:(dele h.O i).Sublist h.O:=eY ..;exact {b with
   osr:=b.osr.sublist c
   onu:=λo d=>b.onu o (c.subset d)
   oid:=b.oid.sublist (c.map _)
   oow:=λo d=>b.oow o (c.subset d)
   hin:=λa l=>by grind [bc.hin]
   nd:=f.nodup_iff.1 b.nd
   mem:=λa=>by grind [bc.mem]}
def pL(c:aE)(k:Nat)(a:Int):aE:=⟨c.a.set k (nth c.a k++[a])⟩
theorem bc.put{t k:Nat}(e:bc h (a::E))(f:t<h.S.length)(g:k<(nth h.S t).a.length)(p:jo h.J a k)(q:b9 (pL (nth h.S t) k a)=true):bc {h with S:=h.S.set t (pL (nth h.S t) k a)} E:=by
 have i:(a::E++holders h).Perm (E++holders {h with S:=h.S.set t (pL (nth h.S t) k a)}):=by
  refine List.perm_iff_count.2 λb=>?_
  have r:=iT (λc:aE=>c.a.flatten) b h.S t (pL (nth h.S t) k a) f;have l:=iT (λx:List Int=>x) b (nth h.S t).a k (nth (nth h.S t).a k++[a]) g;rw[<-lF,<-lF]at l
  grind [pL,holders,cH]
 exact {e with
   nc:=by grind [bc.nc]
   cach:=λc d=>by grind [bc.cach]
   onu:=by show ∀o∈h.O,1<=o.Id/\o.Id<=h.b - 1/\0<=o.a4/\o.a4<=(h.S.set t _).length - 1;rw[Z1];exact e.onu
   hca:=λc d j u b n=>by
     rcases O7 d with d|rfl
     all_goals grind [bc.hca,bH,ar,pL]
   hin:=λb n=>e.hin b ψ
   nd:=i.nodup_iff.1 e.nd
   mem:=λb=>by grind [bc.mem]}
theorem bc.toQuar{x:aR}{q:bQ}{out:List aR}(c:bc h (x.Addr::E))(f:gq q=true)(d:h.a7.a6++[x]=out++q.a6)(j:x.b6<=h.b1)(k:jo h.J x.Addr x.d):bc {h with a7:=q} (out.map (·.Addr)++E):=by
 have e:∀y∈out++q.a6,y.b6<=h.b1/\jo h.J y.Addr y.d:=λy a=>by
  rw[<-d]at a;rcases V3.1 a with a|a
  ·exact⟨c.snc y a,c.hqu y a⟩
  grind
 have g:(x.Addr::E++holders h).Perm ((out.map (·.Addr)++E)++holders {h with a7:=q}):=by
  refine List.perm_iff_count.2 λb=>?_
  have i:=Z0 (λl:List aR=>(l.map (·.Addr)).count b) d;simp only[V6,Y6,X6,List.map_nil,List.count_singleton]at i
  grind [holders,cH]
 exact {c with
   quar:=f
   snc:=(ψ)
   hqu:=(ψ)
   hin:=λb n=>by grind [jo.any,bc.hin]
   nd:=g.nodup_iff.1 c.nd
   mem:=λb=>by grind [bc.mem]}
def Am(b i:Int):Int:=((BitVec.ofInt IntKind.i64.bits b &&& ~~~BitVec.ofInt IntKind.i64.bits (2 ^ i.toNat)).toNat:Nat)
def mM(s:aA)(i:Int):aA:={s with a9:=Am s.a9 i}
theorem eN(b i:Int):aZ b i=true↔0<=b/\0<=i/\i<=15/\b.toNat.testBit i.toNat=true:=by grind [aZ]
variable{b:Int}
theorem E9{i:Int}(d:0<=b/\b<=65535)(a:0<=i/\i<=15)(j:Nat):(Am b i).toNat.testBit j=(b.toNat.testBit j&&decide (i.toNat≠j)):=by
 have e:(2:Int) ^ i.toNat<=32768/\0<=(2:Int) ^ i.toNat:=by
  obtain⟨n,rfl⟩:=O3 a.1;rw[I3];have:(2:Nat) ^ n<=2 ^ 15:=Nat.pow_le_pow_right (by decide) ω
  grind
 unfold Am;rw[I3,BitVec.testBit_toNat,BitVec.getLsbD_and,BitVec.getLsbD_not,<-BitVec.testBit_toNat,<-BitVec.testBit_toNat,qr ω,qr ω];rw[show((2:Int) ^ i.toNat).toNat=2 ^ i.toNat by rw[show(2:Int) ^ i.toNat=((2 ^ i.toNat:Nat):Int) by norm_cast,I3],Nat.testBit_two_pow];by_cases c:j<64
 ·rw[show decide (j<IntKind.i64.bits)=true from O0 c,Bool.true_and]
  grind
 rw[Nat.testBit_lt_two_pow (x:=b.toNat) (i:=j) (C4 (show b.toNat<2 ^ 16 by omega) (Nat.pow_le_pow_right (by decide) ω))]
 rfl
theorem Ek{i:Int}(a:0<=b/\b<=65535):0<=Am b i/\Am b i<=b:=by grind [qr,Nat.and_le_left,Am]
theorem Fn{i:Int}(a:0<=b/\b<=65535)(c:0<=i/\i<=15)(j:Int):aZ (Am b i) j=true↔aZ b j=true/\j≠i:=by grind [eN,E9,Ek]
theorem dO(h:bi s=true):0<=s.a9/\s.a9<=65535:=by
 unfold bi at h;simp only[C0]at h;have:=Jm s.d;omega
theorem Kx(h:bi s=true)(i:Int):bi (mM s i)=true:=by
 have b:=dO h;have a:=Ek (i:=i) b;unfold bi at h;rw[C0]at h;obtain⟨c,d,e,f,j,g⟩:=h;exact O0 ⟨c,d,e,f,a.1,O5 a.2 g⟩
theorem B5{u:aA}(e:bi s=true){i:Int}(f:0<=i/\i<=15)(h:meshable s u=true):meshable (mM s i) u=true:=by
 unfold meshable at h |-;simp only[I0,C0]at h |-;obtain⟨⟨a,b⟩,c,d,g⟩:=h;refine⟨⟨Kx a i,b⟩,c,d,?_⟩;refine Nat.eq_of_testBit_eq λj=>?_
 grind [E9,dO,mM]
def d4(s:aA)(a:Int):Int:=(a - 16*s.Q) / csz s.d
theorem pV(h:bi s=true)(b:16*s.Q<=a/\a<=16*s.Q+15):0<=d4 s a/\d4 s a<=15:=by
 have c:=aI h
 grind [ce,d4]
theorem y7(h:bi s=true)(c:(a - 16*s.Q) % csz s.d=0)(d:(b - 16*s.Q) % csz s.d=0)(e:d4 s a=d4 s b):a=b:=by
 have f:=aI h
 grind [ce,d4]
theorem Bx(h:bi s=true)(k:eK s a)(b:Int):eK (mM s (d4 s a)) b↔eK s b/\b≠a:=by
 obtain⟨l,n,o,p⟩:=k;have c:=pV h ⟨l,n⟩;unfold eK;simp only[mM];rw[Fn (dO h) c];constructor
 ·rintro⟨g,i,d,j,f⟩
  exact⟨ψ,λe=>f (by rw[e];rfl)⟩
 rintro⟨⟨g,i,d,j⟩,f⟩
 exact⟨g,i,d,j,λe=>f (y7 h d o e)⟩
theorem ef[Inhabited α]{xs:List α}{y z:α}(h:z∈xs.set i y):z=y\/∃j,j<xs.length/\j≠i/\nth xs j=z:=by
 obtain⟨j,a,rfl⟩:=List.mem_iff_getElem.1 h;rw[List.getElem_set];by_cases e:i=j
 ·subst e;simp
 rw[CB e];rw[Z1]at a;exact .inr ⟨j,a,λx=>e x.symm,bk ψ⟩
theorem jO[Inhabited α]{xs:List α}(y:α)(a:j<xs.length)(e:j≠i):nth xs j∈xs.set i y:=by
 have:nth (xs.set i y) j=nth xs j:=by grind [bH]
 grind [ar]
theorem iP{xs:List α}(y:α)(a:i<xs.length):y∈xs.set i y:=by grind [List.mem_iff_getElem]
def NQ(k:Int)(a:i<sp.length):(sp.set i (mM (nth sp i) k)).map (·.Q)=sp.map (·.Q):=by
 rw[Z6];refine List.ext_getElem (by simp) λj b c=>?_
 rw[List.getElem_set];split
 ·rename_i e;subst e
  rw[List.getElem_map];show(nth sp i).Q=_;rw[bk (X2 a)]
 rfl
def jo.set(q:oL sp la)(k:i<sp.length)(l:eK (nth sp i) a)(b c:Int):jo (sp.set i (mM (nth sp i) (d4 (nth sp i) a))) b c↔jo sp b c/\b≠a:=by
 have g:=q.sok _ (ar k);constructor
 ·rintro⟨s,o,d,h⟩
  rcases ef o with rfl|⟨j,n,r,rfl⟩
  ·have:=(Bx g l b).1 d
   exact⟨⟨_,ar k,this.1,h⟩,this.2⟩
  refine⟨⟨_,ar n,d,h⟩,λe=>?_⟩;subst e;have:=cS (f:=(·.Q)) q.nd k n (by have t:=l.1;have u:=l.2.1;have w:=d.1;have y:=d.2.1;omega);omega
 rintro⟨⟨s,o,d,h⟩,p⟩
 obtain⟨j,n,rfl⟩:=aO o;by_cases e:j=i
 ·subst e
  exact⟨_,iP _ k,(Bx g l b).2 ⟨d,p⟩,h⟩
 exact⟨_,jO _ n e,d,h⟩
theorem bc.give(d:bc h (a::E))(t:i<h.J.length)(w:eK (nth h.J i) a):bc {h with J:=h.J.set i (mM (nth h.J i) (d4 (nth h.J i) a))} E:=by
 have B:=d.L;have G:=B.sok _ (ar t);have O:=pV G ⟨w.1,w.2.1⟩;have f:=λb c=>jo.set B t w b c
 have H:=NQ (d4 (nth h.J i) a) t;generalize J:h.J.set i (mM (nth h.J i) (d4 (nth h.J i) a))=sp at f H;have p:pgs sp h.M=pgs h.J h.M:=by grind [pgs]
 have g:=d.nd;rw[List.cons_append]at g;obtain⟨P,g⟩:=List.nodup_cons.1 g;have y:∀b,b∈E++holders h->b≠a:=ψ
 have n:∀b,b∈holders h->b≠a:=ψ
 have Q:∀l∈h.M,16*l.Q≠a:=λl R e=>(yU B R).1 _ (ar t) (by have a1:=w.1;have a2:=w.2.1;omega)
 have q:∀s∈sp,∃u∈h.J,u.Q=s.Q/\(s=u\/s=mM u (d4 (nth h.J i) a)):=λs r=>by
  rw[<-J]at r;rcases ef r with rfl|⟨j,hj,S,rfl⟩
  ·exact⟨_,ar t,rfl,.inr rfl⟩
  grind [ar]
 have T:∀u∈h.J,∃s∈sp,s.Q=u.Q:=λu C=>by
  have:u.Q∈sp.map (·.Q):=ψ
  grind
 exact {d with
   lay:=by grind [bc.lay,Kx,bt]
   srs:=by
     have A:(h.J.map (·.Q)).Pairwise (λa b=>a<b):=List.pairwise_map.2 d.srs
     grind
   pg:=⟨d.pg.one,by rw[p];exact d.pg.bnd,by rw[p];exact d.pg.own,d.pg.fre,λs r u C y U=>by
     obtain⟨V,K,W,X⟩:=q s r;obtain⟨Y,M,Z,hu2⟩:=q u C;have A:=d.pg.mesh V K Y M ω (by rw[W,Z];exact U)
     grind [B5,oL.sok,gT]⟩
   oow:=λo ho=>by
     have N:o.Addr≠a:=n _ (by grind [holders]);rcases d.oow o ho with⟨s,r,A,h2⟩|A
     · obtain⟨u,C,g1,D⟩:=(f o.Addr (aK o.q)).2 ⟨⟨s,r,A,.inr h2⟩,N⟩
       refine .inl ⟨u,C,g1,?_⟩;rcases D with D|D
       · have:=aI (B.sok _ r);omega
       exact D
     exact .inr A
   hca:=λc hc k hk b F=>(f b k).2 ⟨d.hca c hc k hk b F,n b (by
     unfold holders cH;grind [List.mem_flatten,ar])⟩
   hqu:=λx hx=>(f _ _).2 ⟨d.hqu x hx,n _ (by grind [holders])⟩
   hfl:=λb F=>(f _ _).2 ⟨d.hfl b F,n _ (by grind [holders])⟩
   hin:=λb F=>(f _ _).2 ⟨d.hin b ψ,y b ψ⟩
   nd:=g
   mem:=λb=>by
     show b∈E++holders h↔mK sp h.M b
     grind [bc.mem,mK]
   job:=λhm=>by grind [bc.job]}
def unmN(k:ah)(p:Int):Nat->ah
 | 0=>k
 | n+1=>cN (unmN k p n) (p+n)
def gV{k:ah}(h:aF k=true)(p:Int):∀n,aF (unmN k p n)=true
 | 0=>h
 | n+1=>x5 _ (gV h p n)
theorem eP(k:ah)(p:Int):∀n,(unmN k p n).F.R.K.length=k.F.R.K.length/\(unmN k p n).Calls=k.Calls/\(unmN k p n).a0=k.a0
 | 0=>⟨rfl,rfl,rfl⟩
 | n+1=>by
  obtain⟨a,b,c⟩:=eP k p n;obtain⟨d,e,f⟩:=lA (unmN k p n) (p+n);exact⟨d.trans a,e.trans b,f.trans c⟩
theorem rQ(h:aF k=true)(g:0<=p/\p<k.F.R.K.length)(q:Nat):nth (cN k p).F.R.K q=if(q:Int)=p then⟨0,0⟩ else nth k.F.R.K q:=by
 have c:af k.F.R p=nth k.F.R.K p.toNat:=by grind [af]
 unfold cN;split
 ·rename_i a
  split
  ·rename_i i
   rw[c]at a;have b:=(br.1 (aG.1 h).2.2.1).1 p.toNat ω;unfold kH at b;rw[C0]at b;have d:=b.2.2.1 a;rw[show q=p.toNat by omega];generalize nth k.F.R.K p.toNat=e at a d;obtain⟨m,f⟩:=e
   grind
  rfl
 grind [mP,bH,lh]
theorem mI{k:ah}(h:aF k=true){p:Int}(a:0<=p):∀n:Nat,p+n<=k.F.R.K.length->∀q:Nat,nth (unmN k p n).F.R.K q=if p<=q/\(q:Int)<p+n then⟨0,0⟩ else nth k.F.R.K q
 | 0,_,q=>by rw[CB ω];rfl
 | n+1,b,q=>by
  have c:=mI h a n ω q;have d:=rQ (gV h p n) (p:=p+n) ⟨ω,by grind [eP]⟩ q;show nth (cN (unmN k p n) (p+n)).F.R.K q=_
  grind
theorem EX(f:α->List β){xs b:List α}(h:xs.Sublist b):(xs.flatMap f).Sublist (b.flatMap f):=by
 induction h with
 | slnil=>grind
 | cons a _ c=>grind
 | cons_cons a _ c=>grind
theorem xl(c:bc h E)(Y:1<=n)(w:sp.Sublist h.J)(D:la.Sublist h.M)(j:∀q:Int,p<=q->q<p+n->q∈pgs h.J h.M)(K:0<=p)(F:∀q,q∈pgs sp la↔q∈pgs h.J h.M/\¬(p<=q/\q<p+n)) :
  ∃o,dN (fk h) h.o ⟨p,n⟩ = some o/\aF (unmN h.G p n)=true/\bF ((unmN h.G p n).F.R.K.length:Nat) o=true/\bt sp la=true/\Pg (unmN h.G p n).F.R o sp la:=by
 have t:=c.pg.bnd _ (j (p+n - 1) ω ω);have a:=(eP h.G p n).1;have y:p+n<=h.G.F.R.K.length:=by unfold tbl at t;omega
 have g:=mI c.ker K n y;obtain⟨o,Q,R,S⟩:=vr (r:=⟨p,n⟩) c.rng ⟨K,by simp only;omega,y⟩ λq M N=>by
  simp only at M N;obtain⟨m,rfl⟩:=O3 (show 0<=q by omega);have A:m<(tbl h).K.length:=by unfold tbl;omega
  exact(c.pg.fre m A).1 ((c.pg.own m A).2 (j _ M N))
 refine⟨o,Q,gV c.ker p n,by rw[a];exact R,?_,?_⟩
 ·obtain⟨T,U,V⟩:=ew c.lay
  unfold bt;simp only[I0,C0];exact⟨⟨O4.2 λs d=>O4.1 T s (w.subset d),O4.2 λl d=>O4.1 U l (D.subset d)⟩,V.sublist ((w.map _).append (EX _ D))⟩
 have i:∀q:Nat,(q:Int)∈pgs sp la->nth (unmN h.G p n).F.R.K q=nth (tbl h).K q:=λq f=>by rw[g,CB ((F q).1 f).2];rfl
 have b:∀q:Nat,(nth (unmN h.G p n).F.R.K q).e≠0↔(nth (tbl h).K q).e≠0/\¬(p<=q/\(q:Int)<p+n):=λq=>by
  rw[g];by_cases e:p<=q/\(q:Int)<p+n
  ·rw[CD e];exact⟨λx=>absurd rfl x,λx=>absurd e x.2⟩
  rw[CB e];exact⟨λx=>⟨x,e⟩,λx=>x.1⟩
 refine⟨λl d q f r O G B=>?_,λq f=>?_,λq f=>?_,λq f=>?_,λs d u H J P=>?_⟩
 ·have C:=(b r).1 G
  rw[a]at O;rw[i q (gi d f),g,CB C.2]at B;exact c.pg.one l (D.subset d) q f r O C.1 B
 ·rw[a];exact c.pg.bnd q ((F q).1 f).1
 ·rw[a]at f
  rw[b,F,c.pg.own q f]
 ·rw[a]at f
  rw[b,S,c.pg.fre q f];simp only
  grind
 have k:∀s∈sp,0<=s.Q:=λs d=>(aI (c.L.sok s (w.subset d))).1
 have W:=i s.Q.toNat (by rw[Int.toNat_of_nonneg (k s d)];exact d7 d);have X:=i u.Q.toNat (by rw[Int.toNat_of_nonneg (k u H)];exact d7 H);rw[W,X]at P;exact c.pg.mesh s (w.subset d) u (w.subset H) J P
theorem di[Inhabited α]{xs:List α}{k:Nat}{z:α} : z∈dele xs k↔∃j,j<xs.length/\j≠k/\nth xs j=z:=by
 unfold dele;rw[V3];constructor
 ·rintro(h|h)
  ·obtain⟨j,a,rfl⟩:=List.mem_take_iff_getElem.1 h
   exact⟨j,ω,ω,bk ψ⟩
  obtain⟨j,a,rfl⟩:=List.mem_drop_iff_getElem.1 h;exact⟨k+1+j,ω,ω,bk ψ⟩
 rintro⟨j,a,b,rfl⟩
 rw[bk (X2 a)];by_cases e:j<k
 ·grind [List.mem_take_iff_getElem]
 refine .inr (List.mem_drop_iff_getElem.2 ⟨j - (k+1),ω,?_⟩)
 congr 1;omega
theorem qd{q:Int} : q∈pgs sp la↔(∃s∈sp,s.Q=q)\/∃l∈la,q∈lpgs l l.a2.toNat:=by grind [pgs]
def ww(h:s.a9=0)(a:Int):¬eK s a:=by
 rintro⟨-,-,-,b⟩
 rw[eN,h]at b;simp at b
theorem bc.giveSpan(d:bc h E)(C:i<h.J.length)(r:(nth h.J i).a9=0)(R:h.u=true->(nth h.J i).Q≠h.Y.X.a3/\(nth h.J i).Q≠h.Y.X.a1) :
  ∃o,dN (fk h) h.o ⟨(nth h.J i).Q,1⟩ = some o/\bc {h with G:=cN h.G (nth h.J i).Q,J:=dele h.J i,o:=o} E:=by
 have D:=d.L;have y:=aI (D.sok _ (ar C));have w:∀q,q∈pgs (dele h.J i) h.M↔q∈pgs h.J h.M/\¬((nth h.J i).Q<=q/\q<(nth h.J i).Q+(1:Nat)):=λq=>by
  rw[qd,qd];constructor
  ·rintro(⟨s,u,rfl⟩|⟨l,S,T⟩)
   ·obtain⟨j,a,A,rfl⟩:=di.1 u
    refine⟨.inl ⟨_,ar a,rfl⟩,λe=>A (cS (f:=(·.Q)) D.nd a C ω)⟩
   grind [dv,oL.dis,ar]
  grind [aO,di]
 obtain⟨o,J,F,G,K,H⟩:=xl d (sp:=dele h.J i) (la:=h.M) (p:=(nth h.J i).Q) (n:=1) (W3 _) (eY ..) ψ (λq U V=>by grind [d7,nth]) y.1 w;have M:unmN h.G (nth h.J i).Q 1=cN h.G (nth h.J i).Q:=by show cN h.G ((nth h.J i).Q+((0:Nat):Int))=_;grind
 rw[M]at F G H;have g:∀b c,jo (dele h.J i) b c↔jo h.J b c:=λb c=>by
  constructor
  ·rintro⟨s,u,t⟩;exact⟨s,(eY ..).subset u,t⟩
  rintro⟨s,u,t,B⟩
  obtain⟨j,a,rfl⟩:=aO u;exact⟨_,di.2 ⟨j,a,λe=>ww r b ψ,rfl⟩,t,B⟩
 refine⟨o,J,{d with
   ker:=F
   rng:=G
   lay:=K
   srs:=d.srs.sublist (eY ..)
   pg:=H
   oow:=λN O=>?_
   hca:=λc y k P b r=>(g b k).2 (d.hca c y k P b r)
   hqu:=λx Q=>(g _ _).2 (d.hqu x Q)
   hfl:=λb r=>(g _ _).2 (d.hfl b r)
   hin:=λb r=>(g _ _).2 (d.hin b r)
   mem:=λb=>(d.mem b).trans ?_
   job:=λW=>?_}⟩
 ·rcases d.oow N O with⟨s,u,t,B⟩|t
  ·obtain⟨j,a,rfl⟩:=aO u
   exact .inl ⟨_,di.2 ⟨j,a,λe=>ww r _ (by rw[<-e];exact t),rfl⟩,t,B⟩
  exact .inr t
 all_goals grind [bc.job,aO,di,mK]
theorem bc.dropL{k:Nat}(d:bc h E)(N:i<h.O.length)(w:k<h.M.length)(F:(nth h.O i).Addr=16*(nth h.M k).Q) :
  ∃o,dN (fk h) h.o ⟨(nth h.M k).Q,(nth h.M k).a2⟩ = some o/\bc {h with G:=unmN h.G (nth h.M k).Q (nth h.M k).a2.toNat,M:=dele h.M k,o:=o,O:=dele h.O i} E:=by
 have y:=d.L;have O:=aS (y.lok _ (ar w));have A:∀q,q∈pgs h.J (dele h.M k)↔q∈pgs h.J h.M/\¬((nth h.M k).Q<=q/\q<(nth h.M k).Q+((nth h.M k).a2.toNat:Nat)):=λq=>by
  rw[qd,qd];constructor
  ·rintro(⟨s,C,rfl⟩|⟨l,f,H⟩)
   ·refine⟨.inl ⟨s,C,rfl⟩,λe=>y.dis s C _ (ar w) (s.Q - (nth h.M k).Q).toNat ω ω⟩
   obtain⟨j,c,g,rfl⟩:=di.1 f;refine⟨.inr ⟨_,ar c,H⟩,λe=>?_⟩;obtain⟨m,P,rfl⟩:=dv.1 H;exact g (y.one j k c w m ((nth h.M j).Q+(m:Int) - (nth h.M k).Q).toNat P ω ω)
  grind [aO,di,dv]
 obtain⟨o,J,Q,R,S,T⟩:=xl d (sp:=h.J) (la:=dele h.M k) (p:=(nth h.M k).Q) (n:=(nth h.M k).a2.toNat) ω ψ (eY ..) (λq Z q2=>gi (ar w) (dv.2 ⟨(q - (nth h.M k).Q).toNat,ω,ω⟩)) O.2.2.1 A;rw[Int.toNat_of_nonneg ω]at J;have U:(E++holders h).Perm ((nth h.O i).Addr::(E++holders {h with O:=dele h.O i})):=by
  have V:=(AN N).map (·.Addr);refine List.perm_iff_count.2 λa=>?_
  have r:=V.count_eq a
  grind [holders,cH]
 have t:=U.nodup_iff.1 d.nd;obtain⟨W,t⟩:=List.nodup_cons.1 t;have u:∀b,(b=(nth h.O i).Addr\/b∈E++holders {h with O:=dele h.O i})↔mK h.J h.M b:=λb=>by grind [bc.mem]
 have B:∀b,b∈E++holders {h with O:=dele h.O i}->b≠(nth h.O i).Addr:=ψ
 refine⟨o,J,{d with
   ker:=Q
   rng:=R
   lay:=S
   srl:=d.srl.sublist (eY ..)
   pg:=T
   osr:=d.osr.sublist (eY ..)
   onu:=λD G=>d.onu D ((eY ..).subset G)
   oid:=d.oid.sublist ((eY ..).map _)
   oow:=λD G=>?_
   nd:=t
   mem:=λb=>?_}⟩
 ·rcases d.oow D ((eY ..).subset G) with r|⟨l,f,K,X⟩
  ·exact .inl r
  obtain⟨j,c,rfl⟩:=aO f;refine .inr ⟨_,di.2 ⟨j,c,λe=>?_,rfl⟩,K,X⟩;subst e;refine B D.Addr (V3.2 (.inr ?_)) (by rw[F];exact K);unfold holders;grind
 constructor
 ·intro M
  rcases(u b).1 (.inr M) with r|⟨l,f,rfl⟩
  ·exact .inl r
  obtain⟨j,c,rfl⟩:=aO f;exact .inr ⟨_,di.2 ⟨j,c,λe=>B _ M (by rw[F,e]),rfl⟩,rfl⟩
 rintro(r|⟨l,f,rfl⟩)
 ·refine((u b).2 (.inl r)).resolve_left λe=>?_
  obtain⟨s,C,⟨Y,g2,-⟩,-⟩:=r;exact(yU y (ar w)).1 s C ω
 obtain⟨j,c,g,rfl⟩:=di.1 f;refine((u _).2 (.inr ⟨_,ar c,rfl⟩)).resolve_left λe=>g ?_
 have Y:=aS (y.lok _ (ar c));rw[F]at e;exact y.one j k c w 0 0 ω ω ω
def fD(h:ac)(p:Int):Bool:=h.u&&(decide (p=h.Y.X.a3) || decide (p=h.Y.X.a1))
def giveP(h:ac)(i:Nat):ac:={h with G:=cN h.G (nth h.J i).Q,J:=dele h.J i,o:=(dN (fk h) h.o ⟨(nth h.J i).Q,1⟩).getD h.o}
def clrS(h:ac)(i:Nat)(a:Int):ac:={h with J:=h.J.set i (mM (nth h.J i) (d4 (nth h.J i) a))}
def freeS(h:ac)(i:Nat)(a:Int):ac:=if(mM (nth h.J i) (d4 (nth h.J i) a)).a9=0/\fD h (nth h.J i).Q=false then giveP (clrS h i a) i else clrS h i a
def wn(h:ac)(a:Int):Nat:=(gL h (a / 16)).toNat
def freeA(h:ac)(a:Int):ac:=freeS h (wn h a) a
def cput(c:aE)(k a:Int):Option aE:=if b9 c=true/\0<=k/\k<=3/\b9 (pL c k.toNat a)=true then some (pL c k.toNat a) else none
def recyc(t:Nat)(h:ac)(a:Int):ac:=match cput (nth h.S t) (nth h.J (wn h a)).d a with
 | some c=>{h with S:=h.S.set t c}
 | none=>freeA h a
theorem bc.at(e:bc h E)(c:jo h.J a (-1)):wn h a<h.J.length/\eK (nth h.J (wn h a)) a/\gL h (a / 16)=(wn h a:Nat):=by
 obtain⟨s,d,b,-⟩:=c;obtain⟨i,f,rfl⟩:=aO d;have g:(nth h.J i).Q=a / 16:=by have j:=b.1;have k:=b.2.1;omega
 grind [uT,bc.L,wn]
theorem xg(e:fD h p=false)(a:h.u=true):p≠h.Y.X.a3/\p≠h.Y.X.a1:=by grind [fD]
def bc.freeS{h:ac}{E:List Int}{a:Int}{i:Nat}(f:bc h (a::E))(b:i<h.J.length)(g:eK (nth h.J i) a):bc (freeS h i a) E:=by
 have c:=f.give b g;unfold Ab.freeS;split
 ·rename_i e
  have d:nth (clrS h i a).J i=mM (nth h.J i) (d4 (nth h.J i) a):=by unfold clrS;simp only[bH,true_and];rw[CD b]
  obtain⟨o,j,k⟩:=bc.giveSpan (h:=clrS h i a) c (i:=i) (by unfold clrS;simp only[Z1];exact b) (by rw[d];exact e.1) (λl=>by rw[d];exact xg e.2 l);unfold giveP;rw[j];exact k
 exact c
theorem bc.freeA{h:ac}{E:List Int}{a:Int}(b:bc h (a::E)):bc (freeA h a) E:=by
 obtain⟨c,d,-⟩:=b.at (b.hin a ψ);exact b.freeS c d
theorem mb{c:aE}(h:b9 c=true):c.a.length=4:=by grind [b9]
theorem bc.recyc{h:ac}{E:List Int}{a:Int}{t:Nat}(b:bc h (a::E))(f:t<h.S.length):bc (recyc t h a) E:=by
 obtain⟨g,i,-⟩:=b.at (b.hin a ψ);unfold Ab.recyc;split
 ·rename_i c d
  unfold cput at d;split at d
  ·rename_i e
   cases d;obtain⟨j,l,n,k⟩:=e;exact b.put f (by rw[mb j];omega) ⟨_,ar g,i,.inr ω⟩ k
  cases d
 exact b.freeA
def xX(h:ac)(i:Nat)(a:Int):(freeS h i a).S=h.S/\(freeS h i a).O=h.O/\(freeS h i a).G.Calls=h.G.Calls/\(freeS h i a).w=h.w/\(freeS h i a).Y=h.Y/\(freeS h i a).b1=h.b1/\(freeS h i a).a7=h.a7/\(freeS h i a).G.a0=h.G.a0:=by
 unfold freeS;split
 ·obtain⟨-,b,c⟩:=lA (clrS h i a).G (nth (clrS h i a).J i).Q
  exact⟨rfl,rfl,b,rfl,rfl,rfl,rfl,c⟩
 exact⟨rfl,rfl,rfl,rfl,rfl,rfl,rfl,rfl⟩
theorem nG(t:Nat)(h:ac)(a:Int):(recyc t h a).S.length=h.S.length/\(recyc t h a).O=h.O/\(recyc t h a).G.Calls=h.G.Calls/\(recyc t h a).w=h.w/\(recyc t h a).Y=h.Y/\(recyc t h a).b1=h.b1/\(recyc t h a).a7=h.a7/\(recyc t h a).G.a0=h.G.a0:=by
 unfold recyc;split
 ·grind
 obtain⟨b,c⟩:=xX h (wn h a) a;exact⟨Z0 _ b,c⟩
def recycs(t:Nat)(h:ac)(az:List Int):ac:=az.foldl (recyc t) h
theorem fw(t:Nat):∀(az:List Int)(h:ac),(recycs t h az).S.length=h.S.length/\(recycs t h az).O=h.O/\(recycs t h az).G.Calls=h.G.Calls/\(recycs t h az).w=h.w/\(recycs t h az).Y=h.Y/\(recycs t h az).b1=h.b1/\(recycs t h az).a7=h.a7/\(recycs t h az).G.a0=h.G.a0
 | [],h=>⟨rfl,rfl,rfl,rfl,rfl,rfl,rfl,rfl⟩
 | a::az,h=>by
  obtain⟨b,c,d,e,f,g,i,j⟩:=fw t az (recyc t h a);obtain⟨k,l,n,o,p,q,r,u⟩:=nG t h a;exact⟨b.trans k,c.trans l,d.trans n,e.trans o,f.trans p,g.trans q,i.trans r,j.trans u⟩
theorem bc.recycs{t:Nat}{E:List Int} : ∀{az:List Int}{h:ac},bc h (az++E)->t<h.S.length->bc (recycs t h az) E
 | [],h,b,_=>b
 | a::az,h,b,c=>bc.recycs (az:=az) (h:=Ab.recyc t h a) (b.recyc c) (by grind [nG])
def qc(l:List aR):Int:=quarCells l l.length
def oQ(room:Int):List aR->Nat
 | []=>0
 | x::xs=>if room<qc (x::xs) then oQ room xs+1 else 0
def LE(q:bQ)(x:aR):bQ:=⟨q.b7,(q.a6++[x]).drop (oQ q.b7 (q.a6++[x]))⟩
def zO(q:bQ)(x:aR):List aR:=(q.a6++[x]).take (oQ q.b7 (q.a6++[x]))
def Fw(room:Int):∀l,oQ room l<=l.length
 | []=>W3 _
 | x::xs=>by unfold oQ;split;(have:=Fw room xs;simp only[List.length_cons];omega);omega
theorem D9{room:Int}(a:0<=room):∀l:List aR,qc (l.drop (oQ room l))<=room
 | []=>a
 | x::xs=>by
  unfold oQ;split
  ·exact D9 a xs
  grind
theorem Bh{room:Int} : ∀{l:List aR}{k:Nat},k<oQ room l->room<qc (l.drop k)
 | [],k,h=>by cases h
 | x::xs,0,h=>by grind [oQ]
 | x::xs,k+1,h=>by
  unfold oQ at h;split at h
  ·exact Bh (l:=xs) ω
  omega
theorem kn{q:bQ} : gq q=true↔(∀x∈q.a6,0<=x.d/\x.d<=3/\0<=x.Addr/\0<=x.b6)/\(q.a6.Pairwise λa b=>a.b6<=b.b6)/\(q.a6.map (·.Addr)).Nodup/\0<=q.b7/\q.b7<=500/\qc q.a6<=q.b7:=by
 refine Iff.trans ?_ (and_congr Iff.rfl (and_congr (wq (λa b:Int=>a<=b) ω (λs:aR=>s.b6) q.a6) (and_congr (B2 (λs:aR=>s.Addr) q.a6) Iff.rfl)));unfold gq qc
 grind [cy,List.any_eq_false,aO,ar,kL,eQ]
theorem QE{q:bQ}{x:aR}(h:gq q=true)(e:0<=x.d/\x.d<=3/\0<=x.Addr/\0<=x.b6)(f:∀y∈q.a6,y.b6<=x.b6)(g:∀y∈q.a6,y.Addr≠x.Addr):gq (LE q x)=true:=by
 obtain⟨i,j,k,c,d,l⟩:=kn.1 h;have a:(LE q x).a6.Sublist (q.a6++[x]):=List.drop_sublist ..;refine kn.2 ⟨λy b=>?_,List.Pairwise.sublist a ?_,List.Nodup.sublist (a.map _) ?_,c,d,D9 c _⟩
 ·rcases V3.1 (a.subset b) with b|b
  all_goals grind
 ·grind
 grind
def lK(r:List Int)(o:Nat):Nat->List Int
 | 0=>r
 | n+1=>(lK r o n).set (o+n) 0
def cW(k:ah)(a:Int):Nat:=(af k.F.R (a / 16)).j.toNat
def fo(k:ah)(a:Int)(n:Nat):ah:={k with F:=⟨⟨k.F.W.T.set (cW k a) (lK (nth k.F.W.T (cW k a)) (a % 16).toNat n),k.F.W.a5⟩,k.F.R⟩}
theorem mL(r:List Int)(o:Nat):∀n,(lK r o n).length=r.length
 | 0=>rfl
 | n+1=>by unfold lK;rw[Z1,mL r o n]
def AZ{r:List Int}{o:Nat} : ∀{n:Nat}{v:Int},v∈lK r o n->v∈r\/v=0
 | 0,v,h=>.inl h
 | n+1,v,h=>by
  rcases O7 h with h|h
  ·exact AZ h
  exact .inr h
theorem ER(h:aF k=true)(a:Int)(n:Nat):aF (fo k a n)=true:=by
 obtain⟨g,i,l,o,p⟩:=aG.1 h;obtain⟨q,r,t,c⟩:=bf.1 i;refine aG.2 ⟨g,bf.2 ⟨?_,?_,?_,λj b=>?_⟩,l,o,p⟩
 ·grind [fo]
 ·grind [fo]
 ·grind [fo]
 simp only[fo,Z1]at b |-;simp only[bH];split
 ·rename_i e
  have d:=c j b;unfold gX at d |-;simp only[I0,C0,O4]at d |-;rw[e.1]at *;refine⟨by grind [mL],λv f=>?_⟩;rcases AZ f with f|rfl
  all_goals grind [iJ]
 exact c j b
def zC(h:ac)(a:Int):Nat:=(h.M.findIdx? λl=>decide (l.Q*16=a)).getD 0
def freeL(h:ac)(i k:Nat):ac:={h with G:=unmN h.G (nth h.M k).Q (nth h.M k).a2.toNat,M:=dele h.M k,o:=(dN (fk h) h.o ⟨(nth h.M k).Q,(nth h.M k).a2⟩).getD h.o,O:=dele h.O i}
def lr(h:ac)(o:bo):aR:=⟨o.Addr,aK o.q,h.b1⟩
def inQuar(h:ac)(i:Nat):ac:={h with G:=fo h.G (nth h.O i).Addr (csz (aK (nth h.O i).q)).toNat,O:=dele h.O i,a7:=LE h.a7 (lr h (nth h.O i))}
def FU(h:ac)(t i:Nat):ac:=recycs t (inQuar h i) ((zO h.a7 (lr h (nth h.O i))).map (·.Addr))
def freeOb(h:ac)(t i:Nat):ac × Int:=
 if aK (nth h.O i).q<0 then(freeL h i (zC h (nth h.O i).Addr),0)
 else if(af (tbl h) ((nth h.O i).Addr / 16)).e=1 then(h,5)
 else(FU h t i,0)
theorem wx(n:l∈h.M)(e:a=16*l.Q):zC h a<h.M.length/\a=16*(nth h.M (zC h a)).Q/\(∀j,j<zC h a->(nth h.M j).Q*16≠a)/\h.M.findIdx? (λl=>decide (l.Q*16=a))=some (zC h a):=by
 cases c:h.M.findIdx? λl=>decide (l.Q*16=a) with
 | none=>
  grind
 | some k=>
  obtain⟨b,d,f⟩:=Y7.1 c;have g:zC h a=k:=by grind [zC]
  rw[g];rw[<-bk (X2 b),C0]at d;refine⟨b,ω,λj i=>?_,rfl⟩;have:=f j i;rw[<-bk (X2 (show j<h.M.length by omega))]at this;simpa using this
theorem dS(a:bc h E)(f:o∈h.O):(aK o.q<0->U8 h.M o.Addr o.q)/\(¬aK o.q<0->(∃s∈h.J,eK s o.Addr/\s.d=aK o.q)/\aK o.q<=3):=by
 rcases a.oow o f with⟨s,g,b,c⟩|⟨l,d,b,c⟩
 ·have i:=aI (a.L.sok s g)
  grind
 have j:=cF (a.L.lok l d);refine⟨λ_=>⟨l,d,b,c⟩,λe=>absurd ?_ e⟩
 grind [aK]
theorem bc.inQuar{h:ac}{i:Nat}(a:bc h [])(g:i<h.O.length)(r:¬aK (nth h.O i).q<0):bc (inQuar h i) ((zO h.a7 (lr h (nth h.O i))).map (·.Addr)):=by
 obtain⟨⟨s,j,l,t⟩,u⟩:=(dS a (ar g)).2 r;have b:jo h.J (nth h.O i).Addr (aK (nth h.O i).q):=⟨s,j,l,.inr t⟩
 have c:=a.nums;unfold cn at c;rw[C0]at c;have w:=aI (a.L.sok s j);have n:=a.dropO g b.any;have A:=n.cells (k:=fo h.G (nth h.O i).Addr (csz (aK (nth h.O i).q)).toNat) (ER a.ker _ _) rfl;have d:∀y∈h.a7.a6,y.Addr≠(nth h.O i).Addr:=λy o e=>by
  have f:=n.nd;rw[List.cons_append,List.nil_append]at f
  grind [holders]
 have p:=bc.toQuar (x:=lr h (nth h.O i)) (q:=LE h.a7 (lr h (nth h.O i))) (out:=zO h.a7 (lr h (nth h.O i))) A (QE a.quar ⟨by show 0<=aK _;omega,u,by show 0<=(nth h.O i).Addr;have:=l.1;omega,c.2.2.1⟩ (λy o=>a.snc y o) d) (by grind [List.take_append_drop,zO,LE]) (V5 _) b;rw[List.append_nil]at p;exact p
theorem bc.freeOb{h:ac}{t i:Nat}(a:bc h [])(c:i<h.O.length)(e:t<h.S.length):bc (freeOb h t i).1 []:=by
 unfold Ab.freeOb;split
 ·rename_i b
  obtain⟨l,f,d,-⟩:=(dS a (ar c)).1 b;obtain⟨g,j,-⟩:=wx f d
  grind [bc.dropL,freeL]
 rename_i b;split
 ·exact a
 have d:=a.inQuar c b;refine bc.recycs (E:=[]) ?_ e
 grind
theorem J0:∀{H L:List Int},H.Nodup->(∀x∈H,x∈L)->H.length<=L.length
 | [],L,_,_=>X0 _
 | y::H,L,b,c=>by
  have d:y∈L:=ψ
  have a:=List.nodup_cons.1 b;have:=J0 (L:=L.erase y) a.2 ψ
  grind
theorem xW{H:List Int}(a:H.Nodup)(b:∀x∈H,0<=x/\x<n):H.length<=n:=by
 have:=J0 (L:=(List.range n).map λ(i:Nat)=>(i:Int)) a λx c=>Y4.2 ⟨x.toNat,List.mem_range.2 ψ,ψ⟩
 simpa using this
theorem dh{f:α->Int}{xs:List α}(h:xs.Pairwise λa b=>f a<f b):(xs.map f).Nodup:=ψ
theorem ML:∀(b:List (List Int))(k:Nat)(s:List Int),(gC k s b).isSome=true->∀l∈b,l.length<=8
 | [],_,_,_,l,a=>by cases a
 | x::b,k,s,h,l,a=>by
  simp only[gC]at h;cases e:f7 k s x with
  | none=>grind
  | some c=>
   rw[e]at h;rcases List.mem_cons.1 a with rfl|a
   ·grind [f7]
   exact ML b (k+1) c h l a
theorem eI{c:aE}(h:b9 c=true):c.a.length=4/\∀l∈c.a,l.length<=8:=by grind [ML,b9]
structure rC(h:ac):Prop where
 cells:h.G.F.W.T.length<=32
 row:∀r∈h.G.F.W.T,r.length=16
 used:h.G.F.W.a5.length<=32
 ents:h.G.F.R.K.length<=32
 ref:h.G.a0.length<=40
 free:h.o.length<=32
 spans:h.J.length<=32
 larges:h.M.length<=32
 objs:h.O.length<=512
 caches:h.S.length<=4
 lists:∀c∈h.S,c.a.length=4/\∀l∈c.a,l.length<=8
 quar:h.a7.a6.length<=512
def jo.bd(b:bc h E)(d:jo h.J a c):0<=a/\a<512:=by
 obtain⟨s,e,⟨f,g,-⟩,-⟩:=d;have i:=aI (b.L.sok s e);omega
theorem bc.lens(a:bc h E):rC h:=by
 obtain⟨G,k,p,J,K,M,q⟩:=aG.1 a.ker;obtain⟨N,t,O,P⟩:=bf.1 k;obtain⟨Q,R,u⟩:=br.1 p;obtain⟨w,S,T⟩:=gc.1 a.rng;obtain⟨U,V,A,W⟩:=kn.1 a.quar;have g:=a.mail;unfold bR at g;simp only[I0,C0]at g;have B:=a.nc;refine⟨t,λr i=>?_,ω,u,q,?_,?_,?_,?_,ω,λc C=>eI (a.cach c C),?_⟩
 ·obtain⟨j,X,rfl⟩:=aO i
  grind [gX]
 ·have:=xW (H:=h.o.map (·.At)) (n:=32) (dh (w.1.imp_of_mem ψ)) λx b=>by
   obtain⟨r,i,rfl⟩:=Y4.1 b
   grind
  simpa using this
 ·have:=xW (H:=h.J.map (·.Q)) (n:=32) a.L.nd λx b=>by
   obtain⟨s,d,rfl⟩:=Y4.1 b;have:=aI (a.L.sok s d);omega
  simpa using this
 ·have:=xW (H:=h.M.map (·.Q)) (n:=32) (dh a.srl) λx b=>by
   obtain⟨l,f,rfl⟩:=Y4.1 b;have:=aS (a.L.lok l f);omega
  simpa using this
 ·have:=xW (H:=h.O.map (·.Addr)) (n:=512) (dh a.osr) λx b=>by
   obtain⟨o,D,rfl⟩:=Y4.1 b;rcases a.oow o D with⟨s,d,⟨Y,Z,-⟩,-⟩|⟨l,f,e,-⟩
   ·have:=aI (a.L.sok s d);omega
   have:=aS (a.L.lok l f);omega
  simpa using this
 have:=xW (H:=h.a7.a6.map (·.Addr)) (n:=512) A λx b=>by
  obtain⟨y,F,rfl⟩:=Y4.1 b;exact(a.hqu y F).bd a
 simpa using this
theorem rC.sml(a:rC h)(b:aF h.G=true)(d:aM.sml h.w)(e:cJ.sml h.Y):ac.sml h:=
 ⟨b8 b,⟨by grind [rC.free],λ_ _=>trivial⟩,⟨by grind [rC.spans],λ_ _=>trivial⟩,⟨by grind [rC.larges],λ_ _=>trivial⟩,⟨by grind [rC.objs],λ_ _=>trivial⟩,⟨by grind [rC.caches],λc f=>⟨by grind [rC.lists],λl g=>by have:=(a.lists c f).2 l g;show l.length<=1048576;omega⟩⟩,d,⟨by grind [rC.quar],λ_ _=>trivial⟩,e⟩
def mC(a:Int)(o:bo):Bool:=decide (o.Addr=a)
def qZ(h:ac)(a:Int):Nat:=(cU (mC a) h.O).toNat
theorem bc.objAt(g:bc h E)(k:o∈h.O):qZ h o.Addr<h.O.length/\nth h.O (qZ h o.Addr)=o/\cU (mC o.Addr) h.O=(qZ h o.Addr:Nat):=by
 obtain⟨i,c,rfl⟩:=aO k;have l:cU (mC (nth h.O i).Addr) h.O=(i:Nat):=dD (au c) (by unfold mC;simp) λj z n d=>by
  have a:=bk d;have b:=(Z2.1 d).1;subst a;unfold mC;refine W0 λe=>?_
  have:=cS (f:=(·.Addr)) (dh g.osr) b c e;omega
 grind [qZ]
def lc(k:ah)(p:Int)(n:Nat):(unmN k p n).Calls=k.Calls/\(unmN k p n).a0=k.a0:=(eP k p n).2
def M0(y:aB)(a:List aB):dr [] (y::a)=dr [y] a:=by rw[dr];rfl
theorem FI[Inhabited α]{xs:List α}(h:xs≠[]):xs.getLast? = some (nth xs (xs.length - 1)):=by grind [List.length_pos_iff,au]
theorem N8{xs:List α}(h:xs≠[])(v:α):xs.dropLast++[v]=xs.set (xs.length - 1) v:=by
 have a:0<xs.length:=ψ
 refine List.ext_getElem (by simp;omega) λi b c=>?_
 grind
theorem ME{a:List aB}(h:out≠[])(e:(nth out (out.length - 1)).At+(nth out (out.length - 1)).a8=y.At):dr out (y::a)=dr (out.set (out.length - 1) ⟨(nth out (out.length - 1)).At,(nth out (out.length - 1)).a8+y.a8⟩) a:=by grind [FI,N8,dr]
theorem Qj{a:List aB}(h:out≠[])(e:¬(nth out (out.length - 1)).At+(nth out (out.length - 1)).a8=y.At):dr out (y::a)=dr (out++[y]) a:=by grind [FI,dr]
theorem tC(xs:List aB)(w:xs.length<=4194304)(n:∀y∈xs,0<=y.At/\1<=y.a8/\y.At+y.a8<=1048576):zzA 573 false [.val none (bv .V xs)] .one (bv .own (dr [] xs)):=by
 refine fO 63 [(6,21,[15,16,17,18,19,20,21,22,23,24,25,26,27,28,29,30,31,32,33,34,35]),(7,15,[38,39,40,41,42,43,44,45,46,47,48,49,50,51,52])] Tryz.func573 rfl ?_ (.inr (iG _))
 repeat'(first|refine gP ?_|fail)
 (conv=>whnf)
 refine CJ (ι:=Nat × List aB) (λq=>[(0,.H .one (bv .V xs)),(3,.H .one (bv .own q.2)),(4,.H .one [I ((q.1:Nat):Int)])]) (λq=>q.1<=xs.length/\dr q.2 (xs.drop q.1)=dr [] xs/\q.2.length<=q.1/\∀y∈q.2,0<=y.At/\1<=y.a8/\y.At+y.a8<=1048576) (λq=>xs.length - q.1) ((0,[])) ?_ ψ λq o=>?_
 ·exact wB
 obtain⟨i,out⟩:=q;obtain⟨p,a,g,b⟩:=o;simp only at p a g b |-;by_cases h:i<xs.length
 ·have j:=au h
  have B:=n _ (ar h);rw[jl h]at a;by_cases k:out=[]
  ·subst k
   rw[M0]at a;have D:([]:List aB).length=0:=rfl
   repeat'(first|refine gE ?_|(conv=>whnf);first|with_reducible refine CE (aa j) ?_|refine Ln.mk (show List.length _=0 from rfl) ?_|refine Ap.sm (λr t=>by cases t) rfl (by simp) (by decide) rfl ?_)
   ((conv=>whnf)
    refine CF (i+1,[nth xs i]) ψ (by simp only;omega) ?_
    (repeat'(first|exact trivial|rfl|exact CM rfl (CM (Z0 (C.s dR.own) (by simp[aB.enc])) trivial)|refine CM ?_ ?_)))
  have l:0<out.length:=ψ
  have d:out[((out.length:Int) - 1).toNat]? = some (nth out (out.length - 1)):=by
   rw[show((out.length:Int) - 1).toNat=out.length - 1 by omega];grind [au]
  have u:=b _ (ar (xs:=out) (i:=out.length - 1) ω);by_cases e:(nth out (out.length - 1)).At+(nth out (out.length - 1)).a8=(nth xs i).At
  ·rw[ME k e]at a
   repeat'(first|refine gB ?_|(conv=>whnf);first|with_reducible refine CE (aa j) ?_|refine CO ω (aa d) ?_|refine CG rfl (aa d) rfl ?_|refine CQ rfl rfl (aa d) rfl (O1 rfl) rfl ?_)
   ((conv=>whnf)
    refine CF (i+1,out.set (out.length - 1) ⟨(nth out (out.length - 1)).At,(nth out (out.length - 1)).a8+(nth xs i).a8⟩) ⟨(by simp only;omega),a,ψ,(λy c=>?_)⟩ (by simp only;omega) ?_)
   ·rcases O7 c with c|rfl
    ·exact b y c
    simp only;omega
   (repeat'(first|exact trivial|rfl|exact CM rfl (CM (Z0 (C.s dR.own) (by rw[show((out.length:Int) - 1).toNat=out.length - 1 by omega,Z6];rfl)) trivial)|refine CM ?_ ?_))
  rw[Qj k e]at a
  repeat'(first|refine gB ?_|(conv=>whnf);first|with_reducible refine CE (aa j) ?_|refine CO ω (aa d) ?_|refine CG rfl (aa d) rfl ?_|refine Ap.sm (aV λ_=>rfl) rfl (by simp;omega) (by decide) rfl ?_)
  ((conv=>whnf)
   refine CF (i+1,out++[nth xs i]) ⟨(by simp only;omega),a,(by simp;omega),(λy c=>?_)⟩ (by simp only;omega) ?_)
  ·rcases V3.1 c with c|c
   all_goals simp_all
  (repeat'(first|exact trivial|rfl|exact CM rfl (CM (Z0 (C.s dR.own) (by simp[aB.enc])) trivial)|refine CM ?_ ?_))
 obtain rfl:i=xs.length:=ω
 rw[List.drop_length]at a
 repeat'(first|refine gE ?_|fail)
 rw[<-a];rfl
def AK(r y:aB)(a:List aB)(put:Bool):nh r (y::a) put=if ovl y r then none else if !put&&decide (y.At > r.At) then(nh r a true).map λt=>r::y::t else(nh r a put).map λt=>y::t:=by rw[nh]
theorem mH(pages:Int)(xs:List aB)(r:aB)(G:0<=pages/\pages<=1048576)(H:gG xs):zzA 519 false [.val none [I pages],.val none (bv .V xs),.val (some 2) (aB.enc .V r)] (.tup [none,none]) (HM xs (dN pages xs r)):=by
 have o:=H.1;have j:=m7 pages xs G H;have p:=yk pages r G;cases k:bF pages xs<;>rw[k]at j
 ·rw[show dN pages xs r=none by unfold dN;rw[CB (by rw[k];simp)]]
  refine fO 82 [] Tryz.func519 rfl ?_ (.inr (ur _ _))
  repeat'(first|refine gP ?_|(conv=>whnf);first|refine C9 (j) ?_|refine CS (λ_=>rfl) (λ_=>rfl) o (by decide) ?_)
  rfl
 cases u:rangeIn pages r<;>rw[u]at p
 ·rw[show dN pages xs r=none by unfold dN;rw[CB (by rw[u];simp)]]
  refine fO 82 [] Tryz.func519 rfl ?_ (.inr (ur _ _))
  repeat'(first|refine gP ?_|(conv=>whnf);first|refine C9 (j) ?_|refine C9 (p) ?_|refine CS (λ_=>rfl) (λ_=>rfl) o (by decide) ?_)
  rfl
 obtain⟨J,K⟩:=wu k;have l:0<=r.At/\1<=r.a8/\r.At+r.a8<=pages:=by grind [rangeIn]
 rw[show dN pages xs r=(nh r xs false).map (dr []) by unfold dN;rw[CD ⟨k,u⟩,AM (pages:=pages) J l.2.1 ψ]];refine fO 82 [] Tryz.func519 rfl ?_ (.inr (ur _ _))
 repeat'(first|refine gP ?_|(conv=>whnf);first|refine C9 (j) ?_|refine C9 (p) ?_|refine CS (λ_=>rfl) (λ_=>rfl) o (by decide) ?_)
 (conv=>whnf)
 refine CJ (ι:=Nat × List aB × Bool) (λq=>[(1,.H .one (bv .V xs)),(5,.H .box (aB.enc .V r)),(8,.H .one (bv .own xs)),(9,.H .one (bv .own q.2.1)),(10,.H .one [B (q.2.2)]),(11,.H .one [I ((q.1:Nat):Int)])]) (λq=>q.1<=xs.length/\(nh r (xs.drop q.1) q.2.2).map (q.2.1++·)=nh r xs false/\q.2.1.length<=q.1+q.2.2.toNat/\(∀y∈q.2.1,0<=y.At/\1<=y.a8/\y.At+y.a8<=1048576)) (λq=>xs.length - q.1) ((0,[],false)) ?_ (⟨X0 _,by simp,by simp,by simp⟩) λq d=>?_
 ·exact wB
 obtain⟨i,out,put⟩:=q;obtain⟨L,b,c,e⟩:=d;simp only at L b c e |-;have M:0<=r.At/\1<=r.a8/\r.At+r.a8<=1048576:=ω
 by_cases w:i<xs.length
 ·have n:=au w
  have N:=K _ (ar w);have E:0<=(nth xs i).At/\1<=(nth xs i).a8/\(nth xs i).At+(nth xs i).a8<=1048576:=ω
  rw[jl w]at b;by_cases h:ovl (nth xs i) r=true
  ·rw[<-b]
   rw[AK,CD h];unfold ovl at h;rw[C0]at h
   repeat'(first|refine gE ?_|(conv=>whnf);first|with_reducible (first|refine CE (aa n) ?_|refine Bf.D (λd=>?_) (λd=>?_)))
   rfl
  rw[AK,CB h]at b;unfold ovl at h;rw[C0]at h;cases put with
  | false=>
   have c:out.length<=i:=by simpa using c
   by_cases O:(nth xs i).At > r.At
   ·rw[CD (by simp;omega),Option.map_map]at b
    repeat'(first|refine gE ?_|(conv=>whnf);first|with_reducible (first|refine CE (aa n) ?_|refine Bf.D (λd=>?_) (λd=>?_))|refine Ap.sm (aV λ_=>rfl) rfl (by simp;omega) (by decide) rfl ?_|refine Ap.sm (λr l=>by simp at l;rcases l with⟨a,_,rfl⟩|rfl<;>rfl) rfl (by simp;omega) (by decide) rfl ?_)
    ((conv=>whnf)
     refine CF (i+1,out++[r,nth xs i],true) ⟨(by simp only;omega),(by rw[<-b];congr 1;funext t;simp),(by simp;omega),(λy g=>?_)⟩ (by simp only;omega) ?_)
    ·grind
    (repeat'(first|exact trivial|rfl|exact CM rfl (CM (Z0 (C.s dR.own) (by simp[aB.enc])) trivial)|refine CM ?_ ?_))
   rw[CB (by simp;omega),Option.map_map]at b
   repeat'(first|refine gE ?_|(conv=>whnf);first|with_reducible (first|refine CE (aa n) ?_|refine Bf.D (λd=>?_) (λd=>?_))|refine Ap.sm (aV λ_=>rfl) rfl (by simp;omega) (by decide) rfl ?_)
   ((conv=>whnf)
    refine CF (i+1,out++[nth xs i],false) ⟨(by simp only;omega),(by rw[<-b];congr 1;funext t;simp),(by simp;omega),(λy g=>?_)⟩ (by simp only;omega) ?_)
   ·grind
   (repeat'(first|exact trivial|rfl|exact CM rfl (CM (Z0 (C.s dR.own) (by simp[aB.enc])) trivial)|refine CM ?_ ?_))
  | true=>
   have c:out.length<=i+1:=c;rw[CB (by simp),Option.map_map]at b;by_cases P:(nth xs i).At<r.At+r.a8
   all_goals
    repeat'(first|refine gE ?_|(conv=>whnf);first|with_reducible (first|refine CE (aa n) ?_|refine Bf.D (λd=>?_) (λd=>?_))|refine Ap.sm (aV λ_=>rfl) rfl (by simp;omega) (by decide) rfl ?_)
    ((conv=>whnf)
     refine CF (i+1,out++[nth xs i],true) ⟨(by simp only;omega),(by rw[<-b];congr 1;funext t;simp),(by simp;omega),(λy g=>?_)⟩ (by simp only;omega) ?_)
    ·rcases V3.1 g with g|g
     ·exact e y g
     rw[V1.1 g];exact E
    (repeat'(first|exact trivial|rfl|exact CM rfl (CM (Z0 (C.s dR.own) (by simp[aB.enc])) trivial)|refine CM ?_ ?_))
 obtain rfl:i=xs.length:=ω
 rw[List.drop_length]at b;cases put with
 | false=>
  have c:out.length<=xs.length:=by simpa using c
  rw[<-b];have F:=tC (out++[r]) (by simp;omega) ψ
  repeat'(first|refine gE ?_|(conv=>whnf);first|refine Ap.sm (aV λ_=>rfl) rfl (by simp;omega) (by decide) (show(out++[r]).map (aB.enc .own)=_ by simp[aB.enc]) ?_|refine CK (F) ⟨⟨rfl,dX _⟩,trivial⟩ ?_)
  rfl
 | true=>
  have c:out.length<=xs.length+1:=c;rw[<-b];have F:=tC out ω e
  repeat'(first|refine gE ?_|(conv=>whnf);first|refine CK (F) ⟨⟨rfl,dX _⟩,trivial⟩ ?_)
  simp[nh,HM]
  rfl
theorem shl64{i:Int}(a:0<=i/\i<=15):IntKind.i64.wrap (1*2 ^ min i.toNat IntKind.i64.bits)=2 ^ i.toNat/\0<=(2:Int) ^ i.toNat/\(2:Int) ^ i.toNat<=32768:=by
 have b:min i.toNat IntKind.i64.bits=i.toNat:=Nat.min_eq_left (show i.toNat<=64 by omega);have c:(0:Int)<=2 ^ i.toNat/\(2:Int) ^ i.toNat<=32768:=by
  have:(2:Nat) ^ i.toNat<=2 ^ 15:=Nat.pow_le_pow_right (by decide) ω
  grind
 grind [fC]
theorem clr64{i:Int}(a:0<=b/\b<=65535):IntKind.i64.wrap ((BitVec.ofInt IntKind.i64.bits b &&& ~~~BitVec.ofInt IntKind.i64.bits (2 ^ i.toNat)).toNat:Nat)=Am b i:=by
 have:=Ek (i:=i) a
 grind [fC,Am]
theorem uw(b i:Int)(c:0<=b/\b<=65535)(d:0<=i/\i<=15):zzA 574 false [.val none [I b],.val none [I i]] .one [I (Am b i)]:=by
 have a:=qb b i;rw[O0 ω]at a;have e:IntKind.u64.wrap i=i:=by grind [Go.IntKind.wrap,Go.IntKind.bits]
 refine fO 15 [] Tryz.func574 rfl ?_
 repeat'(first|refine gP ?_|(conv=>whnf);first|refine CC ?_|refine C9 (a) ?_|refine CP ω ?_|refine CN e ?_|refine CN (shl64 d).1 ?_|refine CN (clr64 c) ?_)
 rfl
theorem Rp{k:Int}(a:aZ s.a9 k=true):0<=k/\k<=15:=by grind [eN]
def zD(s:aA)(k:Int)(a:bi s=true)(b:aZ s.a9 k=true):zzA 523 false [.val (some 3) (aA.enc .V s),.val none [I k]] (.tup [some 3,none]) (aA.enc .own (mM s k)++[B true]):=by
 have e:=dO a;have g:=Rp b;have c:=gN s;have d:=iM s.a9 k ω;rw[a]at c;rw[b]at d;refine fO 23 [] Tryz.func523 rfl ?_ (.inr (aU (aA.enc_fr _) ⟨trivial,trivial⟩))
 repeat'(first|refine gP ?_|(conv=>whnf);first|refine CC ?_|refine C9 (c) ?_|refine C9 (d) ?_|refine C9 (uw s.a9 k e g) ?_)
 rfl
def yx(c:aE)(k:Int)(b:aE.sml c):zzA 477 false [.val (some 1) (aE.enc .V c),.val none [I k]] .one [B (b9 c&&decide (0<=k/\k<=3))]:=by
 have a:=nK c b;cases e:b9 c<;>rw[e]at a
 all_goals
  refine fO 11 [] Tryz.func477 rfl ?_
  repeat'(first|refine gP ?_|(conv=>whnf);first|refine CC ?_|refine C9 (a) ?_|refine C9 (aJ k 0 3) ?_)
  all_goals rfl
def Ht(c:aE)(k:Int)(a:aE.sml c):zzA 333 false [.val (some 1) (aE.enc .V c),.val none [I k]] .one [B (decide (0<=k/\k<=3)&&b9 c)]:=by
 have b:=tG c a;refine fO 11 [] Tryz.func333 rfl ?_
 repeat'(first|refine gP ?_|(conv=>whnf);first|with_reducible refine Bf.D (λd=>?_) (λd=>?_)|refine CC ?_|refine C9 (b) ?_|refine C9 (fA k) ?_)
 all_goals exact Z0 (λz=>[B z]) ((by simp[*]))
def pX{c:aE}{k:Nat}(a:k<c.a.length):c.a[k]? = some (nth c.a k):=au a
theorem Ms{c:aE}(h:b9 c=true)(k:Nat)(a:Int):aE.sml (pL c k a):=by
 obtain⟨e,d⟩:=eI h;refine⟨by grind [pL],λl b=>?_⟩;rcases O7 b with b|rfl
 ·have:=d l b;show l.length<=1048576;omega
 show(nth c.a k++[a]).length<=1048576;by_cases f:k<c.a.length
 ·grind [ar]
 have:nth c.a k=[]:=by unfold nth;rw[C3,z3 ω];rfl
 rw[this];simp
theorem PC(c:aE)(k:Nat)(a:Int):aE.enc .own (pL c k a)=[.s .own ((c.a.map (aH .own)).set k (aH .own (nth c.a k++[a])))]:=by grind [Z6,aE.enc,pL]
theorem eU{f:α->List C}{xs:List α}{k:Nat}{y:α}(h:xs[k]? = some y):((xs.map f).set k r)[k]? = some r:=ψ
def iW(f:α->β)(xs:List α)(y:α):(xs++[y]).map f=xs.map f++[f y]:=by simp
def Ks(c:aE)(k a:Int):List C:=aE.enc .own ((cput c k a).getD c)++[B (cput c k a).isSome]
def PK(c:aE)(k a:Int):ij (Ks c k a):=aU (aE.enc_fr _) ⟨trivial,trivial⟩
theorem zv(c:aE)(k:Nat)(a:Int)(j:b9 c=true)(B:k<=3):zzA 572 false [.val (some 1) (aE.enc .V c),.val none [I (k:Nat)],.val none [I a]] (.tup [some 1,none]) (Ks c k a):=by
 obtain⟨D,q⟩:=eI j;have r:aE.sml c:=⟨ω,λl u=>by have:=q l u;show l.length<=1048576;omega⟩
 have n:=yx c k r;rw[j,O0 ω]at n;have t:=iZ c r;have d:=Ms j k a;have o:=nK (pL c k a) d;have w:=iZ (pL c k a) d;have b:=pX (c:=c) (k:=k) ω;have y:=q _ (ar (xs:=c.a) (i:=k) ω);have h:=Ce (pL c k a);rw[PC]at h;have g:=PK c k a;unfold Ks at g |-;cases e:b9 (pL c k a)<;>rw[e]at o
 ·have p:cput c k a=none:=by grind [cput]
  rw[p]at g |-;refine fO 35 [(4,267,[16,17,18,19,20,21,22,23,24,25,27,0,1,2,3,4,5,6,7,8,9,10,1000,1001,1002,11,12])] Tryz.func572 rfl ?_ (.inr g)
  repeat'(first|refine gP ?_|(conv=>whnf);first|with_reducible refine CE (aa b) ?_|refine CC ?_|refine CE (eU b) ?_|refine CG rfl (eU b) rfl ?_|refine C9 (n) ?_|refine C9 (t) ?_|refine Lq.one rfl rfl (aa b) rfl (O1 rfl) rfl rfl ?_|refine CG rfl (aa b) rfl ?_|refine CQ rfl rfl (eU b) rfl (O1 rfl) (show [C.s dR.own ((c.a.map (aH .own)).set k (aH .own (nth c.a k++[a])))]=_ from by simp only[List.set_cons_zero,List.set_set,I3];rfl) ?_|refine Ap.sm (aV λ_=>rfl) rfl (by simp;omega) (by decide) (iW _ _ _) ?_|refine CK (o) ⟨⟨rfl,h⟩,trivial⟩ ?_)
  rfl
 have p:cput c k a=some (pL c k a):=by grind [cput]
 rw[p]at g |-;refine fO 35 [(4,267,[16,17,18,19,20,21,22,23,24,25,27,0,1,2,3,4,5,6,7,8,9,10,1000,1001,1002,11,12])] Tryz.func572 rfl ?_ (.inr g)
 repeat'(first|refine gP ?_|(conv=>whnf);first|with_reducible refine CE (aa b) ?_|refine CC ?_|refine CE (eU b) ?_|refine CG rfl (eU b) rfl ?_|refine C9 (n) ?_|refine C9 (t) ?_|refine Lq.one rfl rfl (aa b) rfl (O1 rfl) rfl rfl ?_|refine CG rfl (aa b) rfl ?_|refine CQ rfl rfl (eU b) rfl (O1 rfl) (show [C.s dR.own ((c.a.map (aH .own)).set k (aH .own (nth c.a k++[a])))]=_ from by simp only[List.set_cons_zero,List.set_set,I3];rfl) ?_|refine Ap.sm (aV λ_=>rfl) rfl (by simp;omega) (by decide) (iW _ _ _) ?_|refine CK (o) ⟨⟨rfl,h⟩,trivial⟩ ?_|refine CK (w) ⟨⟨rfl,h⟩,trivial⟩ ?_)
 rfl
def bE(x:ac):List C:=[.s .own (x.G.F.W.T.map (aH .own)),.s .own (x.G.F.W.a5.map (rB .own)),.s .own (x.G.F.R.K.map (bm.enc .own)),I x.G.Calls,.s .own (x.G.a0.map (rI .own)),.s .own (x.o.map (aB.enc .own)),.s .own (x.J.map (aA.enc .own)),.s .own (x.M.map (aC.enc .own)),.s .own (x.O.map (bo.enc .own)),.s .own (x.S.map (aE.enc .own)),.s .own (x.w.U.map (cL .own)),.s .own (x.w.y.map (aH .own)),I x.a7.b7,.s .own (x.a7.a6.map (aR.enc .own)),I x.b5,I x.b1,I x.c0,I x.b,B x.u,I x.Y.X.a3,I x.Y.X.a1,.s .V (x.Y.X.T.map (rI .V)),I x.Y.b0,I x.Y.b]
def bK(x:ac):dE (bE x)=ac.enc .V x:=by simp[dE,bE,ac.enc,Ce,bm.enc_fz,aC.enc_fz,bo.enc_fz,aB.enc_fz,aA.enc_fz,aR.enc_fz,rB,nR,rI,dA,<-bY,W6]
def xm(x:cJ):List C:=[I x.X.a3,I x.X.a1,.s .V (x.X.T.map (rI .V)),I x.b0,I x.b]
theorem Pu.two{f a:List C}{off k g h b:Nat}{cs:List C}{K:List C->Prop}{o c:dR}{rows2:List (List C)}{d:List C}(h1:f[off]? = some (.s o rows))(n:o.mine=true)(u:rows[i]? = some r)(w:r.length=k)(y:r[j]? = some (.s c rows2))(p:c.mine=true)(A:rows2[g]? = some d)(B:d.length=h)(D:b+cs.length<=h)(E:a=f.set off (.s o (rows.set i (r.set j (.s c (rows2.set g (splice d b cs)))))))(q:K a):Pu f off [(i,k,j),(g,h,b)] cs K:=by
 have t:o≠.V:=λe=>by subst e;cases n
 have l:c≠.V:=λe=>by subst e;cases p
 refine Pu.mk (r:=d) (j:=b) (by grind [cq]) (by grind [kE]) ω (by grind [gf]) q
def E3(x:List aA):fz (.s .own (x.map (aA.enc .own)))=.s .V (x.map (aA.enc .V)):=(List.cons.inj (wE x)).1
def Bw(x:List aC):fz (.s .own (x.map (aC.enc .own)))=.s .V (x.map (aC.enc .V)):=(List.cons.inj (GE x)).1
def Dk(x:List bo):fz (.s .own (x.map (bo.enc .own)))=.s .V (x.map (bo.enc .V)):=(List.cons.inj (LW x)).1
theorem Ap.dele{e:α->List C}{xs:List α}(a:∀y,(e y).length=sz)(b:∀y,bj (e y)=true)(h:xs.length<=1048576)(c:by_<=1000)(d:K ((Ab.dele xs i).map e)):Ap true ((xs.take i).map e) ((xs.drop (i+1)).map e) sz by_ K:=by
 have f:(xs.take i).length+(xs.drop (i+1)).length<=2097152:=ψ
 refine CV (aV a) (aV a) (λ_ r g=>by obtain⟨y,-,rfl⟩:=Y4.1 g;exact b y) (by rw[I1,I1];omega) (by rw[I1,I1];exact I5 (Nat.mul_le_mul f c) (by decide)) ?_ d;unfold Ab.dele;rw[V6]
def LO(h:ac)(p:Int)(a:aL.sml h.G.F.R):zzA 485 false [.ptr (ac.enc .V h),.val none [I p]] .one [I (af h.G.F.R p).e]:=by
 refine fO 13 [] Tryz.func485 rfl ?_
 repeat'(first|refine gP ?_|(conv=>whnf);first|refine CC ?_|refine C9 (dl h.G.F.R p a) ?_)
 rfl
def R7(h:ac):List C:=(bE h).drop 5
def TT(h:ac)(k:ah):bE {h with G:=k} = ah.enc .own k++R7 h:=rfl
def Fi(h:ac):R7 h=[.s .own (h.o.map (aB.enc .own)),.s .own (h.J.map (aA.enc .own)),.s .own (h.M.map (aC.enc .own)),.s .own (h.O.map (bo.enc .own)),.s .own (h.S.map (aE.enc .own)),.s .own (h.w.U.map (cL .own)),.s .own (h.w.y.map (aH .own)),I h.a7.b7,.s .own (h.a7.a6.map (aR.enc .own)),I h.b5,I h.b1,I h.c0,I h.b,B h.u,I h.Y.X.a3,I h.Y.X.a1,.s .V (h.Y.X.T.map (rI .V)),I h.Y.b0,I h.Y.b]:=rfl
def Md(h:ac)(f:Int)(a:aL.sml h.G.F.R)(b:0<=f/\f<h.G.F.W.T.length/\f<h.G.F.W.a5.length) :
  zzB 486 false [.ptr (bE h),.val none [I f]] [.ptr (bE {h with G:=ge h.G f}),.val none [I f]] (.tup []) []:=by
 have c:=au (xs:=h.G.F.W.T) (i:=f.toNat) ω;have d:=au (xs:=h.G.F.W.a5) (i:=f.toNat) ω;rw[TT h (ge h.G f)];by_cases e:(pagesOn h.G.F.R f).length=0
 ·rw[uo e,Fi]
  refine fM 30 [] [(2,8,[21,22,23,24,25,26,27,28])] [(0,0),(0,0)] Tryz.func486 rfl (λu q=>?_) (.inr trivial)
  repeat'(first|refine gB ?_|(conv=>whnf);first|with_reducible (first|refine CO b.1 (aa d) ?_|refine CO b.1 (aa c) ?_)|refine CC ?_|refine CK (gR h.G.F.R f a) ⟨⟨rfl,Cb h.G.F.R⟩,⟨rfl,rfl⟩,trivial⟩ ?_|refine CQ rfl rfl (aa c) rfl (O1 rfl) rfl ?_|refine CQ rfl rfl (aa d) rfl (O1 rfl) rfl ?_|refine Mk.mk 16 rfl rfl (by decide) (by decide) rfl ?_)
  refine CH rfl rfl ?_;exact wB
 rw[y5 e];show aP _ _ _ [.ptr (bE h),_] [.ptr (bE h),_] _ _;refine fM 30 [] [(2,8,[21,22,23,24,25,26,27,28])] [(0,0),(0,0)] Tryz.func486 rfl (λu q=>?_) (.inr trivial)
 repeat'(first|refine gB ?_|(conv=>whnf);first|refine CC ?_|refine CK (gR h.G.F.R f a) ⟨⟨rfl,Cb h.G.F.R⟩,⟨rfl,rfl⟩,trivial⟩ ?_)
 refine CH rfl rfl ?_;exact wB
theorem ot(h:ac)(p:Int)(b:aF h.G=true) :
  zzB 374 false [.ptr (bE h),.val none [I p]] [.ptr (bE {h with G:=cN h.G p}),.val none [I p]] .one [B (decide ((af h.G.F.R p).e≠0))]:=by
 have k:=b8 b;have c:=LO h p k.1.2;by_cases a:(af h.G.F.R p).e=0
 ·rw[show cN h.G p=h.G by unfold cN;rw[CD a]]
  refine fM 32 [(486,[2,0])] [] [(0,0),(0,0)] Tryz.func374 rfl (λu q=>?_)
  repeat'(first|refine gB ?_|(conv=>whnf);first|refine CC ?_|refine CK (c) ⟨bK h,⟨rfl,rfl⟩,trivial⟩ ?_)
  refine CH rfl ?_ ?_
  ·exact Z0 (λz=>[B z]) ((by simp[a]))
  exact wB
 obtain⟨l,r,n,d,o⟩:=bW b a;have j:=(bf.1 (aG.1 b).2.1).2.2.1;rw[show cN h.G p=ge (lh h.G p) (af h.G.F.R p).j by unfold cN;rw[CB a]];have e:=Md {h with G:=lh h.G p} (af h.G.F.R p).j (wH b) ⟨d,by grind [lh],by grind [lh]⟩;rw[TT h (lh h.G p),xN,Fi]at e;have g:=au (xs:=h.G.F.R.K) (i:=p.toNat) ω;rw[n]at c e a |-;refine fM 32 [(486,[2,0])] [] [(0,0),(0,0)] Tryz.func374 rfl (λu q=>?_)
 repeat'(first|refine gB ?_|(conv=>whnf);first|with_reducible refine CO l (aa g) ?_|refine CC ?_|refine CK (c) ⟨bK h,⟨rfl,rfl⟩,trivial⟩ ?_|refine CQ rfl rfl (aa g) rfl (O1 rfl) rfl ?_|refine CG rfl (aa g) rfl ?_|refine CL (e) (.inl rfl) ?_)
 refine CH rfl ?_ ?_
 ·exact Z0 (λz=>[B z]) ((by simp[a]))
 exact wB
def vK(h:ac)(p:Int):zzA 367 false [.ptr (ac.enc .V h),.val none [I p]] .one [B (fD h p)]:=by
 cases e:h.u
 all_goals
  have b:ac.enc .V h=(ac.enc .V h).set 18 (B h.u):=rfl;rw[e]at b;rw[b];refine fO 29 [] Tryz.func367 rfl ?_
  repeat'(first|refine gP ?_|(conv=>whnf);first|with_reducible (first|refine Bf.D (λa=>?_) (λa=>?_)|refine Bf.E (λa=>?_) (λa=>?_)|refine Bf.N (λa=>?_) (λa=>?_))|refine CC ?_)
  all_goals exact Z0 (λz=>[B z]) ((by unfold fD;rw[e];first|(simp[*];done)|(simp[*];rw[C5];simp)))
def ik(h:ac):zzA 372 false [.ptr (ac.enc .V h)] .one [I (fk h:Nat)]:=by
 refine fO 11 [] Tryz.func372 rfl ?_
 repeat'(first|refine gP ?_|(conv=>whnf);first|refine CC ?_)
 rfl
theorem rY(h:ac)(a:Int)(k:h.O.length<=1048576):zzA 509 false [.val (some 24) (ac.enc .V h),.val none [I a]] .one [I (cU (mC a) h.O)]:=by
 refine fO 22 [] Tryz.func509 rfl ?_
 repeat'(first|refine gP ?_|(conv=>whnf);first|refine CC ?_)
 (conv=>whnf)
 refine CJ (ι:=Nat) (λi=>[(1,.H .one [I (a)]),(2,.H .box (ac.enc .V h)),(5,.H .one [I ((i:Nat):Int)])]) (λi=>i<=h.O.length/\∀(j:Nat)(z:bo),j<i->h.O[j]? = some z->mC a z=false) (λi=>h.O.length - i) (0) ?_ ψ λi c=>?_
 ·exact wB
 obtain⟨c,d⟩:=c;by_cases g:i<h.O.length
 ·have b:=au g
  by_cases e:(nth h.O i).Addr=a
  ·repeat'(first|refine gB ?_|(conv=>whnf);first|with_reducible refine CE (aa b) ?_|refine CC ?_)
   grind [dD,mC]
  repeat'(first|refine gB ?_|(conv=>whnf);first|with_reducible refine CE (aa b) ?_|refine CC ?_)
  ((conv=>whnf);refine CF (i+1) ⟨ω,dY b (by grind [mC]) d⟩ ω ?_;(exact wB))
 repeat'(first|refine gE ?_|(conv=>whnf);first|refine CC ?_)
 exact Z0 (λz=>[I z]) (gh ω d).symm
def nz(h:ac)(i:Nat)(b:i<h.O.length)(a:h.O.length<=1048576):zzB 513 false [.ptr (bE h),.val none [I (i:Nat)]] [.ptr (bE {h with O:=dele h.O i}),.val none [I (i:Nat)]] (.tup []) []:=by
 refine fM 23 [] [(0,273,[4,5,6,7,8,9,10,11,13,14,15,16,17,18,19,21,22,0,1,2,3,4,5,6,7,9,10,11,12,13,14,15,8,1000,1009,1010,1011,1012,1013,1014,1015,16,1000,17,18,19]),(1048576,0,[8])] [(0,0),(0,0)] Tryz.func513 rfl (λu q=>?_) (.inr trivial)
 repeat'(first|refine gP ?_|(conv=>whnf);first|refine CC ?_|refine GQ.mk rfl (Dk h.O) rfl ?_|refine CY i rfl (by rw[I1];omega) (aV λ_=>rfl) W4 ?_|refine Sl.suf (i+1) rfl (by rw[I1];omega) (aV λ_=>rfl) X4 ?_|refine CX (λ_=>rfl) (λ_=>rfl) (by rw[C2];omega) (by decide) ?_|refine Ap.dele (λ_=>rfl) (λ_=>rfl) a (by decide) ?_|refine CS (λ_=>rfl) (λ_=>rfl) (by rw[C2];omega) (by decide) ?_|refine CC ?_)
 refine CH rfl rfl ?_;exact wB
theorem Ej(h:ac)(E:List Int)(i:Nat)(a:bc h E)(e:i<h.J.length):zzB 524 false [.ptr (bE h),.val none [I (i:Nat)]] [.ptr (bE (giveP h i)),.val none [I (i:Nat)]] (.tup []) []:=by
 have b:=a.lens;have g:=b.spans;have c:=au e;have j:=ot {h with J:=dele h.J i} (nth h.J i).Q a.ker;have d:=ik {h with G:=cN h.G (nth h.J i).Q,J:=dele h.J i};rw[show fk {h with G:=cN h.G (nth h.J i).Q,J:=dele h.J i} = fk h from(lA _ _).1]at d;have k:fk h<=32:=b.ents;have l:=mH (fk h:Nat) h.o ⟨(nth h.J i).Q,1⟩ ω ⟨by grind [rC.free],λ_ _=>trivial⟩;refine fM 52 [(374,[2,0])] [(1,273,[13,14,15,16,17,18,19,20,22,23,24,25,26,27,28,30,31,0,1,2,3,4,5,6,7,9,10,11,12,13,14,15,8,1000,1009,1010,1011,1012,1013,1014,1015,16,1000,17,18,19]),(1048577,0,[6]),(3,270,[38,39,40,41,42,43,44,45,47,37,48,49,50,51,0,1,2,3,4,5,6,7,8,1000,1001,1002,1003,1004,1005,1006,9,10,11,12,13,14,15,1012])] [(0,0),(0,0)] Tryz.func524 rfl (λu q=>?_) (.inr trivial)
 repeat'(first|refine gP ?_|(conv=>whnf);first|with_reducible refine CE (aa c) ?_|refine CC ?_|refine GQ.mk rfl (E3 h.J) rfl ?_|refine CY i rfl (by rw[I1];omega) (aV λ_=>rfl) W4 ?_|refine Sl.suf (i+1) rfl (by rw[I1];omega) (aV λ_=>rfl) X4 ?_|refine CX (λ_=>rfl) (λ_=>rfl) (by rw[C2];omega) (by decide) ?_|refine Ap.dele (λ_=>rfl) (λ_=>rfl) ω (by decide) ?_|refine CS (λ_=>rfl) (λ_=>rfl) (by rw[C2];omega) (by decide) ?_|refine CG rfl (aa c) rfl ?_|refine CC ?_|refine CL (j) (.inl rfl) ?_|refine CK (d) ⟨bK _,trivial⟩ ?_|refine CK (l) ⟨⟨rfl,rfl⟩,⟨rfl,dX h.o⟩,⟨rfl,rfl⟩,trivial⟩ ?_)
 refine CH rfl rfl ?_;exact wB
def yr(h:ac)(i:Nat)(a:Int):bE (clrS h i a)=(bE h).set 6 (.s .own ((h.J.map (aA.enc .own)).set i (aA.enc .own (mM (nth h.J i) (d4 (nth h.J i) a))))):=by
 simp[bE,clrS,Z6]
theorem kP{f:α->β}{xs:List α}{y:β}(a:i<xs.length):((xs.map f).set i y)[i]? = some y:=ψ
def KY(c:bi s=true)(b:eK s a):jg s a=(d4 s a,0):=by
 unfold jg;rw[CD ((gQ c).2 ⟨b.1,b.2.1⟩),b.2.2.1];rfl
theorem om(h:ac)(E:List Int)(a:Int)(c:bc h (a::E)):zzB 426 false [.ptr (bE h),.val none [I a]] [.ptr (bE (freeA h a)),.val none [I a]] (.tup []) []:=by
 obtain⟨j,n,t⟩:=c.at (c.hin a ψ);have d:=(c.hin a ψ).bd c;have B:=c.lens;have C:=B.spans;have e:=c.L.sok _ (ar j);have k:=jZ h (a / 16) ω;rw[t]at k;unfold freeA;generalize wn h a=i at j n k e;have b:=au j;have o:=vD (nth h.J i) a ⟨ω,ω⟩;rw[KY e n]at o;have w:=zD (nth h.J i) (d4 (nth h.J i) a) e n.2.2.2;have D:=c.give j n;have l:=vK (clrS h i a) (nth h.J i).Q;rw[show fD (clrS h i a) (nth h.J i).Q=fD h (nth h.J i).Q from rfl]at l;have p:=Ej (clrS h i a) E i D (by grind [clrS]);have r:=bK (clrS h i a);rw[yr]at p r;have g:((h.J.map (aA.enc .own)).set i (aA.enc .own (mM (nth h.J i) (d4 (nth h.J i) a))))[i]? = some (aA.enc .own (mM (nth h.J i) (d4 (nth h.J i) a))):=kP j;unfold freeS;by_cases y:(mM (nth h.J i) (d4 (nth h.J i) a)).a9=0
 ·cases F:fD h (nth h.J i).Q<;>rw[F]at l
  ·rw[CD ⟨y,rfl⟩]
   refine fM 68 [(524,[2,0])] [(2,274,[26,27,28,29,30,31,32,33,34,35,36,37,38,39,25,40,41,42,0,1,2,3,4,5,6,7,8,9,10,11,12,13,14,15,16,17,18,1016])] [(0,0),(0,0)] Tryz.func426 rfl (λu q=>?_) (.inr trivial)
   repeat'(first|refine gB ?_|(conv=>whnf);first|with_reducible refine CN ((Z0 _ (tdiv16 d.1)).trans (fC ω ω)) ?_|refine CC ?_|refine CP (by decide) ?_|refine CK (k) ⟨⟨rfl,bK h⟩,⟨rfl,rfl⟩,trivial⟩ ?_|refine CE (aa b) ?_|refine CE g ?_|refine CG rfl (aa b) rfl ?_|refine CG rfl g rfl ?_|refine C9 (o) ?_|refine C9 (w) ?_|refine CC ?_|refine CQ rfl rfl (aa b) rfl (O1 rfl) rfl ?_|refine CK (l) ⟨r,⟨rfl,rfl⟩,trivial⟩ ?_|refine CL (p) (.inl rfl) ?_)
   refine CH rfl rfl ?_;exact wB
  rw[CB ψ];rw[yr];refine fM 68 [(524,[2,0])] [(2,274,[26,27,28,29,30,31,32,33,34,35,36,37,38,39,25,40,41,42,0,1,2,3,4,5,6,7,8,9,10,11,12,13,14,15,16,17,18,1016])] [(0,0),(0,0)] Tryz.func426 rfl (λu q=>?_) (.inr trivial)
  repeat'(first|refine gB ?_|(conv=>whnf);first|with_reducible refine CN ((Z0 _ (tdiv16 d.1)).trans (fC ω ω)) ?_|refine CC ?_|refine CP (by decide) ?_|refine CK (k) ⟨⟨rfl,bK h⟩,⟨rfl,rfl⟩,trivial⟩ ?_|refine CE (aa b) ?_|refine CE g ?_|refine CG rfl (aa b) rfl ?_|refine CG rfl g rfl ?_|refine C9 (o) ?_|refine C9 (w) ?_|refine CC ?_|refine CQ rfl rfl (aa b) rfl (O1 rfl) rfl ?_|refine CK (l) ⟨r,⟨rfl,rfl⟩,trivial⟩ ?_|refine CL (p) (.inl rfl) ?_)
  refine CH rfl rfl ?_;exact wB
 rw[CB λx=>y x.1];rw[yr];refine fM 68 [(524,[2,0])] [(2,274,[26,27,28,29,30,31,32,33,34,35,36,37,38,39,25,40,41,42,0,1,2,3,4,5,6,7,8,9,10,11,12,13,14,15,16,17,18,1016])] [(0,0),(0,0)] Tryz.func426 rfl (λu q=>?_) (.inr trivial)
 repeat'(first|refine gB ?_|(conv=>whnf);first|with_reducible refine CN ((Z0 _ (tdiv16 d.1)).trans (fC ω ω)) ?_|refine CC ?_|refine CP (by decide) ?_|refine CK (k) ⟨⟨rfl,bK h⟩,⟨rfl,rfl⟩,trivial⟩ ?_|refine CE (aa b) ?_|refine CE g ?_|refine CG rfl (aa b) rfl ?_|refine CG rfl g rfl ?_|refine C9 (o) ?_|refine C9 (w) ?_|refine CC ?_|refine CQ rfl rfl (aa b) rfl (O1 rfl) rfl ?_|refine CK (l) ⟨r,⟨rfl,rfl⟩,trivial⟩ ?_|refine CL (p) (.inl rfl) ?_)
 refine CH rfl rfl ?_;exact wB
def NT(h:ac)(t:Nat)(c:aE):bE {h with S:=h.S.set t c} = (bE h).set 9 (.s .own ((h.S.map (aE.enc .own)).set t (aE.enc .own c))):=by
 simp[bE,Z6]
theorem o7(h:ac)(E:List Int)(t:Nat)(a:Int)(b:bc h (a::E))(w:t<h.S.length):zzB 515 false [.ptr (bE h),.val none [I (t:Nat)],.val none [I a]] [.ptr (bE (recyc t h a)),.val none [I (t:Nat)],.val none [I a]] (.tup []) []:=by
 obtain⟨o,y,p⟩:=b.at (b.hin a ψ);have g:=(b.hin a ψ).bd b;have B:=b.lens;have C:=B.spans;have j:=aI (b.L.sok _ (ar o));have r:=b.cach _ (ar w);have l:=jZ h (a / 16) ω;rw[p]at l;have D:=om h E a b;unfold recyc;generalize wn h a=i at o y l j;have n:=au o;have k:=au w;have d:=zv (nth h.S t) (nth h.J i).d.toNat a r ω;rw[Int.toNat_of_nonneg j.2.2.1]at d;unfold Ks at d;cases e:cput (nth h.S t) (nth h.J i).d a with
 | none=>
  rw[e]at d;refine fM 46 [(426,[2,0])] [(1,277,[16,17,18,19,20,21,22,23,24,25,26,27,28,29,30,31,32,15,33,34,7,0,1,2,3,4,5,6,7,8,9,10,11,12,13,14,15,16,17,18,19,20,21,1019,22]),(3,6,[36,37,38,39,40,41])] [(0,0),(0,0),(0,0)] Tryz.func515 rfl (λu q=>?_) (.inr trivial)
  repeat'(first|refine gP ?_|(conv=>whnf);first|with_reducible refine CN ((Z0 _ (tdiv16 g.1)).trans (fC ω ω)) ?_|refine CC ?_|refine CP (by decide) ?_|refine CK (l) ⟨⟨rfl,bK h⟩,⟨rfl,rfl⟩,trivial⟩ ?_|refine CE (aa n) ?_|refine CE (aa k) ?_|refine CG rfl (aa n) rfl ?_|refine CG rfl (aa k) rfl ?_|refine CK (d) ⟨⟨rfl,Ce _⟩,⟨rfl,rfl⟩,⟨rfl,rfl⟩,trivial⟩ ?_|refine CC ?_|refine CL (D) (.inl rfl) ?_)
  refine CH rfl rfl ?_;exact wB
 | some c=>
  rw[e]at d;simp only;rw[NT];refine fM 46 [(426,[2,0])] [(1,277,[16,17,18,19,20,21,22,23,24,25,26,27,28,29,30,31,32,15,33,34,7,0,1,2,3,4,5,6,7,8,9,10,11,12,13,14,15,16,17,18,19,20,21,1019,22]),(3,6,[36,37,38,39,40,41])] [(0,0),(0,0),(0,0)] Tryz.func515 rfl (λu q=>?_) (.inr trivial)
  repeat'(first|refine gP ?_|(conv=>whnf);first|with_reducible refine CN ((Z0 _ (tdiv16 g.1)).trans (fC ω ω)) ?_|refine CC ?_|refine CP (by decide) ?_|refine CK (l) ⟨⟨rfl,bK h⟩,⟨rfl,rfl⟩,trivial⟩ ?_|refine CE (aa n) ?_|refine CE (aa k) ?_|refine CG rfl (aa n) rfl ?_|refine CG rfl (aa k) rfl ?_|refine CK (d) ⟨⟨rfl,Ce _⟩,⟨rfl,rfl⟩,⟨rfl,rfl⟩,trivial⟩ ?_|refine CC ?_|refine CQ rfl rfl (aa k) rfl (O1 rfl) rfl ?_)
  refine CH rfl rfl ?_;exact wB
theorem qX(h:ac)(i:Nat)(d:bc h [])(o:i<h.O.length)(t:aK (nth h.O i).q<0):zzB 511 false [.ptr (bE h),.val none [I (i:Nat)]] [.ptr (bE (freeL h i (zC h (nth h.O i).Addr))),.val none [I (i:Nat)]] (.tup []) []:=by
 obtain⟨l,w,y,-⟩:=(dS d (ar o)).1 t;obtain⟨p,B,c,-⟩:=wx w y;generalize zC h (nth h.O i).Addr=g at p B c;have a:=d.lens;have C:=a.larges;have D:=a.objs;have b:=au o;have N:=aS (d.L.lok _ (ar p));have E:fk h<=32:=a.ents;refine fM 89 [(374,[2,0]),(513,[2,0])] [(4,11,[23,24,25,26,27,28,29,30,31,32,33]),(8,7,[41,42,43,44,45,46,47]),(9,273,[50,51,52,53,54,55,56,57,58,59,60,62,49,63,64,65,66,0,1,2,3,4,5,6,7,8,9,10,11,1000,1001,1002,1003,1004,1005,1006,12,13,14,15,16,17,18,1015]),(10,273,[67,68,69,70,71,72,73,74,76,77,78,79,80,81,82,84,85,0,1,2,3,4,5,6,7,9,10,11,12,13,14,15,8,1000,1009,1010,1011,1012,1013,1014,1015,16,1000,17,18,19]),(1048586,0,[7])] [(0,0),(0,0)] Tryz.func511 rfl (λu q=>?_) (.inr trivial)
 repeat'(first|refine gP ?_|(conv=>whnf);first|refine CC ?_)
 (conv=>whnf)
 refine CJ (ι:=Nat) (λk=>[(0,.H .box (bE h)),(1,.H .one [I ((i:Nat):Int)]),(4,.H .one [I ((k:Nat):Int)])]) (λk=>k<=g) (λk=>g - k) (0) ?_ (X0 _) λk O=>?_
 ·exact wB
 have j:=au (xs:=h.M) (i:=k) ω;have F:=aS (d.L.lok _ (ar (xs:=h.M) (i:=k) ω));have G:0<=(nth h.O i).Addr/\(nth h.O i).Addr<=512:=ω
 by_cases e:k=g
 ·subst e
  repeat'(first|refine gB ?_|(conv=>whnf);first|with_reducible refine CE (aa j) ?_|refine CC ?_|refine CG rfl (aa j) rfl ?_|refine CG rfl (aa b) rfl ?_|refine CE (aa b) ?_)
  (conv=>whnf)
  refine CJ (ι:=Nat) (λn=>[(0,.H .box (bE {h with G:=unmN h.G (nth h.M k).Q n})),(1,.H .one [I ((i:Nat):Int)]),(4,.H .one [I ((k:Nat):Int)]),(5,.H .box (aC.enc .own (nth h.M k))),(6,.H .one [I ((n:Nat):Int)])]) (λn=>n<=(nth h.M k).a2.toNat) (λn=>(nth h.M k).a2.toNat - n) (0) ?_ (X0 _) λn P=>?_
  ·exact wB
  by_cases Q:n<(nth h.M k).a2.toNat
  ·have H:=ot {h with G:=unmN h.G (nth h.M k).Q n} ((nth h.M k).Q+n) (gV d.ker _ _)
   repeat'(first|refine gE ?_|(conv=>whnf);first|refine CC ?_|refine CL (H) (.inl rfl) ?_|refine CC ?_)
   ((conv=>whnf);refine CF (n+1) ω ω ?_;(exact wB))
  obtain rfl:n=(nth h.M k).a2.toNat:=ω
  have r:=ik {h with G:=unmN h.G (nth h.M k).Q (nth h.M k).a2.toNat};rw[show fk {h with G:=unmN h.G (nth h.M k).Q (nth h.M k).a2.toNat} = fk h from(eP _ _ _).1]at r;have J:=mH (fk h:Nat) h.o ⟨(nth h.M k).Q,(nth h.M k).a2⟩ ω ⟨by grind [rC.free],λ_ _=>trivial⟩;have K:=nz {h with G:=unmN h.G (nth h.M k).Q (nth h.M k).a2.toNat,M:=dele h.M k,o:=(dN (fk h) h.o ⟨(nth h.M k).Q,(nth h.M k).a2⟩).getD h.o} i o ψ
  repeat'(first|refine gE ?_|(conv=>whnf);first|refine CC ?_|refine GQ.mk rfl (Bw h.M) rfl ?_|refine CY k rfl (by rw[I1];omega) (aV λ_=>rfl) W4 ?_|refine Sl.suf (k+1) rfl (by rw[I1];omega) (aV λ_=>rfl) X4 ?_|refine CX (λ_=>rfl) (λ_=>rfl) (by rw[C2];omega) (by decide) ?_|refine Ap.dele (λ_=>rfl) (λ_=>rfl) ω (by decide) ?_|refine CS (λ_=>rfl) (λ_=>rfl) (by rw[C2];omega) (by decide) ?_|refine CC ?_|refine CK (r) ⟨bK _,trivial⟩ ?_|refine CK (J) ⟨⟨rfl,rfl⟩,⟨rfl,dX h.o⟩,⟨rfl,rfl⟩,trivial⟩ ?_|refine CL (K) (.inl rfl) ?_)
  refine CH rfl rfl ?_;exact wB
 have M:=c k ω
 repeat'(first|refine gB ?_|(conv=>whnf);first|with_reducible refine CE (aa j) ?_|refine CC ?_|refine CG rfl (aa j) rfl ?_|refine CG rfl (aa b) rfl ?_|refine CE (aa b) ?_)
 ((conv=>whnf);refine CF (k+1) ω ω ?_;(exact wB))
def Ta(q:bQ)(x:aR):List C:=bQ.enc .own (LE q x)++cY .own (zO q x)
def Q5(q:bQ)(x:aR):ij (Ta q x):=aU (bQ.enc_fr _) (vq _)
def Di(q:bQ)(a:aR)(K:q.a6.length<=4096)(e:gq q=true)(r:0<=a.d/\a.d<=3/\0<=a.Addr/\0<=a.b6)(t:∀y∈q.a6,y.b6<=a.b6)(u:∀y∈q.a6,y.Addr≠a.Addr) :
  zzA 514 false [.val (some 2) (bQ.enc .V q),.val (some 3) (aR.enc .V a)] (.tup [some 2,none]) (Ta q a):=by
 have b:bQ.sml q:=⟨ω,λ_ _=>trivial⟩
 have w:=sC q b;have l:=pc q b;rw[e]at l;have n:=BA a;rw[O0 r]at n;have o:=su q a.Addr b;rw[show q.a6.any (eQ a.Addr)=false by rw[List.any_eq_false];intro y B;unfold eQ;simpa using u y B]at o;have C:=(kn.1 e).2.2.2;have g:=Q5 q a;have L:(aR.mk a.Addr a.d a.b6)=a:=rfl;have c:=Fw q.b7 (q.a6++[a]);simp only[Y3,List.length_singleton]at c;by_cases E:q.a6.length=0
 all_goals
  try have h:(nth q.a6 (q.a6.length - 1)).b6<=a.b6:=t _ (ar ω)
  try have j:=au (xs:=q.a6) (i:=q.a6.length - 1) ω
  try have d:q.a6[((q.a6.length:Int) - 1).toNat]? = some (nth q.a6 (q.a6.length - 1)):=by rw[show((q.a6.length:Int) - 1).toNat=q.a6.length - 1 by omega];exact j
  refine fO 74 [(3,27,[15,16,17,18,19,20,21,22,23,24,25,26,27,28,29,30,31,32,33,34,35,36,37,38,39,40,41]),(7,6,[52,53,54,55,56,57]),(9,268,[61,62,63,64,65,66,67,69,70,71,72,73,0,1,2,3,4,5,6,8,9,10,11,12,7,1008,1009,1010,1011,1012,13,14])] Tryz.func514 rfl ?_ (.inr g)
  repeat'(first|refine gE ?_|(conv=>whnf);first|with_reducible refine Bf.D (λe=>?_) (λe=>?_)|refine CC ?_|refine C9 (w) ?_|refine C9 (l) ?_|refine C9 (n) ?_|refine C9 (o) ?_|refine CO ω (aa d) ?_|refine Ap.sm (aV λ_=>rfl) rfl (by simp;omega) (by decide) (iW (aR.enc .own) q.a6 a) ?_)
  (conv=>whnf)
  refine Lp.fz 8 (ι:=Nat) (λk=>[(2,.H .box (bQ.enc .V q)),(4,.H .box [I 0,.z]),(8,.H .one (cY .V (q.a6++[a]))),(9,.H .one [I (k:Nat)])]) (λk=>k<=oQ q.b7 (q.a6++[a])) (λk=>oQ q.b7 (q.a6++[a]) - k) 0 ?_ (X0 _) λk M=>?_
  ·(repeat'(first|exact trivial|rfl|exact CM rfl (show P9 (dE (cY .own (q.a6++[a]))) (cY .V (q.a6++[a])) by rw[FC];exact nk _)|refine CM ?_ ?_))
  have N:(q.a6++[a]).length=q.a6.length+1:=by simp
  have F:((q.a6++[a]).drop k).length<=5000:=by rw[Z3];omega
  have G:((q.a6++[a]).take k).length<=5000:=by rw[C2];omega
  have p:=vm ((q.a6++[a]).drop k) ⟨ω,λ_ _=>trivial⟩;by_cases H:k<oQ q.b7 (q.a6++[a])
  ·have J:q.b7<quarCells ((q.a6++[a]).drop k) ((q.a6++[a]).drop k).length:=Bh H
   repeat'(first|refine gE ?_|(conv=>whnf);first|refine CC ?_|refine Sl.suf k rfl (by rw[I1];omega) (aV λ_=>rfl) X4 ?_|refine C9 (p) ?_|refine CC ?_)
   ((conv=>whnf);refine CF (k+1) ω ω ?_;(exact wB))
  obtain rfl:k=oQ q.b7 (q.a6++[a]):=ω
  have J:quarCells ((q.a6++[a]).drop (oQ q.b7 (q.a6++[a]))) ((q.a6++[a]).drop (oQ q.b7 (q.a6++[a]))).length<=q.b7:=D9 C.1 _
  repeat'(first|refine gE ?_|(conv=>whnf);first|refine CC ?_|refine Sl.suf (oQ q.b7 (q.a6++[a])) rfl (by rw[I1];omega) (aV λ_=>rfl) X4 ?_|refine CY (oQ q.b7 (q.a6++[a])) rfl (by rw[I1];omega) (aV λ_=>rfl) W4 ?_|refine C9 (p) ?_|refine CC ?_|refine CX (λ_=>rfl) (λ_=>rfl) ω (by decide) ?_|refine CS (λ_=>rfl) (λ_=>rfl) ω (by decide) ?_)
  rfl
end Go.Proofs.YtiopgblagimpmaaGreat.Ab
