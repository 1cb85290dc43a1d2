/- The library's Sort of numbers, on data of the call's own. No condition. -/
import Derived.Test.YtiopgblagimpmaaGreatKyc
import Derived.Test.YtiopgblagimpmaaGreatKyd
import Derived.Test.YtiopgblagimpmaaGreatKyShelf
import Derived.WalkKit
import Derived.Lib.SliceRun
set_option linter.unusedVariables false
set_option linter.defProp false
set_option linter.unusedSimpArgs false
set_option linter.constructorNameAsVariable false
namespace Go.Proofs.YtiopgblagimpmaaGreat.Ab
open Go.RowKit
set_option maxRecDepth 20000
set_option maxHeartbeats 4000000
def sorted(xs:List Int):List Int:=xs.mergeSort λx y=>decide (x<=y)
theorem yg(xs:List Int):(sorted xs).length=xs.length:=List.length_mergeSort ..
variable{n:Nat}
theorem Hv{w a:World}{g:Nat}{d:Array Int}{h:Array Obj}{c:Array Value}{e:TypeId}{i:Nat × Nat}(j:w.heap[g]? = some (.cells c e i))(k:a=Sort.grow (Sort.putRow (Value.int .i64) (Sort.ahead w n) g 0 d) h) :
  a.os=w.os/\a.tape=w.tape/\a.output=w.output/\w.heap.size<=a.heap.size/\(∀b,b<w.heap.size->b≠g->a.heap[b]? = w.heap[b]?)/\a.heap[g]? = some (.cells (Sort.putCells (Value.int .i64) 0 d c) e i):=by
 subst k;have f:g<w.heap.size:=ψ
 have l:∀b,b<w.heap.size->(Sort.grow (Sort.putRow (Value.int .i64) (Sort.ahead w n) g 0 d) h).heap[b]? = if g=b then(w.heap[b]?).map (Sort.onCells (Sort.putCells (Value.int .i64) 0 d)) else w.heap[b]?:=λb o=>by grind [Go.Sort.heap_grow_old,Go.Sort.putRow,Go.Sort.mapBlock,Go.Sort.ahead]
 refine⟨rfl,rfl,rfl,?_,λb o p=>?_,?_⟩
 ·grind
 ·grind
 rw[l g f,CD rfl,j];rfl
theorem QS(d:Array Int)(c:Array Value)(q:Nat):(Sort.putCells (Value.int .i64) 0 d c)[q]? = if q<d.size then(c[q]?).map (λ_=>.int .i64 d[q]!) else c[q]?:=by grind [Go.Sort.putCells]
theorem row1{w:World}{S Y:am}{c:C}{v:Value}(h:dJ w S Y c v):cP w S Y [c] (λ_=>v):=by
 refine⟨λ_=>Y,λj a b=>?_,λ_ _ _ _ h=>h,ψ⟩
 all_goals grind
def Vi(Y:am):Nat->am
 | 0=>Y
 | _+1=>NO
variable{j:Nat}
theorem N3(xs:List Int)(a:j<xs.length):xs.toArray[j]! = xs[j]:=ψ
theorem Rx(xs:List Int)(hl:xs.length<=1048576*64):zzB 383 false [.mut none (aH .own xs)] [.mut none (aH .own (sorted xs))] (.tup []) []:=by
 refine⟨⟨_,Tryz.func383,by kernel_rfl,by kernel_rfl⟩,λw S V vs hS hV hVV N=>?_⟩
 match vs,N with
 | [v],⟨N,_⟩=>
  have t:=bC.rep1 (show bC w S (V 0) none [C.s .own (xs.map (rI .own))] v from N);generalize F:C.s .own (xs.map (rI .own))=cc at t;cases t with
  | nil _ o a ho=>
   cases hcc0:xs with
   | cons x xs'=>grind
   | nil=>
    refine(Tryz.slices_Sort_int_none a 0 w).mono λe p ⟨O,B⟩=>?_
    subst B;refine⟨.tuple #[],O,Cc _ _,NO,λ_=>NO,NO,λ_ _ h=>h.elim,λ_ _ _ h=>h.elim,λ_ _ h=>h.elim,λ_ _ _ _ _ h=>h.elim,λ_ _ _ h=>h.elim,λ_ _ h=>h.elim,λ_ _ _ h=>h.elim,⟨#[],rfl,trivial,rfl⟩,cP.nil _ _ _ _,⟨⟨rfl,λ_=>.slice a 0 0,rfl,row1 (by rw[show sorted []=[] from List.mergeSort_nil ..];exact .nil _ .own _ trivial)⟩,trivial⟩⟩
  | own _ o g k n D rows u f ho hn hk G H hF hu hf hd hc=>
   cases F;have P:n=xs.length:=ψ
   have Q:0<xs.length:=ω
   have R:k=1:=by
    have:=hk (rI .own xs[0]) ψ;exact this.symm
   subst R P;have y:∀j (l:j<xs.length),cel w g j=some (.int .i64 xs[j]):=λj l=>by
    have h1:=hu j ω;have T:=hc j 0 (rI .own xs[j]) (I xs[j]) ψ rfl;rw[Nat.mul_one,Nat.add_zero]at T;rw[h1];generalize u j=z at T;cases T
    rfl
   have U:g<w.heap.size:=ψ
   obtain⟨c,e0,fr,hg,-⟩:=Sort.cells_of_cell? (y 0 Q);have hH:Sort.Holds (Value.int .i64) w g 0 xs.toArray:=λj l=>by
    have J:j<xs.length:=by simpa using l
    refine⟨?_,?_⟩
    ·rw[N3 xs J,X7];exact y j J
    rw[X7];exact Z0 Prod.fst (hF j ω).2.2
   refine(Tryz.slices_Sort_int g 0 D xs w hH U ω).mono λe p ⟨O,m,os,B⟩=>?_
   obtain⟨q1,q2,q3,q4,q5,q6⟩:=Hv hg B;have hsl:=yg xs;have hcel:∀q,cel w g q=c[q]?:=λq=>by grind [Go.World.cell?]
   have W:∀q,cel p g q=if q<xs.length then(c[q]?).map (λ_=>.int .i64 (sorted xs).toArray[q]!) else c[q]?:=λq=>by grind [QS,Go.World.cell?,sorted]
   have d:∀q (X:q<xs.length),cel p g q=some (.int .i64 ((sorted xs)[q]'(ω))):=ψ
   have K:∀q,fro p g q=fro w g q:=λq=>by
    refine Prod.ext ?_ ?_
    ·grind [Go.World.frozen?]
    grind [mp,Go.Sort.putCells]
   have hother:∀b,b<w.heap.size->b≠g->∀o,cel p b o=cel w b o/\fro p b o=fro w b o:=λb hb L o=>by grind [Go.World.cell?,Go.World.frozen?,mp]
   have E:bz (λb o=>∃i,V i b o) w p:=by
    refine⟨q1,q2,q3,q4,ψ,λb o hb hn=>?_,λb o hb hn=>?_⟩
    all_goals grind
   refine⟨.tuple #[],O,E,NO,Vi (V 0),NO,λ_ _ h=>h.elim,λi b o h=>?_,λ_ _ h=>h.elim,λi i' L b o h h'=>?_,λ_ _ _ h=>h.elim,λ_ _ h=>h.elim,λ_ _ _ _ h=>h.elim,⟨#[],rfl,trivial,rfl⟩,cP.nil _ _ _ _,⟨⟨rfl,λ_=>.slice (some ⟨g,0,none⟩) xs.length D,rfl,row1 ?_⟩,trivial⟩⟩
   ·cases i with
    | zero=>exact .inl ⟨0,h⟩
    | succ i=>exact h.elim
   ·cases i with
    | zero=>
     cases i' with
     | zero=>exact L rfl
     | succ i'=>exact h'.elim
    | succ i=>exact h.elim
   show dJ p _ (V 0) _ _;refine .own _ .own g 1 xs.length D _ (λq=>(cel p g q).getD undef) (λ_=>NO) trivial ψ (λr hr=>by obtain⟨z,-,rfl⟩:=Y4.1 hr;rfl) G H (λq X=>?_) (λq X=>?_) (λ_ _ _ _ h=>h.elim) (λ_ _ _ _ _ _ _ h=>h.elim) (λi j r c2 M l=>?_)
   ·obtain⟨a1,⟨z,a2,a3⟩,a4⟩:=hF q X
    refine⟨a1,?_,(K q).trans a4⟩;by_cases Y:q<xs.length
    ·exact⟨_,d q Y,rfl⟩
    grind
   ·grind
   rw[X3]at M;have Z:i<(sorted xs).length:=ψ
   rw[X2 Z]at M;simp only[Y5,C1]at M;subst M
   match j,l with
   | 0,l=>
    simp only[rI,List.getElem?_cons_zero,C1]at l;subst l;simp only[Nat.mul_one,Nat.add_zero,d i ω,Option.getD_some];exact .v _ _ rfl
   | j+1,l=>simp[rI]at l
  | _=>cases F
set_option maxHeartbeats 8000000
def k7(s:aA)(k:Nat):Int:=16*s.R+(k:Nat)*csz s.d
def eL(s:aA)(n:Nat):List Int:=((List.range n).filter λk=>bc s.a9 (k:Nat)).map (k7 s)
variable{s:aA}
theorem Ep(h:bc s.a9 (n:Nat)=true):eL s (n+1)=eL s n++[k7 s n]:=by grind [List.range_succ,eL]
theorem Fc(h:bc s.a9 (n:Nat)=false):eL s (n+1)=eL s n:=by grind [List.range_succ,eL]
theorem sM(s:aA)(n:Nat):(eL s n).length<=n:=by grind [eL]
def fT(sp:List aA):List Int:=sp.flatMap λs=>eL s (slots s.d).toNat
def live0(sp:List aA)(la:List aF):List Int:=fT sp++la.map λl=>16*l.R
def oQ(sp:List aA)(la:List aF):List Int:=sorted (live0 sp la)
theorem tg(k:Int):0<=slots k/\slots k<=16:=by grind [slots]
def AN{k:Int}(h:0<=k/\k<=3):slots k*csz k=16:=by
 obtain rfl|rfl|rfl|rfl:k=0\/k=1\/k=2\/k=3:=ω
 all_goals decide
variable{i:Nat}{sp:List aA}
theorem zn(h:sp[i]? = some s):fT (sp.take (i+1))=fT (sp.take i)++eL s (slots s.d).toNat:=by grind [I6,fT]
def rq(s:aA)(k:Nat)(a:bi s=true)(i:(k:Int)<slots s.d):zzA 339 false [.val (some 3) (aA.enc .V s),.val none [I (k:Nat)]] .one [I (k7 s k)]:=by
 have b:=ko s;have c:=fQ s.d;have g:=gh s.d;rw[a]at b;have d:=aI a;have j:=tg s.d;rcases cg ⟨d.2.2.1,d.2.2.2⟩ with e|e|e|e<;>rw[e]at c
 all_goals
  refine fO 26 [(3,9,[17,18,19,20,21,22,23,24,25])] Tryz.func339 rfl ?_
  repeat'(first|refine gE ?_|(conv=>whnf);first|with_reducible refine Bf.D (λh=>?_) (λh=>?_)|refine C9 b ?_|refine C9 c ?_|refine C9 g ?_|refine C9 (aO _ 0 _) ?_)
  all_goals exact Z0 (λz=>[I z]) (by unfold k7;rw[e];omega)
theorem x7(sp:List aA)(la:List aF)(c:dC sp)(d:dS la)(a:bq sp la=true):zzA 238 false [.val none (cF .V sp),.val none (cA .V la)] .one (aH .own (oQ sp la)):=by
 have D:=c.1;have E:=d.1;have B:=qU sp la c d;rw[a]at B;obtain⟨o,F,-⟩:=eA a;refine fP 56 [(383,[1])] [] Tryz.func238 rfl ?_ (.inr (bT _))
 repeat'(first|refine gP ?_|(conv=>whnf);first|refine C9 B ?_)
 (conv=>whnf)
 refine CJ (ι:=Nat × List Int) (λi=>[(1,.H .one (cA .V la)),(5,.H .one (aH .own i.2)),(16,.H .one (cF .V sp)),(17,.H .one [I (sp.length)]),(18,.H .one [I ((i.1:Nat):Int)])]) (λi=>i.1<=sp.length/\i.2=fT (sp.take i.1)/\i.2.length<=16*i.1) (λi=>sp.length - i.1) ((0,[])) ?_ (⟨X0 _,rfl,X0 _⟩) λi e=>?_
 ·exact wB
 obtain⟨i,S⟩:=i;obtain⟨e,p,G⟩:=e;simp only at e p G |-;by_cases j:i<sp.length
 ·have n:=au j
  have g:bi (nth sp i)=true:=R5 o j;have H:=tg (nth sp i).d;have q:=fY g
  repeat'(first|refine gE ?_|(conv=>whnf);first|with_reducible refine CE (aa n) ?_)
  (conv=>whnf)
  refine CJ (ι:=Nat × List Int) (λk=>[(1,.H .one (cA .V la)),(5,.H .one (aH .own k.2)),(7,.H .box (aA.enc .V (nth sp i))),(8,.H .one [I ((k.1:Nat):Int)]),(16,.H .one (cF .V sp)),(17,.H .one [I (sp.length)]),(18,.H .one [I ((i:Nat):Int)])]) (λk=>k.1<=(slots (nth sp i).d).toNat/\k.2=S++eL (nth sp i) k.1) (λk=>(slots (nth sp i).d).toNat - k.1) ((0,S)) ?_ (⟨X0 _,by simp[eL]⟩) λk t=>?_
  ·exact wB
  obtain⟨k,S2⟩:=k;obtain⟨t,b⟩:=t;simp only at t b |-;have J:=sM (nth sp i) k;have h:S2.length=S.length+(eL (nth sp i) k).length:=ψ
  by_cases M:k<(slots (nth sp i).d).toNat
  ·have u:=ov (nth sp i).a9 (k:Nat) q.2
   cases K:bc (nth sp i).a9 (k:Nat)<;>rw[K]at u
   ·repeat'(first|refine gE ?_|(conv=>whnf);first|refine C9 (gh _) ?_|refine C9 u ?_)
    ((conv=>whnf);refine CF (k+1,S2) ⟨(by simp only;omega),(by grind [Fc])⟩ (by simp only;omega) ?_;(exact wB))
   repeat'(first|refine gE ?_|(conv=>whnf);first|refine C9 (gh _) ?_|refine C9 u ?_|refine C9 (rq (nth sp i) k g ω) ?_|refine CU cS (λr w=>by rw[V1.1 w];rfl) (by simp[bk,eD]) (by simp;omega) (by show _*8<=_;simp;omega) rfl ?_)
   ((conv=>whnf)
    refine CF (k+1,S2++[k7 (nth sp i) k]) ⟨(by simp only;omega),(by grind [Ep])⟩ (by simp only;omega) ?_
    (repeat'(first|exact trivial|rfl|exact CM rfl (CM (Z0 (C.s dY.own) (by simp[rI])) trivial)|refine CM ?_ ?_)))
  obtain rfl:k=(slots (nth sp i).d).toNat:=ω
  repeat'(first|refine gE ?_|(conv=>whnf);first|refine C9 (gh _) ?_)
  ((conv=>whnf);refine CF (i+1,S2) ⟨(by simp only;omega),(by grind [zn]),(by simp only;omega)⟩ (by simp only;omega) ?_;(exact wB))
 obtain rfl:i=sp.length:=ω
 rw[X5]at p
 repeat'(first|refine gE ?_|fail)
 (conv=>whnf)
 refine CJ (ι:=Nat × List Int) (λi=>[(5,.H .one (aH .own i.2)),(40,.H .one (cA .V la)),(41,.H .one [I (la.length)]),(42,.H .one [I ((i.1:Nat):Int)])]) (λi=>i.1<=la.length/\i.2=S++(la.take i.1).map (λl=>16*l.R)) (λi=>la.length - i.1) ((0,S)) ?_ ψ λi e=>?_
 ·exact wB
 obtain⟨i,S2⟩:=i;obtain⟨y,b⟩:=e;simp only at y b |-;have h:S2.length=S.length+i:=ψ
 by_cases j:i<la.length
 ·have n:=au j
  have L:=vz a n
  repeat'(first|refine gE ?_|(conv=>whnf);first|with_reducible refine CE (aa n) ?_|refine CU cS (λr w=>by rw[V1.1 w];rfl) (by simp[bk,eD]) (by simp;omega) (by show _*8<=_;simp;omega) rfl ?_)
  ((conv=>whnf)
   refine CF (i+1,S2++[16*(nth la i).R]) ⟨(by simp only;omega),(by grind [I6])⟩ (by simp only;omega) ?_
   (repeat'(first|exact trivial|rfl|exact CM rfl (CM (Z0 (C.s dY.own) (by simp[rI];omega)) trivial)|refine CM ?_ ?_)))
 obtain rfl:i=la.length:=ω
 rw[X5]at b
 repeat'(first|refine gE ?_|(conv=>whnf);first|refine CL (Rx S2 ω) (.inl rfl) ?_)
 show _=aH .own (sorted (fT sp++la.map λl=>16*l.R));rw[<-p,<-b];rfl
def rr(b:List (Int × Value))(L:List Int):Prop:=∀a,mlook b a (.int .i64 0)=.int .i64 (L.count a:Nat)
theorem Ls(c:List (Int × Value))(a b:Int)(v d:Value):mlook (mput c a v) b d=if a=b then v else mlook c b d:=by
 induction c with
 | nil=>grind [mput,mlook]
 | cons p c e=>
  grind [mput,mlook]
def inc(b:List (Int × Value))(L:List Int)(a:Int):List (Int × Value):=mput b a (.int .i64 ((L.count a:Nat)+1))
def Me:rr [] []:=λ_=>rfl
theorem qx{d:List (Int × Value)}{L:List Int}(h:rr d L)(a:Int):rr (inc d L a) (L++[a]):=λb=>by
 unfold inc;rw[Ls,Y6];by_cases c:a=b
 ·grind
 rw[CB c,h b,List.count_singleton,CB (by simpa using c)];rfl
theorem Dh(h:ac)(d:dC h.K)(e:dS h.M)(b:List (Int × Value))(L:List Int)(a c:Int)(g:rr b L)(n:L.length<=1000000000) :
  zzB 236 false [.val none [I a],.val none [I c],.ptr [.m b],.ptr (ac.enc .V h)] [.val none [I a],.val none [I c],.ptr [.m (inc b L a)],.ptr (ac.enc .V h)] .one [B (d3 h a c)]:=by
 have k:=tC h.K h.M a d e;obtain⟨i,-⟩:=nN h.K h.M a;have l:L.count a<=L.length:=List.count_le_length;unfold d3;generalize denotes h.K h.M a=w at k i |-;refine fM 41 [] [] [(0,0),(0,0),(0,0),(0,0)] Tryz.func236 rfl (λu q=>?_)
 repeat'(first|refine gP ?_|(conv=>whnf);first|with_reducible (first|refine Bf.D (λj=>?_) (λj=>?_)|refine Bf.E (λj=>?_) (λj=>?_))|refine Ml.mk (g a) ?_|refine Mu.mk (es':=inc b L a) rfl ?_|refine C9 k ?_|refine CO (i (by assumption)).1 (aa (au (i (by assumption)).2)) ?_)
 all_goals
  refine CH rfl ?_ ?_
  ·exact Z0 (λz=>[B z]) (ψ)
  exact wB
set_option maxHeartbeats 8000000
def ul(h:ac)(a:aV):Bool:=iu h a&&decide (a.b7<=h.b2)
def nC(h:ac):List Int:=((cJ h++h.a7.a6.map (·.Addr))++aR h.y)++h.O.map (·.Addr)
def kD(h:ac):Bool:=((h.S.all (fp h)&&h.a7.a6.all (ul h))&&(aR h.y).all (kZ h))&&(oQ h.K h.M).all λa=>decide ((nC h).count a=1)
variable{h:ac}
theorem RI(h1:h.S.all (fp h)=false):kD h=false:=by grind [kD]
theorem Ki(h1:h.a7.a6.all (ul h)=false):kD h=false:=by grind [kD]
theorem QZ(h1:(aR h.y).all (kZ h)=false):kD h=false:=by grind [kD]
theorem QK(h1:((oQ h.K h.M).all λa=>decide ((nC h).count a=1))=false):kD h=false:=by grind [kD]
variable{la:List aF}
theorem LX(h1:sp.length<=1048576)(a:la.length<=1048576):(oQ sp la).length<=100000000:=by
 have b:∀(l:List aA),(fT l).length<=16*l.length:=by
  intro l
  induction l with
  | nil=>exact X0 _
  | cons s l c=>
   have e:fT (s::l)=eL s (slots s.d).toNat++fT l:=by grind [fT]
   have d:=tg s.d
   grind [sM]
 grind [yg,oQ,live0]
theorem yI(h:ac)(hs:ac.sml h)(P:bq h.K h.M=true)(G:bQ h.y=true)(Z:∀c∈h.S,bx c=true):zzA 82 false [.val (some 24) (ac.enc .V h)] .one [B (kD h)]:=by
 obtain⟨-,-,p,r,hso,hsc,hsm,hsq,-⟩:=hs;have hlo:h.O.length<=1048576:=hso.1;have hlc:h.S.length<=1048576:=hsc.1;have hlq:h.a7.a6.length<=1048576:=hsq.1;have hfl:=tY G;have t:kD h=false->[B false]=[B (kD h)]:=λe=>by rw[e]
 refine fP 114 [(236,[0,0,2,2])] [] Tryz.func82 rfl ?_
 repeat'(first|refine gP ?_|fail)
 (conv=>whnf)
 refine CJ (ι:=Nat × List (Int × Value) × List Int) (λi=>[(1,.H .box (ac.enc .V h)),(3,.H .box [.m i.2.1]),(4,.fn 236 [3,1]),(22,.H .one (pQ .V h.S)),(23,.H .one [I (h.S.length)]),(24,.H .one [I ((i.1:Nat):Int)])]) (λi=>i.1<=h.S.length/\rr i.2.1 i.2.2/\i.2.2=((h.S.take i.1).flatMap λc=>c.a.flatten)/\(h.S.take i.1).all (fp h)=true/\i.2.2.length<=32*i.1) (λi=>h.S.length - i.1) ((0,[],[])) ?_ (⟨X0 _,Me,rfl,rfl,X0 _⟩) λi hi=>?_
 ·exact wB
 obtain⟨i,es,L⟩:=i;obtain⟨hi,Q,hL,ai,hb⟩:=hi;simp only at hi Q hL ai hb |-;by_cases li:i<h.S.length
 ·have W:=au li
  obtain⟨h4,h8⟩:=vL (Z _ (ar li))
  repeat'(first|refine gE ?_|(conv=>whnf);first|with_reducible refine CE (aa W) ?_)
  (conv=>whnf)
  refine CJ (ι:=Nat × List (Int × Value) × List Int) (λk=>[(1,.H .box (ac.enc .V h)),(3,.H .box [.m k.2.1]),(4,.fn 236 [3,1]),(22,.H .one (pQ .V h.S)),(23,.H .one [I (h.S.length)]),(24,.H .one [I ((i:Nat):Int)]),(29,.H .one (jF .V (nth h.S i).a)),(30,.H .one [I ((nth h.S i).a.length)]),(31,.H .one [I ((k.1:Nat):Int)])]) (λk=>k.1<=(nth h.S i).a.length/\rr k.2.1 k.2.2/\k.2.2=L++((nth h.S i).a.take k.1).flatten/\dh k.1 (tq h (nth h.S i))=true/\k.2.2.length<=L.length+8*k.1) (λk=>(nth h.S i).a.length - k.1) ((0,es,L)) ?_ (⟨X0 _,Q,by simp,rfl,by simp⟩) λk hk=>?_
  ·exact wB
  obtain⟨k,es3,X⟩:=k;obtain⟨hk,F,R,ak,hb3⟩:=hk;simp only at hk F R ak hb3 |-;by_cases lk:k<(nth h.S i).a.length
  ·have hy:=au lk
   have hl8:=h8 _ (ar lk)
   repeat'(first|refine gE ?_|(conv=>whnf);first|with_reducible (first|refine CE (aa W) ?_|refine CE (aa hy) ?_))
   (conv=>whnf)
   refine CJ (ι:=Nat × List (Int × Value) × List Int) (λj=>[(1,.H .box (ac.enc .V h)),(3,.H .box [.m j.2.1]),(4,.fn 236 [3,1]),(7,.H .one [I ((k:Nat):Int)]),(22,.H .one (pQ .V h.S)),(23,.H .one [I (h.S.length)]),(24,.H .one [I ((i:Nat):Int)]),(29,.H .one (jF .V (nth h.S i).a)),(30,.H .one [I ((nth h.S i).a.length)]),(31,.H .one [I ((k:Nat):Int)]),(36,.H .one (aH .V (nth (nth h.S i).a k))),(37,.H .one [I ((nth (nth h.S i).a k).length)]),(38,.H .one [I ((j.1:Nat):Int)])]) (λj=>j.1<=(nth (nth h.S i).a k).length/\rr j.2.1 j.2.2/\j.2.2=X++(nth (nth h.S i).a k).take j.1/\((nth (nth h.S i).a k).take j.1).all (λa=>d3 h a (k:Nat))=true) (λj=>(nth (nth h.S i).a k).length - j.1) ((0,es3,X)) ?_ ψ λj hj=>?_
   ·exact wB
   obtain⟨j,es4,S⟩:=j;obtain⟨hj,l,T,Y⟩:=hj;simp only at hj l T Y |-;have hl4:S.length=X.length+j:=ψ
   by_cases lj:j<(nth (nth h.S i).a k).length
   ·have d:=au lj
    have b:=Dh h p r es4 S (nth (nth (nth h.S i).a k) j) (k:Nat) l ω;cases o:d3 h (nth (nth (nth h.S i).a k) j) (k:Nat)<;>rw[o]at b
    ·repeat'(first|refine gE ?_|(conv=>whnf);first|with_reducible refine CE (aa d) ?_|refine CL (b) (.inl rfl) ?_)
     exact t (RI (gN W (by unfold fp;exact cG lk (gN d o))))
    repeat'(first|refine gE ?_|(conv=>whnf);first|with_reducible refine CE (aa d) ?_|refine CL (b) (.inl rfl) ?_)
    ((conv=>whnf)
     refine CF (j+1,inc es4 S (nth (nth (nth h.S i).a k) j),S++[nth (nth (nth h.S i).a k) j]) ⟨(by simp only;omega),qx l _,(by grind [I6]),cX d Y o⟩ (by simp only;omega) ?_
     (exact wA))
   obtain rfl:j=(nth (nth h.S i).a k).length:=ω
   rw[X5]at T Y
   repeat'(first|refine gE ?_|fail)
   ((conv=>whnf);refine CF (k+1,es4,S) ⟨(by simp only;omega),l,(by grind [xK]),bW ak Y,(by simp only;omega)⟩ (by simp only;omega) ?_;(exact wB))
  obtain rfl:k=(nth h.S i).a.length:=ω
  rw[X5]at R
  repeat'(first|refine gE ?_|fail)
  ((conv=>whnf);refine CF (i+1,es3,X) ⟨(by simp only;omega),F,(by grind [vJ]),cX W ai ak,(by simp only;omega)⟩ (by simp only;omega) ?_;(exact wB))
 obtain rfl:i=h.S.length:=ω
 rw[X5]at hL ai
 repeat'(first|refine gE ?_|fail)
 (conv=>whnf)
 refine CJ (ι:=Nat × List (Int × Value) × List Int) (λq=>[(1,.H .box (ac.enc .V h)),(3,.H .box [.m q.2.1]),(4,.fn 236 [3,1]),(52,.H .one (cY .V h.a7.a6)),(53,.H .one [I (h.a7.a6.length)]),(54,.H .one [I ((q.1:Nat):Int)])]) (λq=>q.1<=h.a7.a6.length/\rr q.2.1 q.2.2/\q.2.2=L++(h.a7.a6.take q.1).map (·.Addr)/\(h.a7.a6.take q.1).all (ul h)=true) (λq=>h.a7.a6.length - q.1) ((0,es,L)) ?_ ψ λq u=>?_
 ·exact wB
 obtain⟨q,es5,H⟩:=q;obtain⟨w,y,E,aq⟩:=u;simp only at w y E aq |-;have hl5:H.length=L.length+q:=ψ
 by_cases U:q<h.a7.a6.length
 ·have d:=au U
  have b:=Dh h p r es5 H (nth h.a7.a6 q).Addr (nth h.a7.a6 q).d y ω;cases o:d3 h (nth h.a7.a6 q).Addr (nth h.a7.a6 q).d<;>rw[o]at b
  ·repeat'(first|refine gE ?_|(conv=>whnf);first|with_reducible (first|refine CE (aa d) ?_|refine Bf.D (λu=>?_) (λu=>?_))|refine CL (b) (.inl rfl) ?_)
   all_goals exact t (Ki (gN d (by unfold ul iu;rw[o];rfl)))
  repeat'(first|refine gE ?_|(conv=>whnf);first|with_reducible (first|refine CE (aa d) ?_|refine Bf.D (λu=>?_) (λu=>?_))|refine CL (b) (.inl rfl) ?_)
  all_goals first
   |exact t (Ki (gN d (by unfold ul iu;rw[o,W0 ω];rfl)))
   | ((conv=>whnf)
      refine CF (q+1,inc es5 H (nth h.a7.a6 q).Addr,H++[(nth h.a7.a6 q).Addr]) ⟨(by simp only;omega),qx y _,(by simp only;rw[E,I6,d,V6,O6];rfl),cX d aq (by unfold ul iu;rw[o,O0 ω];rfl)⟩ (by simp only;omega) ?_
      (exact wA))
 obtain rfl:q=h.a7.a6.length:=ω
 rw[X5]at E aq
 repeat'(first|refine gE ?_|(conv=>whnf);first|refine C9 (Ay h.y hsm) ?_)
 (conv=>whnf)
 refine CJ (ι:=Nat × List (Int × Value) × List Int) (λq=>[(1,.H .box (ac.enc .V h)),(3,.H .box [.m q.2.1]),(4,.fn 236 [3,1]),(75,.H .one (aH .own (aR h.y))),(76,.H .one [I ((aR h.y).length)]),(77,.H .one [I ((q.1:Nat):Int)])]) (λq=>q.1<=(aR h.y).length/\rr q.2.1 q.2.2/\q.2.2=H++(aR h.y).take q.1/\((aR h.y).take q.1).all (kZ h)=true) (λq=>(aR h.y).length - q.1) ((0,es5,H)) ?_ ψ λq u=>?_
 ·exact wB
 obtain⟨q,es6,J⟩:=q;obtain⟨w,C,K,aq6⟩:=u;simp only at w C K aq6 |-;have hl6:J.length=H.length+q:=ψ
 by_cases U:q<(aR h.y).length
 ·have d:=au U
  have b:=Dh h p r es6 J (nth (aR h.y) q) (-1) C ω;cases o:d3 h (nth (aR h.y) q) (-1)<;>rw[o]at b
  ·repeat'(first|refine gE ?_|(conv=>whnf);first|with_reducible refine CE (aa d) ?_|refine CK rfl (aa d) rfl ?_|refine CL (b) (.inl rfl) ?_)
   exact t (QZ (gN d o))
  repeat'(first|refine gE ?_|(conv=>whnf);first|with_reducible refine CE (aa d) ?_|refine CK rfl (aa d) rfl ?_|refine CL (b) (.inl rfl) ?_)
  ((conv=>whnf)
   refine CF (q+1,inc es6 J (nth (aR h.y) q),J++[nth (aR h.y) q]) ⟨(by simp only;omega),qx C _,(by grind [I6]),cX d aq6 o⟩ (by simp only;omega) ?_
   (exact wA))
 obtain rfl:q=(aR h.y).length:=ω
 rw[X5]at K aq6
 repeat'(first|refine gE ?_|fail)
 (conv=>whnf)
 refine CJ (ι:=Nat × List (Int × Value) × List Int) (λq=>[(1,.H .box (ac.enc .V h)),(3,.H .box [.m q.2.1]),(87,.H .one (nL .V h.O)),(88,.H .one [I (h.O.length)]),(89,.H .one [I ((q.1:Nat):Int)])]) (λq=>q.1<=h.O.length/\rr q.2.1 q.2.2/\q.2.2=J++(h.O.take q.1).map (·.Addr)) (λq=>h.O.length - q.1) ((0,es6,J)) ?_ ψ λq u=>?_
 ·exact wB
 obtain⟨q,es7,M⟩:=q;obtain⟨w,g,O⟩:=u;simp only at w g O |-;have hl7:M.length=J.length+q:=ψ
 by_cases U:q<h.O.length
 ·have d:=au U
  have hcl:M.count (nth h.O q).Addr<=M.length:=List.count_le_length
  repeat'(first|refine gE ?_|(conv=>whnf);first|with_reducible refine CE (aa d) ?_|refine Ml.mk (g _) ?_|refine Mu.mk (es':=inc es7 M (nth h.O q).Addr) rfl ?_)
  ((conv=>whnf)
   refine CF (q+1,inc es7 M (nth h.O q).Addr,M++[(nth h.O q).Addr]) ⟨(by simp only;omega),qx g _,(by grind [I6])⟩ (by simp only;omega) ?_
   (exact wA))
 obtain rfl:q=h.O.length:=ω
 rw[X5]at O;have V:M=nC h:=by rw[O,K,E,hL];rfl
 have hlv:=LX p.1 r.1
 repeat'(first|refine gE ?_|(conv=>whnf);first|refine C9 (x7 h.K h.M p r P) ?_)
 (conv=>whnf)
 refine CJ (ι:=Nat) (λn=>[(3,.H .box [.m es7]),(103,.H .one (aH .own (oQ h.K h.M))),(104,.H .one [I ((oQ h.K h.M).length)]),(105,.H .one [I ((n:Nat):Int)])]) (λn=>n<=(oQ h.K h.M).length/\((oQ h.K h.M).take n).all (λa=>decide ((nC h).count a=1))=true) (λn=>(oQ h.K h.M).length - n) (0) ?_ ψ λn hn=>?_
 ·exact wB
 obtain⟨hn,an⟩:=hn;by_cases ln:n<(oQ h.K h.M).length
 ·have d:=au ln
  rw[V]at g
  repeat'(first|refine gE ?_|(conv=>whnf);first|with_reducible (first|refine CE (aa d) ?_|refine Bf.N (λu=>?_) (λu=>?_))|refine CK rfl (aa d) rfl ?_|refine Ml.mk (g _) ?_)
  all_goals first
   |exact t (QK (gN d (W0 ω)))
   | ((conv=>whnf);refine CF (n+1) ⟨ω,cX d an (O0 ω)⟩ ω ?_;(exact wB))
 repeat'(first|refine gE ?_|fail)
 exact Z0 (λz=>[B z]) ((by grind [kD]))
set_option maxHeartbeats 8000000
def kh(h:ac):Bool:=(((((((aC h.G&&bG (eU h) h.j)&&bq h.K h.M)&&(pages0 h&&pW h))&&du h)&&h.S.all bx)&&(gj h&&kD h))&&cq h)&&tF h
theorem kn(h:ac)(S:ac.sml h):zzA 23 false [.val (some 24) (ac.enc .V h)] .one [B (kh h)]:=by
 have G:=S;obtain⟨n,o,b,g,H,p,q,J,r⟩:=S;have u:zo h:=n.1.2;have hpn:eU h<=1048576:=u.1;have K:h.O.length<=1048576:=H.1;have L:h.S.length<=1048576:=p.1;have hlb:h.y.U.length<=1048576:=q.1.1;have hlp:h.Z.X.T.length<=1048576:=r;have d:=jR h.G n;have e:=qZ (eU h) h.j ω o;have i:=qU h.K h.M b g;have w:=wc h.y q;have M:=GV h.a7 J;cases T:aC h.G<;>rw[T]at d
 ·refine fO 154 [] Tryz.func23 rfl ?_
  repeat'(first|refine gP ?_|(conv=>whnf);first|with_reducible refine Bf.N (λa=>?_) (λa=>?_)|refine C9 d ?_)
  all_goals first
   | exact Z0 (λz=>[B z]) ((by unfold kh ;rw[T];simp))
   |(exfalso;omega)
 cases U:bG (eU h) h.j<;>rw[U]at e
 ·refine fO 154 [] Tryz.func23 rfl ?_
  repeat'(first|refine gP ?_|(conv=>whnf);first|with_reducible refine Bf.N (λa=>?_) (λa=>?_)|refine C9 d ?_|refine C9 e ?_)
  all_goals first
   | exact Z0 (λz=>[B z]) ((by unfold kh ;rw[U];simp))
   |(exfalso;omega)
 cases F:bq h.K h.M<;>rw[F]at i
 ·refine fO 154 [] Tryz.func23 rfl ?_
  repeat'(first|refine gP ?_|(conv=>whnf);first|with_reducible refine Bf.N (λa=>?_) (λa=>?_)|refine C9 d ?_|refine C9 e ?_|refine C9 i ?_)
  all_goals first
   | exact Z0 (λz=>[B z]) ((by unfold kh ;rw[F];simp))
   |(exfalso;omega)
 have j:=Dp h b g u o F;cases V:(pages0 h&&pW h)<;>rw[V]at j
 ·refine fO 154 [] Tryz.func23 rfl ?_
  repeat'(first|refine gP ?_|(conv=>whnf);first|with_reducible refine Bf.N (λa=>?_) (λa=>?_)|refine C9 d ?_|refine C9 e ?_|refine C9 i ?_|refine C9 j ?_)
  all_goals first
   | exact Z0 (λz=>[B z]) ((by unfold kh ;rw[V];simp))
   |(exfalso;omega)
 cases O:bQ h.y<;>rw[O]at w
 ·refine fO 154 [] Tryz.func23 rfl ?_
  repeat'(first|refine gP ?_|(conv=>whnf);first|with_reducible refine Bf.N (λa=>?_) (λa=>?_)|refine C9 d ?_|refine C9 e ?_|refine C9 i ?_|refine C9 j ?_|refine C9 w ?_)
  all_goals first
   | exact Z0 (λz=>[B z]) ((by unfold kh du;rw[O];simp))
   |(exfalso;omega)
 by_cases P:h.S.length=h.y.U.length;rotate_left
 ·refine fO 154 [] Tryz.func23 rfl ?_
  repeat'(first|refine gP ?_|(conv=>whnf);first|with_reducible refine Bf.N (λa=>?_) (λa=>?_)|refine C9 d ?_|refine C9 e ?_|refine C9 i ?_|refine C9 j ?_|refine C9 w ?_)
  all_goals first
   | exact Z0 (λz=>[B z]) ((by unfold kh du;rw[W0 P];simp))
   |(exfalso;omega)
 cases W:gi h.a7<;>rw[W]at M
 ·refine fO 154 [] Tryz.func23 rfl ?_
  repeat'(first|refine gP ?_|(conv=>whnf);first|with_reducible refine Bf.N (λa=>?_) (λa=>?_)|refine C9 d ?_|refine C9 e ?_|refine C9 i ?_|refine C9 j ?_|refine C9 w ?_|refine C9 M ?_)
  all_goals first
   | exact Z0 (λz=>[B z]) ((by unfold kh du;rw[W];simp))
   |(exfalso;omega)
 have hmc:du h=true:=by grind [du]
 refine fO 154 [] Tryz.func23 rfl ?_
 repeat'(first|refine gB ?_|(conv=>whnf);first|with_reducible refine Bf.N (λa=>?_) (λa=>?_)|refine C9 d ?_|refine C9 e ?_|refine C9 i ?_|refine C9 j ?_|refine C9 w ?_|refine C9 M ?_)
 all_goals try(exfalso;omega)
 (conv=>whnf)
 refine CJ (ι:=Nat) (λk=>[(1,.H .box (ac.enc .V h)),(57,.H .one (pQ .V h.S)),(58,.H .one [I (h.S.length)]),(59,.H .one [I ((k:Nat):Int)])]) (λk=>k<=h.S.length/\(h.S.take k).all bx=true) (λk=>h.S.length - k) (0) ?_ ψ λk X=>?_
 ·exact wB
 obtain⟨X,Y⟩:=X;by_cases Z:k<h.S.length
 ·have Q:=au Z
  have R:=sP (nth h.S k) (p.2 _ (ar Z));cases e8:bx (nth h.S k)<;>rw[e8]at R
  ·repeat'(first|refine gE ?_|(conv=>whnf);first|with_reducible refine CE (aa Q) ?_|refine C9 R ?_)
   exact Z0 (λz=>[B z]) ((by grind [kh]))
  repeat'(first|refine gE ?_|(conv=>whnf);first|with_reducible refine CE (aa Q) ?_|refine C9 R ?_)
  ((conv=>whnf);refine CF (k+1) ⟨ω,cX Q Y e8⟩ ω ?_;(exact wB))
 have hca:h.S.all bx=true:=oh ω Y;have l:=Gc h b g K L;have c10:=yI h G F O ψ;have c12:=Hy h.Z r;have c13:=we h h.Z.X.a4 b.1;have c14:=we h h.Z.X.a2 b.1;cases e9:gj h<;>rw[e9]at l
 ·repeat'(first|refine gE ?_|(conv=>whnf);first|refine C9 l ?_)
  all_goals first
   | exact Z0 (λz=>[B z]) ((by unfold kh;rw[e9];simp))
   |(exfalso;omega)
 cases e10:kD h<;>rw[e10]at c10
 ·repeat'(first|refine gE ?_|(conv=>whnf);first|refine C9 l ?_|refine C9 c10 ?_)
  all_goals first
   | exact Z0 (λz=>[B z]) ((by unfold kh;rw[e10];simp))
   |(exfalso;omega)
 by_cases hn:cq h=true;rotate_left
 ·have y:cq h=false:=by simpa using hn
  have c:=y;unfold cq at c;rw[z5]at c
  repeat'(first|refine gE ?_|(conv=>whnf);first|with_reducible refine Bf.D (λa=>?_) (λa=>?_)|refine C9 (aO _ _ _) ?_|refine C9 (pN _) ?_|refine C9 l ?_|refine C9 c10 ?_)
  all_goals first
   | exact Z0 (λz=>[B z]) ((by unfold kh;rw[y];simp))
   |(exfalso;omega)
 have c:=hn;unfold cq at c;rw[C0]at c;have C:kh h=tF h:=by grind [kh]
 rw[C];unfold tF;cases em:h.u
 ·repeat'(first|refine gE ?_|(conv=>whnf);first|with_reducible (first|refine Bf.D (λa=>?_) (λa=>?_)|refine Bf.E (λa=>?_) (λa=>?_))|refine C9 (aO _ _ _) ?_|refine C9 (pN _) ?_|refine C9 l ?_|refine C9 c10 ?_|refine Bf.f em ?_)
  all_goals first
   | exact Z0 (λz=>[B z]) ((by unfold tl;simp only[Bool.false_eq_true,if_false];first|(symm;exact W0 ω)|(rw[C5,beq_iff_eq,C0];omega)))
   |(exfalso;omega)
 cases e12:kj h.Z<;>rw[e12]at c12
 all_goals
  repeat'(first|refine gE ?_|(conv=>whnf);first|with_reducible (first|refine Bf.D (λa=>?_) (λa=>?_)|refine Bf.D (λa=>?_) (λa=>?_))|refine C9 (aO _ _ _) ?_|refine C9 (pN _) ?_|refine C9 l ?_|refine C9 c10 ?_|refine C9 c12 ?_|refine C9 c13 ?_|refine C9 c14 ?_|refine Bf.t em ?_)
  all_goals first
   | exact Z0 (λz=>[B z]) (ψ)
   |(exfalso;omega)
variable{α:Type}
def cQ[Inhabited α]{xs:List α}{f:α->Int}(e:(xs.map f).Nodup)(b:i<xs.length)(c:j<xs.length)(h:f (nth xs i)=f (nth xs j)):i=j:=by
 have d:=List.pairwise_iff_getElem.1 e;rcases Nat.lt_trichotomy i j with a|rfl|a
 ·have:=d i j (by simpa using b) (by simpa using c) a
  simp only[List.getElem_map]at this;rw[bn (X2 b),bn (X2 c)]at h;exact absurd h this
 ·rfl
 have:=d j i (by simpa using c) (by simpa using b) a;simp only[List.getElem_map]at this;rw[bn (X2 b),bn (X2 c)]at h;omega
theorem aQ[Inhabited α]{xs:List α}{x:α}(h:x∈xs):∃i,i<xs.length/\nth xs i=x:=by
 obtain⟨i,a⟩:=List.mem_iff_getElem?.1 h
 grind [bn]
theorem sE:∀{H L:List Int},H.Nodup->(∀x∈H,x∈L)->L.length<=H.length->∀x∈L,x∈H
 | [],L,_,_,b,x,c=>by grind
 | y::H,L,d,f,b,x,c=>by
  have g:y∈L:=ψ
  have a:=List.nodup_cons.1 d;by_cases e:x=y
  ·grind
  refine Z5 _ (sE (L:=L.erase y) a.2 (λz h=>?_) ?_ x ψ)
  all_goals grind
theorem M7{H L:List Int}(b:L.Nodup)(c:∀x∈H,x∈L):(H.Nodup/\H.length=L.length)↔∀a∈L,H.count a=1:=by grind [sE,List.Perm.length_eq]
variable{p:Int}{l:aF}
theorem d4 : p∈lpgs l n↔∃k:Nat,k<n/\p=l.R+(k:Nat):=by grind [lpgs]
structure pf(sp:List aA)(la:List aF):Prop where
 sok:∀s∈sp,bi s=true
 lok:∀l∈la,bR l=true
 nd:(sp.map (·.R)).Nodup
 dis:∀s∈sp,∀l∈la,∀k:Nat,k<l.a3.toNat->s.R≠l.R+(k:Nat)
 one:∀i j,i<la.length->j<la.length->∀k k':Nat,k<(nth la i).a3.toNat->k'<(nth la j).a3.toNat->(nth la i).R+(k:Nat)=(nth la j).R+(k':Nat)->i=j
theorem pf.of(h:bq sp la=true):pf sp la:=by
 obtain⟨B,C,d⟩:=eA h;unfold pgs at d;rw[List.nodup_append]at d;obtain⟨q,r,t⟩:=d;have u:=List.pairwise_flatMap.1 r;refine⟨ψ,ψ,q,λs D l w k c e=>?_,λi j f g k o c a e=>?_⟩
 ·exact t _ ψ _ (List.mem_flatMap.2 ⟨l,w,d4.2 ⟨k,c,rfl⟩⟩) e
 have p:=List.pairwise_iff_getElem.1 u.2;have y:=bn (X2 f);have A:=bn (X2 g);rw[y]at c e;rw[A]at a e;rcases Nat.lt_trichotomy i j with b|n|b
 ·exact absurd e (p i j f g b _ (d4.2 ⟨k,c,rfl⟩) _ (d4.2 ⟨o,a,rfl⟩))
 ·exact n
 exact absurd e.symm (p j i g f b _ (d4.2 ⟨o,a,rfl⟩) _ (d4.2 ⟨k,c,rfl⟩))
variable{a:Int}
theorem gG(b:bi s=true):d7 s a=true↔16*s.R<=a/\a<=16*s.R+15:=by grind [d7]
theorem jU(b:pf sp la)(c:i<sp.length)(h:16*(nth sp i).R<=a/\a<=16*(nth sp i).R+15):denotes sp la a=qK i (nth sp i) a:=by
 refine oD c ((gG (b.sok _ (ar c))).2 h) λj z l k=>?_
 cases e:d7 z a with
 | false=>rfl
 | true=>
  exfalso;have d:=(Z2.1 k).1;have n:=(gG (b.sok z ψ)).1 e;have g:=bn k;subst g;have:=cQ (f:=(·.R)) b.nd c d ω;omega
theorem Tt(b:pf sp la)(h:∀i,i<sp.length->¬(16*(nth sp i).R<=a/\a<=16*(nth sp i).R+15)):∀(j:Nat)(z:aA),j<sp.length->sp[j]? = some z->d7 z a=false:=by grind [gG,pf.sok,bn]
theorem Pb(c:pf sp la)(a:Int):a∈live0 sp la↔a∈ku sp la:=by
 have G:a∈ku sp la↔∃n:Nat,n<512/\kN sp la n=true/\(n:Int)=a:=by grind [ku,m6]
 rw[G];unfold live0 fT;rw[V3,List.mem_flatMap,Y4];constructor
 ·rintro(⟨s,g,C⟩|⟨l,b,rfl⟩)
  ·obtain⟨i,d,rfl⟩:=aQ g
   unfold eL at C;obtain⟨k,H,rfl⟩:=Y4.1 C;obtain⟨h,J⟩:=Z4.1 H;have h:=List.mem_range.1 h;have o:=aI (c.sok _ g);have t:=AN ⟨o.2.2.1,o.2.2.2⟩;have K:=tg (nth sp i).d;unfold k7;have L:0<=(k:Int)*csz (nth sp i).d/\(k:Int)*csz (nth sp i).d<=15:=by grind [cg]
   have f:=jU c d (a:=16*(nth sp i).R+(k:Nat)*csz (nth sp i).d) ω;have O:(16*(nth sp i).R+(k:Nat)*csz (nth sp i).d - 16*(nth sp i).R) / csz (nth sp i).d=(k:Nat)/\(16*(nth sp i).R+(k:Nat)*csz (nth sp i).d - 16*(nth sp i).R) % csz (nth sp i).d=0:=by grind [cg]
   refine⟨(16*(nth sp i).R+(k:Nat)*csz (nth sp i).d).toNat,ω,?_,ω⟩
   grind [kN,qK]
  obtain⟨i,d,rfl⟩:=aQ b;have P:=aT (c.lok _ b);have M:=cV (c.lok _ b);have u:=Tt c (a:=16*(nth la i).R) λj D Q=>c.dis _ (ar D) _ b 0 ω ω
  have E:bS (nth la i) (16*(nth la i).R)=true:=by grind [pf.lok,bS]
  have f:=mW (a:=16*(nth la i).R) (W3 _) u d E λj z D r=>by
   cases e:bS z (16*(nth la i).R) with
   | false=>rfl
   | true=>
    exfalso;have w:=(Z2.1 r).1;have p:=O2 r;have y:=bn r;subst y;have N:=aT (c.lok _ p);have q:=c.lok _ p;unfold bR at q;rw[C0]at q;unfold bS at e;rw[I0,C0]at e;have:=c.one i j d w 0 ((nth la i).R - (nth la j).R).toNat ω ω ω;omega
  refine⟨(16*(nth la i).R).toNat,ω,?_,ω⟩
  grind [kN]
 rintro⟨n,R,b,rfl⟩
 cases u:sp.findIdx? (d7 · (n:Nat)) with
 | some i=>
  obtain⟨d,A,-⟩:=Y7.1 u;have B:=bn (X2 d);rw[<-B]at A;have g:=c.sok _ (ar d);have F:=(gG g).1 A;have o:=aI g;have t:=AN ⟨o.2.2.1,o.2.2.2⟩;have f:denotes sp la (n:Nat)=qK i (nth sp i) (n:Nat):=by grind [denotes]
  rw[tn f]at b;simp only[I0,C7,C0]at b;simp only[qK]at b;cases E:bc (nth sp i).a9 (((n:Int) - 16*(nth sp i).R) / csz (nth sp i).d) with
  | false=>grind
  | true=>
   have r:((n:Int) - 16*(nth sp i).R) % csz (nth sp i).d=0:=b.1;refine .inl ⟨nth sp i,ar d,?_⟩;unfold eL;refine Y4.2 ⟨(((n:Int) - 16*(nth sp i).R) / csz (nth sp i).d).toNat,Z4.2 ⟨List.mem_range.2 ?_,?_⟩,?_⟩
   all_goals grind [cg,k7]
 | none=>
  cases F:la.findIdx? (bS · (n:Nat)) with
  | some i=>
   obtain⟨d,A,-⟩:=Y7.1 F;have f:denotes sp la (n:Nat) = ⟨3,i,0,(n:Nat) - 16*(nth la i).R⟩:=by grind [denotes]
   rw[tn f]at b
   grind [ar]
  | none=>
   have f:denotes sp la (n:Nat) = ⟨0,0,0,0⟩:=by grind [denotes]
   rw[tn f]at b;simp at b
theorem wQ(b:pf sp la)(c:(denotes sp la a).c1=0)(f:(denotes sp la a).b6=1\/(denotes sp la a).b6=3):a∈ku sp la:=by
 have l:0<=a/\a<512:=by
  unfold denotes at c f;cases g:sp.findIdx? (d7 · a) with
  | some i=>
   obtain⟨d,j,-⟩:=Y7.1 g;have h:=List.getElem_mem d;have e:=(gG (b.sok _ h)).1 j;have k:=aI (b.sok _ h);omega
  | none=>
   rw[g]at c f;cases e:la.findIdx? (bS · a) with
   | some i=>
    obtain⟨d,-⟩:=Y7.1 e;rw[e]at c;have n:=aT (b.lok _ (ar d))
    grind
   | none=>grind
 have k:((a.toNat:Nat):Int)=a:=ω
 grind [ku,m6,kN]
theorem wb(sp:List aA)(la:List aF):(ku sp la).Nodup:=by
 unfold ku m6 List.Nodup;rw[List.pairwise_map]
 grind [List.Pairwise.imp,List.nodup_range]
variable{c:Int}
theorem uV(b:pf h.K h.M)(d:d3 h a c=true):a∈ku h.K h.M:=by grind [wQ,d3]
variable{o:bt}
theorem N6(a:pf h.K h.M)(b:kV h o=true):o.Addr∈ku h.K h.M:=by grind [wQ,kV]
theorem Jd(h:ac)(a:Int):(nC h).count a=(holders h).count a:=by grind [nC,holders]
theorem pL(h:ac):js h=true↔(h.S.all (fp h)=true/\h.a7.a6.all (iu h)=true)/\(aR h.y).all (kZ h)=true:=by grind [js]
theorem sN(f:pf h.K h.M)(g:gj h=true)(j:js h=true):∀a∈holders h,a∈ku h.K h.M:=by
 obtain⟨⟨n,p⟩,q⟩:=(pL h).1 j;intro a b;unfold holders at b;simp only[V3]at b;rcases b with((b|b)|b)|b
 ·obtain⟨o,d,rfl⟩:=Y4.1 b
  obtain⟨i,r,rfl⟩:=aQ d;have e:=fB g r
  grind [N6,objAt]
 ·unfold cJ at b
  obtain⟨c,t,b⟩:=List.mem_flatMap.1 b;obtain⟨l,u,b⟩:=List.mem_flatten.1 b;obtain⟨k,w,rfl⟩:=aQ u;have e:=O4.1 n c t;unfold fp at e;have A:=O4.1 (show(nth c.a k).all _=true from fB e w) a b
  grind [uV]
 ·obtain⟨x,y,rfl⟩:=Y4.1 b
  exact uV f (O4.1 p x y)
 exact uV f (O4.1 q a b)
theorem M8(b:bq h.K h.M=true)(c:gj h=true):(mF h&&jx h)=kD h:=by
 have d:=pf.of b;have e:(mF h=true/\h.a7.a6.all (iu h)=true)↔h.a7.a6.all (ul h)=true:=by grind [mF,ul]
 have f:kD h=true↔((h.S.all (fp h)=true/\h.a7.a6.all (ul h)=true)/\(aR h.y).all (kZ h)=true)/\∀a∈ku h.K h.M,(holders h).count a=1:=by
  unfold kD;simp only[I0];refine and_congr Iff.rfl ?_;simp only[O4,C0,Jd]
  grind [List.mem_mergeSort,Pb,oQ,sorted]
 grind [pL,M7,wb,sN,jx]
theorem gW(s t:aA):meshable s t=meshable t s:=by grind [meshable]
variable{f:Int}{t:aJ}
theorem eR{p:Nat} : (p:Int)∈pagesOn t f↔p<t.J.length/\(nth t.J p).e≠0/\(nth t.J p).o=f:=by grind [pagesOn,j8,MS]
theorem wg{q:Int}(h:q∈pagesOn t f):∃p:Nat,q=(p:Nat):=by grind [pagesOn,j8]
theorem tp(a:pages0 h=true):(∀i,i<h.M.length->∀k:Nat,k<(nth h.M i).a3.toNat->(aW h ((nth h.M i).R+(k:Nat))).length=1)/\(∀p∈pgs h.K h.M,p<eU h)/\∀p:Nat,p<eU h->((nth (tbl h).J p).e≠0↔(p:Int)∈pgs h.K h.M):=by grind [fB,pages0,sX,xS,ww]
theorem Bi{p:Nat}(a:p<eU h):af (tbl h) (p:Nat)=nth (tbl h).J p:=mR a
theorem fD{p:Nat}(a:p<eU h)(b:(nth (tbl h).J p).e≠0):aW h (p:Nat)=pagesOn (tbl h) (nth (tbl h).J p).o:=by grind [Bi,aW,tbl]
theorem vg(g:pf h.K h.M)(c:j<h.K.length):gQ h (nth h.K j).R=(j:Nat):=by
 unfold gQ;refine dQ (au c) (by unfold mU;simp) λk z i d=>?_
 have a:=bn d;have b:=(Z2.1 d).1;subst a;unfold mU;refine W0 λe=>?_
 have:=cQ (f:=(·.R)) g.nd b c e;omega
theorem uG(w:bq h.K h.M=true)(N:pages0 h=true):tD h=pW h:=by
 have E:=pf.of w;obtain⟨O,P,Q⟩:=tp N;have o:∀i,i<h.K.length->∃p:Nat,(nth h.K i).R=(p:Nat)/\p<eU h/\(nth (tbl h).J p).e≠0:=λi r=>by
  have Y:=aI (E.sok _ (ar r));have R:(nth h.K i).R∈pgs h.K h.M:=by grind [ar,pgs]
  have c:=P _ R;refine⟨(nth h.K i).R.toNat,ω,ω,?_⟩
  grind
 rw[C5];unfold tD pW;rw[cC,cC];constructor
 ·intro F i r
  rw[cC];intro j G;have y:j<h.K.length:=ω
  unfold mL;rw[C7,C0];by_cases d:(af (tbl h) (nth h.K i).R).o=(af (tbl h) (nth h.K j).R).o
  ·right
   obtain⟨p,e,a,f⟩:=o i r;obtain⟨q,A,b,g⟩:=o j y;have n:=O4.1 (F i r);rw[e,A,Bi a,Bi b]at d;have S:(q:Int)∈aW h (nth h.K i).R:=by
    rw[e,fD a f];exact eR.2 ⟨b,g,d.symm⟩
   have t:=n _ S;unfold mH at t;rw[<-A,vg E y]at t;rw[C7,I0,C0]at t;rcases t with t|t
   ·omega
   simpa using t.2
  exact .inl d
 intro B i r;rw[O4];intro q C;obtain⟨p,e,a,f⟩:=o i r;have T:=C;rw[e,fD a f]at C;obtain⟨D,rfl⟩:=wg C;obtain⟨b,g,H⟩:=eR.1 C;have u:=(Q D b).1 g;unfold pgs at u;rw[V3,Y4,List.mem_flatMap]at u;rcases u with⟨s,F,J⟩|⟨l,U,K⟩
 ·obtain⟨j,G,rfl⟩:=aQ F
  unfold mH;rw[<-J,vg E G];rw[C7,I0,C0,C0];have d:(af (tbl h) (nth h.K i).R).o=(af (tbl h) (nth h.K j).R).o:=by grind [Bi]
  rcases Nat.lt_trichotomy j i with c|V|c
  ·have n:=fB (B i r) c
   unfold mL at n
   simp_all
  ·omega
  have n:=fB (B j G) c;unfold mL at n;rw[C7,C0]at n;exact .inr ⟨ω,by rw[gW];simp_all⟩
 exfalso;obtain⟨W,L,rfl⟩:=aQ U;obtain⟨k,X,M⟩:=d4.1 K;have n:=O W L k X;rw[<-M,fD b g]at n;have Z:(D:Int)∈pagesOn (tbl h) (nth (tbl h).J D).o:=ψ
 have m2:(p:Int)∈pagesOn (tbl h) (nth (tbl h).J D).o:=eR.2 ⟨a,f,H.symm⟩
 grind [List.length_eq_one_iff,pf.dis,ar]
theorem n9(h:ac):kh h=dM h:=by grind [uG,M8,kh,dM,kM]
def ovl(y r:aB):Bool:=decide (y.At<r.At+r.a8/\r.At<y.At+y.a8)
def nj(r:aB):List aB->Bool->Option (List aB)
 | [],put=>some (if put then [] else [r])
 | y::a,put=>if ovl y r then none else if !put&&decide (y.At > r.At) then(nj r a true).map λt=>r::y::t else(nj r a put).map λt=>y::t
def dt(out:List aB):List aB->List aB
 | []=>out
 | y::ys=>match out.getLast? with
  | some z=>if z.At+z.a8=y.At then dt (out.dropLast++[⟨z.At,z.a8+y.a8⟩]) ys else dt (out++[y]) ys
  | none=>dt (out++[y]) ys
def kK:List aB->aB->List aB->Bool->Option (List aB)
 | [],r,out,done=>some (if done then out else out++[r])
 | y::ys,r,out,done=>
  if ovl y r then none
  else if y.At+y.a8=r.At then kK ys ⟨y.At,y.a8+r.a8⟩ out done
  else if r.At+r.a8=y.At then kK ys ⟨r.At,r.a8+y.a8⟩ out done
  else if y.At > r.At/\done=false then kK ys r (out++[r,y]) true
  else kK ys r (out++[y]) done
def jD(xs:List aB):Prop:=xs.Pairwise (λa b=>a.At+a.a8<b.At)/\∀y∈xs,1<=y.a8
variable{y:aB}
theorem jD.tail{a:List aB}(h:jD (y::a)):jD a:=⟨(List.pairwise_cons.1 h.1).2,λz b=>h.2 z ψ⟩
theorem jD.head{a:List aB}(h:jD (y::a)):∀z∈a,y.At+y.a8<z.At:=(List.pairwise_cons.1 h.1).1
theorem jO:∀(a out:List aB),jD a->(∀z,out.getLast? = some z->∀y∈a,z.At+z.a8≠y.At)->dt out a=out++a
 | [],out,_,_=>by simp[dt]
 | y::a,out,d,e=>by
  have b:dt (out++[y]) a=out++y::a:=by
   rw[jO a (out++[y]) d.tail λz c w f=>by
     simp at c;subst c;have:=d.head w f;omega]
   simp
  unfold dt;split
  ·rename_i z c
   rw[CB (e z c y (I2 ..))];exact b
  exact b
theorem yb{r:aB} : ∀{a:List aB},jD a->(∀y∈a,r.At+r.a8<=y.At)->nj r a true=some a
 | [],_,_=>rfl
 | y::a,c,b=>by
  have e:=b y (I2 ..);unfold nj;rw[CB (by unfold ovl;rw[C0];omega)];simp only[Bool.not_true,Bool.false_and,Bool.false_eq_true,if_false];rw[yb c.tail λz d=>b z (Z5 _ d)]
  rfl
theorem vK{r:aB}(h1:1<=r.a8){a:List aB}(b:jD a)(c:∀y∈a,r.At+r.a8<=y.At):nj r a false=some (r::a):=by
 cases a with
 | nil=>rfl
 | cons y a=>
  grind [yb,jD.tail,nj,ovl]
def qk{r:aB} : ∀{a out:List aB},jD a->1<=r.a8->(∀y∈a,r.At+r.a8<y.At)->kK a r out true=some (out++a)
 | [],out,_,_,_=>by simp[kK]
 | y::a,out,b,d,c=>by
  have f:=c y (I2 ..);have g:=b.2 y (I2 ..);unfold kK;rw[CB (by unfold ovl;rw[C0];omega),CB ω,CB ω,CB (by simp),qk b.tail d λz e=>c z (Z5 _ e)];simp
variable{out:List aB}
theorem yV{r:aB}(h1:1<=r.a8){a:List aB}(b:jD a)(c:∀y∈a,r.At+r.a8<=y.At):kK a r out false=some (out++match a with|[]=>[r]|y::zs=>if r.At+r.a8=y.At then⟨r.At,r.a8+y.a8⟩::zs else r::y::zs):=by
 cases a with
 | nil=>simp[kK]
 | cons y a=>
  have g:=c y ψ;have h:=b.2 y ψ;unfold kK;rw[CB (by grind [ovl]),CB ω];by_cases e:r.At+r.a8=y.At
  ·rw[CD e]
   simp only[e,if_true];cases a with
   | nil=>simp[kK]
   | cons z a=>
    have i:=b.head z ψ;have j:=b.tail.2 z ψ;unfold kK;simp only;rw[CB (by grind [ovl]),CB ω,CB ω,CD (by simp;omega),qk b.tail.tail (by simp only;omega) λw d=>by
      have:=b.tail.head w d;simp only;omega]
    simp
  rw[CB e,CD (by simp;omega),qk b.tail h1 λz f=>by have:=b.head z f;omega];simp[e]
theorem BT{pages:Int} : ∀{a:List aB}{r:aB}{out:List aB},jD a->1<=r.a8->(∀z,out.getLast? = some z->(∀y∈a,z.At+z.a8<y.At)/\z.At+z.a8<r.At)->(nj r a false).map (dt out)=kK a r out false
 | [],r,out,_,g,q=>by
  show some (dt out [r])=some (out++[r]);rw[jO [r] out ⟨List.pairwise_singleton ..,λy u=>by rw[V1.1 u];exact g⟩ ψ]
 | y::a,r,out,c,g,q=>by
  have F:=c.2 y ψ;by_cases l:ovl y r=true
  ·grind [nj,kK]
  ·have i:=l
   unfold ovl at i;rw[C0]at i;by_cases A:r.At+r.a8<=y.At
   ·-- all to the right
    have b:∀w∈y::a,r.At+r.a8<=w.At:=λw f=>by grind [jD.head]
    rw[vK g c b,yV g c b];show some (dt out (r::y::a))=_;have hfirst:dt out (r::y::a)=dt (out++[r]) (y::a):=by
     conv=>lhs;unfold dt
     grind
    rw[hfirst];by_cases e:r.At+r.a8=y.At
    ·have:dt (out++[r]) (y::a)=dt (out++[⟨r.At,r.a8+y.a8⟩]) a:=by
      conv=>lhs;unfold dt
      simp[e]
     grind [jO,jD.tail,jD.head]
    grind [jO,jD.head]
   have B:y.At+y.a8<=r.At:=ω
   have n:∀t,dt out (y::t)=dt (out++[y]) t:=λt=>by
    conv=>lhs;unfold dt
    grind [I2]
   have C:(nj r (y::a) false).map (dt out)=(nj r a false).map (dt (out++[y])):=by
    conv=>lhs;unfold nj
    rw[CB l,CB (by simp;omega),Option.map_map]
    congr 1
    grind
   rw[C];unfold kK;rw[CB l];by_cases e:y.At+y.a8=r.At
   ·rw[CD e]
    by_cases o:∃w,a.head? = some w/\ovl w r=true
    ·obtain⟨w,f,D⟩:=o
     cases a with
     | nil=>cases f
     | cons d h=>
      grind [ovl,nj,kK]
    have b:∀w∈a,r.At+r.a8<=w.At:=by
     cases a with
     | nil=>grind
     | cons d h=>
      have G:=c.head d ψ;have H:=c.tail.2 d ψ
      grind [jD.head,jD.tail,ovl]
    rw[vK g c.tail b,yV (r:=⟨y.At,y.a8+r.a8⟩) (by simp only;omega) c.tail ψ];show some (dt (out++[y]) (r::a))=_;have E:dt (out++[y]) (r::a)=dt (out++[⟨y.At,y.a8+r.a8⟩]) a:=by
     conv=>lhs;unfold dt
     simp[e]
    rw[E];cases a with
    | nil=>simp[dt]
    | cons d h=>
     by_cases j:y.At+(y.a8+r.a8)=d.At
     ·have p:dt (out++[⟨y.At,y.a8+r.a8⟩]) (d::h)=dt (out++[⟨y.At,y.a8+r.a8+d.a8⟩]) h:=by
       conv=>lhs;unfold dt
       simp[j]
      rw[p,jO h _ c.tail.tail λz k w f=>by grind [jD.head,jD.tail]];simp[j]
     rw[jO (d::h) _ c.tail λz k w f=>by
       simp at k;subst k;simp only;rcases List.mem_cons.1 f with rfl|f
       · exact j
       have:=c.tail.head w f;have:=b d ψ;have:=c.tail.2 d ψ;omega]
     simp[j]
   rw[CB e,CB ω,CB ω];exact BT (pages:=pages) c.tail g λz k=>by grind [jD.head]
def gn(k:ah)(f:Int):ah:=if(pagesOn k.F.Q f).length=0 then {k with F:=⟨⟨k.F.W.T.set f.toNat (List.replicate 16 0),k.F.W.a1.set f.toNat false⟩,k.F.Q⟩} else k
def mb(k:ah)(p:Int):ah:={k with F:=⟨k.F.W,⟨k.F.Q.J.set p.toNat ⟨0,0⟩⟩⟩}
def cj(k:ah)(p:Int):ah:=if(af k.F.Q p).e=0 then k else gn (mb k p) (af k.F.Q p).o
def destr(k:ah):Nat->ah × Int
 | 0=>(k,0)
 | n+1=>if(af (destr k n).1.F.Q n).e=0 then destr k n else(cj (destr k n).1 n,(destr k n).2+1)
def destroyed(h:ac):ah × Int:=if dM h=true/\h.G.Calls≠100000 then destr h.G h.G.F.Q.J.length else(h.G,0)
theorem bI[Inhabited α](xs:List α)(i j:Nat)(x:α):nth (xs.set i x) j=if i=j/\j<xs.length then x else nth xs j:=by grind [nth]
theorem ni(k:ah)(f:Int):(gn k f).F.Q=k.F.Q/\(gn k f).Calls=k.Calls/\(gn k f).w=k.w/\(gn k f).F.W.T.length=k.F.W.T.length/\(gn k f).F.W.a1.length=k.F.W.a1.length:=by grind [gn]
theorem jH(k:ah)(p:Int):(cj k p).F.Q.J.length=k.F.Q.J.length/\(cj k p).Calls=k.Calls/\(cj k p).w=k.w:=by grind [ni,cj,mb]
theorem gV(k:ah):∀n,(destr k n).1.F.Q.J.length=k.F.Q.J.length/\(destr k n).1.Calls=k.Calls/\(destr k n).1.w=k.w/\0<=(destr k n).2/\(destr k n).2<=n
 | 0=>⟨rfl,rfl,rfl,V5 _,V5 _⟩
 | n+1=>by
  obtain⟨a,b,c,d,e⟩:=gV k n
  grind [jH,destr]
variable{k:ah}
theorem aG : aC k=true↔(∀j,j<k.w.length->0<=nth k.w j)/\db k.F.W=true/\gF k.F.Q k.F.W.a1.length=true/\(∀j,j<k.F.W.a1.length->nth k.F.W.a1 j=decide (0<(pagesOn k.F.Q (j:Int)).length))/\0<=k.Calls/\k.Calls<=100000/\k.w.length<=40:=by grind [cC,aC,dB,pV]
theorem bf{f:aU} : db f=true↔1<=f.T.length/\f.T.length<=32/\f.a1.length=f.T.length/\∀j,j<f.T.length->im (nth f.T j) (nth f.a1 j)=true:=by
 unfold db;simp only[I0,C0,O4,and_assoc];refine and_congr Iff.rfl (and_congr Iff.rfl (and_congr_right λb=>⟨λh j a=>?_,λh q c=>?_⟩))
 ·exact h _ (O2 (wM (au a) (au ω)))
 grind [List.mem_iff_getElem?,List.getElem?_zip_eq_some,bn]
theorem br : gF t a=true↔(∀j,j<t.J.length->lS a (nth t.J j)=true)/\1<=t.J.length/\t.J.length<=32:=by grind [cC,gF]
def eB : 0<(pagesOn t f).length↔∃q,q<t.J.length/\(nth t.J q).e≠0/\(nth t.J q).o=f:=by
 unfold pagesOn j8;rw[I1,List.length_pos_iff_exists_mem];simp[MS]
theorem bY(h:aC k=true)(a:(af k.F.Q p).e≠0):0<=p/\p<k.F.Q.J.length/\af k.F.Q p=nth k.F.Q.J p.toNat/\0<=(af k.F.Q p).o/\(af k.F.Q p).o<k.F.W.a1.length:=by
 obtain⟨-,-,b,-⟩:=aG.1 h
 grind [br,af,lS]
theorem p9(p:Int)(h:aC k=true):aC (cj k p)=true:=by
 unfold cj;split
 ·exact h
 rename_i r;obtain⟨C,D,E,i,l⟩:=bY h r;obtain⟨t,u,F,w,y,A,B⟩:=aG.1 h;obtain⟨G,H,J,L⟩:=bf.1 u;obtain⟨M,N,O⟩:=br.1 F;rw[E]at r i l |-;generalize K:(nth k.F.Q.J p.toNat).o=f at i l;have b:∀q,nth (k.F.Q.J.set p.toNat ⟨0,0⟩) q=if p.toNat=q then⟨0,0⟩ else nth k.F.Q.J q:=λq=>by grind [bI]
 have c:∀j:Int,0<(pagesOn (⟨k.F.Q.J.set p.toNat ⟨0,0⟩⟩ : aJ) j).length↔∃q,q<k.F.Q.J.length/\q≠p.toNat/\(nth k.F.Q.J q).e≠0/\(nth k.F.Q.J q).o=j:=λj=>by
  rw[eB];simp only[Z1,b]
  grind
 have d:∀j:Int,0<(pagesOn k.F.Q j).length↔∃q,q<k.F.Q.J.length/\(nth k.F.Q.J q).e≠0/\(nth k.F.Q.J q).o=j:=λj=>eB
 have g:gF ⟨k.F.Q.J.set p.toNat ⟨0,0⟩⟩ k.F.W.a1.length=true:=by
  rw[br];simp only[Z1,b]
  grind [lS]
 unfold gn;split
 ·rename_i o
  rw[aG];simp only[mb,Z1]at o |-;refine⟨t,?_,g,λj n=>?_,y,A,B⟩
  ·rw[bf]
   simp only[Z1,bI];refine⟨G,H,J,λj n=>?_⟩;by_cases a:f.toNat=j
   ·rw[CD ⟨a,n⟩,CD ⟨a,ω⟩];decide
   grind
  rw[bI];by_cases a:f.toNat=j
  ·grind
  rw[CB (λe=>a e.1),w j n];refine decide_eq_decide.2 ?_;rw[d,c]
  grind
 rename_i o;rw[aG];simp only[mb]at o |-;refine⟨t,u,g,λj n=>?_,y,A,B⟩;rw[w j n];refine decide_eq_decide.2 ?_;by_cases a:f=j
 ·grind
 rw[d,c];grind
def fg{k:ah}(h:aC k=true):∀n,aC (destr k n).1=true
 | 0=>h
 | n+1=>by
  unfold destr;split
  ·exact fg h n
  exact p9 _ (fg h n)
def bv(h:aC k=true):ah.sml k:=by
 obtain⟨g,b,c,i,l,n,o⟩:=aG.1 h;obtain⟨p,q,t,d⟩:=bf.1 b;obtain⟨u,w,y⟩:=br.1 c;refine⟨⟨⟨⟨ω,λr f=>?_⟩,(by omega:_<=1048576)⟩,⟨ω,λe _=>trivial⟩⟩,(by omega:_<=1048576)⟩;obtain⟨j,a⟩:=List.mem_iff_getElem?.1 f;have:=d j (Z2.1 a).1;rw[bn a]at this;unfold im at this;simp only[I0,C0]at this;show r.length<=1048576;omega
theorem Ee(a:dM h=true):aC h.G=true:=by grind [dM,kM]
variable{K:List (List C)->Prop}{sz by_:Nat}
theorem Ap.cp{e:α->List C}{xs:List α}(d:∀x,(e x).length=sz)(f:∀x,bk (e x)=true)(a:xs.length<=1048576)(b:by_<=1000)(c:K (xs.map e)):Ap true [] (xs.map e) sz by_ K:=
 CU ψ ψ ψ (by simp;omega) (by simp only[I1,List.length_nil,X7];exact y4 a b) rfl c
def CS:type_of% @Ap.cp:=@Ap.cp
theorem Fl.cp{e:α->List C}{xs:List α}{X:Prop}(d:∀x,(e x).length=sz)(f:∀x,bk (e x)=true)(a:xs.length<=1048576)(b:by_<=1000)(c:X):Fl (xs.map e) sz by_ X:=
 Fl.mk ψ (by simp;omega) (by simp only[I1];exact y4 a b) c
def CY:type_of% @Fl.cp:=@Fl.cp
variable{r:List C}{rows:List (List C)}
theorem Ap.sn{a:List (List C)}(h1:∀r∈rows,r.length=sz)(f:r.length=sz)(b:rows.length+1<=1048576)(c:by_<=1000)(d:a=rows++[r])(e:K a):Ap false rows [r] sz by_ K:=
 CU h1 ψ ψ (by simp;omega) (y4 (by simpa using b) c) d e
def jT(xs:List Int)(a:xs.length<=1048576):zzA 196 false [.val none (aH .V xs)] .one (aH .own xs):=by
 refine fO 6 [] Tryz.func196 rfl ?_ (.inr (bT _))
 repeat'(first|refine gP ?_|(conv=>whnf);first|refine CS (λ_=>rfl) (λ_=>rfl) a (by decide) ?_)
 rfl
def Dx(t:aJ)(a:aJ.sml t):zzA 468 false [.val (some 1) (aJ.enc .V t)] .agg (aJ.enc .own t):=by
 have b:=a.1;refine fO 8 [] Tryz.func468 rfl ?_ (.inr (aJ.enc_fr _))
 repeat'(first|refine gP ?_|(conv=>whnf);first|refine CS (λ_=>rfl) (λ_=>rfl) b (by decide) ?_)
 rfl
def z7(t:aJ)(a:aJ.sml t):zzA 347 false [.val (some 1) (aJ.enc .V t)] .agg (aJ.enc .own t):=by
 have b:=a.1;refine fO 8 [] Tryz.func347 rfl ?_ (.inr (aJ.enc_fr _))
 repeat'(first|refine gP ?_|(conv=>whnf);first|refine CS (λ_=>rfl) (λ_=>rfl) b (by decide) ?_)
 rfl
theorem aX{e:α->List C}{l:List α}(h:∀x,(e x).length=n):∀r∈l.map e,r.length=n:=(ψ)
variable{β:Type}
theorem fU[Inhabited α]{xs:List α}{f:α->β}(a:i<xs.length):(xs.take (i+1)).map f=(xs.take i).map f++[f (nth xs i)]:=by grind [I6,au]
def Dg(f:aU)(a:aU.sml f):zzA 467 false [.val (some 2) (aU.enc .V f)] .agg (aU.enc .own f):=by
 have g:=a.1.1;have d:f.a1.length<=1048576:=a.2;refine fO 30 [(5,10,[17,18,19,20,21,22,23,24,25,26])] Tryz.func467 rfl ?_ (.inr (aU.enc_fr _))
 repeat'(first|refine gP ?_|(conv=>whnf);first|refine CS (λ_=>rfl) (λ_=>rfl) d (by decide) ?_)
 (conv=>whnf)
 refine CJ (ι:=Nat) (λi=>[(1,.H .box (aU.enc .V f)),(2,.H .box [.z,.z]),(3,.H .box [.s .own ((f.T.take i).map (aH .own)),.s .own (f.a1.map (rB .own))]),(4,.H .one [I ((i:Nat):Int)])]) (λi=>i<=f.T.length) (λi=>f.T.length - i) (0) ?_ (X0 _) λi h=>?_
 ·exact wB
 by_cases b:i<f.T.length
 ·have e:=au b
  have c:(nth f.T i).length<=1048576:=a.1.2 _ (ar b)
  repeat'(first|refine gE ?_|(conv=>whnf);first|with_reducible refine CE (aa e) ?_|refine CY (λ_=>rfl) (λ_=>rfl) c (by decide) ?_|refine Ap.sn (aX λ_=>rfl) rfl (by simp;omega) (by decide) (fU b) ?_)
  ((conv=>whnf);refine CF (i+1) ω ω ?_;(exact wB))
 repeat'(first|refine gE ?_|fail)
 obtain rfl:i=f.T.length:=ω
 rw[X5]
 rfl
def oR(f:aU)(a:aU.sml f):zzA 346 false [.val (some 2) (aU.enc .V f)] .agg (aU.enc .own f):=by
 have g:=a.1.1;have d:f.a1.length<=1048576:=a.2;refine fO 27 [(5,5,[18,19,20,21,22])] Tryz.func346 rfl ?_ (.inr (aU.enc_fr _))
 repeat'(first|refine gP ?_|(conv=>whnf);first|refine CS (λ_=>rfl) (λ_=>rfl) d (by decide) ?_)
 (conv=>whnf)
 refine CJ (ι:=Nat) (λi=>[(2,.H .box [.z,.z]),(3,.H .box [.s .own ((f.T.take i).map (aH .own)),.s .own (f.a1.map (rB .own))]),(12,.H .one (jF .V f.T)),(13,.H .one [I (f.T.length)]),(14,.H .one [I ((i:Nat):Int)])]) (λi=>i<=f.T.length) (λi=>f.T.length - i) (0) ?_ (X0 _) λi h=>?_
 ·exact wB
 by_cases b:i<f.T.length
 ·have e:=au b
  have c:(nth f.T i).length<=1048576:=a.1.2 _ (ar b)
  repeat'(first|refine gE ?_|(conv=>whnf);first|with_reducible refine CE (aa e) ?_|refine C9 (jT (nth f.T i) c) ?_|refine Ap.sn (aX λ_=>rfl) rfl (by simp;omega) (by decide) (fU b) ?_)
  ((conv=>whnf);refine CF (i+1) ω ω ?_;(exact wB))
 repeat'(first|refine gE ?_|fail)
 obtain rfl:i=f.T.length:=ω
 rw[X5]
 rfl
def tM(m:aY)(a:aY.sml m):zzA 349 false [.val (some 3) (aY.enc .V m)] .agg (aY.enc .own m):=by
 refine fO 10 [(1,5,[3,4,5,6,7])] Tryz.func349 rfl ?_ (.inr (aY.enc_fr _))
 repeat'(first|refine gP ?_|(conv=>whnf);first|refine C9 (Dg m.W a.1) ?_|refine C9 (Dx m.Q a.2) ?_)
 rfl
def um(m:aY)(a:aY.sml m):zzA 195 false [.val (some 3) (aY.enc .V m)] .agg (aY.enc .own m):=by
 refine fO 10 [(1,5,[3,4,5,6,7])] Tryz.func195 rfl ?_ (.inr (aY.enc_fr _))
 repeat'(first|refine gP ?_|(conv=>whnf);first|refine C9 (oR m.W a.1) ?_|refine C9 (z7 m.Q a.2) ?_)
 rfl
def Dc(k:ah)(a:ah.sml k):zzA 203 false [.val (some 5) (ah.enc .V k)] .agg (ah.enc .own k):=by
 have b:k.w.length<=1048576:=a.2;refine fO 13 [(1,9,[3,4,5,6,7,8,9,10,11])] Tryz.func203 rfl ?_ (.inr (Ce _))
 repeat'(first|refine gP ?_|(conv=>whnf);first|refine C9 (tM k.F a.1) ?_|refine CY (λ_=>rfl) (λ_=>rfl) b (by decide) ?_)
 rfl
def i6(k:ah)(a:ah.sml k):zzA 68 false [.val (some 5) (ah.enc .V k)] .agg (ah.enc .own k):=by
 refine fO 12 [(1,8,[3,4,5,6,7,8,9,10])] Tryz.func68 rfl ?_ (.inr (Ce _))
 repeat'(first|refine gP ?_|(conv=>whnf);first|refine C9 (um k.F a.1) ?_|refine C9 (jT k.w a.2) ?_)
 rfl
def eP(k:ah)(p:Int)(a:aJ.sml k.F.Q):zzA 485 false [.ptr (ah.enc .V k),.val none [I p]] .one [I (af k.F.Q p).e]:=by
 refine fO 13 [] Tryz.func485 rfl ?_
 repeat'(first|refine gP ?_|(conv=>whnf);first|refine C9 (dq k.F.Q p a) ?_)
 rfl
def my(k:ah)(b:ah.sml k):zzA 277 false [.val (some 5) (ah.enc .V k)] .one [B (aC k&&decide (k.Calls<100000))]:=by
 have a:=mJ k b;cases e:aC k<;>rw[e]at a
 ·refine fO 10 [] Tryz.func277 rfl ?_
  repeat'(first|refine gP ?_|(conv=>whnf);first|with_reducible refine Bf.D (λc=>?_) (λc=>?_)|refine C9 (a) ?_)
  all_goals rfl
 refine fO 10 [] Tryz.func277 rfl ?_
 repeat'(first|refine gP ?_|(conv=>whnf);first|refine C9 (a) ?_)
 all_goals rfl
def ue(k:ah)(b:ah.sml k):zzA 197 false [.val (some 5) (ah.enc .V k)] .one [B (decide (k.Calls≠100000)&&aC k)]:=by
 have c:=jR k b;refine fO 10 [] Tryz.func197 rfl ?_
 repeat'(first|refine gP ?_|(conv=>whnf);first|with_reducible (first|refine Bf.N (λa=>?_) (λa=>?_)|refine Bf.D (λa=>?_) (λa=>?_))|refine C9 (c) ?_)
 all_goals(exact Z0 (λz=>[B z]) ((by simp[*])))
theorem uO(h:(pagesOn k.F.Q f).length=0):ah.enc .own (gn k f)=[.s .own ((k.F.W.T.map (aH .own)).set f.toNat (aH .own (List.replicate 16 0))),.s .own ((k.F.W.a1.map (rB .own)).set f.toNat (rB .own false)),.s .own (k.F.Q.J.map (bh.enc .own)),I k.Calls,.s .own (k.w.map (rI .own))]:=by grind [Z6,gn,ah.enc]
theorem zi(h:¬(pagesOn k.F.Q f).length=0):ah.enc .own (gn k f)=ah.enc .own k:=by grind [gn]
def t8(k:ah)(f:Int)(a:aJ.sml k.F.Q)(b:0<=f/\f<k.F.W.T.length/\f<k.F.W.a1.length) :
  zzB 486 false [.ptr (ah.enc .own k),.val none [I f]] [.ptr (ah.enc .own (gn k f)),.val none [I f]] (.tup []) []:=by
 have c:=au (xs:=k.F.W.T) (i:=f.toNat) ω;have d:=au (xs:=k.F.W.a1) (i:=f.toNat) ω;by_cases e:(pagesOn k.F.Q f).length=0
 ·rw[uO e]
  refine fM 30 [] [(2,8,[21,22,23,24,25,26,27,28])] [(0,0),(0,0)] Tryz.func486 rfl (λu q=>?_) (.inr trivial)
  repeat'(first|refine gB ?_|(conv=>whnf);first|with_reducible (first|refine CO b.1 (aa d) ?_|refine CO b.1 (aa c) ?_)|refine CG (gX k.F.Q f a) ⟨⟨rfl,Cb k.F.Q⟩,⟨rfl,rfl⟩,trivial⟩ ?_|refine CQ rfl rfl (aa c) rfl (O1 rfl) rfl ?_|refine CQ rfl rfl (aa d) rfl (O1 rfl) rfl ?_|refine Mk.mk 16 rfl rfl (by decide) (by decide) rfl ?_)
  refine CH rfl rfl ?_;exact wB
 rw[zi e];refine fM 30 [] [(2,8,[21,22,23,24,25,26,27,28])] [(0,0),(0,0)] Tryz.func486 rfl (λu q=>?_) (.inr trivial)
 repeat'(first|refine gB ?_|(conv=>whnf);first|refine CG (gX k.F.Q f a) ⟨⟨rfl,Cb k.F.Q⟩,⟨rfl,rfl⟩,trivial⟩ ?_)
 refine CH rfl rfl ?_;exact wB
def EL(k:ah)(f:Int)(a:aJ.sml k.F.Q)(b:0<=f/\f<k.F.W.T.length/\f<k.F.W.a1.length) :
  zzB 198 false [.ptr (ah.enc .own k),.val none [I f]] [.ptr (ah.enc .own (gn k f)),.val none [I f]] (.tup []) []:=by
 have c:=au (xs:=k.F.W.T) (i:=f.toNat) ω;have d:=au (xs:=k.F.W.a1) (i:=f.toNat) ω;by_cases e:(pagesOn k.F.Q f).length=0
 ·rw[uO e]
  refine fM 30 [] [(2,8,[21,22,23,24,25,26,27,28])] [(0,0),(0,0)] Tryz.func198 rfl (λu q=>?_) (.inr trivial)
  repeat'(first|refine gB ?_|(conv=>whnf);first|with_reducible (first|refine CO b.1 (aa d) ?_|refine CO b.1 (aa c) ?_)|refine CG (lh k.F.Q f a) ⟨⟨rfl,Cb k.F.Q⟩,⟨rfl,rfl⟩,trivial⟩ ?_|refine CQ rfl rfl (aa c) rfl (O1 rfl) rfl ?_|refine CQ rfl rfl (aa d) rfl (O1 rfl) rfl ?_|refine Mk.mk 16 rfl rfl (by decide) (by decide) rfl ?_)
  refine CH rfl rfl ?_;exact wB
 rw[zi e];refine fM 30 [] [(2,8,[21,22,23,24,25,26,27,28])] [(0,0),(0,0)] Tryz.func198 rfl (λu q=>?_) (.inr trivial)
 repeat'(first|refine gB ?_|(conv=>whnf);first|refine CG (lh k.F.Q f a) ⟨⟨rfl,Cb k.F.Q⟩,⟨rfl,rfl⟩,trivial⟩ ?_)
 refine CH rfl rfl ?_;exact wB
theorem x4(k:ah)(p:Int):ah.enc .own (mb k p)=[.s .own (k.F.W.T.map (aH .own)),.s .own (k.F.W.a1.map (rB .own)),.s .own ((k.F.Q.J.map (bh.enc .own)).set p.toNat (bh.enc .own ⟨0,0⟩)),I k.Calls,.s .own (k.w.map (rI .own))]:=by grind [Z6,mb,ah.enc]
theorem yx(h:aC k=true):aJ.sml (mb k p).F.Q:=by
 obtain⟨a,b,c⟩:=br.1 (aG.1 h).2.2.1;exact⟨by grind [mb],λ_ _=>trivial⟩
theorem Q8(k:ah)(p:Int)(b:aC k=true) :
  zzB 374 false [.ptr (ah.enc .own k),.val none [I p]] [.ptr (ah.enc .own (cj k p)),.val none [I p]] .one [B (decide ((af k.F.Q p).e≠0))]:=by
 have j:=bv b;have c:=eP k p j.1.2;by_cases a:(af k.F.Q p).e=0
 ·rw[show cj k p=k by unfold cj;rw[CD a]]
  refine fM 32 [(486,[2,0])] [] [(0,0),(0,0)] Tryz.func374 rfl (λu q=>?_)
  repeat'(first|refine gB ?_|(conv=>whnf);first|refine CG (c) ⟨CR k,⟨rfl,rfl⟩,trivial⟩ ?_)
  refine CH rfl ?_ ?_
  ·exact Z0 (λz=>[B z]) ((by simp[a]))
  exact wB
 obtain⟨l,r,n,d,o⟩:=bY b a;have h:=(bf.1 (aG.1 b).2.1).2.2.1;rw[show cj k p=gn (mb k p) (af k.F.Q p).o by unfold cj;rw[CB a]];have e:=t8 (mb k p) (af k.F.Q p).o (yx b) ⟨d,by grind [mb],by grind [mb]⟩;rw[x4]at e;have g:=au (xs:=k.F.Q.J) (i:=p.toNat) ω;rw[n]at c e a |-;refine fM 32 [(486,[2,0])] [] [(0,0),(0,0)] Tryz.func374 rfl (λu q=>?_)
 repeat'(first|refine gB ?_|(conv=>whnf);first|with_reducible refine CO l (aa g) ?_|refine CG (c) ⟨CR k,⟨rfl,rfl⟩,trivial⟩ ?_|refine CQ rfl rfl (aa g) rfl (O1 rfl) rfl ?_|refine CK rfl (aa g) rfl ?_|refine CL (e) (.inl rfl) ?_)
 refine CH rfl ?_ ?_
 ·exact Z0 (λz=>[B z]) ((by simp[a]))
 exact wB
theorem pT(k:ah)(p:Int)(a:aC k=true)(o:k.Calls≠100000) :
  zzA 69 false [.val (some 5) (ah.enc .V k),.val none [I p]] (.tup [some 5,none]) (ah.enc .own (cj k p)++[B (decide ((af k.F.Q p).e≠0))]):=by
 have d:=bv a;have l:=i6 k d;have e:=ue k d;have c:=pp k p d.1.2;rw[a,O0 o]at e;by_cases b:(af k.F.Q p).e=0
 ·rw[show cj k p=k by unfold cj;rw[CD b]]
  rw[W0 (by simpa using b)]at c |-;refine fP 38 [(198,[2,0])] [] Tryz.func69 rfl ?_ (.inr (aL (Ce k) ⟨trivial,trivial⟩))
  repeat'(first|refine gP ?_|(conv=>whnf);first|refine C9 (l) ?_|refine C9 (e) ?_|refine C9 (c) ?_)
  all_goals rfl
 obtain⟨q,u,r,g,t⟩:=bY a b;have n:=(bf.1 (aG.1 a).2.1).2.2.1;rw[show cj k p=gn (mb k p) (af k.F.Q p).o by unfold cj;rw[CB b]];have h:=EL (mb k p) (af k.F.Q p).o (yx a) ⟨g,by grind [mb],by grind [mb]⟩;rw[x4]at h;have j:=au (xs:=k.F.Q.J) (i:=p.toNat) ω;rw[O0 b]at c |-;rw[r]at h |-;refine fP 38 [(198,[2,0])] [] Tryz.func69 rfl ?_ (.inr (aL (Ce _) ⟨trivial,trivial⟩))
 repeat'(first|refine gP ?_|(conv=>whnf);first|with_reducible refine CO q (aa j) ?_|refine C9 (l) ?_|refine C9 (e) ?_|refine C9 (c) ?_|refine CQ rfl rfl (aa j) rfl (O1 rfl) rfl ?_|refine CK rfl (aa j) rfl ?_|refine CL (h) (.inl rfl) ?_)
 all_goals rfl
theorem Mw(h:(af (destr k n).1.F.Q n).e≠0):destr k (n+1)=(cj (destr k n).1 n,(destr k n).2+1):=by grind [destr]
theorem Ps(h:(af (destr k n).1.F.Q n).e=0):destr k (n+1)=destr k n:=by grind [destr]
theorem My{n:Int}(h:(af k.F.Q n).e=0):cj k n=k:=by grind [cj]
def n8(h:ac)(g:ac.sml h):zzA 20 false [.val (some 24) (ac.enc .V h)] (.tup [some 5,none]) (ah.enc .own (destroyed h).1++[I (destroyed h).2]):=by
 have a:=kn h g;rw[n9]at a;have j:=i6 h.G g.1;have n:h.G.F.Q.J.length<=1048576:=g.1.1.2.1;cases c:dM h<;>rw[c]at a
 ·rw[show destroyed h=(h.G,0) by unfold destroyed;rw[CB (by simp[c])]]
  refine fO 44 [] Tryz.func20 rfl ?_ (.inr (aL (Ce _) ⟨trivial,trivial⟩))
  repeat'(first|refine gP ?_|(conv=>whnf);first|refine C9 (a) ?_|refine C9 (j) ?_)
  all_goals rfl
 have o:=Ee c;by_cases k:h.G.Calls=100000
 ·rw[show destroyed h=(h.G,0) by unfold destroyed;rw[CB (λe=>e.2 k)]]
  refine fO 44 [] Tryz.func20 rfl ?_ (.inr (aL (Ce _) ⟨trivial,trivial⟩))
  repeat'(first|refine gB ?_|(conv=>whnf);first|refine C9 (a) ?_|refine C9 (j) ?_)
  all_goals rfl
 rw[show destroyed h=destr h.G h.G.F.Q.J.length by unfold destroyed;rw[CD ⟨c,k⟩]];refine fO 44 [] Tryz.func20 rfl ?_ (.inr (aL (Ce _) ⟨trivial,trivial⟩))
 repeat'(first|refine gB ?_|(conv=>whnf);first|refine C9 (a) ?_|refine C9 (j) ?_)
 (conv=>whnf)
 refine CJ (ι:=Nat) (λi=>[(4,.H .box (ah.enc .own (destr h.G i).1)),(2,.H .box [.z,.z,.z,I 0,.z]),(3,.H .one [I (0)]),(5,.H .one [I ((destr h.G i).2)]),(27,.H .one [I (h.G.F.Q.J.length)]),(28,.H .one [I ((i:Nat):Int)])]) (λi=>i<=h.G.F.Q.J.length) (λi=>h.G.F.Q.J.length - i) (0) ?_ (X0 _) λi q=>?_
 ·exact wB
 obtain⟨r,p,t,u,w⟩:=gV h.G i;by_cases y:i<h.G.F.Q.J.length
 ·have d:=pT (destr h.G i).1 i (fg o i) (by rw[p];exact k)
  by_cases b:(af (destr h.G i).1.F.Q i).e=0
  ·rw[W0 (by simpa using b),My b]at d
   have l:=Ps b
   repeat'(first|refine gE ?_|(conv=>whnf);first|refine CG (d) ⟨⟨rfl,CR _⟩,⟨rfl,rfl⟩,trivial⟩ ?_)
   (conv=>whnf)
   refine CF (i+1) ω ω ?_;rw[l];exact wB
  rw[O0 b]at d;have l:=Mw b
  repeat'(first|refine gE ?_|(conv=>whnf);first|refine CG (d) ⟨⟨rfl,CR _⟩,⟨rfl,rfl⟩,trivial⟩ ?_)
  (conv=>whnf)
  refine CF (i+1) ω ω ?_;rw[l];exact wB
 obtain rfl:i=h.G.F.Q.J.length:=ω
 repeat'(first|refine gE ?_|fail)
 rfl
theorem MK(a:dM h=true):aC h.G=true/\bq h.K h.M=true/\pages0 h=true/\tD h=true/\bQ h.y=true/\(h.S.all bx=true/\h.S.length=h.y.U.length)/\gi h.a7=true/\gj h=true/\js h=true/\(holders h).Nodup/\(holders h).length=(ku h.K h.M).length:=by grind [dM,kM,du,jx]
theorem ME(a:dM h=true):cq h=true:=by grind [dM]
def eE(n:Nat):aU:=⟨List.replicate n (List.replicate 16 0),List.replicate n false⟩
def dN(n:Nat):aJ:=⟨List.replicate n ⟨0,0⟩⟩
def bU(p f:Nat)(a:List Int):ah:=⟨⟨eE f,dN p⟩,0,a⟩
def fe:aE:=⟨List.replicate 4 []⟩
def eG(n:Nat):aP:=⟨List.replicate n [],List.replicate n []⟩
def newHeap(p f t:Nat)(lim:Int)(a:List Int):ac:=⟨bU p f a,[⟨0,p⟩],[],[],[],List.replicate t fe,eG t,⟨16,[]⟩,0,0,lim,1,false,⟨⟨0,0,[]⟩,0,0⟩⟩
theorem d6[Inhabited α]{y:α}(a:j<n):nth (List.replicate n y) j=y:=bn ψ
theorem Nf(n:Nat)(f:Int):pagesOn (dN n) f=[]:=by grind [List.filter_eq_nil_iff,d6,pagesOn,j8,dN,MS]
theorem sR{p f:Nat}(c:1<=p/\p<=32)(d:1<=f/\f<=32):aC (bU p f [])=true:=by
 rw[aG];refine⟨λj b=>by grind [bU],bf.2 ⟨by grind [bU,eE],by grind [bU,eE],by grind [bU,eE],λj b=>?_⟩,br.2 ⟨λj b=>?_,by grind [bU,dN],by grind [bU,dN]⟩,λj b=>?_,by simp[bU],by simp[bU],by simp[bU]⟩
 ·have a:j<f:=by grind [bU,eE]
  rw[show nth (bU p f []).F.W.T j=List.replicate 16 0 from d6 a,show nth (bU p f []).F.W.a1 j=false from d6 a]
  decide
 all_goals grind [Nf,bU,dN,nth,lS,eE]
def dR(h:ac):ac:={newHeap (eU h) h.G.F.W.a1.length h.S.length h.b1 [] with G:=(destroyed h).1,b3:=h.b3,b2:=h.b2}
def iw(h:ac):Bool:=dM h&&decide (h.G.Calls≠100000)
def reset(h:ac):ac:=if iw h then dR h else h
def wh(b:dM h=true):1<=eU h/\eU h<=32/\1<=h.G.F.W.a1.length/\h.G.F.W.a1.length<=32/\1<=h.S.length/\h.S.length<=4/\0<=h.b1/\h.b1<=1000/\0<=h.G.Calls/\h.G.Calls<=100000:=by
 obtain⟨c,-,-,-,d,⟨-,n⟩,-⟩:=MK b;obtain⟨-,e,f,-,g,i,-⟩:=aG.1 c;obtain⟨o,p,q,-⟩:=bf.1 e;obtain⟨-,j,k⟩:=br.1 f;have l:=nI d;have a:=ME b;unfold cq at a;rw[C0]at a;exact⟨j,k,ω,ω,ω,ω,ω,ω,g,i⟩
theorem HH(w:World)(q:Nat)(a:Array Obj):bz NO w (Sort.grow (w.drewN q) a):=by
 have c:∀b,b<w.heap.size->(Sort.grow (w.drewN q) a).heap[b]? = w.heap[b]?:=λb c=>Sort.heap_grow_old (w.drewN q) a c
 refine⟨rfl,rfl,rfl,ψ,λb h _=>c b h,λb o h _=>?_,λb o h _=>?_⟩
 all_goals grind [Go.World.cell?,Go.World.frozen?,mp]
theorem MR(c:Nat)(W:World):Calls Tryz.prog 455 #[.slice none 0 c] W λe g=>∃B q h,e=.returned (.slice B 0 0)/\g=Sort.grow (W.drewN q) h:=by
 have q22:∀(w:World)(a:Option Addr)(n c b d:Nat),(binOp .eql 33 (.slice a n c) (.slice none b d)).run Tryz.prog w=.ok (.bool a.isNone) w:=λw a n c b d=>Lib.run_eql_slice_nil w _ _ a n c b d Tryz.underlying33
 go_enter Tryz.func455,Tryz.ntmps455
 go_wp2
 go_ret
 exact⟨none,0,#[],rfl,by simp[Sort.grow,World.drewN]⟩
theorem HX(a:Addr)(c:Nat)(W:World):Calls Tryz.prog 455 #[.slice (some a) 0 c] W λe g=>∃B q h,e=.returned (.slice B 0 0)/\g=Sort.grow (W.drewN q) h:=by
 have q22:∀(w:World)(a:Option Addr)(n c b d:Nat),(binOp .eql 33 (.slice a n c) (.slice none b d)).run Tryz.prog w=.ok (.bool a.isNone) w:=λw a n c b d=>Lib.run_eql_slice_nil w _ _ a n c b d Tryz.underlying33
 go_enter Tryz.func455,Tryz.ntmps455
 go_wp2
 go_ret
 exact⟨some ⟨W.heap.size,0,none⟩,0,#[.cells #[] 3],rfl,by rw[Sort.alloc_eq_grow];rfl⟩
theorem HJ(xs:List Int)(o:xs.length<=1048576):zzA 455 false [.val none (aH .V xs)] .one (aH .own xs):=by
 by_cases c:xs=[]
 ·subst c
  refine⟨⟨_,Tryz.func455,by kernel_rfl,by kernel_rfl⟩,λw S p t d=>?_⟩
  match p,d with
  | [v],⟨d,_⟩=>
   have b:=bC.rep1 (show bC w S NO none [C.s .V []] v from d);obtain⟨l,g,rfl⟩:=b.slice;have r:Calls Tryz.prog 455 #[.slice l 0 g] w λe n=>∃B q i,e=.returned (.slice B 0 0)/\n=Sort.grow (w.drewN q) i:=by
    cases l with
    | none=>grind [MR]
    | some a=>grind [HX]
   refine r.mono λe n ⟨B,q,i,c,j⟩=>?_
   subst j;exact⟨.slice B 0 0,c,HH w q i,NO,NO,λ_ _ h=>h.elim,λ_ _ h=>h.elim,λ_ _ h=>h.elim,rfl,row1 (.nil _ .own B trivial)⟩
 have k:xs.map (rI .V)≠[]:=by simp_all
 refine fO 8 [] Tryz.func455 rfl ?_ (.inr (bT _))
 repeat'(first|refine gP ?_|(conv=>whnf);first|refine Nn.mk k ?_|refine CS (λ_=>rfl) (λ_=>rfl) o (by decide) ?_)
 rfl
def AD(p:cE)(a:cE.sml p):zzA 332 false [.val (some 3) (cE.enc .V p)] .agg (cE.enc .own p):=by
 have b:p.T.length<=1048576:=a;refine fO 8 [] Tryz.func332 rfl ?_ (.inr (cE.enc_fr _))
 repeat'(first|refine gP ?_|(conv=>whnf);first|refine C9 (HJ p.T b) ?_)
 rfl
def DU(j:cK)(a:cK.sml j):zzA 185 false [.val (some 5) (cK.enc .V j)] .agg (cK.enc .own j):=by
 refine fO 8 [] Tryz.func185 rfl ?_ (.inr (cK.enc_fr _))
 repeat'(first|refine gP ?_|(conv=>whnf);first|refine C9 (AD j.X a) ?_)
 rfl
def iZ(c:aE)(d:aE.sml c):zzA 204 false [.val (some 1) (aE.enc .V c)] .agg (aE.enc .own c):=by
 have g:=d.1;refine fO 26 [(5,10,[13,14,15,16,17,18,19,20,21,22])] Tryz.func204 rfl ?_ (.inr (Ci _))
 repeat'(first|refine gP ?_|fail)
 (conv=>whnf)
 refine CJ (ι:=Nat) (λi=>[(1,.H .box (aE.enc .V c)),(2,.H .box [.z]),(3,.H .box [.s .own ((c.a.take i).map (aH .own))]),(4,.H .one [I ((i:Nat):Int)])]) (λi=>i<=c.a.length) (λi=>c.a.length - i) (0) ?_ (X0 _) λi h=>?_
 ·exact wB
 by_cases a:i<c.a.length
 ·have e:=au a
  have b:(nth c.a i).length<=1048576:=d.2 _ (ar a)
  repeat'(first|refine gE ?_|(conv=>whnf);first|with_reducible refine CE (aa e) ?_|refine CY (λ_=>rfl) (λ_=>rfl) b (by decide) ?_|refine Ap.sn (aX λ_=>rfl) rfl (by simp;omega) (by decide) (fU a) ?_)
  ((conv=>whnf);refine CF (i+1) ω ω ?_;(exact wB))
 repeat'(first|refine gE ?_|fail)
 obtain rfl:i=c.a.length:=ω
 rw[X5]
 rfl
def lY(c:aE)(d:aE.sml c):zzA 182 false [.val (some 1) (aE.enc .V c)] .agg (aE.enc .own c):=by
 have g:=d.1;refine fO 23 [(5,5,[14,15,16,17,18])] Tryz.func182 rfl ?_ (.inr (Ci _))
 repeat'(first|refine gP ?_|fail)
 (conv=>whnf)
 refine CJ (ι:=Nat) (λi=>[(2,.H .box [.z]),(3,.H .box [.s .own ((c.a.take i).map (aH .own))]),(8,.H .one (jF .V c.a)),(9,.H .one [I (c.a.length)]),(10,.H .one [I ((i:Nat):Int)])]) (λi=>i<=c.a.length) (λi=>c.a.length - i) (0) ?_ (X0 _) λi h=>?_
 ·exact wB
 by_cases a:i<c.a.length
 ·have e:=au a
  have b:(nth c.a i).length<=1048576:=d.2 _ (ar a)
  repeat'(first|refine gE ?_|(conv=>whnf);first|with_reducible refine CE (aa e) ?_|refine C9 (jT (nth c.a i) b) ?_|refine Ap.sn (aX λ_=>rfl) rfl (by simp;omega) (by decide) (fU a) ?_)
  ((conv=>whnf);refine CF (i+1) ω ω ?_;(exact wB))
 repeat'(first|refine gE ?_|fail)
 obtain rfl:i=c.a.length:=ω
 rw[X5]
 rfl
def ge(m:aP)(b:aP.sml m):zzA 205 false [.val (some 2) (aP.enc .V m)] .agg (aP.enc .own m):=by
 have h:=b.1.1;have g:=b.2.1;refine fO 46 [(5,10,[14,15,16,17,18,19,20,21,22,23]),(9,10,[33,34,35,36,37,38,39,40,41,42])] Tryz.func205 rfl ?_ (.inr (aP.enc_fr _))
 repeat'(first|refine gP ?_|fail)
 (conv=>whnf)
 refine CJ (ι:=Nat) (λi=>[(1,.H .box (aP.enc .V m)),(2,.H .box [.z,.z]),(3,.H .box [.s .own ((m.U.take i).map (cL .own)),.z]),(4,.H .one [I ((i:Nat):Int)])]) (λi=>i<=m.U.length) (λi=>m.U.length - i) (0) ?_ (X0 _) λi j=>?_
 ·exact wB
 by_cases c:i<m.U.length
 ·have d:=au c
  have a:(nth m.U i).length<=1048576:=(b.1.2 _ (ar c)).1
  repeat'(first|refine gE ?_|(conv=>whnf);first|with_reducible refine CE (aa d) ?_|refine CY (λ_=>rfl) (λ_=>rfl) a (by decide) ?_|refine Ap.sn (aX λ_=>rfl) rfl (by simp;omega) (by decide) (fU c) ?_)
  ((conv=>whnf);refine CF (i+1) ω ω ?_;(exact wB))
 obtain rfl:i=m.U.length:=ω
 rw[X5]
 repeat'(first|refine gE ?_|fail)
 (conv=>whnf)
 refine CJ (ι:=Nat) (λk=>[(1,.H .box (aP.enc .V m)),(2,.H .box [.z,.z]),(3,.H .box [.s .own (m.U.map (cL .own)),.s .own ((m.a0.take k).map (aH .own))]),(5,.H .one [I ((k:Nat):Int)])]) (λk=>k<=m.a0.length) (λk=>m.a0.length - k) (0) ?_ (X0 _) λk l=>?_
 ·exact wB
 by_cases e:k<m.a0.length
 ·have d:=au e
  have a:(nth m.a0 k).length<=1048576:=b.2.2 _ (ar e)
  repeat'(first|refine gE ?_|(conv=>whnf);first|with_reducible refine CE (aa d) ?_|refine CY (λ_=>rfl) (λ_=>rfl) a (by decide) ?_|refine Ap.sn (aX λ_=>rfl) rfl (by simp;omega) (by decide) (fU e) ?_)
  ((conv=>whnf);refine CF (k+1) ω ω ?_;(exact wB))
 repeat'(first|refine gE ?_|fail)
 obtain rfl:k=m.a0.length:=ω
 rw[X5]
 rfl
def Ah(m:aP)(b:aP.sml m):zzA 183 false [.val (some 2) (aP.enc .V m)] .agg (aP.enc .own m):=by
 have h:=b.1.1;have g:=b.2.1;refine fO 41 [(5,6,[16,17,18,19,20,21]),(10,5,[32,33,34,35,36])] Tryz.func183 rfl ?_ (.inr (aP.enc_fr _))
 repeat'(first|refine gP ?_|fail)
 (conv=>whnf)
 refine CJ (ι:=Nat) (λi=>[(1,.H .box (aP.enc .V m)),(2,.H .box [.z,.z]),(3,.H .box [.s .own ((m.U.take i).map (cL .own)),.z]),(10,.H .one (x8 .V m.U)),(11,.H .one [I (m.U.length)]),(12,.H .one [I ((i:Nat):Int)])]) (λi=>i<=m.U.length) (λi=>m.U.length - i) (0) ?_ (X0 _) λi j=>?_
 ·exact wB
 by_cases c:i<m.U.length
 ·have d:=au c
  have a:(nth m.U i).length<=1048576:=(b.1.2 _ (ar c)).1
  repeat'(first|refine gE ?_|(conv=>whnf);first|with_reducible refine CE (aa d) ?_|refine CY (λ_=>rfl) (λ_=>rfl) a (by decide) ?_|refine Ap.sn (aX λ_=>rfl) rfl (by simp;omega) (by decide) (fU c) ?_)
  ((conv=>whnf);refine CF (i+1) ω ω ?_;(exact wB))
 obtain rfl:i=m.U.length:=ω
 rw[X5]
 repeat'(first|refine gE ?_|fail)
 (conv=>whnf)
 refine CJ (ι:=Nat) (λk=>[(2,.H .box [.z,.z]),(3,.H .box [.s .own (m.U.map (cL .own)),.s .own ((m.a0.take k).map (aH .own))]),(26,.H .one (jF .V m.a0)),(27,.H .one [I (m.a0.length)]),(28,.H .one [I ((k:Nat):Int)])]) (λk=>k<=m.a0.length) (λk=>m.a0.length - k) (0) ?_ (X0 _) λk l=>?_
 ·exact wB
 by_cases e:k<m.a0.length
 ·have d:=au e
  have a:(nth m.a0 k).length<=1048576:=b.2.2 _ (ar e)
  repeat'(first|refine gE ?_|(conv=>whnf);first|with_reducible refine CE (aa d) ?_|refine C9 (jT (nth m.a0 k) a) ?_|refine Ap.sn (aX λ_=>rfl) rfl (by simp;omega) (by decide) (fU e) ?_)
  ((conv=>whnf);refine CF (k+1) ω ω ?_;(exact wB))
 repeat'(first|refine gE ?_|fail)
 obtain rfl:k=m.a0.length:=ω
 rw[X5]
 rfl
def sJ(q:bO)(b:bO.sml q):zzA 206 false [.val (some 2) (bO.enc .V q)] .agg (bO.enc .own q):=by
 have a:q.a6.length<=1048576:=b.1;refine fO 10 [(1,6,[3,4,5,6,7,8])] Tryz.func206 rfl ?_ (.inr (bO.enc_fr _))
 repeat'(first|refine gP ?_|(conv=>whnf);first|refine CY (λ_=>rfl) (λ_=>rfl) a (by decide) ?_|refine CS (λ_=>rfl) (λ_=>rfl) a (by decide) ?_)
 rfl
def zH(q:bO)(b:bO.sml q):zzA 184 false [.val (some 2) (bO.enc .V q)] .agg (bO.enc .own q):=by
 have a:q.a6.length<=1048576:=b.1;refine fO 10 [(1,6,[3,4,5,6,7,8])] Tryz.func184 rfl ?_ (.inr (bO.enc_fr _))
 repeat'(first|refine gP ?_|(conv=>whnf);first|refine CY (λ_=>rfl) (λ_=>rfl) a (by decide) ?_|refine CS (λ_=>rfl) (λ_=>rfl) a (by decide) ?_)
 rfl
def sL(j:cK)(a:cK.sml j):zzA 207 false [.val (some 5) (cK.enc .V j)] .agg (cK.enc .own j):=by
 have b:j.X.T.length<=1048576:=a;refine fO 11 [] Tryz.func207 rfl ?_ (.inr (cK.enc_fr _))
 repeat'(first|refine gP ?_|(conv=>whnf);first|refine CS (λ_=>rfl) (λ_=>rfl) b (by decide) ?_)
 rfl
def pb(xs:List aB)(a:gT xs):zzA 181 false [.val none (bw .V xs)] .one (bw .own xs):=by
 have b:=a.1;refine fO 6 [] Tryz.func181 rfl ?_ (.inr (iM _))
 repeat'(first|refine gP ?_|(conv=>whnf);first|refine CS (λ_=>rfl) (λ_=>rfl) b (by decide) ?_)
 rfl
def U8(h:ac)(a:C):List C:=[.s .own (h.G.F.W.T.map (aH .own)),.s .own (h.G.F.W.a1.map (rB .own)),.s .own (h.G.F.Q.J.map (bh.enc .own)),I h.G.Calls,.s .own (h.G.w.map (rI .own)),.s .own (h.j.map (aB.enc .own)),.s .own (h.K.map (aA.enc .own)),.s .own (h.M.map (aF.enc .own)),.s .own (h.O.map (bt.enc .own)),a,.s .V (h.y.U.map (cL .V)),.s .V (h.y.a0.map (aH .V)),I h.a7.b8,.s .V (h.a7.a6.map (aV.enc .V)),I h.b3,I h.b2,I h.b1,I h.b,B h.u,I h.Z.X.a4,I h.Z.X.a2,.s .V (h.Z.X.T.map (rI .V)),I h.Z.b0,I h.Z.b]
def K6:List C:=[.z,.z,.z,I 0,.z,.z,.z,.z,.z,.z,.z,.z,I 0,.z,I 0,I 0,I 0,I 0,B false,I 0,I 0,.z,I 0,I 0]
def nS(h:ac)(c:ac.sml h):zzA 72 false [.val (some 24) (ac.enc .V h)] .agg (ac.enc .own h):=by
 obtain⟨d,e,g,j,k,b,l,n,o⟩:=c;have p:=e.1;have q:=g.1;have r:=j.1;have t:=k.1;have w:=b.1;refine fO 61 [] Tryz.func72 rfl ?_ (.inr (ac.enc_fr _))
 repeat'(first|refine gP ?_|(conv=>whnf);first|refine C9 (Dc h.G d) ?_|refine CS (λ_=>rfl) (λ_=>rfl) p (by decide) ?_|refine CS (λ_=>rfl) (λ_=>rfl) q (by decide) ?_|refine CS (λ_=>rfl) (λ_=>rfl) r (by decide) ?_|refine CS (λ_=>rfl) (λ_=>rfl) t (by decide) ?_)
 (conv=>whnf)
 refine CJ (ι:=Nat) (λi=>[(1,.H .box (U8 h (.s .V (h.S.map (aE.enc .V))))),(2,.H .box K6),(3,.H .one ([.s .own ((h.S.take i).map (aE.enc .own))])),(4,.H .one [I ((i:Nat):Int)])]) (λi=>i<=h.S.length) (λi=>h.S.length - i) (0) ?_ (X0 _) λi y=>?_
 ·exact wB
 by_cases a:i<h.S.length
 ·have u:=au a
  repeat'(first|refine gE ?_|(conv=>whnf);first|with_reducible refine CE (aa u) ?_|refine C9 (iZ (nth h.S i) (b.2 _ (ar a))) ?_|refine Ap.sn (aX λ_=>rfl) rfl (by simp;omega) (by decide) (fU a) ?_)
  ((conv=>whnf);refine CF (i+1) ω ω ?_;(exact wB))
 obtain rfl:i=h.S.length:=ω
 rw[X5]
 repeat'(first|refine gE ?_|(conv=>whnf);first|refine C9 (ge h.y l) ?_|refine C9 (sJ h.a7 n) ?_|refine C9 (sL h.Z o) ?_)
 rfl
def ry(h:ac)(c:ac.sml h):zzA 62 false [.val (some 24) (ac.enc .V h)] .agg (ac.enc .own h):=by
 obtain⟨d,e,g,j,k,b,l,n,o⟩:=c;have p:=g.1;have q:=j.1;have r:=k.1;have u:=b.1;refine fO 59 [(11,5,[38,39,40,41,42])] Tryz.func62 rfl ?_ (.inr (ac.enc_fr _))
 repeat'(first|refine gP ?_|(conv=>whnf);first|refine C9 (i6 h.G d) ?_|refine C9 (pb h.j e) ?_|refine CS (λ_=>rfl) (λ_=>rfl) p (by decide) ?_|refine CS (λ_=>rfl) (λ_=>rfl) q (by decide) ?_|refine CS (λ_=>rfl) (λ_=>rfl) r (by decide) ?_)
 (conv=>whnf)
 refine CJ (ι:=Nat) (λi=>[(1,.H .box (ac.enc .V h)),(2,.H .box K6),(3,.H .box (U8 h (.s .own ((h.S.take i).map (aE.enc .own))))),(32,.H .one (pQ .V h.S)),(33,.H .one [I (h.S.length)]),(34,.H .one [I ((i:Nat):Int)])]) (λi=>i<=h.S.length) (λi=>h.S.length - i) (0) ?_ (X0 _) λi w=>?_
 ·exact wB
 by_cases a:i<h.S.length
 ·have t:=au a
  repeat'(first|refine gE ?_|(conv=>whnf);first|with_reducible refine CE (aa t) ?_|refine C9 (lY (nth h.S i) (b.2 _ (ar a))) ?_|refine Ap.sn (aX λ_=>rfl) rfl (by simp;omega) (by decide) (fU a) ?_)
  ((conv=>whnf);refine CF (i+1) ω ω ?_;(exact wB))
 obtain rfl:i=h.S.length:=ω
 rw[X5]
 repeat'(first|refine gE ?_|(conv=>whnf);first|refine C9 (Ah h.y l) ?_|refine C9 (zH h.a7 n) ?_|refine C9 (DU h.Z o) ?_)
 rfl
theorem Ap.sm{a:List (List C)}(h1:∀r∈rows,r.length=sz)(e:r.length=sz)(f:rows.length+1<=1073741824)(b:by_<=1000)(c:a=rows++[r])(d:K a):Ap false rows [r] sz by_ K:=
 CU h1 ψ ψ (by simp;omega) (I5 (Nat.mul_le_mul ω b) (by decide)) c d
def Lv(y:aB)(a:List aB)(r:aB)(out:List aB)(done:Bool):kK (y::a) r out done=if ovl y r then none
  else if y.At+y.a8=r.At then kK a ⟨y.At,y.a8+r.a8⟩ out done
  else if r.At+r.a8=y.At then kK a ⟨r.At,r.a8+y.a8⟩ out done
  else if y.At > r.At/\done=false then kK a r (out++[r,y]) true
  else kK a r (out++[y]) done:=by rw[kK]
variable{xs:List aB}{pages:Int}
theorem wT(h:bG pages xs=true):jD xs/\∀y∈xs,0<=y.At/\1<=y.a8/\y.At+y.a8<=pages:=by
 unfold bG at h;simp only[I0,C0]at h;have d:∀i,i<xs.length->1<=(nth xs i).a8/\0<=(nth xs i).At/\(nth xs i).At<=pages - (nth xs i).a8:=λi a=>by grind [fB,g9,rangeIn]
 have e:∀i,i+1<xs.length->(nth xs i).At+(nth xs i).a8<(nth xs (i+1)).At:=λi a=>by grind [fB,g9]
 have f:∀j i,i<j->j<xs.length->(nth xs i).At+(nth xs i).a8<(nth xs j).At:=λj=>by
  induction j with
  | zero=>intro i a;omega
  | succ j k=>
   grind
 refine⟨⟨?_,λy g=>?_⟩,λy g=>?_⟩
 ·rw[List.pairwise_iff_getElem]
  intro i j a c b;have:=f j i b c
  rwa [bn (X2 a),bn (X2 c)]at this
 all_goals grind [aQ]
theorem iR[Inhabited α]{xs:List α}(a:i<xs.length):xs.drop i=nth xs i::xs.drop (i+1):=by
 rw[List.drop_eq_getElem_cons a,bn (X2 a)]
def dO(pages:Int)(xs:List aB)(r:aB):Option (List aB):=if bG pages xs=true/\rangeIn pages r=true then kK xs r [] false else none
def Hu(xs:List aB)(o:Option (List aB)):List C:=bw .own (o.getD xs)++[B o.isSome]
def vu(xs:List aB)(o:Option (List aB)):iv (Hu xs o):=aL (iM _) ⟨trivial,trivial⟩
theorem wJ[Inhabited α](R:Int->Int->Prop)(n:∀a b c,R a b->R b c->R a c)(f:α->Int)(xs:List α):(∀i,i<xs.length->i=0\/R (f (nth xs (i - 1))) (f (nth xs i)))↔xs.Pairwise (λa b=>R (f a) (f b)):=by
 constructor
 ·intro h
  have l:∀j i,i<j->j<xs.length->R (f (nth xs i)) (f (nth xs j)):=λj=>by
   induction j with
   | zero=>intro i d;omega
   | succ j o=>
    grind
  rw[List.pairwise_iff_getElem];intro i j d k g;have:=l j i g k
  rwa [bn (X2 d),bn (X2 k)]at this
 intro h i d;by_cases e:i=0
 ·exact .inl e
 right
 have:=List.pairwise_iff_getElem.1 h (i - 1) i ω d ω
 rwa [<-bn (X2 (show i - 1<xs.length by omega)),<-bn (X2 d)]at this
theorem Br[Inhabited α](f:α->Int)(xs:List α):(∀i,i<xs.length->∀o∈xs.take i,f o≠f (nth xs i))↔(xs.map f).Nodup:=by
 unfold List.Nodup;rw[List.pairwise_map,List.pairwise_iff_getElem];constructor
 ·intro h i j b a c
  have:=h j a xs[i] (List.mem_take_iff_getElem.2 ψ)
  rwa [bn (X2 a)]at this
 intro h i b o d;obtain⟨j,a,rfl⟩:=List.mem_take_iff_getElem.1 d;rw[bn (X2 b)]
 grind
def eO(s:aA)(a:Int):Prop:=16*s.R<=a/\a<=16*s.R+15/\(a - 16*s.R) % csz s.d=0/\bc s.a9 ((a - 16*s.R) / csz s.d)=true
def j9(sp:List aA)(a c:Int):Prop:=∃s∈sp,eO s a/\(c<0\/s.d=c)
def Ve(la:List aF)(a z:Int):Prop:=∃l∈la,a=16*l.R/\l.q=z
def Ni(sp:List aA)(la:List aF)(o:bt):Prop:=(∃s∈sp,eO s o.Addr/\s.d=aN o.q)\/Ve la o.Addr o.q
def nB(sp:List aA)(la:List aF)(a:Int):Prop:=j9 sp a (-1)\/∃l∈la,a=16*l.R
theorem mZ(f:pf sp la)(a:Int):(∃i,i<sp.length/\(16*(nth sp i).R<=a/\a<=16*(nth sp i).R+15)/\denotes sp la a=qK i (nth sp i) a)\/((∀s∈sp,¬(16*s.R<=a/\a<=16*s.R+15))/\((∃i,i<la.length/\bS (nth la i) a=true/\denotes sp la a = ⟨3,i,0,a - 16*(nth la i).R⟩)\/((∀l∈la,bS l a=false)/\denotes sp la a = ⟨0,0,0,0⟩))):=by
 cases d:sp.findIdx? (d7 · a) with
 | some i=>
  obtain⟨b,c,-⟩:=Y7.1 d;rw[<-bn (X2 b)]at c
  grind [gG,pf.sok,ar,denotes]
 | none=>
  have g:=List.findIdx?_eq_none_iff.1 d;refine .inr ⟨λs h j=>?_,?_⟩
  ·grind [gG,pf.sok]
  cases e:la.findIdx? (bS · a) with
  | some i=>
   obtain⟨b,c,-⟩:=Y7.1 e;rw[<-bn (X2 b)]at c
   grind [denotes]
  | none=>grind [denotes]
theorem Pm(l:pf h.K h.M) : d3 h a c=true↔j9 h.K a c:=by
 unfold d3;simp only[I0,C7,C0];constructor
 ·rintro⟨⟨b,f⟩,d⟩
  rcases mZ l a with⟨i,j,k,g⟩|⟨-,⟨i,j,-,g⟩|⟨-,g⟩⟩
  ·rw[g]at b f d
   simp only[qK]at b f d;refine⟨_,ar j,⟨k.1,k.2,f,?_⟩,by simpa using d⟩;cases e:bc (nth h.K i).a9 ((a - 16*(nth h.K i).R) / csz (nth h.K i).d) with
   | true=>rfl
   | false=>rw[e]at b;simp at b
  all_goals grind
 rintro⟨s,n,⟨o,p,q,r⟩,d⟩
 grind [aQ,jU,qK]
theorem xE(a:pf sp la)(c:l∈la):(∀s∈sp,¬(16*s.R<=16*l.R/\16*l.R<=16*s.R+15))/\bS l (16*l.R)=true/\∀i,i<la.length->bS (nth la i) (16*l.R)=true->nth la i=l:=by
 have k:=aT (a.lok _ c);have f:=cV (a.lok _ c);refine⟨λs g n=>?_,?_,λi d e=>?_⟩
 ·exact a.dis s g l c 0 ω ω
 ·grind [pf.lok,bS]
 obtain⟨j,h,rfl⟩:=aQ c;have o:=aT (a.lok _ (ar d));have b:=a.lok _ (ar d);unfold bR at b;rw[C0]at b;unfold bS at e;rw[I0,C0]at e;rw[a.one i j d h ((nth la j).R - (nth la i).R).toNat 0 ω ω ω]
theorem NQ(f:pf h.K h.M) : kV h o=true↔Ni h.K h.M o:=by
 unfold kV;simp only[I0,C7,C0];constructor
 ·rintro⟨b,a⟩
  rcases mZ f o.Addr with⟨i,d,g,c⟩|⟨-,⟨i,d,-,c⟩|⟨-,c⟩⟩
  ·rw[c]at a b
   simp only[qK]at a b;have e:bc (nth h.K i).a9 ((o.Addr - 16*(nth h.K i).R) / csz (nth h.K i).d)=true:=ψ
   rw[e]at a;exact .inl ⟨_,ar d,⟨g.1,g.2,b,e⟩,by simpa using a⟩
  ·rw[c]at a b
   simp only at a b;exact .inr ⟨_,ar d,ω,by simpa using a⟩
  grind
 rintro(⟨s,e,⟨k,n,p,q⟩,r⟩|⟨l,j,t,u⟩)
 ·grind [aQ,jU,qK]
 obtain⟨w,y,A⟩:=xE f j
 grind [mZ,ar]
theorem Gm(j:pf sp la)(a:Int):a∈ku sp la↔nB sp la a:=by
 constructor
 ·intro h
  unfold ku m6 at h;obtain⟨n,o,rfl⟩:=Y4.1 h;have c:=(Z4.1 o).2;unfold kN at c;simp only[I0,C7,C0]at c;obtain⟨b,d⟩:=c;rcases mZ j (n:Int) with⟨i,g,k,f⟩|⟨-,⟨i,g,-,f⟩|⟨-,f⟩⟩
  ·rw[f]at d b
   simp only[qK]at d b;refine .inl ⟨_,ar g,⟨k.1,k.2,b,?_⟩,.inl ω⟩;cases e:bc (nth sp i).a9 (((n:Int) - 16*(nth sp i).R) / csz (nth sp i).d) with
   | true=>rfl
   | false=>rw[e]at d;simp at d
  ·rw[f]at b
   simp only at b;exact .inr ⟨_,ar g,ω⟩
  grind
 rintro(⟨s,q,⟨r,c,t,u⟩,-⟩|⟨l,p,rfl⟩)
 ·grind [aQ,jU,wQ,qK]
 obtain⟨w,y,A⟩:=xE j p
 grind [mZ,ar,wQ]
def RH(xs:List aB)(p:Int):Prop:=∃r∈xs,r.At<=p/\p<r.At+r.a8
theorem gd : bG pages xs=true↔jD xs/\(∀y∈xs,0<=y.At/\1<=y.a8/\y.At+y.a8<=pages)/\1<=pages/\pages<=32:=by
 constructor
 ·grind [wT,bG]
 rintro⟨b,c,d⟩
 unfold bG;simp only[I0,C0];refine⟨cC.2 λi a=>?_,d⟩;have f:=c _ (ar a);unfold g9 rangeIn;simp only[I0,C0];refine⟨ω,?_⟩;by_cases e:i=0
 ·exact .inl e
 right
 have:=List.pairwise_iff_getElem.1 b.1 (i - 1) i ω a ω
 rwa [<-bn (X2 (show i - 1<xs.length by omega)),<-bn (X2 a)]at this
theorem Gz(h:bG pages xs=true)(p:Int):xs.any (wj p)=true↔RH xs p:=by
 obtain⟨-,c,d⟩:=gd.1 h;rw[I4];refine⟨λ⟨r,a,b⟩=>⟨r,a,?_⟩,λ⟨r,a,b⟩=>⟨r,a,?_⟩⟩
 all_goals grind [gc,wj]
theorem wP(i:Int):∀(f:List aB)(r:aB)(out:List aB),jD f->1<=r.a8->(∀y∈f,ovl y r=false)->(∀z∈out,z.At+z.a8<r.At/\∀y∈f,z.At+z.a8<y.At)->jD out->(∀y∈r::(out++f),0<=y.At/\y.At+y.a8<=i)->∃o,kK f r out false=some o/\jD o/\(∀y∈o,0<=y.At/\y.At+y.a8<=i)/\∀p,RH o p↔RH out p\/RH f p\/(r.At<=p/\p<r.At+r.a8)
 | [],r,out,_,l,_,D,g,j=>by
  refine⟨out++[r],by simp[kK],⟨List.pairwise_append.2 ⟨g.1,List.pairwise_singleton ..,ψ⟩,λy k=>?_⟩,ψ,λp=>by grind [RH]⟩;rcases V3.1 k with k|k
  ·exact g.2 y k
  grind
 | y::f,r,out,c,l,E,D,g,j=>by
  have M:=c.2 y ψ;have h:=E y ψ;have F:=c.head;have G:=j y (by simp);have H:=j r (by simp);have J:∀w∈f,¬(w.At<r.At+r.a8/\r.At<w.At+w.a8):=λw d=>by grind [ovl]
  have K:∀w∈f,1<=w.a8:=λw d=>c.2 w ψ
  rw[Lv,CB (by rw[h];simp)];unfold ovl at h;rw[z5]at h;by_cases n:y.At+y.a8=r.At
  ·rw[CD n]
   obtain⟨o,q,t,u,A⟩:=wP i f ⟨y.At,y.a8+r.a8⟩ out c.tail (by simp only;omega) (λw d=>by grind [ovl]) ψ g ψ
   grind [RH]
  rw[CB n];by_cases B:r.At+r.a8=y.At
  ·rw[CD B]
   obtain⟨o,q,t,u,A⟩:=wP i f ⟨r.At,r.a8+y.a8⟩ out c.tail (by simp only;omega) (λw d=>by grind [ovl]) ψ g ψ
   grind [RH]
  rw[CB B];by_cases C:y.At > r.At
  ·have L:r.At+r.a8<y.At:=ω
   rw[CD ⟨C,rfl⟩,qk c.tail l ψ];refine⟨_,rfl,⟨?_,λw d=>?_⟩,ψ,λp=>by grind [RH]⟩
   ·rw[O6]
    refine List.pairwise_append.2 ⟨g.1,?_,λa N b j=>?_⟩
    ·show(r::y::f).Pairwise _
     refine List.pairwise_cons.2 ⟨λw d=>?_,c.1⟩
     grind
    grind
   simp only[V3,List.mem_cons,List.not_mem_nil,or_false]at d;rcases d with(d|rfl|rfl)|d
   ·exact g.2 w d
   all_goals grind
  rw[CB λe=>C e.1];obtain⟨o,q,t,u,A⟩:=wP i f r (out++[y]) c.tail l ψ ψ ⟨List.pairwise_append.2 ⟨g.1,List.pairwise_singleton ..,ψ⟩,λw d=>by
      rcases V3.1 d with d|d
      · exact g.2 w d
      grind⟩ ψ
  grind [RH]
theorem vO{r:aB}(h:bG pages xs=true)(i:0<=r.At/\1<=r.a8/\r.At+r.a8<=pages)(c:∀p,r.At<=p->p<r.At+r.a8->¬RH xs p):∃o,dO pages xs r=some o/\bG pages o=true/\∀p,RH o p↔RH xs p\/(r.At<=p/\p<r.At+r.a8):=by
 obtain⟨j,k,l⟩:=gd.1 h;have b:rangeIn pages r=true:=by grind [rangeIn]
 unfold dO;rw[CD ⟨h,b⟩];obtain⟨o,n,d,f,q⟩:=wP pages xs r [] j i.2.1 (λy a=>by
   have:=k y a;unfold ovl;rw[z5];intro g;by_cases e:r.At<=y.At
   · exact c y.At e g.1 ⟨y,a,ω,ω⟩
   exact c r.At ω ω ⟨y,a,ω,g.2⟩) ψ ⟨List.Pairwise.nil,ψ⟩ ψ
 refine⟨o,n,gd.2 ⟨d,λy a=>⟨(f y a).1,d.2 y a,(f y a).2⟩,l⟩,λp=>?_⟩
 grind [RH]
structure Pg(t:aJ)(fr:List aB)(sp:List aA)(la:List aF):Prop where
 one:∀l∈la,∀p:Nat,(p:Int)∈lpgs l l.a3.toNat->∀q:Nat,q<t.J.length->(nth t.J q).e≠0->(nth t.J q).o=(nth t.J p).o->q=p
 bnd:∀p∈pgs sp la,p<t.J.length
 own:∀p:Nat,p<t.J.length->((nth t.J p).e≠0↔(p:Int)∈pgs sp la)
 fre:∀p:Nat,p<t.J.length->((nth t.J p).e≠0↔¬RH fr p)
 mesh:∀s∈sp,∀u∈sp,s.R≠u.R->(nth t.J s.R.toNat).o=(nth t.J u.R.toNat).o->meshable s u=true
structure aZ(h:ac)(E:List Int):Prop where
 ker:aC h.G=true
 rng:bG (eU h) h.j=true
 lay:bq h.K h.M=true
 srs:h.K.Pairwise λa b=>a.R<b.R
 srl:h.M.Pairwise λa b=>a.R<b.R
 pg:Pg (tbl h) h.j h.K h.M
 mail:bQ h.y=true
 nc:h.S.length=h.y.U.length
 quar:gi h.a7=true
 snc:∀x∈h.a7.a6,x.b7<=h.b2
 cach:∀c∈h.S,bx c=true
 nums:cq h=true
 osr:h.O.Pairwise λa b=>a.Addr<b.Addr
 onu:∀o∈h.O,1<=o.Id/\o.Id<=h.b - 1/\0<=o.a5/\o.a5<=h.S.length - 1
 oid:(h.O.map (·.Id)).Nodup
 oow:∀o∈h.O,Ni h.K h.M o
 hca:∀c∈h.S,∀k:Nat,k<c.a.length->∀a∈nth c.a k,j9 h.K a k
 hqu:∀x∈h.a7.a6,j9 h.K x.Addr x.d
 hfl:∀a∈aR h.y,j9 h.K a (-1)
 hin:∀a∈E,j9 h.K a (-1)
 nd:(E++holders h).Nodup
 mem:∀a,a∈E++holders h↔nB h.K h.M a
 job:h.u=true->kj h.Z=true/\(∃s∈h.K,s.R=h.Z.X.a4)/\∃s∈h.K,s.R=h.Z.X.a2
 noj:h.u=false->tl h.Z=true
variable{E:List Int}
theorem aZ.L(a:aZ h E):pf h.K h.M:=pf.of a.lay
theorem Af(t:aJ)(f:Int):(pagesOn t f).Nodup:=by grind [List.nodup_range,pagesOn,j8]
def Rt{l:List Int}(b:l.Nodup)(d:a∈l)(c:∀x∈l,x=a):l.length=1:=by
 match l with
 | []=>cases d
 | [_]=>rfl
 | x::y::r=>
  exfalso;have e:=c x (by simp);have f:=c y (by simp);rw[e,f]at b;simp at b
theorem d9(a:s∈sp):s.R∈pgs sp la:=by grind [pgs]
theorem gl(a:l∈la)(b:p∈lpgs l l.a3.toNat):p∈pgs sp la:=by grind [pgs]
theorem U2(b:bq h.K h.M=true)(N:bG (eU h) h.j=true)(A:pages0 h=true)(r:pW h=true):Pg (tbl h) h.j h.K h.M:=by
 have B:=pf.of b;obtain⟨C,D,t⟩:=tp A;have E:∀p:Nat,p<eU h->((nth (tbl h).J p).e≠0↔¬RH h.j p):=λp a=>by grind [fB,Gz,pages0,ww]
 refine⟨λl w p c q F e f=>?_,D,t,E,λs G u H J O=>?_⟩
 ·obtain⟨i,y,rfl⟩:=aQ w
  obtain⟨k,g,n⟩:=d4.1 c;have a:p<eU h:=by grind [gl]
  have d:=(t p a).2 (gl w c);have K:=C i y k g;rw[<-n,fD a d]at K;have P:(p:Int)∈pagesOn (tbl h) (nth (tbl h).J p).o:=eR.2 ⟨a,d,rfl⟩;have Q:(q:Int)∈pagesOn (tbl h) (nth (tbl h).J p).o:=eR.2 ⟨F,e,f⟩
  grind [List.length_eq_one_iff]
 obtain⟨i,y,rfl⟩:=aQ G;obtain⟨j,R,rfl⟩:=aQ H;have L:∀k,k<h.K.length->af (tbl h) (nth h.K k).R=nth (tbl h).J (nth h.K k).R.toNat:=λk g=>by
  have S:=aI (B.sok _ (ar g))
  grind [d9,Bi,nth]
 unfold pW at r;rw[cC]at r;rcases Nat.lt_trichotomy i j with o|M|o
 all_goals grind [fB,gW,mL]
theorem AX(sp:List aA):dh sp.length (y5 sp)=true↔sp.Pairwise λa b=>a.R<b.R:=by
 rw[cC];refine Iff.trans ?_ (wJ (λa b:Int=>a<b) ω (λs:aA=>s.R) sp)
 grind [y5]
theorem By(la:List aF):dh la.length (yz la)=true↔la.Pairwise λa b=>a.R<b.R:=by
 rw[cC];refine Iff.trans ?_ (wJ (λa b:Int=>a<b) ω (λs:aF=>s.R) la)
 grind [yz]
theorem Uq(o:bq h.K h.M=true)(C:bG (eU h) h.j=true)(h1:h.K.Pairwise λa b=>a.R<b.R)(A:h.M.Pairwise λa b=>a.R<b.R)(c:Pg (tbl h) h.j h.K h.M):pages0 h=true/\pW h=true:=by
 have u:=pf.of o;constructor
 ·unfold pages0
  simp only[I0];refine⟨⟨⟨(AX _).2 h1,cC.2 λi l=>?_⟩,O4.2 λp n=>O0 (c.bnd p n)⟩,cC.2 λp n=>?_⟩
  ·unfold sX
   rw[I0];refine⟨fB ((By _).2 A) l,cC.2 λk w=>?_⟩;have y:=ar l;have D:=aT (u.lok _ y);obtain⟨p,n⟩ : ∃p:Nat,(nth h.M i).R+(k:Nat)=(p:Nat):=⟨((nth h.M i).R+k).toNat,ω⟩
   have q:(p:Int)∈lpgs (nth h.M i) (nth h.M i).a3.toNat:=d4.2 ψ;have d:p<eU h:=by have:=c.bnd _ (gl (sp:=h.K) y q);exact Int.ofNat_lt.1 this
   have r:=(c.own p d).2 (gl y q);unfold xS;rw[C0,n,fD d r];refine Rt (Af ..) (eR.2 ⟨d,r,rfl⟩) λx E=>?_
   grind [wg,eR,Pg.one]
  unfold ww;rw[I0,C0];refine⟨c.own p n,?_⟩;have F:=c.fre p n
  grind [Gz]
 unfold pW;refine cC.2 λi l=>cC.2 λj G=>?_
 have g:j<h.K.length:=ω
 have t:∀k,k<h.K.length->af (tbl h) (nth h.K k).R=nth (tbl h).J (nth h.K k).R.toNat:=λk w=>by
  have H:=aI (u.sok _ (ar w));have J:=c.bnd _ (d9 (la:=h.M) (ar w))
  grind [Bi,eU,tbl]
 unfold mL;rw[t i l,t j g,C7,C0];by_cases e:(nth (tbl h).J (nth h.K i).R.toNat).o=(nth (tbl h).J (nth h.K j).R.toNat).o
 ·refine .inr (c.mesh _ (ar l) _ (ar g) (λB=>?_) e)
  have:=cQ (f:=(·.R)) u.nd l g B;omega
 exact .inl e
theorem GI(c:cq h=true)(d:pf h.K h.M):gj h=true↔(h.O.Pairwise λa b=>a.Addr<b.Addr)/\(∀o∈h.O,1<=o.Id/\o.Id<=h.b - 1/\0<=o.a5/\o.a5<=h.S.length - 1)/\(h.O.map (·.Id)).Nodup/\∀o∈h.O,Ni h.K h.M o:=by
 unfold cq at c;rw[C0]at c;refine Iff.trans ?_ (and_congr (wJ (λa b:Int=>a<b) ω (λo:bt=>o.Addr) h.O) (and_congr Iff.rfl (and_congr (Br (λo:bt=>o.Id) h.O) Iff.rfl)));unfold gj;rw[gc ω ω,cC];have e:∀i,i<h.O.length->(objAt (h.b - 1) h i=true↔(i=0\/(nth h.O (i - 1)).Addr<(nth h.O i).Addr)/\(1<=(nth h.O i).Id/\(nth h.O i).Id<=h.b - 1/\0<=(nth h.O i).a5/\(nth h.O i).a5<=h.S.length - 1)/\(∀o∈h.O.take i,o.Id≠(nth h.O i).Id)/\Ni h.K h.M (nth h.O i)):=λi f=>by grind [NQ,objAt,iy,lO]
 grind [aQ,ar]
def x6(b:pf h.K h.M):js h=true↔(∀c∈h.S,∀k:Nat,k<c.a.length->∀a∈nth c.a k,j9 h.K a k)/\(∀x∈h.a7.a6,j9 h.K x.Addr x.d)/\∀a∈aR h.y,j9 h.K a (-1):=by
 rw[pL];simp only[O4,fp,cC,tq,iu,kZ,Pm b,and_assoc]
theorem Ko : 0<=gQ h p↔∃s∈h.K,s.R=p:=by grind [gQ,cZ,mU]
theorem aZ.of(g:dM h=true):aZ h []:=by
 unfold dM kM at g;simp only[I0]at g;obtain⟨⟨⟨⟨⟨⟨⟨⟨⟨⟨r,l⟩,e⟩,j⟩,n⟩,c⟩,t⟩,H⟩,o⟩,k,b⟩,d⟩:=g;have p:=pf.of e;rw[uG e j]at n;have f:=j;unfold pages0 at f;simp only[I0]at f;unfold du at c;simp only[I0,C0]at c;unfold jx at b;simp only[I0,C0]at b;obtain⟨⟨u,w⟩,J⟩:=b;obtain⟨y,A,B,C⟩:=(GI o p).1 k;obtain⟨D,E,F⟩:=(x6 p).1 u;unfold mF at t;have G:=cC.1 f.1.1.2;refine⟨r,l,e,(AX _).1 f.1.1.1,(By _).1 (cC.2 λi K=>?_),U2 e l j n,c.1.1,c.1.2,c.2,ψ,ψ,o,y,A,B,C,D,E,F,ψ,(by simpa using w),λa=>?_,λq=>?_,λq=>?_⟩
 ·grind [sX]
 ·grind [Gm,sN,sE]
 ·unfold tF at d
  rw[CD q]at d
  grind [Ko]
 grind [tF]
theorem aZ.to(b:aZ h []):dM h=true:=by
 have c:=b.L;obtain⟨e,g⟩:=Uq b.lay b.rng b.srs b.srl b.pg;have d:=(GI b.nums c).2 ⟨b.osr,b.onu,b.oid,b.oow⟩;have f:=(x6 c).2 ⟨b.hca,b.hqu,b.hfl⟩;unfold dM kM;simp only[I0];refine⟨⟨⟨⟨⟨⟨⟨⟨⟨⟨b.ker,b.rng⟩,b.lay⟩,e⟩,by grind [uG,aZ.lay]⟩,?_⟩,?_⟩,O4.2 b.cach⟩,b.nums⟩,d,?_⟩,?_⟩
 ·grind [aZ.mail,aZ.quar,aZ.nc,du]
 ·grind [aZ.snc,mF]
 ·unfold jx
  have i:(holders h).Nodup:=by simpa using b.nd
  have j:∀a,a∈holders h↔a∈ku h.K h.M:=λa=>by rw[Gm c,<-b.mem a];simp
  grind [wb,List.Perm.length_eq]
 grind [aZ.job,Ko,aZ.noj,tF]
def dele(xs:List α)(i:Nat):List α:=xs.take i++xs.drop (i+1)
theorem eY(xs:List α)(i:Nat):(dele xs i).Sublist xs:=by
 unfold dele;rw[<-List.eraseIdx_eq_take_drop_succ];grind
theorem BZ[Inhabited α]{xs:List α}(a:i<xs.length):xs.Perm (nth xs i::dele xs i):=by
 have:xs=xs.take i++nth xs i::xs.drop (i+1):=by grind [iR,List.take_append_drop]
 conv=>lhs;rw[this]
 exact List.perm_middle
theorem iU{α:Type}[Inhabited α](f:α->List Int)(a:Int):∀(xs:List α)(i:Nat)(y:α),i<xs.length->((xs.set i y).flatMap f).count a+(f (nth xs i)).count a=(xs.flatMap f).count a+(f y).count a
 | [],i,_,h=>by cases h
 | x::xs,0,y,_=>by
  show((y::xs).flatMap f).count a+(f x).count a=((x::xs).flatMap f).count a+(f y).count a
  grind
 | x::xs,i+1,y,h=>by
  have:=iU f a xs i y (by simpa using h);show((x::xs.set i y).flatMap f).count a+(f (nth xs i)).count a=((x::xs).flatMap f).count a+(f y).count a
  grind
theorem lR(a:List (List Int)):a.flatten=a.flatMap λx=>x:=by simp_all
theorem j9.any(h:j9 sp a c):j9 sp a (-1):=by
 obtain⟨s,b,d,-⟩:=h;exact⟨s,b,d,.inl (by decide)⟩
def aZ.cells(a:aZ h E)(c:aC k=true)(b:k.F.Q=h.G.F.Q):aZ {h with G:=k} E:=
 {a with
   ker:=c
   rng:=by show bG ((k.F.Q.J.length:Nat):Int) h.j=true;rw[b];exact a.rng
   pg:=by show Pg k.F.Q h.j h.K h.M;rw[b];exact a.pg}
theorem aZ.dropO(b:aZ h E)(e:i<h.O.length)(j:j9 h.K (nth h.O i).Addr (-1)):aZ {h with O:=dele h.O i} ((nth h.O i).Addr::E):=by
 have f:(E++holders h).Perm (((nth h.O i).Addr::E)++holders {h with O:=dele h.O i}):=by
  have g:=(BZ e).map (·.Addr);refine List.perm_iff_count.2 λa=>?_
  have k:=g.count_eq a
  grind [holders,cJ]
 have c:(dele h.O i).Sublist h.O:=eY ..;exact {b with
   osr:=b.osr.sublist c
   onu:=λo d=>b.onu o (c.subset d)
   oid:=b.oid.sublist (c.map _)
   oow:=λo d=>b.oow o (c.subset d)
   hin:=λa l=>by grind [aZ.hin]
   nd:=f.nodup_iff.1 b.nd
   mem:=λa=>by grind [aZ.mem]}
def pO(c:aE)(k:Nat)(a:Int):aE:=⟨c.a.set k (nth c.a k++[a])⟩
theorem aZ.put{t k:Nat}(e:aZ h (a::E))(f:t<h.S.length)(g:k<(nth h.S t).a.length)(p:j9 h.K a k)(q:bx (pO (nth h.S t) k a)=true):aZ {h with S:=h.S.set t (pO (nth h.S t) k a)} E:=by
 have i:(a::E++holders h).Perm (E++holders {h with S:=h.S.set t (pO (nth h.S t) k a)}):=by
  refine List.perm_iff_count.2 λb=>?_
  have r:=iU (λc:aE=>c.a.flatten) b h.S t (pO (nth h.S t) k a) f;have l:=iU (λx:List Int=>x) b (nth h.S t).a k (nth (nth h.S t).a k++[a]) g;rw[<-lR,<-lR]at l
  grind [pO,holders,cJ]
 exact {e with
   nc:=by grind [aZ.nc]
   cach:=λc d=>by grind [aZ.cach]
   onu:=by show ∀o∈h.O,1<=o.Id/\o.Id<=h.b - 1/\0<=o.a5/\o.a5<=(h.S.set t _).length - 1;rw[Z1];exact e.onu
   hca:=λc d j u b n=>by
     rcases O7 d with d|rfl
     all_goals grind [aZ.hca,bI,ar,pO]
   hin:=λb n=>e.hin b ψ
   nd:=i.nodup_iff.1 e.nd
   mem:=λb=>by grind [aZ.mem]}
theorem aZ.toQuar{x:aV}{q:bO}{out:List aV}(c:aZ h (x.Addr::E))(f:gi q=true)(d:h.a7.a6++[x]=out++q.a6)(j:x.b7<=h.b2)(k:j9 h.K x.Addr x.d):aZ {h with a7:=q} (out.map (·.Addr)++E):=by
 have e:∀y∈out++q.a6,y.b7<=h.b2/\j9 h.K y.Addr y.d:=λy a=>by
  rw[<-d]at a;rcases V3.1 a with a|a
  ·exact⟨c.snc y a,c.hqu y a⟩
  grind
 have g:(x.Addr::E++holders h).Perm ((out.map (·.Addr)++E)++holders {h with a7:=q}):=by
  refine List.perm_iff_count.2 λb=>?_
  have i:=Z0 (λl:List aV=>(l.map (·.Addr)).count b) d;simp only[V6,Y6,X6,List.map_nil,List.count_singleton]at i
  grind [holders,cJ]
 exact {c with
   quar:=f
   snc:=(ψ)
   hqu:=(ψ)
   hin:=λb n=>by grind [j9.any,aZ.hin]
   nd:=g.nodup_iff.1 c.nd
   mem:=λb=>by grind [aZ.mem]}
def Ai(b i:Int):Int:=((BitVec.ofInt IntKind.i64.bits b &&& ~~~BitVec.ofInt IntKind.i64.bits (2 ^ i.toNat)).toNat:Nat)
def nk(s:aA)(i:Int):aA:={s with a9:=Ai s.a9 i}
theorem eS(b i:Int):bc b i=true↔0<=b/\0<=i/\i<=15/\b.toNat.testBit i.toNat=true:=by grind [bc]
variable{b:Int}
theorem GY{i:Int}(d:0<=b/\b<=65535)(a:0<=i/\i<=15)(j:Nat):(Ai b i).toNat.testBit j=(b.toNat.testBit j&&decide (i.toNat≠j)):=by
 have e:(2:Int) ^ i.toNat<=32768/\0<=(2:Int) ^ i.toNat:=by
  obtain⟨n,rfl⟩:=O3 a.1;rw[I3];have:(2:Nat) ^ n<=2 ^ 15:=Nat.pow_le_pow_right (by decide) ω
  grind
 unfold Ai;rw[I3,BitVec.testBit_toNat,BitVec.getLsbD_and,BitVec.getLsbD_not,<-BitVec.testBit_toNat,<-BitVec.testBit_toNat,qC ω,qC ω];rw[show((2:Int) ^ i.toNat).toNat=2 ^ i.toNat by rw[show(2:Int) ^ i.toNat=((2 ^ i.toNat:Nat):Int) by norm_cast,I3],Nat.testBit_two_pow];by_cases c:j<64
 ·rw[show decide (j<IntKind.i64.bits)=true from O0 c,Bool.true_and]
  grind
 rw[Nat.testBit_lt_two_pow (x:=b.toNat) (i:=j) (C4 (show b.toNat<2 ^ 16 by omega) (Nat.pow_le_pow_right (by decide) ω))]
 rfl
theorem Di{i:Int}(a:0<=b/\b<=65535):0<=Ai b i/\Ai b i<=b:=by grind [qC,Nat.and_le_left,Ai]
theorem GR{i:Int}(a:0<=b/\b<=65535)(c:0<=i/\i<=15)(j:Int):bc (Ai b i) j=true↔bc b j=true/\j≠i:=by grind [eS,GY,Di]
theorem dP(h:bi s=true):0<=s.a9/\s.a9<=65535:=by
 unfold bi at h;simp only[C0]at h;have:=Jj s.d;omega
theorem Kf(h:bi s=true)(i:Int):bi (nk s i)=true:=by
 have b:=dP h;have a:=Di (i:=i) b;unfold bi at h;rw[C0]at h;obtain⟨c,d,e,f,j,g⟩:=h;exact O0 ⟨c,d,e,f,a.1,O5 a.2 g⟩
theorem Bc{u:aA}(e:bi s=true){i:Int}(f:0<=i/\i<=15)(h:meshable s u=true):meshable (nk s i) u=true:=by
 unfold meshable at h |-;simp only[I0,C0]at h |-;obtain⟨⟨a,b⟩,c,d,g⟩:=h;refine⟨⟨Kf a i,b⟩,c,d,?_⟩;refine Nat.eq_of_testBit_eq λj=>?_
 grind [GY,dP,nk]
def d5(s:aA)(a:Int):Int:=(a - 16*s.R) / csz s.d
theorem q8(h:bi s=true)(b:16*s.R<=a/\a<=16*s.R+15):0<=d5 s a/\d5 s a<=15:=by
 have c:=aI h
 grind [cg,d5]
theorem yL(h:bi s=true)(c:(a - 16*s.R) % csz s.d=0)(d:(b - 16*s.R) % csz s.d=0)(e:d5 s a=d5 s b):a=b:=by
 have f:=aI h
 grind [cg,d5]
theorem AJ(h:bi s=true)(k:eO s a)(b:Int):eO (nk s (d5 s a)) b↔eO s b/\b≠a:=by
 obtain⟨l,n,o,p⟩:=k;have c:=q8 h ⟨l,n⟩;unfold eO;simp only[nk];rw[GR (dP h) c];constructor
 ·rintro⟨g,i,d,j,f⟩
  exact⟨ψ,λe=>f (by rw[e];rfl)⟩
 rintro⟨⟨g,i,d,j⟩,f⟩
 exact⟨g,i,d,j,λe=>f (yL h d o e)⟩
theorem ee[Inhabited α]{xs:List α}{y z:α}(h:z∈xs.set i y):z=y\/∃j,j<xs.length/\j≠i/\nth xs j=z:=by
 obtain⟨j,a,rfl⟩:=List.mem_iff_getElem.1 h;rw[List.getElem_set];by_cases e:i=j
 ·subst e;simp
 rw[CB e];rw[Z1]at a;exact .inr ⟨j,a,λx=>e x.symm,bn ψ⟩
theorem jY[Inhabited α]{xs:List α}(y:α)(a:j<xs.length)(e:j≠i):nth xs j∈xs.set i y:=by
 have:nth (xs.set i y) j=nth xs j:=by grind [bI]
 grind [ar]
theorem jl{xs:List α}(y:α)(a:i<xs.length):y∈xs.set i y:=by grind [List.mem_iff_getElem]
def Nc(k:Int)(a:i<sp.length):(sp.set i (nk (nth sp i) k)).map (·.R)=sp.map (·.R):=by
 rw[Z6];refine List.ext_getElem (by simp) λj b c=>?_
 rw[List.getElem_set];split
 ·rename_i e;subst e
  rw[List.getElem_map];show(nth sp i).R=_;rw[bn (X2 a)]
 rfl
def j9.set(q:pf sp la)(k:i<sp.length)(l:eO (nth sp i) a)(b c:Int):j9 (sp.set i (nk (nth sp i) (d5 (nth sp i) a))) b c↔j9 sp b c/\b≠a:=by
 have g:=q.sok _ (ar k);constructor
 ·rintro⟨s,o,d,h⟩
  rcases ee o with rfl|⟨j,n,r,rfl⟩
  ·have:=(AJ g l b).1 d
   exact⟨⟨_,ar k,this.1,h⟩,this.2⟩
  refine⟨⟨_,ar n,d,h⟩,λe=>?_⟩;subst e;have:=cQ (f:=(·.R)) q.nd k n (by have t:=l.1;have u:=l.2.1;have w:=d.1;have y:=d.2.1;omega);omega
 rintro⟨⟨s,o,d,h⟩,p⟩
 obtain⟨j,n,rfl⟩:=aQ o;by_cases e:j=i
 ·subst e
  exact⟨_,jl _ k,(AJ g l b).2 ⟨d,p⟩,h⟩
 exact⟨_,jY _ n e,d,h⟩
theorem aZ.give(d:aZ h (a::E))(t:i<h.K.length)(w:eO (nth h.K i) a):aZ {h with K:=h.K.set i (nk (nth h.K i) (d5 (nth h.K i) a))} E:=by
 have B:=d.L;have G:=B.sok _ (ar t);have O:=q8 G ⟨w.1,w.2.1⟩;have f:=λb c=>j9.set B t w b c
 have H:=Nc (d5 (nth h.K i) a) t;generalize J:h.K.set i (nk (nth h.K i) (d5 (nth h.K i) a))=sp at f H;have p:pgs sp h.M=pgs h.K h.M:=by grind [pgs]
 have g:=d.nd;rw[List.cons_append]at g;obtain⟨P,g⟩:=List.nodup_cons.1 g;have y:∀b,b∈E++holders h->b≠a:=ψ
 have n:∀b,b∈holders h->b≠a:=ψ
 have Q:∀l∈h.M,16*l.R≠a:=λl R e=>(xE B R).1 _ (ar t) (by have a1:=w.1;have a2:=w.2.1;omega)
 have q:∀s∈sp,∃u∈h.K,u.R=s.R/\(s=u\/s=nk u (d5 (nth h.K i) a)):=λs r=>by
  rw[<-J]at r;rcases ee r with rfl|⟨j,hj,S,rfl⟩
  ·exact⟨_,ar t,rfl,.inr rfl⟩
  grind [ar]
 have T:∀u∈h.K,∃s∈sp,s.R=u.R:=λu C=>by
  have:u.R∈sp.map (·.R):=ψ
  grind
 exact {d with
   lay:=by grind [aZ.lay,Kf,bq]
   srs:=by
     have A:(h.K.map (·.R)).Pairwise (λa b=>a<b):=List.pairwise_map.2 d.srs
     grind
   pg:=⟨d.pg.one,by rw[p];exact d.pg.bnd,by rw[p];exact d.pg.own,d.pg.fre,λs r u C y U=>by
     obtain⟨V,K,W,X⟩:=q s r;obtain⟨Y,M,Z,hu2⟩:=q u C;have A:=d.pg.mesh V K Y M ω (by rw[W,Z];exact U)
     grind [Bc,pf.sok,gW]⟩
   oow:=λo ho=>by
     have N:o.Addr≠a:=n _ (by grind [holders]);rcases d.oow o ho with⟨s,r,A,h2⟩|A
     · obtain⟨u,C,g1,D⟩:=(f o.Addr (aN o.q)).2 ⟨⟨s,r,A,.inr h2⟩,N⟩
       refine .inl ⟨u,C,g1,?_⟩;rcases D with D|D
       · have:=aI (B.sok _ r);omega
       exact D
     exact .inr A
   hca:=λc hc k hk b F=>(f b k).2 ⟨d.hca c hc k hk b F,n b (by
     unfold holders cJ;grind [List.mem_flatten,ar])⟩
   hqu:=λx hx=>(f _ _).2 ⟨d.hqu x hx,n _ (by grind [holders])⟩
   hfl:=λb F=>(f _ _).2 ⟨d.hfl b F,n _ (by grind [holders])⟩
   hin:=λb F=>(f _ _).2 ⟨d.hin b ψ,y b ψ⟩
   nd:=g
   mem:=λb=>by
     show b∈E++holders h↔nB sp h.M b
     grind [aZ.mem,nB]
   job:=λhm=>by grind [aZ.job]}
def unmN(k:ah)(p:Int):Nat->ah
 | 0=>k
 | n+1=>cj (unmN k p n) (p+n)
def gZ{k:ah}(h:aC k=true)(p:Int):∀n,aC (unmN k p n)=true
 | 0=>h
 | n+1=>p9 _ (gZ h p n)
theorem fj(k:ah)(p:Int):∀n,(unmN k p n).F.Q.J.length=k.F.Q.J.length/\(unmN k p n).Calls=k.Calls/\(unmN k p n).w=k.w
 | 0=>⟨rfl,rfl,rfl⟩
 | n+1=>by
  obtain⟨a,b,c⟩:=fj k p n;obtain⟨d,e,f⟩:=jH (unmN k p n) (p+n);exact⟨d.trans a,e.trans b,f.trans c⟩
theorem lF(h:aC k=true)(g:0<=p/\p<k.F.Q.J.length)(q:Nat):nth (cj k p).F.Q.J q=if(q:Int)=p then⟨0,0⟩ else nth k.F.Q.J q:=by
 have c:af k.F.Q p=nth k.F.Q.J p.toNat:=by grind [af]
 unfold cj;split
 ·rename_i a
  split
  ·rename_i i
   rw[c]at a;have b:=(br.1 (aG.1 h).2.2.1).1 p.toNat ω;unfold lS at b;rw[C0]at b;have d:=b.2.2.1 a;rw[show q=p.toNat by omega];generalize nth k.F.Q.J p.toNat=e at a d;obtain⟨m,f⟩:=e
   grind
  rfl
 grind [ni,bI,mb]
theorem nw{k:ah}(h:aC k=true){p:Int}(a:0<=p):∀n:Nat,p+n<=k.F.Q.J.length->∀q:Nat,nth (unmN k p n).F.Q.J q=if p<=q/\(q:Int)<p+n then⟨0,0⟩ else nth k.F.Q.J q
 | 0,_,q=>by rw[CB ω];rfl
 | n+1,b,q=>by
  have c:=nw h a n ω q;have d:=lF (gZ h p n) (p:=p+n) ⟨ω,by grind [fj]⟩ q;show nth (cj (unmN k p n) (p+n)).F.Q.J q=_
  grind
theorem EZ(f:α->List β){xs b:List α}(h:xs.Sublist b):(xs.flatMap f).Sublist (b.flatMap f):=by
 induction h with
 | slnil=>grind
 | cons a _ c=>grind
 | cons_cons a _ c=>grind
theorem yF(c:aZ h E)(Y:1<=n)(w:sp.Sublist h.K)(D:la.Sublist h.M)(j:∀q:Int,p<=q->q<p+n->q∈pgs h.K h.M)(K:0<=p)(F:∀q,q∈pgs sp la↔q∈pgs h.K h.M/\¬(p<=q/\q<p+n)) :
  ∃o,dO (eU h) h.j ⟨p,n⟩ = some o/\aC (unmN h.G p n)=true/\bG ((unmN h.G p n).F.Q.J.length:Nat) o=true/\bq sp la=true/\Pg (unmN h.G p n).F.Q o sp la:=by
 have t:=c.pg.bnd _ (j (p+n - 1) ω ω);have a:=(fj h.G p n).1;have y:p+n<=h.G.F.Q.J.length:=by unfold tbl at t;omega
 have g:=nw c.ker K n y;obtain⟨o,Q,R,S⟩:=vO (r:=⟨p,n⟩) c.rng ⟨K,by simp only;omega,y⟩ λq M N=>by
  simp only at M N;obtain⟨m,rfl⟩:=O3 (show 0<=q by omega);have A:m<(tbl h).J.length:=by unfold tbl;omega
  exact(c.pg.fre m A).1 ((c.pg.own m A).2 (j _ M N))
 refine⟨o,Q,gZ c.ker p n,by rw[a];exact R,?_,?_⟩
 ·obtain⟨T,U,V⟩:=eA c.lay
  unfold bq;simp only[I0,C0];exact⟨⟨O4.2 λs d=>O4.1 T s (w.subset d),O4.2 λl d=>O4.1 U l (D.subset d)⟩,V.sublist ((w.map _).append (EZ _ D))⟩
 have i:∀q:Nat,(q:Int)∈pgs sp la->nth (unmN h.G p n).F.Q.J q=nth (tbl h).J q:=λq f=>by rw[g,CB ((F q).1 f).2];rfl
 have b:∀q:Nat,(nth (unmN h.G p n).F.Q.J q).e≠0↔(nth (tbl h).J q).e≠0/\¬(p<=q/\(q:Int)<p+n):=λq=>by
  rw[g];by_cases e:p<=q/\(q:Int)<p+n
  ·rw[CD e];exact⟨λx=>absurd rfl x,λx=>absurd e x.2⟩
  rw[CB e];exact⟨λx=>⟨x,e⟩,λx=>x.1⟩
 refine⟨λl d q f r O G B=>?_,λq f=>?_,λq f=>?_,λq f=>?_,λs d u H J P=>?_⟩
 ·have C:=(b r).1 G
  rw[a]at O;rw[i q (gl d f),g,CB C.2]at B;exact c.pg.one l (D.subset d) q f r O C.1 B
 ·rw[a];exact c.pg.bnd q ((F q).1 f).1
 ·rw[a]at f
  rw[b,F,c.pg.own q f]
 ·rw[a]at f
  rw[b,S,c.pg.fre q f];simp only
  grind
 have k:∀s∈sp,0<=s.R:=λs d=>(aI (c.L.sok s (w.subset d))).1
 have W:=i s.R.toNat (by rw[Int.toNat_of_nonneg (k s d)];exact d9 d);have X:=i u.R.toNat (by rw[Int.toNat_of_nonneg (k u H)];exact d9 H);rw[W,X]at P;exact c.pg.mesh s (w.subset d) u (w.subset H) J P
theorem dn[Inhabited α]{xs:List α}{k:Nat}{z:α} : z∈dele xs k↔∃j,j<xs.length/\j≠k/\nth xs j=z:=by
 unfold dele;rw[V3];constructor
 ·rintro(h|h)
  ·obtain⟨j,a,rfl⟩:=List.mem_take_iff_getElem.1 h
   exact⟨j,ω,ω,bn ψ⟩
  obtain⟨j,a,rfl⟩:=List.mem_drop_iff_getElem.1 h;exact⟨k+1+j,ω,ω,bn ψ⟩
 rintro⟨j,a,b,rfl⟩
 rw[bn (X2 a)];by_cases e:j<k
 ·grind [List.mem_take_iff_getElem]
 refine .inr (List.mem_drop_iff_getElem.2 ⟨j - (k+1),ω,?_⟩)
 congr 1;omega
theorem qo{q:Int} : q∈pgs sp la↔(∃s∈sp,s.R=q)\/∃l∈la,q∈lpgs l l.a3.toNat:=by grind [pgs]
def wI(h:s.a9=0)(a:Int):¬eO s a:=by
 rintro⟨-,-,-,b⟩
 rw[eS,h]at b;simp at b
theorem aZ.giveSpan(d:aZ h E)(C:i<h.K.length)(r:(nth h.K i).a9=0)(R:h.u=true->(nth h.K i).R≠h.Z.X.a4/\(nth h.K i).R≠h.Z.X.a2) :
  ∃o,dO (eU h) h.j ⟨(nth h.K i).R,1⟩ = some o/\aZ {h with G:=cj h.G (nth h.K i).R,K:=dele h.K i,j:=o} E:=by
 have D:=d.L;have y:=aI (D.sok _ (ar C));have w:∀q,q∈pgs (dele h.K i) h.M↔q∈pgs h.K h.M/\¬((nth h.K i).R<=q/\q<(nth h.K i).R+(1:Nat)):=λq=>by
  rw[qo,qo];constructor
  ·rintro(⟨s,u,rfl⟩|⟨l,S,T⟩)
   ·obtain⟨j,a,A,rfl⟩:=dn.1 u
    refine⟨.inl ⟨_,ar a,rfl⟩,λe=>A (cQ (f:=(·.R)) D.nd a C ω)⟩
   grind [d4,pf.dis,ar]
  grind [aQ,dn]
 obtain⟨o,J,F,G,K,H⟩:=yF d (sp:=dele h.K i) (la:=h.M) (p:=(nth h.K i).R) (n:=1) (W3 _) (eY ..) ψ (λq U V=>by grind [d9,nth]) y.1 w;have M:unmN h.G (nth h.K i).R 1=cj h.G (nth h.K i).R:=by show cj h.G ((nth h.K i).R+((0:Nat):Int))=_;grind
 rw[M]at F G H;have g:∀b c,j9 (dele h.K i) b c↔j9 h.K b c:=λb c=>by
  constructor
  ·rintro⟨s,u,t⟩;exact⟨s,(eY ..).subset u,t⟩
  rintro⟨s,u,t,B⟩
  obtain⟨j,a,rfl⟩:=aQ u;exact⟨_,dn.2 ⟨j,a,λe=>wI r b ψ,rfl⟩,t,B⟩
 refine⟨o,J,{d with
   ker:=F
   rng:=G
   lay:=K
   srs:=d.srs.sublist (eY ..)
   pg:=H
   oow:=λN O=>?_
   hca:=λc y k P b r=>(g b k).2 (d.hca c y k P b r)
   hqu:=λx Q=>(g _ _).2 (d.hqu x Q)
   hfl:=λb r=>(g _ _).2 (d.hfl b r)
   hin:=λb r=>(g _ _).2 (d.hin b r)
   mem:=λb=>(d.mem b).trans ?_
   job:=λW=>?_}⟩
 ·rcases d.oow N O with⟨s,u,t,B⟩|t
  ·obtain⟨j,a,rfl⟩:=aQ u
   exact .inl ⟨_,dn.2 ⟨j,a,λe=>wI r _ (by rw[<-e];exact t),rfl⟩,t,B⟩
  exact .inr t
 all_goals grind [aZ.job,aQ,dn,nB]
theorem aZ.dropL{k:Nat}(d:aZ h E)(N:i<h.O.length)(w:k<h.M.length)(F:(nth h.O i).Addr=16*(nth h.M k).R) :
  ∃o,dO (eU h) h.j ⟨(nth h.M k).R,(nth h.M k).a3⟩ = some o/\aZ {h with G:=unmN h.G (nth h.M k).R (nth h.M k).a3.toNat,M:=dele h.M k,j:=o,O:=dele h.O i} E:=by
 have y:=d.L;have O:=aT (y.lok _ (ar w));have A:∀q,q∈pgs h.K (dele h.M k)↔q∈pgs h.K h.M/\¬((nth h.M k).R<=q/\q<(nth h.M k).R+((nth h.M k).a3.toNat:Nat)):=λq=>by
  rw[qo,qo];constructor
  ·rintro(⟨s,C,rfl⟩|⟨l,f,H⟩)
   ·refine⟨.inl ⟨s,C,rfl⟩,λe=>y.dis s C _ (ar w) (s.R - (nth h.M k).R).toNat ω ω⟩
   obtain⟨j,c,g,rfl⟩:=dn.1 f;refine⟨.inr ⟨_,ar c,H⟩,λe=>?_⟩;obtain⟨m,P,rfl⟩:=d4.1 H;exact g (y.one j k c w m ((nth h.M j).R+(m:Int) - (nth h.M k).R).toNat P ω ω)
  grind [aQ,dn,d4]
 obtain⟨o,J,Q,R,S,T⟩:=yF d (sp:=h.K) (la:=dele h.M k) (p:=(nth h.M k).R) (n:=(nth h.M k).a3.toNat) ω ψ (eY ..) (λq Z q2=>gl (ar w) (d4.2 ⟨(q - (nth h.M k).R).toNat,ω,ω⟩)) O.2.2.1 A;rw[Int.toNat_of_nonneg ω]at J;have U:(E++holders h).Perm ((nth h.O i).Addr::(E++holders {h with O:=dele h.O i})):=by
  have V:=(BZ N).map (·.Addr);refine List.perm_iff_count.2 λa=>?_
  have r:=V.count_eq a
  grind [holders,cJ]
 have t:=U.nodup_iff.1 d.nd;obtain⟨W,t⟩:=List.nodup_cons.1 t;have u:∀b,(b=(nth h.O i).Addr\/b∈E++holders {h with O:=dele h.O i})↔nB h.K h.M b:=λb=>by grind [aZ.mem]
 have B:∀b,b∈E++holders {h with O:=dele h.O i}->b≠(nth h.O i).Addr:=ψ
 refine⟨o,J,{d with
   ker:=Q
   rng:=R
   lay:=S
   srl:=d.srl.sublist (eY ..)
   pg:=T
   osr:=d.osr.sublist (eY ..)
   onu:=λD G=>d.onu D ((eY ..).subset G)
   oid:=d.oid.sublist ((eY ..).map _)
   oow:=λD G=>?_
   nd:=t
   mem:=λb=>?_}⟩
 ·rcases d.oow D ((eY ..).subset G) with r|⟨l,f,K,X⟩
  ·exact .inl r
  obtain⟨j,c,rfl⟩:=aQ f;refine .inr ⟨_,dn.2 ⟨j,c,λe=>?_,rfl⟩,K,X⟩;subst e;refine B D.Addr (V3.2 (.inr ?_)) (by rw[F];exact K);unfold holders;grind
 constructor
 ·intro M
  rcases(u b).1 (.inr M) with r|⟨l,f,rfl⟩
  ·exact .inl r
  obtain⟨j,c,rfl⟩:=aQ f;exact .inr ⟨_,dn.2 ⟨j,c,λe=>B _ M (by rw[F,e]),rfl⟩,rfl⟩
 rintro(r|⟨l,f,rfl⟩)
 ·refine((u b).2 (.inl r)).resolve_left λe=>?_
  obtain⟨s,C,⟨Y,g2,-⟩,-⟩:=r;exact(xE y (ar w)).1 s C ω
 obtain⟨j,c,g,rfl⟩:=dn.1 f;refine((u _).2 (.inr ⟨_,ar c,rfl⟩)).resolve_left λe=>g ?_
 have Y:=aT (y.lok _ (ar c));rw[F]at e;exact y.one j k c w 0 0 ω ω ω
def fH(h:ac)(p:Int):Bool:=h.u&&(decide (p=h.Z.X.a4) || decide (p=h.Z.X.a2))
def giveP(h:ac)(i:Nat):ac:={h with G:=cj h.G (nth h.K i).R,K:=dele h.K i,j:=(dO (eU h) h.j ⟨(nth h.K i).R,1⟩).getD h.j}
def clrS(h:ac)(i:Nat)(a:Int):ac:={h with K:=h.K.set i (nk (nth h.K i) (d5 (nth h.K i) a))}
def freeS(h:ac)(i:Nat)(a:Int):ac:=if(nk (nth h.K i) (d5 (nth h.K i) a)).a9=0/\fH h (nth h.K i).R=false then giveP (clrS h i a) i else clrS h i a
def tJ(h:ac)(a:Int):Nat:=(gQ h (a / 16)).toNat
def freeA(h:ac)(a:Int):ac:=freeS h (tJ h a) a
def cput(c:aE)(k a:Int):Option aE:=if bx c=true/\0<=k/\k<=3/\bx (pO c k.toNat a)=true then some (pO c k.toNat a) else none
def recyc(t:Nat)(h:ac)(a:Int):ac:=match cput (nth h.S t) (nth h.K (tJ h a)).d a with
 | some c=>{h with S:=h.S.set t c}
 | none=>freeA h a
theorem aZ.at(e:aZ h E)(c:j9 h.K a (-1)):tJ h a<h.K.length/\eO (nth h.K (tJ h a)) a/\gQ h (a / 16)=(tJ h a:Nat):=by
 obtain⟨s,d,b,-⟩:=c;obtain⟨i,f,rfl⟩:=aQ d;have g:(nth h.K i).R=a / 16:=by have j:=b.1;have k:=b.2.1;omega
 grind [vg,aZ.L,tJ]
theorem y9(e:fH h p=false)(a:h.u=true):p≠h.Z.X.a4/\p≠h.Z.X.a2:=by grind [fH]
def aZ.freeS{h:ac}{E:List Int}{a:Int}{i:Nat}(f:aZ h (a::E))(b:i<h.K.length)(g:eO (nth h.K i) a):aZ (freeS h i a) E:=by
 have c:=f.give b g;unfold Ab.freeS;split
 ·rename_i e
  have d:nth (clrS h i a).K i=nk (nth h.K i) (d5 (nth h.K i) a):=by unfold clrS;simp only[bI,true_and];rw[CD b]
  obtain⟨o,j,k⟩:=aZ.giveSpan (h:=clrS h i a) c (i:=i) (by unfold clrS;simp only[Z1];exact b) (by rw[d];exact e.1) (λl=>by rw[d];exact y9 e.2 l);unfold giveP;rw[j];exact k
 exact c
theorem aZ.freeA{h:ac}{E:List Int}{a:Int}(b:aZ h (a::E)):aZ (freeA h a) E:=by
 obtain⟨c,d,-⟩:=b.at (b.hin a ψ);exact b.freeS c d
theorem m8{c:aE}(h:bx c=true):c.a.length=4:=by grind [bx]
theorem aZ.recyc{h:ac}{E:List Int}{a:Int}{t:Nat}(b:aZ h (a::E))(f:t<h.S.length):aZ (recyc t h a) E:=by
 obtain⟨g,i,-⟩:=b.at (b.hin a ψ);unfold Ab.recyc;split
 ·rename_i c d
  unfold cput at d;split at d
  ·rename_i e
   cases d;obtain⟨j,l,n,k⟩:=e;exact b.put f (by rw[m8 j];omega) ⟨_,ar g,i,.inr ω⟩ k
  cases d
 exact b.freeA
def xd(h:ac)(i:Nat)(a:Int):(freeS h i a).S=h.S/\(freeS h i a).O=h.O/\(freeS h i a).G.Calls=h.G.Calls/\(freeS h i a).y=h.y/\(freeS h i a).Z=h.Z/\(freeS h i a).b2=h.b2/\(freeS h i a).a7=h.a7/\(freeS h i a).G.w=h.G.w:=by
 unfold freeS;split
 ·obtain⟨-,b,c⟩:=jH (clrS h i a).G (nth (clrS h i a).K i).R
  exact⟨rfl,rfl,b,rfl,rfl,rfl,rfl,c⟩
 exact⟨rfl,rfl,rfl,rfl,rfl,rfl,rfl,rfl⟩
theorem nY(t:Nat)(h:ac)(a:Int):(recyc t h a).S.length=h.S.length/\(recyc t h a).O=h.O/\(recyc t h a).G.Calls=h.G.Calls/\(recyc t h a).y=h.y/\(recyc t h a).Z=h.Z/\(recyc t h a).b2=h.b2/\(recyc t h a).a7=h.a7/\(recyc t h a).G.w=h.G.w:=by
 unfold recyc;split
 ·grind
 obtain⟨b,c⟩:=xd h (tJ h a) a;exact⟨Z0 _ b,c⟩
def recycs(t:Nat)(h:ac)(az:List Int):ac:=az.foldl (recyc t) h
theorem f6(t:Nat):∀(az:List Int)(h:ac),(recycs t h az).S.length=h.S.length/\(recycs t h az).O=h.O/\(recycs t h az).G.Calls=h.G.Calls/\(recycs t h az).y=h.y/\(recycs t h az).Z=h.Z/\(recycs t h az).b2=h.b2/\(recycs t h az).a7=h.a7/\(recycs t h az).G.w=h.G.w
 | [],h=>⟨rfl,rfl,rfl,rfl,rfl,rfl,rfl,rfl⟩
 | a::az,h=>by
  obtain⟨b,c,d,e,f,g,i,j⟩:=f6 t az (recyc t h a);obtain⟨k,l,n,o,p,q,r,u⟩:=nY t h a;exact⟨b.trans k,c.trans l,d.trans n,e.trans o,f.trans p,g.trans q,i.trans r,j.trans u⟩
theorem aZ.recycs{t:Nat}{E:List Int} : ∀{az:List Int}{h:ac},aZ h (az++E)->t<h.S.length->aZ (recycs t h az) E
 | [],h,b,_=>b
 | a::az,h,b,c=>aZ.recycs (az:=az) (h:=Ab.recyc t h a) (b.recyc c) (by grind [nY])
def qc(l:List aV):Int:=quarCells l l.length
def pi(room:Int):List aV->Nat
 | []=>0
 | x::xs=>if room<qc (x::xs) then pi room xs+1 else 0
def LZ(q:bO)(x:aV):bO:=⟨q.b8,(q.a6++[x]).drop (pi q.b8 (q.a6++[x]))⟩
def zV(q:bO)(x:aV):List aV:=(q.a6++[x]).take (pi q.b8 (q.a6++[x]))
def FB(room:Int):∀l,pi room l<=l.length
 | []=>W3 _
 | x::xs=>by unfold pi;split;(have:=FB room xs;simp only[List.length_cons];omega);omega
theorem Do{room:Int}(a:0<=room):∀l:List aV,qc (l.drop (pi room l))<=room
 | []=>a
 | x::xs=>by
  unfold pi;split
  ·exact Do a xs
  grind
theorem Bp{room:Int} : ∀{l:List aV}{k:Nat},k<pi room l->room<qc (l.drop k)
 | [],k,h=>by cases h
 | x::xs,0,h=>by grind [pi]
 | x::xs,k+1,h=>by
  unfold pi at h;split at h
  ·exact Bp (l:=xs) ω
  omega
theorem jW{q:bO} : gi q=true↔(∀x∈q.a6,0<=x.d/\x.d<=3/\0<=x.Addr/\0<=x.b7)/\(q.a6.Pairwise λa b=>a.b7<=b.b7)/\(q.a6.map (·.Addr)).Nodup/\0<=q.b8/\q.b8<=500/\qc q.a6<=q.b8:=by
 refine Iff.trans ?_ (and_congr Iff.rfl (and_congr (wJ (λa b:Int=>a<=b) ω (λs:aV=>s.b7) q.a6) (and_congr (Br (λs:aV=>s.Addr) q.a6) Iff.rfl)));unfold gi qc
 grind [cC,List.any_eq_false,aQ,ar,lg,eX]
theorem RO{q:bO}{x:aV}(h:gi q=true)(e:0<=x.d/\x.d<=3/\0<=x.Addr/\0<=x.b7)(f:∀y∈q.a6,y.b7<=x.b7)(g:∀y∈q.a6,y.Addr≠x.Addr):gi (LZ q x)=true:=by
 obtain⟨i,j,k,c,d,l⟩:=jW.1 h;have a:(LZ q x).a6.Sublist (q.a6++[x]):=List.drop_sublist ..;refine jW.2 ⟨λy b=>?_,List.Pairwise.sublist a ?_,List.Nodup.sublist (a.map _) ?_,c,d,Do c _⟩
 ·rcases V3.1 (a.subset b) with b|b
  all_goals grind
 ·grind
 grind
def lU(r:List Int)(o:Nat):Nat->List Int
 | 0=>r
 | n+1=>(lU r o n).set (o+n) 0
def cW(k:ah)(a:Int):Nat:=(af k.F.Q (a / 16)).o.toNat
def fA(k:ah)(a:Int)(n:Nat):ah:={k with F:=⟨⟨k.F.W.T.set (cW k a) (lU (nth k.F.W.T (cW k a)) (a % 16).toNat n),k.F.W.a1⟩,k.F.Q⟩}
theorem nl(r:List Int)(o:Nat):∀n,(lU r o n).length=r.length
 | 0=>rfl
 | n+1=>by unfold lU;rw[Z1,nl r o n]
def Bk{r:List Int}{o:Nat} : ∀{n:Nat}{v:Int},v∈lU r o n->v∈r\/v=0
 | 0,v,h=>.inl h
 | n+1,v,h=>by
  rcases O7 h with h|h
  ·exact Bk h
  exact .inr h
theorem Gb(h:aC k=true)(a:Int)(n:Nat):aC (fA k a n)=true:=by
 obtain⟨g,i,l,o,p⟩:=aG.1 h;obtain⟨q,r,t,c⟩:=bf.1 i;refine aG.2 ⟨g,bf.2 ⟨?_,?_,?_,λj b=>?_⟩,l,o,p⟩
 ·grind [fA]
 ·grind [fA]
 ·grind [fA]
 simp only[fA,Z1]at b |-;simp only[bI];split
 ·rename_i e
  have d:=c j b;unfold im at d |-;simp only[I0,C0,O4]at d |-;rw[e.1]at *;refine⟨by grind [nl],λv f=>?_⟩;rcases Bk f with f|rfl
  all_goals grind [jm]
 exact c j b
def Az(h:ac)(a:Int):Nat:=(h.M.findIdx? λl=>decide (l.R*16=a)).getD 0
def freeL(h:ac)(i k:Nat):ac:={h with G:=unmN h.G (nth h.M k).R (nth h.M k).a3.toNat,M:=dele h.M k,j:=(dO (eU h) h.j ⟨(nth h.M k).R,(nth h.M k).a3⟩).getD h.j,O:=dele h.O i}
def lD(h:ac)(o:bt):aV:=⟨o.Addr,aN o.q,h.b2⟩
def inQuar(h:ac)(i:Nat):ac:={h with G:=fA h.G (nth h.O i).Addr (csz (aN (nth h.O i).q)).toNat,O:=dele h.O i,a7:=LZ h.a7 (lD h (nth h.O i))}
def G5(h:ac)(t i:Nat):ac:=recycs t (inQuar h i) ((zV h.a7 (lD h (nth h.O i))).map (·.Addr))
def freeOb(h:ac)(t i:Nat):ac × Int:=
 if aN (nth h.O i).q<0 then(freeL h i (Az h (nth h.O i).Addr),0)
 else if(af (tbl h) ((nth h.O i).Addr / 16)).e=1 then(h,5)
 else(G5 h t i,0)
theorem wU(n:l∈h.M)(e:a=16*l.R):Az h a<h.M.length/\a=16*(nth h.M (Az h a)).R/\(∀j,j<Az h a->(nth h.M j).R*16≠a)/\h.M.findIdx? (λl=>decide (l.R*16=a))=some (Az h a):=by
 cases c:h.M.findIdx? λl=>decide (l.R*16=a) with
 | none=>
  grind
 | some k=>
  obtain⟨b,d,f⟩:=Y7.1 c;have g:Az h a=k:=by grind [Az]
  rw[g];rw[<-bn (X2 b),C0]at d;refine⟨b,ω,λj i=>?_,rfl⟩;have:=f j i;rw[<-bn (X2 (show j<h.M.length by omega))]at this;simpa using this
theorem dU(a:aZ h E)(f:o∈h.O):(aN o.q<0->Ve h.M o.Addr o.q)/\(¬aN o.q<0->(∃s∈h.K,eO s o.Addr/\s.d=aN o.q)/\aN o.q<=3):=by
 rcases a.oow o f with⟨s,g,b,c⟩|⟨l,d,b,c⟩
 ·have i:=aI (a.L.sok s g)
  grind
 have j:=cV (a.L.lok l d);refine⟨λ_=>⟨l,d,b,c⟩,λe=>absurd ?_ e⟩
 grind [aN]
theorem aZ.inQuar{h:ac}{i:Nat}(a:aZ h [])(g:i<h.O.length)(r:¬aN (nth h.O i).q<0):aZ (inQuar h i) ((zV h.a7 (lD h (nth h.O i))).map (·.Addr)):=by
 obtain⟨⟨s,j,l,t⟩,u⟩:=(dU a (ar g)).2 r;have b:j9 h.K (nth h.O i).Addr (aN (nth h.O i).q):=⟨s,j,l,.inr t⟩
 have c:=a.nums;unfold cq at c;rw[C0]at c;have w:=aI (a.L.sok s j);have n:=a.dropO g b.any;have A:=n.cells (k:=fA h.G (nth h.O i).Addr (csz (aN (nth h.O i).q)).toNat) (Gb a.ker _ _) rfl;have d:∀y∈h.a7.a6,y.Addr≠(nth h.O i).Addr:=λy o e=>by
  have f:=n.nd;rw[List.cons_append,List.nil_append]at f
  grind [holders]
 have p:=aZ.toQuar (x:=lD h (nth h.O i)) (q:=LZ h.a7 (lD h (nth h.O i))) (out:=zV h.a7 (lD h (nth h.O i))) A (RO a.quar ⟨by show 0<=aN _;omega,u,by show 0<=(nth h.O i).Addr;have:=l.1;omega,c.2.2.1⟩ (λy o=>a.snc y o) d) (by grind [List.take_append_drop,zV,LZ]) (V5 _) b;rw[List.append_nil]at p;exact p
theorem aZ.freeOb{h:ac}{t i:Nat}(a:aZ h [])(c:i<h.O.length)(e:t<h.S.length):aZ (freeOb h t i).1 []:=by
 unfold Ab.freeOb;split
 ·rename_i b
  obtain⟨l,f,d,-⟩:=(dU a (ar c)).1 b;obtain⟨g,j,-⟩:=wU f d
  grind [aZ.dropL,freeL]
 rename_i b;split
 ·exact a
 have d:=a.inQuar c b;refine aZ.recycs (E:=[]) ?_ e
 grind
theorem KR:∀{H L:List Int},H.Nodup->(∀x∈H,x∈L)->H.length<=L.length
 | [],L,_,_=>X0 _
 | y::H,L,b,c=>by
  have d:y∈L:=ψ
  have a:=List.nodup_cons.1 b;have:=KR (L:=L.erase y) a.2 ψ
  grind
theorem x5{H:List Int}(a:H.Nodup)(b:∀x∈H,0<=x/\x<n):H.length<=n:=by
 have:=KR (L:=(List.range n).map λ(i:Nat)=>(i:Int)) a λx c=>Y4.2 ⟨x.toNat,List.mem_range.2 ψ,ψ⟩
 simpa using this
theorem di{f:α->Int}{xs:List α}(h:xs.Pairwise λa b=>f a<f b):(xs.map f).Nodup:=ψ
theorem Qk:∀(b:List (List Int))(k:Nat)(s:List Int),(gR k s b).isSome=true->∀l∈b,l.length<=8
 | [],_,_,_,l,a=>by cases a
 | x::b,k,s,h,l,a=>by
  simp only[gR]at h;cases e:fG k s x with
  | none=>grind
  | some c=>
   rw[e]at h;rcases List.mem_cons.1 a with rfl|a
   ·grind [fG]
   exact Qk b (k+1) c h l a
theorem eQ{c:aE}(h:bx c=true):c.a.length=4/\∀l∈c.a,l.length<=8:=by grind [Qk,bx]
structure sB(h:ac):Prop where
 cells:h.G.F.W.T.length<=32
 row:∀r∈h.G.F.W.T,r.length=16
 used:h.G.F.W.a1.length<=32
 ents:h.G.F.Q.J.length<=32
 ref:h.G.w.length<=40
 free:h.j.length<=32
 spans:h.K.length<=32
 larges:h.M.length<=32
 objs:h.O.length<=512
 caches:h.S.length<=4
 lists:∀c∈h.S,c.a.length=4/\∀l∈c.a,l.length<=8
 quar:h.a7.a6.length<=512
def j9.bd(b:aZ h E)(d:j9 h.K a c):0<=a/\a<512:=by
 obtain⟨s,e,⟨f,g,-⟩,-⟩:=d;have i:=aI (b.L.sok s e);omega
theorem aZ.lens(a:aZ h E):sB h:=by
 obtain⟨G,k,p,J,K,M,q⟩:=aG.1 a.ker;obtain⟨N,t,O,P⟩:=bf.1 k;obtain⟨Q,R,u⟩:=br.1 p;obtain⟨w,S,T⟩:=gd.1 a.rng;obtain⟨U,V,A,W⟩:=jW.1 a.quar;have g:=a.mail;unfold bQ at g;simp only[I0,C0]at g;have B:=a.nc;refine⟨t,λr i=>?_,ω,u,q,?_,?_,?_,?_,ω,λc C=>eQ (a.cach c C),?_⟩
 ·obtain⟨j,X,rfl⟩:=aQ i
  grind [im]
 ·have:=x5 (H:=h.j.map (·.At)) (n:=32) (di (w.1.imp_of_mem ψ)) λx b=>by
   obtain⟨r,i,rfl⟩:=Y4.1 b
   grind
  simpa using this
 ·have:=x5 (H:=h.K.map (·.R)) (n:=32) a.L.nd λx b=>by
   obtain⟨s,d,rfl⟩:=Y4.1 b;have:=aI (a.L.sok s d);omega
  simpa using this
 ·have:=x5 (H:=h.M.map (·.R)) (n:=32) (di a.srl) λx b=>by
   obtain⟨l,f,rfl⟩:=Y4.1 b;have:=aT (a.L.lok l f);omega
  simpa using this
 ·have:=x5 (H:=h.O.map (·.Addr)) (n:=512) (di a.osr) λx b=>by
   obtain⟨o,D,rfl⟩:=Y4.1 b;rcases a.oow o D with⟨s,d,⟨Y,Z,-⟩,-⟩|⟨l,f,e,-⟩
   ·have:=aI (a.L.sok s d);omega
   have:=aT (a.L.lok l f);omega
  simpa using this
 have:=x5 (H:=h.a7.a6.map (·.Addr)) (n:=512) A λx b=>by
  obtain⟨y,F,rfl⟩:=Y4.1 b;exact(a.hqu y F).bd a
 simpa using this
theorem sB.sml(a:sB h)(b:aC h.G=true)(d:aP.sml h.y)(e:cK.sml h.Z):ac.sml h:=
 ⟨bv b,⟨by grind [sB.free],λ_ _=>trivial⟩,⟨by grind [sB.spans],λ_ _=>trivial⟩,⟨by grind [sB.larges],λ_ _=>trivial⟩,⟨by grind [sB.objs],λ_ _=>trivial⟩,⟨by grind [sB.caches],λc f=>⟨by grind [sB.lists],λl g=>by have:=(a.lists c f).2 l g;show l.length<=1048576;omega⟩⟩,d,⟨by grind [sB.quar],λ_ _=>trivial⟩,e⟩
def mV(a:Int)(o:bt):Bool:=decide (o.Addr=a)
def rd(h:ac)(a:Int):Nat:=(cZ (mV a) h.O).toNat
theorem aZ.objAt(g:aZ h E)(k:o∈h.O):rd h o.Addr<h.O.length/\nth h.O (rd h o.Addr)=o/\cZ (mV o.Addr) h.O=(rd h o.Addr:Nat):=by
 obtain⟨i,c,rfl⟩:=aQ k;have l:cZ (mV (nth h.O i).Addr) h.O=(i:Nat):=dQ (au c) (by unfold mV;simp) λj z n d=>by
  have a:=bn d;have b:=(Z2.1 d).1;subst a;unfold mV;refine W0 λe=>?_
  have:=cQ (f:=(·.Addr)) (di g.osr) b c e;omega
 grind [rd]
def ll(k:ah)(p:Int)(n:Nat):(unmN k p n).Calls=k.Calls/\(unmN k p n).w=k.w:=(fj k p n).2
def Qu(y:aB)(a:List aB):dt [] (y::a)=dt [y] a:=by rw[dt];rfl
theorem Hk[Inhabited α]{xs:List α}(h:xs≠[]):xs.getLast? = some (nth xs (xs.length - 1)):=by grind [List.length_pos_iff,au]
theorem PL{xs:List α}(h:xs≠[])(v:α):xs.dropLast++[v]=xs.set (xs.length - 1) v:=by
 have a:0<xs.length:=ψ
 refine List.ext_getElem (by simp;omega) λi b c=>?_
 grind
theorem Ql{a:List aB}(h:out≠[])(e:(nth out (out.length - 1)).At+(nth out (out.length - 1)).a8=y.At):dt out (y::a)=dt (out.set (out.length - 1) ⟨(nth out (out.length - 1)).At,(nth out (out.length - 1)).a8+y.a8⟩) a:=by grind [Hk,PL,dt]
theorem QH{a:List aB}(h:out≠[])(e:¬(nth out (out.length - 1)).At+(nth out (out.length - 1)).a8=y.At):dt out (y::a)=dt (out++[y]) a:=by grind [Hk,dt]
theorem tH(xs:List aB)(w:xs.length<=4194304)(n:∀y∈xs,0<=y.At/\1<=y.a8/\y.At+y.a8<=1048576):zzA 573 false [.val none (bw .V xs)] .one (bw .own (dt [] xs)):=by
 refine fO 63 [(6,21,[15,16,17,18,19,20,21,22,23,24,25,26,27,28,29,30,31,32,33,34,35]),(7,15,[38,39,40,41,42,43,44,45,46,47,48,49,50,51,52])] Tryz.func573 rfl ?_ (.inr (iM _))
 repeat'(first|refine gP ?_|fail)
 (conv=>whnf)
 refine CJ (ι:=Nat × List aB) (λq=>[(0,.H .one (bw .V xs)),(3,.H .one (bw .own q.2)),(4,.H .one [I ((q.1:Nat):Int)])]) (λq=>q.1<=xs.length/\dt q.2 (xs.drop q.1)=dt [] xs/\q.2.length<=q.1/\∀y∈q.2,0<=y.At/\1<=y.a8/\y.At+y.a8<=1048576) (λq=>xs.length - q.1) ((0,[])) ?_ ψ λq o=>?_
 ·exact wB
 obtain⟨i,out⟩:=q;obtain⟨p,a,g,b⟩:=o;simp only at p a g b |-;by_cases h:i<xs.length
 ·have j:=au h
  have B:=n _ (ar h);rw[iR h]at a;by_cases k:out=[]
  ·subst k
   rw[Qu]at a;have D:([]:List aB).length=0:=rfl
   repeat'(first|refine gE ?_|(conv=>whnf);first|with_reducible refine CE (aa j) ?_|refine Ln.mk (show List.length _=0 from rfl) ?_|refine Ap.sm (λr t=>by cases t) rfl (by simp) (by decide) rfl ?_)
   ((conv=>whnf)
    refine CF (i+1,[nth xs i]) ψ (by simp only;omega) ?_
    (repeat'(first|exact trivial|rfl|exact CM rfl (CM (Z0 (C.s dY.own) (by simp[aB.enc])) trivial)|refine CM ?_ ?_)))
  have l:0<out.length:=ψ
  have d:out[((out.length:Int) - 1).toNat]? = some (nth out (out.length - 1)):=by
   rw[show((out.length:Int) - 1).toNat=out.length - 1 by omega];grind [au]
  have u:=b _ (ar (xs:=out) (i:=out.length - 1) ω);by_cases e:(nth out (out.length - 1)).At+(nth out (out.length - 1)).a8=(nth xs i).At
  ·rw[Ql k e]at a
   repeat'(first|refine gB ?_|(conv=>whnf);first|with_reducible refine CE (aa j) ?_|refine CO ω (aa d) ?_|refine CK rfl (aa d) rfl ?_|refine CQ rfl rfl (aa d) rfl (O1 rfl) rfl ?_)
   ((conv=>whnf)
    refine CF (i+1,out.set (out.length - 1) ⟨(nth out (out.length - 1)).At,(nth out (out.length - 1)).a8+(nth xs i).a8⟩) ⟨(by simp only;omega),a,ψ,(λy c=>?_)⟩ (by simp only;omega) ?_)
   ·rcases O7 c with c|rfl
    ·exact b y c
    simp only;omega
   (repeat'(first|exact trivial|rfl|exact CM rfl (CM (Z0 (C.s dY.own) (by rw[show((out.length:Int) - 1).toNat=out.length - 1 by omega,Z6];rfl)) trivial)|refine CM ?_ ?_))
  rw[QH k e]at a
  repeat'(first|refine gB ?_|(conv=>whnf);first|with_reducible refine CE (aa j) ?_|refine CO ω (aa d) ?_|refine CK rfl (aa d) rfl ?_|refine Ap.sm (aX λ_=>rfl) rfl (by simp;omega) (by decide) rfl ?_)
  ((conv=>whnf)
   refine CF (i+1,out++[nth xs i]) ⟨(by simp only;omega),a,(by simp;omega),(λy c=>?_)⟩ (by simp only;omega) ?_)
  ·rcases V3.1 c with c|c
   all_goals simp_all
  (repeat'(first|exact trivial|rfl|exact CM rfl (CM (Z0 (C.s dY.own) (by simp[aB.enc])) trivial)|refine CM ?_ ?_))
 obtain rfl:i=xs.length:=ω
 rw[List.drop_length]at a
 repeat'(first|refine gE ?_|fail)
 rw[<-a];rfl
def AO(r y:aB)(a:List aB)(put:Bool):nj r (y::a) put=if ovl y r then none else if !put&&decide (y.At > r.At) then(nj r a true).map λt=>r::y::t else(nj r a put).map λt=>y::t:=by rw[nj]
theorem mT(pages:Int)(xs:List aB)(r:aB)(G:0<=pages/\pages<=1048576)(H:gT xs):zzA 519 false [.val none [I pages],.val none (bw .V xs),.val (some 2) (aB.enc .V r)] (.tup [none,none]) (Hu xs (dO pages xs r)):=by
 have o:=H.1;have j:=mQ pages xs G H;have p:=yN pages r G;cases k:bG pages xs<;>rw[k]at j
 ·rw[show dO pages xs r=none by unfold dO;rw[CB (by rw[k];simp)]]
  refine fO 82 [] Tryz.func519 rfl ?_ (.inr (vu _ _))
  repeat'(first|refine gP ?_|(conv=>whnf);first|refine C9 (j) ?_|refine CS (λ_=>rfl) (λ_=>rfl) o (by decide) ?_)
  rfl
 cases u:rangeIn pages r<;>rw[u]at p
 ·rw[show dO pages xs r=none by unfold dO;rw[CB (by rw[u];simp)]]
  refine fO 82 [] Tryz.func519 rfl ?_ (.inr (vu _ _))
  repeat'(first|refine gP ?_|(conv=>whnf);first|refine C9 (j) ?_|refine C9 (p) ?_|refine CS (λ_=>rfl) (λ_=>rfl) o (by decide) ?_)
  rfl
 obtain⟨J,K⟩:=wT k;have l:0<=r.At/\1<=r.a8/\r.At+r.a8<=pages:=by grind [rangeIn]
 rw[show dO pages xs r=(nj r xs false).map (dt []) by unfold dO;rw[CD ⟨k,u⟩,BT (pages:=pages) J l.2.1 ψ]];refine fO 82 [] Tryz.func519 rfl ?_ (.inr (vu _ _))
 repeat'(first|refine gP ?_|(conv=>whnf);first|refine C9 (j) ?_|refine C9 (p) ?_|refine CS (λ_=>rfl) (λ_=>rfl) o (by decide) ?_)
 (conv=>whnf)
 refine CJ (ι:=Nat × List aB × Bool) (λq=>[(1,.H .one (bw .V xs)),(5,.H .box (aB.enc .V r)),(8,.H .one (bw .own xs)),(9,.H .one (bw .own q.2.1)),(10,.H .one [B (q.2.2)]),(11,.H .one [I ((q.1:Nat):Int)])]) (λq=>q.1<=xs.length/\(nj r (xs.drop q.1) q.2.2).map (q.2.1++·)=nj r xs false/\q.2.1.length<=q.1+q.2.2.toNat/\(∀y∈q.2.1,0<=y.At/\1<=y.a8/\y.At+y.a8<=1048576)) (λq=>xs.length - q.1) ((0,[],false)) ?_ (⟨X0 _,by simp,by simp,by simp⟩) λq d=>?_
 ·exact wB
 obtain⟨i,out,put⟩:=q;obtain⟨L,b,c,e⟩:=d;simp only at L b c e |-;have M:0<=r.At/\1<=r.a8/\r.At+r.a8<=1048576:=ω
 by_cases w:i<xs.length
 ·have n:=au w
  have N:=K _ (ar w);have E:0<=(nth xs i).At/\1<=(nth xs i).a8/\(nth xs i).At+(nth xs i).a8<=1048576:=ω
  rw[iR w]at b;by_cases h:ovl (nth xs i) r=true
  ·rw[<-b]
   rw[AO,CD h];unfold ovl at h;rw[C0]at h
   repeat'(first|refine gE ?_|(conv=>whnf);first|with_reducible (first|refine CE (aa n) ?_|refine Bf.D (λd=>?_) (λd=>?_)))
   rfl
  rw[AO,CB h]at b;unfold ovl at h;rw[C0]at h;cases put with
  | false=>
   have c:out.length<=i:=by simpa using c
   by_cases O:(nth xs i).At > r.At
   ·rw[CD (by simp;omega),Option.map_map]at b
    repeat'(first|refine gE ?_|(conv=>whnf);first|with_reducible (first|refine CE (aa n) ?_|refine Bf.D (λd=>?_) (λd=>?_))|refine Ap.sm (aX λ_=>rfl) rfl (by simp;omega) (by decide) rfl ?_|refine Ap.sm (λr l=>by simp at l;rcases l with⟨a,_,rfl⟩|rfl<;>rfl) rfl (by simp;omega) (by decide) rfl ?_)
    ((conv=>whnf)
     refine CF (i+1,out++[r,nth xs i],true) ⟨(by simp only;omega),(by rw[<-b];congr 1;funext t;simp),(by simp;omega),(λy g=>?_)⟩ (by simp only;omega) ?_)
    ·grind
    (repeat'(first|exact trivial|rfl|exact CM rfl (CM (Z0 (C.s dY.own) (by simp[aB.enc])) trivial)|refine CM ?_ ?_))
   rw[CB (by simp;omega),Option.map_map]at b
   repeat'(first|refine gE ?_|(conv=>whnf);first|with_reducible (first|refine CE (aa n) ?_|refine Bf.D (λd=>?_) (λd=>?_))|refine Ap.sm (aX λ_=>rfl) rfl (by simp;omega) (by decide) rfl ?_)
   ((conv=>whnf)
    refine CF (i+1,out++[nth xs i],false) ⟨(by simp only;omega),(by rw[<-b];congr 1;funext t;simp),(by simp;omega),(λy g=>?_)⟩ (by simp only;omega) ?_)
   ·grind
   (repeat'(first|exact trivial|rfl|exact CM rfl (CM (Z0 (C.s dY.own) (by simp[aB.enc])) trivial)|refine CM ?_ ?_))
  | true=>
   have c:out.length<=i+1:=c;rw[CB (by simp),Option.map_map]at b;by_cases P:(nth xs i).At<r.At+r.a8
   all_goals
    repeat'(first|refine gE ?_|(conv=>whnf);first|with_reducible (first|refine CE (aa n) ?_|refine Bf.D (λd=>?_) (λd=>?_))|refine Ap.sm (aX λ_=>rfl) rfl (by simp;omega) (by decide) rfl ?_)
    ((conv=>whnf)
     refine CF (i+1,out++[nth xs i],true) ⟨(by simp only;omega),(by rw[<-b];congr 1;funext t;simp),(by simp;omega),(λy g=>?_)⟩ (by simp only;omega) ?_)
    ·rcases V3.1 g with g|g
     ·exact e y g
     rw[V1.1 g];exact E
    (repeat'(first|exact trivial|rfl|exact CM rfl (CM (Z0 (C.s dY.own) (by simp[aB.enc])) trivial)|refine CM ?_ ?_))
 obtain rfl:i=xs.length:=ω
 rw[List.drop_length]at b;cases put with
 | false=>
  have c:out.length<=xs.length:=by simpa using c
  rw[<-b];have F:=tH (out++[r]) (by simp;omega) ψ
  repeat'(first|refine gE ?_|(conv=>whnf);first|refine Ap.sm (aX λ_=>rfl) rfl (by simp;omega) (by decide) (show(out++[r]).map (aB.enc .own)=_ by simp[aB.enc]) ?_|refine CG (F) ⟨⟨rfl,ew _⟩,trivial⟩ ?_)
  rfl
 | true=>
  have c:out.length<=xs.length+1:=c;rw[<-b];have F:=tH out ω e
  repeat'(first|refine gE ?_|(conv=>whnf);first|refine CG (F) ⟨⟨rfl,ew _⟩,trivial⟩ ?_)
  simp[nj,Hu]
  rfl
theorem shl64{i:Int}(a:0<=i/\i<=15):IntKind.i64.wrap (1*2 ^ min i.toNat IntKind.i64.bits)=2 ^ i.toNat/\0<=(2:Int) ^ i.toNat/\(2:Int) ^ i.toNat<=32768:=by
 have b:min i.toNat IntKind.i64.bits=i.toNat:=Nat.min_eq_left (show i.toNat<=64 by omega);have c:(0:Int)<=2 ^ i.toNat/\(2:Int) ^ i.toNat<=32768:=by
  have:(2:Nat) ^ i.toNat<=2 ^ 15:=Nat.pow_le_pow_right (by decide) ω
  grind
 grind [gc]
theorem clr64{i:Int}(a:0<=b/\b<=65535):IntKind.i64.wrap ((BitVec.ofInt IntKind.i64.bits b &&& ~~~BitVec.ofInt IntKind.i64.bits (2 ^ i.toNat)).toNat:Nat)=Ai b i:=by
 have:=Di (i:=i) a
 grind [gc,Ai]
theorem uZ(b i:Int)(c:0<=b/\b<=65535)(d:0<=i/\i<=15):zzA 574 false [.val none [I b],.val none [I i]] .one [I (Ai b i)]:=by
 have a:=q9 b i;rw[O0 ω]at a;have e:IntKind.u64.wrap i=i:=by grind [Go.IntKind.wrap,Go.IntKind.bits]
 refine fO 15 [] Tryz.func574 rfl ?_
 repeat'(first|refine gP ?_|(conv=>whnf);first|refine CC ?_|refine C9 (a) ?_|refine CP ω ?_|refine CN e ?_|refine CN (shl64 d).1 ?_|refine CN (clr64 c) ?_)
 rfl
theorem RR{k:Int}(a:bc s.a9 k=true):0<=k/\k<=15:=by grind [eS]
def Am(s:aA)(k:Int)(a:bi s=true)(b:bc s.a9 k=true):zzA 523 false [.val (some 3) (aA.enc .V s),.val none [I k]] (.tup [some 3,none]) (aA.enc .own (nk s k)++[B true]):=by
 have e:=dP a;have g:=RR b;have c:=gU s;have d:=iV s.a9 k ω;rw[a]at c;rw[b]at d;refine fO 23 [] Tryz.func523 rfl ?_ (.inr (aL (aA.enc_fr _) ⟨trivial,trivial⟩))
 repeat'(first|refine gP ?_|(conv=>whnf);first|refine CC ?_|refine C9 (c) ?_|refine C9 (d) ?_|refine C9 (uZ s.a9 k e g) ?_)
 rfl
def yp(c:aE)(k:Int)(b:aE.sml c):zzA 477 false [.val (some 1) (aE.enc .V c),.val none [I k]] .one [B (bx c&&decide (0<=k/\k<=3))]:=by
 have a:=nR c b;cases e:bx c<;>rw[e]at a
 all_goals
  refine fO 11 [] Tryz.func477 rfl ?_
  repeat'(first|refine gP ?_|(conv=>whnf);first|refine CC ?_|refine C9 (a) ?_|refine C9 (aK k 0 3) ?_)
  all_goals rfl
def H6(c:aE)(k:Int)(a:aE.sml c):zzA 333 false [.val (some 1) (aE.enc .V c),.val none [I k]] .one [B (decide (0<=k/\k<=3)&&bx c)]:=by
 have b:=sP c a;refine fO 11 [] Tryz.func333 rfl ?_
 repeat'(first|refine gP ?_|(conv=>whnf);first|with_reducible refine Bf.D (λd=>?_) (λd=>?_)|refine CC ?_|refine C9 (b) ?_|refine C9 (fF k) ?_)
 all_goals exact Z0 (λz=>[B z]) ((by simp[*]))
def q7{c:aE}{k:Nat}(a:k<c.a.length):c.a[k]? = some (nth c.a k):=au a
theorem N5{c:aE}(h:bx c=true)(k:Nat)(a:Int):aE.sml (pO c k a):=by
 obtain⟨e,d⟩:=eQ h;refine⟨by grind [pO],λl b=>?_⟩;rcases O7 b with b|rfl
 ·have:=d l b;show l.length<=1048576;omega
 show(nth c.a k++[a]).length<=1048576;by_cases f:k<c.a.length
 ·grind [ar]
 have:nth c.a k=[]:=by unfold nth;rw[C3,z3 ω];rfl
 rw[this];simp
theorem PK(c:aE)(k:Nat)(a:Int):aE.enc .own (pO c k a)=[.s .own ((c.a.map (aH .own)).set k (aH .own (nth c.a k++[a])))]:=by grind [Z6,aE.enc,pO]
theorem eZ{f:α->List C}{xs:List α}{k:Nat}{y:α}(h:xs[k]? = some y):((xs.map f).set k r)[k]? = some r:=ψ
def iY(f:α->β)(xs:List α)(y:α):(xs++[y]).map f=xs.map f++[f y]:=by simp
def KW(c:aE)(k a:Int):List C:=aE.enc .own ((cput c k a).getD c)++[B (cput c k a).isSome]
def Nm(c:aE)(k a:Int):iv (KW c k a):=aL (Ci _) ⟨trivial,trivial⟩
theorem zJ(c:aE)(k:Nat)(a:Int)(j:bx c=true)(B:k<=3):zzA 572 false [.val (some 1) (aE.enc .V c),.val none [I (k:Nat)],.val none [I a]] (.tup [some 1,none]) (KW c k a):=by
 obtain⟨D,q⟩:=eQ j;have r:aE.sml c:=⟨ω,λl u=>by have:=q l u;show l.length<=1048576;omega⟩
 have n:=yp c k r;rw[j,O0 ω]at n;have t:=iZ c r;have d:=N5 j k a;have o:=nR (pO c k a) d;have w:=iZ (pO c k a) d;have b:=q7 (c:=c) (k:=k) ω;have y:=q _ (ar (xs:=c.a) (i:=k) ω);have h:=Cg (pO c k a);rw[PK]at h;have g:=Nm c k a;unfold KW at g |-;cases e:bx (pO c k a)<;>rw[e]at o
 ·have p:cput c k a=none:=by grind [cput]
  rw[p]at g |-;refine fO 35 [(4,267,[16,17,18,19,20,21,22,23,24,25,27,0,1,2,3,4,5,6,7,8,9,10,1000,1001,1002,11,12])] Tryz.func572 rfl ?_ (.inr g)
  repeat'(first|refine gP ?_|(conv=>whnf);first|with_reducible refine CE (aa b) ?_|refine CC ?_|refine CE (eZ b) ?_|refine CK rfl (eZ b) rfl ?_|refine C9 (n) ?_|refine C9 (t) ?_|refine Lq.one rfl rfl (aa b) rfl (O1 rfl) rfl rfl ?_|refine CK rfl (aa b) rfl ?_|refine CQ rfl rfl (eZ b) rfl (O1 rfl) (show [C.s dY.own ((c.a.map (aH .own)).set k (aH .own (nth c.a k++[a])))]=_ from by simp only[List.set_cons_zero,List.set_set,I3];rfl) ?_|refine Ap.sm (aX λ_=>rfl) rfl (by simp;omega) (by decide) (iY _ _ _) ?_|refine CG (o) ⟨⟨rfl,h⟩,trivial⟩ ?_)
  rfl
 have p:cput c k a=some (pO c k a):=by grind [cput]
 rw[p]at g |-;refine fO 35 [(4,267,[16,17,18,19,20,21,22,23,24,25,27,0,1,2,3,4,5,6,7,8,9,10,1000,1001,1002,11,12])] Tryz.func572 rfl ?_ (.inr g)
 repeat'(first|refine gP ?_|(conv=>whnf);first|with_reducible refine CE (aa b) ?_|refine CC ?_|refine CE (eZ b) ?_|refine CK rfl (eZ b) rfl ?_|refine C9 (n) ?_|refine C9 (t) ?_|refine Lq.one rfl rfl (aa b) rfl (O1 rfl) rfl rfl ?_|refine CK rfl (aa b) rfl ?_|refine CQ rfl rfl (eZ b) rfl (O1 rfl) (show [C.s dY.own ((c.a.map (aH .own)).set k (aH .own (nth c.a k++[a])))]=_ from by simp only[List.set_cons_zero,List.set_set,I3];rfl) ?_|refine Ap.sm (aX λ_=>rfl) rfl (by simp;omega) (by decide) (iY _ _ _) ?_|refine CG (o) ⟨⟨rfl,h⟩,trivial⟩ ?_|refine CG (w) ⟨⟨rfl,h⟩,trivial⟩ ?_)
 rfl
def bF(x:ac):List C:=[.s .own (x.G.F.W.T.map (aH .own)),.s .own (x.G.F.W.a1.map (rB .own)),.s .own (x.G.F.Q.J.map (bh.enc .own)),I x.G.Calls,.s .own (x.G.w.map (rI .own)),.s .own (x.j.map (aB.enc .own)),.s .own (x.K.map (aA.enc .own)),.s .own (x.M.map (aF.enc .own)),.s .own (x.O.map (bt.enc .own)),.s .own (x.S.map (aE.enc .own)),.s .own (x.y.U.map (cL .own)),.s .own (x.y.a0.map (aH .own)),I x.a7.b8,.s .own (x.a7.a6.map (aV.enc .own)),I x.b3,I x.b2,I x.b1,I x.b,B x.u,I x.Z.X.a4,I x.Z.X.a2,.s .V (x.Z.X.T.map (rI .V)),I x.Z.b0,I x.Z.b]
def bL(x:ac):dG (bF x)=ac.enc .V x:=by simp[dG,bF,ac.enc,Cg,bh.enc_fz,aF.enc_fz,bt.enc_fz,aB.enc_fz,aA.enc_fz,aV.enc_fz,rB,sr,rI,dK,<-ch,W6]
def zz(x:cK):List C:=[I x.X.a4,I x.X.a2,.s .V (x.X.T.map (rI .V)),I x.b0,I x.b]
theorem Pu.two{f a:List C}{off k g h b:Nat}{cs:List C}{K:List C->Prop}{o c:dY}{rows2:List (List C)}{d:List C}(h1:f[off]? = some (.s o rows))(n:o.mine=true)(u:rows[i]? = some r)(w:r.length=k)(y:r[j]? = some (.s c rows2))(p:c.mine=true)(A:rows2[g]? = some d)(B:d.length=h)(D:b+cs.length<=h)(E:a=f.set off (.s o (rows.set i (r.set j (.s c (rows2.set g (splice d b cs)))))))(q:K a):Pu f off [(i,k,j),(g,h,b)] cs K:=by
 have t:o≠.V:=λe=>by subst e;cases n
 have l:c≠.V:=λe=>by subst e;cases p
 refine Pu.mk (r:=d) (j:=b) (by grind [cw]) (by grind [kP]) ω (by grind [gm]) q
def FW(x:List aA):fz (.s .own (x.map (aA.enc .own)))=.s .V (x.map (aA.enc .V)):=(List.cons.inj (za x)).1
def B0(x:List aF):fz (.s .own (x.map (aF.enc .own)))=.s .V (x.map (aF.enc .V)):=(List.cons.inj (Gs x)).1
def Ez(x:List bt):fz (.s .own (x.map (bt.enc .own)))=.s .V (x.map (bt.enc .V)):=(List.cons.inj (L9 x)).1
theorem Ap.dele{e:α->List C}{xs:List α}(a:∀y,(e y).length=sz)(b:∀y,bk (e y)=true)(h:xs.length<=1048576)(c:by_<=1000)(d:K ((Ab.dele xs i).map e)):Ap true ((xs.take i).map e) ((xs.drop (i+1)).map e) sz by_ K:=by
 have f:(xs.take i).length+(xs.drop (i+1)).length<=2097152:=ψ
 refine CU (aX a) (aX a) (λ_ r g=>by obtain⟨y,-,rfl⟩:=Y4.1 g;exact b y) (by rw[I1,I1];omega) (by rw[I1,I1];exact I5 (Nat.mul_le_mul f c) (by decide)) ?_ d;unfold Ab.dele;rw[V6]
def Mz(h:ac)(p:Int)(a:aJ.sml h.G.F.Q):zzA 485 false [.ptr (ac.enc .V h),.val none [I p]] .one [I (af h.G.F.Q p).e]:=by
 refine fO 13 [] Tryz.func485 rfl ?_
 repeat'(first|refine gP ?_|(conv=>whnf);first|refine CC ?_|refine C9 (dq h.G.F.Q p a) ?_)
 rfl
def Td(h:ac):List C:=(bF h).drop 5
def U6(h:ac)(k:ah):bF {h with G:=k} = ah.enc .own k++Td h:=rfl
def G9(h:ac):Td h=[.s .own (h.j.map (aB.enc .own)),.s .own (h.K.map (aA.enc .own)),.s .own (h.M.map (aF.enc .own)),.s .own (h.O.map (bt.enc .own)),.s .own (h.S.map (aE.enc .own)),.s .own (h.y.U.map (cL .own)),.s .own (h.y.a0.map (aH .own)),I h.a7.b8,.s .own (h.a7.a6.map (aV.enc .own)),I h.b3,I h.b2,I h.b1,I h.b,B h.u,I h.Z.X.a4,I h.Z.X.a2,.s .V (h.Z.X.T.map (rI .V)),I h.Z.b0,I h.Z.b]:=rfl
def L2(h:ac)(f:Int)(a:aJ.sml h.G.F.Q)(b:0<=f/\f<h.G.F.W.T.length/\f<h.G.F.W.a1.length) :
  zzB 486 false [.ptr (bF h),.val none [I f]] [.ptr (bF {h with G:=gn h.G f}),.val none [I f]] (.tup []) []:=by
 have c:=au (xs:=h.G.F.W.T) (i:=f.toNat) ω;have d:=au (xs:=h.G.F.W.a1) (i:=f.toNat) ω;rw[U6 h (gn h.G f)];by_cases e:(pagesOn h.G.F.Q f).length=0
 ·rw[uO e,G9]
  refine fM 30 [] [(2,8,[21,22,23,24,25,26,27,28])] [(0,0),(0,0)] Tryz.func486 rfl (λu q=>?_) (.inr trivial)
  repeat'(first|refine gB ?_|(conv=>whnf);first|with_reducible (first|refine CO b.1 (aa d) ?_|refine CO b.1 (aa c) ?_)|refine CC ?_|refine CG (gX h.G.F.Q f a) ⟨⟨rfl,Cb h.G.F.Q⟩,⟨rfl,rfl⟩,trivial⟩ ?_|refine CQ rfl rfl (aa c) rfl (O1 rfl) rfl ?_|refine CQ rfl rfl (aa d) rfl (O1 rfl) rfl ?_|refine Mk.mk 16 rfl rfl (by decide) (by decide) rfl ?_)
  refine CH rfl rfl ?_;exact wB
 rw[zi e];show aM _ _ _ [.ptr (bF h),_] [.ptr (bF h),_] _ _;refine fM 30 [] [(2,8,[21,22,23,24,25,26,27,28])] [(0,0),(0,0)] Tryz.func486 rfl (λu q=>?_) (.inr trivial)
 repeat'(first|refine gB ?_|(conv=>whnf);first|refine CC ?_|refine CG (gX h.G.F.Q f a) ⟨⟨rfl,Cb h.G.F.Q⟩,⟨rfl,rfl⟩,trivial⟩ ?_)
 refine CH rfl rfl ?_;exact wB
theorem nH(h:ac)(p:Int)(b:aC h.G=true) :
  zzB 374 false [.ptr (bF h),.val none [I p]] [.ptr (bF {h with G:=cj h.G p}),.val none [I p]] .one [B (decide ((af h.G.F.Q p).e≠0))]:=by
 have k:=bv b;have c:=Mz h p k.1.2;by_cases a:(af h.G.F.Q p).e=0
 ·rw[show cj h.G p=h.G by unfold cj;rw[CD a]]
  refine fM 32 [(486,[2,0])] [] [(0,0),(0,0)] Tryz.func374 rfl (λu q=>?_)
  repeat'(first|refine gB ?_|(conv=>whnf);first|refine CC ?_|refine CG (c) ⟨bL h,⟨rfl,rfl⟩,trivial⟩ ?_)
  refine CH rfl ?_ ?_
  ·exact Z0 (λz=>[B z]) ((by simp[a]))
  exact wB
 obtain⟨l,r,n,d,o⟩:=bY b a;have j:=(bf.1 (aG.1 b).2.1).2.2.1;rw[show cj h.G p=gn (mb h.G p) (af h.G.F.Q p).o by unfold cj;rw[CB a]];have e:=L2 {h with G:=mb h.G p} (af h.G.F.Q p).o (yx b) ⟨d,by grind [mb],by grind [mb]⟩;rw[U6 h (mb h.G p),x4,G9]at e;have g:=au (xs:=h.G.F.Q.J) (i:=p.toNat) ω;rw[n]at c e a |-;refine fM 32 [(486,[2,0])] [] [(0,0),(0,0)] Tryz.func374 rfl (λu q=>?_)
 repeat'(first|refine gB ?_|(conv=>whnf);first|with_reducible refine CO l (aa g) ?_|refine CC ?_|refine CG (c) ⟨bL h,⟨rfl,rfl⟩,trivial⟩ ?_|refine CQ rfl rfl (aa g) rfl (O1 rfl) rfl ?_|refine CK rfl (aa g) rfl ?_|refine CL (e) (.inl rfl) ?_)
 refine CH rfl ?_ ?_
 ·exact Z0 (λz=>[B z]) ((by simp[a]))
 exact wB
def wd(h:ac)(p:Int):zzA 367 false [.ptr (ac.enc .V h),.val none [I p]] .one [B (fH h p)]:=by
 cases e:h.u
 all_goals
  have b:ac.enc .V h=(ac.enc .V h).set 18 (B h.u):=rfl;rw[e]at b;rw[b];refine fO 29 [] Tryz.func367 rfl ?_
  repeat'(first|refine gP ?_|(conv=>whnf);first|with_reducible (first|refine Bf.D (λa=>?_) (λa=>?_)|refine Bf.E (λa=>?_) (λa=>?_)|refine Bf.N (λa=>?_) (λa=>?_))|refine CC ?_)
  all_goals exact Z0 (λz=>[B z]) ((by unfold fH;rw[e];first|(simp[*];done)|(simp[*];rw[C5];simp)))
def io(h:ac):zzA 372 false [.ptr (ac.enc .V h)] .one [I (eU h:Nat)]:=by
 refine fO 11 [] Tryz.func372 rfl ?_
 repeat'(first|refine gP ?_|(conv=>whnf);first|refine CC ?_)
 rfl
theorem rS(h:ac)(a:Int)(k:h.O.length<=1048576):zzA 509 false [.val (some 24) (ac.enc .V h),.val none [I a]] .one [I (cZ (mV a) h.O)]:=by
 refine fO 22 [] Tryz.func509 rfl ?_
 repeat'(first|refine gP ?_|(conv=>whnf);first|refine CC ?_)
 (conv=>whnf)
 refine CJ (ι:=Nat) (λi=>[(1,.H .one [I (a)]),(2,.H .box (ac.enc .V h)),(5,.H .one [I ((i:Nat):Int)])]) (λi=>i<=h.O.length/\∀(j:Nat)(z:bt),j<i->h.O[j]? = some z->mV a z=false) (λi=>h.O.length - i) (0) ?_ ψ λi c=>?_
 ·exact wB
 obtain⟨c,d⟩:=c;by_cases g:i<h.O.length
 ·have b:=au g
  by_cases e:(nth h.O i).Addr=a
  ·repeat'(first|refine gB ?_|(conv=>whnf);first|with_reducible refine CE (aa b) ?_|refine CC ?_)
   grind [dQ,mV]
  repeat'(first|refine gB ?_|(conv=>whnf);first|with_reducible refine CE (aa b) ?_|refine CC ?_)
  ((conv=>whnf);refine CF (i+1) ⟨ω,eg b (by grind [mV]) d⟩ ω ?_;(exact wB))
 repeat'(first|refine gE ?_|(conv=>whnf);first|refine CC ?_)
 exact Z0 (λz=>[I z]) (gq ω d).symm
def oH(h:ac)(i:Nat)(b:i<h.O.length)(a:h.O.length<=1048576):zzB 513 false [.ptr (bF h),.val none [I (i:Nat)]] [.ptr (bF {h with O:=dele h.O i}),.val none [I (i:Nat)]] (.tup []) []:=by
 refine fM 23 [] [(0,273,[4,5,6,7,8,9,10,11,13,14,15,16,17,18,19,21,22,0,1,2,3,4,5,6,7,9,10,11,12,13,14,15,8,1000,1009,1010,1011,1012,1013,1014,1015,16,1000,17,18,19]),(1048576,0,[8])] [(0,0),(0,0)] Tryz.func513 rfl (λu q=>?_) (.inr trivial)
 repeat'(first|refine gP ?_|(conv=>whnf);first|refine CC ?_|refine Hq.mk rfl (Ez h.O) rfl ?_|refine CZ i rfl (by rw[I1];omega) (aX λ_=>rfl) W4 ?_|refine Sl.suf (i+1) rfl (by rw[I1];omega) (aX λ_=>rfl) X4 ?_|refine CY (λ_=>rfl) (λ_=>rfl) (by rw[C2];omega) (by decide) ?_|refine Ap.dele (λ_=>rfl) (λ_=>rfl) a (by decide) ?_|refine CS (λ_=>rfl) (λ_=>rfl) (by rw[C2];omega) (by decide) ?_|refine CC ?_)
 refine CH rfl rfl ?_;exact wB
theorem E5(h:ac)(E:List Int)(i:Nat)(a:aZ h E)(e:i<h.K.length):zzB 524 false [.ptr (bF h),.val none [I (i:Nat)]] [.ptr (bF (giveP h i)),.val none [I (i:Nat)]] (.tup []) []:=by
 have b:=a.lens;have g:=b.spans;have c:=au e;have j:=nH {h with K:=dele h.K i} (nth h.K i).R a.ker;have d:=io {h with G:=cj h.G (nth h.K i).R,K:=dele h.K i};rw[show eU {h with G:=cj h.G (nth h.K i).R,K:=dele h.K i} = eU h from(jH _ _).1]at d;have k:eU h<=32:=b.ents;have l:=mT (eU h:Nat) h.j ⟨(nth h.K i).R,1⟩ ω ⟨by grind [sB.free],λ_ _=>trivial⟩;refine fM 52 [(374,[2,0])] [(1,273,[13,14,15,16,17,18,19,20,22,23,24,25,26,27,28,30,31,0,1,2,3,4,5,6,7,9,10,11,12,13,14,15,8,1000,1009,1010,1011,1012,1013,1014,1015,16,1000,17,18,19]),(1048577,0,[6]),(3,270,[38,39,40,41,42,43,44,45,47,37,48,49,50,51,0,1,2,3,4,5,6,7,8,1000,1001,1002,1003,1004,1005,1006,9,10,11,12,13,14,15,1012])] [(0,0),(0,0)] Tryz.func524 rfl (λu q=>?_) (.inr trivial)
 repeat'(first|refine gP ?_|(conv=>whnf);first|with_reducible refine CE (aa c) ?_|refine CC ?_|refine Hq.mk rfl (FW h.K) rfl ?_|refine CZ i rfl (by rw[I1];omega) (aX λ_=>rfl) W4 ?_|refine Sl.suf (i+1) rfl (by rw[I1];omega) (aX λ_=>rfl) X4 ?_|refine CY (λ_=>rfl) (λ_=>rfl) (by rw[C2];omega) (by decide) ?_|refine Ap.dele (λ_=>rfl) (λ_=>rfl) ω (by decide) ?_|refine CS (λ_=>rfl) (λ_=>rfl) (by rw[C2];omega) (by decide) ?_|refine CK rfl (aa c) rfl ?_|refine CC ?_|refine CL (j) (.inl rfl) ?_|refine CG (d) ⟨bL _,trivial⟩ ?_|refine CG (l) ⟨⟨rfl,rfl⟩,⟨rfl,ew h.j⟩,⟨rfl,rfl⟩,trivial⟩ ?_)
 refine CH rfl rfl ?_;exact wB
def xQ(h:ac)(i:Nat)(a:Int):bF (clrS h i a)=(bF h).set 6 (.s .own ((h.K.map (aA.enc .own)).set i (aA.enc .own (nk (nth h.K i) (d5 (nth h.K i) a))))):=by
 simp[bF,clrS,Z6]
theorem kU{f:α->β}{xs:List α}{y:β}(a:i<xs.length):((xs.map f).set i y)[i]? = some y:=ψ
def MP(c:bi s=true)(b:eO s a):jb s a=(d5 s a,0):=by
 unfold jb;rw[CD ((gG c).2 ⟨b.1,b.2.1⟩),b.2.2.1];rfl
theorem oB(h:ac)(E:List Int)(a:Int)(c:aZ h (a::E)):zzB 426 false [.ptr (bF h),.val none [I a]] [.ptr (bF (freeA h a)),.val none [I a]] (.tup []) []:=by
 obtain⟨j,n,t⟩:=c.at (c.hin a ψ);have d:=(c.hin a ψ).bd c;have B:=c.lens;have C:=B.spans;have e:=c.L.sok _ (ar j);have k:=kq h (a / 16) ω;rw[t]at k;unfold freeA;generalize tJ h a=i at j n k e;have b:=au j;have o:=vG (nth h.K i) a ⟨ω,ω⟩;rw[MP e n]at o;have w:=Am (nth h.K i) (d5 (nth h.K i) a) e n.2.2.2;have D:=c.give j n;have l:=wd (clrS h i a) (nth h.K i).R;rw[show fH (clrS h i a) (nth h.K i).R=fH h (nth h.K i).R from rfl]at l;have p:=E5 (clrS h i a) E i D (by grind [clrS]);have r:=bL (clrS h i a);rw[xQ]at p r;have g:((h.K.map (aA.enc .own)).set i (aA.enc .own (nk (nth h.K i) (d5 (nth h.K i) a))))[i]? = some (aA.enc .own (nk (nth h.K i) (d5 (nth h.K i) a))):=kU j;unfold freeS;by_cases y:(nk (nth h.K i) (d5 (nth h.K i) a)).a9=0
 ·cases F:fH h (nth h.K i).R<;>rw[F]at l
  ·rw[CD ⟨y,rfl⟩]
   refine fM 68 [(524,[2,0])] [(2,274,[26,27,28,29,30,31,32,33,34,35,36,37,38,39,25,40,41,42,0,1,2,3,4,5,6,7,8,9,10,11,12,13,14,15,16,17,18,1016])] [(0,0),(0,0)] Tryz.func426 rfl (λu q=>?_) (.inr trivial)
   repeat'(first|refine gB ?_|(conv=>whnf);first|with_reducible refine CN ((Z0 _ (tdiv16 d.1)).trans (gc ω ω)) ?_|refine CC ?_|refine CP (by decide) ?_|refine CG (k) ⟨⟨rfl,bL h⟩,⟨rfl,rfl⟩,trivial⟩ ?_|refine CE (aa b) ?_|refine CE g ?_|refine CK rfl (aa b) rfl ?_|refine CK rfl g rfl ?_|refine C9 (o) ?_|refine C9 (w) ?_|refine CC ?_|refine CQ rfl rfl (aa b) rfl (O1 rfl) rfl ?_|refine CG (l) ⟨r,⟨rfl,rfl⟩,trivial⟩ ?_|refine CL (p) (.inl rfl) ?_)
   refine CH rfl rfl ?_;exact wB
  rw[CB ψ];rw[xQ];refine fM 68 [(524,[2,0])] [(2,274,[26,27,28,29,30,31,32,33,34,35,36,37,38,39,25,40,41,42,0,1,2,3,4,5,6,7,8,9,10,11,12,13,14,15,16,17,18,1016])] [(0,0),(0,0)] Tryz.func426 rfl (λu q=>?_) (.inr trivial)
  repeat'(first|refine gB ?_|(conv=>whnf);first|with_reducible refine CN ((Z0 _ (tdiv16 d.1)).trans (gc ω ω)) ?_|refine CC ?_|refine CP (by decide) ?_|refine CG (k) ⟨⟨rfl,bL h⟩,⟨rfl,rfl⟩,trivial⟩ ?_|refine CE (aa b) ?_|refine CE g ?_|refine CK rfl (aa b) rfl ?_|refine CK rfl g rfl ?_|refine C9 (o) ?_|refine C9 (w) ?_|refine CC ?_|refine CQ rfl rfl (aa b) rfl (O1 rfl) rfl ?_|refine CG (l) ⟨r,⟨rfl,rfl⟩,trivial⟩ ?_|refine CL (p) (.inl rfl) ?_)
  refine CH rfl rfl ?_;exact wB
 rw[CB λx=>y x.1];rw[xQ];refine fM 68 [(524,[2,0])] [(2,274,[26,27,28,29,30,31,32,33,34,35,36,37,38,39,25,40,41,42,0,1,2,3,4,5,6,7,8,9,10,11,12,13,14,15,16,17,18,1016])] [(0,0),(0,0)] Tryz.func426 rfl (λu q=>?_) (.inr trivial)
 repeat'(first|refine gB ?_|(conv=>whnf);first|with_reducible refine CN ((Z0 _ (tdiv16 d.1)).trans (gc ω ω)) ?_|refine CC ?_|refine CP (by decide) ?_|refine CG (k) ⟨⟨rfl,bL h⟩,⟨rfl,rfl⟩,trivial⟩ ?_|refine CE (aa b) ?_|refine CE g ?_|refine CK rfl (aa b) rfl ?_|refine CK rfl g rfl ?_|refine C9 (o) ?_|refine C9 (w) ?_|refine CC ?_|refine CQ rfl rfl (aa b) rfl (O1 rfl) rfl ?_|refine CG (l) ⟨r,⟨rfl,rfl⟩,trivial⟩ ?_|refine CL (p) (.inl rfl) ?_)
 refine CH rfl rfl ?_;exact wB
def NT(h:ac)(t:Nat)(c:aE):bF {h with S:=h.S.set t c} = (bF h).set 9 (.s .own ((h.S.map (aE.enc .own)).set t (aE.enc .own c))):=by
 simp[bF,Z6]
theorem oS(h:ac)(E:List Int)(t:Nat)(a:Int)(b:aZ h (a::E))(w:t<h.S.length):zzB 515 false [.ptr (bF h),.val none [I (t:Nat)],.val none [I a]] [.ptr (bF (recyc t h a)),.val none [I (t:Nat)],.val none [I a]] (.tup []) []:=by
 obtain⟨o,y,p⟩:=b.at (b.hin a ψ);have g:=(b.hin a ψ).bd b;have B:=b.lens;have C:=B.spans;have j:=aI (b.L.sok _ (ar o));have r:=b.cach _ (ar w);have l:=kq h (a / 16) ω;rw[p]at l;have D:=oB h E a b;unfold recyc;generalize tJ h a=i at o y l j;have n:=au o;have k:=au w;have d:=zJ (nth h.S t) (nth h.K i).d.toNat a r ω;rw[Int.toNat_of_nonneg j.2.2.1]at d;unfold KW at d;cases e:cput (nth h.S t) (nth h.K i).d a with
 | none=>
  rw[e]at d;refine fM 46 [(426,[2,0])] [(1,277,[16,17,18,19,20,21,22,23,24,25,26,27,28,29,30,31,32,15,33,34,7,0,1,2,3,4,5,6,7,8,9,10,11,12,13,14,15,16,17,18,19,20,21,1019,22]),(3,6,[36,37,38,39,40,41])] [(0,0),(0,0),(0,0)] Tryz.func515 rfl (λu q=>?_) (.inr trivial)
  repeat'(first|refine gP ?_|(conv=>whnf);first|with_reducible refine CN ((Z0 _ (tdiv16 g.1)).trans (gc ω ω)) ?_|refine CC ?_|refine CP (by decide) ?_|refine CG (l) ⟨⟨rfl,bL h⟩,⟨rfl,rfl⟩,trivial⟩ ?_|refine CE (aa n) ?_|refine CE (aa k) ?_|refine CK rfl (aa n) rfl ?_|refine CK rfl (aa k) rfl ?_|refine CG (d) ⟨⟨rfl,Cg _⟩,⟨rfl,rfl⟩,⟨rfl,rfl⟩,trivial⟩ ?_|refine CC ?_|refine CL (D) (.inl rfl) ?_)
  refine CH rfl rfl ?_;exact wB
 | some c=>
  rw[e]at d;simp only;rw[NT];refine fM 46 [(426,[2,0])] [(1,277,[16,17,18,19,20,21,22,23,24,25,26,27,28,29,30,31,32,15,33,34,7,0,1,2,3,4,5,6,7,8,9,10,11,12,13,14,15,16,17,18,19,20,21,1019,22]),(3,6,[36,37,38,39,40,41])] [(0,0),(0,0),(0,0)] Tryz.func515 rfl (λu q=>?_) (.inr trivial)
  repeat'(first|refine gP ?_|(conv=>whnf);first|with_reducible refine CN ((Z0 _ (tdiv16 g.1)).trans (gc ω ω)) ?_|refine CC ?_|refine CP (by decide) ?_|refine CG (l) ⟨⟨rfl,bL h⟩,⟨rfl,rfl⟩,trivial⟩ ?_|refine CE (aa n) ?_|refine CE (aa k) ?_|refine CK rfl (aa n) rfl ?_|refine CK rfl (aa k) rfl ?_|refine CG (d) ⟨⟨rfl,Cg _⟩,⟨rfl,rfl⟩,⟨rfl,rfl⟩,trivial⟩ ?_|refine CC ?_|refine CQ rfl rfl (aa k) rfl (O1 rfl) rfl ?_)
  refine CH rfl rfl ?_;exact wB
theorem qV(h:ac)(i:Nat)(d:aZ h [])(o:i<h.O.length)(t:aN (nth h.O i).q<0):zzB 511 false [.ptr (bF h),.val none [I (i:Nat)]] [.ptr (bF (freeL h i (Az h (nth h.O i).Addr))),.val none [I (i:Nat)]] (.tup []) []:=by
 obtain⟨l,w,y,-⟩:=(dU d (ar o)).1 t;obtain⟨p,B,c,-⟩:=wU w y;generalize Az h (nth h.O i).Addr=g at p B c;have a:=d.lens;have C:=a.larges;have D:=a.objs;have b:=au o;have N:=aT (d.L.lok _ (ar p));have E:eU h<=32:=a.ents;refine fM 89 [(374,[2,0]),(513,[2,0])] [(4,11,[23,24,25,26,27,28,29,30,31,32,33]),(8,7,[41,42,43,44,45,46,47]),(9,273,[50,51,52,53,54,55,56,57,58,59,60,62,49,63,64,65,66,0,1,2,3,4,5,6,7,8,9,10,11,1000,1001,1002,1003,1004,1005,1006,12,13,14,15,16,17,18,1015]),(10,273,[67,68,69,70,71,72,73,74,76,77,78,79,80,81,82,84,85,0,1,2,3,4,5,6,7,9,10,11,12,13,14,15,8,1000,1009,1010,1011,1012,1013,1014,1015,16,1000,17,18,19]),(1048586,0,[7])] [(0,0),(0,0)] Tryz.func511 rfl (λu q=>?_) (.inr trivial)
 repeat'(first|refine gP ?_|(conv=>whnf);first|refine CC ?_)
 (conv=>whnf)
 refine CJ (ι:=Nat) (λk=>[(0,.H .box (bF h)),(1,.H .one [I ((i:Nat):Int)]),(4,.H .one [I ((k:Nat):Int)])]) (λk=>k<=g) (λk=>g - k) (0) ?_ (X0 _) λk O=>?_
 ·exact wB
 have j:=au (xs:=h.M) (i:=k) ω;have F:=aT (d.L.lok _ (ar (xs:=h.M) (i:=k) ω));have G:0<=(nth h.O i).Addr/\(nth h.O i).Addr<=512:=ω
 by_cases e:k=g
 ·subst e
  repeat'(first|refine gB ?_|(conv=>whnf);first|with_reducible refine CE (aa j) ?_|refine CC ?_|refine CK rfl (aa j) rfl ?_|refine CK rfl (aa b) rfl ?_|refine CE (aa b) ?_)
  (conv=>whnf)
  refine CJ (ι:=Nat) (λn=>[(0,.H .box (bF {h with G:=unmN h.G (nth h.M k).R n})),(1,.H .one [I ((i:Nat):Int)]),(4,.H .one [I ((k:Nat):Int)]),(5,.H .box (aF.enc .own (nth h.M k))),(6,.H .one [I ((n:Nat):Int)])]) (λn=>n<=(nth h.M k).a3.toNat) (λn=>(nth h.M k).a3.toNat - n) (0) ?_ (X0 _) λn P=>?_
  ·exact wB
  by_cases Q:n<(nth h.M k).a3.toNat
  ·have H:=nH {h with G:=unmN h.G (nth h.M k).R n} ((nth h.M k).R+n) (gZ d.ker _ _)
   repeat'(first|refine gE ?_|(conv=>whnf);first|refine CC ?_|refine CL (H) (.inl rfl) ?_|refine CC ?_)
   ((conv=>whnf);refine CF (n+1) ω ω ?_;(exact wB))
  obtain rfl:n=(nth h.M k).a3.toNat:=ω
  have r:=io {h with G:=unmN h.G (nth h.M k).R (nth h.M k).a3.toNat};rw[show eU {h with G:=unmN h.G (nth h.M k).R (nth h.M k).a3.toNat} = eU h from(fj _ _ _).1]at r;have J:=mT (eU h:Nat) h.j ⟨(nth h.M k).R,(nth h.M k).a3⟩ ω ⟨by grind [sB.free],λ_ _=>trivial⟩;have K:=oH {h with G:=unmN h.G (nth h.M k).R (nth h.M k).a3.toNat,M:=dele h.M k,j:=(dO (eU h) h.j ⟨(nth h.M k).R,(nth h.M k).a3⟩).getD h.j} i o ψ
  repeat'(first|refine gE ?_|(conv=>whnf);first|refine CC ?_|refine Hq.mk rfl (B0 h.M) rfl ?_|refine CZ k rfl (by rw[I1];omega) (aX λ_=>rfl) W4 ?_|refine Sl.suf (k+1) rfl (by rw[I1];omega) (aX λ_=>rfl) X4 ?_|refine CY (λ_=>rfl) (λ_=>rfl) (by rw[C2];omega) (by decide) ?_|refine Ap.dele (λ_=>rfl) (λ_=>rfl) ω (by decide) ?_|refine CS (λ_=>rfl) (λ_=>rfl) (by rw[C2];omega) (by decide) ?_|refine CC ?_|refine CG (r) ⟨bL _,trivial⟩ ?_|refine CG (J) ⟨⟨rfl,rfl⟩,⟨rfl,ew h.j⟩,⟨rfl,rfl⟩,trivial⟩ ?_|refine CL (K) (.inl rfl) ?_)
  refine CH rfl rfl ?_;exact wB
 have M:=c k ω
 repeat'(first|refine gB ?_|(conv=>whnf);first|with_reducible refine CE (aa j) ?_|refine CC ?_|refine CK rfl (aa j) rfl ?_|refine CK rfl (aa b) rfl ?_|refine CE (aa b) ?_)
 ((conv=>whnf);refine CF (k+1) ω ω ?_;(exact wB))
def Ts(q:bO)(x:aV):List C:=bO.enc .own (LZ q x)++cY .own (zV q x)
def QW(q:bO)(x:aV):iv (Ts q x):=aL (bO.enc_fr _) (vA _)
def DH(q:bO)(a:aV)(K:q.a6.length<=4096)(e:gi q=true)(r:0<=a.d/\a.d<=3/\0<=a.Addr/\0<=a.b7)(t:∀y∈q.a6,y.b7<=a.b7)(u:∀y∈q.a6,y.Addr≠a.Addr) :
  zzA 514 false [.val (some 2) (bO.enc .V q),.val (some 3) (aV.enc .V a)] (.tup [some 2,none]) (Ts q a):=by
 have b:bO.sml q:=⟨ω,λ_ _=>trivial⟩
 have w:=sJ q b;have l:=pA q b;rw[e]at l;have n:=AQ a;rw[O0 r]at n;have o:=sU q a.Addr b;rw[show q.a6.any (eX a.Addr)=false by rw[List.any_eq_false];intro y B;unfold eX;simpa using u y B]at o;have C:=(jW.1 e).2.2.2;have g:=QW q a;have L:(aV.mk a.Addr a.d a.b7)=a:=rfl;have c:=FB q.b8 (q.a6++[a]);simp only[Y3,List.length_singleton]at c;by_cases E:q.a6.length=0
 all_goals
  try have h:(nth q.a6 (q.a6.length - 1)).b7<=a.b7:=t _ (ar ω)
  try have j:=au (xs:=q.a6) (i:=q.a6.length - 1) ω
  try have d:q.a6[((q.a6.length:Int) - 1).toNat]? = some (nth q.a6 (q.a6.length - 1)):=by rw[show((q.a6.length:Int) - 1).toNat=q.a6.length - 1 by omega];exact j
  refine fO 74 [(3,27,[15,16,17,18,19,20,21,22,23,24,25,26,27,28,29,30,31,32,33,34,35,36,37,38,39,40,41]),(7,6,[52,53,54,55,56,57]),(9,268,[61,62,63,64,65,66,67,69,70,71,72,73,0,1,2,3,4,5,6,8,9,10,11,12,7,1008,1009,1010,1011,1012,13,14])] Tryz.func514 rfl ?_ (.inr g)
  repeat'(first|refine gE ?_|(conv=>whnf);first|with_reducible refine Bf.D (λe=>?_) (λe=>?_)|refine CC ?_|refine C9 (w) ?_|refine C9 (l) ?_|refine C9 (n) ?_|refine C9 (o) ?_|refine CO ω (aa d) ?_|refine Ap.sm (aX λ_=>rfl) rfl (by simp;omega) (by decide) (iY (aV.enc .own) q.a6 a) ?_)
  (conv=>whnf)
  refine Lp.fz 8 (ι:=Nat) (λk=>[(2,.H .box (bO.enc .V q)),(4,.H .box [I 0,.z]),(8,.H .one (cY .V (q.a6++[a]))),(9,.H .one [I (k:Nat)])]) (λk=>k<=pi q.b8 (q.a6++[a])) (λk=>pi q.b8 (q.a6++[a]) - k) 0 ?_ (X0 _) λk M=>?_
  ·(repeat'(first|exact trivial|rfl|exact CM rfl (show PQ (dG (cY .own (q.a6++[a]))) (cY .V (q.a6++[a])) by rw[Hl];exact n6 _)|refine CM ?_ ?_))
  have N:(q.a6++[a]).length=q.a6.length+1:=by simp
  have F:((q.a6++[a]).drop k).length<=5000:=by rw[Z3];omega
  have G:((q.a6++[a]).take k).length<=5000:=by rw[C2];omega
  have p:=vY ((q.a6++[a]).drop k) ⟨ω,λ_ _=>trivial⟩;by_cases H:k<pi q.b8 (q.a6++[a])
  ·have J:q.b8<quarCells ((q.a6++[a]).drop k) ((q.a6++[a]).drop k).length:=Bp H
   repeat'(first|refine gE ?_|(conv=>whnf);first|refine CC ?_|refine Sl.suf k rfl (by rw[I1];omega) (aX λ_=>rfl) X4 ?_|refine C9 (p) ?_|refine CC ?_)
   ((conv=>whnf);refine CF (k+1) ω ω ?_;(exact wB))
  obtain rfl:k=pi q.b8 (q.a6++[a]):=ω
  have J:quarCells ((q.a6++[a]).drop (pi q.b8 (q.a6++[a]))) ((q.a6++[a]).drop (pi q.b8 (q.a6++[a]))).length<=q.b8:=Do C.1 _
  repeat'(first|refine gE ?_|(conv=>whnf);first|refine CC ?_|refine Sl.suf (pi q.b8 (q.a6++[a])) rfl (by rw[I1];omega) (aX λ_=>rfl) X4 ?_|refine CZ (pi q.b8 (q.a6++[a])) rfl (by rw[I1];omega) (aX λ_=>rfl) W4 ?_|refine C9 (p) ?_|refine CC ?_|refine CY (λ_=>rfl) (λ_=>rfl) ω (by decide) ?_|refine CS (λ_=>rfl) (λ_=>rfl) ω (by decide) ?_)
  rfl
end Go.Proofs.YtiopgblagimpmaaGreat.Ab
