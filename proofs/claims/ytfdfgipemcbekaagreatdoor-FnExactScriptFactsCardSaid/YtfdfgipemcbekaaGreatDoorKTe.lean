/- The heap: the contract of the reference's HeapOk. No condition. -/
import Derived.Test.YtfdfgipemcbekaaGreatDoorKTd
import Derived.Test.YtfdfgipemcbekaaGreatDoorKTShelf
import Derived.WalkKit
import Derived.Lib.SliceRun
set_option linter.unusedVariables false
set_option linter.defProp false
set_option linter.unusedSimpArgs false
set_option linter.constructorNameAsVariable false
namespace Go.Proofs.YtfdfgipemcbekaaGreatDoor.Ab
open Go.RowKit
set_option maxRecDepth 20000
set_option maxHeartbeats 8000000
def dY(h:ac):Bool:=(bE h.q&&decide (h.Q.length=h.q.T.length))&&gj h.a4
def cz(h:ac):Bool:=((((((mI h&&yj h)&&dY h)&&nv h)&&h.Q.all bB)&&ch h)&&(gG h&&lh h))&&vU h
theorem ya(h:ac)(V:ac.sml h)(W:ac.wf h):zzA 30 false [ν h] .one [B (cz h)]:=by
 have L:=V;have M:=W;obtain⟨u,w,b,j,N,y,C,D,E⟩:=V;obtain⟨-,-,-,-,O,hwc,hwm,hwq,-⟩:=W;have l:y2 h:=u.1.2;have hpn:fk h<=1048576:=l.1;have P:h.K.length<=1048576:=N.1;have Q:h.Q.length<=1048576:=y.1;have hlq:h.a4.a0.length<=1048576:=D.1;have hlb:h.q.T.length<=1048576:=C.1.1;have d:=kG h.G u;have e:=nN (fk h) h.e ω w;have g:=nz h.H h.J b j;have r:=H8 h b l;have F:=np h.q C;have R:=rn h.a4 D;cases X:aG h.G<;>rw[X]at d
 ·refine fO 150 [ς1] Tryz.func30 rfl ?_
  repeat'(first|refine gP ?_|refine gS (λa=>?_) (λa=>?_)|fail)
  all_goals first
   | exact bY ((by unfold cz mI;rw[X];simp))
   |(exfalso;omega)
 cases Y:bJ (fk h) h.e<;>rw[Y]at e
 ·refine fO 150 [ς1] Tryz.func30 rfl ?_
  repeat'(first|refine gP ?_|refine gS (λa=>?_) (λa=>?_)|fail)
  all_goals first
   | exact bY ((by unfold cz mI;rw[Y];simp))
   |(exfalso;omega)
 cases G:bA h.H h.J<;>rw[G]at g
 ·refine fO 150 [ς1] Tryz.func30 rfl ?_
  repeat'(first|refine gP ?_|refine gS (λa=>?_) (λa=>?_)|fail)
  all_goals first
   | exact bY ((by unfold cz mI;rw[G];simp))
   |(exfalso;omega)
 have n:=JB h b j l w G;cases Z:pages0 h<;>rw[Z]at n
 ·refine fO 150 [ς1] Tryz.func30 rfl ?_
  repeat'(first|refine gP ?_|refine gS (λa=>?_) (λa=>?_)|fail)
  all_goals first
   | exact bY ((by unfold cz mI;rw[Z];simp))
   |(exfalso;omega)
 cases e5:yj h<;>rw[e5]at r
 ·refine fO 150 [ς1] Tryz.func30 rfl ?_
  repeat'(first|refine gP ?_|refine gS (λa=>?_) (λa=>?_)|fail)
  all_goals first
   | exact bY ((by unfold cz ;rw[e5];simp))
   |(exfalso;omega)
 cases S:bE h.q<;>rw[S]at F
 ·refine fO 150 [ς1] Tryz.func30 rfl ?_
  repeat'(first|refine gP ?_|refine gS (λa=>?_) (λa=>?_)|fail)
  all_goals first
   | exact bY ((by unfold cz dY;rw[S];simp))
   |(exfalso;omega)
 by_cases T:h.Q.length=h.q.T.length;rotate_left
 ·refine fO 150 [ς1] Tryz.func30 rfl ?_
  repeat'(first|refine gP ?_|refine gS (λa=>?_) (λa=>?_)|fail)
  all_goals first
   | exact bY ((by unfold cz dY;rw[Z0 T];simp))
   |(exfalso;omega)
 cases e7:gj h.a4<;>rw[e7]at R
 ·refine fO 150 [ς1] Tryz.func30 rfl ?_
  repeat'(first|refine gP ?_|refine gS (λa=>?_) (λa=>?_)|fail)
  all_goals first
   | exact bY ((by unfold cz dY;rw[e7];simp))
   |(exfalso;omega)
 have hlay:mI h=true:=by grind[mI]
 have hmc:dY h=true:=by grind[dY]
 refine fO 150 [ς1] Tryz.func30 rfl ?_
 repeat'(first|refine gB ?_|refine gS (λa=>?_) (λa=>?_)|fail)
 all_goals try(exfalso;omega)
 (conv=>whnf)
 refine gl h.a4.a0.length (λi=>[(1,bF (ac.enc .R h)),(3,fN i)]) (λi=>(h.a4.a0.take i).all (λx=>decide (x.b7<=h.b2))=true) ψ λi hi=>?_
 obtain⟨hi,ai⟩:=hi;by_cases li:i<h.a4.a0.length
 ·have p:=ar li
  repeat'(first|refine gE ?_|refine gS (λa=>?_) (λa=>?_)|fail)
  all_goals first
   | exact bY ((by unfold cz nv;rw[ip p (Z0 ω)];simp))
   | ((conv=>whnf);exact cV (i+1) ⟨ω,df p ai (O0 ω)⟩)
 have hsi:nv h=true:=pE ω ai
 refine σE ?_
 refine gl h.Q.length (λk=>[(1,bF (ac.enc .R h)),(4,fN k)]) (λk=>(h.Q.take k).all bB=true) ψ λk hk=>?_
 obtain⟨hk,ak⟩:=hk;by_cases lk:k<h.Q.length
 ·have p:=ar lk
  have U:=pU (nth h.Q k) (y.2 _ (ax lk));cases e8:bB (nth h.Q k)<;>rw[e8]at U
  ·refine σE ?_
   exact bY ((by grind[cz]))
  refine σE ?_
  (exact cV (k+1) ⟨ω,df p ak e8⟩)
 have hca:h.Q.all bB=true:=pE ω ak;have q:=MW h b j G P Q (λo ho=>(O.2 o ho).2.1);have c10:=ME h L M G S ψ;have c11:=QK h.a9 E;have c12:=By h.a9 E;have c13:=lf h h.a9.g.b1 b.1;have c14:=lf h h.a9.g.b3 b.1;by_cases hn:ch h=true;rotate_left
 ·have H:ch h=false:=by simpa using hn
  have c:=H;unfold ch at c;rw[I9]at c;cases K:gG h<;>rw[K]at q<;>cases e10:lh h<;>rw[e10]at c10
  all_goals
   repeat'(first|refine gE ?_|refine gS (λa=>?_) (λa=>?_)|apply CF (aK _ _ _))
   all_goals first
    | exact bY ((by unfold cz;rw[H];simp))
    |(exfalso;omega)
 have c:=hn;unfold ch at c;rw[C0]at c;cases K:gG h<;>rw[K]at q
 ·repeat'(first|refine gE ?_|refine gS (λa=>?_) (λa=>?_)|apply CF (aK _ _ _))
  all_goals first
   | exact bY ((by unfold cz;rw[K];simp))
   |(exfalso;omega)
 cases e10:lh h<;>rw[e10]at c10
 ·repeat'(first|refine gE ?_|refine gS (λa=>?_) (λa=>?_)|apply CF (aK _ _ _))
  all_goals first
   | exact bY ((by unfold cz;rw[e10];simp))
   |(exfalso;omega)
 have J:cz h=vU h:=by grind[cz]
 rw[J];unfold vU;cases em:h.a3
 ·repeat'(first|refine gE ?_|refine gS (λa=>?_) (λa=>?_)|apply CF (aK _ _ _)|refine Bf.f em ?_)
  grind
 cases e12:kf h.a9<;>rw[e12]at c12
 all_goals
  repeat'(first|refine gE ?_|refine gS (λa=>?_) (λa=>?_)|apply CF (aK _ _ _)|refine Bf.t em ?_)
  all_goals first
   | exact bY (ψ)
   |(exfalso;omega)
set_option maxHeartbeats 4000000
def sorted(xs:List Int):List Int:=xs.mergeSort λx y=>decide (x<=y)
theorem zk(xs:List Int):(sorted xs).length=xs.length:=List.length_mergeSort ..
variable{n:Nat}
theorem Md{w a:World}{g:Nat}{d:Array Int}{os:Array Obj}{c:Array Value}{e:TypeId}{h:Nat × Nat}(i:w.heap[g]? = some (.cells c e h))(j:a=Sort.grow (Sort.putRow (Value.int .i64) (Sort.ahead w n) g 0 d) os) :
  a.os=w.os/\a.tape=w.tape/\a.output=w.output/\w.heap.size<=a.heap.size/\(∀b,b<w.heap.size->b≠g->a.heap[b]? = w.heap[b]?)/\a.heap[g]? = some (.cells (Sort.putCells (Value.int .i64) 0 d c) e h):=by
 subst j;have f:g<w.heap.size:=ψ
 have k:∀b,b<w.heap.size->(Sort.grow (Sort.putRow (Value.int .i64) (Sort.ahead w n) g 0 d) os).heap[b]? = if g=b then(w.heap[b]?).map (Sort.onCells (Sort.putCells (Value.int .i64) 0 d)) else w.heap[b]?:=λb l=>by grind[Go.Sort.heap_grow_old,Go.Sort.putRow,Go.Sort.mapBlock,Go.Sort.ahead]
 refine⟨rfl,rfl,rfl,?_,λb l o=>?_,?_⟩
 ·grind
 ·grind
 rw[k g f,CJ rfl,i];rfl
theorem Vg(d:Array Int)(c:Array Value)(q:Nat):(Sort.putCells (Value.int .i64) 0 d c)[q]? = if q<d.size then(c[q]?).map (λ_=>.int .i64 d[q]!) else c[q]?:=by grind[Go.Sort.putCells]
theorem row1{w:World}{S Y:af}{c:C}{v:Value}(h:cU w S Y c v):cw w S Y [c] (λ_=>v):=by
 refine⟨λ_=>Y,λj a b=>?_,λ_ _ _ _ h=>h,ψ⟩
 all_goals grind
def YP(Y:af):Nat->af
 | 0=>Y
 | _+1=>NO
variable{j:Nat}
theorem Uc(xs:List Int)(a:j<xs.length):xs.toArray[j]! = xs[j]:=ψ
theorem VV(xs:List Int)(hl:xs.length<=1048576*64):zzB 277 false [.mut none (aE .own xs)] [.mut none (aE .own (sorted xs))] (.tup []) []:=by
 refine⟨⟨_,Tryz.func277,by kernel_rfl,by kernel_rfl⟩,λw S V vs hS hV hVV O=>?_⟩
 match vs,O with
 | [v],⟨O,_⟩=>
  have y:=bm.rep1 (show bm w S (V 0) none [C.s .own (xs.map (rI .own))] v from O);generalize D:C.s .own (xs.map (rI .own))=cc at y;cases y with
  | nil _ o a P=>
   cases hcc0:xs with
   | cons x xs'=>grind
   | nil=>
    refine(Tryz.slices_Sort_int_none a 0 w).mono λe p ⟨Q,E⟩=>?_
    subst E;refine⟨.tuple #[],Q,Cj _ _,NO,λ_=>NO,NO,λ_ _ h=>h.elim,λ_ _ _ h=>h.elim,λ_ _ h=>h.elim,λ_ _ _ _ _ h=>h.elim,λ_ _ _ h=>h.elim,λ_ _ h=>h.elim,λ_ _ _ h=>h.elim,⟨#[],rfl,tV1,rfl⟩,cw.nil _ _ _ _,⟨⟨rfl,λ_=>.slice a 0 0,rfl,row1 (by rw[show sorted []=[] from List.mergeSort_nil ..];exact .nil _ .own _ tV1)⟩,tV1⟩⟩
  | suf _ o g off k n t G u f P=>cases D;exact P.elim
  | own _ o g k n t G u f P hn hk H J hF hu hf hd hc=>
   cases D;have R:n=xs.length:=ψ
   have T:0<xs.length:=ω
   have U:k=1:=by
    have:=hk (rI .own xs[0]) ψ;exact this.symm
   subst U R;have B:∀j (l:j<xs.length),cel w g j=some (.int .i64 xs[j]):=λj l=>by
    have h1:=hu j ω;have W:=hc j 0 (rI .own xs[j]) (I xs[j]) ψ rfl;rw[Nat.mul_one,Nat.add_zero]at W;rw[h1];generalize u j=z at W;cases W
    rfl
   have X:g<w.heap.size:=ψ
   obtain⟨c,e0,fr,hg,-⟩:=Sort.cells_of_cell? (B 0 T);have hH:Sort.Holds (Value.int .i64) w g 0 xs.toArray:=λj l=>by
    have K:j<xs.length:=by simpa using l
    refine⟨?_,?_⟩
    ·rw[Uc xs K,OD];exact B j K
    rw[OD];exact I1 Prod.fst (hF j ω).2.2
   refine(Tryz.slices_Sort_int g 0 t xs w hH X ω).mono λe p ⟨Q,m,os,E⟩=>?_
   obtain⟨q1,q2,q3,q4,q5,q6⟩:=Md hg E;have hsl:=zk xs;have hcel:∀q,cel w g q=c[q]?:=λq=>by grind[Go.World.cell?]
   have Y:∀q,cel p g q=if q<xs.length then(c[q]?).map (λ_=>.int .i64 (sorted xs).toArray[q]!) else c[q]?:=λq=>by grind[Vg,Go.World.cell?,sorted]
   have d:∀q (Z:q<xs.length),cel p g q=some (.int .i64 ((sorted xs)[q]'(ω))):=ψ
   have L:∀q,fro p g q=fro w g q:=λq=>by
    refine Prod.ext ?_ ?_
    ·grind[Go.World.frozen?]
    grind[mp,Go.Sort.putCells]
   have hother:∀b,b<w.heap.size->b≠g->∀o,cel p b o=cel w b o/\fro p b o=fro w b o:=λb hb M o=>by grind[Go.World.cell?,Go.World.frozen?,mp]
   have F:bu (λb o=>∃i,V i b o) w p:=by
    refine⟨q1,q2,q3,q4,ψ,λb o hb hn=>?_,λb o hb hn=>?_⟩
    all_goals grind
   refine⟨.tuple #[],Q,F,NO,YP (V 0),NO,λ_ _ h=>h.elim,λi b o h=>?_,λ_ _ h=>h.elim,λi i' M b o h h'=>?_,λ_ _ _ h=>h.elim,λ_ _ h=>h.elim,λ_ _ _ _ h=>h.elim,⟨#[],rfl,tV1,rfl⟩,cw.nil _ _ _ _,⟨⟨rfl,λ_=>.slice (some ⟨g,0,none⟩) xs.length t,rfl,row1 ?_⟩,tV1⟩⟩
   ·cases i with
    | zero=>exact .inl ⟨0,h⟩
    | succ i=>exact h.elim
   ·cases i with
    | zero=>
     cases i' with
     | zero=>exact M rfl
     | succ i'=>exact h'.elim
    | succ i=>exact h.elim
   show cU p _ (V 0) _ _;refine .own _ .own g 1 xs.length t _ (λq=>(cel p g q).getD undef) (λ_=>NO) tV1 ψ (λr hr=>by obtain⟨z,-,rfl⟩:=O8.1 hr;rfl) H J (λq Z=>?_) (λq Z=>?_) (λ_ _ _ _ h=>h.elim) (λ_ _ _ _ _ _ _ h=>h.elim) (λi j r c2 N l=>?_)
   ·obtain⟨a1,⟨z,a2,a3⟩,a4⟩:=hF q Z
    refine⟨a1,?_,(L q).trans a4⟩;by_cases hqx:q<xs.length
    ·exact⟨_,d q hqx,rfl⟩
    grind
   ·grind
   rw[Z5]at N;have hil:i<(sorted xs).length:=ψ
   rw[Z3 hil]at N;simp only[IA,O1]at N;subst N
   match j,l with
   | 0,l=>
    simp only[rI,List.getElem?_cons_zero,O1]at l;subst l;simp only[Nat.mul_one,Nat.add_zero,d i ω,Option.getD_some];exact .v _ _ rfl
   | j+1,l=>simp[rI]at l
  | _=>cases D
set_option maxHeartbeats 8000000
def lr(s:a8)(k:Nat):Int:=16*s.S+(k:Nat)*csz s.a
def eZ(s:a8)(n:Nat):List Int:=((List.range n).filter λk=>bg s.b0 (k:Nat)).map (lr s)
theorem FW{s:a8}(h:bg s.b0 (n:Nat)=true):eZ s (n+1)=eZ s n++[lr s n]:=by grind[List.range_succ,eZ]
theorem Jz{s:a8}(h:bg s.b0 (n:Nat)=false):eZ s (n+1)=eZ s n:=by grind[List.range_succ,eZ]
theorem uq(s:a8)(n:Nat):(eZ s n).length<=n:=by grind[eZ]
def gm(sp:List a8):List Int:=sp.flatMap λs=>eZ s (slots s.a).toNat
def live0(sp:List a8)(la:List aB):List Int:=gm sp++la.map λl=>16*l.S
def rD(sp:List a8)(la:List aB):List Int:=sorted (live0 sp la)
theorem uS(k:Int):0<=slots k/\slots k<=16:=by grind[slots]
def Fo{k:Int}(h:0<=k/\k<=3):slots k*csz k=16:=by
 obtain rfl|rfl|rfl|rfl:k=0\/k=1\/k=2\/k=3:=ω
 all_goals decide
variable{i:Nat}{sp:List a8}
theorem BV{s:a8}(h:sp[i]? = some s):gm (sp.take (i+1))=gm (sp.take i)++eZ s (slots s.a).toNat:=by grind[ZA,gm]
def sF(s:a8)(k:Nat)(a:bh s=true)(i:(k:Int)<slots s.a):zzA 276 false [.val (some 3) (a8.enc .R s),.vI (k:Nat)] .one [I (lr s k)]:=by
 have b:=ir s;have c:=dx s.a;have g:=g9 s.a;rw[a]at b;have d:=aJ a;have j:=uS s.a;rcases dd ⟨d.2.2.1,d.2.2.2⟩ with e|e|e|e<;>rw[e]at c
 all_goals
  refine fO 26 [ρ 3 9 17] Tryz.func276 rfl ?_
  repeat'(first|refine gE ?_|refine gS (λh=>?_) (λh=>?_)|apply CF (aH _ 0 _))
  all_goals exact nr (by unfold lr;rw[e];omega)
theorem Au(sp:List a8)(la:List aB)(c:ee sp)(d:eC la)(a:bA sp la=true):zzA 176 false [.val none (cf .R sp),.val none (cq .R la)] .one (aE .own (rD sp la)):=by
 have D:=c.1;have E:=d.1;have B:=sJ sp la c d;rw[a]at B;obtain⟨o,F,-⟩:=fC a;refine fP 56 [(277,[1])] [] Tryz.func176 rfl ?_ (.inr (bH _))
 refine σP ?_
 refine lE (ι:=Nat × List Int) (λi=>[(1,bK (cq .R la)),(5,bK (aE .own i.2)),(16,bK (cf .R sp)),(17,fI sp.length),(18,fN (i.1))]) (λi=>i.1<=sp.length/\i.2=gm (sp.take i.1)/\i.2.length<=16*i.1) (λi=>sp.length - i.1) ((0,[])) (⟨C1 _,rfl,C1 _⟩) λi e=>?_
 obtain⟨i,S⟩:=i;obtain⟨e,p,G⟩:=e;simp only at e p G |-;by_cases j:i<sp.length
 ·have n:=ar j
  have g:bh (nth sp i)=true:=VD o j;have H:=uS (nth sp i).a;have q:=fV g
  refine σE ?_
  refine lE (ι:=Nat × List Int) (λk=>[(1,bK (cq .R la)),(5,bK (aE .own k.2)),(7,bF (a8.enc .R (nth sp i))),(8,fN (k.1)),(16,bK (cf .R sp)),(17,fI sp.length),(18,fN i)]) (λk=>k.1<=(slots (nth sp i).a).toNat/\k.2=S++eZ (nth sp i) k.1) (λk=>(slots (nth sp i).a).toNat - k.1) ((0,S)) (⟨C1 _,by simp[eZ]⟩) λk t=>?_
  obtain⟨k,S2⟩:=k;obtain⟨t,b⟩:=t;simp only at t b |-;have J:=uq (nth sp i) k;have h:S2.length=S.length+(eZ (nth sp i) k).length:=ψ
  by_cases M:k<(slots (nth sp i).a).toNat
  ·have u:=iB (nth sp i).b0 (k:Nat) q.2
   cases K:bg (nth sp i).b0 (k:Nat)<;>rw[K]at u
   ·repeat'(first|refine gE ?_|apply CF (g9 _))
    (exact cV (k+1,S2) ⟨τ,(by grind[Jz])⟩)
   repeat'(first|refine gE ?_|apply CF (g9 _)|refine CF (sF (nth sp i) k g ω) ?_|refine Cb cx (λr w=>by rw[I2.1 w];rfl) ζ kd υ rfl ?_)
   ((conv=>whnf)
    refine CP (k+1,S2++[lr (nth sp i) k]) ⟨τ,(by grind[FW])⟩ τ ?_
    (exact wD))
  obtain rfl:k=(slots (nth sp i).a).toNat:=ω
  repeat'(first|refine gE ?_|apply CF (g9 _))
  (exact cV (i+1,S2) ⟨τ,(by grind[BV]),τ⟩)
 obtain rfl:i=sp.length:=ω
 rw[CA]at p
 refine σE ?_
 refine lE (ι:=Nat × List Int) (λi=>[(5,bK (aE .own i.2)),(40,bK (cq .R la)),(41,fI la.length),(42,fN (i.1))]) (λi=>i.1<=la.length/\i.2=S++(la.take i.1).map (λl=>16*l.S)) (λi=>la.length - i.1) ((0,S)) ψ λi e=>?_
 obtain⟨i,S2⟩:=i;obtain⟨y,b⟩:=e;simp only at y b |-;have h:S2.length=S.length+i:=ψ
 by_cases j:i<la.length
 ·have n:=ar j
  have L:=wL a n
  repeat'(first|refine gE ?_|refine Cb cx (λr w=>by rw[I2.1 w];rfl) ζ kd υ rfl ?_)
  ((conv=>whnf)
   refine CP (i+1,S2++[16*(nth la i).S]) ⟨τ,(by grind[ZA])⟩ τ ?_
   (repeat'(first|exact tV1|rfl|exact CQ rfl (CQ (I1 (C.s ek.own) (by simp[rI];omega)) tV1)|refine CQ ?_ ?_)))
 obtain rfl:i=la.length:=ω
 rw[CA]at b
 repeat'(first|refine gE ?_|refine CN (VV S2 ω) (.inl rfl) ?_)
 show _=aE .own (sorted (gm sp++la.map λl=>16*l.S));rw[<-p,<-b];rfl
def sQ(b:List (Int × Value))(L:List Int):Prop:=∀a,mlook b a (.int .i64 0)=.int .i64 (L.count a:Nat)
theorem PP(c:List (Int × Value))(a b:Int)(v d:Value):mlook (mput c a v) b d=if a=b then v else mlook c b d:=by
 induction c with
 | nil=>grind[mput,mlook]
 | cons p c e=>
  grind[mput,mlook]
def inc(b:List (Int × Value))(L:List Int)(a:Int):List (Int × Value):=mput b a (.int .i64 ((L.count a:Nat)+1))
def Qn:sQ [] []:=λ_=>rfl
theorem si{d:List (Int × Value)}{L:List Int}(h:sQ d L)(a:Int):sQ (inc d L a) (L++[a]):=λb=>by
 unfold inc;rw[PP,ZB];by_cases c:a=b
 ·grind
 rw[CI c,h b,List.count_singleton,CI (by simpa using c)];rfl
theorem Gr(h:ac)(d:ee h.H)(e:eC h.J)(b:List (Int × Value))(L:List Int)(a c:Int)(g:sQ b L)(n:L.length<=1000000000) :
  zzB 174 false [.vI a,.vI c,.ptr [.m b],.ptr (ac.enc .R h)] [.vI a,.vI c,.ptr [.m (inc b L a)],.ptr (ac.enc .R h)] .one [B (dK h a c)]:=by
 have j:=lV h.H h.J a d e;obtain⟨i,-⟩:=pp h.H h.J a;have k:L.count a<=L.length:=List.count_le_length;unfold dK;generalize denotes h.H h.J a=w at j i |-;refine fM 41 [] [] [(0,0),(0,0),(0,0),(0,0)] Tryz.func174 rfl (λu q=>?_)
 repeat'(first|refine gP ?_|refine gS (λl=>?_) (λl=>?_)|refine Ml.mk (g a) ?_|refine Mu.mk (es':=inc b L a) rfl ?_|refine CO (i ϑ).1 (aa (ar (i ϑ).2)) ?_)
 all_goals
  refine CM rfl ?_ ?_
  ·exact bY (ψ)
  exact wB
set_option maxHeartbeats 8000000
def vF(h:ac)(a:aO):Bool:=iN h a&&decide (a.b7<=h.b2)
def o7(h:ac):List Int:=((cT h++h.a4.a0.map (·.U))++aR h.q)++h.K.map (·.U)
def kY(h:ac):Bool:=((h.Q.all (fK h)&&h.a4.a0.all (vF h))&&(aR h.q).all (lY h))&&(rD h.H h.J).all λa=>decide ((o7 h).count a=1)
variable{h:ac}
theorem UQ(h1:h.Q.all (fK h)=false):kY h=false:=by grind[kY]
theorem Nr(h1:h.a4.a0.all (vF h)=false):kY h=false:=by grind[kY]
theorem VE(h1:(aR h.q).all (lY h)=false):kY h=false:=by grind[kY]
theorem V9(h1:((rD h.H h.J).all λa=>decide ((o7 h).count a=1))=false):kY h=false:=by grind[kY]
variable{la:List aB}
theorem PT(h1:sp.length<=1048576)(h2:la.length<=1048576):(rD sp la).length<=100000000:=by
 have a:∀(l:List a8),(gm l).length<=16*l.length:=by
  intro l
  induction l with
  | nil=>exact C1 _
  | cons s l b=>
   have e:gm (s::l)=eZ s (slots s.a).toNat++gm l:=by grind[gm]
   have c:=uS s.a
   grind[uq]
 grind[zk,rD,live0]
theorem BI(h:ac)(hs:ac.sml h)(N:bA h.H h.J=true)(F:bE h.q=true)(X:∀c∈h.Q,bB c=true):zzA 85 false [ν h] .one [B (kY h)]:=by
 obtain⟨-,-,p,r,Y,Z,hsm,hsq,-⟩:=hs;have hlo:h.K.length<=1048576:=Y.1;have hlc:h.Q.length<=1048576:=Z.1;have hlq:h.a4.a0.length<=1048576:=hsq.1;have hfl:=vm F;have t:kY h=false->[B false]=[B (kY h)]:=λe=>by rw[e]
 refine fP 114 [(174,[0,0,2,2])] [] Tryz.func85 rfl ?_
 refine σP ?_
 refine lE (ι:=Nat × List (Int × Value) × List Int) (λi=>[(1,bF (ac.enc .R h)),(3,bF [.m i.2.1]),(4,.fn 174 [3,1]),(22,bK (q9 .R h.Q)),(23,fI h.Q.length),(24,fN (i.1))]) (λi=>i.1<=h.Q.length/\sQ i.2.1 i.2.2/\i.2.2=((h.Q.take i.1).flatMap λc=>c.X.flatten)/\(h.Q.take i.1).all (fK h)=true/\i.2.2.length<=32*i.1) (λi=>h.Q.length - i.1) ((0,[],[])) (⟨C1 _,Qn,rfl,rfl,C1 _⟩) λi hi=>?_
 obtain⟨i,es,L⟩:=i;obtain⟨hi,O,hL,ai,hb⟩:=hi;simp only at hi O hL ai hb |-;by_cases li:i<h.Q.length
 ·have U:=ar li
  obtain⟨h4,h8⟩:=x7 (X _ (ax li))
  refine σE ?_
  refine lE (ι:=Nat × List (Int × Value) × List Int) (λk=>[(1,bF (ac.enc .R h)),(3,bF [.m k.2.1]),(4,.fn 174 [3,1]),(22,bK (q9 .R h.Q)),(23,fI h.Q.length),(24,fN i),(29,bK (kg .R (nth h.Q i).X)),(30,fI ((nth h.Q i).X.length)),(31,fN (k.1))]) (λk=>k.1<=(nth h.Q i).X.length/\sQ k.2.1 k.2.2/\k.2.2=L++((nth h.Q i).X.take k.1).flatten/\du k.1 (vt h (nth h.Q i))=true/\k.2.2.length<=L.length+8*k.1) (λk=>(nth h.Q i).X.length - k.1) ((0,es,L)) (⟨C1 _,O,by simp,rfl,by simp⟩) λk hk=>?_
  obtain⟨k,es3,V⟩:=k;obtain⟨hk,E,P,ak,hb3⟩:=hk;simp only at hk E P ak hb3 |-;by_cases lk:k<(nth h.Q i).X.length
  ·have hy:=ar lk
   have hl8:=h8 _ (ax lk)
   refine σE ?_
   refine lE (ι:=Nat × List (Int × Value) × List Int) (λj=>[(1,bF (ac.enc .R h)),(3,bF [.m j.2.1]),(4,.fn 174 [3,1]),(7,fN k),(22,bK (q9 .R h.Q)),(23,fI h.Q.length),(24,fN i),(29,bK (kg .R (nth h.Q i).X)),(30,fI ((nth h.Q i).X.length)),(31,fN k),(36,bK (aE .R (nth (nth h.Q i).X k))),(37,fI ((nth (nth h.Q i).X k).length)),(38,fN (j.1))]) (λj=>j.1<=(nth (nth h.Q i).X k).length/\sQ j.2.1 j.2.2/\j.2.2=V++(nth (nth h.Q i).X k).take j.1/\((nth (nth h.Q i).X k).take j.1).all (λa=>dK h a (k:Nat))=true) (λj=>(nth (nth h.Q i).X k).length - j.1) ((0,es3,V)) ψ λj hj=>?_
   obtain⟨j,es4,Q⟩:=j;obtain⟨hj,l,R,W⟩:=hj;simp only at hj l R W |-;have hl4:Q.length=V.length+j:=ψ
   by_cases lj:j<(nth (nth h.Q i).X k).length
   ·have d:=ar lj
    have b:=Gr h p r es4 Q (nth (nth (nth h.Q i).X k) j) (k:Nat) l ω;cases o:dK h (nth (nth (nth h.Q i).X k) j) (k:Nat)<;>rw[o]at b
    ·refine σE ?_
     exact t (UQ (ip U (by unfold fK;exact cK lk (ip d o))))
    refine σE ?_
    ((conv=>whnf)
     refine CP (j+1,inc es4 Q (nth (nth (nth h.Q i).X k) j),Q++[nth (nth (nth h.Q i).X k) j]) ⟨τ,si l _,(by grind[ZA]),df d W o⟩ τ ?_
     (exact wA))
   obtain rfl:j=(nth (nth h.Q i).X k).length:=ω
   rw[CA]at R W
   refine σE ?_
   (exact cV (k+1,es4,Q) ⟨τ,l,(by grind[A8]),bX ak W,τ⟩)
  obtain rfl:k=(nth h.Q i).X.length:=ω
  rw[CA]at P
  refine σE ?_
  (exact cV (i+1,es3,V) ⟨τ,E,(by grind[x4]),df U ai ak,τ⟩)
 obtain rfl:i=h.Q.length:=ω
 rw[CA]at hL ai
 refine σE ?_
 refine lE (ι:=Nat × List (Int × Value) × List Int) (λq=>[(1,bF (ac.enc .R h)),(3,bF [.m q.2.1]),(4,.fn 174 [3,1]),(52,bK (cA .R h.a4.a0)),(53,fI h.a4.a0.length),(54,fN (q.1))]) (λq=>q.1<=h.a4.a0.length/\sQ q.2.1 q.2.2/\q.2.2=L++(h.a4.a0.take q.1).map (·.U)/\(h.a4.a0.take q.1).all (vF h)=true) (λq=>h.a4.a0.length - q.1) ((0,es,L)) ψ λq u=>?_
 obtain⟨q,es5,G⟩:=q;obtain⟨w,y,D,aq⟩:=u;simp only at w y D aq |-;have hl5:G.length=L.length+q:=ψ
 by_cases S:q<h.a4.a0.length
 ·have d:=ar S
  have b:=Gr h p r es5 G (nth h.a4.a0 q).U (nth h.a4.a0 q).a y ω;cases o:dK h (nth h.a4.a0 q).U (nth h.a4.a0 q).a<;>rw[o]at b
  ·repeat'(first|refine gE ?_|refine gS (λu=>?_) (λu=>?_)|fail)
   all_goals exact t (Nr (ip d (by unfold vF iN;rw[o];rfl)))
  repeat'(first|refine gE ?_|refine gS (λu=>?_) (λu=>?_)|fail)
  all_goals first
   |exact t (Nr (ip d (by unfold vF iN;rw[o,Z0 ω];rfl)))
   | ((conv=>whnf)
      refine CP (q+1,inc es5 G (nth h.a4.a0 q).U,G++[(nth h.a4.a0 q).U]) ⟨τ,si y _,(by simp only;rw[D,ZA,d,IB,CB];rfl),df d aq (by unfold vF iN;rw[o,O0 ω];rfl)⟩ τ ?_
      (exact wA))
 obtain rfl:q=h.a4.a0.length:=ω
 rw[CA]at D aq
 repeat'(first|refine gE ?_|apply CF (Ep h.q hsm))
 refine lE (ι:=Nat × List (Int × Value) × List Int) (λq=>[(1,bF (ac.enc .R h)),(3,bF [.m q.2.1]),(4,.fn 174 [3,1]),(75,bK (aE .own (aR h.q))),(76,fI ((aR h.q).length)),(77,fN (q.1))]) (λq=>q.1<=(aR h.q).length/\sQ q.2.1 q.2.2/\q.2.2=G++(aR h.q).take q.1/\((aR h.q).take q.1).all (lY h)=true) (λq=>(aR h.q).length - q.1) ((0,es5,G)) ψ λq u=>?_
 obtain⟨q,es6,H⟩:=q;obtain⟨w,C,J,aq6⟩:=u;simp only at w C J aq6 |-;have hl6:H.length=G.length+q:=ψ
 by_cases S:q<(aR h.q).length
 ·have d:=ar S
  have b:=Gr h p r es6 H (nth (aR h.q) q) (-1) C ω;cases o:dK h (nth (aR h.q) q) (-1)<;>rw[o]at b
  ·refine σE ?_
   exact t (VE (ip d o))
  refine σE ?_
  ((conv=>whnf)
   refine CP (q+1,inc es6 H (nth (aR h.q) q),H++[nth (aR h.q) q]) ⟨τ,si C _,(by grind[ZA]),df d aq6 o⟩ τ ?_
   (exact wA))
 obtain rfl:q=(aR h.q).length:=ω
 rw[CA]at J aq6
 refine σE ?_
 refine lE (ι:=Nat × List (Int × Value) × List Int) (λq=>[(1,bF (ac.enc .R h)),(3,bF [.m q.2.1]),(87,bK (m6 .R h.K)),(88,fI h.K.length),(89,fN (q.1))]) (λq=>q.1<=h.K.length/\sQ q.2.1 q.2.2/\q.2.2=H++(h.K.take q.1).map (·.U)) (λq=>h.K.length - q.1) ((0,es6,H)) ψ λq u=>?_
 obtain⟨q,es7,K⟩:=q;obtain⟨w,g,M⟩:=u;simp only at w g M |-;have hl7:K.length=H.length+q:=ψ
 by_cases S:q<h.K.length
 ·have d:=ar S
  have hcl:K.count (nth h.K q).U<=K.length:=List.count_le_length
  repeat'(first|refine gE ?_|refine Ml.mk (g _) ?_|refine Mu.mk (es':=inc es7 K (nth h.K q).U) rfl ?_)
  ((conv=>whnf)
   refine CP (q+1,inc es7 K (nth h.K q).U,K++[(nth h.K q).U]) ⟨τ,si g _,(by grind[ZA])⟩ τ ?_
   (exact wA))
 obtain rfl:q=h.K.length:=ω
 rw[CA]at M;have T:K=o7 h:=by rw[M,J,D,hL];rfl
 have hlv:=PT p.1 r.1
 repeat'(first|refine gE ?_|apply CF (Au h.H h.J p r N))
 refine gl ((rD h.H h.J).length) (λn=>[(3,bF [.m es7]),(103,bK (aE .own (rD h.H h.J))),(104,fI ((rD h.H h.J).length)),(105,fN n)]) (λn=>((rD h.H h.J).take n).all (λa=>decide ((o7 h).count a=1))=true) ψ λn hn=>?_
 obtain⟨hn,an⟩:=hn;by_cases ln:n<(rD h.H h.J).length
 ·have d:=ar ln
  rw[T]at g
  repeat'(first|refine gE ?_|refine gS (λu=>?_) (λu=>?_)|refine Ml.mk (g _) ?_)
  all_goals first
   |exact t (V9 (ip d (Z0 ω)))
   | ((conv=>whnf);exact cV (n+1) ⟨ω,df d an (O0 ω)⟩)
 refine σE ?_
 exact bY ((by grind[kY]))
set_option maxHeartbeats 8000000
def kN(h:ac):Bool:=(((((((aG h.G&&bJ (fk h) h.e)&&bA h.H h.J)&&(pages0 h&&rE h))&&dY h)&&h.Q.all bB)&&(gG h&&kY h))&&ch h)&&vU h
theorem cR(h:ac)(P:ac.sml h):zzA 35 false [ν h] .one [B (kN h)]:=by
 have E:=P;obtain⟨n,o,b,g,F,p,q,G,r⟩:=P;have u:y2 h:=n.1.2;have hpn:fk h<=1048576:=u.1;have H:h.K.length<=1048576:=F.1;have J:h.Q.length<=1048576:=p.1;have hlb:h.q.T.length<=1048576:=q.1.1;have hlp:h.a9.g.V.length<=1048576:=r;have d:=kH h.G n;have e:=nE (fk h) h.e ω o;have i:=sJ h.H h.J b g;have w:=mW h.q q;have K:=qF h.a4 G;cases Q:aG h.G<;>rw[Q]at d
 ·refine fO 154 [] Tryz.func35 rfl ?_
  repeat'(first|refine gP ?_|refine gS (λa=>?_) (λa=>?_)|fail)
  all_goals first
   | exact bY ((by unfold kN ;rw[Q];simp))
   |(exfalso;omega)
 cases R:bJ (fk h) h.e<;>rw[R]at e
 ·refine fO 154 [] Tryz.func35 rfl ?_
  repeat'(first|refine gP ?_|refine gS (λa=>?_) (λa=>?_)|fail)
  all_goals first
   | exact bY ((by unfold kN ;rw[R];simp))
   |(exfalso;omega)
 cases D:bA h.H h.J<;>rw[D]at i
 ·refine fO 154 [] Tryz.func35 rfl ?_
  repeat'(first|refine gP ?_|refine gS (λa=>?_) (λa=>?_)|fail)
  all_goals first
   | exact bY ((by unfold kN ;rw[D];simp))
   |(exfalso;omega)
 have j:=H2 h b g u o D;cases S:(pages0 h&&rE h)<;>rw[S]at j
 ·refine fO 154 [] Tryz.func35 rfl ?_
  repeat'(first|refine gP ?_|refine gS (λa=>?_) (λa=>?_)|fail)
  all_goals first
   | exact bY ((by unfold kN ;rw[S];simp))
   |(exfalso;omega)
 cases L:bE h.q<;>rw[L]at w
 ·refine fO 154 [] Tryz.func35 rfl ?_
  repeat'(first|refine gP ?_|refine gS (λa=>?_) (λa=>?_)|fail)
  all_goals first
   | exact bY ((by unfold kN dY;rw[L];simp))
   |(exfalso;omega)
 by_cases M:h.Q.length=h.q.T.length;rotate_left
 ·refine fO 154 [] Tryz.func35 rfl ?_
  repeat'(first|refine gP ?_|refine gS (λa=>?_) (λa=>?_)|fail)
  all_goals first
   | exact bY ((by unfold kN dY;rw[Z0 M];simp))
   |(exfalso;omega)
 cases T:gj h.a4<;>rw[T]at K
 ·refine fO 154 [] Tryz.func35 rfl ?_
  repeat'(first|refine gP ?_|refine gS (λa=>?_) (λa=>?_)|fail)
  all_goals first
   | exact bY ((by unfold kN dY;rw[T];simp))
   |(exfalso;omega)
 have hmc:dY h=true:=by grind[dY]
 refine fO 154 [] Tryz.func35 rfl ?_
 repeat'(first|refine gB ?_|refine gS (λa=>?_) (λa=>?_)|fail)
 all_goals try(exfalso;omega)
 (conv=>whnf)
 refine gl h.Q.length (λk=>[(1,bF (ac.enc .R h)),(57,bK (q9 .R h.Q)),(58,fI h.Q.length),(59,fN k)]) (λk=>(h.Q.take k).all bB=true) ψ λk U=>?_
 obtain⟨U,V⟩:=U;by_cases W:k<h.Q.length
 ·have N:=ar W
  have O:=p9 (nth h.Q k) (p.2 _ (ax W));cases X:bB (nth h.Q k)<;>rw[X]at O
  ·refine σE ?_
   exact bY ((by grind[kN]))
  refine σE ?_
  (exact cV (k+1) ⟨ω,df N V X⟩)
 have hca:h.Q.all bB=true:=pE ω V;have l:=Kn h b g H J;have c10:=BI h E D L ψ;have c12:=Be h.a9 r;have c13:=yo h h.a9.g.b1 b.1;have c14:=yo h h.a9.g.b3 b.1;cases Y:gG h<;>rw[Y]at l
 ·refine σE ?_
  all_goals first
   | exact bY ((by unfold kN;rw[Y];simp))
   |(exfalso;omega)
 cases e10:kY h<;>rw[e10]at c10
 ·refine σE ?_
  all_goals first
   | exact bY ((by unfold kN;rw[e10];simp))
   |(exfalso;omega)
 by_cases Z:ch h=true;rotate_left
 ·have y:ch h=false:=by simpa using Z
  have c:=y;unfold ch at c;rw[I9]at c
  repeat'(first|refine gE ?_|refine gS (λa=>?_) (λa=>?_)|apply CF (aH _ _ _)|apply CF (qE _))
  all_goals first
   | exact bY ((by unfold kN;rw[y];simp))
   |(exfalso;omega)
 have c:=Z;unfold ch at c;rw[C0]at c;have C:kN h=vU h:=by grind[kN]
 rw[C];unfold vU;cases em:h.a3
 ·repeat'(first|refine gE ?_|refine gS (λa=>?_) (λa=>?_)|apply CF (aH _ _ _)|apply CF (qE _)|refine Bf.f em ?_)
  all_goals first
   | exact bY ((by unfold wb;simp only[Bool.false_eq_true,if_false];first|(symm;exact Z0 ω)|(rw[O9,beq_iff_eq,C0];omega)))
   |(exfalso;omega)
 cases e12:kf h.a9<;>rw[e12]at c12
 all_goals
  repeat'(first|refine gE ?_|refine gS (λa=>?_) (λa=>?_)|apply CF (aH _ _ _)|apply CF (qE _)|refine Bf.t em ?_)
  all_goals first
   | exact bY (ψ)
   |(exfalso;omega)
variable{α:Type}
def hJ[Inhabited α]{xs:List α}{f:α->Int}(e:(xs.map f).Nodup)(b:i<xs.length)(c:j<xs.length)(h:f (nth xs i)=f (nth xs j)):i=j:=by
 have d:=List.pairwise_iff_getElem.1 e;rcases Nat.lt_trichotomy i j with a|rfl|a
 ·have:=d i j (by simpa using b) (by simpa using c) a
  simp only[List.getElem_map]at this;rw[bk (Z3 b),bk (Z3 c)]at h;exact absurd h this
 ·rfl
 have:=d j i (by simpa using c) (by simpa using b) a;simp only[List.getElem_map]at this;rw[bk (Z3 b),bk (Z3 c)]at h;omega
theorem b9[Inhabited α]{xs:List α}{x:α}(h:x∈xs):∃i,i<xs.length/\nth xs i=x:=by
 obtain⟨i,a⟩:=List.mem_iff_getElem?.1 h
 grind[bk]
theorem tX:∀{H L:List Int},H.Nodup->(∀x∈H,x∈L)->L.length<=H.length->∀x∈L,x∈H
 | [],L,_,_,b,x,c=>by grind
 | y::H,L,d,f,b,x,c=>by
  have g:y∈L:=ψ
  have a:=List.nodup_cons.1 d;by_cases e:x=y
  ·grind
  refine OA _ (tX (L:=L.erase y) a.2 (λz h=>?_) ?_ x ψ)
  all_goals grind
theorem PA{H L:List Int}(b:L.Nodup)(c:∀x∈H,x∈L):(H.Nodup/\H.length=L.length)↔∀a∈L,H.count a=1:=by grind[tX,List.Perm.length_eq]
theorem dR{l:aB}{p:Int} : p∈lpgs l n↔∃k:Nat,k<n/\p=l.S+(k:Nat):=by grind[lpgs]
structure pm(sp:List a8)(la:List aB):Prop where
 sok:∀s∈sp,bh s=true
 lok:∀l∈la,bZ l=true
 nd:(sp.map (·.S)).Nodup
 dis:∀s∈sp,∀l∈la,∀k:Nat,k<l.a2.toNat->s.S≠l.S+(k:Nat)
 one:∀i j,i<la.length->j<la.length->∀k k':Nat,k<(nth la i).a2.toNat->k'<(nth la j).a2.toNat->(nth la i).S+(k:Nat)=(nth la j).S+(k':Nat)->i=j
theorem pm.of(h:bA sp la=true):pm sp la:=by
 obtain⟨B,C,d⟩:=fC h;unfold pgs at d;rw[List.nodup_append]at d;obtain⟨q,r,t⟩:=d;have u:=List.pairwise_flatMap.1 r;refine⟨ψ,ψ,q,λs D l w k c e=>?_,λi j f g k o c a e=>?_⟩
 ·exact t _ ψ _ (List.mem_flatMap.2 ⟨l,w,dR.2 ⟨k,c,rfl⟩⟩) e
 have p:=List.pairwise_iff_getElem.1 u.2;have y:=bk (Z3 f);have A:=bk (Z3 g);rw[y]at c e;rw[A]at a e;rcases Nat.lt_trichotomy i j with b|n|b
 ·exact absurd e (p i j f g b _ (dR.2 ⟨k,c,rfl⟩) _ (dR.2 ⟨o,a,rfl⟩))
 ·exact n
 exact absurd e.symm (p j i g f b _ (dR.2 ⟨o,a,rfl⟩) _ (dR.2 ⟨k,c,rfl⟩))
variable{a:Int}
theorem iq{s:a8}(b:bh s=true):dm s a=true↔16*s.S<=a/\a<=16*s.S+15:=by grind[dm]
theorem iS(b:pm sp la)(c:i<sp.length)(h:16*(nth sp i).S<=a/\a<=16*(nth sp i).S+15):denotes sp la a=pz i (nth sp i) a:=by
 refine oT c ((iq (b.sok _ (ax c))).2 h) λj z l k=>?_
 cases e:dm z a with
 | false=>rfl
 | true=>
  exfalso;have d:=(C4.1 k).1;have n:=(iq (b.sok z ψ)).1 e;have g:=bk k;subst g;have:=hJ (f:=(·.S)) b.nd c d ω;omega
theorem Xk(b:pm sp la)(h:∀i,i<sp.length->¬(16*(nth sp i).S<=a/\a<=16*(nth sp i).S+15)):∀(j:Nat)(z:a8),j<sp.length->sp[j]? = some z->dm z a=false:=by grind[iq,pm.sok,bk]
theorem RU(c:pm sp la)(a:Int):a∈live0 sp la↔a∈lK sp la:=by
 have G:a∈lK sp la↔∃n:Nat,n<512/\lz sp la n=true/\(n:Int)=a:=by grind[lK,nk]
 rw[G];unfold live0 gm;rw[I5,List.mem_flatMap,O8];constructor
 ·rintro(⟨s,g,C⟩|⟨l,b,rfl⟩)
  ·obtain⟨i,d,rfl⟩:=b9 g
   unfold eZ at C;obtain⟨k,H,rfl⟩:=O8.1 C;obtain⟨h,J⟩:=S8.1 H;have h:=List.mem_range.1 h;have o:=aJ (c.sok _ g);have t:=Fo ⟨o.2.2.1,o.2.2.2⟩;have K:=uS (nth sp i).a;unfold lr;have L:0<=(k:Int)*csz (nth sp i).a/\(k:Int)*csz (nth sp i).a<=15:=by grind[dd]
   have f:=iS c d (a:=16*(nth sp i).S+(k:Nat)*csz (nth sp i).a) ω;have O:(16*(nth sp i).S+(k:Nat)*csz (nth sp i).a - 16*(nth sp i).S) / csz (nth sp i).a=(k:Nat)/\(16*(nth sp i).S+(k:Nat)*csz (nth sp i).a - 16*(nth sp i).S) % csz (nth sp i).a=0:=by grind[dd]
   refine⟨(16*(nth sp i).S+(k:Nat)*csz (nth sp i).a).toNat,ω,?_,ω⟩
   grind[lz,pz]
  obtain⟨i,d,rfl⟩:=b9 b;have P:=aV (c.lok _ b);have M:=cL (c.lok _ b);have u:=Xk c (a:=16*(nth la i).S) λj D Q=>c.dis _ (ax D) _ b 0 ω ω
  have E:bR (nth la i) (16*(nth la i).S)=true:=by grind[pm.lok,bR]
  have f:=nQ (a:=16*(nth la i).S) (O5 _) u d E λj z D r=>by
   cases e:bR z (16*(nth la i).S) with
   | false=>rfl
   | true=>
    exfalso;have w:=(C4.1 r).1;have p:=I3 r;have y:=bk r;subst y;have N:=aV (c.lok _ p);have q:=c.lok _ p;unfold bZ at q;rw[C0]at q;unfold bR at e;rw[I0,C0]at e;have:=c.one i j d w 0 ((nth la i).S - (nth la j).S).toNat ω ω ω;omega
  refine⟨(16*(nth la i).S).toNat,ω,?_,ω⟩
  grind[lz]
 rintro⟨n,R,b,rfl⟩
 cases u:sp.findIdx? (dm · (n:Nat)) with
 | some i=>
  obtain⟨d,A,-⟩:=SD.1 u;have B:=bk (Z3 d);rw[<-B]at A;have g:=c.sok _ (ax d);have F:=(iq g).1 A;have o:=aJ g;have t:=Fo ⟨o.2.2.1,o.2.2.2⟩;have f:denotes sp la (n:Nat)=pz i (nth sp i) (n:Nat):=by grind[denotes]
  rw[uW f]at b;simp only[I0,IC,C0]at b;simp only[pz]at b;cases E:bg (nth sp i).b0 (((n:Int) - 16*(nth sp i).S) / csz (nth sp i).a) with
  | false=>grind
  | true=>
   have r:((n:Int) - 16*(nth sp i).S) % csz (nth sp i).a=0:=b.1;refine .inl ⟨nth sp i,ax d,?_⟩;unfold eZ;refine O8.2 ⟨(((n:Int) - 16*(nth sp i).S) / csz (nth sp i).a).toNat,S8.2 ⟨List.mem_range.2 ?_,?_⟩,?_⟩
   all_goals grind[dd,lr]
 | none=>
  cases F:la.findIdx? (bR · (n:Nat)) with
  | some i=>
   obtain⟨d,A,-⟩:=SD.1 F;have f:denotes sp la (n:Nat) = ⟨3,i,0,(n:Nat) - 16*(nth la i).S⟩:=by grind[denotes]
   rw[uW f]at b
   grind[ax]
  | none=>
   have f:denotes sp la (n:Nat) = ⟨0,0,0,0⟩:=by grind[denotes]
   rw[uW f]at b;simp at b
theorem yQ(b:pm sp la)(c:(denotes sp la a).c8=0)(f:(denotes sp la a).b5=1\/(denotes sp la a).b5=3):a∈lK sp la:=by
 have l:0<=a/\a<512:=by
  unfold denotes at c f;cases g:sp.findIdx? (dm · a) with
  | some i=>
   obtain⟨d,j,-⟩:=SD.1 g;have h:=List.getElem_mem d;have e:=(iq (b.sok _ h)).1 j;have k:=aJ (b.sok _ h);omega
  | none=>
   rw[g]at c f;cases e:la.findIdx? (bR · a) with
   | some i=>
    obtain⟨d,-⟩:=SD.1 e;rw[e]at c;have n:=aV (b.lok _ (ax d))
    grind
   | none=>grind
 have k:((a.toNat:Nat):Int)=a:=ω
 grind[lK,nk,lz]
theorem xD(sp:List a8)(la:List aB):(lK sp la).Nodup:=by
 unfold lK nk List.Nodup;rw[List.pairwise_map]
 grind[List.Pairwise.imp,List.nodup_range]
theorem xd(b:pm h.H h.J){c:Int}(d:dK h a c=true):a∈lK h.H h.J:=by grind[yQ,dK]
theorem R1(a:pm h.H h.J){o:bc}(b:jF h o=true):o.U∈lK h.H h.J:=by grind[yQ,jF]
theorem Nd(h:ac)(a:Int):(o7 h).count a=(holders h).count a:=by grind[o7,holders]
theorem qY(h:ac):kI h=true↔(h.Q.all (fK h)=true/\h.a4.a0.all (iN h)=true)/\(aR h.q).all (lY h)=true:=by grind[kI]
theorem vi(f:pm h.H h.J)(g:gG h=true)(j:kI h=true):∀a∈holders h,a∈lK h.H h.J:=by
 obtain⟨⟨n,p⟩,q⟩:=(qY h).1 j;intro a b;unfold holders at b;simp only[I5]at b;rcases b with((b|b)|b)|b
 ·obtain⟨o,d,rfl⟩:=O8.1 b
  obtain⟨i,r,rfl⟩:=b9 d;have e:=fE g r
  grind[R1,objAt]
 ·unfold cT at b
  obtain⟨c,t,b⟩:=List.mem_flatMap.1 b;obtain⟨l,u,b⟩:=List.mem_flatten.1 b;obtain⟨k,w,rfl⟩:=b9 u;have e:=S7.1 n c t;unfold fK at e;have A:=S7.1 (show(nth c.X k).all _=true from fE e w) a b
  grind[xd]
 ·obtain⟨x,y,rfl⟩:=O8.1 b
  exact xd f (S7.1 p x y)
 exact xd f (S7.1 q a b)
theorem QB(b:bA h.H h.J=true)(c:gG h=true):(nv h&&lh h)=kY h:=by
 have d:=pm.of b;have e:(nv h=true/\h.a4.a0.all (iN h)=true)↔h.a4.a0.all (vF h)=true:=by grind[nv,vF]
 have f:kY h=true↔((h.Q.all (fK h)=true/\h.a4.a0.all (vF h)=true)/\(aR h.q).all (lY h)=true)/\∀a∈lK h.H h.J,(holders h).count a=1:=by
  unfold kY;simp only[I0];refine and_congr Iff.rfl ?_;simp only[S7,C0,Nd]
  grind[List.mem_mergeSort,RU,rD,sorted]
 grind[qY,PA,xD,vi,lh]
theorem k4(s t:a8):meshable s t=meshable t s:=by grind[meshable]
variable{p:Nat}{f:Int}{t:aM}
theorem fw : (p:Int)∈pagesOn t f↔p<t.M.length/\(nth t.M p).y≠0/\(nth t.M p).j=f:=by grind[pagesOn,lw,RO]
theorem xX{q:Int}(h:q∈pagesOn t f):∃p:Nat,q=(p:Nat):=by grind[pagesOn,lw]
theorem uK(a:pages0 h=true):(∀i,i<h.J.length->∀k:Nat,k<(nth h.J i).a2.toNat->(aS h ((nth h.J i).S+(k:Nat))).length=1)/\(∀p∈pgs h.H h.J,p<fk h)/\∀p:Nat,p<fk h->((nth (tbl h).M p).y≠0↔(p:Int)∈pgs h.H h.J):=by grind[fE,pages0,uV,BD,yu]
theorem FB(a:p<fk h):au (tbl h) (p:Nat)=nth (tbl h).M p:=nA a
theorem gd(a:p<fk h)(b:(nth (tbl h).M p).y≠0):aS h (p:Nat)=pagesOn (tbl h) (nth (tbl h).M p).j:=by grind[FB,aS,tbl]
theorem wl(g:pm h.H h.J)(c:j<h.H.length):iu h (nth h.H j).S=(j:Nat):=by
 unfold iu;refine dJ (ar c) (by unfold nH;simp) λk z i d=>?_
 have a:=bk d;have b:=(C4.1 d).1;subst a;unfold nH;refine Z0 λe=>?_
 have:=hJ (f:=(·.S)) g.nd b c e;omega
theorem xp(w:bA h.H h.J=true)(N:pages0 h=true):yj h=rE h:=by
 have E:=pm.of w;obtain⟨O,P,Q⟩:=uK N;have o:∀i,i<h.H.length->∃p:Nat,(nth h.H i).S=(p:Nat)/\p<fk h/\(nth (tbl h).M p).y≠0:=λi r=>by
  have Y:=aJ (E.sok _ (ax r));have R:(nth h.H i).S∈pgs h.H h.J:=by grind[ax,pgs]
  have c:=P _ R;refine⟨(nth h.H i).S.toNat,ω,ω,?_⟩
  grind
 rw[O9];unfold yj rE;rw[cI,cI];constructor
 ·intro F i r
  rw[cI];intro j G;have y:j<h.H.length:=ω
  unfold nP;rw[IC,C0];by_cases d:(au (tbl h) (nth h.H i).S).j=(au (tbl h) (nth h.H j).S).j
  ·right
   obtain⟨p,e,a,f⟩:=o i r;obtain⟨q,A,b,g⟩:=o j y;have n:=S7.1 (F i r);rw[e,A,FB a,FB b]at d;have S:(q:Int)∈aS h (nth h.H i).S:=by
    rw[e,gd a f];exact fw.2 ⟨b,g,d.symm⟩
   have t:=n _ S;unfold nY at t;rw[<-A,wl E y]at t;rw[IC,I0,C0]at t;rcases t with t|t
   ·omega
   simpa using t.2
  exact .inl d
 intro B i r;rw[S7];intro q C;obtain⟨p,e,a,f⟩:=o i r;have T:=C;rw[e,gd a f]at C;obtain⟨D,rfl⟩:=xX C;obtain⟨b,g,H⟩:=fw.1 C;have u:=(Q D b).1 g;unfold pgs at u;rw[I5,O8,List.mem_flatMap]at u;rcases u with⟨s,F,J⟩|⟨l,U,K⟩
 ·obtain⟨j,G,rfl⟩:=b9 F
  unfold nY;rw[<-J,wl E G];rw[IC,I0,C0,C0];have d:(au (tbl h) (nth h.H i).S).j=(au (tbl h) (nth h.H j).S).j:=by grind[FB]
  rcases Nat.lt_trichotomy j i with c|V|c
  ·have n:=fE (B i r) c
   unfold nP at n
   simp_all
  ·omega
  have n:=fE (B j G) c;unfold nP at n;rw[IC,C0]at n;exact .inr ⟨ω,by rw[k4];simp_all⟩
 exfalso;obtain⟨W,L,rfl⟩:=b9 U;obtain⟨k,X,M⟩:=dR.1 K;have n:=O W L k X;rw[<-M,gd b g]at n;have Z:(D:Int)∈pagesOn (tbl h) (nth (tbl h).M D).j:=ψ
 have m2:(p:Int)∈pagesOn (tbl h) (nth (tbl h).M D).j:=fw.2 ⟨a,f,H.symm⟩
 grind[List.length_eq_one_iff,pm.dis,ax]
theorem ed(h:ac):kN h=cz h:=by grind[xp,QB,kN,cz,mI]
def iJ(k:ah)(f:Int):ah:=if(pagesOn k.F.O f).length=0 then {k with F:=⟨⟨k.F.W.V.set f.toNat (List.replicate 16 0),k.F.W.a5.set f.toNat false⟩,k.F.O⟩} else k
def mQ(k:ah)(p:Int):ah:={k with F:=⟨k.F.W,⟨k.F.O.M.set p.toNat ⟨0,0⟩⟩⟩}
def cW(k:ah)(p:Int):ah:=if(au k.F.O p).y=0 then k else iJ (mQ k p) (au k.F.O p).j
theorem cY[Inhabited α](xs:List α)(i j:Nat)(x:α):nth (xs.set i x) j=if i=j/\j<xs.length then x else nth xs j:=by grind[nth]
theorem rS(k:ah)(f:Int):(iJ k f).F.O=k.F.O/\(iJ k f).b=k.b/\(iJ k f).d=k.d/\(iJ k f).F.W.V.length=k.F.W.V.length/\(iJ k f).F.W.a5.length=k.F.W.a5.length:=by grind[iJ]
theorem t8(k:ah)(p:Int):(cW k p).F.O.M.length=k.F.O.M.length/\(cW k p).b=k.b/\(cW k p).d=k.d:=by grind[rS,cW,mQ]
theorem aF{k:ah} : aG k=true↔(∀j,j<k.d.length->0<=nth k.d j)/\dI k.F.W=true/\hO k.F.O k.F.W.a5.length=true/\(∀j,j<k.F.W.a5.length->nth k.F.W.a5 j=decide (0<(pagesOn k.F.O (j:Int)).length))/\0<=k.b/\k.b<=100000/\k.d.length<=40:=by grind[cI,aG,de,rA]
theorem aT{f:aW} : dI f=true↔1<=f.V.length/\f.V.length<=32/\f.a5.length=f.V.length/\∀j,j<f.V.length->iU (nth f.V j) (nth f.a5 j)=true:=by
 unfold dI;simp only[I0,C0,S7,and_assoc];refine and_congr Iff.rfl (and_congr Iff.rfl (and_congr_right λb=>⟨λh j a=>?_,λh q c=>?_⟩))
 ·exact h _ (I3 (yL (ar a) (ar ω)))
 grind[List.mem_iff_getElem?,List.getElem?_zip_eq_some,bk]
theorem bt : hO t a=true↔(∀j,j<t.M.length->m7 a (nth t.M j)=true)/\1<=t.M.length/\t.M.length<=32:=by grind[cI,hO]
theorem fR : 0<(pagesOn t f).length↔∃q,q<t.M.length/\(nth t.M q).y≠0/\(nth t.M q).j=f:=by
 unfold pagesOn lw;rw[Z1,List.length_pos_iff_exists_mem];simp[RO]
theorem bQ{k:ah}{p:Int}(h:aG k=true)(a:(au k.F.O p).y≠0):0<=p/\p<k.F.O.M.length/\au k.F.O p=nth k.F.O.M p.toNat/\0<=(au k.F.O p).j/\(au k.F.O p).j<k.F.W.a5.length:=by
 obtain⟨-,-,b,-⟩:=aF.1 h
 grind[bt,au,m7]
theorem zg{k:ah}(p:Int)(h:aG k=true):aG (cW k p)=true:=by
 unfold cW;split
 ·exact h
 rename_i r;obtain⟨C,D,E,i,l⟩:=bQ h r;obtain⟨t,u,F,w,y,A,B⟩:=aF.1 h;obtain⟨G,H,J,L⟩:=aT.1 u;obtain⟨M,N,O⟩:=bt.1 F;rw[E]at r i l |-;generalize K:(nth k.F.O.M p.toNat).j=f at i l;have b:∀q,nth (k.F.O.M.set p.toNat ⟨0,0⟩) q=if p.toNat=q then⟨0,0⟩ else nth k.F.O.M q:=λq=>by grind[cY]
 have c:∀j:Int,0<(pagesOn (⟨k.F.O.M.set p.toNat ⟨0,0⟩⟩ : aM) j).length↔∃q,q<k.F.O.M.length/\q≠p.toNat/\(nth k.F.O.M q).y≠0/\(nth k.F.O.M q).j=j:=λj=>by
  rw[fR];simp only[O2,b]
  grind
 have d:∀j:Int,0<(pagesOn k.F.O j).length↔∃q,q<k.F.O.M.length/\(nth k.F.O.M q).y≠0/\(nth k.F.O.M q).j=j:=λj=>fR
 have g:hO ⟨k.F.O.M.set p.toNat ⟨0,0⟩⟩ k.F.W.a5.length=true:=by
  rw[bt];simp only[O2,b]
  grind[m7]
 unfold iJ;split
 ·rename_i o
  rw[aF];simp only[mQ,O2]at o |-;refine⟨t,?_,g,λj n=>?_,y,A,B⟩
  ·rw[aT]
   simp only[O2,cY];refine⟨G,H,J,λj n=>?_⟩;by_cases a:f.toNat=j
   ·rw[CJ ⟨a,n⟩,CJ ⟨a,ω⟩];decide
   grind
  rw[cY];by_cases a:f.toNat=j
  ·grind
  rw[CI (λe=>a e.1),w j n];refine decide_eq_decide.2 ?_;rw[d,c]
  grind
 rename_i o;rw[aF];simp only[mQ]at o |-;refine⟨t,u,g,λj n=>?_,y,A,B⟩;rw[w j n];refine decide_eq_decide.2 ?_;by_cases a:f=j
 ·grind
 rw[d,c];grind
def aX{k:ah}(h:aG k=true):ah.sml k:=by
 obtain⟨g,b,c,i,l,n,o⟩:=aF.1 h;obtain⟨p,q,t,d⟩:=aT.1 b;obtain⟨u,w,y⟩:=bt.1 c;refine⟨⟨⟨⟨ω,λr f=>?_⟩,(by omega:_<=1048576)⟩,⟨ω,λe _=>tV1⟩⟩,(by omega:_<=1048576)⟩;obtain⟨j,a⟩:=List.mem_iff_getElem?.1 f;have:=d j (C4.1 a).1;rw[bk a]at this;unfold iU at this;simp only[I0,C0]at this;show r.length<=1048576;omega
theorem wg(a:cz h=true):aG h.G=true:=by grind[cz,mI]
variable{K:List (List C)->Prop}{sz by_:Nat}
theorem Ap.cp{e:α->List C}{xs:List α}(h2:∀x,(e x).length=sz)(d:∀x,br (e x)=true)(a:xs.length<=1048576)(b:by_<=1000)(c:K (xs.map e)):Ap true [] (xs.map e) sz by_ K:=
 Cb ψ ψ ψ kd (by simp only[Z1,List.length_nil,OD];exact yt a b) rfl c
def CX:type_of% @Ap.cp:=@Ap.cp
theorem Fl.cp{e:α->List C}{xs:List α}{X:Prop}(h2:∀x,(e x).length=sz)(d:∀x,br (e x)=true)(a:xs.length<=1048576)(b:by_<=1000)(c:X):Fl (xs.map e) sz by_ X:=
 Fl.mk ψ kd (by simp only[Z1];exact yt a b) c
def Ce:type_of% @Fl.cp:=@Fl.cp
theorem Ap.sn{rows rs:List (List C)}{r:List C}(h1:∀r∈rows,r.length=sz)(h2:r.length=sz)(a:rows.length+1<=1048576)(b:by_<=1000)(c:rs=rows++[r])(d:K rs):Ap false rows [r] sz by_ K:=
 Cb h1 ψ ψ kd (yt (by simpa using a) b) c d
def Cc:type_of% @Ap.sn:=@Ap.sn
def cM(xs:List Int)(a:xs.length<=1048576):zzA 238 false [.val none (aE .R xs)] .one (aE .own xs):=by
 refine fO 6 [] Tryz.func238 rfl ?_ (.inr (bH _))
 repeat'(first|refine gP ?_|refine CX (λ_=>rfl) (λ_=>rfl) a qs ?_)
 rfl
def Ha(t:aM)(a:aM.sml t):zzA 303 false [.val (some 1) (aM.enc .R t)] .agg (aM.enc .own t):=by
 have b:=a.1;refine fO 8 [] Tryz.func303 rfl ?_ (.inr (aM.enc_fr _))
 repeat'(first|refine gP ?_|refine CX (λ_=>rfl) (λ_=>rfl) b qs ?_)
 rfl
def Ae(t:aM)(a:aM.sml t):zzA 409 false [.val (some 1) (aM.enc .R t)] .agg (aM.enc .own t):=by
 have b:=a.1;refine fO 8 [] Tryz.func409 rfl ?_ (.inr (aM.enc_fr _))
 repeat'(first|refine gP ?_|refine CX (λ_=>rfl) (λ_=>rfl) b qs ?_)
 rfl
theorem aI{e:α->List C}{l:List α}(h:∀x,(e x).length=n):∀r∈l.map e,r.length=n:=(ψ)
theorem fx{β:Type}[Inhabited α]{xs:List α}{f:α->β}(a:i<xs.length):(xs.take (i+1)).map f=(xs.take i).map f++[f (nth xs i)]:=by grind[ZA,ar]
def Hn(f:aW)(a:aW.sml f):zzA 302 false [.val (some 2) (aW.enc .R f)] .agg (aW.enc .own f):=by
 have g:=a.1.1;have d:f.a5.length<=1048576:=a.2;refine fO 30 [ρ 5 10 17] Tryz.func302 rfl ?_ (.inr (aW.enc_fr _))
 repeat'(first|refine gP ?_|refine CX (λ_=>rfl) (λ_=>rfl) d qs ?_)
 refine lp0 f.V.length (λi=>[(1,bF (aW.enc .R f)),(2,bF [.z,.z]),(3,bF [.s .own ((f.V.take i).map (aE .own)),.s .own (f.a5.map (rB .own))]),(4,fN i)]) λi h=>?_
 by_cases b:i<f.V.length
 ·have e:=ar b
  have c:(nth f.V i).length<=1048576:=a.1.2 _ (ax b)
  repeat'(first|refine gE ?_|refine Ce (λ_=>rfl) (λ_=>rfl) c qs ?_|refine Cc (aI λ_=>rfl) rfl kd qs (fx b) ?_)
  (exact cV (i+1) ω)
 refine σE ?_
 obtain rfl:i=f.V.length:=ω
 rw[CA]
 rfl
def ql(f:aW)(a:aW.sml f):zzA 408 false [.val (some 2) (aW.enc .R f)] .agg (aW.enc .own f):=by
 have g:=a.1.1;have d:f.a5.length<=1048576:=a.2;refine fO 27 [ρ 5 5 18] Tryz.func408 rfl ?_ (.inr (aW.enc_fr _))
 repeat'(first|refine gP ?_|refine CX (λ_=>rfl) (λ_=>rfl) d qs ?_)
 refine lp0 f.V.length (λi=>[(2,bF [.z,.z]),(3,bF [.s .own ((f.V.take i).map (aE .own)),.s .own (f.a5.map (rB .own))]),(12,bK (kg .R f.V)),(13,fI f.V.length),(14,fN i)]) λi h=>?_
 by_cases b:i<f.V.length
 ·have e:=ar b
  have c:(nth f.V i).length<=1048576:=a.1.2 _ (ax b)
  repeat'(first|refine gE ?_|apply CF (cM (nth f.V i) c)|refine Cc (aI λ_=>rfl) rfl kd qs (fx b) ?_)
  (exact cV (i+1) ω)
 refine σE ?_
 obtain rfl:i=f.V.length:=ω
 rw[CA]
 rfl
def uP(m:aN)(a:aN.sml m):zzA 225 false [.val (some 3) (aN.enc .R m)] .agg (aN.enc .own m):=by
 refine fO 10 [ςf] Tryz.func225 rfl ?_ (.inr (aN.enc_fr _))
 repeat'(first|refine gP ?_|apply CF (Hn m.W a.1)|apply CF (Ha m.O a.2))
 rfl
def kD(m:aN)(a:aN.sml m):zzA 366 false [.val (some 3) (aN.enc .R m)] .agg (aN.enc .own m):=by
 refine fO 10 [ςf] Tryz.func366 rfl ?_ (.inr (aN.enc_fr _))
 repeat'(first|refine gP ?_|apply CF (ql m.W a.1)|apply CF (Ae m.O a.2))
 rfl
def Hc(k:ah)(a:ah.sml k):zzA 115 false [.val (some 5) (ah.enc .R k)] .agg (ah.enc .own k):=by
 have b:k.d.length<=1048576:=a.2;refine fO 13 [ρ 1 9 3] Tryz.func115 rfl ?_ (.inr (Ck _))
 repeat'(first|refine gP ?_|apply CF (uP k.F a.1)|refine Ce (λ_=>rfl) (λ_=>rfl) b qs ?_)
 rfl
def gJ(k:ah)(a:ah.sml k):zzA 311 false [.val (some 5) (ah.enc .R k)] .agg (ah.enc .own k):=by
 refine fO 12 [ρ 1 8 3] Tryz.func311 rfl ?_ (.inr (Ck _))
 repeat'(first|refine gP ?_|apply CF (kD k.F a.1)|apply CF (cM k.d a.2))
 rfl
open Go.RowKit Go.Proofs.YtfdfgipemcbekaaGreatDoor.Sp
noncomputable section
def yO(s:ByteArray):Bool:=@decide (LineOk s) (Classical.propDecidable _)
def flds(s:ByteArray):List ByteArray:=if yO s=true then fields s else []
variable{s:ByteArray}
def KI(h:LineOk s):yO s=true:=@O0 _ (Classical.propDecidable _) h
def Ag(h:¬LineOk s):yO s=false:=@Z0 _ (Classical.propDecidable _) h
variable{k:Nat}
def Je(h:OkTo s k)(a:k<s.size)(h1:32<=byt s k)(h2:byt s k<=126):OkTo s (k+1):=by
 have:=(nR a _).1 (OC a);exact okTo_step h a ω ω
def N2(a:k<s.size)(h:byt s k<32\/126<byt s k):yO s=false:=by
 have:=(nR a _).1 (OC a);exact Ag (okTo_bad a ω)
def sp32(_:k<=s.size)(h:k<s.size->byt s k=32):s.size<=k\/s.data[k]? = some 32:=by
 rcases Nat.lt_or_ge k s.size with a|a
 ·exact .inr ((nR a 32).2 (h a))
 exact .inl a
def fl(s:ByteArray)(k:Nat):List ByteArray:=(Go.Proofs.YtfdfgipemcbekaaGreatDoor.Sp.sp s k).1.map (cut s)
def Xc(s:ByteArray)(k:Nat):(fl s k).length<=k:=by unfold fl;rw[Z1];exact(sp_le s k).2
def Rb(a:k<=s.size)(h:k<s.size->byt s k=32)(b:(Go.Proofs.YtfdfgipemcbekaaGreatDoor.Sp.sp s k).2<k):fl s (k+1)=fl s k++[s.extract (Go.Proofs.YtfdfgipemcbekaaGreatDoor.Sp.sp s k).2 k]/\(Go.Proofs.YtfdfgipemcbekaaGreatDoor.Sp.sp s (k+1)).2=k+1:=by
 unfold fl;rw[sp_cut (sp32 a h) b];simp[cut]
def NC(a:k<=s.size)(h:k<s.size->byt s k=32)(b:¬(Go.Proofs.YtfdfgipemcbekaaGreatDoor.Sp.sp s k).2<k):fl s (k+1)=fl s k/\(Go.Proofs.YtfdfgipemcbekaaGreatDoor.Sp.sp s (k+1)).2=k+1:=by
 unfold fl;rw[sp_none (sp32 a h) b];exact⟨rfl,rfl⟩
def V1(a:k<s.size)(h:byt s k≠32):fl s (k+1)=fl s k/\(Go.Proofs.YtfdfgipemcbekaaGreatDoor.Sp.sp s (k+1)).2=(Go.Proofs.YtfdfgipemcbekaaGreatDoor.Sp.sp s k).2:=by
 unfold fl;rw[sp_skip a λe=>h ((nR a 32).1 e)];exact⟨rfl,rfl⟩
def oM(s:ByteArray)(F:s.size<=1048576):zzA 24 false [.val none [tC s]] (.tup [none,none]) (BN .own (flds s)++[B (yO s)]):=by
 have b:fy (BN .own (flds s)++[B (yO s)]):=ay (NP _) ⟨tV1,tV1⟩;by_cases t:s.size<=600
 ·refine fO 62 [] Tryz.func24 rfl ?_ (.inr b)
  repeat'(first|refine σR ?_|refine CV rfl ?_)
  (conv=>whnf)
  refine gl (s.size+1) (λi=>[(0,bK [tC s]),(4,bK (BN .own (fl s i))),(5,fN ((Go.Proofs.YtfdfgipemcbekaaGreatDoor.Sp.sp s i).2)),(6,fN i)]) (λi=>OkTo s (min i s.size)) (λj c G=>ω) λi u=>?_
  obtain⟨u,k⟩:=u;have w:=sp_le s i;have y:=Xc s i;by_cases o:i<=s.size
  ·rw[Nat.min_eq_left o]at k
   by_cases li2:i<s.size
   ·have H:=LA s i
    by_cases C:byt s i<32\/126<byt s i
    ·have e:=N2 li2 C
     unfold flds at b |-;rw[e]at b |-
     repeat'(first|refine σR ?_|refine gS (λa=>?_) (λa=>?_)|refine CV rfl ?_|refine Cg i rfl li2 ?_)
     all_goals exact⟨rfl,rfl,tV1⟩
    have r:=Je k li2 ω ω;by_cases l:byt s i=32
    ·by_cases d:(Go.Proofs.YtfdfgipemcbekaaGreatDoor.Sp.sp s i).2<i
     ·obtain⟨g,q⟩:=Rb o (λ_=>l) d
      repeat'(first|refine σT ?_|refine gS (λa=>?_) (λa=>?_)|refine CV rfl ?_|refine Cg i rfl li2 ?_|refine Sx.mid (Go.Proofs.YtfdfgipemcbekaaGreatDoor.Sp.sp s i).2 i rfl rfl ω ω rfl ?_|refine Cc (rs:=(fl s i++[s.extract (Go.Proofs.YtfdfgipemcbekaaGreatDoor.Sp.sp s i).2 i]).map (L0 .own)) (aI λ_=>rfl) rfl kd qs (by simp[L0,tC]) ?_)
      (conv=>whnf)
      refine CP (i+1) ⟨ω,by rw[Nat.min_eq_left ω];exact r⟩ ω ?_;rw[g];exact wC
     obtain⟨g,q⟩:=NC o (λ_=>l) d
     repeat'(first|refine σT ?_|refine gS (λa=>?_) (λa=>?_)|refine CV rfl ?_|refine Cg i rfl li2 ?_)
     (conv=>whnf)
     refine CP (i+1) ⟨ω,by rw[Nat.min_eq_left ω];exact r⟩ ω ?_;rw[g];exact wC
    obtain⟨g,q⟩:=V1 li2 l
    repeat'(first|refine σT ?_|refine gS (λa=>?_) (λa=>?_)|refine CV rfl ?_|refine Cg i rfl li2 ?_)
    (conv=>whnf)
    refine CP (i+1) ⟨ω,by rw[Nat.min_eq_left ω];exact r⟩ ω ?_;rw[g];exact wC
   rw[show i=s.size by omega]at k;by_cases d:(Go.Proofs.YtfdfgipemcbekaaGreatDoor.Sp.sp s i).2<i
   ·obtain⟨g,q⟩:=Rb o (λh=>absurd h li2) d
    repeat'(first|refine σR ?_|refine gS (λa=>?_) (λa=>?_)|refine CV rfl ?_|refine Sx.mid (Go.Proofs.YtfdfgipemcbekaaGreatDoor.Sp.sp s i).2 i rfl rfl ω ω rfl ?_|refine Cc (rs:=(fl s i++[s.extract (Go.Proofs.YtfdfgipemcbekaaGreatDoor.Sp.sp s i).2 i]).map (L0 .own)) (aI λ_=>rfl) rfl kd qs (by simp[L0,tC]) ?_)
    (conv=>whnf)
    refine CP (i+1) ⟨ω,by rw[Nat.min_eq_right ω];exact k⟩ ω ?_;rw[g];exact wC
   obtain⟨g,q⟩:=NC o (λh=>absurd h li2) d
   repeat'(first|refine σR ?_|refine gS (λa=>?_) (λa=>?_)|refine CV rfl ?_)
   (conv=>whnf)
   refine CP (i+1) ⟨ω,by rw[Nat.min_eq_right ω];exact k⟩ ω ?_;rw[g];exact wC
  obtain rfl:i=s.size+1:=ω
  rw[Nat.min_eq_right ω]at k;have E:(fl s (s.size+1)).length=(spans s).length:=Z1 ..;by_cases p:(spans s).length<=24
  ·have e:yO s=true:=KI ⟨t,k,p⟩
   unfold flds at b |-;rw[e]at b |-
   repeat'(first|refine σR ?_|refine gS (λa=>?_) (λa=>?_)|refine CV rfl ?_)
   exact⟨rfl,rfl,tV1⟩
  have e:yO s=false:=Ag λh=>p h.2.2
  unfold flds at b |-;rw[e]at b |-
  repeat'(first|refine σR ?_|refine gS (λa=>?_) (λa=>?_)|refine CV rfl ?_)
  exact⟨rfl,rfl,tV1⟩
 have e:yO s=false:=Ag λh=>t h.1
 unfold flds at b |-;rw[e]at b |-;refine fO 62 [] Tryz.func24 rfl ?_ (.inr b)
 repeat'(first|refine σR ?_|refine CV rfl ?_)
 exact⟨rfl,rfl,tV1⟩
def o6(s:ByteArray)(Q:s.size<=1048576):zzA 72 false [.val none [tC s]] (.tup [none,none]) (BN .own (flds s)++[B (yO s)]):=by
 have b:fy (BN .own (flds s)++[B (yO s)]):=ay (NP _) ⟨tV1,tV1⟩;by_cases y:s.size<=600
 ·refine fO 62 [] Tryz.func72 rfl ?_ (.inr b)
  repeat'(first|refine σR ?_|refine CV rfl ?_)
  (conv=>whnf)
  refine gl s.size (λi=>[(0,bK [tC s]),(4,fN i)]) (λi=>OkTo s i) (λj c R=>ω) λi C=>?_
  obtain⟨C,F⟩:=C;by_cases r:i<s.size
  ·have S:=LA s i
   by_cases u:byt s i<32\/126<byt s i
   ·have e:=N2 r u
    unfold flds at b |-;rw[e]at b |-
    repeat'(first|refine σR ?_|refine gS (λa=>?_) (λa=>?_)|refine CV rfl ?_|refine Cg i rfl r ?_)
    all_goals exact⟨rfl,rfl,tV1⟩
   repeat'(first|refine σR ?_|refine gS (λa=>?_) (λa=>?_)|refine CV rfl ?_|refine Cg i rfl r ?_)
   ((conv=>whnf);exact cV (i+1) ⟨ω,Je F r ω ω⟩)
  obtain rfl:i=s.size:=ω
  repeat'(first|refine σR ?_|refine gS (λa=>?_) (λa=>?_)|refine CV rfl ?_)
  (conv=>whnf)
  refine lE (ι:=Nat × List (Nat × Nat)) (λp=>[(0,bK [tC s]),(5,bK (BN .own (p.2.map (cut s)))),(6,fN (p.1))]) (λp=>At s p.1 p.2) (λp=>s.size - p.1) ((0,[])) (⟨C1 _,.inl rfl⟩) λp l=>?_
  have J:=l.len;have K:=l.1;by_cases d:p.1<s.size
  ·by_cases g:byt s p.1=32
   ·repeat'(first|refine σT ?_|refine gS (λa=>?_) (λa=>?_)|refine CV rfl ?_|refine Cg p.1 rfl d ?_)
    ((conv=>whnf);exact cV (p.1+1,p.2) (l.blank d ((nR d 32).2 g)))
   have n:=l.fresh d (λe=>g ((nR d 32).1 e))
   repeat'(first|refine σT ?_|refine gS (λa=>?_) (λa=>?_)|refine CV rfl ?_|refine Cg p.1 rfl d ?_)
   (conv=>whnf)
   refine lE (λk:Nat=>[(0,bK [tC s]),(5,bK (BN .own (p.2.map (cut s)))),(6,fN k),(7,fN (p.1))]) (λk=>p.1<=k/\k<=s.size/\Go.Proofs.YtfdfgipemcbekaaGreatDoor.Sp.sp s k=(p.2,p.1)) (λk=>s.size - k) (p.1) (⟨O5 _,ω,n⟩) λk u=>?_
   obtain⟨L,G,H⟩:=u;by_cases t:k<s.size/\byt s k≠32
   ·obtain⟨lk1,lk2⟩:=t
    repeat'(first|refine σT ?_|refine gS (λa=>?_) (λa=>?_)|refine CV rfl ?_|refine Cg k rfl lk1 ?_)
    ((conv=>whnf);exact cV (k+1) ⟨ω,ω,by rw[sp_skip lk1 λe=>lk2 ((nR lk1 32).1 e)];exact H⟩)
   have w:p.1<k:=by
    rcases Nat.eq_or_lt_of_le L with e|e
    ·exact absurd ⟨e ▸ d,e ▸ g⟩ t
    exact e
   have o:At s k (p.2++[(p.1,k)]):=⟨G,.inr ⟨p.1,p.2,H,w,rfl,(Nat.eq_or_lt_of_le G).imp id λe=>(nR e 32).2 (Decidable.of_not_not λh=>t ⟨e,h⟩)⟩⟩
   by_cases lk1:k<s.size
   ·have lk2:byt s k=32:=Decidable.of_not_not λh=>t ⟨lk1,h⟩
    repeat'(first|refine σT ?_|refine gS (λa=>?_) (λa=>?_)|refine CV rfl ?_|refine Cg k rfl lk1 ?_|refine Sx.mid p.1 k rfl rfl ω ω rfl ?_|refine Cc (rs:=((p.2++[(p.1,k)]).map (cut s)).map (L0 .own)) (aI λ_=>rfl) rfl kd qs (by simp[L0,tC,cut]) ?_)
    ((conv=>whnf);exact cV (k,p.2++[(p.1,k)]) o)
   repeat'(first|refine σT ?_|refine gS (λa=>?_) (λa=>?_)|refine CV rfl ?_|refine Sx.mid p.1 k rfl rfl ω ω rfl ?_|refine Cc (rs:=((p.2++[(p.1,k)]).map (cut s)).map (L0 .own)) (aI λ_=>rfl) rfl kd qs (by simp[L0,tC,cut]) ?_)
   ((conv=>whnf);exact cV (k,p.2++[(p.1,k)]) o)
  have M:p.1=s.size:=ω
  rw[M]at l;have O:=l.done;rw[O];have P:((spans s).map (cut s)).length=(spans s).length:=Z1 ..;by_cases q:(spans s).length<=24
  ·have e:yO s=true:=KI ⟨y,F,q⟩
   unfold flds at b |-;rw[e]at b |-
   repeat'(first|refine σR ?_|refine gS (λa=>?_) (λa=>?_)|refine CV rfl ?_)
   exact⟨rfl,rfl,tV1⟩
  have e:yO s=false:=Ag λh=>q h.2.2
  unfold flds at b |-;rw[e]at b |-
  repeat'(first|refine σR ?_|refine gS (λa=>?_) (λa=>?_)|refine CV rfl ?_)
  exact⟨rfl,rfl,tV1⟩
 have e:yO s=false:=Ag λh=>y h.1
 unfold flds at b |-;rw[e]at b |-;refine fO 62 [] Tryz.func72 rfl ?_ (.inr b)
 repeat'(first|refine σR ?_|refine CV rfl ?_)
 exact⟨rfl,rfl,tV1⟩
end
def ovl(y r:aC):Bool:=decide (y.At<r.At+r.a6/\r.At<y.At+y.a6)
def oe(r:aC):List aC->Bool->Option (List aC)
 | [],put=>some (if put then [] else [r])
 | y::a,put=>if ovl y r then none else if !put&&decide (y.At > r.At) then(oe r a true).map λt=>r::y::t else(oe r a put).map λt=>y::t
def dA(out:List aC):List aC->List aC
 | []=>out
 | y::ys=>match out.getLast? with
  | some z=>if z.At+z.a6=y.At then dA (out.dropLast++[⟨z.At,z.a6+y.a6⟩]) ys else dA (out++[y]) ys
  | none=>dA (out++[y]) ys
def j7:List aC->aC->List aC->Bool->Option (List aC)
 | [],r,out,done=>some (if done then out else out++[r])
 | y::ys,r,out,done=>
  if ovl y r then none
  else if y.At+y.a6=r.At then j7 ys ⟨y.At,y.a6+r.a6⟩ out done
  else if r.At+r.a6=y.At then j7 ys ⟨r.At,r.a6+y.a6⟩ out done
  else if y.At > r.At/\done=false then j7 ys r (out++[r,y]) true
  else j7 ys r (out++[y]) done
def kv(xs:List aC):Prop:=xs.Pairwise (λa b=>a.At+a.a6<b.At)/\∀y∈xs,1<=y.a6
variable{y:aC}
theorem kv.tail{a:List aC}(h:kv (y::a)):kv a:=⟨(List.pairwise_cons.1 h.1).2,λz b=>h.2 z ψ⟩
theorem kv.head{a:List aC}(h:kv (y::a)):∀z∈a,y.At+y.a6<z.At:=(List.pairwise_cons.1 h.1).1
theorem kr:∀(a out:List aC),kv a->(∀z,out.getLast? = some z->∀y∈a,z.At+z.a6≠y.At)->dA out a=out++a
 | [],out,_,_=>by simp[dA]
 | y::a,out,d,e=>by
  have b:dA (out++[y]) a=out++y::a:=by
   rw[kr a (out++[y]) d.tail λz c w f=>by
     simp at c;subst c;have:=d.head w f;omega]
   simp
  unfold dA;split
  ·rename_i z c
   rw[CI (e z c y (C3 ..))];exact b
  exact b
theorem BX{r:aC} : ∀{a:List aC},kv a->(∀y∈a,r.At+r.a6<=y.At)->oe r a true=some a
 | [],_,_=>rfl
 | y::a,c,b=>by
  have e:=b y (C3 ..);unfold oe;rw[CI (by unfold ovl;rw[C0];omega)];simp only[Bool.not_true,Bool.false_and,Bool.false_eq_true,if_false];rw[BX c.tail λz d=>b z (OA _ d)]
  rfl
theorem xz{r:aC}(h1:1<=r.a6){a:List aC}(b:kv a)(c:∀y∈a,r.At+r.a6<=y.At):oe r a false=some (r::a):=by
 cases a with
 | nil=>rfl
 | cons y a=>
  grind[BX,kv.tail,oe,ovl]
def so{r:aC} : ∀{a out:List aC},kv a->1<=r.a6->(∀y∈a,r.At+r.a6<y.At)->j7 a r out true=some (out++a)
 | [],out,_,_,_=>by simp[j7]
 | y::a,out,b,d,c=>by
  have f:=c y (C3 ..);have g:=b.2 y (C3 ..);unfold j7;rw[CI (by unfold ovl;rw[C0];omega),CI ω,CI ω,CI ϕ,so b.tail d λz e=>c z (OA _ e)];simp
variable{out:List aC}
theorem zc{r:aC}(h1:1<=r.a6){a:List aC}(b:kv a)(c:∀y∈a,r.At+r.a6<=y.At):j7 a r out false=some (out++match a with|[]=>[r]|y::zs=>if r.At+r.a6=y.At then⟨r.At,r.a6+y.a6⟩::zs else r::y::zs):=by
 cases a with
 | nil=>simp[j7]
 | cons y a=>
  have g:=c y ψ;have h:=b.2 y ψ;unfold j7;rw[CI (by grind[ovl]),CI ω];by_cases e:r.At+r.a6=y.At
  ·rw[CJ e]
   simp only[e,if_true];cases a with
   | nil=>simp[j7]
   | cons z a=>
    have i:=b.head z ψ;have j:=b.tail.2 z ψ;unfold j7;simp only;rw[CI (by grind[ovl]),CI ω,CI ω,CJ kd,so b.tail.tail τ λw d=>by
      have:=b.tail.head w d;simp only;omega]
    simp
  rw[CI e,CJ kd,so b.tail h1 λz f=>by have:=b.head z f;omega];simp[e]
theorem EU{pages:Int} : ∀{a:List aC}{r:aC}{out:List aC},kv a->1<=r.a6->(∀z,out.getLast? = some z->(∀y∈a,z.At+z.a6<y.At)/\z.At+z.a6<r.At)->(oe r a false).map (dA out)=j7 a r out false
 | [],r,out,_,g,q=>by
  show some (dA out [r])=some (out++[r]);rw[kr [r] out ⟨List.pairwise_singleton ..,λy u=>by rw[I2.1 u];exact g⟩ ψ]
 | y::a,r,out,c,g,q=>by
  have F:=c.2 y ψ;by_cases l:ovl y r=true
  ·grind[oe,j7]
  ·have i:=l
   unfold ovl at i;rw[C0]at i;by_cases A:r.At+r.a6<=y.At
   ·-- all to the right
    have b:∀w∈y::a,r.At+r.a6<=w.At:=λw f=>by grind[kv.head]
    rw[xz g c b,zc g c b];show some (dA out (r::y::a))=_;have hfirst:dA out (r::y::a)=dA (out++[r]) (y::a):=by
     conv=>lhs;unfold dA
     grind
    rw[hfirst];by_cases e:r.At+r.a6=y.At
    ·have:dA (out++[r]) (y::a)=dA (out++[⟨r.At,r.a6+y.a6⟩]) a:=by
      conv=>lhs;unfold dA
      simp[e]
     grind[kr,kv.tail,kv.head]
    grind[kr,kv.head]
   have B:y.At+y.a6<=r.At:=ω
   have n:∀t,dA out (y::t)=dA (out++[y]) t:=λt=>by
    conv=>lhs;unfold dA
    grind[C3]
   have C:(oe r (y::a) false).map (dA out)=(oe r a false).map (dA (out++[y])):=by
    conv=>lhs;unfold oe
    rw[CI l,CI kd,Option.map_map]
    congr 1
    grind
   rw[C];unfold j7;rw[CI l];by_cases e:y.At+y.a6=r.At
   ·rw[CJ e]
    by_cases o:∃w,a.head? = some w/\ovl w r=true
    ·obtain⟨w,f,D⟩:=o
     cases a with
     | nil=>cases f
     | cons d h=>
      grind[ovl,oe,j7]
    have b:∀w∈a,r.At+r.a6<=w.At:=by
     cases a with
     | nil=>grind
     | cons d h=>
      have G:=c.head d ψ;have H:=c.tail.2 d ψ
      grind[kv.head,kv.tail,ovl]
    rw[xz g c.tail b,zc (r:=⟨y.At,y.a6+r.a6⟩) τ c.tail ψ];show some (dA (out++[y]) (r::a))=_;have E:dA (out++[y]) (r::a)=dA (out++[⟨y.At,y.a6+r.a6⟩]) a:=by
     conv=>lhs;unfold dA
     simp[e]
    rw[E];cases a with
    | nil=>simp[dA]
    | cons d h=>
     by_cases j:y.At+(y.a6+r.a6)=d.At
     ·have p:dA (out++[⟨y.At,y.a6+r.a6⟩]) (d::h)=dA (out++[⟨y.At,y.a6+r.a6+d.a6⟩]) h:=by
       conv=>lhs;unfold dA
       simp[j]
      rw[p,kr h _ c.tail.tail λz k w f=>by grind[kv.head,kv.tail]];simp[j]
     rw[kr (d::h) _ c.tail λz k w f=>by
       simp at k;subst k;simp only;rcases List.mem_cons.1 f with rfl|f
       · exact j
       have:=c.tail.head w f;have:=b d ψ;have:=c.tail.2 d ψ;omega]
     simp[j]
   rw[CI e,CI ω,CI ω];exact EU (pages:=pages) c.tail g λz k=>by grind[kv.head]
def fj(k:ah)(p:Int)(a:aM.sml k.F.O):zzA 292 false [.ptr (ah.enc .R k),.vI p] .one [I (au k.F.O p).y]:=by
 refine fO 13 [] Tryz.func292 rfl ?_
 repeat'(first|refine gP ?_|apply CF (cZ k.F.O p a))
 rfl
def nt(k:ah)(b:ah.sml k):zzA 51 false [.val (some 5) (ah.enc .R k)] .one [B (aG k&&decide (k.b<100000))]:=by
 have a:=kG k b;cases e:aG k<;>rw[e]at a
 ·refine fO 10 [] Tryz.func51 rfl ?_
  repeat'(first|refine gP ?_|refine gS (λc=>?_) (λc=>?_)|fail)
  all_goals rfl
 refine fO 10 [] Tryz.func51 rfl ?_
 refine σP ?_
 all_goals rfl
def iA(k:ah)(a:ah.sml k):zzA 391 false [.val (some 5) (ah.enc .R k)] .one [B (decide (k.b≠100000)&&aG k)]:=by
 have b:=kH k a;refine fO 10 [] Tryz.func391 rfl ?_
 repeat'(first|refine gP ?_|refine gS (λc=>?_) (λc=>?_)|fail)
 all_goals(exact bY ((by simp[*])))
variable{k:ah}
theorem w6{f:Int}(h:(pagesOn k.F.O f).length=0):ah.enc .own (iJ k f)=[.s .own ((k.F.W.V.map (aE .own)).set f.toNat (aE .own (List.replicate 16 0))),.s .own ((k.F.W.a5.map (rB .own)).set f.toNat (rB .own false)),.s .own (k.F.O.M.map (bv.enc .own)),I k.b,.s .own (k.d.map (rI .own))]:=by grind[CC,iJ,ah.enc]
theorem AQ{f:Int}(h:¬(pagesOn k.F.O f).length=0):ah.enc .own (iJ k f)=ah.enc .own k:=by grind[iJ]
def wh(k:ah)(f:Int)(a:aM.sml k.F.O)(b:0<=f/\f<k.F.W.V.length/\f<k.F.W.a5.length) :
  zzB 293 false [.ptr (ah.enc .own k),.vI f] [.ptr (ah.enc .own (iJ k f)),.vI f] (.tup []) []:=by
 have c:=ar (xs:=k.F.W.V) (i:=f.toNat) ω;have d:=ar (xs:=k.F.W.a5) (i:=f.toNat) ω;by_cases e:(pagesOn k.F.O f).length=0
 ·rw[w6 e]
  refine fM 30 [] [ςb] [(0,0),(0,0)] Tryz.func293 rfl (λu q=>?_) (.inr tV1)
  repeat'(first|refine gB ?_|with_reducible (first|refine CO b.1 (aa d) ?_|refine CO b.1 (aa c) ?_)|refine CL (iC k.F.O f a) ⟨⟨rfl,Cn k.F.O⟩,π⟩ ?_|refine CS rfl rfl (aa c) rfl δ rfl ?_|refine CS rfl rfl (aa d) rfl δ rfl ?_|refine Mk.mk 16 rfl rfl qs qs rfl ?_)
  exact ks
 rw[AQ e];refine fM 30 [] [ςb] [(0,0),(0,0)] Tryz.func293 rfl (λu q=>?_) (.inr tV1)
 repeat'(first|refine gB ?_|refine CL (iC k.F.O f a) ⟨⟨rfl,Cn k.F.O⟩,π⟩ ?_)
 exact ks
def vN(k:ah)(f:Int)(a:aM.sml k.F.O)(b:0<=f/\f<k.F.W.V.length/\f<k.F.W.a5.length) :
  zzB 415 false [.ptr (ah.enc .own k),.vI f] [.ptr (ah.enc .own (iJ k f)),.vI f] (.tup []) []:=by
 have c:=ar (xs:=k.F.W.V) (i:=f.toNat) ω;have d:=ar (xs:=k.F.W.a5) (i:=f.toNat) ω;by_cases e:(pagesOn k.F.O f).length=0
 ·rw[w6 e]
  refine fM 30 [] [ςb] [(0,0),(0,0)] Tryz.func415 rfl (λu q=>?_) (.inr tV1)
  repeat'(first|refine gB ?_|with_reducible (first|refine CO b.1 (aa d) ?_|refine CO b.1 (aa c) ?_)|refine CL (lP k.F.O f a) ⟨⟨rfl,Cn k.F.O⟩,π⟩ ?_|refine CS rfl rfl (aa c) rfl δ rfl ?_|refine CS rfl rfl (aa d) rfl δ rfl ?_|refine Mk.mk 16 rfl rfl qs qs rfl ?_)
  exact ks
 rw[AQ e];refine fM 30 [] [ςb] [(0,0),(0,0)] Tryz.func415 rfl (λu q=>?_) (.inr tV1)
 repeat'(first|refine gB ?_|refine CL (lP k.F.O f a) ⟨⟨rfl,Cn k.F.O⟩,π⟩ ?_)
 exact ks
theorem AL(k:ah)(p:Int):ah.enc .own (mQ k p)=[.s .own (k.F.W.V.map (aE .own)),.s .own (k.F.W.a5.map (rB .own)),.s .own ((k.F.O.M.map (bv.enc .own)).set p.toNat (bv.enc .own ⟨0,0⟩)),I k.b,.s .own (k.d.map (rI .own))]:=by grind[CC,mQ,ah.enc]
variable{p:Int}
theorem AD(h:aG k=true):aM.sml (mQ k p).F.O:=by
 obtain⟨a,b,c⟩:=bt.1 (aF.1 h).2.2.1;exact⟨by grind[mQ],λ_ _=>tV1⟩
theorem U8(k:ah)(p:Int)(b:aG k=true) :
  zzB 201 false [.ptr (ah.enc .own k),.vI p] [.ptr (ah.enc .own (cW k p)),.vI p] .one [B (decide ((au k.F.O p).y≠0))]:=by
 have j:=aX b;have c:=fj k p j.1.2;by_cases a:(au k.F.O p).y=0
 ·rw[show cW k p=k by unfold cW;rw[CJ a]]
  refine fM 32 [(293,[2,0])] [] [(0,0),(0,0)] Tryz.func201 rfl (λu q=>?_)
  repeat'(first|refine gB ?_|refine CL (c) ⟨CW k,π⟩ ?_)
  refine CM rfl ?_ ?_
  ·exact bY ((by simp[a]))
  exact wB
 obtain⟨l,r,n,d,o⟩:=bQ b a;have h:=(aT.1 (aF.1 b).2.1).2.2.1;rw[show cW k p=iJ (mQ k p) (au k.F.O p).j by unfold cW;rw[CI a]];have e:=wh (mQ k p) (au k.F.O p).j (AD b) ⟨d,by grind[mQ],by grind[mQ]⟩;rw[AL]at e;have g:=ar (xs:=k.F.O.M) (i:=p.toNat) ω;rw[n]at c e a |-;refine fM 32 [(293,[2,0])] [] [(0,0),(0,0)] Tryz.func201 rfl (λu q=>?_)
 repeat'(first|refine gB ?_|with_reducible refine CO l (aa g) ?_|refine CL (c) ⟨CW k,π⟩ ?_|refine CS rfl rfl (aa g) rfl δ rfl ?_)
 refine CM rfl ?_ ?_
 ·exact bY ((by simp[a]))
 exact wB
theorem re(k:ah)(p:Int)(a:aG k=true)(o:k.b≠100000) :
  zzA 374 false [.val (some 5) (ah.enc .R k),.vI p] (.tup [some 5,none]) (ah.enc .own (cW k p)++[B (decide ((au k.F.O p).y≠0))]):=by
 have d:=aX a;have l:=gJ k d;have e:=iA k d;have c:=fp k p d.1.2;rw[a,O0 o]at e;by_cases b:(au k.F.O p).y=0
 ·rw[show cW k p=k by unfold cW;rw[CJ b]]
  rw[Z0 (by simpa using b)]at c |-;refine fP 38 [(415,[2,0])] [] Tryz.func374 rfl ?_ (.inr (ay (Ck k) ⟨tV1,tV1⟩))
  refine σP ?_
  all_goals rfl
 obtain⟨q,u,r,g,t⟩:=bQ a b;have n:=(aT.1 (aF.1 a).2.1).2.2.1;rw[show cW k p=iJ (mQ k p) (au k.F.O p).j by unfold cW;rw[CI b]];have h:=vN (mQ k p) (au k.F.O p).j (AD a) ⟨g,by grind[mQ],by grind[mQ]⟩;rw[AL]at h;have j:=ar (xs:=k.F.O.M) (i:=p.toNat) ω;rw[O0 b]at c |-;rw[r]at h |-;refine fP 38 [(415,[2,0])] [] Tryz.func374 rfl ?_ (.inr (ay (Ck _) ⟨tV1,tV1⟩))
 repeat'(first|refine gP ?_|with_reducible refine CO q (aa j) ?_|refine CS rfl rfl (aa j) rfl δ rfl ?_)
 all_goals rfl
def eN(n:Nat):aW:=⟨List.replicate n (List.replicate 16 0),List.replicate n false⟩
def ew(n:Nat):aM:=⟨List.replicate n ⟨0,0⟩⟩
def bD(p f:Nat)(a:List Int):ah:=⟨⟨eN f,ew p⟩,0,a⟩
def f9:aD:=⟨List.replicate 4 []⟩
def eS(n:Nat):aL:=⟨List.replicate n [],List.replicate n []⟩
def rX(p f t:Nat)(lim:Int)(a:List Int):ac:=⟨bD p f a,[⟨0,p⟩],[],[],[],List.replicate t f9,eS t,⟨16,[]⟩,0,0,lim,1,false,⟨⟨0,0,[]⟩,0,0⟩⟩
variable{n j:Nat}{α:Type}
theorem fo[Inhabited α]{y:α}(a:j<n):nth (List.replicate n y) j=y:=bk ψ
theorem RS(n:Nat)(f:Int):pagesOn (ew n) f=[]:=by grind[List.filter_eq_nil_iff,fo,pagesOn,lw,ew,RO]
theorem vH{p f:Nat}(c:1<=p/\p<=32)(d:1<=f/\f<=32):aG (bD p f [])=true:=by
 rw[aF];refine⟨λj b=>by grind[bD],aT.2 ⟨by grind[bD,eN],by grind[bD,eN],by grind[bD,eN],λj b=>?_⟩,bt.2 ⟨λj b=>?_,by grind[bD,ew],by grind[bD,ew]⟩,λj b=>?_,by simp[bD],by simp[bD],by simp[bD]⟩
 ·have a:j<f:=by grind[bD,eN]
  rw[show nth (bD p f []).F.W.V j=List.replicate 16 0 from fo a,show nth (bD p f []).F.W.a5 j=false from fo a]
  decide
 all_goals grind[RS,bD,ew,nth,m7,eN]
theorem zW(w:World)(q:Nat)(os:Array Obj):bu NO w (Sort.grow (w.drewN q) os):=by
 have a:∀b,b<w.heap.size->(Sort.grow (w.drewN q) os).heap[b]? = w.heap[b]?:=λb a=>Sort.heap_grow_old (w.drewN q) os a
 refine⟨rfl,rfl,rfl,ψ,λb h _=>a b h,λb o h _=>?_,λb o h _=>?_⟩
 all_goals grind[Go.World.cell?,Go.World.frozen?,mp]
theorem QR(c:Nat)(W:World):Calls Tryz.prog 390 #[.slice none 0 c] W λe g=>∃B q os,e=.returned (.slice B 0 0)/\g=Sort.grow (W.drewN q) os:=by
 have q22:∀(w:World)(a:Option Addr)(n c b d:Nat),(binOp .eql 22 (.slice a n c) (.slice none b d)).run Tryz.prog w=.ok (.bool a.isNone) w:=λw a n c b d=>Lib.run_eql_slice_nil w _ _ a n c b d Tryz.underlying22
 go_enter Tryz.func390,Tryz.ntmps390
 go_wp2
 go_ret
 exact⟨none,0,#[],rfl,by simp[Sort.grow,World.drewN]⟩
theorem MN(a:Addr)(c:Nat)(W:World):Calls Tryz.prog 390 #[.slice (some a) 0 c] W λe g=>∃B q os,e=.returned (.slice B 0 0)/\g=Sort.grow (W.drewN q) os:=by
 have q22:∀(w:World)(a:Option Addr)(n c b d:Nat),(binOp .eql 22 (.slice a n c) (.slice none b d)).run Tryz.prog w=.ok (.bool a.isNone) w:=λw a n c b d=>Lib.run_eql_slice_nil w _ _ a n c b d Tryz.underlying22
 go_enter Tryz.func390,Tryz.ntmps390
 go_wp2
 go_ret
 exact⟨some ⟨W.heap.size,0,none⟩,0,#[.cells #[] 3],rfl,by rw[Sort.alloc_eq_grow];rfl⟩
theorem MY(xs:List Int)(o:xs.length<=1048576):zzA 390 false [.val none (aE .R xs)] .one (aE .own xs):=by
 by_cases c:xs=[]
 ·subst c
  refine⟨⟨_,Tryz.func390,by kernel_rfl,by kernel_rfl⟩,λw S p t d=>?_⟩
  match p,d with
  | [v],⟨d,_⟩=>
   have b:=bm.rep1 (show bm w S NO none [C.s .R []] v from d);obtain⟨l,g,rfl⟩:=b.slice;have r:Calls Tryz.prog 390 #[.slice l 0 g] w λe n=>∃B q i,e=.returned (.slice B 0 0)/\n=Sort.grow (w.drewN q) i:=by
    cases l with
    | none=>grind[QR]
    | some a=>grind[MN]
   refine r.mono λe n ⟨B,q,i,c,j⟩=>?_
   subst j;exact⟨.slice B 0 0,c,zW w q i,NO,NO,λ_ _ h=>h.elim,λ_ _ h=>h.elim,λ_ _ h=>h.elim,rfl,row1 (.nil _ .own B tV1)⟩
 have k:xs.map (rI .R)≠[]:=by simp_all
 refine fO 8 [] Tryz.func390 rfl ?_ (.inr (bH _))
 repeat'(first|refine gP ?_|refine Nn.mk k ?_|refine CX (λ_=>rfl) (λ_=>rfl) o qs ?_)
 rfl
def sZ(p:cj)(a:cj.sml p):zzA 351 false [.val (some 3) (cj.enc .R p)] .agg (cj.enc .own p):=by
 have b:p.V.length<=1048576:=a;refine fO 8 [] Tryz.func351 rfl ?_ (.inr (cj.enc_fr _))
 repeat'(first|refine gP ?_|apply CF (MY p.V b))
 rfl
def uM(j:cH)(a:cH.sml j):zzA 316 false [.val (some 5) (cH.enc .R j)] .agg (cH.enc .own j):=by
 refine fO 8 [] Tryz.func316 rfl ?_ (.inr (cH.enc_fr _))
 repeat'(first|refine gP ?_|apply CF (sZ j.g a))
 rfl
def jC(c:aD)(d:aD.sml c):zzA 116 false [.val (some 1) (aD.enc .R c)] .agg (aD.enc .own c):=by
 have g:=d.1;refine fO 26 [ρ 5 10 13] Tryz.func116 rfl ?_ (.inr (Cr _))
 refine σP ?_
 refine lp0 c.X.length (λi=>[(1,bF (aD.enc .R c)),(2,bF [.z]),(3,bF [.s .own ((c.X.take i).map (aE .own))]),(4,fN i)]) λi h=>?_
 by_cases a:i<c.X.length
 ·have e:=ar a
  have b:(nth c.X i).length<=1048576:=d.2 _ (ax a)
  repeat'(first|refine gE ?_|refine Ce (λ_=>rfl) (λ_=>rfl) b qs ?_|refine Cc (aI λ_=>rfl) rfl kd qs (fx a) ?_)
  (exact cV (i+1) ω)
 refine σE ?_
 obtain rfl:i=c.X.length:=ω
 rw[CA]
 rfl
def jX(c:aD)(d:aD.sml c):zzA 313 false [.val (some 1) (aD.enc .R c)] .agg (aD.enc .own c):=by
 have g:=d.1;refine fO 23 [ρ 5 5 14] Tryz.func313 rfl ?_ (.inr (Cr _))
 refine σP ?_
 refine lp0 c.X.length (λi=>[(2,bF [.z]),(3,bF [.s .own ((c.X.take i).map (aE .own))]),(8,bK (kg .R c.X)),(9,fI c.X.length),(10,fN i)]) λi h=>?_
 by_cases a:i<c.X.length
 ·have e:=ar a
  have b:(nth c.X i).length<=1048576:=d.2 _ (ax a)
  repeat'(first|refine gE ?_|apply CF (cM (nth c.X i) b)|refine Cc (aI λ_=>rfl) rfl kd qs (fx a) ?_)
  (exact cV (i+1) ω)
 refine σE ?_
 obtain rfl:i=c.X.length:=ω
 rw[CA]
 rfl
def gy(m:aL)(b:aL.sml m):zzA 117 false [.val (some 2) (aL.enc .R m)] .agg (aL.enc .own m):=by
 have h:=b.1.1;have g:=b.2.1;refine fO 46 [ρ 5 10 14,ρ 9 10 33] Tryz.func117 rfl ?_ (.inr (Cs _))
 refine σP ?_
 refine lp0 m.T.length (λi=>[(1,bF (aL.enc .R m)),(2,bF [.z,.z]),(3,bF [.s .own ((m.T.take i).map (bL .own)),.z]),(4,fN i)]) λi j=>?_
 by_cases c:i<m.T.length
 ·have d:=ar c
  have a:(nth m.T i).length<=1048576:=(b.1.2 _ (ax c)).1
  repeat'(first|refine gE ?_|refine Ce (λ_=>rfl) (λ_=>rfl) a qs ?_|refine Cc (aI λ_=>rfl) rfl kd qs (fx c) ?_)
  (exact cV (i+1) ω)
 obtain rfl:i=m.T.length:=ω
 rw[CA]
 refine σE ?_
 refine lp0 m.w.length (λk=>[(1,bF (aL.enc .R m)),(2,bF [.z,.z]),(3,bF [.s .own (m.T.map (bL .own)),.s .own ((m.w.take k).map (aE .own))]),(5,fN k)]) λk l=>?_
 by_cases e:k<m.w.length
 ·have d:=ar e
  have a:(nth m.w k).length<=1048576:=b.2.2 _ (ax e)
  repeat'(first|refine gE ?_|refine Ce (λ_=>rfl) (λ_=>rfl) a qs ?_|refine Cc (aI λ_=>rfl) rfl kd qs (fx e) ?_)
  (exact cV (k+1) ω)
 refine σE ?_
 obtain rfl:k=m.w.length:=ω
 rw[CA]
 rfl
def iR(m:aL)(b:aL.sml m):zzA 314 false [.val (some 2) (aL.enc .R m)] .agg (aL.enc .own m):=by
 have h:=b.1.1;have g:=b.2.1;refine fO 41 [ρ 5 6 16,ρ 10 5 32] Tryz.func314 rfl ?_ (.inr (Cs _))
 refine σP ?_
 refine lp0 m.T.length (λi=>[(1,bF (aL.enc .R m)),(2,bF [.z,.z]),(3,bF [.s .own ((m.T.take i).map (bL .own)),.z]),(10,bK (Aw .R m.T)),(11,fI m.T.length),(12,fN i)]) λi j=>?_
 by_cases c:i<m.T.length
 ·have d:=ar c
  have a:(nth m.T i).length<=1048576:=(b.1.2 _ (ax c)).1
  repeat'(first|refine gE ?_|refine Ce (λ_=>rfl) (λ_=>rfl) a qs ?_|refine Cc (aI λ_=>rfl) rfl kd qs (fx c) ?_)
  (exact cV (i+1) ω)
 obtain rfl:i=m.T.length:=ω
 rw[CA]
 refine σE ?_
 refine lp0 m.w.length (λk=>[(2,bF [.z,.z]),(3,bF [.s .own (m.T.map (bL .own)),.s .own ((m.w.take k).map (aE .own))]),(26,bK (kg .R m.w)),(27,fI m.w.length),(28,fN k)]) λk l=>?_
 by_cases e:k<m.w.length
 ·have d:=ar e
  have a:(nth m.w k).length<=1048576:=b.2.2 _ (ax e)
  repeat'(first|refine gE ?_|apply CF (cM (nth m.w k) a)|refine Cc (aI λ_=>rfl) rfl kd qs (fx e) ?_)
  (exact cV (k+1) ω)
 refine σE ?_
 obtain rfl:k=m.w.length:=ω
 rw[CA]
 rfl
def vL(q:bz)(b:bz.sml q):zzA 118 false [.val (some 2) (bz.enc .R q)] .agg (bz.enc .own q):=by
 have a:q.a0.length<=1048576:=b.1;refine fO 10 [ρ 1 6 3] Tryz.func118 rfl ?_ (.inr (bz.enc_fr _))
 repeat'(first|refine gP ?_|refine Ce (λ_=>rfl) (λ_=>rfl) a qs ?_|refine CX (λ_=>rfl) (λ_=>rfl) a qs ?_)
 rfl
def nC(q:bz)(b:bz.sml q):zzA 315 false [.val (some 2) (bz.enc .R q)] .agg (bz.enc .own q):=by
 have a:q.a0.length<=1048576:=b.1;refine fO 10 [ρ 1 6 3] Tryz.func315 rfl ?_ (.inr (bz.enc_fr _))
 repeat'(first|refine gP ?_|refine Ce (λ_=>rfl) (λ_=>rfl) a qs ?_|refine CX (λ_=>rfl) (λ_=>rfl) a qs ?_)
 rfl
def vE(j:cH)(a:cH.sml j):zzA 119 false [.val (some 5) (cH.enc .R j)] .agg (cH.enc .own j):=by
 have b:j.g.V.length<=1048576:=a;refine fO 11 [] Tryz.func119 rfl ?_ (.inr (cH.enc_fr _))
 repeat'(first|refine gP ?_|refine CX (λ_=>rfl) (λ_=>rfl) b qs ?_)
 rfl
def lD(xs:List aC)(a:gC xs):zzA 312 false [.val none (bw .R xs)] .one (bw .own xs):=by
 have b:=a.1;refine fO 6 [] Tryz.func312 rfl ?_ (.inr (jp _))
 repeat'(first|refine gP ?_|refine CX (λ_=>rfl) (λ_=>rfl) b qs ?_)
 rfl
def XF(h:ac)(a:C):List C:=[.s .own (h.G.F.W.V.map (aE .own)),.s .own (h.G.F.W.a5.map (rB .own)),.s .own (h.G.F.O.M.map (bv.enc .own)),I h.G.b,.s .own (h.G.d.map (rI .own)),.s .own (h.e.map (aC.enc .own)),.s .own (h.H.map (a8.enc .own)),.s .own (h.J.map (aB.enc .own)),.s .own (h.K.map (bc.enc .own)),a,.s .R (h.q.T.map (bL .R)),.s .R (h.q.w.map (aE .R)),I h.a4.c0,.s .R (h.a4.a0.map (aO.enc .R)),I h.c1,I h.b2,I h.c2,I h.o,B h.a3,I h.a9.g.b1,I h.a9.g.b3,.s .R (h.a9.g.V.map (rI .R)),I h.a9.b6,I h.a9.o]
def mj:List C:=[.z,.z,.z,I 0,.z,.z,.z,.z,.z,.z,.z,.z,I 0,.z,I 0,I 0,I 0,I 0,B false,I 0,I 0,.z,I 0,I 0]
def HC(h:ac)(c:ac.sml h):zzA 55 false [ν h] .agg (ac.enc .own h):=by
 obtain⟨d,e,g,j,k,b,l,n,o⟩:=c;have p:=e.1;have q:=g.1;have r:=j.1;have t:=k.1;have w:=b.1;refine fO 61 [] Tryz.func55 rfl ?_ (.inr (ac.enc_fr _))
 repeat'(first|refine gP ?_|apply CF (Hc h.G d)|refine CX (λ_=>rfl) (λ_=>rfl) p qs ?_|refine CX (λ_=>rfl) (λ_=>rfl) q qs ?_|refine CX (λ_=>rfl) (λ_=>rfl) r qs ?_|refine CX (λ_=>rfl) (λ_=>rfl) t qs ?_)
 refine lp0 h.Q.length (λi=>[(1,bF (XF h (.s .R (h.Q.map (aD.enc .R))))),(2,.Y .box mj),(3,bK ([.s .own ((h.Q.take i).map (aD.enc .own))])),(4,fN i)]) λi y=>?_
 by_cases a:i<h.Q.length
 ·have u:=ar a
  repeat'(first|refine gE ?_|apply CF (jC (nth h.Q i) (b.2 _ (ax a)))|refine Cc (aI λ_=>rfl) rfl kd qs (fx a) ?_)
  (exact cV (i+1) ω)
 obtain rfl:i=h.Q.length:=ω
 rw[CA]
 repeat'(first|refine gE ?_|apply CF (gy h.q l)|apply CF (vL h.a4 n)|apply CF (vE h.a9 o))
 rfl
def iT(h:ac)(c:ac.sml h):zzA 239 false [ν h] .agg (ac.enc .own h):=by
 obtain⟨d,e,g,j,k,b,l,n,o⟩:=c;have p:=g.1;have q:=j.1;have r:=k.1;have u:=b.1;refine fO 59 [ρ 11 5 38] Tryz.func239 rfl ?_ (.inr (ac.enc_fr _))
 repeat'(first|refine gP ?_|apply CF (gJ h.G d)|apply CF (lD h.e e)|refine CX (λ_=>rfl) (λ_=>rfl) p qs ?_|refine CX (λ_=>rfl) (λ_=>rfl) q qs ?_|refine CX (λ_=>rfl) (λ_=>rfl) r qs ?_)
 refine lp0 h.Q.length (λi=>[(1,bF (ac.enc .R h)),(2,.Y .box mj),(3,bF (XF h (.s .own ((h.Q.take i).map (aD.enc .own))))),(32,bK (q9 .R h.Q)),(33,fI h.Q.length),(34,fN i)]) λi w=>?_
 by_cases a:i<h.Q.length
 ·have t:=ar a
  repeat'(first|refine gE ?_|apply CF (jX (nth h.Q i) (b.2 _ (ax a)))|refine Cc (aI λ_=>rfl) rfl kd qs (fx a) ?_)
  (exact cV (i+1) ω)
 obtain rfl:i=h.Q.length:=ω
 rw[CA]
 repeat'(first|refine gE ?_|apply CF (iR h.q l)|apply CF (nC h.a4 n)|apply CF (uM h.a9 o))
 rfl
variable{K:List (List C)->Prop}{sz by_:Nat}{rows rs:List (List C)}
theorem Ap.sm{r:List C}(h1:∀r∈rows,r.length=sz)(h2:r.length=sz)(d:rows.length+1<=1073741824)(a:by_<=1000)(b:rs=rows++[r])(c:K rs):Ap false rows [r] sz by_ K:=
 Cb h1 ψ ψ kd (S9 (Nat.mul_le_mul ω a) qs) b c
def Cf:type_of% @Ap.sm:=@Ap.sm
theorem Ap.s2{a b:List C}(h1:∀r∈rows,r.length=sz)(h2:a.length=sz)(f:b.length=sz)(g:rows.length+2<=1073741824)(c:by_<=1000)(d:rs=rows++[a,b])(e:K rs):Ap false rows [a,b] sz by_ K:=
 Cb h1 ψ ψ kd (S9 (Nat.mul_le_mul ω c) qs) d e
def wO(y:aC)(a:List aC)(r:aC)(out:List aC)(done:Bool):j7 (y::a) r out done=if ovl y r then none
  else if y.At+y.a6=r.At then j7 a ⟨y.At,y.a6+r.a6⟩ out done
  else if r.At+r.a6=y.At then j7 a ⟨r.At,r.a6+y.a6⟩ out done
  else if y.At > r.At/\done=false then j7 a r (out++[r,y]) true
  else j7 a r (out++[y]) done:=by rw[j7]
variable{xs:List aC}{pages:Int}
theorem vM(h:bJ pages xs=true):kv xs/\∀y∈xs,0<=y.At/\1<=y.a6/\y.At+y.a6<=pages:=by
 unfold bJ at h;simp only[I0,C0]at h;have d:∀i,i<xs.length->1<=(nth xs i).a6/\0<=(nth xs i).At/\(nth xs i).At<=pages - (nth xs i).a6:=λi a=>by grind[fE,gW,rangeIn]
 have e:∀i,i+1<xs.length->(nth xs i).At+(nth xs i).a6<(nth xs (i+1)).At:=λi a=>by grind[fE,gW]
 have f:∀j i,i<j->j<xs.length->(nth xs i).At+(nth xs i).a6<(nth xs j).At:=λj=>by
  induction j with
  | zero=>intro i a;omega
  | succ j k=>
   grind
 refine⟨⟨?_,λy g=>?_⟩,λy g=>?_⟩
 ·rw[List.pairwise_iff_getElem]
  intro i j a c b;have:=f j i b c
  rwa [bk (Z3 a),bk (Z3 c)]at this
 all_goals grind[b9]
variable{i:Nat}
theorem gn[Inhabited α]{xs:List α}(a:i<xs.length):xs.drop i=nth xs i::xs.drop (i+1):=by
 rw[List.drop_eq_getElem_cons a,bk (Z3 a)]
def cm(pages:Int)(xs:List aC)(r:aC):Option (List aC):=if bJ pages xs=true/\rangeIn pages r=true then j7 xs r [] false else none
def GD(xs:List aC)(o:Option (List aC)):List C:=bw .own (o.getD xs)++[B o.isSome]
def mh(xs:List aC)(o:Option (List aC)):fy (GD xs o):=ay (jp _) ⟨tV1,tV1⟩
theorem DG(pages:Int)(xs:List aC)(r:aC)(w:0<=pages/\pages<=1048576)(l:gC xs):zzA 381 false [.vI pages,.val none (bw .R xs),.val (some 2) (aC.enc .R r)] (.tup [none,none]) (GD xs (cm pages xs r)):=by
 have J:=l.1;have j:=nE pages xs w l;have n:=zY pages r w;have o:=lD xs l;cases k:bJ pages xs<;>rw[k]at j
 ·rw[show cm pages xs r=none by unfold cm;rw[CI (by rw[k];simp)]]
  refine fO 111 [] Tryz.func381 rfl ?_ (.inr (mh _ _))
  refine σP ?_
  rfl
 cases p:rangeIn pages r<;>rw[p]at n
 ·rw[show cm pages xs r=none by unfold cm;rw[CI (by rw[p];simp)]]
  refine fO 111 [] Tryz.func381 rfl ?_ (.inr (mh _ _))
  refine σP ?_
  rfl
 rw[show cm pages xs r=j7 xs r [] false by unfold cm;rw[CJ ⟨k,p⟩]];obtain⟨K,E⟩:=vM k;have F:0<=r.At/\1<=r.a6/\r.At+r.a6<=pages:=by grind[rangeIn]
 refine fO 111 [] Tryz.func381 rfl ?_ (.inr (mh _ _))
 refine σP ?_
 refine lE (ι:=Nat × aC × List aC × Bool) (λq=>[(1,bK (bw .R xs)),(5,bF (aC.enc .R q.2.1)),(8,bK (bw .own q.2.2.1)),(9,fB (q.2.2.2)),(25,bK (bw .R xs)),(26,fI xs.length),(27,fN (q.1))]) (λq=>q.1<=xs.length/\j7 (xs.drop q.1) q.2.1 q.2.2.1 q.2.2.2=j7 xs r [] false/\(0<=q.2.1.At/\1<=q.2.1.a6/\q.2.1.At+q.2.1.a6<=pages)/\q.2.2.1.length<=2*q.1) (λq=>xs.length - q.1) ((0,r,[],false)) (⟨C1 _,rfl,F,C1 _⟩) λq c=>?_
 obtain⟨i,d,out,done⟩:=q;obtain⟨G,b,e,t⟩:=c;simp only at G b e t |-;by_cases u:i<xs.length
 ·have g:=ar u
  have L:=E _ (ax u);rw[gn u]at b;by_cases h:ovl (nth xs i) d=true
  ·rw[<-b]
   rw[wO,CJ h];unfold ovl at h;rw[C0]at h
   repeat'(first|refine gE ?_|refine gS (λc=>?_) (λc=>?_)|fail)
   rfl
  have a:=b;rw[wO,CI h]at a;unfold ovl at h;rw[C0]at h;by_cases y:(nth xs i).At+(nth xs i).a6=d.At
  ·rw[CJ y]at a
   repeat'(first|refine gB ?_|refine gS (λc=>?_) (λc=>?_)|fail)
   (exact cV (i+1,⟨(nth xs i).At,(nth xs i).a6+d.a6⟩,out,done) ⟨τ,a,τ,τ⟩)
  rw[CI y]at a;by_cases D:d.At+d.a6=(nth xs i).At
  ·rw[CJ D]at a
   repeat'(first|refine gB ?_|refine gS (λc=>?_) (λc=>?_)|fail)
   (exact cV (i+1,⟨d.At,d.a6+(nth xs i).a6⟩,out,done) ⟨τ,a,τ,τ⟩)
  rw[CI D]at a;by_cases H:(nth xs i).At > d.At
  ·cases done with
   | false=>
    rw[CJ ⟨H,rfl⟩]at a
    repeat'(first|refine gB ?_|refine gS (λc=>?_) (λc=>?_)|refine Ap.s2 (aI λ_=>rfl) rfl rfl kd qs rfl ?_)
    ((conv=>whnf)
     refine CP (i+1,d,out++[d,nth xs i],true) ⟨τ,a,e,kd⟩ τ ?_
     (exact wR))
   | true=>
    rw[CI ϕ]at a
    repeat'(first|refine gB ?_|refine gS (λc=>?_) (λc=>?_)|refine Cf (aI λ_=>rfl) rfl kd qs rfl ?_)
    ((conv=>whnf)
     refine CP (i+1,d,out++[nth xs i],true) ⟨τ,a,e,kd⟩ τ ?_
     (exact wR))
  rw[CI ω]at a
  repeat'(first|refine gB ?_|refine gS (λc=>?_) (λc=>?_)|refine Cf (aI λ_=>rfl) rfl kd qs rfl ?_)
  ((conv=>whnf)
   refine CP (i+1,d,out++[nth xs i],done) ⟨τ,a,e,kd⟩ τ ?_
   (exact wR))
 obtain rfl:i=xs.length:=ω
 rw[List.drop_length]at b;cases done with
 | false=>
  rw[<-b]
  repeat'(first|refine gE ?_|refine Cf (aI λ_=>rfl) rfl kd qs rfl ?_)
  show [C.s ek.own _,B true]=[C.s ek.own _,B true]
  grind[j7,aC.enc]
 | true=>
  rw[<-b]
  refine σE ?_
  rfl
theorem yX[Inhabited α](R:Int->Int->Prop)(n:∀a b c,R a b->R b c->R a c)(f:α->Int)(xs:List α):(∀i,i<xs.length->i=0\/R (f (nth xs (i - 1))) (f (nth xs i)))↔xs.Pairwise (λa b=>R (f a) (f b)):=by
 constructor
 ·intro h
  have l:∀j i,i<j->j<xs.length->R (f (nth xs i)) (f (nth xs j)):=λj=>by
   induction j with
   | zero=>intro i d;omega
   | succ j o=>
    grind
  rw[List.pairwise_iff_getElem];intro i j d k g;have:=l j i g k
  rwa [bk (Z3 d),bk (Z3 k)]at this
 intro h i d;by_cases e:i=0
 ·exact .inl e
 right
 have:=List.pairwise_iff_getElem.1 h (i - 1) i ω d ω
 rwa [<-bk (Z3 (show i - 1<xs.length by omega)),<-bk (Z3 d)]at this
theorem Fb[Inhabited α](f:α->Int)(xs:List α):(∀i,i<xs.length->∀o∈xs.take i,f o≠f (nth xs i))↔(xs.map f).Nodup:=by
 unfold List.Nodup;rw[List.pairwise_map,List.pairwise_iff_getElem];constructor
 ·intro h i j b a c
  have:=h j a xs[i] (List.mem_take_iff_getElem.2 ψ)
  rwa [bk (Z3 a)]at this
 intro h i b o d;obtain⟨j,a,rfl⟩:=List.mem_take_iff_getElem.1 d;rw[bk (Z3 b)]
 grind
def gk(s:a8)(a:Int):Prop:=16*s.S<=a/\a<=16*s.S+15/\(a - 16*s.S) % csz s.a=0/\bg s.b0 ((a - 16*s.S) / csz s.a)=true
def jZ(sp:List a8)(a c:Int):Prop:=∃s∈sp,gk s a/\(c<0\/s.a=c)
def YR(la:List aB)(a z:Int):Prop:=∃l∈la,a=16*l.S/\l.k=z
def Ro(sp:List a8)(la:List aB)(o:bc):Prop:=(∃s∈sp,gk s o.U/\s.a=aP o.k)\/YR la o.U o.k
def oz(sp:List a8)(la:List aB)(a:Int):Prop:=jZ sp a (-1)\/∃l∈la,a=16*l.S
variable{la:List aB}{sp:List a8}
theorem oG(f:pm sp la)(a:Int):(∃i,i<sp.length/\(16*(nth sp i).S<=a/\a<=16*(nth sp i).S+15)/\denotes sp la a=pz i (nth sp i) a)\/((∀s∈sp,¬(16*s.S<=a/\a<=16*s.S+15))/\((∃i,i<la.length/\bR (nth la i) a=true/\denotes sp la a = ⟨3,i,0,a - 16*(nth la i).S⟩)\/((∀l∈la,bR l a=false)/\denotes sp la a = ⟨0,0,0,0⟩))):=by
 cases d:sp.findIdx? (dm · a) with
 | some i=>
  obtain⟨b,c,-⟩:=SD.1 d;rw[<-bk (Z3 b)]at c
  grind[iq,pm.sok,ax,denotes]
 | none=>
  have g:=List.findIdx?_eq_none_iff.1 d;refine .inr ⟨λs h j=>?_,?_⟩
  ·grind[iq,pm.sok]
  cases e:la.findIdx? (bR · a) with
  | some i=>
   obtain⟨b,c,-⟩:=SD.1 e;rw[<-bk (Z3 b)]at c
   grind[denotes]
  | none=>grind[denotes]
variable{a:Int}{h:ac}
theorem RN(l:pm h.H h.J){c:Int} : dK h a c=true↔jZ h.H a c:=by
 unfold dK;simp only[I0,IC,C0];constructor
 ·rintro⟨⟨b,f⟩,d⟩
  rcases oG l a with⟨i,j,k,g⟩|⟨-,⟨i,j,-,g⟩|⟨-,g⟩⟩
  ·rw[g]at b f d
   simp only[pz]at b f d;refine⟨_,ax j,⟨k.1,k.2,f,?_⟩,by simpa using d⟩;cases e:bg (nth h.H i).b0 ((a - 16*(nth h.H i).S) / csz (nth h.H i).a) with
   | true=>rfl
   | false=>rw[e]at b;simp at b
  all_goals grind
 rintro⟨s,n,⟨o,p,q,r⟩,d⟩
 grind[b9,iS,pz]
theorem BS(a:pm sp la){l:aB}(c:l∈la):(∀s∈sp,¬(16*s.S<=16*l.S/\16*l.S<=16*s.S+15))/\bR l (16*l.S)=true/\∀i,i<la.length->bR (nth la i) (16*l.S)=true->nth la i=l:=by
 have k:=aV (a.lok _ c);have f:=cL (a.lok _ c);refine⟨λs g n=>?_,?_,λi d e=>?_⟩
 ·exact a.dis s g l c 0 ω ω
 ·grind[pm.lok,bR]
 obtain⟨j,h,rfl⟩:=b9 c;have o:=aV (a.lok _ (ax d));have b:=a.lok _ (ax d);unfold bZ at b;rw[C0]at b;unfold bR at e;rw[I0,C0]at e;rw[a.one i j d h ((nth la j).S - (nth la i).S).toNat 0 ω ω ω]
theorem Rn(f:pm h.H h.J){o:bc} : jF h o=true↔Ro h.H h.J o:=by
 unfold jF;simp only[I0,IC,C0];constructor
 ·rintro⟨b,a⟩
  rcases oG f o.U with⟨i,d,g,c⟩|⟨-,⟨i,d,-,c⟩|⟨-,c⟩⟩
  ·rw[c]at a b
   simp only[pz]at a b;have e:bg (nth h.H i).b0 ((o.U - 16*(nth h.H i).S) / csz (nth h.H i).a)=true:=ψ
   rw[e]at a;exact .inl ⟨_,ax d,⟨g.1,g.2,b,e⟩,by simpa using a⟩
  ·rw[c]at a b
   simp only at a b;exact .inr ⟨_,ax d,ω,by simpa using a⟩
  grind
 rintro(⟨s,e,⟨k,n,p,q⟩,r⟩|⟨l,j,t,u⟩)
 ·grind[b9,iS,pz]
 obtain⟨w,y,A⟩:=BS f j
 grind[oG,ax]
theorem KN(j:pm sp la)(a:Int):a∈lK sp la↔oz sp la a:=by
 constructor
 ·intro h
  unfold lK nk at h;obtain⟨n,o,rfl⟩:=O8.1 h;have c:=(S8.1 o).2;unfold lz at c;simp only[I0,IC,C0]at c;obtain⟨b,d⟩:=c;rcases oG j (n:Int) with⟨i,g,k,f⟩|⟨-,⟨i,g,-,f⟩|⟨-,f⟩⟩
  ·rw[f]at d b
   simp only[pz]at d b;refine .inl ⟨_,ax g,⟨k.1,k.2,b,?_⟩,.inl ω⟩;cases e:bg (nth sp i).b0 (((n:Int) - 16*(nth sp i).S) / csz (nth sp i).a) with
   | true=>rfl
   | false=>rw[e]at d;simp at d
  ·rw[f]at b
   simp only at b;exact .inr ⟨_,ax g,ω⟩
  grind
 rintro(⟨s,q,⟨r,c,t,u⟩,-⟩|⟨l,p,rfl⟩)
 ·grind[b9,iS,yQ,pz]
 obtain⟨w,y,A⟩:=BS j p
 grind[oG,ax,yQ]
def RH(xs:List aC)(p:Int):Prop:=∃r∈xs,r.At<=p/\p<r.At+r.a6
theorem gF : bJ pages xs=true↔kv xs/\(∀y∈xs,0<=y.At/\1<=y.a6/\y.At+y.a6<=pages)/\1<=pages/\pages<=32:=by
 constructor
 ·grind[vM,bJ]
 rintro⟨b,c,d⟩
 unfold bJ;simp only[I0,C0];refine⟨cI.2 λi a=>?_,d⟩;have f:=c _ (ax a);unfold gW rangeIn;simp only[I0,C0];refine⟨ω,?_⟩;by_cases e:i=0
 ·exact .inl e
 right
 have:=List.pairwise_iff_getElem.1 b.1 (i - 1) i ω a ω
 rwa [<-bk (Z3 (show i - 1<xs.length by omega)),<-bk (Z3 a)]at this
theorem Lw(h:bJ pages xs=true)(p:Int):xs.any (y4 p)=true↔RH xs p:=by
 obtain⟨-,c,d⟩:=gF.1 h;rw[O7];refine⟨λ⟨r,a,b⟩=>⟨r,a,?_⟩,λ⟨r,a,b⟩=>⟨r,a,?_⟩⟩
 all_goals grind[fH,y4]
theorem yS(i:Int):∀(f:List aC)(r:aC)(out:List aC),kv f->1<=r.a6->(∀y∈f,ovl y r=false)->(∀z∈out,z.At+z.a6<r.At/\∀y∈f,z.At+z.a6<y.At)->kv out->(∀y∈r::(out++f),0<=y.At/\y.At+y.a6<=i)->∃o,j7 f r out false=some o/\kv o/\(∀y∈o,0<=y.At/\y.At+y.a6<=i)/\∀p,RH o p↔RH out p\/RH f p\/(r.At<=p/\p<r.At+r.a6)
 | [],r,out,_,l,_,D,g,j=>by
  refine⟨out++[r],by simp[j7],⟨List.pairwise_append.2 ⟨g.1,List.pairwise_singleton ..,ψ⟩,λy k=>?_⟩,ψ,λp=>by grind[RH]⟩;rcases I5.1 k with k|k
  ·exact g.2 y k
  grind
 | y::f,r,out,c,l,E,D,g,j=>by
  have M:=c.2 y ψ;have h:=E y ψ;have F:=c.head;have G:=j y ϕ;have H:=j r ϕ;have J:∀w∈f,¬(w.At<r.At+r.a6/\r.At<w.At+w.a6):=λw d=>by grind[ovl]
  have K:∀w∈f,1<=w.a6:=λw d=>c.2 w ψ
  rw[wO,CI (by rw[h];simp)];unfold ovl at h;rw[I9]at h;by_cases n:y.At+y.a6=r.At
  ·rw[CJ n]
   obtain⟨o,q,t,u,A⟩:=yS i f ⟨y.At,y.a6+r.a6⟩ out c.tail τ (λw d=>by grind[ovl]) ψ g ψ
   grind[RH]
  rw[CI n];by_cases B:r.At+r.a6=y.At
  ·rw[CJ B]
   obtain⟨o,q,t,u,A⟩:=yS i f ⟨r.At,r.a6+y.a6⟩ out c.tail τ (λw d=>by grind[ovl]) ψ g ψ
   grind[RH]
  rw[CI B];by_cases C:y.At > r.At
  ·have L:r.At+r.a6<y.At:=ω
   rw[CJ ⟨C,rfl⟩,so c.tail l ψ];refine⟨_,rfl,⟨?_,λw d=>?_⟩,ψ,λp=>by grind[RH]⟩
   ·rw[CB]
    refine List.pairwise_append.2 ⟨g.1,?_,λa N b j=>?_⟩
    ·show(r::y::f).Pairwise _
     refine List.pairwise_cons.2 ⟨λw d=>?_,c.1⟩
     grind
    grind
   simp only[I5,List.mem_cons,List.not_mem_nil,or_false]at d;rcases d with(d|rfl|rfl)|d
   ·exact g.2 w d
   all_goals grind
  rw[CI λe=>C e.1];obtain⟨o,q,t,u,A⟩:=yS i f r (out++[y]) c.tail l ψ ψ ⟨List.pairwise_append.2 ⟨g.1,List.pairwise_singleton ..,ψ⟩,λw d=>by
      rcases I5.1 d with d|d
      · exact g.2 w d
      grind⟩ ψ
  grind[RH]
theorem xG{r:aC}(h:bJ pages xs=true)(i:0<=r.At/\1<=r.a6/\r.At+r.a6<=pages)(c:∀p,r.At<=p->p<r.At+r.a6->¬RH xs p):∃o,cm pages xs r=some o/\bJ pages o=true/\∀p,RH o p↔RH xs p\/(r.At<=p/\p<r.At+r.a6):=by
 obtain⟨j,k,l⟩:=gF.1 h;have b:rangeIn pages r=true:=by grind[rangeIn]
 unfold cm;rw[CJ ⟨h,b⟩];obtain⟨o,n,d,f,q⟩:=yS pages xs r [] j i.2.1 (λy a=>by
   have:=k y a;unfold ovl;rw[I9];intro g;by_cases e:r.At<=y.At
   · exact c y.At e g.1 ⟨y,a,ω,ω⟩
   exact c r.At ω ω ⟨y,a,ω,g.2⟩) ψ ⟨List.Pairwise.nil,ψ⟩ ψ
 refine⟨o,n,gF.2 ⟨d,λy a=>⟨(f y a).1,d.2 y a,(f y a).2⟩,l⟩,λp=>?_⟩
 grind[RH]
structure Pg(t:aM)(fr:List aC)(sp:List a8)(la:List aB):Prop where
 one:∀l∈la,∀p:Nat,(p:Int)∈lpgs l l.a2.toNat->∀q:Nat,q<t.M.length->(nth t.M q).y≠0->(nth t.M q).j=(nth t.M p).j->q=p
 bnd:∀p∈pgs sp la,p<t.M.length
 own:∀p:Nat,p<t.M.length->((nth t.M p).y≠0↔(p:Int)∈pgs sp la)
 fre:∀p:Nat,p<t.M.length->((nth t.M p).y≠0↔¬RH fr p)
 mesh:∀s∈sp,∀u∈sp,s.S≠u.S->(nth t.M s.S.toNat).j=(nth t.M u.S.toNat).j->meshable s u=true
structure bf(h:ac)(E:List Int):Prop where
 ker:aG h.G=true
 rng:bJ (fk h) h.e=true
 lay:bA h.H h.J=true
 srs:h.H.Pairwise λa b=>a.S<b.S
 srl:h.J.Pairwise λa b=>a.S<b.S
 pg:Pg (tbl h) h.e h.H h.J
 mail:bE h.q=true
 nc:h.Q.length=h.q.T.length
 quar:gj h.a4=true
 snc:∀x∈h.a4.a0,x.b7<=h.b2
 cach:∀c∈h.Q,bB c=true
 nums:ch h=true
 osr:h.K.Pairwise λa b=>a.U<b.U
 onu:∀o∈h.K,1<=o.Id/\o.Id<=h.o - 1/\0<=o.a1/\o.a1<=h.Q.length - 1
 oid:(h.K.map (·.Id)).Nodup
 oow:∀o∈h.K,Ro h.H h.J o
 hca:∀c∈h.Q,∀k:Nat,k<c.X.length->∀a∈nth c.X k,jZ h.H a k
 hqu:∀x∈h.a4.a0,jZ h.H x.U x.a
 hfl:∀a∈aR h.q,jZ h.H a (-1)
 hin:∀a∈E,jZ h.H a (-1)
 nd:(E++holders h).Nodup
 mem:∀a,a∈E++holders h↔oz h.H h.J a
 job:h.a3=true->kf h.a9=true/\(∃s∈h.H,s.S=h.a9.g.b1)/\∃s∈h.H,s.S=h.a9.g.b3
 noj:h.a3=false->wb h.a9=true
variable{E:List Int}
theorem bf.L(a:bf h E):pm h.H h.J:=pm.of a.lay
theorem Dx(t:aM)(f:Int):(pagesOn t f).Nodup:=by grind[List.nodup_range,pagesOn,lw]
def V6{l:List Int}(b:l.Nodup)(d:a∈l)(c:∀x∈l,x=a):l.length=1:=by
 match l with
 | []=>cases d
 | [_]=>rfl
 | x::y::r=>
  exfalso;have e:=c x ϕ;have f:=c y ϕ;rw[e,f]at b;simp at b
variable{s:a8}
theorem eP(a:s∈sp):s.S∈pgs sp la:=by grind[pgs]
theorem gL{l:aB}(a:l∈la)(b:p∈lpgs l l.a2.toNat):p∈pgs sp la:=by grind[pgs]
theorem XT(b:bA h.H h.J=true)(N:bJ (fk h) h.e=true)(A:pages0 h=true)(r:rE h=true):Pg (tbl h) h.e h.H h.J:=by
 have B:=pm.of b;obtain⟨C,D,t⟩:=uK A;have E:∀p:Nat,p<fk h->((nth (tbl h).M p).y≠0↔¬RH h.e p):=λp a=>by grind[fE,Lw,pages0,yu]
 refine⟨λl w p c q F e f=>?_,D,t,E,λs G u H J O=>?_⟩
 ·obtain⟨i,y,rfl⟩:=b9 w
  obtain⟨k,g,n⟩:=dR.1 c;have a:p<fk h:=by grind[gL]
  have d:=(t p a).2 (gL w c);have K:=C i y k g;rw[<-n,gd a d]at K;have P:(p:Int)∈pagesOn (tbl h) (nth (tbl h).M p).j:=fw.2 ⟨a,d,rfl⟩;have Q:(q:Int)∈pagesOn (tbl h) (nth (tbl h).M p).j:=fw.2 ⟨F,e,f⟩
  grind[List.length_eq_one_iff]
 obtain⟨i,y,rfl⟩:=b9 G;obtain⟨j,R,rfl⟩:=b9 H;have L:∀k,k<h.H.length->au (tbl h) (nth h.H k).S=nth (tbl h).M (nth h.H k).S.toNat:=λk g=>by
  have S:=aJ (B.sok _ (ax g))
  grind[eP,FB,nth]
 unfold rE at r;rw[cI]at r;rcases Nat.lt_trichotomy i j with o|M|o
 all_goals grind[fE,k4,nP]
theorem FF(sp:List a8):du sp.length (zP sp)=true↔sp.Pairwise λa b=>a.S<b.S:=by
 rw[cI];refine Iff.trans ?_ (yX (λa b:Int=>a<b) ω (λs:a8=>s.S) sp)
 grind[zP]
theorem F7(la:List aB):du la.length (zM la)=true↔la.Pairwise λa b=>a.S<b.S:=by
 rw[cI];refine Iff.trans ?_ (yX (λa b:Int=>a<b) ω (λs:aB=>s.S) la)
 grind[zM]
theorem XH(o:bA h.H h.J=true)(B:bJ (fk h) h.e=true)(h1:h.H.Pairwise λa b=>a.S<b.S)(h2:h.J.Pairwise λa b=>a.S<b.S)(c:Pg (tbl h) h.e h.H h.J):pages0 h=true/\rE h=true:=by
 have u:=pm.of o;constructor
 ·unfold pages0
  simp only[I0];refine⟨⟨⟨(FF _).2 h1,cI.2 λi l=>?_⟩,S7.2 λp n=>O0 (c.bnd p n)⟩,cI.2 λp n=>?_⟩
  ·unfold uV
   rw[I0];refine⟨fE ((F7 _).2 h2) l,cI.2 λk w=>?_⟩;have y:=ax l;have C:=aV (u.lok _ y);obtain⟨p,n⟩ : ∃p:Nat,(nth h.J i).S+(k:Nat)=(p:Nat):=⟨((nth h.J i).S+k).toNat,ω⟩
   have q:(p:Int)∈lpgs (nth h.J i) (nth h.J i).a2.toNat:=dR.2 ψ;have d:p<fk h:=by have:=c.bnd _ (gL (sp:=h.H) y q);exact Int.ofNat_lt.1 this
   have r:=(c.own p d).2 (gL y q);unfold BD;rw[C0,n,gd d r];refine V6 (Dx ..) (fw.2 ⟨d,r,rfl⟩) λx D=>?_
   grind[xX,fw,Pg.one]
  unfold yu;rw[I0,C0];refine⟨c.own p n,?_⟩;have E:=c.fre p n
  grind[Lw]
 unfold rE;refine cI.2 λi l=>cI.2 λj F=>?_
 have g:j<h.H.length:=ω
 have t:∀k,k<h.H.length->au (tbl h) (nth h.H k).S=nth (tbl h).M (nth h.H k).S.toNat:=λk w=>by
  have G:=aJ (u.sok _ (ax w));have H:=c.bnd _ (eP (la:=h.J) (ax w))
  grind[FB,fk,tbl]
 unfold nP;rw[t i l,t j g,IC,C0];by_cases e:(nth (tbl h).M (nth h.H i).S.toNat).j=(nth (tbl h).M (nth h.H j).S.toNat).j
 ·refine .inr (c.mesh _ (ax l) _ (ax g) (λA=>?_) e)
  have:=hJ (f:=(·.S)) u.nd l g A;omega
 exact .inl e
theorem Lv(c:ch h=true)(d:pm h.H h.J):gG h=true↔(h.K.Pairwise λa b=>a.U<b.U)/\(∀o∈h.K,1<=o.Id/\o.Id<=h.o - 1/\0<=o.a1/\o.a1<=h.Q.length - 1)/\(h.K.map (·.Id)).Nodup/\∀o∈h.K,Ro h.H h.J o:=by
 unfold ch at c;rw[C0]at c;refine Iff.trans ?_ (and_congr (yX (λa b:Int=>a<b) ω (λo:bc=>o.U) h.K) (and_congr Iff.rfl (and_congr (Fb (λo:bc=>o.Id) h.K) Iff.rfl)));unfold gG;rw[fH ω ω,cI];have e:∀i,i<h.K.length->(objAt (h.o - 1) h i=true↔(i=0\/(nth h.K (i - 1)).U<(nth h.K i).U)/\(1<=(nth h.K i).Id/\(nth h.K i).Id<=h.o - 1/\0<=(nth h.K i).a1/\(nth h.K i).a1<=h.Q.length - 1)/\(∀o∈h.K.take i,o.Id≠(nth h.K i).Id)/\Ro h.H h.J (nth h.K i)):=λi f=>by grind[Rn,objAt,iF,dS]
 grind[b9,ax]
def A6(b:pm h.H h.J):kI h=true↔(∀c∈h.Q,∀k:Nat,k<c.X.length->∀a∈nth c.X k,jZ h.H a k)/\(∀x∈h.a4.a0,jZ h.H x.U x.a)/\∀a∈aR h.q,jZ h.H a (-1):=by
 rw[qY];simp only[S7,fK,cI,vt,iN,lY,RN b,and_assoc]
theorem N0 : 0<=iu h p↔∃s∈h.H,s.S=p:=by grind[iu,cu,nH]
theorem bf.of(g:cz h=true):bf h []:=by
 unfold cz mI at g;simp only[I0]at g;obtain⟨⟨⟨⟨⟨⟨⟨⟨⟨⟨r,l⟩,e⟩,j⟩,n⟩,c⟩,t⟩,H⟩,o⟩,k,b⟩,d⟩:=g;have p:=pm.of e;rw[xp e j]at n;have f:=j;unfold pages0 at f;simp only[I0]at f;unfold dY at c;simp only[I0,C0]at c;unfold lh at b;simp only[I0,C0]at b;obtain⟨⟨u,w⟩,J⟩:=b;obtain⟨y,A,B,C⟩:=(Lv o p).1 k;obtain⟨D,E,F⟩:=(A6 p).1 u;unfold nv at t;have G:=cI.1 f.1.1.2;refine⟨r,l,e,(FF _).1 f.1.1.1,(F7 _).1 (cI.2 λi K=>?_),XT e l j n,c.1.1,c.1.2,c.2,ψ,ψ,o,y,A,B,C,D,E,F,ψ,(by simpa using w),λa=>?_,λq=>?_,λq=>?_⟩
 ·grind[uV]
 ·grind[KN,vi,tX]
 ·unfold vU at d
  rw[CJ q]at d
  grind[N0]
 grind[vU]
theorem bf.to(b:bf h []):cz h=true:=by
 have c:=b.L;obtain⟨e,g⟩:=XH b.lay b.rng b.srs b.srl b.pg;have d:=(Lv b.nums c).2 ⟨b.osr,b.onu,b.oid,b.oow⟩;have f:=(A6 c).2 ⟨b.hca,b.hqu,b.hfl⟩;unfold cz mI;simp only[I0];refine⟨⟨⟨⟨⟨⟨⟨⟨⟨⟨b.ker,b.rng⟩,b.lay⟩,e⟩,by grind[xp,bf.lay]⟩,?_⟩,?_⟩,S7.2 b.cach⟩,b.nums⟩,d,?_⟩,?_⟩
 ·grind[bf.mail,bf.quar,bf.nc,dY]
 ·grind[bf.snc,nv]
 ·unfold lh
  have i:(holders h).Nodup:=by simpa using b.nd
  have j:∀a,a∈holders h↔a∈lK h.H h.J:=λa=>by rw[KN c,<-b.mem a];simp
  grind[xD,List.Perm.length_eq]
 grind[bf.job,N0,bf.noj,vU]
def dele(xs:List α)(i:Nat):List α:=xs.take i++xs.drop (i+1)
theorem fL(xs:List α)(i:Nat):(dele xs i).Sublist xs:=by
 unfold dele;rw[<-List.eraseIdx_eq_take_drop_succ];grind
theorem FD[Inhabited α]{xs:List α}(a:i<xs.length):xs.Perm (nth xs i::dele xs i):=by
 have:xs=xs.take i++nth xs i::xs.drop (i+1):=by grind[gn,List.take_append_drop]
 conv=>lhs;rw[this]
 exact List.perm_middle
theorem jB{α:Type}[Inhabited α](f:α->List Int)(a:Int):∀(xs:List α)(i:Nat)(y:α),i<xs.length->((xs.set i y).flatMap f).count a+(f (nth xs i)).count a=(xs.flatMap f).count a+(f y).count a
 | [],i,_,h=>by cases h
 | x::xs,0,y,_=>by
  show((y::xs).flatMap f).count a+(f x).count a=((x::xs).flatMap f).count a+(f y).count a
  grind
 | x::xs,i+1,y,h=>by
  have:=jB f a xs i y (by simpa using h);show((x::xs.set i y).flatMap f).count a+(f (nth xs i)).count a=((x::xs).flatMap f).count a+(f y).count a
  grind
theorem mn(a:List (List Int)):a.flatten=a.flatMap λx=>x:=by simp_all
theorem jZ.any{c:Int}(h:jZ sp a c):jZ sp a (-1):=by
 obtain⟨s,b,d,-⟩:=h;exact⟨s,b,d,.inl qs⟩
def bf.cells(a:bf h E)(c:aG k=true)(b:k.F.O=h.G.F.O):bf {h with G:=k} E:=
 {a with
   ker:=c
   rng:=by show bJ ((k.F.O.M.length:Nat):Int) h.e=true;rw[b];exact a.rng
   pg:=by show Pg k.F.O h.e h.H h.J;rw[b];exact a.pg}
theorem bf.dropO(b:bf h E)(e:i<h.K.length)(j:jZ h.H (nth h.K i).U (-1)):bf {h with K:=dele h.K i} ((nth h.K i).U::E):=by
 have f:(E++holders h).Perm (((nth h.K i).U::E)++holders {h with K:=dele h.K i}):=by
  have g:=(FD e).map (·.U);refine List.perm_iff_count.2 λa=>?_
  have k:=g.count_eq a
  grind[holders,cT]
 have c:(dele h.K i).Sublist h.K:=fL ..;exact {b with
   osr:=b.osr.sublist c
   onu:=λo d=>b.onu o (c.subset d)
   oid:=b.oid.sublist (c.map _)
   oow:=λo d=>b.oow o (c.subset d)
   hin:=λa l=>by grind[bf.hin]
   nd:=f.nodup_iff.1 b.nd
   mem:=λa=>by grind[bf.mem]}
def mN(c:aD)(k:Nat)(a:Int):aD:=⟨c.X.set k (nth c.X k++[a])⟩
theorem bf.put{t k:Nat}(e:bf h (a::E))(f:t<h.Q.length)(g:k<(nth h.Q t).X.length)(p:jZ h.H a k)(q:bB (mN (nth h.Q t) k a)=true):bf {h with Q:=h.Q.set t (mN (nth h.Q t) k a)} E:=by
 have i:(a::E++holders h).Perm (E++holders {h with Q:=h.Q.set t (mN (nth h.Q t) k a)}):=by
  refine List.perm_iff_count.2 λb=>?_
  have r:=jB (λc:aD=>c.X.flatten) b h.Q t (mN (nth h.Q t) k a) f;have l:=jB (λx:List Int=>x) b (nth h.Q t).X k (nth (nth h.Q t).X k++[a]) g;rw[<-mn,<-mn]at l
  grind[mN,holders,cT]
 exact {e with
   nc:=by grind[bf.nc]
   cach:=λc d=>by grind[bf.cach]
   onu:=by show ∀o∈h.K,1<=o.Id/\o.Id<=h.o - 1/\0<=o.a1/\o.a1<=(h.Q.set t _).length - 1;rw[O2];exact e.onu
   hca:=λc d j u b n=>by
     rcases SC d with d|rfl
     all_goals grind[bf.hca,cY,ax,mN]
   hin:=λb n=>e.hin b ψ
   nd:=i.nodup_iff.1 e.nd
   mem:=λb=>by grind[bf.mem]}
theorem bf.toQuar{x:aO}{q:bz}{out:List aO}(c:bf h (x.U::E))(f:gj q=true)(d:h.a4.a0++[x]=out++q.a0)(j:x.b7<=h.b2)(k:jZ h.H x.U x.a):bf {h with a4:=q} (out.map (·.U)++E):=by
 have e:∀y∈out++q.a0,y.b7<=h.b2/\jZ h.H y.U y.a:=λy a=>by
  rw[<-d]at a;rcases I5.1 a with a|a
  ·exact⟨c.snc y a,c.hqu y a⟩
  grind
 have g:(x.U::E++holders h).Perm ((out.map (·.U)++E)++holders {h with a4:=q}):=by
  refine List.perm_iff_count.2 λb=>?_
  have i:=I1 (λl:List aO=>(l.map (·.U)).count b) d;simp only[IB,ZB,SB,List.map_nil,List.count_singleton]at i
  grind[holders,cT]
 exact {c with
   quar:=f
   snc:=(ψ)
   hqu:=(ψ)
   hin:=λb n=>by grind[jZ.any,bf.hin]
   nd:=g.nodup_iff.1 c.nd
   mem:=λb=>by grind[bf.mem]}
def Aj(b i:Int):Int:=((BitVec.ofInt IntKind.i64.bits b &&& ~~~BitVec.ofInt IntKind.i64.bits (2 ^ i.toNat)).toNat:Nat)
def lW(s:a8)(i:Int):a8:={s with b0:=Aj s.b0 i}
theorem kU(b i:Int):bg b i=true↔0<=b/\0<=i/\i<=15/\b.toNat.testBit i.toNat=true:=by grind[bg]
variable{b:Int}
theorem HN{i:Int}(d:0<=b/\b<=65535)(a:0<=i/\i<=15)(j:Nat):(Aj b i).toNat.testBit j=(b.toNat.testBit j&&decide (i.toNat≠j)):=by
 have e:(2:Int) ^ i.toNat<=32768/\0<=(2:Int) ^ i.toNat:=by
  obtain⟨n,rfl⟩:=C5 a.1;rw[Z4];have:(2:Nat) ^ n<=2 ^ 15:=Nat.pow_le_pow_right qs ω
  grind
 unfold Aj;rw[Z4,BitVec.testBit_toNat,BitVec.getLsbD_and,BitVec.getLsbD_not,<-BitVec.testBit_toNat,<-BitVec.testBit_toNat,rY ω,rY ω];rw[show((2:Int) ^ i.toNat).toNat=2 ^ i.toNat by rw[show(2:Int) ^ i.toNat=((2 ^ i.toNat:Nat):Int) by norm_cast,Z4],Nat.testBit_two_pow];by_cases c:j<64
 ·rw[show decide (j<IntKind.i64.bits)=true from O0 c,Bool.true_and]
  grind
 rw[Nat.testBit_lt_two_pow (x:=b.toNat) (i:=j) (I7 (show b.toNat<2 ^ 16 by omega) (Nat.pow_le_pow_right qs ω))]
 rfl
theorem GB{i:Int}(a:0<=b/\b<=65535):0<=Aj b i/\Aj b i<=b:=by grind[rY,Nat.and_le_left,Aj]
theorem TP{i:Int}(a:0<=b/\b<=65535)(c:0<=i/\i<=15)(j:Int):bg (Aj b i) j=true↔bg b j=true/\j≠i:=by grind[kU,HN,GB]
theorem eA(h:bh s=true):0<=s.b0/\s.b0<=65535:=by
 unfold bh at h;simp only[C0]at h;have:=MU s.a;omega
theorem NU(h:bh s=true)(i:Int):bh (lW s i)=true:=by
 have b:=eA h;have a:=GB (i:=i) b;unfold bh at h;rw[C0]at h;obtain⟨c,d,e,f,j,g⟩:=h;exact O0 ⟨c,d,e,f,a.1,Int.le_trans a.2 g⟩
theorem E4{u:a8}(e:bh s=true){i:Int}(f:0<=i/\i<=15)(h:meshable s u=true):meshable (lW s i) u=true:=by
 unfold meshable at h |-;simp only[I0,C0]at h |-;obtain⟨⟨a,b⟩,c,d,g⟩:=h;refine⟨⟨NU a i,b⟩,c,d,?_⟩;refine Nat.eq_of_testBit_eq λj=>?_
 grind[HN,eA,lW]
def eg(s:a8)(a:Int):Int:=(a - 16*s.S) / csz s.a
theorem xn(h:bh s=true)(b:16*s.S<=a/\a<=16*s.S+15):0<=eg s a/\eg s a<=15:=by
 have c:=aJ h
 grind[dd,eg]
theorem Mp(h:bh s=true)(c:(a - 16*s.S) % csz s.a=0)(d:(b - 16*s.S) % csz s.a=0)(e:eg s a=eg s b):a=b:=by
 have f:=aJ h
 grind[dd,eg]
theorem ES(h:bh s=true)(k:gk s a)(b:Int):gk (lW s (eg s a)) b↔gk s b/\b≠a:=by
 obtain⟨l,n,o,p⟩:=k;have c:=xn h ⟨l,n⟩;unfold gk;simp only[lW];rw[TP (eA h) c];constructor
 ·rintro⟨g,i,d,j,f⟩
  exact⟨ψ,λe=>f (by rw[e];rfl)⟩
 rintro⟨⟨g,i,d,j⟩,f⟩
 exact⟨g,i,d,j,λe=>f (Mp h d o e)⟩
theorem jv[Inhabited α]{xs:List α}{y z:α}(h:z∈xs.set i y):z=y\/∃j,j<xs.length/\j≠i/\nth xs j=z:=by
 obtain⟨j,a,rfl⟩:=List.mem_iff_getElem.1 h;rw[List.getElem_set];by_cases e:i=j
 ·subst e;simp
 rw[CI e];rw[O2]at a;exact .inr ⟨j,a,λx=>e x.symm,bk ψ⟩
theorem lv[Inhabited α]{xs:List α}(y:α)(a:j<xs.length)(e:j≠i):nth xs j∈xs.set i y:=by
 have:nth (xs.set i y) j=nth xs j:=by grind[cY]
 grind[ax]
theorem j9{xs:List α}(y:α)(a:i<xs.length):y∈xs.set i y:=by grind[List.mem_iff_getElem]
def T0(k:Int)(a:i<sp.length):(sp.set i (lW (nth sp i) k)).map (·.S)=sp.map (·.S):=by
 rw[CC];refine List.ext_getElem ϕ λj b c=>?_
 rw[List.getElem_set];split
 ·rename_i e;subst e
  rw[List.getElem_map];show(nth sp i).S=_;rw[bk (Z3 a)]
 rfl
def jZ.set(q:pm sp la)(k:i<sp.length)(l:gk (nth sp i) a)(b c:Int):jZ (sp.set i (lW (nth sp i) (eg (nth sp i) a))) b c↔jZ sp b c/\b≠a:=by
 have g:=q.sok _ (ax k);constructor
 ·rintro⟨s,o,d,h⟩
  rcases jv o with rfl|⟨j,n,r,rfl⟩
  ·have:=(ES g l b).1 d
   exact⟨⟨_,ax k,this.1,h⟩,this.2⟩
  refine⟨⟨_,ax n,d,h⟩,λe=>?_⟩;subst e;have:=hJ (f:=(·.S)) q.nd k n (by have t:=l.1;have u:=l.2.1;have w:=d.1;have y:=d.2.1;omega);omega
 rintro⟨⟨s,o,d,h⟩,p⟩
 obtain⟨j,n,rfl⟩:=b9 o;by_cases e:j=i
 ·subst e
  exact⟨_,j9 _ k,(ES g l b).2 ⟨d,p⟩,h⟩
 exact⟨_,lv _ n e,d,h⟩
theorem bf.give(d:bf h (a::E))(t:i<h.H.length)(w:gk (nth h.H i) a):bf {h with H:=h.H.set i (lW (nth h.H i) (eg (nth h.H i) a))} E:=by
 have B:=d.L;have G:=B.sok _ (ax t);have O:=xn G ⟨w.1,w.2.1⟩;have f:=λb c=>jZ.set B t w b c
 have H:=T0 (eg (nth h.H i) a) t;generalize J:h.H.set i (lW (nth h.H i) (eg (nth h.H i) a))=sp at f H;have p:pgs sp h.J=pgs h.H h.J:=by grind[pgs]
 have g:=d.nd;rw[List.cons_append]at g;obtain⟨P,g⟩:=List.nodup_cons.1 g;have y:∀b,b∈E++holders h->b≠a:=ψ
 have n:∀b,b∈holders h->b≠a:=ψ
 have Q:∀l∈h.J,16*l.S≠a:=λl R e=>(BS B R).1 _ (ax t) (by have a1:=w.1;have a2:=w.2.1;omega)
 have q:∀s∈sp,∃u∈h.H,u.S=s.S/\(s=u\/s=lW u (eg (nth h.H i) a)):=λs r=>by
  rw[<-J]at r;rcases jv r with rfl|⟨j,hj,S,rfl⟩
  ·exact⟨_,ax t,rfl,.inr rfl⟩
  grind[ax]
 have T:∀u∈h.H,∃s∈sp,s.S=u.S:=λu C=>by
  have:u.S∈sp.map (·.S):=ψ
  grind
 exact {d with
   lay:=by grind[bf.lay,NU,bA]
   srs:=by
     have A:(h.H.map (·.S)).Pairwise (λa b=>a<b):=List.pairwise_map.2 d.srs
     grind
   pg:=⟨d.pg.one,by rw[p];exact d.pg.bnd,by rw[p];exact d.pg.own,d.pg.fre,λs r u C y U=>by
     obtain⟨V,K,W,X⟩:=q s r;obtain⟨Y,M,Z,hu2⟩:=q u C;have A:=d.pg.mesh V K Y M ω (by rw[W,Z];exact U)
     grind[E4,pm.sok,k4]⟩
   oow:=λo ho=>by
     have N:o.U≠a:=n _ (by grind[holders]);rcases d.oow o ho with⟨s,r,A,h2⟩|A
     · obtain⟨u,C,g1,D⟩:=(f o.U (aP o.k)).2 ⟨⟨s,r,A,.inr h2⟩,N⟩
       refine .inl ⟨u,C,g1,?_⟩;rcases D with D|D
       · have:=aJ (B.sok _ r);omega
       exact D
     exact .inr A
   hca:=λc hc k hk b F=>(f b k).2 ⟨d.hca c hc k hk b F,n b (by
     unfold holders cT;grind[List.mem_flatten,ax])⟩
   hqu:=λx hx=>(f _ _).2 ⟨d.hqu x hx,n _ (by grind[holders])⟩
   hfl:=λb F=>(f _ _).2 ⟨d.hfl b F,n _ (by grind[holders])⟩
   hin:=λb F=>(f _ _).2 ⟨d.hin b ψ,y b ψ⟩
   nd:=g
   mem:=λb=>by
     show b∈E++holders h↔oz sp h.J b
     grind[bf.mem,oz]
   job:=λhm=>by grind[bf.job]}
def dE(k:ah)(p:Int):Nat->ah
 | 0=>k
 | n+1=>cW (dE k p n) (p+n)
def jJ{k:ah}(h:aG k=true)(p:Int):∀n,aG (dE k p n)=true
 | 0=>h
 | n+1=>zg _ (jJ h p n)
theorem gM(k:ah)(p:Int):∀n,(dE k p n).F.O.M.length=k.F.O.M.length/\(dE k p n).b=k.b/\(dE k p n).d=k.d
 | 0=>⟨rfl,rfl,rfl⟩
 | n+1=>by
  obtain⟨a,b,c⟩:=gM k p n;obtain⟨d,e,f⟩:=t8 (dE k p n) (p+n);exact⟨d.trans a,e.trans b,f.trans c⟩
theorem AA(h:aG k=true)(g:0<=p/\p<k.F.O.M.length)(q:Nat):nth (cW k p).F.O.M q=if(q:Int)=p then⟨0,0⟩ else nth k.F.O.M q:=by
 have c:au k.F.O p=nth k.F.O.M p.toNat:=by grind[au]
 unfold cW;split
 ·rename_i a
  split
  ·rename_i i
   rw[c]at a;have b:=(bt.1 (aF.1 h).2.2.1).1 p.toNat ω;unfold m7 at b;rw[C0]at b;have d:=b.2.2.1 a;rw[show q=p.toNat by omega];generalize nth k.F.O.M p.toNat=e at a d;obtain⟨m,f⟩:=e
   grind
  rfl
 grind[rS,cY,mQ]
theorem om{k:ah}(h:aG k=true){p:Int}(a:0<=p):∀n:Nat,p+n<=k.F.O.M.length->∀q:Nat,nth (dE k p n).F.O.M q=if p<=q/\(q:Int)<p+n then⟨0,0⟩ else nth k.F.O.M q
 | 0,_,q=>by rw[CI ω];rfl
 | n+1,b,q=>by
  have c:=om h a n ω q;have d:=AA (jJ h p n) (p:=p+n) ⟨ω,by grind[gM]⟩ q;show nth (cW (dE k p n) (p+n)).F.O.M q=_
  grind
theorem JD{β:Type}(f:α->List β){xs b:List α}(h:xs.Sublist b):(xs.flatMap f).Sublist (b.flatMap f):=by
 induction h with
 | slnil=>grind
 | cons a _ c=>grind
 | cons_cons a _ c=>grind
theorem A9(c:bf h E)(Y:1<=n)(w:sp.Sublist h.H)(D:la.Sublist h.J)(j:∀q:Int,p<=q->q<p+n->q∈pgs h.H h.J)(K:0<=p)(F:∀q,q∈pgs sp la↔q∈pgs h.H h.J/\¬(p<=q/\q<p+n)) :
  ∃o,cm (fk h) h.e ⟨p,n⟩ = some o/\aG (dE h.G p n)=true/\bJ ((dE h.G p n).F.O.M.length:Nat) o=true/\bA sp la=true/\Pg (dE h.G p n).F.O o sp la:=by
 have t:=c.pg.bnd _ (j (p+n - 1) ω ω);have a:=(gM h.G p n).1;have y:p+n<=h.G.F.O.M.length:=by unfold tbl at t;omega
 have g:=om c.ker K n y;obtain⟨o,Q,R,S⟩:=xG (r:=⟨p,n⟩) c.rng ⟨K,by simp only;omega,y⟩ λq M N=>by
  simp only at M N;obtain⟨m,rfl⟩:=C5 (show 0<=q by omega);have A:m<(tbl h).M.length:=by unfold tbl;omega
  exact(c.pg.fre m A).1 ((c.pg.own m A).2 (j _ M N))
 refine⟨o,Q,jJ c.ker p n,by rw[a];exact R,?_,?_⟩
 ·obtain⟨T,U,V⟩:=fC c.lay
  unfold bA;simp only[I0,C0];exact⟨⟨S7.2 λs d=>S7.1 T s (w.subset d),S7.2 λl d=>S7.1 U l (D.subset d)⟩,V.sublist ((w.map _).append (JD _ D))⟩
 have i:∀q:Nat,(q:Int)∈pgs sp la->nth (dE h.G p n).F.O.M q=nth (tbl h).M q:=λq f=>by rw[g,CI ((F q).1 f).2];rfl
 have b:∀q:Nat,(nth (dE h.G p n).F.O.M q).y≠0↔(nth (tbl h).M q).y≠0/\¬(p<=q/\(q:Int)<p+n):=λq=>by
  rw[g];by_cases e:p<=q/\(q:Int)<p+n
  ·rw[CJ e];exact⟨λx=>absurd rfl x,λx=>absurd e x.2⟩
  rw[CI e];exact⟨λx=>⟨x,e⟩,λx=>x.1⟩
 refine⟨λl d q f r O G B=>?_,λq f=>?_,λq f=>?_,λq f=>?_,λs d u H J P=>?_⟩
 ·have C:=(b r).1 G
  rw[a]at O;rw[i q (gL d f),g,CI C.2]at B;exact c.pg.one l (D.subset d) q f r O C.1 B
 ·rw[a];exact c.pg.bnd q ((F q).1 f).1
 ·rw[a]at f
  rw[b,F,c.pg.own q f]
 ·rw[a]at f
  rw[b,S,c.pg.fre q f];simp only
  grind
 have k:∀s∈sp,0<=s.S:=λs d=>(aJ (c.L.sok s (w.subset d))).1
 have W:=i s.S.toNat (by rw[Int.toNat_of_nonneg (k s d)];exact eP d);have X:=i u.S.toNat (by rw[Int.toNat_of_nonneg (k u H)];exact eP H);rw[W,X]at P;exact c.pg.mesh s (w.subset d) u (w.subset H) J P
theorem gq[Inhabited α]{xs:List α}{k:Nat}{z:α} : z∈dele xs k↔∃j,j<xs.length/\j≠k/\nth xs j=z:=by
 unfold dele;rw[I5];constructor
 ·rintro(h|h)
  ·obtain⟨j,a,rfl⟩:=List.mem_take_iff_getElem.1 h
   exact⟨j,ω,ω,bk ψ⟩
  obtain⟨j,a,rfl⟩:=List.mem_drop_iff_getElem.1 h;exact⟨k+1+j,ω,ω,bk ψ⟩
 rintro⟨j,a,b,rfl⟩
 rw[bk (Z3 a)];by_cases e:j<k
 ·grind[List.mem_take_iff_getElem]
 refine .inr (List.mem_drop_iff_getElem.2 ⟨j - (k+1),ω,?_⟩)
 congr 1;omega
theorem rK{q:Int} : q∈pgs sp la↔(∃s∈sp,s.S=q)\/∃l∈la,q∈lpgs l l.a2.toNat:=by grind[pgs]
theorem H9(h:s.b0=0)(a:Int):¬gk s a:=by
 rintro⟨-,-,-,b⟩
 rw[kU,h]at b;simp at b
theorem bf.giveSpan(d:bf h E)(C:i<h.H.length)(r:(nth h.H i).b0=0)(R:h.a3=true->(nth h.H i).S≠h.a9.g.b1/\(nth h.H i).S≠h.a9.g.b3) :
  ∃o,cm (fk h) h.e ⟨(nth h.H i).S,1⟩ = some o/\bf {h with G:=cW h.G (nth h.H i).S,H:=dele h.H i,e:=o} E:=by
 have D:=d.L;have y:=aJ (D.sok _ (ax C));have w:∀q,q∈pgs (dele h.H i) h.J↔q∈pgs h.H h.J/\¬((nth h.H i).S<=q/\q<(nth h.H i).S+(1:Nat)):=λq=>by
  rw[rK,rK];constructor
  ·rintro(⟨s,u,rfl⟩|⟨l,S,T⟩)
   ·obtain⟨j,a,A,rfl⟩:=gq.1 u
    refine⟨.inl ⟨_,ax a,rfl⟩,λe=>A (hJ (f:=(·.S)) D.nd a C ω)⟩
   grind[dR,pm.dis,ax]
  grind[b9,gq]
 obtain⟨o,J,F,G,K,H⟩:=A9 d (sp:=dele h.H i) (la:=h.J) (p:=(nth h.H i).S) (n:=1) (O5 _) (fL ..) ψ (λq U V=>by grind[eP,nth]) y.1 w;have M:dE h.G (nth h.H i).S 1=cW h.G (nth h.H i).S:=by show cW h.G ((nth h.H i).S+((0:Nat):Int))=_;grind
 rw[M]at F G H;have g:∀b c,jZ (dele h.H i) b c↔jZ h.H b c:=λb c=>by
  constructor
  ·rintro⟨s,u,t⟩;exact⟨s,(fL ..).subset u,t⟩
  rintro⟨s,u,t,B⟩
  obtain⟨j,a,rfl⟩:=b9 u;exact⟨_,gq.2 ⟨j,a,λe=>H9 r b ψ,rfl⟩,t,B⟩
 refine⟨o,J,{d with
   ker:=F
   rng:=G
   lay:=K
   srs:=d.srs.sublist (fL ..)
   pg:=H
   oow:=λN O=>?_
   hca:=λc y k P b r=>(g b k).2 (d.hca c y k P b r)
   hqu:=λx Q=>(g _ _).2 (d.hqu x Q)
   hfl:=λb r=>(g _ _).2 (d.hfl b r)
   hin:=λb r=>(g _ _).2 (d.hin b r)
   mem:=λb=>(d.mem b).trans ?_
   job:=λW=>?_}⟩
 ·rcases d.oow N O with⟨s,u,t,B⟩|t
  ·obtain⟨j,a,rfl⟩:=b9 u
   exact .inl ⟨_,gq.2 ⟨j,a,λe=>H9 r _ (by rw[<-e];exact t),rfl⟩,t,B⟩
  exact .inr t
 all_goals grind[bf.job,b9,gq,oz]
theorem bf.dropL{k:Nat}(d:bf h E)(N:i<h.K.length)(w:k<h.J.length)(F:(nth h.K i).U=16*(nth h.J k).S) :
  ∃o,cm (fk h) h.e ⟨(nth h.J k).S,(nth h.J k).a2⟩ = some o/\bf {h with G:=dE h.G (nth h.J k).S (nth h.J k).a2.toNat,J:=dele h.J k,e:=o,K:=dele h.K i} E:=by
 have y:=d.L;have O:=aV (y.lok _ (ax w));have A:∀q,q∈pgs h.H (dele h.J k)↔q∈pgs h.H h.J/\¬((nth h.J k).S<=q/\q<(nth h.J k).S+((nth h.J k).a2.toNat:Nat)):=λq=>by
  rw[rK,rK];constructor
  ·rintro(⟨s,C,rfl⟩|⟨l,f,H⟩)
   ·refine⟨.inl ⟨s,C,rfl⟩,λe=>y.dis s C _ (ax w) (s.S - (nth h.J k).S).toNat ω ω⟩
   obtain⟨j,c,g,rfl⟩:=gq.1 f;refine⟨.inr ⟨_,ax c,H⟩,λe=>?_⟩;obtain⟨m,P,rfl⟩:=dR.1 H;exact g (y.one j k c w m ((nth h.J j).S+(m:Int) - (nth h.J k).S).toNat P ω ω)
  grind[b9,gq,dR]
 obtain⟨o,J,Q,R,S,T⟩:=A9 d (sp:=h.H) (la:=dele h.J k) (p:=(nth h.J k).S) (n:=(nth h.J k).a2.toNat) ω ψ (fL ..) (λq Z q2=>gL (ax w) (dR.2 ⟨(q - (nth h.J k).S).toNat,ω,ω⟩)) O.2.2.1 A;rw[Int.toNat_of_nonneg ω]at J;have U:(E++holders h).Perm ((nth h.K i).U::(E++holders {h with K:=dele h.K i})):=by
  have V:=(FD N).map (·.U);refine List.perm_iff_count.2 λa=>?_
  have r:=V.count_eq a
  grind[holders,cT]
 have t:=U.nodup_iff.1 d.nd;obtain⟨W,t⟩:=List.nodup_cons.1 t;have u:∀b,(b=(nth h.K i).U\/b∈E++holders {h with K:=dele h.K i})↔oz h.H h.J b:=λb=>by grind[bf.mem]
 have B:∀b,b∈E++holders {h with K:=dele h.K i}->b≠(nth h.K i).U:=ψ
 refine⟨o,J,{d with
   ker:=Q
   rng:=R
   lay:=S
   srl:=d.srl.sublist (fL ..)
   pg:=T
   osr:=d.osr.sublist (fL ..)
   onu:=λD G=>d.onu D ((fL ..).subset G)
   oid:=d.oid.sublist ((fL ..).map _)
   oow:=λD G=>?_
   nd:=t
   mem:=λb=>?_}⟩
 ·rcases d.oow D ((fL ..).subset G) with r|⟨l,f,K,X⟩
  ·exact .inl r
  obtain⟨j,c,rfl⟩:=b9 f;refine .inr ⟨_,gq.2 ⟨j,c,λe=>?_,rfl⟩,K,X⟩;subst e;refine B D.U (I5.2 (.inr ?_)) (by rw[F];exact K);unfold holders;grind
 constructor
 ·intro M
  rcases(u b).1 (.inr M) with r|⟨l,f,rfl⟩
  ·exact .inl r
  obtain⟨j,c,rfl⟩:=b9 f;exact .inr ⟨_,gq.2 ⟨j,c,λe=>B _ M (by rw[F,e]),rfl⟩,rfl⟩
 rintro(r|⟨l,f,rfl⟩)
 ·refine((u b).2 (.inl r)).resolve_left λe=>?_
  obtain⟨s,C,⟨Y,g2,-⟩,-⟩:=r;exact(BS y (ax w)).1 s C ω
 obtain⟨j,c,g,rfl⟩:=gq.1 f;refine((u _).2 (.inr ⟨_,ax c,rfl⟩)).resolve_left λe=>g ?_
 have Y:=aV (y.lok _ (ax c));rw[F]at e;exact y.one j k c w 0 0 ω ω ω
def gv(h:ac)(p:Int):Bool:=h.a3&&(decide (p=h.a9.g.b1) || decide (p=h.a9.g.b3))
def giveP(h:ac)(i:Nat):ac:={h with G:=cW h.G (nth h.H i).S,H:=dele h.H i,e:=(cm (fk h) h.e ⟨(nth h.H i).S,1⟩).getD h.e}
def clrS(h:ac)(i:Nat)(a:Int):ac:={h with H:=h.H.set i (lW (nth h.H i) (eg (nth h.H i) a))}
def freeS(h:ac)(i:Nat)(a:Int):ac:=if(lW (nth h.H i) (eg (nth h.H i) a)).b0=0/\gv h (nth h.H i).S=false then giveP (clrS h i a) i else clrS h i a
def yF(h:ac)(a:Int):Nat:=(iu h (a / 16)).toNat
def freeA(h:ac)(a:Int):ac:=freeS h (yF h a) a
def cput(c:aD)(k a:Int):Option aD:=if bB c=true/\0<=k/\k<=3/\bB (mN c k.toNat a)=true then some (mN c k.toNat a) else none
def recyc(t:Nat)(h:ac)(a:Int):ac:=match cput (nth h.Q t) (nth h.H (yF h a)).a a with
 | some c=>{h with Q:=h.Q.set t c}
 | none=>freeA h a
theorem bf.at(e:bf h E)(c:jZ h.H a (-1)):yF h a<h.H.length/\gk (nth h.H (yF h a)) a/\iu h (a / 16)=(yF h a:Nat):=by
 obtain⟨s,d,b,-⟩:=c;obtain⟨i,f,rfl⟩:=b9 d;have g:(nth h.H i).S=a / 16:=by have j:=b.1;have k:=b.2.1;omega
 grind[wl,bf.L,yF]
theorem Uj(e:gv h p=false)(a:h.a3=true):p≠h.a9.g.b1/\p≠h.a9.g.b3:=by grind[gv]
def bf.freeS{h:ac}{E:List Int}{a:Int}{i:Nat}(f:bf h (a::E))(b:i<h.H.length)(g:gk (nth h.H i) a):bf (freeS h i a) E:=by
 have c:=f.give b g;unfold Ab.freeS;split
 ·rename_i e
  have d:nth (clrS h i a).H i=lW (nth h.H i) (eg (nth h.H i) a):=by unfold clrS;simp only[cY,true_and];rw[CJ b]
  obtain⟨o,j,k⟩:=bf.giveSpan (h:=clrS h i a) c (i:=i) (by unfold clrS;simp only[O2];exact b) (by rw[d];exact e.1) (λl=>by rw[d];exact Uj e.2 l);unfold giveP;rw[j];exact k
 exact c
theorem bf.freeA{h:ac}{E:List Int}{a:Int}(b:bf h (a::E)):bf (freeA h a) E:=by
 obtain⟨c,d,-⟩:=b.at (b.hin a ψ);exact b.freeS c d
variable{c:aD}
theorem qz(h:bB c=true):c.X.length=4:=by grind[bB]
theorem bf.recyc{h:ac}{E:List Int}{a:Int}{t:Nat}(b:bf h (a::E))(f:t<h.Q.length):bf (recyc t h a) E:=by
 obtain⟨g,i,-⟩:=b.at (b.hin a ψ);unfold Ab.recyc;split
 ·rename_i c d
  unfold cput at d;split at d
  ·rename_i e
   cases d;obtain⟨j,l,n,k⟩:=e;exact b.put f (by rw[qz j];omega) ⟨_,ax g,i,.inr ω⟩ k
  cases d
 exact b.freeA
def Bb(h:ac)(i:Nat)(a:Int):(freeS h i a).Q=h.Q/\(freeS h i a).K=h.K/\(freeS h i a).G.b=h.G.b/\(freeS h i a).q=h.q/\(freeS h i a).a9=h.a9/\(freeS h i a).b2=h.b2/\(freeS h i a).a4=h.a4/\(freeS h i a).G.d=h.G.d:=by
 unfold freeS;split
 ·obtain⟨-,b,c⟩:=t8 (clrS h i a).G (nth (clrS h i a).H i).S
  exact⟨rfl,rfl,b,rfl,rfl,rfl,rfl,c⟩
 exact⟨rfl,rfl,rfl,rfl,rfl,rfl,rfl,rfl⟩
theorem tz(t:Nat)(h:ac)(a:Int):(recyc t h a).Q.length=h.Q.length/\(recyc t h a).K=h.K/\(recyc t h a).G.b=h.G.b/\(recyc t h a).q=h.q/\(recyc t h a).a9=h.a9/\(recyc t h a).b2=h.b2/\(recyc t h a).a4=h.a4/\(recyc t h a).G.d=h.G.d:=by
 unfold recyc;split
 ·grind
 obtain⟨b,c⟩:=Bb h (yF h a) a;exact⟨I1 _ b,c⟩
def recycs(t:Nat)(h:ac)(az:List Int):ac:=az.foldl (recyc t) h
theorem fQ(t:Nat):∀(az:List Int)(h:ac),(recycs t h az).Q.length=h.Q.length/\(recycs t h az).K=h.K/\(recycs t h az).G.b=h.G.b/\(recycs t h az).q=h.q/\(recycs t h az).a9=h.a9/\(recycs t h az).b2=h.b2/\(recycs t h az).a4=h.a4/\(recycs t h az).G.d=h.G.d
 | [],h=>⟨rfl,rfl,rfl,rfl,rfl,rfl,rfl,rfl⟩
 | a::az,h=>by
  obtain⟨b,c,d,e,f,g,i,j⟩:=fQ t az (recyc t h a);obtain⟨k,l,n,o,p,q,r,u⟩:=tz t h a;exact⟨b.trans k,c.trans l,d.trans n,e.trans o,f.trans p,g.trans q,i.trans r,j.trans u⟩
theorem bf.recycs{t:Nat}{E:List Int} : ∀{az:List Int}{h:ac},bf h (az++E)->t<h.Q.length->bf (recycs t h az) E
 | [],h,b,_=>b
 | a::az,h,b,c=>bf.recycs (az:=az) (h:=Ab.recyc t h a) (b.recyc c) (by grind[tz])
def qc(l:List aO):Int:=quarCells l l.length
def jx(room:Int):List aO->Nat
 | []=>0
 | x::xs=>if room<qc (x::xs) then jx room xs+1 else 0
def Q3(q:bz)(x:aO):bz:=⟨q.c0,(q.a0++[x]).drop (jx q.c0 (q.a0++[x]))⟩
def wT(q:bz)(x:aO):List aO:=(q.a0++[x]).take (jx q.c0 (q.a0++[x]))
def AX(room:Int):∀l,jx room l<=l.length
 | []=>O5 _
 | x::xs=>by unfold jx;split;(have:=AX room xs;simp only[List.length_cons];omega);omega
theorem yY{room:Int}(a:0<=room):∀l:List aO,qc (l.drop (jx room l))<=room
 | []=>a
 | x::xs=>by
  unfold jx;split
  ·exact yY a xs
  grind
theorem wq{room:Int} : ∀{l:List aO}{k:Nat},k<jx room l->room<qc (l.drop k)
 | [],k,h=>by cases h
 | x::xs,0,h=>by grind[jx]
 | x::xs,k+1,h=>by
  unfold jx at h;split at h
  ·exact wq (l:=xs) ω
  omega
theorem iQ{q:bz} : gj q=true↔(∀x∈q.a0,0<=x.a/\x.a<=3/\0<=x.U/\0<=x.b7)/\(q.a0.Pairwise λa b=>a.b7<=b.b7)/\(q.a0.map (·.U)).Nodup/\0<=q.c0/\q.c0<=500/\qc q.a0<=q.c0:=by
 refine Iff.trans ?_ (and_congr Iff.rfl (and_congr (yX (λa b:Int=>a<=b) ω (λs:aO=>s.b7) q.a0) (and_congr (Fb (λs:aO=>s.U) q.a0) Iff.rfl)));unfold gj qc
 grind[cI,List.any_eq_false,b9,ax,lN,fg]
theorem Vo{q:bz}{x:aO}(h:gj q=true)(e:0<=x.a/\x.a<=3/\0<=x.U/\0<=x.b7)(f:∀y∈q.a0,y.b7<=x.b7)(g:∀y∈q.a0,y.U≠x.U):gj (Q3 q x)=true:=by
 obtain⟨i,j,k,c,d,l⟩:=iQ.1 h;have a:(Q3 q x).a0.Sublist (q.a0++[x]):=List.drop_sublist ..;refine iQ.2 ⟨λy b=>?_,List.Pairwise.sublist a ?_,List.Nodup.sublist (a.map _) ?_,c,d,yY c _⟩
 ·rcases I5.1 (a.subset b) with b|b
  all_goals grind
 ·grind
 grind
def jq(r:List Int)(o:Nat):Nat->List Int
 | 0=>r
 | n+1=>(jq r o n).set (o+n) 0
def fe(k:ah)(a:Int):Nat:=(au k.F.O (a / 16)).j.toNat
def eM(k:ah)(a:Int)(n:Nat):ah:={k with F:=⟨⟨k.F.W.V.set (fe k a) (jq (nth k.F.W.V (fe k a)) (a % 16).toNat n),k.F.W.a5⟩,k.F.O⟩}
theorem oA(r:List Int)(o:Nat):∀n,(jq r o n).length=r.length
 | 0=>rfl
 | n+1=>by unfold jq;rw[O2,oA r o n]
def Fk{r:List Int}{o:Nat} : ∀{n:Nat}{v:Int},v∈jq r o n->v∈r\/v=0
 | 0,v,h=>.inl h
 | n+1,v,h=>by
  rcases SC h with h|h
  ·exact Fk h
  exact .inr h
theorem KD(h:aG k=true)(a:Int)(n:Nat):aG (eM k a n)=true:=by
 obtain⟨g,i,l,o,p⟩:=aF.1 h;obtain⟨q,r,t,c⟩:=aT.1 i;refine aF.2 ⟨g,aT.2 ⟨?_,?_,?_,λj b=>?_⟩,l,o,p⟩
 ·grind[eM]
 ·grind[eM]
 ·grind[eM]
 simp only[eM,O2]at b |-;simp only[cY];split
 ·rename_i e
  have d:=c j b;unfold iU at d |-;simp only[I0,C0,S7]at d |-;rw[e.1]at *;refine⟨by grind[oA],λv f=>?_⟩;rcases Fk f with f|rfl
  all_goals grind[jz]
 exact c j b
def u7(h:ac)(a:Int):Nat:=(h.J.findIdx? λl=>decide (l.S*16=a)).getD 0
def freeL(h:ac)(i k:Nat):ac:={h with G:=dE h.G (nth h.J k).S (nth h.J k).a2.toNat,J:=dele h.J k,e:=(cm (fk h) h.e ⟨(nth h.J k).S,(nth h.J k).a2⟩).getD h.e,K:=dele h.K i}
def jN(h:ac)(o:bc):aO:=⟨o.U,aP o.k,h.b2⟩
def inQuar(h:ac)(i:Nat):ac:={h with G:=eM h.G (nth h.K i).U (csz (aP (nth h.K i).k)).toNat,K:=dele h.K i,a4:=Q3 h.a4 (jN h (nth h.K i))}
def Po(h:ac)(t i:Nat):ac:=recycs t (inQuar h i) ((wT h.a4 (jN h (nth h.K i))).map (·.U))
def freeOb(h:ac)(t i:Nat):ac × Int:=
 if aP (nth h.K i).k<0 then(freeL h i (u7 h (nth h.K i).U),0)
 else if(au (tbl h) ((nth h.K i).U / 16)).y=1 then(h,5)
 else(Po h t i,0)
theorem vz{l:aB}(n:l∈h.J)(e:a=16*l.S):u7 h a<h.J.length/\a=16*(nth h.J (u7 h a)).S/\(∀j,j<u7 h a->(nth h.J j).S*16≠a)/\h.J.findIdx? (λl=>decide (l.S*16=a))=some (u7 h a):=by
 cases c:h.J.findIdx? λl=>decide (l.S*16=a) with
 | none=>
  grind
 | some k=>
  obtain⟨b,d,f⟩:=SD.1 c;have g:u7 h a=k:=by grind[u7]
  rw[g];rw[<-bk (Z3 b),C0]at d;refine⟨b,ω,λj i=>?_,rfl⟩;have:=f j i;rw[<-bk (Z3 (show j<h.J.length by omega))]at this;simpa using this
theorem eE(a:bf h E){o:bc}(f:o∈h.K):(aP o.k<0->YR h.J o.U o.k)/\(¬aP o.k<0->(∃s∈h.H,gk s o.U/\s.a=aP o.k)/\aP o.k<=3):=by
 rcases a.oow o f with⟨s,g,b,c⟩|⟨l,d,b,c⟩
 ·have i:=aJ (a.L.sok s g)
  grind
 have j:=cL (a.L.lok l d);refine⟨λ_=>⟨l,d,b,c⟩,λe=>absurd ?_ e⟩
 grind[aP]
theorem bf.inQuar{h:ac}{i:Nat}(a:bf h [])(g:i<h.K.length)(r:¬aP (nth h.K i).k<0):bf (inQuar h i) ((wT h.a4 (jN h (nth h.K i))).map (·.U)):=by
 obtain⟨⟨s,j,l,t⟩,u⟩:=(eE a (ax g)).2 r;have b:jZ h.H (nth h.K i).U (aP (nth h.K i).k):=⟨s,j,l,.inr t⟩
 have c:=a.nums;unfold ch at c;rw[C0]at c;have w:=aJ (a.L.sok s j);have n:=a.dropO g b.any;have A:=n.cells (k:=eM h.G (nth h.K i).U (csz (aP (nth h.K i).k)).toNat) (KD a.ker _ _) rfl;have d:∀y∈h.a4.a0,y.U≠(nth h.K i).U:=λy o e=>by
  have f:=n.nd;rw[List.cons_append,List.nil_append]at f
  grind[holders]
 have p:=bf.toQuar (x:=jN h (nth h.K i)) (q:=Q3 h.a4 (jN h (nth h.K i))) (out:=wT h.a4 (jN h (nth h.K i))) A (Vo a.quar ⟨by show 0<=aP _;omega,u,by show 0<=(nth h.K i).U;have:=l.1;omega,c.2.2.1⟩ (λy o=>a.snc y o) d) (by grind[List.take_append_drop,wT,Q3]) (Z9 _) b;rw[List.append_nil]at p;exact p
theorem bf.freeOb{h:ac}{t i:Nat}(a:bf h [])(c:i<h.K.length)(e:t<h.Q.length):bf (freeOb h t i).1 []:=by
 unfold Ab.freeOb;split
 ·rename_i b
  obtain⟨l,f,d,-⟩:=(eE a (ax c)).1 b;obtain⟨g,j,-⟩:=vz f d
  grind[bf.dropL,freeL]
 rename_i b;split
 ·exact a
 have d:=a.inQuar c b;refine bf.recycs (E:=[]) ?_ e
 grind
theorem Pk:∀{H L:List Int},H.Nodup->(∀x∈H,x∈L)->H.length<=L.length
 | [],L,_,_=>C1 _
 | y::H,L,b,c=>by
  have d:y∈L:=ψ
  have a:=List.nodup_cons.1 b;have:=Pk (L:=L.erase y) a.2 ψ
  grind
theorem Ay{H:List Int}(a:H.Nodup)(b:∀x∈H,0<=x/\x<n):H.length<=n:=by
 have:=Pk (L:=(List.range n).map λ(i:Nat)=>(i:Int)) a λx c=>O8.2 ⟨x.toNat,List.mem_range.2 ψ,ψ⟩
 simpa using this
theorem gR{f:α->Int}{xs:List α}(h:xs.Pairwise λa b=>f a<f b):(xs.map f).Nodup:=ψ
theorem TB:∀(b:List (List Int))(k:Nat)(s:List Int),(iG k s b).isSome=true->∀l∈b,l.length<=8
 | [],_,_,_,l,a=>by cases a
 | x::b,k,s,h,l,a=>by
  simp only[iG]at h;cases e:fW k s x with
  | none=>grind
  | some c=>
   rw[e]at h;rcases List.mem_cons.1 a with rfl|a
   ·grind[fW]
   exact TB b (k+1) c h l a
theorem dZ(h:bB c=true):c.X.length=4/\∀l∈c.X,l.length<=8:=by grind[TB,bB]
structure qw(h:ac):Prop where
 cells:h.G.F.W.V.length<=32
 row:∀r∈h.G.F.W.V,r.length=16
 used:h.G.F.W.a5.length<=32
 ents:h.G.F.O.M.length<=32
 ref:h.G.d.length<=40
 free:h.e.length<=32
 spans:h.H.length<=32
 larges:h.J.length<=32
 objs:h.K.length<=512
 caches:h.Q.length<=4
 lists:∀c∈h.Q,c.X.length=4/\∀l∈c.X,l.length<=8
 quar:h.a4.a0.length<=512
def jZ.bd(b:bf h E){c:Int}(d:jZ h.H a c):0<=a/\a<512:=by
 obtain⟨s,e,⟨f,g,-⟩,-⟩:=d;have i:=aJ (b.L.sok s e);omega
theorem bf.lens(a:bf h E):qw h:=by
 obtain⟨G,k,p,J,K,M,q⟩:=aF.1 a.ker;obtain⟨N,t,O,P⟩:=aT.1 k;obtain⟨Q,R,u⟩:=bt.1 p;obtain⟨w,S,T⟩:=gF.1 a.rng;obtain⟨U,V,A,W⟩:=iQ.1 a.quar;have g:=a.mail;unfold bE at g;simp only[I0,C0]at g;have B:=a.nc;refine⟨t,λr i=>?_,ω,u,q,?_,?_,?_,?_,ω,λc C=>dZ (a.cach c C),?_⟩
 ·obtain⟨j,X,rfl⟩:=b9 i
  grind[iU]
 ·have:=Ay (H:=h.e.map (·.At)) (n:=32) (gR (w.1.imp_of_mem ψ)) λx b=>by
   obtain⟨r,i,rfl⟩:=O8.1 b
   grind
  simpa using this
 ·have:=Ay (H:=h.H.map (·.S)) (n:=32) a.L.nd λx b=>by
   obtain⟨s,d,rfl⟩:=O8.1 b;have:=aJ (a.L.sok s d);omega
  simpa using this
 ·have:=Ay (H:=h.J.map (·.S)) (n:=32) (gR a.srl) λx b=>by
   obtain⟨l,f,rfl⟩:=O8.1 b;have:=aV (a.L.lok l f);omega
  simpa using this
 ·have:=Ay (H:=h.K.map (·.U)) (n:=512) (gR a.osr) λx b=>by
   obtain⟨o,D,rfl⟩:=O8.1 b;rcases a.oow o D with⟨s,d,⟨Y,Z,-⟩,-⟩|⟨l,f,e,-⟩
   ·have:=aJ (a.L.sok s d);omega
   have:=aV (a.L.lok l f);omega
  simpa using this
 have:=Ay (H:=h.a4.a0.map (·.U)) (n:=512) A λx b=>by
  obtain⟨y,F,rfl⟩:=O8.1 b;exact(a.hqu y F).bd a
 simpa using this
theorem qw.sml(a:qw h)(b:aG h.G=true)(d:aL.sml h.q)(e:cH.sml h.a9):ac.sml h:=
 ⟨aX b,⟨by grind[qw.free],λ_ _=>tV1⟩,⟨by grind[qw.spans],λ_ _=>tV1⟩,⟨by grind[qw.larges],λ_ _=>tV1⟩,⟨by grind[qw.objs],λ_ _=>tV1⟩,⟨by grind[qw.caches],λc f=>⟨by grind[qw.lists],λl g=>by have:=(a.lists c f).2 l g;show l.length<=1048576;omega⟩⟩,d,⟨by grind[qw.quar],λ_ _=>tV1⟩,e⟩
def jc(a:Int)(o:bc):Bool:=decide (o.U=a)
def kb(h:ac)(a:Int):Nat:=(cu (jc a) h.K).toNat
theorem bf.objAt(g:bf h E){o:bc}(k:o∈h.K):kb h o.U<h.K.length/\nth h.K (kb h o.U)=o/\cu (jc o.U) h.K=(kb h o.U:Nat):=by
 obtain⟨i,c,rfl⟩:=b9 k;have l:cu (jc (nth h.K i).U) h.K=(i:Nat):=dJ (ar c) (by unfold jc;simp) λj z n d=>by
  have a:=bk d;have b:=(C4.1 d).1;subst a;unfold jc;refine Z0 λe=>?_
  have:=hJ (f:=(·.U)) (gR g.osr) b c e;omega
 grind[kb]
theorem rG(k:ah)(p:Int)(n:Nat):(dE k p n).b=k.b/\(dE k p n).d=k.d:=(gM k p n).2
def Ub(y:aC)(a:List aC):dA [] (y::a)=dA [y] a:=by rw[dA];rfl
theorem KZ[Inhabited α]{xs:List α}(h:xs≠[]):xs.getLast? = some (nth xs (xs.length - 1)):=by grind[List.length_pos_iff,ar]
theorem Te{xs:List α}(h:xs≠[])(v:α):xs.dropLast++[v]=xs.set (xs.length - 1) v:=by
 have a:0<xs.length:=ψ
 refine List.ext_getElem kd λi b c=>?_
 grind
theorem Ux{a:List aC}(h:out≠[])(e:(nth out (out.length - 1)).At+(nth out (out.length - 1)).a6=y.At):dA out (y::a)=dA (out.set (out.length - 1) ⟨(nth out (out.length - 1)).At,(nth out (out.length - 1)).a6+y.a6⟩) a:=by grind[KZ,Te,dA]
theorem VC{a:List aC}(h:out≠[])(e:¬(nth out (out.length - 1)).At+(nth out (out.length - 1)).a6=y.At):dA out (y::a)=dA (out++[y]) a:=by grind[KZ,dA]
theorem v7(xs:List aC)(w:xs.length<=4194304)(n:∀y∈xs,0<=y.At/\1<=y.a6/\y.At+y.a6<=1048576):zzA 296 false [.val none (bw .R xs)] .one (bw .own (dA [] xs)):=by
 refine fO 63 [ρ 6 21 15,ρ 7 15 38] Tryz.func296 rfl ?_ (.inr (jp _))
 refine σP ?_
 refine lE (ι:=Nat × List aC) (λq=>[(0,bK (bw .R xs)),(3,bK (bw .own q.2)),(4,fN (q.1))]) (λq=>q.1<=xs.length/\dA q.2 (xs.drop q.1)=dA [] xs/\q.2.length<=q.1/\∀y∈q.2,0<=y.At/\1<=y.a6/\y.At+y.a6<=1048576) (λq=>xs.length - q.1) ((0,[])) ψ λq o=>?_
 obtain⟨i,out⟩:=q;obtain⟨p,a,g,b⟩:=o;simp only at p a g b |-;by_cases h:i<xs.length
 ·have j:=ar h
  have B:=n _ (ax h);rw[gn h]at a;by_cases k:out=[]
  ·subst k
   rw[Ub]at a;have D:([]:List aC).length=0:=rfl
   repeat'(first|refine gE ?_|apply CV (show List.length _=0 from rfl)|refine Cf (λr t=>by cases t) rfl ϕ qs rfl ?_)
   ((conv=>whnf)
    refine CP (i+1,[nth xs i]) ψ τ ?_
    (exact wR))
  have l:0<out.length:=ψ
  have d:out[((out.length:Int) - 1).toNat]? = some (nth out (out.length - 1)):=by
   rw[show((out.length:Int) - 1).toNat=out.length - 1 by omega];grind[ar]
  have u:=b _ (ax (xs:=out) (i:=out.length - 1) ω);by_cases e:(nth out (out.length - 1)).At+(nth out (out.length - 1)).a6=(nth xs i).At
  ·rw[Ux k e]at a
   repeat'(first|refine gB ?_|refine CO ω (aa d) ?_|refine CS rfl rfl (aa d) rfl δ rfl ?_)
   ((conv=>whnf)
    refine CP (i+1,out.set (out.length - 1) ⟨(nth out (out.length - 1)).At,(nth out (out.length - 1)).a6+(nth xs i).a6⟩) ⟨τ,a,ψ,(λy c=>?_)⟩ τ ?_)
   ·rcases SC c with c|rfl
    ·exact b y c
    simp only;omega
   (repeat'(first|exact tV1|rfl|exact CQ rfl (CQ (I1 (C.s ek.own) (by rw[show((out.length:Int) - 1).toNat=out.length - 1 by omega,CC];rfl)) tV1)|refine CQ ?_ ?_))
  rw[VC k e]at a
  repeat'(first|refine gB ?_|refine CO ω (aa d) ?_|refine Cf (aI λ_=>rfl) rfl kd qs rfl ?_)
  ((conv=>whnf)
   refine CP (i+1,out++[nth xs i]) ⟨τ,a,kd,(λy c=>?_)⟩ τ ?_)
  ·rcases I5.1 c with c|c
   all_goals simp_all
  (exact wR)
 obtain rfl:i=xs.length:=ω
 rw[List.drop_length]at a
 refine σE ?_
 rw[<-a];rfl
def E6(r y:aC)(a:List aC)(put:Bool):oe r (y::a) put=if ovl y r then none else if !put&&decide (y.At > r.At) then(oe r a true).map λt=>r::y::t else(oe r a put).map λt=>y::t:=by rw[oe]
theorem od(pages:Int)(xs:List aC)(r:aC)(D:0<=pages/\pages<=1048576)(E:gC xs):zzA 212 false [.vI pages,.val none (bw .R xs),.val (some 2) (aC.enc .R r)] (.tup [none,none]) (GD xs (cm pages xs r)):=by
 have o:=E.1;have j:=nN pages xs D E;have p:=zn pages r D;cases k:bJ pages xs<;>rw[k]at j
 ·rw[show cm pages xs r=none by unfold cm;rw[CI (by rw[k];simp)]]
  refine fO 82 [] Tryz.func212 rfl ?_ (.inr (mh _ _))
  repeat'(first|refine gP ?_|refine CX (λ_=>rfl) (λ_=>rfl) o qs ?_)
  rfl
 cases u:rangeIn pages r<;>rw[u]at p
 ·rw[show cm pages xs r=none by unfold cm;rw[CI (by rw[u];simp)]]
  refine fO 82 [] Tryz.func212 rfl ?_ (.inr (mh _ _))
  repeat'(first|refine gP ?_|refine CX (λ_=>rfl) (λ_=>rfl) o qs ?_)
  rfl
 obtain⟨F,G⟩:=vM k;have l:0<=r.At/\1<=r.a6/\r.At+r.a6<=pages:=by grind[rangeIn]
 rw[show cm pages xs r=(oe r xs false).map (dA []) by unfold cm;rw[CJ ⟨k,u⟩,EU (pages:=pages) F l.2.1 ψ]];refine fO 82 [] Tryz.func212 rfl ?_ (.inr (mh _ _))
 repeat'(first|refine gP ?_|refine CX (λ_=>rfl) (λ_=>rfl) o qs ?_)
 refine lE (ι:=Nat × List aC × Bool) (λq=>[(1,bK (bw .R xs)),(5,bF (aC.enc .R r)),(8,bK (bw .own xs)),(9,bK (bw .own q.2.1)),(10,fB (q.2.2)),(11,fN (q.1))]) (λq=>q.1<=xs.length/\(oe r (xs.drop q.1) q.2.2).map (q.2.1++·)=oe r xs false/\q.2.1.length<=q.1+q.2.2.toNat/\(∀y∈q.2.1,0<=y.At/\1<=y.a6/\y.At+y.a6<=1048576)) (λq=>xs.length - q.1) ((0,[],false)) (⟨C1 _,by simp,by simp,by simp⟩) λq d=>?_
 obtain⟨i,out,put⟩:=q;obtain⟨H,b,c,e⟩:=d;simp only at H b c e |-;have J:0<=r.At/\1<=r.a6/\r.At+r.a6<=1048576:=ω
 by_cases w:i<xs.length
 ·have n:=ar w
  have K:=G _ (ax w);have B:0<=(nth xs i).At/\1<=(nth xs i).a6/\(nth xs i).At+(nth xs i).a6<=1048576:=ω
  rw[gn w]at b;by_cases h:ovl (nth xs i) r=true
  ·rw[<-b]
   rw[E6,CJ h];unfold ovl at h;rw[C0]at h
   repeat'(first|refine gE ?_|refine gS (λd=>?_) (λd=>?_)|fail)
   rfl
  rw[E6,CI h]at b;unfold ovl at h;rw[C0]at h;cases put with
  | false=>
   have c:out.length<=i:=by simpa using c
   by_cases L:(nth xs i).At > r.At
   ·rw[CJ kd,Option.map_map]at b
    repeat'(first|refine gE ?_|refine gS (λd=>?_) (λd=>?_)|refine Cf (aI λ_=>rfl) rfl kd qs rfl ?_|refine Cf (λr l=>by simp at l;rcases l with⟨a,_,rfl⟩|rfl<;>rfl) rfl kd qs rfl ?_)
    ((conv=>whnf)
     refine CP (i+1,out++[r,nth xs i],true) ⟨τ,(by rw[<-b];congr 1;funext t;simp),kd,(λy g=>?_)⟩ τ ?_)
    ·grind
    (exact wR)
   rw[CI kd,Option.map_map]at b
   repeat'(first|refine gE ?_|refine gS (λd=>?_) (λd=>?_)|refine Cf (aI λ_=>rfl) rfl kd qs rfl ?_)
   ((conv=>whnf)
    refine CP (i+1,out++[nth xs i],false) ⟨τ,(by rw[<-b];congr 1;funext t;simp),kd,(λy g=>?_)⟩ τ ?_)
   ·grind
   (exact wR)
  | true=>
   have c:out.length<=i+1:=c;rw[CI ϕ,Option.map_map]at b;by_cases M:(nth xs i).At<r.At+r.a6
   all_goals
    repeat'(first|refine gE ?_|refine gS (λd=>?_) (λd=>?_)|refine Cf (aI λ_=>rfl) rfl kd qs rfl ?_)
    ((conv=>whnf)
     refine CP (i+1,out++[nth xs i],true) ⟨τ,(by rw[<-b];congr 1;funext t;simp),kd,(λy g=>?_)⟩ τ ?_)
    ·rcases I5.1 g with g|g
     ·exact e y g
     rw[I2.1 g];exact B
    (exact wR)
 obtain rfl:i=xs.length:=ω
 rw[List.drop_length]at b;cases put with
 | false=>
  have c:out.length<=xs.length:=by simpa using c
  rw[<-b];have C:=v7 (out++[r]) kd ψ
  repeat'(first|refine gE ?_|refine Cf (aI λ_=>rfl) rfl kd qs (show(out++[r]).map (aC.enc .own)=_ by simp[aC.enc]) ?_|refine CL (C) ⟨⟨rfl,ef _⟩,tV1⟩ ?_)
  rfl
 | true=>
  have c:out.length<=xs.length+1:=c;rw[<-b];have C:=v7 out ω e
  repeat'(first|refine gE ?_|refine CL (C) ⟨⟨rfl,ef _⟩,tV1⟩ ?_)
  simp[oe,GD]
  rfl
theorem shl64{i:Int}(a:0<=i/\i<=15):IntKind.i64.wrap (1*2 ^ min i.toNat IntKind.i64.bits)=2 ^ i.toNat/\0<=(2:Int) ^ i.toNat/\(2:Int) ^ i.toNat<=32768:=by
 have b:min i.toNat IntKind.i64.bits=i.toNat:=Nat.min_eq_left (show i.toNat<=64 by omega);have c:(0:Int)<=2 ^ i.toNat/\(2:Int) ^ i.toNat<=32768:=by
  have:(2:Nat) ^ i.toNat<=2 ^ 15:=Nat.pow_le_pow_right qs ω
  grind
 grind[fH]
theorem clr64{i:Int}(a:0<=b/\b<=65535):IntKind.i64.wrap ((BitVec.ofInt IntKind.i64.bits b &&& ~~~BitVec.ofInt IntKind.i64.bits (2 ^ i.toNat)).toNat:Nat)=Aj b i:=by
 have:=GB (i:=i) a
 grind[fH,Aj]
theorem ww(b i:Int)(c:0<=b/\b<=65535)(d:0<=i/\i<=15):zzA 297 false [.vI b,.vI i] .one [I (Aj b i)]:=by
 have a:=sg b i;rw[O0 ω]at a;have e:IntKind.u64.wrap i=i:=by grind[Go.IntKind.wrap,Go.IntKind.bits]
 refine fO 15 [] Tryz.func297 rfl ?_
 repeat'(first|refine gP ?_|refine CT ω ?_|apply CR e|apply CR (shl64 d).1|apply CR (clr64 c))
 rfl
def wV(b i:Int)(c:0<=b/\b<=65535)(d:0<=i/\i<=15):zzA 386 false [.vI b,.vI i] .one [I (Aj b i)]:=by
 have a:=rJ b i;rw[O0 ω]at a;refine fO 14 [] Tryz.func386 rfl ?_
 repeat'(first|refine gP ?_|refine CT ω ?_|apply CR (shl64 d).1|apply CR (clr64 c))
 rfl
theorem N3{k:Int}(a:bg s.b0 k=true):0<=k/\k<=15:=by grind[kU]
def Dr(s:a8)(k:Int)(a:bh s=true)(b:bg s.b0 k=true):zzA 217 false [.val (some 3) (a8.enc .R s),.vI k] (.tup [some 3,none]) (a8.enc .own (lW s k)++[B true]):=by
 have e:=eA a;have g:=N3 b;have c:=iw s;have d:=jy s.b0 k ω;rw[a]at c;rw[b]at d;refine fO 23 [] Tryz.func217 rfl ?_ (.inr (ay (a8.enc_fr _) ⟨tV1,tV1⟩))
 repeat'(first|refine gP ?_|apply CF (ww s.b0 k e g))
 rfl
def DA(s:a8)(k:Int)(a:bh s=true)(b:bg s.b0 k=true):zzA 344 false [.val (some 3) (a8.enc .R s),.vI k] (.tup [some 3,none]) (a8.enc .own (lW s k)++[B true]):=by
 have e:=eA a;have g:=N3 b;have c:=ir s;have d:=iB s.b0 k ω;rw[a]at c;rw[b]at d;refine fO 23 [] Tryz.func344 rfl ?_ (.inr (ay (a8.enc_fr _) ⟨tV1,tV1⟩))
 repeat'(first|refine gP ?_|apply CF (wV s.b0 k e g))
 rfl
def BH(c:aD)(k:Int)(b:aD.sml c):zzA 284 false [.val (some 1) (aD.enc .R c),.vI k] .one [B (bB c&&decide (0<=k/\k<=3))]:=by
 have a:=pU c b;cases e:bB c<;>rw[e]at a
 all_goals
  refine fO 11 [] Tryz.func284 rfl ?_
  repeat'(first|refine gP ?_|apply CF (aK k 0 3))
  all_goals rfl
def tY(c:aD)(k:Int)(a:aD.sml c):zzA 343 false [.val (some 1) (aD.enc .R c),.vI k] .one [B (decide (0<=k/\k<=3)&&bB c)]:=by
 have b:=p9 c a;refine fO 11 [] Tryz.func343 rfl ?_
 repeat'(first|refine gP ?_|refine gS (λd=>?_) (λd=>?_)|apply CF (gc k))
 all_goals exact bY ((by simp[*]))
def mb{k:Nat}(a:k<c.X.length):c.X[k]? = some (nth c.X k):=ar a
theorem KC(h:bB c=true)(k:Nat)(a:Int):aD.sml (mN c k a):=by
 obtain⟨e,d⟩:=dZ h;refine⟨by grind[mN],λl b=>?_⟩;rcases SC b with b|rfl
 ·have:=d l b;show l.length<=1048576;omega
 show(nth c.X k++[a]).length<=1048576;by_cases f:k<c.X.length
 ·grind[ax]
 have:nth c.X k=[]:=by unfold nth;rw[O4,I4 ω];rfl
 rw[this];simp
theorem zS(c:aD)(k:Nat)(a:Int):aD.enc .own (mN c k a)=[.s .own ((c.X.map (aE .own)).set k (aE .own (nth c.X k++[a])))]:=by grind[CC,aD.enc,mN]
theorem cn{f:α->List C}{xs:List α}{k:Nat}{y:α}{r:List C}(h:xs[k]? = some y):((xs.map f).set k r)[k]? = some r:=ψ
def en{β:Type}(f:α->β)(xs:List α)(y:α):(xs++[y]).map f=xs.map f++[f y]:=by simp
def BO(c:aD)(k a:Int):List C:=aD.enc .own ((cput c k a).getD c)++[B (cput c k a).isSome]
def Jo(c:aD)(k a:Int):fy (BO c k a):=ay (Cr _) ⟨tV1,tV1⟩
theorem D1(c:aD)(k:Nat)(a:Int)(j:bB c=true)(B:k<=3):zzA 295 false [.val (some 1) (aD.enc .R c),.vI (k:Nat),.vI a] (.tup [some 1,none]) (BO c k a):=by
 obtain⟨D,q⟩:=dZ j;have r:aD.sml c:=⟨ω,λl u=>by have:=q l u;show l.length<=1048576;omega⟩
 have n:=BH c k r;rw[j,O0 ω]at n;have t:=jC c r;have d:=KC j k a;have o:=pU (mN c k a) d;have w:=jC (mN c k a) d;have b:=mb (c:=c) (k:=k) ω;have y:=q _ (ax (xs:=c.X) (i:=k) ω);have h:=Co (mN c k a);rw[zS]at h;have g:=Jo c k a;unfold BO at g |-;cases e:bB (mN c k a)<;>rw[e]at o
 ·have p:cput c k a=none:=by grind[cput]
  rw[p]at g |-;refine fO 35 [ςg] Tryz.func295 rfl ?_ (.inr g)
  repeat'(first|refine gP ?_|apply CH (cn b)|apply CK rfl (cn b) rfl|refine Lq.one rfl rfl (aa b) rfl δ rfl rfl ?_|refine CS rfl rfl (cn b) rfl δ (show [C.s ek.own ((c.X.map (aE .own)).set k (aE .own (nth c.X k++[a])))]=_ from by simp only[List.set_cons_zero,List.set_set,Z4];rfl) ?_|refine Cf (aI λ_=>rfl) rfl kd qs (en _ _ _) ?_|refine CL (o) ⟨⟨rfl,h⟩,tV1⟩ ?_)
  rfl
 have p:cput c k a=some (mN c k a):=by grind[cput]
 rw[p]at g |-;refine fO 35 [ςg] Tryz.func295 rfl ?_ (.inr g)
 repeat'(first|refine gP ?_|apply CH (cn b)|apply CK rfl (cn b) rfl|refine Lq.one rfl rfl (aa b) rfl δ rfl rfl ?_|refine CS rfl rfl (cn b) rfl δ (show [C.s ek.own ((c.X.map (aE .own)).set k (aE .own (nth c.X k++[a])))]=_ from by simp only[List.set_cons_zero,List.set_set,Z4];rfl) ?_|refine Cf (aI λ_=>rfl) rfl kd qs (en _ _ _) ?_|refine CL (o) ⟨⟨rfl,h⟩,tV1⟩ ?_|refine CL (w) ⟨⟨rfl,h⟩,tV1⟩ ?_)
 rfl
theorem Jw(o:bc)(a:Int):zzA 379 false [.val (some 4) (bc.enc .R o),.ptr [I a]] .one [B (jc a o)]:=by
 refine fO 8 [] Tryz.func379 rfl ?_
 refine σP ?_
 grind[jc]
def tj(h:ac)(a:Int)(c:h.K.length<=1048576):zzA 325 false [ν h,.vI a] .one [I (cu (jc a) h.K)]:=by
 refine fO 9 [] Tryz.func325 rfl ?_
 repeat'(first|refine gP ?_|refine Cq.mk (qj (some 4) (bc.enc .R) (jc a) h.K) (Jw default a).has (λL k rcs b=>?_) ?_|refine CF (kJ h.K (jc a) ω) ?_)
 ·obtain⟨y,-,rfl,rfl,rfl⟩:=b
  exact Jw y a
 rfl
theorem l8(xs:List aB)(pr:aB->Bool)(g:xs.length<=9223372036854775807):zzA 328 false [.val none (cq .R xs),.fn (mS Tryz.prog (qj (some 3) (aB.enc .R) pr xs))] .one [I (cu pr xs)]:=by
 refine fO 19 [] Tryz.func328 rfl ?_
 refine σP ?_
 refine gl xs.length (λi=>[(0,bK (cq .R xs)),(1,.fv (mS Tryz.prog (qj (some 3) (aB.enc .R) pr xs))),(7,fI xs.length),(8,fN i)]) (λi=>∀(j:Nat)(z:aB),j<i->xs[j]? = some z->pr z=false) ψ λi b=>?_
 obtain⟨b,d⟩:=b;by_cases a:i<xs.length
 ·obtain⟨y,c⟩ : ∃y,xs[i]? = some y:=⟨_,Z3 a⟩
  repeat'(first|refine gE ?_|refine Fv.mk (k:=.one) (rcs:=[B (pr y)]) ⟨y,I3 c,rfl,rfl,rfl⟩ ?_|refine Bf.P (λe=>?_) (λe=>?_))
  ·grind[dJ]
  (conv=>whnf)
  exact cV (i+1) ψ
 refine σE ?_
 exact nr (f8 ω d).symm
def bO(x:ac):List C:=[.s .own (x.G.F.W.V.map (aE .own)),.s .own (x.G.F.W.a5.map (rB .own)),.s .own (x.G.F.O.M.map (bv.enc .own)),I x.G.b,.s .own (x.G.d.map (rI .own)),.s .own (x.e.map (aC.enc .own)),.s .own (x.H.map (a8.enc .own)),.s .own (x.J.map (aB.enc .own)),.s .own (x.K.map (bc.enc .own)),.s .own (x.Q.map (aD.enc .own)),.s .own (x.q.T.map (bL .own)),.s .own (x.q.w.map (aE .own)),I x.a4.c0,.s .own (x.a4.a0.map (aO.enc .own)),I x.c1,I x.b2,I x.c2,I x.o,B x.a3,I x.a9.g.b1,I x.a9.g.b3,.s .R (x.a9.g.V.map (rI .R)),I x.a9.b6,I x.a9.o]
def bS(x:ac):dw (bO x)=ac.enc .R x:=by simp[dw,bO,ac.enc,Co,bv.enc_fz,aB.enc_fz,bc.enc_fz,aC.enc_fz,a8.enc_fz,aO.enc_fz,rB,mi,rI,dX,<-bU,OB]
def zt(x:cH):List C:=[I x.g.b1,I x.g.b3,.s .R (x.g.V.map (rI .R)),I x.b6,I x.o]
theorem Pu.two{f a:List C}{off k g h b:Nat}{cs:List C}{K:List C->Prop}{o c:ek}{rows2:List (List C)}{r d:List C}(h1:f[off]? = some (.s o rows))(n:o.mine=true)(h2:rows[i]? = some r)(u:r.length=k)(w:r[j]? = some (.s c rows2))(p:c.mine=true)(y:rows2[g]? = some d)(A:d.length=h)(B:b+cs.length<=h)(D:a=f.set off (.s o (rows.set i (r.set j (.s c (rows2.set g (splice d b cs)))))))(q:K a):Pu f off [(i,k,j),(g,h,b)] cs K:=by
 have t:o≠.R:=λe=>by subst e;cases n
 have l:c≠.R:=λe=>by subst e;cases p
 refine Pu.mk (r:=d) (j:=b) (by grind[cr]) (by grind[lH]) ω (by grind[gh]) q
def Bc(x:List a8):fz (.s .own (x.map (a8.enc .own)))=.s .R (x.map (a8.enc .R)):=(List.cons.inj (eB x)).1
def xf(x:List aB):fz (.s .own (x.map (aB.enc .own)))=.s .R (x.map (aB.enc .R)):=(List.cons.inj (jo x)).1
def yN(x:List bc):fz (.s .own (x.map (bc.enc .own)))=.s .R (x.map (bc.enc .R)):=(List.cons.inj (PG x)).1
theorem Ap.dele{e:α->List C}{xs:List α}(h2:∀y,(e y).length=sz)(a:∀y,br (e y)=true)(g:xs.length<=1048576)(b:by_<=1000)(c:K ((Ab.dele xs i).map e)):Ap true ((xs.take i).map e) ((xs.drop (i+1)).map e) sz by_ K:=by
 have d:(xs.take i).length+(xs.drop (i+1)).length<=2097152:=ψ
 refine Cb (aI h2) (aI h2) (λ_ r f=>by obtain⟨y,-,rfl⟩:=O8.1 f;exact a y) (by rw[Z1,Z1];omega) (by rw[Z1,Z1];exact S9 (Nat.mul_le_mul d b) qs) ?_ c;unfold Ab.dele;rw[IB]
def QW(h:ac)(p:Int)(a:aM.sml h.G.F.O):zzA 292 false [.ptr (ac.enc .R h),.vI p] .one [I (au h.G.F.O p).y]:=by
 refine fO 13 [] Tryz.func292 rfl ?_
 repeat'(first|refine gP ?_|apply CF (cZ h.G.F.O p a))
 rfl
def Wa(h:ac):List C:=(bO h).drop 5
def XL(h:ac)(k:ah):bO {h with G:=k} = ah.enc .own k++Wa h:=rfl
def K8(h:ac):Wa h=[.s .own (h.e.map (aC.enc .own)),.s .own (h.H.map (a8.enc .own)),.s .own (h.J.map (aB.enc .own)),.s .own (h.K.map (bc.enc .own)),.s .own (h.Q.map (aD.enc .own)),.s .own (h.q.T.map (bL .own)),.s .own (h.q.w.map (aE .own)),I h.a4.c0,.s .own (h.a4.a0.map (aO.enc .own)),I h.c1,I h.b2,I h.c2,I h.o,B h.a3,I h.a9.g.b1,I h.a9.g.b3,.s .R (h.a9.g.V.map (rI .R)),I h.a9.b6,I h.a9.o]:=rfl
def Ql(h:ac)(f:Int)(a:aM.sml h.G.F.O)(b:0<=f/\f<h.G.F.W.V.length/\f<h.G.F.W.a5.length) :
  zzB 293 false [.ptr (bO h),.vI f] [.ptr (bO {h with G:=iJ h.G f}),.vI f] (.tup []) []:=by
 have c:=ar (xs:=h.G.F.W.V) (i:=f.toNat) ω;have d:=ar (xs:=h.G.F.W.a5) (i:=f.toNat) ω;rw[XL h (iJ h.G f)];by_cases e:(pagesOn h.G.F.O f).length=0
 ·rw[w6 e,K8]
  refine fM 30 [] [ςb] [(0,0),(0,0)] Tryz.func293 rfl (λu q=>?_) (.inr tV1)
  repeat'(first|refine gB ?_|with_reducible (first|refine CO b.1 (aa d) ?_|refine CO b.1 (aa c) ?_)|refine CL (iC h.G.F.O f a) ⟨⟨rfl,Cn h.G.F.O⟩,π⟩ ?_|refine CS rfl rfl (aa c) rfl δ rfl ?_|refine CS rfl rfl (aa d) rfl δ rfl ?_|refine Mk.mk 16 rfl rfl qs qs rfl ?_)
  exact ks
 rw[AQ e];show aU _ _ _ [.ptr (bO h),_] [.ptr (bO h),_] _ _;refine fM 30 [] [ςb] [(0,0),(0,0)] Tryz.func293 rfl (λu q=>?_) (.inr tV1)
 repeat'(first|refine gB ?_|refine CL (iC h.G.F.O f a) ⟨⟨rfl,Cn h.G.F.O⟩,π⟩ ?_)
 exact ks
theorem pG(h:ac)(p:Int)(b:aG h.G=true) :
  zzB 201 false [.ptr (bO h),.vI p] [.ptr (bO {h with G:=cW h.G p}),.vI p] .one [B (decide ((au h.G.F.O p).y≠0))]:=by
 have k:=aX b;have c:=QW h p k.1.2;by_cases a:(au h.G.F.O p).y=0
 ·rw[show cW h.G p=h.G by unfold cW;rw[CJ a]]
  refine fM 32 [(293,[2,0])] [] [(0,0),(0,0)] Tryz.func201 rfl (λu q=>?_)
  repeat'(first|refine gB ?_|refine CL (c) ⟨bS h,π⟩ ?_)
  refine CM rfl ?_ ?_
  ·exact bY ((by simp[a]))
  exact wB
 obtain⟨l,r,n,d,o⟩:=bQ b a;have j:=(aT.1 (aF.1 b).2.1).2.2.1;rw[show cW h.G p=iJ (mQ h.G p) (au h.G.F.O p).j by unfold cW;rw[CI a]];have e:=Ql {h with G:=mQ h.G p} (au h.G.F.O p).j (AD b) ⟨d,by grind[mQ],by grind[mQ]⟩;rw[XL h (mQ h.G p),AL,K8]at e;have g:=ar (xs:=h.G.F.O.M) (i:=p.toNat) ω;rw[n]at c e a |-;refine fM 32 [(293,[2,0])] [] [(0,0),(0,0)] Tryz.func201 rfl (λu q=>?_)
 repeat'(first|refine gB ?_|with_reducible refine CO l (aa g) ?_|refine CL (c) ⟨bS h,π⟩ ?_|refine CS rfl rfl (aa g) rfl δ rfl ?_)
 refine CM rfl ?_ ?_
 ·exact bY ((by simp[a]))
 exact wB
def xV(h:ac)(p:Int):zzA 194 false [.ptr (ac.enc .R h),.vI p] .one [B (gv h p)]:=by
 cases e:h.a3
 all_goals
  have a:ac.enc .R h=(ac.enc .R h).set 18 (B h.a3):=rfl;rw[e]at a;rw[a];refine fO 29 [] Tryz.func194 rfl ?_
  repeat'(first|refine gP ?_|refine gS (λb=>?_) (λb=>?_)|fail)
  all_goals exact bY ((by unfold gv;rw[e];first|(simp[*];done)|(simp[*];rw[O9];simp)))
def iX(h:ac):zzA 199 false [.ptr (ac.enc .R h)] .one [I (fk h:Nat)]:=by
 refine fO 11 [] Tryz.func199 rfl ?_
 refine σP ?_
 rfl
theorem tN(h:ac)(a:Int)(k:h.K.length<=1048576):zzA 202 false [ν h,.vI a] .one [I (cu (jc a) h.K)]:=by
 refine fO 22 [] Tryz.func202 rfl ?_
 refine σP ?_
 refine gl h.K.length (λi=>[(1,fI a),(2,bF (ac.enc .R h)),(5,fN i)]) (λi=>∀(j:Nat)(z:bc),j<i->h.K[j]? = some z->jc a z=false) ψ λi c=>?_
 obtain⟨c,d⟩:=c;by_cases g:i<h.K.length
 ·have b:=ar g
  by_cases e:(nth h.K i).U=a
  ·refine σB ?_
   grind[dJ,jc]
  refine σB ?_
  (exact cV (i+1) ⟨ω,fh b (by grind[jc]) d⟩)
 refine σE ?_
 exact nr (f8 ω d).symm
def pS(h:ac)(i:Nat)(b:i<h.K.length)(a:h.K.length<=1048576):zzB 206 false [.ptr (bO h),.vI (i:Nat)] [.ptr (bO {h with K:=dele h.K i}),.vI (i:Nat)] (.tup []) []:=by
 refine fM 23 [] [(0,273,[4,5,6,7,8,9,10,11,13,14,15,16,17,18,19,21,22,0,1,2,3,4,5,6,7,9,10,11,12,13,14,15,8,1000,1009,1010,1011,1012,1013,1014,1015,16,1000,17,18,19]),(1048576,0,[8])] [(0,0),(0,0)] Tryz.func206 rfl (λu q=>?_) (.inr tV1)
 repeat'(first|refine gP ?_|refine L8.mk rfl (yN h.K) rfl ?_|refine Ca i rfl ϰ (aI λ_=>rfl) C8 ?_|refine Ci (i+1) rfl ϰ (aI λ_=>rfl) I8 ?_|refine Ce (λ_=>rfl) (λ_=>rfl) θ qs ?_|refine Ap.dele (λ_=>rfl) (λ_=>rfl) a qs ?_|refine CX (λ_=>rfl) (λ_=>rfl) θ qs ?_)
 exact ks
theorem HG(h:ac)(E:List Int)(i:Nat)(a:bf h E)(e:i<h.H.length):zzB 218 false [.ptr (bO h),.vI (i:Nat)] [.ptr (bO (giveP h i)),.vI (i:Nat)] (.tup []) []:=by
 have b:=a.lens;have g:=b.spans;have c:=ar e;have j:=pG {h with H:=dele h.H i} (nth h.H i).S a.ker;have d:=iX {h with G:=cW h.G (nth h.H i).S,H:=dele h.H i};rw[show fk {h with G:=cW h.G (nth h.H i).S,H:=dele h.H i} = fk h from(t8 _ _).1]at d;have k:fk h<=32:=b.ents;have l:=od (fk h:Nat) h.e ⟨(nth h.H i).S,1⟩ ω ⟨by grind[qw.free],λ_ _=>tV1⟩;refine fM 52 [(201,[2,0])] [(1,273,[13,14,15,16,17,18,19,20,22,23,24,25,26,27,28,30,31,0,1,2,3,4,5,6,7,9,10,11,12,13,14,15,8,1000,1009,1010,1011,1012,1013,1014,1015,16,1000,17,18,19]),(1048577,0,[6]),(3,270,[38,39,40,41,42,43,44,45,47,37,48,49,50,51,0,1,2,3,4,5,6,7,8,1000,1001,1002,1003,1004,1005,1006,9,10,11,12,13,14,15,1012])] [(0,0),(0,0)] Tryz.func218 rfl (λu q=>?_) (.inr tV1)
 repeat'(first|refine gP ?_|refine L8.mk rfl (Bc h.H) rfl ?_|refine Ca i rfl ϰ (aI λ_=>rfl) C8 ?_|refine Ci (i+1) rfl ϰ (aI λ_=>rfl) I8 ?_|refine Ce (λ_=>rfl) (λ_=>rfl) θ qs ?_|refine Ap.dele (λ_=>rfl) (λ_=>rfl) ω qs ?_|refine CX (λ_=>rfl) (λ_=>rfl) θ qs ?_|refine CL (d) ⟨bS _,tV1⟩ ?_|refine CL (l) ⟨⟨rfl,rfl⟩,⟨rfl,ef h.e⟩,π⟩ ?_)
 exact ks
end Go.Proofs.YtfdfgipemcbekaaGreatDoor.Ab
