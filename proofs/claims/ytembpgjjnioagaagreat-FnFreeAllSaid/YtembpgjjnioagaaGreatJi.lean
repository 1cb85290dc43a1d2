/- An object freed, and all objects of a thread: the program's contracts. No condition. (wkR, jT) -/
import Derived.Test.YtembpgjjnioagaaGreatJd
import Derived.Test.YtembpgjjnioagaaGreatJf
import Derived.Test.YtembpgjjnioagaaGreatJh
import Derived.Test.YtembpgjjnioagaaGreatJe
import Derived.ProofKit
import Derived.OpenShut
import Derived.Deep.Slices
import Derived.Deep.Fields
import Derived.ChangeSame
import Derived.WideShapes
set_option linter.unusedVariables false
set_option linter.unusedSimpArgs false
set_option linter.constructorNameAsVariable false
namespace Go.Proofs.YtembpgjjnioagaaGreat.Ab
open Go.RowKit
set_option maxRecDepth 20000
set_option maxHeartbeats 4000000
def P1(a:Int)(l:ax):Bool:=decide (l.Page*16=a)
theorem t8(l:ax)(a:Int)(b:0<=l.Page/\l.Page<=32):ao Tryz.prog 133 false [.val (some 3) (ax.enc .imm l),.ptr [I a]] .one [B (P1 a l)]:=by
 refine fO 9 [] Tryz.func133 rfl ?_
 repeat'(first|refine gO ?_|fail)
 exact U0 (λz=>[B z]) ((by unfold P1;rw[I4];simp))
theorem E8(h:ab)(b:ab.sml h)(a:h.Objs≠[]):ao Tryz.prog 65 false [.val (some 24) (ab.enc .imm h)] .agg (cE h (oS h) (oL h) (.s .own (h.Objs.map (bm.enc .own)))):=by
 have c:=pB h b
 rwa [show gG h=cE h (oS h) (oL h) (.s .own (h.Objs.map (bm.enc .own))) by unfold gG oO;rw[B7 λe=>a (List.map_eq_nil_iff.1 e)]]at c
theorem Ad(h:ab)(t a:Int)(b:ab.sml h)(d:eR h=true)(e:h.Kernel.Calls=100000):ao Tryz.prog 52 false [.val (some 24) (ab.enc .imm h),.val none [I t],.val none [I a]] (.tup [some 24,none]) (gG h++[I 6]):=by
 have c:=kC h b;rw[oR,d]at c;refine fP 163 [(131,[1,0,0]),(134,[1,0,0]),(135,[2,0]),(136,[2,0,0]),(139,[2,0,0])] [(20,12,[85,86,87,88,89,90,91,92,93,94,95,96]),(24,4,[111,112,113,114])] Tryz.func52 rfl ?_ (.inr (aP (kG _) ⟨trivial,trivial⟩))
 repeat'(first|refine gA ?_|(conv=>whnf);first|refine C7 (c) ?_|refine C7 (pB h b) ?_)
 rfl
theorem x9(h:ab)(o:bm)(t:Nat)(S:ab.sml h)(e1:eR h=true)(hc:h.Kernel.Calls≠100000)(X:o∈h.Objs)(ht:o.Thread=t):ao Tryz.prog 52 false [.val (some 24) (ab.enc .imm h),.val none [I (t:Nat)],.val none [I o.Addr]] (.tup [some 24,none]) (gG (freeOb h t (eX h o.Addr)).1++[I (freeOb h t (eX h o.Addr)).2]):=by
 have b:=bn.of e1;have T:=kC h S;rw[oR,e1]at T;obtain⟨p,G,H⟩:=b.objAt X;have q:=pL b X;have hon:=b.onu o X;have a:=b.lens;have hno:=a.objs;have hnl:=a.larges;have hlc:=a.caches;have J:t<h.Caches.length:=ω
 have U:=aO (t:Nat) 0 (h.Caches.length - 1:Int);rw[O0 ω]at U;have K:=FY h o.Addr ω;rw[H]at K;have V:=E8 h S (jf p);generalize eX h o.Addr=i at p G K;subst G;have Y:=ah p;have Z:=qF (nth h.Objs i).Size;have C:=FD h.Objs i p;have hks:=bt b.ker;have c6:=gi h.Kernel.Machine.Table ((nth h.Objs i).Addr / 16) hks.1.2;have M:gG h=cE h (oS h) (oL h) (.s .own (h.Objs.map (bm.enc .own))):=by unfold gG oO;rw[B7 λe=>jf p (List.map_eq_nil_iff.1 e)]
 unfold freeOb;by_cases d:aM (nth h.Objs i).Size<0
 ·rw[C9 d]
  obtain⟨l,hl,h1,-⟩:=(dI b (am p)).1 d;obtain⟨r,ea,-,hfi⟩:=uy hl h1;have E:=tV h.Larges (P1 (nth h.Objs i).Addr) ω;rw[show de (P1 (nth h.Objs i).Addr) h.Larges=(tX h (nth h.Objs i).Addr:Nat) by unfold de P1;rw[hfi]]at E;generalize tX h (nth h.Objs i).Addr=g at r ea E;have hf:=aU (b.L.lok _ (am r));have hxl:=ah r;have N:=Ah h.Larges g r;have F:=nv {h with Objs:=dele h.Objs i,Larges:=dele h.Larges g} ⟨(nth h.Larges g).Page,(nth h.Larges g).Pages⟩ (nth h.Larges g).Pages.toNat b.ker hc (by show h.Free.length<=_;have:=a.free;omega) ⟨by show(nth h.Larges g).Pages=_;omega,by show 0<=(nth h.Larges g).Page;omega,by show(nth h.Larges g).Page<=_;omega,ω⟩;have hg:gG {h with Objs:=dele h.Objs i,Larges:=dele h.Larges g} = cE h (oS h) (oE ((dele h.Larges g).map (ax.enc .own))) (oE ((dele h.Objs i).map (bm.enc .own))):=rfl;have u:oL h=.s .own (h.Larges.map (ax.enc .own)):=by unfold oL;rw[B7 λe=>jf r (List.map_eq_nil_iff.1 e)]
  rw[u]at V;rw[hg]at F;have hpg:∀y∈h.Larges,0<=y.Page/\y.Page<=32:=λy w=>by have:=aU (b.L.lok y w);omega
  rcases uM (rows:=(dele h.Objs i).map (bm.enc .own)) with e|⟨-,e⟩<;>rcases uM (rows:=(dele h.Larges g).map (ax.enc .own)) with e'|⟨-,e'⟩
  all_goals
   rw[e]at C F;rw[e']at N F;refine fP 163 [(131,[1,0,0]),(134,[1,0,0]),(135,[2,0]),(136,[2,0,0]),(139,[2,0,0])] [(20,12,[85,86,87,88,89,90,91,92,93,94,95,96]),(24,4,[111,112,113,114])] Tryz.func52 rfl ?_ (.inr (aP (kG _) ⟨trivial,trivial⟩))
   repeat'(first|refine gA ?_|(conv=>whnf);first|with_reducible refine Bf.D (λO=>?_) (λO=>?_)|refine C7 (U) ?_|refine C7 (T) ?_|refine C7 (K) ?_|refine C7 (V) ?_|refine C7 (Z) ?_|refine CB (aa Y) ?_|refine CB (aa hxl) ?_|refine Cq.mk (yR (some 3) (ax.enc .imm) (P1 (nth h.Objs i).Addr) h.Larges) (t8 ⟨0,0,0⟩ (nth h.Objs i).Addr ⟨by decide,by decide⟩).has (λL k rcs hQ=>?_) ?_|refine C7 (E) ?_|refine CH (C) (.inl rfl) ?_|refine CH (N) (.inl rfl) ?_|refine CH (F) (.inl rfl) ?_)
   ·obtain⟨y,w,rfl,rfl,rfl⟩:=hQ
    exact t8 y _ (hpg y w)
   ·rfl
 rw[C8 d];obtain⟨s1,s2,s3,s4⟩:=PA.of b (am p) d;have hcz:=EF s1;by_cases W:(ar (tbl h) ((nth h.Objs i).Addr / 16)).Mode=1
 ·rw[C9 W]
  unfold tbl at W;have B:=kG h;simp only;rw[M]at B |-;rcases uM (rows:=(dele h.Objs i).map (bm.enc .own)) with e|⟨-,e⟩
  all_goals
   rw[e]at C;refine fP 163 [(131,[1,0,0]),(134,[1,0,0]),(135,[2,0]),(136,[2,0,0]),(139,[2,0,0])] [(20,12,[85,86,87,88,89,90,91,92,93,94,95,96]),(24,4,[111,112,113,114])] Tryz.func52 rfl ?_ (.inr (aP B ⟨trivial,trivial⟩))
   repeat'(first|refine gA ?_|(conv=>whnf);first|with_reducible refine Bf.D (λO=>?_) (λO=>?_)|refine CL (by decide) ?_|refine CJ (lM q) ?_|refine C7 (U) ?_|refine C7 (T) ?_|refine C7 (K) ?_|refine C7 (V) ?_|refine C7 (Z) ?_|refine CB (aa Y) ?_|refine CH (C) (.inl rfl) ?_|refine C7 (c6) ?_)
   rfl
 rw[C8 W];unfold tbl at W;have B:ed h.Kernel (nth h.Objs i).Addr<h.Kernel.Machine.Frames.Cells.length:=by unfold ed;omega
 have j:=b.inQuar p d;have P:=dP (aM (nth h.Objs i).Size);rw[show csz (aM (nth h.Objs i).Size)=((csz (aM (nth h.Objs i).Size)).toNat:Nat) by omega]at P;have n:=b.nums;unfold cg at n;rw[C0]at n;have Q:=(b.dropO p (iX.any (c:=aM (nth h.Objs i).Size) (by obtain⟨⟨s,S,k1,k2⟩,-⟩:=(dI b (am p)).2 d;exact⟨s,S,k1,.inr k2⟩))).nd;rw[List.cons_append,List.nil_append]at Q;have E:=zX h.Quar (gS h (nth h.Objs i)) (by have:=a.quar;omega) b.quar ⟨s1.1,s1.2,q.1,n.2.2.1⟩ (λy w=>b.snc y w) (λy w e=>(List.nodup_cons.1 Q).1 (by rw[show(nth h.Objs i).Addr=y.Addr from e.symm];unfold holders;simp only[W2];exact .inl (.inr (Z3.2 ⟨y,w,rfl⟩))));unfold Lw at E;have u:(qK h.Quar (gS h (nth h.Objs i))).length<=513:=by have:=a.quar;unfold qK;rw[O1,v3];simp only[List.length_singleton];omega
 have hfq:GG h t i=recycs t (inQuar h i) ((qK h.Quar (gS h (nth h.Objs i))).map (·.Addr)):=rfl;have hqc:(inQuar h i).Kernel.Calls≠100000:=hc;rw[hfq];rcases uM (rows:=(dele h.Objs i).map (bm.enc .own)) with e|⟨-,e⟩
 all_goals
  have hoo:oO (inQuar h i)=_:=e;rw[e]at C;have N:=tR h (oS h) (oL h) (oE ((dele h.Objs i).map (bm.enc .own))) (nth h.Objs i).Addr (csz (aM (nth h.Objs i).Size)).toNat b.ker q s2 ω s4;rw[e]at N;refine fP 163 [(131,[1,0,0]),(134,[1,0,0]),(135,[2,0]),(136,[2,0,0]),(139,[2,0,0])] [(20,12,[85,86,87,88,89,90,91,92,93,94,95,96]),(24,4,[111,112,113,114])] Tryz.func52 rfl ?_ (.inr (aP (kG _) ⟨trivial,trivial⟩))
  repeat'(first|refine gA ?_|(conv=>whnf);first|with_reducible refine Bf.D (λO=>?_) (λO=>?_)|refine CL (by decide) ?_|refine CJ (lM q) ?_|refine C7 (U) ?_|refine C7 (T) ?_|refine C7 (K) ?_|refine C7 (V) ?_|refine C7 (Z) ?_|refine CB (aa Y) ?_|refine CH (C) (.inl rfl) ?_|refine C7 (c6) ?_|refine C7 (P) ?_|refine CH (N) (.inl rfl) ?_|refine C7 (E) ?_)
  generalize qK h.Quar (gS h (nth h.Objs i))=out at j u
  (conv=>whnf)
  refine CE (ι:=Nat) (λk=>[(1,.hold .one [I ((t:Nat):Int)]),(6,.hold .box BR),(8,.hold .box (gG (recycs t (inQuar h i) ((out.take k).map (·.Addr))))),(16,.hold .one (ce .own out)),(151,.bor 16 0 [] none),(152,.hold .one [I (out.length)]),(153,.hold .one [I ((k:Nat):Int)])]) (λk=>k<=out.length) (λk=>out.length - k) (0) ?_ (T0 _) λk hk=>?_
  ·repeat'(first|exact trivial|rfl |exact jT hoo|exact dc _|refine CI ?_ ?_|(exact xv (by first|omega|(simp only;omega)|(simp;omega))))
  by_cases r:k<out.length
  ·have R:=ah r
   have hsp:out.map (·.Addr)=(out.take k).map (·.Addr)++(nth out k).Addr::(out.drop (k+1)).map (·.Addr):=by
    conv=>lhs;rw[<-List.take_append_drop k out,g9 r]
    simp
   have hik:bn (recycs t (inQuar h i) ((out.take k).map (·.Addr))) ((nth out k).Addr::(out.drop (k+1)).map (·.Addr)):=bn.recycs (by rw[<-hsp];exact j) J;have F:=A2 _ _ t _ hik (by rw[(d4 t _ _).1];exact J) (by rw[(d4 t _ _).2.2.1];exact hqc)
   repeat'(first|refine gD ?_|(conv=>whnf);first|refine CB (aa R) ?_|refine CG rfl (aa R) rfl ?_|refine CH (F) (.inl rfl) ?_)
   ((conv=>whnf);refine CC (k+1) ω ω ?_)
   rw[th t _ out k r];exact wC
  ·obtain rfl:k=out.length:=ω
   rw[V4]
   repeat'(first|refine gD ?_|fail)
   rfl
theorem zx(h:ab)(t:Int)(b:ab.sml h):ao Tryz.prog 42 false [.val (some 24) (ab.enc .imm h),.val none [I t]] (.tup [some 24,none]) (gG (kB h t).1++[I (kB h t).2]):=by
 have c:=kC h b;rw[oR]at c;have l:=pB h b;have D:h.Objs.length<=1048576:=b.2.2.2.2.1.1;have F:h.Caches.length<=1048576:=b.2.2.2.2.2.1.1;have d:=aO t 0 (h.Caches.length - 1:Int);by_cases i:0<=t/\t<=h.Caches.length - 1
 ·rw[O0 i]at d
  cases e:eR h<;>rw[e]at c
  ·have a:mN h t=false:=by unfold mN;rw[e];rfl
   rw[pN a];refine fO 54 [] Tryz.func42 rfl ?_ (.inr (aP (kG _) ⟨trivial,trivial⟩))
   repeat'(first|refine gO ?_|(conv=>whnf);first|refine C7 (c) ?_|refine C7 (l) ?_|refine C7 (d) ?_)
   rfl
  have G:=bn.of e;obtain⟨T,rfl⟩:=U2 i.1;by_cases o:h.Kernel.Calls=100000
  ·have a:mN h (T:Nat)=false:=by unfold mN;rw[e,R0 (λx:¬h.Kernel.Calls=100000=>x o)];simp
   rw[pN a];refine fO 54 [] Tryz.func42 rfl ?_ (.inr (aP (kG _) ⟨trivial,trivial⟩))
   repeat'(first|refine gO ?_|(conv=>whnf);first|refine C7 (c) ?_|refine C7 (l) ?_|refine C7 (d) ?_)
   (conv=>whnf)
   refine CE (ι:=Nat) (λk=>[(1,.hold .one [I ((T:Nat):Int)]),(4,.hold .box BR),(6,.hold .box (gG h)),(7,.hold .one [I (0)]),(28,.hold .one (kh .imm h.Objs)),(29,.hold .one [I (h.Objs.length)]),(30,.hold .one [I ((k:Nat):Int)])]) (λk=>k<=h.Objs.length) (λk=>h.Objs.length - k) (0) ?_ (T0 _) λk y=>?_
   ·repeat'(first|exact trivial|rfl |exact jT r|exact dc _|refine CI ?_ ?_|(exact xv (by first|omega|(simp only;omega)|(simp;omega))))
   by_cases p:k<h.Objs.length
   ·have j:=ah p
    have q:=Ad h (T:Nat) (nth h.Objs k).Addr b e o
    repeat'(first|refine gA ?_|(conv=>whnf);first|with_reducible (first|refine CB (aa j) ?_|refine Bf.N (λu=>?_) (λu=>?_)|refine Bf.E (λu=>?_) (λu=>?_))|refine CD (q) ⟨⟨rfl,ow h⟩,⟨rfl,rfl⟩,⟨rfl,rfl⟩,trivial⟩ ?_)
    all_goals((conv=>whnf);refine CC (k+1) ω ω ?_;(exact wC))
   ·repeat'(first|refine gD ?_|fail)
    rfl
  ·have a:mN h (T:Nat)=true:=by unfold mN;rw[e,O0 i,O0 o];rfl
   rw[Ed a,R2];refine fO 54 [] Tryz.func42 rfl ?_ (.inr (aP (kG _) ⟨trivial,trivial⟩))
   repeat'(first|refine gO ?_|(conv=>whnf);first|refine C7 (c) ?_|refine C7 (l) ?_|refine C7 (d) ?_)
   (conv=>whnf)
   refine CE (ι:=Nat) (λk=>[(1,.hold .one [I ((T:Nat):Int)]),(4,.hold .box BR),(6,.hold .box (gG (aH h T k).1)),(7,.hold .one [I ((aH h T k).2)]),(28,.hold .one (kh .imm h.Objs)),(29,.hold .one [I (h.Objs.length)]),(30,.hold .one [I ((k:Nat):Int)])]) (λk=>k<=h.Objs.length) (λk=>h.Objs.length - k) (0) ?_ (T0 _) λk y=>?_
   ·repeat'(first|exact trivial|rfl |exact jT r|exact dc _|refine CI ?_ ?_|(exact xv (by first|omega|(simp only;omega)|(simp;omega))))
   have H:T<h.Caches.length:=ω
   have f:=FA.of G H k y;by_cases p:k<h.Objs.length
   ·have j:=ah p
    have B:=f.num;by_cases w:(nth h.Objs k).Thread=T
    ·have q:=x9 (aH h T k).1 (nth h.Objs k) T (f.sml b) f.inv.to (by rw[f.calls];exact o) (f.left k (X2 _) p) w
     have g:=NL (h:=h) (n:=k) w;by_cases C:(freeOb (aH h T k).1 T (eX (aH h T k).1 (nth h.Objs k).Addr)).2=0
     ·rw[C9 C]at g
      repeat'(first|refine gA ?_|(conv=>whnf);first|with_reducible refine CB (aa j) ?_|refine CD (q) ⟨⟨rfl,ow _⟩,⟨rfl,rfl⟩,⟨rfl,rfl⟩,trivial⟩ ?_)
      ((conv=>whnf);refine CC (k+1) ω ω ?_)
      rw[g];exact wC
     ·rw[C8 C]at g
      repeat'(first|refine gA ?_|(conv=>whnf);first|with_reducible refine CB (aa j) ?_|refine CD (q) ⟨⟨rfl,ow _⟩,⟨rfl,rfl⟩,⟨rfl,rfl⟩,trivial⟩ ?_)
      ((conv=>whnf);refine CC (k+1) ω ω ?_)
      rw[g];exact wC
    ·have g:=PP (h:=h) (n:=k) w
     repeat'(first|refine gA ?_|(conv=>whnf);first|with_reducible refine CB (aa j) ?_)
     ((conv=>whnf);refine CC (k+1) ω ω ?_)
     rw[g];exact wC
   ·obtain rfl:k=h.Objs.length:=ω
    repeat'(first|refine gD ?_|fail)
    rfl
 ·have a:mN h t=false:=by unfold mN;rw[R0 i];simp
  rw[R0 i]at d;rw[pN a];refine fO 54 [] Tryz.func42 rfl ?_ (.inr (aP (kG _) ⟨trivial,trivial⟩))
  repeat'(first|refine gO ?_|(conv=>whnf);first|refine C7 (c) ?_|refine C7 (l) ?_|refine C7 (d) ?_)
  rfl
theorem Bq{α:Type}[Inhabited α]{xs:List α}{i:Nat}(h:xs.length<=i):nth xs i=default:=by unfold nth;rw[O2,I2 h];rfl
def mod1(k:af)(q:Nat):Prop:=(nth k.Machine.Table.Entries q).Mode=1
def K1(k k':af):Prop:=∀q,mod1 k' q->mod1 k q
theorem K1.trans{a b c:af}(h1:K1 a b)(d:K1 b c):K1 a c:=λq h=>h1 q (d q h)
theorem K1.tab{k k':af}(h:k'.Machine.Table=k.Machine.Table):K1 k k':=λq a=>by unfold mod1 at a |-;rw[<-h];exact a
theorem K1.set{k k':af}{p:Nat}{e:bh}(b:e.Mode≠1)(h:k'.Machine.Table.Entries=k.Machine.Table.Entries.set p e):K1 k k':=λq a=>by
 unfold mod1 at a |-;rw[h,ci]at a;split at a
 ·exact absurd a b
 ·exact a
theorem y2(k:af)(f:Int):(fQ k f).Machine.Table=k.Machine.Table:=by unfold fQ;split<;>rfl
theorem De(k:af)(p:Int):K1 k (cb k p):=by
 unfold cb;split
 ·exact λ_ h=>h
 ·exact(K1.set (k:=k) (k':=j7 k p) (e:=⟨0,0⟩) (by decide) rfl).trans (K1.tab (y2 _ _))
theorem xb(k:af)(p:Int):∀n,K1 k (d3 k p n)
 | 0=>λ_ h=>h
 | n+1=>(xb k p n).trans (De _ _)
theorem EH(k:af)(p:Int):K1 k (fC k p).1:=by
 unfold fC;split
 ·exact K1.tab rfl
 ·exact K1.set (e:=⟨2,_⟩) (by show(2:Int)≠1;decide) rfl
theorem uG(k:af)(p:Int):∀n,K1 k (cu k p n).1
 | 0=>λ_ h=>h
 | n+1=>by
  unfold cu;split
  ·exact(uG k p n).trans (EH _ _)
  ·exact uG k p n
structure S1(h g:ab):Prop where
 k:K1 h.Kernel g.Kernel
 m:g.Meshing=h.Meshing
 j:g.Job=h.Job
theorem S1.refl(h:ab):S1 h h:=⟨λ_ x=>x,rfl,rfl⟩
theorem S1.trans{a b c:ab}(h1:S1 a b)(d:S1 b c):S1 a c:=⟨h1.k.trans d.k,d.m.trans h1.m,d.j.trans h1.j⟩
theorem S1.ker{h:ab}{g:ab}(e:g.Kernel=h.Kernel)(a:g.Meshing=h.Meshing)(b:g.Job=h.Job):S1 h g:=⟨by rw[e];exact λ_ x=>x,a,b⟩
theorem Mc(h:ab)(i:Nat):S1 h (lC h i).1:=by unfold lC;split<;>exact S1.ker rfl rfl rfl
theorem DU(h:ab)(t c:Nat):S1 h (eg h t c).1:=by
 unfold eg;split
 ·exact S1.ker rfl rfl rfl
 split
 ·exact S1.ker rfl rfl rfl
 split
 ·exact S1.refl h
 split
 ·exact⟨EH _ _,rfl,rfl⟩
 ·exact S1.trans (b:=ur h c) ⟨EH _ _,rfl,rfl⟩ (Mc _ _)
theorem KJ(h:ab)(t n:Int):S1 h (eO h t n).1:=by
 unfold eO;split
 ·exact S1.refl h
 split
 ·exact S1.refl h
 split
 ·exact S1.refl h
 split
 ·exact S1.refl h
 split
 ·split
  ·exact DU _ _ _
  ·exact(DU h t.toNat (aM n).toNat).trans (S1.ker rfl rfl rfl)
 ·unfold mH
  split
  ·exact S1.refl h
  split
  ·exact⟨uG _ _ _,rfl,rfl⟩
  ·exact⟨(uG _ _ _).trans (xb _ _ _),rfl,rfl⟩
theorem Gq(h:ab)(i:Nat)(a:Int):S1 h (freeS h i a):=by
 unfold freeS;split
 ·exact⟨De _ _,rfl,rfl⟩
 ·exact S1.ker rfl rfl rfl
theorem M9(t:Nat)(h:ab)(a:Int):S1 h (recyc t h a):=by
 unfold recyc;split
 ·exact S1.ker rfl rfl rfl
 ·exact Gq _ _ _
theorem wD(t:Nat):∀(az:List Int)(h:ab),S1 h (recycs t h az)
 | [],h=>S1.refl h
 | a::az,h=>(M9 t h a).trans (wD t az (recyc t h a))
theorem ve:∀(az:List Int)(h:ab),S1 h (freeAs h az)
 | [],h=>S1.refl h
 | a::az,h=>(Gq h (qV h a) a).trans (ve az (freeA h a))
theorem D9(h:ab)(t i:Nat):S1 h (freeOb h t i).1:=by
 unfold freeOb;split
 ·exact⟨xb _ _ _,rfl,rfl⟩
 split
 ·exact S1.refl h
 ·exact S1.trans (b:=inQuar h i) ⟨K1.tab rfl,rfl,rfl⟩ (wD t _ _)
theorem Mf(h:ab)(t i:Nat):S1 h (freeT h t i).1:=by
 by_cases e:(nth h.Objs i).Thread=t
 ·rw[sv e];exact D9 h t i
 unfold freeT;split
 ·exact⟨xb _ _ _,rfl,rfl⟩
 split
 ·exact S1.refl h
 split
 ·exact⟨K1.tab rfl,rfl,rfl⟩
 ·exact S1.refl h
theorem D8(t:Nat)(h:ab):∀k,S1 h (flushN t h k).1
 | 0=>S1.refl h
 | k+1=>(D8 t h k).trans (S1.trans (b:=spilt (flushN t h k).1 t k) (S1.ker rfl rfl rfl) (ve _ _))
def M1(h:ab):Prop:=∀q:Nat,mod1 h.Kernel q->h.Meshing=true/\(q:Int)=h.Job.Plan.Move/\h.Job.Phase≠0
theorem M1.keep{h g:ab}(a:M1 h)(s:S1 h g):M1 g:=λq b=>by
 rw[s.m,s.j];exact a q (s.k q b)
theorem M1.step{h:ab}(y:bn h [])(r:JI h)(o:M1 h)(p:h.Meshing=true):M1 (mStep h):=by
 have E:=r.ph p;have n:=(ek.1 (y.job p).1).1;obtain⟨-,-,-,Q,R⟩:=ek.1 (y.job p).1;unfold eG at n;simp only[I0,C0]at n;have F:0<=h.Job.Plan.Move:=ω
 have G:∀q:Nat,(q:Int)≠h.Job.Plan.Move->¬mod1 h.Kernel q:=λq d H=>d (o q H).2.1
 have f:∀(k':af)(e:bh)(q:Nat),k'.Machine.Table.Entries=h.Kernel.Machine.Table.Entries.set h.Job.Plan.Move.toNat e->mod1 k' q->(q:Int)=h.Job.Plan.Move/\e.Mode=1:=λk' e q J d=>by
  unfold mod1 at d;rw[J,ci]at d;split at d
  ·exact⟨ω,d⟩
  ·have S:=(o q d).2.1
   rename_i t;have u:q<h.Kernel.Machine.Table.Entries.length:=by
    rcases Nat.lt_or_ge q h.Kernel.Machine.Table.Entries.length with g|g
    ·exact g
    ·rw[Bq g]at d;exact absurd d (by decide)
   exact absurd ⟨ω,u⟩ t
 have stay:∀(k:af)(j:cn),k.Machine.Table=h.Kernel.Machine.Table->j.Plan=h.Job.Plan->(j.Phase=0->h.Job.Phase=0)->over j=false->M1 {h with Kernel:=k,Meshing:=if over j=true then false else h.Meshing,Job:=if over j=true then⟨⟨0,0,[]⟩,0,0⟩ else j}:=λk j K L M N q d=>by
  obtain⟨a,b,c⟩:=o q (K1.tab (k:=h.Kernel) (k':=k) K q d);simp only[N,Bool.false_eq_true,if_false];exact⟨a,by rw[L];exact b,λe=>c (M e)⟩
 have done:∀(k:af)(j:cn),(∀q,¬mod1 k q)->M1 {h with Kernel:=k,Meshing:=if over j=true then false else h.Meshing,Job:=if over j=true then⟨⟨0,0,[]⟩,0,0⟩ else j}:=λk j e q d=>absurd d (e q)
 have nov:∀{j:cn},j.Phase≠4->j.Phase≠5->over j=false:=λT U=>by
  unfold over;rw[C4];omega
 unfold Ab.mStep iH;by_cases i:jmay h.Kernel h.Job=true;rotate_left
 ·rw[C8 i]
  exact stay h.Kernel h.Job rfl rfl (λe=>e) (nov ω ω)
 rw[C9 i];unfold jstep;by_cases w:h.Job.Phase=0
 ·rw[C9 w]
  have none:∀q,¬mod1 h.Kernel q:=λq d=>(o q d).2.2 w
  unfold jg;by_cases l:refd h.Kernel=true
  ·rw[C9 l]
   exact done (cS h.Kernel) _ none
  ·rw[C8 l]
   intro q d;have:=f (qG (cS h.Kernel) h.Job.Plan.Move 1) _ q rfl d;refine⟨?_,?_,?_⟩
   ·show(if over {h.Job with Phase:=1} = true then false else h.Meshing)=true
    rw[nov (by show(1:Int)≠4;decide) (by show(1:Int)≠5;decide)];exact p
   ·show(q:Int)=(if over {h.Job with Phase:=1} = true then(⟨⟨0,0,[]⟩,0,0⟩ : cn) else {h.Job with Phase:=1}).Plan.Move
    rw[nov (by show(1:Int)≠4;decide) (by show(1:Int)≠5;decide)];exact this.1
   ·show(if over {h.Job with Phase:=1} = true then(⟨⟨0,0,[]⟩,0,0⟩ : cn) else {h.Job with Phase:=1}).Phase≠0
    rw[nov (by show(1:Int)≠4;decide) (by show(1:Int)≠5;decide)];show(1:Int)≠0;decide
 rw[C8 w];by_cases A:h.Job.Phase=1
 ·rw[C9 A]
  by_cases B:h.Job.Next=h.Job.Plan.Cells.length
  ·rw[C9 B]
   exact stay h.Kernel {h.Job with Phase:=2} rfl rfl (λe=>by cases e) (nov (by show(2:Int)≠4;decide) (by show(2:Int)≠5;decide))
  ·rw[C8 B]
   exact stay (xp h.Kernel h.Job.Plan.Move h.Job.Plan.Keep (nth h.Job.Plan.Cells h.Job.Next.toNat)) {h.Job with Next:=h.Job.Next+1} rfl rfl (λe=>e) (nov (by show h.Job.Phase≠4;omega) (by show h.Job.Phase≠5;omega))
 rw[C8 A];by_cases C:h.Job.Phase=2
 ·rw[C9 C]
  unfold yS;by_cases l:refd h.Kernel=true
  ·rw[C9 l]
   exact stay (cS h.Kernel) {h.Job with Phase:=3} rfl rfl (λe=>by cases e) (nov (by show(3:Int)≠4;decide) (by show(3:Int)≠5;decide))
  ·rw[C8 l]
   exact done _ _ λq d=>by
    have O:=K1.tab (y2 _ _) q d;have:=(f _ ⟨2,_⟩ q rfl O).2;change (2:Int)=1 at this;omega
 rw[C8 C];have P:h.Job.Phase=3:=ω
 rw[C9 P];by_cases D:0<h.Job.Next
 ·rw[C9 D]
  refine stay _ {h.Job with Next:=h.Job.Next - 1} ?_ rfl (λe=>e) (nov (by show h.Job.Phase≠4;omega) (by show h.Job.Phase≠5;omega));show(jp _ _ _).1.Table=_;unfold jp;split
  ·rfl
  split<;>rfl
 ·rw[C8 D]
  unfold jg;by_cases l:refd h.Kernel=true
  ·rw[C9 l]
   exact stay (cS h.Kernel) {h.Job with Phase:=3} rfl rfl (λe=>by cases e) (nov (by show(3:Int)≠4;decide) (by show(3:Int)≠5;decide))
  ·rw[C8 l]
   exact done _ _ λq d=>by
    have:=(f (qG (cS h.Kernel) h.Job.Plan.Move 2) _ q rfl d).2;change (2:Int)=1 at this;omega
theorem Ky{h:ab}(a:bn h [])(b:JI h)(c:M1 h):∀n,M1 (l9 h n).1
 | 0=>c
 | n+1=>by
  obtain⟨d,f⟩:=rZ a b n;unfold l9;split
  ·rename_i e
   unfold q9 at e;rw[I0]at e;exact(Ky a b c n).step d f e.1
  ·exact Ky a b c n
theorem MK{w:bH}{m:Nat}(h:rD w m)(c:M1 w.Heap)(a:dR):M1 (lH w a).1.Heap:=by
 unfold lH;split
 ·exact c.keep (KJ _ _ _)
 split
 ·split
  ·exact c
  unfold mB;split
  ·unfold ox
   split
   ·exact c
   split
   ·exact c.keep (Mf _ _ _)
   ·exact c
  split
  ·unfold ll
   split
   ·exact c
   split
   ·exact c
   split
   ·exact c
   ·exact c.keep ⟨K1.tab rfl,rfl,rfl⟩
  ·unfold oG
   split
   ·exact c.keep ⟨(K1.tab (ql _ _ _).1).trans (xb _ _ _),rfl,rfl⟩
   ·exact c
 split
 ·unfold fD
  split
  ·split
   ·exact c.keep (S1.ker rfl rfl rfl)
   ·exact c
  split
  ·exact c
  split
  ·exact c.keep (S1.trans (b:={w.Heap with Mail:=jU w.Heap.Mail a.Thread.toNat}) (S1.ker rfl rfl rfl) (wD _ _ _))
  ·exact c.keep (D8 _ _ _)
 split
 ·unfold m7
  split
  ·exact c.keep (S1.trans (b:=aged w.Heap a.N) (S1.ker rfl rfl rfl) (ve _ _))
  ·exact c
 split
 ·unfold mG
  split
  ·exact c
  ·rename_i e
   intro q d;exact absurd (c q (K1.tab (by show(started w.Heap).1.Kernel.Machine.Table=_;rw[(nM h.inv).2.1]) q d)).1 e
 split
 ·exact Ky h.inv h.ji c _
 ·exact c
theorem N6{c:cA}(h:Db c)(acts:List dR):∀n,M1 (yw c acts n).1.Heap
 | 0=>λq a=>by
  exfalso;change (nth (List.replicate c.Pages (⟨0,0⟩ : bh)) q).Mode=1 at a;rcases Nat.lt_or_ge q c.Pages with g|g
  ·rw[cB g]at a;exact absurd a (by decide)
  ·rw[Bq (by rw[O3];exact g)]at a;exact absurd a (by decide)
 | n+1=>MK (si h acts n) (N6 h acts n) _
def r8(zs:List Int):Nat->List Int × ig
 | 0=>([],sB zs)
 | n+1=>((r8 zs n).1++[(bq zs (r8 zs n).2 10000).1],(bq zs (r8 zs n).2 10000).2)
theorem z6(zs:List Int):∀n,(r8 zs n).2.i<=zs.length/\(r8 zs n).1.length=n/\∀x∈(r8 zs n).1,0<=x/\x<10000
 | 0=>⟨T0 _,rfl,λx a=>by cases a⟩
 | n+1=>by
  obtain⟨b,c,d⟩:=z6 zs n;refine⟨bL b _,by show((r8 zs n).1++[_]).length=_;rw[v3,c];rfl,λx a=>?_⟩;rcases W2.1 a with a|a
  ·exact d x a
  ·rw[C1.1 a]
   exact bD zs (r8 zs n).2 (n:=10000) (by decide)
theorem ul(zs:List Int)(a:iQ zs):ao Tryz.prog 23 false [.val none (Pd zs)] .one (aD .own (r8 zs 12).1):=by
 have b:=tD zs a;refine fP 19 [(92,[2,0]),(3000003,[])] [] Tryz.func23 rfl ?_ (.inr (bG _))
 repeat'(first|refine gO ?_|(conv=>whnf);first|refine Cl.g b (.inr rfl) ?_)
 (conv=>whnf)
 refine CE (ι:=Nat) (λi=>[(0,.hold .one (Pd zs)),(3,.hold .box (gN zs (r8 zs i).2)),(4,.hold .one (aD .own (r8 zs i).1)),(5,.hold .one [I ((i:Nat):Int)])]) (λi=>i<=12) (λi=>12 - i) (0) ?_ (T0 _) λi j=>?_
 ·repeat'(first|exact trivial|rfl |exact jT c|exact dc _|refine CI ?_ ?_|(exact xv (by first|omega|(simp only;omega)|(simp;omega))))
 obtain⟨d,k,-⟩:=z6 zs i;by_cases l:i<12
 ·have e:=bK zs (r8 zs i).2 10000 a d (by decide)
  repeat'(first|refine gD ?_|(conv=>whnf);first|refine CH (e) (.inl rfl) ?_|refine CP bV (λr h=>by rw[C1.1 h];rfl) (by simp[aV,dz]) (by simp;omega) (by simp only[X0];exact wi (by simp;omega) (by decide)) rfl ?_)
  ((conv=>whnf);refine CC (i+1) ω ω ?_)
  repeat'(first|exact trivial|rfl| exact dc _ |exact jT (U0 (C.s du.own) (by simp[r8,rI]))|refine CI ?_ ?_|(exact xv (by first|omega|(simp only;omega)|(simp;omega))))
 ·obtain rfl:i=12:=ω
  repeat'(first|refine gD ?_|fail)
  rfl
set_option maxHeartbeats 2000000
def eQ(l:List bm)(t:Int):List Int:=(l.filter λo=>o.Thread == t).map (·.Id)
theorem oJ(l:List bm)(t:Int):(eQ l t).length<=l.length:=by
 unfold eQ;rw[X0];exact List.length_filter_le _ _
theorem pP{l:List bm}{t:Int}{i:Nat}{o:bm}(h:l[i]? = some o)(a:o.Thread=t):eQ (l.take (i+1)) t=eQ (l.take i) t++[o.Id]:=by
 unfold eQ;rw[Z4,h];simp[List.filter_append,a]
theorem rE{l:List bm}{t:Int}{i:Nat}{o:bm}(h:l[i]? = some o)(a:o.Thread≠t):eQ (l.take (i+1)) t=eQ (l.take i) t:=by
 unfold eQ;rw[Z4,h];simp[List.filter_append,a]
theorem v7(h:ab)(t:Int)(d:qw h.Objs):ao Tryz.prog 43 false [.val (some 24) (ab.enc .imm h),.val none [I t]] .one (aD .own (eQ h.Objs t)):=by
 refine fO 33 [] Tryz.func43 rfl ?_ (.inr (bG _));have g:=d.1
 repeat'((conv=>whnf);first|with_reducible (first|refine Lm ?_|refine Wm ω ?_))
 (conv=>whnf)
 refine CE (ι:=Nat) (λi=>[(1,.hold .one [I t]),(2,.hold .box (ab.enc .imm h)),(5,.hold .one (aD .own (eQ (h.Objs.take i) t))),(6,.hold .one [I (i:Nat)])]) (λi=>i<=h.Objs.length) (λi=>h.Objs.length - i) 0 ?_ (T0 _) λi j=>?_
 ·exact wA
 ·have a:=oJ (h.Objs.take i) t
  rw[O1]at a;by_cases b:i<h.Objs.length
  ·obtain⟨o,c⟩ : ∃o,h.Objs[i]? = some o:=⟨_,Z1 b⟩
   repeat'((conv=>whnf);first|with_reducible (first|refine Lm ?_|refine Wm ω ?_|refine CB (aa c) ?_|refine dT ω (λh=>?_)|refine Bf.E (λh=>?_) (λh=>?_))|refine CP bV (λr e=>by rw[C1.1 e];rfl) (by simp[aV,dz]) (by simp;omega) (by simp only[X0];exact wi (by simp;omega) (by decide)) rfl ?_|refine CC (i+1) ω ω ?_)
   ·rw[pP (t:=t) c (by assumption)]
    repeat'(first|exact trivial|rfl|exact CI rfl (CI (U0 (C.s du.own) (by simp[rI])) trivial)|refine CI ?_ ?_)
   ·rw[rE (t:=t) c (by assumption)]
    exact wA
  ·repeat'((conv=>whnf);first|with_reducible (first|refine Lm ?_|refine Wm ω ?_|refine dF ω (λh=>?_)|refine Fm rfl ?_))
   rw[C6 ω]
   rfl
theorem nE(h:ab)(t:Int)(d:qw h.Objs):ao Tryz.prog 41 false [.val (some 24) (ab.enc .imm h),.val none [I t]] .one (aD .own (eQ h.Objs t)):=by
 refine fO 27 [] Tryz.func41 rfl ?_ (.inr (bG _));have g:=d.1
 repeat'((conv=>whnf);first|with_reducible (first|refine Lm ?_|refine Wm ω ?_))
 (conv=>whnf)
 refine CE (ι:=Nat) (λi=>[(1,.hold .one [I t]),(5,.hold .one (aD .own (eQ (h.Objs.take i) t))),(10,.hold .one (kh .imm h.Objs)),(11,.hold .one [I h.Objs.length]),(12,.hold .one [I (i:Nat)])]) (λi=>i<=h.Objs.length) (λi=>h.Objs.length - i) 0 ?_ (T0 _) λi j=>?_
 ·exact wA
 ·have a:=oJ (h.Objs.take i) t
  rw[O1]at a;by_cases b:i<h.Objs.length
  ·obtain⟨o,c⟩ : ∃o,h.Objs[i]? = some o:=⟨_,Z1 b⟩
   repeat'((conv=>whnf);first|with_reducible (first|refine Lm ?_|refine Wm ω ?_|refine CB (aa c) ?_|refine dT ω (λh=>?_)|refine Bf.E (λh=>?_) (λh=>?_))|refine CP bV (λr e=>by rw[C1.1 e];rfl) (by simp[aV,dz]) (by simp;omega) (by simp only[X0];exact wi (by simp;omega) (by decide)) rfl ?_|refine CC (i+1) ω ω ?_)
   ·rw[pP (t:=t) c (by assumption)]
    repeat'(first|exact trivial|rfl|exact CI rfl (CI (U0 (C.s du.own) (by simp[rI])) trivial)|refine CI ?_ ?_)
   ·rw[rE (t:=t) c (by assumption)]
    exact wA
  ·repeat'((conv=>whnf);first|with_reducible (first|refine Lm ?_|refine Wm ω ?_|refine dF ω (λh=>?_)|refine Fm rfl ?_))
   rw[C6 ω]
   rfl
theorem Dd{xs:List bm}{i:Nat}{t:Int}(a:i<xs.length)(b:(nth xs i).Thread=t):(eQ (dele xs i) t).length+1=(eQ xs t).length:=by
 have:=((oA a).filter λo=>o.Thread == t).length_eq;unfold eQ;rw[X0,X0,this,List.filter_cons_of_pos (by simp[b]),List.length_cons]
theorem JM{α:Type}[Inhabited α]{xs:List α}{i:Nat}(a:i<xs.length):(dele xs i).length+1=xs.length:=by
 rw[(oA a).length_eq,List.length_cons]
theorem F7(h:ab)(t i:Nat):((freeOb h t i).2=0/\(freeOb h t i).1.Objs=dele h.Objs i)\/((freeOb h t i).2=5/\(freeOb h t i).1=h/\(ar (tbl h) ((nth h.Objs i).Addr / 16)).Mode=1):=by
 unfold freeOb;split
 ·exact .inl ⟨rfl,rfl⟩
 split
 ·rename_i e;exact .inr ⟨rfl,rfl,e⟩
 ·exact .inl ⟨rfl,(d4 t _ (inQuar h i)).2.1⟩
theorem M1.no{h:ab}(b:M1 h)(e:h.Meshing=false)(p:Int):(ar (tbl h) p).Mode≠1:=λa=>by
 unfold ar at a;split at a
 ·have:=(b p.toNat a).1;rw[e]at this;cases this
 ·exact absurd a (by decide)
theorem FB.of{h:ab}(k:bn h [])(l:M1 h){t:Nat}(o:t<h.Caches.length):∀n,n<=h.Objs.length->S1 h (aH h t n).1/\((aH h t n).1.Objs.length:Int)+(aH h t n).2=h.Objs.length/\((eQ (aH h t n).1.Objs t).length:Int)+(aH h t n).2=(eQ h.Objs t).length/\(h.Meshing=false->(aH h t n).2=(eQ (h.Objs.take n) t).length)
 | 0,_=>⟨S1.refl h,by show(h.Objs.length:Int)+0=_;omega,by show((eQ h.Objs t).length:Int)+0=_;omega,λ_=>rfl⟩
 | n+1,p=>by
  obtain⟨b,q,r,u⟩:=FB.of k l o n ω;have f:=FA.of k o n ω;have w:=ah (xs:=h.Objs) (i:=n) ω;by_cases e:(nth h.Objs n).Thread=t
  ·have c:aH h t (n+1)=((freeOb (aH h t n).1 t (eX (aH h t n).1 (nth h.Objs n).Addr)).1,if(freeOb (aH h t n).1 t (eX (aH h t n).1 (nth h.Objs n).Addr)).2=0 then(aH h t n).2+1 else(aH h t n).2):=by rw[aH,C9 e]
   obtain⟨y,A,G⟩:=f.inv.objAt (f.left n (X2 _) ω);have B:=D9 (aH h t n).1 t (eX (aH h t n).1 (nth h.Objs n).Addr);have C:=pP (t:=(t:Int)) w e;rw[c];generalize (aH h t n).1=g at *;generalize (aH h t n).2=m at *;have p:=F7 g t (eX g (nth h.Objs n).Addr);have D:=JM y;have E:=Dd (t:=(t:Int)) y (by rw[A];exact e);refine⟨b.trans B,?_⟩;simp only;rcases p with⟨d,j⟩|⟨d,j,F⟩
   ·rw[d,j,C9 rfl,C,v3]
    refine⟨ω,ω,λa=>?_⟩;rw[u a];simp
   ·rw[d,j,C8 (by decide)]
    refine⟨q,r,λa=>?_⟩;exact absurd F ((l.keep b).no (by rw[b.m];exact a) _)
  ·have c:aH h t (n+1)=aH h t n:=by rw[aH,C8 e]
   rw[c];refine⟨b,q,r,λa=>?_⟩;rw[u a,rE (t:=(t:Int)) w e]
theorem M3(zs:List Int):M1 (drawn zs).Heap:=N6 (oe (T0 _)).1 _ _
theorem FreeAll_law(zs:List Int)(G:zs.length<=9223372036854775807/\∀y∈zs,0<=y/\y<=255):ao Tryz.prog 9 false [.val none (Pd zs)] .one [B true]:=by
 have j:=Pe zs G.1;by_cases H:(zs.length:Int) > 1048576
 ·rw[O0 H]at j
  refine fO 78 [(6,6,[19,20,21,22,23,24])] Tryz.func9 rfl ?_
  repeat'(first|refine gO ?_|(conv=>whnf);first|refine C7 (j) ?_)
  rfl
 rw[R0 H]at j;have J:iQ zs:=⟨ω,G.2⟩
 have cD:=wV zs J;have cP:=ul zs J;obtain⟨-,pl,R⟩:=z6 zs 12;have h:=(Br zs).inv;obtain⟨K,S⟩:=Hk zs;have T:=KE zs;have U:=M3 zs;generalize drawn zs=w at *;generalize (r8 zs 12).1=o at *;have b:=ah (xs:=o) (i:=0) ω;have q:=R _ (am (xs:=o) (i:=0) ω);generalize nth o 0=p at *;have c:=h.lens;have V:=c.caches;have W:=c.objs;have d:=h.nums;unfold cg at d;rw[C0]at d;have Y:1<=w.Heap.Caches.length:=by
  obtain⟨⟨m1,-,-⟩,-⟩:=dv.1 h.mail;have:=h.nc;omega
 have r:=eS (y:=(w.Heap.Caches.length:Nat)) q.1;obtain⟨t,Z⟩:=U2 (Int.emod_nonneg p (show((w.Heap.Caches.length:Nat):Int)≠0 by omega));have u:=Int.emod_lt_of_pos p (show(0:Int)<(w.Heap.Caches.length:Nat) by omega);rw[Z]at r u;have g:t<w.Heap.Caches.length:=ω
 have k:qw w.Heap.Objs:=⟨ω,λ_ _=>trivial⟩
 have L:=nE w.Heap (t:Nat) k;have c1s:=v7 w.Heap (t:Nat) k;have l:=zx w.Heap (t:Nat) K;have f:=FA.of h g w.Heap.Objs.length (X2 _);obtain⟨g1,g2,g3,M⟩:=FB.of h U g w.Heap.Objs.length (X2 _);rw[V4]at M;have D:kB w.Heap (t:Nat)=aH w.Heap t w.Heap.Objs.length:=by
  unfold kB mN;rw[h.to,O0 ω,O0 ω]
  rfl
 rw[D]at l;have N:=f.inv;have xf:=f.sml K;generalize aH w.Heap t w.Heap.Objs.length=X at *;have E:=kC X.1 xf;rw[oR,N.to]at E;have a:=ow X.1;have hxo:X.1.Objs.length<=512:=N.lens.objs;have O:=nE X.1 (t:Nat) ⟨ω,λ_ _=>trivial⟩;have hl1:=oJ w.Heap.Objs (t:Nat);have hl2:=oJ X.1.Objs (t:Nat);have n:X.1.Objs.map (bm.enc .own)=[]->([]:List (List C)).length=X.1.Objs.length:=λe=>by rw[List.map_eq_nil_iff.1 e];rfl
 unfold gG at l a;rcases uM (rows:=X.1.Objs.map (bm.enc .own)) with P|⟨eo1,P⟩
 all_goals
  rw[show oO X.1=_ from P]at l a
  try have Q:=n eo1
  by_cases hz0:(eQ X.1.Objs (t:Nat)).length=0
  ·refine fO 78 [(6,6,[19,20,21,22,23,24])] Tryz.func9 rfl ?_
   repeat'(first|refine gA ?_|(conv=>whnf);first|refine C7 (j) ?_|refine C7 (cD) ?_|refine C7 (cP) ?_|refine CB (aa b) ?_|refine Ln.mk Q ?_|refine CG rfl (aa b) rfl ?_|refine CL ω ?_|refine CR r ?_|refine CD (L) ⟨⟨rfl,ab.enc_fz _⟩,⟨rfl,rfl⟩,trivial⟩ ?_|refine CD (l) ⟨⟨rfl,ab.enc_fz _⟩,⟨rfl,rfl⟩,trivial⟩ ?_|refine CD (E) ⟨⟨rfl,a⟩,trivial⟩ ?_|refine CD (O) ⟨⟨rfl,a⟩,⟨rfl,rfl⟩,trivial⟩ ?_|refine CD (c1s) ⟨⟨rfl,ab.enc_fz _⟩,⟨rfl,rfl⟩,trivial⟩ ?_)
   exact U0 (λz=>[B z]) (beq_self_eq_true _)
  ·have F:w.Heap.Meshing=true:=by
    cases e:w.Heap.Meshing with
    | true=>rfl
    | false=>have:=M e;omega
   refine fO 78 [(6,6,[19,20,21,22,23,24])] Tryz.func9 rfl ?_
   repeat'(first|refine gA ?_|(conv=>whnf);first|refine C7 (j) ?_|refine C7 (cD) ?_|refine C7 (cP) ?_|refine CB (aa b) ?_|refine Ln.mk Q ?_|refine CG rfl (aa b) rfl ?_|refine CL ω ?_|refine CR r ?_|refine CD (L) ⟨⟨rfl,ab.enc_fz _⟩,⟨rfl,rfl⟩,trivial⟩ ?_|refine CD (l) ⟨⟨rfl,ab.enc_fz _⟩,⟨rfl,rfl⟩,trivial⟩ ?_|refine CD (E) ⟨⟨rfl,a⟩,trivial⟩ ?_|refine CD (O) ⟨⟨rfl,a⟩,⟨rfl,rfl⟩,trivial⟩ ?_|refine CD (c1s) ⟨⟨rfl,ab.enc_fz _⟩,⟨rfl,rfl⟩,trivial⟩ ?_|refine Bf.t F ?_)
   exact U0 (λz=>[B z]) (beq_self_eq_true _)
open Go.RowKit Go.ChangeShapes Go.WideShapes Go.Deep
def ALL(w:World):ac:=λb _=>b<w.heap.size
def Qe{H:Type}(e:TypeId × Value->H)(P:Program)(w:World)(t n:Nat){α:Type}(enc:α->List C)(c:α->Prop):Prop:=
 ∀(fuel:Nat)(b:List Value)(x:DataW H × List MemPlace),DataW.trod e P w 0 (λ_=>true) true fuel t b=some x->b.length=n/\∃a,c a/\(enc a).length=n/\cI w (ALL w) NO (enc a) (λj=>b.getD j undef)
section
variable{H:Type}{e:TypeId × Value->H}{P:Program}{w:World}
theorem Ao{S F:ac}{c:C}{u:Nat->Value}(h:ec w S F c (u 0)):cI w S F [c] u:=
 ⟨λ_=>F,λj e a=>by cases j with
   | zero=>simp at a;subst a;exact h
   | succ j=>simp at a,λ_ _ _ _ h=>h,λj f a b d=>by simp at a b;omega⟩
theorem pick{α β:Type}(n:Nat){Q:Nat->β->Prop}(h:∀i,i<n->∃b,Q i b):∃l:List β,l.length=n/\∀i b,l[i]? = some b->Q i b:=by
 induction n with
 | zero=>exact⟨[],rfl,λi b h=>by simp at h⟩
 | succ n c=>
  obtain⟨l,d,e⟩:=c λi a=>h i ω
  obtain⟨b,f⟩:=h n ω;refine⟨l++[b],by simp[d],λi g a=>?_⟩;by_cases j:i<n
  ·rw[v4 ω]at a;exact e i g a
  ·rw[z4 ω]at a
   have:i - l.length=0:=by
    have:=(C2.1 a).1;simp at this;omega
   rw[this]at a;simp at a;subst a;rw[show i=n by omega];exact f
theorem L2{t T n:Nat}{α:Type}{enc:α->List C}{U:α->Prop}(V:Qe e P w T n enc U)(ht:P.underlying t=some (.slice T))(hn:P.cellsOf T=n)(p:0<n) :
  Qe e P w t 1 (λxs:List α=>[.s .imm (xs.map enc)]) (λxs=>xs.length<=9223372036854775807/\∀y∈xs,U y):=by
 intro fuel cs x h;rcases open_slice ht h with⟨rfl,-⟩|⟨k,len,cap,m,n',D,Pl,rfl,-,hl,hm,K,-,u⟩
 ·exact⟨rfl,[],⟨by simp,by simp⟩,rfl,Ao (.nil _ _ _ trivial)⟩
 ·simp only[if_true]at K
  subst K;have L:0<m->k.spot=none:=λW=>by
   obtain⟨E,M,N⟩:=u 0 W;rw[hn]at M;obtain⟨_,X,F⟩:=World.cells?_some M;have:=F 0 p;rw[Z1 ω]at this;have:=World.cell?_spot this;simpa[Addr.add] using this
  have key:∀i,i<len->∃a,U a/\(enc a).length=n/\(∀d,d<n->∃z,cel w k.block (k.off+(i*n+d))=some z)/\k.spot=none/\cI w (ALL w) NO (enc a) (λd=>(cel w k.block (k.off+(i*n+d))).getD undef):=λi hil=>by
   have g:=L ω;obtain⟨E,M,N⟩:=u i ω;rw[hn]at M;obtain⟨h1,a,h3,h4,h5⟩:=V _ _ _ N;obtain⟨_,X,F⟩:=World.cells?_some M;have O:∀d,k.add d = ⟨k.block,k.off+d,none⟩:=λd=>by
    obtain⟨b,o,sp⟩:=k;simp only at g;subst g;unfold Addr.add;split<;>simp_all
   have A:∀d,d<n->cel w k.block (k.off+(i*n+d))=E[d]?:=λd J=>by
    have:=F d J;rw[Go.Deep.add_add,O]at this;exact this
   refine⟨a,h3,h4,λd J=>⟨_,by rw[A d J,Z1 ω]⟩,g,h5.congr λd J=>?_⟩;show(cel w k.block (k.off+(i*n+d))).getD undef=E.getD d undef;rw[A d ω,List.getD]
  obtain⟨l,Q,B⟩:=pick (α:=α) len key;refine⟨rfl,l,⟨by simp only[maxLen]at hm;omega,λy R=>?_⟩,rfl,Ao ?_⟩
  ·obtain⟨i,G⟩:=List.mem_iff_getElem?.1 R
   exact(B i y G).1
  ·show ec w (ALL w) NO (.s .imm (l.map enc)) (.slice (some k) len m)
   by_cases h0:len=0
   ·subst h0
    have:l=[]:=O6 Q;subst this;by_cases Y:m=0
    ·subst Y;exact .nil _ _ _ trivial
    ·have g:=L ω
     obtain⟨b,o,sp⟩:=k;simp only at g;subst g;exact .imm _ b o n 0 m [] (λ_=>undef) rfl (λr Z=>by simp at Z) hl (λq hq=>by simp at hq) (λi j r c u=>by simp at u)
   ·obtain⟨y0,hy0⟩ : ∃y,l[0]? = some y:=⟨_,Z1 ω⟩
    have g:=(B 0 y0 hy0).2.2.2.1;obtain⟨b,o,sp⟩:=k;simp only at g;subst g;refine .imm _ b o n len m (l.map enc) (λq=>(cel w b (o+q)).getD undef) (by simpa using Q) (λr Z=>?_) hl (λq hq=>?_) (λi j r c u hj=>?_)
    ·obtain⟨y,R,rfl⟩:=Z3.1 Z
     obtain⟨i,G⟩:=List.mem_iff_getElem?.1 R;exact(B i y G).2.1
    ·have hqd:q / n<len:=(Nat.div_lt_iff_lt_mul p).2 hq
     obtain⟨y,R⟩ : ∃y,l[q / n]? = some y:=⟨_,Z1 ω⟩
     obtain⟨z,S⟩:=(B _ y R).2.2.1 (q % n) (Nat.mod_lt _ p);have J:q / n*n+q % n=q:=by rw[Nat.mul_comm];exact Nat.div_add_mod q n
     rw[J]at S;exact⟨NG S,by simp only at S |-;rw[S];rfl⟩
    ·rw[Z2]at u
     cases H:l[i]? with
     | none=>rw[H]at u;cases u
     | some y=>
      rw[H]at u;simp only[W4,W0]at u;subst u;obtain⟨f,h1,h2,-⟩:=(B i y H).2.2.2.2;have hjl:=(C2.1 hj).1;exact(h1 j c hj).mono (λ_ _ h=>h) (h2 j hjl)
theorem row_val{S F:ac}{x:Value}{u:Nat->Value}(h:cI w S F [.v x] u):u 0=x:=by
 obtain⟨f,a,-⟩:=h;have:=a 0 _ rfl;cases this
 rfl
end
open Go.RowKit Go.ChangeShapes Go.WideShapes
section
variable{H:Type}{e:TypeId × Value->H}{P:Program}{w:World}
theorem Mh{t:Nat}(b:P.underlying t=some (.int .u8)):Qe e P w t 1 rU (λz=>0<=z/\z<=255):=by
 intro fuel c x h;obtain⟨n,rfl,-,a⟩:=DataW.trod_int b h;refine⟨rfl,n,?_,rfl,Ao (.v _ _ rfl)⟩;simp only[Lit.wf,I0,C0]at a;exact a
theorem op_ByteS:Qe e Tryz.prog w 22 1 (λzs:List Int=>[.s .imm (zs.map rU)]) (λzs=>zs.length<=9223372036854775807/\∀y∈zs,0<=y/\y<=255):=L2 (Mh Tryz.underlying5) Tryz.underlying22 (by kernel_rfl) (by decide)
end
end Go.Proofs.YtembpgjjnioagaaGreat.Ab
