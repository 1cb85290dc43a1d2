/- An object allocated: the reference's. No condition. -/
import Derived.Test.YtembpgjjnioagaaGreatId
import Derived.Test.YtembpgjjnioagaaGreatIg
import Derived.Test.YtembpgjjnioagaaGreatIf
import Derived.Test.YtembpgjjnioagaaGreatIe
import Derived.ProofKit
import Derived.OpenShut
import Derived.Deep.Slices
import Derived.Deep.Fields
import Derived.ChangeSame
import Derived.WideShapes
set_option linter.unusedVariables false
set_option linter.unusedSimpArgs false
set_option linter.constructorNameAsVariable false
namespace Go.Proofs.YtembpgjjnioagaaGreat.Ab
open Go.RowKit
set_option maxRecDepth 20000
set_option maxHeartbeats 4000000
theorem bn.objSz{h:ac}{E:List Int}(a:bn h E):∀o∈h.Objs,0<=o.Size/\o.Size<=1000:=λx c=>by
 rcases a.oow x c with⟨s,d,e,f⟩|⟨l,b,g,i⟩
 ·have j:=aE (a.L.sok s d)
  have:=uW (n:=x.Size) ω;omega
 ·have k:=ci (a.L.lok l b)
  omega
theorem G0{h:ac}(t:Int){size:Int}(c:bn h [])(d:9<=size/\size<=1000):oE h t size=if(FZ h size).2<0 then((FZ h size).1,-1,4) else(addO (FZ h size).1 (FZ h size).2 size t,(FZ h size).2,0):=by
 unfold oE FZ;by_cases a:(ay h.Free (kQ size:Nat)).2.2=false
 ·rw[C7 a,C7 a]
  exact(C7 (show(-1:Int)<0 by decide)).symm
 ·rw[C6 a,C6 a]
  obtain⟨e,-⟩:=jZ c (show(1:Int)<=(kQ size:Nat) by unfold kQ;omega) (by simpa using a);by_cases b:(ik h size).2=kQ size
  ·rw[C7 b,C7 b]
   exact(C6 (show ¬16*(ay h.Free (kQ size:Nat)).2.1<0 by omega)).symm
  ·rw[C6 b,C6 b]
   exact(C7 (show(-1:Int)<0 by decide)).symm
theorem wM(h:ac)(t size:Int)(k:bn h []):aQ Tryz.prog 143 false [.ptr (bu h),.val none [I t],.val none [I size]] [.ptr (bu (fW h t size).1),.val none [I t],.val none [I size]] (.tup [none,none]) [I (fW h t size).2.1,I (fW h t size).2.2]:=by
 have X:=k.lens;have hlc:=X.caches;have P:=X.objs;have p:=k.nums;unfold ca at p;rw[C0]at p;have Q:=ru k.objSz h.Objs.length (Z1 _);change 0<=tJ h/\tJ h<=_ at Q;have n:=aD t 0 ((h.Caches.length:Int) - 1);have r:=aD size 1 1000;have E:=th h k.objSz ω;have F:=je size;refine fM 119 [(234,[2,0,0]),(235,[2,0])] [(7,10,[36,37,38,39,40,41,42,43,44,45]),(18,272,[81,82,83,84,85,86,87,89,90,91,92,93,94,95,96,97,0,1,2,3,4,5,6,8,9,10,11,12,13,14,15,16,1016,7,1008,1009,1010,1011,1012,1013,1014,1015,1016,17,18]),(1048594,0,[8])] [(0,0),(0,0),(0,0)] Tryz.func143 rfl (λu q=>?_) (.inr ⟨trivial,trivial,trivial⟩);unfold fW;by_cases h1:1000000<=h.Next
 ·rw[C7 (.inl h1)]
  repeat'(first|refine gD ?_|(conv=>whnf);first|refine C8 ?_)
  refine CC rfl rfl ?_;exact wC
 by_cases h2:90000<h.Kernel.Calls
 ·rw[C7 (.inr h2)]
  repeat'(first|refine gD ?_|(conv=>whnf);first|with_reducible refine Bf.D (λb=>?_) (λb=>?_)|refine C8 ?_)
  refine CC rfl rfl ?_;exact wC
 rw[C6 ω];by_cases C:¬(0<=t/\t<=h.Caches.length - 1)
 ·rw[C7 C]
  rw[O0 C]at n
  repeat'(first|refine gD ?_|(conv=>whnf);first|with_reducible refine Bf.D (λb=>?_) (λb=>?_)|refine C8 ?_|refine C5 (n) ?_)
  refine CC rfl rfl ?_;exact wC
 rw[C6 C];replace C:=Decidable.not_not.1 C;rw[N0 C]at n;by_cases B:¬(1<=size/\size<=1000)
 ·rw[C7 B]
  rw[O0 B]at r
  repeat'(first|refine gD ?_|(conv=>whnf);first|with_reducible refine Bf.D (λb=>?_) (λb=>?_)|refine C8 ?_|refine C5 (n) ?_|refine C5 (r) ?_)
  refine CC rfl rfl ?_;exact wC
 rw[C6 B];replace B:=Decidable.not_not.1 B;rw[N0 B]at r;by_cases Y:h.Limit<tJ h+size
 ·rw[C7 Y]
  repeat'(first|refine gD ?_|(conv=>whnf);first|with_reducible refine Bf.D (λb=>?_) (λb=>?_)|refine C8 ?_|refine C5 (n) ?_|refine C5 (r) ?_|refine CD (E) ⟨⟨rfl,bz h⟩,trivial⟩ ?_|refine C8 ?_)
  refine CC rfl rfl ?_;exact wC
 rw[C6 Y];by_cases G:0<=aN size
 ·rw[C7 G]
  have hc3:aN size<=3:=by unfold aN;repeat' split<;>omega
  obtain⟨T,rfl⟩:=V1 C.1;obtain⟨K,hK⟩:=V1 G;have o:=wt h T K k ω ω ω;have s:=wZ (t:=T) (c:=K) k ω ω ω;rw[hK]at F |-;simp only[U1];generalize fX h T K=w at o s |-;obtain⟨g,a⟩:=w;have H:g.Next=h.Next:=s.nx;simp only at o |-;by_cases J:a<0
  ·rw[C7 J]
   repeat'(first|refine gD ?_|(conv=>whnf);first|with_reducible refine Bf.D (λb=>?_) (λb=>?_)|refine C8 ?_|refine C5 (n) ?_|refine C5 (r) ?_|refine CD (E) ⟨⟨rfl,bz h⟩,trivial⟩ ?_|refine C8 ?_|refine C5 (F) ?_|refine CF (o) (.inl rfl) ?_)
   refine CC rfl rfl ?_;exact wC
  ·rw[C6 J]
   obtain⟨k1,k2⟩:=s.yes (show(0:Int)<=a by omega);have R:g.Objs.length<=512:=k1.lens.objs
   repeat'(first|refine gD ?_|(conv=>whnf);first|with_reducible refine Bf.D (λb=>?_) (λb=>?_)|refine C8 ?_|refine C5 (n) ?_|refine C5 (r) ?_|refine CD (E) ⟨⟨rfl,bz h⟩,trivial⟩ ?_|refine C8 ?_|refine C5 (F) ?_|refine CF (o) (.inl rfl) ?_)
   (conv=>whnf)
   refine CB (ι:=Nat) (λi=>[(0,.hold .box (bu g)),(1,.hold .one [I ((T:Nat):Int)]),(2,.hold .one [I (size)]),(8,.hold .one [I (a)]),(9,.hold .one [I ((i:Nat):Int)])]) (λi=>i<=g.Objs.length/\∀(j:Nat)(z:bG),j<i->g.Objs[j]? = some z->JE a z=false) (λi=>g.Objs.length - i) (0) ?_ (⟨P0 _,λj z hj=>ω⟩) λi k=>?_
   ·exact wC
   obtain⟨S,L⟩:=k;by_cases U:i<g.Objs.length/\(nth g.Objs i).Addr<a
   ·have d:=ah U.1
    repeat'(first|refine gD ?_|(conv=>whnf);first|with_reducible refine C9 (aa d) ?_|refine C8 ?_|refine CE rfl (aa d) rfl ?_)
    ((conv=>whnf);refine CA (i+1) ⟨ω,cW d (O0 ω) L⟩ ω ?_;(exact wC))
   ·have l:jh (JE a) g.Objs=i:=sQ ω L λz M=>by
     have V:=(P1.1 M).1;have:z=nth g.Objs i:=(bp M).symm;subst this;exact N0 ω
    have d:i<g.Objs.length->g.Objs[i]? = some (nth g.Objs i):=λW=>ah W
    rw[show addO g a size (T:Nat) = {g with Objs:=g.Objs.take i++⟨g.Next,a,size,(T:Nat)⟩::g.Objs.drop i,Next:=g.Next+1} by unfold addO;rw[sZ l]]
    repeat'(first|refine gD ?_|(conv=>whnf);first|with_reducible (first|refine C9 (aa (d ω)) ?_|refine Bf.D (λb=>?_) (λb=>?_))|refine C8 ?_|refine CE rfl (aa (d ω)) rfl ?_|refine DQ.mk rfl (zo g.Objs) rfl ?_|refine CR i rfl (by rw[T0];omega) (aR λ_=>rfl) v3 ?_|refine Sl.suf i rfl (by rw[T0];omega) (aR λ_=>rfl) z3 ?_|refine CN (λ_=>rfl) (λ_=>rfl) (by rw[Z0];omega) (by decide) ?_|refine Ap.sn (aR λ_=>rfl) rfl (by rw[T0,Z0];omega) (by decide) rfl ?_|refine Ap.ins (e:=bG.enc .imm) (y:=⟨g.Next,a,size,(T:Nat)⟩) rfl (λ_=>rfl) (λ_=>rfl) ω (by decide) ?_|refine C8 ?_)
    all_goals
     refine CC rfl rfl ?_;exact wC
 ·rw[C6 G]
  have N:9<=size:=by unfold aN at G;repeat' split at G<;>omega
  have o:=ww h size k ⟨N,B.2⟩ ω;rw[G0 t k ⟨N,B.2⟩];have Z:(FZ h size).1.Next=h.Next/\(FZ h size).1.Objs=h.Objs:=by
   unfold FZ;split
   ·exact⟨rfl,rfl⟩
   ·split<;>exact⟨rfl,rfl⟩
  generalize FZ h size=w at o Z |-;obtain⟨g,a⟩:=w;obtain⟨H,O⟩:=Z;simp only at o H O |-;have R:g.Objs.length<=512:=by rw[O];exact P
  by_cases J:a<0
  ·rw[C7 J]
   repeat'(first|refine gD ?_|(conv=>whnf);first|with_reducible refine Bf.D (λb=>?_) (λb=>?_)|refine C8 ?_|refine C5 (n) ?_|refine C5 (r) ?_|refine CD (E) ⟨⟨rfl,bz h⟩,trivial⟩ ?_|refine C8 ?_|refine C5 (F) ?_|refine CF (o) (.inl rfl) ?_)
   refine CC rfl rfl ?_;exact wC
  ·rw[C6 J]
   repeat'(first|refine gD ?_|(conv=>whnf);first|with_reducible refine Bf.D (λb=>?_) (λb=>?_)|refine C8 ?_|refine C5 (n) ?_|refine C5 (r) ?_|refine CD (E) ⟨⟨rfl,bz h⟩,trivial⟩ ?_|refine C8 ?_|refine C5 (F) ?_|refine CF (o) (.inl rfl) ?_)
   (conv=>whnf)
   refine CB (ι:=Nat) (λi=>[(0,.hold .box (bu g)),(1,.hold .one [I (t)]),(2,.hold .one [I (size)]),(8,.hold .one [I (a)]),(9,.hold .one [I ((i:Nat):Int)])]) (λi=>i<=g.Objs.length/\∀(j:Nat)(z:bG),j<i->g.Objs[j]? = some z->JE a z=false) (λi=>g.Objs.length - i) (0) ?_ (⟨P0 _,λj z hj=>ω⟩) λi k=>?_
   ·exact wC
   obtain⟨S,L⟩:=k;by_cases U:i<g.Objs.length/\(nth g.Objs i).Addr<a
   ·have d:=ah U.1
    repeat'(first|refine gD ?_|(conv=>whnf);first|with_reducible refine C9 (aa d) ?_|refine C8 ?_|refine CE rfl (aa d) rfl ?_)
    ((conv=>whnf);refine CA (i+1) ⟨ω,cW d (O0 ω) L⟩ ω ?_;(exact wC))
   ·have l:jh (JE a) g.Objs=i:=sQ ω L λz M=>by
     have V:=(P1.1 M).1;have:z=nth g.Objs i:=(bp M).symm;subst this;exact N0 ω
    have d:i<g.Objs.length->g.Objs[i]? = some (nth g.Objs i):=λW=>ah W
    rw[show addO g a size t = {g with Objs:=g.Objs.take i++⟨g.Next,a,size,t⟩::g.Objs.drop i,Next:=g.Next+1} by unfold addO;rw[sZ l]]
    repeat'(first|refine gD ?_|(conv=>whnf);first|with_reducible (first|refine C9 (aa (d ω)) ?_|refine Bf.D (λb=>?_) (λb=>?_))|refine C8 ?_|refine CE rfl (aa (d ω)) rfl ?_|refine DQ.mk rfl (zo g.Objs) rfl ?_|refine CR i rfl (by rw[T0];omega) (aR λ_=>rfl) v3 ?_|refine Sl.suf i rfl (by rw[T0];omega) (aR λ_=>rfl) z3 ?_|refine CN (λ_=>rfl) (λ_=>rfl) (by rw[Z0];omega) (by decide) ?_|refine Ap.sn (aR λ_=>rfl) rfl (by rw[T0,Z0];omega) (by decide) rfl ?_|refine Ap.ins (e:=bG.enc .imm) (y:=⟨g.Next,a,size,t⟩) rfl (λ_=>rfl) (λ_=>rfl) ω (by decide) ?_|refine C8 ?_)
    all_goals
     refine CC rfl rfl ?_;exact wC
theorem D8(h:ac)(a n:Int)(t:h.Larges.length<=4096)(j:∀l∈h.Larges,bP l=true)(o:vT h a<0):aQ Tryz.prog 358 false [.ptr (bu h),.val none [I a],.val none [I n]] [.ptr (bu h),.val none [I a],.val none [I n]] .one [B false]:=by
 have b:∀l∈h.Larges,l.Page*16≠a:=λl c e=>by
  have:=A3 (p:=Fb a) c (N0 e);unfold vT at o;omega
 refine fM 136 [(297,[2,0])] [(8,6,[49,50,51,52,53,54]),(9,10,[56,57,58,59,60,61,62,63,64,65]),(20,270,[123,124,125,126,127,128,129,130,131,122,132,133,134,135,0,1,2,3,4,5,6,7,8,9,10,11,12,13,14,1011])] [(0,0),(0,0),(0,0)] Tryz.func358 rfl (λu q=>?_)
 repeat'(first|refine gO ?_|(conv=>whnf);first|refine C8 ?_)
 (conv=>whnf)
 refine CB (ι:=Nat) (λk=>[(0,.hold .box (bu h)),(1,.hold .one [I (a)]),(2,.hold .one [I (n)]),(7,.hold .one [I ((k:Nat):Int)])]) (λk=>k<=h.Larges.length) (λk=>h.Larges.length - k) (0) ?_ (P0 _) λk w=>?_
 ·repeat'(first|exact trivial|rfl |exact nj r|exact nj g|exact dE _|refine CG ?_ ?_|(exact AQ (by first|omega|(simp only;omega)|(simp;omega))))
 by_cases d:k<h.Larges.length
 ·have i:=ah d
  have y:=b _ (am d);have C:=aT (j _ (am d))
  repeat'(first|refine gA ?_|(conv=>whnf);first|with_reducible refine C9 (aa i) ?_|refine C8 ?_|refine CE rfl (aa i) rfl ?_)
  ((conv=>whnf);refine CA (k+1) ω ω ?_;(exact wC))
 ·repeat'(first|refine gD ?_|(conv=>whnf);first|refine C8 ?_)
  refine CC rfl rfl ?_;exact wC
theorem L9(h:ac)(a:Int)(m:Nat):bu {h with Kernel:=zK h.Kernel a (m+1)} = (bu {h with Kernel:=zK h.Kernel a m}).set 0 (.s .own (((zK h.Kernel a m).Machine.Frames.Cells.map (aF .own)).set (ar (zK h.Kernel a m).Machine.Table ((a+m) / 16)).Frame.toNat ((aF .own (nth (zK h.Kernel a m).Machine.Frames.Cells (fD (zK h.Kernel a m) (a+m)))).set 0 (.s .own (((nth (zK h.Kernel a m).Machine.Frames.Cells (fD (zK h.Kernel a m) (a+m))).map (rI .own)).set ((a+m) % 16).toNat (splice (rI .own (nth (nth (zK h.Kernel a m).Machine.Frames.Cells (fD (zK h.Kernel a m) (a+m))) ((a+m) % 16).toNat)) 0 [I 0])))))):=
 E6 {h with Kernel:=zK h.Kernel a m} (a+m) 0
def jW(h:ac)(i k:Nat)(n:Int)(K:af):ac:={h with Kernel:=K,Larges:=h.Larges.set k (trimL (nth h.Larges k) n),Objs:=h.Objs.set i {nth h.Objs i with Size:=n}}
theorem FT(h:ac)(i k:Nat)(n:Int)(K:af):(jW h i k n K).Objs.map (bG.enc .own)=(h.Objs.map (bG.enc .own)).set i (splice (bG.enc .own (nth h.Objs i)) 2 [I n]):=by
 simp[jW,I4,bG.enc,splice]
theorem pq(h:ac)(i:Nat)(n:Int)(j:bn h [])(H:i<h.Objs.length)(hg:0<=vT h (nth h.Objs i).Addr):aQ Tryz.prog 358 false [.ptr (bu h),.val none [I (nth h.Objs i).Addr],.val none [I n]] [.ptr (bu (if jV h i n then trimH h i (vT h (nth h.Objs i).Addr).toNat n else h)),.val none [I (nth h.Objs i).Addr],.val none [I n]] .one [B (decide (jV h i n))]:=by
 have c:=j.lens;have hnl:=c.larges;have hno:=c.objs;have hpg:dG h<=32:=c.ents;obtain⟨f1,f2,f3⟩:=eL (Fb (nth h.Objs i).Addr) h.Larges hg;obtain⟨g,o⟩:=V1 hg;have b:g<h.Larges.length:=by unfold vT at o;omega
 have Y:(nth h.Larges g).Page*16=(nth h.Objs i).Addr:=by
  have:=of_decide_eq_true f2;rw[show(cQ (Fb (nth h.Objs i).Addr) h.Larges).toNat=g by unfold vT at o;omega]at this;exact this
 have J:∀k,k<g->(nth h.Larges k).Page*16≠(nth h.Objs i).Addr:=λk hk e=>by
  have N:k<h.Larges.length:=ω
  have hok1:=aT (j.L.lok _ (am N));have hok2:=aT (j.L.lok _ (am b));have:=j.L.one k g N b 0 0 ω ω ω;omega
 have p:jV h i n↔9<=n/\n<=(nth h.Larges g).Size:=by
  unfold jV;rw[o,U1];exact⟨λx=>x.2,λx=>⟨ω,x⟩⟩
 rw[o,U1];have hbd:=oz j (am H);obtain⟨-,Z,w⟩:=j.objAt (am H);have hii:m6 h (nth h.Objs i).Addr=i:=by
  have h2:=(j.objAt (am H)).1;exact fG (f:=(·.Addr)) (fK j.osr) h2 H (by rw[Z])
 rw[hii]at w;have E:=ah H;have hxg:=ah b;have V:=vd (nth h.Larges g) n (j.L.lok _ (am b));have h8:=j.L.lok _ (am b);unfold bP at h8;rw[C0]at h8;refine fM 136 [(297,[2,0])] [(8,6,[49,50,51,52,53,54]),(9,10,[56,57,58,59,60,61,62,63,64,65]),(20,270,[123,124,125,126,127,128,129,130,131,122,132,133,134,135,0,1,2,3,4,5,6,7,8,9,10,11,12,13,14,1011])] [(0,0),(0,0),(0,0)] Tryz.func358 rfl (λu q=>?_)
 repeat'(first|refine gO ?_|(conv=>whnf);first|refine C8 ?_)
 (conv=>whnf)
 refine CB (ι:=Nat) (λk=>[(0,.hold .box (bu h)),(1,.hold .one [I ((nth h.Objs i).Addr)]),(2,.hold .one [I (n)]),(7,.hold .one [I ((k:Nat):Int)])]) (λk=>k<=g) (λk=>g - k) (0) ?_ (P0 _) λk hk=>?_
 ·repeat'(first|exact trivial|rfl |exact nj r|exact nj d|exact dE _|refine CG ?_ ?_|(exact AQ (by first|omega|(simp only;omega)|(simp;omega))))
 have l:=ah (xs:=h.Larges) (i:=k) ω;have hfk:=aT (j.L.lok _ (am (xs:=h.Larges) (i:=k) ω));by_cases e:k=g;rotate_left
 ·have hne:=J k ω
  repeat'(first|refine gA ?_|(conv=>whnf);first|with_reducible refine C9 (aa l) ?_|refine C8 ?_|refine CE rfl (aa l) rfl ?_)
  ((conv=>whnf);refine CA (k+1) ω ω ?_;(exact wC))
 subst e;by_cases F:9<=n/\n<=(nth h.Larges k).Size;rotate_left
 ·rw[C6 (by rw[p];exact F),O0 (by rw[p];exact F)]
  rw[C6 F]at V
  repeat'(first|refine gA ?_|(conv=>whnf);first|with_reducible refine C9 (aa l) ?_|refine C8 ?_|refine CE rfl (aa l) rfl ?_|refine C5 (V) ?_)
  refine CC rfl rfl ?_;exact wC
 rw[C7 (by rw[p];exact F),N0 (by rw[p];exact F)];rw[C7 F]at V;have y:=λm hm=>AJ j b F (m:=m) hm
 have D:=λm=>(vE h.Kernel (16*(nth h.Larges k).Page+n) m).1
 have O:=λa W=>nk j b (a:=a) W
 have hsz:n<=16*(nth h.Larges k).Pages:=ω
 generalize hM:(16*((n+15) / 16) - n).toNat=M at *;have hfl:∀m,(zK h.Kernel (16*(nth h.Larges k).Page+n) m).Machine.Frames.Cells.length=h.Kernel.Machine.Frames.Cells.length:=λm=>by
  induction m with
  | zero=>rfl
  | succ m ih=>show(List.set _ _ _).length=_;rw[X0];exact ih
 have cO:=oB {h with Larges:=h.Larges.set k (trimL (nth h.Larges k) n)} (nth h.Objs i).Addr (by show h.Objs.length<=_;omega);change ao _ _ _ [.val (some 24) (ac.enc .imm {h with Larges:=h.Larges.set k (trimL (nth h.Larges k) n)}),_] _ [I (cQ (dU (nth h.Objs i).Addr) h.Objs)]at cO;rw[w]at cO;have Q:=bz {h with Larges:=h.Larges.set k (trimL (nth h.Larges k) n)};have heL:bu {h with Larges:=h.Larges.set k (trimL (nth h.Larges k) n)} = (bu h).set 7 (.s .own ((h.Larges.map (a8.enc .own)).set k (a8.enc .own (trimL (nth h.Larges k) n)))):=by simp[bu,I4]
 rw[heL]at Q
 repeat'(first|refine gA ?_|(conv=>whnf);first|with_reducible (first|refine C9 (aa l) ?_|refine C9 (aa E) ?_)|refine C8 ?_|refine CE rfl (aa l) rfl ?_|refine C5 (V) ?_|refine CK rfl rfl (aa l) rfl (U0 rfl) rfl ?_|refine CD (cO) ⟨⟨rfl,Q⟩,⟨rfl,rfl⟩,trivial⟩ ?_|refine CK rfl rfl (aa E) rfl (U0 rfl) rfl ?_|refine CE rfl (aa E) rfl ?_|refine C8 ?_)
 rw[<-Y];have e0:jW h i k n h.Kernel=jW h i k n (zK h.Kernel (16*(nth h.Larges k).Page+n) 0):=rfl;have r:C.s .own ((jW h i k n (zK h.Kernel (16*(nth h.Larges k).Page+n) 0)).Larges.map (a8.enc .own))=C.s .own ((h.Larges.map (a8.enc .own)).set k (a8.enc .own (trimL (nth h.Larges k) n))):=by simp[jW,I4]
 have d:C.s .own ((jW h i k n (zK h.Kernel (16*(nth h.Larges k).Page+n) 0)).Objs.map (bG.enc .own))=C.s .own ((h.Objs.map (bG.enc .own)).set i (splice (bG.enc .own (nth h.Objs i)) 2 [I n])):=Q0 _ (FT h i k n _)
 (conv=>whnf)
 refine CB (ι:=Nat) (λm=>[(0,.hold .box (bu (jW h i k n (zK h.Kernel (16*(nth h.Larges k).Page+n) m)))),(1,.hold .one [I (((nth h.Larges k).Page*16))]),(8,.hold .box (a8.enc .own (trimL (nth h.Larges k) n))),(9,.hold .box (a7.enc .own (ue (nth h.Larges k) n))),(11,.hold .one [I (((16*(nth h.Larges k).Page+n)+(m:Nat)))])]) (λm=>m<=M) (λm=>M - m) (0) ?_ (P0 _) λm hm=>?_
 ·repeat'(first|exact trivial|rfl |exact nj r|exact nj d|exact dE _|refine CG ?_ ?_|(exact AQ (by first|omega|(simp only;omega)|(simp;omega))))
 have hmod:IntKind.i64.wrap 0=0:=rfl;by_cases lm:m<M
 ·have W:0<=(16*(nth h.Larges k).Page+n)+(m:Nat)/\(16*(nth h.Larges k).Page+n)+(m:Nat)<512:=ω
  have R:=O ((16*(nth h.Larges k).Page+n)+(m:Nat)) ω;have t:=y m hm;rw[<-D m]at R;have hks:=b8 t;have c2:=cH (zK h.Kernel (16*(nth h.Larges k).Page+n) m).Machine.Table (((16*(nth h.Larges k).Page+n)+(m:Nat)) / 16) hks.1.2;obtain⟨-,-,-,q0,q1⟩:=co t R;have hul:=(bf.1 (aC.1 t).2.1).2.2.1;have S:fD (zK h.Kernel (16*(nth h.Larges k).Page+n) m) ((16*(nth h.Larges k).Page+n)+(m:Nat))<(zK h.Kernel (16*(nth h.Larges k).Page+n) m).Machine.Frames.Cells.length:=by unfold fD;omega
  have G:(zK h.Kernel (16*(nth h.Larges k).Page+n) m).Machine.Frames.Cells[(ar (zK h.Kernel (16*(nth h.Larges k).Page+n) m).Machine.Table (((16*(nth h.Larges k).Page+n)+(m:Nat)) / 16)).Frame.toNat]? = some _:=ah S;have h16:=(y5 t S).1;have T:=ah (xs:=nth (zK h.Kernel (16*(nth h.Larges k).Page+n) m).Machine.Frames.Cells (fD (zK h.Kernel (16*(nth h.Larges k).Page+n) m) ((16*(nth h.Larges k).Page+n)+(m:Nat)))) (i:=(((16*(nth h.Larges k).Page+n)+(m:Nat)) % 16).toNat) (by rw[h16];omega);have htm:((16*(nth h.Larges k).Page+n)+(m:Nat)).tmod 16=((16*(nth h.Larges k).Page+n)+(m:Nat)) % 16:=f8 W.1;have hpu:=L9 (jW h i k n h.Kernel) (16*(nth h.Larges k).Page+n) m;have hwr:=od W;have hst:(trimL (nth h.Larges k) n).Pages=(n+15) / 16:=rfl
  repeat'(first|refine gD ?_|(conv=>whnf);first|refine C8 ?_|refine CJ (by decide) ?_|refine CH hwr ?_|refine CP htm ?_|refine CD (c2) ⟨⟨rfl,CT _⟩,⟨rfl,rfl⟩,trivial⟩ ?_|refine CI q0 (aa G) ?_|refine CE rfl (aa G) rfl ?_|refine CI ω (aa T) ?_|refine Pu.two rfl rfl (aa G) rfl rfl rfl (aa T) rfl (Z1 _) hpu ?_)
  ((conv=>whnf);refine CA (m+1) ω ω ?_;(exact wC))
 obtain rfl:m=M:=ω
 have hst:(trimL (nth h.Larges k) n).Pages=(n+15) / 16:=rfl;have hkM:=y m (Z1 _);have U:(zK h.Kernel (16*(nth h.Larges k).Page+n) m).Machine.Table.Entries.length=dG h:=by rw[D];rfl
 have hTK:so h k n=zK h.Kernel (16*(nth h.Larges k).Page+n) m:=by unfold so;rw[hM]
 unfold trimH Ff;rw[hTK];generalize zK h.Kernel (16*(nth h.Larges k).Page+n) m=K at *;have hN:((d3 (nth h.Larges k) n:Nat):Int)=(nth h.Larges k).Pages - (n+15) / 16:=by unfold d3;omega
 have hrA:0<d3 (nth h.Larges k) n->ue (nth h.Larges k) n = ⟨(nth h.Larges k).Page+(n+15) / 16,(d3 (nth h.Larges k) n:Nat)⟩:=λhp=>by unfold ue;rw[C7 ω,hN]
 have hrB:¬0<d3 (nth h.Larges k) n->ue (nth h.Larges k) n = ⟨0,0⟩:=λhp=>by unfold ue;rw[C6 ω]
 generalize d3 (nth h.Larges k) n=P at *;by_cases X:0<P
 ·rw[C7 X]
  have hr:=hrA X;rw[hr]
  repeat'(first|refine gD ?_|(conv=>whnf);first|refine C8 ?_)
  (conv=>whnf)
  refine CB (ι:=Nat) (λx=>[(0,.hold .box (bu (jW h i k n (dH K ((nth h.Larges k).Page+(n+15) / 16) x)))),(9,.hold .box ([I ((nth h.Larges k).Page+(n+15) / 16),I (P:Nat)])),(13,.hold .one [I (((nth h.Larges k).Page+(n+15) / 16+(x:Nat)))])]) (λx=>x<=P) (λx=>P - x) (0) ?_ (P0 _) λx l=>?_
  ·repeat'(first|exact trivial|rfl |exact nj r|exact nj d|exact dE _|refine CG ?_ ?_|(exact AQ (by first|omega|(simp only;omega)|(simp;omega))))
  by_cases lx:x<P
  ·have c3:=lb (jW h i k n (dH K ((nth h.Larges k).Page+(n+15) / 16) x)) ((nth h.Larges k).Page+(n+15) / 16+(x:Nat)) (jM hkM _ _)
   repeat'(first|refine gD ?_|(conv=>whnf);first|refine C8 ?_|refine CF (c3) (.inl rfl) ?_)
   ((conv=>whnf);refine CA (x+1) ω ω ?_;(exact wC))
  ·obtain rfl:x=P:=ω
   have c4:=gf (jW h i k n (dH K ((nth h.Larges k).Page+(n+15) / 16) x));rw[show dG (jW h i k n (dH K ((nth h.Larges k).Page+(n+15) / 16) x))=dG h from(gS _ _ _).1.trans U]at c4;have c5:=ko (dG h:Nat) h.Free ⟨(nth h.Larges k).Page+(n+15) / 16,(x:Nat)⟩ ⟨ω,ω⟩ ⟨by have:=c.free;omega,λ_ _=>trivial⟩
   repeat'(first|refine gD ?_|(conv=>whnf);first|refine C8 ?_|refine CD (c4) ⟨bz _,trivial⟩ ?_|refine CD (c5) ⟨⟨rfl,rfl⟩,⟨rfl,d8 h.Free⟩,⟨rfl,rfl⟩,trivial⟩ ?_|refine C8 ?_)
   refine CC rfl rfl ?_;exact wC
 ·rw[C6 X]
  obtain rfl:P=0:=ω
  have hr:=hrB X;rw[hr]
  repeat'(first|refine gD ?_|(conv=>whnf);first|refine C8 ?_)
  (conv=>whnf)
  refine CB (ι:=Nat) (λx=>[(0,.hold .box (bu (jW h i k n K))),(9,.hold .box ([I 0,I 0])),(13,.hold .one [I (0)])]) (λx=>x=0) (λx=>0) (0) ?_ (rfl) λx l=>?_
  ·repeat'(first|exact trivial|rfl |exact nj r|exact nj d|exact dE _|refine CG ?_ ?_|(exact AQ (by first|omega|(simp only;omega)|(simp;omega))))
  subst l
  repeat'(first|refine gD ?_|(conv=>whnf);first|refine C8 ?_)
  refine CC rfl rfl ?_;exact wC
theorem v7{α:Type}(a:α)(k:Nat):List.replicate (k+1) a=List.replicate k a++[a]:=List.replicate_succ' ..
theorem tS(n k:Nat):aZ.enc .own ⟨List.replicate k (List.replicate 16 0),List.replicate n false⟩ = [.s .own (List.replicate k [.s .own (List.replicate 16 [I 0])]),.s .own (List.replicate n [B false])]:=by
 simp[aZ.enc,aF,rI,rB,List.map_replicate]
theorem tg(n:Nat)(e:1<=n/\n<=32):ao Tryz.prog 254 false [.val none [I (n:Nat)]] (.tup [some 2,none]) (aZ.enc .own (dr n)++[B true]):=by
 have c:=aI ((n:Nat):Int) 1 32;rw[N0 ω]at c;have a:=aO (b:=[B true]) (aZ.enc_fr (dr n)) ⟨trivial,trivial⟩;rw[show aZ.enc .own (dr n)=_ from tS n n]at a |-;refine fO 25 [(7,4,[18,19,20,21])] Tryz.func254 rfl ?_ (.inr a)
 repeat'(first|refine gO ?_|(conv=>whnf);first|refine C8 ?_|refine C5 (c) ?_|refine Mk.mk n rfl rfl ω (vL ω (by decide)) rfl ?_)
 (conv=>whnf)
 refine CB (ι:=Nat) (λk=>[(0,.hold .one [I ((n:Nat))]),(2,.hold .box [.z,.z]),(4,.hold .box [.s .own (List.replicate k [.s .own (List.replicate 16 [I 0])]),.s .own (List.replicate n [B false])]),(5,.hold .one [I ((k:Nat):Int)])]) (λk=>k<=n) (λk=>n - k) (0) ?_ (P0 _) λk g=>?_
 ·exact wB
 by_cases h:k<n
 ·repeat'(first|refine gD ?_|(conv=>whnf);first|refine C8 ?_|refine Mk.mk 16 rfl rfl (by decide) (by decide) rfl ?_|refine Ap.sn (λr d=>by rw[(List.mem_replicate.1 d).2];rfl) rfl (by simp;omega) (by decide) (v7 _ k) ?_)
  ((conv=>whnf);refine CA (k+1) ω ω ?_;(exact wB))
 ·obtain rfl:k=n:=ω
  repeat'(first|refine gD ?_|(conv=>whnf);first|refine C8 ?_)
  rfl
theorem wc(n:Nat)(e:1<=n/\n<=32):ao Tryz.prog 255 false [.val none [I (n:Nat)]] (.tup [some 1,none]) (aG.enc .own (cR n)++[B true]):=by
 have c:=aI ((n:Nat):Int) 1 32;rw[N0 ω]at c;have a:=aO (b:=[B true]) (aG.enc_fr (cR n)) ⟨trivial,trivial⟩;have d:aG.enc .own (cR n)=[.s .own (List.replicate n [I 0,I 0])]:=by simp[aG.enc,cR,bj.enc,List.map_replicate]
 rw[d]at a |-;refine fO 11 [] Tryz.func255 rfl ?_ (.inr a)
 repeat'(first|refine gO ?_|(conv=>whnf);first|refine C8 ?_|refine C5 (c) ?_|refine Mk.mk n rfl rfl ω (vL ω (by decide)) rfl ?_)
 rfl
theorem sv(p f:Nat)(a:1<=p/\p<=32)(b:1<=f/\f<=32):ao Tryz.prog 186 false [.val none [I (p:Nat)],.val none [I (f:Nat)]] (.tup [some 3,none]) (aS.enc .own ⟨dr f,cR p⟩++[B true]):=by
 refine fO 30 [] Tryz.func186 rfl ?_ (.inr (aO (aS.enc_fr _) ⟨trivial,trivial⟩))
 repeat'(first|refine gO ?_|(conv=>whnf);first|refine C8 ?_|refine C5 (tg f b) ?_|refine C5 (wc p a) ?_)
 rfl
theorem ym:ao Tryz.prog 187 false [.val none [.z]] .one (aF .own []):=by
 refine fO 6 [] Tryz.func187 rfl ?_ (.inr (bM _))
 repeat'(first|refine gO ?_|(conv=>whnf);first|refine C8 ?_|refine CO (λr a=>by cases a) (λr a=>by cases a) (λ_ r a=>by cases a) (by simp) (by simp) rfl ?_)
 rfl
theorem uU(p f:Nat)(a:1<=p/\p<=32)(b:1<=f/\f<=32):ao Tryz.prog 93 false [.val none [I (p:Nat)],.val none [I (f:Nat)],.val none [.z]] (.tup [some 5,none]) (af.enc .own (br p f [])++[B true]):=by
 have c:=qd a b;have d:=oh (br p f []) (b8 c);rw[c]at d;refine fO 30 [(2,260,[17,18,19,10,0,1,2,4,3,1004,5])] Tryz.func93 rfl ?_ (.inr (aO (af.enc_fr _) ⟨trivial,trivial⟩))
 repeat'(first|refine gO ?_|(conv=>whnf);first|refine C8 ?_|refine C5 (sv p f a b) ?_|refine C5 (ym) ?_|refine CD (d) ⟨⟨rfl,CL (br p f [])⟩,trivial⟩ ?_)
 rfl
theorem EC(n:Nat):Jc [.s .own (List.replicate n [.z]),.s .own (List.replicate n [.z]),B true] (aJ.enc .own (dt n)++[B true]):=by
 have e:aJ.enc .own (dt n)++[B true]=[.s .own (List.replicate n [.s .own []]),.s .own (List.replicate n [.s .own []]),B true]:=by simp[aJ.enc,dt,cL,aF,List.map_replicate]
 rw[e];exact .cons (.rep (.cons .z_ .nil)) (.cons (.rep (.cons .z_ .nil)) (.cons (.rfl_ _) .nil))
theorem zq(n:Nat)(b:1<=n/\n<=4):ao Tryz.prog 94 false [.val none [I (n:Nat)]] (.tup [some 2,none]) (aJ.enc .own (dt n)++[B true]):=by
 have a:=aI ((n:Nat):Int) 1 4;rw[N0 ω]at a;refine fO 13 [(3,4,[8,9,10,11])] Tryz.func94 rfl ?_ (.inr (aO (aJ.enc_fr _) ⟨trivial,trivial⟩))
 repeat'((conv=>whnf);first|with_reducible (first|refine Lm ?_|refine Wm ω ?_|refine Bn ?_|refine io.dk rfl ?_)|refine Bt ?_|refine Bu ?_|refine C8 ?_|refine C5 (a) ?_|refine Mk.mk n rfl rfl ω (vL ω (by decide)) rfl ?_)
 exact EC n
theorem yi(n:Nat)(b:1<=n/\n<=4):ao Tryz.prog 351 false [.val none [I (n:Nat)]] (.tup [some 2,none]) (aJ.enc .own (dt n)++[B true]):=by
 have a:=aD ((n:Nat):Int) 1 4;rw[N0 ω]at a;refine fO 13 [(3,4,[8,9,10,11])] Tryz.func351 rfl ?_ (.inr (aO (aJ.enc_fr _) ⟨trivial,trivial⟩))
 repeat'((conv=>whnf);first|with_reducible (first|refine Lm ?_|refine Wm ω ?_|refine Bn ?_|refine io.dk rfl ?_)|refine Bt ?_|refine Bu ?_|refine C8 ?_|refine C5 (a) ?_|refine Mk.mk n rfl rfl ω (vL ω (by decide)) rfl ?_)
 exact EC n
theorem zW:Jc [.s .own (List.replicate 4 [.z])] (aB.enc .own d2):=.cons (.rep (.cons .z_ .nil)) .nil
theorem wn:ao Tryz.prog 96 false [] .agg (aB.enc .own d2):=by
 refine fO 3 [] Tryz.func96 rfl ?_ (.inr (aB.enc_fr _))
 repeat'((conv=>whnf);first|with_reducible (first|refine Lm ?_|refine Wm ω ?_|refine Bn ?_|refine io.dk rfl ?_)|refine Bt ?_|refine Bu ?_|refine C8 ?_|refine Mk.mk 4 rfl rfl (by decide) (by decide) rfl ?_)
 exact zW
theorem wh:ao Tryz.prog 352 false [] .agg (aB.enc .own d2):=by
 refine fO 3 [] Tryz.func352 rfl ?_ (.inr (aB.enc_fr _))
 repeat'((conv=>whnf);first|with_reducible (first|refine Lm ?_|refine Wm ω ?_|refine Bn ?_|refine io.dk rfl ?_)|refine Bt ?_|refine Bu ?_|refine C8 ?_|refine Mk.mk 4 rfl rfl (by decide) (by decide) rfl ?_)
 exact zW
theorem y8:ao Tryz.prog 95 false [.val none [I 16]] (.tup [some 2,none]) (bC.enc .own ⟨16,[]⟩++[B true]):=by
 refine fO 10 [] Tryz.func95 rfl ?_ (.inr (aO (bC.enc_fr _) ⟨trivial,trivial⟩))
 repeat'((conv=>whnf);first|with_reducible (first|refine Lm ?_|refine Wm ω ?_|refine Bn ?_|refine io.wk rfl ?_)|refine Bt ?_|refine Bu ?_|refine C8 ?_|refine C5 (aI 16 0 500) ?_)
 exact⟨rfl,rfl,rfl,trivial⟩
theorem pA:ao Tryz.prog 353 false [.val none [I 16]] (.tup [some 2,none]) (bC.enc .own ⟨16,[]⟩++[B true]):=by
 refine fO 10 [] Tryz.func353 rfl ?_ (.inr (aO (bC.enc_fr _) ⟨trivial,trivial⟩))
 repeat'((conv=>whnf);first|with_reducible (first|refine Lm ?_|refine Wm ω ?_|refine Bn ?_|refine io.wk rfl ?_)|refine Bt ?_|refine Bu ?_|refine C8 ?_|refine C5 (aD 16 0 500) ?_)
 exact⟨rfl,rfl,rfl,trivial⟩
def caps(h:ac)(k:Nat):ac:={h with Caches:=List.replicate k d2}
theorem xg(k:Nat):(List.replicate (k+1) d2).map (aB.enc .own)=(List.replicate k d2).map (aB.enc .own)++[aB.enc .own d2]:=by rw[v7,t4];rfl
theorem zP{k:Nat} : ∀r∈(List.replicate k d2).map (aB.enc .own),r.length=1:=aR λ_=>rfl
theorem yD(p f t:Nat)(lim:Int)(b:1<=p/\p<=32)(c:1<=f/\f<=32)(d:1<=t/\t<=4)(e:0<=lim/\lim<=1000):ao Tryz.prog 25 false [.val none [I (p:Nat)],.val none [I (f:Nat)],.val none [I (t:Nat)],.val none [I lim],.val none [.z]] (.tup [some 24,none]) (ac.enc .own (iu p f t lim [])++[B true]):=by
 have a:=aI lim 0 1000;rw[N0 e]at a;refine fO 68 [(10,4,[61,62,63,64])] Tryz.func25 rfl ?_ (.inr (aO (ac.enc_fr _) ⟨trivial,trivial⟩))
 repeat'(first|refine gO ?_|(conv=>whnf);first|refine C8 ?_|refine C5 (uU p f b c) ?_|refine C5 (zq t d) ?_|refine C5 (a) ?_|refine C5 (y8) ?_)
 (conv=>whnf)
 refine CB (ι:=Nat) (λk=>[(2,.hold .one [I ((t:Nat))]),(10,.hold .box [.z,.z,.z,I 0,.z,.z,.z,.z,.z,.z,.z,.z,I 0,.z,I 0,I 0,I 0,I 0,B false,I 0,I 0,.z,I 0,I 0]),(18,.hold .box (ac.enc .own (caps (iu p f t lim []) k))),(19,.hold .one [I ((k:Nat):Int)])]) (λk=>k<=t) (λk=>t - k) (0) ?_ (P0 _) λk g=>?_
 ·exact wB
 by_cases h:k<t
 ·repeat'(first|refine gD ?_|(conv=>whnf);first|refine C8 ?_|refine C5 (wn) ?_|refine Ap.sn zP rfl (by rw[T0];show(List.replicate _ d2).length+1<=_;rw[Q2];omega) (by decide) (xg k) ?_)
  ((conv=>whnf);refine CA (k+1) ω ω ?_;(exact wB))
 ·obtain rfl:k=t:=ω
  repeat'(first|refine gD ?_|(conv=>whnf);first|refine C8 ?_)
  rfl
theorem Ka(x:List bB):fz (.s .own (x.map (bB.enc .own)))=.s .imm (x.map (bB.enc .imm)):=(List.cons.inj (List.cons.inj (CU ⟨0,x⟩)).2).1
theorem ec:∀a b:List C,d5 (a++b)=d5 a++d5 b
 | [],_=>rfl
 | x::xs,b=>by show fz x::d5 (xs++b)=fz x::(d5 xs++d5 b);rw[ec xs b]
theorem d7(r:ax)(c:ax.sml r):ao Tryz.prog 309 false [.val (some 2) (ax.enc .imm r)] .agg (ax.enc .own r):=by
 have e:r.Objs.length<=1048576:=c.1;refine fO 36 [(5,272,[15,16,17,18,19,20,21,22,23,24,25,26,27,28,29,34,0,1,2,3,4,5,6,7,8,9,10,11,12,13,14,15,1000,1001,1002,1003,1004,1005,1006,1007,16,1000,1001,17,1000,1001,18,19,20])] Tryz.func309 rfl ?_ (.inr (ax.enc_fr _))
 repeat'(first|refine gO ?_|(conv=>whnf);first|refine C8 ?_)
 (conv=>whnf)
 refine CB (ι:=Nat) (λi=>[(1,.hold .box (ax.enc .imm r)),(2,.hold .box [I 0,.z]),(3,.hold .box [I r.Next,.s .own ((r.Objs.take i).map (bB.enc .own))]),(4,.hold .one [I ((i:Nat):Int)])]) (λi=>i<=r.Objs.length) (λi=>r.Objs.length - i) (0) ?_ (P0 _) λi g=>?_
 ·exact wC
 by_cases b:i<r.Objs.length
 ·have d:=ah b
  have a:(nth r.Objs i).Cells.length<=1048576:=c.2 _ (am b)
  repeat'(first|refine gD ?_|(conv=>whnf);first|with_reducible refine C9 (aa d) ?_|refine C8 ?_|refine CE rfl (aa d) rfl ?_|refine CQ (λ_=>rfl) (λ_=>rfl) a (by decide) ?_|refine CN (λ_=>rfl) (λ_=>rfl) a (by decide) ?_|refine C8 ?_|refine Ap.sn (aR λ_=>rfl) rfl (by simp;omega) (by decide) (jq b) ?_)
  ((conv=>whnf);refine CA (i+1) ω ω ?_;(exact wC))
 ·repeat'(first|refine gD ?_|(conv=>whnf);first|refine C8 ?_)
  obtain rfl:i=r.Objs.length:=ω
  rw[U3]
  rfl
theorem gt(r:ax)(id:Int)(g:r.Objs.length<=1048576):ao Tryz.prog 385 false [.val (some 2) (ax.enc .imm r),.val none [I id]] .one [I (mV r id)]:=by
 refine fO 22 [] Tryz.func385 rfl ?_
 repeat'(first|refine gO ?_|(conv=>whnf);first|refine C8 ?_)
 (conv=>whnf)
 refine CB (ι:=Nat) (λi=>[(1,.hold .one [I (id)]),(2,.hold .box (ax.enc .imm r)),(5,.hold .one [I ((i:Nat):Int)])]) (λi=>i<=r.Objs.length/\∀(j:Nat)(z:bB),j<i->r.Objs[j]? = some z->kY id z=false) (λi=>r.Objs.length - i) (0) ?_ (⟨P0 _,λj z h=>ω⟩) λi c=>?_
 ·exact wC
 obtain⟨c,b⟩:=c;by_cases d:i<r.Objs.length
 ·have a:=ah d
  by_cases e:(nth r.Objs i).Id=id
  ·repeat'(first|refine gA ?_|(conv=>whnf);first|with_reducible refine C9 (aa a) ?_|refine C8 ?_|refine CE rfl (aa a) rfl ?_)
   exact Q0 (λz=>[I z]) (d9 a (N0 e) b).symm
  ·repeat'(first|refine gA ?_|(conv=>whnf);first|with_reducible refine C9 (aa a) ?_|refine C8 ?_|refine CE rfl (aa a) rfl ?_)
   ((conv=>whnf);refine CA (i+1) ⟨ω,cW a (O0 e) b⟩ ω ?_;(exact wC))
 ·repeat'(first|refine gD ?_|(conv=>whnf);first|refine C8 ?_)
  exact Q0 (λz=>[I z]) (f7 ω b).symm
theorem lP(r:ax)(c:C)(h:Mb c):gv (ax.enc .own r++[c]):=aO (ax.enc_fr _) ⟨h,trivial⟩
theorem vU(r:ax)(n:Int)(m:Nat)(b:pT r m)(h:m<=1000)(c:1<=n/\n<=1000):ao Tryz.prog 301 false [.val (some 2) (ax.enc .imm r),.val none [I n]] (.tup [some 2,none]) (ax.enc .imm (j9 r n)++[I r.Next]):=by
 have i:=b.sml h;have d:=b.len;have j:=b.nx;have k:=d7 r i;have e:=aD n 1 1000;rw[N0 c]at e;have key:ao Tryz.prog 301 false [.val (some 2) (ax.enc .imm r),.val none [I n]] (.tup [some 2,none]) (ax.enc .own (j9 r n)++[I r.Next]):=by
  have a:=lP (j9 r n) (I r.Next) trivial;unfold j9 at a |-;rw[C7 c]at a |-;have l:ax.enc .own {r with Next:=r.Next+1,Objs:=r.Objs++[⟨r.Next,List.replicate n.toNat 0⟩]} = [I (r.Next+1),.s .own (r.Objs.map (bB.enc .own)++[[I r.Next,.s .own (List.replicate n.toNat [I 0])]])]:=by
   simp[ax.enc,bB.enc,rI]
  rw[l]at a |-;refine fO 30 [(4,263,[13,14,15,16,17,18,22,0,1,2,3,4,5,6,1000,1001,7,1000,1001,8,9,10]),(6,259,[27,28,29,0,1,2,3,1001,1002,4])] Tryz.func301 rfl ?_ (.inr a)
  repeat'(first|refine gO ?_|(conv=>whnf);first|refine C8 ?_|refine C5 (k) ?_|refine C5 (e) ?_|refine Mk.mk n.toNat ω ω ω (vL ω (by decide)) rfl ?_|refine C8 ?_|refine Ap.sn (aR λ_=>rfl) rfl (by simp;omega) (by decide) rfl ?_)
  (conv=>whnf)
  rfl
 have g:=key.fzR;rw[ec,CU]at g;exact g
theorem xY(r:ax)(id:Int)(m:Nat)(d:pT r m)(k:m<=1000):ao Tryz.prog 355 true [.val (some 2) (ax.enc .imm r),.val none [I id]] (.tup [some 2,none]) (ax.enc .imm (jQ r id)++[B (!decide (mV r id<0))]):=by
 have g:=d.sml k;have h:=d.len;have i:=d7 r g;have b:=gt r id g.1;by_cases e:mV r id<0
 ·have key:ao Tryz.prog 355 true [.val (some 2) (ax.enc .imm r),.val none [I id]] (.tup [some 2,none]) (ax.enc .own r++[B false]):=by
   refine fO 30 [(5,267,[16,17,18,19,20,22,23,24,25,26,28,0,1,2,3,4,6,7,8,9,10,5,1006,1007,1008,1009,1010,11,12,13]),(1048581,6,[1])] Tryz.func355 rfl ?_ (.inl rfl)
   repeat'(first|refine gD ?_|(conv=>whnf);first|refine C8 ?_|refine C5 (i) ?_|refine C5 (b) ?_)
   rfl
  have a:=key.fzR;rw[ec,CU]at a;unfold jQ;rw[C7 e,N0 e];exact a
 ·have n:jQ r id = {r with Objs:=dele r.Objs (mV r id).toNat}:=by unfold jQ;rw[C6 e]
  obtain⟨t,u,w⟩:=eL (kY id) r.Objs (by unfold mV at e;omega);obtain⟨j,c⟩:=V1 (show 0<=mV r id by omega);have o:j<r.Objs.length:=by unfold mV at c;omega
  have key:ao Tryz.prog 355 true [.val (some 2) (ax.enc .imm r),.val none [I id]] (.tup [some 2,none]) ([I r.Next,.s .own ((dele r.Objs j).map (bB.enc .imm))]++[B true]):=by
   rw[c]at b;refine fO 30 [(5,267,[16,17,18,19,20,22,23,24,25,26,28,0,1,2,3,4,6,7,8,9,10,5,1006,1007,1008,1009,1010,11,12,13]),(1048581,6,[1])] Tryz.func355 rfl ?_ (.inl rfl)
   repeat'(first|refine gD ?_|(conv=>whnf);first|refine C8 ?_|refine C5 (i) ?_|refine C5 (b) ?_|refine DQ.mk rfl (Ka r.Objs) rfl ?_|refine CR j rfl (by rw[T0];omega) (aR λ_=>rfl) v3 ?_|refine Sl.suf (j+1) ω (by rw[T0];omega) (aR λ_=>rfl) z3 ?_|refine CN (λ_=>rfl) (λ_=>rfl) (by rw[Z0];omega) (by decide) ?_|refine CQ (λ_=>rfl) (λ_=>rfl) (by rw[Z0];omega) (by decide) ?_|refine Ap.dele (λ_=>rfl) (λ_=>rfl) ω (by decide) ?_|refine C8 ?_)
   rfl
  have a:=key.fzR;have p:d5 ([I r.Next,.s .own ((dele r.Objs j).map (bB.enc .imm))]++[B true])=ax.enc .imm (jQ r id)++[B (!decide (mV r id<0))]:=by
   have:∀l:List bB,fzR (l.map (bB.enc .imm))=l.map (bB.enc .imm):=λl=>by
    induction l with
    | nil=>rfl
    | cons x xs q=>rw[z4,fzR,q,<-bB.enc_fz,pE]
   rw[n,c,O0 ω];simp[d5,fz,ax.enc,this]
  rw[p]at a;exact a
theorem vZ(r:ax)(id a v:Int)(m:Nat)(o:pT r m)(D:m<=1000)(h:0<=mV r id)(c:0<=a/\a<=(nth r.Objs (mV r id).toNat).Cells.length - 1)(p:0<=v/\v<=999):ao Tryz.prog 357 false [.val (some 2) (ax.enc .imm r),.val none [I id],.val none [I a],.val none [I v]] (.tup [some 2,none]) (ax.enc .imm (eg r id a v)++[B true]):=by
 have k:=o.sml D;have q:=o.len;have E:=d7 r k;have t:=gt r id k.1;obtain⟨J,K,L⟩:=eL (kY id) r.Objs h;obtain⟨j,l⟩:=V1 h;have d:j<r.Objs.length:=by unfold mV at l;omega
 have e:=ah d;have F:(nth r.Objs j).Cells.length<=1048576:=k.2 _ (am d);obtain⟨b,g⟩:=V1 c.1;have G:eg r id a v = {r with Objs:=r.Objs.set j ⟨(nth r.Objs j).Id,(nth r.Objs j).Cells.set b v⟩}:=by
  unfold eg;rw[C7 ⟨h,c,p⟩,l,g];rfl
 rw[l]at t c;rw[g]at c |-;simp only[U1]at c;have u:=ah (xs:=(nth r.Objs j).Cells) (i:=b) ω;have w:=aD (b:Nat) 0 (((nth r.Objs j).Cells.length:Nat) - 1:Int);rw[N0 ω]at w;have y:=aD v 0 999;rw[N0 p]at y;have key:ao Tryz.prog 357 false [.val (some 2) (ax.enc .imm r),.val none [I id],.val none [I (b:Nat)],.val none [I v]] (.tup [some 2,none]) (ax.enc .own (eg r id (b:Nat) v)++[B true]):=by
  have n:=lP (eg r id (b:Nat) v) (B true) trivial;rw[<-g,G]at n |-;have H:ax.enc .own {r with Objs:=r.Objs.set j ⟨(nth r.Objs j).Id,(nth r.Objs j).Cells.set b v⟩} = [I r.Next,.s .own ((r.Objs.map (bB.enc .own)).set j [I (nth r.Objs j).Id,.s .own (((nth r.Objs j).Cells.map (rI .own)).set b [I v])])]:=by
   simp[ax.enc,bB.enc,rI,I4]
  rw[H]at n |-;rw[g];refine fO 48 [] Tryz.func357 rfl ?_ (.inr n)
  repeat'(first|refine gD ?_|(conv=>whnf);first|with_reducible (first|refine C9 (aa e) ?_|refine C9 (aa u) ?_|refine CI ω (aa e) ?_)|refine C8 ?_|refine C5 (E) ?_|refine C5 (t) ?_|refine C5 (w) ?_|refine C5 (y) ?_|refine CE rfl (aa e) rfl ?_|refine Pu.two rfl rfl (aa e) rfl rfl rfl (aa u) rfl (Z1 _) rfl ?_)
  rfl
 have C:=key.fzR;rw[ec,CU]at C;exact C
theorem y6(r:ax)(id n:Int)(m:Nat)(l:pT r m)(u:m<=1000)(g:0<=mV r id)(c:1<=n/\n<=(nth r.Objs (mV r id).toNat).Cells.length):ao Tryz.prog 359 false [.val (some 2) (ax.enc .imm r),.val none [I id],.val none [I n]] (.tup [some 2,none]) (ax.enc .imm (fN r id n)++[B true]):=by
 have h:=l.sml u;have o:=l.len;have w:=d7 r h;have p:=gt r id h.1;obtain⟨E,F,G⟩:=eL (kY id) r.Objs g;obtain⟨j,i⟩:=V1 g;have a:j<r.Objs.length:=by unfold mV at i;omega
 have d:=ah a;have y:(nth r.Objs j).Cells.length<=1048576:=h.2 _ (am a);obtain⟨b,e⟩:=V1 (show 0<=n by omega);have C:fN r id n = {r with Objs:=r.Objs.set j ⟨(nth r.Objs j).Id,(nth r.Objs j).Cells.take b⟩}:=by
  unfold fN;rw[C7 ⟨g,c⟩,i,e];rfl
 rw[i]at p c;rw[e]at c |-;simp only[U1]at c;have q:=aD (b:Nat) 1 (((nth r.Objs j).Cells.length:Nat):Int);rw[N0 ω]at q;have key:ao Tryz.prog 359 false [.val (some 2) (ax.enc .imm r),.val none [I id],.val none [I (b:Nat)]] (.tup [some 2,none]) (ax.enc .own (fN r id (b:Nat))++[B true]):=by
  have k:=lP (fN r id (b:Nat)) (B true) trivial;rw[<-e,C]at k |-;have D:ax.enc .own {r with Objs:=r.Objs.set j ⟨(nth r.Objs j).Id,(nth r.Objs j).Cells.take b⟩} = [I r.Next,.s .own ((r.Objs.map (bB.enc .own)).set j [I (nth r.Objs j).Id,.s .own (((nth r.Objs j).Cells.take b).map (rI .imm))])]:=by
   simp only[ax.enc,I4]
   rfl
  rw[D]at k |-;rw[e];refine fO 46 [(5,270,[30,31,32,33,34,35,36,37,38,39,40,41,43,44,0,1,2,3,4,5,6,7,8,9,10,11,12,1000,1001,1002,13,14,15])] Tryz.func359 rfl ?_ (.inr k)
  repeat'(first|refine gD ?_|(conv=>whnf);first|with_reducible (first|refine C9 (aa d) ?_|refine CI ω (aa d) ?_)|refine C8 ?_|refine C5 (w) ?_|refine C5 (p) ?_|refine C5 (q) ?_|refine CE rfl (aa d) rfl ?_|refine CR b rfl (by rw[T0];omega) (aR λ_=>rfl) v3 ?_|refine CQ (λ_=>rfl) (λ_=>rfl) (by rw[Z0];omega) (by decide) ?_|refine CN (λ_=>rfl) (λ_=>rfl) (by rw[Z0];omega) (by decide) ?_|refine C8 ?_|refine CK rfl rfl (aa d) rfl (U0 rfl) rfl ?_)
  rfl
 have t:=key.fzR;rw[ec,CU]at t;exact t
theorem yJ(r:ax)(id a v:Int)(m:Nat)(h:pT r m)(l:m<=1000)(u:0<=v/\v<=999):∃b:Bool,ao Tryz.prog 357 false [.val (some 2) (ax.enc .imm r),.val none [I id],.val none [I a],.val none [I v]] (.tup [some 2,none]) (ax.enc .imm (eg r id a v)++[B b]):=by
 by_cases i:0<=mV r id
 ·by_cases d:0<=a/\a<=(nth r.Objs (mV r id).toNat).Cells.length - 1
  ·exact⟨true,vZ r id a v m h l i d u⟩
  ·refine⟨false,?_⟩
   have c:=h.sml l;have o:=h.len;have n:=d7 r c;have k:=gt r id c.1;obtain⟨C,D,E⟩:=eL (kY id) r.Objs i;obtain⟨j,p⟩:=V1 i;have e:j<r.Objs.length:=by unfold mV at p;omega
   have q:=ah e;have w:(nth r.Objs j).Cells.length<=1048576:=c.2 _ (am e);have y:eg r id a v=r:=by unfold eg;rw[C6 (λx=>d x.2.1)]
   rw[p]at k d;simp only[U1]at d;have t:=aD a 0 (((nth r.Objs j).Cells.length:Nat) - 1:Int);rw[O0 d]at t;rw[y];have key:ao Tryz.prog 357 false [.val (some 2) (ax.enc .imm r),.val none [I id],.val none [I a],.val none [I v]] (.tup [some 2,none]) (ax.enc .own r++[B false]):=by
    refine fO 48 [] Tryz.func357 rfl ?_ (.inr (lP r (B false) trivial))
    repeat'(first|refine gD ?_|(conv=>whnf);first|with_reducible refine C9 (aa q) ?_|refine C8 ?_|refine C5 (n) ?_|refine C5 (k) ?_|refine C5 (t) ?_|refine CE rfl (aa q) rfl ?_)
    rfl
   have g:=key.fzR;rw[ec,CU]at g;exact g
 ·refine⟨false,?_⟩
  have c:=h.sml l;have n:=d7 r c;have k:=gt r id c.1;rw[show eg r id a v=r by unfold eg;rw[C6 (λx=>i x.1)]];have key:ao Tryz.prog 357 false [.val (some 2) (ax.enc .imm r),.val none [I id],.val none [I a],.val none [I v]] (.tup [some 2,none]) (ax.enc .own r++[B false]):=by
   refine fO 48 [] Tryz.func357 rfl ?_ (.inr (lP r (B false) trivial))
   repeat'(first|refine gD ?_|(conv=>whnf);first|refine C8 ?_|refine C5 (n) ?_|refine C5 (k) ?_)
   rfl
  have g:=key.fzR;rw[ec,CU]at g;exact g
theorem BG(r:ax)(id n:Int)(m:Nat)(g:pT r m)(k:m<=1000):∃b:Bool,ao Tryz.prog 359 false [.val (some 2) (ax.enc .imm r),.val none [I id],.val none [I n]] (.tup [some 2,none]) (ax.enc .imm (fN r id n)++[B b]):=by
 by_cases h:0<=mV r id
 ·by_cases c:1<=n/\n<=(nth r.Objs (mV r id).toNat).Cells.length
  ·exact⟨true,y6 r id n m g k h c⟩
  ·refine⟨false,?_⟩
   have a:=g.sml k;have o:=g.len;have l:=d7 r a;have i:=gt r id a.1;obtain⟨y,C,D⟩:=eL (kY id) r.Objs h;obtain⟨j,p⟩:=V1 h;have d:j<r.Objs.length:=by unfold mV at p;omega
   have q:=ah d;have u:(nth r.Objs j).Cells.length<=1048576:=a.2 _ (am d);have w:fN r id n=r:=by unfold fN;rw[C6 (λx=>c x.2)]
   rw[p]at i c;simp only[U1]at c;have t:=aD n 1 (((nth r.Objs j).Cells.length:Nat):Int);rw[O0 c]at t;rw[w];have key:ao Tryz.prog 359 false [.val (some 2) (ax.enc .imm r),.val none [I id],.val none [I n]] (.tup [some 2,none]) (ax.enc .own r++[B false]):=by
    refine fO 46 [(5,270,[30,31,32,33,34,35,36,37,38,39,40,41,43,44,0,1,2,3,4,5,6,7,8,9,10,11,12,1000,1001,1002,13,14,15])] Tryz.func359 rfl ?_ (.inr (lP r (B false) trivial))
    repeat'(first|refine gD ?_|(conv=>whnf);first|with_reducible refine C9 (aa q) ?_|refine C8 ?_|refine C5 (l) ?_|refine C5 (i) ?_|refine C5 (t) ?_|refine CE rfl (aa q) rfl ?_)
    rfl
   have e:=key.fzR;rw[ec,CU]at e;exact e
 ·refine⟨false,?_⟩
  have a:=g.sml k;have l:=d7 r a;have i:=gt r id a.1;rw[show fN r id n=r by unfold fN;rw[C6 (λx=>h x.1)]];have key:ao Tryz.prog 359 false [.val (some 2) (ax.enc .imm r),.val none [I id],.val none [I n]] (.tup [some 2,none]) (ax.enc .own r++[B false]):=by
   refine fO 46 [(5,270,[30,31,32,33,34,35,36,37,38,39,40,41,43,44,0,1,2,3,4,5,6,7,8,9,10,11,12,1000,1001,1002,13,14,15])] Tryz.func359 rfl ?_ (.inr (lP r (B false) trivial))
   repeat'(first|refine gD ?_|(conv=>whnf);first|refine C8 ?_|refine C5 (l) ?_|refine C5 (i) ?_)
   rfl
  have e:=key.fzR;rw[ec,CU]at e;exact e
structure gF where
 i:Nat
 h:Int
deriving Inhabited
def w64(x:Int):Int:=IntKind.i64.wrap x
def Md(h:Int):Int:=w64 (w64 (h*6364136223846793005)+1442695040888963407)
def LY(a b:Int):Int:=w64 ((BitVec.ofInt IntKind.i64.bits a ^^^ BitVec.ofInt IntKind.i64.bits b).toNat:Nat)
def and255(a:Int):Int:=w64 ((BitVec.ofInt IntKind.i64.bits a &&& BitVec.ofInt IntKind.i64.bits 255).toNat:Nat)
def JH(h:Int)(n:Nat):Int:=h.fdiv (2 ^ (min n IntKind.i64.bits))
def wY(h:Int):Int:=and255 (LY (JH h 33) (JH h 45))
theorem xI(a:Int):0<=and255 a/\and255 a<=255:=by
 have b:(BitVec.ofInt IntKind.i64.bits a &&& BitVec.ofInt IntKind.i64.bits 255).toNat<=255:=by
  rw[BitVec.toNat_and];exact R3 Nat.and_le_right (by decide)
 unfold and255 w64;rw[er ω ω];omega
def dd(zs:List Int)(c:gF):Int × gF:=if c.i<zs.length then(and255 (wY (Md c.h)+nth zs c.i),⟨c.i+1,Md c.h⟩) else(wY (Md c.h),⟨c.i,Md c.h⟩)
theorem qa(zs:List Int)(c:gF):0<=(dd zs c).1/\(dd zs c).1<=255:=by
 unfold dd;split<;>exact xI _
theorem gL{zs:List Int}{c:gF}(h:c.i<=zs.length):(dd zs c).2.i<=zs.length:=by
 unfold dd;split
 ·simp only;omega
 ·exact h
def xi(zs:List Int)(c:gF):Int × gF:=
 ((dd zs c).1*16777216+(dd zs (dd zs c).2).1*65536+(dd zs (dd zs (dd zs c).2).2).1*256+(dd zs (dd zs (dd zs (dd zs c).2).2).2).1,(dd zs (dd zs (dd zs (dd zs c).2).2).2).2)
def bt(zs:List Int)(c:gF)(n:Int):Int × gF:=if n<=256 then((dd zs c).1 % n,(dd zs c).2) else((xi zs c).1 % n,(xi zs c).2)
theorem bA(zs:List Int)(c:gF){n:Int}(h:1<=n):0<=(bt zs c n).1/\(bt zs c n).1<n:=by
 unfold bt;split<;>exact⟨Int.emod_nonneg _ ω,Int.emod_lt_of_pos _ ω⟩
theorem bK{zs:List Int}{c:gF}(h:c.i<=zs.length)(n:Int):(bt zs c n).2.i<=zs.length:=by
 unfold bt;split
 ·exact gL h
 ·exact gL (gL (gL (gL h)))
def jG(zs:List Int)(c:gF)(l:List Int):Int × gF:=(nth l (bt zs c (l.length:Nat)).1.toNat,(bt zs c (l.length:Nat)).2)
theorem nE(zs:List Int)(c:gF){l:List Int}(h:1<=l.length):(jG zs c l).1∈l:=by
 have:=bA zs c (n:=(l.length:Nat)) ω;exact am ω
def mU(zs:List Int):Nat->Nat->List Int->gF->List Int × gF
 | 0,_,out,c=>(out,(bt zs c 4).2)
 | f+1,i,out,c=>if(i:Int)<(bt zs c 4).1 then mU zs f (i+1) (out++[(bt zs (bt zs c 4).2 12).1]) (bt zs (bt zs c 4).2 12).2 else(out,(bt zs c 4).2)
def K4(zs:List Int)(c:gF):List Int × gF:=mU zs 4 0 [] c
theorem E7(zs:List Int):∀(f i:Nat)(out:List Int)(c:gF),(∀x∈out,0<=x)->out.length+f<=4->c.i<=zs.length->(∀x∈(mU zs f i out c).1,0<=x)/\(mU zs f i out c).1.length<=4/\(mU zs f i out c).2.i<=zs.length
 | 0,_,out,c,b,e,d=>⟨b,by show out.length<=4;omega,bK d _⟩
 | f+1,i,out,c,b,e,d=>by
  unfold mU;split
  ·refine E7 zs f (i+1) _ _ (λx a=>?_) (by simp only[I2,List.length_singleton];omega) (bK (bK d _) _)
   rcases W1.1 a with a|a
   ·exact b x a
   ·rw[W0.1 a];exact(bA zs _ (by decide)).1
  ·exact⟨b,by show out.length<=4;omega,bK d _⟩
def wz(zs:List Int)(c:gF):Int × gF:=bt zs c 7
def B2(zs:List Int)(c:gF):Int × gF:=bt zs (wz zs c).2 3
def De(zs:List Int)(c:gF):Int × gF:=bt zs (B2 zs c).2 100
def ye(zs:List Int)(c:gF):Int × gF:=bt zs (De zs c).2 4
def Ld(zs:List Int)(c:gF):List Int × gF:=K4 zs (ye zs c).2
def og(zs:List Int)(c:gF):cA:=⟨(6+(wz zs c).1).toNat,(6+(wz zs c).1 - (ye zs c).1).toNat,(1+(B2 zs c).1).toNat,40+(De zs c).1,(Ld zs c).1⟩
theorem v8{zs:List Int}{c:gF}(h:c.i<=zs.length):Fz (og zs c)/\(Ld zs c).2.i<=zs.length:=by
 have a:=bA zs c (n:=7) (by decide);have b:=bA zs (wz zs c).2 (n:=3) (by decide);have d:=bA zs (B2 zs c).2 (n:=100) (by decide);have e:=bA zs (De zs c).2 (n:=4) (by decide);change 0<=(wz zs c).1/\(wz zs c).1<7 at a;change 0<=(B2 zs c).1/\(B2 zs c).1<3 at b;change 0<=(De zs c).1/\(De zs c).1<100 at d;change 0<=(ye zs c).1/\(ye zs c).1<4 at e;obtain⟨f,k,g⟩:=E7 zs 4 0 [] (ye zs c).2 (λx j=>by cases j) (by simp) (bK (bK (bK (bK h _) _) _) _);refine⟨⟨?_,?_,?_,?_,?_⟩,g⟩
 ·show 1<=(6+(wz zs c).1).toNat/\(6+(wz zs c).1).toNat<=32;omega
 ·show 1<=(6+(wz zs c).1 - (ye zs c).1).toNat/\(6+(wz zs c).1 - (ye zs c).1).toNat<=32;omega
 ·show 1<=(1+(B2 zs c).1).toNat/\(1+(B2 zs c).1).toNat<=4;omega
 ·show 0<=40+(De zs c).1/\40+(De zs c).1<=1000;omega
 ·exact⟨by show(mU zs 4 0 [] (ye zs c).2).1.length<=40;omega,f⟩
def xz(zs:List Int)(c:gF):Int × gF:=bt zs c 3
def BN(zs:List Int)(c:gF)(ids:Int):Int × gF:=bt zs (xz zs c).2 ids
def ju(zs:List Int)(c:gF)(ids:Int):Int × gF:=bt zs (BN zs c ids).2 20
def szs:List Int:=[1,1,2,2,3,4,4,5,8,9,20]
def qh(zs:List Int)(c:gF)(ids:Int):dX × gF:=
 if(ju zs c ids).1<=6 then(⟨1,(xz zs c).1,(jG zs (ju zs c ids).2 szs).1,0,0⟩,(jG zs (ju zs c ids).2 szs).2)
 else if(ju zs c ids).1<=9 then(⟨2,(xz zs c).1,1+(BN zs c ids).1,0,0⟩,(ju zs c ids).2)
 else if(ju zs c ids).1<=12 then(⟨3,(xz zs c).1,1+(BN zs c ids).1,(bt zs (ju zs c ids).2 4).1,1+(bt zs (bt zs (ju zs c ids).2 4).2 999).1⟩,(bt zs (bt zs (ju zs c ids).2 4).2 999).2)
 else if(ju zs c ids).1=13 then(⟨4,(xz zs c).1,1+(BN zs c ids).1,0,9+(bt zs (ju zs c ids).2 10).1⟩,(bt zs (ju zs c ids).2 10).2)
 else if(ju zs c ids).1=14 then(⟨(jG zs (ju zs c ids).2 [5,6]).1,(xz zs c).1,1+(BN zs c ids).1,0,0⟩,(jG zs (ju zs c ids).2 [5,6]).2)
 else if(ju zs c ids).1=15 then(⟨7,(xz zs c).1,1+(BN zs c ids).1,0,0⟩,(ju zs c ids).2)
 else if(ju zs c ids).1=16 then(⟨8,(xz zs c).1,(jG zs (ju zs c ids).2 [1,30,60,120]).1,0,0⟩,(jG zs (ju zs c ids).2 [1,30,60,120]).2)
 else if(ju zs c ids).1=17 then(⟨9,(xz zs c).1,1+(BN zs c ids).1,0,0⟩,(ju zs c ids).2)
 else(⟨10,(xz zs c).1,(jG zs (ju zs c ids).2 [1,2,3,10,30]).1,0,0⟩,(jG zs (ju zs c ids).2 [1,2,3,10,30]).2)
structure Hy(a:dX):Prop where
 k:1<=a.Kind/\a.Kind<=10
 t:0<=a.Thread/\a.Thread<=1000000
 n:0<=a.N/\a.N<=1000000
 p:0<=a.At/\a.At<=1000000
 v:0<=a.Value/\a.Value<=1000000
theorem GE{zs:List Int}{c:gF}{ids:Int}(h:c.i<=zs.length)(b:1<=ids/\ids<=1000):Hy (qh zs c ids).1/\(qh zs c ids).2.i<=zs.length:=by
 have d:=bA zs c (n:=3) (by decide);have e:=bA zs (xz zs c).2 (n:=ids) b.1;change 0<=(xz zs c).1/\(xz zs c).1<3 at d;change 0<=(BN zs c ids).1/\(BN zs c ids).1<ids at e;have a:(ju zs c ids).2.i<=zs.length:=bK (bK (bK h _) _) _;have f:=nE zs (ju zs c ids).2 (l:=szs) (by decide);have g:=nE zs (ju zs c ids).2 (l:=[5,6]) (by decide);have j:=nE zs (ju zs c ids).2 (l:=[1,30,60,120]) (by decide);have k:=nE zs (ju zs c ids).2 (l:=[1,2,3,10,30]) (by decide);have o:=bA zs (ju zs c ids).2 (n:=4) (by decide);have p:=bA zs (bt zs (ju zs c ids).2 4).2 (n:=999) (by decide);have q:=bA zs (ju zs c ids).2 (n:=10) (by decide);simp only[szs,List.mem_cons,List.not_mem_nil,or_false]at f g j k;unfold qh
 repeat' split
 ·exact⟨⟨by simp only;omega,by simp only;omega,by simp only[szs];omega,by simp only;omega,by simp only;omega⟩,bK a _⟩
 ·exact⟨⟨by simp only;omega,by simp only;omega,by simp only;omega,by simp only;omega,by simp only;omega⟩,a⟩
 ·exact⟨⟨by simp only;omega,by simp only;omega,by simp only;omega,by simp only;omega,by simp only;omega⟩,bK (bK a _) _⟩
 ·exact⟨⟨by simp only;omega,by simp only;omega,by simp only;omega,by simp only;omega,by simp only;omega⟩,bK a _⟩
 ·exact⟨⟨by simp only;omega,by simp only;omega,by simp only;omega,by simp only;omega,by simp only;omega⟩,bK a _⟩
 ·exact⟨⟨by simp only;omega,by simp only;omega,by simp only;omega,by simp only;omega,by simp only;omega⟩,a⟩
 ·exact⟨⟨by simp only;omega,by simp only;omega,by simp only;omega,by simp only;omega,by simp only;omega⟩,bK a _⟩
 ·exact⟨⟨by simp only;omega,by simp only;omega,by simp only;omega,by simp only;omega,by simp only;omega⟩,a⟩
 ·exact⟨⟨by simp only;omega,by simp only;omega,by simp only;omega,by simp only;omega,by simp only;omega⟩,bK a _⟩
def jU(zs:List Int)(c:gF):Nat->List dX × gF
 | 0=>([],(bt zs c 41).2)
 | i+1=>((jU zs c i).1++[(qh zs (jU zs c i).2 (1+(i:Int) / 2)).1],(qh zs (jU zs c i).2 (1+(i:Int) / 2)).2)
def mf(zs:List Int)(c:gF):List dX × gF:=jU zs c (bt zs c 41).1.toNat
theorem qe{zs:List Int}{c:gF}(h:c.i<=zs.length):∀{n:Nat},n<=100->(jU zs c n).1.length=n/\(∀a∈(jU zs c n).1,Hy a)/\(jU zs c n).2.i<=zs.length
 | 0,_=>⟨rfl,λa b=>(by cases b),bK h _⟩
 | n+1,k=>by
  obtain⟨d,e,f⟩:=qe h (n:=n) ω;obtain⟨g,j⟩:=GE (ids:=1+(n:Int) / 2) f ω;refine⟨by simp only[jU,I2,List.length_singleton,d],λa b=>?_,j⟩;rcases W1.1 b with b|b
  ·exact e a b
  ·rw[W0.1 b];exact g
def nP(zs:List Int):Nat->Int
 | 0=>w64 (98801+(zs.length:Nat))
 | i+1=>w64 ((BitVec.ofInt IntKind.i64.bits (w64 (w64 (w64 (nP zs i*131)+nth zs i)+7)) &&& BitVec.ofInt IntKind.i64.bits 1073741823).toNat:Nat)
def sC(zs:List Int):gF:=⟨0,nP zs (min zs.length 4000)⟩
def eC(zs:List Int):gF:=(Ld zs (sC zs)).2
def drawn(zs:List Int):bD:=(zA (og zs (sC zs)) (mf zs (eC zs)).1 (mf zs (eC zs)).1.length).1
theorem AG(zs:List Int):rS (drawn zs) 40:=by
 have a:(sC zs).i<=zs.length:=P0 _;obtain⟨b,d⟩:=v8 a;have f:=bA zs (eC zs) (n:=41) (by decide);obtain⟨e,-,-⟩:=qe (zs:=zs) (c:=eC zs) d (n:=(bt zs (eC zs) 41).1.toNat) ω;refine(zc b _ _).more ?_;show(jU zs (eC zs) _).1.length<=40;rw[e];omega
def rU(z:Int):List C:=[.v (.int .u8 z)]
def gG(zs:List Int)(c:gF):List C:=[.s .imm (zs.map rU),I (c.i:Nat),I c.h]
def iL(zs:List Int):Prop:=zs.length<=1048576/\∀z∈zs,0<=z/\z<=255
theorem iV(zs:List Int)(c:gF)(e:iL zs)(w:c.i<=zs.length):aQ Tryz.prog 185 false [.ptr (gG zs c)] [.ptr (gG zs (dd zs c).2)] .one [I (dd zs c).1]:=by
 have g:IntKind.i64.wrap (c.h*6364136223846793005)=w64 (c.h*6364136223846793005):=rfl;have b:IntKind.i64.wrap (w64 (c.h*6364136223846793005)+1442695040888963407)=Md c.h:=rfl;have o:=e.1;generalize p:Md c.h=H at b;have j:H.fdiv (2 ^ (min (33:Int).toNat IntKind.i64.bits))=JH H 33:=rfl;have k:H.fdiv (2 ^ (min (45:Int).toNat IntKind.i64.bits))=JH H 45:=rfl;have l:IntKind.i64.wrap (BitVec.ofInt IntKind.i64.bits (JH H 33) ^^^ BitVec.ofInt IntKind.i64.bits (JH H 45)).toNat=LY (JH H 33) (JH H 45):=rfl;have d:IntKind.i64.wrap (BitVec.ofInt IntKind.i64.bits (LY (JH H 33) (JH H 45)) &&& BitVec.ofInt IntKind.i64.bits 255).toNat=wY H:=rfl;have r:0<=wY H/\wY H<=255:=xI _;unfold dd;rw[p];generalize wY H=y at d r |-;refine fM 58 [] [(2,10,[13,14,15,16,17,18,19,20,21,22]),(3,9,[25,26,27,28,29,30,31,32,33]),(4,12,[35,36,37,38,39,40,41,42,43,44,45,46])] [(0,0)] Tryz.func185 rfl (λu q=>?_);by_cases a:c.i<zs.length
 ·rw[C7 a]
  have n:=ah a;have B:=e.2 _ (am a);have t:IntKind.i64.wrap (BitVec.ofInt IntKind.i64.bits (y+nth zs c.i) &&& BitVec.ofInt IntKind.i64.bits 255).toNat=and255 (y+nth zs c.i):=rfl
  repeat'(first|refine gD ?_|(conv=>whnf);first|with_reducible (first|refine CH g ?_|refine CH b ?_|refine CH l ?_|refine CH d ?_|refine CH t ?_|refine C9 (aa n) ?_|refine CJ (by decide) ?_|refine CP j ?_|refine CP k ?_)|refine CE rfl (aa n) rfl ?_|refine C8 ?_)
  refine CC rfl rfl ?_;exact wB
 ·rw[C6 a]
  repeat'(first|refine gD ?_|(conv=>whnf);first|with_reducible (first|refine CH g ?_|refine CH b ?_|refine CH l ?_|refine CH d ?_|refine CJ (by decide) ?_|refine CP j ?_|refine CP k ?_)|refine C8 ?_)
  refine CC rfl rfl ?_;exact wB
theorem bL(zs:List Int)(c:gF)(n:Int)(b:iL zs)(d:c.i<=zs.length)(p:1<=n):aQ Tryz.prog 92 false [.ptr (gG zs c),.val none [I n]] [.ptr (gG zs (bt zs c n).2),.val none [I n]] .one [I (bt zs c n).1]:=by
 have j:=qa zs c;have g:=iV zs c b d;unfold bt;refine fM 37 [(185,[2])] [] [(0,0),(0,0)] Tryz.func92 rfl (λu q=>?_);by_cases h:n<=256
 ·rw[C7 h]
  have a:(dd zs c).1.tmod n=(dd zs c).1 % n:=Int.tmod_eq_emod_of_nonneg j.1
  repeat'(first|refine gD ?_|(conv=>whnf);first|with_reducible (first|refine CP a ?_|refine Bf.D (λe=>?_) (λe=>?_))|refine CF (g) (.inl rfl) ?_|refine CJ ω ?_)
  refine CC rfl rfl ?_;exact wB
 ·rw[C6 h]
  have r:=qa zs (dd zs c).2;have t:=qa zs (dd zs (dd zs c).2).2;have w:=qa zs (dd zs (dd zs (dd zs c).2).2).2;have k:=iV zs (dd zs c).2 b (gL d);have l:=iV zs (dd zs (dd zs c).2).2 b (gL (gL d));have o:=iV zs (dd zs (dd zs (dd zs c).2).2).2 b (gL (gL (gL d)));have a:(xi zs c).1.tmod n=(xi zs c).1 % n:=Int.tmod_eq_emod_of_nonneg (by unfold xi;simp only;omega);unfold xi at a |-;simp only at a
  repeat'(first|refine gD ?_|(conv=>whnf);first|with_reducible (first|refine CP a ?_|refine Bf.D (λe=>?_) (λe=>?_))|refine CF (g) (.inl rfl) ?_|refine CF (k) (.inl rfl) ?_|refine CF (l) (.inl rfl) ?_|refine CF (o) (.inl rfl) ?_|refine CJ ω ?_)
  refine CC rfl rfl ?_;exact wB
theorem G9(zs:List Int)(c:gF)(l:List Int)(b:iL zs)(d:c.i<=zs.length)(g:1<=l.length/\l.length<=1000):aQ Tryz.prog 310 false [.ptr (gG zs c),.val none (aF .imm l)] [.ptr (gG zs (jG zs c l).2),.val none (aF .imm l)] .one [I (jG zs c l).1]:=by
 have e:=bL zs c (l.length:Nat) b d ω;have h:=bA zs c (n:=(l.length:Nat)) ω;have a:=ah (xs:=l) (i:=(bt zs c (l.length:Nat)).1.toNat) ω;unfold jG;refine fM 12 [(92,[2,0])] [] [(0,0),(0,0)] Tryz.func310 rfl (λu q=>?_)
 repeat'(first|refine gO ?_|(conv=>whnf);first|with_reducible refine CI ω (aa a) ?_|refine CF (e) (.inl rfl) ?_|refine CE rfl (aa a) rfl ?_)
 refine CC rfl rfl ?_;exact wC
theorem gR(zs:List Int)(c:gF)(l:List Int)(b:iL zs)(d:c.i<=zs.length)(g:1<=l.length/\l.length<=1000):aQ Tryz.prog 310 false [.ptr (gG zs c),.mut none (aF .own l)] [.ptr (gG zs (jG zs c l).2),.mut none (aF .own l)] .one [I (jG zs c l).1]:=by
 have e:=bL zs c (l.length:Nat) b d ω;have h:=bA zs c (n:=(l.length:Nat)) ω;have a:=ah (xs:=l) (i:=(bt zs c (l.length:Nat)).1.toNat) ω;unfold jG;refine fM 12 [(92,[2,0])] [] [(0,0),(1,0)] Tryz.func310 rfl (λu q=>?_)
 repeat'(first|refine gO ?_|(conv=>whnf);first|with_reducible refine CI ω (aa a) ?_|refine CF (e) (.inl rfl) ?_|refine CE rfl (aa a) rfl ?_)
 refine CC rfl rfl ?_;exact wC
theorem FX(zs:List Int):∀(f i:Nat)(out:List Int)(c:gF),(bt zs c 4).1<=i->mU zs f i out c=(out,(bt zs c 4).2)
 | 0,_,_,_,_=>rfl
 | f+1,i,out,c,h=>by unfold mU;rw[C6 ω]
theorem K8(zs:List Int)(f i:Nat)(out:List Int)(c:gF)(h:(i:Int)<(bt zs c 4).1):mU zs (f+1) i out c=mU zs f (i+1) (out++[(bt zs (bt zs c 4).2 12).1]) (bt zs (bt zs c 4).2 12).2:=by
 show(if _ then _ else _)=_;rw[C7 h]
structure Rq where
 i:Nat
 out:List Int
 c:gF
theorem vw(zs:List Int)(c:gF)(e:iL zs)(j:c.i<=zs.length):aQ Tryz.prog 242 false [.ptr (gG zs c)] [.ptr (gG zs (K4 zs c).2)] .one (aF .own (K4 zs c).1):=by
 refine fM 18 [(92,[2,0])] [] [(0,0)] Tryz.func242 rfl (λu q=>?_) (.inr (bM _))
 repeat'(first|refine gO ?_|fail)
 (conv=>whnf)
 refine CB (ι:=Rq) (λx=>[(0,.hold .box (gG zs x.c)),(3,.hold .one (aF .own x.out)),(4,.hold .one [I ((x.i:Nat):Int)])]) (λx=>(x.i<=4/\x.out.length<=x.i/\x.c.i<=zs.length)/\mU zs (4 - x.i) x.i x.out x.c=K4 zs c) (λx=>4 - x.i) (⟨0,[],c⟩) ?_ (⟨⟨P0 _,P0 _,j⟩,rfl⟩) λx k=>?_
 ·exact wC
 obtain⟨i,out,d⟩:=x;obtain⟨⟨l,o,b⟩,a⟩:=k;simp only at l o b a |-;have B:=bA zs d (n:=4) (by decide);have g:=bL zs d 4 e b (by decide);have h:=bK b 4;have p:=bL zs (bt zs d 4).2 12 e h (by decide);have t:=bK h 12;by_cases w:(i:Int)<(bt zs d 4).1
 ·rw[show 4 - i=(4 - (i+1))+1 by omega,K8 zs _ _ _ _ w]at a
  repeat'(first|refine gD ?_|(conv=>whnf);first|refine CF (g) (.inl rfl) ?_|refine CF (p) (.inl rfl) ?_|refine CO cv (λr y=>by rw[W0.1 y];rfl) (by simp[aU,dx]) (by simp;omega) (by simp only[T0];exact vL (by simp;omega) (by decide)) rfl ?_)
  ((conv=>whnf);refine CA ⟨i+1,out++[(bt zs (bt zs d 4).2 12).1],(bt zs (bt zs d 4).2 12).2⟩ ⟨⟨by simp only;omega,by simp only[I2,List.length_singleton];omega,t⟩,a⟩ (by simp only;omega) ?_)
  repeat'(first|exact trivial|rfl| exact dE _ |exact CG rfl (CG (Q0 (C.s du.own) (by simp[rI])) trivial)|refine CG ?_ ?_|(exact AQ (by first|omega|(simp only;omega)|(simp;omega))))
 ·rw[FX zs _ _ _ _ ω]at a
  rw[<-a]
  repeat'(first|refine gD ?_|(conv=>whnf);first|refine CF (g) (.inl rfl) ?_)
  refine CC rfl rfl ?_;exact wC
def cA.enc(o:du)(c:cA):List C:=[I (c.Pages:Nat),I (c.Frames:Nat),I (c.Threads:Nat),I c.Limit,.s o (c.Refuse.map (rI o))]
theorem cA.enc_fz(c:cA):d5 (cA.enc .own c)=cA.enc .imm c:=by simp[d5,cA.enc,rI,<-bS,v4]
theorem cA.enc_fr(c:cA):gv (cA.enc .own c):=⟨trivial,trivial,trivial,trivial,⟨.inl λh=>(by cases h),aY _ _ λy _=>nX y⟩,trivial⟩
theorem vA(zs:List Int)(c:gF)(a:iL zs)(h:c.i<=zs.length):aQ Tryz.prog 150 false [.ptr (gG zs c)] [.ptr (gG zs (Ld zs c).2)] .agg (cA.enc .own (og zs c)):=by
 have j:=bK h 7;have k:=bK j 3;have l:=bK k 100;have y:=bK l 4;have b:=bL zs c 7 a h (by decide);have d:=bL zs (wz zs c).2 3 a j (by decide);have e:=bL zs (B2 zs c).2 100 a k (by decide);have g:=bL zs (De zs c).2 4 a l (by decide);have o:=vw zs (ye zs c).2 a y;have p:=bA zs c (n:=7) (by decide);have r:=bA zs (wz zs c).2 (n:=3) (by decide);have B:=bA zs (B2 zs c).2 (n:=100) (by decide);have t:=bA zs (De zs c).2 (n:=4) (by decide);have w:=cA.enc_fr (og zs c);have C:cA.enc .own (og zs c)=[I (6+(wz zs c).1),I (6+(wz zs c).1 - (ye zs c).1),I (1+(B2 zs c).1),I (40+(De zs c).1),.s .own ((Ld zs c).1.map (rI .own))]:=by
  have D:0<=(wz zs c).1/\(wz zs c).1<7:=p;have E:0<=(B2 zs c).1/\(B2 zs c).1<3:=r;have F:0<=(ye zs c).1/\(ye zs c).1<4:=t;unfold cA.enc og;simp only;rw[Int.toNat_of_nonneg ω,Int.toNat_of_nonneg ω,Int.toNat_of_nonneg ω]
 rw[C]at w |-;change aQ _ _ _ _ [.ptr (gG zs (wz zs c).2),_] _ _ at b;change aQ _ _ _ _ [.ptr (gG zs (B2 zs c).2),_] _ _ at d;change aQ _ _ _ _ [.ptr (gG zs (De zs c).2),_] _ _ at e;change aQ _ _ _ _ [.ptr (gG zs (ye zs c).2),_] _ _ at g;change aQ _ _ _ _ [.ptr (gG zs (Ld zs c).2)] _ (aF .own (Ld zs c).1) at o;change aQ _ _ _ _ _ _ [I (wz zs c).1]at b;change aQ _ _ _ _ _ _ [I (B2 zs c).1]at d;change aQ _ _ _ _ _ _ [I (De zs c).1]at e;change aQ _ _ _ _ _ _ [I (ye zs c).1]at g;change 0<=(wz zs c).1/\(wz zs c).1<7 at p;change 0<=(B2 zs c).1/\(B2 zs c).1<3 at r;change 0<=(De zs c).1/\(De zs c).1<100 at B;change 0<=(ye zs c).1/\(ye zs c).1<4 at t;generalize Ld zs c=r5 at *;generalize ye zs c=r4 at *;generalize De zs c=r3 at *;generalize B2 zs c=r2 at *;generalize wz zs c=r1 at *;refine fM 24 [(92,[2,0]),(242,[2])] [(2,65536,[])] [(0,0)] Tryz.func150 rfl (λu q=>?_) (.inr w)
 repeat'(first|refine gO ?_|(conv=>whnf);first|refine CF (b) (.inl rfl) ?_|refine CF (d) (.inl rfl) ?_|refine CF (e) (.inl rfl) ?_|refine CF (g) (.inl rfl) ?_|refine CF (o) (.inl rfl) ?_|refine CG ?_ ?_)
 all_goals
  refine CC rfl rfl ?_;exact wC
theorem uJ(n:Nat)(e:1<=n/\n<=32):ao Tryz.prog 400 false [.val none [I (n:Nat)]] (.tup [some 2,none]) (aZ.enc .own (dr n)++[B true]):=by
 have c:=aD ((n:Nat):Int) 1 32;rw[N0 ω]at c;have a:=aO (b:=[B true]) (aZ.enc_fr (dr n)) ⟨trivial,trivial⟩;rw[show aZ.enc .own (dr n)=_ from tS n n]at a |-;refine fO 28 [(7,4,[16,17,18,19])] Tryz.func400 rfl ?_ (.inr a)
 repeat'(first|refine gO ?_|(conv=>whnf);first|refine C8 ?_|refine C5 (c) ?_)
 (conv=>whnf)
 refine CB (ι:=Nat) (λk=>[(0,.hold .one [I ((n:Nat))]),(2,.hold .box [.z,.z]),(4,.hold .box [.s .own (List.replicate k [.s .own (List.replicate 16 [I 0])]),.s .own (List.replicate k [B false])]),(5,.hold .one [I ((k:Nat):Int)])]) (λk=>k<=n) (λk=>n - k) (0) ?_ (P0 _) λk g=>?_
 ·exact wB
 by_cases h:k<n
 ·repeat'(first|refine gD ?_|(conv=>whnf);first|refine C8 ?_|refine Mk.mk 16 rfl rfl (by decide) (by decide) rfl ?_|refine Ap.sn (λr d=>by rw[(List.mem_replicate.1 d).2];rfl) rfl (by simp;omega) (by decide) (v7 _ k) ?_)
  ((conv=>whnf);refine CA (k+1) ω ω ?_;(exact wB))
 ·obtain rfl:k=n:=ω
  repeat'(first|refine gD ?_|(conv=>whnf);first|refine C8 ?_)
  rfl
theorem w5(n:Nat)(e:1<=n/\n<=32):ao Tryz.prog 401 false [.val none [I (n:Nat)]] (.tup [some 1,none]) (aG.enc .own (cR n)++[B true]):=by
 have c:=aD ((n:Nat):Int) 1 32;rw[N0 ω]at c;have a:=aO (b:=[B true]) (aG.enc_fr (cR n)) ⟨trivial,trivial⟩;have d:aG.enc .own (cR n)=[.s .own (List.replicate n [I 0,I 0])]:=by simp[aG.enc,cR,bj.enc,List.map_replicate]
 rw[d]at a |-;refine fO 11 [] Tryz.func401 rfl ?_ (.inr a)
 repeat'(first|refine gO ?_|(conv=>whnf);first|refine C8 ?_|refine C5 (c) ?_|refine Mk.mk n rfl rfl ω (vL ω (by decide)) rfl ?_)
 rfl
theorem sB(p f:Nat)(a:1<=p/\p<=32)(b:1<=f/\f<=32):ao Tryz.prog 378 false [.val none [I (p:Nat)],.val none [I (f:Nat)]] (.tup [some 3,none]) (aS.enc .own ⟨dr f,cR p⟩++[B true]):=by
 refine fO 30 [] Tryz.func378 rfl ?_ (.inr (aO (aS.enc_fr _) ⟨trivial,trivial⟩))
 repeat'(first|refine gO ?_|(conv=>whnf);first|refine C8 ?_|refine C5 (uJ f b) ?_|refine C5 (w5 p a) ?_)
 rfl
theorem ux(p f:Nat)(rf:List Int)(a:1<=p/\p<=32)(b:1<=f/\f<=32)(c:rf.length<=40/\∀x∈rf,0<=x):ao Tryz.prog 350 false [.val none [I (p:Nat)],.val none [I (f:Nat)],.val none (aF .imm rf)] (.tup [some 5,none]) (af.enc .own (br p f rf)++[B true]):=by
 have d:=oe a b c;have g:=c.1;have e:=kz (br p f rf) (b8 d);rw[d]at e;refine fO 31 [(2,260,[17,18,19,10,0,1,2,5,3,1000,1005,4,1005,6])] Tryz.func350 rfl ?_ (.inr (aO (af.enc_fr _) ⟨trivial,trivial⟩))
 repeat'(first|refine gO ?_|(conv=>whnf);first|refine C8 ?_|refine C5 (sB p f a b) ?_|refine CD (e) ⟨⟨rfl,CL (br p f rf)⟩,trivial⟩ ?_|refine CN (λ_=>rfl) (λ_=>rfl) ω (by decide) ?_|refine CQ (λ_=>rfl) (λ_=>rfl) ω (by decide) ?_|refine C8 ?_)
 rfl
def M6(p f t:Nat)(lim:Int)(rf:List Int)(k:Nat):ac:={caps (iu p f t lim rf) k with Quar:=⟨0,[]⟩}
theorem zl(p f t:Nat)(lim:Int)(rf:List Int)(b:1<=p/\p<=32)(c:1<=f/\f<=32)(d:1<=t/\t<=4)(e:0<=lim/\lim<=1000)(g:rf.length<=40/\∀x∈rf,0<=x):ao Tryz.prog 299 false [.val none [I (p:Nat)],.val none [I (f:Nat)],.val none [I (t:Nat)],.val none [I lim],.val none (aF .imm rf)] (.tup [some 24,none]) (ac.enc .own (iu p f t lim rf)++[B true]):=by
 have a:=aD lim 0 1000;rw[N0 e]at a;refine fO 66 [(9,4,[54,55,56,57])] Tryz.func299 rfl ?_ (.inr (aO (ac.enc_fr _) ⟨trivial,trivial⟩))
 repeat'(first|refine gO ?_|(conv=>whnf);first|refine C8 ?_|refine C5 (ux p f rf b c g) ?_|refine C5 (yi t d) ?_|refine C5 (a) ?_|refine C5 (pA) ?_)
 (conv=>whnf)
 refine CB (ι:=Nat) (λk=>[(2,.hold .one [I ((t:Nat))]),(10,.hold .box [.z,.z,.z,I 0,.z,.z,.z,.z,.z,.z,.z,.z,I 0,.z,I 0,I 0,I 0,I 0,B false,I 0,I 0,.z,I 0,I 0]),(16,.hold .box (ac.enc .own (M6 p f t lim rf k))),(17,.hold .one [I ((k:Nat):Int)])]) (λk=>k<=t) (λk=>t - k) (0) ?_ (P0 _) λk h=>?_
 ·exact wB
 by_cases i:k<t
 ·repeat'(first|refine gD ?_|(conv=>whnf);first|refine C8 ?_|refine C5 (wh) ?_|refine Ap.sn zP rfl (by rw[T0];show(List.replicate _ d2).length+1<=_;rw[Q2];omega) (by decide) (xg k) ?_)
  ((conv=>whnf);refine CA (k+1) ω ω ?_;(exact wB))
 ·obtain rfl:k=t:=ω
  repeat'(first|refine gD ?_|(conv=>whnf);first|refine C8 ?_|refine C5 (pA) ?_)
  rfl
theorem BB:ao Tryz.prog 300 false [] .agg (ax.enc .own ⟨1,[]⟩):=by
 refine fO 2 [] Tryz.func300 rfl ?_ (.inr (ax.enc_fr _))
 repeat'((conv=>whnf);first|with_reducible (first|refine Lm ?_|refine Wm ω ?_|refine Bn ?_|refine io.wk rfl ?_)|refine Bt ?_|refine Bu ?_|refine C8 ?_)
 exact⟨rfl,rfl,trivial⟩
theorem vP(c:cA)(h:Fz c):ao Tryz.prog 239 false [.val (some 5) (cA.enc .imm c)] (.tup [some 26,none]) (bD.enc .own (world0 c)++[B true]):=by
 have a:=zl c.Pages c.Frames c.Threads c.Limit c.Refuse h.p h.f h.t h.l h.r;refine fO 26 [(4,2,[23,24])] Tryz.func239 rfl ?_ (.inr (aO (bD.enc_fr _) ⟨trivial,trivial⟩))
 repeat'(first|refine gO ?_|(conv=>whnf);first|refine C8 ?_|refine C5 (a) ?_|refine C5 (BB) ?_)
 rfl
def ni(o:du)(l:List dX):List C:=[.s o (l.map (dX.enc o))]
theorem dX.enc_fr(x:dX):gv (dX.enc .own x):=⟨trivial,trivial,trivial,trivial,trivial,trivial⟩
theorem F4(l:List dX):gv (ni .own l):=⟨⟨.inl λh=>(by cases h),aY _ _ λy _=>dX.enc_fr y⟩,trivial⟩
theorem Gn(l:List dX):d5 (ni .own l)=ni .imm l:=by simp[d5,ni,dX.enc,<-bS,v4]
theorem zG(zs:List Int)(c:gF)(ids:Int)(b:iL zs)(p:c.i<=zs.length)(r:1<=ids/\ids<=1000):aQ Tryz.prog 243 false [.ptr (gG zs c),.val none [I ids]] [.ptr (gG zs (qh zs c ids).2),.val none [I ids]] .agg (dX.enc .own (qh zs c ids).1):=by
 have w:=bK p 3;have y:=bK w ids;have d:(ju zs c ids).2.i<=zs.length:=bK y 20;have B:=bL zs c 3 b p (by decide);have C:=bL zs (xz zs c).2 ids b w r.1;have j:=bL zs (BN zs c ids).2 20 b y (by decide);have H:=bA zs c (n:=3) (by decide);have J:=bA zs (xz zs c).2 (n:=ids) r.1;have D:=bA zs (BN zs c ids).2 (n:=20) (by decide);have e:=gR zs (ju zs c ids).2 szs b d (by decide);have E:=gR zs (ju zs c ids).2 [5,6] b d (by decide);have F:=gR zs (ju zs c ids).2 [1,30,60,120] b d (by decide);have l:=gR zs (ju zs c ids).2 [1,2,3,10,30] b d (by decide);have g:=bL zs (ju zs c ids).2 4 b d (by decide);have h:=bL zs (bt zs (ju zs c ids).2 4).2 999 b (bK d _) (by decide);have G:=bL zs (ju zs c ids).2 10 b d (by decide);have K:=bA zs (bt zs (ju zs c ids).2 4).2 (n:=999) (by decide);have L:=bA zs (ju zs c ids).2 (n:=10) (by decide);change aQ _ _ _ _ [.ptr (gG zs (xz zs c).2),_] _ [I (xz zs c).1]at B;change aQ _ _ _ _ [.ptr (gG zs (BN zs c ids).2),_] _ [I (BN zs c ids).1]at C;change aQ _ _ _ _ [.ptr (gG zs (ju zs c ids).2),_] _ [I (ju zs c ids).1]at j;change 0<=(xz zs c).1/\(xz zs c).1<3 at H;change 0<=(BN zs c ids).1/\(BN zs c ids).1<ids at J;change 0<=(ju zs c ids).1/\(ju zs c ids).1<20 at D;have o:=dX.enc_fr (qh zs c ids).1;unfold qh at o |-;generalize ju zs c ids=k at *;generalize BN zs c ids=n at *;generalize xz zs c=t at *;obtain⟨a,M⟩:=k;dsimp only at d e E F l g h G K L D j o |-;refine fM 77 [(92,[2,0]),(310,[2,1])] [] [(0,0),(0,0)] Tryz.func243 rfl (λu q=>?_) (.inr o)
 repeat'(first|refine gO ?_|(conv=>whnf);first|refine CF (B) (.inl rfl) ?_|refine CF (C) (.inl rfl) ?_|refine CF (j) (.inl rfl) ?_)
 obtain rfl|rfl|rfl|rfl|rfl|rfl|rfl|rfl|rfl|rfl|rfl|rfl|rfl|rfl|rfl|rfl|rfl|rfl|rfl|rfl:=(show a=0\/a=1\/a=2\/a=3\/a=4\/a=5\/a=6\/a=7\/a=8\/a=9\/a=10\/a=11\/a=12\/a=13\/a=14\/a=15\/a=16\/a=17\/a=18\/a=19 by omega)
 ·rw[C7 (show((0:Int))<=6 by decide)]
  repeat'(first|refine gO ?_|(conv=>whnf);first|refine CF (e) (.inl rfl) ?_)
  refine CC rfl rfl ?_;exact wC
 ·rw[C7 (show((1:Int))<=6 by decide)]
  repeat'(first|refine gO ?_|(conv=>whnf);first|refine CF (e) (.inl rfl) ?_)
  refine CC rfl rfl ?_;exact wC
 ·rw[C7 (show((2:Int))<=6 by decide)]
  repeat'(first|refine gO ?_|(conv=>whnf);first|refine CF (e) (.inl rfl) ?_)
  refine CC rfl rfl ?_;exact wC
 ·rw[C7 (show((3:Int))<=6 by decide)]
  repeat'(first|refine gO ?_|(conv=>whnf);first|refine CF (e) (.inl rfl) ?_)
  refine CC rfl rfl ?_;exact wC
 ·rw[C7 (show((4:Int))<=6 by decide)]
  repeat'(first|refine gO ?_|(conv=>whnf);first|refine CF (e) (.inl rfl) ?_)
  refine CC rfl rfl ?_;exact wC
 ·rw[C7 (show((5:Int))<=6 by decide)]
  repeat'(first|refine gO ?_|(conv=>whnf);first|refine CF (e) (.inl rfl) ?_)
  refine CC rfl rfl ?_;exact wC
 ·rw[C7 (show((6:Int))<=6 by decide)]
  repeat'(first|refine gO ?_|(conv=>whnf);first|refine CF (e) (.inl rfl) ?_)
  refine CC rfl rfl ?_;exact wC
 ·rw[C6 (show ¬((7:Int)<=6) by decide),C7 (show((7:Int))<=9 by decide)]
  repeat'(first|refine gO ?_|fail)
  refine CC rfl rfl ?_;exact wC
 ·rw[C6 (show ¬((8:Int)<=6) by decide),C7 (show((8:Int))<=9 by decide)]
  repeat'(first|refine gO ?_|fail)
  refine CC rfl rfl ?_;exact wC
 ·rw[C6 (show ¬((9:Int)<=6) by decide),C7 (show((9:Int))<=9 by decide)]
  repeat'(first|refine gO ?_|fail)
  refine CC rfl rfl ?_;exact wC
 ·rw[C6 (show ¬((10:Int)<=6) by decide),C6 (show ¬((10:Int)<=9) by decide),C7 (show((10:Int))<=12 by decide)]
  repeat'(first|refine gO ?_|(conv=>whnf);first|refine CF (g) (.inl rfl) ?_|refine CF (h) (.inl rfl) ?_)
  refine CC rfl rfl ?_;exact wC
 ·rw[C6 (show ¬((11:Int)<=6) by decide),C6 (show ¬((11:Int)<=9) by decide),C7 (show((11:Int))<=12 by decide)]
  repeat'(first|refine gO ?_|(conv=>whnf);first|refine CF (g) (.inl rfl) ?_|refine CF (h) (.inl rfl) ?_)
  refine CC rfl rfl ?_;exact wC
 ·rw[C6 (show ¬((12:Int)<=6) by decide),C6 (show ¬((12:Int)<=9) by decide),C7 (show((12:Int))<=12 by decide)]
  repeat'(first|refine gO ?_|(conv=>whnf);first|refine CF (g) (.inl rfl) ?_|refine CF (h) (.inl rfl) ?_)
  refine CC rfl rfl ?_;exact wC
 ·rw[C6 (show ¬((13:Int)<=6) by decide),C6 (show ¬((13:Int)<=9) by decide),C6 (show ¬((13:Int)<=12) by decide),C7 (show((13:Int))=13 by decide)]
  repeat'(first|refine gO ?_|(conv=>whnf);first|refine CF (G) (.inl rfl) ?_)
  refine CC rfl rfl ?_;exact wC
 ·rw[C6 (show ¬((14:Int)<=6) by decide),C6 (show ¬((14:Int)<=9) by decide),C6 (show ¬((14:Int)<=12) by decide),C6 (show ¬((14:Int)=13) by decide),C7 (show((14:Int))=14 by decide)]
  repeat'(first|refine gO ?_|(conv=>whnf);first|refine CF (E) (.inl rfl) ?_)
  refine CC rfl rfl ?_;exact wC
 ·rw[C6 (show ¬((15:Int)<=6) by decide),C6 (show ¬((15:Int)<=9) by decide),C6 (show ¬((15:Int)<=12) by decide),C6 (show ¬((15:Int)=13) by decide),C6 (show ¬((15:Int)=14) by decide),C7 (show((15:Int))=15 by decide)]
  repeat'(first|refine gO ?_|fail)
  refine CC rfl rfl ?_;exact wC
 ·rw[C6 (show ¬((16:Int)<=6) by decide),C6 (show ¬((16:Int)<=9) by decide),C6 (show ¬((16:Int)<=12) by decide),C6 (show ¬((16:Int)=13) by decide),C6 (show ¬((16:Int)=14) by decide),C6 (show ¬((16:Int)=15) by decide),C7 (show((16:Int))=16 by decide)]
  repeat'(first|refine gO ?_|(conv=>whnf);first|refine CF (F) (.inl rfl) ?_)
  refine CC rfl rfl ?_;exact wC
 ·rw[C6 (show ¬((17:Int)<=6) by decide),C6 (show ¬((17:Int)<=9) by decide),C6 (show ¬((17:Int)<=12) by decide),C6 (show ¬((17:Int)=13) by decide),C6 (show ¬((17:Int)=14) by decide),C6 (show ¬((17:Int)=15) by decide),C6 (show ¬((17:Int)=16) by decide),C7 (show((17:Int))=17 by decide)]
  repeat'(first|refine gO ?_|fail)
  refine CC rfl rfl ?_;exact wC
 ·rw[C6 (show ¬((18:Int)<=6) by decide),C6 (show ¬((18:Int)<=9) by decide),C6 (show ¬((18:Int)<=12) by decide),C6 (show ¬((18:Int)=13) by decide),C6 (show ¬((18:Int)=14) by decide),C6 (show ¬((18:Int)=15) by decide),C6 (show ¬((18:Int)=16) by decide),C6 (show ¬((18:Int)=17) by decide)]
  repeat'(first|refine gO ?_|(conv=>whnf);first|refine CF (l) (.inl rfl) ?_)
  refine CC rfl rfl ?_;exact wC
 ·rw[C6 (show ¬((19:Int)<=6) by decide),C6 (show ¬((19:Int)<=9) by decide),C6 (show ¬((19:Int)<=12) by decide),C6 (show ¬((19:Int)=13) by decide),C6 (show ¬((19:Int)=14) by decide),C6 (show ¬((19:Int)=15) by decide),C6 (show ¬((19:Int)=16) by decide),C6 (show ¬((19:Int)=17) by decide)]
  repeat'(first|refine gO ?_|(conv=>whnf);first|refine CF (l) (.inl rfl) ?_)
  refine CC rfl rfl ?_;exact wC
theorem yC(zs:List Int)(c:gF)(b:iL zs)(d:c.i<=zs.length):aQ Tryz.prog 151 false [.ptr (gG zs c),.val none [I 40]] [.ptr (gG zs (mf zs c).2),.val none [I 40]] .one (ni .own (mf zs c).1):=by
 have e:=bL zs c 41 b d (by decide);have g:=bA zs c (n:=41) (by decide);obtain⟨n,h⟩:=V1 g.1;have a:(bt zs c 41).1.toNat=n:=by rw[h];rfl
 unfold mf;rw[a];rw[h]at e g;refine fM 27 [(92,[2,0]),(243,[2,0])] [] [(0,0),(0,0)] Tryz.func151 rfl (λu q=>?_) (.inr (F4 _))
 repeat'(first|refine gO ?_|(conv=>whnf);first|refine CF (e) (.inl rfl) ?_)
 (conv=>whnf)
 refine CB (ι:=Nat) (λi=>[(0,.hold .box (gG zs (jU zs c i).2)),(5,.hold .one (ni .own (jU zs c i).1)),(6,.hold .one [I ((n:Nat):Int)]),(7,.hold .one [I ((i:Nat):Int)])]) (λi=>i<=n) (λi=>n - i) (0) ?_ (P0 _) λi p=>?_
 ·exact wC
 obtain⟨t,-,j⟩:=qe (zs:=zs) (c:=c) d (n:=i) ω;by_cases w:i<n
 ·have k:=zG zs (jU zs c i).2 (1+(i:Int) / 2) b j ω
  have l:((i:Nat):Int).tdiv 2=(i:Int) / 2:=Int.tdiv_eq_ediv_of_nonneg ω
  repeat'(first|refine gD ?_|(conv=>whnf);first|with_reducible (first|refine CP l ?_|refine CJ ω ?_)|refine CF (k) (.inl rfl) ?_|refine CO (aR λ_=>rfl) (λr o=>by rw[W0.1 o];rfl) (by simp[aU,dx,dX.enc]) (by simp;omega) (by simp only[T0];exact vL (by simp;omega) (by decide)) rfl ?_)
  ((conv=>whnf);refine CA (i+1) ω ω ?_)
  repeat'(first|exact trivial|rfl| exact dE _ |exact CG rfl (CG (Q0 (C.s du.own) (by simp[jU];rfl)) trivial)|refine CG ?_ ?_|(exact AQ (by first|omega|(simp only;omega)|(simp;omega))))
 ·obtain rfl:i=n:=ω
  repeat'(first|refine gD ?_|fail)
  refine CC rfl rfl ?_;exact wC
def rfs(h:ac):List Int:=h.Kernel.Refuse
theorem xT(k:af)(p:Int):(fI k p).1.Refuse=k.Refuse:=by unfold fI;split<;>rfl
theorem pL(k:af)(p:Int):∀n,(cB k p n).1.Refuse=k.Refuse
 | 0=>rfl
 | n+1=>by
  unfold cB;split
  ·exact(xT _ _).trans (pL k p n)
  ·exact pL k p n
theorem Hj(h:ac)(i:Nat):rfs (qn h i).1=rfs h:=by unfold qn;split<;>rfl
theorem wO(h:ac)(t c:Nat):rfs (fX h t c).1=rfs h:=by
 unfold fX;split
 ·rfl
 split
 ·rfl
 split
 ·rfl
 split
 ·exact xT _ _
 ·exact(Hj _ _).trans (xT _ _)
theorem FF(h:ac)(t n:Int):rfs (fW h t n).1=rfs h:=by
 unfold fW;split
 ·rfl
 split
 ·rfl
 split
 ·rfl
 split
 ·rfl
 split
 ·split
  ·exact wO _ _ _
  ·exact wO _ _ _
 ·unfold oE
  split
  ·rfl
  split
  ·exact pL _ _ _
  ·exact((rd _ _ _).2).trans (pL _ _ _)
theorem Jf(h:ac)(t i:Nat):rfs (freeT h t i).1=rfs h:=by
 unfold freeT;split
 ·exact(rd _ _ _).2
 split
 ·rfl
 split
 ·exact(i9 t _ _).2.2.2.2.2.2.2
 split<;>rfl
theorem xe(t:Nat)(h:ac):∀k,rfs (flushN t h k).1=rfs h
 | 0=>rfl
 | k+1=>((kf _ (spilt (flushN t h k).1 t k)).2.2.2.2.2.2.2).trans (xe t h k)
theorem DI{h:ac}(a:bn h [])(b:JI h):∀n,rfs (ml h n).1=rfs h
 | 0=>rfl
 | n+1=>by
  obtain⟨c,d⟩:=zf a b n;unfold ml;split
  ·rename_i e
   unfold sE at e;rw[I0]at e;exact((Dk c e.1).2.2.1).trans (DI a b n)
  ·exact DI a b n
theorem J2{w:bD}{m:Nat}(h:rS w m)(a:dX):rfs (pR w a).1.Heap=rfs w.Heap:=by
 unfold pR;split
 ·exact FF _ _ _
 split
 ·split
  ·rfl
  unfold oG;split
  ·unfold sU
   split
   ·rfl
   split
   ·exact Jf _ _ _
   ·rfl
  split
  ·unfold qi
   split
   ·rfl
   split
   ·rfl
   split<;>rfl
  ·unfold sT
   split
   ·exact((rd _ _ _).2).trans (vE _ _ _).2.2
   ·rfl
 split
 ·unfold gy
  split
  ·split<;>rfl
  split
  ·rfl
  split
  ·exact(i9 _ _ _).2.2.2.2.2.2.2
  ·exact xe _ _ _
 split
 ·unfold pF
  split
  ·exact(kf _ _).2.2.2.2.2.2.2
  ·rfl
 split
 ·unfold pY
  split
  ·rfl
  ·show rfs (started w.Heap).1=_
   unfold rfs;rw[(B6 h.inv).2.1]
 split
 ·exact DI h.inv h.ji _
 ·rfl
theorem DA{c:cA}(h:Fz c)(acts:List dX):∀n,rfs (zA c acts n).1.Heap=c.Refuse
 | 0=>rfl
 | n+1=>(J2 (zc h acts n) _).trans (DA h acts n)
def oT(w:bD):List C:=bu w.Heap++ax.enc .imm w.Ref
theorem KV(w:bD):d5 (oT w)=bD.enc .imm w:=by
 unfold oT;rw[ec,bz,<-CU,pE,CU]
 rfl
theorem AP(w:bD)(id:Int)(g:w.Heap.Objs.length<=1048576):aQ Tryz.prog 302 false [.ptr (oT w),.val none [I id]] [.ptr (oT w),.val none [I id]] .one [I (qf w.Heap id)]:=by
 refine fM 28 [] [] [(0,0),(0,0)] Tryz.func302 rfl (λu q=>?_)
 repeat'(first|refine gO ?_|(conv=>whnf);first|refine C8 ?_)
 (conv=>whnf)
 refine CB (ι:=Nat) (λi=>[(0,.hold .box (oT w)),(1,.hold .one [I (id)]),(5,.hold .one [I ((i:Nat):Int)])]) (λi=>i<=w.Heap.Objs.length/\∀(j:Nat)(z:bG),j<i->w.Heap.Objs[j]? = some z->HY id z=false) (λi=>w.Heap.Objs.length - i) (0) ?_ (⟨P0 _,λj z h=>ω⟩) λi c=>?_
 ·exact wC
 obtain⟨c,b⟩:=c;by_cases d:i<w.Heap.Objs.length
 ·have a:=ah d
  by_cases e:(nth w.Heap.Objs i).Id=id
  ·repeat'(first|refine gA ?_|(conv=>whnf);first|with_reducible refine C9 (aa a) ?_|refine C8 ?_|refine CE rfl (aa a) rfl ?_)
   refine CC rfl (Q0 (λz=>[I z]) (d9 a (N0 e) b).symm) ?_;exact wC
  ·repeat'(first|refine gA ?_|(conv=>whnf);first|with_reducible refine C9 (aa a) ?_|refine C8 ?_|refine CE rfl (aa a) rfl ?_)
   ((conv=>whnf);refine CA (i+1) ⟨ω,cW a (O0 e) b⟩ ω ?_;(exact wC))
 ·repeat'(first|refine gD ?_|(conv=>whnf);first|refine C8 ?_)
  refine CC rfl (Q0 (λz=>[I z]) (f7 ω b).symm) ?_;exact wC
theorem cz(y:ac):(bu y).length=24:=rfl
theorem wL(w:bD)(m n:Nat)(h:rS w m)(B:n<=50):aQ Tryz.prog 308 false [.ptr (oT w),.val none [I (n:Nat)]] [.ptr (oT ⟨(ml w.Heap n).1,w.Ref⟩),.val none [I (n:Nat)]] .one [I ((ml w.Heap n).2:Nat)]:=by
 refine fM 35 [(368,[2])] [] [(0,0),(0,0)] Tryz.func308 rfl (λu q=>?_)
 repeat'(first|refine gO ?_|(conv=>whnf);first|refine C8 ?_)
 (conv=>whnf)
 refine CB (ι:=Nat) (λi=>[(0,.hold .box (oT ⟨(ml w.Heap i).1,w.Ref⟩)),(1,.hold .one [I ((n:Nat):Int)]),(5,.hold .one [I (((ml w.Heap i).2:Nat):Int)]),(6,.hold .one [I ((i:Nat):Int)])]) (λi=>i<=n/\(ml w.Heap i).2=i) (λi=>n - i) (0) ?_ (⟨P0 _,rfl⟩) λi l=>?_
 ·exact wC
 obtain⟨l,C⟩:=l;obtain⟨o,D⟩:=zf h.inv h.ji i;have b:ml w.Heap (i+1)=if sE (ml w.Heap i).1=true then(mStep (ml w.Heap i).1,(ml w.Heap i).2+1) else ml w.Heap i:=rfl
 have p:=(aC.1 o.ker).2.2.2.2;by_cases E:i<n
 ·cases c:(ml w.Heap i).1.Meshing with
  | true=>
   have y:=(zd _ o c).frame (r:=ax.enc .imm w.Ref) ((cz _).trans (cz _).symm);by_cases g:(ml w.Heap i).1.Kernel.Calls<=99000
   ·have d:sE (ml w.Heap i).1=true:=by unfold sE;rw[c,N0 g];rfl
    rw[C7 d]at b;generalize ml w.Heap i=s at *
    repeat'(first|refine gD ?_|(conv=>whnf);first|refine C8 ?_|refine Bf.t (N0 g) ?_|refine Bf.t c ?_|refine CF (y) (.inl rfl) ?_)
    ((conv=>whnf);refine CA (i+1) ⟨ω,by rw[b];simp only;omega⟩ ω ?_)
    rw[b];exact wC
   ·have d:sE (ml w.Heap i).1=false:=by unfold sE;rw[c,O0 g];rfl
    have a:∀k,ml w.Heap (i+k)=ml w.Heap i:=λk=>by
     induction k with
     | zero=>rfl
     | succ k j=>show(if sE (ml w.Heap (i+k)).1=true then _ else ml w.Heap (i+k))=_;rw[j,d,C6 (by simp)]
    have e:=a (n - i);rw[show i+(n - i)=n by omega]at e;rw[e];generalize ml w.Heap i=s at *
    repeat'(first|refine gD ?_|(conv=>whnf);first|refine C8 ?_|refine Bf.f (O0 g) ?_|refine Bf.t c ?_)
    refine CC rfl rfl ?_;exact wC
  | false=>
   have d:sE (ml w.Heap i).1=false:=by unfold sE;rw[c];rfl
   have a:∀k,ml w.Heap (i+k)=ml w.Heap i:=λk=>by
    induction k with
    | zero=>rfl
    | succ k j=>show(if sE (ml w.Heap (i+k)).1=true then _ else ml w.Heap (i+k))=_;rw[j,d,C6 (by simp)]
   have e:=a (n - i);rw[show i+(n - i)=n by omega]at e;rw[e];generalize ml w.Heap i=s at *
   repeat'(first|refine gD ?_|(conv=>whnf);first|refine C8 ?_|refine Bf.f c ?_)
   refine CC rfl rfl ?_;exact wC
 ·obtain rfl:i=n:=ω
  repeat'(first|refine gD ?_|(conv=>whnf);first|refine C8 ?_)
  refine CC rfl rfl ?_;exact wC
theorem Dx{k:af}(a:aA k=true):(aA k&&decide (k.Calls<100000))=decide (k.Calls≠100000):=by
 have:=(aC.1 a).2.2.2.2;rw[a,Bool.true_and,Q3,C0,C0];omega
theorem uF(w:bD)(a:dX)(m:Nat)(h:rS w m)(B:a.Kind=5\/a.Kind=6\/a.Kind=7):aQ Tryz.prog 304 false [.ptr (oT w),.val (some 5) (dX.enc .imm a)] [.ptr (oT ⟨(gy w.Heap a).1,w.Ref⟩),.val (some 5) (dX.enc .imm a)] .one [I (gy w.Heap a).2]:=by
 have d:=h.inv;have o:=d.nc;have p:w.Heap.Caches.length<=4:=by have:=(dv.1 d.mail).1.2.1;omega
 have C:=ki.of d.mail;have i:=kh w.Heap.Kernel (b8 d.ker);rw[Dx d.ker]at i;have j:=aD a.Thread 0 (w.Heap.Caches.length - 1:Int);unfold gy;refine fM 59 [(361,[2,0]),(362,[2,0])] [(3,267,[15,16,17,18,19,20,21,14,22,23,6,0,1,2,3,4,5,6,7,8,9,10,11,1009,12]),(8,15,[30,31,32,33,34,35,36,37,38,39,40,41,42,43,44])] [(0,0),(0,0)] Tryz.func304 rfl (λu q=>?_);by_cases l:a.Kind=5
 ·rw[C7 l]
  by_cases e:0<=a.Thread/\a.Thread<=w.Heap.Caches.length - 1
  ·have y:mB w.Heap a:=e
   obtain⟨t,g⟩:=V1 e.1;have b:=Ak w.Heap.Mail t d.mail ω;rw[<-g]at b;rw[g]at e |-;simp only[U1];rw[g]at b;by_cases c:0<(nth w.Heap.Mail.Buffers t).length
   ·rw[C7 (show mB w.Heap a/\0<(nth w.Heap.Mail.Buffers t).length from⟨y,c⟩)]
    rw[C7 c,N0 c]at b;rw[<-g]at b
    repeat'(first|refine gA ?_|(conv=>whnf);first|with_reducible refine Bf.E (λk=>?_) (λk=>?_)|refine C8 ?_|refine CD (b) ⟨⟨rfl,aJ.enc_fz w.Heap.Mail⟩,⟨rfl,rfl⟩,trivial⟩ ?_|refine C8 ?_)
    refine CC rfl rfl ?_;exact wC
   ·rw[C6 (show ¬(mB w.Heap a/\0<(nth w.Heap.Mail.Buffers t).length) from λx=>c x.2)]
    rw[C6 c,O0 c]at b;rw[<-g]at b
    repeat'(first|refine gA ?_|(conv=>whnf);first|with_reducible refine Bf.E (λk=>?_) (λk=>?_)|refine C8 ?_|refine CD (b) ⟨⟨rfl,aJ.enc_fz w.Heap.Mail⟩,⟨rfl,rfl⟩,trivial⟩ ?_|refine C8 ?_)
    refine CC rfl rfl ?_;exact wC
  ·rw[C6 (show ¬(mB w.Heap a/\0<(nth w.Heap.Mail.Buffers a.Thread.toNat).length) from λx=>e x.1)]
   have b:=BT w.Heap.Mail a.Thread d.mail ω
   repeat'(first|refine gA ?_|(conv=>whnf);first|with_reducible refine Bf.E (λk=>?_) (λk=>?_)|refine C8 ?_|refine CD (b) ⟨⟨rfl,aJ.enc_fz w.Heap.Mail⟩,⟨rfl,rfl⟩,trivial⟩ ?_|refine C8 ?_)
   refine CC rfl rfl ?_;exact wC
 rw[C6 l];by_cases e:w.Heap.Kernel.Calls≠100000;rotate_left
 ·rw[C7 (show ¬(w.Heap.Kernel.Calls≠100000/\mB w.Heap a) from λx=>e x.1)]
  rw[O0 e]at i
  repeat'(first|refine gA ?_|(conv=>whnf);first|refine C8 ?_|refine CD (i) ⟨⟨rfl,CL _⟩,trivial⟩ ?_|refine C8 ?_)
  refine CC rfl rfl ?_;exact wC
 rw[N0 e]at i;by_cases c:0<=a.Thread/\a.Thread<=w.Heap.Caches.length - 1;rotate_left
 ·rw[C7 (show ¬(w.Heap.Kernel.Calls≠100000/\mB w.Heap a) from λx=>c x.2)]
  rw[O0 c]at j
  repeat'(first|refine gA ?_|(conv=>whnf);first|refine C8 ?_|refine CD (i) ⟨⟨rfl,CL _⟩,trivial⟩ ?_|refine C5 (j) ?_|refine C8 ?_)
  refine CC rfl rfl ?_;exact wC
 rw[C6 (show ¬¬(w.Heap.Kernel.Calls≠100000/\mB w.Heap a) from Z2 ⟨e,c⟩)];rw[N0 c]at j;obtain⟨t,g⟩:=V1 c.1;by_cases n:a.Kind=6
 ·rw[C7 n]
  have b:=(sD w.Heap t d ω).frame (r:=ax.enc .imm w.Ref) ((cz _).trans (cz _).symm);rw[show a.Thread.toNat=t by omega];rw[<-g]at b
  repeat'(first|refine gA ?_|(conv=>whnf);first|refine C8 ?_|refine CD (i) ⟨⟨rfl,CL _⟩,trivial⟩ ?_|refine C5 (j) ?_|refine CF (b) (.inl rfl) ?_|refine C8 ?_)
  refine CC rfl rfl ?_;exact wC
 ·rw[C6 n]
  have b:=(wv w.Heap t d ω).frame (r:=ax.enc .imm w.Ref) ((cz _).trans (cz _).symm);rw[show a.Thread.toNat=t by omega];rw[<-g]at b
  repeat'(first|refine gA ?_|(conv=>whnf);first|refine C8 ?_|refine CD (i) ⟨⟨rfl,CL _⟩,trivial⟩ ?_|refine C5 (j) ?_|refine CF (b) (.inl rfl) ?_|refine C8 ?_)
  refine CC rfl rfl ?_;exact wC
theorem tl(w:bD)(a:dX)(i m:Nat)(h:rS w m)(X:m<=900)(G:Hy a)(t:i<w.Heap.Objs.length):aQ Tryz.prog 303 false [.ptr (oT w),.val (some 5) (dX.enc .imm a),.val none [I (i:Nat)]] [.ptr (oT (oG w a i).1),.val (some 5) (dX.enc .imm a),.val none [I (i:Nat)]] .one [I (oG w a i).2]:=by
 have e:=h.inv;have b:=ah t;have M:=oz e (am t);have N:=lz e (am t) (k:=0);have O:1<=(nth w.Heap.Objs i).Size/\(nth w.Heap.Objs i).Size<=1000:=by
  rcases e.oow _ (am t) with⟨s,P,Y,Z⟩|⟨l,H,d,c⟩
  ·have hc:=aE (e.L.sok s P)
   have:=oY (n:=(nth w.Heap.Objs i).Size) ω;omega
  ·have h8:=ci (e.L.lok l H)
   omega
 have g:=kh w.Heap.Kernel (b8 e.ker);rw[Dx e.ker]at g;have Q:=G.k;have R:=G.p;have S:=G.v;unfold oG;refine fM 126 [(354,[2,0,0]),(356,[2,0,0]),(358,[2,0,0])] [(6,7,[29,30,31,32,33,34,35]),(8,269,[40,41,42,43,44,45,46,47,39,48,49,50,51,0,1,2,3,4,5,6,7,8,9,10,11,12,13,1010]),(13,10,[62,63,64,65,66,67,68,69,70,71]),(15,273,[76,77,78,79,80,81,82,83,84,85,86,87,75,88,89,90,91,0,1,2,3,4,5,6,7,8,9,10,11,12,13,14,15,16,17,1014]),(17,15,[93,94,95,96,97,98,99,100,101,102,103,104,105,106,107]),(19,271,[112,113,114,115,116,117,118,119,120,121,111,122,123,124,125,0,1,2,3,4,5,6,7,8,9,10,11,12,13,14,15,1012])] [(0,0),(0,0),(0,0)] Tryz.func303 rfl (λu q=>?_);by_cases J:a.Kind=2
 ·rw[C7 J]
  unfold sU;by_cases d:w.Heap.Kernel.Calls=100000
  ·rw[C7 d]
   rw[O0 (Z2 d)]at g
   repeat'(first|refine gA ?_|(conv=>whnf);first|with_reducible refine C9 (aa b) ?_|refine C8 ?_|refine CD (g) ⟨⟨rfl,CL _⟩,trivial⟩ ?_|refine CE rfl (aa b) rfl ?_|refine C8 ?_)
   refine CC rfl rfl ?_;exact wC
  rw[C6 d];rw[N0 d]at g;have C:=(JM w.Heap i a.Thread e t).frame (r:=ax.enc .imm w.Ref) ((cz _).trans (cz _).symm);by_cases c:0<=a.Thread/\a.Thread<=w.Heap.Caches.length - 1
  ·rw[C7 (show mB w.Heap a from c)]
   rw[C7 c,C7 c]at C;have T:=xY w.Ref (nth w.Heap.Objs i).Id m h.ref ω;generalize freeT w.Heap a.Thread.toNat i=f at C |-;by_cases o:f.2=0
   ·rw[C7 o]
    repeat'(first|refine gA ?_|(conv=>whnf);first|with_reducible (first|refine C9 (aa b) ?_|refine Bf.E (λj=>?_) (λj=>?_))|refine C8 ?_|refine CD (g) ⟨⟨rfl,CL _⟩,trivial⟩ ?_|refine CE rfl (aa b) rfl ?_|refine CF (C) (.inl rfl) ?_|refine Cl.sh T rfl ?_|refine C8 ?_)
    refine CC rfl rfl ?_;exact wC
   ·rw[C6 o]
    repeat'(first|refine gA ?_|(conv=>whnf);first|with_reducible (first|refine C9 (aa b) ?_|refine Bf.E (λj=>?_) (λj=>?_))|refine C8 ?_|refine CD (g) ⟨⟨rfl,CL _⟩,trivial⟩ ?_|refine CE rfl (aa b) rfl ?_|refine CF (C) (.inl rfl) ?_|refine C8 ?_)
    refine CC rfl rfl ?_;exact wC
  ·rw[C6 (show ¬mB w.Heap a from c)]
   rw[C6 c,C6 c]at C
   repeat'(first|refine gA ?_|(conv=>whnf);first|with_reducible (first|refine C9 (aa b) ?_|refine Bf.E (λj=>?_) (λj=>?_))|refine C8 ?_|refine CD (g) ⟨⟨rfl,CL _⟩,trivial⟩ ?_|refine CE rfl (aa b) rfl ?_|refine CF (C) (.inl rfl) ?_|refine C8 ?_)
   refine CC rfl rfl ?_;exact wC
 rw[C6 J];by_cases K:a.Kind=3
 ·rw[C7 K]
  unfold qi;have D:=aD a.At 0 ((nth w.Heap.Objs i).Size - 1);by_cases d:0<=a.At/\a.At<=(nth w.Heap.Objs i).Size - 1;rotate_left
  ·rw[C7 d]
   rw[O0 d]at D
   repeat'(first|refine gA ?_|(conv=>whnf);first|with_reducible (first|refine C9 (aa b) ?_|refine Bf.E (λj=>?_) (λj=>?_))|refine C8 ?_|refine CE rfl (aa b) rfl ?_|refine C5 (D) ?_|refine C8 ?_)
   refine CC rfl rfl ?_;exact wC
  rw[C6 (Z2 d)];rw[N0 d]at D;have F:=(wG w.Heap i a.At a.Value e t d).frame (r:=ax.enc .imm w.Ref) (by split<;>rfl);have U:=lz e (am t) d;by_cases c:(ar w.Heap.Kernel.Machine.Table (((nth w.Heap.Objs i).Addr+a.At) / 16)).Mode=1
  ·rw[C7 c]
   rw[C7 (.inl c),C7 c]at F
   repeat'(first|refine gA ?_|(conv=>whnf);first|with_reducible (first|refine C9 (aa b) ?_|refine Bf.E (λj=>?_) (λj=>?_))|refine C8 ?_|refine CE rfl (aa b) rfl ?_|refine C5 (D) ?_|refine CF (F) (.inl rfl) ?_|refine C8 ?_)
   refine CC rfl rfl ?_;exact wC
  rw[C6 c];by_cases o:0<=a.Value/\a.Value<=999;rotate_left
  ·rw[C7 o]
   rw[C7 (.inr o),C6 c,C7 o]at F
   repeat'(first|refine gA ?_|(conv=>whnf);first|with_reducible (first|refine C9 (aa b) ?_|refine Bf.E (λj=>?_) (λj=>?_))|refine C8 ?_|refine CE rfl (aa b) rfl ?_|refine C5 (D) ?_|refine CF (F) (.inl rfl) ?_|refine C8 ?_)
   refine CC rfl rfl ?_;exact wC
  rw[C6 (Z2 o)];rw[C6 (λx=>x.elim c λy=>y o),C6 c,C6 (Z2 o)]at F;obtain⟨b5,V⟩:=yJ w.Ref (nth w.Heap.Objs i).Id a.At a.Value m h.ref ω o
  repeat'(first|refine gA ?_|(conv=>whnf);first|with_reducible (first|refine C9 (aa b) ?_|refine Bf.E (λj=>?_) (λj=>?_))|refine C8 ?_|refine CE rfl (aa b) rfl ?_|refine C5 (D) ?_|refine CF (F) (.inl rfl) ?_|refine C5 (V) ?_|refine C8 ?_)
  refine CC rfl rfl ?_;exact wC
 rw[C6 K];unfold sT;by_cases d:w.Heap.Kernel.Calls=100000
 ·rw[C6 (λx=>x.1 d)]
  rw[O0 (Z2 d)]at g
  repeat'(first|refine gA ?_|(conv=>whnf);first|with_reducible refine C9 (aa b) ?_|refine C8 ?_|refine CD (g) ⟨⟨rfl,CL _⟩,trivial⟩ ?_|refine CE rfl (aa b) rfl ?_|refine C8 ?_)
  refine CC rfl rfl ?_;exact wC
 rw[N0 d]at g;by_cases c:jV w.Heap i a.Value
 ·rw[C7 ⟨d,c⟩]
  have B:=(pq w.Heap i a.Value e t c.1).frame (r:=ax.enc .imm w.Ref) (by split<;>rfl);rw[C7 c,N0 c]at B;obtain⟨b7,W⟩:=BG w.Ref (nth w.Heap.Objs i).Id a.Value m h.ref ω
  repeat'(first|refine gA ?_|(conv=>whnf);first|with_reducible refine C9 (aa b) ?_|refine C8 ?_|refine CD (g) ⟨⟨rfl,CL _⟩,trivial⟩ ?_|refine CE rfl (aa b) rfl ?_|refine CF (B) (.inl rfl) ?_|refine C5 (W) ?_|refine C8 ?_)
  refine CC rfl rfl ?_;exact wC
 ·rw[C6 (λx=>c x.2)]
  by_cases o:vT w.Heap (nth w.Heap.Objs i).Addr<0
  ·have B:=(D8 w.Heap (nth w.Heap.Objs i).Addr a.Value (by have:=e.lens.larges;omega) e.L.lok o).frame (r:=ax.enc .imm w.Ref) ((cz _).trans (cz _).symm)
   repeat'(first|refine gA ?_|(conv=>whnf);first|with_reducible refine C9 (aa b) ?_|refine C8 ?_|refine CD (g) ⟨⟨rfl,CL _⟩,trivial⟩ ?_|refine CE rfl (aa b) rfl ?_|refine CF (B) (.inl rfl) ?_|refine C8 ?_)
   refine CC rfl rfl ?_;exact wC
  ·have B:=(pq w.Heap i a.Value e t ω).frame (r:=ax.enc .imm w.Ref) (by split<;>rfl)
   rw[C6 c,O0 c]at B
   repeat'(first|refine gA ?_|(conv=>whnf);first|with_reducible refine C9 (aa b) ?_|refine C8 ?_|refine CD (g) ⟨⟨rfl,CL _⟩,trivial⟩ ?_|refine CE rfl (aa b) rfl ?_|refine CF (B) (.inl rfl) ?_|refine C8 ?_)
   refine CC rfl rfl ?_;exact wC
theorem rS.fit{w:bD}{m:Nat}(h:rS w m)(a:im w.Heap.Kernel.Refuse):ac.sml w.Heap/\ac.wf w.Heap:=
 ⟨(h.inv.fit a (ki.of h.inv.mail).sml).sml,h.inv.wf a⟩
theorem DB(w:bD)(a:dX)(m:Nat)(h:rS w m)(K:m<=900)(L:im w.Heap.Kernel.Refuse)(p:Hy a):aQ Tryz.prog 240 false [.ptr (oT w),.val (some 5) (dX.enc .imm a)] [.ptr (oT (pR w a).1),.val (some 5) (dX.enc .imm a)] .one [I (pR w a).2]:=by
 have i:=h.inv;have M:=p.k;have O:=p.n;have j:=i.nums;unfold ca at j;rw[C0]at j;unfold pR;refine fM 123 [(143,[2,0,0]),(302,[2,0]),(303,[2,0,0]),(304,[2,0]),(306,[2,0]),(307,[2]),(308,[2,0])] [(3,265,[13,14,15,16,17,18,19,21,22,0,1,2,3,4,5,6,7,8,9,10,11,1010,12]),(5,269,[26,27,28,29,30,31,32,33,25,34,35,36,37,0,1,2,3,4,5,6,7,8,9,10,11,12,13,1010]),(19,21,[62,63,64,65,66,67,68,69,70,71,72,73,74,75,76,77,78,79,80,81,82]),(21,5,[86,87,88,89,90])] [(0,0),(0,0)] Tryz.func240 rfl (λu q=>?_);by_cases F:a.Kind=1
 ·rw[C7 F]
  have c:=(wM w.Heap a.Thread a.N i).frame (r:=ax.enc .imm w.Ref) ((cz _).trans (cz _).symm);by_cases e:(fW w.Heap a.Thread a.N).2.2=0
  ·rw[C7 e]
   have y:1<=a.N/\a.N<=1000:=by
    refine Classical.byContradiction λB=>?_
    unfold fW at e;rw[C7 B]at e;split at e
    ·exact absurd (show(5:Int)=0 from e) (by decide)
    split at e
    ·exact absurd (show(1:Int)=0 from e) (by decide)
    exact absurd (show(2:Int)=0 from e) (by decide)
   have o:=vU w.Ref a.N m h.ref ω y;generalize fW w.Heap a.Thread a.N=f at c e |-
   repeat'(first|refine gA ?_|(conv=>whnf);first|with_reducible refine Bf.E (λb=>?_) (λb=>?_)|refine C8 ?_|refine CF (c) (.inl rfl) ?_|refine C5 (o) ?_|refine C8 ?_)
   refine CC rfl rfl ?_;exact wC
  ·rw[C6 e]
   generalize fW w.Heap a.Thread a.N=f at c e |-
   repeat'(first|refine gA ?_|(conv=>whnf);first|with_reducible refine Bf.E (λb=>?_) (λb=>?_)|refine C8 ?_|refine CF (c) (.inl rfl) ?_|refine C8 ?_)
   refine CC rfl rfl ?_;exact wC
 rw[C6 F];by_cases G:a.Kind=2\/a.Kind=3\/a.Kind=4
 ·rw[C7 G]
  have c:=AP w a.N (by have:=i.lens.objs;omega);by_cases e:qf w.Heap a.N<0
  ·rw[C7 e]
   repeat'(first|refine gA ?_|(conv=>whnf);first|with_reducible refine Bf.E (λb=>?_) (λb=>?_)|refine C8 ?_|refine CF (c) (.inl rfl) ?_)
   all_goals first|omega|skip
   all_goals
    refine CC rfl rfl ?_;exact wC
  ·rw[C6 e]
   obtain⟨P,S,T⟩:=eL (HY a.N) w.Heap.Objs (by unfold qf at e;omega);have o:=tl w a (qf w.Heap a.N).toNat m h K p P;rw[show(((qf w.Heap a.N).toNat:Nat):Int)=qf w.Heap a.N by omega]at o
   repeat'(first|refine gA ?_|(conv=>whnf);first|with_reducible refine Bf.E (λb=>?_) (λb=>?_)|refine C8 ?_|refine CF (c) (.inl rfl) ?_|refine CF (o) (.inl rfl) ?_)
   all_goals first|omega|skip
   all_goals
    refine CC rfl rfl ?_;exact wC
 rw[C6 G];by_cases C:a.Kind=5\/a.Kind=6\/a.Kind=7
 ·rw[C7 C]
  have c:=uF w a m h C
  repeat'(first|refine gA ?_|(conv=>whnf);first|with_reducible refine Bf.E (λb=>?_) (λb=>?_)|refine C8 ?_|refine CF (c) (.inl rfl) ?_)
  all_goals first|omega|skip
  all_goals
   refine CC rfl rfl ?_;exact wC
 rw[C6 C];by_cases H:a.Kind=8
 ·rw[C7 H]
  unfold pF;have d:=kh w.Heap.Kernel (b8 i.ker);rw[Dx i.ker]at d;have c:=aD a.N 0 1000;by_cases g:w.Heap.Kernel.Calls≠100000;rotate_left
  ·rw[C6 (λx=>g x.1)]
   rw[O0 g]at d
   repeat'(first|refine gA ?_|(conv=>whnf);first|with_reducible refine Bf.E (λb=>?_) (λb=>?_)|refine C8 ?_|refine CD (d) ⟨⟨rfl,CL _⟩,trivial⟩ ?_|refine C8 ?_)
   refine CC rfl rfl ?_;exact wC
  rw[N0 g]at d;by_cases l:0<=a.N/\a.N<=1000;rotate_left
  ·rw[C6 (λx=>l x.2.1)]
   rw[O0 l]at c
   repeat'(first|refine gA ?_|(conv=>whnf);first|with_reducible refine Bf.E (λb=>?_) (λb=>?_)|refine C8 ?_|refine CD (d) ⟨⟨rfl,CL _⟩,trivial⟩ ?_|refine C5 (c) ?_|refine C8 ?_)
   refine CC rfl rfl ?_;exact wC
  rw[N0 l]at c;by_cases D:w.Heap.Clock+a.N<=1000000
  ·rw[C7 ⟨g,l,D⟩]
   have o:=(yN w.Heap a.N i l D).frame (r:=ax.enc .imm w.Ref) ((cz _).trans (cz _).symm)
   repeat'(first|refine gA ?_|(conv=>whnf);first|with_reducible refine Bf.E (λb=>?_) (λb=>?_)|refine C8 ?_|refine CD (d) ⟨⟨rfl,CL _⟩,trivial⟩ ?_|refine C5 (c) ?_|refine CF (o) (.inl rfl) ?_|refine C8 ?_)
   refine CC rfl rfl ?_;exact wC
  ·rw[C6 (λx=>D x.2.2)]
   repeat'(first|refine gA ?_|(conv=>whnf);first|with_reducible refine Bf.E (λb=>?_) (λb=>?_)|refine C8 ?_|refine CD (d) ⟨⟨rfl,CL _⟩,trivial⟩ ?_|refine C5 (c) ?_|refine C8 ?_)
   refine CC rfl rfl ?_;exact wC
 rw[C6 H];by_cases J:a.Kind=9
 ·rw[C7 J]
  unfold pY;obtain⟨Q,R⟩:=h.fit L;have d:=Ar w.Heap Q R;rw[show gh w.Heap=true from i.to]at d;cases g:w.Heap.Meshing with
  | true=>
   rw[C7 rfl]
   repeat'(first|refine gA ?_|(conv=>whnf);first|with_reducible refine Bf.E (λb=>?_) (λb=>?_)|refine C8 ?_|refine Bf.t g ?_|refine C8 ?_)
   refine CC rfl rfl ?_;exact wC
  | false=>
   rw[C6 (by simp)];have c:=(wJ w.Heap i).frame (r:=ax.enc .imm w.Ref) ((cz _).trans (cz _).symm);cases l:(started w.Heap).2<;>rw[l]at c
   ·rw[C6 (by simp)]
    repeat'(first|refine gA ?_|(conv=>whnf);first|with_reducible refine Bf.E (λb=>?_) (λb=>?_)|refine C8 ?_|refine Bf.f g ?_|refine CD (d) ⟨⟨rfl,bz w.Heap⟩,trivial⟩ ?_|refine CF (c) (.inl rfl) ?_|refine C8 ?_)
    refine CC rfl rfl ?_;exact wC
   ·rw[C7 rfl]
    repeat'(first|refine gA ?_|(conv=>whnf);first|with_reducible refine Bf.E (λb=>?_) (λb=>?_)|refine C8 ?_|refine Bf.f g ?_|refine CD (d) ⟨⟨rfl,bz w.Heap⟩,trivial⟩ ?_|refine CF (c) (.inl rfl) ?_|refine C8 ?_)
    refine CC rfl rfl ?_;exact wC
 rw[C6 J];have k10:a.Kind=10:=ω
 have d:=aD a.N 0 50;by_cases g:0<=a.N/\a.N<=50
 ·rw[C7 ⟨k10,g⟩]
  rw[N0 g]at d;obtain⟨n,B⟩:=V1 g.1;have c:=wL w m n h ω;rw[show a.N.toNat=n by omega];rw[<-B]at c
  repeat'(first|refine gA ?_|(conv=>whnf);first|with_reducible refine Bf.E (λb=>?_) (λb=>?_)|refine C8 ?_|refine C5 (d) ?_|refine CF (c) (.inl rfl) ?_|refine C8 ?_)
  refine CC rfl rfl ?_;exact wC
 ·rw[C6 (λx=>g x.2)]
  rw[O0 g]at d
  repeat'(first|refine gA ?_|(conv=>whnf);first|with_reducible refine Bf.E (λb=>?_) (λb=>?_)|refine C8 ?_|refine C5 (d) ?_|refine C8 ?_)
  refine CC rfl rfl ?_;exact wC
theorem zy(w:bD)(h1:ac.sml w.Heap)(a:ax.sml w.Ref):ao Tryz.prog 241 false [.val (some 26) (bD.enc .imm w)] .agg (bD.enc .own w):=by
 have b:=yr w.Heap h1;have c:=d7 w.Ref a;refine fO 10 [(1,5,[3,4,5,6,7])] Tryz.func241 rfl ?_ (.inr (bD.enc_fr _))
 repeat'(first|refine gO ?_|(conv=>whnf);first|refine C5 (b) ?_|refine C5 (c) ?_|refine C8 ?_)
 rfl
theorem yB(c:cA)(acts:List dX)(h:Fz c)(d:im c.Refuse)(n:∀a∈acts,Hy a)(D:acts.length<=80):ao Tryz.prog 149 false [.val (some 5) (cA.enc .imm c),.val none (ni .imm acts)] (.tup [some 26,none]) (bD.enc .own (zA c acts acts.length).1++aF .own (zA c acts acts.length).2):=by
 have o:=vP c h;refine fP 42 [(240,[2,0]),(2000005,[6,21,25])] [] Tryz.func149 rfl ?_ (.inr (aO (bD.enc_fr _) (bM _)))
 repeat'(first|refine gD ?_|(conv=>whnf);first|refine C5 (o) ?_|refine DQ.mk rfl rfl rfl ?_)
 (conv=>whnf)
 refine CB (ι:=Nat) (λi=>[(1,.hold .one (ni .imm acts)),(4,.hold .box [.z,.z,.z,I 0,.z,.z,.z,.z,.z,.z,.z,.z,I 0,.z,I 0,I 0,I 0,I 0,B false,I 0,I 0,.z,I 0,I 0,I 0,.z]),(6,.hold .box (oT (zA c acts i).1)),(8,.hold .one (aF .own (zA c acts i).2)),(9,.hold .one [I ((i:Nat):Int)])]) (λi=>i<=acts.length) (λi=>acts.length - i) (0) ?_ (P0 _) λi p=>?_
 ·repeat'(first|exact trivial|rfl |exact nj q|exact dE _|refine CG ?_ ?_|(exact AQ (by first|omega|(simp only;omega)|(simp;omega))))
 have e:=zc h acts i;have b:=DA h acts i;have g:(zA c acts i).2.length=i:=by
  clear e b p
  induction i with
  | zero=>rfl
  | succ k t=>show((zA c acts k).2++[_]).length=_;rw[I2,t];rfl
 by_cases j:i<acts.length
 ·have l:=ah j
  have u:=DB (zA c acts i).1 (nth acts i) i e ω (by unfold rfs at b;rw[b];exact d) (n _ (am j))
  repeat'(first|refine gD ?_|(conv=>whnf);first|with_reducible refine C9 (aa l) ?_|refine CE rfl (aa l) rfl ?_|refine CF (u) (.inl rfl) ?_|refine CO cv (λr d=>by rw[W0.1 d];rfl) (by simp[aU,dx]) (by simp;omega) (by simp only[T0];exact vL (by simp;omega) (by decide)) rfl ?_)
  ((conv=>whnf);refine CA (i+1) ω ω ?_)
  repeat'(first|exact trivial|rfl| exact dE _ |exact CG rfl (CG (Q0 (C.s du.own) (by simp[zA,rI])) trivial)|refine CG ?_ ?_|(exact AQ (by first|omega|(simp only;omega)|(simp;omega))))
 ·obtain rfl:i=acts.length:=ω
  have w:=e.fit (by unfold rfs at b;rw[b];exact d);have y:=zy (zA c acts acts.length).1 w.1 (e.ref.sml ω)
  repeat'(first|refine gD ?_|(conv=>whnf);first|refine CD (y) ⟨⟨rfl,KV _⟩,trivial⟩ ?_)
  rfl
theorem AX(zs:List Int)(c:gF):im (og zs c).Refuse:=by
 show im (mU zs 4 0 [] (ye zs c).2).1;have key:∀(f i:Nat)(out:List Int)(c:gF),(∀x∈out,kX x)->∀x∈(mU zs f i out c).1,kX x:=by
  intro f
  induction f with
  | zero=>intro i out c h;exact h
  | succ f b=>
   intro i out c h;unfold mU;split
   ·refine b _ _ _ λx a=>?_
    rcases W1.1 a with a|a
    ·exact h x a
    ·rw[W0.1 a]
     have:=bA zs (bt zs c 4).2 (n:=12) (by decide);exact⟨ω,ω⟩
   ·exact h
 exact⟨by
   have d:∀(f i:Nat)(out:List Int)(c:gF),out.length+f<=4->(mU zs f i out c).1.length<=4:=by
     intro f
     induction f with
     | zero=>intro i out c h;exact h
     | succ f b=>
       intro i out c h;unfold mU;split
       · exact b _ _ _ (by simp only[I2,List.length_singleton];omega)
       · show out.length<=4;omega
   have:=d 4 0 [] (ye zs c).2 (Z1 _);omega,key 4 0 [] _ (λx a=>by cases a)⟩
theorem vR(zs:List Int)(a:iL zs):aQ Tryz.prog 61 false [.ptr (gG zs (sC zs))] [.ptr (gG zs (mf zs (eC zs)).2)] .agg (bD.enc .own (drawn zs)):=by
 have b:(sC zs).i<=zs.length:=P0 _;obtain⟨g,d⟩:=v8 b;have o:=bA zs (eC zs) (n:=41) (by decide);obtain⟨p,h,-⟩:=qe (zs:=zs) (c:=eC zs) d (n:=(bt zs (eC zs) 41).1.toNat) ω;have e:=vA zs (sC zs) a b;have j:=yC zs (eC zs) a d;have k:=yB (og zs (sC zs)) (mf zs (eC zs)).1 g (AX zs _) h (by show(jU zs (eC zs) _).1.length<=80;omega);have l:drawn zs=(zA (og zs (sC zs)) (mf zs (eC zs)).1 (mf zs (eC zs)).1.length).1:=rfl;rw[l];change aQ _ _ _ _ [.ptr (gG zs (eC zs))] _ _ at e;generalize og zs (sC zs)=cf at *;generalize r:mf zs (eC zs)=A at *;generalize t:zA cf A.1 A.1.length=R at *;refine fM 14 [(150,[2]),(151,[2,0])] [] [(0,0)] Tryz.func61 rfl (λu q=>?_) (.inr (bD.enc_fr _))
 repeat'(first|refine gO ?_|(conv=>whnf);first|refine CF (e) (.inl rfl) ?_|refine CF (j) (.inl rfl) ?_|refine CD (k) ⟨⟨rfl,cA.enc_fz _⟩,⟨rfl,Gn _⟩,trivial⟩ ?_)
 refine CC rfl rfl ?_;exact wC
def MB(z:List Int):List C:=[.s .imm (z.map rU)]
theorem Bi(zs:List Int)(b:iL zs):oM Tryz.prog 62 true [.val none (MB zs)] .box (gG zs (sC zs)):=by
 have r:=b.1;have e:IntKind.i64.wrap (98801+(zs.length:Nat))=w64 (98801+(zs.length:Nat)):=rfl;have g:nP zs 0=98801+(zs.length:Nat):=by show w64 _=_;rw[<-e];exact er ω ω
 have a:=Q0 I g;refine M9 (n:=32) (t:=2) (mo:=[]) (tb:=[]) Tryz.func62 (by kernel_rfl) rfl (by kernel_rfl) (by rfl) rfl ?_
 repeat'(first|refine gO ?_|fail)
 (conv=>whnf)
 refine CB (ι:=Nat) (λi=>[(0,.hold .one (MB zs)),(3,.hold .one [I (nP zs i)]),(4,.hold .one [I ((i:Nat):Int)])]) (λi=>i<=min zs.length 4000) (λi=>min zs.length 4000 - i) (0) ?_ (P0 _) λi u=>?_
 ·repeat'(first|exact trivial|rfl |exact nj a|exact dE _|refine CG ?_ ?_|(exact AQ (by first|omega|(simp only;omega)|(simp;omega))))
 have h:IntKind.i64.wrap (nP zs i*131)=w64 (nP zs i*131):=rfl;have j:IntKind.i64.wrap (w64 (nP zs i*131)+nth zs i)=w64 (w64 (nP zs i*131)+nth zs i):=rfl;have k:IntKind.i64.wrap (w64 (w64 (nP zs i*131)+nth zs i)+7)=w64 (w64 (w64 (nP zs i*131)+nth zs i)+7):=rfl;have l:IntKind.i64.wrap (BitVec.ofInt IntKind.i64.bits (w64 (w64 (w64 (nP zs i*131)+nth zs i)+7)) &&& BitVec.ofInt IntKind.i64.bits 1073741823).toNat=nP zs (i+1):=rfl;by_cases c:i<zs.length/\i<4000
 ·have d:=ah c.1
  have w:=b.2 _ (am c.1);generalize nP zs i=H at *;generalize o:nP zs (i+1)=H2 at *
  repeat'(first|refine gD ?_|(conv=>whnf);first|with_reducible (first|refine C9 (aa d) ?_|refine CH h ?_|refine CH j ?_|refine CH k ?_|refine CH l ?_)|refine CE rfl (aa d) rfl ?_)
  ((conv=>whnf);refine CA (i+1) ω ω ?_)
  rw[o];exact wC
 ·obtain rfl:i=min zs.length 4000:=ω
  have p:sC zs = ⟨0,nP zs (min zs.length 4000)⟩:=rfl;rw[p];generalize nP zs (min zs.length 4000)=H at *
  repeat'(first|refine gD ?_|(conv=>whnf);first|with_reducible refine Bf.D (λq=>?_) (λq=>?_))
  all_goals rfl
theorem tZ(zs:List Int)(a:iL zs):ao Tryz.prog 16 false [.val none (MB zs)] .agg (bD.enc .own (drawn zs)):=by
 have b:=Bi zs a;have c:=vR zs a;refine fP 6 [(61,[2])] [] Tryz.func16 rfl ?_ (.inr (bD.enc_fr _))
 repeat'(first|refine gO ?_|(conv=>whnf);first|refine Cl.g b (.inr rfl) ?_|refine CF (c) (.inl rfl) ?_)
 rfl
set_option maxHeartbeats 2000000
set_option maxHeartbeats 2000000
set_option maxHeartbeats 2000000
set_option maxHeartbeats 2000000
set_option maxHeartbeats 2000000
set_option maxHeartbeats 2000000
theorem Jj(zs:List Int):im (drawn zs).Heap.Kernel.Refuse:=by
 have a:(sC zs).i<=zs.length:=P0 _;have:=DA (v8 a).1 (mf zs (eC zs)).1 (mf zs (eC zs)).1.length;unfold rfs at this;show im (zA _ _ _).1.Heap.Kernel.Refuse;rw[this];exact AX zs _
theorem Gy(zs:List Int):ac.sml (drawn zs).Heap/\ac.wf (drawn zs).Heap:=(AG zs).fit (Jj zs)
theorem Lu(zs:List Int)(a:zs.length<=9223372036854775807):ao Tryz.prog 15 false [.val none (MB zs)] .one [B (decide ((zs.length:Int) > 1048576))]:=by
 refine fO 6 [] Tryz.func15 rfl ?_
 repeat'(first|refine gO ?_|fail)
 rfl
def jJ(sp:List au)(ps:List Int)(b:Int):Nat->Int
 | 0=>b
 | j+1=>if(nth sp j).Page∈ps then bor (jJ sp ps b j) (nth sp j).Bits else jJ sp ps b j
theorem um{sp:List au}(h:∀s∈sp,aX s=true){ps:List Int}{b:Int}(a:0<=b/\b<=65535):∀j,j<=sp.length->0<=jJ sp ps b j/\jJ sp ps b j<=65535
 | 0,_=>a
 | j+1,d=>by
  have c:=um h (ps:=ps) a j ω;simp only[jJ];split
  ·exact Da c (ka h ω)
  ·exact c
theorem KR{a b c:Int}(h:a.toNat &&& c.toNat=c.toNat):(bor a b).toNat &&& c.toNat=c.toNat:=by
 unfold bor;rw[U1,Nat.and_or_distrib_right,h];apply Nat.eq_of_testBit_eq;intro i;simp only[Nat.testBit_or,Nat.testBit_and];cases c.toNat.testBit i<;>simp
theorem xF(sp:List au)(ps:List Int)(b:Int):∀j,(jJ sp ps b j).toNat &&& b.toNat=b.toNat
 | 0=>Nat.and_self _
 | j+1=>by
  have a:=xF sp ps b j;simp only[jJ];split
  ·exact KR a
  ·exact a
theorem wb(h:ac)(i:Nat)(n:dc h.Spans)(c:sI h)(a:∀s∈h.Spans,aX s=true)(t:i<h.Spans.length):ao Tryz.prog 28 false [.val (some 24) (ac.enc .imm h),.val none [I (i:Nat)]] .one [I (jJ h.Spans (aK h (nth h.Spans i).Page) (nth h.Spans i).Bits h.Spans.length)]:=by
 have C:=n.1;have u:=ah t;have d:=ka a t;have w:=aI ((i:Nat):Int) 0 ((h.Spans.length:Int) - 1);rw[N0 (show(0:Int)<=(i:Nat)/\((i:Nat):Int)<=(h.Spans.length:Int) - 1 by omega)]at w;have y:=iM h (nth h.Spans i).Page c;have o:=eS h (nth h.Spans i).Page;have D:dG h<=1048576:=c.1;obtain⟨ps,p⟩ : ∃ps,aK h (nth h.Spans i).Page=ps:=⟨_,rfl⟩
 obtain⟨b,q⟩ : ∃b,(nth h.Spans i).Bits=b:=⟨_,rfl⟩
 rw[p]at y o |-;rw[q]at d |-;have E:jJ h.Spans ps b 0=b:=rfl;refine fO 47 [(4,7,[22,23,24,25,26,27,28])] Tryz.func28 rfl ?_
 repeat'(first|refine gO ?_|(conv=>whnf);first|with_reducible refine C9 (aa u) ?_|refine C5 (w) ?_|refine C5 (y) ?_|refine CE rfl (aa u) rfl ?_)
 (conv=>whnf)
 refine CB (ι:=Nat) (λj=>[(5,.hold .one [I (jJ h.Spans ps b j)]),(6,.hold .one (aF .own ps)),(31,.hold .one (bX .imm h.Spans)),(32,.hold .one [I ((h.Spans.length:Nat))]),(33,.hold .one [I ((j:Nat):Int)])]) (λj=>j<=h.Spans.length) (λj=>h.Spans.length - j) (0) ?_ (P0 _) λj F=>?_
 ·exact wC
 by_cases B:j<h.Spans.length
 ·have k:=ah B
  have r:=um a (ps:=ps) d j F;have l:=vV ps (nth h.Spans j).Page ω;by_cases e:(nth h.Spans j).Page∈ps
  ·have g:jJ h.Spans ps b (j+1)=bor (jJ h.Spans ps b j) (nth h.Spans j).Bits:=C7 e
   rw[N0 e]at l
   repeat'(first|refine gD ?_|(conv=>whnf);first|with_reducible refine C9 (aa k) ?_|refine CE rfl (aa k) rfl ?_|refine CH (or64 r (ka a B)) ?_|refine CD (l) ⟨⟨rfl,dz _⟩,⟨rfl,rfl⟩,trivial⟩ ?_)
   ((conv=>whnf);refine CA (j+1) ω ω ?_;(exact wC))
  ·have g:jJ h.Spans ps b (j+1)=jJ h.Spans ps b j:=C6 e
   rw[O0 e]at l
   repeat'(first|refine gD ?_|(conv=>whnf);first|with_reducible refine C9 (aa k) ?_|refine CE rfl (aa k) rfl ?_|refine CD (l) ⟨⟨rfl,dz _⟩,⟨rfl,rfl⟩,trivial⟩ ?_)
   ((conv=>whnf);refine CA (j+1) ω ω ?_;(exact wC))
 ·obtain rfl:j=h.Spans.length:=ω
  repeat'(first|refine gD ?_|fail)
  rfl
theorem su{h:ac}{p:Int}(b:0<=p/\p<dG h)(c:(ar (tbl h) p).Mode≠0):1<=(aK h p).length:=by
 have e:aK h p=pagesOn (tbl h) (ar (tbl h) p).Frame:=C6 c;rw[e];refine List.length_pos_of_mem (a:=p) ?_;obtain⟨q,rfl⟩:=V1 b.1;refine df.2 ?_;have d:ar (tbl h) (q:Nat)=nth (tbl h).Entries q:=by unfold ar;rw[C7 (by unfold dG at b;exact b)];rfl
 rw[d]at c |-;exact⟨by have:=b.2;unfold dG at this;unfold tbl;omega,c,rfl⟩
theorem NewHeap_law(zs:List Int)(O:zs.length<=9223372036854775807/\∀y∈zs,0<=y/\y<=255):ao Tryz.prog 5 false [.val none (MB zs)] .one [B true]:=by
 have C:=Lu zs O.1;by_cases P:(zs.length:Int) > 1048576
 ·rw[N0 P]at C
  refine fO 101 [(9,7,[28,29,30,31,32,33,34]),(10,32,[36,37,38,39,40,41,42,43,44,45,46,47,48,49,50,51,52,53,54,55,56,57,58,59,60,61,62,63,64,65,66,67]),(15,9,[77,78,79,80,81,82,83,84,85])] Tryz.func5 rfl ?_
  repeat'(first|refine gO ?_|(conv=>whnf);first|refine C5 (C) ?_)
  rfl
 rw[O0 P]at C;have W:iL zs:=⟨ω,O.2⟩
 have cD:=tZ zs W;have a:=(AG zs).inv;obtain⟨D,X⟩:=Gy zs;generalize drawn zs=w at *;have Y:=a.to;have l:sI w.Heap:=D.1.1.2;have b:=a.lens;have E:w.Heap.Spans.length<=1048576:=by have:=b.spans;omega
 have o:w.Heap.Objs.length<=1048576:=by have:=b.objs;omega
 have F:=rK (p:=10) (f:=8) (t:=2) (lim:=100) (rf:=[]) (by decide) (by decide) (by decide) (by decide) ⟨by decide,λx c=>by cases c⟩;have G:=B7 (p:=10) (f:=8) (t:=2) (lim:=100) (by decide) (by decide) (by decide);have Z:=yD 10 8 2 100 (by decide) (by decide) (by decide) (by decide);have Q:=rC (iu 10 8 2 100 []) G;rw[wX,F.to]at Q;have R:=rC w.Heap D;rw[wX,Y]at R;have S:=uH w.Heap (-5) o;have e4:cQ (dU (-5)) w.Heap.Objs = -1:=by
  have H:¬0<=cQ (dU (-5)) w.Heap.Objs:=λh0=>by
   obtain⟨f1,f2,-⟩:=eL (dU (-5)) w.Heap.Objs h0;have hm:=oz a (am f1);have f3:(nth w.Heap.Objs (cQ (dU (-5)) w.Heap.Objs).toNat).Addr = -5:=of_decide_eq_true f2;omega
  rcases jR (dU (-5)) w.Heap.Objs with e|⟨n,-,e,-⟩
  ·exact e
  ·exact absurd (by rw[e];omega) H
 rw[e4]at S;have J:∀i,i<w.Heap.Objs.length->cQ (dU (nth w.Heap.Objs i).Addr) w.Heap.Objs=(i:Nat):=λi r=>by
  obtain⟨h2,h3,h4⟩:=a.objAt (am r);rw[h4,fG (f:=(·.Addr)) (fK a.osr) h2 r (by rw[h3])]
 have K:∀i,i<w.Heap.Spans.length->1<=(aK w.Heap (nth w.Heap.Spans i).Page).length:=λi r=>by
  have hcl:=aE (a.L.sok _ (am r));have d:(nth w.Heap.Spans i).Page∈pgs w.Heap.Spans w.Heap.Larges:=di (am r);have g:=a.pg.bnd _ d;obtain⟨q,hq⟩:=V1 (show 0<=(nth w.Heap.Spans i).Page by omega);rw[hq]at d g |-;refine su ⟨ω,g⟩ ?_;have:=(a.pg.own q ω).2 d;unfold ar;rw[C7 ⟨ω,g⟩];exact this
 refine fO 101 [(9,7,[28,29,30,31,32,33,34]),(10,32,[36,37,38,39,40,41,42,43,44,45,46,47,48,49,50,51,52,53,54,55,56,57,58,59,60,61,62,63,64,65,66,67]),(15,9,[77,78,79,80,81,82,83,84,85])] Tryz.func5 rfl ?_
 repeat'(first|refine gO ?_|(conv=>whnf);first|refine C5 (C) ?_|refine C5 (cD) ?_|refine C5 (Z) ?_)
 (conv=>whnf)
 refine CB (ι:=Nat) (λk=>[(4,.hold .box (ac.enc .own w.Heap)),(5,.hold .box (ac.enc .own (iu 10 8 2 100 []))),(6,.hold .one [B (true)]),(7,.hold .one [I ((k:Nat):Int)])]) (λk=>k<=w.Heap.Spans.length) (λk=>w.Heap.Spans.length - k) (0) ?_ (P0 _) λk hk=>?_
 ·exact wC
 by_cases u:k<w.Heap.Spans.length
 ·have c:=ah u
  have h:=ka a.L.sok u;have M:=um a.L.sok (ps:=aK w.Heap (nth w.Heap.Spans k).Page) h w.Heap.Spans.length (Z1 _);have N:=xF w.Heap.Spans (aK w.Heap (nth w.Heap.Spans k).Page) (nth w.Heap.Spans k).Bits w.Heap.Spans.length;have c5:=iM w.Heap (nth w.Heap.Spans k).Page l;have T:=nl w.Heap (nth w.Heap.Spans k).Page E;rw[nJ a.L u]at T;have c7:=wb w.Heap k D.2.2.1 l a.L.sok u;have w1:=and64 (z1:=jJ w.Heap.Spans (aK w.Heap (nth w.Heap.Spans k).Page) (nth w.Heap.Spans k).Bits w.Heap.Spans.length) (z2:=(nth w.Heap.Spans k).Bits) ⟨M.1,ω⟩ ⟨h.1,ω⟩;rw[N,Int.toNat_of_nonneg h.1]at w1;have hf1:=K k u
  repeat'(first|refine gA ?_|(conv=>whnf);first|with_reducible refine C9 (aa c) ?_|refine CE rfl (aa c) rfl ?_|refine CD (c5) ⟨⟨rfl,ac.enc_fz _⟩,⟨rfl,rfl⟩,trivial⟩ ?_|refine CD (T) ⟨⟨rfl,ac.enc_fz _⟩,⟨rfl,rfl⟩,trivial⟩ ?_|refine CD (c7) ⟨⟨rfl,ac.enc_fz _⟩,⟨rfl,rfl⟩,trivial⟩ ?_|refine CH w1 ?_)
  ((conv=>whnf);refine CA (k+1) ω ω ?_;(exact wC))
 obtain rfl:k=w.Heap.Spans.length:=ω
 repeat'(first|refine gD ?_|fail)
 (conv=>whnf)
 refine CB (ι:=Nat) (λj=>[(4,.hold .box (ac.enc .own w.Heap)),(5,.hold .box (ac.enc .own (iu 10 8 2 100 []))),(6,.hold .one [B (true)]),(9,.hold .one [I ((j:Nat):Int)])]) (λj=>j<=w.Heap.Objs.length) (λj=>w.Heap.Objs.length - j) (0) ?_ (P0 _) λj hj=>?_
 ·exact wC
 by_cases U:j<w.Heap.Objs.length
 ·have c:=ah U
  have V:=uH w.Heap (nth w.Heap.Objs j).Addr o;rw[J j U]at V
  repeat'(first|refine gA ?_|(conv=>whnf);first|with_reducible refine C9 (aa c) ?_|refine CE rfl (aa c) rfl ?_|refine CD (V) ⟨⟨rfl,ac.enc_fz _⟩,⟨rfl,rfl⟩,trivial⟩ ?_)
  ((conv=>whnf);refine CA (j+1) ω ω ?_;(exact wC))
 obtain rfl:j=w.Heap.Objs.length:=ω
 repeat'(first|refine gD ?_|(conv=>whnf);first|refine CD (Q) ⟨⟨rfl,ac.enc_fz _⟩,trivial⟩ ?_|refine CD (R) ⟨⟨rfl,ac.enc_fz _⟩,trivial⟩ ?_|refine CD (S) ⟨⟨rfl,ac.enc_fz _⟩,⟨rfl,rfl⟩,trivial⟩ ?_)
 rfl
open Go.RowKit Go.ChangeShapes Go.WideShapes Go.Deep
def ALL(w:World):ab:=λb _=>b<w.heap.size
def ME{H:Type}(e:TypeId × Value->H)(P:Program)(w:World)(t n:Nat){α:Type}(enc:α->List C)(c:α->Prop):Prop:=
 ∀(fuel:Nat)(b:List Value)(x:DataW H × List MemPlace),DataW.trod e P w 0 (λ_=>true) true fuel t b=some x->b.length=n/\∃a,c a/\(enc a).length=n/\cG w (ALL w) NO (enc a) (λj=>b.getD j undef)
section
variable{H:Type}{e:TypeId × Value->H}{P:Program}{w:World}
theorem zp{S F:ab}{c:C}{u:Nat->Value}(h:dL w S F c (u 0)):cG w S F [c] u:=
 ⟨λ_=>F,λj e a=>by cases j with
   | zero=>simp at a;subst a;exact h
   | succ j=>simp at a,λ_ _ _ _ h=>h,λj f a b d=>by simp at a b;omega⟩
theorem pick{α β:Type}(n:Nat){Q:Nat->β->Prop}(h:∀i,i<n->∃b,Q i b):∃l:List β,l.length=n/\∀i b,l[i]? = some b->Q i b:=by
 induction n with
 | zero=>exact⟨[],rfl,λi b h=>by simp at h⟩
 | succ n c=>
  obtain⟨l,d,e⟩:=c λi a=>h i ω
  obtain⟨b,f⟩:=h n ω;refine⟨l++[b],by simp[d],λi g a=>?_⟩;by_cases j:i<n
  ·rw[N3 ω]at a;exact e i g a
  ·rw[O3 ω]at a
   have:i - l.length=0:=by
    have:=(P1.1 a).1;simp at this;omega
   rw[this]at a;simp at a;subst a;rw[show i=n by omega];exact f
theorem J7{t T n:Nat}{α:Type}{enc:α->List C}{U:α->Prop}(V:ME e P w T n enc U)(ht:P.underlying t=some (.slice T))(hn:P.cellsOf T=n)(p:0<n) :
  ME e P w t 1 (λxs:List α=>[.s .imm (xs.map enc)]) (λxs=>xs.length<=9223372036854775807/\∀y∈xs,U y):=by
 intro fuel cs x h;rcases open_slice ht h with⟨rfl,-⟩|⟨k,len,cap,m,n',D,Pl,rfl,-,hl,hm,K,-,u⟩
 ·exact⟨rfl,[],⟨by simp,by simp⟩,rfl,zp (.nil _ _ _ trivial)⟩
 ·simp only[if_true]at K
  subst K;have L:0<m->k.spot=none:=λW=>by
   obtain⟨E,M,N⟩:=u 0 W;rw[hn]at M;obtain⟨_,X,F⟩:=World.cells?_some M;have:=F 0 p;rw[O1 ω]at this;have:=World.cell?_spot this;simpa[Addr.add] using this
  have key:∀i,i<len->∃a,U a/\(enc a).length=n/\(∀d,d<n->∃z,cel w k.block (k.off+(i*n+d))=some z)/\k.spot=none/\cG w (ALL w) NO (enc a) (λd=>(cel w k.block (k.off+(i*n+d))).getD undef):=λi hil=>by
   have g:=L ω;obtain⟨E,M,N⟩:=u i ω;rw[hn]at M;obtain⟨h1,a,h3,h4,h5⟩:=V _ _ _ N;obtain⟨_,X,F⟩:=World.cells?_some M;have O:∀d,k.add d = ⟨k.block,k.off+d,none⟩:=λd=>by
    obtain⟨b,o,sp⟩:=k;simp only at g;subst g;unfold Addr.add;split<;>simp_all
   have A:∀d,d<n->cel w k.block (k.off+(i*n+d))=E[d]?:=λd J=>by
    have:=F d J;rw[Go.Deep.add_add,O]at this;exact this
   refine⟨a,h3,h4,λd J=>⟨_,by rw[A d J,O1 ω]⟩,g,h5.congr λd J=>?_⟩;show(cel w k.block (k.off+(i*n+d))).getD undef=E.getD d undef;rw[A d ω,List.getD]
  obtain⟨l,Q,B⟩:=pick (α:=α) len key;refine⟨rfl,l,⟨by simp only[maxLen]at hm;omega,λy R=>?_⟩,rfl,zp ?_⟩
  ·obtain⟨i,G⟩:=List.mem_iff_getElem?.1 R
   exact(B i y G).1
  ·show dL w (ALL w) NO (.s .imm (l.map enc)) (.slice (some k) len m)
   by_cases h0:len=0
   ·subst h0
    have:l=[]:=Y4 Q;subst this;by_cases Y:m=0
    ·subst Y;exact .nil _ _ _ trivial
    ·have g:=L ω
     obtain⟨b,o,sp⟩:=k;simp only at g;subst g;exact .imm _ b o n 0 m [] (λ_=>undef) rfl (λr Z=>by simp at Z) hl (λq hq=>by simp at hq) (λi j r c u=>by simp at u)
   ·obtain⟨y0,hy0⟩ : ∃y,l[0]? = some y:=⟨_,O1 ω⟩
    have g:=(B 0 y0 hy0).2.2.2.1;obtain⟨b,o,sp⟩:=k;simp only at g;subst g;refine .imm _ b o n len m (l.map enc) (λq=>(cel w b (o+q)).getD undef) (by simpa using Q) (λr Z=>?_) hl (λq hq=>?_) (λi j r c u hj=>?_)
    ·obtain⟨y,R,rfl⟩:=C3.1 Z
     obtain⟨i,G⟩:=List.mem_iff_getElem?.1 R;exact(B i y G).2.1
    ·have hqd:q / n<len:=(Nat.div_lt_iff_lt_mul p).2 hq
     obtain⟨y,R⟩ : ∃y,l[q / n]? = some y:=⟨_,O1 ω⟩
     obtain⟨z,S⟩:=(B _ y R).2.2.1 (q % n) (Nat.mod_lt _ p);have J:q / n*n+q % n=q:=by rw[Nat.mul_comm];exact Nat.div_add_mod q n
     rw[J]at S;exact⟨LP S,by simp only at S |-;rw[S];rfl⟩
    ·rw[C2]at u
     cases H:l[i]? with
     | none=>rw[H]at u;cases u
     | some y=>
      rw[H]at u;simp only[V3,R0]at u;subst u;obtain⟨f,h1,h2,-⟩:=(B i y H).2.2.2.2;have hjl:=(P1.1 hj).1;exact(h1 j c hj).mono (λ_ _ h=>h) (h2 j hjl)
theorem row_val{S F:ab}{x:Value}{u:Nat->Value}(h:cG w S F [.v x] u):u 0=x:=by
 obtain⟨f,a,-⟩:=h;have:=a 0 _ rfl;cases this
 rfl
end
open Go.RowKit Go.ChangeShapes Go.WideShapes
section
variable{H:Type}{e:TypeId × Value->H}{P:Program}{w:World}
theorem K7{t:Nat}(b:P.underlying t=some (.int .u8)):ME e P w t 1 rU (λz=>0<=z/\z<=255):=by
 intro fuel c x h;obtain⟨n,rfl,-,a⟩:=DataW.trod_int b h;refine⟨rfl,n,?_,rfl,zp (.v _ _ rfl)⟩;simp only[Lit.wf,I0,C0]at a;exact a
theorem op_ByteS:ME e Tryz.prog w 22 1 (λzs:List Int=>[.s .imm (zs.map rU)]) (λzs=>zs.length<=9223372036854775807/\∀y∈zs,0<=y/\y<=255):=J7 (K7 Tryz.underlying5) Tryz.underlying22 (by kernel_rfl) (by decide)
end
end Go.Proofs.YtembpgjjnioagaaGreat.Ab
