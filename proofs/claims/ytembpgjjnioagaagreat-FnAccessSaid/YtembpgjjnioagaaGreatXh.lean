/- A small object's slot: the reference's. No condition. -/
import Derived.Test.YtembpgjjnioagaaGreatXd
import Derived.Test.YtembpgjjnioagaaGreatXg
import Derived.Test.YtembpgjjnioagaaGreatXf
import Derived.Test.YtembpgjjnioagaaGreatXe
import Derived.Laws.StructEq
import Derived.ProofKit
import Derived.OpenShut
import Derived.Deep.Slices
import Derived.Deep.Fields
import Derived.ChangeSame
import Derived.WideShapes
set_option linter.unusedVariables false
set_option linter.unusedSimpArgs false
set_option linter.constructorNameAsVariable false
namespace Go.Proofs.YtembpgjjnioagaaGreat.Ab
open Go.RowKit
set_option maxRecDepth 20000
set_option maxHeartbeats 4000000
theorem B3{h:ab}{c:Int}{i:Nat}(a:i<h.Spans.length)(b:rn h c i=true)(d:∀j,j<i->rn h c j=false):qY h c=some i:=
 List.find?_range_eq_some.2 ⟨b,List.mem_range.2 a,λj e=>by rw[d j e];rfl⟩
theorem Br{h:ab}{c:Int}(a:∀j,j<h.Spans.length->rn h c j=false):qY h c=none:=
 List.find?_range_eq_none.2 λj b=>by rw[a j b];rfl
theorem rR{h:ab}{c:Int}{i:Nat}(a:rn h c i=false)(b:∀j,j<i->rn h c j=false):∀j,j<i+1->rn h c j=false:=λj d=>by
 by_cases e:j=i
 ·rw[e];exact a
 ·exact b j ω
theorem Hr(h:ab)(t:Nat)(c:aC):bu {h with Caches:=h.Caches.set t c} = (bu h).set 9 (.s .own ((h.Caches.map (aC.enc .own)).set t (aC.enc .own c))):=by
 simp[bu,X4]
theorem HO{h:ab}{c:Nat}(b:bk h [])(l:c<=3)(e:h.Kernel.Calls<=90000)(h1:¬(ay h.Free 1).2.2=false)(f:¬(fB h.Kernel (ay h.Free 1).2.1).2=false):bk (tc h c) []/\tf h<(tc h c).Spans.length:=by
 have a:(ay h.Free 1).2.2=true:=by simpa using h1
 obtain⟨g,i,j,n⟩:=kj b (v4 1) a;have s:=zY.of (p:=(ay h.Free 1).2.1) b.ker ω ⟨g,by have:(ay h.Free 1).2.1+1<=(h.Kernel.Machine.Table.Entries.length:Nat):=i;omega⟩ (j _ ω ω);have d:(fB h.Kernel (ay h.Free 1).2.1).2=true:=by simpa using f
 have k:zY h.Kernel (ay h.Free 1).2.1 ((fB h.Kernel (ay h.Free 1).2.1).1,true):=by rw[<-d];exact s
 exact⟨b.addS (c:=c) ⟨ω,ω⟩ a k,(FT (Gq (ay h.Free 1).2.1) h.Spans ⟨(ay h.Free 1).2.1,c,0⟩).1⟩
theorem xc(h:ab)(t c:Nat)(o:bk h [])(M:t<h.Caches.length)(N:c<=3)(p:h.Kernel.Calls<=90000):aS Tryz.prog 234 false [.ptr (bu h),.val none [I (t:Nat)],.val none [I (c:Nat)]] [.ptr (bu (fk h t c).1),.val none [I (t:Nat)],.val none [I (c:Nat)]] .one [I (fk h t c).2]:=by
 have E:=o.cach _ (am M);have e:=ah M;have r:=uG (nth h.Caches t) c E N;have Q:=o.lens.spans;have B:=o;unfold NZ at r;by_cases F:0<(nth (nth h.Caches t).Lists c).length
 ·unfold fk
  rw[C8 F]at r |-;simp only;rw[Hr];refine fM 80 [(291,[2,0]),(292,[2,0])] [(3,6,[27,28,29,30,31,32])] [(0,0),(0,0),(0,0)] Tryz.func234 rfl (λu q=>?_)
  repeat'(first|refine gO ?_|(conv=>whnf);first|with_reducible refine CA (aa e) ?_|refine CF rfl (aa e) rfl ?_|refine CE (r) ⟨⟨rfl,aC.enc_fz _⟩,⟨rfl,rfl⟩,trivial⟩ ?_|refine C9 ?_|refine CN rfl rfl (aa e) rfl (X0 rfl) rfl ?_)
  refine CD rfl rfl ?_;exact wC
 ·rw[C7 F]at r
  have d:fk h t c=match qY h c with
   | some i=>(slotT h i,si h i)
   | none=>if(ay h.Free 1).2.2=false then(h,-1)
    else if(fB h.Kernel (ay h.Free 1).2.1).2=false then({h with Kernel:=(fB h.Kernel (ay h.Free 1).2.1).1},-1)
    else nA (tc h c) (tf h):=by unfold fk;exact C7 F
  refine fM 80 [(291,[2,0]),(292,[2,0])] [(3,6,[27,28,29,30,31,32])] [(0,0),(0,0),(0,0)] Tryz.func234 rfl (λu q=>?_)
  repeat'(first|refine gO ?_|(conv=>whnf);first|with_reducible refine CA (aa e) ?_|refine CF rfl (aa e) rfl ?_|refine CE (r) ⟨⟨rfl,aC.enc_fz _⟩,⟨rfl,rfl⟩,trivial⟩ ?_|refine C9 ?_)
  (conv=>whnf)
  refine CC (ι:=Nat) (λi=>[(0,.hold .box (bu h)),(1,.hold .one [I ((t:Nat):Int)]),(2,.hold .one [I ((c:Nat):Int)]),(10,.hold .one [I ((i:Nat):Int)])]) (λi=>i<=h.Spans.length/\∀j,j<i->rn h c j=false) (λi=>h.Spans.length - i) (0) ?_ (⟨R0 _,λj W=>ω⟩) λi o=>?_
  ·exact wC
  obtain⟨R,w⟩:=o;by_cases C:i<h.Spans.length
  ·have l:=ah C
   by_cases O:(nth h.Spans i).Class=c
   ·have y:=sG h (nth h.Spans i).Page
    cases D:gk h (nth h.Spans i).Page with
    | true=>
     rw[D]at y
     repeat'(first|refine gA ?_|(conv=>whnf);first|with_reducible refine CA (aa l) ?_|refine CF rfl (aa l) rfl ?_|refine CE (y) ⟨bz h,⟨rfl,rfl⟩,trivial⟩ ?_)
     ((conv=>whnf);refine CB (i+1) ⟨ω,rR (by unfold rn;rw[D];simp) w⟩ ω ?_;(exact wC))
    | false=>
     rw[D]at y;have n:=pW h [] i B C;unfold nA at n;by_cases P:(lJ h i).length=0
     ·rw[C8 P]at n
      repeat'(first|refine gA ?_|(conv=>whnf);first|with_reducible refine CA (aa l) ?_|refine CF rfl (aa l) rfl ?_|refine CE (y) ⟨bz h,⟨rfl,rfl⟩,trivial⟩ ?_|refine CG (n) (.inl rfl) ?_)
      ((conv=>whnf);refine CB (i+1) ⟨ω,rR (by unfold rn;rw[Q0 (by omega:¬0<(lJ h i).length)];simp) w⟩ ω ?_;(exact wC))
     ·rw[C7 P]at n
      have G:qY h c=some i:=B3 C (by unfold rn;rw[O0 O,D,O0 ω];rfl) w;rw[G]at d;simp only at d;obtain⟨S,T⟩:=B.slotT C (by omega:0<(lJ h i).length);have H:=iV.nn S T;rw[d];generalize slotT h i=g at n |-;generalize si h i=a at n H |-
      repeat'(first|refine gA ?_|(conv=>whnf);first|with_reducible refine CA (aa l) ?_|refine CF rfl (aa l) rfl ?_|refine CE (y) ⟨bz h,⟨rfl,rfl⟩,trivial⟩ ?_|refine CG (n) (.inl rfl) ?_)
      refine CD rfl rfl ?_;exact wC
   ·repeat'(first|refine gA ?_|(conv=>whnf);first|with_reducible refine CA (aa l) ?_|refine CF rfl (aa l) rfl ?_)
    ((conv=>whnf);refine CB (i+1) ⟨ω,rR (by unfold rn;rw[Q0 O];rfl) w⟩ ω ?_;(exact wC))
  ·obtain rfl:i=h.Spans.length:=ω
   have G:qY h c=none:=Br w;rw[G]at d;simp only at d;have k:=Ac h [] c B p;rw[d];unfold Fy at k;by_cases J:(ay h.Free 1).2.2=false
   ·rw[C8 J]at k |-
    repeat'(first|refine gD ?_|(conv=>whnf);first|refine CG (k) (.inl rfl) ?_)
    refine CD rfl rfl ?_;exact wC
   ·rw[C7 J]at k |-
    by_cases K:(fB h.Kernel (ay h.Free 1).2.1).2=false
    ·rw[C8 K]at k |-
     repeat'(first|refine gD ?_|(conv=>whnf);first|refine CG (k) (.inl rfl) ?_)
     refine CD rfl rfl ?_;exact wC
    ·rw[C7 K]at k |-
     obtain⟨U,V⟩:=HO B N p J K;have L:=pW (tc h c) [] (tf h) U V;generalize tc h c=g at k L |-;generalize tf h=b at k L |-
     repeat'(first|refine gD ?_|(conv=>whnf);first|refine CG (k) (.inl rfl) ?_|refine CG (L) (.inl rfl) ?_)
     refine CD rfl rfl ?_;exact wC
def GZ(h:ab)(size:Int):ab × Int:=
 if(ay h.Free (kW size:Nat)).2.2=false then(h,-1)
 else if(iu h size).2=kW size then({h with Kernel:=(iu h size).1,Free:=(ay h.Free (kW size:Nat)).1,Larges:=iF (MH (ay h.Free (kW size:Nat)).2.1) h.Larges ⟨(ay h.Free (kW size:Nat)).2.1,(kW size:Nat),size⟩},16*(ay h.Free (kW size:Nat)).2.1)
 else({h with Kernel:=dC (iu h size).1 (ay h.Free (kW size:Nat)).2.1 (iu h size).2},-1)
theorem vS(k:af)(p:Int)(i:Nat):cx k p (i+1)=if(cx k p i).2=i then((fB (cx k p i).1 (p+(i:Nat))).1,if(fB (cx k p i).1 (p+(i:Nat))).2=true then i+1 else i) else cx k p i:=rfl
theorem AL(k:af)(p:Int):∀i,(cx k p i).2<=i
 | 0=>Q2 _
 | i+1=>by
  have b:=AL k p i;rw[vS];by_cases e:(cx k p i).2=i
  ·rw[C8 e]
   show(if _ then i+1 else i)<=i+1;by_cases a:(fB (cx k p i).1 (p+(i:Nat))).2=true
   ·rw[C8 a];exact Q2 _
   ·rw[C7 a];exact Nat.le_succ _
  ·rw[C7 e];omega
theorem me{k:af}{p:Int}{i:Nat}(h:(cx k p i).2≠i):∀j,cx k p (i+j)=cx k p i/\(cx k p (i+j)).2<i+j
 | 0=>⟨rfl,by show(cx k p i).2<i;have:=AL k p i;omega⟩
 | j+1=>by
  have a:=me h j;have e:cx k p (i+(j+1))=cx k p (i+j):=by
   show cx k p (i+j+1)=_;rw[vS,C7 ω]
  exact⟨e.trans a.1,by rw[e];omega⟩
theorem xB(h:ab)(size:Int)(l:bk h [])(C:9<=size/\size<=1000)(V:h.Kernel.Calls<=90000):aS Tryz.prog 235 false [.ptr (bu h),.val none [I size]] [.ptr (bu (GZ h size).1),.val none [I size]] .one [I (GZ h size).2]:=by
 have E:=l.lens;have W:=E.larges;have Q:=l;have F:dQ h<=32:=E.ents;have G:eD size=((kW size:Nat):Int):=by unfold eD kW;split<;>omega
 have hN:1<=kW size/\kW size<=63:=by unfold kW;omega
 have H:=kF size;rw[G]at H;have R:=gl h;have t:=mM (dQ h:Nat) h.Free (kW size:Nat) ⟨ω,ω⟩ l.rng ⟨ω,ω⟩ (by have:=E.free;omega);unfold Pb at t;have b:=kj l (show(1:Int)<=(kW size:Nat) by omega);unfold GZ iu;generalize kW size=N at *;generalize ay h.Free (N:Nat)=r at t b |-;obtain⟨J,p,ok⟩:=r;simp only at t b |-;refine fM 105 [(296,[2,0]),(297,[2,0]),(2000018,[0,7])] [(2,268,[16,17,18,19,20,21,22,23,15,24,25,26,0,1,2,3,4,5,6,7,8,9,10,11,12,1010,1011,13,1011,14])] [(0,0),(0,0)] Tryz.func235 rfl (λu q=>?_);cases ok with
 | false=>
  rw[C8 rfl]
  repeat'(first|refine gO ?_|(conv=>whnf);first|refine C9 ?_|refine C6 (H) ?_|refine CE (R) ⟨bz h,trivial⟩ ?_|refine CE (t) ⟨⟨rfl,rfl⟩,⟨rfl,dA h.Free⟩,⟨rfl,rfl⟩,trivial⟩ ?_|refine C9 ?_)
  refine CD rfl rfl ?_;exact wC
 | true=>
  rw[C7 (by simp)];obtain⟨S,K,B,u4⟩:=b rfl;change p+(N:Nat)<=(h.Kernel.Machine.Table.Entries.length:Nat) at K;change ∀q:Nat,p<=q->(q:Int)<p+(N:Nat)->(nth h.Kernel.Machine.Table.Entries q).Mode=0 at B
  have X:h.Kernel.Machine.Table.Entries.length<=32:=F
  repeat'(first|refine gO ?_|(conv=>whnf);first|refine C9 ?_|refine C6 (H) ?_|refine CE (R) ⟨bz h,trivial⟩ ?_|refine CE (t) ⟨⟨rfl,rfl⟩,⟨rfl,dA h.Free⟩,⟨rfl,rfl⟩,trivial⟩ ?_|refine C9 ?_)
  (conv=>whnf)
  refine CC (ι:=Nat) (λi=>[(0,.hold .box (bu {h with Kernel:=(cx h.Kernel p i).1})),(1,.hold .one [I (size)]),(5,.hold .one [I ((N:Nat):Int)]),(6,.hold .one (bw .own J)),(7,.hold .one [I (p)]),(9,.hold .one [I ((i:Nat):Int)])]) (λi=>i<=N/\(cx h.Kernel p i).2=i) (λi=>N - i) (0) ?_ (⟨R0 _,rfl⟩) λi l=>?_
  ·exact wC
  obtain⟨L,M⟩:=l;have s:=mL.of (p:=p) (n:=N) Q.ker ω ⟨S,K⟩ B i L;have Y:=s.calls;have Z:=s.len;by_cases li:i<N
  ·have O:(nth (cx h.Kernel p i).1.Machine.Table.Entries (p+(i:Nat)).toNat).Mode=0:=by
    rw[s.out _ (by rw[M];omega)];exact B _ ω ω
   have c:=BB {h with Kernel:=(cx h.Kernel p i).1} (p+(i:Nat)) s.ker (by show(cx h.Kernel p i).1.Calls≠100000;omega) ⟨ω,by show p+(i:Nat)<((cx h.Kernel p i).1.Machine.Table.Entries.length:Nat);omega⟩ O;have a:cx h.Kernel p (i+1)=((fB (cx h.Kernel p i).1 (p+(i:Nat))).1,if(fB (cx h.Kernel p i).1 (p+(i:Nat))).2=true then i+1 else i):=by
    show(if(cx h.Kernel p i).2=i then _ else _)=_;rw[C8 M]
   simp only at c;cases e:(fB (cx h.Kernel p i).1 (p+(i:Nat))).2 with
   | true=>
    rw[e]at c a;rw[C8 rfl]at a;have P:(fB (cx h.Kernel p i).1 (p+(i:Nat))).1=(cx h.Kernel p (i+1)).1:=by rw[a]
    rw[P]at c
    repeat'(first|refine gD ?_|(conv=>whnf);first|refine C9 ?_|refine CG (c) (.inl rfl) ?_)
    ((conv=>whnf);refine CB (i+1) ⟨ω,by rw[a]⟩ ω ?_;(exact wC))
   | false=>
    rw[e]at c a;rw[C7 (by simp)]at a;have d:=me (k:=h.Kernel) (p:=p) (i:=i+1) (by rw[a];simp only;omega) (N - (i+1));rw[show i+1+(N - (i+1))=N by omega]at d;rw[d.1]at d;have T:=mL.of (p:=p) (n:=N) Q.ker ω ⟨S,K⟩ B (i+1) ω;rw[C7 (by have:=me (k:=h.Kernel) (p:=p) (i:=i+1) (by rw[a];simp only;omega) (N - (i+1));rw[show i+1+(N - (i+1))=N by omega]at this;omega)];rw[show cx h.Kernel p N=cx h.Kernel p (i+1) by have:=me (k:=h.Kernel) (p:=p) (i:=i+1) (by rw[a];simp only;omega) (N - (i+1));rw[show i+1+(N - (i+1))=N by omega]at this;exact this.1];rw[a]at T |-;have g:=T.ker;simp only at g |-;generalize (fB (cx h.Kernel p i).1 (p+(i:Nat))).1=k at c g |-
    repeat'(first|refine gD ?_|(conv=>whnf);first|refine C9 ?_|refine CG (c) (.inl rfl) ?_)
    (conv=>whnf)
    refine CC (ι:=Nat) (λj=>[(0,.hold .box (bu {h with Kernel:=dC k p j})),(1,.hold .one [I (size)]),(5,.hold .one [I ((N:Nat):Int)]),(7,.hold .one [I (p)]),(9,.hold .one [I ((i:Nat):Int)]),(10,.hold .one [I ((j:Nat):Int)])]) (λj=>j<=i) (λj=>i - j) (0) ?_ (R0 _) λj hj=>?_
    ·exact wC
    have c4:=lN {h with Kernel:=dC k p j} (p+(j:Nat)) (kb g p j);by_cases lj:j<i
    ·repeat'(first|refine gD ?_|(conv=>whnf);first|refine C9 ?_|refine CG (c4) (.inl rfl) ?_)
     ((conv=>whnf);refine CB (j+1) ω ω ?_;(exact wC))
    ·obtain rfl:j=i:=ω
     repeat'(first|refine gD ?_|(conv=>whnf);first|refine C9 ?_)
     refine CD rfl rfl ?_;exact wC
  ·obtain rfl:i=N:=ω
   rw[C8 M];generalize (cx h.Kernel p i).1=k
   repeat'(first|refine gD ?_|(conv=>whnf);first|refine C9 ?_)
   (conv=>whnf)
   refine CC (ι:=Nat) (λm=>[(0,.hold .box (bu {h with Kernel:=k,Free:=J})),(1,.hold .one [I (size)]),(5,.hold .one [I ((i:Nat):Int)]),(7,.hold .one [I (p)]),(11,.hold .one [I ((m:Nat):Int)])]) (λm=>m<=h.Larges.length/\∀(j:Nat)(z:a8),j<m->h.Larges[j]? = some z->MH p z=false) (λm=>h.Larges.length - m) (0) ?_ (⟨R0 _,λj z hj=>ω⟩) λm hm=>?_
   ·exact wC
   obtain⟨hm',U⟩:=hm;have hl2:({h with Kernel:=k,Free:=J} : ab).Larges.length=h.Larges.length:=rfl;by_cases go:m<h.Larges.length/\(nth h.Larges m).Page<p
   ·have o:=ah go.1
    repeat'(first|refine gD ?_|(conv=>whnf);first|with_reducible refine CA (aa o) ?_|refine C9 ?_|refine CF rfl (aa o) rfl ?_)
    ((conv=>whnf);refine CB (m+1) ⟨ω,cY o (Q0 ω) U⟩ ω ?_;(exact wC))
   ·have w:jo (MH p) h.Larges=m:=tC ω U λz C=>by
     have hlt:=(V1.1 C).1;have:z=nth h.Larges m:=(br C).symm;subst this;exact O0 ω
    have o:m<h.Larges.length->h.Larges[m]? = some (nth h.Larges m):=λhh=>ah hh
    rw[tI w]
    repeat'(first|refine gD ?_|(conv=>whnf);first|with_reducible (first|refine CA (aa (o ω)) ?_|refine Bf.D (λhq=>?_) (λhq=>?_))|refine C9 ?_|refine CF rfl (aa (o ω)) rfl ?_|refine DE.mk rfl (rE h.Larges) rfl ?_|refine CS m rfl (by rw[W0];omega) (aO λ_=>rfl) R3 ?_|refine Sl.suf m rfl (by rw[W0];omega) (aO λ_=>rfl) T3 ?_|refine CL (λ_=>rfl) (λ_=>rfl) (by rw[I1];omega) (by decide) ?_|refine Ap.sn (aO λ_=>rfl) rfl (by rw[W0,I1];omega) (by decide) rfl ?_|refine Ap.ins (e:=a8.enc .imm) (y:=⟨p,(i:Nat),size⟩) rfl (λ_=>rfl) (λ_=>rfl) ω (by decide) ?_)
    all_goals
     refine CD rfl ?_ ?_
     ·exact T0 (λz=>[I z]) ω
     ·exact wC
theorem Du{k:af}(h:aA k=true)(b:ix k.Refuse):af.wf k:=by
 obtain⟨p,f,g,q,t⟩:=aB.1 h;obtain⟨u,w,y,A⟩:=aT.1 f;obtain⟨i,B,C⟩:=bn.1 g;refine⟨⟨⟨⟨ω,λr b=>?_⟩,⟨ω,λ_ _=>trivial⟩⟩,⟨ω,λe l=>?_⟩⟩,⟨ω,ω⟩,b⟩
 ·obtain⟨j,c,rfl⟩:=bf b
  obtain⟨D,n⟩:=Ae h c;exact⟨ω,λv o=>by have:=n v o;exact⟨ω,ω⟩⟩
 ·obtain⟨j,c,rfl⟩:=bf l
  have a:=i j c;unfold je at a;rw[C0]at a;by_cases d:(nth k.Machine.Table.Entries j).Mode=0
  ·have:=a.2.2.1 d;exact⟨⟨ω,ω⟩,⟨ω,ω⟩⟩
  ·have:=a.2.2.2 d;exact⟨⟨ω,ω⟩,⟨ω,ω⟩⟩
theorem Fe{p:cg}(h:ec p=true):cg.wf p:=by
 have a:=λi b=>kJ h (i:=i) b
 have e:p.Cells.length<=16:=kI h;unfold ec at h;simp only[I0,C0]at h;exact⟨⟨ω,ω⟩,⟨ω,ω⟩,⟨ω,λv c=>by
   obtain⟨j,d,rfl⟩:=bf c;have:=a j d;exact⟨ω,ω⟩⟩⟩
theorem bk.jobWf{h:ab}{E:List Int}(a:bk h E):bW.wf h.Job/\bW.sml h.Job:=by
 cases b:h.Meshing with
 | true=>
  obtain⟨c,f,g,i,j⟩:=dP.1 (a.job b).1;have k:=kI c;exact⟨⟨Fe c,⟨ω,ω⟩,⟨ω,ω⟩⟩,by show h.Job.Plan.Cells.length<=1048576;omega⟩
 | false=>
  have:=a.noj b;unfold qa at this;rw[C0]at this;obtain⟨l,n,e,o,p⟩:=this;refine⟨⟨⟨⟨ω,ω⟩,⟨ω,ω⟩,⟨ω,λv d=>?_⟩⟩,⟨ω,ω⟩,⟨ω,ω⟩⟩,by show h.Job.Plan.Cells.length<=1048576;omega⟩;rw[T5 e]at d;cases d
theorem vu{n:Int}(h:0<=aN n):1<=n/\n<=8:=by
 unfold aN at h
 repeat' split at h
 all_goals omega
theorem iV.wf{h:ab}{E:List Int}(b:bk h E){a c:Int}(d:iV h.Spans a c):lr a:=by
 have:=d.bd b;exact⟨ω,ω⟩
theorem bk.wf{h:ab}{E:List Int}(d:bk h E)(M:ix h.Kernel.Refuse):ab.wf h:=by
 have q:=d.lens;have r:=d.L;have D:=d.nums;unfold cj at D;rw[C0]at D;obtain⟨X,N,Y⟩:=eK.1 d.rng;obtain⟨O,-,-,Z,q5,-⟩:=iU.1 d.quar;have w:=d.mail;have k:=d.hfl;unfold aK at k;rw[C8 w]at k;unfold bD at w;simp only[I0,C0,cr,fW,O3,lX,Mo]at w;obtain⟨⟨⟨m1,m2,m3⟩,P⟩,m5⟩:=w;have A:=q.free;have Q:=q.spans;have h3:=q.larges;have h4:=q.objs;have h5:=q.caches;have h6:=q.quar;have t:∀n:Nat,bp h.Mail n<=bp h.Mail (n+1):=λn=>by simp only[bp];omega
 have g:∀a b:Nat,a<=b->bp h.Mail a<=bp h.Mail b:=λa b u=>by
  induction u with
  | refl=>exact v4 _
  | step _ R=>exact Int.le_trans R (t _)
 have B:∀n:Nat,0<=bp h.Mail n:=λn=>g 0 n (R0 _)
 have o:∀i,i<h.Mail.Buffers.length->(nth h.Mail.Buffers i).length<=30/\(nth h.Mail.Inbox i).length<=30:=λi f=>by
  have F:=g (i+1) h.Mail.Buffers.length ω;have S:=B i;simp only[bp]at F;omega
 refine⟨Du d.ker M,⟨ω,λx e=>?_⟩,⟨ω,λx e=>?_⟩,⟨ω,λx e=>?_⟩,⟨ω,λx e=>?_⟩,⟨ω,λx e=>?_⟩,⟨⟨ω,λl c=>?_⟩,⟨ω,λl c=>?_⟩⟩,⟨⟨ω,ω⟩,⟨ω,λx e=>?_⟩⟩,⟨ω,ω⟩,⟨ω,ω⟩,⟨ω,ω⟩,⟨ω,ω⟩,trivial,d.jobWf.1⟩
 ·have:=N x e;exact⟨⟨ω,ω⟩,⟨ω,ω⟩⟩
 ·have y:=r.sok x e
  have G:=ed y;have T:=aF y;exact⟨⟨ω,ω⟩,⟨ω,ω⟩,⟨ω,ω⟩⟩
 ·have H:=aU (r.lok x e)
  have J:=cu (r.lok x e);exact⟨⟨ω,ω⟩,⟨ω,ω⟩,⟨ω,ω⟩⟩
 ·obtain⟨o1,o2,o3,o4⟩:=d.onu x e
  have u:0<=x.Addr/\x.Addr<512/\-1000<=x.Size/\x.Size<=1000:=by
   rcases d.oow x e with⟨s,y,A,Q⟩|⟨l,c,F,S⟩
   ·have T:=aF (r.sok s y)
    have:=vu (n:=x.Size) ω;exact⟨by have:=A.1;omega,by have:=A.2.1;omega,ω,ω⟩
   ·have H:=aU (r.lok l c)
    have J:=cu (r.lok l c);omega
  exact⟨⟨ω,ω⟩,⟨ω,ω⟩,⟨ω,ω⟩,⟨ω,ω⟩⟩
 ·obtain⟨c1,U⟩:=q.lists x e
  refine⟨ω,λl c=>⟨by have:=U l c;omega,λa C=>?_⟩⟩;obtain⟨j,V,rfl⟩:=bf c;exact iV.wf d (d.hca x e j V a C)
 ·obtain⟨i,f,rfl⟩:=bf c
  have G:=o i f;refine⟨ω,λp K=>?_⟩;have W:=(P i f).1 p K;exact⟨⟨ω,ω⟩,iV.wf d (k p.Addr (O2.2 (.inl (List.mem_flatMap.2 ⟨_,am f,U3.2 ⟨p,K,rfl⟩⟩))))⟩
 ·obtain⟨i,f,rfl⟩:=bf c
  have G:=o i ω;exact⟨ω,λa C=>iV.wf d (k a (O2.2 (.inr (List.mem_flatten.2 ⟨_,am f,C⟩))))⟩
 ·have H:=O x e
  have J:=d.snc x e;exact⟨iV.wf d (d.hqu x e),⟨ω,ω⟩,⟨ω,ω⟩⟩
structure PG(h:ab):Prop where
 ker:aA h.Kernel=true
 wf:ab.wf h
 sml:ab.sml h
 lens:M6 h
theorem bk.fit{h:ab}{E:List Int}(a:bk h E)(b:ix h.Kernel.Refuse)(c:aH.sml h.Mail):PG h:=⟨a.ker,a.wf b,a.lens.sml a.ker c a.jobWf.2,a.lens⟩
theorem DX{h:ab}(b:bk h [])(c:h.Meshing=true):aA (mStep h).Kernel=true/\(mStep h).Kernel.Calls<=h.Kernel.Calls+1/\(mStep h).Kernel.Refuse=h.Kernel.Refuse/\(mStep h).Mail=h.Mail/\(Dp h=true->(mStep h).Meshing=false)/\bW.wf (mStep h).Job/\bW.sml (mStep h).Job:=by
 have s:=JS.of b c;refine⟨s.ker,s.calls.2.1,s.calls.2.2,rfl,λa=>?_,?_⟩
 ·unfold Dp at a
  rw[C0]at a;show(if over _=true then false else h.Meshing)=false;rw[C8 (show over (io h.Kernel h.Job).2=true from O0 (.inl a))]
 ·show bW.wf (if over _=true then _ else _)/\bW.sml (if over _=true then _ else _)
  split
  ·exact⟨⟨⟨⟨by decide,by decide⟩,⟨by decide,by decide⟩,⟨by decide,λv f=>by cases f⟩⟩,⟨by decide,by decide⟩,⟨by decide,by decide⟩⟩,by show(0:Nat)<=1048576;omega⟩
  ·have d:=(dP.1 (b.job c).1).1
   have g:=kI d;obtain⟨j,k⟩:=s.ph;obtain⟨l,i⟩:=s.nxt;have e:=s.plan;refine⟨⟨by rw[e];exact Fe d,⟨ω,ω⟩,⟨ω,by rw[e]at i;omega⟩⟩,by show((io h.Kernel h.Job).2.Plan.Cells).length<=1048576;rw[e];omega⟩
def sW(h:ab):Nat->ab × Bool
 | 0=>(h,false)
 | i+1=>if(sW h i).1.Meshing=true then(mStep (sW h i).1,Dp (sW h i).1) else sW h i
def fin(h:ab):ab × Bool:=sW h 100
theorem sK{h:ab}(g:bk h []):bk (started h).1 []/\(started h).1.Kernel=h.Kernel/\(started h).1.Mail=h.Mail:=by
 have t:=g.nums;unfold cj at t;rw[C0]at t;have u:=(kT (bM h).length (show 0<=h.Seed/\h.Seed<=1073741823 by omega) ((bM h).length - 1)).2;have j:=pF (bM h) (show 0<=h.Seed/\h.Seed<=1073741823 by omega);have c:cj {h with Seed:=(shuf (bM h).length h.Seed).2} = true:=by
  unfold cj;rw[C0];unfold shuf;simp only;omega
 cases k:lW (bM h) h.Seed with
 | nil=>
  have f:Ab.started h=({h with Seed:=(shuf (bM h).length h.Seed).2},false):=by unfold Ab.started;rw[k]
  rw[f];exact⟨{g with nums:=c},rfl,rfl⟩
 | cons q C=>
  obtain⟨D,E,l⟩:=j q (by rw[k];exact O1 ..);have f:Ab.started h=({h with Seed:=(shuf (bM h).length h.Seed).2,Meshing:=true,Job:=vc (d2 (nth (bM h) q.A.toNat) (nth (bM h) q.B.toNat))},true):=by unfold Ab.started;rw[k]
  rw[f];have d:∀s∈bM h,s∈h.Spans:=λs w=>nP h (Q2 _) s (List.mem_of_mem_take w)
  have n:=d _ (am (xs:=bM h) (i:=q.A.toNat) ω);have o:=d _ (am (xs:=bM h) (i:=q.B.toNat) ω);generalize nth (bM h) q.A.toNat=a at l n |-;generalize nth (bM h) q.B.toNat=b at l o |-;obtain⟨y,F,G⟩:=rv l;have p:iP (vc (d2 a b))=true:=dP.2 ⟨y,by show(0:Int)<=0;omega,by show(0:Int)<=5;omega,by show(0:Int)<=0;omega,by show(0:Int)<=(((d2 a b).Cells.length:Nat):Int);omega⟩;have r:(∃s∈h.Spans,s.Page=(d2 a b).Keep)/\∃s∈h.Spans,s.Page=(d2 a b).Move:=by
   unfold d2;split
   ·exact⟨⟨b,o,rfl⟩,⟨a,n,rfl⟩⟩
   ·exact⟨⟨a,n,rfl⟩,⟨b,o,rfl⟩⟩
  exact⟨{g with nums:=c,job:=λ_=>⟨p,r⟩,noj:=λe=>by cases e},rfl,rfl⟩
theorem bk.objSz{h:ab}{E:List Int}(a:bk h E):∀o∈h.Objs,0<=o.Size/\o.Size<=1000:=λx c=>by
 rcases a.oow x c with⟨s,d,e,f⟩|⟨l,b,g,i⟩
 ·have j:=aF (a.L.sok s d)
  have:=vu (n:=x.Size) ω;omega
 ·have k:=cu (a.L.lok l b)
  omega
theorem Gv{h:ab}(t:Int){size:Int}(c:bk h [])(d:9<=size/\size<=1000):mQ h t size=if(GZ h size).2<0 then((GZ h size).1,-1,4) else(addO (GZ h size).1 (GZ h size).2 size t,(GZ h size).2,0):=by
 unfold mQ GZ;by_cases a:(ay h.Free (kW size:Nat)).2.2=false
 ·rw[C8 a,C8 a]
  exact(C8 (show(-1:Int)<0 by decide)).symm
 ·rw[C7 a,C7 a]
  obtain⟨e,-⟩:=kj c (show(1:Int)<=(kW size:Nat) by unfold kW;omega) (by simpa using a);by_cases b:(iu h size).2=kW size
  ·rw[C8 b,C8 b]
   exact(C7 (show ¬16*(ay h.Free (kW size:Nat)).2.1<0 by omega)).symm
  ·rw[C7 b,C7 b]
   exact(C8 (show(-1:Int)<0 by decide)).symm
theorem wL(h:ab)(t size:Int)(k:bk h []):aS Tryz.prog 143 false [.ptr (bu h),.val none [I t],.val none [I size]] [.ptr (bu (fm h t size).1),.val none [I t],.val none [I size]] (.tup [none,none]) [I (fm h t size).2.1,I (fm h t size).2.2]:=by
 have X:=k.lens;have hlc:=X.caches;have P:=X.objs;have p:=k.nums;unfold cj at p;rw[C0]at p;have Q:=qV k.objSz h.Objs.length (Q2 _);change 0<=vM h/\vM h<=_ at Q;have n:=aE t 0 ((h.Caches.length:Int) - 1);have r:=aE size 1 1000;have E:=ui h k.objSz ω;have F:=jh size;refine fM 119 [(234,[2,0,0]),(235,[2,0])] [(7,10,[36,37,38,39,40,41,42,43,44,45]),(18,272,[81,82,83,84,85,86,87,89,90,91,92,93,94,95,96,97,0,1,2,3,4,5,6,8,9,10,11,12,13,14,15,16,1016,7,1008,1009,1010,1011,1012,1013,1014,1015,1016,17,18]),(1048594,0,[8])] [(0,0),(0,0),(0,0)] Tryz.func143 rfl (λu q=>?_) (.inr ⟨trivial,trivial,trivial⟩);unfold fm;by_cases h1:1000000<=h.Next
 ·rw[C8 (.inl h1)]
  repeat'(first|refine gD ?_|(conv=>whnf);first|refine C9 ?_)
  refine CD rfl rfl ?_;exact wC
 by_cases h2:90000<h.Kernel.Calls
 ·rw[C8 (.inr h2)]
  repeat'(first|refine gD ?_|(conv=>whnf);first|with_reducible refine Bf.D (λb=>?_) (λb=>?_)|refine C9 ?_)
  refine CD rfl rfl ?_;exact wC
 rw[C7 ω];by_cases C:¬(0<=t/\t<=h.Caches.length - 1)
 ·rw[C8 C]
  rw[Q0 C]at n
  repeat'(first|refine gD ?_|(conv=>whnf);first|with_reducible refine Bf.D (λb=>?_) (λb=>?_)|refine C9 ?_|refine C6 (n) ?_)
  refine CD rfl rfl ?_;exact wC
 rw[C7 C];replace C:=Decidable.not_not.1 C;rw[O0 C]at n;by_cases B:¬(1<=size/\size<=1000)
 ·rw[C8 B]
  rw[Q0 B]at r
  repeat'(first|refine gD ?_|(conv=>whnf);first|with_reducible refine Bf.D (λb=>?_) (λb=>?_)|refine C9 ?_|refine C6 (n) ?_|refine C6 (r) ?_)
  refine CD rfl rfl ?_;exact wC
 rw[C7 B];replace B:=Decidable.not_not.1 B;rw[O0 B]at r;by_cases Y:h.Limit<vM h+size
 ·rw[C8 Y]
  repeat'(first|refine gD ?_|(conv=>whnf);first|with_reducible refine Bf.D (λb=>?_) (λb=>?_)|refine C9 ?_|refine C6 (n) ?_|refine C6 (r) ?_|refine CE (E) ⟨⟨rfl,bz h⟩,trivial⟩ ?_|refine C9 ?_)
  refine CD rfl rfl ?_;exact wC
 rw[C7 Y];by_cases G:0<=aN size
 ·rw[C8 G]
  have hc3:aN size<=3:=by unfold aN;repeat' split<;>omega
  obtain⟨T,rfl⟩:=I2 C.1;obtain⟨K,hK⟩:=I2 G;have o:=xc h T K k ω ω ω;have s:=xY (t:=T) (c:=K) k ω ω ω;rw[hK]at F |-;simp only[C2];generalize fk h T K=w at o s |-;obtain⟨g,a⟩:=w;have H:g.Next=h.Next:=s.nx;simp only at o |-;by_cases J:a<0
  ·rw[C8 J]
   repeat'(first|refine gD ?_|(conv=>whnf);first|with_reducible refine Bf.D (λb=>?_) (λb=>?_)|refine C9 ?_|refine C6 (n) ?_|refine C6 (r) ?_|refine CE (E) ⟨⟨rfl,bz h⟩,trivial⟩ ?_|refine C9 ?_|refine C6 (F) ?_|refine CG (o) (.inl rfl) ?_)
   refine CD rfl rfl ?_;exact wC
  ·rw[C7 J]
   obtain⟨k1,k2⟩:=s.yes (show(0:Int)<=a by omega);have R:g.Objs.length<=512:=k1.lens.objs
   repeat'(first|refine gD ?_|(conv=>whnf);first|with_reducible refine Bf.D (λb=>?_) (λb=>?_)|refine C9 ?_|refine C6 (n) ?_|refine C6 (r) ?_|refine CE (E) ⟨⟨rfl,bz h⟩,trivial⟩ ?_|refine C9 ?_|refine C6 (F) ?_|refine CG (o) (.inl rfl) ?_)
   (conv=>whnf)
   refine CC (ι:=Nat) (λi=>[(0,.hold .box (bu g)),(1,.hold .one [I ((T:Nat):Int)]),(2,.hold .one [I (size)]),(8,.hold .one [I (a)]),(9,.hold .one [I ((i:Nat):Int)])]) (λi=>i<=g.Objs.length/\∀(j:Nat)(z:bC),j<i->g.Objs[j]? = some z->Le a z=false) (λi=>g.Objs.length - i) (0) ?_ (⟨R0 _,λj z hj=>ω⟩) λi k=>?_
   ·exact wC
   obtain⟨S,L⟩:=k;by_cases U:i<g.Objs.length/\(nth g.Objs i).Addr<a
   ·have d:=ah U.1
    repeat'(first|refine gD ?_|(conv=>whnf);first|with_reducible refine CA (aa d) ?_|refine C9 ?_|refine CF rfl (aa d) rfl ?_)
    ((conv=>whnf);refine CB (i+1) ⟨ω,cY d (Q0 ω) L⟩ ω ?_;(exact wC))
   ·have l:jo (Le a) g.Objs=i:=tC ω L λz M=>by
     have V:=(V1.1 M).1;have:z=nth g.Objs i:=(br M).symm;subst this;exact O0 ω
    have d:i<g.Objs.length->g.Objs[i]? = some (nth g.Objs i):=λW=>ah W
    rw[show addO g a size (T:Nat) = {g with Objs:=g.Objs.take i++⟨g.Next,a,size,(T:Nat)⟩::g.Objs.drop i,Next:=g.Next+1} by unfold addO;rw[tI l]]
    repeat'(first|refine gD ?_|(conv=>whnf);first|with_reducible (first|refine CA (aa (d ω)) ?_|refine Bf.D (λb=>?_) (λb=>?_))|refine C9 ?_|refine CF rfl (aa (d ω)) rfl ?_|refine DE.mk rfl (tF g.Objs) rfl ?_|refine CS i rfl (by rw[W0];omega) (aO λ_=>rfl) R3 ?_|refine Sl.suf i rfl (by rw[W0];omega) (aO λ_=>rfl) T3 ?_|refine CL (λ_=>rfl) (λ_=>rfl) (by rw[I1];omega) (by decide) ?_|refine Ap.sn (aO λ_=>rfl) rfl (by rw[W0,I1];omega) (by decide) rfl ?_|refine Ap.ins (e:=bC.enc .imm) (y:=⟨g.Next,a,size,(T:Nat)⟩) rfl (λ_=>rfl) (λ_=>rfl) ω (by decide) ?_|refine C9 ?_)
    all_goals
     refine CD rfl rfl ?_;exact wC
 ·rw[C7 G]
  have N:9<=size:=by unfold aN at G;repeat' split at G<;>omega
  have o:=xB h size k ⟨N,B.2⟩ ω;rw[Gv t k ⟨N,B.2⟩];have Z:(GZ h size).1.Next=h.Next/\(GZ h size).1.Objs=h.Objs:=by
   unfold GZ;split
   ·exact⟨rfl,rfl⟩
   ·split<;>exact⟨rfl,rfl⟩
  generalize GZ h size=w at o Z |-;obtain⟨g,a⟩:=w;obtain⟨H,O⟩:=Z;simp only at o H O |-;have R:g.Objs.length<=512:=by rw[O];exact P
  by_cases J:a<0
  ·rw[C8 J]
   repeat'(first|refine gD ?_|(conv=>whnf);first|with_reducible refine Bf.D (λb=>?_) (λb=>?_)|refine C9 ?_|refine C6 (n) ?_|refine C6 (r) ?_|refine CE (E) ⟨⟨rfl,bz h⟩,trivial⟩ ?_|refine C9 ?_|refine C6 (F) ?_|refine CG (o) (.inl rfl) ?_)
   refine CD rfl rfl ?_;exact wC
  ·rw[C7 J]
   repeat'(first|refine gD ?_|(conv=>whnf);first|with_reducible refine Bf.D (λb=>?_) (λb=>?_)|refine C9 ?_|refine C6 (n) ?_|refine C6 (r) ?_|refine CE (E) ⟨⟨rfl,bz h⟩,trivial⟩ ?_|refine C9 ?_|refine C6 (F) ?_|refine CG (o) (.inl rfl) ?_)
   (conv=>whnf)
   refine CC (ι:=Nat) (λi=>[(0,.hold .box (bu g)),(1,.hold .one [I (t)]),(2,.hold .one [I (size)]),(8,.hold .one [I (a)]),(9,.hold .one [I ((i:Nat):Int)])]) (λi=>i<=g.Objs.length/\∀(j:Nat)(z:bC),j<i->g.Objs[j]? = some z->Le a z=false) (λi=>g.Objs.length - i) (0) ?_ (⟨R0 _,λj z hj=>ω⟩) λi k=>?_
   ·exact wC
   obtain⟨S,L⟩:=k;by_cases U:i<g.Objs.length/\(nth g.Objs i).Addr<a
   ·have d:=ah U.1
    repeat'(first|refine gD ?_|(conv=>whnf);first|with_reducible refine CA (aa d) ?_|refine C9 ?_|refine CF rfl (aa d) rfl ?_)
    ((conv=>whnf);refine CB (i+1) ⟨ω,cY d (Q0 ω) L⟩ ω ?_;(exact wC))
   ·have l:jo (Le a) g.Objs=i:=tC ω L λz M=>by
     have V:=(V1.1 M).1;have:z=nth g.Objs i:=(br M).symm;subst this;exact O0 ω
    have d:i<g.Objs.length->g.Objs[i]? = some (nth g.Objs i):=λW=>ah W
    rw[show addO g a size t = {g with Objs:=g.Objs.take i++⟨g.Next,a,size,t⟩::g.Objs.drop i,Next:=g.Next+1} by unfold addO;rw[tI l]]
    repeat'(first|refine gD ?_|(conv=>whnf);first|with_reducible (first|refine CA (aa (d ω)) ?_|refine Bf.D (λb=>?_) (λb=>?_))|refine C9 ?_|refine CF rfl (aa (d ω)) rfl ?_|refine DE.mk rfl (tF g.Objs) rfl ?_|refine CS i rfl (by rw[W0];omega) (aO λ_=>rfl) R3 ?_|refine Sl.suf i rfl (by rw[W0];omega) (aO λ_=>rfl) T3 ?_|refine CL (λ_=>rfl) (λ_=>rfl) (by rw[I1];omega) (by decide) ?_|refine Ap.sn (aO λ_=>rfl) rfl (by rw[W0,I1];omega) (by decide) rfl ?_|refine Ap.ins (e:=bC.enc .imm) (y:=⟨g.Next,a,size,t⟩) rfl (λ_=>rfl) (λ_=>rfl) ω (by decide) ?_|refine C9 ?_)
    all_goals
     refine CD rfl rfl ?_;exact wC
theorem DP(h:ab)(a n:Int)(t:h.Larges.length<=4096)(j:∀l∈h.Larges,bR l=true)(o:xl h a<0):aS Tryz.prog 358 false [.ptr (bu h),.val none [I a],.val none [I n]] [.ptr (bu h),.val none [I a],.val none [I n]] .one [B false]:=by
 have b:∀l∈h.Larges,l.Page*16≠a:=λl c e=>by
  have:=BD (p:=Gg a) c (O0 e);unfold xl at o;omega
 refine fM 136 [(297,[2,0])] [(8,6,[49,50,51,52,53,54]),(9,10,[56,57,58,59,60,61,62,63,64,65]),(20,270,[123,124,125,126,127,128,129,130,131,122,132,133,134,135,0,1,2,3,4,5,6,7,8,9,10,11,12,13,14,1011])] [(0,0),(0,0),(0,0)] Tryz.func358 rfl (λu q=>?_)
 repeat'(first|refine gO ?_|(conv=>whnf);first|refine C9 ?_)
 (conv=>whnf)
 refine CC (ι:=Nat) (λk=>[(0,.hold .box (bu h)),(1,.hold .one [I (a)]),(2,.hold .one [I (n)]),(7,.hold .one [I ((k:Nat):Int)])]) (λk=>k<=h.Larges.length) (λk=>h.Larges.length - k) (0) ?_ (R0 _) λk w=>?_
 ·repeat'(first|exact trivial|rfl |exact ml r|exact ml g|exact dv _|refine CH ?_ ?_|(exact yD (by first|omega|(simp only;omega)|(simp;omega))))
 by_cases d:k<h.Larges.length
 ·have i:=ah d
  have y:=b _ (am d);have C:=aU (j _ (am d))
  repeat'(first|refine gA ?_|(conv=>whnf);first|with_reducible refine CA (aa i) ?_|refine C9 ?_|refine CF rfl (aa i) rfl ?_)
  ((conv=>whnf);refine CB (k+1) ω ω ?_;(exact wC))
 ·repeat'(first|refine gD ?_|(conv=>whnf);first|refine C9 ?_)
  refine CD rfl rfl ?_;exact wC
theorem N7(h:ab)(a:Int)(m:Nat):bu {h with Kernel:=zK h.Kernel a (m+1)} = (bu {h with Kernel:=zK h.Kernel a m}).set 0 (.s .own (((zK h.Kernel a m).Machine.Frames.Cells.map (aD .own)).set (ao (zK h.Kernel a m).Machine.Table ((a+m) / 16)).Frame.toNat ((aD .own (nth (zK h.Kernel a m).Machine.Frames.Cells (dh (zK h.Kernel a m) (a+m)))).set 0 (.s .own (((nth (zK h.Kernel a m).Machine.Frames.Cells (dh (zK h.Kernel a m) (a+m))).map (rI .own)).set ((a+m) % 16).toNat (splice (rI .own (nth (nth (zK h.Kernel a m).Machine.Frames.Cells (dh (zK h.Kernel a m) (a+m))) ((a+m) % 16).toNat)) 0 [I 0])))))):=
 F7 {h with Kernel:=zK h.Kernel a m} (a+m) 0
def ka(h:ab)(i k:Nat)(n:Int)(K:af):ab:={h with Kernel:=K,Larges:=h.Larges.set k (trimL (nth h.Larges k) n),Objs:=h.Objs.set i {nth h.Objs i with Size:=n}}
theorem HB(h:ab)(i k:Nat)(n:Int)(K:af):(ka h i k n K).Objs.map (bC.enc .own)=(h.Objs.map (bC.enc .own)).set i (splice (bC.enc .own (nth h.Objs i)) 2 [I n]):=by
 simp[ka,X4,bC.enc,splice]
theorem qF(h:ab)(i:Nat)(n:Int)(j:bk h [])(H:i<h.Objs.length)(hg:0<=xl h (nth h.Objs i).Addr):aS Tryz.prog 358 false [.ptr (bu h),.val none [I (nth h.Objs i).Addr],.val none [I n]] [.ptr (bu (if jY h i n then trimH h i (xl h (nth h.Objs i).Addr).toNat n else h)),.val none [I (nth h.Objs i).Addr],.val none [I n]] .one [B (decide (jY h i n))]:=by
 have c:=j.lens;have hnl:=c.larges;have hno:=c.objs;have hpg:dQ h<=32:=c.ents;obtain⟨f1,f2,f3⟩:=eU (Gg (nth h.Objs i).Addr) h.Larges hg;obtain⟨g,o⟩:=I2 hg;have b:g<h.Larges.length:=by unfold xl at o;omega
 have Y:(nth h.Larges g).Page*16=(nth h.Objs i).Addr:=by
  have:=of_decide_eq_true f2;rw[show(di (Gg (nth h.Objs i).Addr) h.Larges).toNat=g by unfold xl at o;omega]at this;exact this
 have J:∀k,k<g->(nth h.Larges k).Page*16≠(nth h.Objs i).Addr:=λk hk e=>by
  have N:k<h.Larges.length:=ω
  have hok1:=aU (j.L.lok _ (am N));have hok2:=aU (j.L.lok _ (am b));have:=j.L.one k g N b 0 0 ω ω ω;omega
 have p:jY h i n↔9<=n/\n<=(nth h.Larges g).Size:=by
  unfold jY;rw[o,C2];exact⟨λx=>x.2,λx=>⟨ω,x⟩⟩
 rw[o,C2];have hbd:=lR j (am H);obtain⟨-,Z,w⟩:=j.objAt (am H);have hii:ny h (nth h.Objs i).Addr=i:=by
  have h2:=(j.objAt (am H)).1;exact gy (f:=(·.Addr)) (gQ j.osr) h2 H (by rw[Z])
 rw[hii]at w;have E:=ah H;have hxg:=ah b;have V:=tU (nth h.Larges g) n (j.L.lok _ (am b));have h8:=j.L.lok _ (am b);unfold bR at h8;rw[C0]at h8;refine fM 136 [(297,[2,0])] [(8,6,[49,50,51,52,53,54]),(9,10,[56,57,58,59,60,61,62,63,64,65]),(20,270,[123,124,125,126,127,128,129,130,131,122,132,133,134,135,0,1,2,3,4,5,6,7,8,9,10,11,12,13,14,1011])] [(0,0),(0,0),(0,0)] Tryz.func358 rfl (λu q=>?_)
 repeat'(first|refine gO ?_|(conv=>whnf);first|refine C9 ?_)
 (conv=>whnf)
 refine CC (ι:=Nat) (λk=>[(0,.hold .box (bu h)),(1,.hold .one [I ((nth h.Objs i).Addr)]),(2,.hold .one [I (n)]),(7,.hold .one [I ((k:Nat):Int)])]) (λk=>k<=g) (λk=>g - k) (0) ?_ (R0 _) λk hk=>?_
 ·repeat'(first|exact trivial|rfl |exact ml r|exact ml d|exact dv _|refine CH ?_ ?_|(exact yD (by first|omega|(simp only;omega)|(simp;omega))))
 have l:=ah (xs:=h.Larges) (i:=k) ω;have hfk:=aU (j.L.lok _ (am (xs:=h.Larges) (i:=k) ω));by_cases e:k=g;rotate_left
 ·have hne:=J k ω
  repeat'(first|refine gA ?_|(conv=>whnf);first|with_reducible refine CA (aa l) ?_|refine C9 ?_|refine CF rfl (aa l) rfl ?_)
  ((conv=>whnf);refine CB (k+1) ω ω ?_;(exact wC))
 subst e;by_cases F:9<=n/\n<=(nth h.Larges k).Size;rotate_left
 ·rw[C7 (by rw[p];exact F),Q0 (by rw[p];exact F)]
  rw[C7 F]at V
  repeat'(first|refine gA ?_|(conv=>whnf);first|with_reducible refine CA (aa l) ?_|refine C9 ?_|refine CF rfl (aa l) rfl ?_|refine C6 (V) ?_)
  refine CD rfl rfl ?_;exact wC
 rw[C8 (by rw[p];exact F),O0 (by rw[p];exact F)];rw[C8 F]at V;have y:=λm hm=>AB j b F (m:=m) hm
 have D:=λm=>(qW h.Kernel (16*(nth h.Larges k).Page+n) m).1
 have O:=λa W=>mB j b (a:=a) W
 have hsz:n<=16*(nth h.Larges k).Pages:=ω
 generalize hM:(16*((n+15) / 16) - n).toNat=M at *;have hfl:∀m,(zK h.Kernel (16*(nth h.Larges k).Page+n) m).Machine.Frames.Cells.length=h.Kernel.Machine.Frames.Cells.length:=λm=>by
  induction m with
  | zero=>rfl
  | succ m ih=>show(List.set _ _ _).length=_;rw[C1];exact ih
 have cO:=pD {h with Larges:=h.Larges.set k (trimL (nth h.Larges k) n)} (nth h.Objs i).Addr (by show h.Objs.length<=_;omega);change ar _ _ _ [.val (some 24) (ab.enc .imm {h with Larges:=h.Larges.set k (trimL (nth h.Larges k) n)}),_] _ [I (di (kE (nth h.Objs i).Addr) h.Objs)]at cO;rw[w]at cO;have Q:=bz {h with Larges:=h.Larges.set k (trimL (nth h.Larges k) n)};have heL:bu {h with Larges:=h.Larges.set k (trimL (nth h.Larges k) n)} = (bu h).set 7 (.s .own ((h.Larges.map (a8.enc .own)).set k (a8.enc .own (trimL (nth h.Larges k) n)))):=by simp[bu,X4]
 rw[heL]at Q
 repeat'(first|refine gA ?_|(conv=>whnf);first|with_reducible (first|refine CA (aa l) ?_|refine CA (aa E) ?_)|refine C9 ?_|refine CF rfl (aa l) rfl ?_|refine C6 (V) ?_|refine CN rfl rfl (aa l) rfl (X0 rfl) rfl ?_|refine CE (cO) ⟨⟨rfl,Q⟩,⟨rfl,rfl⟩,trivial⟩ ?_|refine CN rfl rfl (aa E) rfl (X0 rfl) rfl ?_|refine CF rfl (aa E) rfl ?_|refine C9 ?_)
 rw[<-Y];have e0:ka h i k n h.Kernel=ka h i k n (zK h.Kernel (16*(nth h.Larges k).Page+n) 0):=rfl;have r:C.s .own ((ka h i k n (zK h.Kernel (16*(nth h.Larges k).Page+n) 0)).Larges.map (a8.enc .own))=C.s .own ((h.Larges.map (a8.enc .own)).set k (a8.enc .own (trimL (nth h.Larges k) n))):=by simp[ka,X4]
 have d:C.s .own ((ka h i k n (zK h.Kernel (16*(nth h.Larges k).Page+n) 0)).Objs.map (bC.enc .own))=C.s .own ((h.Objs.map (bC.enc .own)).set i (splice (bC.enc .own (nth h.Objs i)) 2 [I n])):=T0 _ (HB h i k n _)
 (conv=>whnf)
 refine CC (ι:=Nat) (λm=>[(0,.hold .box (bu (ka h i k n (zK h.Kernel (16*(nth h.Larges k).Page+n) m)))),(1,.hold .one [I (((nth h.Larges k).Page*16))]),(8,.hold .box (a8.enc .own (trimL (nth h.Larges k) n))),(9,.hold .box (a7.enc .own (vf (nth h.Larges k) n))),(11,.hold .one [I (((16*(nth h.Larges k).Page+n)+(m:Nat)))])]) (λm=>m<=M) (λm=>M - m) (0) ?_ (R0 _) λm hm=>?_
 ·repeat'(first|exact trivial|rfl |exact ml r|exact ml d|exact dv _|refine CH ?_ ?_|(exact yD (by first|omega|(simp only;omega)|(simp;omega))))
 have hmod:IntKind.i64.wrap 0=0:=rfl;by_cases lm:m<M
 ·have W:0<=(16*(nth h.Larges k).Page+n)+(m:Nat)/\(16*(nth h.Larges k).Page+n)+(m:Nat)<512:=ω
  have R:=O ((16*(nth h.Larges k).Page+n)+(m:Nat)) ω;have t:=y m hm;rw[<-D m]at R;have hks:=b6 t;have c2:=cM (zK h.Kernel (16*(nth h.Larges k).Page+n) m).Machine.Table (((16*(nth h.Larges k).Page+n)+(m:Nat)) / 16) hks.1.2;obtain⟨-,-,-,q0,q1⟩:=ce t R;have hul:=(aT.1 (aB.1 t).2.1).2.2.1;have S:dh (zK h.Kernel (16*(nth h.Larges k).Page+n) m) ((16*(nth h.Larges k).Page+n)+(m:Nat))<(zK h.Kernel (16*(nth h.Larges k).Page+n) m).Machine.Frames.Cells.length:=by unfold dh;omega
  have G:(zK h.Kernel (16*(nth h.Larges k).Page+n) m).Machine.Frames.Cells[(ao (zK h.Kernel (16*(nth h.Larges k).Page+n) m).Machine.Table (((16*(nth h.Larges k).Page+n)+(m:Nat)) / 16)).Frame.toNat]? = some _:=ah S;have h16:=(Ae t S).1;have T:=ah (xs:=nth (zK h.Kernel (16*(nth h.Larges k).Page+n) m).Machine.Frames.Cells (dh (zK h.Kernel (16*(nth h.Larges k).Page+n) m) ((16*(nth h.Larges k).Page+n)+(m:Nat)))) (i:=(((16*(nth h.Larges k).Page+n)+(m:Nat)) % 16).toNat) (by rw[h16];omega);have htm:((16*(nth h.Larges k).Page+n)+(m:Nat)).tmod 16=((16*(nth h.Larges k).Page+n)+(m:Nat)) % 16:=dI W.1;have hpu:=N7 (ka h i k n h.Kernel) (16*(nth h.Larges k).Page+n) m;have hwr:=nl W;have hst:(trimL (nth h.Larges k) n).Pages=(n+15) / 16:=rfl
  repeat'(first|refine gD ?_|(conv=>whnf);first|refine C9 ?_|refine CK (by decide) ?_|refine CI hwr ?_|refine CM htm ?_|refine CE (c2) ⟨⟨rfl,CV _⟩,⟨rfl,rfl⟩,trivial⟩ ?_|refine CJ q0 (aa G) ?_|refine CF rfl (aa G) rfl ?_|refine CJ ω (aa T) ?_|refine Pu.two rfl rfl (aa G) rfl rfl rfl (aa T) rfl (Q2 _) hpu ?_)
  ((conv=>whnf);refine CB (m+1) ω ω ?_;(exact wC))
 obtain rfl:m=M:=ω
 have hst:(trimL (nth h.Larges k) n).Pages=(n+15) / 16:=rfl;have hkM:=y m (Q2 _);have U:(zK h.Kernel (16*(nth h.Larges k).Page+n) m).Machine.Table.Entries.length=dQ h:=by rw[D];rfl
 have hTK:so h k n=zK h.Kernel (16*(nth h.Larges k).Page+n) m:=by unfold so;rw[hM]
 unfold trimH Fj;rw[hTK];generalize zK h.Kernel (16*(nth h.Larges k).Page+n) m=K at *;have hN:((d7 (nth h.Larges k) n:Nat):Int)=(nth h.Larges k).Pages - (n+15) / 16:=by unfold d7;omega
 have hrA:0<d7 (nth h.Larges k) n->vf (nth h.Larges k) n = ⟨(nth h.Larges k).Page+(n+15) / 16,(d7 (nth h.Larges k) n:Nat)⟩:=λhp=>by unfold vf;rw[C8 ω,hN]
 have hrB:¬0<d7 (nth h.Larges k) n->vf (nth h.Larges k) n = ⟨0,0⟩:=λhp=>by unfold vf;rw[C7 ω]
 generalize d7 (nth h.Larges k) n=P at *;by_cases X:0<P
 ·rw[C8 X]
  have hr:=hrA X;rw[hr]
  repeat'(first|refine gD ?_|(conv=>whnf);first|refine C9 ?_)
  (conv=>whnf)
  refine CC (ι:=Nat) (λx=>[(0,.hold .box (bu (ka h i k n (dC K ((nth h.Larges k).Page+(n+15) / 16) x)))),(9,.hold .box ([I ((nth h.Larges k).Page+(n+15) / 16),I (P:Nat)])),(13,.hold .one [I (((nth h.Larges k).Page+(n+15) / 16+(x:Nat)))])]) (λx=>x<=P) (λx=>P - x) (0) ?_ (R0 _) λx l=>?_
  ·repeat'(first|exact trivial|rfl |exact ml r|exact ml d|exact dv _|refine CH ?_ ?_|(exact yD (by first|omega|(simp only;omega)|(simp;omega))))
  by_cases lx:x<P
  ·have c3:=lN (ka h i k n (dC K ((nth h.Larges k).Page+(n+15) / 16) x)) ((nth h.Larges k).Page+(n+15) / 16+(x:Nat)) (kb hkM _ _)
   repeat'(first|refine gD ?_|(conv=>whnf);first|refine C9 ?_|refine CG (c3) (.inl rfl) ?_)
   ((conv=>whnf);refine CB (x+1) ω ω ?_;(exact wC))
  ·obtain rfl:x=P:=ω
   have c4:=gl (ka h i k n (dC K ((nth h.Larges k).Page+(n+15) / 16) x));rw[show dQ (ka h i k n (dC K ((nth h.Larges k).Page+(n+15) / 16) x))=dQ h from(gW _ _ _).1.trans U]at c4;have c5:=ky (dQ h:Nat) h.Free ⟨(nth h.Larges k).Page+(n+15) / 16,(x:Nat)⟩ ⟨ω,ω⟩ ⟨by have:=c.free;omega,λ_ _=>trivial⟩
   repeat'(first|refine gD ?_|(conv=>whnf);first|refine C9 ?_|refine CE (c4) ⟨bz _,trivial⟩ ?_|refine CE (c5) ⟨⟨rfl,rfl⟩,⟨rfl,dA h.Free⟩,⟨rfl,rfl⟩,trivial⟩ ?_|refine C9 ?_)
   refine CD rfl rfl ?_;exact wC
 ·rw[C7 X]
  obtain rfl:P=0:=ω
  have hr:=hrB X;rw[hr]
  repeat'(first|refine gD ?_|(conv=>whnf);first|refine C9 ?_)
  (conv=>whnf)
  refine CC (ι:=Nat) (λx=>[(0,.hold .box (bu (ka h i k n K))),(9,.hold .box ([I 0,I 0])),(13,.hold .one [I (0)])]) (λx=>x=0) (λx=>0) (0) ?_ (rfl) λx l=>?_
  ·repeat'(first|exact trivial|rfl |exact ml r|exact ml d|exact dv _|refine CH ?_ ?_|(exact yD (by first|omega|(simp only;omega)|(simp;omega))))
  subst l
  repeat'(first|refine gD ?_|(conv=>whnf);first|refine C9 ?_)
  refine CD rfl rfl ?_;exact wC
theorem BH{α:Type}(a:α)(k:Nat):List.replicate (k+1) a=List.replicate k a++[a]:=List.replicate_succ' ..
theorem D8(n k:Nat):aV.enc .own ⟨List.replicate k (List.replicate 16 0),List.replicate n false⟩ = [.s .own (List.replicate k [.s .own (List.replicate 16 [I 0])]),.s .own (List.replicate n [B false])]:=by
 simp[aV.enc,aD,rI,rB,List.map_replicate]
theorem FF(n:Nat):KE [.s .own (List.replicate n [.z]),.s .own (List.replicate n [.z]),B true] (aH.enc .own (dx n)++[B true]):=by
 have e:aH.enc .own (dx n)++[B true]=[.s .own (List.replicate n [.s .own []]),.s .own (List.replicate n [.s .own []]),B true]:=by simp[aH.enc,dx,bT,aD,List.map_replicate]
 rw[e];exact .cons (.rep (.cons .z_ .nil)) (.cons (.rep (.cons .z_ .nil)) (.cons (.rfl_ _) .nil))
theorem Lk(n:Nat)(b:1<=n/\n<=4):ar Tryz.prog 94 false [.val none [I (n:Nat)]] (.tup [some 2,none]) (aH.enc .own (dx n)++[B true]):=by
 have a:=aM ((n:Nat):Int) 1 4;rw[O0 ω]at a;refine fO 13 [(3,4,[8,9,10,11])] Tryz.func94 rfl ?_ (.inr (aP (aH.enc_fr _) ⟨trivial,trivial⟩))
 repeat'((conv=>whnf);first|with_reducible (first|refine Lm ?_|refine Wm ω ?_|refine Bn ?_|refine jc.dk rfl ?_)|refine Bt ?_|refine Bu ?_|refine C9 ?_|refine C6 (a) ?_|refine Mk.mk n rfl rfl ω (wY ω (by decide)) rfl ?_)
 exact FF n
theorem zI(n:Nat)(b:1<=n/\n<=4):ar Tryz.prog 351 false [.val none [I (n:Nat)]] (.tup [some 2,none]) (aH.enc .own (dx n)++[B true]):=by
 have a:=aE ((n:Nat):Int) 1 4;rw[O0 ω]at a;refine fO 13 [(3,4,[8,9,10,11])] Tryz.func351 rfl ?_ (.inr (aP (aH.enc_fr _) ⟨trivial,trivial⟩))
 repeat'((conv=>whnf);first|with_reducible (first|refine Lm ?_|refine Wm ω ?_|refine Bn ?_|refine jc.dk rfl ?_)|refine Bt ?_|refine Bu ?_|refine C9 ?_|refine C6 (a) ?_|refine Mk.mk n rfl rfl ω (wY ω (by decide)) rfl ?_)
 exact FF n
theorem K3:KE [.s .own (List.replicate 4 [.z])] (aC.enc .own ek):=.cons (.rep (.cons .z_ .nil)) .nil
theorem wG:ar Tryz.prog 352 false [] .agg (aC.enc .own ek):=by
 refine fO 3 [] Tryz.func352 rfl ?_ (.inr (aC.enc_fr _))
 repeat'((conv=>whnf);first|with_reducible (first|refine Lm ?_|refine Wm ω ?_|refine Bn ?_|refine jc.dk rfl ?_)|refine Bt ?_|refine Bu ?_|refine C9 ?_|refine Mk.mk 4 rfl rfl (by decide) (by decide) rfl ?_)
 exact K3
theorem qe:ar Tryz.prog 353 false [.val none [I 16]] (.tup [some 2,none]) (bB.enc .own ⟨16,[]⟩++[B true]):=by
 refine fO 10 [] Tryz.func353 rfl ?_ (.inr (aP (bB.enc_fr _) ⟨trivial,trivial⟩))
 repeat'((conv=>whnf);first|with_reducible (first|refine Lm ?_|refine Wm ω ?_|refine Bn ?_|refine jc.wk rfl ?_)|refine Bt ?_|refine Bu ?_|refine C9 ?_|refine C6 (aE 16 0 500) ?_)
 exact⟨rfl,rfl,rfl,trivial⟩
def caps(h:ab)(k:Nat):ab:={h with Caches:=List.replicate k ek}
theorem Hu(k:Nat):(List.replicate (k+1) ek).map (aC.enc .own)=(List.replicate k ek).map (aC.enc .own)++[aC.enc .own ek]:=by rw[BH,T4];rfl
theorem KO{k:Nat} : ∀r∈(List.replicate k ek).map (aC.enc .own),r.length=1:=aO λ_=>rfl
theorem Md(x:List bE):fz (.s .own (x.map (bE.enc .own)))=.s .imm (x.map (bE.enc .imm)):=(List.cons.inj (List.cons.inj (CW ⟨0,x⟩)).2).1
theorem ee:∀a b:List C,dw (a++b)=dw a++dw b
 | [],_=>rfl
 | x::xs,b=>by show fz x::dw (xs++b)=fz x::(dw xs++dw b);rw[ee xs b]
theorem d9(r:ax)(c:ax.sml r):ar Tryz.prog 309 false [.val (some 2) (ax.enc .imm r)] .agg (ax.enc .own r):=by
 have e:r.Objs.length<=1048576:=c.1;refine fO 36 [(5,272,[15,16,17,18,19,20,21,22,23,24,25,26,27,28,29,34,0,1,2,3,4,5,6,7,8,9,10,11,12,13,14,15,1000,1001,1002,1003,1004,1005,1006,1007,16,1000,1001,17,1000,1001,18,19,20])] Tryz.func309 rfl ?_ (.inr (ax.enc_fr _))
 repeat'(first|refine gO ?_|(conv=>whnf);first|refine C9 ?_)
 (conv=>whnf)
 refine CC (ι:=Nat) (λi=>[(1,.hold .box (ax.enc .imm r)),(2,.hold .box [I 0,.z]),(3,.hold .box [I r.Next,.s .own ((r.Objs.take i).map (bE.enc .own))]),(4,.hold .one [I ((i:Nat):Int)])]) (λi=>i<=r.Objs.length) (λi=>r.Objs.length - i) (0) ?_ (R0 _) λi g=>?_
 ·exact wC
 by_cases b:i<r.Objs.length
 ·have d:=ah b
  have a:(nth r.Objs i).Cells.length<=1048576:=c.2 _ (am b)
  repeat'(first|refine gD ?_|(conv=>whnf);first|with_reducible refine CA (aa d) ?_|refine C9 ?_|refine CF rfl (aa d) rfl ?_|refine CR (λ_=>rfl) (λ_=>rfl) a (by decide) ?_|refine CL (λ_=>rfl) (λ_=>rfl) a (by decide) ?_|refine C9 ?_|refine Ap.sn (aO λ_=>rfl) rfl (by simp;omega) (by decide) (en b) ?_)
  ((conv=>whnf);refine CB (i+1) ω ω ?_;(exact wC))
 ·repeat'(first|refine gD ?_|(conv=>whnf);first|refine C9 ?_)
  obtain rfl:i=r.Objs.length:=ω
  rw[z4]
  rfl
theorem gH(r:ax)(id:Int)(g:r.Objs.length<=1048576):ar Tryz.prog 385 false [.val (some 2) (ax.enc .imm r),.val none [I id]] .one [I (nk r id)]:=by
 refine fO 22 [] Tryz.func385 rfl ?_
 repeat'(first|refine gO ?_|(conv=>whnf);first|refine C9 ?_)
 (conv=>whnf)
 refine CC (ι:=Nat) (λi=>[(1,.hold .one [I (id)]),(2,.hold .box (ax.enc .imm r)),(5,.hold .one [I ((i:Nat):Int)])]) (λi=>i<=r.Objs.length/\∀(j:Nat)(z:bE),j<i->r.Objs[j]? = some z->lP id z=false) (λi=>r.Objs.length - i) (0) ?_ (⟨R0 _,λj z h=>ω⟩) λi c=>?_
 ·exact wC
 obtain⟨c,b⟩:=c;by_cases d:i<r.Objs.length
 ·have a:=ah d
  by_cases e:(nth r.Objs i).Id=id
  ·repeat'(first|refine gA ?_|(conv=>whnf);first|with_reducible refine CA (aa a) ?_|refine C9 ?_|refine CF rfl (aa a) rfl ?_)
   exact T0 (λz=>[I z]) (dB a (O0 e) b).symm
  ·repeat'(first|refine gA ?_|(conv=>whnf);first|with_reducible refine CA (aa a) ?_|refine C9 ?_|refine CF rfl (aa a) rfl ?_)
   ((conv=>whnf);refine CB (i+1) ⟨ω,cY a (Q0 e) b⟩ ω ?_;(exact wC))
 ·repeat'(first|refine gD ?_|(conv=>whnf);first|refine C9 ?_)
  exact T0 (λz=>[I z]) (fH ω b).symm
theorem lM(r:ax)(c:C)(h:Nc c):gh (ax.enc .own r++[c]):=aP (ax.enc_fr _) ⟨h,trivial⟩
theorem wD(r:ax)(n:Int)(m:Nat)(b:q8 r m)(h:m<=1000)(c:1<=n/\n<=1000):ar Tryz.prog 301 false [.val (some 2) (ax.enc .imm r),.val none [I n]] (.tup [some 2,none]) (ax.enc .imm (jQ r n)++[I r.Next]):=by
 have i:=b.sml h;have d:=b.len;have j:=b.nx;have k:=d9 r i;have e:=aE n 1 1000;rw[O0 c]at e;have key:ar Tryz.prog 301 false [.val (some 2) (ax.enc .imm r),.val none [I n]] (.tup [some 2,none]) (ax.enc .own (jQ r n)++[I r.Next]):=by
  have a:=lM (jQ r n) (I r.Next) trivial;unfold jQ at a |-;rw[C8 c]at a |-;have l:ax.enc .own {r with Next:=r.Next+1,Objs:=r.Objs++[⟨r.Next,List.replicate n.toNat 0⟩]} = [I (r.Next+1),.s .own (r.Objs.map (bE.enc .own)++[[I r.Next,.s .own (List.replicate n.toNat [I 0])]])]:=by
   simp[ax.enc,bE.enc,rI]
  rw[l]at a |-;refine fO 30 [(4,263,[13,14,15,16,17,18,22,0,1,2,3,4,5,6,1000,1001,7,1000,1001,8,9,10]),(6,259,[27,28,29,0,1,2,3,1001,1002,4])] Tryz.func301 rfl ?_ (.inr a)
  repeat'(first|refine gO ?_|(conv=>whnf);first|refine C9 ?_|refine C6 (k) ?_|refine C6 (e) ?_|refine Mk.mk n.toNat ω ω ω (wY ω (by decide)) rfl ?_|refine C9 ?_|refine Ap.sn (aO λ_=>rfl) rfl (by simp;omega) (by decide) rfl ?_)
  (conv=>whnf)
  rfl
 have g:=key.fzR;rw[ee,CW]at g;exact g
theorem yN(r:ax)(id:Int)(m:Nat)(d:q8 r m)(k:m<=1000):ar Tryz.prog 355 true [.val (some 2) (ax.enc .imm r),.val none [I id]] (.tup [some 2,none]) (ax.enc .imm (ko r id)++[B (!decide (nk r id<0))]):=by
 have g:=d.sml k;have h:=d.len;have i:=d9 r g;have b:=gH r id g.1;by_cases e:nk r id<0
 ·have key:ar Tryz.prog 355 true [.val (some 2) (ax.enc .imm r),.val none [I id]] (.tup [some 2,none]) (ax.enc .own r++[B false]):=by
   refine fO 30 [(5,267,[16,17,18,19,20,22,23,24,25,26,28,0,1,2,3,4,6,7,8,9,10,5,1006,1007,1008,1009,1010,11,12,13]),(1048581,6,[1])] Tryz.func355 rfl ?_ (.inl rfl)
   repeat'(first|refine gD ?_|(conv=>whnf);first|refine C9 ?_|refine C6 (i) ?_|refine C6 (b) ?_)
   rfl
  have a:=key.fzR;rw[ee,CW]at a;unfold ko;rw[C8 e,O0 e];exact a
 ·have n:ko r id = {r with Objs:=dele r.Objs (nk r id).toNat}:=by unfold ko;rw[C7 e]
  obtain⟨t,u,w⟩:=eU (lP id) r.Objs (by unfold nk at e;omega);obtain⟨j,c⟩:=I2 (show 0<=nk r id by omega);have o:j<r.Objs.length:=by unfold nk at c;omega
  have key:ar Tryz.prog 355 true [.val (some 2) (ax.enc .imm r),.val none [I id]] (.tup [some 2,none]) ([I r.Next,.s .own ((dele r.Objs j).map (bE.enc .imm))]++[B true]):=by
   rw[c]at b;refine fO 30 [(5,267,[16,17,18,19,20,22,23,24,25,26,28,0,1,2,3,4,6,7,8,9,10,5,1006,1007,1008,1009,1010,11,12,13]),(1048581,6,[1])] Tryz.func355 rfl ?_ (.inl rfl)
   repeat'(first|refine gD ?_|(conv=>whnf);first|refine C9 ?_|refine C6 (i) ?_|refine C6 (b) ?_|refine DE.mk rfl (Md r.Objs) rfl ?_|refine CS j rfl (by rw[W0];omega) (aO λ_=>rfl) R3 ?_|refine Sl.suf (j+1) ω (by rw[W0];omega) (aO λ_=>rfl) T3 ?_|refine CL (λ_=>rfl) (λ_=>rfl) (by rw[I1];omega) (by decide) ?_|refine CR (λ_=>rfl) (λ_=>rfl) (by rw[I1];omega) (by decide) ?_|refine Ap.dele (λ_=>rfl) (λ_=>rfl) ω (by decide) ?_|refine C9 ?_)
   rfl
  have a:=key.fzR;have p:dw ([I r.Next,.s .own ((dele r.Objs j).map (bE.enc .imm))]++[B true])=ax.enc .imm (ko r id)++[B (!decide (nk r id<0))]:=by
   have:∀l:List bE,fzR (l.map (bE.enc .imm))=l.map (bE.enc .imm):=λl=>by
    induction l with
    | nil=>rfl
    | cons x xs q=>rw[V4,fzR,q,<-bE.enc_fz,oe]
   rw[n,c,Q0 ω];simp[dw,fz,ax.enc,this]
  rw[p]at a;exact a
theorem wK(r:ax)(id a v:Int)(m:Nat)(o:q8 r m)(D:m<=1000)(h:0<=nk r id)(c:0<=a/\a<=(nth r.Objs (nk r id).toNat).Cells.length - 1)(p:0<=v/\v<=999):ar Tryz.prog 357 false [.val (some 2) (ax.enc .imm r),.val none [I id],.val none [I a],.val none [I v]] (.tup [some 2,none]) (ax.enc .imm (eB r id a v)++[B true]):=by
 have k:=o.sml D;have q:=o.len;have E:=d9 r k;have t:=gH r id k.1;obtain⟨J,K,L⟩:=eU (lP id) r.Objs h;obtain⟨j,l⟩:=I2 h;have d:j<r.Objs.length:=by unfold nk at l;omega
 have e:=ah d;have F:(nth r.Objs j).Cells.length<=1048576:=k.2 _ (am d);obtain⟨b,g⟩:=I2 c.1;have G:eB r id a v = {r with Objs:=r.Objs.set j ⟨(nth r.Objs j).Id,(nth r.Objs j).Cells.set b v⟩}:=by
  unfold eB;rw[C8 ⟨h,c,p⟩,l,g];rfl
 rw[l]at t c;rw[g]at c |-;simp only[C2]at c;have u:=ah (xs:=(nth r.Objs j).Cells) (i:=b) ω;have w:=aE (b:Nat) 0 (((nth r.Objs j).Cells.length:Nat) - 1:Int);rw[O0 ω]at w;have y:=aE v 0 999;rw[O0 p]at y;have key:ar Tryz.prog 357 false [.val (some 2) (ax.enc .imm r),.val none [I id],.val none [I (b:Nat)],.val none [I v]] (.tup [some 2,none]) (ax.enc .own (eB r id (b:Nat) v)++[B true]):=by
  have n:=lM (eB r id (b:Nat) v) (B true) trivial;rw[<-g,G]at n |-;have H:ax.enc .own {r with Objs:=r.Objs.set j ⟨(nth r.Objs j).Id,(nth r.Objs j).Cells.set b v⟩} = [I r.Next,.s .own ((r.Objs.map (bE.enc .own)).set j [I (nth r.Objs j).Id,.s .own (((nth r.Objs j).Cells.map (rI .own)).set b [I v])])]:=by
   simp[ax.enc,bE.enc,rI,X4]
  rw[H]at n |-;rw[g];refine fO 48 [] Tryz.func357 rfl ?_ (.inr n)
  repeat'(first|refine gD ?_|(conv=>whnf);first|with_reducible (first|refine CA (aa e) ?_|refine CA (aa u) ?_|refine CJ ω (aa e) ?_)|refine C9 ?_|refine C6 (E) ?_|refine C6 (t) ?_|refine C6 (w) ?_|refine C6 (y) ?_|refine CF rfl (aa e) rfl ?_|refine Pu.two rfl rfl (aa e) rfl rfl rfl (aa u) rfl (Q2 _) rfl ?_)
  rfl
 have C:=key.fzR;rw[ee,CW]at C;exact C
theorem zm(r:ax)(id n:Int)(m:Nat)(l:q8 r m)(u:m<=1000)(g:0<=nk r id)(c:1<=n/\n<=(nth r.Objs (nk r id).toNat).Cells.length):ar Tryz.prog 359 false [.val (some 2) (ax.enc .imm r),.val none [I id],.val none [I n]] (.tup [some 2,none]) (ax.enc .imm (fX r id n)++[B true]):=by
 have h:=l.sml u;have o:=l.len;have w:=d9 r h;have p:=gH r id h.1;obtain⟨E,F,G⟩:=eU (lP id) r.Objs g;obtain⟨j,i⟩:=I2 g;have a:j<r.Objs.length:=by unfold nk at i;omega
 have d:=ah a;have y:(nth r.Objs j).Cells.length<=1048576:=h.2 _ (am a);obtain⟨b,e⟩:=I2 (show 0<=n by omega);have C:fX r id n = {r with Objs:=r.Objs.set j ⟨(nth r.Objs j).Id,(nth r.Objs j).Cells.take b⟩}:=by
  unfold fX;rw[C8 ⟨g,c⟩,i,e];rfl
 rw[i]at p c;rw[e]at c |-;simp only[C2]at c;have q:=aE (b:Nat) 1 (((nth r.Objs j).Cells.length:Nat):Int);rw[O0 ω]at q;have key:ar Tryz.prog 359 false [.val (some 2) (ax.enc .imm r),.val none [I id],.val none [I (b:Nat)]] (.tup [some 2,none]) (ax.enc .own (fX r id (b:Nat))++[B true]):=by
  have k:=lM (fX r id (b:Nat)) (B true) trivial;rw[<-e,C]at k |-;have D:ax.enc .own {r with Objs:=r.Objs.set j ⟨(nth r.Objs j).Id,(nth r.Objs j).Cells.take b⟩} = [I r.Next,.s .own ((r.Objs.map (bE.enc .own)).set j [I (nth r.Objs j).Id,.s .own (((nth r.Objs j).Cells.take b).map (rI .imm))])]:=by
   simp only[ax.enc,X4]
   rfl
  rw[D]at k |-;rw[e];refine fO 46 [(5,270,[30,31,32,33,34,35,36,37,38,39,40,41,43,44,0,1,2,3,4,5,6,7,8,9,10,11,12,1000,1001,1002,13,14,15])] Tryz.func359 rfl ?_ (.inr k)
  repeat'(first|refine gD ?_|(conv=>whnf);first|with_reducible (first|refine CA (aa d) ?_|refine CJ ω (aa d) ?_)|refine C9 ?_|refine C6 (w) ?_|refine C6 (p) ?_|refine C6 (q) ?_|refine CF rfl (aa d) rfl ?_|refine CS b rfl (by rw[W0];omega) (aO λ_=>rfl) R3 ?_|refine CR (λ_=>rfl) (λ_=>rfl) (by rw[I1];omega) (by decide) ?_|refine CL (λ_=>rfl) (λ_=>rfl) (by rw[I1];omega) (by decide) ?_|refine C9 ?_|refine CN rfl rfl (aa d) rfl (X0 rfl) rfl ?_)
  rfl
 have t:=key.fzR;rw[ee,CW]at t;exact t
theorem zW(r:ax)(id a v:Int)(m:Nat)(h:q8 r m)(l:m<=1000)(u:0<=v/\v<=999):∃b:Bool,ar Tryz.prog 357 false [.val (some 2) (ax.enc .imm r),.val none [I id],.val none [I a],.val none [I v]] (.tup [some 2,none]) (ax.enc .imm (eB r id a v)++[B b]):=by
 by_cases i:0<=nk r id
 ·by_cases d:0<=a/\a<=(nth r.Objs (nk r id).toNat).Cells.length - 1
  ·exact⟨true,wK r id a v m h l i d u⟩
  ·refine⟨false,?_⟩
   have c:=h.sml l;have o:=h.len;have n:=d9 r c;have k:=gH r id c.1;obtain⟨C,D,E⟩:=eU (lP id) r.Objs i;obtain⟨j,p⟩:=I2 i;have e:j<r.Objs.length:=by unfold nk at p;omega
   have q:=ah e;have w:(nth r.Objs j).Cells.length<=1048576:=c.2 _ (am e);have y:eB r id a v=r:=by unfold eB;rw[C7 (λx=>d x.2.1)]
   rw[p]at k d;simp only[C2]at d;have t:=aE a 0 (((nth r.Objs j).Cells.length:Nat) - 1:Int);rw[Q0 d]at t;rw[y];have key:ar Tryz.prog 357 false [.val (some 2) (ax.enc .imm r),.val none [I id],.val none [I a],.val none [I v]] (.tup [some 2,none]) (ax.enc .own r++[B false]):=by
    refine fO 48 [] Tryz.func357 rfl ?_ (.inr (lM r (B false) trivial))
    repeat'(first|refine gD ?_|(conv=>whnf);first|with_reducible refine CA (aa q) ?_|refine C9 ?_|refine C6 (n) ?_|refine C6 (k) ?_|refine C6 (t) ?_|refine CF rfl (aa q) rfl ?_)
    rfl
   have g:=key.fzR;rw[ee,CW]at g;exact g
 ·refine⟨false,?_⟩
  have c:=h.sml l;have n:=d9 r c;have k:=gH r id c.1;rw[show eB r id a v=r by unfold eB;rw[C7 (λx=>i x.1)]];have key:ar Tryz.prog 357 false [.val (some 2) (ax.enc .imm r),.val none [I id],.val none [I a],.val none [I v]] (.tup [some 2,none]) (ax.enc .own r++[B false]):=by
   refine fO 48 [] Tryz.func357 rfl ?_ (.inr (lM r (B false) trivial))
   repeat'(first|refine gD ?_|(conv=>whnf);first|refine C9 ?_|refine C6 (n) ?_|refine C6 (k) ?_)
   rfl
  have g:=key.fzR;rw[ee,CW]at g;exact g
theorem BE(r:ax)(id n:Int)(m:Nat)(g:q8 r m)(k:m<=1000):∃b:Bool,ar Tryz.prog 359 false [.val (some 2) (ax.enc .imm r),.val none [I id],.val none [I n]] (.tup [some 2,none]) (ax.enc .imm (fX r id n)++[B b]):=by
 by_cases h:0<=nk r id
 ·by_cases c:1<=n/\n<=(nth r.Objs (nk r id).toNat).Cells.length
  ·exact⟨true,zm r id n m g k h c⟩
  ·refine⟨false,?_⟩
   have a:=g.sml k;have o:=g.len;have l:=d9 r a;have i:=gH r id a.1;obtain⟨y,C,D⟩:=eU (lP id) r.Objs h;obtain⟨j,p⟩:=I2 h;have d:j<r.Objs.length:=by unfold nk at p;omega
   have q:=ah d;have u:(nth r.Objs j).Cells.length<=1048576:=a.2 _ (am d);have w:fX r id n=r:=by unfold fX;rw[C7 (λx=>c x.2)]
   rw[p]at i c;simp only[C2]at c;have t:=aE n 1 (((nth r.Objs j).Cells.length:Nat):Int);rw[Q0 c]at t;rw[w];have key:ar Tryz.prog 359 false [.val (some 2) (ax.enc .imm r),.val none [I id],.val none [I n]] (.tup [some 2,none]) (ax.enc .own r++[B false]):=by
    refine fO 46 [(5,270,[30,31,32,33,34,35,36,37,38,39,40,41,43,44,0,1,2,3,4,5,6,7,8,9,10,11,12,1000,1001,1002,13,14,15])] Tryz.func359 rfl ?_ (.inr (lM r (B false) trivial))
    repeat'(first|refine gD ?_|(conv=>whnf);first|with_reducible refine CA (aa q) ?_|refine C9 ?_|refine C6 (l) ?_|refine C6 (i) ?_|refine C6 (t) ?_|refine CF rfl (aa q) rfl ?_)
    rfl
   have e:=key.fzR;rw[ee,CW]at e;exact e
 ·refine⟨false,?_⟩
  have a:=g.sml k;have l:=d9 r a;have i:=gH r id a.1;rw[show fX r id n=r by unfold fX;rw[C7 (λx=>h x.1)]];have key:ar Tryz.prog 359 false [.val (some 2) (ax.enc .imm r),.val none [I id],.val none [I n]] (.tup [some 2,none]) (ax.enc .own r++[B false]):=by
   refine fO 46 [(5,270,[30,31,32,33,34,35,36,37,38,39,40,41,43,44,0,1,2,3,4,5,6,7,8,9,10,11,12,1000,1001,1002,13,14,15])] Tryz.func359 rfl ?_ (.inr (lM r (B false) trivial))
   repeat'(first|refine gD ?_|(conv=>whnf);first|refine C9 ?_|refine C6 (l) ?_|refine C6 (i) ?_)
   rfl
  have e:=key.fzR;rw[ee,CW]at e;exact e
structure gK where
 i:Nat
 h:Int
deriving Inhabited
def w64(x:Int):Int:=IntKind.i64.wrap x
def NE(h:Int):Int:=w64 (w64 (h*6364136223846793005)+1442695040888963407)
def N5(a b:Int):Int:=w64 ((BitVec.ofInt IntKind.i64.bits a ^^^ BitVec.ofInt IntKind.i64.bits b).toNat:Nat)
def and255(a:Int):Int:=w64 ((BitVec.ofInt IntKind.i64.bits a &&& BitVec.ofInt IntKind.i64.bits 255).toNat:Nat)
def Lc(h:Int)(n:Nat):Int:=h.fdiv (2 ^ (min n IntKind.i64.bits))
def yk(h:Int):Int:=and255 (N5 (Lc h 33) (Lc h 45))
theorem yh(a:Int):0<=and255 a/\and255 a<=255:=by
 have b:(BitVec.ofInt IntKind.i64.bits a &&& BitVec.ofInt IntKind.i64.bits 255).toNat<=255:=by
  rw[BitVec.toNat_and];exact t4 Nat.and_le_right (by decide)
 unfold and255 w64;rw[eA ω ω];omega
def df(zs:List Int)(c:gK):Int × gK:=if c.i<zs.length then(and255 (yk (NE c.h)+nth zs c.i),⟨c.i+1,NE c.h⟩) else(yk (NE c.h),⟨c.i,NE c.h⟩)
theorem qM(zs:List Int)(c:gK):0<=(df zs c).1/\(df zs c).1<=255:=by
 unfold df;split<;>exact yh _
theorem ib{zs:List Int}{c:gK}(h:c.i<=zs.length):(df zs c).2.i<=zs.length:=by
 unfold df;split
 ·simp only;omega
 ·exact h
def yb(zs:List Int)(c:gK):Int × gK:=
 ((df zs c).1*16777216+(df zs (df zs c).2).1*65536+(df zs (df zs (df zs c).2).2).1*256+(df zs (df zs (df zs (df zs c).2).2).2).1,(df zs (df zs (df zs (df zs c).2).2).2).2)
def bo(zs:List Int)(c:gK)(n:Int):Int × gK:=if n<=256 then((df zs c).1 % n,(df zs c).2) else((yb zs c).1 % n,(yb zs c).2)
theorem b8(zs:List Int)(c:gK){n:Int}(h:1<=n):0<=(bo zs c n).1/\(bo zs c n).1<n:=by
 unfold bo;split<;>exact⟨Int.emod_nonneg _ ω,Int.emod_lt_of_pos _ ω⟩
theorem bK{zs:List Int}{c:gK}(h:c.i<=zs.length)(n:Int):(bo zs c n).2.i<=zs.length:=by
 unfold bo;split
 ·exact ib h
 ·exact ib (ib (ib (ib h)))
def jJ(zs:List Int)(c:gK)(l:List Int):Int × gK:=(nth l (bo zs c (l.length:Nat)).1.toNat,(bo zs c (l.length:Nat)).2)
theorem nQ(zs:List Int)(c:gK){l:List Int}(h:1<=l.length):(jJ zs c l).1∈l:=by
 have:=b8 zs c (n:=(l.length:Nat)) ω;exact am ω
def mD(zs:List Int):Nat->Nat->List Int->gK->List Int × gK
 | 0,_,out,c=>(out,(bo zs c 4).2)
 | f+1,i,out,c=>if(i:Int)<(bo zs c 4).1 then mD zs f (i+1) (out++[(bo zs (bo zs c 4).2 12).1]) (bo zs (bo zs c 4).2 12).2 else(out,(bo zs c 4).2)
def M5(zs:List Int)(c:gK):List Int × gK:=mD zs 4 0 [] c
theorem FC(zs:List Int):∀(f i:Nat)(out:List Int)(c:gK),(∀x∈out,0<=x)->out.length+f<=4->c.i<=zs.length->(∀x∈(mD zs f i out c).1,0<=x)/\(mD zs f i out c).1.length<=4/\(mD zs f i out c).2.i<=zs.length
 | 0,_,out,c,b,e,d=>⟨b,by show out.length<=4;omega,bK d _⟩
 | f+1,i,out,c,b,e,d=>by
  unfold mD;split
  ·refine FC zs f (i+1) _ _ (λx a=>?_) (by simp only[U2,List.length_singleton];omega) (bK (bK d _) _)
   rcases O2.1 a with a|a
   ·exact b x a
   ·rw[Z0.1 a];exact(b8 zs _ (by decide)).1
  ·exact⟨b,by show out.length<=4;omega,bK d _⟩
def xp(zs:List Int)(c:gK):Int × gK:=bo zs c 7
def BC(zs:List Int)(c:gK):Int × gK:=bo zs (xp zs c).2 3
def D7(zs:List Int)(c:gK):Int × gK:=bo zs (BC zs c).2 100
def yC(zs:List Int)(c:gK):Int × gK:=bo zs (D7 zs c).2 4
def MN(zs:List Int)(c:gK):List Int × gK:=M5 zs (yC zs c).2
def oQ(zs:List Int)(c:gK):cy:=⟨(6+(xp zs c).1).toNat,(6+(xp zs c).1 - (yC zs c).1).toNat,(1+(BC zs c).1).toNat,40+(D7 zs c).1,(MN zs c).1⟩
theorem qO{zs:List Int}{c:gK}(h:c.i<=zs.length):Ep (oQ zs c)/\(MN zs c).2.i<=zs.length:=by
 have a:=b8 zs c (n:=7) (by decide);have b:=b8 zs (xp zs c).2 (n:=3) (by decide);have d:=b8 zs (BC zs c).2 (n:=100) (by decide);have e:=b8 zs (D7 zs c).2 (n:=4) (by decide);change 0<=(xp zs c).1/\(xp zs c).1<7 at a;change 0<=(BC zs c).1/\(BC zs c).1<3 at b;change 0<=(D7 zs c).1/\(D7 zs c).1<100 at d;change 0<=(yC zs c).1/\(yC zs c).1<4 at e;obtain⟨f,k,g⟩:=FC zs 4 0 [] (yC zs c).2 (λx j=>by cases j) (by simp) (bK (bK (bK (bK h _) _) _) _);refine⟨⟨?_,?_,?_,?_,?_⟩,g⟩
 ·show 1<=(6+(xp zs c).1).toNat/\(6+(xp zs c).1).toNat<=32;omega
 ·show 1<=(6+(xp zs c).1 - (yC zs c).1).toNat/\(6+(xp zs c).1 - (yC zs c).1).toNat<=32;omega
 ·show 1<=(1+(BC zs c).1).toNat/\(1+(BC zs c).1).toNat<=4;omega
 ·show 0<=40+(D7 zs c).1/\40+(D7 zs c).1<=1000;omega
 ·exact⟨by show(mD zs 4 0 [] (yC zs c).2).1.length<=40;omega,f⟩
def xH(zs:List Int)(c:gK):Int × gK:=bo zs c 3
def D4(zs:List Int)(c:gK)(ids:Int):Int × gK:=bo zs (xH zs c).2 ids
def jD(zs:List Int)(c:gK)(ids:Int):Int × gK:=bo zs (D4 zs c ids).2 20
def szs:List Int:=[1,1,2,2,3,4,4,5,8,9,20]
def qz(zs:List Int)(c:gK)(ids:Int):dL × gK:=
 if(jD zs c ids).1<=6 then(⟨1,(xH zs c).1,(jJ zs (jD zs c ids).2 szs).1,0,0⟩,(jJ zs (jD zs c ids).2 szs).2)
 else if(jD zs c ids).1<=9 then(⟨2,(xH zs c).1,1+(D4 zs c ids).1,0,0⟩,(jD zs c ids).2)
 else if(jD zs c ids).1<=12 then(⟨3,(xH zs c).1,1+(D4 zs c ids).1,(bo zs (jD zs c ids).2 4).1,1+(bo zs (bo zs (jD zs c ids).2 4).2 999).1⟩,(bo zs (bo zs (jD zs c ids).2 4).2 999).2)
 else if(jD zs c ids).1=13 then(⟨4,(xH zs c).1,1+(D4 zs c ids).1,0,9+(bo zs (jD zs c ids).2 10).1⟩,(bo zs (jD zs c ids).2 10).2)
 else if(jD zs c ids).1=14 then(⟨(jJ zs (jD zs c ids).2 [5,6]).1,(xH zs c).1,1+(D4 zs c ids).1,0,0⟩,(jJ zs (jD zs c ids).2 [5,6]).2)
 else if(jD zs c ids).1=15 then(⟨7,(xH zs c).1,1+(D4 zs c ids).1,0,0⟩,(jD zs c ids).2)
 else if(jD zs c ids).1=16 then(⟨8,(xH zs c).1,(jJ zs (jD zs c ids).2 [1,30,60,120]).1,0,0⟩,(jJ zs (jD zs c ids).2 [1,30,60,120]).2)
 else if(jD zs c ids).1=17 then(⟨9,(xH zs c).1,1+(D4 zs c ids).1,0,0⟩,(jD zs c ids).2)
 else(⟨10,(xH zs c).1,(jJ zs (jD zs c ids).2 [1,2,3,10,30]).1,0,0⟩,(jJ zs (jD zs c ids).2 [1,2,3,10,30]).2)
structure K4(a:dL):Prop where
 k:1<=a.Kind/\a.Kind<=10
 t:0<=a.Thread/\a.Thread<=1000000
 n:0<=a.N/\a.N<=1000000
 p:0<=a.At/\a.At<=1000000
 v:0<=a.Value/\a.Value<=1000000
theorem K2{zs:List Int}{c:gK}{ids:Int}(h:c.i<=zs.length)(b:1<=ids/\ids<=1000):K4 (qz zs c ids).1/\(qz zs c ids).2.i<=zs.length:=by
 have d:=b8 zs c (n:=3) (by decide);have e:=b8 zs (xH zs c).2 (n:=ids) b.1;change 0<=(xH zs c).1/\(xH zs c).1<3 at d;change 0<=(D4 zs c ids).1/\(D4 zs c ids).1<ids at e;have a:(jD zs c ids).2.i<=zs.length:=bK (bK (bK h _) _) _;have f:=nQ zs (jD zs c ids).2 (l:=szs) (by decide);have g:=nQ zs (jD zs c ids).2 (l:=[5,6]) (by decide);have j:=nQ zs (jD zs c ids).2 (l:=[1,30,60,120]) (by decide);have k:=nQ zs (jD zs c ids).2 (l:=[1,2,3,10,30]) (by decide);have o:=b8 zs (jD zs c ids).2 (n:=4) (by decide);have p:=b8 zs (bo zs (jD zs c ids).2 4).2 (n:=999) (by decide);have q:=b8 zs (jD zs c ids).2 (n:=10) (by decide);simp only[szs,List.mem_cons,List.not_mem_nil,or_false]at f g j k;unfold qz
 repeat' split
 ·exact⟨⟨by simp only;omega,by simp only;omega,by simp only[szs];omega,by simp only;omega,by simp only;omega⟩,bK a _⟩
 ·exact⟨⟨by simp only;omega,by simp only;omega,by simp only;omega,by simp only;omega,by simp only;omega⟩,a⟩
 ·exact⟨⟨by simp only;omega,by simp only;omega,by simp only;omega,by simp only;omega,by simp only;omega⟩,bK (bK a _) _⟩
 ·exact⟨⟨by simp only;omega,by simp only;omega,by simp only;omega,by simp only;omega,by simp only;omega⟩,bK a _⟩
 ·exact⟨⟨by simp only;omega,by simp only;omega,by simp only;omega,by simp only;omega,by simp only;omega⟩,bK a _⟩
 ·exact⟨⟨by simp only;omega,by simp only;omega,by simp only;omega,by simp only;omega,by simp only;omega⟩,a⟩
 ·exact⟨⟨by simp only;omega,by simp only;omega,by simp only;omega,by simp only;omega,by simp only;omega⟩,bK a _⟩
 ·exact⟨⟨by simp only;omega,by simp only;omega,by simp only;omega,by simp only;omega,by simp only;omega⟩,a⟩
 ·exact⟨⟨by simp only;omega,by simp only;omega,by simp only;omega,by simp only;omega,by simp only;omega⟩,bK a _⟩
def kg(zs:List Int)(c:gK):Nat->List dL × gK
 | 0=>([],(bo zs c 41).2)
 | i+1=>((kg zs c i).1++[(qz zs (kg zs c i).2 (1+(i:Int) / 2)).1],(qz zs (kg zs c i).2 (1+(i:Int) / 2)).2)
def mr(zs:List Int)(c:gK):List dL × gK:=kg zs c (bo zs c 41).1.toNat
theorem qk{zs:List Int}{c:gK}(h:c.i<=zs.length):∀{n:Nat},n<=100->(kg zs c n).1.length=n/\(∀a∈(kg zs c n).1,K4 a)/\(kg zs c n).2.i<=zs.length
 | 0,_=>⟨rfl,λa b=>(by cases b),bK h _⟩
 | n+1,k=>by
  obtain⟨d,e,f⟩:=qk h (n:=n) ω;obtain⟨g,j⟩:=K2 (ids:=1+(n:Int) / 2) f ω;refine⟨by simp only[kg,U2,List.length_singleton,d],λa b=>?_,j⟩;rcases O2.1 b with b|b
  ·exact e a b
  ·rw[Z0.1 b];exact g
def oy(zs:List Int):Nat->Int
 | 0=>w64 (98801+(zs.length:Nat))
 | i+1=>w64 ((BitVec.ofInt IntKind.i64.bits (w64 (w64 (w64 (oy zs i*131)+nth zs i)+7)) &&& BitVec.ofInt IntKind.i64.bits 1073741823).toNat:Nat)
def rK(zs:List Int):gK:=⟨0,oy zs (min zs.length 4000)⟩
def eL(zs:List Int):gK:=(MN zs (rK zs)).2
def drawn(zs:List Int):bF:=(Ak (oQ zs (rK zs)) (mr zs (eL zs)).1 (mr zs (eL zs)).1.length).1
theorem B6(zs:List Int):qS (drawn zs) 40:=by
 have a:(rK zs).i<=zs.length:=R0 _;obtain⟨b,d⟩:=qO a;have f:=b8 zs (eL zs) (n:=41) (by decide);obtain⟨e,-,-⟩:=qk (zs:=zs) (c:=eL zs) d (n:=(bo zs (eL zs) 41).1.toNat) ω;refine(vt b _ _).more ?_;show(kg zs (eL zs) _).1.length<=40;rw[e];omega
def rU(z:Int):List C:=[.v (.int .u8 z)]
def gG(zs:List Int)(c:gK):List C:=[.s .imm (zs.map rU),I (c.i:Nat),I c.h]
def i6(zs:List Int):Prop:=zs.length<=1048576/\∀z∈zs,0<=z/\z<=255
theorem jm(zs:List Int)(c:gK)(e:i6 zs)(w:c.i<=zs.length):aS Tryz.prog 185 false [.ptr (gG zs c)] [.ptr (gG zs (df zs c).2)] .one [I (df zs c).1]:=by
 have g:IntKind.i64.wrap (c.h*6364136223846793005)=w64 (c.h*6364136223846793005):=rfl;have b:IntKind.i64.wrap (w64 (c.h*6364136223846793005)+1442695040888963407)=NE c.h:=rfl;have o:=e.1;generalize p:NE c.h=H at b;have j:H.fdiv (2 ^ (min (33:Int).toNat IntKind.i64.bits))=Lc H 33:=rfl;have k:H.fdiv (2 ^ (min (45:Int).toNat IntKind.i64.bits))=Lc H 45:=rfl;have l:IntKind.i64.wrap (BitVec.ofInt IntKind.i64.bits (Lc H 33) ^^^ BitVec.ofInt IntKind.i64.bits (Lc H 45)).toNat=N5 (Lc H 33) (Lc H 45):=rfl;have d:IntKind.i64.wrap (BitVec.ofInt IntKind.i64.bits (N5 (Lc H 33) (Lc H 45)) &&& BitVec.ofInt IntKind.i64.bits 255).toNat=yk H:=rfl;have r:0<=yk H/\yk H<=255:=yh _;unfold df;rw[p];generalize yk H=y at d r |-;refine fM 58 [] [(2,10,[13,14,15,16,17,18,19,20,21,22]),(3,9,[25,26,27,28,29,30,31,32,33]),(4,12,[35,36,37,38,39,40,41,42,43,44,45,46])] [(0,0)] Tryz.func185 rfl (λu q=>?_);by_cases a:c.i<zs.length
 ·rw[C8 a]
  have n:=ah a;have B:=e.2 _ (am a);have t:IntKind.i64.wrap (BitVec.ofInt IntKind.i64.bits (y+nth zs c.i) &&& BitVec.ofInt IntKind.i64.bits 255).toNat=and255 (y+nth zs c.i):=rfl
  repeat'(first|refine gD ?_|(conv=>whnf);first|with_reducible (first|refine CI g ?_|refine CI b ?_|refine CI l ?_|refine CI d ?_|refine CI t ?_|refine CA (aa n) ?_|refine CK (by decide) ?_|refine CM j ?_|refine CM k ?_)|refine CF rfl (aa n) rfl ?_|refine C9 ?_)
  refine CD rfl rfl ?_;exact wB
 ·rw[C7 a]
  repeat'(first|refine gD ?_|(conv=>whnf);first|with_reducible (first|refine CI g ?_|refine CI b ?_|refine CI l ?_|refine CI d ?_|refine CK (by decide) ?_|refine CM j ?_|refine CM k ?_)|refine C9 ?_)
  refine CD rfl rfl ?_;exact wB
theorem bH(zs:List Int)(c:gK)(n:Int)(b:i6 zs)(d:c.i<=zs.length)(p:1<=n):aS Tryz.prog 92 false [.ptr (gG zs c),.val none [I n]] [.ptr (gG zs (bo zs c n).2),.val none [I n]] .one [I (bo zs c n).1]:=by
 have j:=qM zs c;have g:=jm zs c b d;unfold bo;refine fM 37 [(185,[2])] [] [(0,0),(0,0)] Tryz.func92 rfl (λu q=>?_);by_cases h:n<=256
 ·rw[C8 h]
  have a:(df zs c).1.tmod n=(df zs c).1 % n:=Int.tmod_eq_emod_of_nonneg j.1
  repeat'(first|refine gD ?_|(conv=>whnf);first|with_reducible (first|refine CM a ?_|refine Bf.D (λe=>?_) (λe=>?_))|refine CG (g) (.inl rfl) ?_|refine CK ω ?_)
  refine CD rfl rfl ?_;exact wB
 ·rw[C7 h]
  have r:=qM zs (df zs c).2;have t:=qM zs (df zs (df zs c).2).2;have w:=qM zs (df zs (df zs (df zs c).2).2).2;have k:=jm zs (df zs c).2 b (ib d);have l:=jm zs (df zs (df zs c).2).2 b (ib (ib d));have o:=jm zs (df zs (df zs (df zs c).2).2).2 b (ib (ib (ib d)));have a:(yb zs c).1.tmod n=(yb zs c).1 % n:=Int.tmod_eq_emod_of_nonneg (by unfold yb;simp only;omega);unfold yb at a |-;simp only at a
  repeat'(first|refine gD ?_|(conv=>whnf);first|with_reducible (first|refine CM a ?_|refine Bf.D (λe=>?_) (λe=>?_))|refine CG (g) (.inl rfl) ?_|refine CG (k) (.inl rfl) ?_|refine CG (l) (.inl rfl) ?_|refine CG (o) (.inl rfl) ?_|refine CK ω ?_)
  refine CD rfl rfl ?_;exact wB
theorem HE(zs:List Int)(c:gK)(l:List Int)(b:i6 zs)(d:c.i<=zs.length)(g:1<=l.length/\l.length<=1000):aS Tryz.prog 310 false [.ptr (gG zs c),.val none (aD .imm l)] [.ptr (gG zs (jJ zs c l).2),.val none (aD .imm l)] .one [I (jJ zs c l).1]:=by
 have e:=bH zs c (l.length:Nat) b d ω;have h:=b8 zs c (n:=(l.length:Nat)) ω;have a:=ah (xs:=l) (i:=(bo zs c (l.length:Nat)).1.toNat) ω;unfold jJ;refine fM 12 [(92,[2,0])] [] [(0,0),(0,0)] Tryz.func310 rfl (λu q=>?_)
 repeat'(first|refine gO ?_|(conv=>whnf);first|with_reducible refine CJ ω (aa a) ?_|refine CG (e) (.inl rfl) ?_|refine CF rfl (aa a) rfl ?_)
 refine CD rfl rfl ?_;exact wC
theorem hJ(zs:List Int)(c:gK)(l:List Int)(b:i6 zs)(d:c.i<=zs.length)(g:1<=l.length/\l.length<=1000):aS Tryz.prog 310 false [.ptr (gG zs c),.mut none (aD .own l)] [.ptr (gG zs (jJ zs c l).2),.mut none (aD .own l)] .one [I (jJ zs c l).1]:=by
 have e:=bH zs c (l.length:Nat) b d ω;have h:=b8 zs c (n:=(l.length:Nat)) ω;have a:=ah (xs:=l) (i:=(bo zs c (l.length:Nat)).1.toNat) ω;unfold jJ;refine fM 12 [(92,[2,0])] [] [(0,0),(1,0)] Tryz.func310 rfl (λu q=>?_)
 repeat'(first|refine gO ?_|(conv=>whnf);first|with_reducible refine CJ ω (aa a) ?_|refine CG (e) (.inl rfl) ?_|refine CF rfl (aa a) rfl ?_)
 refine CD rfl rfl ?_;exact wC
theorem Gp(zs:List Int):∀(f i:Nat)(out:List Int)(c:gK),(bo zs c 4).1<=i->mD zs f i out c=(out,(bo zs c 4).2)
 | 0,_,_,_,_=>rfl
 | f+1,i,out,c,h=>by unfold mD;rw[C7 ω]
theorem LO(zs:List Int)(f i:Nat)(out:List Int)(c:gK)(h:(i:Int)<(bo zs c 4).1):mD zs (f+1) i out c=mD zs f (i+1) (out++[(bo zs (bo zs c 4).2 12).1]) (bo zs (bo zs c 4).2 12).2:=by
 show(if _ then _ else _)=_;rw[C8 h]
structure Rq where
 i:Nat
 out:List Int
 c:gK
theorem vN(zs:List Int)(c:gK)(e:i6 zs)(j:c.i<=zs.length):aS Tryz.prog 242 false [.ptr (gG zs c)] [.ptr (gG zs (M5 zs c).2)] .one (aD .own (M5 zs c).1):=by
 refine fM 18 [(92,[2,0])] [] [(0,0)] Tryz.func242 rfl (λu q=>?_) (.inr (bI _))
 repeat'(first|refine gO ?_|fail)
 (conv=>whnf)
 refine CC (ι:=Rq) (λx=>[(0,.hold .box (gG zs x.c)),(3,.hold .one (aD .own x.out)),(4,.hold .one [I ((x.i:Nat):Int)])]) (λx=>(x.i<=4/\x.out.length<=x.i/\x.c.i<=zs.length)/\mD zs (4 - x.i) x.i x.out x.c=M5 zs c) (λx=>4 - x.i) (⟨0,[],c⟩) ?_ (⟨⟨R0 _,R0 _,j⟩,rfl⟩) λx k=>?_
 ·exact wC
 obtain⟨i,out,d⟩:=x;obtain⟨⟨l,o,b⟩,a⟩:=k;simp only at l o b a |-;have B:=b8 zs d (n:=4) (by decide);have g:=bH zs d 4 e b (by decide);have h:=bK b 4;have p:=bH zs (bo zs d 4).2 12 e h (by decide);have t:=bK h 12;by_cases w:(i:Int)<(bo zs d 4).1
 ·rw[show 4 - i=(4 - (i+1))+1 by omega,LO zs _ _ _ _ w]at a
  repeat'(first|refine gD ?_|(conv=>whnf);first|refine CG (g) (.inl rfl) ?_|refine CG (p) (.inl rfl) ?_|refine CQ cq (λr y=>by rw[Z0.1 y];rfl) (by simp[aW,dz]) (by simp;omega) (by simp only[W0];exact wY (by simp;omega) (by decide)) rfl ?_)
  ((conv=>whnf);refine CB ⟨i+1,out++[(bo zs (bo zs d 4).2 12).1],(bo zs (bo zs d 4).2 12).2⟩ ⟨⟨by simp only;omega,by simp only[U2,List.length_singleton];omega,t⟩,a⟩ (by simp only;omega) ?_)
  repeat'(first|exact trivial|rfl| exact dv _ |exact CH rfl (CH (T0 (C.s dy.own) (by simp[rI])) trivial)|refine CH ?_ ?_|(exact yD (by first|omega|(simp only;omega)|(simp;omega))))
 ·rw[Gp zs _ _ _ _ ω]at a
  rw[<-a]
  repeat'(first|refine gD ?_|(conv=>whnf);first|refine CG (g) (.inl rfl) ?_)
  refine CD rfl rfl ?_;exact wC
def cy.enc(o:dy)(c:cy):List C:=[I (c.Pages:Nat),I (c.Frames:Nat),I (c.Threads:Nat),I c.Limit,.s o (c.Refuse.map (rI o))]
theorem cy.enc_fz(c:cy):dw (cy.enc .own c)=cy.enc .imm c:=by simp[dw,cy.enc,rI,<-bY,U4]
theorem cy.enc_fr(c:cy):gh (cy.enc .own c):=⟨trivial,trivial,trivial,trivial,⟨.inl λh=>(by cases h),bc _ _ λy _=>oB y⟩,trivial⟩
theorem ve(zs:List Int)(c:gK)(a:i6 zs)(h:c.i<=zs.length):aS Tryz.prog 150 false [.ptr (gG zs c)] [.ptr (gG zs (MN zs c).2)] .agg (cy.enc .own (oQ zs c)):=by
 have j:=bK h 7;have k:=bK j 3;have l:=bK k 100;have y:=bK l 4;have b:=bH zs c 7 a h (by decide);have d:=bH zs (xp zs c).2 3 a j (by decide);have e:=bH zs (BC zs c).2 100 a k (by decide);have g:=bH zs (D7 zs c).2 4 a l (by decide);have o:=vN zs (yC zs c).2 a y;have p:=b8 zs c (n:=7) (by decide);have r:=b8 zs (xp zs c).2 (n:=3) (by decide);have B:=b8 zs (BC zs c).2 (n:=100) (by decide);have t:=b8 zs (D7 zs c).2 (n:=4) (by decide);have w:=cy.enc_fr (oQ zs c);have C:cy.enc .own (oQ zs c)=[I (6+(xp zs c).1),I (6+(xp zs c).1 - (yC zs c).1),I (1+(BC zs c).1),I (40+(D7 zs c).1),.s .own ((MN zs c).1.map (rI .own))]:=by
  have D:0<=(xp zs c).1/\(xp zs c).1<7:=p;have E:0<=(BC zs c).1/\(BC zs c).1<3:=r;have F:0<=(yC zs c).1/\(yC zs c).1<4:=t;unfold cy.enc oQ;simp only;rw[Int.toNat_of_nonneg ω,Int.toNat_of_nonneg ω,Int.toNat_of_nonneg ω]
 rw[C]at w |-;change aS _ _ _ _ [.ptr (gG zs (xp zs c).2),_] _ _ at b;change aS _ _ _ _ [.ptr (gG zs (BC zs c).2),_] _ _ at d;change aS _ _ _ _ [.ptr (gG zs (D7 zs c).2),_] _ _ at e;change aS _ _ _ _ [.ptr (gG zs (yC zs c).2),_] _ _ at g;change aS _ _ _ _ [.ptr (gG zs (MN zs c).2)] _ (aD .own (MN zs c).1) at o;change aS _ _ _ _ _ _ [I (xp zs c).1]at b;change aS _ _ _ _ _ _ [I (BC zs c).1]at d;change aS _ _ _ _ _ _ [I (D7 zs c).1]at e;change aS _ _ _ _ _ _ [I (yC zs c).1]at g;change 0<=(xp zs c).1/\(xp zs c).1<7 at p;change 0<=(BC zs c).1/\(BC zs c).1<3 at r;change 0<=(D7 zs c).1/\(D7 zs c).1<100 at B;change 0<=(yC zs c).1/\(yC zs c).1<4 at t;generalize MN zs c=r5 at *;generalize yC zs c=r4 at *;generalize D7 zs c=r3 at *;generalize BC zs c=r2 at *;generalize xp zs c=r1 at *;refine fM 24 [(92,[2,0]),(242,[2])] [(2,65536,[])] [(0,0)] Tryz.func150 rfl (λu q=>?_) (.inr w)
 repeat'(first|refine gO ?_|(conv=>whnf);first|refine CG (b) (.inl rfl) ?_|refine CG (d) (.inl rfl) ?_|refine CG (e) (.inl rfl) ?_|refine CG (g) (.inl rfl) ?_|refine CG (o) (.inl rfl) ?_|refine CH ?_ ?_)
 all_goals
  refine CD rfl rfl ?_;exact wC
theorem uv(n:Nat)(e:1<=n/\n<=32):ar Tryz.prog 400 false [.val none [I (n:Nat)]] (.tup [some 2,none]) (aV.enc .own (fh n)++[B true]):=by
 have c:=aE ((n:Nat):Int) 1 32;rw[O0 ω]at c;have a:=aP (b:=[B true]) (aV.enc_fr (fh n)) ⟨trivial,trivial⟩;rw[show aV.enc .own (fh n)=_ from D8 n n]at a |-;refine fO 28 [(7,4,[16,17,18,19])] Tryz.func400 rfl ?_ (.inr a)
 repeat'(first|refine gO ?_|(conv=>whnf);first|refine C9 ?_|refine C6 (c) ?_)
 (conv=>whnf)
 refine CC (ι:=Nat) (λk=>[(0,.hold .one [I ((n:Nat))]),(2,.hold .box [.z,.z]),(4,.hold .box [.s .own (List.replicate k [.s .own (List.replicate 16 [I 0])]),.s .own (List.replicate k [B false])]),(5,.hold .one [I ((k:Nat):Int)])]) (λk=>k<=n) (λk=>n - k) (0) ?_ (R0 _) λk g=>?_
 ·exact wB
 by_cases h:k<n
 ·repeat'(first|refine gD ?_|(conv=>whnf);first|refine C9 ?_|refine Mk.mk 16 rfl rfl (by decide) (by decide) rfl ?_|refine Ap.sn (λr d=>by rw[(List.mem_replicate.1 d).2];rfl) rfl (by simp;omega) (by decide) (BH _ k) ?_)
  ((conv=>whnf);refine CB (k+1) ω ω ?_;(exact wB))
 ·obtain rfl:k=n:=ω
  repeat'(first|refine gD ?_|(conv=>whnf);first|refine C9 ?_)
  rfl
theorem wI(n:Nat)(e:1<=n/\n<=32):ar Tryz.prog 401 false [.val none [I (n:Nat)]] (.tup [some 1,none]) (aG.enc .own (dG n)++[B true]):=by
 have c:=aE ((n:Nat):Int) 1 32;rw[O0 ω]at c;have a:=aP (b:=[B true]) (aG.enc_fr (dG n)) ⟨trivial,trivial⟩;have d:aG.enc .own (dG n)=[.s .own (List.replicate n [I 0,I 0])]:=by simp[aG.enc,dG,aZ.enc,List.map_replicate]
 rw[d]at a |-;refine fO 11 [] Tryz.func401 rfl ?_ (.inr a)
 repeat'(first|refine gO ?_|(conv=>whnf);first|refine C9 ?_|refine C6 (c) ?_|refine Mk.mk n rfl rfl ω (wY ω (by decide)) rfl ?_)
 rfl
theorem ta(p f:Nat)(a:1<=p/\p<=32)(b:1<=f/\f<=32):ar Tryz.prog 378 false [.val none [I (p:Nat)],.val none [I (f:Nat)]] (.tup [some 3,none]) (aJ.enc .own ⟨fh f,dG p⟩++[B true]):=by
 refine fO 30 [] Tryz.func378 rfl ?_ (.inr (aP (aJ.enc_fr _) ⟨trivial,trivial⟩))
 repeat'(first|refine gO ?_|(conv=>whnf);first|refine C9 ?_|refine C6 (uv f b) ?_|refine C6 (wI p a) ?_)
 rfl
theorem uZ(p f:Nat)(a:List Int)(b:1<=p/\p<=32)(c:1<=f/\f<=32)(d:a.length<=40/\∀x∈a,0<=x):ar Tryz.prog 350 false [.val none [I (p:Nat)],.val none [I (f:Nat)],.val none (aD .imm a)] (.tup [some 5,none]) (af.enc .own (b9 p f a)++[B true]):=by
 have e:=oJ b c d;have h:=d.1;have g:=kz (b9 p f a) (b6 e);rw[e]at g;refine fO 31 [(2,260,[17,18,19,10,0,1,2,5,3,1000,1005,4,1005,6])] Tryz.func350 rfl ?_ (.inr (aP (af.enc_fr _) ⟨trivial,trivial⟩))
 repeat'(first|refine gO ?_|(conv=>whnf);first|refine C9 ?_|refine C6 (ta p f b c) ?_|refine CE (g) ⟨⟨rfl,CP (b9 p f a)⟩,trivial⟩ ?_|refine CL (λ_=>rfl) (λ_=>rfl) ω (by decide) ?_|refine CR (λ_=>rfl) (λ_=>rfl) ω (by decide) ?_|refine C9 ?_)
 rfl
def NN(p f t:Nat)(lim:Int)(a:List Int)(k:Nat):ab:={caps (tP p f t lim a) k with Quar:=⟨0,[]⟩}
theorem zk(p f t:Nat)(lim:Int)(a:List Int)(c:1<=p/\p<=32)(d:1<=f/\f<=32)(e:1<=t/\t<=4)(g:0<=lim/\lim<=1000)(h:a.length<=40/\∀x∈a,0<=x):ar Tryz.prog 299 false [.val none [I (p:Nat)],.val none [I (f:Nat)],.val none [I (t:Nat)],.val none [I lim],.val none (aD .imm a)] (.tup [some 24,none]) (ab.enc .own (tP p f t lim a)++[B true]):=by
 have b:=aE lim 0 1000;rw[O0 g]at b;refine fO 66 [(9,4,[54,55,56,57])] Tryz.func299 rfl ?_ (.inr (aP (ab.enc_fr _) ⟨trivial,trivial⟩))
 repeat'(first|refine gO ?_|(conv=>whnf);first|refine C9 ?_|refine C6 (uZ p f a c d h) ?_|refine C6 (zI t e) ?_|refine C6 (b) ?_|refine C6 (qe) ?_)
 (conv=>whnf)
 refine CC (ι:=Nat) (λk=>[(2,.hold .one [I ((t:Nat))]),(10,.hold .box [.z,.z,.z,I 0,.z,.z,.z,.z,.z,.z,.z,.z,I 0,.z,I 0,I 0,I 0,I 0,B false,I 0,I 0,.z,I 0,I 0]),(16,.hold .box (ab.enc .own (NN p f t lim a k))),(17,.hold .one [I ((k:Nat):Int)])]) (λk=>k<=t) (λk=>t - k) (0) ?_ (R0 _) λk i=>?_
 ·exact wB
 by_cases j:k<t
 ·repeat'(first|refine gD ?_|(conv=>whnf);first|refine C9 ?_|refine C6 (wG) ?_|refine Ap.sn KO rfl (by rw[W0];show(List.replicate _ ek).length+1<=_;rw[v3];omega) (by decide) (Hu k) ?_)
  ((conv=>whnf);refine CB (k+1) ω ω ?_;(exact wB))
 ·obtain rfl:k=t:=ω
  repeat'(first|refine gD ?_|(conv=>whnf);first|refine C9 ?_|refine C6 (qe) ?_)
  rfl
theorem Bx:ar Tryz.prog 300 false [] .agg (ax.enc .own ⟨1,[]⟩):=by
 refine fO 2 [] Tryz.func300 rfl ?_ (.inr (ax.enc_fr _))
 repeat'((conv=>whnf);first|with_reducible (first|refine Lm ?_|refine Wm ω ?_|refine Bn ?_|refine jc.wk rfl ?_)|refine Bt ?_|refine Bu ?_|refine C9 ?_)
 exact⟨rfl,rfl,trivial⟩
theorem xj(c:cy)(h:Ep c):ar Tryz.prog 239 false [.val (some 5) (cy.enc .imm c)] (.tup [some 26,none]) (bF.enc .own (world0 c)++[B true]):=by
 have a:=zk c.Pages c.Frames c.Threads c.Limit c.Refuse h.p h.f h.t h.l h.r;refine fO 26 [(4,2,[23,24])] Tryz.func239 rfl ?_ (.inr (aP (bF.enc_fr _) ⟨trivial,trivial⟩))
 repeat'(first|refine gO ?_|(conv=>whnf);first|refine C9 ?_|refine C6 (a) ?_|refine C6 (Bx) ?_)
 rfl
def mK(o:dy)(l:List dL):List C:=[.s o (l.map (dL.enc o))]
theorem dL.enc_fr(x:dL):gh (dL.enc .own x):=⟨trivial,trivial,trivial,trivial,trivial,trivial⟩
theorem Hi(l:List dL):gh (mK .own l):=⟨⟨.inl λh=>(by cases h),bc _ _ λy _=>dL.enc_fr y⟩,trivial⟩
theorem Ho(l:List dL):dw (mK .own l)=mK .imm l:=by simp[dw,mK,dL.enc,<-bY,U4]
theorem AR(zs:List Int)(c:gK)(ids:Int)(b:i6 zs)(p:c.i<=zs.length)(r:1<=ids/\ids<=1000):aS Tryz.prog 243 false [.ptr (gG zs c),.val none [I ids]] [.ptr (gG zs (qz zs c ids).2),.val none [I ids]] .agg (dL.enc .own (qz zs c ids).1):=by
 have w:=bK p 3;have y:=bK w ids;have d:(jD zs c ids).2.i<=zs.length:=bK y 20;have B:=bH zs c 3 b p (by decide);have C:=bH zs (xH zs c).2 ids b w r.1;have j:=bH zs (D4 zs c ids).2 20 b y (by decide);have H:=b8 zs c (n:=3) (by decide);have J:=b8 zs (xH zs c).2 (n:=ids) r.1;have D:=b8 zs (D4 zs c ids).2 (n:=20) (by decide);have e:=hJ zs (jD zs c ids).2 szs b d (by decide);have E:=hJ zs (jD zs c ids).2 [5,6] b d (by decide);have F:=hJ zs (jD zs c ids).2 [1,30,60,120] b d (by decide);have l:=hJ zs (jD zs c ids).2 [1,2,3,10,30] b d (by decide);have g:=bH zs (jD zs c ids).2 4 b d (by decide);have h:=bH zs (bo zs (jD zs c ids).2 4).2 999 b (bK d _) (by decide);have G:=bH zs (jD zs c ids).2 10 b d (by decide);have K:=b8 zs (bo zs (jD zs c ids).2 4).2 (n:=999) (by decide);have L:=b8 zs (jD zs c ids).2 (n:=10) (by decide);change aS _ _ _ _ [.ptr (gG zs (xH zs c).2),_] _ [I (xH zs c).1]at B;change aS _ _ _ _ [.ptr (gG zs (D4 zs c ids).2),_] _ [I (D4 zs c ids).1]at C;change aS _ _ _ _ [.ptr (gG zs (jD zs c ids).2),_] _ [I (jD zs c ids).1]at j;change 0<=(xH zs c).1/\(xH zs c).1<3 at H;change 0<=(D4 zs c ids).1/\(D4 zs c ids).1<ids at J;change 0<=(jD zs c ids).1/\(jD zs c ids).1<20 at D;have o:=dL.enc_fr (qz zs c ids).1;unfold qz at o |-;generalize jD zs c ids=k at *;generalize D4 zs c ids=n at *;generalize xH zs c=t at *;obtain⟨a,M⟩:=k;dsimp only at d e E F l g h G K L D j o |-;refine fM 77 [(92,[2,0]),(310,[2,1])] [] [(0,0),(0,0)] Tryz.func243 rfl (λu q=>?_) (.inr o)
 repeat'(first|refine gO ?_|(conv=>whnf);first|refine CG (B) (.inl rfl) ?_|refine CG (C) (.inl rfl) ?_|refine CG (j) (.inl rfl) ?_)
 obtain rfl|rfl|rfl|rfl|rfl|rfl|rfl|rfl|rfl|rfl|rfl|rfl|rfl|rfl|rfl|rfl|rfl|rfl|rfl|rfl:=(show a=0\/a=1\/a=2\/a=3\/a=4\/a=5\/a=6\/a=7\/a=8\/a=9\/a=10\/a=11\/a=12\/a=13\/a=14\/a=15\/a=16\/a=17\/a=18\/a=19 by omega)
 ·rw[C8 (show((0:Int))<=6 by decide)]
  repeat'(first|refine gO ?_|(conv=>whnf);first|refine CG (e) (.inl rfl) ?_)
  refine CD rfl rfl ?_;exact wC
 ·rw[C8 (show((1:Int))<=6 by decide)]
  repeat'(first|refine gO ?_|(conv=>whnf);first|refine CG (e) (.inl rfl) ?_)
  refine CD rfl rfl ?_;exact wC
 ·rw[C8 (show((2:Int))<=6 by decide)]
  repeat'(first|refine gO ?_|(conv=>whnf);first|refine CG (e) (.inl rfl) ?_)
  refine CD rfl rfl ?_;exact wC
 ·rw[C8 (show((3:Int))<=6 by decide)]
  repeat'(first|refine gO ?_|(conv=>whnf);first|refine CG (e) (.inl rfl) ?_)
  refine CD rfl rfl ?_;exact wC
 ·rw[C8 (show((4:Int))<=6 by decide)]
  repeat'(first|refine gO ?_|(conv=>whnf);first|refine CG (e) (.inl rfl) ?_)
  refine CD rfl rfl ?_;exact wC
 ·rw[C8 (show((5:Int))<=6 by decide)]
  repeat'(first|refine gO ?_|(conv=>whnf);first|refine CG (e) (.inl rfl) ?_)
  refine CD rfl rfl ?_;exact wC
 ·rw[C8 (show((6:Int))<=6 by decide)]
  repeat'(first|refine gO ?_|(conv=>whnf);first|refine CG (e) (.inl rfl) ?_)
  refine CD rfl rfl ?_;exact wC
 ·rw[C7 (show ¬((7:Int)<=6) by decide),C8 (show((7:Int))<=9 by decide)]
  repeat'(first|refine gO ?_|fail)
  refine CD rfl rfl ?_;exact wC
 ·rw[C7 (show ¬((8:Int)<=6) by decide),C8 (show((8:Int))<=9 by decide)]
  repeat'(first|refine gO ?_|fail)
  refine CD rfl rfl ?_;exact wC
 ·rw[C7 (show ¬((9:Int)<=6) by decide),C8 (show((9:Int))<=9 by decide)]
  repeat'(first|refine gO ?_|fail)
  refine CD rfl rfl ?_;exact wC
 ·rw[C7 (show ¬((10:Int)<=6) by decide),C7 (show ¬((10:Int)<=9) by decide),C8 (show((10:Int))<=12 by decide)]
  repeat'(first|refine gO ?_|(conv=>whnf);first|refine CG (g) (.inl rfl) ?_|refine CG (h) (.inl rfl) ?_)
  refine CD rfl rfl ?_;exact wC
 ·rw[C7 (show ¬((11:Int)<=6) by decide),C7 (show ¬((11:Int)<=9) by decide),C8 (show((11:Int))<=12 by decide)]
  repeat'(first|refine gO ?_|(conv=>whnf);first|refine CG (g) (.inl rfl) ?_|refine CG (h) (.inl rfl) ?_)
  refine CD rfl rfl ?_;exact wC
 ·rw[C7 (show ¬((12:Int)<=6) by decide),C7 (show ¬((12:Int)<=9) by decide),C8 (show((12:Int))<=12 by decide)]
  repeat'(first|refine gO ?_|(conv=>whnf);first|refine CG (g) (.inl rfl) ?_|refine CG (h) (.inl rfl) ?_)
  refine CD rfl rfl ?_;exact wC
 ·rw[C7 (show ¬((13:Int)<=6) by decide),C7 (show ¬((13:Int)<=9) by decide),C7 (show ¬((13:Int)<=12) by decide),C8 (show((13:Int))=13 by decide)]
  repeat'(first|refine gO ?_|(conv=>whnf);first|refine CG (G) (.inl rfl) ?_)
  refine CD rfl rfl ?_;exact wC
 ·rw[C7 (show ¬((14:Int)<=6) by decide),C7 (show ¬((14:Int)<=9) by decide),C7 (show ¬((14:Int)<=12) by decide),C7 (show ¬((14:Int)=13) by decide),C8 (show((14:Int))=14 by decide)]
  repeat'(first|refine gO ?_|(conv=>whnf);first|refine CG (E) (.inl rfl) ?_)
  refine CD rfl rfl ?_;exact wC
 ·rw[C7 (show ¬((15:Int)<=6) by decide),C7 (show ¬((15:Int)<=9) by decide),C7 (show ¬((15:Int)<=12) by decide),C7 (show ¬((15:Int)=13) by decide),C7 (show ¬((15:Int)=14) by decide),C8 (show((15:Int))=15 by decide)]
  repeat'(first|refine gO ?_|fail)
  refine CD rfl rfl ?_;exact wC
 ·rw[C7 (show ¬((16:Int)<=6) by decide),C7 (show ¬((16:Int)<=9) by decide),C7 (show ¬((16:Int)<=12) by decide),C7 (show ¬((16:Int)=13) by decide),C7 (show ¬((16:Int)=14) by decide),C7 (show ¬((16:Int)=15) by decide),C8 (show((16:Int))=16 by decide)]
  repeat'(first|refine gO ?_|(conv=>whnf);first|refine CG (F) (.inl rfl) ?_)
  refine CD rfl rfl ?_;exact wC
 ·rw[C7 (show ¬((17:Int)<=6) by decide),C7 (show ¬((17:Int)<=9) by decide),C7 (show ¬((17:Int)<=12) by decide),C7 (show ¬((17:Int)=13) by decide),C7 (show ¬((17:Int)=14) by decide),C7 (show ¬((17:Int)=15) by decide),C7 (show ¬((17:Int)=16) by decide),C8 (show((17:Int))=17 by decide)]
  repeat'(first|refine gO ?_|fail)
  refine CD rfl rfl ?_;exact wC
 ·rw[C7 (show ¬((18:Int)<=6) by decide),C7 (show ¬((18:Int)<=9) by decide),C7 (show ¬((18:Int)<=12) by decide),C7 (show ¬((18:Int)=13) by decide),C7 (show ¬((18:Int)=14) by decide),C7 (show ¬((18:Int)=15) by decide),C7 (show ¬((18:Int)=16) by decide),C7 (show ¬((18:Int)=17) by decide)]
  repeat'(first|refine gO ?_|(conv=>whnf);first|refine CG (l) (.inl rfl) ?_)
  refine CD rfl rfl ?_;exact wC
 ·rw[C7 (show ¬((19:Int)<=6) by decide),C7 (show ¬((19:Int)<=9) by decide),C7 (show ¬((19:Int)<=12) by decide),C7 (show ¬((19:Int)=13) by decide),C7 (show ¬((19:Int)=14) by decide),C7 (show ¬((19:Int)=15) by decide),C7 (show ¬((19:Int)=16) by decide),C7 (show ¬((19:Int)=17) by decide)]
  repeat'(first|refine gO ?_|(conv=>whnf);first|refine CG (l) (.inl rfl) ?_)
  refine CD rfl rfl ?_;exact wC
theorem zz(zs:List Int)(c:gK)(b:i6 zs)(d:c.i<=zs.length):aS Tryz.prog 151 false [.ptr (gG zs c),.val none [I 40]] [.ptr (gG zs (mr zs c).2),.val none [I 40]] .one (mK .own (mr zs c).1):=by
 have e:=bH zs c 41 b d (by decide);have g:=b8 zs c (n:=41) (by decide);obtain⟨n,h⟩:=I2 g.1;have a:(bo zs c 41).1.toNat=n:=by rw[h];rfl
 unfold mr;rw[a];rw[h]at e g;refine fM 27 [(92,[2,0]),(243,[2,0])] [] [(0,0),(0,0)] Tryz.func151 rfl (λu q=>?_) (.inr (Hi _))
 repeat'(first|refine gO ?_|(conv=>whnf);first|refine CG (e) (.inl rfl) ?_)
 (conv=>whnf)
 refine CC (ι:=Nat) (λi=>[(0,.hold .box (gG zs (kg zs c i).2)),(5,.hold .one (mK .own (kg zs c i).1)),(6,.hold .one [I ((n:Nat):Int)]),(7,.hold .one [I ((i:Nat):Int)])]) (λi=>i<=n) (λi=>n - i) (0) ?_ (R0 _) λi p=>?_
 ·exact wC
 obtain⟨t,-,j⟩:=qk (zs:=zs) (c:=c) d (n:=i) ω;by_cases w:i<n
 ·have k:=AR zs (kg zs c i).2 (1+(i:Int) / 2) b j ω
  have l:((i:Nat):Int).tdiv 2=(i:Int) / 2:=Int.tdiv_eq_ediv_of_nonneg ω
  repeat'(first|refine gD ?_|(conv=>whnf);first|with_reducible (first|refine CM l ?_|refine CK ω ?_)|refine CG (k) (.inl rfl) ?_|refine CQ (aO λ_=>rfl) (λr o=>by rw[Z0.1 o];rfl) (by simp[aW,dz,dL.enc]) (by simp;omega) (by simp only[W0];exact wY (by simp;omega) (by decide)) rfl ?_)
  ((conv=>whnf);refine CB (i+1) ω ω ?_)
  repeat'(first|exact trivial|rfl| exact dv _ |exact CH rfl (CH (T0 (C.s dy.own) (by simp[kg];rfl)) trivial)|refine CH ?_ ?_|(exact yD (by first|omega|(simp only;omega)|(simp;omega))))
 ·obtain rfl:i=n:=ω
  repeat'(first|refine gD ?_|fail)
  refine CD rfl rfl ?_;exact wC
def rfs(h:ab):List Int:=h.Kernel.Refuse
theorem zC(k:af)(p:Int):(fB k p).1.Refuse=k.Refuse:=by unfold fB;split<;>rfl
theorem ql(k:af)(p:Int):∀n,(cx k p n).1.Refuse=k.Refuse
 | 0=>rfl
 | n+1=>by
  unfold cx;split
  ·exact(zC _ _).trans (ql k p n)
  ·exact ql k p n
theorem Jv(h:ab)(i:Nat):rfs (nA h i).1=rfs h:=by unfold nA;split<;>rfl
theorem yz(h:ab)(t c:Nat):rfs (fk h t c).1=rfs h:=by
 unfold fk;split
 ·rfl
 split
 ·rfl
 split
 ·rfl
 split
 ·exact zC _ _
 ·exact(Jv _ _).trans (zC _ _)
theorem G3(h:ab)(t n:Int):rfs (fm h t n).1=rfs h:=by
 unfold fm;split
 ·rfl
 split
 ·rfl
 split
 ·rfl
 split
 ·rfl
 split
 ·split
  ·exact yz _ _ _
  ·exact yz _ _ _
 ·unfold mQ
  split
  ·rfl
  split
  ·exact ql _ _ _
  ·exact((re _ _ _).2).trans (ql _ _ _)
theorem KF(h:ab)(t i:Nat):rfs (freeT h t i).1=rfs h:=by
 unfold freeT;split
 ·exact(re _ _ _).2
 split
 ·rfl
 split
 ·exact(iH t _ _).2.2.2.2.2.2.2
 split<;>rfl
theorem xT(t:Nat)(h:ab):∀k,rfs (flushN t h k).1=rfs h
 | 0=>rfl
 | k+1=>((kr _ (spilt (flushN t h k).1 t k)).2.2.2.2.2.2.2).trans (xT t h k)
theorem EC{h:ab}(a:bk h [])(b:JI h):∀n,rfs (mf h n).1=rfs h
 | 0=>rfl
 | n+1=>by
  obtain⟨c,d⟩:=vF a b n;unfold mf;split
  ·rename_i e
   unfold rp at e;rw[I0]at e;exact((DX c e.1).2.2.1).trans (EC a b n)
  ·exact EC a b n
theorem HS{w:bF}{m:Nat}(h:qS w m)(a:dL):rfs (nv w a).1.Heap=rfs w.Heap:=by
 unfold nv;split
 ·exact G3 _ _ _
 split
 ·split
  ·rfl
  unfold mX;split
  ·unfold pK
   split
   ·rfl
   split
   ·exact KF _ _ _
   ·rfl
  split
  ·unfold nB
   split
   ·rfl
   split
   ·rfl
   split<;>rfl
  ·unfold qd
   split
   ·exact((re _ _ _).2).trans (qW _ _ _).2.2
   ·rfl
 split
 ·unfold fU
  split
  ·split<;>rfl
  split
  ·rfl
  split
  ·exact(iH _ _ _).2.2.2.2.2.2.2
  ·exact xT _ _ _
 split
 ·unfold nN
  split
  ·exact(kr _ _).2.2.2.2.2.2.2
  ·rfl
 split
 ·unfold nJ
  split
  ·rfl
  ·show rfs (started w.Heap).1=_
   unfold rfs;rw[(sK h.inv).2.1]
 split
 ·exact EC h.inv h.ji _
 ·rfl
theorem ES{c:cy}(h:Ep c)(acts:List dL):∀n,rfs (Ak c acts n).1.Heap=c.Refuse
 | 0=>rfl
 | n+1=>(HS (vt h acts n) _).trans (ES h acts n)
def p8(w:bF):List C:=bu w.Heap++ax.enc .imm w.Ref
theorem Ma(w:bF):dw (p8 w)=bF.enc .imm w:=by
 unfold p8;rw[ee,bz,<-CW,oe,CW]
 rfl
theorem Dy(w:bF)(id:Int)(g:w.Heap.Objs.length<=1048576):aS Tryz.prog 302 false [.ptr (p8 w),.val none [I id]] [.ptr (p8 w),.val none [I id]] .one [I (qf w.Heap id)]:=by
 refine fM 28 [] [] [(0,0),(0,0)] Tryz.func302 rfl (λu q=>?_)
 repeat'(first|refine gO ?_|(conv=>whnf);first|refine C9 ?_)
 (conv=>whnf)
 refine CC (ι:=Nat) (λi=>[(0,.hold .box (p8 w)),(1,.hold .one [I (id)]),(5,.hold .one [I ((i:Nat):Int)])]) (λi=>i<=w.Heap.Objs.length/\∀(j:Nat)(z:bC),j<i->w.Heap.Objs[j]? = some z->Lb id z=false) (λi=>w.Heap.Objs.length - i) (0) ?_ (⟨R0 _,λj z h=>ω⟩) λi c=>?_
 ·exact wC
 obtain⟨c,b⟩:=c;by_cases d:i<w.Heap.Objs.length
 ·have a:=ah d
  by_cases e:(nth w.Heap.Objs i).Id=id
  ·repeat'(first|refine gA ?_|(conv=>whnf);first|with_reducible refine CA (aa a) ?_|refine C9 ?_|refine CF rfl (aa a) rfl ?_)
   refine CD rfl (T0 (λz=>[I z]) (dB a (O0 e) b).symm) ?_;exact wC
  ·repeat'(first|refine gA ?_|(conv=>whnf);first|with_reducible refine CA (aa a) ?_|refine C9 ?_|refine CF rfl (aa a) rfl ?_)
   ((conv=>whnf);refine CB (i+1) ⟨ω,cY a (Q0 e) b⟩ ω ?_;(exact wC))
 ·repeat'(first|refine gD ?_|(conv=>whnf);first|refine C9 ?_)
  refine CD rfl (T0 (λz=>[I z]) (fH ω b).symm) ?_;exact wC
theorem cH(y:ab):(bu y).length=24:=rfl
theorem xx(w:bF)(m n:Nat)(h:qS w m)(B:n<=50):aS Tryz.prog 308 false [.ptr (p8 w),.val none [I (n:Nat)]] [.ptr (p8 ⟨(mf w.Heap n).1,w.Ref⟩),.val none [I (n:Nat)]] .one [I ((mf w.Heap n).2:Nat)]:=by
 refine fM 35 [(368,[2])] [] [(0,0),(0,0)] Tryz.func308 rfl (λu q=>?_)
 repeat'(first|refine gO ?_|(conv=>whnf);first|refine C9 ?_)
 (conv=>whnf)
 refine CC (ι:=Nat) (λi=>[(0,.hold .box (p8 ⟨(mf w.Heap i).1,w.Ref⟩)),(1,.hold .one [I ((n:Nat):Int)]),(5,.hold .one [I (((mf w.Heap i).2:Nat):Int)]),(6,.hold .one [I ((i:Nat):Int)])]) (λi=>i<=n/\(mf w.Heap i).2=i) (λi=>n - i) (0) ?_ (⟨R0 _,rfl⟩) λi l=>?_
 ·exact wC
 obtain⟨l,C⟩:=l;obtain⟨o,D⟩:=vF h.inv h.ji i;have b:mf w.Heap (i+1)=if rp (mf w.Heap i).1=true then(mStep (mf w.Heap i).1,(mf w.Heap i).2+1) else mf w.Heap i:=rfl
 have p:=(aB.1 o.ker).2.2.2.2;by_cases E:i<n
 ·cases c:(mf w.Heap i).1.Meshing with
  | true=>
   have y:=(Aa _ o c).frame (r:=ax.enc .imm w.Ref) ((cH _).trans (cH _).symm);by_cases g:(mf w.Heap i).1.Kernel.Calls<=99000
   ·have d:rp (mf w.Heap i).1=true:=by unfold rp;rw[c,O0 g];rfl
    rw[C8 d]at b;generalize mf w.Heap i=s at *
    repeat'(first|refine gD ?_|(conv=>whnf);first|refine C9 ?_|refine Bf.t (O0 g) ?_|refine Bf.t c ?_|refine CG (y) (.inl rfl) ?_)
    ((conv=>whnf);refine CB (i+1) ⟨ω,by rw[b];simp only;omega⟩ ω ?_)
    rw[b];exact wC
   ·have d:rp (mf w.Heap i).1=false:=by unfold rp;rw[c,Q0 g];rfl
    have a:∀k,mf w.Heap (i+k)=mf w.Heap i:=λk=>by
     induction k with
     | zero=>rfl
     | succ k j=>show(if rp (mf w.Heap (i+k)).1=true then _ else mf w.Heap (i+k))=_;rw[j,d,C7 (by simp)]
    have e:=a (n - i);rw[show i+(n - i)=n by omega]at e;rw[e];generalize mf w.Heap i=s at *
    repeat'(first|refine gD ?_|(conv=>whnf);first|refine C9 ?_|refine Bf.f (Q0 g) ?_|refine Bf.t c ?_)
    refine CD rfl rfl ?_;exact wC
  | false=>
   have d:rp (mf w.Heap i).1=false:=by unfold rp;rw[c];rfl
   have a:∀k,mf w.Heap (i+k)=mf w.Heap i:=λk=>by
    induction k with
    | zero=>rfl
    | succ k j=>show(if rp (mf w.Heap (i+k)).1=true then _ else mf w.Heap (i+k))=_;rw[j,d,C7 (by simp)]
   have e:=a (n - i);rw[show i+(n - i)=n by omega]at e;rw[e];generalize mf w.Heap i=s at *
   repeat'(first|refine gD ?_|(conv=>whnf);first|refine C9 ?_|refine Bf.f c ?_)
   refine CD rfl rfl ?_;exact wC
 ·obtain rfl:i=n:=ω
  repeat'(first|refine gD ?_|(conv=>whnf);first|refine C9 ?_)
  refine CD rfl rfl ?_;exact wC
theorem DA{k:af}(a:aA k=true):(aA k&&decide (k.Calls<100000))=decide (k.Calls≠100000):=by
 have:=(aB.1 a).2.2.2.2;rw[a,Bool.true_and,Z3,C0,C0];omega
theorem wh(w:bF)(a:dL)(m:Nat)(h:qS w m)(B:a.Kind=5\/a.Kind=6\/a.Kind=7):aS Tryz.prog 304 false [.ptr (p8 w),.val (some 5) (dL.enc .imm a)] [.ptr (p8 ⟨(fU w.Heap a).1,w.Ref⟩),.val (some 5) (dL.enc .imm a)] .one [I (fU w.Heap a).2]:=by
 have d:=h.inv;have o:=d.nc;have p:w.Heap.Caches.length<=4:=by have:=(d3.1 d.mail).1.2.1;omega
 have C:=ki.of d.mail;have i:=jX w.Heap.Kernel (b6 d.ker);rw[DA d.ker]at i;have j:=aE a.Thread 0 (w.Heap.Caches.length - 1:Int);unfold fU;refine fM 59 [(361,[2,0]),(362,[2,0])] [(3,267,[15,16,17,18,19,20,21,14,22,23,6,0,1,2,3,4,5,6,7,8,9,10,11,1009,12]),(8,15,[30,31,32,33,34,35,36,37,38,39,40,41,42,43,44])] [(0,0),(0,0)] Tryz.func304 rfl (λu q=>?_);by_cases l:a.Kind=5
 ·rw[C8 l]
  by_cases e:0<=a.Thread/\a.Thread<=w.Heap.Caches.length - 1
  ·have y:ns w.Heap a:=e
   obtain⟨t,g⟩:=I2 e.1;have b:=AD w.Heap.Mail t d.mail ω;rw[<-g]at b;rw[g]at e |-;simp only[C2];rw[g]at b;by_cases c:0<(nth w.Heap.Mail.Buffers t).length
   ·rw[C8 (show ns w.Heap a/\0<(nth w.Heap.Mail.Buffers t).length from⟨y,c⟩)]
    rw[C8 c,O0 c]at b;rw[<-g]at b
    repeat'(first|refine gA ?_|(conv=>whnf);first|with_reducible refine Bf.E (λk=>?_) (λk=>?_)|refine C9 ?_|refine CE (b) ⟨⟨rfl,aH.enc_fz w.Heap.Mail⟩,⟨rfl,rfl⟩,trivial⟩ ?_|refine C9 ?_)
    refine CD rfl rfl ?_;exact wC
   ·rw[C7 (show ¬(ns w.Heap a/\0<(nth w.Heap.Mail.Buffers t).length) from λx=>c x.2)]
    rw[C7 c,Q0 c]at b;rw[<-g]at b
    repeat'(first|refine gA ?_|(conv=>whnf);first|with_reducible refine Bf.E (λk=>?_) (λk=>?_)|refine C9 ?_|refine CE (b) ⟨⟨rfl,aH.enc_fz w.Heap.Mail⟩,⟨rfl,rfl⟩,trivial⟩ ?_|refine C9 ?_)
    refine CD rfl rfl ?_;exact wC
  ·rw[C7 (show ¬(ns w.Heap a/\0<(nth w.Heap.Mail.Buffers a.Thread.toNat).length) from λx=>e x.1)]
   have b:=EX w.Heap.Mail a.Thread d.mail ω
   repeat'(first|refine gA ?_|(conv=>whnf);first|with_reducible refine Bf.E (λk=>?_) (λk=>?_)|refine C9 ?_|refine CE (b) ⟨⟨rfl,aH.enc_fz w.Heap.Mail⟩,⟨rfl,rfl⟩,trivial⟩ ?_|refine C9 ?_)
   refine CD rfl rfl ?_;exact wC
 rw[C7 l];by_cases e:w.Heap.Kernel.Calls≠100000;rotate_left
 ·rw[C8 (show ¬(w.Heap.Kernel.Calls≠100000/\ns w.Heap a) from λx=>e x.1)]
  rw[Q0 e]at i
  repeat'(first|refine gA ?_|(conv=>whnf);first|refine C9 ?_|refine CE (i) ⟨⟨rfl,CP _⟩,trivial⟩ ?_|refine C9 ?_)
  refine CD rfl rfl ?_;exact wC
 rw[O0 e]at i;by_cases c:0<=a.Thread/\a.Thread<=w.Heap.Caches.length - 1;rotate_left
 ·rw[C8 (show ¬(w.Heap.Kernel.Calls≠100000/\ns w.Heap a) from λx=>c x.2)]
  rw[Q0 c]at j
  repeat'(first|refine gA ?_|(conv=>whnf);first|refine C9 ?_|refine CE (i) ⟨⟨rfl,CP _⟩,trivial⟩ ?_|refine C6 (j) ?_|refine C9 ?_)
  refine CD rfl rfl ?_;exact wC
 rw[C7 (show ¬¬(w.Heap.Kernel.Calls≠100000/\ns w.Heap a) from Q3 ⟨e,c⟩)];rw[O0 c]at j;obtain⟨t,g⟩:=I2 c.1;by_cases n:a.Kind=6
 ·rw[C8 n]
  have b:=(tj w.Heap t d ω).frame (r:=ax.enc .imm w.Ref) ((cH _).trans (cH _).symm);rw[show a.Thread.toNat=t by omega];rw[<-g]at b
  repeat'(first|refine gA ?_|(conv=>whnf);first|refine C9 ?_|refine CE (i) ⟨⟨rfl,CP _⟩,trivial⟩ ?_|refine C6 (j) ?_|refine CG (b) (.inl rfl) ?_|refine C9 ?_)
  refine CD rfl rfl ?_;exact wC
 ·rw[C7 n]
  have b:=(xn w.Heap t d ω).frame (r:=ax.enc .imm w.Ref) ((cH _).trans (cH _).symm);rw[show a.Thread.toNat=t by omega];rw[<-g]at b
  repeat'(first|refine gA ?_|(conv=>whnf);first|refine C9 ?_|refine CE (i) ⟨⟨rfl,CP _⟩,trivial⟩ ?_|refine C6 (j) ?_|refine CG (b) (.inl rfl) ?_|refine C9 ?_)
  refine CD rfl rfl ?_;exact wC
theorem uJ(w:bF)(a:dL)(i m:Nat)(h:qS w m)(X:m<=900)(G:K4 a)(t:i<w.Heap.Objs.length):aS Tryz.prog 303 false [.ptr (p8 w),.val (some 5) (dL.enc .imm a),.val none [I (i:Nat)]] [.ptr (p8 (mX w a i).1),.val (some 5) (dL.enc .imm a),.val none [I (i:Nat)]] .one [I (mX w a i).2]:=by
 have e:=h.inv;have b:=ah t;have M:=lR e (am t);have N:=jG e (am t) (k:=0);have O:1<=(nth w.Heap.Objs i).Size/\(nth w.Heap.Objs i).Size<=1000:=by
  rcases e.oow _ (am t) with⟨s,P,Y,Z⟩|⟨l,H,d,c⟩
  ·have hc:=aF (e.L.sok s P)
   have:=pC (n:=(nth w.Heap.Objs i).Size) ω;omega
  ·have h8:=cu (e.L.lok l H)
   omega
 have g:=jX w.Heap.Kernel (b6 e.ker);rw[DA e.ker]at g;have Q:=G.k;have R:=G.p;have S:=G.v;unfold mX;refine fM 126 [(354,[2,0,0]),(356,[2,0,0]),(358,[2,0,0])] [(6,7,[29,30,31,32,33,34,35]),(8,269,[40,41,42,43,44,45,46,47,39,48,49,50,51,0,1,2,3,4,5,6,7,8,9,10,11,12,13,1010]),(13,10,[62,63,64,65,66,67,68,69,70,71]),(15,273,[76,77,78,79,80,81,82,83,84,85,86,87,75,88,89,90,91,0,1,2,3,4,5,6,7,8,9,10,11,12,13,14,15,16,17,1014]),(17,15,[93,94,95,96,97,98,99,100,101,102,103,104,105,106,107]),(19,271,[112,113,114,115,116,117,118,119,120,121,111,122,123,124,125,0,1,2,3,4,5,6,7,8,9,10,11,12,13,14,15,1012])] [(0,0),(0,0),(0,0)] Tryz.func303 rfl (λu q=>?_);by_cases J:a.Kind=2
 ·rw[C8 J]
  unfold pK;by_cases d:w.Heap.Kernel.Calls=100000
  ·rw[C8 d]
   rw[Q0 (Q3 d)]at g
   repeat'(first|refine gA ?_|(conv=>whnf);first|with_reducible refine CA (aa b) ?_|refine C9 ?_|refine CE (g) ⟨⟨rfl,CP _⟩,trivial⟩ ?_|refine CF rfl (aa b) rfl ?_|refine C9 ?_)
   refine CD rfl rfl ?_;exact wC
  rw[C7 d];rw[O0 d]at g;have C:=(M2 w.Heap i a.Thread e t).frame (r:=ax.enc .imm w.Ref) ((cH _).trans (cH _).symm);by_cases c:0<=a.Thread/\a.Thread<=w.Heap.Caches.length - 1
  ·rw[C8 (show ns w.Heap a from c)]
   rw[C8 c,C8 c]at C;have T:=yN w.Ref (nth w.Heap.Objs i).Id m h.ref ω;generalize freeT w.Heap a.Thread.toNat i=f at C |-;by_cases o:f.2=0
   ·rw[C8 o]
    repeat'(first|refine gA ?_|(conv=>whnf);first|with_reducible (first|refine CA (aa b) ?_|refine Bf.E (λj=>?_) (λj=>?_))|refine C9 ?_|refine CE (g) ⟨⟨rfl,CP _⟩,trivial⟩ ?_|refine CF rfl (aa b) rfl ?_|refine CG (C) (.inl rfl) ?_|refine Cl.sh T rfl ?_|refine C9 ?_)
    refine CD rfl rfl ?_;exact wC
   ·rw[C7 o]
    repeat'(first|refine gA ?_|(conv=>whnf);first|with_reducible (first|refine CA (aa b) ?_|refine Bf.E (λj=>?_) (λj=>?_))|refine C9 ?_|refine CE (g) ⟨⟨rfl,CP _⟩,trivial⟩ ?_|refine CF rfl (aa b) rfl ?_|refine CG (C) (.inl rfl) ?_|refine C9 ?_)
    refine CD rfl rfl ?_;exact wC
  ·rw[C7 (show ¬ns w.Heap a from c)]
   rw[C7 c,C7 c]at C
   repeat'(first|refine gA ?_|(conv=>whnf);first|with_reducible (first|refine CA (aa b) ?_|refine Bf.E (λj=>?_) (λj=>?_))|refine C9 ?_|refine CE (g) ⟨⟨rfl,CP _⟩,trivial⟩ ?_|refine CF rfl (aa b) rfl ?_|refine CG (C) (.inl rfl) ?_|refine C9 ?_)
   refine CD rfl rfl ?_;exact wC
 rw[C7 J];by_cases K:a.Kind=3
 ·rw[C8 K]
  unfold nB;have D:=aE a.At 0 ((nth w.Heap.Objs i).Size - 1);by_cases d:0<=a.At/\a.At<=(nth w.Heap.Objs i).Size - 1;rotate_left
  ·rw[C8 d]
   rw[Q0 d]at D
   repeat'(first|refine gA ?_|(conv=>whnf);first|with_reducible (first|refine CA (aa b) ?_|refine Bf.E (λj=>?_) (λj=>?_))|refine C9 ?_|refine CF rfl (aa b) rfl ?_|refine C6 (D) ?_|refine C9 ?_)
   refine CD rfl rfl ?_;exact wC
  rw[C7 (Q3 d)];rw[O0 d]at D;have F:=(w7 w.Heap i a.At a.Value e t d).frame (r:=ax.enc .imm w.Ref) (by split<;>rfl);have U:=jG e (am t) d;by_cases c:(ao w.Heap.Kernel.Machine.Table (((nth w.Heap.Objs i).Addr+a.At) / 16)).Mode=1
  ·rw[C8 c]
   rw[C8 (.inl c),C8 c]at F
   repeat'(first|refine gA ?_|(conv=>whnf);first|with_reducible (first|refine CA (aa b) ?_|refine Bf.E (λj=>?_) (λj=>?_))|refine C9 ?_|refine CF rfl (aa b) rfl ?_|refine C6 (D) ?_|refine CG (F) (.inl rfl) ?_|refine C9 ?_)
   refine CD rfl rfl ?_;exact wC
  rw[C7 c];by_cases o:0<=a.Value/\a.Value<=999;rotate_left
  ·rw[C8 o]
   rw[C8 (.inr o),C7 c,C8 o]at F
   repeat'(first|refine gA ?_|(conv=>whnf);first|with_reducible (first|refine CA (aa b) ?_|refine Bf.E (λj=>?_) (λj=>?_))|refine C9 ?_|refine CF rfl (aa b) rfl ?_|refine C6 (D) ?_|refine CG (F) (.inl rfl) ?_|refine C9 ?_)
   refine CD rfl rfl ?_;exact wC
  rw[C7 (Q3 o)];rw[C7 (λx=>x.elim c λy=>y o),C7 c,C7 (Q3 o)]at F;obtain⟨b5,V⟩:=zW w.Ref (nth w.Heap.Objs i).Id a.At a.Value m h.ref ω o
  repeat'(first|refine gA ?_|(conv=>whnf);first|with_reducible (first|refine CA (aa b) ?_|refine Bf.E (λj=>?_) (λj=>?_))|refine C9 ?_|refine CF rfl (aa b) rfl ?_|refine C6 (D) ?_|refine CG (F) (.inl rfl) ?_|refine C6 (V) ?_|refine C9 ?_)
  refine CD rfl rfl ?_;exact wC
 rw[C7 K];unfold qd;by_cases d:w.Heap.Kernel.Calls=100000
 ·rw[C7 (λx=>x.1 d)]
  rw[Q0 (Q3 d)]at g
  repeat'(first|refine gA ?_|(conv=>whnf);first|with_reducible refine CA (aa b) ?_|refine C9 ?_|refine CE (g) ⟨⟨rfl,CP _⟩,trivial⟩ ?_|refine CF rfl (aa b) rfl ?_|refine C9 ?_)
  refine CD rfl rfl ?_;exact wC
 rw[O0 d]at g;by_cases c:jY w.Heap i a.Value
 ·rw[C8 ⟨d,c⟩]
  have B:=(qF w.Heap i a.Value e t c.1).frame (r:=ax.enc .imm w.Ref) (by split<;>rfl);rw[C8 c,O0 c]at B;obtain⟨b7,W⟩:=BE w.Ref (nth w.Heap.Objs i).Id a.Value m h.ref ω
  repeat'(first|refine gA ?_|(conv=>whnf);first|with_reducible refine CA (aa b) ?_|refine C9 ?_|refine CE (g) ⟨⟨rfl,CP _⟩,trivial⟩ ?_|refine CF rfl (aa b) rfl ?_|refine CG (B) (.inl rfl) ?_|refine C6 (W) ?_|refine C9 ?_)
  refine CD rfl rfl ?_;exact wC
 ·rw[C7 (λx=>c x.2)]
  by_cases o:xl w.Heap (nth w.Heap.Objs i).Addr<0
  ·have B:=(DP w.Heap (nth w.Heap.Objs i).Addr a.Value (by have:=e.lens.larges;omega) e.L.lok o).frame (r:=ax.enc .imm w.Ref) ((cH _).trans (cH _).symm)
   repeat'(first|refine gA ?_|(conv=>whnf);first|with_reducible refine CA (aa b) ?_|refine C9 ?_|refine CE (g) ⟨⟨rfl,CP _⟩,trivial⟩ ?_|refine CF rfl (aa b) rfl ?_|refine CG (B) (.inl rfl) ?_|refine C9 ?_)
   refine CD rfl rfl ?_;exact wC
  ·have B:=(qF w.Heap i a.Value e t ω).frame (r:=ax.enc .imm w.Ref) (by split<;>rfl)
   rw[C7 c,Q0 c]at B
   repeat'(first|refine gA ?_|(conv=>whnf);first|with_reducible refine CA (aa b) ?_|refine C9 ?_|refine CE (g) ⟨⟨rfl,CP _⟩,trivial⟩ ?_|refine CF rfl (aa b) rfl ?_|refine CG (B) (.inl rfl) ?_|refine C9 ?_)
   refine CD rfl rfl ?_;exact wC
theorem qS.fit{w:bF}{m:Nat}(h:qS w m)(a:ix w.Heap.Kernel.Refuse):ab.sml w.Heap/\ab.wf w.Heap:=
 ⟨(h.inv.fit a (ki.of h.inv.mail).sml).sml,h.inv.wf a⟩
theorem Ek(w:bF)(a:dL)(m:Nat)(h:qS w m)(K:m<=900)(L:ix w.Heap.Kernel.Refuse)(p:K4 a):aS Tryz.prog 240 false [.ptr (p8 w),.val (some 5) (dL.enc .imm a)] [.ptr (p8 (nv w a).1),.val (some 5) (dL.enc .imm a)] .one [I (nv w a).2]:=by
 have i:=h.inv;have M:=p.k;have O:=p.n;have j:=i.nums;unfold cj at j;rw[C0]at j;unfold nv;refine fM 123 [(143,[2,0,0]),(302,[2,0]),(303,[2,0,0]),(304,[2,0]),(306,[2,0]),(307,[2]),(308,[2,0])] [(3,265,[13,14,15,16,17,18,19,21,22,0,1,2,3,4,5,6,7,8,9,10,11,1010,12]),(5,269,[26,27,28,29,30,31,32,33,25,34,35,36,37,0,1,2,3,4,5,6,7,8,9,10,11,12,13,1010]),(19,21,[62,63,64,65,66,67,68,69,70,71,72,73,74,75,76,77,78,79,80,81,82]),(21,5,[86,87,88,89,90])] [(0,0),(0,0)] Tryz.func240 rfl (λu q=>?_);by_cases F:a.Kind=1
 ·rw[C8 F]
  have c:=(wL w.Heap a.Thread a.N i).frame (r:=ax.enc .imm w.Ref) ((cH _).trans (cH _).symm);by_cases e:(fm w.Heap a.Thread a.N).2.2=0
  ·rw[C8 e]
   have y:1<=a.N/\a.N<=1000:=by
    refine Classical.byContradiction λB=>?_
    unfold fm at e;rw[C8 B]at e;split at e
    ·exact absurd (show(5:Int)=0 from e) (by decide)
    split at e
    ·exact absurd (show(1:Int)=0 from e) (by decide)
    exact absurd (show(2:Int)=0 from e) (by decide)
   have o:=wD w.Ref a.N m h.ref ω y;generalize fm w.Heap a.Thread a.N=f at c e |-
   repeat'(first|refine gA ?_|(conv=>whnf);first|with_reducible refine Bf.E (λb=>?_) (λb=>?_)|refine C9 ?_|refine CG (c) (.inl rfl) ?_|refine C6 (o) ?_|refine C9 ?_)
   refine CD rfl rfl ?_;exact wC
  ·rw[C7 e]
   generalize fm w.Heap a.Thread a.N=f at c e |-
   repeat'(first|refine gA ?_|(conv=>whnf);first|with_reducible refine Bf.E (λb=>?_) (λb=>?_)|refine C9 ?_|refine CG (c) (.inl rfl) ?_|refine C9 ?_)
   refine CD rfl rfl ?_;exact wC
 rw[C7 F];by_cases G:a.Kind=2\/a.Kind=3\/a.Kind=4
 ·rw[C8 G]
  have c:=Dy w a.N (by have:=i.lens.objs;omega);by_cases e:qf w.Heap a.N<0
  ·rw[C8 e]
   repeat'(first|refine gA ?_|(conv=>whnf);first|with_reducible refine Bf.E (λb=>?_) (λb=>?_)|refine C9 ?_|refine CG (c) (.inl rfl) ?_)
   all_goals first|omega|skip
   all_goals
    refine CD rfl rfl ?_;exact wC
  ·rw[C7 e]
   obtain⟨P,S,T⟩:=eU (Lb a.N) w.Heap.Objs (by unfold qf at e;omega);have o:=uJ w a (qf w.Heap a.N).toNat m h K p P;rw[show(((qf w.Heap a.N).toNat:Nat):Int)=qf w.Heap a.N by omega]at o
   repeat'(first|refine gA ?_|(conv=>whnf);first|with_reducible refine Bf.E (λb=>?_) (λb=>?_)|refine C9 ?_|refine CG (c) (.inl rfl) ?_|refine CG (o) (.inl rfl) ?_)
   all_goals first|omega|skip
   all_goals
    refine CD rfl rfl ?_;exact wC
 rw[C7 G];by_cases C:a.Kind=5\/a.Kind=6\/a.Kind=7
 ·rw[C8 C]
  have c:=wh w a m h C
  repeat'(first|refine gA ?_|(conv=>whnf);first|with_reducible refine Bf.E (λb=>?_) (λb=>?_)|refine C9 ?_|refine CG (c) (.inl rfl) ?_)
  all_goals first|omega|skip
  all_goals
   refine CD rfl rfl ?_;exact wC
 rw[C7 C];by_cases H:a.Kind=8
 ·rw[C8 H]
  unfold nN;have d:=jX w.Heap.Kernel (b6 i.ker);rw[DA i.ker]at d;have c:=aE a.N 0 1000;by_cases g:w.Heap.Kernel.Calls≠100000;rotate_left
  ·rw[C7 (λx=>g x.1)]
   rw[Q0 g]at d
   repeat'(first|refine gA ?_|(conv=>whnf);first|with_reducible refine Bf.E (λb=>?_) (λb=>?_)|refine C9 ?_|refine CE (d) ⟨⟨rfl,CP _⟩,trivial⟩ ?_|refine C9 ?_)
   refine CD rfl rfl ?_;exact wC
  rw[O0 g]at d;by_cases l:0<=a.N/\a.N<=1000;rotate_left
  ·rw[C7 (λx=>l x.2.1)]
   rw[Q0 l]at c
   repeat'(first|refine gA ?_|(conv=>whnf);first|with_reducible refine Bf.E (λb=>?_) (λb=>?_)|refine C9 ?_|refine CE (d) ⟨⟨rfl,CP _⟩,trivial⟩ ?_|refine C6 (c) ?_|refine C9 ?_)
   refine CD rfl rfl ?_;exact wC
  rw[O0 l]at c;by_cases D:w.Heap.Clock+a.N<=1000000
  ·rw[C8 ⟨g,l,D⟩]
   have o:=(zt w.Heap a.N i l D).frame (r:=ax.enc .imm w.Ref) ((cH _).trans (cH _).symm)
   repeat'(first|refine gA ?_|(conv=>whnf);first|with_reducible refine Bf.E (λb=>?_) (λb=>?_)|refine C9 ?_|refine CE (d) ⟨⟨rfl,CP _⟩,trivial⟩ ?_|refine C6 (c) ?_|refine CG (o) (.inl rfl) ?_|refine C9 ?_)
   refine CD rfl rfl ?_;exact wC
  ·rw[C7 (λx=>D x.2.2)]
   repeat'(first|refine gA ?_|(conv=>whnf);first|with_reducible refine Bf.E (λb=>?_) (λb=>?_)|refine C9 ?_|refine CE (d) ⟨⟨rfl,CP _⟩,trivial⟩ ?_|refine C6 (c) ?_|refine C9 ?_)
   refine CD rfl rfl ?_;exact wC
 rw[C7 H];by_cases J:a.Kind=9
 ·rw[C8 J]
  unfold nJ;obtain⟨Q,R⟩:=h.fit L;have d:=sA w.Heap Q R;rw[show gm w.Heap=true from i.to]at d;cases g:w.Heap.Meshing with
  | true=>
   rw[C8 rfl]
   repeat'(first|refine gA ?_|(conv=>whnf);first|with_reducible refine Bf.E (λb=>?_) (λb=>?_)|refine C9 ?_|refine Bf.t g ?_|refine C9 ?_)
   refine CD rfl rfl ?_;exact wC
  | false=>
   rw[C7 (by simp)];have c:=(xq w.Heap i).frame (r:=ax.enc .imm w.Ref) ((cH _).trans (cH _).symm);cases l:(started w.Heap).2<;>rw[l]at c
   ·rw[C7 (by simp)]
    repeat'(first|refine gA ?_|(conv=>whnf);first|with_reducible refine Bf.E (λb=>?_) (λb=>?_)|refine C9 ?_|refine Bf.f g ?_|refine CE (d) ⟨⟨rfl,bz w.Heap⟩,trivial⟩ ?_|refine CG (c) (.inl rfl) ?_|refine C9 ?_)
    refine CD rfl rfl ?_;exact wC
   ·rw[C8 rfl]
    repeat'(first|refine gA ?_|(conv=>whnf);first|with_reducible refine Bf.E (λb=>?_) (λb=>?_)|refine C9 ?_|refine Bf.f g ?_|refine CE (d) ⟨⟨rfl,bz w.Heap⟩,trivial⟩ ?_|refine CG (c) (.inl rfl) ?_|refine C9 ?_)
    refine CD rfl rfl ?_;exact wC
 rw[C7 J];have k10:a.Kind=10:=ω
 have d:=aE a.N 0 50;by_cases g:0<=a.N/\a.N<=50
 ·rw[C8 ⟨k10,g⟩]
  rw[O0 g]at d;obtain⟨n,B⟩:=I2 g.1;have c:=xx w m n h ω;rw[show a.N.toNat=n by omega];rw[<-B]at c
  repeat'(first|refine gA ?_|(conv=>whnf);first|with_reducible refine Bf.E (λb=>?_) (λb=>?_)|refine C9 ?_|refine C6 (d) ?_|refine CG (c) (.inl rfl) ?_|refine C9 ?_)
  refine CD rfl rfl ?_;exact wC
 ·rw[C7 (λx=>g x.2)]
  rw[Q0 g]at d
  repeat'(first|refine gA ?_|(conv=>whnf);first|with_reducible refine Bf.E (λb=>?_) (λb=>?_)|refine C9 ?_|refine C6 (d) ?_|refine C9 ?_)
  refine CD rfl rfl ?_;exact wC
theorem yS(w:bF)(h1:ab.sml w.Heap)(a:ax.sml w.Ref):ar Tryz.prog 241 false [.val (some 26) (bF.enc .imm w)] .agg (bF.enc .own w):=by
 have b:=Av w.Heap h1;have c:=d9 w.Ref a;refine fO 10 [(1,5,[3,4,5,6,7])] Tryz.func241 rfl ?_ (.inr (bF.enc_fr _))
 repeat'(first|refine gO ?_|(conv=>whnf);first|refine C6 (b) ?_|refine C6 (c) ?_|refine C9 ?_)
 rfl
theorem zu(c:cy)(acts:List dL)(h:Ep c)(d:ix c.Refuse)(n:∀a∈acts,K4 a)(D:acts.length<=80):ar Tryz.prog 149 false [.val (some 5) (cy.enc .imm c),.val none (mK .imm acts)] (.tup [some 26,none]) (bF.enc .own (Ak c acts acts.length).1++aD .own (Ak c acts acts.length).2):=by
 have o:=xj c h;refine fP 42 [(240,[2,0]),(2000005,[6,21,25])] [] Tryz.func149 rfl ?_ (.inr (aP (bF.enc_fr _) (bI _)))
 repeat'(first|refine gD ?_|(conv=>whnf);first|refine C6 (o) ?_|refine DE.mk rfl rfl rfl ?_)
 (conv=>whnf)
 refine CC (ι:=Nat) (λi=>[(1,.hold .one (mK .imm acts)),(4,.hold .box [.z,.z,.z,I 0,.z,.z,.z,.z,.z,.z,.z,.z,I 0,.z,I 0,I 0,I 0,I 0,B false,I 0,I 0,.z,I 0,I 0,I 0,.z]),(6,.hold .box (p8 (Ak c acts i).1)),(8,.hold .one (aD .own (Ak c acts i).2)),(9,.hold .one [I ((i:Nat):Int)])]) (λi=>i<=acts.length) (λi=>acts.length - i) (0) ?_ (R0 _) λi p=>?_
 ·repeat'(first|exact trivial|rfl |exact ml q|exact dv _|refine CH ?_ ?_|(exact yD (by first|omega|(simp only;omega)|(simp;omega))))
 have e:=vt h acts i;have b:=ES h acts i;have g:(Ak c acts i).2.length=i:=by
  clear e b p
  induction i with
  | zero=>rfl
  | succ k t=>show((Ak c acts k).2++[_]).length=_;rw[U2,t];rfl
 by_cases j:i<acts.length
 ·have l:=ah j
  have u:=Ek (Ak c acts i).1 (nth acts i) i e ω (by unfold rfs at b;rw[b];exact d) (n _ (am j))
  repeat'(first|refine gD ?_|(conv=>whnf);first|with_reducible refine CA (aa l) ?_|refine CF rfl (aa l) rfl ?_|refine CG (u) (.inl rfl) ?_|refine CQ cq (λr d=>by rw[Z0.1 d];rfl) (by simp[aW,dz]) (by simp;omega) (by simp only[W0];exact wY (by simp;omega) (by decide)) rfl ?_)
  ((conv=>whnf);refine CB (i+1) ω ω ?_)
  repeat'(first|exact trivial|rfl| exact dv _ |exact CH rfl (CH (T0 (C.s dy.own) (by simp[Ak,rI])) trivial)|refine CH ?_ ?_|(exact yD (by first|omega|(simp only;omega)|(simp;omega))))
 ·obtain rfl:i=acts.length:=ω
  have w:=e.fit (by unfold rfs at b;rw[b];exact d);have y:=yS (Ak c acts acts.length).1 w.1 (e.ref.sml ω)
  repeat'(first|refine gD ?_|(conv=>whnf);first|refine CE (y) ⟨⟨rfl,Ma _⟩,trivial⟩ ?_)
  rfl
theorem B1(zs:List Int)(c:gK):ix (oQ zs c).Refuse:=by
 show ix (mD zs 4 0 [] (yC zs c).2).1;have key:∀(f i:Nat)(out:List Int)(c:gK),(∀x∈out,lr x)->∀x∈(mD zs f i out c).1,lr x:=by
  intro f
  induction f with
  | zero=>intro i out c h;exact h
  | succ f b=>
   intro i out c h;unfold mD;split
   ·refine b _ _ _ λx a=>?_
    rcases O2.1 a with a|a
    ·exact h x a
    ·rw[Z0.1 a]
     have:=b8 zs (bo zs c 4).2 (n:=12) (by decide);exact⟨ω,ω⟩
   ·exact h
 exact⟨by
   have d:∀(f i:Nat)(out:List Int)(c:gK),out.length+f<=4->(mD zs f i out c).1.length<=4:=by
     intro f
     induction f with
     | zero=>intro i out c h;exact h
     | succ f b=>
       intro i out c h;unfold mD;split
       · exact b _ _ _ (by simp only[U2,List.length_singleton];omega)
       · show out.length<=4;omega
   have:=d 4 0 [] (yC zs c).2 (Q2 _);omega,key 4 0 [] _ (λx a=>by cases a)⟩
theorem wT(zs:List Int)(a:i6 zs):aS Tryz.prog 61 false [.ptr (gG zs (rK zs))] [.ptr (gG zs (mr zs (eL zs)).2)] .agg (bF.enc .own (drawn zs)):=by
 have b:(rK zs).i<=zs.length:=R0 _;obtain⟨g,d⟩:=qO b;have o:=b8 zs (eL zs) (n:=41) (by decide);obtain⟨p,h,-⟩:=qk (zs:=zs) (c:=eL zs) d (n:=(bo zs (eL zs) 41).1.toNat) ω;have e:=ve zs (rK zs) a b;have j:=zz zs (eL zs) a d;have k:=zu (oQ zs (rK zs)) (mr zs (eL zs)).1 g (B1 zs _) h (by show(kg zs (eL zs) _).1.length<=80;omega);have l:drawn zs=(Ak (oQ zs (rK zs)) (mr zs (eL zs)).1 (mr zs (eL zs)).1.length).1:=rfl;rw[l];change aS _ _ _ _ [.ptr (gG zs (eL zs))] _ _ at e;generalize oQ zs (rK zs)=cf at *;generalize r:mr zs (eL zs)=A at *;generalize t:Ak cf A.1 A.1.length=R at *;refine fM 14 [(150,[2]),(151,[2,0])] [] [(0,0)] Tryz.func61 rfl (λu q=>?_) (.inr (bF.enc_fr _))
 repeat'(first|refine gO ?_|(conv=>whnf);first|refine CG (e) (.inl rfl) ?_|refine CG (j) (.inl rfl) ?_|refine CE (k) ⟨⟨rfl,cy.enc_fz _⟩,⟨rfl,Ho _⟩,trivial⟩ ?_)
 refine CD rfl rfl ?_;exact wC
def N3(z:List Int):List C:=[.s .imm (z.map rU)]
theorem ss(zs:List Int)(b:i6 zs):oY Tryz.prog 62 true [.val none (N3 zs)] .box (gG zs (rK zs)):=by
 have r:=b.1;have e:IntKind.i64.wrap (98801+(zs.length:Nat))=w64 (98801+(zs.length:Nat)):=rfl;have g:oy zs 0=98801+(zs.length:Nat):=by show w64 _=_;rw[<-e];exact eA ω ω
 have a:=T0 I g;refine Pm (n:=32) (t:=2) (mo:=[]) (tb:=[]) Tryz.func62 (by kernel_rfl) rfl (by kernel_rfl) (by rfl) rfl ?_
 repeat'(first|refine gO ?_|fail)
 (conv=>whnf)
 refine CC (ι:=Nat) (λi=>[(0,.hold .one (N3 zs)),(3,.hold .one [I (oy zs i)]),(4,.hold .one [I ((i:Nat):Int)])]) (λi=>i<=min zs.length 4000) (λi=>min zs.length 4000 - i) (0) ?_ (R0 _) λi u=>?_
 ·repeat'(first|exact trivial|rfl |exact ml a|exact dv _|refine CH ?_ ?_|(exact yD (by first|omega|(simp only;omega)|(simp;omega))))
 have h:IntKind.i64.wrap (oy zs i*131)=w64 (oy zs i*131):=rfl;have j:IntKind.i64.wrap (w64 (oy zs i*131)+nth zs i)=w64 (w64 (oy zs i*131)+nth zs i):=rfl;have k:IntKind.i64.wrap (w64 (w64 (oy zs i*131)+nth zs i)+7)=w64 (w64 (w64 (oy zs i*131)+nth zs i)+7):=rfl;have l:IntKind.i64.wrap (BitVec.ofInt IntKind.i64.bits (w64 (w64 (w64 (oy zs i*131)+nth zs i)+7)) &&& BitVec.ofInt IntKind.i64.bits 1073741823).toNat=oy zs (i+1):=rfl;by_cases c:i<zs.length/\i<4000
 ·have d:=ah c.1
  have w:=b.2 _ (am c.1);generalize oy zs i=H at *;generalize o:oy zs (i+1)=H2 at *
  repeat'(first|refine gD ?_|(conv=>whnf);first|with_reducible (first|refine CA (aa d) ?_|refine CI h ?_|refine CI j ?_|refine CI k ?_|refine CI l ?_)|refine CF rfl (aa d) rfl ?_)
  ((conv=>whnf);refine CB (i+1) ω ω ?_)
  rw[o];exact wC
 ·obtain rfl:i=min zs.length 4000:=ω
  have p:rK zs = ⟨0,oy zs (min zs.length 4000)⟩:=rfl;rw[p];generalize oy zs (min zs.length 4000)=H at *
  repeat'(first|refine gD ?_|(conv=>whnf);first|with_reducible refine Bf.D (λq=>?_) (λq=>?_))
  all_goals rfl
theorem vY(zs:List Int)(a:i6 zs):ar Tryz.prog 16 false [.val none (N3 zs)] .agg (bF.enc .own (drawn zs)):=by
 have b:=ss zs a;have c:=wT zs a;refine fP 6 [(61,[2])] [] Tryz.func16 rfl ?_ (.inr (bF.enc_fr _))
 repeat'(first|refine gO ?_|(conv=>whnf);first|refine Cl.g b (.inr rfl) ?_|refine CG (c) (.inl rfl) ?_)
 rfl
set_option maxHeartbeats 2000000
set_option maxHeartbeats 2000000
set_option maxHeartbeats 2000000
set_option maxHeartbeats 2000000
set_option maxHeartbeats 2000000
set_option maxHeartbeats 2000000
theorem BS(zs:List Int):ix (drawn zs).Heap.Kernel.Refuse:=by
 have a:(rK zs).i<=zs.length:=R0 _;have:=ES (qO a).1 (mr zs (eL zs)).1 (mr zs (eL zs)).1.length;unfold rfs at this;show ix (Ak _ _ _).1.Heap.Kernel.Refuse;rw[this];exact B1 zs _
theorem Gu(zs:List Int):ab.sml (drawn zs).Heap/\ab.wf (drawn zs).Heap:=(B6 zs).fit (BS zs)
theorem MZ(zs:List Int)(a:zs.length<=9223372036854775807):ar Tryz.prog 15 false [.val none (N3 zs)] .one [B (decide ((zs.length:Int) > 1048576))]:=by
 refine fO 6 [] Tryz.func15 rfl ?_
 repeat'(first|refine gO ?_|fail)
 rfl
theorem Dr{α:Type}[Inhabited α]{xs:List α}{i:Nat}(h:xs.length<=i):nth xs i=default:=by unfold nth;rw[Z1,W1 h];rfl
def mod1(k:af)(q:Nat):Prop:=(nth k.Machine.Table.Entries q).Mode=1
def K1(k k':af):Prop:=∀q,mod1 k' q->mod1 k q
theorem K1.trans{a b c:af}(h1:K1 a b)(d:K1 b c):K1 a c:=λq h=>h1 q (d q h)
theorem K1.tab{k k':af}(h:k'.Machine.Table=k.Machine.Table):K1 k k':=λq a=>by unfold mod1 at a |-;rw[<-h];exact a
theorem K1.set{k k':af}{p:Nat}{e:aZ}(b:e.Mode≠1)(h:k'.Machine.Table.Entries=k.Machine.Table.Entries.set p e):K1 k k':=λq a=>by
 unfold mod1 at a |-;rw[h,bS]at a;split at a
 ·exact absurd a b
 ·exact a
theorem yu(k:af)(f:Int):(gr k f).Machine.Table=k.Machine.Table:=by unfold gr;split<;>rfl
theorem AA(k:af)(p:Int):K1 k (d4 k p):=by
 unfold d4;split
 ·exact λ_ h=>h
 ·exact(K1.set (k:=k) (k':=ox k p) (e:=⟨0,0⟩) (by decide) rfl).trans (K1.tab (yu _ _))
theorem uV(k:af)(p:Int):∀n,K1 k (dC k p n)
 | 0=>λ_ h=>h
 | n+1=>(uV k p n).trans (AA _ _)
theorem DT(k:af)(p:Int):K1 k (fB k p).1:=by
 unfold fB;split
 ·exact K1.tab rfl
 ·exact K1.set (e:=⟨2,_⟩) (by show(2:Int)≠1;decide) rfl
theorem tJ(k:af)(p:Int):∀n,K1 k (cx k p n).1
 | 0=>λ_ h=>h
 | n+1=>by
  unfold cx;split
  ·exact(tJ k p n).trans (DT _ _)
  ·exact tJ k p n
structure S1(h g:ab):Prop where
 k:K1 h.Kernel g.Kernel
 m:g.Meshing=h.Meshing
 j:g.Job=h.Job
theorem S1.refl(h:ab):S1 h h:=⟨λ_ x=>x,rfl,rfl⟩
theorem S1.trans{a b c:ab}(h1:S1 a b)(d:S1 b c):S1 a c:=⟨h1.k.trans d.k,d.m.trans h1.m,d.j.trans h1.j⟩
theorem S1.ker{h:ab}{g:ab}(e:g.Kernel=h.Kernel)(a:g.Meshing=h.Meshing)(b:g.Job=h.Job):S1 h g:=⟨by rw[e];exact λ_ x=>x,a,b⟩
theorem Me(h:ab)(i:Nat):S1 h (nA h i).1:=by unfold nA;split<;>exact S1.ker rfl rfl rfl
theorem BU(h:ab)(t c:Nat):S1 h (fk h t c).1:=by
 unfold fk;split
 ·exact S1.ker rfl rfl rfl
 split
 ·exact S1.ker rfl rfl rfl
 split
 ·exact S1.refl h
 split
 ·exact⟨DT _ _,rfl,rfl⟩
 ·exact S1.trans (b:=tc h c) ⟨DT _ _,rfl,rfl⟩ (Me _ _)
theorem Jd(h:ab)(t n:Int):S1 h (fm h t n).1:=by
 unfold fm;split
 ·exact S1.refl h
 split
 ·exact S1.refl h
 split
 ·exact S1.refl h
 split
 ·exact S1.refl h
 split
 ·split
  ·exact BU _ _ _
  ·exact(BU h t.toNat (aN n).toNat).trans (S1.ker rfl rfl rfl)
 ·unfold mQ
  split
  ·exact S1.refl h
  split
  ·exact⟨tJ _ _ _,rfl,rfl⟩
  ·exact⟨(tJ _ _ _).trans (uV _ _ _),rfl,rfl⟩
theorem Gh(h:ab)(i:Nat)(a:Int):S1 h (freeS h i a):=by
 unfold freeS;split
 ·exact⟨AA _ _,rfl,rfl⟩
 ·exact S1.ker rfl rfl rfl
theorem Lz(t:Nat)(h:ab)(a:Int):S1 h (recyc t h a):=by
 unfold recyc;split
 ·exact S1.ker rfl rfl rfl
 ·exact Gh _ _ _
theorem u9(t:Nat):∀(az:List Int)(h:ab),S1 h (recycs t h az)
 | [],h=>S1.refl h
 | a::az,h=>(Lz t h a).trans (u9 t az (recyc t h a))
theorem uB:∀(az:List Int)(h:ab),S1 h (freeAs h az)
 | [],h=>S1.refl h
 | a::az,h=>(Gh h (th h a) a).trans (uB az (freeA h a))
theorem HX(h:ab)(t i:Nat):S1 h (freeOb h t i).1:=by
 unfold freeOb;split
 ·exact⟨uV _ _ _,rfl,rfl⟩
 split
 ·exact S1.refl h
 ·exact S1.trans (b:=inQuar h i) ⟨K1.tab rfl,rfl,rfl⟩ (u9 t _ _)
theorem Lv(h:ab)(t i:Nat):S1 h (freeT h t i).1:=by
 by_cases e:(nth h.Objs i).Thread=t
 ·rw[rx e];exact HX h t i
 unfold freeT;split
 ·exact⟨uV _ _ _,rfl,rfl⟩
 split
 ·exact S1.refl h
 split
 ·exact⟨K1.tab rfl,rfl,rfl⟩
 ·exact S1.refl h
theorem Di(t:Nat)(h:ab):∀k,S1 h (flushN t h k).1
 | 0=>S1.refl h
 | k+1=>(Di t h k).trans (S1.trans (b:=spilt (flushN t h k).1 t k) (S1.ker rfl rfl rfl) (uB _ _))
def M1(h:ab):Prop:=∀q:Nat,mod1 h.Kernel q->h.Meshing=true/\(q:Int)=h.Job.Plan.Move/\h.Job.Phase≠0
theorem M1.keep{h g:ab}(a:M1 h)(s:S1 h g):M1 g:=λq b=>by
 rw[s.m,s.j];exact a q (s.k q b)
theorem M1.step{h:ab}(y:bk h [])(r:JI h)(o:M1 h)(p:h.Meshing=true):M1 (mStep h):=by
 have E:=r.ph p;have n:=(dP.1 (y.job p).1).1;obtain⟨-,-,-,Q,R⟩:=dP.1 (y.job p).1;unfold ec at n;simp only[I0,C0]at n;have F:0<=h.Job.Plan.Move:=ω
 have G:∀q:Nat,(q:Int)≠h.Job.Plan.Move->¬mod1 h.Kernel q:=λq d H=>d (o q H).2.1
 have f:∀(k':af)(e:aZ)(q:Nat),k'.Machine.Table.Entries=h.Kernel.Machine.Table.Entries.set h.Job.Plan.Move.toNat e->mod1 k' q->(q:Int)=h.Job.Plan.Move/\e.Mode=1:=λk' e q J d=>by
  unfold mod1 at d;rw[J,bS]at d;split at d
  ·exact⟨ω,d⟩
  ·have S:=(o q d).2.1
   rename_i t;have u:q<h.Kernel.Machine.Table.Entries.length:=by
    rcases Nat.lt_or_ge q h.Kernel.Machine.Table.Entries.length with g|g
    ·exact g
    ·rw[Dr g]at d;exact absurd d (by decide)
   exact absurd ⟨ω,u⟩ t
 have stay:∀(k:af)(j:bW),k.Machine.Table=h.Kernel.Machine.Table->j.Plan=h.Job.Plan->(j.Phase=0->h.Job.Phase=0)->over j=false->M1 {h with Kernel:=k,Meshing:=if over j=true then false else h.Meshing,Job:=if over j=true then⟨⟨0,0,[]⟩,0,0⟩ else j}:=λk j K L M N q d=>by
  obtain⟨a,b,c⟩:=o q (K1.tab (k:=h.Kernel) (k':=k) K q d);simp only[N,Bool.false_eq_true,if_false];exact⟨a,by rw[L];exact b,λe=>c (M e)⟩
 have done:∀(k:af)(j:bW),(∀q,¬mod1 k q)->M1 {h with Kernel:=k,Meshing:=if over j=true then false else h.Meshing,Job:=if over j=true then⟨⟨0,0,[]⟩,0,0⟩ else j}:=λk j e q d=>absurd d (e q)
 have nov:∀{j:bW},j.Phase≠4->j.Phase≠5->over j=false:=λT U=>by
  unfold over;rw[Y3];omega
 unfold Ab.mStep io;by_cases i:jmay h.Kernel h.Job=true;rotate_left
 ·rw[C7 i]
  exact stay h.Kernel h.Job rfl rfl (λe=>e) (nov ω ω)
 rw[C8 i];unfold jstep;by_cases w:h.Job.Phase=0
 ·rw[C8 w]
  have none:∀q,¬mod1 h.Kernel q:=λq d=>(o q d).2.2 w
  unfold iS;by_cases l:refd h.Kernel=true
  ·rw[C8 l]
   exact done (cN h.Kernel) _ none
  ·rw[C7 l]
   intro q d;have:=f (qG (cN h.Kernel) h.Job.Plan.Move 1) _ q rfl d;refine⟨?_,?_,?_⟩
   ·show(if over {h.Job with Phase:=1} = true then false else h.Meshing)=true
    rw[nov (by show(1:Int)≠4;decide) (by show(1:Int)≠5;decide)];exact p
   ·show(q:Int)=(if over {h.Job with Phase:=1} = true then(⟨⟨0,0,[]⟩,0,0⟩ : bW) else {h.Job with Phase:=1}).Plan.Move
    rw[nov (by show(1:Int)≠4;decide) (by show(1:Int)≠5;decide)];exact this.1
   ·show(if over {h.Job with Phase:=1} = true then(⟨⟨0,0,[]⟩,0,0⟩ : bW) else {h.Job with Phase:=1}).Phase≠0
    rw[nov (by show(1:Int)≠4;decide) (by show(1:Int)≠5;decide)];show(1:Int)≠0;decide
 rw[C7 w];by_cases A:h.Job.Phase=1
 ·rw[C8 A]
  by_cases B:h.Job.Next=h.Job.Plan.Cells.length
  ·rw[C8 B]
   exact stay h.Kernel {h.Job with Phase:=2} rfl rfl (λe=>by cases e) (nov (by show(2:Int)≠4;decide) (by show(2:Int)≠5;decide))
  ·rw[C7 B]
   exact stay (wb h.Kernel h.Job.Plan.Move h.Job.Plan.Keep (nth h.Job.Plan.Cells h.Job.Next.toNat)) {h.Job with Next:=h.Job.Next+1} rfl rfl (λe=>e) (nov (by show h.Job.Phase≠4;omega) (by show h.Job.Phase≠5;omega))
 rw[C7 A];by_cases C:h.Job.Phase=2
 ·rw[C8 C]
  unfold yd;by_cases l:refd h.Kernel=true
  ·rw[C8 l]
   exact stay (cN h.Kernel) {h.Job with Phase:=3} rfl rfl (λe=>by cases e) (nov (by show(3:Int)≠4;decide) (by show(3:Int)≠5;decide))
  ·rw[C7 l]
   exact done _ _ λq d=>by
    have O:=K1.tab (yu _ _) q d;have:=(f _ ⟨2,_⟩ q rfl O).2;change (2:Int)=1 at this;omega
 rw[C7 C];have P:h.Job.Phase=3:=ω
 rw[C8 P];by_cases D:0<h.Job.Next
 ·rw[C8 D]
  refine stay _ {h.Job with Next:=h.Job.Next - 1} ?_ rfl (λe=>e) (nov (by show h.Job.Phase≠4;omega) (by show h.Job.Phase≠5;omega));show(fF _ _ _).1.Table=_;unfold fF;split
  ·rfl
  split<;>rfl
 ·rw[C7 D]
  unfold iS;by_cases l:refd h.Kernel=true
  ·rw[C8 l]
   exact stay (cN h.Kernel) {h.Job with Phase:=3} rfl rfl (λe=>by cases e) (nov (by show(3:Int)≠4;decide) (by show(3:Int)≠5;decide))
  ·rw[C7 l]
   exact done _ _ λq d=>by
    have:=(f (qG (cN h.Kernel) h.Job.Plan.Move 2) _ q rfl d).2;change (2:Int)=1 at this;omega
theorem KY{h:ab}(a:bk h [])(b:JI h)(c:M1 h):∀n,M1 (mf h n).1
 | 0=>c
 | n+1=>by
  obtain⟨d,f⟩:=vF a b n;unfold mf;split
  ·rename_i e
   unfold rp at e;rw[I0]at e;exact(KY a b c n).step d f e.1
  ·exact KY a b c n
theorem Ly{w:bF}{m:Nat}(h:qS w m)(c:M1 w.Heap)(a:dL):M1 (nv w a).1.Heap:=by
 unfold nv;split
 ·exact c.keep (Jd _ _ _)
 split
 ·split
  ·exact c
  unfold mX;split
  ·unfold pK
   split
   ·exact c
   split
   ·exact c.keep (Lv _ _ _)
   ·exact c
  split
  ·unfold nB
   split
   ·exact c
   split
   ·exact c
   split
   ·exact c
   ·exact c.keep ⟨K1.tab rfl,rfl,rfl⟩
  ·unfold qd
   split
   ·exact c.keep ⟨(K1.tab (qW _ _ _).1).trans (uV _ _ _),rfl,rfl⟩
   ·exact c
 split
 ·unfold fU
  split
  ·split
   ·exact c.keep (S1.ker rfl rfl rfl)
   ·exact c
  split
  ·exact c
  split
  ·exact c.keep (S1.trans (b:={w.Heap with Mail:=jH w.Heap.Mail a.Thread.toNat}) (S1.ker rfl rfl rfl) (u9 _ _ _))
  ·exact c.keep (Di _ _ _)
 split
 ·unfold nN
  split
  ·exact c.keep (S1.trans (b:=aged w.Heap a.N) (S1.ker rfl rfl rfl) (uB _ _))
  ·exact c
 split
 ·unfold nJ
  split
  ·exact c
  ·rename_i e
   intro q d;exact absurd (c q (K1.tab (by show(started w.Heap).1.Kernel.Machine.Table=_;rw[(sK h.inv).2.1]) q d)).1 e
 split
 ·exact KY h.inv h.ji c _
 ·exact c
theorem ML{c:cy}(h:Ep c)(acts:List dL):∀n,M1 (Ak c acts n).1.Heap
 | 0=>λq a=>by
  exfalso;change (nth (List.replicate c.Pages (⟨0,0⟩ : aZ)) q).Mode=1 at a;rcases Nat.lt_or_ge q c.Pages with g|g
  ·rw[cv g]at a;exact absurd a (by decide)
  ·rw[Dr (by rw[v3];exact g)]at a;exact absurd a (by decide)
 | n+1=>Ly (vt h acts n) (ML h acts n) _
def qH(zs:List Int):Nat->List Int × gK
 | 0=>([],rK zs)
 | n+1=>((qH zs n).1++[(bo zs (qH zs n).2 10000).1],(bo zs (qH zs n).2 10000).2)
theorem zJ(zs:List Int):∀n,(qH zs n).2.i<=zs.length/\(qH zs n).1.length=n/\∀x∈(qH zs n).1,0<=x/\x<10000
 | 0=>⟨R0 _,rfl,λx a=>by cases a⟩
 | n+1=>by
  obtain⟨b,c,d⟩:=zJ zs n;refine⟨bK b _,by show((qH zs n).1++[_]).length=_;rw[U2,c];rfl,λx a=>?_⟩;rcases O2.1 a with a|a
  ·exact d x a
  ·rw[Z0.1 a]
   exact b8 zs (qH zs n).2 (n:=10000) (by decide)
theorem tl(zs:List Int)(a:i6 zs):ar Tryz.prog 23 false [.val none (N3 zs)] .one (aD .own (qH zs 12).1):=by
 have b:=ss zs a;refine fP 19 [(92,[2,0]),(3000003,[])] [] Tryz.func23 rfl ?_ (.inr (bI _))
 repeat'(first|refine gO ?_|(conv=>whnf);first|refine Cl.g b (.inr rfl) ?_)
 (conv=>whnf)
 refine CC (ι:=Nat) (λi=>[(0,.hold .one (N3 zs)),(3,.hold .box (gG zs (qH zs i).2)),(4,.hold .one (aD .own (qH zs i).1)),(5,.hold .one [I ((i:Nat):Int)])]) (λi=>i<=12) (λi=>12 - i) (0) ?_ (R0 _) λi j=>?_
 ·repeat'(first|exact trivial|rfl |exact ml c|exact dv _|refine CH ?_ ?_|(exact yD (by first|omega|(simp only;omega)|(simp;omega))))
 obtain⟨d,k,-⟩:=zJ zs i;by_cases l:i<12
 ·have e:=bH zs (qH zs i).2 10000 a d (by decide)
  repeat'(first|refine gD ?_|(conv=>whnf);first|refine CG (e) (.inl rfl) ?_|refine CQ cq (λr h=>by rw[Z0.1 h];rfl) (by simp[aW,dz]) (by simp;omega) (by simp only[W0];exact wY (by simp;omega) (by decide)) rfl ?_)
  ((conv=>whnf);refine CB (i+1) ω ω ?_)
  repeat'(first|exact trivial|rfl| exact dv _ |exact ml (T0 (C.s dy.own) (by simp[qH,rI]))|refine CH ?_ ?_|(exact yD (by first|omega|(simp only;omega)|(simp;omega))))
 ·obtain rfl:i=12:=ω
  repeat'(first|refine gD ?_|fail)
  rfl
theorem n7(a:List Int)(d:a.length<=1048576):ar Tryz.prog 24 false [.val none (aD .imm a),.val none (aD .imm a)] .one [B true]:=by
 refine fO 26 [(6,8,[17,18,19,20,21,22,23,24])] Tryz.func24 rfl ?_
 repeat'(first|refine gA ?_|fail)
 (conv=>whnf)
 refine CC (ι:=Nat) (λi=>[(0,.hold .one (aD .imm a)),(1,.hold .one (aD .imm a)),(5,.hold .one [I ((i:Nat):Int)])]) (λi=>i<=a.length) (λi=>a.length - i) (0) ?_ (R0 _) λi e=>?_
 ·exact wC
 by_cases b:i<a.length
 ·have c:=ah b
  repeat'(first|refine gA ?_|(conv=>whnf);first|with_reducible refine CA (aa c) ?_)
  ((conv=>whnf);refine CB (i+1) ω ω ?_;(exact wC))
 ·repeat'(first|refine gD ?_|fail)
  rfl
theorem Ah(a:List Bool)(d:a.length<=1048576):ar Tryz.prog 326 false [.val none (np .imm a),.val none (np .imm a)] .one [B true]:=by
 refine fO 26 [(6,8,[17,18,19,20,21,22,23,24])] Tryz.func326 rfl ?_
 repeat'(first|refine gA ?_|fail)
 (conv=>whnf)
 refine CC (ι:=Nat) (λi=>[(0,.hold .one (np .imm a)),(1,.hold .one (np .imm a)),(5,.hold .one [I ((i:Nat):Int)])]) (λi=>i<=a.length) (λi=>a.length - i) (0) ?_ (R0 _) λi g=>?_
 ·exact wC
 by_cases c:i<a.length
 ·have b:=ah c
  cases e:nth a i<;>rw[e]at b
  all_goals
   repeat'(first|refine gA ?_|(conv=>whnf);first|with_reducible refine CA (aa b) ?_)
   ((conv=>whnf);refine CB (i+1) ω ω ?_;(exact wC))
 ·repeat'(first|refine gD ?_|fail)
  rfl
theorem GP(a b c d:Int):Ld Tryz.prog .neq 131 [.int .i64 a,.int .i64 b] [.int .i64 c,.int .i64 d] (!(a == c&&(b == d))):=by
 refine⟨λx y w=>?_⟩;rw[Sem.run_bind,run_eqGuard_agg w .neq _ x y _ _ (by kernel_rfl)];simp only[Result.andThen_ok];rw[run_neq_struct,run_equalIn_agg w _ _ _ _ (by kernel_rfl) (by kernel_rfl)];simp only[Program.fieldsOf,Tryz.underlying131];simp only[Op.eqFields];simp[part,Sem.run_bind,run_equalIn_int _ _ _ _ _ _ _ Tryz.underlying3];by_cases e:a=c<;>by_cases f:b=d<;>simp[e,f]
theorem wE(a:List a7)(d:a.length<=1048576):ar Tryz.prog 118 false [.val none (bw .imm a),.val none (bw .imm a)] .one [B true]:=by
 refine fO 26 [(6,8,[17,18,19,20,21,22,23,24])] Tryz.func118 rfl ?_
 repeat'(first|refine gA ?_|fail)
 (conv=>whnf)
 refine CC (ι:=Nat) (λi=>[(0,.hold .one (bw .imm a)),(1,.hold .one (bw .imm a)),(5,.hold .one [I ((i:Nat):Int)])]) (λi=>i<=a.length) (λi=>a.length - i) (0) ?_ (R0 _) λi e=>?_
 ·exact wC
 by_cases c:i<a.length
 ·have b:=ah c
  repeat'(first|refine gD ?_|(conv=>whnf);first|with_reducible refine CA (aa b) ?_|refine CF rfl (aa b) rfl ?_|refine GV.mk (GP _ _ _ _) ?_|refine Bf.t (by simp only[beq_self_eq_true,Bool.and_self]) ?_)
  ((conv=>whnf);refine CB (i+1) ω ω ?_;(exact wC))
 ·repeat'(first|refine gD ?_|fail)
  rfl
theorem GH(a b c d e f:Int):Ld Tryz.prog .neq 185 [.int .i64 a,.int .i64 b,.int .i64 c] [.int .i64 d,.int .i64 e,.int .i64 f] (!(a == d&&(b == e&&(c == f)))):=by
 refine⟨λx y w=>?_⟩;rw[Sem.run_bind,run_eqGuard_agg w .neq _ x y _ _ (by kernel_rfl)];simp only[Result.andThen_ok];rw[run_neq_struct,run_equalIn_agg w _ _ _ _ (by kernel_rfl) (by kernel_rfl)];simp only[Program.fieldsOf,Tryz.underlying185];simp only[Op.eqFields];simp[part,Sem.run_bind,run_equalIn_int _ _ _ _ _ _ _ Tryz.underlying3];by_cases g:a=d<;>by_cases h:b=e<;>by_cases i:c=f<;>simp[g,h,i]
theorem Aq(a:List aL)(d:a.length<=1048576):ar Tryz.prog 123 false [.val none (bV .imm a),.val none (bV .imm a)] .one [B true]:=by
 refine fO 26 [(6,8,[17,18,19,20,21,22,23,24])] Tryz.func123 rfl ?_
 repeat'(first|refine gA ?_|fail)
 (conv=>whnf)
 refine CC (ι:=Nat) (λi=>[(0,.hold .one (bV .imm a)),(1,.hold .one (bV .imm a)),(5,.hold .one [I ((i:Nat):Int)])]) (λi=>i<=a.length) (λi=>a.length - i) (0) ?_ (R0 _) λi e=>?_
 ·exact wC
 by_cases c:i<a.length
 ·have b:=ah c
  repeat'(first|refine gD ?_|(conv=>whnf);first|with_reducible refine CA (aa b) ?_|refine CF rfl (aa b) rfl ?_|refine GV.mk (GH _ _ _ _ _ _) ?_|refine Bf.t (by simp only[beq_self_eq_true,Bool.and_self]) ?_)
  ((conv=>whnf);refine CB (i+1) ω ω ?_;(exact wC))
 ·repeat'(first|refine gD ?_|fail)
  rfl
theorem JW(a b c d e f:Int):Ld Tryz.prog .neq 75 [.int .i64 a,.int .i64 b,.int .i64 c] [.int .i64 d,.int .i64 e,.int .i64 f] (!(a == d&&(b == e&&(c == f)))):=by
 refine⟨λx y w=>?_⟩;rw[Sem.run_bind,run_eqGuard_agg w .neq _ x y _ _ (by kernel_rfl)];simp only[Result.andThen_ok];rw[run_neq_struct,run_equalIn_agg w _ _ _ _ (by kernel_rfl) (by kernel_rfl)];simp only[Program.fieldsOf,Tryz.underlying75];simp only[Op.eqFields];simp[part,Sem.run_bind,run_equalIn_int _ _ _ _ _ _ _ Tryz.underlying3];by_cases g:a=d<;>by_cases h:b=e<;>by_cases i:c=f<;>simp[g,h,i]
theorem xg(a:List au)(d:a.length<=1048576):ar Tryz.prog 37 false [.val none (bP .imm a),.val none (bP .imm a)] .one [B true]:=by
 refine fO 26 [(6,8,[17,18,19,20,21,22,23,24])] Tryz.func37 rfl ?_
 repeat'(first|refine gA ?_|fail)
 (conv=>whnf)
 refine CC (ι:=Nat) (λi=>[(0,.hold .one (bP .imm a)),(1,.hold .one (bP .imm a)),(5,.hold .one [I ((i:Nat):Int)])]) (λi=>i<=a.length) (λi=>a.length - i) (0) ?_ (R0 _) λi e=>?_
 ·exact wC
 by_cases c:i<a.length
 ·have b:=ah c
  repeat'(first|refine gD ?_|(conv=>whnf);first|with_reducible refine CA (aa b) ?_|refine CF rfl (aa b) rfl ?_|refine GV.mk (JW _ _ _ _ _ _) ?_|refine Bf.t (by simp only[beq_self_eq_true,Bool.and_self]) ?_)
  ((conv=>whnf);refine CB (i+1) ω ω ?_;(exact wC))
 ·repeat'(first|refine gD ?_|fail)
  rfl
theorem Hs(a b c d e f:Int):Ld Tryz.prog .neq 173 [.int .i64 a,.int .i64 b,.int .i64 c] [.int .i64 d,.int .i64 e,.int .i64 f] (!(a == d&&(b == e&&(c == f)))):=by
 refine⟨λx y w=>?_⟩;rw[Sem.run_bind,run_eqGuard_agg w .neq _ x y _ _ (by kernel_rfl)];simp only[Result.andThen_ok];rw[run_neq_struct,run_equalIn_agg w _ _ _ _ (by kernel_rfl) (by kernel_rfl)];simp only[Program.fieldsOf,Tryz.underlying173];simp only[Op.eqFields];simp[part,Sem.run_bind,run_equalIn_int _ _ _ _ _ _ _ Tryz.underlying3];by_cases g:a=d<;>by_cases h:b=e<;>by_cases i:c=f<;>simp[g,h,i]
theorem xw(a:List a8)(d:a.length<=1048576):ar Tryz.prog 119 false [.val none (bN .imm a),.val none (bN .imm a)] .one [B true]:=by
 refine fO 26 [(6,8,[17,18,19,20,21,22,23,24])] Tryz.func119 rfl ?_
 repeat'(first|refine gA ?_|fail)
 (conv=>whnf)
 refine CC (ι:=Nat) (λi=>[(0,.hold .one (bN .imm a)),(1,.hold .one (bN .imm a)),(5,.hold .one [I ((i:Nat):Int)])]) (λi=>i<=a.length) (λi=>a.length - i) (0) ?_ (R0 _) λi e=>?_
 ·exact wC
 by_cases c:i<a.length
 ·have b:=ah c
  repeat'(first|refine gD ?_|(conv=>whnf);first|with_reducible refine CA (aa b) ?_|refine CF rfl (aa b) rfl ?_|refine GV.mk (Hs _ _ _ _ _ _) ?_|refine Bf.t (by simp only[beq_self_eq_true,Bool.and_self]) ?_)
  ((conv=>whnf);refine CB (i+1) ω ω ?_;(exact wC))
 ·repeat'(first|refine gD ?_|fail)
  rfl
theorem Lj(a b c d e f g h:Int):Ld Tryz.prog .neq 71 [.int .i64 a,.int .i64 b,.int .i64 c,.int .i64 d] [.int .i64 e,.int .i64 f,.int .i64 g,.int .i64 h] (!(a == e&&(b == f&&(c == g&&(d == h))))):=by
 refine⟨λx y w=>?_⟩;rw[Sem.run_bind,run_eqGuard_agg w .neq _ x y _ _ (by kernel_rfl)];simp only[Result.andThen_ok];rw[run_neq_struct,run_equalIn_agg w _ _ _ _ (by kernel_rfl) (by kernel_rfl)];simp only[Program.fieldsOf,Tryz.underlying71];simp only[Op.eqFields];simp[part,Sem.run_bind,run_equalIn_int _ _ _ _ _ _ _ Tryz.underlying3];by_cases i:a=e<;>by_cases j:b=f<;>by_cases k:c=g<;>by_cases l:d=h<;>simp[i,j,k,l]
theorem Az(a:List bC)(d:a.length<=1048576):ar Tryz.prog 120 false [.val none (iX .imm a),.val none (iX .imm a)] .one [B true]:=by
 refine fO 26 [(6,8,[17,18,19,20,21,22,23,24])] Tryz.func120 rfl ?_
 repeat'(first|refine gA ?_|fail)
 (conv=>whnf)
 refine CC (ι:=Nat) (λi=>[(0,.hold .one (iX .imm a)),(1,.hold .one (iX .imm a)),(5,.hold .one [I ((i:Nat):Int)])]) (λi=>i<=a.length) (λi=>a.length - i) (0) ?_ (R0 _) λi e=>?_
 ·exact wC
 by_cases c:i<a.length
 ·have b:=ah c
  repeat'(first|refine gD ?_|(conv=>whnf);first|with_reducible refine CA (aa b) ?_|refine CF rfl (aa b) rfl ?_|refine GV.mk (Lj _ _ _ _ _ _ _ _) ?_|refine Bf.t (by simp only[beq_self_eq_true,Bool.and_self]) ?_)
  ((conv=>whnf);refine CB (i+1) ω ω ?_;(exact wC))
 ·repeat'(first|refine gD ?_|fail)
  rfl
theorem G0(a b c d:Int):Ld Tryz.prog .neq 134 [.int .i64 a,.int .i64 b] [.int .i64 c,.int .i64 d] (!(a == c&&(b == d))):=by
 refine⟨λx y w=>?_⟩;rw[Sem.run_bind,run_eqGuard_agg w .neq _ x y _ _ (by kernel_rfl)];simp only[Result.andThen_ok];rw[run_neq_struct,run_equalIn_agg w _ _ _ _ (by kernel_rfl) (by kernel_rfl)];simp only[Program.fieldsOf,Tryz.underlying134];simp only[Op.eqFields];simp[part,Sem.run_bind,run_equalIn_int _ _ _ _ _ _ _ Tryz.underlying3];by_cases e:a=c<;>by_cases f:b=d<;>simp[e,f]
theorem vD(a:List aZ)(d:a.length<=1048576):ar Tryz.prog 264 false [.val none (lf .imm a),.val none (lf .imm a)] .one [B true]:=by
 refine fO 26 [(6,8,[17,18,19,20,21,22,23,24])] Tryz.func264 rfl ?_
 repeat'(first|refine gA ?_|fail)
 (conv=>whnf)
 refine CC (ι:=Nat) (λi=>[(0,.hold .one (lf .imm a)),(1,.hold .one (lf .imm a)),(5,.hold .one [I ((i:Nat):Int)])]) (λi=>i<=a.length) (λi=>a.length - i) (0) ?_ (R0 _) λi e=>?_
 ·exact wC
 by_cases c:i<a.length
 ·have b:=ah c
  repeat'(first|refine gD ?_|(conv=>whnf);first|with_reducible refine CA (aa b) ?_|refine CF rfl (aa b) rfl ?_|refine GV.mk (G0 _ _ _ _) ?_|refine Bf.t (by simp only[beq_self_eq_true,Bool.and_self]) ?_)
  ((conv=>whnf);refine CB (i+1) ω ω ?_;(exact wC))
 ·repeat'(first|refine gD ?_|fail)
  rfl
theorem Kx(a b c d:Int):Ld Tryz.prog .neq 181 [.int .i64 a,.int .i64 b] [.int .i64 c,.int .i64 d] (!(a == c&&(b == d))):=by
 refine⟨λx y w=>?_⟩;rw[Sem.run_bind,run_eqGuard_agg w .neq _ x y _ _ (by kernel_rfl)];simp only[Result.andThen_ok];rw[run_neq_struct,run_equalIn_agg w _ _ _ _ (by kernel_rfl) (by kernel_rfl)];simp only[Program.fieldsOf,Tryz.underlying181];simp only[Op.eqFields];simp[part,Sem.run_bind,run_equalIn_int _ _ _ _ _ _ _ Tryz.underlying3];by_cases e:a=c<;>by_cases f:b=d<;>simp[e,f]
theorem Aw(a:List cQ)(d:a.length<=1048576):ar Tryz.prog 265 false [.val none (bT .imm a),.val none (bT .imm a)] .one [B true]:=by
 refine fO 26 [(6,8,[17,18,19,20,21,22,23,24])] Tryz.func265 rfl ?_
 repeat'(first|refine gA ?_|fail)
 (conv=>whnf)
 refine CC (ι:=Nat) (λi=>[(0,.hold .one (bT .imm a)),(1,.hold .one (bT .imm a)),(5,.hold .one [I ((i:Nat):Int)])]) (λi=>i<=a.length) (λi=>a.length - i) (0) ?_ (R0 _) λi e=>?_
 ·exact wC
 by_cases c:i<a.length
 ·have b:=ah c
  repeat'(first|refine gD ?_|(conv=>whnf);first|with_reducible refine CA (aa b) ?_|refine CF rfl (aa b) rfl ?_|refine GV.mk (Kx _ _ _ _) ?_|refine Bf.t (by simp only[beq_self_eq_true,Bool.and_self]) ?_)
  ((conv=>whnf);refine CB (i+1) ω ω ?_;(exact wC))
 ·repeat'(first|refine gD ?_|fail)
  rfl
theorem lG(a:List (List Int))(g:a.length<=1048576)(d:∀l∈a,l.length<=1048576):ar Tryz.prog 199 false [.val none (fJ .imm a),.val none (fJ .imm a)] .one [B true]:=by
 refine fO 27 [(6,8,[17,18,19,20,21,22,23,24])] Tryz.func199 rfl ?_
 repeat'(first|refine gA ?_|fail)
 (conv=>whnf)
 refine CC (ι:=Nat) (λi=>[(0,.hold .one (fJ .imm a)),(1,.hold .one (fJ .imm a)),(5,.hold .one [I ((i:Nat):Int)])]) (λi=>i<=a.length) (λi=>a.length - i) (0) ?_ (R0 _) λi h=>?_
 ·exact wC
 by_cases b:i<a.length
 ·have c:=ah b
  have e:=n7 (nth a i) (d _ (am b))
  repeat'(first|refine gD ?_|(conv=>whnf);first|with_reducible refine CA (aa c) ?_|refine CF rfl (aa c) rfl ?_|refine C6 (e) ?_)
  ((conv=>whnf);refine CB (i+1) ω ω ?_;(exact wC))
 ·repeat'(first|refine gD ?_|fail)
  rfl
theorem vh(a:List (List cQ))(g:a.length<=1048576)(d:∀l∈a,l.length<=1048576):ar Tryz.prog 200 false [.val none (jP .imm a),.val none (jP .imm a)] .one [B true]:=by
 refine fO 27 [(6,8,[17,18,19,20,21,22,23,24])] Tryz.func200 rfl ?_
 repeat'(first|refine gA ?_|fail)
 (conv=>whnf)
 refine CC (ι:=Nat) (λi=>[(0,.hold .one (jP .imm a)),(1,.hold .one (jP .imm a)),(5,.hold .one [I ((i:Nat):Int)])]) (λi=>i<=a.length) (λi=>a.length - i) (0) ?_ (R0 _) λi h=>?_
 ·exact wC
 by_cases b:i<a.length
 ·have c:=ah b
  have e:=Aw (nth a i) (d _ (am b))
  repeat'(first|refine gD ?_|(conv=>whnf);first|with_reducible refine CA (aa c) ?_|refine CF rfl (aa c) rfl ?_|refine C6 (e) ?_)
  ((conv=>whnf);refine CB (i+1) ω ω ?_;(exact wC))
 ·repeat'(first|refine gD ?_|fail)
  rfl
theorem wJ(a:List aC)(h:a.length<=1048576)(d:∀c∈a,c.Lists.length<=1048576/\∀l∈c.Lists,l.length<=1048576):ar Tryz.prog 121 false [.val none (ij .imm a),.val none (ij .imm a)] .one [B true]:=by
 refine fO 29 [(6,10,[17,18,19,20,21,22,23,24,25,26])] Tryz.func121 rfl ?_
 repeat'(first|refine gA ?_|fail)
 (conv=>whnf)
 refine CC (ι:=Nat) (λi=>[(0,.hold .one (ij .imm a)),(1,.hold .one (ij .imm a)),(5,.hold .one [I ((i:Nat):Int)])]) (λi=>i<=a.length) (λi=>a.length - i) (0) ?_ (R0 _) λi j=>?_
 ·exact wC
 by_cases b:i<a.length
 ·have e:=ah b
  have g:=lG (nth a i).Lists (d _ (am b)).1 (d _ (am b)).2
  repeat'(first|refine gD ?_|(conv=>whnf);first|with_reducible refine CA (aa e) ?_|refine CF rfl (aa e) rfl ?_|refine C6 (g) ?_)
  ((conv=>whnf);refine CB (i+1) ω ω ?_;(exact wC))
 ·repeat'(first|refine gD ?_|fail)
  rfl
theorem wP(a:aV)(b:aV.sml a):ar Tryz.prog 263 false [.val (some 2) (aV.enc .imm a),.val (some 2) (aV.enc .imm a)] .one [B true]:=by
 have c:=lG a.Cells b.1.1 b.1.2;have d:=Ah a.Used b.2;refine fO 17 [] Tryz.func263 rfl ?_
 repeat'(first|refine gA ?_|(conv=>whnf);first|refine C6 (c) ?_|refine C6 (d) ?_)
 rfl
theorem vE(a:aJ)(b:aJ.sml a):ar Tryz.prog 198 false [.val (some 3) (aJ.enc .imm a),.val (some 3) (aJ.enc .imm a)] .one [B true]:=by
 have c:=wP a.Frames b.1;have d:=vD a.Table.Entries b.2.1;refine fO 19 [] Tryz.func198 rfl ?_
 repeat'(first|refine gA ?_|(conv=>whnf);first|refine C6 (c) ?_|refine C6 (d) ?_)
 rfl
theorem xm(a:af)(b:af.sml a):ar Tryz.prog 117 false [.val (some 5) (af.enc .imm a),.val (some 5) (af.enc .imm a)] .one [B true]:=by
 have c:=vE a.Machine b.1;have d:=n7 a.Refuse b.2;refine fO 24 [] Tryz.func117 rfl ?_
 repeat'(first|refine gA ?_|(conv=>whnf);first|refine C6 (c) ?_|refine C6 (d) ?_)
 rfl
theorem ED(a:bW)(b:bW.sml a):ar Tryz.prog 124 false [.val (some 5) (bW.enc .imm a),.val (some 5) (bW.enc .imm a)] .one [B true]:=by
 have c:=n7 a.Plan.Cells b;refine fO 44 [] Tryz.func124 rfl ?_
 repeat'(first|refine gA ?_|(conv=>whnf);first|refine C6 (c) ?_)
 exact T0 (λz=>[B z]) (beq_self_eq_true _)
theorem B5(a:aH)(b:aH.sml a):ar Tryz.prog 122 false [.val (some 2) (aH.enc .imm a),.val (some 2) (aH.enc .imm a)] .one [B true]:=by
 have c:=vh a.Buffers b.1.1 (λl d=>(b.1.2 l d).1);have e:=lG a.Inbox b.2.1 b.2.2;refine fO 17 [] Tryz.func122 rfl ?_
 repeat'(first|refine gA ?_|(conv=>whnf);first|refine C6 (c) ?_|refine C6 (e) ?_)
 rfl
theorem Bb(a:ab)(d:ab.sml a):ar Tryz.prog 47 false [.val (some 24) (ab.enc .imm a),.val (some 24) (ab.enc .imm a)] .one [B true]:=by
 obtain⟨g,h,i,j,k,b,l,n,o⟩:=d;have p:=xm a.Kernel g;have q:=wE a.Free h.1;have r:=xg a.Spans i.1;have t:=xw a.Larges j.1;have u:=Az a.Objs k.1;have w:=wJ a.Caches b.1 b.2;have y:=B5 a.Mail l;have C:=Aq a.Quar.Lst n.1;have D:=ED a.Job o;have c:ab.enc .imm a=(ab.enc .imm a).set 18 (B a.Meshing):=rfl;cases e:a.Meshing
 all_goals
  rw[e]at c;rw[c];refine fO 116 [] Tryz.func47 rfl ?_
  repeat'(first|refine gA ?_|(conv=>whnf);first|refine C6 (p) ?_|refine C6 (q) ?_|refine C6 (r) ?_|refine C6 (t) ?_|refine C6 (u) ?_|refine C6 (w) ?_|refine C6 (y) ?_|refine C6 (C) ?_|refine C6 (D) ?_)
  rfl
theorem HU(zs:List Int):M1 (drawn zs).Heap:=ML (qO (R0 _)).1 _ _
def tE(h:ab)(a:Int):Int:=di (mP a) h.Objs
theorem Fs{h:ab}{a:Int}(e:0<=tE h a):(tE h a).toNat<h.Objs.length/\(nth h.Objs (tE h a).toNat).Addr<=a/\a<(nth h.Objs (tE h a).toNat).Addr+(nth h.Objs (tE h a).toNat).Size:=by
 obtain⟨b,c,-⟩:=eU (mP a) h.Objs e;exact⟨b,of_decide_eq_true c⟩
theorem sL(o:bC)(a:Int)(c:0<=o.Size/\o.Size<=1000/\0<=o.Addr/\o.Addr<=1000):ar Tryz.prog 195 false [.val (some 4) (bC.enc .imm o),.ptr [I a]] .one [B (mP a o)]:=by
 have b:=aM a o.Addr (o.Addr+o.Size - 1);refine fO 14 [] Tryz.func195 rfl ?_
 repeat'(first|refine gO ?_|(conv=>whnf);first|refine C9 ?_|refine C6 (b) ?_)
 exact T0 (λz=>[B z]) ((by unfold mP;exact decide_eq_decide.2 ω))
theorem wS(h:ab)(a:Int)(e:h.Objs.length<=1048576)(b:∀o∈h.Objs,0<=o.Size/\o.Size<=1000/\0<=o.Addr/\o.Addr<=1000):ar Tryz.prog 114 false [.val (some 24) (ab.enc .imm h),.val none [I a]] .one [I (tE h a)]:=by
 refine fO 9 [] Tryz.func114 rfl ?_
 repeat'(first|refine gO ?_|(conv=>whnf);first|refine C9 ?_|refine Cq.mk (BK (some 4) (bC.enc .imm) (mP a) h.Objs) (sL ⟨0,0,0,0⟩ a (by decide)).has (λL k rcs c=>?_) ?_|refine C6 (oK h.Objs (mP a) ω) ?_)
 ·obtain⟨y,d,rfl,rfl,rfl⟩:=c
  exact sL y a (b y d)
 ·rfl
theorem k7(h:ab)(a:Int)(e:ab.sml h)(b:bk h []):ar Tryz.prog 44 false [.val (some 24) (ab.enc .imm h),.val none [I a]] .one [I (tE h a)]:=by
 have c:=BV h e;rw[GD,b.to]at c;have g:=b.lens.objs;have i:=wS h a ω (λo d=>by
   have j:=b.objSz o d;have k:=lR b d;omega)
 refine fO 11 [] Tryz.func44 rfl ?_
 repeat'(first|refine gO ?_|(conv=>whnf);first|refine C9 ?_|refine C6 (c) ?_|refine C6 (i) ?_)
 rfl
theorem JT(h:ab)(a:Int)(c:bk h []):ar Tryz.prog 126 false [.ptr (ab.enc .imm h),.val none [I a]] .one [I (di (mP a) h.Objs)]:=by
 have p:=c.lens.objs;have d:=c.objSz;have g:=λo (q:o∈h.Objs)=>lR c q
 refine fO 47 [(4,29,[15,16,17,18,19,20,21,22,23,24,25,26,27,28,29,30,31,32,33,34,35,36,37,38,39,40,41,42,43])] Tryz.func126 rfl ?_
 repeat'(first|refine gO ?_|(conv=>whnf);first|refine C9 ?_)
 (conv=>whnf)
 refine CC (ι:=Nat) (λi=>[(0,.iref (ab.enc .imm h) 0),(1,.hold .one [I (a)]),(5,.hold .one [I ((i:Nat):Int)])]) (λi=>i<=h.Objs.length/\∀(j:Nat)(z:bC),j<i->h.Objs[j]? = some z->mP a z=false) (λi=>h.Objs.length - i) (0) ?_ (⟨R0 _,λj z t=>ω⟩) λi c=>?_
 ·exact wC
 obtain⟨r,k⟩:=c;by_cases l:i<h.Objs.length
 ·have b:=ah l
  have u:=d _ (am l);have w:=g _ (am l);by_cases e:(nth h.Objs i).Addr<=a/\a<(nth h.Objs i).Addr+(nth h.Objs i).Size
  ·repeat'(first|refine gD ?_|(conv=>whnf);first|with_reducible (first|refine CA (aa b) ?_|refine Bf.D (λn=>?_) (λn=>?_))|refine C9 ?_|refine CF rfl (aa b) rfl ?_)
   exact T0 (λz=>[I z]) (dB b (O0 e) k).symm
  ·repeat'(first|refine gD ?_|(conv=>whnf);first|with_reducible (first|refine CA (aa b) ?_|refine Bf.D (λn=>?_) (λn=>?_))|refine C9 ?_|refine CF rfl (aa b) rfl ?_)
   all_goals((conv=>whnf);refine CB (i+1) ⟨ω,cY b (Q0 e) k⟩ ω ?_;(exact wC))
 ·repeat'(first|refine gD ?_|(conv=>whnf);first|refine C9 ?_)
  exact T0 (λz=>[I z]) (fH ω k).symm
theorem wX(h:ab)(a:Int)(d:ab.sml h)(e:ab.wf h)(b:bk h []):ar Tryz.prog 48 false [.val (some 24) (ab.enc .imm h),.val none [I a]] .one [I (tE h a)]:=by
 have c:=sA h d e;rw[b.to]at c;have g:=JT h a b;refine fO 10 [] Tryz.func48 rfl ?_
 repeat'(first|refine gO ?_|(conv=>whnf);first|refine C9 ?_|refine C6 (c) ?_|refine CE (g) ⟨show dw (ab.enc .imm h)=ab.enc .imm h by rw[<-CT h,oe],⟨rfl,rfl⟩,trivial⟩ ?_)
 rfl
theorem Af{h:ab}(b:bk h []){a:Int}(e:0<=tE h a):(ao (tbl h) (a / 16)).Mode≠0/\0<=a/\a<512:=by
 obtain⟨c,d,f⟩:=Fs e;have:=jG b (am c) (k:=a - (nth h.Objs (tE h a).toNat).Addr) ω;rw[show(nth h.Objs (tE h a).toNat).Addr+(a - (nth h.Objs (tE h a).toNat).Addr)=a by omega]at this;exact⟨this.1,ω,ω⟩
theorem Hv(h:ab)(a:Int)(b:bk h [])(k:0<=a/\a<512)(l:(ao h.Kernel.Machine.Table (a / 16)).Mode≠0):ar Tryz.prog 115 false [.val (some 3) (aJ.enc .imm h.Kernel.Machine),.val none [I a]] (.tup [none,none]) [I (j8 h.Kernel a),I 0]:=by
 have d:=b6 b.ker;have n:=pS h.Kernel.Machine a (iz b.ker) d.1 k;obtain⟨-,-,-,o,q⟩:=ce b.ker l;have p:=(aT.1 (aB.1 b.ker).2.1).2.2.1;have c:h.Kernel.Machine.Frames.Cells[(ao h.Kernel.Machine.Table (a / 16)).Frame.toNat]? = some (nth h.Kernel.Machine.Frames.Cells (ao h.Kernel.Machine.Table (a / 16)).Frame.toNat):=ah ω;have e:=b.lens.row _ (am (xs:=h.Kernel.Machine.Frames.Cells) (i:=(ao h.Kernel.Machine.Table (a / 16)).Frame.toNat) ω);have g:=ah (xs:=nth h.Kernel.Machine.Frames.Cells (ao h.Kernel.Machine.Table (a / 16)).Frame.toNat) (i:=(a % 16).toNat) (by rw[e];omega);have j:a.tmod 16=a % 16:=dI k.1;refine fO 24 [] Tryz.func115 rfl ?_ (.inr ⟨trivial,trivial,trivial⟩)
 repeat'(first|refine gA ?_|(conv=>whnf);first|refine C9 ?_|refine C6 (n) ?_|refine CM j ?_|refine CK (by decide) ?_|refine CJ o (aa c) ?_|refine CJ ω (aa g) ?_|refine CF rfl (aa c) rfl ?_)
 rfl
theorem o6(h:ab)(a:Int)(g:ab.sml h)(b:bk h []):ar Tryz.prog 45 false [.val (some 24) (ab.enc .imm h),.val none [I a]] (.tup [none,none]) (if tE h a<0 then [I 0,I 1] else [I (j8 h.Kernel a),I 0]):=by
 have d:=k7 h a g b;by_cases e:tE h a<0
 ·rw[C8 e]
  refine fO 21 [] Tryz.func45 rfl ?_ (.inr ⟨trivial,trivial,trivial⟩)
  repeat'(first|refine gD ?_|(conv=>whnf);first|with_reducible refine Bf.D (λc=>?_) (λc=>?_)|refine C9 ?_|refine C6 (d) ?_)
  rfl
 ·rw[C7 e]
  obtain⟨i,j⟩:=Af b (show 0<=tE h a by omega);have k:=Hv h a b j i;refine fO 21 [] Tryz.func45 rfl ?_ (.inr ⟨trivial,trivial,trivial⟩)
  repeat'(first|refine gD ?_|(conv=>whnf);first|with_reducible refine Bf.D (λc=>?_) (λc=>?_)|refine C9 ?_|refine C6 (d) ?_|refine C6 (k) ?_)
  rfl
def uk(h:ab)(a v:Int):ab × Int:=if tE h a<0 then(h,1) else if(ao (tbl h) (a / 16)).Mode=1 then(h,2) else({h with Kernel:=cV h.Kernel a v},0)
theorem nq(h:ab)(a v:Int)(l:ab.sml h)(c:bk h [])(o:0<=v/\v<=999):ar Tryz.prog 46 false [.val (some 24) (ab.enc .imm h),.val none [I a],.val none [I v]] (.tup [some 24,none]) (xC (uk h a v).1++[I (uk h a v).2]):=by
 have i:=EQ h l;have j:=k7 h a l c;unfold uk;by_cases e:tE h a<0
 ·rw[C8 e]
  refine fO 38 [] Tryz.func46 rfl ?_ (.inr (aP (zZ _) ⟨trivial,trivial⟩))
  repeat'(first|refine gD ?_|(conv=>whnf);first|with_reducible refine Bf.D (λb=>?_) (λb=>?_)|refine C9 ?_|refine C6 (i) ?_|refine C6 (j) ?_)
  rfl
 ·rw[C7 e]
  obtain⟨n,p⟩:=Af c (show 0<=tE h a by omega);have k:=b6 c.ker;obtain⟨-,-,-,q,u⟩:=ce c.ker n;have r:=(aT.1 (aB.1 c.ker).2.1).2.2.1;have d:=EM h.Kernel.Machine a v (iz c.ker) k.1 p o (λ_=>⟨q,ω,c.lens.row _ (am ω)⟩);unfold fF at d;rw[C7 (show ¬(ao h.Kernel.Machine.Table (a / 16)).Mode=0 from n)]at d;by_cases g:(ao h.Kernel.Machine.Table (a / 16)).Mode=1
  ·rw[C8 g]at d
   rw[C8 (show(ao (tbl h) (a / 16)).Mode=1 from g)];refine fO 38 [] Tryz.func46 rfl ?_ (.inr (aP (zZ _) ⟨trivial,trivial⟩))
   repeat'(first|refine gA ?_|(conv=>whnf);first|with_reducible (first|refine Bf.D (λb=>?_) (λb=>?_)|refine Bf.E (λb=>?_) (λb=>?_))|refine C9 ?_|refine C6 (i) ?_|refine C6 (j) ?_|refine C6 (d) ?_)
   rfl
  ·rw[C7 g]at d
   rw[C7 (show ¬(ao (tbl h) (a / 16)).Mode=1 from g)];have t:xC {h with Kernel:=cV h.Kernel a v} = (xC h).set 0 (.s .own ((cV h.Kernel a v).Machine.Frames.Cells.map (aD .own))):=rfl;refine fO 38 [] Tryz.func46 rfl ?_ (.inr (aP (zZ _) ⟨trivial,trivial⟩))
   repeat'(first|refine gA ?_|(conv=>whnf);first|with_reducible (first|refine Bf.D (λb=>?_) (λb=>?_)|refine Bf.E (λb=>?_) (λb=>?_))|refine C9 ?_|refine C6 (i) ?_|refine C6 (j) ?_|refine C6 (d) ?_)
   rfl
theorem Kb{k:af}(c:aA k=true){a v:Int}(d:(ao k.Machine.Table (a / 16)).Mode≠0)(e:(nth k.Machine.Frames.Cells (dh k a)).length=16):cV (cV k a v) a (j8 k a)=k:=by
 obtain⟨f,i,-⟩:=eS c d;have j:dh (cV k a v) a=dh k a:=rfl;have b:dh k a<k.Machine.Frames.Cells.length:=f;unfold cV setCell;have g:nth (k.Machine.Frames.Cells.set (dh k a) ((nth k.Machine.Frames.Cells (dh k a)).set (a % 16).toNat v)) (dh k a)=(nth k.Machine.Frames.Cells (dh k a)).set (a % 16).toNat v:=by
  rw[bS,C8 ⟨rfl,b⟩]
 show({k with Machine:=⟨⟨(k.Machine.Frames.Cells.set (dh k a) ((nth k.Machine.Frames.Cells (dh k a)).set (a % 16).toNat v)).set (dh k a) ((nth (k.Machine.Frames.Cells.set (dh k a) ((nth k.Machine.Frames.Cells (dh k a)).set (a % 16).toNat v)) (dh k a)).set (a % 16).toNat (j8 k a)),k.Machine.Frames.Used⟩,k.Machine.Table⟩} : af)=k;rw[g,List.set_set,List.set_set];have h:(nth k.Machine.Frames.Cells (dh k a)).set (a % 16).toNat (j8 k a)=nth k.Machine.Frames.Cells (dh k a):=by
  unfold j8;exact zi (xs:=nth k.Machine.Frames.Cells (dh k a)) (by rw[e];omega)
 rw[h,zi b]
theorem E6{k:af}(b:aA k=true){a v:Int}(c:(ao k.Machine.Table (a / 16)).Mode≠0)(d:(nth k.Machine.Frames.Cells (dh k a)).length=16):j8 (cV k a v) a=v:=by
 obtain⟨e,g,-⟩:=eS b c;have f:dh k a<k.Machine.Frames.Cells.length:=e;show nth (nth (k.Machine.Frames.Cells.set (dh k a) ((nth k.Machine.Frames.Cells (dh k a)).set (a % 16).toNat v)) (dh k a)) (a % 16).toNat=v;rw[bS,C8 ⟨rfl,f⟩,bS,C8 ⟨rfl,by rw[d];omega⟩]
theorem Access_law(zs:List Int)(U:zs.length<=9223372036854775807/\∀y∈zs,0<=y/\y<=255):ar Tryz.prog 10 false [.val none (N3 zs)] .one [B true]:=by
 have n:=MZ zs U.1;by_cases V:(zs.length:Int) > 1048576
 ·rw[O0 V]at n
  refine fO 160 [(6,10,[24,25,26,27,28,29,30,31,32,33]),(9,268,[45,46,47,48,49,50,51,52,44,53,54,10,0,1,2,3,4,5,6,7,8,9,10,11,12,1010,13]),(12,30,[78,79,80,81,82,83,84,85,86,87,88,89,90,91,92,93,94,95,96,97,98,99,100,101,102,103,104,105,106,107])] Tryz.func10 rfl ?_
  repeat'(first|refine gO ?_|(conv=>whnf);first|refine C9 ?_|refine C6 (n) ?_)
  rfl
 rw[Q0 V]at n;have W:i6 zs:=⟨ω,U.2⟩
 have cD:=vY zs W;have cP:=tl zs W;obtain⟨-,pl,Y⟩:=zJ zs 12;have b:=(B6 zs).inv;obtain⟨o,O⟩:=Gu zs;have P:=BS zs;have hM:=HU zs;generalize drawn zs=w at *;generalize (qH zs 12).1=r at *;have c:=ah (xs:=r) (i:=0) ω;have C:=Y _ (am (xs:=r) (i:=0) ω);have d:=ah (xs:=r) (i:=1) ω;have E:=Y _ (am (xs:=r) (i:=1) ω);generalize nth r 0=p at *;generalize nth r 1=q at *;have g:=b.lens;have hpe:(w.Heap.Kernel.Machine.Table.Entries.length:Nat)<=32:=g.ents;have h1:=(bn.1 (aB.1 b.ker).2.2.1).2.1;have Q:=dI (y:=16*(w.Heap.Kernel.Machine.Table.Entries.length:Nat)) C.1;have Z:q.tmod 999=q % 999:=dI E.1;have hv:0<=IntKind.i64.wrap (1+q.tmod 999)/\IntKind.i64.wrap (1+q.tmod 999)<=999:=by
  rw[Z,eA ω ω];omega
 clear Z;have hlo:=g.objs;generalize p % (16*(w.Heap.Kernel.Machine.Table.Entries.length:Nat))=a at *;have L:=k7 w.Heap a o b;have F:=o6 w.Heap a o b;have h:=nq w.Heap a (IntKind.i64.wrap (1+q.tmod 999)) o b hv;have R:=Bb w.Heap o;have j:=Fr w.Heap;unfold uk at h;by_cases e:tE w.Heap a<0
 ·rw[C8 e]at F h
  have c5:=wX w.Heap a o O b;refine fO 160 [(6,10,[24,25,26,27,28,29,30,31,32,33]),(9,268,[45,46,47,48,49,50,51,52,44,53,54,10,0,1,2,3,4,5,6,7,8,9,10,11,12,1010,13]),(12,30,[78,79,80,81,82,83,84,85,86,87,88,89,90,91,92,93,94,95,96,97,98,99,100,101,102,103,104,105,106,107])] Tryz.func10 rfl ?_
  repeat'(first|refine gA ?_|(conv=>whnf);first|with_reducible refine Bf.D (λG=>?_) (λG=>?_)|refine C9 ?_|refine C6 (n) ?_|refine C6 (cD) ?_|refine C6 (cP) ?_|refine CA (aa c) ?_|refine CA (aa d) ?_|refine CF rfl (aa c) rfl ?_|refine CF rfl (aa d) rfl ?_|refine CK ω ?_|refine CM Q ?_|refine CM (show q.tmod 999=q.tmod 999 from rfl) ?_|refine CI (show IntKind.i64.wrap (1+q.tmod 999)=_ from rfl) ?_|refine C9 ?_|refine CE (L) ⟨⟨rfl,CT _⟩,⟨rfl,rfl⟩,trivial⟩ ?_|refine CE (F) ⟨⟨rfl,CT _⟩,⟨rfl,rfl⟩,trivial⟩ ?_|refine CE (h) ⟨⟨rfl,CT _⟩,⟨rfl,rfl⟩,⟨rfl,rfl⟩,trivial⟩ ?_|refine CE (R) ⟨⟨rfl,j⟩,⟨rfl,CT _⟩,trivial⟩ ?_|refine CE (c5) ⟨⟨rfl,CT _⟩,⟨rfl,rfl⟩,trivial⟩ ?_)
  exact T0 (λz=>[B z]) (O0 e)
 rw[C7 e]at F h;obtain⟨H,o2,o3⟩:=Fs (show 0<=tE w.Heap a by omega);have u:=ah H;obtain⟨i,hI⟩:=I2 (show 0<=tE w.Heap a by omega);rw[hI]at L H o2 o3 u;simp only[C2]at H o2 o3 u;have hb1:=lR b (am H);have hb2:=b.objSz _ (am H);obtain⟨M,m2⟩:=Af b (show 0<=tE w.Heap a by omega);by_cases k:(ao (tbl w.Heap) (a / 16)).Mode=1
 ·rw[C8 k]at h
  have J:w.Heap.Meshing=true:=by
   unfold ao at k;split at k
   ·exact(hM (a / 16).toNat k).1
   ·exact absurd k (by decide)
  refine fO 160 [(6,10,[24,25,26,27,28,29,30,31,32,33]),(9,268,[45,46,47,48,49,50,51,52,44,53,54,10,0,1,2,3,4,5,6,7,8,9,10,11,12,1010,13]),(12,30,[78,79,80,81,82,83,84,85,86,87,88,89,90,91,92,93,94,95,96,97,98,99,100,101,102,103,104,105,106,107])] Tryz.func10 rfl ?_
  repeat'(first|refine gA ?_|(conv=>whnf);first|with_reducible refine Bf.D (λG=>?_) (λG=>?_)|refine C9 ?_|refine C6 (n) ?_|refine C6 (cD) ?_|refine C6 (cP) ?_|refine CA (aa c) ?_|refine CA (aa d) ?_|refine CA (aa u) ?_|refine CF rfl (aa u) rfl ?_|refine CF rfl (aa c) rfl ?_|refine CF rfl (aa d) rfl ?_|refine CK ω ?_|refine CM Q ?_|refine CM (show q.tmod 999=q.tmod 999 from rfl) ?_|refine CI (show IntKind.i64.wrap (1+q.tmod 999)=_ from rfl) ?_|refine C9 ?_|refine CE (L) ⟨⟨rfl,CT _⟩,⟨rfl,rfl⟩,trivial⟩ ?_|refine CE (F) ⟨⟨rfl,CT _⟩,⟨rfl,rfl⟩,trivial⟩ ?_|refine CE (h) ⟨⟨rfl,CT _⟩,⟨rfl,rfl⟩,⟨rfl,rfl⟩,trivial⟩ ?_|refine CE (R) ⟨⟨rfl,j⟩,⟨rfl,CT _⟩,trivial⟩ ?_|refine Bf.t J ?_)
  exact T0 (λz=>[B z]) J
 rw[C7 k]at h;have hr:=g.row _ (am (xs:=w.Heap.Kernel.Machine.Frames.Cells) (eS b.ker M).1);obtain⟨S,-⟩:=b.store (a:=a) (v:=IntKind.i64.wrap (1+q.tmod 999)) M hv;have T:=GI b.ker a;have hX:({w.Heap with Kernel:=cV w.Heap.Kernel a (IntKind.i64.wrap (1+q.tmod 999))} : ab) = {w.Heap with Kernel:=cV w.Heap.Kernel a (IntKind.i64.wrap (1+q.tmod 999))}:=rfl;have eo:tE {w.Heap with Kernel:=cV w.Heap.Kernel a (IntKind.i64.wrap (1+q.tmod 999))} a=tE w.Heap a:=rfl;have xf:=(S.fit (by exact P) o.2.2.2.2.2.2.1).sml;have N:=o6 {w.Heap with Kernel:=cV w.Heap.Kernel a (IntKind.i64.wrap (1+q.tmod 999))} a xf S;have l:=nq {w.Heap with Kernel:=cV w.Heap.Kernel a (IntKind.i64.wrap (1+q.tmod 999))} a (j8 w.Heap.Kernel a) xf S T;unfold uk at l;rw[eo,C7 e]at N l;rw[C7 (show ¬(ao (tbl {w.Heap with Kernel:=cV w.Heap.Kernel a (IntKind.i64.wrap (1+q.tmod 999))}) (a / 16)).Mode=1 from k)]at l;simp only at N l;rw[E6 b.ker M hr]at N;rw[Kb b.ker M hr]at l;have K:=Fr {w.Heap with Kernel:=cV w.Heap.Kernel a (IntKind.i64.wrap (1+q.tmod 999))};simp only at h;change ar _ _ _ _ _ (xC w.Heap++_) at l;generalize ({w.Heap with Kernel:=cV w.Heap.Kernel a (IntKind.i64.wrap (1+q.tmod 999))} : ab)=X at *;refine fO 160 [(6,10,[24,25,26,27,28,29,30,31,32,33]),(9,268,[45,46,47,48,49,50,51,52,44,53,54,10,0,1,2,3,4,5,6,7,8,9,10,11,12,1010,13]),(12,30,[78,79,80,81,82,83,84,85,86,87,88,89,90,91,92,93,94,95,96,97,98,99,100,101,102,103,104,105,106,107])] Tryz.func10 rfl ?_
 repeat'(first|refine gA ?_|(conv=>whnf);first|with_reducible refine Bf.D (λG=>?_) (λG=>?_)|refine C9 ?_|refine C6 (n) ?_|refine C6 (cD) ?_|refine C6 (cP) ?_|refine CA (aa c) ?_|refine CA (aa d) ?_|refine CA (aa u) ?_|refine CF rfl (aa u) rfl ?_|refine CF rfl (aa c) rfl ?_|refine CF rfl (aa d) rfl ?_|refine CK ω ?_|refine CM Q ?_|refine CM (show q.tmod 999=q.tmod 999 from rfl) ?_|refine CI (show IntKind.i64.wrap (1+q.tmod 999)=_ from rfl) ?_|refine C9 ?_|refine CE (L) ⟨⟨rfl,CT _⟩,⟨rfl,rfl⟩,trivial⟩ ?_|refine CE (F) ⟨⟨rfl,CT _⟩,⟨rfl,rfl⟩,trivial⟩ ?_|refine CE (h) ⟨⟨rfl,CT _⟩,⟨rfl,rfl⟩,⟨rfl,rfl⟩,trivial⟩ ?_|refine CE (R) ⟨⟨rfl,j⟩,⟨rfl,CT _⟩,trivial⟩ ?_|refine CE (N) ⟨⟨rfl,K⟩,⟨rfl,rfl⟩,trivial⟩ ?_|refine CE (l) ⟨⟨rfl,K⟩,⟨rfl,rfl⟩,⟨rfl,rfl⟩,trivial⟩ ?_)
 rfl
open Go.RowKit Go.ChangeShapes Go.WideShapes Go.Deep
def ALL(w:World):ac:=λb _=>b<w.heap.size
def Ps{H:Type}(e:TypeId × Value->H)(P:Program)(w:World)(t n:Nat){α:Type}(enc:α->List C)(c:α->Prop):Prop:=
 ∀(fuel:Nat)(b:List Value)(x:DataW H × List MemPlace),DataW.trod e P w 0 (λ_=>true) true fuel t b=some x->b.length=n/\∃a,c a/\(enc a).length=n/\cB w (ALL w) NO (enc a) (λj=>b.getD j undef)
section
variable{H:Type}{e:TypeId × Value->H}{P:Program}{w:World}
theorem Ax{S F:ac}{c:C}{u:Nat->Value}(h:dJ w S F c (u 0)):cB w S F [c] u:=
 ⟨λ_=>F,λj e a=>by cases j with
   | zero=>simp at a;subst a;exact h
   | succ j=>simp at a,λ_ _ _ _ h=>h,λj f a b d=>by simp at a b;omega⟩
theorem pick{α β:Type}(n:Nat){Q:Nat->β->Prop}(h:∀i,i<n->∃b,Q i b):∃l:List β,l.length=n/\∀i b,l[i]? = some b->Q i b:=by
 induction n with
 | zero=>exact⟨[],rfl,λi b h=>by simp at h⟩
 | succ n c=>
  obtain⟨l,d,e⟩:=c λi a=>h i ω
  obtain⟨b,f⟩:=h n ω;refine⟨l++[b],by simp[d],λi g a=>?_⟩;by_cases j:i<n
  ·rw[W3 ω]at a;exact e i g a
  ·rw[X3 ω]at a
   have:i - l.length=0:=by
    have:=(V1.1 a).1;simp at this;omega
   rw[this]at a;simp at a;subst a;rw[show i=n by omega];exact f
theorem Jl{t T n:Nat}{α:Type}{enc:α->List C}{U:α->Prop}(V:Ps e P w T n enc U)(ht:P.underlying t=some (.slice T))(hn:P.cellsOf T=n)(p:0<n) :
  Ps e P w t 1 (λxs:List α=>[.s .imm (xs.map enc)]) (λxs=>xs.length<=9223372036854775807/\∀y∈xs,U y):=by
 intro fuel cs x h;rcases open_slice ht h with⟨rfl,-⟩|⟨k,len,cap,m,n',D,Pl,rfl,-,hl,hm,K,-,u⟩
 ·exact⟨rfl,[],⟨by simp,by simp⟩,rfl,Ax (.nil _ _ _ trivial)⟩
 ·simp only[if_true]at K
  subst K;have L:0<m->k.spot=none:=λW=>by
   obtain⟨E,M,N⟩:=u 0 W;rw[hn]at M;obtain⟨_,X,F⟩:=World.cells?_some M;have:=F 0 p;rw[U1 ω]at this;have:=World.cell?_spot this;simpa[Addr.add] using this
  have key:∀i,i<len->∃a,U a/\(enc a).length=n/\(∀d,d<n->∃z,cel w k.block (k.off+(i*n+d))=some z)/\k.spot=none/\cB w (ALL w) NO (enc a) (λd=>(cel w k.block (k.off+(i*n+d))).getD undef):=λi hil=>by
   have g:=L ω;obtain⟨E,M,N⟩:=u i ω;rw[hn]at M;obtain⟨h1,a,h3,h4,h5⟩:=V _ _ _ N;obtain⟨_,X,F⟩:=World.cells?_some M;have O:∀d,k.add d = ⟨k.block,k.off+d,none⟩:=λd=>by
    obtain⟨b,o,sp⟩:=k;simp only at g;subst g;unfold Addr.add;split<;>simp_all
   have A:∀d,d<n->cel w k.block (k.off+(i*n+d))=E[d]?:=λd J=>by
    have:=F d J;rw[Go.Deep.add_add,O]at this;exact this
   refine⟨a,h3,h4,λd J=>⟨_,by rw[A d J,U1 ω]⟩,g,h5.congr λd J=>?_⟩;show(cel w k.block (k.off+(i*n+d))).getD undef=E.getD d undef;rw[A d ω,List.getD]
  obtain⟨l,Q,B⟩:=pick (α:=α) len key;refine⟨rfl,l,⟨by simp only[maxLen]at hm;omega,λy R=>?_⟩,rfl,Ax ?_⟩
  ·obtain⟨i,G⟩:=List.mem_iff_getElem?.1 R
   exact(B i y G).1
  ·show dJ w (ALL w) NO (.s .imm (l.map enc)) (.slice (some k) len m)
   by_cases h0:len=0
   ·subst h0
    have:l=[]:=T5 Q;subst this;by_cases Y:m=0
    ·subst Y;exact .nil _ _ _ trivial
    ·have g:=L ω
     obtain⟨b,o,sp⟩:=k;simp only at g;subst g;exact .imm _ b o n 0 m [] (λ_=>undef) rfl (λr Z=>by simp at Z) hl (λq hq=>by simp at hq) (λi j r c u=>by simp at u)
   ·obtain⟨y0,hy0⟩ : ∃y,l[0]? = some y:=⟨_,U1 ω⟩
    have g:=(B 0 y0 hy0).2.2.2.1;obtain⟨b,o,sp⟩:=k;simp only at g;subst g;refine .imm _ b o n len m (l.map enc) (λq=>(cel w b (o+q)).getD undef) (by simpa using Q) (λr Z=>?_) hl (λq hq=>?_) (λi j r c u hj=>?_)
    ·obtain⟨y,R,rfl⟩:=U3.1 Z
     obtain⟨i,G⟩:=List.mem_iff_getElem?.1 R;exact(B i y G).2.1
    ·have hqd:q / n<len:=(Nat.div_lt_iff_lt_mul p).2 hq
     obtain⟨y,R⟩ : ∃y,l[q / n]? = some y:=⟨_,U1 ω⟩
     obtain⟨z,S⟩:=(B _ y R).2.2.1 (q % n) (Nat.mod_lt _ p);have J:q / n*n+q % n=q:=by rw[Nat.mul_comm];exact Nat.div_add_mod q n
     rw[J]at S;exact⟨Na S,by simp only at S |-;rw[S];rfl⟩
    ·rw[R2]at u
     cases H:l[i]? with
     | none=>rw[H]at u;cases u
     | some y=>
      rw[H]at u;simp only[C4,U0]at u;subst u;obtain⟨f,h1,h2,-⟩:=(B i y H).2.2.2.2;have hjl:=(V1.1 hj).1;exact(h1 j c hj).mono (λ_ _ h=>h) (h2 j hjl)
theorem row_val{S F:ac}{x:Value}{u:Nat->Value}(h:cB w S F [.v x] u):u 0=x:=by
 obtain⟨f,a,-⟩:=h;have:=a 0 _ rfl;cases this
 rfl
end
open Go.RowKit Go.ChangeShapes Go.WideShapes
section
variable{H:Type}{e:TypeId × Value->H}{P:Program}{w:World}
theorem Lo{t:Nat}(b:P.underlying t=some (.int .u8)):Ps e P w t 1 rU (λz=>0<=z/\z<=255):=by
 intro fuel c x h;obtain⟨n,rfl,-,a⟩:=DataW.trod_int b h;refine⟨rfl,n,?_,rfl,Ax (.v _ _ rfl)⟩;simp only[Lit.wf,I0,C0]at a;exact a
theorem op_ByteS:Ps e Tryz.prog w 22 1 (λzs:List Int=>[.s .imm (zs.map rU)]) (λzs=>zs.length<=9223372036854775807/\∀y∈zs,0<=y/\y<=255):=Jl (Lo Tryz.underlying5) Tryz.underlying22 (by kernel_rfl) (by decide)
end
end Go.Proofs.YtembpgjjnioagaaGreat.Ab
