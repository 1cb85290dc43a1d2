/- A small object's slot: the reference's. No condition. -/
import Derived.Test.YtembpgjjnioagaaGreatMd
import Derived.Test.YtembpgjjnioagaaGreatMg
import Derived.Test.YtembpgjjnioagaaGreatMf
import Derived.Test.YtembpgjjnioagaaGreatMe
import Derived.Test.YtembpgjjnioagaaGreatMc
import Derived.ProofKit
import Derived.OpenShut
import Derived.Deep.Slices
import Derived.Deep.Fields
import Derived.ChangeSame
import Derived.WideShapes
set_option linter.unusedVariables false
set_option linter.unusedSimpArgs false
set_option linter.constructorNameAsVariable false
namespace Go.Proofs.YtembpgjjnioagaaGreat.Ab
open Go.RowKit
set_option maxRecDepth 20000
set_option maxHeartbeats 4000000
theorem Bm {h:ab} {c:Int} {i:Nat} (li:i<h.Spans.length) (hc:r7 h c i=true) (hp:∀ j,j<i->r7 h c j=false):rG h c=some i:=
 List.find?_range_eq_some.2 ⟨hc,List.mem_range.2 li,fun j hj=>by rw[hp j hj];rfl⟩
theorem Be {h:ab} {c:Int} (hp:∀ j,j<h.Spans.length->r7 h c j=false):rG h c=none:=
 List.find?_range_eq_none.2 fun j hj=>by rw[hp j hj];rfl
theorem qZ {h:ab} {c:Int} {i:Nat} (hi:r7 h c i=false) (hp:∀ j,j<i->r7 h c j=false):∀ j,j<i+1->r7 h c j=false:=fun j hj=>by
 by_cases e:j=i
 ·rw[e];exact hi
 ·exact hp j (by omega)
theorem Hr (h:ab) (t:Nat) (c:aC):bu {h with Caches:=h.Caches.set t c} = (bu h).set 9 (.s .own ((h.Caches.map (aC.enc .own)).set t (aC.enc .own c))):=by
 simp[bu,List.map_set]
theorem HV {h:ab} {c:Nat} (hi:bm h []) (hc:c<=3) (hcl:h.Kernel.Calls<=90000) (h1:¬(ay h.Free 1).2.2=false) (h2:¬(fB h.Kernel (ay h.Free 1).2.1).2=false):bm (wH h c) []/\tB h<(wH h c).Spans.length:=by
 have hr':(ay h.Free 1).2.2=true:=by simpa using h1
 obtain⟨u1,u2,u3,u4⟩:=ko hi (Y3 1) hr';have s:=zN.of (p:=(ay h.Free 1).2.1) hi.ker (by omega) ⟨u1,by have:(ay h.Free 1).2.1+1<=(h.Kernel.Machine.Table.Entries.length:Nat):=u2;omega⟩ (u3 _ (by omega) (by omega));have hk':(fB h.Kernel (ay h.Free 1).2.1).2=true:=by simpa using h2
 have s':zN h.Kernel (ay h.Free 1).2.1 ((fB h.Kernel (ay h.Free 1).2.1).1,true):=by rw[<-hk'];exact s
 exact⟨hi.addS (c:=c) ⟨by omega,by omega⟩ hr' s',(Fx (Hk (ay h.Free 1).2.1) h.Spans ⟨(ay h.Free 1).2.1,c,0⟩).1⟩
theorem xq (h:ab) (t c:Nat) (hi:bm h []) (ht:t<h.Caches.length) (hc:c<=3) (hcl:h.Kernel.Calls<=90000):aT Tryz.prog 234 false [.ptr (bu h),.val none [I (t:Nat)],.val none [I (c:Nat)]] [.ptr (bu (ep h t c).1),.val none [I (t:Nat)],.val none [I (c:Nat)]] .one [I (ep h t c).2]:=by
 have hck:=hi.cach _ (am ht);have hcx:=ah ht;have c1:=ul (nth h.Caches t) c hck hc;have hls:=hi.lens.spans;have hv:=hi;unfold N2 at c1;by_cases hn:0<(nth (nth h.Caches t).Lists c).length
 ·unfold ep
  rw[if_pos hn]at c1 |-;simp only;rw[Hr];refine fM 80 [(291,[2,0]),(292,[2,0])] [(3,6,[27,28,29,30,31,32])] [(0,0),(0,0),(0,0)] Tryz.func234 rfl (fun u q=>?_)
  repeat'(first|refine gO ?_|(conv=>whnf);first|with_reducible refine Ix.nat (aa hcx) ?_|refine Rw.one rfl (aa hcx) rfl ?_|refine Cl.eq (c1) ⟨⟨rfl,aC.enc_fz _⟩,⟨rfl,rfl⟩,trivial⟩ ?_|refine Sm.rf ?_|refine Pu.one rfl rfl (aa hcx) rfl (W0 rfl) rfl ?_)
  refine aR.mk rfl rfl ?_;exact wC
 ·rw[if_neg hn]at c1
  have hsm:ep h t c=match rG h c with
   | some i=>(slotT h i,sV h i)
   | none=>if(ay h.Free 1).2.2=false then(h,-1)
    else if(fB h.Kernel (ay h.Free 1).2.1).2=false then({h with Kernel:=(fB h.Kernel (ay h.Free 1).2.1).1},-1)
    else mP (wH h c) (tB h):=by unfold ep;exact if_neg hn
  refine fM 80 [(291,[2,0]),(292,[2,0])] [(3,6,[27,28,29,30,31,32])] [(0,0),(0,0),(0,0)] Tryz.func234 rfl (fun u q=>?_)
  repeat'(first|refine gO ?_|(conv=>whnf);first|with_reducible refine Ix.nat (aa hcx) ?_|refine Rw.one rfl (aa hcx) rfl ?_|refine Cl.eq (c1) ⟨⟨rfl,aC.enc_fz _⟩,⟨rfl,rfl⟩,trivial⟩ ?_|refine Sm.rf ?_)
  (conv=>whnf)
  refine Lp.mk (ι:=Nat) (fun i=>[(0,.hold .box (bu h)),(1,.hold .one [I ((t:Nat):Int)]),(2,.hold .one [I ((c:Nat):Int)]),(10,.hold .one [I ((i:Nat):Int)])]) (fun i=>i<=h.Spans.length/\∀ j,j<i->r7 h c j=false) (fun i=>h.Spans.length - i) (0) ?_ (⟨Q0 _,fun j hj=>by omega⟩) fun i hi=>?_
  ·exact wC
  obtain⟨hi1,ha⟩:=hi;by_cases li:i<h.Spans.length
  ·have hx:=ah li
   by_cases e1:(nth h.Spans i).Class=c
   ·have c4:=sw h (nth h.Spans i).Page
    cases e2:gv h (nth h.Spans i).Page with
    | true=>
     rw[e2]at c4
     repeat'(first|refine gA ?_|(conv=>whnf);first|with_reducible refine Ix.nat (aa hx) ?_|refine Rw.one rfl (aa hx) rfl ?_|refine Cl.eq (c4) ⟨bA h,⟨rfl,rfl⟩,trivial⟩ ?_)
     ((conv=>whnf);refine Nx.mk (i+1) ⟨by omega,qZ (by unfold r7;rw[e2];simp) ha⟩ (by omega) ?_;(exact wC))
    | false=>
     rw[e2]at c4;have c5:=qm h [] i hv li;unfold mP at c5;by_cases e3:(mi h i).length=0
     ·rw[if_pos e3]at c5
      repeat'(first|refine gA ?_|(conv=>whnf);first|with_reducible refine Ix.nat (aa hx) ?_|refine Rw.one rfl (aa hx) rfl ?_|refine Cl.eq (c4) ⟨bA h,⟨rfl,rfl⟩,trivial⟩ ?_|refine cv.mk (c5) (.inl rfl) ?_)
      ((conv=>whnf);refine Nx.mk (i+1) ⟨by omega,qZ (by unfold r7;rw[P0 (by omega:¬0<(mi h i).length)];simp) ha⟩ (by omega) ?_;(exact wC))
     ·rw[if_neg e3]at c5
      have hf:rG h c=some i:=Bm li (by unfold r7;rw[O0 e1,e2,O0 (by omega)];rfl) ha;rw[hf]at hsm;simp only at hsm;obtain⟨k1,k2⟩:=hv.slotT li (by omega:0<(mi h i).length);have hnn:=iU.nn k1 k2;rw[hsm];generalize slotT h i=g at c5 |-;generalize sV h i=a at c5 hnn |-
      repeat'(first|refine gA ?_|(conv=>whnf);first|with_reducible refine Ix.nat (aa hx) ?_|refine Rw.one rfl (aa hx) rfl ?_|refine Cl.eq (c4) ⟨bA h,⟨rfl,rfl⟩,trivial⟩ ?_|refine cv.mk (c5) (.inl rfl) ?_)
      refine aR.mk rfl rfl ?_;exact wC
   ·repeat'(first|refine gA ?_|(conv=>whnf);first|with_reducible refine Ix.nat (aa hx) ?_|refine Rw.one rfl (aa hx) rfl ?_)
    ((conv=>whnf);refine Nx.mk (i+1) ⟨by omega,qZ (by unfold r7;rw[P0 e1];rfl) ha⟩ (by omega) ?_;(exact wC))
  ·obtain rfl:i=h.Spans.length:=by omega
   have hf:rG h c=none:=Be ha;rw[hf]at hsm;simp only at hsm;have c6:=yZ h [] c hv hcl;rw[hsm];unfold Fj at c6;by_cases r1:(ay h.Free 1).2.2=false
   ·rw[if_pos r1]at c6 |-
    repeat'(first|refine gD ?_|(conv=>whnf);first|refine cv.mk (c6) (.inl rfl) ?_)
    refine aR.mk rfl rfl ?_;exact wC
   ·rw[if_neg r1]at c6 |-
    by_cases r2:(fB h.Kernel (ay h.Free 1).2.1).2=false
    ·rw[if_pos r2]at c6 |-
     repeat'(first|refine gD ?_|(conv=>whnf);first|refine cv.mk (c6) (.inl rfl) ?_)
     refine aR.mk rfl rfl ?_;exact wC
    ·rw[if_neg r2]at c6 |-
     obtain⟨n1,n2⟩:=HV hv hc hcl r1 r2;have c7:=qm (wH h c) [] (tB h) n1 n2;generalize wH h c=g at c6 c7 |-;generalize tB h=b at c6 c7 |-
     repeat'(first|refine gD ?_|(conv=>whnf);first|refine cv.mk (c6) (.inl rfl) ?_|refine cv.mk (c7) (.inl rfl) ?_)
     refine aR.mk rfl rfl ?_;exact wC
def G0 (h:ab) (size:Int):ab × Int:=
 if(ay h.Free (jU size:Nat)).2.2=false then(h,-1)
 else if(i7 h size).2=jU size then({h with Kernel:=(i7 h size).1,Free:=(ay h.Free (jU size:Nat)).1,Larges:=iK (Mm (ay h.Free (jU size:Nat)).2.1) h.Larges ⟨(ay h.Free (jU size:Nat)).2.1,(jU size:Nat),size⟩},16*(ay h.Free (jU size:Nat)).2.1)
 else({h with Kernel:=dL (i7 h size).1 (ay h.Free (jU size:Nat)).2.1 (i7 h size).2},-1)
theorem tY (k:af) (p:Int) (i:Nat):cr k p (i+1)=if(cr k p i).2=i then((fB (cr k p i).1 (p+(i:Nat))).1,if(fB (cr k p i).1 (p+(i:Nat))).2=true then i+1 else i) else cr k p i:=rfl
theorem BO (k:af) (p:Int):∀ i,(cr k p i).2<=i
 | 0=>I2 _
 | i+1=>by
  have ih:=BO k p i;rw[tY];by_cases e:(cr k p i).2=i
  ·rw[if_pos e]
   show(if _ then i+1 else i)<=i+1;by_cases e2:(fB (cr k p i).1 (p+(i:Nat))).2=true
   ·rw[if_pos e2];exact I2 _
   ·rw[if_neg e2];exact Nat.le_succ _
  ·rw[if_neg e];omega
theorem mn {k:af} {p:Int} {i:Nat} (h:(cr k p i).2≠i):∀ j,cr k p (i+j)=cr k p i/\(cr k p (i+j)).2<i+j
 | 0=>⟨rfl,by show(cr k p i).2<i;have:=BO k p i;omega⟩
 | j+1=>by
  have ih:=mn h j;have e:cr k p (i+(j+1))=cr k p (i+j):=by
   show cr k p (i+j+1)=_;rw[tY,if_neg (by omega)]
  exact⟨e.trans ih.1,by rw[e];omega⟩
theorem x5 (h:ab) (size:Int) (hi:bm h []) (hz:9<=size/\size<=1000) (hcl:h.Kernel.Calls<=90000):aT Tryz.prog 235 false [.ptr (bu h),.val none [I size]] [.ptr (bu (G0 h size).1),.val none [I size]] .one [I (G0 h size).2]:=by
 have hl:=hi.lens;have hls:=hl.larges;have hv:=hi;have hpg:dG h<=32:=hl.ents;have hpf:eC size=((jU size:Nat):Int):=by unfold eC jU;split<;>omega
 have hN:1<=jU size/\jU size<=63:=by unfold jU;omega
 have c0:=kI size;rw[hpf]at c0;have c1:=gm h;have c2:=nJ (dG h:Nat) h.Free (jU size:Nat) ⟨by omega,by omega⟩ hi.rng ⟨by omega,by omega⟩ (by have:=hl.free;omega);unfold Nh at c2;have hun:=ko hi (show(1:Int)<=(jU size:Nat) by omega);unfold G0 i7;generalize jU size=N at *;generalize ay h.Free (N:Nat)=r at c2 hun |-;obtain⟨fr,p,ok⟩:=r;simp only at c2 hun |-;refine fM 105 [(296,[2,0]),(297,[2,0]),(2000018,[0,7])] [(2,268,[16,17,18,19,20,21,22,23,15,24,25,26,0,1,2,3,4,5,6,7,8,9,10,11,12,1010,1011,13,1011,14])] [(0,0),(0,0)] Tryz.func235 rfl (fun u q=>?_);cases ok with
 | false=>
  rw[if_pos rfl]
  repeat'(first|refine gO ?_|(conv=>whnf);first|refine Sm.rf ?_|refine Cl.mk (c0) ?_|refine Cl.eq (c1) ⟨bA h,trivial⟩ ?_|refine Cl.eq (c2) ⟨⟨rfl,rfl⟩,⟨rfl,dE h.Free⟩,⟨rfl,rfl⟩,trivial⟩ ?_|refine Sm.rf ?_)
  refine aR.mk rfl rfl ?_;exact wC
 | true=>
  rw[if_neg (by simp)];obtain⟨u1,u2,u3,u4⟩:=hun rfl;change p+(N:Nat)<=(h.Kernel.Machine.Table.Entries.length:Nat) at u2;change ∀ q:Nat,p<=q->(q:Int)<p+(N:Nat)->(nth h.Kernel.Machine.Table.Entries q).Mode=0 at u3
  have hte:h.Kernel.Machine.Table.Entries.length<=32:=hpg
  repeat'(first|refine gO ?_|(conv=>whnf);first|refine Sm.rf ?_|refine Cl.mk (c0) ?_|refine Cl.eq (c1) ⟨bA h,trivial⟩ ?_|refine Cl.eq (c2) ⟨⟨rfl,rfl⟩,⟨rfl,dE h.Free⟩,⟨rfl,rfl⟩,trivial⟩ ?_|refine Sm.rf ?_)
  (conv=>whnf)
  refine Lp.mk (ι:=Nat) (fun i=>[(0,.hold .box (bu {h with Kernel:=(cr h.Kernel p i).1})),(1,.hold .one [I (size)]),(5,.hold .one [I ((N:Nat):Int)]),(6,.hold .one (bD .own fr)),(7,.hold .one [I (p)]),(9,.hold .one [I ((i:Nat):Int)])]) (fun i=>i<=N/\(cr h.Kernel p i).2=i) (fun i=>N - i) (0) ?_ (⟨Q0 _,rfl⟩) fun i hi=>?_
  ·exact wC
  obtain⟨hi1,h2⟩:=hi;have s:=nu.of (p:=p) (n:=N) hv.ker (by omega) ⟨u1,u2⟩ u3 i hi1;have hsc:=s.calls;have hsl:=s.len;by_cases li:i<N
  ·have hmo:(nth (cr h.Kernel p i).1.Machine.Table.Entries (p+(i:Nat)).toNat).Mode=0:=by
    rw[s.out _ (by rw[h2];omega)];exact u3 _ (by omega) (by omega)
   have c3:=BM {h with Kernel:=(cr h.Kernel p i).1} (p+(i:Nat)) s.ker (by show(cr h.Kernel p i).1.Calls≠100000;omega) ⟨by omega,by show p+(i:Nat)<((cr h.Kernel p i).1.Machine.Table.Entries.length:Nat);omega⟩ hmo;have hn:cr h.Kernel p (i+1)=((fB (cr h.Kernel p i).1 (p+(i:Nat))).1,if(fB (cr h.Kernel p i).1 (p+(i:Nat))).2=true then i+1 else i):=by
    show(if(cr h.Kernel p i).2=i then _ else _)=_;rw[if_pos h2]
   simp only at c3;cases e:(fB (cr h.Kernel p i).1 (p+(i:Nat))).2 with
   | true=>
    rw[e]at c3 hn;rw[if_pos rfl]at hn;have hn1:(fB (cr h.Kernel p i).1 (p+(i:Nat))).1=(cr h.Kernel p (i+1)).1:=by rw[hn]
    rw[hn1]at c3
    repeat'(first|refine gD ?_|(conv=>whnf);first|refine Sm.rf ?_|refine cv.mk (c3) (.inl rfl) ?_)
    ((conv=>whnf);refine Nx.mk (i+1) ⟨by omega,by rw[hn]⟩ (by omega) ?_;(exact wC))
   | false=>
    rw[e]at c3 hn;rw[if_neg (by simp)]at hn;have hst:=mn (k:=h.Kernel) (p:=p) (i:=i+1) (by rw[hn];simp only;omega) (N - (i+1));rw[show i+1+(N - (i+1))=N by omega]at hst;rw[hst.1]at hst;have s1:=nu.of (p:=p) (n:=N) hv.ker (by omega) ⟨u1,u2⟩ u3 (i+1) (by omega);rw[if_neg (by have:=mn (k:=h.Kernel) (p:=p) (i:=i+1) (by rw[hn];simp only;omega) (N - (i+1));rw[show i+1+(N - (i+1))=N by omega]at this;omega)];rw[show cr h.Kernel p N=cr h.Kernel p (i+1) by have:=mn (k:=h.Kernel) (p:=p) (i:=i+1) (by rw[hn];simp only;omega) (N - (i+1));rw[show i+1+(N - (i+1))=N by omega]at this;exact this.1];rw[hn]at s1 |-;have hk1:=s1.ker;simp only at hk1 |-;generalize (fB (cr h.Kernel p i).1 (p+(i:Nat))).1=k at c3 hk1 |-
    repeat'(first|refine gD ?_|(conv=>whnf);first|refine Sm.rf ?_|refine cv.mk (c3) (.inl rfl) ?_)
    (conv=>whnf)
    refine Lp.mk (ι:=Nat) (fun j=>[(0,.hold .box (bu {h with Kernel:=dL k p j})),(1,.hold .one [I (size)]),(5,.hold .one [I ((N:Nat):Int)]),(7,.hold .one [I (p)]),(9,.hold .one [I ((i:Nat):Int)]),(10,.hold .one [I ((j:Nat):Int)])]) (fun j=>j<=i) (fun j=>i - j) (0) ?_ (Q0 _) fun j hj=>?_
    ·exact wC
    have c4:=lM {h with Kernel:=dL k p j} (p+(j:Nat)) (jY hk1 p j);by_cases lj:j<i
    ·repeat'(first|refine gD ?_|(conv=>whnf);first|refine Sm.rf ?_|refine cv.mk (c4) (.inl rfl) ?_)
     ((conv=>whnf);refine Nx.mk (j+1) (by omega) (by omega) ?_;(exact wC))
    ·obtain rfl:j=i:=by omega
     repeat'(first|refine gD ?_|(conv=>whnf);first|refine Sm.rf ?_)
     refine aR.mk rfl rfl ?_;exact wC
  ·obtain rfl:i=N:=by omega
   rw[if_pos h2];generalize (cr h.Kernel p i).1=k
   repeat'(first|refine gD ?_|(conv=>whnf);first|refine Sm.rf ?_)
   (conv=>whnf)
   refine Lp.mk (ι:=Nat) (fun m=>[(0,.hold .box (bu {h with Kernel:=k,Free:=fr})),(1,.hold .one [I (size)]),(5,.hold .one [I ((i:Nat):Int)]),(7,.hold .one [I (p)]),(11,.hold .one [I ((m:Nat):Int)])]) (fun m=>m<=h.Larges.length/\∀ (j:Nat) (z:aA),j<m->h.Larges[j]? = some z->Mm p z=false) (fun m=>h.Larges.length - m) (0) ?_ (⟨Q0 _,fun j z hj=>by omega⟩) fun m hm=>?_
   ·exact wC
   obtain⟨hm',ha⟩:=hm;have hl2:({h with Kernel:=k,Free:=fr} : ab).Larges.length=h.Larges.length:=rfl;by_cases go:m<h.Larges.length/\(nth h.Larges m).Page<p
   ·have hx:=ah go.1
    repeat'(first|refine gD ?_|(conv=>whnf);first|with_reducible refine Ix.nat (aa hx) ?_|refine Sm.rf ?_|refine Rw.one rfl (aa hx) rfl ?_)
    ((conv=>whnf);refine Nx.mk (m+1) ⟨by omega,dl hx (P0 (by omega)) ha⟩ (by omega) ?_;(exact wC))
   ·have hpos:jt (Mm p) h.Larges=m:=tR (by omega) ha fun z hz=>by
     have hlt:=(R1.1 hz).1;have:z=nth h.Larges m:=(bq hz).symm;subst this;exact O0 (by omega)
    have hx:m<h.Larges.length->h.Larges[m]? = some (nth h.Larges m):=fun hh=>ah hh
    rw[tQ hpos]
    repeat'(first|refine gD ?_|(conv=>whnf);first|with_reducible (first|refine Ix.nat (aa (hx (by omega))) ?_|refine Bf.D (fun hq=>?_) (fun hq=>?_))|refine Sm.rf ?_|refine Rw.one rfl (aa (hx (by omega))) rfl ?_|refine DL.mk rfl (xL h.Larges) rfl ?_|refine Sl.pre m rfl (by rw[U0];omega) (aO fun _=>rfl) I3 ?_|refine Sl.suf m rfl (by rw[U0];omega) (aO fun _=>rfl) O3 ?_|refine Ap.cp (fun _=>rfl) (fun _=>rfl) (by rw[C1];omega) (by decide) ?_|refine Ap.sn (aO fun _=>rfl) rfl (by rw[U0,C1];omega) (by decide) rfl ?_|refine Ap.ins (e:=aA.enc .imm) (y:=⟨p,(i:Nat),size⟩) rfl (fun _=>rfl) (fun _=>rfl) (by omega) (by decide) ?_)
    all_goals
     refine aR.mk rfl ?_ ?_
     ·exact R0 (fun z=>[I z]) (by omega)
     ·exact wC
theorem BD {k:af} (h:a8 k=true) (hr:i9 k.Refuse):af.wf k:=by
 obtain⟨h1,h2,h3,h4,h5⟩:=aB.1 h;obtain⟨g1,g2,g3,g4⟩:=aU.1 h2;obtain⟨t1,t2,t3⟩:=bt.1 h3;refine⟨⟨⟨⟨by omega,fun r hr=>?_⟩,⟨by omega,fun _ _=>trivial⟩⟩,⟨by omega,fun e he=>?_⟩⟩,⟨by omega,by omega⟩,hr⟩
 ·obtain⟨j,hj,rfl⟩:=bc hr
  obtain⟨r1,r2⟩:=zX h hj;exact⟨by omega,fun v hv=>by have:=r2 v hv;exact⟨by omega,by omega⟩⟩
 ·obtain⟨j,hj,rfl⟩:=bc he
  have h6:=t1 j hj;unfold jQ at h6;rw[C0]at h6;by_cases hm:(nth k.Machine.Table.Entries j).Mode=0
  ·have:=h6.2.2.1 hm;exact⟨⟨by omega,by omega⟩,⟨by omega,by omega⟩⟩
  ·have:=h6.2.2.2 hm;exact⟨⟨by omega,by omega⟩,⟨by omega,by omega⟩⟩
theorem Fh {p:cg} (h:ew p=true):cg.wf p:=by
 have hc:=fun i hi=>kQ h (i:=i) hi
 have hl:p.Cells.length<=16:=lz h;unfold ew at h;simp only[I0,C0]at h;exact⟨⟨by omega,by omega⟩,⟨by omega,by omega⟩,⟨by omega,fun v hv=>by
   obtain⟨j,hj,rfl⟩:=bc hv;have:=hc j hj;exact⟨by omega,by omega⟩⟩⟩
theorem bm.jobWf {h:ab} {E:List Int} (hi:bm h E):co.wf h.Job/\co.sml h.Job:=by
 cases hm:h.Meshing with
 | true=>
  obtain⟨j2,j3,j4,j5,j6⟩:=fj.1 (hi.job hm).1;have hl:=lz j2;exact⟨⟨Fh j2,⟨by omega,by omega⟩,⟨by omega,by omega⟩⟩,by show h.Job.Plan.Cells.length<=1048576;omega⟩
 | false=>
  have:=hi.noj hm;unfold qw at this;rw[C0]at this;obtain⟨n1,n2,n3,n4,n5⟩:=this;refine⟨⟨⟨⟨by omega,by omega⟩,⟨by omega,by omega⟩,⟨by omega,fun v hv=>?_⟩⟩,⟨by omega,by omega⟩,⟨by omega,by omega⟩⟩,by show h.Job.Plan.Cells.length<=1048576;omega⟩;rw[List.eq_nil_of_length_eq_zero n3]at hv;cases hv
theorem w8 {n:Int} (h:0<=aN n):1<=n/\n<=8:=by
 unfold aN at h
 repeat' split at h
 all_goals omega
theorem iU.wf {h:ab} {E:List Int} (hi:bm h E) {a c:Int} (hs:iU h.Spans a c):l7 a:=by
 have:=hs.bd hi;exact⟨by omega,by omega⟩
theorem bm.wf {h:ab} {E:List Int} (hi:bm h E) (hr:i9 h.Kernel.Refuse):ab.wf h:=by
 have hl:=hi.lens;have hL:=hi.L;have hn:=hi.nums;unfold bU at hn;rw[C0]at hn;obtain⟨r1,r2,r3⟩:=eU.1 hi.rng;obtain⟨q1,-,-,q4,q5,-⟩:=iM.1 hi.quar;have hm:=hi.mail;have hfl:=hi.hfl;unfold aL at hfl;rw[if_pos hm]at hfl;unfold bC at hm;simp only[I0,C0,cn,gg,z3,lW,KX]at hm;obtain⟨⟨⟨m1,m2,m3⟩,m4⟩,m5⟩:=hm;have h1:=hl.free;have h2:=hl.spans;have h3:=hl.larges;have h4:=hl.objs;have h5:=hl.caches;have h6:=hl.quar;have hlen:∀ n:Nat,bo h.Mail n<=bo h.Mail (n+1):=fun n=>by simp only[bo];omega
 have hmono:∀ a b:Nat,a<=b->bo h.Mail a<=bo h.Mail b:=fun a b hab=>by
  induction hab with
  | refl=>exact Y3 _
  | step _ ih=>exact X3 ih (hlen _)
 have hnn:∀ n:Nat,0<=bo h.Mail n:=fun n=>hmono 0 n (Q0 _)
 have hrow:∀ i,i<h.Mail.Buffers.length->(nth h.Mail.Buffers i).length<=30/\(nth h.Mail.Inbox i).length<=30:=fun i hi'=>by
  have e1:=hmono (i+1) h.Mail.Buffers.length (by omega);have e2:=hnn i;simp only[bo]at e1;omega
 refine⟨BD hi.ker hr,⟨by omega,fun x hx=>?_⟩,⟨by omega,fun x hx=>?_⟩,⟨by omega,fun x hx=>?_⟩,⟨by omega,fun x hx=>?_⟩,⟨by omega,fun x hx=>?_⟩,⟨⟨by omega,fun l hl'=>?_⟩,⟨by omega,fun l hl'=>?_⟩⟩,⟨⟨by omega,by omega⟩,⟨by omega,fun x hx=>?_⟩⟩,⟨by omega,by omega⟩,⟨by omega,by omega⟩,⟨by omega,by omega⟩,⟨by omega,by omega⟩,trivial,hi.jobWf.1⟩
 ·have:=r2 x hx;exact⟨⟨by omega,by omega⟩,⟨by omega,by omega⟩⟩
 ·have hs:=hL.sok x hx
  have hb:=eg hs;have hc:=aG hs;exact⟨⟨by omega,by omega⟩,⟨by omega,by omega⟩,⟨by omega,by omega⟩⟩
 ·have h7:=aV (hL.lok x hx)
  have h8:=cw (hL.lok x hx);exact⟨⟨by omega,by omega⟩,⟨by omega,by omega⟩,⟨by omega,by omega⟩⟩
 ·obtain⟨o1,o2,o3,o4⟩:=hi.onu x hx
  have hab:0<=x.Addr/\x.Addr<512/\-1000<=x.Size/\x.Size<=1000:=by
   rcases hi.oow x hx with⟨s,hs,h1,h2⟩|⟨l,hl',e1,e2⟩
   ·have hc:=aG (hL.sok s hs)
    have:=w8 (n:=x.Size) (by omega);exact⟨by have:=h1.1;omega,by have:=h1.2.1;omega,by omega,by omega⟩
   ·have h7:=aV (hL.lok l hl')
    have h8:=cw (hL.lok l hl');omega
  exact⟨⟨by omega,by omega⟩,⟨by omega,by omega⟩,⟨by omega,by omega⟩,⟨by omega,by omega⟩⟩
 ·obtain⟨c1,c2⟩:=hl.lists x hx
  refine⟨by omega,fun l hl'=>⟨by have:=c2 l hl';omega,fun a ha=>?_⟩⟩;obtain⟨j,hj,rfl⟩:=bc hl';exact iU.wf hi (hi.hca x hx j hj a ha)
 ·obtain⟨i,hi',rfl⟩:=bc hl'
  have hb:=hrow i hi';refine⟨by omega,fun p hp=>?_⟩;have hpo:=(m4 i hi').1 p hp;exact⟨⟨by omega,by omega⟩,iU.wf hi (hfl p.Addr (C2.2 (.inl (List.mem_flatMap.2 ⟨_,am hi',P3.2 ⟨p,hp,rfl⟩⟩))))⟩
 ·obtain⟨i,hi',rfl⟩:=bc hl'
  have hb:=hrow i (by omega);exact⟨by omega,fun a ha=>iU.wf hi (hfl a (C2.2 (.inr (List.mem_flatten.2 ⟨_,am hi',ha⟩))))⟩
 ·have h7:=q1 x hx
  have h8:=hi.snc x hx;exact⟨iU.wf hi (hi.hqu x hx),⟨by omega,by omega⟩,⟨by omega,by omega⟩⟩
structure Pf (h:ab):Prop where
 ker:a8 h.Kernel=true
 wf:ab.wf h
 sml:ab.sml h
 lens:LF h
theorem bm.fit {h:ab} {E:List Int} (hi:bm h E) (hr:i9 h.Kernel.Refuse) (hm:aH.sml h.Mail):Pf h:=⟨hi.ker,hi.wf hr,hi.lens.sml hi.ker hm hi.jobWf.2,hi.lens⟩
theorem uY {h:ab} (hi:bm h []) (hm:h.Meshing=true):a8 (mStep h).Kernel=true/\(mStep h).Kernel.Calls<=h.Kernel.Calls+1/\(mStep h).Kernel.Refuse=h.Kernel.Refuse/\(mStep h).Mail=h.Mail/\(D3 h=true->(mStep h).Meshing=false)/\co.wf (mStep h).Job/\co.sml (mStep h).Job:=by
 have s:=JS.of hi hm;refine⟨s.ker,s.calls.2.1,s.calls.2.2,rfl,fun hd=>?_,?_⟩
 ·unfold D3 at hd
  rw[C0]at hd;show(if over _=true then false else h.Meshing)=false;rw[if_pos (show over (iI h.Kernel h.Job).2=true from O0 (.inl hd))]
 ·show co.wf (if over _=true then _ else _)/\co.sml (if over _=true then _ else _)
  split
  ·exact⟨⟨⟨⟨by decide,by decide⟩,⟨by decide,by decide⟩,⟨by decide,fun v hv=>by cases hv⟩⟩,⟨by decide,by decide⟩,⟨by decide,by decide⟩⟩,by show(0:Nat)<=1048576;omega⟩
  ·have hp:=(fj.1 (hi.job hm).1).1
   have hpl:=lz hp;obtain⟨s1,s2⟩:=s.ph;obtain⟨s3,s4⟩:=s.nxt;have e:=s.plan;refine⟨⟨by rw[e];exact Fh hp,⟨by omega,by omega⟩,⟨by omega,by rw[e]at s4;omega⟩⟩,by show((iI h.Kernel h.Job).2.Plan.Cells).length<=1048576;rw[e];omega⟩
def tz (h:ab):Nat->ab × Bool
 | 0=>(h,false)
 | i+1=>if(tz h i).1.Meshing=true then(mStep (tz h i).1,D3 (tz h i).1) else tz h i
def fin (h:ab):ab × Bool:=tz h 100
theorem sH {h:ab} (hi:bm h []):bm (started h).1 []/\(started h).1.Kernel=h.Kernel/\(started h).1.Mail=h.Mail:=by
 have hn:=hi.nums;unfold bU at hn;rw[C0]at hn;have hsd:=(lg (bL h).length (show 0<=h.Seed/\h.Seed<=1073741823 by omega) ((bL h).length - 1)).2;have hpo:=pD (bL h) (show 0<=h.Seed/\h.Seed<=1073741823 by omega);have hnum:bU {h with Seed:=(shuf (bL h).length h.Seed).2} = true:=by
  unfold bU;rw[C0];unfold shuf;simp only;omega
 cases hp:lP (bL h) h.Seed with
 | nil=>
  have hst:Ab.started h=({h with Seed:=(shuf (bL h).length h.Seed).2},false):=by unfold Ab.started;rw[hp]
  rw[hst];exact⟨{hi with nums:=hnum},rfl,rfl⟩
 | cons q qs=>
  obtain⟨k1,k2,k3⟩:=hpo q (by rw[hp];exact I1 ..);have hst:Ab.started h=({h with Seed:=(shuf (bL h).length h.Seed).2,Meshing:=true,Job:=vm (d2 (nth (bL h) q.A.toNat) (nth (bL h) q.B.toNat))},true):=by unfold Ab.started;rw[hp]
  rw[hst];have hmem:∀ s∈bL h,s∈h.Spans:=fun s hs=>o7 h (I2 _) s (List.mem_of_mem_take hs)
  have ha:=hmem _ (am (xs:=bL h) (i:=q.A.toNat) (by omega));have hb:=hmem _ (am (xs:=bL h) (i:=q.B.toNat) (by omega));generalize nth (bL h) q.A.toNat=a at k3 ha |-;generalize nth (bL h) q.B.toNat=b at k3 hb |-;obtain⟨p1,p2,p3⟩:=rQ k3;have hjo:iR (vm (d2 a b))=true:=fj.2 ⟨p1,by show(0:Int)<=0;omega,by show(0:Int)<=5;omega,by show(0:Int)<=0;omega,by show(0:Int)<=(((d2 a b).Cells.length:Nat):Int);omega⟩;have hpl:(∃ s∈h.Spans,s.Page=(d2 a b).Keep)/\∃ s∈h.Spans,s.Page=(d2 a b).Move:=by
   unfold d2;split
   ·exact⟨⟨b,hb,rfl⟩,⟨a,ha,rfl⟩⟩
   ·exact⟨⟨a,ha,rfl⟩,⟨b,hb,rfl⟩⟩
  exact⟨{hi with nums:=hnum,job:=fun _=>⟨hjo,hpl⟩,noj:=fun e=>by cases e},rfl,rfl⟩
theorem bm.objSz {h:ab} {E:List Int} (hi:bm h E):∀ o∈h.Objs,0<=o.Size/\o.Size<=1000:=fun x hx=>by
 rcases hi.oow x hx with⟨s,hs,h1,h2⟩|⟨l,hl',e1,e2⟩
 ·have hc:=aG (hi.L.sok s hs)
  have:=w8 (n:=x.Size) (by omega);omega
 ·have h8:=cw (hi.L.lok l hl')
  omega
theorem Hj {h:ab} (t:Int) {size:Int} (hi:bm h []) (hz:9<=size/\size<=1000):nQ h t size=if(G0 h size).2<0 then((G0 h size).1,-1,4) else(addO (G0 h size).1 (G0 h size).2 size t,(G0 h size).2,0):=by
 unfold nQ G0;by_cases r1:(ay h.Free (jU size:Nat)).2.2=false
 ·rw[if_pos r1,if_pos r1]
  exact(if_pos (show(-1:Int)<0 by decide)).symm
 ·rw[if_neg r1,if_neg r1]
  obtain⟨u1,-⟩:=ko hi (show(1:Int)<=(jU size:Nat) by unfold jU;omega) (by simpa using r1);by_cases r2:(i7 h size).2=jU size
  ·rw[if_pos r2,if_pos r2]
   exact(if_neg (show ¬16*(ay h.Free (jU size:Nat)).2.1<0 by omega)).symm
  ·rw[if_neg r2,if_neg r2]
   exact(if_pos (show(-1:Int)<0 by decide)).symm
theorem xe (h:ab) (t size:Int) (hi:bm h []):aT Tryz.prog 143 false [.ptr (bu h),.val none [I t],.val none [I size]] [.ptr (bu (fw h t size).1),.val none [I t],.val none [I size]] (.tup [none,none]) [I (fw h t size).2.1,I (fw h t size).2.2]:=by
 have hl:=hi.lens;have hlc:=hl.caches;have hlo:=hl.objs;have hnum:=hi.nums;unfold bU at hnum;rw[C0]at hnum;have hsz:=r9 hi.objSz h.Objs.length (I2 _);change 0<=vK h/\vK h<=_ at hsz;have c1:=aD t 0 ((h.Caches.length:Int) - 1);have c2:=aD size 1 1000;have c3:=u7 h hi.objSz (by omega);have c4:=ju size;refine fM 119 [(234,[2,0,0]),(235,[2,0])] [(7,10,[36,37,38,39,40,41,42,43,44,45]),(18,272,[81,82,83,84,85,86,87,89,90,91,92,93,94,95,96,97,0,1,2,3,4,5,6,8,9,10,11,12,13,14,15,16,1016,7,1008,1009,1010,1011,1012,1013,1014,1015,1016,17,18]),(1048594,0,[8])] [(0,0),(0,0),(0,0)] Tryz.func143 rfl (fun u q=>?_) (.inr ⟨trivial,trivial,trivial⟩);unfold fw;by_cases h1:1000000<=h.Next
 ·rw[if_pos (.inl h1)]
  repeat'(first|refine gD ?_|(conv=>whnf);first|refine Sm.rf ?_)
  refine aR.mk rfl rfl ?_;exact wC
 by_cases h2:90000<h.Kernel.Calls
 ·rw[if_pos (.inr h2)]
  repeat'(first|refine gD ?_|(conv=>whnf);first|with_reducible refine Bf.D (fun hq=>?_) (fun hq=>?_)|refine Sm.rf ?_)
  refine aR.mk rfl rfl ?_;exact wC
 rw[if_neg (by omega)];by_cases h3:¬(0<=t/\t<=h.Caches.length - 1)
 ·rw[if_pos h3]
  rw[P0 h3]at c1
  repeat'(first|refine gD ?_|(conv=>whnf);first|with_reducible refine Bf.D (fun hq=>?_) (fun hq=>?_)|refine Sm.rf ?_|refine Cl.mk (c1) ?_)
  refine aR.mk rfl rfl ?_;exact wC
 rw[if_neg h3];replace h3:=Decidable.not_not.1 h3;rw[O0 h3]at c1;by_cases h4:¬(1<=size/\size<=1000)
 ·rw[if_pos h4]
  rw[P0 h4]at c2
  repeat'(first|refine gD ?_|(conv=>whnf);first|with_reducible refine Bf.D (fun hq=>?_) (fun hq=>?_)|refine Sm.rf ?_|refine Cl.mk (c1) ?_|refine Cl.mk (c2) ?_)
  refine aR.mk rfl rfl ?_;exact wC
 rw[if_neg h4];replace h4:=Decidable.not_not.1 h4;rw[O0 h4]at c2;by_cases h5:h.Limit<vK h+size
 ·rw[if_pos h5]
  repeat'(first|refine gD ?_|(conv=>whnf);first|with_reducible refine Bf.D (fun hq=>?_) (fun hq=>?_)|refine Sm.rf ?_|refine Cl.mk (c1) ?_|refine Cl.mk (c2) ?_|refine Cl.eq (c3) ⟨⟨rfl,bA h⟩,trivial⟩ ?_|refine Sm.rf ?_)
  refine aR.mk rfl rfl ?_;exact wC
 rw[if_neg h5];by_cases h6:0<=aN size
 ·rw[if_pos h6]
  have hc3:aN size<=3:=by unfold aN;repeat' split<;>omega
  obtain⟨T,rfl⟩:=Z1 h3.1;obtain⟨K,hK⟩:=Z1 h6;have c5:=xq h T K hi (by omega) (by omega) (by omega);have s:=yq (t:=T) (c:=K) hi (by omega) (by omega) (by omega);rw[hK]at c4 |-;simp only[W1];generalize ep h T K=w at c5 s |-;obtain⟨g,a⟩:=w;have hgn:g.Next=h.Next:=s.nx;simp only at c5 |-;by_cases h7:a<0
  ·rw[if_pos h7]
   repeat'(first|refine gD ?_|(conv=>whnf);first|with_reducible refine Bf.D (fun hq=>?_) (fun hq=>?_)|refine Sm.rf ?_|refine Cl.mk (c1) ?_|refine Cl.mk (c2) ?_|refine Cl.eq (c3) ⟨⟨rfl,bA h⟩,trivial⟩ ?_|refine Sm.rf ?_|refine Cl.mk (c4) ?_|refine cv.mk (c5) (.inl rfl) ?_)
   refine aR.mk rfl rfl ?_;exact wC
  ·rw[if_neg h7]
   obtain⟨k1,k2⟩:=s.yes (show(0:Int)<=a by omega);have hgl:g.Objs.length<=512:=k1.lens.objs
   repeat'(first|refine gD ?_|(conv=>whnf);first|with_reducible refine Bf.D (fun hq=>?_) (fun hq=>?_)|refine Sm.rf ?_|refine Cl.mk (c1) ?_|refine Cl.mk (c2) ?_|refine Cl.eq (c3) ⟨⟨rfl,bA h⟩,trivial⟩ ?_|refine Sm.rf ?_|refine Cl.mk (c4) ?_|refine cv.mk (c5) (.inl rfl) ?_)
   (conv=>whnf)
   refine Lp.mk (ι:=Nat) (fun i=>[(0,.hold .box (bu g)),(1,.hold .one [I ((T:Nat):Int)]),(2,.hold .one [I (size)]),(8,.hold .one [I (a)]),(9,.hold .one [I ((i:Nat):Int)])]) (fun i=>i<=g.Objs.length/\∀ (j:Nat) (z:bO),j<i->g.Objs[j]? = some z->KH a z=false) (fun i=>g.Objs.length - i) (0) ?_ (⟨Q0 _,fun j z hj=>by omega⟩) fun i hi=>?_
   ·exact wC
   obtain⟨hi',ha⟩:=hi;by_cases go:i<g.Objs.length/\(nth g.Objs i).Addr<a
   ·have hx:=ah go.1
    repeat'(first|refine gD ?_|(conv=>whnf);first|with_reducible refine Ix.nat (aa hx) ?_|refine Sm.rf ?_|refine Rw.one rfl (aa hx) rfl ?_)
    ((conv=>whnf);refine Nx.mk (i+1) ⟨by omega,dl hx (P0 (by omega)) ha⟩ (by omega) ?_;(exact wC))
   ·have hpos:jt (KH a) g.Objs=i:=tR (by omega) ha fun z hz=>by
     have hlt:=(R1.1 hz).1;have:z=nth g.Objs i:=(bq hz).symm;subst this;exact O0 (by omega)
    have hx:i<g.Objs.length->g.Objs[i]? = some (nth g.Objs i):=fun hh=>ah hh
    rw[show addO g a size (T:Nat) = {g with Objs:=g.Objs.take i++⟨g.Next,a,size,(T:Nat)⟩::g.Objs.drop i,Next:=g.Next+1} by unfold addO;rw[tQ hpos]]
    repeat'(first|refine gD ?_|(conv=>whnf);first|with_reducible (first|refine Ix.nat (aa (hx (by omega))) ?_|refine Bf.D (fun hq=>?_) (fun hq=>?_))|refine Sm.rf ?_|refine Rw.one rfl (aa (hx (by omega))) rfl ?_|refine DL.mk rfl (Am g.Objs) rfl ?_|refine Sl.pre i rfl (by rw[U0];omega) (aO fun _=>rfl) I3 ?_|refine Sl.suf i rfl (by rw[U0];omega) (aO fun _=>rfl) O3 ?_|refine Ap.cp (fun _=>rfl) (fun _=>rfl) (by rw[C1];omega) (by decide) ?_|refine Ap.sn (aO fun _=>rfl) rfl (by rw[U0,C1];omega) (by decide) rfl ?_|refine Ap.ins (e:=bO.enc .imm) (y:=⟨g.Next,a,size,(T:Nat)⟩) rfl (fun _=>rfl) (fun _=>rfl) (by omega) (by decide) ?_|refine Sm.rf ?_)
    all_goals
     refine aR.mk rfl rfl ?_;exact wC
 ·rw[if_neg h6]
  have hz9:9<=size:=by unfold aN at h6;repeat' split at h6<;>omega
  have c5:=x5 h size hi ⟨hz9,h4.2⟩ (by omega);rw[Hj t hi ⟨hz9,h4.2⟩];have hg:(G0 h size).1.Next=h.Next/\(G0 h size).1.Objs=h.Objs:=by
   unfold G0;split
   ·exact⟨rfl,rfl⟩
   ·split<;>exact⟨rfl,rfl⟩
  generalize G0 h size=w at c5 hg |-;obtain⟨g,a⟩:=w;obtain⟨hgn,hgo⟩:=hg;simp only at c5 hgn hgo |-;have hgl:g.Objs.length<=512:=by rw[hgo];exact hlo
  by_cases h7:a<0
  ·rw[if_pos h7]
   repeat'(first|refine gD ?_|(conv=>whnf);first|with_reducible refine Bf.D (fun hq=>?_) (fun hq=>?_)|refine Sm.rf ?_|refine Cl.mk (c1) ?_|refine Cl.mk (c2) ?_|refine Cl.eq (c3) ⟨⟨rfl,bA h⟩,trivial⟩ ?_|refine Sm.rf ?_|refine Cl.mk (c4) ?_|refine cv.mk (c5) (.inl rfl) ?_)
   refine aR.mk rfl rfl ?_;exact wC
  ·rw[if_neg h7]
   repeat'(first|refine gD ?_|(conv=>whnf);first|with_reducible refine Bf.D (fun hq=>?_) (fun hq=>?_)|refine Sm.rf ?_|refine Cl.mk (c1) ?_|refine Cl.mk (c2) ?_|refine Cl.eq (c3) ⟨⟨rfl,bA h⟩,trivial⟩ ?_|refine Sm.rf ?_|refine Cl.mk (c4) ?_|refine cv.mk (c5) (.inl rfl) ?_)
   (conv=>whnf)
   refine Lp.mk (ι:=Nat) (fun i=>[(0,.hold .box (bu g)),(1,.hold .one [I (t)]),(2,.hold .one [I (size)]),(8,.hold .one [I (a)]),(9,.hold .one [I ((i:Nat):Int)])]) (fun i=>i<=g.Objs.length/\∀ (j:Nat) (z:bO),j<i->g.Objs[j]? = some z->KH a z=false) (fun i=>g.Objs.length - i) (0) ?_ (⟨Q0 _,fun j z hj=>by omega⟩) fun i hi=>?_
   ·exact wC
   obtain⟨hi',ha⟩:=hi;by_cases go:i<g.Objs.length/\(nth g.Objs i).Addr<a
   ·have hx:=ah go.1
    repeat'(first|refine gD ?_|(conv=>whnf);first|with_reducible refine Ix.nat (aa hx) ?_|refine Sm.rf ?_|refine Rw.one rfl (aa hx) rfl ?_)
    ((conv=>whnf);refine Nx.mk (i+1) ⟨by omega,dl hx (P0 (by omega)) ha⟩ (by omega) ?_;(exact wC))
   ·have hpos:jt (KH a) g.Objs=i:=tR (by omega) ha fun z hz=>by
     have hlt:=(R1.1 hz).1;have:z=nth g.Objs i:=(bq hz).symm;subst this;exact O0 (by omega)
    have hx:i<g.Objs.length->g.Objs[i]? = some (nth g.Objs i):=fun hh=>ah hh
    rw[show addO g a size t = {g with Objs:=g.Objs.take i++⟨g.Next,a,size,t⟩::g.Objs.drop i,Next:=g.Next+1} by unfold addO;rw[tQ hpos]]
    repeat'(first|refine gD ?_|(conv=>whnf);first|with_reducible (first|refine Ix.nat (aa (hx (by omega))) ?_|refine Bf.D (fun hq=>?_) (fun hq=>?_))|refine Sm.rf ?_|refine Rw.one rfl (aa (hx (by omega))) rfl ?_|refine DL.mk rfl (Am g.Objs) rfl ?_|refine Sl.pre i rfl (by rw[U0];omega) (aO fun _=>rfl) I3 ?_|refine Sl.suf i rfl (by rw[U0];omega) (aO fun _=>rfl) O3 ?_|refine Ap.cp (fun _=>rfl) (fun _=>rfl) (by rw[C1];omega) (by decide) ?_|refine Ap.sn (aO fun _=>rfl) rfl (by rw[U0,C1];omega) (by decide) rfl ?_|refine Ap.ins (e:=bO.enc .imm) (y:=⟨g.Next,a,size,t⟩) rfl (fun _=>rfl) (fun _=>rfl) (by omega) (by decide) ?_|refine Sm.rf ?_)
    all_goals
     refine aR.mk rfl rfl ?_;exact wC
theorem EL (h:ab) (a n:Int) (hl:h.Larges.length<=4096) (hb:∀ l∈h.Larges,bS l=true) (hn:wQ h a<0):aT Tryz.prog 358 false [.ptr (bu h),.val none [I a],.val none [I n]] [.ptr (bu h),.val none [I a],.val none [I n]] .one [B false]:=by
 have hne:∀ l∈h.Larges,l.Page*16≠a:=fun l hl' e=>by
  have:=AC (p:=Fp a) hl' (O0 e);unfold wQ at hn;omega
 refine fM 136 [(297,[2,0])] [(8,6,[49,50,51,52,53,54]),(9,10,[56,57,58,59,60,61,62,63,64,65]),(20,270,[123,124,125,126,127,128,129,130,131,122,132,133,134,135,0,1,2,3,4,5,6,7,8,9,10,11,12,13,14,1011])] [(0,0),(0,0),(0,0)] Tryz.func358 rfl (fun u q=>?_)
 repeat'(first|refine gO ?_|(conv=>whnf);first|refine Sm.rf ?_)
 (conv=>whnf)
 refine Lp.mk (ι:=Nat) (fun k=>[(0,.hold .box (bu h)),(1,.hold .one [I (a)]),(2,.hold .one [I (n)]),(7,.hold .one [I ((k:Nat):Int)])]) (fun k=>k<=h.Larges.length) (fun k=>h.Larges.length - k) (0) ?_ (Q0 _) fun k hk=>?_
 ·repeat'(first|exact trivial|rfl |exact nN hoo|exact nN hoo2|exact dK _|refine And.intro ?_ ?_|(exact Br (by first|omega|(simp only;omega)|(simp;omega))))
 by_cases lk:k<h.Larges.length
 ·have hx:=ah lk
  have h1:=hne _ (am lk);have h2:=aV (hb _ (am lk))
  repeat'(first|refine gA ?_|(conv=>whnf);first|with_reducible refine Ix.nat (aa hx) ?_|refine Sm.rf ?_|refine Rw.one rfl (aa hx) rfl ?_)
  ((conv=>whnf);refine Nx.mk (k+1) (by omega) (by omega) ?_;(exact wC))
 ·repeat'(first|refine gD ?_|(conv=>whnf);first|refine Sm.rf ?_)
  refine aR.mk rfl rfl ?_;exact wC
theorem Ms (h:ab) (a:Int) (m:Nat):bu {h with Kernel:=zK h.Kernel a (m+1)} = (bu {h with Kernel:=zK h.Kernel a m}).set 0 (.s .own (((zK h.Kernel a m).Machine.Frames.Cells.map (aF .own)).set (ar (zK h.Kernel a m).Machine.Table ((a+m) / 16)).Frame.toNat ((aF .own (nth (zK h.Kernel a m).Machine.Frames.Cells (fE (zK h.Kernel a m) (a+m)))).set 0 (.s .own (((nth (zK h.Kernel a m).Machine.Frames.Cells (fE (zK h.Kernel a m) (a+m))).map (rI .own)).set ((a+m) % 16).toNat (splice (rI .own (nth (nth (zK h.Kernel a m).Machine.Frames.Cells (fE (zK h.Kernel a m) (a+m))) ((a+m) % 16).toNat)) 0 [I 0])))))):=
 FH {h with Kernel:=zK h.Kernel a m} (a+m) 0
def kn (h:ab) (i k:Nat) (n:Int) (K:af):ab:={h with Kernel:=K,Larges:=h.Larges.set k (trimL (nth h.Larges k) n),Objs:=h.Objs.set i {nth h.Objs i with Size:=n}}
theorem GM (h:ab) (i k:Nat) (n:Int) (K:af):(kn h i k n K).Objs.map (bO.enc .own)=(h.Objs.map (bO.enc .own)).set i (splice (bO.enc .own (nth h.Objs i)) 2 [I n]):=by
 simp[kn,List.map_set,bO.enc,splice]
theorem qJ (h:ab) (i:Nat) (n:Int) (hi:bm h []) (li:i<h.Objs.length) (hg:0<=wQ h (nth h.Objs i).Addr):aT Tryz.prog 358 false [.ptr (bu h),.val none [I (nth h.Objs i).Addr],.val none [I n]] [.ptr (bu (if kg h i n then trimH h i (wQ h (nth h.Objs i).Addr).toNat n else h)),.val none [I (nth h.Objs i).Addr],.val none [I n]] .one [B (decide (kg h i n))]:=by
 have hlen:=hi.lens;have hnl:=hlen.larges;have hno:=hlen.objs;have hpg:dG h<=32:=hlen.ents;obtain⟨f1,f2,f3⟩:=fK (Fp (nth h.Objs i).Addr) h.Larges hg;obtain⟨g,hgn⟩:=Z1 hg;have hgl:g<h.Larges.length:=by unfold wQ at hgn;omega
 have hga:(nth h.Larges g).Page*16=(nth h.Objs i).Addr:=by
  have:=of_decide_eq_true f2;rw[show(dw (Fp (nth h.Objs i).Addr) h.Larges).toNat=g by unfold wQ at hgn;omega]at this;exact this
 have hbef:∀ k,k<g->(nth h.Larges k).Page*16≠(nth h.Objs i).Addr:=fun k hk e=>by
  have hkl:k<h.Larges.length:=by omega
  have hok1:=aV (hi.L.lok _ (am hkl));have hok2:=aV (hi.L.lok _ (am hgl));have:=hi.L.one k g hkl hgl 0 0 (by omega) (by omega) (by omega);omega
 have hct:kg h i n↔9<=n/\n<=(nth h.Larges g).Size:=by
  unfold kg;rw[hgn,W1];exact⟨fun x=>x.2,fun x=>⟨by omega,x⟩⟩
 rw[hgn,W1];have hbd:=rY hi (am li);obtain⟨-,hob,hfst⟩:=hi.objAt (am li);have hii:nr h (nth h.Objs i).Addr=i:=by
  have h2:=(hi.objAt (am li)).1;exact gy (f:=(·.Addr)) (gJ hi.osr) h2 li (by rw[hob])
 rw[hii]at hfst;have hxo:=ah li;have hxg:=ah hgl;have c1:=vE (nth h.Larges g) n (hi.L.lok _ (am hgl));have h8:=hi.L.lok _ (am hgl);unfold bS at h8;rw[C0]at h8;refine fM 136 [(297,[2,0])] [(8,6,[49,50,51,52,53,54]),(9,10,[56,57,58,59,60,61,62,63,64,65]),(20,270,[123,124,125,126,127,128,129,130,131,122,132,133,134,135,0,1,2,3,4,5,6,7,8,9,10,11,12,13,14,1011])] [(0,0),(0,0),(0,0)] Tryz.func358 rfl (fun u q=>?_)
 repeat'(first|refine gO ?_|(conv=>whnf);first|refine Sm.rf ?_)
 (conv=>whnf)
 refine Lp.mk (ι:=Nat) (fun k=>[(0,.hold .box (bu h)),(1,.hold .one [I ((nth h.Objs i).Addr)]),(2,.hold .one [I (n)]),(7,.hold .one [I ((k:Nat):Int)])]) (fun k=>k<=g) (fun k=>g - k) (0) ?_ (Q0 _) fun k hk=>?_
 ·repeat'(first|exact trivial|rfl |exact nN hoo|exact nN hoo2|exact dK _|refine And.intro ?_ ?_|(exact Br (by first|omega|(simp only;omega)|(simp;omega))))
 have hx:=ah (xs:=h.Larges) (i:=k) (by omega);have hfk:=aV (hi.L.lok _ (am (xs:=h.Larges) (i:=k) (by omega)));by_cases e:k=g;rotate_left
 ·have hne:=hbef k (by omega)
  repeat'(first|refine gA ?_|(conv=>whnf);first|with_reducible refine Ix.nat (aa hx) ?_|refine Sm.rf ?_|refine Rw.one rfl (aa hx) rfl ?_)
  ((conv=>whnf);refine Nx.mk (k+1) (by omega) (by omega) ?_;(exact wC))
 subst e;by_cases ct:9<=n/\n<=(nth h.Larges k).Size;rotate_left
 ·rw[if_neg (by rw[hct];exact ct),P0 (by rw[hct];exact ct)]
  rw[if_neg ct]at c1
  repeat'(first|refine gA ?_|(conv=>whnf);first|with_reducible refine Ix.nat (aa hx) ?_|refine Sm.rf ?_|refine Rw.one rfl (aa hx) rfl ?_|refine Cl.mk (c1) ?_)
  refine aR.mk rfl rfl ?_;exact wC
 rw[if_pos (by rw[hct];exact ct),O0 (by rw[hct];exact ct)];rw[if_pos ct]at c1;have hker:=fun m hm=>AE hi hgl ct (m:=m) hm
 have htab:=fun m=>(rz h.Kernel (16*(nth h.Larges k).Page+n) m).1
 have hmap:=fun a ha=>nv hi hgl (a:=a) ha
 have hsz:n<=16*(nth h.Larges k).Pages:=by omega
 generalize hM:(16*((n+15) / 16) - n).toNat=M at *;have hfl:∀ m,(zK h.Kernel (16*(nth h.Larges k).Page+n) m).Machine.Frames.Cells.length=h.Kernel.Machine.Frames.Cells.length:=fun m=>by
  induction m with
  | zero=>rfl
  | succ m ih=>show(List.set _ _ _).length=_;rw[Z0];exact ih
 have cO:=pm {h with Larges:=h.Larges.set k (trimL (nth h.Larges k) n)} (nth h.Objs i).Addr (by show h.Objs.length<=_;omega);change ao _ _ _ [.val (some 24) (ab.enc .imm {h with Larges:=h.Larges.set k (trimL (nth h.Larges k) n)}),_] _ [I (dw (kH (nth h.Objs i).Addr) h.Objs)]at cO;rw[hfst]at cO;have hzL:=bA {h with Larges:=h.Larges.set k (trimL (nth h.Larges k) n)};have heL:bu {h with Larges:=h.Larges.set k (trimL (nth h.Larges k) n)} = (bu h).set 7 (.s .own ((h.Larges.map (aA.enc .own)).set k (aA.enc .own (trimL (nth h.Larges k) n)))):=by simp[bu,List.map_set]
 rw[heL]at hzL
 repeat'(first|refine gA ?_|(conv=>whnf);first|with_reducible (first|refine Ix.nat (aa hx) ?_|refine Ix.nat (aa hxo) ?_)|refine Sm.rf ?_|refine Rw.one rfl (aa hx) rfl ?_|refine Cl.mk (c1) ?_|refine Pu.one rfl rfl (aa hx) rfl (W0 rfl) rfl ?_|refine Cl.eq (cO) ⟨⟨rfl,hzL⟩,⟨rfl,rfl⟩,trivial⟩ ?_|refine Pu.one rfl rfl (aa hxo) rfl (W0 rfl) rfl ?_|refine Rw.one rfl (aa hxo) rfl ?_|refine Sm.rf ?_)
 rw[<-hga];have e0:kn h i k n h.Kernel=kn h i k n (zK h.Kernel (16*(nth h.Larges k).Page+n) 0):=rfl;have hoo:C.s .own ((kn h i k n (zK h.Kernel (16*(nth h.Larges k).Page+n) 0)).Larges.map (aA.enc .own))=C.s .own ((h.Larges.map (aA.enc .own)).set k (aA.enc .own (trimL (nth h.Larges k) n))):=by simp[kn,List.map_set]
 have hoo2:C.s .own ((kn h i k n (zK h.Kernel (16*(nth h.Larges k).Page+n) 0)).Objs.map (bO.enc .own))=C.s .own ((h.Objs.map (bO.enc .own)).set i (splice (bO.enc .own (nth h.Objs i)) 2 [I n])):=R0 _ (GM h i k n _)
 (conv=>whnf)
 refine Lp.mk (ι:=Nat) (fun m=>[(0,.hold .box (bu (kn h i k n (zK h.Kernel (16*(nth h.Larges k).Page+n) m)))),(1,.hold .one [I (((nth h.Larges k).Page*16))]),(8,.hold .box (aA.enc .own (trimL (nth h.Larges k) n))),(9,.hold .box (a7.enc .own (v6 (nth h.Larges k) n))),(11,.hold .one [I (((16*(nth h.Larges k).Page+n)+(m:Nat)))])]) (fun m=>m<=M) (fun m=>M - m) (0) ?_ (Q0 _) fun m hm=>?_
 ·repeat'(first|exact trivial|rfl |exact nN hoo|exact nN hoo2|exact dK _|refine And.intro ?_ ?_|(exact Br (by first|omega|(simp only;omega)|(simp;omega))))
 have hmod:IntKind.i64.wrap 0=0:=rfl;by_cases lm:m<M
 ·have ha:0<=(16*(nth h.Larges k).Page+n)+(m:Nat)/\(16*(nth h.Larges k).Page+n)+(m:Nat)<512:=by omega
  have hm1:=hmap ((16*(nth h.Larges k).Page+n)+(m:Nat)) (by omega);have hk1:=hker m hm;rw[<-htab m]at hm1;have hks:=bp hk1;have c2:=cP (zK h.Kernel (16*(nth h.Larges k).Page+n) m).Machine.Table (((16*(nth h.Larges k).Page+n)+(m:Nat)) / 16) hks.1.2;obtain⟨-,-,-,q0,q1⟩:=ce hk1 hm1;have hul:=(aU.1 (aB.1 hk1).2.1).2.2.1;have hfr:fE (zK h.Kernel (16*(nth h.Larges k).Page+n) m) ((16*(nth h.Larges k).Page+n)+(m:Nat))<(zK h.Kernel (16*(nth h.Larges k).Page+n) m).Machine.Frames.Cells.length:=by unfold fE;omega
  have hck:(zK h.Kernel (16*(nth h.Larges k).Page+n) m).Machine.Frames.Cells[(ar (zK h.Kernel (16*(nth h.Larges k).Page+n) m).Machine.Table (((16*(nth h.Larges k).Page+n)+(m:Nat)) / 16)).Frame.toNat]? = some _:=ah hfr;have h16:=(zX hk1 hfr).1;have hzk:=ah (xs:=nth (zK h.Kernel (16*(nth h.Larges k).Page+n) m).Machine.Frames.Cells (fE (zK h.Kernel (16*(nth h.Larges k).Page+n) m) ((16*(nth h.Larges k).Page+n)+(m:Nat)))) (i:=(((16*(nth h.Larges k).Page+n)+(m:Nat)) % 16).toNat) (by rw[h16];omega);have htm:((16*(nth h.Larges k).Page+n)+(m:Nat)).tmod 16=((16*(nth h.Larges k).Page+n)+(m:Nat)) % 16:=fH ha.1;have hpu:=Ms (kn h i k n h.Kernel) (16*(nth h.Larges k).Page+n) m;have hwr:=oK ha;have hst:(trimL (nth h.Larges k) n).Pages=(n+15) / 16:=rfl
  repeat'(first|refine gD ?_|(conv=>whnf);first|refine Sm.rf ?_|refine Cd.mk (by decide) ?_|refine Wr.mk hwr ?_|refine Ev.mk htm ?_|refine Cl.eq (c2) ⟨⟨rfl,aE.enc_fz _⟩,⟨rfl,rfl⟩,trivial⟩ ?_|refine Ix.mk q0 (aa hck) ?_|refine Rw.one rfl (aa hck) rfl ?_|refine Ix.mk (by omega) (aa hzk) ?_|refine Pu.two rfl rfl (aa hck) rfl rfl rfl (aa hzk) rfl (I2 _) hpu ?_)
  ((conv=>whnf);refine Nx.mk (m+1) (by omega) (by omega) ?_;(exact wC))
 obtain rfl:m=M:=by omega
 have hst:(trimL (nth h.Larges k) n).Pages=(n+15) / 16:=rfl;have hkM:=hker m (I2 _);have hlnM:(zK h.Kernel (16*(nth h.Larges k).Page+n) m).Machine.Table.Entries.length=dG h:=by rw[htab];rfl
 have hTK:sZ h k n=zK h.Kernel (16*(nth h.Larges k).Page+n) m:=by unfold sZ;rw[hM]
 unfold trimH Fn;rw[hTK];generalize zK h.Kernel (16*(nth h.Larges k).Page+n) m=K at *;have hN:((d8 (nth h.Larges k) n:Nat):Int)=(nth h.Larges k).Pages - (n+15) / 16:=by unfold d8;omega
 have hrA:0<d8 (nth h.Larges k) n->v6 (nth h.Larges k) n = ⟨(nth h.Larges k).Page+(n+15) / 16,(d8 (nth h.Larges k) n:Nat)⟩:=fun hp=>by unfold v6;rw[if_pos (by omega),hN]
 have hrB:¬0<d8 (nth h.Larges k) n->v6 (nth h.Larges k) n = ⟨0,0⟩:=fun hp=>by unfold v6;rw[if_neg (by omega)]
 generalize d8 (nth h.Larges k) n=P at *;by_cases hP:0<P
 ·rw[if_pos hP]
  have hr:=hrA hP;rw[hr]
  repeat'(first|refine gD ?_|(conv=>whnf);first|refine Sm.rf ?_)
  (conv=>whnf)
  refine Lp.mk (ι:=Nat) (fun x=>[(0,.hold .box (bu (kn h i k n (dL K ((nth h.Larges k).Page+(n+15) / 16) x)))),(9,.hold .box ([I ((nth h.Larges k).Page+(n+15) / 16),I (P:Nat)])),(13,.hold .one [I (((nth h.Larges k).Page+(n+15) / 16+(x:Nat)))])]) (fun x=>x<=P) (fun x=>P - x) (0) ?_ (Q0 _) fun x hx=>?_
  ·repeat'(first|exact trivial|rfl |exact nN hoo|exact nN hoo2|exact dK _|refine And.intro ?_ ?_|(exact Br (by first|omega|(simp only;omega)|(simp;omega))))
  by_cases lx:x<P
  ·have c3:=lM (kn h i k n (dL K ((nth h.Larges k).Page+(n+15) / 16) x)) ((nth h.Larges k).Page+(n+15) / 16+(x:Nat)) (jY hkM _ _)
   repeat'(first|refine gD ?_|(conv=>whnf);first|refine Sm.rf ?_|refine cv.mk (c3) (.inl rfl) ?_)
   ((conv=>whnf);refine Nx.mk (x+1) (by omega) (by omega) ?_;(exact wC))
  ·obtain rfl:x=P:=by omega
   have c4:=gm (kn h i k n (dL K ((nth h.Larges k).Page+(n+15) / 16) x));rw[show dG (kn h i k n (dL K ((nth h.Larges k).Page+(n+15) / 16) x))=dG h from(gY _ _ _).1.trans hlnM]at c4;have c5:=kD (dG h:Nat) h.Free ⟨(nth h.Larges k).Page+(n+15) / 16,(x:Nat)⟩ ⟨by omega,by omega⟩ ⟨by have:=hlen.free;omega,fun _ _=>trivial⟩
   repeat'(first|refine gD ?_|(conv=>whnf);first|refine Sm.rf ?_|refine Cl.eq (c4) ⟨bA _,trivial⟩ ?_|refine Cl.eq (c5) ⟨⟨rfl,rfl⟩,⟨rfl,dE h.Free⟩,⟨rfl,rfl⟩,trivial⟩ ?_|refine Sm.rf ?_)
   refine aR.mk rfl rfl ?_;exact wC
 ·rw[if_neg hP]
  obtain rfl:P=0:=by omega
  have hr:=hrB hP;rw[hr]
  repeat'(first|refine gD ?_|(conv=>whnf);first|refine Sm.rf ?_)
  (conv=>whnf)
  refine Lp.mk (ι:=Nat) (fun x=>[(0,.hold .box (bu (kn h i k n K))),(9,.hold .box ([I 0,I 0])),(13,.hold .one [I (0)])]) (fun x=>x=0) (fun x=>0) (0) ?_ (rfl) fun x hx=>?_
  ·repeat'(first|exact trivial|rfl |exact nN hoo|exact nN hoo2|exact dK _|refine And.intro ?_ ?_|(exact Br (by first|omega|(simp only;omega)|(simp;omega))))
  subst hx
  repeat'(first|refine gD ?_|(conv=>whnf);first|refine Sm.rf ?_)
  refine aR.mk rfl rfl ?_;exact wC
theorem wu {α:Type} (a:α) (k:Nat):List.replicate (k+1) a=List.replicate k a++[a]:=List.replicate_succ' ..
theorem uL (n k:Nat):aQ.enc .own ⟨List.replicate k (List.replicate 16 0),List.replicate n false⟩ = [.s .own (List.replicate k [.s .own (List.replicate 16 [I 0])]),.s .own (List.replicate n [B false])]:=by
 simp[aQ.enc,aF,rI,rB,List.map_replicate]
theorem wh (n:Nat) (hn:1<=n/\n<=32):ao Tryz.prog 254 false [.val none [I (n:Nat)]] (.tup [some 2,none]) (aQ.enc .own (dz n)++[B true]):=by
 have c1:=aJ ((n:Nat):Int) 1 32;rw[O0 (by omega)]at c1;have hfr:=aK (b:=[B true]) (aQ.enc_fr (dz n)) ⟨trivial,trivial⟩;rw[show aQ.enc .own (dz n)=_ from uL n n]at hfr |-;refine fO 25 [(7,4,[18,19,20,21])] Tryz.func254 rfl ?_ (.inr hfr)
 repeat'(first|refine gO ?_|(conv=>whnf);first|refine Sm.rf ?_|refine Cl.mk (c1) ?_|refine Mk.mk n rfl rfl (by omega) (wK (by omega) (by decide)) rfl ?_)
 (conv=>whnf)
 refine Lp.mk (ι:=Nat) (fun k=>[(0,.hold .one [I ((n:Nat))]),(2,.hold .box [.z,.z]),(4,.hold .box [.s .own (List.replicate k [.s .own (List.replicate 16 [I 0])]),.s .own (List.replicate n [B false])]),(5,.hold .one [I ((k:Nat):Int)])]) (fun k=>k<=n) (fun k=>n - k) (0) ?_ (Q0 _) fun k hk=>?_
 ·exact wB
 by_cases lk:k<n
 ·repeat'(first|refine gD ?_|(conv=>whnf);first|refine Sm.rf ?_|refine Mk.mk 16 rfl rfl (by decide) (by decide) rfl ?_|refine Ap.sn (fun r hr=>by rw[(List.mem_replicate.1 hr).2];rfl) rfl (by simp;omega) (by decide) (wu _ k) ?_)
  ((conv=>whnf);refine Nx.mk (k+1) (by omega) (by omega) ?_;(exact wB))
 ·obtain rfl:k=n:=by omega
  repeat'(first|refine gD ?_|(conv=>whnf);first|refine Sm.rf ?_)
  rfl
theorem wP (n:Nat) (hn:1<=n/\n<=32):ao Tryz.prog 255 false [.val none [I (n:Nat)]] (.tup [some 1,none]) (aE.enc .own (cV n)++[B true]):=by
 have c1:=aJ ((n:Nat):Int) 1 32;rw[O0 (by omega)]at c1;have hfr:=aK (b:=[B true]) (aE.enc_fr (cV n)) ⟨trivial,trivial⟩;have he:aE.enc .own (cV n)=[.s .own (List.replicate n [I 0,I 0])]:=by simp[aE.enc,cV,bj.enc,List.map_replicate]
 rw[he]at hfr |-;refine fO 11 [] Tryz.func255 rfl ?_ (.inr hfr)
 repeat'(first|refine gO ?_|(conv=>whnf);first|refine Sm.rf ?_|refine Cl.mk (c1) ?_|refine Mk.mk n rfl rfl (by omega) (wK (by omega) (by decide)) rfl ?_)
 rfl
theorem tw (p f:Nat) (hp:1<=p/\p<=32) (hf:1<=f/\f<=32):ao Tryz.prog 186 false [.val none [I (p:Nat)],.val none [I (f:Nat)]] (.tup [some 3,none]) (aP.enc .own ⟨dz f,cV p⟩++[B true]):=by
 refine fO 30 [] Tryz.func186 rfl ?_ (.inr (aK (aP.enc_fr _) ⟨trivial,trivial⟩))
 repeat'(first|refine gO ?_|(conv=>whnf);first|refine Sm.rf ?_|refine Cl.mk (wh f hf) ?_|refine Cl.mk (wP p hp) ?_)
 rfl
theorem yW:ao Tryz.prog 187 false [.val none [.z]] .one (aF .own []):=by
 refine fO 6 [] Tryz.func187 rfl ?_ (.inr (bK _))
 repeat'(first|refine gO ?_|(conv=>whnf);first|refine Sm.rf ?_|refine Ap.mk (fun r hr=>by cases hr) (fun r hr=>by cases hr) (fun _ r hr=>by cases hr) (by simp) (by simp) rfl ?_)
 rfl
theorem vz (p f:Nat) (hp:1<=p/\p<=32) (hf:1<=f/\f<=32):ao Tryz.prog 93 false [.val none [I (p:Nat)],.val none [I (f:Nat)],.val none [.z]] (.tup [some 5,none]) (af.enc .own (bv p f [])++[B true]):=by
 have hk:=qe hp hf;have c1:=kN (bv p f []) (bp hk);rw[hk]at c1;refine fO 30 [(2,260,[17,18,19,10,0,1,2,4,3,1004,5])] Tryz.func93 rfl ?_ (.inr (aK (af.enc_fr _) ⟨trivial,trivial⟩))
 repeat'(first|refine gO ?_|(conv=>whnf);first|refine Sm.rf ?_|refine Cl.mk (tw p f hp hf) ?_|refine Cl.mk (yW) ?_|refine Cl.eq (c1) ⟨⟨rfl,af.enc_fz (bv p f [])⟩,trivial⟩ ?_)
 rfl
theorem EU (n:Nat):HT [.s .own (List.replicate n [.z]),.s .own (List.replicate n [.z]),B true] (aH.enc .own (dy n)++[B true]):=by
 have e:aH.enc .own (dy n)++[B true]=[.s .own (List.replicate n [.s .own []]),.s .own (List.replicate n [.s .own []]),B true]:=by simp[aH.enc,dy,cA,aF,List.map_replicate]
 rw[e];exact .cons (.rep (.cons .z_ .nil)) (.cons (.rep (.cons .z_ .nil)) (.cons (.rfl_ _) .nil))
theorem zZ (n:Nat) (hn:1<=n/\n<=4):ao Tryz.prog 94 false [.val none [I (n:Nat)]] (.tup [some 2,none]) (aH.enc .own (dy n)++[B true]):=by
 have c1:=aJ ((n:Nat):Int) 1 4;rw[O0 (by omega)]at c1;refine fO 13 [(3,4,[8,9,10,11])] Tryz.func94 rfl ?_ (.inr (aK (aH.enc_fr _) ⟨trivial,trivial⟩))
 repeat'((conv=>whnf);first|with_reducible (first|refine Lm ?_|refine Wm (by omega) ?_|refine Bn ?_|refine i6.dk rfl ?_)|refine Bt ?_|refine Bu ?_|refine Sm.rf ?_|refine Cl.mk (c1) ?_|refine Mk.mk n rfl rfl (by omega) (wK (by omega) (by decide)) rfl ?_)
 exact EU n
theorem zW (n:Nat) (hn:1<=n/\n<=4):ao Tryz.prog 351 false [.val none [I (n:Nat)]] (.tup [some 2,none]) (aH.enc .own (dy n)++[B true]):=by
 have c1:=aD ((n:Nat):Int) 1 4;rw[O0 (by omega)]at c1;refine fO 13 [(3,4,[8,9,10,11])] Tryz.func351 rfl ?_ (.inr (aK (aH.enc_fr _) ⟨trivial,trivial⟩))
 repeat'((conv=>whnf);first|with_reducible (first|refine Lm ?_|refine Wm (by omega) ?_|refine Bn ?_|refine i6.dk rfl ?_)|refine Bt ?_|refine Bu ?_|refine Sm.rf ?_|refine Cl.mk (c1) ?_|refine Mk.mk n rfl rfl (by omega) (wK (by omega) (by decide)) rfl ?_)
 exact EU n
theorem AL:HT [.s .own (List.replicate 4 [.z])] (aC.enc .own d6):=.cons (.rep (.cons .z_ .nil)) .nil
theorem xF:ao Tryz.prog 96 false [] .agg (aC.enc .own d6):=by
 refine fO 3 [] Tryz.func96 rfl ?_ (.inr (aC.enc_fr _))
 repeat'((conv=>whnf);first|with_reducible (first|refine Lm ?_|refine Wm (by omega) ?_|refine Bn ?_|refine i6.dk rfl ?_)|refine Bt ?_|refine Bu ?_|refine Sm.rf ?_|refine Mk.mk 4 rfl rfl (by decide) (by decide) rfl ?_)
 exact AL
theorem wZ:ao Tryz.prog 352 false [] .agg (aC.enc .own d6):=by
 refine fO 3 [] Tryz.func352 rfl ?_ (.inr (aC.enc_fr _))
 repeat'((conv=>whnf);first|with_reducible (first|refine Lm ?_|refine Wm (by omega) ?_|refine Bn ?_|refine i6.dk rfl ?_)|refine Bt ?_|refine Bu ?_|refine Sm.rf ?_|refine Mk.mk 4 rfl rfl (by decide) (by decide) rfl ?_)
 exact AL
theorem Ak:ao Tryz.prog 95 false [.val none [I 16]] (.tup [some 2,none]) (bB.enc .own ⟨16,[]⟩++[B true]):=by
 refine fO 10 [] Tryz.func95 rfl ?_ (.inr (aK (bB.enc_fr _) ⟨trivial,trivial⟩))
 repeat'((conv=>whnf);first|with_reducible (first|refine Lm ?_|refine Wm (by omega) ?_|refine Bn ?_|refine i6.wk rfl ?_)|refine Bt ?_|refine Bu ?_|refine Sm.rf ?_|refine Cl.mk (aJ 16 0 500) ?_)
 exact⟨rfl,rfl,rfl,trivial⟩
theorem qP:ao Tryz.prog 353 false [.val none [I 16]] (.tup [some 2,none]) (bB.enc .own ⟨16,[]⟩++[B true]):=by
 refine fO 10 [] Tryz.func353 rfl ?_ (.inr (aK (bB.enc_fr _) ⟨trivial,trivial⟩))
 repeat'((conv=>whnf);first|with_reducible (first|refine Lm ?_|refine Wm (by omega) ?_|refine Bn ?_|refine i6.wk rfl ?_)|refine Bt ?_|refine Bu ?_|refine Sm.rf ?_|refine Cl.mk (aD 16 0 500) ?_)
 exact⟨rfl,rfl,rfl,trivial⟩
def caps (h:ab) (k:Nat):ab:={h with Caches:=List.replicate k d6}
theorem yn (k:Nat):(List.replicate (k+1) d6).map (aC.enc .own)=(List.replicate k d6).map (aC.enc .own)++[aC.enc .own d6]:=by rw[wu,List.map_append];rfl
theorem B2 {k:Nat} : ∀ r∈(List.replicate k d6).map (aC.enc .own),r.length=1:=aO fun _=>rfl
theorem yO (p f t:Nat) (lim:Int) (hp:1<=p/\p<=32) (hf:1<=f/\f<=32) (ht:1<=t/\t<=4) (hl:0<=lim/\lim<=1000):ao Tryz.prog 25 false [.val none [I (p:Nat)],.val none [I (f:Nat)],.val none [I (t:Nat)],.val none [I lim],.val none [.z]] (.tup [some 24,none]) (ab.enc .own (kv p f t lim [])++[B true]):=by
 have c1:=aJ lim 0 1000;rw[O0 hl]at c1;refine fO 68 [(10,4,[61,62,63,64])] Tryz.func25 rfl ?_ (.inr (aK (ab.enc_fr _) ⟨trivial,trivial⟩))
 repeat'(first|refine gO ?_|(conv=>whnf);first|refine Sm.rf ?_|refine Cl.mk (vz p f hp hf) ?_|refine Cl.mk (zZ t ht) ?_|refine Cl.mk (c1) ?_|refine Cl.mk (Ak) ?_)
 (conv=>whnf)
 refine Lp.mk (ι:=Nat) (fun k=>[(2,.hold .one [I ((t:Nat))]),(10,.hold .box [.z,.z,.z,I 0,.z,.z,.z,.z,.z,.z,.z,.z,I 0,.z,I 0,I 0,I 0,I 0,B false,I 0,I 0,.z,I 0,I 0]),(18,.hold .box (ab.enc .own (caps (kv p f t lim []) k))),(19,.hold .one [I ((k:Nat):Int)])]) (fun k=>k<=t) (fun k=>t - k) (0) ?_ (Q0 _) fun k hk=>?_
 ·exact wB
 by_cases lk:k<t
 ·repeat'(first|refine gD ?_|(conv=>whnf);first|refine Sm.rf ?_|refine Cl.mk (xF) ?_|refine Ap.sn B2 rfl (by rw[U0];show(List.replicate _ d6).length+1<=_;rw[W2];omega) (by decide) (yn k) ?_)
  ((conv=>whnf);refine Nx.mk (k+1) (by omega) (by omega) ?_;(exact wB))
 ·obtain rfl:k=t:=by omega
  repeat'(first|refine gD ?_|(conv=>whnf);first|refine Sm.rf ?_)
  rfl
theorem Lt (x:List bF):fz (.s .own (x.map (bF.enc .own)))=.s .imm (x.map (bF.enc .imm)):=(List.cons.inj (List.cons.inj (ax.enc_fz ⟨0,x⟩)).2).1
theorem ee:∀ a b:List C,d9 (a++b)=d9 a++d9 b
 | [],_=>rfl
 | x::xs,b=>by show fz x::d9 (xs++b)=fz x::(d9 xs++d9 b);rw[ee xs b]
theorem dA (r:ax) (hs:ax.sml r):ao Tryz.prog 309 false [.val (some 2) (ax.enc .imm r)] .agg (ax.enc .own r):=by
 have hl:r.Objs.length<=1048576:=hs.1;refine fO 36 [(5,272,[15,16,17,18,19,20,21,22,23,24,25,26,27,28,29,34,0,1,2,3,4,5,6,7,8,9,10,11,12,13,14,15,1000,1001,1002,1003,1004,1005,1006,1007,16,1000,1001,17,1000,1001,18,19,20])] Tryz.func309 rfl ?_ (.inr (ax.enc_fr _))
 repeat'(first|refine gO ?_|(conv=>whnf);first|refine Sm.rf ?_)
 (conv=>whnf)
 refine Lp.mk (ι:=Nat) (fun i=>[(1,.hold .box (ax.enc .imm r)),(2,.hold .box [I 0,.z]),(3,.hold .box [I r.Next,.s .own ((r.Objs.take i).map (bF.enc .own))]),(4,.hold .one [I ((i:Nat):Int)])]) (fun i=>i<=r.Objs.length) (fun i=>r.Objs.length - i) (0) ?_ (Q0 _) fun i hi=>?_
 ·exact wC
 by_cases li:i<r.Objs.length
 ·have hx:=ah li
  have hxl:(nth r.Objs i).Cells.length<=1048576:=hs.2 _ (am li)
  repeat'(first|refine gD ?_|(conv=>whnf);first|with_reducible refine Ix.nat (aa hx) ?_|refine Sm.rf ?_|refine Rw.one rfl (aa hx) rfl ?_|refine Fl.cp (fun _=>rfl) (fun _=>rfl) hxl (by decide) ?_|refine Ap.cp (fun _=>rfl) (fun _=>rfl) hxl (by decide) ?_|refine Sm.rf ?_|refine Ap.sn (aO fun _=>rfl) rfl (by simp;omega) (by decide) (eG li) ?_)
  ((conv=>whnf);refine Nx.mk (i+1) (by omega) (by omega) ?_;(exact wC))
 ·repeat'(first|refine gD ?_|(conv=>whnf);first|refine Sm.rf ?_)
  obtain rfl:i=r.Objs.length:=by omega
  rw[List.take_length]
  rfl
theorem gB (r:ax) (id:Int) (hl:r.Objs.length<=1048576):ao Tryz.prog 385 false [.val (some 2) (ax.enc .imm r),.val none [I id]] .one [I (mV r id)]:=by
 refine fO 22 [] Tryz.func385 rfl ?_
 repeat'(first|refine gO ?_|(conv=>whnf);first|refine Sm.rf ?_)
 (conv=>whnf)
 refine Lp.mk (ι:=Nat) (fun i=>[(1,.hold .one [I (id)]),(2,.hold .box (ax.enc .imm r)),(5,.hold .one [I ((i:Nat):Int)])]) (fun i=>i<=r.Objs.length/\∀ (j:Nat) (z:bF),j<i->r.Objs[j]? = some z->lT id z=false) (fun i=>r.Objs.length - i) (0) ?_ (⟨Q0 _,fun j z hj=>by omega⟩) fun i hi=>?_
 ·exact wC
 obtain⟨hi,ha⟩:=hi;by_cases li:i<r.Objs.length
 ·have hx:=ah li
  by_cases e:(nth r.Objs i).Id=id
  ·repeat'(first|refine gA ?_|(conv=>whnf);first|with_reducible refine Ix.nat (aa hx) ?_|refine Sm.rf ?_|refine Rw.one rfl (aa hx) rfl ?_)
   exact R0 (fun z=>[I z]) (dR hx (O0 e) ha).symm
  ·repeat'(first|refine gA ?_|(conv=>whnf);first|with_reducible refine Ix.nat (aa hx) ?_|refine Sm.rf ?_|refine Rw.one rfl (aa hx) rfl ?_)
   ((conv=>whnf);refine Nx.mk (i+1) ⟨by omega,dl hx (P0 e) ha⟩ (by omega) ?_;(exact wC))
 ·repeat'(first|refine gD ?_|(conv=>whnf);first|refine Sm.rf ?_)
  exact R0 (fun z=>[I z]) (gr (by omega) ha).symm
theorem mu (r:ax) (c:C) (h:Nb c):gG (ax.enc .own r++[c]):=aK (ax.enc_fr _) ⟨h,trivial⟩
theorem wT (r:ax) (n:Int) (m:Nat) (hr:pT r m) (hm:m<=1000) (hn:1<=n/\n<=1000):ao Tryz.prog 301 false [.val (some 2) (ax.enc .imm r),.val none [I n]] (.tup [some 2,none]) (ax.enc .imm (jA r n)++[I r.Next]):=by
 have hs:=hr.sml hm;have hlen:=hr.len;have hnx:=hr.nx;have c1:=dA r hs;have c2:=aD n 1 1000;rw[O0 hn]at c2;have key:ao Tryz.prog 301 false [.val (some 2) (ax.enc .imm r),.val none [I n]] (.tup [some 2,none]) (ax.enc .own (jA r n)++[I r.Next]):=by
  have hf:=mu (jA r n) (I r.Next) trivial;unfold jA at hf |-;rw[if_pos hn]at hf |-;have e1:ax.enc .own {r with Next:=r.Next+1,Objs:=r.Objs++[⟨r.Next,List.replicate n.toNat 0⟩]} = [I (r.Next+1),.s .own (r.Objs.map (bF.enc .own)++[[I r.Next,.s .own (List.replicate n.toNat [I 0])]])]:=by
   simp[ax.enc,bF.enc,rI]
  rw[e1]at hf |-;refine fO 30 [(4,263,[13,14,15,16,17,18,22,0,1,2,3,4,5,6,1000,1001,7,1000,1001,8,9,10]),(6,259,[27,28,29,0,1,2,3,1001,1002,4])] Tryz.func301 rfl ?_ (.inr hf)
  repeat'(first|refine gO ?_|(conv=>whnf);first|refine Sm.rf ?_|refine Cl.mk (c1) ?_|refine Cl.mk (c2) ?_|refine Mk.mk n.toNat (by omega) (by omega) (by omega) (wK (by omega) (by decide)) rfl ?_|refine Sm.rf ?_|refine Ap.sn (aO fun _=>rfl) rfl (by simp;omega) (by decide) rfl ?_)
  (conv=>whnf)
  rfl
 have h2:=key.fzR;rw[ee,ax.enc_fz]at h2;exact h2
theorem yJ (r:ax) (id:Int) (m:Nat) (hr:pT r m) (hm:m<=1000):ao Tryz.prog 355 true [.val (some 2) (ax.enc .imm r),.val none [I id]] (.tup [some 2,none]) (ax.enc .imm (ke r id)++[B (!decide (mV r id<0))]):=by
 have hs:=hr.sml hm;have hlen:=hr.len;have c1:=dA r hs;have c2:=gB r id hs.1;by_cases e:mV r id<0
 ·have key:ao Tryz.prog 355 true [.val (some 2) (ax.enc .imm r),.val none [I id]] (.tup [some 2,none]) (ax.enc .own r++[B false]):=by
   refine fO 30 [(5,267,[16,17,18,19,20,22,23,24,25,26,28,0,1,2,3,4,6,7,8,9,10,5,1006,1007,1008,1009,1010,11,12,13]),(1048581,6,[1])] Tryz.func355 rfl ?_ (.inl rfl)
   repeat'(first|refine gD ?_|(conv=>whnf);first|refine Sm.rf ?_|refine Cl.mk (c1) ?_|refine Cl.mk (c2) ?_)
   rfl
  have h2:=key.fzR;rw[ee,ax.enc_fz]at h2;unfold ke;rw[if_pos e,O0 e];exact h2
 ·have e0:ke r id = {r with Objs:=dele r.Objs (mV r id).toNat}:=by unfold ke;rw[if_neg e]
  obtain⟨f1,f2,f3⟩:=fK (lT id) r.Objs (by unfold mV at e;omega);obtain⟨j,hj⟩:=Z1 (show 0<=mV r id by omega);have hjl:j<r.Objs.length:=by unfold mV at hj;omega
  have key:ao Tryz.prog 355 true [.val (some 2) (ax.enc .imm r),.val none [I id]] (.tup [some 2,none]) ([I r.Next,.s .own ((dele r.Objs j).map (bF.enc .imm))]++[B true]):=by
   rw[hj]at c2;refine fO 30 [(5,267,[16,17,18,19,20,22,23,24,25,26,28,0,1,2,3,4,6,7,8,9,10,5,1006,1007,1008,1009,1010,11,12,13]),(1048581,6,[1])] Tryz.func355 rfl ?_ (.inl rfl)
   repeat'(first|refine gD ?_|(conv=>whnf);first|refine Sm.rf ?_|refine Cl.mk (c1) ?_|refine Cl.mk (c2) ?_|refine DL.mk rfl (Lt r.Objs) rfl ?_|refine Sl.pre j rfl (by rw[U0];omega) (aO fun _=>rfl) I3 ?_|refine Sl.suf (j+1) (by omega) (by rw[U0];omega) (aO fun _=>rfl) O3 ?_|refine Ap.cp (fun _=>rfl) (fun _=>rfl) (by rw[C1];omega) (by decide) ?_|refine Fl.cp (fun _=>rfl) (fun _=>rfl) (by rw[C1];omega) (by decide) ?_|refine Ap.dele (fun _=>rfl) (fun _=>rfl) (by omega) (by decide) ?_|refine Sm.rf ?_)
   rfl
  have h2:=key.fzR;have e9:d9 ([I r.Next,.s .own ((dele r.Objs j).map (bF.enc .imm))]++[B true])=ax.enc .imm (ke r id)++[B (!decide (mV r id<0))]:=by
   have:∀ l:List bF,fzR (l.map (bF.enc .imm))=l.map (bF.enc .imm):=fun l=>by
    induction l with
    | nil=>rfl
    | cons x xs ih=>rw[List.map_cons,fzR,ih,<-bF.enc_fz,qx]
   rw[e0,hj,P0 (by omega)];simp[d9,fz,ax.enc,this]
  rw[e9]at h2;exact h2
theorem wN (r:ax) (id a v:Int) (m:Nat) (hr:pT r m) (hm:m<=1000) (h0:0<=mV r id) (ha:0<=a/\a<=(nth r.Objs (mV r id).toNat).Cells.length - 1) (hv:0<=v/\v<=999):ao Tryz.prog 357 false [.val (some 2) (ax.enc .imm r),.val none [I id],.val none [I a],.val none [I v]] (.tup [some 2,none]) (ax.enc .imm (eD r id a v)++[B true]):=by
 have hs:=hr.sml hm;have hlen:=hr.len;have c1:=dA r hs;have c2:=gB r id hs.1;obtain⟨f1,f2,f3⟩:=fK (lT id) r.Objs h0;obtain⟨j,hj⟩:=Z1 h0;have hjl:j<r.Objs.length:=by unfold mV at hj;omega
 have hx:=ah hjl;have hxl:(nth r.Objs j).Cells.length<=1048576:=hs.2 _ (am hjl);obtain⟨b,hb⟩:=Z1 ha.1;have e0:eD r id a v = {r with Objs:=r.Objs.set j ⟨(nth r.Objs j).Id,(nth r.Objs j).Cells.set b v⟩}:=by
  unfold eD;rw[if_pos ⟨h0,ha,hv⟩,hj,hb];rfl
 rw[hj]at c2 ha;rw[hb]at ha |-;simp only[W1]at ha;have hy:=ah (xs:=(nth r.Objs j).Cells) (i:=b) (by omega);have c3:=aD (b:Nat) 0 (((nth r.Objs j).Cells.length:Nat) - 1:Int);rw[O0 (by omega)]at c3;have c4:=aD v 0 999;rw[O0 hv]at c4;have key:ao Tryz.prog 357 false [.val (some 2) (ax.enc .imm r),.val none [I id],.val none [I (b:Nat)],.val none [I v]] (.tup [some 2,none]) (ax.enc .own (eD r id (b:Nat) v)++[B true]):=by
  have hf:=mu (eD r id (b:Nat) v) (B true) trivial;rw[<-hb,e0]at hf |-;have e1:ax.enc .own {r with Objs:=r.Objs.set j ⟨(nth r.Objs j).Id,(nth r.Objs j).Cells.set b v⟩} = [I r.Next,.s .own ((r.Objs.map (bF.enc .own)).set j [I (nth r.Objs j).Id,.s .own (((nth r.Objs j).Cells.map (rI .own)).set b [I v])])]:=by
   simp[ax.enc,bF.enc,rI,List.map_set]
  rw[e1]at hf |-;rw[hb];refine fO 48 [] Tryz.func357 rfl ?_ (.inr hf)
  repeat'(first|refine gD ?_|(conv=>whnf);first|with_reducible (first|refine Ix.nat (aa hx) ?_|refine Ix.nat (aa hy) ?_|refine Ix.mk (by omega) (aa hx) ?_)|refine Sm.rf ?_|refine Cl.mk (c1) ?_|refine Cl.mk (c2) ?_|refine Cl.mk (c3) ?_|refine Cl.mk (c4) ?_|refine Rw.one rfl (aa hx) rfl ?_|refine Pu.two rfl rfl (aa hx) rfl rfl rfl (aa hy) rfl (I2 _) rfl ?_)
  rfl
 have h2:=key.fzR;rw[ee,ax.enc_fz]at h2;exact h2
theorem zS (r:ax) (id n:Int) (m:Nat) (hr:pT r m) (hm:m<=1000) (h0:0<=mV r id) (hn:1<=n/\n<=(nth r.Objs (mV r id).toNat).Cells.length):ao Tryz.prog 359 false [.val (some 2) (ax.enc .imm r),.val none [I id],.val none [I n]] (.tup [some 2,none]) (ax.enc .imm (fW r id n)++[B true]):=by
 have hs:=hr.sml hm;have hlen:=hr.len;have c1:=dA r hs;have c2:=gB r id hs.1;obtain⟨f1,f2,f3⟩:=fK (lT id) r.Objs h0;obtain⟨j,hj⟩:=Z1 h0;have hjl:j<r.Objs.length:=by unfold mV at hj;omega
 have hx:=ah hjl;have hxl:(nth r.Objs j).Cells.length<=1048576:=hs.2 _ (am hjl);obtain⟨b,hb⟩:=Z1 (show 0<=n by omega);have e0:fW r id n = {r with Objs:=r.Objs.set j ⟨(nth r.Objs j).Id,(nth r.Objs j).Cells.take b⟩}:=by
  unfold fW;rw[if_pos ⟨h0,hn⟩,hj,hb];rfl
 rw[hj]at c2 hn;rw[hb]at hn |-;simp only[W1]at hn;have c3:=aD (b:Nat) 1 (((nth r.Objs j).Cells.length:Nat):Int);rw[O0 (by omega)]at c3;have key:ao Tryz.prog 359 false [.val (some 2) (ax.enc .imm r),.val none [I id],.val none [I (b:Nat)]] (.tup [some 2,none]) (ax.enc .own (fW r id (b:Nat))++[B true]):=by
  have hf:=mu (fW r id (b:Nat)) (B true) trivial;rw[<-hb,e0]at hf |-;have e1:ax.enc .own {r with Objs:=r.Objs.set j ⟨(nth r.Objs j).Id,(nth r.Objs j).Cells.take b⟩} = [I r.Next,.s .own ((r.Objs.map (bF.enc .own)).set j [I (nth r.Objs j).Id,.s .own (((nth r.Objs j).Cells.take b).map (rI .imm))])]:=by
   simp only[ax.enc,List.map_set]
   rfl
  rw[e1]at hf |-;rw[hb];refine fO 46 [(5,270,[30,31,32,33,34,35,36,37,38,39,40,41,43,44,0,1,2,3,4,5,6,7,8,9,10,11,12,1000,1001,1002,13,14,15])] Tryz.func359 rfl ?_ (.inr hf)
  repeat'(first|refine gD ?_|(conv=>whnf);first|with_reducible (first|refine Ix.nat (aa hx) ?_|refine Ix.mk (by omega) (aa hx) ?_)|refine Sm.rf ?_|refine Cl.mk (c1) ?_|refine Cl.mk (c2) ?_|refine Cl.mk (c3) ?_|refine Rw.one rfl (aa hx) rfl ?_|refine Sl.pre b rfl (by rw[U0];omega) (aO fun _=>rfl) I3 ?_|refine Fl.cp (fun _=>rfl) (fun _=>rfl) (by rw[C1];omega) (by decide) ?_|refine Ap.cp (fun _=>rfl) (fun _=>rfl) (by rw[C1];omega) (by decide) ?_|refine Sm.rf ?_|refine Pu.one rfl rfl (aa hx) rfl (W0 rfl) rfl ?_)
  rfl
 have h2:=key.fzR;rw[ee,ax.enc_fz]at h2;exact h2
theorem Aq (r:ax) (id a v:Int) (m:Nat) (hr:pT r m) (hm:m<=1000) (hv:0<=v/\v<=999):∃ b:Bool,ao Tryz.prog 357 false [.val (some 2) (ax.enc .imm r),.val none [I id],.val none [I a],.val none [I v]] (.tup [some 2,none]) (ax.enc .imm (eD r id a v)++[B b]):=by
 by_cases h0:0<=mV r id
 ·by_cases ha:0<=a/\a<=(nth r.Objs (mV r id).toNat).Cells.length - 1
  ·exact⟨true,wN r id a v m hr hm h0 ha hv⟩
  ·refine⟨false,?_⟩
   have hs:=hr.sml hm;have hlen:=hr.len;have c1:=dA r hs;have c2:=gB r id hs.1;obtain⟨f1,f2,f3⟩:=fK (lT id) r.Objs h0;obtain⟨j,hj⟩:=Z1 h0;have hjl:j<r.Objs.length:=by unfold mV at hj;omega
   have hx:=ah hjl;have hxl:(nth r.Objs j).Cells.length<=1048576:=hs.2 _ (am hjl);have e0:eD r id a v=r:=by unfold eD;rw[if_neg (fun x=>ha x.2.1)]
   rw[hj]at c2 ha;simp only[W1]at ha;have c3:=aD a 0 (((nth r.Objs j).Cells.length:Nat) - 1:Int);rw[P0 ha]at c3;rw[e0];have key:ao Tryz.prog 357 false [.val (some 2) (ax.enc .imm r),.val none [I id],.val none [I a],.val none [I v]] (.tup [some 2,none]) (ax.enc .own r++[B false]):=by
    refine fO 48 [] Tryz.func357 rfl ?_ (.inr (mu r (B false) trivial))
    repeat'(first|refine gD ?_|(conv=>whnf);first|with_reducible refine Ix.nat (aa hx) ?_|refine Sm.rf ?_|refine Cl.mk (c1) ?_|refine Cl.mk (c2) ?_|refine Cl.mk (c3) ?_|refine Rw.one rfl (aa hx) rfl ?_)
    rfl
   have h2:=key.fzR;rw[ee,ax.enc_fz]at h2;exact h2
 ·refine⟨false,?_⟩
  have hs:=hr.sml hm;have c1:=dA r hs;have c2:=gB r id hs.1;rw[show eD r id a v=r by unfold eD;rw[if_neg (fun x=>h0 x.1)]];have key:ao Tryz.prog 357 false [.val (some 2) (ax.enc .imm r),.val none [I id],.val none [I a],.val none [I v]] (.tup [some 2,none]) (ax.enc .own r++[B false]):=by
   refine fO 48 [] Tryz.func357 rfl ?_ (.inr (mu r (B false) trivial))
   repeat'(first|refine gD ?_|(conv=>whnf);first|refine Sm.rf ?_|refine Cl.mk (c1) ?_|refine Cl.mk (c2) ?_)
   rfl
  have h2:=key.fzR;rw[ee,ax.enc_fz]at h2;exact h2
theorem A3 (r:ax) (id n:Int) (m:Nat) (hr:pT r m) (hm:m<=1000):∃ b:Bool,ao Tryz.prog 359 false [.val (some 2) (ax.enc .imm r),.val none [I id],.val none [I n]] (.tup [some 2,none]) (ax.enc .imm (fW r id n)++[B b]):=by
 by_cases h0:0<=mV r id
 ·by_cases ha:1<=n/\n<=(nth r.Objs (mV r id).toNat).Cells.length
  ·exact⟨true,zS r id n m hr hm h0 ha⟩
  ·refine⟨false,?_⟩
   have hs:=hr.sml hm;have hlen:=hr.len;have c1:=dA r hs;have c2:=gB r id hs.1;obtain⟨f1,f2,f3⟩:=fK (lT id) r.Objs h0;obtain⟨j,hj⟩:=Z1 h0;have hjl:j<r.Objs.length:=by unfold mV at hj;omega
   have hx:=ah hjl;have hxl:(nth r.Objs j).Cells.length<=1048576:=hs.2 _ (am hjl);have e0:fW r id n=r:=by unfold fW;rw[if_neg (fun x=>ha x.2)]
   rw[hj]at c2 ha;simp only[W1]at ha;have c3:=aD n 1 (((nth r.Objs j).Cells.length:Nat):Int);rw[P0 ha]at c3;rw[e0];have key:ao Tryz.prog 359 false [.val (some 2) (ax.enc .imm r),.val none [I id],.val none [I n]] (.tup [some 2,none]) (ax.enc .own r++[B false]):=by
    refine fO 46 [(5,270,[30,31,32,33,34,35,36,37,38,39,40,41,43,44,0,1,2,3,4,5,6,7,8,9,10,11,12,1000,1001,1002,13,14,15])] Tryz.func359 rfl ?_ (.inr (mu r (B false) trivial))
    repeat'(first|refine gD ?_|(conv=>whnf);first|with_reducible refine Ix.nat (aa hx) ?_|refine Sm.rf ?_|refine Cl.mk (c1) ?_|refine Cl.mk (c2) ?_|refine Cl.mk (c3) ?_|refine Rw.one rfl (aa hx) rfl ?_)
    rfl
   have h2:=key.fzR;rw[ee,ax.enc_fz]at h2;exact h2
 ·refine⟨false,?_⟩
  have hs:=hr.sml hm;have c1:=dA r hs;have c2:=gB r id hs.1;rw[show fW r id n=r by unfold fW;rw[if_neg (fun x=>h0 x.1)]];have key:ao Tryz.prog 359 false [.val (some 2) (ax.enc .imm r),.val none [I id],.val none [I n]] (.tup [some 2,none]) (ax.enc .own r++[B false]):=by
   refine fO 46 [(5,270,[30,31,32,33,34,35,36,37,38,39,40,41,43,44,0,1,2,3,4,5,6,7,8,9,10,11,12,1000,1001,1002,13,14,15])] Tryz.func359 rfl ?_ (.inr (mu r (B false) trivial))
   repeat'(first|refine gD ?_|(conv=>whnf);first|refine Sm.rf ?_|refine Cl.mk (c1) ?_|refine Cl.mk (c2) ?_)
   rfl
  have h2:=key.fzR;rw[ee,ax.enc_fz]at h2;exact h2
structure gR where
 i:Nat
 h:Int
deriving Inhabited
def w64 (x:Int):Int:=IntKind.i64.wrap x
def MX (h:Int):Int:=w64 (w64 (h*6364136223846793005)+1442695040888963407)
def M2 (a b:Int):Int:=w64 ((BitVec.ofInt IntKind.i64.bits a ^^^ BitVec.ofInt IntKind.i64.bits b).toNat:Nat)
def and255 (a:Int):Int:=w64 ((BitVec.ofInt IntKind.i64.bits a &&& BitVec.ofInt IntKind.i64.bits 255).toNat:Nat)
def KJ (h:Int) (n:Nat):Int:=h.fdiv (2 ^ (min n IntKind.i64.bits))
def y7 (h:Int):Int:=and255 (M2 (KJ h 33) (KJ h 45))
theorem y2 (a:Int):0<=and255 a/\and255 a<=255:=by
 have h1:(BitVec.ofInt IntKind.i64.bits a &&& BitVec.ofInt IntKind.i64.bits 255).toNat<=255:=by
  rw[BitVec.toNat_and];exact W3 Nat.and_le_right (by decide)
 unfold and255 w64;rw[dS (by omega) (by omega)];omega
def dd (zs:List Int) (c:gR):Int × gR:=if c.i<zs.length then(and255 (y7 (MX c.h)+nth zs c.i),⟨c.i+1,MX c.h⟩) else(y7 (MX c.h),⟨c.i,MX c.h⟩)
theorem qH (zs:List Int) (c:gR):0<=(dd zs c).1/\(dd zs c).1<=255:=by
 unfold dd;split<;>exact y2 _
theorem gX {zs:List Int} {c:gR} (h:c.i<=zs.length):(dd zs c).2.i<=zs.length:=by
 unfold dd;split
 ·simp only;omega
 ·exact h
def yg (zs:List Int) (c:gR):Int × gR:=
 ((dd zs c).1*16777216+(dd zs (dd zs c).2).1*65536+(dd zs (dd zs (dd zs c).2).2).1*256+(dd zs (dd zs (dd zs (dd zs c).2).2).2).1,(dd zs (dd zs (dd zs (dd zs c).2).2).2).2)
def bw (zs:List Int) (c:gR) (n:Int):Int × gR:=if n<=256 then((dd zs c).1 % n,(dd zs c).2) else((yg zs c).1 % n,(yg zs c).2)
theorem bE (zs:List Int) (c:gR) {n:Int} (h:1<=n):0<=(bw zs c n).1/\(bw zs c n).1<n:=by
 unfold bw;split<;>exact⟨Int.emod_nonneg _ (by omega),Int.emod_lt_of_pos _ (by omega)⟩
theorem bN {zs:List Int} {c:gR} (h:c.i<=zs.length) (n:Int):(bw zs c n).2.i<=zs.length:=by
 unfold bw;split
 ·exact gX h
 ·exact gX (gX (gX (gX h)))
def jS (zs:List Int) (c:gR) (l:List Int):Int × gR:=(nth l (bw zs c (l.length:Nat)).1.toNat,(bw zs c (l.length:Nat)).2)
theorem ox (zs:List Int) (c:gR) {l:List Int} (h:1<=l.length):(jS zs c l).1∈l:=by
 have:=bE zs c (n:=(l.length:Nat)) (by omega);exact am (by omega)
def nk (zs:List Int):Nat->Nat->List Int->gR->List Int × gR
 | 0,_,out,c=>(out,(bw zs c 4).2)
 | f+1,i,out,c=>if(i:Int)<(bw zs c 4).1 then nk zs f (i+1) (out++[(bw zs (bw zs c 4).2 12).1]) (bw zs (bw zs c 4).2 12).2 else(out,(bw zs c 4).2)
def Ls (zs:List Int) (c:gR):List Int × gR:=nk zs 4 0 [] c
theorem Fg (zs:List Int):∀ (f i:Nat) (out:List Int) (c:gR),(∀ x∈out,0<=x)->out.length+f<=4->c.i<=zs.length->(∀ x∈(nk zs f i out c).1,0<=x)/\(nk zs f i out c).1.length<=4/\(nk zs f i out c).2.i<=zs.length
 | 0,_,out,c,h1,h2,h3=>⟨h1,by show out.length<=4;omega,bN h3 _⟩
 | f+1,i,out,c,h1,h2,h3=>by
  unfold nk;split
  ·refine Fg zs f (i+1) _ _ (fun x hx=>?_) (by simp only[P2,List.length_singleton];omega) (bN (bN h3 _) _)
   rcases C2.1 hx with hx|hx
   ·exact h1 x hx
   ·rw[X0.1 hx];exact(bE zs _ (by decide)).1
  ·exact⟨h1,by show out.length<=4;omega,bN h3 _⟩
def wS (zs:List Int) (c:gR):Int × gR:=bw zs c 7
def AY (zs:List Int) (c:gR):Int × gR:=bw zs (wS zs c).2 3
def E0 (zs:List Int) (c:gR):Int × gR:=bw zs (AY zs c).2 100
def zt (zs:List Int) (c:gR):Int × gR:=bw zs (E0 zs c).2 4
def Mp (zs:List Int) (c:gR):List Int × gR:=Ls zs (zt zs c).2
def oI (zs:List Int) (c:gR):cB:=⟨(6+(wS zs c).1).toNat,(6+(wS zs c).1 - (zt zs c).1).toNat,(1+(AY zs c).1).toNat,40+(E0 zs c).1,(Mp zs c).1⟩
theorem qk {zs:List Int} {c:gR} (h:c.i<=zs.length):Et (oI zs c)/\(Mp zs c).2.i<=zs.length:=by
 have h1:=bE zs c (n:=7) (by decide);have h2:=bE zs (wS zs c).2 (n:=3) (by decide);have h3:=bE zs (AY zs c).2 (n:=100) (by decide);have h4:=bE zs (E0 zs c).2 (n:=4) (by decide);change 0<=(wS zs c).1/\(wS zs c).1<7 at h1;change 0<=(AY zs c).1/\(AY zs c).1<3 at h2;change 0<=(E0 zs c).1/\(E0 zs c).1<100 at h3;change 0<=(zt zs c).1/\(zt zs c).1<4 at h4;obtain⟨r1,r2,r3⟩:=Fg zs 4 0 [] (zt zs c).2 (fun x hx=>by cases hx) (by simp) (bN (bN (bN (bN h _) _) _) _);refine⟨⟨?_,?_,?_,?_,?_⟩,r3⟩
 ·show 1<=(6+(wS zs c).1).toNat/\(6+(wS zs c).1).toNat<=32;omega
 ·show 1<=(6+(wS zs c).1 - (zt zs c).1).toNat/\(6+(wS zs c).1 - (zt zs c).1).toNat<=32;omega
 ·show 1<=(1+(AY zs c).1).toNat/\(1+(AY zs c).1).toNat<=4;omega
 ·show 0<=40+(E0 zs c).1/\40+(E0 zs c).1<=1000;omega
 ·exact⟨by show(nk zs 4 0 [] (zt zs c).2).1.length<=40;omega,r1⟩
def ym (zs:List Int) (c:gR):Int × gR:=bw zs c 3
def D5 (zs:List Int) (c:gR) (ids:Int):Int × gR:=bw zs (ym zs c).2 ids
def jO (zs:List Int) (c:gR) (ids:Int):Int × gR:=bw zs (D5 zs c ids).2 20
def szs:List Int:=[1,1,2,2,3,4,4,5,8,9,20]
def qV (zs:List Int) (c:gR) (ids:Int):dM × gR:=
 if(jO zs c ids).1<=6 then(⟨1,(ym zs c).1,(jS zs (jO zs c ids).2 szs).1,0,0⟩,(jS zs (jO zs c ids).2 szs).2)
 else if(jO zs c ids).1<=9 then(⟨2,(ym zs c).1,1+(D5 zs c ids).1,0,0⟩,(jO zs c ids).2)
 else if(jO zs c ids).1<=12 then(⟨3,(ym zs c).1,1+(D5 zs c ids).1,(bw zs (jO zs c ids).2 4).1,1+(bw zs (bw zs (jO zs c ids).2 4).2 999).1⟩,(bw zs (bw zs (jO zs c ids).2 4).2 999).2)
 else if(jO zs c ids).1=13 then(⟨4,(ym zs c).1,1+(D5 zs c ids).1,0,9+(bw zs (jO zs c ids).2 10).1⟩,(bw zs (jO zs c ids).2 10).2)
 else if(jO zs c ids).1=14 then(⟨(jS zs (jO zs c ids).2 [5,6]).1,(ym zs c).1,1+(D5 zs c ids).1,0,0⟩,(jS zs (jO zs c ids).2 [5,6]).2)
 else if(jO zs c ids).1=15 then(⟨7,(ym zs c).1,1+(D5 zs c ids).1,0,0⟩,(jO zs c ids).2)
 else if(jO zs c ids).1=16 then(⟨8,(ym zs c).1,(jS zs (jO zs c ids).2 [1,30,60,120]).1,0,0⟩,(jS zs (jO zs c ids).2 [1,30,60,120]).2)
 else if(jO zs c ids).1=17 then(⟨9,(ym zs c).1,1+(D5 zs c ids).1,0,0⟩,(jO zs c ids).2)
 else(⟨10,(ym zs c).1,(jS zs (jO zs c ids).2 [1,2,3,10,30]).1,0,0⟩,(jS zs (jO zs c ids).2 [1,2,3,10,30]).2)
structure KC (a:dM):Prop where
 k:1<=a.Kind/\a.Kind<=10
 t:0<=a.Thread/\a.Thread<=1000000
 n:0<=a.N/\a.N<=1000000
 p:0<=a.At/\a.At<=1000000
 v:0<=a.Value/\a.Value<=1000000
theorem JB {zs:List Int} {c:gR} {ids:Int} (h:c.i<=zs.length) (hi:1<=ids/\ids<=1000):KC (qV zs c ids).1/\(qV zs c ids).2.i<=zs.length:=by
 have h1:=bE zs c (n:=3) (by decide);have h2:=bE zs (ym zs c).2 (n:=ids) hi.1;change 0<=(ym zs c).1/\(ym zs c).1<3 at h1;change 0<=(D5 zs c ids).1/\(D5 zs c ids).1<ids at h2;have hk:(jO zs c ids).2.i<=zs.length:=bN (bN (bN h _) _) _;have p1:=ox zs (jO zs c ids).2 (l:=szs) (by decide);have p2:=ox zs (jO zs c ids).2 (l:=[5,6]) (by decide);have p3:=ox zs (jO zs c ids).2 (l:=[1,30,60,120]) (by decide);have p4:=ox zs (jO zs c ids).2 (l:=[1,2,3,10,30]) (by decide);have b1:=bE zs (jO zs c ids).2 (n:=4) (by decide);have b2:=bE zs (bw zs (jO zs c ids).2 4).2 (n:=999) (by decide);have b3:=bE zs (jO zs c ids).2 (n:=10) (by decide);simp only[szs,List.mem_cons,List.not_mem_nil,or_false]at p1 p2 p3 p4;unfold qV
 repeat' split
 ·exact⟨⟨by simp only;omega,by simp only;omega,by simp only[szs];omega,by simp only;omega,by simp only;omega⟩,bN hk _⟩
 ·exact⟨⟨by simp only;omega,by simp only;omega,by simp only;omega,by simp only;omega,by simp only;omega⟩,hk⟩
 ·exact⟨⟨by simp only;omega,by simp only;omega,by simp only;omega,by simp only;omega,by simp only;omega⟩,bN (bN hk _) _⟩
 ·exact⟨⟨by simp only;omega,by simp only;omega,by simp only;omega,by simp only;omega,by simp only;omega⟩,bN hk _⟩
 ·exact⟨⟨by simp only;omega,by simp only;omega,by simp only;omega,by simp only;omega,by simp only;omega⟩,bN hk _⟩
 ·exact⟨⟨by simp only;omega,by simp only;omega,by simp only;omega,by simp only;omega,by simp only;omega⟩,hk⟩
 ·exact⟨⟨by simp only;omega,by simp only;omega,by simp only;omega,by simp only;omega,by simp only;omega⟩,bN hk _⟩
 ·exact⟨⟨by simp only;omega,by simp only;omega,by simp only;omega,by simp only;omega,by simp only;omega⟩,hk⟩
 ·exact⟨⟨by simp only;omega,by simp only;omega,by simp only;omega,by simp only;omega,by simp only;omega⟩,bN hk _⟩
def kq (zs:List Int) (c:gR):Nat->List dM × gR
 | 0=>([],(bw zs c 41).2)
 | i+1=>((kq zs c i).1++[(qV zs (kq zs c i).2 (1+(i:Int) / 2)).1],(qV zs (kq zs c i).2 (1+(i:Int) / 2)).2)
def mz (zs:List Int) (c:gR):List dM × gR:=kq zs c (bw zs c 41).1.toNat
theorem qF {zs:List Int} {c:gR} (h:c.i<=zs.length):∀ {n:Nat},n<=100->(kq zs c n).1.length=n/\(∀ a∈(kq zs c n).1,KC a)/\(kq zs c n).2.i<=zs.length
 | 0,_=>⟨rfl,fun a ha=>(by cases ha),bN h _⟩
 | n+1,hn=>by
  obtain⟨h1,h2,h3⟩:=qF h (n:=n) (by omega);obtain⟨g1,g2⟩:=JB (ids:=1+(n:Int) / 2) h3 (by omega);refine⟨by simp only[kq,P2,List.length_singleton,h1],fun a ha=>?_,g2⟩;rcases C2.1 ha with ha|ha
  ·exact h2 a ha
  ·rw[X0.1 ha];exact g1
def oD (zs:List Int):Nat->Int
 | 0=>w64 (98801+(zs.length:Nat))
 | i+1=>w64 ((BitVec.ofInt IntKind.i64.bits (w64 (w64 (w64 (oD zs i*131)+nth zs i)+7)) &&& BitVec.ofInt IntKind.i64.bits 1073741823).toNat:Nat)
def tt (zs:List Int):gR:=⟨0,oD zs (min zs.length 4000)⟩
def eO (zs:List Int):gR:=(Mp zs (tt zs)).2
def drawn (zs:List Int):bG:=(zc (oI zs (tt zs)) (mz zs (eO zs)).1 (mz zs (eO zs)).1.length).1
theorem AX (zs:List Int):su (drawn zs) 40:=by
 have h1:(tt zs).i<=zs.length:=Q0 _;obtain⟨c1,c2⟩:=qk h1;have hb:=bE zs (eO zs) (n:=41) (by decide);obtain⟨a1,-,-⟩:=qF (zs:=zs) (c:=eO zs) c2 (n:=(bw zs (eO zs) 41).1.toNat) (by omega);refine(uS c1 _ _).more ?_;show(kq zs (eO zs) _).1.length<=40;rw[a1];omega
def rU (z:Int):List C:=[.v (.int .u8 z)]
def gS (zs:List Int) (c:gR):List C:=[.s .imm (zs.map rU),I (c.i:Nat),I c.h]
def iZ (zs:List Int):Prop:=zs.length<=1048576/\∀ z∈zs,0<=z/\z<=255
theorem jj (zs:List Int) (c:gR) (hz:iZ zs) (hc:c.i<=zs.length):aT Tryz.prog 185 false [.ptr (gS zs c)] [.ptr (gS zs (dd zs c).2)] .one [I (dd zs c).1]:=by
 have e1:IntKind.i64.wrap (c.h*6364136223846793005)=w64 (c.h*6364136223846793005):=rfl;have e2:IntKind.i64.wrap (w64 (c.h*6364136223846793005)+1442695040888963407)=MX c.h:=rfl;have hn1:=hz.1;generalize hH:MX c.h=H at e2;have e3:H.fdiv (2 ^ (min (33:Int).toNat IntKind.i64.bits))=KJ H 33:=rfl;have e4:H.fdiv (2 ^ (min (45:Int).toNat IntKind.i64.bits))=KJ H 45:=rfl;have e5:IntKind.i64.wrap (BitVec.ofInt IntKind.i64.bits (KJ H 33) ^^^ BitVec.ofInt IntKind.i64.bits (KJ H 45)).toNat=M2 (KJ H 33) (KJ H 45):=rfl;have e6:IntKind.i64.wrap (BitVec.ofInt IntKind.i64.bits (M2 (KJ H 33) (KJ H 45)) &&& BitVec.ofInt IntKind.i64.bits 255).toNat=y7 H:=rfl;have hb:0<=y7 H/\y7 H<=255:=y2 _;unfold dd;rw[hH];generalize y7 H=y at e6 hb |-;refine fM 58 [] [(2,10,[13,14,15,16,17,18,19,20,21,22]),(3,9,[25,26,27,28,29,30,31,32,33]),(4,12,[35,36,37,38,39,40,41,42,43,44,45,46])] [(0,0)] Tryz.func185 rfl (fun u q=>?_);by_cases li:c.i<zs.length
 ·rw[if_pos li]
  have hx:=ah li;have h2:=hz.2 _ (am li);have e7:IntKind.i64.wrap (BitVec.ofInt IntKind.i64.bits (y+nth zs c.i) &&& BitVec.ofInt IntKind.i64.bits 255).toNat=and255 (y+nth zs c.i):=rfl
  repeat'(first|refine gD ?_|(conv=>whnf);first|with_reducible (first|refine Wr.mk e1 ?_|refine Wr.mk e2 ?_|refine Wr.mk e5 ?_|refine Wr.mk e6 ?_|refine Wr.mk e7 ?_|refine Ix.nat (aa hx) ?_|refine Cd.mk (by decide) ?_|refine Ev.mk e3 ?_|refine Ev.mk e4 ?_)|refine Rw.one rfl (aa hx) rfl ?_|refine Sm.rf ?_)
  refine aR.mk rfl rfl ?_;exact wB
 ·rw[if_neg li]
  repeat'(first|refine gD ?_|(conv=>whnf);first|with_reducible (first|refine Wr.mk e1 ?_|refine Wr.mk e2 ?_|refine Wr.mk e5 ?_|refine Wr.mk e6 ?_|refine Cd.mk (by decide) ?_|refine Ev.mk e3 ?_|refine Ev.mk e4 ?_)|refine Sm.rf ?_)
  refine aR.mk rfl rfl ?_;exact wB
theorem bQ (zs:List Int) (c:gR) (n:Int) (hz:iZ zs) (hc:c.i<=zs.length) (hn:1<=n):aT Tryz.prog 92 false [.ptr (gS zs c),.val none [I n]] [.ptr (gS zs (bw zs c n).2),.val none [I n]] .one [I (bw zs c n).1]:=by
 have b1:=qH zs c;have s1:=jj zs c hz hc;unfold bw;refine fM 37 [(185,[2])] [] [(0,0),(0,0)] Tryz.func92 rfl (fun u q=>?_);by_cases li:n<=256
 ·rw[if_pos li]
  have e0:(dd zs c).1.tmod n=(dd zs c).1 % n:=Int.tmod_eq_emod_of_nonneg b1.1
  repeat'(first|refine gD ?_|(conv=>whnf);first|with_reducible (first|refine Ev.mk e0 ?_|refine Bf.D (fun hq=>?_) (fun hq=>?_))|refine cv.mk (s1) (.inl rfl) ?_|refine Cd.mk (by omega) ?_)
  refine aR.mk rfl rfl ?_;exact wB
 ·rw[if_neg li]
  have b2:=qH zs (dd zs c).2;have b3:=qH zs (dd zs (dd zs c).2).2;have b4:=qH zs (dd zs (dd zs (dd zs c).2).2).2;have s2:=jj zs (dd zs c).2 hz (gX hc);have s3:=jj zs (dd zs (dd zs c).2).2 hz (gX (gX hc));have s4:=jj zs (dd zs (dd zs (dd zs c).2).2).2 hz (gX (gX (gX hc)));have e0:(yg zs c).1.tmod n=(yg zs c).1 % n:=Int.tmod_eq_emod_of_nonneg (by unfold yg;simp only;omega);unfold yg at e0 |-;simp only at e0
  repeat'(first|refine gD ?_|(conv=>whnf);first|with_reducible (first|refine Ev.mk e0 ?_|refine Bf.D (fun hq=>?_) (fun hq=>?_))|refine cv.mk (s1) (.inl rfl) ?_|refine cv.mk (s2) (.inl rfl) ?_|refine cv.mk (s3) (.inl rfl) ?_|refine cv.mk (s4) (.inl rfl) ?_|refine Cd.mk (by omega) ?_)
  refine aR.mk rfl rfl ?_;exact wB
theorem Hz (zs:List Int) (c:gR) (l:List Int) (hz:iZ zs) (hc:c.i<=zs.length) (hl:1<=l.length/\l.length<=1000):aT Tryz.prog 310 false [.ptr (gS zs c),.val none (aF .imm l)] [.ptr (gS zs (jS zs c l).2),.val none (aF .imm l)] .one [I (jS zs c l).1]:=by
 have s1:=bQ zs c (l.length:Nat) hz hc (by omega);have b1:=bE zs c (n:=(l.length:Nat)) (by omega);have hx:=ah (xs:=l) (i:=(bw zs c (l.length:Nat)).1.toNat) (by omega);unfold jS;refine fM 12 [(92,[2,0])] [] [(0,0),(0,0)] Tryz.func310 rfl (fun u q=>?_)
 repeat'(first|refine gO ?_|(conv=>whnf);first|with_reducible refine Ix.mk (by omega) (aa hx) ?_|refine cv.mk (s1) (.inl rfl) ?_|refine Rw.one rfl (aa hx) rfl ?_)
 refine aR.mk rfl rfl ?_;exact wC
theorem gW (zs:List Int) (c:gR) (l:List Int) (hz:iZ zs) (hc:c.i<=zs.length) (hl:1<=l.length/\l.length<=1000):aT Tryz.prog 310 false [.ptr (gS zs c),.mut none (aF .own l)] [.ptr (gS zs (jS zs c l).2),.mut none (aF .own l)] .one [I (jS zs c l).1]:=by
 have s1:=bQ zs c (l.length:Nat) hz hc (by omega);have b1:=bE zs c (n:=(l.length:Nat)) (by omega);have hx:=ah (xs:=l) (i:=(bw zs c (l.length:Nat)).1.toNat) (by omega);unfold jS;refine fM 12 [(92,[2,0])] [] [(0,0),(1,0)] Tryz.func310 rfl (fun u q=>?_)
 repeat'(first|refine gO ?_|(conv=>whnf);first|with_reducible refine Ix.mk (by omega) (aa hx) ?_|refine cv.mk (s1) (.inl rfl) ?_|refine Rw.one rfl (aa hx) rfl ?_)
 refine aR.mk rfl rfl ?_;exact wC
theorem Ha (zs:List Int):∀ (f i:Nat) (out:List Int) (c:gR),(bw zs c 4).1<=i->nk zs f i out c=(out,(bw zs c 4).2)
 | 0,_,_,_,_=>rfl
 | f+1,i,out,c,h=>by unfold nk;rw[if_neg (by omega)]
theorem LL (zs:List Int) (f i:Nat) (out:List Int) (c:gR) (h:(i:Int)<(bw zs c 4).1):nk zs (f+1) i out c=nk zs f (i+1) (out++[(bw zs (bw zs c 4).2 12).1]) (bw zs (bw zs c 4).2 12).2:=by
 show(if _ then _ else _)=_;rw[if_pos h]
structure Rq where
 i:Nat
 out:List Int
 c:gR
theorem uQ (zs:List Int) (c:gR) (hz:iZ zs) (hc:c.i<=zs.length):aT Tryz.prog 242 false [.ptr (gS zs c)] [.ptr (gS zs (Ls zs c).2)] .one (aF .own (Ls zs c).1):=by
 refine fM 18 [(92,[2,0])] [] [(0,0)] Tryz.func242 rfl (fun u q=>?_) (.inr (bK _))
 repeat'(first|refine gO ?_|fail)
 (conv=>whnf)
 refine Lp.mk (ι:=Rq) (fun x=>[(0,.hold .box (gS zs x.c)),(3,.hold .one (aF .own x.out)),(4,.hold .one [I ((x.i:Nat):Int)])]) (fun x=>(x.i<=4/\x.out.length<=x.i/\x.c.i<=zs.length)/\nk zs (4 - x.i) x.i x.out x.c=Ls zs c) (fun x=>4 - x.i) (⟨0,[],c⟩) ?_ (⟨⟨Q0 _,Q0 _,hc⟩,rfl⟩) fun x hx=>?_
 ·exact wC
 obtain⟨i,out,d⟩:=x;obtain⟨⟨h1,h2,h3⟩,h4⟩:=hx;simp only at h1 h2 h3 h4 |-;have b1:=bE zs d (n:=4) (by decide);have s1:=bQ zs d 4 hz h3 (by decide);have i1:=bN h3 4;have s2:=bQ zs (bw zs d 4).2 12 hz i1 (by decide);have i2:=bN i1 12;by_cases li:(i:Int)<(bw zs d 4).1
 ·rw[show 4 - i=(4 - (i+1))+1 by omega,LL zs _ _ _ _ li]at h4
  repeat'(first|refine gD ?_|(conv=>whnf);first|refine cv.mk (s1) (.inl rfl) ?_|refine cv.mk (s2) (.inl rfl) ?_|refine Ap.mk cE (fun r hr=>by rw[X0.1 hr];rfl) (by simp[aW,d5]) (by simp;omega) (by simp only[U0];exact wK (by simp;omega) (by decide)) rfl ?_)
  ((conv=>whnf);refine Nx.mk ⟨i+1,out++[(bw zs (bw zs d 4).2 12).1],(bw zs (bw zs d 4).2 12).2⟩ ⟨⟨by simp only;omega,by simp only[P2,List.length_singleton];omega,i2⟩,h4⟩ (by simp only;omega) ?_)
  repeat'(first|exact trivial|rfl| exact dK _ |exact And.intro rfl (And.intro (R0 (C.s d3.own) (by simp[rI])) trivial)|refine And.intro ?_ ?_|(exact Br (by first|omega|(simp only;omega)|(simp;omega))))
 ·rw[Ha zs _ _ _ _ (by omega)]at h4
  rw[<-h4]
  repeat'(first|refine gD ?_|(conv=>whnf);first|refine cv.mk (s1) (.inl rfl) ?_)
  refine aR.mk rfl rfl ?_;exact wC
def cB.enc (o:d3) (c:cB):List C:=[I (c.Pages:Nat),I (c.Frames:Nat),I (c.Threads:Nat),I c.Limit,.s o (c.Refuse.map (rI o))]
theorem cB.enc_fz (c:cB):d9 (cB.enc .own c)=cB.enc .imm c:=by simp[d9,cB.enc,rI,<-bW,Function.comp_def]
theorem cB.enc_fr (c:cB):gG (cB.enc .own c):=⟨trivial,trivial,trivial,trivial,⟨.inl fun h=>(by cases h),aZ _ _ fun y _=>oN y⟩,trivial⟩
theorem v8 (zs:List Int) (c:gR) (hz:iZ zs) (hc:c.i<=zs.length):aT Tryz.prog 150 false [.ptr (gS zs c)] [.ptr (gS zs (Mp zs c).2)] .agg (cB.enc .own (oI zs c)):=by
 have i1:=bN hc 7;have i2:=bN i1 3;have i3:=bN i2 100;have i4:=bN i3 4;have s1:=bQ zs c 7 hz hc (by decide);have s2:=bQ zs (wS zs c).2 3 hz i1 (by decide);have s3:=bQ zs (AY zs c).2 100 hz i2 (by decide);have s4:=bQ zs (E0 zs c).2 4 hz i3 (by decide);have s5:=uQ zs (zt zs c).2 hz i4;have b1:=bE zs c (n:=7) (by decide);have b2:=bE zs (wS zs c).2 (n:=3) (by decide);have b3:=bE zs (AY zs c).2 (n:=100) (by decide);have b4:=bE zs (E0 zs c).2 (n:=4) (by decide);have hf:=cB.enc_fr (oI zs c);have e0:cB.enc .own (oI zs c)=[I (6+(wS zs c).1),I (6+(wS zs c).1 - (zt zs c).1),I (1+(AY zs c).1),I (40+(E0 zs c).1),.s .own ((Mp zs c).1.map (rI .own))]:=by
  have b1':0<=(wS zs c).1/\(wS zs c).1<7:=b1;have b2':0<=(AY zs c).1/\(AY zs c).1<3:=b2;have b4':0<=(zt zs c).1/\(zt zs c).1<4:=b4;unfold cB.enc oI;simp only;rw[Int.toNat_of_nonneg (by omega),Int.toNat_of_nonneg (by omega),Int.toNat_of_nonneg (by omega)]
 rw[e0]at hf |-;change aT _ _ _ _ [.ptr (gS zs (wS zs c).2),_] _ _ at s1;change aT _ _ _ _ [.ptr (gS zs (AY zs c).2),_] _ _ at s2;change aT _ _ _ _ [.ptr (gS zs (E0 zs c).2),_] _ _ at s3;change aT _ _ _ _ [.ptr (gS zs (zt zs c).2),_] _ _ at s4;change aT _ _ _ _ [.ptr (gS zs (Mp zs c).2)] _ (aF .own (Mp zs c).1) at s5;change aT _ _ _ _ _ _ [I (wS zs c).1]at s1;change aT _ _ _ _ _ _ [I (AY zs c).1]at s2;change aT _ _ _ _ _ _ [I (E0 zs c).1]at s3;change aT _ _ _ _ _ _ [I (zt zs c).1]at s4;change 0<=(wS zs c).1/\(wS zs c).1<7 at b1;change 0<=(AY zs c).1/\(AY zs c).1<3 at b2;change 0<=(E0 zs c).1/\(E0 zs c).1<100 at b3;change 0<=(zt zs c).1/\(zt zs c).1<4 at b4;generalize Mp zs c=r5 at *;generalize zt zs c=r4 at *;generalize E0 zs c=r3 at *;generalize AY zs c=r2 at *;generalize wS zs c=r1 at *;refine fM 24 [(92,[2,0]),(242,[2])] [(2,65536,[])] [(0,0)] Tryz.func150 rfl (fun u q=>?_) (.inr hf)
 repeat'(first|refine gO ?_|(conv=>whnf);first|refine cv.mk (s1) (.inl rfl) ?_|refine cv.mk (s2) (.inl rfl) ?_|refine cv.mk (s3) (.inl rfl) ?_|refine cv.mk (s4) (.inl rfl) ?_|refine cv.mk (s5) (.inl rfl) ?_|refine And.intro ?_ ?_)
 all_goals
  refine aR.mk rfl rfl ?_;exact wC
theorem wb (n:Nat) (hn:1<=n/\n<=32):ao Tryz.prog 400 false [.val none [I (n:Nat)]] (.tup [some 2,none]) (aQ.enc .own (dz n)++[B true]):=by
 have c1:=aD ((n:Nat):Int) 1 32;rw[O0 (by omega)]at c1;have hfr:=aK (b:=[B true]) (aQ.enc_fr (dz n)) ⟨trivial,trivial⟩;rw[show aQ.enc .own (dz n)=_ from uL n n]at hfr |-;refine fO 28 [(7,4,[16,17,18,19])] Tryz.func400 rfl ?_ (.inr hfr)
 repeat'(first|refine gO ?_|(conv=>whnf);first|refine Sm.rf ?_|refine Cl.mk (c1) ?_)
 (conv=>whnf)
 refine Lp.mk (ι:=Nat) (fun k=>[(0,.hold .one [I ((n:Nat))]),(2,.hold .box [.z,.z]),(4,.hold .box [.s .own (List.replicate k [.s .own (List.replicate 16 [I 0])]),.s .own (List.replicate k [B false])]),(5,.hold .one [I ((k:Nat):Int)])]) (fun k=>k<=n) (fun k=>n - k) (0) ?_ (Q0 _) fun k hk=>?_
 ·exact wB
 by_cases lk:k<n
 ·repeat'(first|refine gD ?_|(conv=>whnf);first|refine Sm.rf ?_|refine Mk.mk 16 rfl rfl (by decide) (by decide) rfl ?_|refine Ap.sn (fun r hr=>by rw[(List.mem_replicate.1 hr).2];rfl) rfl (by simp;omega) (by decide) (wu _ k) ?_)
  ((conv=>whnf);refine Nx.mk (k+1) (by omega) (by omega) ?_;(exact wB))
 ·obtain rfl:k=n:=by omega
  repeat'(first|refine gD ?_|(conv=>whnf);first|refine Sm.rf ?_)
  rfl
theorem wO (n:Nat) (hn:1<=n/\n<=32):ao Tryz.prog 401 false [.val none [I (n:Nat)]] (.tup [some 1,none]) (aE.enc .own (cV n)++[B true]):=by
 have c1:=aD ((n:Nat):Int) 1 32;rw[O0 (by omega)]at c1;have hfr:=aK (b:=[B true]) (aE.enc_fr (cV n)) ⟨trivial,trivial⟩;have he:aE.enc .own (cV n)=[.s .own (List.replicate n [I 0,I 0])]:=by simp[aE.enc,cV,bj.enc,List.map_replicate]
 rw[he]at hfr |-;refine fO 11 [] Tryz.func401 rfl ?_ (.inr hfr)
 repeat'(first|refine gO ?_|(conv=>whnf);first|refine Sm.rf ?_|refine Cl.mk (c1) ?_|refine Mk.mk n rfl rfl (by omega) (wK (by omega) (by decide)) rfl ?_)
 rfl
theorem tp (p f:Nat) (hp:1<=p/\p<=32) (hf:1<=f/\f<=32):ao Tryz.prog 378 false [.val none [I (p:Nat)],.val none [I (f:Nat)]] (.tup [some 3,none]) (aP.enc .own ⟨dz f,cV p⟩++[B true]):=by
 refine fO 30 [] Tryz.func378 rfl ?_ (.inr (aK (aP.enc_fr _) ⟨trivial,trivial⟩))
 repeat'(first|refine gO ?_|(conv=>whnf);first|refine Sm.rf ?_|refine Cl.mk (wb f hf) ?_|refine Cl.mk (wO p hp) ?_)
 rfl
theorem vX (p f:Nat) (rf:List Int) (hp:1<=p/\p<=32) (hf:1<=f/\f<=32) (hr:rf.length<=40/\∀ x∈rf,0<=x):ao Tryz.prog 350 false [.val none [I (p:Nat)],.val none [I (f:Nat)],.val none (aF .imm rf)] (.tup [some 5,none]) (af.enc .own (bv p f rf)++[B true]):=by
 have hk:=oV hp hf hr;have hrl:=hr.1;have c1:=kJ (bv p f rf) (bp hk);rw[hk]at c1;refine fO 31 [(2,260,[17,18,19,10,0,1,2,5,3,1000,1005,4,1005,6])] Tryz.func350 rfl ?_ (.inr (aK (af.enc_fr _) ⟨trivial,trivial⟩))
 repeat'(first|refine gO ?_|(conv=>whnf);first|refine Sm.rf ?_|refine Cl.mk (tp p f hp hf) ?_|refine Cl.eq (c1) ⟨⟨rfl,af.enc_fz (bv p f rf)⟩,trivial⟩ ?_|refine Ap.cp (fun _=>rfl) (fun _=>rfl) (by omega) (by decide) ?_|refine Fl.cp (fun _=>rfl) (fun _=>rfl) (by omega) (by decide) ?_|refine Sm.rf ?_)
 rfl
def Ng (p f t:Nat) (lim:Int) (rf:List Int) (k:Nat):ab:={caps (kv p f t lim rf) k with Quar:=⟨0,[]⟩}
theorem zA (p f t:Nat) (lim:Int) (rf:List Int) (hp:1<=p/\p<=32) (hf:1<=f/\f<=32) (ht:1<=t/\t<=4) (hl:0<=lim/\lim<=1000) (hr:rf.length<=40/\∀ x∈rf,0<=x):ao Tryz.prog 299 false [.val none [I (p:Nat)],.val none [I (f:Nat)],.val none [I (t:Nat)],.val none [I lim],.val none (aF .imm rf)] (.tup [some 24,none]) (ab.enc .own (kv p f t lim rf)++[B true]):=by
 have c1:=aD lim 0 1000;rw[O0 hl]at c1;refine fO 66 [(9,4,[54,55,56,57])] Tryz.func299 rfl ?_ (.inr (aK (ab.enc_fr _) ⟨trivial,trivial⟩))
 repeat'(first|refine gO ?_|(conv=>whnf);first|refine Sm.rf ?_|refine Cl.mk (vX p f rf hp hf hr) ?_|refine Cl.mk (zW t ht) ?_|refine Cl.mk (c1) ?_|refine Cl.mk (qP) ?_)
 (conv=>whnf)
 refine Lp.mk (ι:=Nat) (fun k=>[(2,.hold .one [I ((t:Nat))]),(10,.hold .box [.z,.z,.z,I 0,.z,.z,.z,.z,.z,.z,.z,.z,I 0,.z,I 0,I 0,I 0,I 0,B false,I 0,I 0,.z,I 0,I 0]),(16,.hold .box (ab.enc .own (Ng p f t lim rf k))),(17,.hold .one [I ((k:Nat):Int)])]) (fun k=>k<=t) (fun k=>t - k) (0) ?_ (Q0 _) fun k hk=>?_
 ·exact wB
 by_cases lk:k<t
 ·repeat'(first|refine gD ?_|(conv=>whnf);first|refine Sm.rf ?_|refine Cl.mk (wZ) ?_|refine Ap.sn B2 rfl (by rw[U0];show(List.replicate _ d6).length+1<=_;rw[W2];omega) (by decide) (yn k) ?_)
  ((conv=>whnf);refine Nx.mk (k+1) (by omega) (by omega) ?_;(exact wB))
 ·obtain rfl:k=t:=by omega
  repeat'(first|refine gD ?_|(conv=>whnf);first|refine Sm.rf ?_|refine Cl.mk (qP) ?_)
  rfl
theorem Dt:ao Tryz.prog 300 false [] .agg (ax.enc .own ⟨1,[]⟩):=by
 refine fO 2 [] Tryz.func300 rfl ?_ (.inr (ax.enc_fr _))
 repeat'((conv=>whnf);first|with_reducible (first|refine Lm ?_|refine Wm (by omega) ?_|refine Bn ?_|refine i6.wk rfl ?_)|refine Bt ?_|refine Bu ?_|refine Sm.rf ?_)
 exact⟨rfl,rfl,trivial⟩
theorem x4 (c:cB) (h:Et c):ao Tryz.prog 239 false [.val (some 5) (cB.enc .imm c)] (.tup [some 26,none]) (bG.enc .own (world0 c)++[B true]):=by
 have c1:=zA c.Pages c.Frames c.Threads c.Limit c.Refuse h.p h.f h.t h.l h.r;refine fO 26 [(4,2,[23,24])] Tryz.func239 rfl ?_ (.inr (aK (bG.enc_fr _) ⟨trivial,trivial⟩))
 repeat'(first|refine gO ?_|(conv=>whnf);first|refine Sm.rf ?_|refine Cl.mk (c1) ?_|refine Cl.mk (Dt) ?_)
 rfl
def mK (o:d3) (l:List dM):List C:=[.s o (l.map (dM.enc o))]
theorem dM.enc_fr (x:dM):gG (dM.enc .own x):=⟨trivial,trivial,trivial,trivial,trivial,trivial⟩
theorem Gz (l:List dM):gG (mK .own l):=⟨⟨.inl fun h=>(by cases h),aZ _ _ fun y _=>dM.enc_fr y⟩,trivial⟩
theorem Hn (l:List dM):d9 (mK .own l)=mK .imm l:=by simp[d9,mK,dM.enc,<-bW,Function.comp_def]
theorem AN (zs:List Int) (c:gR) (ids:Int) (hz:iZ zs) (hc:c.i<=zs.length) (hi:1<=ids/\ids<=1000):aT Tryz.prog 243 false [.ptr (gS zs c),.val none [I ids]] [.ptr (gS zs (qV zs c ids).2),.val none [I ids]] .agg (dM.enc .own (qV zs c ids).1):=by
 have i1:=bN hc 3;have i2:=bN i1 ids;have i3:(jO zs c ids).2.i<=zs.length:=bN i2 20;have s1:=bQ zs c 3 hz hc (by decide);have s2:=bQ zs (ym zs c).2 ids hz i1 hi.1;have s3:=bQ zs (D5 zs c ids).2 20 hz i2 (by decide);have b1:=bE zs c (n:=3) (by decide);have b2:=bE zs (ym zs c).2 (n:=ids) hi.1;have b3:=bE zs (D5 zs c ids).2 (n:=20) (by decide);have p1:=gW zs (jO zs c ids).2 szs hz i3 (by decide);have p2:=gW zs (jO zs c ids).2 [5,6] hz i3 (by decide);have p3:=gW zs (jO zs c ids).2 [1,30,60,120] hz i3 (by decide);have p4:=gW zs (jO zs c ids).2 [1,2,3,10,30] hz i3 (by decide);have q1:=bQ zs (jO zs c ids).2 4 hz i3 (by decide);have q2:=bQ zs (bw zs (jO zs c ids).2 4).2 999 hz (bN i3 _) (by decide);have q3:=bQ zs (jO zs c ids).2 10 hz i3 (by decide);have c2:=bE zs (bw zs (jO zs c ids).2 4).2 (n:=999) (by decide);have c3:=bE zs (jO zs c ids).2 (n:=10) (by decide);change aT _ _ _ _ [.ptr (gS zs (ym zs c).2),_] _ [I (ym zs c).1]at s1;change aT _ _ _ _ [.ptr (gS zs (D5 zs c ids).2),_] _ [I (D5 zs c ids).1]at s2;change aT _ _ _ _ [.ptr (gS zs (jO zs c ids).2),_] _ [I (jO zs c ids).1]at s3;change 0<=(ym zs c).1/\(ym zs c).1<3 at b1;change 0<=(D5 zs c ids).1/\(D5 zs c ids).1<ids at b2;change 0<=(jO zs c ids).1/\(jO zs c ids).1<20 at b3;have hf:=dM.enc_fr (qV zs c ids).1;unfold qV at hf |-;generalize jO zs c ids=k at *;generalize D5 zs c ids=n at *;generalize ym zs c=t at *;obtain⟨kk,kc⟩:=k;dsimp only at i3 p1 p2 p3 p4 q1 q2 q3 c2 c3 b3 s3 hf |-;refine fM 77 [(92,[2,0]),(310,[2,1])] [] [(0,0),(0,0)] Tryz.func243 rfl (fun u q=>?_) (.inr hf)
 repeat'(first|refine gO ?_|(conv=>whnf);first|refine cv.mk (s1) (.inl rfl) ?_|refine cv.mk (s2) (.inl rfl) ?_|refine cv.mk (s3) (.inl rfl) ?_)
 obtain rfl|rfl|rfl|rfl|rfl|rfl|rfl|rfl|rfl|rfl|rfl|rfl|rfl|rfl|rfl|rfl|rfl|rfl|rfl|rfl:=(show kk=0\/kk=1\/kk=2\/kk=3\/kk=4\/kk=5\/kk=6\/kk=7\/kk=8\/kk=9\/kk=10\/kk=11\/kk=12\/kk=13\/kk=14\/kk=15\/kk=16\/kk=17\/kk=18\/kk=19 by omega)
 ·rw[if_pos (show((0:Int))<=6 by decide)]
  repeat'(first|refine gO ?_|(conv=>whnf);first|refine cv.mk (p1) (.inl rfl) ?_)
  refine aR.mk rfl rfl ?_;exact wC
 ·rw[if_pos (show((1:Int))<=6 by decide)]
  repeat'(first|refine gO ?_|(conv=>whnf);first|refine cv.mk (p1) (.inl rfl) ?_)
  refine aR.mk rfl rfl ?_;exact wC
 ·rw[if_pos (show((2:Int))<=6 by decide)]
  repeat'(first|refine gO ?_|(conv=>whnf);first|refine cv.mk (p1) (.inl rfl) ?_)
  refine aR.mk rfl rfl ?_;exact wC
 ·rw[if_pos (show((3:Int))<=6 by decide)]
  repeat'(first|refine gO ?_|(conv=>whnf);first|refine cv.mk (p1) (.inl rfl) ?_)
  refine aR.mk rfl rfl ?_;exact wC
 ·rw[if_pos (show((4:Int))<=6 by decide)]
  repeat'(first|refine gO ?_|(conv=>whnf);first|refine cv.mk (p1) (.inl rfl) ?_)
  refine aR.mk rfl rfl ?_;exact wC
 ·rw[if_pos (show((5:Int))<=6 by decide)]
  repeat'(first|refine gO ?_|(conv=>whnf);first|refine cv.mk (p1) (.inl rfl) ?_)
  refine aR.mk rfl rfl ?_;exact wC
 ·rw[if_pos (show((6:Int))<=6 by decide)]
  repeat'(first|refine gO ?_|(conv=>whnf);first|refine cv.mk (p1) (.inl rfl) ?_)
  refine aR.mk rfl rfl ?_;exact wC
 ·rw[if_neg (show ¬((7:Int)<=6) by decide),if_pos (show((7:Int))<=9 by decide)]
  repeat'(first|refine gO ?_|fail)
  refine aR.mk rfl rfl ?_;exact wC
 ·rw[if_neg (show ¬((8:Int)<=6) by decide),if_pos (show((8:Int))<=9 by decide)]
  repeat'(first|refine gO ?_|fail)
  refine aR.mk rfl rfl ?_;exact wC
 ·rw[if_neg (show ¬((9:Int)<=6) by decide),if_pos (show((9:Int))<=9 by decide)]
  repeat'(first|refine gO ?_|fail)
  refine aR.mk rfl rfl ?_;exact wC
 ·rw[if_neg (show ¬((10:Int)<=6) by decide),if_neg (show ¬((10:Int)<=9) by decide),if_pos (show((10:Int))<=12 by decide)]
  repeat'(first|refine gO ?_|(conv=>whnf);first|refine cv.mk (q1) (.inl rfl) ?_|refine cv.mk (q2) (.inl rfl) ?_)
  refine aR.mk rfl rfl ?_;exact wC
 ·rw[if_neg (show ¬((11:Int)<=6) by decide),if_neg (show ¬((11:Int)<=9) by decide),if_pos (show((11:Int))<=12 by decide)]
  repeat'(first|refine gO ?_|(conv=>whnf);first|refine cv.mk (q1) (.inl rfl) ?_|refine cv.mk (q2) (.inl rfl) ?_)
  refine aR.mk rfl rfl ?_;exact wC
 ·rw[if_neg (show ¬((12:Int)<=6) by decide),if_neg (show ¬((12:Int)<=9) by decide),if_pos (show((12:Int))<=12 by decide)]
  repeat'(first|refine gO ?_|(conv=>whnf);first|refine cv.mk (q1) (.inl rfl) ?_|refine cv.mk (q2) (.inl rfl) ?_)
  refine aR.mk rfl rfl ?_;exact wC
 ·rw[if_neg (show ¬((13:Int)<=6) by decide),if_neg (show ¬((13:Int)<=9) by decide),if_neg (show ¬((13:Int)<=12) by decide),if_pos (show((13:Int))=13 by decide)]
  repeat'(first|refine gO ?_|(conv=>whnf);first|refine cv.mk (q3) (.inl rfl) ?_)
  refine aR.mk rfl rfl ?_;exact wC
 ·rw[if_neg (show ¬((14:Int)<=6) by decide),if_neg (show ¬((14:Int)<=9) by decide),if_neg (show ¬((14:Int)<=12) by decide),if_neg (show ¬((14:Int)=13) by decide),if_pos (show((14:Int))=14 by decide)]
  repeat'(first|refine gO ?_|(conv=>whnf);first|refine cv.mk (p2) (.inl rfl) ?_)
  refine aR.mk rfl rfl ?_;exact wC
 ·rw[if_neg (show ¬((15:Int)<=6) by decide),if_neg (show ¬((15:Int)<=9) by decide),if_neg (show ¬((15:Int)<=12) by decide),if_neg (show ¬((15:Int)=13) by decide),if_neg (show ¬((15:Int)=14) by decide),if_pos (show((15:Int))=15 by decide)]
  repeat'(first|refine gO ?_|fail)
  refine aR.mk rfl rfl ?_;exact wC
 ·rw[if_neg (show ¬((16:Int)<=6) by decide),if_neg (show ¬((16:Int)<=9) by decide),if_neg (show ¬((16:Int)<=12) by decide),if_neg (show ¬((16:Int)=13) by decide),if_neg (show ¬((16:Int)=14) by decide),if_neg (show ¬((16:Int)=15) by decide),if_pos (show((16:Int))=16 by decide)]
  repeat'(first|refine gO ?_|(conv=>whnf);first|refine cv.mk (p3) (.inl rfl) ?_)
  refine aR.mk rfl rfl ?_;exact wC
 ·rw[if_neg (show ¬((17:Int)<=6) by decide),if_neg (show ¬((17:Int)<=9) by decide),if_neg (show ¬((17:Int)<=12) by decide),if_neg (show ¬((17:Int)=13) by decide),if_neg (show ¬((17:Int)=14) by decide),if_neg (show ¬((17:Int)=15) by decide),if_neg (show ¬((17:Int)=16) by decide),if_pos (show((17:Int))=17 by decide)]
  repeat'(first|refine gO ?_|fail)
  refine aR.mk rfl rfl ?_;exact wC
 ·rw[if_neg (show ¬((18:Int)<=6) by decide),if_neg (show ¬((18:Int)<=9) by decide),if_neg (show ¬((18:Int)<=12) by decide),if_neg (show ¬((18:Int)=13) by decide),if_neg (show ¬((18:Int)=14) by decide),if_neg (show ¬((18:Int)=15) by decide),if_neg (show ¬((18:Int)=16) by decide),if_neg (show ¬((18:Int)=17) by decide)]
  repeat'(first|refine gO ?_|(conv=>whnf);first|refine cv.mk (p4) (.inl rfl) ?_)
  refine aR.mk rfl rfl ?_;exact wC
 ·rw[if_neg (show ¬((19:Int)<=6) by decide),if_neg (show ¬((19:Int)<=9) by decide),if_neg (show ¬((19:Int)<=12) by decide),if_neg (show ¬((19:Int)=13) by decide),if_neg (show ¬((19:Int)=14) by decide),if_neg (show ¬((19:Int)=15) by decide),if_neg (show ¬((19:Int)=16) by decide),if_neg (show ¬((19:Int)=17) by decide)]
  repeat'(first|refine gO ?_|(conv=>whnf);first|refine cv.mk (p4) (.inl rfl) ?_)
  refine aR.mk rfl rfl ?_;exact wC
theorem zx (zs:List Int) (c:gR) (hz:iZ zs) (hc:c.i<=zs.length):aT Tryz.prog 151 false [.ptr (gS zs c),.val none [I 40]] [.ptr (gS zs (mz zs c).2),.val none [I 40]] .one (mK .own (mz zs c).1):=by
 have s1:=bQ zs c 41 hz hc (by decide);have b1:=bE zs c (n:=41) (by decide);obtain⟨n,hn⟩:=Z1 b1.1;have hnn:(bw zs c 41).1.toNat=n:=by rw[hn];rfl
 unfold mz;rw[hnn];rw[hn]at s1 b1;refine fM 27 [(92,[2,0]),(243,[2,0])] [] [(0,0),(0,0)] Tryz.func151 rfl (fun u q=>?_) (.inr (Gz _))
 repeat'(first|refine gO ?_|(conv=>whnf);first|refine cv.mk (s1) (.inl rfl) ?_)
 (conv=>whnf)
 refine Lp.mk (ι:=Nat) (fun i=>[(0,.hold .box (gS zs (kq zs c i).2)),(5,.hold .one (mK .own (kq zs c i).1)),(6,.hold .one [I ((n:Nat):Int)]),(7,.hold .one [I ((i:Nat):Int)])]) (fun i=>i<=n) (fun i=>n - i) (0) ?_ (Q0 _) fun i hi=>?_
 ·exact wC
 obtain⟨h1,-,h3⟩:=qF (zs:=zs) (c:=c) hc (n:=i) (by omega);by_cases li:i<n
 ·have s2:=AN zs (kq zs c i).2 (1+(i:Int) / 2) hz h3 (by omega)
  have e2:((i:Nat):Int).tdiv 2=(i:Int) / 2:=Int.tdiv_eq_ediv_of_nonneg (by omega)
  repeat'(first|refine gD ?_|(conv=>whnf);first|with_reducible (first|refine Ev.mk e2 ?_|refine Cd.mk (by omega) ?_)|refine cv.mk (s2) (.inl rfl) ?_|refine Ap.mk (aO fun _=>rfl) (fun r hr=>by rw[X0.1 hr];rfl) (by simp[aW,d5,dM.enc]) (by simp;omega) (by simp only[U0];exact wK (by simp;omega) (by decide)) rfl ?_)
  ((conv=>whnf);refine Nx.mk (i+1) (by omega) (by omega) ?_)
  repeat'(first|exact trivial|rfl| exact dK _ |exact And.intro rfl (And.intro (R0 (C.s d3.own) (by simp[kq];rfl)) trivial)|refine And.intro ?_ ?_|(exact Br (by first|omega|(simp only;omega)|(simp;omega))))
 ·obtain rfl:i=n:=by omega
  repeat'(first|refine gD ?_|fail)
  refine aR.mk rfl rfl ?_;exact wC
def rfs (h:ab):List Int:=h.Kernel.Refuse
theorem Aj (k:af) (p:Int):(fB k p).1.Refuse=k.Refuse:=by unfold fB;split<;>rfl
theorem qy (k:af) (p:Int):∀ n,(cr k p n).1.Refuse=k.Refuse
 | 0=>rfl
 | n+1=>by
  unfold cr;split
  ·exact(Aj _ _).trans (qy k p n)
  ·exact qy k p n
theorem K2 (h:ab) (i:Nat):rfs (mP h i).1=rfs h:=by unfold mP;split<;>rfl
theorem xR (h:ab) (t c:Nat):rfs (ep h t c).1=rfs h:=by
 unfold ep;split
 ·rfl
 split
 ·rfl
 split
 ·rfl
 split
 ·exact Aj _ _
 ·exact(K2 _ _).trans (Aj _ _)
theorem Hp (h:ab) (t n:Int):rfs (fw h t n).1=rfs h:=by
 unfold fw;split
 ·rfl
 split
 ·rfl
 split
 ·rfl
 split
 ·rfl
 split
 ·split
  ·exact xR _ _ _
  ·exact xR _ _ _
 ·unfold nQ
  split
  ·rfl
  split
  ·exact qy _ _ _
  ·exact((j7 _ _ _).2).trans (qy _ _ _)
theorem Jn (h:ab) (t i:Nat):rfs (freeT h t i).1=rfs h:=by
 unfold freeT;split
 ·exact(j7 _ _ _).2
 split
 ·rfl
 split
 ·exact(fN t _ _).2.2.2.2.2.2.2
 split<;>rfl
theorem xS (t:Nat) (h:ab):∀ k,rfs (flushN t h k).1=rfs h
 | 0=>rfl
 | k+1=>((gI _ (spilt (flushN t h k).1 t k)).2.2.2.2.2.2.2).trans (xS t h k)
theorem DG {h:ab} (hi:bm h []) (hj:JI h):∀ n,rfs (ml h n).1=rfs h
 | 0=>rfl
 | n+1=>by
  obtain⟨h1,h2⟩:=wq hi hj n;unfold ml;split
  ·rename_i e
   unfold rS at e;rw[I0]at e;exact((uY h1 e.1).2.2.1).trans (DG hi hj n)
  ·exact DG hi hj n
theorem Jw {w:bG} {m:Nat} (h:su w m) (a:dM):rfs (mQ w a).1.Heap=rfs w.Heap:=by
 unfold mQ;split
 ·exact Hp _ _ _
 split
 ·split
  ·rfl
  unfold mI;split
  ·unfold qj
   split
   ·rfl
   split
   ·exact Jn _ _ _
   ·rfl
  split
  ·unfold nO
   split
   ·rfl
   split
   ·rfl
   split<;>rfl
  ·unfold qX
   split
   ·exact((j7 _ _ _).2).trans (rz _ _ _).2.2
   ·rfl
 split
 ·unfold gc
  split
  ·split<;>rfl
  split
  ·rfl
  split
  ·exact(fN _ _ _).2.2.2.2.2.2.2
  ·exact xS _ _ _
 split
 ·unfold oz
  split
  ·exact(gI _ _).2.2.2.2.2.2.2
  ·rfl
 split
 ·unfold og
  split
  ·rfl
  ·show rfs (started w.Heap).1=_
   unfold rfs;rw[(sH h.inv).2.1]
 split
 ·exact DG h.inv h.ji _
 ·rfl
theorem E4 {c:cB} (h:Et c) (acts:List dM):∀ n,rfs (zc c acts n).1.Heap=c.Refuse
 | 0=>rfl
 | n+1=>(Jw (uS h acts n) _).trans (E4 h acts n)
def pp (w:bG):List C:=bu w.Heap++ax.enc .imm w.Ref
theorem LH (w:bG):d9 (pp w)=bG.enc .imm w:=by
 unfold pp;rw[ee,bA,<-ax.enc_fz,qx,ax.enc_fz]
 rfl
theorem AZ (w:bG) (id:Int) (hl:w.Heap.Objs.length<=1048576):aT Tryz.prog 302 false [.ptr (pp w),.val none [I id]] [.ptr (pp w),.val none [I id]] .one [I (qO w.Heap id)]:=by
 refine fM 28 [] [] [(0,0),(0,0)] Tryz.func302 rfl (fun u q=>?_)
 repeat'(first|refine gO ?_|(conv=>whnf);first|refine Sm.rf ?_)
 (conv=>whnf)
 refine Lp.mk (ι:=Nat) (fun i=>[(0,.hold .box (pp w)),(1,.hold .one [I (id)]),(5,.hold .one [I ((i:Nat):Int)])]) (fun i=>i<=w.Heap.Objs.length/\∀ (j:Nat) (z:bO),j<i->w.Heap.Objs[j]? = some z->Js id z=false) (fun i=>w.Heap.Objs.length - i) (0) ?_ (⟨Q0 _,fun j z hj=>by omega⟩) fun i hi=>?_
 ·exact wC
 obtain⟨hi,ha⟩:=hi;by_cases li:i<w.Heap.Objs.length
 ·have hx:=ah li
  by_cases e:(nth w.Heap.Objs i).Id=id
  ·repeat'(first|refine gA ?_|(conv=>whnf);first|with_reducible refine Ix.nat (aa hx) ?_|refine Sm.rf ?_|refine Rw.one rfl (aa hx) rfl ?_)
   refine aR.mk rfl (R0 (fun z=>[I z]) (dR hx (O0 e) ha).symm) ?_;exact wC
  ·repeat'(first|refine gA ?_|(conv=>whnf);first|with_reducible refine Ix.nat (aa hx) ?_|refine Sm.rf ?_|refine Rw.one rfl (aa hx) rfl ?_)
   ((conv=>whnf);refine Nx.mk (i+1) ⟨by omega,dl hx (P0 e) ha⟩ (by omega) ?_;(exact wC))
 ·repeat'(first|refine gD ?_|(conv=>whnf);first|refine Sm.rf ?_)
  refine aR.mk rfl (R0 (fun z=>[I z]) (gr (by omega) ha).symm) ?_;exact wC
theorem cK (y:ab):(bu y).length=24:=rfl
theorem xu (w:bG) (m n:Nat) (h:su w m) (hn:n<=50):aT Tryz.prog 308 false [.ptr (pp w),.val none [I (n:Nat)]] [.ptr (pp ⟨(ml w.Heap n).1,w.Ref⟩),.val none [I (n:Nat)]] .one [I ((ml w.Heap n).2:Nat)]:=by
 refine fM 35 [(368,[2])] [] [(0,0),(0,0)] Tryz.func308 rfl (fun u q=>?_)
 repeat'(first|refine gO ?_|(conv=>whnf);first|refine Sm.rf ?_)
 (conv=>whnf)
 refine Lp.mk (ι:=Nat) (fun i=>[(0,.hold .box (pp ⟨(ml w.Heap i).1,w.Ref⟩)),(1,.hold .one [I ((n:Nat):Int)]),(5,.hold .one [I (((ml w.Heap i).2:Nat):Int)]),(6,.hold .one [I ((i:Nat):Int)])]) (fun i=>i<=n/\(ml w.Heap i).2=i) (fun i=>n - i) (0) ?_ (⟨Q0 _,rfl⟩) fun i hi=>?_
 ·exact wC
 obtain⟨hi,he⟩:=hi;obtain⟨g1,g2⟩:=wq h.inv h.ji i;have hst:ml w.Heap (i+1)=if rS (ml w.Heap i).1=true then(mStep (ml w.Heap i).1,(ml w.Heap i).2+1) else ml w.Heap i:=rfl
 have hcal:=(aB.1 g1.ker).2.2.2.2;by_cases li:i<n
 ·cases e1:(ml w.Heap i).1.Meshing with
  | true=>
   have c1:=(Ah _ g1 e1).frame (r:=ax.enc .imm w.Ref) ((cK _).trans (cK _).symm);by_cases e2:(ml w.Heap i).1.Kernel.Calls<=99000
   ·have e3:rS (ml w.Heap i).1=true:=by unfold rS;rw[e1,O0 e2];rfl
    rw[if_pos e3]at hst;generalize ml w.Heap i=s at *
    repeat'(first|refine gD ?_|(conv=>whnf);first|refine Sm.rf ?_|refine Bf.t (O0 e2) ?_|refine Bf.t e1 ?_|refine cv.mk (c1) (.inl rfl) ?_)
    ((conv=>whnf);refine Nx.mk (i+1) ⟨by omega,by rw[hst];simp only;omega⟩ (by omega) ?_)
    rw[hst];exact wC
   ·have e3:rS (ml w.Heap i).1=false:=by unfold rS;rw[e1,P0 e2];rfl
    have hend:∀ k,ml w.Heap (i+k)=ml w.Heap i:=fun k=>by
     induction k with
     | zero=>rfl
     | succ k ih=>show(if rS (ml w.Heap (i+k)).1=true then _ else ml w.Heap (i+k))=_;rw[ih,e3,if_neg (by simp)]
    have h2:=hend (n - i);rw[show i+(n - i)=n by omega]at h2;rw[h2];generalize ml w.Heap i=s at *
    repeat'(first|refine gD ?_|(conv=>whnf);first|refine Sm.rf ?_|refine Bf.f (P0 e2) ?_|refine Bf.t e1 ?_)
    refine aR.mk rfl rfl ?_;exact wC
  | false=>
   have e3:rS (ml w.Heap i).1=false:=by unfold rS;rw[e1];rfl
   have hend:∀ k,ml w.Heap (i+k)=ml w.Heap i:=fun k=>by
    induction k with
    | zero=>rfl
    | succ k ih=>show(if rS (ml w.Heap (i+k)).1=true then _ else ml w.Heap (i+k))=_;rw[ih,e3,if_neg (by simp)]
   have h2:=hend (n - i);rw[show i+(n - i)=n by omega]at h2;rw[h2];generalize ml w.Heap i=s at *
   repeat'(first|refine gD ?_|(conv=>whnf);first|refine Sm.rf ?_|refine Bf.f e1 ?_)
   refine aR.mk rfl rfl ?_;exact wC
 ·obtain rfl:i=n:=by omega
  repeat'(first|refine gD ?_|(conv=>whnf);first|refine Sm.rf ?_)
  refine aR.mk rfl rfl ?_;exact wC
theorem Eo {k:af} (hk:a8 k=true):(a8 k&&decide (k.Calls<100000))=decide (k.Calls≠100000):=by
 have:=(aB.1 hk).2.2.2.2;rw[hk,Bool.true_and,V3,C0,C0];omega
theorem uK (w:bG) (a:dM) (m:Nat) (h:su w m) (hk:a.Kind=5\/a.Kind=6\/a.Kind=7):aT Tryz.prog 304 false [.ptr (pp w),.val (some 5) (dM.enc .imm a)] [.ptr (pp ⟨(gc w.Heap a).1,w.Ref⟩),.val (some 5) (dM.enc .imm a)] .one [I (gc w.Heap a).2]:=by
 have hi:=h.inv;have hnc:=hi.nc;have hlc:w.Heap.Caches.length<=4:=by have:=(d4.1 hi.mail).1.2.1;omega
 have hL:=km.of hi.mail;have c0:=ky w.Heap.Kernel (bp hi.ker);rw[Eo hi.ker]at c0;have c1:=aD a.Thread 0 (w.Heap.Caches.length - 1:Int);unfold gc;refine fM 59 [(361,[2,0]),(362,[2,0])] [(3,267,[15,16,17,18,19,20,21,14,22,23,6,0,1,2,3,4,5,6,7,8,9,10,11,1009,12]),(8,15,[30,31,32,33,34,35,36,37,38,39,40,41,42,43,44])] [(0,0),(0,0)] Tryz.func304 rfl (fun u q=>?_);by_cases e1:a.Kind=5
 ·rw[if_pos e1]
  by_cases e2:0<=a.Thread/\a.Thread<=w.Heap.Caches.length - 1
  ·have em:mG w.Heap a:=e2
   obtain⟨t,ht⟩:=Z1 e2.1;have c2:=Dz w.Heap.Mail t hi.mail (by omega);rw[<-ht]at c2;rw[ht]at e2 |-;simp only[W1];rw[ht]at c2;by_cases e3:0<(nth w.Heap.Mail.Buffers t).length
   ·rw[if_pos (show mG w.Heap a/\0<(nth w.Heap.Mail.Buffers t).length from⟨em,e3⟩)]
    rw[if_pos e3,O0 e3]at c2;rw[<-ht]at c2
    repeat'(first|refine gA ?_|(conv=>whnf);first|with_reducible refine Bf.E (fun hq=>?_) (fun hq=>?_)|refine Sm.rf ?_|refine Cl.eq (c2) ⟨⟨rfl,aH.enc_fz w.Heap.Mail⟩,⟨rfl,rfl⟩,trivial⟩ ?_|refine Sm.rf ?_)
    refine aR.mk rfl rfl ?_;exact wC
   ·rw[if_neg (show ¬(mG w.Heap a/\0<(nth w.Heap.Mail.Buffers t).length) from fun x=>e3 x.2)]
    rw[if_neg e3,P0 e3]at c2;rw[<-ht]at c2
    repeat'(first|refine gA ?_|(conv=>whnf);first|with_reducible refine Bf.E (fun hq=>?_) (fun hq=>?_)|refine Sm.rf ?_|refine Cl.eq (c2) ⟨⟨rfl,aH.enc_fz w.Heap.Mail⟩,⟨rfl,rfl⟩,trivial⟩ ?_|refine Sm.rf ?_)
    refine aR.mk rfl rfl ?_;exact wC
  ·rw[if_neg (show ¬(mG w.Heap a/\0<(nth w.Heap.Mail.Buffers a.Thread.toNat).length) from fun x=>e2 x.1)]
   have c2:=Ea w.Heap.Mail a.Thread hi.mail (by omega)
   repeat'(first|refine gA ?_|(conv=>whnf);first|with_reducible refine Bf.E (fun hq=>?_) (fun hq=>?_)|refine Sm.rf ?_|refine Cl.eq (c2) ⟨⟨rfl,aH.enc_fz w.Heap.Mail⟩,⟨rfl,rfl⟩,trivial⟩ ?_|refine Sm.rf ?_)
   refine aR.mk rfl rfl ?_;exact wC
 rw[if_neg e1];by_cases e2:w.Heap.Kernel.Calls≠100000;rotate_left
 ·rw[if_pos (show ¬(w.Heap.Kernel.Calls≠100000/\mG w.Heap a) from fun x=>e2 x.1)]
  rw[P0 e2]at c0
  repeat'(first|refine gA ?_|(conv=>whnf);first|refine Sm.rf ?_|refine Cl.eq (c0) ⟨⟨rfl,af.enc_fz _⟩,trivial⟩ ?_|refine Sm.rf ?_)
  refine aR.mk rfl rfl ?_;exact wC
 rw[O0 e2]at c0;by_cases e3:0<=a.Thread/\a.Thread<=w.Heap.Caches.length - 1;rotate_left
 ·rw[if_pos (show ¬(w.Heap.Kernel.Calls≠100000/\mG w.Heap a) from fun x=>e3 x.2)]
  rw[P0 e3]at c1
  repeat'(first|refine gA ?_|(conv=>whnf);first|refine Sm.rf ?_|refine Cl.eq (c0) ⟨⟨rfl,af.enc_fz _⟩,trivial⟩ ?_|refine Cl.mk (c1) ?_|refine Sm.rf ?_)
  refine aR.mk rfl rfl ?_;exact wC
 rw[if_neg (show ¬¬(w.Heap.Kernel.Calls≠100000/\mG w.Heap a) from C3 ⟨e2,e3⟩)];rw[O0 e3]at c1;obtain⟨t,ht⟩:=Z1 e3.1;by_cases e4:a.Kind=6
 ·rw[if_pos e4]
  have c2:=(tH w.Heap t hi (by omega)).frame (r:=ax.enc .imm w.Ref) ((cK _).trans (cK _).symm);rw[show a.Thread.toNat=t by omega];rw[<-ht]at c2
  repeat'(first|refine gA ?_|(conv=>whnf);first|refine Sm.rf ?_|refine Cl.eq (c0) ⟨⟨rfl,af.enc_fz _⟩,trivial⟩ ?_|refine Cl.mk (c1) ?_|refine cv.mk (c2) (.inl rfl) ?_|refine Sm.rf ?_)
  refine aR.mk rfl rfl ?_;exact wC
 ·rw[if_neg e4]
  have c2:=(xG w.Heap t hi (by omega)).frame (r:=ax.enc .imm w.Ref) ((cK _).trans (cK _).symm);rw[show a.Thread.toNat=t by omega];rw[<-ht]at c2
  repeat'(first|refine gA ?_|(conv=>whnf);first|refine Sm.rf ?_|refine Cl.eq (c0) ⟨⟨rfl,af.enc_fz _⟩,trivial⟩ ?_|refine Cl.mk (c1) ?_|refine cv.mk (c2) (.inl rfl) ?_|refine Sm.rf ?_)
  refine aR.mk rfl rfl ?_;exact wC
theorem vT (w:bG) (a:dM) (i m:Nat) (h:su w m) (hm:m<=900) (ha:KC a) (li:i<w.Heap.Objs.length):aT Tryz.prog 303 false [.ptr (pp w),.val (some 5) (dM.enc .imm a),.val none [I (i:Nat)]] [.ptr (pp (mI w a i).1),.val (some 5) (dM.enc .imm a),.val none [I (i:Nat)]] .one [I (mI w a i).2]:=by
 have hi:=h.inv;have hx:=ah li;have hob:=rY hi (am li);have hw0:=lB hi (am li) (k:=0);have hsz:1<=(nth w.Heap.Objs i).Size/\(nth w.Heap.Objs i).Size<=1000:=by
  rcases hi.oow _ (am li) with⟨s,hs,h1,h2⟩|⟨l,hl',e1,e2⟩
  ·have hc:=aG (hi.L.sok s hs)
   have:=pb (n:=(nth w.Heap.Objs i).Size) (by omega);omega
  ·have h8:=cw (hi.L.lok l hl')
   omega
 have c0:=ky w.Heap.Kernel (bp hi.ker);rw[Eo hi.ker]at c0;have hak:=ha.k;have hap:=ha.p;have hav:=ha.v;unfold mI;refine fM 126 [(354,[2,0,0]),(356,[2,0,0]),(358,[2,0,0])] [(6,7,[29,30,31,32,33,34,35]),(8,269,[40,41,42,43,44,45,46,47,39,48,49,50,51,0,1,2,3,4,5,6,7,8,9,10,11,12,13,1010]),(13,10,[62,63,64,65,66,67,68,69,70,71]),(15,273,[76,77,78,79,80,81,82,83,84,85,86,87,75,88,89,90,91,0,1,2,3,4,5,6,7,8,9,10,11,12,13,14,15,16,17,1014]),(17,15,[93,94,95,96,97,98,99,100,101,102,103,104,105,106,107]),(19,271,[112,113,114,115,116,117,118,119,120,121,111,122,123,124,125,0,1,2,3,4,5,6,7,8,9,10,11,12,13,14,15,1012])] [(0,0),(0,0),(0,0)] Tryz.func303 rfl (fun u q=>?_);by_cases k2:a.Kind=2
 ·rw[if_pos k2]
  unfold qj;by_cases e1:w.Heap.Kernel.Calls=100000
  ·rw[if_pos e1]
   rw[P0 (C3 e1)]at c0
   repeat'(first|refine gA ?_|(conv=>whnf);first|with_reducible refine Ix.nat (aa hx) ?_|refine Sm.rf ?_|refine Cl.eq (c0) ⟨⟨rfl,af.enc_fz _⟩,trivial⟩ ?_|refine Rw.one rfl (aa hx) rfl ?_|refine Sm.rf ?_)
   refine aR.mk rfl rfl ?_;exact wC
  rw[if_neg e1];rw[O0 e1]at c0;have c1:=(LP w.Heap i a.Thread hi li).frame (r:=ax.enc .imm w.Ref) ((cK _).trans (cK _).symm);by_cases e2:0<=a.Thread/\a.Thread<=w.Heap.Caches.length - 1
  ·rw[if_pos (show mG w.Heap a from e2)]
   rw[if_pos e2,if_pos e2]at c1;have c2:=yJ w.Ref (nth w.Heap.Objs i).Id m h.ref (by omega);generalize freeT w.Heap a.Thread.toNat i=f at c1 |-;by_cases e3:f.2=0
   ·rw[if_pos e3]
    repeat'(first|refine gA ?_|(conv=>whnf);first|with_reducible (first|refine Ix.nat (aa hx) ?_|refine Bf.E (fun hq=>?_) (fun hq=>?_))|refine Sm.rf ?_|refine Cl.eq (c0) ⟨⟨rfl,af.enc_fz _⟩,trivial⟩ ?_|refine Rw.one rfl (aa hx) rfl ?_|refine cv.mk (c1) (.inl rfl) ?_|refine Cl.sh c2 rfl ?_|refine Sm.rf ?_)
    refine aR.mk rfl rfl ?_;exact wC
   ·rw[if_neg e3]
    repeat'(first|refine gA ?_|(conv=>whnf);first|with_reducible (first|refine Ix.nat (aa hx) ?_|refine Bf.E (fun hq=>?_) (fun hq=>?_))|refine Sm.rf ?_|refine Cl.eq (c0) ⟨⟨rfl,af.enc_fz _⟩,trivial⟩ ?_|refine Rw.one rfl (aa hx) rfl ?_|refine cv.mk (c1) (.inl rfl) ?_|refine Sm.rf ?_)
    refine aR.mk rfl rfl ?_;exact wC
  ·rw[if_neg (show ¬mG w.Heap a from e2)]
   rw[if_neg e2,if_neg e2]at c1
   repeat'(first|refine gA ?_|(conv=>whnf);first|with_reducible (first|refine Ix.nat (aa hx) ?_|refine Bf.E (fun hq=>?_) (fun hq=>?_))|refine Sm.rf ?_|refine Cl.eq (c0) ⟨⟨rfl,af.enc_fz _⟩,trivial⟩ ?_|refine Rw.one rfl (aa hx) rfl ?_|refine cv.mk (c1) (.inl rfl) ?_|refine Sm.rf ?_)
   refine aR.mk rfl rfl ?_;exact wC
 rw[if_neg k2];by_cases k3:a.Kind=3
 ·rw[if_pos k3]
  unfold nO;have c3:=aD a.At 0 ((nth w.Heap.Objs i).Size - 1);by_cases e1:0<=a.At/\a.At<=(nth w.Heap.Objs i).Size - 1;rotate_left
  ·rw[if_pos e1]
   rw[P0 e1]at c3
   repeat'(first|refine gA ?_|(conv=>whnf);first|with_reducible (first|refine Ix.nat (aa hx) ?_|refine Bf.E (fun hq=>?_) (fun hq=>?_))|refine Sm.rf ?_|refine Rw.one rfl (aa hx) rfl ?_|refine Cl.mk (c3) ?_|refine Sm.rf ?_)
   refine aR.mk rfl rfl ?_;exact wC
  rw[if_neg (C3 e1)];rw[O0 e1]at c3;have c4:=(xx w.Heap i a.At a.Value hi li e1).frame (r:=ax.enc .imm w.Ref) (by split<;>rfl);have hwa:=lB hi (am li) e1;by_cases e2:(ar w.Heap.Kernel.Machine.Table (((nth w.Heap.Objs i).Addr+a.At) / 16)).Mode=1
  ·rw[if_pos e2]
   rw[if_pos (.inl e2),if_pos e2]at c4
   repeat'(first|refine gA ?_|(conv=>whnf);first|with_reducible (first|refine Ix.nat (aa hx) ?_|refine Bf.E (fun hq=>?_) (fun hq=>?_))|refine Sm.rf ?_|refine Rw.one rfl (aa hx) rfl ?_|refine Cl.mk (c3) ?_|refine cv.mk (c4) (.inl rfl) ?_|refine Sm.rf ?_)
   refine aR.mk rfl rfl ?_;exact wC
  rw[if_neg e2];by_cases e3:0<=a.Value/\a.Value<=999;rotate_left
  ·rw[if_pos e3]
   rw[if_pos (.inr e3),if_neg e2,if_pos e3]at c4
   repeat'(first|refine gA ?_|(conv=>whnf);first|with_reducible (first|refine Ix.nat (aa hx) ?_|refine Bf.E (fun hq=>?_) (fun hq=>?_))|refine Sm.rf ?_|refine Rw.one rfl (aa hx) rfl ?_|refine Cl.mk (c3) ?_|refine cv.mk (c4) (.inl rfl) ?_|refine Sm.rf ?_)
   refine aR.mk rfl rfl ?_;exact wC
  rw[if_neg (C3 e3)];rw[if_neg (fun x=>x.elim e2 fun y=>y e3),if_neg e2,if_neg (C3 e3)]at c4;obtain⟨b5,c5⟩:=Aq w.Ref (nth w.Heap.Objs i).Id a.At a.Value m h.ref (by omega) e3
  repeat'(first|refine gA ?_|(conv=>whnf);first|with_reducible (first|refine Ix.nat (aa hx) ?_|refine Bf.E (fun hq=>?_) (fun hq=>?_))|refine Sm.rf ?_|refine Rw.one rfl (aa hx) rfl ?_|refine Cl.mk (c3) ?_|refine cv.mk (c4) (.inl rfl) ?_|refine Cl.mk (c5) ?_|refine Sm.rf ?_)
  refine aR.mk rfl rfl ?_;exact wC
 rw[if_neg k3];unfold qX;by_cases e1:w.Heap.Kernel.Calls=100000
 ·rw[if_neg (fun x=>x.1 e1)]
  rw[P0 (C3 e1)]at c0
  repeat'(first|refine gA ?_|(conv=>whnf);first|with_reducible refine Ix.nat (aa hx) ?_|refine Sm.rf ?_|refine Cl.eq (c0) ⟨⟨rfl,af.enc_fz _⟩,trivial⟩ ?_|refine Rw.one rfl (aa hx) rfl ?_|refine Sm.rf ?_)
  refine aR.mk rfl rfl ?_;exact wC
 rw[O0 e1]at c0;by_cases e2:kg w.Heap i a.Value
 ·rw[if_pos ⟨e1,e2⟩]
  have c6:=(qJ w.Heap i a.Value hi li e2.1).frame (r:=ax.enc .imm w.Ref) (by split<;>rfl);rw[if_pos e2,O0 e2]at c6;obtain⟨b7,c7⟩:=A3 w.Ref (nth w.Heap.Objs i).Id a.Value m h.ref (by omega)
  repeat'(first|refine gA ?_|(conv=>whnf);first|with_reducible refine Ix.nat (aa hx) ?_|refine Sm.rf ?_|refine Cl.eq (c0) ⟨⟨rfl,af.enc_fz _⟩,trivial⟩ ?_|refine Rw.one rfl (aa hx) rfl ?_|refine cv.mk (c6) (.inl rfl) ?_|refine Cl.mk (c7) ?_|refine Sm.rf ?_)
  refine aR.mk rfl rfl ?_;exact wC
 ·rw[if_neg (fun x=>e2 x.2)]
  by_cases e3:wQ w.Heap (nth w.Heap.Objs i).Addr<0
  ·have c6:=(EL w.Heap (nth w.Heap.Objs i).Addr a.Value (by have:=hi.lens.larges;omega) hi.L.lok e3).frame (r:=ax.enc .imm w.Ref) ((cK _).trans (cK _).symm)
   repeat'(first|refine gA ?_|(conv=>whnf);first|with_reducible refine Ix.nat (aa hx) ?_|refine Sm.rf ?_|refine Cl.eq (c0) ⟨⟨rfl,af.enc_fz _⟩,trivial⟩ ?_|refine Rw.one rfl (aa hx) rfl ?_|refine cv.mk (c6) (.inl rfl) ?_|refine Sm.rf ?_)
   refine aR.mk rfl rfl ?_;exact wC
  ·have c6:=(qJ w.Heap i a.Value hi li (by omega)).frame (r:=ax.enc .imm w.Ref) (by split<;>rfl)
   rw[if_neg e2,P0 e2]at c6
   repeat'(first|refine gA ?_|(conv=>whnf);first|with_reducible refine Ix.nat (aa hx) ?_|refine Sm.rf ?_|refine Cl.eq (c0) ⟨⟨rfl,af.enc_fz _⟩,trivial⟩ ?_|refine Rw.one rfl (aa hx) rfl ?_|refine cv.mk (c6) (.inl rfl) ?_|refine Sm.rf ?_)
   refine aR.mk rfl rfl ?_;exact wC
theorem su.fit {w:bG} {m:Nat} (h:su w m) (hr:i9 w.Heap.Kernel.Refuse):ab.sml w.Heap/\ab.wf w.Heap:=
 ⟨(h.inv.fit hr (km.of h.inv.mail).sml).sml,h.inv.wf hr⟩
theorem ER (w:bG) (a:dM) (m:Nat) (h:su w m) (hm:m<=900) (hr:i9 w.Heap.Kernel.Refuse) (ha:KC a):aT Tryz.prog 240 false [.ptr (pp w),.val (some 5) (dM.enc .imm a)] [.ptr (pp (mQ w a).1),.val (some 5) (dM.enc .imm a)] .one [I (mQ w a).2]:=by
 have hi:=h.inv;have hak:=ha.k;have han:=ha.n;have hnum:=hi.nums;unfold bU at hnum;rw[C0]at hnum;unfold mQ;refine fM 123 [(143,[2,0,0]),(302,[2,0]),(303,[2,0,0]),(304,[2,0]),(306,[2,0]),(307,[2]),(308,[2,0])] [(3,265,[13,14,15,16,17,18,19,21,22,0,1,2,3,4,5,6,7,8,9,10,11,1010,12]),(5,269,[26,27,28,29,30,31,32,33,25,34,35,36,37,0,1,2,3,4,5,6,7,8,9,10,11,12,13,1010]),(19,21,[62,63,64,65,66,67,68,69,70,71,72,73,74,75,76,77,78,79,80,81,82]),(21,5,[86,87,88,89,90])] [(0,0),(0,0)] Tryz.func240 rfl (fun u q=>?_);by_cases k1:a.Kind=1
 ·rw[if_pos k1]
  have c1:=(xe w.Heap a.Thread a.N hi).frame (r:=ax.enc .imm w.Ref) ((cK _).trans (cK _).symm);by_cases e:(fw w.Heap a.Thread a.N).2.2=0
  ·rw[if_pos e]
   have hal:1<=a.N/\a.N<=1000:=by
    refine Classical.byContradiction fun hn=>?_
    unfold fw at e;rw[if_pos hn]at e;split at e
    ·exact absurd (show(5:Int)=0 from e) (by decide)
    split at e
    ·exact absurd (show(1:Int)=0 from e) (by decide)
    exact absurd (show(2:Int)=0 from e) (by decide)
   have c2:=wT w.Ref a.N m h.ref (by omega) hal;generalize fw w.Heap a.Thread a.N=f at c1 e |-
   repeat'(first|refine gA ?_|(conv=>whnf);first|with_reducible refine Bf.E (fun hq=>?_) (fun hq=>?_)|refine Sm.rf ?_|refine cv.mk (c1) (.inl rfl) ?_|refine Cl.mk (c2) ?_|refine Sm.rf ?_)
   refine aR.mk rfl rfl ?_;exact wC
  ·rw[if_neg e]
   generalize fw w.Heap a.Thread a.N=f at c1 e |-
   repeat'(first|refine gA ?_|(conv=>whnf);first|with_reducible refine Bf.E (fun hq=>?_) (fun hq=>?_)|refine Sm.rf ?_|refine cv.mk (c1) (.inl rfl) ?_|refine Sm.rf ?_)
   refine aR.mk rfl rfl ?_;exact wC
 rw[if_neg k1];by_cases k2:a.Kind=2\/a.Kind=3\/a.Kind=4
 ·rw[if_pos k2]
  have c1:=AZ w a.N (by have:=hi.lens.objs;omega);by_cases e:qO w.Heap a.N<0
  ·rw[if_pos e]
   repeat'(first|refine gA ?_|(conv=>whnf);first|with_reducible refine Bf.E (fun hq=>?_) (fun hq=>?_)|refine Sm.rf ?_|refine cv.mk (c1) (.inl rfl) ?_)
   all_goals first|omega|skip
   all_goals
    refine aR.mk rfl rfl ?_;exact wC
  ·rw[if_neg e]
   obtain⟨f1,f2,f3⟩:=fK (Js a.N) w.Heap.Objs (by unfold qO at e;omega);have c2:=vT w a (qO w.Heap a.N).toNat m h hm ha f1;rw[show(((qO w.Heap a.N).toNat:Nat):Int)=qO w.Heap a.N by omega]at c2
   repeat'(first|refine gA ?_|(conv=>whnf);first|with_reducible refine Bf.E (fun hq=>?_) (fun hq=>?_)|refine Sm.rf ?_|refine cv.mk (c1) (.inl rfl) ?_|refine cv.mk (c2) (.inl rfl) ?_)
   all_goals first|omega|skip
   all_goals
    refine aR.mk rfl rfl ?_;exact wC
 rw[if_neg k2];by_cases k5:a.Kind=5\/a.Kind=6\/a.Kind=7
 ·rw[if_pos k5]
  have c1:=uK w a m h k5
  repeat'(first|refine gA ?_|(conv=>whnf);first|with_reducible refine Bf.E (fun hq=>?_) (fun hq=>?_)|refine Sm.rf ?_|refine cv.mk (c1) (.inl rfl) ?_)
  all_goals first|omega|skip
  all_goals
   refine aR.mk rfl rfl ?_;exact wC
 rw[if_neg k5];by_cases k8:a.Kind=8
 ·rw[if_pos k8]
  unfold oz;have c0:=ky w.Heap.Kernel (bp hi.ker);rw[Eo hi.ker]at c0;have c1:=aD a.N 0 1000;by_cases e1:w.Heap.Kernel.Calls≠100000;rotate_left
  ·rw[if_neg (fun x=>e1 x.1)]
   rw[P0 e1]at c0
   repeat'(first|refine gA ?_|(conv=>whnf);first|with_reducible refine Bf.E (fun hq=>?_) (fun hq=>?_)|refine Sm.rf ?_|refine Cl.eq (c0) ⟨⟨rfl,af.enc_fz _⟩,trivial⟩ ?_|refine Sm.rf ?_)
   refine aR.mk rfl rfl ?_;exact wC
  rw[O0 e1]at c0;by_cases e2:0<=a.N/\a.N<=1000;rotate_left
  ·rw[if_neg (fun x=>e2 x.2.1)]
   rw[P0 e2]at c1
   repeat'(first|refine gA ?_|(conv=>whnf);first|with_reducible refine Bf.E (fun hq=>?_) (fun hq=>?_)|refine Sm.rf ?_|refine Cl.eq (c0) ⟨⟨rfl,af.enc_fz _⟩,trivial⟩ ?_|refine Cl.mk (c1) ?_|refine Sm.rf ?_)
   refine aR.mk rfl rfl ?_;exact wC
  rw[O0 e2]at c1;by_cases e3:w.Heap.Clock+a.N<=1000000
  ·rw[if_pos ⟨e1,e2,e3⟩]
   have c2:=(yR w.Heap a.N hi e2 e3).frame (r:=ax.enc .imm w.Ref) ((cK _).trans (cK _).symm)
   repeat'(first|refine gA ?_|(conv=>whnf);first|with_reducible refine Bf.E (fun hq=>?_) (fun hq=>?_)|refine Sm.rf ?_|refine Cl.eq (c0) ⟨⟨rfl,af.enc_fz _⟩,trivial⟩ ?_|refine Cl.mk (c1) ?_|refine cv.mk (c2) (.inl rfl) ?_|refine Sm.rf ?_)
   refine aR.mk rfl rfl ?_;exact wC
  ·rw[if_neg (fun x=>e3 x.2.2)]
   repeat'(first|refine gA ?_|(conv=>whnf);first|with_reducible refine Bf.E (fun hq=>?_) (fun hq=>?_)|refine Sm.rf ?_|refine Cl.eq (c0) ⟨⟨rfl,af.enc_fz _⟩,trivial⟩ ?_|refine Cl.mk (c1) ?_|refine Sm.rf ?_)
   refine aR.mk rfl rfl ?_;exact wC
 rw[if_neg k8];by_cases k9:a.Kind=9
 ·rw[if_pos k9]
  unfold og;obtain⟨hs,hw⟩:=h.fit hr;have c0:=B0 w.Heap hs hw;rw[show dm w.Heap=true from hi.to]at c0;cases e1:w.Heap.Meshing with
  | true=>
   rw[if_pos rfl]
   repeat'(first|refine gA ?_|(conv=>whnf);first|with_reducible refine Bf.E (fun hq=>?_) (fun hq=>?_)|refine Sm.rf ?_|refine Bf.t e1 ?_|refine Sm.rf ?_)
   refine aR.mk rfl rfl ?_;exact wC
  | false=>
   rw[if_neg (by simp)];have c1:=(xh w.Heap hi).frame (r:=ax.enc .imm w.Ref) ((cK _).trans (cK _).symm);cases e2:(started w.Heap).2<;>rw[e2]at c1
   ·rw[if_neg (by simp)]
    repeat'(first|refine gA ?_|(conv=>whnf);first|with_reducible refine Bf.E (fun hq=>?_) (fun hq=>?_)|refine Sm.rf ?_|refine Bf.f e1 ?_|refine Cl.eq (c0) ⟨⟨rfl,bA w.Heap⟩,trivial⟩ ?_|refine cv.mk (c1) (.inl rfl) ?_|refine Sm.rf ?_)
    refine aR.mk rfl rfl ?_;exact wC
   ·rw[if_pos rfl]
    repeat'(first|refine gA ?_|(conv=>whnf);first|with_reducible refine Bf.E (fun hq=>?_) (fun hq=>?_)|refine Sm.rf ?_|refine Bf.f e1 ?_|refine Cl.eq (c0) ⟨⟨rfl,bA w.Heap⟩,trivial⟩ ?_|refine cv.mk (c1) (.inl rfl) ?_|refine Sm.rf ?_)
    refine aR.mk rfl rfl ?_;exact wC
 rw[if_neg k9];have k10:a.Kind=10:=by omega
 have c0:=aD a.N 0 50;by_cases e1:0<=a.N/\a.N<=50
 ·rw[if_pos ⟨k10,e1⟩]
  rw[O0 e1]at c0;obtain⟨n,hn⟩:=Z1 e1.1;have c1:=xu w m n h (by omega);rw[show a.N.toNat=n by omega];rw[<-hn]at c1
  repeat'(first|refine gA ?_|(conv=>whnf);first|with_reducible refine Bf.E (fun hq=>?_) (fun hq=>?_)|refine Sm.rf ?_|refine Cl.mk (c0) ?_|refine cv.mk (c1) (.inl rfl) ?_|refine Sm.rf ?_)
  refine aR.mk rfl rfl ?_;exact wC
 ·rw[if_neg (fun x=>e1 x.2)]
  rw[P0 e1]at c0
  repeat'(first|refine gA ?_|(conv=>whnf);first|with_reducible refine Bf.E (fun hq=>?_) (fun hq=>?_)|refine Sm.rf ?_|refine Cl.mk (c0) ?_|refine Sm.rf ?_)
  refine aR.mk rfl rfl ?_;exact wC
theorem Av (w:bG) (h1:ab.sml w.Heap) (h2:ax.sml w.Ref):ao Tryz.prog 241 false [.val (some 26) (bG.enc .imm w)] .agg (bG.enc .own w):=by
 have c1:=zQ w.Heap h1;have c2:=dA w.Ref h2;refine fO 10 [(1,5,[3,4,5,6,7])] Tryz.func241 rfl ?_ (.inr (bG.enc_fr _))
 repeat'(first|refine gO ?_|(conv=>whnf);first|refine Cl.mk (c1) ?_|refine Cl.mk (c2) ?_|refine Sm.rf ?_)
 rfl
theorem Ag (c:cB) (acts:List dM) (h:Et c) (hr:i9 c.Refuse) (ha:∀ a∈acts,KC a) (hl:acts.length<=80):ao Tryz.prog 149 false [.val (some 5) (cB.enc .imm c),.val none (mK .imm acts)] (.tup [some 26,none]) (bG.enc .own (zc c acts acts.length).1++aF .own (zc c acts acts.length).2):=by
 have c1:=x4 c h;refine fP 42 [(240,[2,0]),(2000005,[6,21,25])] [] Tryz.func149 rfl ?_ (.inr (aK (bG.enc_fr _) (bK _)))
 repeat'(first|refine gD ?_|(conv=>whnf);first|refine Cl.mk (c1) ?_|refine DL.mk rfl rfl rfl ?_)
 (conv=>whnf)
 refine Lp.mk (ι:=Nat) (fun i=>[(1,.hold .one (mK .imm acts)),(4,.hold .box [.z,.z,.z,I 0,.z,.z,.z,.z,.z,.z,.z,.z,I 0,.z,I 0,I 0,I 0,I 0,B false,I 0,I 0,.z,I 0,I 0,I 0,.z]),(6,.hold .box (pp (zc c acts i).1)),(8,.hold .one (aF .own (zc c acts i).2)),(9,.hold .one [I ((i:Nat):Int)])]) (fun i=>i<=acts.length) (fun i=>acts.length - i) (0) ?_ (Q0 _) fun i hi=>?_
 ·repeat'(first|exact trivial|rfl |exact nN hoo|exact dK _|refine And.intro ?_ ?_|(exact Br (by first|omega|(simp only;omega)|(simp;omega))))
 have hk:=uS h acts i;have hrf:=E4 h acts i;have hlen:(zc c acts i).2.length=i:=by
  clear hk hrf hi
  induction i with
  | zero=>rfl
  | succ k ih=>show((zc c acts k).2++[_]).length=_;rw[P2,ih];rfl
 by_cases li:i<acts.length
 ·have hx:=ah li
  have c2:=ER (zc c acts i).1 (nth acts i) i hk (by omega) (by unfold rfs at hrf;rw[hrf];exact hr) (ha _ (am li))
  repeat'(first|refine gD ?_|(conv=>whnf);first|with_reducible refine Ix.nat (aa hx) ?_|refine Rw.one rfl (aa hx) rfl ?_|refine cv.mk (c2) (.inl rfl) ?_|refine Ap.mk cE (fun r hr=>by rw[X0.1 hr];rfl) (by simp[aW,d5]) (by simp;omega) (by simp only[U0];exact wK (by simp;omega) (by decide)) rfl ?_)
  ((conv=>whnf);refine Nx.mk (i+1) (by omega) (by omega) ?_)
  repeat'(first|exact trivial|rfl| exact dK _ |exact And.intro rfl (And.intro (R0 (C.s d3.own) (by simp[zc,rI])) trivial)|refine And.intro ?_ ?_|(exact Br (by first|omega|(simp only;omega)|(simp;omega))))
 ·obtain rfl:i=acts.length:=by omega
  have hf:=hk.fit (by unfold rfs at hrf;rw[hrf];exact hr);have c3:=Av (zc c acts acts.length).1 hf.1 (hk.ref.sml (by omega))
  repeat'(first|refine gD ?_|(conv=>whnf);first|refine Cl.eq (c3) ⟨⟨rfl,LH _⟩,trivial⟩ ?_)
  rfl
theorem Dl (zs:List Int) (c:gR):i9 (oI zs c).Refuse:=by
 show i9 (nk zs 4 0 [] (zt zs c).2).1;have key:∀ (f i:Nat) (out:List Int) (c:gR),(∀ x∈out,l7 x)->∀ x∈(nk zs f i out c).1,l7 x:=by
  intro f
  induction f with
  | zero=>intro i out c h;exact h
  | succ f ih=>
   intro i out c h;unfold nk;split
   ·refine ih _ _ _ fun x hx=>?_
    rcases C2.1 hx with hx|hx
    ·exact h x hx
    ·rw[X0.1 hx]
     have:=bE zs (bw zs c 4).2 (n:=12) (by decide);exact⟨by omega,by omega⟩
   ·exact h
 exact⟨by
   have h4:∀ (f i:Nat) (out:List Int) (c:gR),out.length+f<=4->(nk zs f i out c).1.length<=4:=by
     intro f
     induction f with
     | zero=>intro i out c h;exact h
     | succ f ih=>
       intro i out c h;unfold nk;split
       · exact ih _ _ _ (by simp only[P2,List.length_singleton];omega)
       · show out.length<=4;omega
   have:=h4 4 0 [] (zt zs c).2 (I2 _);omega,key 4 0 [] _ (fun x hx=>by cases hx)⟩
theorem xD (zs:List Int) (hz:iZ zs):aT Tryz.prog 61 false [.ptr (gS zs (tt zs))] [.ptr (gS zs (mz zs (eO zs)).2)] .agg (bG.enc .own (drawn zs)):=by
 have h1:(tt zs).i<=zs.length:=Q0 _;obtain⟨k1,k2⟩:=qk h1;have hb:=bE zs (eO zs) (n:=41) (by decide);obtain⟨a1,a2,-⟩:=qF (zs:=zs) (c:=eO zs) k2 (n:=(bw zs (eO zs) 41).1.toNat) (by omega);have c1:=v8 zs (tt zs) hz h1;have c2:=zx zs (eO zs) hz k2;have c3:=Ag (oI zs (tt zs)) (mz zs (eO zs)).1 k1 (Dl zs _) a2 (by show(kq zs (eO zs) _).1.length<=80;omega);have e0:drawn zs=(zc (oI zs (tt zs)) (mz zs (eO zs)).1 (mz zs (eO zs)).1.length).1:=rfl;rw[e0];change aT _ _ _ _ [.ptr (gS zs (eO zs))] _ _ at c1;generalize oI zs (tt zs)=cf at *;generalize hA:mz zs (eO zs)=A at *;generalize hR:zc cf A.1 A.1.length=R at *;refine fM 14 [(150,[2]),(151,[2,0])] [] [(0,0)] Tryz.func61 rfl (fun u q=>?_) (.inr (bG.enc_fr _))
 repeat'(first|refine gO ?_|(conv=>whnf);first|refine cv.mk (c1) (.inl rfl) ?_|refine cv.mk (c2) (.inl rfl) ?_|refine Cl.eq (c3) ⟨⟨rfl,cB.enc_fz _⟩,⟨rfl,Hn _⟩,trivial⟩ ?_)
 refine aR.mk rfl rfl ?_;exact wC
def Np (z:List Int):List C:=[.s .imm (z.map rU)]
theorem Da (zs:List Int) (hz:iZ zs):pv Tryz.prog 62 true [.val none (Np zs)] .box (gS zs (tt zs)):=by
 have hl:=hz.1;have e1:IntKind.i64.wrap (98801+(zs.length:Nat))=w64 (98801+(zs.length:Nat)):=rfl;have e0:oD zs 0=98801+(zs.length:Nat):=by show w64 _=_;rw[<-e1];exact dS (by omega) (by omega)
 have hoo:=R0 I e0;refine Nd (n:=32) (t:=2) (mo:=[]) (tb:=[]) Tryz.func62 (by kernel_rfl) rfl (by kernel_rfl) (by rfl) rfl ?_
 repeat'(first|refine gO ?_|fail)
 (conv=>whnf)
 refine Lp.mk (ι:=Nat) (fun i=>[(0,.hold .one (Np zs)),(3,.hold .one [I (oD zs i)]),(4,.hold .one [I ((i:Nat):Int)])]) (fun i=>i<=min zs.length 4000) (fun i=>min zs.length 4000 - i) (0) ?_ (Q0 _) fun i hi=>?_
 ·repeat'(first|exact trivial|rfl |exact nN hoo|exact dK _|refine And.intro ?_ ?_|(exact Br (by first|omega|(simp only;omega)|(simp;omega))))
 have e2:IntKind.i64.wrap (oD zs i*131)=w64 (oD zs i*131):=rfl;have e3:IntKind.i64.wrap (w64 (oD zs i*131)+nth zs i)=w64 (w64 (oD zs i*131)+nth zs i):=rfl;have e4:IntKind.i64.wrap (w64 (w64 (oD zs i*131)+nth zs i)+7)=w64 (w64 (w64 (oD zs i*131)+nth zs i)+7):=rfl;have e5:IntKind.i64.wrap (BitVec.ofInt IntKind.i64.bits (w64 (w64 (w64 (oD zs i*131)+nth zs i)+7)) &&& BitVec.ofInt IntKind.i64.bits 1073741823).toNat=oD zs (i+1):=rfl;by_cases li:i<zs.length/\i<4000
 ·have hx:=ah li.1
  have h2:=hz.2 _ (am li.1);generalize oD zs i=H at *;generalize hH:oD zs (i+1)=H2 at *
  repeat'(first|refine gD ?_|(conv=>whnf);first|with_reducible (first|refine Ix.nat (aa hx) ?_|refine Wr.mk e2 ?_|refine Wr.mk e3 ?_|refine Wr.mk e4 ?_|refine Wr.mk e5 ?_)|refine Rw.one rfl (aa hx) rfl ?_)
  ((conv=>whnf);refine Nx.mk (i+1) (by omega) (by omega) ?_)
  rw[hH];exact wC
 ·obtain rfl:i=min zs.length 4000:=by omega
  have e9:tt zs = ⟨0,oD zs (min zs.length 4000)⟩:=rfl;rw[e9];generalize oD zs (min zs.length 4000)=H at *
  repeat'(first|refine gD ?_|(conv=>whnf);first|with_reducible refine Bf.D (fun hq=>?_) (fun hq=>?_))
  all_goals rfl
theorem uW (zs:List Int) (hz:iZ zs):ao Tryz.prog 16 false [.val none (Np zs)] .agg (bG.enc .own (drawn zs)):=by
 have c1:=Da zs hz;have c2:=xD zs hz;refine fP 6 [(61,[2])] [] Tryz.func16 rfl ?_ (.inr (bG.enc_fr _))
 repeat'(first|refine gO ?_|(conv=>whnf);first|refine Cl.g c1 (.inr rfl) ?_|refine cv.mk (c2) (.inl rfl) ?_)
 rfl
def cls (h:ab):Int:=h.Kernel.Calls
theorem yI (k:af) (p:Int):(fB k p).1.Calls=k.Calls+1:=by unfold fB;split<;>rfl
theorem B8 (k:af) (p:Int):∀ n:Nat,(cr k p n).1.Calls<=k.Calls+n
 | 0=>by show k.Calls<=k.Calls+0;omega
 | n+1=>by
  have ih:=B8 k p n;unfold cr;split
  ·refine X3 (Z3 (yI (cr k p n).1 (p+(n:Nat)))) ?_
   omega
  ·omega
theorem HD (h:ab) (i:Nat):cls (mP h i).1=cls h:=by unfold mP;split<;>rfl
theorem Gy (h:ab) (t c:Nat):cls (ep h t c).1<=cls h+1:=by
 unfold ep;split
 ·show cls h<=_;omega
 split
 ·show cls h<=_;omega
 split
 ·show cls h<=_;omega
 split
 ·exact Z3 (yI _ _)
 ·exact Z3 ((HD _ _).trans (yI _ _))
theorem GZ (h:ab) (t n:Int) (hc:cls h<=99001):cls (fw h t n).1<=99001:=by
 unfold fw;split
 ·exact hc
 rename_i h1;have hk:cls h<=90000:=by unfold cls;omega
 split
 ·exact hc
 split
 ·exact hc
 rename_i h3;split
 ·exact hc
 split
 ·have:=Gy h t.toNat (aN n).toNat
  split
  ·show cls (ep h t.toNat (aN n).toNat).1<=_;omega
  ·show cls (ep h t.toNat (aN n).toNat).1<=_;omega
 ·have hl:(jU n:Int)<=63:=by unfold jU;omega
  unfold nQ;split
  ·exact hc
  have hn:=B8 h.Kernel (ay h.Free (jU n:Nat)).2.1 (jU n);unfold cls at hk;split
  ·exact X3 hn (by omega)
  ·exact X3 (Z3 (j7 _ _ _).1) (X3 hn (by omega))
theorem Ke (h:ab) (t i:Nat):cls (freeT h t i).1=cls h:=by
 unfold freeT;split
 ·exact(j7 _ _ _).1
 split
 ·rfl
 split
 ·exact(fN t _ _).2.2.1
 split<;>rfl
theorem ye (t:Nat) (h:ab):∀ k,cls (flushN t h k).1=cls h
 | 0=>rfl
 | k+1=>((gI _ (spilt (flushN t h k).1 t k)).2.2.1).trans (ye t h k)
theorem JA {h:ab} (hi:bm h []) (hj:JI h) (hc:cls h<=99001):∀ n,cls (ml h n).1<=99001
 | 0=>hc
 | n+1=>by
  obtain⟨h1,h2⟩:=wq hi hj n;unfold ml;split
  ·rename_i e
   unfold rS at e;rw[I0,C0]at e;exact X3 ((uY h1 e.1).2.1) (by omega)
  ·exact JA hi hj hc n
theorem Kg {w:bG} {m:Nat} (h:su w m) (a:dM) (hc:cls w.Heap<=99001):cls (mQ w a).1.Heap<=99001:=by
 unfold mQ;split
 ·exact GZ _ _ _ hc
 split
 ·split
  ·exact hc
  unfold mI;split
  ·unfold qj
   split
   ·exact hc
   split
   ·exact X3 (Z3 (Ke _ _ _)) hc
   ·exact hc
  split
  ·unfold nO
   split
   ·exact hc
   split
   ·exact hc
   split<;>exact hc
  ·unfold qX
   split
   ·exact X3 (Z3 (((j7 _ _ _).1).trans (rz _ _ _).2.1)) hc
   ·exact hc
 split
 ·unfold gc
  split
  ·split<;>exact hc
  split
  ·exact hc
  split
  ·exact X3 (Z3 (fN _ _ _).2.2.1) hc
  ·exact X3 (Z3 (ye _ _ _)) hc
 split
 ·unfold oz
  split
  ·exact X3 (Z3 (gI _ _).2.2.1) hc
  ·exact hc
 split
 ·unfold og
  split
  ·exact hc
  ·show cls (started w.Heap).1<=_
   unfold cls;rw[(sH h.inv).2.1];exact hc
 split
 ·exact JA h.inv h.ji hc _
 ·exact hc
theorem Ja {c:cB} (h:Et c) (acts:List dM):∀ n,cls (zc c acts n).1.Heap<=99001
 | 0=>by show(0:Int)<=99001;decide
 | n+1=>Kg (uS h acts n) _ (Ja h acts n)
theorem xg {h:ab} (hs:ab.sml h):af.sml (destroyed h).1:=by
 unfold destroyed;split
 ·rename_i e;exact bp (eB (qz e.1) _)
 ·exact hs.1
set_option maxHeartbeats 2000000
set_option maxHeartbeats 2000000
set_option maxHeartbeats 2000000
set_option maxHeartbeats 2000000
set_option maxHeartbeats 2000000
set_option maxHeartbeats 2000000
theorem x9 (h:ab):ao Tryz.prog 66 false [.val (some 24) (ab.enc .imm h)] .one [I (dG h:Nat)]:=by
 refine fO 9 [] Tryz.func66 rfl ?_
 repeat'(first|refine gO ?_|(conv=>whnf);first|refine Sm.rf ?_)
 rfl
theorem uR {h:ab} (e:eS h=false):reset h=h:=by unfold reset;rw[e];rfl
theorem ry {h:ab} (e:eS h=true):reset h=lO h:=by unfold reset;rw[e];rfl
theorem Dk {h:ab} (e:eS h=true):dm h=true/\h.Kernel.Calls≠100000:=by unfold eS at e;simpa using e
theorem vJ (h:ab) (hs:ab.sml h):ao Tryz.prog 19 false [.val (some 24) (ab.enc .imm h)] (.tup [some 24,none]) (ab.enc .own (reset h)++[B (eS h)]):=by
 have c1:=jX h hs;rw[oB]at c1;have c3:=xC h hs;cases e1:dm h<;>rw[e1]at c1
 ·have er:eS h=false:=by unfold eS;rw[e1];rfl
  rw[uR er,er];refine fO 54 [(4,274,[25,26,27,28,29,30,31,32,33,34,35,36,37,38,24,39,40,6,0,1,2,3,4,5,6,7,8,9,10,11,12,13,14,15,16,17,18,1016,19])] Tryz.func19 rfl ?_ (.inr (aK (ab.enc_fr _) ⟨trivial,trivial⟩))
  repeat'(first|refine gO ?_|(conv=>whnf);first|refine Sm.rf ?_|refine Cl.mk (c1) ?_|refine Cl.mk (c3) ?_)
  rfl
 obtain⟨b1,b2,b3,b4,b5,b6,b7,b8,b9,b10⟩:=nl e1;by_cases e2:h.Kernel.Calls=100000
 ·have er:eS h=false:=by unfold eS;rw[e1,P0 (fun n=>n e2)];rfl
  rw[uR er,er];refine fO 54 [(4,274,[25,26,27,28,29,30,31,32,33,34,35,36,37,38,24,39,40,6,0,1,2,3,4,5,6,7,8,9,10,11,12,13,14,15,16,17,18,1016,19])] Tryz.func19 rfl ?_ (.inr (aK (ab.enc_fr _) ⟨trivial,trivial⟩))
  repeat'(first|refine gA ?_|(conv=>whnf);first|refine Sm.rf ?_|refine Cl.mk (c1) ?_|refine Cl.mk (c3) ?_)
  rfl
 have er:eS h=true:=by unfold eS;rw[e1,O0 e2];rfl
 have c4:=si h hs;have c5:=yO (dG h) h.Kernel.Machine.Frames.Used.length h.Caches.length h.Limit (by omega) (by omega) (by omega) (by omega);rw[ry er,er];unfold lO;generalize destroyed h=d at c4 |-;obtain⟨k,m⟩:=d;simp only at c4 |-;refine fO 54 [(4,274,[25,26,27,28,29,30,31,32,33,34,35,36,37,38,24,39,40,6,0,1,2,3,4,5,6,7,8,9,10,11,12,13,14,15,16,17,18,1016,19])] Tryz.func19 rfl ?_ (.inr (aK (ab.enc_fr _) ⟨trivial,trivial⟩))
 repeat'(first|refine gA ?_|(conv=>whnf);first|refine Sm.rf ?_|refine Cl.mk (c1) ?_|refine Cl.mk (c4) ?_|refine Cl.mk (x9 h) ?_|refine Cl.mk (c5) ?_)
 rfl
theorem GH {h:ab} (hs:ab.sml h):ab.sml (reset h):=by
 cases e:eS h with
 | false=>rw[uR e];exact hs
 | true=>
  rw[ry e];obtain⟨e1,e2⟩:=Dk e;obtain⟨b1,b2,b3,b4,b5,b6,b7,b8,b9,b10⟩:=nl e1;obtain⟨n1,n2,n3,n4,n5,n6,n7,n8,n9⟩:=BB (p:=dG h) (f:=h.Kernel.Machine.Frames.Used.length) (t:=h.Caches.length) (lim:=h.Limit) b2 b4 b6;exact⟨xg hs,n2,n3,n4,n5,n6,n7,n8,n9⟩
def fR (h:ab):Int:=if dm h then 4*cG h.Kernel.Machine.Frames / h.Kernel.Machine.Frames.Used.length else 0
theorem uH (us:List Bool):∀ i,0<=eZ us i/\eZ us i<=i
 | 0=>⟨Y3 _,Y3 _⟩
 | i+1=>by
  have ih:=uH us i;show 0<=eZ us i+(if nth us i then 1 else 0)/\eZ us i+(if nth us i then 1 else 0)<=_;split<;>omega
theorem mb {h:ab} (he:dm h=true):cq h.Kernel.Machine.Frames=true:=by
 unfold dm iV a8 cX at he;simp only[I0]at he;exact he.1.1.1.1.1.1.1.1.1.1.1.2.1.1
theorem Hi {u n:Int} (hu:0<=u/\u<=n) (hn:1<=n/\n<=32):IntKind.i64.wrap ((4*u).tdiv n)=4*u / n:=by
 rw[kT (by omega)];have h1:0<=4*u / n:=Int.ediv_nonneg (by omega) (by omega);have h2:4*u / n<=4*u:=Int.ediv_le_self _ (by omega);exact dS (by omega) (by omega)
theorem mB (h:ab) (hs:ab.sml h):ao Tryz.prog 18 false [.val (some 24) (ab.enc .imm h)] .one [I (fR h)]:=by
 have c1:=jX h hs;rw[oB]at c1;have c2:=tG h.Kernel.Machine.Frames hs.1.1.1;cases e1:dm h<;>rw[e1]at c1
 ·refine fO 18 [(4,7,[11,12,13,14,15,16,17])] Tryz.func18 rfl ?_
  repeat'(first|refine gO ?_|(conv=>whnf);first|refine Cl.mk c1 ?_)
  exact R0 (fun z=>[I z]) (by unfold fR;rw[e1];rfl)
 ·have hf:=mb e1
  obtain⟨l1,l2,l3⟩:=qu hf;have hb:=uH h.Kernel.Machine.Frames.Used h.Kernel.Machine.Frames.Used.length;have hu:cG h.Kernel.Machine.Frames=eZ h.Kernel.Machine.Frames.Used h.Kernel.Machine.Frames.Used.length:=by unfold cG;rw[hf];rfl
  rw[<-hu]at hb;have hq:=Hi (u:=cG h.Kernel.Machine.Frames) (n:=h.Kernel.Machine.Frames.Used.length) (by omega) (by omega);refine fO 18 [(4,7,[11,12,13,14,15,16,17])] Tryz.func18 rfl ?_
  repeat'(first|refine gO ?_|(conv=>whnf);first|refine Cl.mk c1 ?_|refine Cl.mk c2 ?_|refine Cd.mk (by omega) ?_|refine Wr.mk hq ?_)
  exact R0 (fun z=>[I z]) (by unfold fR;rw[e1];rfl)
theorem mL {k:af} (hk:a8 k=true):∀ n,n<=k.Machine.Table.Entries.length->∀ q,q<n->(nth (destr k n).1.Machine.Table.Entries q).Mode=0
 | 0,_,q,hq=>by omega
 | n+1,hn,q,hq=>by
  have hl:=(ot k n).1;unfold destr;split
  ·rename_i e
   by_cases eq:q=n
   ·subst eq
    unfold ar at e;rw[if_pos (by rw[hl];omega)]at e;exact e
   ·exact mL hk n (by omega) q (by omega)
  ·show(nth (bZ (destr k n).1 n).Machine.Table.Entries q).Mode=0
   rw[pu (eB hk n) (by rw[hl];omega) q];split
   ·rfl
   ·exact mL hk n (by omega) q (by omega)
theorem yQ {t:aE} (hz:∀ q,q<t.Entries.length->(nth t.Entries q).Mode=0) (f:Int):pagesOn t f=[]:=by
 unfold pagesOn im;rw[List.map_eq_nil_iff,List.filter_eq_nil_iff];intro i hi;have h0:=hz i (List.mem_range.1 hi);unfold GR;rw[h0];simp
theorem vY {us:List Bool} : ∀ n,(∀ j,j<n->nth us j=false)->eZ us n=0
 | 0,_=>rfl
 | n+1,h=>by rw[wx (h n (by omega))];exact vY n fun j hj=>h j (by omega)
theorem DP {h:ab} (hi:bm h []) (hc:h.Kernel.Calls≠100000):bm (lO h) []/\fR (lO h)=0:=by
 have hh:=hi.to;have hd:(destroyed h).1=(destr h.Kernel h.Kernel.Machine.Table.Entries.length).1:=by unfold destroyed;rw[if_pos ⟨hh,hc⟩]
 have hb:=nl hh;have hn:=hi.nums;unfold bU at hn;rw[C0]at hn;have hk:a8 (destroyed h).1=true:=by rw[hd];exact eB hi.ker _
 have hl:(destroyed h).1.Machine.Table.Entries.length=dG h:=by rw[hd];exact(ot _ _).1
 have hz:∀ q,q<(destroyed h).1.Machine.Table.Entries.length->(nth (destroyed h).1.Machine.Table.Entries q).Mode=0:=by
  intro q hq;rw[hl]at hq;rw[hd];exact mL hi.ker _ (I2 _) q hq
 have hf:=bm.fresh (t:=h.Caches.length) (lim:=h.Limit) (sd:=h.Seed) (ck:=h.Clock) hk hz (by omega) (by omega) (by omega) (by omega);unfold nw at hf;rw[hl]at hf;have hr:bm (lO h) []:=hf;refine⟨hr,?_⟩;unfold fR;rw[if_pos hr.to];have hu:cG (lO h).Kernel.Machine.Frames=0:=by
  unfold cG;rw[if_pos (aB.1 hr.ker).2.1];refine vY _ fun j hj=>?_
  have h4:=(aB.1 hk).2.2.2.1 j hj;rw[yQ hz]at h4;exact h4
 rw[hu];simp
theorem JW (zs:List Int):i9 (drawn zs).Heap.Kernel.Refuse:=by
 have h1:(tt zs).i<=zs.length:=Q0 _;have:=E4 (qk h1).1 (mz zs (eO zs)).1 (mz zs (eO zs)).1.length;unfold rfs at this;show i9 (zc _ _ _).1.Heap.Kernel.Refuse;rw[this];exact Dl zs _
theorem HP (zs:List Int):(drawn zs).Heap.Kernel.Calls<=99001:=Ja (qk (Q0 _)).1 _ _
theorem FZ (zs:List Int):ab.sml (drawn zs).Heap/\ab.wf (drawn zs).Heap:=(AX zs).fit (JW zs)
theorem M3 (zs:List Int) (hl:zs.length<=9223372036854775807):ao Tryz.prog 15 false [.val none (Np zs)] .one [B (decide ((zs.length:Int) > 1048576))]:=by
 refine fO 6 [] Tryz.func15 rfl ?_
 repeat'(first|refine gO ?_|fail)
 rfl
theorem Pressure_law (zs:List Int) (hw:zs.length<=9223372036854775807/\∀ y∈zs,0<=y/\y<=255):ao Tryz.prog 3 false [.val none (Np zs)] .one [B true]:=by
 have c0:=M3 zs hw.1;by_cases hb:(zs.length:Int) > 1048576
 ·rw[O0 hb]at c0
  refine fO 58 [] Tryz.func3 rfl ?_
  repeat'(first|refine gO ?_|(conv=>whnf);first|refine Cl.mk (c0) ?_)
  rfl
 rw[P0 hb]at c0;have hz:iZ zs:=⟨by omega,hw.2⟩
 have cD:=uW zs hz;have hi:=(AX zs).inv;obtain⟨hs,-⟩:=FZ zs;have hc:=HP zs;generalize drawn zs=w at *;obtain⟨hr,hp0⟩:=DP hi (by omega);have hh:=hi.to;have c1:=tj w.Heap.Kernel.Machine.Frames hs.1.1.1;have c2:=mB w.Heap hs;have c3:=vJ w.Heap hs;have hrs:=GH hs;have hok:eS w.Heap=true:=by unfold eS;rw[hh,O0 (by omega)];rfl
 rw[ry hok]at c3 hrs;have c4:=mB (lO w.Heap) hrs;have c5:=jX (lO w.Heap) hrs;rw[hp0]at c4;rw[oB,hr.to]at c5;have hfo:=aU.1 (mb hh);have hU:=uH w.Heap.Kernel.Machine.Frames.Used w.Heap.Kernel.Machine.Frames.Used.length;have hu:cG w.Heap.Kernel.Machine.Frames=eZ w.Heap.Kernel.Machine.Frames.Used w.Heap.Kernel.Machine.Frames.Used.length:=by unfold cG;rw[if_pos (mb hh)]
 have hpr:fR w.Heap=4*cG w.Heap.Kernel.Machine.Frames / w.Heap.Kernel.Machine.Frames.Used.length:=by unfold fR;rw[if_pos hh]
 rw[<-hu]at hU;have hlen:=hfo.2.2.1;have hl1:=hfo.2.1;rw[hlen]at hpr hU;generalize hP:fR w.Heap=l at *;generalize hUU:cG w.Heap.Kernel.Machine.Frames=u at *;have hn1:1<=(w.Heap.Kernel.Machine.Frames.Cells.length:Int):=by omega
 have q1:l*(w.Heap.Kernel.Machine.Frames.Cells.length:Int)<=4*u:=by rw[hpr];exact Int.ediv_mul_le _ (by omega)
 have q2:4*u<(l+1)*(w.Heap.Kernel.Machine.Frames.Cells.length:Int):=by rw[hpr];exact Int.lt_ediv_add_one_mul_self _ (by omega)
 have l0:0<=l:=by rw[hpr];exact Int.ediv_nonneg (by omega) (by omega)
 have l4:l<=4:=by
  rw[hpr];have:=Int.ediv_le_ediv (a:=4*u) (b:=4*(w.Heap.Kernel.Machine.Frames.Cells.length:Int)) (c:=(w.Heap.Kernel.Machine.Frames.Cells.length:Int)) (by omega) (by omega);rw[Int.mul_ediv_cancel _ (by omega)]at this;exact this
 have hn2:(w.Heap.Kernel.Machine.Frames.Cells.length:Int)<=32:=by omega
 have m1:0<=l*(w.Heap.Kernel.Machine.Frames.Cells.length:Int):=Int.mul_nonneg l0 (by omega);have m3:(l+1)*(w.Heap.Kernel.Machine.Frames.Cells.length:Int)=l*(w.Heap.Kernel.Machine.Frames.Cells.length:Int)+(w.Heap.Kernel.Machine.Frames.Cells.length:Int):=by rw[Int.add_mul,Int.one_mul]
 have w1:=dS (x:=l*(w.Heap.Kernel.Machine.Frames.Cells.length:Int)) (by omega) (by omega);have w2:=dS (x:=(l+1)*(w.Heap.Kernel.Machine.Frames.Cells.length:Int)) (by omega) (by omega);refine fO 58 [] Tryz.func3 rfl ?_
 repeat'(first|refine gO ?_|(conv=>whnf);first|refine Cl.mk (c0) ?_|refine Cl.mk (cD) ?_|refine Cl.eq (c1) ⟨⟨rfl,aQ.enc_fz _⟩,trivial⟩ ?_|refine Cl.eq (c2) ⟨⟨rfl,ab.enc_fz _⟩,trivial⟩ ?_|refine Cl.eq (c3) ⟨⟨rfl,ab.enc_fz _⟩,trivial⟩ ?_|refine Cl.eq (c4) ⟨⟨rfl,ab.enc_fz _⟩,trivial⟩ ?_|refine Cl.eq (c5) ⟨⟨rfl,ab.enc_fz _⟩,trivial⟩ ?_|refine Wr.mk w1 ?_|refine Wr.mk w2 ?_|refine Bf.t (O0 q1) ?_|refine Bf.t (O0 q2) ?_)
 rfl
open Go.RowKit Go.ChangeShapes Go.WideShapes Go.Deep
def ALL (w:World):ac:=fun b _=>b<w.heap.size
def N8 {H:Type} (e:TypeId × Value->H) (P:Program) (w:World) (t n:Nat) {α:Type} (enc:α->List C) (wf:α->Prop):Prop:=
 ∀ (fuel:Nat) (cs:List Value) (x:DataW H × List MemPlace),DataW.trod e P w 0 (fun _=>true) true fuel t cs=some x->cs.length=n/\∃ a,wf a/\(enc a).length=n/\cN w (ALL w) NO (enc a) (fun j=>cs.getD j undef)
section
variable {H:Type} {e:TypeId × Value->H} {P:Program} {w:World}
theorem zY {S F:ac} {c:C} {u:Nat->Value} (h:dX w S F c (u 0)):cN w S F [c] u:=
 ⟨fun _=>F,fun j c' hj=>by cases j with
   | zero=>simp at hj;subst hj;exact h
   | succ j=>simp at hj,fun _ _ _ _ h=>h,fun j j' hj hj' hne=>by simp at hj hj';omega⟩
theorem pick {α β:Type} (n:Nat) {Q:Nat->β->Prop} (h:∀ i,i<n->∃ b,Q i b):∃ l:List β,l.length=n/\∀ i b,l[i]? = some b->Q i b:=by
 induction n with
 | zero=>exact⟨[],rfl,fun i b h=>by simp at h⟩
 | succ n ih=>
  obtain⟨l,h1,h2⟩:=ih fun i hi=>h i (by omega)
  obtain⟨b,hb⟩:=h n (by omega);refine⟨l++[b],by simp[h1],fun i b' hi=>?_⟩;by_cases hl:i<n
  ·rw[R3 (by omega)]at hi;exact h2 i b' hi
  ·rw[T3 (by omega)]at hi
   have:i - l.length=0:=by
    have:=(R1.1 hi).1;simp at this;omega
   rw[this]at hi;simp at hi;subst hi;rw[show i=n by omega];exact hb
theorem Jv {t el n:Nat} {α:Type} {enc:α->List C} {wf:α->Prop} (hel:N8 e P w el n enc wf) (ht:P.underlying t=some (.slice el)) (hn:P.cellsOf el=n) (hpos:0<n) :
  N8 e P w t 1 (fun xs:List α=>[.s .imm (xs.map enc)]) (fun xs=>xs.length<=9223372036854775807/\∀ y∈xs,wf y):=by
 intro fuel cs x h;rcases open_slice ht h with⟨rfl,-⟩|⟨ad,len,cap,m,n',D,Pl,rfl,-,hl,hm,hmm,-,hi⟩
 ·exact⟨rfl,[],⟨by simp,by simp⟩,rfl,zY (.nil _ _ _ trivial)⟩
 ·simp only[if_true]at hmm
  subst hmm;have hsp:0<m->ad.spot=none:=fun hpm=>by
   obtain⟨cs',hc,htr⟩:=hi 0 hpm;rw[hn]at hc;obtain⟨_,hcl,hat⟩:=World.cells?_some hc;have:=hat 0 hpos;rw[Q1 (by omega)]at this;have:=World.cell?_spot this;simpa[Addr.add] using this
  have key:∀ i,i<len->∃ a,wf a/\(enc a).length=n/\(∀ d,d<n->∃ z,cel w ad.block (ad.off+(i*n+d))=some z)/\ad.spot=none/\cN w (ALL w) NO (enc a) (fun d=>(cel w ad.block (ad.off+(i*n+d))).getD undef):=fun i hil=>by
   have hspot:=hsp (by omega);obtain⟨cs',hc,htr⟩:=hi i (by omega);rw[hn]at hc;obtain⟨h1,a,h3,h4,h5⟩:=hel _ _ _ htr;obtain⟨_,hcl,hat⟩:=World.cells?_some hc;have hadd:∀ d,ad.add d = ⟨ad.block,ad.off+d,none⟩:=fun d=>by
    obtain⟨b,o,sp⟩:=ad;simp only at hspot;subst hspot;unfold Addr.add;split<;>simp_all
   have hcell:∀ d,d<n->cel w ad.block (ad.off+(i*n+d))=cs'[d]?:=fun d hd=>by
    have:=hat d hd;rw[Go.Deep.add_add,hadd]at this;exact this
   refine⟨a,h3,h4,fun d hd=>⟨_,by rw[hcell d hd,Q1 (by omega)]⟩,hspot,h5.congr fun d hd=>?_⟩;show(cel w ad.block (ad.off+(i*n+d))).getD undef=cs'.getD d undef;rw[hcell d (by omega),List.getD]
  obtain⟨l,hll,hlq⟩:=pick (α:=α) len key;refine⟨rfl,l,⟨by simp only[maxLen]at hm;omega,fun y hy=>?_⟩,rfl,zY ?_⟩
  ·obtain⟨i,hi'⟩:=List.mem_iff_getElem?.1 hy
   exact(hlq i y hi').1
  ·show dX w (ALL w) NO (.s .imm (l.map enc)) (.slice (some ad) len m)
   by_cases h0:len=0
   ·subst h0
    have:l=[]:=List.eq_nil_of_length_eq_zero hll;subst this;by_cases hc0:m=0
    ·subst hc0;exact .nil _ _ _ trivial
    ·have hspot:=hsp (by omega)
     obtain⟨b,o,sp⟩:=ad;simp only at hspot;subst hspot;exact .imm _ b o n 0 m [] (fun _=>undef) rfl (fun r hr=>by simp at hr) hl (fun q hq=>by simp at hq) (fun i j r c hi=>by simp at hi)
   ·obtain⟨y0,hy0⟩ : ∃ y,l[0]? = some y:=⟨_,Q1 (by omega)⟩
    have hspot:=(hlq 0 y0 hy0).2.2.2.1;obtain⟨b,o,sp⟩:=ad;simp only at hspot;subst hspot;refine .imm _ b o n len m (l.map enc) (fun q=>(cel w b (o+q)).getD undef) (by simpa using hll) (fun r hr=>?_) hl (fun q hq=>?_) (fun i j r c hi hj=>?_)
    ·obtain⟨y,hy,rfl⟩:=P3.1 hr
     obtain⟨i,hi'⟩:=List.mem_iff_getElem?.1 hy;exact(hlq i y hi').2.1
    ·have hqd:q / n<len:=(Nat.div_lt_iff_lt_mul hpos).2 hq
     obtain⟨y,hy⟩ : ∃ y,l[q / n]? = some y:=⟨_,Q1 (by omega)⟩
     obtain⟨z,hz⟩:=(hlq _ y hy).2.2.1 (q % n) (Nat.mod_lt _ hpos);have hd:q / n*n+q % n=q:=by rw[Nat.mul_comm];exact Nat.div_add_mod q n
     rw[hd]at hz;exact⟨M7 hz,by simp only at hz |-;rw[hz];rfl⟩
    ·rw[O2]at hi
     cases hli:l[i]? with
     | none=>rw[hli]at hi;cases hi
     | some y=>
      rw[hli]at hi;simp only[Option.map_some,T0]at hi;subst hi;obtain⟨f,h1,h2,-⟩:=(hlq i y hli).2.2.2.2;have hjl:=(R1.1 hj).1;exact(h1 j c hj).mono (fun _ _ h=>h) (h2 j hjl)
theorem row_val {S F:ac} {x:Value} {u:Nat->Value} (h:cN w S F [.v x] u):u 0=x:=by
 obtain⟨f,h1,-⟩:=h;have:=h1 0 _ rfl;cases this
 rfl
end
open Go.RowKit Go.ChangeShapes Go.WideShapes
section
variable {H:Type} {e:TypeId × Value->H} {P:Program} {w:World}
theorem Ld {t:Nat} (ht:P.underlying t=some (.int .u8)):N8 e P w t 1 rU (fun z=>0<=z/\z<=255):=by
 intro fuel cs x h;obtain⟨n,rfl,-,hw⟩:=DataW.trod_int ht h;refine⟨rfl,n,?_,rfl,zY (.v _ _ rfl)⟩;simp only[Lit.wf,I0,C0]at hw;exact hw
theorem op_ByteS:N8 e Tryz.prog w 22 1 (fun zs:List Int=>[.s .imm (zs.map rU)]) (fun zs=>zs.length<=9223372036854775807/\∀ y∈zs,0<=y/\y<=255):=Jv (Ld Tryz.underlying5) Tryz.underlying22 (by kernel_rfl) (by decide)
end
end Go.Proofs.YtembpgjjnioagaaGreat.Ab
