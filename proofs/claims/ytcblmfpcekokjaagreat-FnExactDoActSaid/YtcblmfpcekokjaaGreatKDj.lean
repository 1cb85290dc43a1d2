/- Any act on whatever valid world: the program's, told own. Printed by mk_wdg.py. No condition. -/
import Derived.Test.YtcblmfpcekokjaaGreatKDd
import Derived.Test.YtcblmfpcekokjaaGreatKDi
import Derived.Test.YtcblmfpcekokjaaGreatKDh
import Derived.Test.YtcblmfpcekokjaaGreatKDc
import Derived.ProofKit
import Derived.OpenShut
import Derived.Deep.Slices
import Derived.Deep.Fields
import Derived.ChangeSame
import Derived.WideShapes
set_option linter.unusedVariables false
set_option linter.defProp false
set_option linter.unusedSimpArgs false
set_option linter.constructorNameAsVariable false
namespace Go.Proofs.YtcblmfpcekokjaaGreat.Ab
open Go.RowKit
set_option maxRecDepth 20000
set_option maxHeartbeats 4000000
def kx(w:aP)(a:dP):aP × Int:=
 if a.a6=1 then(⟨(fm w.W a.p a.N).1,if(fm w.W a.p a.N).2.2=0 then i9 w.b0 a.N else w.b0⟩,(fm w.W a.p a.N).2.2) else nq w a
structure StG(h g:ac):Prop where
 inv:g.w=true->bo g []
 fit:Fit g
 ref:g.G.k=h.G.k
 mail:g.b=h.b
def R3{h:ac}(f:bo h [])(g:kR h.G.k)(i:aJ.sml h.b):∀k:Nat,StG h (mQ h k).1
 | 0=>⟨λ_=>f,f.fit g i,rfl,rfl⟩
 | k+1=>by
  have c:=R3 f g i k;unfold mQ;split
  ·rename_i e
   unfold pd at e;rw[I0]at e;have j:=c.inv e.1;obtain⟨d,u,l,p,q,r,t⟩:=Qm j e.1;have a:=c.fit.wf;have b:=c.fit.sml;refine⟨λn=>?_,⟨d,?_,?_,NM c.fit.lens d⟩,l.trans c.ref,p.trans c.mail⟩
   ·cases o:zG (mQ h k).1 with
    | false=>exact j.mStep0 e.1 o
    | true=>have:=q o;rw[this]at n;cases n
   ·exact⟨zw d (by rw[l,c.ref];exact g),a.2.1,a.2.2.1,a.2.2.2.1,a.2.2.2.2.1,a.2.2.2.2.2.1,a.2.2.2.2.2.2.1,a.2.2.2.2.2.2.2.1,a.2.2.2.2.2.2.2.2.1,a.2.2.2.2.2.2.2.2.2.1,a.2.2.2.2.2.2.2.2.2.2.1,a.2.2.2.2.2.2.2.2.2.2.2.1,tV1,r⟩
   exact⟨bq d,b.2.1,b.2.2.1,b.2.2.2.1,b.2.2.2.2.1,b.2.2.2.2.2.1,b.2.2.2.2.2.2.1,b.2.2.2.2.2.2.2.1,t⟩
  exact c
def Eo(h:ac)(c:h.w=true->bo h [])(b:ac.sml h):zzA 33 false [.val (some 24) (ac.enc .O h)] (.tup [some 24,none]) (dv (if pd h=true then mStep h else h)++[B (pd h)]):=by
 cases a:h.w with
 | true=>exact JY h (c a) b
 | false=>
  have e:pd h=false:=by unfold pd;rw[a];rfl
  rw[e,CJ (by simp)];have d:=tn h b a;refine fO 15 [] Tryz.func33 rfl ?_ (.inr (aE (cj _) ⟨tV1,tV1⟩))
  refine σP ?_
  rfl
def XI(w:aP)(a:dP)(j:bo w.W [])(l:ac.sml w.W)(C:ac.wf w.W)(q:ar.sml w.b0):zzA 8 false [.val (some 26) (aP.enc .O w),.val (some 5) (dP.enc .O a)] (.tup [some 26,none]) (aP.enc .suf (kx w a).1++[I (kx w a).2]):=by
 have X:kR w.W.G.k:=C.1.2.2;have D:aJ.sml w.W.b:=l.2.2.2.2.2.2.1;have h:=(ue w l q).sf (tC w);have g:=cR w.W l;rw[eR,j.to]at g;have Y:=j.lens.objs;unfold kx;by_cases E:a.a6=1
 ·rw[CK E]
  obtain⟨cc,r,d⟩:=Mz w.W a.p a.N l j (by rw[eR];exact j.to);have c:=d.sf ((Xs r).append (.refl _));by_cases e:(fm w.W a.p a.N).2.2=0
  ·rw[CK e]
   have F:1<=a.N/\a.N<=1000:=by
    refine Classical.byContradiction λO=>?_
    unfold fm at e;rw[CK O]at e;split at e
    ·exact absurd (show(5:Int)=0 from e) qs
    split at e
    ·exact absurd (show(1:Int)=0 from e) qs
    exact absurd (show(2:Int)=0 from e) qs
   have i:=Qu w.b0 a.N q F;clear d r;generalize fm w.W a.p a.N=f at c e |-;refine fP 148 [(25,[1,0,0])] [(15,266,[56,57,58,59,60,61,62,63,65,66,0,1,2,3,4,5,6,7,8,9,10,11,12])] Tryz.func8 rfl ?_ (.inr (yh _ _))
   repeat'(first|refine gB ?_|refine gS (λb=>?_) (λb=>?_)|refine CN (i) ⟨⟨rfl,ar.enc_fzS w.b0⟩,⟨rfl,rfl⟩,tV1⟩ ?_)
   rfl
  rw[CJ e];clear d r;generalize fm w.W a.p a.N=f at c e |-;refine fP 148 [(25,[1,0,0])] [(15,266,[56,57,58,59,60,61,62,63,65,66,0,1,2,3,4,5,6,7,8,9,10,11,12])] Tryz.func8 rfl ?_ (.inr (yh _ _))
  repeat'(first|refine gB ?_|refine gS (λb=>?_) (λb=>?_)|fail)
  rfl
 rw[CJ E];unfold nq;rw[CJ E];by_cases u:a.a6=2\/a.a6=3\/a.a6=4
 ·rw[CK u]
  have G:=lS w.W.K (jC a.N) ω;change ah _ _ _ _ _ [I (oY w.W a.N)]at G;by_cases e:oY w.W a.N<0
  ·rw[CK e]
   rcases u with k|k|k
   all_goals
    refine fP 148 [(25,[1,0,0])] [(15,266,[56,57,58,59,60,61,62,63,65,66,0,1,2,3,4,5,6,7,8,9,10,11,12])] Tryz.func8 rfl ?_ (.inr (yh _ _))
    repeat'(first|refine gB ?_|refine gS (λb=>?_) (λb=>?_)|refine Cq.mk (sQ (some 4) (aW.enc .O) (jC a.N) w.W.K) (xC default a).has (λL k rcs H=>?_) ?_)
    ·obtain⟨y,-,rfl,rfl,rfl⟩:=H
     exact xC y a
    rfl
  rw[CJ e];obtain⟨P,f2,f3⟩:=fJ (Rh a.N) w.W.K (by unfold oY at e;omega);have Q:=NG w a (oY w.W a.N).toNat j l q P;have J:=au P;change w.W.K[(oY w.W a.N).toNat]? = _ at J;generalize mY w a (oY w.W a.N).toNat=f at Q |-;rcases u with k|k|k
  all_goals
   refine fP 148 [(25,[1,0,0])] [(15,266,[56,57,58,59,60,61,62,63,65,66,0,1,2,3,4,5,6,7,8,9,10,11,12])] Tryz.func8 rfl ?_ (.inr (yh _ _))
   repeat'(first|refine gB ?_|refine gS (λb=>?_) (λb=>?_)|refine Cq.mk (sQ (some 4) (aW.enc .O) (jC a.N) w.W.K) (xC default a).has (λL k rcs H=>?_) ?_|refine CS ω (aa J) ?_)
   ·obtain⟨y,-,rfl,rfl,rfl⟩:=H
    exact xC y a
   rfl
 rw[CJ u];by_cases R:a.a6=5\/a.a6=6\/a.a6=7
 ·rw[CK R]
  unfold jv;by_cases S:a.a6=5
  ·rw[CK S]
   have c:=FI w.W a.p l j;by_cases e:(0<=a.p/\a.p<=w.W.Q.length - 1)/\0<(nth w.W.b.T a.p.toNat).length
   ·rw[CK (show oW w.W a/\0<(nth w.W.b.T a.p.toNat).length from e)]
    rw[CK e,O0 e]at c;have i:=lH true;refine fP 148 [(25,[1,0,0])] [(15,266,[56,57,58,59,60,61,62,63,65,66,0,1,2,3,4,5,6,7,8,9,10,11,12])] Tryz.func8 rfl ?_ (.inr (yh _ _))
    repeat'(first|refine gB ?_|refine gS (λb=>?_) (λb=>?_)|fail)
    rfl
   rw[CJ (show ¬(oW w.W a/\0<(nth w.W.b.T a.p.toNat).length) from e)];rw[CJ e,C1 e]at c;have i:=lH false;refine fP 148 [(25,[1,0,0])] [(15,266,[56,57,58,59,60,61,62,63,65,66,0,1,2,3,4,5,6,7,8,9,10,11,12])] Tryz.func8 rfl ?_ (.inr (yh _ _))
   repeat'(first|refine gB ?_|refine gS (λb=>?_) (λb=>?_)|fail)
   rfl
  rw[CJ S];by_cases e:w.W.G.Calls≠100000/\0<=a.p/\a.p<=w.W.Q.length - 1;rotate_left
  ·rw[CK (show ¬(w.W.G.Calls≠100000/\oW w.W a) from e)]
   by_cases K:a.a6=6
   ·have d:=qN w.W a.p l j
    rw[CJ e,CJ e]at d;have c:=d.sE;refine fP 148 [(25,[1,0,0])] [(15,266,[56,57,58,59,60,61,62,63,65,66,0,1,2,3,4,5,6,7,8,9,10,11,12])] Tryz.func8 rfl ?_ (.inr (yh _ _))
    repeat'(first|refine gB ?_|refine gS (λb=>?_) (λb=>?_)|fail)
    rfl
   have Z:a.a6=7:=ω
   have c:=(JO w.W a.p l j e).sE;refine fP 148 [(25,[1,0,0])] [(15,266,[56,57,58,59,60,61,62,63,65,66,0,1,2,3,4,5,6,7,8,9,10,11,12])] Tryz.func8 rfl ?_ (.inr (yh _ _))
   repeat'(first|refine gB ?_|refine gS (λb=>?_) (λb=>?_)|fail)
   rfl
  rw[CJ (show ¬¬(w.W.G.Calls≠100000/\oW w.W a) from S7 e)];by_cases K:a.a6=6
  ·rw[CK K]
   have d:=qN w.W a.p l j;rw[CK e,CK e]at d;have c:=d.sE;refine fP 148 [(25,[1,0,0])] [(15,266,[56,57,58,59,60,61,62,63,65,66,0,1,2,3,4,5,6,7,8,9,10,11,12])] Tryz.func8 rfl ?_ (.inr (yh _ _))
   repeat'(first|refine gB ?_|refine gS (λb=>?_) (λb=>?_)|fail)
   rfl
  rw[CJ K];have Z:a.a6=7:=ω
  obtain⟨t,ht⟩:=t5 e.2.1;have c:=(D9 w.W t l j.to e.1 ω).sE;rw[<-ht]at c;rw[show a.p.toNat=t by omega];refine fP 148 [(25,[1,0,0])] [(15,266,[56,57,58,59,60,61,62,63,65,66,0,1,2,3,4,5,6,7,8,9,10,11,12])] Tryz.func8 rfl ?_ (.inr (yh _ _))
  repeat'(first|refine gB ?_|refine gS (λb=>?_) (λb=>?_)|fail)
  rfl
 rw[CJ R];by_cases T:a.a6=8
 ·rw[CK T]
  unfold vi;by_cases e:w.W.G.Calls≠100000/\(0<=a.N/\a.N<=1000)/\w.W.a4+a.N<=1000000
  ·rw[CK e]
   have c:=(Fp w.W a.N l j e.1 e.2.1 e.2.2).sE;refine fP 148 [(25,[1,0,0])] [(15,266,[56,57,58,59,60,61,62,63,65,66,0,1,2,3,4,5,6,7,8,9,10,11,12])] Tryz.func8 rfl ?_ (.inr (yh _ _))
   repeat'(first|refine gB ?_|refine gS (λb=>?_) (λb=>?_)|fail)
   rfl
  rw[CJ e];have c:=(K9 w.W a.N l j e).sE;refine fP 148 [(25,[1,0,0])] [(15,266,[56,57,58,59,60,61,62,63,65,66,0,1,2,3,4,5,6,7,8,9,10,11,12])] Tryz.func8 rfl ?_ (.inr (yh _ _))
  repeat'(first|refine gB ?_|refine gS (λb=>?_) (λb=>?_)|fail)
  rfl
 rw[CJ T];by_cases U:a.a6=9
 ·rw[CK U]
  unfold uS;have c:=(B2 w.W l).sE;unfold Jx at c;rw[j.to]at c;cases p:w.W.w with
  | true=>
   rw[CK rfl];rw[CJ (λx=>by rw[p]at x;cases x.1)]at c;have i:=lH false;refine fP 148 [(25,[1,0,0])] [(15,266,[56,57,58,59,60,61,62,63,65,66,0,1,2,3,4,5,6,7,8,9,10,11,12])] Tryz.func8 rfl ?_ (.inr (yh _ _))
   repeat'(first|refine gB ?_|refine gS (λb=>?_) (λb=>?_)|fail)
   rfl
  | false=>
   rw[CJ (by simp)];rw[CK ⟨p,rfl⟩]at c;have i:=lH (started w.W).2;refine fP 148 [(25,[1,0,0])] [(15,266,[56,57,58,59,60,61,62,63,65,66,0,1,2,3,4,5,6,7,8,9,10,11,12])] Tryz.func8 rfl ?_ (.inr (yh _ _))
   repeat'(first|refine gB ?_|refine gS (λb=>?_) (λb=>?_)|fail)
   rfl
 rw[CJ U];by_cases k10:a.a6=10;rotate_left
 ·rw[CJ (λx=>k10 x.1)]
  refine fP 148 [(25,[1,0,0])] [(15,266,[56,57,58,59,60,61,62,63,65,66,0,1,2,3,4,5,6,7,8,9,10,11,12])] Tryz.func8 rfl ?_ (.inr (yh _ _))
  repeat'(first|refine gB ?_|refine gS (λb=>?_) (λb=>?_)|fail)
  all_goals first|omega|rfl
 have c:=aQ a.N 0 50;by_cases p:0<=a.N/\a.N<=50;rotate_left
 ·rw[CJ (λx=>p x.2)]
  rw[C1 p]at c;refine fP 148 [(25,[1,0,0])] [(15,266,[56,57,58,59,60,61,62,63,65,66,0,1,2,3,4,5,6,7,8,9,10,11,12])] Tryz.func8 rfl ?_ (.inr (yh _ _))
  repeat'(first|refine gB ?_|refine gS (λb=>?_) (λb=>?_)|fail)
  rfl
 rw[CK ⟨k10,p⟩];rw[O0 p]at c;obtain⟨n,O⟩:=t5 p.1;rw[show a.N.toNat=n by omega];refine fP 148 [(25,[1,0,0])] [(15,266,[56,57,58,59,60,61,62,63,65,66,0,1,2,3,4,5,6,7,8,9,10,11,12])] Tryz.func8 rfl ?_ (.inr (yh _ _))
 repeat'(first|refine gB ?_|refine gS (λb=>?_) (λb=>?_)|fail)
 refine lp0 n (λk=>[(3,bX (dP.enc .O a)),(4,bX [.z,.z,.z,I 0,.z,.z,.z,.z,.z,.z,.z,.z,I 0,.z,I 0,I 0,I 0,I 0,B false,I 0,I 0,.z,I 0,I 0,I 0,.z]),(6,bX (aP.enc .suf ⟨(mQ w.W k).1,w.b0⟩)),(7,fN ((mQ w.W k).2)),(10,fN k)]) λk hk=>?_
 have V:=R3 j X D k;have M:=V.fit.sml;have hk2:(mQ w.W k).2<=k:=Ri w.W k;have i:=(Eo (mQ w.W k).1 V.inv M).sE;by_cases lk:k<n
 ·have o:mQ w.W (k+1)=if pd (mQ w.W k).1=true then(mStep (mQ w.W k).1,(mQ w.W k).2+1) else mQ w.W k:=rfl
  cases W:pd (mQ w.W k).1 with
  | true=>
   rw[W]at o i;rw[CK rfl]at o i
   repeat'(first|refine gE ?_|refine gS (λb=>?_) (λb=>?_)|refine CN (i) ⟨⟨rfl,Cu (mQ w.W k).1⟩,tV1⟩ ?_)
   (refine CQ (k+1) ω ω ?_)
   rw[o];exact wC
  | false=>
   rw[W]at o i;rw[CJ (by simp)]at o i
   repeat'(first|refine gE ?_|refine gS (λb=>?_) (λb=>?_)|refine CN (i) ⟨⟨rfl,Cu (mQ w.W k).1⟩,tV1⟩ ?_)
   (refine CQ (k+1) ω ω ?_)
   rw[o];exact wC
 obtain rfl:k=n:=ω
 repeat'(first|refine gE ?_|refine gS (λb=>?_) (λb=>?_)|fail)
 rfl
def AB(r:ar)(n:Int)(b:ar.sml r)(c:1<=n/\n<=1000):zzA 67 false [.val (some 2) (ar.enc .O r),.vI n] (.tup [some 2,none]) (ar.enc .O (i9 r n)++[I r.j]):=by
 have d:r.K.length<=1048576:=b.1;have h:=gg r b;have e:=aU n 1 1000;rw[O0 c]at e;have key:zzA 67 false [.val (some 2) (ar.enc .O r),.vI n] (.tup [some 2,none]) (ar.enc .own (i9 r n)++[I r.j]):=by
  have a:=rG (i9 r n) (I r.j) tV1;unfold i9 at a |-;rw[CK c]at a |-;have i:ar.enc .own {r with j:=IntKind.i64.wrap (r.j+1),K:=r.K++[⟨r.j,List.replicate n.toNat 0⟩]} = [I (IntKind.i64.wrap (r.j+1)),.s .own (r.K.map (aF.enc .own)++[[I r.j,.s .own (List.replicate n.toNat [I 0])]])]:=by
   simp[ar.enc,aF.enc,rI]
  rw[i]at a |-;refine fO 30 [(4,263,[13,14,15,16,17,18,22,0,1,2,3,4,5,6,1000,1001,7,1000,1001,8,9,10]),(6,259,[27,28,29,0,1,2,3,1001,1002,4])] Tryz.func67 rfl ?_ (.inr a)
  repeat'(first|refine gP ?_|refine CT rfl ?_|refine Mk.mk n.toNat ω ω ω (wT ω qs) rfl ?_|refine Ap.sn2 (aR λ_=>rfl) rfl kd qs rfl ?_)
  rfl
 have g:=key.fzR;rw[gm,Cw]at g;exact g
def Dj(r:ar)(id:Int)(b:ar.sml r):zzA 187 true [.val (some 2) (ar.enc .O r),.vI id] (.tup [some 2,none]) (ar.enc .O (kL r id)++[B (!decide (pR r id<0))]):=by
 have g:r.K.length<=1048576:=b.1;have h:=gg r b;have c:=jV r id b.1;by_cases e:pR r id<0
 ·have key:zzA 187 true [.val (some 2) (ar.enc .O r),.vI id] (.tup [some 2,none]) (ar.enc .own r++[B false]):=by
   refine fO 30 [(5,267,[16,17,18,19,20,22,23,24,25,26,28,0,1,2,3,4,6,7,8,9,10,5,1006,1007,1008,1009,1010,11,12,13]),(1048581,6,[1])] Tryz.func187 rfl ?_ (.inl rfl)
   refine σE ?_
   rfl
  have a:=key.fzR;rw[gm,Cw]at a;unfold kL;rw[CK e,O0 e];exact a
 have i:kL r id = {r with K:=dele r.K (pR r id).toNat}:=by unfold kL;rw[CJ e]
 obtain⟨p,q,t⟩:=fJ (iR id) r.K (by unfold pR at e;omega);obtain⟨j,d⟩:=t5 (show 0<=pR r id by omega);have k:j<r.K.length:=by unfold pR at d;omega
 have key:zzA 187 true [.val (some 2) (ar.enc .O r),.vI id] (.tup [some 2,none]) ([I r.j,.s .own ((dele r.K j).map (aF.enc .O))]++[B true]):=by
  rw[d]at c;refine fO 30 [(5,267,[16,17,18,19,20,22,23,24,25,26,28,0,1,2,3,4,6,7,8,9,10,5,1006,1007,1008,1009,1010,11,12,13]),(1048581,6,[1])] Tryz.func187 rfl ?_ (.inl rfl)
  repeat'(first|refine gE ?_|refine Nw.mk rfl (Rr r.K) rfl ?_|refine CZ j rfl (by rw[I2];omega) (aR λ_=>rfl) C8 ?_|refine Ci (j+1) ω (by rw[I2];omega) (aR λ_=>rfl) I8 ?_|refine CX (λ_=>rfl) (λ_=>rfl) (by rw[I3];omega) qs ?_|refine Cg (λ_=>rfl) (λ_=>rfl) (by rw[I3];omega) qs ?_|refine Ap.dele (λ_=>rfl) (λ_=>rfl) ω qs ?_)
  rfl
 have a:=key.fzR;have n:du ([I r.j,.s .own ((dele r.K j).map (aF.enc .O))]++[B true])=ar.enc .O (kL r id)++[B (!decide (pR r id<0))]:=by
  have:∀l:List aF,fzR (l.map (aF.enc .O))=l.map (aF.enc .O):=λl=>by
   induction l with
   | nil=>rfl
   | cons x xs o=>rw[SB,fzR,o,<-aF.enc_fz,wV]
  rw[i,d,C1 ω];simp[du,fz,ar.enc,this]
 rw[n]at a;exact a
def AI(r:ar)(id a v:Int)(e:ar.sml r)(k:0<=pR r id)(c:0<=a/\a<=(nth r.K (pR r id).toNat).U.length - 1)(o:0<=v/\v<=999):zzA 189 false [.val (some 2) (ar.enc .O r),.vI id,.vI a,.vI v] (.tup [some 2,none]) (ar.enc .O (ef r id a v)++[B true]):=by
 have p:r.K.length<=1048576:=e.1;have C:=gg r e;have q:=jV r id e.1;obtain⟨G,H,J⟩:=fJ (iR id) r.K k;obtain⟨j,l⟩:=t5 k;have d:j<r.K.length:=by unfold pR at l;omega
 have g:=au d;have D:(nth r.K j).U.length<=1048576:=e.2 _ (ay d);obtain⟨b,h⟩:=t5 c.1;have E:ef r id a v = {r with K:=r.K.set j ⟨(nth r.K j).Id,(nth r.K j).U.set b v⟩}:=by
  unfold ef;rw[CK ⟨k,c,o⟩,l,h];rfl
 rw[l]at q c;rw[h]at c |-;simp only[O4]at c;have t:=au (xs:=(nth r.K j).U) (i:=b) ω;have u:=aU (b:Nat) 0 (((nth r.K j).U.length:Nat) - 1:Int);rw[O0 ω]at u;have w:=aU v 0 999;rw[O0 o]at w;have key:zzA 189 false [.val (some 2) (ar.enc .O r),.vI id,.vI (b:Nat),.vI v] (.tup [some 2,none]) (ar.enc .own (ef r id (b:Nat) v)++[B true]):=by
  have n:=rG (ef r id (b:Nat) v) (B true) tV1;rw[<-h,E]at n |-;have F:ar.enc .own {r with K:=r.K.set j ⟨(nth r.K j).Id,(nth r.K j).U.set b v⟩} = [I r.j,.s .own ((r.K.map (aF.enc .own)).set j [I (nth r.K j).Id,.s .own (((nth r.K j).U.map (rI .own)).set b [I v])])]:=by
   simp[ar.enc,aF.enc,rI,IC]
  rw[F]at n |-;rw[h];refine fO 48 [] Tryz.func189 rfl ?_ (.inr n)
  repeat'(first|refine gE ?_|with_reducible refine CS ω (aa g) ?_|refine Pu.two rfl rfl (aa g) rfl rfl rfl (aa t) rfl (z5 _) rfl ?_)
  rfl
 have y:=key.fzR;rw[gm,Cw]at y;exact y
def Bj(r:ar)(id n:Int)(c:ar.sml r)(h:0<=pR r id)(d:1<=n/\n<=(nth r.K (pR r id).toNat).U.length):zzA 191 false [.val (some 2) (ar.enc .O r),.vI id,.vI n] (.tup [some 2,none]) (ar.enc .O (fQ r id n)++[B true]):=by
 have l:r.K.length<=1048576:=c.1;have t:=gg r c;have o:=jV r id c.1;obtain⟨C,D,E⟩:=fJ (iR id) r.K h;obtain⟨j,i⟩:=t5 h;have a:j<r.K.length:=by unfold pR at i;omega
 have e:=au a;have u:(nth r.K j).U.length<=1048576:=c.2 _ (ay a);obtain⟨b,g⟩:=t5 (show 0<=n by omega);have w:fQ r id n = {r with K:=r.K.set j ⟨(nth r.K j).Id,(nth r.K j).U.take b⟩}:=by
  unfold fQ;rw[CK ⟨h,d⟩,i,g];rfl
 rw[i]at o d;rw[g]at d |-;simp only[O4]at d;have p:=aU (b:Nat) 1 (((nth r.K j).U.length:Nat):Int);rw[O0 ω]at p;have key:zzA 191 false [.val (some 2) (ar.enc .O r),.vI id,.vI (b:Nat)] (.tup [some 2,none]) (ar.enc .own (fQ r id (b:Nat))++[B true]):=by
  have k:=rG (fQ r id (b:Nat)) (B true) tV1;rw[<-g,w]at k |-;have y:ar.enc .own {r with K:=r.K.set j ⟨(nth r.K j).Id,(nth r.K j).U.take b⟩} = [I r.j,.s .own ((r.K.map (aF.enc .own)).set j [I (nth r.K j).Id,.s .own (((nth r.K j).U.take b).map (rI .O))])]:=by
   simp only[ar.enc,IC]
   rfl
  rw[y]at k |-;rw[g];refine fO 46 [(5,270,[30,31,32,33,34,35,36,37,38,39,40,41,43,44,0,1,2,3,4,5,6,7,8,9,10,11,12,1000,1001,1002,13,14,15])] Tryz.func191 rfl ?_ (.inr k)
  repeat'(first|refine gE ?_|with_reducible refine CS ω (aa e) ?_|refine CZ b rfl (by rw[I2];omega) (aR λ_=>rfl) C8 ?_|refine Cg (λ_=>rfl) (λ_=>rfl) (by rw[I3];omega) qs ?_|refine CX (λ_=>rfl) (λ_=>rfl) (by rw[I3];omega) qs ?_|refine CR rfl rfl (aa e) rfl (O2 rfl) rfl ?_)
  rfl
 have q:=key.fzR;rw[gm,Cw]at q;exact q
def DB(r:ar)(id a v:Int)(c:ar.sml r)(q:0<=v/\v<=999):∃b:Bool,zzA 189 false [.val (some 2) (ar.enc .O r),.vI id,.vI a,.vI v] (.tup [some 2,none]) (ar.enc .O (ef r id a v)++[B b]):=by
 by_cases h:0<=pR r id
 ·by_cases d:0<=a/\a<=(nth r.K (pR r id).toNat).U.length - 1
  ·exact⟨true,AI r id a v c h d q⟩
  refine⟨false,?_⟩;have l:r.K.length<=1048576:=c.1;have k:=gg r c;have i:=jV r id c.1;obtain⟨w,y,C⟩:=fJ (iR id) r.K h;obtain⟨j,n⟩:=t5 h;have e:j<r.K.length:=by unfold pR at n;omega
  have o:=au e;have t:(nth r.K j).U.length<=1048576:=c.2 _ (ay e);have u:ef r id a v=r:=by unfold ef;rw[CJ (λx=>d x.2.1)]
  rw[n]at i d;simp only[O4]at d;have p:=aU a 0 (((nth r.K j).U.length:Nat) - 1:Int);rw[C1 d]at p;rw[u];have key:zzA 189 false [.val (some 2) (ar.enc .O r),.vI id,.vI a,.vI v] (.tup [some 2,none]) (ar.enc .own r++[B false]):=by
   refine fO 48 [] Tryz.func189 rfl ?_ (.inr (rG r (B false) tV1))
   refine σE ?_
   rfl
  have g:=key.fzR;rw[gm,Cw]at g;exact g
 refine⟨false,?_⟩;have k:=gg r c;have i:=jV r id c.1;rw[show ef r id a v=r by unfold ef;rw[CJ (λx=>h x.1)]];have key:zzA 189 false [.val (some 2) (ar.enc .O r),.vI id,.vI a,.vI v] (.tup [some 2,none]) (ar.enc .own r++[B false]):=by
  refine fO 48 [] Tryz.func189 rfl ?_ (.inr (rG r (B false) tV1))
  refine σE ?_
  rfl
 have g:=key.fzR;rw[gm,Cw]at g;exact g
def Fk(r:ar)(id n:Int)(a:ar.sml r):∃b:Bool,zzA 191 false [.val (some 2) (ar.enc .O r),.vI id,.vI n] (.tup [some 2,none]) (ar.enc .O (fQ r id n)++[B b]):=by
 by_cases g:0<=pR r id
 ·by_cases c:1<=n/\n<=(nth r.K (pR r id).toNat).U.length
  ·exact⟨true,Bj r id n a g c⟩
  refine⟨false,?_⟩;have k:r.K.length<=1048576:=a.1;have i:=gg r a;have h:=jV r id a.1;obtain⟨u,w,y⟩:=fJ (iR id) r.K g;obtain⟨j,l⟩:=t5 g;have d:j<r.K.length:=by unfold pR at l;omega
  have o:=au d;have q:(nth r.K j).U.length<=1048576:=a.2 _ (ay d);have t:fQ r id n=r:=by unfold fQ;rw[CJ (λx=>c x.2)]
  rw[l]at h c;simp only[O4]at c;have p:=aU n 1 (((nth r.K j).U.length:Nat):Int);rw[C1 c]at p;rw[t];have key:zzA 191 false [.val (some 2) (ar.enc .O r),.vI id,.vI n] (.tup [some 2,none]) (ar.enc .own r++[B false]):=by
   refine fO 46 [(5,270,[30,31,32,33,34,35,36,37,38,39,40,41,43,44,0,1,2,3,4,5,6,7,8,9,10,11,12,1000,1001,1002,13,14,15])] Tryz.func191 rfl ?_ (.inr (rG r (B false) tV1))
   refine σE ?_
   rfl
  have e:=key.fzR;rw[gm,Cw]at e;exact e
 refine⟨false,?_⟩;have i:=gg r a;have h:=jV r id a.1;rw[show fQ r id n=r by unfold fQ;rw[CJ (λx=>g x.1)]];have key:zzA 191 false [.val (some 2) (ar.enc .O r),.vI id,.vI n] (.tup [some 2,none]) (ar.enc .own r++[B false]):=by
  refine fO 46 [(5,270,[30,31,32,33,34,35,36,37,38,39,40,41,43,44,0,1,2,3,4,5,6,7,8,9,10,11,12,1000,1001,1002,13,14,15])] Tryz.func191 rfl ?_ (.inr (rG r (B false) tV1))
  refine σE ?_
  rfl
 have e:=key.fzR;rw[gm,Cw]at e;exact e
def Qv(w:aP)(n:Nat)(h:bo w.W [])(B:kR w.W.G.k)(j:aJ.sml w.W.b)(D:n<=50):zzB 74 false [.ptr (xV w),.vI (n:Nat)] [.ptr (xV ⟨(mQ w.W n).1,w.b0⟩),.vI (n:Nat)] .one [I ((mQ w.W n).2:Nat)]:=by
 refine fM 35 [(201,[2])] [] [(0,0),(0,0)] Tryz.func74 rfl (λu q=>?_)
 refine σP ?_
 refine g0 n (λi=>[(0,bX (xV ⟨(mQ w.W i).1,w.b0⟩)),(1,fN n),(5,fN ((mQ w.W i).2)),(6,fN i)]) (λi=>(mQ w.W i).2=i) rfl λi o=>?_
 obtain⟨o,E⟩:=o;have p:=R3 h B j i;have c:mQ w.W (i+1)=if pd (mQ w.W i).1=true then(mStep (mQ w.W i).1,(mQ w.W i).2+1) else mQ w.W i:=rfl
 have y:=(aM.1 p.fit.ker).2.2.2.2;by_cases F:i<n
 ·cases b:(mQ w.W i).1.w with
  | true=>
   have C:=(Jr _ (p.inv b) b).frame (r:=ar.enc .O w.b0) ((dA _).trans (dA _).symm);by_cases g:(mQ w.W i).1.G.Calls<=99000
   ·have d:pd (mQ w.W i).1=true:=by unfold pd;rw[b,O0 g];rfl
    rw[CK d]at c;generalize mQ w.W i=s at *
    repeat'(first|refine gE ?_|refine Bf.t (O0 g) ?_|refine Bf.t b ?_)
    (refine CQ (i+1) ⟨ω,by rw[c];simp only;omega⟩ ω ?_)
    rw[c];exact wC
   have d:pd (mQ w.W i).1=false:=by unfold pd;rw[b,C1 g];rfl
   have a:∀k,mQ w.W (i+k)=mQ w.W i:=λk=>by
    induction k with
    | zero=>rfl
    | succ k l=>show(if pd (mQ w.W (i+k)).1=true then _ else mQ w.W (i+k))=_;rw[l,d,CJ (by simp)]
   have e:=a (n - i);rw[show i+(n - i)=n by omega]at e;rw[e];generalize mQ w.W i=s at *
   repeat'(first|refine gE ?_|refine Bf.f (C1 g) ?_|refine Bf.t b ?_)
   exact kk
  | false=>
   have d:pd (mQ w.W i).1=false:=by unfold pd;rw[b];rfl
   have a:∀k,mQ w.W (i+k)=mQ w.W i:=λk=>by
    induction k with
    | zero=>rfl
    | succ k l=>show(if pd (mQ w.W (i+k)).1=true then _ else mQ w.W (i+k))=_;rw[l,d,CJ (by simp)]
   have e:=a (n - i);rw[show i+(n - i)=n by omega]at e;rw[e];generalize mQ w.W i=s at *
   repeat'(first|refine gE ?_|refine Bf.f b ?_)
   exact kk
 obtain rfl:i=n:=ω
 refine σE ?_
 exact kk
def K8(w:aP)(a:dP)(d:bo w.W [])(y:a.a6=5\/a.a6=6\/a.a6=7):zzB 70 false [.ptr (xV w),.val (some 5) (dP.enc .O a)] [.ptr (xV ⟨(jv w.W a).1,w.b0⟩),.val (some 5) (dP.enc .O a)] .one [I (jv w.W a).2]:=by
 have n:=d.nc;have o:w.W.Q.length<=4:=by have:=(eG.1 d.mail).1.2.1;omega
 have B:=iK.of d.mail;have h:=pm w.W.G (bq d.ker);rw[Pq d.ker]at h;have i:=aU a.p 0 (w.W.Q.length - 1:Int);unfold jv;refine fM 59 [(193,[2,0]),(194,[2,0])] [(3,267,[15,16,17,18,19,20,21,14,22,23,6,0,1,2,3,4,5,6,7,8,9,10,11,1009,12]),(8,15,[30,31,32,33,34,35,36,37,38,39,40,41,42,43,44])] [(0,0),(0,0)] Tryz.func70 rfl (λu q=>?_);by_cases k:a.a6=5
 ·rw[CK k]
  by_cases e:0<=a.p/\a.p<=w.W.Q.length - 1
  ·have p:oW w.W a:=e
   obtain⟨t,g⟩:=t5 e.1;have b:=LM w.W.b t d.mail ω;rw[<-g]at b;rw[g]at e |-;simp only[O4];rw[g]at b;by_cases c:0<(nth w.W.b.T t).length
   ·rw[CK (show oW w.W a/\0<(nth w.W.b.T t).length from⟨p,c⟩)]
    rw[CK c,O0 c]at b;rw[<-g]at b
    repeat'(first|refine gB ?_|refine gS (λj=>?_) (λj=>?_)|refine CN (b) ⟨⟨rfl,Cv w.W.b⟩,⟨rfl,rfl⟩,tV1⟩ ?_)
    exact kk
   rw[CJ (show ¬(oW w.W a/\0<(nth w.W.b.T t).length) from λx=>c x.2)];rw[CJ c,C1 c]at b;rw[<-g]at b
   repeat'(first|refine gB ?_|refine gS (λj=>?_) (λj=>?_)|refine CN (b) ⟨⟨rfl,Cv w.W.b⟩,⟨rfl,rfl⟩,tV1⟩ ?_)
   exact kk
  rw[CJ (show ¬(oW w.W a/\0<(nth w.W.b.T a.p.toNat).length) from λx=>e x.1)];have b:=Qc w.W.b a.p d.mail ω
  repeat'(first|refine gB ?_|refine gS (λj=>?_) (λj=>?_)|refine CN (b) ⟨⟨rfl,Cv w.W.b⟩,⟨rfl,rfl⟩,tV1⟩ ?_)
  exact kk
 rw[CJ k];by_cases e:w.W.G.Calls≠100000;rotate_left
 ·rw[CK (show ¬(w.W.G.Calls≠100000/\oW w.W a) from λx=>e x.1)]
  rw[C1 e]at h
  repeat'(first|refine gB ?_|refine CN (h) ⟨⟨rfl,CW _⟩,tV1⟩ ?_)
  exact kk
 rw[O0 e]at h;by_cases c:0<=a.p/\a.p<=w.W.Q.length - 1;rotate_left
 ·rw[CK (show ¬(w.W.G.Calls≠100000/\oW w.W a) from λx=>c x.2)]
  rw[C1 c]at i
  repeat'(first|refine gB ?_|refine CN (h) ⟨⟨rfl,CW _⟩,tV1⟩ ?_)
  exact kk
 rw[CJ (show ¬¬(w.W.G.Calls≠100000/\oW w.W a) from S7 ⟨e,c⟩)];rw[O0 c]at i;obtain⟨t,g⟩:=t5 c.1;by_cases l:a.a6=6
 ·rw[CK l]
  have b:=(A6 w.W t d ω).frame (r:=ar.enc .O w.b0) ((dA _).trans (dA _).symm);rw[show a.p.toNat=t by omega];rw[<-g]at b
  repeat'(first|refine gB ?_|refine CN (h) ⟨⟨rfl,CW _⟩,tV1⟩ ?_)
  exact kk
 rw[CJ l];have b:=(Gi w.W t d ω).frame (r:=ar.enc .O w.b0) ((dA _).trans (dA _).symm);rw[show a.p.toNat=t by omega];rw[<-g]at b
 repeat'(first|refine gB ?_|refine CN (h) ⟨⟨rfl,CW _⟩,tV1⟩ ?_)
 exact kk
def Lg(w:aP)(a:dP)(i:Nat)(e:bo w.W [])(p:ar.sml w.b0)(o:i<w.W.K.length):zzB 69 false [.ptr (xV w),.val (some 5) (dP.enc .O a),.vI (i:Nat)] [.ptr (xV (mY w a i).1),.val (some 5) (dP.enc .O a),.vI (i:Nat)] .one [I (mY w a i).2]:=by
 have b:=au o;have H:=pO e (ay o);have J:=lI e (ay o) (k:=0);have K:1<=(nth w.W.K i).q/\(nth w.W.K i).q<=1000:=by
  rcases e.oow _ (ay o) with⟨s,M,R,S⟩|⟨l,E,d,c⟩
  ·have T:=aT (e.L.sok s M)
   have:=ru (n:=(nth w.W.K i).q) ω;omega
  have U:=cQ (e.L.lok l E);omega
 have g:=pm w.W.G (bq e.ker);rw[Pq e.ker]at g;unfold mY;refine fM 126 [(186,[2,0,0]),(188,[2,0,0]),(190,[2,0,0])] [(6,7,[29,30,31,32,33,34,35]),(8,269,[40,41,42,43,44,45,46,47,39,48,49,50,51,0,1,2,3,4,5,6,7,8,9,10,11,12,13,1010]),(13,10,[62,63,64,65,66,67,68,69,70,71]),(15,273,[76,77,78,79,80,81,82,83,84,85,86,87,75,88,89,90,91,0,1,2,3,4,5,6,7,8,9,10,11,12,13,14,15,16,17,1014]),(17,15,[93,94,95,96,97,98,99,100,101,102,103,104,105,106,107]),(19,271,[112,113,114,115,116,117,118,119,120,121,111,122,123,124,125,0,1,2,3,4,5,6,7,8,9,10,11,12,13,14,15,1012])] [(0,0),(0,0),(0,0)] Tryz.func69 rfl (λu q=>?_);by_cases F:a.a6=2
 ·rw[CK F]
  unfold uO;by_cases d:w.W.G.Calls=100000
  ·rw[CK d]
   rw[C1 (S7 d)]at g
   repeat'(first|refine gB ?_|refine CN (g) ⟨⟨rfl,CW _⟩,tV1⟩ ?_)
   exact kk
  rw[CJ d];rw[O0 d]at g;have B:=(Y7 w.W i a.p e o).frame (r:=ar.enc .O w.b0) ((dA _).trans (dA _).symm);by_cases c:0<=a.p/\a.p<=w.W.Q.length - 1
  ·rw[CK (show oW w.W a from c)]
   rw[CK c,CK c]at B;have N:=Dj w.b0 (nth w.W.K i).Id p;generalize freeT w.W a.p.toNat i=f at B |-;by_cases j:f.2=0
   ·rw[CK j]
    repeat'(first|refine gB ?_|refine gS (λh=>?_) (λh=>?_)|refine CN (g) ⟨⟨rfl,CW _⟩,tV1⟩ ?_|refine Cl.sh N rfl ?_)
    exact kk
   rw[CJ j]
   repeat'(first|refine gB ?_|refine gS (λh=>?_) (λh=>?_)|refine CN (g) ⟨⟨rfl,CW _⟩,tV1⟩ ?_)
   exact kk
  rw[CJ (show ¬oW w.W a from c)];rw[CJ c,CJ c]at B
  repeat'(first|refine gB ?_|refine gS (λh=>?_) (λh=>?_)|refine CN (g) ⟨⟨rfl,CW _⟩,tV1⟩ ?_)
  exact kk
 rw[CJ F];by_cases G:a.a6=3
 ·rw[CK G]
  unfold qM;have C:=aU a.At 0 ((nth w.W.K i).q - 1);by_cases d:0<=a.At/\a.At<=(nth w.W.K i).q - 1;rotate_left
  ·rw[CK d]
   rw[C1 d]at C
   repeat'(first|refine gB ?_|refine gS (λh=>?_) (λh=>?_)|fail)
   exact kk
  rw[CJ (S7 d)];rw[O0 d]at C;have D:=(FD w.W i a.At a.Value e o d).frame (r:=ar.enc .O w.b0) (by split<;>rfl);have O:=lI e (ay o) d;by_cases c:(ax w.W.G.F.R (((nth w.W.K i).Addr+a.At) / 16)).o=1
  ·rw[CK c]
   rw[CK (.inl c),CK c]at D
   repeat'(first|refine gB ?_|refine gS (λh=>?_) (λh=>?_)|fail)
   exact kk
  rw[CJ c];by_cases j:0<=a.Value/\a.Value<=999;rotate_left
  ·rw[CK j]
   rw[CK (.inr j),CJ c,CK j]at D
   repeat'(first|refine gB ?_|refine gS (λh=>?_) (λh=>?_)|fail)
   exact kk
  rw[CJ (S7 j)];rw[CJ (λx=>x.elim c λy=>y j),CJ c,CJ (S7 j)]at D;obtain⟨V,P⟩:=DB w.b0 (nth w.W.K i).Id a.At a.Value p j
  repeat'(first|refine gB ?_|refine gS (λh=>?_) (λh=>?_)|fail)
  exact kk
 rw[CJ G];unfold vd;by_cases d:w.W.G.Calls=100000
 ·rw[CJ (λx=>x.1 d)]
  rw[C1 (S7 d)]at g
  repeat'(first|refine gB ?_|refine CN (g) ⟨⟨rfl,CW _⟩,tV1⟩ ?_)
  exact kk
 rw[O0 d]at g;by_cases c:ju w.W i a.Value
 ·rw[CK ⟨d,c⟩]
  have t:=(xG w.W i a.Value e o c.1).frame (r:=ar.enc .O w.b0) (by split<;>rfl);rw[CK c,O0 c]at t;obtain⟨W,Q⟩:=Fk w.b0 (nth w.W.K i).Id a.Value p
  repeat'(first|refine gB ?_|refine CN (g) ⟨⟨rfl,CW _⟩,tV1⟩ ?_)
  exact kk
 rw[CJ (λx=>c x.2)];by_cases j:tT w.W (nth w.W.K i).Addr<0
 ·have t:=(PD w.W (nth w.W.K i).Addr a.Value (by have:=e.lens.larges;omega) e.L.lok j).frame (r:=ar.enc .O w.b0) ((dA _).trans (dA _).symm)
  repeat'(first|refine gB ?_|refine CN (g) ⟨⟨rfl,CW _⟩,tV1⟩ ?_)
  exact kk
 have t:=(xG w.W i a.Value e o ω).frame (r:=ar.enc .O w.b0) (by split<;>rfl);rw[CJ c,C1 c]at t
 repeat'(first|refine gB ?_|refine CN (g) ⟨⟨rfl,CW _⟩,tV1⟩ ?_)
 exact kk
def XR(w:aP)(a:dP)(h:bo w.W [])(E:ac.sml w.W)(F:ac.wf w.W)(l:ar.sml w.b0):zzB 16 false [.ptr (xV w),.val (some 5) (dP.enc .O a)] [.ptr (xV (kx w a).1),.val (some 5) (dP.enc .O a)] .one [I (kx w a).2]:=by
 have K:kR w.W.G.k:=F.1.2.2;have o:aJ.sml w.W.b:=E.2.2.2.2.2.2.1;have i:=h.nums;unfold cU at i;rw[C0]at i;unfold kx;refine fM 123 [(66,[2,0,0]),(68,[2,0]),(69,[2,0,0]),(70,[2,0]),(72,[2,0]),(73,[2]),(74,[2,0])] [(3,265,[13,14,15,16,17,18,19,21,22,0,1,2,3,4,5,6,7,8,9,10,11,1010,12]),(5,269,[26,27,28,29,30,31,32,33,25,34,35,36,37,0,1,2,3,4,5,6,7,8,9,10,11,12,13,1010]),(19,21,[62,63,64,65,66,67,68,69,70,71,72,73,74,75,76,77,78,79,80,81,82]),(21,5,[86,87,88,89,90])] [(0,0),(0,0)] Tryz.func16 rfl (λu q=>?_);by_cases p:a.a6=1
 ·rw[CK p]
  have c:=(Gp w.W a.p a.N h).frame (r:=ar.enc .O w.b0) ((dA _).trans (dA _).symm);by_cases e:(fm w.W a.p a.N).2.2=0
  ·rw[CK e]
   have y:1<=a.N/\a.N<=1000:=by
    refine Classical.byContradiction λB=>?_
    unfold fm at e;rw[CK B]at e;split at e
    ·exact absurd (show(5:Int)=0 from e) qs
    split at e
    ·exact absurd (show(1:Int)=0 from e) qs
    exact absurd (show(2:Int)=0 from e) qs
   have k:=AB w.b0 a.N l y;generalize fm w.W a.p a.N=f at c e |-
   repeat'(first|refine gB ?_|refine gS (λb=>?_) (λb=>?_)|fail)
   exact kk
  rw[CJ e];generalize fm w.W a.p a.N=f at c e |-
  repeat'(first|refine gB ?_|refine gS (λb=>?_) (λb=>?_)|fail)
  exact kk
 rw[CJ p];unfold nq;rw[CJ p];by_cases G:a.a6=2\/a.a6=3\/a.a6=4
 ·rw[CK G]
  have c:=Lf w a.N (by have:=h.lens.objs;omega);by_cases e:oY w.W a.N<0
  ·rw[CK e]
   repeat'(first|refine gB ?_|refine gS (λb=>?_) (λb=>?_)|fail)
   all_goals first|omega|skip
   all_goals
    exact kk
  rw[CJ e];obtain⟨L,M,O⟩:=fJ (Rh a.N) w.W.K (by unfold oY at e;omega);have k:=Lg w a (oY w.W a.N).toNat h l L;rw[show(((oY w.W a.N).toNat:Nat):Int)=oY w.W a.N by omega]at k
  repeat'(first|refine gB ?_|refine gS (λb=>?_) (λb=>?_)|fail)
  all_goals first|omega|skip
  all_goals
   exact kk
 rw[CJ G];by_cases C:a.a6=5\/a.a6=6\/a.a6=7
 ·rw[CK C]
  have c:=K8 w a h C
  repeat'(first|refine gB ?_|refine gS (λb=>?_) (λb=>?_)|fail)
  all_goals first|omega|skip
  all_goals
   exact kk
 rw[CJ C];by_cases H:a.a6=8
 ·rw[CK H]
  unfold vi;have d:=pm w.W.G (bq h.ker);rw[Pq h.ker]at d;have c:=aU a.N 0 1000;by_cases g:w.W.G.Calls≠100000;rotate_left
  ·rw[CJ (λx=>g x.1)]
   rw[C1 g]at d
   repeat'(first|refine gB ?_|refine gS (λb=>?_) (λb=>?_)|refine CN (d) ⟨⟨rfl,CW _⟩,tV1⟩ ?_)
   exact kk
  rw[O0 g]at d;by_cases j:0<=a.N/\a.N<=1000;rotate_left
  ·rw[CJ (λx=>j x.2.1)]
   rw[C1 j]at c
   repeat'(first|refine gB ?_|refine gS (λb=>?_) (λb=>?_)|refine CN (d) ⟨⟨rfl,CW _⟩,tV1⟩ ?_)
   exact kk
  rw[O0 j]at c;by_cases D:w.W.a4+a.N<=1000000
  ·rw[CK ⟨g,j,D⟩]
   have k:=(HU w.W a.N h j D).frame (r:=ar.enc .O w.b0) ((dA _).trans (dA _).symm)
   repeat'(first|refine gB ?_|refine gS (λb=>?_) (λb=>?_)|refine CN (d) ⟨⟨rfl,CW _⟩,tV1⟩ ?_)
   exact kk
  rw[CJ (λx=>D x.2.2)]
  repeat'(first|refine gB ?_|refine gS (λb=>?_) (λb=>?_)|refine CN (d) ⟨⟨rfl,CW _⟩,tV1⟩ ?_)
  exact kk
 rw[CJ H];by_cases J:a.a6=9
 ·rw[CK J]
  unfold uS;have d:=zD w.W E F;rw[show dQ w.W=true from h.to]at d;cases g:w.W.w with
  | true=>
   rw[CK rfl]
   repeat'(first|refine gB ?_|refine gS (λb=>?_) (λb=>?_)|refine Bf.t g ?_)
   exact kk
  | false=>
   rw[CJ (by simp)];have c:=(Ft w.W h).frame (r:=ar.enc .O w.b0) ((dA _).trans (dA _).symm);cases j:(started w.W).2<;>rw[j]at c
   ·rw[CJ (by simp)]
    repeat'(first|refine gB ?_|refine gS (λb=>?_) (λb=>?_)|refine Bf.f g ?_|refine CN (d) ⟨⟨rfl,bY w.W⟩,tV1⟩ ?_)
    exact kk
   rw[CK rfl]
   repeat'(first|refine gB ?_|refine gS (λb=>?_) (λb=>?_)|refine Bf.f g ?_|refine CN (d) ⟨⟨rfl,bY w.W⟩,tV1⟩ ?_)
   exact kk
 rw[CJ J];by_cases k10:a.a6=10;rotate_left
 ·rw[CJ (λx=>k10 x.1)]
  repeat'(first|refine gB ?_|refine gS (λb=>?_) (λb=>?_)|fail)
  exact kk
 have d:=aU a.N 0 50;by_cases g:0<=a.N/\a.N<=50
 ·rw[CK ⟨k10,g⟩]
  rw[O0 g]at d;obtain⟨n,B⟩:=t5 g.1;have c:=Qv w n h K o ω;rw[show a.N.toNat=n by omega];rw[<-B]at c
  repeat'(first|refine gB ?_|refine gS (λb=>?_) (λb=>?_)|fail)
  exact kk
 rw[CJ (λx=>g x.2)];rw[C1 g]at d
 repeat'(first|refine gB ?_|refine gS (λb=>?_) (λb=>?_)|fail)
 exact kk
set_option maxHeartbeats 2000000
def p8(x:List Int)(k:Int)(g:lN x)(l:0<=k)(h1:k+(eB x:Nat)<=1099511627776):zzB 294 false [.mut none (aI .suf x),.vI k] [.mut none (aI .suf (markIntS x k)),.val none []] .one [I (k+(eB x:Nat))]:=by
 have n:x.length<=1048576:=g;unfold eB at h1;have a:((markIntS x k).map (rI .suf)).length=(x.map (rI .suf)).length:=by simp[rL]
 refine fM 19 [] [] [(0,0),(0,0)] Tryz.func294 rfl (λu p=>?_)
 refine σP ?_
 refine CV (ι:=Nat) (λi=>[(0,b8 [.s (.tagS (u 0 0)) (iH ((markIntS x k).map (rI .suf)) (x.map (rI .suf)) i)]),(1,fI (k+(lP x i:Nat))),(5,fN i)]) (λi=>i<=x.length) (λi=>x.length - i) 0 ?_ (I1 _) λi o=>?_
 ·rw[cF]
  repeat'(first|exact tV1|rfl|exact CL rfl (CL (O1 I (by unfold lP;omega)) tV1)|refine CL ?_ ?_)
 have b:=(jo a i).trans (show(x.map (rI .suf)).length=x.length by simp);by_cases c:i<x.length
 ·obtain⟨y,h⟩ : ∃y,x[i]? = some y:=⟨_,z4 c⟩
  have d:=dD a i kd;rw[aa h]at d;have e:=sr x k i c;unfold lP
  repeat'(first|refine gE ?_|with_reducible (first|refine Cc b ?_|refine CI d ?_)|refine CR rfl rfl d rfl (z5 _) rfl ?_|refine CU qs ?_|refine CY rfl ?_|refine CI (bx d) ?_|refine CQ (i+1) ω ω ?_)
  repeat'(first|exact tV1|rfl|exact CL rfl (CL (O1 (C.s _) (by first|exact ce a (aa e)|(simp only[List.set_set];exact ce a (aa e)))) tV1)|exact CL rfl (CL (O1 I (by first|omega|(unfold lP;omega))) tV1)|refine CL ?_ ?_)
 repeat'(first|refine gE ?_|with_reducible refine Cc b ?_|refine CO rfl ?_ ?_)
 ·have j:i=x.length:=ω
  subst j;exact eE (by unfold lP eB;rfl)
 rw[dG _ a kd]
 repeat'(first|exact tV1|exact rfl|refine CL ?_ ?_)
def rF(x:List (List Int))(k:Int)(j:mc x)(o:0<=k)(h1:k+(eN x:Nat)<=1099511627776):zzB 295 false [.mut none (fk .suf x),.vI k] [.mut none (fk .suf (markIntSS x k)),.val none []] .one [I (k+(eN x:Nat))]:=by
 have q:x.length<=1048576:=j.1;have a:((markIntSS x k).map (aI .suf)).length=(x.map (aI .suf)).length:=by simp[qy]
 refine fM 19 [(294,[1,0])] [] [(0,0),(0,0)] Tryz.func295 rfl (λu p=>?_)
 refine σP ?_
 refine CV (ι:=Nat) (λi=>[(0,b8 [.s (.tagS (u 0 0)) (iH ((markIntSS x k).map (aI .suf)) (x.map (aI .suf)) i)]),(1,fI (k+(fK x i:Nat))),(5,fN i)]) (λi=>i<=x.length) (λi=>x.length - i) 0 ?_ (I1 _) λi r=>?_
 ·rw[cF,qh]
  repeat'(first|exact tV1|rfl|exact CL rfl (CL (O1 I ω) tV1)|refine CL ?_ ?_)
 have b:=(jo a i).trans (show(x.map (aI .suf)).length=x.length by simp);by_cases e:i<x.length
 ·obtain⟨y,d⟩ : ∃y,x[i]? = some y:=⟨_,z4 e⟩
  have c:=dD a i kd;rw[aa d]at c;have l:=qv x k i y d;have g:=pT x i y d;have h:=t7 x (i+1);rw[g]at h
  repeat'(first|refine gE ?_|with_reducible (first|refine Cc b ?_|refine CI c ?_)|refine CM rfl c rfl ?_|refine Cj rfl rfl c rfl (z5 _) rfl rfl ?_|refine CP (p8 y _ (j.2 y (t4 d)) ω ω) (.inl rfl) ?_|refine CR rfl rfl (bx c) rfl (z5 _) rfl ?_|refine CI (bx c) ?_|refine CQ (i+1) ω ω ?_)
  repeat'(first|exact tV1|rfl|exact CL rfl (CL (O1 (C.s _) (by first|exact ce a (aa l)|(simp only[List.set_set];exact ce a (aa l)))) tV1)|exact CL rfl (CL (O1 I ω) tV1)|refine CL ?_ ?_)
 repeat'(first|refine gE ?_|with_reducible refine Cc b ?_|refine CO rfl ?_ ?_)
 ·have n:i=x.length:=ω
  subst n;exact eE (by rw[rN])
 rw[dG _ a kd]
 repeat'(first|exact tV1|exact rfl|refine CL ?_ ?_)
def Ja(x:List Bool)(k:Int)(g:qA x)(l:0<=k)(h1:k+(i6 x:Nat)<=1099511627776):zzB 457 false [.mut none (iq .suf x),.vI k] [.mut none (iq .suf (markBoolS x k)),.val none []] .one [I (k+(i6 x:Nat))]:=by
 have n:x.length<=1048576:=g;unfold i6 at h1;have a:((markBoolS x k).map (rB .suf)).length=(x.map (rB .suf)).length:=by simp[qb]
 refine fM 21 [] [] [(0,0),(0,0)] Tryz.func457 rfl (λu p=>?_)
 refine σP ?_
 refine CV (ι:=Nat) (λi=>[(0,b8 [.s (.tagS (u 0 0)) (iH ((markBoolS x k).map (rB .suf)) (x.map (rB .suf)) i)]),(1,fI (k+(jF x i:Nat))),(5,fN i)]) (λi=>i<=x.length) (λi=>x.length - i) 0 ?_ (I1 _) λi o=>?_
 ·rw[cF]
  repeat'(first|exact tV1|rfl|exact CL rfl (CL (O1 I (by unfold jF;omega)) tV1)|refine CL ?_ ?_)
 have b:=(jo a i).trans (show(x.map (rB .suf)).length=x.length by simp);by_cases c:i<x.length
 ·obtain⟨y,h⟩ : ∃y,x[i]? = some y:=⟨_,z4 c⟩
  have d:=dD a i kd;rw[aa h]at d;have e:=pS x k i c;unfold jF
  repeat'(first|refine gE ?_|with_reducible (first|refine Cc b ?_|refine CI d ?_)|refine CR rfl rfl d rfl (z5 _) rfl ?_|refine CU qs ?_|refine CY rfl ?_|refine CI (bx d) ?_|refine CQ (i+1) ω ω ?_)
  repeat'(first|exact tV1|rfl|exact CL rfl (CL (O1 (C.s _) (by first|exact ce a (aa e)|(simp only[List.set_set];exact ce a (aa e)))) tV1)|exact CL rfl (CL (O1 I (by first|omega|(unfold jF;omega))) tV1)|refine CL ?_ ?_)
 repeat'(first|refine gE ?_|with_reducible refine Cc b ?_|refine CO rfl ?_ ?_)
 ·have j:i=x.length:=ω
  subst j;exact eE (by unfold jF i6;rfl)
 rw[dG _ a kd]
 repeat'(first|exact tV1|exact rfl|refine CL ?_ ?_)
def Gm(x:aO)(k:Int)(a:aO.sml x)(d:0<=k)(h1:k+(aO.cnt x:Nat)<=1099511627776):zzB 402 false [.mut (some 2) (aO.enc .suf x),.vI k] [.mut (some 2) (aO.enc .suf (x.mark k)),.val none []] .one [I (k+(aO.cnt x:Nat))]:=by
 obtain⟨b,c⟩:=a;unfold aO.cnt at h1;refine fM 14 [(295,[1,0]),(457,[1,0])] [] [(2,0),(0,0)] Tryz.func402 rfl (λu p=>?_)
 repeat'(first|refine gP ?_|refine CP (rF x.U _ b ω ω) (.inl rfl) ?_|refine CP (Ja x.y _ c ω ω) (.inl rfl) ?_|refine CO rfl ?_ ?_)
 ·exact eE (by unfold aO.cnt;omega)
 repeat'(first|exact tV1|exact rfl|refine CL ?_ ?_)
def FF(x:List aS)(k:Int)(l:lE x)(o:0<=k)(h1:k+(dZ x:Nat)<=1099511627776):zzB 458 false [.mut none (fX .suf x),.vI k] [.mut none (fX .suf (fg x k)),.val none []] .one [I (k+(dZ x:Nat))]:=by
 have q:x.length<=1048576:=l.1;have a:((fg x k).map (aS.enc .suf)).length=(x.map (aS.enc .suf)).length:=by simp[ni]
 refine fM 27 [] [] [(0,0),(0,0)] Tryz.func458 rfl (λu p=>?_)
 refine σP ?_
 refine CV (ι:=Nat) (λi=>[(0,b8 [.s (.tagS (u 0 0)) (iH ((fg x k).map (aS.enc .suf)) (x.map (aS.enc .suf)) i)]),(1,fI (k+(df x i:Nat))),(5,fN i)]) (λi=>i<=x.length) (λi=>x.length - i) 0 ?_ (I1 _) λi r=>?_
 ·rw[cF,mZ]
  repeat'(first|exact tV1|rfl|exact CL rfl (CL (O1 I ω) tV1)|refine CL ?_ ?_)
 have b:=(jo a i).trans (show(x.map (aS.enc .suf)).length=x.length by simp);by_cases g:i<x.length
 ·obtain⟨y,h⟩ : ∃y,x[i]? = some y:=⟨_,z4 g⟩
  have d:=dD a i kd;rw[aa h]at d;have j:=mC x k i y h;have c:=m9 x i y h;have e:=qj x (i+1);rw[c]at e;simp only[aS.cnt]at c e
  repeat'(first|refine gE ?_|with_reducible (first|refine Cc b ?_|refine CI d ?_)|refine CR rfl rfl d rfl (O2 rfl) rfl ?_|refine CR rfl rfl (bx d) rfl (O2 rfl) rfl ?_|refine CI (bx d) ?_|refine CQ (i+1) ω ω ?_)
  repeat'(first|exact tV1|rfl|exact CL rfl (CL (O1 (C.s _) (by first|exact ce a (aa j)|(simp only[List.set_set];exact ce a (aa j)))) tV1)|exact CL rfl (CL (O1 I (by first|omega|(simp only[aS.cnt]at c;omega))) tV1)|refine CL ?_ ?_)
 repeat'(first|refine gE ?_|with_reducible refine Cc b ?_|refine CO rfl ?_ ?_)
 ·have n:i=x.length:=ω
  subst n;exact eE (by rw[o7])
 rw[dG _ a kd]
 repeat'(first|exact tV1|exact rfl|refine CL ?_ ?_)
def Jj(x:aL)(k:Int)(a:aL.sml x)(c:0<=k)(h1:k+(aL.cnt x:Nat)<=1099511627776):zzB 403 false [.mut (some 1) (aL.enc .suf x),.vI k] [.mut (some 1) (aL.enc .suf (x.mark k)),.val none []] .one [I (k+(aL.cnt x:Nat))]:=by
 have b:=a;unfold aL.cnt at h1;refine fM 10 [(458,[1,0])] [] [(2,0),(0,0)] Tryz.func403 rfl (λu p=>?_)
 repeat'(first|refine gP ?_|refine CP (FF x.M _ b ω ω) (.inl rfl) ?_|refine CO rfl ?_ ?_)
 ·exact eE (by unfold aL.cnt;omega)
 repeat'(first|exact tV1|exact rfl|refine CL ?_ ?_)
def BY(x:aH)(k:Int)(a:aH.sml x)(d:0<=k)(h1:k+(aH.cnt x:Nat)<=1099511627776):zzB 293 false [.mut (some 3) (aH.enc .suf x),.vI k] [.mut (some 3) (aH.enc .suf (x.mark k)),.val none []] .one [I (k+(aH.cnt x:Nat))]:=by
 obtain⟨b,c⟩:=a;unfold aH.cnt at h1;refine fM 14 [(402,[1,0]),(403,[1,0])] [] [(2,0),(0,0)] Tryz.func293 rfl (λu p=>?_)
 repeat'(first|refine gP ?_|refine CP (Gm x.V _ b ω ω) (.inl rfl) ?_|refine CP (Jj x.R _ c ω ω) (.inl rfl) ?_|refine CO rfl ?_ ?_)
 ·exact eE (by unfold aH.cnt;omega)
 repeat'(first|exact tV1|exact rfl|refine CL ?_ ?_)
def F7(x:af)(k:Int)(a:af.sml x)(d:0<=k)(h1:k+(af.cnt x:Nat)<=1099511627776):zzB 132 false [.mut (some 5) (af.enc .suf x),.vI k] [.mut (some 5) (af.enc .suf (x.mark k)),.val none []] .one [I (k+(af.cnt x:Nat))]:=by
 obtain⟨b,c⟩:=a;unfold af.cnt at h1;refine fM 14 [(293,[1,0]),(294,[1,0])] [] [(2,0),(0,0)] Tryz.func132 rfl (λu p=>?_)
 repeat'(first|refine gP ?_|refine CP (BY x.F _ b ω ω) (.inl rfl) ?_|refine CP (p8 x.k _ c ω ω) (.inl rfl) ?_|refine CO rfl ?_ ?_)
 ·exact eE (by unfold af.cnt;omega)
 repeat'(first|exact tV1|exact rfl|refine CL ?_ ?_)
def FQ(x:List aD)(k:Int)(l:eJ x)(o:0<=k)(h1:k+(cr x:Nat)<=1099511627776):zzB 133 false [.mut none (bm .suf x),.vI k] [.mut none (bm .suf (eX x k)),.val none []] .one [I (k+(cr x:Nat))]:=by
 have q:x.length<=1048576:=l.1;have a:((eX x k).map (aD.enc .suf)).length=(x.map (aD.enc .suf)).length:=by simp[m8]
 refine fM 27 [] [] [(0,0),(0,0)] Tryz.func133 rfl (λu p=>?_)
 refine σP ?_
 refine CV (ι:=Nat) (λi=>[(0,b8 [.s (.tagS (u 0 0)) (iH ((eX x k).map (aD.enc .suf)) (x.map (aD.enc .suf)) i)]),(1,fI (k+(dt x i:Nat))),(5,fN i)]) (λi=>i<=x.length) (λi=>x.length - i) 0 ?_ (I1 _) λi r=>?_
 ·rw[cF,mB]
  repeat'(first|exact tV1|rfl|exact CL rfl (CL (O1 I ω) tV1)|refine CL ?_ ?_)
 have b:=(jo a i).trans (show(x.map (aD.enc .suf)).length=x.length by simp);by_cases g:i<x.length
 ·obtain⟨y,h⟩ : ∃y,x[i]? = some y:=⟨_,z4 g⟩
  have d:=dD a i kd;rw[aa h]at d;have j:=mU x k i y h;have c:=mS x i y h;have e:=q7 x (i+1);rw[c]at e;simp only[aD.cnt]at c e
  repeat'(first|refine gE ?_|with_reducible (first|refine Cc b ?_|refine CI d ?_)|refine CR rfl rfl d rfl (O2 rfl) rfl ?_|refine CR rfl rfl (bx d) rfl (O2 rfl) rfl ?_|refine CI (bx d) ?_|refine CQ (i+1) ω ω ?_)
  repeat'(first|exact tV1|rfl|exact CL rfl (CL (O1 (C.s _) (by first|exact ce a (aa j)|(simp only[List.set_set];exact ce a (aa j)))) tV1)|exact CL rfl (CL (O1 I (by first|omega|(simp only[aD.cnt]at c;omega))) tV1)|refine CL ?_ ?_)
 repeat'(first|refine gE ?_|with_reducible refine Cc b ?_|refine CO rfl ?_ ?_)
 ·have n:i=x.length:=ω
  subst n;exact eE (by rw[oh])
 rw[dG _ a kd]
 repeat'(first|exact tV1|exact rfl|refine CL ?_ ?_)
def Km(x:List aC)(k:Int)(l:cP x)(o:0<=k)(h1:k+(cN x:Nat)<=1099511627776):zzB 134 false [.mut none (bH .suf x),.vI k] [.mut none (bH .suf (fW x k)),.val none []] .one [I (k+(cN x:Nat))]:=by
 have q:x.length<=1048576:=l.1;have a:((fW x k).map (aC.enc .suf)).length=(x.map (aC.enc .suf)).length:=by simp[oK]
 refine fM 34 [] [] [(0,0),(0,0)] Tryz.func134 rfl (λu p=>?_)
 refine σP ?_
 refine CV (ι:=Nat) (λi=>[(0,b8 [.s (.tagS (u 0 0)) (iH ((fW x k).map (aC.enc .suf)) (x.map (aC.enc .suf)) i)]),(1,fI (k+(eg x i:Nat))),(5,fN i)]) (λi=>i<=x.length) (λi=>x.length - i) 0 ?_ (I1 _) λi r=>?_
 ·rw[cF,oM]
  repeat'(first|exact tV1|rfl|exact CL rfl (CL (O1 I ω) tV1)|refine CL ?_ ?_)
 have b:=(jo a i).trans (show(x.map (aC.enc .suf)).length=x.length by simp);by_cases g:i<x.length
 ·obtain⟨y,h⟩ : ∃y,x[i]? = some y:=⟨_,z4 g⟩
  have c:=dD a i kd;rw[aa h]at c;have j:=oV x k i y h;have d:=og x i y h;have e:=rE x (i+1);rw[d]at e;simp only[aC.cnt]at d e
  repeat'(first|refine gE ?_|with_reducible (first|refine Cc b ?_|refine CI c ?_)|refine CR rfl rfl c rfl (O2 rfl) rfl ?_|refine CR rfl rfl (bx c) rfl (O2 rfl) rfl ?_|refine CR rfl rfl (bx (bx c)) rfl (O2 rfl) rfl ?_|refine CI (bx c) ?_|refine CI (bx (bx c)) ?_|refine CQ (i+1) ω ω ?_)
  repeat'(first|exact tV1|rfl|exact CL rfl (CL (O1 (C.s _) (by first|exact ce a (aa j)|(simp only[List.set_set];exact ce a (aa j)))) tV1)|exact CL rfl (CL (O1 I (by first|omega|(simp only[aC.cnt]at d;omega))) tV1)|refine CL ?_ ?_)
 repeat'(first|refine gE ?_|with_reducible refine Cc b ?_|refine CO rfl ?_ ?_)
 ·have n:i=x.length:=ω
  subst n;exact eE (by rw[qw])
 rw[dG _ a kd]
 repeat'(first|exact tV1|exact rfl|refine CL ?_ ?_)
def Gn(x:List aA)(k:Int)(l:cV x)(o:0<=k)(h1:k+(cy x:Nat)<=1099511627776):zzB 135 false [.mut none (bG .suf x),.vI k] [.mut none (bG .suf (eU x k)),.val none []] .one [I (k+(cy x:Nat))]:=by
 have q:x.length<=1048576:=l.1;have a:((eU x k).map (aA.enc .suf)).length=(x.map (aA.enc .suf)).length:=by simp[mA]
 refine fM 34 [] [] [(0,0),(0,0)] Tryz.func135 rfl (λu p=>?_)
 refine σP ?_
 refine CV (ι:=Nat) (λi=>[(0,b8 [.s (.tagS (u 0 0)) (iH ((eU x k).map (aA.enc .suf)) (x.map (aA.enc .suf)) i)]),(1,fI (k+(dn x i:Nat))),(5,fN i)]) (λi=>i<=x.length) (λi=>x.length - i) 0 ?_ (I1 _) λi r=>?_
 ·rw[cF,mT]
  repeat'(first|exact tV1|rfl|exact CL rfl (CL (O1 I ω) tV1)|refine CL ?_ ?_)
 have b:=(jo a i).trans (show(x.map (aA.enc .suf)).length=x.length by simp);by_cases g:i<x.length
 ·obtain⟨y,h⟩ : ∃y,x[i]? = some y:=⟨_,z4 g⟩
  have c:=dD a i kd;rw[aa h]at c;have j:=nk x k i y h;have d:=mH x i y h;have e:=qd x (i+1);rw[d]at e;simp only[aA.cnt]at d e
  repeat'(first|refine gE ?_|with_reducible (first|refine Cc b ?_|refine CI c ?_)|refine CR rfl rfl c rfl (O2 rfl) rfl ?_|refine CR rfl rfl (bx c) rfl (O2 rfl) rfl ?_|refine CR rfl rfl (bx (bx c)) rfl (O2 rfl) rfl ?_|refine CI (bx c) ?_|refine CI (bx (bx c)) ?_|refine CQ (i+1) ω ω ?_)
  repeat'(first|exact tV1|rfl|exact CL rfl (CL (O1 (C.s _) (by first|exact ce a (aa j)|(simp only[List.set_set];exact ce a (aa j)))) tV1)|exact CL rfl (CL (O1 I (by first|omega|(simp only[aA.cnt]at d;omega))) tV1)|refine CL ?_ ?_)
 repeat'(first|refine gE ?_|with_reducible refine Cc b ?_|refine CO rfl ?_ ?_)
 ·have n:i=x.length:=ω
  subst n;exact eE (by rw[oo])
 rw[dG _ a kd]
 repeat'(first|exact tV1|exact rfl|refine CL ?_ ?_)
def KQ(x:List aW)(k:Int)(l:qT x)(o:0<=k)(h1:k+(eK x:Nat)<=1099511627776):zzB 136 false [.mut none (gn .suf x),.vI k] [.mut none (gn .suf (gy x k)),.val none []] .one [I (k+(eK x:Nat))]:=by
 have q:x.length<=1048576:=l.1;have a:((gy x k).map (aW.enc .suf)).length=(x.map (aW.enc .suf)).length:=by simp[pX]
 refine fM 41 [] [] [(0,0),(0,0)] Tryz.func136 rfl (λu p=>?_)
 refine σP ?_
 refine CV (ι:=Nat) (λi=>[(0,b8 [.s (.tagS (u 0 0)) (iH ((gy x k).map (aW.enc .suf)) (x.map (aW.enc .suf)) i)]),(1,fI (k+(fD x i:Nat))),(5,fN i)]) (λi=>i<=x.length) (λi=>x.length - i) 0 ?_ (I1 _) λi r=>?_
 ·rw[cF,qr]
  repeat'(first|exact tV1|rfl|exact CL rfl (CL (O1 I ω) tV1)|refine CL ?_ ?_)
 have c:=(jo a i).trans (show(x.map (aW.enc .suf)).length=x.length by simp);by_cases g:i<x.length
 ·obtain⟨y,h⟩ : ∃y,x[i]? = some y:=⟨_,z4 g⟩
  have b:=dD a i kd;rw[aa h]at b;have j:=qf x k i y h;have d:=qe x i y h;have e:=tF x (i+1);rw[d]at e;simp only[aW.cnt]at d e
  repeat'(first|refine gE ?_|with_reducible (first|refine Cc c ?_|refine CI b ?_)|refine CR rfl rfl b rfl (O2 rfl) rfl ?_|refine CR rfl rfl (bx b) rfl (O2 rfl) rfl ?_|refine CR rfl rfl (bx (bx b)) rfl (O2 rfl) rfl ?_|refine CR rfl rfl (bx (bx (bx b))) rfl (O2 rfl) rfl ?_|refine CI (bx b) ?_|refine CI (bx (bx b)) ?_|refine CI (bx (bx (bx b))) ?_|refine CQ (i+1) ω ω ?_)
  repeat'(first|exact tV1|rfl|exact CL rfl (CL (O1 (C.s _) (by first|exact ce a (aa j)|(simp only[List.set_set];exact ce a (aa j)))) tV1)|exact CL rfl (CL (O1 I (by first|omega|(simp only[aW.cnt]at d;omega))) tV1)|refine CL ?_ ?_)
 repeat'(first|refine gE ?_|with_reducible refine Cc c ?_|refine CO rfl ?_ ?_)
 ·have n:i=x.length:=ω
  subst n;exact eE (by rw[su])
 rw[dG _ a kd]
 repeat'(first|exact tV1|exact rfl|refine CL ?_ ?_)
def Gr(x:List aB)(k:Int)(j:lK x)(o:0<=k)(h1:k+(cH x:Nat)<=1099511627776):zzB 137 false [.mut none (er .suf x),.vI k] [.mut none (er .suf (fh x k)),.val none []] .one [I (k+(cH x:Nat))]:=by
 have q:x.length<=1048576:=j.1;have a:((fh x k).map (aB.enc .suf)).length=(x.map (aB.enc .suf)).length:=by simp[mP]
 refine fM 20 [(295,[1,0])] [] [(0,0),(0,0)] Tryz.func137 rfl (λu p=>?_)
 refine σP ?_
 refine CV (ι:=Nat) (λi=>[(0,b8 [.s (.tagS (u 0 0)) (iH ((fh x k).map (aB.enc .suf)) (x.map (aB.enc .suf)) i)]),(1,fI (k+(dm x i:Nat))),(5,fN i)]) (λi=>i<=x.length) (λi=>x.length - i) 0 ?_ (I1 _) λi r=>?_
 ·rw[cF,mI]
  repeat'(first|exact tV1|rfl|exact CL rfl (CL (O1 I ω) tV1)|refine CL ?_ ?_)
 have b:=(jo a i).trans (show(x.map (aB.enc .suf)).length=x.length by simp);by_cases h:i<x.length
 ·obtain⟨y,g⟩ : ∃y,x[i]? = some y:=⟨_,z4 h⟩
  have c:=dD a i kd;rw[aa g]at c;have l:=mJ x k i y g;have d:=mG x i y g;have e:=pQ x (i+1);rw[d]at e
  repeat'(first|refine gE ?_|with_reducible (first|refine Cc b ?_|refine CI c ?_)|refine CM rfl c rfl ?_|refine Cj rfl rfl c rfl (z5 _) rfl rfl ?_|refine CP (rF y.X _ (j.2 y (t4 g)) ω (by simp only[aB.cnt]at e;omega)) (.inl rfl) ?_|refine CR rfl rfl (bx c) rfl (z5 _) rfl ?_|refine CI (bx c) ?_|refine CQ (i+1) ω ω ?_)
  repeat'(first|exact tV1|rfl|exact CL rfl (CL (O1 (C.s _) (by first|exact ce a (aa l)|(simp only[List.set_set];exact ce a (aa l)))) tV1)|exact CL rfl (CL (O1 I (by first|omega|(simp only[aB.cnt]at d;omega))) tV1)|refine CL ?_ ?_)
 repeat'(first|refine gE ?_|with_reducible refine Cc b ?_|refine CO rfl ?_ ?_)
 ·have n:i=x.length:=ω
  subst n;exact eE (by rw[oG])
 rw[dG _ a kd]
 repeat'(first|exact tV1|exact rfl|refine CL ?_ ?_)
def J4(x:List aV)(k:Int)(l:od x)(o:0<=k)(h1:k+(eQ x:Nat)<=1099511627776):zzB 404 false [.mut none (bf .suf x),.vI k] [.mut none (bf .suf (fy x k)),.val none []] .one [I (k+(eQ x:Nat))]:=by
 have q:x.length<=1048576:=l.1;have a:((fy x k).map (aV.enc .suf)).length=(x.map (aV.enc .suf)).length:=by simp[ow]
 refine fM 27 [] [] [(0,0),(0,0)] Tryz.func404 rfl (λu p=>?_)
 refine σP ?_
 refine CV (ι:=Nat) (λi=>[(0,b8 [.s (.tagS (u 0 0)) (iH ((fy x k).map (aV.enc .suf)) (x.map (aV.enc .suf)) i)]),(1,fI (k+(en x i:Nat))),(5,fN i)]) (λi=>i<=x.length) (λi=>x.length - i) 0 ?_ (I1 _) λi r=>?_
 ·rw[cF,oZ]
  repeat'(first|exact tV1|rfl|exact CL rfl (CL (O1 I ω) tV1)|refine CL ?_ ?_)
 have b:=(jo a i).trans (show(x.map (aV.enc .suf)).length=x.length by simp);by_cases g:i<x.length
 ·obtain⟨y,h⟩ : ∃y,x[i]? = some y:=⟨_,z4 g⟩
  have d:=dD a i kd;rw[aa h]at d;have j:=o6 x k i y h;have c:=oC x i y h;have e:=ro x (i+1);rw[c]at e;simp only[aV.cnt]at c e
  repeat'(first|refine gE ?_|with_reducible (first|refine Cc b ?_|refine CI d ?_)|refine CR rfl rfl d rfl (O2 rfl) rfl ?_|refine CR rfl rfl (bx d) rfl (O2 rfl) rfl ?_|refine CI (bx d) ?_|refine CQ (i+1) ω ω ?_)
  repeat'(first|exact tV1|rfl|exact CL rfl (CL (O1 (C.s _) (by first|exact ce a (aa j)|(simp only[List.set_set];exact ce a (aa j)))) tV1)|exact CL rfl (CL (O1 I (by first|omega|(simp only[aV.cnt]at c;omega))) tV1)|refine CL ?_ ?_)
 repeat'(first|refine gE ?_|with_reducible refine Cc b ?_|refine CO rfl ?_ ?_)
 ·have n:i=x.length:=ω
  subst n;exact eE (by rw[qu])
 rw[dG _ a kd]
 repeat'(first|exact tV1|exact rfl|refine CL ?_ ?_)
def Fy(x:List (List aV))(k:Int)(j:lr x)(o:0<=k)(h1:k+(dr x:Nat)<=1099511627776):zzB 296 false [.mut none (fw .suf x),.vI k] [.mut none (fw .suf (eY x k)),.val none []] .one [I (k+(dr x:Nat))]:=by
 have q:x.length<=1048576:=j.1;have a:((eY x k).map (bf .suf)).length=(x.map (bf .suf)).length:=by simp[mF]
 refine fM 19 [(404,[1,0])] [] [(0,0),(0,0)] Tryz.func296 rfl (λu p=>?_)
 refine σP ?_
 refine CV (ι:=Nat) (λi=>[(0,b8 [.s (.tagS (u 0 0)) (iH ((eY x k).map (bf .suf)) (x.map (bf .suf)) i)]),(1,fI (k+(dh x i:Nat))),(5,fN i)]) (λi=>i<=x.length) (λi=>x.length - i) 0 ?_ (I1 _) λi r=>?_
 ·rw[cF,nh]
  repeat'(first|exact tV1|rfl|exact CL rfl (CL (O1 I ω) tV1)|refine CL ?_ ?_)
 have b:=(jo a i).trans (show(x.map (bf .suf)).length=x.length by simp);by_cases e:i<x.length
 ·obtain⟨y,d⟩ : ∃y,x[i]? = some y:=⟨_,z4 e⟩
  have c:=dD a i kd;rw[aa d]at c;have l:=mD x k i y d;have g:=na x i y d;have h:=qi x (i+1);rw[g]at h
  repeat'(first|refine gE ?_|with_reducible (first|refine Cc b ?_|refine CI c ?_)|refine CM rfl c rfl ?_|refine Cj rfl rfl c rfl (z5 _) rfl rfl ?_|refine CP (J4 y _ (j.2 y (t4 d)) ω ω) (.inl rfl) ?_|refine CR rfl rfl (bx c) rfl (z5 _) rfl ?_|refine CI (bx c) ?_|refine CQ (i+1) ω ω ?_)
  repeat'(first|exact tV1|rfl|exact CL rfl (CL (O1 (C.s _) (by first|exact ce a (aa l)|(simp only[List.set_set];exact ce a (aa l)))) tV1)|exact CL rfl (CL (O1 I ω) tV1)|refine CL ?_ ?_)
 repeat'(first|refine gE ?_|with_reducible refine Cc b ?_|refine CO rfl ?_ ?_)
 ·have n:i=x.length:=ω
  subst n;exact eE (by rw[oN])
 rw[dG _ a kd]
 repeat'(first|exact tV1|exact rfl|refine CL ?_ ?_)
def MR(x:aJ)(k:Int)(a:aJ.sml x)(d:0<=k)(h1:k+(aJ.cnt x:Nat)<=1099511627776):zzB 138 false [.mut (some 2) (aJ.enc .suf x),.vI k] [.mut (some 2) (aJ.enc .suf (x.mark k)),.val none []] .one [I (k+(aJ.cnt x:Nat))]:=by
 obtain⟨b,c⟩:=a;unfold aJ.cnt at h1;refine fM 14 [(296,[1,0]),(295,[1,0])] [] [(2,0),(0,0)] Tryz.func138 rfl (λu p=>?_)
 repeat'(first|refine gP ?_|refine CP (Fy x.T _ b ω ω) (.inl rfl) ?_|refine CP (rF x.e _ c ω ω) (.inl rfl) ?_|refine CO rfl ?_ ?_)
 ·exact eE (by unfold aJ.cnt;omega)
 repeat'(first|exact tV1|exact rfl|refine CL ?_ ?_)
def FE(x:List aK)(k:Int)(l:gT x)(o:0<=k)(h1:k+(ed x:Nat)<=1099511627776):zzB 297 false [.mut none (bJ .suf x),.vI k] [.mut none (bJ .suf (eZ x k)),.val none []] .one [I (k+(ed x:Nat))]:=by
 have q:x.length<=1048576:=l.1;have a:((eZ x k).map (aK.enc .suf)).length=(x.map (aK.enc .suf)).length:=by simp[mR]
 refine fM 34 [] [] [(0,0),(0,0)] Tryz.func297 rfl (λu p=>?_)
 refine σP ?_
 refine CV (ι:=Nat) (λi=>[(0,b8 [.s (.tagS (u 0 0)) (iH ((eZ x k).map (aK.enc .suf)) (x.map (aK.enc .suf)) i)]),(1,fI (k+(dq x i:Nat))),(5,fN i)]) (λi=>i<=x.length) (λi=>x.length - i) 0 ?_ (I1 _) λi r=>?_
 ·rw[cF,nj]
  repeat'(first|exact tV1|rfl|exact CL rfl (CL (O1 I ω) tV1)|refine CL ?_ ?_)
 have b:=(jo a i).trans (show(x.map (aK.enc .suf)).length=x.length by simp);by_cases g:i<x.length
 ·obtain⟨y,h⟩ : ∃y,x[i]? = some y:=⟨_,z4 g⟩
  have c:=dD a i kd;rw[aa h]at c;have j:=mL x k i y h;have d:=mV x i y h;have e:=ql x (i+1);rw[d]at e;simp only[aK.cnt]at d e
  repeat'(first|refine gE ?_|with_reducible (first|refine Cc b ?_|refine CI c ?_)|refine CR rfl rfl c rfl (O2 rfl) rfl ?_|refine CR rfl rfl (bx c) rfl (O2 rfl) rfl ?_|refine CR rfl rfl (bx (bx c)) rfl (O2 rfl) rfl ?_|refine CI (bx c) ?_|refine CI (bx (bx c)) ?_|refine CQ (i+1) ω ω ?_)
  repeat'(first|exact tV1|rfl|exact CL rfl (CL (O1 (C.s _) (by first|exact ce a (aa j)|(simp only[List.set_set];exact ce a (aa j)))) tV1)|exact CL rfl (CL (O1 I (by first|omega|(simp only[aK.cnt]at d;omega))) tV1)|refine CL ?_ ?_)
 repeat'(first|refine gE ?_|with_reducible refine Cc b ?_|refine CO rfl ?_ ?_)
 ·have n:i=x.length:=ω
  subst n;exact eE (by rw[oJ])
 rw[dG _ a kd]
 repeat'(first|exact tV1|exact rfl|refine CL ?_ ?_)
def MM(x:aY)(k:Int)(a:aY.sml x)(c:0<=k)(h1:k+(aY.cnt x:Nat)<=1099511627776):zzB 139 false [.mut (some 2) (aY.enc .suf x),.vI k] [.mut (some 2) (aY.enc .suf (x.mark k)),.val none []] .one [I (k+(aY.cnt x:Nat))]:=by
 have b:=a;unfold aY.cnt at h1;refine fM 10 [(297,[1,0])] [] [(2,0),(0,0)] Tryz.func139 rfl (λu p=>?_)
 repeat'(first|refine gP ?_|refine CP (FE x.l _ b ω ω) (.inl rfl) ?_|refine CO rfl ?_ ?_)
 ·exact eE (by unfold aY.cnt;omega)
 repeat'(first|exact tV1|exact rfl|refine CL ?_ ?_)
def KP(x:bn)(k:Int)(a:bn.sml x)(c:0<=k)(h1:k+(bn.cnt x:Nat)<=1099511627776):zzB 298 false [.mut (some 3) (bn.enc .suf x),.vI k] [.mut (some 3) (bn.enc .suf (x.mark k)),.val none []] .one [I (k+(bn.cnt x:Nat))]:=by
 have b:=a;unfold bn.cnt at h1;refine fM 10 [(294,[1,0])] [] [(2,0),(0,0)] Tryz.func298 rfl (λu p=>?_)
 repeat'(first|refine gP ?_|refine CP (p8 x.U _ b ω ω) (.inl rfl) ?_|refine CO rfl ?_ ?_)
 ·exact eE (by unfold bn.cnt;omega)
 repeat'(first|exact tV1|exact rfl|refine CL ?_ ?_)
def PI(x:bz)(k:Int)(a:bz.sml x)(c:0<=k)(h1:k+(bz.cnt x:Nat)<=1099511627776):zzB 140 false [.mut (some 5) (bz.enc .suf x),.vI k] [.mut (some 5) (bz.enc .suf (x.mark k)),.val none []] .one [I (k+(bz.cnt x:Nat))]:=by
 have b:=a;unfold bz.cnt at h1;refine fM 10 [(298,[1,0])] [] [(2,0),(0,0)] Tryz.func140 rfl (λu p=>?_)
 repeat'(first|refine gP ?_|refine CP (KP x.d _ b ω ω) (.inl rfl) ?_|refine CO rfl ?_ ?_)
 ·exact eE (by unfold bz.cnt;omega)
 repeat'(first|exact tV1|exact rfl|refine CL ?_ ?_)
def MX(x:ac)(k:Int)(a:ac.sml x)(n:0<=k)(h1:k+(ac.cnt x:Nat)<=1099511627776):zzB 36 false [.mut (some 24) (ac.enc .suf x),.vI k] [.mut (some 24) (ac.enc .suf (x.mark k)),.val none []] .one [I (k+(ac.cnt x:Nat))]:=by
 obtain⟨b,c,d,e,g,h,i,j,l⟩:=a;unfold ac.cnt at h1;refine fM 42 [(140,[1,0]),(132,[1,0]),(138,[1,0]),(139,[1,0]),(137,[1,0]),(135,[1,0]),(136,[1,0]),(133,[1,0]),(134,[1,0])] [] [(2,0),(0,0)] Tryz.func36 rfl (λu p=>?_)
 repeat'(first|refine gP ?_|refine CP (F7 x.G _ b ω ω) (.inl rfl) ?_|refine CP (FQ x.a _ c ω ω) (.inl rfl) ?_|refine CP (Km x.J _ d ω ω) (.inl rfl) ?_|refine CP (Gn x.H _ e ω ω) (.inl rfl) ?_|refine CP (KQ x.K _ g ω ω) (.inl rfl) ?_|refine CP (Gr x.Q _ h ω ω) (.inl rfl) ?_|refine CP (MR x.b _ i ω ω) (.inl rfl) ?_|refine CP (MM x.r _ j ω ω) (.inl rfl) ?_|refine CP (PI x.a2 _ l ω ω) (.inl rfl) ?_|refine CO rfl ?_ ?_)
 ·exact eE (by unfold ac.cnt;omega)
 repeat'(first|exact tV1|exact rfl|refine CL ?_ ?_)
structure YR where
 a0:Int
 V:Int
 c2:Int
 b7:Int
 k:List Int
deriving DecidableEq,Inhabited
def dP.wf(x:dP):Prop:=nM x.a6/\nM x.p/\nM x.N/\nM x.At/\nM x.Value
def dP.sml(_:dP):Prop:=True
set_option maxHeartbeats 2000000
def aF.ct2(x:aF):Nat:=1+eB x.U
def aF.mk2(x:aF)(k:Int):aF:=⟨k,markIntS x.U (k+1)⟩
def kO:List aF->Nat
 | []=>0
 | x::xs=>aF.ct2 x+kO xs
def A8:List aF->Int->List aF
 | [],_=>[]
 | x::xs,k=>aF.mk2 x k::A8 xs (k+(aF.ct2 x:Nat))
def Dp:∀(x:List aF)(k:Int),(A8 x k).length=x.length
 | [],_=>rfl
 | _::xs,k=>by simp[A8,Dp xs]
def mj:List aF->Nat->Nat
 | [],_=>0
 | _::_,0=>0
 | x::xs,i+1=>aF.ct2 x+mj xs i
def BJ:∀(x:List aF)(k:Int)(i:Nat)(y:aF),x[i]? = some y->(A8 x k)[i]? = some (aF.mk2 y (k+(mj x i:Nat)))
 | [],_,i,y,h=>by simp at h
 | x::xs,k,0,y,h=>by simp at h;subst h;simp[A8,mj]
 | x::xs,k,i+1,y,h=>by
  simp only[A8,List.getElem?_cons_succ];rw[BJ xs _ i y (by simpa using h)]
  congr 2
  simp only[mj];omega
def wt(x:List aF):mj x 0=0:=by cases x<;>rfl
def wd:∀(x:List aF)(i:Nat)(y:aF),x[i]? = some y->mj x (i+1)=mj x i+aF.ct2 y
 | [],i,y,h=>by simp at h
 | x::xs,0,y,h=>by simp at h;subst h;simp[mj,wt]
 | x::xs,i+1,y,h=>by
  simp only[mj];rw[wd xs i y (by simpa using h)];omega
def yJ:∀(x:List aF),mj x x.length=kO x
 | []=>rfl
 | x::xs=>by simp only[List.length_cons,mj,kO,yJ xs]
def DE:∀(x:List aF)(i:Nat),mj x i<=kO x
 | [],_=>by simp[mj]
 | x::xs,0=>by simp[mj]
 | x::xs,i+1=>by simp only[mj,kO];have:=DE xs i;omega
def ar.ct2(x:ar):Nat:=kO x.K
def ar.mk2(x:ar)(k:Int):ar:=⟨x.j,A8 x.K k⟩
def aP.ct2(x:aP):Nat:=ac.cnt x.W+ar.ct2 x.b0
def aP.mk2(x:aP)(k:Int):aP:=⟨ac.mark x.W k,ar.mk2 x.b0 (k+(ac.cnt x.W:Nat))⟩
def D2(x:List aF)(k:Int)(j:ko x)(o:0<=k)(h1:k+(kO x:Nat)<=1099511627776):zzB 141 false [.mut none (f6 .suf x),.vI k] [.mut none (f6 .suf (A8 x k)),.val none []] .one [I (k+(kO x:Nat))]:=by
 have q:x.length<=1048576:=j.1;have a:((A8 x k).map (aF.enc .suf)).length=(x.map (aF.enc .suf)).length:=by simp[Dp]
 refine fM 27 [(294,[1,0])] [] [(0,0),(0,0)] Tryz.func141 rfl (λu p=>?_)
 refine σP ?_
 refine CV (ι:=Nat) (λi=>[(0,b8 [.s (.tagS (u 0 0)) (iH ((A8 x k).map (aF.enc .suf)) (x.map (aF.enc .suf)) i)]),(1,fI (k+(mj x i:Nat))),(5,fN i)]) (λi=>i<=x.length) (λi=>x.length - i) 0 ?_ (I1 _) λi r=>?_
 ·rw[cF,wt]
  repeat'(first|exact tV1|rfl|exact CL rfl (CL (O1 I ω) tV1)|refine CL ?_ ?_)
 have c:=(jo a i).trans (show(x.map (aF.enc .suf)).length=x.length by simp);by_cases h:i<x.length
 ·obtain⟨y,g⟩ : ∃y,x[i]? = some y:=⟨_,z4 h⟩
  have b:=dD a i kd;rw[aa g]at b;have l:=BJ x k i y g;have d:=wd x i y g;have e:=DE x (i+1);rw[d]at e
  repeat'(first|refine gE ?_|with_reducible (first|refine Cc c ?_|refine CI b ?_)|refine CR rfl rfl b rfl (O2 rfl) rfl ?_|refine CM rfl (bx b) rfl ?_|refine Cj rfl rfl (bx b) rfl (O2 rfl) rfl rfl ?_|refine CP (p8 y.U _ (j.2 y (t4 g)) ω (by simp only[aF.ct2]at e;omega)) (.inl rfl) ?_|refine CR rfl rfl (bx b) rfl (O2 rfl) rfl ?_|refine CR rfl rfl (bx (bx b)) rfl (O2 rfl) rfl ?_|refine CR rfl rfl (bx (bx (bx b))) rfl (O2 rfl) rfl ?_|refine CI (bx b) ?_|refine CQ (i+1) ω ω ?_)
  repeat'(first|exact tV1|rfl|exact CL rfl (CL (O1 (C.s _) (by first|exact ce a (aa l)|(simp only[List.set_set];exact ce a (aa l)))) tV1)|exact CL rfl (CL (O1 I (by first|omega|(simp only[aF.ct2]at d;omega))) tV1)|refine CL ?_ ?_)
 repeat'(first|refine gE ?_|with_reducible refine Cc c ?_|refine CO rfl ?_ ?_)
 ·have n:i=x.length:=ω
  subst n;exact eE (by rw[yJ])
 rw[dG _ a kd]
 repeat'(first|exact tV1|exact rfl|refine CL ?_ ?_)
def EG(x:ar)(k:Int)(a:ar.sml x)(c:0<=k)(h1:k+(ar.ct2 x:Nat)<=1099511627776):zzB 37 false [.mut (some 2) (ar.enc .suf x),.vI k] [.mut (some 2) (ar.enc .suf (x.mk2 k)),.val none []] .one [I (k+(ar.ct2 x:Nat))]:=by
 have b:=a;unfold ar.ct2 at h1;refine fM 10 [(141,[1,0])] [] [(2,0),(0,0)] Tryz.func37 rfl (λu p=>?_)
 repeat'(first|refine gP ?_|refine CP (D2 x.K _ b ω ω) (.inl rfl) ?_|refine CO rfl ?_ ?_)
 ·exact eE (by unfold ar.ct2;omega)
 repeat'(first|exact tV1|exact rfl|refine CL ?_ ?_)
def xp(x:aP)(k:Int)(a:aP.sml x)(d:0<=k)(h1:k+(aP.ct2 x:Nat)<=1099511627776):zzB 10 false [.mut (some 26) (aP.enc .suf x),.vI k] [.mut (some 26) (aP.enc .suf (x.mk2 k)),.val none []] .one [I (k+(aP.ct2 x:Nat))]:=by
 obtain⟨b,c⟩:=a;unfold aP.ct2 at h1;refine fM 14 [(36,[1,0]),(37,[1,0])] [] [(2,0),(0,0)] Tryz.func10 rfl (λu p=>?_)
 repeat'(first|refine gP ?_|refine CP (MX x.W _ b ω ω) (.inl rfl) ?_|refine CP (EG x.b0 _ c ω ω) (.inl rfl) ?_|refine CO rfl ?_ ?_)
 ·exact eE (by unfold aP.ct2;omega)
 repeat'(first|exact tV1|exact rfl|refine CL ?_ ?_)
def D1(x:List aF)(k:Int)(e:ko x)(n:0<=k)(h1:k+(kO x:Nat)<=1099511627776):zzA 151 false [.val none (f6 .O (A8 x k)),.vI k] .one [I (k+(kO x:Nat))]:=by
 have o:x.length<=1048576:=e.1;have g:=Dp x k;refine fO 31 [] Tryz.func151 rfl ?_
 refine σP ?_
 refine CV (ι:=Nat) (λi=>[(0,b8 (f6 .O (A8 x k))),(1,fI (k+(mj x i:Nat))),(5,fN i)]) (λi=>i<=x.length) (λi=>x.length - i) 0 ?_ (I1 _) λi p=>?_
 ·rw[wt]
  repeat'(first|exact tV1|rfl|exact CL rfl (CL (O1 I ω) tV1)|refine CL ?_ ?_)
 by_cases c:i<x.length
 ·obtain⟨y,d⟩ : ∃y,x[i]? = some y:=⟨_,z4 c⟩
  have j:=BJ x k i y d;have a:=wd x i y d;have b:=DE x (i+1);rw[a]at b
  repeat'(first|refine gB ?_|refine Bf.N (λh=>absurd rfl h) (λh=>?_)|refine CG (pB y.U _ (e.2 y (t4 d)) ω (by simp only[aF.ct2]at b;omega)) ?_|refine CQ (i+1) ω ω ?_)
  repeat'(first|exact tV1|rfl|exact CL rfl (CL (O1 I (by first|omega|(simp only[aF.ct2]at a;omega))) tV1)|refine CL ?_ ?_)
 refine σB ?_
 have l:i=x.length:=ω
 subst l;exact eE (by rw[yJ])
def B5(x:ar)(k:Int)(a:ar.sml x)(c:0<=k)(h1:k+(ar.ct2 x:Nat)<=1099511627776):zzA 39 false [.val (some 2) (ar.enc .O (x.mk2 k)),.vI k] .one [I (k+(ar.ct2 x:Nat))]:=by
 have b:=a;unfold ar.ct2 at h1;refine fO 12 [] Tryz.func39 rfl ?_
 repeat'(first|refine gB ?_|refine CG (D1 x.K _ b ω ω) ?_)
 exact eE (by unfold ar.ct2;omega)
def Kz(x:aP)(k:Int)(a:aP.sml x)(d:0<=k)(h1:k+(aP.ct2 x:Nat)<=1099511627776):zzA 11 false [.val (some 26) (aP.enc .O (x.mk2 k)),.vI k] .one [I (k+(aP.ct2 x:Nat))]:=by
 obtain⟨b,c⟩:=a;unfold aP.ct2 at h1;refine fO 18 [] Tryz.func11 rfl ?_
 repeat'(first|refine gB ?_|refine CG (Ll x.W _ b ω ω) ?_|refine CG (B5 x.b0 _ c ω ω) ?_)
 exact eE (by unfold aP.ct2;omega)
def pOk(n:Int):Prop:=1<=n/\n<=32
def ZE(a:List Int):Prop:=a.length<=40/\∀x∈a,0<=x
instance (n:Int):Decidable (pOk n):=by unfold pOk;infer_instance
instance (rf:List Int):Decidable (ZE rf):=by unfold ZE;infer_instance
def VR(c:YR):Prop:=((pOk c.a0/\pOk c.V)/\ZE c.k)/\(1<=c.c2/\c.c2<=4)/\0<=c.b7/\c.b7<=1000
instance (c:YR):Decidable (VR c):=by unfold VR;infer_instance
set_option maxHeartbeats 2000000
def UG(x:dP)(a:dP.sml x):zzA 7 false [.val (some 5) (dP.enc .O x)] .agg (dP.enc .own x):=by
 refine fO 20 [] Tryz.func7 rfl ?_ (.inr (dP.enc_fr x))
 refine σP ?_
 rfl
def YG:∀(x:List (List aV)),(∀y∈x,y.length<=30)->dr x<=240*x.length
 | [],_=>I1 _
 | x::xs,h=>by
  have c:=YG xs λy a=>h y (IA _ a)
  have d:=h x (O3 ..);have b:=rV x;simp only[dr,jK,List.length_cons]at b |-;omega
structure RC(r:ar)(m t:Nat):Prop where
 len:r.K.length<=m
 cel:∀o∈r.K,o.U.length<=1048576
 cnt:kO r.K<=t
def Bi(a b:List aF):kO (a++b)=kO a+kO b:=by
 induction a with
 | nil=>simp[kO]
 | cons x xs c=>simp only[List.cons_append,kO,c];omega
def U3(xs:List aF)(i:Nat):kO (dele xs i)<=kO xs:=by
 unfold dele
 conv=>rhs;rw[<-List.take_append_drop i xs]
 rw[Bi,Bi];have:kO (xs.drop (i+1))<=kO (xs.drop i):=by
  rw[show xs.drop (i+1)=(xs.drop i).drop 1 by rw[List.drop_drop]];cases xs.drop i with
  | nil=>simp
  | cons y a=>simp only[List.drop_succ_cons,List.drop_zero,kO];omega
 omega
def MP:∀(xs:List aF)(i:Nat)(y:aF),(∀x,xs[i]? = some x->y.U.length<=x.U.length)->kO (xs.set i y)<=kO xs
 | [],_,_,_=>z5 _
 | x::xs,0,y,h=>by
  have:=h x rfl;simp only[List.set_cons_zero,kO,aF.ct2,eB];omega
 | x::xs,i+1,y,h=>by
  have:=MP xs i y (λz a=>h z (by simpa using a));simp only[List.set_cons_succ,kO];omega
variable{m t:Nat}{r:ar}
def RC.sml(h:RC r m t)(b:m<=1048576):ar.sml r:=⟨by have:=h.len;omega,λo a=>h.cel o a⟩
def RC.more{n u:Nat}(h:RC r m t)(a:m<=n)(b:t<=u):RC r n u:=⟨by have:=h.len;omega,h.cel,by have:=h.cnt;omega⟩
def RC.alloc(h:RC r m t)(n:Int):RC (i9 r n) (m+1) (t+1001):=by
 unfold i9;split
 ·refine⟨by have:=h.len;simp;omega,λo a=>?_,?_⟩
  ·rcases v5.1 a with a|a
   ·exact h.cel o a
   rw[z3.1 a];show(List.replicate n.toNat (0:Int)).length<=_;rw[O6];omega
  show kO (r.K++_)<=_;rw[Bi];have:=h.cnt;simp only[kO,aF.ct2,eB,O6];omega
 exact h.more ω ω
def RC.free(h:RC r m t)(id:Int):RC (kL r id) m t:=by
 unfold kL;split
 ·exact h
 have a:=gC r.K (pR r id).toNat;exact⟨I9 a.length_le h.len,λo b=>h.cel o (a.subset b),I9 (U3 _ _) h.cnt⟩
def RC.set{i:Nat}{x:aF}(h:RC r m t)(b:i<r.K.length)(c:x.U.length<=(nth r.K i).U.length):RC {r with K:=r.K.set i x} m t:=
 ⟨by simp only[C3];exact h.len,λo a=>by
   rcases CD a with a|rfl
   · exact h.cel o a
   exact I9 c (h.cel _ (ay b)),I9 (MP _ _ _ λz d=>by rw[au b]at d;cases d;exact c) h.cnt⟩
def RC.store(h:RC r m t)(id a v:Int):RC (ef r id a v) m t:=by
 unfold ef;split
 ·rename_i e
  refine h.set (fJ _ _ e.1).1 ?_;simp only[C3];exact z5 _
 exact h
def RC.trim(h:RC r m t)(id n:Int):RC (fQ r id n) m t:=by
 unfold fQ;split
 ·rename_i e
  refine h.set (fJ _ _ e.1).1 ?_;simp only[I3];exact Nat.min_le_right _ _
 exact h
variable{w:aP}
def Ys(b:bo w.W [])(a:dP){i:Nat}(c:i<w.W.K.length):bo (mY w a i).1.W []:=by
 unfold mY;split
 ·unfold uO
  split
  ·exact b
  split
  ·rename_i f
   unfold oW at f;exact(b.freeT c ω).1
  exact b
 split
 ·unfold qM
  split
  ·exact b
  rename_i l;split
  ·exact b
  split
  ·exact b
  rename_i n;exact(b.store (lI b (ay c) ω).1 ω).1
 unfold vd;split
 ·rename_i e
  obtain⟨-,g,h⟩:=e;obtain⟨j,k,o⟩:=fJ _ _ g;have d:=of_decide_eq_true k;exact(b.trimH c j (d.symm.trans (Int.mul_comm _ _)) h).1
 exact b
def NA(b:bo w.W [])(a:dP):bo (jv w.W a).1 []:=by
 unfold jv;split
 ·split
  ·rename_i e
   obtain⟨c,d⟩:=e;unfold oW at c;exact b.deliv (by rw[<-b.nc];omega) d
  exact b
 split
 ·exact b
 rename_i e;have e:=Classical.not_not.1 e;obtain⟨-,c⟩:=e;unfold oW at c;split
 ·exact(b.collect ω).1
 have f:a.p.toNat<w.W.Q.length:=ω
 exact(ov b f (z5 4)).1
def Yt(b:bo w.W [])(a:dP)(c:a.a6≠10):bo (nq w a).1.W []:=by
 unfold nq;split
 ·exact(Ud (t:=a.p) (size:=a.N) b).1
 split
 ·split
  ·exact b
  rename_i e;exact Ys b a (fJ _ _ (by unfold oY at e;omega)).1
 split
 ·exact NA b a
 split
 ·unfold vi
  split
  ·rename_i e
   exact(b.tick e.2.1.1 e.2.2).1
  exact b
 split
 ·unfold uS
  split
  ·exact b
  exact(Aj b).1
 split
 ·rename_i e;exact absurd e.1 c
 exact b
def Xn(b:bo w.W [])(a:dP)(c:a.a6≠10):rfs (nq w a).1.W=rfs w.W:=by
 unfold nq;split
 ·exact TS _ _ _
 split
 ·split
  ·rfl
  unfold mY;split
  ·unfold uO
   split
   ·rfl
   split
   ·exact Wv _ _ _
   rfl
  split
  ·unfold qM
   split
   ·rfl
   split
   ·rfl
   split<;>rfl
  unfold vd;split
  ·exact((ve _ _ _).2).trans (y8 _ _ _).2.2
  rfl
 split
 ·unfold jv
  split
  ·split<;>rfl
  split
  ·rfl
  split
  ·exact(gJ _ _ _).2.2.2.2.2.2.2
  exact Ho _ _ _
 split
 ·unfold vi
  split
  ·exact(ku _ _).2.2.2.2.2.2.2
  rfl
 split
 ·unfold uS
  split
  ·rfl
  show rfs (started w.W).1=_;unfold rfs;rw[(Aj b).2.1]
 split
 ·rename_i e;exact absurd e.1 c
 rfl
def ZC(h:RC w.b0 m t)(a:dP)(b:a.a6≠1):RC (nq w a).1.b0 m t:=by
 unfold nq;split
 ·rename_i e;exact absurd e b
 split
 ·split
  ·exact h
  unfold mY;split
  ·unfold uO
   split
   ·exact h
   split
   ·show RC (if _ then _ else _) m t
    split
    ·exact h.free _
    exact h
   exact h
  split
  ·unfold qM
   split
   ·exact h
   split
   ·exact h
   split
   ·exact h
   exact h.store _ _ _
  unfold vd;split
  ·exact h.trim _ _
  exact h
 split
 ·exact h
 split
 ·exact h
 split
 ·exact h
 split<;>exact h
def TL(b:bo w.W [])(d:ac.wf w.W)(n:ac.sml w.W)(a:dP):Fit (kx w a).1.W/\iK (kx w a).1.W.b:=by
 have f:kR w.W.G.k:=d.1.2.2;have c:aJ.sml w.W.b:=n.2.2.2.2.2.2.1;have h:(kx w a).1.W=(nq w a).1.W:=by
  unfold kx;split
  ·rename_i e;unfold nq;rw[CK e]
  rfl
 rw[h];by_cases i:a.a6=10
 ·have o:(nq w a).1.W=(mQ w.W a.N.toNat).1\/(nq w a).1.W=w.W:=by
   unfold nq;rw[CJ ω,CJ ω,CJ ω,CJ ω,CJ ω];split
   ·exact .inl rfl
   exact .inr rfl
  rcases o with e|e<;>rw[e]
  ·have g:=R3 b f c a.N.toNat
   exact⟨g.fit,by rw[g.mail];exact iK.of b.mail⟩
  exact⟨b.fit f c,iK.of b.mail⟩
 have j:=Yt b a i;have k:=Xn b a i;unfold rfs at k;have l:=iK.of j.mail;exact⟨j.fit (by rw[k];exact f) l.sml,l⟩
def m7(w:aP)(a:dP):aP × Int:=if dQ w.W then kx w a else(w,90)
def Xp(n:ac.sml w.W)(h:ac.wf w.W)(b:RC w.b0 m t)(j:m<=1048576)(p:dQ w.W=true->m<=1048575)(r:t<=4194304)(u:ac.cnt w.W<=8388608)(a:dP):aP.sml (m7 w a).1/\aP.ct2 (m7 w a).1<=40000000:=by
 have c:RC (m7 w a).1.b0 (m+1) (t+1001):=by
  unfold m7 kx;split
  ·split
   ·show RC (if _ then _ else _) _ _
    split
    ·exact b.alloc _
    exact b.more ω ω
   rename_i q;exact(ZC b a q).more ω ω
  exact b.more ω ω
 have A:=c.cnt;cases e:dQ w.W with
 | true=>
  have g:(m7 w a).1.W=(kx w a).1.W:=by unfold m7;rw[CK e]
  obtain⟨d,f⟩:=TL (bo.of e) h n a;rw[<-g]at d f;have B:=f.b4;have C:=f.i4;have D:=YG (m7 w a).1.W.b.T λy k=>by obtain⟨i,o,rfl⟩:=b9 k;exact f.bl i o
  have E:=XD (m:=30) (m7 w a).1.W.b.e λy k=>by obtain⟨i,o,rfl⟩:=b9 k;exact f.il i ω
  have F:=(show FT (m7 w a).1.W.b (m7 w a).1.W from⟨d.sml,d.wf,d.lens,rfl⟩).cnt (by unfold aJ.cnt;omega);have:=p e;exact⟨⟨d.sml,c.sml ω⟩,by unfold aP.ct2 ar.ct2;omega⟩
 | false=>
  have g:(m7 w a).1.W=w.W:=by unfold m7;rw[e];rfl
  have l:(m7 w a).1.b0=w.b0:=by unfold m7;rw[e];rfl
  exact⟨⟨by rw[g];exact n,by rw[l];exact b.sml j⟩,by unfold aP.ct2 ar.ct2;rw[g];omega⟩
def Yy(w:aP)(a:dP)(c:ac.sml w.W)(d:ac.wf w.W)(b:ar.sml w.b0):zzA 8 false [.val (some 26) (aP.enc .O w),.val (some 5) (dP.enc .O a)] (.tup [some 26,none]) (aP.enc .suf (m7 w a).1++[I (m7 w a).2]):=by
 unfold m7;cases e:dQ w.W with
 | true=>
  rw[CK rfl];exact XI w a (bo.of e) c d b
 | false=>
  rw[CJ (by simp)];have h:=(ue w c b).sf (tC w);have g:=cR w.W c;rw[eR,e]at g;refine fP 148 [(25,[1,0,0])] [(15,266,[56,57,58,59,60,61,62,63,65,66,0,1,2,3,4,5,6,7,8,9,10,11,12])] Tryz.func8 rfl ?_ (.inr (yh _ _))
  refine σP ?_
  rfl
def X6(w:aP)(a:dP)(i:ac.sml w.W)(b:ac.wf w.W)(c:ar.sml w.b0)(j:aP.sml (m7 w a).1):zzA 5 false [.val (some 26) (aP.enc .O w),.val (some 5) (dP.enc .O a)] (.tup [some 26,none]) (aP.enc .suf (m7 w a).1++[I (m7 w a).2]):=by
 have k:=xF w i c;have g:=zD w.W i b;have h:=xF (m7 w a).1 j.1 j.2;refine ah.sf (rcs:=aP.enc .own (m7 w a).1++[I (m7 w a).2]) ?_ ((tC _).append (.refl _));unfold m7 at h |-;cases e:dQ w.W with
 | true=>
  rw[e]at g h;rw[CK rfl]at h |-;have l:=XR w a (bo.of e) i b c;generalize kx w a=d at *;refine fP 20 [(16,[2,0]),(2000004,[6,21,25])] [] Tryz.func5 rfl ?_ (.inr (aE (aP.enc_fr _) ⟨tV1,tV1⟩))
  repeat'(first|refine gP ?_|refine Nw.mk rfl (List.cons.inj (eI w.W.a2.d.U)).1 rfl ?_|refine Nw.mk rfl (Rr w.b0.K) rfl ?_|refine CN (h) ⟨⟨rfl,Xy _⟩,tV1⟩ ?_)
  rfl
 | false=>
  rw[e]at g;rw[CJ (by simp)];refine fO 20 [] Tryz.func5 rfl ?_ (.inr (aE (aP.enc_fr _) ⟨tV1,tV1⟩))
  refine σP ?_
  rfl
def HB:∀(x:List aF),kO x<=x.length+ek x
 | []=>z5 _
 | x::xs=>by
  have:=HB xs;simp only[kO,ek,aF.ct2,aF.sz,eB,szIntS,List.length_cons];omega
def VZ{h:ac}(a:dQ h=true):1<=ac.sz h:=by
 have b:=(bk.1 (JR a)).1;unfold ac.sz af.sz aH.sz aO.sz szIntSS;omega
def T4(x:aP)(a:aP.sml x):zzA 6 false [.val (some 26) (aP.enc .O x)] .agg (aP.enc .suf x):=(N8 x a).sf (tC x)
def XT(x:dP):zzA 7 false [.val (some 5) (dP.enc .O x)] .agg (dP.enc .O x):=UG x tV1
def DoAct_law(w:aP)(a:dP)(g:aP.wf w)(_:dP.wf a):zzA 3 false [.val (some 26) (aP.enc .O w),.val (some 5) (dP.enc .O a)] .one [B true]:=by
 by_cases t:(aP.sz w:Int)<=1048576
 ·have c:=aP.sml_of (x:=w) ω
  have j:ac.sz w.W+(w.b0.K.length+ek w.b0.K)<=1048576:=by
   have:aP.sz w=ac.sz w.W+(w.b0.K.length+ek w.b0.K):=rfl;omega
  have k:RC w.b0 w.b0.K.length (w.b0.K.length+ek w.b0.K):=⟨z5 _,λo l=>c.2.2 o l,HB _⟩
  have u:=ac.cnt_le w.W;have n:=HB w.b0.K;obtain⟨ds,p⟩:=Xp c.1 g.1 k ω (λe=>by have:=VZ e;omega) ω ω a;have r:aP.ct2 w<=40000000:=by unfold aP.ct2 ar.ct2;omega
  have h:=X6 w a c.1 g.1 c.2 ds;have i:=Yy w a c.1 g.1 c.2;generalize m7 w a=d at *;obtain⟨d,q⟩:=d;simp only at h i ds p;refine fP 104 [(10,[1,0])] [(5,265,[22,23,24,25,26,21,27,28,6,0,1,2,3,4,5,6,7,8,9,1007,10]),(7,264,[32,33,34,35,31,36,37,9,0,1,2,3,4,5,6,7,8,1006,9]),(10,3,[47,48,49]),(24,265,[80,81,82,83,84,79,85,86,14,0,1,2,3,4,5,6,7,8,9,1007,10])] Tryz.func3 rfl ?_
  repeat'(first|refine gE ?_|with_reducible (first|refine Bf.D (λb=>?_) (λb=>absurd rfl b)|refine Bf.N (λb=>absurd rfl b) (λb=>?_))|refine Cb (EF w 1048576 ω ω g) (λb=>absurd b ω) (λb=>?_)|refine CG (T4 w c) ?_|refine CG (XT a) ?_|refine CN (h) ⟨⟨rfl,aP.enc_fzS w⟩,⟨rfl,rfl⟩,tV1⟩ ?_|refine CN (i) ⟨⟨rfl,aP.enc_fzS w⟩,⟨rfl,rfl⟩,tV1⟩ ?_|refine CN (BF d d ds) ⟨⟨rfl,aP.enc_fzS d⟩,⟨rfl,aP.enc_fzS d⟩,tV1⟩ ?_|refine CN (BF w w c) ⟨⟨rfl,aP.enc_fzS w⟩,⟨rfl,aP.enc_fzS w⟩,tV1⟩ ?_|refine CP (xp w 1 c ω ω) (.inl rfl) ?_|refine CP (xp d 1 ds ω ω) (.inl rfl) ?_|refine CN (Kz d 1 ds ω ω) ⟨⟨rfl,aP.enc_fzS (d.mk2 1)⟩,⟨rfl,rfl⟩,tV1⟩ ?_)
  all_goals rfl
 refine fO 104 [(5,265,[22,23,24,25,26,21,27,28,6,0,1,2,3,4,5,6,7,8,9,1007,10]),(7,264,[32,33,34,35,31,36,37,9,0,1,2,3,4,5,6,7,8,1006,9]),(10,3,[47,48,49]),(24,265,[80,81,82,83,84,79,85,86,14,0,1,2,3,4,5,6,7,8,9,1007,10])] Tryz.func3 rfl ?_
 repeat'(first|refine gE ?_|refine Cb (EF w 1048576 ω ω g) (λb=>?_) (λb=>absurd b ω))
 rfl
open Go.RowKit Go.ChangeShapes Go.WideShapes Go.Deep
def ALL(w:World):am:=λb _=>b<w.heap.size
def qB{H:Type}(e:TypeId × Value->H)(P:Program)(w:World)(t n:Nat){α:Type}(enc:α->List C)(c:α->Prop):Prop:=
 ∀(fuel:Nat)(b:List Value)(x:DataW H × List MemPlace),DataW.trod e P w 0 (λ_=>true) true fuel t b=some x->b.length=n/\∃a,c a/\(enc a).length=n/\cD w (ALL w) NO (enc a) (λj=>b.getD j undef)
section
variable{H:Type}{e:TypeId × Value->H}{P:Program}{w:World}
variable{u:Nat->Value}
def AW{S F:am}{c:C}(h:dw w S F c (u 0)):cD w S F [c] u:=
 ⟨λ_=>F,λj e a=>by cases j with
   | zero=>simp at a;subst a;exact h
   | succ j=>simp at a,λ_ _ _ _ h=>h,λj f a b d=>by simp at a b;omega⟩
variable{t:Nat}
def Z6(b:P.underlying t=some (.int .i64)):qB e P w t 1 (rI .O) nM:=by
 intro fuel c x h;obtain⟨n,rfl,-,a⟩:=DataW.trod_int b h;refine⟨rfl,n,?_,rfl,AW (.v _ _ rfl)⟩;unfold nM;simp only[Lit.wf,I0,C0]at a;exact a
def X8(a:P.underlying t=some .bool):qB e P w t 1 (rB .O) wfB:=by
 intro fuel c x h;obtain⟨b,rfl,-⟩:=DataW.trod_bool a h;exact⟨rfl,b,tV1,rfl,AW (.v _ _ rfl)⟩
variable{α:Type}
def pick{β:Type}(n:Nat){Q:Nat->β->Prop}(h:∀i,i<n->∃b,Q i b):∃l:List β,l.length=n/\∀i b,l[i]? = some b->Q i b:=by
 induction n with
 | zero=>exact⟨[],rfl,λi b h=>by simp at h⟩
 | succ n c=>
  obtain⟨l,d,e⟩:=c λi a=>h i ω
  obtain⟨b,f⟩:=h n ω;refine⟨l++[b],by simp[d],λi g a=>?_⟩;by_cases j:i<n
  ·rw[t9 ω]at a;exact e i g a
  rw[v9 ω]at a;have:i - l.length=0:=by
   have:=(C4.1 a).1;simp at this;omega
  rw[this]at a;simp at a;subst a;rw[show i=n by omega];exact f
variable{n:Nat}
theorem ic{T:Nat}{enc:α->List C}{U:α->Prop}(V:qB e P w T n enc U)(ht:P.underlying t=some (.slice T))(hn:P.cellsOf T=n)(p:0<n) :
  qB e P w t 1 (λxs:List α=>[.s .O (xs.map enc)]) (λxs=>xs.length<=9223372036854775807/\∀y∈xs,U y):=by
 intro fuel cs x h;rcases open_slice ht h with⟨rfl,-⟩|⟨k,len,cap,m,n',D,Pl,rfl,-,hl,hm,K,-,u⟩
 ·exact⟨rfl,[],⟨by simp,by simp⟩,rfl,AW (.nil _ _ _ tV1)⟩
 simp only[if_true]at K;subst K;have L:0<m->k.spot=none:=λW=>by
  obtain⟨E,M,N⟩:=u 0 W;rw[hn]at M;obtain⟨_,X,F⟩:=World.cells?_some M;have:=F 0 p;rw[z4 ω]at this;have:=World.cell?_spot this;simpa[Addr.add] using this
 have key:∀i,i<len->∃a,U a/\(enc a).length=n/\(∀d,d<n->∃z,cel w k.block (k.off+(i*n+d))=some z)/\k.spot=none/\cD w (ALL w) NO (enc a) (λd=>(cel w k.block (k.off+(i*n+d))).getD undef):=λi hil=>by
  have g:=L ω;obtain⟨E,M,N⟩:=u i ω;rw[hn]at M;obtain⟨h1,a,h3,h4,h5⟩:=V _ _ _ N;obtain⟨_,X,F⟩:=World.cells?_some M;have O:∀d,k.add d = ⟨k.block,k.off+d,none⟩:=λd=>by
   obtain⟨b,o,sp⟩:=k;simp only at g;subst g;unfold Addr.add;split<;>simp_all
  have A:∀d,d<n->cel w k.block (k.off+(i*n+d))=E[d]?:=λd J=>by
   have:=F d J;rw[Go.Deep.add_add,O]at this;exact this
  refine⟨a,h3,h4,λd J=>⟨_,by rw[A d J,z4 ω]⟩,g,h5.congr λd J=>?_⟩;show(cel w k.block (k.off+(i*n+d))).getD undef=E.getD d undef;rw[A d ω,List.getD]
 obtain⟨l,Q,B⟩:=pick len key;refine⟨rfl,l,⟨by simp only[maxLen]at hm;omega,λy R=>?_⟩,rfl,AW ?_⟩
 ·obtain⟨i,G⟩:=List.mem_iff_getElem?.1 R
  exact(B i y G).1
 show dw w (ALL w) NO (.s .O (l.map enc)) (.slice (some k) len m);by_cases h0:len=0
 ·subst h0
  have:l=[]:=CF Q;subst this;by_cases Y:m=0
  ·subst Y;exact .nil _ _ _ tV1
  have g:=L ω;obtain⟨b,o,sp⟩:=k;simp only at g;subst g;exact .O _ b o n 0 m [] (λ_=>undef) rfl (λr Z=>by simp at Z) hl (λq hq=>by simp at hq) (λi j r c u=>by simp at u)
 obtain⟨y0,hy0⟩ : ∃y,l[0]? = some y:=⟨_,z4 ω⟩
 have g:=(B 0 y0 hy0).2.2.2.1;obtain⟨b,o,sp⟩:=k;simp only at g;subst g;refine .O _ b o n len m (l.map enc) (λq=>(cel w b (o+q)).getD undef) (by simpa using Q) (λr Z=>?_) hl (λq hq=>?_) (λi j r c u hj=>?_)
 ·obtain⟨y,R,rfl⟩:=O8.1 Z
  obtain⟨i,G⟩:=List.mem_iff_getElem?.1 R;exact(B i y G).2.1
 ·have hqd:q / n<len:=(Nat.div_lt_iff_lt_mul p).2 hq
  obtain⟨y,R⟩ : ∃y,l[q / n]? = some y:=⟨_,z4 ω⟩
  obtain⟨z,S⟩:=(B _ y R).2.2.1 (q % n) (Nat.mod_lt _ p);have J:q / n*n+q % n=q:=by rw[Nat.mul_comm];exact Nat.div_add_mod q n
  rw[J]at S;exact⟨ZG S,by simp only at S |-;rw[S];rfl⟩
 rw[C5]at u;cases H:l[i]? with
 | none=>rw[H]at u;cases u
 | some y=>
  rw[H]at u;simp only[CA,C2]at u;subst u;obtain⟨f,h1,h2,-⟩:=(B i y H).2.2.2.2;have hjl:=(C4.1 hj).1;exact(h1 j c hj).mono (λ_ _ h=>h) (h2 j hjl)
variable{cs:List Value}
def bp{fs:Array Field}{fuel:Nat}{x:DataW H × List MemPlace}(l:P.underlying t=some (.struct fs))(h:DataW.trod e P w 0 (λ_=>true) true fuel t cs=some x)(i:Nat)(f:Field)(d:fs[i]? = some f){enc:α->List C}{g:α->Prop}(o:qB e P w f.type n enc g)(p:P.cellsOf f.type=n):∃a,g a/\(enc a).length=n/\cD w (ALL w) NO (enc a) (λj=>cs.getD (f.offset+j) undef):=by
 obtain⟨B,D,q,E,k,r,b⟩:=DataW.trod_struct l h;have c:=b i f d;have F:=(C6.1 d).1;rw[z4 ω]at c;rw[p]at c;obtain⟨G,a,u,y,A⟩:=o _ _ _ c;refine⟨a,u,y,A.congr λj J=>?_⟩;simp only[List.getD];rw[List.getElem?_take_of_lt ω,List.getElem?_drop]
def cx{a b:List C}{o:Nat}(h1:cD w (ALL w) NO a (λj=>cs.getD (o+j) undef))(h2:cD w (ALL w) NO b (λj=>cs.getD (o+a.length+j) undef)):cD w (ALL w) NO (a++b) (λj=>cs.getD (o+j) undef):=by
 refine((Bq h1 h2 λ_ _ h=>h.elim).mono (λ_ _ h=>h) (λ_ _ h=>h.elim id id)).congr λj d=>?_
 by_cases c:j<a.length
 ·rw[CK c]
 rw[CJ c];show cs.getD (o+j) undef=cs.getD (o+a.length+(j - a.length)) undef
 congr 1;omega
def valOk_agg{S:am}{cs:Array Value}{xs:List C}(h1:cs.toList.length=n)(h2:xs.length=n)(a:cD w S NO xs (λj=>cs.toList.getD j undef)):bD w S NO (some n) xs (.agg cs):=by
 refine⟨h2,_,?_,a⟩;have:=rM cs;rw[show cs.size=n by simpa using h1]at this;exact this
def row_val{S F:am}{x:Value}(h:cD w S F [.v x] u):u 0=x:=by
 obtain⟨f,a,-⟩:=h;have:=a 0 _ rfl;cases this
 rfl
end
set_option maxHeartbeats 1000000
section
variable{H:Type}{e:TypeId × Value->H}{w:World}
def cW:qB e Tryz.prog w 3 1 (rI .O) nM:=Z6 Tryz.underlying3
def QE:qB e Tryz.prog w 4 1 (rB .O) wfB:=X8 Tryz.underlying4
def Bc:qB e Tryz.prog w 31 1 (aI .O) kR:=ic cW Tryz.underlying31 (by kernel_rfl) qs
def EL:qB e Tryz.prog w 22 1 (fk .O) yg:=ic Bc Tryz.underlying22 (by kernel_rfl) qs
def VK:qB e Tryz.prog w 23 1 (iq .O) J8:=ic QE Tryz.underlying23 (by kernel_rfl) qs
def Pw:qB e Tryz.prog w 25 2 (aO.enc .O) aO.wf:=by
 intro fuel c x h;obtain⟨k,l,-,-,a,-⟩:=DataW.trod_struct Tryz.underlying25 h;obtain⟨d,w0,n,f⟩:=bp Tryz.underlying25 h 0 _ rfl EL (by kernel_rfl);obtain⟨g,w1,o,i⟩:=bp Tryz.underlying25 h 1 _ rfl VK (by kernel_rfl);have b:=(cx f i)
 exact⟨a.trans (by kernel_rfl),⟨d,g⟩,⟨w0,w1⟩,rfl,b.congr λj _=>by show c.getD j undef=c.getD (0+j) undef;rw[CE]⟩
def Ta:qB e Tryz.prog w 425 2 (aS.enc .O) aS.wf:=by
 intro fuel c x h;obtain⟨k,l,-,-,a,-⟩:=DataW.trod_struct Tryz.underlying425 h;obtain⟨d,w0,n,f⟩:=bp Tryz.underlying425 h 0 _ rfl cW (by kernel_rfl);obtain⟨g,w1,o,i⟩:=bp Tryz.underlying425 h 1 _ rfl cW (by kernel_rfl);have b:=(cx f i)
 exact⟨a.trans (by kernel_rfl),⟨d,g⟩,⟨w0,w1⟩,rfl,b.congr λj _=>by show c.getD j undef=c.getD (0+j) undef;rw[CE]⟩
def NU:qB e Tryz.prog w 26 1 (fX .O) zc:=ic Ta Tryz.underlying26 (by kernel_rfl) qs
def Up:qB e Tryz.prog w 28 1 (aL.enc .O) aL.wf:=by
 intro fuel c x h;obtain⟨g,i,-,-,a,-⟩:=DataW.trod_struct Tryz.underlying28 h;obtain⟨d,w0,k,f⟩:=bp Tryz.underlying28 h 0 _ rfl NU (by kernel_rfl);have b:=f;exact⟨a.trans (by kernel_rfl),⟨d⟩,w0,rfl,b.congr λj _=>by show c.getD j undef=c.getD (0+j) undef;rw[CE]⟩
def M6:qB e Tryz.prog w 30 3 (aH.enc .O) aH.wf:=by
 intro fuel c x h;obtain⟨k,l,-,-,a,-⟩:=DataW.trod_struct Tryz.underlying30 h;obtain⟨d,w0,n,f⟩:=bp Tryz.underlying30 h 0 _ rfl Pw (by kernel_rfl);obtain⟨g,w1,o,i⟩:=bp Tryz.underlying30 h 1 _ rfl Up (by kernel_rfl);have b:=(cx f i)
 exact⟨a.trans (by kernel_rfl),⟨d,g⟩,⟨w0,w1⟩,rfl,b.congr λj _=>by show c.getD j undef=c.getD (0+j) undef;rw[CE]⟩
def Qb:qB e Tryz.prog w 33 5 (af.enc .O) af.wf:=by
 intro fuel c x h;obtain⟨o,p,-,-,a,-⟩:=DataW.trod_struct Tryz.underlying33 h;obtain⟨d,w0,q,f⟩:=bp Tryz.underlying33 h 0 _ rfl M6 (by kernel_rfl);obtain⟨g,w1,r,i⟩:=bp Tryz.underlying33 h 1 _ rfl cW (by kernel_rfl);obtain⟨k,l,u,n⟩:=bp Tryz.underlying33 h 2 _ rfl Bc (by kernel_rfl);have b:=(cx f (cx i n))
 exact⟨a.trans (by kernel_rfl),⟨d,g,k⟩,⟨w0,w1,l⟩,rfl,b.congr λj _=>by show c.getD j undef=c.getD (0+j) undef;rw[CE]⟩
def Tr:qB e Tryz.prog w 271 2 (aD.enc .O) aD.wf:=by
 intro fuel c x h;obtain⟨k,l,-,-,a,-⟩:=DataW.trod_struct Tryz.underlying271 h;obtain⟨d,w0,n,f⟩:=bp Tryz.underlying271 h 0 _ rfl cW (by kernel_rfl);obtain⟨g,w1,o,i⟩:=bp Tryz.underlying271 h 1 _ rfl cW (by kernel_rfl);have b:=(cx f i)
 exact⟨a.trans (by kernel_rfl),⟨d,g⟩,⟨w0,w1⟩,rfl,b.congr λj _=>by show c.getD j undef=c.getD (0+j) undef;rw[CE]⟩
def Pr:qB e Tryz.prog w 34 1 (bm .O) yX:=ic Tr Tryz.underlying34 (by kernel_rfl) qs
def UN:qB e Tryz.prog w 273 3 (aC.enc .O) aC.wf:=by
 intro fuel c x h;obtain⟨o,p,-,-,a,-⟩:=DataW.trod_struct Tryz.underlying273 h;obtain⟨d,w0,q,f⟩:=bp Tryz.underlying273 h 0 _ rfl cW (by kernel_rfl);obtain⟨g,w1,r,i⟩:=bp Tryz.underlying273 h 1 _ rfl cW (by kernel_rfl);obtain⟨k,l,u,n⟩:=bp Tryz.underlying273 h 2 _ rfl cW (by kernel_rfl);have b:=(cx f (cx i n))
 exact⟨a.trans (by kernel_rfl),⟨d,g,k⟩,⟨w0,w1,l⟩,rfl,b.congr λj _=>by show c.getD j undef=c.getD (0+j) undef;rw[CE]⟩
def RO:qB e Tryz.prog w 35 1 (bH .O) D4:=ic UN Tryz.underlying35 (by kernel_rfl) qs
def Tb:qB e Tryz.prog w 275 3 (aA.enc .O) aA.wf:=by
 intro fuel c x h;obtain⟨o,p,-,-,a,-⟩:=DataW.trod_struct Tryz.underlying275 h;obtain⟨d,w0,q,f⟩:=bp Tryz.underlying275 h 0 _ rfl cW (by kernel_rfl);obtain⟨g,w1,r,i⟩:=bp Tryz.underlying275 h 1 _ rfl cW (by kernel_rfl);obtain⟨k,l,u,n⟩:=bp Tryz.underlying275 h 2 _ rfl cW (by kernel_rfl);have b:=(cx f (cx i n))
 exact⟨a.trans (by kernel_rfl),⟨d,g,k⟩,⟨w0,w1,l⟩,rfl,b.congr λj _=>by show c.getD j undef=c.getD (0+j) undef;rw[CE]⟩
def P3:qB e Tryz.prog w 36 1 (bG .O) zm:=ic Tb Tryz.underlying36 (by kernel_rfl) qs
def XL:qB e Tryz.prog w 277 4 (aW.enc .O) aW.wf:=by
 intro fuel c x h;obtain⟨r,u,-,-,a,-⟩:=DataW.trod_struct Tryz.underlying277 h;obtain⟨d,w0,y,f⟩:=bp Tryz.underlying277 h 0 _ rfl cW (by kernel_rfl);obtain⟨g,w1,B,i⟩:=bp Tryz.underlying277 h 1 _ rfl cW (by kernel_rfl);obtain⟨k,l,C,n⟩:=bp Tryz.underlying277 h 2 _ rfl cW (by kernel_rfl);obtain⟨o,p,D,q⟩:=bp Tryz.underlying277 h 3 _ rfl cW (by kernel_rfl);have b:=(cx f (cx i (cx n q)))
 exact⟨a.trans (by kernel_rfl),⟨d,g,k,o⟩,⟨w0,w1,l,p⟩,rfl,b.congr λj _=>by show c.getD j undef=c.getD (0+j) undef;rw[CE]⟩
def W9:qB e Tryz.prog w 37 1 (gn .O) Jo:=ic XL Tryz.underlying37 (by kernel_rfl) qs
def Ue:qB e Tryz.prog w 227 1 (aB.enc .O) aB.wf:=by
 intro fuel c x h;obtain⟨g,i,-,-,a,-⟩:=DataW.trod_struct Tryz.underlying227 h;obtain⟨d,w0,k,f⟩:=bp Tryz.underlying227 h 0 _ rfl EL (by kernel_rfl);have b:=f;exact⟨a.trans (by kernel_rfl),⟨d⟩,w0,rfl,b.congr λj _=>by show c.getD j undef=c.getD (0+j) undef;rw[CE]⟩
def Ph:qB e Tryz.prog w 38 1 (er .O) yY:=ic Ue Tryz.underlying38 (by kernel_rfl) qs
def V3:qB e Tryz.prog w 408 2 (aV.enc .O) aV.wf:=by
 intro fuel c x h;obtain⟨k,l,-,-,a,-⟩:=DataW.trod_struct Tryz.underlying408 h;obtain⟨d,w0,n,f⟩:=bp Tryz.underlying408 h 0 _ rfl cW (by kernel_rfl);obtain⟨g,w1,o,i⟩:=bp Tryz.underlying408 h 1 _ rfl cW (by kernel_rfl);have b:=(cx f i)
 exact⟨a.trans (by kernel_rfl),⟨d,g⟩,⟨w0,w1⟩,rfl,b.congr λj _=>by show c.getD j undef=c.getD (0+j) undef;rw[CE]⟩
def T3:qB e Tryz.prog w 344 1 (bf .O) EB:=ic V3 Tryz.underlying344 (by kernel_rfl) qs
def Pb:qB e Tryz.prog w 39 1 (fw .O) y9:=ic T3 Tryz.underlying39 (by kernel_rfl) qs
def UU:qB e Tryz.prog w 41 2 (aJ.enc .O) aJ.wf:=by
 intro fuel c x h;obtain⟨k,l,-,-,a,-⟩:=DataW.trod_struct Tryz.underlying41 h;obtain⟨d,w0,n,f⟩:=bp Tryz.underlying41 h 0 _ rfl Pb (by kernel_rfl);obtain⟨g,w1,o,i⟩:=bp Tryz.underlying41 h 1 _ rfl EL (by kernel_rfl);have b:=(cx f i)
 exact⟨a.trans (by kernel_rfl),⟨d,g⟩,⟨w0,w1⟩,rfl,b.congr λj _=>by show c.getD j undef=c.getD (0+j) undef;rw[CE]⟩
def TM:qB e Tryz.prog w 367 3 (aK.enc .O) aK.wf:=by
 intro fuel c x h;obtain⟨o,p,-,-,a,-⟩:=DataW.trod_struct Tryz.underlying367 h;obtain⟨d,w0,q,f⟩:=bp Tryz.underlying367 h 0 _ rfl cW (by kernel_rfl);obtain⟨g,w1,r,i⟩:=bp Tryz.underlying367 h 1 _ rfl cW (by kernel_rfl);obtain⟨k,l,u,n⟩:=bp Tryz.underlying367 h 2 _ rfl cW (by kernel_rfl);have b:=(cx f (cx i n))
 exact⟨a.trans (by kernel_rfl),⟨d,g,k⟩,⟨w0,w1,l⟩,rfl,b.congr λj _=>by show c.getD j undef=c.getD (0+j) undef;rw[CE]⟩
def Pm:qB e Tryz.prog w 42 1 (bJ .O) yp:=ic TM Tryz.underlying42 (by kernel_rfl) qs
def Wp:qB e Tryz.prog w 44 2 (aY.enc .O) aY.wf:=by
 intro fuel c x h;obtain⟨k,l,-,-,a,-⟩:=DataW.trod_struct Tryz.underlying44 h;obtain⟨d,w0,n,f⟩:=bp Tryz.underlying44 h 0 _ rfl cW (by kernel_rfl);obtain⟨g,w1,o,i⟩:=bp Tryz.underlying44 h 1 _ rfl Pm (by kernel_rfl);have b:=(cx f i)
 exact⟨a.trans (by kernel_rfl),⟨d,g⟩,⟨w0,w1⟩,rfl,b.congr λj _=>by show c.getD j undef=c.getD (0+j) undef;rw[CE]⟩
def Wx:qB e Tryz.prog w 46 3 (bn.enc .O) bn.wf:=by
 intro fuel c x h;obtain⟨o,p,-,-,a,-⟩:=DataW.trod_struct Tryz.underlying46 h;obtain⟨d,w0,q,f⟩:=bp Tryz.underlying46 h 0 _ rfl cW (by kernel_rfl);obtain⟨g,w1,r,i⟩:=bp Tryz.underlying46 h 1 _ rfl cW (by kernel_rfl);obtain⟨k,l,u,n⟩:=bp Tryz.underlying46 h 2 _ rfl Bc (by kernel_rfl);have b:=(cx f (cx i n))
 exact⟨a.trans (by kernel_rfl),⟨d,g,k⟩,⟨w0,w1,l⟩,rfl,b.congr λj _=>by show c.getD j undef=c.getD (0+j) undef;rw[CE]⟩
def Xg:qB e Tryz.prog w 48 5 (bz.enc .O) bz.wf:=by
 intro fuel c x h;obtain⟨o,p,-,-,a,-⟩:=DataW.trod_struct Tryz.underlying48 h;obtain⟨d,w0,q,f⟩:=bp Tryz.underlying48 h 0 _ rfl Wx (by kernel_rfl);obtain⟨g,w1,r,i⟩:=bp Tryz.underlying48 h 1 _ rfl cW (by kernel_rfl);obtain⟨k,l,u,n⟩:=bp Tryz.underlying48 h 2 _ rfl cW (by kernel_rfl);have b:=(cx f (cx i n))
 exact⟨a.trans (by kernel_rfl),⟨d,g,k⟩,⟨w0,w1,l⟩,rfl,b.congr λj _=>by show c.getD j undef=c.getD (0+j) undef;rw[CE]⟩
def Vw:qB e Tryz.prog w 50 24 (ac.enc .O) ac.wf:=by
 intro fuel c x h;obtain⟨R,S,-,-,a,-⟩:=DataW.trod_struct Tryz.underlying50 h;obtain⟨d,w0,T,f⟩:=bp Tryz.underlying50 h 0 _ rfl Qb (by kernel_rfl);obtain⟨g,w1,U,i⟩:=bp Tryz.underlying50 h 1 _ rfl Pr (by kernel_rfl);obtain⟨k,l,V,n⟩:=bp Tryz.underlying50 h 2 _ rfl RO (by kernel_rfl);obtain⟨o,p,W,q⟩:=bp Tryz.underlying50 h 3 _ rfl P3 (by kernel_rfl);obtain⟨r,u,X,y⟩:=bp Tryz.underlying50 h 4 _ rfl W9 (by kernel_rfl);obtain⟨B,C,Y,D⟩:=bp Tryz.underlying50 h 5 _ rfl Ph (by kernel_rfl);obtain⟨E,F,Z,G⟩:=bp Tryz.underlying50 h 6 _ rfl UU (by kernel_rfl);obtain⟨H,J,l7,K⟩:=bp Tryz.underlying50 h 7 _ rfl Wp (by kernel_rfl);obtain⟨L,M,l8,N⟩:=bp Tryz.underlying50 h 8 _ rfl cW (by kernel_rfl);obtain⟨O,P,l9,Q⟩:=bp Tryz.underlying50 h 9 _ rfl cW (by kernel_rfl);obtain⟨a10,w10,l10,r10⟩:=bp Tryz.underlying50 h 10 _ rfl cW (by kernel_rfl);obtain⟨a11,w11,l11,r11⟩:=bp Tryz.underlying50 h 11 _ rfl cW (by kernel_rfl);obtain⟨a12,w12,l12,r12⟩:=bp Tryz.underlying50 h 12 _ rfl QE (by kernel_rfl);obtain⟨a13,w13,l13,r13⟩:=bp Tryz.underlying50 h 13 _ rfl Xg (by kernel_rfl);have b:=(cx f (cx i (cx n (cx q (cx y (cx D (cx G (cx K (cx N (cx Q (cx r10 (cx r11 (cx r12 r13)))))))))))))
 exact⟨a.trans (by kernel_rfl),⟨d,g,k,o,r,B,E,H,L,O,a10,a11,a12,a13⟩,⟨w0,w1,l,p,u,C,F,J,M,P,w10,w11,w12,w13⟩,rfl,b.congr λj _=>by show c.getD j undef=c.getD (0+j) undef;rw[CE]⟩
end
set_option maxHeartbeats 1000000
section
variable{H:Type}{e:TypeId × Value->H}{w:World}
def PE:qB e Tryz.prog w 233 2 (aF.enc .O) aF.wf:=by
 intro fuel c x h;obtain⟨k,l,-,-,a,-⟩:=DataW.trod_struct Tryz.underlying233 h;obtain⟨d,w0,n,f⟩:=bp Tryz.underlying233 h 0 _ rfl cW (by kernel_rfl);obtain⟨g,w1,o,i⟩:=bp Tryz.underlying233 h 1 _ rfl Bc (by kernel_rfl);have b:=(cx f i)
 exact⟨a.trans (by kernel_rfl),⟨d,g⟩,⟨w0,w1⟩,rfl,b.congr λj _=>by show c.getD j undef=c.getD (0+j) undef;rw[CE]⟩
def KV:qB e Tryz.prog w 51 1 (f6 .O) vW:=ic PE Tryz.underlying51 (by kernel_rfl) qs
def Mb:qB e Tryz.prog w 53 2 (ar.enc .O) ar.wf:=by
 intro fuel c x h;obtain⟨k,l,-,-,a,-⟩:=DataW.trod_struct Tryz.underlying53 h;obtain⟨d,w0,n,f⟩:=bp Tryz.underlying53 h 0 _ rfl cW (by kernel_rfl);obtain⟨g,w1,o,i⟩:=bp Tryz.underlying53 h 1 _ rfl KV (by kernel_rfl);have b:=(cx f i)
 exact⟨a.trans (by kernel_rfl),⟨d,g⟩,⟨w0,w1⟩,rfl,b.congr λj _=>by show c.getD j undef=c.getD (0+j) undef;rw[CE]⟩
def op_DWorld:qB e Tryz.prog w 55 26 (aP.enc .O) aP.wf:=by
 intro fuel c x h;obtain⟨k,l,-,-,a,-⟩:=DataW.trod_struct Tryz.underlying55 h;obtain⟨d,w0,n,f⟩:=bp Tryz.underlying55 h 0 _ rfl Vw (by kernel_rfl);obtain⟨g,w1,o,i⟩:=bp Tryz.underlying55 h 1 _ rfl Mb (by kernel_rfl);have b:=(cx f i)
 exact⟨a.trans (by kernel_rfl),⟨d,g⟩,⟨w0,w1⟩,rfl,b.congr λj _=>by show c.getD j undef=c.getD (0+j) undef;rw[CE]⟩
end
set_option maxHeartbeats 1000000
section
variable{H:Type}{e:TypeId × Value->H}{w:World}
def op_DAct:qB e Tryz.prog w 57 5 (dP.enc .O) dP.wf:=by
 intro fuel c x h;obtain⟨B,C,-,-,a,-⟩:=DataW.trod_struct Tryz.underlying57 h;obtain⟨d,w0,D,f⟩:=bp Tryz.underlying57 h 0 _ rfl cW (by kernel_rfl);obtain⟨g,w1,E,i⟩:=bp Tryz.underlying57 h 1 _ rfl cW (by kernel_rfl);obtain⟨k,l,F,n⟩:=bp Tryz.underlying57 h 2 _ rfl cW (by kernel_rfl);obtain⟨o,p,G,q⟩:=bp Tryz.underlying57 h 3 _ rfl cW (by kernel_rfl);obtain⟨r,u,H,y⟩:=bp Tryz.underlying57 h 4 _ rfl cW (by kernel_rfl);have b:=(cx f (cx i (cx n (cx q y))))
 exact⟨a.trans (by kernel_rfl),⟨d,g,k,o,r⟩,⟨w0,w1,l,p,u⟩,rfl,b.congr λj _=>by show c.getD j undef=c.getD (0+j) undef;rw[CE]⟩
end
end Go.Proofs.YtcblmfpcekokjaaGreat.Ab
